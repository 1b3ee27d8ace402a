/- Walks: the reports that must be false. Printed by my gen.py out of shoal/o.py. -/
import Derived.Test.YtgihgcclabodbaaSY
namespace Go.Proofs.Ytgihgcclabodbaa.DK
open Go Go.Proofs
set_option linter.unusedVariables false
set_option linter.unusedSimpArgs false

theorem rq_hr {s : Sea} {rs : List Rp} (hr : rpsB s rs = true) {k : Nat} (hk : k < rs.length) : 0 ≤ ((rqs s rs).getD k default).hr ∧ ((rqs s rs).getD k default).hr < s.hours := by
  have h := (rp_ok hr).2 k hk
  rw [rqs_at hk]
  show 0 ≤ (rs.getD k default).hr ∧ (rs.getD k default).hr < s.hours
  omega
set_option maxHeartbeats 4000000 in
set_option maxRecDepth 100000 in
theorem Liars_calls (s : Sea) (v : SV) (rs : List Rp) (p : Option Addr) (n c : Nat) (w0 : World) (hs : SeaR w0.heap.size w0 v s) (hx : Rd encRp 4 w0.heap.size w0 p n rs) :
    Calls Try.prog 26 #[.agg (sS6 s v), .slice p n c] w0 (fun e w' => ∃ p n c_, (liarR s rs).1.length = n ∧ e = .returned (.tuple #[.slice p n c_, iv (liarR s rs).2]) ∧ Own w0 none_ [rdR encI 1 p n (liarR s rs).1] w') := by
  have hl1 := hs.land.len; have hl2 := hs.drift.len; have hs1 := hs.land.size; have hs2 := hs.drift.size; have hr_ := hs.rg; unfold i64 at hr_; have hl3 := hx.len; have hs3 := hx.size
  refine calls_of_W Try.func26 rfl (by kernel_rfl) (args := [.agg (sS6 s v), .slice p n c]) fun a hF => ?_
  replace hF : Fr 74 [] [(0, .agg (sS6 s v)), (1, .slice p n c)] a := hF
  have hO : Own w0 none_ [] w0 := Own.start w0 _
  refine W_seq (region_seq ?_)
  refine op_box (i := 0) (t := 25) (v := .agg (sS6 s v)) (d := 2) hF hO (by kernel_rfl) fun a w b1 hF hO _ => ?_
  refine seq_quiet {} TBok hF (F' := [(1, .slice p n c), (2, pv b1), (4, .slice none 0 0), (5, iv 0)]) (rs := []) [1, 2] [] [1, 2, 4, 5] .nil (by kernel_rfl) fun a w hF hE => ?_
  replace hO := hO.ext hE; clear hE
  refine (W_scope' ?_)
  refine W_seq (region_seq ?_)
  refine seq_quiet {} TBok hF (F' := [(4, .slice none 0 0), (5, iv 0), (16, .agg (sS6 s v)), (17, .slice p n c)]) (rs := [.lds ⟨b1, 0, none⟩ (sL6 s v)]) [0, 1] [2, 3, 4, 5, 6, 7, 8] [4, 5, 16, 17] (.cons (ldso hO.st 0 rfl 0 rfl) <| .nil) (by kernel_rfl) fun a w hF hE => ?_
  replace hO := hO.ext hE; clear hE
  rcases Bool.eq_false_or_eq_true (chk s != 0) with hck | hck
  · have hc0 := chk_no hck; have her := err_no (rs := rs) hc0
    refine op_call (i := 2) (f := 47) (args := #[.agg (sS6 s v), .slice p n c]) (d := some 18) TBok (by kernel_rfl) hF (by kernel_rfl) (read_no s v rs p n c _ (hs.upM hO.kp nom (Nat.le_refl _)) hc0 (hx.upM hO.kp nom (Nat.le_refl _))) fun e w hR => ?_
    obtain ⟨he, hE⟩ := hR
    refine ⟨_, he, fun a hF => ?_⟩
    replace hO := hO.ext hE; clear hE he
    refine seq_quiet {} TBok hF (F' := [(4, .slice none 0 0), (5, iv 0), (19, .agg #[iv 0, iv 0, .slice none 0 0, iv 0, .slice none 0 0, iv 0, .map none, .slice none 0 0]), (20, iv 10)]) (rs := []) [3, 4, 5] [6, 7, 8] [4, 5, 19, 20] .nil (by kernel_rfl) fun a w hF hE => ?_
    replace hO := hO.ext hE; clear hE
    refine op_alloc (i := 6) (t := 80) (d := 6) (z := .agg #[iv 0, iv 0, .slice none 0 0, iv 0, .slice none 0 0, iv 0, .map none, .slice none 0 0]) hF hO (by kernel_rfl) (by kernel_rfl) fun a w b2 hF hO _ => ?_
    refine op_store (i := 7) (t := 80) (p := ⟨b2, 0, none⟩) (v := .agg #[iv 0, iv 0, .slice none 0 0, iv 0, .slice none 0 0, iv 0, .map none, .slice none 0 0]) (off := 0) (sz := 8) (cs' := #[iv 0, iv 0, .slice none 0 0, iv 0, .slice none 0 0, iv 0, .map none, .slice none 0 0]) hF hO (by kernel_rfl) 1 rfl rfl (by kernel_rfl) (by kernel_rfl) (by kernel_rfl) fun a w hF hO _ => ?_
    refine seq_quiet {} TBok hF (F' := [(4, .slice none 0 0), (5, iv 0), (6, pv b2), (7, iv 10)]) (rs := []) [8] [] [4, 5, 6, 7] .nil (by kernel_rfl) fun a w hF hE => ?_
    replace hO := hO.ext hE; clear hE
    refine W_seq ?_
    refine W_seq (region_q {} TBok hF (F' := [(4, .slice none 0 0), (5, iv 0), (6, pv b2), (7, iv 10), (22, .bool true)]) (rs := []) [4, 5, 6, 7, 22] .nil (by kernel_rfl) fun a w hF hE => ?_)
    replace hO := hO.ext hE; clear hE
    refine (W_true (evOp hF (by kernel_rfl)) ?_)
    refine W_seq (region_q {} TBok hF (F' := [(4, .slice none 0 0), (5, iv 10), (6, pv b2)]) (rs := []) [4, 5, 6] .nil (by kernel_rfl) fun a w hF hE => ?_)
    replace hO := hO.ext hE; clear hE
    refine W_ret ?_
    show bodyPostM (FW none) 0 _ _ _ Exit.ret a w
    have hres : liarR s rs = ([], 10) := by unfold liarR; rw [her, if_pos (by decide)]
    exact leave_r TBok hF (.nil _) (vs := [.slice none 0 0, iv 10]) (rs := []) .nil (by kernel_rfl) ⟨none, 0, 0, by rw [hres]; rfl, by rw [hres]; rfl, by rw [hres]; exact (hO.nilRd encI 1).sel [2] (by decide)⟩
  · have hv := chk_ok hck; have hv1 := sea_ok hv
    rcases Bool.eq_false_or_eq_true (rpsB s rs) with hr | hr
    · have her := err_ok hv hr; have hrp := rp_ok hr; have hrl := rqs_len (s := s) (rs := rs)
      refine op_call (i := 2) (f := 47) (args := #[.agg (sS6 s v), .slice p n c]) (d := some 18) TBok (by kernel_rfl) hF (by kernel_rfl) (read_ok s v rs p n c _ (hs.upM hO.kp nom (Nat.le_refl _)) hv (hx.upM hO.kp nom (Nat.le_refl _)) hr) fun e w hR => ?_
      obtain ⟨b3, p4, c5, he, hO2⟩ := hR
      refine ⟨_, he, fun a hF => ?_⟩
      replace hO := hO.joinE hO2; clear hO2 he
      refine seq_quiet {} TBok hF (F' := [(4, .slice none 0 0), (5, iv 0), (19, .agg (sS8 s v b3 p4 n c5)), (20, iv 0)]) (rs := []) [3, 4, 5] [6, 7, 8] [4, 5, 19, 20] .nil (by kernel_rfl) fun a w hF hE => ?_
      replace hO := hO.ext hE; clear hE
      refine op_alloc (i := 6) (t := 80) (d := 6) (z := .agg #[iv 0, iv 0, .slice none 0 0, iv 0, .slice none 0 0, iv 0, .map none, .slice none 0 0]) hF hO (by kernel_rfl) (by kernel_rfl) fun a w b6 hF hO _ => ?_
      refine op_store (i := 7) (t := 80) (p := ⟨b6, 0, none⟩) (v := .agg (sS8 s v b3 p4 n c5)) (off := 0) (sz := 8) (cs' := (sS8 s v b3 p4 n c5)) hF hO (by kernel_rfl) 3 rfl rfl (by kernel_rfl) (by kernel_rfl) (by kernel_rfl) fun a w hF hO _ => ?_
      replace hO : Own w0 none_ [cel b1 (sS6 s v) 25, mapT b3 (.bool false) Value.bool (landF s), rowR 105 6 (.slice p4 n c5) n ((rqs s rs).flatMap encRq), cel b6 (sS8 s v b3 p4 n c5) 80] w := hO
      refine seq_quiet {} TBok hF (F' := [(4, .slice none 0 0), (5, iv 0), (6, pv b6), (7, iv 0)]) (rs := []) [8] [] [4, 5, 6, 7] .nil (by kernel_rfl) fun a w hF hE => ?_
      replace hO := hO.ext hE; clear hE
      refine W_seq ?_
      refine W_seq (region_q {} TBok hF (F' := [(4, .slice none 0 0), (5, iv 0), (6, pv b6), (7, iv 0), (22, .bool false)]) (rs := []) [4, 5, 6, 7, 22] .nil (by kernel_rfl) fun a w hF hE => ?_)
      replace hO := hO.ext hE; clear hE
      refine (W_false (evOp hF (by kernel_rfl)) ?_)
      refine (W_skip ?_)
      refine W_seq (region_seq ?_)
      refine seq_quiet {} TBok hF (F' := [(4, .slice none 0 0), (5, iv 0), (6, pv b6), (25, .agg (sS8 s v b3 p4 n c5))]) (rs := [.lds ⟨b6, 0, none⟩ (sL8 s v b3 p4 n c5)]) [0] [1, 2, 3, 4, 5, 6, 7] [4, 5, 6, 25] (.cons (ldso hO.st 3 rfl 0 rfl) <| .nil) (by kernel_rfl) fun a w hF hE => ?_
      replace hO := hO.ext hE; clear hE
      refine op_call (i := 1) (f := 57) (args := #[.agg (sS8 s v b3 p4 n c5)]) (d := some 26) TBok (by kernel_rfl) hF (by kernel_rfl) (through_calls s v b3 p4 n c5 rs _ ⟨(hs.upM hO.kp nom (Nat.le_refl _)), MapRo.of hO 1 rfl, rd_row (fun _ => rfl) (by decide) hO 2 rfl (by omega)⟩ hv hr) fun e w hR => ?_
      obtain ⟨b7, b8, he, hO2⟩ := hR
      refine ⟨_, he, fun a hF => ?_⟩
      replace hO := hO.joinE hO2; clear hO2 he
      refine seq_quiet {} TBok hF (F' := [(4, .slice none 0 0), (5, iv 0), (6, pv b6), (27, .slice (some ⟨b7, 0, none⟩) (s.hours.toNat) (s.hours.toNat)), (28, .slice (some ⟨b8, 0, none⟩) (s.hours.toNat) (s.hours.toNat))]) (rs := []) [2, 3, 4] [5, 6, 7] [4, 5, 6, 27, 28] .nil (by kernel_rfl) fun a w hF hE => ?_
      replace hO := hO.ext hE; clear hE
      refine op_alloc (i := 5) (t := 92) (d := 8) (z := .slice none 0 0) hF hO (by kernel_rfl) (by kernel_rfl) fun a w b9 hF hO _ => ?_
      refine op_store (i := 6) (t := 92) (p := ⟨b9, 0, none⟩) (v := .slice (some ⟨b7, 0, none⟩) (s.hours.toNat) (s.hours.toNat)) (off := 0) (sz := 1) (cs' := #[.slice (some ⟨b7, 0, none⟩) (s.hours.toNat) (s.hours.toNat)]) hF hO (by kernel_rfl) 6 rfl rfl (by kernel_rfl) (by kernel_rfl) (by kernel_rfl) fun a w hF hO _ => ?_
      refine seq_quiet {} TBok hF (F' := [(4, .slice none 0 0), (5, iv 0), (6, pv b6), (8, pv b9)]) (rs := []) [7] [] [4, 5, 6, 8] .nil (by kernel_rfl) fun a w hF hE => ?_
      replace hO := hO.ext hE; clear hE
      refine W_seq (region_seq ?_)
      refine seq_quiet {} TBok hF (F' := [(4, .slice none 0 0), (5, iv 0), (6, pv b6), (8, pv b9), (30, iv (fewF (allR s rs s.hours.toNat) ((s.hours.toNat) - 1)))]) (rs := [.ld ⟨b9, 0, none⟩ (.slice (some ⟨b7, 0, none⟩) (s.hours.toNat) (s.hours.toNat)), .call 58 #[.slice (some ⟨b7, 0, none⟩) (s.hours.toNat) (s.hours.toNat)] (iv (fewF (allR s rs s.hours.toNat) ((s.hours.toNat) - 1)))]) [0, 1] [2, 3] [4, 5, 6, 8, 30] (.cons (ldo hO.st 6 rfl 0 rfl) <| .cons (fun w hE => fewest_calls b7 (s.hours.toNat) (allR s rs s.hours.toNat) w (Ro.of_ok (cs := (arrL ((s.hours.toNat) * 80) (flat (allR s rs s.hours.toNat)))) ((hO.st w hE).get 4 rfl)) (by omega) (by omega)) <| .nil) (by kernel_rfl) fun a w hF hE => ?_
      replace hO := hO.ext hE; clear hE
      refine op_alloc (i := 2) (t := 3) (d := 10) (z := iv 0) hF hO (by kernel_rfl) (by kernel_rfl) fun a w b10 hF hO _ => ?_
      replace hO : Own w0 none_ [cel b1 (sS6 s v) 25, mapT b3 (.bool false) Value.bool (landF s), rowR 105 6 (.slice p4 n c5) n ((rqs s rs).flatMap encRq), cel b6 (sS8 s v b3 p4 n c5) 80, cel b7 (arrL ((s.hours.toNat) * 80) (flat (allR s rs s.hours.toNat))).toArray 99, cel b8 (arrL ((s.hours.toNat) * 80) (flat (bwdR s rs s.hours.toNat))).toArray 99, cel b9 #[.slice (some ⟨b7, 0, none⟩) (s.hours.toNat) (s.hours.toNat)] 92, cel b10 #[iv 0] 3] w := hO
      refine op_store (i := 3) (t := 3) (p := ⟨b10, 0, none⟩) (v := iv (fewF (allR s rs s.hours.toNat) ((s.hours.toNat) - 1))) (off := 0) (sz := 1) (cs' := #[iv (fewF (allR s rs s.hours.toNat) ((s.hours.toNat) - 1))]) hF hO (by kernel_rfl) 7 rfl rfl (by kernel_rfl) (by kernel_rfl) (by kernel_rfl) fun a w hF hO _ => ?_
      replace hF := hF.sel [4, 5, 6, 8, 10]
      replace hF : Fr 74 [] [(4, .slice none 0 0), (5, iv 0), (6, pv b6), (8, pv b9), (10, pv b10)] a := hF
      refine W_seq ?_
      refine W_seq (region_q {} TBok hF (F' := [(4, .slice none 0 0), (5, iv 0), (6, pv b6), (8, pv b9), (10, pv b10), (32, .bool (decide ((fewF (allR s rs s.hours.toNat) ((s.hours.toNat) - 1)) ≥ 1048576)))]) (rs := [.ld ⟨b10, 0, none⟩ (iv (fewF (allR s rs s.hours.toNat) ((s.hours.toNat) - 1)))]) [4, 5, 6, 8, 10, 32] (.cons (ldo hO.st 7 rfl 0 rfl) <| .nil) (by kernel_rfl) fun a w hF hE => ?_)
      replace hO := hO.ext hE; clear hE
      rcases Bool.eq_false_or_eq_true (decide ((fewF (allR s rs s.hours.toNat) ((s.hours.toNat) - 1)) ≥ 1048576)) with hc11 | hc11
      · refine (W_true ((evOp hF (by kernel_rfl)).trans (congrArg Value.bool hc11)) ?_)
        have hmt : minT s rs ≥ 1048576 := of_decide_eq_true (by assumption : (decide ((fewF (allR s rs s.hours.toNat) ((s.hours.toNat) - 1)) ≥ 1048576)) = true)
        refine W_seq (region_q {} TBok hF (F' := [(4, .slice none 0 0), (5, iv 4), (6, pv b6), (8, pv b9), (10, pv b10)]) (rs := []) [4, 5, 6, 8, 10] .nil (by kernel_rfl) fun a w hF hE => ?_)
        replace hO := hO.ext hE; clear hE
        refine W_ret ?_
        show bodyPostM (FW none) 0 _ _ _ Exit.ret a w
        have hres : liarR s rs = ([], 4) := by unfold liarR; rw [if_neg (by omega), if_pos hmt]
        exact leave_r TBok hF (.nil _) (vs := [.slice none 0 0, iv 4]) (rs := []) .nil (by kernel_rfl) ⟨none, 0, 0, by rw [hres]; rfl, by rw [hres]; rfl, by rw [hres]; exact (hO.nilRd encI 1).sel [8] (by decide)⟩
      · refine (W_false ((evOp hF (by kernel_rfl)).trans (congrArg Value.bool hc11)) ?_)
        have hmt : ¬ minT s rs ≥ 1048576 := of_decide_eq_false (by assumption : (decide ((fewF (allR s rs s.hours.toNat) ((s.hours.toNat) - 1)) ≥ 1048576)) = false)
        refine (W_skip ?_)
        refine W_seq (region_q {} TBok hF (F' := [(4, .slice none 0 0), (5, iv 0), (6, pv b6), (8, pv b9), (10, pv b10), (11, .slice none 0 0)]) (rs := []) [4, 5, 6, 8, 10, 11] .nil (by kernel_rfl) fun a w hF hE => ?_)
        replace hO := hO.ext hE; clear hE
        refine W_seq (W_label ?_)
        refine W_seq ?_
        refine W_seq (region_q {} TBok hF (F' := [(4, .slice none 0 0), (5, iv 0), (6, pv b6), (8, pv b9), (10, pv b10), (11, .slice none 0 0), (34, .slice p4 n c5), (35, iv (n : Int)), (36, iv 0)]) (rs := [.ld ⟨b6, 7, none⟩ (.slice p4 n c5)]) [4, 5, 6, 8, 10, 11, 34, 35, 36] (.cons (ldo hO.st 3 rfl 7 rfl) <| .nil) (by kernel_rfl) fun a w hF hE => ?_)
        replace hO := hO.ext hE; clear hE
        refine (W_block ?_)
        replace hO := (hO.nilRow 3 1).dfs0
        refine (W_loop (fun m a w => ∃ (k : Nat), ∃ (Ds : List Nat), ∃ (p_ : Option Addr), ∃ (m_ : Nat), ∃ (c_ : Nat), m = n - k ∧ k ≤ n ∧ (liarK s rs k).length = m_ ∧ Fr 74 (Ds.map mk) [(4, .slice none 0 0), (5, iv 0), (6, pv b6), (8, pv b9), (10, pv b10), (11, .slice p_ m_ c_), (34, .slice p4 n c5), (35, iv (n : Int)), (36, iv (k : Int))] a ∧ Own w0 none_ [cel b1 (sS6 s v) 25, mapT b3 (.bool false) Value.bool (landF s), rowR 105 6 (.slice p4 n c5) n ((rqs s rs).flatMap encRq), cel b6 (sS8 s v b3 p4 n c5) 80, cel b7 (arrL ((s.hours.toNat) * 80) (flat (allR s rs s.hours.toNat))).toArray 99, cel b8 (arrL ((s.hours.toNat) * 80) (flat (bwdR s rs s.hours.toNat))).toArray 99, cel b9 #[.slice (some ⟨b7, 0, none⟩) (s.hours.toNat) (s.hours.toNat)] 92, cel b10 #[iv (fewF (allR s rs s.hours.toNat) ((s.hours.toNat) - 1))] 3, rowR 3 1 (.slice p_ m_ c_) m_ ((liarK s rs k).flatMap encI), dfs Ds] w) _ ⟨0, [], none, 0, 0, rfl, Nat.zero_le _, rfl, hF, hO⟩ ?_)
        clear hF hO
        rintro _ a w ⟨k, Ds, p_, m_, c_, rfl, hk, hln, hF, hO⟩
        have hlk := liarK_len s rs k
        refine W_seq (region_q {} TBok hF (F' := [(4, .slice none 0 0), (5, iv 0), (6, pv b6), (8, pv b9), (10, pv b10), (11, .slice p_ m_ c_), (34, .slice p4 n c5), (35, iv (n : Int)), (36, iv (k : Int)), (37, .bool (decide ((k : Int) < (n : Int))))]) (rs := []) [4, 5, 6, 8, 10, 11, 34, 35, 36, 37] .nil (by kernel_rfl) fun a w hF hE => ?_)
        replace hO := hO.ext hE; clear hE
        rcases Bool.eq_false_or_eq_true (decide ((k : Int) < (n : Int))) with hc12 | hc12
        · refine W_seq (W_true ((evOp hF (by kernel_rfl)).trans (congrArg Value.bool hc12)) ?_)
          have hc12_ := of_decide_eq_true hc12
          refine (W_skip ?_)
          refine W_seq (W_block ?_)
          refine W_seq (region_seq ?_)
          refine seq_quiet {} TBok hF (F' := [(4, .slice none 0 0), (5, iv 0), (6, pv b6), (8, pv b9), (10, pv b10), (11, .slice p_ m_ c_), (34, .slice p4 n c5), (35, iv (n : Int)), (36, iv (k : Int)), (38, iv (k : Int)), (40, .agg #[iv (((rqs s rs).getD k default).hr), iv (((rqs s rs).getD k default).cell), iv (((rqs s rs).getD k default).far), .bool (((rqs s rs).getD k default).th), iv (((rqs s rs).getD k default).c), iv (((rqs s rs).getD k default).r)])]) (rs := [.idx p4 n (k : Int) 6 (adr p4 6 (k : Int)), .lds (adr p4 6 (k : Int)) [iv (((rqs s rs).getD k default).hr), iv (((rqs s rs).getD k default).cell), iv (((rqs s rs).getD k default).far), .bool (((rqs s rs).getD k default).th), iv (((rqs s rs).getD k default).c), iv (((rqs s rs).getD k default).r)]]) [0, 1, 2] [3, 4, 5] [4, 5, 6, 8, 10, 11, 34, 35, 36, 38, 40] (.cons (ix (enc := encRq) (xs := (rqs s rs)) ((rd_row (fun _ => rfl) (by decide) hO 2 rfl (by omega))) (by omega) (by omega)) <| .cons (ldsR (enc := encRq) (xs := (rqs s rs)) (a := p4) (i := (k : Int)) (fun x_ hx_ => (rd_row (fun _ => rfl) (by decide) (hO.st x_ hx_) 2 rfl (by omega))) (by omega) (by omega) rfl) <| .nil) (by kernel_rfl) fun a w hF hE => ?_
          replace hO := hO.ext hE; clear hE
          refine op_alloc (i := 3) (t := 105) (d := 13) (z := .agg #[iv 0, iv 0, iv 0, .bool false, iv 0, iv 0]) hF hO (by kernel_rfl) (by kernel_rfl) fun a w b13 hF hO _ => ?_
          refine seq_quiet {} TBok hF (F' := [(4, .slice none 0 0), (5, iv 0), (6, pv b6), (8, pv b9), (10, pv b10), (11, .slice p_ m_ c_), (12, iv (k : Int)), (13, pv b13), (34, .slice p4 n c5), (35, iv (n : Int)), (36, iv (k : Int)), (40, .agg #[iv (((rqs s rs).getD k default).hr), iv (((rqs s rs).getD k default).cell), iv (((rqs s rs).getD k default).far), .bool (((rqs s rs).getD k default).th), iv (((rqs s rs).getD k default).c), iv (((rqs s rs).getD k default).r)])]) (rs := []) [4] [5] [4, 5, 6, 8, 10, 11, 12, 13, 34, 35, 36, 40] .nil (by kernel_rfl) fun a w hF hE => ?_
          replace hO := hO.ext hE; clear hE
          refine op_store (i := 5) (t := 105) (p := ⟨b13, 0, none⟩) (v := .agg #[iv (((rqs s rs).getD k default).hr), iv (((rqs s rs).getD k default).cell), iv (((rqs s rs).getD k default).far), .bool (((rqs s rs).getD k default).th), iv (((rqs s rs).getD k default).c), iv (((rqs s rs).getD k default).r)]) (off := 0) (sz := 6) (cs' := #[iv (((rqs s rs).getD k default).hr), iv (((rqs s rs).getD k default).cell), iv (((rqs s rs).getD k default).far), .bool (((rqs s rs).getD k default).th), iv (((rqs s rs).getD k default).c), iv (((rqs s rs).getD k default).r)]) hF hO (by kernel_rfl) 10 rfl rfl (by kernel_rfl) (by kernel_rfl) (by kernel_rfl) fun a w hF hO _ => ?_
          replace hO : Own w0 none_ [cel b1 (sS6 s v) 25, mapT b3 (.bool false) Value.bool (landF s), rowR 105 6 (.slice p4 n c5) n ((rqs s rs).flatMap encRq), cel b6 (sS8 s v b3 p4 n c5) 80, cel b7 (arrL ((s.hours.toNat) * 80) (flat (allR s rs s.hours.toNat))).toArray 99, cel b8 (arrL ((s.hours.toNat) * 80) (flat (bwdR s rs s.hours.toNat))).toArray 99, cel b9 #[.slice (some ⟨b7, 0, none⟩) (s.hours.toNat) (s.hours.toNat)] 92, cel b10 #[iv (fewF (allR s rs s.hours.toNat) ((s.hours.toNat) - 1))] 3, rowR 3 1 (.slice p_ m_ c_) m_ ((liarK s rs k).flatMap encI), dfs Ds, cel b13 #[iv (((rqs s rs).getD k default).hr), iv (((rqs s rs).getD k default).cell), iv (((rqs s rs).getD k default).far), .bool (((rqs s rs).getD k default).th), iv (((rqs s rs).getD k default).c), iv (((rqs s rs).getD k default).r)] 105] w := hO
          replace hF := hF.sel [4, 5, 6, 8, 10, 11, 12, 13, 34, 35, 36]
          replace hF : Fr 74 (Ds.map mk) [(4, .slice none 0 0), (5, iv 0), (6, pv b6), (8, pv b9), (10, pv b10), (11, .slice p_ m_ c_), (12, iv (k : Int)), (13, pv b13), (34, .slice p4 n c5), (35, iv (n : Int)), (36, iv (k : Int))] a := hF
          refine W_seq ?_
          refine W_seq (region_seq ?_)
          refine seq_quiet {} TBok hF (F' := [(4, .slice none 0 0), (5, iv 0), (6, pv b6), (8, pv b9), (10, pv b10), (11, .slice p_ m_ c_), (12, iv (k : Int)), (13, pv b13), (34, .slice p4 n c5), (35, iv (n : Int)), (36, iv (k : Int)), (42, .agg (sS7 s v b3))]) (rs := [.lds ⟨b6, 0, none⟩ (sL7 s v b3)]) [0, 1] [2] [4, 5, 6, 8, 10, 11, 12, 13, 34, 35, 36, 42] (.cons (ldso hO.st 3 rfl 0 rfl) <| .nil) (by kernel_rfl) fun a w hF hE => ?_
          replace hO := hO.ext hE; clear hE
          refine op_call (i := 2) (f := 59) (args := #[.agg (sS7 s v b3)]) (d := some 43) TBok (by kernel_rfl) hF (by kernel_rfl) (cells_calls s v b3 _) fun e w hR => ?_
          obtain ⟨b14, he, hO2⟩ := hR
          refine ⟨_, he, fun a hF => ?_⟩
          replace hO := hO.joinE hO2; clear hO2 he
          replace hF := hF.sel [4, 5, 6, 8, 10, 11, 12, 13, 34, 35, 36, 43]
          replace hF : Fr 74 (Ds.map mk) [(4, .slice none 0 0), (5, iv 0), (6, pv b6), (8, pv b9), (10, pv b10), (11, .slice p_ m_ c_), (12, iv (k : Int)), (13, pv b13), (34, .slice p4 n c5), (35, iv (n : Int)), (36, iv (k : Int)), (43, .func (.func 84) #[] #[pv b14])] a := hF
          refine (W_block ?_)
          refine W_rangeX 1 (t := 44) (f := 84) (fst := #[]) (cap := #[pv b14]) TBok hF hO (by kernel_rfl) (by kernel_rfl) fun fn w D15 lr16 hlr hO hE => ?_
          clear hE; have hFo := hF
          refine (cells_run s v b3 b14 (D15 + 1) (fun r w => r.any (fun c => freeB s rs c ((rqs s rs).getD k default)) = ((cellsA s 0).any (fun c => freeB s rs c ((rqs s rs).getD k default))) ∧ (∀ y ∈ r, y ∈ cellsA s 0) ∧ Own w0 none_ [cel b1 (sS6 s v) 25, mapT b3 (.bool false) Value.bool (landF s), rowR 105 6 (.slice p4 n c5) n ((rqs s rs).flatMap encRq), cel b6 (sS8 s v b3 p4 n c5) 80, cel b7 (arrL ((s.hours.toNat) * 80) (flat (allR s rs s.hours.toNat))).toArray 99, cel b8 (arrL ((s.hours.toNat) * 80) (flat (bwdR s rs s.hours.toNat))).toArray 99, cel b9 #[.slice (some ⟨b7, 0, none⟩) (s.hours.toNat) (s.hours.toNat)] 92, cel b10 #[iv (fewF (allR s rs s.hours.toNat) ((s.hours.toNat) - 1))] 3, rowR 3 1 (.slice p_ m_ c_) m_ ((liarK s rs k).flatMap encI), dfs Ds, cel b13 #[iv (((rqs s rs).getD k default).hr), iv (((rqs s rs).getD k default).cell), iv (((rqs s rs).getD k default).far), .bool (((rqs s rs).getD k default).th), iv (((rqs s rs).getD k default).c), iv (((rqs s rs).getD k default).r)] 105, cel b14 (sS7 s v b3) 77, pt D15 (.deferred (some [])), pt (D15 + 1) (.loop lr16)] w) (fun w => ((cellsA s 0).any (fun c => freeB s rs c ((rqs s rs).getD k default))) = true ∧ Own w0 none_ [cel b1 (sS6 s v) 25, mapT b3 (.bool false) Value.bool (landF s), rowR 105 6 (.slice p4 n c5) n ((rqs s rs).flatMap encRq), cel b6 (sS8 s v b3 p4 n c5) 80, cel b7 (arrL ((s.hours.toNat) * 80) (flat (allR s rs s.hours.toNat))).toArray 99, cel b8 (arrL ((s.hours.toNat) * 80) (flat (bwdR s rs s.hours.toNat))).toArray 99, cel b9 #[.slice (some ⟨b7, 0, none⟩) (s.hours.toNat) (s.hours.toNat)] 92, cel b10 #[iv (fewF (allR s rs s.hours.toNat) ((s.hours.toNat) - 1))] 3, rowR 3 1 (.slice p_ m_ c_) m_ ((liarK s rs k).flatMap encI), dfs Ds, cel b13 #[iv (((rqs s rs).getD k default).hr), iv (((rqs s rs).getD k default).cell), iv (((rqs s rs).getD k default).far), .bool (((rqs s rs).getD k default).th), iv (((rqs s rs).getD k default).c), iv (((rqs s rs).getD k default).r)] 105, cel b14 (sS7 s v b3) 77, pt D15 (.deferred (some [])), pt (D15 + 1) (.loop { lr16 with state := .done, pending := some (.exit 1) })] w) w hv ?_ ?_ ?_ ?_ ?_).mono ?_
          · rintro r w w2 ⟨hany, hmem, hO⟩ hE; exact ⟨hany, hmem, hO.ext hE⟩
          · rintro w w2 ⟨hany, hO⟩ hE; exact ⟨hany, hO.ext hE⟩
          · rintro r w ⟨hany, hmem, hO⟩
            exact ⟨Ro.of_ok (cs := (sL7 s v b3)) (hO.get 11 rfl), MapRo.of hO 1 rfl⟩
          · clear hO
            rintro x17 r w ⟨hany, hmem, hO⟩
            have hl1_ : w.heap[D15 + 1]? = some (.loop lr16) := hO.get 13 rfl
            rw [hlr] at hl1_
            refine yields_ofR hl1_ fun Rr hRr => ?_
            clear hl1_
            have hF := hFo.round (t := 44) (by kernel_rfl) (iv x17)
            replace hF : Fr 74 [] [(4, .slice none 0 0), (5, iv 0), (6, pv b6), (8, pv b9), (10, pv b10), (11, .slice p_ m_ c_), (12, iv (k : Int)), (13, pv b13), (34, .slice p4 n c5), (35, iv (n : Int)), (36, iv (k : Int)), (43, .func (.func 84) #[] #[pv b14]), (44, iv x17)] _ := hF.sel [4, 5, 6, 8, 10, 11, 12, 13, 34, 35, 36, 43, 44]
            have hxm := mem_cellsA (hmem _ (List.mem_cons_self ..))
            have hqk := rq_hr (s := s) hr (k := k) (by omega)
            refine (region_q {} TBok hF (F' := [(4, .slice none 0 0), (5, iv 0), (6, pv b6), (8, pv b9), (10, pv b10), (11, .slice p_ m_ c_), (12, iv (k : Int)), (13, pv b13), (14, iv x17), (34, .slice p4 n c5), (35, iv (n : Int)), (36, iv (k : Int)), (43, .func (.func 84) #[] #[pv b14])]) (rs := []) [4, 5, 6, 8, 10, 11, 12, 13, 14, 34, 35, 36, 43] .nil (by kernel_rfl) fun a w hF hE => ?_)
            replace hO := hO.ext hE; clear hE
            obtain ⟨w, hb, hO⟩ := begin_round (P := Try.prog) hO 13 rfl (by rw [hlr]; rfl)
            refine ⟨rfl, w, hb, ?_⟩
            clear hb
            refine (W_block ?_)
            refine W_seq (region_d { sy := [10] } mixed TBok hF (F' := [(4, .slice none 0 0), (5, iv 0), (6, pv b6), (8, pv b9), (10, pv b10), (11, .slice p_ m_ c_), (12, iv (k : Int)), (13, pv b13), (34, .slice p4 n c5), (35, iv (n : Int)), (36, iv (k : Int)), (43, .func (.func 84) #[] #[pv b14]), (62, .bool (cond (((allR s rs s.hours.toNat) (((rqs s rs).getD k default).hr).toNat x17.toNat) == (fewF (allR s rs s.hours.toNat) ((s.hours.toNat) - 1))) (trueB ((rqs s rs).getD k default) (pl s x17)) false))]) (rs := [.ld ⟨b9, 0, none⟩ (.slice (some ⟨b7, 0, none⟩) (s.hours.toNat) (s.hours.toNat)), .ld ⟨b13, 0, none⟩ (iv (((rqs s rs).getD k default).hr)), .idx (some ⟨b7, 0, none⟩) (s.hours.toNat) (((rqs s rs).getD k default).hr) 80 ((⟨b7, 0, none⟩ : Addr).add ((((rqs s rs).getD k default).hr).toNat * 80)), .idx (some ((⟨b7, 0, none⟩ : Addr).add ((((rqs s rs).getD k default).hr).toNat * 80))) 80 x17 1 (((⟨b7, 0, none⟩ : Addr).add ((((rqs s rs).getD k default).hr).toNat * 80)).add (x17.toNat * 1)), .ld (((⟨b7, 0, none⟩ : Addr).add ((((rqs s rs).getD k default).hr).toNat * 80)).add (x17.toNat * 1)) (iv ((allR s rs s.hours.toNat) (((rqs s rs).getD k default).hr).toNat x17.toNat)), .ld ⟨b10, 0, none⟩ (iv (fewF (allR s rs s.hours.toNat) ((s.hours.toNat) - 1))), .und (((allR s rs s.hours.toNat) (((rqs s rs).getD k default).hr).toNat x17.toNat) == (fewF (allR s rs s.hours.toNat) ((s.hours.toNat) - 1))) (.lds ⟨b13, 0, none⟩ [iv (((rqs s rs).getD k default).hr), iv (((rqs s rs).getD k default).cell), iv (((rqs s rs).getD k default).far), .bool (((rqs s rs).getD k default).th), iv (((rqs s rs).getD k default).c), iv (((rqs s rs).getD k default).r)]), .und (((allR s rs s.hours.toNat) (((rqs s rs).getD k default).hr).toNat x17.toNat) == (fewF (allR s rs s.hours.toNat) ((s.hours.toNat) - 1))) (.lds ⟨b6, 0, none⟩ (sL7 s v b3)), .und (((allR s rs s.hours.toNat) (((rqs s rs).getD k default).hr).toNat x17.toNat) == (fewF (allR s rs s.hours.toNat) ((s.hours.toNat) - 1))) (.call 50 #[.agg (sS7 s v b3), iv x17] (.agg #[iv ((pl s x17).1), iv ((pl s x17).2)])), .und (((allR s rs s.hours.toNat) (((rqs s rs).getD k default).hr).toNat x17.toNat) == (fewF (allR s rs s.hours.toNat) ((s.hours.toNat) - 1))) (.call 65 #[.agg #[iv (((rqs s rs).getD k default).hr), iv (((rqs s rs).getD k default).cell), iv (((rqs s rs).getD k default).far), .bool (((rqs s rs).getD k default).th), iv (((rqs s rs).getD k default).c), iv (((rqs s rs).getD k default).r)], .agg #[iv ((pl s x17).1), iv ((pl s x17).2)]] (.bool (trueB ((rqs s rs).getD k default) (pl s x17))))]) [4, 5, 6, 8, 10, 11, 12, 13, 34, 35, 36, 43, 62] (.cons (ldo hO.st 6 rfl 0 rfl) <| .cons (ldo hO.st 10 rfl 0 rfl) <| .cons (ixa (by omega) (by omega)) <| .cons (ixa (by omega) (by omega)) <| .cons (ldM (G := (allR s rs s.hours.toNat)) (h := ((rqs s rs).getD k default).hr) (c := x17) hO.st 4 rfl (by omega) (by omega) (by omega) (by omega)) <| .cons (ldo hO.st 7 rfl 0 rfl) <| .cons (fun hg => (ldso hO.st 10 rfl 0 rfl)) <| .cons (fun hg => (ldso hO.st 3 rfl 0 rfl)) <| .cons (fun hg => (fun w _ => place_calls s v b3 x17 w hv (by omega))) <| .cons (fun hg => (fun w hE => isTrue_calls ((rqs s rs).getD k default) (pl s x17) w (rq_plB hv hr (by omega)) (pl_plB (by omega) (by omega) (by omega) (by omega)))) <| .nil) (by kernel_rfl) (by kernel_rfl) fun a w hF hE => ?_)
            replace hO := hO.ext hE; clear hE
            rcases Bool.eq_false_or_eq_true (cond (((allR s rs s.hours.toNat) (((rqs s rs).getD k default).hr).toNat x17.toNat) == (fewF (allR s rs s.hours.toNat) ((s.hours.toNat) - 1))) (trueB ((rqs s rs).getD k default) (pl s x17)) false) with hc18 | hc18
            · refine (W_true ((evOp hF (by kernel_rfl)).trans (congrArg Value.bool hc18)) ?_)
              refine (W_exit ?_)
              show roundPost Try.prog (D15 + 1) (fun e w => ∃ b, e = .returned (.bool b) ∧ Rr b w) (Exit.exit 1) a w
              have hft : freeB s rs x17 ((rqs s rs).getD k default) = true := hc18
              obtain ⟨w, he, hO⟩ := end_round (P := Try.prog) (some (.exit 1)) hO 13 rfl
              refine round_exit he ?_
              rw [List.any_cons, hft, Bool.true_or] at hany
              rw [hRr]
              exact ⟨hany.symm, hO⟩
            · refine (W_false ((evOp hF (by kernel_rfl)).trans (congrArg Value.bool hc18)) ?_)
              refine (W_skip ?_)
              show roundPost Try.prog (D15 + 1) (fun e w => ∃ b, e = .returned (.bool b) ∧ Rr b w) (Exit.normal) a w
              have hft : freeB s rs x17 ((rqs s rs).getD k default) = false := hc18
              obtain ⟨w, he, hO⟩ := end_round (P := Try.prog) none hO 13 rfl
              refine round_next he ?_
              rw [List.any_cons, hft, Bool.false_or] at hany
              rw [hRr]
              exact ⟨hany, fun y hy => hmem y (List.mem_cons_of_mem _ hy), hO.cast (by rw [hlr]; rfl)⟩
          · exact ⟨rfl, fun y hy => hy, hO⟩
          clear hO
          rintro e w ⟨he, hJ | hS⟩
          · obtain ⟨hany, hmem, hO⟩ := hJ
            subst he
            refine ⟨_, rfl, lr16, hO.get 13 rfl, by rw [hlr]; simp [loopR], .inl ⟨by rw [hlr]; rfl, fun a hF => ?_⟩⟩
            replace hO := hO.put 13 rfl (.loop { lr16 with state := .exhausted })
            generalize w.putObj (D15 + 1) (.loop { lr16 with state := .exhausted }) = w at hO ⊢
            replace hO := hO.drop1 13
            replace hany : ((cellsA s 0).any (fun c => freeB s rs c ((rqs s rs).getD k default))) = false := hany.symm
            replace hO := hO.absorb 9 12 rfl rfl (by decide)
            replace hO : Own w0 none_ [cel b1 (sS6 s v) 25, mapT b3 (.bool false) Value.bool (landF s), rowR 105 6 (.slice p4 n c5) n ((rqs s rs).flatMap encRq), cel b6 (sS8 s v b3 p4 n c5) 80, cel b7 (arrL ((s.hours.toNat) * 80) (flat (allR s rs s.hours.toNat))).toArray 99, cel b8 (arrL ((s.hours.toNat) * 80) (flat (bwdR s rs s.hours.toNat))).toArray 99, cel b9 #[.slice (some ⟨b7, 0, none⟩) (s.hours.toNat) (s.hours.toNat)] 92, cel b10 #[iv (fewF (allR s rs s.hours.toNat) ((s.hours.toNat) - 1))] 3, rowR 3 1 (.slice p_ m_ c_) m_ ((liarK s rs k).flatMap encI), dfs (D15 :: Ds), cel b13 #[iv (((rqs s rs).getD k default).hr), iv (((rqs s rs).getD k default).cell), iv (((rqs s rs).getD k default).far), .bool (((rqs s rs).getD k default).th), iv (((rqs s rs).getD k default).c), iv (((rqs s rs).getD k default).r)] 105, cel b14 (sS7 s v b3) 77] w := hO
            replace hF : Fr 74 ((D15 :: Ds).map mk) [(4, .slice none 0 0), (5, iv 0), (6, pv b6), (8, pv b9), (10, pv b10), (11, .slice p_ m_ c_), (12, iv (k : Int)), (13, pv b13), (34, .slice p4 n c5), (35, iv (n : Int)), (36, iv (k : Int)), (43, .func (.func 84) #[] #[pv b14])] a := hF
            refine (region_seq ?_)
            refine seq_quiet {} TBok hF (F' := [(4, .slice none 0 0), (5, iv 0), (6, pv b6), (8, pv b9), (10, pv b10), (11, .slice p_ m_ c_), (34, .slice p4 n c5), (35, iv (n : Int)), (36, iv (k : Int)), (63, .slice p_ m_ c_), (64, iv (k : Int))]) (rs := []) [0, 1] [2, 3, 4] [4, 5, 6, 8, 10, 11, 34, 35, 36, 63, 64] .nil (by kernel_rfl) fun a w hF hE => ?_
            replace hO := hO.ext hE; clear hE
            refine op_bsl (i := 2) (t := 22) (e := 3) (len := 1) (ps := [(0, iv (k : Int))]) (d := 65) (sz := 1) (cs := #[iv (k : Int)]) (z := iv 0) hF hO (by kernel_rfl) (by kernel_rfl) (by kernel_rfl) (by kernel_rfl) (by kernel_rfl) fun a w b19 hF hO _ => ?_
            refine op_appR (i := 3) (t := 22) (ty := 22) (e := 3) (d := 66) rowT22 hF hO (by kernel_rfl) 8 rfl 12 rfl (by kernel_rfl) (by omega) fun a w p20 c21 hF hO hx => ?_
            clear hx
            refine seq_quiet {} TBok hF (F' := [(4, .slice none 0 0), (5, iv 0), (6, pv b6), (8, pv b9), (10, pv b10), (11, .slice p20 (m_ + 1) c21), (34, .slice p4 n c5), (35, iv (n : Int)), (36, iv (k : Int))]) (rs := []) [4] [] [4, 5, 6, 8, 10, 11, 34, 35, 36] .nil (by kernel_rfl) fun a w hF hE => ?_
            replace hO := hO.ext hE; clear hE
            refine (region_q {} TBok hF (F' := [(4, .slice none 0 0), (5, iv 0), (6, pv b6), (8, pv b9), (10, pv b10), (11, .slice p20 (m_ + 1) c21), (34, .slice p4 n c5), (35, iv (n : Int)), (36, iv ((k : Int) + 1))]) (rs := [.rng ((k : Int) + 1)]) [4, 5, 6, 8, 10, 11, 34, 35, 36] (.cons (rg (by omega)) <| .nil) (by kernel_rfl) fun a w hF hE => ?_)
            replace hO := hO.ext hE; clear hE
            replace hO := hO.drop1 12
            replace hO := hO.drop1 11
            replace hO := hO.drop1 10
            replace hO : Own w0 none_ [cel b1 (sS6 s v) 25, mapT b3 (.bool false) Value.bool (landF s), rowR 105 6 (.slice p4 n c5) n ((rqs s rs).flatMap encRq), cel b6 (sS8 s v b3 p4 n c5) 80, cel b7 (arrL ((s.hours.toNat) * 80) (flat (allR s rs s.hours.toNat))).toArray 99, cel b8 (arrL ((s.hours.toNat) * 80) (flat (bwdR s rs s.hours.toNat))).toArray 99, cel b9 #[.slice (some ⟨b7, 0, none⟩) (s.hours.toNat) (s.hours.toNat)] 92, cel b10 #[iv (fewF (allR s rs s.hours.toNat) ((s.hours.toNat) - 1))] 3, rowR 3 1 (.slice p20 (m_ + 1) c21) (m_ + 1) (((liarK s rs k).flatMap encI) ++ (#[iv (k : Int)] : Array Value).toList), dfs (D15 :: Ds)] w := hO
            replace hO : Own w0 none_ [cel b1 (sS6 s v) 25, mapT b3 (.bool false) Value.bool (landF s), rowR 105 6 (.slice p4 n c5) n ((rqs s rs).flatMap encRq), cel b6 (sS8 s v b3 p4 n c5) 80, cel b7 (arrL ((s.hours.toNat) * 80) (flat (allR s rs s.hours.toNat))).toArray 99, cel b8 (arrL ((s.hours.toNat) * 80) (flat (bwdR s rs s.hours.toNat))).toArray 99, cel b9 #[.slice (some ⟨b7, 0, none⟩) (s.hours.toNat) (s.hours.toNat)] 92, cel b10 #[iv (fewF (allR s rs s.hours.toNat) ((s.hours.toNat) - 1))] 3, rowR 3 1 (.slice p20 (m_ + 1) c21) (m_ + 1) ((liarK s rs (k + 1)).flatMap encI), dfs (D15 :: Ds)] w := hO.cast (by rw [liarK, hany, cond_false, List.flatMap_append] <;> rfl)
            exact ⟨_, by omega, k + 1, D15 :: Ds, p20, (m_ + 1), c21, rfl, by omega, by rw [liarK, hany, cond_false]; rw [List.length_append, hln]; rfl, hF, hO⟩
          · obtain ⟨hany, hO⟩ := hS
            subst he
            refine ⟨_, rfl, { lr16 with state := .done, pending := some (.exit 1) }, hO.get 13 rfl, by rw [hlr]; simp [loopR], .inr ⟨rfl, fun a hF => ?_⟩⟩
            replace hO := hO.put 13 rfl (.loop { { lr16 with state := .done, pending := some (.exit 1) } with state := .exhausted })
            generalize w.putObj (D15 + 1) (.loop { { lr16 with state := .done, pending := some (.exit 1) } with state := .exhausted }) = w at hO ⊢
            replace hO := hO.drop1 13
            replace hO := hO.absorb 9 12 rfl rfl (by decide)
            replace hO : Own w0 none_ [cel b1 (sS6 s v) 25, mapT b3 (.bool false) Value.bool (landF s), rowR 105 6 (.slice p4 n c5) n ((rqs s rs).flatMap encRq), cel b6 (sS8 s v b3 p4 n c5) 80, cel b7 (arrL ((s.hours.toNat) * 80) (flat (allR s rs s.hours.toNat))).toArray 99, cel b8 (arrL ((s.hours.toNat) * 80) (flat (bwdR s rs s.hours.toNat))).toArray 99, cel b9 #[.slice (some ⟨b7, 0, none⟩) (s.hours.toNat) (s.hours.toNat)] 92, cel b10 #[iv (fewF (allR s rs s.hours.toNat) ((s.hours.toNat) - 1))] 3, rowR 3 1 (.slice p_ m_ c_) m_ ((liarK s rs k).flatMap encI), dfs (D15 :: Ds), cel b13 #[iv (((rqs s rs).getD k default).hr), iv (((rqs s rs).getD k default).cell), iv (((rqs s rs).getD k default).far), .bool (((rqs s rs).getD k default).th), iv (((rqs s rs).getD k default).c), iv (((rqs s rs).getD k default).r)] 105, cel b14 (sS7 s v b3) 77] w := hO
            replace hF : Fr 74 ((D15 :: Ds).map mk) [(4, .slice none 0 0), (5, iv 0), (6, pv b6), (8, pv b9), (10, pv b10), (11, .slice p_ m_ c_), (12, iv (k : Int)), (13, pv b13), (34, .slice p4 n c5), (35, iv (n : Int)), (36, iv (k : Int)), (43, .func (.func 84) #[] #[pv b14])] a := hF
            refine (region_q {} TBok hF (F' := [(4, .slice none 0 0), (5, iv 0), (6, pv b6), (8, pv b9), (10, pv b10), (11, .slice p_ m_ c_), (34, .slice p4 n c5), (35, iv (n : Int)), (36, iv ((k : Int) + 1))]) (rs := [.rng ((k : Int) + 1)]) [4, 5, 6, 8, 10, 11, 34, 35, 36] (.cons (rg (by omega)) <| .nil) (by kernel_rfl) fun a w hF hE => ?_)
            replace hO := hO.ext hE; clear hE
            replace hO := hO.drop1 11
            replace hO := hO.drop1 10
            replace hO : Own w0 none_ [cel b1 (sS6 s v) 25, mapT b3 (.bool false) Value.bool (landF s), rowR 105 6 (.slice p4 n c5) n ((rqs s rs).flatMap encRq), cel b6 (sS8 s v b3 p4 n c5) 80, cel b7 (arrL ((s.hours.toNat) * 80) (flat (allR s rs s.hours.toNat))).toArray 99, cel b8 (arrL ((s.hours.toNat) * 80) (flat (bwdR s rs s.hours.toNat))).toArray 99, cel b9 #[.slice (some ⟨b7, 0, none⟩) (s.hours.toNat) (s.hours.toNat)] 92, cel b10 #[iv (fewF (allR s rs s.hours.toNat) ((s.hours.toNat) - 1))] 3, rowR 3 1 (.slice p_ m_ c_) m_ ((liarK s rs k).flatMap encI), dfs (D15 :: Ds)] w := hO
            replace hO : Own w0 none_ [cel b1 (sS6 s v) 25, mapT b3 (.bool false) Value.bool (landF s), rowR 105 6 (.slice p4 n c5) n ((rqs s rs).flatMap encRq), cel b6 (sS8 s v b3 p4 n c5) 80, cel b7 (arrL ((s.hours.toNat) * 80) (flat (allR s rs s.hours.toNat))).toArray 99, cel b8 (arrL ((s.hours.toNat) * 80) (flat (bwdR s rs s.hours.toNat))).toArray 99, cel b9 #[.slice (some ⟨b7, 0, none⟩) (s.hours.toNat) (s.hours.toNat)] 92, cel b10 #[iv (fewF (allR s rs s.hours.toNat) ((s.hours.toNat) - 1))] 3, rowR 3 1 (.slice p_ m_ c_) m_ ((liarK s rs (k + 1)).flatMap encI), dfs (D15 :: Ds)] w := hO.cast (by rw [liarK, hany, cond_true])
            exact ⟨_, by omega, k + 1, D15 :: Ds, p_, m_, c_, rfl, by omega, by rw [liarK, hany, cond_true]; exact hln, hF, hO⟩
        · refine W_seq (W_false ((evOp hF (by kernel_rfl)).trans (congrArg Value.bool hc12)) ?_)
          have hc12_ := of_decide_eq_false hc12
          refine (W_exit ?_)
          refine W_seq (region_q { md := [(5, 3)] } TBok hF (F' := [(4, .slice p_ m_ m_), (5, iv 0)]) (rs := [.raw (Instr.sliceAt 22 (.slice p_ m_ c_) none (some (iv (m_ : Int))) (some (iv (m_ : Int)))) (.slice p_ m_ m_)]) [4, 5] (.cons (raw_sliceCap rowT22 (row_cap hO 8 rfl).1) <| .nil) (by kernel_rfl) fun a w hF hE => ?_)
          replace hO := hO.ext hE; clear hE
          refine W_ret ?_
          show bodyPostM (FW none) 0 _ _ _ Exit.ret a w
          obtain ⟨w, hs, hO⟩ := shuts _ hO 9 rfl
          have hkk : k = rs.length := by omega
          replace hO := hO.row_rd (enc := encI) (fun _ => rfl) (by decide) 8 rfl (by omega)
          replace hO : Own w0 none_ [cel b1 (sS6 s v) 25, mapT b3 (.bool false) Value.bool (landF s), rowR 105 6 (.slice p4 n c5) n ((rqs s rs).flatMap encRq), cel b6 (sS8 s v b3 p4 n c5) 80, cel b7 (arrL ((s.hours.toNat) * 80) (flat (allR s rs s.hours.toNat))).toArray 99, cel b8 (arrL ((s.hours.toNat) * 80) (flat (bwdR s rs s.hours.toNat))).toArray 99, cel b9 #[.slice (some ⟨b7, 0, none⟩) (s.hours.toNat) (s.hours.toNat)] 92, cel b10 #[iv (fewF (allR s rs s.hours.toNat) ((s.hours.toNat) - 1))] 3, rdR encI 1 p_ m_ (liarK s rs k), dfs []] w := hO
          have hres : liarR s rs = (liarK s rs k, 0) := by unfold liarR; rw [if_neg (by omega), if_neg hmt, hkk]
          exact leave_r TBok hF hs (vs := [.slice p_ m_ m_, iv 0]) (rs := []) .nil (by kernel_rfl) ⟨p_, m_, m_, by rw [hres]; exact hln, by rw [hres]; rfl, by rw [hres]; exact hO.sel [8] (by decide)⟩
    · have her := err_rep hv hr
      refine op_call (i := 2) (f := 47) (args := #[.agg (sS6 s v), .slice p n c]) (d := some 18) TBok (by kernel_rfl) hF (by kernel_rfl) (read_rep s v rs p n c _ (hs.upM hO.kp nom (Nat.le_refl _)) hv (hx.upM hO.kp nom (Nat.le_refl _)) hr) fun e w hR => ?_
      obtain ⟨he, hE⟩ := hR
      refine ⟨_, he, fun a hF => ?_⟩
      replace hO := hO.ext hE; clear hE he
      refine seq_quiet {} TBok hF (F' := [(4, .slice none 0 0), (5, iv 0), (19, .agg #[iv 0, iv 0, .slice none 0 0, iv 0, .slice none 0 0, iv 0, .map none, .slice none 0 0]), (20, iv 11)]) (rs := []) [3, 4, 5] [6, 7, 8] [4, 5, 19, 20] .nil (by kernel_rfl) fun a w hF hE => ?_
      replace hO := hO.ext hE; clear hE
      refine op_alloc (i := 6) (t := 80) (d := 6) (z := .agg #[iv 0, iv 0, .slice none 0 0, iv 0, .slice none 0 0, iv 0, .map none, .slice none 0 0]) hF hO (by kernel_rfl) (by kernel_rfl) fun a w b22 hF hO _ => ?_
      refine op_store (i := 7) (t := 80) (p := ⟨b22, 0, none⟩) (v := .agg #[iv 0, iv 0, .slice none 0 0, iv 0, .slice none 0 0, iv 0, .map none, .slice none 0 0]) (off := 0) (sz := 8) (cs' := #[iv 0, iv 0, .slice none 0 0, iv 0, .slice none 0 0, iv 0, .map none, .slice none 0 0]) hF hO (by kernel_rfl) 1 rfl rfl (by kernel_rfl) (by kernel_rfl) (by kernel_rfl) fun a w hF hO _ => ?_
      refine seq_quiet {} TBok hF (F' := [(4, .slice none 0 0), (5, iv 0), (6, pv b22), (7, iv 11)]) (rs := []) [8] [] [4, 5, 6, 7] .nil (by kernel_rfl) fun a w hF hE => ?_
      replace hO := hO.ext hE; clear hE
      refine W_seq ?_
      refine W_seq (region_q {} TBok hF (F' := [(4, .slice none 0 0), (5, iv 0), (6, pv b22), (7, iv 11), (22, .bool true)]) (rs := []) [4, 5, 6, 7, 22] .nil (by kernel_rfl) fun a w hF hE => ?_)
      replace hO := hO.ext hE; clear hE
      refine (W_true (evOp hF (by kernel_rfl)) ?_)
      refine W_seq (region_q {} TBok hF (F' := [(4, .slice none 0 0), (5, iv 11), (6, pv b22)]) (rs := []) [4, 5, 6] .nil (by kernel_rfl) fun a w hF hE => ?_)
      replace hO := hO.ext hE; clear hE
      refine W_ret ?_
      show bodyPostM (FW none) 0 _ _ _ Exit.ret a w
      have hres : liarR s rs = ([], 11) := by unfold liarR; rw [her, if_pos (by decide)]
      exact leave_r TBok hF (.nil _) (vs := [.slice none 0 0, iv 11]) (rs := []) .nil (by kernel_rfl) ⟨none, 0, 0, by rw [hres]; rfl, by rw [hres]; rfl, by rw [hres]; exact (hO.nilRd encI 1).sel [2] (by decide)⟩

end Go.Proofs.Ytgihgcclabodbaa.DK
