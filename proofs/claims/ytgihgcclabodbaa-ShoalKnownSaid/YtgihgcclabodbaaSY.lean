/- Walks: Can and Least. Printed by my gen.py out of shoal/n.py. -/
import Derived.Test.YtgihgcclabodbaaSW
namespace Go.Proofs.Ytgihgcclabodbaa.DK
open Go Go.Proofs
set_option linter.unusedVariables false
set_option linter.unusedSimpArgs false

theorem ask_no {s : Sea} {wr h : Int} (e : (!(cond (inB wr 0 24) (inB h 0 (s.hours - 1)) false)) = true) : askB s wr h = false := by
  unfold askB; cases hq : cond (inB wr 0 24) (inB h 0 (s.hours - 1)) false <;> rw [hq] at e <;> first | rfl | cases e
theorem ask_yes {s : Sea} {wr h : Int} (e : (!(cond (inB wr 0 24) (inB h 0 (s.hours - 1)) false)) = false) : askB s wr h = true := by
  unfold askB; cases hq : cond (inB wr 0 24) (inB h 0 (s.hours - 1)) false <;> rw [hq] at e <;> first | rfl | cases e
theorem trk_bd {s : Sea} {rs : List Rp} (hv : seaB s = true) (hr : rpsB s rs = true) (hm : minT s rs < 1048576) {k : Nat} (hk : k < s.hours.toNat) : -24 ≤ (trkS s rs k).2 ∧ (trkS s rs k).2 ≤ 24 := by
  have h1 := trkS_left s rs k
  have h2 := costT_bd (s := s) (rs := rs) (t := trkC s rs) (a := 0) (n := k)
  have h3 := costT_len (s := s) (rs := rs) (t := trkC s rs) (a := 0) (n := k)
  have h4 := minT_24 hv hr hm; have h5 := minT_bd hv hr; have := (rp_ok hr).1
  omega
theorem trk_cell {s : Sea} {rs : List Rp} (hv : seaB s = true) (hr : rpsB s rs = true) (hm : minT s rs < 1048576) {k : Nat} (hk : k < s.hours.toNat) (h0 : 0 < k) : 0 ≤ ((trkS s rs k).1.getD ((k : Int) - 1).toNat default) ∧ ((trkS s rs k).1.getD ((k : Int) - 1).toNat default) < nC s := by
  rw [show ((k : Int) - 1).toNat = k - 1 by omega, trkS_at s rs (by omega)]
  have := mem_cellsA ((trk_ok hv hr hm).1.1 (k - 1) (by omega) (by omega))
  omega
set_option maxHeartbeats 4000000 in
set_option maxRecDepth 100000 in
theorem Can_calls (s : Sea) (v : SV) (rs : List Rp) (p : Option Addr) (n c : Nat) (wr h : Int) (w0 : World) (hs : SeaR w0.heap.size w0 v s) (hx : Rd encRp 4 w0.heap.size w0 p n rs) :
    Calls Try.prog 24 #[.agg (sS6 s v), .slice p n c, iv wr, iv h] w0 (fun e w' => ∃ p n c_, (canR s rs wr h).1.length = n ∧ e = .returned (.tuple #[.slice p n c_, iv (canR s rs wr h).2]) ∧ Own w0 none_ [rdR encI 1 p n (canR s rs wr h).1] w') := by
  have hl1 := hs.land.len; have hl2 := hs.drift.len; have hs1 := hs.land.size; have hs2 := hs.drift.size; have hr_ := hs.rg; unfold i64 at hr_; have hl3 := hx.len; have hs3 := hx.size
  refine calls_of_W Try.func24 rfl (by kernel_rfl) (args := [.agg (sS6 s v), .slice p n c, iv wr, iv h]) fun a hF => ?_
  replace hF : Fr 34 [] [(0, .agg (sS6 s v)), (1, .slice p n c), (2, iv wr), (3, iv h)] a := hF
  have hO : Own w0 none_ [] w0 := Own.start w0 _
  refine W_seq (region_seq ?_)
  refine op_box (i := 0) (t := 25) (v := .agg (sS6 s v)) (d := 4) hF hO (by kernel_rfl) fun a w b1 hF hO _ => ?_
  refine seq_quiet {} TBok hF (F' := [(1, .slice p n c), (2, iv wr), (3, iv h), (4, pv b1), (8, .slice none 0 0), (9, iv 0)]) (rs := []) [1, 2] [] [1, 2, 3, 4, 8, 9] .nil (by kernel_rfl) fun a w hF hE => ?_
  replace hO := hO.ext hE; clear hE
  refine W_seq (region_seq ?_)
  refine seq_quiet {} TBok hF (F' := [(2, iv wr), (3, iv h), (8, .slice none 0 0), (9, iv 0), (13, .agg (sS6 s v)), (14, .slice p n c)]) (rs := [.lds ⟨b1, 0, none⟩ (sL6 s v)]) [0, 1] [2, 3, 4, 5, 6, 7, 8] [2, 3, 8, 9, 13, 14] (.cons (ldso hO.st 0 rfl 0 rfl) <| .nil) (by kernel_rfl) fun a w hF hE => ?_
  replace hO := hO.ext hE; clear hE
  rcases Bool.eq_false_or_eq_true (chk s != 0) with hck | hck
  · have hc0 := chk_no hck; have her := err_no (rs := rs) hc0
    refine op_call (i := 2) (f := 47) (args := #[.agg (sS6 s v), .slice p n c]) (d := some 15) TBok (by kernel_rfl) hF (by kernel_rfl) (read_no s v rs p n c _ (hs.upM hO.kp nom (Nat.le_refl _)) hc0 (hx.upM hO.kp nom (Nat.le_refl _))) fun e w hR => ?_
    obtain ⟨he, hE⟩ := hR
    refine ⟨_, he, fun a hF => ?_⟩
    replace hO := hO.ext hE; clear hE he
    refine seq_quiet {} TBok hF (F' := [(2, iv wr), (3, iv h), (8, .slice none 0 0), (9, iv 0), (16, .agg #[iv 0, iv 0, .slice none 0 0, iv 0, .slice none 0 0, iv 0, .map none, .slice none 0 0]), (17, iv 10)]) (rs := []) [3, 4, 5] [6, 7, 8] [2, 3, 8, 9, 16, 17] .nil (by kernel_rfl) fun a w hF hE => ?_
    replace hO := hO.ext hE; clear hE
    refine op_alloc (i := 6) (t := 80) (d := 10) (z := .agg #[iv 0, iv 0, .slice none 0 0, iv 0, .slice none 0 0, iv 0, .map none, .slice none 0 0]) hF hO (by kernel_rfl) (by kernel_rfl) fun a w b2 hF hO _ => ?_
    refine op_store (i := 7) (t := 80) (p := ⟨b2, 0, none⟩) (v := .agg #[iv 0, iv 0, .slice none 0 0, iv 0, .slice none 0 0, iv 0, .map none, .slice none 0 0]) (off := 0) (sz := 8) (cs' := #[iv 0, iv 0, .slice none 0 0, iv 0, .slice none 0 0, iv 0, .map none, .slice none 0 0]) hF hO (by kernel_rfl) 1 rfl rfl (by kernel_rfl) (by kernel_rfl) (by kernel_rfl) fun a w hF hO _ => ?_
    refine seq_quiet {} TBok hF (F' := [(2, iv wr), (3, iv h), (8, .slice none 0 0), (9, iv 0), (10, pv b2), (11, iv 10)]) (rs := []) [8] [] [2, 3, 8, 9, 10, 11] .nil (by kernel_rfl) fun a w hF hE => ?_
    replace hO := hO.ext hE; clear hE
    refine W_seq (W_block ?_)
    refine W_seq (region_q {} TBok hF (F' := [(2, iv wr), (3, iv h), (8, .slice none 0 0), (9, iv 0), (10, pv b2), (11, iv 10), (18, .bool true)]) (rs := []) [2, 3, 8, 9, 10, 11, 18] .nil (by kernel_rfl) fun a w hF hE => ?_)
    replace hO := hO.ext hE; clear hE
    refine (W_true (evOp hF (by kernel_rfl)) ?_)
    refine W_seq (region_q {} TBok hF (F' := [(2, iv wr), (3, iv h), (8, .slice none 0 0), (9, iv 10), (10, pv b2)]) (rs := []) [2, 3, 8, 9, 10] .nil (by kernel_rfl) fun a w hF hE => ?_)
    replace hO := hO.ext hE; clear hE
    refine W_ret ?_
    show bodyPostM (FW none) 0 _ _ _ Exit.ret a w
    have hres : canR s rs wr h = ([], 10) := by unfold canR; rw [her, if_pos (by decide)]
    exact leave_r TBok hF (.nil _) (vs := [.slice none 0 0, iv 10]) (rs := []) .nil (by kernel_rfl) ⟨none, 0, 0, by rw [hres]; rfl, by rw [hres]; rfl, by rw [hres]; exact (hO.nilRd encI 1).sel [2] (by decide)⟩
  · have hv := chk_ok hck; have hv1 := sea_ok hv
    rcases Bool.eq_false_or_eq_true (rpsB s rs) with hr | hr
    · have her := err_ok hv hr; have hrp := rp_ok hr; have hrl := rqs_len (s := s) (rs := rs)
      refine op_call (i := 2) (f := 47) (args := #[.agg (sS6 s v), .slice p n c]) (d := some 15) TBok (by kernel_rfl) hF (by kernel_rfl) (read_ok s v rs p n c _ (hs.upM hO.kp nom (Nat.le_refl _)) hv (hx.upM hO.kp nom (Nat.le_refl _)) hr) fun e w hR => ?_
      obtain ⟨b3, p4, c5, he, hO2⟩ := hR
      refine ⟨_, he, fun a hF => ?_⟩
      replace hO := hO.joinE hO2; clear hO2 he
      refine seq_quiet {} TBok hF (F' := [(2, iv wr), (3, iv h), (8, .slice none 0 0), (9, iv 0), (16, .agg (sS8 s v b3 p4 n c5)), (17, iv 0)]) (rs := []) [3, 4, 5] [6, 7, 8] [2, 3, 8, 9, 16, 17] .nil (by kernel_rfl) fun a w hF hE => ?_
      replace hO := hO.ext hE; clear hE
      refine op_alloc (i := 6) (t := 80) (d := 10) (z := .agg #[iv 0, iv 0, .slice none 0 0, iv 0, .slice none 0 0, iv 0, .map none, .slice none 0 0]) hF hO (by kernel_rfl) (by kernel_rfl) fun a w b6 hF hO _ => ?_
      refine op_store (i := 7) (t := 80) (p := ⟨b6, 0, none⟩) (v := .agg (sS8 s v b3 p4 n c5)) (off := 0) (sz := 8) (cs' := (sS8 s v b3 p4 n c5)) hF hO (by kernel_rfl) 3 rfl rfl (by kernel_rfl) (by kernel_rfl) (by kernel_rfl) fun a w hF hO _ => ?_
      replace hO : Own w0 none_ [cel b1 (sS6 s v) 25, mapT b3 (.bool false) Value.bool (landF s), rowR 105 6 (.slice p4 n c5) n ((rqs s rs).flatMap encRq), cel b6 (sS8 s v b3 p4 n c5) 80] w := hO
      refine seq_quiet {} TBok hF (F' := [(2, iv wr), (3, iv h), (8, .slice none 0 0), (9, iv 0), (10, pv b6), (11, iv 0)]) (rs := []) [8] [] [2, 3, 8, 9, 10, 11] .nil (by kernel_rfl) fun a w hF hE => ?_
      replace hO := hO.ext hE; clear hE
      refine W_seq (W_block ?_)
      refine W_seq (region_q {} TBok hF (F' := [(2, iv wr), (3, iv h), (8, .slice none 0 0), (9, iv 0), (10, pv b6), (11, iv 0), (18, .bool false)]) (rs := []) [2, 3, 8, 9, 10, 11, 18] .nil (by kernel_rfl) fun a w hF hE => ?_)
      replace hO := hO.ext hE; clear hE
      refine (W_false (evOp hF (by kernel_rfl)) ?_)
      refine W_seq (region_q {} TBok hF (F' := [(2, iv wr), (3, iv h), (8, .slice none 0 0), (9, iv 0), (10, pv b6), (22, .bool (!(cond (inB wr 0 24) (inB h 0 (s.hours - 1)) false)))]) (rs := [.lds ⟨b6, 0, none⟩ (sL8 s v b3 p4 n c5), .call 62 #[.agg (sS8 s v b3 p4 n c5), iv wr, iv h] (.bool (cond (inB wr 0 24) (inB h 0 (s.hours - 1)) false))]) [2, 3, 8, 9, 10, 22] (.cons (ldso hO.st 3 rfl 0 rfl) <| .cons (fun w hE => isAsked_calls s v b3 p4 n c5 rs wr h w ⟨(hs.upM (hO.st w hE).kp nom (Nat.le_refl _)), MapRo.of (hO.st w hE) 1 rfl, rd_row (fun _ => rfl) (by decide) (hO.st w hE) 2 rfl (by omega)⟩ hv hr) <| .nil) (by kernel_rfl) fun a w hF hE => ?_)
      replace hO := hO.ext hE; clear hE
      rcases Bool.eq_false_or_eq_true (!(cond (inB wr 0 24) (inB h 0 (s.hours - 1)) false)) with hc7 | hc7
      · refine (W_true ((evOp hF (by kernel_rfl)).trans (congrArg Value.bool hc7)) ?_)
        have hak : askB s wr h = false := ask_no (by assumption : (!(cond (inB wr 0 24) (inB h 0 (s.hours - 1)) false)) = true)
        refine W_seq (region_q {} TBok hF (F' := [(2, iv wr), (3, iv h), (8, .slice none 0 0), (9, iv 7), (10, pv b6)]) (rs := []) [2, 3, 8, 9, 10] .nil (by kernel_rfl) fun a w hF hE => ?_)
        replace hO := hO.ext hE; clear hE
        refine W_ret ?_
        show bodyPostM (FW none) 0 _ _ _ Exit.ret a w
        have hres : canR s rs wr h = ([], 7) := by unfold canR; rw [if_neg (by omega), if_pos hak]
        exact leave_r TBok hF (.nil _) (vs := [.slice none 0 0, iv 7]) (rs := []) .nil (by kernel_rfl) ⟨none, 0, 0, by rw [hres]; rfl, by rw [hres]; rfl, by rw [hres]; exact (hO.nilRd encI 1).sel [4] (by decide)⟩
      · refine (W_false ((evOp hF (by kernel_rfl)).trans (congrArg Value.bool hc7)) ?_)
        have hak : askB s wr h = true := ask_yes (by assumption : (!(cond (inB wr 0 24) (inB h 0 (s.hours - 1)) false)) = false)
        have hak2 := askB_iff.1 hak
        refine (W_skip ?_)
        refine W_seq (region_seq ?_)
        refine seq_quiet {} TBok hF (F' := [(8, .slice none 0 0), (9, iv 0), (28, .agg (sS8 s v b3 p4 n c5)), (29, iv wr), (30, iv h)]) (rs := [.lds ⟨b6, 0, none⟩ (sL8 s v b3 p4 n c5)]) [0, 1, 2] [3, 4, 5, 6, 7] [8, 9, 28, 29, 30] (.cons (ldso hO.st 3 rfl 0 rfl) <| .nil) (by kernel_rfl) fun a w hF hE => ?_
        replace hO := hO.ext hE; clear hE
        refine op_call (i := 3) (f := 63) (args := #[.agg (sS8 s v b3 p4 n c5), iv wr, iv h]) (d := some 31) TBok (by kernel_rfl) hF (by kernel_rfl) (can_calls s v b3 p4 n c5 rs wr h _ ⟨(hs.upM hO.kp nom (Nat.le_refl _)), MapRo.of hO 1 rfl, rd_row (fun _ => rfl) (by decide) hO 2 rfl (by omega)⟩ hv hr (by omega)) fun e w hR => ?_
        obtain ⟨p8, n9, c10, hn11, he, hO2⟩ := hR
        refine ⟨_, he, fun a hF => ?_⟩
        replace hO := hO.joinE hO2; clear hO2 he
        refine seq_quiet {} TBok hF (F' := [(8, .slice p8 n9 c10), (9, iv ((canR1 s rs wr h).2))]) (rs := []) [4, 5, 6, 7] [] [8, 9] .nil (by kernel_rfl) fun a w hF hE => ?_
        replace hO := hO.ext hE; clear hE
        refine W_ret ?_
        show bodyPostM (FW none) 0 _ _ _ Exit.ret a w
        have hres : canR s rs wr h = canR1 s rs wr h := by unfold canR; rw [if_neg (by omega), if_neg (by rw [hak]; simp)]
        exact leave_r TBok hF (.nil _) (vs := [.slice p8 n9 c10, iv ((canR1 s rs wr h).2)]) (rs := []) .nil (by kernel_rfl) ⟨p8, n9, c10, by rw [hres]; exact hn11, by rw [hres]; rfl, by rw [hres]; exact hO.sel [4] (by decide)⟩
    · have her := err_rep hv hr
      refine op_call (i := 2) (f := 47) (args := #[.agg (sS6 s v), .slice p n c]) (d := some 15) TBok (by kernel_rfl) hF (by kernel_rfl) (read_rep s v rs p n c _ (hs.upM hO.kp nom (Nat.le_refl _)) hv (hx.upM hO.kp nom (Nat.le_refl _)) hr) fun e w hR => ?_
      obtain ⟨he, hE⟩ := hR
      refine ⟨_, he, fun a hF => ?_⟩
      replace hO := hO.ext hE; clear hE he
      refine seq_quiet {} TBok hF (F' := [(2, iv wr), (3, iv h), (8, .slice none 0 0), (9, iv 0), (16, .agg #[iv 0, iv 0, .slice none 0 0, iv 0, .slice none 0 0, iv 0, .map none, .slice none 0 0]), (17, iv 11)]) (rs := []) [3, 4, 5] [6, 7, 8] [2, 3, 8, 9, 16, 17] .nil (by kernel_rfl) fun a w hF hE => ?_
      replace hO := hO.ext hE; clear hE
      refine op_alloc (i := 6) (t := 80) (d := 10) (z := .agg #[iv 0, iv 0, .slice none 0 0, iv 0, .slice none 0 0, iv 0, .map none, .slice none 0 0]) hF hO (by kernel_rfl) (by kernel_rfl) fun a w b12 hF hO _ => ?_
      refine op_store (i := 7) (t := 80) (p := ⟨b12, 0, none⟩) (v := .agg #[iv 0, iv 0, .slice none 0 0, iv 0, .slice none 0 0, iv 0, .map none, .slice none 0 0]) (off := 0) (sz := 8) (cs' := #[iv 0, iv 0, .slice none 0 0, iv 0, .slice none 0 0, iv 0, .map none, .slice none 0 0]) hF hO (by kernel_rfl) 1 rfl rfl (by kernel_rfl) (by kernel_rfl) (by kernel_rfl) fun a w hF hO _ => ?_
      refine seq_quiet {} TBok hF (F' := [(2, iv wr), (3, iv h), (8, .slice none 0 0), (9, iv 0), (10, pv b12), (11, iv 11)]) (rs := []) [8] [] [2, 3, 8, 9, 10, 11] .nil (by kernel_rfl) fun a w hF hE => ?_
      replace hO := hO.ext hE; clear hE
      refine W_seq (W_block ?_)
      refine W_seq (region_q {} TBok hF (F' := [(2, iv wr), (3, iv h), (8, .slice none 0 0), (9, iv 0), (10, pv b12), (11, iv 11), (18, .bool true)]) (rs := []) [2, 3, 8, 9, 10, 11, 18] .nil (by kernel_rfl) fun a w hF hE => ?_)
      replace hO := hO.ext hE; clear hE
      refine (W_true (evOp hF (by kernel_rfl)) ?_)
      refine W_seq (region_q {} TBok hF (F' := [(2, iv wr), (3, iv h), (8, .slice none 0 0), (9, iv 11), (10, pv b12)]) (rs := []) [2, 3, 8, 9, 10] .nil (by kernel_rfl) fun a w hF hE => ?_)
      replace hO := hO.ext hE; clear hE
      refine W_ret ?_
      show bodyPostM (FW none) 0 _ _ _ Exit.ret a w
      have hres : canR s rs wr h = ([], 11) := by unfold canR; rw [her, if_pos (by decide)]
      exact leave_r TBok hF (.nil _) (vs := [.slice none 0 0, iv 11]) (rs := []) .nil (by kernel_rfl) ⟨none, 0, 0, by rw [hres]; rfl, by rw [hres]; rfl, by rw [hres]; exact (hO.nilRd encI 1).sel [2] (by decide)⟩

set_option maxHeartbeats 4000000 in
set_option maxRecDepth 100000 in
theorem Least_calls (s : Sea) (v : SV) (rs : List Rp) (p : Option Addr) (n c : Nat) (w0 : World) (hs : SeaR w0.heap.size w0 v s) (hx : Rd encRp 4 w0.heap.size w0 p n rs) :
    Calls Try.prog 20 #[.agg (sS6 s v), .slice p n c] w0 (fun e w' => ∃ p n c_, (leastR s rs).2.1.length = n ∧ e = .returned (.tuple #[iv (leastR s rs).1, .slice p n c_, iv (leastR s rs).2.2]) ∧ Own w0 none_ [rdR encI 1 p n (leastR s rs).2.1] w') := by
  have hl1 := hs.land.len; have hl2 := hs.drift.len; have hs1 := hs.land.size; have hs2 := hs.drift.size; have hr_ := hs.rg; unfold i64 at hr_; have hl3 := hx.len; have hs3 := hx.size
  refine calls_of_W Try.func20 rfl (by kernel_rfl) (args := [.agg (sS6 s v), .slice p n c]) fun a hF => ?_
  replace hF : Fr 93 [] [(0, .agg (sS6 s v)), (1, .slice p n c)] a := hF
  have hO : Own w0 none_ [] w0 := Own.start w0 _
  refine W_seq (region_seq ?_)
  refine op_box (i := 0) (t := 25) (v := .agg (sS6 s v)) (d := 2) hF hO (by kernel_rfl) fun a w b1 hF hO _ => ?_
  refine seq_quiet {} TBok hF (F' := [(1, .slice p n c), (2, pv b1), (4, iv 0)]) (rs := []) [1] [2, 3] [1, 2, 4] .nil (by kernel_rfl) fun a w hF hE => ?_
  replace hO := hO.ext hE; clear hE
  refine op_alloc (i := 2) (t := 22) (d := 5) (z := .slice none 0 0) hF hO (by kernel_rfl) (by kernel_rfl) fun a w b2 hF hO _ => ?_
  refine seq_quiet {} TBok hF (F' := [(1, .slice p n c), (2, pv b1), (4, iv 0), (5, pv b2), (6, iv 0)]) (rs := []) [3] [] [1, 2, 4, 5, 6] .nil (by kernel_rfl) fun a w hF hE => ?_
  replace hO := hO.ext hE; clear hE
  refine (W_scope' ?_)
  refine W_seq (region_seq ?_)
  refine seq_quiet {} TBok hF (F' := [(4, iv 0), (5, pv b2), (6, iv 0), (15, .agg (sS6 s v)), (16, .slice p n c)]) (rs := [.lds ⟨b1, 0, none⟩ (sL6 s v)]) [0, 1] [2, 3, 4, 5, 6, 7, 8] [4, 5, 6, 15, 16] (.cons (ldso hO.st 0 rfl 0 rfl) <| .nil) (by kernel_rfl) fun a w hF hE => ?_
  replace hO := hO.ext hE; clear hE
  rcases Bool.eq_false_or_eq_true (chk s != 0) with hck | hck
  · have hc0 := chk_no hck; have her := err_no (rs := rs) hc0
    refine op_call (i := 2) (f := 47) (args := #[.agg (sS6 s v), .slice p n c]) (d := some 17) TBok (by kernel_rfl) hF (by kernel_rfl) (read_no s v rs p n c _ (hs.upM hO.kp nom (Nat.le_refl _)) hc0 (hx.upM hO.kp nom (Nat.le_refl _))) fun e w hR => ?_
    obtain ⟨he, hE⟩ := hR
    refine ⟨_, he, fun a hF => ?_⟩
    replace hO := hO.ext hE; clear hE he
    refine seq_quiet {} TBok hF (F' := [(4, iv 0), (5, pv b2), (6, iv 0), (18, .agg #[iv 0, iv 0, .slice none 0 0, iv 0, .slice none 0 0, iv 0, .map none, .slice none 0 0]), (19, iv 10)]) (rs := []) [3, 4, 5] [6, 7, 8] [4, 5, 6, 18, 19] .nil (by kernel_rfl) fun a w hF hE => ?_
    replace hO := hO.ext hE; clear hE
    refine op_alloc (i := 6) (t := 80) (d := 7) (z := .agg #[iv 0, iv 0, .slice none 0 0, iv 0, .slice none 0 0, iv 0, .map none, .slice none 0 0]) hF hO (by kernel_rfl) (by kernel_rfl) fun a w b3 hF hO _ => ?_
    refine op_store (i := 7) (t := 80) (p := ⟨b3, 0, none⟩) (v := .agg #[iv 0, iv 0, .slice none 0 0, iv 0, .slice none 0 0, iv 0, .map none, .slice none 0 0]) (off := 0) (sz := 8) (cs' := #[iv 0, iv 0, .slice none 0 0, iv 0, .slice none 0 0, iv 0, .map none, .slice none 0 0]) hF hO (by kernel_rfl) 2 rfl rfl (by kernel_rfl) (by kernel_rfl) (by kernel_rfl) fun a w hF hO _ => ?_
    replace hO : Own w0 none_ [cel b1 (sS6 s v) 25, cel b2 #[.slice none 0 0] 22, cel b3 #[iv 0, iv 0, .slice none 0 0, iv 0, .slice none 0 0, iv 0, .map none, .slice none 0 0] 80] w := hO
    refine seq_quiet {} TBok hF (F' := [(4, iv 0), (5, pv b2), (6, iv 10), (7, pv b3)]) (rs := []) [8] [] [4, 5, 6, 7] .nil (by kernel_rfl) fun a w hF hE => ?_
    replace hO := hO.ext hE; clear hE
    refine W_seq ?_
    refine W_seq (region_q {} TBok hF (F' := [(4, iv 0), (5, pv b2), (6, iv 10), (7, pv b3), (21, .bool true)]) (rs := []) [4, 5, 6, 7, 21] .nil (by kernel_rfl) fun a w hF hE => ?_)
    replace hO := hO.ext hE; clear hE
    refine (W_true (evOp hF (by kernel_rfl)) ?_)
    refine W_seq (region_seq ?_)
    refine seq_quiet {} TBok hF (F' := [(4, iv 0), (5, pv b2), (6, iv 10), (7, pv b3), (22, iv 10)]) (rs := []) [0, 1] [2, 3] [4, 5, 6, 7, 22] .nil (by kernel_rfl) fun a w hF hE => ?_
    replace hO := hO.ext hE; clear hE
    refine op_store (i := 2) (t := 22) (p := ⟨b2, 0, none⟩) (v := .slice none 0 0) (off := 0) (sz := 1) (cs' := #[.slice none 0 0]) hF hO (by kernel_rfl) 1 rfl rfl (by kernel_rfl) (by kernel_rfl) (by kernel_rfl) fun a w hF hO _ => ?_
    refine seq_quiet {} TBok hF (F' := [(4, iv 0), (5, pv b2), (6, iv 10), (7, pv b3)]) (rs := []) [3] [] [4, 5, 6, 7] .nil (by kernel_rfl) fun a w hF hE => ?_
    replace hO := hO.ext hE; clear hE
    refine W_ret ?_
    show bodyPostM (FW none) 0 _ _ _ Exit.ret a w
    have hres : leastR s rs = (0, [], 10) := by unfold leastR; rw [her, if_pos (by decide)]
    exact leave_r TBok hF (.nil _) (vs := [iv 0, .slice none 0 0, iv 10]) (rs := [.ld ⟨b2, 0, none⟩ (.slice none 0 0)]) (.cons (rdo hO 1 rfl 0 rfl) <| .nil) (by kernel_rfl) ⟨none, 0, 0, by rw [hres]; rfl, by rw [hres]; rfl, by rw [hres]; exact (hO.nilRd encI 1).sel [3] (by decide)⟩
  · have hv := chk_ok hck; have hv1 := sea_ok hv
    rcases Bool.eq_false_or_eq_true (rpsB s rs) with hr | hr
    · have her := err_ok hv hr; have hrp := rp_ok hr; have hrl := rqs_len (s := s) (rs := rs)
      refine op_call (i := 2) (f := 47) (args := #[.agg (sS6 s v), .slice p n c]) (d := some 17) TBok (by kernel_rfl) hF (by kernel_rfl) (read_ok s v rs p n c _ (hs.upM hO.kp nom (Nat.le_refl _)) hv (hx.upM hO.kp nom (Nat.le_refl _)) hr) fun e w hR => ?_
      obtain ⟨b4, p5, c6, he, hO2⟩ := hR
      refine ⟨_, he, fun a hF => ?_⟩
      replace hO := hO.joinE hO2; clear hO2 he
      refine seq_quiet {} TBok hF (F' := [(4, iv 0), (5, pv b2), (6, iv 0), (18, .agg (sS8 s v b4 p5 n c6)), (19, iv 0)]) (rs := []) [3, 4, 5] [6, 7, 8] [4, 5, 6, 18, 19] .nil (by kernel_rfl) fun a w hF hE => ?_
      replace hO := hO.ext hE; clear hE
      refine op_alloc (i := 6) (t := 80) (d := 7) (z := .agg #[iv 0, iv 0, .slice none 0 0, iv 0, .slice none 0 0, iv 0, .map none, .slice none 0 0]) hF hO (by kernel_rfl) (by kernel_rfl) fun a w b7 hF hO _ => ?_
      replace hO : Own w0 none_ [cel b1 (sS6 s v) 25, cel b2 #[.slice none 0 0] 22, mapT b4 (.bool false) Value.bool (landF s), rowR 105 6 (.slice p5 n c6) n ((rqs s rs).flatMap encRq), cel b7 #[iv 0, iv 0, .slice none 0 0, iv 0, .slice none 0 0, iv 0, .map none, .slice none 0 0] 80] w := hO
      refine op_store (i := 7) (t := 80) (p := ⟨b7, 0, none⟩) (v := .agg (sS8 s v b4 p5 n c6)) (off := 0) (sz := 8) (cs' := (sS8 s v b4 p5 n c6)) hF hO (by kernel_rfl) 4 rfl rfl (by kernel_rfl) (by kernel_rfl) (by kernel_rfl) fun a w hF hO _ => ?_
      refine seq_quiet {} TBok hF (F' := [(4, iv 0), (5, pv b2), (6, iv 0), (7, pv b7)]) (rs := []) [8] [] [4, 5, 6, 7] .nil (by kernel_rfl) fun a w hF hE => ?_
      replace hO := hO.ext hE; clear hE
      refine W_seq ?_
      refine W_seq (region_q {} TBok hF (F' := [(4, iv 0), (5, pv b2), (6, iv 0), (7, pv b7), (21, .bool false)]) (rs := []) [4, 5, 6, 7, 21] .nil (by kernel_rfl) fun a w hF hE => ?_)
      replace hO := hO.ext hE; clear hE
      refine (W_false (evOp hF (by kernel_rfl)) ?_)
      refine (W_skip ?_)
      refine W_seq (region_seq ?_)
      refine seq_quiet {} TBok hF (F' := [(4, iv 0), (5, pv b2), (6, iv 0), (7, pv b7), (24, .agg (sS8 s v b4 p5 n c6))]) (rs := [.lds ⟨b7, 0, none⟩ (sL8 s v b4 p5 n c6)]) [0] [1, 2, 3, 4, 5, 6, 7] [4, 5, 6, 7, 24] (.cons (ldso hO.st 4 rfl 0 rfl) <| .nil) (by kernel_rfl) fun a w hF hE => ?_
      replace hO := hO.ext hE; clear hE
      refine op_call (i := 1) (f := 57) (args := #[.agg (sS8 s v b4 p5 n c6)]) (d := some 25) TBok (by kernel_rfl) hF (by kernel_rfl) (through_calls s v b4 p5 n c6 rs _ ⟨(hs.upM hO.kp nom (Nat.le_refl _)), MapRo.of hO 2 rfl, rd_row (fun _ => rfl) (by decide) hO 3 rfl (by omega)⟩ hv hr) fun e w hR => ?_
      obtain ⟨b8, b9, he, hO2⟩ := hR
      refine ⟨_, he, fun a hF => ?_⟩
      replace hO := hO.joinE hO2; clear hO2 he
      refine seq_quiet {} TBok hF (F' := [(4, iv 0), (5, pv b2), (6, iv 0), (7, pv b7), (26, .slice (some ⟨b8, 0, none⟩) (s.hours.toNat) (s.hours.toNat)), (27, .slice (some ⟨b9, 0, none⟩) (s.hours.toNat) (s.hours.toNat))]) (rs := []) [2, 3, 4] [5, 6, 7] [4, 5, 6, 7, 26, 27] .nil (by kernel_rfl) fun a w hF hE => ?_
      replace hO := hO.ext hE; clear hE
      refine op_alloc (i := 5) (t := 92) (d := 9) (z := .slice none 0 0) hF hO (by kernel_rfl) (by kernel_rfl) fun a w b10 hF hO _ => ?_
      refine seq_quiet {} TBok hF (F' := [(4, iv 0), (5, pv b2), (6, iv 0), (7, pv b7), (8, .slice (some ⟨b8, 0, none⟩) (s.hours.toNat) (s.hours.toNat)), (9, pv b10), (27, .slice (some ⟨b9, 0, none⟩) (s.hours.toNat) (s.hours.toNat))]) (rs := []) [6] [7] [4, 5, 6, 7, 8, 9, 27] .nil (by kernel_rfl) fun a w hF hE => ?_
      replace hO := hO.ext hE; clear hE
      refine op_store (i := 7) (t := 92) (p := ⟨b10, 0, none⟩) (v := .slice (some ⟨b9, 0, none⟩) (s.hours.toNat) (s.hours.toNat)) (off := 0) (sz := 1) (cs' := #[.slice (some ⟨b9, 0, none⟩) (s.hours.toNat) (s.hours.toNat)]) hF hO (by kernel_rfl) 7 rfl rfl (by kernel_rfl) (by kernel_rfl) (by kernel_rfl) fun a w hF hO _ => ?_
      replace hO : Own w0 none_ [cel b1 (sS6 s v) 25, cel b2 #[.slice none 0 0] 22, mapT b4 (.bool false) Value.bool (landF s), rowR 105 6 (.slice p5 n c6) n ((rqs s rs).flatMap encRq), cel b7 (sS8 s v b4 p5 n c6) 80, cel b8 (arrL ((s.hours.toNat) * 80) (flat (allR s rs s.hours.toNat))).toArray 99, cel b9 (arrL ((s.hours.toNat) * 80) (flat (bwdR s rs s.hours.toNat))).toArray 99, cel b10 #[.slice (some ⟨b9, 0, none⟩) (s.hours.toNat) (s.hours.toNat)] 92] w := hO
      replace hF := hF.sel [4, 5, 6, 7, 8, 9]
      replace hF : Fr 93 [] [(4, iv 0), (5, pv b2), (6, iv 0), (7, pv b7), (8, .slice (some ⟨b8, 0, none⟩) (s.hours.toNat) (s.hours.toNat)), (9, pv b10)] a := hF
      refine W_seq (region_q {} TBok hF (F' := [(4, iv 0), (5, pv b2), (6, iv 0), (7, pv b7), (9, pv b10), (10, iv (fewF (allR s rs s.hours.toNat) ((s.hours.toNat) - 1)))]) (rs := [.call 58 #[.slice (some ⟨b8, 0, none⟩) (s.hours.toNat) (s.hours.toNat)] (iv (fewF (allR s rs s.hours.toNat) ((s.hours.toNat) - 1)))]) [4, 5, 6, 7, 9, 10] (.cons (fun w hE => fewest_calls b8 (s.hours.toNat) (allR s rs s.hours.toNat) w (Ro.of_ok (cs := (arrL ((s.hours.toNat) * 80) (flat (allR s rs s.hours.toNat)))) ((hO.st w hE).get 5 rfl)) (by omega) (by omega)) <| .nil) (by kernel_rfl) fun a w hF hE => ?_)
      replace hO := hO.ext hE; clear hE
      refine W_seq ?_
      refine W_seq (region_q {} TBok hF (F' := [(4, iv 0), (5, pv b2), (6, iv 0), (7, pv b7), (9, pv b10), (10, iv (fewF (allR s rs s.hours.toNat) ((s.hours.toNat) - 1))), (31, .bool (decide ((fewF (allR s rs s.hours.toNat) ((s.hours.toNat) - 1)) ≥ 1048576)))]) (rs := []) [4, 5, 6, 7, 9, 10, 31] .nil (by kernel_rfl) fun a w hF hE => ?_)
      replace hO := hO.ext hE; clear hE
      rcases Bool.eq_false_or_eq_true (decide ((fewF (allR s rs s.hours.toNat) ((s.hours.toNat) - 1)) ≥ 1048576)) with hc11 | hc11
      · refine (W_true ((evOp hF (by kernel_rfl)).trans (congrArg Value.bool hc11)) ?_)
        have hmt : minT s rs ≥ 1048576 := of_decide_eq_true (by assumption : (decide ((fewF (allR s rs s.hours.toNat) ((s.hours.toNat) - 1)) ≥ 1048576)) = true)
        refine W_seq (region_seq ?_)
        refine seq_quiet {} TBok hF (F' := [(4, iv 0), (5, pv b2), (6, iv 0), (7, pv b7), (9, pv b10), (10, iv (fewF (allR s rs s.hours.toNat) ((s.hours.toNat) - 1)))]) (rs := []) [0] [1, 2] [4, 5, 6, 7, 9, 10] .nil (by kernel_rfl) fun a w hF hE => ?_
        replace hO := hO.ext hE; clear hE
        refine op_store (i := 1) (t := 22) (p := ⟨b2, 0, none⟩) (v := .slice none 0 0) (off := 0) (sz := 1) (cs' := #[.slice none 0 0]) hF hO (by kernel_rfl) 1 rfl rfl (by kernel_rfl) (by kernel_rfl) (by kernel_rfl) fun a w hF hO _ => ?_
        refine seq_quiet {} TBok hF (F' := [(4, iv 0), (5, pv b2), (6, iv 4), (7, pv b7), (9, pv b10), (10, iv (fewF (allR s rs s.hours.toNat) ((s.hours.toNat) - 1)))]) (rs := []) [2] [] [4, 5, 6, 7, 9, 10] .nil (by kernel_rfl) fun a w hF hE => ?_
        replace hO := hO.ext hE; clear hE
        refine W_ret ?_
        show bodyPostM (FW none) 0 _ _ _ Exit.ret a w
        have hres : leastR s rs = (0, [], 4) := by unfold leastR; rw [if_neg (by omega), if_pos hmt]
        exact leave_r TBok hF (.nil _) (vs := [iv 0, .slice none 0 0, iv 4]) (rs := [.ld ⟨b2, 0, none⟩ (.slice none 0 0)]) (.cons (rdo hO 1 rfl 0 rfl) <| .nil) (by kernel_rfl) ⟨none, 0, 0, by rw [hres]; rfl, by rw [hres]; rfl, by rw [hres]; exact (hO.nilRd encI 1).sel [8] (by decide)⟩
      · refine (W_false ((evOp hF (by kernel_rfl)).trans (congrArg Value.bool hc11)) ?_)
        have hmt : ¬ minT s rs ≥ 1048576 := of_decide_eq_false (by assumption : (decide ((fewF (allR s rs s.hours.toNat) ((s.hours.toNat) - 1)) ≥ 1048576)) = false)
        have hm : minT s rs < 1048576 := by omega
        have hm24 := minT_24 hv hr hm; have hmb := minT_bd hv hr
        refine (W_skip ?_)
        refine W_seq (region_seq ?_)
        refine seq_quiet {} TBok hF (F' := [(4, iv 0), (5, pv b2), (6, iv 0), (7, pv b7), (9, pv b10), (10, iv (fewF (allR s rs s.hours.toNat) ((s.hours.toNat) - 1))), (32, iv (fewF (allR s rs s.hours.toNat) ((s.hours.toNat) - 1)))]) (rs := []) [0] [1, 2] [4, 5, 6, 7, 9, 10, 32] .nil (by kernel_rfl) fun a w hF hE => ?_
        replace hO := hO.ext hE; clear hE
        refine op_alloc (i := 1) (t := 3) (d := 11) (z := iv 0) hF hO (by kernel_rfl) (by kernel_rfl) fun a w b12 hF hO _ => ?_
        refine op_store (i := 2) (t := 3) (p := ⟨b12, 0, none⟩) (v := iv (fewF (allR s rs s.hours.toNat) ((s.hours.toNat) - 1))) (off := 0) (sz := 1) (cs' := #[iv (fewF (allR s rs s.hours.toNat) ((s.hours.toNat) - 1))]) hF hO (by kernel_rfl) 8 rfl rfl (by kernel_rfl) (by kernel_rfl) (by kernel_rfl) fun a w hF hO _ => ?_
        replace hF := hF.sel [4, 5, 6, 7, 9, 10, 11]
        replace hF : Fr 93 [] [(4, iv 0), (5, pv b2), (6, iv 0), (7, pv b7), (9, pv b10), (10, iv (fewF (allR s rs s.hours.toNat) ((s.hours.toNat) - 1))), (11, pv b12)] a := hF
        refine W_seq (W_label ?_)
        refine W_seq ?_
        refine W_seq (region_q {} TBok hF (F' := [(4, iv 0), (5, pv b2), (6, iv 0), (7, pv b7), (9, pv b10), (10, iv (fewF (allR s rs s.hours.toNat) ((s.hours.toNat) - 1))), (11, pv b12), (36, iv s.hours), (37, iv 0)]) (rs := [.ld ⟨b7, 3, none⟩ (iv s.hours)]) [4, 5, 6, 7, 9, 10, 11, 36, 37] (.cons (ldo hO.st 4 rfl 3 rfl) <| .nil) (by kernel_rfl) fun a w hF hE => ?_)
        replace hO := hO.ext hE; clear hE
        refine (W_block ?_)
        replace hO := (hO.nilRow 3 1).dfs0
        refine (W_loop (fun m a w => ∃ (k : Nat), ∃ (Ds : List Nat), ∃ (p_ : Option Addr), ∃ (c_ : Nat), m = s.hours.toNat - k ∧ k ≤ s.hours.toNat ∧ Fr 93 (Ds.map mk) [(4, iv 0), (5, pv b2), (6, iv 0), (7, pv b7), (9, pv b10), (10, iv (fewF (allR s rs s.hours.toNat) ((s.hours.toNat) - 1))), (11, pv b12), (36, iv s.hours), (37, iv (k : Int))] a ∧ Own w0 none_ [cel b1 (sS6 s v) 25, cel b2 #[.slice p_ k c_] 22, mapT b4 (.bool false) Value.bool (landF s), rowR 105 6 (.slice p5 n c6) n ((rqs s rs).flatMap encRq), cel b7 (sS8 s v b4 p5 n c6) 80, cel b8 (arrL ((s.hours.toNat) * 80) (flat (allR s rs s.hours.toNat))).toArray 99, cel b9 (arrL ((s.hours.toNat) * 80) (flat (bwdR s rs s.hours.toNat))).toArray 99, cel b10 #[.slice (some ⟨b9, 0, none⟩) (s.hours.toNat) (s.hours.toNat)] 92, cel b12 #[iv ((trkS s rs k).2)] 3, rowR 3 1 (.slice p_ k c_) k ((trkS s rs k).1.flatMap encI), dfs Ds] w) _ ⟨0, [], none, 0, rfl, Nat.zero_le _, hF, hO⟩ ?_)
        clear hF hO
        rintro _ a w ⟨k, Ds, p_, c_, rfl, hk, hF, hO⟩
        refine W_seq (region_q {} TBok hF (F' := [(4, iv 0), (5, pv b2), (6, iv 0), (7, pv b7), (9, pv b10), (10, iv (fewF (allR s rs s.hours.toNat) ((s.hours.toNat) - 1))), (11, pv b12), (36, iv s.hours), (37, iv (k : Int)), (38, .bool (decide ((k : Int) < s.hours)))]) (rs := []) [4, 5, 6, 7, 9, 10, 11, 36, 37, 38] .nil (by kernel_rfl) fun a w hF hE => ?_)
        replace hO := hO.ext hE; clear hE
        rcases Bool.eq_false_or_eq_true (decide ((k : Int) < s.hours)) with hc13 | hc13
        · refine W_seq (W_true ((evOp hF (by kernel_rfl)).trans (congrArg Value.bool hc13)) ?_)
          have hc13_ := of_decide_eq_true hc13
          refine (W_skip ?_)
          refine W_seq (W_block ?_)
          refine W_seq (region_seq ?_)
          refine seq_quiet {} TBok hF (F' := [(4, iv 0), (5, pv b2), (6, iv 0), (7, pv b7), (9, pv b10), (10, iv (fewF (allR s rs s.hours.toNat) ((s.hours.toNat) - 1))), (11, pv b12), (36, iv s.hours), (37, iv (k : Int)), (39, iv (k : Int))]) (rs := []) [0] [1, 2] [4, 5, 6, 7, 9, 10, 11, 36, 37, 39] .nil (by kernel_rfl) fun a w hF hE => ?_
          replace hO := hO.ext hE; clear hE
          refine op_alloc (i := 1) (t := 3) (d := 12) (z := iv 0) hF hO (by kernel_rfl) (by kernel_rfl) fun a w b14 hF hO _ => ?_
          replace hO : Own w0 none_ [cel b1 (sS6 s v) 25, cel b2 #[.slice p_ k c_] 22, mapT b4 (.bool false) Value.bool (landF s), rowR 105 6 (.slice p5 n c6) n ((rqs s rs).flatMap encRq), cel b7 (sS8 s v b4 p5 n c6) 80, cel b8 (arrL ((s.hours.toNat) * 80) (flat (allR s rs s.hours.toNat))).toArray 99, cel b9 (arrL ((s.hours.toNat) * 80) (flat (bwdR s rs s.hours.toNat))).toArray 99, cel b10 #[.slice (some ⟨b9, 0, none⟩) (s.hours.toNat) (s.hours.toNat)] 92, cel b12 #[iv ((trkS s rs k).2)] 3, rowR 3 1 (.slice p_ k c_) k ((trkS s rs k).1.flatMap encI), dfs Ds, cel b14 #[iv 0] 3] w := hO
          refine op_store (i := 2) (t := 3) (p := ⟨b14, 0, none⟩) (v := iv (k : Int)) (off := 0) (sz := 1) (cs' := #[iv (k : Int)]) hF hO (by kernel_rfl) 11 rfl rfl (by kernel_rfl) (by kernel_rfl) (by kernel_rfl) fun a w hF hO _ => ?_
          replace hF := hF.sel [4, 5, 6, 7, 9, 10, 11, 12, 36, 37]
          replace hF : Fr 93 (Ds.map mk) [(4, iv 0), (5, pv b2), (6, iv 0), (7, pv b7), (9, pv b10), (10, iv (fewF (allR s rs s.hours.toNat) ((s.hours.toNat) - 1))), (11, pv b12), (12, pv b14), (36, iv s.hours), (37, iv (k : Int))] a := hF
          refine W_seq (region_seq ?_)
          refine seq_quiet {} TBok hF (F' := [(4, iv 0), (5, pv b2), (6, iv 0), (7, pv b7), (9, pv b10), (10, iv (fewF (allR s rs s.hours.toNat) ((s.hours.toNat) - 1))), (11, pv b12), (12, pv b14), (36, iv s.hours), (37, iv (k : Int)), (41, .agg (sS7 s v b4))]) (rs := [.lds ⟨b7, 0, none⟩ (sL7 s v b4)]) [0, 1] [2] [4, 5, 6, 7, 9, 10, 11, 12, 36, 37, 41] (.cons (ldso hO.st 4 rfl 0 rfl) <| .nil) (by kernel_rfl) fun a w hF hE => ?_
          replace hO := hO.ext hE; clear hE
          refine op_call (i := 2) (f := 59) (args := #[.agg (sS7 s v b4)]) (d := some 42) TBok (by kernel_rfl) hF (by kernel_rfl) (cells_calls s v b4 _) fun e w hR => ?_
          obtain ⟨b15, he, hO2⟩ := hR
          refine ⟨_, he, fun a hF => ?_⟩
          replace hO := hO.joinE hO2; clear hO2 he
          replace hF := hF.sel [4, 5, 6, 7, 9, 10, 11, 12, 36, 37, 42]
          replace hF : Fr 93 (Ds.map mk) [(4, iv 0), (5, pv b2), (6, iv 0), (7, pv b7), (9, pv b10), (10, iv (fewF (allR s rs s.hours.toNat) ((s.hours.toNat) - 1))), (11, pv b12), (12, pv b14), (36, iv s.hours), (37, iv (k : Int)), (42, .func (.func 84) #[] #[pv b15])] a := hF
          refine (W_block ?_)
          refine W_rangeX 1 (t := 43) (f := 84) (fst := #[]) (cap := #[pv b15]) TBok hF hO (by kernel_rfl) (by kernel_rfl) fun fn w D16 lr17 hlr hO hE => ?_
          clear hE; have hFo := hF
          refine (cells_run s v b4 b15 (D16 + 1) (fun r w => r.find? (fitB s rs k ((trkS s rs k).1.getD ((k : Int) - 1).toNat default) (trkS s rs k).2) = some (trkC s rs k) ∧ (∀ y ∈ r, y ∈ cellsA s 0) ∧ Own w0 none_ [cel b1 (sS6 s v) 25, cel b2 #[.slice p_ k c_] 22, mapT b4 (.bool false) Value.bool (landF s), rowR 105 6 (.slice p5 n c6) n ((rqs s rs).flatMap encRq), cel b7 (sS8 s v b4 p5 n c6) 80, cel b8 (arrL ((s.hours.toNat) * 80) (flat (allR s rs s.hours.toNat))).toArray 99, cel b9 (arrL ((s.hours.toNat) * 80) (flat (bwdR s rs s.hours.toNat))).toArray 99, cel b10 #[.slice (some ⟨b9, 0, none⟩) (s.hours.toNat) (s.hours.toNat)] 92, cel b12 #[iv ((trkS s rs k).2)] 3, rowR 3 1 (.slice p_ k c_) k ((trkS s rs k).1.flatMap encI), dfs Ds, cel b14 #[iv (k : Int)] 3, cel b15 (sS7 s v b4) 77, pt D16 (.deferred (some [])), pt (D16 + 1) (.loop lr17)] w) (fun w => ∃ (p_ : Option Addr), ∃ (c_ : Nat), Own w0 none_ [cel b1 (sS6 s v) 25, cel b2 #[.slice p_ (k + 1) c_] 22, mapT b4 (.bool false) Value.bool (landF s), rowR 105 6 (.slice p5 n c6) n ((rqs s rs).flatMap encRq), cel b7 (sS8 s v b4 p5 n c6) 80, cel b8 (arrL ((s.hours.toNat) * 80) (flat (allR s rs s.hours.toNat))).toArray 99, cel b9 (arrL ((s.hours.toNat) * 80) (flat (bwdR s rs s.hours.toNat))).toArray 99, cel b10 #[.slice (some ⟨b9, 0, none⟩) (s.hours.toNat) (s.hours.toNat)] 92, cel b12 #[iv ((trkS s rs (k + 1)).2)] 3, rowR 3 1 (.slice p_ (k + 1) c_) (k + 1) ((trkS s rs (k + 1)).1.flatMap encI), dfs Ds, cel b14 #[iv (k : Int)] 3, cel b15 (sS7 s v b4) 77, pt D16 (.deferred (some [])), pt (D16 + 1) (.loop { lr17 with state := .done, pending := some (.exit 1) })] w) w hv ?_ ?_ ?_ ?_ ?_).mono ?_
          · rintro r w w2 ⟨hfd, hmem, hO⟩ hE; exact ⟨hfd, hmem, hO.ext hE⟩
          · rintro w w2 ⟨p_, c_, hO⟩ hE; exact ⟨p_, c_, hO.ext hE⟩
          · rintro r w ⟨hfd, hmem, hO⟩
            exact ⟨Ro.of_ok (cs := (sL7 s v b4)) (hO.get 12 rfl), MapRo.of hO 2 rfl⟩
          · clear hO
            rintro x18 r w ⟨hfd, hmem, hO⟩
            have hl1_ : w.heap[D16 + 1]? = some (.loop lr17) := hO.get 14 rfl
            rw [hlr] at hl1_
            refine yields_ofR hl1_ fun Rr hRr => ?_
            clear hl1_
            have hF := hFo.round (t := 43) (by kernel_rfl) (iv x18)
            replace hF : Fr 93 [] [(4, iv 0), (5, pv b2), (6, iv 0), (7, pv b7), (9, pv b10), (10, iv (fewF (allR s rs s.hours.toNat) ((s.hours.toNat) - 1))), (11, pv b12), (12, pv b14), (36, iv s.hours), (37, iv (k : Int)), (42, .func (.func 84) #[] #[pv b15]), (43, iv x18)] _ := hF.sel [4, 5, 6, 7, 9, 10, 11, 12, 36, 37, 42, 43]
            have hxm := mem_cellsA (hmem _ (List.mem_cons_self ..))
            have hu := untr_bd (s := s) (rs := rs) (k : Int) x18
            have htl := trk_bd hv hr hm (k := k) (by omega)
            have hlk := trkS_len s rs k
            refine (region_q {} TBok hF (F' := [(4, iv 0), (5, pv b2), (6, iv 0), (7, pv b7), (9, pv b10), (10, iv (fewF (allR s rs s.hours.toNat) ((s.hours.toNat) - 1))), (11, pv b12), (12, pv b14), (13, iv x18), (36, iv s.hours), (37, iv (k : Int)), (42, .func (.func 84) #[] #[pv b15])]) (rs := []) [4, 5, 6, 7, 9, 10, 11, 12, 13, 36, 37, 42] .nil (by kernel_rfl) fun a w hF hE => ?_)
            replace hO := hO.ext hE; clear hE
            obtain ⟨w, hb, hO⟩ := begin_round (P := Try.prog) hO 14 rfl (by rw [hlr]; rfl)
            refine ⟨rfl, w, hb, ?_⟩
            clear hb
            replace hO : Own w0 none_ [cel b1 (sS6 s v) 25, cel b2 #[.slice p_ k c_] 22, mapT b4 (.bool false) Value.bool (landF s), rowR 105 6 (.slice p5 n c6) n ((rqs s rs).flatMap encRq), cel b7 (sS8 s v b4 p5 n c6) 80, cel b8 (arrL ((s.hours.toNat) * 80) (flat (allR s rs s.hours.toNat))).toArray 99, cel b9 (arrL ((s.hours.toNat) * 80) (flat (bwdR s rs s.hours.toNat))).toArray 99, cel b10 #[.slice (some ⟨b9, 0, none⟩) (s.hours.toNat) (s.hours.toNat)] 92, cel b12 #[iv ((trkS s rs k).2)] 3, rowR 3 1 (.slice p_ k c_) k ((trkS s rs k).1.flatMap encI), dfs Ds, cel b14 #[iv (k : Int)] 3, cel b15 (sS7 s v b4) 77, pt D16 (.deferred (some [])), pt (D16 + 1) (.loop { lr17 with state := .busy })] w := hO
            refine (W_block ?_)
            refine W_seq (region_d { sy := [8, 11] } mixed TBok hF (F' := [(4, iv 0), (5, pv b2), (6, iv 0), (7, pv b7), (9, pv b10), (10, iv (fewF (allR s rs s.hours.toNat) ((s.hours.toNat) - 1))), (11, pv b12), (12, pv b14), (13, iv x18), (36, iv s.hours), (37, iv (k : Int)), (42, .func (.func 84) #[] #[pv b15]), (74, .bool (cond (((bwdR s rs s.hours.toNat) k x18.toNat) == (trkS s rs k).2) (cond ((k : Int) == 0) true (stepP s ((k : Int) - 1) (pl s ((trkS s rs k).1.getD ((k : Int) - 1).toNat default)) (pl s x18))) false))]) (rs := [.ld ⟨b10, 0, none⟩ (.slice (some ⟨b9, 0, none⟩) (s.hours.toNat) (s.hours.toNat)), .ld ⟨b14, 0, none⟩ (iv (k : Int)), .idx (some ⟨b9, 0, none⟩) (s.hours.toNat) (k : Int) 80 ((⟨b9, 0, none⟩ : Addr).add ((k : Int).toNat * 80)), .idx (some ((⟨b9, 0, none⟩ : Addr).add ((k : Int).toNat * 80))) 80 x18 1 (((⟨b9, 0, none⟩ : Addr).add ((k : Int).toNat * 80)).add (x18.toNat * 1)), .ld (((⟨b9, 0, none⟩ : Addr).add ((k : Int).toNat * 80)).add (x18.toNat * 1)) (iv ((bwdR s rs s.hours.toNat) k x18.toNat)), .ld ⟨b12, 0, none⟩ (iv ((trkS s rs k).2)), .und (((bwdR s rs s.hours.toNat) k x18.toNat) == (trkS s rs k).2) (.ld ⟨b14, 0, none⟩ (iv (k : Int))), .und ((((bwdR s rs s.hours.toNat) k x18.toNat) == (trkS s rs k).2) && (!((k : Int) == 0))) (.lds ⟨b7, 0, none⟩ (sL7 s v b4)), .und ((((bwdR s rs s.hours.toNat) k x18.toNat) == (trkS s rs k).2) && (!((k : Int) == 0))) (.ld ⟨b14, 0, none⟩ (iv (k : Int))), .und ((((bwdR s rs s.hours.toNat) k x18.toNat) == (trkS s rs k).2) && (!((k : Int) == 0))) (.rng ((k : Int) - 1)), .und ((((bwdR s rs s.hours.toNat) k x18.toNat) == (trkS s rs k).2) && (!((k : Int) == 0))) (.lds ⟨b7, 0, none⟩ (sL7 s v b4)), .und ((((bwdR s rs s.hours.toNat) k x18.toNat) == (trkS s rs k).2) && (!((k : Int) == 0))) (.ld ⟨b2, 0, none⟩ (.slice p_ k c_)), .und ((((bwdR s rs s.hours.toNat) k x18.toNat) == (trkS s rs k).2) && (!((k : Int) == 0))) (.ld ⟨b14, 0, none⟩ (iv (k : Int))), .und ((((bwdR s rs s.hours.toNat) k x18.toNat) == (trkS s rs k).2) && (!((k : Int) == 0))) (.rng ((k : Int) - 1)), .und ((((bwdR s rs s.hours.toNat) k x18.toNat) == (trkS s rs k).2) && (!((k : Int) == 0))) (.idx p_ k ((k : Int) - 1) 1 (adr p_ 1 ((k : Int) - 1))), .und ((((bwdR s rs s.hours.toNat) k x18.toNat) == (trkS s rs k).2) && (!((k : Int) == 0))) (.ld (adr p_ 1 ((k : Int) - 1)) (iv ((trkS s rs k).1.getD ((k : Int) - 1).toNat default))), .und ((((bwdR s rs s.hours.toNat) k x18.toNat) == (trkS s rs k).2) && (!((k : Int) == 0))) (.call 50 #[.agg (sS7 s v b4), iv ((trkS s rs k).1.getD ((k : Int) - 1).toNat default)] (.agg #[iv ((pl s ((trkS s rs k).1.getD ((k : Int) - 1).toNat default)).1), iv ((pl s ((trkS s rs k).1.getD ((k : Int) - 1).toNat default)).2)])), .und ((((bwdR s rs s.hours.toNat) k x18.toNat) == (trkS s rs k).2) && (!((k : Int) == 0))) (.lds ⟨b7, 0, none⟩ (sL7 s v b4)), .und ((((bwdR s rs s.hours.toNat) k x18.toNat) == (trkS s rs k).2) && (!((k : Int) == 0))) (.call 50 #[.agg (sS7 s v b4), iv x18] (.agg #[iv ((pl s x18).1), iv ((pl s x18).2)])), .und ((((bwdR s rs s.hours.toNat) k x18.toNat) == (trkS s rs k).2) && (!((k : Int) == 0))) (.call 51 #[.agg (sS7 s v b4), iv ((k : Int) - 1), .agg #[iv ((pl s ((trkS s rs k).1.getD ((k : Int) - 1).toNat default)).1), iv ((pl s ((trkS s rs k).1.getD ((k : Int) - 1).toNat default)).2)], .agg #[iv ((pl s x18).1), iv ((pl s x18).2)]] (.bool (stepP s ((k : Int) - 1) (pl s ((trkS s rs k).1.getD ((k : Int) - 1).toNat default)) (pl s x18))))]) [4, 5, 6, 7, 9, 10, 11, 12, 13, 36, 37, 42, 74] (.cons (ldo hO.st 7 rfl 0 rfl) <| .cons (ldo hO.st 11 rfl 0 rfl) <| .cons (ixa (by omega) (by omega)) <| .cons (ixa (by omega) (by omega)) <| .cons (ldM (G := (bwdR s rs s.hours.toNat)) (h := (k : Int)) (c := x18) hO.st 6 rfl (by omega) (by omega) (by omega) (by omega)) <| .cons (ldo hO.st 8 rfl 0 rfl) <| .cons (fun hg => (ldo hO.st 11 rfl 0 rfl)) <| .cons (fun hg => (ldso hO.st 4 rfl 0 rfl)) <| .cons (fun hg => (ldo hO.st 11 rfl 0 rfl)) <| .cons (fun hg_ => by have h0_ : 0 < k := (by have h_ := hg_; simp at h_; omega); have hpc_ := trk_cell hv hr hm (k := k) (by omega) h0_; exact (rg (by omega))) <| .cons (fun hg => (ldso hO.st 4 rfl 0 rfl)) <| .cons (fun hg => (ldo hO.st 1 rfl 0 rfl)) <| .cons (fun hg => (ldo hO.st 11 rfl 0 rfl)) <| .cons (fun hg_ => by have h0_ : 0 < k := (by have h_ := hg_; simp at h_; omega); have hpc_ := trk_cell hv hr hm (k := k) (by omega) h0_; exact (rg (by omega))) <| .cons (fun hg_ => by have h0_ : 0 < k := (by have h_ := hg_; simp at h_; omega); have hpc_ := trk_cell hv hr hm (k := k) (by omega) h0_; exact (ix (enc := encI) (xs := (trkS s rs k).1) ((rd_row (fun _ => rfl) (by decide) hO 9 rfl (by omega))) (by omega) (by omega))) <| .cons (fun hg_ => by have h0_ : 0 < k := (by have h_ := hg_; simp at h_; omega); have hpc_ := trk_cell hv hr hm (k := k) (by omega) h0_; exact (ldR (enc := encI) (xs := (trkS s rs k).1) (a := p_) (i := ((k : Int) - 1)) (fun x_ hx_ => (rd_row (fun _ => rfl) (by decide) (hO.st x_ hx_) 9 rfl (by omega))) (by omega) (by omega) 0 rfl)) <| .cons (fun hg_ => by have h0_ : 0 < k := (by have h_ := hg_; simp at h_; omega); have hpc_ := trk_cell hv hr hm (k := k) (by omega) h0_; exact (fun w _ => place_calls s v b4 ((trkS s rs k).1.getD ((k : Int) - 1).toNat default) w hv (by omega))) <| .cons (fun hg => (ldso hO.st 4 rfl 0 rfl)) <| .cons (fun hg_ => by have h0_ : 0 < k := (by have h_ := hg_; simp at h_; omega); have hpc_ := trk_cell hv hr hm (k := k) (by omega) h0_; exact (fun w _ => place_calls s v b4 x18 w hv (by omega))) <| .cons (fun hg_ => by have h0_ : 0 < k := (by have h_ := hg_; simp at h_; omega); have hpc_ := trk_cell hv hr hm (k := k) (by omega) h0_; exact (fun w hE => steps_calls s v b4 ((k : Int) - 1) (pl s ((trkS s rs k).1.getD ((k : Int) - 1).toNat default)) (pl s x18) w (hs.upM (hO.st w hE).kp nom (Nat.le_refl _)) hv (by omega) (pl_bd (by omega) (by omega) (by omega) (by omega)) (pl_bd (by omega) (by omega) (by omega) (by omega)))) <| .nil) (by kernel_rfl) (by kernel_rfl) fun a w hF hE => ?_)
            replace hO := hO.ext hE; clear hE
            rcases Bool.eq_false_or_eq_true (cond (((bwdR s rs s.hours.toNat) k x18.toNat) == (trkS s rs k).2) (cond ((k : Int) == 0) true (stepP s ((k : Int) - 1) (pl s ((trkS s rs k).1.getD ((k : Int) - 1).toNat default)) (pl s x18))) false) with hc19 | hc19
            · refine (W_true ((evOp hF (by kernel_rfl)).trans (congrArg Value.bool hc19)) ?_)
              refine W_seq (region_seq ?_)
              refine seq_quiet {} TBok hF (F' := [(4, iv 0), (5, pv b2), (6, iv 0), (7, pv b7), (9, pv b10), (10, iv (fewF (allR s rs s.hours.toNat) ((s.hours.toNat) - 1))), (11, pv b12), (12, pv b14), (13, iv x18), (36, iv s.hours), (37, iv (k : Int)), (42, .func (.func 84) #[] #[pv b15]), (75, .slice p_ k c_), (76, iv x18)]) (rs := [.ld ⟨b2, 0, none⟩ (.slice p_ k c_)]) [0, 1] [2, 3, 4] [4, 5, 6, 7, 9, 10, 11, 12, 13, 36, 37, 42, 75, 76] (.cons (ldo hO.st 1 rfl 0 rfl) <| .nil) (by kernel_rfl) fun a w hF hE => ?_
              replace hO := hO.ext hE; clear hE
              refine op_bsl (i := 2) (t := 22) (e := 3) (len := 1) (ps := [(0, iv x18)]) (d := 77) (sz := 1) (cs := #[iv x18]) (z := iv 0) hF hO (by kernel_rfl) (by kernel_rfl) (by kernel_rfl) (by kernel_rfl) (by kernel_rfl) fun a w b20 hF hO _ => ?_
              refine op_appR (i := 3) (t := 22) (ty := 22) (e := 3) (d := 78) rowT22 hF hO (by kernel_rfl) 9 rfl 15 rfl (by kernel_rfl) (by omega) fun a w p21 c22 hF hO hx => ?_
              clear hx
              refine op_store (i := 4) (t := 22) (p := ⟨b2, 0, none⟩) (v := .slice p21 (k + 1) c22) (off := 0) (sz := 1) (cs' := #[.slice p21 (k + 1) c22]) hF hO (by kernel_rfl) 1 rfl rfl (by kernel_rfl) (by kernel_rfl) (by kernel_rfl) fun a w hF hO _ => ?_
              replace hF := hF.sel [4, 5, 6, 7, 9, 10, 11, 12, 13, 36, 37, 42]
              replace hF : Fr 93 [] [(4, iv 0), (5, pv b2), (6, iv 0), (7, pv b7), (9, pv b10), (10, iv (fewF (allR s rs s.hours.toNat) ((s.hours.toNat) - 1))), (11, pv b12), (12, pv b14), (13, iv x18), (36, iv s.hours), (37, iv (k : Int)), (42, .func (.func 84) #[] #[pv b15])] a := hF
              refine W_seq (draw_start (R := none_) mixed [6] 7 (by kernel_rfl) fun w hS => ?_)
              replace hO := hO.ext hS
              refine draw_q {} TBok hF hS (F' := [(4, iv 0), (5, pv b2), (6, iv 0), (7, pv b7), (9, pv b10), (10, iv (fewF (allR s rs s.hours.toNat) ((s.hours.toNat) - 1))), (11, pv b12), (12, pv b14), (36, iv s.hours), (37, iv (k : Int)), (42, .func (.func 84) #[] #[pv b15]), (84, iv ((trkS s rs k).2 - (untr s rs (k : Int) x18)))]) (rs := [.ld ⟨b12, 0, none⟩ (iv ((trkS s rs k).2)), .lds ⟨b7, 0, none⟩ (sL8 s v b4 p5 n c6), .ld ⟨b14, 0, none⟩ (iv (k : Int)), .call 52 #[.agg (sS8 s v b4 p5 n c6), iv (k : Int), iv x18] (iv (untr s rs (k : Int) x18)), .rng ((trkS s rs k).2 - (untr s rs (k : Int) x18))]) [0, 1, 2, 3, 4, 5] 7 1 (by kernel_rfl) #[true, true, true, true, true, true, false] [4, 5, 6, 7, 9, 10, 11, 12, 36, 37, 42, 84] (.cons (ldo hO.st 8 rfl 0 rfl) <| .cons (ldso hO.st 4 rfl 0 rfl) <| .cons (ldo hO.st 11 rfl 0 rfl) <| .cons (fun w hE => untrue_calls s v b4 p5 n c6 rs (k : Int) x18 w ⟨(hs.upM (hO.st w hE).kp nom (Nat.le_refl _)), MapRo.of (hO.st w hE) 2 rfl, rd_row (fun _ => rfl) (by decide) (hO.st w hE) 3 rfl (by omega)⟩ hv hr (by omega)) <| .cons (rg (by omega)) <| .nil) (by kernel_rfl) (by kernel_rfl) fun a hF => ?_
              replace hS := Kp.refl none_ w
              refine any_pick (rs := [6]) (by kernel_rfl) (by simp) fun w hE => all1 ?_
              replace hO := hO.ext hE; replace hS := hS.trans (Ext.kp hE)
              refine op_store (i := 6) (t := 3) (p := ⟨b12, 0, none⟩) (v := iv ((trkS s rs k).2 - (untr s rs (k : Int) x18))) (off := 0) (sz := 1) (cs' := #[iv ((trkS s rs k).2 - (untr s rs (k : Int) x18))]) hF hO (by kernel_rfl) 8 rfl rfl (by kernel_rfl) (by kernel_rfl) (by kernel_rfl) fun a w hF hO _ => ⟨.inl rfl, ?_⟩
              replace hO : Own w0 none_ [cel b1 (sS6 s v) 25, cel b2 #[.slice p21 (k + 1) c22] 22, mapT b4 (.bool false) Value.bool (landF s), rowR 105 6 (.slice p5 n c6) n ((rqs s rs).flatMap encRq), cel b7 (sS8 s v b4 p5 n c6) 80, cel b8 (arrL ((s.hours.toNat) * 80) (flat (allR s rs s.hours.toNat))).toArray 99, cel b9 (arrL ((s.hours.toNat) * 80) (flat (bwdR s rs s.hours.toNat))).toArray 99, cel b10 #[.slice (some ⟨b9, 0, none⟩) (s.hours.toNat) (s.hours.toNat)] 92, cel b12 #[iv ((trkS s rs k).2 - (untr s rs (k : Int) x18))] 3, rowR 3 1 (.slice p21 (k + 1) c22) (k + 1) (((trkS s rs k).1.flatMap encI) ++ (#[iv x18] : Array Value).toList), dfs Ds, cel b14 #[iv (k : Int)] 3, cel b15 (sS7 s v b4) 77, pt D16 (.deferred (some [])), pt (D16 + 1) (.loop { lr17 with state := .busy }), cel b20 #[iv x18] 3] w := hO
              refine any_done (by kernel_rfl) (fun w hE => ?_) _
              replace hO := hO.ext hE
              replace hF := hF.sel [4, 5, 6, 7, 9, 10, 11, 12, 36, 37, 42]
              replace hF : Fr 93 [] [(4, iv 0), (5, pv b2), (6, iv 0), (7, pv b7), (9, pv b10), (10, iv (fewF (allR s rs s.hours.toNat) ((s.hours.toNat) - 1))), (11, pv b12), (12, pv b14), (36, iv s.hours), (37, iv (k : Int)), (42, .func (.func 84) #[] #[pv b15])] a := hF
              refine (W_exit ?_)
              show roundPost Try.prog (D16 + 1) (fun e w => ∃ b, e = .returned (.bool b) ∧ Rr b w) (Exit.exit 1) a w
              replace hO := hO.drop1 15
              have hft : fitB s rs k ((trkS s rs k).1.getD ((k : Int) - 1).toNat default) (trkS s rs k).2 x18 = true := hc19
              have hxe : x18 = trkC s rs k := by rw [List.find?_cons_of_pos (p := (fitB s rs k ((trkS s rs k).1.getD ((k : Int) - 1).toNat default) (trkS s rs k).2)) hft] at hfd; injection hfd
              replace hO : Own w0 none_ [cel b1 (sS6 s v) 25, cel b2 #[.slice p21 (k + 1) c22] 22, mapT b4 (.bool false) Value.bool (landF s), rowR 105 6 (.slice p5 n c6) n ((rqs s rs).flatMap encRq), cel b7 (sS8 s v b4 p5 n c6) 80, cel b8 (arrL ((s.hours.toNat) * 80) (flat (allR s rs s.hours.toNat))).toArray 99, cel b9 (arrL ((s.hours.toNat) * 80) (flat (bwdR s rs s.hours.toNat))).toArray 99, cel b10 #[.slice (some ⟨b9, 0, none⟩) (s.hours.toNat) (s.hours.toNat)] 92, cel b12 #[iv ((trkS s rs k).2 - (untr s rs (k : Int) x18))] 3, rowR 3 1 (.slice p21 (k + 1) c22) (k + 1) (((trkS s rs k).1.flatMap encI) ++ (#[iv x18] : Array Value).toList), dfs Ds, cel b14 #[iv (k : Int)] 3, cel b15 (sS7 s v b4) 77, pt D16 (.deferred (some [])), pt (D16 + 1) (.loop { lr17 with state := .busy })] w := hO
              replace hO : Own w0 none_ [cel b1 (sS6 s v) 25, cel b2 #[.slice p21 (k + 1) c22] 22, mapT b4 (.bool false) Value.bool (landF s), rowR 105 6 (.slice p5 n c6) n ((rqs s rs).flatMap encRq), cel b7 (sS8 s v b4 p5 n c6) 80, cel b8 (arrL ((s.hours.toNat) * 80) (flat (allR s rs s.hours.toNat))).toArray 99, cel b9 (arrL ((s.hours.toNat) * 80) (flat (bwdR s rs s.hours.toNat))).toArray 99, cel b10 #[.slice (some ⟨b9, 0, none⟩) (s.hours.toNat) (s.hours.toNat)] 92, cel b12 #[iv ((trkS s rs (k + 1)).2)] 3, rowR 3 1 (.slice p21 (k + 1) c22) (k + 1) ((trkS s rs (k + 1)).1.flatMap encI), dfs Ds, cel b14 #[iv (k : Int)] 3, cel b15 (sS7 s v b4) 77, pt D16 (.deferred (some [])), pt (D16 + 1) (.loop { lr17 with state := .busy })] w := hO.cast (by rw [trkS_succ, ← hxe, List.flatMap_append] <;> rfl)
              obtain ⟨w, he, hO⟩ := end_round (P := Try.prog) (some (.exit 1)) hO 14 rfl
              refine round_exit he ?_
              rw [hRr]
              exact ⟨p21, c22, hO⟩
            · refine (W_false ((evOp hF (by kernel_rfl)).trans (congrArg Value.bool hc19)) ?_)
              refine (W_skip ?_)
              show roundPost Try.prog (D16 + 1) (fun e w => ∃ b, e = .returned (.bool b) ∧ Rr b w) (Exit.normal) a w
              have hft : fitB s rs k ((trkS s rs k).1.getD ((k : Int) - 1).toNat default) (trkS s rs k).2 x18 = false := hc19
              obtain ⟨w, he, hO⟩ := end_round (P := Try.prog) none hO 14 rfl
              refine round_next he ?_
              rw [List.find?_cons_of_neg (p := (fitB s rs k ((trkS s rs k).1.getD ((k : Int) - 1).toNat default) (trkS s rs k).2)) (by rw [hft]; simp)] at hfd
              rw [hRr]
              exact ⟨hfd, fun y hy => hmem y (List.mem_cons_of_mem _ hy), hO.cast (by rw [hlr]; rfl)⟩
          · exact ⟨trk_find hv hr hm (by omega), fun y hy => hy, hO⟩
          clear hO
          rintro e w ⟨he, hJ | hS⟩
          · obtain ⟨hfd, hmem, hO⟩ := hJ
            subst he
            simp at hfd
          · obtain ⟨p_, c_, hO⟩ := hS
            subst he
            refine ⟨_, rfl, { lr17 with state := .done, pending := some (.exit 1) }, hO.get 14 rfl, by rw [hlr]; simp [loopR], .inr ⟨rfl, fun a hF => ?_⟩⟩
            replace hO := hO.put 14 rfl (.loop { { lr17 with state := .done, pending := some (.exit 1) } with state := .exhausted })
            generalize w.putObj (D16 + 1) (.loop { { lr17 with state := .done, pending := some (.exit 1) } with state := .exhausted }) = w at hO ⊢
            replace hO := hO.drop1 14
            replace hO : Own w0 none_ [cel b1 (sS6 s v) 25, cel b2 #[.slice p_ (k + 1) c_] 22, mapT b4 (.bool false) Value.bool (landF s), rowR 105 6 (.slice p5 n c6) n ((rqs s rs).flatMap encRq), cel b7 (sS8 s v b4 p5 n c6) 80, cel b8 (arrL ((s.hours.toNat) * 80) (flat (allR s rs s.hours.toNat))).toArray 99, cel b9 (arrL ((s.hours.toNat) * 80) (flat (bwdR s rs s.hours.toNat))).toArray 99, cel b10 #[.slice (some ⟨b9, 0, none⟩) (s.hours.toNat) (s.hours.toNat)] 92, cel b12 #[iv ((trkS s rs (k + 1)).2)] 3, rowR 3 1 (.slice p_ (k + 1) c_) (k + 1) ((trkS s rs (k + 1)).1.flatMap encI), dfs Ds, cel b14 #[iv (k : Int)] 3, cel b15 (sS7 s v b4) 77, pt D16 (.deferred (some []))] w := hO
            replace hO := hO.absorb 10 13 rfl rfl (by decide)
            replace hF : Fr 93 ((D16 :: Ds).map mk) [(4, iv 0), (5, pv b2), (6, iv 0), (7, pv b7), (9, pv b10), (10, iv (fewF (allR s rs s.hours.toNat) ((s.hours.toNat) - 1))), (11, pv b12), (12, pv b14), (36, iv s.hours), (37, iv (k : Int)), (42, .func (.func 84) #[] #[pv b15])] a := hF
            refine (region_q {} TBok hF (F' := [(4, iv 0), (5, pv b2), (6, iv 0), (7, pv b7), (9, pv b10), (10, iv (fewF (allR s rs s.hours.toNat) ((s.hours.toNat) - 1))), (11, pv b12), (36, iv s.hours), (37, iv ((k : Int) + 1))]) (rs := [.rng ((k : Int) + 1)]) [4, 5, 6, 7, 9, 10, 11, 36, 37] (.cons (rg (by omega)) <| .nil) (by kernel_rfl) fun a w hF hE => ?_)
            replace hO := hO.ext hE; clear hE
            replace hO := hO.drop1 12
            replace hO := hO.drop1 11
            exact ⟨_, by omega, k + 1, D16 :: Ds, p_, c_, rfl, by omega, hF, hO⟩
        · refine W_seq (W_false ((evOp hF (by kernel_rfl)).trans (congrArg Value.bool hc13)) ?_)
          have hc13_ := of_decide_eq_false hc13
          refine (W_exit ?_)
          refine W_seq (draw_start (R := none_) mixed [8, 9] 10 (by kernel_rfl) fun w hS => ?_)
          replace hO := hO.ext hS
          refine draw_q { md := [(6, 3)] } TBok hF hS (F' := [(4, iv (fewF (allR s rs s.hours.toNat) ((s.hours.toNat) - 1))), (5, pv b2), (6, iv 0), (92, .slice p_ k k)]) (rs := [.ld ⟨b2, 0, none⟩ (.slice p_ k c_), .ld ⟨b2, 0, none⟩ (.slice p_ k c_), .ld ⟨b2, 0, none⟩ (.slice p_ k c_), .raw (Instr.sliceAt 22 (.slice p_ k c_) none (some (iv (k : Int))) (some (iv (k : Int)))) (.slice p_ k k)]) [0, 1, 2, 3, 4, 5, 6, 7] 10 2 (by kernel_rfl) #[true, true, true, true, true, true, true, true, false, false] [4, 5, 6, 92] (.cons (ldo hO.st 1 rfl 0 rfl) <| .cons (ldo hO.st 1 rfl 0 rfl) <| .cons (ldo hO.st 1 rfl 0 rfl) <| .cons (raw_sliceCap rowT22 (row_cap hO 9 rfl).1) <| .nil) (by kernel_rfl) (by kernel_rfl) fun a hF => ?_
          replace hS := Kp.refl none_ w
          refine any_pick (rs := [8]) (by kernel_rfl) (by simp) fun w hE => all1 ?_
          replace hO := hO.ext hE; replace hS := hS.trans (Ext.kp hE)
          refine op_store (i := 8) (t := 22) (p := ⟨b2, 0, none⟩) (v := .slice p_ k k) (off := 0) (sz := 1) (cs' := #[.slice p_ k k]) hF hO (by kernel_rfl) 1 rfl rfl (by kernel_rfl) (by kernel_rfl) (by kernel_rfl) fun a w hF hO _ => ⟨.inl rfl, ?_⟩
          replace hO : Own w0 none_ [cel b1 (sS6 s v) 25, cel b2 #[.slice p_ k k] 22, mapT b4 (.bool false) Value.bool (landF s), rowR 105 6 (.slice p5 n c6) n ((rqs s rs).flatMap encRq), cel b7 (sS8 s v b4 p5 n c6) 80, cel b8 (arrL ((s.hours.toNat) * 80) (flat (allR s rs s.hours.toNat))).toArray 99, cel b9 (arrL ((s.hours.toNat) * 80) (flat (bwdR s rs s.hours.toNat))).toArray 99, cel b10 #[.slice (some ⟨b9, 0, none⟩) (s.hours.toNat) (s.hours.toNat)] 92, cel b12 #[iv ((trkS s rs k).2)] 3, rowR 3 1 (.slice p_ k c_) k ((trkS s rs k).1.flatMap encI), dfs Ds] w := hO
          refine any_pick (rs := [9]) (by kernel_rfl) (by simp) fun w hE => all1 ?_
          replace hO := hO.ext hE
          refine seq_quiet {} TBok hF (F' := [(4, iv (fewF (allR s rs s.hours.toNat) ((s.hours.toNat) - 1))), (5, pv b2), (6, iv 0)]) (rs := []) [9] [] [4, 5, 6] .nil (by kernel_rfl) fun a w hF hE => ?_
          refine ⟨.inl rfl, ?_⟩
          replace hO := hO.ext hE; clear hE
          refine any_done (by kernel_rfl) (fun w hE => ?_) _
          replace hO := hO.ext hE
          replace hF := hF.sel [4, 5, 6]
          replace hF : Fr 93 (Ds.map mk) [(4, iv (fewF (allR s rs s.hours.toNat) ((s.hours.toNat) - 1))), (5, pv b2), (6, iv 0)] a := hF
          refine W_ret ?_
          show bodyPostM (FW none) 0 _ _ _ Exit.ret a w
          obtain ⟨w, hs, hO⟩ := shuts _ hO 10 rfl
          have hkk : k = s.hours.toNat := by omega
          replace hO := hO.row_rd (enc := encI) (fun _ => rfl) (by decide) 9 rfl (by omega)
          have hres : leastR s rs = (minT s rs, firstT s rs, 0) := by unfold leastR; rw [if_neg (by omega), if_neg hmt]
          have htl := trkS_len s rs k
          exact leave_r TBok hF hs (vs := [iv (fewF (allR s rs s.hours.toNat) ((s.hours.toNat) - 1)), .slice p_ k k, iv 0]) (rs := [.ld ⟨b2, 0, none⟩ (.slice p_ k k)]) (.cons (rdo hO 1 rfl 0 rfl) <| .nil) (by kernel_rfl) ⟨p_, k, k, by rw [hres, hkk]; exact trkS_len s rs _, by rw [hres]; rfl, by rw [hres, firstT, ← hkk]; exact hO.sel [9] (by decide)⟩
    · have her := err_rep hv hr
      refine op_call (i := 2) (f := 47) (args := #[.agg (sS6 s v), .slice p n c]) (d := some 17) TBok (by kernel_rfl) hF (by kernel_rfl) (read_rep s v rs p n c _ (hs.upM hO.kp nom (Nat.le_refl _)) hv (hx.upM hO.kp nom (Nat.le_refl _)) hr) fun e w hR => ?_
      obtain ⟨he, hE⟩ := hR
      refine ⟨_, he, fun a hF => ?_⟩
      replace hO := hO.ext hE; clear hE he
      refine seq_quiet {} TBok hF (F' := [(4, iv 0), (5, pv b2), (6, iv 0), (18, .agg #[iv 0, iv 0, .slice none 0 0, iv 0, .slice none 0 0, iv 0, .map none, .slice none 0 0]), (19, iv 11)]) (rs := []) [3, 4, 5] [6, 7, 8] [4, 5, 6, 18, 19] .nil (by kernel_rfl) fun a w hF hE => ?_
      replace hO := hO.ext hE; clear hE
      refine op_alloc (i := 6) (t := 80) (d := 7) (z := .agg #[iv 0, iv 0, .slice none 0 0, iv 0, .slice none 0 0, iv 0, .map none, .slice none 0 0]) hF hO (by kernel_rfl) (by kernel_rfl) fun a w b23 hF hO _ => ?_
      refine op_store (i := 7) (t := 80) (p := ⟨b23, 0, none⟩) (v := .agg #[iv 0, iv 0, .slice none 0 0, iv 0, .slice none 0 0, iv 0, .map none, .slice none 0 0]) (off := 0) (sz := 8) (cs' := #[iv 0, iv 0, .slice none 0 0, iv 0, .slice none 0 0, iv 0, .map none, .slice none 0 0]) hF hO (by kernel_rfl) 2 rfl rfl (by kernel_rfl) (by kernel_rfl) (by kernel_rfl) fun a w hF hO _ => ?_
      replace hO : Own w0 none_ [cel b1 (sS6 s v) 25, cel b2 #[.slice none 0 0] 22, cel b23 #[iv 0, iv 0, .slice none 0 0, iv 0, .slice none 0 0, iv 0, .map none, .slice none 0 0] 80] w := hO
      refine seq_quiet {} TBok hF (F' := [(4, iv 0), (5, pv b2), (6, iv 11), (7, pv b23)]) (rs := []) [8] [] [4, 5, 6, 7] .nil (by kernel_rfl) fun a w hF hE => ?_
      replace hO := hO.ext hE; clear hE
      refine W_seq ?_
      refine W_seq (region_q {} TBok hF (F' := [(4, iv 0), (5, pv b2), (6, iv 11), (7, pv b23), (21, .bool true)]) (rs := []) [4, 5, 6, 7, 21] .nil (by kernel_rfl) fun a w hF hE => ?_)
      replace hO := hO.ext hE; clear hE
      refine (W_true (evOp hF (by kernel_rfl)) ?_)
      refine W_seq (region_seq ?_)
      refine seq_quiet {} TBok hF (F' := [(4, iv 0), (5, pv b2), (6, iv 11), (7, pv b23), (22, iv 11)]) (rs := []) [0, 1] [2, 3] [4, 5, 6, 7, 22] .nil (by kernel_rfl) fun a w hF hE => ?_
      replace hO := hO.ext hE; clear hE
      refine op_store (i := 2) (t := 22) (p := ⟨b2, 0, none⟩) (v := .slice none 0 0) (off := 0) (sz := 1) (cs' := #[.slice none 0 0]) hF hO (by kernel_rfl) 1 rfl rfl (by kernel_rfl) (by kernel_rfl) (by kernel_rfl) fun a w hF hO _ => ?_
      refine seq_quiet {} TBok hF (F' := [(4, iv 0), (5, pv b2), (6, iv 11), (7, pv b23)]) (rs := []) [3] [] [4, 5, 6, 7] .nil (by kernel_rfl) fun a w hF hE => ?_
      replace hO := hO.ext hE; clear hE
      refine W_ret ?_
      show bodyPostM (FW none) 0 _ _ _ Exit.ret a w
      have hres : leastR s rs = (0, [], 11) := by unfold leastR; rw [her, if_pos (by decide)]
      exact leave_r TBok hF (.nil _) (vs := [iv 0, .slice none 0 0, iv 11]) (rs := [.ld ⟨b2, 0, none⟩ (.slice none 0 0)]) (.cons (rdo hO 1 rfl 0 rfl) <| .nil) (by kernel_rfl) ⟨none, 0, 0, by rw [hres]; rfl, by rw [hres]; rfl, by rw [hres]; exact (hO.nilRd encI 1).sel [3] (by decide)⟩

end Go.Proofs.Ytgihgcclabodbaa.DK
