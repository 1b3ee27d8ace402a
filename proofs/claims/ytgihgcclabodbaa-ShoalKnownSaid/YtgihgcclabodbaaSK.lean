/- Walks: what is asked of casts. Printed by my gen.py out of shoal/p.py. -/
import Derived.Test.YtgihgcclabodbaaSZ
import Derived.Test.YtgihgcclabodbaaSAsk
import Derived.Test.YtgihgcclabodbaaKY
namespace Go.Proofs.Ytgihgcclabodbaa.DK
open Go Go.Proofs
set_option linter.unusedVariables false
set_option linter.unusedSimpArgs false

set_option maxHeartbeats 4000000 in
set_option maxRecDepth 100000 in
theorem covers_calls (x : Ct) (q : Int × Int) (w0 : World) (hp : plB (x.c, x.r)) (hq : plB q) :
    Calls Try.prog 68 #[.agg #[iv x.c, iv x.r, iv x.far], .agg #[iv q.1, iv q.2]] w0 (fun e w' => e = .returned (.bool (covB x q)) ∧ Ext w0 w') := by
  refine calls_of_W Try.func68 rfl (by kernel_rfl) (args := [.agg #[iv x.c, iv x.r, iv x.far], .agg #[iv q.1, iv q.2]]) fun a hF => ?_
  replace hF : Fr 12 [] [(0, .agg #[iv x.c, iv x.r, iv x.far]), (1, .agg #[iv q.1, iv q.2])] a := hF
  have hO : Own w0 none_ [] w0 := Own.start w0 _
  refine W_seq (region_seq ?_)
  refine op_box (i := 0) (t := 114) (v := .agg #[iv x.c, iv x.r, iv x.far]) (d := 2) hF hO (by kernel_rfl) fun a w b1 hF hO _ => ?_
  refine op_box (i := 1) (t := 85) (v := .agg #[iv q.1, iv q.2]) (d := 3) hF hO (by kernel_rfl) fun a w b2 hF hO _ => ?_
  refine seq_quiet {} TBok hF (F' := [(2, pv b1), (3, pv b2), (4, .bool false)]) (rs := []) [2] [] [2, 3, 4] .nil (by kernel_rfl) fun a w hF hE => ?_
  replace hO := hO.ext hE; clear hE
  refine W_seq (region_d {} mixed TBok hF (F' := [(4, .bool (decide ((farP (x.c, x.r) q) ≤ x.far)))]) (rs := [.lds ⟨b1, 0, none⟩ [iv x.c, iv x.r], .lds ⟨b2, 0, none⟩ [iv q.1, iv q.2], .call 79 #[.agg #[iv x.c, iv x.r], .agg #[iv q.1, iv q.2]] (iv (farP (x.c, x.r) q)), .ld ⟨b1, 2, none⟩ (iv x.far)]) [4] (.cons (ldso hO.st 0 rfl 0 rfl) <| .cons (ldso hO.st 1 rfl 0 rfl) <| .cons (fun w _ => far_calls (x.c, x.r) q w hp hq) <| .cons (ldo hO.st 0 rfl 2 rfl) <| .nil) (by kernel_rfl) (by kernel_rfl) fun a w hF hE => ?_)
  replace hO := hO.ext hE; clear hE
  refine W_ret ?_
  show bodyPostM (FW none) 0 _ _ _ Exit.ret a w
  exact leave_r TBok hF (.nil _) (vs := [.bool (decide ((farP (x.c, x.r) q) ≤ x.far))]) (rs := []) .nil (by kernel_rfl) ⟨rfl, hO.kp⟩

set_option maxHeartbeats 4000000 in
set_option maxRecDepth 100000 in
theorem asked_calls (s : Sea) (v : SV) (rs : List Rp) (p : Option Addr) (n c : Nat) (wr h : Int) (cs : List Cs) (cp : Option Addr) (cn cc : Nat) (w0 : World) (hs : SeaR w0.heap.size w0 v s) (hx : Rd encRp 4 w0.heap.size w0 p n rs) (hcs : Rd encCs 2 w0.heap.size w0 cp cn cs) (hci : ∀ i, i < cs.length → i64 (cs.getD i default).cell) (hcn : cn ≤ 8796093022207) :
    Calls Try.prog 67 #[.agg (sS6 s v), .slice p n c, iv wr, iv h, .slice cp cn cc] w0 (fun e w' => ∃ p1 n1 c1 p2 n2 c2, (askedR s rs wr h cs).1.length = n1 ∧ (askedR s rs wr h cs).2.1.length = n2 ∧ e = .returned (.tuple #[.slice p1 n1 c1, .slice p2 n2 c2, iv (askedR s rs wr h cs).2.2]) ∧ Own w0 none_ [rdR encPl 2 p1 n1 (askedR s rs wr h cs).1, rdR encCt 3 p2 n2 (askedR s rs wr h cs).2.1] w') := by
  have hl1 := hs.land.len; have hl2 := hs.drift.len; have hs1 := hs.land.size; have hs2 := hs.drift.size; have hr_ := hs.rg; unfold i64 at hr_; have hl3 := hx.len; have hs3 := hx.size; have hl4 := hcs.len; have hs4 := hcs.size
  refine calls_of_W Try.func67 rfl (by kernel_rfl) (args := [.agg (sS6 s v), .slice p n c, iv wr, iv h, .slice cp cn cc]) fun a hF => ?_
  replace hF : Fr 101 [] [(0, .agg (sS6 s v)), (1, .slice p n c), (2, iv wr), (3, iv h), (4, .slice cp cn cc)] a := hF
  have hO : Own w0 none_ [] w0 := Own.start w0 _
  refine W_seq (region_seq ?_)
  refine op_box (i := 0) (t := 25) (v := .agg (sS6 s v)) (d := 5) hF hO (by kernel_rfl) fun a w b1 hF hO _ => ?_
  refine seq_quiet {} TBok hF (F' := [(1, .slice p n c), (2, iv wr), (3, iv h), (4, .slice cp cn cc), (5, pv b1), (10, .slice none 0 0), (11, .slice none 0 0), (12, iv 0)]) (rs := []) [1, 2, 3] [] [1, 2, 3, 4, 5, 10, 11, 12] .nil (by kernel_rfl) fun a w hF hE => ?_
  replace hO := hO.ext hE; clear hE
  refine W_seq (region_seq ?_)
  refine seq_quiet {} TBok hF (F' := [(2, iv wr), (3, iv h), (4, .slice cp cn cc), (10, .slice none 0 0), (11, .slice none 0 0), (12, iv 0), (24, .agg (sS6 s v)), (25, .slice p n c)]) (rs := [.lds ⟨b1, 0, none⟩ (sL6 s v)]) [0, 1] [2, 3, 4, 5, 6, 7, 8] [2, 3, 4, 10, 11, 12, 24, 25] (.cons (ldso hO.st 0 rfl 0 rfl) <| .nil) (by kernel_rfl) fun a w hF hE => ?_
  replace hO := hO.ext hE; clear hE
  rcases Bool.eq_false_or_eq_true (chk s != 0) with hck | hck
  · have hc0 := chk_no hck; have her := err_no (rs := rs) hc0
    refine op_call (i := 2) (f := 47) (args := #[.agg (sS6 s v), .slice p n c]) (d := some 26) TBok (by kernel_rfl) hF (by kernel_rfl) (read_no s v rs p n c _ (hs.upM hO.kp nom (Nat.le_refl _)) hc0 (hx.upM hO.kp nom (Nat.le_refl _))) fun e w hR => ?_
    obtain ⟨he, hE⟩ := hR
    refine ⟨_, he, fun a hF => ?_⟩
    replace hO := hO.ext hE; clear hE he
    refine seq_quiet {} TBok hF (F' := [(2, iv wr), (3, iv h), (4, .slice cp cn cc), (10, .slice none 0 0), (11, .slice none 0 0), (12, iv 0), (27, .agg #[iv 0, iv 0, .slice none 0 0, iv 0, .slice none 0 0, iv 0, .map none, .slice none 0 0]), (28, iv 10)]) (rs := []) [3, 4, 5] [6, 7, 8] [2, 3, 4, 10, 11, 12, 27, 28] .nil (by kernel_rfl) fun a w hF hE => ?_
    replace hO := hO.ext hE; clear hE
    refine op_alloc (i := 6) (t := 80) (d := 13) (z := .agg #[iv 0, iv 0, .slice none 0 0, iv 0, .slice none 0 0, iv 0, .map none, .slice none 0 0]) hF hO (by kernel_rfl) (by kernel_rfl) fun a w b2 hF hO _ => ?_
    refine op_store (i := 7) (t := 80) (p := ⟨b2, 0, none⟩) (v := .agg #[iv 0, iv 0, .slice none 0 0, iv 0, .slice none 0 0, iv 0, .map none, .slice none 0 0]) (off := 0) (sz := 8) (cs' := #[iv 0, iv 0, .slice none 0 0, iv 0, .slice none 0 0, iv 0, .map none, .slice none 0 0]) hF hO (by kernel_rfl) 1 rfl rfl (by kernel_rfl) (by kernel_rfl) (by kernel_rfl) fun a w hF hO _ => ?_
    refine seq_quiet {} TBok hF (F' := [(2, iv wr), (3, iv h), (4, .slice cp cn cc), (10, .slice none 0 0), (11, .slice none 0 0), (12, iv 0), (13, pv b2), (14, iv 10)]) (rs := []) [8] [] [2, 3, 4, 10, 11, 12, 13, 14] .nil (by kernel_rfl) fun a w hF hE => ?_
    replace hO := hO.ext hE; clear hE
    refine W_seq ?_
    refine W_seq (region_q {} TBok hF (F' := [(2, iv wr), (3, iv h), (4, .slice cp cn cc), (10, .slice none 0 0), (11, .slice none 0 0), (12, iv 0), (13, pv b2), (14, iv 10), (30, .bool true)]) (rs := []) [2, 3, 4, 10, 11, 12, 13, 14, 30] .nil (by kernel_rfl) fun a w hF hE => ?_)
    replace hO := hO.ext hE; clear hE
    refine (W_true (evOp hF (by kernel_rfl)) ?_)
    refine W_seq (region_q {} TBok hF (F' := [(2, iv wr), (3, iv h), (4, .slice cp cn cc), (10, .slice none 0 0), (11, .slice none 0 0), (12, iv 10), (13, pv b2), (14, iv 10)]) (rs := []) [2, 3, 4, 10, 11, 12, 13, 14] .nil (by kernel_rfl) fun a w hF hE => ?_)
    replace hO := hO.ext hE; clear hE
    refine W_ret ?_
    show bodyPostM (FW none) 0 _ _ _ Exit.ret a w
    have hres : askedR s rs wr h cs = ([], [], 10) := by unfold askedR; rw [her, if_pos (by decide)]
    exact leave_r TBok hF (.nil _) (vs := [.slice none 0 0, .slice none 0 0, iv 10]) (rs := []) .nil (by kernel_rfl) ⟨none, 0, 0, none, 0, 0, by rw [hres]; rfl, by rw [hres]; rfl, by rw [hres]; rfl, by rw [hres]; exact ((hO.nilRd encPl 2).nilRd encCt 3).sel [2, 3] (by decide)⟩
  · have hv := chk_ok hck; have hv1 := sea_ok hv
    rcases Bool.eq_false_or_eq_true (rpsB s rs) with hr | hr
    · have her := err_ok hv hr; have hrp := rp_ok hr; have hrl := rqs_len (s := s) (rs := rs)
      refine op_call (i := 2) (f := 47) (args := #[.agg (sS6 s v), .slice p n c]) (d := some 26) TBok (by kernel_rfl) hF (by kernel_rfl) (read_ok s v rs p n c _ (hs.upM hO.kp nom (Nat.le_refl _)) hv (hx.upM hO.kp nom (Nat.le_refl _)) hr) fun e w hR => ?_
      obtain ⟨b3, p4, c5, he, hO2⟩ := hR
      refine ⟨_, he, fun a hF => ?_⟩
      replace hO := hO.joinE hO2; clear hO2 he
      refine seq_quiet {} TBok hF (F' := [(2, iv wr), (3, iv h), (4, .slice cp cn cc), (10, .slice none 0 0), (11, .slice none 0 0), (12, iv 0), (27, .agg (sS8 s v b3 p4 n c5)), (28, iv 0)]) (rs := []) [3, 4, 5] [6, 7, 8] [2, 3, 4, 10, 11, 12, 27, 28] .nil (by kernel_rfl) fun a w hF hE => ?_
      replace hO := hO.ext hE; clear hE
      refine op_alloc (i := 6) (t := 80) (d := 13) (z := .agg #[iv 0, iv 0, .slice none 0 0, iv 0, .slice none 0 0, iv 0, .map none, .slice none 0 0]) hF hO (by kernel_rfl) (by kernel_rfl) fun a w b6 hF hO _ => ?_
      refine op_store (i := 7) (t := 80) (p := ⟨b6, 0, none⟩) (v := .agg (sS8 s v b3 p4 n c5)) (off := 0) (sz := 8) (cs' := (sS8 s v b3 p4 n c5)) hF hO (by kernel_rfl) 3 rfl rfl (by kernel_rfl) (by kernel_rfl) (by kernel_rfl) fun a w hF hO _ => ?_
      replace hO : Own w0 none_ [cel b1 (sS6 s v) 25, mapT b3 (.bool false) Value.bool (landF s), rowR 105 6 (.slice p4 n c5) n ((rqs s rs).flatMap encRq), cel b6 (sS8 s v b3 p4 n c5) 80] w := hO
      refine seq_quiet {} TBok hF (F' := [(2, iv wr), (3, iv h), (4, .slice cp cn cc), (10, .slice none 0 0), (11, .slice none 0 0), (12, iv 0), (13, pv b6), (14, iv 0)]) (rs := []) [8] [] [2, 3, 4, 10, 11, 12, 13, 14] .nil (by kernel_rfl) fun a w hF hE => ?_
      replace hO := hO.ext hE; clear hE
      refine W_seq ?_
      refine W_seq (region_q {} TBok hF (F' := [(2, iv wr), (3, iv h), (4, .slice cp cn cc), (10, .slice none 0 0), (11, .slice none 0 0), (12, iv 0), (13, pv b6), (14, iv 0), (30, .bool false)]) (rs := []) [2, 3, 4, 10, 11, 12, 13, 14, 30] .nil (by kernel_rfl) fun a w hF hE => ?_)
      replace hO := hO.ext hE; clear hE
      refine (W_false (evOp hF (by kernel_rfl)) ?_)
      refine (W_skip ?_)
      refine W_seq ?_
      refine W_seq (region_q {} TBok hF (F' := [(2, iv wr), (3, iv h), (4, .slice cp cn cc), (10, .slice none 0 0), (11, .slice none 0 0), (12, iv 0), (13, pv b6), (14, iv 0), (36, .bool (!(cond (inB wr 0 24) (inB h 0 (s.hours - 1)) false)))]) (rs := [.lds ⟨b6, 0, none⟩ (sL8 s v b3 p4 n c5), .call 62 #[.agg (sS8 s v b3 p4 n c5), iv wr, iv h] (.bool (cond (inB wr 0 24) (inB h 0 (s.hours - 1)) false))]) [2, 3, 4, 10, 11, 12, 13, 14, 36] (.cons (ldso hO.st 3 rfl 0 rfl) <| .cons (fun w hE => isAsked_calls s v b3 p4 n c5 rs wr h w ⟨(hs.upM (hO.st w hE).kp nom (Nat.le_refl _)), MapRo.of (hO.st w hE) 1 rfl, rd_row (fun _ => rfl) (by decide) (hO.st w hE) 2 rfl (by omega)⟩ hv hr) <| .nil) (by kernel_rfl) fun a w hF hE => ?_)
      replace hO := hO.ext hE; clear hE
      rcases Bool.eq_false_or_eq_true (!(cond (inB wr 0 24) (inB h 0 (s.hours - 1)) false)) with hc7 | hc7
      · refine (W_true ((evOp hF (by kernel_rfl)).trans (congrArg Value.bool hc7)) ?_)
        have hak : askB s wr h = false := ask_no (by assumption : (!(cond (inB wr 0 24) (inB h 0 (s.hours - 1)) false)) = true)
        refine W_seq (region_q {} TBok hF (F' := [(2, iv wr), (3, iv h), (4, .slice cp cn cc), (10, .slice none 0 0), (11, .slice none 0 0), (12, iv 7), (13, pv b6), (14, iv 0)]) (rs := []) [2, 3, 4, 10, 11, 12, 13, 14] .nil (by kernel_rfl) fun a w hF hE => ?_)
        replace hO := hO.ext hE; clear hE
        refine W_ret ?_
        show bodyPostM (FW none) 0 _ _ _ Exit.ret a w
        have hres : askedR s rs wr h cs = ([], [], 7) := by unfold askedR; rw [if_neg (by omega), if_pos hak]
        exact leave_r TBok hF (.nil _) (vs := [.slice none 0 0, .slice none 0 0, iv 7]) (rs := []) .nil (by kernel_rfl) ⟨none, 0, 0, none, 0, 0, by rw [hres]; rfl, by rw [hres]; rfl, by rw [hres]; rfl, by rw [hres]; exact ((hO.nilRd encPl 2).nilRd encCt 3).sel [4, 5] (by decide)⟩
      · refine (W_false ((evOp hF (by kernel_rfl)).trans (congrArg Value.bool hc7)) ?_)
        have hak : askB s wr h = true := ask_yes (by assumption : (!(cond (inB wr 0 24) (inB h 0 (s.hours - 1)) false)) = false)
        have hak2 := askB_iff.1 hak
        refine (W_skip ?_)
        refine W_seq (region_q {} TBok hF (F' := [(2, iv wr), (3, iv h), (4, .slice cp cn cc), (10, .slice none 0 0), (11, .slice none 0 0), (12, iv 0), (13, pv b6), (14, iv 0), (15, .bool (inB (cn : Int) 1 8))]) (rs := [.call 48 #[iv (cn : Int), iv 1, iv 8] (.bool (inB (cn : Int) 1 8))]) [2, 3, 4, 10, 11, 12, 13, 14, 15] (.cons (fun w _ => within_calls _ _ _ w) <| .nil) (by kernel_rfl) fun a w hF hE => ?_)
        replace hO := hO.ext hE; clear hE
        refine W_seq (region_q {} TBok hF (F' := [(2, iv wr), (3, iv h), (4, .slice cp cn cc), (10, .slice none 0 0), (11, .slice none 0 0), (12, iv 0), (13, pv b6), (14, iv 0), (15, .bool (inB (cn : Int) 1 8)), (16, .slice none 0 0)]) (rs := []) [2, 3, 4, 10, 11, 12, 13, 14, 15, 16] .nil (by kernel_rfl) fun a w hF hE => ?_)
        replace hO := hO.ext hE; clear hE
        refine W_seq ?_
        refine W_seq (region_q {} TBok hF (F' := [(2, iv wr), (3, iv h), (10, .slice none 0 0), (11, .slice none 0 0), (12, iv 0), (13, pv b6), (14, iv 0), (15, .bool (inB (cn : Int) 1 8)), (16, .slice none 0 0), (40, .slice cp cn cc), (41, iv (cn : Int)), (42, iv 0)]) (rs := []) [2, 3, 10, 11, 12, 13, 14, 15, 16, 40, 41, 42] .nil (by kernel_rfl) fun a w hF hE => ?_)
        replace hO := hO.ext hE; clear hE
        refine (W_block ?_)
        replace hO := hO.nilRow 114 3
        refine (W_loop (fun m a w => ∃ (k : Nat), ∃ (ok : Bool), ∃ (p_ : Option Addr), ∃ (c_ : Nat), m = cn - k ∧ k ≤ cn ∧ ok = (inB (cs.length : Int) 1 8 && (cs.take k).all (cs1B s)) ∧ Fr 101 [] [(2, iv wr), (3, iv h), (10, .slice none 0 0), (11, .slice none 0 0), (12, iv 0), (13, pv b6), (14, iv 0), (15, .bool ok), (16, .slice p_ k c_), (40, .slice cp cn cc), (41, iv (cn : Int)), (42, iv (k : Int))] a ∧ Own w0 none_ [cel b1 (sS6 s v) 25, mapT b3 (.bool false) Value.bool (landF s), rowR 105 6 (.slice p4 n c5) n ((rqs s rs).flatMap encRq), cel b6 (sS8 s v b3 p4 n c5) 80, rowR 114 3 (.slice p_ k c_) k (((cs.take k).map (ctOf s)).flatMap encCt)] w) _ ⟨0, _, none, 0, rfl, Nat.zero_le _, (by rw [hl4]; simp), hF, hO⟩ ?_)
        clear hF hO
        rintro _ a w ⟨k, ok, p_, c_, rfl, hk, hok, hF, hO⟩
        refine W_seq (region_q {} TBok hF (F' := [(2, iv wr), (3, iv h), (10, .slice none 0 0), (11, .slice none 0 0), (12, iv 0), (13, pv b6), (14, iv 0), (15, .bool ok), (16, .slice p_ k c_), (40, .slice cp cn cc), (41, iv (cn : Int)), (42, iv (k : Int)), (43, .bool (decide ((k : Int) < (cn : Int))))]) (rs := []) [2, 3, 10, 11, 12, 13, 14, 15, 16, 40, 41, 42, 43] .nil (by kernel_rfl) fun a w hF hE => ?_)
        replace hO := hO.ext hE; clear hE
        rcases Bool.eq_false_or_eq_true (decide ((k : Int) < (cn : Int))) with hc8 | hc8
        · refine W_seq (W_true ((evOp hF (by kernel_rfl)).trans (congrArg Value.bool hc8)) ?_)
          have hc8_ := of_decide_eq_true hc8
          refine (W_skip ?_)
          refine W_seq (W_block ?_)
          refine W_seq (region_seq ?_)
          refine seq_quiet {} TBok hF (F' := [(2, iv wr), (3, iv h), (10, .slice none 0 0), (11, .slice none 0 0), (12, iv 0), (13, pv b6), (14, iv 0), (15, .bool ok), (16, .slice p_ k c_), (40, .slice cp cn cc), (41, iv (cn : Int)), (42, iv (k : Int)), (45, .agg #[iv ((cs.getD k default).cell), iv ((cs.getD k default).far)])]) (rs := [.idx cp cn (k : Int) 2 (adr cp 2 (k : Int)), .lds (adr cp 2 (k : Int)) [iv ((cs.getD k default).cell), iv ((cs.getD k default).far)]]) [0, 1] [2, 3] [2, 3, 10, 11, 12, 13, 14, 15, 16, 40, 41, 42, 45] (.cons (ix hcs (by omega) (by omega)) <| .cons (ldsx hO.st nom hcs (by omega) (by omega) rfl) <| .nil) (by kernel_rfl) fun a w hF hE => ?_
          replace hO := hO.ext hE; clear hE
          refine op_alloc (i := 2) (t := 64) (d := 18) (z := .agg #[iv 0, iv 0]) hF hO (by kernel_rfl) (by kernel_rfl) fun a w b9 hF hO _ => ?_
          refine op_store (i := 3) (t := 64) (p := ⟨b9, 0, none⟩) (v := .agg #[iv ((cs.getD k default).cell), iv ((cs.getD k default).far)]) (off := 0) (sz := 2) (cs' := #[iv ((cs.getD k default).cell), iv ((cs.getD k default).far)]) hF hO (by kernel_rfl) 5 rfl rfl (by kernel_rfl) (by kernel_rfl) (by kernel_rfl) fun a w hF hO _ => ?_
          replace hF := hF.sel [2, 3, 10, 11, 12, 13, 14, 15, 16, 18, 40, 41, 42]
          replace hF : Fr 101 [] [(2, iv wr), (3, iv h), (10, .slice none 0 0), (11, .slice none 0 0), (12, iv 0), (13, pv b6), (14, iv 0), (15, .bool ok), (16, .slice p_ k c_), (18, pv b9), (40, .slice cp cn cc), (41, iv (cn : Int)), (42, iv (k : Int))] a := hF
          refine W_seq (region_d { sy := [1, 10] } mixed TBok hF (F' := [(2, iv wr), (3, iv h), (10, .slice none 0 0), (11, .slice none 0 0), (12, iv 0), (13, pv b6), (14, iv 0), (15, .bool (cond (cond ok (inB ((cs.getD k default).cell) 0 ((nC s) - 1)) false) (inB ((cs.getD k default).far) 0 9) false)), (16, .slice p_ k c_), (18, pv b9), (40, .slice cp cn cc), (41, iv (cn : Int)), (42, iv (k : Int))]) (rs := [.und ok (.ld ⟨b9, 0, none⟩ (iv ((cs.getD k default).cell))), .und ok (.lds ⟨b6, 0, none⟩ (sL7 s v b3)), .und ok (.call 49 #[.agg (sS7 s v b3)] (iv (nC s))), .und ok (.rng ((nC s) - 1)), .und ok (.call 48 #[iv ((cs.getD k default).cell), iv 0, iv ((nC s) - 1)] (.bool (inB ((cs.getD k default).cell) 0 ((nC s) - 1)))), .und (cond ok (inB ((cs.getD k default).cell) 0 ((nC s) - 1)) false) (.ld ⟨b9, 1, none⟩ (iv ((cs.getD k default).far))), .und (cond ok (inB ((cs.getD k default).cell) 0 ((nC s) - 1)) false) (.call 48 #[iv ((cs.getD k default).far), iv 0, iv 9] (.bool (inB ((cs.getD k default).far) 0 9)))]) [2, 3, 10, 11, 12, 13, 14, 15, 16, 18, 40, 41, 42] (.cons (fun hg => (ldo hO.st 5 rfl 0 rfl)) <| .cons (fun hg => (ldso hO.st 3 rfl 0 rfl)) <| .cons (fun hg => (fun w _ => many_calls s v b3 w hv)) <| .cons (fun hg => (rg (by omega))) <| .cons (fun hg => (fun w _ => within_calls _ _ _ w)) <| .cons (fun hg => (ldo hO.st 5 rfl 1 rfl)) <| .cons (fun hg => (fun w _ => within_calls _ _ _ w)) <| .nil) (by kernel_rfl) (by kernel_rfl) fun a w hF hE => ?_)
          replace hO := hO.ext hE; clear hE
          refine (draw_start (R := (selR [cel b1 (sS6 s v) 25, mapT b3 (.bool false) Value.bool (landF s), rowR 105 6 (.slice p4 n c5) n ((rqs s rs).flatMap encRq), cel b6 (sS8 s v b3 p4 n c5) 80, rowR 114 3 (.slice p_ k c_) k (((cs.take k).map (ctOf s)).flatMap encCt), cel b9 #[iv ((cs.getD k default).cell), iv ((cs.getD k default).far)] 64] [4])) mixed [] 12 (by kernel_rfl) fun w hS => ?_)
          replace hO := hO.ext hS
          have hH := hO.butL [4]; replace hS := Ext.kp (M := (selR [cel b1 (sS6 s v) 25, mapT b3 (.bool false) Value.bool (landF s), rowR 105 6 (.slice p4 n c5) n ((rqs s rs).flatMap encRq), cel b6 (sS8 s v b3 p4 n c5) 80, rowR 114 3 (.slice p_ k c_) k (((cs.take k).map (ctOf s)).flatMap encCt), cel b9 #[iv ((cs.getD k default).cell), iv ((cs.getD k default).far)] 64] [4])) hS
          refine draw_q { md := [(8, 3)] } TBok hF hS (F' := [(2, iv wr), (3, iv h), (10, .slice none 0 0), (11, .slice none 0 0), (12, iv 0), (13, pv b6), (14, iv 0), (15, .bool (cond (cond ok (inB ((cs.getD k default).cell) 0 ((nC s) - 1)) false) (inB ((cs.getD k default).far) 0 9) false)), (16, .slice p_ k c_), (40, .slice cp cn cc), (41, iv (cn : Int)), (42, iv (k : Int)), (61, .slice p_ k c_), (69, .agg #[iv ((pl s ((cs.getD k default).cell)).1), iv ((pl s ((cs.getD k default).cell)).2), iv ((cs.getD k default).far)])]) (rs := [.lds ⟨b6, 0, none⟩ (sL7 s v b3), .ld ⟨b9, 0, none⟩ (iv ((cs.getD k default).cell)), .call 50 #[.agg (sS7 s v b3), iv ((cs.getD k default).cell)] (.agg #[iv ((pl s ((cs.getD k default).cell)).1), iv ((pl s ((cs.getD k default).cell)).2)]), .ld ⟨b9, 1, none⟩ (iv ((cs.getD k default).far)), .raw (Instr.build 114 #[(0, .agg #[iv ((pl s ((cs.getD k default).cell)).1), iv ((pl s ((cs.getD k default).cell)).2)]), (1, iv ((cs.getD k default).far))]) (.agg #[iv ((pl s ((cs.getD k default).cell)).1), iv ((pl s ((cs.getD k default).cell)).2), iv ((cs.getD k default).far)])]) [0, 1, 2, 3, 4, 5, 6, 7, 8] 12 3 (by kernel_rfl) #[true, true, true, true, true, true, true, true, true, false, false, false] [2, 3, 10, 11, 12, 13, 14, 15, 16, 40, 41, 42, 61, 69] (.cons (ldso hH 3 rfl 0 rfl) <| .cons (ldo hH 5 rfl 0 rfl) <| .cons (fun w _ => place_calls s v b3 ((cs.getD k default).cell) w hv (hci k (by omega))) <| .cons (ldo hH 5 rfl 1 rfl) <| .cons (fun w _ => by kernel_rfl) <| .nil) (by kernel_rfl) (by kernel_rfl) fun a hF => ?_
          replace hS := Kp.refl (selR [cel b1 (sS6 s v) 25, mapT b3 (.bool false) Value.bool (landF s), rowR 105 6 (.slice p4 n c5) n ((rqs s rs).flatMap encRq), cel b6 (sS8 s v b3 p4 n c5) 80, rowR 114 3 (.slice p_ k c_) k (((cs.take k).map (ctOf s)).flatMap encCt), cel b9 #[iv ((cs.getD k default).cell), iv ((cs.getD k default).far)] 64] [4]) w
          refine any_pick (rs := [9]) (by kernel_rfl) (by simp) fun w hE => all1 ?_
          replace hO := hO.ext hE; replace hS := hS.trans (Ext.kp hE)
          refine op_bsl (i := 9) (t := 109) (e := 114) (len := 1) (ps := [(0, .agg #[iv ((pl s ((cs.getD k default).cell)).1), iv ((pl s ((cs.getD k default).cell)).2), iv ((cs.getD k default).far)])]) (d := 70) (sz := 3) (cs := #[iv ((pl s ((cs.getD k default).cell)).1), iv ((pl s ((cs.getD k default).cell)).2), iv ((cs.getD k default).far)]) (z := .agg #[iv 0, iv 0, iv 0]) hF hO (by kernel_rfl) (by kernel_rfl) (by kernel_rfl) (by kernel_rfl) (by kernel_rfl) fun a w b10 hF hO hx => ⟨.inr (hS.trans (Ext.kp hx.1)), ?_⟩
          have hf_b10 := Nat.le_trans hS.size hx.2; replace hS := hS.trans (Ext.kp hx.1); clear hx
          replace hO : Own w0 none_ [cel b1 (sS6 s v) 25, mapT b3 (.bool false) Value.bool (landF s), rowR 105 6 (.slice p4 n c5) n ((rqs s rs).flatMap encRq), cel b6 (sS8 s v b3 p4 n c5) 80, rowR 114 3 (.slice p_ k c_) k (((cs.take k).map (ctOf s)).flatMap encCt), cel b9 #[iv ((cs.getD k default).cell), iv ((cs.getD k default).far)] 64, cel b10 #[iv ((pl s ((cs.getD k default).cell)).1), iv ((pl s ((cs.getD k default).cell)).2), iv ((cs.getD k default).far)] 114] w := hO
          refine any_pick (rs := [10]) (by kernel_rfl) (by simp) fun w hE => all1 ?_
          replace hO := hO.ext hE; replace hS := hS.trans (Ext.kp hE)
          refine op_appR3 (B := 24) (i := 10) (t := 109) (ty := 109) (e := 114) (d := 71) rowT109 (by kernel_rfl) (by decide) hF hO (by kernel_rfl) 4 rfl 6 rfl (by kernel_rfl) (by omega) fun a w p11 c12 hF hO hx => ⟨.inr (hS.trans (hx.mono fun _ _ h => ⟨4, rfl, _, rfl, h⟩)), ?_⟩
          replace hS := hS.trans (hx.mono fun _ _ h => ⟨4, rfl, _, rfl, h⟩)
          clear hx
          refine draw_q0 {} TBok hF hS (F' := [(2, iv wr), (3, iv h), (10, .slice none 0 0), (11, .slice none 0 0), (12, iv 0), (13, pv b6), (14, iv 0), (15, .bool (cond (cond ok (inB ((cs.getD k default).cell) 0 ((nC s) - 1)) false) (inB ((cs.getD k default).far) 0 9) false)), (16, .slice p11 (k + 1) c12), (40, .slice cp cn cc), (41, iv (cn : Int)), (42, iv (k : Int))]) [11] 1 0 (by kernel_rfl) #[true, true, true, true, true, true, true, true, true, true, true, true] [2, 3, 10, 11, 12, 13, 14, 15, 16, 40, 41, 42] (by kernel_rfl) (by kernel_rfl) fun a hF => ?_
          refine any_done (by kernel_rfl) (fun w hE => ?_) _
          replace hO := hO.ext hE
          replace hF := hF.sel [2, 3, 10, 11, 12, 13, 14, 15, 16, 40, 41, 42]
          replace hF : Fr 101 [] [(2, iv wr), (3, iv h), (10, .slice none 0 0), (11, .slice none 0 0), (12, iv 0), (13, pv b6), (14, iv 0), (15, .bool (cond (cond ok (inB ((cs.getD k default).cell) 0 ((nC s) - 1)) false) (inB ((cs.getD k default).far) 0 9) false)), (16, .slice p11 (k + 1) c12), (40, .slice cp cn cc), (41, iv (cn : Int)), (42, iv (k : Int))] a := hF
          refine (region_q {} TBok hF (F' := [(2, iv wr), (3, iv h), (10, .slice none 0 0), (11, .slice none 0 0), (12, iv 0), (13, pv b6), (14, iv 0), (15, .bool (cond (cond ok (inB ((cs.getD k default).cell) 0 ((nC s) - 1)) false) (inB ((cs.getD k default).far) 0 9) false)), (16, .slice p11 (k + 1) c12), (40, .slice cp cn cc), (41, iv (cn : Int)), (42, iv ((k : Int) + 1))]) (rs := [.rng ((k : Int) + 1)]) [2, 3, 10, 11, 12, 13, 14, 15, 16, 40, 41, 42] (.cons (rg (by omega)) <| .nil) (by kernel_rfl) fun a w hF hE => ?_)
          replace hO := hO.ext hE; clear hE
          replace hO := hO.drop1 6
          replace hO := hO.drop1 5
          replace hO : Own w0 none_ [cel b1 (sS6 s v) 25, mapT b3 (.bool false) Value.bool (landF s), rowR 105 6 (.slice p4 n c5) n ((rqs s rs).flatMap encRq), cel b6 (sS8 s v b3 p4 n c5) 80, rowR 114 3 (.slice p11 (k + 1) c12) (k + 1) ((((cs.take k).map (ctOf s)).flatMap encCt) ++ (#[iv ((pl s ((cs.getD k default).cell)).1), iv ((pl s ((cs.getD k default).cell)).2), iv ((cs.getD k default).far)] : Array Value).toList)] w := hO
          replace hO : Own w0 none_ [cel b1 (sS6 s v) 25, mapT b3 (.bool false) Value.bool (landF s), rowR 105 6 (.slice p4 n c5) n ((rqs s rs).flatMap encRq), cel b6 (sS8 s v b3 p4 n c5) 80, rowR 114 3 (.slice p11 (k + 1) c12) (k + 1) (((cs.take (k + 1)).map (ctOf s)).flatMap encCt)] w := hO.cast (by rw [map_take (ctOf s) (k := k) (by omega), List.flatMap_append] <;> rfl)
          exact ⟨_, by omega, k + 1, _, p11, c12, rfl, by omega, by rw [take_all _ (by omega), ← Bool.and_assoc, ← hok]; cases ok <;> rfl, hF, hO⟩
        · refine W_seq (W_false ((evOp hF (by kernel_rfl)).trans (congrArg Value.bool hc8)) ?_)
          have hc8_ := of_decide_eq_false hc8
          refine (W_exit ?_)
          refine W_seq ?_
          refine W_seq (region_q {} TBok hF (F' := [(2, iv wr), (3, iv h), (10, .slice none 0 0), (11, .slice none 0 0), (12, iv 0), (13, pv b6), (14, iv 0), (16, .slice p_ k c_), (74, .bool (!ok))]) (rs := []) [2, 3, 10, 11, 12, 13, 14, 16, 74] .nil (by kernel_rfl) fun a w hF hE => ?_)
          replace hO := hO.ext hE; clear hE
          rcases Bool.eq_false_or_eq_true (!ok) with hc13 | hc13
          · refine (W_true ((evOp hF (by kernel_rfl)).trans (congrArg Value.bool hc13)) ?_)
            have hok0 : ok = false := by have h_ := (by assumption : (!ok) = true); simpa using h_
            have hcb : csB s cs = false := by rw [csB, ← hok0, hok, List.take_of_length_le (by omega)]
            refine W_seq (region_q {} TBok hF (F' := [(2, iv wr), (3, iv h), (10, .slice none 0 0), (11, .slice none 0 0), (12, iv 13), (13, pv b6), (14, iv 0), (16, .slice p_ k c_)]) (rs := []) [2, 3, 10, 11, 12, 13, 14, 16] .nil (by kernel_rfl) fun a w hF hE => ?_)
            replace hO := hO.ext hE; clear hE
            refine W_ret ?_
            show bodyPostM (FW none) 0 _ _ _ Exit.ret a w
            have hres : askedR s rs wr h cs = ([], [], 13) := by unfold askedR; rw [if_neg (by omega), if_neg (by rw [hak]; simp), if_pos hcb]
            exact leave_r TBok hF (.nil _) (vs := [.slice none 0 0, .slice none 0 0, iv 13]) (rs := []) .nil (by kernel_rfl) ⟨none, 0, 0, none, 0, 0, by rw [hres]; rfl, by rw [hres]; rfl, by rw [hres]; rfl, by rw [hres]; exact ((hO.nilRd encPl 2).nilRd encCt 3).sel [5, 6] (by decide)⟩
          · refine (W_false ((evOp hF (by kernel_rfl)).trans (congrArg Value.bool hc13)) ?_)
            have hok0 : ok = true := by have h_ := (by assumption : (!ok) = false); simpa using h_
            have hcb : csB s cs = true := by rw [csB, ← hok0, hok, List.take_of_length_le (by omega)]
            have hcb2 := csB_ok hcb
            refine (W_skip ?_)
            refine W_seq (region_seq ?_)
            refine seq_quiet {} TBok hF (F' := [(10, .slice none 0 0), (11, .slice none 0 0), (12, iv 0), (13, pv b6), (14, iv 0), (16, .slice p_ k c_), (76, .agg (sS8 s v b3 p4 n c5)), (77, iv wr), (78, iv h)]) (rs := [.lds ⟨b6, 0, none⟩ (sL8 s v b3 p4 n c5)]) [0, 1, 2] [3, 4, 5, 6, 7, 8] [10, 11, 12, 13, 14, 16, 76, 77, 78] (.cons (ldso hO.st 3 rfl 0 rfl) <| .nil) (by kernel_rfl) fun a w hF hE => ?_
            replace hO := hO.ext hE; clear hE
            refine op_call (i := 3) (f := 63) (args := #[.agg (sS8 s v b3 p4 n c5), iv wr, iv h]) (d := some 79) TBok (by kernel_rfl) hF (by kernel_rfl) (can_calls s v b3 p4 n c5 rs wr h _ ⟨(hs.upM hO.kp nom (Nat.le_refl _)), MapRo.of hO 1 rfl, rd_row (fun _ => rfl) (by decide) hO 2 rfl (by omega)⟩ hv hr (by omega)) fun e w hR => ?_
            obtain ⟨p14, n15, c16, hn17, he, hO2⟩ := hR
            refine ⟨_, he, fun a hF => ?_⟩
            replace hO := hO.joinE hO2; clear hO2 he
            refine seq_quiet {} TBok hF (F' := [(10, .slice none 0 0), (11, .slice none 0 0), (12, iv 0), (13, pv b6), (14, iv ((canR1 s rs wr h).2)), (16, .slice p_ k c_), (19, .slice p14 n15 c16)]) (rs := []) [4, 5, 6, 7, 8] [] [10, 11, 12, 13, 14, 16, 19] .nil (by kernel_rfl) fun a w hF hE => ?_
            replace hO := hO.ext hE; clear hE
            refine W_seq ?_
            refine W_seq (region_q {} TBok hF (F' := [(10, .slice none 0 0), (11, .slice none 0 0), (12, iv 0), (13, pv b6), (14, iv ((canR1 s rs wr h).2)), (16, .slice p_ k c_), (19, .slice p14 n15 c16), (83, .bool ((canR1 s rs wr h).2 != 0))]) (rs := []) [10, 11, 12, 13, 14, 16, 19, 83] .nil (by kernel_rfl) fun a w hF hE => ?_)
            replace hO := hO.ext hE; clear hE
            rcases Bool.eq_false_or_eq_true ((canR1 s rs wr h).2 != 0) with hc18 | hc18
            · refine (W_true ((evOp hF (by kernel_rfl)).trans (congrArg Value.bool hc18)) ?_)
              have hce := (by assumption : ((canR1 s rs wr h).2 != 0) = true)
              refine W_seq (region_q {} TBok hF (F' := [(10, .slice none 0 0), (11, .slice none 0 0), (12, iv ((canR1 s rs wr h).2)), (13, pv b6), (16, .slice p_ k c_), (19, .slice p14 n15 c16)]) (rs := []) [10, 11, 12, 13, 16, 19] .nil (by kernel_rfl) fun a w hF hE => ?_)
              replace hO := hO.ext hE; clear hE
              refine W_ret ?_
              show bodyPostM (FW none) 0 _ _ _ Exit.ret a w
              have hres : askedR s rs wr h cs = ([], [], (canR1 s rs wr h).2) := by unfold askedR; rw [if_neg (by omega), if_neg (by rw [hak]; simp), if_neg (by rw [hcb]; simp), if_pos (by simpa using hce)]
              exact leave_r TBok hF (.nil _) (vs := [.slice none 0 0, .slice none 0 0, iv ((canR1 s rs wr h).2)]) (rs := []) .nil (by kernel_rfl) ⟨none, 0, 0, none, 0, 0, by rw [hres]; rfl, by rw [hres]; rfl, by rw [hres]; rfl, by rw [hres]; exact ((hO.nilRd encPl 2).nilRd encCt 3).sel [6, 7] (by decide)⟩
            · refine (W_false ((evOp hF (by kernel_rfl)).trans (congrArg Value.bool hc18)) ?_)
              have hce := (by assumption : ((canR1 s rs wr h).2 != 0) = false)
              refine (W_skip ?_)
              refine W_seq (region_q {} TBok hF (F' := [(10, .slice none 0 0), (11, .slice none 0 0), (12, iv 0), (13, pv b6), (16, .slice p_ k c_), (19, .slice p14 n15 c16), (20, .slice none 0 0)]) (rs := []) [10, 11, 12, 13, 16, 19, 20] .nil (by kernel_rfl) fun a w hF hE => ?_)
              replace hO := hO.ext hE; clear hE
              refine W_seq ?_
              refine W_seq (region_q {} TBok hF (F' := [(10, .slice none 0 0), (11, .slice none 0 0), (12, iv 0), (13, pv b6), (16, .slice p_ k c_), (20, .slice none 0 0), (85, .slice p14 n15 c16), (86, iv (n15 : Int)), (87, iv 0)]) (rs := []) [10, 11, 12, 13, 16, 20, 85, 86, 87] .nil (by kernel_rfl) fun a w hF hE => ?_)
              replace hO := hO.ext hE; clear hE
              refine (W_block ?_)
              have hlcan := hn17
              have hln80 : n15 ≤ 80 := by rw [← hlcan, canR1_eq]; exact Nat.le_trans (List.length_filter_le _ _) (cellsA_len hv)
              replace hO := hO.nilRow 85 2
              refine (W_loop (fun m a w => ∃ (q : Nat), ∃ (p2_ : Option Addr), ∃ (c2_ : Nat), m = n15 - q ∧ q ≤ n15 ∧ Fr 101 [] [(10, .slice none 0 0), (11, .slice none 0 0), (12, iv 0), (13, pv b6), (16, .slice p_ k c_), (20, .slice p2_ q c2_), (85, .slice p14 n15 c16), (86, iv (n15 : Int)), (87, iv (q : Int))] a ∧ Own w0 none_ [cel b1 (sS6 s v) 25, mapT b3 (.bool false) Value.bool (landF s), rowR 105 6 (.slice p4 n c5) n ((rqs s rs).flatMap encRq), cel b6 (sS8 s v b3 p4 n c5) 80, rowR 114 3 (.slice p_ k c_) k (((cs.take k).map (ctOf s)).flatMap encCt), rdR encI 1 p14 n15 (canR1 s rs wr h).1, rowR 85 2 (.slice p2_ q c2_) q ((((canR1 s rs wr h).1.take q).map (pl s)).flatMap encPl)] w) _ ⟨0, none, 0, rfl, Nat.zero_le _, hF, hO⟩ ?_)
              clear hF hO
              rintro _ a w ⟨q, p2_, c2_, rfl, hq, hF, hO⟩
              refine W_seq (region_q {} TBok hF (F' := [(10, .slice none 0 0), (11, .slice none 0 0), (12, iv 0), (13, pv b6), (16, .slice p_ k c_), (20, .slice p2_ q c2_), (85, .slice p14 n15 c16), (86, iv (n15 : Int)), (87, iv (q : Int)), (88, .bool (decide ((q : Int) < (n15 : Int))))]) (rs := []) [10, 11, 12, 13, 16, 20, 85, 86, 87, 88] .nil (by kernel_rfl) fun a w hF hE => ?_)
              replace hO := hO.ext hE; clear hE
              rcases Bool.eq_false_or_eq_true (decide ((q : Int) < (n15 : Int))) with hc19 | hc19
              · refine W_seq (W_true ((evOp hF (by kernel_rfl)).trans (congrArg Value.bool hc19)) ?_)
                have hc19_ := of_decide_eq_true hc19
                refine (W_skip ?_)
                refine W_seq (W_block ?_)
                refine W_seq (region_q {} TBok hF (F' := [(10, .slice none 0 0), (11, .slice none 0 0), (12, iv 0), (13, pv b6), (16, .slice p_ k c_), (20, .slice p2_ q c2_), (22, iv ((canR1 s rs wr h).1.getD q default)), (85, .slice p14 n15 c16), (86, iv (n15 : Int)), (87, iv (q : Int))]) (rs := [.idx p14 n15 (q : Int) 1 (adr p14 1 (q : Int)), .ld (adr p14 1 (q : Int)) (iv ((canR1 s rs wr h).1.getD q default))]) [10, 11, 12, 13, 16, 20, 22, 85, 86, 87] (.cons (ix (enc := encI) (xs := (canR1 s rs wr h).1) ((hO.get 5 rfl)) (by omega) (by omega)) <| .cons (ldR (enc := encI) (xs := (canR1 s rs wr h).1) (a := p14) (i := (q : Int)) (fun x_ hx_ => ((hO.st x_ hx_).get 5 rfl)) (by omega) (by omega) 0 rfl) <| .nil) (by kernel_rfl) fun a w hF hE => ?_)
                replace hO := hO.ext hE; clear hE
                refine (region_seq ?_)
                refine seq_quiet {} TBok hF (F' := [(10, .slice none 0 0), (11, .slice none 0 0), (12, iv 0), (13, pv b6), (16, .slice p_ k c_), (20, .slice p2_ q c2_), (85, .slice p14 n15 c16), (86, iv (n15 : Int)), (87, iv (q : Int)), (91, .slice p2_ q c2_), (95, .agg #[iv ((pl s ((canR1 s rs wr h).1.getD q default)).1), iv ((pl s ((canR1 s rs wr h).1.getD q default)).2)])]) (rs := [.lds ⟨b6, 0, none⟩ (sL7 s v b3), .call 50 #[.agg (sS7 s v b3), iv ((canR1 s rs wr h).1.getD q default)] (.agg #[iv ((pl s ((canR1 s rs wr h).1.getD q default)).1), iv ((pl s ((canR1 s rs wr h).1.getD q default)).2)])]) [0, 1, 2, 3, 4] [5, 6, 7] [10, 11, 12, 13, 16, 20, 85, 86, 87, 91, 95] (.cons (ldso hO.st 3 rfl 0 rfl) <| .cons (fun w _ => place_calls s v b3 ((canR1 s rs wr h).1.getD q default) w hv (by have h_ := mem_cellsA (canR1_mem (getD_mem (show q < (canR1 s rs wr h).1.length by omega))); omega)) <| .nil) (by kernel_rfl) fun a w hF hE => ?_
                replace hO := hO.ext hE; clear hE
                refine op_bsl (i := 5) (t := 108) (e := 85) (len := 1) (ps := [(0, .agg #[iv ((pl s ((canR1 s rs wr h).1.getD q default)).1), iv ((pl s ((canR1 s rs wr h).1.getD q default)).2)])]) (d := 96) (sz := 2) (cs := #[iv ((pl s ((canR1 s rs wr h).1.getD q default)).1), iv ((pl s ((canR1 s rs wr h).1.getD q default)).2)]) (z := .agg #[iv 0, iv 0]) hF hO (by kernel_rfl) (by kernel_rfl) (by kernel_rfl) (by kernel_rfl) (by kernel_rfl) fun a w b20 hF hO _ => ?_
                replace hO : Own w0 none_ [cel b1 (sS6 s v) 25, mapT b3 (.bool false) Value.bool (landF s), rowR 105 6 (.slice p4 n c5) n ((rqs s rs).flatMap encRq), cel b6 (sS8 s v b3 p4 n c5) 80, rowR 114 3 (.slice p_ k c_) k (((cs.take k).map (ctOf s)).flatMap encCt), rdR encI 1 p14 n15 (canR1 s rs wr h).1, rowR 85 2 (.slice p2_ q c2_) q ((((canR1 s rs wr h).1.take q).map (pl s)).flatMap encPl), cel b20 #[iv ((pl s ((canR1 s rs wr h).1.getD q default)).1), iv ((pl s ((canR1 s rs wr h).1.getD q default)).2)] 85] w := hO
                refine op_appR (i := 6) (t := 108) (ty := 108) (e := 85) (d := 97) rowT108 hF hO (by kernel_rfl) 6 rfl 7 rfl (by kernel_rfl) (by omega) fun a w p21 c22 hF hO hx => ?_
                clear hx
                refine seq_quiet {} TBok hF (F' := [(10, .slice none 0 0), (11, .slice none 0 0), (12, iv 0), (13, pv b6), (16, .slice p_ k c_), (20, .slice p21 (q + 1) c22), (85, .slice p14 n15 c16), (86, iv (n15 : Int)), (87, iv (q : Int))]) (rs := []) [7] [] [10, 11, 12, 13, 16, 20, 85, 86, 87] .nil (by kernel_rfl) fun a w hF hE => ?_
                replace hO := hO.ext hE; clear hE
                refine (region_q {} TBok hF (F' := [(10, .slice none 0 0), (11, .slice none 0 0), (12, iv 0), (13, pv b6), (16, .slice p_ k c_), (20, .slice p21 (q + 1) c22), (85, .slice p14 n15 c16), (86, iv (n15 : Int)), (87, iv ((q : Int) + 1))]) (rs := [.rng ((q : Int) + 1)]) [10, 11, 12, 13, 16, 20, 85, 86, 87] (.cons (rg (by omega)) <| .nil) (by kernel_rfl) fun a w hF hE => ?_)
                replace hO := hO.ext hE; clear hE
                replace hO := hO.drop1 7
                replace hO : Own w0 none_ [cel b1 (sS6 s v) 25, mapT b3 (.bool false) Value.bool (landF s), rowR 105 6 (.slice p4 n c5) n ((rqs s rs).flatMap encRq), cel b6 (sS8 s v b3 p4 n c5) 80, rowR 114 3 (.slice p_ k c_) k (((cs.take k).map (ctOf s)).flatMap encCt), rdR encI 1 p14 n15 (canR1 s rs wr h).1, rowR 85 2 (.slice p21 (q + 1) c22) (q + 1) (((((canR1 s rs wr h).1.take q).map (pl s)).flatMap encPl) ++ (#[iv ((pl s ((canR1 s rs wr h).1.getD q default)).1), iv ((pl s ((canR1 s rs wr h).1.getD q default)).2)] : Array Value).toList)] w := hO
                replace hO : Own w0 none_ [cel b1 (sS6 s v) 25, mapT b3 (.bool false) Value.bool (landF s), rowR 105 6 (.slice p4 n c5) n ((rqs s rs).flatMap encRq), cel b6 (sS8 s v b3 p4 n c5) 80, rowR 114 3 (.slice p_ k c_) k (((cs.take k).map (ctOf s)).flatMap encCt), rdR encI 1 p14 n15 (canR1 s rs wr h).1, rowR 85 2 (.slice p21 (q + 1) c22) (q + 1) ((((canR1 s rs wr h).1.take (q + 1)).map (pl s)).flatMap encPl)] w := hO.cast (by rw [map_take (pl s) (k := q) (by omega), List.flatMap_append] <;> rfl)
                exact ⟨_, by omega, q + 1, p21, c22, rfl, by omega, hF, hO⟩
              · refine W_seq (W_false ((evOp hF (by kernel_rfl)).trans (congrArg Value.bool hc19)) ?_)
                have hc19_ := of_decide_eq_false hc19
                refine (W_exit ?_)
                refine W_seq (region_q {} TBok hF (F' := [(10, .slice p2_ q c2_), (11, .slice p_ k c_), (12, iv 0)]) (rs := []) [10, 11, 12] .nil (by kernel_rfl) fun a w hF hE => ?_)
                replace hO := hO.ext hE; clear hE
                refine W_ret ?_
                show bodyPostM (FW none) 0 _ _ _ Exit.ret a w
                have hkk : k = cs.length := by omega
                have hqq : q = (canR1 s rs wr h).1.length := by omega
                have hres : askedR s rs wr h cs = ((canR1 s rs wr h).1.map (pl s), cs.map (ctOf s), 0) := by unfold askedR; rw [if_neg (by omega), if_neg (by rw [hak]; simp), if_neg (by rw [hcb]; simp), if_neg (by simpa using hce)]
                replace hO := hO.row_rd (enc := encPl) (fun _ => rfl) (by decide) 6 rfl (by omega)
                replace hO : Own w0 none_ [cel b1 (sS6 s v) 25, mapT b3 (.bool false) Value.bool (landF s), rowR 105 6 (.slice p4 n c5) n ((rqs s rs).flatMap encRq), cel b6 (sS8 s v b3 p4 n c5) 80, rowR 114 3 (.slice p_ k c_) k (((cs.take k).map (ctOf s)).flatMap encCt), rdR encI 1 p14 n15 (canR1 s rs wr h).1, rdR encPl 2 p2_ q (((canR1 s rs wr h).1.take q).map (pl s))] w := hO
                replace hO := hO.row_rd (enc := encCt) (fun _ => rfl) (by decide) 4 rfl (by omega)
                exact leave_r TBok hF (.nil _) (vs := [.slice p2_ q c2_, .slice p_ k c_, iv 0]) (rs := []) .nil (by kernel_rfl) ⟨p2_, q, c2_, p_, k, c_, by rw [hres]; show (List.map _ _).length = _; rw [List.length_map]; omega, by rw [hres]; show (List.map _ _).length = _; rw [List.length_map]; omega, by rw [hres]; rfl, by rw [hres]; exact (hO.sel [6, 4] (by decide)).cast (by rw [List.take_of_length_le (show (canR1 s rs wr h).1.length ≤ q by omega), List.take_of_length_le (show cs.length ≤ k by omega)] <;> rfl)⟩
    · have her := err_rep hv hr
      refine op_call (i := 2) (f := 47) (args := #[.agg (sS6 s v), .slice p n c]) (d := some 26) TBok (by kernel_rfl) hF (by kernel_rfl) (read_rep s v rs p n c _ (hs.upM hO.kp nom (Nat.le_refl _)) hv (hx.upM hO.kp nom (Nat.le_refl _)) hr) fun e w hR => ?_
      obtain ⟨he, hE⟩ := hR
      refine ⟨_, he, fun a hF => ?_⟩
      replace hO := hO.ext hE; clear hE he
      refine seq_quiet {} TBok hF (F' := [(2, iv wr), (3, iv h), (4, .slice cp cn cc), (10, .slice none 0 0), (11, .slice none 0 0), (12, iv 0), (27, .agg #[iv 0, iv 0, .slice none 0 0, iv 0, .slice none 0 0, iv 0, .map none, .slice none 0 0]), (28, iv 11)]) (rs := []) [3, 4, 5] [6, 7, 8] [2, 3, 4, 10, 11, 12, 27, 28] .nil (by kernel_rfl) fun a w hF hE => ?_
      replace hO := hO.ext hE; clear hE
      refine op_alloc (i := 6) (t := 80) (d := 13) (z := .agg #[iv 0, iv 0, .slice none 0 0, iv 0, .slice none 0 0, iv 0, .map none, .slice none 0 0]) hF hO (by kernel_rfl) (by kernel_rfl) fun a w b23 hF hO _ => ?_
      refine op_store (i := 7) (t := 80) (p := ⟨b23, 0, none⟩) (v := .agg #[iv 0, iv 0, .slice none 0 0, iv 0, .slice none 0 0, iv 0, .map none, .slice none 0 0]) (off := 0) (sz := 8) (cs' := #[iv 0, iv 0, .slice none 0 0, iv 0, .slice none 0 0, iv 0, .map none, .slice none 0 0]) hF hO (by kernel_rfl) 1 rfl rfl (by kernel_rfl) (by kernel_rfl) (by kernel_rfl) fun a w hF hO _ => ?_
      refine seq_quiet {} TBok hF (F' := [(2, iv wr), (3, iv h), (4, .slice cp cn cc), (10, .slice none 0 0), (11, .slice none 0 0), (12, iv 0), (13, pv b23), (14, iv 11)]) (rs := []) [8] [] [2, 3, 4, 10, 11, 12, 13, 14] .nil (by kernel_rfl) fun a w hF hE => ?_
      replace hO := hO.ext hE; clear hE
      refine W_seq ?_
      refine W_seq (region_q {} TBok hF (F' := [(2, iv wr), (3, iv h), (4, .slice cp cn cc), (10, .slice none 0 0), (11, .slice none 0 0), (12, iv 0), (13, pv b23), (14, iv 11), (30, .bool true)]) (rs := []) [2, 3, 4, 10, 11, 12, 13, 14, 30] .nil (by kernel_rfl) fun a w hF hE => ?_)
      replace hO := hO.ext hE; clear hE
      refine (W_true (evOp hF (by kernel_rfl)) ?_)
      refine W_seq (region_q {} TBok hF (F' := [(2, iv wr), (3, iv h), (4, .slice cp cn cc), (10, .slice none 0 0), (11, .slice none 0 0), (12, iv 11), (13, pv b23), (14, iv 11)]) (rs := []) [2, 3, 4, 10, 11, 12, 13, 14] .nil (by kernel_rfl) fun a w hF hE => ?_)
      replace hO := hO.ext hE; clear hE
      refine W_ret ?_
      show bodyPostM (FW none) 0 _ _ _ Exit.ret a w
      have hres : askedR s rs wr h cs = ([], [], 11) := by unfold askedR; rw [her, if_pos (by decide)]
      exact leave_r TBok hF (.nil _) (vs := [.slice none 0 0, .slice none 0 0, iv 11]) (rs := []) .nil (by kernel_rfl) ⟨none, 0, 0, none, 0, 0, by rw [hres]; rfl, by rw [hres]; rfl, by rw [hres]; rfl, by rw [hres]; exact ((hO.nilRd encPl 2).nilRd encCt 3).sel [2, 3] (by decide)⟩

end Go.Proofs.Ytgihgcclabodbaa.DK
