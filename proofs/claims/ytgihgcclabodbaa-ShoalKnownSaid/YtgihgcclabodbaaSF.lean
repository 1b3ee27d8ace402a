/- Walks: the least of several; what is gone along in an hour. Printed by my gen.py out of shoal/f.py. -/
import Derived.Test.YtgihgcclabodbaaSE
import Derived.Test.YtgihgcclabodbaaSGone
namespace Go.Proofs.Ytgihgcclabodbaa.DK
open Go Go.Proofs
set_option linter.unusedVariables false
set_option linter.unusedSimpArgs false

theorem ptrT122 : Try.prog.underlying 122 = some (.pointer (Try.prog.pointee 122)) := by kernel_rfl
set_option maxHeartbeats 4000000 in
set_option maxRecDepth 100000 in
theorem least_calls (b : Int) (xs : List Int) (p : Option Addr) (n c : Nat) (w0 : World) (hx : Rd encI 1 w0.heap.size w0 p n xs) :
    Calls Try.prog 83 #[iv b, .slice p n c] w0 (fun e w' => e = .returned (iv (leastL b xs)) ∧ Ext w0 w') := by
  have hl1 := hx.len; have hs1 := hx.size
  refine calls_of_W Try.func83 rfl (by kernel_rfl) (args := [iv b, .slice p n c]) fun a hF => ?_
  replace hF : Fr 18 [] [(0, iv b), (1, .slice p n c)] a := hF
  have hO : Own w0 none_ [] w0 := Own.start w0 _
  refine W_seq (region_q {} TBok hF (F' := [(0, iv b), (1, .slice p n c), (4, iv 0)]) (rs := []) [0, 1, 4] .nil (by kernel_rfl) fun a w hF hE => ?_)
  replace hO := hO.ext hE; clear hE
  refine W_seq ?_
  refine W_seq (region_q {} TBok hF (F' := [(0, iv b), (4, iv 0), (7, .slice p n c), (8, iv (n : Int)), (9, iv 0)]) (rs := []) [0, 4, 7, 8, 9] .nil (by kernel_rfl) fun a w hF hE => ?_)
  replace hO := hO.ext hE; clear hE
  refine (W_block ?_)
  refine (W_loop (fun m a w => ∃ (k : Nat), m = n - k ∧ k ≤ n ∧ Fr 18 [] [(0, iv ((xs.take k).foldl mn b)), (4, iv 0), (7, .slice p n c), (8, iv (n : Int)), (9, iv (k : Int))] a ∧ Own w0 none_ [] w) _ ⟨0, rfl, Nat.zero_le _, hF, hO⟩ ?_)
  clear hF hO
  rintro _ a w ⟨k, rfl, hk, hF, hO⟩
  refine W_seq (region_q {} TBok hF (F' := [(0, iv ((xs.take k).foldl mn b)), (4, iv 0), (7, .slice p n c), (8, iv (n : Int)), (9, iv (k : Int)), (10, .bool (decide ((k : Int) < (n : Int))))]) (rs := []) [0, 4, 7, 8, 9, 10] .nil (by kernel_rfl) fun a w hF hE => ?_)
  replace hO := hO.ext hE; clear hE
  rcases Bool.eq_false_or_eq_true (decide ((k : Int) < (n : Int))) with hc1 | hc1
  · refine W_seq (W_true ((evOp hF (by kernel_rfl)).trans (congrArg Value.bool hc1)) ?_)
    have hc1_ := of_decide_eq_true hc1
    refine (W_skip ?_)
    refine W_seq (W_block ?_)
    refine W_seq (region_q {} TBok hF (F' := [(0, iv ((xs.take k).foldl mn b)), (4, iv 0), (6, iv (xs.getD k default)), (7, .slice p n c), (8, iv (n : Int)), (9, iv (k : Int))]) (rs := [.idx p n (k : Int) 1 (adr p 1 (k : Int)), .ld (adr p 1 (k : Int)) (iv (xs.getD k default))]) [0, 4, 6, 7, 8, 9] (.cons (ix hx (by omega) (by omega)) <| .cons (ldx hO.st nom hx (by omega) (by omega) 0 rfl) <| .nil) (by kernel_rfl) fun a w hF hE => ?_)
    replace hO := hO.ext hE; clear hE
    refine (region_q { md := [(2, 3)] } TBok hF (F' := [(0, iv (mn ((xs.take k).foldl mn b) (xs.getD k default))), (4, iv 0), (7, .slice p n c), (8, iv (n : Int)), (9, iv (k : Int))]) (rs := [.raw (Builtin.min_ #[3, 3] 3 #[iv ((xs.take k).foldl mn b), iv (xs.getD k default)]) (iv (mn ((xs.take k).foldl mn b) (xs.getD k default)))]) [0, 4, 7, 8, 9] (.cons raw_min2 <| .nil) (by kernel_rfl) fun a w hF hE => ?_)
    replace hO := hO.ext hE; clear hE
    refine (region_q {} TBok hF (F' := [(0, iv (mn ((xs.take k).foldl mn b) (xs.getD k default))), (4, iv 0), (7, .slice p n c), (8, iv (n : Int)), (9, iv ((k : Int) + 1))]) (rs := [.rng ((k : Int) + 1)]) [0, 4, 7, 8, 9] (.cons (rg (by omega)) <| .nil) (by kernel_rfl) fun a w hF hE => ?_)
    replace hO := hO.ext hE; clear hE
    exact ⟨_, by omega, k + 1, rfl, by omega, hF.cast (by rw [foldl_take _ _ (by omega)]; rfl), hO⟩
  · refine W_seq (W_false ((evOp hF (by kernel_rfl)).trans (congrArg Value.bool hc1)) ?_)
    have hc1_ := of_decide_eq_false hc1
    refine (W_exit ?_)
    refine W_seq (region_q {} TBok hF (F' := [(4, iv ((xs.take k).foldl mn b))]) (rs := []) [4] .nil (by kernel_rfl) fun a w hF hE => ?_)
    replace hO := hO.ext hE; clear hE
    refine W_ret ?_
    show bodyPostM (FW none) 0 _ _ _ Exit.ret a w
    have hkk : xs.take k = xs := List.take_of_length_le (by omega)
    exact leave_r TBok hF (.nil _) (vs := [iv ((xs.take k).foldl mn b)]) (rs := []) .nil (by kernel_rfl) ⟨by rw [hkk]; rfl, hO.kp⟩

set_option maxHeartbeats 4000000 in
set_option maxRecDepth 100000 in
theorem isAsked_calls (s : Sea) (v : SV) (mb : Nat) (qa : Option Addr) (qn qc : Nat) (rs : List Rp) (wr h : Int) (w0 : World) (hg : LogR w0.heap.size w0 v mb qa qn s rs) (hv : seaB s = true) (hr : rpsB s rs = true) :
    Calls Try.prog 62 #[.agg (sS8 s v mb qa qn qc), iv wr, iv h] w0 (fun e w' => e = .returned (.bool (cond (inB wr 0 24) (inB h 0 (s.hours - 1)) false)) ∧ Ext w0 w') := by
  have hs := hg.sea; have hq1 := hg.reps.len; have hrl := rqs_len (s := s) (rs := rs); have hrp := rp_ok hr; have hl1 := hs.land.len; have hl2 := hs.drift.len; have hs1 := hs.land.size; have hs2 := hs.drift.size; have hr_ := hs.rg; unfold i64 at hr_; have hv1 := sea_ok hv
  refine calls_of_W Try.func62 rfl (by kernel_rfl) (args := [.agg (sS8 s v mb qa qn qc), iv wr, iv h]) fun a hF => ?_
  replace hF : Fr 18 [] [(0, .agg (sS8 s v mb qa qn qc)), (1, iv wr), (2, iv h)] a := hF
  have hO : Own w0 none_ [] w0 := Own.start w0 _
  refine W_seq (region_seq ?_)
  refine op_box (i := 0) (t := 80) (v := .agg (sS8 s v mb qa qn qc)) (d := 3) hF hO (by kernel_rfl) fun a w b1 hF hO _ => ?_
  refine seq_quiet {} TBok hF (F' := [(1, iv wr), (2, iv h), (3, pv b1), (6, .bool false)]) (rs := []) [1] [] [1, 2, 3, 6] .nil (by kernel_rfl) fun a w hF hE => ?_
  replace hO := hO.ext hE; clear hE
  refine W_seq (region_q { sy := [2] } TBok hF (F' := [(6, .bool (cond (inB wr 0 24) (inB h 0 (s.hours - 1)) false))]) (rs := [.call 48 #[iv wr, iv 0, iv 24] (.bool (inB wr 0 24)), .und (inB wr 0 24) (.ld ⟨b1, 3, none⟩ (iv s.hours)), .und (inB wr 0 24) (.rng (s.hours - 1)), .und (inB wr 0 24) (.call 48 #[iv h, iv 0, iv (s.hours - 1)] (.bool (inB h 0 (s.hours - 1))))]) [6] (.cons (fun w _ => within_calls _ _ _ w) <| .cons (fun hg => (ldo hO.st 0 rfl 3 rfl)) <| .cons (fun hg => (rg (by omega))) <| .cons (fun hg => (fun w _ => within_calls _ _ _ w)) <| .nil) (by kernel_rfl) fun a w hF hE => ?_)
  replace hO := hO.ext hE; clear hE
  refine W_ret ?_
  show bodyPostM (FW none) 0 _ _ _ Exit.ret a w
  exact leave_r TBok hF (.nil _) (vs := [.bool (cond (inB wr 0 24) (inB h 0 (s.hours - 1)) false)]) (rs := []) .nil (by kernel_rfl) ⟨rfl, hO.kp⟩

set_option maxHeartbeats 4000000 in
set_option maxRecDepth 100000 in
theorem gone_first (s : Sea) (v : SV) (mb : Nat) (qa : Option Addr) (qn qc : Nat) (rs : List Rp) (h : Int) (bg : Nat) (w0 : World) (hg : LogR w0.heap.size w0 v mb qa qn s rs) (hv : seaB s = true) (hr : rpsB s rs = true) :
    Calls Try.prog 80 #[.agg (sS8 s v mb qa qn qc), .agg #[.func (.func 86) #[] #[pv bg]], iv h, .pointer none] w0 (fun e w' => e = .returned (.agg (arrL 80 (goneF s (fun x => (untr s rs h x)))).toArray) ∧ Ext w0 w') := by
  have hs := hg.sea; have hq1 := hg.reps.len; have hrl := rqs_len (s := s) (rs := rs); have hrp := rp_ok hr; have hl1 := hs.land.len; have hl2 := hs.drift.len; have hs1 := hs.land.size; have hs2 := hs.drift.size; have hr_ := hs.rg; unfold i64 at hr_; have hv1 := sea_ok hv
  refine calls_of_W Try.func80 rfl (by kernel_rfl) (args := [.agg (sS8 s v mb qa qn qc), .agg #[.func (.func 86) #[] #[pv bg]], iv h, .pointer none]) fun a hF => ?_
  replace hF : Fr 62 [] [(0, .agg (sS8 s v mb qa qn qc)), (1, .agg #[.func (.func 86) #[] #[pv bg]]), (2, iv h), (3, .pointer none)] a := hF
  have hO : Own w0 none_ [] w0 := Own.start w0 _
  refine W_seq (region_seq ?_)
  refine op_box (i := 0) (t := 80) (v := .agg (sS8 s v mb qa qn qc)) (d := 4) hF hO (by kernel_rfl) fun a w b1 hF hO _ => ?_
  refine op_box (i := 1) (t := 125) (v := .agg #[.func (.func 86) #[] #[pv bg]]) (d := 5) hF hO (by kernel_rfl) fun a w b2 hF hO _ => ?_
  refine op_box (i := 2) (t := 3) (v := iv h) (d := 6) hF hO (by kernel_rfl) fun a w b3 hF hO _ => ?_
  refine op_box (i := 3) (t := 122) (v := .pointer none) (d := 7) hF hO (by kernel_rfl) fun a w b4 hF hO _ => ?_
  replace hO : Own w0 none_ [cel b1 (sS8 s v mb qa qn qc) 80, cel b2 #[.func (.func 86) #[] #[pv bg]] 125, cel b3 #[iv h] 3, cel b4 #[.pointer none] 122] w := hO
  refine op_alloc (i := 4) (t := 99) (d := 8) (z := .agg (arrL 80 (fun _ => 0)).toArray) hF hO (by kernel_rfl) (by kernel_rfl) fun a w b5 hF hO _ => ?_
  replace hF := hF.sel [4, 5, 6, 7, 8]
  replace hF : Fr 62 [] [(4, pv b1), (5, pv b2), (6, pv b3), (7, pv b4), (8, pv b5)] a := hF
  refine W_seq (region_seq ?_)
  refine op_alloc (i := 0) (t := 99) (d := 9) (z := .agg (arrL 80 (fun _ => 0)).toArray) hF hO (by kernel_rfl) (by kernel_rfl) fun a w b6 hF hO _ => ?_
  replace hF := hF.sel [4, 5, 6, 7, 8, 9]
  replace hF : Fr 62 [] [(4, pv b1), (5, pv b2), (6, pv b3), (7, pv b4), (8, pv b5), (9, pv b6)] a := hF
  refine W_seq ?_
  refine W_seq (region_q {} TBok hF (F' := [(4, pv b1), (5, pv b2), (6, pv b3), (7, pv b4), (8, pv b5), (9, pv b6), (16, iv 0)]) (rs := []) [4, 5, 6, 7, 8, 9, 16] .nil (by kernel_rfl) fun a w hF hE => ?_)
  replace hO := hO.ext hE; clear hE
  refine (W_block ?_)
  refine (W_loop (fun m a w => ∃ (k : Nat), ∃ (g : Nat → Int), m = 80 - k ∧ k ≤ 80 ∧ (∀ i, i < 80 → g i = if i < k then 1048576 else 0) ∧ Fr 62 [] [(4, pv b1), (5, pv b2), (6, pv b3), (7, pv b4), (8, pv b5), (9, pv b6), (16, iv (k : Int))] a ∧ Own w0 none_ [cel b1 (sS8 s v mb qa qn qc) 80, cel b2 #[.func (.func 86) #[] #[pv bg]] 125, cel b3 #[iv h] 3, cel b4 #[.pointer none] 122, cel b5 (arrL 80 (fun _ => 0)).toArray 99, cel b6 (arrL 80 g).toArray 99] w) _ ⟨0, (fun _ => 0), rfl, Nat.zero_le _, (fun i _ => by simp), hF, hO⟩ ?_)
  clear hF hO
  rintro _ a w ⟨k, g, rfl, hk, hfil, hF, hO⟩
  refine W_seq (region_q {} TBok hF (F' := [(4, pv b1), (5, pv b2), (6, pv b3), (7, pv b4), (8, pv b5), (9, pv b6), (16, iv (k : Int)), (17, .bool (decide ((k : Int) < 80)))]) (rs := []) [4, 5, 6, 7, 8, 9, 16, 17] .nil (by kernel_rfl) fun a w hF hE => ?_)
  replace hO := hO.ext hE; clear hE
  rcases Bool.eq_false_or_eq_true (decide ((k : Int) < 80)) with hc7 | hc7
  · refine W_seq (W_true ((evOp hF (by kernel_rfl)).trans (congrArg Value.bool hc7)) ?_)
    have hc7_ := of_decide_eq_true hc7
    refine (W_skip ?_)
    refine W_seq (W_block ?_)
    refine W_seq (region_q {} TBok hF (F' := [(4, pv b1), (5, pv b2), (6, pv b3), (7, pv b4), (8, pv b5), (9, pv b6), (10, iv (k : Int)), (16, iv (k : Int))]) (rs := []) [4, 5, 6, 7, 8, 9, 10, 16] .nil (by kernel_rfl) fun a w hF hE => ?_)
    replace hO := hO.ext hE; clear hE
    refine (region_seq ?_)
    refine seq_quiet {} TBok hF (F' := [(4, pv b1), (5, pv b2), (6, pv b3), (7, pv b4), (8, pv b5), (9, pv b6), (16, iv (k : Int)), (20, .pointer (some ((⟨b6, 0, none⟩ : Addr).add ((k : Int).toNat * 1))))]) (rs := [.idx (some ⟨b6, 0, none⟩) 80 (k : Int) 1 ((⟨b6, 0, none⟩ : Addr).add ((k : Int).toNat * 1))]) [0, 1] [2] [4, 5, 6, 7, 8, 9, 16, 20] (.cons (ixa (by omega) (by omega)) <| .nil) (by kernel_rfl) fun a w hF hE => ?_
    replace hO := hO.ext hE; clear hE
    refine op_storef (k := 2) (t := 3) (x := 1048576) (n := 80) (pre := []) (post := []) (f := g) (i := (k : Int)) (off := 0) hF hO (by kernel_rfl) 5 rfl rfl (by omega) (by omega) (by kernel_rfl) fun a w hF hO _ => ?_
    replace hF := hF.sel [4, 5, 6, 7, 8, 9, 16]
    replace hF : Fr 62 [] [(4, pv b1), (5, pv b2), (6, pv b3), (7, pv b4), (8, pv b5), (9, pv b6), (16, iv (k : Int))] a := hF
    refine (region_q {} TBok hF (F' := [(4, pv b1), (5, pv b2), (6, pv b3), (7, pv b4), (8, pv b5), (9, pv b6), (16, iv ((k : Int) + 1))]) (rs := [.rng ((k : Int) + 1)]) [4, 5, 6, 7, 8, 9, 16] (.cons (rg (by omega)) <| .nil) (by kernel_rfl) fun a w hF hE => ?_)
    replace hO := hO.ext hE; clear hE
    exact ⟨_, by omega, k + 1, _, rfl, by omega, fill_step hfil, hF, hO⟩
  · refine W_seq (W_false ((evOp hF (by kernel_rfl)).trans (congrArg Value.bool hc7)) ?_)
    have hc7_ := of_decide_eq_false hc7
    refine (W_exit ?_)
    refine W_seq ?_
    refine W_seq (region_seq ?_)
    refine seq_quiet {} TBok hF (F' := [(4, pv b1), (5, pv b2), (6, pv b3), (7, pv b4), (8, pv b5), (9, pv b6), (23, .agg (sS7 s v mb))]) (rs := [.lds ⟨b1, 0, none⟩ (sL7 s v mb)]) [0, 1] [2] [4, 5, 6, 7, 8, 9, 23] (.cons (ldso hO.st 0 rfl 0 rfl) <| .nil) (by kernel_rfl) fun a w hF hE => ?_
    replace hO := hO.ext hE; clear hE
    refine op_call (i := 2) (f := 59) (args := #[.agg (sS7 s v mb)]) (d := some 24) TBok (by kernel_rfl) hF (by kernel_rfl) (cells_calls s v mb _) fun e w hR => ?_
    obtain ⟨b8, he, hO2⟩ := hR
    refine ⟨_, he, fun a hF => ?_⟩
    replace hO := hO.joinE hO2; clear hO2 he
    replace hF := hF.sel [4, 5, 6, 7, 8, 9, 24]
    replace hF : Fr 62 [] [(4, pv b1), (5, pv b2), (6, pv b3), (7, pv b4), (8, pv b5), (9, pv b6), (24, .func (.func 84) #[] #[pv b8])] a := hF
    refine (W_block ?_)
    refine W_range (t := 25) (f := 84) (fst := #[]) (cap := #[pv b8]) TBok hF hO (by kernel_rfl) (by kernel_rfl) fun fn w D9 lr10 hlr hO hE => ?_
    clear hE; have hFo := hF
    replace hO : Own w0 none_ [cel b1 (sS8 s v mb qa qn qc) 80, cel b2 #[.func (.func 86) #[] #[pv bg]] 125, cel b3 #[iv h] 3, cel b4 #[.pointer none] 122, cel b5 (arrL 80 (fun _ => 0)).toArray 99, cel b6 (arrL 80 g).toArray 99, cel b8 (sS7 s v mb) 77, pt D9 (.deferred (some [])), pt (D9 + 1) (.loop lr10)] w := hO
    refine (cells_run s v mb b8 (D9 + 1) (fun r w => ∃ (g1 : Nat → Int), (∀ i, i < 80 → g1 i = if (i : Int) ∈ r then 1048576 else goneF s (fun x => (untr s rs h x)) i) ∧ r.Nodup ∧ (∀ y ∈ r, y ∈ cellsA s 0) ∧ Own w0 none_ [cel b1 (sS8 s v mb qa qn qc) 80, cel b2 #[.func (.func 86) #[] #[pv bg]] 125, cel b3 #[iv h] 3, cel b4 #[.pointer none] 122, cel b5 (arrL 80 (fun _ => 0)).toArray 99, cel b6 (arrL 80 g1).toArray 99, cel b8 (sS7 s v mb) 77, pt D9 (.deferred (some [])), pt (D9 + 1) (.loop lr10)] w) (fun w => False) w hv ?_ ?_ ?_ ?_ ?_).mono ?_
    · rintro r w w2 ⟨g1, hgf, hnd, hmem, hO⟩ hE; exact ⟨g1, hgf, hnd, hmem, hO.ext hE⟩
    · exact fun _ _ h _ => h.elim
    · rintro r w ⟨g1, hgf, hnd, hmem, hO⟩
      exact ⟨Ro.of_ok (cs := (sL7 s v mb)) (hO.get 6 rfl), (hg.upM hO.kp nom (Nat.le_refl _)).land⟩
    · clear hO
      rintro x11 r w ⟨g1, hgf, hnd, hmem, hO⟩
      have hl1_ : w.heap[D9 + 1]? = some (.loop lr10) := hO.get 8 rfl
      rw [hlr] at hl1_
      refine yields_ofR hl1_ fun Rr hRr => ?_
      clear hl1_
      have hF := hFo.round (t := 25) (by kernel_rfl) (iv x11)
      replace hF : Fr 62 [] [(4, pv b1), (5, pv b2), (6, pv b3), (7, pv b4), (8, pv b5), (9, pv b6), (24, .func (.func 84) #[] #[pv b8]), (25, iv x11)] _ := hF.sel [4, 5, 6, 7, 8, 9, 24, 25]
      have hxm := mem_cellsA (hmem _ (List.mem_cons_self ..))
      have hu := untr_bd (s := s) (rs := rs) h x11
      refine (region_q {} TBok hF (F' := [(4, pv b1), (5, pv b2), (6, pv b3), (7, pv b4), (8, pv b5), (9, pv b6), (11, iv x11), (24, .func (.func 84) #[] #[pv b8])]) (rs := []) [4, 5, 6, 7, 8, 9, 11, 24] .nil (by kernel_rfl) fun a w hF hE => ?_)
      replace hO := hO.ext hE; clear hE
      obtain ⟨w, hb, hO⟩ := begin_round (P := Try.prog) hO 8 rfl (by rw [hlr]; rfl)
      refine ⟨rfl, w, hb, ?_⟩
      clear hb
      refine (W_block ?_)
      refine W_seq (region_q {} TBok hF (F' := [(4, pv b1), (5, pv b2), (6, pv b3), (7, pv b4), (8, pv b5), (9, pv b6), (11, iv x11), (12, iv (untr s rs h x11)), (24, .func (.func 84) #[] #[pv b8])]) (rs := [.lds ⟨b1, 0, none⟩ (sL8 s v mb qa qn qc), .ld ⟨b3, 0, none⟩ (iv h), .call 52 #[.agg (sS8 s v mb qa qn qc), iv h, iv x11] (iv (untr s rs h x11))]) [4, 5, 6, 7, 8, 9, 11, 12, 24] (.cons (ldso hO.st 0 rfl 0 rfl) <| .cons (ldo hO.st 2 rfl 0 rfl) <| .cons (fun w hE => untrue_calls s v mb qa qn qc rs h x11 w (hg.upM (hO.st w hE).kp nom (Nat.le_refl _)) hv hr (by omega)) <| .nil) (by kernel_rfl) fun a w hF hE => ?_)
      replace hO := hO.ext hE; clear hE
      refine W_seq ?_
      refine W_seq (region_q { md := [(1, 3)] } TBok hF (F' := [(4, pv b1), (5, pv b2), (6, pv b3), (7, pv b4), (8, pv b5), (9, pv b6), (11, iv x11), (12, iv (untr s rs h x11)), (24, .func (.func 84) #[] #[pv b8]), (31, .bool true)]) (rs := [.ld ⟨b4, 0, none⟩ (.pointer none), .raw (rb .eql 122 (.tmp 30) (.const (.pointer none)) (.pointer none) (.pointer none)) (.bool true)]) [4, 5, 6, 7, 8, 9, 11, 12, 24, 31] (.cons (ldo hO.st 3 rfl 0 rfl) <| .cons (raw_ptrNil ptrT122 none) <| .nil) (by kernel_rfl) fun a w hF hE => ?_)
      replace hO := hO.ext hE; clear hE
      refine (W_true (evOp hF (by kernel_rfl)) ?_)
      refine W_seq (region_seq ?_)
      refine seq_quiet {} TBok hF (F' := [(4, pv b1), (5, pv b2), (6, pv b3), (7, pv b4), (8, pv b5), (9, pv b6), (11, iv x11), (12, iv (untr s rs h x11)), (24, .func (.func 84) #[] #[pv b8]), (33, iv (untr s rs h x11)), (34, .pointer (some ((⟨b6, 0, none⟩ : Addr).add (x11.toNat * 1))))]) (rs := [.idx (some ⟨b6, 0, none⟩) 80 x11 1 ((⟨b6, 0, none⟩ : Addr).add (x11.toNat * 1))]) [0, 1, 2] [3] [4, 5, 6, 7, 8, 9, 11, 12, 24, 33, 34] (.cons (ixa (by omega) (by omega)) <| .nil) (by kernel_rfl) fun a w hF hE => ?_
      replace hO := hO.ext hE; clear hE
      refine op_storef (k := 3) (t := 3) (x := (untr s rs h x11)) (n := 80) (pre := []) (post := []) (f := g1) (i := x11) (off := 0) hF hO (by kernel_rfl) 5 rfl rfl (by omega) (by omega) (by kernel_rfl) fun a w hF hO _ => ?_
      replace hF := hF.sel [4, 5, 6, 7, 8, 9, 11, 12, 24]
      replace hF : Fr 62 [] [(4, pv b1), (5, pv b2), (6, pv b3), (7, pv b4), (8, pv b5), (9, pv b6), (11, iv x11), (12, iv (untr s rs h x11)), (24, .func (.func 84) #[] #[pv b8])] a := hF
      refine (W_exit ?_)
      show roundPost Try.prog (D9 + 1) (fun e w => ∃ b, e = .returned (.bool b) ∧ Rr b w) (Exit.normal) a w
      replace hO : Own w0 none_ [cel b1 (sS8 s v mb qa qn qc) 80, cel b2 #[.func (.func 86) #[] #[pv bg]] 125, cel b3 #[iv h] 3, cel b4 #[.pointer none] 122, cel b5 (arrL 80 (fun _ => 0)).toArray 99, cel b6 (arrL 80 (updf g1 x11.toNat (untr s rs h x11))).toArray 99, cel b8 (sS7 s v mb) 77, pt D9 (.deferred (some [])), pt (D9 + 1) (.loop { lr10 with state := .busy })] w := hO
      replace hO : Own w0 none_ [cel b1 (sS8 s v mb qa qn qc) 80, cel b2 #[.func (.func 86) #[] #[pv bg]] 125, cel b3 #[iv h] 3, cel b4 #[.pointer none] 122, cel b5 (arrL 80 (fun _ => 0)).toArray 99, cel b6 (arrL 80 (updf g1 x11.toNat ((fun x => (untr s rs h x)) x11))).toArray 99, cel b8 (sS7 s v mb) 77, pt D9 (.deferred (some [])), pt (D9 + 1) (.loop { lr10 with state := .busy })] w := hO.cast (by rfl)
      obtain ⟨w, he, hO⟩ := end_round (P := Try.prog) none hO 8 rfl
      refine round_next he ?_
      rw [hRr]
      exact ⟨_, goneF_step (val := (fun x => (untr s rs h x))) hgf hnd (hmem _ (List.mem_cons_self ..)), (List.nodup_cons.1 hnd).2, fun y hy => hmem y (List.mem_cons_of_mem _ hy), hO.cast (by rw [hlr]; rfl)⟩
    · exact ⟨g, gone_start (fun i hi => by rw [hfil i hi, if_pos (by omega)]), cellsA_nodup s 0, fun y hy => hy, hO⟩
    clear hO
    rintro e w ⟨he, hJ | hS⟩
    · obtain ⟨g1, hgf, hnd, hmem, hO⟩ := hJ
      subst he
      refine ⟨_, rfl, lr10, hO.get 8 rfl, by rw [hlr]; simp [loopR], .inl ⟨by rw [hlr]; rfl, fun a hF => ?_⟩⟩
      replace hO := hO.put 8 rfl (.loop { lr10 with state := .exhausted })
      generalize w.putObj (D9 + 1) (.loop { lr10 with state := .exhausted }) = w at hO ⊢
      replace hO := hO.drop1 8
      refine W_seq (region_seq ?_)
      refine seq_quiet {} TBok hF (F' := [(8, pv b5), (61, .agg (arrL 80 g1).toArray)]) (rs := [.lds ⟨b6, 0, none⟩ (arrL 80 g1)]) [0] [1] [8, 61] (.cons (ldso hO.st 5 rfl 0 (by kernel_rfl)) <| .nil) (by kernel_rfl) fun a w hF hE => ?_
      replace hO := hO.ext hE; clear hE
      refine op_store (i := 1) (t := 99) (p := ⟨b5, 0, none⟩) (v := .agg (arrL 80 g1).toArray) (off := 0) (sz := 80) (cs' := (arrL 80 g1).toArray) hF hO (by kernel_rfl) 4 rfl rfl (by kernel_rfl) (by kernel_rfl) (by kernel_rfl) fun a w hF hO _ => ?_
      replace hF := hF.sel [8]
      replace hF : Fr 62 [mk D9] [(8, pv b5)] a := hF
      refine W_ret ?_
      show bodyPostM (FW none) 0 _ _ _ Exit.ret a w
      obtain ⟨w, hs, hO⟩ := shut1 hO 7 rfl
      have hO3 := hO.kp
      exact leave_r TBok hF hs (vs := [.agg (arrL 80 g1).toArray]) (rs := [.lds ⟨b5, 0, none⟩ (arrL 80 g1)]) (.cons (rdso hO 4 rfl 0 (by kernel_rfl)) <| .nil) (by kernel_rfl) ⟨by rw [gone_end hgf]; rfl, hO3⟩
    · exact hS.elim

set_option maxHeartbeats 4000000 in
set_option maxRecDepth 100000 in
theorem gone_forth (s : Sea) (v : SV) (mb : Nat) (qa : Option Addr) (qn qc : Nat) (rs : List Rp) (h : Int) (bg : Nat) (ad : Addr) (G_ : Nat → Int) (w0 : World) (hg : LogR w0.heap.size w0 v mb qa qn s rs) (hv : seaB s = true) (hr : rpsB s rs = true) (hb : Ro bg (sL8 s v mb qa qn qc) w0) (hh : 1 ≤ h ∧ h ≤ v.dn) (hbef : Rd encI 1 w0.heap.size w0 (some ad) 80 ((List.range 80).map G_)) (hG : cntB G_) :
    Calls Try.prog 80 #[.agg (sS8 s v mb qa qn qc), .agg #[.func (.func 86) #[] #[pv bg]], iv h, .pointer (some ad)] w0 (fun e w' => e = .returned (.agg (arrL 80 (goneF s (fun x => (mn 1048576 (bestOf G_ ((cellsA s 0).filter (fun o => (stepP s (h - 1) (pl s o) (pl s x)))) + untr s rs h x))))).toArray) ∧ Ext w0 w') := by
  have hs := hg.sea; have hq1 := hg.reps.len; have hrl := rqs_len (s := s) (rs := rs); have hrp := rp_ok hr; have hl1 := hs.land.len; have hl2 := hs.drift.len; have hs1 := hs.land.size; have hs2 := hs.drift.size; have hr_ := hs.rg; unfold i64 at hr_; have hv1 := sea_ok hv
  refine calls_of_W Try.func80 rfl (by kernel_rfl) (args := [.agg (sS8 s v mb qa qn qc), .agg #[.func (.func 86) #[] #[pv bg]], iv h, .pointer (some ad)]) fun a hF => ?_
  replace hF : Fr 62 [] [(0, .agg (sS8 s v mb qa qn qc)), (1, .agg #[.func (.func 86) #[] #[pv bg]]), (2, iv h), (3, .pointer (some ad))] a := hF
  have hO : Own w0 none_ [] w0 := Own.start w0 _
  refine W_seq (region_seq ?_)
  refine op_box (i := 0) (t := 80) (v := .agg (sS8 s v mb qa qn qc)) (d := 4) hF hO (by kernel_rfl) fun a w b1 hF hO _ => ?_
  refine op_box (i := 1) (t := 125) (v := .agg #[.func (.func 86) #[] #[pv bg]]) (d := 5) hF hO (by kernel_rfl) fun a w b2 hF hO _ => ?_
  refine op_box (i := 2) (t := 3) (v := iv h) (d := 6) hF hO (by kernel_rfl) fun a w b3 hF hO _ => ?_
  refine op_box (i := 3) (t := 122) (v := .pointer (some ad)) (d := 7) hF hO (by kernel_rfl) fun a w b4 hF hO _ => ?_
  replace hO : Own w0 none_ [cel b1 (sS8 s v mb qa qn qc) 80, cel b2 #[.func (.func 86) #[] #[pv bg]] 125, cel b3 #[iv h] 3, cel b4 #[.pointer (some ad)] 122] w := hO
  refine op_alloc (i := 4) (t := 99) (d := 8) (z := .agg (arrL 80 (fun _ => 0)).toArray) hF hO (by kernel_rfl) (by kernel_rfl) fun a w b5 hF hO _ => ?_
  replace hF := hF.sel [4, 5, 6, 7, 8]
  replace hF : Fr 62 [] [(4, pv b1), (5, pv b2), (6, pv b3), (7, pv b4), (8, pv b5)] a := hF
  refine W_seq (region_seq ?_)
  refine op_alloc (i := 0) (t := 99) (d := 9) (z := .agg (arrL 80 (fun _ => 0)).toArray) hF hO (by kernel_rfl) (by kernel_rfl) fun a w b6 hF hO _ => ?_
  replace hF := hF.sel [4, 5, 6, 7, 8, 9]
  replace hF : Fr 62 [] [(4, pv b1), (5, pv b2), (6, pv b3), (7, pv b4), (8, pv b5), (9, pv b6)] a := hF
  refine W_seq ?_
  refine W_seq (region_q {} TBok hF (F' := [(4, pv b1), (5, pv b2), (6, pv b3), (7, pv b4), (8, pv b5), (9, pv b6), (16, iv 0)]) (rs := []) [4, 5, 6, 7, 8, 9, 16] .nil (by kernel_rfl) fun a w hF hE => ?_)
  replace hO := hO.ext hE; clear hE
  refine (W_block ?_)
  refine (W_loop (fun m a w => ∃ (k : Nat), ∃ (g : Nat → Int), m = 80 - k ∧ k ≤ 80 ∧ (∀ i, i < 80 → g i = if i < k then 1048576 else 0) ∧ Fr 62 [] [(4, pv b1), (5, pv b2), (6, pv b3), (7, pv b4), (8, pv b5), (9, pv b6), (16, iv (k : Int))] a ∧ Own w0 none_ [cel b1 (sS8 s v mb qa qn qc) 80, cel b2 #[.func (.func 86) #[] #[pv bg]] 125, cel b3 #[iv h] 3, cel b4 #[.pointer (some ad)] 122, cel b5 (arrL 80 (fun _ => 0)).toArray 99, cel b6 (arrL 80 g).toArray 99] w) _ ⟨0, (fun _ => 0), rfl, Nat.zero_le _, (fun i _ => by simp), hF, hO⟩ ?_)
  clear hF hO
  rintro _ a w ⟨k, g, rfl, hk, hfil, hF, hO⟩
  refine W_seq (region_q {} TBok hF (F' := [(4, pv b1), (5, pv b2), (6, pv b3), (7, pv b4), (8, pv b5), (9, pv b6), (16, iv (k : Int)), (17, .bool (decide ((k : Int) < 80)))]) (rs := []) [4, 5, 6, 7, 8, 9, 16, 17] .nil (by kernel_rfl) fun a w hF hE => ?_)
  replace hO := hO.ext hE; clear hE
  rcases Bool.eq_false_or_eq_true (decide ((k : Int) < 80)) with hc7 | hc7
  · refine W_seq (W_true ((evOp hF (by kernel_rfl)).trans (congrArg Value.bool hc7)) ?_)
    have hc7_ := of_decide_eq_true hc7
    refine (W_skip ?_)
    refine W_seq (W_block ?_)
    refine W_seq (region_q {} TBok hF (F' := [(4, pv b1), (5, pv b2), (6, pv b3), (7, pv b4), (8, pv b5), (9, pv b6), (10, iv (k : Int)), (16, iv (k : Int))]) (rs := []) [4, 5, 6, 7, 8, 9, 10, 16] .nil (by kernel_rfl) fun a w hF hE => ?_)
    replace hO := hO.ext hE; clear hE
    refine (region_seq ?_)
    refine seq_quiet {} TBok hF (F' := [(4, pv b1), (5, pv b2), (6, pv b3), (7, pv b4), (8, pv b5), (9, pv b6), (16, iv (k : Int)), (20, .pointer (some ((⟨b6, 0, none⟩ : Addr).add ((k : Int).toNat * 1))))]) (rs := [.idx (some ⟨b6, 0, none⟩) 80 (k : Int) 1 ((⟨b6, 0, none⟩ : Addr).add ((k : Int).toNat * 1))]) [0, 1] [2] [4, 5, 6, 7, 8, 9, 16, 20] (.cons (ixa (by omega) (by omega)) <| .nil) (by kernel_rfl) fun a w hF hE => ?_
    replace hO := hO.ext hE; clear hE
    refine op_storef (k := 2) (t := 3) (x := 1048576) (n := 80) (pre := []) (post := []) (f := g) (i := (k : Int)) (off := 0) hF hO (by kernel_rfl) 5 rfl rfl (by omega) (by omega) (by kernel_rfl) fun a w hF hO _ => ?_
    replace hF := hF.sel [4, 5, 6, 7, 8, 9, 16]
    replace hF : Fr 62 [] [(4, pv b1), (5, pv b2), (6, pv b3), (7, pv b4), (8, pv b5), (9, pv b6), (16, iv (k : Int))] a := hF
    refine (region_q {} TBok hF (F' := [(4, pv b1), (5, pv b2), (6, pv b3), (7, pv b4), (8, pv b5), (9, pv b6), (16, iv ((k : Int) + 1))]) (rs := [.rng ((k : Int) + 1)]) [4, 5, 6, 7, 8, 9, 16] (.cons (rg (by omega)) <| .nil) (by kernel_rfl) fun a w hF hE => ?_)
    replace hO := hO.ext hE; clear hE
    exact ⟨_, by omega, k + 1, _, rfl, by omega, fill_step hfil, hF, hO⟩
  · refine W_seq (W_false ((evOp hF (by kernel_rfl)).trans (congrArg Value.bool hc7)) ?_)
    have hc7_ := of_decide_eq_false hc7
    refine (W_exit ?_)
    refine W_seq ?_
    refine W_seq (region_seq ?_)
    refine seq_quiet {} TBok hF (F' := [(4, pv b1), (5, pv b2), (6, pv b3), (7, pv b4), (8, pv b5), (9, pv b6), (23, .agg (sS7 s v mb))]) (rs := [.lds ⟨b1, 0, none⟩ (sL7 s v mb)]) [0, 1] [2] [4, 5, 6, 7, 8, 9, 23] (.cons (ldso hO.st 0 rfl 0 rfl) <| .nil) (by kernel_rfl) fun a w hF hE => ?_
    replace hO := hO.ext hE; clear hE
    refine op_call (i := 2) (f := 59) (args := #[.agg (sS7 s v mb)]) (d := some 24) TBok (by kernel_rfl) hF (by kernel_rfl) (cells_calls s v mb _) fun e w hR => ?_
    obtain ⟨b8, he, hO2⟩ := hR
    refine ⟨_, he, fun a hF => ?_⟩
    replace hO := hO.joinE hO2; clear hO2 he
    replace hF := hF.sel [4, 5, 6, 7, 8, 9, 24]
    replace hF : Fr 62 [] [(4, pv b1), (5, pv b2), (6, pv b3), (7, pv b4), (8, pv b5), (9, pv b6), (24, .func (.func 84) #[] #[pv b8])] a := hF
    refine (W_block ?_)
    refine W_range (t := 25) (f := 84) (fst := #[]) (cap := #[pv b8]) TBok hF hO (by kernel_rfl) (by kernel_rfl) fun fn w D9 lr10 hlr hO hE => ?_
    clear hE; have hFo := hF
    replace hO : Own w0 none_ [cel b1 (sS8 s v mb qa qn qc) 80, cel b2 #[.func (.func 86) #[] #[pv bg]] 125, cel b3 #[iv h] 3, cel b4 #[.pointer (some ad)] 122, cel b5 (arrL 80 (fun _ => 0)).toArray 99, cel b6 (arrL 80 g).toArray 99, cel b8 (sS7 s v mb) 77, pt D9 (.deferred (some [])), pt (D9 + 1) (.loop lr10)] w := hO
    refine (cells_run s v mb b8 (D9 + 1) (fun r w => ∃ (g1 : Nat → Int), (∀ i, i < 80 → g1 i = if (i : Int) ∈ r then 1048576 else goneF s (fun x => (mn 1048576 (bestOf G_ ((cellsA s 0).filter (fun o => (stepP s (h - 1) (pl s o) (pl s x)))) + untr s rs h x))) i) ∧ r.Nodup ∧ (∀ y ∈ r, y ∈ cellsA s 0) ∧ Own w0 none_ [cel b1 (sS8 s v mb qa qn qc) 80, cel b2 #[.func (.func 86) #[] #[pv bg]] 125, cel b3 #[iv h] 3, cel b4 #[.pointer (some ad)] 122, cel b5 (arrL 80 (fun _ => 0)).toArray 99, cel b6 (arrL 80 g1).toArray 99, cel b8 (sS7 s v mb) 77, pt D9 (.deferred (some [])), pt (D9 + 1) (.loop lr10)] w) (fun w => False) w hv ?_ ?_ ?_ ?_ ?_).mono ?_
    · rintro r w w2 ⟨g1, hgf, hnd, hmem, hO⟩ hE; exact ⟨g1, hgf, hnd, hmem, hO.ext hE⟩
    · exact fun _ _ h _ => h.elim
    · rintro r w ⟨g1, hgf, hnd, hmem, hO⟩
      exact ⟨Ro.of_ok (cs := (sL7 s v mb)) (hO.get 6 rfl), (hg.upM hO.kp nom (Nat.le_refl _)).land⟩
    · clear hO
      rintro x11 r w ⟨g1, hgf, hnd, hmem, hO⟩
      have hl1_ : w.heap[D9 + 1]? = some (.loop lr10) := hO.get 8 rfl
      rw [hlr] at hl1_
      refine yields_ofR hl1_ fun Rr hRr => ?_
      clear hl1_
      have hF := hFo.round (t := 25) (by kernel_rfl) (iv x11)
      replace hF : Fr 62 [] [(4, pv b1), (5, pv b2), (6, pv b3), (7, pv b4), (8, pv b5), (9, pv b6), (24, .func (.func 84) #[] #[pv b8]), (25, iv x11)] _ := hF.sel [4, 5, 6, 7, 8, 9, 24, 25]
      have hxm := mem_cellsA (hmem _ (List.mem_cons_self ..))
      have hu := untr_bd (s := s) (rs := rs) h x11
      refine (region_q {} TBok hF (F' := [(4, pv b1), (5, pv b2), (6, pv b3), (7, pv b4), (8, pv b5), (9, pv b6), (11, iv x11), (24, .func (.func 84) #[] #[pv b8])]) (rs := []) [4, 5, 6, 7, 8, 9, 11, 24] .nil (by kernel_rfl) fun a w hF hE => ?_)
      replace hO := hO.ext hE; clear hE
      obtain ⟨w, hb, hO⟩ := begin_round (P := Try.prog) hO 8 rfl (by rw [hlr]; rfl)
      refine ⟨rfl, w, hb, ?_⟩
      clear hb
      refine (W_block ?_)
      refine W_seq (region_q {} TBok hF (F' := [(4, pv b1), (5, pv b2), (6, pv b3), (7, pv b4), (8, pv b5), (9, pv b6), (11, iv x11), (12, iv (untr s rs h x11)), (24, .func (.func 84) #[] #[pv b8])]) (rs := [.lds ⟨b1, 0, none⟩ (sL8 s v mb qa qn qc), .ld ⟨b3, 0, none⟩ (iv h), .call 52 #[.agg (sS8 s v mb qa qn qc), iv h, iv x11] (iv (untr s rs h x11))]) [4, 5, 6, 7, 8, 9, 11, 12, 24] (.cons (ldso hO.st 0 rfl 0 rfl) <| .cons (ldo hO.st 2 rfl 0 rfl) <| .cons (fun w hE => untrue_calls s v mb qa qn qc rs h x11 w (hg.upM (hO.st w hE).kp nom (Nat.le_refl _)) hv hr (by omega)) <| .nil) (by kernel_rfl) fun a w hF hE => ?_)
      replace hO := hO.ext hE; clear hE
      refine W_seq ?_
      refine W_seq (region_q { md := [(1, 3)] } TBok hF (F' := [(4, pv b1), (5, pv b2), (6, pv b3), (7, pv b4), (8, pv b5), (9, pv b6), (11, iv x11), (12, iv (untr s rs h x11)), (24, .func (.func 84) #[] #[pv b8]), (31, .bool false)]) (rs := [.ld ⟨b4, 0, none⟩ (.pointer (some ad)), .raw (rb .eql 122 (.tmp 30) (.const (.pointer none)) (.pointer (some ad)) (.pointer none)) (.bool false)]) [4, 5, 6, 7, 8, 9, 11, 12, 24, 31] (.cons (ldo hO.st 3 rfl 0 rfl) <| .cons (raw_ptrNil ptrT122 (some ad)) <| .nil) (by kernel_rfl) fun a w hF hE => ?_)
      replace hO := hO.ext hE; clear hE
      refine (W_false (evOp hF (by kernel_rfl)) ?_)
      refine (W_skip ?_)
      refine W_seq (region_q {} TBok hF (F' := [(4, pv b1), (5, pv b2), (6, pv b3), (7, pv b4), (8, pv b5), (9, pv b6), (11, iv x11), (12, iv (untr s rs h x11)), (13, iv 1048576), (24, .func (.func 84) #[] #[pv b8])]) (rs := []) [4, 5, 6, 7, 8, 9, 11, 12, 13, 24] .nil (by kernel_rfl) fun a w hF hE => ?_)
      replace hO := hO.ext hE; clear hE
      refine W_seq ?_
      refine W_seq (region_seq ?_)
      refine seq_quiet {} TBok hF (F' := [(4, pv b1), (5, pv b2), (6, pv b3), (7, pv b4), (8, pv b5), (9, pv b6), (11, iv x11), (12, iv (untr s rs h x11)), (13, iv 1048576), (24, .func (.func 84) #[] #[pv b8]), (36, .func (.func 86) #[] #[pv bg]), (37, iv h), (38, iv x11)]) (rs := [.ld ⟨b2, 0, none⟩ (.func (.func 86) #[] #[pv bg]), .ld ⟨b3, 0, none⟩ (iv h)]) [0, 1, 2, 3] [4, 5, 6] [4, 5, 6, 7, 8, 9, 11, 12, 13, 24, 36, 37, 38] (.cons (ldo hO.st 1 rfl 0 rfl) <| .cons (ldo hO.st 2 rfl 0 rfl) <| .nil) (by kernel_rfl) fun a w hF hE => ?_
      replace hO := hO.ext hE; clear hE
      refine op_call (i := 4) (f := 86) (args := #[iv h, iv x11, pv bg]) (d := some 39) TBok (by kernel_rfl) hF (by kernel_rfl) (forth1_calls s v mb qa qn qc rs h x11 bg _ (hg.upM hO.kp nom (Nat.le_refl _)) hv hr (by omega) (hb.kp hO.kp (fun h => h)) hh) fun e w hR => ?_
      obtain ⟨p12, n13, c14, hn15, he, hO2⟩ := hR
      refine ⟨_, he, fun a hF => ?_⟩
      replace hO := hO.joinE hO2; clear hO2 he
      have hle_ : n13 ≤ 80 := by rw [← hn15]; exact Nat.le_trans (List.length_filter_le _ _) (cellsA_len hv)
      refine seq_quiet {} TBok hF (F' := [(4, pv b1), (5, pv b2), (6, pv b3), (7, pv b4), (8, pv b5), (9, pv b6), (11, iv x11), (12, iv (untr s rs h x11)), (13, iv 1048576), (24, .func (.func 84) #[] #[pv b8]), (39, .slice p12 n13 c14), (40, iv (n13 : Int)), (41, iv 0)]) (rs := []) [5, 6] [] [4, 5, 6, 7, 8, 9, 11, 12, 13, 24, 39, 40, 41] .nil (by kernel_rfl) fun a w hF hE => ?_
      replace hO := hO.ext hE; clear hE
      refine (W_block ?_)
      refine (W_loop (fun m a w => ∃ (k_ : Nat), m = n13 - k_ ∧ k_ ≤ n13 ∧ Fr 62 [] [(4, pv b1), (5, pv b2), (6, pv b3), (7, pv b4), (8, pv b5), (9, pv b6), (11, iv x11), (12, iv (untr s rs h x11)), (13, iv (bestOf G_ (((cellsA s 0).filter (fun o => (stepP s (h - 1) (pl s o) (pl s x11)))).take k_))), (24, .func (.func 84) #[] #[pv b8]), (39, .slice p12 n13 c14), (40, iv (n13 : Int)), (41, iv (k_ : Int))] a ∧ Own w0 none_ [cel b1 (sS8 s v mb qa qn qc) 80, cel b2 #[.func (.func 86) #[] #[pv bg]] 125, cel b3 #[iv h] 3, cel b4 #[.pointer (some ad)] 122, cel b5 (arrL 80 (fun _ => 0)).toArray 99, cel b6 (arrL 80 g1).toArray 99, cel b8 (sS7 s v mb) 77, pt D9 (.deferred (some [])), pt (D9 + 1) (.loop { lr10 with state := .busy }), rowR 3 1 (.slice p12 n13 c14) n13 (((cellsA s 0).filter (fun o => (stepP s (h - 1) (pl s o) (pl s x11)))).flatMap encI)] w) _ ⟨0, rfl, Nat.zero_le _, hF, hO⟩ ?_)
      clear hF hO
      rintro _ a w ⟨k_, rfl, hk_, hF, hO⟩
      have hfr : ∀ y ∈ ((cellsA s 0).filter (fun o => (stepP s (h - 1) (pl s o) (pl s x11)))), 0 ≤ y ∧ y < 80 := fun y hy => by have h_ := mem_cellsA (List.mem_filter.1 hy).1; omega
      have hbb := bestOf_bd hG (((cellsA s 0).filter (fun o => (stepP s (h - 1) (pl s o) (pl s x11)))).take k_) (fun y hy => hfr y (List.mem_of_mem_take hy)) 1048576 (by omega)
      rw [show List.foldl (fun b o => mn b (befG G_ o)) 1048576 (((cellsA s 0).filter (fun o => (stepP s (h - 1) (pl s o) (pl s x11)))).take k_) = bestOf G_ (((cellsA s 0).filter (fun o => (stepP s (h - 1) (pl s o) (pl s x11)))).take k_) from rfl] at hbb
      have hln := hn15
      refine W_seq (region_q {} TBok hF (F' := [(4, pv b1), (5, pv b2), (6, pv b3), (7, pv b4), (8, pv b5), (9, pv b6), (11, iv x11), (12, iv (untr s rs h x11)), (13, iv (bestOf G_ (((cellsA s 0).filter (fun o => (stepP s (h - 1) (pl s o) (pl s x11)))).take k_))), (24, .func (.func 84) #[] #[pv b8]), (39, .slice p12 n13 c14), (40, iv (n13 : Int)), (41, iv (k_ : Int)), (42, .bool (decide ((k_ : Int) < (n13 : Int))))]) (rs := []) [4, 5, 6, 7, 8, 9, 11, 12, 13, 24, 39, 40, 41, 42] .nil (by kernel_rfl) fun a w hF hE => ?_)
      replace hO := hO.ext hE; clear hE
      rcases Bool.eq_false_or_eq_true (decide ((k_ : Int) < (n13 : Int))) with hc16 | hc16
      · refine W_seq (W_true ((evOp hF (by kernel_rfl)).trans (congrArg Value.bool hc16)) ?_)
        have hc16_ := of_decide_eq_true hc16
        refine (W_skip ?_)
        refine W_seq (W_block ?_)
        refine W_seq (region_q {} TBok hF (F' := [(4, pv b1), (5, pv b2), (6, pv b3), (7, pv b4), (8, pv b5), (9, pv b6), (11, iv x11), (12, iv (untr s rs h x11)), (13, iv (bestOf G_ (((cellsA s 0).filter (fun o => (stepP s (h - 1) (pl s o) (pl s x11)))).take k_))), (15, iv (((cellsA s 0).filter (fun o => (stepP s (h - 1) (pl s o) (pl s x11)))).getD k_ default)), (24, .func (.func 84) #[] #[pv b8]), (39, .slice p12 n13 c14), (40, iv (n13 : Int)), (41, iv (k_ : Int))]) (rs := [.idx p12 n13 (k_ : Int) 1 (adr p12 1 (k_ : Int)), .ld (adr p12 1 (k_ : Int)) (iv (((cellsA s 0).filter (fun o => (stepP s (h - 1) (pl s o) (pl s x11)))).getD k_ default))]) [4, 5, 6, 7, 8, 9, 11, 12, 13, 15, 24, 39, 40, 41] (.cons (ix (enc := encI) (xs := ((cellsA s 0).filter (fun o => (stepP s (h - 1) (pl s o) (pl s x11))))) ((rd_row (fun _ => rfl) (by decide) hO 9 rfl (by omega))) (by omega) (by omega)) <| .cons (ldR (enc := encI) (xs := ((cellsA s 0).filter (fun o => (stepP s (h - 1) (pl s o) (pl s x11))))) (a := p12) (i := (k_ : Int)) (fun x_ hx_ => (rd_row (fun _ => rfl) (by decide) (hO.st x_ hx_) 9 rfl (by omega))) (by omega) (by omega) 0 rfl) <| .nil) (by kernel_rfl) fun a w hF hE => ?_)
        replace hO := hO.ext hE; clear hE
        refine (region_seq ?_)
        refine seq_quiet { md := [(3, 3)] } TBok hF (F' := [(4, pv b1), (5, pv b2), (6, pv b3), (7, pv b4), (8, pv b5), (9, pv b6), (11, iv x11), (12, iv (untr s rs h x11)), (13, iv (bestOf G_ (((cellsA s 0).filter (fun o => (stepP s (h - 1) (pl s o) (pl s x11)))).take k_))), (24, .func (.func 84) #[] #[pv b8]), (39, .slice p12 n13 c14), (40, iv (n13 : Int)), (41, iv (k_ : Int)), (45, iv (bestOf G_ (((cellsA s 0).filter (fun o => (stepP s (h - 1) (pl s o) (pl s x11)))).take k_))), (50, iv (((List.range 80).map G_).getD (((cellsA s 0).filter (fun o => (stepP s (h - 1) (pl s o) (pl s x11)))).getD k_ default).toNat default))]) (rs := [.ld ⟨b4, 0, none⟩ (.pointer (some ad)), .raw (pure (.pointer (some ad))) (.pointer (some ad)), .idx (some ad) 80 (((cellsA s 0).filter (fun o => (stepP s (h - 1) (pl s o) (pl s x11)))).getD k_ default) 1 (adr (some ad) 1 (((cellsA s 0).filter (fun o => (stepP s (h - 1) (pl s o) (pl s x11)))).getD k_ default)), .ld (adr (some ad) 1 (((cellsA s 0).filter (fun o => (stepP s (h - 1) (pl s o) (pl s x11)))).getD k_ default)) (iv (((List.range 80).map G_).getD (((cellsA s 0).filter (fun o => (stepP s (h - 1) (pl s o) (pl s x11)))).getD k_ default).toNat default))]) [0, 1, 2, 3, 4, 5] [6, 7, 8] [4, 5, 6, 7, 8, 9, 11, 12, 13, 24, 39, 40, 41, 45, 50] (.cons (ldo hO.st 3 rfl 0 rfl) <| .cons raw_nilCheck <| .cons (ixa (hfr _ (getD_mem (by omega))).1 (hfr _ (getD_mem (by omega))).2) <| .cons (ldx hO.st nom hbef (hfr _ (getD_mem (by omega))).1 (hfr _ (getD_mem (by omega))).2 0 rfl) <| .nil) (by kernel_rfl) fun a w hF hE => ?_
        replace hO := hO.ext hE; clear hE
        refine op_bsl (i := 6) (t := 22) (e := 3) (len := 1) (ps := [(0, iv (((List.range 80).map G_).getD (((cellsA s 0).filter (fun o => (stepP s (h - 1) (pl s o) (pl s x11)))).getD k_ default).toNat default))]) (d := 51) (sz := 1) (cs := #[iv (((List.range 80).map G_).getD (((cellsA s 0).filter (fun o => (stepP s (h - 1) (pl s o) (pl s x11)))).getD k_ default).toNat default)]) (z := iv 0) hF hO (by kernel_rfl) (by kernel_rfl) (by kernel_rfl) (by kernel_rfl) (by kernel_rfl) fun a w b17 hF hO _ => ?_
        refine seq_quiet {} TBok hF (F' := [(4, pv b1), (5, pv b2), (6, pv b3), (7, pv b4), (8, pv b5), (9, pv b6), (11, iv x11), (12, iv (untr s rs h x11)), (13, iv (mn (bestOf G_ (((cellsA s 0).filter (fun o => (stepP s (h - 1) (pl s o) (pl s x11)))).take k_)) (((List.range 80).map G_).getD (((cellsA s 0).filter (fun o => (stepP s (h - 1) (pl s o) (pl s x11)))).getD k_ default).toNat default))), (24, .func (.func 84) #[] #[pv b8]), (39, .slice p12 n13 c14), (40, iv (n13 : Int)), (41, iv (k_ : Int))]) (rs := [.call 83 #[iv (bestOf G_ (((cellsA s 0).filter (fun o => (stepP s (h - 1) (pl s o) (pl s x11)))).take k_)), .slice (some ⟨b17, 0, none⟩) 1 1] (iv (mn (bestOf G_ (((cellsA s 0).filter (fun o => (stepP s (h - 1) (pl s o) (pl s x11)))).take k_)) (((List.range 80).map G_).getD (((cellsA s 0).filter (fun o => (stepP s (h - 1) (pl s o) (pl s x11)))).getD k_ default).toNat default)))]) [7, 8] [] [4, 5, 6, 7, 8, 9, 11, 12, 13, 24, 39, 40, 41] (.cons (fun w hE => calls_cast (v := iv (leastL (bestOf G_ (((cellsA s 0).filter (fun o => (stepP s (h - 1) (pl s o) (pl s x11)))).take k_)) [(((List.range 80).map G_).getD (((cellsA s 0).filter (fun o => (stepP s (h - 1) (pl s o) (pl s x11)))).getD k_ default).toNat default)])) (v' := iv (mn (bestOf G_ (((cellsA s 0).filter (fun o => (stepP s (h - 1) (pl s o) (pl s x11)))).take k_)) (((List.range 80).map G_).getD (((cellsA s 0).filter (fun o => (stepP s (h - 1) (pl s o) (pl s x11)))).getD k_ default).toNat default))) (least_calls (bestOf G_ (((cellsA s 0).filter (fun o => (stepP s (h - 1) (pl s o) (pl s x11)))).take k_)) [(((List.range 80).map G_).getD (((cellsA s 0).filter (fun o => (stepP s (h - 1) (pl s o) (pl s x11)))).getD k_ default).toNat default)] (some ⟨b17, 0, none⟩) 1 1 w (rd_cel (enc := encI) (ys := [(((List.range 80).map G_).getD (((cellsA s 0).filter (fun o => (stepP s (h - 1) (pl s o) (pl s x11)))).getD k_ default).toNat default)]) (rest := []) (fun _ => rfl) (hO.st w hE) 10 rfl rfl rfl (by decide))) rfl) <| .nil) (by kernel_rfl) fun a w hF hE => ?_
        replace hO := hO.ext hE; clear hE
        refine (region_q {} TBok hF (F' := [(4, pv b1), (5, pv b2), (6, pv b3), (7, pv b4), (8, pv b5), (9, pv b6), (11, iv x11), (12, iv (untr s rs h x11)), (13, iv (mn (bestOf G_ (((cellsA s 0).filter (fun o => (stepP s (h - 1) (pl s o) (pl s x11)))).take k_)) (((List.range 80).map G_).getD (((cellsA s 0).filter (fun o => (stepP s (h - 1) (pl s o) (pl s x11)))).getD k_ default).toNat default))), (24, .func (.func 84) #[] #[pv b8]), (39, .slice p12 n13 c14), (40, iv (n13 : Int)), (41, iv ((k_ : Int) + 1))]) (rs := [.rng ((k_ : Int) + 1)]) [4, 5, 6, 7, 8, 9, 11, 12, 13, 24, 39, 40, 41] (.cons (rg (by omega)) <| .nil) (by kernel_rfl) fun a w hF hE => ?_)
        replace hO := hO.ext hE; clear hE
        have hst_ : bestOf G_ (((cellsA s 0).filter (fun o => (stepP s (h - 1) (pl s o) (pl s x11)))).take (k_ + 1)) = mn (bestOf G_ (((cellsA s 0).filter (fun o => (stepP s (h - 1) (pl s o) (pl s x11)))).take k_)) (befG G_ (((cellsA s 0).filter (fun o => (stepP s (h - 1) (pl s o) (pl s x11)))).getD k_ default)) := foldl_take _ _ (by omega)
        replace hO := hO.drop1 10
        replace hO : Own w0 none_ [cel b1 (sS8 s v mb qa qn qc) 80, cel b2 #[.func (.func 86) #[] #[pv bg]] 125, cel b3 #[iv h] 3, cel b4 #[.pointer (some ad)] 122, cel b5 (arrL 80 (fun _ => 0)).toArray 99, cel b6 (arrL 80 g1).toArray 99, cel b8 (sS7 s v mb) 77, pt D9 (.deferred (some [])), pt (D9 + 1) (.loop { lr10 with state := .busy }), rowR 3 1 (.slice p12 n13 c14) n13 (((cellsA s 0).filter (fun o => (stepP s (h - 1) (pl s o) (pl s x11)))).flatMap encI)] w := hO
        exact ⟨_, by omega, k_ + 1, rfl, by omega, hF.cast (by rw [hst_]; rfl), hO⟩
      · refine W_seq (W_false ((evOp hF (by kernel_rfl)).trans (congrArg Value.bool hc16)) ?_)
        have hc16_ := of_decide_eq_false hc16
        refine (W_exit ?_)
        refine (region_seq ?_)
        refine seq_quiet {} TBok hF (F' := [(4, pv b1), (5, pv b2), (6, pv b3), (7, pv b4), (8, pv b5), (9, pv b6), (24, .func (.func 84) #[] #[pv b8]), (54, iv x11), (57, iv ((bestOf G_ (((cellsA s 0).filter (fun o => (stepP s (h - 1) (pl s o) (pl s x11)))).take k_)) + (untr s rs h x11)))]) (rs := [.rng ((bestOf G_ (((cellsA s 0).filter (fun o => (stepP s (h - 1) (pl s o) (pl s x11)))).take k_)) + (untr s rs h x11))]) [0, 1, 2, 3] [4, 5, 6, 7] [4, 5, 6, 7, 8, 9, 24, 54, 57] (.cons (rg (by omega)) <| .nil) (by kernel_rfl) fun a w hF hE => ?_
        replace hO := hO.ext hE; clear hE
        refine op_bsl (i := 4) (t := 22) (e := 3) (len := 1) (ps := [(0, iv ((bestOf G_ (((cellsA s 0).filter (fun o => (stepP s (h - 1) (pl s o) (pl s x11)))).take k_)) + (untr s rs h x11)))]) (d := 58) (sz := 1) (cs := #[iv ((bestOf G_ (((cellsA s 0).filter (fun o => (stepP s (h - 1) (pl s o) (pl s x11)))).take k_)) + (untr s rs h x11))]) (z := iv 0) hF hO (by kernel_rfl) (by kernel_rfl) (by kernel_rfl) (by kernel_rfl) (by kernel_rfl) fun a w b18 hF hO _ => ?_
        refine seq_quiet {} TBok hF (F' := [(4, pv b1), (5, pv b2), (6, pv b3), (7, pv b4), (8, pv b5), (9, pv b6), (24, .func (.func 84) #[] #[pv b8]), (59, iv (mn 1048576 ((bestOf G_ (((cellsA s 0).filter (fun o => (stepP s (h - 1) (pl s o) (pl s x11)))).take k_)) + (untr s rs h x11)))), (60, .pointer (some ((⟨b6, 0, none⟩ : Addr).add (x11.toNat * 1))))]) (rs := [.call 83 #[iv 1048576, .slice (some ⟨b18, 0, none⟩) 1 1] (iv (mn 1048576 ((bestOf G_ (((cellsA s 0).filter (fun o => (stepP s (h - 1) (pl s o) (pl s x11)))).take k_)) + (untr s rs h x11)))), .idx (some ⟨b6, 0, none⟩) 80 x11 1 ((⟨b6, 0, none⟩ : Addr).add (x11.toNat * 1))]) [5, 6] [7] [4, 5, 6, 7, 8, 9, 24, 59, 60] (.cons (fun w hE => calls_cast (v := iv (leastL 1048576 [((bestOf G_ (((cellsA s 0).filter (fun o => (stepP s (h - 1) (pl s o) (pl s x11)))).take k_)) + (untr s rs h x11))])) (v' := iv (mn 1048576 ((bestOf G_ (((cellsA s 0).filter (fun o => (stepP s (h - 1) (pl s o) (pl s x11)))).take k_)) + (untr s rs h x11)))) (least_calls 1048576 [((bestOf G_ (((cellsA s 0).filter (fun o => (stepP s (h - 1) (pl s o) (pl s x11)))).take k_)) + (untr s rs h x11))] (some ⟨b18, 0, none⟩) 1 1 w (rd_cel (enc := encI) (ys := [((bestOf G_ (((cellsA s 0).filter (fun o => (stepP s (h - 1) (pl s o) (pl s x11)))).take k_)) + (untr s rs h x11))]) (rest := []) (fun _ => rfl) (hO.st w hE) 10 rfl rfl rfl (by decide))) rfl) <| .cons (ixa (by omega) (by omega)) <| .nil) (by kernel_rfl) fun a w hF hE => ?_
        replace hO := hO.ext hE; clear hE
        refine op_storef (k := 7) (t := 3) (x := (mn 1048576 ((bestOf G_ (((cellsA s 0).filter (fun o => (stepP s (h - 1) (pl s o) (pl s x11)))).take k_)) + (untr s rs h x11)))) (n := 80) (pre := []) (post := []) (f := g1) (i := x11) (off := 0) hF hO (by kernel_rfl) 5 rfl rfl (by omega) (by omega) (by kernel_rfl) fun a w hF hO _ => ?_
        replace hO : Own w0 none_ [cel b1 (sS8 s v mb qa qn qc) 80, cel b2 #[.func (.func 86) #[] #[pv bg]] 125, cel b3 #[iv h] 3, cel b4 #[.pointer (some ad)] 122, cel b5 (arrL 80 (fun _ => 0)).toArray 99, cel b6 (arrL 80 (updf g1 x11.toNat (mn 1048576 ((bestOf G_ (((cellsA s 0).filter (fun o => (stepP s (h - 1) (pl s o) (pl s x11)))).take k_)) + (untr s rs h x11))))).toArray 99, cel b8 (sS7 s v mb) 77, pt D9 (.deferred (some [])), pt (D9 + 1) (.loop { lr10 with state := .busy }), rowR 3 1 (.slice p12 n13 c14) n13 (((cellsA s 0).filter (fun o => (stepP s (h - 1) (pl s o) (pl s x11)))).flatMap encI), cel b18 #[iv ((bestOf G_ (((cellsA s 0).filter (fun o => (stepP s (h - 1) (pl s o) (pl s x11)))).take k_)) + (untr s rs h x11))] 3] w := hO
        replace hF := hF.sel [4, 5, 6, 7, 8, 9, 24]
        replace hF : Fr 62 [] [(4, pv b1), (5, pv b2), (6, pv b3), (7, pv b4), (8, pv b5), (9, pv b6), (24, .func (.func 84) #[] #[pv b8])] a := hF
        show roundPost Try.prog (D9 + 1) (fun e w => ∃ b, e = .returned (.bool b) ∧ Rr b w) (Exit.normal) a w
        replace hO := hO.drop1 10
        replace hO := hO.drop1 9
        have hkk_ : k_ = ((cellsA s 0).filter (fun o => (stepP s (h - 1) (pl s o) (pl s x11)))).length := by omega
        replace hO : Own w0 none_ [cel b1 (sS8 s v mb qa qn qc) 80, cel b2 #[.func (.func 86) #[] #[pv bg]] 125, cel b3 #[iv h] 3, cel b4 #[.pointer (some ad)] 122, cel b5 (arrL 80 (fun _ => 0)).toArray 99, cel b6 (arrL 80 (updf g1 x11.toNat (mn 1048576 ((bestOf G_ (((cellsA s 0).filter (fun o => (stepP s (h - 1) (pl s o) (pl s x11)))).take k_)) + (untr s rs h x11))))).toArray 99, cel b8 (sS7 s v mb) 77, pt D9 (.deferred (some [])), pt (D9 + 1) (.loop { lr10 with state := .busy })] w := hO
        replace hO : Own w0 none_ [cel b1 (sS8 s v mb qa qn qc) 80, cel b2 #[.func (.func 86) #[] #[pv bg]] 125, cel b3 #[iv h] 3, cel b4 #[.pointer (some ad)] 122, cel b5 (arrL 80 (fun _ => 0)).toArray 99, cel b6 (arrL 80 (updf g1 x11.toNat ((fun x => (mn 1048576 (bestOf G_ ((cellsA s 0).filter (fun o => (stepP s (h - 1) (pl s o) (pl s x)))) + untr s rs h x))) x11))).toArray 99, cel b8 (sS7 s v mb) 77, pt D9 (.deferred (some [])), pt (D9 + 1) (.loop { lr10 with state := .busy })] w := hO.cast (by rw [hkk_, List.take_length])
        obtain ⟨w, he, hO⟩ := end_round (P := Try.prog) none hO 8 rfl
        refine round_next he ?_
        rw [hRr]
        exact ⟨_, goneF_step (val := (fun x => (mn 1048576 (bestOf G_ ((cellsA s 0).filter (fun o => (stepP s (h - 1) (pl s o) (pl s x)))) + untr s rs h x)))) hgf hnd (hmem _ (List.mem_cons_self ..)), (List.nodup_cons.1 hnd).2, fun y hy => hmem y (List.mem_cons_of_mem _ hy), hO.cast (by rw [hlr]; rfl)⟩
    · exact ⟨g, gone_start (fun i hi => by rw [hfil i hi, if_pos (by omega)]), cellsA_nodup s 0, fun y hy => hy, hO⟩
    clear hO
    rintro e w ⟨he, hJ | hS⟩
    · obtain ⟨g1, hgf, hnd, hmem, hO⟩ := hJ
      subst he
      refine ⟨_, rfl, lr10, hO.get 8 rfl, by rw [hlr]; simp [loopR], .inl ⟨by rw [hlr]; rfl, fun a hF => ?_⟩⟩
      replace hO := hO.put 8 rfl (.loop { lr10 with state := .exhausted })
      generalize w.putObj (D9 + 1) (.loop { lr10 with state := .exhausted }) = w at hO ⊢
      replace hO := hO.drop1 8
      refine W_seq (region_seq ?_)
      refine seq_quiet {} TBok hF (F' := [(8, pv b5), (61, .agg (arrL 80 g1).toArray)]) (rs := [.lds ⟨b6, 0, none⟩ (arrL 80 g1)]) [0] [1] [8, 61] (.cons (ldso hO.st 5 rfl 0 (by kernel_rfl)) <| .nil) (by kernel_rfl) fun a w hF hE => ?_
      replace hO := hO.ext hE; clear hE
      refine op_store (i := 1) (t := 99) (p := ⟨b5, 0, none⟩) (v := .agg (arrL 80 g1).toArray) (off := 0) (sz := 80) (cs' := (arrL 80 g1).toArray) hF hO (by kernel_rfl) 4 rfl rfl (by kernel_rfl) (by kernel_rfl) (by kernel_rfl) fun a w hF hO _ => ?_
      replace hF := hF.sel [8]
      replace hF : Fr 62 [mk D9] [(8, pv b5)] a := hF
      refine W_ret ?_
      show bodyPostM (FW none) 0 _ _ _ Exit.ret a w
      obtain ⟨w, hs, hO⟩ := shut1 hO 7 rfl
      have hO3 := hO.kp
      exact leave_r TBok hF hs (vs := [.agg (arrL 80 g1).toArray]) (rs := [.lds ⟨b5, 0, none⟩ (arrL 80 g1)]) (.cons (rdso hO 4 rfl 0 (by kernel_rfl)) <| .nil) (by kernel_rfl) ⟨by rw [gone_end hgf]; rfl, hO3⟩
    · exact hS.elim

set_option maxHeartbeats 4000000 in
set_option maxRecDepth 100000 in
theorem gone_last (s : Sea) (v : SV) (mb : Nat) (qa : Option Addr) (qn qc : Nat) (rs : List Rp) (h : Int) (bg : Nat) (w0 : World) (hg : LogR w0.heap.size w0 v mb qa qn s rs) (hv : seaB s = true) (hr : rpsB s rs = true) :
    Calls Try.prog 80 #[.agg (sS8 s v mb qa qn qc), .agg #[.func (.func 87) #[] #[pv bg]], iv h, .pointer none] w0 (fun e w' => e = .returned (.agg (arrL 80 (goneF s (fun x => (untr s rs h x)))).toArray) ∧ Ext w0 w') := by
  have hs := hg.sea; have hq1 := hg.reps.len; have hrl := rqs_len (s := s) (rs := rs); have hrp := rp_ok hr; have hl1 := hs.land.len; have hl2 := hs.drift.len; have hs1 := hs.land.size; have hs2 := hs.drift.size; have hr_ := hs.rg; unfold i64 at hr_; have hv1 := sea_ok hv
  refine calls_of_W Try.func80 rfl (by kernel_rfl) (args := [.agg (sS8 s v mb qa qn qc), .agg #[.func (.func 87) #[] #[pv bg]], iv h, .pointer none]) fun a hF => ?_
  replace hF : Fr 62 [] [(0, .agg (sS8 s v mb qa qn qc)), (1, .agg #[.func (.func 87) #[] #[pv bg]]), (2, iv h), (3, .pointer none)] a := hF
  have hO : Own w0 none_ [] w0 := Own.start w0 _
  refine W_seq (region_seq ?_)
  refine op_box (i := 0) (t := 80) (v := .agg (sS8 s v mb qa qn qc)) (d := 4) hF hO (by kernel_rfl) fun a w b1 hF hO _ => ?_
  refine op_box (i := 1) (t := 125) (v := .agg #[.func (.func 87) #[] #[pv bg]]) (d := 5) hF hO (by kernel_rfl) fun a w b2 hF hO _ => ?_
  refine op_box (i := 2) (t := 3) (v := iv h) (d := 6) hF hO (by kernel_rfl) fun a w b3 hF hO _ => ?_
  refine op_box (i := 3) (t := 122) (v := .pointer none) (d := 7) hF hO (by kernel_rfl) fun a w b4 hF hO _ => ?_
  replace hO : Own w0 none_ [cel b1 (sS8 s v mb qa qn qc) 80, cel b2 #[.func (.func 87) #[] #[pv bg]] 125, cel b3 #[iv h] 3, cel b4 #[.pointer none] 122] w := hO
  refine op_alloc (i := 4) (t := 99) (d := 8) (z := .agg (arrL 80 (fun _ => 0)).toArray) hF hO (by kernel_rfl) (by kernel_rfl) fun a w b5 hF hO _ => ?_
  replace hF := hF.sel [4, 5, 6, 7, 8]
  replace hF : Fr 62 [] [(4, pv b1), (5, pv b2), (6, pv b3), (7, pv b4), (8, pv b5)] a := hF
  refine W_seq (region_seq ?_)
  refine op_alloc (i := 0) (t := 99) (d := 9) (z := .agg (arrL 80 (fun _ => 0)).toArray) hF hO (by kernel_rfl) (by kernel_rfl) fun a w b6 hF hO _ => ?_
  replace hF := hF.sel [4, 5, 6, 7, 8, 9]
  replace hF : Fr 62 [] [(4, pv b1), (5, pv b2), (6, pv b3), (7, pv b4), (8, pv b5), (9, pv b6)] a := hF
  refine W_seq ?_
  refine W_seq (region_q {} TBok hF (F' := [(4, pv b1), (5, pv b2), (6, pv b3), (7, pv b4), (8, pv b5), (9, pv b6), (16, iv 0)]) (rs := []) [4, 5, 6, 7, 8, 9, 16] .nil (by kernel_rfl) fun a w hF hE => ?_)
  replace hO := hO.ext hE; clear hE
  refine (W_block ?_)
  refine (W_loop (fun m a w => ∃ (k : Nat), ∃ (g : Nat → Int), m = 80 - k ∧ k ≤ 80 ∧ (∀ i, i < 80 → g i = if i < k then 1048576 else 0) ∧ Fr 62 [] [(4, pv b1), (5, pv b2), (6, pv b3), (7, pv b4), (8, pv b5), (9, pv b6), (16, iv (k : Int))] a ∧ Own w0 none_ [cel b1 (sS8 s v mb qa qn qc) 80, cel b2 #[.func (.func 87) #[] #[pv bg]] 125, cel b3 #[iv h] 3, cel b4 #[.pointer none] 122, cel b5 (arrL 80 (fun _ => 0)).toArray 99, cel b6 (arrL 80 g).toArray 99] w) _ ⟨0, (fun _ => 0), rfl, Nat.zero_le _, (fun i _ => by simp), hF, hO⟩ ?_)
  clear hF hO
  rintro _ a w ⟨k, g, rfl, hk, hfil, hF, hO⟩
  refine W_seq (region_q {} TBok hF (F' := [(4, pv b1), (5, pv b2), (6, pv b3), (7, pv b4), (8, pv b5), (9, pv b6), (16, iv (k : Int)), (17, .bool (decide ((k : Int) < 80)))]) (rs := []) [4, 5, 6, 7, 8, 9, 16, 17] .nil (by kernel_rfl) fun a w hF hE => ?_)
  replace hO := hO.ext hE; clear hE
  rcases Bool.eq_false_or_eq_true (decide ((k : Int) < 80)) with hc7 | hc7
  · refine W_seq (W_true ((evOp hF (by kernel_rfl)).trans (congrArg Value.bool hc7)) ?_)
    have hc7_ := of_decide_eq_true hc7
    refine (W_skip ?_)
    refine W_seq (W_block ?_)
    refine W_seq (region_q {} TBok hF (F' := [(4, pv b1), (5, pv b2), (6, pv b3), (7, pv b4), (8, pv b5), (9, pv b6), (10, iv (k : Int)), (16, iv (k : Int))]) (rs := []) [4, 5, 6, 7, 8, 9, 10, 16] .nil (by kernel_rfl) fun a w hF hE => ?_)
    replace hO := hO.ext hE; clear hE
    refine (region_seq ?_)
    refine seq_quiet {} TBok hF (F' := [(4, pv b1), (5, pv b2), (6, pv b3), (7, pv b4), (8, pv b5), (9, pv b6), (16, iv (k : Int)), (20, .pointer (some ((⟨b6, 0, none⟩ : Addr).add ((k : Int).toNat * 1))))]) (rs := [.idx (some ⟨b6, 0, none⟩) 80 (k : Int) 1 ((⟨b6, 0, none⟩ : Addr).add ((k : Int).toNat * 1))]) [0, 1] [2] [4, 5, 6, 7, 8, 9, 16, 20] (.cons (ixa (by omega) (by omega)) <| .nil) (by kernel_rfl) fun a w hF hE => ?_
    replace hO := hO.ext hE; clear hE
    refine op_storef (k := 2) (t := 3) (x := 1048576) (n := 80) (pre := []) (post := []) (f := g) (i := (k : Int)) (off := 0) hF hO (by kernel_rfl) 5 rfl rfl (by omega) (by omega) (by kernel_rfl) fun a w hF hO _ => ?_
    replace hF := hF.sel [4, 5, 6, 7, 8, 9, 16]
    replace hF : Fr 62 [] [(4, pv b1), (5, pv b2), (6, pv b3), (7, pv b4), (8, pv b5), (9, pv b6), (16, iv (k : Int))] a := hF
    refine (region_q {} TBok hF (F' := [(4, pv b1), (5, pv b2), (6, pv b3), (7, pv b4), (8, pv b5), (9, pv b6), (16, iv ((k : Int) + 1))]) (rs := [.rng ((k : Int) + 1)]) [4, 5, 6, 7, 8, 9, 16] (.cons (rg (by omega)) <| .nil) (by kernel_rfl) fun a w hF hE => ?_)
    replace hO := hO.ext hE; clear hE
    exact ⟨_, by omega, k + 1, _, rfl, by omega, fill_step hfil, hF, hO⟩
  · refine W_seq (W_false ((evOp hF (by kernel_rfl)).trans (congrArg Value.bool hc7)) ?_)
    have hc7_ := of_decide_eq_false hc7
    refine (W_exit ?_)
    refine W_seq ?_
    refine W_seq (region_seq ?_)
    refine seq_quiet {} TBok hF (F' := [(4, pv b1), (5, pv b2), (6, pv b3), (7, pv b4), (8, pv b5), (9, pv b6), (23, .agg (sS7 s v mb))]) (rs := [.lds ⟨b1, 0, none⟩ (sL7 s v mb)]) [0, 1] [2] [4, 5, 6, 7, 8, 9, 23] (.cons (ldso hO.st 0 rfl 0 rfl) <| .nil) (by kernel_rfl) fun a w hF hE => ?_
    replace hO := hO.ext hE; clear hE
    refine op_call (i := 2) (f := 59) (args := #[.agg (sS7 s v mb)]) (d := some 24) TBok (by kernel_rfl) hF (by kernel_rfl) (cells_calls s v mb _) fun e w hR => ?_
    obtain ⟨b8, he, hO2⟩ := hR
    refine ⟨_, he, fun a hF => ?_⟩
    replace hO := hO.joinE hO2; clear hO2 he
    replace hF := hF.sel [4, 5, 6, 7, 8, 9, 24]
    replace hF : Fr 62 [] [(4, pv b1), (5, pv b2), (6, pv b3), (7, pv b4), (8, pv b5), (9, pv b6), (24, .func (.func 84) #[] #[pv b8])] a := hF
    refine (W_block ?_)
    refine W_range (t := 25) (f := 84) (fst := #[]) (cap := #[pv b8]) TBok hF hO (by kernel_rfl) (by kernel_rfl) fun fn w D9 lr10 hlr hO hE => ?_
    clear hE; have hFo := hF
    replace hO : Own w0 none_ [cel b1 (sS8 s v mb qa qn qc) 80, cel b2 #[.func (.func 87) #[] #[pv bg]] 125, cel b3 #[iv h] 3, cel b4 #[.pointer none] 122, cel b5 (arrL 80 (fun _ => 0)).toArray 99, cel b6 (arrL 80 g).toArray 99, cel b8 (sS7 s v mb) 77, pt D9 (.deferred (some [])), pt (D9 + 1) (.loop lr10)] w := hO
    refine (cells_run s v mb b8 (D9 + 1) (fun r w => ∃ (g1 : Nat → Int), (∀ i, i < 80 → g1 i = if (i : Int) ∈ r then 1048576 else goneF s (fun x => (untr s rs h x)) i) ∧ r.Nodup ∧ (∀ y ∈ r, y ∈ cellsA s 0) ∧ Own w0 none_ [cel b1 (sS8 s v mb qa qn qc) 80, cel b2 #[.func (.func 87) #[] #[pv bg]] 125, cel b3 #[iv h] 3, cel b4 #[.pointer none] 122, cel b5 (arrL 80 (fun _ => 0)).toArray 99, cel b6 (arrL 80 g1).toArray 99, cel b8 (sS7 s v mb) 77, pt D9 (.deferred (some [])), pt (D9 + 1) (.loop lr10)] w) (fun w => False) w hv ?_ ?_ ?_ ?_ ?_).mono ?_
    · rintro r w w2 ⟨g1, hgf, hnd, hmem, hO⟩ hE; exact ⟨g1, hgf, hnd, hmem, hO.ext hE⟩
    · exact fun _ _ h _ => h.elim
    · rintro r w ⟨g1, hgf, hnd, hmem, hO⟩
      exact ⟨Ro.of_ok (cs := (sL7 s v mb)) (hO.get 6 rfl), (hg.upM hO.kp nom (Nat.le_refl _)).land⟩
    · clear hO
      rintro x11 r w ⟨g1, hgf, hnd, hmem, hO⟩
      have hl1_ : w.heap[D9 + 1]? = some (.loop lr10) := hO.get 8 rfl
      rw [hlr] at hl1_
      refine yields_ofR hl1_ fun Rr hRr => ?_
      clear hl1_
      have hF := hFo.round (t := 25) (by kernel_rfl) (iv x11)
      replace hF : Fr 62 [] [(4, pv b1), (5, pv b2), (6, pv b3), (7, pv b4), (8, pv b5), (9, pv b6), (24, .func (.func 84) #[] #[pv b8]), (25, iv x11)] _ := hF.sel [4, 5, 6, 7, 8, 9, 24, 25]
      have hxm := mem_cellsA (hmem _ (List.mem_cons_self ..))
      have hu := untr_bd (s := s) (rs := rs) h x11
      refine (region_q {} TBok hF (F' := [(4, pv b1), (5, pv b2), (6, pv b3), (7, pv b4), (8, pv b5), (9, pv b6), (11, iv x11), (24, .func (.func 84) #[] #[pv b8])]) (rs := []) [4, 5, 6, 7, 8, 9, 11, 24] .nil (by kernel_rfl) fun a w hF hE => ?_)
      replace hO := hO.ext hE; clear hE
      obtain ⟨w, hb, hO⟩ := begin_round (P := Try.prog) hO 8 rfl (by rw [hlr]; rfl)
      refine ⟨rfl, w, hb, ?_⟩
      clear hb
      refine (W_block ?_)
      refine W_seq (region_q {} TBok hF (F' := [(4, pv b1), (5, pv b2), (6, pv b3), (7, pv b4), (8, pv b5), (9, pv b6), (11, iv x11), (12, iv (untr s rs h x11)), (24, .func (.func 84) #[] #[pv b8])]) (rs := [.lds ⟨b1, 0, none⟩ (sL8 s v mb qa qn qc), .ld ⟨b3, 0, none⟩ (iv h), .call 52 #[.agg (sS8 s v mb qa qn qc), iv h, iv x11] (iv (untr s rs h x11))]) [4, 5, 6, 7, 8, 9, 11, 12, 24] (.cons (ldso hO.st 0 rfl 0 rfl) <| .cons (ldo hO.st 2 rfl 0 rfl) <| .cons (fun w hE => untrue_calls s v mb qa qn qc rs h x11 w (hg.upM (hO.st w hE).kp nom (Nat.le_refl _)) hv hr (by omega)) <| .nil) (by kernel_rfl) fun a w hF hE => ?_)
      replace hO := hO.ext hE; clear hE
      refine W_seq ?_
      refine W_seq (region_q { md := [(1, 3)] } TBok hF (F' := [(4, pv b1), (5, pv b2), (6, pv b3), (7, pv b4), (8, pv b5), (9, pv b6), (11, iv x11), (12, iv (untr s rs h x11)), (24, .func (.func 84) #[] #[pv b8]), (31, .bool true)]) (rs := [.ld ⟨b4, 0, none⟩ (.pointer none), .raw (rb .eql 122 (.tmp 30) (.const (.pointer none)) (.pointer none) (.pointer none)) (.bool true)]) [4, 5, 6, 7, 8, 9, 11, 12, 24, 31] (.cons (ldo hO.st 3 rfl 0 rfl) <| .cons (raw_ptrNil ptrT122 none) <| .nil) (by kernel_rfl) fun a w hF hE => ?_)
      replace hO := hO.ext hE; clear hE
      refine (W_true (evOp hF (by kernel_rfl)) ?_)
      refine W_seq (region_seq ?_)
      refine seq_quiet {} TBok hF (F' := [(4, pv b1), (5, pv b2), (6, pv b3), (7, pv b4), (8, pv b5), (9, pv b6), (11, iv x11), (12, iv (untr s rs h x11)), (24, .func (.func 84) #[] #[pv b8]), (33, iv (untr s rs h x11)), (34, .pointer (some ((⟨b6, 0, none⟩ : Addr).add (x11.toNat * 1))))]) (rs := [.idx (some ⟨b6, 0, none⟩) 80 x11 1 ((⟨b6, 0, none⟩ : Addr).add (x11.toNat * 1))]) [0, 1, 2] [3] [4, 5, 6, 7, 8, 9, 11, 12, 24, 33, 34] (.cons (ixa (by omega) (by omega)) <| .nil) (by kernel_rfl) fun a w hF hE => ?_
      replace hO := hO.ext hE; clear hE
      refine op_storef (k := 3) (t := 3) (x := (untr s rs h x11)) (n := 80) (pre := []) (post := []) (f := g1) (i := x11) (off := 0) hF hO (by kernel_rfl) 5 rfl rfl (by omega) (by omega) (by kernel_rfl) fun a w hF hO _ => ?_
      replace hF := hF.sel [4, 5, 6, 7, 8, 9, 11, 12, 24]
      replace hF : Fr 62 [] [(4, pv b1), (5, pv b2), (6, pv b3), (7, pv b4), (8, pv b5), (9, pv b6), (11, iv x11), (12, iv (untr s rs h x11)), (24, .func (.func 84) #[] #[pv b8])] a := hF
      refine (W_exit ?_)
      show roundPost Try.prog (D9 + 1) (fun e w => ∃ b, e = .returned (.bool b) ∧ Rr b w) (Exit.normal) a w
      replace hO : Own w0 none_ [cel b1 (sS8 s v mb qa qn qc) 80, cel b2 #[.func (.func 87) #[] #[pv bg]] 125, cel b3 #[iv h] 3, cel b4 #[.pointer none] 122, cel b5 (arrL 80 (fun _ => 0)).toArray 99, cel b6 (arrL 80 (updf g1 x11.toNat (untr s rs h x11))).toArray 99, cel b8 (sS7 s v mb) 77, pt D9 (.deferred (some [])), pt (D9 + 1) (.loop { lr10 with state := .busy })] w := hO
      replace hO : Own w0 none_ [cel b1 (sS8 s v mb qa qn qc) 80, cel b2 #[.func (.func 87) #[] #[pv bg]] 125, cel b3 #[iv h] 3, cel b4 #[.pointer none] 122, cel b5 (arrL 80 (fun _ => 0)).toArray 99, cel b6 (arrL 80 (updf g1 x11.toNat ((fun x => (untr s rs h x)) x11))).toArray 99, cel b8 (sS7 s v mb) 77, pt D9 (.deferred (some [])), pt (D9 + 1) (.loop { lr10 with state := .busy })] w := hO.cast (by rfl)
      obtain ⟨w, he, hO⟩ := end_round (P := Try.prog) none hO 8 rfl
      refine round_next he ?_
      rw [hRr]
      exact ⟨_, goneF_step (val := (fun x => (untr s rs h x))) hgf hnd (hmem _ (List.mem_cons_self ..)), (List.nodup_cons.1 hnd).2, fun y hy => hmem y (List.mem_cons_of_mem _ hy), hO.cast (by rw [hlr]; rfl)⟩
    · exact ⟨g, gone_start (fun i hi => by rw [hfil i hi, if_pos (by omega)]), cellsA_nodup s 0, fun y hy => hy, hO⟩
    clear hO
    rintro e w ⟨he, hJ | hS⟩
    · obtain ⟨g1, hgf, hnd, hmem, hO⟩ := hJ
      subst he
      refine ⟨_, rfl, lr10, hO.get 8 rfl, by rw [hlr]; simp [loopR], .inl ⟨by rw [hlr]; rfl, fun a hF => ?_⟩⟩
      replace hO := hO.put 8 rfl (.loop { lr10 with state := .exhausted })
      generalize w.putObj (D9 + 1) (.loop { lr10 with state := .exhausted }) = w at hO ⊢
      replace hO := hO.drop1 8
      refine W_seq (region_seq ?_)
      refine seq_quiet {} TBok hF (F' := [(8, pv b5), (61, .agg (arrL 80 g1).toArray)]) (rs := [.lds ⟨b6, 0, none⟩ (arrL 80 g1)]) [0] [1] [8, 61] (.cons (ldso hO.st 5 rfl 0 (by kernel_rfl)) <| .nil) (by kernel_rfl) fun a w hF hE => ?_
      replace hO := hO.ext hE; clear hE
      refine op_store (i := 1) (t := 99) (p := ⟨b5, 0, none⟩) (v := .agg (arrL 80 g1).toArray) (off := 0) (sz := 80) (cs' := (arrL 80 g1).toArray) hF hO (by kernel_rfl) 4 rfl rfl (by kernel_rfl) (by kernel_rfl) (by kernel_rfl) fun a w hF hO _ => ?_
      replace hF := hF.sel [8]
      replace hF : Fr 62 [mk D9] [(8, pv b5)] a := hF
      refine W_ret ?_
      show bodyPostM (FW none) 0 _ _ _ Exit.ret a w
      obtain ⟨w, hs, hO⟩ := shut1 hO 7 rfl
      have hO3 := hO.kp
      exact leave_r TBok hF hs (vs := [.agg (arrL 80 g1).toArray]) (rs := [.lds ⟨b5, 0, none⟩ (arrL 80 g1)]) (.cons (rdso hO 4 rfl 0 (by kernel_rfl)) <| .nil) (by kernel_rfl) ⟨by rw [gone_end hgf]; rfl, hO3⟩
    · exact hS.elim

set_option maxHeartbeats 4000000 in
set_option maxRecDepth 100000 in
theorem gone_back (s : Sea) (v : SV) (mb : Nat) (qa : Option Addr) (qn qc : Nat) (rs : List Rp) (h : Int) (bg : Nat) (ad : Addr) (G_ : Nat → Int) (w0 : World) (hg : LogR w0.heap.size w0 v mb qa qn s rs) (hv : seaB s = true) (hr : rpsB s rs = true) (hb : Ro bg (sL8 s v mb qa qn qc) w0) (hh : 0 ≤ h ∧ h < v.dn) (hbef : Rd encI 1 w0.heap.size w0 (some ad) 80 ((List.range 80).map G_)) (hG : cntB G_) :
    Calls Try.prog 80 #[.agg (sS8 s v mb qa qn qc), .agg #[.func (.func 87) #[] #[pv bg]], iv h, .pointer (some ad)] w0 (fun e w' => e = .returned (.agg (arrL 80 (goneF s (fun x => (mn 1048576 (bestOf G_ ((cellsA s 0).filter (fun o => (stepP s h (pl s x) (pl s o)))) + untr s rs h x))))).toArray) ∧ Ext w0 w') := by
  have hs := hg.sea; have hq1 := hg.reps.len; have hrl := rqs_len (s := s) (rs := rs); have hrp := rp_ok hr; have hl1 := hs.land.len; have hl2 := hs.drift.len; have hs1 := hs.land.size; have hs2 := hs.drift.size; have hr_ := hs.rg; unfold i64 at hr_; have hv1 := sea_ok hv
  refine calls_of_W Try.func80 rfl (by kernel_rfl) (args := [.agg (sS8 s v mb qa qn qc), .agg #[.func (.func 87) #[] #[pv bg]], iv h, .pointer (some ad)]) fun a hF => ?_
  replace hF : Fr 62 [] [(0, .agg (sS8 s v mb qa qn qc)), (1, .agg #[.func (.func 87) #[] #[pv bg]]), (2, iv h), (3, .pointer (some ad))] a := hF
  have hO : Own w0 none_ [] w0 := Own.start w0 _
  refine W_seq (region_seq ?_)
  refine op_box (i := 0) (t := 80) (v := .agg (sS8 s v mb qa qn qc)) (d := 4) hF hO (by kernel_rfl) fun a w b1 hF hO _ => ?_
  refine op_box (i := 1) (t := 125) (v := .agg #[.func (.func 87) #[] #[pv bg]]) (d := 5) hF hO (by kernel_rfl) fun a w b2 hF hO _ => ?_
  refine op_box (i := 2) (t := 3) (v := iv h) (d := 6) hF hO (by kernel_rfl) fun a w b3 hF hO _ => ?_
  refine op_box (i := 3) (t := 122) (v := .pointer (some ad)) (d := 7) hF hO (by kernel_rfl) fun a w b4 hF hO _ => ?_
  replace hO : Own w0 none_ [cel b1 (sS8 s v mb qa qn qc) 80, cel b2 #[.func (.func 87) #[] #[pv bg]] 125, cel b3 #[iv h] 3, cel b4 #[.pointer (some ad)] 122] w := hO
  refine op_alloc (i := 4) (t := 99) (d := 8) (z := .agg (arrL 80 (fun _ => 0)).toArray) hF hO (by kernel_rfl) (by kernel_rfl) fun a w b5 hF hO _ => ?_
  replace hF := hF.sel [4, 5, 6, 7, 8]
  replace hF : Fr 62 [] [(4, pv b1), (5, pv b2), (6, pv b3), (7, pv b4), (8, pv b5)] a := hF
  refine W_seq (region_seq ?_)
  refine op_alloc (i := 0) (t := 99) (d := 9) (z := .agg (arrL 80 (fun _ => 0)).toArray) hF hO (by kernel_rfl) (by kernel_rfl) fun a w b6 hF hO _ => ?_
  replace hF := hF.sel [4, 5, 6, 7, 8, 9]
  replace hF : Fr 62 [] [(4, pv b1), (5, pv b2), (6, pv b3), (7, pv b4), (8, pv b5), (9, pv b6)] a := hF
  refine W_seq ?_
  refine W_seq (region_q {} TBok hF (F' := [(4, pv b1), (5, pv b2), (6, pv b3), (7, pv b4), (8, pv b5), (9, pv b6), (16, iv 0)]) (rs := []) [4, 5, 6, 7, 8, 9, 16] .nil (by kernel_rfl) fun a w hF hE => ?_)
  replace hO := hO.ext hE; clear hE
  refine (W_block ?_)
  refine (W_loop (fun m a w => ∃ (k : Nat), ∃ (g : Nat → Int), m = 80 - k ∧ k ≤ 80 ∧ (∀ i, i < 80 → g i = if i < k then 1048576 else 0) ∧ Fr 62 [] [(4, pv b1), (5, pv b2), (6, pv b3), (7, pv b4), (8, pv b5), (9, pv b6), (16, iv (k : Int))] a ∧ Own w0 none_ [cel b1 (sS8 s v mb qa qn qc) 80, cel b2 #[.func (.func 87) #[] #[pv bg]] 125, cel b3 #[iv h] 3, cel b4 #[.pointer (some ad)] 122, cel b5 (arrL 80 (fun _ => 0)).toArray 99, cel b6 (arrL 80 g).toArray 99] w) _ ⟨0, (fun _ => 0), rfl, Nat.zero_le _, (fun i _ => by simp), hF, hO⟩ ?_)
  clear hF hO
  rintro _ a w ⟨k, g, rfl, hk, hfil, hF, hO⟩
  refine W_seq (region_q {} TBok hF (F' := [(4, pv b1), (5, pv b2), (6, pv b3), (7, pv b4), (8, pv b5), (9, pv b6), (16, iv (k : Int)), (17, .bool (decide ((k : Int) < 80)))]) (rs := []) [4, 5, 6, 7, 8, 9, 16, 17] .nil (by kernel_rfl) fun a w hF hE => ?_)
  replace hO := hO.ext hE; clear hE
  rcases Bool.eq_false_or_eq_true (decide ((k : Int) < 80)) with hc7 | hc7
  · refine W_seq (W_true ((evOp hF (by kernel_rfl)).trans (congrArg Value.bool hc7)) ?_)
    have hc7_ := of_decide_eq_true hc7
    refine (W_skip ?_)
    refine W_seq (W_block ?_)
    refine W_seq (region_q {} TBok hF (F' := [(4, pv b1), (5, pv b2), (6, pv b3), (7, pv b4), (8, pv b5), (9, pv b6), (10, iv (k : Int)), (16, iv (k : Int))]) (rs := []) [4, 5, 6, 7, 8, 9, 10, 16] .nil (by kernel_rfl) fun a w hF hE => ?_)
    replace hO := hO.ext hE; clear hE
    refine (region_seq ?_)
    refine seq_quiet {} TBok hF (F' := [(4, pv b1), (5, pv b2), (6, pv b3), (7, pv b4), (8, pv b5), (9, pv b6), (16, iv (k : Int)), (20, .pointer (some ((⟨b6, 0, none⟩ : Addr).add ((k : Int).toNat * 1))))]) (rs := [.idx (some ⟨b6, 0, none⟩) 80 (k : Int) 1 ((⟨b6, 0, none⟩ : Addr).add ((k : Int).toNat * 1))]) [0, 1] [2] [4, 5, 6, 7, 8, 9, 16, 20] (.cons (ixa (by omega) (by omega)) <| .nil) (by kernel_rfl) fun a w hF hE => ?_
    replace hO := hO.ext hE; clear hE
    refine op_storef (k := 2) (t := 3) (x := 1048576) (n := 80) (pre := []) (post := []) (f := g) (i := (k : Int)) (off := 0) hF hO (by kernel_rfl) 5 rfl rfl (by omega) (by omega) (by kernel_rfl) fun a w hF hO _ => ?_
    replace hF := hF.sel [4, 5, 6, 7, 8, 9, 16]
    replace hF : Fr 62 [] [(4, pv b1), (5, pv b2), (6, pv b3), (7, pv b4), (8, pv b5), (9, pv b6), (16, iv (k : Int))] a := hF
    refine (region_q {} TBok hF (F' := [(4, pv b1), (5, pv b2), (6, pv b3), (7, pv b4), (8, pv b5), (9, pv b6), (16, iv ((k : Int) + 1))]) (rs := [.rng ((k : Int) + 1)]) [4, 5, 6, 7, 8, 9, 16] (.cons (rg (by omega)) <| .nil) (by kernel_rfl) fun a w hF hE => ?_)
    replace hO := hO.ext hE; clear hE
    exact ⟨_, by omega, k + 1, _, rfl, by omega, fill_step hfil, hF, hO⟩
  · refine W_seq (W_false ((evOp hF (by kernel_rfl)).trans (congrArg Value.bool hc7)) ?_)
    have hc7_ := of_decide_eq_false hc7
    refine (W_exit ?_)
    refine W_seq ?_
    refine W_seq (region_seq ?_)
    refine seq_quiet {} TBok hF (F' := [(4, pv b1), (5, pv b2), (6, pv b3), (7, pv b4), (8, pv b5), (9, pv b6), (23, .agg (sS7 s v mb))]) (rs := [.lds ⟨b1, 0, none⟩ (sL7 s v mb)]) [0, 1] [2] [4, 5, 6, 7, 8, 9, 23] (.cons (ldso hO.st 0 rfl 0 rfl) <| .nil) (by kernel_rfl) fun a w hF hE => ?_
    replace hO := hO.ext hE; clear hE
    refine op_call (i := 2) (f := 59) (args := #[.agg (sS7 s v mb)]) (d := some 24) TBok (by kernel_rfl) hF (by kernel_rfl) (cells_calls s v mb _) fun e w hR => ?_
    obtain ⟨b8, he, hO2⟩ := hR
    refine ⟨_, he, fun a hF => ?_⟩
    replace hO := hO.joinE hO2; clear hO2 he
    replace hF := hF.sel [4, 5, 6, 7, 8, 9, 24]
    replace hF : Fr 62 [] [(4, pv b1), (5, pv b2), (6, pv b3), (7, pv b4), (8, pv b5), (9, pv b6), (24, .func (.func 84) #[] #[pv b8])] a := hF
    refine (W_block ?_)
    refine W_range (t := 25) (f := 84) (fst := #[]) (cap := #[pv b8]) TBok hF hO (by kernel_rfl) (by kernel_rfl) fun fn w D9 lr10 hlr hO hE => ?_
    clear hE; have hFo := hF
    replace hO : Own w0 none_ [cel b1 (sS8 s v mb qa qn qc) 80, cel b2 #[.func (.func 87) #[] #[pv bg]] 125, cel b3 #[iv h] 3, cel b4 #[.pointer (some ad)] 122, cel b5 (arrL 80 (fun _ => 0)).toArray 99, cel b6 (arrL 80 g).toArray 99, cel b8 (sS7 s v mb) 77, pt D9 (.deferred (some [])), pt (D9 + 1) (.loop lr10)] w := hO
    refine (cells_run s v mb b8 (D9 + 1) (fun r w => ∃ (g1 : Nat → Int), (∀ i, i < 80 → g1 i = if (i : Int) ∈ r then 1048576 else goneF s (fun x => (mn 1048576 (bestOf G_ ((cellsA s 0).filter (fun o => (stepP s h (pl s x) (pl s o)))) + untr s rs h x))) i) ∧ r.Nodup ∧ (∀ y ∈ r, y ∈ cellsA s 0) ∧ Own w0 none_ [cel b1 (sS8 s v mb qa qn qc) 80, cel b2 #[.func (.func 87) #[] #[pv bg]] 125, cel b3 #[iv h] 3, cel b4 #[.pointer (some ad)] 122, cel b5 (arrL 80 (fun _ => 0)).toArray 99, cel b6 (arrL 80 g1).toArray 99, cel b8 (sS7 s v mb) 77, pt D9 (.deferred (some [])), pt (D9 + 1) (.loop lr10)] w) (fun w => False) w hv ?_ ?_ ?_ ?_ ?_).mono ?_
    · rintro r w w2 ⟨g1, hgf, hnd, hmem, hO⟩ hE; exact ⟨g1, hgf, hnd, hmem, hO.ext hE⟩
    · exact fun _ _ h _ => h.elim
    · rintro r w ⟨g1, hgf, hnd, hmem, hO⟩
      exact ⟨Ro.of_ok (cs := (sL7 s v mb)) (hO.get 6 rfl), (hg.upM hO.kp nom (Nat.le_refl _)).land⟩
    · clear hO
      rintro x11 r w ⟨g1, hgf, hnd, hmem, hO⟩
      have hl1_ : w.heap[D9 + 1]? = some (.loop lr10) := hO.get 8 rfl
      rw [hlr] at hl1_
      refine yields_ofR hl1_ fun Rr hRr => ?_
      clear hl1_
      have hF := hFo.round (t := 25) (by kernel_rfl) (iv x11)
      replace hF : Fr 62 [] [(4, pv b1), (5, pv b2), (6, pv b3), (7, pv b4), (8, pv b5), (9, pv b6), (24, .func (.func 84) #[] #[pv b8]), (25, iv x11)] _ := hF.sel [4, 5, 6, 7, 8, 9, 24, 25]
      have hxm := mem_cellsA (hmem _ (List.mem_cons_self ..))
      have hu := untr_bd (s := s) (rs := rs) h x11
      refine (region_q {} TBok hF (F' := [(4, pv b1), (5, pv b2), (6, pv b3), (7, pv b4), (8, pv b5), (9, pv b6), (11, iv x11), (24, .func (.func 84) #[] #[pv b8])]) (rs := []) [4, 5, 6, 7, 8, 9, 11, 24] .nil (by kernel_rfl) fun a w hF hE => ?_)
      replace hO := hO.ext hE; clear hE
      obtain ⟨w, hb, hO⟩ := begin_round (P := Try.prog) hO 8 rfl (by rw [hlr]; rfl)
      refine ⟨rfl, w, hb, ?_⟩
      clear hb
      refine (W_block ?_)
      refine W_seq (region_q {} TBok hF (F' := [(4, pv b1), (5, pv b2), (6, pv b3), (7, pv b4), (8, pv b5), (9, pv b6), (11, iv x11), (12, iv (untr s rs h x11)), (24, .func (.func 84) #[] #[pv b8])]) (rs := [.lds ⟨b1, 0, none⟩ (sL8 s v mb qa qn qc), .ld ⟨b3, 0, none⟩ (iv h), .call 52 #[.agg (sS8 s v mb qa qn qc), iv h, iv x11] (iv (untr s rs h x11))]) [4, 5, 6, 7, 8, 9, 11, 12, 24] (.cons (ldso hO.st 0 rfl 0 rfl) <| .cons (ldo hO.st 2 rfl 0 rfl) <| .cons (fun w hE => untrue_calls s v mb qa qn qc rs h x11 w (hg.upM (hO.st w hE).kp nom (Nat.le_refl _)) hv hr (by omega)) <| .nil) (by kernel_rfl) fun a w hF hE => ?_)
      replace hO := hO.ext hE; clear hE
      refine W_seq ?_
      refine W_seq (region_q { md := [(1, 3)] } TBok hF (F' := [(4, pv b1), (5, pv b2), (6, pv b3), (7, pv b4), (8, pv b5), (9, pv b6), (11, iv x11), (12, iv (untr s rs h x11)), (24, .func (.func 84) #[] #[pv b8]), (31, .bool false)]) (rs := [.ld ⟨b4, 0, none⟩ (.pointer (some ad)), .raw (rb .eql 122 (.tmp 30) (.const (.pointer none)) (.pointer (some ad)) (.pointer none)) (.bool false)]) [4, 5, 6, 7, 8, 9, 11, 12, 24, 31] (.cons (ldo hO.st 3 rfl 0 rfl) <| .cons (raw_ptrNil ptrT122 (some ad)) <| .nil) (by kernel_rfl) fun a w hF hE => ?_)
      replace hO := hO.ext hE; clear hE
      refine (W_false (evOp hF (by kernel_rfl)) ?_)
      refine (W_skip ?_)
      refine W_seq (region_q {} TBok hF (F' := [(4, pv b1), (5, pv b2), (6, pv b3), (7, pv b4), (8, pv b5), (9, pv b6), (11, iv x11), (12, iv (untr s rs h x11)), (13, iv 1048576), (24, .func (.func 84) #[] #[pv b8])]) (rs := []) [4, 5, 6, 7, 8, 9, 11, 12, 13, 24] .nil (by kernel_rfl) fun a w hF hE => ?_)
      replace hO := hO.ext hE; clear hE
      refine W_seq ?_
      refine W_seq (region_seq ?_)
      refine seq_quiet {} TBok hF (F' := [(4, pv b1), (5, pv b2), (6, pv b3), (7, pv b4), (8, pv b5), (9, pv b6), (11, iv x11), (12, iv (untr s rs h x11)), (13, iv 1048576), (24, .func (.func 84) #[] #[pv b8]), (36, .func (.func 87) #[] #[pv bg]), (37, iv h), (38, iv x11)]) (rs := [.ld ⟨b2, 0, none⟩ (.func (.func 87) #[] #[pv bg]), .ld ⟨b3, 0, none⟩ (iv h)]) [0, 1, 2, 3] [4, 5, 6] [4, 5, 6, 7, 8, 9, 11, 12, 13, 24, 36, 37, 38] (.cons (ldo hO.st 1 rfl 0 rfl) <| .cons (ldo hO.st 2 rfl 0 rfl) <| .nil) (by kernel_rfl) fun a w hF hE => ?_
      replace hO := hO.ext hE; clear hE
      refine op_call (i := 4) (f := 87) (args := #[iv h, iv x11, pv bg]) (d := some 39) TBok (by kernel_rfl) hF (by kernel_rfl) (back1_calls s v mb qa qn qc rs h x11 bg _ (hg.upM hO.kp nom (Nat.le_refl _)) hv hr (by omega) (hb.kp hO.kp (fun h => h)) hh) fun e w hR => ?_
      obtain ⟨p12, n13, c14, hn15, he, hO2⟩ := hR
      refine ⟨_, he, fun a hF => ?_⟩
      replace hO := hO.joinE hO2; clear hO2 he
      have hle_ : n13 ≤ 80 := by rw [← hn15]; exact Nat.le_trans (List.length_filter_le _ _) (cellsA_len hv)
      refine seq_quiet {} TBok hF (F' := [(4, pv b1), (5, pv b2), (6, pv b3), (7, pv b4), (8, pv b5), (9, pv b6), (11, iv x11), (12, iv (untr s rs h x11)), (13, iv 1048576), (24, .func (.func 84) #[] #[pv b8]), (39, .slice p12 n13 c14), (40, iv (n13 : Int)), (41, iv 0)]) (rs := []) [5, 6] [] [4, 5, 6, 7, 8, 9, 11, 12, 13, 24, 39, 40, 41] .nil (by kernel_rfl) fun a w hF hE => ?_
      replace hO := hO.ext hE; clear hE
      refine (W_block ?_)
      refine (W_loop (fun m a w => ∃ (k_ : Nat), m = n13 - k_ ∧ k_ ≤ n13 ∧ Fr 62 [] [(4, pv b1), (5, pv b2), (6, pv b3), (7, pv b4), (8, pv b5), (9, pv b6), (11, iv x11), (12, iv (untr s rs h x11)), (13, iv (bestOf G_ (((cellsA s 0).filter (fun o => (stepP s h (pl s x11) (pl s o)))).take k_))), (24, .func (.func 84) #[] #[pv b8]), (39, .slice p12 n13 c14), (40, iv (n13 : Int)), (41, iv (k_ : Int))] a ∧ Own w0 none_ [cel b1 (sS8 s v mb qa qn qc) 80, cel b2 #[.func (.func 87) #[] #[pv bg]] 125, cel b3 #[iv h] 3, cel b4 #[.pointer (some ad)] 122, cel b5 (arrL 80 (fun _ => 0)).toArray 99, cel b6 (arrL 80 g1).toArray 99, cel b8 (sS7 s v mb) 77, pt D9 (.deferred (some [])), pt (D9 + 1) (.loop { lr10 with state := .busy }), rowR 3 1 (.slice p12 n13 c14) n13 (((cellsA s 0).filter (fun o => (stepP s h (pl s x11) (pl s o)))).flatMap encI)] w) _ ⟨0, rfl, Nat.zero_le _, hF, hO⟩ ?_)
      clear hF hO
      rintro _ a w ⟨k_, rfl, hk_, hF, hO⟩
      have hfr : ∀ y ∈ ((cellsA s 0).filter (fun o => (stepP s h (pl s x11) (pl s o)))), 0 ≤ y ∧ y < 80 := fun y hy => by have h_ := mem_cellsA (List.mem_filter.1 hy).1; omega
      have hbb := bestOf_bd hG (((cellsA s 0).filter (fun o => (stepP s h (pl s x11) (pl s o)))).take k_) (fun y hy => hfr y (List.mem_of_mem_take hy)) 1048576 (by omega)
      rw [show List.foldl (fun b o => mn b (befG G_ o)) 1048576 (((cellsA s 0).filter (fun o => (stepP s h (pl s x11) (pl s o)))).take k_) = bestOf G_ (((cellsA s 0).filter (fun o => (stepP s h (pl s x11) (pl s o)))).take k_) from rfl] at hbb
      have hln := hn15
      refine W_seq (region_q {} TBok hF (F' := [(4, pv b1), (5, pv b2), (6, pv b3), (7, pv b4), (8, pv b5), (9, pv b6), (11, iv x11), (12, iv (untr s rs h x11)), (13, iv (bestOf G_ (((cellsA s 0).filter (fun o => (stepP s h (pl s x11) (pl s o)))).take k_))), (24, .func (.func 84) #[] #[pv b8]), (39, .slice p12 n13 c14), (40, iv (n13 : Int)), (41, iv (k_ : Int)), (42, .bool (decide ((k_ : Int) < (n13 : Int))))]) (rs := []) [4, 5, 6, 7, 8, 9, 11, 12, 13, 24, 39, 40, 41, 42] .nil (by kernel_rfl) fun a w hF hE => ?_)
      replace hO := hO.ext hE; clear hE
      rcases Bool.eq_false_or_eq_true (decide ((k_ : Int) < (n13 : Int))) with hc16 | hc16
      · refine W_seq (W_true ((evOp hF (by kernel_rfl)).trans (congrArg Value.bool hc16)) ?_)
        have hc16_ := of_decide_eq_true hc16
        refine (W_skip ?_)
        refine W_seq (W_block ?_)
        refine W_seq (region_q {} TBok hF (F' := [(4, pv b1), (5, pv b2), (6, pv b3), (7, pv b4), (8, pv b5), (9, pv b6), (11, iv x11), (12, iv (untr s rs h x11)), (13, iv (bestOf G_ (((cellsA s 0).filter (fun o => (stepP s h (pl s x11) (pl s o)))).take k_))), (15, iv (((cellsA s 0).filter (fun o => (stepP s h (pl s x11) (pl s o)))).getD k_ default)), (24, .func (.func 84) #[] #[pv b8]), (39, .slice p12 n13 c14), (40, iv (n13 : Int)), (41, iv (k_ : Int))]) (rs := [.idx p12 n13 (k_ : Int) 1 (adr p12 1 (k_ : Int)), .ld (adr p12 1 (k_ : Int)) (iv (((cellsA s 0).filter (fun o => (stepP s h (pl s x11) (pl s o)))).getD k_ default))]) [4, 5, 6, 7, 8, 9, 11, 12, 13, 15, 24, 39, 40, 41] (.cons (ix (enc := encI) (xs := ((cellsA s 0).filter (fun o => (stepP s h (pl s x11) (pl s o))))) ((rd_row (fun _ => rfl) (by decide) hO 9 rfl (by omega))) (by omega) (by omega)) <| .cons (ldR (enc := encI) (xs := ((cellsA s 0).filter (fun o => (stepP s h (pl s x11) (pl s o))))) (a := p12) (i := (k_ : Int)) (fun x_ hx_ => (rd_row (fun _ => rfl) (by decide) (hO.st x_ hx_) 9 rfl (by omega))) (by omega) (by omega) 0 rfl) <| .nil) (by kernel_rfl) fun a w hF hE => ?_)
        replace hO := hO.ext hE; clear hE
        refine (region_seq ?_)
        refine seq_quiet { md := [(3, 3)] } TBok hF (F' := [(4, pv b1), (5, pv b2), (6, pv b3), (7, pv b4), (8, pv b5), (9, pv b6), (11, iv x11), (12, iv (untr s rs h x11)), (13, iv (bestOf G_ (((cellsA s 0).filter (fun o => (stepP s h (pl s x11) (pl s o)))).take k_))), (24, .func (.func 84) #[] #[pv b8]), (39, .slice p12 n13 c14), (40, iv (n13 : Int)), (41, iv (k_ : Int)), (45, iv (bestOf G_ (((cellsA s 0).filter (fun o => (stepP s h (pl s x11) (pl s o)))).take k_))), (50, iv (((List.range 80).map G_).getD (((cellsA s 0).filter (fun o => (stepP s h (pl s x11) (pl s o)))).getD k_ default).toNat default))]) (rs := [.ld ⟨b4, 0, none⟩ (.pointer (some ad)), .raw (pure (.pointer (some ad))) (.pointer (some ad)), .idx (some ad) 80 (((cellsA s 0).filter (fun o => (stepP s h (pl s x11) (pl s o)))).getD k_ default) 1 (adr (some ad) 1 (((cellsA s 0).filter (fun o => (stepP s h (pl s x11) (pl s o)))).getD k_ default)), .ld (adr (some ad) 1 (((cellsA s 0).filter (fun o => (stepP s h (pl s x11) (pl s o)))).getD k_ default)) (iv (((List.range 80).map G_).getD (((cellsA s 0).filter (fun o => (stepP s h (pl s x11) (pl s o)))).getD k_ default).toNat default))]) [0, 1, 2, 3, 4, 5] [6, 7, 8] [4, 5, 6, 7, 8, 9, 11, 12, 13, 24, 39, 40, 41, 45, 50] (.cons (ldo hO.st 3 rfl 0 rfl) <| .cons raw_nilCheck <| .cons (ixa (hfr _ (getD_mem (by omega))).1 (hfr _ (getD_mem (by omega))).2) <| .cons (ldx hO.st nom hbef (hfr _ (getD_mem (by omega))).1 (hfr _ (getD_mem (by omega))).2 0 rfl) <| .nil) (by kernel_rfl) fun a w hF hE => ?_
        replace hO := hO.ext hE; clear hE
        refine op_bsl (i := 6) (t := 22) (e := 3) (len := 1) (ps := [(0, iv (((List.range 80).map G_).getD (((cellsA s 0).filter (fun o => (stepP s h (pl s x11) (pl s o)))).getD k_ default).toNat default))]) (d := 51) (sz := 1) (cs := #[iv (((List.range 80).map G_).getD (((cellsA s 0).filter (fun o => (stepP s h (pl s x11) (pl s o)))).getD k_ default).toNat default)]) (z := iv 0) hF hO (by kernel_rfl) (by kernel_rfl) (by kernel_rfl) (by kernel_rfl) (by kernel_rfl) fun a w b17 hF hO _ => ?_
        refine seq_quiet {} TBok hF (F' := [(4, pv b1), (5, pv b2), (6, pv b3), (7, pv b4), (8, pv b5), (9, pv b6), (11, iv x11), (12, iv (untr s rs h x11)), (13, iv (mn (bestOf G_ (((cellsA s 0).filter (fun o => (stepP s h (pl s x11) (pl s o)))).take k_)) (((List.range 80).map G_).getD (((cellsA s 0).filter (fun o => (stepP s h (pl s x11) (pl s o)))).getD k_ default).toNat default))), (24, .func (.func 84) #[] #[pv b8]), (39, .slice p12 n13 c14), (40, iv (n13 : Int)), (41, iv (k_ : Int))]) (rs := [.call 83 #[iv (bestOf G_ (((cellsA s 0).filter (fun o => (stepP s h (pl s x11) (pl s o)))).take k_)), .slice (some ⟨b17, 0, none⟩) 1 1] (iv (mn (bestOf G_ (((cellsA s 0).filter (fun o => (stepP s h (pl s x11) (pl s o)))).take k_)) (((List.range 80).map G_).getD (((cellsA s 0).filter (fun o => (stepP s h (pl s x11) (pl s o)))).getD k_ default).toNat default)))]) [7, 8] [] [4, 5, 6, 7, 8, 9, 11, 12, 13, 24, 39, 40, 41] (.cons (fun w hE => calls_cast (v := iv (leastL (bestOf G_ (((cellsA s 0).filter (fun o => (stepP s h (pl s x11) (pl s o)))).take k_)) [(((List.range 80).map G_).getD (((cellsA s 0).filter (fun o => (stepP s h (pl s x11) (pl s o)))).getD k_ default).toNat default)])) (v' := iv (mn (bestOf G_ (((cellsA s 0).filter (fun o => (stepP s h (pl s x11) (pl s o)))).take k_)) (((List.range 80).map G_).getD (((cellsA s 0).filter (fun o => (stepP s h (pl s x11) (pl s o)))).getD k_ default).toNat default))) (least_calls (bestOf G_ (((cellsA s 0).filter (fun o => (stepP s h (pl s x11) (pl s o)))).take k_)) [(((List.range 80).map G_).getD (((cellsA s 0).filter (fun o => (stepP s h (pl s x11) (pl s o)))).getD k_ default).toNat default)] (some ⟨b17, 0, none⟩) 1 1 w (rd_cel (enc := encI) (ys := [(((List.range 80).map G_).getD (((cellsA s 0).filter (fun o => (stepP s h (pl s x11) (pl s o)))).getD k_ default).toNat default)]) (rest := []) (fun _ => rfl) (hO.st w hE) 10 rfl rfl rfl (by decide))) rfl) <| .nil) (by kernel_rfl) fun a w hF hE => ?_
        replace hO := hO.ext hE; clear hE
        refine (region_q {} TBok hF (F' := [(4, pv b1), (5, pv b2), (6, pv b3), (7, pv b4), (8, pv b5), (9, pv b6), (11, iv x11), (12, iv (untr s rs h x11)), (13, iv (mn (bestOf G_ (((cellsA s 0).filter (fun o => (stepP s h (pl s x11) (pl s o)))).take k_)) (((List.range 80).map G_).getD (((cellsA s 0).filter (fun o => (stepP s h (pl s x11) (pl s o)))).getD k_ default).toNat default))), (24, .func (.func 84) #[] #[pv b8]), (39, .slice p12 n13 c14), (40, iv (n13 : Int)), (41, iv ((k_ : Int) + 1))]) (rs := [.rng ((k_ : Int) + 1)]) [4, 5, 6, 7, 8, 9, 11, 12, 13, 24, 39, 40, 41] (.cons (rg (by omega)) <| .nil) (by kernel_rfl) fun a w hF hE => ?_)
        replace hO := hO.ext hE; clear hE
        have hst_ : bestOf G_ (((cellsA s 0).filter (fun o => (stepP s h (pl s x11) (pl s o)))).take (k_ + 1)) = mn (bestOf G_ (((cellsA s 0).filter (fun o => (stepP s h (pl s x11) (pl s o)))).take k_)) (befG G_ (((cellsA s 0).filter (fun o => (stepP s h (pl s x11) (pl s o)))).getD k_ default)) := foldl_take _ _ (by omega)
        replace hO := hO.drop1 10
        replace hO : Own w0 none_ [cel b1 (sS8 s v mb qa qn qc) 80, cel b2 #[.func (.func 87) #[] #[pv bg]] 125, cel b3 #[iv h] 3, cel b4 #[.pointer (some ad)] 122, cel b5 (arrL 80 (fun _ => 0)).toArray 99, cel b6 (arrL 80 g1).toArray 99, cel b8 (sS7 s v mb) 77, pt D9 (.deferred (some [])), pt (D9 + 1) (.loop { lr10 with state := .busy }), rowR 3 1 (.slice p12 n13 c14) n13 (((cellsA s 0).filter (fun o => (stepP s h (pl s x11) (pl s o)))).flatMap encI)] w := hO
        exact ⟨_, by omega, k_ + 1, rfl, by omega, hF.cast (by rw [hst_]; rfl), hO⟩
      · refine W_seq (W_false ((evOp hF (by kernel_rfl)).trans (congrArg Value.bool hc16)) ?_)
        have hc16_ := of_decide_eq_false hc16
        refine (W_exit ?_)
        refine (region_seq ?_)
        refine seq_quiet {} TBok hF (F' := [(4, pv b1), (5, pv b2), (6, pv b3), (7, pv b4), (8, pv b5), (9, pv b6), (24, .func (.func 84) #[] #[pv b8]), (54, iv x11), (57, iv ((bestOf G_ (((cellsA s 0).filter (fun o => (stepP s h (pl s x11) (pl s o)))).take k_)) + (untr s rs h x11)))]) (rs := [.rng ((bestOf G_ (((cellsA s 0).filter (fun o => (stepP s h (pl s x11) (pl s o)))).take k_)) + (untr s rs h x11))]) [0, 1, 2, 3] [4, 5, 6, 7] [4, 5, 6, 7, 8, 9, 24, 54, 57] (.cons (rg (by omega)) <| .nil) (by kernel_rfl) fun a w hF hE => ?_
        replace hO := hO.ext hE; clear hE
        refine op_bsl (i := 4) (t := 22) (e := 3) (len := 1) (ps := [(0, iv ((bestOf G_ (((cellsA s 0).filter (fun o => (stepP s h (pl s x11) (pl s o)))).take k_)) + (untr s rs h x11)))]) (d := 58) (sz := 1) (cs := #[iv ((bestOf G_ (((cellsA s 0).filter (fun o => (stepP s h (pl s x11) (pl s o)))).take k_)) + (untr s rs h x11))]) (z := iv 0) hF hO (by kernel_rfl) (by kernel_rfl) (by kernel_rfl) (by kernel_rfl) (by kernel_rfl) fun a w b18 hF hO _ => ?_
        refine seq_quiet {} TBok hF (F' := [(4, pv b1), (5, pv b2), (6, pv b3), (7, pv b4), (8, pv b5), (9, pv b6), (24, .func (.func 84) #[] #[pv b8]), (59, iv (mn 1048576 ((bestOf G_ (((cellsA s 0).filter (fun o => (stepP s h (pl s x11) (pl s o)))).take k_)) + (untr s rs h x11)))), (60, .pointer (some ((⟨b6, 0, none⟩ : Addr).add (x11.toNat * 1))))]) (rs := [.call 83 #[iv 1048576, .slice (some ⟨b18, 0, none⟩) 1 1] (iv (mn 1048576 ((bestOf G_ (((cellsA s 0).filter (fun o => (stepP s h (pl s x11) (pl s o)))).take k_)) + (untr s rs h x11)))), .idx (some ⟨b6, 0, none⟩) 80 x11 1 ((⟨b6, 0, none⟩ : Addr).add (x11.toNat * 1))]) [5, 6] [7] [4, 5, 6, 7, 8, 9, 24, 59, 60] (.cons (fun w hE => calls_cast (v := iv (leastL 1048576 [((bestOf G_ (((cellsA s 0).filter (fun o => (stepP s h (pl s x11) (pl s o)))).take k_)) + (untr s rs h x11))])) (v' := iv (mn 1048576 ((bestOf G_ (((cellsA s 0).filter (fun o => (stepP s h (pl s x11) (pl s o)))).take k_)) + (untr s rs h x11)))) (least_calls 1048576 [((bestOf G_ (((cellsA s 0).filter (fun o => (stepP s h (pl s x11) (pl s o)))).take k_)) + (untr s rs h x11))] (some ⟨b18, 0, none⟩) 1 1 w (rd_cel (enc := encI) (ys := [((bestOf G_ (((cellsA s 0).filter (fun o => (stepP s h (pl s x11) (pl s o)))).take k_)) + (untr s rs h x11))]) (rest := []) (fun _ => rfl) (hO.st w hE) 10 rfl rfl rfl (by decide))) rfl) <| .cons (ixa (by omega) (by omega)) <| .nil) (by kernel_rfl) fun a w hF hE => ?_
        replace hO := hO.ext hE; clear hE
        refine op_storef (k := 7) (t := 3) (x := (mn 1048576 ((bestOf G_ (((cellsA s 0).filter (fun o => (stepP s h (pl s x11) (pl s o)))).take k_)) + (untr s rs h x11)))) (n := 80) (pre := []) (post := []) (f := g1) (i := x11) (off := 0) hF hO (by kernel_rfl) 5 rfl rfl (by omega) (by omega) (by kernel_rfl) fun a w hF hO _ => ?_
        replace hO : Own w0 none_ [cel b1 (sS8 s v mb qa qn qc) 80, cel b2 #[.func (.func 87) #[] #[pv bg]] 125, cel b3 #[iv h] 3, cel b4 #[.pointer (some ad)] 122, cel b5 (arrL 80 (fun _ => 0)).toArray 99, cel b6 (arrL 80 (updf g1 x11.toNat (mn 1048576 ((bestOf G_ (((cellsA s 0).filter (fun o => (stepP s h (pl s x11) (pl s o)))).take k_)) + (untr s rs h x11))))).toArray 99, cel b8 (sS7 s v mb) 77, pt D9 (.deferred (some [])), pt (D9 + 1) (.loop { lr10 with state := .busy }), rowR 3 1 (.slice p12 n13 c14) n13 (((cellsA s 0).filter (fun o => (stepP s h (pl s x11) (pl s o)))).flatMap encI), cel b18 #[iv ((bestOf G_ (((cellsA s 0).filter (fun o => (stepP s h (pl s x11) (pl s o)))).take k_)) + (untr s rs h x11))] 3] w := hO
        replace hF := hF.sel [4, 5, 6, 7, 8, 9, 24]
        replace hF : Fr 62 [] [(4, pv b1), (5, pv b2), (6, pv b3), (7, pv b4), (8, pv b5), (9, pv b6), (24, .func (.func 84) #[] #[pv b8])] a := hF
        show roundPost Try.prog (D9 + 1) (fun e w => ∃ b, e = .returned (.bool b) ∧ Rr b w) (Exit.normal) a w
        replace hO := hO.drop1 10
        replace hO := hO.drop1 9
        have hkk_ : k_ = ((cellsA s 0).filter (fun o => (stepP s h (pl s x11) (pl s o)))).length := by omega
        replace hO : Own w0 none_ [cel b1 (sS8 s v mb qa qn qc) 80, cel b2 #[.func (.func 87) #[] #[pv bg]] 125, cel b3 #[iv h] 3, cel b4 #[.pointer (some ad)] 122, cel b5 (arrL 80 (fun _ => 0)).toArray 99, cel b6 (arrL 80 (updf g1 x11.toNat (mn 1048576 ((bestOf G_ (((cellsA s 0).filter (fun o => (stepP s h (pl s x11) (pl s o)))).take k_)) + (untr s rs h x11))))).toArray 99, cel b8 (sS7 s v mb) 77, pt D9 (.deferred (some [])), pt (D9 + 1) (.loop { lr10 with state := .busy })] w := hO
        replace hO : Own w0 none_ [cel b1 (sS8 s v mb qa qn qc) 80, cel b2 #[.func (.func 87) #[] #[pv bg]] 125, cel b3 #[iv h] 3, cel b4 #[.pointer (some ad)] 122, cel b5 (arrL 80 (fun _ => 0)).toArray 99, cel b6 (arrL 80 (updf g1 x11.toNat ((fun x => (mn 1048576 (bestOf G_ ((cellsA s 0).filter (fun o => (stepP s h (pl s x) (pl s o)))) + untr s rs h x))) x11))).toArray 99, cel b8 (sS7 s v mb) 77, pt D9 (.deferred (some [])), pt (D9 + 1) (.loop { lr10 with state := .busy })] w := hO.cast (by rw [hkk_, List.take_length])
        obtain ⟨w, he, hO⟩ := end_round (P := Try.prog) none hO 8 rfl
        refine round_next he ?_
        rw [hRr]
        exact ⟨_, goneF_step (val := (fun x => (mn 1048576 (bestOf G_ ((cellsA s 0).filter (fun o => (stepP s h (pl s x) (pl s o)))) + untr s rs h x)))) hgf hnd (hmem _ (List.mem_cons_self ..)), (List.nodup_cons.1 hnd).2, fun y hy => hmem y (List.mem_cons_of_mem _ hy), hO.cast (by rw [hlr]; rfl)⟩
    · exact ⟨g, gone_start (fun i hi => by rw [hfil i hi, if_pos (by omega)]), cellsA_nodup s 0, fun y hy => hy, hO⟩
    clear hO
    rintro e w ⟨he, hJ | hS⟩
    · obtain ⟨g1, hgf, hnd, hmem, hO⟩ := hJ
      subst he
      refine ⟨_, rfl, lr10, hO.get 8 rfl, by rw [hlr]; simp [loopR], .inl ⟨by rw [hlr]; rfl, fun a hF => ?_⟩⟩
      replace hO := hO.put 8 rfl (.loop { lr10 with state := .exhausted })
      generalize w.putObj (D9 + 1) (.loop { lr10 with state := .exhausted }) = w at hO ⊢
      replace hO := hO.drop1 8
      refine W_seq (region_seq ?_)
      refine seq_quiet {} TBok hF (F' := [(8, pv b5), (61, .agg (arrL 80 g1).toArray)]) (rs := [.lds ⟨b6, 0, none⟩ (arrL 80 g1)]) [0] [1] [8, 61] (.cons (ldso hO.st 5 rfl 0 (by kernel_rfl)) <| .nil) (by kernel_rfl) fun a w hF hE => ?_
      replace hO := hO.ext hE; clear hE
      refine op_store (i := 1) (t := 99) (p := ⟨b5, 0, none⟩) (v := .agg (arrL 80 g1).toArray) (off := 0) (sz := 80) (cs' := (arrL 80 g1).toArray) hF hO (by kernel_rfl) 4 rfl rfl (by kernel_rfl) (by kernel_rfl) (by kernel_rfl) fun a w hF hO _ => ?_
      replace hF := hF.sel [8]
      replace hF : Fr 62 [mk D9] [(8, pv b5)] a := hF
      refine W_ret ?_
      show bodyPostM (FW none) 0 _ _ _ Exit.ret a w
      obtain ⟨w, hs, hO⟩ := shut1 hO 7 rfl
      have hO3 := hO.kp
      exact leave_r TBok hF hs (vs := [.agg (arrL 80 g1).toArray]) (rs := [.lds ⟨b5, 0, none⟩ (arrL 80 g1)]) (.cons (rdso hO 4 rfl 0 (by kernel_rfl)) <| .nil) (by kernel_rfl) ⟨by rw [gone_end hgf]; rfl, hO3⟩
    · exact hS.elim

end Go.Proofs.Ytgihgcclabodbaa.DK
