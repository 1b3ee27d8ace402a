/- Walks: the fewest reports that are false; where the shoal can be. Printed by my gen.py out of shoal/m.py. -/
import Derived.Test.YtgihgcclabodbaaSV
import Derived.Test.YtgihgcclabodbaaSMin2
import Derived.Test.YtgihgcclabodbaaKY
namespace Go.Proofs.Ytgihgcclabodbaa.DK
open Go Go.Proofs
set_option linter.unusedVariables false
set_option linter.unusedSimpArgs false

set_option maxHeartbeats 4000000 in
set_option maxRecDepth 100000 in
theorem fewest_calls (ba N : Nat) (G_ : Nat → Nat → Int) (w0 : World) (hb : Ro ba (arrL (N * 80) (flat G_)) w0) (hN : 1 ≤ N) (hN2 : N ≤ 1000000) :
    Calls Try.prog 58 #[.slice (some ⟨ba, 0, none⟩) N N] w0 (fun e w' => e = .returned (iv (fewF G_ (N - 1))) ∧ Ext w0 w') := by
  refine calls_of_W Try.func58 rfl (by kernel_rfl) (args := [.slice (some ⟨ba, 0, none⟩) N N]) fun a hF => ?_
  replace hF : Fr 36 [] [(0, .slice (some ⟨ba, 0, none⟩) N N)] a := hF
  have hO : Own w0 none_ [] w0 := Own.start w0 _
  refine W_seq (region_q {} TBok hF (F' := [(0, .slice (some ⟨ba, 0, none⟩) N N), (2, iv 0)]) (rs := []) [0, 2] .nil (by kernel_rfl) fun a w hF hE => ?_)
  replace hO := hO.ext hE; clear hE
  refine W_seq (region_d { md := [(6, 3)] } mixed TBok hF (F' := [(0, .slice (some ⟨ba, 0, none⟩) N N), (2, iv 0), (3, iv (leastL (G_ 0 0) ((List.range 80).map (G_ 0))))]) (rs := [.idx (some ⟨ba, 0, none⟩) N 0 80 ((⟨ba, 0, none⟩ : Addr).add ((0 : Int).toNat * 80)), .idx (some ((⟨ba, 0, none⟩ : Addr).add ((0 : Int).toNat * 80))) 80 0 1 (((⟨ba, 0, none⟩ : Addr).add ((0 : Int).toNat * 80)).add ((0 : Int).toNat * 1)), .ld (((⟨ba, 0, none⟩ : Addr).add ((0 : Int).toNat * 80)).add ((0 : Int).toNat * 1)) (iv (G_ 0 0)), .idx (some ⟨ba, 0, none⟩) N 0 80 ((⟨ba, 0, none⟩ : Addr).add ((0 : Int).toNat * 80)), .raw (Instr.sliceAt 99 (.pointer (some ((⟨ba, 0, none⟩ : Addr).add ((0 : Int).toNat * 80)))) none none none) (.slice (some ((⟨ba, 0, none⟩ : Addr).add ((0 : Int).toNat * 80))) 80 80), .call 83 #[iv (G_ 0 0), .slice (some ((⟨ba, 0, none⟩ : Addr).add ((0 : Int).toNat * 80))) 80 80] (iv (leastL (G_ 0 0) ((List.range 80).map (G_ 0))))]) [0, 2, 3] (.cons (ixa (by omega) (by omega)) <| .cons (ixa (by omega) (by omega)) <| .cons (ldMr (G := G_) (h := 0) (c := 0) hO.st hb (fun h => h) (by omega) (by omega) (by omega) (by omega)) <| .cons (ixa (by omega) (by omega)) <| .cons (raw_sliceM arrT99) <| .cons (fun w hE => least_calls (G_ 0 0) ((List.range 80).map (G_ 0)) (some ((⟨ba, 0, none⟩ : Addr).add ((0 : Int).toNat * 80))) 80 80 w (rdMr (enc := encI) (G := G_) (h := 0) (fun x => rfl) (hb.kp (hO.st w hE).kp (fun h => h)) (by omega) (by omega))) <| .nil) (by kernel_rfl) (by kernel_rfl) fun a w hF hE => ?_)
  replace hO := hO.ext hE; clear hE
  refine W_seq ?_
  refine W_seq (region_q {} TBok hF (F' := [(0, .slice (some ⟨ba, 0, none⟩) N N), (2, iv 0), (3, iv (leastL (G_ 0 0) ((List.range 80).map (G_ 0)))), (4, iv 1)]) (rs := []) [0, 2, 3, 4] .nil (by kernel_rfl) fun a w hF hE => ?_)
  replace hO := hO.ext hE; clear hE
  refine (W_block ?_)
  refine (W_loop (fun m a w => ∃ (k : Nat), m = N - k ∧ (1 ≤ k ∧ k ≤ N) ∧ Fr 36 [] [(0, .slice (some ⟨ba, 0, none⟩) N N), (2, iv 0), (3, iv (fewF G_ (k - 1))), (4, iv (k : Int))] a ∧ Own w0 none_ [] w) _ ⟨1, rfl, ⟨Nat.le_refl _, hN⟩, hF, hO⟩ ?_)
  clear hF hO
  rintro _ a w ⟨k, rfl, hk, hF, hO⟩
  refine W_seq ?_
  refine W_seq (region_q {} TBok hF (F' := [(0, .slice (some ⟨ba, 0, none⟩) N N), (2, iv 0), (3, iv (fewF G_ (k - 1))), (4, iv (k : Int)), (16, .bool (decide ((k : Int) < (N : Int))))]) (rs := []) [0, 2, 3, 4, 16] .nil (by kernel_rfl) fun a w hF hE => ?_)
  replace hO := hO.ext hE; clear hE
  rcases Bool.eq_false_or_eq_true (decide ((k : Int) < (N : Int))) with hc1 | hc1
  · refine (W_true ((evOp hF (by kernel_rfl)).trans (congrArg Value.bool hc1)) ?_)
    have hc1_ := of_decide_eq_true hc1
    refine (W_skip ?_)
    refine W_seq (W_block ?_)
    refine W_seq (region_d { md := [(9, 3)] } mixed TBok hF (F' := [(0, .slice (some ⟨ba, 0, none⟩) N N), (2, iv 0), (3, iv (fewF G_ (k - 1))), (4, iv (k : Int)), (28, .bool (!(feq 80 (G_ k) (G_ ((k : Int) - 1).toNat))))]) (rs := [.idx (some ⟨ba, 0, none⟩) N (k : Int) 80 ((⟨ba, 0, none⟩ : Addr).add ((k : Int).toNat * 80)), .lds ((⟨ba, 0, none⟩ : Addr).add ((k : Int).toNat * 80)) (arrL 80 (G_ k)), .rng ((k : Int) - 1), .idx (some ⟨ba, 0, none⟩) N ((k : Int) - 1) 80 ((⟨ba, 0, none⟩ : Addr).add (((k : Int) - 1).toNat * 80)), .lds ((⟨ba, 0, none⟩ : Addr).add (((k : Int) - 1).toNat * 80)) (arrL 80 (G_ ((k : Int) - 1).toNat)), .raw (rb .neq 99 (.tmp 22) (.tmp 27) (.agg (arrL 80 (G_ k)).toArray) (.agg (arrL 80 (G_ ((k : Int) - 1).toNat)).toArray)) (.bool (!(feq 80 (G_ k) (G_ ((k : Int) - 1).toNat))))]) [0, 2, 3, 4, 28] (.cons (ixa (by omega) (by omega)) <| .cons (ldsMr (G := G_) (h := (k : Int)) hO.st hb (fun h => h) (by omega) (by omega)) <| .cons (rg (by omega)) <| .cons (ixa (by omega) (by omega)) <| .cons (ldsMr (G := G_) (h := ((k : Int) - 1)) hO.st hb (fun h => h) (by omega) (by omega)) <| .cons (raw_neA arrT99 arrG99 (G_ k) (G_ ((k : Int) - 1).toNat)) <| .nil) (by kernel_rfl) (by kernel_rfl) fun a w hF hE => ?_)
    replace hO := hO.ext hE; clear hE
    rcases Bool.eq_false_or_eq_true (!(feq 80 (G_ k) (G_ ((k : Int) - 1).toNat))) with hc2 | hc2
    · refine (W_true ((evOp hF (by kernel_rfl)).trans (congrArg Value.bool hc2)) ?_)
      refine (region_q { md := [(4, 3)] } TBok hF (F' := [(0, .slice (some ⟨ba, 0, none⟩) N N), (2, iv 0), (3, iv (leastL (fewF G_ (k - 1)) ((List.range 80).map (G_ k)))), (4, iv (k : Int))]) (rs := [.idx (some ⟨ba, 0, none⟩) N (k : Int) 80 ((⟨ba, 0, none⟩ : Addr).add ((k : Int).toNat * 80)), .raw (Instr.sliceAt 99 (.pointer (some ((⟨ba, 0, none⟩ : Addr).add ((k : Int).toNat * 80)))) none none none) (.slice (some ((⟨ba, 0, none⟩ : Addr).add ((k : Int).toNat * 80))) 80 80), .call 83 #[iv (fewF G_ (k - 1)), .slice (some ((⟨ba, 0, none⟩ : Addr).add ((k : Int).toNat * 80))) 80 80] (iv (leastL (fewF G_ (k - 1)) ((List.range 80).map (G_ k))))]) [0, 2, 3, 4] (.cons (ixa (by omega) (by omega)) <| .cons (raw_sliceM arrT99) <| .cons (fun w hE => least_calls (fewF G_ (k - 1)) ((List.range 80).map (G_ k)) (some ((⟨ba, 0, none⟩ : Addr).add ((k : Int).toNat * 80))) 80 80 w (rdMr (enc := encI) (G := G_) (h := (k : Int)) (fun x => rfl) (hb.kp (hO.st w hE).kp (fun h => h)) (by omega) (by omega))) <| .nil) (by kernel_rfl) fun a w hF hE => ?_)
      replace hO := hO.ext hE; clear hE
      refine (region_q {} TBok hF (F' := [(0, .slice (some ⟨ba, 0, none⟩) N N), (2, iv 0), (3, iv (leastL (fewF G_ (k - 1)) ((List.range 80).map (G_ k)))), (4, iv ((k : Int) + 1))]) (rs := [.rng ((k : Int) + 1)]) [0, 2, 3, 4] (.cons (rg (by omega)) <| .nil) (by kernel_rfl) fun a w hF hE => ?_)
      replace hO := hO.ext hE; clear hE
      have hst_ := fewF_step (G := G_) (k := k) (by omega)
      rw [hc2, cond_true] at hst_
      exact ⟨_, by omega, k + 1, rfl, by omega, hF.cast (by rw [Nat.add_sub_cancel, hst_]; rfl), hO⟩
    · refine (W_false ((evOp hF (by kernel_rfl)).trans (congrArg Value.bool hc2)) ?_)
      refine (W_skip ?_)
      refine (region_q {} TBok hF (F' := [(0, .slice (some ⟨ba, 0, none⟩) N N), (2, iv 0), (3, iv (fewF G_ (k - 1))), (4, iv ((k : Int) + 1))]) (rs := [.rng ((k : Int) + 1)]) [0, 2, 3, 4] (.cons (rg (by omega)) <| .nil) (by kernel_rfl) fun a w hF hE => ?_)
      replace hO := hO.ext hE; clear hE
      have hst_ := fewF_step (G := G_) (k := k) (by omega)
      rw [hc2, cond_false] at hst_
      exact ⟨_, by omega, k + 1, rfl, by omega, hF.cast (by rw [Nat.add_sub_cancel, hst_]; rfl), hO⟩
  · refine (W_false ((evOp hF (by kernel_rfl)).trans (congrArg Value.bool hc1)) ?_)
    have hc1_ := of_decide_eq_false hc1
    refine (W_exit ?_)
    refine W_seq (region_q {} TBok hF (F' := [(2, iv (fewF G_ (k - 1)))]) (rs := []) [2] .nil (by kernel_rfl) fun a w hF hE => ?_)
    replace hO := hO.ext hE; clear hE
    refine W_ret ?_
    show bodyPostM (FW none) 0 _ _ _ Exit.ret a w
    have hkk : k = N := by omega
    exact leave_r TBok hF (.nil _) (vs := [iv (fewF G_ (k - 1))]) (rs := []) .nil (by kernel_rfl) ⟨by rw [hkk]; rfl, hO.kp⟩

set_option maxHeartbeats 4000000 in
set_option maxRecDepth 100000 in
theorem can_calls (s : Sea) (v : SV) (mb : Nat) (qa : Option Addr) (qn qc : Nat) (rs : List Rp) (wr h : Int) (w0 : World) (hg : LogR w0.heap.size w0 v mb qa qn s rs) (hv : seaB s = true) (hr : rpsB s rs = true) (hh : 0 ≤ h ∧ h < s.hours) :
    Calls Try.prog 63 #[.agg (sS8 s v mb qa qn qc), iv wr, iv h] w0 (fun e w' => ∃ p n c_, (canR1 s rs wr h).1.length = n ∧ e = .returned (.tuple #[.slice p n c_, iv (canR1 s rs wr h).2]) ∧ Own w0 none_ [rdR encI 1 p n (canR1 s rs wr h).1] w') := by
  have hs := hg.sea; have hq1 := hg.reps.len; have hrl := rqs_len (s := s) (rs := rs); have hrp := rp_ok hr; have hl1 := hs.land.len; have hl2 := hs.drift.len; have hs1 := hs.land.size; have hs2 := hs.drift.size; have hr_ := hs.rg; unfold i64 at hr_; have hv1 := sea_ok hv; have hcl := cellsA_len hv
  refine calls_of_W Try.func63 rfl (by kernel_rfl) (args := [.agg (sS8 s v mb qa qn qc), iv wr, iv h]) fun a hF => ?_
  replace hF : Fr 42 [] [(0, .agg (sS8 s v mb qa qn qc)), (1, iv wr), (2, iv h)] a := hF
  have hO : Own w0 none_ [] w0 := Own.start w0 _
  refine W_seq (region_seq ?_)
  refine op_box (i := 0) (t := 80) (v := .agg (sS8 s v mb qa qn qc)) (d := 3) hF hO (by kernel_rfl) fun a w b1 hF hO _ => ?_
  refine op_box (i := 1) (t := 3) (v := iv wr) (d := 4) hF hO (by kernel_rfl) fun a w b2 hF hO _ => ?_
  refine op_box (i := 2) (t := 3) (v := iv h) (d := 5) hF hO (by kernel_rfl) fun a w b3 hF hO _ => ?_
  refine seq_quiet {} TBok hF (F' := [(3, pv b1), (4, pv b2), (5, pv b3), (6, .slice none 0 0), (7, iv 0)]) (rs := []) [3, 4] [] [3, 4, 5, 6, 7] .nil (by kernel_rfl) fun a w hF hE => ?_
  replace hO := hO.ext hE; clear hE
  refine W_seq (region_seq ?_)
  refine seq_quiet {} TBok hF (F' := [(3, pv b1), (4, pv b2), (5, pv b3), (6, .slice none 0 0), (7, iv 0), (13, .agg (sS8 s v mb qa qn qc))]) (rs := [.lds ⟨b1, 0, none⟩ (sL8 s v mb qa qn qc)]) [0] [1, 2, 3, 4, 5, 6, 7] [3, 4, 5, 6, 7, 13] (.cons (ldso hO.st 0 rfl 0 rfl) <| .nil) (by kernel_rfl) fun a w hF hE => ?_
  replace hO := hO.ext hE; clear hE
  refine op_call (i := 1) (f := 57) (args := #[.agg (sS8 s v mb qa qn qc)]) (d := some 14) TBok (by kernel_rfl) hF (by kernel_rfl) (through_calls s v mb qa qn qc rs _ (hg.upM hO.kp nom (Nat.le_refl _)) hv hr) fun e w hR => ?_
  obtain ⟨b4, b5, he, hO2⟩ := hR
  refine ⟨_, he, fun a hF => ?_⟩
  replace hO := hO.joinE hO2; clear hO2 he
  replace hO : Own w0 none_ [cel b1 (sS8 s v mb qa qn qc) 80, cel b2 #[iv wr] 3, cel b3 #[iv h] 3, cel b4 (arrL ((s.hours.toNat) * 80) (flat (allR s rs s.hours.toNat))).toArray 99, cel b5 (arrL ((s.hours.toNat) * 80) (flat (bwdR s rs s.hours.toNat))).toArray 99] w := hO
  refine seq_quiet {} TBok hF (F' := [(3, pv b1), (4, pv b2), (5, pv b3), (6, .slice none 0 0), (7, iv 0), (15, .slice (some ⟨b4, 0, none⟩) (s.hours.toNat) (s.hours.toNat)), (16, .slice (some ⟨b5, 0, none⟩) (s.hours.toNat) (s.hours.toNat))]) (rs := []) [2, 3, 4] [5, 6, 7] [3, 4, 5, 6, 7, 15, 16] .nil (by kernel_rfl) fun a w hF hE => ?_
  replace hO := hO.ext hE; clear hE
  refine op_alloc (i := 5) (t := 92) (d := 8) (z := .slice none 0 0) hF hO (by kernel_rfl) (by kernel_rfl) fun a w b6 hF hO _ => ?_
  refine op_store (i := 6) (t := 92) (p := ⟨b6, 0, none⟩) (v := .slice (some ⟨b4, 0, none⟩) (s.hours.toNat) (s.hours.toNat)) (off := 0) (sz := 1) (cs' := #[.slice (some ⟨b4, 0, none⟩) (s.hours.toNat) (s.hours.toNat)]) hF hO (by kernel_rfl) 5 rfl rfl (by kernel_rfl) (by kernel_rfl) (by kernel_rfl) fun a w hF hO _ => ?_
  refine seq_quiet {} TBok hF (F' := [(3, pv b1), (4, pv b2), (5, pv b3), (6, .slice none 0 0), (7, iv 0), (8, pv b6)]) (rs := []) [7] [] [3, 4, 5, 6, 7, 8] .nil (by kernel_rfl) fun a w hF hE => ?_
  replace hO := hO.ext hE; clear hE
  refine W_seq (region_seq ?_)
  refine op_alloc (i := 0) (t := 22) (d := 10) (z := .slice none 0 0) hF hO (by kernel_rfl) (by kernel_rfl) fun a w b7 hF hO _ => ?_
  replace hF := hF.sel [3, 4, 5, 6, 7, 8, 10]
  replace hF : Fr 42 [] [(3, pv b1), (4, pv b2), (5, pv b3), (6, .slice none 0 0), (7, iv 0), (8, pv b6), (10, pv b7)] a := hF
  refine W_seq ?_
  refine W_seq (region_seq ?_)
  refine seq_quiet {} TBok hF (F' := [(4, pv b2), (5, pv b3), (6, .slice none 0 0), (7, iv 0), (8, pv b6), (10, pv b7), (18, .agg (sS7 s v mb))]) (rs := [.lds ⟨b1, 0, none⟩ (sL7 s v mb)]) [0, 1] [2] [4, 5, 6, 7, 8, 10, 18] (.cons (ldso hO.st 0 rfl 0 rfl) <| .nil) (by kernel_rfl) fun a w hF hE => ?_
  replace hO := hO.ext hE; clear hE
  refine op_call (i := 2) (f := 59) (args := #[.agg (sS7 s v mb)]) (d := some 19) TBok (by kernel_rfl) hF (by kernel_rfl) (cells_calls s v mb _) fun e w hR => ?_
  obtain ⟨b8, he, hO2⟩ := hR
  refine ⟨_, he, fun a hF => ?_⟩
  replace hO := hO.joinE hO2; clear hO2 he
  replace hO : Own w0 none_ [cel b1 (sS8 s v mb qa qn qc) 80, cel b2 #[iv wr] 3, cel b3 #[iv h] 3, cel b4 (arrL ((s.hours.toNat) * 80) (flat (allR s rs s.hours.toNat))).toArray 99, cel b5 (arrL ((s.hours.toNat) * 80) (flat (bwdR s rs s.hours.toNat))).toArray 99, cel b6 #[.slice (some ⟨b4, 0, none⟩) (s.hours.toNat) (s.hours.toNat)] 92, cel b7 #[.slice none 0 0] 22, cel b8 (sS7 s v mb) 77] w := hO
  replace hF := hF.sel [4, 5, 6, 7, 8, 10, 19]
  replace hF : Fr 42 [] [(4, pv b2), (5, pv b3), (6, .slice none 0 0), (7, iv 0), (8, pv b6), (10, pv b7), (19, .func (.func 84) #[] #[pv b8])] a := hF
  refine (W_block ?_)
  replace hO := hO.nilRow 3 1
  refine W_range (t := 20) (f := 84) (fst := #[]) (cap := #[pv b8]) TBok hF hO (by kernel_rfl) (by kernel_rfl) fun fn w D9 lr10 hlr hO hE => ?_
  clear hE; have hFo := hF
  refine (cells_run s v mb b8 (D9 + 1) (fun r w => ∃ (acc : List Int), ∃ (p_ : Option Addr), ∃ (k_ : Nat), ∃ (c_ : Nat), acc ++ r.filter (fun (c : Int) => decide (allR s rs s.hours.toNat h.toNat c.toNat ≤ wr)) = canL s rs wr h ∧ acc.length = k_ ∧ (k_ + r.length ≤ 80 ∧ (∀ y ∈ r, y ∈ cellsA s 0)) ∧ Own w0 none_ [cel b1 (sS8 s v mb qa qn qc) 80, cel b2 #[iv wr] 3, cel b3 #[iv h] 3, cel b4 (arrL ((s.hours.toNat) * 80) (flat (allR s rs s.hours.toNat))).toArray 99, cel b5 (arrL ((s.hours.toNat) * 80) (flat (bwdR s rs s.hours.toNat))).toArray 99, cel b6 #[.slice (some ⟨b4, 0, none⟩) (s.hours.toNat) (s.hours.toNat)] 92, cel b7 #[.slice p_ k_ c_] 22, cel b8 (sS7 s v mb) 77, rowR 3 1 (.slice p_ k_ c_) k_ (acc.flatMap encI), pt D9 (.deferred (some [])), pt (D9 + 1) (.loop lr10)] w) (fun w => False) w hv ?_ ?_ ?_ ?_ ?_).mono ?_
  · rintro r w w2 ⟨acc, p_, k_, c_, heq, hkl, hlen, hO⟩ hE; exact ⟨acc, p_, k_, c_, heq, hkl, hlen, hO.ext hE⟩
  · exact fun _ _ h _ => h.elim
  · rintro r w ⟨acc, p_, k_, c_, heq, hkl, hlen, hO⟩
    exact ⟨Ro.of_ok (cs := (sL7 s v mb)) (hO.get 7 rfl), (hg.upM hO.kp nom (Nat.le_refl _)).land⟩
  · clear hO
    rintro x11 r w ⟨acc, p_, k_, c_, heq, hkl, hlen, hO⟩
    have hl1_ : w.heap[D9 + 1]? = some (.loop lr10) := hO.get 10 rfl
    rw [hlr] at hl1_
    refine yields_ofR hl1_ fun Rr hRr => ?_
    clear hl1_
    have hF := hFo.round (t := 20) (by kernel_rfl) (iv x11)
    replace hF : Fr 42 [] [(4, pv b2), (5, pv b3), (6, .slice none 0 0), (7, iv 0), (8, pv b6), (10, pv b7), (19, .func (.func 84) #[] #[pv b8]), (20, iv x11)] _ := hF.sel [4, 5, 6, 7, 8, 10, 19, 20]
    have hxm := mem_cellsA (hlen.2 _ (List.mem_cons_self ..))
    replace hlen : k_ + (x11 :: r).length ≤ 80 ∧ (∀ y ∈ r, y ∈ cellsA s 0) := ⟨hlen.1, fun y hy => hlen.2 y (List.mem_cons_of_mem _ hy)⟩
    refine (region_q {} TBok hF (F' := [(4, pv b2), (5, pv b3), (6, .slice none 0 0), (7, iv 0), (8, pv b6), (10, pv b7), (11, iv x11), (19, .func (.func 84) #[] #[pv b8])]) (rs := []) [4, 5, 6, 7, 8, 10, 11, 19] .nil (by kernel_rfl) fun a w hF hE => ?_)
    replace hO := hO.ext hE; clear hE
    obtain ⟨w, hb, hO⟩ := begin_round (P := Try.prog) hO 10 rfl (by rw [hlr]; rfl)
    refine ⟨rfl, w, hb, ?_⟩
    clear hb
    refine (W_block ?_)
    refine W_seq (region_d {} mixed TBok hF (F' := [(4, pv b2), (5, pv b3), (6, .slice none 0 0), (7, iv 0), (8, pv b6), (10, pv b7), (11, iv x11), (19, .func (.func 84) #[] #[pv b8]), (28, .bool (decide (((allR s rs s.hours.toNat) h.toNat x11.toNat) ≤ wr)))]) (rs := [.ld ⟨b6, 0, none⟩ (.slice (some ⟨b4, 0, none⟩) (s.hours.toNat) (s.hours.toNat)), .ld ⟨b3, 0, none⟩ (iv h), .idx (some ⟨b4, 0, none⟩) (s.hours.toNat) h 80 ((⟨b4, 0, none⟩ : Addr).add (h.toNat * 80)), .idx (some ((⟨b4, 0, none⟩ : Addr).add (h.toNat * 80))) 80 x11 1 (((⟨b4, 0, none⟩ : Addr).add (h.toNat * 80)).add (x11.toNat * 1)), .ld (((⟨b4, 0, none⟩ : Addr).add (h.toNat * 80)).add (x11.toNat * 1)) (iv ((allR s rs s.hours.toNat) h.toNat x11.toNat)), .ld ⟨b2, 0, none⟩ (iv wr)]) [4, 5, 6, 7, 8, 10, 11, 19, 28] (.cons (ldo hO.st 5 rfl 0 rfl) <| .cons (ldo hO.st 2 rfl 0 rfl) <| .cons (ixa (by omega) (by omega)) <| .cons (ixa (by omega) (by omega)) <| .cons (ldM (G := (allR s rs s.hours.toNat)) (h := h) (c := x11) hO.st 3 rfl (by omega) (by omega) (by omega) (by omega)) <| .cons (ldo hO.st 1 rfl 0 rfl) <| .nil) (by kernel_rfl) (by kernel_rfl) fun a w hF hE => ?_)
    replace hO := hO.ext hE; clear hE
    rcases Bool.eq_false_or_eq_true (decide (((allR s rs s.hours.toNat) h.toNat x11.toNat) ≤ wr)) with hc12 | hc12
    · refine (W_true ((evOp hF (by kernel_rfl)).trans (congrArg Value.bool hc12)) ?_)
      have hc12_ := of_decide_eq_true hc12
      refine (region_seq ?_)
      refine seq_quiet {} TBok hF (F' := [(4, pv b2), (5, pv b3), (6, .slice none 0 0), (7, iv 0), (8, pv b6), (10, pv b7), (19, .func (.func 84) #[] #[pv b8]), (29, .slice p_ k_ c_), (30, iv x11)]) (rs := [.ld ⟨b7, 0, none⟩ (.slice p_ k_ c_)]) [0, 1] [2, 3, 4] [4, 5, 6, 7, 8, 10, 19, 29, 30] (.cons (ldo hO.st 6 rfl 0 rfl) <| .nil) (by kernel_rfl) fun a w hF hE => ?_
      replace hO := hO.ext hE; clear hE
      refine op_bsl (i := 2) (t := 22) (e := 3) (len := 1) (ps := [(0, iv x11)]) (d := 31) (sz := 1) (cs := #[iv x11]) (z := iv 0) hF hO (by kernel_rfl) (by kernel_rfl) (by kernel_rfl) (by kernel_rfl) (by kernel_rfl) fun a w b13 hF hO _ => ?_
      replace hO : Own w0 none_ [cel b1 (sS8 s v mb qa qn qc) 80, cel b2 #[iv wr] 3, cel b3 #[iv h] 3, cel b4 (arrL ((s.hours.toNat) * 80) (flat (allR s rs s.hours.toNat))).toArray 99, cel b5 (arrL ((s.hours.toNat) * 80) (flat (bwdR s rs s.hours.toNat))).toArray 99, cel b6 #[.slice (some ⟨b4, 0, none⟩) (s.hours.toNat) (s.hours.toNat)] 92, cel b7 #[.slice p_ k_ c_] 22, cel b8 (sS7 s v mb) 77, rowR 3 1 (.slice p_ k_ c_) k_ (acc.flatMap encI), pt D9 (.deferred (some [])), pt (D9 + 1) (.loop { lr10 with state := .busy }), cel b13 #[iv x11] 3] w := hO
      refine op_appR (i := 3) (t := 22) (ty := 22) (e := 3) (d := 32) rowT22 hF hO (by kernel_rfl) 8 rfl 11 rfl (by kernel_rfl) (by rw [List.length_cons] at hlen; omega) fun a w p14 c15 hF hO hx => ?_
      clear hx
      refine op_store (i := 4) (t := 22) (p := ⟨b7, 0, none⟩) (v := .slice p14 (k_ + 1) c15) (off := 0) (sz := 1) (cs' := #[.slice p14 (k_ + 1) c15]) hF hO (by kernel_rfl) 6 rfl rfl (by kernel_rfl) (by kernel_rfl) (by kernel_rfl) fun a w hF hO _ => ?_
      replace hF := hF.sel [4, 5, 6, 7, 8, 10, 19]
      replace hF : Fr 42 [] [(4, pv b2), (5, pv b3), (6, .slice none 0 0), (7, iv 0), (8, pv b6), (10, pv b7), (19, .func (.func 84) #[] #[pv b8])] a := hF
      show roundPost Try.prog (D9 + 1) (fun e w => ∃ b, e = .returned (.bool b) ∧ Rr b w) (Exit.normal) a w
      replace hO := hO.drop1 11
      replace hO : Own w0 none_ [cel b1 (sS8 s v mb qa qn qc) 80, cel b2 #[iv wr] 3, cel b3 #[iv h] 3, cel b4 (arrL ((s.hours.toNat) * 80) (flat (allR s rs s.hours.toNat))).toArray 99, cel b5 (arrL ((s.hours.toNat) * 80) (flat (bwdR s rs s.hours.toNat))).toArray 99, cel b6 #[.slice (some ⟨b4, 0, none⟩) (s.hours.toNat) (s.hours.toNat)] 92, cel b7 #[.slice p14 (k_ + 1) c15] 22, cel b8 (sS7 s v mb) 77, rowR 3 1 (.slice p14 (k_ + 1) c15) (k_ + 1) ((acc.flatMap encI) ++ (#[iv x11] : Array Value).toList), pt D9 (.deferred (some [])), pt (D9 + 1) (.loop { lr10 with state := .busy })] w := hO
      replace hO : Own w0 none_ [cel b1 (sS8 s v mb qa qn qc) 80, cel b2 #[iv wr] 3, cel b3 #[iv h] 3, cel b4 (arrL ((s.hours.toNat) * 80) (flat (allR s rs s.hours.toNat))).toArray 99, cel b5 (arrL ((s.hours.toNat) * 80) (flat (bwdR s rs s.hours.toNat))).toArray 99, cel b6 #[.slice (some ⟨b4, 0, none⟩) (s.hours.toNat) (s.hours.toNat)] 92, cel b7 #[.slice p14 (k_ + 1) c15] 22, cel b8 (sS7 s v mb) 77, rowR 3 1 (.slice p14 (k_ + 1) c15) (k_ + 1) ((acc ++ [x11]).flatMap encI), pt D9 (.deferred (some [])), pt (D9 + 1) (.loop { lr10 with state := .busy })] w := hO.cast (by rw [List.flatMap_append]; rfl)
      obtain ⟨w, he, hO⟩ := end_round (P := Try.prog) none hO 10 rfl
      refine round_next he ?_
      rw [List.filter_cons_of_pos (p := (fun (c : Int) => decide (allR s rs s.hours.toNat h.toNat c.toNat ≤ wr))) hc12, List.append_cons] at heq
      rw [List.length_cons] at hlen
      rw [hRr]
      exact ⟨_, p14, (k_ + 1), c15, heq, by rw [List.length_append, hkl]; rfl, ⟨by omega, hlen.2⟩, hO.cast (by rw [hlr]; rfl)⟩
    · refine (W_false ((evOp hF (by kernel_rfl)).trans (congrArg Value.bool hc12)) ?_)
      have hc12_ := of_decide_eq_false hc12
      refine (W_skip ?_)
      show roundPost Try.prog (D9 + 1) (fun e w => ∃ b, e = .returned (.bool b) ∧ Rr b w) (Exit.normal) a w
      obtain ⟨w, he, hO⟩ := end_round (P := Try.prog) none hO 10 rfl
      refine round_next he ?_
      rw [List.filter_cons_of_neg (p := (fun (c : Int) => decide (allR s rs s.hours.toNat h.toNat c.toNat ≤ wr))) (by rw [hc12]; simp)] at heq
      rw [List.length_cons] at hlen
      rw [hRr]
      exact ⟨acc, p_, k_, c_, heq, hkl, ⟨by omega, fun y hy => hlen.2 y hy⟩, hO.cast (by rw [hlr]; rfl)⟩
  · exact ⟨[], none, 0, 0, List.nil_append _, rfl, ⟨by have := cellsA_len hv; omega, fun y hy => hy⟩, hO⟩
  clear hO
  rintro e w ⟨he, hJ | hS⟩
  · obtain ⟨acc, p_, k_, c_, heq, hkl, hlen, hO⟩ := hJ
    subst he
    refine ⟨_, rfl, lr10, hO.get 10 rfl, by rw [hlr]; simp [loopR], .inl ⟨by rw [hlr]; rfl, fun a hF => ?_⟩⟩
    replace hO := hO.put 10 rfl (.loop { lr10 with state := .exhausted })
    generalize w.putObj (D9 + 1) (.loop { lr10 with state := .exhausted }) = w at hO ⊢
    replace hO := hO.drop1 10
    rw [List.filter_nil, List.append_nil] at heq
    refine W_seq ?_
    refine W_seq (region_q {} TBok hF (F' := [(6, .slice none 0 0), (7, iv 0), (10, pv b7), (35, .bool ((k_ : Int) == 0))]) (rs := [.ld ⟨b7, 0, none⟩ (.slice p_ k_ c_)]) [6, 7, 10, 35] (.cons (ldo hO.st 6 rfl 0 rfl) <| .nil) (by kernel_rfl) fun a w hF hE => ?_)
    replace hO := hO.ext hE; clear hE
    rcases Bool.eq_false_or_eq_true ((k_ : Int) == 0) with hc16 | hc16
    · refine (W_true ((evOp hF (by kernel_rfl)).trans (congrArg Value.bool hc16)) ?_)
      refine W_seq (region_q {} TBok hF (F' := [(6, .slice none 0 0), (7, iv 12), (10, pv b7)]) (rs := []) [6, 7, 10] .nil (by kernel_rfl) fun a w hF hE => ?_)
      replace hO := hO.ext hE; clear hE
      refine W_ret ?_
      show bodyPostM (FW none) 0 _ _ _ Exit.ret a w
      obtain ⟨w, hs, hO⟩ := shut1 hO 9 rfl
      replace hO : Own w0 none_ [cel b1 (sS8 s v mb qa qn qc) 80, cel b2 #[iv wr] 3, cel b3 #[iv h] 3, cel b4 (arrL ((s.hours.toNat) * 80) (flat (allR s rs s.hours.toNat))).toArray 99, cel b5 (arrL ((s.hours.toNat) * 80) (flat (bwdR s rs s.hours.toNat))).toArray 99, cel b6 #[.slice (some ⟨b4, 0, none⟩) (s.hours.toNat) (s.hours.toNat)] 92, cel b7 #[.slice p_ k_ c_] 22, cel b8 (sS7 s v mb) 77, rowR 3 1 (.slice p_ k_ c_) k_ (acc.flatMap encI), pt D9 (.deferred none)] w := hO
      have hk0 : k_ = 0 := by have := hc16; simpa using this
      have hc0 : canL s rs wr h = [] := by rw [← heq]; exact List.length_eq_zero_iff.1 (by omega)
      exact leave_r TBok hF hs (vs := [.slice none 0 0, iv 12]) (rs := []) .nil (by kernel_rfl) ⟨none, 0, 0, by rw [canR1, hc0]; rfl, by rw [canR1, hc0]; rfl, by rw [canR1, hc0]; exact (hO.nilRd encI 1).sel [10] (by decide)⟩
    · refine (W_false ((evOp hF (by kernel_rfl)).trans (congrArg Value.bool hc16)) ?_)
      refine (W_skip ?_)
      refine W_seq (region_q { md := [(5, 3)] } TBok hF (F' := [(6, .slice p_ k_ k_), (7, iv 0)]) (rs := [.ld ⟨b7, 0, none⟩ (.slice p_ k_ c_), .ld ⟨b7, 0, none⟩ (.slice p_ k_ c_), .ld ⟨b7, 0, none⟩ (.slice p_ k_ c_), .raw (Instr.sliceAt 22 (.slice p_ k_ c_) none (some (iv (k_ : Int))) (some (iv (k_ : Int)))) (.slice p_ k_ k_)]) [6, 7] (.cons (ldo hO.st 6 rfl 0 rfl) <| .cons (ldo hO.st 6 rfl 0 rfl) <| .cons (ldo hO.st 6 rfl 0 rfl) <| .cons (raw_sliceCap rowT22 (row_cap hO 8 rfl).1) <| .nil) (by kernel_rfl) fun a w hF hE => ?_)
      replace hO := hO.ext hE; clear hE
      refine W_ret ?_
      show bodyPostM (FW none) 0 _ _ _ Exit.ret a w
      obtain ⟨w, hs, hO⟩ := shut1 hO 9 rfl
      replace hO : Own w0 none_ [cel b1 (sS8 s v mb qa qn qc) 80, cel b2 #[iv wr] 3, cel b3 #[iv h] 3, cel b4 (arrL ((s.hours.toNat) * 80) (flat (allR s rs s.hours.toNat))).toArray 99, cel b5 (arrL ((s.hours.toNat) * 80) (flat (bwdR s rs s.hours.toNat))).toArray 99, cel b6 #[.slice (some ⟨b4, 0, none⟩) (s.hours.toNat) (s.hours.toNat)] 92, cel b7 #[.slice p_ k_ c_] 22, cel b8 (sS7 s v mb) 77, rowR 3 1 (.slice p_ k_ c_) k_ (acc.flatMap encI), pt D9 (.deferred none)] w := hO
      have hk0 : k_ ≠ 0 := by have := hc16; simpa using this
      have hlr := row_len (enc := encI) hO (fun _ => rfl) (by decide) 8 rfl
      replace hO := hO.row_rd (enc := encI) (fun _ => rfl) (by decide) 8 rfl (by omega)
      have hc1 : canR1 s rs wr h = (canL s rs wr h, 0) := by rw [canR1, ← heq]; cases acc with | nil => simp at hkl; omega | cons => rfl
      exact leave_r TBok hF hs (vs := [.slice p_ k_ k_, iv 0]) (rs := []) .nil (by kernel_rfl) ⟨p_, k_, k_, by rw [hc1, ← heq, ← hkl], by rw [hc1]; rfl, by rw [hc1, ← heq]; exact hO.sel [8] (by decide)⟩
  · exact hS.elim

end Go.Proofs.Ytgihgcclabodbaa.DK
