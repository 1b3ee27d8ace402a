/- Walks: the reference's least, and where it can be. Printed by my gen.py out of shoal/v.py. -/
import Derived.Test.YtgihgcclabodbaaSQ
import Derived.Test.YtgihgcclabodbaaSRf2
namespace Go.Proofs.Ytgihgcclabodbaa.DK
open Go Go.Proofs
set_option linter.unusedVariables false
set_option linter.unusedSimpArgs false

theorem trk_at2 {s : Sea} {rs : List Rp} {k q : Nat} (h : q = k + 1) : (trkS s rs q).1.getD k default = trkC s rs k := by subst h; exact trkS_at s rs (by omega)
theorem trk_cell2 {s : Sea} {rs : List Rp} (hv : seaB s = true) (hr : rpsB s rs = true) (hm : minT s rs < 1048576) {k q : Nat} (hq : q = k) (hk : k < s.hours.toNat) (h0 : 0 < k) : 0 ≤ (trkS s rs q).1.getD ((k : Int) - 1).toNat default ∧ (trkS s rs q).1.getD ((k : Int) - 1).toNat default < nC s := by subst hq; exact trk_cell hv hr hm hk h0
theorem ask_no2 {s : Sea} {wr h : Int} (e : (cond (!(inB wr 0 24)) true (!(inB h 0 (s.hours - 1)))) = true) : askB s wr h = false := by
  unfold askB; cases h1 : inB wr 0 24 <;> cases h2 : inB h 0 (s.hours - 1) <;> rw [h1, h2] at e <;> first | rfl | cases e
theorem ask_yes2 {s : Sea} {wr h : Int} (e : (cond (!(inB wr 0 24)) true (!(inB h 0 (s.hours - 1)))) = false) : askB s wr h = true := by
  unfold askB; cases h1 : inB wr 0 24 <;> cases h2 : inB h 0 (s.hours - 1) <;> rw [h1, h2] at e <;> first | rfl | cases e
theorem ahe_bd2 {s : Sea} {rs : List Rp} (hv : seaB s = true) (hr : rpsB s rs = true) {h c : Nat} (hh : h < s.hours.toNat) (hc : c < (nC s).toNat) : 0 ≤ (aheX s rs s.hours.toNat h).getD c default ∧ (aheX s rs s.hours.toNat h).getD c default ≤ 1000 ∧ 0 ≤ (behX s rs s.hours.toNat h).getD c default ∧ (behX s rs s.hours.toNat h).getD c default ≤ 1000 := by
  rw [aheX_at hh, behX_at hh, rowL_at hc, rowL_at hc]
  have h1 := aheG_bd hv hr (h := h) c; have h2 := behG_bd hv hr hh c
  omega
set_option maxHeartbeats 4000000 in
set_option maxRecDepth 100000 in
theorem refLeast_calls (s : Sea) (v : SV) (rs : List Rp) (p : Option Addr) (n c : Nat) (w0 : World) (hs : SeaR w0.heap.size w0 v s) (hx : Rd encRp 4 w0.heap.size w0 p n rs) :
    Calls Try.prog 21 #[.agg (sS6 s v), .slice p n c] w0 (fun e w' => ∃ p n c_, (leastR s rs).2.1.length = n ∧ e = .returned (.tuple #[iv (leastR s rs).1, .slice p n c_, iv (leastR s rs).2.2]) ∧ Own w0 none_ [rdR encI 1 p n (leastR s rs).2.1] w') := by
  have hl1 := hs.land.len; have hl2 := hs.drift.len; have hs1 := hs.land.size; have hs2 := hs.drift.size; have hr_ := hs.rg; unfold i64 at hr_; have hl3 := hx.len; have hs3 := hx.size
  refine calls_of_W Try.func21 rfl (by kernel_rfl) (args := [.agg (sS6 s v), .slice p n c]) fun a hF => ?_
  replace hF : Fr 95 [] [(0, .agg (sS6 s v)), (1, .slice p n c)] a := hF
  have hO : Own w0 none_ [] w0 := Own.start w0 _
  refine W_seq (region_seq ?_)
  refine op_box (i := 0) (t := 25) (v := .agg (sS6 s v)) (d := 2) hF hO (by kernel_rfl) fun a w b1 hF hO _ => ?_
  refine seq_quiet {} TBok hF (F' := [(1, .slice p n c), (2, pv b1), (4, iv 0), (5, .slice none 0 0), (6, iv 0)]) (rs := []) [1, 2, 3] [] [1, 2, 4, 5, 6] .nil (by kernel_rfl) fun a w hF hE => ?_
  replace hO := hO.ext hE; clear hE
  refine W_seq ?_
  refine W_seq (region_q {} TBok hF (F' := [(1, .slice p n c), (2, pv b1), (4, iv 0), (5, .slice none 0 0), (6, iv 0), (7, iv (err s rs))]) (rs := [.lds ⟨b1, 0, none⟩ (sL6 s v), .call 53 #[.agg (sS6 s v), .slice p n c] (iv (err s rs))]) [1, 2, 4, 5, 6, 7] (.cons (ldso hO.st 0 rfl 0 rfl) <| .cons (fun w hE => Asked_calls s v rs p n c w (hs.upM (hO.st w hE).kp nom (Nat.le_refl _)) (hx.upM (hO.st w hE).kp nom (Nat.le_refl _))) <| .nil) (by kernel_rfl) fun a w hF hE => ?_)
  replace hO := hO.ext hE; clear hE
  refine W_seq (region_q {} TBok hF (F' := [(1, .slice p n c), (2, pv b1), (4, iv 0), (5, .slice none 0 0), (6, iv 0), (7, iv (err s rs)), (19, .bool ((err s rs) != 0))]) (rs := []) [1, 2, 4, 5, 6, 7, 19] .nil (by kernel_rfl) fun a w hF hE => ?_)
  replace hO := hO.ext hE; clear hE
  rcases Bool.eq_false_or_eq_true ((err s rs) != 0) with hc2 | hc2
  · refine (W_true ((evOp hF (by kernel_rfl)).trans (congrArg Value.bool hc2)) ?_)
    have her : err s rs ≠ 0 := by simpa using (by assumption : ((err s rs) != 0) = true)
    refine W_seq (region_q {} TBok hF (F' := [(1, .slice p n c), (2, pv b1), (4, iv 0), (5, .slice none 0 0), (6, iv (err s rs))]) (rs := []) [1, 2, 4, 5, 6] .nil (by kernel_rfl) fun a w hF hE => ?_)
    replace hO := hO.ext hE; clear hE
    refine W_ret ?_
    show bodyPostM (FW none) 0 _ _ _ Exit.ret a w
    have hres : leastR s rs = (0, [], err s rs) := by unfold leastR; rw [if_pos her]
    exact leave_r TBok hF (.nil _) (vs := [iv 0, .slice none 0 0, iv (err s rs)]) (rs := []) .nil (by kernel_rfl) ⟨none, 0, 0, by rw [hres]; rfl, by rw [hres]; rfl, by rw [hres]; exact (hO.nilRd encI 1).sel [1] (by decide)⟩
  · refine (W_false ((evOp hF (by kernel_rfl)).trans (congrArg Value.bool hc2)) ?_)
    have her : err s rs = 0 := by simpa using (by assumption : ((err s rs) != 0) = false)
    obtain ⟨hv, hr⟩ := err_0 her
    have hv1 := sea_ok hv; have hrp := rp_ok hr; have hrl := rqs_len (s := s) (rs := rs)
    refine (W_skip ?_)
    refine W_seq (region_seq ?_)
    refine seq_quiet {} TBok hF (F' := [(1, .slice p n c), (2, pv b1), (4, iv 0), (5, .slice none 0 0), (6, iv 0), (21, .agg (sS6 s v)), (22, .slice p n c)]) (rs := [.lds ⟨b1, 0, none⟩ (sL6 s v)]) [0, 1] [2, 3] [1, 2, 4, 5, 6, 21, 22] (.cons (ldso hO.st 0 rfl 0 rfl) <| .nil) (by kernel_rfl) fun a w hF hE => ?_
    replace hO := hO.ext hE; clear hE
    refine op_call (i := 2) (f := 60) (args := #[.agg (sS6 s v), .slice p n c]) (d := some 23) TBok (by kernel_rfl) hF (by kernel_rfl) (behind_calls s v rs p n c _ (hs.upM hO.kp nom (Nat.le_refl _)) hv (hx.upM hO.kp nom (Nat.le_refl _)) hr) fun e w hR => ?_
    obtain ⟨b3, A4, he, hO2⟩ := hR
    refine ⟨_, he, fun a hF => ?_⟩
    replace hO := hO.joinE hO2; clear hO2 he
    refine seq_quiet {} TBok hF (F' := [(1, .slice p n c), (2, pv b1), (4, iv 0), (5, .slice none 0 0), (6, iv 0), (8, .slice (some ⟨b3, 0, none⟩) (s.hours.toNat) (s.hours.toNat))]) (rs := []) [3] [] [1, 2, 4, 5, 6, 8] .nil (by kernel_rfl) fun a w hF hE => ?_
    replace hO := hO.ext hE; clear hE
    refine W_seq (region_q {} TBok hF (F' := [(1, .slice p n c), (2, pv b1), (4, iv 0), (5, .slice none 0 0), (6, iv 0), (8, .slice (some ⟨b3, 0, none⟩) (s.hours.toNat) (s.hours.toNat)), (9, iv 1000)]) (rs := []) [1, 2, 4, 5, 6, 8, 9] .nil (by kernel_rfl) fun a w hF hE => ?_)
    replace hO := hO.ext hE; clear hE
    refine W_seq ?_
    refine W_seq (region_q {} TBok hF (F' := [(1, .slice p n c), (2, pv b1), (4, iv 0), (5, .slice none 0 0), (6, iv 0), (8, .slice (some ⟨b3, 0, none⟩) (s.hours.toNat) (s.hours.toNat)), (9, iv 1000), (10, iv 0)]) (rs := []) [1, 2, 4, 5, 6, 8, 9, 10] .nil (by kernel_rfl) fun a w hF hE => ?_)
    replace hO := hO.ext hE; clear hE
    refine (W_block ?_)
    have hln0 : (A4 0).2.1 = (nC s).toNat := (by have h_ := (rdS hO 2 rfl (h := 0) (by omega)).len; rw [behX_at (by omega), rowL_len] at h_; exact h_.symm)
    refine (W_loop (fun m a w => ∃ (c_ : Nat), m = (nC s).toNat - c_ ∧ c_ ≤ (nC s).toNat ∧ Fr 95 [] [(1, .slice p n c), (2, pv b1), (4, iv 0), (5, .slice none 0 0), (6, iv 0), (8, .slice (some ⟨b3, 0, none⟩) (s.hours.toNat) (s.hours.toNat)), (9, iv (lstF (behG s rs 0) c_)), (10, iv (c_ : Int))] a ∧ Own w0 none_ [cel b1 (sS6 s v) 25, cel b3 (cellsS (s.hours.toNat) A4).toArray 22, rwsR encI 1 (s.hours.toNat) A4 (behX s rs s.hours.toNat)] w) _ ⟨0, rfl, Nat.zero_le _, hF, hO⟩ ?_)
    clear hF hO
    rintro _ a w ⟨c_, rfl, hc_, hF, hO⟩
    refine W_seq ?_
    refine W_seq (region_q {} TBok hF (F' := [(1, .slice p n c), (2, pv b1), (4, iv 0), (5, .slice none 0 0), (6, iv 0), (8, .slice (some ⟨b3, 0, none⟩) (s.hours.toNat) (s.hours.toNat)), (9, iv (lstF (behG s rs 0) c_)), (10, iv (c_ : Int)), (29, .bool (decide ((c_ : Int) < ((A4 0).2.1 : Int))))]) (rs := [.idx (some ⟨b3, 0, none⟩) (s.hours.toNat) 0 1 ((⟨b3, 0, none⟩ : Addr).add ((0 : Int).toNat * 1)), .ld ((⟨b3, 0, none⟩ : Addr).add ((0 : Int).toNat * 1)) (.slice ((A4 0).1) ((A4 0).2.1) ((A4 0).2.2))]) [1, 2, 4, 5, 6, 8, 9, 10, 29] (.cons (ixa (by omega) (by omega)) <| .cons (ldS (A := A4) (h := 0) hO.st 1 rfl (by omega) (by omega)) <| .nil) (by kernel_rfl) fun a w hF hE => ?_)
    replace hO := hO.ext hE; clear hE
    rcases Bool.eq_false_or_eq_true (decide ((c_ : Int) < ((A4 0).2.1 : Int))) with hc5 | hc5
    · refine (W_true ((evOp hF (by kernel_rfl)).trans (congrArg Value.bool hc5)) ?_)
      have hc5_ := of_decide_eq_true hc5
      refine (W_skip ?_)
      refine W_seq (W_block ?_)
      refine (region_q { md := [(7, 3)] } TBok hF (F' := [(1, .slice p n c), (2, pv b1), (4, iv 0), (5, .slice none 0 0), (6, iv 0), (8, .slice (some ⟨b3, 0, none⟩) (s.hours.toNat) (s.hours.toNat)), (9, iv (mn (lstF (behG s rs 0) c_) (((behX s rs s.hours.toNat) 0).getD c_ default))), (10, iv (c_ : Int))]) (rs := [.idx (some ⟨b3, 0, none⟩) (s.hours.toNat) 0 1 ((⟨b3, 0, none⟩ : Addr).add ((0 : Int).toNat * 1)), .ld ((⟨b3, 0, none⟩ : Addr).add ((0 : Int).toNat * 1)) (.slice ((A4 0).1) ((A4 0).2.1) ((A4 0).2.2)), .idx ((A4 0).1) ((A4 0).2.1) (c_ : Int) 1 (adr ((A4 0).1) 1 (c_ : Int)), .ld (adr ((A4 0).1) 1 (c_ : Int)) (iv (((behX s rs s.hours.toNat) 0).getD c_ default)), .raw (Builtin.min_ #[3, 3] 3 #[iv (lstF (behG s rs 0) c_), iv (((behX s rs s.hours.toNat) 0).getD c_ default)]) (iv (mn (lstF (behG s rs 0) c_) (((behX s rs s.hours.toNat) 0).getD c_ default)))]) [1, 2, 4, 5, 6, 8, 9, 10] (.cons (ixa (by omega) (by omega)) <| .cons (ldS (A := A4) (h := 0) hO.st 1 rfl (by omega) (by omega)) <| .cons (ix (enc := encI) (xs := ((behX s rs s.hours.toNat) 0)) ((rdS hO 2 rfl (h := 0) (by omega))) (by omega) (by omega)) <| .cons (ldR (enc := encI) (xs := ((behX s rs s.hours.toNat) 0)) (a := (A4 0).1) (i := (c_ : Int)) (fun x_ hx_ => (rdS (hO.st x_ hx_) 2 rfl (h := 0) (by omega))) (by omega) (by omega) 0 rfl) <| .cons raw_min2 <| .nil) (by kernel_rfl) fun a w hF hE => ?_)
      replace hO := hO.ext hE; clear hE
      refine (region_q {} TBok hF (F' := [(1, .slice p n c), (2, pv b1), (4, iv 0), (5, .slice none 0 0), (6, iv 0), (8, .slice (some ⟨b3, 0, none⟩) (s.hours.toNat) (s.hours.toNat)), (9, iv (mn (lstF (behG s rs 0) c_) (((behX s rs s.hours.toNat) 0).getD c_ default))), (10, iv ((c_ : Int) + 1))]) (rs := [.rng ((c_ : Int) + 1)]) [1, 2, 4, 5, 6, 8, 9, 10] (.cons (rg (by omega)) <| .nil) (by kernel_rfl) fun a w hF hE => ?_)
      replace hO := hO.ext hE; clear hE
      exact ⟨_, by omega, c_ + 1, rfl, by omega, hF.cast (by rw [behX_at (by omega), rowL_at (by omega)] <;> rfl), hO⟩
    · refine (W_false ((evOp hF (by kernel_rfl)).trans (congrArg Value.bool hc5)) ?_)
      have hc5_ := of_decide_eq_false hc5
      refine (W_exit ?_)
      refine W_seq ?_
      refine W_seq (region_q {} TBok hF (F' := [(1, .slice p n c), (2, pv b1), (4, iv 0), (5, .slice none 0 0), (6, iv 0), (8, .slice (some ⟨b3, 0, none⟩) (s.hours.toNat) (s.hours.toNat)), (9, iv (lstF (behG s rs 0) c_)), (41, .bool ((lstF (behG s rs 0) c_) == 1000))]) (rs := []) [1, 2, 4, 5, 6, 8, 9, 41] .nil (by kernel_rfl) fun a w hF hE => ?_)
      replace hO := hO.ext hE; clear hE
      rcases Bool.eq_false_or_eq_true ((lstF (behG s rs 0) c_) == 1000) with hc6 | hc6
      · refine (W_true ((evOp hF (by kernel_rfl)).trans (congrArg Value.bool hc6)) ?_)
        have hcc : c_ = (nC s).toNat := by omega
        have hlm := lst_min hv hr
        rw [← hcc] at hlm
        have hmb := minT_bd hv hr
        have hl9 : (lstF (behG s rs 0) c_) = 1000 := by have h_ := (by assumption : ((lstF (behG s rs 0) c_) == 1000) = true); simpa using h_
        have hmt : minT s rs ≥ 1048576 := by rw [hl9] at hlm; split at hlm; have h24 := minT_24 hv hr (by assumption); omega; omega
        refine W_seq (region_q {} TBok hF (F' := [(1, .slice p n c), (2, pv b1), (4, iv 0), (5, .slice none 0 0), (6, iv 4), (8, .slice (some ⟨b3, 0, none⟩) (s.hours.toNat) (s.hours.toNat)), (9, iv (lstF (behG s rs 0) c_))]) (rs := []) [1, 2, 4, 5, 6, 8, 9] .nil (by kernel_rfl) fun a w hF hE => ?_)
        replace hO := hO.ext hE; clear hE
        refine W_ret ?_
        show bodyPostM (FW none) 0 _ _ _ Exit.ret a w
        have hres : leastR s rs = (0, [], 4) := by unfold leastR; rw [if_neg (by omega), if_pos hmt]
        exact leave_r TBok hF (.nil _) (vs := [iv 0, .slice none 0 0, iv 4]) (rs := []) .nil (by kernel_rfl) ⟨none, 0, 0, by rw [hres]; rfl, by rw [hres]; rfl, by rw [hres]; exact (hO.nilRd encI 1).sel [3] (by decide)⟩
      · refine (W_false ((evOp hF (by kernel_rfl)).trans (congrArg Value.bool hc6)) ?_)
        have hcc : c_ = (nC s).toNat := by omega
        have hlm := lst_min hv hr
        rw [← hcc] at hlm
        have hmb := minT_bd hv hr
        have hl9 : (lstF (behG s rs 0) c_) ≠ 1000 := by have h_ := (by assumption : ((lstF (behG s rs 0) c_) == 1000) = false); simpa using h_
        have hm : minT s rs < 1048576 := by rcases Int.lt_or_le (minT s rs) 1048576 with h_ | h_; exact h_; rw [if_neg (by omega)] at hlm; exact absurd hlm hl9
        rw [if_pos hm] at hlm
        have hmt : ¬ minT s rs ≥ 1048576 := by omega
        have hm24 := minT_24 hv hr hm
        refine (W_skip ?_)
        refine W_seq (region_q {} TBok hF (F' := [(1, .slice p n c), (2, pv b1), (4, iv 0), (5, .slice none 0 0), (6, iv 0), (8, .slice (some ⟨b3, 0, none⟩) (s.hours.toNat) (s.hours.toNat)), (9, iv (lstF (behG s rs 0) c_)), (11, .slice none 0 0)]) (rs := []) [1, 2, 4, 5, 6, 8, 9, 11] .nil (by kernel_rfl) fun a w hF hE => ?_)
        replace hO := hO.ext hE; clear hE
        refine W_seq (region_q {} TBok hF (F' := [(1, .slice p n c), (2, pv b1), (4, iv 0), (5, .slice none 0 0), (6, iv 0), (8, .slice (some ⟨b3, 0, none⟩) (s.hours.toNat) (s.hours.toNat)), (9, iv (lstF (behG s rs 0) c_)), (11, .slice none 0 0), (12, iv (lstF (behG s rs 0) c_))]) (rs := []) [1, 2, 4, 5, 6, 8, 9, 11, 12] .nil (by kernel_rfl) fun a w hF hE => ?_)
        replace hO := hO.ext hE; clear hE
        refine W_seq ?_
        refine W_seq (region_q {} TBok hF (F' := [(1, .slice p n c), (2, pv b1), (4, iv 0), (5, .slice none 0 0), (6, iv 0), (8, .slice (some ⟨b3, 0, none⟩) (s.hours.toNat) (s.hours.toNat)), (9, iv (lstF (behG s rs 0) c_)), (11, .slice none 0 0), (12, iv (lstF (behG s rs 0) c_)), (13, iv 0)]) (rs := []) [1, 2, 4, 5, 6, 8, 9, 11, 12, 13] .nil (by kernel_rfl) fun a w hF hE => ?_)
        replace hO := hO.ext hE; clear hE
        refine (W_block ?_)
        replace hO := hO.nilRow 3 1
        refine (W_loop (fun m a w => ∃ (k : Nat), ∃ (p_ : Option Addr), ∃ (cc_ : Nat), m = s.hours.toNat - k ∧ k ≤ s.hours.toNat ∧ Fr 95 [] [(1, .slice p n c), (2, pv b1), (4, iv 0), (5, .slice none 0 0), (6, iv 0), (8, .slice (some ⟨b3, 0, none⟩) (s.hours.toNat) (s.hours.toNat)), (9, iv (lstF (behG s rs 0) c_)), (11, .slice p_ k cc_), (12, iv ((trkS s rs k).2)), (13, iv (k : Int))] a ∧ Own w0 none_ [cel b1 (sS6 s v) 25, cel b3 (cellsS (s.hours.toNat) A4).toArray 22, rwsR encI 1 (s.hours.toNat) A4 (behX s rs s.hours.toNat), rowR 3 1 (.slice p_ k cc_) k ((trkS s rs k).1.flatMap encI)] w) _ ⟨0, none, 0, rfl, Nat.zero_le _, (hF.cast (by rw [hlm] <;> rfl)), hO⟩ ?_)
        clear hF hO
        rintro _ a w ⟨k, p_, cc_, rfl, hk, hF, hO⟩
        have htl := fun h_ => trk_bd hv hr hm (k := k) h_
        refine W_seq ?_
        refine W_seq (region_q {} TBok hF (F' := [(1, .slice p n c), (2, pv b1), (4, iv 0), (5, .slice none 0 0), (6, iv 0), (8, .slice (some ⟨b3, 0, none⟩) (s.hours.toNat) (s.hours.toNat)), (9, iv (lstF (behG s rs 0) c_)), (11, .slice p_ k cc_), (12, iv ((trkS s rs k).2)), (13, iv (k : Int)), (46, .bool (decide ((k : Int) < s.hours)))]) (rs := [.ld ⟨b1, 3, none⟩ (iv s.hours)]) [1, 2, 4, 5, 6, 8, 9, 11, 12, 13, 46] (.cons (ldo hO.st 0 rfl 3 rfl) <| .nil) (by kernel_rfl) fun a w hF hE => ?_)
        replace hO := hO.ext hE; clear hE
        rcases Bool.eq_false_or_eq_true (decide ((k : Int) < s.hours)) with hc7 | hc7
        · refine (W_true ((evOp hF (by kernel_rfl)).trans (congrArg Value.bool hc7)) ?_)
          have hc7_ := of_decide_eq_true hc7
          refine (W_skip ?_)
          refine W_seq (W_block ?_)
          refine W_seq ?_
          refine W_seq (region_q {} TBok hF (F' := [(1, .slice p n c), (2, pv b1), (4, iv 0), (5, .slice none 0 0), (6, iv 0), (8, .slice (some ⟨b3, 0, none⟩) (s.hours.toNat) (s.hours.toNat)), (9, iv (lstF (behG s rs 0) c_)), (11, .slice p_ k cc_), (12, iv ((trkS s rs k).2)), (13, iv (k : Int)), (14, iv 0)]) (rs := []) [1, 2, 4, 5, 6, 8, 9, 11, 12, 13, 14] .nil (by kernel_rfl) fun a w hF hE => ?_)
          replace hO := hO.ext hE; clear hE
          refine (W_block ?_)
          have htc := mem_cellsA ((trk_ok hv hr hm).1.1 k (by omega) (by omega))
          refine (W_loop (fun m a w => ∃ (q_ : Nat), ∃ (q2 : Nat), ∃ (p2_ : Option Addr), ∃ (c3_ : Nat), m = (k + 1 - q_) * (200 - q2) ∧ ((q_ = k ∧ (q2 : Int) ≤ trkC s rs k) ∨ q_ = k + 1) ∧ q2 ≤ 100 ∧ Fr 95 [] [(1, .slice p n c), (2, pv b1), (4, iv 0), (5, .slice none 0 0), (6, iv 0), (8, .slice (some ⟨b3, 0, none⟩) (s.hours.toNat) (s.hours.toNat)), (9, iv (lstF (behG s rs 0) c_)), (11, .slice p2_ q_ c3_), (12, iv ((trkS s rs k).2)), (13, iv (k : Int)), (14, iv (q2 : Int))] a ∧ Own w0 none_ [cel b1 (sS6 s v) 25, cel b3 (cellsS (s.hours.toNat) A4).toArray 22, rwsR encI 1 (s.hours.toNat) A4 (behX s rs s.hours.toNat), rowR 3 1 (.slice p2_ q_ c3_) q_ ((trkS s rs q_).1.flatMap encI)] w) _ ⟨k, 0, p_, cc_, rfl, .inl ⟨rfl, by omega⟩, Nat.zero_le _, hF, hO⟩ ?_)
          clear hF hO
          rintro _ a w ⟨q_, q2, p2_, c3_, rfl, hq, hq2, hF, hO⟩
          have hlk := trkS_len s rs q_
          refine W_seq ?_
          refine W_seq (region_q {} TBok hF (F' := [(1, .slice p n c), (2, pv b1), (4, iv 0), (5, .slice none 0 0), (6, iv 0), (8, .slice (some ⟨b3, 0, none⟩) (s.hours.toNat) (s.hours.toNat)), (9, iv (lstF (behG s rs 0) c_)), (11, .slice p2_ q_ c3_), (12, iv ((trkS s rs k).2)), (13, iv (k : Int)), (14, iv (q2 : Int)), (52, .bool ((q_ : Int) == (k : Int)))]) (rs := []) [1, 2, 4, 5, 6, 8, 9, 11, 12, 13, 14, 52] .nil (by kernel_rfl) fun a w hF hE => ?_)
          replace hO := hO.ext hE; clear hE
          rcases Bool.eq_false_or_eq_true ((q_ : Int) == (k : Int)) with hc8 | hc8
          · refine (W_true ((evOp hF (by kernel_rfl)).trans (congrArg Value.bool hc8)) ?_)
            have hqk : q_ = k := by have h_ := (by assumption : ((q_ : Int) == (k : Int)) = true); simp at h_; omega
            have hqc : (q2 : Int) ≤ trkC s rs k := by omega
            refine (W_skip ?_)
            refine W_seq (W_block ?_)
            refine W_seq (region_d { sy := [9, 12] } mixed TBok hF (F' := [(1, .slice p n c), (2, pv b1), (4, iv 0), (5, .slice none 0 0), (6, iv 0), (8, .slice (some ⟨b3, 0, none⟩) (s.hours.toNat) (s.hours.toNat)), (9, iv (lstF (behG s rs 0) c_)), (11, .slice p2_ q_ c3_), (12, iv ((trkS s rs k).2)), (13, iv (k : Int)), (14, iv (q2 : Int)), (79, .bool (cond ((((behX s rs s.hours.toNat) k).getD q2 default) == (trkS s rs k).2) (cond ((k : Int) == 0) true (stepP s ((k : Int) - 1) (pl s ((trkS s rs q_).1.getD ((k : Int) - 1).toNat default)) (pl s (q2 : Int)))) false))]) (rs := [.idx (some ⟨b3, 0, none⟩) (s.hours.toNat) (k : Int) 1 ((⟨b3, 0, none⟩ : Addr).add ((k : Int).toNat * 1)), .ld ((⟨b3, 0, none⟩ : Addr).add ((k : Int).toNat * 1)) (.slice ((A4 k).1) ((A4 k).2.1) ((A4 k).2.2)), .idx ((A4 k).1) ((A4 k).2.1) (q2 : Int) 1 (adr ((A4 k).1) 1 (q2 : Int)), .ld (adr ((A4 k).1) 1 (q2 : Int)) (iv (((behX s rs s.hours.toNat) k).getD q2 default)), .und (((((behX s rs s.hours.toNat) k).getD q2 default) == (trkS s rs k).2) && (!((k : Int) == 0))) (.lds ⟨b1, 0, none⟩ (sL6 s v)), .und (((((behX s rs s.hours.toNat) k).getD q2 default) == (trkS s rs k).2) && (!((k : Int) == 0))) (.rng ((k : Int) - 1)), .und (((((behX s rs s.hours.toNat) k).getD q2 default) == (trkS s rs k).2) && (!((k : Int) == 0))) (.rng ((k : Int) - 1)), .und (((((behX s rs s.hours.toNat) k).getD q2 default) == (trkS s rs k).2) && (!((k : Int) == 0))) (.idx p2_ q_ ((k : Int) - 1) 1 (adr p2_ 1 ((k : Int) - 1))), .und (((((behX s rs s.hours.toNat) k).getD q2 default) == (trkS s rs k).2) && (!((k : Int) == 0))) (.ld (adr p2_ 1 ((k : Int) - 1)) (iv ((trkS s rs q_).1.getD ((k : Int) - 1).toNat default))), .und (((((behX s rs s.hours.toNat) k).getD q2 default) == (trkS s rs k).2) && (!((k : Int) == 0))) (.call 55 #[.agg (sS6 s v), iv ((k : Int) - 1), iv ((trkS s rs q_).1.getD ((k : Int) - 1).toNat default), iv (q2 : Int)] (.bool (stepP s ((k : Int) - 1) (pl s ((trkS s rs q_).1.getD ((k : Int) - 1).toNat default)) (pl s (q2 : Int)))))]) [1, 2, 4, 5, 6, 8, 9, 11, 12, 13, 14, 79] (.cons (ixa (by omega) (by omega)) <| .cons (ldS (A := A4) (h := (k : Int)) hO.st 1 rfl (by omega) (by omega)) <| .cons (ix (enc := encI) (xs := ((behX s rs s.hours.toNat) k)) ((rdS hO 2 rfl (h := k) (by omega))) (by omega) (by have h_ := (rdS hO 2 rfl (h := k) (by omega)).len; rw [behX_at (by omega), rowL_len] at h_; omega)) <| .cons (ldR (enc := encI) (xs := ((behX s rs s.hours.toNat) k)) (a := (A4 k).1) (i := (q2 : Int)) (fun x_ hx_ => (rdS (hO.st x_ hx_) 2 rfl (h := k) (by omega))) (by omega) (by have h_ := (rdS hO 2 rfl (h := k) (by omega)).len; rw [behX_at (by omega), rowL_len] at h_; omega) 0 rfl) <| .cons (fun hg => (ldso hO.st 0 rfl 0 rfl)) <| .cons (fun hg_ => by have h0_ : 0 < k := (by have h_ := hg_; simp at h_; omega); have hpc_ := trk_cell2 hv hr hm (k := k) hqk (by omega) h0_; exact (rg (by omega))) <| .cons (fun hg_ => by have h0_ : 0 < k := (by have h_ := hg_; simp at h_; omega); have hpc_ := trk_cell2 hv hr hm (k := k) hqk (by omega) h0_; exact (rg (by omega))) <| .cons (fun hg_ => by have h0_ : 0 < k := (by have h_ := hg_; simp at h_; omega); have hpc_ := trk_cell2 hv hr hm (k := k) hqk (by omega) h0_; exact (ix (enc := encI) (xs := (trkS s rs q_).1) ((rd_row (fun _ => rfl) (by decide) hO 3 rfl (by omega))) (by omega) (by omega))) <| .cons (fun hg_ => by have h0_ : 0 < k := (by have h_ := hg_; simp at h_; omega); have hpc_ := trk_cell2 hv hr hm (k := k) hqk (by omega) h0_; exact (ldR (enc := encI) (xs := (trkS s rs q_).1) (a := p2_) (i := ((k : Int) - 1)) (fun x_ hx_ => (rd_row (fun _ => rfl) (by decide) (hO.st x_ hx_) 3 rfl (by omega))) (by omega) (by omega) 0 rfl)) <| .cons (fun hg_ => by have h0_ : 0 < k := (by have h_ := hg_; simp at h_; omega); have hpc_ := trk_cell2 hv hr hm (k := k) hqk (by omega) h0_; exact (fun w hE => step_calls s v ((k : Int) - 1) ((trkS s rs q_).1.getD ((k : Int) - 1).toNat default) (q2 : Int) w (hs.upM (hO.st w hE).kp nom (Nat.le_refl _)) hv (by omega) (by omega) (by omega))) <| .nil) (by kernel_rfl) (by kernel_rfl) fun a w hF hE => ?_)
            replace hO := hO.ext hE; clear hE
            rcases Bool.eq_false_or_eq_true (cond ((((behX s rs s.hours.toNat) k).getD q2 default) == (trkS s rs k).2) (cond ((k : Int) == 0) true (stepP s ((k : Int) - 1) (pl s ((trkS s rs q_).1.getD ((k : Int) - 1).toNat default)) (pl s (q2 : Int)))) false) with hc9 | hc9
            · refine (W_true ((evOp hF (by kernel_rfl)).trans (congrArg Value.bool hc9)) ?_)
              refine (region_seq ?_)
              refine seq_quiet {} TBok hF (F' := [(1, .slice p n c), (2, pv b1), (4, iv 0), (5, .slice none 0 0), (6, iv 0), (8, .slice (some ⟨b3, 0, none⟩) (s.hours.toNat) (s.hours.toNat)), (9, iv (lstF (behG s rs 0) c_)), (11, .slice p2_ q_ c3_), (12, iv ((trkS s rs k).2)), (13, iv (k : Int)), (14, iv (q2 : Int)), (80, .slice p2_ q_ c3_), (81, iv (q2 : Int))]) (rs := []) [0, 1] [2, 3] [1, 2, 4, 5, 6, 8, 9, 11, 12, 13, 14, 80, 81] .nil (by kernel_rfl) fun a w hF hE => ?_
              replace hO := hO.ext hE; clear hE
              have hpl12 : q_ ≤ 1000000 := (by omega)
              refine op_call (i := 2) (f := 61) (args := #[.slice p2_ q_ c3_, iv (q2 : Int)]) (d := some 82) TBok (by kernel_rfl) hF (by kernel_rfl) (Plus_calls ((trkS s rs q_).1) p2_ q_ c3_ (q2 : Int) _ (rd_row (fun _ => rfl) (by decide) hO 3 rfl (by omega)) hpl12) fun e w hR => ?_
              obtain ⟨p10, c11, he, hO2⟩ := hR
              refine ⟨_, he, fun a hF => ?_⟩
              replace hO := hO.joinE hO2; clear hO2 he
              replace hO : Own w0 none_ [cel b1 (sS6 s v) 25, cel b3 (cellsS (s.hours.toNat) A4).toArray 22, rwsR encI 1 (s.hours.toNat) A4 (behX s rs s.hours.toNat), rowR 3 1 (.slice p2_ q_ c3_) q_ ((trkS s rs q_).1.flatMap encI), rowR 3 1 (.slice p10 (q_ + 1) c11) (q_ + 1) (((trkS s rs q_).1 ++ [(q2 : Int)]).flatMap encI)] w := hO
              refine seq_quiet {} TBok hF (F' := [(1, .slice p n c), (2, pv b1), (4, iv 0), (5, .slice none 0 0), (6, iv 0), (8, .slice (some ⟨b3, 0, none⟩) (s.hours.toNat) (s.hours.toNat)), (9, iv (lstF (behG s rs 0) c_)), (11, .slice p10 (q_ + 1) c11), (12, iv ((trkS s rs k).2)), (13, iv (k : Int)), (14, iv (q2 : Int))]) (rs := []) [3] [] [1, 2, 4, 5, 6, 8, 9, 11, 12, 13, 14] .nil (by kernel_rfl) fun a w hF hE => ?_
              replace hO := hO.ext hE; clear hE
              refine (region_q {} TBok hF (F' := [(1, .slice p n c), (2, pv b1), (4, iv 0), (5, .slice none 0 0), (6, iv 0), (8, .slice (some ⟨b3, 0, none⟩) (s.hours.toNat) (s.hours.toNat)), (9, iv (lstF (behG s rs 0) c_)), (11, .slice p10 (q_ + 1) c11), (12, iv ((trkS s rs k).2)), (13, iv (k : Int)), (14, iv ((q2 : Int) + 1))]) (rs := [.rng ((q2 : Int) + 1)]) [1, 2, 4, 5, 6, 8, 9, 11, 12, 13, 14] (.cons (rg (by omega)) <| .nil) (by kernel_rfl) fun a w hF hE => ?_)
              replace hO := hO.ext hE; clear hE
              have hrf : rfit s rs k q2 ((trkS s rs k).1.getD ((k : Int) - 1).toNat default) (trkS s rs k).2 = true := by have h_ := hc9; rw [behX_at (by omega), rowL_at (by omega), hqk] at h_; exact h_
              have hce : (q2 : Int) = trkC s rs k := by rcases Int.lt_or_le (q2 : Int) (trkC s rs k) with h_ | h_; rw [trk_lt hv hr hm (by omega) h_] at hrf; cases hrf; omega
              replace hO : Own w0 none_ [cel b1 (sS6 s v) 25, cel b3 (cellsS (s.hours.toNat) A4).toArray 22, rwsR encI 1 (s.hours.toNat) A4 (behX s rs s.hours.toNat), rowR 3 1 (.slice p2_ q_ c3_) q_ ((trkS s rs q_).1.flatMap encI), rowR 3 1 (.slice p10 (k + 1) c11) (k + 1) ((trkS s rs (k + 1)).1.flatMap encI)] w := hO.cast (by rw [hqk, trkS_succ, ← hce])
              replace hO := hO.sel [0, 1, 2, 4] (by decide)
              exact ⟨_, by rw [hqk, show k + 1 - (k + 1) = 0 by omega, show k + 1 - k = 1 by omega]; omega, k + 1, q2 + 1, p10, c11, rfl, .inr rfl, by omega, hF.cast (by rw [hqk] <;> rfl), hO⟩
            · refine (W_false ((evOp hF (by kernel_rfl)).trans (congrArg Value.bool hc9)) ?_)
              refine (W_skip ?_)
              refine (region_q {} TBok hF (F' := [(1, .slice p n c), (2, pv b1), (4, iv 0), (5, .slice none 0 0), (6, iv 0), (8, .slice (some ⟨b3, 0, none⟩) (s.hours.toNat) (s.hours.toNat)), (9, iv (lstF (behG s rs 0) c_)), (11, .slice p2_ q_ c3_), (12, iv ((trkS s rs k).2)), (13, iv (k : Int)), (14, iv ((q2 : Int) + 1))]) (rs := [.rng ((q2 : Int) + 1)]) [1, 2, 4, 5, 6, 8, 9, 11, 12, 13, 14] (.cons (rg (by omega)) <| .nil) (by kernel_rfl) fun a w hF hE => ?_)
              replace hO := hO.ext hE; clear hE
              have hrf : rfit s rs k q2 ((trkS s rs k).1.getD ((k : Int) - 1).toNat default) (trkS s rs k).2 = false := by have h_ := hc9; rw [behX_at (by omega), rowL_at (by omega), hqk] at h_; exact h_
              have hce : (q2 : Int) ≠ trkC s rs k := fun h_ => by rw [trk_hit hv hr hm (by omega) h_] at hrf; cases hrf
              exact ⟨_, by rw [hqk, show k + 1 - k = 1 by omega]; omega, q_, q2 + 1, p2_, c3_, rfl, .inl ⟨hqk, by omega⟩, by omega, hF, hO⟩
          · refine (W_false ((evOp hF (by kernel_rfl)).trans (congrArg Value.bool hc8)) ?_)
            have hq1 : q_ = k + 1 := by have h_ := (by assumption : ((q_ : Int) == (k : Int)) = false); simp at h_; omega
            have hat2 := trk_at2 (s := s) (rs := rs) (k := k) hq1
            have hub := untr_bd (s := s) (rs := rs) (k : Int) ((trkS s rs q_).1.getD k default)
            have htk := htl (by omega)
            rw [← hat2] at htc
            refine (W_exit ?_)
            refine (region_d {} mixed TBok hF (F' := [(1, .slice p n c), (2, pv b1), (4, iv 0), (5, .slice none 0 0), (6, iv 0), (8, .slice (some ⟨b3, 0, none⟩) (s.hours.toNat) (s.hours.toNat)), (9, iv (lstF (behG s rs 0) c_)), (11, .slice p2_ q_ c3_), (12, iv ((trkS s rs k).2 - (untr s rs (k : Int) ((trkS s rs q_).1.getD k default)))), (13, iv (k : Int))]) (rs := [.lds ⟨b1, 0, none⟩ (sL6 s v), .idx p2_ q_ (k : Int) 1 (adr p2_ 1 (k : Int)), .ld (adr p2_ 1 (k : Int)) (iv ((trkS s rs q_).1.getD k default)), .call 56 #[.agg (sS6 s v), .slice p n c, iv (k : Int), iv ((trkS s rs q_).1.getD k default)] (iv (untr s rs (k : Int) ((trkS s rs q_).1.getD k default))), .rng ((trkS s rs k).2 - (untr s rs (k : Int) ((trkS s rs q_).1.getD k default)))]) [1, 2, 4, 5, 6, 8, 9, 11, 12, 13] (.cons (ldso hO.st 0 rfl 0 rfl) <| .cons (ix (enc := encI) (xs := (trkS s rs q_).1) ((rd_row (fun _ => rfl) (by decide) hO 3 rfl (by omega))) (by omega) (by omega)) <| .cons (ldR (enc := encI) (xs := (trkS s rs q_).1) (a := p2_) (i := (k : Int)) (fun x_ hx_ => (rd_row (fun _ => rfl) (by decide) (hO.st x_ hx_) 3 rfl (by omega))) (by omega) (by omega) 0 rfl) <| .cons (fun w hE => lies_calls s v rs p n c (k : Int) ((trkS s rs q_).1.getD k default) w hv (hx.upM (hO.st w hE).kp nom (Nat.le_refl _)) hr (by omega)) <| .cons (rg (by omega)) <| .nil) (by kernel_rfl) (by kernel_rfl) fun a w hF hE => ?_)
            replace hO := hO.ext hE; clear hE
            refine (region_q {} TBok hF (F' := [(1, .slice p n c), (2, pv b1), (4, iv 0), (5, .slice none 0 0), (6, iv 0), (8, .slice (some ⟨b3, 0, none⟩) (s.hours.toNat) (s.hours.toNat)), (9, iv (lstF (behG s rs 0) c_)), (11, .slice p2_ q_ c3_), (12, iv ((trkS s rs k).2 - (untr s rs (k : Int) ((trkS s rs q_).1.getD k default)))), (13, iv ((k : Int) + 1))]) (rs := [.rng ((k : Int) + 1)]) [1, 2, 4, 5, 6, 8, 9, 11, 12, 13] (.cons (rg (by omega)) <| .nil) (by kernel_rfl) fun a w hF hE => ?_)
            replace hO := hO.ext hE; clear hE
            have hst_ := congrArg Prod.snd (trkS_succ s rs k)
            have hat_ := trk_at2 (s := s) (rs := rs) (k := k) hq1
            exact ⟨_, by omega, k + 1, p2_, c3_, rfl, by omega, hF.cast (by rw [hst_, hat_, hq1] <;> rfl), hO.cast (by rw [hq1])⟩
        · refine (W_false ((evOp hF (by kernel_rfl)).trans (congrArg Value.bool hc7)) ?_)
          have hc7_ := of_decide_eq_false hc7
          refine (W_exit ?_)
          refine W_seq (region_q {} TBok hF (F' := [(4, iv (lstF (behG s rs 0) c_)), (5, .slice p_ k cc_), (6, iv 0)]) (rs := []) [4, 5, 6] .nil (by kernel_rfl) fun a w hF hE => ?_)
          replace hO := hO.ext hE; clear hE
          refine W_ret ?_
          show bodyPostM (FW none) 0 _ _ _ Exit.ret a w
          have hkk : k = s.hours.toNat := by omega
          have htl2 := trkS_len s rs k
          replace hO := hO.row_rd (enc := encI) (fun _ => rfl) (by decide) 3 rfl (by omega)
          replace hO : Own w0 none_ [cel b1 (sS6 s v) 25, cel b3 (cellsS (s.hours.toNat) A4).toArray 22, rwsR encI 1 (s.hours.toNat) A4 (behX s rs s.hours.toNat), rdR encI 1 p_ k ((trkS s rs k).1)] w := hO
          have hres : leastR s rs = (minT s rs, firstT s rs, 0) := by unfold leastR; rw [if_neg (by omega), if_neg hmt]
          exact leave_r TBok hF (.nil _) (vs := [iv (lstF (behG s rs 0) c_), .slice p_ k cc_, iv 0]) (rs := []) .nil (by kernel_rfl) ⟨p_, k, cc_, by rw [hres, hkk]; exact trkS_len s rs _, by rw [hres, hlm]; rfl, by rw [hres, firstT, ← hkk]; exact hO.sel [3] (by decide)⟩

set_option maxHeartbeats 4000000 in
set_option maxRecDepth 100000 in
theorem refCan_calls (s : Sea) (v : SV) (rs : List Rp) (p : Option Addr) (n c : Nat) (wr h : Int) (w0 : World) (hs : SeaR w0.heap.size w0 v s) (hx : Rd encRp 4 w0.heap.size w0 p n rs) :
    Calls Try.prog 25 #[.agg (sS6 s v), .slice p n c, iv wr, iv h] w0 (fun e w' => ∃ p n c_, (canR s rs wr h).1.length = n ∧ e = .returned (.tuple #[.slice p n c_, iv (canR s rs wr h).2]) ∧ Own w0 none_ [rdR encI 1 p n (canR s rs wr h).1] w') := by
  have hl1 := hs.land.len; have hl2 := hs.drift.len; have hs1 := hs.land.size; have hs2 := hs.drift.size; have hr_ := hs.rg; unfold i64 at hr_; have hl3 := hx.len; have hs3 := hx.size
  refine calls_of_W Try.func25 rfl (by kernel_rfl) (args := [.agg (sS6 s v), .slice p n c, iv wr, iv h]) fun a hF => ?_
  replace hF : Fr 72 [] [(0, .agg (sS6 s v)), (1, .slice p n c), (2, iv wr), (3, iv h)] a := hF
  have hO : Own w0 none_ [] w0 := Own.start w0 _
  refine W_seq (region_seq ?_)
  refine op_box (i := 0) (t := 25) (v := .agg (sS6 s v)) (d := 4) hF hO (by kernel_rfl) fun a w b1 hF hO _ => ?_
  refine seq_quiet {} TBok hF (F' := [(1, .slice p n c), (2, iv wr), (3, iv h), (4, pv b1), (8, .slice none 0 0), (9, iv 0)]) (rs := []) [1, 2] [] [1, 2, 3, 4, 8, 9] .nil (by kernel_rfl) fun a w hF hE => ?_
  replace hO := hO.ext hE; clear hE
  refine W_seq ?_
  refine W_seq (region_q {} TBok hF (F' := [(1, .slice p n c), (2, iv wr), (3, iv h), (4, pv b1), (8, .slice none 0 0), (9, iv 0), (10, iv (err s rs))]) (rs := [.lds ⟨b1, 0, none⟩ (sL6 s v), .call 53 #[.agg (sS6 s v), .slice p n c] (iv (err s rs))]) [1, 2, 3, 4, 8, 9, 10] (.cons (ldso hO.st 0 rfl 0 rfl) <| .cons (fun w hE => Asked_calls s v rs p n c w (hs.upM (hO.st w hE).kp nom (Nat.le_refl _)) (hx.upM (hO.st w hE).kp nom (Nat.le_refl _))) <| .nil) (by kernel_rfl) fun a w hF hE => ?_)
  replace hO := hO.ext hE; clear hE
  refine W_seq (region_q {} TBok hF (F' := [(1, .slice p n c), (2, iv wr), (3, iv h), (4, pv b1), (8, .slice none 0 0), (9, iv 0), (10, iv (err s rs)), (19, .bool ((err s rs) != 0))]) (rs := []) [1, 2, 3, 4, 8, 9, 10, 19] .nil (by kernel_rfl) fun a w hF hE => ?_)
  replace hO := hO.ext hE; clear hE
  rcases Bool.eq_false_or_eq_true ((err s rs) != 0) with hc2 | hc2
  · refine (W_true ((evOp hF (by kernel_rfl)).trans (congrArg Value.bool hc2)) ?_)
    have her : err s rs ≠ 0 := by simpa using (by assumption : ((err s rs) != 0) = true)
    refine W_seq (region_q {} TBok hF (F' := [(1, .slice p n c), (2, iv wr), (3, iv h), (4, pv b1), (8, .slice none 0 0), (9, iv (err s rs))]) (rs := []) [1, 2, 3, 4, 8, 9] .nil (by kernel_rfl) fun a w hF hE => ?_)
    replace hO := hO.ext hE; clear hE
    refine W_ret ?_
    show bodyPostM (FW none) 0 _ _ _ Exit.ret a w
    have hres : canR s rs wr h = ([], err s rs) := by unfold canR; rw [if_pos her]
    exact leave_r TBok hF (.nil _) (vs := [.slice none 0 0, iv (err s rs)]) (rs := []) .nil (by kernel_rfl) ⟨none, 0, 0, by rw [hres]; rfl, by rw [hres]; rfl, by rw [hres]; exact (hO.nilRd encI 1).sel [1] (by decide)⟩
  · refine (W_false ((evOp hF (by kernel_rfl)).trans (congrArg Value.bool hc2)) ?_)
    have her : err s rs = 0 := by simpa using (by assumption : ((err s rs) != 0) = false)
    obtain ⟨hv, hr⟩ := err_0 her
    have hv1 := sea_ok hv; have hrp := rp_ok hr; have hrl := rqs_len (s := s) (rs := rs)
    refine (W_skip ?_)
    refine W_seq ?_
    refine W_seq (region_q { sy := [3] } TBok hF (F' := [(1, .slice p n c), (2, iv wr), (3, iv h), (4, pv b1), (8, .slice none 0 0), (9, iv 0), (31, .bool (cond (!(inB wr 0 24)) true (!(inB h 0 (s.hours - 1)))))]) (rs := [.call 40 #[iv wr, iv 0, iv 24] (.bool (inB wr 0 24)), .und (!(!(inB wr 0 24))) (.ld ⟨b1, 3, none⟩ (iv s.hours)), .und (!(!(inB wr 0 24))) (.rng (s.hours - 1)), .und (!(!(inB wr 0 24))) (.call 40 #[iv h, iv 0, iv (s.hours - 1)] (.bool (inB h 0 (s.hours - 1))))]) [1, 2, 3, 4, 8, 9, 31] (.cons (fun w _ => In_calls _ _ _ w) <| .cons (fun hg => (ldo hO.st 0 rfl 3 rfl)) <| .cons (fun hg => (rg (by omega))) <| .cons (fun hg => (fun w _ => In_calls _ _ _ w)) <| .nil) (by kernel_rfl) fun a w hF hE => ?_)
    replace hO := hO.ext hE; clear hE
    rcases Bool.eq_false_or_eq_true (cond (!(inB wr 0 24)) true (!(inB h 0 (s.hours - 1)))) with hc3 | hc3
    · refine (W_true ((evOp hF (by kernel_rfl)).trans (congrArg Value.bool hc3)) ?_)
      have hak : askB s wr h = false := ask_no2 (by assumption : (cond (!(inB wr 0 24)) true (!(inB h 0 (s.hours - 1)))) = true)
      refine W_seq (region_q {} TBok hF (F' := [(1, .slice p n c), (2, iv wr), (3, iv h), (4, pv b1), (8, .slice none 0 0), (9, iv 7)]) (rs := []) [1, 2, 3, 4, 8, 9] .nil (by kernel_rfl) fun a w hF hE => ?_)
      replace hO := hO.ext hE; clear hE
      refine W_ret ?_
      show bodyPostM (FW none) 0 _ _ _ Exit.ret a w
      have hres : canR s rs wr h = ([], 7) := by unfold canR; rw [if_neg (by omega), if_pos hak]
      exact leave_r TBok hF (.nil _) (vs := [.slice none 0 0, iv 7]) (rs := []) .nil (by kernel_rfl) ⟨none, 0, 0, by rw [hres]; rfl, by rw [hres]; rfl, by rw [hres]; exact (hO.nilRd encI 1).sel [1] (by decide)⟩
    · refine (W_false ((evOp hF (by kernel_rfl)).trans (congrArg Value.bool hc3)) ?_)
      have hak : askB s wr h = true := ask_yes2 (by assumption : (cond (!(inB wr 0 24)) true (!(inB h 0 (s.hours - 1)))) = false)
      have hak2 := askB_iff.1 hak
      refine (W_skip ?_)
      refine W_seq (draw_start (R := none_) mixed [] 8 (by kernel_rfl) fun w hS => ?_)
      replace hO := hO.ext hS
      refine draw_q {} TBok hF hS (F' := [(2, iv wr), (3, iv h), (4, pv b1), (8, .slice none 0 0), (9, iv 0), (32, .agg (sS6 s v)), (33, .slice p n c), (35, .agg (sS6 s v)), (36, .slice p n c)]) (rs := [.lds ⟨b1, 0, none⟩ (sL6 s v), .lds ⟨b1, 0, none⟩ (sL6 s v)]) [0, 1, 3, 4] 8 4 (by kernel_rfl) #[true, true, false, true, true, false, false, false] [2, 3, 4, 8, 9, 32, 33, 35, 36] (.cons (ldso hO.st 0 rfl 0 rfl) <| .cons (ldso hO.st 0 rfl 0 rfl) <| .nil) (by kernel_rfl) (by kernel_rfl) fun a hF => ?_
      replace hS := Kp.refl none_ w
      refine any_pick (rs := [2]) (by kernel_rfl) (by simp) fun w hE => all1 ?_
      replace hO := hO.ext hE; replace hS := hS.trans (Ext.kp hE)
      refine op_call (i := 2) (f := 64) (args := #[.agg (sS6 s v), .slice p n c]) (d := some 34) TBok (by kernel_rfl) hF (by kernel_rfl) (ahead_calls s v rs p n c _ (hs.upM hO.kp nom (Nat.le_refl _)) hv (hx.upM hO.kp nom (Nat.le_refl _)) hr) fun e w hR => ?_
      obtain ⟨b4, A5, he, hO2⟩ := hR
      refine ⟨_, he, fun a hF => ⟨.inr (hS.trans (Ext.kp hO2.kp)), ?_⟩⟩
      replace hS := hS.trans (Ext.kp hO2.kp)
      replace hO := hO.joinE hO2; clear hO2 he
      refine any_pick (rs := [5]) (by kernel_rfl) (by simp) fun w hE => all1 ?_
      replace hO := hO.ext hE; replace hS := hS.trans (Ext.kp hE)
      refine op_call (i := 5) (f := 60) (args := #[.agg (sS6 s v), .slice p n c]) (d := some 37) TBok (by kernel_rfl) hF (by kernel_rfl) (behind_calls s v rs p n c _ (hs.upM hO.kp nom (Nat.le_refl _)) hv (hx.upM hO.kp nom (Nat.le_refl _)) hr) fun e w hR => ?_
      obtain ⟨b6, A7, he, hO2⟩ := hR
      refine ⟨_, he, fun a hF => ⟨.inr (hS.trans (Ext.kp hO2.kp)), ?_⟩⟩
      replace hS := hS.trans (Ext.kp hO2.kp)
      replace hO := hO.joinE hO2; clear hO2 he
      refine draw_q0 {} TBok hF hS (F' := [(2, iv wr), (3, iv h), (4, pv b1), (8, .slice none 0 0), (9, iv 0), (11, .slice (some ⟨b4, 0, none⟩) (s.hours.toNat) (s.hours.toNat)), (12, .slice (some ⟨b6, 0, none⟩) (s.hours.toNat) (s.hours.toNat))]) [6, 7] 2 0 (by kernel_rfl) #[true, true, true, true, true, true, true, true] [2, 3, 4, 8, 9, 11, 12] (by kernel_rfl) (by kernel_rfl) fun a hF => ?_
      refine any_done (by kernel_rfl) (fun w hE => ?_) _
      replace hO := hO.ext hE
      replace hF := hF.sel [2, 3, 4, 8, 9, 11, 12]
      replace hF : Fr 72 [] [(2, iv wr), (3, iv h), (4, pv b1), (8, .slice none 0 0), (9, iv 0), (11, .slice (some ⟨b4, 0, none⟩) (s.hours.toNat) (s.hours.toNat)), (12, .slice (some ⟨b6, 0, none⟩) (s.hours.toNat) (s.hours.toNat))] a := hF
      refine W_seq (region_q {} TBok hF (F' := [(2, iv wr), (3, iv h), (4, pv b1), (8, .slice none 0 0), (9, iv 0), (11, .slice (some ⟨b4, 0, none⟩) (s.hours.toNat) (s.hours.toNat)), (12, .slice (some ⟨b6, 0, none⟩) (s.hours.toNat) (s.hours.toNat)), (13, .slice none 0 0)]) (rs := []) [2, 3, 4, 8, 9, 11, 12, 13] .nil (by kernel_rfl) fun a w hF hE => ?_)
      replace hO := hO.ext hE; clear hE
      refine W_seq ?_
      refine W_seq (region_q {} TBok hF (F' := [(2, iv wr), (3, iv h), (4, pv b1), (8, .slice none 0 0), (9, iv 0), (11, .slice (some ⟨b4, 0, none⟩) (s.hours.toNat) (s.hours.toNat)), (12, .slice (some ⟨b6, 0, none⟩) (s.hours.toNat) (s.hours.toNat)), (13, .slice none 0 0), (14, iv 0)]) (rs := []) [2, 3, 4, 8, 9, 11, 12, 13, 14] .nil (by kernel_rfl) fun a w hF hE => ?_)
      replace hO := hO.ext hE; clear hE
      refine (W_block ?_)
      replace hO := hO.nilRow 3 1
      replace hO : Own w0 none_ [cel b1 (sS6 s v) 25, cel b4 (cellsS (s.hours.toNat) A5).toArray 22, rwsR encI 1 (s.hours.toNat) A5 (aheX s rs s.hours.toNat), cel b6 (cellsS (s.hours.toNat) A7).toArray 22, rwsR encI 1 (s.hours.toNat) A7 (behX s rs s.hours.toNat), rowR 3 1 (.slice none 0 0) 0 ((rcanK s rs wr h 0).flatMap encI)] w := hO
      have hla : (A5 h.toNat).2.1 = (nC s).toNat := by have h_ := (rdS hO 2 rfl (h := h.toNat) (by omega)).len; rw [aheX_at (by omega), rowL_len] at h_; exact h_.symm
      have hlb : (A7 h.toNat).2.1 = (nC s).toNat := by have h_ := (rdS hO 4 rfl (h := h.toNat) (by omega)).len; rw [behX_at (by omega), rowL_len] at h_; exact h_.symm
      refine (W_loop (fun m a w => ∃ (c_ : Nat), ∃ (p_ : Option Addr), ∃ (m_ : Nat), ∃ (cc_ : Nat), m = (nC s).toNat - c_ ∧ c_ ≤ (nC s).toNat ∧ (rcanK s rs wr h c_).length = m_ ∧ Fr 72 [] [(2, iv wr), (3, iv h), (4, pv b1), (8, .slice none 0 0), (9, iv 0), (11, .slice (some ⟨b4, 0, none⟩) (s.hours.toNat) (s.hours.toNat)), (12, .slice (some ⟨b6, 0, none⟩) (s.hours.toNat) (s.hours.toNat)), (13, .slice p_ m_ cc_), (14, iv (c_ : Int))] a ∧ Own w0 none_ [cel b1 (sS6 s v) 25, cel b4 (cellsS (s.hours.toNat) A5).toArray 22, rwsR encI 1 (s.hours.toNat) A5 (aheX s rs s.hours.toNat), cel b6 (cellsS (s.hours.toNat) A7).toArray 22, rwsR encI 1 (s.hours.toNat) A7 (behX s rs s.hours.toNat), rowR 3 1 (.slice p_ m_ cc_) m_ ((rcanK s rs wr h c_).flatMap encI)] w) _ ⟨0, none, 0, 0, rfl, Nat.zero_le _, rfl, hF, hO⟩ ?_)
      clear hF hO
      rintro _ a w ⟨c_, p_, m_, cc_, rfl, hc_, hln, hF, hO⟩
      have hlk := rcanK_len s rs wr h c_
      have hab := ahe_bd2 hv hr (h := h.toNat) (c := c_) (by omega)
      refine W_seq ?_
      refine W_seq (region_q {} TBok hF (F' := [(2, iv wr), (3, iv h), (4, pv b1), (8, .slice none 0 0), (9, iv 0), (11, .slice (some ⟨b4, 0, none⟩) (s.hours.toNat) (s.hours.toNat)), (12, .slice (some ⟨b6, 0, none⟩) (s.hours.toNat) (s.hours.toNat)), (13, .slice p_ m_ cc_), (14, iv (c_ : Int)), (44, .bool (decide ((c_ : Int) < (s.wide * s.high))))]) (rs := [.ld ⟨b1, 0, none⟩ (iv s.wide), .ld ⟨b1, 1, none⟩ (iv s.high), .rng (s.wide * s.high)]) [2, 3, 4, 8, 9, 11, 12, 13, 14, 44] (.cons (ldo hO.st 0 rfl 0 rfl) <| .cons (ldo hO.st 0 rfl 1 rfl) <| .cons (rg (by unfold nC at hv1; omega)) <| .nil) (by kernel_rfl) fun a w hF hE => ?_)
      replace hO := hO.ext hE; clear hE
      rcases Bool.eq_false_or_eq_true (decide ((c_ : Int) < (s.wide * s.high))) with hc8 | hc8
      · refine (W_true ((evOp hF (by kernel_rfl)).trans (congrArg Value.bool hc8)) ?_)
        have hlc : (c_ : Int) < nC s := of_decide_eq_true (by assumption : (decide ((c_ : Int) < (s.wide * s.high))) = true)
        have hab2 := hab (by omega)
        refine (W_skip ?_)
        refine W_seq (W_block ?_)
        refine W_seq (region_d {} mixed TBok hF (F' := [(2, iv wr), (3, iv h), (4, pv b1), (8, .slice none 0 0), (9, iv 0), (11, .slice (some ⟨b4, 0, none⟩) (s.hours.toNat) (s.hours.toNat)), (12, .slice (some ⟨b6, 0, none⟩) (s.hours.toNat) (s.hours.toNat)), (13, .slice p_ m_ cc_), (14, iv (c_ : Int)), (63, .bool (decide (((((aheX s rs s.hours.toNat) h.toNat).getD c_ default) + (((behX s rs s.hours.toNat) h.toNat).getD c_ default)) ≤ wr)))]) (rs := [.idx (some ⟨b4, 0, none⟩) (s.hours.toNat) h 1 ((⟨b4, 0, none⟩ : Addr).add (h.toNat * 1)), .ld ((⟨b4, 0, none⟩ : Addr).add (h.toNat * 1)) (.slice ((A5 h.toNat).1) ((A5 h.toNat).2.1) ((A5 h.toNat).2.2)), .idx ((A5 h.toNat).1) ((A5 h.toNat).2.1) (c_ : Int) 1 (adr ((A5 h.toNat).1) 1 (c_ : Int)), .ld (adr ((A5 h.toNat).1) 1 (c_ : Int)) (iv (((aheX s rs s.hours.toNat) h.toNat).getD c_ default)), .idx (some ⟨b6, 0, none⟩) (s.hours.toNat) h 1 ((⟨b6, 0, none⟩ : Addr).add (h.toNat * 1)), .ld ((⟨b6, 0, none⟩ : Addr).add (h.toNat * 1)) (.slice ((A7 h.toNat).1) ((A7 h.toNat).2.1) ((A7 h.toNat).2.2)), .idx ((A7 h.toNat).1) ((A7 h.toNat).2.1) (c_ : Int) 1 (adr ((A7 h.toNat).1) 1 (c_ : Int)), .ld (adr ((A7 h.toNat).1) 1 (c_ : Int)) (iv (((behX s rs s.hours.toNat) h.toNat).getD c_ default)), .rng ((((aheX s rs s.hours.toNat) h.toNat).getD c_ default) + (((behX s rs s.hours.toNat) h.toNat).getD c_ default))]) [2, 3, 4, 8, 9, 11, 12, 13, 14, 63] (.cons (ixa (by omega) (by omega)) <| .cons (ldS (A := A5) (h := h) hO.st 1 rfl (by omega) (by omega)) <| .cons (ix (enc := encI) (xs := ((aheX s rs s.hours.toNat) h.toNat)) ((rdS hO 2 rfl (h := h.toNat) (by omega))) (by omega) (by omega)) <| .cons (ldR (enc := encI) (xs := ((aheX s rs s.hours.toNat) h.toNat)) (a := (A5 h.toNat).1) (i := (c_ : Int)) (fun x_ hx_ => (rdS (hO.st x_ hx_) 2 rfl (h := h.toNat) (by omega))) (by omega) (by omega) 0 rfl) <| .cons (ixa (by omega) (by omega)) <| .cons (ldS (A := A7) (h := h) hO.st 3 rfl (by omega) (by omega)) <| .cons (ix (enc := encI) (xs := ((behX s rs s.hours.toNat) h.toNat)) ((rdS hO 4 rfl (h := h.toNat) (by omega))) (by omega) (by omega)) <| .cons (ldR (enc := encI) (xs := ((behX s rs s.hours.toNat) h.toNat)) (a := (A7 h.toNat).1) (i := (c_ : Int)) (fun x_ hx_ => (rdS (hO.st x_ hx_) 4 rfl (h := h.toNat) (by omega))) (by omega) (by omega) 0 rfl) <| .cons (rg (by omega)) <| .nil) (by kernel_rfl) (by kernel_rfl) fun a w hF hE => ?_)
        replace hO := hO.ext hE; clear hE
        rcases Bool.eq_false_or_eq_true (decide (((((aheX s rs s.hours.toNat) h.toNat).getD c_ default) + (((behX s rs s.hours.toNat) h.toNat).getD c_ default)) ≤ wr)) with hc9 | hc9
        · refine (W_true ((evOp hF (by kernel_rfl)).trans (congrArg Value.bool hc9)) ?_)
          have hc9_ := of_decide_eq_true hc9
          refine (region_seq ?_)
          refine seq_quiet {} TBok hF (F' := [(2, iv wr), (3, iv h), (4, pv b1), (8, .slice none 0 0), (9, iv 0), (11, .slice (some ⟨b4, 0, none⟩) (s.hours.toNat) (s.hours.toNat)), (12, .slice (some ⟨b6, 0, none⟩) (s.hours.toNat) (s.hours.toNat)), (13, .slice p_ m_ cc_), (14, iv (c_ : Int)), (64, .slice p_ m_ cc_), (65, iv (c_ : Int))]) (rs := []) [0, 1] [2, 3, 4] [2, 3, 4, 8, 9, 11, 12, 13, 14, 64, 65] .nil (by kernel_rfl) fun a w hF hE => ?_
          replace hO := hO.ext hE; clear hE
          refine op_bsl (i := 2) (t := 22) (e := 3) (len := 1) (ps := [(0, iv (c_ : Int))]) (d := 66) (sz := 1) (cs := #[iv (c_ : Int)]) (z := iv 0) hF hO (by kernel_rfl) (by kernel_rfl) (by kernel_rfl) (by kernel_rfl) (by kernel_rfl) fun a w b10 hF hO _ => ?_
          refine op_appR (i := 3) (t := 22) (ty := 22) (e := 3) (d := 67) rowT22 hF hO (by kernel_rfl) 5 rfl 6 rfl (by kernel_rfl) (by omega) fun a w p11 c12 hF hO hx => ?_
          clear hx
          refine seq_quiet {} TBok hF (F' := [(2, iv wr), (3, iv h), (4, pv b1), (8, .slice none 0 0), (9, iv 0), (11, .slice (some ⟨b4, 0, none⟩) (s.hours.toNat) (s.hours.toNat)), (12, .slice (some ⟨b6, 0, none⟩) (s.hours.toNat) (s.hours.toNat)), (13, .slice p11 (m_ + 1) c12), (14, iv (c_ : Int))]) (rs := []) [4] [] [2, 3, 4, 8, 9, 11, 12, 13, 14] .nil (by kernel_rfl) fun a w hF hE => ?_
          replace hO := hO.ext hE; clear hE
          refine (region_q {} TBok hF (F' := [(2, iv wr), (3, iv h), (4, pv b1), (8, .slice none 0 0), (9, iv 0), (11, .slice (some ⟨b4, 0, none⟩) (s.hours.toNat) (s.hours.toNat)), (12, .slice (some ⟨b6, 0, none⟩) (s.hours.toNat) (s.hours.toNat)), (13, .slice p11 (m_ + 1) c12), (14, iv ((c_ : Int) + 1))]) (rs := [.rng ((c_ : Int) + 1)]) [2, 3, 4, 8, 9, 11, 12, 13, 14] (.cons (rg (by omega)) <| .nil) (by kernel_rfl) fun a w hF hE => ?_)
          replace hO := hO.ext hE; clear hE
          have hrb : (rcB s rs wr h c_) = true := hc9
          replace hO := hO.drop1 6
          replace hO : Own w0 none_ [cel b1 (sS6 s v) 25, cel b4 (cellsS (s.hours.toNat) A5).toArray 22, rwsR encI 1 (s.hours.toNat) A5 (aheX s rs s.hours.toNat), cel b6 (cellsS (s.hours.toNat) A7).toArray 22, rwsR encI 1 (s.hours.toNat) A7 (behX s rs s.hours.toNat), rowR 3 1 (.slice p11 (m_ + 1) c12) (m_ + 1) (((rcanK s rs wr h c_).flatMap encI) ++ (#[iv (c_ : Int)] : Array Value).toList)] w := hO
          replace hO : Own w0 none_ [cel b1 (sS6 s v) 25, cel b4 (cellsS (s.hours.toNat) A5).toArray 22, rwsR encI 1 (s.hours.toNat) A5 (aheX s rs s.hours.toNat), cel b6 (cellsS (s.hours.toNat) A7).toArray 22, rwsR encI 1 (s.hours.toNat) A7 (behX s rs s.hours.toNat), rowR 3 1 (.slice p11 (m_ + 1) c12) (m_ + 1) ((rcanK s rs wr h (c_ + 1)).flatMap encI)] w := hO.cast (by rw [rcanK, hrb, cond_true, List.flatMap_append] <;> rfl)
          exact ⟨_, by omega, c_ + 1, p11, (m_ + 1), c12, rfl, by omega, by rw [rcanK, hrb, cond_true]; rw [List.length_append, hln]; rfl, hF, hO⟩
        · refine (W_false ((evOp hF (by kernel_rfl)).trans (congrArg Value.bool hc9)) ?_)
          have hc9_ := of_decide_eq_false hc9
          refine (W_skip ?_)
          refine (region_q {} TBok hF (F' := [(2, iv wr), (3, iv h), (4, pv b1), (8, .slice none 0 0), (9, iv 0), (11, .slice (some ⟨b4, 0, none⟩) (s.hours.toNat) (s.hours.toNat)), (12, .slice (some ⟨b6, 0, none⟩) (s.hours.toNat) (s.hours.toNat)), (13, .slice p_ m_ cc_), (14, iv ((c_ : Int) + 1))]) (rs := [.rng ((c_ : Int) + 1)]) [2, 3, 4, 8, 9, 11, 12, 13, 14] (.cons (rg (by omega)) <| .nil) (by kernel_rfl) fun a w hF hE => ?_)
          replace hO := hO.ext hE; clear hE
          have hrb : (rcB s rs wr h c_) = false := hc9
          replace hO : Own w0 none_ [cel b1 (sS6 s v) 25, cel b4 (cellsS (s.hours.toNat) A5).toArray 22, rwsR encI 1 (s.hours.toNat) A5 (aheX s rs s.hours.toNat), cel b6 (cellsS (s.hours.toNat) A7).toArray 22, rwsR encI 1 (s.hours.toNat) A7 (behX s rs s.hours.toNat), rowR 3 1 (.slice p_ m_ cc_) m_ ((rcanK s rs wr h (c_ + 1)).flatMap encI)] w := hO.cast (by rw [rcanK, hrb, cond_false])
          exact ⟨_, by omega, c_ + 1, p_, m_, cc_, rfl, by omega, by rw [rcanK, hrb, cond_false]; exact hln, hF, hO⟩
      · refine (W_false ((evOp hF (by kernel_rfl)).trans (congrArg Value.bool hc8)) ?_)
        have hlc : ¬ (c_ : Int) < nC s := of_decide_eq_false (by assumption : (decide ((c_ : Int) < (s.wide * s.high))) = false)
        refine (W_exit ?_)
        refine W_seq ?_
        refine W_seq (region_q {} TBok hF (F' := [(8, .slice none 0 0), (9, iv 0), (13, .slice p_ m_ cc_), (70, .bool ((m_ : Int) == 0))]) (rs := []) [8, 9, 13, 70] .nil (by kernel_rfl) fun a w hF hE => ?_)
        replace hO := hO.ext hE; clear hE
        rcases Bool.eq_false_or_eq_true ((m_ : Int) == 0) with hc13 | hc13
        · refine (W_true ((evOp hF (by kernel_rfl)).trans (congrArg Value.bool hc13)) ?_)
          refine W_seq (region_q {} TBok hF (F' := [(8, .slice none 0 0), (9, iv 12), (13, .slice p_ m_ cc_)]) (rs := []) [8, 9, 13] .nil (by kernel_rfl) fun a w hF hE => ?_)
          replace hO := hO.ext hE; clear hE
          refine W_ret ?_
          show bodyPostM (FW none) 0 _ _ _ Exit.ret a w
          have hcl : rcanK s rs wr h c_ = canL s rs wr h := by rw [show c_ = (nC s).toNat by omega]; exact rcan_eq hv hr (by omega) (by omega) (by omega)
          have hres0 : canR s rs wr h = canR1 s rs wr h := by unfold canR; rw [if_neg (by omega), if_neg (by rw [hak]; simp)]
          have hlc80 : m_ ≤ 80 := by have h_ := rcanK_len s rs wr h c_; omega
          have hres : canR s rs wr h = ([], 12) := by rw [hres0, canR1, ← hcl, List.length_eq_zero_iff.1 (show (rcanK s rs wr h c_).length = 0 by have h_ := hc13; simp at h_; omega)]
          exact leave_r TBok hF (.nil _) (vs := [.slice none 0 0, iv 12]) (rs := []) .nil (by kernel_rfl) ⟨none, 0, 0, by rw [hres]; rfl, by rw [hres]; rfl, by rw [hres]; exact (hO.nilRd encI 1).sel [6] (by decide)⟩
        · refine (W_false ((evOp hF (by kernel_rfl)).trans (congrArg Value.bool hc13)) ?_)
          refine (W_skip ?_)
          refine W_seq (region_q {} TBok hF (F' := [(8, .slice p_ m_ cc_), (9, iv 0)]) (rs := []) [8, 9] .nil (by kernel_rfl) fun a w hF hE => ?_)
          replace hO := hO.ext hE; clear hE
          refine W_ret ?_
          show bodyPostM (FW none) 0 _ _ _ Exit.ret a w
          have hcl : rcanK s rs wr h c_ = canL s rs wr h := by rw [show c_ = (nC s).toNat by omega]; exact rcan_eq hv hr (by omega) (by omega) (by omega)
          have hres0 : canR s rs wr h = canR1 s rs wr h := by unfold canR; rw [if_neg (by omega), if_neg (by rw [hak]; simp)]
          have hlc80 : m_ ≤ 80 := by have h_ := rcanK_len s rs wr h c_; omega
          replace hO := hO.row_rd (enc := encI) (fun _ => rfl) (by decide) 5 rfl (by omega)
          have hres : canR s rs wr h = (rcanK s rs wr h c_, 0) := by have hne : (rcanK s rs wr h c_).length ≠ 0 := (by have h_ := hc13; simp at h_; omega); rw [hres0, canR1, ← hcl]; cases hq_ : rcanK s rs wr h c_ with | nil => rw [hq_] at hne; exact absurd rfl hne | cons => rfl
          exact leave_r TBok hF (.nil _) (vs := [.slice p_ m_ cc_, iv 0]) (rs := []) .nil (by kernel_rfl) ⟨p_, m_, cc_, by rw [hres]; exact hln, by rw [hres]; rfl, by rw [hres]; exact hO.sel [5] (by decide)⟩

end Go.Proofs.Ytgihgcclabodbaa.DK
