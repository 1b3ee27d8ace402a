/- Walks: the reference's casts that surely find. Printed by my gen.py out of shoal/x.py. -/
import Derived.Test.YtgihgcclabodbaaT2
namespace Go.Proofs.Ytgihgcclabodbaa.DK
open Go Go.Proofs
set_option linter.unusedVariables false
set_option linter.unusedSimpArgs false

set_option maxHeartbeats 4000000 in
set_option maxRecDepth 100000 in
theorem all_calls (s : Sea) (v : SV) (cs : List Cs) (cp : Option Addr) (cn cc : Nat) (own : List Int) (op : Option Addr) (on oc : Nat) (cells : List Int) (ep : Option Addr) (en ec : Nat) (w0 : World) (hv : seaB s = true) (hcs : Rd encCs 2 w0.heap.size w0 cp cn cs) (how : Rd encI 1 w0.heap.size w0 op on own) (hce : Rd encI 1 w0.heap.size w0 ep en cells) (hin : ∀ i, i < own.length → 0 ≤ own.getD i default ∧ own.getD i default < cs.length) (hcv : ∀ i, i < cs.length → 0 ≤ (cs.getD i default).cell ∧ (cs.getD i default).cell < nC s) (hcc : ∀ i, i < cells.length → 0 ≤ cells.getD i default ∧ cells.getD i default < nC s) :
    Calls Try.prog 73 #[.agg (sS6 s v), .slice cp cn cc, .slice op on oc, .slice ep en ec] w0 (fun e w' => e = .returned (.bool (rallB s cs own cells)) ∧ Ext w0 w') := by
  have hl1 := how.len; have hs1 := how.size; have hl2 := hce.len; have hs2 := hce.size; have hl4 := hcs.len; have hs4 := hcs.size
  refine calls_of_W Try.func73 rfl (by kernel_rfl) (args := [.agg (sS6 s v), .slice cp cn cc, .slice op on oc, .slice ep en ec]) fun a hF => ?_
  replace hF : Fr 42 [] [(0, .agg (sS6 s v)), (1, .slice cp cn cc), (2, .slice op on oc), (3, .slice ep en ec)] a := hF
  have hO : Own w0 none_ [] w0 := Own.start w0 _
  refine W_seq (region_seq ?_)
  refine op_box (i := 0) (t := 25) (v := .agg (sS6 s v)) (d := 4) hF hO (by kernel_rfl) fun a w b1 hF hO _ => ?_
  refine seq_quiet {} TBok hF (F' := [(1, .slice cp cn cc), (2, .slice op on oc), (3, .slice ep en ec), (4, pv b1), (8, .bool false)]) (rs := []) [1] [] [1, 2, 3, 4, 8] .nil (by kernel_rfl) fun a w hF hE => ?_
  replace hO := hO.ext hE; clear hE
  refine W_seq ?_
  refine W_seq (region_q {} TBok hF (F' := [(1, .slice cp cn cc), (2, .slice op on oc), (3, .slice ep en ec), (4, pv b1), (8, .bool false), (9, iv 0)]) (rs := []) [1, 2, 3, 4, 8, 9] .nil (by kernel_rfl) fun a w hF hE => ?_)
  replace hO := hO.ext hE; clear hE
  refine (W_block ?_)
  replace hF := hF.sel [1, 2, 3, 4, 9]
  refine (W_loop (fun m a w => ∃ (k : Nat), m = en - k ∧ k ≤ en ∧ ((cells.take k).all fun c => own.any fun i => rcov s (cs.getD i.toNat default) c) = true ∧ Fr 42 [] [(1, .slice cp cn cc), (2, .slice op on oc), (3, .slice ep en ec), (4, pv b1), (9, iv (k : Int))] a ∧ Own w0 none_ [cel b1 (sS6 s v) 25] w) _ ⟨0, rfl, Nat.zero_le _, rfl, hF, hO⟩ ?_)
  clear hF hO
  rintro _ a w ⟨k, rfl, hk, hall, hF, hO⟩
  refine W_seq ?_
  refine W_seq (region_q {} TBok hF (F' := [(1, .slice cp cn cc), (2, .slice op on oc), (3, .slice ep en ec), (4, pv b1), (9, iv (k : Int)), (15, .bool (decide ((k : Int) < (en : Int))))]) (rs := []) [1, 2, 3, 4, 9, 15] .nil (by kernel_rfl) fun a w hF hE => ?_)
  replace hO := hO.ext hE; clear hE
  rcases Bool.eq_false_or_eq_true (decide ((k : Int) < (en : Int))) with hc2 | hc2
  · refine (W_true ((evOp hF (by kernel_rfl)).trans (congrArg Value.bool hc2)) ?_)
    have hc2_ := of_decide_eq_true hc2
    refine (W_skip ?_)
    refine W_seq (W_block ?_)
    refine W_seq (region_q {} TBok hF (F' := [(1, .slice cp cn cc), (2, .slice op on oc), (3, .slice ep en ec), (4, pv b1), (9, iv (k : Int)), (10, .bool false)]) (rs := []) [1, 2, 3, 4, 9, 10] .nil (by kernel_rfl) fun a w hF hE => ?_)
    replace hO := hO.ext hE; clear hE
    refine W_seq ?_
    refine W_seq (region_q {} TBok hF (F' := [(1, .slice cp cn cc), (2, .slice op on oc), (3, .slice ep en ec), (4, pv b1), (9, iv (k : Int)), (10, .bool false), (11, iv 0)]) (rs := []) [1, 2, 3, 4, 9, 10, 11] .nil (by kernel_rfl) fun a w hF hE => ?_)
    replace hO := hO.ext hE; clear hE
    refine (W_block ?_)
    refine (W_loop (fun m a w => ∃ (m_ : Nat), ∃ (mt_ : Bool), m = on - m_ ∧ m_ ≤ on ∧ mt_ = (own.take m_).any (fun i => rcov s (cs.getD i.toNat default) (cells.getD k default)) ∧ Fr 42 [] [(1, .slice cp cn cc), (2, .slice op on oc), (3, .slice ep en ec), (4, pv b1), (9, iv (k : Int)), (10, .bool mt_), (11, iv (m_ : Int))] a ∧ Own w0 none_ [cel b1 (sS6 s v) 25] w) _ ⟨0, false, rfl, Nat.zero_le _, rfl, hF, hO⟩ ?_)
    clear hF hO
    rintro _ a w ⟨m_, mt_, rfl, hm_, hmt, hF, hO⟩
    refine W_seq ?_
    refine W_seq (region_q {} TBok hF (F' := [(1, .slice cp cn cc), (2, .slice op on oc), (3, .slice ep en ec), (4, pv b1), (9, iv (k : Int)), (10, .bool mt_), (11, iv (m_ : Int)), (21, .bool (decide ((m_ : Int) < (on : Int))))]) (rs := []) [1, 2, 3, 4, 9, 10, 11, 21] .nil (by kernel_rfl) fun a w hF hE => ?_)
    replace hO := hO.ext hE; clear hE
    rcases Bool.eq_false_or_eq_true (decide ((m_ : Int) < (on : Int))) with hc3 | hc3
    · refine (W_true ((evOp hF (by kernel_rfl)).trans (congrArg Value.bool hc3)) ?_)
      have hc3_ := of_decide_eq_true hc3
      refine (W_skip ?_)
      refine W_seq (W_block ?_)
      refine (region_d { sy := [1] } mixed TBok hF (F' := [(1, .slice cp cn cc), (2, .slice op on oc), (3, .slice ep en ec), (4, pv b1), (9, iv (k : Int)), (10, .bool (cond mt_ true (decide (farP (pl s (cs.getD (own.getD m_ default).toNat default).cell) (pl s (cells.getD k default)) ≤ (cs.getD (own.getD m_ default).toNat default).far)))), (11, iv (m_ : Int))]) (rs := [.und (!mt_) (.lds ⟨b1, 0, none⟩ (sL6 s v)), .und (!mt_) (.idx op on (m_ : Int) 1 (adr op 1 (m_ : Int))), .und (!mt_) (.ld (adr op 1 (m_ : Int)) (iv (own.getD m_ default))), .und (!mt_) (.idx cp cn (own.getD m_ default) 2 (adr cp 2 (own.getD m_ default))), .und (!mt_) (.lds (adr cp 2 (own.getD m_ default)) [iv ((cs.getD (own.getD m_ default).toNat default).cell), iv ((cs.getD (own.getD m_ default).toNat default).far)]), .und (!mt_) (.idx ep en (k : Int) 1 (adr ep 1 (k : Int))), .und (!mt_) (.ld (adr ep 1 (k : Int)) (iv (cells.getD k default))), .und (!mt_) (.call 70 #[.agg (sS6 s v), .agg #[iv ((cs.getD (own.getD m_ default).toNat default).cell), iv ((cs.getD (own.getD m_ default).toNat default).far)], iv (cells.getD k default)] (.bool (decide (farP (pl s (cs.getD (own.getD m_ default).toNat default).cell) (pl s (cells.getD k default)) ≤ (cs.getD (own.getD m_ default).toNat default).far))))]) [1, 2, 3, 4, 9, 10, 11] (.cons (fun hg => (ldso hO.st 0 rfl 0 rfl)) <| .cons (fun hg => (ix how (by omega) (by omega))) <| .cons (fun hg => (ldx hO.st nom how (by omega) (by omega) 0 rfl)) <| .cons (fun hg => (ix hcs (hin m_ (by omega)).1 (by have h_ := hin m_ (by omega); omega))) <| .cons (fun hg => (ldsx hO.st nom hcs (hin m_ (by omega)).1 (by have h_ := hin m_ (by omega); omega) rfl)) <| .cons (fun hg => (ix hce (by omega) (by omega))) <| .cons (fun hg => (ldx hO.st nom hce (by omega) (by omega) 0 rfl)) <| .cons (fun hg => (fun w hE => refCovers_calls s v (cs.getD (own.getD m_ default).toNat default) (cells.getD k default) w hv (by have h2_ := hin m_ (by omega); have h_ := hcv ((own.getD m_ default).toNat) (by omega); omega) (hcc k (by omega)))) <| .nil) (by kernel_rfl) (by kernel_rfl) fun a w hF hE => ?_)
      replace hO := hO.ext hE; clear hE
      refine (region_q {} TBok hF (F' := [(1, .slice cp cn cc), (2, .slice op on oc), (3, .slice ep en ec), (4, pv b1), (9, iv (k : Int)), (10, .bool (cond mt_ true (decide (farP (pl s (cs.getD (own.getD m_ default).toNat default).cell) (pl s (cells.getD k default)) ≤ (cs.getD (own.getD m_ default).toNat default).far)))), (11, iv ((m_ : Int) + 1))]) (rs := [.rng ((m_ : Int) + 1)]) [1, 2, 3, 4, 9, 10, 11] (.cons (rg (by omega)) <| .nil) (by kernel_rfl) fun a w hF hE => ?_)
      replace hO := hO.ext hE; clear hE
      exact ⟨_, by omega, m_ + 1, _, rfl, by omega, by rw [any_take _ (by omega), ← hmt]; cases mt_ <;> rfl, hF, hO⟩
    · refine (W_false ((evOp hF (by kernel_rfl)).trans (congrArg Value.bool hc3)) ?_)
      have hc3_ := of_decide_eq_false hc3
      refine (W_exit ?_)
      refine W_seq (region_q {} TBok hF (F' := [(1, .slice cp cn cc), (2, .slice op on oc), (3, .slice ep en ec), (4, pv b1), (9, iv (k : Int)), (41, .bool (!mt_))]) (rs := []) [1, 2, 3, 4, 9, 41] .nil (by kernel_rfl) fun a w hF hE => ?_)
      replace hO := hO.ext hE; clear hE
      rcases Bool.eq_false_or_eq_true (!mt_) with hc4 | hc4
      · refine (W_true ((evOp hF (by kernel_rfl)).trans (congrArg Value.bool hc4)) ?_)
        refine W_seq (region_q {} TBok hF (F' := [(1, .slice cp cn cc), (2, .slice op on oc), (3, .slice ep en ec), (4, pv b1), (8, .bool false), (9, iv (k : Int))]) (rs := []) [1, 2, 3, 4, 8, 9] .nil (by kernel_rfl) fun a w hF hE => ?_)
        replace hO := hO.ext hE; clear hE
        refine W_ret ?_
        show bodyPostM (FW none) 0 _ _ _ Exit.ret a w
        have hmt1 : mt_ = false := by have h_ := hc4; simpa using h_
        rw [hmt1, List.take_of_length_le (by omega)] at hmt
        have hna : rallB s cs own cells = false := List.all_eq_false.2 ⟨_, getD_mem (show k < cells.length by omega), by rw [← hmt]; simp⟩
        exact leave_r TBok hF (.nil _) (vs := [.bool false]) (rs := []) .nil (by kernel_rfl) ⟨by rw [hna]; rfl, hO.kp⟩
      · refine (W_false ((evOp hF (by kernel_rfl)).trans (congrArg Value.bool hc4)) ?_)
        refine (W_skip ?_)
        refine (region_q {} TBok hF (F' := [(1, .slice cp cn cc), (2, .slice op on oc), (3, .slice ep en ec), (4, pv b1), (9, iv ((k : Int) + 1))]) (rs := [.rng ((k : Int) + 1)]) [1, 2, 3, 4, 9] (.cons (rg (by omega)) <| .nil) (by kernel_rfl) fun a w hF hE => ?_)
        replace hO := hO.ext hE; clear hE
        have hmt1 : mt_ = true := by have h_ := hc4; simpa using h_
        rw [hmt1, List.take_of_length_le (by omega)] at hmt
        exact ⟨_, by omega, k + 1, rfl, by omega, by rw [take_all _ (by omega), hall, ← hmt]; rfl, hF, hO⟩
  · refine (W_false ((evOp hF (by kernel_rfl)).trans (congrArg Value.bool hc2)) ?_)
    have hc2_ := of_decide_eq_false hc2
    refine (W_exit ?_)
    refine W_seq (region_q {} TBok hF (F' := [(8, .bool true)]) (rs := []) [8] .nil (by kernel_rfl) fun a w hF hE => ?_)
    replace hO := hO.ext hE; clear hE
    refine W_ret ?_
    show bodyPostM (FW none) 0 _ _ _ Exit.ret a w
    rw [List.take_of_length_le (by omega)] at hall
    exact leave_r TBok hF (.nil _) (vs := [.bool true]) (rs := []) .nil (by kernel_rfl) ⟨by rw [rallB, hall]; rfl, hO.kp⟩

set_option maxHeartbeats 4000000 in
set_option maxRecDepth 100000 in
theorem refSure_calls (s : Sea) (v : SV) (rs : List Rp) (p : Option Addr) (n c : Nat) (wr h : Int) (cs : List Cs) (cp : Option Addr) (cn cc : Nat) (w0 : World) (hs : SeaR w0.heap.size w0 v s) (hx : Rd encRp 4 w0.heap.size w0 p n rs) (hcs : Rd encCs 2 w0.heap.size w0 cp cn cs) :
    Calls Try.prog 31 #[.agg (sS6 s v), .slice p n c, iv wr, iv h, .slice cp cn cc] w0 (fun e w' => ∃ p n c_, (sureR s rs wr h cs).1.length = n ∧ e = .returned (.tuple #[.slice p n c_, iv (sureR s rs wr h cs).2]) ∧ Own w0 none_ [rdR encI 1 p n (sureR s rs wr h cs).1] w') := by
  have hl1 := hs.land.len; have hl2 := hs.drift.len; have hs1 := hs.land.size; have hs2 := hs.drift.size; have hr_ := hs.rg; unfold i64 at hr_; have hl3 := hx.len; have hs3 := hx.size; have hl4 := hcs.len; have hs4 := hcs.size
  refine calls_of_W Try.func31 rfl (by kernel_rfl) (args := [.agg (sS6 s v), .slice p n c, iv wr, iv h, .slice cp cn cc]) fun a hF => ?_
  replace hF : Fr 74 [] [(0, .agg (sS6 s v)), (1, .slice p n c), (2, iv wr), (3, iv h), (4, .slice cp cn cc)] a := hF
  have hO : Own w0 none_ [] w0 := Own.start w0 _
  refine W_seq (region_seq ?_)
  refine op_box (i := 0) (t := 25) (v := .agg (sS6 s v)) (d := 5) hF hO (by kernel_rfl) fun a w b1 hF hO _ => ?_
  refine seq_quiet {} TBok hF (F' := [(1, .slice p n c), (2, iv wr), (3, iv h), (4, .slice cp cn cc), (5, pv b1), (10, .slice none 0 0), (11, iv 0)]) (rs := []) [1, 2] [] [1, 2, 3, 4, 5, 10, 11] .nil (by kernel_rfl) fun a w hF hE => ?_
  replace hO := hO.ext hE; clear hE
  refine W_seq (region_seq ?_)
  refine seq_quiet {} TBok hF (F' := [(4, .slice cp cn cc), (5, pv b1), (10, .slice none 0 0), (11, iv 0), (18, .agg (sS6 s v)), (19, .slice p n c), (20, iv wr), (21, iv h), (22, .slice cp cn cc)]) (rs := [.lds ⟨b1, 0, none⟩ (sL6 s v)]) [0, 1, 2, 3, 4] [5, 6, 7, 8, 9, 10] [4, 5, 10, 11, 18, 19, 20, 21, 22] (.cons (ldso hO.st 0 rfl 0 rfl) <| .nil) (by kernel_rfl) fun a w hF hE => ?_
  replace hO := hO.ext hE; clear hE
  refine op_call (i := 5) (f := 69) (args := #[.agg (sS6 s v), .slice p n c, iv wr, iv h, .slice cp cn cc]) (d := some 23) TBok (by kernel_rfl) hF (by kernel_rfl) (refAsked_calls s v rs p n c wr h cs cp cn cc _ (hs.upM hO.kp nom (Nat.le_refl _)) (hx.upM hO.kp nom (Nat.le_refl _)) (hcs.upM hO.kp nom (Nat.le_refl _))) fun e w hR => ?_
  obtain ⟨p2, n3, c4, hn5, he, hO2⟩ := hR
  refine ⟨_, he, fun a hF => ?_⟩
  replace hO := hO.joinE hO2; clear hO2 he
  refine seq_quiet {} TBok hF (F' := [(4, .slice cp cn cc), (5, pv b1), (10, .slice none 0 0), (11, iv 0), (12, .slice p2 n3 c4), (13, iv ((raskR s rs wr h cs).2))]) (rs := []) [6, 7, 8, 9, 10] [] [4, 5, 10, 11, 12, 13] .nil (by kernel_rfl) fun a w hF hE => ?_
  replace hO := hO.ext hE; clear hE
  refine W_seq ?_
  refine W_seq (region_q {} TBok hF (F' := [(4, .slice cp cn cc), (5, pv b1), (10, .slice none 0 0), (11, iv 0), (12, .slice p2 n3 c4), (13, iv ((raskR s rs wr h cs).2)), (27, .bool ((raskR s rs wr h cs).2 != 0))]) (rs := []) [4, 5, 10, 11, 12, 13, 27] .nil (by kernel_rfl) fun a w hF hE => ?_)
  replace hO := hO.ext hE; clear hE
  rcases Bool.eq_false_or_eq_true ((raskR s rs wr h cs).2 != 0) with hc6 | hc6
  · refine (W_true ((evOp hF (by kernel_rfl)).trans (congrArg Value.bool hc6)) ?_)
    have hz := (by assumption : ((raskR s rs wr h cs).2 != 0) = true)
    refine W_seq (region_q {} TBok hF (F' := [(4, .slice cp cn cc), (5, pv b1), (10, .slice none 0 0), (11, iv ((raskR s rs wr h cs).2)), (12, .slice p2 n3 c4)]) (rs := []) [4, 5, 10, 11, 12] .nil (by kernel_rfl) fun a w hF hE => ?_)
    replace hO := hO.ext hE; clear hE
    refine W_ret ?_
    show bodyPostM (FW none) 0 _ _ _ Exit.ret a w
    have hres : sureR s rs wr h cs = ([], (raskR s rs wr h cs).2) := by rw [rsureR_eq, if_pos (by simpa using hz)]
    exact leave_r TBok hF (.nil _) (vs := [.slice none 0 0, iv ((raskR s rs wr h cs).2)]) (rs := []) .nil (by kernel_rfl) ⟨none, 0, 0, by rw [hres]; rfl, by rw [hres]; rfl, by rw [hres]; exact (hO.nilRd encI 1).sel [2] (by decide)⟩
  · refine (W_false ((evOp hF (by kernel_rfl)).trans (congrArg Value.bool hc6)) ?_)
    have hz : (raskR s rs wr h cs).2 = 0 := by have h_ := (by assumption : ((raskR s rs wr h cs).2 != 0) = false); simpa using h_
    obtain ⟨hv, hcb⟩ := raskR_ok hz
    have hv1 := sea_ok hv; have hcb2 := csB_ok hcb
    have hrl80 : (raskR s rs wr h cs).1.length ≤ 80 := raskR_len
    refine (W_skip ?_)
    refine W_seq (region_q {} TBok hF (F' := [(4, .slice cp cn cc), (5, pv b1), (10, .slice none 0 0), (11, iv 0), (12, .slice p2 n3 c4), (14, .slice none 0 0)]) (rs := []) [4, 5, 10, 11, 12, 14] .nil (by kernel_rfl) fun a w hF hE => ?_)
    replace hO := hO.ext hE; clear hE
    refine W_seq ?_
    refine W_seq (region_q {} TBok hF (F' := [(4, .slice cp cn cc), (5, pv b1), (10, .slice none 0 0), (11, iv 0), (12, .slice p2 n3 c4), (14, .slice none 0 0), (15, iv 1)]) (rs := []) [4, 5, 10, 11, 12, 14, 15] .nil (by kernel_rfl) fun a w hF hE => ?_)
    replace hO := hO.ext hE; clear hE
    refine (W_block ?_)
    replace hO := hO.nilRd encI 1
    replace hO : Own w0 none_ [cel b1 (sS6 s v) 25, rdR encI 1 p2 n3 (raskR s rs wr h cs).1, rdR encI 1 none 0 []] w := hO
    replace hO : Own w0 none_ [cel b1 (sS6 s v) 25, rdR encI 1 p2 n3 (raskR s rs wr h cs).1, rdR encI 1 none 0 (rsureK s cs (raskR s rs wr h cs).1 (1 - 1))] w := hO.cast (by rfl)
    have h2p : 1 ≤ 2 ^ cn := Nat.one_le_two_pow
    have h256 : 2 ^ cn ≤ 256 := Nat.le_trans (Nat.pow_le_pow_right (by omega) (show cn ≤ 8 by omega)) (by decide)
    have hcast : ((2 ^ cn : Nat) : Int) = (2 : Int) ^ cn := by simp
    refine (W_loop (fun m a w => ∃ (j : Nat), ∃ (p_ : Option Addr), ∃ (m_ : Nat), ∃ (cc_ : Nat), m = 2 ^ cn - j ∧ (1 ≤ j ∧ j ≤ 2 ^ cn) ∧ (rsureK s cs (raskR s rs wr h cs).1 (j - 1)).length = m_ ∧ Fr 74 [] [(4, .slice cp cn cc), (5, pv b1), (10, .slice none 0 0), (11, iv 0), (12, .slice p2 n3 c4), (14, .slice p_ m_ cc_), (15, iv (j : Int))] a ∧ Own w0 none_ [cel b1 (sS6 s v) 25, rdR encI 1 p2 n3 (raskR s rs wr h cs).1, rdR encI 1 p_ m_ (rsureK s cs (raskR s rs wr h cs).1 (j - 1))] w) _ ⟨1, none, 0, 0, rfl, ⟨Nat.le_refl _, h2p⟩, rfl, hF, hO⟩ ?_)
    clear hF hO
    rintro _ a w ⟨j, p_, m_, cc_, rfl, hj, hm_, hF, hO⟩
    have hmb := rsureK_len s cs (raskR s rs wr h cs).1 (j - 1)
    refine W_seq ?_
    refine W_seq (region_q { md := [(3, 3)] } TBok hF (F' := [(4, .slice cp cn cc), (5, pv b1), (10, .slice none 0 0), (11, iv 0), (12, .slice p2 n3 c4), (14, .slice p_ m_ cc_), (15, iv (j : Int)), (33, .bool (decide ((j : Int) < (2 ^ cn))))]) (rs := [.raw (rb .shl 3 (.const (iv 1)) (.tmp 31) (iv 1) (iv (cn : Int))) (iv (2 ^ cn))]) [4, 5, 10, 11, 12, 14, 15, 33] (.cons (raw_shl ⟨by omega, by omega⟩) <| .nil) (by kernel_rfl) fun a w hF hE => ?_)
    replace hO := hO.ext hE; clear hE
    rcases Bool.eq_false_or_eq_true (decide ((j : Int) < (2 ^ cn))) with hc7 | hc7
    · refine (W_true ((evOp hF (by kernel_rfl)).trans (congrArg Value.bool hc7)) ?_)
      have hjl : j < 2 ^ cn := by have h_ := of_decide_eq_true (by assumption : (decide ((j : Int) < (2 ^ cn))) = true); omega
      refine (W_skip ?_)
      refine W_seq (W_block ?_)
      refine W_seq (region_seq ?_)
      refine seq_quiet {} TBok hF (F' := [(4, .slice cp cn cc), (5, pv b1), (10, .slice none 0 0), (11, iv 0), (12, .slice p2 n3 c4), (14, .slice p_ m_ cc_), (15, iv (j : Int)), (36, iv (j : Int)), (38, iv (cn : Int))]) (rs := []) [0, 1, 2] [3, 4] [4, 5, 10, 11, 12, 14, 15, 36, 38] .nil (by kernel_rfl) fun a w hF hE => ?_
      replace hO := hO.ext hE; clear hE
      refine op_call (i := 3) (f := 42) (args := #[iv (j : Int), iv (cn : Int)]) (d := some 39) TBok (by kernel_rfl) hF (by kernel_rfl) (Members_calls (j : Int) cn _ (by omega)) fun e w hR => ?_
      obtain ⟨p8, q9, c10, hq11, he, hO2⟩ := hR
      refine ⟨_, he, fun a hF => ?_⟩
      replace hO := hO.joinE hO2; clear hO2 he
      refine seq_quiet {} TBok hF (F' := [(4, .slice cp cn cc), (5, pv b1), (10, .slice none 0 0), (11, iv 0), (12, .slice p2 n3 c4), (14, .slice p_ m_ cc_), (15, iv (j : Int)), (16, .slice p8 q9 c10)]) (rs := []) [4] [] [4, 5, 10, 11, 12, 14, 15, 16] .nil (by kernel_rfl) fun a w hF hE => ?_
      replace hO := hO.ext hE; clear hE
      refine W_seq (region_q { sy := [5, 9, 16, 22] } TBok hF (F' := [(4, .slice cp cn cc), (5, pv b1), (10, .slice none 0 0), (11, iv 0), (12, .slice p2 n3 c4), (14, .slice p_ m_ cc_), (15, iv (j : Int)), (16, .slice p8 q9 c10), (68, .bool (cond (rallB s cs (memL cn (j : Int)) (raskR s rs wr h cs).1) (cond (cond ((m_ : Int) == 0) true (decide ((q9 : Int) < (m_ : Int)))) true (cond ((q9 : Int) == (m_ : Int)) (befL (memL cn (j : Int)) (rsureK s cs (raskR s rs wr h cs).1 (j - 1))) false)) false))]) (rs := [.lds ⟨b1, 0, none⟩ (sL6 s v), .call 73 #[.agg (sS6 s v), .slice cp cn cc, .slice p8 q9 c10, .slice p2 n3 c4] (.bool (rallB s cs (memL cn (j : Int)) (raskR s rs wr h cs).1)), .und ((rallB s cs (memL cn (j : Int)) (raskR s rs wr h cs).1) && ((!(cond ((m_ : Int) == 0) true (decide ((q9 : Int) < (m_ : Int))))) && ((q9 : Int) == (m_ : Int)))) (.call 37 #[.slice p8 q9 c10, .slice p_ m_ cc_] (.bool (befL (memL cn (j : Int)) (rsureK s cs (raskR s rs wr h cs).1 (j - 1)))))]) [4, 5, 10, 11, 12, 14, 15, 16, 68] (.cons (ldso hO.st 0 rfl 0 rfl) <| .cons (fun w hE => all_calls s v cs cp cn cc (memL cn (j : Int)) p8 q9 c10 (raskR s rs wr h cs).1 p2 n3 c4 w hv (hcs.upM (hO.st w hE).kp nom (Nat.le_refl _)) (rd_row (fun _ => rfl) (by decide) (hO.st w hE) 3 rfl (by have h1_ := memL_len cn (j : Int); have h2_ := hq11; omega)) ((hO.st w hE).get 1 rfl) (fun i hi => by have h_ := memL_in (n := cn) (set := (j : Int)) _ (getD_mem hi); omega) (fun i hi => by have h_ := hcb2.2.2 _ (getD_mem hi); omega) (fun i hi => by have h_ := mem_cellsA (raskR_mem (getD_mem hi)); omega)) <| .cons (fun hg => (fun w hE => Before_calls (memL cn (j : Int)) (rsureK s cs (raskR s rs wr h cs).1 (j - 1)) p8 p_ q9 m_ c10 cc_ w (rd_row (fun _ => rfl) (by decide) (hO.st w hE) 3 rfl (by have h1_ := memL_len cn (j : Int); have h2_ := hq11; omega)) ((hO.st w hE).get 2 rfl))) <| .nil) (by kernel_rfl) fun a w hF hE => ?_)
      replace hO := hO.ext hE; clear hE
      rcases Bool.eq_false_or_eq_true (cond (rallB s cs (memL cn (j : Int)) (raskR s rs wr h cs).1) (cond (cond ((m_ : Int) == 0) true (decide ((q9 : Int) < (m_ : Int)))) true (cond ((q9 : Int) == (m_ : Int)) (befL (memL cn (j : Int)) (rsureK s cs (raskR s rs wr h cs).1 (j - 1))) false)) false) with hc12 | hc12
      · refine (W_true ((evOp hF (by kernel_rfl)).trans (congrArg Value.bool hc12)) ?_)
        refine (region_q {} TBok hF (F' := [(4, .slice cp cn cc), (5, pv b1), (10, .slice none 0 0), (11, iv 0), (12, .slice p2 n3 c4), (14, .slice p8 q9 c10), (15, iv (j : Int))]) (rs := []) [4, 5, 10, 11, 12, 14, 15] .nil (by kernel_rfl) fun a w hF hE => ?_)
        replace hO := hO.ext hE; clear hE
        refine (region_q {} TBok hF (F' := [(4, .slice cp cn cc), (5, pv b1), (10, .slice none 0 0), (11, iv 0), (12, .slice p2 n3 c4), (14, .slice p8 q9 c10), (15, iv ((j : Int) + 1))]) (rs := [.rng ((j : Int) + 1)]) [4, 5, 10, 11, 12, 14, 15] (.cons (rg (by omega)) <| .nil) (by kernel_rfl) fun a w hF hE => ?_)
        replace hO := hO.ext hE; clear hE
        have hsk := rsureK_step (s := s) (cs := cs) (cells := (raskR s rs wr h cs).1) (j := j) (by omega)
        rw [hl4] at hsk
        rw [show (cond (rallB s cs (memL cn (j : Int)) (raskR s rs wr h cs).1) (btB (memL cn (j : Int)) (rsureK s cs (raskR s rs wr h cs).1 (j - 1))) false) = true from (by unfold btB; rw [hq11, hm_]; exact hc12), cond_true] at hsk
        have hml_ := memL_len cn (j : Int); rw [hq11] at hml_
        replace hO := hO.row_rd (enc := encI) (fun _ => rfl) (by decide) 3 rfl (by omega)
        replace hO : Own w0 none_ [cel b1 (sS6 s v) 25, rdR encI 1 p2 n3 (raskR s rs wr h cs).1, rdR encI 1 p_ m_ (rsureK s cs (raskR s rs wr h cs).1 (j - 1)), rdR encI 1 p8 q9 (memL cn (j : Int))] w := hO
        replace hO : Own w0 none_ [cel b1 (sS6 s v) 25, rdR encI 1 p2 n3 (raskR s rs wr h cs).1, rdR encI 1 p_ m_ (rsureK s cs (raskR s rs wr h cs).1 (j - 1)), rdR encI 1 p8 q9 (rsureK s cs (raskR s rs wr h cs).1 (j + 1 - 1))] w := hO.cast (by rw [Nat.add_sub_cancel, hsk])
        replace hO := hO.sel [0, 1, 3] (by decide)
        exact ⟨_, by omega, j + 1, p8, q9, c10, rfl, ⟨by omega, by omega⟩, by rw [Nat.add_sub_cancel, hsk]; exact hq11, hF, hO⟩
      · refine (W_false ((evOp hF (by kernel_rfl)).trans (congrArg Value.bool hc12)) ?_)
        refine (W_skip ?_)
        refine (region_q {} TBok hF (F' := [(4, .slice cp cn cc), (5, pv b1), (10, .slice none 0 0), (11, iv 0), (12, .slice p2 n3 c4), (14, .slice p_ m_ cc_), (15, iv ((j : Int) + 1))]) (rs := [.rng ((j : Int) + 1)]) [4, 5, 10, 11, 12, 14, 15] (.cons (rg (by omega)) <| .nil) (by kernel_rfl) fun a w hF hE => ?_)
        replace hO := hO.ext hE; clear hE
        have hsk := rsureK_step (s := s) (cs := cs) (cells := (raskR s rs wr h cs).1) (j := j) (by omega)
        rw [hl4] at hsk
        rw [show (cond (rallB s cs (memL cn (j : Int)) (raskR s rs wr h cs).1) (btB (memL cn (j : Int)) (rsureK s cs (raskR s rs wr h cs).1 (j - 1))) false) = false from (by unfold btB; rw [hq11, hm_]; exact hc12), cond_false] at hsk
        replace hO := hO.drop1 3
        replace hO : Own w0 none_ [cel b1 (sS6 s v) 25, rdR encI 1 p2 n3 (raskR s rs wr h cs).1, rdR encI 1 p_ m_ (rsureK s cs (raskR s rs wr h cs).1 (j - 1))] w := hO
        replace hO : Own w0 none_ [cel b1 (sS6 s v) 25, rdR encI 1 p2 n3 (raskR s rs wr h cs).1, rdR encI 1 p_ m_ (rsureK s cs (raskR s rs wr h cs).1 (j + 1 - 1))] w := hO.cast (by rw [Nat.add_sub_cancel, hsk])
        exact ⟨_, by omega, j + 1, p_, m_, cc_, rfl, ⟨by omega, by omega⟩, by rw [Nat.add_sub_cancel, hsk]; exact hm_, hF, hO⟩
    · refine (W_false ((evOp hF (by kernel_rfl)).trans (congrArg Value.bool hc7)) ?_)
      have hjl : ¬ j < 2 ^ cn := by have h_ := of_decide_eq_false (by assumption : (decide ((j : Int) < (2 ^ cn))) = false); omega
      refine (W_exit ?_)
      refine W_seq ?_
      refine W_seq (region_q {} TBok hF (F' := [(10, .slice none 0 0), (11, iv 0), (14, .slice p_ m_ cc_), (72, .bool ((m_ : Int) == 0))]) (rs := []) [10, 11, 14, 72] .nil (by kernel_rfl) fun a w hF hE => ?_)
      replace hO := hO.ext hE; clear hE
      rcases Bool.eq_false_or_eq_true ((m_ : Int) == 0) with hc13 | hc13
      · refine (W_true ((evOp hF (by kernel_rfl)).trans (congrArg Value.bool hc13)) ?_)
        refine W_seq (region_q {} TBok hF (F' := [(10, .slice none 0 0), (11, iv 4), (14, .slice p_ m_ cc_)]) (rs := []) [10, 11, 14] .nil (by kernel_rfl) fun a w hF hE => ?_)
        replace hO := hO.ext hE; clear hE
        refine W_ret ?_
        show bodyPostM (FW none) 0 _ _ _ Exit.ret a w
        have hjj : j - 1 = 2 ^ cs.length - 1 := by rw [hl4]; omega
        have hres : sureR s rs wr h cs = ([], 4) := by rw [rsureR_eq, if_neg (by rw [hz]; simp), ← hjj, if_pos (List.length_eq_zero_iff.1 (by have h_ := hc13; simp at h_; omega))]
        exact leave_r TBok hF (.nil _) (vs := [.slice none 0 0, iv 4]) (rs := []) .nil (by kernel_rfl) ⟨none, 0, 0, by rw [hres]; rfl, by rw [hres]; rfl, by rw [hres]; exact (hO.nilRd encI 1).sel [3] (by decide)⟩
      · refine (W_false ((evOp hF (by kernel_rfl)).trans (congrArg Value.bool hc13)) ?_)
        refine (W_skip ?_)
        refine W_seq (region_q {} TBok hF (F' := [(10, .slice p_ m_ cc_), (11, iv 0)]) (rs := []) [10, 11] .nil (by kernel_rfl) fun a w hF hE => ?_)
        replace hO := hO.ext hE; clear hE
        refine W_ret ?_
        show bodyPostM (FW none) 0 _ _ _ Exit.ret a w
        have hjj : j - 1 = 2 ^ cs.length - 1 := by rw [hl4]; omega
        have hres : sureR s rs wr h cs = ((rsureK s cs (raskR s rs wr h cs).1 (j - 1)), 0) := by rw [rsureR_eq, if_neg (by rw [hz]; simp), ← hjj, if_neg (fun h2_ => by have h_ := hc13; simp at h_; rw [h2_] at hm_; exact h_ hm_.symm)]
        exact leave_r TBok hF (.nil _) (vs := [.slice p_ m_ cc_, iv 0]) (rs := []) .nil (by kernel_rfl) ⟨p_, m_, cc_, by rw [hres]; exact hm_, by rw [hres]; rfl, by rw [hres]; exact hO.sel [2] (by decide)⟩

end Go.Proofs.Ytgihgcclabodbaa.DK
