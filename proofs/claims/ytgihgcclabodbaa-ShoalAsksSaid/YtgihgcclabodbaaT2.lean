/- Walks: the reference's liars, and the cast that helps most. Printed by my gen.py out of shoal/w.py. -/
import Derived.Test.YtgihgcclabodbaaT1
import Derived.Test.YtgihgcclabodbaaSSure
namespace Go.Proofs.Ytgihgcclabodbaa.DK
open Go Go.Proofs
set_option linter.unusedVariables false
set_option linter.unusedSimpArgs false

theorem canR_len {s : Sea} {rs : List Rp} {wr h : Int} : (canR s rs wr h).1.length ≤ 80 := by
  unfold canR
  split
  · exact Nat.zero_le _
  · rename_i he
    split
    · exact Nat.zero_le _
    · have hv := (err_0 (s := s) (rs := rs) (by simpa using he)).1
      rw [canR1_eq]; exact Nat.le_trans (List.length_filter_le _ _) (cellsA_len hv)
theorem raskR_len {s : Sea} {rs : List Rp} {wr h : Int} {cs : List Cs} : (raskR s rs wr h cs).1.length ≤ 80 := by
  unfold raskR
  split
  · exact Nat.zero_le _
  · split
    · exact Nat.zero_le _
    · exact canR_len
theorem canR_sea {s : Sea} {rs : List Rp} {wr h : Int} (h1 : ¬ ((canR s rs wr h).2 ≠ 0 ∧ (canR s rs wr h).2 ≠ 12)) : seaB s = true := by
  cases hs : seaB s with
  | true => rfl
  | false =>
    exfalso; apply h1
    have he : err s rs = 10 := by unfold err chk; rw [hs]; simp
    unfold canR
    rw [if_pos (by omega), he]; exact ⟨by simp, by simp⟩
set_option maxHeartbeats 4000000 in
set_option maxRecDepth 100000 in
theorem refLiars_calls (s : Sea) (v : SV) (rs : List Rp) (p : Option Addr) (n c : Nat) (w0 : World) (hs : SeaR w0.heap.size w0 v s) (hx : Rd encRp 4 w0.heap.size w0 p n rs) :
    Calls Try.prog 27 #[.agg (sS6 s v), .slice p n c] w0 (fun e w' => ∃ p n c_, (liarR s rs).1.length = n ∧ e = .returned (.tuple #[.slice p n c_, iv (liarR s rs).2]) ∧ Own w0 none_ [rdR encI 1 p n (liarR s rs).1] w') := by
  have hl1 := hs.land.len; have hl2 := hs.drift.len; have hs1 := hs.land.size; have hs2 := hs.drift.size; have hr_ := hs.rg; unfold i64 at hr_; have hl3 := hx.len; have hs3 := hx.size
  refine calls_of_W Try.func27 rfl (by kernel_rfl) (args := [.agg (sS6 s v), .slice p n c]) fun a hF => ?_
  replace hF : Fr 70 [] [(0, .agg (sS6 s v)), (1, .slice p n c)] a := hF
  have hO : Own w0 none_ [] w0 := Own.start w0 _
  refine W_seq (region_seq ?_)
  refine op_box (i := 0) (t := 25) (v := .agg (sS6 s v)) (d := 2) hF hO (by kernel_rfl) fun a w b1 hF hO _ => ?_
  refine seq_quiet {} TBok hF (F' := [(1, .slice p n c), (2, pv b1), (4, .slice none 0 0), (5, iv 0)]) (rs := []) [1, 2] [] [1, 2, 4, 5] .nil (by kernel_rfl) fun a w hF hE => ?_
  replace hO := hO.ext hE; clear hE
  refine W_seq (region_seq ?_)
  refine seq_quiet {} TBok hF (F' := [(1, .slice p n c), (2, pv b1), (4, .slice none 0 0), (5, iv 0), (16, .agg (sS6 s v)), (17, .slice p n c)]) (rs := [.lds ⟨b1, 0, none⟩ (sL6 s v)]) [0, 1] [2, 3, 4, 5, 6, 7, 8, 9] [1, 2, 4, 5, 16, 17] (.cons (ldso hO.st 0 rfl 0 rfl) <| .nil) (by kernel_rfl) fun a w hF hE => ?_
  replace hO := hO.ext hE; clear hE
  refine op_call (i := 2) (f := 21) (args := #[.agg (sS6 s v), .slice p n c]) (d := some 18) TBok (by kernel_rfl) hF (by kernel_rfl) (refLeast_calls s v rs p n c _ (hs.upM hO.kp nom (Nat.le_refl _)) (hx.upM hO.kp nom (Nat.le_refl _))) fun e w hR => ?_
  obtain ⟨p2, n3, c4, hn5, he, hO2⟩ := hR
  refine ⟨_, he, fun a hF => ?_⟩
  replace hO := hO.joinE hO2; clear hO2 he
  refine seq_quiet {} TBok hF (F' := [(1, .slice p n c), (2, pv b1), (4, .slice none 0 0), (5, iv 0), (6, iv ((leastR s rs).1)), (8, iv ((leastR s rs).2.2))]) (rs := []) [3, 4, 5, 6, 7, 8, 9] [] [1, 2, 4, 5, 6, 8] .nil (by kernel_rfl) fun a w hF hE => ?_
  replace hO := hO.ext hE; clear hE
  refine W_seq ?_
  refine W_seq (region_q {} TBok hF (F' := [(1, .slice p n c), (2, pv b1), (4, .slice none 0 0), (5, iv 0), (6, iv ((leastR s rs).1)), (8, iv ((leastR s rs).2.2)), (23, .bool ((leastR s rs).2.2 != 0))]) (rs := []) [1, 2, 4, 5, 6, 8, 23] .nil (by kernel_rfl) fun a w hF hE => ?_)
  replace hO := hO.ext hE; clear hE
  rcases Bool.eq_false_or_eq_true ((leastR s rs).2.2 != 0) with hc6 | hc6
  · refine (W_true ((evOp hF (by kernel_rfl)).trans (congrArg Value.bool hc6)) ?_)
    have hlz := (by assumption : ((leastR s rs).2.2 != 0) = true)
    refine W_seq (region_q {} TBok hF (F' := [(1, .slice p n c), (2, pv b1), (4, .slice none 0 0), (5, iv ((leastR s rs).2.2)), (6, iv ((leastR s rs).1))]) (rs := []) [1, 2, 4, 5, 6] .nil (by kernel_rfl) fun a w hF hE => ?_)
    replace hO := hO.ext hE; clear hE
    refine W_ret ?_
    show bodyPostM (FW none) 0 _ _ _ Exit.ret a w
    have hres : liarR s rs = ([], (leastR s rs).2.2) := by exact liar_least (by simpa using hlz)
    exact leave_r TBok hF (.nil _) (vs := [.slice none 0 0, iv ((leastR s rs).2.2)]) (rs := []) .nil (by kernel_rfl) ⟨none, 0, 0, by rw [hres]; rfl, by rw [hres]; rfl, by rw [hres]; exact (hO.nilRd encI 1).sel [2] (by decide)⟩
  · refine (W_false ((evOp hF (by kernel_rfl)).trans (congrArg Value.bool hc6)) ?_)
    have hlz : (leastR s rs).2.2 = 0 := by have h_ := (by assumption : ((leastR s rs).2.2 != 0) = false); simpa using h_
    obtain ⟨her, hm, hleq⟩ := least_0 hlz
    obtain ⟨hv, hr⟩ := err_0 her
    have hv1 := sea_ok hv; have hrp := rp_ok hr; have hrl := rqs_len (s := s) (rs := rs)
    have hl1 : (leastR s rs).1 = minT s rs := by rw [hleq]
    refine (W_skip ?_)
    refine W_seq (region_q {} TBok hF (F' := [(1, .slice p n c), (2, pv b1), (4, .slice none 0 0), (5, iv 0), (6, iv ((leastR s rs).1)), (9, .slice none 0 0)]) (rs := []) [1, 2, 4, 5, 6, 9] .nil (by kernel_rfl) fun a w hF hE => ?_)
    replace hO := hO.ext hE; clear hE
    refine W_seq ?_
    refine W_seq (region_q {} TBok hF (F' := [(1, .slice p n c), (2, pv b1), (4, .slice none 0 0), (5, iv 0), (6, iv ((leastR s rs).1)), (9, .slice none 0 0), (10, iv 0)]) (rs := []) [1, 2, 4, 5, 6, 9, 10] .nil (by kernel_rfl) fun a w hF hE => ?_)
    replace hO := hO.ext hE; clear hE
    refine (W_block ?_)
    replace hO := hO.nilRow 3 1
    refine (W_loop (fun m a w => ∃ (k : Nat), ∃ (p_ : Option Addr), ∃ (q_ : Nat), ∃ (cc_ : Nat), m = n - k ∧ k ≤ n ∧ (liarK s rs k).length = q_ ∧ Fr 70 [] [(1, .slice p n c), (2, pv b1), (4, .slice none 0 0), (5, iv 0), (6, iv ((leastR s rs).1)), (9, .slice p_ q_ cc_), (10, iv (k : Int))] a ∧ Own w0 none_ [cel b1 (sS6 s v) 25, rdR encI 1 p2 n3 (leastR s rs).2.1, rowR 3 1 (.slice p_ q_ cc_) q_ ((liarK s rs k).flatMap encI)] w) _ ⟨0, none, 0, 0, rfl, Nat.zero_le _, rfl, hF, hO⟩ ?_)
    clear hF hO
    rintro _ a w ⟨k, p_, q_, cc_, rfl, hk, hln, hF, hO⟩
    have hlk := liarK_len s rs k
    refine W_seq ?_
    refine W_seq (region_q {} TBok hF (F' := [(1, .slice p n c), (2, pv b1), (4, .slice none 0 0), (5, iv 0), (6, iv ((leastR s rs).1)), (9, .slice p_ q_ cc_), (10, iv (k : Int)), (28, .bool (decide ((k : Int) < (n : Int))))]) (rs := []) [1, 2, 4, 5, 6, 9, 10, 28] .nil (by kernel_rfl) fun a w hF hE => ?_)
    replace hO := hO.ext hE; clear hE
    rcases Bool.eq_false_or_eq_true (decide ((k : Int) < (n : Int))) with hc7 | hc7
    · refine (W_true ((evOp hF (by kernel_rfl)).trans (congrArg Value.bool hc7)) ?_)
      have hc7_ := of_decide_eq_true hc7
      refine (W_skip ?_)
      refine W_seq (W_block ?_)
      refine W_seq (draw_start (R := none_) mixed [] 14 (by kernel_rfl) fun w hS => ?_)
      replace hO := hO.ext hS
      refine draw_q {} TBok hF hS (F' := [(1, .slice p n c), (2, pv b1), (4, .slice none 0 0), (5, iv 0), (6, iv ((leastR s rs).1)), (9, .slice p_ q_ cc_), (10, iv (k : Int)), (32, .agg (sS6 s v)), (33, .slice p n c), (34, iv ((leastR s rs).1)), (39, iv ((rs.getD k default).hr))]) (rs := [.lds ⟨b1, 0, none⟩ (sL6 s v), .idx p n (k : Int) 4 (adr p 4 (k : Int)), .ld (adr p 4 (k : Int)) (iv ((rs.getD k default).hr))]) [0, 1, 2, 3, 4, 5, 6, 7] 14 6 (by kernel_rfl) #[true, true, true, true, true, true, true, true, false, false, false, false, false, false] [1, 2, 4, 5, 6, 9, 10, 32, 33, 34, 39] (.cons (ldso hO.st 0 rfl 0 rfl) <| .cons (ix hx (by omega) (by omega)) <| .cons (ldx hO.st nom hx (by omega) (by omega) 0 rfl) <| .nil) (by kernel_rfl) (by kernel_rfl) fun a hF => ?_
      replace hS := Kp.refl none_ w
      refine any_pick (rs := [8]) (by kernel_rfl) (by simp) fun w hE => all1 ?_
      replace hO := hO.ext hE; replace hS := hS.trans (Ext.kp hE)
      refine op_call (i := 8) (f := 25) (args := #[.agg (sS6 s v), .slice p n c, iv ((leastR s rs).1), iv ((rs.getD k default).hr)]) (d := some 40) TBok (by kernel_rfl) hF (by kernel_rfl) (refCan_calls s v rs p n c ((leastR s rs).1) ((rs.getD k default).hr) _ (hs.upM hO.kp nom (Nat.le_refl _)) (hx.upM hO.kp nom (Nat.le_refl _))) fun e w hR => ?_
      obtain ⟨p8, n9, c10, hn11, he, hO2⟩ := hR
      refine ⟨_, he, fun a hF => ⟨.inr (hS.trans (Ext.kp hO2.kp)), ?_⟩⟩
      replace hS := hS.trans (Ext.kp hO2.kp)
      replace hO := hO.joinE hO2; clear hO2 he
      replace hO : Own w0 none_ [cel b1 (sS6 s v) 25, rdR encI 1 p2 n3 (leastR s rs).2.1, rowR 3 1 (.slice p_ q_ cc_) q_ ((liarK s rs k).flatMap encI), rdR encI 1 p8 n9 (canR s rs ((leastR s rs).1) ((rs.getD k default).hr)).1] w := hO
      refine draw_q0 {} TBok hF hS (F' := [(1, .slice p n c), (2, pv b1), (4, .slice none 0 0), (5, iv 0), (6, iv ((leastR s rs).1)), (9, .slice p_ q_ cc_), (10, iv (k : Int)), (11, .slice p8 n9 c10)]) [9, 10, 11, 12, 13] 5 0 (by kernel_rfl) #[true, true, true, true, true, true, true, true, true, true, true, true, true, true] [1, 2, 4, 5, 6, 9, 10, 11] (by kernel_rfl) (by kernel_rfl) fun a hF => ?_
      refine any_done (by kernel_rfl) (fun w hE => ?_) _
      replace hO := hO.ext hE
      replace hF := hF.sel [1, 2, 4, 5, 6, 9, 10, 11]
      replace hF : Fr 70 [] [(1, .slice p n c), (2, pv b1), (4, .slice none 0 0), (5, iv 0), (6, iv ((leastR s rs).1)), (9, .slice p_ q_ cc_), (10, iv (k : Int)), (11, .slice p8 n9 c10)] a := hF
      refine W_seq (region_q {} TBok hF (F' := [(1, .slice p n c), (2, pv b1), (4, .slice none 0 0), (5, iv 0), (6, iv ((leastR s rs).1)), (9, .slice p_ q_ cc_), (10, iv (k : Int)), (11, .slice p8 n9 c10), (13, .bool false)]) (rs := []) [1, 2, 4, 5, 6, 9, 10, 11, 13] .nil (by kernel_rfl) fun a w hF hE => ?_)
      replace hO := hO.ext hE; clear hE
      refine W_seq ?_
      refine W_seq (region_q {} TBok hF (F' := [(1, .slice p n c), (2, pv b1), (4, .slice none 0 0), (5, iv 0), (6, iv ((leastR s rs).1)), (9, .slice p_ q_ cc_), (10, iv (k : Int)), (11, .slice p8 n9 c10), (13, .bool false), (14, iv 0)]) (rs := []) [1, 2, 4, 5, 6, 9, 10, 11, 13, 14] .nil (by kernel_rfl) fun a w hF hE => ?_)
      replace hO := hO.ext hE; clear hE
      refine (W_block ?_)
      have hrk := hrp.2 k (by omega)
      have hsz80 : n9 ≤ 80 := by rw [← hn11]; exact canR_len
      refine (W_loop (fun m a w => ∃ (m_ : Nat), ∃ (cn_ : Bool), m = n9 - m_ ∧ m_ ≤ n9 ∧ cn_ = (((canR s rs ((leastR s rs).1) ((rs.getD k default).hr)).1).take m_).any (fun c => !(falB s (rs.getD k default) c)) ∧ Fr 70 [] [(1, .slice p n c), (2, pv b1), (4, .slice none 0 0), (5, iv 0), (6, iv ((leastR s rs).1)), (9, .slice p_ q_ cc_), (10, iv (k : Int)), (11, .slice p8 n9 c10), (13, .bool cn_), (14, iv (m_ : Int))] a ∧ Own w0 none_ [cel b1 (sS6 s v) 25, rdR encI 1 p2 n3 (leastR s rs).2.1, rowR 3 1 (.slice p_ q_ cc_) q_ ((liarK s rs k).flatMap encI), rdR encI 1 p8 n9 (canR s rs ((leastR s rs).1) ((rs.getD k default).hr)).1] w) _ ⟨0, false, rfl, Nat.zero_le _, rfl, hF, hO⟩ ?_)
      clear hF hO
      rintro _ a w ⟨m_, cn_, rfl, hm_, hcn, hF, hO⟩
      have hlcn := hn11
      refine W_seq ?_
      refine W_seq (region_q {} TBok hF (F' := [(1, .slice p n c), (2, pv b1), (4, .slice none 0 0), (5, iv 0), (6, iv ((leastR s rs).1)), (9, .slice p_ q_ cc_), (10, iv (k : Int)), (11, .slice p8 n9 c10), (13, .bool cn_), (14, iv (m_ : Int)), (46, .bool (decide ((m_ : Int) < (n9 : Int))))]) (rs := []) [1, 2, 4, 5, 6, 9, 10, 11, 13, 14, 46] .nil (by kernel_rfl) fun a w hF hE => ?_)
      replace hO := hO.ext hE; clear hE
      rcases Bool.eq_false_or_eq_true (decide ((m_ : Int) < (n9 : Int))) with hc12 | hc12
      · refine (W_true ((evOp hF (by kernel_rfl)).trans (congrArg Value.bool hc12)) ?_)
        have hc12_ := of_decide_eq_true hc12
        refine (W_skip ?_)
        refine W_seq (W_block ?_)
        refine (region_d { sy := [1] } mixed TBok hF (F' := [(1, .slice p n c), (2, pv b1), (4, .slice none 0 0), (5, iv 0), (6, iv ((leastR s rs).1)), (9, .slice p_ q_ cc_), (10, iv (k : Int)), (11, .slice p8 n9 c10), (13, .bool (cond cn_ true (!(falB s (rs.getD k default) ((canR s rs ((leastR s rs).1) ((rs.getD k default).hr)).1.getD m_ default))))), (14, iv (m_ : Int))]) (rs := [.und (!cn_) (.lds ⟨b1, 0, none⟩ (sL6 s v)), .und (!cn_) (.idx p n (k : Int) 4 (adr p 4 (k : Int))), .und (!cn_) (.lds (adr p 4 (k : Int)) [iv ((rs.getD k default).hr), iv ((rs.getD k default).cell), iv ((rs.getD k default).far), .bool ((rs.getD k default).th)]), .und (!cn_) (.idx p8 n9 (m_ : Int) 1 (adr p8 1 (m_ : Int))), .und (!cn_) (.ld (adr p8 1 (m_ : Int)) (iv ((canR s rs ((leastR s rs).1) ((rs.getD k default).hr)).1.getD m_ default))), .und (!cn_) (.call 66 #[.agg (sS6 s v), .agg #[iv ((rs.getD k default).hr), iv ((rs.getD k default).cell), iv ((rs.getD k default).far), .bool ((rs.getD k default).th)], iv ((canR s rs ((leastR s rs).1) ((rs.getD k default).hr)).1.getD m_ default)] (.bool (falB s (rs.getD k default) ((canR s rs ((leastR s rs).1) ((rs.getD k default).hr)).1.getD m_ default))))]) [1, 2, 4, 5, 6, 9, 10, 11, 13, 14] (.cons (fun hg => (ldso hO.st 0 rfl 0 rfl)) <| .cons (fun hg => (ix hx (by omega) (by omega))) <| .cons (fun hg => (ldsx hO.st nom hx (by omega) (by omega) rfl)) <| .cons (fun hg => (ix (enc := encI) (xs := (canR s rs ((leastR s rs).1) ((rs.getD k default).hr)).1) ((hO.get 3 rfl)) (by omega) (by omega))) <| .cons (fun hg => (ldR (enc := encI) (xs := (canR s rs ((leastR s rs).1) ((rs.getD k default).hr)).1) (a := p8) (i := (m_ : Int)) (fun x_ hx_ => ((hO.st x_ hx_).get 3 rfl)) (by omega) (by omega) 0 rfl)) <| .cons (fun hg => (fun w hE => refUntrue_calls s v (rs.getD k default) ((canR s rs ((leastR s rs).1) ((rs.getD k default).hr)).1.getD m_ default) w hv (by omega) (by have h_ := mem_cellsA (canR_mem (getD_mem (show m_ < ((canR s rs ((leastR s rs).1) ((rs.getD k default).hr)).1).length by omega))); omega))) <| .nil) (by kernel_rfl) (by kernel_rfl) fun a w hF hE => ?_)
        replace hO := hO.ext hE; clear hE
        refine (region_q {} TBok hF (F' := [(1, .slice p n c), (2, pv b1), (4, .slice none 0 0), (5, iv 0), (6, iv ((leastR s rs).1)), (9, .slice p_ q_ cc_), (10, iv (k : Int)), (11, .slice p8 n9 c10), (13, .bool (cond cn_ true (!(falB s (rs.getD k default) ((canR s rs ((leastR s rs).1) ((rs.getD k default).hr)).1.getD m_ default))))), (14, iv ((m_ : Int) + 1))]) (rs := [.rng ((m_ : Int) + 1)]) [1, 2, 4, 5, 6, 9, 10, 11, 13, 14] (.cons (rg (by omega)) <| .nil) (by kernel_rfl) fun a w hF hE => ?_)
        replace hO := hO.ext hE; clear hE
        exact ⟨_, by omega, m_ + 1, _, rfl, by omega, by rw [any_take _ (by omega), ← hcn]; cases cn_ <;> rfl, hF, hO⟩
      · refine (W_false ((evOp hF (by kernel_rfl)).trans (congrArg Value.bool hc12)) ?_)
        have hc12_ := of_decide_eq_false hc12
        refine (W_exit ?_)
        refine W_seq (region_q {} TBok hF (F' := [(1, .slice p n c), (2, pv b1), (4, .slice none 0 0), (5, iv 0), (6, iv ((leastR s rs).1)), (9, .slice p_ q_ cc_), (10, iv (k : Int)), (64, .bool (!cn_))]) (rs := []) [1, 2, 4, 5, 6, 9, 10, 64] .nil (by kernel_rfl) fun a w hF hE => ?_)
        replace hO := hO.ext hE; clear hE
        rcases Bool.eq_false_or_eq_true (!cn_) with hc13 | hc13
        · refine (W_true ((evOp hF (by kernel_rfl)).trans (congrArg Value.bool hc13)) ?_)
          refine (region_seq ?_)
          refine seq_quiet {} TBok hF (F' := [(1, .slice p n c), (2, pv b1), (4, .slice none 0 0), (5, iv 0), (6, iv ((leastR s rs).1)), (9, .slice p_ q_ cc_), (10, iv (k : Int)), (65, .slice p_ q_ cc_), (66, iv (k : Int))]) (rs := []) [0, 1] [2, 3, 4] [1, 2, 4, 5, 6, 9, 10, 65, 66] .nil (by kernel_rfl) fun a w hF hE => ?_
          replace hO := hO.ext hE; clear hE
          refine op_bsl (i := 2) (t := 22) (e := 3) (len := 1) (ps := [(0, iv (k : Int))]) (d := 67) (sz := 1) (cs := #[iv (k : Int)]) (z := iv 0) hF hO (by kernel_rfl) (by kernel_rfl) (by kernel_rfl) (by kernel_rfl) (by kernel_rfl) fun a w b14 hF hO _ => ?_
          refine op_appR (i := 3) (t := 22) (ty := 22) (e := 3) (d := 68) rowT22 hF hO (by kernel_rfl) 2 rfl 4 rfl (by kernel_rfl) (by omega) fun a w p15 c16 hF hO hx => ?_
          clear hx
          refine seq_quiet {} TBok hF (F' := [(1, .slice p n c), (2, pv b1), (4, .slice none 0 0), (5, iv 0), (6, iv ((leastR s rs).1)), (9, .slice p15 (q_ + 1) c16), (10, iv (k : Int))]) (rs := []) [4] [] [1, 2, 4, 5, 6, 9, 10] .nil (by kernel_rfl) fun a w hF hE => ?_
          replace hO := hO.ext hE; clear hE
          refine (region_q {} TBok hF (F' := [(1, .slice p n c), (2, pv b1), (4, .slice none 0 0), (5, iv 0), (6, iv ((leastR s rs).1)), (9, .slice p15 (q_ + 1) c16), (10, iv ((k : Int) + 1))]) (rs := [.rng ((k : Int) + 1)]) [1, 2, 4, 5, 6, 9, 10] (.cons (rg (by omega)) <| .nil) (by kernel_rfl) fun a w hF hE => ?_)
          replace hO := hO.ext hE; clear hE
          have hany := liar_any hv hr hm (i := k) (by omega)
          rw [← hl1, ← List.take_of_length_le (l := (canR s rs ((leastR s rs).1) ((rs.getD k default).hr)).1) (show ((canR s rs ((leastR s rs).1) ((rs.getD k default).hr)).1).length ≤ m_ by omega), ← hcn] at hany
          have hcb : cn_ = false := by have h_ := hc13; simpa using h_
          rw [hcb] at hany
          replace hO := hO.drop1 4
          replace hO := hO.drop1 3
          replace hO : Own w0 none_ [cel b1 (sS6 s v) 25, rdR encI 1 p2 n3 (leastR s rs).2.1, rowR 3 1 (.slice p15 (q_ + 1) c16) (q_ + 1) (((liarK s rs k).flatMap encI) ++ (#[iv (k : Int)] : Array Value).toList)] w := hO
          replace hO : Own w0 none_ [cel b1 (sS6 s v) 25, rdR encI 1 p2 n3 (leastR s rs).2.1, rowR 3 1 (.slice p15 (q_ + 1) c16) (q_ + 1) ((liarK s rs (k + 1)).flatMap encI)] w := hO.cast (by rw [liarK, ← hany, cond_false, List.flatMap_append] <;> rfl)
          exact ⟨_, by omega, k + 1, p15, (q_ + 1), c16, rfl, by omega, by rw [liarK, ← hany, cond_false]; rw [List.length_append, hln]; rfl, hF, hO⟩
        · refine (W_false ((evOp hF (by kernel_rfl)).trans (congrArg Value.bool hc13)) ?_)
          refine (W_skip ?_)
          refine (region_q {} TBok hF (F' := [(1, .slice p n c), (2, pv b1), (4, .slice none 0 0), (5, iv 0), (6, iv ((leastR s rs).1)), (9, .slice p_ q_ cc_), (10, iv ((k : Int) + 1))]) (rs := [.rng ((k : Int) + 1)]) [1, 2, 4, 5, 6, 9, 10] (.cons (rg (by omega)) <| .nil) (by kernel_rfl) fun a w hF hE => ?_)
          replace hO := hO.ext hE; clear hE
          have hany := liar_any hv hr hm (i := k) (by omega)
          rw [← hl1, ← List.take_of_length_le (l := (canR s rs ((leastR s rs).1) ((rs.getD k default).hr)).1) (show ((canR s rs ((leastR s rs).1) ((rs.getD k default).hr)).1).length ≤ m_ by omega), ← hcn] at hany
          have hcb : cn_ = true := by have h_ := hc13; simpa using h_
          rw [hcb] at hany
          replace hO := hO.drop1 3
          replace hO : Own w0 none_ [cel b1 (sS6 s v) 25, rdR encI 1 p2 n3 (leastR s rs).2.1, rowR 3 1 (.slice p_ q_ cc_) q_ ((liarK s rs k).flatMap encI)] w := hO
          replace hO : Own w0 none_ [cel b1 (sS6 s v) 25, rdR encI 1 p2 n3 (leastR s rs).2.1, rowR 3 1 (.slice p_ q_ cc_) q_ ((liarK s rs (k + 1)).flatMap encI)] w := hO.cast (by rw [liarK, ← hany, cond_true])
          exact ⟨_, by omega, k + 1, p_, q_, cc_, rfl, by omega, by rw [liarK, ← hany, cond_true]; exact hln, hF, hO⟩
    · refine (W_false ((evOp hF (by kernel_rfl)).trans (congrArg Value.bool hc7)) ?_)
      have hc7_ := of_decide_eq_false hc7
      refine (W_exit ?_)
      refine W_seq (region_q {} TBok hF (F' := [(4, .slice p_ q_ cc_), (5, iv 0)]) (rs := []) [4, 5] .nil (by kernel_rfl) fun a w hF hE => ?_)
      replace hO := hO.ext hE; clear hE
      refine W_ret ?_
      show bodyPostM (FW none) 0 _ _ _ Exit.ret a w
      have hkk : k = rs.length := by omega
      replace hO := hO.row_rd (enc := encI) (fun _ => rfl) (by decide) 2 rfl (by omega)
      replace hO : Own w0 none_ [cel b1 (sS6 s v) 25, rdR encI 1 p2 n3 (leastR s rs).2.1, rdR encI 1 p_ q_ (liarK s rs k)] w := hO
      have hres : liarR s rs = (liarK s rs k, 0) := by unfold liarR; rw [if_neg (by omega), if_neg (by omega), hkk]
      exact leave_r TBok hF (.nil _) (vs := [.slice p_ q_ cc_, iv 0]) (rs := []) .nil (by kernel_rfl) ⟨p_, q_, cc_, by rw [hres]; exact hln, by rw [hres]; rfl, by rw [hres]; exact hO.sel [2] (by decide)⟩

set_option maxHeartbeats 4000000 in
set_option maxRecDepth 100000 in
theorem refAsked_calls (s : Sea) (v : SV) (rs : List Rp) (p : Option Addr) (n c : Nat) (wr h : Int) (cs : List Cs) (cp : Option Addr) (cn cc : Nat) (w0 : World) (hs : SeaR w0.heap.size w0 v s) (hx : Rd encRp 4 w0.heap.size w0 p n rs) (hcs : Rd encCs 2 w0.heap.size w0 cp cn cs) :
    Calls Try.prog 69 #[.agg (sS6 s v), .slice p n c, iv wr, iv h, .slice cp cn cc] w0 (fun e w' => ∃ p n c_, (raskR s rs wr h cs).1.length = n ∧ e = .returned (.tuple #[.slice p n c_, iv (raskR s rs wr h cs).2]) ∧ Own w0 none_ [rdR encI 1 p n (raskR s rs wr h cs).1] w') := by
  have hl1 := hs.land.len; have hl2 := hs.drift.len; have hs1 := hs.land.size; have hs2 := hs.drift.size; have hr_ := hs.rg; unfold i64 at hr_; have hl3 := hx.len; have hs3 := hx.size; have hl4 := hcs.len; have hs4 := hcs.size
  refine calls_of_W Try.func69 rfl (by kernel_rfl) (args := [.agg (sS6 s v), .slice p n c, iv wr, iv h, .slice cp cn cc]) fun a hF => ?_
  replace hF : Fr 67 [] [(0, .agg (sS6 s v)), (1, .slice p n c), (2, iv wr), (3, iv h), (4, .slice cp cn cc)] a := hF
  have hO : Own w0 none_ [] w0 := Own.start w0 _
  refine W_seq (region_seq ?_)
  refine op_box (i := 0) (t := 25) (v := .agg (sS6 s v)) (d := 5) hF hO (by kernel_rfl) fun a w b1 hF hO _ => ?_
  refine seq_quiet {} TBok hF (F' := [(1, .slice p n c), (2, iv wr), (3, iv h), (4, .slice cp cn cc), (5, pv b1), (10, .slice none 0 0), (11, iv 0)]) (rs := []) [1, 2] [] [1, 2, 3, 4, 5, 10, 11] .nil (by kernel_rfl) fun a w hF hE => ?_
  replace hO := hO.ext hE; clear hE
  refine W_seq (region_seq ?_)
  refine seq_quiet {} TBok hF (F' := [(4, .slice cp cn cc), (5, pv b1), (10, .slice none 0 0), (11, iv 0), (17, .agg (sS6 s v)), (18, .slice p n c), (19, iv wr), (20, iv h)]) (rs := [.lds ⟨b1, 0, none⟩ (sL6 s v)]) [0, 1, 2, 3] [4, 5, 6, 7, 8, 9] [4, 5, 10, 11, 17, 18, 19, 20] (.cons (ldso hO.st 0 rfl 0 rfl) <| .nil) (by kernel_rfl) fun a w hF hE => ?_
  replace hO := hO.ext hE; clear hE
  refine op_call (i := 4) (f := 25) (args := #[.agg (sS6 s v), .slice p n c, iv wr, iv h]) (d := some 21) TBok (by kernel_rfl) hF (by kernel_rfl) (refCan_calls s v rs p n c wr h _ (hs.upM hO.kp nom (Nat.le_refl _)) (hx.upM hO.kp nom (Nat.le_refl _))) fun e w hR => ?_
  obtain ⟨p2, n3, c4, hn5, he, hO2⟩ := hR
  refine ⟨_, he, fun a hF => ?_⟩
  replace hO := hO.joinE hO2; clear hO2 he
  refine seq_quiet {} TBok hF (F' := [(4, .slice cp cn cc), (5, pv b1), (10, .slice none 0 0), (11, iv 0), (12, .slice p2 n3 c4), (13, iv ((canR s rs wr h).2))]) (rs := []) [5, 6, 7, 8, 9] [] [4, 5, 10, 11, 12, 13] .nil (by kernel_rfl) fun a w hF hE => ?_
  replace hO := hO.ext hE; clear hE
  refine W_seq ?_
  refine W_seq (region_q { sy := [2] } TBok hF (F' := [(4, .slice cp cn cc), (5, pv b1), (10, .slice none 0 0), (11, iv 0), (12, .slice p2 n3 c4), (13, iv ((canR s rs wr h).2)), (29, .bool (cond ((canR s rs wr h).2 != 0) ((canR s rs wr h).2 != 12) false))]) (rs := []) [4, 5, 10, 11, 12, 13, 29] .nil (by kernel_rfl) fun a w hF hE => ?_)
  replace hO := hO.ext hE; clear hE
  rcases Bool.eq_false_or_eq_true (cond ((canR s rs wr h).2 != 0) ((canR s rs wr h).2 != 12) false) with hc6 | hc6
  · refine (W_true ((evOp hF (by kernel_rfl)).trans (congrArg Value.bool hc6)) ?_)
    have hce := andc (by assumption : (cond ((canR s rs wr h).2 != 0) ((canR s rs wr h).2 != 12) false) = true)
    have hce2 : (canR s rs wr h).2 ≠ 0 ∧ (canR s rs wr h).2 ≠ 12 := ⟨by simpa using hce.1, by simpa using hce.2⟩
    refine W_seq (region_q {} TBok hF (F' := [(4, .slice cp cn cc), (5, pv b1), (10, .slice none 0 0), (11, iv ((canR s rs wr h).2)), (12, .slice p2 n3 c4), (13, iv ((canR s rs wr h).2))]) (rs := []) [4, 5, 10, 11, 12, 13] .nil (by kernel_rfl) fun a w hF hE => ?_)
    replace hO := hO.ext hE; clear hE
    refine W_ret ?_
    show bodyPostM (FW none) 0 _ _ _ Exit.ret a w
    have hres : raskR s rs wr h cs = ([], (canR s rs wr h).2) := by unfold raskR; rw [if_pos hce2]
    exact leave_r TBok hF (.nil _) (vs := [.slice none 0 0, iv ((canR s rs wr h).2)]) (rs := []) .nil (by kernel_rfl) ⟨none, 0, 0, by rw [hres]; rfl, by rw [hres]; rfl, by rw [hres]; exact (hO.nilRd encI 1).sel [2] (by decide)⟩
  · refine (W_false ((evOp hF (by kernel_rfl)).trans (congrArg Value.bool hc6)) ?_)
    have hce2 : ¬ ((canR s rs wr h).2 ≠ 0 ∧ (canR s rs wr h).2 ≠ 12) := fun h_ => by have h2_ := (by assumption : (cond ((canR s rs wr h).2 != 0) ((canR s rs wr h).2 != 12) false) = false); simp [h_.1, h_.2] at h2_
    have hsea := canR_sea hce2
    have hv1 := sea_ok hsea
    refine (W_skip ?_)
    refine W_seq (region_q {} TBok hF (F' := [(4, .slice cp cn cc), (5, pv b1), (10, .slice none 0 0), (11, iv 0), (12, .slice p2 n3 c4), (13, iv ((canR s rs wr h).2)), (14, .bool (inB (cn : Int) 1 8))]) (rs := [.call 40 #[iv (cn : Int), iv 1, iv 8] (.bool (inB (cn : Int) 1 8))]) [4, 5, 10, 11, 12, 13, 14] (.cons (fun w _ => In_calls _ _ _ w) <| .nil) (by kernel_rfl) fun a w hF hE => ?_)
    replace hO := hO.ext hE; clear hE
    refine W_seq ?_
    refine W_seq (region_q {} TBok hF (F' := [(4, .slice cp cn cc), (5, pv b1), (10, .slice none 0 0), (11, iv 0), (12, .slice p2 n3 c4), (13, iv ((canR s rs wr h).2)), (14, .bool (inB (cn : Int) 1 8)), (15, iv 0)]) (rs := []) [4, 5, 10, 11, 12, 13, 14, 15] .nil (by kernel_rfl) fun a w hF hE => ?_)
    replace hO := hO.ext hE; clear hE
    refine (W_block ?_)
    refine (W_loop (fun m a w => ∃ (k : Nat), ∃ (ok : Bool), m = cn - k ∧ k ≤ cn ∧ (ok && (cs.drop k).all (cs1B s)) = csB s cs ∧ Fr 67 [] [(4, .slice cp cn cc), (5, pv b1), (10, .slice none 0 0), (11, iv 0), (12, .slice p2 n3 c4), (13, iv ((canR s rs wr h).2)), (14, .bool ok), (15, iv (k : Int))] a ∧ Own w0 none_ [cel b1 (sS6 s v) 25, rdR encI 1 p2 n3 (canR s rs wr h).1] w) _ ⟨0, _, rfl, Nat.zero_le _, (by rw [csB, hl4]; rfl), hF, hO⟩ ?_)
    clear hF hO
    rintro _ a w ⟨k, ok, rfl, hk, hok, hF, hO⟩
    refine W_seq ?_
    refine W_seq (region_q { sy := [1] } TBok hF (F' := [(4, .slice cp cn cc), (5, pv b1), (10, .slice none 0 0), (11, iv 0), (12, .slice p2 n3 c4), (13, iv ((canR s rs wr h).2)), (14, .bool ok), (15, iv (k : Int)), (40, .bool (cond ok (decide ((k : Int) < (cn : Int))) false))]) (rs := []) [4, 5, 10, 11, 12, 13, 14, 15, 40] .nil (by kernel_rfl) fun a w hF hE => ?_)
    replace hO := hO.ext hE; clear hE
    rcases Bool.eq_false_or_eq_true (cond ok (decide ((k : Int) < (cn : Int))) false) with hc7 | hc7
    · refine (W_true ((evOp hF (by kernel_rfl)).trans (congrArg Value.bool hc7)) ?_)
      have hoc := andc (by assumption : (cond ok (decide ((k : Int) < (cn : Int))) false) = true)
      have hok1 := hoc.1
      have hkn := of_decide_eq_true hoc.2
      refine (W_skip ?_)
      refine W_seq (W_block ?_)
      refine (region_d { sy := [12] } mixed TBok hF (F' := [(4, .slice cp cn cc), (5, pv b1), (10, .slice none 0 0), (11, iv 0), (12, .slice p2 n3 c4), (13, iv ((canR s rs wr h).2)), (14, .bool (cond (inB ((cs.getD k default).cell) 0 ((s.wide * s.high) - 1)) (inB ((cs.getD k default).far) 0 9) false)), (15, iv (k : Int))]) (rs := [.idx cp cn (k : Int) 2 (adr cp 2 (k : Int)), .ld (adr cp 2 (k : Int)) (iv ((cs.getD k default).cell)), .ld ⟨b1, 0, none⟩ (iv s.wide), .ld ⟨b1, 1, none⟩ (iv s.high), .rng (s.wide * s.high), .rng ((s.wide * s.high) - 1), .call 40 #[iv ((cs.getD k default).cell), iv 0, iv ((s.wide * s.high) - 1)] (.bool (inB ((cs.getD k default).cell) 0 ((s.wide * s.high) - 1))), .und (inB ((cs.getD k default).cell) 0 ((s.wide * s.high) - 1)) (.idx cp cn (k : Int) 2 (adr cp 2 (k : Int))), .und (inB ((cs.getD k default).cell) 0 ((s.wide * s.high) - 1)) (.ld ((adr cp 2 (k : Int)).add 1) (iv ((cs.getD k default).far))), .und (inB ((cs.getD k default).cell) 0 ((s.wide * s.high) - 1)) (.call 40 #[iv ((cs.getD k default).far), iv 0, iv 9] (.bool (inB ((cs.getD k default).far) 0 9)))]) [4, 5, 10, 11, 12, 13, 14, 15] (.cons (ix hcs (by omega) (by omega)) <| .cons (ldx hO.st nom hcs (by omega) (by omega) 0 rfl) <| .cons (ldo hO.st 0 rfl 0 rfl) <| .cons (ldo hO.st 0 rfl 1 rfl) <| .cons (rg (by unfold nC at hv1; omega)) <| .cons (rg (by unfold nC at hv1; omega)) <| .cons (fun w _ => In_calls _ _ _ w) <| .cons (fun hg => (ix hcs (by omega) (by omega))) <| .cons (fun hg => (ldx hO.st nom hcs (by omega) (by omega) 1 rfl)) <| .cons (fun hg => (fun w _ => In_calls _ _ _ w)) <| .nil) (by kernel_rfl) (by kernel_rfl) fun a w hF hE => ?_)
      replace hO := hO.ext hE; clear hE
      refine (region_q {} TBok hF (F' := [(4, .slice cp cn cc), (5, pv b1), (10, .slice none 0 0), (11, iv 0), (12, .slice p2 n3 c4), (13, iv ((canR s rs wr h).2)), (14, .bool (cond (inB ((cs.getD k default).cell) 0 ((s.wide * s.high) - 1)) (inB ((cs.getD k default).far) 0 9) false)), (15, iv ((k : Int) + 1))]) (rs := [.rng ((k : Int) + 1)]) [4, 5, 10, 11, 12, 13, 14, 15] (.cons (rg (by omega)) <| .nil) (by kernel_rfl) fun a w hF hE => ?_)
      replace hO := hO.ext hE; clear hE
      rw [drop_getD (by omega), List.all_cons, hok1, Bool.true_and] at hok
      exact ⟨_, by omega, k + 1, _, rfl, by omega, hok, hF, hO⟩
    · refine (W_false ((evOp hF (by kernel_rfl)).trans (congrArg Value.bool hc7)) ?_)
      have hoc : ok = false ∨ cn ≤ k := by have h_ := (by assumption : (cond ok (decide ((k : Int) < (cn : Int))) false) = false); cases hq_ : ok; exact .inl rfl; rw [hq_, cond_true, decide_eq_false_iff_not] at h_; exact .inr (by omega)
      refine (W_exit ?_)
      refine W_seq ?_
      refine W_seq (region_q {} TBok hF (F' := [(10, .slice none 0 0), (11, iv 0), (12, .slice p2 n3 c4), (13, iv ((canR s rs wr h).2)), (64, .bool (!ok))]) (rs := []) [10, 11, 12, 13, 64] .nil (by kernel_rfl) fun a w hF hE => ?_)
      replace hO := hO.ext hE; clear hE
      rcases Bool.eq_false_or_eq_true (!ok) with hc8 | hc8
      · refine (W_true ((evOp hF (by kernel_rfl)).trans (congrArg Value.bool hc8)) ?_)
        refine W_seq (region_q {} TBok hF (F' := [(10, .slice none 0 0), (11, iv 13), (12, .slice p2 n3 c4), (13, iv ((canR s rs wr h).2))]) (rs := []) [10, 11, 12, 13] .nil (by kernel_rfl) fun a w hF hE => ?_)
        replace hO := hO.ext hE; clear hE
        refine W_ret ?_
        show bodyPostM (FW none) 0 _ _ _ Exit.ret a w
        have hse : csB s cs = ok := by
          rcases hoc with h_ | h_
          · rw [h_, Bool.false_and] at hok; rw [← hok, h_]
          · rw [List.drop_of_length_le (by omega), List.all_nil, Bool.and_true] at hok; rw [← hok]
        have hres : raskR s rs wr h cs = ([], 13) := by unfold raskR; rw [if_neg hce2, if_pos (by rw [hse]; have h_ := hc8; simpa using h_)]
        exact leave_r TBok hF (.nil _) (vs := [.slice none 0 0, iv 13]) (rs := []) .nil (by kernel_rfl) ⟨none, 0, 0, by rw [hres]; rfl, by rw [hres]; rfl, by rw [hres]; exact (hO.nilRd encI 1).sel [2] (by decide)⟩
      · refine (W_false ((evOp hF (by kernel_rfl)).trans (congrArg Value.bool hc8)) ?_)
        refine (W_skip ?_)
        refine W_seq (region_q {} TBok hF (F' := [(10, .slice p2 n3 c4), (11, iv ((canR s rs wr h).2))]) (rs := []) [10, 11] .nil (by kernel_rfl) fun a w hF hE => ?_)
        replace hO := hO.ext hE; clear hE
        refine W_ret ?_
        show bodyPostM (FW none) 0 _ _ _ Exit.ret a w
        have hse : csB s cs = ok := by
          rcases hoc with h_ | h_
          · rw [h_, Bool.false_and] at hok; rw [← hok, h_]
          · rw [List.drop_of_length_le (by omega), List.all_nil, Bool.and_true] at hok; rw [← hok]
        have hres : raskR s rs wr h cs = (canR s rs wr h) := by unfold raskR; rw [if_neg hce2, if_neg (by rw [hse]; have h_ := hc8; simp at h_; rw [h_]; simp)]
        exact leave_r TBok hF (.nil _) (vs := [.slice p2 n3 c4, iv ((canR s rs wr h).2)]) (rs := []) .nil (by kernel_rfl) ⟨p2, n3, c4, by rw [hres]; exact hn5, by rw [hres]; rfl, by rw [hres]; exact hO.sel [1] (by decide)⟩

set_option maxHeartbeats 4000000 in
set_option maxRecDepth 100000 in
theorem refNext_calls (s : Sea) (v : SV) (rs : List Rp) (p : Option Addr) (n c : Nat) (wr h : Int) (cs : List Cs) (cp : Option Addr) (cn cc : Nat) (w0 : World) (hs : SeaR w0.heap.size w0 v s) (hx : Rd encRp 4 w0.heap.size w0 p n rs) (hcs : Rd encCs 2 w0.heap.size w0 cp cn cs) :
    Calls Try.prog 29 #[.agg (sS6 s v), .slice p n c, iv wr, iv h, .slice cp cn cc] w0 (fun e w' => e = .returned (.tuple #[iv (nextR s rs wr h cs).1, iv (nextR s rs wr h cs).2.1, iv (nextR s rs wr h cs).2.2]) ∧ Ext w0 w') := by
  have hl1 := hs.land.len; have hl2 := hs.drift.len; have hs1 := hs.land.size; have hs2 := hs.drift.size; have hr_ := hs.rg; unfold i64 at hr_; have hl3 := hx.len; have hs3 := hx.size; have hl4 := hcs.len; have hs4 := hcs.size
  refine calls_of_W Try.func29 rfl (by kernel_rfl) (args := [.agg (sS6 s v), .slice p n c, iv wr, iv h, .slice cp cn cc]) fun a hF => ?_
  replace hF : Fr 73 [] [(0, .agg (sS6 s v)), (1, .slice p n c), (2, iv wr), (3, iv h), (4, .slice cp cn cc)] a := hF
  have hO : Own w0 none_ [] w0 := Own.start w0 _
  refine W_seq (region_seq ?_)
  refine op_box (i := 0) (t := 25) (v := .agg (sS6 s v)) (d := 5) hF hO (by kernel_rfl) fun a w b1 hF hO _ => ?_
  refine seq_quiet {} TBok hF (F' := [(1, .slice p n c), (2, iv wr), (3, iv h), (4, .slice cp cn cc), (5, pv b1), (10, iv 0), (11, iv 0), (12, iv 0)]) (rs := []) [1, 2, 3] [] [1, 2, 3, 4, 5, 10, 11, 12] .nil (by kernel_rfl) fun a w hF hE => ?_
  replace hO := hO.ext hE; clear hE
  refine W_seq (region_seq ?_)
  refine seq_quiet {} TBok hF (F' := [(4, .slice cp cn cc), (5, pv b1), (10, iv 0), (11, iv 0), (12, iv 0), (22, .agg (sS6 s v)), (23, .slice p n c), (24, iv wr), (25, iv h), (26, .slice cp cn cc)]) (rs := [.lds ⟨b1, 0, none⟩ (sL6 s v)]) [0, 1, 2, 3, 4] [5, 6, 7, 8, 9, 10] [4, 5, 10, 11, 12, 22, 23, 24, 25, 26] (.cons (ldso hO.st 0 rfl 0 rfl) <| .nil) (by kernel_rfl) fun a w hF hE => ?_
  replace hO := hO.ext hE; clear hE
  refine op_call (i := 5) (f := 69) (args := #[.agg (sS6 s v), .slice p n c, iv wr, iv h, .slice cp cn cc]) (d := some 27) TBok (by kernel_rfl) hF (by kernel_rfl) (refAsked_calls s v rs p n c wr h cs cp cn cc _ (hs.upM hO.kp nom (Nat.le_refl _)) (hx.upM hO.kp nom (Nat.le_refl _)) (hcs.upM hO.kp nom (Nat.le_refl _))) fun e w hR => ?_
  obtain ⟨p2, n3, c4, hn5, he, hO2⟩ := hR
  refine ⟨_, he, fun a hF => ?_⟩
  replace hO := hO.joinE hO2; clear hO2 he
  refine seq_quiet {} TBok hF (F' := [(4, .slice cp cn cc), (5, pv b1), (10, iv 0), (11, iv 0), (12, iv 0), (13, .slice p2 n3 c4), (14, iv ((raskR s rs wr h cs).2))]) (rs := []) [6, 7, 8, 9, 10] [] [4, 5, 10, 11, 12, 13, 14] .nil (by kernel_rfl) fun a w hF hE => ?_
  replace hO := hO.ext hE; clear hE
  refine W_seq ?_
  refine W_seq (region_q {} TBok hF (F' := [(4, .slice cp cn cc), (5, pv b1), (10, iv 0), (11, iv 0), (12, iv 0), (13, .slice p2 n3 c4), (14, iv ((raskR s rs wr h cs).2)), (31, .bool ((raskR s rs wr h cs).2 != 0))]) (rs := []) [4, 5, 10, 11, 12, 13, 14, 31] .nil (by kernel_rfl) fun a w hF hE => ?_)
  replace hO := hO.ext hE; clear hE
  rcases Bool.eq_false_or_eq_true ((raskR s rs wr h cs).2 != 0) with hc6 | hc6
  · refine (W_true ((evOp hF (by kernel_rfl)).trans (congrArg Value.bool hc6)) ?_)
    have hz := (by assumption : ((raskR s rs wr h cs).2 != 0) = true)
    refine W_seq (region_q {} TBok hF (F' := [(4, .slice cp cn cc), (5, pv b1), (10, iv 0), (11, iv 0), (12, iv ((raskR s rs wr h cs).2)), (13, .slice p2 n3 c4)]) (rs := []) [4, 5, 10, 11, 12, 13] .nil (by kernel_rfl) fun a w hF hE => ?_)
    replace hO := hO.ext hE; clear hE
    refine W_ret ?_
    show bodyPostM (FW none) 0 _ _ _ Exit.ret a w
    have hres : nextR s rs wr h cs = (0, 0, (raskR s rs wr h cs).2) := by rw [rnextR_eq, if_pos (by simpa using hz)]
    exact leave_r TBok hF (.nil _) (vs := [iv 0, iv 0, iv ((raskR s rs wr h cs).2)]) (rs := []) .nil (by kernel_rfl) ⟨by rw [hres]; rfl, hO.kp⟩
  · refine (W_false ((evOp hF (by kernel_rfl)).trans (congrArg Value.bool hc6)) ?_)
    have hz : (raskR s rs wr h cs).2 = 0 := by have h_ := (by assumption : ((raskR s rs wr h cs).2 != 0) = false); simpa using h_
    obtain ⟨hv, hcb⟩ := raskR_ok hz
    have hv1 := sea_ok hv; have hcb2 := csB_ok hcb
    have hrl80 : (raskR s rs wr h cs).1.length ≤ 80 := raskR_len
    refine (W_skip ?_)
    refine W_seq (region_q {} TBok hF (F' := [(4, .slice cp cn cc), (5, pv b1), (10, iv 0), (11, iv 0), (12, iv 0), (13, .slice p2 n3 c4), (15, iv 0), (16, iv ((n3 : Int) + 1))]) (rs := [.rng ((n3 : Int) + 1)]) [4, 5, 10, 11, 12, 13, 15, 16] (.cons (rg (by omega)) <| .nil) (by kernel_rfl) fun a w hF hE => ?_)
    replace hO := hO.ext hE; clear hE
    refine W_seq ?_
    refine W_seq (region_q {} TBok hF (F' := [(4, .slice cp cn cc), (5, pv b1), (10, iv 0), (11, iv 0), (12, iv 0), (13, .slice p2 n3 c4), (15, iv 0), (16, iv ((n3 : Int) + 1)), (17, iv 0)]) (rs := []) [4, 5, 10, 11, 12, 13, 15, 16, 17] .nil (by kernel_rfl) fun a w hF hE => ?_)
    replace hO := hO.ext hE; clear hE
    refine (W_block ?_)
    refine (W_loop (fun m a w => ∃ (k : Nat), m = cn - k ∧ k ≤ cn ∧ Fr 73 [] [(4, .slice cp cn cc), (5, pv b1), (10, iv 0), (11, iv 0), (12, iv 0), (13, .slice p2 n3 c4), (15, iv ((rnextK s (raskR s rs wr h cs).1 cs k).1)), (16, iv ((rnextK s (raskR s rs wr h cs).1 cs k).2)), (17, iv (k : Int))] a ∧ Own w0 none_ [cel b1 (sS6 s v) 25, rdR encI 1 p2 n3 (raskR s rs wr h cs).1] w) _ ⟨0, rfl, Nat.zero_le _, (hF.cast (by rw [show ((n3 : Int) + 1) = (rnextK s (raskR s rs wr h cs).1 cs 0).2 by rw [rnextK, hn5]] <;> rfl)), hO⟩ ?_)
    clear hF hO
    rintro _ a w ⟨k, rfl, hk, hF, hO⟩
    refine W_seq ?_
    refine W_seq (region_q {} TBok hF (F' := [(4, .slice cp cn cc), (5, pv b1), (10, iv 0), (11, iv 0), (12, iv 0), (13, .slice p2 n3 c4), (15, iv ((rnextK s (raskR s rs wr h cs).1 cs k).1)), (16, iv ((rnextK s (raskR s rs wr h cs).1 cs k).2)), (17, iv (k : Int)), (39, .bool (decide ((k : Int) < (cn : Int))))]) (rs := []) [4, 5, 10, 11, 12, 13, 15, 16, 17, 39] .nil (by kernel_rfl) fun a w hF hE => ?_)
    replace hO := hO.ext hE; clear hE
    rcases Bool.eq_false_or_eq_true (decide ((k : Int) < (cn : Int))) with hc7 | hc7
    · refine (W_true ((evOp hF (by kernel_rfl)).trans (congrArg Value.bool hc7)) ?_)
      have hc7_ := of_decide_eq_true hc7
      refine (W_skip ?_)
      refine W_seq (W_block ?_)
      refine W_seq (region_q {} TBok hF (F' := [(4, .slice cp cn cc), (5, pv b1), (10, iv 0), (11, iv 0), (12, iv 0), (13, .slice p2 n3 c4), (15, iv ((rnextK s (raskR s rs wr h cs).1 cs k).1)), (16, iv ((rnextK s (raskR s rs wr h cs).1 cs k).2)), (17, iv (k : Int)), (18, iv 0)]) (rs := []) [4, 5, 10, 11, 12, 13, 15, 16, 17, 18] .nil (by kernel_rfl) fun a w hF hE => ?_)
      replace hO := hO.ext hE; clear hE
      refine W_seq ?_
      refine W_seq (region_q {} TBok hF (F' := [(4, .slice cp cn cc), (5, pv b1), (10, iv 0), (11, iv 0), (12, iv 0), (13, .slice p2 n3 c4), (15, iv ((rnextK s (raskR s rs wr h cs).1 cs k).1)), (16, iv ((rnextK s (raskR s rs wr h cs).1 cs k).2)), (17, iv (k : Int)), (18, iv 0), (19, iv 0)]) (rs := []) [4, 5, 10, 11, 12, 13, 15, 16, 17, 18, 19] .nil (by kernel_rfl) fun a w hF hE => ?_)
      replace hO := hO.ext hE; clear hE
      refine (W_block ?_)
      refine (W_loop (fun m a w => ∃ (m_ : Nat), ∃ (q : Int), m = n3 - m_ ∧ m_ ≤ n3 ∧ q = ((((raskR s rs wr h cs).1.take m_).filter (rcov s (cs.getD k default))).length : Int) ∧ 0 ≤ q ∧ q ≤ (m_ : Int) ∧ Fr 73 [] [(4, .slice cp cn cc), (5, pv b1), (10, iv 0), (11, iv 0), (12, iv 0), (13, .slice p2 n3 c4), (15, iv ((rnextK s (raskR s rs wr h cs).1 cs k).1)), (16, iv ((rnextK s (raskR s rs wr h cs).1 cs k).2)), (17, iv (k : Int)), (18, iv q), (19, iv (m_ : Int))] a ∧ Own w0 none_ [cel b1 (sS6 s v) 25, rdR encI 1 p2 n3 (raskR s rs wr h cs).1] w) _ ⟨0, 0, rfl, Nat.zero_le _, rfl, by omega, by omega, hF, hO⟩ ?_)
      clear hF hO
      rintro _ a w ⟨m_, q, rfl, hm_, hq, hq0, hqm, hF, hO⟩
      refine W_seq ?_
      refine W_seq (region_q {} TBok hF (F' := [(4, .slice cp cn cc), (5, pv b1), (10, iv 0), (11, iv 0), (12, iv 0), (13, .slice p2 n3 c4), (15, iv ((rnextK s (raskR s rs wr h cs).1 cs k).1)), (16, iv ((rnextK s (raskR s rs wr h cs).1 cs k).2)), (17, iv (k : Int)), (18, iv q), (19, iv (m_ : Int)), (45, .bool (decide ((m_ : Int) < (n3 : Int))))]) (rs := []) [4, 5, 10, 11, 12, 13, 15, 16, 17, 18, 19, 45] .nil (by kernel_rfl) fun a w hF hE => ?_)
      replace hO := hO.ext hE; clear hE
      rcases Bool.eq_false_or_eq_true (decide ((m_ : Int) < (n3 : Int))) with hc8 | hc8
      · refine (W_true ((evOp hF (by kernel_rfl)).trans (congrArg Value.bool hc8)) ?_)
        have hc8_ := of_decide_eq_true hc8
        refine (W_skip ?_)
        refine W_seq (W_block ?_)
        refine W_seq (region_d {} mixed TBok hF (F' := [(4, .slice cp cn cc), (5, pv b1), (10, iv 0), (11, iv 0), (12, iv 0), (13, .slice p2 n3 c4), (15, iv ((rnextK s (raskR s rs wr h cs).1 cs k).1)), (16, iv ((rnextK s (raskR s rs wr h cs).1 cs k).2)), (17, iv (k : Int)), (18, iv q), (19, iv (m_ : Int)), (57, .bool (decide (farP (pl s (cs.getD k default).cell) (pl s ((raskR s rs wr h cs).1.getD m_ default)) ≤ (cs.getD k default).far)))]) (rs := [.lds ⟨b1, 0, none⟩ (sL6 s v), .idx cp cn (k : Int) 2 (adr cp 2 (k : Int)), .lds (adr cp 2 (k : Int)) [iv ((cs.getD k default).cell), iv ((cs.getD k default).far)], .idx p2 n3 (m_ : Int) 1 (adr p2 1 (m_ : Int)), .ld (adr p2 1 (m_ : Int)) (iv ((raskR s rs wr h cs).1.getD m_ default)), .call 70 #[.agg (sS6 s v), .agg #[iv ((cs.getD k default).cell), iv ((cs.getD k default).far)], iv ((raskR s rs wr h cs).1.getD m_ default)] (.bool (decide (farP (pl s (cs.getD k default).cell) (pl s ((raskR s rs wr h cs).1.getD m_ default)) ≤ (cs.getD k default).far)))]) [4, 5, 10, 11, 12, 13, 15, 16, 17, 18, 19, 57] (.cons (ldso hO.st 0 rfl 0 rfl) <| .cons (ix hcs (by omega) (by omega)) <| .cons (ldsx hO.st nom hcs (by omega) (by omega) rfl) <| .cons (ix (enc := encI) (xs := (raskR s rs wr h cs).1) ((hO.get 1 rfl)) (by omega) (by omega)) <| .cons (ldR (enc := encI) (xs := (raskR s rs wr h cs).1) (a := p2) (i := (m_ : Int)) (fun x_ hx_ => ((hO.st x_ hx_).get 1 rfl)) (by omega) (by omega) 0 rfl) <| .cons (fun w hE => refCovers_calls s v (cs.getD k default) ((raskR s rs wr h cs).1.getD m_ default) w hv (by have h_ := hcb2.2.2 _ (getD_mem (show k < cs.length by omega)); omega) (by have h_ := mem_cellsA (raskR_mem (getD_mem (show m_ < (raskR s rs wr h cs).1.length by omega))); omega)) <| .nil) (by kernel_rfl) (by kernel_rfl) fun a w hF hE => ?_)
        replace hO := hO.ext hE; clear hE
        rcases Bool.eq_false_or_eq_true (decide (farP (pl s (cs.getD k default).cell) (pl s ((raskR s rs wr h cs).1.getD m_ default)) ≤ (cs.getD k default).far)) with hc9 | hc9
        · refine (W_true ((evOp hF (by kernel_rfl)).trans (congrArg Value.bool hc9)) ?_)
          have hc9_ := of_decide_eq_true hc9
          refine (region_q {} TBok hF (F' := [(4, .slice cp cn cc), (5, pv b1), (10, iv 0), (11, iv 0), (12, iv 0), (13, .slice p2 n3 c4), (15, iv ((rnextK s (raskR s rs wr h cs).1 cs k).1)), (16, iv ((rnextK s (raskR s rs wr h cs).1 cs k).2)), (17, iv (k : Int)), (18, iv (q + 1)), (19, iv (m_ : Int))]) (rs := [.rng (q + 1)]) [4, 5, 10, 11, 12, 13, 15, 16, 17, 18, 19] (.cons (rg (by omega)) <| .nil) (by kernel_rfl) fun a w hF hE => ?_)
          replace hO := hO.ext hE; clear hE
          refine (region_q {} TBok hF (F' := [(4, .slice cp cn cc), (5, pv b1), (10, iv 0), (11, iv 0), (12, iv 0), (13, .slice p2 n3 c4), (15, iv ((rnextK s (raskR s rs wr h cs).1 cs k).1)), (16, iv ((rnextK s (raskR s rs wr h cs).1 cs k).2)), (17, iv (k : Int)), (18, iv (q + 1)), (19, iv ((m_ : Int) + 1))]) (rs := [.rng ((m_ : Int) + 1)]) [4, 5, 10, 11, 12, 13, 15, 16, 17, 18, 19] (.cons (rg (by omega)) <| .nil) (by kernel_rfl) fun a w hF hE => ?_)
          replace hO := hO.ext hE; clear hE
          have hst_ := filt_take (xs := (raskR s rs wr h cs).1) (rcov s (cs.getD k default)) (k := m_) (by omega)
          rw [show rcov s (cs.getD k default) ((raskR s rs wr h cs).1.getD m_ default) = true from hc9] at hst_; simp only [cond_true, cond_false] at hst_
          exact ⟨_, by omega, m_ + 1, _, rfl, by omega, by rw [hst_, ← hq], by omega, by omega, hF, hO⟩
        · refine (W_false ((evOp hF (by kernel_rfl)).trans (congrArg Value.bool hc9)) ?_)
          have hc9_ := of_decide_eq_false hc9
          refine (W_skip ?_)
          refine (region_q {} TBok hF (F' := [(4, .slice cp cn cc), (5, pv b1), (10, iv 0), (11, iv 0), (12, iv 0), (13, .slice p2 n3 c4), (15, iv ((rnextK s (raskR s rs wr h cs).1 cs k).1)), (16, iv ((rnextK s (raskR s rs wr h cs).1 cs k).2)), (17, iv (k : Int)), (18, iv q), (19, iv ((m_ : Int) + 1))]) (rs := [.rng ((m_ : Int) + 1)]) [4, 5, 10, 11, 12, 13, 15, 16, 17, 18, 19] (.cons (rg (by omega)) <| .nil) (by kernel_rfl) fun a w hF hE => ?_)
          replace hO := hO.ext hE; clear hE
          have hst_ := filt_take (xs := (raskR s rs wr h cs).1) (rcov s (cs.getD k default)) (k := m_) (by omega)
          rw [show rcov s (cs.getD k default) ((raskR s rs wr h cs).1.getD m_ default) = false from hc9] at hst_; simp only [cond_true, cond_false] at hst_
          exact ⟨_, by omega, m_ + 1, _, rfl, by omega, by rw [hst_, ← hq]; omega, by omega, by omega, hF, hO⟩
      · refine (W_false ((evOp hF (by kernel_rfl)).trans (congrArg Value.bool hc8)) ?_)
        have hc8_ := of_decide_eq_false hc8
        refine (W_exit ?_)
        refine W_seq (region_q { md := [(5, 3)] } TBok hF (F' := [(4, .slice cp cn cc), (5, pv b1), (10, iv 0), (11, iv 0), (12, iv 0), (13, .slice p2 n3 c4), (15, iv ((rnextK s (raskR s rs wr h cs).1 cs k).1)), (16, iv ((rnextK s (raskR s rs wr h cs).1 cs k).2)), (17, iv (k : Int)), (20, iv (mx q ((n3 : Int) - q)))]) (rs := [.rng ((n3 : Int) - q), .raw (Builtin.max_ #[3, 3] 3 #[iv q, iv ((n3 : Int) - q)]) (iv (mx q ((n3 : Int) - q)))]) [4, 5, 10, 11, 12, 13, 15, 16, 17, 20] (.cons (rg (by omega)) <| .cons raw_max2 <| .nil) (by kernel_rfl) fun a w hF hE => ?_)
        replace hO := hO.ext hE; clear hE
        refine W_seq (region_q {} TBok hF (F' := [(4, .slice cp cn cc), (5, pv b1), (10, iv 0), (11, iv 0), (12, iv 0), (13, .slice p2 n3 c4), (15, iv ((rnextK s (raskR s rs wr h cs).1 cs k).1)), (16, iv ((rnextK s (raskR s rs wr h cs).1 cs k).2)), (17, iv (k : Int)), (20, iv (mx q ((n3 : Int) - q))), (68, .bool (decide ((mx q ((n3 : Int) - q)) < (rnextK s (raskR s rs wr h cs).1 cs k).2)))]) (rs := []) [4, 5, 10, 11, 12, 13, 15, 16, 17, 20, 68] .nil (by kernel_rfl) fun a w hF hE => ?_)
        replace hO := hO.ext hE; clear hE
        rcases Bool.eq_false_or_eq_true (decide ((mx q ((n3 : Int) - q)) < (rnextK s (raskR s rs wr h cs).1 cs k).2)) with hc10 | hc10
        · refine (W_true ((evOp hF (by kernel_rfl)).trans (congrArg Value.bool hc10)) ?_)
          have hc10_ := of_decide_eq_true hc10
          refine (region_q {} TBok hF (F' := [(4, .slice cp cn cc), (5, pv b1), (10, iv 0), (11, iv 0), (12, iv 0), (13, .slice p2 n3 c4), (15, iv (k : Int)), (16, iv (mx q ((n3 : Int) - q))), (17, iv (k : Int))]) (rs := []) [4, 5, 10, 11, 12, 13, 15, 16, 17] .nil (by kernel_rfl) fun a w hF hE => ?_)
          replace hO := hO.ext hE; clear hE
          refine (region_q {} TBok hF (F' := [(4, .slice cp cn cc), (5, pv b1), (10, iv 0), (11, iv 0), (12, iv 0), (13, .slice p2 n3 c4), (15, iv (k : Int)), (16, iv (mx q ((n3 : Int) - q))), (17, iv ((k : Int) + 1))]) (rs := [.rng ((k : Int) + 1)]) [4, 5, 10, 11, 12, 13, 15, 16, 17] (.cons (rg (by omega)) <| .nil) (by kernel_rfl) fun a w hF hE => ?_)
          replace hO := hO.ext hE; clear hE
          have hcw : mx q ((n3 : Int) - q) = rworN s (raskR s rs wr h cs).1 (cs.getD k default) := by rw [rworN, rcovN, hq, List.take_of_length_le (show (raskR s rs wr h cs).1.length ≤ m_ by omega), hn5]
          have hnk : rnextK s (raskR s rs wr h cs).1 cs (k + 1) = cond (decide (rworN s (raskR s rs wr h cs).1 (cs.getD k default) < (rnextK s (raskR s rs wr h cs).1 cs k).2)) ((k : Int), rworN s (raskR s rs wr h cs).1 (cs.getD k default)) (rnextK s (raskR s rs wr h cs).1 cs k) := rfl
          rw [← hcw, show (decide (mx q ((n3 : Int) - q) < (rnextK s (raskR s rs wr h cs).1 cs k).2)) = true from hc10, cond_true] at hnk
          exact ⟨_, by omega, k + 1, rfl, by omega, hF.cast (by rw [hnk] <;> rfl), hO⟩
        · refine (W_false ((evOp hF (by kernel_rfl)).trans (congrArg Value.bool hc10)) ?_)
          have hc10_ := of_decide_eq_false hc10
          refine (W_skip ?_)
          refine (region_q {} TBok hF (F' := [(4, .slice cp cn cc), (5, pv b1), (10, iv 0), (11, iv 0), (12, iv 0), (13, .slice p2 n3 c4), (15, iv ((rnextK s (raskR s rs wr h cs).1 cs k).1)), (16, iv ((rnextK s (raskR s rs wr h cs).1 cs k).2)), (17, iv ((k : Int) + 1))]) (rs := [.rng ((k : Int) + 1)]) [4, 5, 10, 11, 12, 13, 15, 16, 17] (.cons (rg (by omega)) <| .nil) (by kernel_rfl) fun a w hF hE => ?_)
          replace hO := hO.ext hE; clear hE
          have hcw : mx q ((n3 : Int) - q) = rworN s (raskR s rs wr h cs).1 (cs.getD k default) := by rw [rworN, rcovN, hq, List.take_of_length_le (show (raskR s rs wr h cs).1.length ≤ m_ by omega), hn5]
          have hnk : rnextK s (raskR s rs wr h cs).1 cs (k + 1) = cond (decide (rworN s (raskR s rs wr h cs).1 (cs.getD k default) < (rnextK s (raskR s rs wr h cs).1 cs k).2)) ((k : Int), rworN s (raskR s rs wr h cs).1 (cs.getD k default)) (rnextK s (raskR s rs wr h cs).1 cs k) := rfl
          rw [← hcw, show (decide (mx q ((n3 : Int) - q) < (rnextK s (raskR s rs wr h cs).1 cs k).2)) = false from hc10, cond_false] at hnk
          exact ⟨_, by omega, k + 1, rfl, by omega, hF.cast (by rw [hnk] <;> rfl), hO⟩
    · refine (W_false ((evOp hF (by kernel_rfl)).trans (congrArg Value.bool hc7)) ?_)
      have hc7_ := of_decide_eq_false hc7
      refine (W_exit ?_)
      refine W_seq (region_q {} TBok hF (F' := [(10, iv ((rnextK s (raskR s rs wr h cs).1 cs k).1)), (11, iv ((rnextK s (raskR s rs wr h cs).1 cs k).2)), (12, iv 0)]) (rs := []) [10, 11, 12] .nil (by kernel_rfl) fun a w hF hE => ?_)
      replace hO := hO.ext hE; clear hE
      refine W_ret ?_
      show bodyPostM (FW none) 0 _ _ _ Exit.ret a w
      have hkk : k = cs.length := by omega
      have hres : nextR s rs wr h cs = ((rnextK s (raskR s rs wr h cs).1 cs k).1, (rnextK s (raskR s rs wr h cs).1 cs k).2, 0) := by rw [rnextR_eq, if_neg (by rw [hz]; simp), hkk]
      exact leave_r TBok hF (.nil _) (vs := [iv ((rnextK s (raskR s rs wr h cs).1 cs k).1), iv ((rnextK s (raskR s rs wr h cs).1 cs k).2), iv 0]) (rs := []) .nil (by kernel_rfl) ⟨by rw [hres]; rfl, hO.kp⟩

end Go.Proofs.Ytgihgcclabodbaa.DK
