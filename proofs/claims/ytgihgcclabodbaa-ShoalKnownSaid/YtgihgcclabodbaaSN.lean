/- Walks: the cast that helps most. Printed by my gen.py out of shoal/q.py. -/
import Derived.Test.YtgihgcclabodbaaSK
namespace Go.Proofs.Ytgihgcclabodbaa.DK
open Go Go.Proofs
set_option linter.unusedVariables false
set_option linter.unusedSimpArgs false

set_option maxHeartbeats 4000000 in
set_option maxRecDepth 100000 in
theorem Next_calls (s : Sea) (v : SV) (rs : List Rp) (p : Option Addr) (n c : Nat) (wr h : Int) (cs : List Cs) (cp : Option Addr) (cn cc : Nat) (w0 : World) (hs : SeaR w0.heap.size w0 v s) (hx : Rd encRp 4 w0.heap.size w0 p n rs) (hcs : Rd encCs 2 w0.heap.size w0 cp cn cs) (hci : ∀ i, i < cs.length → i64 (cs.getD i default).cell) (hcn : cn ≤ 8796093022207) :
    Calls Try.prog 28 #[.agg (sS6 s v), .slice p n c, iv wr, iv h, .slice cp cn cc] w0 (fun e w' => e = .returned (.tuple #[iv (nextR s rs wr h cs).1, iv (nextR s rs wr h cs).2.1, iv (nextR s rs wr h cs).2.2]) ∧ Ext w0 w') := by
  have hl1 := hs.land.len; have hl2 := hs.drift.len; have hs1 := hs.land.size; have hs2 := hs.drift.size; have hr_ := hs.rg; unfold i64 at hr_; have hl3 := hx.len; have hs3 := hx.size; have hl4 := hcs.len; have hs4 := hcs.size
  refine calls_of_W Try.func28 rfl (by kernel_rfl) (args := [.agg (sS6 s v), .slice p n c, iv wr, iv h, .slice cp cn cc]) fun a hF => ?_
  replace hF : Fr 72 [] [(0, .agg (sS6 s v)), (1, .slice p n c), (2, iv wr), (3, iv h), (4, .slice cp cn cc)] a := hF
  have hO : Own w0 none_ [] w0 := Own.start w0 _
  refine W_seq (region_seq ?_)
  refine op_box (i := 0) (t := 25) (v := .agg (sS6 s v)) (d := 5) hF hO (by kernel_rfl) fun a w b1 hF hO _ => ?_
  refine seq_quiet {} TBok hF (F' := [(1, .slice p n c), (2, iv wr), (3, iv h), (4, .slice cp cn cc), (5, pv b1), (10, iv 0), (11, iv 0), (12, iv 0)]) (rs := []) [1, 2, 3] [] [1, 2, 3, 4, 5, 10, 11, 12] .nil (by kernel_rfl) fun a w hF hE => ?_
  replace hO := hO.ext hE; clear hE
  refine W_seq (region_seq ?_)
  refine seq_quiet {} TBok hF (F' := [(10, iv 0), (11, iv 0), (12, iv 0), (22, .agg (sS6 s v)), (23, .slice p n c), (24, iv wr), (25, iv h), (26, .slice cp cn cc)]) (rs := [.lds ⟨b1, 0, none⟩ (sL6 s v)]) [0, 1, 2, 3, 4] [5, 6, 7, 8, 9, 10, 11, 12] [10, 11, 12, 22, 23, 24, 25, 26] (.cons (ldso hO.st 0 rfl 0 rfl) <| .nil) (by kernel_rfl) fun a w hF hE => ?_
  replace hO := hO.ext hE; clear hE
  refine op_call (i := 5) (f := 67) (args := #[.agg (sS6 s v), .slice p n c, iv wr, iv h, .slice cp cn cc]) (d := some 27) TBok (by kernel_rfl) hF (by kernel_rfl) (asked_calls s v rs p n c wr h cs cp cn cc _ (hs.upM hO.kp nom (Nat.le_refl _)) (hx.upM hO.kp nom (Nat.le_refl _)) (hcs.upM hO.kp nom (Nat.le_refl _)) hci hcn) fun e w hR => ?_
  obtain ⟨p2, n3, c4, p5, n6, c7, hn8, hn9, he, hO2⟩ := hR
  refine ⟨_, he, fun a hF => ?_⟩
  replace hO := hO.joinE hO2; clear hO2 he
  refine seq_quiet {} TBok hF (F' := [(10, iv 0), (11, iv 0), (12, iv ((askedR s rs wr h cs).2.2)), (13, .slice p2 n3 c4), (14, .slice p5 n6 c7)]) (rs := []) [6, 7, 8, 9, 10, 11, 12] [] [10, 11, 12, 13, 14] .nil (by kernel_rfl) fun a w hF hE => ?_
  replace hO := hO.ext hE; clear hE
  refine W_seq ?_
  refine W_seq (region_q {} TBok hF (F' := [(10, iv 0), (11, iv 0), (12, iv ((askedR s rs wr h cs).2.2)), (13, .slice p2 n3 c4), (14, .slice p5 n6 c7), (32, .bool ((askedR s rs wr h cs).2.2 != 0))]) (rs := []) [10, 11, 12, 13, 14, 32] .nil (by kernel_rfl) fun a w hF hE => ?_)
  replace hO := hO.ext hE; clear hE
  rcases Bool.eq_false_or_eq_true ((askedR s rs wr h cs).2.2 != 0) with hc10 | hc10
  · refine (W_true ((evOp hF (by kernel_rfl)).trans (congrArg Value.bool hc10)) ?_)
    have hz := (by assumption : ((askedR s rs wr h cs).2.2 != 0) = true)
    refine W_seq (region_q {} TBok hF (F' := [(10, iv 0), (11, iv 0), (12, iv ((askedR s rs wr h cs).2.2)), (13, .slice p2 n3 c4), (14, .slice p5 n6 c7)]) (rs := []) [10, 11, 12, 13, 14] .nil (by kernel_rfl) fun a w hF hE => ?_)
    replace hO := hO.ext hE; clear hE
    refine W_ret ?_
    show bodyPostM (FW none) 0 _ _ _ Exit.ret a w
    have hres : nextR s rs wr h cs = (0, 0, (askedR s rs wr h cs).2.2) := by unfold nextR; rw [if_pos (by simpa using hz)]
    exact leave_r TBok hF (.nil _) (vs := [iv 0, iv 0, iv ((askedR s rs wr h cs).2.2)]) (rs := []) .nil (by kernel_rfl) ⟨by rw [hres]; rfl, hO.kp⟩
  · refine (W_false ((evOp hF (by kernel_rfl)).trans (congrArg Value.bool hc10)) ?_)
    have hz : (askedR s rs wr h cs).2.2 = 0 := by have h_ := (by assumption : ((askedR s rs wr h cs).2.2 != 0) = false); simpa using h_
    have hbd := asked_bd hz
    refine (W_skip ?_)
    refine W_seq (region_q {} TBok hF (F' := [(10, iv 0), (11, iv 0), (12, iv ((askedR s rs wr h cs).2.2)), (13, .slice p2 n3 c4), (14, .slice p5 n6 c7), (15, .func (.func 68) #[] #[])]) (rs := []) [10, 11, 12, 13, 14, 15] .nil (by kernel_rfl) fun a w hF hE => ?_)
    replace hO := hO.ext hE; clear hE
    refine W_seq ?_
    refine W_seq (region_q {} TBok hF (F' := [(10, iv 0), (11, iv 0), (12, iv ((askedR s rs wr h cs).2.2)), (13, .slice p2 n3 c4), (15, .func (.func 68) #[] #[]), (34, .slice p5 n6 c7), (35, iv (n6 : Int)), (36, iv 0)]) (rs := []) [10, 11, 12, 13, 15, 34, 35, 36] .nil (by kernel_rfl) fun a w hF hE => ?_)
    replace hO := hO.ext hE; clear hE
    refine (W_block ?_)
    refine (W_loop (fun m a w => ∃ (k : Nat), m = n6 - k ∧ k ≤ n6 ∧ Fr 72 [] [(10, iv ((nextK (askedR s rs wr h cs).1 (askedR s rs wr h cs).2.1 k).1)), (11, iv ((nextK (askedR s rs wr h cs).1 (askedR s rs wr h cs).2.1 k).2)), (12, iv ((askedR s rs wr h cs).2.2)), (13, .slice p2 n3 c4), (15, .func (.func 68) #[] #[]), (34, .slice p5 n6 c7), (35, iv (n6 : Int)), (36, iv (k : Int))] a ∧ Own w0 none_ [cel b1 (sS6 s v) 25, rdR encPl 2 p2 n3 (askedR s rs wr h cs).1, rdR encCt 3 p5 n6 (askedR s rs wr h cs).2.1] w) _ ⟨0, rfl, Nat.zero_le _, hF, hO⟩ ?_)
    clear hF hO
    rintro _ a w ⟨k, rfl, hk, hF, hO⟩
    refine W_seq (region_q {} TBok hF (F' := [(10, iv ((nextK (askedR s rs wr h cs).1 (askedR s rs wr h cs).2.1 k).1)), (11, iv ((nextK (askedR s rs wr h cs).1 (askedR s rs wr h cs).2.1 k).2)), (12, iv ((askedR s rs wr h cs).2.2)), (13, .slice p2 n3 c4), (15, .func (.func 68) #[] #[]), (34, .slice p5 n6 c7), (35, iv (n6 : Int)), (36, iv (k : Int)), (37, .bool (decide ((k : Int) < (n6 : Int))))]) (rs := []) [10, 11, 12, 13, 15, 34, 35, 36, 37] .nil (by kernel_rfl) fun a w hF hE => ?_)
    replace hO := hO.ext hE; clear hE
    rcases Bool.eq_false_or_eq_true (decide ((k : Int) < (n6 : Int))) with hc11 | hc11
    · refine W_seq (W_true ((evOp hF (by kernel_rfl)).trans (congrArg Value.bool hc11)) ?_)
      have hc11_ := of_decide_eq_true hc11
      refine (W_skip ?_)
      refine W_seq (W_block ?_)
      refine W_seq (region_seq ?_)
      refine seq_quiet {} TBok hF (F' := [(10, iv ((nextK (askedR s rs wr h cs).1 (askedR s rs wr h cs).2.1 k).1)), (11, iv ((nextK (askedR s rs wr h cs).1 (askedR s rs wr h cs).2.1 k).2)), (12, iv ((askedR s rs wr h cs).2.2)), (13, .slice p2 n3 c4), (15, .func (.func 68) #[] #[]), (34, .slice p5 n6 c7), (35, iv (n6 : Int)), (36, iv (k : Int)), (38, iv (k : Int)), (40, .agg #[iv (((askedR s rs wr h cs).2.1.getD k default).c), iv (((askedR s rs wr h cs).2.1.getD k default).r), iv (((askedR s rs wr h cs).2.1.getD k default).far)])]) (rs := [.idx p5 n6 (k : Int) 3 (adr p5 3 (k : Int)), .lds (adr p5 3 (k : Int)) [iv (((askedR s rs wr h cs).2.1.getD k default).c), iv (((askedR s rs wr h cs).2.1.getD k default).r), iv (((askedR s rs wr h cs).2.1.getD k default).far)]]) [0, 1, 2] [3, 4, 5] [10, 11, 12, 13, 15, 34, 35, 36, 38, 40] (.cons (ix (enc := encCt) (xs := (askedR s rs wr h cs).2.1) ((hO.get 2 rfl)) (by omega) (by omega)) <| .cons (ldsR (enc := encCt) (xs := (askedR s rs wr h cs).2.1) (a := p5) (i := (k : Int)) (fun x_ hx_ => ((hO.st x_ hx_).get 2 rfl)) (by omega) (by omega) rfl) <| .nil) (by kernel_rfl) fun a w hF hE => ?_
      replace hO := hO.ext hE; clear hE
      refine op_alloc (i := 3) (t := 114) (d := 17) (z := .agg #[iv 0, iv 0, iv 0]) hF hO (by kernel_rfl) (by kernel_rfl) fun a w b12 hF hO _ => ?_
      refine seq_quiet {} TBok hF (F' := [(10, iv ((nextK (askedR s rs wr h cs).1 (askedR s rs wr h cs).2.1 k).1)), (11, iv ((nextK (askedR s rs wr h cs).1 (askedR s rs wr h cs).2.1 k).2)), (12, iv ((askedR s rs wr h cs).2.2)), (13, .slice p2 n3 c4), (15, .func (.func 68) #[] #[]), (16, iv (k : Int)), (17, pv b12), (34, .slice p5 n6 c7), (35, iv (n6 : Int)), (36, iv (k : Int)), (40, .agg #[iv (((askedR s rs wr h cs).2.1.getD k default).c), iv (((askedR s rs wr h cs).2.1.getD k default).r), iv (((askedR s rs wr h cs).2.1.getD k default).far)])]) (rs := []) [4] [5] [10, 11, 12, 13, 15, 16, 17, 34, 35, 36, 40] .nil (by kernel_rfl) fun a w hF hE => ?_
      replace hO := hO.ext hE; clear hE
      refine op_store (i := 5) (t := 114) (p := ⟨b12, 0, none⟩) (v := .agg #[iv (((askedR s rs wr h cs).2.1.getD k default).c), iv (((askedR s rs wr h cs).2.1.getD k default).r), iv (((askedR s rs wr h cs).2.1.getD k default).far)]) (off := 0) (sz := 3) (cs' := #[iv (((askedR s rs wr h cs).2.1.getD k default).c), iv (((askedR s rs wr h cs).2.1.getD k default).r), iv (((askedR s rs wr h cs).2.1.getD k default).far)]) hF hO (by kernel_rfl) 3 rfl rfl (by kernel_rfl) (by kernel_rfl) (by kernel_rfl) fun a w hF hO _ => ?_
      replace hO : Own w0 none_ [cel b1 (sS6 s v) 25, rdR encPl 2 p2 n3 (askedR s rs wr h cs).1, rdR encCt 3 p5 n6 (askedR s rs wr h cs).2.1, cel b12 #[iv (((askedR s rs wr h cs).2.1.getD k default).c), iv (((askedR s rs wr h cs).2.1.getD k default).r), iv (((askedR s rs wr h cs).2.1.getD k default).far)] 114] w := hO
      replace hF := hF.sel [10, 11, 12, 13, 15, 16, 17, 34, 35, 36]
      replace hF : Fr 72 [] [(10, iv ((nextK (askedR s rs wr h cs).1 (askedR s rs wr h cs).2.1 k).1)), (11, iv ((nextK (askedR s rs wr h cs).1 (askedR s rs wr h cs).2.1 k).2)), (12, iv ((askedR s rs wr h cs).2.2)), (13, .slice p2 n3 c4), (15, .func (.func 68) #[] #[]), (16, iv (k : Int)), (17, pv b12), (34, .slice p5 n6 c7), (35, iv (n6 : Int)), (36, iv (k : Int))] a := hF
      refine W_seq (region_q {} TBok hF (F' := [(10, iv ((nextK (askedR s rs wr h cs).1 (askedR s rs wr h cs).2.1 k).1)), (11, iv ((nextK (askedR s rs wr h cs).1 (askedR s rs wr h cs).2.1 k).2)), (12, iv ((askedR s rs wr h cs).2.2)), (13, .slice p2 n3 c4), (15, .func (.func 68) #[] #[]), (16, iv (k : Int)), (17, pv b12), (18, iv 0), (34, .slice p5 n6 c7), (35, iv (n6 : Int)), (36, iv (k : Int))]) (rs := []) [10, 11, 12, 13, 15, 16, 17, 18, 34, 35, 36] .nil (by kernel_rfl) fun a w hF hE => ?_)
      replace hO := hO.ext hE; clear hE
      refine W_seq ?_
      refine W_seq (region_q {} TBok hF (F' := [(10, iv ((nextK (askedR s rs wr h cs).1 (askedR s rs wr h cs).2.1 k).1)), (11, iv ((nextK (askedR s rs wr h cs).1 (askedR s rs wr h cs).2.1 k).2)), (12, iv ((askedR s rs wr h cs).2.2)), (13, .slice p2 n3 c4), (15, .func (.func 68) #[] #[]), (16, iv (k : Int)), (17, pv b12), (18, iv 0), (34, .slice p5 n6 c7), (35, iv (n6 : Int)), (36, iv (k : Int)), (41, .slice p2 n3 c4), (42, iv (n3 : Int)), (43, iv 0)]) (rs := []) [10, 11, 12, 13, 15, 16, 17, 18, 34, 35, 36, 41, 42, 43] .nil (by kernel_rfl) fun a w hF hE => ?_)
      replace hO := hO.ext hE; clear hE
      refine (W_block ?_)
      refine (W_loop (fun m a w => ∃ (m_ : Nat), ∃ (q : Int), m = n3 - m_ ∧ m_ ≤ n3 ∧ q = ((((askedR s rs wr h cs).1.take m_).filter (covB ((askedR s rs wr h cs).2.1.getD k default))).length : Int) ∧ 0 ≤ q ∧ q ≤ (m_ : Int) ∧ Fr 72 [] [(10, iv ((nextK (askedR s rs wr h cs).1 (askedR s rs wr h cs).2.1 k).1)), (11, iv ((nextK (askedR s rs wr h cs).1 (askedR s rs wr h cs).2.1 k).2)), (12, iv ((askedR s rs wr h cs).2.2)), (13, .slice p2 n3 c4), (15, .func (.func 68) #[] #[]), (16, iv (k : Int)), (17, pv b12), (18, iv q), (34, .slice p5 n6 c7), (35, iv (n6 : Int)), (36, iv (k : Int)), (41, .slice p2 n3 c4), (42, iv (n3 : Int)), (43, iv (m_ : Int))] a ∧ Own w0 none_ [cel b1 (sS6 s v) 25, rdR encPl 2 p2 n3 (askedR s rs wr h cs).1, rdR encCt 3 p5 n6 (askedR s rs wr h cs).2.1, cel b12 #[iv (((askedR s rs wr h cs).2.1.getD k default).c), iv (((askedR s rs wr h cs).2.1.getD k default).r), iv (((askedR s rs wr h cs).2.1.getD k default).far)] 114] w) _ ⟨0, 0, rfl, Nat.zero_le _, rfl, by omega, by omega, hF, hO⟩ ?_)
      clear hF hO
      rintro _ a w ⟨m_, q, rfl, hm_, hq, hq0, hqm, hF, hO⟩
      refine W_seq (region_q {} TBok hF (F' := [(10, iv ((nextK (askedR s rs wr h cs).1 (askedR s rs wr h cs).2.1 k).1)), (11, iv ((nextK (askedR s rs wr h cs).1 (askedR s rs wr h cs).2.1 k).2)), (12, iv ((askedR s rs wr h cs).2.2)), (13, .slice p2 n3 c4), (15, .func (.func 68) #[] #[]), (16, iv (k : Int)), (17, pv b12), (18, iv q), (34, .slice p5 n6 c7), (35, iv (n6 : Int)), (36, iv (k : Int)), (41, .slice p2 n3 c4), (42, iv (n3 : Int)), (43, iv (m_ : Int)), (44, .bool (decide ((m_ : Int) < (n3 : Int))))]) (rs := []) [10, 11, 12, 13, 15, 16, 17, 18, 34, 35, 36, 41, 42, 43, 44] .nil (by kernel_rfl) fun a w hF hE => ?_)
      replace hO := hO.ext hE; clear hE
      rcases Bool.eq_false_or_eq_true (decide ((m_ : Int) < (n3 : Int))) with hc13 | hc13
      · refine W_seq (W_true ((evOp hF (by kernel_rfl)).trans (congrArg Value.bool hc13)) ?_)
        have hc13_ := of_decide_eq_true hc13
        refine (W_skip ?_)
        refine W_seq (W_block ?_)
        refine W_seq (region_seq ?_)
        refine seq_quiet {} TBok hF (F' := [(10, iv ((nextK (askedR s rs wr h cs).1 (askedR s rs wr h cs).2.1 k).1)), (11, iv ((nextK (askedR s rs wr h cs).1 (askedR s rs wr h cs).2.1 k).2)), (12, iv ((askedR s rs wr h cs).2.2)), (13, .slice p2 n3 c4), (15, .func (.func 68) #[] #[]), (16, iv (k : Int)), (17, pv b12), (18, iv q), (34, .slice p5 n6 c7), (35, iv (n6 : Int)), (36, iv (k : Int)), (41, .slice p2 n3 c4), (42, iv (n3 : Int)), (43, iv (m_ : Int)), (46, .agg #[iv (((askedR s rs wr h cs).1.getD m_ default).1), iv (((askedR s rs wr h cs).1.getD m_ default).2)])]) (rs := [.idx p2 n3 (m_ : Int) 2 (adr p2 2 (m_ : Int)), .lds (adr p2 2 (m_ : Int)) [iv (((askedR s rs wr h cs).1.getD m_ default).1), iv (((askedR s rs wr h cs).1.getD m_ default).2)]]) [0, 1] [2, 3] [10, 11, 12, 13, 15, 16, 17, 18, 34, 35, 36, 41, 42, 43, 46] (.cons (ix (enc := encPl) (xs := (askedR s rs wr h cs).1) ((hO.get 1 rfl)) (by omega) (by omega)) <| .cons (ldsR (enc := encPl) (xs := (askedR s rs wr h cs).1) (a := p2) (i := (m_ : Int)) (fun x_ hx_ => ((hO.st x_ hx_).get 1 rfl)) (by omega) (by omega) rfl) <| .nil) (by kernel_rfl) fun a w hF hE => ?_
        replace hO := hO.ext hE; clear hE
        refine op_alloc (i := 2) (t := 85) (d := 20) (z := .agg #[iv 0, iv 0]) hF hO (by kernel_rfl) (by kernel_rfl) fun a w b14 hF hO _ => ?_
        refine op_store (i := 3) (t := 85) (p := ⟨b14, 0, none⟩) (v := .agg #[iv (((askedR s rs wr h cs).1.getD m_ default).1), iv (((askedR s rs wr h cs).1.getD m_ default).2)]) (off := 0) (sz := 2) (cs' := #[iv (((askedR s rs wr h cs).1.getD m_ default).1), iv (((askedR s rs wr h cs).1.getD m_ default).2)]) hF hO (by kernel_rfl) 4 rfl rfl (by kernel_rfl) (by kernel_rfl) (by kernel_rfl) fun a w hF hO _ => ?_
        replace hF := hF.sel [10, 11, 12, 13, 15, 16, 17, 18, 20, 34, 35, 36, 41, 42, 43]
        replace hF : Fr 72 [] [(10, iv ((nextK (askedR s rs wr h cs).1 (askedR s rs wr h cs).2.1 k).1)), (11, iv ((nextK (askedR s rs wr h cs).1 (askedR s rs wr h cs).2.1 k).2)), (12, iv ((askedR s rs wr h cs).2.2)), (13, .slice p2 n3 c4), (15, .func (.func 68) #[] #[]), (16, iv (k : Int)), (17, pv b12), (18, iv q), (20, pv b14), (34, .slice p5 n6 c7), (35, iv (n6 : Int)), (36, iv (k : Int)), (41, .slice p2 n3 c4), (42, iv (n3 : Int)), (43, iv (m_ : Int))] a := hF
        refine W_seq (region_q {} TBok hF (F' := [(10, iv ((nextK (askedR s rs wr h cs).1 (askedR s rs wr h cs).2.1 k).1)), (11, iv ((nextK (askedR s rs wr h cs).1 (askedR s rs wr h cs).2.1 k).2)), (12, iv ((askedR s rs wr h cs).2.2)), (13, .slice p2 n3 c4), (15, .func (.func 68) #[] #[]), (16, iv (k : Int)), (17, pv b12), (18, iv q), (34, .slice p5 n6 c7), (35, iv (n6 : Int)), (36, iv (k : Int)), (41, .slice p2 n3 c4), (42, iv (n3 : Int)), (43, iv (m_ : Int)), (50, .bool (covB ((askedR s rs wr h cs).2.1.getD k default) ((askedR s rs wr h cs).1.getD m_ default)))]) (rs := [.lds ⟨b12, 0, none⟩ [iv (((askedR s rs wr h cs).2.1.getD k default).c), iv (((askedR s rs wr h cs).2.1.getD k default).r), iv (((askedR s rs wr h cs).2.1.getD k default).far)], .lds ⟨b14, 0, none⟩ [iv (((askedR s rs wr h cs).1.getD m_ default).1), iv (((askedR s rs wr h cs).1.getD m_ default).2)], .call 68 #[.agg #[iv (((askedR s rs wr h cs).2.1.getD k default).c), iv (((askedR s rs wr h cs).2.1.getD k default).r), iv (((askedR s rs wr h cs).2.1.getD k default).far)], .agg #[iv (((askedR s rs wr h cs).1.getD m_ default).1), iv (((askedR s rs wr h cs).1.getD m_ default).2)]] (.bool (covB ((askedR s rs wr h cs).2.1.getD k default) ((askedR s rs wr h cs).1.getD m_ default)))]) [10, 11, 12, 13, 15, 16, 17, 18, 34, 35, 36, 41, 42, 43, 50] (.cons (ldso hO.st 3 rfl 0 rfl) <| .cons (ldso hO.st 4 rfl 0 rfl) <| .cons (fun w hE => covers_calls ((askedR s rs wr h cs).2.1.getD k default) ((askedR s rs wr h cs).1.getD m_ default) w (hbd.2.2.2.2 k (by omega)) (hbd.2.2.2.1 m_ (by omega))) <| .nil) (by kernel_rfl) fun a w hF hE => ?_)
        replace hO := hO.ext hE; clear hE
        rcases Bool.eq_false_or_eq_true (covB ((askedR s rs wr h cs).2.1.getD k default) ((askedR s rs wr h cs).1.getD m_ default)) with hc15 | hc15
        · refine (W_true ((evOp hF (by kernel_rfl)).trans (congrArg Value.bool hc15)) ?_)
          refine (region_q {} TBok hF (F' := [(10, iv ((nextK (askedR s rs wr h cs).1 (askedR s rs wr h cs).2.1 k).1)), (11, iv ((nextK (askedR s rs wr h cs).1 (askedR s rs wr h cs).2.1 k).2)), (12, iv ((askedR s rs wr h cs).2.2)), (13, .slice p2 n3 c4), (15, .func (.func 68) #[] #[]), (16, iv (k : Int)), (17, pv b12), (18, iv (q + 1)), (34, .slice p5 n6 c7), (35, iv (n6 : Int)), (36, iv (k : Int)), (41, .slice p2 n3 c4), (42, iv (n3 : Int)), (43, iv (m_ : Int))]) (rs := [.rng (q + 1)]) [10, 11, 12, 13, 15, 16, 17, 18, 34, 35, 36, 41, 42, 43] (.cons (rg (by omega)) <| .nil) (by kernel_rfl) fun a w hF hE => ?_)
          replace hO := hO.ext hE; clear hE
          refine (region_q {} TBok hF (F' := [(10, iv ((nextK (askedR s rs wr h cs).1 (askedR s rs wr h cs).2.1 k).1)), (11, iv ((nextK (askedR s rs wr h cs).1 (askedR s rs wr h cs).2.1 k).2)), (12, iv ((askedR s rs wr h cs).2.2)), (13, .slice p2 n3 c4), (15, .func (.func 68) #[] #[]), (16, iv (k : Int)), (17, pv b12), (18, iv (q + 1)), (34, .slice p5 n6 c7), (35, iv (n6 : Int)), (36, iv (k : Int)), (41, .slice p2 n3 c4), (42, iv (n3 : Int)), (43, iv ((m_ : Int) + 1))]) (rs := [.rng ((m_ : Int) + 1)]) [10, 11, 12, 13, 15, 16, 17, 18, 34, 35, 36, 41, 42, 43] (.cons (rg (by omega)) <| .nil) (by kernel_rfl) fun a w hF hE => ?_)
          replace hO := hO.ext hE; clear hE
          have hst_ := filtN_take (P := (askedR s rs wr h cs).1) ((askedR s rs wr h cs).2.1.getD k default) (k := m_) (by omega)
          rw [hc15] at hst_; simp only [cond_true, cond_false] at hst_
          replace hO := hO.drop1 4
          exact ⟨_, by omega, m_ + 1, _, rfl, by omega, by rw [hst_, ← hq], by omega, by omega, hF, hO⟩
        · refine (W_false ((evOp hF (by kernel_rfl)).trans (congrArg Value.bool hc15)) ?_)
          refine (W_skip ?_)
          refine (region_q {} TBok hF (F' := [(10, iv ((nextK (askedR s rs wr h cs).1 (askedR s rs wr h cs).2.1 k).1)), (11, iv ((nextK (askedR s rs wr h cs).1 (askedR s rs wr h cs).2.1 k).2)), (12, iv ((askedR s rs wr h cs).2.2)), (13, .slice p2 n3 c4), (15, .func (.func 68) #[] #[]), (16, iv (k : Int)), (17, pv b12), (18, iv q), (34, .slice p5 n6 c7), (35, iv (n6 : Int)), (36, iv (k : Int)), (41, .slice p2 n3 c4), (42, iv (n3 : Int)), (43, iv ((m_ : Int) + 1))]) (rs := [.rng ((m_ : Int) + 1)]) [10, 11, 12, 13, 15, 16, 17, 18, 34, 35, 36, 41, 42, 43] (.cons (rg (by omega)) <| .nil) (by kernel_rfl) fun a w hF hE => ?_)
          replace hO := hO.ext hE; clear hE
          have hst_ := filtN_take (P := (askedR s rs wr h cs).1) ((askedR s rs wr h cs).2.1.getD k default) (k := m_) (by omega)
          rw [hc15] at hst_; simp only [cond_true, cond_false] at hst_
          replace hO := hO.drop1 4
          exact ⟨_, by omega, m_ + 1, _, rfl, by omega, by rw [hst_, ← hq]; omega, by omega, by omega, hF, hO⟩
      · refine W_seq (W_false ((evOp hF (by kernel_rfl)).trans (congrArg Value.bool hc13)) ?_)
        have hc13_ := of_decide_eq_false hc13
        refine (W_exit ?_)
        refine W_seq (region_q { md := [(5, 3)] } TBok hF (F' := [(10, iv ((nextK (askedR s rs wr h cs).1 (askedR s rs wr h cs).2.1 k).1)), (11, iv ((nextK (askedR s rs wr h cs).1 (askedR s rs wr h cs).2.1 k).2)), (12, iv ((askedR s rs wr h cs).2.2)), (13, .slice p2 n3 c4), (15, .func (.func 68) #[] #[]), (16, iv (k : Int)), (18, iv (mx q ((n3 : Int) - q))), (34, .slice p5 n6 c7), (35, iv (n6 : Int)), (36, iv (k : Int))]) (rs := [.rng ((n3 : Int) - q), .raw (Builtin.max_ #[3, 3] 3 #[iv q, iv ((n3 : Int) - q)]) (iv (mx q ((n3 : Int) - q)))]) [10, 11, 12, 13, 15, 16, 18, 34, 35, 36] (.cons (rg (by omega)) <| .cons raw_max2 <| .nil) (by kernel_rfl) fun a w hF hE => ?_)
        replace hO := hO.ext hE; clear hE
        refine W_seq (region_q { sy := [2] } TBok hF (F' := [(10, iv ((nextK (askedR s rs wr h cs).1 (askedR s rs wr h cs).2.1 k).1)), (11, iv ((nextK (askedR s rs wr h cs).1 (askedR s rs wr h cs).2.1 k).2)), (12, iv ((askedR s rs wr h cs).2.2)), (13, .slice p2 n3 c4), (15, .func (.func 68) #[] #[]), (16, iv (k : Int)), (18, iv (mx q ((n3 : Int) - q))), (34, .slice p5 n6 c7), (35, iv (n6 : Int)), (36, iv (k : Int)), (66, .bool (cond ((k : Int) == 0) true (decide ((mx q ((n3 : Int) - q)) < (nextK (askedR s rs wr h cs).1 (askedR s rs wr h cs).2.1 k).2))))]) (rs := []) [10, 11, 12, 13, 15, 16, 18, 34, 35, 36, 66] .nil (by kernel_rfl) fun a w hF hE => ?_)
        replace hO := hO.ext hE; clear hE
        rcases Bool.eq_false_or_eq_true (cond ((k : Int) == 0) true (decide ((mx q ((n3 : Int) - q)) < (nextK (askedR s rs wr h cs).1 (askedR s rs wr h cs).2.1 k).2))) with hc16 | hc16
        · refine (W_true ((evOp hF (by kernel_rfl)).trans (congrArg Value.bool hc16)) ?_)
          refine (region_q {} TBok hF (F' := [(10, iv (k : Int)), (11, iv (mx q ((n3 : Int) - q))), (12, iv ((askedR s rs wr h cs).2.2)), (13, .slice p2 n3 c4), (15, .func (.func 68) #[] #[]), (34, .slice p5 n6 c7), (35, iv (n6 : Int)), (36, iv (k : Int))]) (rs := []) [10, 11, 12, 13, 15, 34, 35, 36] .nil (by kernel_rfl) fun a w hF hE => ?_)
          replace hO := hO.ext hE; clear hE
          refine (region_q {} TBok hF (F' := [(10, iv (k : Int)), (11, iv (mx q ((n3 : Int) - q))), (12, iv ((askedR s rs wr h cs).2.2)), (13, .slice p2 n3 c4), (15, .func (.func 68) #[] #[]), (34, .slice p5 n6 c7), (35, iv (n6 : Int)), (36, iv ((k : Int) + 1))]) (rs := [.rng ((k : Int) + 1)]) [10, 11, 12, 13, 15, 34, 35, 36] (.cons (rg (by omega)) <| .nil) (by kernel_rfl) fun a w hF hE => ?_)
          replace hO := hO.ext hE; clear hE
          have hcw : mx q ((n3 : Int) - q) = worN (askedR s rs wr h cs).1 ((askedR s rs wr h cs).2.1.getD k default) := by rw [worN, covN, hq, List.take_of_length_le (show ((askedR s rs wr h cs).1).length ≤ m_ by omega), hn8]
          have hnk : nextK (askedR s rs wr h cs).1 (askedR s rs wr h cs).2.1 (k + 1) = cond (cond ((k : Int) == 0) true (decide (worN (askedR s rs wr h cs).1 ((askedR s rs wr h cs).2.1.getD k default) < (nextK (askedR s rs wr h cs).1 (askedR s rs wr h cs).2.1 k).2))) ((k : Int), worN (askedR s rs wr h cs).1 ((askedR s rs wr h cs).2.1.getD k default)) (nextK (askedR s rs wr h cs).1 (askedR s rs wr h cs).2.1 k) := rfl
          rw [show (cond ((k : Int) == 0) true (decide (worN (askedR s rs wr h cs).1 ((askedR s rs wr h cs).2.1.getD k default) < (nextK (askedR s rs wr h cs).1 (askedR s rs wr h cs).2.1 k).2))) = true from (by rw [← hcw]; exact hc16), cond_true] at hnk
          replace hO := hO.drop1 3
          exact ⟨_, by omega, k + 1, rfl, by omega, hF.cast (by rw [hnk, ← hcw] <;> rfl), hO⟩
        · refine (W_false ((evOp hF (by kernel_rfl)).trans (congrArg Value.bool hc16)) ?_)
          refine (W_skip ?_)
          refine (region_q {} TBok hF (F' := [(10, iv ((nextK (askedR s rs wr h cs).1 (askedR s rs wr h cs).2.1 k).1)), (11, iv ((nextK (askedR s rs wr h cs).1 (askedR s rs wr h cs).2.1 k).2)), (12, iv ((askedR s rs wr h cs).2.2)), (13, .slice p2 n3 c4), (15, .func (.func 68) #[] #[]), (34, .slice p5 n6 c7), (35, iv (n6 : Int)), (36, iv ((k : Int) + 1))]) (rs := [.rng ((k : Int) + 1)]) [10, 11, 12, 13, 15, 34, 35, 36] (.cons (rg (by omega)) <| .nil) (by kernel_rfl) fun a w hF hE => ?_)
          replace hO := hO.ext hE; clear hE
          have hcw : mx q ((n3 : Int) - q) = worN (askedR s rs wr h cs).1 ((askedR s rs wr h cs).2.1.getD k default) := by rw [worN, covN, hq, List.take_of_length_le (show ((askedR s rs wr h cs).1).length ≤ m_ by omega), hn8]
          have hnk : nextK (askedR s rs wr h cs).1 (askedR s rs wr h cs).2.1 (k + 1) = cond (cond ((k : Int) == 0) true (decide (worN (askedR s rs wr h cs).1 ((askedR s rs wr h cs).2.1.getD k default) < (nextK (askedR s rs wr h cs).1 (askedR s rs wr h cs).2.1 k).2))) ((k : Int), worN (askedR s rs wr h cs).1 ((askedR s rs wr h cs).2.1.getD k default)) (nextK (askedR s rs wr h cs).1 (askedR s rs wr h cs).2.1 k) := rfl
          rw [show (cond ((k : Int) == 0) true (decide (worN (askedR s rs wr h cs).1 ((askedR s rs wr h cs).2.1.getD k default) < (nextK (askedR s rs wr h cs).1 (askedR s rs wr h cs).2.1 k).2))) = false from (by rw [← hcw]; exact hc16), cond_false] at hnk
          replace hO := hO.drop1 3
          exact ⟨_, by omega, k + 1, rfl, by omega, hF.cast (by rw [hnk] <;> rfl), hO⟩
    · refine W_seq (W_false ((evOp hF (by kernel_rfl)).trans (congrArg Value.bool hc11)) ?_)
      have hc11_ := of_decide_eq_false hc11
      refine (W_exit ?_)
      refine W_seq (region_q {} TBok hF (F' := [(10, iv ((nextK (askedR s rs wr h cs).1 (askedR s rs wr h cs).2.1 k).1)), (11, iv ((nextK (askedR s rs wr h cs).1 (askedR s rs wr h cs).2.1 k).2)), (12, iv 0)]) (rs := []) [10, 11, 12] .nil (by kernel_rfl) fun a w hF hE => ?_)
      replace hO := hO.ext hE; clear hE
      refine W_ret ?_
      show bodyPostM (FW none) 0 _ _ _ Exit.ret a w
      have hkk : k = (askedR s rs wr h cs).2.1.length := by omega
      have hres : nextR s rs wr h cs = ((nextK (askedR s rs wr h cs).1 (askedR s rs wr h cs).2.1 k).1, (nextK (askedR s rs wr h cs).1 (askedR s rs wr h cs).2.1 k).2, 0) := by unfold nextR; rw [if_neg (by rw [hz]; simp), hkk]
      exact leave_r TBok hF (.nil _) (vs := [iv ((nextK (askedR s rs wr h cs).1 (askedR s rs wr h cs).2.1 k).1), iv ((nextK (askedR s rs wr h cs).1 (askedR s rs wr h cs).2.1 k).2), iv 0]) (rs := []) .nil (by kernel_rfl) ⟨by rw [hres]; rfl, hO.kp⟩

end Go.Proofs.Ytgihgcclabodbaa.DK
