/- Walks: the reference's common package. Printed by my gen.py out of shoal/g.py. -/
import Derived.Test.YtgihgcclabodbaaSA
import Derived.Test.YtgihgcclabodbaaSB0
namespace Go.Proofs.Ytgihgcclabodbaa.DK
open Go Go.Proofs
set_option linter.unusedVariables false
set_option linter.unusedSimpArgs false

set_option maxHeartbeats 4000000 in
set_option maxRecDepth 100000 in
theorem Place_calls (xs : List Int) (p : Option Addr) (n c : Nat) (x : Int) (w0 : World) (hx : Rd encI 1 w0.heap.size w0 p n xs) :
    Calls Try.prog 35 #[.slice p n c, iv x] w0 (fun e w' => e = .returned (iv (placeI xs x)) ∧ Ext w0 w') := by
  have hl1 := hx.len; have hs1 := hx.size
  refine calls_of_W Try.func35 rfl (by kernel_rfl) (args := [.slice p n c, iv x]) fun a hF => ?_
  replace hF : Fr 19 [] [(0, .slice p n c), (1, iv x)] a := hF
  have hO : Own w0 none_ [] w0 := Own.start w0 _
  refine W_seq (region_q {} TBok hF (F' := [(0, .slice p n c), (1, iv x), (4, iv 0)]) (rs := []) [0, 1, 4] .nil (by kernel_rfl) fun a w hF hE => ?_)
  replace hO := hO.ext hE; clear hE
  refine W_seq ?_
  refine W_seq (region_q {} TBok hF (F' := [(0, .slice p n c), (1, iv x), (4, iv 0), (5, iv 0)]) (rs := []) [0, 1, 4, 5] .nil (by kernel_rfl) fun a w hF hE => ?_)
  replace hO := hO.ext hE; clear hE
  refine (W_block ?_)
  replace hF := hF.sel [0, 1, 5]
  refine (W_loop (fun m a w => ∃ (k : Nat), m = n - k ∧ k ≤ n ∧ placeG x (k : Int) (xs.drop k) = placeI xs x ∧ Fr 19 [] [(0, .slice p n c), (1, iv x), (5, iv (k : Int))] a ∧ Own w0 none_ [] w) _ ⟨0, rfl, Nat.zero_le _, rfl, hF, hO⟩ ?_)
  clear hF hO
  rintro _ a w ⟨k, rfl, hk, hpl, hF, hO⟩
  refine W_seq ?_
  refine W_seq (region_q {} TBok hF (F' := [(0, .slice p n c), (1, iv x), (5, iv (k : Int)), (9, .bool (decide ((k : Int) < (n : Int))))]) (rs := []) [0, 1, 5, 9] .nil (by kernel_rfl) fun a w hF hE => ?_)
  replace hO := hO.ext hE; clear hE
  rcases Bool.eq_false_or_eq_true (decide ((k : Int) < (n : Int))) with hc1 | hc1
  · refine (W_true ((evOp hF (by kernel_rfl)).trans (congrArg Value.bool hc1)) ?_)
    have hc1_ := of_decide_eq_true hc1
    refine (W_skip ?_)
    refine W_seq (W_block ?_)
    refine W_seq (region_q {} TBok hF (F' := [(0, .slice p n c), (1, iv x), (5, iv (k : Int)), (17, .bool ((xs.getD k default) == x))]) (rs := [.idx p n (k : Int) 1 (adr p 1 (k : Int)), .ld (adr p 1 (k : Int)) (iv (xs.getD k default))]) [0, 1, 5, 17] (.cons (ix hx (by omega) (by omega)) <| .cons (ldx hO.st nom hx (by omega) (by omega) 0 rfl) <| .nil) (by kernel_rfl) fun a w hF hE => ?_)
    replace hO := hO.ext hE; clear hE
    rcases Bool.eq_false_or_eq_true ((xs.getD k default) == x) with hc2 | hc2
    · refine (W_true ((evOp hF (by kernel_rfl)).trans (congrArg Value.bool hc2)) ?_)
      refine W_seq (region_q {} TBok hF (F' := [(0, .slice p n c), (1, iv x), (4, iv (k : Int)), (5, iv (k : Int))]) (rs := []) [0, 1, 4, 5] .nil (by kernel_rfl) fun a w hF hE => ?_)
      replace hO := hO.ext hE; clear hE
      refine W_ret ?_
      show bodyPostM (FW none) 0 _ _ _ Exit.ret a w
      exact leave_r TBok hF (.nil _) (vs := [iv (k : Int)]) (rs := []) .nil (by kernel_rfl) ⟨by rw [← hpl, placeG_hit (by omega) hc2]; rfl, hO.kp⟩
    · refine (W_false ((evOp hF (by kernel_rfl)).trans (congrArg Value.bool hc2)) ?_)
      refine (W_skip ?_)
      refine (region_q {} TBok hF (F' := [(0, .slice p n c), (1, iv x), (5, iv ((k : Int) + 1))]) (rs := [.rng ((k : Int) + 1)]) [0, 1, 5] (.cons (rg (by omega)) <| .nil) (by kernel_rfl) fun a w hF hE => ?_)
      replace hO := hO.ext hE; clear hE
      exact ⟨_, by omega, k + 1, rfl, by omega, (placeG_step (by omega) hc2).trans hpl, hF, hO⟩
  · refine (W_false ((evOp hF (by kernel_rfl)).trans (congrArg Value.bool hc1)) ?_)
    have hc1_ := of_decide_eq_false hc1
    refine (W_exit ?_)
    refine W_seq (region_q {} TBok hF (F' := [(4, iv (-1))]) (rs := []) [4] .nil (by kernel_rfl) fun a w hF hE => ?_)
    replace hO := hO.ext hE; clear hE
    refine W_ret ?_
    show bodyPostM (FW none) 0 _ _ _ Exit.ret a w
    rw [List.drop_of_length_le (by omega)] at hpl
    exact leave_r TBok hF (.nil _) (vs := [iv (-1)]) (rs := []) .nil (by kernel_rfl) ⟨by rw [← hpl]; rfl, hO.kp⟩

set_option maxHeartbeats 4000000 in
set_option maxRecDepth 100000 in
theorem Same_calls (xs ys : List Int) (p p2 : Option Addr) (n n2 c c2 : Nat) (w0 : World) (hx : Rd encI 1 w0.heap.size w0 p n xs) (hy : Rd encI 1 w0.heap.size w0 p2 n2 ys) :
    Calls Try.prog 22 #[.slice p n c, .slice p2 n2 c2] w0 (fun e w' => e = .returned (.bool (decide (xs = ys))) ∧ Ext w0 w') := by
  have hl1 := hx.len; have hl2 := hy.len; have hs1 := hx.size; have hs2 := hy.size
  refine calls_of_W Try.func22 rfl (by kernel_rfl) (args := [.slice p n c, .slice p2 n2 c2]) fun a hF => ?_
  replace hF : Fr 26 [] [(0, .slice p n c), (1, .slice p2 n2 c2)] a := hF
  have hO : Own w0 none_ [] w0 := Own.start w0 _
  refine W_seq (region_q {} TBok hF (F' := [(0, .slice p n c), (1, .slice p2 n2 c2), (4, .bool false)]) (rs := []) [0, 1, 4] .nil (by kernel_rfl) fun a w hF hE => ?_)
  replace hO := hO.ext hE; clear hE
  refine W_seq ?_
  refine W_seq (region_q {} TBok hF (F' := [(0, .slice p n c), (1, .slice p2 n2 c2), (4, .bool false), (10, .bool ((n : Int) != (n2 : Int)))]) (rs := []) [0, 1, 4, 10] .nil (by kernel_rfl) fun a w hF hE => ?_)
  replace hO := hO.ext hE; clear hE
  rcases Bool.eq_false_or_eq_true ((n : Int) != (n2 : Int)) with hc1 | hc1
  · refine (W_true ((evOp hF (by kernel_rfl)).trans (congrArg Value.bool hc1)) ?_)
    have hnn : n ≠ n2 := by have := (by assumption : ((n : Int) != (n2 : Int)) = true); simp at this; omega
    refine W_seq (region_q {} TBok hF (F' := [(0, .slice p n c), (1, .slice p2 n2 c2), (4, .bool false)]) (rs := []) [0, 1, 4] .nil (by kernel_rfl) fun a w hF hE => ?_)
    replace hO := hO.ext hE; clear hE
    refine W_ret ?_
    show bodyPostM (FW none) 0 _ _ _ Exit.ret a w
    exact leave_r TBok hF (.nil _) (vs := [.bool false]) (rs := []) .nil (by kernel_rfl) ⟨by rw [decide_eq_false (show ¬ xs = ys from fun e => hnn (by rw [← hl1, ← hl2, e]))]; rfl, hO.kp⟩
  · refine (W_false ((evOp hF (by kernel_rfl)).trans (congrArg Value.bool hc1)) ?_)
    have hnn : n = n2 := by have := (by assumption : ((n : Int) != (n2 : Int)) = false); simp at this; omega
    refine (W_skip ?_)
    refine W_seq ?_
    refine W_seq (region_q {} TBok hF (F' := [(0, .slice p n c), (1, .slice p2 n2 c2), (4, .bool false), (5, iv 0)]) (rs := []) [0, 1, 4, 5] .nil (by kernel_rfl) fun a w hF hE => ?_)
    replace hO := hO.ext hE; clear hE
    refine (W_block ?_)
    replace hF := hF.sel [0, 1, 5]
    refine (W_loop (fun m a w => ∃ (k : Nat), m = n - k ∧ k ≤ n ∧ xs.take k = ys.take k ∧ Fr 26 [] [(0, .slice p n c), (1, .slice p2 n2 c2), (5, iv (k : Int))] a ∧ Own w0 none_ [] w) _ ⟨0, rfl, Nat.zero_le _, rfl, hF, hO⟩ ?_)
    clear hF hO
    rintro _ a w ⟨k, rfl, hk, heq, hF, hO⟩
    refine W_seq ?_
    refine W_seq (region_q {} TBok hF (F' := [(0, .slice p n c), (1, .slice p2 n2 c2), (5, iv (k : Int)), (14, .bool (decide ((k : Int) < (n : Int))))]) (rs := []) [0, 1, 5, 14] .nil (by kernel_rfl) fun a w hF hE => ?_)
    replace hO := hO.ext hE; clear hE
    rcases Bool.eq_false_or_eq_true (decide ((k : Int) < (n : Int))) with hc2 | hc2
    · refine (W_true ((evOp hF (by kernel_rfl)).trans (congrArg Value.bool hc2)) ?_)
      have hc2_ := of_decide_eq_true hc2
      refine (W_skip ?_)
      refine W_seq (W_block ?_)
      refine W_seq (region_d {} mixed TBok hF (F' := [(0, .slice p n c), (1, .slice p2 n2 c2), (5, iv (k : Int)), (25, .bool ((xs.getD k default) != (ys.getD k default)))]) (rs := [.idx p n (k : Int) 1 (adr p 1 (k : Int)), .ld (adr p 1 (k : Int)) (iv (xs.getD k default)), .idx p2 n2 (k : Int) 1 (adr p2 1 (k : Int)), .ld (adr p2 1 (k : Int)) (iv (ys.getD k default))]) [0, 1, 5, 25] (.cons (ix hx (by omega) (by omega)) <| .cons (ldx hO.st nom hx (by omega) (by omega) 0 rfl) <| .cons (ix hy (by omega) (by omega)) <| .cons (ldx hO.st nom hy (by omega) (by omega) 0 rfl) <| .nil) (by kernel_rfl) (by kernel_rfl) fun a w hF hE => ?_)
      replace hO := hO.ext hE; clear hE
      rcases Bool.eq_false_or_eq_true ((xs.getD k default) != (ys.getD k default)) with hc3 | hc3
      · refine (W_true ((evOp hF (by kernel_rfl)).trans (congrArg Value.bool hc3)) ?_)
        refine W_seq (region_q {} TBok hF (F' := [(0, .slice p n c), (1, .slice p2 n2 c2), (4, .bool false), (5, iv (k : Int))]) (rs := []) [0, 1, 4, 5] .nil (by kernel_rfl) fun a w hF hE => ?_)
        replace hO := hO.ext hE; clear hE
        refine W_ret ?_
        show bodyPostM (FW none) 0 _ _ _ Exit.ret a w
        exact leave_r TBok hF (.nil _) (vs := [.bool false]) (rs := []) .nil (by kernel_rfl) ⟨by rw [decide_eq_false (show ¬ xs = ys from fun e => by have h := hc3; rw [e] at h; simp at h)]; rfl, hO.kp⟩
      · refine (W_false ((evOp hF (by kernel_rfl)).trans (congrArg Value.bool hc3)) ?_)
        refine (W_skip ?_)
        refine (region_q {} TBok hF (F' := [(0, .slice p n c), (1, .slice p2 n2 c2), (5, iv ((k : Int) + 1))]) (rs := [.rng ((k : Int) + 1)]) [0, 1, 5] (.cons (rg (by omega)) <| .nil) (by kernel_rfl) fun a w hF hE => ?_)
        replace hO := hO.ext hE; clear hE
        exact ⟨_, by omega, k + 1, rfl, by omega, take_same heq (by omega) (by omega) (by simpa using (by assumption : ((xs.getD k default) != (ys.getD k default)) = false)), hF, hO⟩
    · refine (W_false ((evOp hF (by kernel_rfl)).trans (congrArg Value.bool hc2)) ?_)
      have hc2_ := of_decide_eq_false hc2
      refine (W_exit ?_)
      refine W_seq (region_q {} TBok hF (F' := [(4, .bool true)]) (rs := []) [4] .nil (by kernel_rfl) fun a w hF hE => ?_)
      replace hO := hO.ext hE; clear hE
      refine W_ret ?_
      show bodyPostM (FW none) 0 _ _ _ Exit.ret a w
      have he2 : xs = ys := by rw [List.take_of_length_le (by omega), List.take_of_length_le (by omega)] at heq; exact heq
      exact leave_r TBok hF (.nil _) (vs := [.bool true]) (rs := []) .nil (by kernel_rfl) ⟨by rw [decide_eq_true he2]; rfl, hO.kp⟩

set_option maxHeartbeats 4000000 in
set_option maxRecDepth 100000 in
theorem Bit_calls (set k : Int) (w0 : World) (h0 : 0 ≤ k) :
    Calls Try.prog 76 #[iv set, iv k] w0 (fun e w' => e = .returned (.bool (bitB set k)) ∧ Ext w0 w') := by
  refine calls_of_W Try.func76 rfl (by kernel_rfl) (args := [iv set, iv k]) fun a hF => ?_
  replace hF : Fr 10 [] [(0, iv set), (1, iv k)] a := hF
  have hO : Own w0 none_ [] w0 := Own.start w0 _
  refine W_seq (region_q {} TBok hF (F' := [(0, iv set), (1, iv k), (4, .bool false)]) (rs := []) [0, 1, 4] .nil (by kernel_rfl) fun a w hF hE => ?_)
  replace hO := hO.ext hE; clear hE
  refine W_seq (region_q { md := [(2, 3), (3, 3)] } TBok hF (F' := [(4, .bool ((bits .and .i64 (Int.fdiv set (2 ^ (min k.toNat 64))) 1) == 1))]) (rs := [.raw (rb .shr 3 (.tmp 5) (.tmp 6) (iv set) (iv k)) (iv (Int.fdiv set (2 ^ (min k.toNat 64)))), .raw (rb .and 3 (.tmp 7) (.const (iv 1)) (iv (Int.fdiv set (2 ^ (min k.toNat 64)))) (iv 1)) (iv (bits .and .i64 (Int.fdiv set (2 ^ (min k.toNat 64))) 1))]) [4] (.cons (raw_shr h0) <| .cons raw_and <| .nil) (by kernel_rfl) fun a w hF hE => ?_)
  replace hO := hO.ext hE; clear hE
  refine W_ret ?_
  show bodyPostM (FW none) 0 _ _ _ Exit.ret a w
  exact leave_r TBok hF (.nil _) (vs := [.bool ((bits .and .i64 (Int.fdiv set (2 ^ (min k.toNat 64))) 1) == 1)]) (rs := []) .nil (by kernel_rfl) ⟨rfl, hO.kp⟩

set_option maxHeartbeats 4000000 in
set_option maxRecDepth 100000 in
theorem Members_calls (set : Int) (mb : Nat) (w0 : World) (hm : mb ≤ 1000) :
    Calls Try.prog 42 #[iv set, iv (mb : Int)] w0 (fun e w' => ∃ p q c, (memL mb set).length = q ∧ e = .returned (.slice p q c) ∧ Own w0 none_ [rowR 3 1 (.slice p q c) q ((memL mb set).flatMap encI)] w') := by
  refine calls_of_W Try.func42 rfl (by kernel_rfl) (args := [iv set, iv (mb : Int)]) fun a hF => ?_
  replace hF : Fr 20 [] [(0, iv set), (1, iv (mb : Int))] a := hF
  have hO : Own w0 none_ [] w0 := Own.start w0 _
  refine W_seq (region_q {} TBok hF (F' := [(0, iv set), (1, iv (mb : Int)), (4, .slice none 0 0)]) (rs := []) [0, 1, 4] .nil (by kernel_rfl) fun a w hF hE => ?_)
  replace hO := hO.ext hE; clear hE
  refine W_seq (region_q {} TBok hF (F' := [(0, iv set), (1, iv (mb : Int)), (4, .slice none 0 0), (5, .slice none 0 0)]) (rs := []) [0, 1, 4, 5] .nil (by kernel_rfl) fun a w hF hE => ?_)
  replace hO := hO.ext hE; clear hE
  refine W_seq ?_
  refine W_seq (region_q {} TBok hF (F' := [(0, iv set), (1, iv (mb : Int)), (4, .slice none 0 0), (5, .slice none 0 0), (6, iv 0)]) (rs := []) [0, 1, 4, 5, 6] .nil (by kernel_rfl) fun a w hF hE => ?_)
  replace hO := hO.ext hE; clear hE
  refine (W_block ?_)
  replace hO := hO.nilRow 3 1
  refine (W_loop (fun m a w => ∃ (k : Nat), ∃ (p : Option Addr), ∃ (q : Nat), ∃ (c : Nat), m = mb - k ∧ k ≤ mb ∧ (memL k set).length = q ∧ Fr 20 [] [(0, iv set), (1, iv (mb : Int)), (4, .slice none 0 0), (5, .slice p q c), (6, iv (k : Int))] a ∧ Own w0 none_ [rowR 3 1 (.slice p q c) q ((memL k set).flatMap encI)] w) _ ⟨0, none, 0, 0, rfl, Nat.zero_le _, rfl, hF, hO⟩ ?_)
  clear hF hO
  rintro _ a w ⟨k, p, q, c, rfl, hk, hq, hF, hO⟩
  have hqk := memL_len k set
  refine W_seq ?_
  refine W_seq (region_q {} TBok hF (F' := [(0, iv set), (1, iv (mb : Int)), (4, .slice none 0 0), (5, .slice p q c), (6, iv (k : Int)), (9, .bool (decide ((k : Int) < (mb : Int))))]) (rs := []) [0, 1, 4, 5, 6, 9] .nil (by kernel_rfl) fun a w hF hE => ?_)
  replace hO := hO.ext hE; clear hE
  rcases Bool.eq_false_or_eq_true (decide ((k : Int) < (mb : Int))) with hc1 | hc1
  · refine (W_true ((evOp hF (by kernel_rfl)).trans (congrArg Value.bool hc1)) ?_)
    have hc1_ := of_decide_eq_true hc1
    refine (W_skip ?_)
    refine W_seq (W_block ?_)
    refine W_seq (region_q {} TBok hF (F' := [(0, iv set), (1, iv (mb : Int)), (4, .slice none 0 0), (5, .slice p q c), (6, iv (k : Int)), (14, .bool (bitB set (k : Int)))]) (rs := [.call 76 #[iv set, iv (k : Int)] (.bool (bitB set (k : Int)))]) [0, 1, 4, 5, 6, 14] (.cons (fun w hE => Bit_calls set (k : Int) w (by omega)) <| .nil) (by kernel_rfl) fun a w hF hE => ?_)
    replace hO := hO.ext hE; clear hE
    rcases Bool.eq_false_or_eq_true (bitB set (k : Int)) with hc2 | hc2
    · refine (W_true ((evOp hF (by kernel_rfl)).trans (congrArg Value.bool hc2)) ?_)
      refine (region_seq ?_)
      refine seq_quiet {} TBok hF (F' := [(0, iv set), (1, iv (mb : Int)), (4, .slice none 0 0), (5, .slice p q c), (6, iv (k : Int)), (15, .slice p q c), (16, iv (k : Int))]) (rs := []) [0, 1] [2, 3, 4] [0, 1, 4, 5, 6, 15, 16] .nil (by kernel_rfl) fun a w hF hE => ?_
      replace hO := hO.ext hE; clear hE
      refine op_bsl (i := 2) (t := 22) (e := 3) (len := 1) (ps := [(0, iv (k : Int))]) (d := 17) (sz := 1) (cs := #[iv (k : Int)]) (z := iv 0) hF hO (by kernel_rfl) (by kernel_rfl) (by kernel_rfl) (by kernel_rfl) (by kernel_rfl) fun a w b3 hF hO _ => ?_
      refine op_appR (i := 3) (t := 22) (ty := 22) (e := 3) (d := 18) rowT22 hF hO (by kernel_rfl) 0 rfl 1 rfl (by kernel_rfl) (by omega) fun a w p4 c5 hF hO hx => ?_
      clear hx
      refine seq_quiet {} TBok hF (F' := [(0, iv set), (1, iv (mb : Int)), (4, .slice none 0 0), (5, .slice p4 (q + 1) c5), (6, iv (k : Int))]) (rs := []) [4] [] [0, 1, 4, 5, 6] .nil (by kernel_rfl) fun a w hF hE => ?_
      replace hO := hO.ext hE; clear hE
      refine (region_q {} TBok hF (F' := [(0, iv set), (1, iv (mb : Int)), (4, .slice none 0 0), (5, .slice p4 (q + 1) c5), (6, iv ((k : Int) + 1))]) (rs := [.rng ((k : Int) + 1)]) [0, 1, 4, 5, 6] (.cons (rg (by omega)) <| .nil) (by kernel_rfl) fun a w hF hE => ?_)
      replace hO := hO.ext hE; clear hE
      replace hO := hO.drop1 1
      replace hO : Own w0 none_ [rowR 3 1 (.slice p4 (q + 1) c5) (q + 1) (((memL k set).flatMap encI) ++ (#[iv (k : Int)] : Array Value).toList)] w := hO
      replace hO : Own w0 none_ [rowR 3 1 (.slice p4 (q + 1) c5) (q + 1) ((memL (k + 1) set).flatMap encI)] w := hO.cast (by rw [memL_yes hc2, List.flatMap_append]; rfl)
      exact ⟨_, by omega, k + 1, p4, (q + 1), c5, rfl, by omega, by rw [memL_yes hc2, List.length_append, hq]; rfl, hF, hO⟩
    · refine (W_false ((evOp hF (by kernel_rfl)).trans (congrArg Value.bool hc2)) ?_)
      refine (W_skip ?_)
      refine (region_q {} TBok hF (F' := [(0, iv set), (1, iv (mb : Int)), (4, .slice none 0 0), (5, .slice p q c), (6, iv ((k : Int) + 1))]) (rs := [.rng ((k : Int) + 1)]) [0, 1, 4, 5, 6] (.cons (rg (by omega)) <| .nil) (by kernel_rfl) fun a w hF hE => ?_)
      replace hO := hO.ext hE; clear hE
      replace hO : Own w0 none_ [rowR 3 1 (.slice p q c) q ((memL (k + 1) set).flatMap encI)] w := hO.cast (by rw [memL_no hc2])
      exact ⟨_, by omega, k + 1, p, q, c, rfl, by omega, by rw [memL_no hc2]; exact hq, hF, hO⟩
  · refine (W_false ((evOp hF (by kernel_rfl)).trans (congrArg Value.bool hc1)) ?_)
    have hc1_ := of_decide_eq_false hc1
    refine (W_exit ?_)
    refine W_seq (region_q {} TBok hF (F' := [(4, .slice p q c)]) (rs := []) [4] .nil (by kernel_rfl) fun a w hF hE => ?_)
    replace hO := hO.ext hE; clear hE
    refine W_ret ?_
    show bodyPostM (FW none) 0 _ _ _ Exit.ret a w
    have hkm : k = mb := by omega
    rw [hkm] at hq hO
    exact leave_r TBok hF (.nil _) (vs := [.slice p q c]) (rs := []) .nil (by kernel_rfl) ⟨p, q, c, hq, rfl, hO⟩

set_option maxHeartbeats 4000000 in
set_option maxRecDepth 100000 in
theorem Rising_calls (xs : List Int) (p : Option Addr) (n c : Nat) (below : Int) (w0 : World) (hx : Rd encI 1 w0.heap.size w0 p n xs) (hb : -1000000 ≤ below ∧ below ≤ 1000000) :
    Calls Try.prog 36 #[.slice p n c, iv below] w0 (fun e w' => e = .returned (.bool (risF below (-1) xs)) ∧ Ext w0 w') := by
  have hl1 := hx.len; have hs1 := hx.size
  refine calls_of_W Try.func36 rfl (by kernel_rfl) (args := [.slice p n c, iv below]) fun a hF => ?_
  replace hF : Fr 36 [] [(0, .slice p n c), (1, iv below)] a := hF
  have hO : Own w0 none_ [] w0 := Own.start w0 _
  refine W_seq (region_q {} TBok hF (F' := [(0, .slice p n c), (1, iv below), (4, .bool false)]) (rs := []) [0, 1, 4] .nil (by kernel_rfl) fun a w hF hE => ?_)
  replace hO := hO.ext hE; clear hE
  refine W_seq ?_
  refine W_seq (region_q {} TBok hF (F' := [(0, .slice p n c), (1, iv below), (4, .bool false), (5, iv 0)]) (rs := []) [0, 1, 4, 5] .nil (by kernel_rfl) fun a w hF hE => ?_)
  replace hO := hO.ext hE; clear hE
  refine (W_block ?_)
  replace hF := hF.sel [0, 1, 5]
  refine (W_loop (fun m a w => ∃ (k : Nat), ∃ (last : Int), m = n - k ∧ k ≤ n ∧ -1 ≤ last ∧ ((k = 0 ∧ last = -1) ∨ (0 < k ∧ last = xs.getD ((k : Int) - 1).toNat default)) ∧ risF below last (xs.drop k) = risF below (-1) xs ∧ Fr 36 [] [(0, .slice p n c), (1, iv below), (5, iv (k : Int))] a ∧ Own w0 none_ [] w) _ ⟨0, (-1), rfl, Nat.zero_le _, by omega, .inl ⟨rfl, rfl⟩, rfl, hF, hO⟩ ?_)
  clear hF hO
  rintro _ a w ⟨k, last, rfl, hk, hl0, hlast, hris, hF, hO⟩
  refine W_seq ?_
  refine W_seq (region_q {} TBok hF (F' := [(0, .slice p n c), (1, iv below), (5, iv (k : Int)), (9, .bool (decide ((k : Int) < (n : Int))))]) (rs := []) [0, 1, 5, 9] .nil (by kernel_rfl) fun a w hF hE => ?_)
  replace hO := hO.ext hE; clear hE
  rcases Bool.eq_false_or_eq_true (decide ((k : Int) < (n : Int))) with hc1 | hc1
  · refine (W_true ((evOp hF (by kernel_rfl)).trans (congrArg Value.bool hc1)) ?_)
    have hc1_ := of_decide_eq_true hc1
    refine (W_skip ?_)
    refine W_seq (W_block ?_)
    refine W_seq (region_d { sy := [8, 11] } mixed TBok hF (F' := [(0, .slice p n c), (1, iv below), (5, iv (k : Int)), (35, .bool (cond (!(inB (xs.getD k default) 0 (below - 1))) true (cond (decide ((k : Int) > 0)) (decide ((xs.getD k default) ≤ (xs.getD ((k : Int) - 1).toNat default))) false)))]) (rs := [.idx p n (k : Int) 1 (adr p 1 (k : Int)), .ld (adr p 1 (k : Int)) (iv (xs.getD k default)), .rng (below - 1), .call 40 #[iv (xs.getD k default), iv 0, iv (below - 1)] (.bool (inB (xs.getD k default) 0 (below - 1))), .und ((!(!(inB (xs.getD k default) 0 (below - 1)))) && (decide ((k : Int) > 0))) (.idx p n (k : Int) 1 (adr p 1 (k : Int))), .und ((!(!(inB (xs.getD k default) 0 (below - 1)))) && (decide ((k : Int) > 0))) (.ld (adr p 1 (k : Int)) (iv (xs.getD k default))), .und ((!(!(inB (xs.getD k default) 0 (below - 1)))) && (decide ((k : Int) > 0))) (.rng ((k : Int) - 1)), .und ((!(!(inB (xs.getD k default) 0 (below - 1)))) && (decide ((k : Int) > 0))) (.idx p n ((k : Int) - 1) 1 (adr p 1 ((k : Int) - 1))), .und ((!(!(inB (xs.getD k default) 0 (below - 1)))) && (decide ((k : Int) > 0))) (.ld (adr p 1 ((k : Int) - 1)) (iv (xs.getD ((k : Int) - 1).toNat default)))]) [0, 1, 5, 35] (.cons (ix hx (by omega) (by omega)) <| .cons (ldx hO.st nom hx (by omega) (by omega) 0 rfl) <| .cons (rg (by omega)) <| .cons (fun w _ => In_calls _ _ _ w) <| .cons (fun hg => (ix hx (by omega) (by omega))) <| .cons (fun hg => (ldx hO.st nom hx (by omega) (by omega) 0 rfl)) <| .cons (fun hg => have hg0 := of_decide_eq_true (p := (k : Int) > 0) (by cases hx_ : decide ((k : Int) > 0) <;> simp_all); (rg (by omega))) <| .cons (fun hg => have hg0 := of_decide_eq_true (p := (k : Int) > 0) (by cases hx_ : decide ((k : Int) > 0) <;> simp_all); (ix hx (by omega) (by omega))) <| .cons (fun hg => have hg0 := of_decide_eq_true (p := (k : Int) > 0) (by cases hx_ : decide ((k : Int) > 0) <;> simp_all); (ldx hO.st nom hx (by omega) (by omega) 0 rfl)) <| .nil) (by kernel_rfl) (by kernel_rfl) fun a w hF hE => ?_)
    replace hO := hO.ext hE; clear hE
    rcases Bool.eq_false_or_eq_true (cond (!(inB (xs.getD k default) 0 (below - 1))) true (cond (decide ((k : Int) > 0)) (decide ((xs.getD k default) ≤ (xs.getD ((k : Int) - 1).toNat default))) false)) with hc2 | hc2
    · refine (W_true ((evOp hF (by kernel_rfl)).trans (congrArg Value.bool hc2)) ?_)
      have hrc := (risC hl0 hlast).symm.trans (by assumption : (cond (!(inB (xs.getD k default) 0 (below - 1))) true (cond (decide ((k : Int) > 0)) (decide ((xs.getD k default) ≤ (xs.getD ((k : Int) - 1).toNat default))) false)) = true)
      refine W_seq (region_q {} TBok hF (F' := [(0, .slice p n c), (1, iv below), (4, .bool false), (5, iv (k : Int))]) (rs := []) [0, 1, 4, 5] .nil (by kernel_rfl) fun a w hF hE => ?_)
      replace hO := hO.ext hE; clear hE
      refine W_ret ?_
      show bodyPostM (FW none) 0 _ _ _ Exit.ret a w
      have hbad := risF_bad (ln := below) (last := last) (by omega : k < xs.length) (by simpa using hrc)
      exact leave_r TBok hF (.nil _) (vs := [.bool false]) (rs := []) .nil (by kernel_rfl) ⟨by rw [← hris, hbad]; rfl, hO.kp⟩
    · refine (W_false ((evOp hF (by kernel_rfl)).trans (congrArg Value.bool hc2)) ?_)
      have hrc := (risC hl0 hlast).symm.trans (by assumption : (cond (!(inB (xs.getD k default) 0 (below - 1))) true (cond (decide ((k : Int) > 0)) (decide ((xs.getD k default) ≤ (xs.getD ((k : Int) - 1).toNat default))) false)) = false)
      refine (W_skip ?_)
      refine (region_q {} TBok hF (F' := [(0, .slice p n c), (1, iv below), (5, iv ((k : Int) + 1))]) (rs := [.rng ((k : Int) + 1)]) [0, 1, 5] (.cons (rg (by omega)) <| .nil) (by kernel_rfl) fun a w hF hE => ?_)
      replace hO := hO.ext hE; clear hE
      have hib : inB (xs.getD k default) (last + 1) (below - 1) = true := by simpa using hrc
      have hi2 := inB_iff.1 hib
      have hstep := risF_step (ln := below) (last := last) (by omega : k < xs.length) hib
      exact ⟨_, by omega, k + 1, _, rfl, by omega, by omega, .inr ⟨by omega, by congr 1; omega⟩, hstep.symm.trans hris, hF, hO⟩
  · refine (W_false ((evOp hF (by kernel_rfl)).trans (congrArg Value.bool hc1)) ?_)
    have hc1_ := of_decide_eq_false hc1
    refine (W_exit ?_)
    refine W_seq (region_q {} TBok hF (F' := [(4, .bool true)]) (rs := []) [4] .nil (by kernel_rfl) fun a w hF hE => ?_)
    replace hO := hO.ext hE; clear hE
    refine W_ret ?_
    show bodyPostM (FW none) 0 _ _ _ Exit.ret a w
    rw [List.drop_of_length_le (by omega)] at hris
    exact leave_r TBok hF (.nil _) (vs := [.bool true]) (rs := []) .nil (by kernel_rfl) ⟨by rw [← hris]; rfl, hO.kp⟩

set_option maxHeartbeats 4000000 in
set_option maxRecDepth 100000 in
theorem Before_calls (xs ys : List Int) (p p2 : Option Addr) (n n2 c c2 : Nat) (w0 : World) (hx : Rd encI 1 w0.heap.size w0 p n xs) (hy : Rd encI 1 w0.heap.size w0 p2 n2 ys) :
    Calls Try.prog 37 #[.slice p n c, .slice p2 n2 c2] w0 (fun e w' => e = .returned (.bool (befL xs ys)) ∧ Ext w0 w') := by
  have hl1 := hx.len; have hl2 := hy.len; have hs1 := hx.size; have hs2 := hy.size
  refine calls_of_W Try.func37 rfl (by kernel_rfl) (args := [.slice p n c, .slice p2 n2 c2]) fun a hF => ?_
  replace hF : Fr 41 [] [(0, .slice p n c), (1, .slice p2 n2 c2)] a := hF
  have hO : Own w0 none_ [] w0 := Own.start w0 _
  refine W_seq (region_q {} TBok hF (F' := [(0, .slice p n c), (1, .slice p2 n2 c2), (4, .bool false)]) (rs := []) [0, 1, 4] .nil (by kernel_rfl) fun a w hF hE => ?_)
  replace hO := hO.ext hE; clear hE
  refine W_seq ?_
  refine W_seq (region_q {} TBok hF (F' := [(0, .slice p n c), (1, .slice p2 n2 c2), (4, .bool false), (5, iv 0)]) (rs := []) [0, 1, 4, 5] .nil (by kernel_rfl) fun a w hF hE => ?_)
  replace hO := hO.ext hE; clear hE
  refine (W_block ?_)
  replace hF := hF.sel [0, 1, 5]
  refine (W_loop (fun m a w => ∃ (k : Nat), m = n - k ∧ (k ≤ n ∧ k ≤ n2) ∧ befL (xs.drop k) (ys.drop k) = befL xs ys ∧ Fr 41 [] [(0, .slice p n c), (1, .slice p2 n2 c2), (5, iv (k : Int))] a ∧ Own w0 none_ [] w) _ ⟨0, rfl, ⟨Nat.zero_le _, Nat.zero_le _⟩, rfl, hF, hO⟩ ?_)
  clear hF hO
  rintro _ a w ⟨k, rfl, hk, hbf, hF, hO⟩
  refine W_seq ?_
  refine W_seq (region_q { sy := [4] } TBok hF (F' := [(0, .slice p n c), (1, .slice p2 n2 c2), (5, iv (k : Int)), (15, .bool (cond (decide ((k : Int) < (n : Int))) (decide ((k : Int) < (n2 : Int))) false))]) (rs := []) [0, 1, 5, 15] .nil (by kernel_rfl) fun a w hF hE => ?_)
  replace hO := hO.ext hE; clear hE
  rcases Bool.eq_false_or_eq_true (cond (decide ((k : Int) < (n : Int))) (decide ((k : Int) < (n2 : Int))) false) with hc1 | hc1
  · refine (W_true ((evOp hF (by kernel_rfl)).trans (congrArg Value.bool hc1)) ?_)
    have hbc : k < n ∧ k < n2 := by have hx_ := (by assumption : (cond (decide ((k : Int) < (n : Int))) (decide ((k : Int) < (n2 : Int))) false) = true); by_cases h1 : (k : Int) < n <;> by_cases h2 : (k : Int) < n2 <;> simp_all
    refine (W_skip ?_)
    refine W_seq (W_block ?_)
    refine W_seq (region_d {} mixed TBok hF (F' := [(0, .slice p n c), (1, .slice p2 n2 c2), (5, iv (k : Int)), (26, .bool ((xs.getD k default) != (ys.getD k default)))]) (rs := [.idx p n (k : Int) 1 (adr p 1 (k : Int)), .ld (adr p 1 (k : Int)) (iv (xs.getD k default)), .idx p2 n2 (k : Int) 1 (adr p2 1 (k : Int)), .ld (adr p2 1 (k : Int)) (iv (ys.getD k default))]) [0, 1, 5, 26] (.cons (ix hx (by omega) (by omega)) <| .cons (ldx hO.st nom hx (by omega) (by omega) 0 rfl) <| .cons (ix hy (by omega) (by omega)) <| .cons (ldx hO.st nom hy (by omega) (by omega) 0 rfl) <| .nil) (by kernel_rfl) (by kernel_rfl) fun a w hF hE => ?_)
    replace hO := hO.ext hE; clear hE
    rcases Bool.eq_false_or_eq_true ((xs.getD k default) != (ys.getD k default)) with hc2 | hc2
    · refine (W_true ((evOp hF (by kernel_rfl)).trans (congrArg Value.bool hc2)) ?_)
      refine W_seq (region_d {} mixed TBok hF (F' := [(0, .slice p n c), (1, .slice p2 n2 c2), (4, .bool (decide ((xs.getD k default) < (ys.getD k default)))), (5, iv (k : Int))]) (rs := [.idx p n (k : Int) 1 (adr p 1 (k : Int)), .ld (adr p 1 (k : Int)) (iv (xs.getD k default)), .idx p2 n2 (k : Int) 1 (adr p2 1 (k : Int)), .ld (adr p2 1 (k : Int)) (iv (ys.getD k default))]) [0, 1, 4, 5] (.cons (ix hx (by omega) (by omega)) <| .cons (ldx hO.st nom hx (by omega) (by omega) 0 rfl) <| .cons (ix hy (by omega) (by omega)) <| .cons (ldx hO.st nom hy (by omega) (by omega) 0 rfl) <| .nil) (by kernel_rfl) (by kernel_rfl) fun a w hF hE => ?_)
      replace hO := hO.ext hE; clear hE
      refine W_ret ?_
      show bodyPostM (FW none) 0 _ _ _ Exit.ret a w
      have hd_ := befL_diff (xs := xs) (ys := ys) (k := k) (by omega) (by omega) hc2
      exact leave_r TBok hF (.nil _) (vs := [.bool (decide ((xs.getD k default) < (ys.getD k default)))]) (rs := []) .nil (by kernel_rfl) ⟨by rw [← hbf, hd_]; rfl, hO.kp⟩
    · refine (W_false ((evOp hF (by kernel_rfl)).trans (congrArg Value.bool hc2)) ?_)
      refine (W_skip ?_)
      refine (region_q {} TBok hF (F' := [(0, .slice p n c), (1, .slice p2 n2 c2), (5, iv ((k : Int) + 1))]) (rs := [.rng ((k : Int) + 1)]) [0, 1, 5] (.cons (rg (by omega)) <| .nil) (by kernel_rfl) fun a w hF hE => ?_)
      replace hO := hO.ext hE; clear hE
      have hd_ := befL_drop (xs := xs) (ys := ys) (k := k) (by omega) (by omega) (by assumption)
      exact ⟨_, by omega, k + 1, rfl, by omega, hd_.trans hbf, hF, hO⟩
  · refine (W_false ((evOp hF (by kernel_rfl)).trans (congrArg Value.bool hc1)) ?_)
    have hbc : ¬ (k < n ∧ k < n2) := by have hx_ := (by assumption : (cond (decide ((k : Int) < (n : Int))) (decide ((k : Int) < (n2 : Int))) false) = false); by_cases h1 : (k : Int) < n <;> by_cases h2 : (k : Int) < n2 <;> simp_all
    refine (W_exit ?_)
    refine W_seq (region_q {} TBok hF (F' := [(4, .bool (decide ((n : Int) < (n2 : Int))))]) (rs := []) [4] .nil (by kernel_rfl) fun a w hF hE => ?_)
    replace hO := hO.ext hE; clear hE
    refine W_ret ?_
    show bodyPostM (FW none) 0 _ _ _ Exit.ret a w
    have hd_ := befL_end (xs := xs) (ys := ys) (k := k) (by omega) (by omega)
    exact leave_r TBok hF (.nil _) (vs := [.bool (decide ((n : Int) < (n2 : Int)))]) (rs := []) .nil (by kernel_rfl) ⟨by rw [← hbf, hd_, hl1, hl2]; rfl, hO.kp⟩

set_option maxHeartbeats 4000000 in
set_option maxRecDepth 100000 in
theorem Mod_calls (n b_ : Int) (w0 : World) (hb0 : 0 < b_) (hb1 : b_ ≤ 9223372036854775807) :
    Calls Try.prog 38 #[iv n, iv b_] w0 (fun e w' => e = .returned (iv (n % b_)) ∧ Ext w0 w') := by
  refine calls_of_W Try.func38 rfl (by kernel_rfl) (args := [iv n, iv b_]) fun a hF => ?_
  replace hF : Fr 15 [] [(0, iv n), (1, iv b_)] a := hF
  have hO : Own w0 none_ [] w0 := Own.start w0 _
  refine W_seq (region_q {} TBok hF (F' := [(0, iv n), (1, iv b_), (4, iv 0)]) (rs := []) [0, 1, 4] .nil (by kernel_rfl) fun a w hF hE => ?_)
  replace hO := hO.ext hE; clear hE
  refine W_seq (region_q { md := [(2, 3)] } TBok hF (F' := [(1, iv b_), (4, iv 0), (5, iv (Int.tmod n b_))]) (rs := [.raw (rb .rem 3 (.tmp 6) (.tmp 7) (iv n) (iv b_)) (iv (Int.tmod n b_))]) [1, 4, 5] (.cons (raw_tmod hb0) <| .nil) (by kernel_rfl) fun a w hF hE => ?_)
  replace hO := hO.ext hE; clear hE
  refine W_seq ?_
  refine W_seq (region_q {} TBok hF (F' := [(1, iv b_), (4, iv 0), (5, iv (Int.tmod n b_)), (10, .bool (decide ((Int.tmod n b_) < 0)))]) (rs := []) [1, 4, 5, 10] .nil (by kernel_rfl) fun a w hF hE => ?_)
  replace hO := hO.ext hE; clear hE
  rcases Bool.eq_false_or_eq_true (decide ((Int.tmod n b_) < 0)) with hc1 | hc1
  · refine (W_true ((evOp hF (by kernel_rfl)).trans (congrArg Value.bool hc1)) ?_)
    have htb := tmod_bd (n := n) hb0
    have hng := of_decide_eq_true (by assumption : (decide ((Int.tmod n b_) < 0)) = true)
    refine (region_q {} TBok hF (F' := [(4, iv 0), (5, iv ((Int.tmod n b_) + b_))]) (rs := [.rng ((Int.tmod n b_) + b_)]) [4, 5] (.cons (rg (by omega)) <| .nil) (by kernel_rfl) fun a w hF hE => ?_)
    replace hO := hO.ext hE; clear hE
    refine W_seq (region_q {} TBok hF (F' := [(4, iv ((Int.tmod n b_) + b_))]) (rs := []) [4] .nil (by kernel_rfl) fun a w hF hE => ?_)
    replace hO := hO.ext hE; clear hE
    refine W_ret ?_
    show bodyPostM (FW none) 0 _ _ _ Exit.ret a w
    exact leave_r TBok hF (.nil _) (vs := [iv ((Int.tmod n b_) + b_)]) (rs := []) .nil (by kernel_rfl) ⟨by rw [tmod_neg hb0 (of_decide_eq_true hc1)]; rfl, hO.kp⟩
  · refine (W_false ((evOp hF (by kernel_rfl)).trans (congrArg Value.bool hc1)) ?_)
    have htb := tmod_bd (n := n) hb0
    refine (W_skip ?_)
    refine W_seq (region_q {} TBok hF (F' := [(4, iv (Int.tmod n b_))]) (rs := []) [4] .nil (by kernel_rfl) fun a w hF hE => ?_)
    replace hO := hO.ext hE; clear hE
    refine W_ret ?_
    show bodyPostM (FW none) 0 _ _ _ Exit.ret a w
    exact leave_r TBok hF (.nil _) (vs := [iv (Int.tmod n b_)]) (rs := []) .nil (by kernel_rfl) ⟨by rw [tmod_nn hb0 (of_decide_eq_false hc1)]; rfl, hO.kp⟩

set_option maxHeartbeats 4000000 in
set_option maxRecDepth 100000 in
theorem Pick_calls (xs : List Int) (p : Option Addr) (n c : Nat) (h : Int) (w0 : World) (hx : Rd encI 1 w0.heap.size w0 p n xs) :
    Calls Try.prog 75 #[.slice p n c, iv h] w0 (fun e w' => e = .returned (iv (pickI xs h)) ∧ Ext w0 w') := by
  have hl1 := hx.len; have hs1 := hx.size
  refine calls_of_W Try.func75 rfl (by kernel_rfl) (args := [.slice p n c, iv h]) fun a hF => ?_
  replace hF : Fr 15 [] [(0, .slice p n c), (1, iv h)] a := hF
  have hO : Own w0 none_ [] w0 := Own.start w0 _
  refine W_seq (region_q {} TBok hF (F' := [(0, .slice p n c), (1, iv h), (4, iv 0)]) (rs := []) [0, 1, 4] .nil (by kernel_rfl) fun a w hF hE => ?_)
  replace hO := hO.ext hE; clear hE
  refine W_seq ?_
  refine W_seq (region_q {} TBok hF (F' := [(0, .slice p n c), (1, iv h), (4, iv 0), (7, .bool ((n : Int) == 0))]) (rs := []) [0, 1, 4, 7] .nil (by kernel_rfl) fun a w hF hE => ?_)
  replace hO := hO.ext hE; clear hE
  rcases Bool.eq_false_or_eq_true ((n : Int) == 0) with hc1 | hc1
  · refine (W_true ((evOp hF (by kernel_rfl)).trans (congrArg Value.bool hc1)) ?_)
    have hn0 := (by assumption : ((n : Int) == 0) = true)
    refine W_seq (region_q {} TBok hF (F' := [(0, .slice p n c), (1, iv h), (4, iv 0)]) (rs := []) [0, 1, 4] .nil (by kernel_rfl) fun a w hF hE => ?_)
    replace hO := hO.ext hE; clear hE
    refine W_ret ?_
    show bodyPostM (FW none) 0 _ _ _ Exit.ret a w
    exact leave_r TBok hF (.nil _) (vs := [iv 0]) (rs := []) .nil (by kernel_rfl) ⟨by rw [pickI, hl1, hn0]; rfl, hO.kp⟩
  · refine (W_false ((evOp hF (by kernel_rfl)).trans (congrArg Value.bool hc1)) ?_)
    have hn0 := (by assumption : ((n : Int) == 0) = false)
    have hn1 : (n : Int) ≠ 0 := by simpa using hn0
    have he1 := Int.emod_nonneg h hn1; have he2 := Int.emod_lt_of_pos h (show (0 : Int) < n by omega)
    refine (W_skip ?_)
    refine W_seq (region_q {} TBok hF (F' := [(4, iv (xs.getD (h % (n : Int)).toNat default))]) (rs := [.call 38 #[iv h, iv (n : Int)] (iv (h % (n : Int))), .idx p n (h % (n : Int)) 1 (adr p 1 (h % (n : Int))), .ld (adr p 1 (h % (n : Int))) (iv (xs.getD (h % (n : Int)).toNat default))]) [4] (.cons (fun w hE => Mod_calls h (n : Int) w (by omega) (by omega)) <| .cons (ix hx (by omega) (by omega)) <| .cons (ldx hO.st nom hx (by omega) (by omega) 0 rfl) <| .nil) (by kernel_rfl) fun a w hF hE => ?_)
    replace hO := hO.ext hE; clear hE
    refine W_ret ?_
    show bodyPostM (FW none) 0 _ _ _ Exit.ret a w
    exact leave_r TBok hF (.nil _) (vs := [iv (xs.getD (h % (n : Int)).toNat default)]) (rs := []) .nil (by kernel_rfl) ⟨by rw [pickI, hl1, hn0]; rfl, hO.kp⟩

set_option maxHeartbeats 4000000 in
set_option maxRecDepth 100000 in
theorem subset_calls (xs ys : List Int) (p p2 : Option Addr) (n n2 c c2 : Nat) (w0 : World) (hx : Rd encI 1 w0.heap.size w0 p n xs) (hy : Rd encI 1 w0.heap.size w0 p2 n2 ys) :
    Calls Try.prog 39 #[.slice p n c, .slice p2 n2 c2] w0 (fun e w' => e = .returned (.bool (xs.all fun x => decide (x ∈ ys))) ∧ Ext w0 w') := by
  have hl1 := hx.len; have hl2 := hy.len; have hs1 := hx.size; have hs2 := hy.size
  refine calls_of_W Try.func39 rfl (by kernel_rfl) (args := [.slice p n c, .slice p2 n2 c2]) fun a hF => ?_
  replace hF : Fr 19 [] [(0, .slice p n c), (1, .slice p2 n2 c2)] a := hF
  have hO : Own w0 none_ [] w0 := Own.start w0 _
  refine W_seq (region_q {} TBok hF (F' := [(0, .slice p n c), (1, .slice p2 n2 c2), (4, .bool false)]) (rs := []) [0, 1, 4] .nil (by kernel_rfl) fun a w hF hE => ?_)
  replace hO := hO.ext hE; clear hE
  refine W_seq ?_
  refine W_seq (region_q {} TBok hF (F' := [(0, .slice p n c), (1, .slice p2 n2 c2), (4, .bool false), (5, iv 0)]) (rs := []) [0, 1, 4, 5] .nil (by kernel_rfl) fun a w hF hE => ?_)
  replace hO := hO.ext hE; clear hE
  refine (W_block ?_)
  replace hF := hF.sel [0, 1, 5]
  refine (W_loop (fun m a w => ∃ (k : Nat), m = n - k ∧ k ≤ n ∧ ((xs.take k).all fun x => decide (x ∈ ys)) = true ∧ Fr 19 [] [(0, .slice p n c), (1, .slice p2 n2 c2), (5, iv (k : Int))] a ∧ Own w0 none_ [] w) _ ⟨0, rfl, Nat.zero_le _, rfl, hF, hO⟩ ?_)
  clear hF hO
  rintro _ a w ⟨k, rfl, hk, hal, hF, hO⟩
  refine W_seq ?_
  refine W_seq (region_q {} TBok hF (F' := [(0, .slice p n c), (1, .slice p2 n2 c2), (5, iv (k : Int)), (9, .bool (decide ((k : Int) < (n : Int))))]) (rs := []) [0, 1, 5, 9] .nil (by kernel_rfl) fun a w hF hE => ?_)
  replace hO := hO.ext hE; clear hE
  rcases Bool.eq_false_or_eq_true (decide ((k : Int) < (n : Int))) with hc1 | hc1
  · refine (W_true ((evOp hF (by kernel_rfl)).trans (congrArg Value.bool hc1)) ?_)
    have hc1_ := of_decide_eq_true hc1
    refine (W_skip ?_)
    refine W_seq (W_block ?_)
    refine W_seq (region_q {} TBok hF (F' := [(0, .slice p n c), (1, .slice p2 n2 c2), (5, iv (k : Int)), (18, .bool (decide ((placeI ys (xs.getD k default)) < 0)))]) (rs := [.idx p n (k : Int) 1 (adr p 1 (k : Int)), .ld (adr p 1 (k : Int)) (iv (xs.getD k default)), .call 35 #[.slice p2 n2 c2, iv (xs.getD k default)] (iv (placeI ys (xs.getD k default)))]) [0, 1, 5, 18] (.cons (ix hx (by omega) (by omega)) <| .cons (ldx hO.st nom hx (by omega) (by omega) 0 rfl) <| .cons (fun w hE => Place_calls ys p2 n2 c2 (xs.getD k default) w (hy.upM (hO.st w hE).kp nom (Nat.le_refl _))) <| .nil) (by kernel_rfl) fun a w hF hE => ?_)
    replace hO := hO.ext hE; clear hE
    rcases Bool.eq_false_or_eq_true (decide ((placeI ys (xs.getD k default)) < 0)) with hc2 | hc2
    · refine (W_true ((evOp hF (by kernel_rfl)).trans (congrArg Value.bool hc2)) ?_)
      have hc2_ := of_decide_eq_true hc2
      refine W_seq (region_q {} TBok hF (F' := [(0, .slice p n c), (1, .slice p2 n2 c2), (4, .bool false), (5, iv (k : Int))]) (rs := []) [0, 1, 4, 5] .nil (by kernel_rfl) fun a w hF hE => ?_)
      replace hO := hO.ext hE; clear hE
      refine W_ret ?_
      show bodyPostM (FW none) 0 _ _ _ Exit.ret a w
      have hm_ : decide ((xs.getD k default) ∈ ys) = false := by have h_ := placeI_neg ys (xs.getD k default); rw [hc2] at h_; simpa using h_
      have hna : (xs.all fun x => decide (x ∈ ys)) = false := List.all_eq_false.2 ⟨_, getD_mem (show k < xs.length by omega), by rw [hm_]; simp⟩
      exact leave_r TBok hF (.nil _) (vs := [.bool false]) (rs := []) .nil (by kernel_rfl) ⟨by rw [hna]; rfl, hO.kp⟩
    · refine (W_false ((evOp hF (by kernel_rfl)).trans (congrArg Value.bool hc2)) ?_)
      have hc2_ := of_decide_eq_false hc2
      refine (W_skip ?_)
      refine (region_q {} TBok hF (F' := [(0, .slice p n c), (1, .slice p2 n2 c2), (5, iv ((k : Int) + 1))]) (rs := [.rng ((k : Int) + 1)]) [0, 1, 5] (.cons (rg (by omega)) <| .nil) (by kernel_rfl) fun a w hF hE => ?_)
      replace hO := hO.ext hE; clear hE
      have hm_ : decide ((xs.getD k default) ∈ ys) = true := by have h_ := placeI_neg ys (xs.getD k default); rw [hc2] at h_; simpa using h_
      exact ⟨_, by omega, k + 1, rfl, by omega, by rw [take_all _ (by omega), hal, hm_]; rfl, hF, hO⟩
  · refine (W_false ((evOp hF (by kernel_rfl)).trans (congrArg Value.bool hc1)) ?_)
    have hc1_ := of_decide_eq_false hc1
    refine (W_exit ?_)
    refine W_seq (region_q {} TBok hF (F' := [(4, .bool true)]) (rs := []) [4] .nil (by kernel_rfl) fun a w hF hE => ?_)
    replace hO := hO.ext hE; clear hE
    refine W_ret ?_
    show bodyPostM (FW none) 0 _ _ _ Exit.ret a w
    rw [List.take_of_length_le (by omega)] at hal
    exact leave_r TBok hF (.nil _) (vs := [.bool true]) (rs := []) .nil (by kernel_rfl) ⟨by rw [hal]; rfl, hO.kp⟩

end Go.Proofs.Ytgihgcclabodbaa.DK
