/- Walks: what the reference reckons. Printed by my gen.py out of gut/s.py. -/
import Derived.Test.YtioimdegbdkppaaGZ
import Derived.Test.YtioimdegbdkppaaH8
import Derived.Test.YtioimdegbdkppaaLA
namespace Go.Proofs.Ytioimdegbdkppaa.DK
open Go Go.Proofs
set_option linter.unusedVariables false

theorem boolT4 : Try.prog.underlying 4 = some .bool := by kernel_rfl
set_option maxHeartbeats 4000000 in
set_option maxRecDepth 100000 in
theorem Bit_calls (set k : Int) (w0 : World) (h0 : 0 ≤ k) :
    Calls Try.prog 37 #[.int .i64 set, .int .i64 k] w0 (fun e w' => e = .returned (.bool (bitB set k)) ∧ Ext w0 w') := by
  refine calls_of_W Try.func37 rfl (by kernel_rfl) (args := [.int .i64 set, .int .i64 k]) fun a hF => ?_
  replace hF : Fr 10 [] [(0, .int .i64 set), (1, .int .i64 k)] a := hF
  have hO : Own w0 none_ [] w0 := Own.start w0 _
  refine W_seq (region_q {} TBok hF (F' := [(0, .int .i64 set), (1, .int .i64 k), (4, .bool false)]) (rs := []) [0, 1, 4] .nil (by kernel_rfl) fun a w hF hE => ?_)
  replace hO := hO.ext hE; clear hE
  refine W_seq (region_q { md := [(2, 3), (3, 3)] } TBok hF (F' := [(4, .bool ((bits .and .i64 (Int.fdiv set (2 ^ (min k.toNat 64))) 1) == 1))]) (rs := [.raw (do eqGuard .shr 3 (.tmp 5) (.tmp 6) (.int .i64 set) (.int .i64 k); Go.binOp .shr 3 (.int .i64 set) (.int .i64 k)) (.int .i64 (Int.fdiv set (2 ^ (min k.toNat 64)))), .raw (do eqGuard .and 3 (.tmp 7) (.const (.int .i64 1)) (.int .i64 (Int.fdiv set (2 ^ (min k.toNat 64)))) (.int .i64 1); Go.binOp .and 3 (.int .i64 (Int.fdiv set (2 ^ (min k.toNat 64)))) (.int .i64 1)) (.int .i64 (bits .and .i64 (Int.fdiv set (2 ^ (min k.toNat 64))) 1))]) [4] (.cons (raw_shr h0) <| .cons raw_and <| .nil) (by kernel_rfl) fun a w hF hE => ?_)
  replace hO := hO.ext hE; clear hE
  refine W_ret ?_
  show bodyPostM (FW none) 0 _ _ _ Exit.ret a w
  exact leave_r TBok hF (.nil _) (vs := [.bool ((bits .and .i64 (Int.fdiv set (2 ^ (min k.toNat 64))) 1) == 1)]) (rs := []) .nil (by kernel_rfl) ⟨rfl, hO.kp⟩

set_option maxHeartbeats 4000000 in
set_option maxRecDepth 100000 in
theorem Members_calls (set : Int) (mb : Nat) (w0 : World) (hm : mb ≤ 1000) :
    Calls Try.prog 39 #[.int .i64 set, .int .i64 (mb : Int)] w0 (fun e w' => ∃ p q c, (memL mb set).length = q ∧ e = .returned (.slice p q c) ∧ Own w0 none_ [rowR 3 1 (.slice p q c) q ((memL mb set).flatMap encI)] w') := by
  refine calls_of_W Try.func39 rfl (by kernel_rfl) (args := [.int .i64 set, .int .i64 (mb : Int)]) fun a hF => ?_
  replace hF : Fr 20 [] [(0, .int .i64 set), (1, .int .i64 (mb : Int))] a := hF
  have hO : Own w0 none_ [] w0 := Own.start w0 _
  refine W_seq (region_q {} TBok hF (F' := [(0, .int .i64 set), (1, .int .i64 (mb : Int)), (4, .slice none 0 0)]) (rs := []) [0, 1, 4] .nil (by kernel_rfl) fun a w hF hE => ?_)
  replace hO := hO.ext hE; clear hE
  refine W_seq (region_q {} TBok hF (F' := [(0, .int .i64 set), (1, .int .i64 (mb : Int)), (4, .slice none 0 0), (5, .slice none 0 0)]) (rs := []) [0, 1, 4, 5] .nil (by kernel_rfl) fun a w hF hE => ?_)
  replace hO := hO.ext hE; clear hE
  refine W_seq ?_
  refine W_seq (region_q {} TBok hF (F' := [(0, .int .i64 set), (1, .int .i64 (mb : Int)), (4, .slice none 0 0), (5, .slice none 0 0), (6, .int .i64 0)]) (rs := []) [0, 1, 4, 5, 6] .nil (by kernel_rfl) fun a w hF hE => ?_)
  replace hO := hO.ext hE; clear hE
  refine (W_block ?_)
  replace hO := hO.nilRow 3 1
  refine (W_loop (fun m a w => ∃ (k : Nat), ∃ (p : Option Addr), ∃ (q : Nat), ∃ (c : Nat), m = mb - k ∧ k ≤ mb ∧ (memL k set).length = q ∧ Fr 20 [] [(0, .int .i64 set), (1, .int .i64 (mb : Int)), (4, .slice none 0 0), (5, .slice p q c), (6, .int .i64 (k : Int))] a ∧ Own w0 none_ [rowR 3 1 (.slice p q c) q ((memL k set).flatMap encI)] w) _ ⟨0, none, 0, 0, rfl, Nat.zero_le _, rfl, hF, hO⟩ ?_)
  clear hF hO
  rintro _ a w ⟨k, p, q, c, rfl, hk, hq, hF, hO⟩
  have hqk := memL_len k set
  refine W_seq ?_
  refine W_seq (region_q {} TBok hF (F' := [(0, .int .i64 set), (1, .int .i64 (mb : Int)), (4, .slice none 0 0), (5, .slice p q c), (6, .int .i64 (k : Int)), (9, .bool (decide ((k : Int) < (mb : Int))))]) (rs := []) [0, 1, 4, 5, 6, 9] .nil (by kernel_rfl) fun a w hF hE => ?_)
  replace hO := hO.ext hE; clear hE
  rcases Bool.eq_false_or_eq_true (decide ((k : Int) < (mb : Int))) with hc1 | hc1
  · refine (W_true ((evOp hF (by kernel_rfl)).trans (congrArg Value.bool hc1)) ?_)
    have hc1_ := of_decide_eq_true hc1
    refine (W_skip ?_)
    refine W_seq (W_block ?_)
    refine W_seq (region_q {} TBok hF (F' := [(0, .int .i64 set), (1, .int .i64 (mb : Int)), (4, .slice none 0 0), (5, .slice p q c), (6, .int .i64 (k : Int)), (14, .bool (bitB set (k : Int)))]) (rs := [.call 37 #[.int .i64 set, .int .i64 (k : Int)] (.bool (bitB set (k : Int)))]) [0, 1, 4, 5, 6, 14] (.cons (fun w hE => Bit_calls set (k : Int) w (by omega)) <| .nil) (by kernel_rfl) fun a w hF hE => ?_)
    replace hO := hO.ext hE; clear hE
    rcases Bool.eq_false_or_eq_true (bitB set (k : Int)) with hc2 | hc2
    · refine (W_true ((evOp hF (by kernel_rfl)).trans (congrArg Value.bool hc2)) ?_)
      refine (region_seq ?_)
      refine seq_quiet {} TBok hF (F' := [(0, .int .i64 set), (1, .int .i64 (mb : Int)), (4, .slice none 0 0), (5, .slice p q c), (6, .int .i64 (k : Int)), (15, .slice p q c), (16, .int .i64 (k : Int))]) (rs := []) [0, 1] [2, 3, 4] [0, 1, 4, 5, 6, 15, 16] .nil (by kernel_rfl) fun a w hF hE => ?_
      replace hO := hO.ext hE; clear hE
      refine op_bsl (i := 2) (t := 41) (e := 3) (len := 1) (ps := [(0, .int .i64 (k : Int))]) (d := 17) (sz := 1) (cs := #[.int .i64 (k : Int)]) (z := .int .i64 0) hF hO (by kernel_rfl) (by kernel_rfl) (by kernel_rfl) (by kernel_rfl) (by kernel_rfl) fun a w b3 hF hO _ => ?_
      replace hO : Own w0 none_ [rowR 3 1 (.slice p q c) q ((memL k set).flatMap encI), cel b3 #[.int .i64 (k : Int)] 3] w := hO
      refine op_appR (i := 3) (t := 41) (ty := 41) (e := 3) (d := 18) rowT41 hF hO (by kernel_rfl) 0 rfl 1 rfl (by kernel_rfl) (by omega) fun a w p4 c5 hF hO hx => ?_
      clear hx
      replace hO : Own w0 none_ [rowR 3 1 (.slice p4 (q + 1) c5) (q + 1) (((memL k set).flatMap encI) ++ (#[.int .i64 (k : Int)] : Array Value).toList), cel b3 #[.int .i64 (k : Int)] 3] w := hO
      refine seq_quiet {} TBok hF (F' := [(0, .int .i64 set), (1, .int .i64 (mb : Int)), (4, .slice none 0 0), (5, .slice p4 (q + 1) c5), (6, .int .i64 (k : Int))]) (rs := []) [4] [] [0, 1, 4, 5, 6] .nil (by kernel_rfl) fun a w hF hE => ?_
      replace hO := hO.ext hE; clear hE
      refine (region_q {} TBok hF (F' := [(0, .int .i64 set), (1, .int .i64 (mb : Int)), (4, .slice none 0 0), (5, .slice p4 (q + 1) c5), (6, .int .i64 ((k : Int) + 1))]) (rs := [.rng ((k : Int) + 1)]) [0, 1, 4, 5, 6] (.cons (rg (by omega)) <| .nil) (by kernel_rfl) fun a w hF hE => ?_)
      replace hO := hO.ext hE; clear hE
      replace hO := hO.drop1 1
      replace hO : Own w0 none_ [rowR 3 1 (.slice p4 (q + 1) c5) (q + 1) (((memL k set).flatMap encI) ++ (#[.int .i64 (k : Int)] : Array Value).toList)] w := hO
      replace hO : Own w0 none_ [rowR 3 1 (.slice p4 (q + 1) c5) (q + 1) ((memL (k + 1) set).flatMap encI)] w := hO.cast (by rw [memL_yes hc2, List.flatMap_append]; rfl)
      exact ⟨_, by omega, k + 1, p4, (q + 1), c5, rfl, by omega, by rw [memL_yes hc2, List.length_append, hq]; rfl, hF, hO⟩
    · refine (W_false ((evOp hF (by kernel_rfl)).trans (congrArg Value.bool hc2)) ?_)
      refine (W_skip ?_)
      refine (region_q {} TBok hF (F' := [(0, .int .i64 set), (1, .int .i64 (mb : Int)), (4, .slice none 0 0), (5, .slice p q c), (6, .int .i64 ((k : Int) + 1))]) (rs := [.rng ((k : Int) + 1)]) [0, 1, 4, 5, 6] (.cons (rg (by omega)) <| .nil) (by kernel_rfl) fun a w hF hE => ?_)
      replace hO := hO.ext hE; clear hE
      replace hO : Own w0 none_ [rowR 3 1 (.slice p q c) q ((memL (k + 1) set).flatMap encI)] w := hO.cast (by rw [memL_no hc2])
      exact ⟨_, by omega, k + 1, p, q, c, rfl, by omega, by rw [memL_no hc2]; exact hq, hF, hO⟩
  · refine (W_false ((evOp hF (by kernel_rfl)).trans (congrArg Value.bool hc1)) ?_)
    have hc1_ := of_decide_eq_false hc1
    refine (W_exit ?_)
    refine W_seq (region_q {} TBok hF (F' := [(4, .slice p q c)]) (rs := []) [4] .nil (by kernel_rfl) fun a w hF hE => ?_)
    replace hO := hO.ext hE; clear hE
    refine W_ret ?_
    show bodyPostM (FW none) 0 _ _ _ Exit.ret a w
    have hkm : k = mb := by omega
    rw [hkm] at hq hO
    exact leave_r TBok hF (.nil _) (vs := [.slice p q c]) (rs := []) .nil (by kernel_rfl) ⟨p, q, c, hq, rfl, hO⟩

set_option maxHeartbeats 4000000 in
set_option maxRecDepth 100000 in
theorem Rising_calls (xs : List Int) (p : Option Addr) (n c : Nat) (below : Int) (w0 : World) (hx : Rd encI 1 w0.heap.size w0 p n xs) (hb : -1000000 ≤ below ∧ below ≤ 1000000) :
    Calls Try.prog 41 #[.slice p n c, .int .i64 below] w0 (fun e w' => e = .returned (.bool (risF below (-1) xs)) ∧ Ext w0 w') := by
  have hl1 := hx.len; have hs1 := hx.size
  refine calls_of_W Try.func41 rfl (by kernel_rfl) (args := [.slice p n c, .int .i64 below]) fun a hF => ?_
  replace hF : Fr 36 [] [(0, .slice p n c), (1, .int .i64 below)] a := hF
  have hO : Own w0 none_ [] w0 := Own.start w0 _
  refine W_seq (region_q {} TBok hF (F' := [(0, .slice p n c), (1, .int .i64 below), (4, .bool false)]) (rs := []) [0, 1, 4] .nil (by kernel_rfl) fun a w hF hE => ?_)
  replace hO := hO.ext hE; clear hE
  refine W_seq ?_
  refine W_seq (region_q {} TBok hF (F' := [(0, .slice p n c), (1, .int .i64 below), (4, .bool false), (5, .int .i64 0)]) (rs := []) [0, 1, 4, 5] .nil (by kernel_rfl) fun a w hF hE => ?_)
  replace hO := hO.ext hE; clear hE
  refine (W_block ?_)
  replace hF := hF.sel [0, 1, 5]
  refine (W_loop (fun m a w => ∃ (k : Nat), ∃ (last : Int), m = n - k ∧ k ≤ n ∧ -1 ≤ last ∧ ((k = 0 ∧ last = -1) ∨ (0 < k ∧ last = xs.getD ((k : Int) - 1).toNat default)) ∧ risF below last (xs.drop k) = risF below (-1) xs ∧ Fr 36 [] [(0, .slice p n c), (1, .int .i64 below), (5, .int .i64 (k : Int))] a ∧ Own w0 none_ [] w) _ ⟨0, (-1), rfl, Nat.zero_le _, by omega, .inl ⟨rfl, rfl⟩, rfl, hF, hO⟩ ?_)
  clear hF hO
  rintro _ a w ⟨k, last, rfl, hk, hl0, hlast, hris, hF, hO⟩
  refine W_seq ?_
  refine W_seq (region_q {} TBok hF (F' := [(0, .slice p n c), (1, .int .i64 below), (5, .int .i64 (k : Int)), (9, .bool (decide ((k : Int) < (n : Int))))]) (rs := []) [0, 1, 5, 9] .nil (by kernel_rfl) fun a w hF hE => ?_)
  replace hO := hO.ext hE; clear hE
  rcases Bool.eq_false_or_eq_true (decide ((k : Int) < (n : Int))) with hc1 | hc1
  · refine (W_true ((evOp hF (by kernel_rfl)).trans (congrArg Value.bool hc1)) ?_)
    have hc1_ := of_decide_eq_true hc1
    refine (W_skip ?_)
    refine W_seq (W_block ?_)
    refine W_seq (region_d { sy := [8, 11] } mixed TBok hF (F' := [(0, .slice p n c), (1, .int .i64 below), (5, .int .i64 (k : Int)), (35, .bool (cond (!(inB (xs.getD k default) 0 (below - 1))) true (cond (decide ((k : Int) > 0)) (decide ((xs.getD k default) ≤ (xs.getD ((k : Int) - 1).toNat default))) false)))]) (rs := [.idx p n (k : Int) 1 (adr p 1 (k : Int)), .ld (adr p 1 (k : Int)) (.int .i64 (xs.getD k default)), .rng (below - 1), .call 36 #[.int .i64 (xs.getD k default), .int .i64 0, .int .i64 (below - 1)] (.bool (inB (xs.getD k default) 0 (below - 1))), .und ((!(!(inB (xs.getD k default) 0 (below - 1)))) && (decide ((k : Int) > 0))) (.idx p n (k : Int) 1 (adr p 1 (k : Int))), .und ((!(!(inB (xs.getD k default) 0 (below - 1)))) && (decide ((k : Int) > 0))) (.ld (adr p 1 (k : Int)) (.int .i64 (xs.getD k default))), .und ((!(!(inB (xs.getD k default) 0 (below - 1)))) && (decide ((k : Int) > 0))) (.rng ((k : Int) - 1)), .und ((!(!(inB (xs.getD k default) 0 (below - 1)))) && (decide ((k : Int) > 0))) (.idx p n ((k : Int) - 1) 1 (adr p 1 ((k : Int) - 1))), .und ((!(!(inB (xs.getD k default) 0 (below - 1)))) && (decide ((k : Int) > 0))) (.ld (adr p 1 ((k : Int) - 1)) (.int .i64 (xs.getD ((k : Int) - 1).toNat default)))]) [0, 1, 5, 35] (.cons (ix hx (by omega) (by omega)) <| .cons (ldx hO.st nom hx (by omega) (by omega) 0 rfl) <| .cons (rg (by omega)) <| .cons (fun w _ => In_calls _ _ _ w) <| .cons (fun hg => (ix hx (by omega) (by omega))) <| .cons (fun hg => (ldx hO.st nom hx (by omega) (by omega) 0 rfl)) <| .cons (fun hg => have hg0 := of_decide_eq_true (p := (k : Int) > 0) (by cases hx_ : decide ((k : Int) > 0) <;> simp_all); (rg (by omega))) <| .cons (fun hg => have hg0 := of_decide_eq_true (p := (k : Int) > 0) (by cases hx_ : decide ((k : Int) > 0) <;> simp_all); (ix hx (by omega) (by omega))) <| .cons (fun hg => have hg0 := of_decide_eq_true (p := (k : Int) > 0) (by cases hx_ : decide ((k : Int) > 0) <;> simp_all); (ldx hO.st nom hx (by omega) (by omega) 0 rfl)) <| .nil) (by kernel_rfl) (by kernel_rfl) fun a w hF hE => ?_)
    replace hO := hO.ext hE; clear hE
    rcases Bool.eq_false_or_eq_true (cond (!(inB (xs.getD k default) 0 (below - 1))) true (cond (decide ((k : Int) > 0)) (decide ((xs.getD k default) ≤ (xs.getD ((k : Int) - 1).toNat default))) false)) with hc2 | hc2
    · refine (W_true ((evOp hF (by kernel_rfl)).trans (congrArg Value.bool hc2)) ?_)
      have hrc := (risC hl0 hlast).symm.trans (by assumption : (cond (!(inB (xs.getD k default) 0 (below - 1))) true (cond (decide ((k : Int) > 0)) (decide ((xs.getD k default) ≤ (xs.getD ((k : Int) - 1).toNat default))) false)) = true)
      refine W_seq (region_q {} TBok hF (F' := [(0, .slice p n c), (1, .int .i64 below), (4, .bool false), (5, .int .i64 (k : Int))]) (rs := []) [0, 1, 4, 5] .nil (by kernel_rfl) fun a w hF hE => ?_)
      replace hO := hO.ext hE; clear hE
      refine W_ret ?_
      show bodyPostM (FW none) 0 _ _ _ Exit.ret a w
      have hbad := risF_bad (ln := below) (last := last) (by omega : k < xs.length) (by simpa using hrc)
      exact leave_r TBok hF (.nil _) (vs := [.bool false]) (rs := []) .nil (by kernel_rfl) ⟨by rw [← hris, hbad]; rfl, hO.kp⟩
    · refine (W_false ((evOp hF (by kernel_rfl)).trans (congrArg Value.bool hc2)) ?_)
      have hrc := (risC hl0 hlast).symm.trans (by assumption : (cond (!(inB (xs.getD k default) 0 (below - 1))) true (cond (decide ((k : Int) > 0)) (decide ((xs.getD k default) ≤ (xs.getD ((k : Int) - 1).toNat default))) false)) = false)
      refine (W_skip ?_)
      refine (region_q {} TBok hF (F' := [(0, .slice p n c), (1, .int .i64 below), (5, .int .i64 ((k : Int) + 1))]) (rs := [.rng ((k : Int) + 1)]) [0, 1, 5] (.cons (rg (by omega)) <| .nil) (by kernel_rfl) fun a w hF hE => ?_)
      replace hO := hO.ext hE; clear hE
      have hib : inB (xs.getD k default) (last + 1) (below - 1) = true := by simpa using hrc
      have hi2 := inB_iff.1 hib
      have hstep := risF_step (ln := below) (last := last) (by omega : k < xs.length) hib
      exact ⟨_, by omega, k + 1, _, rfl, by omega, by omega, .inr ⟨by omega, by congr 1; omega⟩, hstep.symm.trans hris, hF, hO⟩
  · refine (W_false ((evOp hF (by kernel_rfl)).trans (congrArg Value.bool hc1)) ?_)
    have hc1_ := of_decide_eq_false hc1
    refine (W_exit ?_)
    refine W_seq (region_q {} TBok hF (F' := [(4, .bool true)]) (rs := []) [4] .nil (by kernel_rfl) fun a w hF hE => ?_)
    replace hO := hO.ext hE; clear hE
    refine W_ret ?_
    show bodyPostM (FW none) 0 _ _ _ Exit.ret a w
    rw [List.drop_of_length_le (by omega)] at hris
    exact leave_r TBok hF (.nil _) (vs := [.bool true]) (rs := []) .nil (by kernel_rfl) ⟨by rw [← hris]; rfl, hO.kp⟩

set_option maxHeartbeats 4000000 in
set_option maxRecDepth 100000 in
theorem Before_calls (xs ys : List Int) (p p2 : Option Addr) (n n2 c c2 : Nat) (w0 : World) (hx : Rd encI 1 w0.heap.size w0 p n xs) (hy : Rd encI 1 w0.heap.size w0 p2 n2 ys) :
    Calls Try.prog 42 #[.slice p n c, .slice p2 n2 c2] w0 (fun e w' => e = .returned (.bool (befL xs ys)) ∧ Ext w0 w') := by
  have hl1 := hx.len; have hl2 := hy.len; have hs1 := hx.size; have hs2 := hy.size
  refine calls_of_W Try.func42 rfl (by kernel_rfl) (args := [.slice p n c, .slice p2 n2 c2]) fun a hF => ?_
  replace hF : Fr 41 [] [(0, .slice p n c), (1, .slice p2 n2 c2)] a := hF
  have hO : Own w0 none_ [] w0 := Own.start w0 _
  refine W_seq (region_q {} TBok hF (F' := [(0, .slice p n c), (1, .slice p2 n2 c2), (4, .bool false)]) (rs := []) [0, 1, 4] .nil (by kernel_rfl) fun a w hF hE => ?_)
  replace hO := hO.ext hE; clear hE
  refine W_seq ?_
  refine W_seq (region_q {} TBok hF (F' := [(0, .slice p n c), (1, .slice p2 n2 c2), (4, .bool false), (5, .int .i64 0)]) (rs := []) [0, 1, 4, 5] .nil (by kernel_rfl) fun a w hF hE => ?_)
  replace hO := hO.ext hE; clear hE
  refine (W_block ?_)
  replace hF := hF.sel [0, 1, 5]
  refine (W_loop (fun m a w => ∃ (k : Nat), m = n - k ∧ (k ≤ n ∧ k ≤ n2) ∧ befL (xs.drop k) (ys.drop k) = befL xs ys ∧ Fr 41 [] [(0, .slice p n c), (1, .slice p2 n2 c2), (5, .int .i64 (k : Int))] a ∧ Own w0 none_ [] w) _ ⟨0, rfl, ⟨Nat.zero_le _, Nat.zero_le _⟩, rfl, hF, hO⟩ ?_)
  clear hF hO
  rintro _ a w ⟨k, rfl, hk, hbf, hF, hO⟩
  refine W_seq ?_
  refine W_seq (region_q { sy := [4] } TBok hF (F' := [(0, .slice p n c), (1, .slice p2 n2 c2), (5, .int .i64 (k : Int)), (15, .bool (cond (decide ((k : Int) < (n : Int))) (decide ((k : Int) < (n2 : Int))) false))]) (rs := []) [0, 1, 5, 15] .nil (by kernel_rfl) fun a w hF hE => ?_)
  replace hO := hO.ext hE; clear hE
  rcases Bool.eq_false_or_eq_true (cond (decide ((k : Int) < (n : Int))) (decide ((k : Int) < (n2 : Int))) false) with hc1 | hc1
  · refine (W_true ((evOp hF (by kernel_rfl)).trans (congrArg Value.bool hc1)) ?_)
    have hbc : k < n ∧ k < n2 := by have hx_ := (by assumption : (cond (decide ((k : Int) < (n : Int))) (decide ((k : Int) < (n2 : Int))) false) = true); by_cases h1 : (k : Int) < n <;> by_cases h2 : (k : Int) < n2 <;> simp_all
    refine (W_skip ?_)
    refine W_seq (W_block ?_)
    refine W_seq (region_d {} mixed TBok hF (F' := [(0, .slice p n c), (1, .slice p2 n2 c2), (5, .int .i64 (k : Int)), (26, .bool ((xs.getD k default) != (ys.getD k default)))]) (rs := [.idx p n (k : Int) 1 (adr p 1 (k : Int)), .ld (adr p 1 (k : Int)) (.int .i64 (xs.getD k default)), .idx p2 n2 (k : Int) 1 (adr p2 1 (k : Int)), .ld (adr p2 1 (k : Int)) (.int .i64 (ys.getD k default))]) [0, 1, 5, 26] (.cons (ix hx (by omega) (by omega)) <| .cons (ldx hO.st nom hx (by omega) (by omega) 0 rfl) <| .cons (ix hy (by omega) (by omega)) <| .cons (ldx hO.st nom hy (by omega) (by omega) 0 rfl) <| .nil) (by kernel_rfl) (by kernel_rfl) fun a w hF hE => ?_)
    replace hO := hO.ext hE; clear hE
    rcases Bool.eq_false_or_eq_true ((xs.getD k default) != (ys.getD k default)) with hc2 | hc2
    · refine (W_true ((evOp hF (by kernel_rfl)).trans (congrArg Value.bool hc2)) ?_)
      refine W_seq (region_d {} mixed TBok hF (F' := [(0, .slice p n c), (1, .slice p2 n2 c2), (4, .bool (decide ((xs.getD k default) < (ys.getD k default)))), (5, .int .i64 (k : Int))]) (rs := [.idx p n (k : Int) 1 (adr p 1 (k : Int)), .ld (adr p 1 (k : Int)) (.int .i64 (xs.getD k default)), .idx p2 n2 (k : Int) 1 (adr p2 1 (k : Int)), .ld (adr p2 1 (k : Int)) (.int .i64 (ys.getD k default))]) [0, 1, 4, 5] (.cons (ix hx (by omega) (by omega)) <| .cons (ldx hO.st nom hx (by omega) (by omega) 0 rfl) <| .cons (ix hy (by omega) (by omega)) <| .cons (ldx hO.st nom hy (by omega) (by omega) 0 rfl) <| .nil) (by kernel_rfl) (by kernel_rfl) fun a w hF hE => ?_)
      replace hO := hO.ext hE; clear hE
      refine W_ret ?_
      show bodyPostM (FW none) 0 _ _ _ Exit.ret a w
      have hd_ := befL_diff (xs := xs) (ys := ys) (k := k) (by omega) (by omega) hc2
      exact leave_r TBok hF (.nil _) (vs := [.bool (decide ((xs.getD k default) < (ys.getD k default)))]) (rs := []) .nil (by kernel_rfl) ⟨by rw [← hbf, hd_]; rfl, hO.kp⟩
    · refine (W_false ((evOp hF (by kernel_rfl)).trans (congrArg Value.bool hc2)) ?_)
      refine (W_skip ?_)
      refine (region_q {} TBok hF (F' := [(0, .slice p n c), (1, .slice p2 n2 c2), (5, .int .i64 ((k : Int) + 1))]) (rs := [.rng ((k : Int) + 1)]) [0, 1, 5] (.cons (rg (by omega)) <| .nil) (by kernel_rfl) fun a w hF hE => ?_)
      replace hO := hO.ext hE; clear hE
      have hd_ := befL_drop (xs := xs) (ys := ys) (k := k) (by omega) (by omega) (by assumption)
      exact ⟨_, by omega, k + 1, rfl, by omega, hd_.trans hbf, hF, hO⟩
  · refine (W_false ((evOp hF (by kernel_rfl)).trans (congrArg Value.bool hc1)) ?_)
    have hbc : ¬ (k < n ∧ k < n2) := by have hx_ := (by assumption : (cond (decide ((k : Int) < (n : Int))) (decide ((k : Int) < (n2 : Int))) false) = false); by_cases h1 : (k : Int) < n <;> by_cases h2 : (k : Int) < n2 <;> simp_all
    refine (W_exit ?_)
    refine W_seq (region_q {} TBok hF (F' := [(4, .bool (decide ((n : Int) < (n2 : Int))))]) (rs := []) [4] .nil (by kernel_rfl) fun a w hF hE => ?_)
    replace hO := hO.ext hE; clear hE
    refine W_ret ?_
    show bodyPostM (FW none) 0 _ _ _ Exit.ret a w
    have hd_ := befL_end (xs := xs) (ys := ys) (k := k) (by omega) (by omega)
    exact leave_r TBok hF (.nil _) (vs := [.bool (decide ((n : Int) < (n2 : Int)))]) (rs := []) .nil (by kernel_rfl) ⟨by rw [← hbf, hd_, hl1, hl2]; rfl, hO.kp⟩

set_option maxHeartbeats 4000000 in
set_option maxRecDepth 100000 in
theorem all_calls (d : Day) (v : DV) (w0 : World) (hd : DayR w0.heap.size w0 v d) (hv : dayV d = true) :
    Calls Try.prog 60 #[.agg #[.int .i64 d.hours, .slice v.ha v.hn v.hc, .slice v.la v.ln v.lc, .slice v.wa v.wn v.wc]] w0 (fun e w' => e = .returned (.int .i64 (cransF d)) ∧ Ext w0 w') := by
  have hl1 := hd.heat.len; have hl2 := hd.lots.len; have hl3 := hd.wks.len; have hs1 := hd.heat.size; have hs2 := hd.lots.size; have hs3 := hd.wks.size; have hv1 := day_ok hv
  refine calls_of_W Try.func60 rfl (by kernel_rfl) (args := [.agg #[.int .i64 d.hours, .slice v.ha v.hn v.hc, .slice v.la v.ln v.lc, .slice v.wa v.wn v.wc]]) fun a hF => ?_
  replace hF : Fr 21 [] [(0, .agg #[.int .i64 d.hours, .slice v.ha v.hn v.hc, .slice v.la v.ln v.lc, .slice v.wa v.wn v.wc])] a := hF
  have hO : Own w0 none_ [] w0 := Own.start w0 _
  refine W_seq (region_seq ?_)
  refine op_box (i := 0) (t := 26) (v := .agg #[.int .i64 d.hours, .slice v.ha v.hn v.hc, .slice v.la v.ln v.lc, .slice v.wa v.wn v.wc]) (d := 1) hF hO (by kernel_rfl) fun a w b1 hF hO _ => ?_
  replace hO : Own w0 none_ [cel b1 #[.int .i64 d.hours, .slice v.ha v.hn v.hc, .slice v.la v.ln v.lc, .slice v.wa v.wn v.wc] 26] w := hO
  refine seq_quiet {} TBok hF (F' := [(1, .pointer (some ⟨b1, 0, none⟩)), (2, .int .i64 0)]) (rs := []) [1] [] [1, 2] .nil (by kernel_rfl) fun a w hF hE => ?_
  replace hO := hO.ext hE; clear hE
  refine W_seq (region_q {} TBok hF (F' := [(1, .pointer (some ⟨b1, 0, none⟩)), (2, .int .i64 0), (3, .int .i64 0)]) (rs := []) [1, 2, 3] .nil (by kernel_rfl) fun a w hF hE => ?_)
  replace hO := hO.ext hE; clear hE
  refine W_seq ?_
  refine W_seq (region_q {} TBok hF (F' := [(1, .pointer (some ⟨b1, 0, none⟩)), (2, .int .i64 0), (3, .int .i64 0), (4, .int .i64 0)]) (rs := []) [1, 2, 3, 4] .nil (by kernel_rfl) fun a w hF hE => ?_)
  replace hO := hO.ext hE; clear hE
  refine (W_block ?_)
  refine (W_loop (fun m a w => ∃ (k : Nat), m = v.ln - k ∧ k ≤ v.ln ∧ Fr 21 [] [(1, .pointer (some ⟨b1, 0, none⟩)), (2, .int .i64 0), (3, .int .i64 (((d.lots.take k).map (·.cr)).sum)), (4, .int .i64 (k : Int))] a ∧ Own w0 none_ [cel b1 #[.int .i64 d.hours, .slice v.ha v.hn v.hc, .slice v.la v.ln v.lc, .slice v.wa v.wn v.wc] 26] w) _ ⟨0, rfl, Nat.zero_le _, hF, hO⟩ ?_)
  clear hF hO
  rintro _ a w ⟨k, rfl, hk, hF, hO⟩
  refine W_seq ?_
  refine W_seq (region_q {} TBok hF (F' := [(1, .pointer (some ⟨b1, 0, none⟩)), (2, .int .i64 0), (3, .int .i64 (((d.lots.take k).map (·.cr)).sum)), (4, .int .i64 (k : Int)), (9, .bool (decide ((k : Int) < (v.ln : Int))))]) (rs := [.ld ⟨b1, 2, none⟩ (.slice v.la v.ln v.lc)]) [1, 2, 3, 4, 9] (.cons (ldo hO.st 0 rfl 2 rfl) <| .nil) (by kernel_rfl) fun a w hF hE => ?_)
  replace hO := hO.ext hE; clear hE
  rcases Bool.eq_false_or_eq_true (decide ((k : Int) < (v.ln : Int))) with hc2 | hc2
  · refine (W_true ((evOp hF (by kernel_rfl)).trans (congrArg Value.bool hc2)) ?_)
    have hc2_ := of_decide_eq_true hc2
    refine (W_skip ?_)
    refine W_seq (W_block ?_)
    refine (region_q {} TBok hF (F' := [(1, .pointer (some ⟨b1, 0, none⟩)), (2, .int .i64 0), (3, .int .i64 (((d.lots.take k).map (·.cr)).sum + (d.lots.getD k default).cr)), (4, .int .i64 (k : Int))]) (rs := [.ld ⟨b1, 2, none⟩ (.slice v.la v.ln v.lc), .idx v.la v.ln (k : Int) 4 (adr v.la 4 (k : Int)), .ld (adr v.la 4 (k : Int)) (.int .i64 ((d.lots.getD k default).cr)), .rng (((d.lots.take k).map (·.cr)).sum + (d.lots.getD k default).cr)]) [1, 2, 3, 4] (.cons (ldo hO.st 0 rfl 2 rfl) <| .cons (ix hd.lots (by omega) (by omega)) <| .cons (ldx hO.st nom hd.lots (by omega) (by omega) 0 rfl) <| .cons (rg (by have h1 := sum_bd (bdd_cr hv (k + 1)) (k + 1); rw [List.take_of_length_le (by rw [List.length_map, List.length_take]; omega), msum_take _ (by omega)] at h1; omega)) <| .nil) (by kernel_rfl) fun a w hF hE => ?_)
    replace hO := hO.ext hE; clear hE
    refine (region_q {} TBok hF (F' := [(1, .pointer (some ⟨b1, 0, none⟩)), (2, .int .i64 0), (3, .int .i64 (((d.lots.take k).map (·.cr)).sum + (d.lots.getD k default).cr)), (4, .int .i64 ((k : Int) + 1))]) (rs := [.rng ((k : Int) + 1)]) [1, 2, 3, 4] (.cons (rg (by omega)) <| .nil) (by kernel_rfl) fun a w hF hE => ?_)
    replace hO := hO.ext hE; clear hE
    exact ⟨_, by omega, k + 1, rfl, by omega, hF.cast (by rw [msum_take _ (by omega)]; rfl), hO⟩
  · refine (W_false ((evOp hF (by kernel_rfl)).trans (congrArg Value.bool hc2)) ?_)
    have hc2_ := of_decide_eq_false hc2
    refine (W_exit ?_)
    refine W_seq (region_q {} TBok hF (F' := [(2, .int .i64 (((d.lots.take k).map (·.cr)).sum))]) (rs := []) [2] .nil (by kernel_rfl) fun a w hF hE => ?_)
    replace hO := hO.ext hE; clear hE
    refine W_ret ?_
    show bodyPostM (FW none) 0 _ _ _ Exit.ret a w
    have hkk : k = d.lots.length := by omega
    exact leave_r TBok hF (.nil _) (vs := [.int .i64 (((d.lots.take k).map (·.cr)).sum)]) (rs := []) .nil (by kernel_rfl) ⟨by rw [hkk, List.take_length]; rfl, hO.kp⟩

theorem until_b_calls (d : Day) (v : DV) (lot : Int) (b : Bool) (w0 : World) (hd : DayR w0.heap.size w0 v d) (hv : dayV d = true) (hl : 0 ≤ lot ∧ lot < v.ln) :
    Calls Try.prog 53 #[.agg #[.int .i64 d.hours, .slice v.ha v.hn v.hc, .slice v.la v.ln v.lc, .slice v.wa v.wn v.wc], .int .i64 lot, .bool b] w0 (fun e w' => e = .returned (.int .i64 (refUntil (bestE b) d (d.lots.getD lot.toNat default))) ∧ Ext w0 w') := by
  cases b
  · exact until_false_calls d v lot w0 hd hv hl
  · exact until_true_calls d v lot w0 hd hv hl

set_option maxHeartbeats 4000000 in
set_option maxRecDepth 100000 in
theorem takes_calls (d : Day) (v : DV) (x : Wk) (lot hr : Int) (b : Bool) (w0 : World) (hd : DayR w0.heap.size w0 v d) (hv : dayV d = true) (hl : 0 ≤ lot ∧ lot < v.ln) (hk0 : 0 ≤ x.kd) :
    Calls Try.prog 61 #[.agg #[.int .i64 d.hours, .slice v.ha v.hn v.hc, .slice v.la v.ln v.lc, .slice v.wa v.wn v.wc], .agg #[.int .i64 x.kd, .int .i64 x.fr, .int .i64 x.to, .int .i64 x.rt], .int .i64 lot, .int .i64 hr, .bool b] w0 (fun e w' => e = .returned (.bool (takesB d x lot hr b)) ∧ Ext w0 w') := by
  have hl1 := hd.heat.len; have hl2 := hd.lots.len; have hl3 := hd.wks.len; have hs1 := hd.heat.size; have hs2 := hd.lots.size; have hs3 := hd.wks.size; have hv1 := day_ok hv
  refine calls_of_W Try.func61 rfl (by kernel_rfl) (args := [.agg #[.int .i64 d.hours, .slice v.ha v.hn v.hc, .slice v.la v.ln v.lc, .slice v.wa v.wn v.wc], .agg #[.int .i64 x.kd, .int .i64 x.fr, .int .i64 x.to, .int .i64 x.rt], .int .i64 lot, .int .i64 hr, .bool b]) fun a hF => ?_
  replace hF : Fr 40 [] [(0, .agg #[.int .i64 d.hours, .slice v.ha v.hn v.hc, .slice v.la v.ln v.lc, .slice v.wa v.wn v.wc]), (1, .agg #[.int .i64 x.kd, .int .i64 x.fr, .int .i64 x.to, .int .i64 x.rt]), (2, .int .i64 lot), (3, .int .i64 hr), (4, .bool b)] a := hF
  have hO : Own w0 none_ [] w0 := Own.start w0 _
  refine W_seq (region_seq ?_)
  refine op_box (i := 0) (t := 26) (v := .agg #[.int .i64 d.hours, .slice v.ha v.hn v.hc, .slice v.la v.ln v.lc, .slice v.wa v.wn v.wc]) (d := 5) hF hO (by kernel_rfl) fun a w b1 hF hO _ => ?_
  replace hO : Own w0 none_ [cel b1 #[.int .i64 d.hours, .slice v.ha v.hn v.hc, .slice v.la v.ln v.lc, .slice v.wa v.wn v.wc] 26] w := hO
  refine op_box (i := 1) (t := 61) (v := .agg #[.int .i64 x.kd, .int .i64 x.fr, .int .i64 x.to, .int .i64 x.rt]) (d := 6) hF hO (by kernel_rfl) fun a w b2 hF hO _ => ?_
  replace hO : Own w0 none_ [cel b1 #[.int .i64 d.hours, .slice v.ha v.hn v.hc, .slice v.la v.ln v.lc, .slice v.wa v.wn v.wc] 26, cel b2 #[.int .i64 x.kd, .int .i64 x.fr, .int .i64 x.to, .int .i64 x.rt] 61] w := hO
  refine seq_quiet {} TBok hF (F' := [(2, .int .i64 lot), (3, .int .i64 hr), (4, .bool b), (5, .pointer (some ⟨b1, 0, none⟩)), (6, .pointer (some ⟨b2, 0, none⟩)), (10, .bool false)]) (rs := []) [2] [] [2, 3, 4, 5, 6, 10] .nil (by kernel_rfl) fun a w hF hE => ?_
  replace hO := hO.ext hE; clear hE
  refine W_seq (region_seq ?_)
  refine seq_quiet {} TBok hF (F' := [(2, .int .i64 lot), (3, .int .i64 hr), (4, .bool b), (5, .pointer (some ⟨b1, 0, none⟩)), (6, .pointer (some ⟨b2, 0, none⟩)), (10, .bool false), (16, .agg #[.int .i64 ((d.lots.getD lot.toNat default).cr), .int .i64 ((d.lots.getD lot.toNat default).la), .int .i64 ((d.lots.getD lot.toNat default).ke), .int .i64 ((d.lots.getD lot.toNat default).fi)])]) (rs := [.ld ⟨b1, 2, none⟩ (.slice v.la v.ln v.lc), .idx v.la v.ln lot 4 (adr v.la 4 lot), .lds (adr v.la 4 lot) [.int .i64 ((d.lots.getD lot.toNat default).cr), .int .i64 ((d.lots.getD lot.toNat default).la), .int .i64 ((d.lots.getD lot.toNat default).ke), .int .i64 ((d.lots.getD lot.toNat default).fi)]]) [0, 1, 2, 3, 4] [5, 6] [2, 3, 4, 5, 6, 10, 16] (.cons (ldo hO.st 0 rfl 2 rfl) <| .cons (ix hd.lots (by omega) (by omega)) <| .cons (ldsx hO.st nom hd.lots (by omega) (by omega) rfl) <| .nil) (by kernel_rfl) fun a w hF hE => ?_
  replace hO := hO.ext hE; clear hE
  refine op_alloc (i := 5) (t := 59) (d := 11) (z := .agg #[.int .i64 0, .int .i64 0, .int .i64 0, .int .i64 0]) hF hO (by kernel_rfl) (by kernel_rfl) fun a w b3 hF hO _ => ?_
  replace hO : Own w0 none_ [cel b1 #[.int .i64 d.hours, .slice v.ha v.hn v.hc, .slice v.la v.ln v.lc, .slice v.wa v.wn v.wc] 26, cel b2 #[.int .i64 x.kd, .int .i64 x.fr, .int .i64 x.to, .int .i64 x.rt] 61, cel b3 #[.int .i64 0, .int .i64 0, .int .i64 0, .int .i64 0] 59] w := hO
  refine op_store (i := 6) (t := 59) (p := ⟨b3, 0, none⟩) (v := .agg #[.int .i64 ((d.lots.getD lot.toNat default).cr), .int .i64 ((d.lots.getD lot.toNat default).la), .int .i64 ((d.lots.getD lot.toNat default).ke), .int .i64 ((d.lots.getD lot.toNat default).fi)]) (off := 0) (sz := 4) (cs' := #[.int .i64 ((d.lots.getD lot.toNat default).cr), .int .i64 ((d.lots.getD lot.toNat default).la), .int .i64 ((d.lots.getD lot.toNat default).ke), .int .i64 ((d.lots.getD lot.toNat default).fi)]) hF hO (by kernel_rfl) 2 rfl rfl (by kernel_rfl) (by kernel_rfl) (by kernel_rfl) fun a w hF hO _ => ?_
  replace hO : Own w0 none_ [cel b1 #[.int .i64 d.hours, .slice v.ha v.hn v.hc, .slice v.la v.ln v.lc, .slice v.wa v.wn v.wc] 26, cel b2 #[.int .i64 x.kd, .int .i64 x.fr, .int .i64 x.to, .int .i64 x.rt] 61, cel b3 #[.int .i64 ((d.lots.getD lot.toNat default).cr), .int .i64 ((d.lots.getD lot.toNat default).la), .int .i64 ((d.lots.getD lot.toNat default).ke), .int .i64 ((d.lots.getD lot.toNat default).fi)] 59] w := hO
  replace hF := hF.sel [2, 3, 4, 5, 6, 10, 11]
  replace hF : Fr 40 [] [(2, .int .i64 lot), (3, .int .i64 hr), (4, .bool b), (5, .pointer (some ⟨b1, 0, none⟩)), (6, .pointer (some ⟨b2, 0, none⟩)), (10, .bool false), (11, .pointer (some ⟨b3, 0, none⟩))] a := hF
  refine W_seq (region_d { sy := [5, 13] } mixed TBok hF (F' := [(10, .bool (cond (cond (bitB ((d.lots.getD lot.toNat default).fi) x.kd) (inB hr x.fr x.to) false) (inB hr ((d.lots.getD lot.toNat default).la) (refUntil (bestE b) d (d.lots.getD lot.toNat default))) false))]) (rs := [.ld ⟨b3, 3, none⟩ (.int .i64 ((d.lots.getD lot.toNat default).fi)), .ld ⟨b2, 0, none⟩ (.int .i64 x.kd), .call 37 #[.int .i64 ((d.lots.getD lot.toNat default).fi), .int .i64 x.kd] (.bool (bitB ((d.lots.getD lot.toNat default).fi) x.kd)), .und (bitB ((d.lots.getD lot.toNat default).fi) x.kd) (.ld ⟨b2, 1, none⟩ (.int .i64 x.fr)), .und (bitB ((d.lots.getD lot.toNat default).fi) x.kd) (.ld ⟨b2, 2, none⟩ (.int .i64 x.to)), .und (bitB ((d.lots.getD lot.toNat default).fi) x.kd) (.call 36 #[.int .i64 hr, .int .i64 x.fr, .int .i64 x.to] (.bool (inB hr x.fr x.to))), .und (cond (bitB ((d.lots.getD lot.toNat default).fi) x.kd) (inB hr x.fr x.to) false) (.ld ⟨b3, 1, none⟩ (.int .i64 ((d.lots.getD lot.toNat default).la))), .und (cond (bitB ((d.lots.getD lot.toNat default).fi) x.kd) (inB hr x.fr x.to) false) (.lds ⟨b1, 0, none⟩ [.int .i64 d.hours, .slice v.ha v.hn v.hc, .slice v.la v.ln v.lc, .slice v.wa v.wn v.wc]), .und (cond (bitB ((d.lots.getD lot.toNat default).fi) x.kd) (inB hr x.fr x.to) false) (.call 53 #[.agg #[.int .i64 d.hours, .slice v.ha v.hn v.hc, .slice v.la v.ln v.lc, .slice v.wa v.wn v.wc], .int .i64 lot, .bool b] (.int .i64 (refUntil (bestE b) d (d.lots.getD lot.toNat default)))), .und (cond (bitB ((d.lots.getD lot.toNat default).fi) x.kd) (inB hr x.fr x.to) false) (.call 36 #[.int .i64 hr, .int .i64 ((d.lots.getD lot.toNat default).la), .int .i64 (refUntil (bestE b) d (d.lots.getD lot.toNat default))] (.bool (inB hr ((d.lots.getD lot.toNat default).la) (refUntil (bestE b) d (d.lots.getD lot.toNat default)))))]) [10] (.cons (ldo hO.st 2 rfl 3 rfl) <| .cons (ldo hO.st 1 rfl 0 rfl) <| .cons (fun w hE => Bit_calls ((d.lots.getD lot.toNat default).fi) x.kd w hk0) <| .cons (fun hg => (ldo hO.st 1 rfl 1 rfl)) <| .cons (fun hg => (ldo hO.st 1 rfl 2 rfl)) <| .cons (fun hg => (fun w _ => In_calls _ _ _ w)) <| .cons (fun hg => (ldo hO.st 2 rfl 1 rfl)) <| .cons (fun hg => (ldso hO.st 0 rfl 0 rfl)) <| .cons (fun hg => (fun w hE => until_b_calls d v lot b w (hd.upM (hO.st w hE).kp nom (Nat.le_refl _)) hv (by omega))) <| .cons (fun hg => (fun w _ => In_calls _ _ _ w)) <| .nil) (by kernel_rfl) (by kernel_rfl) fun a w hF hE => ?_)
  replace hO := hO.ext hE; clear hE
  refine W_ret ?_
  show bodyPostM (FW none) 0 _ _ _ Exit.ret a w
  exact leave_r TBok hF (.nil _) (vs := [.bool (cond (cond (bitB ((d.lots.getD lot.toNat default).fi) x.kd) (inB hr x.fr x.to) false) (inB hr ((d.lots.getD lot.toNat default).la) (refUntil (bestE b) d (d.lots.getD lot.toNat default))) false)]) (rs := []) .nil (by kernel_rfl) ⟨rfl, hO.kp⟩

set_option maxHeartbeats 4000000 in
set_option maxRecDepth 100000 in
theorem refDeficit_calls (d : Day) (v : DV) (xs : List Int) (p : Option Addr) (n c : Nat) (ws : List Wk) (wp : Option Addr) (wn wc : Nat) (b : Bool) (w0 : World) (hd : DayR w0.heap.size w0 v d) (hv : dayV d = true) (hx : Rd encI 1 w0.heap.size w0 p n xs) (hn : n ≤ 1000) (hin : ∀ x ∈ xs, 0 ≤ x ∧ x < v.ln) (hws : Rd encWk 4 w0.heap.size w0 wp wn ws) (hvX : dayV (dayX d ws) = true) :
    Calls Try.prog 66 #[.agg #[.int .i64 d.hours, .slice v.ha v.hn v.hc, .slice v.la v.ln v.lc, .slice v.wa v.wn v.wc], .slice p n c, .slice wp wn wc, .bool b] w0 (fun e w' => e = .returned (.int .i64 (defV (dayX d ws) (uB b d) xs)) ∧ Ext w0 w') := by
  have hl1 := hd.heat.len; have hl2 := hd.lots.len; have hl3 := hd.wks.len; have hs1 := hd.heat.size; have hs2 := hd.lots.size; have hs3 := hd.wks.size; have hv1 := day_ok hv; have hx1 := hx.len; have hw1 := hws.len; have hw2 := dayX_len hvX
  refine calls_of_W Try.func66 rfl (by kernel_rfl) (args := [.agg #[.int .i64 d.hours, .slice v.ha v.hn v.hc, .slice v.la v.ln v.lc, .slice v.wa v.wn v.wc], .slice p n c, .slice wp wn wc, .bool b]) fun a hF => ?_
  replace hF : Fr 74 [] [(0, .agg #[.int .i64 d.hours, .slice v.ha v.hn v.hc, .slice v.la v.ln v.lc, .slice v.wa v.wn v.wc]), (1, .slice p n c), (2, .slice wp wn wc), (3, .bool b)] a := hF
  have hO : Own w0 none_ [] w0 := Own.start w0 _
  refine W_seq (region_seq ?_)
  refine op_box (i := 0) (t := 26) (v := .agg #[.int .i64 d.hours, .slice v.ha v.hn v.hc, .slice v.la v.ln v.lc, .slice v.wa v.wn v.wc]) (d := 4) hF hO (by kernel_rfl) fun a w b1 hF hO _ => ?_
  replace hO : Own w0 none_ [cel b1 #[.int .i64 d.hours, .slice v.ha v.hn v.hc, .slice v.la v.ln v.lc, .slice v.wa v.wn v.wc] 26] w := hO
  refine seq_quiet {} TBok hF (F' := [(1, .slice p n c), (2, .slice wp wn wc), (3, .bool b), (4, .pointer (some ⟨b1, 0, none⟩)), (8, .int .i64 0)]) (rs := []) [1] [] [1, 2, 3, 4, 8] .nil (by kernel_rfl) fun a w hF hE => ?_
  replace hO := hO.ext hE; clear hE
  refine W_seq (region_q {} TBok hF (F' := [(1, .slice p n c), (2, .slice wp wn wc), (3, .bool b), (4, .pointer (some ⟨b1, 0, none⟩)), (8, .int .i64 0), (9, .int .i64 0)]) (rs := []) [1, 2, 3, 4, 8, 9] .nil (by kernel_rfl) fun a w hF hE => ?_)
  replace hO := hO.ext hE; clear hE
  refine W_seq ?_
  refine W_seq (region_q {} TBok hF (F' := [(1, .slice p n c), (2, .slice wp wn wc), (3, .bool b), (4, .pointer (some ⟨b1, 0, none⟩)), (8, .int .i64 0), (9, .int .i64 0), (10, .int .i64 0)]) (rs := []) [1, 2, 3, 4, 8, 9, 10] .nil (by kernel_rfl) fun a w hF hE => ?_)
  replace hO := hO.ext hE; clear hE
  refine (W_block ?_)
  refine (W_loop (fun m a w => ∃ (k : Nat), ∃ (q : Int), m = n - k ∧ k ≤ n ∧ (q = ((xs.take k).map fun x => crI d x.toNat).sum) ∧ 0 ≤ q ∧ q ≤ 50 * (k : Int) ∧ Fr 74 [] [(1, .slice p n c), (2, .slice wp wn wc), (3, .bool b), (4, .pointer (some ⟨b1, 0, none⟩)), (8, .int .i64 0), (9, .int .i64 q), (10, .int .i64 (k : Int))] a ∧ Own w0 none_ [cel b1 #[.int .i64 d.hours, .slice v.ha v.hn v.hc, .slice v.la v.ln v.lc, .slice v.wa v.wn v.wc] 26] w) _ ⟨0, 0, rfl, Nat.zero_le _, rfl, by omega, by omega, hF, hO⟩ ?_)
  clear hF hO
  rintro _ a w ⟨k, q, rfl, hk, hq, hq0, hq1, hF, hO⟩
  refine W_seq ?_
  refine W_seq (region_q {} TBok hF (F' := [(1, .slice p n c), (2, .slice wp wn wc), (3, .bool b), (4, .pointer (some ⟨b1, 0, none⟩)), (8, .int .i64 0), (9, .int .i64 q), (10, .int .i64 (k : Int)), (18, .bool (decide ((k : Int) < (n : Int))))]) (rs := []) [1, 2, 3, 4, 8, 9, 10, 18] .nil (by kernel_rfl) fun a w hF hE => ?_)
  replace hO := hO.ext hE; clear hE
  rcases Bool.eq_false_or_eq_true (decide ((k : Int) < (n : Int))) with hc2 | hc2
  · refine (W_true ((evOp hF (by kernel_rfl)).trans (congrArg Value.bool hc2)) ?_)
    have hkn := of_decide_eq_true (by assumption : (decide ((k : Int) < (n : Int))) = true)
    have hlot := hin (xs.getD k default) (getD_mem (by omega))
    have hlk := lot_ok hv (i := (xs.getD k default).toNat) (by omega)
    refine (W_skip ?_)
    refine W_seq (W_block ?_)
    refine (region_d {} mixed TBok hF (F' := [(1, .slice p n c), (2, .slice wp wn wc), (3, .bool b), (4, .pointer (some ⟨b1, 0, none⟩)), (8, .int .i64 0), (9, .int .i64 (q + (d.lots.getD (xs.getD k default).toNat default).cr)), (10, .int .i64 (k : Int))]) (rs := [.ld ⟨b1, 2, none⟩ (.slice v.la v.ln v.lc), .idx p n (k : Int) 1 (adr p 1 (k : Int)), .ld (adr p 1 (k : Int)) (.int .i64 (xs.getD k default)), .idx v.la v.ln (xs.getD k default) 4 (adr v.la 4 (xs.getD k default)), .ld (adr v.la 4 (xs.getD k default)) (.int .i64 ((d.lots.getD (xs.getD k default).toNat default).cr)), .rng (q + (d.lots.getD (xs.getD k default).toNat default).cr)]) [1, 2, 3, 4, 8, 9, 10] (.cons (ldo hO.st 0 rfl 2 rfl) <| .cons (ix hx (by omega) (by omega)) <| .cons (ldx hO.st nom hx (by omega) (by omega) 0 rfl) <| .cons (ix hd.lots (by omega) (by omega)) <| .cons (ldx hO.st nom hd.lots (by omega) (by omega) 0 rfl) <| .cons (rg (by omega)) <| .nil) (by kernel_rfl) (by kernel_rfl) fun a w hF hE => ?_)
    replace hO := hO.ext hE; clear hE
    refine (region_q {} TBok hF (F' := [(1, .slice p n c), (2, .slice wp wn wc), (3, .bool b), (4, .pointer (some ⟨b1, 0, none⟩)), (8, .int .i64 0), (9, .int .i64 (q + (d.lots.getD (xs.getD k default).toNat default).cr)), (10, .int .i64 ((k : Int) + 1))]) (rs := [.rng ((k : Int) + 1)]) [1, 2, 3, 4, 8, 9, 10] (.cons (rg (by omega)) <| .nil) (by kernel_rfl) fun a w hF hE => ?_)
    replace hO := hO.ext hE; clear hE
    exact ⟨_, by omega, k + 1, _, rfl, by omega, by rw [msum_take _ (by omega), hq], by omega, by omega, hF, hO⟩
  · refine (W_false ((evOp hF (by kernel_rfl)).trans (congrArg Value.bool hc2)) ?_)
    have hkn := of_decide_eq_false (by assumption : (decide ((k : Int) < (n : Int))) = false)
    refine (W_exit ?_)
    refine W_seq ?_
    refine W_seq (region_q {} TBok hF (F' := [(1, .slice p n c), (2, .slice wp wn wc), (3, .bool b), (4, .pointer (some ⟨b1, 0, none⟩)), (8, .int .i64 0), (9, .int .i64 q), (11, .int .i64 0)]) (rs := []) [1, 2, 3, 4, 8, 9, 11] .nil (by kernel_rfl) fun a w hF hE => ?_)
    replace hO := hO.ext hE; clear hE
    refine (W_block ?_)
    refine (W_loop (fun m a w => ∃ (a_ : Nat), ∃ (q2 : Int), m = wn - a_ ∧ a_ ≤ wn ∧ q2 = defW d ws (uB b d) xs a_ ∧ -480 * (a_ : Int) ≤ q2 ∧ q2 ≤ 50000 ∧ Fr 74 [] [(1, .slice p n c), (2, .slice wp wn wc), (3, .bool b), (4, .pointer (some ⟨b1, 0, none⟩)), (8, .int .i64 0), (9, .int .i64 q2), (11, .int .i64 (a_ : Int))] a ∧ Own w0 none_ [cel b1 #[.int .i64 d.hours, .slice v.ha v.hn v.hc, .slice v.la v.ln v.lc, .slice v.wa v.wn v.wc] 26] w) _ ⟨0, _, rfl, Nat.zero_le _, by rw [defW_0, hq, List.take_of_length_le (by omega)], by omega, by omega, hF, hO⟩ ?_)
    clear hF hO
    rintro _ a w ⟨a_, q2, rfl, ha, hq2, hq20, hq21, hF, hO⟩
    refine W_seq ?_
    refine W_seq (region_q {} TBok hF (F' := [(1, .slice p n c), (2, .slice wp wn wc), (3, .bool b), (4, .pointer (some ⟨b1, 0, none⟩)), (8, .int .i64 0), (9, .int .i64 q2), (11, .int .i64 (a_ : Int)), (35, .bool (decide ((a_ : Int) < (wn : Int))))]) (rs := []) [1, 2, 3, 4, 8, 9, 11, 35] .nil (by kernel_rfl) fun a w hF hE => ?_)
    replace hO := hO.ext hE; clear hE
    rcases Bool.eq_false_or_eq_true (decide ((a_ : Int) < (wn : Int))) with hc3 | hc3
    · refine (W_true ((evOp hF (by kernel_rfl)).trans (congrArg Value.bool hc3)) ?_)
      have han := of_decide_eq_true (by assumption : (decide ((a_ : Int) < (wn : Int))) = true)
      have hwk := wkX_ok hvX (i := a_) (by omega)
      refine (W_skip ?_)
      refine W_seq (W_block ?_)
      refine W_seq (region_q {} TBok hF (F' := [(1, .slice p n c), (2, .slice wp wn wc), (3, .bool b), (4, .pointer (some ⟨b1, 0, none⟩)), (8, .int .i64 0), (9, .int .i64 q2), (11, .int .i64 (a_ : Int)), (12, .int .i64 0)]) (rs := []) [1, 2, 3, 4, 8, 9, 11, 12] .nil (by kernel_rfl) fun a w hF hE => ?_)
      replace hO := hO.ext hE; clear hE
      refine (W_block ?_)
      refine (W_loop (fun m a w => ∃ (h : Nat), ∃ (q3 : Int), m = d.hours.toNat - h ∧ (h : Int) ≤ d.hours ∧ q3 = defH d ws (uB b d) xs a_ h ∧ -480 * (a_ : Int) - 20 * (h : Int) ≤ q3 ∧ q3 ≤ 50000 ∧ Fr 74 [] [(1, .slice p n c), (2, .slice wp wn wc), (3, .bool b), (4, .pointer (some ⟨b1, 0, none⟩)), (8, .int .i64 0), (9, .int .i64 q3), (11, .int .i64 (a_ : Int)), (12, .int .i64 (h : Int))] a ∧ Own w0 none_ [cel b1 #[.int .i64 d.hours, .slice v.ha v.hn v.hc, .slice v.la v.ln v.lc, .slice v.wa v.wn v.wc] 26] w) _ ⟨0, _, rfl, (by omega), by rw [defH_0]; exact hq2, by omega, by omega, hF, hO⟩ ?_)
      clear hF hO
      rintro _ a w ⟨h, q3, rfl, hh, hq3, hq30, hq31, hF, hO⟩
      refine W_seq ?_
      refine W_seq (region_q {} TBok hF (F' := [(1, .slice p n c), (2, .slice wp wn wc), (3, .bool b), (4, .pointer (some ⟨b1, 0, none⟩)), (8, .int .i64 0), (9, .int .i64 q3), (11, .int .i64 (a_ : Int)), (12, .int .i64 (h : Int)), (41, .bool (decide ((h : Int) < d.hours)))]) (rs := [.ld ⟨b1, 0, none⟩ (.int .i64 d.hours)]) [1, 2, 3, 4, 8, 9, 11, 12, 41] (.cons (ldo hO.st 0 rfl 0 rfl) <| .nil) (by kernel_rfl) fun a w hF hE => ?_)
      replace hO := hO.ext hE; clear hE
      rcases Bool.eq_false_or_eq_true (decide ((h : Int) < d.hours)) with hc4 | hc4
      · refine (W_true ((evOp hF (by kernel_rfl)).trans (congrArg Value.bool hc4)) ?_)
        have hc4_ := of_decide_eq_true hc4
        refine (W_skip ?_)
        refine W_seq (W_block ?_)
        refine W_seq (region_q {} TBok hF (F' := [(1, .slice p n c), (2, .slice wp wn wc), (3, .bool b), (4, .pointer (some ⟨b1, 0, none⟩)), (8, .int .i64 0), (9, .int .i64 q3), (11, .int .i64 (a_ : Int)), (12, .int .i64 (h : Int)), (13, .bool false)]) (rs := []) [1, 2, 3, 4, 8, 9, 11, 12, 13] .nil (by kernel_rfl) fun a w hF hE => ?_)
        replace hO := hO.ext hE; clear hE
        refine W_seq ?_
        refine W_seq (region_q {} TBok hF (F' := [(1, .slice p n c), (2, .slice wp wn wc), (3, .bool b), (4, .pointer (some ⟨b1, 0, none⟩)), (8, .int .i64 0), (9, .int .i64 q3), (11, .int .i64 (a_ : Int)), (12, .int .i64 (h : Int)), (13, .bool false), (14, .int .i64 0)]) (rs := []) [1, 2, 3, 4, 8, 9, 11, 12, 13, 14] .nil (by kernel_rfl) fun a w hF hE => ?_)
        replace hO := hO.ext hE; clear hE
        refine (W_block ?_)
        refine (W_loop (fun m a w => ∃ (j : Nat), ∃ (c4 : Bool), m = n - j ∧ j ≤ n ∧ (c4 = (xs.take j).any fun x => canB (dayX d ws) (uB b d) x ((a_ : Int), (h : Int))) ∧ Fr 74 [] [(1, .slice p n c), (2, .slice wp wn wc), (3, .bool b), (4, .pointer (some ⟨b1, 0, none⟩)), (8, .int .i64 0), (9, .int .i64 q3), (11, .int .i64 (a_ : Int)), (12, .int .i64 (h : Int)), (13, .bool c4), (14, .int .i64 (j : Int))] a ∧ Own w0 none_ [cel b1 #[.int .i64 d.hours, .slice v.ha v.hn v.hc, .slice v.la v.ln v.lc, .slice v.wa v.wn v.wc] 26] w) _ ⟨0, false, rfl, Nat.zero_le _, rfl, hF, hO⟩ ?_)
        clear hF hO
        rintro _ a w ⟨j, c4, rfl, hj, hc4, hF, hO⟩
        refine W_seq ?_
        refine W_seq (region_q {} TBok hF (F' := [(1, .slice p n c), (2, .slice wp wn wc), (3, .bool b), (4, .pointer (some ⟨b1, 0, none⟩)), (8, .int .i64 0), (9, .int .i64 q3), (11, .int .i64 (a_ : Int)), (12, .int .i64 (h : Int)), (13, .bool c4), (14, .int .i64 (j : Int)), (47, .bool (decide ((j : Int) < (n : Int))))]) (rs := []) [1, 2, 3, 4, 8, 9, 11, 12, 13, 14, 47] .nil (by kernel_rfl) fun a w hF hE => ?_)
        replace hO := hO.ext hE; clear hE
        rcases Bool.eq_false_or_eq_true (decide ((j : Int) < (n : Int))) with hc5 | hc5
        · refine (W_true ((evOp hF (by kernel_rfl)).trans (congrArg Value.bool hc5)) ?_)
          have hjn := of_decide_eq_true (by assumption : (decide ((j : Int) < (n : Int))) = true)
          have hlotj := hin (xs.getD j default) (getD_mem (by omega))
          refine (W_skip ?_)
          refine W_seq (W_block ?_)
          refine (region_d { sy := [1] } mixed TBok hF (F' := [(1, .slice p n c), (2, .slice wp wn wc), (3, .bool b), (4, .pointer (some ⟨b1, 0, none⟩)), (8, .int .i64 0), (9, .int .i64 q3), (11, .int .i64 (a_ : Int)), (12, .int .i64 (h : Int)), (13, .bool (cond c4 true (takesB d (ws.getD a_ default) (xs.getD j default) (h : Int) b))), (14, .int .i64 (j : Int))]) (rs := [.und (!c4) (.lds ⟨b1, 0, none⟩ [.int .i64 d.hours, .slice v.ha v.hn v.hc, .slice v.la v.ln v.lc, .slice v.wa v.wn v.wc]), .und (!c4) (.idx wp wn (a_ : Int) 4 (adr wp 4 (a_ : Int))), .und (!c4) (.lds (adr wp 4 (a_ : Int)) [.int .i64 ((ws.getD a_ default).kd), .int .i64 ((ws.getD a_ default).fr), .int .i64 ((ws.getD a_ default).to), .int .i64 ((ws.getD a_ default).rt)]), .und (!c4) (.idx p n (j : Int) 1 (adr p 1 (j : Int))), .und (!c4) (.ld (adr p 1 (j : Int)) (.int .i64 (xs.getD j default))), .und (!c4) (.call 61 #[.agg #[.int .i64 d.hours, .slice v.ha v.hn v.hc, .slice v.la v.ln v.lc, .slice v.wa v.wn v.wc], .agg #[.int .i64 ((ws.getD a_ default).kd), .int .i64 ((ws.getD a_ default).fr), .int .i64 ((ws.getD a_ default).to), .int .i64 ((ws.getD a_ default).rt)], .int .i64 (xs.getD j default), .int .i64 (h : Int), .bool b] (.bool (takesB d (ws.getD a_ default) (xs.getD j default) (h : Int) b)))]) [1, 2, 3, 4, 8, 9, 11, 12, 13, 14] (.cons (fun hg => (ldso hO.st 0 rfl 0 rfl)) <| .cons (fun hg => (ix hws (by omega) (by omega))) <| .cons (fun hg => (ldsx hO.st nom hws (by omega) (by omega) rfl)) <| .cons (fun hg => (ix hx (by omega) (by omega))) <| .cons (fun hg => (ldx hO.st nom hx (by omega) (by omega) 0 rfl)) <| .cons (fun hg => (fun w hE => takes_calls d v (ws.getD a_ default) (xs.getD j default) (h : Int) b w (hd.upM (hO.st w hE).kp nom (Nat.le_refl _)) hv (by omega) (by omega))) <| .nil) (by kernel_rfl) (by kernel_rfl) fun a w hF hE => ?_)
          replace hO := hO.ext hE; clear hE
          refine (region_q {} TBok hF (F' := [(1, .slice p n c), (2, .slice wp wn wc), (3, .bool b), (4, .pointer (some ⟨b1, 0, none⟩)), (8, .int .i64 0), (9, .int .i64 q3), (11, .int .i64 (a_ : Int)), (12, .int .i64 (h : Int)), (13, .bool (cond c4 true (takesB d (ws.getD a_ default) (xs.getD j default) (h : Int) b))), (14, .int .i64 ((j : Int) + 1))]) (rs := [.rng ((j : Int) + 1)]) [1, 2, 3, 4, 8, 9, 11, 12, 13, 14] (.cons (rg (by omega)) <| .nil) (by kernel_rfl) fun a w hF hE => ?_)
          replace hO := hO.ext hE; clear hE
          exact ⟨_, by omega, j + 1, _, rfl, by omega, by rw [any_take _ (by omega), ← hc4, ← takes_can hv (by omega) b a_]; cases c4 <;> rfl, hF, hO⟩
        · refine (W_false ((evOp hF (by kernel_rfl)).trans (congrArg Value.bool hc5)) ?_)
          have hjn := of_decide_eq_false (by assumption : (decide ((j : Int) < (n : Int))) = false)
          refine (W_exit ?_)
          refine W_seq (region_q {} TBok hF (F' := [(1, .slice p n c), (2, .slice wp wn wc), (3, .bool b), (4, .pointer (some ⟨b1, 0, none⟩)), (8, .int .i64 0), (9, .int .i64 q3), (11, .int .i64 (a_ : Int)), (12, .int .i64 (h : Int)), (65, .bool c4)]) (rs := []) [1, 2, 3, 4, 8, 9, 11, 12, 65] .nil (by kernel_rfl) fun a w hF hE => ?_)
          replace hO := hO.ext hE; clear hE
          rcases Bool.eq_false_or_eq_true c4 with hc6 | hc6
          · refine (W_true ((evOp hF (by kernel_rfl)).trans (congrArg Value.bool hc6)) ?_)
            have hcov : c4 = cov (dayX d ws) (uB b d) xs ((a_ : Int), (h : Int)) := by rw [hc4, List.take_of_length_le (by omega)]; rfl
            refine (region_q {} TBok hF (F' := [(1, .slice p n c), (2, .slice wp wn wc), (3, .bool b), (4, .pointer (some ⟨b1, 0, none⟩)), (8, .int .i64 0), (9, .int .i64 (q3 - (ws.getD a_ default).rt)), (11, .int .i64 (a_ : Int)), (12, .int .i64 (h : Int))]) (rs := [.idx wp wn (a_ : Int) 4 (adr wp 4 (a_ : Int)), .ld ((adr wp 4 (a_ : Int)).add 3) (.int .i64 ((ws.getD a_ default).rt)), .rng (q3 - (ws.getD a_ default).rt)]) [1, 2, 3, 4, 8, 9, 11, 12] (.cons (ix hws (by omega) (by omega)) <| .cons (ldx hO.st nom hws (by omega) (by omega) 3 rfl) <| .cons (rg (by omega)) <| .nil) (by kernel_rfl) fun a w hF hE => ?_)
            replace hO := hO.ext hE; clear hE
            refine (region_q {} TBok hF (F' := [(1, .slice p n c), (2, .slice wp wn wc), (3, .bool b), (4, .pointer (some ⟨b1, 0, none⟩)), (8, .int .i64 0), (9, .int .i64 (q3 - (ws.getD a_ default).rt)), (11, .int .i64 (a_ : Int)), (12, .int .i64 ((h : Int) + 1))]) (rs := [.rng ((h : Int) + 1)]) [1, 2, 3, 4, 8, 9, 11, 12] (.cons (rg (by omega)) <| .nil) (by kernel_rfl) fun a w hF hE => ?_)
            replace hO := hO.ext hE; clear hE
            exact ⟨_, by omega, h + 1, _, rfl, by omega, by rw [defH_yes (hcov.symm.trans hc6), hq3], by omega, by omega, hF, hO⟩
          · refine (W_false ((evOp hF (by kernel_rfl)).trans (congrArg Value.bool hc6)) ?_)
            have hcov : c4 = cov (dayX d ws) (uB b d) xs ((a_ : Int), (h : Int)) := by rw [hc4, List.take_of_length_le (by omega)]; rfl
            refine (W_skip ?_)
            refine (region_q {} TBok hF (F' := [(1, .slice p n c), (2, .slice wp wn wc), (3, .bool b), (4, .pointer (some ⟨b1, 0, none⟩)), (8, .int .i64 0), (9, .int .i64 q3), (11, .int .i64 (a_ : Int)), (12, .int .i64 ((h : Int) + 1))]) (rs := [.rng ((h : Int) + 1)]) [1, 2, 3, 4, 8, 9, 11, 12] (.cons (rg (by omega)) <| .nil) (by kernel_rfl) fun a w hF hE => ?_)
            replace hO := hO.ext hE; clear hE
            exact ⟨_, by omega, h + 1, _, rfl, by omega, by rw [defH_no (hcov.symm.trans hc6), hq3], by omega, by omega, hF, hO⟩
      · refine (W_false ((evOp hF (by kernel_rfl)).trans (congrArg Value.bool hc4)) ?_)
        have hc4_ := of_decide_eq_false hc4
        refine (W_exit ?_)
        refine (region_q {} TBok hF (F' := [(1, .slice p n c), (2, .slice wp wn wc), (3, .bool b), (4, .pointer (some ⟨b1, 0, none⟩)), (8, .int .i64 0), (9, .int .i64 q3), (11, .int .i64 ((a_ : Int) + 1))]) (rs := [.rng ((a_ : Int) + 1)]) [1, 2, 3, 4, 8, 9, 11] (.cons (rg (by omega)) <| .nil) (by kernel_rfl) fun a w hF hE => ?_)
        replace hO := hO.ext hE; clear hE
        exact ⟨_, by omega, a_ + 1, _, rfl, by omega, by rw [hq3, ← defH_end]; congr 1; omega, by omega, by omega, hF, hO⟩
    · refine (W_false ((evOp hF (by kernel_rfl)).trans (congrArg Value.bool hc3)) ?_)
      have han := of_decide_eq_false (by assumption : (decide ((a_ : Int) < (wn : Int))) = false)
      refine (W_exit ?_)
      refine W_seq (region_q {} TBok hF (F' := [(8, .int .i64 q2)]) (rs := []) [8] .nil (by kernel_rfl) fun a w hF hE => ?_)
      replace hO := hO.ext hE; clear hE
      refine W_ret ?_
      show bodyPostM (FW none) 0 _ _ _ Exit.ret a w
      have haa : a_ = ws.length := by omega
      exact leave_r TBok hF (.nil _) (vs := [.int .i64 q2]) (rs := []) .nil (by kernel_rfl) ⟨by rw [hq2, haa, defW_end]; rfl, hO.kp⟩

end Go.Proofs.Ytioimdegbdkppaa.DK
