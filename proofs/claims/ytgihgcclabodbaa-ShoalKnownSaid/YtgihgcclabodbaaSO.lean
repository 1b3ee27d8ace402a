/- Walks: the closures of Sure. Printed by my gen.py out of shoal/s.py. -/
import Derived.Test.YtgihgcclabodbaaSN
import Derived.Test.YtgihgcclabodbaaSCho
namespace Go.Proofs.Ytgihgcclabodbaa.DK
open Go Go.Proofs
set_option linter.unusedVariables false
set_option linter.unusedSimpArgs false

theorem none_of {α : Type} {r : Option α} (h : r.isSome = false) : r = none := by cases r <;> simp_all
theorem any_at {α : Type} [Inhabited α] {xs : List α} {f : α → Bool} {k : Nat} (h : k < xs.length) (e : f (xs.getD k default) = true) : xs.any f = true := List.any_eq_true.2 ⟨_, getD_mem h, e⟩
theorem encPl_0 : ∀ y, ∃ v, (encPl y)[0]? = some v := fun y => ⟨_, rfl⟩
theorem encCt_0 : ∀ y, ∃ v, (encCt y)[0]? = some v := fun y => ⟨_, rfl⟩
theorem encI_0 : ∀ y, ∃ v, (encI y)[0]? = some v := fun y => ⟨_, rfl⟩
set_option maxHeartbeats 4000000 in
set_option maxRecDepth 100000 in
theorem find_calls (P : List (Int × Int)) (C : List Ct) (sm : List Int) (pa : Option Addr) (pn pc : Nat) (ca : Option Addr) (cn cc : Nat) (sp : Option Addr) (sn sc : Nat) (b12 b13 : Nat) (w0 : World) (hP : Rd encPl 2 w0.heap.size w0 pa pn P) (hC : Rd encCt 3 w0.heap.size w0 ca cn C) (hsm : Rd encI 1 w0.heap.size w0 sp sn sm) (h12 : Ro b12 [.slice pa pn pc] w0) (h13 : Ro b13 [.slice ca cn cc] w0) (hin : ∀ i, i < sm.length → 0 ≤ sm.getD i default ∧ sm.getD i default < C.length) (bP : ∀ i, i < P.length → plB (P.getD i default)) (bC : ∀ i, i < C.length → plB ((C.getD i default).c, (C.getD i default).r)) :
    Calls Try.prog 71 #[.slice sp sn sc, pv b12, pv b13] w0 (fun e w' => e = .returned (.bool (findB P C sm)) ∧ Ext w0 w') := by
  have hl1 := hP.len; have hs1 := hP.size; have hl2 := hC.len; have hs2 := hC.size; have hl3 := hsm.len; have hs3 := hsm.size
  refine calls_of_W Try.func71 rfl (by kernel_rfl) (args := [.slice sp sn sc, pv b12, pv b13]) fun a hF => ?_
  replace hF : Fr 29 [] [(0, .slice sp sn sc), (1, pv b12), (2, pv b13)] a := hF
  have hO : Own w0 none_ [] w0 := Own.start w0 _
  refine W_seq (region_q {} TBok hF (F' := [(0, .slice sp sn sc), (1, pv b12), (2, pv b13), (4, .bool false)]) (rs := []) [0, 1, 2, 4] .nil (by kernel_rfl) fun a w hF hE => ?_)
  replace hO := hO.ext hE; clear hE
  refine (W_scope' ?_)
  refine W_seq (W_label ?_)
  refine W_seq ?_
  refine W_seq (region_q {} TBok hF (F' := [(0, .slice sp sn sc), (2, pv b13), (4, .bool false), (9, .slice pa pn pc), (10, iv (pn : Int)), (11, iv 0)]) (rs := [.ld ⟨b12, 0, none⟩ (.slice pa pn pc)]) [0, 2, 4, 9, 10, 11] (.cons (ldr hO.st h12 (fun h => h) 0 rfl) <| .nil) (by kernel_rfl) fun a w hF hE => ?_)
  replace hO := hO.ext hE; clear hE
  refine (W_block ?_)
  replace hF := hF.sel [0, 2, 9, 10, 11]
  refine (W_loop (fun m a w => ∃ (k : Nat), m = pn - k ∧ k ≤ pn ∧ ((P.take k).all fun p => sm.any fun i => covB (C.getD i.toNat default) p) = true ∧ Fr 29 [] [(0, .slice sp sn sc), (2, pv b13), (9, .slice pa pn pc), (10, iv (pn : Int)), (11, iv (k : Int))] a ∧ Own w0 none_ [] w) _ ⟨0, rfl, Nat.zero_le _, rfl, hF, hO⟩ ?_)
  clear hF hO
  rintro _ a w ⟨k, rfl, hk, hall, hF, hO⟩
  refine W_seq (region_q {} TBok hF (F' := [(0, .slice sp sn sc), (2, pv b13), (9, .slice pa pn pc), (10, iv (pn : Int)), (11, iv (k : Int)), (12, .bool (decide ((k : Int) < (pn : Int))))]) (rs := []) [0, 2, 9, 10, 11, 12] .nil (by kernel_rfl) fun a w hF hE => ?_)
  replace hO := hO.ext hE; clear hE
  rcases Bool.eq_false_or_eq_true (decide ((k : Int) < (pn : Int))) with hc1 | hc1
  · refine W_seq (W_true ((evOp hF (by kernel_rfl)).trans (congrArg Value.bool hc1)) ?_)
    have hc1_ := of_decide_eq_true hc1
    refine (W_skip ?_)
    refine W_seq (W_block ?_)
    refine W_seq (region_seq ?_)
    refine seq_quiet {} TBok hF (F' := [(0, .slice sp sn sc), (2, pv b13), (9, .slice pa pn pc), (10, iv (pn : Int)), (11, iv (k : Int)), (14, .agg #[iv ((P.getD k default).1), iv ((P.getD k default).2)])]) (rs := [.idx pa pn (k : Int) 2 (adr pa 2 (k : Int)), .lds (adr pa 2 (k : Int)) [iv ((P.getD k default).1), iv ((P.getD k default).2)]]) [0, 1] [2, 3] [0, 2, 9, 10, 11, 14] (.cons (ix hP (by omega) (by omega)) <| .cons (ldsx hO.st nom hP (by omega) (by omega) rfl) <| .nil) (by kernel_rfl) fun a w hF hE => ?_
    replace hO := hO.ext hE; clear hE
    refine op_alloc (i := 2) (t := 85) (d := 6) (z := .agg #[iv 0, iv 0]) hF hO (by kernel_rfl) (by kernel_rfl) fun a w b2 hF hO _ => ?_
    refine op_store (i := 3) (t := 85) (p := ⟨b2, 0, none⟩) (v := .agg #[iv ((P.getD k default).1), iv ((P.getD k default).2)]) (off := 0) (sz := 2) (cs' := #[iv ((P.getD k default).1), iv ((P.getD k default).2)]) hF hO (by kernel_rfl) 0 rfl rfl (by kernel_rfl) (by kernel_rfl) (by kernel_rfl) fun a w hF hO _ => ?_
    replace hF := hF.sel [0, 2, 6, 9, 10, 11]
    replace hF : Fr 29 [] [(0, .slice sp sn sc), (2, pv b13), (6, pv b2), (9, .slice pa pn pc), (10, iv (pn : Int)), (11, iv (k : Int))] a := hF
    refine W_seq ?_
    refine W_seq (region_q {} TBok hF (F' := [(0, .slice sp sn sc), (2, pv b13), (6, pv b2), (9, .slice pa pn pc), (10, iv (pn : Int)), (11, iv (k : Int)), (15, .slice sp sn sc), (16, iv (sn : Int)), (17, iv 0)]) (rs := []) [0, 2, 6, 9, 10, 11, 15, 16, 17] .nil (by kernel_rfl) fun a w hF hE => ?_)
    replace hO := hO.ext hE; clear hE
    refine (W_block ?_)
    refine (W_loop (fun m a w => ∃ (m_ : Nat), m = sn - m_ ∧ m_ ≤ sn ∧ (sm.take m_).any (fun i => covB (C.getD i.toNat default) (P.getD k default)) = false ∧ Fr 29 [] [(0, .slice sp sn sc), (2, pv b13), (6, pv b2), (9, .slice pa pn pc), (10, iv (pn : Int)), (11, iv (k : Int)), (15, .slice sp sn sc), (16, iv (sn : Int)), (17, iv (m_ : Int))] a ∧ Own w0 none_ [cel b2 #[iv ((P.getD k default).1), iv ((P.getD k default).2)] 85] w) _ ⟨0, rfl, Nat.zero_le _, rfl, hF, hO⟩ ?_)
    clear hF hO
    rintro _ a w ⟨m_, rfl, hm_, hno, hF, hO⟩
    refine W_seq (region_q {} TBok hF (F' := [(0, .slice sp sn sc), (2, pv b13), (6, pv b2), (9, .slice pa pn pc), (10, iv (pn : Int)), (11, iv (k : Int)), (15, .slice sp sn sc), (16, iv (sn : Int)), (17, iv (m_ : Int)), (18, .bool (decide ((m_ : Int) < (sn : Int))))]) (rs := []) [0, 2, 6, 9, 10, 11, 15, 16, 17, 18] .nil (by kernel_rfl) fun a w hF hE => ?_)
    replace hO := hO.ext hE; clear hE
    rcases Bool.eq_false_or_eq_true (decide ((m_ : Int) < (sn : Int))) with hc3 | hc3
    · refine W_seq (W_true ((evOp hF (by kernel_rfl)).trans (congrArg Value.bool hc3)) ?_)
      have hc3_ := of_decide_eq_true hc3
      refine (W_skip ?_)
      refine W_seq (W_block ?_)
      refine W_seq (region_q {} TBok hF (F' := [(0, .slice sp sn sc), (2, pv b13), (6, pv b2), (8, iv (sm.getD m_ default)), (9, .slice pa pn pc), (10, iv (pn : Int)), (11, iv (k : Int)), (15, .slice sp sn sc), (16, iv (sn : Int)), (17, iv (m_ : Int))]) (rs := [.idx sp sn (m_ : Int) 1 (adr sp 1 (m_ : Int)), .ld (adr sp 1 (m_ : Int)) (iv (sm.getD m_ default))]) [0, 2, 6, 8, 9, 10, 11, 15, 16, 17] (.cons (ix hsm (by omega) (by omega)) <| .cons (ldx hO.st nom hsm (by omega) (by omega) 0 rfl) <| .nil) (by kernel_rfl) fun a w hF hE => ?_)
      replace hO := hO.ext hE; clear hE
      refine W_seq (region_d {} mixed TBok hF (F' := [(0, .slice sp sn sc), (2, pv b13), (6, pv b2), (9, .slice pa pn pc), (10, iv (pn : Int)), (11, iv (k : Int)), (15, .slice sp sn sc), (16, iv (sn : Int)), (17, iv (m_ : Int)), (26, .bool (covB (C.getD (sm.getD m_ default).toNat default) (P.getD k default)))]) (rs := [.ld ⟨b13, 0, none⟩ (.slice ca cn cc), .idx ca cn (sm.getD m_ default) 3 (adr ca 3 (sm.getD m_ default)), .lds (adr ca 3 (sm.getD m_ default)) [iv ((C.getD (sm.getD m_ default).toNat default).c), iv ((C.getD (sm.getD m_ default).toNat default).r), iv ((C.getD (sm.getD m_ default).toNat default).far)], .lds ⟨b2, 0, none⟩ [iv ((P.getD k default).1), iv ((P.getD k default).2)], .call 68 #[.agg #[iv ((C.getD (sm.getD m_ default).toNat default).c), iv ((C.getD (sm.getD m_ default).toNat default).r), iv ((C.getD (sm.getD m_ default).toNat default).far)], .agg #[iv ((P.getD k default).1), iv ((P.getD k default).2)]] (.bool (covB (C.getD (sm.getD m_ default).toNat default) (P.getD k default)))]) [0, 2, 6, 9, 10, 11, 15, 16, 17, 26] (.cons (ldr hO.st h13 (fun h => h) 0 rfl) <| .cons (ix hC (hin m_ (by omega)).1 (by have h_ := hin m_ (by omega); omega)) <| .cons (ldsx hO.st nom hC (hin m_ (by omega)).1 (by have h_ := hin m_ (by omega); omega) rfl) <| .cons (ldso hO.st 0 rfl 0 rfl) <| .cons (fun w hE => covers_calls (C.getD (sm.getD m_ default).toNat default) (P.getD k default) w (bC _ (by have h_ := hin m_ (by omega); omega)) (bP k (by omega))) <| .nil) (by kernel_rfl) (by kernel_rfl) fun a w hF hE => ?_)
      replace hO := hO.ext hE; clear hE
      rcases Bool.eq_false_or_eq_true (covB (C.getD (sm.getD m_ default).toNat default) (P.getD k default)) with hc4 | hc4
      · refine (W_true ((evOp hF (by kernel_rfl)).trans (congrArg Value.bool hc4)) ?_)
        refine (W_exit ?_)
        refine (region_q {} TBok hF (F' := [(0, .slice sp sn sc), (2, pv b13), (9, .slice pa pn pc), (10, iv (pn : Int)), (11, iv ((k : Int) + 1))]) (rs := [.rng ((k : Int) + 1)]) [0, 2, 9, 10, 11] (.cons (rg (by omega)) <| .nil) (by kernel_rfl) fun a w hF hE => ?_)
        replace hO := hO.ext hE; clear hE
        have hany : sm.any (fun i => covB (C.getD i.toNat default) (P.getD k default)) = true := any_at (k := m_) (by omega) hc4
        replace hO := hO.drop1 0
        exact ⟨_, by omega, k + 1, rfl, by omega, by rw [take_all _ (by omega), hall, hany]; rfl, hF, hO⟩
      · refine (W_false ((evOp hF (by kernel_rfl)).trans (congrArg Value.bool hc4)) ?_)
        refine (W_skip ?_)
        refine (region_q {} TBok hF (F' := [(0, .slice sp sn sc), (2, pv b13), (6, pv b2), (9, .slice pa pn pc), (10, iv (pn : Int)), (11, iv (k : Int)), (15, .slice sp sn sc), (16, iv (sn : Int)), (17, iv ((m_ : Int) + 1))]) (rs := [.rng ((m_ : Int) + 1)]) [0, 2, 6, 9, 10, 11, 15, 16, 17] (.cons (rg (by omega)) <| .nil) (by kernel_rfl) fun a w hF hE => ?_)
        replace hO := hO.ext hE; clear hE
        exact ⟨_, by omega, m_ + 1, rfl, by omega, by rw [any_take _ (by omega), hno]; exact hc4, hF, hO⟩
    · refine W_seq (W_false ((evOp hF (by kernel_rfl)).trans (congrArg Value.bool hc3)) ?_)
      have hc3_ := of_decide_eq_false hc3
      refine (W_exit ?_)
      refine W_seq (region_q {} TBok hF (F' := [(0, .slice sp sn sc), (2, pv b13), (4, .bool false), (9, .slice pa pn pc), (10, iv (pn : Int)), (11, iv (k : Int))]) (rs := []) [0, 2, 4, 9, 10, 11] .nil (by kernel_rfl) fun a w hF hE => ?_)
      replace hO := hO.ext hE; clear hE
      refine W_ret ?_
      show bodyPostM (FW none) 0 _ _ _ Exit.ret a w
      rw [List.take_of_length_le (by omega)] at hno
      have hnf : findB P C sm = false := List.all_eq_false.2 ⟨_, getD_mem (show k < P.length by omega), by rw [hno]; simp⟩
      exact leave_r TBok hF (.nil _) (vs := [.bool false]) (rs := []) .nil (by kernel_rfl) ⟨by rw [hnf]; rfl, hO.kp⟩
  · refine W_seq (W_false ((evOp hF (by kernel_rfl)).trans (congrArg Value.bool hc1)) ?_)
    have hc1_ := of_decide_eq_false hc1
    refine (W_exit ?_)
    refine W_seq (region_q {} TBok hF (F' := [(4, .bool true)]) (rs := []) [4] .nil (by kernel_rfl) fun a w hF hE => ?_)
    replace hO := hO.ext hE; clear hE
    refine W_ret ?_
    show bodyPostM (FW none) 0 _ _ _ Exit.ret a w
    rw [List.take_of_length_le (by omega)] at hall
    exact leave_r TBok hF (.nil _) (vs := [.bool true]) (rs := []) .nil (by kernel_rfl) ⟨by rw [findB, hall]; rfl, hO.kp⟩

set_option maxHeartbeats 4000000 in
set_option maxRecDepth 100000 in
theorem choose_0 (P : List (Int × Int)) (C : List Ct) (bd bo b12 b13 bf bc : Nat) (pa : Option Addr) (pn pc : Nat) (ca : Option Addr) (cn cc N n : Nat) (sm : List Int) (sp : Option Addr) (sn sc : Nat) (ov : Value) (w0 : World) (hn0 : n = 0) (hp : ChoPre P C bd bo b12 b13 bf bc pa pn pc ca cn cc N n sm sp sn sc ov w0) :
    Calls Try.prog 72 #[.slice sp sn sc, iv (N : Int), pv bo, pv bf, pv b13, pv bc] w0 (ChoPost P C bd bo n sm w0) := by
  have hl1 := hp.hP.len; have hl2 := hp.hC.len; have hl3 := hp.hs.len; have hn_ := hp.hn; have hN_ := hp.hN; have hc8 := hp.hc8; have hmx : ∀ m, m = bo → m < bd ∨ m = bo := fun m h => .inr h
  refine calls_of_W Try.func72 rfl (by kernel_rfl) (args := [.slice sp sn sc, iv (N : Int), pv bo, pv bf, pv b13, pv bc]) fun a hF => ?_
  replace hF : Fr 48 [] [(0, .slice sp sn sc), (1, iv (N : Int)), (2, pv bo), (3, pv bf), (4, pv b13), (5, pv bc)] a := hF
  have hO : Own w0 (fun k => k = bo) [cel bo #[ov] 22] w0 := hp.own
  refine W_seq (region_q {} TBok hF (F' := [(0, .slice sp sn sc), (1, iv (N : Int)), (2, pv bo), (3, pv bf), (4, pv b13), (5, pv bc), (8, .bool false)]) (rs := []) [0, 1, 2, 3, 4, 5, 8] .nil (by kernel_rfl) fun a w hF hE => ?_)
  replace hO := hO.ext hE; clear hE
  refine W_seq ?_
  refine W_seq (region_q { md := [(3, 1)] } TBok hF (F' := [(0, .slice sp sn sc), (1, iv (N : Int)), (2, pv bo), (3, pv bf), (4, pv b13), (5, pv bc), (8, .bool false), (14, .bool true)]) (rs := [.dec ((sn : Int) == (N : Int)) true]) [0, 1, 2, 3, 4, 5, 8, 14] (.cons (beq_iff_eq.2 (by omega)) <| .nil) (by kernel_rfl) fun a w hF hE => ?_)
  replace hO := hO.ext hE; clear hE
  refine (W_true (evOp hF (by kernel_rfl)) ?_)
  refine W_seq (region_seq ?_)
  refine seq_quiet {} TBok hF (F' := [(0, .slice sp sn sc), (1, iv (N : Int)), (2, pv bo), (3, pv bf), (4, pv b13), (5, pv bc), (8, .bool false), (15, .slice sp sn sc)]) (rs := []) [0] [1] [0, 1, 2, 3, 4, 5, 8, 15] .nil (by kernel_rfl) fun a w hF hE => ?_
  replace hO := hO.ext hE; clear hE
  refine op_store (i := 1) (t := 22) (p := ⟨bo, 0, none⟩) (v := .slice sp sn sc) (off := 0) (sz := 1) (cs' := #[.slice sp sn sc]) hF hO (by kernel_rfl) 0 rfl rfl (by kernel_rfl) (by kernel_rfl) (by kernel_rfl) fun a w hF hO _ => ?_
  replace hF := hF.sel [0, 1, 3, 4, 5, 8]
  replace hF : Fr 48 [] [(0, .slice sp sn sc), (1, iv (N : Int)), (3, pv bf), (4, pv b13), (5, pv bc), (8, .bool false)] a := hF
  refine W_seq (region_q {} TBok hF (F' := [(0, .slice sp sn sc), (1, iv (N : Int)), (4, pv b13), (5, pv bc), (8, .bool (findB P C sm))]) (rs := [.ld ⟨bf, 0, none⟩ (.func (.func 71) #[] #[pv b12, pv b13]), .call 71 #[.slice sp sn sc, pv b12, pv b13] (.bool (findB P C sm))]) [0, 1, 4, 5, 8] (.cons (ldr hO.st hp.rf hp.nf 0 rfl) <| .cons (fun w hE => find_calls P C sm pa pn pc ca cn cc sp sn sc b12 b13 w ((hp.hP.kp (hO.st w hE).kp (fun m h => h)).rd encPl_0) ((hp.hC.kp (hO.st w hE).kp (fun m h => h)).rd encCt_0) ((hp.hs.kp (hO.st w hE).kp (fun m h => .inr h)).rd encI_0) (hp.r12.kp (hO.st w hE).kp hp.n12) (hp.r13.kp (hO.st w hE).kp hp.n13) hp.hin hp.bP hp.bC) <| .nil) (by kernel_rfl) fun a w hF hE => ?_)
  replace hO := hO.ext hE; clear hE
  refine W_ret ?_
  show bodyPostM (FW none) 0 _ _ _ Exit.ret a w
  have hO3 := hO.sel [0] (by decide)
  subst hn0
  have hch : choF P C 0 sm = cond (findB P C sm) (some sm) none := rfl
  exact leave_r TBok hF (.nil _) (vs := [.bool (findB P C sm)]) (rs := []) .nil (by kernel_rfl) ⟨_, hO3, by rw [hch]; cases findB P C sm <;> rfl, fun l hl => by rw [hch] at hl; cases hfb : findB P C sm with | false => rw [hfb] at hl; cases hl | true => rw [hfb] at hl; injection hl with hl; subst hl; exact ⟨_, _, _, rfl, hp.hcap, hp.hs.kp hO.kp (fun m h => .inr h)⟩⟩

set_option maxHeartbeats 4000000 in
set_option maxRecDepth 100000 in
theorem choose_step (P : List (Int × Int)) (C : List Ct) (bd bo b12 b13 bf bc : Nat) (pa : Option Addr) (pn pc : Nat) (ca : Option Addr) (cn cc N n : Nat) (sm : List Int) (sp : Option Addr) (sn sc : Nat) (ov : Value) (w0 : World) (hp : ChoPre P C bd bo b12 b13 bf bc pa pn pc ca cn cc N (n + 1) sm sp sn sc ov w0) (ih : ∀ sm sp sn sc ov w, ChoPre P C bd bo b12 b13 bf bc pa pn pc ca cn cc N n sm sp sn sc ov w → Calls Try.prog 72 #[.slice sp sn sc, iv (N : Int), pv bo, pv bf, pv b13, pv bc] w (ChoPost P C bd bo n sm w)) :
    Calls Try.prog 72 #[.slice sp sn sc, iv (N : Int), pv bo, pv bf, pv b13, pv bc] w0 (ChoPost P C bd bo (n + 1) sm w0) := by
  have hl1 := hp.hP.len; have hl2 := hp.hC.len; have hl3 := hp.hs.len; have hn_ := hp.hn; have hN_ := hp.hN; have hc8 := hp.hc8; have hmx : ∀ m, m = bo → m < bd ∨ m = bo := fun m h => .inr h
  refine calls_of_W Try.func72 rfl (by kernel_rfl) (args := [.slice sp sn sc, iv (N : Int), pv bo, pv bf, pv b13, pv bc]) fun a hF => ?_
  replace hF : Fr 48 [] [(0, .slice sp sn sc), (1, iv (N : Int)), (2, pv bo), (3, pv bf), (4, pv b13), (5, pv bc)] a := hF
  have hO : Own w0 (fun k => k = bo) [cel bo #[ov] 22] w0 := hp.own
  refine W_seq (region_q {} TBok hF (F' := [(0, .slice sp sn sc), (1, iv (N : Int)), (2, pv bo), (3, pv bf), (4, pv b13), (5, pv bc), (8, .bool false)]) (rs := []) [0, 1, 2, 3, 4, 5, 8] .nil (by kernel_rfl) fun a w hF hE => ?_)
  replace hO := hO.ext hE; clear hE
  refine W_seq ?_
  refine W_seq (region_q { md := [(3, 1)] } TBok hF (F' := [(0, .slice sp sn sc), (1, iv (N : Int)), (2, pv bo), (3, pv bf), (4, pv b13), (5, pv bc), (8, .bool false), (14, .bool false)]) (rs := [.dec ((sn : Int) == (N : Int)) false]) [0, 1, 2, 3, 4, 5, 8, 14] (.cons (beq_eq_false_iff_ne.2 (by omega)) <| .nil) (by kernel_rfl) fun a w hF hE => ?_)
  replace hO := hO.ext hE; clear hE
  refine (W_false (evOp hF (by kernel_rfl)) ?_)
  refine (W_skip ?_)
  refine W_seq (region_q {} TBok hF (F' := [(0, .slice sp sn sc), (1, iv (N : Int)), (4, pv b13), (5, pv bc), (8, .bool false), (9, iv 0)]) (rs := []) [0, 1, 4, 5, 8, 9] .nil (by kernel_rfl) fun a w hF hE => ?_)
  replace hO := hO.ext hE; clear hE
  refine W_seq ?_
  refine W_seq (region_q {} TBok hF (F' := [(0, .slice sp sn sc), (1, iv (N : Int)), (4, pv b13), (5, pv bc), (8, .bool false), (9, iv 0), (21, .bool (decide ((sn : Int) > 0)))]) (rs := []) [0, 1, 4, 5, 8, 9, 21] .nil (by kernel_rfl) fun a w hF hE => ?_)
  replace hO := hO.ext hE; clear hE
  rcases Bool.eq_false_or_eq_true (decide ((sn : Int) > 0)) with hc1 | hc1
  · refine (W_true ((evOp hF (by kernel_rfl)).trans (congrArg Value.bool hc1)) ?_)
    have hgt := of_decide_eq_true (by assumption : (decide ((sn : Int) > 0)) = true)
    have hls := hp.hin ((sn : Int) - 1).toNat (by omega)
    have hfr : fromI sm = sm.getD ((sn : Int) - 1).toNat default + 1 := by rw [fromI, hl3, decide_eq_true hgt]; rfl
    refine (region_q {} TBok hF (F' := [(0, .slice sp sn sc), (1, iv (N : Int)), (4, pv b13), (5, pv bc), (8, .bool false), (9, iv ((sm.getD ((sn : Int) - 1).toNat default) + 1))]) (rs := [.rng ((sn : Int) - 1), .idx sp sn ((sn : Int) - 1) 1 (adr sp 1 ((sn : Int) - 1)), .ld (adr sp 1 ((sn : Int) - 1)) (iv (sm.getD ((sn : Int) - 1).toNat default)), .rng ((sm.getD ((sn : Int) - 1).toNat default) + 1)]) [0, 1, 4, 5, 8, 9] (.cons (rg (by omega)) <| .cons (ixX hp.hs (by omega) (by omega)) <| .cons (ldxX hO.st hmx hp.hs (by omega) (by omega) 0 rfl) <| .cons (rg (by omega)) <| .nil) (by kernel_rfl) fun a w hF hE => ?_)
    replace hO := hO.ext hE; clear hE
    refine W_seq ?_
    refine W_seq (region_q {} TBok hF (F' := [(0, .slice sp sn sc), (1, iv (N : Int)), (4, pv b13), (5, pv bc), (8, .bool false), (10, iv ((sm.getD ((sn : Int) - 1).toNat default) + 1))]) (rs := []) [0, 1, 4, 5, 8, 10] .nil (by kernel_rfl) fun a w hF hE => ?_)
    replace hO := hO.ext hE; clear hE
    refine (W_block ?_)
    replace hF := hF.sel [0, 1, 4, 5, 10]
    refine (W_loop (fun m a w => ∃ (x : Int), ∃ (ov1 : Value), m = (8 - x).toNat ∧ (0 ≤ x ∧ x ≤ 8) ∧ choL (choF P C n) sm ((C.length : Int) - x).toNat x = choF P C (n + 1) sm ∧ Fr 48 [] [(0, .slice sp sn sc), (1, iv (N : Int)), (4, pv b13), (5, pv bc), (10, iv x)] a ∧ Own w0 (fun k => k = bo) [cel bo #[ov1] 22] w) _ ⟨_, ov, rfl, (by have h_ := hp.from; rw [hfr] at h_; omega), (by rw [← hfr]; rfl), hF, hO⟩ ?_)
    clear hF hO
    rintro _ a w ⟨x, ov1, rfl, hx0, hcho, hF, hO⟩
    refine W_seq ?_
    refine W_seq (region_q {} TBok hF (F' := [(0, .slice sp sn sc), (1, iv (N : Int)), (4, pv b13), (5, pv bc), (10, iv x), (33, .bool (decide (x < (cn : Int))))]) (rs := [.ld ⟨b13, 0, none⟩ (.slice ca cn cc)]) [0, 1, 4, 5, 10, 33] (.cons (ldr hO.st hp.r13 hp.n13 0 rfl) <| .nil) (by kernel_rfl) fun a w hF hE => ?_)
    replace hO := hO.ext hE; clear hE
    rcases Bool.eq_false_or_eq_true (decide (x < (cn : Int))) with hc2 | hc2
    · refine (W_true ((evOp hF (by kernel_rfl)).trans (congrArg Value.bool hc2)) ?_)
      have hc2_ := of_decide_eq_true hc2
      refine (W_skip ?_)
      refine W_seq (W_block ?_)
      refine W_seq (draw_start (R := (selR [cel bo #[ov1] 22] [0])) mixed [] 12 (by kernel_rfl) fun w hS => ?_)
      replace hO := hO.ext hS
      have hH := hO.butL [0]; replace hS := Ext.kp (M := (selR [cel bo #[ov1] 22] [0])) hS
      refine draw_q { md := [(6, 3)] } TBok hF hS (F' := [(0, .slice sp sn sc), (1, iv (N : Int)), (4, pv b13), (5, pv bc), (10, iv x), (36, .func (.func 72) #[] #[pv bo, pv bf, pv b13, pv bc]), (42, .slice sp sn sn), (43, iv x), (46, iv (N : Int))]) (rs := [.ld ⟨bc, 0, none⟩ (.func (.func 72) #[] #[pv bo, pv bf, pv b13, pv bc]), .raw (Instr.sliceAt 22 (.slice sp sn sc) none (some (iv (sn : Int))) (some (iv (sn : Int)))) (.slice sp sn sn)]) [0, 1, 2, 3, 4, 5, 6, 7, 10] 12 3 (by kernel_rfl) #[true, true, true, true, true, true, true, true, false, false, true, false] [0, 1, 4, 5, 10, 36, 42, 43, 46] (.cons (ldr hH hp.rc hp.nc 0 rfl) <| .cons (raw_sliceCap rowT22 hp.hcap) <| .nil) (by kernel_rfl) (by kernel_rfl) fun a hF => ?_
      replace hS := Kp.refl (selR [cel bo #[ov1] 22] [0]) w
      refine any_pick (rs := [8]) (by kernel_rfl) (by simp) fun w hE => all1 ?_
      replace hO := hO.ext hE; replace hS := hS.trans (Ext.kp hE)
      refine op_bsl (i := 8) (t := 22) (e := 3) (len := 1) (ps := [(0, iv x)]) (d := 44) (sz := 1) (cs := #[iv x]) (z := iv 0) hF hO (by kernel_rfl) (by kernel_rfl) (by kernel_rfl) (by kernel_rfl) (by kernel_rfl) fun a w b3 hF hO hx => ⟨.inr (hS.trans (Ext.kp hx.1)), ?_⟩
      have hf_b3 := Nat.le_trans hS.size hx.2; replace hS := hS.trans (Ext.kp hx.1); clear hx
      refine any_pick (rs := [9]) (by kernel_rfl) (by simp) fun w hE => all1 ?_
      replace hO := hO.ext hE; replace hS := hS.trans (Ext.kp hE)
      refine op_appA (i := 9) (t := 22) (ty := 22) (e := 3) (d := 45) rowT22 (fun _ => rfl) hF hO (by kernel_rfl) (((hp.hs.kp hO.kp (fun m h => .inr h)).rd encI_0)) (hp.hs.rd encI_0).nil 1 rfl (by kernel_rfl) (by omega) fun a w p4 c5 hF hO hx => ⟨.inr (hS.trans (Ext.kp hx)), ?_⟩
      replace hS := hS.trans (Ext.kp hx)
      clear hx
      refine any_pick (rs := [11]) (by kernel_rfl) (by simp) fun w hE => all1 ?_
      replace hO := hO.ext hE; replace hS := hS.trans (Ext.kp hE)
      replace hO : Own w0 (fun k => k = bo) [cel bo #[ov1] 22, cel b3 #[iv x] 3, rowR 3 1 (.slice p4 (sn + 1) c5) (sn + 1) ((sm.flatMap encI) ++ (#[iv x] : Array Value).toList)] w := hO
      replace hO : Own w0 (fun k => k = bo) [cel bo #[ov1] 22, cel b3 #[iv x] 3, rowR 3 1 (.slice p4 (sn + 1) c5) (sn + 1) ((sm ++ [x]).flatMap encI)] w := hO.cast (by rw [List.flatMap_append] <;> rfl)
      have hx_ : RdX (fun m => m < bd ∨ m = bo) encI 1 w p4 (sn + 1) (sm ++ [x]) := rdx_row (fun _ => rfl) (by decide) hO 2 0 0 rfl rfl rfl ⟨by decide, by decide⟩ (fun m h => h.elim (fun h => .inr (.inr h)) .inl) hp.hb (fun m h => .inl h) (by omega)
      have hpre := hp.step hO 0 rfl (x := x) (by omega) (row_cap hO 2 rfl).1 hx_
      replace hO := hO.sel [1, 2, 0] (by decide)
      refine op_call (i := 11) (f := 72) (args := #[.slice p4 (sn + 1) c5, iv (N : Int), pv bo, pv bf, pv b13, pv bc]) (d := some 47) TBok (by kernel_rfl) hF (by kernel_rfl) (ih _ _ _ _ _ _ hpre) fun e w hR => ?_
      obtain ⟨ov2, hO2, he, hg⟩ := hR
      refine ⟨_, he, fun a hF => ⟨.inr (hS.trans (hO2.kp.mono fun _ _ h => ⟨0, rfl, _, rfl, h⟩)), ?_⟩⟩
      replace hS := hS.trans (hO2.kp.mono fun _ _ h => ⟨0, rfl, _, rfl, h⟩)
      replace hO := Own.join (L1 := [cel b3 #[iv x] 3, rowR 3 1 (.slice p4 (sn + 1) c5) (sn + 1) ((sm ++ [x]).flatMap encI)]) (L2 := [cel bo #[ov1] 22]) hO hO2 (fun m hm => ⟨_, List.mem_singleton.2 rfl, hm⟩); clear hO2 he hpre hx_
      replace hO := hO.sel [2, 0, 1] (by decide)
      refine any_done (by kernel_rfl) (fun w hE => ?_) _
      replace hO := hO.ext hE; replace hg := hg.ext hE
      replace hF := hF.sel [0, 1, 4, 5, 10, 47]
      replace hF : Fr 48 [] [(0, .slice sp sn sc), (1, iv (N : Int)), (4, pv b13), (5, pv bc), (10, iv x), (47, .bool ((choF P C n (sm ++ [x])).isSome))] a := hF
      rcases Bool.eq_false_or_eq_true ((choF P C n (sm ++ [x])).isSome) with hc6 | hc6
      · refine (W_true ((evOp hF (by kernel_rfl)).trans (congrArg Value.bool hc6)) ?_)
        refine W_seq (region_q {} TBok hF (F' := [(0, .slice sp sn sc), (1, iv (N : Int)), (4, pv b13), (5, pv bc), (8, .bool true), (10, iv x)]) (rs := []) [0, 1, 4, 5, 8, 10] .nil (by kernel_rfl) fun a w hF hE => ?_)
        replace hO := hO.ext hE; replace hg := hg.ext hE; clear hE
        refine W_ret ?_
        show bodyPostM (FW none) 0 _ _ _ Exit.ret a w
        have hO3 := hO.sel [0] (by decide)
        obtain ⟨l, hcf⟩ := Option.isSome_iff_exists.1 hc6
        rw [choL_hit (by omega) hcf] at hcho
        exact leave_r TBok hF (.nil _) (vs := [.bool true]) (rs := []) .nil (by kernel_rfl) ⟨_, hO3, by rw [← hcho]; rfl, fun l2 hl2 => hg l2 (by rw [hcf, hcho]; exact hl2)⟩
      · refine (W_false ((evOp hF (by kernel_rfl)).trans (congrArg Value.bool hc6)) ?_)
        refine (W_skip ?_)
        refine (region_q {} TBok hF (F' := [(0, .slice sp sn sc), (1, iv (N : Int)), (4, pv b13), (5, pv bc), (10, iv (x + 1))]) (rs := [.rng (x + 1)]) [0, 1, 4, 5, 10] (.cons (rg (by omega)) <| .nil) (by kernel_rfl) fun a w hF hE => ?_)
        replace hO := hO.ext hE; replace hg := hg.ext hE; clear hE
        rw [choL_miss (by omega) (none_of hc6)] at hcho
        replace hO := hO.drop1 2
        replace hO := hO.drop1 1
        exact ⟨_, by omega, x + 1, ov2, rfl, by omega, hcho, hF, hO⟩
    · refine (W_false ((evOp hF (by kernel_rfl)).trans (congrArg Value.bool hc2)) ?_)
      have hc2_ := of_decide_eq_false hc2
      refine (W_exit ?_)
      refine W_seq (region_q {} TBok hF (F' := [(8, .bool false)]) (rs := []) [8] .nil (by kernel_rfl) fun a w hF hE => ?_)
      replace hO := hO.ext hE; clear hE
      refine W_ret ?_
      show bodyPostM (FW none) 0 _ _ _ Exit.ret a w
      have hO3 := hO.sel [0] (by decide)
      rw [choL_end (by omega)] at hcho
      exact leave_r TBok hF (.nil _) (vs := [.bool false]) (rs := []) .nil (by kernel_rfl) ⟨_, hO3, by rw [← hcho]; rfl, fun l2 hl2 => by rw [← hcho] at hl2; cases hl2⟩
  · refine (W_false ((evOp hF (by kernel_rfl)).trans (congrArg Value.bool hc1)) ?_)
    have hgt := of_decide_eq_false (by assumption : (decide ((sn : Int) > 0)) = false)
    have hfr : fromI sm = 0 := by rw [fromI, hl3, decide_eq_false hgt]; rfl
    refine (W_skip ?_)
    refine W_seq ?_
    refine W_seq (region_q {} TBok hF (F' := [(0, .slice sp sn sc), (1, iv (N : Int)), (4, pv b13), (5, pv bc), (8, .bool false), (10, iv 0)]) (rs := []) [0, 1, 4, 5, 8, 10] .nil (by kernel_rfl) fun a w hF hE => ?_)
    replace hO := hO.ext hE; clear hE
    refine (W_block ?_)
    replace hF := hF.sel [0, 1, 4, 5, 10]
    refine (W_loop (fun m a w => ∃ (x : Int), ∃ (ov1 : Value), m = (8 - x).toNat ∧ (0 ≤ x ∧ x ≤ 8) ∧ choL (choF P C n) sm ((C.length : Int) - x).toNat x = choF P C (n + 1) sm ∧ Fr 48 [] [(0, .slice sp sn sc), (1, iv (N : Int)), (4, pv b13), (5, pv bc), (10, iv x)] a ∧ Own w0 (fun k => k = bo) [cel bo #[ov1] 22] w) _ ⟨_, ov, rfl, (by have h_ := hp.from; rw [hfr] at h_; omega), (by rw [← hfr]; rfl), hF, hO⟩ ?_)
    clear hF hO
    rintro _ a w ⟨x, ov1, rfl, hx0, hcho, hF, hO⟩
    refine W_seq ?_
    refine W_seq (region_q {} TBok hF (F' := [(0, .slice sp sn sc), (1, iv (N : Int)), (4, pv b13), (5, pv bc), (10, iv x), (33, .bool (decide (x < (cn : Int))))]) (rs := [.ld ⟨b13, 0, none⟩ (.slice ca cn cc)]) [0, 1, 4, 5, 10, 33] (.cons (ldr hO.st hp.r13 hp.n13 0 rfl) <| .nil) (by kernel_rfl) fun a w hF hE => ?_)
    replace hO := hO.ext hE; clear hE
    rcases Bool.eq_false_or_eq_true (decide (x < (cn : Int))) with hc7 | hc7
    · refine (W_true ((evOp hF (by kernel_rfl)).trans (congrArg Value.bool hc7)) ?_)
      have hc7_ := of_decide_eq_true hc7
      refine (W_skip ?_)
      refine W_seq (W_block ?_)
      refine W_seq (draw_start (R := (selR [cel bo #[ov1] 22] [0])) mixed [] 12 (by kernel_rfl) fun w hS => ?_)
      replace hO := hO.ext hS
      have hH := hO.butL [0]; replace hS := Ext.kp (M := (selR [cel bo #[ov1] 22] [0])) hS
      refine draw_q { md := [(6, 3)] } TBok hF hS (F' := [(0, .slice sp sn sc), (1, iv (N : Int)), (4, pv b13), (5, pv bc), (10, iv x), (36, .func (.func 72) #[] #[pv bo, pv bf, pv b13, pv bc]), (42, .slice sp sn sn), (43, iv x), (46, iv (N : Int))]) (rs := [.ld ⟨bc, 0, none⟩ (.func (.func 72) #[] #[pv bo, pv bf, pv b13, pv bc]), .raw (Instr.sliceAt 22 (.slice sp sn sc) none (some (iv (sn : Int))) (some (iv (sn : Int)))) (.slice sp sn sn)]) [0, 1, 2, 3, 4, 5, 6, 7, 10] 12 3 (by kernel_rfl) #[true, true, true, true, true, true, true, true, false, false, true, false] [0, 1, 4, 5, 10, 36, 42, 43, 46] (.cons (ldr hH hp.rc hp.nc 0 rfl) <| .cons (raw_sliceCap rowT22 hp.hcap) <| .nil) (by kernel_rfl) (by kernel_rfl) fun a hF => ?_
      replace hS := Kp.refl (selR [cel bo #[ov1] 22] [0]) w
      refine any_pick (rs := [8]) (by kernel_rfl) (by simp) fun w hE => all1 ?_
      replace hO := hO.ext hE; replace hS := hS.trans (Ext.kp hE)
      refine op_bsl (i := 8) (t := 22) (e := 3) (len := 1) (ps := [(0, iv x)]) (d := 44) (sz := 1) (cs := #[iv x]) (z := iv 0) hF hO (by kernel_rfl) (by kernel_rfl) (by kernel_rfl) (by kernel_rfl) (by kernel_rfl) fun a w b8 hF hO hx => ⟨.inr (hS.trans (Ext.kp hx.1)), ?_⟩
      have hf_b8 := Nat.le_trans hS.size hx.2; replace hS := hS.trans (Ext.kp hx.1); clear hx
      refine any_pick (rs := [9]) (by kernel_rfl) (by simp) fun w hE => all1 ?_
      replace hO := hO.ext hE; replace hS := hS.trans (Ext.kp hE)
      refine op_appA (i := 9) (t := 22) (ty := 22) (e := 3) (d := 45) rowT22 (fun _ => rfl) hF hO (by kernel_rfl) (((hp.hs.kp hO.kp (fun m h => .inr h)).rd encI_0)) (hp.hs.rd encI_0).nil 1 rfl (by kernel_rfl) (by omega) fun a w p9 c10 hF hO hx => ⟨.inr (hS.trans (Ext.kp hx)), ?_⟩
      replace hS := hS.trans (Ext.kp hx)
      clear hx
      refine any_pick (rs := [11]) (by kernel_rfl) (by simp) fun w hE => all1 ?_
      replace hO := hO.ext hE; replace hS := hS.trans (Ext.kp hE)
      replace hO : Own w0 (fun k => k = bo) [cel bo #[ov1] 22, cel b8 #[iv x] 3, rowR 3 1 (.slice p9 (sn + 1) c10) (sn + 1) ((sm.flatMap encI) ++ (#[iv x] : Array Value).toList)] w := hO
      replace hO : Own w0 (fun k => k = bo) [cel bo #[ov1] 22, cel b8 #[iv x] 3, rowR 3 1 (.slice p9 (sn + 1) c10) (sn + 1) ((sm ++ [x]).flatMap encI)] w := hO.cast (by rw [List.flatMap_append] <;> rfl)
      have hx_ : RdX (fun m => m < bd ∨ m = bo) encI 1 w p9 (sn + 1) (sm ++ [x]) := rdx_row (fun _ => rfl) (by decide) hO 2 0 0 rfl rfl rfl ⟨by decide, by decide⟩ (fun m h => h.elim (fun h => .inr (.inr h)) .inl) hp.hb (fun m h => .inl h) (by omega)
      have hpre := hp.step hO 0 rfl (x := x) (by omega) (row_cap hO 2 rfl).1 hx_
      replace hO := hO.sel [1, 2, 0] (by decide)
      refine op_call (i := 11) (f := 72) (args := #[.slice p9 (sn + 1) c10, iv (N : Int), pv bo, pv bf, pv b13, pv bc]) (d := some 47) TBok (by kernel_rfl) hF (by kernel_rfl) (ih _ _ _ _ _ _ hpre) fun e w hR => ?_
      obtain ⟨ov2, hO2, he, hg⟩ := hR
      refine ⟨_, he, fun a hF => ⟨.inr (hS.trans (hO2.kp.mono fun _ _ h => ⟨0, rfl, _, rfl, h⟩)), ?_⟩⟩
      replace hS := hS.trans (hO2.kp.mono fun _ _ h => ⟨0, rfl, _, rfl, h⟩)
      replace hO := Own.join (L1 := [cel b8 #[iv x] 3, rowR 3 1 (.slice p9 (sn + 1) c10) (sn + 1) ((sm ++ [x]).flatMap encI)]) (L2 := [cel bo #[ov1] 22]) hO hO2 (fun m hm => ⟨_, List.mem_singleton.2 rfl, hm⟩); clear hO2 he hpre hx_
      replace hO := hO.sel [2, 0, 1] (by decide)
      refine any_done (by kernel_rfl) (fun w hE => ?_) _
      replace hO := hO.ext hE; replace hg := hg.ext hE
      replace hF := hF.sel [0, 1, 4, 5, 10, 47]
      replace hF : Fr 48 [] [(0, .slice sp sn sc), (1, iv (N : Int)), (4, pv b13), (5, pv bc), (10, iv x), (47, .bool ((choF P C n (sm ++ [x])).isSome))] a := hF
      rcases Bool.eq_false_or_eq_true ((choF P C n (sm ++ [x])).isSome) with hc11 | hc11
      · refine (W_true ((evOp hF (by kernel_rfl)).trans (congrArg Value.bool hc11)) ?_)
        refine W_seq (region_q {} TBok hF (F' := [(0, .slice sp sn sc), (1, iv (N : Int)), (4, pv b13), (5, pv bc), (8, .bool true), (10, iv x)]) (rs := []) [0, 1, 4, 5, 8, 10] .nil (by kernel_rfl) fun a w hF hE => ?_)
        replace hO := hO.ext hE; replace hg := hg.ext hE; clear hE
        refine W_ret ?_
        show bodyPostM (FW none) 0 _ _ _ Exit.ret a w
        have hO3 := hO.sel [0] (by decide)
        obtain ⟨l, hcf⟩ := Option.isSome_iff_exists.1 hc11
        rw [choL_hit (by omega) hcf] at hcho
        exact leave_r TBok hF (.nil _) (vs := [.bool true]) (rs := []) .nil (by kernel_rfl) ⟨_, hO3, by rw [← hcho]; rfl, fun l2 hl2 => hg l2 (by rw [hcf, hcho]; exact hl2)⟩
      · refine (W_false ((evOp hF (by kernel_rfl)).trans (congrArg Value.bool hc11)) ?_)
        refine (W_skip ?_)
        refine (region_q {} TBok hF (F' := [(0, .slice sp sn sc), (1, iv (N : Int)), (4, pv b13), (5, pv bc), (10, iv (x + 1))]) (rs := [.rng (x + 1)]) [0, 1, 4, 5, 10] (.cons (rg (by omega)) <| .nil) (by kernel_rfl) fun a w hF hE => ?_)
        replace hO := hO.ext hE; replace hg := hg.ext hE; clear hE
        rw [choL_miss (by omega) (none_of hc11)] at hcho
        replace hO := hO.drop1 2
        replace hO := hO.drop1 1
        exact ⟨_, by omega, x + 1, ov2, rfl, by omega, hcho, hF, hO⟩
    · refine (W_false ((evOp hF (by kernel_rfl)).trans (congrArg Value.bool hc7)) ?_)
      have hc7_ := of_decide_eq_false hc7
      refine (W_exit ?_)
      refine W_seq (region_q {} TBok hF (F' := [(8, .bool false)]) (rs := []) [8] .nil (by kernel_rfl) fun a w hF hE => ?_)
      replace hO := hO.ext hE; clear hE
      refine W_ret ?_
      show bodyPostM (FW none) 0 _ _ _ Exit.ret a w
      have hO3 := hO.sel [0] (by decide)
      rw [choL_end (by omega)] at hcho
      exact leave_r TBok hF (.nil _) (vs := [.bool false]) (rs := []) .nil (by kernel_rfl) ⟨_, hO3, by rw [← hcho]; rfl, fun l2 hl2 => by rw [← hcho] at hl2; cases hl2⟩

theorem choose_calls (P : List (Int × Int)) (C : List Ct) (bd bo b12 b13 bf bc : Nat) (pa : Option Addr) (pn pc : Nat) (ca : Option Addr) (cn cc N : Nat) : ∀ (n : Nat) (sm : List Int) (sp : Option Addr) (sn sc : Nat) (ov : Value) (w : World), ChoPre P C bd bo b12 b13 bf bc pa pn pc ca cn cc N n sm sp sn sc ov w → Calls Try.prog 72 #[.slice sp sn sc, iv (N : Int), pv bo, pv bf, pv b13, pv bc] w (ChoPost P C bd bo n sm w)
  | 0, sm, sp, sn, sc, ov, w, hp => choose_0 P C bd bo b12 b13 bf bc pa pn pc ca cn cc N 0 sm sp sn sc ov w rfl hp
  | n + 1, sm, sp, sn, sc, ov, w, hp => choose_step P C bd bo b12 b13 bf bc pa pn pc ca cn cc N n sm sp sn sc ov w hp (fun sm sp sn sc ov w => choose_calls P C bd bo b12 b13 bf bc pa pn pc ca cn cc N n sm sp sn sc ov w)

end Go.Proofs.Ytgihgcclabodbaa.DK
