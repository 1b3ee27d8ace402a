/- Walks: the fewest casts that surely find. Printed by my gen.py out of shoal/t.py. -/
import Derived.Test.YtgihgcclabodbaaSO
namespace Go.Proofs.Ytgihgcclabodbaa.DK
open Go Go.Proofs
set_option linter.unusedVariables false
set_option linter.unusedSimpArgs false

set_option maxHeartbeats 4000000 in
set_option maxRecDepth 100000 in
theorem Sure_calls (s : Sea) (v : SV) (rs : List Rp) (p : Option Addr) (n c : Nat) (wr h : Int) (cs : List Cs) (cp : Option Addr) (cn cc : Nat) (w0 : World) (hs : SeaR w0.heap.size w0 v s) (hx : Rd encRp 4 w0.heap.size w0 p n rs) (hcs : Rd encCs 2 w0.heap.size w0 cp cn cs) (hci : ∀ i, i < cs.length → i64 (cs.getD i default).cell) (hcn : cn ≤ 8796093022207) :
    Calls Try.prog 30 #[.agg (sS6 s v), .slice p n c, iv wr, iv h, .slice cp cn cc] w0 (fun e w' => ∃ p n c_, (sureR s rs wr h cs).1.length = n ∧ e = .returned (.tuple #[.slice p n c_, iv (sureR s rs wr h cs).2]) ∧ Own w0 none_ [rdR encI 1 p n (sureR s rs wr h cs).1] w') := by
  have hl1 := hs.land.len; have hl2 := hs.drift.len; have hs1 := hs.land.size; have hs2 := hs.drift.size; have hr_ := hs.rg; unfold i64 at hr_; have hl3 := hx.len; have hs3 := hx.size; have hl4 := hcs.len; have hs4 := hcs.size
  refine calls_of_W Try.func30 rfl (by kernel_rfl) (args := [.agg (sS6 s v), .slice p n c, iv wr, iv h, .slice cp cn cc]) fun a hF => ?_
  replace hF : Fr 45 [] [(0, .agg (sS6 s v)), (1, .slice p n c), (2, iv wr), (3, iv h), (4, .slice cp cn cc)] a := hF
  have hO : Own w0 none_ [] w0 := Own.start w0 _
  refine W_seq (region_seq ?_)
  refine op_box (i := 0) (t := 25) (v := .agg (sS6 s v)) (d := 5) hF hO (by kernel_rfl) fun a w b1 hF hO _ => ?_
  refine seq_quiet {} TBok hF (F' := [(1, .slice p n c), (2, iv wr), (3, iv h), (4, .slice cp cn cc), (5, pv b1), (10, .slice none 0 0), (11, iv 0)]) (rs := []) [1, 2] [] [1, 2, 3, 4, 5, 10, 11] .nil (by kernel_rfl) fun a w hF hE => ?_
  replace hO := hO.ext hE; clear hE
  refine W_seq (region_seq ?_)
  refine seq_quiet {} TBok hF (F' := [(10, .slice none 0 0), (11, iv 0), (20, .agg (sS6 s v)), (21, .slice p n c), (22, iv wr), (23, iv h), (24, .slice cp cn cc)]) (rs := [.lds ⟨b1, 0, none⟩ (sL6 s v)]) [0, 1, 2, 3, 4] [5, 6, 7, 8, 9, 10, 11, 12, 13, 14] [10, 11, 20, 21, 22, 23, 24] (.cons (ldso hO.st 0 rfl 0 rfl) <| .nil) (by kernel_rfl) fun a w hF hE => ?_
  replace hO := hO.ext hE; clear hE
  refine op_call (i := 5) (f := 67) (args := #[.agg (sS6 s v), .slice p n c, iv wr, iv h, .slice cp cn cc]) (d := some 25) TBok (by kernel_rfl) hF (by kernel_rfl) (asked_calls s v rs p n c wr h cs cp cn cc _ (hs.upM hO.kp nom (Nat.le_refl _)) (hx.upM hO.kp nom (Nat.le_refl _)) (hcs.upM hO.kp nom (Nat.le_refl _)) hci hcn) fun e w hR => ?_
  obtain ⟨p2, n3, c4, p5, n6, c7, hn8, hn9, he, hO2⟩ := hR
  refine ⟨_, he, fun a hF => ?_⟩
  replace hO := hO.joinE hO2; clear hO2 he
  refine seq_quiet {} TBok hF (F' := [(10, .slice none 0 0), (11, iv 0), (26, .slice p2 n3 c4), (27, .slice p5 n6 c7), (28, iv ((askedR s rs wr h cs).2.2))]) (rs := []) [6, 7, 8, 9] [10, 11, 12, 13, 14] [10, 11, 26, 27, 28] .nil (by kernel_rfl) fun a w hF hE => ?_
  replace hO := hO.ext hE; clear hE
  refine op_alloc (i := 10) (t := 108) (d := 12) (z := .slice none 0 0) hF hO (by kernel_rfl) (by kernel_rfl) fun a w b10 hF hO _ => ?_
  refine op_alloc (i := 11) (t := 109) (d := 13) (z := .slice none 0 0) hF hO (by kernel_rfl) (by kernel_rfl) fun a w b11 hF hO _ => ?_
  replace hO : Own w0 none_ [cel b1 (sS6 s v) 25, rdR encPl 2 p2 n3 (askedR s rs wr h cs).1, rdR encCt 3 p5 n6 (askedR s rs wr h cs).2.1, cel b10 #[.slice none 0 0] 108, cel b11 #[.slice none 0 0] 109] w := hO
  refine op_store (i := 12) (t := 108) (p := ⟨b10, 0, none⟩) (v := .slice p2 n3 c4) (off := 0) (sz := 1) (cs' := #[.slice p2 n3 c4]) hF hO (by kernel_rfl) 3 rfl rfl (by kernel_rfl) (by kernel_rfl) (by kernel_rfl) fun a w hF hO _ => ?_
  refine op_store (i := 13) (t := 109) (p := ⟨b11, 0, none⟩) (v := .slice p5 n6 c7) (off := 0) (sz := 1) (cs' := #[.slice p5 n6 c7]) hF hO (by kernel_rfl) 4 rfl rfl (by kernel_rfl) (by kernel_rfl) (by kernel_rfl) fun a w hF hO _ => ?_
  refine seq_quiet {} TBok hF (F' := [(10, .slice none 0 0), (11, iv 0), (12, pv b10), (13, pv b11), (14, iv ((askedR s rs wr h cs).2.2))]) (rs := []) [14] [] [10, 11, 12, 13, 14] .nil (by kernel_rfl) fun a w hF hE => ?_
  replace hO := hO.ext hE; clear hE
  refine W_seq ?_
  refine W_seq (region_q {} TBok hF (F' := [(10, .slice none 0 0), (11, iv 0), (12, pv b10), (13, pv b11), (14, iv ((askedR s rs wr h cs).2.2)), (30, .bool ((askedR s rs wr h cs).2.2 != 0))]) (rs := []) [10, 11, 12, 13, 14, 30] .nil (by kernel_rfl) fun a w hF hE => ?_)
  replace hO := hO.ext hE; clear hE
  rcases Bool.eq_false_or_eq_true ((askedR s rs wr h cs).2.2 != 0) with hc12 | hc12
  · refine (W_true ((evOp hF (by kernel_rfl)).trans (congrArg Value.bool hc12)) ?_)
    have hz := (by assumption : ((askedR s rs wr h cs).2.2 != 0) = true)
    refine W_seq (region_q {} TBok hF (F' := [(10, .slice none 0 0), (11, iv ((askedR s rs wr h cs).2.2)), (12, pv b10), (13, pv b11)]) (rs := []) [10, 11, 12, 13] .nil (by kernel_rfl) fun a w hF hE => ?_)
    replace hO := hO.ext hE; clear hE
    refine W_ret ?_
    show bodyPostM (FW none) 0 _ _ _ Exit.ret a w
    have hres : sureR s rs wr h cs = ([], (askedR s rs wr h cs).2.2) := by unfold sureR; rw [if_pos (by simpa using hz)]
    exact leave_r TBok hF (.nil _) (vs := [.slice none 0 0, iv ((askedR s rs wr h cs).2.2)]) (rs := []) .nil (by kernel_rfl) ⟨none, 0, 0, by rw [hres]; rfl, by rw [hres]; rfl, by rw [hres]; exact (hO.nilRd encI 1).sel [5] (by decide)⟩
  · refine (W_false ((evOp hF (by kernel_rfl)).trans (congrArg Value.bool hc12)) ?_)
    have hz : (askedR s rs wr h cs).2.2 = 0 := by have h_ := (by assumption : ((askedR s rs wr h cs).2.2 != 0) = false); simpa using h_
    have hbd := asked_bd hz
    refine (W_skip ?_)
    refine W_seq (region_seq ?_)
    refine seq_quiet {} TBok hF (F' := [(10, .slice none 0 0), (11, iv 0), (13, pv b11), (32, .func (.func 71) #[] #[pv b10, pv b11])]) (rs := []) [0] [1, 2] [10, 11, 13, 32] .nil (by kernel_rfl) fun a w hF hE => ?_
    replace hO := hO.ext hE; clear hE
    refine op_alloc (i := 1) (t := 116) (d := 15) (z := .nilFunc) hF hO (by kernel_rfl) (by kernel_rfl) fun a w b13 hF hO _ => ?_
    refine op_store (i := 2) (t := 116) (p := ⟨b13, 0, none⟩) (v := .func (.func 71) #[] #[pv b10, pv b11]) (off := 0) (sz := 1) (cs' := #[.func (.func 71) #[] #[pv b10, pv b11]]) hF hO (by kernel_rfl) 5 rfl rfl (by kernel_rfl) (by kernel_rfl) (by kernel_rfl) fun a w hF hO _ => ?_
    replace hO : Own w0 none_ [cel b1 (sS6 s v) 25, rdR encPl 2 p2 n3 (askedR s rs wr h cs).1, rdR encCt 3 p5 n6 (askedR s rs wr h cs).2.1, cel b10 #[.slice p2 n3 c4] 108, cel b11 #[.slice p5 n6 c7] 109, cel b13 #[.func (.func 71) #[] #[pv b10, pv b11]] 116] w := hO
    replace hF := hF.sel [10, 11, 13, 15]
    replace hF : Fr 45 [] [(10, .slice none 0 0), (11, iv 0), (13, pv b11), (15, pv b13)] a := hF
    refine W_seq (region_seq ?_)
    refine op_alloc (i := 0) (t := 22) (d := 16) (z := .slice none 0 0) hF hO (by kernel_rfl) (by kernel_rfl) fun a w b14 hF hO _ => ?_
    replace hF := hF.sel [10, 11, 13, 15, 16]
    replace hF : Fr 45 [] [(10, .slice none 0 0), (11, iv 0), (13, pv b11), (15, pv b13), (16, pv b14)] a := hF
    refine W_seq (region_seq ?_)
    refine op_alloc (i := 0) (t := 54) (d := 17) (z := .nilFunc) hF hO (by kernel_rfl) (by kernel_rfl) fun a w b15 hF hO _ => ?_
    replace hF := hF.sel [10, 11, 13, 15, 16, 17]
    replace hF : Fr 45 [] [(10, .slice none 0 0), (11, iv 0), (13, pv b11), (15, pv b13), (16, pv b14), (17, pv b15)] a := hF
    refine W_seq (region_seq ?_)
    refine seq_quiet {} TBok hF (F' := [(10, .slice none 0 0), (11, iv 0), (13, pv b11), (16, pv b14), (17, pv b15), (33, .func (.func 72) #[] #[pv b14, pv b13, pv b11, pv b15])]) (rs := []) [0] [1] [10, 11, 13, 16, 17, 33] .nil (by kernel_rfl) fun a w hF hE => ?_
    replace hO := hO.ext hE; clear hE
    refine op_store (i := 1) (t := 54) (p := ⟨b15, 0, none⟩) (v := .func (.func 72) #[] #[pv b14, pv b13, pv b11, pv b15]) (off := 0) (sz := 1) (cs' := #[.func (.func 72) #[] #[pv b14, pv b13, pv b11, pv b15]]) hF hO (by kernel_rfl) 7 rfl rfl (by kernel_rfl) (by kernel_rfl) (by kernel_rfl) fun a w hF hO _ => ?_
    replace hF := hF.sel [10, 11, 13, 16, 17]
    replace hF : Fr 45 [] [(10, .slice none 0 0), (11, iv 0), (13, pv b11), (16, pv b14), (17, pv b15)] a := hF
    refine W_seq ?_
    refine W_seq (region_q {} TBok hF (F' := [(10, .slice none 0 0), (11, iv 0), (16, pv b14), (17, pv b15), (35, iv (n6 : Int)), (36, iv 0)]) (rs := [.ld ⟨b11, 0, none⟩ (.slice p5 n6 c7)]) [10, 11, 16, 17, 35, 36] (.cons (ldo hO.st 4 rfl 0 rfl) <| .nil) (by kernel_rfl) fun a w hF hE => ?_)
    replace hO := hO.ext hE; clear hE
    refine (W_block ?_)
    replace hF := hF.sel [16, 17, 35, 36]
    refine (W_loop (fun m a w => ∃ (k : Nat), ∃ (ov1 : Value), m = ((askedR s rs wr h cs).2.1).length - k ∧ k ≤ ((askedR s rs wr h cs).2.1).length ∧ sureL ((askedR s rs wr h cs).1) ((askedR s rs wr h cs).2.1) (((askedR s rs wr h cs).2.1).length - k) k = sureL ((askedR s rs wr h cs).1) ((askedR s rs wr h cs).2.1) ((askedR s rs wr h cs).2.1).length 0 ∧ Fr 45 [] [(16, pv b14), (17, pv b15), (35, iv (n6 : Int)), (36, iv (k : Int))] a ∧ Own w0 none_ [cel b1 (sS6 s v) 25, rdR encPl 2 p2 n3 (askedR s rs wr h cs).1, rdR encCt 3 p5 n6 (askedR s rs wr h cs).2.1, cel b10 #[.slice p2 n3 c4] 108, cel b11 #[.slice p5 n6 c7] 109, cel b13 #[.func (.func 71) #[] #[pv b10, pv b11]] 116, cel b14 #[ov1] 22, cel b15 #[.func (.func 72) #[] #[pv b14, pv b13, pv b11, pv b15]] 54] w) _ ⟨0, _, rfl, Nat.zero_le _, rfl, hF, hO⟩ ?_)
    clear hF hO
    rintro _ a w ⟨k, ov1, rfl, hk, hsl, hF, hO⟩
    have hln1 := hn8; have hln2 := hn9
    refine W_seq (region_q {} TBok hF (F' := [(16, pv b14), (17, pv b15), (35, iv (n6 : Int)), (36, iv (k : Int)), (37, .bool (decide ((k : Int) < (n6 : Int))))]) (rs := []) [16, 17, 35, 36, 37] .nil (by kernel_rfl) fun a w hF hE => ?_)
    replace hO := hO.ext hE; clear hE
    rcases Bool.eq_false_or_eq_true (decide ((k : Int) < (n6 : Int))) with hc16 | hc16
    · refine W_seq (W_true ((evOp hF (by kernel_rfl)).trans (congrArg Value.bool hc16)) ?_)
      have hc16_ := of_decide_eq_true hc16
      refine (W_skip ?_)
      refine W_seq (W_block ?_)
      refine W_seq (region_q {} TBok hF (F' := [(16, pv b14), (17, pv b15), (18, iv (k : Int)), (35, iv (n6 : Int)), (36, iv (k : Int))]) (rs := []) [16, 17, 18, 35, 36] .nil (by kernel_rfl) fun a w hF hE => ?_)
      replace hO := hO.ext hE; clear hE
      refine W_seq (region_seq ?_)
      refine seq_quiet {} TBok hF (F' := [(16, pv b14), (17, pv b15), (35, iv (n6 : Int)), (36, iv (k : Int)), (39, .func (.func 72) #[] #[pv b14, pv b13, pv b11, pv b15]), (41, iv ((k : Int) + 1))]) (rs := [.ld ⟨b15, 0, none⟩ (.func (.func 72) #[] #[pv b14, pv b13, pv b11, pv b15]), .rng ((k : Int) + 1)]) [0, 1, 2] [3] [16, 17, 35, 36, 39, 41] (.cons (ldo hO.st 7 rfl 0 rfl) <| .cons (rg (by omega)) <| .nil) (by kernel_rfl) fun a w hF hE => ?_
      replace hO := hO.ext hE; clear hE
      have hpre : ChoPre ((askedR s rs wr h cs).1) ((askedR s rs wr h cs).2.1) w0.heap.size b14 b10 b11 b13 b15 p2 n3 c4 p5 n6 c7 (k + 1) (k + 1) [] none 0 0 (ov1) w := ⟨rdx_rdR hO 1 6 rfl rfl (by decide), rdx_rdR hO 2 6 rfl rfl (by decide), hO.kp.size, own_home hO 6 rfl, Ro.of_ok (cs := [.slice p2 n3 c4]) (hO.get 3 rfl), own_ne hO 3 6 rfl rfl (by decide), Ro.of_ok (cs := [.slice p5 n6 c7]) (hO.get 4 rfl), own_ne hO 4 6 rfl rfl (by decide), Ro.of_ok (cs := [.func (.func 71) #[] #[pv b10, pv b11]]) (hO.get 5 rfl), own_ne hO 5 6 rfl rfl (by decide), Ro.of_ok (cs := [.func (.func 72) #[] #[pv b14, pv b13, pv b11, pv b15]]) (hO.get 7 rfl), own_ne hO 7 6 rfl rfl (by decide), hO.get 6 rfl, RdX.none_, Nat.le_refl _, (fun i hi => absurd hi (Nat.not_lt_zero i)), Nat.zero_add _, by omega, by omega, by omega, hbd.2.2.2.1, hbd.2.2.2.2⟩
      replace hO := hO.sel [0, 1, 2, 3, 4, 5, 7, 6] (by decide)
      have hcall := choose_calls _ _ _ _ _ _ _ _ _ _ _ _ _ _ _ _ _ _ _ _ _ _ hpre; clear hpre
      rw [show ((k + 1 : Nat) : Int) = (k : Int) + 1 from rfl] at hcall
      refine op_call (i := 3) (f := 72) (args := #[.slice none 0 0, iv ((k : Int) + 1), pv b14, pv b13, pv b11, pv b15]) (d := some 42) TBok (by kernel_rfl) hF (by kernel_rfl) hcall fun e w hR => ?_
      clear hcall
      obtain ⟨ov2, hO2, he, hg⟩ := hR
      refine ⟨_, he, fun a hF => ?_⟩
      replace hO := Own.join (L1 := [cel b1 (sS6 s v) 25, rdR encPl 2 p2 n3 (askedR s rs wr h cs).1, rdR encCt 3 p5 n6 (askedR s rs wr h cs).2.1, cel b10 #[.slice p2 n3 c4] 108, cel b11 #[.slice p5 n6 c7] 109, cel b13 #[.func (.func 71) #[] #[pv b10, pv b11]] 116, cel b15 #[.func (.func 72) #[] #[pv b14, pv b13, pv b11, pv b15]] 54]) (L2 := [cel b14 #[ov1] 22]) hO hO2 (fun m hm => ⟨_, List.mem_singleton.2 rfl, hm⟩); clear hO2 he
      replace hO := hO.sel [0, 1, 2, 3, 4, 5, 7, 6] (by decide)
      replace hO : Own w0 none_ [cel b1 (sS6 s v) 25, rdR encPl 2 p2 n3 (askedR s rs wr h cs).1, rdR encCt 3 p5 n6 (askedR s rs wr h cs).2.1, cel b10 #[.slice p2 n3 c4] 108, cel b11 #[.slice p5 n6 c7] 109, cel b13 #[.func (.func 71) #[] #[pv b10, pv b11]] 116, cel b14 #[ov2] 22, cel b15 #[.func (.func 72) #[] #[pv b14, pv b13, pv b11, pv b15]] 54] w := hO
      replace hF := hF.sel [16, 17, 35, 36, 42]
      replace hF : Fr 45 [] [(16, pv b14), (17, pv b15), (35, iv (n6 : Int)), (36, iv (k : Int)), (42, .bool ((choF ((askedR s rs wr h cs).1) ((askedR s rs wr h cs).2.1) (k + 1) []).isSome))] a := hF
      rcases Bool.eq_false_or_eq_true ((choF ((askedR s rs wr h cs).1) ((askedR s rs wr h cs).2.1) (k + 1) []).isSome) with hc17 | hc17
      · refine (W_true ((evOp hF (by kernel_rfl)).trans (congrArg Value.bool hc17)) ?_)
        refine W_seq (region_q {} TBok hF (F' := [(10, ov2), (11, iv 0), (16, pv b14), (17, pv b15), (35, iv (n6 : Int)), (36, iv (k : Int))]) (rs := [.ld ⟨b14, 0, none⟩ (ov2)]) [10, 11, 16, 17, 35, 36] (.cons (ldo hO.st 6 rfl 0 rfl) <| .nil) (by kernel_rfl) fun a w hF hE => ?_)
        replace hO := hO.ext hE; replace hg := hg.ext hE; clear hE
        refine W_ret ?_
        show bodyPostM (FW none) 0 _ _ _ Exit.ret a w
        obtain ⟨l, hcf⟩ := Option.isSome_iff_exists.1 hc17
        rw [sureL_hit (by omega) hcf] at hsl
        have hres : sureR s rs wr h cs = (l, 0) := by unfold sureR; rw [if_neg (by rw [hz]; simp), ← hsl]
        obtain ⟨p3, k3, c3, hov, hkc, hx3⟩ := hg l hcf
        exact leave_r TBok hF (.nil _) (vs := [ov2, iv 0]) (rs := []) .nil (by kernel_rfl) ⟨p3, k3, c3, by rw [hres]; exact hx3.len, by rw [hres, hov]; rfl, by rw [hres]; exact own_rdR hO hx3 encI_0 (fun k h => .inl h)⟩
      · refine (W_false ((evOp hF (by kernel_rfl)).trans (congrArg Value.bool hc17)) ?_)
        refine (W_skip ?_)
        refine (region_q {} TBok hF (F' := [(16, pv b14), (17, pv b15), (35, iv (n6 : Int)), (36, iv ((k : Int) + 1))]) (rs := [.rng ((k : Int) + 1)]) [16, 17, 35, 36] (.cons (rg (by omega)) <| .nil) (by kernel_rfl) fun a w hF hE => ?_)
        replace hO := hO.ext hE; replace hg := hg.ext hE; clear hE
        rw [sureL_miss (by omega) (none_of hc17)] at hsl
        exact ⟨_, by omega, k + 1, ov2, rfl, by omega, hsl, hF, hO⟩
    · refine W_seq (W_false ((evOp hF (by kernel_rfl)).trans (congrArg Value.bool hc16)) ?_)
      have hc16_ := of_decide_eq_false hc16
      refine (W_exit ?_)
      refine W_seq (region_q {} TBok hF (F' := [(10, .slice none 0 0), (11, iv 4)]) (rs := []) [10, 11] .nil (by kernel_rfl) fun a w hF hE => ?_)
      replace hO := hO.ext hE; clear hE
      refine W_ret ?_
      show bodyPostM (FW none) 0 _ _ _ Exit.ret a w
      rw [show ((askedR s rs wr h cs).2.1).length - k = 0 by omega] at hsl
      have hres : sureR s rs wr h cs = ([], 4) := by unfold sureR; rw [if_neg (by rw [hz]; simp), ← hsl]; rfl
      exact leave_r TBok hF (.nil _) (vs := [.slice none 0 0, iv 4]) (rs := []) .nil (by kernel_rfl) ⟨none, 0, 0, by rw [hres]; rfl, by rw [hres]; rfl, by rw [hres]; exact (hO.nilRd encI 1).sel [8] (by decide)⟩

end Go.Proofs.Ytgihgcclabodbaa.DK
