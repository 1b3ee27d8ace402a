/- The law ShoalMirror, walked. Printed by my gen.py out of shoal/gg.py. -/
import Derived.Test.YtgihgcclabodbaaT5
import Derived.Test.YtgihgcclabodbaaSLaw3
import Derived.Test.YtgihgcclabodbaaSLaw5
namespace Go.Proofs.Ytgihgcclabodbaa.DK
open Go Go.Proofs
set_option linter.unusedVariables false
set_option linter.unusedSimpArgs false

theorem can_mem {s : Sea} {rs : List Rp} (her : err s rs = 0) {wr h : Int} (ha : askB s wr h = true) {c : Int} (hc : c ∈ (canR s rs wr h).1) : 0 ≤ c ∧ c < nC s := by
  rw [canR_one her ha] at hc
  have := mem_cellsA (canR1_mem hc); omega
theorem can_len {s : Sea} {rs : List Rp} (her : err s rs = 0) {wr h : Int} (ha : askB s wr h = true) : (canR s rs wr h).1.length ≤ 80 := by
  rw [canR_one her ha, canR1_eq]
  exact Nat.le_trans (List.length_filter_le _ _) (cellsA_len (err_hd her).1)
theorem place_ge (xs : List Int) (x : Int) : decide (placeI xs x ≥ 0) = decide (x ∈ xs) := by
  have h := placeI_neg xs x
  by_cases h2 : x ∈ xs
  · rw [decide_eq_true h2] at h ⊢; simp at h; rw [decide_eq_true (by omega)]
  · rw [decide_eq_false h2] at h ⊢; simp at h; rw [decide_eq_false (by omega)]
theorem lots_yes {n : Nat} {A : Nat → Bool} (h : A n = true) : lotsL (n + 1) A = lotsL n A ++ [(n : Int)] := by
  unfold lotsL
  rw [List.range_succ, List.filter_append, List.map_append, List.filter_cons_of_pos h]; rfl
theorem lots_no {n : Nat} {A : Nat → Bool} (h : A n = false) : lotsL (n + 1) A = lotsL n A := by
  unfold lotsL
  rw [List.range_succ, List.filter_append, List.map_append, List.filter_cons_of_neg (by rw [h]; simp)]; simp
def negS (x : St) : St := ⟨-x.e, x.n⟩
theorem mir_land {s : Sea} {k : Nat} (h : k = (nC s).toNat) : lotsL k (fun c => decide (trn s (c : Int) ∈ s.land)) = (mirS s).land := by rw [h]; rfl
theorem mir_drift {s : Sea} {k : Nat} (h : s.drift.length ≤ k) : (s.drift.take k).map negS = (mirS s).drift := by rw [List.take_of_length_le h]; rfl
theorem mir_R {bd : Nat} {w : World} {v : SV} {s : Sea} {la da : Option Addr} {ln lc dn dc : Nat} (h : SeaR bd w v s) (h1 : Rd encI 1 bd w la ln (mirS s).land) (h2 : Rd encSt 2 bd w da dn (mirS s).drift) (hc : ln ≤ lc ∧ dn ≤ dc) : SeaR bd w ⟨la, ln, lc, da, dn, dc⟩ (mirS s) := ⟨h1, h2, h.rg, hc⟩
theorem mir_step2 {s : Sea} {B : List Int} {c : Int} (h0 : 0 ≤ c) (h1 : c < nC s) (h2 : trn s c ∈ B) : cond (!(inB c 0 (s.wide * s.high - 1))) true (decide (placeI B (trn s c) < 0)) = false := by
  rw [inB_iff.2 (show 0 ≤ c ∧ c ≤ s.wide * s.high - 1 by unfold nC at h1; omega), decide_eq_false (place_in h2)]; rfl
set_option maxHeartbeats 4000000 in
set_option maxRecDepth 100000 in
theorem ShoalMirror_calls (s : Sea) (v : SV) (rs : List Rp) (p : Option Addr) (n c : Nat) (nf : Nat → Int) (w0 : World) (hs : SeaR w0.heap.size w0 v s) (hx : Rd encRp 4 w0.heap.size w0 p n rs) :
    Calls Try.prog 14 #[.agg #[iv s.wide, iv s.high, .slice v.la v.ln v.lc, iv s.hours, .slice v.da v.dn v.dc, iv s.speed, .slice p n c], .agg (arrL 2 nf).toArray] w0 (fun e w' => e = .returned (.bool true) ∧ Ext w0 w') := by
  have hl1 := hs.land.len; have hl2 := hs.drift.len; have hs1 := hs.land.size; have hs2 := hs.drift.size; have hr_ := hs.rg; unfold i64 at hr_; have hl3 := hx.len; have hs3 := hx.size
  refine calls_of_W Try.func14 rfl (by kernel_rfl) (args := [.agg #[iv s.wide, iv s.high, .slice v.la v.ln v.lc, iv s.hours, .slice v.da v.dn v.dc, iv s.speed, .slice p n c], .agg (arrL 2 nf).toArray]) fun a hF => ?_
  replace hF : Fr 205 [] [(0, .agg #[iv s.wide, iv s.high, .slice v.la v.ln v.lc, iv s.hours, .slice v.da v.dn v.dc, iv s.speed, .slice p n c]), (1, .agg (arrL 2 nf).toArray)] a := hF
  have hO : Own w0 none_ [] w0 := Own.start w0 _
  refine W_seq (region_seq ?_)
  refine op_box (i := 0) (t := 28) (v := .agg #[iv s.wide, iv s.high, .slice v.la v.ln v.lc, iv s.hours, .slice v.da v.dn v.dc, iv s.speed, .slice p n c]) (d := 2) hF hO (by kernel_rfl) fun a w b1 hF hO _ => ?_
  refine op_box (i := 1) (t := 38) (v := .agg (arrL 2 nf).toArray) (d := 3) hF hO (by kernel_rfl) fun a w b2 hF hO _ => ?_
  refine seq_quiet {} TBok hF (F' := [(2, pv b1), (3, pv b2), (4, .bool false)]) (rs := []) [2] [] [2, 3, 4] .nil (by kernel_rfl) fun a w hF hE => ?_
  replace hO := hO.ext hE; clear hE
  refine W_seq ?_
  refine W_seq (region_q {} TBok hF (F' := [(2, pv b1), (3, pv b2), (4, .bool false), (26, .bool (!(err s rs == 0)))]) (rs := [.lds ⟨b1, 0, none⟩ [iv s.wide, iv s.high, .slice v.la v.ln v.lc, iv s.hours, .slice v.da v.dn v.dc, iv s.speed, .slice p n c], .call 32 #[.agg #[iv s.wide, iv s.high, .slice v.la v.ln v.lc, iv s.hours, .slice v.da v.dn v.dc, iv s.speed, .slice p n c]] (.bool (err s rs == 0))]) [2, 3, 4, 26] (.cons (ldso hO.st 0 rfl 0 rfl) <| .cons (fun w hE => sound_calls s v rs p n c w (hs.upM (hO.st w hE).kp nom (Nat.le_refl _)) (hx.upM (hO.st w hE).kp nom (Nat.le_refl _))) <| .nil) (by kernel_rfl) fun a w hF hE => ?_)
  replace hO := hO.ext hE; clear hE
  rcases Bool.eq_false_or_eq_true (!(err s rs == 0)) with hc3 | hc3
  · refine (W_true ((evOp hF (by kernel_rfl)).trans (congrArg Value.bool hc3)) ?_)
    refine W_seq (region_q {} TBok hF (F' := [(2, pv b1), (3, pv b2), (4, .bool true)]) (rs := [.call 23 #[] (.bool true)]) [2, 3, 4] (.cons (fun w _ => works_calls w) <| .nil) (by kernel_rfl) fun a w hF hE => ?_)
    replace hO := hO.ext hE; clear hE
    refine W_ret ?_
    show bodyPostM (FW none) 0 _ _ _ Exit.ret a w
    exact leave_r TBok hF (.nil _) (vs := [.bool true]) (rs := []) .nil (by kernel_rfl) ⟨rfl, hO.kp⟩
  · refine (W_false ((evOp hF (by kernel_rfl)).trans (congrArg Value.bool hc3)) ?_)
    have her : err s rs = 0 := by have h_ := (by assumption : (!(err s rs == 0)) = false); simpa using h_
    obtain ⟨hv, hr⟩ := err_hd her
    have hv1 := sea_ok hv; have hrp := rp_ok hr
    have hnc : 0 < s.wide * s.high := by unfold nC at hv1; omega
    have hm1 := Int.emod_nonneg (nf 1) (show s.hours ≠ 0 by omega); have hm2 := Int.emod_lt_of_pos (nf 1) (show 0 < s.hours by omega)
    have hask : askB s ((nf 0) % 25) ((nf 1) % s.hours) = true := askB_iff.2 ⟨by omega, by omega, by omega, by omega⟩
    refine (W_skip ?_)
    refine W_seq (region_seq ?_)
    refine seq_quiet {} TBok hF (F' := [(2, pv b1), (3, pv b2), (4, .bool false), (29, .agg (sS6 s v))]) (rs := [.lds ⟨b1, 0, none⟩ (sL6 s v)]) [0, 1] [2, 3] [2, 3, 4, 29] (.cons (ldso hO.st 0 rfl 0 rfl) <| .nil) (by kernel_rfl) fun a w hF hE => ?_
    replace hO := hO.ext hE; clear hE
    refine op_alloc (i := 2) (t := 25) (d := 5) (z := .agg #[iv 0, iv 0, .slice none 0 0, iv 0, .slice none 0 0, iv 0]) hF hO (by kernel_rfl) (by kernel_rfl) fun a w b4 hF hO _ => ?_
    refine op_store (i := 3) (t := 25) (p := ⟨b4, 0, none⟩) (v := .agg (sS6 s v)) (off := 0) (sz := 6) (cs' := (sS6 s v)) hF hO (by kernel_rfl) 2 rfl rfl (by kernel_rfl) (by kernel_rfl) (by kernel_rfl) fun a w hF hO _ => ?_
    replace hO : Own w0 none_ [cel b1 #[iv s.wide, iv s.high, .slice v.la v.ln v.lc, iv s.hours, .slice v.da v.dn v.dc, iv s.speed, .slice p n c] 28, cel b2 (arrL 2 nf).toArray 38, cel b4 (sS6 s v) 25] w := hO
    replace hF := hF.sel [2, 3, 4, 5]
    replace hF : Fr 205 [] [(2, pv b1), (3, pv b2), (4, .bool false), (5, pv b4)] a := hF
    refine W_seq (region_seq ?_)
    refine seq_quiet {} TBok hF (F' := [(2, pv b1), (3, pv b2), (4, .bool false), (5, pv b4), (30, .pointer (some ⟨b4, 2, none⟩))]) (rs := []) [0] [1, 2, 3] [2, 3, 4, 5, 30] .nil (by kernel_rfl) fun a w hF hE => ?_
    replace hO := hO.ext hE; clear hE
    refine op_store (i := 1) (t := 22) (p := ⟨b4, 2, none⟩) (v := .slice none 0 0) (off := 2) (sz := 1) (cs' := #[iv s.wide, iv s.high, .slice none 0 0, iv s.hours, .slice v.da v.dn v.dc, iv s.speed]) hF hO (by kernel_rfl) 2 rfl rfl (by kernel_rfl) (by kernel_rfl) (by kernel_rfl) fun a w hF hO _ => ?_
    refine seq_quiet {} TBok hF (F' := [(2, pv b1), (3, pv b2), (4, .bool false), (5, pv b4), (31, .pointer (some ⟨b4, 4, none⟩))]) (rs := []) [2] [3] [2, 3, 4, 5, 31] .nil (by kernel_rfl) fun a w hF hE => ?_
    replace hO := hO.ext hE; clear hE
    refine op_store (i := 3) (t := 23) (p := ⟨b4, 4, none⟩) (v := .slice none 0 0) (off := 4) (sz := 1) (cs' := #[iv s.wide, iv s.high, .slice none 0 0, iv s.hours, .slice none 0 0, iv s.speed]) hF hO (by kernel_rfl) 2 rfl rfl (by kernel_rfl) (by kernel_rfl) (by kernel_rfl) fun a w hF hO _ => ?_
    replace hF := hF.sel [2, 3, 4, 5]
    replace hF : Fr 205 [] [(2, pv b1), (3, pv b2), (4, .bool false), (5, pv b4)] a := hF
    refine W_seq ?_
    refine W_seq (region_q {} TBok hF (F' := [(2, pv b1), (3, pv b2), (4, .bool false), (5, pv b4), (6, iv 0)]) (rs := []) [2, 3, 4, 5, 6] .nil (by kernel_rfl) fun a w hF hE => ?_)
    replace hO := hO.ext hE; clear hE
    refine (W_block ?_)
    replace hO := hO.nilRow 3 1
    replace hO : Own w0 none_ [cel b1 #[iv s.wide, iv s.high, .slice v.la v.ln v.lc, iv s.hours, .slice v.da v.dn v.dc, iv s.speed, .slice p n c] 28, cel b2 (arrL 2 nf).toArray 38, cel b4 #[iv s.wide, iv s.high, .slice none 0 0, iv s.hours, .slice none 0 0, iv s.speed] 25, rowR 3 1 (.slice none 0 0) 0 ((lotsL 0 (fun c => decide (trn s (c : Int) ∈ s.land))).flatMap encI)] w := hO
    refine (W_loop (fun m a w => ∃ (k : Nat), ∃ (p_ : Option Addr), ∃ (m_ : Nat), ∃ (cc_ : Nat), m = (nC s).toNat - k ∧ k ≤ (nC s).toNat ∧ (lotsL k (fun c => decide (trn s (c : Int) ∈ s.land))).length = m_ ∧ Fr 205 [] [(2, pv b1), (3, pv b2), (4, .bool false), (5, pv b4), (6, iv (k : Int))] a ∧ Own w0 none_ [cel b1 #[iv s.wide, iv s.high, .slice v.la v.ln v.lc, iv s.hours, .slice v.da v.dn v.dc, iv s.speed, .slice p n c] 28, cel b2 (arrL 2 nf).toArray 38, cel b4 #[iv s.wide, iv s.high, .slice p_ m_ cc_, iv s.hours, .slice none 0 0, iv s.speed] 25, rowR 3 1 (.slice p_ m_ cc_) m_ ((lotsL k (fun c => decide (trn s (c : Int) ∈ s.land))).flatMap encI)] w) _ ⟨0, none, 0, 0, rfl, Nat.zero_le _, rfl, hF, hO⟩ ?_)
    clear hF hO
    rintro _ a w ⟨k, p_, m_, cc_, rfl, hk, hml, hF, hO⟩
    have hlk := lotsL_len k (fun c => decide (trn s (c : Int) ∈ s.land))
    refine W_seq ?_
    refine W_seq (region_q {} TBok hF (F' := [(2, pv b1), (3, pv b2), (4, .bool false), (5, pv b4), (6, iv (k : Int)), (40, .bool (decide ((k : Int) < (s.wide * s.high))))]) (rs := [.ld ⟨b1, 0, none⟩ (iv s.wide), .ld ⟨b1, 1, none⟩ (iv s.high), .rng (s.wide * s.high)]) [2, 3, 4, 5, 6, 40] (.cons (ldo hO.st 0 rfl 0 rfl) <| .cons (ldo hO.st 0 rfl 1 rfl) <| .cons (rg (by unfold nC at hv1; omega)) <| .nil) (by kernel_rfl) fun a w hF hE => ?_)
    replace hO := hO.ext hE; clear hE
    rcases Bool.eq_false_or_eq_true (decide ((k : Int) < (s.wide * s.high))) with hc5 | hc5
    · refine (W_true ((evOp hF (by kernel_rfl)).trans (congrArg Value.bool hc5)) ?_)
      have hkl : (k : Int) < nC s := of_decide_eq_true (by assumption : (decide ((k : Int) < (s.wide * s.high))) = true)
      refine (W_skip ?_)
      refine W_seq (W_block ?_)
      refine W_seq (region_d {} mixed TBok hF (F' := [(2, pv b1), (3, pv b2), (4, .bool false), (5, pv b4), (6, iv (k : Int)), (51, .bool (decide ((placeI s.land (trn s (k : Int))) ≥ 0)))]) (rs := [.ld ⟨b1, 2, none⟩ (.slice v.la v.ln v.lc), .lds ⟨b1, 0, none⟩ (sL6 s v), .call 44 #[.agg (sS6 s v), iv (k : Int)] (iv (trn s (k : Int))), .call 35 #[.slice v.la v.ln v.lc, iv (trn s (k : Int))] (iv (placeI s.land (trn s (k : Int))))]) [2, 3, 4, 5, 6, 51] (.cons (ldo hO.st 0 rfl 2 rfl) <| .cons (ldso hO.st 0 rfl 0 rfl) <| .cons (fun w hE => turned_calls s v (k : Int) w hv (by omega)) <| .cons (fun w hE => Place_calls s.land v.la v.ln v.lc (trn s (k : Int)) w (hs.land.upM (hO.st w hE).kp nom (Nat.le_refl _))) <| .nil) (by kernel_rfl) (by kernel_rfl) fun a w hF hE => ?_)
      replace hO := hO.ext hE; clear hE
      rcases Bool.eq_false_or_eq_true (decide ((placeI s.land (trn s (k : Int))) ≥ 0)) with hc6 | hc6
      · refine (W_true ((evOp hF (by kernel_rfl)).trans (congrArg Value.bool hc6)) ?_)
        have hc6_ := of_decide_eq_true hc6
        refine (region_seq ?_)
        refine seq_quiet {} TBok hF (F' := [(2, pv b1), (3, pv b2), (4, .bool false), (5, pv b4), (6, iv (k : Int)), (53, .slice p_ m_ cc_), (54, iv (k : Int))]) (rs := [.ld ⟨b4, 2, none⟩ (.slice p_ m_ cc_)]) [0, 1, 2] [3, 4, 5, 6] [2, 3, 4, 5, 6, 53, 54] (.cons (ldo hO.st 2 rfl 2 rfl) <| .nil) (by kernel_rfl) fun a w hF hE => ?_
        replace hO := hO.ext hE; clear hE
        refine op_bsl (i := 3) (t := 22) (e := 3) (len := 1) (ps := [(0, iv (k : Int))]) (d := 55) (sz := 1) (cs := #[iv (k : Int)]) (z := iv 0) hF hO (by kernel_rfl) (by kernel_rfl) (by kernel_rfl) (by kernel_rfl) (by kernel_rfl) fun a w b7 hF hO _ => ?_
        refine op_appR (i := 4) (t := 22) (ty := 22) (e := 3) (d := 56) rowT22 hF hO (by kernel_rfl) 3 rfl 4 rfl (by kernel_rfl) (by omega) fun a w p8 c9 hF hO hx => ?_
        clear hx
        refine seq_quiet {} TBok hF (F' := [(2, pv b1), (3, pv b2), (4, .bool false), (5, pv b4), (6, iv (k : Int)), (56, .slice p8 (m_ + 1) c9), (57, .pointer (some ⟨b4, 2, none⟩))]) (rs := []) [5] [6] [2, 3, 4, 5, 6, 56, 57] .nil (by kernel_rfl) fun a w hF hE => ?_
        replace hO := hO.ext hE; clear hE
        refine op_store (i := 6) (t := 22) (p := ⟨b4, 2, none⟩) (v := .slice p8 (m_ + 1) c9) (off := 2) (sz := 1) (cs' := #[iv s.wide, iv s.high, .slice p8 (m_ + 1) c9, iv s.hours, .slice none 0 0, iv s.speed]) hF hO (by kernel_rfl) 2 rfl rfl (by kernel_rfl) (by kernel_rfl) (by kernel_rfl) fun a w hF hO _ => ?_
        replace hF := hF.sel [2, 3, 4, 5, 6]
        replace hF : Fr 205 [] [(2, pv b1), (3, pv b2), (4, .bool false), (5, pv b4), (6, iv (k : Int))] a := hF
        refine (region_q {} TBok hF (F' := [(2, pv b1), (3, pv b2), (4, .bool false), (5, pv b4), (6, iv ((k : Int) + 1))]) (rs := [.rng ((k : Int) + 1)]) [2, 3, 4, 5, 6] (.cons (rg (by omega)) <| .nil) (by kernel_rfl) fun a w hF hE => ?_)
        replace hO := hO.ext hE; clear hE
        replace hO := hO.drop1 4
        replace hO : Own w0 none_ [cel b1 #[iv s.wide, iv s.high, .slice v.la v.ln v.lc, iv s.hours, .slice v.da v.dn v.dc, iv s.speed, .slice p n c] 28, cel b2 (arrL 2 nf).toArray 38, cel b4 #[iv s.wide, iv s.high, .slice p8 (m_ + 1) c9, iv s.hours, .slice none 0 0, iv s.speed] 25, rowR 3 1 (.slice p8 (m_ + 1) c9) (m_ + 1) (((lotsL k (fun c => decide (trn s (c : Int) ∈ s.land))).flatMap encI) ++ (#[iv (k : Int)] : Array Value).toList)] w := hO
        have hA_ : decide (trn s (k : Int) ∈ s.land) = true := (place_ge _ _).symm.trans hc6
        replace hO : Own w0 none_ [cel b1 #[iv s.wide, iv s.high, .slice v.la v.ln v.lc, iv s.hours, .slice v.da v.dn v.dc, iv s.speed, .slice p n c] 28, cel b2 (arrL 2 nf).toArray 38, cel b4 #[iv s.wide, iv s.high, .slice p8 (m_ + 1) c9, iv s.hours, .slice none 0 0, iv s.speed] 25, rowR 3 1 (.slice p8 (m_ + 1) c9) (m_ + 1) ((lotsL (k + 1) (fun c => decide (trn s (c : Int) ∈ s.land))).flatMap encI)] w := hO.cast (by rw [lots_yes hA_, List.flatMap_append] <;> rfl)
        exact ⟨_, by omega, k + 1, p8, (m_ + 1), c9, rfl, by omega, by rw [lots_yes hA_, List.length_append, hml]; rfl, hF, hO⟩
      · refine (W_false ((evOp hF (by kernel_rfl)).trans (congrArg Value.bool hc6)) ?_)
        have hc6_ := of_decide_eq_false hc6
        refine (W_skip ?_)
        refine (region_q {} TBok hF (F' := [(2, pv b1), (3, pv b2), (4, .bool false), (5, pv b4), (6, iv ((k : Int) + 1))]) (rs := [.rng ((k : Int) + 1)]) [2, 3, 4, 5, 6] (.cons (rg (by omega)) <| .nil) (by kernel_rfl) fun a w hF hE => ?_)
        replace hO := hO.ext hE; clear hE
        have hA_ : decide (trn s (k : Int) ∈ s.land) = false := (place_ge _ _).symm.trans hc6
        replace hO : Own w0 none_ [cel b1 #[iv s.wide, iv s.high, .slice v.la v.ln v.lc, iv s.hours, .slice v.da v.dn v.dc, iv s.speed, .slice p n c] 28, cel b2 (arrL 2 nf).toArray 38, cel b4 #[iv s.wide, iv s.high, .slice p_ m_ cc_, iv s.hours, .slice none 0 0, iv s.speed] 25, rowR 3 1 (.slice p_ m_ cc_) m_ ((lotsL (k + 1) (fun c => decide (trn s (c : Int) ∈ s.land))).flatMap encI)] w := hO.cast (by rw [lots_no hA_])
        exact ⟨_, by omega, k + 1, p_, m_, cc_, rfl, by omega, by rw [lots_no hA_]; exact hml, hF, hO⟩
    · refine (W_false ((evOp hF (by kernel_rfl)).trans (congrArg Value.bool hc5)) ?_)
      have hke : ¬ (k : Int) < nC s := of_decide_eq_false (by assumption : (decide ((k : Int) < (s.wide * s.high))) = false)
      replace hO : Own w0 none_ [cel b1 #[iv s.wide, iv s.high, .slice v.la v.ln v.lc, iv s.hours, .slice v.da v.dn v.dc, iv s.speed, .slice p n c] 28, cel b2 (arrL 2 nf).toArray 38, cel b4 #[iv s.wide, iv s.high, .slice p_ m_ cc_, iv s.hours, .slice none 0 0, iv s.speed] 25, rowR 3 1 (.slice p_ m_ cc_) m_ ((mirS s).land.flatMap encI)] w := hO.cast (by rw [mir_land (show k = (nC s).toNat by omega)])
      refine (W_exit ?_)
      refine W_seq ?_
      refine W_seq (region_q {} TBok hF (F' := [(2, pv b1), (3, pv b2), (4, .bool false), (5, pv b4), (7, iv 0)]) (rs := []) [2, 3, 4, 5, 7] .nil (by kernel_rfl) fun a w hF hE => ?_)
      replace hO := hO.ext hE; clear hE
      refine (W_block ?_)
      replace hO := hO.nilRow 70 2
      replace hO : Own w0 none_ [cel b1 #[iv s.wide, iv s.high, .slice v.la v.ln v.lc, iv s.hours, .slice v.da v.dn v.dc, iv s.speed, .slice p n c] 28, cel b2 (arrL 2 nf).toArray 38, cel b4 #[iv s.wide, iv s.high, .slice p_ m_ cc_, iv s.hours, .slice none 0 0, iv s.speed] 25, rowR 3 1 (.slice p_ m_ cc_) m_ ((mirS s).land.flatMap encI), rowR 70 2 (.slice none 0 0) 0 (((s.drift.take 0).map negS).flatMap encSt)] w := hO
      refine (W_loop (fun m a w => ∃ (k2 : Nat), ∃ (q_ : Option Addr), ∃ (qc_ : Nat), m = v.dn - k2 ∧ k2 ≤ v.dn ∧ Fr 205 [] [(2, pv b1), (3, pv b2), (4, .bool false), (5, pv b4), (7, iv (k2 : Int))] a ∧ Own w0 none_ [cel b1 #[iv s.wide, iv s.high, .slice v.la v.ln v.lc, iv s.hours, .slice v.da v.dn v.dc, iv s.speed, .slice p n c] 28, cel b2 (arrL 2 nf).toArray 38, cel b4 #[iv s.wide, iv s.high, .slice p_ m_ cc_, iv s.hours, .slice q_ k2 qc_, iv s.speed] 25, rowR 3 1 (.slice p_ m_ cc_) m_ ((mirS s).land.flatMap encI), rowR 70 2 (.slice q_ k2 qc_) k2 (((s.drift.take k2).map negS).flatMap encSt)] w) _ ⟨0, none, 0, rfl, Nat.zero_le _, hF, hO⟩ ?_)
      clear hF hO
      rintro _ a w ⟨k2, q_, qc_, rfl, hk2, hF, hO⟩
      refine W_seq ?_
      refine W_seq (region_q {} TBok hF (F' := [(2, pv b1), (3, pv b2), (4, .bool false), (5, pv b4), (7, iv (k2 : Int)), (63, .bool (decide ((k2 : Int) < (v.dn : Int))))]) (rs := [.ld ⟨b1, 4, none⟩ (.slice v.da v.dn v.dc)]) [2, 3, 4, 5, 7, 63] (.cons (ldo hO.st 0 rfl 4 rfl) <| .nil) (by kernel_rfl) fun a w hF hE => ?_)
      replace hO := hO.ext hE; clear hE
      rcases Bool.eq_false_or_eq_true (decide ((k2 : Int) < (v.dn : Int))) with hc10 | hc10
      · refine (W_true ((evOp hF (by kernel_rfl)).trans (congrArg Value.bool hc10)) ?_)
        have hk2l := of_decide_eq_true (by assumption : (decide ((k2 : Int) < (v.dn : Int))) = true)
        have hst := st_ok hv (i := k2) (by omega)
        refine (W_skip ?_)
        refine W_seq (W_block ?_)
        refine (draw_start (R := (rowR 70 2 (.slice q_ k2 qc_) k2 (((s.drift.take k2).map negS).flatMap encSt)).fp) mixed [20, 21] 22 (by kernel_rfl) fun w hS => ?_)
        replace hO := hO.ext hS
        have hH := hO.but 4 rfl; replace hS := Ext.kp (M := (rowR 70 2 (.slice q_ k2 qc_) k2 (((s.drift.take k2).map negS).flatMap encSt)).fp) hS
        refine draw_q { md := [(9, 3), (17, 3)] } TBok hF hS (F' := [(2, pv b1), (3, pv b2), (4, .bool false), (5, pv b4), (7, iv (k2 : Int)), (67, .slice q_ k2 qc_), (83, .agg #[iv (-((s.drift.getD k2 default).e)), iv ((s.drift.getD k2 default).n)])]) (rs := [.ld ⟨b4, 4, none⟩ (.slice q_ k2 qc_), .ld ⟨b1, 4, none⟩ (.slice v.da v.dn v.dc), .idx v.da v.dn (k2 : Int) 2 (adr v.da 2 (k2 : Int)), .ld (adr v.da 2 (k2 : Int)) (iv ((s.drift.getD k2 default).e)), .raw (Op.unary .neg (iv ((s.drift.getD k2 default).e))) (iv (-((s.drift.getD k2 default).e))), .ld ⟨b1, 4, none⟩ (.slice v.da v.dn v.dc), .idx v.da v.dn (k2 : Int) 2 (adr v.da 2 (k2 : Int)), .ld ((adr v.da 2 (k2 : Int)).add 1) (iv ((s.drift.getD k2 default).n)), .raw (Instr.build 70 #[(0, iv (-((s.drift.getD k2 default).e))), (1, iv ((s.drift.getD k2 default).n))]) (.agg #[iv (-((s.drift.getD k2 default).e)), iv ((s.drift.getD k2 default).n)])]) [0, 1, 2, 3, 4, 5, 6, 7, 8, 9, 10, 11, 12, 13, 14, 15, 16, 17] 22 4 (by kernel_rfl) #[true, true, true, true, true, true, true, true, true, true, true, true, true, true, true, true, true, true, false, false, false, false] [2, 3, 4, 5, 7, 67, 83] (.cons (ldo hH 2 rfl 4 rfl) <| .cons (ldo hH 0 rfl 4 rfl) <| .cons (ix hs.drift (by omega) (by omega)) <| .cons (ldx hH nom hs.drift (by omega) (by omega) 0 rfl) <| .cons (raw_neg (by unfold nC at hv1; omega)) <| .cons (ldo hH 0 rfl 4 rfl) <| .cons (ix hs.drift (by omega) (by omega)) <| .cons (ldx hH nom hs.drift (by omega) (by omega) 1 rfl) <| .cons (fun w _ => by kernel_rfl) <| .nil) (by kernel_rfl) (by kernel_rfl) fun a hF => ?_
        replace hS := Kp.refl (rowR 70 2 (.slice q_ k2 qc_) k2 (((s.drift.take k2).map negS).flatMap encSt)).fp w
        refine any_pick (rs := [18]) (by kernel_rfl) (by simp) fun w hE => all1 ?_
        replace hO := hO.ext hE; replace hS := hS.trans (Ext.kp hE)
        refine op_bsl (i := 18) (t := 23) (e := 70) (len := 1) (ps := [(0, .agg #[iv (-((s.drift.getD k2 default).e)), iv ((s.drift.getD k2 default).n)])]) (d := 84) (sz := 2) (cs := #[iv (-((s.drift.getD k2 default).e)), iv ((s.drift.getD k2 default).n)]) (z := .agg #[iv 0, iv 0]) hF hO (by kernel_rfl) (by kernel_rfl) (by kernel_rfl) (by kernel_rfl) (by kernel_rfl) fun a w b11 hF hO hx => ⟨.inr (hS.trans (Ext.kp hx.1)), ?_⟩
        have hf_b11 := Nat.le_trans hS.size hx.2; replace hS := hS.trans (Ext.kp hx.1); clear hx
        refine any_pick (rs := [19]) (by kernel_rfl) (by simp) fun w hE => all1 ?_
        replace hO := hO.ext hE; replace hS := hS.trans (Ext.kp hE)
        refine op_appR (i := 19) (t := 23) (ty := 23) (e := 70) (d := 85) rowT23 hF hO (by kernel_rfl) 4 rfl 5 rfl (by kernel_rfl) (by omega) fun a w p12 c13 hF hO hx => ⟨.inr (hS.trans hx), ?_⟩
        replace hS := hS.trans hx
        clear hx
        refine any_pick (rs := [20]) (by kernel_rfl) (by simp) fun w hE => all1 ?_
        replace hO := hO.ext hE; replace hS := hS.trans (Ext.kp hE)
        refine seq_quiet {} TBok hF (F' := [(2, pv b1), (3, pv b2), (4, .bool false), (5, pv b4), (7, iv (k2 : Int)), (85, .slice p12 (k2 + 1) c13), (86, .pointer (some ⟨b4, 4, none⟩))]) (rs := []) [20] [] [2, 3, 4, 5, 7, 85, 86] .nil (by kernel_rfl) fun a w hF hE => ?_
        refine ⟨.inl rfl, ?_⟩
        replace hO := hO.ext hE; clear hE
        refine any_pick (rs := [21]) (by kernel_rfl) (by simp) fun w hE => all1 ?_
        replace hO := hO.ext hE
        refine op_store (i := 21) (t := 23) (p := ⟨b4, 4, none⟩) (v := .slice p12 (k2 + 1) c13) (off := 4) (sz := 1) (cs' := #[iv s.wide, iv s.high, .slice p_ m_ cc_, iv s.hours, .slice p12 (k2 + 1) c13, iv s.speed]) hF hO (by kernel_rfl) 2 rfl rfl (by kernel_rfl) (by kernel_rfl) (by kernel_rfl) fun a w hF hO _ => ⟨.inl rfl, ?_⟩
        refine any_done (by kernel_rfl) (fun w hE => ?_) _
        replace hO := hO.ext hE
        replace hF := hF.sel [2, 3, 4, 5, 7]
        replace hF : Fr 205 [] [(2, pv b1), (3, pv b2), (4, .bool false), (5, pv b4), (7, iv (k2 : Int))] a := hF
        refine (region_q {} TBok hF (F' := [(2, pv b1), (3, pv b2), (4, .bool false), (5, pv b4), (7, iv ((k2 : Int) + 1))]) (rs := [.rng ((k2 : Int) + 1)]) [2, 3, 4, 5, 7] (.cons (rg (by unfold nC at hv1; omega)) <| .nil) (by kernel_rfl) fun a w hF hE => ?_)
        replace hO := hO.ext hE; clear hE
        replace hO := hO.drop1 5
        replace hO : Own w0 none_ [cel b1 #[iv s.wide, iv s.high, .slice v.la v.ln v.lc, iv s.hours, .slice v.da v.dn v.dc, iv s.speed, .slice p n c] 28, cel b2 (arrL 2 nf).toArray 38, cel b4 #[iv s.wide, iv s.high, .slice p_ m_ cc_, iv s.hours, .slice p12 (k2 + 1) c13, iv s.speed] 25, rowR 3 1 (.slice p_ m_ cc_) m_ ((mirS s).land.flatMap encI), rowR 70 2 (.slice p12 (k2 + 1) c13) (k2 + 1) ((((s.drift.take k2).map negS).flatMap encSt) ++ (#[iv (-((s.drift.getD k2 default).e)), iv ((s.drift.getD k2 default).n)] : Array Value).toList)] w := hO
        replace hO : Own w0 none_ [cel b1 #[iv s.wide, iv s.high, .slice v.la v.ln v.lc, iv s.hours, .slice v.da v.dn v.dc, iv s.speed, .slice p n c] 28, cel b2 (arrL 2 nf).toArray 38, cel b4 #[iv s.wide, iv s.high, .slice p_ m_ cc_, iv s.hours, .slice p12 (k2 + 1) c13, iv s.speed] 25, rowR 3 1 (.slice p_ m_ cc_) m_ ((mirS s).land.flatMap encI), rowR 70 2 (.slice p12 (k2 + 1) c13) (k2 + 1) (((s.drift.take (k2 + 1)).map negS).flatMap encSt)] w := hO.cast (by rw [map_take negS (by omega), List.flatMap_append] <;> rfl)
        exact ⟨_, by omega, k2 + 1, p12, c13, rfl, by omega, hF, hO⟩
      · refine (W_false ((evOp hF (by kernel_rfl)).trans (congrArg Value.bool hc10)) ?_)
        have hk2e := of_decide_eq_false (by assumption : (decide ((k2 : Int) < (v.dn : Int))) = false)
        replace hO : Own w0 none_ [cel b1 #[iv s.wide, iv s.high, .slice v.la v.ln v.lc, iv s.hours, .slice v.da v.dn v.dc, iv s.speed, .slice p n c] 28, cel b2 (arrL 2 nf).toArray 38, cel b4 #[iv s.wide, iv s.high, .slice p_ m_ cc_, iv s.hours, .slice q_ k2 qc_, iv s.speed] 25, rowR 3 1 (.slice p_ m_ cc_) m_ ((mirS s).land.flatMap encI), rowR 70 2 (.slice q_ k2 qc_) k2 ((mirS s).drift.flatMap encSt)] w := hO.cast (by rw [mir_drift (show s.drift.length ≤ k2 by omega)])
        refine (W_exit ?_)
        refine W_seq (region_q {} TBok hF (F' := [(2, pv b1), (3, pv b2), (4, .bool false), (5, pv b4), (8, .slice none 0 0)]) (rs := []) [2, 3, 4, 5, 8] .nil (by kernel_rfl) fun a w hF hE => ?_)
        replace hO := hO.ext hE; clear hE
        refine W_seq ?_
        refine W_seq (region_q {} TBok hF (F' := [(2, pv b1), (3, pv b2), (4, .bool false), (5, pv b4), (8, .slice none 0 0), (9, iv 0)]) (rs := []) [2, 3, 4, 5, 8, 9] .nil (by kernel_rfl) fun a w hF hE => ?_)
        replace hO := hO.ext hE; clear hE
        refine (W_block ?_)
        replace hO := hO.nilRow 52 4
        replace hO : Own w0 none_ [cel b1 #[iv s.wide, iv s.high, .slice v.la v.ln v.lc, iv s.hours, .slice v.da v.dn v.dc, iv s.speed, .slice p n c] 28, cel b2 (arrL 2 nf).toArray 38, cel b4 #[iv s.wide, iv s.high, .slice p_ m_ cc_, iv s.hours, .slice q_ k2 qc_, iv s.speed] 25, rowR 3 1 (.slice p_ m_ cc_) m_ ((mirS s).land.flatMap encI), rowR 70 2 (.slice q_ k2 qc_) k2 ((mirS s).drift.flatMap encSt), rowR 52 4 (.slice none 0 0) 0 (((rs.take 0).map (mirR s)).flatMap encRp)] w := hO
        refine (W_loop (fun m a w => ∃ (k3 : Nat), ∃ (r_ : Option Addr), ∃ (rc_ : Nat), m = n - k3 ∧ k3 ≤ n ∧ Fr 205 [] [(2, pv b1), (3, pv b2), (4, .bool false), (5, pv b4), (8, .slice r_ k3 rc_), (9, iv (k3 : Int))] a ∧ Own w0 none_ [cel b1 #[iv s.wide, iv s.high, .slice v.la v.ln v.lc, iv s.hours, .slice v.da v.dn v.dc, iv s.speed, .slice p n c] 28, cel b2 (arrL 2 nf).toArray 38, cel b4 #[iv s.wide, iv s.high, .slice p_ m_ cc_, iv s.hours, .slice q_ k2 qc_, iv s.speed] 25, rowR 3 1 (.slice p_ m_ cc_) m_ ((mirS s).land.flatMap encI), rowR 70 2 (.slice q_ k2 qc_) k2 ((mirS s).drift.flatMap encSt), rowR 52 4 (.slice r_ k3 rc_) k3 (((rs.take k3).map (mirR s)).flatMap encRp)] w) _ ⟨0, none, 0, rfl, Nat.zero_le _, hF, hO⟩ ?_)
        clear hF hO
        rintro _ a w ⟨k3, r_, rc_, rfl, hk3, hF, hO⟩
        refine W_seq ?_
        refine W_seq (region_q {} TBok hF (F' := [(2, pv b1), (3, pv b2), (4, .bool false), (5, pv b4), (8, .slice r_ k3 rc_), (9, iv (k3 : Int)), (91, .bool (decide ((k3 : Int) < (n : Int))))]) (rs := [.ld ⟨b1, 6, none⟩ (.slice p n c)]) [2, 3, 4, 5, 8, 9, 91] (.cons (ldo hO.st 0 rfl 6 rfl) <| .nil) (by kernel_rfl) fun a w hF hE => ?_)
        replace hO := hO.ext hE; clear hE
        rcases Bool.eq_false_or_eq_true (decide ((k3 : Int) < (n : Int))) with hc14 | hc14
        · refine (W_true ((evOp hF (by kernel_rfl)).trans (congrArg Value.bool hc14)) ?_)
          have hk3l := of_decide_eq_true (by assumption : (decide ((k3 : Int) < (n : Int))) = true)
          have hrk := hrp.2 k3 (by omega)
          refine (W_skip ?_)
          refine W_seq (W_block ?_)
          refine W_seq (region_seq ?_)
          refine seq_quiet {} TBok hF (F' := [(2, pv b1), (3, pv b2), (4, .bool false), (5, pv b4), (8, .slice r_ k3 rc_), (9, iv (k3 : Int)), (98, .agg #[iv ((rs.getD k3 default).hr), iv ((rs.getD k3 default).cell), iv ((rs.getD k3 default).far), .bool ((rs.getD k3 default).th)])]) (rs := [.ld ⟨b1, 6, none⟩ (.slice p n c), .idx p n (k3 : Int) 4 (adr p 4 (k3 : Int)), .lds (adr p 4 (k3 : Int)) [iv ((rs.getD k3 default).hr), iv ((rs.getD k3 default).cell), iv ((rs.getD k3 default).far), .bool ((rs.getD k3 default).th)]]) [0, 1, 2, 3, 4] [5, 6] [2, 3, 4, 5, 8, 9, 98] (.cons (ldo hO.st 0 rfl 6 rfl) <| .cons (ix hx (by omega) (by omega)) <| .cons (ldsx hO.st nom hx (by omega) (by omega) rfl) <| .nil) (by kernel_rfl) fun a w hF hE => ?_
          replace hO := hO.ext hE; clear hE
          refine op_alloc (i := 5) (t := 52) (d := 10) (z := .agg #[iv 0, iv 0, iv 0, .bool false]) hF hO (by kernel_rfl) (by kernel_rfl) fun a w b15 hF hO _ => ?_
          refine op_store (i := 6) (t := 52) (p := ⟨b15, 0, none⟩) (v := .agg #[iv ((rs.getD k3 default).hr), iv ((rs.getD k3 default).cell), iv ((rs.getD k3 default).far), .bool ((rs.getD k3 default).th)]) (off := 0) (sz := 4) (cs' := #[iv ((rs.getD k3 default).hr), iv ((rs.getD k3 default).cell), iv ((rs.getD k3 default).far), .bool ((rs.getD k3 default).th)]) hF hO (by kernel_rfl) 6 rfl rfl (by kernel_rfl) (by kernel_rfl) (by kernel_rfl) fun a w hF hO _ => ?_
          replace hF := hF.sel [2, 3, 4, 5, 8, 9, 10]
          replace hF : Fr 205 [] [(2, pv b1), (3, pv b2), (4, .bool false), (5, pv b4), (8, .slice r_ k3 rc_), (9, iv (k3 : Int)), (10, pv b15)] a := hF
          refine W_seq (region_seq ?_)
          refine seq_quiet {} TBok hF (F' := [(2, pv b1), (3, pv b2), (4, .bool false), (5, pv b4), (8, .slice r_ k3 rc_), (9, iv (k3 : Int)), (10, pv b15), (103, iv (trn s ((rs.getD k3 default).cell))), (104, .pointer (some ⟨b15, 1, none⟩))]) (rs := [.lds ⟨b1, 0, none⟩ (sL6 s v), .ld ⟨b15, 1, none⟩ (iv ((rs.getD k3 default).cell)), .call 44 #[.agg (sS6 s v), iv ((rs.getD k3 default).cell)] (iv (trn s ((rs.getD k3 default).cell)))]) [0, 1, 2, 3, 4, 5] [6] [2, 3, 4, 5, 8, 9, 10, 103, 104] (.cons (ldso hO.st 0 rfl 0 rfl) <| .cons (ldo hO.st 6 rfl 1 rfl) <| .cons (fun w hE => turned_calls s v ((rs.getD k3 default).cell) w hv (by omega)) <| .nil) (by kernel_rfl) fun a w hF hE => ?_
          replace hO := hO.ext hE; clear hE
          refine op_store (i := 6) (t := 3) (p := ⟨b15, 1, none⟩) (v := iv (trn s ((rs.getD k3 default).cell))) (off := 1) (sz := 1) (cs' := #[iv ((rs.getD k3 default).hr), iv (trn s ((rs.getD k3 default).cell)), iv ((rs.getD k3 default).far), .bool ((rs.getD k3 default).th)]) hF hO (by kernel_rfl) 6 rfl rfl (by kernel_rfl) (by kernel_rfl) (by kernel_rfl) fun a w hF hO _ => ?_
          replace hF := hF.sel [2, 3, 4, 5, 8, 9, 10]
          replace hF : Fr 205 [] [(2, pv b1), (3, pv b2), (4, .bool false), (5, pv b4), (8, .slice r_ k3 rc_), (9, iv (k3 : Int)), (10, pv b15)] a := hF
          refine (region_seq ?_)
          refine seq_quiet {} TBok hF (F' := [(2, pv b1), (3, pv b2), (4, .bool false), (5, pv b4), (8, .slice r_ k3 rc_), (9, iv (k3 : Int)), (105, .slice r_ k3 rc_), (106, .agg #[iv ((rs.getD k3 default).hr), iv (trn s ((rs.getD k3 default).cell)), iv ((rs.getD k3 default).far), .bool ((rs.getD k3 default).th)])]) (rs := [.lds ⟨b15, 0, none⟩ [iv ((rs.getD k3 default).hr), iv (trn s ((rs.getD k3 default).cell)), iv ((rs.getD k3 default).far), .bool ((rs.getD k3 default).th)]]) [0, 1] [2, 3, 4] [2, 3, 4, 5, 8, 9, 105, 106] (.cons (ldso hO.st 6 rfl 0 rfl) <| .nil) (by kernel_rfl) fun a w hF hE => ?_
          replace hO := hO.ext hE; clear hE
          refine op_bsl (i := 2) (t := 26) (e := 52) (len := 1) (ps := [(0, .agg #[iv ((rs.getD k3 default).hr), iv (trn s ((rs.getD k3 default).cell)), iv ((rs.getD k3 default).far), .bool ((rs.getD k3 default).th)])]) (d := 107) (sz := 4) (cs := #[iv ((rs.getD k3 default).hr), iv (trn s ((rs.getD k3 default).cell)), iv ((rs.getD k3 default).far), .bool ((rs.getD k3 default).th)]) (z := .agg #[iv 0, iv 0, iv 0, .bool false]) hF hO (by kernel_rfl) (by kernel_rfl) (by kernel_rfl) (by kernel_rfl) (by kernel_rfl) fun a w b16 hF hO _ => ?_
          replace hO : Own w0 none_ [cel b1 #[iv s.wide, iv s.high, .slice v.la v.ln v.lc, iv s.hours, .slice v.da v.dn v.dc, iv s.speed, .slice p n c] 28, cel b2 (arrL 2 nf).toArray 38, cel b4 #[iv s.wide, iv s.high, .slice p_ m_ cc_, iv s.hours, .slice q_ k2 qc_, iv s.speed] 25, rowR 3 1 (.slice p_ m_ cc_) m_ ((mirS s).land.flatMap encI), rowR 70 2 (.slice q_ k2 qc_) k2 ((mirS s).drift.flatMap encSt), rowR 52 4 (.slice r_ k3 rc_) k3 (((rs.take k3).map (mirR s)).flatMap encRp), cel b15 #[iv ((rs.getD k3 default).hr), iv (trn s ((rs.getD k3 default).cell)), iv ((rs.getD k3 default).far), .bool ((rs.getD k3 default).th)] 52, cel b16 #[iv ((rs.getD k3 default).hr), iv (trn s ((rs.getD k3 default).cell)), iv ((rs.getD k3 default).far), .bool ((rs.getD k3 default).th)] 52] w := hO
          refine op_appR (i := 3) (t := 26) (ty := 26) (e := 52) (d := 108) rowT26 hF hO (by kernel_rfl) 5 rfl 7 rfl (by kernel_rfl) (by omega) fun a w p17 c18 hF hO hx => ?_
          clear hx
          refine seq_quiet {} TBok hF (F' := [(2, pv b1), (3, pv b2), (4, .bool false), (5, pv b4), (8, .slice p17 (k3 + 1) c18), (9, iv (k3 : Int))]) (rs := []) [4] [] [2, 3, 4, 5, 8, 9] .nil (by kernel_rfl) fun a w hF hE => ?_
          replace hO := hO.ext hE; clear hE
          refine (region_q {} TBok hF (F' := [(2, pv b1), (3, pv b2), (4, .bool false), (5, pv b4), (8, .slice p17 (k3 + 1) c18), (9, iv ((k3 : Int) + 1))]) (rs := [.rng ((k3 : Int) + 1)]) [2, 3, 4, 5, 8, 9] (.cons (rg (by unfold nC at hv1; omega)) <| .nil) (by kernel_rfl) fun a w hF hE => ?_)
          replace hO := hO.ext hE; clear hE
          replace hO := hO.drop1 7
          replace hO := hO.drop1 6
          replace hO : Own w0 none_ [cel b1 #[iv s.wide, iv s.high, .slice v.la v.ln v.lc, iv s.hours, .slice v.da v.dn v.dc, iv s.speed, .slice p n c] 28, cel b2 (arrL 2 nf).toArray 38, cel b4 #[iv s.wide, iv s.high, .slice p_ m_ cc_, iv s.hours, .slice q_ k2 qc_, iv s.speed] 25, rowR 3 1 (.slice p_ m_ cc_) m_ ((mirS s).land.flatMap encI), rowR 70 2 (.slice q_ k2 qc_) k2 ((mirS s).drift.flatMap encSt), rowR 52 4 (.slice p17 (k3 + 1) c18) (k3 + 1) ((((rs.take k3).map (mirR s)).flatMap encRp) ++ (#[iv ((rs.getD k3 default).hr), iv (trn s ((rs.getD k3 default).cell)), iv ((rs.getD k3 default).far), .bool ((rs.getD k3 default).th)] : Array Value).toList)] w := hO
          replace hO : Own w0 none_ [cel b1 #[iv s.wide, iv s.high, .slice v.la v.ln v.lc, iv s.hours, .slice v.da v.dn v.dc, iv s.speed, .slice p n c] 28, cel b2 (arrL 2 nf).toArray 38, cel b4 #[iv s.wide, iv s.high, .slice p_ m_ cc_, iv s.hours, .slice q_ k2 qc_, iv s.speed] 25, rowR 3 1 (.slice p_ m_ cc_) m_ ((mirS s).land.flatMap encI), rowR 70 2 (.slice q_ k2 qc_) k2 ((mirS s).drift.flatMap encSt), rowR 52 4 (.slice p17 (k3 + 1) c18) (k3 + 1) (((rs.take (k3 + 1)).map (mirR s)).flatMap encRp)] w := hO.cast (by rw [map_take (mirR s) (by omega), List.flatMap_append] <;> rfl)
          exact ⟨_, by omega, k3 + 1, p17, c18, rfl, by omega, hF, hO⟩
        · refine (W_false ((evOp hF (by kernel_rfl)).trans (congrArg Value.bool hc14)) ?_)
          have hk3e := of_decide_eq_false (by assumption : (decide ((k3 : Int) < (n : Int))) = false)
          replace hO : Own w0 none_ [cel b1 #[iv s.wide, iv s.high, .slice v.la v.ln v.lc, iv s.hours, .slice v.da v.dn v.dc, iv s.speed, .slice p n c] 28, cel b2 (arrL 2 nf).toArray 38, cel b4 #[iv s.wide, iv s.high, .slice p_ m_ cc_, iv s.hours, .slice q_ k2 qc_, iv s.speed] 25, rowR 3 1 (.slice p_ m_ cc_) m_ ((mirS s).land.flatMap encI), rowR 70 2 (.slice q_ k2 qc_) k2 ((mirS s).drift.flatMap encSt), rowR 52 4 (.slice r_ k3 rc_) k3 ((rs.map (mirR s)).flatMap encRp)] w := hO.cast (by rw [List.take_of_length_le (show rs.length ≤ k3 by omega)])
          refine (W_exit ?_)
          refine W_seq (region_d {} mixed TBok hF (F' := [(2, pv b1), (4, .bool false), (5, pv b4), (8, .slice r_ k3 rc_), (11, iv ((nf 0) % 25)), (12, iv ((nf 1) % s.hours))]) (rs := [.idx (some ⟨b2, 0, none⟩) 2 0 1 ((⟨b2, 0, none⟩ : Addr).add ((0 : Int).toNat * 1)), .ld ((⟨b2, 0, none⟩ : Addr).add ((0 : Int).toNat * 1)) (iv (nf 0)), .call 38 #[iv (nf 0), iv 25] (iv ((nf 0) % 25)), .idx (some ⟨b2, 0, none⟩) 2 1 1 ((⟨b2, 0, none⟩ : Addr).add ((1 : Int).toNat * 1)), .ld ((⟨b2, 0, none⟩ : Addr).add ((1 : Int).toNat * 1)) (iv (nf 1)), .ld ⟨b1, 3, none⟩ (iv s.hours), .call 38 #[iv (nf 1), iv s.hours] (iv ((nf 1) % s.hours))]) [2, 4, 5, 8, 11, 12] (.cons (ixa (by omega) (by omega)) <| .cons (ldf (pre := []) (n := 2) (f := nf) (post := []) hO.st 1 rfl rfl (by omega) (by omega)) <| .cons (fun w hE => Mod_calls (nf 0) 25 w (by unfold nC at hv1; omega) (by unfold nC at hv1; omega)) <| .cons (ixa (by omega) (by omega)) <| .cons (ldf (pre := []) (n := 2) (f := nf) (post := []) hO.st 1 rfl rfl (by omega) (by omega)) <| .cons (ldo hO.st 0 rfl 3 rfl) <| .cons (fun w hE => Mod_calls (nf 1) s.hours w (by unfold nC at hv1; omega) (by unfold nC at hv1; omega)) <| .nil) (by kernel_rfl) (by kernel_rfl) fun a w hF hE => ?_)
          replace hO := hO.ext hE; clear hE
          refine W_seq (region_seq ?_)
          refine seq_quiet {} TBok hF (F' := [(2, pv b1), (4, .bool false), (5, pv b4), (8, .slice r_ k3 rc_), (11, iv ((nf 0) % 25)), (12, iv ((nf 1) % s.hours)), (120, .agg (sS6 s v)), (122, .slice p n c), (123, iv ((nf 0) % 25)), (124, iv ((nf 1) % s.hours))]) (rs := [.lds ⟨b1, 0, none⟩ (sL6 s v), .ld ⟨b1, 6, none⟩ (.slice p n c)]) [0, 1, 2, 3, 4, 5] [6, 7, 8, 9, 10, 11] [2, 4, 5, 8, 11, 12, 120, 122, 123, 124] (.cons (ldso hO.st 0 rfl 0 rfl) <| .cons (ldo hO.st 0 rfl 6 rfl) <| .nil) (by kernel_rfl) fun a w hF hE => ?_
          replace hO := hO.ext hE; clear hE
          refine op_call (i := 6) (f := 24) (args := #[.agg (sS6 s v), .slice p n c, iv ((nf 0) % 25), iv ((nf 1) % s.hours)]) (d := some 125) TBok (by kernel_rfl) hF (by kernel_rfl) (Can_calls s v rs p n c ((nf 0) % 25) ((nf 1) % s.hours) _ (hs.upM hO.kp nom (Nat.le_refl _)) (hx.upM hO.kp nom (Nat.le_refl _))) fun e w hR => ?_
          obtain ⟨p19, n20, c21, hn22, he, hO2⟩ := hR
          refine ⟨_, he, fun a hF => ?_⟩
          replace hO := hO.joinE hO2; clear hO2 he
          refine seq_quiet {} TBok hF (F' := [(2, pv b1), (4, .bool false), (5, pv b4), (8, .slice r_ k3 rc_), (11, iv ((nf 0) % 25)), (12, iv ((nf 1) % s.hours)), (13, .slice p19 n20 c21), (14, iv ((canR s rs ((nf 0) % 25) ((nf 1) % s.hours)).2))]) (rs := []) [7, 8, 9, 10, 11] [] [2, 4, 5, 8, 11, 12, 13, 14] .nil (by kernel_rfl) fun a w hF hE => ?_
          replace hO := hO.ext hE; clear hE
          refine W_seq (region_seq ?_)
          refine seq_quiet {} TBok hF (F' := [(2, pv b1), (4, .bool false), (5, pv b4), (8, .slice r_ k3 rc_), (13, .slice p19 n20 c21), (14, iv ((canR s rs ((nf 0) % 25) ((nf 1) % s.hours)).2)), (129, .agg #[iv s.wide, iv s.high, .slice p_ m_ cc_, iv s.hours, .slice q_ k2 qc_, iv s.speed]), (130, .slice r_ k3 rc_), (131, iv ((nf 0) % 25)), (132, iv ((nf 1) % s.hours))]) (rs := [.lds ⟨b4, 0, none⟩ [iv s.wide, iv s.high, .slice p_ m_ cc_, iv s.hours, .slice q_ k2 qc_, iv s.speed]]) [0, 1, 2, 3] [4, 5, 6, 7, 8, 9] [2, 4, 5, 8, 13, 14, 129, 130, 131, 132] (.cons (ldso hO.st 2 rfl 0 rfl) <| .nil) (by kernel_rfl) fun a w hF hE => ?_
          replace hO := hO.ext hE; clear hE
          refine op_call (i := 4) (f := 24) (args := #[.agg #[iv s.wide, iv s.high, .slice p_ m_ cc_, iv s.hours, .slice q_ k2 qc_, iv s.speed], .slice r_ k3 rc_, iv ((nf 0) % 25), iv ((nf 1) % s.hours)]) (d := some 133) TBok (by kernel_rfl) hF (by kernel_rfl) (Can_calls (mirS s) (⟨p_, m_, cc_, q_, k2, qc_⟩ : SV) (rs.map (mirR s)) r_ k3 rc_ ((nf 0) % 25) ((nf 1) % s.hours) _ (mir_R (hs.upM hO.kp nom (Nat.le_refl _)) (rd_row (fun _ => rfl) (by decide) hO 3 rfl (by omega)) (rd_row (fun _ => rfl) (by decide) hO 4 rfl (by omega)) ⟨(row_cap hO 3 rfl).1, (row_cap hO 4 rfl).1⟩) (rd_row (fun _ => rfl) (by decide) hO 5 rfl (by omega))) fun e w hR => ?_
          obtain ⟨p23, n24, c25, hn26, he, hO2⟩ := hR
          refine ⟨_, he, fun a hF => ?_⟩
          replace hO := hO.joinE hO2; clear hO2 he
          refine seq_quiet {} TBok hF (F' := [(2, pv b1), (4, .bool false), (5, pv b4), (8, .slice r_ k3 rc_), (13, .slice p19 n20 c21), (14, iv ((canR s rs ((nf 0) % 25) ((nf 1) % s.hours)).2)), (15, .slice p23 n24 c25), (16, iv ((canR (mirS s) (rs.map (mirR s)) ((nf 0) % 25) ((nf 1) % s.hours)).2))]) (rs := []) [5, 6, 7, 8, 9] [] [2, 4, 5, 8, 13, 14, 15, 16] .nil (by kernel_rfl) fun a w hF hE => ?_
          replace hO := hO.ext hE; clear hE
          refine W_seq (region_seq ?_)
          refine seq_quiet {} TBok hF (F' := [(2, pv b1), (4, .bool false), (5, pv b4), (8, .slice r_ k3 rc_), (13, .slice p19 n20 c21), (14, iv ((canR s rs ((nf 0) % 25) ((nf 1) % s.hours)).2)), (15, .slice p23 n24 c25), (16, iv ((canR (mirS s) (rs.map (mirR s)) ((nf 0) % 25) ((nf 1) % s.hours)).2)), (138, .agg (sS6 s v)), (140, .slice p n c)]) (rs := [.lds ⟨b1, 0, none⟩ (sL6 s v), .ld ⟨b1, 6, none⟩ (.slice p n c)]) [0, 1, 2, 3] [4, 5, 6, 7, 8, 9, 10, 11] [2, 4, 5, 8, 13, 14, 15, 16, 138, 140] (.cons (ldso hO.st 0 rfl 0 rfl) <| .cons (ldo hO.st 0 rfl 6 rfl) <| .nil) (by kernel_rfl) fun a w hF hE => ?_
          replace hO := hO.ext hE; clear hE
          refine op_call (i := 4) (f := 20) (args := #[.agg (sS6 s v), .slice p n c]) (d := some 141) TBok (by kernel_rfl) hF (by kernel_rfl) (Least_calls s v rs p n c _ (hs.upM hO.kp nom (Nat.le_refl _)) (hx.upM hO.kp nom (Nat.le_refl _))) fun e w hR => ?_
          obtain ⟨p27, n28, c29, hn30, he, hO2⟩ := hR
          refine ⟨_, he, fun a hF => ?_⟩
          replace hO := hO.joinE hO2; clear hO2 he
          refine seq_quiet {} TBok hF (F' := [(2, pv b1), (4, .bool false), (5, pv b4), (8, .slice r_ k3 rc_), (13, .slice p19 n20 c21), (14, iv ((canR s rs ((nf 0) % 25) ((nf 1) % s.hours)).2)), (15, .slice p23 n24 c25), (16, iv ((canR (mirS s) (rs.map (mirR s)) ((nf 0) % 25) ((nf 1) % s.hours)).2)), (17, iv ((leastR s rs).1)), (19, iv ((leastR s rs).2.2))]) (rs := []) [5, 6, 7, 8, 9, 10, 11] [] [2, 4, 5, 8, 13, 14, 15, 16, 17, 19] .nil (by kernel_rfl) fun a w hF hE => ?_
          replace hO := hO.ext hE; clear hE
          refine W_seq (region_seq ?_)
          refine seq_quiet {} TBok hF (F' := [(2, pv b1), (4, .bool false), (13, .slice p19 n20 c21), (14, iv ((canR s rs ((nf 0) % 25) ((nf 1) % s.hours)).2)), (15, .slice p23 n24 c25), (16, iv ((canR (mirS s) (rs.map (mirR s)) ((nf 0) % 25) ((nf 1) % s.hours)).2)), (17, iv ((leastR s rs).1)), (19, iv ((leastR s rs).2.2)), (146, .agg #[iv s.wide, iv s.high, .slice p_ m_ cc_, iv s.hours, .slice q_ k2 qc_, iv s.speed]), (147, .slice r_ k3 rc_)]) (rs := [.lds ⟨b4, 0, none⟩ [iv s.wide, iv s.high, .slice p_ m_ cc_, iv s.hours, .slice q_ k2 qc_, iv s.speed]]) [0, 1] [2, 3, 4, 5, 6, 7, 8, 9] [2, 4, 13, 14, 15, 16, 17, 19, 146, 147] (.cons (ldso hO.st 2 rfl 0 rfl) <| .nil) (by kernel_rfl) fun a w hF hE => ?_
          replace hO := hO.ext hE; clear hE
          refine op_call (i := 2) (f := 20) (args := #[.agg #[iv s.wide, iv s.high, .slice p_ m_ cc_, iv s.hours, .slice q_ k2 qc_, iv s.speed], .slice r_ k3 rc_]) (d := some 148) TBok (by kernel_rfl) hF (by kernel_rfl) (Least_calls (mirS s) (⟨p_, m_, cc_, q_, k2, qc_⟩ : SV) (rs.map (mirR s)) r_ k3 rc_ _ (mir_R (hs.upM hO.kp nom (Nat.le_refl _)) (rd_row (fun _ => rfl) (by decide) hO 3 rfl (by omega)) (rd_row (fun _ => rfl) (by decide) hO 4 rfl (by omega)) ⟨(row_cap hO 3 rfl).1, (row_cap hO 4 rfl).1⟩) (rd_row (fun _ => rfl) (by decide) hO 5 rfl (by omega))) fun e w hR => ?_
          obtain ⟨p31, n32, c33, hn34, he, hO2⟩ := hR
          refine ⟨_, he, fun a hF => ?_⟩
          replace hO := hO.joinE hO2; clear hO2 he
          replace hO : Own w0 none_ [cel b1 #[iv s.wide, iv s.high, .slice v.la v.ln v.lc, iv s.hours, .slice v.da v.dn v.dc, iv s.speed, .slice p n c] 28, cel b2 (arrL 2 nf).toArray 38, cel b4 #[iv s.wide, iv s.high, .slice p_ m_ cc_, iv s.hours, .slice q_ k2 qc_, iv s.speed] 25, rowR 3 1 (.slice p_ m_ cc_) m_ ((mirS s).land.flatMap encI), rowR 70 2 (.slice q_ k2 qc_) k2 ((mirS s).drift.flatMap encSt), rowR 52 4 (.slice r_ k3 rc_) k3 ((rs.map (mirR s)).flatMap encRp), rdR encI 1 p19 n20 (canR s rs ((nf 0) % 25) ((nf 1) % s.hours)).1, rdR encI 1 p23 n24 (canR (mirS s) (rs.map (mirR s)) ((nf 0) % 25) ((nf 1) % s.hours)).1, rdR encI 1 p27 n28 (leastR s rs).2.1, rdR encI 1 p31 n32 (leastR (mirS s) (rs.map (mirR s))).2.1] w := hO
          refine seq_quiet {} TBok hF (F' := [(2, pv b1), (4, .bool false), (13, .slice p19 n20 c21), (14, iv ((canR s rs ((nf 0) % 25) ((nf 1) % s.hours)).2)), (15, .slice p23 n24 c25), (16, iv ((canR (mirS s) (rs.map (mirR s)) ((nf 0) % 25) ((nf 1) % s.hours)).2)), (17, iv ((leastR s rs).1)), (19, iv ((leastR s rs).2.2)), (20, iv ((leastR (mirS s) (rs.map (mirR s))).1)), (22, iv ((leastR (mirS s) (rs.map (mirR s))).2.2))]) (rs := []) [3, 4, 5, 6, 7, 8, 9] [] [2, 4, 13, 14, 15, 16, 17, 19, 20, 22] .nil (by kernel_rfl) fun a w hF hE => ?_
          replace hO := hO.ext hE; clear hE
          refine W_seq ?_
          refine W_seq (region_q { sy := [3, 8, 13] } TBok hF (F' := [(2, pv b1), (4, .bool false), (13, .slice p19 n20 c21), (15, .slice p23 n24 c25), (171, .bool (cond (cond (cond ((canR s rs ((nf 0) % 25) ((nf 1) % s.hours)).2 != (canR (mirS s) (rs.map (mirR s)) ((nf 0) % 25) ((nf 1) % s.hours)).2) true ((leastR s rs).2.2 != (leastR (mirS s) (rs.map (mirR s))).2.2)) true ((leastR s rs).1 != (leastR (mirS s) (rs.map (mirR s))).1)) true ((n20 : Int) != (n24 : Int))))]) (rs := []) [2, 4, 13, 15, 171] .nil (by kernel_rfl) fun a w hF hE => ?_)
          replace hO := hO.ext hE; clear hE
          rcases Bool.eq_false_or_eq_true (cond (cond (cond ((canR s rs ((nf 0) % 25) ((nf 1) % s.hours)).2 != (canR (mirS s) (rs.map (mirR s)) ((nf 0) % 25) ((nf 1) % s.hours)).2) true ((leastR s rs).2.2 != (leastR (mirS s) (rs.map (mirR s))).2.2)) true ((leastR s rs).1 != (leastR (mirS s) (rs.map (mirR s))).1)) true ((n20 : Int) != (n24 : Int))) with hc35 | hc35
          · refine (W_true ((evOp hF (by kernel_rfl)).trans (congrArg Value.bool hc35)) ?_)
            exact absurd ((mir_dead her hask (by assumption) (by assumption)).symm.trans hc35) (by decide)
          · refine (W_false ((evOp hF (by kernel_rfl)).trans (congrArg Value.bool hc35)) ?_)
            refine (W_skip ?_)
            refine W_seq ?_
            refine W_seq (region_q {} TBok hF (F' := [(2, pv b1), (4, .bool false), (13, .slice p19 n20 c21), (15, .slice p23 n24 c25), (23, iv 0)]) (rs := []) [2, 4, 13, 15, 23] .nil (by kernel_rfl) fun a w hF hE => ?_)
            replace hO := hO.ext hE; clear hE
            refine (W_block ?_)
            replace hF := hF.sel [2, 13, 15, 23]
            have hl80 := can_len her hask
            refine (W_loop (fun m a w => ∃ (i : Nat), m = n20 - i ∧ i ≤ n20 ∧ Fr 205 [] [(2, pv b1), (13, .slice p19 n20 c21), (15, .slice p23 n24 c25), (23, iv (i : Int))] a ∧ Own w0 none_ [cel b1 #[iv s.wide, iv s.high, .slice v.la v.ln v.lc, iv s.hours, .slice v.da v.dn v.dc, iv s.speed, .slice p n c] 28, cel b2 (arrL 2 nf).toArray 38, cel b4 #[iv s.wide, iv s.high, .slice p_ m_ cc_, iv s.hours, .slice q_ k2 qc_, iv s.speed] 25, rowR 3 1 (.slice p_ m_ cc_) m_ ((mirS s).land.flatMap encI), rowR 70 2 (.slice q_ k2 qc_) k2 ((mirS s).drift.flatMap encSt), rowR 52 4 (.slice r_ k3 rc_) k3 ((rs.map (mirR s)).flatMap encRp), rdR encI 1 p19 n20 (canR s rs ((nf 0) % 25) ((nf 1) % s.hours)).1, rdR encI 1 p23 n24 (canR (mirS s) (rs.map (mirR s)) ((nf 0) % 25) ((nf 1) % s.hours)).1, rdR encI 1 p27 n28 (leastR s rs).2.1, rdR encI 1 p31 n32 (leastR (mirS s) (rs.map (mirR s))).2.1] w) _ ⟨0, rfl, Nat.zero_le _, hF, hO⟩ ?_)
            clear hF hO
            rintro _ a w ⟨i, rfl, hi, hF, hO⟩
            refine W_seq ?_
            refine W_seq (region_q {} TBok hF (F' := [(2, pv b1), (13, .slice p19 n20 c21), (15, .slice p23 n24 c25), (23, iv (i : Int)), (175, .bool (decide ((i : Int) < (n20 : Int))))]) (rs := []) [2, 13, 15, 23, 175] .nil (by kernel_rfl) fun a w hF hE => ?_)
            replace hO := hO.ext hE; clear hE
            rcases Bool.eq_false_or_eq_true (decide ((i : Int) < (n20 : Int))) with hc36 | hc36
            · refine (W_true ((evOp hF (by kernel_rfl)).trans (congrArg Value.bool hc36)) ?_)
              have hil := of_decide_eq_true (by assumption : (decide ((i : Int) < (n20 : Int))) = true)
              have hai := (mir_canR her hask).2.2 _ (getD_mem (show i < (canR s rs ((nf 0) % 25) ((nf 1) % s.hours)).1.length by omega))
              refine (W_skip ?_)
              refine W_seq (W_block ?_)
              refine W_seq (region_d { sy := [14] } mixed TBok hF (F' := [(2, pv b1), (13, .slice p19 n20 c21), (15, .slice p23 n24 c25), (23, iv (i : Int)), (203, .bool (cond (!(inB ((canR s rs ((nf 0) % 25) ((nf 1) % s.hours)).1.getD i default) 0 ((s.wide * s.high) - 1))) true (decide ((placeI (canR (mirS s) (rs.map (mirR s)) ((nf 0) % 25) ((nf 1) % s.hours)).1 (trn s ((canR s rs ((nf 0) % 25) ((nf 1) % s.hours)).1.getD i default))) < 0))))]) (rs := [.idx p19 n20 (i : Int) 1 (adr p19 1 (i : Int)), .ld (adr p19 1 (i : Int)) (iv ((canR s rs ((nf 0) % 25) ((nf 1) % s.hours)).1.getD i default)), .ld ⟨b1, 0, none⟩ (iv s.wide), .ld ⟨b1, 1, none⟩ (iv s.high), .rng (s.wide * s.high), .rng ((s.wide * s.high) - 1), .call 40 #[iv ((canR s rs ((nf 0) % 25) ((nf 1) % s.hours)).1.getD i default), iv 0, iv ((s.wide * s.high) - 1)] (.bool (inB ((canR s rs ((nf 0) % 25) ((nf 1) % s.hours)).1.getD i default) 0 ((s.wide * s.high) - 1))), .und (!(!(inB ((canR s rs ((nf 0) % 25) ((nf 1) % s.hours)).1.getD i default) 0 ((s.wide * s.high) - 1)))) (.lds ⟨b1, 0, none⟩ (sL6 s v)), .und (!(!(inB ((canR s rs ((nf 0) % 25) ((nf 1) % s.hours)).1.getD i default) 0 ((s.wide * s.high) - 1)))) (.idx p19 n20 (i : Int) 1 (adr p19 1 (i : Int))), .und (!(!(inB ((canR s rs ((nf 0) % 25) ((nf 1) % s.hours)).1.getD i default) 0 ((s.wide * s.high) - 1)))) (.ld (adr p19 1 (i : Int)) (iv ((canR s rs ((nf 0) % 25) ((nf 1) % s.hours)).1.getD i default))), .und (!(!(inB ((canR s rs ((nf 0) % 25) ((nf 1) % s.hours)).1.getD i default) 0 ((s.wide * s.high) - 1)))) (.call 44 #[.agg (sS6 s v), iv ((canR s rs ((nf 0) % 25) ((nf 1) % s.hours)).1.getD i default)] (iv (trn s ((canR s rs ((nf 0) % 25) ((nf 1) % s.hours)).1.getD i default)))), .und (!(!(inB ((canR s rs ((nf 0) % 25) ((nf 1) % s.hours)).1.getD i default) 0 ((s.wide * s.high) - 1)))) (.call 35 #[.slice p23 n24 c25, iv (trn s ((canR s rs ((nf 0) % 25) ((nf 1) % s.hours)).1.getD i default))] (iv (placeI (canR (mirS s) (rs.map (mirR s)) ((nf 0) % 25) ((nf 1) % s.hours)).1 (trn s ((canR s rs ((nf 0) % 25) ((nf 1) % s.hours)).1.getD i default)))))]) [2, 13, 15, 23, 203] (.cons (ix (enc := encI) (xs := (canR s rs ((nf 0) % 25) ((nf 1) % s.hours)).1) ((hO.get 6 rfl)) (by omega) (by omega)) <| .cons (ldR (enc := encI) (xs := (canR s rs ((nf 0) % 25) ((nf 1) % s.hours)).1) (a := p19) (i := (i : Int)) (fun x_ hx_ => ((hO.st x_ hx_).get 6 rfl)) (by omega) (by omega) 0 rfl) <| .cons (ldo hO.st 0 rfl 0 rfl) <| .cons (ldo hO.st 0 rfl 1 rfl) <| .cons (rg (by unfold nC at hv1; omega)) <| .cons (rg (by unfold nC at hv1; omega)) <| .cons (fun w _ => In_calls _ _ _ w) <| .cons (fun hg => (ldso hO.st 0 rfl 0 rfl)) <| .cons (fun hg => (ix (enc := encI) (xs := (canR s rs ((nf 0) % 25) ((nf 1) % s.hours)).1) ((hO.get 6 rfl)) (by omega) (by omega))) <| .cons (fun hg => (ldR (enc := encI) (xs := (canR s rs ((nf 0) % 25) ((nf 1) % s.hours)).1) (a := p19) (i := (i : Int)) (fun x_ hx_ => ((hO.st x_ hx_).get 6 rfl)) (by omega) (by omega) 0 rfl)) <| .cons (fun hg => (fun w hE => turned_calls s v ((canR s rs ((nf 0) % 25) ((nf 1) % s.hours)).1.getD i default) w hv (by omega))) <| .cons (fun hg => (fun w hE => Place_calls (canR (mirS s) (rs.map (mirR s)) ((nf 0) % 25) ((nf 1) % s.hours)).1 p23 n24 c25 (trn s ((canR s rs ((nf 0) % 25) ((nf 1) % s.hours)).1.getD i default)) w ((hO.st w hE).get 7 rfl))) <| .nil) (by kernel_rfl) (by kernel_rfl) fun a w hF hE => ?_)
              replace hO := hO.ext hE; clear hE
              rcases Bool.eq_false_or_eq_true (cond (!(inB ((canR s rs ((nf 0) % 25) ((nf 1) % s.hours)).1.getD i default) 0 ((s.wide * s.high) - 1))) true (decide ((placeI (canR (mirS s) (rs.map (mirR s)) ((nf 0) % 25) ((nf 1) % s.hours)).1 (trn s ((canR s rs ((nf 0) % 25) ((nf 1) % s.hours)).1.getD i default))) < 0))) with hc37 | hc37
              · refine (W_true ((evOp hF (by kernel_rfl)).trans (congrArg Value.bool hc37)) ?_)
                exact absurd ((mir_step2 hai.1 hai.2.1 hai.2.2).symm.trans hc37) (by decide)
              · refine (W_false ((evOp hF (by kernel_rfl)).trans (congrArg Value.bool hc37)) ?_)
                refine (W_skip ?_)
                refine (region_q {} TBok hF (F' := [(2, pv b1), (13, .slice p19 n20 c21), (15, .slice p23 n24 c25), (23, iv ((i : Int) + 1))]) (rs := [.rng ((i : Int) + 1)]) [2, 13, 15, 23] (.cons (rg (by unfold nC at hv1; omega)) <| .nil) (by kernel_rfl) fun a w hF hE => ?_)
                replace hO := hO.ext hE; clear hE
                exact ⟨_, by omega, i + 1, rfl, by omega, hF, hO⟩
            · refine (W_false ((evOp hF (by kernel_rfl)).trans (congrArg Value.bool hc36)) ?_)
              have hc36_ := of_decide_eq_false hc36
              refine (W_exit ?_)
              refine W_seq (region_q {} TBok hF (F' := [(4, .bool true)]) (rs := [.call 23 #[] (.bool true)]) [4] (.cons (fun w _ => works_calls w) <| .nil) (by kernel_rfl) fun a w hF hE => ?_)
              replace hO := hO.ext hE; clear hE
              refine W_ret ?_
              show bodyPostM (FW none) 0 _ _ _ Exit.ret a w
              exact leave_r TBok hF (.nil _) (vs := [.bool true]) (rs := []) .nil (by kernel_rfl) ⟨rfl, hO.kp⟩

end Go.Proofs.Ytgihgcclabodbaa.DK
