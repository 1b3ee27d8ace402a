/- Walks: from which cells one comes to a cell. Printed by my gen.py out of shoal/e.py. -/
import Derived.Test.YtgihgcclabodbaaSD
namespace Go.Proofs.Ytgihgcclabodbaa.DK
open Go Go.Proofs
set_option linter.unusedVariables false
set_option linter.unusedSimpArgs false

theorem cellsA_len {s : Sea} (hv : seaB s = true) : (cellsA s 0).length ≤ 80 := by
  have h := sea_ok hv
  unfold cellsA
  rw [List.length_map]
  refine Nat.le_trans (List.length_filter_le _ _) ?_
  rw [List.length_range']; omega
set_option maxHeartbeats 4000000 in
set_option maxRecDepth 100000 in
theorem forth_calls (s : Sea) (v : SV) (mb : Nat) (qa : Option Addr) (qn qc : Nat) (w0 : World) :
    Calls Try.prog 81 #[.agg (sS8 s v mb qa qn qc)] w0 (fun e w' => ∃ b1, e = .returned (.agg #[.func (.func 86) #[] #[pv b1]]) ∧ Own w0 none_ [cel b1 (sS8 s v mb qa qn qc) 80] w') := by
  refine calls_of_W Try.func81 rfl (by kernel_rfl) (args := [.agg (sS8 s v mb qa qn qc)]) fun a hF => ?_
  replace hF : Fr 5 [] [(0, .agg (sS8 s v mb qa qn qc))] a := hF
  have hO : Own w0 none_ [] w0 := Own.start w0 _
  refine W_seq (region_seq ?_)
  refine op_box (i := 0) (t := 80) (v := .agg (sS8 s v mb qa qn qc)) (d := 1) hF hO (by kernel_rfl) fun a w b1 hF hO _ => ?_
  refine op_alloc (i := 1) (t := 125) (d := 2) (z := .agg #[.nilFunc]) hF hO (by kernel_rfl) (by kernel_rfl) fun a w b2 hF hO _ => ?_
  replace hF := hF.sel [1, 2]
  replace hF : Fr 5 [] [(1, pv b1), (2, pv b2)] a := hF
  refine W_seq (region_seq ?_)
  refine seq_quiet { md := [(1, 3)] } TBok hF (F' := [(2, pv b2), (4, .agg #[.func (.func 86) #[] #[pv b1]])]) (rs := [.raw (Instr.build 125 #[(0, .func (.func 86) #[] #[pv b1])]) (.agg #[.func (.func 86) #[] #[pv b1]])]) [0, 1] [2] [2, 4] (.cons (fun w _ => by kernel_rfl) <| .nil) (by kernel_rfl) fun a w hF hE => ?_
  replace hO := hO.ext hE; clear hE
  refine op_store (i := 2) (t := 125) (p := ⟨b2, 0, none⟩) (v := .agg #[.func (.func 86) #[] #[pv b1]]) (off := 0) (sz := 1) (cs' := #[.func (.func 86) #[] #[pv b1]]) hF hO (by kernel_rfl) 1 rfl rfl (by kernel_rfl) (by kernel_rfl) (by kernel_rfl) fun a w hF hO _ => ?_
  replace hF := hF.sel [2]
  replace hF : Fr 5 [] [(2, pv b2)] a := hF
  refine W_ret ?_
  show bodyPostM (FW none) 0 _ _ _ Exit.ret a w
  exact leave_r TBok hF (.nil _) (vs := [.agg #[.func (.func 86) #[] #[pv b1]]]) (rs := [.lds ⟨b2, 0, none⟩ [.func (.func 86) #[] #[pv b1]]]) (.cons (rdso hO 1 rfl 0 rfl) <| .nil) (by kernel_rfl) ⟨_, rfl, hO.sel [0] (by decide)⟩

set_option maxHeartbeats 4000000 in
set_option maxRecDepth 100000 in
theorem back_calls (s : Sea) (v : SV) (mb : Nat) (qa : Option Addr) (qn qc : Nat) (w0 : World) :
    Calls Try.prog 82 #[.agg (sS8 s v mb qa qn qc)] w0 (fun e w' => ∃ b1, e = .returned (.agg #[.func (.func 87) #[] #[pv b1]]) ∧ Own w0 none_ [cel b1 (sS8 s v mb qa qn qc) 80] w') := by
  refine calls_of_W Try.func82 rfl (by kernel_rfl) (args := [.agg (sS8 s v mb qa qn qc)]) fun a hF => ?_
  replace hF : Fr 5 [] [(0, .agg (sS8 s v mb qa qn qc))] a := hF
  have hO : Own w0 none_ [] w0 := Own.start w0 _
  refine W_seq (region_seq ?_)
  refine op_box (i := 0) (t := 80) (v := .agg (sS8 s v mb qa qn qc)) (d := 1) hF hO (by kernel_rfl) fun a w b1 hF hO _ => ?_
  refine op_alloc (i := 1) (t := 125) (d := 2) (z := .agg #[.nilFunc]) hF hO (by kernel_rfl) (by kernel_rfl) fun a w b2 hF hO _ => ?_
  replace hF := hF.sel [1, 2]
  replace hF : Fr 5 [] [(1, pv b1), (2, pv b2)] a := hF
  refine W_seq (region_seq ?_)
  refine seq_quiet { md := [(1, 3)] } TBok hF (F' := [(2, pv b2), (4, .agg #[.func (.func 87) #[] #[pv b1]])]) (rs := [.raw (Instr.build 125 #[(0, .func (.func 87) #[] #[pv b1])]) (.agg #[.func (.func 87) #[] #[pv b1]])]) [0, 1] [2] [2, 4] (.cons (fun w _ => by kernel_rfl) <| .nil) (by kernel_rfl) fun a w hF hE => ?_
  replace hO := hO.ext hE; clear hE
  refine op_store (i := 2) (t := 125) (p := ⟨b2, 0, none⟩) (v := .agg #[.func (.func 87) #[] #[pv b1]]) (off := 0) (sz := 1) (cs' := #[.func (.func 87) #[] #[pv b1]]) hF hO (by kernel_rfl) 1 rfl rfl (by kernel_rfl) (by kernel_rfl) (by kernel_rfl) fun a w hF hO _ => ?_
  replace hF := hF.sel [2]
  replace hF : Fr 5 [] [(2, pv b2)] a := hF
  refine W_ret ?_
  show bodyPostM (FW none) 0 _ _ _ Exit.ret a w
  exact leave_r TBok hF (.nil _) (vs := [.agg #[.func (.func 87) #[] #[pv b1]]]) (rs := [.lds ⟨b2, 0, none⟩ [.func (.func 87) #[] #[pv b1]]]) (.cons (rdso hO 1 rfl 0 rfl) <| .nil) (by kernel_rfl) ⟨_, rfl, hO.sel [0] (by decide)⟩

set_option maxHeartbeats 4000000 in
set_option maxRecDepth 100000 in
theorem forth1_calls (s : Sea) (v : SV) (mb : Nat) (qa : Option Addr) (qn qc : Nat) (rs : List Rp) (h c : Int) (bg : Nat) (w0 : World) (hg : LogR w0.heap.size w0 v mb qa qn s rs) (hv : seaB s = true) (hr : rpsB s rs = true) (hc : 0 ≤ c ∧ c < nC s) (hb : Ro bg (sL8 s v mb qa qn qc) w0) (hh : 1 ≤ h ∧ h ≤ v.dn) :
    Calls Try.prog 86 #[iv h, iv c, pv bg] w0 (fun e w' => ∃ p n c_, ((cellsA s 0).filter (fun o => (stepP s (h - 1) (pl s o) (pl s c)))).length = n ∧ e = .returned (.slice p n c_) ∧ Own w0 none_ [rowR 3 1 (.slice p n c_) n (((cellsA s 0).filter (fun o => (stepP s (h - 1) (pl s o) (pl s c)))).flatMap encI)] w') := by
  have hs := hg.sea; have hq1 := hg.reps.len; have hrl := rqs_len (s := s) (rs := rs); have hrp := rp_ok hr; have hl1 := hs.land.len; have hl2 := hs.drift.len; have hs1 := hs.land.size; have hs2 := hs.drift.size; have hr_ := hs.rg; unfold i64 at hr_; have hv1 := sea_ok hv
  refine calls_of_W Try.func86 rfl (by kernel_rfl) (args := [iv h, iv c, pv bg]) fun a hF => ?_
  replace hF : Fr 30 [] [(0, iv h), (1, iv c), (2, pv bg)] a := hF
  have hO : Own w0 none_ [] w0 := Own.start w0 _
  refine W_seq (region_seq ?_)
  refine op_box (i := 0) (t := 3) (v := iv h) (d := 3) hF hO (by kernel_rfl) fun a w b1 hF hO _ => ?_
  refine op_box (i := 1) (t := 3) (v := iv c) (d := 4) hF hO (by kernel_rfl) fun a w b2 hF hO _ => ?_
  refine seq_quiet {} TBok hF (F' := [(2, pv bg), (3, pv b1), (4, pv b2), (5, .slice none 0 0)]) (rs := []) [2] [] [2, 3, 4, 5] .nil (by kernel_rfl) fun a w hF hE => ?_
  replace hO := hO.ext hE; clear hE
  refine W_seq (region_seq ?_)
  refine op_alloc (i := 0) (t := 22) (d := 6) (z := .slice none 0 0) hF hO (by kernel_rfl) (by kernel_rfl) fun a w b3 hF hO _ => ?_
  replace hF := hF.sel [2, 3, 4, 5, 6]
  replace hF : Fr 30 [] [(2, pv bg), (3, pv b1), (4, pv b2), (5, .slice none 0 0), (6, pv b3)] a := hF
  refine W_seq ?_
  refine W_seq (region_seq ?_)
  refine seq_quiet {} TBok hF (F' := [(2, pv bg), (3, pv b1), (4, pv b2), (5, .slice none 0 0), (6, pv b3), (9, .agg (sS7 s v mb))]) (rs := [.lds ⟨bg, 0, none⟩ (sL7 s v mb)]) [0, 1] [2] [2, 3, 4, 5, 6, 9] (.cons (ldsr hO.st hb (fun h => h) 0 rfl) <| .nil) (by kernel_rfl) fun a w hF hE => ?_
  replace hO := hO.ext hE; clear hE
  refine op_call (i := 2) (f := 59) (args := #[.agg (sS7 s v mb)]) (d := some 10) TBok (by kernel_rfl) hF (by kernel_rfl) (cells_calls s v mb _) fun e w hR => ?_
  obtain ⟨b4, he, hO2⟩ := hR
  refine ⟨_, he, fun a hF => ?_⟩
  replace hO := hO.joinE hO2; clear hO2 he
  replace hO : Own w0 none_ [cel b1 #[iv h] 3, cel b2 #[iv c] 3, cel b3 #[.slice none 0 0] 22, cel b4 (sS7 s v mb) 77] w := hO
  replace hF := hF.sel [2, 3, 4, 5, 6, 10]
  replace hF : Fr 30 [] [(2, pv bg), (3, pv b1), (4, pv b2), (5, .slice none 0 0), (6, pv b3), (10, .func (.func 84) #[] #[pv b4])] a := hF
  refine (W_block ?_)
  replace hO := hO.nilRow 3 1
  refine W_range (t := 11) (f := 84) (fst := #[]) (cap := #[pv b4]) TBok hF hO (by kernel_rfl) (by kernel_rfl) fun fn w D5 lr6 hlr hO hE => ?_
  clear hE; have hFo := hF
  refine (cells_run s v mb b4 (D5 + 1) (fun r w => ∃ (acc : List Int), ∃ (p_ : Option Addr), ∃ (k_ : Nat), ∃ (c_ : Nat), acc ++ r.filter (fun o => (stepP s (h - 1) (pl s o) (pl s c))) = (cellsA s 0).filter (fun o => (stepP s (h - 1) (pl s o) (pl s c))) ∧ acc.length = k_ ∧ (k_ + r.length ≤ 80 ∧ (∀ y ∈ r, y ∈ cellsA s 0)) ∧ Own w0 none_ [cel b1 #[iv h] 3, cel b2 #[iv c] 3, cel b3 #[.slice p_ k_ c_] 22, cel b4 (sS7 s v mb) 77, rowR 3 1 (.slice p_ k_ c_) k_ (acc.flatMap encI), pt D5 (.deferred (some [])), pt (D5 + 1) (.loop lr6)] w) (fun w => False) w hv ?_ ?_ ?_ ?_ ?_).mono ?_
  · rintro r w w2 ⟨acc, p_, k_, c_, heq, hkl, hlen, hO⟩ hE; exact ⟨acc, p_, k_, c_, heq, hkl, hlen, hO.ext hE⟩
  · exact fun _ _ h _ => h.elim
  · rintro r w ⟨acc, p_, k_, c_, heq, hkl, hlen, hO⟩
    exact ⟨Ro.of_ok (cs := (sL7 s v mb)) (hO.get 3 rfl), (hg.upM hO.kp nom (Nat.le_refl _)).land⟩
  · clear hO
    rintro x7 r w ⟨acc, p_, k_, c_, heq, hkl, hlen, hO⟩
    have hl1_ : w.heap[D5 + 1]? = some (.loop lr6) := hO.get 6 rfl
    rw [hlr] at hl1_
    refine yields_ofR hl1_ fun Rr hRr => ?_
    clear hl1_
    have hF := hFo.round (t := 11) (by kernel_rfl) (iv x7)
    replace hF : Fr 30 [] [(2, pv bg), (3, pv b1), (4, pv b2), (5, .slice none 0 0), (6, pv b3), (10, .func (.func 84) #[] #[pv b4]), (11, iv x7)] _ := hF.sel [2, 3, 4, 5, 6, 10, 11]
    have hxm := mem_cellsA (hlen.2 _ (List.mem_cons_self ..))
    replace hlen : k_ + (x7 :: r).length ≤ 80 ∧ (∀ y ∈ r, y ∈ cellsA s 0) := ⟨hlen.1, fun y hy => hlen.2 y (List.mem_cons_of_mem _ hy)⟩
    refine (region_q {} TBok hF (F' := [(2, pv bg), (3, pv b1), (4, pv b2), (5, .slice none 0 0), (6, pv b3), (7, iv x7), (10, .func (.func 84) #[] #[pv b4])]) (rs := []) [2, 3, 4, 5, 6, 7, 10] .nil (by kernel_rfl) fun a w hF hE => ?_)
    replace hO := hO.ext hE; clear hE
    obtain ⟨w, hb, hO⟩ := begin_round (P := Try.prog) hO 6 rfl (by rw [hlr]; rfl)
    refine ⟨rfl, w, hb, ?_⟩
    clear hb
    refine (W_block ?_)
    refine W_seq (region_d {} mixed TBok hF (F' := [(2, pv bg), (3, pv b1), (4, pv b2), (5, .slice none 0 0), (6, pv b3), (7, iv x7), (10, .func (.func 84) #[] #[pv b4]), (24, .bool (stepP s (h - 1) (pl s x7) (pl s c)))]) (rs := [.lds ⟨bg, 0, none⟩ (sL7 s v mb), .ld ⟨b1, 0, none⟩ (iv h), .rng (h - 1), .lds ⟨bg, 0, none⟩ (sL7 s v mb), .call 50 #[.agg (sS7 s v mb), iv x7] (.agg #[iv ((pl s x7).1), iv ((pl s x7).2)]), .lds ⟨bg, 0, none⟩ (sL7 s v mb), .ld ⟨b2, 0, none⟩ (iv c), .call 50 #[.agg (sS7 s v mb), iv c] (.agg #[iv ((pl s c).1), iv ((pl s c).2)]), .call 51 #[.agg (sS7 s v mb), iv (h - 1), .agg #[iv ((pl s x7).1), iv ((pl s x7).2)], .agg #[iv ((pl s c).1), iv ((pl s c).2)]] (.bool (stepP s (h - 1) (pl s x7) (pl s c)))]) [2, 3, 4, 5, 6, 7, 10, 24] (.cons (ldsr hO.st hb (fun h => h) 0 rfl) <| .cons (ldo hO.st 0 rfl 0 rfl) <| .cons (rg (by omega)) <| .cons (ldsr hO.st hb (fun h => h) 0 rfl) <| .cons (fun w _ => place_calls s v mb x7 w hv (by omega)) <| .cons (ldsr hO.st hb (fun h => h) 0 rfl) <| .cons (ldo hO.st 1 rfl 0 rfl) <| .cons (fun w _ => place_calls s v mb c w hv (by omega)) <| .cons (fun w hE => steps_calls s v mb (h - 1) (pl s x7) (pl s c) w (hs.upM (hO.st w hE).kp nom (Nat.le_refl _)) hv (by omega) (pl_bd (by omega) (by omega) (by omega) (by omega)) (pl_bd (by omega) (by omega) (by omega) (by omega))) <| .nil) (by kernel_rfl) (by kernel_rfl) fun a w hF hE => ?_)
    replace hO := hO.ext hE; clear hE
    rcases Bool.eq_false_or_eq_true (stepP s (h - 1) (pl s x7) (pl s c)) with hc8 | hc8
    · refine (W_true ((evOp hF (by kernel_rfl)).trans (congrArg Value.bool hc8)) ?_)
      refine (region_seq ?_)
      refine seq_quiet {} TBok hF (F' := [(2, pv bg), (3, pv b1), (4, pv b2), (5, .slice none 0 0), (6, pv b3), (10, .func (.func 84) #[] #[pv b4]), (25, .slice p_ k_ c_), (26, iv x7)]) (rs := [.ld ⟨b3, 0, none⟩ (.slice p_ k_ c_)]) [0, 1] [2, 3, 4] [2, 3, 4, 5, 6, 10, 25, 26] (.cons (ldo hO.st 2 rfl 0 rfl) <| .nil) (by kernel_rfl) fun a w hF hE => ?_
      replace hO := hO.ext hE; clear hE
      refine op_bsl (i := 2) (t := 22) (e := 3) (len := 1) (ps := [(0, iv x7)]) (d := 27) (sz := 1) (cs := #[iv x7]) (z := iv 0) hF hO (by kernel_rfl) (by kernel_rfl) (by kernel_rfl) (by kernel_rfl) (by kernel_rfl) fun a w b9 hF hO _ => ?_
      replace hO : Own w0 none_ [cel b1 #[iv h] 3, cel b2 #[iv c] 3, cel b3 #[.slice p_ k_ c_] 22, cel b4 (sS7 s v mb) 77, rowR 3 1 (.slice p_ k_ c_) k_ (acc.flatMap encI), pt D5 (.deferred (some [])), pt (D5 + 1) (.loop { lr6 with state := .busy }), cel b9 #[iv x7] 3] w := hO
      refine op_appR (i := 3) (t := 22) (ty := 22) (e := 3) (d := 28) rowT22 hF hO (by kernel_rfl) 4 rfl 7 rfl (by kernel_rfl) (by rw [List.length_cons] at hlen; omega) fun a w p10 c11 hF hO hx => ?_
      clear hx
      refine op_store (i := 4) (t := 22) (p := ⟨b3, 0, none⟩) (v := .slice p10 (k_ + 1) c11) (off := 0) (sz := 1) (cs' := #[.slice p10 (k_ + 1) c11]) hF hO (by kernel_rfl) 2 rfl rfl (by kernel_rfl) (by kernel_rfl) (by kernel_rfl) fun a w hF hO _ => ?_
      replace hF := hF.sel [2, 3, 4, 5, 6, 10]
      replace hF : Fr 30 [] [(2, pv bg), (3, pv b1), (4, pv b2), (5, .slice none 0 0), (6, pv b3), (10, .func (.func 84) #[] #[pv b4])] a := hF
      show roundPost Try.prog (D5 + 1) (fun e w => ∃ b, e = .returned (.bool b) ∧ Rr b w) (Exit.normal) a w
      replace hO := hO.drop1 7
      replace hO : Own w0 none_ [cel b1 #[iv h] 3, cel b2 #[iv c] 3, cel b3 #[.slice p10 (k_ + 1) c11] 22, cel b4 (sS7 s v mb) 77, rowR 3 1 (.slice p10 (k_ + 1) c11) (k_ + 1) ((acc.flatMap encI) ++ (#[iv x7] : Array Value).toList), pt D5 (.deferred (some [])), pt (D5 + 1) (.loop { lr6 with state := .busy })] w := hO
      replace hO : Own w0 none_ [cel b1 #[iv h] 3, cel b2 #[iv c] 3, cel b3 #[.slice p10 (k_ + 1) c11] 22, cel b4 (sS7 s v mb) 77, rowR 3 1 (.slice p10 (k_ + 1) c11) (k_ + 1) ((acc ++ [x7]).flatMap encI), pt D5 (.deferred (some [])), pt (D5 + 1) (.loop { lr6 with state := .busy })] w := hO.cast (by rw [List.flatMap_append]; rfl)
      obtain ⟨w, he, hO⟩ := end_round (P := Try.prog) none hO 6 rfl
      refine round_next he ?_
      rw [List.filter_cons_of_pos (p := (fun o => (stepP s (h - 1) (pl s o) (pl s c)))) hc8, List.append_cons] at heq
      rw [List.length_cons] at hlen
      rw [hRr]
      exact ⟨_, p10, (k_ + 1), c11, heq, by rw [List.length_append, hkl]; rfl, ⟨by omega, hlen.2⟩, hO.cast (by rw [hlr]; rfl)⟩
    · refine (W_false ((evOp hF (by kernel_rfl)).trans (congrArg Value.bool hc8)) ?_)
      refine (W_skip ?_)
      show roundPost Try.prog (D5 + 1) (fun e w => ∃ b, e = .returned (.bool b) ∧ Rr b w) (Exit.normal) a w
      obtain ⟨w, he, hO⟩ := end_round (P := Try.prog) none hO 6 rfl
      refine round_next he ?_
      rw [List.filter_cons_of_neg (p := (fun o => (stepP s (h - 1) (pl s o) (pl s c)))) (by simp [hc8])] at heq
      rw [List.length_cons] at hlen
      rw [hRr]
      exact ⟨acc, p_, k_, c_, heq, hkl, ⟨by omega, hlen.2⟩, hO.cast (by rw [hlr]; rfl)⟩
  · exact ⟨[], none, 0, 0, List.nil_append _, rfl, ⟨by have := cellsA_len hv; omega, fun y hy => hy⟩, hO⟩
  clear hO
  rintro e w ⟨he, hJ | hS⟩
  · obtain ⟨acc, p_, k_, c_, heq, hkl, hlen, hO⟩ := hJ
    subst he
    refine ⟨_, rfl, lr6, hO.get 6 rfl, by rw [hlr]; simp [loopR], .inl ⟨by rw [hlr]; rfl, fun a hF => ?_⟩⟩
    replace hO := hO.put 6 rfl (.loop { lr6 with state := .exhausted })
    generalize w.putObj (D5 + 1) (.loop { lr6 with state := .exhausted }) = w at hO ⊢
    replace hO := hO.drop1 6
    rw [List.filter_nil, List.append_nil] at heq
    refine W_seq (region_q {} TBok hF (F' := [(5, .slice p_ k_ c_)]) (rs := [.ld ⟨b3, 0, none⟩ (.slice p_ k_ c_)]) [5] (.cons (ldo hO.st 2 rfl 0 rfl) <| .nil) (by kernel_rfl) fun a w hF hE => ?_)
    replace hO := hO.ext hE; clear hE
    refine W_ret ?_
    show bodyPostM (FW none) 0 _ _ _ Exit.ret a w
    obtain ⟨w, hs, hO⟩ := shut1 hO 5 rfl
    replace hO : Own w0 none_ [cel b1 #[iv h] 3, cel b2 #[iv c] 3, cel b3 #[.slice p_ k_ c_] 22, cel b4 (sS7 s v mb) 77, rowR 3 1 (.slice p_ k_ c_) k_ (acc.flatMap encI), pt D5 (.deferred none)] w := hO
    have hO3 := hO.sel [4] (by decide)
    exact leave_r TBok hF hs (vs := [.slice p_ k_ c_]) (rs := []) .nil (by kernel_rfl) ⟨_, _, _, by rw [← heq, hkl], rfl, hO3.cast (by rw [heq]; rfl)⟩
  · exact hS.elim

set_option maxHeartbeats 4000000 in
set_option maxRecDepth 100000 in
theorem back1_calls (s : Sea) (v : SV) (mb : Nat) (qa : Option Addr) (qn qc : Nat) (rs : List Rp) (h c : Int) (bg : Nat) (w0 : World) (hg : LogR w0.heap.size w0 v mb qa qn s rs) (hv : seaB s = true) (hr : rpsB s rs = true) (hc : 0 ≤ c ∧ c < nC s) (hb : Ro bg (sL8 s v mb qa qn qc) w0) (hh : 0 ≤ h ∧ h < v.dn) :
    Calls Try.prog 87 #[iv h, iv c, pv bg] w0 (fun e w' => ∃ p n c_, ((cellsA s 0).filter (fun o => (stepP s h (pl s c) (pl s o)))).length = n ∧ e = .returned (.slice p n c_) ∧ Own w0 none_ [rowR 3 1 (.slice p n c_) n (((cellsA s 0).filter (fun o => (stepP s h (pl s c) (pl s o)))).flatMap encI)] w') := by
  have hs := hg.sea; have hq1 := hg.reps.len; have hrl := rqs_len (s := s) (rs := rs); have hrp := rp_ok hr; have hl1 := hs.land.len; have hl2 := hs.drift.len; have hs1 := hs.land.size; have hs2 := hs.drift.size; have hr_ := hs.rg; unfold i64 at hr_; have hv1 := sea_ok hv
  refine calls_of_W Try.func87 rfl (by kernel_rfl) (args := [iv h, iv c, pv bg]) fun a hF => ?_
  replace hF : Fr 29 [] [(0, iv h), (1, iv c), (2, pv bg)] a := hF
  have hO : Own w0 none_ [] w0 := Own.start w0 _
  refine W_seq (region_seq ?_)
  refine op_box (i := 0) (t := 3) (v := iv h) (d := 3) hF hO (by kernel_rfl) fun a w b1 hF hO _ => ?_
  refine op_box (i := 1) (t := 3) (v := iv c) (d := 4) hF hO (by kernel_rfl) fun a w b2 hF hO _ => ?_
  refine seq_quiet {} TBok hF (F' := [(2, pv bg), (3, pv b1), (4, pv b2), (5, .slice none 0 0)]) (rs := []) [2] [] [2, 3, 4, 5] .nil (by kernel_rfl) fun a w hF hE => ?_
  replace hO := hO.ext hE; clear hE
  refine W_seq (region_seq ?_)
  refine op_alloc (i := 0) (t := 22) (d := 6) (z := .slice none 0 0) hF hO (by kernel_rfl) (by kernel_rfl) fun a w b3 hF hO _ => ?_
  replace hF := hF.sel [2, 3, 4, 5, 6]
  replace hF : Fr 29 [] [(2, pv bg), (3, pv b1), (4, pv b2), (5, .slice none 0 0), (6, pv b3)] a := hF
  refine W_seq ?_
  refine W_seq (region_seq ?_)
  refine seq_quiet {} TBok hF (F' := [(2, pv bg), (3, pv b1), (4, pv b2), (5, .slice none 0 0), (6, pv b3), (9, .agg (sS7 s v mb))]) (rs := [.lds ⟨bg, 0, none⟩ (sL7 s v mb)]) [0, 1] [2] [2, 3, 4, 5, 6, 9] (.cons (ldsr hO.st hb (fun h => h) 0 rfl) <| .nil) (by kernel_rfl) fun a w hF hE => ?_
  replace hO := hO.ext hE; clear hE
  refine op_call (i := 2) (f := 59) (args := #[.agg (sS7 s v mb)]) (d := some 10) TBok (by kernel_rfl) hF (by kernel_rfl) (cells_calls s v mb _) fun e w hR => ?_
  obtain ⟨b4, he, hO2⟩ := hR
  refine ⟨_, he, fun a hF => ?_⟩
  replace hO := hO.joinE hO2; clear hO2 he
  replace hO : Own w0 none_ [cel b1 #[iv h] 3, cel b2 #[iv c] 3, cel b3 #[.slice none 0 0] 22, cel b4 (sS7 s v mb) 77] w := hO
  replace hF := hF.sel [2, 3, 4, 5, 6, 10]
  replace hF : Fr 29 [] [(2, pv bg), (3, pv b1), (4, pv b2), (5, .slice none 0 0), (6, pv b3), (10, .func (.func 84) #[] #[pv b4])] a := hF
  refine (W_block ?_)
  replace hO := hO.nilRow 3 1
  refine W_range (t := 11) (f := 84) (fst := #[]) (cap := #[pv b4]) TBok hF hO (by kernel_rfl) (by kernel_rfl) fun fn w D5 lr6 hlr hO hE => ?_
  clear hE; have hFo := hF
  refine (cells_run s v mb b4 (D5 + 1) (fun r w => ∃ (acc : List Int), ∃ (p_ : Option Addr), ∃ (k_ : Nat), ∃ (c_ : Nat), acc ++ r.filter (fun o => (stepP s h (pl s c) (pl s o))) = (cellsA s 0).filter (fun o => (stepP s h (pl s c) (pl s o))) ∧ acc.length = k_ ∧ (k_ + r.length ≤ 80 ∧ (∀ y ∈ r, y ∈ cellsA s 0)) ∧ Own w0 none_ [cel b1 #[iv h] 3, cel b2 #[iv c] 3, cel b3 #[.slice p_ k_ c_] 22, cel b4 (sS7 s v mb) 77, rowR 3 1 (.slice p_ k_ c_) k_ (acc.flatMap encI), pt D5 (.deferred (some [])), pt (D5 + 1) (.loop lr6)] w) (fun w => False) w hv ?_ ?_ ?_ ?_ ?_).mono ?_
  · rintro r w w2 ⟨acc, p_, k_, c_, heq, hkl, hlen, hO⟩ hE; exact ⟨acc, p_, k_, c_, heq, hkl, hlen, hO.ext hE⟩
  · exact fun _ _ h _ => h.elim
  · rintro r w ⟨acc, p_, k_, c_, heq, hkl, hlen, hO⟩
    exact ⟨Ro.of_ok (cs := (sL7 s v mb)) (hO.get 3 rfl), (hg.upM hO.kp nom (Nat.le_refl _)).land⟩
  · clear hO
    rintro x7 r w ⟨acc, p_, k_, c_, heq, hkl, hlen, hO⟩
    have hl1_ : w.heap[D5 + 1]? = some (.loop lr6) := hO.get 6 rfl
    rw [hlr] at hl1_
    refine yields_ofR hl1_ fun Rr hRr => ?_
    clear hl1_
    have hF := hFo.round (t := 11) (by kernel_rfl) (iv x7)
    replace hF : Fr 29 [] [(2, pv bg), (3, pv b1), (4, pv b2), (5, .slice none 0 0), (6, pv b3), (10, .func (.func 84) #[] #[pv b4]), (11, iv x7)] _ := hF.sel [2, 3, 4, 5, 6, 10, 11]
    have hxm := mem_cellsA (hlen.2 _ (List.mem_cons_self ..))
    replace hlen : k_ + (x7 :: r).length ≤ 80 ∧ (∀ y ∈ r, y ∈ cellsA s 0) := ⟨hlen.1, fun y hy => hlen.2 y (List.mem_cons_of_mem _ hy)⟩
    refine (region_q {} TBok hF (F' := [(2, pv bg), (3, pv b1), (4, pv b2), (5, .slice none 0 0), (6, pv b3), (7, iv x7), (10, .func (.func 84) #[] #[pv b4])]) (rs := []) [2, 3, 4, 5, 6, 7, 10] .nil (by kernel_rfl) fun a w hF hE => ?_)
    replace hO := hO.ext hE; clear hE
    obtain ⟨w, hb, hO⟩ := begin_round (P := Try.prog) hO 6 rfl (by rw [hlr]; rfl)
    refine ⟨rfl, w, hb, ?_⟩
    clear hb
    refine (W_block ?_)
    refine W_seq (region_d {} mixed TBok hF (F' := [(2, pv bg), (3, pv b1), (4, pv b2), (5, .slice none 0 0), (6, pv b3), (7, iv x7), (10, .func (.func 84) #[] #[pv b4]), (23, .bool (stepP s h (pl s c) (pl s x7)))]) (rs := [.lds ⟨bg, 0, none⟩ (sL7 s v mb), .ld ⟨b1, 0, none⟩ (iv h), .lds ⟨bg, 0, none⟩ (sL7 s v mb), .ld ⟨b2, 0, none⟩ (iv c), .call 50 #[.agg (sS7 s v mb), iv c] (.agg #[iv ((pl s c).1), iv ((pl s c).2)]), .lds ⟨bg, 0, none⟩ (sL7 s v mb), .call 50 #[.agg (sS7 s v mb), iv x7] (.agg #[iv ((pl s x7).1), iv ((pl s x7).2)]), .call 51 #[.agg (sS7 s v mb), iv h, .agg #[iv ((pl s c).1), iv ((pl s c).2)], .agg #[iv ((pl s x7).1), iv ((pl s x7).2)]] (.bool (stepP s h (pl s c) (pl s x7)))]) [2, 3, 4, 5, 6, 7, 10, 23] (.cons (ldsr hO.st hb (fun h => h) 0 rfl) <| .cons (ldo hO.st 0 rfl 0 rfl) <| .cons (ldsr hO.st hb (fun h => h) 0 rfl) <| .cons (ldo hO.st 1 rfl 0 rfl) <| .cons (fun w _ => place_calls s v mb c w hv (by omega)) <| .cons (ldsr hO.st hb (fun h => h) 0 rfl) <| .cons (fun w _ => place_calls s v mb x7 w hv (by omega)) <| .cons (fun w hE => steps_calls s v mb h (pl s c) (pl s x7) w (hs.upM (hO.st w hE).kp nom (Nat.le_refl _)) hv (by omega) (pl_bd (by omega) (by omega) (by omega) (by omega)) (pl_bd (by omega) (by omega) (by omega) (by omega))) <| .nil) (by kernel_rfl) (by kernel_rfl) fun a w hF hE => ?_)
    replace hO := hO.ext hE; clear hE
    rcases Bool.eq_false_or_eq_true (stepP s h (pl s c) (pl s x7)) with hc8 | hc8
    · refine (W_true ((evOp hF (by kernel_rfl)).trans (congrArg Value.bool hc8)) ?_)
      refine (region_seq ?_)
      refine seq_quiet {} TBok hF (F' := [(2, pv bg), (3, pv b1), (4, pv b2), (5, .slice none 0 0), (6, pv b3), (10, .func (.func 84) #[] #[pv b4]), (24, .slice p_ k_ c_), (25, iv x7)]) (rs := [.ld ⟨b3, 0, none⟩ (.slice p_ k_ c_)]) [0, 1] [2, 3, 4] [2, 3, 4, 5, 6, 10, 24, 25] (.cons (ldo hO.st 2 rfl 0 rfl) <| .nil) (by kernel_rfl) fun a w hF hE => ?_
      replace hO := hO.ext hE; clear hE
      refine op_bsl (i := 2) (t := 22) (e := 3) (len := 1) (ps := [(0, iv x7)]) (d := 26) (sz := 1) (cs := #[iv x7]) (z := iv 0) hF hO (by kernel_rfl) (by kernel_rfl) (by kernel_rfl) (by kernel_rfl) (by kernel_rfl) fun a w b9 hF hO _ => ?_
      replace hO : Own w0 none_ [cel b1 #[iv h] 3, cel b2 #[iv c] 3, cel b3 #[.slice p_ k_ c_] 22, cel b4 (sS7 s v mb) 77, rowR 3 1 (.slice p_ k_ c_) k_ (acc.flatMap encI), pt D5 (.deferred (some [])), pt (D5 + 1) (.loop { lr6 with state := .busy }), cel b9 #[iv x7] 3] w := hO
      refine op_appR (i := 3) (t := 22) (ty := 22) (e := 3) (d := 27) rowT22 hF hO (by kernel_rfl) 4 rfl 7 rfl (by kernel_rfl) (by rw [List.length_cons] at hlen; omega) fun a w p10 c11 hF hO hx => ?_
      clear hx
      refine op_store (i := 4) (t := 22) (p := ⟨b3, 0, none⟩) (v := .slice p10 (k_ + 1) c11) (off := 0) (sz := 1) (cs' := #[.slice p10 (k_ + 1) c11]) hF hO (by kernel_rfl) 2 rfl rfl (by kernel_rfl) (by kernel_rfl) (by kernel_rfl) fun a w hF hO _ => ?_
      replace hF := hF.sel [2, 3, 4, 5, 6, 10]
      replace hF : Fr 29 [] [(2, pv bg), (3, pv b1), (4, pv b2), (5, .slice none 0 0), (6, pv b3), (10, .func (.func 84) #[] #[pv b4])] a := hF
      show roundPost Try.prog (D5 + 1) (fun e w => ∃ b, e = .returned (.bool b) ∧ Rr b w) (Exit.normal) a w
      replace hO := hO.drop1 7
      replace hO : Own w0 none_ [cel b1 #[iv h] 3, cel b2 #[iv c] 3, cel b3 #[.slice p10 (k_ + 1) c11] 22, cel b4 (sS7 s v mb) 77, rowR 3 1 (.slice p10 (k_ + 1) c11) (k_ + 1) ((acc.flatMap encI) ++ (#[iv x7] : Array Value).toList), pt D5 (.deferred (some [])), pt (D5 + 1) (.loop { lr6 with state := .busy })] w := hO
      replace hO : Own w0 none_ [cel b1 #[iv h] 3, cel b2 #[iv c] 3, cel b3 #[.slice p10 (k_ + 1) c11] 22, cel b4 (sS7 s v mb) 77, rowR 3 1 (.slice p10 (k_ + 1) c11) (k_ + 1) ((acc ++ [x7]).flatMap encI), pt D5 (.deferred (some [])), pt (D5 + 1) (.loop { lr6 with state := .busy })] w := hO.cast (by rw [List.flatMap_append]; rfl)
      obtain ⟨w, he, hO⟩ := end_round (P := Try.prog) none hO 6 rfl
      refine round_next he ?_
      rw [List.filter_cons_of_pos (p := (fun o => (stepP s h (pl s c) (pl s o)))) hc8, List.append_cons] at heq
      rw [List.length_cons] at hlen
      rw [hRr]
      exact ⟨_, p10, (k_ + 1), c11, heq, by rw [List.length_append, hkl]; rfl, ⟨by omega, hlen.2⟩, hO.cast (by rw [hlr]; rfl)⟩
    · refine (W_false ((evOp hF (by kernel_rfl)).trans (congrArg Value.bool hc8)) ?_)
      refine (W_skip ?_)
      show roundPost Try.prog (D5 + 1) (fun e w => ∃ b, e = .returned (.bool b) ∧ Rr b w) (Exit.normal) a w
      obtain ⟨w, he, hO⟩ := end_round (P := Try.prog) none hO 6 rfl
      refine round_next he ?_
      rw [List.filter_cons_of_neg (p := (fun o => (stepP s h (pl s c) (pl s o)))) (by simp [hc8])] at heq
      rw [List.length_cons] at hlen
      rw [hRr]
      exact ⟨acc, p_, k_, c_, heq, hkl, ⟨by omega, hlen.2⟩, hO.cast (by rw [hlr]; rfl)⟩
  · exact ⟨[], none, 0, 0, List.nil_append _, rfl, ⟨by have := cellsA_len hv; omega, fun y hy => hy⟩, hO⟩
  clear hO
  rintro e w ⟨he, hJ | hS⟩
  · obtain ⟨acc, p_, k_, c_, heq, hkl, hlen, hO⟩ := hJ
    subst he
    refine ⟨_, rfl, lr6, hO.get 6 rfl, by rw [hlr]; simp [loopR], .inl ⟨by rw [hlr]; rfl, fun a hF => ?_⟩⟩
    replace hO := hO.put 6 rfl (.loop { lr6 with state := .exhausted })
    generalize w.putObj (D5 + 1) (.loop { lr6 with state := .exhausted }) = w at hO ⊢
    replace hO := hO.drop1 6
    rw [List.filter_nil, List.append_nil] at heq
    refine W_seq (region_q {} TBok hF (F' := [(5, .slice p_ k_ c_)]) (rs := [.ld ⟨b3, 0, none⟩ (.slice p_ k_ c_)]) [5] (.cons (ldo hO.st 2 rfl 0 rfl) <| .nil) (by kernel_rfl) fun a w hF hE => ?_)
    replace hO := hO.ext hE; clear hE
    refine W_ret ?_
    show bodyPostM (FW none) 0 _ _ _ Exit.ret a w
    obtain ⟨w, hs, hO⟩ := shut1 hO 5 rfl
    replace hO : Own w0 none_ [cel b1 #[iv h] 3, cel b2 #[iv c] 3, cel b3 #[.slice p_ k_ c_] 22, cel b4 (sS7 s v mb) 77, rowR 3 1 (.slice p_ k_ c_) k_ (acc.flatMap encI), pt D5 (.deferred none)] w := hO
    have hO3 := hO.sel [4] (by decide)
    exact leave_r TBok hF hs (vs := [.slice p_ k_ c_]) (rs := []) .nil (by kernel_rfl) ⟨_, _, _, by rw [← heq, hkl], rfl, hO3.cast (by rw [heq]; rfl)⟩
  · exact hS.elim

end Go.Proofs.Ytgihgcclabodbaa.DK
