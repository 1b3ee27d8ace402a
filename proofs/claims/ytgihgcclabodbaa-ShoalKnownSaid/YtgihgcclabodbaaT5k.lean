/- Walks: the chapter's examples. Printed by my gen.py out of shoal/z.py. -/
import Derived.Test.YtgihgcclabodbaaSP
import Derived.Test.YtgihgcclabodbaaSX
import Derived.Test.YtgihgcclabodbaaSU
namespace Go.Proofs.Ytgihgcclabodbaa.DK
open Go Go.Proofs
set_option linter.unusedVariables false
set_option linter.unusedSimpArgs false

/-- Where the chapter's sea lies. -/
def rowV (b : Nat) : SV := ⟨none, 0, 0, some ⟨b, 0, none⟩, 2, 2⟩
theorem row_ok : seaB rowS = true := by decide
theorem row_R {w0 w : World} {M : Nat → Prop} {L : List Res} {b : Nat} (hO : Own w0 M L w) (j : Nat) (hj : L[j]? = some (cel b (rowS.drift.flatMap encSt).toArray 70)) : SeaR w.heap.size w (rowV b) rowS :=
  ⟨rd_nil _ _ _, rd_cel (enc := encSt) (ys := rowS.drift) (rest := []) (fun _ => rfl) hO j hj (by rw [List.append_nil]) rfl (show 2 ≤ 1000000000 by decide), by unfold i64; decide, ⟨Nat.le_refl _, Nat.le_refl _⟩⟩
theorem row_calls2 (w0 : World) : Calls Try.prog 45 #[] w0 (fun e w' => ∃ b, e = .returned (.agg #[iv rowS.wide, iv rowS.high, .slice ((rowV b).la) ((rowV b).ln) ((rowV b).lc), iv rowS.hours, .slice ((rowV b).da) ((rowV b).dn) ((rowV b).dc), iv rowS.speed]) ∧ Own w0 none_ [cel b #[iv 1, iv 0, iv 0, iv 0] 70] w') := row_calls w0
theorem hci_of {cs : List Cs} (h : (cs.all fun x => decide (-9223372036854775808 ≤ x.cell ∧ x.cell ≤ 9223372036854775807)) = true) : ∀ i, i < cs.length → i64 (cs.getD i default).cell := fun i hi => by have h_ := List.all_eq_true.1 h _ (getD_mem hi); unfold i64; simpa using h_
set_option maxHeartbeats 4000000 in
set_option maxRecDepth 100000 in
theorem works_calls  (w0 : World) :
    Calls Try.prog 23 #[] w0 (fun e w' => e = .returned (.bool true) ∧ Ext w0 w') := by
  refine calls_of_W Try.func23 rfl (by kernel_rfl) (args := []) fun a hF => ?_
  replace hF : Fr 124 [] [] a := hF
  have hO : Own w0 none_ [] w0 := Own.start w0 _
  refine W_seq (region_q {} TBok hF (F' := [(0, .bool false)]) (rs := []) [0] .nil (by kernel_rfl) fun a w hF hE => ?_)
  replace hO := hO.ext hE; clear hE
  refine W_seq (region_seq ?_)
  refine op_call (i := 0) (f := 45) (args := #[]) (d := some 15) TBok (by kernel_rfl) hF (by kernel_rfl) (row_calls2 _) fun e w hR => ?_
  obtain ⟨b1, he, hO2⟩ := hR
  refine ⟨_, he, fun a hF => ?_⟩
  replace hO := hO.joinE hO2; clear hO2 he
  refine op_call (i := 1) (f := 46) (args := #[iv 2]) (d := some 16) TBok (by kernel_rfl) hF (by kernel_rfl) (reports_calls 2 _ (by decide)) fun e w hR => ?_
  obtain ⟨b2, he, hO2⟩ := hR
  refine ⟨_, he, fun a hF => ?_⟩
  replace hO := hO.joinE hO2; clear hO2 he
  refine op_bsl (i := 2) (t := 22) (e := 3) (len := 3) (ps := [(0, iv 0), (1, iv 2), (2, iv 3)]) (d := 17) (sz := 1) (cs := #[iv 0, iv 2, iv 3]) (z := iv 0) hF hO (by kernel_rfl) (by kernel_rfl) (by kernel_rfl) (by kernel_rfl) (by kernel_rfl) fun a w b3 hF hO _ => ?_
  refine seq_quiet {} TBok hF (F' := [(0, .bool false), (1, iv 0), (2, .bool true), (3, iv 0)]) (rs := [.call 16 #[.agg #[iv rowS.wide, iv rowS.high, .slice ((rowV b1).la) ((rowV b1).ln) ((rowV b1).lc), iv rowS.hours, .slice ((rowV b1).da) ((rowV b1).dn) ((rowV b1).dc), iv rowS.speed], .slice (some ⟨b2, 0, none⟩) 2 5, .slice (some ⟨b3, 0, none⟩) 3 3] (.tuple #[iv 0, .bool true, iv 0])]) [3, 4, 5, 6, 7, 8, 9, 10] [] [0, 1, 2, 3] (.cons (fun w hE => calls_cast (v := .tuple #[iv ((trackR rowS (repsL.take 2) [0, 2, 3]).1), .bool ((trackR rowS (repsL.take 2) [0, 2, 3]).2.1), iv ((trackR rowS (repsL.take 2) [0, 2, 3]).2.2)]) (v' := .tuple #[iv 0, .bool true, iv 0]) (IsTrack_calls rowS (rowV b1) (repsL.take 2) (some ⟨b2, 0, none⟩) 2 5 [0, 2, 3] (some ⟨b3, 0, none⟩) 3 3 w (row_R (hO.st w hE) 0 rfl) (rd_cel (enc := encRp) (ys := repsL.take 2) (rest := (repsL.drop 2).flatMap encRp) (fun _ => rfl) (hO.st w hE) 1 rfl (by kernel_rfl) rfl (by decide)) (rd_cel (enc := encI) (ys := [0, 2, 3]) (rest := []) (fun _ => rfl) (hO.st w hE) 2 rfl rfl rfl (by decide))) (by kernel_rfl)) <| .nil) (by kernel_rfl) fun a w hF hE => ?_
  replace hO := hO.ext hE; clear hE
  refine W_seq (region_seq ?_)
  refine op_call (i := 0) (f := 45) (args := #[]) (d := some 23) TBok (by kernel_rfl) hF (by kernel_rfl) (row_calls2 _) fun e w hR => ?_
  obtain ⟨b4, he, hO2⟩ := hR
  refine ⟨_, he, fun a hF => ?_⟩
  replace hO := hO.joinE hO2; clear hO2 he
  replace hO : Own w0 none_ [cel b1 #[iv 1, iv 0, iv 0, iv 0] 70, cel b2 #[iv 0, iv 0, iv 0, .bool true, iv 2, iv 3, iv 0, .bool true, iv 1, iv 0, iv 1, .bool true, iv 1, iv 0, iv 1, .bool true, iv 1, iv 0, iv 1, .bool true] 52, cel b3 #[iv 0, iv 2, iv 3] 3, cel b4 #[iv 1, iv 0, iv 0, iv 0] 70] w := hO
  refine op_call (i := 1) (f := 46) (args := #[iv 3]) (d := some 24) TBok (by kernel_rfl) hF (by kernel_rfl) (reports_calls 3 _ (by decide)) fun e w hR => ?_
  obtain ⟨b5, he, hO2⟩ := hR
  refine ⟨_, he, fun a hF => ?_⟩
  replace hO := hO.joinE hO2; clear hO2 he
  refine op_call (i := 2) (f := 20) (args := #[.agg #[iv rowS.wide, iv rowS.high, .slice ((rowV b4).la) ((rowV b4).ln) ((rowV b4).lc), iv rowS.hours, .slice ((rowV b4).da) ((rowV b4).dn) ((rowV b4).dc), iv rowS.speed], .slice (some ⟨b5, 0, none⟩) 3 5]) (d := some 25) TBok (by kernel_rfl) hF (by kernel_rfl) (Least_calls rowS (rowV b4) (repsL.take 3) (some ⟨b5, 0, none⟩) 3 5 _ (row_R hO 3 rfl) (rd_cel (enc := encRp) (ys := repsL.take 3) (rest := (repsL.drop 3).flatMap encRp) (fun _ => rfl) hO 4 rfl (by kernel_rfl) rfl (by decide))) fun e w hR => ?_
  obtain ⟨p6, n7, c8, hn9, he, hO2⟩ := hR
  replace he : e = .returned (.tuple #[iv 1, .slice p6 n7 c8, iv 0]) := he.trans (congrArg Ending.returned (show (.tuple #[iv ((leastR rowS (repsL.take 3)).1), .slice p6 n7 c8, iv ((leastR rowS (repsL.take 3)).2.2)] : Value) = .tuple #[iv 1, .slice p6 n7 c8, iv 0] by kernel_rfl))
  refine ⟨_, he, fun a hF => ?_⟩
  replace hO := hO.joinE hO2; clear hO2 he
  refine seq_quiet {} TBok hF (F' := [(0, .bool false), (1, iv 0), (2, .bool true), (3, iv 0), (4, iv 1), (5, .slice p6 n7 c8), (6, iv 0)]) (rs := []) [3, 4, 5, 6, 7, 8, 9] [] [0, 1, 2, 3, 4, 5, 6] .nil (by kernel_rfl) fun a w hF hE => ?_
  replace hO := hO.ext hE; clear hE
  refine W_seq (region_seq ?_)
  refine op_call (i := 0) (f := 45) (args := #[]) (d := some 30) TBok (by kernel_rfl) hF (by kernel_rfl) (row_calls2 _) fun e w hR => ?_
  obtain ⟨b10, he, hO2⟩ := hR
  refine ⟨_, he, fun a hF => ?_⟩
  replace hO := hO.joinE hO2; clear hO2 he
  refine op_call (i := 1) (f := 46) (args := #[iv 3]) (d := some 31) TBok (by kernel_rfl) hF (by kernel_rfl) (reports_calls 3 _ (by decide)) fun e w hR => ?_
  obtain ⟨b11, he, hO2⟩ := hR
  refine ⟨_, he, fun a hF => ?_⟩
  replace hO := hO.joinE hO2; clear hO2 he
  replace hO : Own w0 none_ [cel b1 #[iv 1, iv 0, iv 0, iv 0] 70, cel b2 #[iv 0, iv 0, iv 0, .bool true, iv 2, iv 3, iv 0, .bool true, iv 1, iv 0, iv 1, .bool true, iv 1, iv 0, iv 1, .bool true, iv 1, iv 0, iv 1, .bool true] 52, cel b3 #[iv 0, iv 2, iv 3] 3, cel b4 #[iv 1, iv 0, iv 0, iv 0] 70, cel b5 #[iv 0, iv 0, iv 0, .bool true, iv 2, iv 3, iv 0, .bool true, iv 1, iv 0, iv 1, .bool true, iv 1, iv 0, iv 1, .bool true, iv 1, iv 0, iv 1, .bool true] 52, rdR encI 1 p6 n7 (leastR rowS (repsL.take 3)).2.1, cel b10 #[iv 1, iv 0, iv 0, iv 0] 70, cel b11 #[iv 0, iv 0, iv 0, .bool true, iv 2, iv 3, iv 0, .bool true, iv 1, iv 0, iv 1, .bool true, iv 1, iv 0, iv 1, .bool true, iv 1, iv 0, iv 1, .bool true] 52] w := hO
  refine op_call (i := 2) (f := 24) (args := #[.agg #[iv rowS.wide, iv rowS.high, .slice ((rowV b10).la) ((rowV b10).ln) ((rowV b10).lc), iv rowS.hours, .slice ((rowV b10).da) ((rowV b10).dn) ((rowV b10).dc), iv rowS.speed], .slice (some ⟨b11, 0, none⟩) 3 5, iv 1, iv 1]) (d := some 32) TBok (by kernel_rfl) hF (by kernel_rfl) (Can_calls rowS (rowV b10) (repsL.take 3) (some ⟨b11, 0, none⟩) 3 5 1 1 _ (row_R hO 6 rfl) (rd_cel (enc := encRp) (ys := repsL.take 3) (rest := (repsL.drop 3).flatMap encRp) (fun _ => rfl) hO 7 rfl (by kernel_rfl) rfl (by decide))) fun e w hR => ?_
  obtain ⟨p12, n13, c14, hn15, he, hO2⟩ := hR
  replace he : e = .returned (.tuple #[.slice p12 n13 c14, iv 0]) := he.trans (congrArg Ending.returned (show (.tuple #[.slice p12 n13 c14, iv ((canR rowS (repsL.take 3) 1 1).2)] : Value) = .tuple #[.slice p12 n13 c14, iv 0] by kernel_rfl))
  refine ⟨_, he, fun a hF => ?_⟩
  replace hO := hO.joinE hO2; clear hO2 he
  refine seq_quiet {} TBok hF (F' := [(0, .bool false), (1, iv 0), (2, .bool true), (3, iv 0), (4, iv 1), (5, .slice p6 n7 c8), (6, iv 0), (7, .slice p12 n13 c14), (8, iv 0)]) (rs := []) [3, 4, 5, 6, 7] [] [0, 1, 2, 3, 4, 5, 6, 7, 8] .nil (by kernel_rfl) fun a w hF hE => ?_
  replace hO := hO.ext hE; clear hE
  refine W_seq (region_seq ?_)
  refine op_call (i := 0) (f := 45) (args := #[]) (d := some 36) TBok (by kernel_rfl) hF (by kernel_rfl) (row_calls2 _) fun e w hR => ?_
  obtain ⟨b16, he, hO2⟩ := hR
  refine ⟨_, he, fun a hF => ?_⟩
  replace hO := hO.joinE hO2; clear hO2 he
  refine op_call (i := 1) (f := 46) (args := #[iv 5]) (d := some 37) TBok (by kernel_rfl) hF (by kernel_rfl) (reports_calls 5 _ (by decide)) fun e w hR => ?_
  obtain ⟨b17, he, hO2⟩ := hR
  refine ⟨_, he, fun a hF => ?_⟩
  replace hO := hO.joinE hO2; clear hO2 he
  refine op_call (i := 2) (f := 26) (args := #[.agg #[iv rowS.wide, iv rowS.high, .slice ((rowV b16).la) ((rowV b16).ln) ((rowV b16).lc), iv rowS.hours, .slice ((rowV b16).da) ((rowV b16).dn) ((rowV b16).dc), iv rowS.speed], .slice (some ⟨b17, 0, none⟩) 5 5]) (d := some 38) TBok (by kernel_rfl) hF (by kernel_rfl) (Liars_calls rowS (rowV b16) (repsL.take 5) (some ⟨b17, 0, none⟩) 5 5  _ (row_R hO 9 rfl) (rd_cel (enc := encRp) (ys := repsL.take 5) (rest := (repsL.drop 5).flatMap encRp) (fun _ => rfl) hO 10 rfl (by kernel_rfl) rfl (by decide))) fun e w hR => ?_
  obtain ⟨p18, n19, c20, hn21, he, hO2⟩ := hR
  replace he : e = .returned (.tuple #[.slice p18 n19 c20, iv 0]) := he.trans (congrArg Ending.returned (show (.tuple #[.slice p18 n19 c20, iv ((liarR rowS (repsL.take 5)).2)] : Value) = .tuple #[.slice p18 n19 c20, iv 0] by kernel_rfl))
  refine ⟨_, he, fun a hF => ?_⟩
  replace hO := hO.joinE hO2; clear hO2 he
  replace hO : Own w0 none_ [cel b1 #[iv 1, iv 0, iv 0, iv 0] 70, cel b2 #[iv 0, iv 0, iv 0, .bool true, iv 2, iv 3, iv 0, .bool true, iv 1, iv 0, iv 1, .bool true, iv 1, iv 0, iv 1, .bool true, iv 1, iv 0, iv 1, .bool true] 52, cel b3 #[iv 0, iv 2, iv 3] 3, cel b4 #[iv 1, iv 0, iv 0, iv 0] 70, cel b5 #[iv 0, iv 0, iv 0, .bool true, iv 2, iv 3, iv 0, .bool true, iv 1, iv 0, iv 1, .bool true, iv 1, iv 0, iv 1, .bool true, iv 1, iv 0, iv 1, .bool true] 52, rdR encI 1 p6 n7 (leastR rowS (repsL.take 3)).2.1, cel b10 #[iv 1, iv 0, iv 0, iv 0] 70, cel b11 #[iv 0, iv 0, iv 0, .bool true, iv 2, iv 3, iv 0, .bool true, iv 1, iv 0, iv 1, .bool true, iv 1, iv 0, iv 1, .bool true, iv 1, iv 0, iv 1, .bool true] 52, rdR encI 1 p12 n13 (canR rowS (repsL.take 3) 1 1).1, cel b16 #[iv 1, iv 0, iv 0, iv 0] 70, cel b17 #[iv 0, iv 0, iv 0, .bool true, iv 2, iv 3, iv 0, .bool true, iv 1, iv 0, iv 1, .bool true, iv 1, iv 0, iv 1, .bool true, iv 1, iv 0, iv 1, .bool true] 52, rdR encI 1 p18 n19 (liarR rowS (repsL.take 5)).1] w := hO
  refine seq_quiet {} TBok hF (F' := [(0, .bool false), (1, iv 0), (2, .bool true), (3, iv 0), (4, iv 1), (5, .slice p6 n7 c8), (6, iv 0), (7, .slice p12 n13 c14), (8, iv 0), (9, .slice p18 n19 c20), (10, iv 0)]) (rs := []) [3, 4, 5, 6, 7] [] [0, 1, 2, 3, 4, 5, 6, 7, 8, 9, 10] .nil (by kernel_rfl) fun a w hF hE => ?_
  replace hO := hO.ext hE; clear hE
  refine W_seq ?_
  refine W_seq (region_seq ?_)
  refine seq_quiet {} TBok hF (F' := [(0, .bool false), (3, iv 0), (6, iv 0), (7, .slice p12 n13 c14), (9, .slice p18 n19 c20), (67, .bool false), (68, .slice p6 n7 c8)]) (rs := []) [0, 1, 2, 3, 4, 5, 6, 7, 8, 9, 10, 11, 12, 13, 14, 15, 16, 17, 18, 19, 20, 21, 22, 23, 24, 25, 26, 27] [28, 29, 30, 31, 32, 33, 34, 35, 36, 37, 38, 39, 40, 41, 42, 43] [0, 3, 6, 7, 9, 67, 68] .nil (by kernel_rfl) fun a w hF hE => ?_
  replace hO := hO.ext hE; clear hE
  refine op_bsl (i := 28) (t := 22) (e := 3) (len := 3) (ps := [(0, iv 0), (1, iv 0), (2, iv 0)]) (d := 69) (sz := 1) (cs := #[iv 0, iv 0, iv 0]) (z := iv 0) hF hO (by kernel_rfl) (by kernel_rfl) (by kernel_rfl) (by kernel_rfl) (by kernel_rfl) fun a w b22 hF hO _ => ?_
  refine seq_quiet {} TBok hF (F' := [(0, .bool false), (3, iv 0), (6, iv 0), (9, .slice p18 n19 c20), (73, .bool false), (74, .slice p12 n13 c14)]) (rs := [.call 22 #[.slice p6 n7 c8, .slice (some ⟨b22, 0, none⟩) 3 3] (.bool true)]) [29, 30, 31, 32, 33] [34, 35, 36, 37, 38, 39, 40, 41, 42, 43] [0, 3, 6, 9, 73, 74] (.cons (fun w hE => calls_cast (v := .bool (decide ((leastR rowS (repsL.take 3)).2.1 = [0, 0, 0]))) (v' := .bool true) (Same_calls (leastR rowS (repsL.take 3)).2.1 [0, 0, 0] p6 (some ⟨b22, 0, none⟩) n7 3 c8 3 w ((hO.st w hE).get 5 rfl) (rd_cel (enc := encI) (ys := [0, 0, 0]) (rest := []) (fun _ => rfl) (hO.st w hE) 12 rfl rfl rfl (by decide))) (by kernel_rfl)) <| .nil) (by kernel_rfl) fun a w hF hE => ?_
  replace hO := hO.ext hE; clear hE
  refine op_bsl (i := 34) (t := 22) (e := 3) (len := 3) (ps := [(0, iv 0), (1, iv 1), (2, iv 2)]) (d := 75) (sz := 1) (cs := #[iv 0, iv 1, iv 2]) (z := iv 0) hF hO (by kernel_rfl) (by kernel_rfl) (by kernel_rfl) (by kernel_rfl) (by kernel_rfl) fun a w b23 hF hO _ => ?_
  refine seq_quiet {} TBok hF (F' := [(0, .bool false), (3, iv 0), (6, iv 0), (79, .bool false), (80, .slice p18 n19 c20)]) (rs := [.call 22 #[.slice p12 n13 c14, .slice (some ⟨b23, 0, none⟩) 3 3] (.bool true)]) [35, 36, 37, 38, 39] [40, 41, 42, 43] [0, 3, 6, 79, 80] (.cons (fun w hE => calls_cast (v := .bool (decide ((canR rowS (repsL.take 3) 1 1).1 = [0, 1, 2]))) (v' := .bool true) (Same_calls (canR rowS (repsL.take 3) 1 1).1 [0, 1, 2] p12 (some ⟨b23, 0, none⟩) n13 3 c14 3 w ((hO.st w hE).get 8 rfl) (rd_cel (enc := encI) (ys := [0, 1, 2]) (rest := []) (fun _ => rfl) (hO.st w hE) 13 rfl rfl rfl (by decide))) (by kernel_rfl)) <| .nil) (by kernel_rfl) fun a w hF hE => ?_
  replace hO := hO.ext hE; clear hE
  refine op_bsl (i := 40) (t := 22) (e := 3) (len := 1) (ps := [(0, iv 1)]) (d := 81) (sz := 1) (cs := #[iv 1]) (z := iv 0) hF hO (by kernel_rfl) (by kernel_rfl) (by kernel_rfl) (by kernel_rfl) (by kernel_rfl) fun a w b24 hF hO _ => ?_
  refine seq_quiet {} TBok hF (F' := [(0, .bool false), (3, iv 0), (6, iv 0), (84, .bool false)]) (rs := [.call 22 #[.slice p18 n19 c20, .slice (some ⟨b24, 0, none⟩) 1 1] (.bool true)]) [41, 42, 43] [] [0, 3, 6, 84] (.cons (fun w hE => calls_cast (v := .bool (decide ((liarR rowS (repsL.take 5)).1 = [1]))) (v' := .bool true) (Same_calls (liarR rowS (repsL.take 5)).1 [1] p18 (some ⟨b24, 0, none⟩) n19 1 c20 1 w ((hO.st w hE).get 11 rfl) (rd_cel (enc := encI) (ys := [1]) (rest := []) (fun _ => rfl) (hO.st w hE) 14 rfl rfl rfl (by decide))) (by kernel_rfl)) <| .nil) (by kernel_rfl) fun a w hF hE => ?_
  replace hO := hO.ext hE; clear hE
  refine (W_false (evOp hF (by kernel_rfl)) ?_)
  refine (W_skip ?_)
  refine W_seq (region_seq ?_)
  refine op_call (i := 0) (f := 45) (args := #[]) (d := some 86) TBok (by kernel_rfl) hF (by kernel_rfl) (row_calls2 _) fun e w hR => ?_
  obtain ⟨b25, he, hO2⟩ := hR
  refine ⟨_, he, fun a hF => ?_⟩
  replace hO := hO.joinE hO2; clear hO2 he
  replace hO : Own w0 none_ [cel b1 #[iv 1, iv 0, iv 0, iv 0] 70, cel b2 #[iv 0, iv 0, iv 0, .bool true, iv 2, iv 3, iv 0, .bool true, iv 1, iv 0, iv 1, .bool true, iv 1, iv 0, iv 1, .bool true, iv 1, iv 0, iv 1, .bool true] 52, cel b3 #[iv 0, iv 2, iv 3] 3, cel b4 #[iv 1, iv 0, iv 0, iv 0] 70, cel b5 #[iv 0, iv 0, iv 0, .bool true, iv 2, iv 3, iv 0, .bool true, iv 1, iv 0, iv 1, .bool true, iv 1, iv 0, iv 1, .bool true, iv 1, iv 0, iv 1, .bool true] 52, rdR encI 1 p6 n7 (leastR rowS (repsL.take 3)).2.1, cel b10 #[iv 1, iv 0, iv 0, iv 0] 70, cel b11 #[iv 0, iv 0, iv 0, .bool true, iv 2, iv 3, iv 0, .bool true, iv 1, iv 0, iv 1, .bool true, iv 1, iv 0, iv 1, .bool true, iv 1, iv 0, iv 1, .bool true] 52, rdR encI 1 p12 n13 (canR rowS (repsL.take 3) 1 1).1, cel b16 #[iv 1, iv 0, iv 0, iv 0] 70, cel b17 #[iv 0, iv 0, iv 0, .bool true, iv 2, iv 3, iv 0, .bool true, iv 1, iv 0, iv 1, .bool true, iv 1, iv 0, iv 1, .bool true, iv 1, iv 0, iv 1, .bool true] 52, rdR encI 1 p18 n19 (liarR rowS (repsL.take 5)).1, cel b22 #[iv 0, iv 0, iv 0] 3, cel b23 #[iv 0, iv 1, iv 2] 3, cel b24 #[iv 1] 3, cel b25 #[iv 1, iv 0, iv 0, iv 0] 70] w := hO
  refine op_call (i := 1) (f := 46) (args := #[iv 3]) (d := some 87) TBok (by kernel_rfl) hF (by kernel_rfl) (reports_calls 3 _ (by decide)) fun e w hR => ?_
  obtain ⟨b26, he, hO2⟩ := hR
  refine ⟨_, he, fun a hF => ?_⟩
  replace hO := hO.joinE hO2; clear hO2 he
  refine seq_quiet { md := [(2, 3), (3, 3)] } TBok hF (F' := [(0, .bool false), (3, iv 0), (6, iv 0), (86, .agg #[iv rowS.wide, iv rowS.high, .slice ((rowV b25).la) ((rowV b25).ln) ((rowV b25).lc), iv rowS.hours, .slice ((rowV b25).da) ((rowV b25).dn) ((rowV b25).dc), iv rowS.speed]), (87, .slice (some ⟨b26, 0, none⟩) 3 5), (88, .agg #[iv 1, iv 1]), (89, .agg #[iv 0, iv 0])]) (rs := [.raw (Instr.build 64 #[(0, iv 1), (1, iv 1)]) (.agg #[iv 1, iv 1]), .raw (Instr.build 64 #[]) (.agg #[iv 0, iv 0])]) [2, 3] [4, 5, 6, 7, 8, 9, 10, 11, 12] [0, 3, 6, 86, 87, 88, 89] (.cons (fun w _ => by kernel_rfl) <| .cons (fun w _ => by kernel_rfl) <| .nil) (by kernel_rfl) fun a w hF hE => ?_
  replace hO := hO.ext hE; clear hE
  refine op_bsl (i := 4) (t := 44) (e := 64) (len := 2) (ps := [(0, .agg #[iv 1, iv 1]), (1, .agg #[iv 0, iv 0])]) (d := 90) (sz := 2) (cs := #[iv 1, iv 1, iv 0, iv 0]) (z := .agg #[iv 0, iv 0]) hF hO (by kernel_rfl) (by kernel_rfl) (by kernel_rfl) (by kernel_rfl) (by kernel_rfl) fun a w b27 hF hO _ => ?_
  refine seq_quiet {} TBok hF (F' := [(0, .bool false), (3, iv 0), (6, iv 0), (11, iv 1), (12, iv 2)]) (rs := [.call 28 #[.agg #[iv rowS.wide, iv rowS.high, .slice ((rowV b25).la) ((rowV b25).ln) ((rowV b25).lc), iv rowS.hours, .slice ((rowV b25).da) ((rowV b25).dn) ((rowV b25).dc), iv rowS.speed], .slice (some ⟨b26, 0, none⟩) 3 5, iv 1, iv 1, .slice (some ⟨b27, 0, none⟩) 2 2] (.tuple #[iv 1, iv 2, iv 0])]) [5, 6, 7, 8, 9, 10, 11, 12] [] [0, 3, 6, 11, 12] (.cons (fun w hE => calls_cast (v := .tuple #[iv ((nextR rowS (repsL.take 3) 1 1 [⟨1, 1⟩, ⟨0, 0⟩]).1), iv ((nextR rowS (repsL.take 3) 1 1 [⟨1, 1⟩, ⟨0, 0⟩]).2.1), iv ((nextR rowS (repsL.take 3) 1 1 [⟨1, 1⟩, ⟨0, 0⟩]).2.2)]) (v' := .tuple #[iv 1, iv 2, iv 0]) (Next_calls rowS (rowV b25) (repsL.take 3) (some ⟨b26, 0, none⟩) 3 5 1 1 [⟨1, 1⟩, ⟨0, 0⟩] (some ⟨b27, 0, none⟩) 2 2 w (row_R (hO.st w hE) 15 rfl) (rd_cel (enc := encRp) (ys := repsL.take 3) (rest := (repsL.drop 3).flatMap encRp) (fun _ => rfl) (hO.st w hE) 16 rfl (by kernel_rfl) rfl (by decide)) (rd_cel (enc := encCs) (ys := [⟨1, 1⟩, ⟨0, 0⟩]) (rest := []) (fun _ => rfl) (hO.st w hE) 17 rfl rfl rfl (by decide)) (hci_of (by decide)) (by decide)) (by kernel_rfl)) <| .nil) (by kernel_rfl) fun a w hF hE => ?_
  replace hO := hO.ext hE; clear hE
  refine W_seq (region_seq ?_)
  refine op_call (i := 0) (f := 45) (args := #[]) (d := some 96) TBok (by kernel_rfl) hF (by kernel_rfl) (row_calls2 _) fun e w hR => ?_
  obtain ⟨b28, he, hO2⟩ := hR
  refine ⟨_, he, fun a hF => ?_⟩
  replace hO := hO.joinE hO2; clear hO2 he
  refine op_call (i := 1) (f := 46) (args := #[iv 3]) (d := some 97) TBok (by kernel_rfl) hF (by kernel_rfl) (reports_calls 3 _ (by decide)) fun e w hR => ?_
  obtain ⟨b29, he, hO2⟩ := hR
  refine ⟨_, he, fun a hF => ?_⟩
  replace hO := hO.joinE hO2; clear hO2 he
  replace hO : Own w0 none_ [cel b1 #[iv 1, iv 0, iv 0, iv 0] 70, cel b2 #[iv 0, iv 0, iv 0, .bool true, iv 2, iv 3, iv 0, .bool true, iv 1, iv 0, iv 1, .bool true, iv 1, iv 0, iv 1, .bool true, iv 1, iv 0, iv 1, .bool true] 52, cel b3 #[iv 0, iv 2, iv 3] 3, cel b4 #[iv 1, iv 0, iv 0, iv 0] 70, cel b5 #[iv 0, iv 0, iv 0, .bool true, iv 2, iv 3, iv 0, .bool true, iv 1, iv 0, iv 1, .bool true, iv 1, iv 0, iv 1, .bool true, iv 1, iv 0, iv 1, .bool true] 52, rdR encI 1 p6 n7 (leastR rowS (repsL.take 3)).2.1, cel b10 #[iv 1, iv 0, iv 0, iv 0] 70, cel b11 #[iv 0, iv 0, iv 0, .bool true, iv 2, iv 3, iv 0, .bool true, iv 1, iv 0, iv 1, .bool true, iv 1, iv 0, iv 1, .bool true, iv 1, iv 0, iv 1, .bool true] 52, rdR encI 1 p12 n13 (canR rowS (repsL.take 3) 1 1).1, cel b16 #[iv 1, iv 0, iv 0, iv 0] 70, cel b17 #[iv 0, iv 0, iv 0, .bool true, iv 2, iv 3, iv 0, .bool true, iv 1, iv 0, iv 1, .bool true, iv 1, iv 0, iv 1, .bool true, iv 1, iv 0, iv 1, .bool true] 52, rdR encI 1 p18 n19 (liarR rowS (repsL.take 5)).1, cel b22 #[iv 0, iv 0, iv 0] 3, cel b23 #[iv 0, iv 1, iv 2] 3, cel b24 #[iv 1] 3, cel b25 #[iv 1, iv 0, iv 0, iv 0] 70, cel b26 #[iv 0, iv 0, iv 0, .bool true, iv 2, iv 3, iv 0, .bool true, iv 1, iv 0, iv 1, .bool true, iv 1, iv 0, iv 1, .bool true, iv 1, iv 0, iv 1, .bool true] 52, cel b27 #[iv 1, iv 1, iv 0, iv 0] 64, cel b28 #[iv 1, iv 0, iv 0, iv 0] 70, cel b29 #[iv 0, iv 0, iv 0, .bool true, iv 2, iv 3, iv 0, .bool true, iv 1, iv 0, iv 1, .bool true, iv 1, iv 0, iv 1, .bool true, iv 1, iv 0, iv 1, .bool true] 52] w := hO
  refine seq_quiet { md := [(2, 3), (3, 3), (4, 3)] } TBok hF (F' := [(0, .bool false), (3, iv 0), (6, iv 0), (11, iv 1), (12, iv 2), (96, .agg #[iv rowS.wide, iv rowS.high, .slice ((rowV b28).la) ((rowV b28).ln) ((rowV b28).lc), iv rowS.hours, .slice ((rowV b28).da) ((rowV b28).dn) ((rowV b28).dc), iv rowS.speed]), (97, .slice (some ⟨b29, 0, none⟩) 3 5), (98, .agg #[iv 0, iv 0]), (99, .agg #[iv 2, iv 0]), (100, .agg #[iv 1, iv 0])]) (rs := [.raw (Instr.build 64 #[]) (.agg #[iv 0, iv 0]), .raw (Instr.build 64 #[(0, iv 2)]) (.agg #[iv 2, iv 0]), .raw (Instr.build 64 #[(0, iv 1)]) (.agg #[iv 1, iv 0])]) [2, 3, 4] [5, 6, 7, 8, 9, 10, 11] [0, 3, 6, 11, 12, 96, 97, 98, 99, 100] (.cons (fun w _ => by kernel_rfl) <| .cons (fun w _ => by kernel_rfl) <| .cons (fun w _ => by kernel_rfl) <| .nil) (by kernel_rfl) fun a w hF hE => ?_
  replace hO := hO.ext hE; clear hE
  refine op_bsl (i := 5) (t := 44) (e := 64) (len := 3) (ps := [(0, .agg #[iv 0, iv 0]), (1, .agg #[iv 2, iv 0]), (2, .agg #[iv 1, iv 0])]) (d := 101) (sz := 2) (cs := #[iv 0, iv 0, iv 2, iv 0, iv 1, iv 0]) (z := .agg #[iv 0, iv 0]) hF hO (by kernel_rfl) (by kernel_rfl) (by kernel_rfl) (by kernel_rfl) (by kernel_rfl) fun a w b30 hF hO _ => ?_
  refine op_call (i := 6) (f := 30) (args := #[.agg #[iv rowS.wide, iv rowS.high, .slice ((rowV b28).la) ((rowV b28).ln) ((rowV b28).lc), iv rowS.hours, .slice ((rowV b28).da) ((rowV b28).dn) ((rowV b28).dc), iv rowS.speed], .slice (some ⟨b29, 0, none⟩) 3 5, iv 1, iv 1, .slice (some ⟨b30, 0, none⟩) 3 3]) (d := some 102) TBok (by kernel_rfl) hF (by kernel_rfl) (Sure_calls rowS (rowV b28) (repsL.take 3) (some ⟨b29, 0, none⟩) 3 5 1 1 [⟨0, 0⟩, ⟨2, 0⟩, ⟨1, 0⟩] (some ⟨b30, 0, none⟩) 3 3 _ (row_R hO 18 rfl) (rd_cel (enc := encRp) (ys := repsL.take 3) (rest := (repsL.drop 3).flatMap encRp) (fun _ => rfl) hO 19 rfl (by kernel_rfl) rfl (by decide)) (rd_cel (enc := encCs) (ys := [⟨0, 0⟩, ⟨2, 0⟩, ⟨1, 0⟩]) (rest := []) (fun _ => rfl) hO 20 rfl rfl rfl (by decide)) (hci_of (by decide)) (by decide)) fun e w hR => ?_
  obtain ⟨p31, n32, c33, hn34, he, hO2⟩ := hR
  replace he : e = .returned (.tuple #[.slice p31 n32 c33, iv 0]) := he.trans (congrArg Ending.returned (show (.tuple #[.slice p31 n32 c33, iv ((sureR rowS (repsL.take 3) 1 1 [⟨0, 0⟩, ⟨2, 0⟩, ⟨1, 0⟩]).2)] : Value) = .tuple #[.slice p31 n32 c33, iv 0] by kernel_rfl))
  refine ⟨_, he, fun a hF => ?_⟩
  replace hO := hO.joinE hO2; clear hO2 he
  refine seq_quiet {} TBok hF (F' := [(0, .bool false), (3, iv 0), (6, iv 0), (11, iv 1), (12, iv 2), (13, .slice p31 n32 c33)]) (rs := []) [7, 8, 9, 10, 11] [] [0, 3, 6, 11, 12, 13] .nil (by kernel_rfl) fun a w hF hE => ?_
  replace hO := hO.ext hE; clear hE
  refine W_seq (region_seq ?_)
  refine seq_quiet {} TBok hF (F' := [(0, .bool false), (119, .bool true), (120, .slice p31 n32 c33)]) (rs := []) [0, 1, 2, 3, 4, 5, 6, 7, 8, 9, 10, 11, 12, 13, 14, 15] [16, 17, 18, 19] [0, 119, 120] .nil (by kernel_rfl) fun a w hF hE => ?_
  replace hO := hO.ext hE; clear hE
  refine op_bsl (i := 16) (t := 22) (e := 3) (len := 3) (ps := [(0, iv 0), (1, iv 1), (2, iv 2)]) (d := 121) (sz := 1) (cs := #[iv 0, iv 1, iv 2]) (z := iv 0) hF hO (by kernel_rfl) (by kernel_rfl) (by kernel_rfl) (by kernel_rfl) (by kernel_rfl) fun a w b35 hF hO _ => ?_
  refine seq_quiet {} TBok hF (F' := [(0, .bool true)]) (rs := [.call 22 #[.slice p31 n32 c33, .slice (some ⟨b35, 0, none⟩) 3 3] (.bool true)]) [17, 18, 19] [] [0] (.cons (fun w hE => calls_cast (v := .bool (decide ((sureR rowS (repsL.take 3) 1 1 [⟨0, 0⟩, ⟨2, 0⟩, ⟨1, 0⟩]).1 = [0, 1, 2]))) (v' := .bool true) (Same_calls (sureR rowS (repsL.take 3) 1 1 [⟨0, 0⟩, ⟨2, 0⟩, ⟨1, 0⟩]).1 [0, 1, 2] p31 (some ⟨b35, 0, none⟩) n32 3 c33 3 w ((hO.st w hE).get 21 rfl) (rd_cel (enc := encI) (ys := [0, 1, 2]) (rest := []) (fun _ => rfl) (hO.st w hE) 22 rfl rfl rfl (by decide))) (by kernel_rfl)) <| .nil) (by kernel_rfl) fun a w hF hE => ?_
  replace hO := hO.ext hE; clear hE
  refine W_ret ?_
  show bodyPostM (FW none) 0 _ _ _ Exit.ret a w
  exact leave_r TBok hF (.nil _) (vs := [.bool true]) (rs := []) .nil (by kernel_rfl) ⟨rfl, hO.kp⟩

end Go.Proofs.Ytgihgcclabodbaa.DK
