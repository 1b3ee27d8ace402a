/- The law ShoalKnown, walked. Printed by my gen.py out of shoal/hh.py. -/
import Derived.Test.YtgihgcclabodbaaT5k
import Derived.Test.YtgihgcclabodbaaKR
namespace Go.Proofs.Ytgihgcclabodbaa.DK
open Go Go.Proofs
set_option linter.unusedVariables false
set_option linter.unusedSimpArgs false

def zrpL : List Rp := List.replicate 25 ⟨0, 0, 0, false⟩
def zrpC : List Value := zrpL.flatMap encRp
abbrev sv (b n c : Nat) : Value := .slice (some ⟨b, 0, none⟩) n c
abbrev nl : Value := .slice none 0 0
theorem lit_R {bd : Nat} {w : World} (la : Option Addr) (ln lc : Nat) (da : Option Addr) (dn dc : Nat) (s : Sea) (h1 : Rd encI 1 bd w la ln s.land) (h2 : Rd encSt 2 bd w da dn s.drift) (h3 : i64 s.wide ∧ i64 s.high ∧ i64 s.hours ∧ i64 s.speed := by unfold i64; decide) (h4 : ln ≤ lc ∧ dn ≤ dc := by decide) : SeaR bd w ⟨la, ln, lc, da, dn, dc⟩ s := ⟨h1, h2, h3, h4⟩
abbrev rw4 (b : Nat) : Value := .agg #[iv 4, iv 1, .slice none 0 0, iv 3, .slice (some ⟨b, 0, none⟩) 2 2, iv 1]
abbrev vb (b : Nat) : SV := ⟨none, 0, 0, (some ⟨b, 0, none⟩), 2, 2⟩
section
variable {w0 w : World} {M : Nat → Prop} {L : List Res} {b : Nat}
theorem rd4 (hO : Own w0 M L w) (j : Nat) (hj : L[j]? = some (cel b #[iv 1, iv 0, iv 0, iv 0] 70)) : Rd encSt 2 w.heap.size w (some ⟨b, 0, none⟩) 2 [⟨1, 0⟩, ⟨0, 0⟩] := rd_cel (enc := encSt) (ys := [⟨1, 0⟩, ⟨0, 0⟩]) (rest := []) (fun _ => rfl) hO j hj rfl rfl (by decide)
theorem R4 (hO : Own w0 M L w) (j : Nat) (hj : L[j]? = some (cel b #[iv 1, iv 0, iv 0, iv 0] 70)) : SeaR w.heap.size w (vb b) ⟨4, 1, [], 3, [⟨1, 0⟩, ⟨0, 0⟩], 1⟩ := ⟨rd_nil _ _ _, rd4 hO j hj, by unfold i64; decide, ⟨Nat.le_refl _, Nat.le_refl _⟩⟩
theorem rdz (hO : Own w0 M L w) (j : Nat) (hj : L[j]? = some (cel b zrpC.toArray 52)) : Rd encRp 4 w.heap.size w (some ⟨b, 0, none⟩) 25 zrpL := rd_cel (enc := encRp) (ys := zrpL) (rest := []) (fun _ => rfl) hO j hj (by kernel_rfl) rfl (by decide)
end
theorem len0 {xs : List Int} {n : Nat} (h : xs.length = n) (h2 : xs.length = 0) : ((n : Int) == 0) = true := by rw [← h, h2]; rfl
theorem row_calls3 (w0 : World) : Calls Try.prog 45 #[] w0 (fun e w' => ∃ b, e = .returned (.agg #[iv 4, iv 1, .slice none 0 0, iv 3, .slice (some ⟨b, 0, none⟩) 2 2, iv 1]) ∧ Own w0 none_ [cel b #[iv 1, iv 0, iv 0, iv 0] 70] w') := row_calls w0
abbrev sa0 : Sea := (⟨0, 0, [], 0, [], 0⟩ : Sea)
abbrev sa1 : Sea := (⟨11, 1, [], 3, [⟨1, 0⟩, ⟨0, 0⟩], 1⟩ : Sea)
abbrev sa2 : Sea := (⟨4, 0, [], 3, [⟨1, 0⟩, ⟨0, 0⟩], 1⟩ : Sea)
abbrev sa3 : Sea := (⟨4, 1, [], 13, [⟨1, 0⟩, ⟨0, 0⟩], 1⟩ : Sea)
abbrev sa4 : Sea := (⟨4, 1, [], 3, [⟨1, 0⟩], 1⟩ : Sea)
abbrev sa5 : Sea := (⟨4, 1, [], 3, [⟨3, 0⟩, ⟨0, 0⟩], 1⟩ : Sea)
abbrev sa6 : Sea := (⟨4, 1, [4], 3, [⟨1, 0⟩, ⟨0, 0⟩], 1⟩ : Sea)
abbrev sa7 : Sea := (⟨4, 1, [1, 1], 3, [⟨1, 0⟩, ⟨0, 0⟩], 1⟩ : Sea)
abbrev sa8 : Sea := (⟨4, 1, [], 3, [⟨1, 0⟩, ⟨0, 0⟩], 1⟩ : Sea)
abbrev sa9 : Sea := (⟨4, 1, [0, 1, 2, 3], 3, [⟨1, 0⟩, ⟨0, 0⟩], 1⟩ : Sea)
def seas8 (b1 b2 b3 b4 b5 b6 b7 b9 b10 : Nat) : List Value := [iv 0, iv 0, nl, iv 0, nl, iv 0, iv 11, iv 1, nl, iv 3, sv b1 2 2, iv 1, iv 4, iv 0, nl, iv 3, sv b2 2 2, iv 1, iv 4, iv 1, nl, iv 13, sv b3 2 2, iv 1, iv 4, iv 1, nl, iv 3, sv b4 1 2, iv 1, iv 4, iv 1, nl, iv 3, sv b5 2 2, iv 1, iv 4, iv 1, sv b9 1 1, iv 3, sv b6 2 2, iv 1, iv 4, iv 1, sv b10 2 2, iv 3, sv b7 2 2, iv 1]
set_option maxHeartbeats 4000000 in
set_option maxRecDepth 100000 in
theorem ShoalKnown_calls  (w0 : World) :
    Calls Try.prog 15 #[] w0 (fun e w' => e = .returned (.bool true) ∧ Ext w0 w') := by
  refine calls_of_W Try.func15 rfl (by kernel_rfl) (args := []) fun a hF => ?_
  replace hF : Fr 549 [] [] a := hF
  have hO : Own w0 none_ [] w0 := Own.start w0 _
  refine W_seq (region_q {} TBok hF (F' := [(0, .bool false)]) (rs := []) [0] .nil (by kernel_rfl) fun a w hF hE => ?_)
  replace hO := hO.ext hE; clear hE
  refine W_seq (region_seq ?_)
  refine seq_quiet { md := [(0, 3)] } TBok hF (F' := [(0, .bool false), (74, .agg #[iv 0, iv 0, nl, iv 0, nl, iv 0])]) (rs := [.raw (Instr.build 25 #[]) (.agg #[iv 0, iv 0, nl, iv 0, nl, iv 0])]) [0] [1, 2, 3, 4, 5, 6, 7, 8, 9] [0, 74] (.cons (fun w _ => by kernel_rfl) <| .nil) (by kernel_rfl) fun a w hF hE => ?_
  replace hO := hO.ext hE; clear hE
  refine op_call (i := 1) (f := 45) (args := #[]) (d := some 75) TBok (by kernel_rfl) hF (by kernel_rfl) (row_calls3 _) fun e w hR => ?_
  obtain ⟨b1, he, hO2⟩ := hR
  refine ⟨_, he, fun a hF => ?_⟩
  replace hO := hO.joinE hO2; clear hO2 he
  refine op_call (i := 2) (f := 45) (args := #[]) (d := some 76) TBok (by kernel_rfl) hF (by kernel_rfl) (row_calls3 _) fun e w hR => ?_
  obtain ⟨b2, he, hO2⟩ := hR
  refine ⟨_, he, fun a hF => ?_⟩
  replace hO := hO.joinE hO2; clear hO2 he
  refine op_call (i := 3) (f := 45) (args := #[]) (d := some 77) TBok (by kernel_rfl) hF (by kernel_rfl) (row_calls3 _) fun e w hR => ?_
  obtain ⟨b3, he, hO2⟩ := hR
  refine ⟨_, he, fun a hF => ?_⟩
  replace hO := hO.joinE hO2; clear hO2 he
  refine op_call (i := 4) (f := 45) (args := #[]) (d := some 78) TBok (by kernel_rfl) hF (by kernel_rfl) (row_calls3 _) fun e w hR => ?_
  obtain ⟨b4, he, hO2⟩ := hR
  refine ⟨_, he, fun a hF => ?_⟩
  replace hO := hO.joinE hO2; clear hO2 he
  replace hO : Own w0 none_ [cel b1 #[iv 1, iv 0, iv 0, iv 0] 70, cel b2 #[iv 1, iv 0, iv 0, iv 0] 70, cel b3 #[iv 1, iv 0, iv 0, iv 0] 70, cel b4 #[iv 1, iv 0, iv 0, iv 0] 70] w := hO
  refine op_call (i := 5) (f := 45) (args := #[]) (d := some 79) TBok (by kernel_rfl) hF (by kernel_rfl) (row_calls3 _) fun e w hR => ?_
  obtain ⟨b5, he, hO2⟩ := hR
  refine ⟨_, he, fun a hF => ?_⟩
  replace hO := hO.joinE hO2; clear hO2 he
  refine op_call (i := 6) (f := 45) (args := #[]) (d := some 80) TBok (by kernel_rfl) hF (by kernel_rfl) (row_calls3 _) fun e w hR => ?_
  obtain ⟨b6, he, hO2⟩ := hR
  refine ⟨_, he, fun a hF => ?_⟩
  replace hO := hO.joinE hO2; clear hO2 he
  refine op_call (i := 7) (f := 45) (args := #[]) (d := some 81) TBok (by kernel_rfl) hF (by kernel_rfl) (row_calls3 _) fun e w hR => ?_
  obtain ⟨b7, he, hO2⟩ := hR
  refine ⟨_, he, fun a hF => ?_⟩
  replace hO := hO.joinE hO2; clear hO2 he
  refine op_bsl (i := 8) (t := 72) (e := 25) (len := 8) (ps := [(0, .agg #[iv 0, iv 0, nl, iv 0, nl, iv 0]), (1, rw4 b1), (2, rw4 b2), (3, rw4 b3), (4, rw4 b4), (5, rw4 b5), (6, rw4 b6), (7, rw4 b7)]) (d := 82) (sz := 6) (cs := #[iv 0, iv 0, nl, iv 0, nl, iv 0, iv 4, iv 1, nl, iv 3, sv b1 2 2, iv 1, iv 4, iv 1, nl, iv 3, sv b2 2 2, iv 1, iv 4, iv 1, nl, iv 3, sv b3 2 2, iv 1, iv 4, iv 1, nl, iv 3, sv b4 2 2, iv 1, iv 4, iv 1, nl, iv 3, sv b5 2 2, iv 1, iv 4, iv 1, nl, iv 3, sv b6 2 2, iv 1, iv 4, iv 1, nl, iv 3, sv b7 2 2, iv 1]) (z := .agg #[iv 0, iv 0, nl, iv 0, nl, iv 0]) hF hO (by kernel_rfl) (by kernel_rfl) (by kernel_rfl) (by kernel_rfl) (by kernel_rfl) fun a w b8 hF hO _ => ?_
  replace hO : Own w0 none_ [cel b1 #[iv 1, iv 0, iv 0, iv 0] 70, cel b2 #[iv 1, iv 0, iv 0, iv 0] 70, cel b3 #[iv 1, iv 0, iv 0, iv 0] 70, cel b4 #[iv 1, iv 0, iv 0, iv 0] 70, cel b5 #[iv 1, iv 0, iv 0, iv 0] 70, cel b6 #[iv 1, iv 0, iv 0, iv 0] 70, cel b7 #[iv 1, iv 0, iv 0, iv 0] 70, cel b8 #[iv 0, iv 0, nl, iv 0, nl, iv 0, iv 4, iv 1, nl, iv 3, sv b1 2 2, iv 1, iv 4, iv 1, nl, iv 3, sv b2 2 2, iv 1, iv 4, iv 1, nl, iv 3, sv b3 2 2, iv 1, iv 4, iv 1, nl, iv 3, sv b4 2 2, iv 1, iv 4, iv 1, nl, iv 3, sv b5 2 2, iv 1, iv 4, iv 1, nl, iv 3, sv b6 2 2, iv 1, iv 4, iv 1, nl, iv 3, sv b7 2 2, iv 1] 25] w := hO
  refine seq_quiet {} TBok hF (F' := [(0, .bool false), (1, sv b8 8 8)]) (rs := []) [9] [] [0, 1] .nil (by kernel_rfl) fun a w hF hE => ?_
  replace hO := hO.ext hE; clear hE
  refine W_seq (region_seq ?_)
  refine seq_quiet {} TBok hF (F' := [(0, .bool false), (1, sv b8 8 8), (85, .pointer (some ⟨b8, 6, none⟩))]) (rs := [.idx (some ⟨b8, 0, none⟩) 8 1 6 ⟨b8, 6, none⟩]) [0, 1, 2] [3] [0, 1, 85] (.cons (ixa (by decide) (by decide)) <| .nil) (by kernel_rfl) fun a w hF hE => ?_
  replace hO := hO.ext hE; clear hE
  refine op_store (i := 3) (t := 3) (p := ⟨b8, 6, none⟩) (v := iv 11) (off := 6) (sz := 1) (cs' := #[iv 0, iv 0, nl, iv 0, nl, iv 0, iv 11, iv 1, nl, iv 3, sv b1 2 2, iv 1, iv 4, iv 1, nl, iv 3, sv b2 2 2, iv 1, iv 4, iv 1, nl, iv 3, sv b3 2 2, iv 1, iv 4, iv 1, nl, iv 3, sv b4 2 2, iv 1, iv 4, iv 1, nl, iv 3, sv b5 2 2, iv 1, iv 4, iv 1, nl, iv 3, sv b6 2 2, iv 1, iv 4, iv 1, nl, iv 3, sv b7 2 2, iv 1]) hF hO (by kernel_rfl) 7 rfl rfl (by kernel_rfl) (by kernel_rfl) (by kernel_rfl) fun a w hF hO _ => ?_
  replace hF := hF.sel [0, 1]
  replace hF : Fr 549 [] [(0, .bool false), (1, sv b8 8 8)] a := hF
  refine W_seq (region_seq ?_)
  refine seq_quiet {} TBok hF (F' := [(0, .bool false), (1, sv b8 8 8), (88, .pointer (some ⟨b8, 13, none⟩))]) (rs := [.idx (some ⟨b8, 0, none⟩) 8 2 6 ⟨b8, 12, none⟩]) [0, 1, 2] [3] [0, 1, 88] (.cons (ixa (by decide) (by decide)) <| .nil) (by kernel_rfl) fun a w hF hE => ?_
  replace hO := hO.ext hE; clear hE
  refine op_store (i := 3) (t := 3) (p := ⟨b8, 13, none⟩) (v := iv 0) (off := 13) (sz := 1) (cs' := #[iv 0, iv 0, nl, iv 0, nl, iv 0, iv 11, iv 1, nl, iv 3, sv b1 2 2, iv 1, iv 4, iv 0, nl, iv 3, sv b2 2 2, iv 1, iv 4, iv 1, nl, iv 3, sv b3 2 2, iv 1, iv 4, iv 1, nl, iv 3, sv b4 2 2, iv 1, iv 4, iv 1, nl, iv 3, sv b5 2 2, iv 1, iv 4, iv 1, nl, iv 3, sv b6 2 2, iv 1, iv 4, iv 1, nl, iv 3, sv b7 2 2, iv 1]) hF hO (by kernel_rfl) 7 rfl rfl (by kernel_rfl) (by kernel_rfl) (by kernel_rfl) fun a w hF hO _ => ?_
  replace hF := hF.sel [0, 1]
  replace hF : Fr 549 [] [(0, .bool false), (1, sv b8 8 8)] a := hF
  refine W_seq (region_seq ?_)
  refine seq_quiet {} TBok hF (F' := [(0, .bool false), (1, sv b8 8 8), (91, .pointer (some ⟨b8, 21, none⟩))]) (rs := [.idx (some ⟨b8, 0, none⟩) 8 3 6 ⟨b8, 18, none⟩]) [0, 1, 2] [3] [0, 1, 91] (.cons (ixa (by decide) (by decide)) <| .nil) (by kernel_rfl) fun a w hF hE => ?_
  replace hO := hO.ext hE; clear hE
  refine op_store (i := 3) (t := 3) (p := ⟨b8, 21, none⟩) (v := iv 13) (off := 21) (sz := 1) (cs' := #[iv 0, iv 0, nl, iv 0, nl, iv 0, iv 11, iv 1, nl, iv 3, sv b1 2 2, iv 1, iv 4, iv 0, nl, iv 3, sv b2 2 2, iv 1, iv 4, iv 1, nl, iv 13, sv b3 2 2, iv 1, iv 4, iv 1, nl, iv 3, sv b4 2 2, iv 1, iv 4, iv 1, nl, iv 3, sv b5 2 2, iv 1, iv 4, iv 1, nl, iv 3, sv b6 2 2, iv 1, iv 4, iv 1, nl, iv 3, sv b7 2 2, iv 1]) hF hO (by kernel_rfl) 7 rfl rfl (by kernel_rfl) (by kernel_rfl) (by kernel_rfl) fun a w hF hO _ => ?_
  replace hF := hF.sel [0, 1]
  replace hF : Fr 549 [] [(0, .bool false), (1, sv b8 8 8)] a := hF
  refine W_seq (region_seq ?_)
  refine seq_quiet { md := [(5, 3)] } TBok hF (F' := [(0, .bool false), (1, sv b8 8 8), (97, sv b4 1 2), (99, .pointer (some ⟨b8, 28, none⟩))]) (rs := [.idx (some ⟨b8, 0, none⟩) 8 4 6 ⟨b8, 24, none⟩, .ld ⟨b8, 28, none⟩ (sv b4 2 2), .raw (Instr.sliceAt 23 (sv b4 2 2) none (some (iv 1)) none) (sv b4 1 2), .idx (some ⟨b8, 0, none⟩) 8 4 6 ⟨b8, 24, none⟩]) [0, 1, 2, 3, 4, 5, 6, 7] [8] [0, 1, 97, 99] (.cons (ixa (by decide) (by decide)) <| .cons (ldo hO.st 7 rfl 28 rfl) <| .cons (raw_sliceTo rowT23 (by decide) (by decide)) <| .cons (ixa (by decide) (by decide)) <| .nil) (by kernel_rfl) fun a w hF hE => ?_
  replace hO := hO.ext hE; clear hE
  refine op_store (i := 8) (t := 23) (p := ⟨b8, 28, none⟩) (v := sv b4 1 2) (off := 28) (sz := 1) (cs' := #[iv 0, iv 0, nl, iv 0, nl, iv 0, iv 11, iv 1, nl, iv 3, sv b1 2 2, iv 1, iv 4, iv 0, nl, iv 3, sv b2 2 2, iv 1, iv 4, iv 1, nl, iv 13, sv b3 2 2, iv 1, iv 4, iv 1, nl, iv 3, sv b4 1 2, iv 1, iv 4, iv 1, nl, iv 3, sv b5 2 2, iv 1, iv 4, iv 1, nl, iv 3, sv b6 2 2, iv 1, iv 4, iv 1, nl, iv 3, sv b7 2 2, iv 1]) hF hO (by kernel_rfl) 7 rfl rfl (by kernel_rfl) (by kernel_rfl) (by kernel_rfl) fun a w hF hO _ => ?_
  replace hO : Own w0 none_ [cel b1 #[iv 1, iv 0, iv 0, iv 0] 70, cel b2 #[iv 1, iv 0, iv 0, iv 0] 70, cel b3 #[iv 1, iv 0, iv 0, iv 0] 70, cel b4 #[iv 1, iv 0, iv 0, iv 0] 70, cel b5 #[iv 1, iv 0, iv 0, iv 0] 70, cel b6 #[iv 1, iv 0, iv 0, iv 0] 70, cel b7 #[iv 1, iv 0, iv 0, iv 0] 70, cel b8 #[iv 0, iv 0, nl, iv 0, nl, iv 0, iv 11, iv 1, nl, iv 3, sv b1 2 2, iv 1, iv 4, iv 0, nl, iv 3, sv b2 2 2, iv 1, iv 4, iv 1, nl, iv 13, sv b3 2 2, iv 1, iv 4, iv 1, nl, iv 3, sv b4 1 2, iv 1, iv 4, iv 1, nl, iv 3, sv b5 2 2, iv 1, iv 4, iv 1, nl, iv 3, sv b6 2 2, iv 1, iv 4, iv 1, nl, iv 3, sv b7 2 2, iv 1] 25] w := hO
  replace hF := hF.sel [0, 1]
  replace hF : Fr 549 [] [(0, .bool false), (1, sv b8 8 8)] a := hF
  refine W_seq (region_seq ?_)
  refine seq_quiet {} TBok hF (F' := [(0, .bool false), (1, sv b8 8 8), (105, pv b5)]) (rs := [.idx (some ⟨b8, 0, none⟩) 8 5 6 ⟨b8, 30, none⟩, .ld ⟨b8, 34, none⟩ (sv b5 2 2), .idx (some ⟨b5, 0, none⟩) 2 0 2 ⟨b5, 0, none⟩]) [0, 1, 2, 3, 4, 5] [6] [0, 1, 105] (.cons (ixa (by decide) (by decide)) <| .cons (ldo hO.st 7 rfl 34 rfl) <| .cons (ixa (by decide) (by decide)) <| .nil) (by kernel_rfl) fun a w hF hE => ?_
  replace hO := hO.ext hE; clear hE
  refine op_store (i := 6) (t := 3) (p := ⟨b5, 0, none⟩) (v := iv 3) (off := 0) (sz := 1) (cs' := #[iv 3, iv 0, iv 0, iv 0]) hF hO (by kernel_rfl) 4 rfl rfl (by kernel_rfl) (by kernel_rfl) (by kernel_rfl) fun a w hF hO _ => ?_
  replace hF := hF.sel [0, 1]
  replace hF : Fr 549 [] [(0, .bool false), (1, sv b8 8 8)] a := hF
  refine W_seq (region_seq ?_)
  refine seq_quiet {} TBok hF (F' := [(0, .bool false), (1, sv b8 8 8), (106, sv b8 8 8)]) (rs := []) [0] [1, 2, 3, 4] [0, 1, 106] .nil (by kernel_rfl) fun a w hF hE => ?_
  replace hO := hO.ext hE; clear hE
  refine op_bsl (i := 1) (t := 22) (e := 3) (len := 1) (ps := [(0, iv 4)]) (d := 107) (sz := 1) (cs := #[iv 4]) (z := iv 0) hF hO (by kernel_rfl) (by kernel_rfl) (by kernel_rfl) (by kernel_rfl) (by kernel_rfl) fun a w b9 hF hO _ => ?_
  refine seq_quiet {} TBok hF (F' := [(0, .bool false), (1, sv b8 8 8), (107, sv b9 1 1), (109, .pointer (some ⟨b8, 38, none⟩))]) (rs := [.idx (some ⟨b8, 0, none⟩) 8 6 6 ⟨b8, 36, none⟩]) [2, 3] [4] [0, 1, 107, 109] (.cons (ixa (by decide) (by decide)) <| .nil) (by kernel_rfl) fun a w hF hE => ?_
  replace hO := hO.ext hE; clear hE
  refine op_store (i := 4) (t := 22) (p := ⟨b8, 38, none⟩) (v := sv b9 1 1) (off := 38) (sz := 1) (cs' := #[iv 0, iv 0, nl, iv 0, nl, iv 0, iv 11, iv 1, nl, iv 3, sv b1 2 2, iv 1, iv 4, iv 0, nl, iv 3, sv b2 2 2, iv 1, iv 4, iv 1, nl, iv 13, sv b3 2 2, iv 1, iv 4, iv 1, nl, iv 3, sv b4 1 2, iv 1, iv 4, iv 1, nl, iv 3, sv b5 2 2, iv 1, iv 4, iv 1, sv b9 1 1, iv 3, sv b6 2 2, iv 1, iv 4, iv 1, nl, iv 3, sv b7 2 2, iv 1]) hF hO (by kernel_rfl) 7 rfl rfl (by kernel_rfl) (by kernel_rfl) (by kernel_rfl) fun a w hF hO _ => ?_
  replace hF := hF.sel [0, 1]
  replace hF : Fr 549 [] [(0, .bool false), (1, sv b8 8 8)] a := hF
  refine W_seq (region_seq ?_)
  refine seq_quiet {} TBok hF (F' := [(0, .bool false), (1, sv b8 8 8), (110, sv b8 8 8)]) (rs := []) [0] [1, 2, 3, 4] [0, 1, 110] .nil (by kernel_rfl) fun a w hF hE => ?_
  replace hO := hO.ext hE; clear hE
  refine op_bsl (i := 1) (t := 22) (e := 3) (len := 2) (ps := [(0, iv 1), (1, iv 1)]) (d := 111) (sz := 1) (cs := #[iv 1, iv 1]) (z := iv 0) hF hO (by kernel_rfl) (by kernel_rfl) (by kernel_rfl) (by kernel_rfl) (by kernel_rfl) fun a w b10 hF hO _ => ?_
  replace hO : Own w0 none_ [cel b1 #[iv 1, iv 0, iv 0, iv 0] 70, cel b2 #[iv 1, iv 0, iv 0, iv 0] 70, cel b3 #[iv 1, iv 0, iv 0, iv 0] 70, cel b4 #[iv 1, iv 0, iv 0, iv 0] 70, cel b5 #[iv 3, iv 0, iv 0, iv 0] 70, cel b6 #[iv 1, iv 0, iv 0, iv 0] 70, cel b7 #[iv 1, iv 0, iv 0, iv 0] 70, cel b8 #[iv 0, iv 0, nl, iv 0, nl, iv 0, iv 11, iv 1, nl, iv 3, sv b1 2 2, iv 1, iv 4, iv 0, nl, iv 3, sv b2 2 2, iv 1, iv 4, iv 1, nl, iv 13, sv b3 2 2, iv 1, iv 4, iv 1, nl, iv 3, sv b4 1 2, iv 1, iv 4, iv 1, nl, iv 3, sv b5 2 2, iv 1, iv 4, iv 1, sv b9 1 1, iv 3, sv b6 2 2, iv 1, iv 4, iv 1, nl, iv 3, sv b7 2 2, iv 1] 25, cel b9 #[iv 4] 3, cel b10 #[iv 1, iv 1] 3] w := hO
  refine seq_quiet {} TBok hF (F' := [(0, .bool false), (1, sv b8 8 8), (111, sv b10 2 2), (113, .pointer (some ⟨b8, 44, none⟩))]) (rs := [.idx (some ⟨b8, 0, none⟩) 8 7 6 ⟨b8, 42, none⟩]) [2, 3] [4] [0, 1, 111, 113] (.cons (ixa (by decide) (by decide)) <| .nil) (by kernel_rfl) fun a w hF hE => ?_
  replace hO := hO.ext hE; clear hE
  refine op_store (i := 4) (t := 22) (p := ⟨b8, 44, none⟩) (v := sv b10 2 2) (off := 44) (sz := 1) (cs' := #[iv 0, iv 0, nl, iv 0, nl, iv 0, iv 11, iv 1, nl, iv 3, sv b1 2 2, iv 1, iv 4, iv 0, nl, iv 3, sv b2 2 2, iv 1, iv 4, iv 1, nl, iv 13, sv b3 2 2, iv 1, iv 4, iv 1, nl, iv 3, sv b4 1 2, iv 1, iv 4, iv 1, nl, iv 3, sv b5 2 2, iv 1, iv 4, iv 1, sv b9 1 1, iv 3, sv b6 2 2, iv 1, iv 4, iv 1, sv b10 2 2, iv 3, sv b7 2 2, iv 1]) hF hO (by kernel_rfl) 7 rfl rfl (by kernel_rfl) (by kernel_rfl) (by kernel_rfl) fun a w hF hO _ => ?_
  replace hF := hF.sel [0, 1]
  replace hF : Fr 549 [] [(0, .bool false), (1, sv b8 8 8)] a := hF
  refine W_seq ?_
  refine W_seq (region_q {} TBok hF (F' := [(0, .bool false), (1, sv b8 8 8), (2, iv 0)]) (rs := []) [0, 1, 2] .nil (by kernel_rfl) fun a w hF hE => ?_)
  replace hO := hO.ext hE; clear hE
  refine (W_block ?_)
  replace hO : Own w0 none_ [cel b1 #[iv 1, iv 0, iv 0, iv 0] 70, cel b2 #[iv 1, iv 0, iv 0, iv 0] 70, cel b3 #[iv 1, iv 0, iv 0, iv 0] 70, cel b4 #[iv 1, iv 0, iv 0, iv 0] 70, cel b5 #[iv 3, iv 0, iv 0, iv 0] 70, cel b6 #[iv 1, iv 0, iv 0, iv 0] 70, cel b7 #[iv 1, iv 0, iv 0, iv 0] 70, cel b8 (seas8 b1 b2 b3 b4 b5 b6 b7 b9 b10).toArray 25, cel b9 #[iv 4] 3, cel b10 #[iv 1, iv 1] 3] w := hO
  replace hF := hF.sel [1, 2]
  refine (W_loop (fun m a w => ∃ (i : Nat), m = 8 - i ∧ i ≤ 8 ∧ Fr 549 [] [(1, sv b8 8 8), (2, iv (i : Int))] a ∧ Own w0 none_ [cel b1 #[iv 1, iv 0, iv 0, iv 0] 70, cel b2 #[iv 1, iv 0, iv 0, iv 0] 70, cel b3 #[iv 1, iv 0, iv 0, iv 0] 70, cel b4 #[iv 1, iv 0, iv 0, iv 0] 70, cel b5 #[iv 3, iv 0, iv 0, iv 0] 70, cel b6 #[iv 1, iv 0, iv 0, iv 0] 70, cel b7 #[iv 1, iv 0, iv 0, iv 0] 70, cel b8 (seas8 b1 b2 b3 b4 b5 b6 b7 b9 b10).toArray 25, cel b9 #[iv 4] 3, cel b10 #[iv 1, iv 1] 3] w) _ ⟨0, rfl, by omega, hF, hO⟩ ?_)
  clear hF hO
  rintro _ a w ⟨i, rfl, hi, hF, hO⟩
  obtain rfl | rfl | rfl | rfl | rfl | rfl | rfl | rfl | rfl : i = 0 ∨ i = 1 ∨ i = 2 ∨ i = 3 ∨ i = 4 ∨ i = 5 ∨ i = 6 ∨ i = 7 ∨ i = 8 := by omega
  · replace hF : Fr 549 [] [(1, sv b8 8 8), (2, iv 0)] a := hF
    refine W_seq ?_
    refine W_seq (region_q {} TBok hF (F' := [(1, sv b8 8 8), (2, iv 0), (117, .bool true)]) (rs := []) [1, 2, 117] .nil (by kernel_rfl) fun a w hF hE => ?_)
    replace hO := hO.ext hE; clear hE
    refine (W_true (evOp hF (by kernel_rfl)) ?_)
    refine (W_skip ?_)
    refine W_seq (W_block ?_)
    refine W_seq (draw_start (R := none_) mixed [] 13 (by kernel_rfl) fun w hS => ?_)
    replace hO := hO.ext hS
    refine draw_q {} TBok hF hS (F' := [(1, sv b8 8 8), (2, iv 0), (124, .agg #[iv 0, iv 0, nl, iv 0, nl, iv 0])]) (rs := [.idx (some ⟨b8, 0, none⟩) 8 0 6 ⟨b8, 0, none⟩, .lds ⟨b8, 0, none⟩ [iv 0, iv 0, nl, iv 0, nl, iv 0]]) [0, 1, 2, 3] 13 9 (by kernel_rfl) #[true, true, true, true, false, false, false, false, false, false, false, false, false] [1, 2, 124] (.cons (ixa (by decide) (by decide)) <| .cons (ldso hO.st 7 rfl 0 (by kernel_rfl)) <| .nil) (by kernel_rfl) (by kernel_rfl) fun a hF => ?_
    replace hS := Kp.refl none_ w
    refine any_pick (rs := [4]) (by kernel_rfl) (by simp) fun w hE => all1 ?_
    replace hO := hO.ext hE; replace hS := hS.trans (Ext.kp hE)
    refine op_mslL (k := 4) (t := 26) (e := 52) (N := 25) (sz := 4) (z := .agg #[iv 0, iv 0, iv 0, .bool false]) (d := 125) (cs := zrpC.toArray) rfl hF hO (by kernel_rfl) (by kernel_rfl) (by kernel_rfl) (by kernel_rfl) (by decide) (by kernel_rfl) fun a w b11 hF hO hx => ⟨.inr (hS.trans (Ext.kp hx.1)), ?_⟩
    have hf_b11 := Nat.le_trans hS.size hx.2; replace hS := hS.trans (Ext.kp hx.1); clear hx
    refine draw_q {} TBok hF hS (F' := [(1, sv b8 8 8), (2, iv 0), (5, iv 10)]) (rs := [.call 16 #[.agg #[iv 0, iv 0, nl, iv 0, nl, iv 0], sv b11 25 25, nl] (.tuple #[iv 0, .bool false, iv 10])]) [5, 6, 7, 8, 9, 10, 11, 12] 8 0 (by kernel_rfl) #[true, true, true, true, true, true, true, true, true, true, true, true, true] [1, 2, 5] (.cons (fun w hE => calls_cast (IsTrack_calls sa0 (⟨none, 0, 0, none, 0, 0⟩ : SV) zrpL (some ⟨b11, 0, none⟩) 25 25 ([] : List Int) none 0 0 w (lit_R none 0 0 none 0 0 sa0 (rd_nil _ _ _) (rd_nil _ _ _)) (rdz (hO.st w hE) 10 rfl) (rd_nil _ _ _)) (by kernel_rfl)) <| .nil) (by kernel_rfl) (by kernel_rfl) fun a hF => ?_
    replace hS := Kp.refl none_ w
    refine any_done (by kernel_rfl) (fun w hE => ?_) _
    replace hO := hO.ext hE
    replace hF := hF.sel [1, 2, 5]
    replace hF : Fr 549 [] [(1, sv b8 8 8), (2, iv 0), (5, iv 10)] a := hF
    replace hO := hO.drop1 10
    refine W_seq (region_seq ?_)
    refine seq_quiet {} TBok hF (F' := [(1, sv b8 8 8), (2, iv 0), (5, iv 10), (134, .agg #[iv 0, iv 0, nl, iv 0, nl, iv 0])]) (rs := [.idx (some ⟨b8, 0, none⟩) 8 0 6 ⟨b8, 0, none⟩, .lds ⟨b8, 0, none⟩ [iv 0, iv 0, nl, iv 0, nl, iv 0]]) [0, 1, 2, 3] [4, 5, 6, 7, 8, 9, 10, 11] [1, 2, 5, 134] (.cons (ixa (by decide) (by decide)) <| .cons (ldso hO.st 7 rfl 0 (by kernel_rfl)) <| .nil) (by kernel_rfl) fun a w hF hE => ?_
    replace hO := hO.ext hE; clear hE
    refine op_call (i := 4) (f := 20) (args := #[.agg #[iv 0, iv 0, nl, iv 0, nl, iv 0], nl]) (d := some 135) TBok (by kernel_rfl) hF (by kernel_rfl) (Least_calls sa0 (⟨none, 0, 0, none, 0, 0⟩ : SV) ([] : List Rp) none 0 0 _ (lit_R none 0 0 none 0 0 sa0 (rd_nil _ _ _) (rd_nil _ _ _)) (rd_nil _ _ _)) fun e w hR => ?_
    obtain ⟨p12, n13, c14, hn15, he, hO2⟩ := hR
    replace he : e = .returned (.tuple #[iv 0, .slice p12 n13 c14, iv 10]) := he.trans (congrArg Ending.returned (by kernel_rfl))
    refine ⟨_, he, fun a hF => ?_⟩
    replace hO := hO.joinE hO2; clear hO2 he
    refine seq_quiet {} TBok hF (F' := [(1, sv b8 8 8), (2, iv 0), (5, iv 10), (8, iv 10)]) (rs := []) [5, 6, 7, 8, 9, 10, 11] [] [1, 2, 5, 8] .nil (by kernel_rfl) fun a w hF hE => ?_
    replace hO := hO.ext hE; clear hE
    replace hO := hO.drop1 10
    replace hO : Own w0 none_ [cel b1 #[iv 1, iv 0, iv 0, iv 0] 70, cel b2 #[iv 1, iv 0, iv 0, iv 0] 70, cel b3 #[iv 1, iv 0, iv 0, iv 0] 70, cel b4 #[iv 1, iv 0, iv 0, iv 0] 70, cel b5 #[iv 3, iv 0, iv 0, iv 0] 70, cel b6 #[iv 1, iv 0, iv 0, iv 0] 70, cel b7 #[iv 1, iv 0, iv 0, iv 0] 70, cel b8 (seas8 b1 b2 b3 b4 b5 b6 b7 b9 b10).toArray 25, cel b9 #[iv 4] 3, cel b10 #[iv 1, iv 1] 3] w := hO
    refine W_seq (region_seq ?_)
    refine seq_quiet {} TBok hF (F' := [(1, sv b8 8 8), (2, iv 0), (5, iv 10), (8, iv 10), (143, .agg #[iv 0, iv 0, nl, iv 0, nl, iv 0])]) (rs := [.idx (some ⟨b8, 0, none⟩) 8 0 6 ⟨b8, 0, none⟩, .lds ⟨b8, 0, none⟩ [iv 0, iv 0, nl, iv 0, nl, iv 0]]) [0, 1, 2, 3] [4, 5, 6, 7, 8, 9] [1, 2, 5, 8, 143] (.cons (ixa (by decide) (by decide)) <| .cons (ldso hO.st 7 rfl 0 (by kernel_rfl)) <| .nil) (by kernel_rfl) fun a w hF hE => ?_
    replace hO := hO.ext hE; clear hE
    refine op_call (i := 4) (f := 24) (args := #[.agg #[iv 0, iv 0, nl, iv 0, nl, iv 0], nl, iv (-1), iv 0]) (d := some 144) TBok (by kernel_rfl) hF (by kernel_rfl) (Can_calls sa0 (⟨none, 0, 0, none, 0, 0⟩ : SV) ([] : List Rp) none 0 0 (-1) 0 _ (lit_R none 0 0 none 0 0 sa0 (rd_nil _ _ _) (rd_nil _ _ _)) (rd_nil _ _ _)) fun e w hR => ?_
    obtain ⟨p16, n17, c18, hn19, he, hO2⟩ := hR
    replace he : e = .returned (.tuple #[.slice p16 n17 c18, iv 10]) := he.trans (congrArg Ending.returned (by kernel_rfl))
    refine ⟨_, he, fun a hF => ?_⟩
    replace hO := hO.joinE hO2; clear hO2 he
    refine seq_quiet {} TBok hF (F' := [(1, sv b8 8 8), (2, iv 0), (5, iv 10), (8, iv 10), (10, iv 10)]) (rs := []) [5, 6, 7, 8, 9] [] [1, 2, 5, 8, 10] .nil (by kernel_rfl) fun a w hF hE => ?_
    replace hO := hO.ext hE; clear hE
    replace hO := hO.drop1 10
    refine W_seq (region_seq ?_)
    refine seq_quiet {} TBok hF (F' := [(1, sv b8 8 8), (2, iv 0), (5, iv 10), (8, iv 10), (10, iv 10), (151, .agg #[iv 0, iv 0, nl, iv 0, nl, iv 0])]) (rs := [.idx (some ⟨b8, 0, none⟩) 8 0 6 ⟨b8, 0, none⟩, .lds ⟨b8, 0, none⟩ [iv 0, iv 0, nl, iv 0, nl, iv 0]]) [0, 1, 2, 3] [4, 5, 6, 7, 8, 9] [1, 2, 5, 8, 10, 151] (.cons (ixa (by decide) (by decide)) <| .cons (ldso hO.st 7 rfl 0 (by kernel_rfl)) <| .nil) (by kernel_rfl) fun a w hF hE => ?_
    replace hO := hO.ext hE; clear hE
    refine op_call (i := 4) (f := 26) (args := #[.agg #[iv 0, iv 0, nl, iv 0, nl, iv 0], nl]) (d := some 152) TBok (by kernel_rfl) hF (by kernel_rfl) (Liars_calls sa0 (⟨none, 0, 0, none, 0, 0⟩ : SV) ([] : List Rp) none 0 0  _ (lit_R none 0 0 none 0 0 sa0 (rd_nil _ _ _) (rd_nil _ _ _)) (rd_nil _ _ _)) fun e w hR => ?_
    obtain ⟨p20, n21, c22, hn23, he, hO2⟩ := hR
    replace he : e = .returned (.tuple #[.slice p20 n21 c22, iv 10]) := he.trans (congrArg Ending.returned (by kernel_rfl))
    refine ⟨_, he, fun a hF => ?_⟩
    replace hO := hO.joinE hO2; clear hO2 he
    refine seq_quiet {} TBok hF (F' := [(1, sv b8 8 8), (2, iv 0), (5, iv 10), (8, iv 10), (10, iv 10), (12, iv 10)]) (rs := []) [5, 6, 7, 8, 9] [] [1, 2, 5, 8, 10, 12] .nil (by kernel_rfl) fun a w hF hE => ?_
    replace hO := hO.ext hE; clear hE
    replace hO := hO.drop1 10
    replace hO : Own w0 none_ [cel b1 #[iv 1, iv 0, iv 0, iv 0] 70, cel b2 #[iv 1, iv 0, iv 0, iv 0] 70, cel b3 #[iv 1, iv 0, iv 0, iv 0] 70, cel b4 #[iv 1, iv 0, iv 0, iv 0] 70, cel b5 #[iv 3, iv 0, iv 0, iv 0] 70, cel b6 #[iv 1, iv 0, iv 0, iv 0] 70, cel b7 #[iv 1, iv 0, iv 0, iv 0] 70, cel b8 (seas8 b1 b2 b3 b4 b5 b6 b7 b9 b10).toArray 25, cel b9 #[iv 4] 3, cel b10 #[iv 1, iv 1] 3] w := hO
    refine W_seq (region_q {} TBok hF (F' := [(1, sv b8 8 8), (2, iv 0), (5, iv 10), (8, iv 10), (10, iv 10), (12, iv 10), (15, iv 10)]) (rs := [.idx (some ⟨b8, 0, none⟩) 8 0 6 ⟨b8, 0, none⟩, .lds ⟨b8, 0, none⟩ [iv 0, iv 0, nl, iv 0, nl, iv 0], .call 28 #[.agg #[iv 0, iv 0, nl, iv 0, nl, iv 0], nl, iv (-1), iv 0, nl] (.tuple #[iv 0, iv 0, iv 10])]) [1, 2, 5, 8, 10, 12, 15] (.cons (ixa (by decide) (by decide)) <| .cons (ldso hO.st 7 rfl 0 (by kernel_rfl)) <| .cons (fun w hE => calls_cast (Next_calls sa0 (⟨none, 0, 0, none, 0, 0⟩ : SV) ([] : List Rp) none 0 0 (-1) 0 ([] : List Cs) none 0 0 w (lit_R none 0 0 none 0 0 sa0 (rd_nil _ _ _) (rd_nil _ _ _)) (rd_nil _ _ _) (rd_nil _ _ _) (hci_of (by decide)) (by decide)) (by kernel_rfl)) <| .nil) (by kernel_rfl) fun a w hF hE => ?_)
    replace hO := hO.ext hE; clear hE
    refine W_seq (region_seq ?_)
    refine seq_quiet {} TBok hF (F' := [(1, sv b8 8 8), (2, iv 0), (5, iv 10), (8, iv 10), (10, iv 10), (12, iv 10), (15, iv 10), (168, .agg #[iv 0, iv 0, nl, iv 0, nl, iv 0])]) (rs := [.idx (some ⟨b8, 0, none⟩) 8 0 6 ⟨b8, 0, none⟩, .lds ⟨b8, 0, none⟩ [iv 0, iv 0, nl, iv 0, nl, iv 0]]) [0, 1, 2, 3] [4, 5, 6, 7, 8, 9] [1, 2, 5, 8, 10, 12, 15, 168] (.cons (ixa (by decide) (by decide)) <| .cons (ldso hO.st 7 rfl 0 (by kernel_rfl)) <| .nil) (by kernel_rfl) fun a w hF hE => ?_
    replace hO := hO.ext hE; clear hE
    refine op_call (i := 4) (f := 30) (args := #[.agg #[iv 0, iv 0, nl, iv 0, nl, iv 0], nl, iv (-1), iv 0, nl]) (d := some 169) TBok (by kernel_rfl) hF (by kernel_rfl) (Sure_calls sa0 (⟨none, 0, 0, none, 0, 0⟩ : SV) ([] : List Rp) none 0 0 (-1) 0 ([] : List Cs) none 0 0 _ (lit_R none 0 0 none 0 0 sa0 (rd_nil _ _ _) (rd_nil _ _ _)) (rd_nil _ _ _) (rd_nil _ _ _) (hci_of (by decide)) (by decide)) fun e w hR => ?_
    obtain ⟨p24, n25, c26, hn27, he, hO2⟩ := hR
    replace he : e = .returned (.tuple #[.slice p24 n25 c26, iv 10]) := he.trans (congrArg Ending.returned (by kernel_rfl))
    refine ⟨_, he, fun a hF => ?_⟩
    replace hO := hO.joinE hO2; clear hO2 he
    refine seq_quiet {} TBok hF (F' := [(1, sv b8 8 8), (2, iv 0), (5, iv 10), (8, iv 10), (10, iv 10), (12, iv 10), (15, iv 10), (17, iv 10)]) (rs := []) [5, 6, 7, 8, 9] [] [1, 2, 5, 8, 10, 12, 15, 17] .nil (by kernel_rfl) fun a w hF hE => ?_
    replace hO := hO.ext hE; clear hE
    replace hO := hO.drop1 10
    refine W_seq (region_q {} TBok hF (F' := [(1, sv b8 8 8), (2, iv 0), (201, .bool false)]) (rs := [.idx (some ⟨b8, 0, none⟩) 8 0 6 ⟨b8, 0, none⟩, .lds ⟨b8, 0, none⟩ [iv 0, iv 0, nl, iv 0, nl, iv 0], .call 18 #[.agg #[iv 0, iv 0, nl, iv 0, nl, iv 0]] (iv 10)]) [1, 2, 201] (.cons (ixa (by decide) (by decide)) <| .cons (ldso hO.st 7 rfl 0 (by kernel_rfl)) <| .cons (fun w hE => calls_cast (Check_calls sa0 (⟨none, 0, 0, none, 0, 0⟩ : SV) w (lit_R none 0 0 none 0 0 sa0 (rd_nil _ _ _) (rd_nil _ _ _))) (by kernel_rfl)) <| .nil) (by kernel_rfl) fun a w hF hE => ?_)
    replace hO := hO.ext hE; clear hE
    refine (W_false (evOp hF (by kernel_rfl)) ?_)
    refine (W_skip ?_)
    refine (region_q {} TBok hF (F' := [(1, sv b8 8 8), (2, iv 1)]) (rs := [.rng 1]) [1, 2] (.cons (rg (by decide)) <| .nil) (by kernel_rfl) fun a w hF hE => ?_)
    replace hO := hO.ext hE; clear hE
    exact ⟨_, by omega, 1, rfl, by omega, hF, hO⟩
  · replace hF : Fr 549 [] [(1, sv b8 8 8), (2, iv 1)] a := hF
    refine W_seq ?_
    refine W_seq (region_q {} TBok hF (F' := [(1, sv b8 8 8), (2, iv 1), (117, .bool true)]) (rs := []) [1, 2, 117] .nil (by kernel_rfl) fun a w hF hE => ?_)
    replace hO := hO.ext hE; clear hE
    refine (W_true (evOp hF (by kernel_rfl)) ?_)
    refine (W_skip ?_)
    refine W_seq (W_block ?_)
    refine W_seq (draw_start (R := none_) mixed [] 13 (by kernel_rfl) fun w hS => ?_)
    replace hO := hO.ext hS
    refine draw_q {} TBok hF hS (F' := [(1, sv b8 8 8), (2, iv 1), (124, .agg #[iv 11, iv 1, nl, iv 3, sv b1 2 2, iv 1])]) (rs := [.idx (some ⟨b8, 0, none⟩) 8 1 6 ⟨b8, 6, none⟩, .lds ⟨b8, 6, none⟩ [iv 11, iv 1, nl, iv 3, sv b1 2 2, iv 1]]) [0, 1, 2, 3] 13 9 (by kernel_rfl) #[true, true, true, true, false, false, false, false, false, false, false, false, false] [1, 2, 124] (.cons (ixa (by decide) (by decide)) <| .cons (ldso hO.st 7 rfl 6 (by kernel_rfl)) <| .nil) (by kernel_rfl) (by kernel_rfl) fun a hF => ?_
    replace hS := Kp.refl none_ w
    refine any_pick (rs := [4]) (by kernel_rfl) (by simp) fun w hE => all1 ?_
    replace hO := hO.ext hE; replace hS := hS.trans (Ext.kp hE)
    refine op_mslL (k := 4) (t := 26) (e := 52) (N := 25) (sz := 4) (z := .agg #[iv 0, iv 0, iv 0, .bool false]) (d := 125) (cs := zrpC.toArray) rfl hF hO (by kernel_rfl) (by kernel_rfl) (by kernel_rfl) (by kernel_rfl) (by decide) (by kernel_rfl) fun a w b28 hF hO hx => ⟨.inr (hS.trans (Ext.kp hx.1)), ?_⟩
    have hf_b28 := Nat.le_trans hS.size hx.2; replace hS := hS.trans (Ext.kp hx.1); clear hx
    refine draw_q {} TBok hF hS (F' := [(1, sv b8 8 8), (2, iv 1), (5, iv 10)]) (rs := [.call 16 #[.agg #[iv 11, iv 1, nl, iv 3, sv b1 2 2, iv 1], sv b28 25 25, nl] (.tuple #[iv 0, .bool false, iv 10])]) [5, 6, 7, 8, 9, 10, 11, 12] 8 0 (by kernel_rfl) #[true, true, true, true, true, true, true, true, true, true, true, true, true] [1, 2, 5] (.cons (fun w hE => calls_cast (IsTrack_calls sa1 (vb b1) zrpL (some ⟨b28, 0, none⟩) 25 25 ([] : List Int) none 0 0 w (lit_R none 0 0 (some ⟨b1, 0, none⟩) 2 2 sa1 (rd_nil _ _ _) (rd4 (hO.st w hE) 0 rfl)) (rdz (hO.st w hE) 10 rfl) (rd_nil _ _ _)) (by kernel_rfl)) <| .nil) (by kernel_rfl) (by kernel_rfl) fun a hF => ?_
    replace hS := Kp.refl none_ w
    refine any_done (by kernel_rfl) (fun w hE => ?_) _
    replace hO := hO.ext hE
    replace hF := hF.sel [1, 2, 5]
    replace hF : Fr 549 [] [(1, sv b8 8 8), (2, iv 1), (5, iv 10)] a := hF
    replace hO := hO.drop1 10
    refine W_seq (region_seq ?_)
    refine seq_quiet {} TBok hF (F' := [(1, sv b8 8 8), (2, iv 1), (5, iv 10), (134, .agg #[iv 11, iv 1, nl, iv 3, sv b1 2 2, iv 1])]) (rs := [.idx (some ⟨b8, 0, none⟩) 8 1 6 ⟨b8, 6, none⟩, .lds ⟨b8, 6, none⟩ [iv 11, iv 1, nl, iv 3, sv b1 2 2, iv 1]]) [0, 1, 2, 3] [4, 5, 6, 7, 8, 9, 10, 11] [1, 2, 5, 134] (.cons (ixa (by decide) (by decide)) <| .cons (ldso hO.st 7 rfl 6 (by kernel_rfl)) <| .nil) (by kernel_rfl) fun a w hF hE => ?_
    replace hO := hO.ext hE; clear hE
    refine op_call (i := 4) (f := 20) (args := #[.agg #[iv 11, iv 1, nl, iv 3, sv b1 2 2, iv 1], nl]) (d := some 135) TBok (by kernel_rfl) hF (by kernel_rfl) (Least_calls sa1 (vb b1) ([] : List Rp) none 0 0 _ (lit_R none 0 0 (some ⟨b1, 0, none⟩) 2 2 sa1 (rd_nil _ _ _) (rd4 hO 0 rfl)) (rd_nil _ _ _)) fun e w hR => ?_
    obtain ⟨p29, n30, c31, hn32, he, hO2⟩ := hR
    replace he : e = .returned (.tuple #[iv 0, .slice p29 n30 c31, iv 10]) := he.trans (congrArg Ending.returned (by kernel_rfl))
    refine ⟨_, he, fun a hF => ?_⟩
    replace hO := hO.joinE hO2; clear hO2 he
    refine seq_quiet {} TBok hF (F' := [(1, sv b8 8 8), (2, iv 1), (5, iv 10), (8, iv 10)]) (rs := []) [5, 6, 7, 8, 9, 10, 11] [] [1, 2, 5, 8] .nil (by kernel_rfl) fun a w hF hE => ?_
    replace hO := hO.ext hE; clear hE
    replace hO := hO.drop1 10
    replace hO : Own w0 none_ [cel b1 #[iv 1, iv 0, iv 0, iv 0] 70, cel b2 #[iv 1, iv 0, iv 0, iv 0] 70, cel b3 #[iv 1, iv 0, iv 0, iv 0] 70, cel b4 #[iv 1, iv 0, iv 0, iv 0] 70, cel b5 #[iv 3, iv 0, iv 0, iv 0] 70, cel b6 #[iv 1, iv 0, iv 0, iv 0] 70, cel b7 #[iv 1, iv 0, iv 0, iv 0] 70, cel b8 (seas8 b1 b2 b3 b4 b5 b6 b7 b9 b10).toArray 25, cel b9 #[iv 4] 3, cel b10 #[iv 1, iv 1] 3] w := hO
    refine W_seq (region_seq ?_)
    refine seq_quiet {} TBok hF (F' := [(1, sv b8 8 8), (2, iv 1), (5, iv 10), (8, iv 10), (143, .agg #[iv 11, iv 1, nl, iv 3, sv b1 2 2, iv 1])]) (rs := [.idx (some ⟨b8, 0, none⟩) 8 1 6 ⟨b8, 6, none⟩, .lds ⟨b8, 6, none⟩ [iv 11, iv 1, nl, iv 3, sv b1 2 2, iv 1]]) [0, 1, 2, 3] [4, 5, 6, 7, 8, 9] [1, 2, 5, 8, 143] (.cons (ixa (by decide) (by decide)) <| .cons (ldso hO.st 7 rfl 6 (by kernel_rfl)) <| .nil) (by kernel_rfl) fun a w hF hE => ?_
    replace hO := hO.ext hE; clear hE
    refine op_call (i := 4) (f := 24) (args := #[.agg #[iv 11, iv 1, nl, iv 3, sv b1 2 2, iv 1], nl, iv (-1), iv 0]) (d := some 144) TBok (by kernel_rfl) hF (by kernel_rfl) (Can_calls sa1 (vb b1) ([] : List Rp) none 0 0 (-1) 0 _ (lit_R none 0 0 (some ⟨b1, 0, none⟩) 2 2 sa1 (rd_nil _ _ _) (rd4 hO 0 rfl)) (rd_nil _ _ _)) fun e w hR => ?_
    obtain ⟨p33, n34, c35, hn36, he, hO2⟩ := hR
    replace he : e = .returned (.tuple #[.slice p33 n34 c35, iv 10]) := he.trans (congrArg Ending.returned (by kernel_rfl))
    refine ⟨_, he, fun a hF => ?_⟩
    replace hO := hO.joinE hO2; clear hO2 he
    refine seq_quiet {} TBok hF (F' := [(1, sv b8 8 8), (2, iv 1), (5, iv 10), (8, iv 10), (10, iv 10)]) (rs := []) [5, 6, 7, 8, 9] [] [1, 2, 5, 8, 10] .nil (by kernel_rfl) fun a w hF hE => ?_
    replace hO := hO.ext hE; clear hE
    replace hO := hO.drop1 10
    refine W_seq (region_seq ?_)
    refine seq_quiet {} TBok hF (F' := [(1, sv b8 8 8), (2, iv 1), (5, iv 10), (8, iv 10), (10, iv 10), (151, .agg #[iv 11, iv 1, nl, iv 3, sv b1 2 2, iv 1])]) (rs := [.idx (some ⟨b8, 0, none⟩) 8 1 6 ⟨b8, 6, none⟩, .lds ⟨b8, 6, none⟩ [iv 11, iv 1, nl, iv 3, sv b1 2 2, iv 1]]) [0, 1, 2, 3] [4, 5, 6, 7, 8, 9] [1, 2, 5, 8, 10, 151] (.cons (ixa (by decide) (by decide)) <| .cons (ldso hO.st 7 rfl 6 (by kernel_rfl)) <| .nil) (by kernel_rfl) fun a w hF hE => ?_
    replace hO := hO.ext hE; clear hE
    refine op_call (i := 4) (f := 26) (args := #[.agg #[iv 11, iv 1, nl, iv 3, sv b1 2 2, iv 1], nl]) (d := some 152) TBok (by kernel_rfl) hF (by kernel_rfl) (Liars_calls sa1 (vb b1) ([] : List Rp) none 0 0  _ (lit_R none 0 0 (some ⟨b1, 0, none⟩) 2 2 sa1 (rd_nil _ _ _) (rd4 hO 0 rfl)) (rd_nil _ _ _)) fun e w hR => ?_
    obtain ⟨p37, n38, c39, hn40, he, hO2⟩ := hR
    replace he : e = .returned (.tuple #[.slice p37 n38 c39, iv 10]) := he.trans (congrArg Ending.returned (by kernel_rfl))
    refine ⟨_, he, fun a hF => ?_⟩
    replace hO := hO.joinE hO2; clear hO2 he
    refine seq_quiet {} TBok hF (F' := [(1, sv b8 8 8), (2, iv 1), (5, iv 10), (8, iv 10), (10, iv 10), (12, iv 10)]) (rs := []) [5, 6, 7, 8, 9] [] [1, 2, 5, 8, 10, 12] .nil (by kernel_rfl) fun a w hF hE => ?_
    replace hO := hO.ext hE; clear hE
    replace hO := hO.drop1 10
    replace hO : Own w0 none_ [cel b1 #[iv 1, iv 0, iv 0, iv 0] 70, cel b2 #[iv 1, iv 0, iv 0, iv 0] 70, cel b3 #[iv 1, iv 0, iv 0, iv 0] 70, cel b4 #[iv 1, iv 0, iv 0, iv 0] 70, cel b5 #[iv 3, iv 0, iv 0, iv 0] 70, cel b6 #[iv 1, iv 0, iv 0, iv 0] 70, cel b7 #[iv 1, iv 0, iv 0, iv 0] 70, cel b8 (seas8 b1 b2 b3 b4 b5 b6 b7 b9 b10).toArray 25, cel b9 #[iv 4] 3, cel b10 #[iv 1, iv 1] 3] w := hO
    refine W_seq (region_q {} TBok hF (F' := [(1, sv b8 8 8), (2, iv 1), (5, iv 10), (8, iv 10), (10, iv 10), (12, iv 10), (15, iv 10)]) (rs := [.idx (some ⟨b8, 0, none⟩) 8 1 6 ⟨b8, 6, none⟩, .lds ⟨b8, 6, none⟩ [iv 11, iv 1, nl, iv 3, sv b1 2 2, iv 1], .call 28 #[.agg #[iv 11, iv 1, nl, iv 3, sv b1 2 2, iv 1], nl, iv (-1), iv 0, nl] (.tuple #[iv 0, iv 0, iv 10])]) [1, 2, 5, 8, 10, 12, 15] (.cons (ixa (by decide) (by decide)) <| .cons (ldso hO.st 7 rfl 6 (by kernel_rfl)) <| .cons (fun w hE => calls_cast (Next_calls sa1 (vb b1) ([] : List Rp) none 0 0 (-1) 0 ([] : List Cs) none 0 0 w (lit_R none 0 0 (some ⟨b1, 0, none⟩) 2 2 sa1 (rd_nil _ _ _) (rd4 (hO.st w hE) 0 rfl)) (rd_nil _ _ _) (rd_nil _ _ _) (hci_of (by decide)) (by decide)) (by kernel_rfl)) <| .nil) (by kernel_rfl) fun a w hF hE => ?_)
    replace hO := hO.ext hE; clear hE
    refine W_seq (region_seq ?_)
    refine seq_quiet {} TBok hF (F' := [(1, sv b8 8 8), (2, iv 1), (5, iv 10), (8, iv 10), (10, iv 10), (12, iv 10), (15, iv 10), (168, .agg #[iv 11, iv 1, nl, iv 3, sv b1 2 2, iv 1])]) (rs := [.idx (some ⟨b8, 0, none⟩) 8 1 6 ⟨b8, 6, none⟩, .lds ⟨b8, 6, none⟩ [iv 11, iv 1, nl, iv 3, sv b1 2 2, iv 1]]) [0, 1, 2, 3] [4, 5, 6, 7, 8, 9] [1, 2, 5, 8, 10, 12, 15, 168] (.cons (ixa (by decide) (by decide)) <| .cons (ldso hO.st 7 rfl 6 (by kernel_rfl)) <| .nil) (by kernel_rfl) fun a w hF hE => ?_
    replace hO := hO.ext hE; clear hE
    refine op_call (i := 4) (f := 30) (args := #[.agg #[iv 11, iv 1, nl, iv 3, sv b1 2 2, iv 1], nl, iv (-1), iv 0, nl]) (d := some 169) TBok (by kernel_rfl) hF (by kernel_rfl) (Sure_calls sa1 (vb b1) ([] : List Rp) none 0 0 (-1) 0 ([] : List Cs) none 0 0 _ (lit_R none 0 0 (some ⟨b1, 0, none⟩) 2 2 sa1 (rd_nil _ _ _) (rd4 hO 0 rfl)) (rd_nil _ _ _) (rd_nil _ _ _) (hci_of (by decide)) (by decide)) fun e w hR => ?_
    obtain ⟨p41, n42, c43, hn44, he, hO2⟩ := hR
    replace he : e = .returned (.tuple #[.slice p41 n42 c43, iv 10]) := he.trans (congrArg Ending.returned (by kernel_rfl))
    refine ⟨_, he, fun a hF => ?_⟩
    replace hO := hO.joinE hO2; clear hO2 he
    refine seq_quiet {} TBok hF (F' := [(1, sv b8 8 8), (2, iv 1), (5, iv 10), (8, iv 10), (10, iv 10), (12, iv 10), (15, iv 10), (17, iv 10)]) (rs := []) [5, 6, 7, 8, 9] [] [1, 2, 5, 8, 10, 12, 15, 17] .nil (by kernel_rfl) fun a w hF hE => ?_
    replace hO := hO.ext hE; clear hE
    replace hO := hO.drop1 10
    refine W_seq (region_q {} TBok hF (F' := [(1, sv b8 8 8), (2, iv 1), (201, .bool false)]) (rs := [.idx (some ⟨b8, 0, none⟩) 8 1 6 ⟨b8, 6, none⟩, .lds ⟨b8, 6, none⟩ [iv 11, iv 1, nl, iv 3, sv b1 2 2, iv 1], .call 18 #[.agg #[iv 11, iv 1, nl, iv 3, sv b1 2 2, iv 1]] (iv 10)]) [1, 2, 201] (.cons (ixa (by decide) (by decide)) <| .cons (ldso hO.st 7 rfl 6 (by kernel_rfl)) <| .cons (fun w hE => calls_cast (Check_calls sa1 (vb b1) w (lit_R none 0 0 (some ⟨b1, 0, none⟩) 2 2 sa1 (rd_nil _ _ _) (rd4 (hO.st w hE) 0 rfl))) (by kernel_rfl)) <| .nil) (by kernel_rfl) fun a w hF hE => ?_)
    replace hO := hO.ext hE; clear hE
    refine (W_false (evOp hF (by kernel_rfl)) ?_)
    refine (W_skip ?_)
    refine (region_q {} TBok hF (F' := [(1, sv b8 8 8), (2, iv 2)]) (rs := [.rng 2]) [1, 2] (.cons (rg (by decide)) <| .nil) (by kernel_rfl) fun a w hF hE => ?_)
    replace hO := hO.ext hE; clear hE
    exact ⟨_, by omega, 2, rfl, by omega, hF, hO⟩
  · replace hF : Fr 549 [] [(1, sv b8 8 8), (2, iv 2)] a := hF
    refine W_seq ?_
    refine W_seq (region_q {} TBok hF (F' := [(1, sv b8 8 8), (2, iv 2), (117, .bool true)]) (rs := []) [1, 2, 117] .nil (by kernel_rfl) fun a w hF hE => ?_)
    replace hO := hO.ext hE; clear hE
    refine (W_true (evOp hF (by kernel_rfl)) ?_)
    refine (W_skip ?_)
    refine W_seq (W_block ?_)
    refine W_seq (draw_start (R := none_) mixed [] 13 (by kernel_rfl) fun w hS => ?_)
    replace hO := hO.ext hS
    refine draw_q {} TBok hF hS (F' := [(1, sv b8 8 8), (2, iv 2), (124, .agg #[iv 4, iv 0, nl, iv 3, sv b2 2 2, iv 1])]) (rs := [.idx (some ⟨b8, 0, none⟩) 8 2 6 ⟨b8, 12, none⟩, .lds ⟨b8, 12, none⟩ [iv 4, iv 0, nl, iv 3, sv b2 2 2, iv 1]]) [0, 1, 2, 3] 13 9 (by kernel_rfl) #[true, true, true, true, false, false, false, false, false, false, false, false, false] [1, 2, 124] (.cons (ixa (by decide) (by decide)) <| .cons (ldso hO.st 7 rfl 12 (by kernel_rfl)) <| .nil) (by kernel_rfl) (by kernel_rfl) fun a hF => ?_
    replace hS := Kp.refl none_ w
    refine any_pick (rs := [4]) (by kernel_rfl) (by simp) fun w hE => all1 ?_
    replace hO := hO.ext hE; replace hS := hS.trans (Ext.kp hE)
    refine op_mslL (k := 4) (t := 26) (e := 52) (N := 25) (sz := 4) (z := .agg #[iv 0, iv 0, iv 0, .bool false]) (d := 125) (cs := zrpC.toArray) rfl hF hO (by kernel_rfl) (by kernel_rfl) (by kernel_rfl) (by kernel_rfl) (by decide) (by kernel_rfl) fun a w b45 hF hO hx => ⟨.inr (hS.trans (Ext.kp hx.1)), ?_⟩
    have hf_b45 := Nat.le_trans hS.size hx.2; replace hS := hS.trans (Ext.kp hx.1); clear hx
    refine draw_q {} TBok hF hS (F' := [(1, sv b8 8 8), (2, iv 2), (5, iv 10)]) (rs := [.call 16 #[.agg #[iv 4, iv 0, nl, iv 3, sv b2 2 2, iv 1], sv b45 25 25, nl] (.tuple #[iv 0, .bool false, iv 10])]) [5, 6, 7, 8, 9, 10, 11, 12] 8 0 (by kernel_rfl) #[true, true, true, true, true, true, true, true, true, true, true, true, true] [1, 2, 5] (.cons (fun w hE => calls_cast (IsTrack_calls sa2 (vb b2) zrpL (some ⟨b45, 0, none⟩) 25 25 ([] : List Int) none 0 0 w (lit_R none 0 0 (some ⟨b2, 0, none⟩) 2 2 sa2 (rd_nil _ _ _) (rd4 (hO.st w hE) 1 rfl)) (rdz (hO.st w hE) 10 rfl) (rd_nil _ _ _)) (by kernel_rfl)) <| .nil) (by kernel_rfl) (by kernel_rfl) fun a hF => ?_
    replace hS := Kp.refl none_ w
    refine any_done (by kernel_rfl) (fun w hE => ?_) _
    replace hO := hO.ext hE
    replace hF := hF.sel [1, 2, 5]
    replace hF : Fr 549 [] [(1, sv b8 8 8), (2, iv 2), (5, iv 10)] a := hF
    replace hO := hO.drop1 10
    refine W_seq (region_seq ?_)
    refine seq_quiet {} TBok hF (F' := [(1, sv b8 8 8), (2, iv 2), (5, iv 10), (134, .agg #[iv 4, iv 0, nl, iv 3, sv b2 2 2, iv 1])]) (rs := [.idx (some ⟨b8, 0, none⟩) 8 2 6 ⟨b8, 12, none⟩, .lds ⟨b8, 12, none⟩ [iv 4, iv 0, nl, iv 3, sv b2 2 2, iv 1]]) [0, 1, 2, 3] [4, 5, 6, 7, 8, 9, 10, 11] [1, 2, 5, 134] (.cons (ixa (by decide) (by decide)) <| .cons (ldso hO.st 7 rfl 12 (by kernel_rfl)) <| .nil) (by kernel_rfl) fun a w hF hE => ?_
    replace hO := hO.ext hE; clear hE
    refine op_call (i := 4) (f := 20) (args := #[.agg #[iv 4, iv 0, nl, iv 3, sv b2 2 2, iv 1], nl]) (d := some 135) TBok (by kernel_rfl) hF (by kernel_rfl) (Least_calls sa2 (vb b2) ([] : List Rp) none 0 0 _ (lit_R none 0 0 (some ⟨b2, 0, none⟩) 2 2 sa2 (rd_nil _ _ _) (rd4 hO 1 rfl)) (rd_nil _ _ _)) fun e w hR => ?_
    obtain ⟨p46, n47, c48, hn49, he, hO2⟩ := hR
    replace he : e = .returned (.tuple #[iv 0, .slice p46 n47 c48, iv 10]) := he.trans (congrArg Ending.returned (by kernel_rfl))
    refine ⟨_, he, fun a hF => ?_⟩
    replace hO := hO.joinE hO2; clear hO2 he
    refine seq_quiet {} TBok hF (F' := [(1, sv b8 8 8), (2, iv 2), (5, iv 10), (8, iv 10)]) (rs := []) [5, 6, 7, 8, 9, 10, 11] [] [1, 2, 5, 8] .nil (by kernel_rfl) fun a w hF hE => ?_
    replace hO := hO.ext hE; clear hE
    replace hO := hO.drop1 10
    replace hO : Own w0 none_ [cel b1 #[iv 1, iv 0, iv 0, iv 0] 70, cel b2 #[iv 1, iv 0, iv 0, iv 0] 70, cel b3 #[iv 1, iv 0, iv 0, iv 0] 70, cel b4 #[iv 1, iv 0, iv 0, iv 0] 70, cel b5 #[iv 3, iv 0, iv 0, iv 0] 70, cel b6 #[iv 1, iv 0, iv 0, iv 0] 70, cel b7 #[iv 1, iv 0, iv 0, iv 0] 70, cel b8 (seas8 b1 b2 b3 b4 b5 b6 b7 b9 b10).toArray 25, cel b9 #[iv 4] 3, cel b10 #[iv 1, iv 1] 3] w := hO
    refine W_seq (region_seq ?_)
    refine seq_quiet {} TBok hF (F' := [(1, sv b8 8 8), (2, iv 2), (5, iv 10), (8, iv 10), (143, .agg #[iv 4, iv 0, nl, iv 3, sv b2 2 2, iv 1])]) (rs := [.idx (some ⟨b8, 0, none⟩) 8 2 6 ⟨b8, 12, none⟩, .lds ⟨b8, 12, none⟩ [iv 4, iv 0, nl, iv 3, sv b2 2 2, iv 1]]) [0, 1, 2, 3] [4, 5, 6, 7, 8, 9] [1, 2, 5, 8, 143] (.cons (ixa (by decide) (by decide)) <| .cons (ldso hO.st 7 rfl 12 (by kernel_rfl)) <| .nil) (by kernel_rfl) fun a w hF hE => ?_
    replace hO := hO.ext hE; clear hE
    refine op_call (i := 4) (f := 24) (args := #[.agg #[iv 4, iv 0, nl, iv 3, sv b2 2 2, iv 1], nl, iv (-1), iv 0]) (d := some 144) TBok (by kernel_rfl) hF (by kernel_rfl) (Can_calls sa2 (vb b2) ([] : List Rp) none 0 0 (-1) 0 _ (lit_R none 0 0 (some ⟨b2, 0, none⟩) 2 2 sa2 (rd_nil _ _ _) (rd4 hO 1 rfl)) (rd_nil _ _ _)) fun e w hR => ?_
    obtain ⟨p50, n51, c52, hn53, he, hO2⟩ := hR
    replace he : e = .returned (.tuple #[.slice p50 n51 c52, iv 10]) := he.trans (congrArg Ending.returned (by kernel_rfl))
    refine ⟨_, he, fun a hF => ?_⟩
    replace hO := hO.joinE hO2; clear hO2 he
    refine seq_quiet {} TBok hF (F' := [(1, sv b8 8 8), (2, iv 2), (5, iv 10), (8, iv 10), (10, iv 10)]) (rs := []) [5, 6, 7, 8, 9] [] [1, 2, 5, 8, 10] .nil (by kernel_rfl) fun a w hF hE => ?_
    replace hO := hO.ext hE; clear hE
    replace hO := hO.drop1 10
    refine W_seq (region_seq ?_)
    refine seq_quiet {} TBok hF (F' := [(1, sv b8 8 8), (2, iv 2), (5, iv 10), (8, iv 10), (10, iv 10), (151, .agg #[iv 4, iv 0, nl, iv 3, sv b2 2 2, iv 1])]) (rs := [.idx (some ⟨b8, 0, none⟩) 8 2 6 ⟨b8, 12, none⟩, .lds ⟨b8, 12, none⟩ [iv 4, iv 0, nl, iv 3, sv b2 2 2, iv 1]]) [0, 1, 2, 3] [4, 5, 6, 7, 8, 9] [1, 2, 5, 8, 10, 151] (.cons (ixa (by decide) (by decide)) <| .cons (ldso hO.st 7 rfl 12 (by kernel_rfl)) <| .nil) (by kernel_rfl) fun a w hF hE => ?_
    replace hO := hO.ext hE; clear hE
    refine op_call (i := 4) (f := 26) (args := #[.agg #[iv 4, iv 0, nl, iv 3, sv b2 2 2, iv 1], nl]) (d := some 152) TBok (by kernel_rfl) hF (by kernel_rfl) (Liars_calls sa2 (vb b2) ([] : List Rp) none 0 0  _ (lit_R none 0 0 (some ⟨b2, 0, none⟩) 2 2 sa2 (rd_nil _ _ _) (rd4 hO 1 rfl)) (rd_nil _ _ _)) fun e w hR => ?_
    obtain ⟨p54, n55, c56, hn57, he, hO2⟩ := hR
    replace he : e = .returned (.tuple #[.slice p54 n55 c56, iv 10]) := he.trans (congrArg Ending.returned (by kernel_rfl))
    refine ⟨_, he, fun a hF => ?_⟩
    replace hO := hO.joinE hO2; clear hO2 he
    refine seq_quiet {} TBok hF (F' := [(1, sv b8 8 8), (2, iv 2), (5, iv 10), (8, iv 10), (10, iv 10), (12, iv 10)]) (rs := []) [5, 6, 7, 8, 9] [] [1, 2, 5, 8, 10, 12] .nil (by kernel_rfl) fun a w hF hE => ?_
    replace hO := hO.ext hE; clear hE
    replace hO := hO.drop1 10
    replace hO : Own w0 none_ [cel b1 #[iv 1, iv 0, iv 0, iv 0] 70, cel b2 #[iv 1, iv 0, iv 0, iv 0] 70, cel b3 #[iv 1, iv 0, iv 0, iv 0] 70, cel b4 #[iv 1, iv 0, iv 0, iv 0] 70, cel b5 #[iv 3, iv 0, iv 0, iv 0] 70, cel b6 #[iv 1, iv 0, iv 0, iv 0] 70, cel b7 #[iv 1, iv 0, iv 0, iv 0] 70, cel b8 (seas8 b1 b2 b3 b4 b5 b6 b7 b9 b10).toArray 25, cel b9 #[iv 4] 3, cel b10 #[iv 1, iv 1] 3] w := hO
    refine W_seq (region_q {} TBok hF (F' := [(1, sv b8 8 8), (2, iv 2), (5, iv 10), (8, iv 10), (10, iv 10), (12, iv 10), (15, iv 10)]) (rs := [.idx (some ⟨b8, 0, none⟩) 8 2 6 ⟨b8, 12, none⟩, .lds ⟨b8, 12, none⟩ [iv 4, iv 0, nl, iv 3, sv b2 2 2, iv 1], .call 28 #[.agg #[iv 4, iv 0, nl, iv 3, sv b2 2 2, iv 1], nl, iv (-1), iv 0, nl] (.tuple #[iv 0, iv 0, iv 10])]) [1, 2, 5, 8, 10, 12, 15] (.cons (ixa (by decide) (by decide)) <| .cons (ldso hO.st 7 rfl 12 (by kernel_rfl)) <| .cons (fun w hE => calls_cast (Next_calls sa2 (vb b2) ([] : List Rp) none 0 0 (-1) 0 ([] : List Cs) none 0 0 w (lit_R none 0 0 (some ⟨b2, 0, none⟩) 2 2 sa2 (rd_nil _ _ _) (rd4 (hO.st w hE) 1 rfl)) (rd_nil _ _ _) (rd_nil _ _ _) (hci_of (by decide)) (by decide)) (by kernel_rfl)) <| .nil) (by kernel_rfl) fun a w hF hE => ?_)
    replace hO := hO.ext hE; clear hE
    refine W_seq (region_seq ?_)
    refine seq_quiet {} TBok hF (F' := [(1, sv b8 8 8), (2, iv 2), (5, iv 10), (8, iv 10), (10, iv 10), (12, iv 10), (15, iv 10), (168, .agg #[iv 4, iv 0, nl, iv 3, sv b2 2 2, iv 1])]) (rs := [.idx (some ⟨b8, 0, none⟩) 8 2 6 ⟨b8, 12, none⟩, .lds ⟨b8, 12, none⟩ [iv 4, iv 0, nl, iv 3, sv b2 2 2, iv 1]]) [0, 1, 2, 3] [4, 5, 6, 7, 8, 9] [1, 2, 5, 8, 10, 12, 15, 168] (.cons (ixa (by decide) (by decide)) <| .cons (ldso hO.st 7 rfl 12 (by kernel_rfl)) <| .nil) (by kernel_rfl) fun a w hF hE => ?_
    replace hO := hO.ext hE; clear hE
    refine op_call (i := 4) (f := 30) (args := #[.agg #[iv 4, iv 0, nl, iv 3, sv b2 2 2, iv 1], nl, iv (-1), iv 0, nl]) (d := some 169) TBok (by kernel_rfl) hF (by kernel_rfl) (Sure_calls sa2 (vb b2) ([] : List Rp) none 0 0 (-1) 0 ([] : List Cs) none 0 0 _ (lit_R none 0 0 (some ⟨b2, 0, none⟩) 2 2 sa2 (rd_nil _ _ _) (rd4 hO 1 rfl)) (rd_nil _ _ _) (rd_nil _ _ _) (hci_of (by decide)) (by decide)) fun e w hR => ?_
    obtain ⟨p58, n59, c60, hn61, he, hO2⟩ := hR
    replace he : e = .returned (.tuple #[.slice p58 n59 c60, iv 10]) := he.trans (congrArg Ending.returned (by kernel_rfl))
    refine ⟨_, he, fun a hF => ?_⟩
    replace hO := hO.joinE hO2; clear hO2 he
    refine seq_quiet {} TBok hF (F' := [(1, sv b8 8 8), (2, iv 2), (5, iv 10), (8, iv 10), (10, iv 10), (12, iv 10), (15, iv 10), (17, iv 10)]) (rs := []) [5, 6, 7, 8, 9] [] [1, 2, 5, 8, 10, 12, 15, 17] .nil (by kernel_rfl) fun a w hF hE => ?_
    replace hO := hO.ext hE; clear hE
    replace hO := hO.drop1 10
    refine W_seq (region_q {} TBok hF (F' := [(1, sv b8 8 8), (2, iv 2), (201, .bool false)]) (rs := [.idx (some ⟨b8, 0, none⟩) 8 2 6 ⟨b8, 12, none⟩, .lds ⟨b8, 12, none⟩ [iv 4, iv 0, nl, iv 3, sv b2 2 2, iv 1], .call 18 #[.agg #[iv 4, iv 0, nl, iv 3, sv b2 2 2, iv 1]] (iv 10)]) [1, 2, 201] (.cons (ixa (by decide) (by decide)) <| .cons (ldso hO.st 7 rfl 12 (by kernel_rfl)) <| .cons (fun w hE => calls_cast (Check_calls sa2 (vb b2) w (lit_R none 0 0 (some ⟨b2, 0, none⟩) 2 2 sa2 (rd_nil _ _ _) (rd4 (hO.st w hE) 1 rfl))) (by kernel_rfl)) <| .nil) (by kernel_rfl) fun a w hF hE => ?_)
    replace hO := hO.ext hE; clear hE
    refine (W_false (evOp hF (by kernel_rfl)) ?_)
    refine (W_skip ?_)
    refine (region_q {} TBok hF (F' := [(1, sv b8 8 8), (2, iv 3)]) (rs := [.rng 3]) [1, 2] (.cons (rg (by decide)) <| .nil) (by kernel_rfl) fun a w hF hE => ?_)
    replace hO := hO.ext hE; clear hE
    exact ⟨_, by omega, 3, rfl, by omega, hF, hO⟩
  · replace hF : Fr 549 [] [(1, sv b8 8 8), (2, iv 3)] a := hF
    refine W_seq ?_
    refine W_seq (region_q {} TBok hF (F' := [(1, sv b8 8 8), (2, iv 3), (117, .bool true)]) (rs := []) [1, 2, 117] .nil (by kernel_rfl) fun a w hF hE => ?_)
    replace hO := hO.ext hE; clear hE
    refine (W_true (evOp hF (by kernel_rfl)) ?_)
    refine (W_skip ?_)
    refine W_seq (W_block ?_)
    refine W_seq (draw_start (R := none_) mixed [] 13 (by kernel_rfl) fun w hS => ?_)
    replace hO := hO.ext hS
    refine draw_q {} TBok hF hS (F' := [(1, sv b8 8 8), (2, iv 3), (124, .agg #[iv 4, iv 1, nl, iv 13, sv b3 2 2, iv 1])]) (rs := [.idx (some ⟨b8, 0, none⟩) 8 3 6 ⟨b8, 18, none⟩, .lds ⟨b8, 18, none⟩ [iv 4, iv 1, nl, iv 13, sv b3 2 2, iv 1]]) [0, 1, 2, 3] 13 9 (by kernel_rfl) #[true, true, true, true, false, false, false, false, false, false, false, false, false] [1, 2, 124] (.cons (ixa (by decide) (by decide)) <| .cons (ldso hO.st 7 rfl 18 (by kernel_rfl)) <| .nil) (by kernel_rfl) (by kernel_rfl) fun a hF => ?_
    replace hS := Kp.refl none_ w
    refine any_pick (rs := [4]) (by kernel_rfl) (by simp) fun w hE => all1 ?_
    replace hO := hO.ext hE; replace hS := hS.trans (Ext.kp hE)
    refine op_mslL (k := 4) (t := 26) (e := 52) (N := 25) (sz := 4) (z := .agg #[iv 0, iv 0, iv 0, .bool false]) (d := 125) (cs := zrpC.toArray) rfl hF hO (by kernel_rfl) (by kernel_rfl) (by kernel_rfl) (by kernel_rfl) (by decide) (by kernel_rfl) fun a w b62 hF hO hx => ⟨.inr (hS.trans (Ext.kp hx.1)), ?_⟩
    have hf_b62 := Nat.le_trans hS.size hx.2; replace hS := hS.trans (Ext.kp hx.1); clear hx
    refine draw_q {} TBok hF hS (F' := [(1, sv b8 8 8), (2, iv 3), (5, iv 10)]) (rs := [.call 16 #[.agg #[iv 4, iv 1, nl, iv 13, sv b3 2 2, iv 1], sv b62 25 25, nl] (.tuple #[iv 0, .bool false, iv 10])]) [5, 6, 7, 8, 9, 10, 11, 12] 8 0 (by kernel_rfl) #[true, true, true, true, true, true, true, true, true, true, true, true, true] [1, 2, 5] (.cons (fun w hE => calls_cast (IsTrack_calls sa3 (vb b3) zrpL (some ⟨b62, 0, none⟩) 25 25 ([] : List Int) none 0 0 w (lit_R none 0 0 (some ⟨b3, 0, none⟩) 2 2 sa3 (rd_nil _ _ _) (rd4 (hO.st w hE) 2 rfl)) (rdz (hO.st w hE) 10 rfl) (rd_nil _ _ _)) (by kernel_rfl)) <| .nil) (by kernel_rfl) (by kernel_rfl) fun a hF => ?_
    replace hS := Kp.refl none_ w
    refine any_done (by kernel_rfl) (fun w hE => ?_) _
    replace hO := hO.ext hE
    replace hF := hF.sel [1, 2, 5]
    replace hF : Fr 549 [] [(1, sv b8 8 8), (2, iv 3), (5, iv 10)] a := hF
    replace hO := hO.drop1 10
    refine W_seq (region_seq ?_)
    refine seq_quiet {} TBok hF (F' := [(1, sv b8 8 8), (2, iv 3), (5, iv 10), (134, .agg #[iv 4, iv 1, nl, iv 13, sv b3 2 2, iv 1])]) (rs := [.idx (some ⟨b8, 0, none⟩) 8 3 6 ⟨b8, 18, none⟩, .lds ⟨b8, 18, none⟩ [iv 4, iv 1, nl, iv 13, sv b3 2 2, iv 1]]) [0, 1, 2, 3] [4, 5, 6, 7, 8, 9, 10, 11] [1, 2, 5, 134] (.cons (ixa (by decide) (by decide)) <| .cons (ldso hO.st 7 rfl 18 (by kernel_rfl)) <| .nil) (by kernel_rfl) fun a w hF hE => ?_
    replace hO := hO.ext hE; clear hE
    refine op_call (i := 4) (f := 20) (args := #[.agg #[iv 4, iv 1, nl, iv 13, sv b3 2 2, iv 1], nl]) (d := some 135) TBok (by kernel_rfl) hF (by kernel_rfl) (Least_calls sa3 (vb b3) ([] : List Rp) none 0 0 _ (lit_R none 0 0 (some ⟨b3, 0, none⟩) 2 2 sa3 (rd_nil _ _ _) (rd4 hO 2 rfl)) (rd_nil _ _ _)) fun e w hR => ?_
    obtain ⟨p63, n64, c65, hn66, he, hO2⟩ := hR
    replace he : e = .returned (.tuple #[iv 0, .slice p63 n64 c65, iv 10]) := he.trans (congrArg Ending.returned (by kernel_rfl))
    refine ⟨_, he, fun a hF => ?_⟩
    replace hO := hO.joinE hO2; clear hO2 he
    refine seq_quiet {} TBok hF (F' := [(1, sv b8 8 8), (2, iv 3), (5, iv 10), (8, iv 10)]) (rs := []) [5, 6, 7, 8, 9, 10, 11] [] [1, 2, 5, 8] .nil (by kernel_rfl) fun a w hF hE => ?_
    replace hO := hO.ext hE; clear hE
    replace hO := hO.drop1 10
    replace hO : Own w0 none_ [cel b1 #[iv 1, iv 0, iv 0, iv 0] 70, cel b2 #[iv 1, iv 0, iv 0, iv 0] 70, cel b3 #[iv 1, iv 0, iv 0, iv 0] 70, cel b4 #[iv 1, iv 0, iv 0, iv 0] 70, cel b5 #[iv 3, iv 0, iv 0, iv 0] 70, cel b6 #[iv 1, iv 0, iv 0, iv 0] 70, cel b7 #[iv 1, iv 0, iv 0, iv 0] 70, cel b8 (seas8 b1 b2 b3 b4 b5 b6 b7 b9 b10).toArray 25, cel b9 #[iv 4] 3, cel b10 #[iv 1, iv 1] 3] w := hO
    refine W_seq (region_seq ?_)
    refine seq_quiet {} TBok hF (F' := [(1, sv b8 8 8), (2, iv 3), (5, iv 10), (8, iv 10), (143, .agg #[iv 4, iv 1, nl, iv 13, sv b3 2 2, iv 1])]) (rs := [.idx (some ⟨b8, 0, none⟩) 8 3 6 ⟨b8, 18, none⟩, .lds ⟨b8, 18, none⟩ [iv 4, iv 1, nl, iv 13, sv b3 2 2, iv 1]]) [0, 1, 2, 3] [4, 5, 6, 7, 8, 9] [1, 2, 5, 8, 143] (.cons (ixa (by decide) (by decide)) <| .cons (ldso hO.st 7 rfl 18 (by kernel_rfl)) <| .nil) (by kernel_rfl) fun a w hF hE => ?_
    replace hO := hO.ext hE; clear hE
    refine op_call (i := 4) (f := 24) (args := #[.agg #[iv 4, iv 1, nl, iv 13, sv b3 2 2, iv 1], nl, iv (-1), iv 0]) (d := some 144) TBok (by kernel_rfl) hF (by kernel_rfl) (Can_calls sa3 (vb b3) ([] : List Rp) none 0 0 (-1) 0 _ (lit_R none 0 0 (some ⟨b3, 0, none⟩) 2 2 sa3 (rd_nil _ _ _) (rd4 hO 2 rfl)) (rd_nil _ _ _)) fun e w hR => ?_
    obtain ⟨p67, n68, c69, hn70, he, hO2⟩ := hR
    replace he : e = .returned (.tuple #[.slice p67 n68 c69, iv 10]) := he.trans (congrArg Ending.returned (by kernel_rfl))
    refine ⟨_, he, fun a hF => ?_⟩
    replace hO := hO.joinE hO2; clear hO2 he
    refine seq_quiet {} TBok hF (F' := [(1, sv b8 8 8), (2, iv 3), (5, iv 10), (8, iv 10), (10, iv 10)]) (rs := []) [5, 6, 7, 8, 9] [] [1, 2, 5, 8, 10] .nil (by kernel_rfl) fun a w hF hE => ?_
    replace hO := hO.ext hE; clear hE
    replace hO := hO.drop1 10
    refine W_seq (region_seq ?_)
    refine seq_quiet {} TBok hF (F' := [(1, sv b8 8 8), (2, iv 3), (5, iv 10), (8, iv 10), (10, iv 10), (151, .agg #[iv 4, iv 1, nl, iv 13, sv b3 2 2, iv 1])]) (rs := [.idx (some ⟨b8, 0, none⟩) 8 3 6 ⟨b8, 18, none⟩, .lds ⟨b8, 18, none⟩ [iv 4, iv 1, nl, iv 13, sv b3 2 2, iv 1]]) [0, 1, 2, 3] [4, 5, 6, 7, 8, 9] [1, 2, 5, 8, 10, 151] (.cons (ixa (by decide) (by decide)) <| .cons (ldso hO.st 7 rfl 18 (by kernel_rfl)) <| .nil) (by kernel_rfl) fun a w hF hE => ?_
    replace hO := hO.ext hE; clear hE
    refine op_call (i := 4) (f := 26) (args := #[.agg #[iv 4, iv 1, nl, iv 13, sv b3 2 2, iv 1], nl]) (d := some 152) TBok (by kernel_rfl) hF (by kernel_rfl) (Liars_calls sa3 (vb b3) ([] : List Rp) none 0 0  _ (lit_R none 0 0 (some ⟨b3, 0, none⟩) 2 2 sa3 (rd_nil _ _ _) (rd4 hO 2 rfl)) (rd_nil _ _ _)) fun e w hR => ?_
    obtain ⟨p71, n72, c73, hn74, he, hO2⟩ := hR
    replace he : e = .returned (.tuple #[.slice p71 n72 c73, iv 10]) := he.trans (congrArg Ending.returned (by kernel_rfl))
    refine ⟨_, he, fun a hF => ?_⟩
    replace hO := hO.joinE hO2; clear hO2 he
    refine seq_quiet {} TBok hF (F' := [(1, sv b8 8 8), (2, iv 3), (5, iv 10), (8, iv 10), (10, iv 10), (12, iv 10)]) (rs := []) [5, 6, 7, 8, 9] [] [1, 2, 5, 8, 10, 12] .nil (by kernel_rfl) fun a w hF hE => ?_
    replace hO := hO.ext hE; clear hE
    replace hO := hO.drop1 10
    replace hO : Own w0 none_ [cel b1 #[iv 1, iv 0, iv 0, iv 0] 70, cel b2 #[iv 1, iv 0, iv 0, iv 0] 70, cel b3 #[iv 1, iv 0, iv 0, iv 0] 70, cel b4 #[iv 1, iv 0, iv 0, iv 0] 70, cel b5 #[iv 3, iv 0, iv 0, iv 0] 70, cel b6 #[iv 1, iv 0, iv 0, iv 0] 70, cel b7 #[iv 1, iv 0, iv 0, iv 0] 70, cel b8 (seas8 b1 b2 b3 b4 b5 b6 b7 b9 b10).toArray 25, cel b9 #[iv 4] 3, cel b10 #[iv 1, iv 1] 3] w := hO
    refine W_seq (region_q {} TBok hF (F' := [(1, sv b8 8 8), (2, iv 3), (5, iv 10), (8, iv 10), (10, iv 10), (12, iv 10), (15, iv 10)]) (rs := [.idx (some ⟨b8, 0, none⟩) 8 3 6 ⟨b8, 18, none⟩, .lds ⟨b8, 18, none⟩ [iv 4, iv 1, nl, iv 13, sv b3 2 2, iv 1], .call 28 #[.agg #[iv 4, iv 1, nl, iv 13, sv b3 2 2, iv 1], nl, iv (-1), iv 0, nl] (.tuple #[iv 0, iv 0, iv 10])]) [1, 2, 5, 8, 10, 12, 15] (.cons (ixa (by decide) (by decide)) <| .cons (ldso hO.st 7 rfl 18 (by kernel_rfl)) <| .cons (fun w hE => calls_cast (Next_calls sa3 (vb b3) ([] : List Rp) none 0 0 (-1) 0 ([] : List Cs) none 0 0 w (lit_R none 0 0 (some ⟨b3, 0, none⟩) 2 2 sa3 (rd_nil _ _ _) (rd4 (hO.st w hE) 2 rfl)) (rd_nil _ _ _) (rd_nil _ _ _) (hci_of (by decide)) (by decide)) (by kernel_rfl)) <| .nil) (by kernel_rfl) fun a w hF hE => ?_)
    replace hO := hO.ext hE; clear hE
    refine W_seq (region_seq ?_)
    refine seq_quiet {} TBok hF (F' := [(1, sv b8 8 8), (2, iv 3), (5, iv 10), (8, iv 10), (10, iv 10), (12, iv 10), (15, iv 10), (168, .agg #[iv 4, iv 1, nl, iv 13, sv b3 2 2, iv 1])]) (rs := [.idx (some ⟨b8, 0, none⟩) 8 3 6 ⟨b8, 18, none⟩, .lds ⟨b8, 18, none⟩ [iv 4, iv 1, nl, iv 13, sv b3 2 2, iv 1]]) [0, 1, 2, 3] [4, 5, 6, 7, 8, 9] [1, 2, 5, 8, 10, 12, 15, 168] (.cons (ixa (by decide) (by decide)) <| .cons (ldso hO.st 7 rfl 18 (by kernel_rfl)) <| .nil) (by kernel_rfl) fun a w hF hE => ?_
    replace hO := hO.ext hE; clear hE
    refine op_call (i := 4) (f := 30) (args := #[.agg #[iv 4, iv 1, nl, iv 13, sv b3 2 2, iv 1], nl, iv (-1), iv 0, nl]) (d := some 169) TBok (by kernel_rfl) hF (by kernel_rfl) (Sure_calls sa3 (vb b3) ([] : List Rp) none 0 0 (-1) 0 ([] : List Cs) none 0 0 _ (lit_R none 0 0 (some ⟨b3, 0, none⟩) 2 2 sa3 (rd_nil _ _ _) (rd4 hO 2 rfl)) (rd_nil _ _ _) (rd_nil _ _ _) (hci_of (by decide)) (by decide)) fun e w hR => ?_
    obtain ⟨p75, n76, c77, hn78, he, hO2⟩ := hR
    replace he : e = .returned (.tuple #[.slice p75 n76 c77, iv 10]) := he.trans (congrArg Ending.returned (by kernel_rfl))
    refine ⟨_, he, fun a hF => ?_⟩
    replace hO := hO.joinE hO2; clear hO2 he
    refine seq_quiet {} TBok hF (F' := [(1, sv b8 8 8), (2, iv 3), (5, iv 10), (8, iv 10), (10, iv 10), (12, iv 10), (15, iv 10), (17, iv 10)]) (rs := []) [5, 6, 7, 8, 9] [] [1, 2, 5, 8, 10, 12, 15, 17] .nil (by kernel_rfl) fun a w hF hE => ?_
    replace hO := hO.ext hE; clear hE
    replace hO := hO.drop1 10
    refine W_seq (region_q {} TBok hF (F' := [(1, sv b8 8 8), (2, iv 3), (201, .bool false)]) (rs := [.idx (some ⟨b8, 0, none⟩) 8 3 6 ⟨b8, 18, none⟩, .lds ⟨b8, 18, none⟩ [iv 4, iv 1, nl, iv 13, sv b3 2 2, iv 1], .call 18 #[.agg #[iv 4, iv 1, nl, iv 13, sv b3 2 2, iv 1]] (iv 10)]) [1, 2, 201] (.cons (ixa (by decide) (by decide)) <| .cons (ldso hO.st 7 rfl 18 (by kernel_rfl)) <| .cons (fun w hE => calls_cast (Check_calls sa3 (vb b3) w (lit_R none 0 0 (some ⟨b3, 0, none⟩) 2 2 sa3 (rd_nil _ _ _) (rd4 (hO.st w hE) 2 rfl))) (by kernel_rfl)) <| .nil) (by kernel_rfl) fun a w hF hE => ?_)
    replace hO := hO.ext hE; clear hE
    refine (W_false (evOp hF (by kernel_rfl)) ?_)
    refine (W_skip ?_)
    refine (region_q {} TBok hF (F' := [(1, sv b8 8 8), (2, iv 4)]) (rs := [.rng 4]) [1, 2] (.cons (rg (by decide)) <| .nil) (by kernel_rfl) fun a w hF hE => ?_)
    replace hO := hO.ext hE; clear hE
    exact ⟨_, by omega, 4, rfl, by omega, hF, hO⟩
  · replace hF : Fr 549 [] [(1, sv b8 8 8), (2, iv 4)] a := hF
    refine W_seq ?_
    refine W_seq (region_q {} TBok hF (F' := [(1, sv b8 8 8), (2, iv 4), (117, .bool true)]) (rs := []) [1, 2, 117] .nil (by kernel_rfl) fun a w hF hE => ?_)
    replace hO := hO.ext hE; clear hE
    refine (W_true (evOp hF (by kernel_rfl)) ?_)
    refine (W_skip ?_)
    refine W_seq (W_block ?_)
    refine W_seq (draw_start (R := none_) mixed [] 13 (by kernel_rfl) fun w hS => ?_)
    replace hO := hO.ext hS
    refine draw_q {} TBok hF hS (F' := [(1, sv b8 8 8), (2, iv 4), (124, .agg #[iv 4, iv 1, nl, iv 3, sv b4 1 2, iv 1])]) (rs := [.idx (some ⟨b8, 0, none⟩) 8 4 6 ⟨b8, 24, none⟩, .lds ⟨b8, 24, none⟩ [iv 4, iv 1, nl, iv 3, sv b4 1 2, iv 1]]) [0, 1, 2, 3] 13 9 (by kernel_rfl) #[true, true, true, true, false, false, false, false, false, false, false, false, false] [1, 2, 124] (.cons (ixa (by decide) (by decide)) <| .cons (ldso hO.st 7 rfl 24 (by kernel_rfl)) <| .nil) (by kernel_rfl) (by kernel_rfl) fun a hF => ?_
    replace hS := Kp.refl none_ w
    refine any_pick (rs := [4]) (by kernel_rfl) (by simp) fun w hE => all1 ?_
    replace hO := hO.ext hE; replace hS := hS.trans (Ext.kp hE)
    refine op_mslL (k := 4) (t := 26) (e := 52) (N := 25) (sz := 4) (z := .agg #[iv 0, iv 0, iv 0, .bool false]) (d := 125) (cs := zrpC.toArray) rfl hF hO (by kernel_rfl) (by kernel_rfl) (by kernel_rfl) (by kernel_rfl) (by decide) (by kernel_rfl) fun a w b79 hF hO hx => ⟨.inr (hS.trans (Ext.kp hx.1)), ?_⟩
    have hf_b79 := Nat.le_trans hS.size hx.2; replace hS := hS.trans (Ext.kp hx.1); clear hx
    refine draw_q {} TBok hF hS (F' := [(1, sv b8 8 8), (2, iv 4), (5, iv 10)]) (rs := [.call 16 #[.agg #[iv 4, iv 1, nl, iv 3, sv b4 1 2, iv 1], sv b79 25 25, nl] (.tuple #[iv 0, .bool false, iv 10])]) [5, 6, 7, 8, 9, 10, 11, 12] 8 0 (by kernel_rfl) #[true, true, true, true, true, true, true, true, true, true, true, true, true] [1, 2, 5] (.cons (fun w hE => calls_cast (IsTrack_calls sa4 (⟨none, 0, 0, (some ⟨b4, 0, none⟩), 1, 2⟩ : SV) zrpL (some ⟨b79, 0, none⟩) 25 25 ([] : List Int) none 0 0 w (lit_R none 0 0 (some ⟨b4, 0, none⟩) 1 2 sa4 (rd_nil _ _ _) (rd_cel (enc := encSt) (ys := [⟨1, 0⟩]) (rest := [iv 0, iv 0]) (fun _ => rfl) (hO.st w hE) 3 rfl rfl rfl (by decide))) (rdz (hO.st w hE) 10 rfl) (rd_nil _ _ _)) (by kernel_rfl)) <| .nil) (by kernel_rfl) (by kernel_rfl) fun a hF => ?_
    replace hS := Kp.refl none_ w
    refine any_done (by kernel_rfl) (fun w hE => ?_) _
    replace hO := hO.ext hE
    replace hF := hF.sel [1, 2, 5]
    replace hF : Fr 549 [] [(1, sv b8 8 8), (2, iv 4), (5, iv 10)] a := hF
    replace hO := hO.drop1 10
    refine W_seq (region_seq ?_)
    refine seq_quiet {} TBok hF (F' := [(1, sv b8 8 8), (2, iv 4), (5, iv 10), (134, .agg #[iv 4, iv 1, nl, iv 3, sv b4 1 2, iv 1])]) (rs := [.idx (some ⟨b8, 0, none⟩) 8 4 6 ⟨b8, 24, none⟩, .lds ⟨b8, 24, none⟩ [iv 4, iv 1, nl, iv 3, sv b4 1 2, iv 1]]) [0, 1, 2, 3] [4, 5, 6, 7, 8, 9, 10, 11] [1, 2, 5, 134] (.cons (ixa (by decide) (by decide)) <| .cons (ldso hO.st 7 rfl 24 (by kernel_rfl)) <| .nil) (by kernel_rfl) fun a w hF hE => ?_
    replace hO := hO.ext hE; clear hE
    refine op_call (i := 4) (f := 20) (args := #[.agg #[iv 4, iv 1, nl, iv 3, sv b4 1 2, iv 1], nl]) (d := some 135) TBok (by kernel_rfl) hF (by kernel_rfl) (Least_calls sa4 (⟨none, 0, 0, (some ⟨b4, 0, none⟩), 1, 2⟩ : SV) ([] : List Rp) none 0 0 _ (lit_R none 0 0 (some ⟨b4, 0, none⟩) 1 2 sa4 (rd_nil _ _ _) (rd_cel (enc := encSt) (ys := [⟨1, 0⟩]) (rest := [iv 0, iv 0]) (fun _ => rfl) hO 3 rfl rfl rfl (by decide))) (rd_nil _ _ _)) fun e w hR => ?_
    obtain ⟨p80, n81, c82, hn83, he, hO2⟩ := hR
    replace he : e = .returned (.tuple #[iv 0, .slice p80 n81 c82, iv 10]) := he.trans (congrArg Ending.returned (by kernel_rfl))
    refine ⟨_, he, fun a hF => ?_⟩
    replace hO := hO.joinE hO2; clear hO2 he
    refine seq_quiet {} TBok hF (F' := [(1, sv b8 8 8), (2, iv 4), (5, iv 10), (8, iv 10)]) (rs := []) [5, 6, 7, 8, 9, 10, 11] [] [1, 2, 5, 8] .nil (by kernel_rfl) fun a w hF hE => ?_
    replace hO := hO.ext hE; clear hE
    replace hO := hO.drop1 10
    replace hO : Own w0 none_ [cel b1 #[iv 1, iv 0, iv 0, iv 0] 70, cel b2 #[iv 1, iv 0, iv 0, iv 0] 70, cel b3 #[iv 1, iv 0, iv 0, iv 0] 70, cel b4 #[iv 1, iv 0, iv 0, iv 0] 70, cel b5 #[iv 3, iv 0, iv 0, iv 0] 70, cel b6 #[iv 1, iv 0, iv 0, iv 0] 70, cel b7 #[iv 1, iv 0, iv 0, iv 0] 70, cel b8 (seas8 b1 b2 b3 b4 b5 b6 b7 b9 b10).toArray 25, cel b9 #[iv 4] 3, cel b10 #[iv 1, iv 1] 3] w := hO
    refine W_seq (region_seq ?_)
    refine seq_quiet {} TBok hF (F' := [(1, sv b8 8 8), (2, iv 4), (5, iv 10), (8, iv 10), (143, .agg #[iv 4, iv 1, nl, iv 3, sv b4 1 2, iv 1])]) (rs := [.idx (some ⟨b8, 0, none⟩) 8 4 6 ⟨b8, 24, none⟩, .lds ⟨b8, 24, none⟩ [iv 4, iv 1, nl, iv 3, sv b4 1 2, iv 1]]) [0, 1, 2, 3] [4, 5, 6, 7, 8, 9] [1, 2, 5, 8, 143] (.cons (ixa (by decide) (by decide)) <| .cons (ldso hO.st 7 rfl 24 (by kernel_rfl)) <| .nil) (by kernel_rfl) fun a w hF hE => ?_
    replace hO := hO.ext hE; clear hE
    refine op_call (i := 4) (f := 24) (args := #[.agg #[iv 4, iv 1, nl, iv 3, sv b4 1 2, iv 1], nl, iv (-1), iv 0]) (d := some 144) TBok (by kernel_rfl) hF (by kernel_rfl) (Can_calls sa4 (⟨none, 0, 0, (some ⟨b4, 0, none⟩), 1, 2⟩ : SV) ([] : List Rp) none 0 0 (-1) 0 _ (lit_R none 0 0 (some ⟨b4, 0, none⟩) 1 2 sa4 (rd_nil _ _ _) (rd_cel (enc := encSt) (ys := [⟨1, 0⟩]) (rest := [iv 0, iv 0]) (fun _ => rfl) hO 3 rfl rfl rfl (by decide))) (rd_nil _ _ _)) fun e w hR => ?_
    obtain ⟨p84, n85, c86, hn87, he, hO2⟩ := hR
    replace he : e = .returned (.tuple #[.slice p84 n85 c86, iv 10]) := he.trans (congrArg Ending.returned (by kernel_rfl))
    refine ⟨_, he, fun a hF => ?_⟩
    replace hO := hO.joinE hO2; clear hO2 he
    refine seq_quiet {} TBok hF (F' := [(1, sv b8 8 8), (2, iv 4), (5, iv 10), (8, iv 10), (10, iv 10)]) (rs := []) [5, 6, 7, 8, 9] [] [1, 2, 5, 8, 10] .nil (by kernel_rfl) fun a w hF hE => ?_
    replace hO := hO.ext hE; clear hE
    replace hO := hO.drop1 10
    refine W_seq (region_seq ?_)
    refine seq_quiet {} TBok hF (F' := [(1, sv b8 8 8), (2, iv 4), (5, iv 10), (8, iv 10), (10, iv 10), (151, .agg #[iv 4, iv 1, nl, iv 3, sv b4 1 2, iv 1])]) (rs := [.idx (some ⟨b8, 0, none⟩) 8 4 6 ⟨b8, 24, none⟩, .lds ⟨b8, 24, none⟩ [iv 4, iv 1, nl, iv 3, sv b4 1 2, iv 1]]) [0, 1, 2, 3] [4, 5, 6, 7, 8, 9] [1, 2, 5, 8, 10, 151] (.cons (ixa (by decide) (by decide)) <| .cons (ldso hO.st 7 rfl 24 (by kernel_rfl)) <| .nil) (by kernel_rfl) fun a w hF hE => ?_
    replace hO := hO.ext hE; clear hE
    refine op_call (i := 4) (f := 26) (args := #[.agg #[iv 4, iv 1, nl, iv 3, sv b4 1 2, iv 1], nl]) (d := some 152) TBok (by kernel_rfl) hF (by kernel_rfl) (Liars_calls sa4 (⟨none, 0, 0, (some ⟨b4, 0, none⟩), 1, 2⟩ : SV) ([] : List Rp) none 0 0  _ (lit_R none 0 0 (some ⟨b4, 0, none⟩) 1 2 sa4 (rd_nil _ _ _) (rd_cel (enc := encSt) (ys := [⟨1, 0⟩]) (rest := [iv 0, iv 0]) (fun _ => rfl) hO 3 rfl rfl rfl (by decide))) (rd_nil _ _ _)) fun e w hR => ?_
    obtain ⟨p88, n89, c90, hn91, he, hO2⟩ := hR
    replace he : e = .returned (.tuple #[.slice p88 n89 c90, iv 10]) := he.trans (congrArg Ending.returned (by kernel_rfl))
    refine ⟨_, he, fun a hF => ?_⟩
    replace hO := hO.joinE hO2; clear hO2 he
    refine seq_quiet {} TBok hF (F' := [(1, sv b8 8 8), (2, iv 4), (5, iv 10), (8, iv 10), (10, iv 10), (12, iv 10)]) (rs := []) [5, 6, 7, 8, 9] [] [1, 2, 5, 8, 10, 12] .nil (by kernel_rfl) fun a w hF hE => ?_
    replace hO := hO.ext hE; clear hE
    replace hO := hO.drop1 10
    replace hO : Own w0 none_ [cel b1 #[iv 1, iv 0, iv 0, iv 0] 70, cel b2 #[iv 1, iv 0, iv 0, iv 0] 70, cel b3 #[iv 1, iv 0, iv 0, iv 0] 70, cel b4 #[iv 1, iv 0, iv 0, iv 0] 70, cel b5 #[iv 3, iv 0, iv 0, iv 0] 70, cel b6 #[iv 1, iv 0, iv 0, iv 0] 70, cel b7 #[iv 1, iv 0, iv 0, iv 0] 70, cel b8 (seas8 b1 b2 b3 b4 b5 b6 b7 b9 b10).toArray 25, cel b9 #[iv 4] 3, cel b10 #[iv 1, iv 1] 3] w := hO
    refine W_seq (region_q {} TBok hF (F' := [(1, sv b8 8 8), (2, iv 4), (5, iv 10), (8, iv 10), (10, iv 10), (12, iv 10), (15, iv 10)]) (rs := [.idx (some ⟨b8, 0, none⟩) 8 4 6 ⟨b8, 24, none⟩, .lds ⟨b8, 24, none⟩ [iv 4, iv 1, nl, iv 3, sv b4 1 2, iv 1], .call 28 #[.agg #[iv 4, iv 1, nl, iv 3, sv b4 1 2, iv 1], nl, iv (-1), iv 0, nl] (.tuple #[iv 0, iv 0, iv 10])]) [1, 2, 5, 8, 10, 12, 15] (.cons (ixa (by decide) (by decide)) <| .cons (ldso hO.st 7 rfl 24 (by kernel_rfl)) <| .cons (fun w hE => calls_cast (Next_calls sa4 (⟨none, 0, 0, (some ⟨b4, 0, none⟩), 1, 2⟩ : SV) ([] : List Rp) none 0 0 (-1) 0 ([] : List Cs) none 0 0 w (lit_R none 0 0 (some ⟨b4, 0, none⟩) 1 2 sa4 (rd_nil _ _ _) (rd_cel (enc := encSt) (ys := [⟨1, 0⟩]) (rest := [iv 0, iv 0]) (fun _ => rfl) (hO.st w hE) 3 rfl rfl rfl (by decide))) (rd_nil _ _ _) (rd_nil _ _ _) (hci_of (by decide)) (by decide)) (by kernel_rfl)) <| .nil) (by kernel_rfl) fun a w hF hE => ?_)
    replace hO := hO.ext hE; clear hE
    refine W_seq (region_seq ?_)
    refine seq_quiet {} TBok hF (F' := [(1, sv b8 8 8), (2, iv 4), (5, iv 10), (8, iv 10), (10, iv 10), (12, iv 10), (15, iv 10), (168, .agg #[iv 4, iv 1, nl, iv 3, sv b4 1 2, iv 1])]) (rs := [.idx (some ⟨b8, 0, none⟩) 8 4 6 ⟨b8, 24, none⟩, .lds ⟨b8, 24, none⟩ [iv 4, iv 1, nl, iv 3, sv b4 1 2, iv 1]]) [0, 1, 2, 3] [4, 5, 6, 7, 8, 9] [1, 2, 5, 8, 10, 12, 15, 168] (.cons (ixa (by decide) (by decide)) <| .cons (ldso hO.st 7 rfl 24 (by kernel_rfl)) <| .nil) (by kernel_rfl) fun a w hF hE => ?_
    replace hO := hO.ext hE; clear hE
    refine op_call (i := 4) (f := 30) (args := #[.agg #[iv 4, iv 1, nl, iv 3, sv b4 1 2, iv 1], nl, iv (-1), iv 0, nl]) (d := some 169) TBok (by kernel_rfl) hF (by kernel_rfl) (Sure_calls sa4 (⟨none, 0, 0, (some ⟨b4, 0, none⟩), 1, 2⟩ : SV) ([] : List Rp) none 0 0 (-1) 0 ([] : List Cs) none 0 0 _ (lit_R none 0 0 (some ⟨b4, 0, none⟩) 1 2 sa4 (rd_nil _ _ _) (rd_cel (enc := encSt) (ys := [⟨1, 0⟩]) (rest := [iv 0, iv 0]) (fun _ => rfl) hO 3 rfl rfl rfl (by decide))) (rd_nil _ _ _) (rd_nil _ _ _) (hci_of (by decide)) (by decide)) fun e w hR => ?_
    obtain ⟨p92, n93, c94, hn95, he, hO2⟩ := hR
    replace he : e = .returned (.tuple #[.slice p92 n93 c94, iv 10]) := he.trans (congrArg Ending.returned (by kernel_rfl))
    refine ⟨_, he, fun a hF => ?_⟩
    replace hO := hO.joinE hO2; clear hO2 he
    refine seq_quiet {} TBok hF (F' := [(1, sv b8 8 8), (2, iv 4), (5, iv 10), (8, iv 10), (10, iv 10), (12, iv 10), (15, iv 10), (17, iv 10)]) (rs := []) [5, 6, 7, 8, 9] [] [1, 2, 5, 8, 10, 12, 15, 17] .nil (by kernel_rfl) fun a w hF hE => ?_
    replace hO := hO.ext hE; clear hE
    replace hO := hO.drop1 10
    refine W_seq (region_q {} TBok hF (F' := [(1, sv b8 8 8), (2, iv 4), (201, .bool false)]) (rs := [.idx (some ⟨b8, 0, none⟩) 8 4 6 ⟨b8, 24, none⟩, .lds ⟨b8, 24, none⟩ [iv 4, iv 1, nl, iv 3, sv b4 1 2, iv 1], .call 18 #[.agg #[iv 4, iv 1, nl, iv 3, sv b4 1 2, iv 1]] (iv 10)]) [1, 2, 201] (.cons (ixa (by decide) (by decide)) <| .cons (ldso hO.st 7 rfl 24 (by kernel_rfl)) <| .cons (fun w hE => calls_cast (Check_calls sa4 (⟨none, 0, 0, (some ⟨b4, 0, none⟩), 1, 2⟩ : SV) w (lit_R none 0 0 (some ⟨b4, 0, none⟩) 1 2 sa4 (rd_nil _ _ _) (rd_cel (enc := encSt) (ys := [⟨1, 0⟩]) (rest := [iv 0, iv 0]) (fun _ => rfl) (hO.st w hE) 3 rfl rfl rfl (by decide)))) (by kernel_rfl)) <| .nil) (by kernel_rfl) fun a w hF hE => ?_)
    replace hO := hO.ext hE; clear hE
    refine (W_false (evOp hF (by kernel_rfl)) ?_)
    refine (W_skip ?_)
    refine (region_q {} TBok hF (F' := [(1, sv b8 8 8), (2, iv 5)]) (rs := [.rng 5]) [1, 2] (.cons (rg (by decide)) <| .nil) (by kernel_rfl) fun a w hF hE => ?_)
    replace hO := hO.ext hE; clear hE
    exact ⟨_, by omega, 5, rfl, by omega, hF, hO⟩
  · replace hF : Fr 549 [] [(1, sv b8 8 8), (2, iv 5)] a := hF
    refine W_seq ?_
    refine W_seq (region_q {} TBok hF (F' := [(1, sv b8 8 8), (2, iv 5), (117, .bool true)]) (rs := []) [1, 2, 117] .nil (by kernel_rfl) fun a w hF hE => ?_)
    replace hO := hO.ext hE; clear hE
    refine (W_true (evOp hF (by kernel_rfl)) ?_)
    refine (W_skip ?_)
    refine W_seq (W_block ?_)
    refine W_seq (draw_start (R := none_) mixed [] 13 (by kernel_rfl) fun w hS => ?_)
    replace hO := hO.ext hS
    refine draw_q {} TBok hF hS (F' := [(1, sv b8 8 8), (2, iv 5), (124, rw4 b5)]) (rs := [.idx (some ⟨b8, 0, none⟩) 8 5 6 ⟨b8, 30, none⟩, .lds ⟨b8, 30, none⟩ [iv 4, iv 1, nl, iv 3, sv b5 2 2, iv 1]]) [0, 1, 2, 3] 13 9 (by kernel_rfl) #[true, true, true, true, false, false, false, false, false, false, false, false, false] [1, 2, 124] (.cons (ixa (by decide) (by decide)) <| .cons (ldso hO.st 7 rfl 30 (by kernel_rfl)) <| .nil) (by kernel_rfl) (by kernel_rfl) fun a hF => ?_
    replace hS := Kp.refl none_ w
    refine any_pick (rs := [4]) (by kernel_rfl) (by simp) fun w hE => all1 ?_
    replace hO := hO.ext hE; replace hS := hS.trans (Ext.kp hE)
    refine op_mslL (k := 4) (t := 26) (e := 52) (N := 25) (sz := 4) (z := .agg #[iv 0, iv 0, iv 0, .bool false]) (d := 125) (cs := zrpC.toArray) rfl hF hO (by kernel_rfl) (by kernel_rfl) (by kernel_rfl) (by kernel_rfl) (by decide) (by kernel_rfl) fun a w b96 hF hO hx => ⟨.inr (hS.trans (Ext.kp hx.1)), ?_⟩
    have hf_b96 := Nat.le_trans hS.size hx.2; replace hS := hS.trans (Ext.kp hx.1); clear hx
    refine draw_q {} TBok hF hS (F' := [(1, sv b8 8 8), (2, iv 5), (5, iv 10)]) (rs := [.call 16 #[rw4 b5, sv b96 25 25, nl] (.tuple #[iv 0, .bool false, iv 10])]) [5, 6, 7, 8, 9, 10, 11, 12] 8 0 (by kernel_rfl) #[true, true, true, true, true, true, true, true, true, true, true, true, true] [1, 2, 5] (.cons (fun w hE => calls_cast (IsTrack_calls sa5 (vb b5) zrpL (some ⟨b96, 0, none⟩) 25 25 ([] : List Int) none 0 0 w (lit_R none 0 0 (some ⟨b5, 0, none⟩) 2 2 sa5 (rd_nil _ _ _) (rd_cel (enc := encSt) (ys := [⟨3, 0⟩, ⟨0, 0⟩]) (rest := []) (fun _ => rfl) (hO.st w hE) 4 rfl rfl rfl (by decide))) (rdz (hO.st w hE) 10 rfl) (rd_nil _ _ _)) (by kernel_rfl)) <| .nil) (by kernel_rfl) (by kernel_rfl) fun a hF => ?_
    replace hS := Kp.refl none_ w
    refine any_done (by kernel_rfl) (fun w hE => ?_) _
    replace hO := hO.ext hE
    replace hF := hF.sel [1, 2, 5]
    replace hF : Fr 549 [] [(1, sv b8 8 8), (2, iv 5), (5, iv 10)] a := hF
    replace hO := hO.drop1 10
    refine W_seq (region_seq ?_)
    refine seq_quiet {} TBok hF (F' := [(1, sv b8 8 8), (2, iv 5), (5, iv 10), (134, rw4 b5)]) (rs := [.idx (some ⟨b8, 0, none⟩) 8 5 6 ⟨b8, 30, none⟩, .lds ⟨b8, 30, none⟩ [iv 4, iv 1, nl, iv 3, sv b5 2 2, iv 1]]) [0, 1, 2, 3] [4, 5, 6, 7, 8, 9, 10, 11] [1, 2, 5, 134] (.cons (ixa (by decide) (by decide)) <| .cons (ldso hO.st 7 rfl 30 (by kernel_rfl)) <| .nil) (by kernel_rfl) fun a w hF hE => ?_
    replace hO := hO.ext hE; clear hE
    refine op_call (i := 4) (f := 20) (args := #[rw4 b5, nl]) (d := some 135) TBok (by kernel_rfl) hF (by kernel_rfl) (Least_calls sa5 (vb b5) ([] : List Rp) none 0 0 _ (lit_R none 0 0 (some ⟨b5, 0, none⟩) 2 2 sa5 (rd_nil _ _ _) (rd_cel (enc := encSt) (ys := [⟨3, 0⟩, ⟨0, 0⟩]) (rest := []) (fun _ => rfl) hO 4 rfl rfl rfl (by decide))) (rd_nil _ _ _)) fun e w hR => ?_
    obtain ⟨p97, n98, c99, hn100, he, hO2⟩ := hR
    replace he : e = .returned (.tuple #[iv 0, .slice p97 n98 c99, iv 10]) := he.trans (congrArg Ending.returned (by kernel_rfl))
    refine ⟨_, he, fun a hF => ?_⟩
    replace hO := hO.joinE hO2; clear hO2 he
    refine seq_quiet {} TBok hF (F' := [(1, sv b8 8 8), (2, iv 5), (5, iv 10), (8, iv 10)]) (rs := []) [5, 6, 7, 8, 9, 10, 11] [] [1, 2, 5, 8] .nil (by kernel_rfl) fun a w hF hE => ?_
    replace hO := hO.ext hE; clear hE
    replace hO := hO.drop1 10
    replace hO : Own w0 none_ [cel b1 #[iv 1, iv 0, iv 0, iv 0] 70, cel b2 #[iv 1, iv 0, iv 0, iv 0] 70, cel b3 #[iv 1, iv 0, iv 0, iv 0] 70, cel b4 #[iv 1, iv 0, iv 0, iv 0] 70, cel b5 #[iv 3, iv 0, iv 0, iv 0] 70, cel b6 #[iv 1, iv 0, iv 0, iv 0] 70, cel b7 #[iv 1, iv 0, iv 0, iv 0] 70, cel b8 (seas8 b1 b2 b3 b4 b5 b6 b7 b9 b10).toArray 25, cel b9 #[iv 4] 3, cel b10 #[iv 1, iv 1] 3] w := hO
    refine W_seq (region_seq ?_)
    refine seq_quiet {} TBok hF (F' := [(1, sv b8 8 8), (2, iv 5), (5, iv 10), (8, iv 10), (143, rw4 b5)]) (rs := [.idx (some ⟨b8, 0, none⟩) 8 5 6 ⟨b8, 30, none⟩, .lds ⟨b8, 30, none⟩ [iv 4, iv 1, nl, iv 3, sv b5 2 2, iv 1]]) [0, 1, 2, 3] [4, 5, 6, 7, 8, 9] [1, 2, 5, 8, 143] (.cons (ixa (by decide) (by decide)) <| .cons (ldso hO.st 7 rfl 30 (by kernel_rfl)) <| .nil) (by kernel_rfl) fun a w hF hE => ?_
    replace hO := hO.ext hE; clear hE
    refine op_call (i := 4) (f := 24) (args := #[rw4 b5, nl, iv (-1), iv 0]) (d := some 144) TBok (by kernel_rfl) hF (by kernel_rfl) (Can_calls sa5 (vb b5) ([] : List Rp) none 0 0 (-1) 0 _ (lit_R none 0 0 (some ⟨b5, 0, none⟩) 2 2 sa5 (rd_nil _ _ _) (rd_cel (enc := encSt) (ys := [⟨3, 0⟩, ⟨0, 0⟩]) (rest := []) (fun _ => rfl) hO 4 rfl rfl rfl (by decide))) (rd_nil _ _ _)) fun e w hR => ?_
    obtain ⟨p101, n102, c103, hn104, he, hO2⟩ := hR
    replace he : e = .returned (.tuple #[.slice p101 n102 c103, iv 10]) := he.trans (congrArg Ending.returned (by kernel_rfl))
    refine ⟨_, he, fun a hF => ?_⟩
    replace hO := hO.joinE hO2; clear hO2 he
    refine seq_quiet {} TBok hF (F' := [(1, sv b8 8 8), (2, iv 5), (5, iv 10), (8, iv 10), (10, iv 10)]) (rs := []) [5, 6, 7, 8, 9] [] [1, 2, 5, 8, 10] .nil (by kernel_rfl) fun a w hF hE => ?_
    replace hO := hO.ext hE; clear hE
    replace hO := hO.drop1 10
    refine W_seq (region_seq ?_)
    refine seq_quiet {} TBok hF (F' := [(1, sv b8 8 8), (2, iv 5), (5, iv 10), (8, iv 10), (10, iv 10), (151, rw4 b5)]) (rs := [.idx (some ⟨b8, 0, none⟩) 8 5 6 ⟨b8, 30, none⟩, .lds ⟨b8, 30, none⟩ [iv 4, iv 1, nl, iv 3, sv b5 2 2, iv 1]]) [0, 1, 2, 3] [4, 5, 6, 7, 8, 9] [1, 2, 5, 8, 10, 151] (.cons (ixa (by decide) (by decide)) <| .cons (ldso hO.st 7 rfl 30 (by kernel_rfl)) <| .nil) (by kernel_rfl) fun a w hF hE => ?_
    replace hO := hO.ext hE; clear hE
    refine op_call (i := 4) (f := 26) (args := #[rw4 b5, nl]) (d := some 152) TBok (by kernel_rfl) hF (by kernel_rfl) (Liars_calls sa5 (vb b5) ([] : List Rp) none 0 0  _ (lit_R none 0 0 (some ⟨b5, 0, none⟩) 2 2 sa5 (rd_nil _ _ _) (rd_cel (enc := encSt) (ys := [⟨3, 0⟩, ⟨0, 0⟩]) (rest := []) (fun _ => rfl) hO 4 rfl rfl rfl (by decide))) (rd_nil _ _ _)) fun e w hR => ?_
    obtain ⟨p105, n106, c107, hn108, he, hO2⟩ := hR
    replace he : e = .returned (.tuple #[.slice p105 n106 c107, iv 10]) := he.trans (congrArg Ending.returned (by kernel_rfl))
    refine ⟨_, he, fun a hF => ?_⟩
    replace hO := hO.joinE hO2; clear hO2 he
    refine seq_quiet {} TBok hF (F' := [(1, sv b8 8 8), (2, iv 5), (5, iv 10), (8, iv 10), (10, iv 10), (12, iv 10)]) (rs := []) [5, 6, 7, 8, 9] [] [1, 2, 5, 8, 10, 12] .nil (by kernel_rfl) fun a w hF hE => ?_
    replace hO := hO.ext hE; clear hE
    replace hO := hO.drop1 10
    replace hO : Own w0 none_ [cel b1 #[iv 1, iv 0, iv 0, iv 0] 70, cel b2 #[iv 1, iv 0, iv 0, iv 0] 70, cel b3 #[iv 1, iv 0, iv 0, iv 0] 70, cel b4 #[iv 1, iv 0, iv 0, iv 0] 70, cel b5 #[iv 3, iv 0, iv 0, iv 0] 70, cel b6 #[iv 1, iv 0, iv 0, iv 0] 70, cel b7 #[iv 1, iv 0, iv 0, iv 0] 70, cel b8 (seas8 b1 b2 b3 b4 b5 b6 b7 b9 b10).toArray 25, cel b9 #[iv 4] 3, cel b10 #[iv 1, iv 1] 3] w := hO
    refine W_seq (region_q {} TBok hF (F' := [(1, sv b8 8 8), (2, iv 5), (5, iv 10), (8, iv 10), (10, iv 10), (12, iv 10), (15, iv 10)]) (rs := [.idx (some ⟨b8, 0, none⟩) 8 5 6 ⟨b8, 30, none⟩, .lds ⟨b8, 30, none⟩ [iv 4, iv 1, nl, iv 3, sv b5 2 2, iv 1], .call 28 #[rw4 b5, nl, iv (-1), iv 0, nl] (.tuple #[iv 0, iv 0, iv 10])]) [1, 2, 5, 8, 10, 12, 15] (.cons (ixa (by decide) (by decide)) <| .cons (ldso hO.st 7 rfl 30 (by kernel_rfl)) <| .cons (fun w hE => calls_cast (Next_calls sa5 (vb b5) ([] : List Rp) none 0 0 (-1) 0 ([] : List Cs) none 0 0 w (lit_R none 0 0 (some ⟨b5, 0, none⟩) 2 2 sa5 (rd_nil _ _ _) (rd_cel (enc := encSt) (ys := [⟨3, 0⟩, ⟨0, 0⟩]) (rest := []) (fun _ => rfl) (hO.st w hE) 4 rfl rfl rfl (by decide))) (rd_nil _ _ _) (rd_nil _ _ _) (hci_of (by decide)) (by decide)) (by kernel_rfl)) <| .nil) (by kernel_rfl) fun a w hF hE => ?_)
    replace hO := hO.ext hE; clear hE
    refine W_seq (region_seq ?_)
    refine seq_quiet {} TBok hF (F' := [(1, sv b8 8 8), (2, iv 5), (5, iv 10), (8, iv 10), (10, iv 10), (12, iv 10), (15, iv 10), (168, rw4 b5)]) (rs := [.idx (some ⟨b8, 0, none⟩) 8 5 6 ⟨b8, 30, none⟩, .lds ⟨b8, 30, none⟩ [iv 4, iv 1, nl, iv 3, sv b5 2 2, iv 1]]) [0, 1, 2, 3] [4, 5, 6, 7, 8, 9] [1, 2, 5, 8, 10, 12, 15, 168] (.cons (ixa (by decide) (by decide)) <| .cons (ldso hO.st 7 rfl 30 (by kernel_rfl)) <| .nil) (by kernel_rfl) fun a w hF hE => ?_
    replace hO := hO.ext hE; clear hE
    refine op_call (i := 4) (f := 30) (args := #[rw4 b5, nl, iv (-1), iv 0, nl]) (d := some 169) TBok (by kernel_rfl) hF (by kernel_rfl) (Sure_calls sa5 (vb b5) ([] : List Rp) none 0 0 (-1) 0 ([] : List Cs) none 0 0 _ (lit_R none 0 0 (some ⟨b5, 0, none⟩) 2 2 sa5 (rd_nil _ _ _) (rd_cel (enc := encSt) (ys := [⟨3, 0⟩, ⟨0, 0⟩]) (rest := []) (fun _ => rfl) hO 4 rfl rfl rfl (by decide))) (rd_nil _ _ _) (rd_nil _ _ _) (hci_of (by decide)) (by decide)) fun e w hR => ?_
    obtain ⟨p109, n110, c111, hn112, he, hO2⟩ := hR
    replace he : e = .returned (.tuple #[.slice p109 n110 c111, iv 10]) := he.trans (congrArg Ending.returned (by kernel_rfl))
    refine ⟨_, he, fun a hF => ?_⟩
    replace hO := hO.joinE hO2; clear hO2 he
    refine seq_quiet {} TBok hF (F' := [(1, sv b8 8 8), (2, iv 5), (5, iv 10), (8, iv 10), (10, iv 10), (12, iv 10), (15, iv 10), (17, iv 10)]) (rs := []) [5, 6, 7, 8, 9] [] [1, 2, 5, 8, 10, 12, 15, 17] .nil (by kernel_rfl) fun a w hF hE => ?_
    replace hO := hO.ext hE; clear hE
    replace hO := hO.drop1 10
    refine W_seq (region_q {} TBok hF (F' := [(1, sv b8 8 8), (2, iv 5), (201, .bool false)]) (rs := [.idx (some ⟨b8, 0, none⟩) 8 5 6 ⟨b8, 30, none⟩, .lds ⟨b8, 30, none⟩ [iv 4, iv 1, nl, iv 3, sv b5 2 2, iv 1], .call 18 #[rw4 b5] (iv 10)]) [1, 2, 201] (.cons (ixa (by decide) (by decide)) <| .cons (ldso hO.st 7 rfl 30 (by kernel_rfl)) <| .cons (fun w hE => calls_cast (Check_calls sa5 (vb b5) w (lit_R none 0 0 (some ⟨b5, 0, none⟩) 2 2 sa5 (rd_nil _ _ _) (rd_cel (enc := encSt) (ys := [⟨3, 0⟩, ⟨0, 0⟩]) (rest := []) (fun _ => rfl) (hO.st w hE) 4 rfl rfl rfl (by decide)))) (by kernel_rfl)) <| .nil) (by kernel_rfl) fun a w hF hE => ?_)
    replace hO := hO.ext hE; clear hE
    refine (W_false (evOp hF (by kernel_rfl)) ?_)
    refine (W_skip ?_)
    refine (region_q {} TBok hF (F' := [(1, sv b8 8 8), (2, iv 6)]) (rs := [.rng 6]) [1, 2] (.cons (rg (by decide)) <| .nil) (by kernel_rfl) fun a w hF hE => ?_)
    replace hO := hO.ext hE; clear hE
    exact ⟨_, by omega, 6, rfl, by omega, hF, hO⟩
  · replace hF : Fr 549 [] [(1, sv b8 8 8), (2, iv 6)] a := hF
    refine W_seq ?_
    refine W_seq (region_q {} TBok hF (F' := [(1, sv b8 8 8), (2, iv 6), (117, .bool true)]) (rs := []) [1, 2, 117] .nil (by kernel_rfl) fun a w hF hE => ?_)
    replace hO := hO.ext hE; clear hE
    refine (W_true (evOp hF (by kernel_rfl)) ?_)
    refine (W_skip ?_)
    refine W_seq (W_block ?_)
    refine W_seq (draw_start (R := none_) mixed [] 13 (by kernel_rfl) fun w hS => ?_)
    replace hO := hO.ext hS
    refine draw_q {} TBok hF hS (F' := [(1, sv b8 8 8), (2, iv 6), (124, .agg #[iv 4, iv 1, sv b9 1 1, iv 3, sv b6 2 2, iv 1])]) (rs := [.idx (some ⟨b8, 0, none⟩) 8 6 6 ⟨b8, 36, none⟩, .lds ⟨b8, 36, none⟩ [iv 4, iv 1, sv b9 1 1, iv 3, sv b6 2 2, iv 1]]) [0, 1, 2, 3] 13 9 (by kernel_rfl) #[true, true, true, true, false, false, false, false, false, false, false, false, false] [1, 2, 124] (.cons (ixa (by decide) (by decide)) <| .cons (ldso hO.st 7 rfl 36 (by kernel_rfl)) <| .nil) (by kernel_rfl) (by kernel_rfl) fun a hF => ?_
    replace hS := Kp.refl none_ w
    refine any_pick (rs := [4]) (by kernel_rfl) (by simp) fun w hE => all1 ?_
    replace hO := hO.ext hE; replace hS := hS.trans (Ext.kp hE)
    refine op_mslL (k := 4) (t := 26) (e := 52) (N := 25) (sz := 4) (z := .agg #[iv 0, iv 0, iv 0, .bool false]) (d := 125) (cs := zrpC.toArray) rfl hF hO (by kernel_rfl) (by kernel_rfl) (by kernel_rfl) (by kernel_rfl) (by decide) (by kernel_rfl) fun a w b113 hF hO hx => ⟨.inr (hS.trans (Ext.kp hx.1)), ?_⟩
    have hf_b113 := Nat.le_trans hS.size hx.2; replace hS := hS.trans (Ext.kp hx.1); clear hx
    refine draw_q {} TBok hF hS (F' := [(1, sv b8 8 8), (2, iv 6), (5, iv 10)]) (rs := [.call 16 #[.agg #[iv 4, iv 1, sv b9 1 1, iv 3, sv b6 2 2, iv 1], sv b113 25 25, nl] (.tuple #[iv 0, .bool false, iv 10])]) [5, 6, 7, 8, 9, 10, 11, 12] 8 0 (by kernel_rfl) #[true, true, true, true, true, true, true, true, true, true, true, true, true] [1, 2, 5] (.cons (fun w hE => calls_cast (IsTrack_calls sa6 (⟨(some ⟨b9, 0, none⟩), 1, 1, (some ⟨b6, 0, none⟩), 2, 2⟩ : SV) zrpL (some ⟨b113, 0, none⟩) 25 25 ([] : List Int) none 0 0 w (lit_R (some ⟨b9, 0, none⟩) 1 1 (some ⟨b6, 0, none⟩) 2 2 sa6 (rd_cel (enc := encI) (ys := [4]) (rest := []) (fun _ => rfl) (hO.st w hE) 8 rfl rfl rfl (by decide)) (rd4 (hO.st w hE) 5 rfl)) (rdz (hO.st w hE) 10 rfl) (rd_nil _ _ _)) (by kernel_rfl)) <| .nil) (by kernel_rfl) (by kernel_rfl) fun a hF => ?_
    replace hS := Kp.refl none_ w
    refine any_done (by kernel_rfl) (fun w hE => ?_) _
    replace hO := hO.ext hE
    replace hF := hF.sel [1, 2, 5]
    replace hF : Fr 549 [] [(1, sv b8 8 8), (2, iv 6), (5, iv 10)] a := hF
    replace hO := hO.drop1 10
    refine W_seq (region_seq ?_)
    refine seq_quiet {} TBok hF (F' := [(1, sv b8 8 8), (2, iv 6), (5, iv 10), (134, .agg #[iv 4, iv 1, sv b9 1 1, iv 3, sv b6 2 2, iv 1])]) (rs := [.idx (some ⟨b8, 0, none⟩) 8 6 6 ⟨b8, 36, none⟩, .lds ⟨b8, 36, none⟩ [iv 4, iv 1, sv b9 1 1, iv 3, sv b6 2 2, iv 1]]) [0, 1, 2, 3] [4, 5, 6, 7, 8, 9, 10, 11] [1, 2, 5, 134] (.cons (ixa (by decide) (by decide)) <| .cons (ldso hO.st 7 rfl 36 (by kernel_rfl)) <| .nil) (by kernel_rfl) fun a w hF hE => ?_
    replace hO := hO.ext hE; clear hE
    refine op_call (i := 4) (f := 20) (args := #[.agg #[iv 4, iv 1, sv b9 1 1, iv 3, sv b6 2 2, iv 1], nl]) (d := some 135) TBok (by kernel_rfl) hF (by kernel_rfl) (Least_calls sa6 (⟨(some ⟨b9, 0, none⟩), 1, 1, (some ⟨b6, 0, none⟩), 2, 2⟩ : SV) ([] : List Rp) none 0 0 _ (lit_R (some ⟨b9, 0, none⟩) 1 1 (some ⟨b6, 0, none⟩) 2 2 sa6 (rd_cel (enc := encI) (ys := [4]) (rest := []) (fun _ => rfl) hO 8 rfl rfl rfl (by decide)) (rd4 hO 5 rfl)) (rd_nil _ _ _)) fun e w hR => ?_
    obtain ⟨p114, n115, c116, hn117, he, hO2⟩ := hR
    replace he : e = .returned (.tuple #[iv 0, .slice p114 n115 c116, iv 10]) := he.trans (congrArg Ending.returned (by kernel_rfl))
    refine ⟨_, he, fun a hF => ?_⟩
    replace hO := hO.joinE hO2; clear hO2 he
    refine seq_quiet {} TBok hF (F' := [(1, sv b8 8 8), (2, iv 6), (5, iv 10), (8, iv 10)]) (rs := []) [5, 6, 7, 8, 9, 10, 11] [] [1, 2, 5, 8] .nil (by kernel_rfl) fun a w hF hE => ?_
    replace hO := hO.ext hE; clear hE
    replace hO := hO.drop1 10
    replace hO : Own w0 none_ [cel b1 #[iv 1, iv 0, iv 0, iv 0] 70, cel b2 #[iv 1, iv 0, iv 0, iv 0] 70, cel b3 #[iv 1, iv 0, iv 0, iv 0] 70, cel b4 #[iv 1, iv 0, iv 0, iv 0] 70, cel b5 #[iv 3, iv 0, iv 0, iv 0] 70, cel b6 #[iv 1, iv 0, iv 0, iv 0] 70, cel b7 #[iv 1, iv 0, iv 0, iv 0] 70, cel b8 (seas8 b1 b2 b3 b4 b5 b6 b7 b9 b10).toArray 25, cel b9 #[iv 4] 3, cel b10 #[iv 1, iv 1] 3] w := hO
    refine W_seq (region_seq ?_)
    refine seq_quiet {} TBok hF (F' := [(1, sv b8 8 8), (2, iv 6), (5, iv 10), (8, iv 10), (143, .agg #[iv 4, iv 1, sv b9 1 1, iv 3, sv b6 2 2, iv 1])]) (rs := [.idx (some ⟨b8, 0, none⟩) 8 6 6 ⟨b8, 36, none⟩, .lds ⟨b8, 36, none⟩ [iv 4, iv 1, sv b9 1 1, iv 3, sv b6 2 2, iv 1]]) [0, 1, 2, 3] [4, 5, 6, 7, 8, 9] [1, 2, 5, 8, 143] (.cons (ixa (by decide) (by decide)) <| .cons (ldso hO.st 7 rfl 36 (by kernel_rfl)) <| .nil) (by kernel_rfl) fun a w hF hE => ?_
    replace hO := hO.ext hE; clear hE
    refine op_call (i := 4) (f := 24) (args := #[.agg #[iv 4, iv 1, sv b9 1 1, iv 3, sv b6 2 2, iv 1], nl, iv (-1), iv 0]) (d := some 144) TBok (by kernel_rfl) hF (by kernel_rfl) (Can_calls sa6 (⟨(some ⟨b9, 0, none⟩), 1, 1, (some ⟨b6, 0, none⟩), 2, 2⟩ : SV) ([] : List Rp) none 0 0 (-1) 0 _ (lit_R (some ⟨b9, 0, none⟩) 1 1 (some ⟨b6, 0, none⟩) 2 2 sa6 (rd_cel (enc := encI) (ys := [4]) (rest := []) (fun _ => rfl) hO 8 rfl rfl rfl (by decide)) (rd4 hO 5 rfl)) (rd_nil _ _ _)) fun e w hR => ?_
    obtain ⟨p118, n119, c120, hn121, he, hO2⟩ := hR
    replace he : e = .returned (.tuple #[.slice p118 n119 c120, iv 10]) := he.trans (congrArg Ending.returned (by kernel_rfl))
    refine ⟨_, he, fun a hF => ?_⟩
    replace hO := hO.joinE hO2; clear hO2 he
    refine seq_quiet {} TBok hF (F' := [(1, sv b8 8 8), (2, iv 6), (5, iv 10), (8, iv 10), (10, iv 10)]) (rs := []) [5, 6, 7, 8, 9] [] [1, 2, 5, 8, 10] .nil (by kernel_rfl) fun a w hF hE => ?_
    replace hO := hO.ext hE; clear hE
    replace hO := hO.drop1 10
    refine W_seq (region_seq ?_)
    refine seq_quiet {} TBok hF (F' := [(1, sv b8 8 8), (2, iv 6), (5, iv 10), (8, iv 10), (10, iv 10), (151, .agg #[iv 4, iv 1, sv b9 1 1, iv 3, sv b6 2 2, iv 1])]) (rs := [.idx (some ⟨b8, 0, none⟩) 8 6 6 ⟨b8, 36, none⟩, .lds ⟨b8, 36, none⟩ [iv 4, iv 1, sv b9 1 1, iv 3, sv b6 2 2, iv 1]]) [0, 1, 2, 3] [4, 5, 6, 7, 8, 9] [1, 2, 5, 8, 10, 151] (.cons (ixa (by decide) (by decide)) <| .cons (ldso hO.st 7 rfl 36 (by kernel_rfl)) <| .nil) (by kernel_rfl) fun a w hF hE => ?_
    replace hO := hO.ext hE; clear hE
    refine op_call (i := 4) (f := 26) (args := #[.agg #[iv 4, iv 1, sv b9 1 1, iv 3, sv b6 2 2, iv 1], nl]) (d := some 152) TBok (by kernel_rfl) hF (by kernel_rfl) (Liars_calls sa6 (⟨(some ⟨b9, 0, none⟩), 1, 1, (some ⟨b6, 0, none⟩), 2, 2⟩ : SV) ([] : List Rp) none 0 0  _ (lit_R (some ⟨b9, 0, none⟩) 1 1 (some ⟨b6, 0, none⟩) 2 2 sa6 (rd_cel (enc := encI) (ys := [4]) (rest := []) (fun _ => rfl) hO 8 rfl rfl rfl (by decide)) (rd4 hO 5 rfl)) (rd_nil _ _ _)) fun e w hR => ?_
    obtain ⟨p122, n123, c124, hn125, he, hO2⟩ := hR
    replace he : e = .returned (.tuple #[.slice p122 n123 c124, iv 10]) := he.trans (congrArg Ending.returned (by kernel_rfl))
    refine ⟨_, he, fun a hF => ?_⟩
    replace hO := hO.joinE hO2; clear hO2 he
    refine seq_quiet {} TBok hF (F' := [(1, sv b8 8 8), (2, iv 6), (5, iv 10), (8, iv 10), (10, iv 10), (12, iv 10)]) (rs := []) [5, 6, 7, 8, 9] [] [1, 2, 5, 8, 10, 12] .nil (by kernel_rfl) fun a w hF hE => ?_
    replace hO := hO.ext hE; clear hE
    replace hO := hO.drop1 10
    replace hO : Own w0 none_ [cel b1 #[iv 1, iv 0, iv 0, iv 0] 70, cel b2 #[iv 1, iv 0, iv 0, iv 0] 70, cel b3 #[iv 1, iv 0, iv 0, iv 0] 70, cel b4 #[iv 1, iv 0, iv 0, iv 0] 70, cel b5 #[iv 3, iv 0, iv 0, iv 0] 70, cel b6 #[iv 1, iv 0, iv 0, iv 0] 70, cel b7 #[iv 1, iv 0, iv 0, iv 0] 70, cel b8 (seas8 b1 b2 b3 b4 b5 b6 b7 b9 b10).toArray 25, cel b9 #[iv 4] 3, cel b10 #[iv 1, iv 1] 3] w := hO
    refine W_seq (region_q {} TBok hF (F' := [(1, sv b8 8 8), (2, iv 6), (5, iv 10), (8, iv 10), (10, iv 10), (12, iv 10), (15, iv 10)]) (rs := [.idx (some ⟨b8, 0, none⟩) 8 6 6 ⟨b8, 36, none⟩, .lds ⟨b8, 36, none⟩ [iv 4, iv 1, sv b9 1 1, iv 3, sv b6 2 2, iv 1], .call 28 #[.agg #[iv 4, iv 1, sv b9 1 1, iv 3, sv b6 2 2, iv 1], nl, iv (-1), iv 0, nl] (.tuple #[iv 0, iv 0, iv 10])]) [1, 2, 5, 8, 10, 12, 15] (.cons (ixa (by decide) (by decide)) <| .cons (ldso hO.st 7 rfl 36 (by kernel_rfl)) <| .cons (fun w hE => calls_cast (Next_calls sa6 (⟨(some ⟨b9, 0, none⟩), 1, 1, (some ⟨b6, 0, none⟩), 2, 2⟩ : SV) ([] : List Rp) none 0 0 (-1) 0 ([] : List Cs) none 0 0 w (lit_R (some ⟨b9, 0, none⟩) 1 1 (some ⟨b6, 0, none⟩) 2 2 sa6 (rd_cel (enc := encI) (ys := [4]) (rest := []) (fun _ => rfl) (hO.st w hE) 8 rfl rfl rfl (by decide)) (rd4 (hO.st w hE) 5 rfl)) (rd_nil _ _ _) (rd_nil _ _ _) (hci_of (by decide)) (by decide)) (by kernel_rfl)) <| .nil) (by kernel_rfl) fun a w hF hE => ?_)
    replace hO := hO.ext hE; clear hE
    refine W_seq (region_seq ?_)
    refine seq_quiet {} TBok hF (F' := [(1, sv b8 8 8), (2, iv 6), (5, iv 10), (8, iv 10), (10, iv 10), (12, iv 10), (15, iv 10), (168, .agg #[iv 4, iv 1, sv b9 1 1, iv 3, sv b6 2 2, iv 1])]) (rs := [.idx (some ⟨b8, 0, none⟩) 8 6 6 ⟨b8, 36, none⟩, .lds ⟨b8, 36, none⟩ [iv 4, iv 1, sv b9 1 1, iv 3, sv b6 2 2, iv 1]]) [0, 1, 2, 3] [4, 5, 6, 7, 8, 9] [1, 2, 5, 8, 10, 12, 15, 168] (.cons (ixa (by decide) (by decide)) <| .cons (ldso hO.st 7 rfl 36 (by kernel_rfl)) <| .nil) (by kernel_rfl) fun a w hF hE => ?_
    replace hO := hO.ext hE; clear hE
    refine op_call (i := 4) (f := 30) (args := #[.agg #[iv 4, iv 1, sv b9 1 1, iv 3, sv b6 2 2, iv 1], nl, iv (-1), iv 0, nl]) (d := some 169) TBok (by kernel_rfl) hF (by kernel_rfl) (Sure_calls sa6 (⟨(some ⟨b9, 0, none⟩), 1, 1, (some ⟨b6, 0, none⟩), 2, 2⟩ : SV) ([] : List Rp) none 0 0 (-1) 0 ([] : List Cs) none 0 0 _ (lit_R (some ⟨b9, 0, none⟩) 1 1 (some ⟨b6, 0, none⟩) 2 2 sa6 (rd_cel (enc := encI) (ys := [4]) (rest := []) (fun _ => rfl) hO 8 rfl rfl rfl (by decide)) (rd4 hO 5 rfl)) (rd_nil _ _ _) (rd_nil _ _ _) (hci_of (by decide)) (by decide)) fun e w hR => ?_
    obtain ⟨p126, n127, c128, hn129, he, hO2⟩ := hR
    replace he : e = .returned (.tuple #[.slice p126 n127 c128, iv 10]) := he.trans (congrArg Ending.returned (by kernel_rfl))
    refine ⟨_, he, fun a hF => ?_⟩
    replace hO := hO.joinE hO2; clear hO2 he
    refine seq_quiet {} TBok hF (F' := [(1, sv b8 8 8), (2, iv 6), (5, iv 10), (8, iv 10), (10, iv 10), (12, iv 10), (15, iv 10), (17, iv 10)]) (rs := []) [5, 6, 7, 8, 9] [] [1, 2, 5, 8, 10, 12, 15, 17] .nil (by kernel_rfl) fun a w hF hE => ?_
    replace hO := hO.ext hE; clear hE
    replace hO := hO.drop1 10
    refine W_seq (region_q {} TBok hF (F' := [(1, sv b8 8 8), (2, iv 6), (201, .bool false)]) (rs := [.idx (some ⟨b8, 0, none⟩) 8 6 6 ⟨b8, 36, none⟩, .lds ⟨b8, 36, none⟩ [iv 4, iv 1, sv b9 1 1, iv 3, sv b6 2 2, iv 1], .call 18 #[.agg #[iv 4, iv 1, sv b9 1 1, iv 3, sv b6 2 2, iv 1]] (iv 10)]) [1, 2, 201] (.cons (ixa (by decide) (by decide)) <| .cons (ldso hO.st 7 rfl 36 (by kernel_rfl)) <| .cons (fun w hE => calls_cast (Check_calls sa6 (⟨(some ⟨b9, 0, none⟩), 1, 1, (some ⟨b6, 0, none⟩), 2, 2⟩ : SV) w (lit_R (some ⟨b9, 0, none⟩) 1 1 (some ⟨b6, 0, none⟩) 2 2 sa6 (rd_cel (enc := encI) (ys := [4]) (rest := []) (fun _ => rfl) (hO.st w hE) 8 rfl rfl rfl (by decide)) (rd4 (hO.st w hE) 5 rfl))) (by kernel_rfl)) <| .nil) (by kernel_rfl) fun a w hF hE => ?_)
    replace hO := hO.ext hE; clear hE
    refine (W_false (evOp hF (by kernel_rfl)) ?_)
    refine (W_skip ?_)
    refine (region_q {} TBok hF (F' := [(1, sv b8 8 8), (2, iv 7)]) (rs := [.rng 7]) [1, 2] (.cons (rg (by decide)) <| .nil) (by kernel_rfl) fun a w hF hE => ?_)
    replace hO := hO.ext hE; clear hE
    exact ⟨_, by omega, 7, rfl, by omega, hF, hO⟩
  · replace hF : Fr 549 [] [(1, sv b8 8 8), (2, iv 7)] a := hF
    refine W_seq ?_
    refine W_seq (region_q {} TBok hF (F' := [(1, sv b8 8 8), (2, iv 7), (117, .bool true)]) (rs := []) [1, 2, 117] .nil (by kernel_rfl) fun a w hF hE => ?_)
    replace hO := hO.ext hE; clear hE
    refine (W_true (evOp hF (by kernel_rfl)) ?_)
    refine (W_skip ?_)
    refine W_seq (W_block ?_)
    refine W_seq (draw_start (R := none_) mixed [] 13 (by kernel_rfl) fun w hS => ?_)
    replace hO := hO.ext hS
    refine draw_q {} TBok hF hS (F' := [(1, sv b8 8 8), (2, iv 7), (124, .agg #[iv 4, iv 1, sv b10 2 2, iv 3, sv b7 2 2, iv 1])]) (rs := [.idx (some ⟨b8, 0, none⟩) 8 7 6 ⟨b8, 42, none⟩, .lds ⟨b8, 42, none⟩ [iv 4, iv 1, sv b10 2 2, iv 3, sv b7 2 2, iv 1]]) [0, 1, 2, 3] 13 9 (by kernel_rfl) #[true, true, true, true, false, false, false, false, false, false, false, false, false] [1, 2, 124] (.cons (ixa (by decide) (by decide)) <| .cons (ldso hO.st 7 rfl 42 (by kernel_rfl)) <| .nil) (by kernel_rfl) (by kernel_rfl) fun a hF => ?_
    replace hS := Kp.refl none_ w
    refine any_pick (rs := [4]) (by kernel_rfl) (by simp) fun w hE => all1 ?_
    replace hO := hO.ext hE; replace hS := hS.trans (Ext.kp hE)
    refine op_mslL (k := 4) (t := 26) (e := 52) (N := 25) (sz := 4) (z := .agg #[iv 0, iv 0, iv 0, .bool false]) (d := 125) (cs := zrpC.toArray) rfl hF hO (by kernel_rfl) (by kernel_rfl) (by kernel_rfl) (by kernel_rfl) (by decide) (by kernel_rfl) fun a w b130 hF hO hx => ⟨.inr (hS.trans (Ext.kp hx.1)), ?_⟩
    have hf_b130 := Nat.le_trans hS.size hx.2; replace hS := hS.trans (Ext.kp hx.1); clear hx
    refine draw_q {} TBok hF hS (F' := [(1, sv b8 8 8), (2, iv 7), (5, iv 10)]) (rs := [.call 16 #[.agg #[iv 4, iv 1, sv b10 2 2, iv 3, sv b7 2 2, iv 1], sv b130 25 25, nl] (.tuple #[iv 0, .bool false, iv 10])]) [5, 6, 7, 8, 9, 10, 11, 12] 8 0 (by kernel_rfl) #[true, true, true, true, true, true, true, true, true, true, true, true, true] [1, 2, 5] (.cons (fun w hE => calls_cast (IsTrack_calls sa7 (⟨(some ⟨b10, 0, none⟩), 2, 2, (some ⟨b7, 0, none⟩), 2, 2⟩ : SV) zrpL (some ⟨b130, 0, none⟩) 25 25 ([] : List Int) none 0 0 w (lit_R (some ⟨b10, 0, none⟩) 2 2 (some ⟨b7, 0, none⟩) 2 2 sa7 (rd_cel (enc := encI) (ys := [1, 1]) (rest := []) (fun _ => rfl) (hO.st w hE) 9 rfl rfl rfl (by decide)) (rd4 (hO.st w hE) 6 rfl)) (rdz (hO.st w hE) 10 rfl) (rd_nil _ _ _)) (by kernel_rfl)) <| .nil) (by kernel_rfl) (by kernel_rfl) fun a hF => ?_
    replace hS := Kp.refl none_ w
    refine any_done (by kernel_rfl) (fun w hE => ?_) _
    replace hO := hO.ext hE
    replace hF := hF.sel [1, 2, 5]
    replace hF : Fr 549 [] [(1, sv b8 8 8), (2, iv 7), (5, iv 10)] a := hF
    replace hO := hO.drop1 10
    refine W_seq (region_seq ?_)
    refine seq_quiet {} TBok hF (F' := [(1, sv b8 8 8), (2, iv 7), (5, iv 10), (134, .agg #[iv 4, iv 1, sv b10 2 2, iv 3, sv b7 2 2, iv 1])]) (rs := [.idx (some ⟨b8, 0, none⟩) 8 7 6 ⟨b8, 42, none⟩, .lds ⟨b8, 42, none⟩ [iv 4, iv 1, sv b10 2 2, iv 3, sv b7 2 2, iv 1]]) [0, 1, 2, 3] [4, 5, 6, 7, 8, 9, 10, 11] [1, 2, 5, 134] (.cons (ixa (by decide) (by decide)) <| .cons (ldso hO.st 7 rfl 42 (by kernel_rfl)) <| .nil) (by kernel_rfl) fun a w hF hE => ?_
    replace hO := hO.ext hE; clear hE
    refine op_call (i := 4) (f := 20) (args := #[.agg #[iv 4, iv 1, sv b10 2 2, iv 3, sv b7 2 2, iv 1], nl]) (d := some 135) TBok (by kernel_rfl) hF (by kernel_rfl) (Least_calls sa7 (⟨(some ⟨b10, 0, none⟩), 2, 2, (some ⟨b7, 0, none⟩), 2, 2⟩ : SV) ([] : List Rp) none 0 0 _ (lit_R (some ⟨b10, 0, none⟩) 2 2 (some ⟨b7, 0, none⟩) 2 2 sa7 (rd_cel (enc := encI) (ys := [1, 1]) (rest := []) (fun _ => rfl) hO 9 rfl rfl rfl (by decide)) (rd4 hO 6 rfl)) (rd_nil _ _ _)) fun e w hR => ?_
    obtain ⟨p131, n132, c133, hn134, he, hO2⟩ := hR
    replace he : e = .returned (.tuple #[iv 0, .slice p131 n132 c133, iv 10]) := he.trans (congrArg Ending.returned (by kernel_rfl))
    refine ⟨_, he, fun a hF => ?_⟩
    replace hO := hO.joinE hO2; clear hO2 he
    refine seq_quiet {} TBok hF (F' := [(1, sv b8 8 8), (2, iv 7), (5, iv 10), (8, iv 10)]) (rs := []) [5, 6, 7, 8, 9, 10, 11] [] [1, 2, 5, 8] .nil (by kernel_rfl) fun a w hF hE => ?_
    replace hO := hO.ext hE; clear hE
    replace hO := hO.drop1 10
    replace hO : Own w0 none_ [cel b1 #[iv 1, iv 0, iv 0, iv 0] 70, cel b2 #[iv 1, iv 0, iv 0, iv 0] 70, cel b3 #[iv 1, iv 0, iv 0, iv 0] 70, cel b4 #[iv 1, iv 0, iv 0, iv 0] 70, cel b5 #[iv 3, iv 0, iv 0, iv 0] 70, cel b6 #[iv 1, iv 0, iv 0, iv 0] 70, cel b7 #[iv 1, iv 0, iv 0, iv 0] 70, cel b8 (seas8 b1 b2 b3 b4 b5 b6 b7 b9 b10).toArray 25, cel b9 #[iv 4] 3, cel b10 #[iv 1, iv 1] 3] w := hO
    refine W_seq (region_seq ?_)
    refine seq_quiet {} TBok hF (F' := [(1, sv b8 8 8), (2, iv 7), (5, iv 10), (8, iv 10), (143, .agg #[iv 4, iv 1, sv b10 2 2, iv 3, sv b7 2 2, iv 1])]) (rs := [.idx (some ⟨b8, 0, none⟩) 8 7 6 ⟨b8, 42, none⟩, .lds ⟨b8, 42, none⟩ [iv 4, iv 1, sv b10 2 2, iv 3, sv b7 2 2, iv 1]]) [0, 1, 2, 3] [4, 5, 6, 7, 8, 9] [1, 2, 5, 8, 143] (.cons (ixa (by decide) (by decide)) <| .cons (ldso hO.st 7 rfl 42 (by kernel_rfl)) <| .nil) (by kernel_rfl) fun a w hF hE => ?_
    replace hO := hO.ext hE; clear hE
    refine op_call (i := 4) (f := 24) (args := #[.agg #[iv 4, iv 1, sv b10 2 2, iv 3, sv b7 2 2, iv 1], nl, iv (-1), iv 0]) (d := some 144) TBok (by kernel_rfl) hF (by kernel_rfl) (Can_calls sa7 (⟨(some ⟨b10, 0, none⟩), 2, 2, (some ⟨b7, 0, none⟩), 2, 2⟩ : SV) ([] : List Rp) none 0 0 (-1) 0 _ (lit_R (some ⟨b10, 0, none⟩) 2 2 (some ⟨b7, 0, none⟩) 2 2 sa7 (rd_cel (enc := encI) (ys := [1, 1]) (rest := []) (fun _ => rfl) hO 9 rfl rfl rfl (by decide)) (rd4 hO 6 rfl)) (rd_nil _ _ _)) fun e w hR => ?_
    obtain ⟨p135, n136, c137, hn138, he, hO2⟩ := hR
    replace he : e = .returned (.tuple #[.slice p135 n136 c137, iv 10]) := he.trans (congrArg Ending.returned (by kernel_rfl))
    refine ⟨_, he, fun a hF => ?_⟩
    replace hO := hO.joinE hO2; clear hO2 he
    refine seq_quiet {} TBok hF (F' := [(1, sv b8 8 8), (2, iv 7), (5, iv 10), (8, iv 10), (10, iv 10)]) (rs := []) [5, 6, 7, 8, 9] [] [1, 2, 5, 8, 10] .nil (by kernel_rfl) fun a w hF hE => ?_
    replace hO := hO.ext hE; clear hE
    replace hO := hO.drop1 10
    refine W_seq (region_seq ?_)
    refine seq_quiet {} TBok hF (F' := [(1, sv b8 8 8), (2, iv 7), (5, iv 10), (8, iv 10), (10, iv 10), (151, .agg #[iv 4, iv 1, sv b10 2 2, iv 3, sv b7 2 2, iv 1])]) (rs := [.idx (some ⟨b8, 0, none⟩) 8 7 6 ⟨b8, 42, none⟩, .lds ⟨b8, 42, none⟩ [iv 4, iv 1, sv b10 2 2, iv 3, sv b7 2 2, iv 1]]) [0, 1, 2, 3] [4, 5, 6, 7, 8, 9] [1, 2, 5, 8, 10, 151] (.cons (ixa (by decide) (by decide)) <| .cons (ldso hO.st 7 rfl 42 (by kernel_rfl)) <| .nil) (by kernel_rfl) fun a w hF hE => ?_
    replace hO := hO.ext hE; clear hE
    refine op_call (i := 4) (f := 26) (args := #[.agg #[iv 4, iv 1, sv b10 2 2, iv 3, sv b7 2 2, iv 1], nl]) (d := some 152) TBok (by kernel_rfl) hF (by kernel_rfl) (Liars_calls sa7 (⟨(some ⟨b10, 0, none⟩), 2, 2, (some ⟨b7, 0, none⟩), 2, 2⟩ : SV) ([] : List Rp) none 0 0  _ (lit_R (some ⟨b10, 0, none⟩) 2 2 (some ⟨b7, 0, none⟩) 2 2 sa7 (rd_cel (enc := encI) (ys := [1, 1]) (rest := []) (fun _ => rfl) hO 9 rfl rfl rfl (by decide)) (rd4 hO 6 rfl)) (rd_nil _ _ _)) fun e w hR => ?_
    obtain ⟨p139, n140, c141, hn142, he, hO2⟩ := hR
    replace he : e = .returned (.tuple #[.slice p139 n140 c141, iv 10]) := he.trans (congrArg Ending.returned (by kernel_rfl))
    refine ⟨_, he, fun a hF => ?_⟩
    replace hO := hO.joinE hO2; clear hO2 he
    refine seq_quiet {} TBok hF (F' := [(1, sv b8 8 8), (2, iv 7), (5, iv 10), (8, iv 10), (10, iv 10), (12, iv 10)]) (rs := []) [5, 6, 7, 8, 9] [] [1, 2, 5, 8, 10, 12] .nil (by kernel_rfl) fun a w hF hE => ?_
    replace hO := hO.ext hE; clear hE
    replace hO := hO.drop1 10
    replace hO : Own w0 none_ [cel b1 #[iv 1, iv 0, iv 0, iv 0] 70, cel b2 #[iv 1, iv 0, iv 0, iv 0] 70, cel b3 #[iv 1, iv 0, iv 0, iv 0] 70, cel b4 #[iv 1, iv 0, iv 0, iv 0] 70, cel b5 #[iv 3, iv 0, iv 0, iv 0] 70, cel b6 #[iv 1, iv 0, iv 0, iv 0] 70, cel b7 #[iv 1, iv 0, iv 0, iv 0] 70, cel b8 (seas8 b1 b2 b3 b4 b5 b6 b7 b9 b10).toArray 25, cel b9 #[iv 4] 3, cel b10 #[iv 1, iv 1] 3] w := hO
    refine W_seq (region_q {} TBok hF (F' := [(1, sv b8 8 8), (2, iv 7), (5, iv 10), (8, iv 10), (10, iv 10), (12, iv 10), (15, iv 10)]) (rs := [.idx (some ⟨b8, 0, none⟩) 8 7 6 ⟨b8, 42, none⟩, .lds ⟨b8, 42, none⟩ [iv 4, iv 1, sv b10 2 2, iv 3, sv b7 2 2, iv 1], .call 28 #[.agg #[iv 4, iv 1, sv b10 2 2, iv 3, sv b7 2 2, iv 1], nl, iv (-1), iv 0, nl] (.tuple #[iv 0, iv 0, iv 10])]) [1, 2, 5, 8, 10, 12, 15] (.cons (ixa (by decide) (by decide)) <| .cons (ldso hO.st 7 rfl 42 (by kernel_rfl)) <| .cons (fun w hE => calls_cast (Next_calls sa7 (⟨(some ⟨b10, 0, none⟩), 2, 2, (some ⟨b7, 0, none⟩), 2, 2⟩ : SV) ([] : List Rp) none 0 0 (-1) 0 ([] : List Cs) none 0 0 w (lit_R (some ⟨b10, 0, none⟩) 2 2 (some ⟨b7, 0, none⟩) 2 2 sa7 (rd_cel (enc := encI) (ys := [1, 1]) (rest := []) (fun _ => rfl) (hO.st w hE) 9 rfl rfl rfl (by decide)) (rd4 (hO.st w hE) 6 rfl)) (rd_nil _ _ _) (rd_nil _ _ _) (hci_of (by decide)) (by decide)) (by kernel_rfl)) <| .nil) (by kernel_rfl) fun a w hF hE => ?_)
    replace hO := hO.ext hE; clear hE
    refine W_seq (region_seq ?_)
    refine seq_quiet {} TBok hF (F' := [(1, sv b8 8 8), (2, iv 7), (5, iv 10), (8, iv 10), (10, iv 10), (12, iv 10), (15, iv 10), (168, .agg #[iv 4, iv 1, sv b10 2 2, iv 3, sv b7 2 2, iv 1])]) (rs := [.idx (some ⟨b8, 0, none⟩) 8 7 6 ⟨b8, 42, none⟩, .lds ⟨b8, 42, none⟩ [iv 4, iv 1, sv b10 2 2, iv 3, sv b7 2 2, iv 1]]) [0, 1, 2, 3] [4, 5, 6, 7, 8, 9] [1, 2, 5, 8, 10, 12, 15, 168] (.cons (ixa (by decide) (by decide)) <| .cons (ldso hO.st 7 rfl 42 (by kernel_rfl)) <| .nil) (by kernel_rfl) fun a w hF hE => ?_
    replace hO := hO.ext hE; clear hE
    refine op_call (i := 4) (f := 30) (args := #[.agg #[iv 4, iv 1, sv b10 2 2, iv 3, sv b7 2 2, iv 1], nl, iv (-1), iv 0, nl]) (d := some 169) TBok (by kernel_rfl) hF (by kernel_rfl) (Sure_calls sa7 (⟨(some ⟨b10, 0, none⟩), 2, 2, (some ⟨b7, 0, none⟩), 2, 2⟩ : SV) ([] : List Rp) none 0 0 (-1) 0 ([] : List Cs) none 0 0 _ (lit_R (some ⟨b10, 0, none⟩) 2 2 (some ⟨b7, 0, none⟩) 2 2 sa7 (rd_cel (enc := encI) (ys := [1, 1]) (rest := []) (fun _ => rfl) hO 9 rfl rfl rfl (by decide)) (rd4 hO 6 rfl)) (rd_nil _ _ _) (rd_nil _ _ _) (hci_of (by decide)) (by decide)) fun e w hR => ?_
    obtain ⟨p143, n144, c145, hn146, he, hO2⟩ := hR
    replace he : e = .returned (.tuple #[.slice p143 n144 c145, iv 10]) := he.trans (congrArg Ending.returned (by kernel_rfl))
    refine ⟨_, he, fun a hF => ?_⟩
    replace hO := hO.joinE hO2; clear hO2 he
    refine seq_quiet {} TBok hF (F' := [(1, sv b8 8 8), (2, iv 7), (5, iv 10), (8, iv 10), (10, iv 10), (12, iv 10), (15, iv 10), (17, iv 10)]) (rs := []) [5, 6, 7, 8, 9] [] [1, 2, 5, 8, 10, 12, 15, 17] .nil (by kernel_rfl) fun a w hF hE => ?_
    replace hO := hO.ext hE; clear hE
    replace hO := hO.drop1 10
    refine W_seq (region_q {} TBok hF (F' := [(1, sv b8 8 8), (2, iv 7), (201, .bool false)]) (rs := [.idx (some ⟨b8, 0, none⟩) 8 7 6 ⟨b8, 42, none⟩, .lds ⟨b8, 42, none⟩ [iv 4, iv 1, sv b10 2 2, iv 3, sv b7 2 2, iv 1], .call 18 #[.agg #[iv 4, iv 1, sv b10 2 2, iv 3, sv b7 2 2, iv 1]] (iv 10)]) [1, 2, 201] (.cons (ixa (by decide) (by decide)) <| .cons (ldso hO.st 7 rfl 42 (by kernel_rfl)) <| .cons (fun w hE => calls_cast (Check_calls sa7 (⟨(some ⟨b10, 0, none⟩), 2, 2, (some ⟨b7, 0, none⟩), 2, 2⟩ : SV) w (lit_R (some ⟨b10, 0, none⟩) 2 2 (some ⟨b7, 0, none⟩) 2 2 sa7 (rd_cel (enc := encI) (ys := [1, 1]) (rest := []) (fun _ => rfl) (hO.st w hE) 9 rfl rfl rfl (by decide)) (rd4 (hO.st w hE) 6 rfl))) (by kernel_rfl)) <| .nil) (by kernel_rfl) fun a w hF hE => ?_)
    replace hO := hO.ext hE; clear hE
    refine (W_false (evOp hF (by kernel_rfl)) ?_)
    refine (W_skip ?_)
    refine (region_q {} TBok hF (F' := [(1, sv b8 8 8), (2, iv 8)]) (rs := [.rng 8]) [1, 2] (.cons (rg (by decide)) <| .nil) (by kernel_rfl) fun a w hF hE => ?_)
    replace hO := hO.ext hE; clear hE
    exact ⟨_, by omega, 8, rfl, by omega, hF, hO⟩
  · replace hF : Fr 549 [] [(1, sv b8 8 8), (2, iv 8)] a := hF
    refine W_seq ?_
    refine W_seq (region_q {} TBok hF (F' := [(1, sv b8 8 8), (2, iv 8), (117, .bool false)]) (rs := []) [1, 2, 117] .nil (by kernel_rfl) fun a w hF hE => ?_)
    replace hO := hO.ext hE; clear hE
    refine (W_false (evOp hF (by kernel_rfl)) ?_)
    refine (W_exit ?_)
    refine W_seq (region_seq ?_)
    refine seq_quiet { md := [(0, 3)] } TBok hF (F' := [(202, .agg #[iv 3, iv 0, iv 0, .bool false])]) (rs := [.raw (Instr.build 52 #[(0, iv 3)]) (.agg #[iv 3, iv 0, iv 0, .bool false])]) [0] [1, 2, 3, 4, 5, 6, 7, 8, 9, 10, 11, 12, 13, 14] [202] (.cons (fun w _ => by kernel_rfl) <| .nil) (by kernel_rfl) fun a w hF hE => ?_
    replace hO := hO.ext hE; clear hE
    refine op_bsl (i := 1) (t := 26) (e := 52) (len := 1) (ps := [(0, .agg #[iv 3, iv 0, iv 0, .bool false])]) (d := 203) (sz := 4) (cs := #[iv 3, iv 0, iv 0, .bool false]) (z := .agg #[iv 0, iv 0, iv 0, .bool false]) hF hO (by kernel_rfl) (by kernel_rfl) (by kernel_rfl) (by kernel_rfl) (by kernel_rfl) fun a w b147 hF hO _ => ?_
    refine seq_quiet { md := [(2, 3)] } TBok hF (F' := [(203, sv b147 1 1), (204, .agg #[iv (-1), iv 0, iv 0, .bool false])]) (rs := [.raw (Instr.build 52 #[(0, iv (-1))]) (.agg #[iv (-1), iv 0, iv 0, .bool false])]) [2] [3, 4, 5, 6, 7, 8, 9, 10, 11, 12, 13, 14] [203, 204] (.cons (fun w _ => by kernel_rfl) <| .nil) (by kernel_rfl) fun a w hF hE => ?_
    replace hO := hO.ext hE; clear hE
    refine op_bsl (i := 3) (t := 26) (e := 52) (len := 1) (ps := [(0, .agg #[iv (-1), iv 0, iv 0, .bool false])]) (d := 205) (sz := 4) (cs := #[iv (-1), iv 0, iv 0, .bool false]) (z := .agg #[iv 0, iv 0, iv 0, .bool false]) hF hO (by kernel_rfl) (by kernel_rfl) (by kernel_rfl) (by kernel_rfl) (by kernel_rfl) fun a w b148 hF hO _ => ?_
    refine seq_quiet { md := [(4, 3)] } TBok hF (F' := [(203, sv b147 1 1), (205, sv b148 1 1), (206, .agg #[iv 0, iv 4, iv 0, .bool false])]) (rs := [.raw (Instr.build 52 #[(1, iv 4)]) (.agg #[iv 0, iv 4, iv 0, .bool false])]) [4] [5, 6, 7, 8, 9, 10, 11, 12, 13, 14] [203, 205, 206] (.cons (fun w _ => by kernel_rfl) <| .nil) (by kernel_rfl) fun a w hF hE => ?_
    replace hO := hO.ext hE; clear hE
    refine op_bsl (i := 5) (t := 26) (e := 52) (len := 1) (ps := [(0, .agg #[iv 0, iv 4, iv 0, .bool false])]) (d := 207) (sz := 4) (cs := #[iv 0, iv 4, iv 0, .bool false]) (z := .agg #[iv 0, iv 0, iv 0, .bool false]) hF hO (by kernel_rfl) (by kernel_rfl) (by kernel_rfl) (by kernel_rfl) (by kernel_rfl) fun a w b149 hF hO _ => ?_
    refine seq_quiet { md := [(6, 3)] } TBok hF (F' := [(203, sv b147 1 1), (205, sv b148 1 1), (207, sv b149 1 1), (208, .agg #[iv 0, iv (-1), iv 0, .bool false])]) (rs := [.raw (Instr.build 52 #[(1, iv (-1))]) (.agg #[iv 0, iv (-1), iv 0, .bool false])]) [6] [7, 8, 9, 10, 11, 12, 13, 14] [203, 205, 207, 208] (.cons (fun w _ => by kernel_rfl) <| .nil) (by kernel_rfl) fun a w hF hE => ?_
    replace hO := hO.ext hE; clear hE
    refine op_bsl (i := 7) (t := 26) (e := 52) (len := 1) (ps := [(0, .agg #[iv 0, iv (-1), iv 0, .bool false])]) (d := 209) (sz := 4) (cs := #[iv 0, iv (-1), iv 0, .bool false]) (z := .agg #[iv 0, iv 0, iv 0, .bool false]) hF hO (by kernel_rfl) (by kernel_rfl) (by kernel_rfl) (by kernel_rfl) (by kernel_rfl) fun a w b150 hF hO _ => ?_
    replace hO : Own w0 none_ [cel b1 #[iv 1, iv 0, iv 0, iv 0] 70, cel b2 #[iv 1, iv 0, iv 0, iv 0] 70, cel b3 #[iv 1, iv 0, iv 0, iv 0] 70, cel b4 #[iv 1, iv 0, iv 0, iv 0] 70, cel b5 #[iv 3, iv 0, iv 0, iv 0] 70, cel b6 #[iv 1, iv 0, iv 0, iv 0] 70, cel b7 #[iv 1, iv 0, iv 0, iv 0] 70, cel b8 (seas8 b1 b2 b3 b4 b5 b6 b7 b9 b10).toArray 25, cel b9 #[iv 4] 3, cel b10 #[iv 1, iv 1] 3, cel b147 #[iv 3, iv 0, iv 0, .bool false] 52, cel b148 #[iv (-1), iv 0, iv 0, .bool false] 52, cel b149 #[iv 0, iv 4, iv 0, .bool false] 52, cel b150 #[iv 0, iv (-1), iv 0, .bool false] 52] w := hO
    refine seq_quiet { md := [(8, 3)] } TBok hF (F' := [(203, sv b147 1 1), (205, sv b148 1 1), (207, sv b149 1 1), (209, sv b150 1 1), (210, .agg #[iv 0, iv 0, iv 10, .bool false])]) (rs := [.raw (Instr.build 52 #[(2, iv 10)]) (.agg #[iv 0, iv 0, iv 10, .bool false])]) [8] [9, 10, 11, 12, 13, 14] [203, 205, 207, 209, 210] (.cons (fun w _ => by kernel_rfl) <| .nil) (by kernel_rfl) fun a w hF hE => ?_
    replace hO := hO.ext hE; clear hE
    refine op_bsl (i := 9) (t := 26) (e := 52) (len := 1) (ps := [(0, .agg #[iv 0, iv 0, iv 10, .bool false])]) (d := 211) (sz := 4) (cs := #[iv 0, iv 0, iv 10, .bool false]) (z := .agg #[iv 0, iv 0, iv 0, .bool false]) hF hO (by kernel_rfl) (by kernel_rfl) (by kernel_rfl) (by kernel_rfl) (by kernel_rfl) fun a w b151 hF hO _ => ?_
    refine seq_quiet { md := [(10, 3)] } TBok hF (F' := [(203, sv b147 1 1), (205, sv b148 1 1), (207, sv b149 1 1), (209, sv b150 1 1), (211, sv b151 1 1), (212, .agg #[iv 0, iv 0, iv (-1), .bool false])]) (rs := [.raw (Instr.build 52 #[(2, iv (-1))]) (.agg #[iv 0, iv 0, iv (-1), .bool false])]) [10] [11, 12, 13, 14] [203, 205, 207, 209, 211, 212] (.cons (fun w _ => by kernel_rfl) <| .nil) (by kernel_rfl) fun a w hF hE => ?_
    replace hO := hO.ext hE; clear hE
    refine op_bsl (i := 11) (t := 26) (e := 52) (len := 1) (ps := [(0, .agg #[iv 0, iv 0, iv (-1), .bool false])]) (d := 213) (sz := 4) (cs := #[iv 0, iv 0, iv (-1), .bool false]) (z := .agg #[iv 0, iv 0, iv 0, .bool false]) hF hO (by kernel_rfl) (by kernel_rfl) (by kernel_rfl) (by kernel_rfl) (by kernel_rfl) fun a w b152 hF hO _ => ?_
    refine op_mslL (k := 12) (t := 26) (e := 52) (N := 25) (sz := 4) (z := .agg #[iv 0, iv 0, iv 0, .bool false]) (d := 214) (cs := zrpC.toArray) rfl hF hO (by kernel_rfl) (by kernel_rfl) (by kernel_rfl) (by kernel_rfl) (by decide) (by kernel_rfl) fun a w b153 hF hO _ => ?_
    refine op_bsl (i := 13) (t := 73) (e := 26) (len := 7) (ps := [(0, sv b147 1 1), (1, sv b148 1 1), (2, sv b149 1 1), (3, sv b150 1 1), (4, sv b151 1 1), (5, sv b152 1 1), (6, sv b153 25 25)]) (d := 215) (sz := 1) (cs := #[sv b147 1 1, sv b148 1 1, sv b149 1 1, sv b150 1 1, sv b151 1 1, sv b152 1 1, sv b153 25 25]) (z := nl) hF hO (by kernel_rfl) (by kernel_rfl) (by kernel_rfl) (by kernel_rfl) (by kernel_rfl) fun a w b154 hF hO _ => ?_
    replace hO : Own w0 none_ [cel b1 #[iv 1, iv 0, iv 0, iv 0] 70, cel b2 #[iv 1, iv 0, iv 0, iv 0] 70, cel b3 #[iv 1, iv 0, iv 0, iv 0] 70, cel b4 #[iv 1, iv 0, iv 0, iv 0] 70, cel b5 #[iv 3, iv 0, iv 0, iv 0] 70, cel b6 #[iv 1, iv 0, iv 0, iv 0] 70, cel b7 #[iv 1, iv 0, iv 0, iv 0] 70, cel b8 (seas8 b1 b2 b3 b4 b5 b6 b7 b9 b10).toArray 25, cel b9 #[iv 4] 3, cel b10 #[iv 1, iv 1] 3, cel b147 #[iv 3, iv 0, iv 0, .bool false] 52, cel b148 #[iv (-1), iv 0, iv 0, .bool false] 52, cel b149 #[iv 0, iv 4, iv 0, .bool false] 52, cel b150 #[iv 0, iv (-1), iv 0, .bool false] 52, cel b151 #[iv 0, iv 0, iv 10, .bool false] 52, cel b152 #[iv 0, iv 0, iv (-1), .bool false] 52, cel b153 zrpC.toArray 52, cel b154 #[sv b147 1 1, sv b148 1 1, sv b149 1 1, sv b150 1 1, sv b151 1 1, sv b152 1 1, sv b153 25 25] 26] w := hO
    refine seq_quiet {} TBok hF (F' := [(18, sv b154 7 7)]) (rs := []) [14] [] [18] .nil (by kernel_rfl) fun a w hF hE => ?_
    replace hO := hO.ext hE; clear hE
    refine W_seq ?_
    replace hO := hO.drop1 7
    replace hO := hO.drop1 6
    replace hO := hO.drop1 5
    replace hO := hO.drop1 4
    replace hO : Own w0 none_ [cel b1 #[iv 1, iv 0, iv 0, iv 0] 70, cel b2 #[iv 1, iv 0, iv 0, iv 0] 70, cel b3 #[iv 1, iv 0, iv 0, iv 0] 70, cel b4 #[iv 1, iv 0, iv 0, iv 0] 70, cel b9 #[iv 4] 3, cel b10 #[iv 1, iv 1] 3, cel b147 #[iv 3, iv 0, iv 0, .bool false] 52, cel b148 #[iv (-1), iv 0, iv 0, .bool false] 52, cel b149 #[iv 0, iv 4, iv 0, .bool false] 52, cel b150 #[iv 0, iv (-1), iv 0, .bool false] 52, cel b151 #[iv 0, iv 0, iv 10, .bool false] 52, cel b152 #[iv 0, iv 0, iv (-1), .bool false] 52, cel b153 zrpC.toArray 52, cel b154 #[sv b147 1 1, sv b148 1 1, sv b149 1 1, sv b150 1 1, sv b151 1 1, sv b152 1 1, sv b153 25 25] 26] w := hO
    replace hO := hO.drop1 3
    replace hO := hO.drop1 2
    replace hO := hO.drop1 1
    replace hO := hO.drop1 0
    replace hO : Own w0 none_ [cel b9 #[iv 4] 3, cel b10 #[iv 1, iv 1] 3, cel b147 #[iv 3, iv 0, iv 0, .bool false] 52, cel b148 #[iv (-1), iv 0, iv 0, .bool false] 52, cel b149 #[iv 0, iv 4, iv 0, .bool false] 52, cel b150 #[iv 0, iv (-1), iv 0, .bool false] 52, cel b151 #[iv 0, iv 0, iv 10, .bool false] 52, cel b152 #[iv 0, iv 0, iv (-1), .bool false] 52, cel b153 zrpC.toArray 52, cel b154 #[sv b147 1 1, sv b148 1 1, sv b149 1 1, sv b150 1 1, sv b151 1 1, sv b152 1 1, sv b153 25 25] 26] w := hO
    replace hO := hO.drop1 1
    replace hO := hO.drop1 0
    refine W_seq (region_q {} TBok hF (F' := [(18, sv b154 7 7), (19, iv 0)]) (rs := []) [18, 19] .nil (by kernel_rfl) fun a w hF hE => ?_)
    replace hO := hO.ext hE; clear hE
    refine (W_block ?_)
    refine (W_loop (fun m a w => ∃ (i : Nat), m = 7 - i ∧ i ≤ 7 ∧ Fr 549 [] [(18, sv b154 7 7), (19, iv (i : Int))] a ∧ Own w0 none_ [cel b147 #[iv 3, iv 0, iv 0, .bool false] 52, cel b148 #[iv (-1), iv 0, iv 0, .bool false] 52, cel b149 #[iv 0, iv 4, iv 0, .bool false] 52, cel b150 #[iv 0, iv (-1), iv 0, .bool false] 52, cel b151 #[iv 0, iv 0, iv 10, .bool false] 52, cel b152 #[iv 0, iv 0, iv (-1), .bool false] 52, cel b153 zrpC.toArray 52, cel b154 #[sv b147 1 1, sv b148 1 1, sv b149 1 1, sv b150 1 1, sv b151 1 1, sv b152 1 1, sv b153 25 25] 26] w) _ ⟨0, rfl, by omega, hF, hO⟩ ?_)
    clear hF hO
    rintro _ a w ⟨i, rfl, hi, hF, hO⟩
    obtain rfl | rfl | rfl | rfl | rfl | rfl | rfl | rfl : i = 0 ∨ i = 1 ∨ i = 2 ∨ i = 3 ∨ i = 4 ∨ i = 5 ∨ i = 6 ∨ i = 7 := by omega
    · replace hF : Fr 549 [] [(18, sv b154 7 7), (19, iv 0)] a := hF
      refine W_seq ?_
      refine W_seq (region_q {} TBok hF (F' := [(18, sv b154 7 7), (19, iv 0), (219, .bool true)]) (rs := []) [18, 19, 219] .nil (by kernel_rfl) fun a w hF hE => ?_)
      replace hO := hO.ext hE; clear hE
      refine (W_true (evOp hF (by kernel_rfl)) ?_)
      refine (W_skip ?_)
      refine W_seq (W_block ?_)
      refine W_seq (draw_start (R := none_) mixed [] 13 (by kernel_rfl) fun w hS => ?_)
      replace hO := hO.ext hS
      refine draw_q {} TBok hF hS (F' := [(18, sv b154 7 7), (19, iv 0), (227, sv b147 1 1)]) (rs := [.idx (some ⟨b154, 0, none⟩) 7 0 1 ⟨b154, 0, none⟩, .ld ⟨b154, 0, none⟩ (sv b147 1 1)]) [1, 2, 3, 4] 13 9 (by kernel_rfl) #[false, true, true, true, true, false, false, false, false, false, false, false, false] [18, 19, 227] (.cons (ixa (by decide) (by decide)) <| .cons (ldo hO.st 7 rfl 0 rfl) <| .nil) (by kernel_rfl) (by kernel_rfl) fun a hF => ?_
      replace hS := Kp.refl none_ w
      refine any_pick (rs := [0]) (by kernel_rfl) (by simp) fun w hE => all1 ?_
      replace hO := hO.ext hE; replace hS := hS.trans (Ext.kp hE)
      refine op_call (i := 0) (f := 45) (args := #[]) (d := some 223) TBok (by kernel_rfl) hF (by kernel_rfl) (row_calls3 _) fun e w hR => ?_
      obtain ⟨b155, he, hO2⟩ := hR
      refine ⟨_, he, fun a hF => ⟨.inr (hS.trans (Ext.kp hO2.kp)), ?_⟩⟩
      replace hS := hS.trans (Ext.kp hO2.kp)
      replace hO := hO.joinE hO2; clear hO2 he
      refine draw_q {} TBok hF hS (F' := [(18, sv b154 7 7), (19, iv 0), (22, iv 11)]) (rs := [.call 16 #[rw4 b155, sv b147 1 1, nl] (.tuple #[iv 0, .bool false, iv 11])]) [5, 6, 7, 8, 9, 10, 11, 12] 8 0 (by kernel_rfl) #[true, true, true, true, true, true, true, true, true, true, true, true, true] [18, 19, 22] (.cons (fun w hE => calls_cast (IsTrack_calls sa8 (vb b155) [⟨3, 0, 0, false⟩] (some ⟨b147, 0, none⟩) 1 1 ([] : List Int) none 0 0 w (R4 (hO.st w hE) 8 rfl) (rd_cel (enc := encRp) (ys := [⟨3, 0, 0, false⟩]) (rest := []) (fun _ => rfl) (hO.st w hE) 0 rfl rfl rfl (by decide)) (rd_nil _ _ _)) (by kernel_rfl)) <| .nil) (by kernel_rfl) (by kernel_rfl) fun a hF => ?_
      replace hS := Kp.refl none_ w
      refine any_done (by kernel_rfl) (fun w hE => ?_) _
      replace hO := hO.ext hE
      replace hF := hF.sel [18, 19, 22]
      replace hF : Fr 549 [] [(18, sv b154 7 7), (19, iv 0), (22, iv 11)] a := hF
      replace hO := hO.drop1 8
      replace hO : Own w0 none_ [cel b147 #[iv 3, iv 0, iv 0, .bool false] 52, cel b148 #[iv (-1), iv 0, iv 0, .bool false] 52, cel b149 #[iv 0, iv 4, iv 0, .bool false] 52, cel b150 #[iv 0, iv (-1), iv 0, .bool false] 52, cel b151 #[iv 0, iv 0, iv 10, .bool false] 52, cel b152 #[iv 0, iv 0, iv (-1), .bool false] 52, cel b153 zrpC.toArray 52, cel b154 #[sv b147 1 1, sv b148 1 1, sv b149 1 1, sv b150 1 1, sv b151 1 1, sv b152 1 1, sv b153 25 25] 26] w := hO
      refine W_seq (draw_start (R := none_) mixed [] 13 (by kernel_rfl) fun w hS => ?_)
      replace hO := hO.ext hS
      refine draw_q {} TBok hF hS (F' := [(18, sv b154 7 7), (19, iv 0), (22, iv 11), (237, sv b147 1 1)]) (rs := [.idx (some ⟨b154, 0, none⟩) 7 0 1 ⟨b154, 0, none⟩, .ld ⟨b154, 0, none⟩ (sv b147 1 1)]) [1, 2, 3, 4] 13 9 (by kernel_rfl) #[false, true, true, true, true, false, false, false, false, false, false, false, false] [18, 19, 22, 237] (.cons (ixa (by decide) (by decide)) <| .cons (ldo hO.st 7 rfl 0 rfl) <| .nil) (by kernel_rfl) (by kernel_rfl) fun a hF => ?_
      replace hS := Kp.refl none_ w
      refine any_pick (rs := [0]) (by kernel_rfl) (by simp) fun w hE => all1 ?_
      replace hO := hO.ext hE; replace hS := hS.trans (Ext.kp hE)
      refine op_call (i := 0) (f := 45) (args := #[]) (d := some 233) TBok (by kernel_rfl) hF (by kernel_rfl) (row_calls3 _) fun e w hR => ?_
      obtain ⟨b156, he, hO2⟩ := hR
      refine ⟨_, he, fun a hF => ⟨.inr (hS.trans (Ext.kp hO2.kp)), ?_⟩⟩
      replace hS := hS.trans (Ext.kp hO2.kp)
      replace hO := hO.joinE hO2; clear hO2 he
      refine any_pick (rs := [5]) (by kernel_rfl) (by simp) fun w hE => all1 ?_
      replace hO := hO.ext hE; replace hS := hS.trans (Ext.kp hE)
      refine op_call (i := 5) (f := 20) (args := #[rw4 b156, sv b147 1 1]) (d := some 238) TBok (by kernel_rfl) hF (by kernel_rfl) (Least_calls sa8 (vb b156) [⟨3, 0, 0, false⟩] (some ⟨b147, 0, none⟩) 1 1 _ (R4 hO 8 rfl) (rd_cel (enc := encRp) (ys := [⟨3, 0, 0, false⟩]) (rest := []) (fun _ => rfl) hO 0 rfl rfl rfl (by decide))) fun e w hR => ?_
      obtain ⟨p157, n158, c159, hn160, he, hO2⟩ := hR
      replace he : e = .returned (.tuple #[iv 0, .slice p157 n158 c159, iv 11]) := he.trans (congrArg Ending.returned (by kernel_rfl))
      refine ⟨_, he, fun a hF => ⟨.inr (hS.trans (Ext.kp hO2.kp)), ?_⟩⟩
      replace hS := hS.trans (Ext.kp hO2.kp)
      replace hO := hO.joinE hO2; clear hO2 he
      refine draw_q0 {} TBok hF hS (F' := [(18, sv b154 7 7), (19, iv 0), (22, iv 11), (25, iv 11)]) [6, 7, 8, 9, 10, 11, 12] 7 0 (by kernel_rfl) #[true, true, true, true, true, true, true, true, true, true, true, true, true] [18, 19, 22, 25] (by kernel_rfl) (by kernel_rfl) fun a hF => ?_
      refine any_done (by kernel_rfl) (fun w hE => ?_) _
      replace hO := hO.ext hE
      replace hF := hF.sel [18, 19, 22, 25]
      replace hF : Fr 549 [] [(18, sv b154 7 7), (19, iv 0), (22, iv 11), (25, iv 11)] a := hF
      replace hO := hO.drop1 9
      replace hO := hO.drop1 8
      replace hO : Own w0 none_ [cel b147 #[iv 3, iv 0, iv 0, .bool false] 52, cel b148 #[iv (-1), iv 0, iv 0, .bool false] 52, cel b149 #[iv 0, iv 4, iv 0, .bool false] 52, cel b150 #[iv 0, iv (-1), iv 0, .bool false] 52, cel b151 #[iv 0, iv 0, iv 10, .bool false] 52, cel b152 #[iv 0, iv 0, iv (-1), .bool false] 52, cel b153 zrpC.toArray 52, cel b154 #[sv b147 1 1, sv b148 1 1, sv b149 1 1, sv b150 1 1, sv b151 1 1, sv b152 1 1, sv b153 25 25] 26] w := hO
      refine W_seq (draw_start (R := none_) mixed [] 11 (by kernel_rfl) fun w hS => ?_)
      replace hO := hO.ext hS
      refine draw_q {} TBok hF hS (F' := [(18, sv b154 7 7), (19, iv 0), (22, iv 11), (25, iv 11), (247, sv b147 1 1)]) (rs := [.idx (some ⟨b154, 0, none⟩) 7 0 1 ⟨b154, 0, none⟩, .ld ⟨b154, 0, none⟩ (sv b147 1 1)]) [1, 2, 3, 4] 11 7 (by kernel_rfl) #[false, true, true, true, true, false, false, false, false, false, false] [18, 19, 22, 25, 247] (.cons (ixa (by decide) (by decide)) <| .cons (ldo hO.st 7 rfl 0 rfl) <| .nil) (by kernel_rfl) (by kernel_rfl) fun a hF => ?_
      replace hS := Kp.refl none_ w
      refine any_pick (rs := [0]) (by kernel_rfl) (by simp) fun w hE => all1 ?_
      replace hO := hO.ext hE; replace hS := hS.trans (Ext.kp hE)
      refine op_call (i := 0) (f := 45) (args := #[]) (d := some 243) TBok (by kernel_rfl) hF (by kernel_rfl) (row_calls3 _) fun e w hR => ?_
      obtain ⟨b161, he, hO2⟩ := hR
      refine ⟨_, he, fun a hF => ⟨.inr (hS.trans (Ext.kp hO2.kp)), ?_⟩⟩
      replace hS := hS.trans (Ext.kp hO2.kp)
      replace hO := hO.joinE hO2; clear hO2 he
      refine any_pick (rs := [5]) (by kernel_rfl) (by simp) fun w hE => all1 ?_
      replace hO := hO.ext hE; replace hS := hS.trans (Ext.kp hE)
      refine op_call (i := 5) (f := 24) (args := #[rw4 b161, sv b147 1 1, iv (-1), iv 0]) (d := some 248) TBok (by kernel_rfl) hF (by kernel_rfl) (Can_calls sa8 (vb b161) [⟨3, 0, 0, false⟩] (some ⟨b147, 0, none⟩) 1 1 (-1) 0 _ (R4 hO 8 rfl) (rd_cel (enc := encRp) (ys := [⟨3, 0, 0, false⟩]) (rest := []) (fun _ => rfl) hO 0 rfl rfl rfl (by decide))) fun e w hR => ?_
      obtain ⟨p162, n163, c164, hn165, he, hO2⟩ := hR
      replace he : e = .returned (.tuple #[.slice p162 n163 c164, iv 11]) := he.trans (congrArg Ending.returned (by kernel_rfl))
      refine ⟨_, he, fun a hF => ⟨.inr (hS.trans (Ext.kp hO2.kp)), ?_⟩⟩
      replace hS := hS.trans (Ext.kp hO2.kp)
      replace hO := hO.joinE hO2; clear hO2 he
      refine draw_q0 {} TBok hF hS (F' := [(18, sv b154 7 7), (19, iv 0), (22, iv 11), (25, iv 11), (27, iv 11)]) [6, 7, 8, 9, 10] 5 0 (by kernel_rfl) #[true, true, true, true, true, true, true, true, true, true, true] [18, 19, 22, 25, 27] (by kernel_rfl) (by kernel_rfl) fun a hF => ?_
      refine any_done (by kernel_rfl) (fun w hE => ?_) _
      replace hO := hO.ext hE
      replace hF := hF.sel [18, 19, 22, 25, 27]
      replace hF : Fr 549 [] [(18, sv b154 7 7), (19, iv 0), (22, iv 11), (25, iv 11), (27, iv 11)] a := hF
      replace hO := hO.drop1 9
      replace hO := hO.drop1 8
      replace hO : Own w0 none_ [cel b147 #[iv 3, iv 0, iv 0, .bool false] 52, cel b148 #[iv (-1), iv 0, iv 0, .bool false] 52, cel b149 #[iv 0, iv 4, iv 0, .bool false] 52, cel b150 #[iv 0, iv (-1), iv 0, .bool false] 52, cel b151 #[iv 0, iv 0, iv 10, .bool false] 52, cel b152 #[iv 0, iv 0, iv (-1), .bool false] 52, cel b153 zrpC.toArray 52, cel b154 #[sv b147 1 1, sv b148 1 1, sv b149 1 1, sv b150 1 1, sv b151 1 1, sv b152 1 1, sv b153 25 25] 26] w := hO
      refine W_seq (draw_start (R := none_) mixed [] 11 (by kernel_rfl) fun w hS => ?_)
      replace hO := hO.ext hS
      refine draw_q {} TBok hF hS (F' := [(18, sv b154 7 7), (19, iv 0), (22, iv 11), (25, iv 11), (27, iv 11), (256, sv b147 1 1)]) (rs := [.idx (some ⟨b154, 0, none⟩) 7 0 1 ⟨b154, 0, none⟩, .ld ⟨b154, 0, none⟩ (sv b147 1 1)]) [1, 2, 3, 4] 11 7 (by kernel_rfl) #[false, true, true, true, true, false, false, false, false, false, false] [18, 19, 22, 25, 27, 256] (.cons (ixa (by decide) (by decide)) <| .cons (ldo hO.st 7 rfl 0 rfl) <| .nil) (by kernel_rfl) (by kernel_rfl) fun a hF => ?_
      replace hS := Kp.refl none_ w
      refine any_pick (rs := [0]) (by kernel_rfl) (by simp) fun w hE => all1 ?_
      replace hO := hO.ext hE; replace hS := hS.trans (Ext.kp hE)
      refine op_call (i := 0) (f := 45) (args := #[]) (d := some 252) TBok (by kernel_rfl) hF (by kernel_rfl) (row_calls3 _) fun e w hR => ?_
      obtain ⟨b166, he, hO2⟩ := hR
      refine ⟨_, he, fun a hF => ⟨.inr (hS.trans (Ext.kp hO2.kp)), ?_⟩⟩
      replace hS := hS.trans (Ext.kp hO2.kp)
      replace hO := hO.joinE hO2; clear hO2 he
      refine any_pick (rs := [5]) (by kernel_rfl) (by simp) fun w hE => all1 ?_
      replace hO := hO.ext hE; replace hS := hS.trans (Ext.kp hE)
      refine op_call (i := 5) (f := 26) (args := #[rw4 b166, sv b147 1 1]) (d := some 257) TBok (by kernel_rfl) hF (by kernel_rfl) (Liars_calls sa8 (vb b166) [⟨3, 0, 0, false⟩] (some ⟨b147, 0, none⟩) 1 1  _ (R4 hO 8 rfl) (rd_cel (enc := encRp) (ys := [⟨3, 0, 0, false⟩]) (rest := []) (fun _ => rfl) hO 0 rfl rfl rfl (by decide))) fun e w hR => ?_
      obtain ⟨p167, n168, c169, hn170, he, hO2⟩ := hR
      replace he : e = .returned (.tuple #[.slice p167 n168 c169, iv 11]) := he.trans (congrArg Ending.returned (by kernel_rfl))
      refine ⟨_, he, fun a hF => ⟨.inr (hS.trans (Ext.kp hO2.kp)), ?_⟩⟩
      replace hS := hS.trans (Ext.kp hO2.kp)
      replace hO := hO.joinE hO2; clear hO2 he
      refine draw_q0 {} TBok hF hS (F' := [(18, sv b154 7 7), (19, iv 0), (22, iv 11), (25, iv 11), (27, iv 11), (29, iv 11)]) [6, 7, 8, 9, 10] 5 0 (by kernel_rfl) #[true, true, true, true, true, true, true, true, true, true, true] [18, 19, 22, 25, 27, 29] (by kernel_rfl) (by kernel_rfl) fun a hF => ?_
      refine any_done (by kernel_rfl) (fun w hE => ?_) _
      replace hO := hO.ext hE
      replace hF := hF.sel [18, 19, 22, 25, 27, 29]
      replace hF : Fr 549 [] [(18, sv b154 7 7), (19, iv 0), (22, iv 11), (25, iv 11), (27, iv 11), (29, iv 11)] a := hF
      replace hO := hO.drop1 9
      replace hO := hO.drop1 8
      replace hO : Own w0 none_ [cel b147 #[iv 3, iv 0, iv 0, .bool false] 52, cel b148 #[iv (-1), iv 0, iv 0, .bool false] 52, cel b149 #[iv 0, iv 4, iv 0, .bool false] 52, cel b150 #[iv 0, iv (-1), iv 0, .bool false] 52, cel b151 #[iv 0, iv 0, iv 10, .bool false] 52, cel b152 #[iv 0, iv 0, iv (-1), .bool false] 52, cel b153 zrpC.toArray 52, cel b154 #[sv b147 1 1, sv b148 1 1, sv b149 1 1, sv b150 1 1, sv b151 1 1, sv b152 1 1, sv b153 25 25] 26] w := hO
      refine W_seq (draw_start (R := none_) mixed [] 13 (by kernel_rfl) fun w hS => ?_)
      replace hO := hO.ext hS
      refine draw_q {} TBok hF hS (F' := [(18, sv b154 7 7), (19, iv 0), (22, iv 11), (25, iv 11), (27, iv 11), (29, iv 11), (265, sv b147 1 1)]) (rs := [.idx (some ⟨b154, 0, none⟩) 7 0 1 ⟨b154, 0, none⟩, .ld ⟨b154, 0, none⟩ (sv b147 1 1)]) [1, 2, 3, 4] 13 9 (by kernel_rfl) #[false, true, true, true, true, false, false, false, false, false, false, false, false] [18, 19, 22, 25, 27, 29, 265] (.cons (ixa (by decide) (by decide)) <| .cons (ldo hO.st 7 rfl 0 rfl) <| .nil) (by kernel_rfl) (by kernel_rfl) fun a hF => ?_
      replace hS := Kp.refl none_ w
      refine any_pick (rs := [0]) (by kernel_rfl) (by simp) fun w hE => all1 ?_
      replace hO := hO.ext hE; replace hS := hS.trans (Ext.kp hE)
      refine op_call (i := 0) (f := 45) (args := #[]) (d := some 261) TBok (by kernel_rfl) hF (by kernel_rfl) (row_calls3 _) fun e w hR => ?_
      obtain ⟨b171, he, hO2⟩ := hR
      refine ⟨_, he, fun a hF => ⟨.inr (hS.trans (Ext.kp hO2.kp)), ?_⟩⟩
      replace hS := hS.trans (Ext.kp hO2.kp)
      replace hO := hO.joinE hO2; clear hO2 he
      refine draw_q {} TBok hF hS (F' := [(18, sv b154 7 7), (19, iv 0), (22, iv 11), (25, iv 11), (27, iv 11), (29, iv 11), (32, iv 11)]) (rs := [.call 28 #[rw4 b171, sv b147 1 1, iv (-1), iv 0, nl] (.tuple #[iv 0, iv 0, iv 11])]) [5, 6, 7, 8, 9, 10, 11, 12] 8 0 (by kernel_rfl) #[true, true, true, true, true, true, true, true, true, true, true, true, true] [18, 19, 22, 25, 27, 29, 32] (.cons (fun w hE => calls_cast (Next_calls sa8 (vb b171) [⟨3, 0, 0, false⟩] (some ⟨b147, 0, none⟩) 1 1 (-1) 0 ([] : List Cs) none 0 0 w (R4 (hO.st w hE) 8 rfl) (rd_cel (enc := encRp) (ys := [⟨3, 0, 0, false⟩]) (rest := []) (fun _ => rfl) (hO.st w hE) 0 rfl rfl rfl (by decide)) (rd_nil _ _ _) (hci_of (by decide)) (by decide)) (by kernel_rfl)) <| .nil) (by kernel_rfl) (by kernel_rfl) fun a hF => ?_
      replace hS := Kp.refl none_ w
      refine any_done (by kernel_rfl) (fun w hE => ?_) _
      replace hO := hO.ext hE
      replace hF := hF.sel [18, 19, 22, 25, 27, 29, 32]
      replace hF : Fr 549 [] [(18, sv b154 7 7), (19, iv 0), (22, iv 11), (25, iv 11), (27, iv 11), (29, iv 11), (32, iv 11)] a := hF
      replace hO := hO.drop1 8
      refine W_seq (region_q {} TBok hF (F' := [(18, sv b154 7 7), (19, iv 0), (287, .bool false)]) (rs := []) [18, 19, 287] .nil (by kernel_rfl) fun a w hF hE => ?_)
      replace hO := hO.ext hE; clear hE
      refine (W_false (evOp hF (by kernel_rfl)) ?_)
      refine (W_skip ?_)
      refine (region_q {} TBok hF (F' := [(18, sv b154 7 7), (19, iv 1)]) (rs := [.rng 1]) [18, 19] (.cons (rg (by decide)) <| .nil) (by kernel_rfl) fun a w hF hE => ?_)
      replace hO := hO.ext hE; clear hE
      exact ⟨_, by omega, 1, rfl, by omega, hF, hO⟩
    · replace hF : Fr 549 [] [(18, sv b154 7 7), (19, iv 1)] a := hF
      refine W_seq ?_
      refine W_seq (region_q {} TBok hF (F' := [(18, sv b154 7 7), (19, iv 1), (219, .bool true)]) (rs := []) [18, 19, 219] .nil (by kernel_rfl) fun a w hF hE => ?_)
      replace hO := hO.ext hE; clear hE
      refine (W_true (evOp hF (by kernel_rfl)) ?_)
      refine (W_skip ?_)
      refine W_seq (W_block ?_)
      refine W_seq (draw_start (R := none_) mixed [] 13 (by kernel_rfl) fun w hS => ?_)
      replace hO := hO.ext hS
      refine draw_q {} TBok hF hS (F' := [(18, sv b154 7 7), (19, iv 1), (227, sv b148 1 1)]) (rs := [.idx (some ⟨b154, 0, none⟩) 7 1 1 ⟨b154, 1, none⟩, .ld ⟨b154, 1, none⟩ (sv b148 1 1)]) [1, 2, 3, 4] 13 9 (by kernel_rfl) #[false, true, true, true, true, false, false, false, false, false, false, false, false] [18, 19, 227] (.cons (ixa (by decide) (by decide)) <| .cons (ldo hO.st 7 rfl 1 rfl) <| .nil) (by kernel_rfl) (by kernel_rfl) fun a hF => ?_
      replace hS := Kp.refl none_ w
      refine any_pick (rs := [0]) (by kernel_rfl) (by simp) fun w hE => all1 ?_
      replace hO := hO.ext hE; replace hS := hS.trans (Ext.kp hE)
      refine op_call (i := 0) (f := 45) (args := #[]) (d := some 223) TBok (by kernel_rfl) hF (by kernel_rfl) (row_calls3 _) fun e w hR => ?_
      obtain ⟨b172, he, hO2⟩ := hR
      refine ⟨_, he, fun a hF => ⟨.inr (hS.trans (Ext.kp hO2.kp)), ?_⟩⟩
      replace hS := hS.trans (Ext.kp hO2.kp)
      replace hO := hO.joinE hO2; clear hO2 he
      refine draw_q {} TBok hF hS (F' := [(18, sv b154 7 7), (19, iv 1), (22, iv 11)]) (rs := [.call 16 #[rw4 b172, sv b148 1 1, nl] (.tuple #[iv 0, .bool false, iv 11])]) [5, 6, 7, 8, 9, 10, 11, 12] 8 0 (by kernel_rfl) #[true, true, true, true, true, true, true, true, true, true, true, true, true] [18, 19, 22] (.cons (fun w hE => calls_cast (IsTrack_calls sa8 (vb b172) [⟨(-1), 0, 0, false⟩] (some ⟨b148, 0, none⟩) 1 1 ([] : List Int) none 0 0 w (R4 (hO.st w hE) 8 rfl) (rd_cel (enc := encRp) (ys := [⟨(-1), 0, 0, false⟩]) (rest := []) (fun _ => rfl) (hO.st w hE) 1 rfl rfl rfl (by decide)) (rd_nil _ _ _)) (by kernel_rfl)) <| .nil) (by kernel_rfl) (by kernel_rfl) fun a hF => ?_
      replace hS := Kp.refl none_ w
      refine any_done (by kernel_rfl) (fun w hE => ?_) _
      replace hO := hO.ext hE
      replace hF := hF.sel [18, 19, 22]
      replace hF : Fr 549 [] [(18, sv b154 7 7), (19, iv 1), (22, iv 11)] a := hF
      replace hO := hO.drop1 8
      replace hO : Own w0 none_ [cel b147 #[iv 3, iv 0, iv 0, .bool false] 52, cel b148 #[iv (-1), iv 0, iv 0, .bool false] 52, cel b149 #[iv 0, iv 4, iv 0, .bool false] 52, cel b150 #[iv 0, iv (-1), iv 0, .bool false] 52, cel b151 #[iv 0, iv 0, iv 10, .bool false] 52, cel b152 #[iv 0, iv 0, iv (-1), .bool false] 52, cel b153 zrpC.toArray 52, cel b154 #[sv b147 1 1, sv b148 1 1, sv b149 1 1, sv b150 1 1, sv b151 1 1, sv b152 1 1, sv b153 25 25] 26] w := hO
      refine W_seq (draw_start (R := none_) mixed [] 13 (by kernel_rfl) fun w hS => ?_)
      replace hO := hO.ext hS
      refine draw_q {} TBok hF hS (F' := [(18, sv b154 7 7), (19, iv 1), (22, iv 11), (237, sv b148 1 1)]) (rs := [.idx (some ⟨b154, 0, none⟩) 7 1 1 ⟨b154, 1, none⟩, .ld ⟨b154, 1, none⟩ (sv b148 1 1)]) [1, 2, 3, 4] 13 9 (by kernel_rfl) #[false, true, true, true, true, false, false, false, false, false, false, false, false] [18, 19, 22, 237] (.cons (ixa (by decide) (by decide)) <| .cons (ldo hO.st 7 rfl 1 rfl) <| .nil) (by kernel_rfl) (by kernel_rfl) fun a hF => ?_
      replace hS := Kp.refl none_ w
      refine any_pick (rs := [0]) (by kernel_rfl) (by simp) fun w hE => all1 ?_
      replace hO := hO.ext hE; replace hS := hS.trans (Ext.kp hE)
      refine op_call (i := 0) (f := 45) (args := #[]) (d := some 233) TBok (by kernel_rfl) hF (by kernel_rfl) (row_calls3 _) fun e w hR => ?_
      obtain ⟨b173, he, hO2⟩ := hR
      refine ⟨_, he, fun a hF => ⟨.inr (hS.trans (Ext.kp hO2.kp)), ?_⟩⟩
      replace hS := hS.trans (Ext.kp hO2.kp)
      replace hO := hO.joinE hO2; clear hO2 he
      refine any_pick (rs := [5]) (by kernel_rfl) (by simp) fun w hE => all1 ?_
      replace hO := hO.ext hE; replace hS := hS.trans (Ext.kp hE)
      refine op_call (i := 5) (f := 20) (args := #[rw4 b173, sv b148 1 1]) (d := some 238) TBok (by kernel_rfl) hF (by kernel_rfl) (Least_calls sa8 (vb b173) [⟨(-1), 0, 0, false⟩] (some ⟨b148, 0, none⟩) 1 1 _ (R4 hO 8 rfl) (rd_cel (enc := encRp) (ys := [⟨(-1), 0, 0, false⟩]) (rest := []) (fun _ => rfl) hO 1 rfl rfl rfl (by decide))) fun e w hR => ?_
      obtain ⟨p174, n175, c176, hn177, he, hO2⟩ := hR
      replace he : e = .returned (.tuple #[iv 0, .slice p174 n175 c176, iv 11]) := he.trans (congrArg Ending.returned (by kernel_rfl))
      refine ⟨_, he, fun a hF => ⟨.inr (hS.trans (Ext.kp hO2.kp)), ?_⟩⟩
      replace hS := hS.trans (Ext.kp hO2.kp)
      replace hO := hO.joinE hO2; clear hO2 he
      refine draw_q0 {} TBok hF hS (F' := [(18, sv b154 7 7), (19, iv 1), (22, iv 11), (25, iv 11)]) [6, 7, 8, 9, 10, 11, 12] 7 0 (by kernel_rfl) #[true, true, true, true, true, true, true, true, true, true, true, true, true] [18, 19, 22, 25] (by kernel_rfl) (by kernel_rfl) fun a hF => ?_
      refine any_done (by kernel_rfl) (fun w hE => ?_) _
      replace hO := hO.ext hE
      replace hF := hF.sel [18, 19, 22, 25]
      replace hF : Fr 549 [] [(18, sv b154 7 7), (19, iv 1), (22, iv 11), (25, iv 11)] a := hF
      replace hO := hO.drop1 9
      replace hO := hO.drop1 8
      replace hO : Own w0 none_ [cel b147 #[iv 3, iv 0, iv 0, .bool false] 52, cel b148 #[iv (-1), iv 0, iv 0, .bool false] 52, cel b149 #[iv 0, iv 4, iv 0, .bool false] 52, cel b150 #[iv 0, iv (-1), iv 0, .bool false] 52, cel b151 #[iv 0, iv 0, iv 10, .bool false] 52, cel b152 #[iv 0, iv 0, iv (-1), .bool false] 52, cel b153 zrpC.toArray 52, cel b154 #[sv b147 1 1, sv b148 1 1, sv b149 1 1, sv b150 1 1, sv b151 1 1, sv b152 1 1, sv b153 25 25] 26] w := hO
      refine W_seq (draw_start (R := none_) mixed [] 11 (by kernel_rfl) fun w hS => ?_)
      replace hO := hO.ext hS
      refine draw_q {} TBok hF hS (F' := [(18, sv b154 7 7), (19, iv 1), (22, iv 11), (25, iv 11), (247, sv b148 1 1)]) (rs := [.idx (some ⟨b154, 0, none⟩) 7 1 1 ⟨b154, 1, none⟩, .ld ⟨b154, 1, none⟩ (sv b148 1 1)]) [1, 2, 3, 4] 11 7 (by kernel_rfl) #[false, true, true, true, true, false, false, false, false, false, false] [18, 19, 22, 25, 247] (.cons (ixa (by decide) (by decide)) <| .cons (ldo hO.st 7 rfl 1 rfl) <| .nil) (by kernel_rfl) (by kernel_rfl) fun a hF => ?_
      replace hS := Kp.refl none_ w
      refine any_pick (rs := [0]) (by kernel_rfl) (by simp) fun w hE => all1 ?_
      replace hO := hO.ext hE; replace hS := hS.trans (Ext.kp hE)
      refine op_call (i := 0) (f := 45) (args := #[]) (d := some 243) TBok (by kernel_rfl) hF (by kernel_rfl) (row_calls3 _) fun e w hR => ?_
      obtain ⟨b178, he, hO2⟩ := hR
      refine ⟨_, he, fun a hF => ⟨.inr (hS.trans (Ext.kp hO2.kp)), ?_⟩⟩
      replace hS := hS.trans (Ext.kp hO2.kp)
      replace hO := hO.joinE hO2; clear hO2 he
      refine any_pick (rs := [5]) (by kernel_rfl) (by simp) fun w hE => all1 ?_
      replace hO := hO.ext hE; replace hS := hS.trans (Ext.kp hE)
      refine op_call (i := 5) (f := 24) (args := #[rw4 b178, sv b148 1 1, iv (-1), iv 0]) (d := some 248) TBok (by kernel_rfl) hF (by kernel_rfl) (Can_calls sa8 (vb b178) [⟨(-1), 0, 0, false⟩] (some ⟨b148, 0, none⟩) 1 1 (-1) 0 _ (R4 hO 8 rfl) (rd_cel (enc := encRp) (ys := [⟨(-1), 0, 0, false⟩]) (rest := []) (fun _ => rfl) hO 1 rfl rfl rfl (by decide))) fun e w hR => ?_
      obtain ⟨p179, n180, c181, hn182, he, hO2⟩ := hR
      replace he : e = .returned (.tuple #[.slice p179 n180 c181, iv 11]) := he.trans (congrArg Ending.returned (by kernel_rfl))
      refine ⟨_, he, fun a hF => ⟨.inr (hS.trans (Ext.kp hO2.kp)), ?_⟩⟩
      replace hS := hS.trans (Ext.kp hO2.kp)
      replace hO := hO.joinE hO2; clear hO2 he
      refine draw_q0 {} TBok hF hS (F' := [(18, sv b154 7 7), (19, iv 1), (22, iv 11), (25, iv 11), (27, iv 11)]) [6, 7, 8, 9, 10] 5 0 (by kernel_rfl) #[true, true, true, true, true, true, true, true, true, true, true] [18, 19, 22, 25, 27] (by kernel_rfl) (by kernel_rfl) fun a hF => ?_
      refine any_done (by kernel_rfl) (fun w hE => ?_) _
      replace hO := hO.ext hE
      replace hF := hF.sel [18, 19, 22, 25, 27]
      replace hF : Fr 549 [] [(18, sv b154 7 7), (19, iv 1), (22, iv 11), (25, iv 11), (27, iv 11)] a := hF
      replace hO := hO.drop1 9
      replace hO := hO.drop1 8
      replace hO : Own w0 none_ [cel b147 #[iv 3, iv 0, iv 0, .bool false] 52, cel b148 #[iv (-1), iv 0, iv 0, .bool false] 52, cel b149 #[iv 0, iv 4, iv 0, .bool false] 52, cel b150 #[iv 0, iv (-1), iv 0, .bool false] 52, cel b151 #[iv 0, iv 0, iv 10, .bool false] 52, cel b152 #[iv 0, iv 0, iv (-1), .bool false] 52, cel b153 zrpC.toArray 52, cel b154 #[sv b147 1 1, sv b148 1 1, sv b149 1 1, sv b150 1 1, sv b151 1 1, sv b152 1 1, sv b153 25 25] 26] w := hO
      refine W_seq (draw_start (R := none_) mixed [] 11 (by kernel_rfl) fun w hS => ?_)
      replace hO := hO.ext hS
      refine draw_q {} TBok hF hS (F' := [(18, sv b154 7 7), (19, iv 1), (22, iv 11), (25, iv 11), (27, iv 11), (256, sv b148 1 1)]) (rs := [.idx (some ⟨b154, 0, none⟩) 7 1 1 ⟨b154, 1, none⟩, .ld ⟨b154, 1, none⟩ (sv b148 1 1)]) [1, 2, 3, 4] 11 7 (by kernel_rfl) #[false, true, true, true, true, false, false, false, false, false, false] [18, 19, 22, 25, 27, 256] (.cons (ixa (by decide) (by decide)) <| .cons (ldo hO.st 7 rfl 1 rfl) <| .nil) (by kernel_rfl) (by kernel_rfl) fun a hF => ?_
      replace hS := Kp.refl none_ w
      refine any_pick (rs := [0]) (by kernel_rfl) (by simp) fun w hE => all1 ?_
      replace hO := hO.ext hE; replace hS := hS.trans (Ext.kp hE)
      refine op_call (i := 0) (f := 45) (args := #[]) (d := some 252) TBok (by kernel_rfl) hF (by kernel_rfl) (row_calls3 _) fun e w hR => ?_
      obtain ⟨b183, he, hO2⟩ := hR
      refine ⟨_, he, fun a hF => ⟨.inr (hS.trans (Ext.kp hO2.kp)), ?_⟩⟩
      replace hS := hS.trans (Ext.kp hO2.kp)
      replace hO := hO.joinE hO2; clear hO2 he
      refine any_pick (rs := [5]) (by kernel_rfl) (by simp) fun w hE => all1 ?_
      replace hO := hO.ext hE; replace hS := hS.trans (Ext.kp hE)
      refine op_call (i := 5) (f := 26) (args := #[rw4 b183, sv b148 1 1]) (d := some 257) TBok (by kernel_rfl) hF (by kernel_rfl) (Liars_calls sa8 (vb b183) [⟨(-1), 0, 0, false⟩] (some ⟨b148, 0, none⟩) 1 1  _ (R4 hO 8 rfl) (rd_cel (enc := encRp) (ys := [⟨(-1), 0, 0, false⟩]) (rest := []) (fun _ => rfl) hO 1 rfl rfl rfl (by decide))) fun e w hR => ?_
      obtain ⟨p184, n185, c186, hn187, he, hO2⟩ := hR
      replace he : e = .returned (.tuple #[.slice p184 n185 c186, iv 11]) := he.trans (congrArg Ending.returned (by kernel_rfl))
      refine ⟨_, he, fun a hF => ⟨.inr (hS.trans (Ext.kp hO2.kp)), ?_⟩⟩
      replace hS := hS.trans (Ext.kp hO2.kp)
      replace hO := hO.joinE hO2; clear hO2 he
      refine draw_q0 {} TBok hF hS (F' := [(18, sv b154 7 7), (19, iv 1), (22, iv 11), (25, iv 11), (27, iv 11), (29, iv 11)]) [6, 7, 8, 9, 10] 5 0 (by kernel_rfl) #[true, true, true, true, true, true, true, true, true, true, true] [18, 19, 22, 25, 27, 29] (by kernel_rfl) (by kernel_rfl) fun a hF => ?_
      refine any_done (by kernel_rfl) (fun w hE => ?_) _
      replace hO := hO.ext hE
      replace hF := hF.sel [18, 19, 22, 25, 27, 29]
      replace hF : Fr 549 [] [(18, sv b154 7 7), (19, iv 1), (22, iv 11), (25, iv 11), (27, iv 11), (29, iv 11)] a := hF
      replace hO := hO.drop1 9
      replace hO := hO.drop1 8
      replace hO : Own w0 none_ [cel b147 #[iv 3, iv 0, iv 0, .bool false] 52, cel b148 #[iv (-1), iv 0, iv 0, .bool false] 52, cel b149 #[iv 0, iv 4, iv 0, .bool false] 52, cel b150 #[iv 0, iv (-1), iv 0, .bool false] 52, cel b151 #[iv 0, iv 0, iv 10, .bool false] 52, cel b152 #[iv 0, iv 0, iv (-1), .bool false] 52, cel b153 zrpC.toArray 52, cel b154 #[sv b147 1 1, sv b148 1 1, sv b149 1 1, sv b150 1 1, sv b151 1 1, sv b152 1 1, sv b153 25 25] 26] w := hO
      refine W_seq (draw_start (R := none_) mixed [] 13 (by kernel_rfl) fun w hS => ?_)
      replace hO := hO.ext hS
      refine draw_q {} TBok hF hS (F' := [(18, sv b154 7 7), (19, iv 1), (22, iv 11), (25, iv 11), (27, iv 11), (29, iv 11), (265, sv b148 1 1)]) (rs := [.idx (some ⟨b154, 0, none⟩) 7 1 1 ⟨b154, 1, none⟩, .ld ⟨b154, 1, none⟩ (sv b148 1 1)]) [1, 2, 3, 4] 13 9 (by kernel_rfl) #[false, true, true, true, true, false, false, false, false, false, false, false, false] [18, 19, 22, 25, 27, 29, 265] (.cons (ixa (by decide) (by decide)) <| .cons (ldo hO.st 7 rfl 1 rfl) <| .nil) (by kernel_rfl) (by kernel_rfl) fun a hF => ?_
      replace hS := Kp.refl none_ w
      refine any_pick (rs := [0]) (by kernel_rfl) (by simp) fun w hE => all1 ?_
      replace hO := hO.ext hE; replace hS := hS.trans (Ext.kp hE)
      refine op_call (i := 0) (f := 45) (args := #[]) (d := some 261) TBok (by kernel_rfl) hF (by kernel_rfl) (row_calls3 _) fun e w hR => ?_
      obtain ⟨b188, he, hO2⟩ := hR
      refine ⟨_, he, fun a hF => ⟨.inr (hS.trans (Ext.kp hO2.kp)), ?_⟩⟩
      replace hS := hS.trans (Ext.kp hO2.kp)
      replace hO := hO.joinE hO2; clear hO2 he
      refine draw_q {} TBok hF hS (F' := [(18, sv b154 7 7), (19, iv 1), (22, iv 11), (25, iv 11), (27, iv 11), (29, iv 11), (32, iv 11)]) (rs := [.call 28 #[rw4 b188, sv b148 1 1, iv (-1), iv 0, nl] (.tuple #[iv 0, iv 0, iv 11])]) [5, 6, 7, 8, 9, 10, 11, 12] 8 0 (by kernel_rfl) #[true, true, true, true, true, true, true, true, true, true, true, true, true] [18, 19, 22, 25, 27, 29, 32] (.cons (fun w hE => calls_cast (Next_calls sa8 (vb b188) [⟨(-1), 0, 0, false⟩] (some ⟨b148, 0, none⟩) 1 1 (-1) 0 ([] : List Cs) none 0 0 w (R4 (hO.st w hE) 8 rfl) (rd_cel (enc := encRp) (ys := [⟨(-1), 0, 0, false⟩]) (rest := []) (fun _ => rfl) (hO.st w hE) 1 rfl rfl rfl (by decide)) (rd_nil _ _ _) (hci_of (by decide)) (by decide)) (by kernel_rfl)) <| .nil) (by kernel_rfl) (by kernel_rfl) fun a hF => ?_
      replace hS := Kp.refl none_ w
      refine any_done (by kernel_rfl) (fun w hE => ?_) _
      replace hO := hO.ext hE
      replace hF := hF.sel [18, 19, 22, 25, 27, 29, 32]
      replace hF : Fr 549 [] [(18, sv b154 7 7), (19, iv 1), (22, iv 11), (25, iv 11), (27, iv 11), (29, iv 11), (32, iv 11)] a := hF
      replace hO := hO.drop1 8
      refine W_seq (region_q {} TBok hF (F' := [(18, sv b154 7 7), (19, iv 1), (287, .bool false)]) (rs := []) [18, 19, 287] .nil (by kernel_rfl) fun a w hF hE => ?_)
      replace hO := hO.ext hE; clear hE
      refine (W_false (evOp hF (by kernel_rfl)) ?_)
      refine (W_skip ?_)
      refine (region_q {} TBok hF (F' := [(18, sv b154 7 7), (19, iv 2)]) (rs := [.rng 2]) [18, 19] (.cons (rg (by decide)) <| .nil) (by kernel_rfl) fun a w hF hE => ?_)
      replace hO := hO.ext hE; clear hE
      exact ⟨_, by omega, 2, rfl, by omega, hF, hO⟩
    · replace hF : Fr 549 [] [(18, sv b154 7 7), (19, iv 2)] a := hF
      refine W_seq ?_
      refine W_seq (region_q {} TBok hF (F' := [(18, sv b154 7 7), (19, iv 2), (219, .bool true)]) (rs := []) [18, 19, 219] .nil (by kernel_rfl) fun a w hF hE => ?_)
      replace hO := hO.ext hE; clear hE
      refine (W_true (evOp hF (by kernel_rfl)) ?_)
      refine (W_skip ?_)
      refine W_seq (W_block ?_)
      refine W_seq (draw_start (R := none_) mixed [] 13 (by kernel_rfl) fun w hS => ?_)
      replace hO := hO.ext hS
      refine draw_q {} TBok hF hS (F' := [(18, sv b154 7 7), (19, iv 2), (227, sv b149 1 1)]) (rs := [.idx (some ⟨b154, 0, none⟩) 7 2 1 ⟨b154, 2, none⟩, .ld ⟨b154, 2, none⟩ (sv b149 1 1)]) [1, 2, 3, 4] 13 9 (by kernel_rfl) #[false, true, true, true, true, false, false, false, false, false, false, false, false] [18, 19, 227] (.cons (ixa (by decide) (by decide)) <| .cons (ldo hO.st 7 rfl 2 rfl) <| .nil) (by kernel_rfl) (by kernel_rfl) fun a hF => ?_
      replace hS := Kp.refl none_ w
      refine any_pick (rs := [0]) (by kernel_rfl) (by simp) fun w hE => all1 ?_
      replace hO := hO.ext hE; replace hS := hS.trans (Ext.kp hE)
      refine op_call (i := 0) (f := 45) (args := #[]) (d := some 223) TBok (by kernel_rfl) hF (by kernel_rfl) (row_calls3 _) fun e w hR => ?_
      obtain ⟨b189, he, hO2⟩ := hR
      refine ⟨_, he, fun a hF => ⟨.inr (hS.trans (Ext.kp hO2.kp)), ?_⟩⟩
      replace hS := hS.trans (Ext.kp hO2.kp)
      replace hO := hO.joinE hO2; clear hO2 he
      refine draw_q {} TBok hF hS (F' := [(18, sv b154 7 7), (19, iv 2), (22, iv 11)]) (rs := [.call 16 #[rw4 b189, sv b149 1 1, nl] (.tuple #[iv 0, .bool false, iv 11])]) [5, 6, 7, 8, 9, 10, 11, 12] 8 0 (by kernel_rfl) #[true, true, true, true, true, true, true, true, true, true, true, true, true] [18, 19, 22] (.cons (fun w hE => calls_cast (IsTrack_calls sa8 (vb b189) [⟨0, 4, 0, false⟩] (some ⟨b149, 0, none⟩) 1 1 ([] : List Int) none 0 0 w (R4 (hO.st w hE) 8 rfl) (rd_cel (enc := encRp) (ys := [⟨0, 4, 0, false⟩]) (rest := []) (fun _ => rfl) (hO.st w hE) 2 rfl rfl rfl (by decide)) (rd_nil _ _ _)) (by kernel_rfl)) <| .nil) (by kernel_rfl) (by kernel_rfl) fun a hF => ?_
      replace hS := Kp.refl none_ w
      refine any_done (by kernel_rfl) (fun w hE => ?_) _
      replace hO := hO.ext hE
      replace hF := hF.sel [18, 19, 22]
      replace hF : Fr 549 [] [(18, sv b154 7 7), (19, iv 2), (22, iv 11)] a := hF
      replace hO := hO.drop1 8
      replace hO : Own w0 none_ [cel b147 #[iv 3, iv 0, iv 0, .bool false] 52, cel b148 #[iv (-1), iv 0, iv 0, .bool false] 52, cel b149 #[iv 0, iv 4, iv 0, .bool false] 52, cel b150 #[iv 0, iv (-1), iv 0, .bool false] 52, cel b151 #[iv 0, iv 0, iv 10, .bool false] 52, cel b152 #[iv 0, iv 0, iv (-1), .bool false] 52, cel b153 zrpC.toArray 52, cel b154 #[sv b147 1 1, sv b148 1 1, sv b149 1 1, sv b150 1 1, sv b151 1 1, sv b152 1 1, sv b153 25 25] 26] w := hO
      refine W_seq (draw_start (R := none_) mixed [] 13 (by kernel_rfl) fun w hS => ?_)
      replace hO := hO.ext hS
      refine draw_q {} TBok hF hS (F' := [(18, sv b154 7 7), (19, iv 2), (22, iv 11), (237, sv b149 1 1)]) (rs := [.idx (some ⟨b154, 0, none⟩) 7 2 1 ⟨b154, 2, none⟩, .ld ⟨b154, 2, none⟩ (sv b149 1 1)]) [1, 2, 3, 4] 13 9 (by kernel_rfl) #[false, true, true, true, true, false, false, false, false, false, false, false, false] [18, 19, 22, 237] (.cons (ixa (by decide) (by decide)) <| .cons (ldo hO.st 7 rfl 2 rfl) <| .nil) (by kernel_rfl) (by kernel_rfl) fun a hF => ?_
      replace hS := Kp.refl none_ w
      refine any_pick (rs := [0]) (by kernel_rfl) (by simp) fun w hE => all1 ?_
      replace hO := hO.ext hE; replace hS := hS.trans (Ext.kp hE)
      refine op_call (i := 0) (f := 45) (args := #[]) (d := some 233) TBok (by kernel_rfl) hF (by kernel_rfl) (row_calls3 _) fun e w hR => ?_
      obtain ⟨b190, he, hO2⟩ := hR
      refine ⟨_, he, fun a hF => ⟨.inr (hS.trans (Ext.kp hO2.kp)), ?_⟩⟩
      replace hS := hS.trans (Ext.kp hO2.kp)
      replace hO := hO.joinE hO2; clear hO2 he
      refine any_pick (rs := [5]) (by kernel_rfl) (by simp) fun w hE => all1 ?_
      replace hO := hO.ext hE; replace hS := hS.trans (Ext.kp hE)
      refine op_call (i := 5) (f := 20) (args := #[rw4 b190, sv b149 1 1]) (d := some 238) TBok (by kernel_rfl) hF (by kernel_rfl) (Least_calls sa8 (vb b190) [⟨0, 4, 0, false⟩] (some ⟨b149, 0, none⟩) 1 1 _ (R4 hO 8 rfl) (rd_cel (enc := encRp) (ys := [⟨0, 4, 0, false⟩]) (rest := []) (fun _ => rfl) hO 2 rfl rfl rfl (by decide))) fun e w hR => ?_
      obtain ⟨p191, n192, c193, hn194, he, hO2⟩ := hR
      replace he : e = .returned (.tuple #[iv 0, .slice p191 n192 c193, iv 11]) := he.trans (congrArg Ending.returned (by kernel_rfl))
      refine ⟨_, he, fun a hF => ⟨.inr (hS.trans (Ext.kp hO2.kp)), ?_⟩⟩
      replace hS := hS.trans (Ext.kp hO2.kp)
      replace hO := hO.joinE hO2; clear hO2 he
      refine draw_q0 {} TBok hF hS (F' := [(18, sv b154 7 7), (19, iv 2), (22, iv 11), (25, iv 11)]) [6, 7, 8, 9, 10, 11, 12] 7 0 (by kernel_rfl) #[true, true, true, true, true, true, true, true, true, true, true, true, true] [18, 19, 22, 25] (by kernel_rfl) (by kernel_rfl) fun a hF => ?_
      refine any_done (by kernel_rfl) (fun w hE => ?_) _
      replace hO := hO.ext hE
      replace hF := hF.sel [18, 19, 22, 25]
      replace hF : Fr 549 [] [(18, sv b154 7 7), (19, iv 2), (22, iv 11), (25, iv 11)] a := hF
      replace hO := hO.drop1 9
      replace hO := hO.drop1 8
      replace hO : Own w0 none_ [cel b147 #[iv 3, iv 0, iv 0, .bool false] 52, cel b148 #[iv (-1), iv 0, iv 0, .bool false] 52, cel b149 #[iv 0, iv 4, iv 0, .bool false] 52, cel b150 #[iv 0, iv (-1), iv 0, .bool false] 52, cel b151 #[iv 0, iv 0, iv 10, .bool false] 52, cel b152 #[iv 0, iv 0, iv (-1), .bool false] 52, cel b153 zrpC.toArray 52, cel b154 #[sv b147 1 1, sv b148 1 1, sv b149 1 1, sv b150 1 1, sv b151 1 1, sv b152 1 1, sv b153 25 25] 26] w := hO
      refine W_seq (draw_start (R := none_) mixed [] 11 (by kernel_rfl) fun w hS => ?_)
      replace hO := hO.ext hS
      refine draw_q {} TBok hF hS (F' := [(18, sv b154 7 7), (19, iv 2), (22, iv 11), (25, iv 11), (247, sv b149 1 1)]) (rs := [.idx (some ⟨b154, 0, none⟩) 7 2 1 ⟨b154, 2, none⟩, .ld ⟨b154, 2, none⟩ (sv b149 1 1)]) [1, 2, 3, 4] 11 7 (by kernel_rfl) #[false, true, true, true, true, false, false, false, false, false, false] [18, 19, 22, 25, 247] (.cons (ixa (by decide) (by decide)) <| .cons (ldo hO.st 7 rfl 2 rfl) <| .nil) (by kernel_rfl) (by kernel_rfl) fun a hF => ?_
      replace hS := Kp.refl none_ w
      refine any_pick (rs := [0]) (by kernel_rfl) (by simp) fun w hE => all1 ?_
      replace hO := hO.ext hE; replace hS := hS.trans (Ext.kp hE)
      refine op_call (i := 0) (f := 45) (args := #[]) (d := some 243) TBok (by kernel_rfl) hF (by kernel_rfl) (row_calls3 _) fun e w hR => ?_
      obtain ⟨b195, he, hO2⟩ := hR
      refine ⟨_, he, fun a hF => ⟨.inr (hS.trans (Ext.kp hO2.kp)), ?_⟩⟩
      replace hS := hS.trans (Ext.kp hO2.kp)
      replace hO := hO.joinE hO2; clear hO2 he
      refine any_pick (rs := [5]) (by kernel_rfl) (by simp) fun w hE => all1 ?_
      replace hO := hO.ext hE; replace hS := hS.trans (Ext.kp hE)
      refine op_call (i := 5) (f := 24) (args := #[rw4 b195, sv b149 1 1, iv (-1), iv 0]) (d := some 248) TBok (by kernel_rfl) hF (by kernel_rfl) (Can_calls sa8 (vb b195) [⟨0, 4, 0, false⟩] (some ⟨b149, 0, none⟩) 1 1 (-1) 0 _ (R4 hO 8 rfl) (rd_cel (enc := encRp) (ys := [⟨0, 4, 0, false⟩]) (rest := []) (fun _ => rfl) hO 2 rfl rfl rfl (by decide))) fun e w hR => ?_
      obtain ⟨p196, n197, c198, hn199, he, hO2⟩ := hR
      replace he : e = .returned (.tuple #[.slice p196 n197 c198, iv 11]) := he.trans (congrArg Ending.returned (by kernel_rfl))
      refine ⟨_, he, fun a hF => ⟨.inr (hS.trans (Ext.kp hO2.kp)), ?_⟩⟩
      replace hS := hS.trans (Ext.kp hO2.kp)
      replace hO := hO.joinE hO2; clear hO2 he
      refine draw_q0 {} TBok hF hS (F' := [(18, sv b154 7 7), (19, iv 2), (22, iv 11), (25, iv 11), (27, iv 11)]) [6, 7, 8, 9, 10] 5 0 (by kernel_rfl) #[true, true, true, true, true, true, true, true, true, true, true] [18, 19, 22, 25, 27] (by kernel_rfl) (by kernel_rfl) fun a hF => ?_
      refine any_done (by kernel_rfl) (fun w hE => ?_) _
      replace hO := hO.ext hE
      replace hF := hF.sel [18, 19, 22, 25, 27]
      replace hF : Fr 549 [] [(18, sv b154 7 7), (19, iv 2), (22, iv 11), (25, iv 11), (27, iv 11)] a := hF
      replace hO := hO.drop1 9
      replace hO := hO.drop1 8
      replace hO : Own w0 none_ [cel b147 #[iv 3, iv 0, iv 0, .bool false] 52, cel b148 #[iv (-1), iv 0, iv 0, .bool false] 52, cel b149 #[iv 0, iv 4, iv 0, .bool false] 52, cel b150 #[iv 0, iv (-1), iv 0, .bool false] 52, cel b151 #[iv 0, iv 0, iv 10, .bool false] 52, cel b152 #[iv 0, iv 0, iv (-1), .bool false] 52, cel b153 zrpC.toArray 52, cel b154 #[sv b147 1 1, sv b148 1 1, sv b149 1 1, sv b150 1 1, sv b151 1 1, sv b152 1 1, sv b153 25 25] 26] w := hO
      refine W_seq (draw_start (R := none_) mixed [] 11 (by kernel_rfl) fun w hS => ?_)
      replace hO := hO.ext hS
      refine draw_q {} TBok hF hS (F' := [(18, sv b154 7 7), (19, iv 2), (22, iv 11), (25, iv 11), (27, iv 11), (256, sv b149 1 1)]) (rs := [.idx (some ⟨b154, 0, none⟩) 7 2 1 ⟨b154, 2, none⟩, .ld ⟨b154, 2, none⟩ (sv b149 1 1)]) [1, 2, 3, 4] 11 7 (by kernel_rfl) #[false, true, true, true, true, false, false, false, false, false, false] [18, 19, 22, 25, 27, 256] (.cons (ixa (by decide) (by decide)) <| .cons (ldo hO.st 7 rfl 2 rfl) <| .nil) (by kernel_rfl) (by kernel_rfl) fun a hF => ?_
      replace hS := Kp.refl none_ w
      refine any_pick (rs := [0]) (by kernel_rfl) (by simp) fun w hE => all1 ?_
      replace hO := hO.ext hE; replace hS := hS.trans (Ext.kp hE)
      refine op_call (i := 0) (f := 45) (args := #[]) (d := some 252) TBok (by kernel_rfl) hF (by kernel_rfl) (row_calls3 _) fun e w hR => ?_
      obtain ⟨b200, he, hO2⟩ := hR
      refine ⟨_, he, fun a hF => ⟨.inr (hS.trans (Ext.kp hO2.kp)), ?_⟩⟩
      replace hS := hS.trans (Ext.kp hO2.kp)
      replace hO := hO.joinE hO2; clear hO2 he
      refine any_pick (rs := [5]) (by kernel_rfl) (by simp) fun w hE => all1 ?_
      replace hO := hO.ext hE; replace hS := hS.trans (Ext.kp hE)
      refine op_call (i := 5) (f := 26) (args := #[rw4 b200, sv b149 1 1]) (d := some 257) TBok (by kernel_rfl) hF (by kernel_rfl) (Liars_calls sa8 (vb b200) [⟨0, 4, 0, false⟩] (some ⟨b149, 0, none⟩) 1 1  _ (R4 hO 8 rfl) (rd_cel (enc := encRp) (ys := [⟨0, 4, 0, false⟩]) (rest := []) (fun _ => rfl) hO 2 rfl rfl rfl (by decide))) fun e w hR => ?_
      obtain ⟨p201, n202, c203, hn204, he, hO2⟩ := hR
      replace he : e = .returned (.tuple #[.slice p201 n202 c203, iv 11]) := he.trans (congrArg Ending.returned (by kernel_rfl))
      refine ⟨_, he, fun a hF => ⟨.inr (hS.trans (Ext.kp hO2.kp)), ?_⟩⟩
      replace hS := hS.trans (Ext.kp hO2.kp)
      replace hO := hO.joinE hO2; clear hO2 he
      refine draw_q0 {} TBok hF hS (F' := [(18, sv b154 7 7), (19, iv 2), (22, iv 11), (25, iv 11), (27, iv 11), (29, iv 11)]) [6, 7, 8, 9, 10] 5 0 (by kernel_rfl) #[true, true, true, true, true, true, true, true, true, true, true] [18, 19, 22, 25, 27, 29] (by kernel_rfl) (by kernel_rfl) fun a hF => ?_
      refine any_done (by kernel_rfl) (fun w hE => ?_) _
      replace hO := hO.ext hE
      replace hF := hF.sel [18, 19, 22, 25, 27, 29]
      replace hF : Fr 549 [] [(18, sv b154 7 7), (19, iv 2), (22, iv 11), (25, iv 11), (27, iv 11), (29, iv 11)] a := hF
      replace hO := hO.drop1 9
      replace hO := hO.drop1 8
      replace hO : Own w0 none_ [cel b147 #[iv 3, iv 0, iv 0, .bool false] 52, cel b148 #[iv (-1), iv 0, iv 0, .bool false] 52, cel b149 #[iv 0, iv 4, iv 0, .bool false] 52, cel b150 #[iv 0, iv (-1), iv 0, .bool false] 52, cel b151 #[iv 0, iv 0, iv 10, .bool false] 52, cel b152 #[iv 0, iv 0, iv (-1), .bool false] 52, cel b153 zrpC.toArray 52, cel b154 #[sv b147 1 1, sv b148 1 1, sv b149 1 1, sv b150 1 1, sv b151 1 1, sv b152 1 1, sv b153 25 25] 26] w := hO
      refine W_seq (draw_start (R := none_) mixed [] 13 (by kernel_rfl) fun w hS => ?_)
      replace hO := hO.ext hS
      refine draw_q {} TBok hF hS (F' := [(18, sv b154 7 7), (19, iv 2), (22, iv 11), (25, iv 11), (27, iv 11), (29, iv 11), (265, sv b149 1 1)]) (rs := [.idx (some ⟨b154, 0, none⟩) 7 2 1 ⟨b154, 2, none⟩, .ld ⟨b154, 2, none⟩ (sv b149 1 1)]) [1, 2, 3, 4] 13 9 (by kernel_rfl) #[false, true, true, true, true, false, false, false, false, false, false, false, false] [18, 19, 22, 25, 27, 29, 265] (.cons (ixa (by decide) (by decide)) <| .cons (ldo hO.st 7 rfl 2 rfl) <| .nil) (by kernel_rfl) (by kernel_rfl) fun a hF => ?_
      replace hS := Kp.refl none_ w
      refine any_pick (rs := [0]) (by kernel_rfl) (by simp) fun w hE => all1 ?_
      replace hO := hO.ext hE; replace hS := hS.trans (Ext.kp hE)
      refine op_call (i := 0) (f := 45) (args := #[]) (d := some 261) TBok (by kernel_rfl) hF (by kernel_rfl) (row_calls3 _) fun e w hR => ?_
      obtain ⟨b205, he, hO2⟩ := hR
      refine ⟨_, he, fun a hF => ⟨.inr (hS.trans (Ext.kp hO2.kp)), ?_⟩⟩
      replace hS := hS.trans (Ext.kp hO2.kp)
      replace hO := hO.joinE hO2; clear hO2 he
      refine draw_q {} TBok hF hS (F' := [(18, sv b154 7 7), (19, iv 2), (22, iv 11), (25, iv 11), (27, iv 11), (29, iv 11), (32, iv 11)]) (rs := [.call 28 #[rw4 b205, sv b149 1 1, iv (-1), iv 0, nl] (.tuple #[iv 0, iv 0, iv 11])]) [5, 6, 7, 8, 9, 10, 11, 12] 8 0 (by kernel_rfl) #[true, true, true, true, true, true, true, true, true, true, true, true, true] [18, 19, 22, 25, 27, 29, 32] (.cons (fun w hE => calls_cast (Next_calls sa8 (vb b205) [⟨0, 4, 0, false⟩] (some ⟨b149, 0, none⟩) 1 1 (-1) 0 ([] : List Cs) none 0 0 w (R4 (hO.st w hE) 8 rfl) (rd_cel (enc := encRp) (ys := [⟨0, 4, 0, false⟩]) (rest := []) (fun _ => rfl) (hO.st w hE) 2 rfl rfl rfl (by decide)) (rd_nil _ _ _) (hci_of (by decide)) (by decide)) (by kernel_rfl)) <| .nil) (by kernel_rfl) (by kernel_rfl) fun a hF => ?_
      replace hS := Kp.refl none_ w
      refine any_done (by kernel_rfl) (fun w hE => ?_) _
      replace hO := hO.ext hE
      replace hF := hF.sel [18, 19, 22, 25, 27, 29, 32]
      replace hF : Fr 549 [] [(18, sv b154 7 7), (19, iv 2), (22, iv 11), (25, iv 11), (27, iv 11), (29, iv 11), (32, iv 11)] a := hF
      replace hO := hO.drop1 8
      refine W_seq (region_q {} TBok hF (F' := [(18, sv b154 7 7), (19, iv 2), (287, .bool false)]) (rs := []) [18, 19, 287] .nil (by kernel_rfl) fun a w hF hE => ?_)
      replace hO := hO.ext hE; clear hE
      refine (W_false (evOp hF (by kernel_rfl)) ?_)
      refine (W_skip ?_)
      refine (region_q {} TBok hF (F' := [(18, sv b154 7 7), (19, iv 3)]) (rs := [.rng 3]) [18, 19] (.cons (rg (by decide)) <| .nil) (by kernel_rfl) fun a w hF hE => ?_)
      replace hO := hO.ext hE; clear hE
      exact ⟨_, by omega, 3, rfl, by omega, hF, hO⟩
    · replace hF : Fr 549 [] [(18, sv b154 7 7), (19, iv 3)] a := hF
      refine W_seq ?_
      refine W_seq (region_q {} TBok hF (F' := [(18, sv b154 7 7), (19, iv 3), (219, .bool true)]) (rs := []) [18, 19, 219] .nil (by kernel_rfl) fun a w hF hE => ?_)
      replace hO := hO.ext hE; clear hE
      refine (W_true (evOp hF (by kernel_rfl)) ?_)
      refine (W_skip ?_)
      refine W_seq (W_block ?_)
      refine W_seq (draw_start (R := none_) mixed [] 13 (by kernel_rfl) fun w hS => ?_)
      replace hO := hO.ext hS
      refine draw_q {} TBok hF hS (F' := [(18, sv b154 7 7), (19, iv 3), (227, sv b150 1 1)]) (rs := [.idx (some ⟨b154, 0, none⟩) 7 3 1 ⟨b154, 3, none⟩, .ld ⟨b154, 3, none⟩ (sv b150 1 1)]) [1, 2, 3, 4] 13 9 (by kernel_rfl) #[false, true, true, true, true, false, false, false, false, false, false, false, false] [18, 19, 227] (.cons (ixa (by decide) (by decide)) <| .cons (ldo hO.st 7 rfl 3 rfl) <| .nil) (by kernel_rfl) (by kernel_rfl) fun a hF => ?_
      replace hS := Kp.refl none_ w
      refine any_pick (rs := [0]) (by kernel_rfl) (by simp) fun w hE => all1 ?_
      replace hO := hO.ext hE; replace hS := hS.trans (Ext.kp hE)
      refine op_call (i := 0) (f := 45) (args := #[]) (d := some 223) TBok (by kernel_rfl) hF (by kernel_rfl) (row_calls3 _) fun e w hR => ?_
      obtain ⟨b206, he, hO2⟩ := hR
      refine ⟨_, he, fun a hF => ⟨.inr (hS.trans (Ext.kp hO2.kp)), ?_⟩⟩
      replace hS := hS.trans (Ext.kp hO2.kp)
      replace hO := hO.joinE hO2; clear hO2 he
      refine draw_q {} TBok hF hS (F' := [(18, sv b154 7 7), (19, iv 3), (22, iv 11)]) (rs := [.call 16 #[rw4 b206, sv b150 1 1, nl] (.tuple #[iv 0, .bool false, iv 11])]) [5, 6, 7, 8, 9, 10, 11, 12] 8 0 (by kernel_rfl) #[true, true, true, true, true, true, true, true, true, true, true, true, true] [18, 19, 22] (.cons (fun w hE => calls_cast (IsTrack_calls sa8 (vb b206) [⟨0, (-1), 0, false⟩] (some ⟨b150, 0, none⟩) 1 1 ([] : List Int) none 0 0 w (R4 (hO.st w hE) 8 rfl) (rd_cel (enc := encRp) (ys := [⟨0, (-1), 0, false⟩]) (rest := []) (fun _ => rfl) (hO.st w hE) 3 rfl rfl rfl (by decide)) (rd_nil _ _ _)) (by kernel_rfl)) <| .nil) (by kernel_rfl) (by kernel_rfl) fun a hF => ?_
      replace hS := Kp.refl none_ w
      refine any_done (by kernel_rfl) (fun w hE => ?_) _
      replace hO := hO.ext hE
      replace hF := hF.sel [18, 19, 22]
      replace hF : Fr 549 [] [(18, sv b154 7 7), (19, iv 3), (22, iv 11)] a := hF
      replace hO := hO.drop1 8
      replace hO : Own w0 none_ [cel b147 #[iv 3, iv 0, iv 0, .bool false] 52, cel b148 #[iv (-1), iv 0, iv 0, .bool false] 52, cel b149 #[iv 0, iv 4, iv 0, .bool false] 52, cel b150 #[iv 0, iv (-1), iv 0, .bool false] 52, cel b151 #[iv 0, iv 0, iv 10, .bool false] 52, cel b152 #[iv 0, iv 0, iv (-1), .bool false] 52, cel b153 zrpC.toArray 52, cel b154 #[sv b147 1 1, sv b148 1 1, sv b149 1 1, sv b150 1 1, sv b151 1 1, sv b152 1 1, sv b153 25 25] 26] w := hO
      refine W_seq (draw_start (R := none_) mixed [] 13 (by kernel_rfl) fun w hS => ?_)
      replace hO := hO.ext hS
      refine draw_q {} TBok hF hS (F' := [(18, sv b154 7 7), (19, iv 3), (22, iv 11), (237, sv b150 1 1)]) (rs := [.idx (some ⟨b154, 0, none⟩) 7 3 1 ⟨b154, 3, none⟩, .ld ⟨b154, 3, none⟩ (sv b150 1 1)]) [1, 2, 3, 4] 13 9 (by kernel_rfl) #[false, true, true, true, true, false, false, false, false, false, false, false, false] [18, 19, 22, 237] (.cons (ixa (by decide) (by decide)) <| .cons (ldo hO.st 7 rfl 3 rfl) <| .nil) (by kernel_rfl) (by kernel_rfl) fun a hF => ?_
      replace hS := Kp.refl none_ w
      refine any_pick (rs := [0]) (by kernel_rfl) (by simp) fun w hE => all1 ?_
      replace hO := hO.ext hE; replace hS := hS.trans (Ext.kp hE)
      refine op_call (i := 0) (f := 45) (args := #[]) (d := some 233) TBok (by kernel_rfl) hF (by kernel_rfl) (row_calls3 _) fun e w hR => ?_
      obtain ⟨b207, he, hO2⟩ := hR
      refine ⟨_, he, fun a hF => ⟨.inr (hS.trans (Ext.kp hO2.kp)), ?_⟩⟩
      replace hS := hS.trans (Ext.kp hO2.kp)
      replace hO := hO.joinE hO2; clear hO2 he
      refine any_pick (rs := [5]) (by kernel_rfl) (by simp) fun w hE => all1 ?_
      replace hO := hO.ext hE; replace hS := hS.trans (Ext.kp hE)
      refine op_call (i := 5) (f := 20) (args := #[rw4 b207, sv b150 1 1]) (d := some 238) TBok (by kernel_rfl) hF (by kernel_rfl) (Least_calls sa8 (vb b207) [⟨0, (-1), 0, false⟩] (some ⟨b150, 0, none⟩) 1 1 _ (R4 hO 8 rfl) (rd_cel (enc := encRp) (ys := [⟨0, (-1), 0, false⟩]) (rest := []) (fun _ => rfl) hO 3 rfl rfl rfl (by decide))) fun e w hR => ?_
      obtain ⟨p208, n209, c210, hn211, he, hO2⟩ := hR
      replace he : e = .returned (.tuple #[iv 0, .slice p208 n209 c210, iv 11]) := he.trans (congrArg Ending.returned (by kernel_rfl))
      refine ⟨_, he, fun a hF => ⟨.inr (hS.trans (Ext.kp hO2.kp)), ?_⟩⟩
      replace hS := hS.trans (Ext.kp hO2.kp)
      replace hO := hO.joinE hO2; clear hO2 he
      refine draw_q0 {} TBok hF hS (F' := [(18, sv b154 7 7), (19, iv 3), (22, iv 11), (25, iv 11)]) [6, 7, 8, 9, 10, 11, 12] 7 0 (by kernel_rfl) #[true, true, true, true, true, true, true, true, true, true, true, true, true] [18, 19, 22, 25] (by kernel_rfl) (by kernel_rfl) fun a hF => ?_
      refine any_done (by kernel_rfl) (fun w hE => ?_) _
      replace hO := hO.ext hE
      replace hF := hF.sel [18, 19, 22, 25]
      replace hF : Fr 549 [] [(18, sv b154 7 7), (19, iv 3), (22, iv 11), (25, iv 11)] a := hF
      replace hO := hO.drop1 9
      replace hO := hO.drop1 8
      replace hO : Own w0 none_ [cel b147 #[iv 3, iv 0, iv 0, .bool false] 52, cel b148 #[iv (-1), iv 0, iv 0, .bool false] 52, cel b149 #[iv 0, iv 4, iv 0, .bool false] 52, cel b150 #[iv 0, iv (-1), iv 0, .bool false] 52, cel b151 #[iv 0, iv 0, iv 10, .bool false] 52, cel b152 #[iv 0, iv 0, iv (-1), .bool false] 52, cel b153 zrpC.toArray 52, cel b154 #[sv b147 1 1, sv b148 1 1, sv b149 1 1, sv b150 1 1, sv b151 1 1, sv b152 1 1, sv b153 25 25] 26] w := hO
      refine W_seq (draw_start (R := none_) mixed [] 11 (by kernel_rfl) fun w hS => ?_)
      replace hO := hO.ext hS
      refine draw_q {} TBok hF hS (F' := [(18, sv b154 7 7), (19, iv 3), (22, iv 11), (25, iv 11), (247, sv b150 1 1)]) (rs := [.idx (some ⟨b154, 0, none⟩) 7 3 1 ⟨b154, 3, none⟩, .ld ⟨b154, 3, none⟩ (sv b150 1 1)]) [1, 2, 3, 4] 11 7 (by kernel_rfl) #[false, true, true, true, true, false, false, false, false, false, false] [18, 19, 22, 25, 247] (.cons (ixa (by decide) (by decide)) <| .cons (ldo hO.st 7 rfl 3 rfl) <| .nil) (by kernel_rfl) (by kernel_rfl) fun a hF => ?_
      replace hS := Kp.refl none_ w
      refine any_pick (rs := [0]) (by kernel_rfl) (by simp) fun w hE => all1 ?_
      replace hO := hO.ext hE; replace hS := hS.trans (Ext.kp hE)
      refine op_call (i := 0) (f := 45) (args := #[]) (d := some 243) TBok (by kernel_rfl) hF (by kernel_rfl) (row_calls3 _) fun e w hR => ?_
      obtain ⟨b212, he, hO2⟩ := hR
      refine ⟨_, he, fun a hF => ⟨.inr (hS.trans (Ext.kp hO2.kp)), ?_⟩⟩
      replace hS := hS.trans (Ext.kp hO2.kp)
      replace hO := hO.joinE hO2; clear hO2 he
      refine any_pick (rs := [5]) (by kernel_rfl) (by simp) fun w hE => all1 ?_
      replace hO := hO.ext hE; replace hS := hS.trans (Ext.kp hE)
      refine op_call (i := 5) (f := 24) (args := #[rw4 b212, sv b150 1 1, iv (-1), iv 0]) (d := some 248) TBok (by kernel_rfl) hF (by kernel_rfl) (Can_calls sa8 (vb b212) [⟨0, (-1), 0, false⟩] (some ⟨b150, 0, none⟩) 1 1 (-1) 0 _ (R4 hO 8 rfl) (rd_cel (enc := encRp) (ys := [⟨0, (-1), 0, false⟩]) (rest := []) (fun _ => rfl) hO 3 rfl rfl rfl (by decide))) fun e w hR => ?_
      obtain ⟨p213, n214, c215, hn216, he, hO2⟩ := hR
      replace he : e = .returned (.tuple #[.slice p213 n214 c215, iv 11]) := he.trans (congrArg Ending.returned (by kernel_rfl))
      refine ⟨_, he, fun a hF => ⟨.inr (hS.trans (Ext.kp hO2.kp)), ?_⟩⟩
      replace hS := hS.trans (Ext.kp hO2.kp)
      replace hO := hO.joinE hO2; clear hO2 he
      refine draw_q0 {} TBok hF hS (F' := [(18, sv b154 7 7), (19, iv 3), (22, iv 11), (25, iv 11), (27, iv 11)]) [6, 7, 8, 9, 10] 5 0 (by kernel_rfl) #[true, true, true, true, true, true, true, true, true, true, true] [18, 19, 22, 25, 27] (by kernel_rfl) (by kernel_rfl) fun a hF => ?_
      refine any_done (by kernel_rfl) (fun w hE => ?_) _
      replace hO := hO.ext hE
      replace hF := hF.sel [18, 19, 22, 25, 27]
      replace hF : Fr 549 [] [(18, sv b154 7 7), (19, iv 3), (22, iv 11), (25, iv 11), (27, iv 11)] a := hF
      replace hO := hO.drop1 9
      replace hO := hO.drop1 8
      replace hO : Own w0 none_ [cel b147 #[iv 3, iv 0, iv 0, .bool false] 52, cel b148 #[iv (-1), iv 0, iv 0, .bool false] 52, cel b149 #[iv 0, iv 4, iv 0, .bool false] 52, cel b150 #[iv 0, iv (-1), iv 0, .bool false] 52, cel b151 #[iv 0, iv 0, iv 10, .bool false] 52, cel b152 #[iv 0, iv 0, iv (-1), .bool false] 52, cel b153 zrpC.toArray 52, cel b154 #[sv b147 1 1, sv b148 1 1, sv b149 1 1, sv b150 1 1, sv b151 1 1, sv b152 1 1, sv b153 25 25] 26] w := hO
      refine W_seq (draw_start (R := none_) mixed [] 11 (by kernel_rfl) fun w hS => ?_)
      replace hO := hO.ext hS
      refine draw_q {} TBok hF hS (F' := [(18, sv b154 7 7), (19, iv 3), (22, iv 11), (25, iv 11), (27, iv 11), (256, sv b150 1 1)]) (rs := [.idx (some ⟨b154, 0, none⟩) 7 3 1 ⟨b154, 3, none⟩, .ld ⟨b154, 3, none⟩ (sv b150 1 1)]) [1, 2, 3, 4] 11 7 (by kernel_rfl) #[false, true, true, true, true, false, false, false, false, false, false] [18, 19, 22, 25, 27, 256] (.cons (ixa (by decide) (by decide)) <| .cons (ldo hO.st 7 rfl 3 rfl) <| .nil) (by kernel_rfl) (by kernel_rfl) fun a hF => ?_
      replace hS := Kp.refl none_ w
      refine any_pick (rs := [0]) (by kernel_rfl) (by simp) fun w hE => all1 ?_
      replace hO := hO.ext hE; replace hS := hS.trans (Ext.kp hE)
      refine op_call (i := 0) (f := 45) (args := #[]) (d := some 252) TBok (by kernel_rfl) hF (by kernel_rfl) (row_calls3 _) fun e w hR => ?_
      obtain ⟨b217, he, hO2⟩ := hR
      refine ⟨_, he, fun a hF => ⟨.inr (hS.trans (Ext.kp hO2.kp)), ?_⟩⟩
      replace hS := hS.trans (Ext.kp hO2.kp)
      replace hO := hO.joinE hO2; clear hO2 he
      refine any_pick (rs := [5]) (by kernel_rfl) (by simp) fun w hE => all1 ?_
      replace hO := hO.ext hE; replace hS := hS.trans (Ext.kp hE)
      refine op_call (i := 5) (f := 26) (args := #[rw4 b217, sv b150 1 1]) (d := some 257) TBok (by kernel_rfl) hF (by kernel_rfl) (Liars_calls sa8 (vb b217) [⟨0, (-1), 0, false⟩] (some ⟨b150, 0, none⟩) 1 1  _ (R4 hO 8 rfl) (rd_cel (enc := encRp) (ys := [⟨0, (-1), 0, false⟩]) (rest := []) (fun _ => rfl) hO 3 rfl rfl rfl (by decide))) fun e w hR => ?_
      obtain ⟨p218, n219, c220, hn221, he, hO2⟩ := hR
      replace he : e = .returned (.tuple #[.slice p218 n219 c220, iv 11]) := he.trans (congrArg Ending.returned (by kernel_rfl))
      refine ⟨_, he, fun a hF => ⟨.inr (hS.trans (Ext.kp hO2.kp)), ?_⟩⟩
      replace hS := hS.trans (Ext.kp hO2.kp)
      replace hO := hO.joinE hO2; clear hO2 he
      refine draw_q0 {} TBok hF hS (F' := [(18, sv b154 7 7), (19, iv 3), (22, iv 11), (25, iv 11), (27, iv 11), (29, iv 11)]) [6, 7, 8, 9, 10] 5 0 (by kernel_rfl) #[true, true, true, true, true, true, true, true, true, true, true] [18, 19, 22, 25, 27, 29] (by kernel_rfl) (by kernel_rfl) fun a hF => ?_
      refine any_done (by kernel_rfl) (fun w hE => ?_) _
      replace hO := hO.ext hE
      replace hF := hF.sel [18, 19, 22, 25, 27, 29]
      replace hF : Fr 549 [] [(18, sv b154 7 7), (19, iv 3), (22, iv 11), (25, iv 11), (27, iv 11), (29, iv 11)] a := hF
      replace hO := hO.drop1 9
      replace hO := hO.drop1 8
      replace hO : Own w0 none_ [cel b147 #[iv 3, iv 0, iv 0, .bool false] 52, cel b148 #[iv (-1), iv 0, iv 0, .bool false] 52, cel b149 #[iv 0, iv 4, iv 0, .bool false] 52, cel b150 #[iv 0, iv (-1), iv 0, .bool false] 52, cel b151 #[iv 0, iv 0, iv 10, .bool false] 52, cel b152 #[iv 0, iv 0, iv (-1), .bool false] 52, cel b153 zrpC.toArray 52, cel b154 #[sv b147 1 1, sv b148 1 1, sv b149 1 1, sv b150 1 1, sv b151 1 1, sv b152 1 1, sv b153 25 25] 26] w := hO
      refine W_seq (draw_start (R := none_) mixed [] 13 (by kernel_rfl) fun w hS => ?_)
      replace hO := hO.ext hS
      refine draw_q {} TBok hF hS (F' := [(18, sv b154 7 7), (19, iv 3), (22, iv 11), (25, iv 11), (27, iv 11), (29, iv 11), (265, sv b150 1 1)]) (rs := [.idx (some ⟨b154, 0, none⟩) 7 3 1 ⟨b154, 3, none⟩, .ld ⟨b154, 3, none⟩ (sv b150 1 1)]) [1, 2, 3, 4] 13 9 (by kernel_rfl) #[false, true, true, true, true, false, false, false, false, false, false, false, false] [18, 19, 22, 25, 27, 29, 265] (.cons (ixa (by decide) (by decide)) <| .cons (ldo hO.st 7 rfl 3 rfl) <| .nil) (by kernel_rfl) (by kernel_rfl) fun a hF => ?_
      replace hS := Kp.refl none_ w
      refine any_pick (rs := [0]) (by kernel_rfl) (by simp) fun w hE => all1 ?_
      replace hO := hO.ext hE; replace hS := hS.trans (Ext.kp hE)
      refine op_call (i := 0) (f := 45) (args := #[]) (d := some 261) TBok (by kernel_rfl) hF (by kernel_rfl) (row_calls3 _) fun e w hR => ?_
      obtain ⟨b222, he, hO2⟩ := hR
      refine ⟨_, he, fun a hF => ⟨.inr (hS.trans (Ext.kp hO2.kp)), ?_⟩⟩
      replace hS := hS.trans (Ext.kp hO2.kp)
      replace hO := hO.joinE hO2; clear hO2 he
      refine draw_q {} TBok hF hS (F' := [(18, sv b154 7 7), (19, iv 3), (22, iv 11), (25, iv 11), (27, iv 11), (29, iv 11), (32, iv 11)]) (rs := [.call 28 #[rw4 b222, sv b150 1 1, iv (-1), iv 0, nl] (.tuple #[iv 0, iv 0, iv 11])]) [5, 6, 7, 8, 9, 10, 11, 12] 8 0 (by kernel_rfl) #[true, true, true, true, true, true, true, true, true, true, true, true, true] [18, 19, 22, 25, 27, 29, 32] (.cons (fun w hE => calls_cast (Next_calls sa8 (vb b222) [⟨0, (-1), 0, false⟩] (some ⟨b150, 0, none⟩) 1 1 (-1) 0 ([] : List Cs) none 0 0 w (R4 (hO.st w hE) 8 rfl) (rd_cel (enc := encRp) (ys := [⟨0, (-1), 0, false⟩]) (rest := []) (fun _ => rfl) (hO.st w hE) 3 rfl rfl rfl (by decide)) (rd_nil _ _ _) (hci_of (by decide)) (by decide)) (by kernel_rfl)) <| .nil) (by kernel_rfl) (by kernel_rfl) fun a hF => ?_
      replace hS := Kp.refl none_ w
      refine any_done (by kernel_rfl) (fun w hE => ?_) _
      replace hO := hO.ext hE
      replace hF := hF.sel [18, 19, 22, 25, 27, 29, 32]
      replace hF : Fr 549 [] [(18, sv b154 7 7), (19, iv 3), (22, iv 11), (25, iv 11), (27, iv 11), (29, iv 11), (32, iv 11)] a := hF
      replace hO := hO.drop1 8
      refine W_seq (region_q {} TBok hF (F' := [(18, sv b154 7 7), (19, iv 3), (287, .bool false)]) (rs := []) [18, 19, 287] .nil (by kernel_rfl) fun a w hF hE => ?_)
      replace hO := hO.ext hE; clear hE
      refine (W_false (evOp hF (by kernel_rfl)) ?_)
      refine (W_skip ?_)
      refine (region_q {} TBok hF (F' := [(18, sv b154 7 7), (19, iv 4)]) (rs := [.rng 4]) [18, 19] (.cons (rg (by decide)) <| .nil) (by kernel_rfl) fun a w hF hE => ?_)
      replace hO := hO.ext hE; clear hE
      exact ⟨_, by omega, 4, rfl, by omega, hF, hO⟩
    · replace hF : Fr 549 [] [(18, sv b154 7 7), (19, iv 4)] a := hF
      refine W_seq ?_
      refine W_seq (region_q {} TBok hF (F' := [(18, sv b154 7 7), (19, iv 4), (219, .bool true)]) (rs := []) [18, 19, 219] .nil (by kernel_rfl) fun a w hF hE => ?_)
      replace hO := hO.ext hE; clear hE
      refine (W_true (evOp hF (by kernel_rfl)) ?_)
      refine (W_skip ?_)
      refine W_seq (W_block ?_)
      refine W_seq (draw_start (R := none_) mixed [] 13 (by kernel_rfl) fun w hS => ?_)
      replace hO := hO.ext hS
      refine draw_q {} TBok hF hS (F' := [(18, sv b154 7 7), (19, iv 4), (227, sv b151 1 1)]) (rs := [.idx (some ⟨b154, 0, none⟩) 7 4 1 ⟨b154, 4, none⟩, .ld ⟨b154, 4, none⟩ (sv b151 1 1)]) [1, 2, 3, 4] 13 9 (by kernel_rfl) #[false, true, true, true, true, false, false, false, false, false, false, false, false] [18, 19, 227] (.cons (ixa (by decide) (by decide)) <| .cons (ldo hO.st 7 rfl 4 rfl) <| .nil) (by kernel_rfl) (by kernel_rfl) fun a hF => ?_
      replace hS := Kp.refl none_ w
      refine any_pick (rs := [0]) (by kernel_rfl) (by simp) fun w hE => all1 ?_
      replace hO := hO.ext hE; replace hS := hS.trans (Ext.kp hE)
      refine op_call (i := 0) (f := 45) (args := #[]) (d := some 223) TBok (by kernel_rfl) hF (by kernel_rfl) (row_calls3 _) fun e w hR => ?_
      obtain ⟨b223, he, hO2⟩ := hR
      refine ⟨_, he, fun a hF => ⟨.inr (hS.trans (Ext.kp hO2.kp)), ?_⟩⟩
      replace hS := hS.trans (Ext.kp hO2.kp)
      replace hO := hO.joinE hO2; clear hO2 he
      refine draw_q {} TBok hF hS (F' := [(18, sv b154 7 7), (19, iv 4), (22, iv 11)]) (rs := [.call 16 #[rw4 b223, sv b151 1 1, nl] (.tuple #[iv 0, .bool false, iv 11])]) [5, 6, 7, 8, 9, 10, 11, 12] 8 0 (by kernel_rfl) #[true, true, true, true, true, true, true, true, true, true, true, true, true] [18, 19, 22] (.cons (fun w hE => calls_cast (IsTrack_calls sa8 (vb b223) [⟨0, 0, 10, false⟩] (some ⟨b151, 0, none⟩) 1 1 ([] : List Int) none 0 0 w (R4 (hO.st w hE) 8 rfl) (rd_cel (enc := encRp) (ys := [⟨0, 0, 10, false⟩]) (rest := []) (fun _ => rfl) (hO.st w hE) 4 rfl rfl rfl (by decide)) (rd_nil _ _ _)) (by kernel_rfl)) <| .nil) (by kernel_rfl) (by kernel_rfl) fun a hF => ?_
      replace hS := Kp.refl none_ w
      refine any_done (by kernel_rfl) (fun w hE => ?_) _
      replace hO := hO.ext hE
      replace hF := hF.sel [18, 19, 22]
      replace hF : Fr 549 [] [(18, sv b154 7 7), (19, iv 4), (22, iv 11)] a := hF
      replace hO := hO.drop1 8
      replace hO : Own w0 none_ [cel b147 #[iv 3, iv 0, iv 0, .bool false] 52, cel b148 #[iv (-1), iv 0, iv 0, .bool false] 52, cel b149 #[iv 0, iv 4, iv 0, .bool false] 52, cel b150 #[iv 0, iv (-1), iv 0, .bool false] 52, cel b151 #[iv 0, iv 0, iv 10, .bool false] 52, cel b152 #[iv 0, iv 0, iv (-1), .bool false] 52, cel b153 zrpC.toArray 52, cel b154 #[sv b147 1 1, sv b148 1 1, sv b149 1 1, sv b150 1 1, sv b151 1 1, sv b152 1 1, sv b153 25 25] 26] w := hO
      refine W_seq (draw_start (R := none_) mixed [] 13 (by kernel_rfl) fun w hS => ?_)
      replace hO := hO.ext hS
      refine draw_q {} TBok hF hS (F' := [(18, sv b154 7 7), (19, iv 4), (22, iv 11), (237, sv b151 1 1)]) (rs := [.idx (some ⟨b154, 0, none⟩) 7 4 1 ⟨b154, 4, none⟩, .ld ⟨b154, 4, none⟩ (sv b151 1 1)]) [1, 2, 3, 4] 13 9 (by kernel_rfl) #[false, true, true, true, true, false, false, false, false, false, false, false, false] [18, 19, 22, 237] (.cons (ixa (by decide) (by decide)) <| .cons (ldo hO.st 7 rfl 4 rfl) <| .nil) (by kernel_rfl) (by kernel_rfl) fun a hF => ?_
      replace hS := Kp.refl none_ w
      refine any_pick (rs := [0]) (by kernel_rfl) (by simp) fun w hE => all1 ?_
      replace hO := hO.ext hE; replace hS := hS.trans (Ext.kp hE)
      refine op_call (i := 0) (f := 45) (args := #[]) (d := some 233) TBok (by kernel_rfl) hF (by kernel_rfl) (row_calls3 _) fun e w hR => ?_
      obtain ⟨b224, he, hO2⟩ := hR
      refine ⟨_, he, fun a hF => ⟨.inr (hS.trans (Ext.kp hO2.kp)), ?_⟩⟩
      replace hS := hS.trans (Ext.kp hO2.kp)
      replace hO := hO.joinE hO2; clear hO2 he
      refine any_pick (rs := [5]) (by kernel_rfl) (by simp) fun w hE => all1 ?_
      replace hO := hO.ext hE; replace hS := hS.trans (Ext.kp hE)
      refine op_call (i := 5) (f := 20) (args := #[rw4 b224, sv b151 1 1]) (d := some 238) TBok (by kernel_rfl) hF (by kernel_rfl) (Least_calls sa8 (vb b224) [⟨0, 0, 10, false⟩] (some ⟨b151, 0, none⟩) 1 1 _ (R4 hO 8 rfl) (rd_cel (enc := encRp) (ys := [⟨0, 0, 10, false⟩]) (rest := []) (fun _ => rfl) hO 4 rfl rfl rfl (by decide))) fun e w hR => ?_
      obtain ⟨p225, n226, c227, hn228, he, hO2⟩ := hR
      replace he : e = .returned (.tuple #[iv 0, .slice p225 n226 c227, iv 11]) := he.trans (congrArg Ending.returned (by kernel_rfl))
      refine ⟨_, he, fun a hF => ⟨.inr (hS.trans (Ext.kp hO2.kp)), ?_⟩⟩
      replace hS := hS.trans (Ext.kp hO2.kp)
      replace hO := hO.joinE hO2; clear hO2 he
      refine draw_q0 {} TBok hF hS (F' := [(18, sv b154 7 7), (19, iv 4), (22, iv 11), (25, iv 11)]) [6, 7, 8, 9, 10, 11, 12] 7 0 (by kernel_rfl) #[true, true, true, true, true, true, true, true, true, true, true, true, true] [18, 19, 22, 25] (by kernel_rfl) (by kernel_rfl) fun a hF => ?_
      refine any_done (by kernel_rfl) (fun w hE => ?_) _
      replace hO := hO.ext hE
      replace hF := hF.sel [18, 19, 22, 25]
      replace hF : Fr 549 [] [(18, sv b154 7 7), (19, iv 4), (22, iv 11), (25, iv 11)] a := hF
      replace hO := hO.drop1 9
      replace hO := hO.drop1 8
      replace hO : Own w0 none_ [cel b147 #[iv 3, iv 0, iv 0, .bool false] 52, cel b148 #[iv (-1), iv 0, iv 0, .bool false] 52, cel b149 #[iv 0, iv 4, iv 0, .bool false] 52, cel b150 #[iv 0, iv (-1), iv 0, .bool false] 52, cel b151 #[iv 0, iv 0, iv 10, .bool false] 52, cel b152 #[iv 0, iv 0, iv (-1), .bool false] 52, cel b153 zrpC.toArray 52, cel b154 #[sv b147 1 1, sv b148 1 1, sv b149 1 1, sv b150 1 1, sv b151 1 1, sv b152 1 1, sv b153 25 25] 26] w := hO
      refine W_seq (draw_start (R := none_) mixed [] 11 (by kernel_rfl) fun w hS => ?_)
      replace hO := hO.ext hS
      refine draw_q {} TBok hF hS (F' := [(18, sv b154 7 7), (19, iv 4), (22, iv 11), (25, iv 11), (247, sv b151 1 1)]) (rs := [.idx (some ⟨b154, 0, none⟩) 7 4 1 ⟨b154, 4, none⟩, .ld ⟨b154, 4, none⟩ (sv b151 1 1)]) [1, 2, 3, 4] 11 7 (by kernel_rfl) #[false, true, true, true, true, false, false, false, false, false, false] [18, 19, 22, 25, 247] (.cons (ixa (by decide) (by decide)) <| .cons (ldo hO.st 7 rfl 4 rfl) <| .nil) (by kernel_rfl) (by kernel_rfl) fun a hF => ?_
      replace hS := Kp.refl none_ w
      refine any_pick (rs := [0]) (by kernel_rfl) (by simp) fun w hE => all1 ?_
      replace hO := hO.ext hE; replace hS := hS.trans (Ext.kp hE)
      refine op_call (i := 0) (f := 45) (args := #[]) (d := some 243) TBok (by kernel_rfl) hF (by kernel_rfl) (row_calls3 _) fun e w hR => ?_
      obtain ⟨b229, he, hO2⟩ := hR
      refine ⟨_, he, fun a hF => ⟨.inr (hS.trans (Ext.kp hO2.kp)), ?_⟩⟩
      replace hS := hS.trans (Ext.kp hO2.kp)
      replace hO := hO.joinE hO2; clear hO2 he
      refine any_pick (rs := [5]) (by kernel_rfl) (by simp) fun w hE => all1 ?_
      replace hO := hO.ext hE; replace hS := hS.trans (Ext.kp hE)
      refine op_call (i := 5) (f := 24) (args := #[rw4 b229, sv b151 1 1, iv (-1), iv 0]) (d := some 248) TBok (by kernel_rfl) hF (by kernel_rfl) (Can_calls sa8 (vb b229) [⟨0, 0, 10, false⟩] (some ⟨b151, 0, none⟩) 1 1 (-1) 0 _ (R4 hO 8 rfl) (rd_cel (enc := encRp) (ys := [⟨0, 0, 10, false⟩]) (rest := []) (fun _ => rfl) hO 4 rfl rfl rfl (by decide))) fun e w hR => ?_
      obtain ⟨p230, n231, c232, hn233, he, hO2⟩ := hR
      replace he : e = .returned (.tuple #[.slice p230 n231 c232, iv 11]) := he.trans (congrArg Ending.returned (by kernel_rfl))
      refine ⟨_, he, fun a hF => ⟨.inr (hS.trans (Ext.kp hO2.kp)), ?_⟩⟩
      replace hS := hS.trans (Ext.kp hO2.kp)
      replace hO := hO.joinE hO2; clear hO2 he
      refine draw_q0 {} TBok hF hS (F' := [(18, sv b154 7 7), (19, iv 4), (22, iv 11), (25, iv 11), (27, iv 11)]) [6, 7, 8, 9, 10] 5 0 (by kernel_rfl) #[true, true, true, true, true, true, true, true, true, true, true] [18, 19, 22, 25, 27] (by kernel_rfl) (by kernel_rfl) fun a hF => ?_
      refine any_done (by kernel_rfl) (fun w hE => ?_) _
      replace hO := hO.ext hE
      replace hF := hF.sel [18, 19, 22, 25, 27]
      replace hF : Fr 549 [] [(18, sv b154 7 7), (19, iv 4), (22, iv 11), (25, iv 11), (27, iv 11)] a := hF
      replace hO := hO.drop1 9
      replace hO := hO.drop1 8
      replace hO : Own w0 none_ [cel b147 #[iv 3, iv 0, iv 0, .bool false] 52, cel b148 #[iv (-1), iv 0, iv 0, .bool false] 52, cel b149 #[iv 0, iv 4, iv 0, .bool false] 52, cel b150 #[iv 0, iv (-1), iv 0, .bool false] 52, cel b151 #[iv 0, iv 0, iv 10, .bool false] 52, cel b152 #[iv 0, iv 0, iv (-1), .bool false] 52, cel b153 zrpC.toArray 52, cel b154 #[sv b147 1 1, sv b148 1 1, sv b149 1 1, sv b150 1 1, sv b151 1 1, sv b152 1 1, sv b153 25 25] 26] w := hO
      refine W_seq (draw_start (R := none_) mixed [] 11 (by kernel_rfl) fun w hS => ?_)
      replace hO := hO.ext hS
      refine draw_q {} TBok hF hS (F' := [(18, sv b154 7 7), (19, iv 4), (22, iv 11), (25, iv 11), (27, iv 11), (256, sv b151 1 1)]) (rs := [.idx (some ⟨b154, 0, none⟩) 7 4 1 ⟨b154, 4, none⟩, .ld ⟨b154, 4, none⟩ (sv b151 1 1)]) [1, 2, 3, 4] 11 7 (by kernel_rfl) #[false, true, true, true, true, false, false, false, false, false, false] [18, 19, 22, 25, 27, 256] (.cons (ixa (by decide) (by decide)) <| .cons (ldo hO.st 7 rfl 4 rfl) <| .nil) (by kernel_rfl) (by kernel_rfl) fun a hF => ?_
      replace hS := Kp.refl none_ w
      refine any_pick (rs := [0]) (by kernel_rfl) (by simp) fun w hE => all1 ?_
      replace hO := hO.ext hE; replace hS := hS.trans (Ext.kp hE)
      refine op_call (i := 0) (f := 45) (args := #[]) (d := some 252) TBok (by kernel_rfl) hF (by kernel_rfl) (row_calls3 _) fun e w hR => ?_
      obtain ⟨b234, he, hO2⟩ := hR
      refine ⟨_, he, fun a hF => ⟨.inr (hS.trans (Ext.kp hO2.kp)), ?_⟩⟩
      replace hS := hS.trans (Ext.kp hO2.kp)
      replace hO := hO.joinE hO2; clear hO2 he
      refine any_pick (rs := [5]) (by kernel_rfl) (by simp) fun w hE => all1 ?_
      replace hO := hO.ext hE; replace hS := hS.trans (Ext.kp hE)
      refine op_call (i := 5) (f := 26) (args := #[rw4 b234, sv b151 1 1]) (d := some 257) TBok (by kernel_rfl) hF (by kernel_rfl) (Liars_calls sa8 (vb b234) [⟨0, 0, 10, false⟩] (some ⟨b151, 0, none⟩) 1 1  _ (R4 hO 8 rfl) (rd_cel (enc := encRp) (ys := [⟨0, 0, 10, false⟩]) (rest := []) (fun _ => rfl) hO 4 rfl rfl rfl (by decide))) fun e w hR => ?_
      obtain ⟨p235, n236, c237, hn238, he, hO2⟩ := hR
      replace he : e = .returned (.tuple #[.slice p235 n236 c237, iv 11]) := he.trans (congrArg Ending.returned (by kernel_rfl))
      refine ⟨_, he, fun a hF => ⟨.inr (hS.trans (Ext.kp hO2.kp)), ?_⟩⟩
      replace hS := hS.trans (Ext.kp hO2.kp)
      replace hO := hO.joinE hO2; clear hO2 he
      refine draw_q0 {} TBok hF hS (F' := [(18, sv b154 7 7), (19, iv 4), (22, iv 11), (25, iv 11), (27, iv 11), (29, iv 11)]) [6, 7, 8, 9, 10] 5 0 (by kernel_rfl) #[true, true, true, true, true, true, true, true, true, true, true] [18, 19, 22, 25, 27, 29] (by kernel_rfl) (by kernel_rfl) fun a hF => ?_
      refine any_done (by kernel_rfl) (fun w hE => ?_) _
      replace hO := hO.ext hE
      replace hF := hF.sel [18, 19, 22, 25, 27, 29]
      replace hF : Fr 549 [] [(18, sv b154 7 7), (19, iv 4), (22, iv 11), (25, iv 11), (27, iv 11), (29, iv 11)] a := hF
      replace hO := hO.drop1 9
      replace hO := hO.drop1 8
      replace hO : Own w0 none_ [cel b147 #[iv 3, iv 0, iv 0, .bool false] 52, cel b148 #[iv (-1), iv 0, iv 0, .bool false] 52, cel b149 #[iv 0, iv 4, iv 0, .bool false] 52, cel b150 #[iv 0, iv (-1), iv 0, .bool false] 52, cel b151 #[iv 0, iv 0, iv 10, .bool false] 52, cel b152 #[iv 0, iv 0, iv (-1), .bool false] 52, cel b153 zrpC.toArray 52, cel b154 #[sv b147 1 1, sv b148 1 1, sv b149 1 1, sv b150 1 1, sv b151 1 1, sv b152 1 1, sv b153 25 25] 26] w := hO
      refine W_seq (draw_start (R := none_) mixed [] 13 (by kernel_rfl) fun w hS => ?_)
      replace hO := hO.ext hS
      refine draw_q {} TBok hF hS (F' := [(18, sv b154 7 7), (19, iv 4), (22, iv 11), (25, iv 11), (27, iv 11), (29, iv 11), (265, sv b151 1 1)]) (rs := [.idx (some ⟨b154, 0, none⟩) 7 4 1 ⟨b154, 4, none⟩, .ld ⟨b154, 4, none⟩ (sv b151 1 1)]) [1, 2, 3, 4] 13 9 (by kernel_rfl) #[false, true, true, true, true, false, false, false, false, false, false, false, false] [18, 19, 22, 25, 27, 29, 265] (.cons (ixa (by decide) (by decide)) <| .cons (ldo hO.st 7 rfl 4 rfl) <| .nil) (by kernel_rfl) (by kernel_rfl) fun a hF => ?_
      replace hS := Kp.refl none_ w
      refine any_pick (rs := [0]) (by kernel_rfl) (by simp) fun w hE => all1 ?_
      replace hO := hO.ext hE; replace hS := hS.trans (Ext.kp hE)
      refine op_call (i := 0) (f := 45) (args := #[]) (d := some 261) TBok (by kernel_rfl) hF (by kernel_rfl) (row_calls3 _) fun e w hR => ?_
      obtain ⟨b239, he, hO2⟩ := hR
      refine ⟨_, he, fun a hF => ⟨.inr (hS.trans (Ext.kp hO2.kp)), ?_⟩⟩
      replace hS := hS.trans (Ext.kp hO2.kp)
      replace hO := hO.joinE hO2; clear hO2 he
      refine draw_q {} TBok hF hS (F' := [(18, sv b154 7 7), (19, iv 4), (22, iv 11), (25, iv 11), (27, iv 11), (29, iv 11), (32, iv 11)]) (rs := [.call 28 #[rw4 b239, sv b151 1 1, iv (-1), iv 0, nl] (.tuple #[iv 0, iv 0, iv 11])]) [5, 6, 7, 8, 9, 10, 11, 12] 8 0 (by kernel_rfl) #[true, true, true, true, true, true, true, true, true, true, true, true, true] [18, 19, 22, 25, 27, 29, 32] (.cons (fun w hE => calls_cast (Next_calls sa8 (vb b239) [⟨0, 0, 10, false⟩] (some ⟨b151, 0, none⟩) 1 1 (-1) 0 ([] : List Cs) none 0 0 w (R4 (hO.st w hE) 8 rfl) (rd_cel (enc := encRp) (ys := [⟨0, 0, 10, false⟩]) (rest := []) (fun _ => rfl) (hO.st w hE) 4 rfl rfl rfl (by decide)) (rd_nil _ _ _) (hci_of (by decide)) (by decide)) (by kernel_rfl)) <| .nil) (by kernel_rfl) (by kernel_rfl) fun a hF => ?_
      replace hS := Kp.refl none_ w
      refine any_done (by kernel_rfl) (fun w hE => ?_) _
      replace hO := hO.ext hE
      replace hF := hF.sel [18, 19, 22, 25, 27, 29, 32]
      replace hF : Fr 549 [] [(18, sv b154 7 7), (19, iv 4), (22, iv 11), (25, iv 11), (27, iv 11), (29, iv 11), (32, iv 11)] a := hF
      replace hO := hO.drop1 8
      refine W_seq (region_q {} TBok hF (F' := [(18, sv b154 7 7), (19, iv 4), (287, .bool false)]) (rs := []) [18, 19, 287] .nil (by kernel_rfl) fun a w hF hE => ?_)
      replace hO := hO.ext hE; clear hE
      refine (W_false (evOp hF (by kernel_rfl)) ?_)
      refine (W_skip ?_)
      refine (region_q {} TBok hF (F' := [(18, sv b154 7 7), (19, iv 5)]) (rs := [.rng 5]) [18, 19] (.cons (rg (by decide)) <| .nil) (by kernel_rfl) fun a w hF hE => ?_)
      replace hO := hO.ext hE; clear hE
      exact ⟨_, by omega, 5, rfl, by omega, hF, hO⟩
    · replace hF : Fr 549 [] [(18, sv b154 7 7), (19, iv 5)] a := hF
      refine W_seq ?_
      refine W_seq (region_q {} TBok hF (F' := [(18, sv b154 7 7), (19, iv 5), (219, .bool true)]) (rs := []) [18, 19, 219] .nil (by kernel_rfl) fun a w hF hE => ?_)
      replace hO := hO.ext hE; clear hE
      refine (W_true (evOp hF (by kernel_rfl)) ?_)
      refine (W_skip ?_)
      refine W_seq (W_block ?_)
      refine W_seq (draw_start (R := none_) mixed [] 13 (by kernel_rfl) fun w hS => ?_)
      replace hO := hO.ext hS
      refine draw_q {} TBok hF hS (F' := [(18, sv b154 7 7), (19, iv 5), (227, sv b152 1 1)]) (rs := [.idx (some ⟨b154, 0, none⟩) 7 5 1 ⟨b154, 5, none⟩, .ld ⟨b154, 5, none⟩ (sv b152 1 1)]) [1, 2, 3, 4] 13 9 (by kernel_rfl) #[false, true, true, true, true, false, false, false, false, false, false, false, false] [18, 19, 227] (.cons (ixa (by decide) (by decide)) <| .cons (ldo hO.st 7 rfl 5 rfl) <| .nil) (by kernel_rfl) (by kernel_rfl) fun a hF => ?_
      replace hS := Kp.refl none_ w
      refine any_pick (rs := [0]) (by kernel_rfl) (by simp) fun w hE => all1 ?_
      replace hO := hO.ext hE; replace hS := hS.trans (Ext.kp hE)
      refine op_call (i := 0) (f := 45) (args := #[]) (d := some 223) TBok (by kernel_rfl) hF (by kernel_rfl) (row_calls3 _) fun e w hR => ?_
      obtain ⟨b240, he, hO2⟩ := hR
      refine ⟨_, he, fun a hF => ⟨.inr (hS.trans (Ext.kp hO2.kp)), ?_⟩⟩
      replace hS := hS.trans (Ext.kp hO2.kp)
      replace hO := hO.joinE hO2; clear hO2 he
      refine draw_q {} TBok hF hS (F' := [(18, sv b154 7 7), (19, iv 5), (22, iv 11)]) (rs := [.call 16 #[rw4 b240, sv b152 1 1, nl] (.tuple #[iv 0, .bool false, iv 11])]) [5, 6, 7, 8, 9, 10, 11, 12] 8 0 (by kernel_rfl) #[true, true, true, true, true, true, true, true, true, true, true, true, true] [18, 19, 22] (.cons (fun w hE => calls_cast (IsTrack_calls sa8 (vb b240) [⟨0, 0, (-1), false⟩] (some ⟨b152, 0, none⟩) 1 1 ([] : List Int) none 0 0 w (R4 (hO.st w hE) 8 rfl) (rd_cel (enc := encRp) (ys := [⟨0, 0, (-1), false⟩]) (rest := []) (fun _ => rfl) (hO.st w hE) 5 rfl rfl rfl (by decide)) (rd_nil _ _ _)) (by kernel_rfl)) <| .nil) (by kernel_rfl) (by kernel_rfl) fun a hF => ?_
      replace hS := Kp.refl none_ w
      refine any_done (by kernel_rfl) (fun w hE => ?_) _
      replace hO := hO.ext hE
      replace hF := hF.sel [18, 19, 22]
      replace hF : Fr 549 [] [(18, sv b154 7 7), (19, iv 5), (22, iv 11)] a := hF
      replace hO := hO.drop1 8
      replace hO : Own w0 none_ [cel b147 #[iv 3, iv 0, iv 0, .bool false] 52, cel b148 #[iv (-1), iv 0, iv 0, .bool false] 52, cel b149 #[iv 0, iv 4, iv 0, .bool false] 52, cel b150 #[iv 0, iv (-1), iv 0, .bool false] 52, cel b151 #[iv 0, iv 0, iv 10, .bool false] 52, cel b152 #[iv 0, iv 0, iv (-1), .bool false] 52, cel b153 zrpC.toArray 52, cel b154 #[sv b147 1 1, sv b148 1 1, sv b149 1 1, sv b150 1 1, sv b151 1 1, sv b152 1 1, sv b153 25 25] 26] w := hO
      refine W_seq (draw_start (R := none_) mixed [] 13 (by kernel_rfl) fun w hS => ?_)
      replace hO := hO.ext hS
      refine draw_q {} TBok hF hS (F' := [(18, sv b154 7 7), (19, iv 5), (22, iv 11), (237, sv b152 1 1)]) (rs := [.idx (some ⟨b154, 0, none⟩) 7 5 1 ⟨b154, 5, none⟩, .ld ⟨b154, 5, none⟩ (sv b152 1 1)]) [1, 2, 3, 4] 13 9 (by kernel_rfl) #[false, true, true, true, true, false, false, false, false, false, false, false, false] [18, 19, 22, 237] (.cons (ixa (by decide) (by decide)) <| .cons (ldo hO.st 7 rfl 5 rfl) <| .nil) (by kernel_rfl) (by kernel_rfl) fun a hF => ?_
      replace hS := Kp.refl none_ w
      refine any_pick (rs := [0]) (by kernel_rfl) (by simp) fun w hE => all1 ?_
      replace hO := hO.ext hE; replace hS := hS.trans (Ext.kp hE)
      refine op_call (i := 0) (f := 45) (args := #[]) (d := some 233) TBok (by kernel_rfl) hF (by kernel_rfl) (row_calls3 _) fun e w hR => ?_
      obtain ⟨b241, he, hO2⟩ := hR
      refine ⟨_, he, fun a hF => ⟨.inr (hS.trans (Ext.kp hO2.kp)), ?_⟩⟩
      replace hS := hS.trans (Ext.kp hO2.kp)
      replace hO := hO.joinE hO2; clear hO2 he
      refine any_pick (rs := [5]) (by kernel_rfl) (by simp) fun w hE => all1 ?_
      replace hO := hO.ext hE; replace hS := hS.trans (Ext.kp hE)
      refine op_call (i := 5) (f := 20) (args := #[rw4 b241, sv b152 1 1]) (d := some 238) TBok (by kernel_rfl) hF (by kernel_rfl) (Least_calls sa8 (vb b241) [⟨0, 0, (-1), false⟩] (some ⟨b152, 0, none⟩) 1 1 _ (R4 hO 8 rfl) (rd_cel (enc := encRp) (ys := [⟨0, 0, (-1), false⟩]) (rest := []) (fun _ => rfl) hO 5 rfl rfl rfl (by decide))) fun e w hR => ?_
      obtain ⟨p242, n243, c244, hn245, he, hO2⟩ := hR
      replace he : e = .returned (.tuple #[iv 0, .slice p242 n243 c244, iv 11]) := he.trans (congrArg Ending.returned (by kernel_rfl))
      refine ⟨_, he, fun a hF => ⟨.inr (hS.trans (Ext.kp hO2.kp)), ?_⟩⟩
      replace hS := hS.trans (Ext.kp hO2.kp)
      replace hO := hO.joinE hO2; clear hO2 he
      refine draw_q0 {} TBok hF hS (F' := [(18, sv b154 7 7), (19, iv 5), (22, iv 11), (25, iv 11)]) [6, 7, 8, 9, 10, 11, 12] 7 0 (by kernel_rfl) #[true, true, true, true, true, true, true, true, true, true, true, true, true] [18, 19, 22, 25] (by kernel_rfl) (by kernel_rfl) fun a hF => ?_
      refine any_done (by kernel_rfl) (fun w hE => ?_) _
      replace hO := hO.ext hE
      replace hF := hF.sel [18, 19, 22, 25]
      replace hF : Fr 549 [] [(18, sv b154 7 7), (19, iv 5), (22, iv 11), (25, iv 11)] a := hF
      replace hO := hO.drop1 9
      replace hO := hO.drop1 8
      replace hO : Own w0 none_ [cel b147 #[iv 3, iv 0, iv 0, .bool false] 52, cel b148 #[iv (-1), iv 0, iv 0, .bool false] 52, cel b149 #[iv 0, iv 4, iv 0, .bool false] 52, cel b150 #[iv 0, iv (-1), iv 0, .bool false] 52, cel b151 #[iv 0, iv 0, iv 10, .bool false] 52, cel b152 #[iv 0, iv 0, iv (-1), .bool false] 52, cel b153 zrpC.toArray 52, cel b154 #[sv b147 1 1, sv b148 1 1, sv b149 1 1, sv b150 1 1, sv b151 1 1, sv b152 1 1, sv b153 25 25] 26] w := hO
      refine W_seq (draw_start (R := none_) mixed [] 11 (by kernel_rfl) fun w hS => ?_)
      replace hO := hO.ext hS
      refine draw_q {} TBok hF hS (F' := [(18, sv b154 7 7), (19, iv 5), (22, iv 11), (25, iv 11), (247, sv b152 1 1)]) (rs := [.idx (some ⟨b154, 0, none⟩) 7 5 1 ⟨b154, 5, none⟩, .ld ⟨b154, 5, none⟩ (sv b152 1 1)]) [1, 2, 3, 4] 11 7 (by kernel_rfl) #[false, true, true, true, true, false, false, false, false, false, false] [18, 19, 22, 25, 247] (.cons (ixa (by decide) (by decide)) <| .cons (ldo hO.st 7 rfl 5 rfl) <| .nil) (by kernel_rfl) (by kernel_rfl) fun a hF => ?_
      replace hS := Kp.refl none_ w
      refine any_pick (rs := [0]) (by kernel_rfl) (by simp) fun w hE => all1 ?_
      replace hO := hO.ext hE; replace hS := hS.trans (Ext.kp hE)
      refine op_call (i := 0) (f := 45) (args := #[]) (d := some 243) TBok (by kernel_rfl) hF (by kernel_rfl) (row_calls3 _) fun e w hR => ?_
      obtain ⟨b246, he, hO2⟩ := hR
      refine ⟨_, he, fun a hF => ⟨.inr (hS.trans (Ext.kp hO2.kp)), ?_⟩⟩
      replace hS := hS.trans (Ext.kp hO2.kp)
      replace hO := hO.joinE hO2; clear hO2 he
      refine any_pick (rs := [5]) (by kernel_rfl) (by simp) fun w hE => all1 ?_
      replace hO := hO.ext hE; replace hS := hS.trans (Ext.kp hE)
      refine op_call (i := 5) (f := 24) (args := #[rw4 b246, sv b152 1 1, iv (-1), iv 0]) (d := some 248) TBok (by kernel_rfl) hF (by kernel_rfl) (Can_calls sa8 (vb b246) [⟨0, 0, (-1), false⟩] (some ⟨b152, 0, none⟩) 1 1 (-1) 0 _ (R4 hO 8 rfl) (rd_cel (enc := encRp) (ys := [⟨0, 0, (-1), false⟩]) (rest := []) (fun _ => rfl) hO 5 rfl rfl rfl (by decide))) fun e w hR => ?_
      obtain ⟨p247, n248, c249, hn250, he, hO2⟩ := hR
      replace he : e = .returned (.tuple #[.slice p247 n248 c249, iv 11]) := he.trans (congrArg Ending.returned (by kernel_rfl))
      refine ⟨_, he, fun a hF => ⟨.inr (hS.trans (Ext.kp hO2.kp)), ?_⟩⟩
      replace hS := hS.trans (Ext.kp hO2.kp)
      replace hO := hO.joinE hO2; clear hO2 he
      refine draw_q0 {} TBok hF hS (F' := [(18, sv b154 7 7), (19, iv 5), (22, iv 11), (25, iv 11), (27, iv 11)]) [6, 7, 8, 9, 10] 5 0 (by kernel_rfl) #[true, true, true, true, true, true, true, true, true, true, true] [18, 19, 22, 25, 27] (by kernel_rfl) (by kernel_rfl) fun a hF => ?_
      refine any_done (by kernel_rfl) (fun w hE => ?_) _
      replace hO := hO.ext hE
      replace hF := hF.sel [18, 19, 22, 25, 27]
      replace hF : Fr 549 [] [(18, sv b154 7 7), (19, iv 5), (22, iv 11), (25, iv 11), (27, iv 11)] a := hF
      replace hO := hO.drop1 9
      replace hO := hO.drop1 8
      replace hO : Own w0 none_ [cel b147 #[iv 3, iv 0, iv 0, .bool false] 52, cel b148 #[iv (-1), iv 0, iv 0, .bool false] 52, cel b149 #[iv 0, iv 4, iv 0, .bool false] 52, cel b150 #[iv 0, iv (-1), iv 0, .bool false] 52, cel b151 #[iv 0, iv 0, iv 10, .bool false] 52, cel b152 #[iv 0, iv 0, iv (-1), .bool false] 52, cel b153 zrpC.toArray 52, cel b154 #[sv b147 1 1, sv b148 1 1, sv b149 1 1, sv b150 1 1, sv b151 1 1, sv b152 1 1, sv b153 25 25] 26] w := hO
      refine W_seq (draw_start (R := none_) mixed [] 11 (by kernel_rfl) fun w hS => ?_)
      replace hO := hO.ext hS
      refine draw_q {} TBok hF hS (F' := [(18, sv b154 7 7), (19, iv 5), (22, iv 11), (25, iv 11), (27, iv 11), (256, sv b152 1 1)]) (rs := [.idx (some ⟨b154, 0, none⟩) 7 5 1 ⟨b154, 5, none⟩, .ld ⟨b154, 5, none⟩ (sv b152 1 1)]) [1, 2, 3, 4] 11 7 (by kernel_rfl) #[false, true, true, true, true, false, false, false, false, false, false] [18, 19, 22, 25, 27, 256] (.cons (ixa (by decide) (by decide)) <| .cons (ldo hO.st 7 rfl 5 rfl) <| .nil) (by kernel_rfl) (by kernel_rfl) fun a hF => ?_
      replace hS := Kp.refl none_ w
      refine any_pick (rs := [0]) (by kernel_rfl) (by simp) fun w hE => all1 ?_
      replace hO := hO.ext hE; replace hS := hS.trans (Ext.kp hE)
      refine op_call (i := 0) (f := 45) (args := #[]) (d := some 252) TBok (by kernel_rfl) hF (by kernel_rfl) (row_calls3 _) fun e w hR => ?_
      obtain ⟨b251, he, hO2⟩ := hR
      refine ⟨_, he, fun a hF => ⟨.inr (hS.trans (Ext.kp hO2.kp)), ?_⟩⟩
      replace hS := hS.trans (Ext.kp hO2.kp)
      replace hO := hO.joinE hO2; clear hO2 he
      refine any_pick (rs := [5]) (by kernel_rfl) (by simp) fun w hE => all1 ?_
      replace hO := hO.ext hE; replace hS := hS.trans (Ext.kp hE)
      refine op_call (i := 5) (f := 26) (args := #[rw4 b251, sv b152 1 1]) (d := some 257) TBok (by kernel_rfl) hF (by kernel_rfl) (Liars_calls sa8 (vb b251) [⟨0, 0, (-1), false⟩] (some ⟨b152, 0, none⟩) 1 1  _ (R4 hO 8 rfl) (rd_cel (enc := encRp) (ys := [⟨0, 0, (-1), false⟩]) (rest := []) (fun _ => rfl) hO 5 rfl rfl rfl (by decide))) fun e w hR => ?_
      obtain ⟨p252, n253, c254, hn255, he, hO2⟩ := hR
      replace he : e = .returned (.tuple #[.slice p252 n253 c254, iv 11]) := he.trans (congrArg Ending.returned (by kernel_rfl))
      refine ⟨_, he, fun a hF => ⟨.inr (hS.trans (Ext.kp hO2.kp)), ?_⟩⟩
      replace hS := hS.trans (Ext.kp hO2.kp)
      replace hO := hO.joinE hO2; clear hO2 he
      refine draw_q0 {} TBok hF hS (F' := [(18, sv b154 7 7), (19, iv 5), (22, iv 11), (25, iv 11), (27, iv 11), (29, iv 11)]) [6, 7, 8, 9, 10] 5 0 (by kernel_rfl) #[true, true, true, true, true, true, true, true, true, true, true] [18, 19, 22, 25, 27, 29] (by kernel_rfl) (by kernel_rfl) fun a hF => ?_
      refine any_done (by kernel_rfl) (fun w hE => ?_) _
      replace hO := hO.ext hE
      replace hF := hF.sel [18, 19, 22, 25, 27, 29]
      replace hF : Fr 549 [] [(18, sv b154 7 7), (19, iv 5), (22, iv 11), (25, iv 11), (27, iv 11), (29, iv 11)] a := hF
      replace hO := hO.drop1 9
      replace hO := hO.drop1 8
      replace hO : Own w0 none_ [cel b147 #[iv 3, iv 0, iv 0, .bool false] 52, cel b148 #[iv (-1), iv 0, iv 0, .bool false] 52, cel b149 #[iv 0, iv 4, iv 0, .bool false] 52, cel b150 #[iv 0, iv (-1), iv 0, .bool false] 52, cel b151 #[iv 0, iv 0, iv 10, .bool false] 52, cel b152 #[iv 0, iv 0, iv (-1), .bool false] 52, cel b153 zrpC.toArray 52, cel b154 #[sv b147 1 1, sv b148 1 1, sv b149 1 1, sv b150 1 1, sv b151 1 1, sv b152 1 1, sv b153 25 25] 26] w := hO
      refine W_seq (draw_start (R := none_) mixed [] 13 (by kernel_rfl) fun w hS => ?_)
      replace hO := hO.ext hS
      refine draw_q {} TBok hF hS (F' := [(18, sv b154 7 7), (19, iv 5), (22, iv 11), (25, iv 11), (27, iv 11), (29, iv 11), (265, sv b152 1 1)]) (rs := [.idx (some ⟨b154, 0, none⟩) 7 5 1 ⟨b154, 5, none⟩, .ld ⟨b154, 5, none⟩ (sv b152 1 1)]) [1, 2, 3, 4] 13 9 (by kernel_rfl) #[false, true, true, true, true, false, false, false, false, false, false, false, false] [18, 19, 22, 25, 27, 29, 265] (.cons (ixa (by decide) (by decide)) <| .cons (ldo hO.st 7 rfl 5 rfl) <| .nil) (by kernel_rfl) (by kernel_rfl) fun a hF => ?_
      replace hS := Kp.refl none_ w
      refine any_pick (rs := [0]) (by kernel_rfl) (by simp) fun w hE => all1 ?_
      replace hO := hO.ext hE; replace hS := hS.trans (Ext.kp hE)
      refine op_call (i := 0) (f := 45) (args := #[]) (d := some 261) TBok (by kernel_rfl) hF (by kernel_rfl) (row_calls3 _) fun e w hR => ?_
      obtain ⟨b256, he, hO2⟩ := hR
      refine ⟨_, he, fun a hF => ⟨.inr (hS.trans (Ext.kp hO2.kp)), ?_⟩⟩
      replace hS := hS.trans (Ext.kp hO2.kp)
      replace hO := hO.joinE hO2; clear hO2 he
      refine draw_q {} TBok hF hS (F' := [(18, sv b154 7 7), (19, iv 5), (22, iv 11), (25, iv 11), (27, iv 11), (29, iv 11), (32, iv 11)]) (rs := [.call 28 #[rw4 b256, sv b152 1 1, iv (-1), iv 0, nl] (.tuple #[iv 0, iv 0, iv 11])]) [5, 6, 7, 8, 9, 10, 11, 12] 8 0 (by kernel_rfl) #[true, true, true, true, true, true, true, true, true, true, true, true, true] [18, 19, 22, 25, 27, 29, 32] (.cons (fun w hE => calls_cast (Next_calls sa8 (vb b256) [⟨0, 0, (-1), false⟩] (some ⟨b152, 0, none⟩) 1 1 (-1) 0 ([] : List Cs) none 0 0 w (R4 (hO.st w hE) 8 rfl) (rd_cel (enc := encRp) (ys := [⟨0, 0, (-1), false⟩]) (rest := []) (fun _ => rfl) (hO.st w hE) 5 rfl rfl rfl (by decide)) (rd_nil _ _ _) (hci_of (by decide)) (by decide)) (by kernel_rfl)) <| .nil) (by kernel_rfl) (by kernel_rfl) fun a hF => ?_
      replace hS := Kp.refl none_ w
      refine any_done (by kernel_rfl) (fun w hE => ?_) _
      replace hO := hO.ext hE
      replace hF := hF.sel [18, 19, 22, 25, 27, 29, 32]
      replace hF : Fr 549 [] [(18, sv b154 7 7), (19, iv 5), (22, iv 11), (25, iv 11), (27, iv 11), (29, iv 11), (32, iv 11)] a := hF
      replace hO := hO.drop1 8
      refine W_seq (region_q {} TBok hF (F' := [(18, sv b154 7 7), (19, iv 5), (287, .bool false)]) (rs := []) [18, 19, 287] .nil (by kernel_rfl) fun a w hF hE => ?_)
      replace hO := hO.ext hE; clear hE
      refine (W_false (evOp hF (by kernel_rfl)) ?_)
      refine (W_skip ?_)
      refine (region_q {} TBok hF (F' := [(18, sv b154 7 7), (19, iv 6)]) (rs := [.rng 6]) [18, 19] (.cons (rg (by decide)) <| .nil) (by kernel_rfl) fun a w hF hE => ?_)
      replace hO := hO.ext hE; clear hE
      exact ⟨_, by omega, 6, rfl, by omega, hF, hO⟩
    · replace hF : Fr 549 [] [(18, sv b154 7 7), (19, iv 6)] a := hF
      refine W_seq ?_
      refine W_seq (region_q {} TBok hF (F' := [(18, sv b154 7 7), (19, iv 6), (219, .bool true)]) (rs := []) [18, 19, 219] .nil (by kernel_rfl) fun a w hF hE => ?_)
      replace hO := hO.ext hE; clear hE
      refine (W_true (evOp hF (by kernel_rfl)) ?_)
      refine (W_skip ?_)
      refine W_seq (W_block ?_)
      refine W_seq (draw_start (R := none_) mixed [] 13 (by kernel_rfl) fun w hS => ?_)
      replace hO := hO.ext hS
      refine draw_q {} TBok hF hS (F' := [(18, sv b154 7 7), (19, iv 6), (227, sv b153 25 25)]) (rs := [.idx (some ⟨b154, 0, none⟩) 7 6 1 ⟨b154, 6, none⟩, .ld ⟨b154, 6, none⟩ (sv b153 25 25)]) [1, 2, 3, 4] 13 9 (by kernel_rfl) #[false, true, true, true, true, false, false, false, false, false, false, false, false] [18, 19, 227] (.cons (ixa (by decide) (by decide)) <| .cons (ldo hO.st 7 rfl 6 rfl) <| .nil) (by kernel_rfl) (by kernel_rfl) fun a hF => ?_
      replace hS := Kp.refl none_ w
      refine any_pick (rs := [0]) (by kernel_rfl) (by simp) fun w hE => all1 ?_
      replace hO := hO.ext hE; replace hS := hS.trans (Ext.kp hE)
      refine op_call (i := 0) (f := 45) (args := #[]) (d := some 223) TBok (by kernel_rfl) hF (by kernel_rfl) (row_calls3 _) fun e w hR => ?_
      obtain ⟨b257, he, hO2⟩ := hR
      refine ⟨_, he, fun a hF => ⟨.inr (hS.trans (Ext.kp hO2.kp)), ?_⟩⟩
      replace hS := hS.trans (Ext.kp hO2.kp)
      replace hO := hO.joinE hO2; clear hO2 he
      refine draw_q {} TBok hF hS (F' := [(18, sv b154 7 7), (19, iv 6), (22, iv 11)]) (rs := [.call 16 #[rw4 b257, sv b153 25 25, nl] (.tuple #[iv 0, .bool false, iv 11])]) [5, 6, 7, 8, 9, 10, 11, 12] 8 0 (by kernel_rfl) #[true, true, true, true, true, true, true, true, true, true, true, true, true] [18, 19, 22] (.cons (fun w hE => calls_cast (IsTrack_calls sa8 (vb b257) zrpL (some ⟨b153, 0, none⟩) 25 25 ([] : List Int) none 0 0 w (R4 (hO.st w hE) 8 rfl) (rdz (hO.st w hE) 6 rfl) (rd_nil _ _ _)) (by kernel_rfl)) <| .nil) (by kernel_rfl) (by kernel_rfl) fun a hF => ?_
      replace hS := Kp.refl none_ w
      refine any_done (by kernel_rfl) (fun w hE => ?_) _
      replace hO := hO.ext hE
      replace hF := hF.sel [18, 19, 22]
      replace hF : Fr 549 [] [(18, sv b154 7 7), (19, iv 6), (22, iv 11)] a := hF
      replace hO := hO.drop1 8
      replace hO : Own w0 none_ [cel b147 #[iv 3, iv 0, iv 0, .bool false] 52, cel b148 #[iv (-1), iv 0, iv 0, .bool false] 52, cel b149 #[iv 0, iv 4, iv 0, .bool false] 52, cel b150 #[iv 0, iv (-1), iv 0, .bool false] 52, cel b151 #[iv 0, iv 0, iv 10, .bool false] 52, cel b152 #[iv 0, iv 0, iv (-1), .bool false] 52, cel b153 zrpC.toArray 52, cel b154 #[sv b147 1 1, sv b148 1 1, sv b149 1 1, sv b150 1 1, sv b151 1 1, sv b152 1 1, sv b153 25 25] 26] w := hO
      refine W_seq (draw_start (R := none_) mixed [] 13 (by kernel_rfl) fun w hS => ?_)
      replace hO := hO.ext hS
      refine draw_q {} TBok hF hS (F' := [(18, sv b154 7 7), (19, iv 6), (22, iv 11), (237, sv b153 25 25)]) (rs := [.idx (some ⟨b154, 0, none⟩) 7 6 1 ⟨b154, 6, none⟩, .ld ⟨b154, 6, none⟩ (sv b153 25 25)]) [1, 2, 3, 4] 13 9 (by kernel_rfl) #[false, true, true, true, true, false, false, false, false, false, false, false, false] [18, 19, 22, 237] (.cons (ixa (by decide) (by decide)) <| .cons (ldo hO.st 7 rfl 6 rfl) <| .nil) (by kernel_rfl) (by kernel_rfl) fun a hF => ?_
      replace hS := Kp.refl none_ w
      refine any_pick (rs := [0]) (by kernel_rfl) (by simp) fun w hE => all1 ?_
      replace hO := hO.ext hE; replace hS := hS.trans (Ext.kp hE)
      refine op_call (i := 0) (f := 45) (args := #[]) (d := some 233) TBok (by kernel_rfl) hF (by kernel_rfl) (row_calls3 _) fun e w hR => ?_
      obtain ⟨b258, he, hO2⟩ := hR
      refine ⟨_, he, fun a hF => ⟨.inr (hS.trans (Ext.kp hO2.kp)), ?_⟩⟩
      replace hS := hS.trans (Ext.kp hO2.kp)
      replace hO := hO.joinE hO2; clear hO2 he
      refine any_pick (rs := [5]) (by kernel_rfl) (by simp) fun w hE => all1 ?_
      replace hO := hO.ext hE; replace hS := hS.trans (Ext.kp hE)
      refine op_call (i := 5) (f := 20) (args := #[rw4 b258, sv b153 25 25]) (d := some 238) TBok (by kernel_rfl) hF (by kernel_rfl) (Least_calls sa8 (vb b258) zrpL (some ⟨b153, 0, none⟩) 25 25 _ (R4 hO 8 rfl) (rdz hO 6 rfl)) fun e w hR => ?_
      obtain ⟨p259, n260, c261, hn262, he, hO2⟩ := hR
      replace he : e = .returned (.tuple #[iv 0, .slice p259 n260 c261, iv 11]) := he.trans (congrArg Ending.returned (by kernel_rfl))
      refine ⟨_, he, fun a hF => ⟨.inr (hS.trans (Ext.kp hO2.kp)), ?_⟩⟩
      replace hS := hS.trans (Ext.kp hO2.kp)
      replace hO := hO.joinE hO2; clear hO2 he
      refine draw_q0 {} TBok hF hS (F' := [(18, sv b154 7 7), (19, iv 6), (22, iv 11), (25, iv 11)]) [6, 7, 8, 9, 10, 11, 12] 7 0 (by kernel_rfl) #[true, true, true, true, true, true, true, true, true, true, true, true, true] [18, 19, 22, 25] (by kernel_rfl) (by kernel_rfl) fun a hF => ?_
      refine any_done (by kernel_rfl) (fun w hE => ?_) _
      replace hO := hO.ext hE
      replace hF := hF.sel [18, 19, 22, 25]
      replace hF : Fr 549 [] [(18, sv b154 7 7), (19, iv 6), (22, iv 11), (25, iv 11)] a := hF
      replace hO := hO.drop1 9
      replace hO := hO.drop1 8
      replace hO : Own w0 none_ [cel b147 #[iv 3, iv 0, iv 0, .bool false] 52, cel b148 #[iv (-1), iv 0, iv 0, .bool false] 52, cel b149 #[iv 0, iv 4, iv 0, .bool false] 52, cel b150 #[iv 0, iv (-1), iv 0, .bool false] 52, cel b151 #[iv 0, iv 0, iv 10, .bool false] 52, cel b152 #[iv 0, iv 0, iv (-1), .bool false] 52, cel b153 zrpC.toArray 52, cel b154 #[sv b147 1 1, sv b148 1 1, sv b149 1 1, sv b150 1 1, sv b151 1 1, sv b152 1 1, sv b153 25 25] 26] w := hO
      refine W_seq (draw_start (R := none_) mixed [] 11 (by kernel_rfl) fun w hS => ?_)
      replace hO := hO.ext hS
      refine draw_q {} TBok hF hS (F' := [(18, sv b154 7 7), (19, iv 6), (22, iv 11), (25, iv 11), (247, sv b153 25 25)]) (rs := [.idx (some ⟨b154, 0, none⟩) 7 6 1 ⟨b154, 6, none⟩, .ld ⟨b154, 6, none⟩ (sv b153 25 25)]) [1, 2, 3, 4] 11 7 (by kernel_rfl) #[false, true, true, true, true, false, false, false, false, false, false] [18, 19, 22, 25, 247] (.cons (ixa (by decide) (by decide)) <| .cons (ldo hO.st 7 rfl 6 rfl) <| .nil) (by kernel_rfl) (by kernel_rfl) fun a hF => ?_
      replace hS := Kp.refl none_ w
      refine any_pick (rs := [0]) (by kernel_rfl) (by simp) fun w hE => all1 ?_
      replace hO := hO.ext hE; replace hS := hS.trans (Ext.kp hE)
      refine op_call (i := 0) (f := 45) (args := #[]) (d := some 243) TBok (by kernel_rfl) hF (by kernel_rfl) (row_calls3 _) fun e w hR => ?_
      obtain ⟨b263, he, hO2⟩ := hR
      refine ⟨_, he, fun a hF => ⟨.inr (hS.trans (Ext.kp hO2.kp)), ?_⟩⟩
      replace hS := hS.trans (Ext.kp hO2.kp)
      replace hO := hO.joinE hO2; clear hO2 he
      refine any_pick (rs := [5]) (by kernel_rfl) (by simp) fun w hE => all1 ?_
      replace hO := hO.ext hE; replace hS := hS.trans (Ext.kp hE)
      refine op_call (i := 5) (f := 24) (args := #[rw4 b263, sv b153 25 25, iv (-1), iv 0]) (d := some 248) TBok (by kernel_rfl) hF (by kernel_rfl) (Can_calls sa8 (vb b263) zrpL (some ⟨b153, 0, none⟩) 25 25 (-1) 0 _ (R4 hO 8 rfl) (rdz hO 6 rfl)) fun e w hR => ?_
      obtain ⟨p264, n265, c266, hn267, he, hO2⟩ := hR
      replace he : e = .returned (.tuple #[.slice p264 n265 c266, iv 11]) := he.trans (congrArg Ending.returned (by kernel_rfl))
      refine ⟨_, he, fun a hF => ⟨.inr (hS.trans (Ext.kp hO2.kp)), ?_⟩⟩
      replace hS := hS.trans (Ext.kp hO2.kp)
      replace hO := hO.joinE hO2; clear hO2 he
      refine draw_q0 {} TBok hF hS (F' := [(18, sv b154 7 7), (19, iv 6), (22, iv 11), (25, iv 11), (27, iv 11)]) [6, 7, 8, 9, 10] 5 0 (by kernel_rfl) #[true, true, true, true, true, true, true, true, true, true, true] [18, 19, 22, 25, 27] (by kernel_rfl) (by kernel_rfl) fun a hF => ?_
      refine any_done (by kernel_rfl) (fun w hE => ?_) _
      replace hO := hO.ext hE
      replace hF := hF.sel [18, 19, 22, 25, 27]
      replace hF : Fr 549 [] [(18, sv b154 7 7), (19, iv 6), (22, iv 11), (25, iv 11), (27, iv 11)] a := hF
      replace hO := hO.drop1 9
      replace hO := hO.drop1 8
      replace hO : Own w0 none_ [cel b147 #[iv 3, iv 0, iv 0, .bool false] 52, cel b148 #[iv (-1), iv 0, iv 0, .bool false] 52, cel b149 #[iv 0, iv 4, iv 0, .bool false] 52, cel b150 #[iv 0, iv (-1), iv 0, .bool false] 52, cel b151 #[iv 0, iv 0, iv 10, .bool false] 52, cel b152 #[iv 0, iv 0, iv (-1), .bool false] 52, cel b153 zrpC.toArray 52, cel b154 #[sv b147 1 1, sv b148 1 1, sv b149 1 1, sv b150 1 1, sv b151 1 1, sv b152 1 1, sv b153 25 25] 26] w := hO
      refine W_seq (draw_start (R := none_) mixed [] 11 (by kernel_rfl) fun w hS => ?_)
      replace hO := hO.ext hS
      refine draw_q {} TBok hF hS (F' := [(18, sv b154 7 7), (19, iv 6), (22, iv 11), (25, iv 11), (27, iv 11), (256, sv b153 25 25)]) (rs := [.idx (some ⟨b154, 0, none⟩) 7 6 1 ⟨b154, 6, none⟩, .ld ⟨b154, 6, none⟩ (sv b153 25 25)]) [1, 2, 3, 4] 11 7 (by kernel_rfl) #[false, true, true, true, true, false, false, false, false, false, false] [18, 19, 22, 25, 27, 256] (.cons (ixa (by decide) (by decide)) <| .cons (ldo hO.st 7 rfl 6 rfl) <| .nil) (by kernel_rfl) (by kernel_rfl) fun a hF => ?_
      replace hS := Kp.refl none_ w
      refine any_pick (rs := [0]) (by kernel_rfl) (by simp) fun w hE => all1 ?_
      replace hO := hO.ext hE; replace hS := hS.trans (Ext.kp hE)
      refine op_call (i := 0) (f := 45) (args := #[]) (d := some 252) TBok (by kernel_rfl) hF (by kernel_rfl) (row_calls3 _) fun e w hR => ?_
      obtain ⟨b268, he, hO2⟩ := hR
      refine ⟨_, he, fun a hF => ⟨.inr (hS.trans (Ext.kp hO2.kp)), ?_⟩⟩
      replace hS := hS.trans (Ext.kp hO2.kp)
      replace hO := hO.joinE hO2; clear hO2 he
      refine any_pick (rs := [5]) (by kernel_rfl) (by simp) fun w hE => all1 ?_
      replace hO := hO.ext hE; replace hS := hS.trans (Ext.kp hE)
      refine op_call (i := 5) (f := 26) (args := #[rw4 b268, sv b153 25 25]) (d := some 257) TBok (by kernel_rfl) hF (by kernel_rfl) (Liars_calls sa8 (vb b268) zrpL (some ⟨b153, 0, none⟩) 25 25  _ (R4 hO 8 rfl) (rdz hO 6 rfl)) fun e w hR => ?_
      obtain ⟨p269, n270, c271, hn272, he, hO2⟩ := hR
      replace he : e = .returned (.tuple #[.slice p269 n270 c271, iv 11]) := he.trans (congrArg Ending.returned (by kernel_rfl))
      refine ⟨_, he, fun a hF => ⟨.inr (hS.trans (Ext.kp hO2.kp)), ?_⟩⟩
      replace hS := hS.trans (Ext.kp hO2.kp)
      replace hO := hO.joinE hO2; clear hO2 he
      refine draw_q0 {} TBok hF hS (F' := [(18, sv b154 7 7), (19, iv 6), (22, iv 11), (25, iv 11), (27, iv 11), (29, iv 11)]) [6, 7, 8, 9, 10] 5 0 (by kernel_rfl) #[true, true, true, true, true, true, true, true, true, true, true] [18, 19, 22, 25, 27, 29] (by kernel_rfl) (by kernel_rfl) fun a hF => ?_
      refine any_done (by kernel_rfl) (fun w hE => ?_) _
      replace hO := hO.ext hE
      replace hF := hF.sel [18, 19, 22, 25, 27, 29]
      replace hF : Fr 549 [] [(18, sv b154 7 7), (19, iv 6), (22, iv 11), (25, iv 11), (27, iv 11), (29, iv 11)] a := hF
      replace hO := hO.drop1 9
      replace hO := hO.drop1 8
      replace hO : Own w0 none_ [cel b147 #[iv 3, iv 0, iv 0, .bool false] 52, cel b148 #[iv (-1), iv 0, iv 0, .bool false] 52, cel b149 #[iv 0, iv 4, iv 0, .bool false] 52, cel b150 #[iv 0, iv (-1), iv 0, .bool false] 52, cel b151 #[iv 0, iv 0, iv 10, .bool false] 52, cel b152 #[iv 0, iv 0, iv (-1), .bool false] 52, cel b153 zrpC.toArray 52, cel b154 #[sv b147 1 1, sv b148 1 1, sv b149 1 1, sv b150 1 1, sv b151 1 1, sv b152 1 1, sv b153 25 25] 26] w := hO
      refine W_seq (draw_start (R := none_) mixed [] 13 (by kernel_rfl) fun w hS => ?_)
      replace hO := hO.ext hS
      refine draw_q {} TBok hF hS (F' := [(18, sv b154 7 7), (19, iv 6), (22, iv 11), (25, iv 11), (27, iv 11), (29, iv 11), (265, sv b153 25 25)]) (rs := [.idx (some ⟨b154, 0, none⟩) 7 6 1 ⟨b154, 6, none⟩, .ld ⟨b154, 6, none⟩ (sv b153 25 25)]) [1, 2, 3, 4] 13 9 (by kernel_rfl) #[false, true, true, true, true, false, false, false, false, false, false, false, false] [18, 19, 22, 25, 27, 29, 265] (.cons (ixa (by decide) (by decide)) <| .cons (ldo hO.st 7 rfl 6 rfl) <| .nil) (by kernel_rfl) (by kernel_rfl) fun a hF => ?_
      replace hS := Kp.refl none_ w
      refine any_pick (rs := [0]) (by kernel_rfl) (by simp) fun w hE => all1 ?_
      replace hO := hO.ext hE; replace hS := hS.trans (Ext.kp hE)
      refine op_call (i := 0) (f := 45) (args := #[]) (d := some 261) TBok (by kernel_rfl) hF (by kernel_rfl) (row_calls3 _) fun e w hR => ?_
      obtain ⟨b273, he, hO2⟩ := hR
      refine ⟨_, he, fun a hF => ⟨.inr (hS.trans (Ext.kp hO2.kp)), ?_⟩⟩
      replace hS := hS.trans (Ext.kp hO2.kp)
      replace hO := hO.joinE hO2; clear hO2 he
      refine draw_q {} TBok hF hS (F' := [(18, sv b154 7 7), (19, iv 6), (22, iv 11), (25, iv 11), (27, iv 11), (29, iv 11), (32, iv 11)]) (rs := [.call 28 #[rw4 b273, sv b153 25 25, iv (-1), iv 0, nl] (.tuple #[iv 0, iv 0, iv 11])]) [5, 6, 7, 8, 9, 10, 11, 12] 8 0 (by kernel_rfl) #[true, true, true, true, true, true, true, true, true, true, true, true, true] [18, 19, 22, 25, 27, 29, 32] (.cons (fun w hE => calls_cast (Next_calls sa8 (vb b273) zrpL (some ⟨b153, 0, none⟩) 25 25 (-1) 0 ([] : List Cs) none 0 0 w (R4 (hO.st w hE) 8 rfl) (rdz (hO.st w hE) 6 rfl) (rd_nil _ _ _) (hci_of (by decide)) (by decide)) (by kernel_rfl)) <| .nil) (by kernel_rfl) (by kernel_rfl) fun a hF => ?_
      replace hS := Kp.refl none_ w
      refine any_done (by kernel_rfl) (fun w hE => ?_) _
      replace hO := hO.ext hE
      replace hF := hF.sel [18, 19, 22, 25, 27, 29, 32]
      replace hF : Fr 549 [] [(18, sv b154 7 7), (19, iv 6), (22, iv 11), (25, iv 11), (27, iv 11), (29, iv 11), (32, iv 11)] a := hF
      replace hO := hO.drop1 8
      refine W_seq (region_q {} TBok hF (F' := [(18, sv b154 7 7), (19, iv 6), (287, .bool false)]) (rs := []) [18, 19, 287] .nil (by kernel_rfl) fun a w hF hE => ?_)
      replace hO := hO.ext hE; clear hE
      refine (W_false (evOp hF (by kernel_rfl)) ?_)
      refine (W_skip ?_)
      refine (region_q {} TBok hF (F' := [(18, sv b154 7 7), (19, iv 7)]) (rs := [.rng 7]) [18, 19] (.cons (rg (by decide)) <| .nil) (by kernel_rfl) fun a w hF hE => ?_)
      replace hO := hO.ext hE; clear hE
      exact ⟨_, by omega, 7, rfl, by omega, hF, hO⟩
    · replace hF : Fr 549 [] [(18, sv b154 7 7), (19, iv 7)] a := hF
      refine W_seq ?_
      refine W_seq (region_q {} TBok hF (F' := [(18, sv b154 7 7), (19, iv 7), (219, .bool false)]) (rs := []) [18, 19, 219] .nil (by kernel_rfl) fun a w hF hE => ?_)
      replace hO := hO.ext hE; clear hE
      refine (W_false (evOp hF (by kernel_rfl)) ?_)
      refine (W_exit ?_)
      refine W_seq (region_seq ?_)
      refine op_call (i := 0) (f := 45) (args := #[]) (d := some 288) TBok (by kernel_rfl) hF (by kernel_rfl) (row_calls3 _) fun e w hR => ?_
      obtain ⟨b274, he, hO2⟩ := hR
      refine ⟨_, he, fun a hF => ?_⟩
      replace hO := hO.joinE hO2; clear hO2 he
      refine op_alloc (i := 1) (t := 25) (d := 33) (z := .agg #[iv 0, iv 0, nl, iv 0, nl, iv 0]) hF hO (by kernel_rfl) (by kernel_rfl) fun a w b275 hF hO _ => ?_
      replace hO : Own w0 none_ [cel b147 #[iv 3, iv 0, iv 0, .bool false] 52, cel b148 #[iv (-1), iv 0, iv 0, .bool false] 52, cel b149 #[iv 0, iv 4, iv 0, .bool false] 52, cel b150 #[iv 0, iv (-1), iv 0, .bool false] 52, cel b151 #[iv 0, iv 0, iv 10, .bool false] 52, cel b152 #[iv 0, iv 0, iv (-1), .bool false] 52, cel b153 zrpC.toArray 52, cel b154 #[sv b147 1 1, sv b148 1 1, sv b149 1 1, sv b150 1 1, sv b151 1 1, sv b152 1 1, sv b153 25 25] 26, cel b274 #[iv 1, iv 0, iv 0, iv 0] 70, cel b275 #[iv 0, iv 0, nl, iv 0, nl, iv 0] 25] w := hO
      refine op_store (i := 2) (t := 25) (p := ⟨b275, 0, none⟩) (v := rw4 b274) (off := 0) (sz := 6) (cs' := #[iv 4, iv 1, nl, iv 3, sv b274 2 2, iv 1]) hF hO (by kernel_rfl) 9 rfl rfl (by kernel_rfl) (by kernel_rfl) (by kernel_rfl) fun a w hF hO _ => ?_
      replace hF := hF.sel [33]
      replace hF : Fr 549 [] [(33, pv b275)] a := hF
      replace hO := hO.drop1 7
      replace hO := hO.drop1 6
      replace hO := hO.drop1 5
      replace hO : Own w0 none_ [cel b147 #[iv 3, iv 0, iv 0, .bool false] 52, cel b148 #[iv (-1), iv 0, iv 0, .bool false] 52, cel b149 #[iv 0, iv 4, iv 0, .bool false] 52, cel b150 #[iv 0, iv (-1), iv 0, .bool false] 52, cel b151 #[iv 0, iv 0, iv 10, .bool false] 52, cel b274 #[iv 1, iv 0, iv 0, iv 0] 70, cel b275 #[iv 4, iv 1, nl, iv 3, sv b274 2 2, iv 1] 25] w := hO
      replace hO := hO.drop1 4
      replace hO := hO.drop1 3
      replace hO := hO.drop1 2
      replace hO := hO.drop1 1
      replace hO : Own w0 none_ [cel b147 #[iv 3, iv 0, iv 0, .bool false] 52, cel b274 #[iv 1, iv 0, iv 0, iv 0] 70, cel b275 #[iv 4, iv 1, nl, iv 3, sv b274 2 2, iv 1] 25] w := hO
      replace hO := hO.drop1 0
      refine W_seq (region_seq ?_)
      refine op_bsl (i := 0) (t := 22) (e := 3) (len := 4) (ps := [(0, iv 0), (1, iv 1), (2, iv 2), (3, iv 3)]) (d := 289) (sz := 1) (cs := #[iv 0, iv 1, iv 2, iv 3]) (z := iv 0) hF hO (by kernel_rfl) (by kernel_rfl) (by kernel_rfl) (by kernel_rfl) (by kernel_rfl) fun a w b276 hF hO _ => ?_
      refine seq_quiet {} TBok hF (F' := [(33, pv b275), (289, sv b276 4 4), (290, .pointer (some ⟨b275, 2, none⟩))]) (rs := []) [1] [2] [33, 289, 290] .nil (by kernel_rfl) fun a w hF hE => ?_
      replace hO := hO.ext hE; clear hE
      refine op_store (i := 2) (t := 22) (p := ⟨b275, 2, none⟩) (v := sv b276 4 4) (off := 2) (sz := 1) (cs' := #[iv 4, iv 1, sv b276 4 4, iv 3, sv b274 2 2, iv 1]) hF hO (by kernel_rfl) 1 rfl rfl (by kernel_rfl) (by kernel_rfl) (by kernel_rfl) fun a w hF hO _ => ?_
      replace hF := hF.sel [33]
      replace hF : Fr 549 [] [(33, pv b275)] a := hF
      refine W_seq (region_seq ?_)
      refine op_call (i := 0) (f := 45) (args := #[]) (d := some 292) TBok (by kernel_rfl) hF (by kernel_rfl) (row_calls3 _) fun e w hR => ?_
      obtain ⟨b277, he, hO2⟩ := hR
      refine ⟨_, he, fun a hF => ?_⟩
      replace hO := hO.joinE hO2; clear hO2 he
      replace hO : Own w0 none_ [cel b274 #[iv 1, iv 0, iv 0, iv 0] 70, cel b275 #[iv 4, iv 1, sv b276 4 4, iv 3, sv b274 2 2, iv 1] 25, cel b276 #[iv 0, iv 1, iv 2, iv 3] 3, cel b277 #[iv 1, iv 0, iv 0, iv 0] 70] w := hO
      refine op_call (i := 1) (f := 46) (args := #[iv 3]) (d := some 293) TBok (by kernel_rfl) hF (by kernel_rfl) (reports_calls 3 _ (by decide)) fun e w hR => ?_
      obtain ⟨b278, he, hO2⟩ := hR
      refine ⟨_, he, fun a hF => ?_⟩
      replace hO := hO.joinE hO2; clear hO2 he
      refine op_call (i := 2) (f := 24) (args := #[rw4 b277, sv b278 3 5, iv 25, iv 0]) (d := some 294) TBok (by kernel_rfl) hF (by kernel_rfl) (Can_calls sa8 (vb b277) (repsL.take 3) (some ⟨b278, 0, none⟩) 3 5 25 0 _ (R4 hO 3 rfl) (rd_cel (enc := encRp) (ys := repsL.take 3) (rest := (repsL.drop 3).flatMap encRp) (fun _ => rfl) hO 4 rfl (by kernel_rfl) rfl (by decide))) fun e w hR => ?_
      obtain ⟨p279, n280, c281, hn282, he, hO2⟩ := hR
      replace he : e = .returned (.tuple #[.slice p279 n280 c281, iv 7]) := he.trans (congrArg Ending.returned (by kernel_rfl))
      refine ⟨_, he, fun a hF => ?_⟩
      replace hO := hO.joinE hO2; clear hO2 he
      refine seq_quiet {} TBok hF (F' := [(33, pv b275), (35, iv 7)]) (rs := []) [3, 4, 5, 6, 7] [] [33, 35] .nil (by kernel_rfl) fun a w hF hE => ?_
      replace hO := hO.ext hE; clear hE
      replace hO := hO.drop1 5
      replace hO := hO.drop1 4
      replace hO : Own w0 none_ [cel b274 #[iv 1, iv 0, iv 0, iv 0] 70, cel b275 #[iv 4, iv 1, sv b276 4 4, iv 3, sv b274 2 2, iv 1] 25, cel b276 #[iv 0, iv 1, iv 2, iv 3] 3, cel b277 #[iv 1, iv 0, iv 0, iv 0] 70] w := hO
      replace hO := hO.drop1 3
      refine W_seq (region_seq ?_)
      refine op_call (i := 0) (f := 45) (args := #[]) (d := some 298) TBok (by kernel_rfl) hF (by kernel_rfl) (row_calls3 _) fun e w hR => ?_
      obtain ⟨b283, he, hO2⟩ := hR
      refine ⟨_, he, fun a hF => ?_⟩
      replace hO := hO.joinE hO2; clear hO2 he
      refine op_call (i := 1) (f := 46) (args := #[iv 3]) (d := some 299) TBok (by kernel_rfl) hF (by kernel_rfl) (reports_calls 3 _ (by decide)) fun e w hR => ?_
      obtain ⟨b284, he, hO2⟩ := hR
      refine ⟨_, he, fun a hF => ?_⟩
      replace hO := hO.joinE hO2; clear hO2 he
      refine op_call (i := 2) (f := 24) (args := #[rw4 b283, sv b284 3 5, iv 0, iv 3]) (d := some 300) TBok (by kernel_rfl) hF (by kernel_rfl) (Can_calls sa8 (vb b283) (repsL.take 3) (some ⟨b284, 0, none⟩) 3 5 0 3 _ (R4 hO 3 rfl) (rd_cel (enc := encRp) (ys := repsL.take 3) (rest := (repsL.drop 3).flatMap encRp) (fun _ => rfl) hO 4 rfl (by kernel_rfl) rfl (by decide))) fun e w hR => ?_
      obtain ⟨p285, n286, c287, hn288, he, hO2⟩ := hR
      replace he : e = .returned (.tuple #[.slice p285 n286 c287, iv 7]) := he.trans (congrArg Ending.returned (by kernel_rfl))
      refine ⟨_, he, fun a hF => ?_⟩
      replace hO := hO.joinE hO2; clear hO2 he
      replace hO : Own w0 none_ [cel b274 #[iv 1, iv 0, iv 0, iv 0] 70, cel b275 #[iv 4, iv 1, sv b276 4 4, iv 3, sv b274 2 2, iv 1] 25, cel b276 #[iv 0, iv 1, iv 2, iv 3] 3, cel b283 #[iv 1, iv 0, iv 0, iv 0] 70, cel b284 #[iv 0, iv 0, iv 0, .bool true, iv 2, iv 3, iv 0, .bool true, iv 1, iv 0, iv 1, .bool true, iv 1, iv 0, iv 1, .bool true, iv 1, iv 0, iv 1, .bool true] 52, rdR encI 1 p285 n286 (canR sa8 (repsL.take 3) 0 3).1] w := hO
      refine seq_quiet {} TBok hF (F' := [(33, pv b275), (35, iv 7), (37, iv 7)]) (rs := []) [3, 4, 5, 6, 7] [] [33, 35, 37] .nil (by kernel_rfl) fun a w hF hE => ?_
      replace hO := hO.ext hE; clear hE
      replace hO := hO.drop1 5
      replace hO := hO.drop1 4
      replace hO := hO.drop1 3
      refine W_seq (region_seq ?_)
      refine op_call (i := 0) (f := 45) (args := #[]) (d := some 304) TBok (by kernel_rfl) hF (by kernel_rfl) (row_calls3 _) fun e w hR => ?_
      obtain ⟨b289, he, hO2⟩ := hR
      refine ⟨_, he, fun a hF => ?_⟩
      replace hO := hO.joinE hO2; clear hO2 he
      replace hO : Own w0 none_ [cel b274 #[iv 1, iv 0, iv 0, iv 0] 70, cel b275 #[iv 4, iv 1, sv b276 4 4, iv 3, sv b274 2 2, iv 1] 25, cel b276 #[iv 0, iv 1, iv 2, iv 3] 3, cel b289 #[iv 1, iv 0, iv 0, iv 0] 70] w := hO
      refine op_call (i := 1) (f := 46) (args := #[iv 3]) (d := some 305) TBok (by kernel_rfl) hF (by kernel_rfl) (reports_calls 3 _ (by decide)) fun e w hR => ?_
      obtain ⟨b290, he, hO2⟩ := hR
      refine ⟨_, he, fun a hF => ?_⟩
      replace hO := hO.joinE hO2; clear hO2 he
      refine op_call (i := 2) (f := 24) (args := #[rw4 b289, sv b290 3 5, iv 0, iv 1]) (d := some 306) TBok (by kernel_rfl) hF (by kernel_rfl) (Can_calls sa8 (vb b289) (repsL.take 3) (some ⟨b290, 0, none⟩) 3 5 0 1 _ (R4 hO 3 rfl) (rd_cel (enc := encRp) (ys := repsL.take 3) (rest := (repsL.drop 3).flatMap encRp) (fun _ => rfl) hO 4 rfl (by kernel_rfl) rfl (by decide))) fun e w hR => ?_
      obtain ⟨p291, n292, c293, hn294, he, hO2⟩ := hR
      replace he : e = .returned (.tuple #[.slice p291 n292 c293, iv 12]) := he.trans (congrArg Ending.returned (by kernel_rfl))
      refine ⟨_, he, fun a hF => ?_⟩
      replace hO := hO.joinE hO2; clear hO2 he
      refine seq_quiet {} TBok hF (F' := [(33, pv b275), (35, iv 7), (37, iv 7), (39, iv 12)]) (rs := []) [3, 4, 5, 6, 7] [] [33, 35, 37, 39] .nil (by kernel_rfl) fun a w hF hE => ?_
      replace hO := hO.ext hE; clear hE
      replace hO := hO.drop1 5
      replace hO := hO.drop1 4
      replace hO : Own w0 none_ [cel b274 #[iv 1, iv 0, iv 0, iv 0] 70, cel b275 #[iv 4, iv 1, sv b276 4 4, iv 3, sv b274 2 2, iv 1] 25, cel b276 #[iv 0, iv 1, iv 2, iv 3] 3, cel b289 #[iv 1, iv 0, iv 0, iv 0] 70] w := hO
      replace hO := hO.drop1 3
      refine W_seq (region_seq ?_)
      refine op_call (i := 0) (f := 45) (args := #[]) (d := some 310) TBok (by kernel_rfl) hF (by kernel_rfl) (row_calls3 _) fun e w hR => ?_
      obtain ⟨b295, he, hO2⟩ := hR
      refine ⟨_, he, fun a hF => ?_⟩
      replace hO := hO.joinE hO2; clear hO2 he
      refine op_call (i := 1) (f := 46) (args := #[iv 3]) (d := some 311) TBok (by kernel_rfl) hF (by kernel_rfl) (reports_calls 3 _ (by decide)) fun e w hR => ?_
      obtain ⟨b296, he, hO2⟩ := hR
      refine ⟨_, he, fun a hF => ?_⟩
      replace hO := hO.joinE hO2; clear hO2 he
      refine seq_quiet {} TBok hF (F' := [(33, pv b275), (35, iv 7), (37, iv 7), (39, iv 12), (42, iv 7)]) (rs := [.call 28 #[rw4 b295, sv b296 3 5, iv 0, iv 3, nl] (.tuple #[iv 0, iv 0, iv 7])]) [2, 3, 4, 5, 6, 7, 8, 9] [] [33, 35, 37, 39, 42] (.cons (fun w hE => calls_cast (Next_calls sa8 (vb b295) (repsL.take 3) (some ⟨b296, 0, none⟩) 3 5 0 3 ([] : List Cs) none 0 0 w (R4 (hO.st w hE) 3 rfl) (rd_cel (enc := encRp) (ys := repsL.take 3) (rest := (repsL.drop 3).flatMap encRp) (fun _ => rfl) (hO.st w hE) 4 rfl (by kernel_rfl) rfl (by decide)) (rd_nil _ _ _) (hci_of (by decide)) (by decide)) (by kernel_rfl)) <| .nil) (by kernel_rfl) fun a w hF hE => ?_
      replace hO := hO.ext hE; clear hE
      replace hO := hO.drop1 4
      replace hO : Own w0 none_ [cel b274 #[iv 1, iv 0, iv 0, iv 0] 70, cel b275 #[iv 4, iv 1, sv b276 4 4, iv 3, sv b274 2 2, iv 1] 25, cel b276 #[iv 0, iv 1, iv 2, iv 3] 3, cel b295 #[iv 1, iv 0, iv 0, iv 0] 70] w := hO
      replace hO := hO.drop1 3
      refine W_seq (region_seq ?_)
      refine op_call (i := 0) (f := 45) (args := #[]) (d := some 317) TBok (by kernel_rfl) hF (by kernel_rfl) (row_calls3 _) fun e w hR => ?_
      obtain ⟨b297, he, hO2⟩ := hR
      refine ⟨_, he, fun a hF => ?_⟩
      replace hO := hO.joinE hO2; clear hO2 he
      refine op_call (i := 1) (f := 46) (args := #[iv 3]) (d := some 318) TBok (by kernel_rfl) hF (by kernel_rfl) (reports_calls 3 _ (by decide)) fun e w hR => ?_
      obtain ⟨b298, he, hO2⟩ := hR
      refine ⟨_, he, fun a hF => ?_⟩
      replace hO := hO.joinE hO2; clear hO2 he
      refine seq_quiet {} TBok hF (F' := [(33, pv b275), (35, iv 7), (37, iv 7), (39, iv 12), (42, iv 7), (45, iv 13)]) (rs := [.call 28 #[rw4 b297, sv b298 3 5, iv 0, iv 1, nl] (.tuple #[iv 0, iv 0, iv 13])]) [2, 3, 4, 5, 6, 7, 8, 9] [] [33, 35, 37, 39, 42, 45] (.cons (fun w hE => calls_cast (Next_calls sa8 (vb b297) (repsL.take 3) (some ⟨b298, 0, none⟩) 3 5 0 1 ([] : List Cs) none 0 0 w (R4 (hO.st w hE) 3 rfl) (rd_cel (enc := encRp) (ys := repsL.take 3) (rest := (repsL.drop 3).flatMap encRp) (fun _ => rfl) (hO.st w hE) 4 rfl (by kernel_rfl) rfl (by decide)) (rd_nil _ _ _) (hci_of (by decide)) (by decide)) (by kernel_rfl)) <| .nil) (by kernel_rfl) fun a w hF hE => ?_
      replace hO := hO.ext hE; clear hE
      replace hO := hO.drop1 4
      replace hO : Own w0 none_ [cel b274 #[iv 1, iv 0, iv 0, iv 0] 70, cel b275 #[iv 4, iv 1, sv b276 4 4, iv 3, sv b274 2 2, iv 1] 25, cel b276 #[iv 0, iv 1, iv 2, iv 3] 3, cel b297 #[iv 1, iv 0, iv 0, iv 0] 70] w := hO
      replace hO := hO.drop1 3
      refine W_seq (region_seq ?_)
      refine op_call (i := 0) (f := 45) (args := #[]) (d := some 324) TBok (by kernel_rfl) hF (by kernel_rfl) (row_calls3 _) fun e w hR => ?_
      obtain ⟨b299, he, hO2⟩ := hR
      refine ⟨_, he, fun a hF => ?_⟩
      replace hO := hO.joinE hO2; clear hO2 he
      refine op_call (i := 1) (f := 46) (args := #[iv 3]) (d := some 325) TBok (by kernel_rfl) hF (by kernel_rfl) (reports_calls 3 _ (by decide)) fun e w hR => ?_
      obtain ⟨b300, he, hO2⟩ := hR
      refine ⟨_, he, fun a hF => ?_⟩
      replace hO := hO.joinE hO2; clear hO2 he
      refine seq_quiet { md := [(2, 3)] } TBok hF (F' := [(33, pv b275), (35, iv 7), (37, iv 7), (39, iv 12), (42, iv 7), (45, iv 13), (324, rw4 b299), (325, sv b300 3 5), (326, .agg #[iv 0, iv 0])]) (rs := [.raw (Instr.build 64 #[]) (.agg #[iv 0, iv 0])]) [2] [3, 4, 5, 6, 7, 8, 9, 10, 11] [33, 35, 37, 39, 42, 45, 324, 325, 326] (.cons (fun w _ => by kernel_rfl) <| .nil) (by kernel_rfl) fun a w hF hE => ?_
      replace hO := hO.ext hE; clear hE
      refine op_bsl (i := 3) (t := 44) (e := 64) (len := 1) (ps := [(0, .agg #[iv 0, iv 0])]) (d := 327) (sz := 2) (cs := #[iv 0, iv 0]) (z := .agg #[iv 0, iv 0]) hF hO (by kernel_rfl) (by kernel_rfl) (by kernel_rfl) (by kernel_rfl) (by kernel_rfl) fun a w b301 hF hO _ => ?_
      replace hO : Own w0 none_ [cel b274 #[iv 1, iv 0, iv 0, iv 0] 70, cel b275 #[iv 4, iv 1, sv b276 4 4, iv 3, sv b274 2 2, iv 1] 25, cel b276 #[iv 0, iv 1, iv 2, iv 3] 3, cel b299 #[iv 1, iv 0, iv 0, iv 0] 70, cel b300 #[iv 0, iv 0, iv 0, .bool true, iv 2, iv 3, iv 0, .bool true, iv 1, iv 0, iv 1, .bool true, iv 1, iv 0, iv 1, .bool true, iv 1, iv 0, iv 1, .bool true] 52, cel b301 #[iv 0, iv 0] 64] w := hO
      refine seq_quiet {} TBok hF (F' := [(33, pv b275), (35, iv 7), (37, iv 7), (39, iv 12), (42, iv 7), (45, iv 13), (48, iv 12)]) (rs := [.call 28 #[rw4 b299, sv b300 3 5, iv 0, iv 1, sv b301 1 1] (.tuple #[iv 0, iv 0, iv 12])]) [4, 5, 6, 7, 8, 9, 10, 11] [] [33, 35, 37, 39, 42, 45, 48] (.cons (fun w hE => calls_cast (Next_calls sa8 (vb b299) (repsL.take 3) (some ⟨b300, 0, none⟩) 3 5 0 1 [⟨0, 0⟩] (some ⟨b301, 0, none⟩) 1 1 w (R4 (hO.st w hE) 3 rfl) (rd_cel (enc := encRp) (ys := repsL.take 3) (rest := (repsL.drop 3).flatMap encRp) (fun _ => rfl) (hO.st w hE) 4 rfl (by kernel_rfl) rfl (by decide)) (rd_cel (enc := encCs) (ys := [⟨0, 0⟩]) (rest := []) (fun _ => rfl) (hO.st w hE) 5 rfl rfl rfl (by decide)) (hci_of (by decide)) (by decide)) (by kernel_rfl)) <| .nil) (by kernel_rfl) fun a w hF hE => ?_
      replace hO := hO.ext hE; clear hE
      replace hO := hO.drop1 5
      replace hO := hO.drop1 4
      replace hO := hO.drop1 3
      refine W_seq (region_seq ?_)
      refine op_call (i := 0) (f := 45) (args := #[]) (d := some 333) TBok (by kernel_rfl) hF (by kernel_rfl) (row_calls3 _) fun e w hR => ?_
      obtain ⟨b302, he, hO2⟩ := hR
      refine ⟨_, he, fun a hF => ?_⟩
      replace hO := hO.joinE hO2; clear hO2 he
      replace hO : Own w0 none_ [cel b274 #[iv 1, iv 0, iv 0, iv 0] 70, cel b275 #[iv 4, iv 1, sv b276 4 4, iv 3, sv b274 2 2, iv 1] 25, cel b276 #[iv 0, iv 1, iv 2, iv 3] 3, cel b302 #[iv 1, iv 0, iv 0, iv 0] 70] w := hO
      refine op_call (i := 1) (f := 46) (args := #[iv 3]) (d := some 334) TBok (by kernel_rfl) hF (by kernel_rfl) (reports_calls 3 _ (by decide)) fun e w hR => ?_
      obtain ⟨b303, he, hO2⟩ := hR
      refine ⟨_, he, fun a hF => ?_⟩
      replace hO := hO.joinE hO2; clear hO2 he
      refine seq_quiet { md := [(2, 3)] } TBok hF (F' := [(33, pv b275), (35, iv 7), (37, iv 7), (39, iv 12), (42, iv 7), (45, iv 13), (48, iv 12), (333, rw4 b302), (334, sv b303 3 5), (335, .agg #[iv 4, iv 0])]) (rs := [.raw (Instr.build 64 #[(0, iv 4)]) (.agg #[iv 4, iv 0])]) [2] [3, 4, 5, 6, 7, 8, 9] [33, 35, 37, 39, 42, 45, 48, 333, 334, 335] (.cons (fun w _ => by kernel_rfl) <| .nil) (by kernel_rfl) fun a w hF hE => ?_
      replace hO := hO.ext hE; clear hE
      refine op_bsl (i := 3) (t := 44) (e := 64) (len := 1) (ps := [(0, .agg #[iv 4, iv 0])]) (d := 336) (sz := 2) (cs := #[iv 4, iv 0]) (z := .agg #[iv 0, iv 0]) hF hO (by kernel_rfl) (by kernel_rfl) (by kernel_rfl) (by kernel_rfl) (by kernel_rfl) fun a w b304 hF hO _ => ?_
      refine op_call (i := 4) (f := 30) (args := #[rw4 b302, sv b303 3 5, iv 0, iv 1, sv b304 1 1]) (d := some 337) TBok (by kernel_rfl) hF (by kernel_rfl) (Sure_calls sa8 (vb b302) (repsL.take 3) (some ⟨b303, 0, none⟩) 3 5 0 1 [⟨4, 0⟩] (some ⟨b304, 0, none⟩) 1 1 _ (R4 hO 3 rfl) (rd_cel (enc := encRp) (ys := repsL.take 3) (rest := (repsL.drop 3).flatMap encRp) (fun _ => rfl) hO 4 rfl (by kernel_rfl) rfl (by decide)) (rd_cel (enc := encCs) (ys := [⟨4, 0⟩]) (rest := []) (fun _ => rfl) hO 5 rfl rfl rfl (by decide)) (hci_of (by decide)) (by decide)) fun e w hR => ?_
      obtain ⟨p305, n306, c307, hn308, he, hO2⟩ := hR
      replace he : e = .returned (.tuple #[.slice p305 n306 c307, iv 13]) := he.trans (congrArg Ending.returned (by kernel_rfl))
      refine ⟨_, he, fun a hF => ?_⟩
      replace hO := hO.joinE hO2; clear hO2 he
      refine seq_quiet {} TBok hF (F' := [(33, pv b275), (35, iv 7), (37, iv 7), (39, iv 12), (42, iv 7), (45, iv 13), (48, iv 12), (50, iv 13)]) (rs := []) [5, 6, 7, 8, 9] [] [33, 35, 37, 39, 42, 45, 48, 50] .nil (by kernel_rfl) fun a w hF hE => ?_
      replace hO := hO.ext hE; clear hE
      replace hO := hO.drop1 6
      replace hO : Own w0 none_ [cel b274 #[iv 1, iv 0, iv 0, iv 0] 70, cel b275 #[iv 4, iv 1, sv b276 4 4, iv 3, sv b274 2 2, iv 1] 25, cel b276 #[iv 0, iv 1, iv 2, iv 3] 3, cel b302 #[iv 1, iv 0, iv 0, iv 0] 70, cel b303 #[iv 0, iv 0, iv 0, .bool true, iv 2, iv 3, iv 0, .bool true, iv 1, iv 0, iv 1, .bool true, iv 1, iv 0, iv 1, .bool true, iv 1, iv 0, iv 1, .bool true] 52, cel b304 #[iv 4, iv 0] 64] w := hO
      replace hO := hO.drop1 5
      replace hO := hO.drop1 4
      replace hO := hO.drop1 3
      refine W_seq (region_seq ?_)
      refine op_call (i := 0) (f := 45) (args := #[]) (d := some 341) TBok (by kernel_rfl) hF (by kernel_rfl) (row_calls3 _) fun e w hR => ?_
      obtain ⟨b309, he, hO2⟩ := hR
      refine ⟨_, he, fun a hF => ?_⟩
      replace hO := hO.joinE hO2; clear hO2 he
      replace hO : Own w0 none_ [cel b274 #[iv 1, iv 0, iv 0, iv 0] 70, cel b275 #[iv 4, iv 1, sv b276 4 4, iv 3, sv b274 2 2, iv 1] 25, cel b276 #[iv 0, iv 1, iv 2, iv 3] 3, cel b309 #[iv 1, iv 0, iv 0, iv 0] 70] w := hO
      refine op_call (i := 1) (f := 46) (args := #[iv 3]) (d := some 342) TBok (by kernel_rfl) hF (by kernel_rfl) (reports_calls 3 _ (by decide)) fun e w hR => ?_
      obtain ⟨b310, he, hO2⟩ := hR
      refine ⟨_, he, fun a hF => ?_⟩
      replace hO := hO.joinE hO2; clear hO2 he
      refine seq_quiet { md := [(2, 3)] } TBok hF (F' := [(33, pv b275), (35, iv 7), (37, iv 7), (39, iv 12), (42, iv 7), (45, iv 13), (48, iv 12), (50, iv 13), (341, rw4 b309), (342, sv b310 3 5), (343, .agg #[iv 0, iv 0])]) (rs := [.raw (Instr.build 64 #[]) (.agg #[iv 0, iv 0])]) [2] [3, 4, 5, 6, 7, 8, 9] [33, 35, 37, 39, 42, 45, 48, 50, 341, 342, 343] (.cons (fun w _ => by kernel_rfl) <| .nil) (by kernel_rfl) fun a w hF hE => ?_
      replace hO := hO.ext hE; clear hE
      refine op_bsl (i := 3) (t := 44) (e := 64) (len := 1) (ps := [(0, .agg #[iv 0, iv 0])]) (d := 344) (sz := 2) (cs := #[iv 0, iv 0]) (z := .agg #[iv 0, iv 0]) hF hO (by kernel_rfl) (by kernel_rfl) (by kernel_rfl) (by kernel_rfl) (by kernel_rfl) fun a w b311 hF hO _ => ?_
      refine op_call (i := 4) (f := 30) (args := #[rw4 b309, sv b310 3 5, iv 1, iv 1, sv b311 1 1]) (d := some 345) TBok (by kernel_rfl) hF (by kernel_rfl) (Sure_calls sa8 (vb b309) (repsL.take 3) (some ⟨b310, 0, none⟩) 3 5 1 1 [⟨0, 0⟩] (some ⟨b311, 0, none⟩) 1 1 _ (R4 hO 3 rfl) (rd_cel (enc := encRp) (ys := repsL.take 3) (rest := (repsL.drop 3).flatMap encRp) (fun _ => rfl) hO 4 rfl (by kernel_rfl) rfl (by decide)) (rd_cel (enc := encCs) (ys := [⟨0, 0⟩]) (rest := []) (fun _ => rfl) hO 5 rfl rfl rfl (by decide)) (hci_of (by decide)) (by decide)) fun e w hR => ?_
      obtain ⟨p312, n313, c314, hn315, he, hO2⟩ := hR
      replace he : e = .returned (.tuple #[.slice p312 n313 c314, iv 4]) := he.trans (congrArg Ending.returned (by kernel_rfl))
      refine ⟨_, he, fun a hF => ?_⟩
      replace hO := hO.joinE hO2; clear hO2 he
      refine seq_quiet {} TBok hF (F' := [(33, pv b275), (35, iv 7), (37, iv 7), (39, iv 12), (42, iv 7), (45, iv 13), (48, iv 12), (50, iv 13), (52, iv 4)]) (rs := []) [5, 6, 7, 8, 9] [] [33, 35, 37, 39, 42, 45, 48, 50, 52] .nil (by kernel_rfl) fun a w hF hE => ?_
      replace hO := hO.ext hE; clear hE
      replace hO := hO.drop1 6
      replace hO : Own w0 none_ [cel b274 #[iv 1, iv 0, iv 0, iv 0] 70, cel b275 #[iv 4, iv 1, sv b276 4 4, iv 3, sv b274 2 2, iv 1] 25, cel b276 #[iv 0, iv 1, iv 2, iv 3] 3, cel b309 #[iv 1, iv 0, iv 0, iv 0] 70, cel b310 #[iv 0, iv 0, iv 0, .bool true, iv 2, iv 3, iv 0, .bool true, iv 1, iv 0, iv 1, .bool true, iv 1, iv 0, iv 1, .bool true, iv 1, iv 0, iv 1, .bool true] 52, cel b311 #[iv 0, iv 0] 64] w := hO
      replace hO := hO.drop1 5
      replace hO := hO.drop1 4
      replace hO := hO.drop1 3
      refine W_seq (region_seq ?_)
      refine seq_quiet {} TBok hF (F' := [(33, pv b275), (35, iv 7), (37, iv 7), (39, iv 12), (42, iv 7), (45, iv 13), (48, iv 12), (50, iv 13), (52, iv 4), (349, .agg #[iv 4, iv 1, sv b276 4 4, iv 3, sv b274 2 2, iv 1])]) (rs := [.lds ⟨b275, 0, none⟩ [iv 4, iv 1, sv b276 4 4, iv 3, sv b274 2 2, iv 1]]) [0] [1, 2, 3, 4, 5, 6, 7, 8] [33, 35, 37, 39, 42, 45, 48, 50, 52, 349] (.cons (ldso hO.st 1 rfl 0 rfl) <| .nil) (by kernel_rfl) fun a w hF hE => ?_
      replace hO := hO.ext hE; clear hE
      refine op_call (i := 1) (f := 20) (args := #[.agg #[iv 4, iv 1, sv b276 4 4, iv 3, sv b274 2 2, iv 1], nl]) (d := some 350) TBok (by kernel_rfl) hF (by kernel_rfl) (Least_calls sa9 (⟨(some ⟨b276, 0, none⟩), 4, 4, (some ⟨b274, 0, none⟩), 2, 2⟩ : SV) ([] : List Rp) none 0 0 _ (lit_R (some ⟨b276, 0, none⟩) 4 4 (some ⟨b274, 0, none⟩) 2 2 sa9 (rd_cel (enc := encI) (ys := [0, 1, 2, 3]) (rest := []) (fun _ => rfl) hO 2 rfl rfl rfl (by decide)) (rd4 hO 0 rfl)) (rd_nil _ _ _)) fun e w hR => ?_
      obtain ⟨p316, n317, c318, hn319, he, hO2⟩ := hR
      replace he : e = .returned (.tuple #[iv 0, .slice p316 n317 c318, iv 4]) := he.trans (congrArg Ending.returned (by kernel_rfl))
      refine ⟨_, he, fun a hF => ?_⟩
      replace hO := hO.joinE hO2; clear hO2 he
      replace hO : Own w0 none_ [cel b274 #[iv 1, iv 0, iv 0, iv 0] 70, cel b275 #[iv 4, iv 1, sv b276 4 4, iv 3, sv b274 2 2, iv 1] 25, cel b276 #[iv 0, iv 1, iv 2, iv 3] 3, rdR encI 1 p316 n317 (leastR sa9 ([] : List Rp)).2.1] w := hO
      refine seq_quiet {} TBok hF (F' := [(33, pv b275), (35, iv 7), (37, iv 7), (39, iv 12), (42, iv 7), (45, iv 13), (48, iv 12), (50, iv 13), (52, iv 4), (55, iv 4)]) (rs := []) [2, 3, 4, 5, 6, 7, 8] [] [33, 35, 37, 39, 42, 45, 48, 50, 52, 55] .nil (by kernel_rfl) fun a w hF hE => ?_
      replace hO := hO.ext hE; clear hE
      replace hO := hO.drop1 3
      refine W_seq (region_seq ?_)
      refine seq_quiet {} TBok hF (F' := [(33, pv b275), (35, iv 7), (37, iv 7), (39, iv 12), (42, iv 7), (45, iv 13), (48, iv 12), (50, iv 13), (52, iv 4), (55, iv 4), (355, .agg #[iv 4, iv 1, sv b276 4 4, iv 3, sv b274 2 2, iv 1])]) (rs := [.lds ⟨b275, 0, none⟩ [iv 4, iv 1, sv b276 4 4, iv 3, sv b274 2 2, iv 1]]) [0] [1, 2, 3, 4, 5, 6] [33, 35, 37, 39, 42, 45, 48, 50, 52, 55, 355] (.cons (ldso hO.st 1 rfl 0 rfl) <| .nil) (by kernel_rfl) fun a w hF hE => ?_
      replace hO := hO.ext hE; clear hE
      refine op_call (i := 1) (f := 26) (args := #[.agg #[iv 4, iv 1, sv b276 4 4, iv 3, sv b274 2 2, iv 1], nl]) (d := some 356) TBok (by kernel_rfl) hF (by kernel_rfl) (Liars_calls sa9 (⟨(some ⟨b276, 0, none⟩), 4, 4, (some ⟨b274, 0, none⟩), 2, 2⟩ : SV) ([] : List Rp) none 0 0  _ (lit_R (some ⟨b276, 0, none⟩) 4 4 (some ⟨b274, 0, none⟩) 2 2 sa9 (rd_cel (enc := encI) (ys := [0, 1, 2, 3]) (rest := []) (fun _ => rfl) hO 2 rfl rfl rfl (by decide)) (rd4 hO 0 rfl)) (rd_nil _ _ _)) fun e w hR => ?_
      obtain ⟨p320, n321, c322, hn323, he, hO2⟩ := hR
      replace he : e = .returned (.tuple #[.slice p320 n321 c322, iv 4]) := he.trans (congrArg Ending.returned (by kernel_rfl))
      refine ⟨_, he, fun a hF => ?_⟩
      replace hO := hO.joinE hO2; clear hO2 he
      refine seq_quiet {} TBok hF (F' := [(33, pv b275), (35, iv 7), (37, iv 7), (39, iv 12), (42, iv 7), (45, iv 13), (48, iv 12), (50, iv 13), (52, iv 4), (55, iv 4), (57, iv 4)]) (rs := []) [2, 3, 4, 5, 6] [] [33, 35, 37, 39, 42, 45, 48, 50, 52, 55, 57] .nil (by kernel_rfl) fun a w hF hE => ?_
      replace hO := hO.ext hE; clear hE
      replace hO := hO.drop1 3
      refine W_seq (region_seq ?_)
      refine seq_quiet {} TBok hF (F' := [(35, iv 7), (37, iv 7), (39, iv 12), (42, iv 7), (45, iv 13), (48, iv 12), (50, iv 13), (52, iv 4), (55, iv 4), (57, iv 4), (360, .agg #[iv 4, iv 1, sv b276 4 4, iv 3, sv b274 2 2, iv 1])]) (rs := [.lds ⟨b275, 0, none⟩ [iv 4, iv 1, sv b276 4 4, iv 3, sv b274 2 2, iv 1]]) [0] [1, 2, 3, 4, 5, 6] [35, 37, 39, 42, 45, 48, 50, 52, 55, 57, 360] (.cons (ldso hO.st 1 rfl 0 rfl) <| .nil) (by kernel_rfl) fun a w hF hE => ?_
      replace hO := hO.ext hE; clear hE
      refine op_call (i := 1) (f := 24) (args := #[.agg #[iv 4, iv 1, sv b276 4 4, iv 3, sv b274 2 2, iv 1], nl, iv 24, iv 0]) (d := some 361) TBok (by kernel_rfl) hF (by kernel_rfl) (Can_calls sa9 (⟨(some ⟨b276, 0, none⟩), 4, 4, (some ⟨b274, 0, none⟩), 2, 2⟩ : SV) ([] : List Rp) none 0 0 24 0 _ (lit_R (some ⟨b276, 0, none⟩) 4 4 (some ⟨b274, 0, none⟩) 2 2 sa9 (rd_cel (enc := encI) (ys := [0, 1, 2, 3]) (rest := []) (fun _ => rfl) hO 2 rfl rfl rfl (by decide)) (rd4 hO 0 rfl)) (rd_nil _ _ _)) fun e w hR => ?_
      obtain ⟨p324, n325, c326, hn327, he, hO2⟩ := hR
      replace he : e = .returned (.tuple #[.slice p324 n325 c326, iv 12]) := he.trans (congrArg Ending.returned (by kernel_rfl))
      refine ⟨_, he, fun a hF => ?_⟩
      replace hO := hO.joinE hO2; clear hO2 he
      replace hO : Own w0 none_ [cel b274 #[iv 1, iv 0, iv 0, iv 0] 70, cel b275 #[iv 4, iv 1, sv b276 4 4, iv 3, sv b274 2 2, iv 1] 25, cel b276 #[iv 0, iv 1, iv 2, iv 3] 3, rdR encI 1 p324 n325 (canR sa9 ([] : List Rp) 24 0).1] w := hO
      refine seq_quiet {} TBok hF (F' := [(35, iv 7), (37, iv 7), (39, iv 12), (42, iv 7), (45, iv 13), (48, iv 12), (50, iv 13), (52, iv 4), (55, iv 4), (57, iv 4), (59, iv 12)]) (rs := []) [2, 3, 4, 5, 6] [] [35, 37, 39, 42, 45, 48, 50, 52, 55, 57, 59] .nil (by kernel_rfl) fun a w hF hE => ?_
      replace hO := hO.ext hE; clear hE
      replace hO := hO.drop1 3
      replace hO := hO.drop1 1
      replace hO := hO.drop1 0
      replace hO := hO.drop1 0
      replace hO : Own w0 none_ [] w := hO
      refine W_seq (W_cut (fun a w => ∃ b328x : Nat, ∃ b329x : Nat, Fr 549 [] [(35, iv 7), (37, iv 7), (39, iv 12), (42, iv 7), (45, iv 13), (48, iv 12), (50, iv 13), (52, iv 4), (55, iv 4), (57, iv 4), (59, iv 12), (62, iv 13)] a ∧ Own w0 none_ [cel b328x #[iv 1, iv 0, iv 0, iv 0] 70, cel b329x #[iv 0, iv 0, iv 0, iv 0, iv 0, iv 0, iv 0, iv 0, iv 0, iv 0, iv 0, iv 0, iv 0, iv 0, iv 0, iv 0, iv 0, iv 0] 64] w) (draw_start (R := none_) mixed [] 10 (by kernel_rfl) fun w hS => ?_) ?_)
      · replace hO := hO.ext hS
        refine any_pick (rs := [0, 1]) (by kernel_rfl) (by simp) fun w hE => all2 ?_ ?_
        · replace hO := hO.ext hE; replace hS := hS.trans (Ext.kp hE)
          refine op_call (i := 0) (f := 45) (args := #[]) (d := some 365) TBok (by kernel_rfl) hF (by kernel_rfl) (row_calls3 _) fun e w hR => ?_
          obtain ⟨b428, he, hO2⟩ := hR
          refine ⟨_, he, fun a hF => ⟨.inr (hS.trans (Ext.kp hO2.kp)), ?_⟩⟩
          replace hS := hS.trans (Ext.kp hO2.kp)
          replace hO := hO.joinE hO2; clear hO2 he
          refine any_pick (rs := [1]) (by kernel_rfl) (by simp) fun w hE => all1 ?_
          replace hO := hO.ext hE; replace hS := hS.trans (Ext.kp hE)
          refine op_mslL (k := 1) (t := 44) (e := 64) (N := 9) (sz := 2) (z := .agg #[iv 0, iv 0]) (d := 366) (cs := #[iv 0, iv 0, iv 0, iv 0, iv 0, iv 0, iv 0, iv 0, iv 0, iv 0, iv 0, iv 0, iv 0, iv 0, iv 0, iv 0, iv 0, iv 0]) rfl hF hO (by kernel_rfl) (by kernel_rfl) (by kernel_rfl) (by kernel_rfl) (by decide) (by kernel_rfl) fun a w b429 hF hO hx => ⟨.inr (hS.trans (Ext.kp hx.1)), ?_⟩
          have hf_b429 := Nat.le_trans hS.size hx.2; replace hS := hS.trans (Ext.kp hx.1); clear hx
          refine draw_q {} TBok hF hS (F' := [(35, iv 7), (37, iv 7), (39, iv 12), (42, iv 7), (45, iv 13), (48, iv 12), (50, iv 13), (52, iv 4), (55, iv 4), (57, iv 4), (59, iv 12), (62, iv 13)]) (rs := [.call 28 #[rw4 b428, nl, iv 0, iv 0, sv b429 9 9] (.tuple #[iv 0, iv 0, iv 13])]) [2, 3, 4, 5, 6, 7, 8, 9] 8 0 (by kernel_rfl) #[true, true, true, true, true, true, true, true, true, true] [35, 37, 39, 42, 45, 48, 50, 52, 55, 57, 59, 62] (.cons (fun w hE => calls_cast (Next_calls sa8 (vb b428) ([] : List Rp) none 0 0 0 0 [⟨0, 0⟩, ⟨0, 0⟩, ⟨0, 0⟩, ⟨0, 0⟩, ⟨0, 0⟩, ⟨0, 0⟩, ⟨0, 0⟩, ⟨0, 0⟩, ⟨0, 0⟩] (some ⟨b429, 0, none⟩) 9 9 w (R4 (hO.st w hE) 0 rfl) (rd_nil _ _ _) (rd_cel (enc := encCs) (ys := [⟨0, 0⟩, ⟨0, 0⟩, ⟨0, 0⟩, ⟨0, 0⟩, ⟨0, 0⟩, ⟨0, 0⟩, ⟨0, 0⟩, ⟨0, 0⟩, ⟨0, 0⟩]) (rest := []) (fun _ => rfl) (hO.st w hE) 1 rfl rfl rfl (by decide)) (hci_of (by decide)) (by decide)) (by kernel_rfl)) <| .nil) (by kernel_rfl) (by kernel_rfl) fun a hF => ?_
          replace hS := Kp.refl none_ w
          refine any_done (by kernel_rfl) (fun w hE => ?_) _
          replace hO := hO.ext hE
          replace hF := hF.sel [35, 37, 39, 42, 45, 48, 50, 52, 55, 57, 59, 62]
          replace hF : Fr 549 [] [(35, iv 7), (37, iv 7), (39, iv 12), (42, iv 7), (45, iv 13), (48, iv 12), (50, iv 13), (52, iv 4), (55, iv 4), (57, iv 4), (59, iv 12), (62, iv 13)] a := hF
          exact ⟨rfl, b428, b429, hF, hO.sel [0, 1] (by decide)⟩
        · replace hO := hO.ext hE; replace hS := hS.trans (Ext.kp hE)
          refine op_mslL (k := 1) (t := 44) (e := 64) (N := 9) (sz := 2) (z := .agg #[iv 0, iv 0]) (d := 366) (cs := #[iv 0, iv 0, iv 0, iv 0, iv 0, iv 0, iv 0, iv 0, iv 0, iv 0, iv 0, iv 0, iv 0, iv 0, iv 0, iv 0, iv 0, iv 0]) rfl hF hO (by kernel_rfl) (by kernel_rfl) (by kernel_rfl) (by kernel_rfl) (by decide) (by kernel_rfl) fun a w b430 hF hO hx => ⟨.inr (hS.trans (Ext.kp hx.1)), ?_⟩
          have hf_b430 := Nat.le_trans hS.size hx.2; replace hS := hS.trans (Ext.kp hx.1); clear hx
          refine any_pick (rs := [0]) (by kernel_rfl) (by simp) fun w hE => all1 ?_
          replace hO := hO.ext hE; replace hS := hS.trans (Ext.kp hE)
          refine op_call (i := 0) (f := 45) (args := #[]) (d := some 365) TBok (by kernel_rfl) hF (by kernel_rfl) (row_calls3 _) fun e w hR => ?_
          obtain ⟨b431, he, hO2⟩ := hR
          refine ⟨_, he, fun a hF => ⟨.inr (hS.trans (Ext.kp hO2.kp)), ?_⟩⟩
          replace hS := hS.trans (Ext.kp hO2.kp)
          replace hO := hO.joinE hO2; clear hO2 he
          refine draw_q {} TBok hF hS (F' := [(35, iv 7), (37, iv 7), (39, iv 12), (42, iv 7), (45, iv 13), (48, iv 12), (50, iv 13), (52, iv 4), (55, iv 4), (57, iv 4), (59, iv 12), (62, iv 13)]) (rs := [.call 28 #[rw4 b431, nl, iv 0, iv 0, sv b430 9 9] (.tuple #[iv 0, iv 0, iv 13])]) [2, 3, 4, 5, 6, 7, 8, 9] 8 0 (by kernel_rfl) #[true, true, true, true, true, true, true, true, true, true] [35, 37, 39, 42, 45, 48, 50, 52, 55, 57, 59, 62] (.cons (fun w hE => calls_cast (Next_calls sa8 (vb b431) ([] : List Rp) none 0 0 0 0 [⟨0, 0⟩, ⟨0, 0⟩, ⟨0, 0⟩, ⟨0, 0⟩, ⟨0, 0⟩, ⟨0, 0⟩, ⟨0, 0⟩, ⟨0, 0⟩, ⟨0, 0⟩] (some ⟨b430, 0, none⟩) 9 9 w (R4 (hO.st w hE) 1 rfl) (rd_nil _ _ _) (rd_cel (enc := encCs) (ys := [⟨0, 0⟩, ⟨0, 0⟩, ⟨0, 0⟩, ⟨0, 0⟩, ⟨0, 0⟩, ⟨0, 0⟩, ⟨0, 0⟩, ⟨0, 0⟩, ⟨0, 0⟩]) (rest := []) (fun _ => rfl) (hO.st w hE) 0 rfl rfl rfl (by decide)) (hci_of (by decide)) (by decide)) (by kernel_rfl)) <| .nil) (by kernel_rfl) (by kernel_rfl) fun a hF => ?_
          replace hS := Kp.refl none_ w
          refine any_done (by kernel_rfl) (fun w hE => ?_) _
          replace hO := hO.ext hE
          replace hF := hF.sel [35, 37, 39, 42, 45, 48, 50, 52, 55, 57, 59, 62]
          replace hF : Fr 549 [] [(35, iv 7), (37, iv 7), (39, iv 12), (42, iv 7), (45, iv 13), (48, iv 12), (50, iv 13), (52, iv 4), (55, iv 4), (57, iv 4), (59, iv 12), (62, iv 13)] a := hF
          exact ⟨rfl, b431, b430, hF, hO.sel [1, 0] (by decide)⟩
      clear hF hO
      rintro a w ⟨b328x, b329x, hF, hO⟩
      refine W_seq ?_
      replace hO := hO.drop1 1
      replace hO := hO.drop1 0
      replace hO : Own w0 none_ [] w := hO
      refine W_seq (region_q {} TBok hF (F' := [(35, iv 7), (37, iv 7), (39, iv 12), (42, iv 7), (45, iv 13), (48, iv 12), (50, iv 13), (52, iv 4), (416, .bool false)]) (rs := []) [35, 37, 39, 42, 45, 48, 50, 52, 416] .nil (by kernel_rfl) fun a w hF hE => ?_)
      replace hO := hO.ext hE; clear hE
      refine (W_false (evOp hF (by kernel_rfl)) ?_)
      refine (W_skip ?_)
      refine W_seq (region_seq ?_)
      refine op_call (i := 0) (f := 45) (args := #[]) (d := some 418) TBok (by kernel_rfl) hF (by kernel_rfl) (row_calls3 _) fun e w hR => ?_
      obtain ⟨b432, he, hO2⟩ := hR
      refine ⟨_, he, fun a hF => ?_⟩
      replace hO := hO.joinE hO2; clear hO2 he
      refine op_call (i := 1) (f := 46) (args := #[iv 2]) (d := some 419) TBok (by kernel_rfl) hF (by kernel_rfl) (reports_calls 2 _ (by decide)) fun e w hR => ?_
      obtain ⟨b433, he, hO2⟩ := hR
      refine ⟨_, he, fun a hF => ?_⟩
      replace hO := hO.joinE hO2; clear hO2 he
      refine op_bsl (i := 2) (t := 22) (e := 3) (len := 3) (ps := [(0, iv 0), (1, iv 0), (2, iv 3)]) (d := 420) (sz := 1) (cs := #[iv 0, iv 0, iv 3]) (z := iv 0) hF hO (by kernel_rfl) (by kernel_rfl) (by kernel_rfl) (by kernel_rfl) (by kernel_rfl) fun a w b434 hF hO _ => ?_
      refine seq_quiet {} TBok hF (F' := [(35, iv 0), (37, iv 7), (39, iv 12), (42, iv 7), (45, iv 13), (48, iv 12), (50, iv 13), (52, iv 4), (64, .bool false)]) (rs := [.call 16 #[rw4 b432, sv b433 2 5, sv b434 3 3] (.tuple #[iv 0, .bool false, iv 0])]) [3, 4, 5, 6, 7, 8, 9, 10] [] [35, 37, 39, 42, 45, 48, 50, 52, 64] (.cons (fun w hE => calls_cast (IsTrack_calls sa8 (vb b432) (repsL.take 2) (some ⟨b433, 0, none⟩) 2 5 [0, 0, 3] (some ⟨b434, 0, none⟩) 3 3 w (R4 (hO.st w hE) 0 rfl) (rd_cel (enc := encRp) (ys := repsL.take 2) (rest := (repsL.drop 2).flatMap encRp) (fun _ => rfl) (hO.st w hE) 1 rfl (by kernel_rfl) rfl (by decide)) (rd_cel (enc := encI) (ys := [0, 0, 3]) (rest := []) (fun _ => rfl) (hO.st w hE) 2 rfl rfl rfl (by decide))) (by kernel_rfl)) <| .nil) (by kernel_rfl) fun a w hF hE => ?_
      replace hO := hO.ext hE; clear hE
      replace hO := hO.drop1 2
      replace hO : Own w0 none_ [cel b432 #[iv 1, iv 0, iv 0, iv 0] 70, cel b433 #[iv 0, iv 0, iv 0, .bool true, iv 2, iv 3, iv 0, .bool true, iv 1, iv 0, iv 1, .bool true, iv 1, iv 0, iv 1, .bool true, iv 1, iv 0, iv 1, .bool true] 52] w := hO
      replace hO := hO.drop1 1
      replace hO := hO.drop1 0
      refine W_seq (region_seq ?_)
      refine op_call (i := 0) (f := 45) (args := #[]) (d := some 426) TBok (by kernel_rfl) hF (by kernel_rfl) (row_calls3 _) fun e w hR => ?_
      obtain ⟨b435, he, hO2⟩ := hR
      refine ⟨_, he, fun a hF => ?_⟩
      replace hO := hO.joinE hO2; clear hO2 he
      refine op_call (i := 1) (f := 46) (args := #[iv 2]) (d := some 427) TBok (by kernel_rfl) hF (by kernel_rfl) (reports_calls 2 _ (by decide)) fun e w hR => ?_
      obtain ⟨b436, he, hO2⟩ := hR
      refine ⟨_, he, fun a hF => ?_⟩
      replace hO := hO.joinE hO2; clear hO2 he
      replace hO : Own w0 none_ [cel b435 #[iv 1, iv 0, iv 0, iv 0] 70, cel b436 #[iv 0, iv 0, iv 0, .bool true, iv 2, iv 3, iv 0, .bool true, iv 1, iv 0, iv 1, .bool true, iv 1, iv 0, iv 1, .bool true, iv 1, iv 0, iv 1, .bool true] 52] w := hO
      refine op_bsl (i := 2) (t := 22) (e := 3) (len := 3) (ps := [(0, iv 1), (1, iv 1), (2, iv 0)]) (d := 428) (sz := 1) (cs := #[iv 1, iv 1, iv 0]) (z := iv 0) hF hO (by kernel_rfl) (by kernel_rfl) (by kernel_rfl) (by kernel_rfl) (by kernel_rfl) fun a w b437 hF hO _ => ?_
      refine seq_quiet {} TBok hF (F' := [(35, iv 0), (37, iv 0), (39, iv 12), (42, iv 7), (45, iv 13), (48, iv 12), (50, iv 13), (52, iv 4), (64, .bool false), (65, iv 2), (66, .bool true)]) (rs := [.call 16 #[rw4 b435, sv b436 2 5, sv b437 3 3] (.tuple #[iv 2, .bool true, iv 0])]) [3, 4, 5, 6, 7, 8, 9, 10] [] [35, 37, 39, 42, 45, 48, 50, 52, 64, 65, 66] (.cons (fun w hE => calls_cast (IsTrack_calls sa8 (vb b435) (repsL.take 2) (some ⟨b436, 0, none⟩) 2 5 [1, 1, 0] (some ⟨b437, 0, none⟩) 3 3 w (R4 (hO.st w hE) 0 rfl) (rd_cel (enc := encRp) (ys := repsL.take 2) (rest := (repsL.drop 2).flatMap encRp) (fun _ => rfl) (hO.st w hE) 1 rfl (by kernel_rfl) rfl (by decide)) (rd_cel (enc := encI) (ys := [1, 1, 0]) (rest := []) (fun _ => rfl) (hO.st w hE) 2 rfl rfl rfl (by decide))) (by kernel_rfl)) <| .nil) (by kernel_rfl) fun a w hF hE => ?_
      replace hO := hO.ext hE; clear hE
      replace hO := hO.drop1 2
      replace hO := hO.drop1 1
      replace hO := hO.drop1 0
      replace hO : Own w0 none_ [] w := hO
      refine W_seq (region_seq ?_)
      refine op_call (i := 0) (f := 45) (args := #[]) (d := some 434) TBok (by kernel_rfl) hF (by kernel_rfl) (row_calls3 _) fun e w hR => ?_
      obtain ⟨b438, he, hO2⟩ := hR
      refine ⟨_, he, fun a hF => ?_⟩
      replace hO := hO.joinE hO2; clear hO2 he
      refine op_bsl (i := 1) (t := 22) (e := 3) (len := 2) (ps := [(0, iv 0), (1, iv 0)]) (d := 435) (sz := 1) (cs := #[iv 0, iv 0]) (z := iv 0) hF hO (by kernel_rfl) (by kernel_rfl) (by kernel_rfl) (by kernel_rfl) (by kernel_rfl) fun a w b439 hF hO _ => ?_
      refine seq_quiet {} TBok hF (F' := [(35, iv 0), (37, iv 0), (39, iv 0), (42, iv 7), (45, iv 13), (48, iv 12), (50, iv 13), (52, iv 4), (64, .bool false), (65, iv 2), (66, .bool true), (68, .bool false)]) (rs := [.call 16 #[rw4 b438, nl, sv b439 2 2] (.tuple #[iv 0, .bool false, iv 0])]) [2, 3, 4, 5, 6, 7, 8, 9] [] [35, 37, 39, 42, 45, 48, 50, 52, 64, 65, 66, 68] (.cons (fun w hE => calls_cast (IsTrack_calls sa8 (vb b438) ([] : List Rp) none 0 0 [0, 0] (some ⟨b439, 0, none⟩) 2 2 w (R4 (hO.st w hE) 0 rfl) (rd_nil _ _ _) (rd_cel (enc := encI) (ys := [0, 0]) (rest := []) (fun _ => rfl) (hO.st w hE) 1 rfl rfl rfl (by decide))) (by kernel_rfl)) <| .nil) (by kernel_rfl) fun a w hF hE => ?_
      replace hO := hO.ext hE; clear hE
      replace hO := hO.drop1 1
      replace hO := hO.drop1 0
      replace hO : Own w0 none_ [] w := hO
      refine W_seq (region_seq ?_)
      refine op_call (i := 0) (f := 45) (args := #[]) (d := some 441) TBok (by kernel_rfl) hF (by kernel_rfl) (row_calls3 _) fun e w hR => ?_
      obtain ⟨b440, he, hO2⟩ := hR
      refine ⟨_, he, fun a hF => ?_⟩
      replace hO := hO.joinE hO2; clear hO2 he
      refine op_call (i := 1) (f := 46) (args := #[iv 2]) (d := some 442) TBok (by kernel_rfl) hF (by kernel_rfl) (reports_calls 2 _ (by decide)) fun e w hR => ?_
      obtain ⟨b441, he, hO2⟩ := hR
      refine ⟨_, he, fun a hF => ?_⟩
      replace hO := hO.joinE hO2; clear hO2 he
      refine op_call (i := 2) (f := 24) (args := #[rw4 b440, sv b441 2 5, iv 0, iv 1]) (d := some 443) TBok (by kernel_rfl) hF (by kernel_rfl) (Can_calls sa8 (vb b440) (repsL.take 2) (some ⟨b441, 0, none⟩) 2 5 0 1 _ (R4 hO 0 rfl) (rd_cel (enc := encRp) (ys := repsL.take 2) (rest := (repsL.drop 2).flatMap encRp) (fun _ => rfl) hO 1 rfl (by kernel_rfl) rfl (by decide))) fun e w hR => ?_
      obtain ⟨p442, n443, c444, hn445, he, hO2⟩ := hR
      replace he : e = .returned (.tuple #[.slice p442 n443 c444, iv 0]) := he.trans (congrArg Ending.returned (by kernel_rfl))
      refine ⟨_, he, fun a hF => ?_⟩
      replace hO := hO.joinE hO2; clear hO2 he
      refine seq_quiet {} TBok hF (F' := [(35, iv 0), (37, iv 0), (39, iv 0), (42, iv 0), (45, iv 13), (48, iv 12), (50, iv 13), (52, iv 4), (64, .bool false), (65, iv 2), (66, .bool true), (68, .bool false), (69, .slice p442 n443 c444)]) (rs := []) [3, 4, 5, 6, 7] [] [35, 37, 39, 42, 45, 48, 50, 52, 64, 65, 66, 68, 69] .nil (by kernel_rfl) fun a w hF hE => ?_
      replace hO := hO.ext hE; clear hE
      replace hO := hO.drop1 1
      replace hO : Own w0 none_ [cel b440 #[iv 1, iv 0, iv 0, iv 0] 70, rdR encI 1 p442 n443 (canR sa8 (repsL.take 2) 0 1).1] w := hO
      replace hO := hO.drop1 0
      refine W_seq (region_seq ?_)
      refine op_call (i := 0) (f := 45) (args := #[]) (d := some 447) TBok (by kernel_rfl) hF (by kernel_rfl) (row_calls3 _) fun e w hR => ?_
      obtain ⟨b446, he, hO2⟩ := hR
      refine ⟨_, he, fun a hF => ?_⟩
      replace hO := hO.joinE hO2; clear hO2 he
      refine op_call (i := 1) (f := 46) (args := #[iv 3]) (d := some 448) TBok (by kernel_rfl) hF (by kernel_rfl) (reports_calls 3 _ (by decide)) fun e w hR => ?_
      obtain ⟨b447, he, hO2⟩ := hR
      refine ⟨_, he, fun a hF => ?_⟩
      replace hO := hO.joinE hO2; clear hO2 he
      refine op_call (i := 2) (f := 24) (args := #[rw4 b446, sv b447 3 5, iv 2, iv 1]) (d := some 449) TBok (by kernel_rfl) hF (by kernel_rfl) (Can_calls sa8 (vb b446) (repsL.take 3) (some ⟨b447, 0, none⟩) 3 5 2 1 _ (R4 hO 1 rfl) (rd_cel (enc := encRp) (ys := repsL.take 3) (rest := (repsL.drop 3).flatMap encRp) (fun _ => rfl) hO 2 rfl (by kernel_rfl) rfl (by decide))) fun e w hR => ?_
      obtain ⟨p448, n449, c450, hn451, he, hO2⟩ := hR
      replace he : e = .returned (.tuple #[.slice p448 n449 c450, iv 0]) := he.trans (congrArg Ending.returned (by kernel_rfl))
      refine ⟨_, he, fun a hF => ?_⟩
      replace hO := hO.joinE hO2; clear hO2 he
      replace hO : Own w0 none_ [rdR encI 1 p442 n443 (canR sa8 (repsL.take 2) 0 1).1, cel b446 #[iv 1, iv 0, iv 0, iv 0] 70, cel b447 #[iv 0, iv 0, iv 0, .bool true, iv 2, iv 3, iv 0, .bool true, iv 1, iv 0, iv 1, .bool true, iv 1, iv 0, iv 1, .bool true, iv 1, iv 0, iv 1, .bool true] 52, rdR encI 1 p448 n449 (canR sa8 (repsL.take 3) 2 1).1] w := hO
      refine seq_quiet {} TBok hF (F' := [(35, iv 0), (37, iv 0), (39, iv 0), (42, iv 0), (45, iv 0), (48, iv 12), (50, iv 13), (52, iv 4), (64, .bool false), (65, iv 2), (66, .bool true), (68, .bool false), (69, .slice p442 n443 c444), (70, .slice p448 n449 c450)]) (rs := []) [3, 4, 5, 6, 7] [] [35, 37, 39, 42, 45, 48, 50, 52, 64, 65, 66, 68, 69, 70] .nil (by kernel_rfl) fun a w hF hE => ?_
      replace hO := hO.ext hE; clear hE
      replace hO := hO.drop1 2
      replace hO := hO.drop1 1
      refine W_seq (region_seq ?_)
      refine op_call (i := 0) (f := 45) (args := #[]) (d := some 453) TBok (by kernel_rfl) hF (by kernel_rfl) (row_calls3 _) fun e w hR => ?_
      obtain ⟨b452, he, hO2⟩ := hR
      refine ⟨_, he, fun a hF => ?_⟩
      replace hO := hO.joinE hO2; clear hO2 he
      refine op_call (i := 1) (f := 46) (args := #[iv 3]) (d := some 454) TBok (by kernel_rfl) hF (by kernel_rfl) (reports_calls 3 _ (by decide)) fun e w hR => ?_
      obtain ⟨b453, he, hO2⟩ := hR
      refine ⟨_, he, fun a hF => ?_⟩
      replace hO := hO.joinE hO2; clear hO2 he
      replace hO : Own w0 none_ [rdR encI 1 p442 n443 (canR sa8 (repsL.take 2) 0 1).1, rdR encI 1 p448 n449 (canR sa8 (repsL.take 3) 2 1).1, cel b452 #[iv 1, iv 0, iv 0, iv 0] 70, cel b453 #[iv 0, iv 0, iv 0, .bool true, iv 2, iv 3, iv 0, .bool true, iv 1, iv 0, iv 1, .bool true, iv 1, iv 0, iv 1, .bool true, iv 1, iv 0, iv 1, .bool true] 52] w := hO
      refine op_call (i := 2) (f := 26) (args := #[rw4 b452, sv b453 3 5]) (d := some 455) TBok (by kernel_rfl) hF (by kernel_rfl) (Liars_calls sa8 (vb b452) (repsL.take 3) (some ⟨b453, 0, none⟩) 3 5  _ (R4 hO 2 rfl) (rd_cel (enc := encRp) (ys := repsL.take 3) (rest := (repsL.drop 3).flatMap encRp) (fun _ => rfl) hO 3 rfl (by kernel_rfl) rfl (by decide))) fun e w hR => ?_
      obtain ⟨p454, n455, c456, hn457, he, hO2⟩ := hR
      replace he : e = .returned (.tuple #[.slice p454 n455 c456, iv 0]) := he.trans (congrArg Ending.returned (by kernel_rfl))
      refine ⟨_, he, fun a hF => ?_⟩
      replace hO := hO.joinE hO2; clear hO2 he
      refine seq_quiet {} TBok hF (F' := [(35, iv 0), (37, iv 0), (39, iv 0), (42, iv 0), (45, iv 0), (48, iv 0), (50, iv 13), (52, iv 4), (64, .bool false), (65, iv 2), (66, .bool true), (68, .bool false), (69, .slice p442 n443 c444), (70, .slice p448 n449 c450), (71, .slice p454 n455 c456)]) (rs := []) [3, 4, 5, 6, 7] [] [35, 37, 39, 42, 45, 48, 50, 52, 64, 65, 66, 68, 69, 70, 71] .nil (by kernel_rfl) fun a w hF hE => ?_
      replace hO := hO.ext hE; clear hE
      replace hO := hO.drop1 3
      replace hO := hO.drop1 2
      refine W_seq (region_seq ?_)
      refine op_call (i := 0) (f := 45) (args := #[]) (d := some 459) TBok (by kernel_rfl) hF (by kernel_rfl) (row_calls3 _) fun e w hR => ?_
      obtain ⟨b458, he, hO2⟩ := hR
      refine ⟨_, he, fun a hF => ?_⟩
      replace hO := hO.joinE hO2; clear hO2 he
      replace hO : Own w0 none_ [rdR encI 1 p442 n443 (canR sa8 (repsL.take 2) 0 1).1, rdR encI 1 p448 n449 (canR sa8 (repsL.take 3) 2 1).1, rdR encI 1 p454 n455 (liarR sa8 (repsL.take 3)).1, cel b458 #[iv 1, iv 0, iv 0, iv 0] 70] w := hO
      refine op_call (i := 1) (f := 46) (args := #[iv 3]) (d := some 460) TBok (by kernel_rfl) hF (by kernel_rfl) (reports_calls 3 _ (by decide)) fun e w hR => ?_
      obtain ⟨b459, he, hO2⟩ := hR
      refine ⟨_, he, fun a hF => ?_⟩
      replace hO := hO.joinE hO2; clear hO2 he
      refine seq_quiet { md := [(2, 3), (3, 3), (4, 3), (5, 3)] } TBok hF (F' := [(35, iv 0), (37, iv 0), (39, iv 0), (42, iv 0), (45, iv 0), (48, iv 0), (50, iv 13), (52, iv 4), (64, .bool false), (65, iv 2), (66, .bool true), (68, .bool false), (69, .slice p442 n443 c444), (70, .slice p448 n449 c450), (71, .slice p454 n455 c456), (459, rw4 b458), (460, sv b459 3 5), (461, .agg #[iv 0, iv 0]), (462, .agg #[iv 2, iv 0]), (463, .agg #[iv 1, iv 0]), (464, .agg #[iv 1, iv 1])]) (rs := [.raw (Instr.build 64 #[]) (.agg #[iv 0, iv 0]), .raw (Instr.build 64 #[(0, iv 2)]) (.agg #[iv 2, iv 0]), .raw (Instr.build 64 #[(0, iv 1)]) (.agg #[iv 1, iv 0]), .raw (Instr.build 64 #[(0, iv 1), (1, iv 1)]) (.agg #[iv 1, iv 1])]) [2, 3, 4, 5] [6, 7, 8, 9, 10, 11, 12] [35, 37, 39, 42, 45, 48, 50, 52, 64, 65, 66, 68, 69, 70, 71, 459, 460, 461, 462, 463, 464] (.cons (fun w _ => by kernel_rfl) <| .cons (fun w _ => by kernel_rfl) <| .cons (fun w _ => by kernel_rfl) <| .cons (fun w _ => by kernel_rfl) <| .nil) (by kernel_rfl) fun a w hF hE => ?_
      replace hO := hO.ext hE; clear hE
      refine op_bsl (i := 6) (t := 44) (e := 64) (len := 4) (ps := [(0, .agg #[iv 0, iv 0]), (1, .agg #[iv 2, iv 0]), (2, .agg #[iv 1, iv 0]), (3, .agg #[iv 1, iv 1])]) (d := 465) (sz := 2) (cs := #[iv 0, iv 0, iv 2, iv 0, iv 1, iv 0, iv 1, iv 1]) (z := .agg #[iv 0, iv 0]) hF hO (by kernel_rfl) (by kernel_rfl) (by kernel_rfl) (by kernel_rfl) (by kernel_rfl) fun a w b460 hF hO _ => ?_
      refine op_call (i := 7) (f := 30) (args := #[rw4 b458, sv b459 3 5, iv 1, iv 1, sv b460 4 4]) (d := some 466) TBok (by kernel_rfl) hF (by kernel_rfl) (Sure_calls sa8 (vb b458) (repsL.take 3) (some ⟨b459, 0, none⟩) 3 5 1 1 [⟨0, 0⟩, ⟨2, 0⟩, ⟨1, 0⟩, ⟨1, 1⟩] (some ⟨b460, 0, none⟩) 4 4 _ (R4 hO 3 rfl) (rd_cel (enc := encRp) (ys := repsL.take 3) (rest := (repsL.drop 3).flatMap encRp) (fun _ => rfl) hO 4 rfl (by kernel_rfl) rfl (by decide)) (rd_cel (enc := encCs) (ys := [⟨0, 0⟩, ⟨2, 0⟩, ⟨1, 0⟩, ⟨1, 1⟩]) (rest := []) (fun _ => rfl) hO 5 rfl rfl rfl (by decide)) (hci_of (by decide)) (by decide)) fun e w hR => ?_
      obtain ⟨p461, n462, c463, hn464, he, hO2⟩ := hR
      replace he : e = .returned (.tuple #[.slice p461 n462 c463, iv 0]) := he.trans (congrArg Ending.returned (by kernel_rfl))
      refine ⟨_, he, fun a hF => ?_⟩
      replace hO := hO.joinE hO2; clear hO2 he
      refine seq_quiet {} TBok hF (F' := [(35, iv 0), (37, iv 0), (39, iv 0), (42, iv 0), (45, iv 0), (48, iv 0), (50, iv 0), (52, iv 4), (64, .bool false), (65, iv 2), (66, .bool true), (68, .bool false), (69, .slice p442 n443 c444), (70, .slice p448 n449 c450), (71, .slice p454 n455 c456), (72, .slice p461 n462 c463)]) (rs := []) [8, 9, 10, 11, 12] [] [35, 37, 39, 42, 45, 48, 50, 52, 64, 65, 66, 68, 69, 70, 71, 72] .nil (by kernel_rfl) fun a w hF hE => ?_
      replace hO := hO.ext hE; clear hE
      replace hO := hO.drop1 5
      replace hO : Own w0 none_ [rdR encI 1 p442 n443 (canR sa8 (repsL.take 2) 0 1).1, rdR encI 1 p448 n449 (canR sa8 (repsL.take 3) 2 1).1, rdR encI 1 p454 n455 (liarR sa8 (repsL.take 3)).1, cel b458 #[iv 1, iv 0, iv 0, iv 0] 70, cel b459 #[iv 0, iv 0, iv 0, .bool true, iv 2, iv 3, iv 0, .bool true, iv 1, iv 0, iv 1, .bool true, iv 1, iv 0, iv 1, .bool true, iv 1, iv 0, iv 1, .bool true] 52, rdR encI 1 p461 n462 (sureR sa8 (repsL.take 3) 1 1 [⟨0, 0⟩, ⟨2, 0⟩, ⟨1, 0⟩, ⟨1, 1⟩]).1] w := hO
      replace hO := hO.drop1 4
      replace hO := hO.drop1 3
      refine W_seq (region_seq ?_)
      refine op_call (i := 0) (f := 45) (args := #[]) (d := some 470) TBok (by kernel_rfl) hF (by kernel_rfl) (row_calls3 _) fun e w hR => ?_
      obtain ⟨b465, he, hO2⟩ := hR
      refine ⟨_, he, fun a hF => ?_⟩
      replace hO := hO.joinE hO2; clear hO2 he
      refine op_call (i := 1) (f := 24) (args := #[rw4 b465, nl, iv 0, iv 0]) (d := some 471) TBok (by kernel_rfl) hF (by kernel_rfl) (Can_calls sa8 (vb b465) ([] : List Rp) none 0 0 0 0 _ (R4 hO 4 rfl) (rd_nil _ _ _)) fun e w hR => ?_
      obtain ⟨p466, n467, c468, hn469, he, hO2⟩ := hR
      replace he : e = .returned (.tuple #[.slice p466 n467 c468, iv 0]) := he.trans (congrArg Ending.returned (by kernel_rfl))
      refine ⟨_, he, fun a hF => ?_⟩
      replace hO := hO.joinE hO2; clear hO2 he
      replace hO : Own w0 none_ [rdR encI 1 p442 n443 (canR sa8 (repsL.take 2) 0 1).1, rdR encI 1 p448 n449 (canR sa8 (repsL.take 3) 2 1).1, rdR encI 1 p454 n455 (liarR sa8 (repsL.take 3)).1, rdR encI 1 p461 n462 (sureR sa8 (repsL.take 3) 1 1 [⟨0, 0⟩, ⟨2, 0⟩, ⟨1, 0⟩, ⟨1, 1⟩]).1, cel b465 #[iv 1, iv 0, iv 0, iv 0] 70, rdR encI 1 p466 n467 (canR sa8 ([] : List Rp) 0 0).1] w := hO
      refine seq_quiet {} TBok hF (F' := [(35, iv 0), (37, iv 0), (39, iv 0), (42, iv 0), (45, iv 0), (48, iv 0), (50, iv 0), (52, iv 0), (64, .bool false), (65, iv 2), (66, .bool true), (68, .bool false), (69, .slice p442 n443 c444), (70, .slice p448 n449 c450), (71, .slice p454 n455 c456), (72, .slice p461 n462 c463), (73, .slice p466 n467 c468)]) (rs := []) [2, 3, 4, 5, 6] [] [35, 37, 39, 42, 45, 48, 50, 52, 64, 65, 66, 68, 69, 70, 71, 72, 73] .nil (by kernel_rfl) fun a w hF hE => ?_
      replace hO := hO.ext hE; clear hE
      replace hO := hO.drop1 4
      refine W_seq (region_seq ?_)
      refine seq_quiet {} TBok hF (F' := [(45, iv 0), (48, iv 0), (50, iv 0), (52, iv 0), (70, .slice p448 n449 c450), (71, .slice p454 n455 c456), (72, .slice p461 n462 c463), (73, .slice p466 n467 c468), (503, .bool true), (504, .slice p442 n443 c444)]) (rs := []) [0, 1, 2, 3, 4, 5, 6, 7, 8, 9, 10, 11, 12, 13, 14, 15, 16, 17, 18, 19, 20, 21, 22, 23, 24, 25, 26, 27, 28, 29, 30] [31, 32, 33, 34, 35, 36, 37, 38, 39, 40, 41, 42, 43, 44, 45, 46, 47, 48, 49, 50, 51, 52, 53, 54, 55, 56, 57, 58, 59, 60, 61, 62, 63, 64, 65, 66, 67, 68, 69, 70, 71, 72, 73, 74, 75] [45, 48, 50, 52, 70, 71, 72, 73, 503, 504] .nil (by kernel_rfl) fun a w hF hE => ?_
      replace hO := hO.ext hE; clear hE
      refine op_bsl (i := 31) (t := 22) (e := 3) (len := 1) (ps := [(0, iv 2)]) (d := 505) (sz := 1) (cs := #[iv 2]) (z := iv 0) hF hO (by kernel_rfl) (by kernel_rfl) (by kernel_rfl) (by kernel_rfl) (by kernel_rfl) fun a w b470 hF hO _ => ?_
      refine seq_quiet {} TBok hF (F' := [(48, iv 0), (50, iv 0), (52, iv 0), (71, .slice p454 n455 c456), (72, .slice p461 n462 c463), (73, .slice p466 n467 c468), (512, .bool true), (513, .slice p448 n449 c450)]) (rs := [.call 22 #[.slice p442 n443 c444, sv b470 1 1] (.bool true)]) [32, 33, 34, 35, 36, 37, 38, 39] [40, 41, 42, 43, 44, 45, 46, 47, 48, 49, 50, 51, 52, 53, 54, 55, 56, 57, 58, 59, 60, 61, 62, 63, 64, 65, 66, 67, 68, 69, 70, 71, 72, 73, 74, 75] [48, 50, 52, 71, 72, 73, 512, 513] (.cons (fun w hE => calls_cast (Same_calls (canR sa8 (repsL.take 2) 0 1).1 [2] p442 (some ⟨b470, 0, none⟩) n443 1 c444 1 w ((hO.st w hE).get 0 rfl) (rd_cel (enc := encI) (ys := [2]) (rest := []) (fun _ => rfl) (hO.st w hE) 5 rfl rfl rfl (by decide))) (by kernel_rfl)) <| .nil) (by kernel_rfl) fun a w hF hE => ?_
      replace hO := hO.ext hE; clear hE
      refine op_bsl (i := 40) (t := 22) (e := 3) (len := 4) (ps := [(0, iv 0), (1, iv 1), (2, iv 2), (3, iv 3)]) (d := 514) (sz := 1) (cs := #[iv 0, iv 1, iv 2, iv 3]) (z := iv 0) hF hO (by kernel_rfl) (by kernel_rfl) (by kernel_rfl) (by kernel_rfl) (by kernel_rfl) fun a w b471 hF hO _ => ?_
      refine seq_quiet { md := [(50, 1)] } TBok hF (F' := [(52, iv 0), (73, .slice p466 n467 c468), (530, .bool true), (531, .slice p461 n462 c463)]) (rs := [.call 22 #[.slice p448 n449 c450, sv b471 4 4] (.bool true), .dec ((n455 : Int) == 0) true]) [41, 42, 43, 44, 45, 46, 47, 48, 49, 50, 51, 52, 53, 54, 55, 56, 57] [58, 59, 60, 61, 62, 63, 64, 65, 66, 67, 68, 69, 70, 71, 72, 73, 74, 75] [52, 73, 530, 531] (.cons (fun w hE => calls_cast (Same_calls (canR sa8 (repsL.take 3) 2 1).1 [0, 1, 2, 3] p448 (some ⟨b471, 0, none⟩) n449 4 c450 4 w ((hO.st w hE).get 1 rfl) (rd_cel (enc := encI) (ys := [0, 1, 2, 3]) (rest := []) (fun _ => rfl) (hO.st w hE) 6 rfl rfl rfl (by decide))) (by kernel_rfl)) <| .cons (len0 hn457 (by kernel_rfl)) <| .nil) (by kernel_rfl) fun a w hF hE => ?_
      replace hO := hO.ext hE; clear hE
      refine op_bsl (i := 58) (t := 22) (e := 3) (len := 1) (ps := [(0, iv 3)]) (d := 532) (sz := 1) (cs := #[iv 3]) (z := iv 0) hF hO (by kernel_rfl) (by kernel_rfl) (by kernel_rfl) (by kernel_rfl) (by kernel_rfl) fun a w b472 hF hO _ => ?_
      replace hO : Own w0 none_ [rdR encI 1 p442 n443 (canR sa8 (repsL.take 2) 0 1).1, rdR encI 1 p448 n449 (canR sa8 (repsL.take 3) 2 1).1, rdR encI 1 p454 n455 (liarR sa8 (repsL.take 3)).1, rdR encI 1 p461 n462 (sureR sa8 (repsL.take 3) 1 1 [⟨0, 0⟩, ⟨2, 0⟩, ⟨1, 0⟩, ⟨1, 1⟩]).1, rdR encI 1 p466 n467 (canR sa8 ([] : List Rp) 0 0).1, cel b470 #[iv 2] 3, cel b471 #[iv 0, iv 1, iv 2, iv 3] 3, cel b472 #[iv 3] 3] w := hO
      refine seq_quiet {} TBok hF (F' := [(539, .bool true), (540, .slice p466 n467 c468)]) (rs := [.call 22 #[.slice p461 n462 c463, sv b472 1 1] (.bool true)]) [59, 60, 61, 62, 63, 64, 65, 66] [67, 68, 69, 70, 71, 72, 73, 74, 75] [539, 540] (.cons (fun w hE => calls_cast (Same_calls (sureR sa8 (repsL.take 3) 1 1 [⟨0, 0⟩, ⟨2, 0⟩, ⟨1, 0⟩, ⟨1, 1⟩]).1 [3] p461 (some ⟨b472, 0, none⟩) n462 1 c463 1 w ((hO.st w hE).get 3 rfl) (rd_cel (enc := encI) (ys := [3]) (rest := []) (fun _ => rfl) (hO.st w hE) 7 rfl rfl rfl (by decide))) (by kernel_rfl)) <| .nil) (by kernel_rfl) fun a w hF hE => ?_
      replace hO := hO.ext hE; clear hE
      refine op_bsl (i := 67) (t := 22) (e := 3) (len := 4) (ps := [(0, iv 0), (1, iv 1), (2, iv 2), (3, iv 3)]) (d := 541) (sz := 1) (cs := #[iv 0, iv 1, iv 2, iv 3]) (z := iv 0) hF hO (by kernel_rfl) (by kernel_rfl) (by kernel_rfl) (by kernel_rfl) (by kernel_rfl) fun a w b473 hF hO _ => ?_
      refine seq_quiet {} TBok hF (F' := [(0, .bool true)]) (rs := [.call 22 #[.slice p466 n467 c468, sv b473 4 4] (.bool true), .call 23 #[] (.bool true)]) [68, 69, 70, 71, 72, 73, 74, 75] [] [0] (.cons (fun w hE => calls_cast (Same_calls (canR sa8 ([] : List Rp) 0 0).1 [0, 1, 2, 3] p466 (some ⟨b473, 0, none⟩) n467 4 c468 4 w ((hO.st w hE).get 4 rfl) (rd_cel (enc := encI) (ys := [0, 1, 2, 3]) (rest := []) (fun _ => rfl) (hO.st w hE) 8 rfl rfl rfl (by decide))) (by kernel_rfl)) <| .cons (fun w _ => works_calls w) <| .nil) (by kernel_rfl) fun a w hF hE => ?_
      replace hO := hO.ext hE; clear hE
      refine W_ret ?_
      show bodyPostM (FW none) 0 _ _ _ Exit.ret a w
      exact leave_r TBok hF (.nil _) (vs := [.bool true]) (rs := []) .nil (by kernel_rfl) ⟨rfl, hO.kp⟩

end Go.Proofs.Ytgihgcclabodbaa.DK
