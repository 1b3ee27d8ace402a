/- Walks: the mirror; the chapter's sea. Printed by my gen.py out of shoal/k.py. -/
import Derived.Test.YtgihgcclabodbaaST
namespace Go.Proofs.Ytgihgcclabodbaa.DK
open Go Go.Proofs
set_option linter.unusedVariables false
set_option linter.unusedSimpArgs false

/-- A cell in the mirror. -/
def trn (s : Sea) (c : Int) : Int := c - (pl s c).1 + s.wide - 1 - (pl s c).1
def rowS : Sea := ⟨4, 1, [], 3, [⟨1, 0⟩, ⟨0, 0⟩], 1⟩
def repsL : List Rp := [⟨0, 0, 0, true⟩, ⟨2, 3, 0, true⟩, ⟨1, 0, 1, true⟩, ⟨1, 0, 1, true⟩, ⟨1, 0, 1, true⟩]
set_option maxHeartbeats 4000000 in
set_option maxRecDepth 100000 in
theorem turned_calls (s : Sea) (v : SV) (x_ : Int) (w0 : World) (hv : seaB s = true) (hx_ : 0 ≤ x_ ∧ x_ < nC s) :
    Calls Try.prog 44 #[.agg (sS6 s v), iv x_] w0 (fun e w' => e = .returned (iv (trn s x_)) ∧ Ext w0 w') := by
  have hv1 := sea_ok hv
  refine calls_of_W Try.func44 rfl (by kernel_rfl) (args := [.agg (sS6 s v), iv x_]) fun a hF => ?_
  replace hF : Fr 20 [] [(0, .agg (sS6 s v)), (1, iv x_)] a := hF
  have hO : Own w0 none_ [] w0 := Own.start w0 _
  refine W_seq (region_seq ?_)
  refine op_box (i := 0) (t := 25) (v := .agg (sS6 s v)) (d := 2) hF hO (by kernel_rfl) fun a w b1 hF hO _ => ?_
  refine seq_quiet {} TBok hF (F' := [(1, iv x_), (2, pv b1), (4, iv 0)]) (rs := []) [1] [] [1, 2, 4] .nil (by kernel_rfl) fun a w hF hE => ?_
  replace hO := hO.ext hE; clear hE
  refine W_seq (region_d { md := [(4, 3), (13, 3)] } mixed TBok hF (F' := [(4, iv ((((x_ - (Int.tmod x_ s.wide)) + s.wide) - 1) - (Int.tmod x_ s.wide)))]) (rs := [.ld ⟨b1, 0, none⟩ (iv s.wide), .raw (rb .rem 3 (.tmp 6) (.tmp 8) (iv x_) (iv s.wide)) (iv (Int.tmod x_ s.wide)), .rng (x_ - (Int.tmod x_ s.wide)), .ld ⟨b1, 0, none⟩ (iv s.wide), .rng ((x_ - (Int.tmod x_ s.wide)) + s.wide), .rng (((x_ - (Int.tmod x_ s.wide)) + s.wide) - 1), .ld ⟨b1, 0, none⟩ (iv s.wide), .raw (rb .rem 3 (.tmp 15) (.tmp 17) (iv x_) (iv s.wide)) (iv (Int.tmod x_ s.wide)), .rng ((((x_ - (Int.tmod x_ s.wide)) + s.wide) - 1) - (Int.tmod x_ s.wide))]) [4] (.cons (ldo hO.st 0 rfl 0 rfl) <| .cons (raw_tmod (by omega)) <| .cons (rg (by have ha_ := pl_bd (s := s) (c := x_) (by omega) (by omega) (by omega) (by omega); unfold pl at ha_; simp only [] at ha_; omega)) <| .cons (ldo hO.st 0 rfl 0 rfl) <| .cons (rg (by have ha_ := pl_bd (s := s) (c := x_) (by omega) (by omega) (by omega) (by omega); unfold pl at ha_; simp only [] at ha_; omega)) <| .cons (rg (by have ha_ := pl_bd (s := s) (c := x_) (by omega) (by omega) (by omega) (by omega); unfold pl at ha_; simp only [] at ha_; omega)) <| .cons (ldo hO.st 0 rfl 0 rfl) <| .cons (raw_tmod (by omega)) <| .cons (rg (by have ha_ := pl_bd (s := s) (c := x_) (by omega) (by omega) (by omega) (by omega); unfold pl at ha_; simp only [] at ha_; omega)) <| .nil) (by kernel_rfl) (by kernel_rfl) fun a w hF hE => ?_)
  replace hO := hO.ext hE; clear hE
  refine W_ret ?_
  show bodyPostM (FW none) 0 _ _ _ Exit.ret a w
  exact leave_r TBok hF (.nil _) (vs := [iv ((((x_ - (Int.tmod x_ s.wide)) + s.wide) - 1) - (Int.tmod x_ s.wide))]) (rs := []) .nil (by kernel_rfl) ⟨rfl, hO.kp⟩

set_option maxHeartbeats 4000000 in
set_option maxRecDepth 100000 in
theorem row_calls  (w0 : World) :
    Calls Try.prog 45 #[] w0 (fun e w' => ∃ b, e = .returned (.agg #[iv 4, iv 1, .slice none 0 0, iv 3, .slice (some ⟨b, 0, none⟩) 2 2, iv 1]) ∧ Own w0 none_ [cel b (rowS.drift.flatMap encSt).toArray 70] w') := by
  refine calls_of_W Try.func45 rfl (by kernel_rfl) (args := []) fun a hF => ?_
  replace hF : Fr 5 [] [] a := hF
  have hO : Own w0 none_ [] w0 := Own.start w0 _
  refine W_seq (region_seq ?_)
  refine op_alloc (i := 0) (t := 25) (d := 0) (z := .agg #[iv 0, iv 0, .slice none 0 0, iv 0, .slice none 0 0, iv 0]) hF hO (by kernel_rfl) (by kernel_rfl) fun a w b1 hF hO _ => ?_
  replace hF := hF.sel [0]
  replace hF : Fr 5 [] [(0, pv b1)] a := hF
  refine W_seq (region_seq ?_)
  refine seq_quiet { md := [(0, 3), (1, 3)] } TBok hF (F' := [(0, pv b1), (1, .agg #[iv 1, iv 0]), (2, .agg #[iv 0, iv 0])]) (rs := [.raw (Instr.build 70 #[(0, iv 1)]) (.agg #[iv 1, iv 0]), .raw (Instr.build 70 #[]) (.agg #[iv 0, iv 0])]) [0, 1] [2, 3, 4] [0, 1, 2] (.cons (fun w _ => by kernel_rfl) <| .cons (fun w _ => by kernel_rfl) <| .nil) (by kernel_rfl) fun a w hF hE => ?_
  replace hO := hO.ext hE; clear hE
  refine op_bsl (i := 2) (t := 23) (e := 70) (len := 2) (ps := [(0, .agg #[iv 1, iv 0]), (1, .agg #[iv 0, iv 0])]) (d := 3) (sz := 2) (cs := #[iv 1, iv 0, iv 0, iv 0]) (z := .agg #[iv 0, iv 0]) hF hO (by kernel_rfl) (by kernel_rfl) (by kernel_rfl) (by kernel_rfl) (by kernel_rfl) fun a w b2 hF hO _ => ?_
  refine seq_quiet { md := [(3, 3)] } TBok hF (F' := [(0, pv b1), (4, .agg #[iv 4, iv 1, .slice none 0 0, iv 3, .slice (some ⟨b2, 0, none⟩) 2 2, iv 1])]) (rs := [.raw (Instr.build 25 #[(0, iv 4), (1, iv 1), (3, iv 3), (4, .slice (some ⟨b2, 0, none⟩) 2 2), (5, iv 1)]) (.agg #[iv 4, iv 1, .slice none 0 0, iv 3, .slice (some ⟨b2, 0, none⟩) 2 2, iv 1])]) [3] [4] [0, 4] (.cons (fun w _ => by kernel_rfl) <| .nil) (by kernel_rfl) fun a w hF hE => ?_
  replace hO := hO.ext hE; clear hE
  refine op_store (i := 4) (t := 25) (p := ⟨b1, 0, none⟩) (v := .agg #[iv 4, iv 1, .slice none 0 0, iv 3, .slice (some ⟨b2, 0, none⟩) 2 2, iv 1]) (off := 0) (sz := 6) (cs' := #[iv 4, iv 1, .slice none 0 0, iv 3, .slice (some ⟨b2, 0, none⟩) 2 2, iv 1]) hF hO (by kernel_rfl) 0 rfl rfl (by kernel_rfl) (by kernel_rfl) (by kernel_rfl) fun a w hF hO _ => ?_
  replace hF := hF.sel [0]
  replace hF : Fr 5 [] [(0, pv b1)] a := hF
  refine W_ret ?_
  show bodyPostM (FW none) 0 _ _ _ Exit.ret a w
  exact leave_r TBok hF (.nil _) (vs := [.agg #[iv 4, iv 1, .slice none 0 0, iv 3, .slice (some ⟨b2, 0, none⟩) 2 2, iv 1]]) (rs := [.lds ⟨b1, 0, none⟩ [iv 4, iv 1, .slice none 0 0, iv 3, .slice (some ⟨b2, 0, none⟩) 2 2, iv 1]]) (.cons (rdso hO 0 rfl 0 rfl) <| .nil) (by kernel_rfl) ⟨_, rfl, hO.sel [1] (by decide)⟩

set_option maxHeartbeats 4000000 in
set_option maxRecDepth 100000 in
theorem reports_calls (many : Int) (w0 : World) (hm : 0 ≤ many ∧ many ≤ 5) :
    Calls Try.prog 46 #[iv many] w0 (fun e w' => ∃ b, e = .returned (.slice (some ⟨b, 0, none⟩) many.toNat 5) ∧ Own w0 none_ [cel b (repsL.flatMap encRp).toArray 52] w') := by
  refine calls_of_W Try.func46 rfl (by kernel_rfl) (args := [iv many]) fun a hF => ?_
  replace hF : Fr 11 [] [(0, iv many)] a := hF
  have hO : Own w0 none_ [] w0 := Own.start w0 _
  refine W_seq (region_q {} TBok hF (F' := [(0, iv many), (2, .slice none 0 0)]) (rs := []) [0, 2] .nil (by kernel_rfl) fun a w hF hE => ?_)
  replace hO := hO.ext hE; clear hE
  refine W_seq (region_seq ?_)
  refine seq_quiet { md := [(0, 3), (1, 3), (2, 3), (3, 3), (4, 3)] } TBok hF (F' := [(0, iv many), (2, .slice none 0 0), (3, .agg #[iv 0, iv 0, iv 0, .bool true]), (4, .agg #[iv 2, iv 3, iv 0, .bool true]), (5, .agg #[iv 1, iv 0, iv 1, .bool true]), (6, .agg #[iv 1, iv 0, iv 1, .bool true]), (7, .agg #[iv 1, iv 0, iv 1, .bool true])]) (rs := [.raw (Instr.build 52 #[(3, .bool true)]) (.agg #[iv 0, iv 0, iv 0, .bool true]), .raw (Instr.build 52 #[(0, iv 2), (1, iv 3), (3, .bool true)]) (.agg #[iv 2, iv 3, iv 0, .bool true]), .raw (Instr.build 52 #[(0, iv 1), (2, iv 1), (3, .bool true)]) (.agg #[iv 1, iv 0, iv 1, .bool true]), .raw (Instr.build 52 #[(0, iv 1), (2, iv 1), (3, .bool true)]) (.agg #[iv 1, iv 0, iv 1, .bool true]), .raw (Instr.build 52 #[(0, iv 1), (2, iv 1), (3, .bool true)]) (.agg #[iv 1, iv 0, iv 1, .bool true])]) [0, 1, 2, 3, 4] [5, 6, 7, 8] [0, 2, 3, 4, 5, 6, 7] (.cons (fun w _ => by kernel_rfl) <| .cons (fun w _ => by kernel_rfl) <| .cons (fun w _ => by kernel_rfl) <| .cons (fun w _ => by kernel_rfl) <| .cons (fun w _ => by kernel_rfl) <| .nil) (by kernel_rfl) fun a w hF hE => ?_
  replace hO := hO.ext hE; clear hE
  refine op_bsl (i := 5) (t := 26) (e := 52) (len := 5) (ps := [(0, .agg #[iv 0, iv 0, iv 0, .bool true]), (1, .agg #[iv 2, iv 3, iv 0, .bool true]), (2, .agg #[iv 1, iv 0, iv 1, .bool true]), (3, .agg #[iv 1, iv 0, iv 1, .bool true]), (4, .agg #[iv 1, iv 0, iv 1, .bool true])]) (d := 8) (sz := 4) (cs := #[iv 0, iv 0, iv 0, .bool true, iv 2, iv 3, iv 0, .bool true, iv 1, iv 0, iv 1, .bool true, iv 1, iv 0, iv 1, .bool true, iv 1, iv 0, iv 1, .bool true]) (z := .agg #[iv 0, iv 0, iv 0, .bool false]) hF hO (by kernel_rfl) (by kernel_rfl) (by kernel_rfl) (by kernel_rfl) (by kernel_rfl) fun a w b1 hF hO _ => ?_
  refine seq_quiet { md := [(7, 3)] } TBok hF (F' := [(2, .slice (some ⟨b1, 0, none⟩) many.toNat 5)]) (rs := [.raw (Instr.sliceAt 26 (.slice (some ⟨b1, 0, none⟩) 5 5) none (some (iv many)) none) (.slice (some ⟨b1, 0, none⟩) many.toNat 5)]) [6, 7, 8] [] [2] (.cons (raw_sliceTo rowT26 (by omega) (by omega)) <| .nil) (by kernel_rfl) fun a w hF hE => ?_
  replace hO := hO.ext hE; clear hE
  refine W_ret ?_
  show bodyPostM (FW none) 0 _ _ _ Exit.ret a w
  exact leave_r TBok hF (.nil _) (vs := [.slice (some ⟨b1, 0, none⟩) many.toNat 5]) (rs := []) .nil (by kernel_rfl) ⟨_, rfl, hO.sel [0] (by decide)⟩

end Go.Proofs.Ytgihgcclabodbaa.DK
