/- The row of the law GutUntils: for any day and lot, Check and Until answer as the chapter says. No condition. -/
import Derived.Test.YtioimdegbdkppaaRows
import Derived.Test.YtioimdegbdkppaaLA
import Derived.Test.YtioimdegbdkppaaR0
import Derived.WalkKit
import Derived.ProofKit
import Derived.OpenShut
import Derived.ChangeOld
import Derived.Carry
import Derived.SizedLaws
namespace Go.Proofs.Ytioimdegbdkppaa.DK
open Go Go.ChangeShapes Go.WideShapes Go.ChangeAt Go.RowKit Go.Joins Go.Deep Go.Proofs
set_option linter.unusedVariables false

theorem ownK : ownKnob Try.prog.godebug = none := by kernel_rfl
theorem laidK : laidOutB Try.prog = true := by kernel_rfl
theorem params3 : Try.f3.params.toList = [26, 3] := by kernel_rfl

theorem wf_i64 {n : Int} (h : (Lit.int .i64 n).wf = true) : -9223372036854775808 ≤ n ∧ n ≤ 9223372036854775807 := by
  simp only [Lit.wf, Bool.and_eq_true, decide_eq_true_eq] at h
  have h1 : IntKind.i64.min = -9223372036854775808 := by decide
  have h2 : IntKind.i64.max = 9223372036854775807 := by decide
  rw [h1, h2] at h
  exact h
noncomputable def fd (t j : Nat) : Field := (Try.prog.fieldsOf t)[j]!
set_option maxRecDepth 100000 in
/-- A day that came in. -/
theorem open_day {H : Type} {enc : TypeId × Value → H} {W : World} {b0 : Nat} {v : Value} {d : DataW H} {p : List MemPlace} (hv : Value.okWide Try.prog W .any b0 26 v) (h : DataW.Trod enc Try.prog W 0 (fun _ => true) true 26 v d p) :
    ∃ (dd : Day) (vv : DV), v = .agg #[.int .i64 dd.hours, .slice vv.ha vv.hn vv.hc, .slice vv.la vv.ln vv.lc, .slice vv.wa vv.wn vv.wc] ∧ DayR W.heap.size W vv dd := by
  obtain ⟨v0, v1, v2, v3, y0, y1, y2, y3, n, rfl, rfl, rfl, h0, h1, h2, h3⟩ := open_agg4 (f0 := fd 26 0) (f1 := fd 26 1) (f2 := fd 26 2) (f3 := fd 26 3) (by kernel_rfl) (by kernel_rfl) (by kernel_rfl) hv h
  obtain ⟨n0, e0, _, hw⟩ := DataW.trod_int (k := .i64) (by kernel_rfl) h0
  obtain ⟨ha, hn, hc, heat, rfl, hR1, hc1, hz1⟩ := open_rows (α := Sp) encSp (fun g => ⟨g 0, g 1⟩) 2 (fun _ => rfl) (e := 47) (fs := Try.prog.fieldsOf 47) (by kernel_rfl) (by kernel_rfl) (by kernel_rfl) (by kernel_rfl) (by kernel_rfl) (by decide) h1
  obtain ⟨la, ln, lc, lots, rfl, hR2, hc2, hz2⟩ := open_rows (α := Lot) encLot (fun g => ⟨g 0, g 1, g 2, g 3⟩) 4 (fun _ => rfl) (e := 59) (fs := Try.prog.fieldsOf 59) (by kernel_rfl) (by kernel_rfl) (by kernel_rfl) (by kernel_rfl) (by kernel_rfl) (by decide) h2
  obtain ⟨wa, wn, wc, wks, rfl, hR3, hc3, hz3⟩ := open_rows (α := Wk) encWk (fun g => ⟨g 0, g 1, g 2, g 3⟩) 4 (fun _ => rfl) (e := 61) (fs := Try.prog.fieldsOf 61) (by kernel_rfl) (by kernel_rfl) (by kernel_rfl) (by kernel_rfl) (by kernel_rfl) (by decide) h3
  simp at e0
  subst e0
  refine ⟨⟨n0, heat, lots, wks⟩, ⟨ha, hn, hc, la, ln, lc, wa, wn, wc⟩, rfl, ⟨hR1 hz1, hR2 hz2, hR3 hz3, ?_, hc1, hc2, hc3⟩⟩
  exact wf_i64 hw

set_option maxRecDepth 100000 in
theorem liftedGutUntils (os : Os) (started : os.Started) (H : Type) (enc : TypeId × Value → H) :
    ReturnsInHanded {} Try.checked os 3 .any (Rows.gutUntilsSpec.pre6 enc Try.prog Try.f3 Rows.gutUntilsRow.domain false) (Rows.gutUntilsSpec.post enc Try.prog Try.f3 false true false false) := by
  refine returnsInHanded_of_change_sized (C := Try.checked) ownK started (by kernel_rfl) Try.func3
    (ChangeSpec.witness6 (enc := enc) (C := Try.checked) false ⟨#[], #[.agg #[.int .i64 0, .slice none 0 0, .slice none 0 0, .slice none 0 0], .int .i64 0], []⟩ 8 (by kernel_rfl) (by kernel_rfl) (by kernel_rfl) (by kernel_rfl)) ?_
  intro W base args ds gs before hval0 hW hcnd hsz0 _
  have hval : ∀ (j : Nat) t v, Try.f3.params[j]? = some t → args[j]? = some v → Value.okWide Try.prog W .any base t v := hval0
  have hW' := hW
  obtain ⟨p, q, hA0, hV, rfl, hfz, hnd⟩ := hW
  have hA : DataW.TrodAll enc Try.prog W 0 (fun _ => true) true Try.f3.params.toList args.toList ds p := hA0
  rw [params3] at hA
  obtain ⟨v0, vs0, d0, ds0, p0, q0, hargs, rfl, rfl, h0, r0⟩ := trodAll_cons hA
  obtain ⟨v1, vs1, d1, ds1, p1, q1, rfl, rfl, rfl, h1, r1⟩ := trodAll_cons r0
  obtain ⟨rfl, rfl, rfl⟩ := trodAll_nil r1
  obtain rfl : args = #[v0, v1] := by cases args; simp_all
  obtain ⟨rfl, rfl⟩ := trodVars_none hV
  have lt0 : ∀ x ∈ p0, x.block < W.heap.size := by obtain ⟨m, hm⟩ := h0; exact DataW.trod_lt m _ _ _ hm
  obtain ⟨dd, vv, rfl, hR⟩ := open_day (hval 0 26 v0 rfl rfl) h0
  obtain ⟨n1, rfl, rfl, rfl, w1⟩ := open_int (k := .i64) (by kernel_rfl) (hval 1 3 v1 rfl rfl) h1
  refine (GutUntils_calls dd vv n1 W hR).mono fun e W' ⟨he, bel⟩ => ?_
  subst he
  exact ⟨_, rfl, _, _, _, [], _, [], hW', trodAll_mk1 (shut_bool (by kernel_rfl) _), (trodAll_cons_mk (Below.trod laidK (by kernel_rfl) (of_decide_eq_true (by kernel_rfl)) h0 bel.below lt0) (trodAll_cons_mk (shut_int (by kernel_rfl) w1) trodAll_mk0)), rfl, bel.below.frame _, fun h => by cases h⟩

theorem GutUntils_row : Rows.GutUntilsSaid :=
  OpenClaim.holds_of_wide 3 Try.f3 rfl rfl rfl rfl rfl rfl rfl ⟨rfl, rfl, rfl, rfl, rfl⟩ rfl rfl rfl rfl rfl (by kernel_rfl) Try.func3 (by kernel_rfl)
    (of_decide_eq_true (by kernel_rfl)) (by unfold Func.isWrapper; first | (rw [if_pos (by decide +kernel)]; kernel_rfl) | (rw [if_neg (by decide +kernel)]; exact ⟨rfl, rfl⟩))
    (fun os started H enc _ => liftedGutUntils os started H enc)
end Go.Proofs.Ytioimdegbdkppaa.DK
namespace Go.Proofs.Ytioimdegbdkppaa
theorem GutUntils_holds : Rows.GutUntilsSaid := DK.GutUntils_row
#print axioms GutUntils_holds
end Go.Proofs.Ytioimdegbdkppaa
