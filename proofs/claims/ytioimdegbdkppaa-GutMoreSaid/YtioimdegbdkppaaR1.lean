/- What the rows have in common: a day that came in. -/
import Derived.Test.YtioimdegbdkppaaRows
import Derived.Test.YtioimdegbdkppaaR0
import Derived.Test.YtioimdegbdkppaaGDef
import Derived.WalkKit
import Derived.ProofKit
import Derived.OpenShut
import Derived.ChangeOld
import Derived.Carry
import Derived.SizedLaws
namespace Go.Proofs.Ytioimdegbdkppaa.DK
open Go Go.ChangeShapes Go.WideShapes Go.ChangeAt Go.RowKit Go.Joins Go.Deep Go.Proofs
set_option linter.unusedVariables false

theorem ownK : ownKnob Try.prog.godebug = none := by kernel_rfl
theorem laidK : laidOutB Try.prog = true := by kernel_rfl
theorem wf_i64 {n : Int} (h : (Lit.int .i64 n).wf = true) : -9223372036854775808 ≤ n ∧ n ≤ 9223372036854775807 := by
  simp only [Lit.wf, Bool.and_eq_true, decide_eq_true_eq] at h
  have h1 : IntKind.i64.min = -9223372036854775808 := by decide
  have h2 : IntKind.i64.max = 9223372036854775807 := by decide
  rw [h1, h2] at h
  exact h
noncomputable def fd (t j : Nat) : Field := (Try.prog.fieldsOf t)[j]!
set_option maxRecDepth 100000 in
/-- A day that came in. -/
theorem open_day {H : Type} {enc : TypeId × Value → H} {W : World} {b0 : Nat} {v : Value} {d : DataW H} {p : List MemPlace} (hv : Value.okWide Try.prog W .any b0 26 v) (h : DataW.Trod enc Try.prog W 0 (fun _ => true) true 26 v d p) :
    ∃ (dd : Day) (vv : DV), v = .agg #[.int .i64 dd.hours, .slice vv.ha vv.hn vv.hc, .slice vv.la vv.ln vv.lc, .slice vv.wa vv.wn vv.wc] ∧ DayR W.heap.size W vv dd := by
  obtain ⟨v0, v1, v2, v3, y0, y1, y2, y3, n, rfl, rfl, rfl, h0, h1, h2, h3⟩ := open_agg4 (f0 := fd 26 0) (f1 := fd 26 1) (f2 := fd 26 2) (f3 := fd 26 3) (by kernel_rfl) (by kernel_rfl) (by kernel_rfl) hv h
  obtain ⟨n0, e0, _, hw⟩ := DataW.trod_int (k := .i64) (by kernel_rfl) h0
  obtain ⟨ha, hn, hc, heat, rfl, hR1, hc1, hz1⟩ := open_rows (α := Sp) encSp (fun g => ⟨g 0, g 1⟩) 2 (fun _ => rfl) (e := 47) (fs := Try.prog.fieldsOf 47) (by kernel_rfl) (by kernel_rfl) (by kernel_rfl) (by kernel_rfl) (by kernel_rfl) (by decide) h1
  obtain ⟨la, ln, lc, lots, rfl, hR2, hc2, hz2⟩ := open_rows (α := Lot) encLot (fun g => ⟨g 0, g 1, g 2, g 3⟩) 4 (fun _ => rfl) (e := 59) (fs := Try.prog.fieldsOf 59) (by kernel_rfl) (by kernel_rfl) (by kernel_rfl) (by kernel_rfl) (by kernel_rfl) (by decide) h2
  obtain ⟨wa, wn, wc, wks, rfl, hR3, hc3, hz3⟩ := open_rows (α := Wk) encWk (fun g => ⟨g 0, g 1, g 2, g 3⟩) 4 (fun _ => rfl) (e := 61) (fs := Try.prog.fieldsOf 61) (by kernel_rfl) (by kernel_rfl) (by kernel_rfl) (by kernel_rfl) (by kernel_rfl) (by decide) h3
  simp at e0
  subst e0
  refine ⟨⟨n0, heat, lots, wks⟩, ⟨ha, hn, hc, la, ln, lc, wa, wn, wc⟩, rfl, ⟨hR1 hz1, hR2 hz2, hR3 hz3, ?_, hc1, hc2, hc3⟩⟩
  exact wf_i64 hw

end Go.Proofs.Ytioimdegbdkppaa.DK
