/- Arguments that are workers, lots, or three numbers, opened. -/
import Derived.Test.YtioimdegbdkppaaR1
namespace Go.Proofs.Ytioimdegbdkppaa.DK
open Go Go.ChangeShapes Go.WideShapes Go.ChangeAt Go.RowKit Go.Joins Go.Deep Go.Proofs
set_option linter.unusedVariables false

section
variable {H : Type} {enc : TypeId × Value → H} {W : World} {b0 : Nat} {v : Value} {d : DataW H} {p : List MemPlace}
set_option maxRecDepth 100000 in
theorem open_Wk (hv : Value.okWide Try.prog W .any b0 61 v) (h : DataW.Trod enc Try.prog W 0 (fun _ => true) true 61 v d p) : ∃ x : Wk, v = .agg #[.int .i64 x.kd, .int .i64 x.fr, .int .i64 x.to, .int .i64 x.rt] := by
  obtain ⟨v0, v1, v2, v3, y0, y1, y2, y3, n, rfl, rfl, rfl, h0, h1, h2, h3⟩ := open_agg4 (f0 := fd 61 0) (f1 := fd 61 1) (f2 := fd 61 2) (f3 := fd 61 3) (by kernel_rfl) (by kernel_rfl) (by kernel_rfl) hv h
  obtain ⟨n0, e0, _, _⟩ := DataW.trod_int (k := .i64) (by kernel_rfl) h0
  obtain ⟨n1, e1, _, _⟩ := DataW.trod_int (k := .i64) (by kernel_rfl) h1
  obtain ⟨n2, e2, _, _⟩ := DataW.trod_int (k := .i64) (by kernel_rfl) h2
  obtain ⟨n3, e3, _, _⟩ := DataW.trod_int (k := .i64) (by kernel_rfl) h3
  simp at e0 e1 e2 e3
  subst e0; subst e1; subst e2; subst e3
  exact ⟨⟨n0, n1, n2, n3⟩, rfl⟩
set_option maxRecDepth 100000 in
theorem open_Lot (hv : Value.okWide Try.prog W .any b0 59 v) (h : DataW.Trod enc Try.prog W 0 (fun _ => true) true 59 v d p) : ∃ x : Lot, v = .agg #[.int .i64 x.cr, .int .i64 x.la, .int .i64 x.ke, .int .i64 x.fi] := by
  obtain ⟨v0, v1, v2, v3, y0, y1, y2, y3, n, rfl, rfl, rfl, h0, h1, h2, h3⟩ := open_agg4 (f0 := fd 59 0) (f1 := fd 59 1) (f2 := fd 59 2) (f3 := fd 59 3) (by kernel_rfl) (by kernel_rfl) (by kernel_rfl) hv h
  obtain ⟨n0, e0, _, _⟩ := DataW.trod_int (k := .i64) (by kernel_rfl) h0
  obtain ⟨n1, e1, _, _⟩ := DataW.trod_int (k := .i64) (by kernel_rfl) h1
  obtain ⟨n2, e2, _, _⟩ := DataW.trod_int (k := .i64) (by kernel_rfl) h2
  obtain ⟨n3, e3, _, _⟩ := DataW.trod_int (k := .i64) (by kernel_rfl) h3
  simp at e0 e1 e2 e3
  subst e0; subst e1; subst e2; subst e3
  exact ⟨⟨n0, n1, n2, n3⟩, rfl⟩
set_option maxRecDepth 100000 in
theorem open_arr3 (hv : Value.okWide Try.prog W .any b0 68 v) (h : DataW.Trod enc Try.prog W 0 (fun _ => true) true 68 v d p) : ∃ nf : Nat → Int, v = .agg (arrL 3 nf).toArray := by
  have ht : Try.prog.underlying 68 = some (.array 3 3) := by kernel_rfl
  have hC : Try.prog.cellsOf 68 = 3 := by kernel_rfl
  have hC3 : Try.prog.cellsOf 3 = 1 := by kernel_rfl
  have h9 := hv
  simp only [Value.okWide, ht] at h9
  obtain ⟨cs, rfl, hsz, _⟩ := h9
  rw [hC] at hsz
  obtain ⟨m, hm⟩ := h
  obtain ⟨xs, k, _, _, _, hl, hx⟩ := DataW.trod_array ht hm
  rw [hC3] at hx
  have get : ∀ i, i < 3 → ∃ n : Int, cs[i]? = some (.int .i64 n) := fun i hi => by
    have h1 := hx i hi
    rw [List.getElem?_eq_getElem (by omega)] at h1
    have e : (((Value.agg cs).cells.toList).drop (i * 1)).take 1 = [cs[i]'(by omega)] := by
      show ((cs.toList).drop (i * 1)).take 1 = _
      rw [Nat.mul_one, List.drop_eq_getElem_cons (by simp; omega)]
      simp
    rw [e] at h1
    obtain ⟨n0, hn0, _⟩ := DataW.trod_int (k := .i64) (by kernel_rfl) h1
    simp at hn0
    exact ⟨n0, by rw [Array.getElem?_eq_getElem (by omega), hn0]⟩
  obtain ⟨n0, g0⟩ := get 0 (by omega)
  obtain ⟨n1, g1⟩ := get 1 (by omega)
  obtain ⟨n2, g2⟩ := get 2 (by omega)
  refine ⟨fun i => if i = 0 then n0 else if i = 1 then n1 else n2, ?_⟩
  congr 1
  apply Array.ext_getElem?
  intro i
  match i with
  | 0 => rw [g0]; rfl
  | 1 => rw [g1]; rfl
  | 2 => rw [g2]; rfl
  | i + 3 => rw [Array.getElem?_eq_none (by omega), Array.getElem?_eq_none (by simp [arrL, fcells])]
end
end Go.Proofs.Ytioimdegbdkppaa.DK
