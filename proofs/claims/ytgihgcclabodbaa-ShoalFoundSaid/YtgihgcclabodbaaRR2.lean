/- Three numbers, and a report, that came in. -/
import Derived.Test.YtgihgcclabodbaaRR
namespace Go.Proofs.Ytgihgcclabodbaa.DK
open Go Go.ChangeShapes Go.WideShapes Go.ChangeAt Go.RowKit Go.Joins Go.Deep Go.Proofs
set_option linter.unusedVariables false

section
variable {H : Type} {enc : TypeId × Value → H} {W : World} {b0 : Nat} {v : Value} {d : DataW H} {p : List MemPlace}
set_option maxRecDepth 100000 in
theorem open_arr3 (hv : Value.okWide Try.prog W .any b0 55 v) (h : DataW.Trod enc Try.prog W 0 (fun _ => true) true 55 v d p) : ∃ nf : Nat → Int, v = .agg (arrL 3 nf).toArray := by
  have ht : Try.prog.underlying 55 = some (.array 3 3) := by kernel_rfl
  have hC : Try.prog.cellsOf 55 = 3 := by kernel_rfl
  have hC3 : Try.prog.cellsOf 3 = 1 := by kernel_rfl
  have h9 := hv
  simp only [Value.okWide, ht] at h9
  obtain ⟨cs, rfl, hsz, _⟩ := h9
  rw [hC] at hsz
  obtain ⟨m, hm⟩ := h
  obtain ⟨xs, k, _, _, _, hl, hx⟩ := DataW.trod_array ht hm
  rw [hC3] at hx
  have get : ∀ i, i < 3 → ∃ n : Int, cs[i]? = some (.int .i64 n) := fun i hi => by
    have h1 := hx i hi
    rw [List.getElem?_eq_getElem (by omega)] at h1
    have e : (((Value.agg cs).cells.toList).drop (i * 1)).take 1 = [cs[i]'(by omega)] := by
      show ((cs.toList).drop (i * 1)).take 1 = _
      rw [Nat.mul_one, List.drop_eq_getElem_cons (by simp; omega)]
      simp
    rw [e] at h1
    obtain ⟨n0, hn0, hi0⟩ := int_ok (by kernel_rfl) h1
    exact ⟨n0, by rw [Array.getElem?_eq_getElem (by omega), hn0]⟩
  obtain ⟨n0, g0⟩ := get 0 (by omega)
  obtain ⟨n1, g1⟩ := get 1 (by omega)
  obtain ⟨n2, g2⟩ := get 2 (by omega)
  refine ⟨fun i => if i = 0 then n0 else if i = 1 then n1 else n2, ?_⟩
  congr 1
  apply Array.ext_getElem?
  intro i
  match i with
  | 0 => rw [g0]; rfl
  | 1 => rw [g1]; rfl
  | 2 => rw [g2]; rfl
  | i + 3 => rw [Array.getElem?_eq_none (by omega), Array.getElem?_eq_none (by simp [arrL, fcells])]
set_option maxRecDepth 100000 in
theorem open_rep (hv : Value.okWide Try.prog W .any b0 52 v) (h : DataW.Trod enc Try.prog W 0 (fun _ => true) true 52 v d p) : ∃ x : Rp, v = .agg #[.int .i64 x.hr, .int .i64 x.cell, .int .i64 x.far, .bool x.th] := by
  have ht : Try.prog.underlying 52 = some (.struct #[fd 52 0, fd 52 1, fd 52 2, fd 52 3]) := by kernel_rfl
  have hC : Try.prog.cellsOf 52 = 4 := by kernel_rfl
  have h9 := hv
  simp only [Value.okWide, ht] at h9
  obtain ⟨cs, rfl, hsz, _⟩ := h9
  rw [hC] at hsz
  obtain ⟨m, hm⟩ := h
  obtain ⟨xs, k, _, _, _, hl, hf⟩ := DataW.trod_struct ht hm
  obtain ⟨L, hL⟩ : ∃ L, (Value.agg cs).cells.toList = L := ⟨_, rfl⟩
  have hLc : cs.toList = L := hL
  have hLl : L.length = 4 := by rw [← hLc]; simpa using hsz
  rw [hL] at hf
  have fld : ∀ j, j < 4 → ∀ f, #[fd 52 0, fd 52 1, fd 52 2, fd 52 3][j]? = some f → f.offset = j → Try.prog.cellsOf f.type = 1 → ∃ y, DataW.trod enc Try.prog W 0 (fun _ => true) true k f.type [L.getD j (.bool false)] = some y := by
    intro j hj f hfj ho hc
    have h1 := hf j f hfj
    have hys : j < xs.length := by rw [hl]; exact hj
    rw [List.getElem?_eq_getElem hys, ho, hc, one_of (by omega)] at h1
    exact ⟨xs[j], h1⟩
  obtain ⟨y0, g0⟩ := fld 0 (by omega) (fd 52 0) rfl (by kernel_rfl) (by kernel_rfl)
  obtain ⟨y1, g1⟩ := fld 1 (by omega) (fd 52 1) rfl (by kernel_rfl) (by kernel_rfl)
  obtain ⟨y2, g2⟩ := fld 2 (by omega) (fd 52 2) rfl (by kernel_rfl) (by kernel_rfl)
  obtain ⟨y3, g3⟩ := fld 3 (by omega) (fd 52 3) rfl (by kernel_rfl) (by kernel_rfl)
  obtain ⟨n0, q0, _⟩ := int_ok (t := (fd 52 0).type) (by kernel_rfl) g0
  obtain ⟨n1, q1, _⟩ := int_ok (t := (fd 52 1).type) (by kernel_rfl) g1
  obtain ⟨n2, q2, _⟩ := int_ok (t := (fd 52 2).type) (by kernel_rfl) g2
  obtain ⟨n3, q3⟩ := bool_ok (t := (fd 52 3).type) (by kernel_rfl) g3
  refine ⟨⟨n0, n1, n2, n3⟩, ?_⟩
  congr 1
  apply Array.ext'
  rw [hLc]
  match L, hLl, q0, q1, q2, q3 with
  | [c0, c1, c2, c3], _, q0, q1, q2, q3 =>
    simp at q0 q1 q2 q3
    rw [q0, q1, q2, q3]
end
end Go.Proofs.Ytgihgcclabodbaa.DK
