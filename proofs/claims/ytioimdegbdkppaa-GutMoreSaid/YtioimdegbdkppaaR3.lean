/- A day that came in: its lots take no more than memory bears. -/
import Derived.Test.YtioimdegbdkppaaR2
namespace Go.Proofs.Ytioimdegbdkppaa.DK
open Go Go.ChangeShapes Go.WideShapes Go.ChangeAt Go.RowKit Go.Joins Go.Deep Go.Proofs
set_option linter.unusedVariables false

set_option maxRecDepth 100000 in
theorem day_size {H : Type} {enc : TypeId × Value → H} {W : World} {b0 : Nat} {d : DataW H} {p : List MemPlace} {v : Value} {hr : Value} {ha la wa : Option Addr} {hn hc ln lc wn wc : Nat} (hv : Value.okWide Try.prog W .any b0 26 v) (h : DataW.Trod enc Try.prog W 0 (fun _ => true) true 26 v d p) (hve : v = .agg #[hr, .slice ha hn hc, .slice la ln lc, .slice wa wn wc])
    {ts : List TypeId} {ds : List (DataW H)} (hw : (DataW.weightsEach Try.prog (26 :: ts) (d :: ds)).all (· ≤ reachBytes) = true) : (ln + 1) * 32 ≤ 140737488355328 := by
  obtain ⟨v0, v1, v2, v3, y0, y1, y2, y3, n, hva, rfl, rfl, h0, h1, h2, h3⟩ := open_agg4 (f0 := fd 26 0) (f1 := fd 26 1) (f2 := fd 26 2) (f3 := fd 26 3) (by kernel_rfl) (by kernel_rfl) (by kernel_rfl) hv h
  rw [hve] at hva
  simp only [Value.agg.injEq, Array.mk.injEq, List.cons.injEq, and_true] at hva
  obtain ⟨rfl, rfl, rfl, rfl⟩ := hva
  have hu : Try.prog.underlying 26 = some (.struct #[fd 26 0, fd 26 1, fd 26 2, fd 26 3]) := by kernel_rfl
  have hs : Try.prog.underlying (fd 26 2).type = some (.slice 59) := by kernel_rfl
  have hb : Try.prog.bytesOf 59 = 32 := by kernel_rfl
  rcases open_slice hs h2 with ⟨h4, _⟩ | ⟨a, len, cap, m, k, D, Pl, hcs, _, hl, hm, hmm, hx, _⟩
  · simp at h4
    omega
  · simp at hcs
    obtain ⟨_, rfl, rfl⟩ := hcs
    have hmem : (((List.range ln).map D).length + ((List.range (m - ln)).map fun j => D (ln + j)).length) * 32 ∈ DataW.weightsEach Try.prog (26 :: ts) (DataW.agg [y0.1, y1.1, y2.1, y3.1] :: ds) := by
      rw [hx]
      simp only [DataW.weightsEach, DataW.weights, hu, hs, hb, List.map_cons, List.map_nil, List.mem_append, List.mem_cons]
      simp
    have h9 := List.all_eq_true.1 hw _ hmem
    have h10 := of_decide_eq_true h9
    have h11 : reachBytes = 140737488351232 := by decide
    rw [h11] at h10
    simp only [List.length_map, List.length_range] at h10
    omega
end Go.Proofs.Ytioimdegbdkppaa.DK
