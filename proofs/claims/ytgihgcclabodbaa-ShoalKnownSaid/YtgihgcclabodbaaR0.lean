/- Arguments opened: slices of structs of whole numbers, read as Lean lists. -/
import Derived.Test.YtgihgcclabodbaaKY
import Derived.Deep.Slices
import Derived.Deep.Fields
import Derived.ChangeSame
import Derived.Lib.SmallJoins
namespace Go.Proofs.Ytgihgcclabodbaa.DK
open Go Go.ChangeShapes Go.WideShapes Go.Deep Go.Joins
set_option linter.unusedVariables false

section
variable {H : Type} {en : TypeId × Value → H} {P : Program} {w : World} {base : Nat} {spare : Nat → Bool} {held : Bool}

theorem open_rows {α : Type} [Inhabited α] (enc : α → List Value) (mk : (Nat → Int) → α) (k : Nat) (henc : ∀ g, enc (mk g) = (List.range k).map fun j => .int .i64 (g j)) {t e : TypeId} {fs : Array Field} {fuel : Nat} {v : Value} {x : DataW H × List MemPlace} (ht : P.underlying t = some (.slice e)) (he : P.underlying e = some (.struct fs))
    (hone : oneCellFields P fs = true) (hC : P.cellsOf e = k) (hint : ((List.range k).all fun j => match fs[j]? with | some f => (match P.underlying f.type with | some (.int .i64) => true | _ => false) | none => false) = true) (hk : 0 < k) (h : DataW.trod en P w base spare held fuel t [v] = some x) :
    ∃ (a : Option Addr) (len cap : Nat) (ys : List α), v = .slice a len cap ∧ (len ≤ 9223372036854775807 → Rd enc k w.heap.size w a len ys) ∧ len ≤ cap ∧ len ≤ 9223372036854775807 := by
  rcases open_slice ht h with ⟨h0, _⟩ | ⟨a, len, cap, m, n, D, Pl, hcs, hb, hl, hm, hmm, hx, hi⟩
  · simp at h0
    subst h0
    exact ⟨none, 0, 0, [], rfl, fun _ => ⟨rfl, by omega, by simp⟩, Nat.le_refl _, by omega⟩
  · simp at hcs
    subst hcs
    have cell : ∀ i, i < len → ∀ j, j < k → ∃ n : Int, w.cell? ((a.add (i * k)).add j) = some (.int .i64 n) := by
      intro i hil j hj
      obtain ⟨cs', hc, ht'⟩ := hi i (by rw [hmm]; split <;> omega)
      rw [hC] at hc
      obtain ⟨ys, n', hn', hy, hlen, hyl, hf⟩ := DataW.trod_struct he ht'
      obtain ⟨_, hcl, hat⟩ := World.cells?_some hc
      have hj2 : j < cs'.length := by omega
      simp only [List.all_eq_true, List.mem_range] at hint
      have hij := hint j hj
      cases hfj : fs[j]? with
      | none => rw [hfj] at hij; cases hij
      | some f =>
        rw [hfj] at hij
        simp only at hij
        split at hij
        · rename_i hu
          obtain ⟨ho, hk1⟩ := hone_of hone j f hfj
          have h1 := hf j f hfj
          rw [ho, hk1] at h1
          have hone' : (cs'.drop j).take 1 = [cs'[j]] := by rw [List.drop_eq_getElem_cons hj2]; rfl
          rw [hone'] at h1
          have hys : j < ys.length := by rw [hyl]; exact (Array.getElem?_eq_some_iff.1 hfj).1
          rw [List.getElem?_eq_getElem hys] at h1
          obtain ⟨n0, hn0, _⟩ := DataW.trod_int hu h1
          simp at hn0
          refine ⟨n0, ?_⟩
          rw [hat j hj, List.getElem?_eq_getElem hj2, hn0]
        · cases hij
    refine ⟨some a, len, cap, (List.range len).map fun i => mk fun j => match w.cell? ((a.add (i * k)).add j) with | some (.int _ n) => n | _ => 0, rfl, fun hsz => ⟨by simp, hsz, fun i y hy => ?_⟩, hl, by have h9 := hm; simp only [maxLen] at h9; omega⟩
    simp only [List.getElem?_map, Option.map_eq_some_iff] at hy
    obtain ⟨i', hi', rfl⟩ := hy
    obtain ⟨hil, rfl⟩ := List.getElem?_eq_some_iff.1 hi'
    simp only [List.length_range] at hil
    simp only [List.getElem_range]
    refine ⟨a, rfl, ?_, fun j v hv => ?_⟩
    · obtain ⟨n0, hn0⟩ := cell i hil 0 hk
      have := block_lt hn0
      rwa [DK.add_block, DK.add_block] at this
    · rw [henc] at hv
      simp only [List.getElem?_map, Option.map_eq_some_iff] at hv
      obtain ⟨j', hj', rfl⟩ := hv
      obtain ⟨hjl, rfl⟩ := List.getElem?_eq_some_iff.1 hj'
      simp only [List.length_range] at hjl
      simp only [List.getElem_range]
      obtain ⟨n0, hn0⟩ := cell i hil j hjl
      rw [hn0]

theorem open_irows {t e : TypeId} {fuel : Nat} {v : Value} {x : DataW H × List MemPlace} (ht : P.underlying t = some (.slice e)) (he : P.underlying e = some (.int .i64)) (hC : P.cellsOf e = 1) (h : DataW.trod en P w base spare held fuel t [v] = some x) :
    ∃ (a : Option Addr) (len cap : Nat) (ys : List Int), v = .slice a len cap ∧ (len ≤ 9223372036854775807 → Rd (fun (y : Int) => [Value.int .i64 y]) 1 w.heap.size w a len ys) ∧ len ≤ cap ∧ len ≤ 9223372036854775807 := by
  rcases open_slice ht h with ⟨h0, _⟩ | ⟨a, len, cap, m, n, D, Pl, hcs, hb, hl, hm, hmm, hx, hi⟩
  · simp at h0
    subst h0
    exact ⟨none, 0, 0, [], rfl, fun _ => ⟨rfl, by omega, by simp⟩, Nat.le_refl _, by omega⟩
  · simp at hcs
    subst hcs
    have cell : ∀ i, i < len → ∃ n : Int, w.cell? ((a.add (i * 1)).add 0) = some (.int .i64 n) := by
      intro i hil
      obtain ⟨cs', hc, ht'⟩ := hi i (by rw [hmm]; split <;> omega)
      rw [hC] at hc
      obtain ⟨_, hcl, hat⟩ := World.cells?_some hc
      have h1 := hat 0 (by omega)
      match cs', hcl, ht', h1 with
      | [c], _, ht', h1 =>
        obtain ⟨n0, hn0, _⟩ := DataW.trod_int he ht'
        simp at hn0
        subst hn0
        exact ⟨n0, by simpa using h1⟩
    refine ⟨some a, len, cap, (List.range len).map fun i => match w.cell? ((a.add (i * 1)).add 0) with | some (.int _ n) => n | _ => 0, rfl, fun hsz => ⟨by simp, hsz, fun i y hy => ?_⟩, hl, by have h9 := hm; simp only [maxLen] at h9; omega⟩
    simp only [List.getElem?_map, Option.map_eq_some_iff] at hy
    obtain ⟨i', hi', rfl⟩ := hy
    obtain ⟨hil, rfl⟩ := List.getElem?_eq_some_iff.1 hi'
    simp only [List.length_range] at hil
    simp only [List.getElem_range]
    obtain ⟨n0, hn0⟩ := cell i hil
    refine ⟨a, rfl, ?_, fun j v hv => ?_⟩
    · have := block_lt hn0
      rwa [DK.add_block, DK.add_block] at this
    · cases j with
      | zero => simp only [List.getElem?_cons_zero, Option.some.injEq] at hv; subst hv; rw [hn0]
      | succ j => simp at hv
end
end Go.Proofs.Ytgihgcclabodbaa.DK
