/- Slices made of zero structs, of a size that stands in the text. -/
import Derived.Test.YtgihgcclabodbaaKY
namespace Go.Proofs.Ytgihgcclabodbaa.DK
open Go
set_option linter.unusedVariables false
section
variable {P : Program} {rn : Option Nat} {n0 : Nat} {ds : List Deferred} {F : List (Nat × Value)} {a : Act} {ops : Array Oper} {k : Nat} {K : Act → World → Prop} {w w0 : World} {M : Nat → Prop} {L : List Res}
theorem op_mslL {t e : TypeId} {d N sz : Nat} {m : Int} {z : Value} {cs : Array Value} (hm : m = (N : Int)) (hF : Fr n0 ds F a) (hO : Own w0 M L w) (he : dec n0 ops k F = some (.msl t (.int .i64 m) (.int .i64 m) d)) (hu : P.underlying t = some (.slice e))
    (hi : ((P.info? e).map fun i => (i.size, i.zero)) = some (sz, some z)) (hby : ((P.info? e).map fun i => Nat.ble i.bytes 1000) = some true) (hk : N ≤ 1000000) (hcs : madeCells z.cells (N * sz) = cs)
    (h : ∀ a' w' b, Fr n0 ds ((d, .slice (some ⟨b, 0, none⟩) N N) :: F) a' → Own w0 M (L ++ [cel b cs e]) w' → Ext w w' ∧ w.heap.size ≤ b → K a' w') : opX P rn ops k K a w := by
  subst hm
  cases hinf : P.info? e with
  | none => rw [hinf] at hi; cases hi
  | some inf =>
    rw [hinf] at hi hby
    simp only [Option.map_some, Option.some.injEq, Prod.mk.injEq] at hi hby
    have hb := Nat.le_of_ble_eq_true hby
    have hmax := maxLen_ge
    obtain ⟨w', hrun, hown, hgr⟩ := run_make_full (P := P) w 0 t e inf z sz hu hinf hi.2 hi.1 .i64 .i64 N (Nat.le_trans (Nat.mul_le_mul hb hk) (by omega)) (by omega) (Nat.zero_le _)
    refine op_val (w' := w') (v := .slice (some ⟨w.heap.size, 0, none⟩) N N) he hF ?_ fun a' hf => h a' w' _ hf (hO.add (Ext.of_grown hgr) (r := cel w.heap.size cs e) ?_ fun m hm => ?_) ⟨Ext.of_grown hgr, Nat.le_refl _⟩
    · simp [NOp.sem, Sem.run_bind, hrun, Result.andThen, Sem.run, pure]
    · rcases hown.2 with ⟨hv, _⟩ | ⟨g, cap, cur, hv, _, hg, _, _, hcs2, htake⟩
      · cases hv
      · simp only [Value.slice.injEq, Option.some.injEq, Addr.mk.injEq, true_and, and_true] at hv
        obtain ⟨rfl, rfl⟩ := hv
        simp only [pt]
        rw [hg]
        congr 2
        apply Array.ext'
        have : cur.toList.take (N * sz) = cur.toList := List.take_of_length_le (by simp [hcs2])
        rw [this] at htake
        rw [htake, hcs]
    · simp only [pt] at hm; omega
end
end Go.Proofs.Ytgihgcclabodbaa.DK
