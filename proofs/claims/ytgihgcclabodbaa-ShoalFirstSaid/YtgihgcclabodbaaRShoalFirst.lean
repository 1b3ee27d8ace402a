/- The row of the law ShoalFirst: the first of the best tracks is the first. No condition. -/
import Derived.Test.YtgihgcclabodbaaRows
import Derived.Test.YtgihgcclabodbaaL2
import Derived.Test.YtgihgcclabodbaaRR
namespace Go.Proofs.Ytgihgcclabodbaa.DK
open Go Go.ChangeShapes Go.WideShapes Go.ChangeAt Go.RowKit Go.Joins Go.Deep Go.Proofs
set_option linter.unusedVariables false

theorem params8 : Try.f8.params.toList = [28, 22] := by kernel_rfl
set_option maxRecDepth 100000 in
theorem liftedShoalFirst (os : Os) (started : os.Started) (H : Type) (enc : TypeId × Value → H) :
    ReturnsInHanded {} Try.checked os 8 .any (Rows.shoalFirstSpec.pre6 enc Try.prog Try.f8 Rows.shoalFirstRow.domain false) (Rows.shoalFirstSpec.post enc Try.prog Try.f8 false true false false) := by
  refine returnsInHanded_of_change_sized (C := Try.checked) ownK started (by kernel_rfl) Try.func8
    (ChangeSpec.witness6 (enc := enc) (C := Try.checked) false ⟨#[], #[.agg #[.int .i64 0, .int .i64 0, .slice none 0 0, .int .i64 0, .slice none 0 0, .int .i64 0, .slice none 0 0], .slice none 0 0], []⟩ 8 (by kernel_rfl) (by kernel_rfl) (by kernel_rfl) (by kernel_rfl)) ?_
  intro W base args ds gs before hval0 hW hcnd hsz0 _
  have hval : ∀ (j : Nat) t v, Try.f8.params[j]? = some t → args[j]? = some v → Value.okWide Try.prog W .any base t v := hval0
  have hW' := hW
  obtain ⟨p, q, hA0, hV, rfl, hfz, hnd⟩ := hW
  have hA : DataW.TrodAll enc Try.prog W 0 (fun _ => true) true Try.f8.params.toList args.toList ds p := hA0
  rw [params8] at hA
  obtain ⟨v0, vs0, d0, ds0, p0, q0, hargs, rfl, rfl, h0, r0⟩ := trodAll_cons hA
  obtain ⟨v1, vs1, d1, ds1, p1, q1, rfl, rfl, rfl, h1, r1⟩ := trodAll_cons r0
  obtain ⟨rfl, rfl, rfl⟩ := trodAll_nil r1
  obtain rfl : args = #[v0, v1] := by cases args; simp_all
  obtain ⟨rfl, rfl⟩ := trodVars_none hV
  have lt0 : ∀ x ∈ p0, x.block < W.heap.size := by obtain ⟨m, hm⟩ := h0; exact DataW.trod_lt m _ _ _ hm
  have lt1 : ∀ x ∈ p1, x.block < W.heap.size := by obtain ⟨m, hm⟩ := h1; exact DataW.trod_lt m _ _ _ hm
  obtain ⟨ss, sv, rs, q_, n_, c_, rfl, hR0, hS0⟩ := open_search (hval 0 28 v0 rfl rfl) h0
  obtain ⟨a1, l1, c1, rfl⟩ := okWide_slice (e := 3) (by kernel_rfl) (hval 1 22 v1 rfl rfl)
  have g1 := h1; obtain ⟨m1, hf1⟩ := g1
  obtain ⟨_, _, _, xs1, hv1, hRf1, hc1, hz1⟩ := open_irows (e := 3) (v := .slice a1 l1 c1) (by kernel_rfl) (by kernel_rfl) (by kernel_rfl) hf1; cases hv1
  have hR1 := hRf1 hz1
  refine (ShoalFirst_calls ss sv rs q_ n_ c_ xs1 a1 l1 c1 W hR0 hS0 hR1).mono fun e W' ⟨he, bel⟩ => ?_
  subst he
  exact ⟨_, rfl, _, _, _, [], _, [], hW', trodAll_mk1 (shut_bool (by kernel_rfl) _), (trodAll_cons_mk (Below.trod laidK (by kernel_rfl) (of_decide_eq_true (by kernel_rfl)) h0 bel.below lt0) (trodAll_cons_mk (Below.trod laidK (by kernel_rfl) (of_decide_eq_true (by kernel_rfl)) h1 bel.below lt1) trodAll_mk0)), rfl, bel.below.frame _, fun h => by cases h⟩

theorem ShoalFirst_row : Rows.ShoalFirstSaid :=
  OpenClaim.holds_of_wide 8 Try.f8 rfl rfl rfl rfl rfl rfl rfl ⟨rfl, rfl, rfl, rfl, rfl⟩ rfl rfl rfl rfl rfl (by kernel_rfl) Try.func8 (by kernel_rfl)
    (of_decide_eq_true (by kernel_rfl)) (by unfold Func.isWrapper; first | (rw [if_pos (by decide +kernel)]; kernel_rfl) | (rw [if_neg (by decide +kernel)]; exact ⟨rfl, rfl⟩))
    (fun os started H enc _ => liftedShoalFirst os started H enc)
end Go.Proofs.Ytgihgcclabodbaa.DK
namespace Go.Proofs.Ytgihgcclabodbaa
theorem ShoalFirst_holds : Rows.ShoalFirstSaid := DK.ShoalFirst_row
#print axioms ShoalFirst_holds
end Go.Proofs.Ytgihgcclabodbaa
