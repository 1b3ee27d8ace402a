/- The row of the law ShoalAccused: the reports that are named are false of each best track. No condition. -/
import Derived.Test.YtgihgcclabodbaaRows
import Derived.Test.YtgihgcclabodbaaL5
import Derived.Test.YtgihgcclabodbaaRR
namespace Go.Proofs.Ytgihgcclabodbaa.DK
open Go Go.ChangeShapes Go.WideShapes Go.ChangeAt Go.RowKit Go.Joins Go.Deep Go.Proofs
set_option linter.unusedVariables false

theorem params11 : Try.f11.params.toList = [28, 22, 3] := by kernel_rfl
set_option maxRecDepth 100000 in
theorem liftedShoalAccused (os : Os) (started : os.Started) (H : Type) (enc : TypeId × Value → H) :
    ReturnsInHanded {} Try.checked os 11 .any (Rows.shoalAccusedSpec.pre6 enc Try.prog Try.f11 Rows.shoalAccusedRow.domain false) (Rows.shoalAccusedSpec.post enc Try.prog Try.f11 false true false false) := by
  refine returnsInHanded_of_change_sized (C := Try.checked) ownK started (by kernel_rfl) Try.func11
    (ChangeSpec.witness6 (enc := enc) (C := Try.checked) false ⟨#[], #[.agg #[.int .i64 0, .int .i64 0, .slice none 0 0, .int .i64 0, .slice none 0 0, .int .i64 0, .slice none 0 0], .slice none 0 0, .int .i64 0], []⟩ 8 (by kernel_rfl) (by kernel_rfl) (by kernel_rfl) (by kernel_rfl)) ?_
  intro W base args ds gs before hval0 hW hcnd hsz0 _
  have hval : ∀ (j : Nat) t v, Try.f11.params[j]? = some t → args[j]? = some v → Value.okWide Try.prog W .any base t v := hval0
  have hW' := hW
  obtain ⟨p, q, hA0, hV, rfl, hfz, hnd⟩ := hW
  have hA : DataW.TrodAll enc Try.prog W 0 (fun _ => true) true Try.f11.params.toList args.toList ds p := hA0
  rw [params11] at hA
  obtain ⟨v0, vs0, d0, ds0, p0, q0, hargs, rfl, rfl, h0, r0⟩ := trodAll_cons hA
  obtain ⟨v1, vs1, d1, ds1, p1, q1, rfl, rfl, rfl, h1, r1⟩ := trodAll_cons r0
  obtain ⟨v2, vs2, d2, ds2, p2, q2, rfl, rfl, rfl, h2, r2⟩ := trodAll_cons r1
  obtain ⟨rfl, rfl, rfl⟩ := trodAll_nil r2
  obtain rfl : args = #[v0, v1, v2] := by cases args; simp_all
  obtain ⟨rfl, rfl⟩ := trodVars_none hV
  have lt0 : ∀ x ∈ p0, x.block < W.heap.size := by obtain ⟨m, hm⟩ := h0; exact DataW.trod_lt m _ _ _ hm
  have lt1 : ∀ x ∈ p1, x.block < W.heap.size := by obtain ⟨m, hm⟩ := h1; exact DataW.trod_lt m _ _ _ hm
  obtain ⟨ss, sv, rs, q_, n_, c_, rfl, hR0, hS0⟩ := open_search (hval 0 28 v0 rfl rfl) h0
  obtain ⟨a1, l1, c1, rfl⟩ := okWide_slice (e := 3) (by kernel_rfl) (hval 1 22 v1 rfl rfl)
  have g1 := h1; obtain ⟨m1, hf1⟩ := g1
  obtain ⟨_, _, _, xs1, hv1, hRf1, hc1, hz1⟩ := open_irows (e := 3) (v := .slice a1 l1 c1) (by kernel_rfl) (by kernel_rfl) (by kernel_rfl) hf1; cases hv1
  have hR1 := hRf1 hz1
  obtain ⟨n2, rfl, rfl, rfl, w2⟩ := open_int (k := .i64) (by kernel_rfl) (hval 2 3 v2 rfl rfl) h2
  refine (ShoalAccused_calls ss sv rs q_ n_ c_ xs1 a1 l1 c1 n2 W hR0 hS0 hR1).mono fun e W' ⟨he, bel⟩ => ?_
  subst he
  exact ⟨_, rfl, _, _, _, [], _, [], hW', trodAll_mk1 (shut_bool (by kernel_rfl) _), (trodAll_cons_mk (Below.trod laidK (by kernel_rfl) (of_decide_eq_true (by kernel_rfl)) h0 bel.below lt0) (trodAll_cons_mk (Below.trod laidK (by kernel_rfl) (of_decide_eq_true (by kernel_rfl)) h1 bel.below lt1) (trodAll_cons_mk (shut_int (by kernel_rfl) w2) trodAll_mk0))), rfl, bel.below.frame _, fun h => by cases h⟩

theorem ShoalAccused_row : Rows.ShoalAccusedSaid :=
  OpenClaim.holds_of_wide 11 Try.f11 rfl rfl rfl rfl rfl rfl rfl ⟨rfl, rfl, rfl, rfl, rfl⟩ rfl rfl rfl rfl rfl (by kernel_rfl) Try.func11 (by kernel_rfl)
    (of_decide_eq_true (by kernel_rfl)) (by unfold Func.isWrapper; first | (rw [if_pos (by decide +kernel)]; kernel_rfl) | (rw [if_neg (by decide +kernel)]; exact ⟨rfl, rfl⟩))
    (fun os started H enc _ => liftedShoalAccused os started H enc)
end Go.Proofs.Ytgihgcclabodbaa.DK
namespace Go.Proofs.Ytgihgcclabodbaa
theorem ShoalAccused_holds : Rows.ShoalAccusedSaid := DK.ShoalAccused_row
#print axioms ShoalAccused_holds
end Go.Proofs.Ytgihgcclabodbaa
