/- A call's outcome, joined to what the caller owns. -/
import Derived.Test.YtioimdegbdkppaaKB
namespace Go.Proofs.Ytioimdegbdkppaa.DK
open Go
set_option linter.unusedSimpArgs false
set_option linter.unusedVariables false

variable {P : Program} {rn : Option Nat}

theorem Own.join {w0 w w' : World} {M M' : Nat → Prop} {L1 L2 L' : List Res} (hO : Own w0 M (L1 ++ L2) w) (hC : Own w M' L' w') (hM : ∀ k, M' k → ∃ r ∈ L2, r.fp k) : Own w0 M (L1 ++ L') w' := by
  have hap := List.pairwise_append.1 hO.apart
  have h1 : ∀ r ∈ L1, ∀ k, r.fp k → k < w.heap.size ∧ ¬ M' k := fun r hr k hk =>
    ⟨r.lt w (hO.all r (List.mem_append_left _ hr)) k hk, fun hm => let ⟨s, hs, hsk⟩ := hM k hm; hap.2.2 r hr s hs k hk hsk⟩
  have h2 : ∀ k, M' k → w0.heap.size ≤ k ∨ M k := fun k hm => let ⟨s, hs, hsk⟩ := hM k hm; hO.home s (List.mem_append_right _ hs) k hsk
  refine ⟨hO.kp.trans' hC.kp fun i hi hm => ?_, ?_, ?_, ?_⟩
  · rcases h2 i hm with h | h
    · omega
    · exact h
  · intro r hr
    rcases List.mem_append.1 hr with hr | hr
    · exact r.loc w w' (fun k hk => hC.kp.block k (h1 r hr k hk).1 (h1 r hr k hk).2) (hO.all r (List.mem_append_left _ hr))
    · exact hC.all r hr
  · rw [List.pairwise_append]
    refine ⟨hap.1, hC.apart, fun r hr s hs k hk1 hk2 => ?_⟩
    have := h1 r hr k hk1
    rcases hC.home s hs k hk2 with h | h
    · omega
    · exact this.2 h
  · intro r hr k hk
    rcases List.mem_append.1 hr with hr | hr
    · exact hO.home r (List.mem_append_left _ hr) k hk
    · rcases hC.home r hr k hk with h | h
      · exact .inl (Nat.le_trans hO.kp.size h)
      · exact h2 k h

/-- A call that changes nothing of the caller's. -/
theorem Own.joinE {w0 w w' : World} {M : Nat → Prop} {L L' : List Res} (hO : Own w0 M L w) (hC : Own w none_ L' w') : Own w0 M (L ++ L') w' := by
  refine Own.join (L2 := []) (M' := none_) ?_ hC (fun k h => h.elim)
  rw [List.append_nil]; exact hO

theorem Ro.of_ok {b : Nat} {cs : List Value} {t : TypeId} {w : World} (h : (cel b cs.toArray t).ok w) : Ro b cs w := fun off v hv => by
  simp only [pt] at h
  simp [World.cell?, h, hv]

theorem round_next {l : Nat} {R : Bool → World → Prop} {a : Act} {w w' : World} (he : (Instr.endRound l none).run P w = .ok (.bool true) w') (hR : R true w') : roundPost P l (fun e w' => ∃ b, e = .returned (.bool b) ∧ R b w') .normal a w := ⟨_, w', he, true, rfl, hR⟩
theorem round_stop {l : Nat} {R : Bool → World → Prop} {a : Act} {w w' : World} (he : (Instr.endRound l (some .ret)).run P w = .ok (.bool false) w') (hR : R false w') : roundPost P l (fun e w' => ∃ b, e = .returned (.bool b) ∧ R b w') .ret a w := ⟨_, w', he, false, rfl, hR⟩

theorem yields_ofR {l : Nat} {w : World} {fn : FuncId} {tmps : Array Value} {t : Tmp} {assign body : Code} {D : Nat} {arg : Value} {R : Bool → World → Prop}
    (hl : w.heap[l]? = some (.loop (loopR .ready none fn tmps #[t] assign body D)))
    (h : ∀ R', R' = R → W (some l) P assign (fun e a₁ w₁ => e = .normal ∧ ∃ w₂, (Instr.beginRound l).run P w₁ = .ok () w₂ ∧ W (some l) P body (roundPost P l (fun e w' => ∃ b, e = .returned (.bool b) ∧ R' b w')) a₁ w₂) { tmps := tmps.setIfInBounds t arg, defers := [] } w) :
    Yields P l arg w R := yields_of hl (h R rfl)

end Go.Proofs.Ytioimdegbdkppaa.DK
