/- Appending to slices of any length that memory bears. -/
import Derived.Test.YtioimdegbdkppaaKG
namespace Go.Proofs.Ytioimdegbdkppaa.DK
open Go
set_option linter.unusedSimpArgs false
set_option linter.unusedVariables false

variable {P : Program} {rn : Option Nat}
section
variable {n : Nat} {ds : List Deferred} {F : List (Nat × Value)} {a : Act} {ops : Array Oper} {i : Nat} {K : Act → World → Prop} {w w0 : World} {M : Nat → Prop} {L : List Res}
theorem op_appX2 {α : Type} {enc : α → List Value} {t ty e : TypeId} {sz k c m c2 d bd B : Nat} {p p2 : Option Addr} {xs : List Value} {ys : List α} (ht : rowTy P t e sz = true) (hB : ((P.info? e).map fun i => i.bytes) = some B) (henc : ∀ y, (enc y).length = sz) (h1c : ∀ y, (enc y).all Value.oneCell' = true) (hF : Fr n ds F a) (hO : Own w0 M L w)
    (he : dec n ops i F = some (.app #[t, t] ty [.slice p k c, .slice p2 m c2] d)) (hR : Rd enc sz bd w p2 m ys) (j1 : Nat) (h1 : L[j1]? = some (rowR e sz (.slice p k c) k xs)) (hk : k + m ≤ maxLen) (hbB : (k + m) * B ≤ 140737488355328)
    (h : ∀ a' w' p' c', Fr n ds ((d, .slice p' (k + m) c') :: F) a' → Own w0 M (L.set j1 (rowR e sz (.slice p' (k + m) c') (k + m) (xs ++ ys.flatMap enc))) w' →
      (Kp (rowR e sz (.slice p k c) k xs).fp w w' ∧ ∀ q, (rowR e sz (.slice p' (k + m) c') (k + m) (xs ++ ys.flatMap enc)).fp q → (rowR e sz (.slice p k c) k xs).fp q ∨ w.heap.size ≤ q) → K a' w') : opX P rn ops i K a w := by
  obtain ⟨inf, z, hu, hsz, hi, hsize, hby, hz, hzs⟩ := rowTy_ok ht
  have hr := hO.get j1 h1
  have hBe : inf.bytes = B := by rw [hi] at hB; simpa using hB
  cases p2 with
  | some ad =>
    obtain ⟨v', w', hrun, hown, hgr, _, hblk⟩ := run_append_own_at (P := P) w 0 t ty e inf z sz inf.bytes hu hi hz hsize rfl hzs hsz (.slice p k c) k xs hr ad m c2 (ys.flatMap enc) (by rw [flat_len henc, hR.len])
      (rd_cells henc hsz hR) (oneCell_of h1c ys) hk (by rw [hBe]; exact hbB) (Nat.zero_le _)
    have hshape : ∃ p' c', v' = .slice p' (k + m) c' := by
      rcases hown.2 with ⟨h0, h2⟩ | ⟨g, cap, cur, hv, _⟩
      · rw [h2]; exact ⟨_, _, h0⟩
      · exact ⟨_, _, hv⟩
    obtain ⟨p', c', rfl⟩ := hshape
    have hq : ∀ q, (rowR e sz (.slice p' (k + m) c') (k + m) (xs ++ ys.flatMap enc)).fp q → (rowR e sz (.slice p k c) k xs).fp q ∨ w.heap.size ≤ q := by
      intro q hm
      simp only [rowR] at hm ⊢
      rcases hblk with hb | hb
      · exact .inl (hb ▸ hm)
      · rw [hb] at hm; right; have := Option.some.inj hm; omega
    refine op_val (w' := w') (v := .slice p' (k + m) c') he hF ?_ fun a' hf => h a' w' p' c' hf (hO.upd j1 h1 (r' := rowR e sz (.slice p' (k + m) c') (k + m) (xs ++ ys.flatMap enc)) (Kp.of_grown hgr) hown hq) ⟨Kp.of_grown hgr, hq⟩
    simp [NOp.sem, Sem.run_bind, hrun, Result.andThen, Sem.run, pure]
  | none =>
    have hm0 : m = 0 := by
      have hl := hR.len
      cases ys with
      | nil => simpa using hl.symm
      | cons y ys => obtain ⟨ad, h1, _⟩ := hR.cells 0 y rfl; cases h1
    subst hm0
    have hys : ys = [] := List.eq_nil_of_length_eq_zero hR.len
    subst hys
    have hkc : k ≤ c := by
      rcases hr.2 with ⟨h0, h2⟩ | ⟨g, cap, cur, hv, _, _, hnc, _⟩
      · simp at h0; omega
      · simp at hv; omega
    have hrow : rowR e sz (.slice p (k + 0) c) (k + 0) (xs ++ ([] : List α).flatMap enc) = rowR e sz (.slice p k c) k xs := by simp
    refine op_val (w' := w) (v := .slice p (k + 0) c) he hF ?_ fun a' hf => h a' w p c hf ?_ ⟨Kp.refl _ _, fun q hq => .inl (by rw [hrow] at hq; exact hq)⟩
    · have hrun := run_append_none (P := P) (w := w) (ty := ty) hu hi p k c c2 hkc
      simp [NOp.sem, Sem.run_bind, hrun, Result.andThen, Sem.run, pure]
    · rw [hrow]
      have : L.set j1 (rowR e sz (.slice p k c) k xs) = L := by
        obtain ⟨hl, he⟩ := List.getElem?_eq_some_iff.1 h1
        rw [← he, List.set_getElem_self]
      rw [this]; exact hO
theorem op_appR2 {t ty e : TypeId} {sz k c b d B : Nat} {p : Option Addr} {xs : List Value} {cs : Array Value} (ht : rowTy P t e sz = true) (hB : ((P.info? e).map fun i => i.bytes) = some B) (hF : Fr n ds F a) (hO : Own w0 M L w)
    (he : dec n ops i F = some (.app #[t, t] ty [.slice p k c, .slice (some ⟨b, 0, none⟩) 1 1] d)) (j1 : Nat) (h1 : L[j1]? = some (rowR e sz (.slice p k c) k xs)) (j2 : Nat) (h2 : L[j2]? = some (cel b cs e)) (hcs : (Nat.beq cs.size sz && cs.toList.all Value.oneCell') = true) (hk : k + 1 ≤ maxLen) (hbB : (k + 1) * B ≤ 140737488355328)
    (h : ∀ a' w' p' c', Fr n ds ((d, .slice p' (k + 1) c') :: F) a' → Own w0 M (L.set j1 (rowR e sz (.slice p' (k + 1) c') (k + 1) (xs ++ cs.toList))) w' → Kp (rowR e sz (.slice p k c) k xs).fp w w' → K a' w') : opX P rn ops i K a w := by
  obtain ⟨inf, z, hu, hsz, hi, hsize, hby, hz, hzs⟩ := rowTy_ok ht
  simp only [Bool.and_eq_true, List.all_eq_true] at hcs
  have hlen := Nat.eq_of_beq_eq_true hcs.1
  have hr := hO.get j1 h1
  have hBe : inf.bytes = B := by rw [hi] at hB; simpa using hB
  obtain ⟨v', w', hrun, hown, hgr, _, hblk⟩ := run_append_own_at (P := P) w 0 t ty e inf z sz inf.bytes hu hi hz hsize rfl hzs hsz (.slice p k c) k xs hr ⟨b, 0, none⟩ 1 1 cs.toList (by simpa using hlen)
    (fun j u hj => by rw [add_own, Nat.zero_add]; exact hO.cell j2 h2 j (by simpa using hj)) hcs.2 hk (by rw [hBe]; exact hbB) (Nat.zero_le _)
  have hshape : ∃ p' c', v' = .slice p' (k + 1) c' := by
    rcases hown.2 with ⟨_, h0⟩ | ⟨g, cap, cur, hv, _⟩
    · omega
    · exact ⟨_, _, hv⟩
  obtain ⟨p', c', rfl⟩ := hshape
  refine op_val (w' := w') (v := .slice p' (k + 1) c') he hF ?_ fun a' hf => h a' w' p' c' hf (hO.upd j1 h1 (r' := rowR e sz (.slice p' (k + 1) c') (k + 1) (xs ++ cs.toList)) (Kp.of_grown hgr) hown (fun m hm => ?_)) (Kp.of_grown hgr)
  · simp [NOp.sem, Sem.run_bind, hrun, Result.andThen, Sem.run, pure]
  · simp only [rowR] at hm ⊢
    rcases hblk with hb | hb
    · exact .inl (hb ▸ hm)
    · rw [hb] at hm; right; have := Option.some.inj hm; omega
theorem rd_row2 {α : Type} {enc : α → List Value} {e : TypeId} {sz k c : Nat} {p : Option Addr} {ys : List α} (henc : ∀ y, (enc y).length = sz) (hsz : 0 < sz) (hO : Own w0 M L w) (j : Nat) (hj : L[j]? = some (rowR e sz (.slice p k c) k (ys.flatMap enc))) (hk : k ≤ 9223372036854775807) : Rd enc sz w.heap.size w p k ys := by
  have hr := hO.get j hj
  have hl : ys.length = k := by
    have := hr.1
    rw [flat_len henc] at this
    exact Nat.eq_of_mul_eq_mul_right hsz this
  refine ⟨hl, hk, fun i y hy => ?_⟩
  have hil : i < k := by rw [← hl]; exact (List.getElem?_eq_some_iff.1 hy).1
  rcases hr.2 with ⟨_, h0⟩ | ⟨g, cap, cur, hv, _, hg, hnc, _, hcs, htake⟩
  · omega
  · simp only [Value.slice.injEq] at hv
    obtain ⟨rfl, _, rfl⟩ := hv
    refine ⟨_, rfl, obj_lt hg, fun q v hq => ?_⟩
    have hqs : q < sz := by rw [← henc y]; exact (List.getElem?_eq_some_iff.1 hq).1
    have h1 := flat_get henc ys i q y hy hqs
    rw [hq] at h1
    rw [add_own, add_own, Nat.zero_add]
    have hlt : i * sz + q < k * sz := by
      have : (i + 1) * sz ≤ k * sz := Nat.mul_le_mul_right _ hil
      rw [Nat.succ_mul] at this; omega
    rw [← htake, List.getElem?_take_of_lt hlt] at h1
    simp [World.cell?, hg]
    simpa using h1
end
end Go.Proofs.Ytioimdegbdkppaa.DK
