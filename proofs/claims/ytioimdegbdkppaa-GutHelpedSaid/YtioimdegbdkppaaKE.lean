/- Slices that are read while some blocks change. -/
import Derived.Test.YtioimdegbdkppaaKD
namespace Go.Proofs.Ytioimdegbdkppaa.DK
open Go
set_option linter.unusedSimpArgs false
set_option linter.unusedVariables false

variable {P : Program} {rn : Option Nat}

/-- A slice whose block is none of M. -/
structure RdX {α : Type} (M : Nat → Prop) (enc : α → List Value) (sz : Nat) (w : World) (a : Option Addr) (n : Nat) (xs : List α) : Prop where
  len : xs.length = n
  size : n ≤ 9223372036854775807
  cells : ∀ i x, xs[i]? = some x → ∃ ad, a = some ad ∧ ¬ M ad.block ∧ ∀ j v, (enc x)[j]? = some v → w.cell? ((ad.add (i * sz)).add j) = some v

section
variable {α : Type} {M : Nat → Prop} {enc : α → List Value} {sz : Nat} {w w0 w1 : World} {L : List Res} {a : Option Addr} {n : Nat} {xs : List α}
theorem RdX.kp {w' : World} {X : Nat → Prop} (h : RdX X enc sz w a n xs) (hk : Kp M w w') (hm : ∀ k, M k → X k) : RdX X enc sz w' a n xs :=
  ⟨h.len, h.size, fun i x hx => let ⟨ad, ha, hb, hc⟩ := h.cells i x hx; ⟨ad, ha, hb, fun j v hv => hk.cell (hc j v hv) (by rw [add_block, add_block]; exact fun h => hb (hm _ h))⟩⟩
theorem RdX.ext {w' : World} (h : RdX M enc sz w a n xs) (hk : Ext w w') : RdX M enc sz w' a n xs := h.kp hk (fun _ h => h.elim)
theorem RdX.rd (h : RdX M enc sz w a n xs) (henc : ∀ y, ∃ v, (enc y)[0]? = some v) : Rd enc sz w.heap.size w a n xs :=
  ⟨h.len, h.size, fun i x hx => let ⟨ad, ha, _, hc⟩ := h.cells i x hx; let ⟨v, hv⟩ := henc x; ⟨ad, ha, by have := block_lt (hc 0 v hv); rwa [add_block, add_block] at this, hc⟩⟩
theorem RdX.none_ : RdX M enc sz w none 0 [] := ⟨rfl, by omega, fun i x hx => by simp at hx⟩

theorem ixX [Inhabited α] {S : World → Prop} (h : RdX M enc sz w a n xs) {i : Int} (h0 : 0 ≤ i) (h1 : i < n) : (Req.idx a n i sz (adr a sz i)).ok P S := by
  have hlt : i.toNat < xs.length := by have := h.len; omega
  obtain ⟨ad, ha, _, _⟩ := h.cells i.toNat _ (List.getElem?_eq_getElem hlt)
  subst ha
  exact ⟨ad, rfl, h0, h1, rfl⟩
theorem ldxX [Inhabited α] {S : World → Prop} {X : Nat → Prop} (H : ∀ x, S x → Own w0 M L x) (hm : ∀ k, M k → X k) (h : RdX X enc sz w0 a n xs) {i : Int} (h0 : 0 ≤ i) (h1 : i < n) (off : Nat) {v : Value} (hv : (enc (xs.getD i.toNat default))[off]? = some v) : (Req.ld ((adr a sz i).add off) v).ok P S := by
  intro w' hS
  have hlt : i.toNat < xs.length := by have := h.len; omega
  have hx : xs[i.toNat]? = some (xs.getD i.toNat default) := by rw [List.getD_eq_getElem?_getD, List.getElem?_eq_getElem hlt]; rfl
  obtain ⟨ad, ha, _, hc⟩ := (h.kp (H w' hS).kp hm).cells _ _ hx
  subst ha
  exact hc off v hv
end

theorem Own.bare {w0 w : World} {M : Nat → Prop} {L : List Res} (hO : Own w0 M L w) : ∀ x, Kp M w x → Own w0 M [] x := fun x hx => ⟨hO.kp.trans hx, by simp, List.Pairwise.nil, by simp⟩

/-- A row of one's own is none of the blocks of two others. -/
theorem rdx_row {α : Type} {enc : α → List Value} {e : TypeId} {sz k c b3 b4 : Nat} {p : Option Addr} {ys : List α} {M Mx : Nat → Prop} {w0 w : World} {L : List Res} {c3 c4 : Array Value} {t3 t4 : TypeId} (henc : ∀ y, (enc y).length = sz) (hsz : 0 < sz) (hO : Own w0 M L w) (j j3 j4 : Nat)
    (hj : L[j]? = some (rowR e sz (.slice p k c) k (ys.flatMap enc))) (h3 : L[j3]? = some (cel b3 c3 t3)) (h4 : L[j4]? = some (cel b4 c4 t4)) (hne : j ≠ j3 ∧ j ≠ j4) {lim : Nat} (hM : ∀ m, Mx m → m = b3 ∨ m = b4 ∨ m < lim) (hlim : lim ≤ w0.heap.size) (hMM : ∀ m, M m → m = b3 ∨ m = b4) (hk : k ≤ 1000000000) : RdX Mx enc sz w p k ys := by
  have h := rd_row henc hsz hO j hj hk
  have hap := List.pairwise_iff_getElem.1 hO.apart
  have apart : ∀ (a b : Nat) (ra rb : Res), L[a]? = some ra → L[b]? = some rb → a ≠ b → ∀ m, ra.fp m → ¬ rb.fp m := by
    intro a b ra rb ha hb hab m h1 h2
    obtain ⟨hal, rfl⟩ := List.getElem?_eq_some_iff.1 ha
    obtain ⟨hbl, rfl⟩ := List.getElem?_eq_some_iff.1 hb
    rcases Nat.lt_or_gt_of_ne hab with hlt | hlt
    · exact hap a b hal hbl hlt m h1 h2
    · exact hap b a hbl hal hlt m h2 h1
  refine ⟨h.len, h.size, fun i x hx => ?_⟩
  obtain ⟨ad, ha, _, hc⟩ := h.cells i x hx
  refine ⟨ad, ha, fun hm => ?_, hc⟩
  have hfp : (rowR e sz (.slice p k c) k (ys.flatMap enc)).fp ad.block := by simp [rowR, Value.ownBlock, ha]
  have hno : ∀ m, (rowR e sz (.slice p k c) k (ys.flatMap enc)).fp m → ¬ (m = b3 ∨ m = b4) := fun m h1 h2 => by
    rcases h2 with h' | h'
    · exact apart j j3 _ _ hj h3 hne.1 _ h1 h'
    · exact apart j j4 _ _ hj h4 hne.2 _ h1 h'
  rcases hM _ hm with h' | h' | h'
  · exact hno _ hfp (.inl h')
  · exact hno _ hfp (.inr h')
  · rcases hO.home _ (List.mem_of_getElem? hj) _ hfp with h2 | h2
    · omega
    · exact hno _ hfp (hMM _ h2)

/-! ### A slice that is only read, as something of one's own -/
def rdR {α : Type} (enc : α → List Value) (sz : Nat) (a : Option Addr) (n : Nat) (xs : List α) : Res where
  fp k := xs ≠ [] ∧ ∃ ad, a = some ad ∧ ad.block = k
  ok w := Rd enc sz w.heap.size w a n xs
  loc w w' h hw := by
    refine ⟨hw.len, hw.size, fun i x hx => ?_⟩
    obtain ⟨ad, ha, hb, hc⟩ := hw.cells i x hx
    have hne : xs ≠ [] := by intro e; subst e; simp at hx
    have hh := h ad.block ⟨hne, ad, ha, rfl⟩
    refine ⟨ad, ha, ?_, fun j v hv => ?_⟩
    · have : w.heap[ad.block]? = some w.heap[ad.block] := Array.getElem?_eq_getElem hb
      rw [this] at hh
      exact obj_lt hh
    · exact (World.cell?_of_block (by rw [add_block, add_block]; exact hh)).trans (hc j v hv)
  lt w hw k hk := by
    obtain ⟨hne, ad, ha, rfl⟩ := hk
    cases xs with
    | nil => exact absurd rfl hne
    | cons x xs =>
      obtain ⟨ad', ha', hb, _⟩ := hw.cells 0 x rfl
      rw [ha] at ha'; cases ha'; exact hb

theorem own_rdR {α : Type} {enc : α → List Value} {sz n : Nat} {a : Option Addr} {xs : List α} {w0 w : World} {L : List Res} {X : Nat → Prop} (hO : Own w0 none_ L w) (h : RdX X enc sz w a n xs) (henc : ∀ y, ∃ v, (enc y)[0]? = some v) (hX : ∀ k, k < w0.heap.size → X k) : Own w0 none_ [rdR enc sz a n xs] w := by
  refine ⟨hO.kp, fun r hr => ?_, List.pairwise_singleton _ _, fun r hr k hk => ?_⟩
  · simp at hr; subst hr; exact h.rd henc
  · simp at hr; subst hr
    obtain ⟨hne, ad, ha, rfl⟩ := hk
    left
    cases xs with
    | nil => exact absurd rfl hne
    | cons x xs =>
      obtain ⟨ad', ha', hb, _⟩ := h.cells 0 x rfl
      rw [ha] at ha'; cases ha'
      exact Nat.le_of_not_lt fun hlt => hb (hX _ hlt)

/-- A row of cells of one's own, read as a slice of its first elements. -/
theorem rd_cel {α : Type} {enc : α → List Value} {sz b n : Nat} {cs : Array Value} {t : TypeId} {ys : List α} {rest : List Value} {w0 w : World} {M : Nat → Prop} {L : List Res} (henc : ∀ y, (enc y).length = sz) (hO : Own w0 M L w) (j : Nat) (hj : L[j]? = some (cel b cs t)) (hcs : cs.toList = ys.flatMap enc ++ rest) (hn : ys.length = n) (hk : n ≤ 1000000000) :
    Rd enc sz w.heap.size w (some ⟨b, 0, none⟩) n ys := by
  refine ⟨hn, by omega, fun i y hy => ⟨_, rfl, obj_lt (hO.get j hj), fun q v hq => ?_⟩⟩
  have hqs : q < sz := by rw [← henc y]; exact (List.getElem?_eq_some_iff.1 hq).1
  have h1 := flat_get henc ys i q y hy hqs
  rw [hq] at h1
  rw [add_own, add_own, Nat.zero_add]
  refine hO.cell j hj _ ?_
  have hlt : i * sz + q < (ys.flatMap enc).length := (List.getElem?_eq_some_iff.1 h1).1
  rw [← Array.getElem?_toList, hcs, List.getElem?_append_left hlt]
  exact h1
theorem run_sliceTo {t e : TypeId} {sz : Nat} (ht : rowTy P t e sz = true) {p : Option Addr} {n c : Nat} {k : Int} (h0 : 0 ≤ k) (hk : k ≤ c) (w : World) : (Instr.sliceAt t (.slice p n c) none (some (.int .i64 k)) none).run P w = .ok (.slice p k.toNat c) w := by
  obtain ⟨inf, z, hu, hsz, hi, hsize, hby, hz, hzs⟩ := rowTy_ok ht
  unfold Instr.sliceAt
  simp only [Sem.run_bind, run_underlying hu, Result.andThen_ok]
  unfold Instr.slice
  simp only [Sem.run_bind, run_underlying hu, Result.andThen_ok]
  have h1 : (Instr.sliceBounds true n c none (some (.int .i64 k)) none).run P w = .ok (0, k.toNat, c) w := by
    simp [Instr.sliceBounds, Instr.sliceBound, Sem.run_bind, Sem.run, pure, Result.andThen, asIntOf, h0, hk]
  rw [h1]
  simp only [Result.andThen_ok, sizeOf, Sem.run_bind, run_typeInfo hi, Sem.run_pure, Nat.sub_zero, Nat.zero_mul]
  by_cases h0 : c = 0
  · simp [h0]
  · cases p <;> simp [h0, Addr.add]
theorem raw_sliceTo {t e : TypeId} {sz : Nat} {S : World → Prop} (ht : rowTy P t e sz = true) {p : Option Addr} {n c : Nat} {k : Int} (h0 : 0 ≤ k) (hk : k ≤ c) : (Req.raw (Instr.sliceAt t (.slice p n c) none (some (.int .i64 k)) none) (.slice p k.toNat c)).ok P S := fun w _ => run_sliceTo ht h0 hk w

theorem calls_cast {f : FuncId} {a : Array Value} {w : World} {v v' : Value} (h : Calls P f a w (fun e w' => e = .returned v ∧ Ext w w')) (e : v = v') : Calls P f a w (fun e w' => e = .returned v' ∧ Ext w w') := e ▸ h
theorem rd_nil {α : Type} (enc : α → List Value) (sz : Nat) (w : World) : Rd enc sz w.heap.size w none 0 [] := ⟨rfl, by omega, fun i x hx => by simp at hx⟩

end Go.Proofs.Ytioimdegbdkppaa.DK
