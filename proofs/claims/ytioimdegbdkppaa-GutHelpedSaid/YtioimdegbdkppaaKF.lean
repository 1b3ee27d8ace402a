/- Appending what is read to a slice of one's own; shifts to the left; minima. -/
import Derived.Test.YtioimdegbdkppaaKE
import Derived.Laws.Small
namespace Go.Proofs.Ytioimdegbdkppaa.DK
open Go
set_option linter.unusedSimpArgs false
set_option linter.unusedVariables false

variable {P : Program} {rn : Option Nat}

theorem oneCell_of {α : Type} {enc : α → List Value} (h1 : ∀ y, (enc y).all Value.oneCell' = true) (ys : List α) : ∀ u ∈ ys.flatMap enc, u.oneCell' = true := by
  intro u hu
  obtain ⟨y, _, hy⟩ := List.mem_flatMap.1 hu
  exact List.all_eq_true.1 (h1 y) u hy

theorem rd_cells {α : Type} {enc : α → List Value} {sz bd m : Nat} {w : World} {ad : Addr} {ys : List α} (henc : ∀ y, (enc y).length = sz) (hsz : 0 < sz) (hR : Rd enc sz bd w (some ad) m ys) : ∀ j u, (ys.flatMap enc)[j]? = some u → w.cell? (ad.add j) = some u := by
  intro j u hj
  have hjl : j < m * sz := by have := (List.getElem?_eq_some_iff.1 hj).1; rwa [flat_len henc, hR.len] at this
  have hq : j / sz < m := Nat.div_lt_of_lt_mul (by rw [Nat.mul_comm]; exact hjl)
  have hy : ys[j / sz]? = some (ys[j / sz]'(by rw [hR.len]; exact hq)) := List.getElem?_eq_getElem _
  obtain ⟨ad', had, _, hc⟩ := hR.cells _ _ hy
  cases had
  have hj2 : j / sz * sz + j % sz = j := by rw [Nat.mul_comm]; exact Nat.div_add_mod j sz
  have h1 := flat_get henc ys (j / sz) (j % sz) _ hy (Nat.mod_lt _ hsz)
  rw [hj2, hj] at h1
  have h3 := hc (j % sz) u h1.symm
  by_cases hm0 : j % sz = 0
  · rw [hm0] at h3 hj2
    rw [Nat.add_zero] at hj2
    rw [hj2] at h3
    simpa [Addr.add] using h3
  · rw [add_add _ _ _ hm0, hj2] at h3; exact h3

theorem run_append_none {w : World} {t ty e : TypeId} {i : TypeInfo} (ht : P.underlying t = some (.slice e)) (hi : P.info? e = some i) (p : Option Addr) (k c c2 : Nat) (hk : k ≤ c) :
    (Builtin.append_ #[t, t] ty #[.slice p k c, .slice none 0 c2]).run P w = .ok (.slice p k c) w := by
  cases p <;> simp [Builtin.append_, run_underlying ht, sizeOf, typeInfo, hi, Builtin.lenOf, Builtin.firstCells, storeCells, hk]

theorem Kp.freshR {wb w w' : World} {R fp : Nat → Prop} (h : Kp R wb w) (hk : Kp fp w w') (hf : ∀ k, fp k → wb.heap.size ≤ k) : Kp R wb w' :=
  h.trans' hk fun i hi hm => absurd (hf i hm) (by omega)

section
variable {n : Nat} {ds : List Deferred} {F : List (Nat × Value)} {a : Act} {ops : Array Oper} {i : Nat} {K : Act → World → Prop} {w w0 : World} {M : Nat → Prop} {L : List Res}

/-- What is read, behind a slice of one's own. -/
theorem op_appX {α : Type} {enc : α → List Value} {t ty e : TypeId} {sz k c m c2 d bd : Nat} {p p2 : Option Addr} {xs : List Value} {ys : List α} (ht : rowTy P t e sz = true) (henc : ∀ y, (enc y).length = sz) (h1c : ∀ y, (enc y).all Value.oneCell' = true) (hF : Fr n ds F a) (hO : Own w0 M L w)
    (he : dec n ops i F = some (.app #[t, t] ty [.slice p k c, .slice p2 m c2] d)) (hR : Rd enc sz bd w p2 m ys) (j1 : Nat) (h1 : L[j1]? = some (rowR e sz (.slice p k c) k xs)) (hk : k + m ≤ 1000000000)
    (h : ∀ a' w' p' c', Fr n ds ((d, .slice p' (k + m) c') :: F) a' → Own w0 M (L.set j1 (rowR e sz (.slice p' (k + m) c') (k + m) (xs ++ ys.flatMap enc))) w' →
      (Kp (rowR e sz (.slice p k c) k xs).fp w w' ∧ ∀ q, (rowR e sz (.slice p' (k + m) c') (k + m) (xs ++ ys.flatMap enc)).fp q → (rowR e sz (.slice p k c) k xs).fp q ∨ w.heap.size ≤ q) → K a' w') : opX P rn ops i K a w := by
  obtain ⟨inf, z, hu, hsz, hi, hsize, hby, hz, hzs⟩ := rowTy_ok ht
  have hr := hO.get j1 h1
  have hmax := maxLen_ge
  cases p2 with
  | some ad =>
    obtain ⟨v', w', hrun, hown, hgr, _, hblk⟩ := run_append_own_at (P := P) w 0 t ty e inf z sz inf.bytes hu hi hz hsize rfl hzs hsz (.slice p k c) k xs hr ad m c2 (ys.flatMap enc) (by rw [flat_len henc, hR.len])
      (rd_cells henc hsz hR) (oneCell_of h1c ys) (by omega) (Nat.le_trans (Nat.mul_le_mul hk hby) (by omega)) (Nat.zero_le _)
    have hshape : ∃ p' c', v' = .slice p' (k + m) c' := by
      rcases hown.2 with ⟨h0, h2⟩ | ⟨g, cap, cur, hv, _⟩
      · rw [h2]; exact ⟨_, _, h0⟩
      · exact ⟨_, _, hv⟩
    obtain ⟨p', c', rfl⟩ := hshape
    have hq : ∀ q, (rowR e sz (.slice p' (k + m) c') (k + m) (xs ++ ys.flatMap enc)).fp q → (rowR e sz (.slice p k c) k xs).fp q ∨ w.heap.size ≤ q := by
      intro q hm
      simp only [rowR] at hm ⊢
      rcases hblk with hb | hb
      · exact .inl (hb ▸ hm)
      · rw [hb] at hm; right; have := Option.some.inj hm; omega
    refine op_val (w' := w') (v := .slice p' (k + m) c') he hF ?_ fun a' hf => h a' w' p' c' hf (hO.upd j1 h1 (r' := rowR e sz (.slice p' (k + m) c') (k + m) (xs ++ ys.flatMap enc)) (Kp.of_grown hgr) hown hq) ⟨Kp.of_grown hgr, hq⟩
    simp [NOp.sem, Sem.run_bind, hrun, Result.andThen, Sem.run, pure]
  | none =>
    have hm0 : m = 0 := by
      have hl := hR.len
      cases ys with
      | nil => simpa using hl.symm
      | cons y ys => obtain ⟨ad, h1, _⟩ := hR.cells 0 y rfl; cases h1
    subst hm0
    have hys : ys = [] := List.eq_nil_of_length_eq_zero hR.len
    subst hys
    have hkc : k ≤ c := by
      rcases hr.2 with ⟨h0, h2⟩ | ⟨g, cap, cur, hv, _, _, hnc, _⟩
      · simp at h0; omega
      · simp at hv; omega
    have hrow : rowR e sz (.slice p (k + 0) c) (k + 0) (xs ++ ([] : List α).flatMap enc) = rowR e sz (.slice p k c) k xs := by simp
    refine op_val (w' := w) (v := .slice p (k + 0) c) he hF ?_ fun a' hf => h a' w p c hf ?_ ⟨Kp.refl _ _, fun q hq => .inl (by rw [hrow] at hq; exact hq)⟩
    · have hrun := run_append_none (P := P) (w := w) (ty := ty) hu hi p k c c2 hkc
      simp [NOp.sem, Sem.run_bind, hrun, Result.andThen, Sem.run, pure]
    · rw [hrow]
      have : L.set j1 (rowR e sz (.slice p k c) k xs) = L := by
        obtain ⟨hl, he⟩ := List.getElem?_eq_some_iff.1 h1
        rw [← he, List.set_getElem_self]
      rw [this]; exact hO
/-- An empty slice of one's own. -/
theorem Own.emptyRow (hO : Own w0 M L w) (j : Nat) {b : Nat} {e : TypeId} (hj : L[j]? = some (cel b #[] e)) (sz : Nat) : Own w0 M (L.set j (rowR e sz (.slice (some ⟨b, 0, none⟩) 0 0) 0 [])) w := by
  have hg : w.heap[b]? = some (.cells #[] e (0, 0)) := hO.get j hj
  refine hO.upd j hj (Kp.refl _ _) ⟨by simp, .inr ⟨b, 0, #[], rfl, Nat.zero_le _, hg, Nat.le_refl _, Nat.zero_le _, by simp, by simp⟩⟩ fun k hk => .inl ?_
  simp only [rowR, Value.ownBlock, Option.some.injEq] at hk
  exact hk.symm
end

theorem raw_shl {t : TypeId} {x y : Operand} {k : Int} {S : World → Prop} (h0 : 0 ≤ k ∧ k ≤ 60) : (Req.raw (do eqGuard .shl t x y (.int .i64 1) (.int .i64 k); Go.binOp .shl t (.int .i64 1) (.int .i64 k)) (.int .i64 (2 ^ k.toNat))).ok P S := by
  intro w _
  have hk : ¬ k < 0 := by omega
  rw [Sem.run_bind, eqGuard_skip (by simp) (by simp)]
  have hp : (2 : Int) ^ k.toNat ≤ 2 ^ 60 := by
    have : (2 : Nat) ^ k.toNat ≤ 2 ^ 60 := Nat.pow_le_pow_right (by omega) (by omega)
    exact_mod_cast this
  have hp0 : (0 : Int) < 2 ^ k.toNat := Int.pow_pos (by omega)
  have e : IntKind.i64.wrap (1 * 2 ^ min k.toNat IntKind.i64.bits) = 2 ^ k.toNat := by
    rw [show min k.toNat IntKind.i64.bits = k.toNat from by simp only [IntKind.bits]; omega, Int.one_mul]
    have h60 : (2 : Int) ^ 60 = 1152921504606846976 := by decide
    exact wrap_in (by omega)
  simp only [Result.andThen_ok, Go.binOp, Op.shift, hk, if_false, e]
  rfl
theorem raw_tmod {t : TypeId} {x y : Operand} {m k : Int} {S : World → Prop} (h1 : 0 < k) : (Req.raw (do eqGuard .rem t x y (.int .i64 m) (.int .i64 k); Go.binOp .rem t (.int .i64 m) (.int .i64 k)) (.int .i64 (Int.tmod m k))).ok P S := by
  intro w _
  rw [Sem.run_bind, eqGuard_skip (by simp) (by simp)]
  have hk : k ≠ 0 := by omega
  simp [Result.andThen, Go.binOp, Op.intDiv, hk, Sem.run, pure]
theorem raw_eqB {t : TypeId} {x y : Operand} {S : World → Prop} (ht : P.underlying t = some .bool) (a b : Bool) : (Req.raw (do eqGuard .eql t x y (.bool a) (.bool b); Go.binOp .eql t (.bool a) (.bool b)) (.bool (a == b))).ok P S := by
  intro w _
  rw [Sem.run_bind, eqGuard_skip (by simp) (by simp)]
  simp only [Result.andThen_ok]
  exact run_eql_bool _ t a b ht
theorem raw_neB {t : TypeId} {x y : Operand} {S : World → Prop} (ht : P.underlying t = some .bool) (a b : Bool) : (Req.raw (do eqGuard .neq t x y (.bool a) (.bool b); Go.binOp .neq t (.bool a) (.bool b)) (.bool (a != b))).ok P S := by
  intro w _
  rw [Sem.run_bind, eqGuard_skip (by simp) (by simp)]
  simp only [Result.andThen_ok]
  exact run_neq_bool _ t a b ht
theorem raw_eqBs {t : TypeId} {x y : Operand} {S : World → Prop} (ht : P.underlying t = some .bool) (a : Bool) : (Req.raw (do eqGuard .eql t x y (.bool a) (.bool a); Go.binOp .eql t (.bool a) (.bool a)) (.bool true)).ok P S := by
  have := raw_eqB (x := x) (y := y) (S := S) ht a a
  rwa [beq_self_eq_true] at this
theorem raw_neBs {t : TypeId} {x y : Operand} {S : World → Prop} (ht : P.underlying t = some .bool) (a : Bool) : (Req.raw (do eqGuard .neq t x y (.bool a) (.bool a); Go.binOp .neq t (.bool a) (.bool a)) (.bool false)).ok P S := by
  have := raw_neB (x := x) (y := y) (S := S) ht a a
  rwa [bne_self_eq_false] at this
theorem raw_eqBk {t : TypeId} {x y : Operand} {S : World → Prop} (ht : P.underlying t = some .bool) (a b : Bool) {c : Bool} (h : (a == b) = c) : (Req.raw (do eqGuard .eql t x y (.bool a) (.bool b); Go.binOp .eql t (.bool a) (.bool b)) (.bool c)).ok P S := h ▸ raw_eqB ht a b
theorem raw_neBk {t : TypeId} {x y : Operand} {S : World → Prop} (ht : P.underlying t = some .bool) (a b : Bool) {c : Bool} (h : (a != b) = c) : (Req.raw (do eqGuard .neq t x y (.bool a) (.bool b); Go.binOp .neq t (.bool a) (.bool b)) (.bool c)).ok P S := h ▸ raw_neB ht a b
theorem raw_min {ts : Array TypeId} {ty : TypeId} {a b : Int} {S : World → Prop} : (Req.raw (Builtin.min_ ts ty #[.int .i64 a, .int .i64 b]) (.int .i64 (if b < a then b else a))).ok P S := by
  intro w _
  simp [Builtin.min_, Builtin.min2, Sem.run_bind, Sem.run, pure, Result.andThen]
theorem raw_max {ts : Array TypeId} {ty : TypeId} {a b : Int} {S : World → Prop} : (Req.raw (Builtin.max_ ts ty #[.int .i64 a, .int .i64 b]) (.int .i64 (if a < b then b else a))).ok P S := by
  intro w _
  simp [Builtin.max_, Builtin.max2, Sem.run_bind, Sem.run, pure, Result.andThen]
theorem raw_eqPs {k : TypeId} {x y : Operand} {S : World → Prop} (hk : pairTy P k = true) (hg : P.eqGuardType P.depth k = false) (u : Int × Int) : (Req.raw (do eqGuard .eql k x y (slv u) (slv u); Go.binOp .eql k (slv u) (slv u)) (.bool true)).ok P S := by
  have := raw_eqP (x := x) (y := y) (S := S) hk hg u u
  rwa [beq_self_eq_true, beq_self_eq_true] at this
theorem calls_castB {f : FuncId} {a : Array Value} {w : World} {b b' : Bool} (h : Calls P f a w (fun e w' => e = .returned (.bool b) ∧ Ext w w')) (e : b = b') : Calls P f a w (fun e w' => e = .returned (.bool b') ∧ Ext w w') := e ▸ h
end Go.Proofs.Ytioimdegbdkppaa.DK
