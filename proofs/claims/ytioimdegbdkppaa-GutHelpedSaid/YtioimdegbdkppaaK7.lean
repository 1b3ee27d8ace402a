/- What a generated walk says in one word: loads from one's own blocks, elements of slices that are read, loops. -/
import Derived.Test.YtioimdegbdkppaaK6
namespace Go.Proofs.Ytioimdegbdkppaa.DK
open Go
set_option linter.unusedSimpArgs false
set_option linter.unusedVariables false

variable {P : Program} {rn : Option Nat}

theorem add_own (b off j : Nat) : (⟨b, off, none⟩ : Addr).add j = ⟨b, off + j, none⟩ := by unfold Addr.add; split <;> simp_all
theorem add_add (p : Addr) (i j : Nat) (hj : j ≠ 0) : (p.add i).add j = p.add (i + j) := by
  unfold Addr.add
  by_cases hi : i = 0
  · subst hi; simp
  · simp [hi, hj, Nat.add_assoc]
theorem add_block (p : Addr) (i : Nat) : (p.add i).block = p.block := by unfold Addr.add; split <;> rfl

section
variable {w0 w : World} {M : Nat → Prop} {L : List Res}

theorem Own.st (hO : Own w0 M L w) : ∀ x, Ext w x → Own w0 M L x := fun _ h => hO.ext h
theorem ldo {S : World → Prop} (H : ∀ x, S x → Own w0 M L x) (j : Nat) {b : Nat} {cs : Array Value} {t : TypeId} (hj : L[j]? = some (cel b cs t)) (off : Nat) {v : Value} (hv : cs[off]? = some v) : (Req.ld ⟨b, off, none⟩ v).ok P S :=
  fun w' hE => (H w' hE).cell j hj off hv
theorem ldso {S : World → Prop} (H : ∀ x, S x → Own w0 M L x) (j : Nat) {b : Nat} {cs : Array Value} {t : TypeId} (hj : L[j]? = some (cel b cs t)) (off : Nat) {vs : List Value} (hv : (cs.toList.drop off).take vs.length = vs) : (Req.lds ⟨b, off, none⟩ vs).ok P S := by
  intro w' hE i v hi
  have hlt : i < vs.length := (List.getElem?_eq_some_iff.1 hi).1
  rw [add_own]
  refine (H w' hE).cell j hj (off + i) ?_
  rw [← hv] at hi
  rw [List.getElem?_take_of_lt hlt, List.getElem?_drop] at hi
  simpa using hi
/-- The same for what is handed back. -/
theorem rdo (hO : Own w0 M L w) (j : Nat) {b : Nat} {cs : Array Value} {t : TypeId} (hj : L[j]? = some (cel b cs t)) (off : Nat) {v : Value} (hv : cs[off]? = some v) : (Req.ld ⟨b, off, none⟩ v).ok P (fun w' => w' = w) :=
  ldo (w0 := w0) (M := M) (S := fun x => x = w) (fun x e => by rw [show x = w from e]; exact hO) j hj off hv
theorem rdso (hO : Own w0 M L w) (j : Nat) {b : Nat} {cs : Array Value} {t : TypeId} (hj : L[j]? = some (cel b cs t)) (off : Nat) {vs : List Value} (hv : (cs.toList.drop off).take vs.length = vs) : (Req.lds ⟨b, off, none⟩ vs).ok P (fun w' => w' = w) :=
  ldso (w0 := w0) (M := M) (S := fun x => x = w) (fun x e => by rw [show x = w from e]; exact hO) j hj off hv
end

/-! ### Slices that are read -/
/-- The address of element i. -/
def adr (a : Option Addr) (sz : Nat) (i : Int) : Addr := (a.getD ⟨0, 0, none⟩).add (i.toNat * sz)

/-- A slice at a, of n elements of sz cells each, reads as xs; its block lies below bd. -/
structure Rd {α : Type} (enc : α → List Value) (sz : Nat) (bd : Nat) (w : World) (a : Option Addr) (n : Nat) (xs : List α) : Prop where
  len : xs.length = n
  size : n ≤ 9223372036854775807
  cells : ∀ i x, xs[i]? = some x → ∃ ad, a = some ad ∧ ad.block < bd ∧ ∀ j v, (enc x)[j]? = some v → w.cell? ((ad.add (i * sz)).add j) = some v

section
variable {α : Type} {enc : α → List Value} {sz bd : Nat} {w w0 : World} {M : Nat → Prop} {L : List Res} {a : Option Addr} {n : Nat} {xs : List α}

theorem Rd.kp {w' : World} {M : Nat → Prop} (h : Rd enc sz bd w a n xs) (hk : Kp M w w') (hm : ∀ k, k < bd → ¬ M k) : Rd enc sz bd w' a n xs :=
  ⟨h.len, h.size, fun i x hx => let ⟨ad, ha, hb, hc⟩ := h.cells i x hx; ⟨ad, ha, hb, fun j v hv => hk.cell (hc j v hv) (hm _ (by rw [add_block, add_block]; exact hb))⟩⟩
theorem Rd.ext {w' : World} (h : Rd enc sz bd w a n xs) (hk : Ext w w') : Rd enc sz bd w' a n xs := h.kp hk fun _ _ h => h
theorem Rd.own (h : Rd enc sz bd w0 a n xs) (hO : Own w0 M L w) (hm : ∀ k, k < bd → ¬ M k) : Rd enc sz bd w a n xs := h.kp hO.kp hm
theorem Rd.bd_le {bd' : Nat} (h : Rd enc sz bd w a n xs) (hb : bd ≤ bd') : Rd enc sz bd' w a n xs :=
  ⟨h.len, h.size, fun i x hx => let ⟨ad, ha, hb', hc⟩ := h.cells i x hx; ⟨ad, ha, Nat.lt_of_lt_of_le hb' hb, hc⟩⟩

theorem Rd.at_ [Inhabited α] (h : Rd enc sz bd w a n xs) {i : Int} (h0 : 0 ≤ i) (h1 : i < n) : ∃ ad, a = some ad ∧ ad.block < bd ∧ adr a sz i = ad.add (i.toNat * sz) ∧ ∀ j v, (enc (xs.getD i.toNat default))[j]? = some v → w.cell? ((adr a sz i).add j) = some v := by
  have hlt : i.toNat < xs.length := by have := h.len; omega
  have hx : xs[i.toNat]? = some (xs.getD i.toNat default) := by rw [List.getD_eq_getElem?_getD, List.getElem?_eq_getElem hlt]; rfl
  obtain ⟨ad, ha, hb, hc⟩ := h.cells _ _ hx
  subst ha
  exact ⟨ad, rfl, hb, rfl, hc⟩

theorem ix [Inhabited α] {S : World → Prop} (h : Rd enc sz bd w a n xs) {i : Int} (h0 : 0 ≤ i) (h1 : i < n) : (Req.idx a n i sz (adr a sz i)).ok P S := by
  obtain ⟨ad, ha, _, he, _⟩ := h.at_ h0 h1
  exact ⟨ad, ha, h0, h1, he⟩
theorem ldx [Inhabited α] {S : World → Prop} (H : ∀ x, S x → Own w0 M L x) (hm : ∀ k, k < bd → ¬ M k) (h : Rd enc sz bd w0 a n xs) {i : Int} (h0 : 0 ≤ i) (h1 : i < n) (off : Nat) {v : Value} (hv : (enc (xs.getD i.toNat default))[off]? = some v) : (Req.ld ((adr a sz i).add off) v).ok P S := by
  intro w' hE
  obtain ⟨ad, ha, hb, he, hc⟩ := (h.own (H w' hE) hm).at_ h0 h1
  exact hc off v hv
theorem ldsx [Inhabited α] {S : World → Prop} (H : ∀ x, S x → Own w0 M L x) (hm : ∀ k, k < bd → ¬ M k) (h : Rd enc sz bd w0 a n xs) {i : Int} (h0 : 0 ≤ i) (h1 : i < n) {vs : List Value} (hv : enc (xs.getD i.toNat default) = vs) : (Req.lds (adr a sz i) vs).ok P S := by
  intro w' hE j v hj
  obtain ⟨ad, ha, hb, he, hc⟩ := (h.own (H w' hE) hm).at_ h0 h1
  exact hc j v (by rw [hv]; exact hj)
end

theorem nom {bd : Nat} : ∀ k, k < bd → ¬ none_ k := fun _ _ h => h

/-! ### A region, its result told anew -/
theorem W_cut {c : Code} {Q : Exit → Act → World → Prop} {a : Act} {w : World} (R : Act → World → Prop) (h : W rn P c (fun e a w => e = .normal ∧ R a w) a w) (k : ∀ a w, R a w → Q .normal a w) : W rn P c Q a w :=
  W_mono h fun e a w ⟨he, hR⟩ => by subst he; exact k a w hR

theorem W_block_cut {id : Nat} {c : Code} {Q : Exit → Act → World → Prop} {a : Act} {w : World} (R : Act → World → Prop) (h : W rn P c (fun e a w => match e with | .normal => R a w | .exit j => if j = id then R a w else Q (.exit j) a w | e => Q e a w) a w)
    (k : ∀ a w, R a w → Q .normal a w) : W rn P (.block id c) Q a w := by
  refine W_block (W_mono h fun e a w he => ?_)
  cases e with
  | normal => exact k a w he
  | exit j =>
    simp only at he
    simp only [Exit.inBlock]
    split
    · rename_i hj; rw [if_pos hj] at he; exact k a w he
    · rename_i hj; rw [if_neg hj] at he; exact he
  | _ => exact he

theorem Fr.cast {n : Nat} {ds : List Deferred} {F F' : List (Nat × Value)} {a : Act} (h : Fr n ds F a) (e : F = F') : Fr n ds F' a := e ▸ h
theorem Own.cast {w0 : World} {M : Nat → Prop} {L L' : List Res} {w : World} (h : Own w0 M L w) (e : L = L') : Own w0 M L' w := e ▸ h

theorem evOp {n : Nat} {ds : List Deferred} {F : List (Nat × Value)} {a : Act} (h : Fr n ds F a) {x : Operand} {v : Value} (he : lkG [] F [] x = some v) : a.eval x = v := lkG_ok (ops := #[]) (B := []) h.fg (by rfl) x v he

theorem leave_r {fn : Func} {R : Ending → World → Prop} {n : Nat} {ds : List Deferred} {F : List (Nat × Value)} {a : Act} {tb : Tbl} {w w' : World} {rs : List Req} {vs : List Value} (ht : Tbl.ok P tb = true) (hF : Fr n ds F a) (hs : Shut ds w w')
    (hr : Reqs P (fun x => x = w') rs) (he : evRes tb F fn.results.toList rs = some (vs, rs)) (hR : R (.returned (oneOf vs)) w') : bodyPostM (FW none) 0 P fn R .ret a w := (leave ht hF hs hr he hR).1
theorem leave_normal {fn : Func} {R : Ending → World → Prop} {n : Nat} {ds : List Deferred} {F : List (Nat × Value)} {a : Act} {tb : Tbl} {w w' : World} {rs : List Req} {vs : List Value} (ht : Tbl.ok P tb = true) (hF : Fr n ds F a) (hs : Shut ds w w')
    (hr : Reqs P (fun x => x = w') rs) (he : evRes tb F fn.results.toList rs = some (vs, rs)) (hR : R (.returned (oneOf vs)) w') : bodyPostM (FW none) 0 P fn R .normal a w := (leave ht hF hs hr he hR).2

theorem raw_rem {t : TypeId} {x y : Operand} {m k : Int} {S : World → Prop} (h0 : 0 ≤ m) (h1 : 0 < k) : (Req.raw (do eqGuard .rem t x y (.int .i64 m) (.int .i64 k); Go.binOp .rem t (.int .i64 m) (.int .i64 k)) (.int .i64 (m % k))).ok P S := by
  intro w _
  rw [Sem.run_bind, eqGuard_skip (by simp) (by simp)]
  have hk : k ≠ 0 := by omega
  simp [Result.andThen, Go.binOp, Op.intDiv, hk, Sem.run, pure, Int.tmod_eq_emod_of_nonneg h0]
theorem raw_quo {t : TypeId} {x y : Operand} {m k : Int} {S : World → Prop} (h0 : 0 ≤ m ∧ m ≤ 9223372036854775807) (h1 : 0 < k) : (Req.raw (do eqGuard .quo t x y (.int .i64 m) (.int .i64 k); Go.binOp .quo t (.int .i64 m) (.int .i64 k)) (.int .i64 (m / k))).ok P S := by
  intro w _
  rw [Sem.run_bind, eqGuard_skip (by simp) (by simp)]
  have hk : k ≠ 0 := by omega
  have hq : 0 ≤ m / k := Int.ediv_nonneg h0.1 (by omega)
  have hq2 : m / k ≤ m := Int.ediv_le_self _ h0.1
  have e : m.tdiv k = m / k := Int.tdiv_eq_ediv_of_nonneg h0.1
  simp [Result.andThen, Go.binOp, Op.intDiv, hk, Sem.run, pure, e, wrap_in (n := m / k) ⟨by omega, by omega⟩]

theorem rg {n : Int} {S : World → Prop} (h : -9223372036854775808 ≤ n ∧ n ≤ 9223372036854775807) : (Req.rng n).ok P S := h

end Go.Proofs.Ytioimdegbdkppaa.DK
