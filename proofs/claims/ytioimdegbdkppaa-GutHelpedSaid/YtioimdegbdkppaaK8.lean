/- Arrays of whole numbers inside a block of one's own: told by a function. -/
import Derived.Test.YtioimdegbdkppaaK7
import Derived.Scope
namespace Go.Proofs.Ytioimdegbdkppaa.DK
open Go
set_option linter.unusedSimpArgs false
set_option linter.unusedVariables false

variable {P : Program} {rn : Option Nat}

def fcells (n : Nat) (f : Nat → Int) : List Value := (List.range n).map fun k => .int .i64 (f k)
def updf (f : Nat → Int) (i : Nat) (x : Int) : Nat → Int := fun k => if k = i then x else f k

theorem fcells_length (n : Nat) (f : Nat → Int) : (fcells n f).length = n := by simp [fcells]
theorem fcells_at {n : Nat} {f : Nat → Int} {i : Nat} (h : i < n) : (fcells n f)[i]? = some (.int .i64 (f i)) := by simp [fcells, h]
theorem fcells_set {n : Nat} {f : Nat → Int} {i : Nat} {x : Int} (h : i < n) : (fcells n f).set i (.int .i64 x) = fcells n (updf f i x) := by
  apply List.ext_getElem?
  intro j
  by_cases hj : j < n
  · rw [fcells_at hj]
    by_cases e : i = j
    · subst e; rw [List.getElem?_set_self (by rw [fcells_length]; exact h)]; simp [updf]
    · rw [List.getElem?_set_ne e, fcells_at hj]; simp [updf, Ne.symm e]
  · rw [List.getElem?_eq_none (by simp [fcells_length]; omega), List.getElem?_eq_none (by simp [fcells_length]; omega)]

theorem ixa {S : World → Prop} {q : Addr} {len sz : Nat} {i : Int} (h0 : 0 ≤ i) (h1 : i < len) : (Req.idx (some q) len i sz (q.add (i.toNat * sz))).ok P S := ⟨q, rfl, h0, h1, rfl⟩

section
variable {w0 w : World} {M : Nat → Prop} {L : List Res}

theorem ldf {S : World → Prop} (H : ∀ x, S x → Own w0 M L x) (j : Nat) {b off n : Nat} {pre post : List Value} {f : Nat → Int} {t : TypeId} (hj : L[j]? = some (cel b (pre ++ fcells n f ++ post).toArray t)) (hoff : pre.length = off) {i : Int} (h0 : 0 ≤ i) (h1 : i < n) :
    (Req.ld ((⟨b, off, none⟩ : Addr).add (i.toNat * 1)) (.int .i64 (f i.toNat))).ok P S := by
  intro w' hE
  rw [add_own]
  refine (H w' hE).cell j hj _ ?_
  subst hoff
  have hi : i.toNat < n := by omega
  rw [Nat.mul_one, List.getElem?_toArray, List.append_assoc, List.getElem?_append_right (Nat.le_add_right _ _), Nat.add_sub_cancel_left, List.getElem?_append_left (by rw [fcells_length]; exact hi)]
  exact fcells_at hi

theorem wr_list : ∀ (vs : List Value) (cs : List Value) (off : Nat) , wr cs.toArray off vs = (List.foldl (fun (c : List Value × Nat) v => (c.1.set c.2 v, c.2 + 1)) (cs, off) vs).1.toArray
  | [], cs, off => rfl
  | v :: vs, cs, off => by
    simp only [wr, List.foldl_cons]
    rw [← wr_list vs (cs.set off v) (off + 1)]
    simp

theorem op_storef {n0 : Nat} {ds : List Deferred} {F : List (Nat × Value)} {a : Act} {ops : Array Oper} {k : Nat} {K : Act → World → Prop} {t tc : TypeId} {x : Int} {b off n : Nat} {pre post : List Value} {f : Nat → Int} {i : Int} (hF : Fr n0 ds F a) (hO : Own w0 M L w)
    (he : dec n0 ops k F = some (.store t (.pointer (some ((⟨b, off, none⟩ : Addr).add (i.toNat * 1)))) (.int .i64 x))) (j : Nat) (hj : L[j]? = some (cel b (pre ++ fcells n f ++ post).toArray tc)) (hoff : pre.length = off)
    (h0 : 0 ≤ i) (h1 : i < n) (hsz : ((P.info? t).map fun i => i.size) = some 1)
    (h : ∀ a' w', Fr n0 ds F a' → Own w0 M (L.set j (cel b (pre ++ fcells n (updf f i.toNat x) ++ post).toArray tc)) w' → Kp (· = b) w w' → K a' w') : opX P rn ops k K a w := by
  subst hoff
  have hi : i.toNat < n := by omega
  refine op_store (off := pre.length + i.toNat * 1) (sz := 1) hF hO he j hj (add_own ..) hsz ?_ ?_ h
  · simp only [Value.cells, Bool.and_eq_true]
    refine ⟨⟨by rfl, ?_⟩, by rfl⟩
    rw [Nat.ble_eq]
    simp [fcells_length]; omega
  · simp only [Value.cells, List.toList_toArray, wr, Nat.mul_one]
    rw [List.setIfInBounds_toArray]
    congr 1
    rw [List.append_assoc, List.set_append_right _ _ (Nat.le_add_right _ _), Nat.add_sub_cancel_left, List.set_append_left _ _ (by rw [fcells_length]; exact hi), fcells_set hi, List.append_assoc]
end
/-! ### A scope without jumps -/
theorem stepR_scope {b : Frame} {a : Act} {k : List Item} {cs : List Frame} {w : World} {c : Code} : step P (lone (b.atR a (.code (.scope c) :: k)) cs w) = .next (lone (b.atR a (.code c :: .inScope c :: k)) cs w) :=
  step_lone_go (by simp [stepG, stepG.exec, Frame.atR])
theorem stepR_inScope {b : Frame} {a : Act} {k : List Item} {cs : List Frame} {w : World} {c : Code} : step P (lone (b.atR a (.inScope c :: k)) cs w) = .next (lone (b.atR a k) cs w) :=
  step_lone_go (by simp [stepG, stepG.exec, Frame.atR])
theorem W_scope' {c : Code} {Q : Exit → Act → World → Prop} {a : Act} {w : World} (h : W rn P c (Exit.noGoto Q) a w) : W rn P (.scope c) Q a w := by
  intro b k cs hro hb hr
  obtain ⟨e, a₁, w₁, hq, harr⟩ := h b (.inScope c :: k) cs hro hb hr
  cases e with
  | normal => exact ⟨.normal, a₁, w₁, hq, StepsIn.trans (.one (fenced_calm hb hr rfl) stepR_scope) (StepsIn.trans harr (.one (fenced_calm hb hr rfl) stepR_inScope))⟩
  | exit id => 
    refine ⟨.exit id, a₁, w₁, hq, .of_steps (.one (fenced_calm hb hr rfl) stepR_scope) ⟨fun k' hk => harr.1 k' (by simp [exitTo, hk]), fun hr hk => harr.2 hr (by simp [exitTo, hk])⟩⟩
  | goto l => exact hq.elim
  | ret => exact ⟨_, a₁, w₁, hq, .of_steps (.one (fenced_calm hb hr rfl) stepR_scope) harr⟩
  | panic ch => exact ⟨_, a₁, w₁, hq, .of_steps (.one (fenced_calm hb hr rfl) stepR_scope) harr⟩
  | outgrown => exact ⟨_, a₁, w₁, hq, .of_steps (.one (fenced_calm hb hr rfl) stepR_scope) harr⟩
end Go.Proofs.Ytioimdegbdkppaa.DK
