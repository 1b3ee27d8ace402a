/- Maps told by a whole function; arrays as values; comparisons; bits. -/
import Derived.Test.YtioimdegbdkppaaKA
namespace Go.Proofs.Ytioimdegbdkppaa.DK
open Go
set_option linter.unusedSimpArgs false
set_option linter.unusedVariables false

variable {P : Program} {rn : Option Nat}

/-! ### Maps told by a whole function -/
def updt {α : Type} (S : Int × Int → α) (x : Int × Int) (a : α) : Int × Int → α := fun y => if y = x then a else S y

/-- Block b is a map in which x has the value enc (S x), z standing for what is not in it. -/
def mapT {α : Type} (b : Nat) (z : Value) (enc : α → Value) (S : Int × Int → α) : Res where
  fp := (· = b)
  ok w := ∃ f, (mapS b f).ok w ∧ ∀ x, (f x).getD z = enc (S x)
  loc w w' h hw := by obtain ⟨f, h1, h2⟩ := hw; exact ⟨f, (mapS b f).loc w w' h h1, h2⟩
  lt w hw k hk := by obtain ⟨f, h1, h2⟩ := hw; exact (mapS b f).lt w h1 k hk
def mapTE {α : Type} (b : Nat) (z : Value) (enc : α → Value) (S : Int × Int → α) (x : Int × Int) (s : Nat) : Res where
  fp := (· = b)
  ok w := ∃ f, (mapE b f x s).ok w ∧ ∀ x, (f x).getD z = enc (S x)
  loc w w' h hw := by obtain ⟨f, h1, h2⟩ := hw; exact ⟨f, (mapE b f x s).loc w w' h h1, h2⟩
  lt w hw k hk := by obtain ⟨f, h1, h2⟩ := hw; exact (mapE b f x s).lt w h1 k hk

theorem updm_enc {α : Type} {z : Value} {enc : α → Value} {S : Int × Int → α} {f : Int × Int → Option Value} (h : ∀ x, (f x).getD z = enc (S x)) (x : Int × Int) (a : α) : ∀ y, (updm f x (enc a) y).getD z = enc (updt S x a y) := by
  intro y
  unfold updm updt
  split
  · rfl
  · exact h y
theorem updm_same {z : Value} {f : Int × Int → Option Value} (x : Int × Int) : ∀ y, (updm f x ((f x).getD z) y).getD z = (f y).getD z := by
  intro y
  unfold updm
  split
  · rename_i h; subst h; rfl
  · rfl

section
variable {n : Nat} {ds : List Deferred} {F : List (Nat × Value)} {a : Act} {ops : Array Oper} {i : Nat} {K : Act → World → Prop} {w w0 : World} {M : Nat → Prop} {L : List Res} {t k e : TypeId} {z : Value} {b : Nat} {α : Type} {enc : α → Value} {S : Int × Int → α} {x : Int × Int}

theorem lkt (ht : mapTy P t k e z) {U : World → Prop} (H : ∀ x, U x → Own w0 M L x) (j : Nat) (hj : L[j]? = some (mapT b z enc S)) (x : Int × Int) : (Req.raw (Instr.lookup t (.map (some b)) (slv x) false) (enc (S x))).ok P U := by
  intro w' hE
  obtain ⟨f, h1, h2⟩ := (H w' hE).get j hj
  rw [← h2 x]
  exact lookup_mapS ht h1

theorem op_updt {v : Value} (y : α) (hv : v = enc y) (ht : mapTy P t k e z) (hF : Fr n ds F a) (hO : Own w0 M L w) (he : dec n ops i F = some (.mupd t (.map (some b)) (slv x) v)) (j : Nat) (hj : L[j]? = some (mapT b z enc S))
    (h : ∀ a' w', Fr n ds F a' → Own w0 M (L.set j (mapT b z enc (updt S x y))) w' → Kp (· = b) w w' → K a' w') : opX P rn ops i K a w := by
  subst hv
  obtain ⟨f, h1, h2⟩ := hO.get j hj
  obtain ⟨w', hr, hok, hk⟩ := update_mapS ht h1 (enc y)
  refine op_skip (w' := w') he hF rfl ?_ fun a' hf => h a' w' hf (hO.upd j hj hk (r' := mapT b z enc (updt S x y)) ⟨_, hok, updm_enc h2 x y⟩ (fun k hk => .inl hk)) hk
  simp [NOp.sem, Sem.run_bind, hr, Result.andThen, Sem.run, pure]

theorem op_mentt {d : Nat} (ht : mapTy P t k e z) (hF : Fr n ds F a) (hO : Own w0 M L w) (he : dec n ops i F = some (.ment t (.map (some b)) (slv x) d)) (j : Nat) (hj : L[j]? = some (mapT b z enc S))
    (h : ∀ a' w' (s : Nat), Fr n ds ((d, .tuple #[enc (S x), .int .i64 s]) :: F) a' → Own w0 M (L.set j (mapTE b z enc S x s)) w' → Kp (· = b) w w' → K a' w') : opX P rn ops i K a w := by
  obtain ⟨f, h1, h2⟩ := hO.get j hj
  obtain ⟨w', s, hr, hok, hk⟩ := entry_mapS (x := x) ht h1
  refine op_val (w' := w') (v := .tuple #[enc (S x), .int .i64 s]) he hF ?_ fun a' hf => h a' w' s hf (hO.upd j hj hk (r' := mapTE b z enc S x s) ⟨_, hok, fun y => (updm_same x y).trans (h2 y)⟩ (fun k hk => .inl hk)) hk
  rw [← h2 x]
  simp [NOp.sem, Sem.run_bind, hr, Result.andThen, Sem.run, pure]

theorem op_estot {v : Value} {s : Nat} (y : α) (hv : v = enc y) (hF : Fr n ds F a) (hO : Own w0 M L w) (he : dec n ops i F = some (.esto t (.map (some b)) (.int .i64 s) v)) (j : Nat) (hj : L[j]? = some (mapTE b z enc S x s))
    (h : ∀ a' w', Fr n ds F a' → Own w0 M (L.set j (mapT b z enc (updt S x y))) w' → Kp (· = b) w w' → K a' w') : opX P rn ops i K a w := by
  subst hv
  obtain ⟨f, h1, h2⟩ := hO.get j hj
  obtain ⟨w', hr, hok, hk⟩ := store_mapE (P := P) (t := t) h1 (enc y)
  refine op_skip (w' := w') he hF rfl ?_ fun a' hf => h a' w' hf (hO.upd j hj hk (r' := mapT b z enc (updt S x y)) ⟨_, hok, updm_enc h2 x y⟩ (fun k hk => .inl hk)) hk
  simp [NOp.sem, Sem.run_bind, hr, Result.andThen, Sem.run, pure]

theorem op_mmapt {d : Nat} (z : Value) (enc : α → Value) (y : α) (hz : z = enc y) (hF : Fr n ds F a) (hO : Own w0 M L w) (he : dec n ops i F = some (.mmap t d))
    (h : ∀ a' w' b, Fr n ds ((d, .map (some b)) :: F) a' → Own w0 M (L ++ [mapT b z enc fun _ => y]) w' → Ext w w' ∧ w.heap.size ≤ b → K a' w') : opX P rn ops i K a w := by
  subst hz
  refine op_val (w' := w.alloc (.map #[] 0)) (v := .map (some w.heap.size)) he hF ?_ fun a' hf => h a' _ _ hf (hO.add (Ext.alloc w _) (r := mapT w.heap.size (enc y) enc fun _ => y) ⟨fun _ => none, ⟨_, _, heap_alloc_new w _, mapOk_empty⟩, fun _ => rfl⟩ (fun k hk => by simp only [mapT] at hk; omega)) ⟨Ext.alloc w _, Nat.le_refl _⟩
  simp only [NOp.sem, Instr.makeMap]
  simp [Sem.run_bind, Result.andThen, Sem.run, pure]
end

/-! ### Bits -/
theorem raw_shr {t : TypeId} {x y : Operand} {m k : Int} {S : World → Prop} (h0 : 0 ≤ k) : (Req.raw (do eqGuard .shr t x y (.int .i64 m) (.int .i64 k); Go.binOp .shr t (.int .i64 m) (.int .i64 k)) (.int .i64 (Int.fdiv m (2 ^ (min k.toNat 64))))).ok P S := by
  intro w _
  rw [Sem.run_bind, eqGuard_skip (by simp) (by simp)]
  have hk : ¬ k < 0 := by omega
  simp only [Result.andThen_ok, Go.binOp, Op.shift, hk, if_false]
  rfl
theorem raw_and {t : TypeId} {x y : Operand} {m k : Int} {S : World → Prop} : (Req.raw (do eqGuard .and t x y (.int .i64 m) (.int .i64 k); Go.binOp .and t (.int .i64 m) (.int .i64 k)) (.int .i64 (bits .and .i64 m k))).ok P S := by
  intro w _
  rw [Sem.run_bind, eqGuard_skip (by simp) (by simp)]
  simp only [Result.andThen_ok, binOp_and, intBits_and]
  rfl

/-! ### Pairs, compared -/
theorem run_eqP {k : TypeId} (hk : pairTy P k = true) (x y : Int × Int) (w : World) : (Go.binOp .eql k (slv x) (slv y)).run P w = .ok (.bool (x.1 == y.1 && x.2 == y.2)) w := by
  rw [slv, slv, run_eql_struct]
  have := run_equal_pair hk x y w 9998
  rw [slv, slv] at this
  rw [this]; rfl
theorem run_neP {k : TypeId} (hk : pairTy P k = true) (x y : Int × Int) (w : World) : (Go.binOp .neq k (slv x) (slv y)).run P w = .ok (.bool (!(x.1 == y.1 && x.2 == y.2))) w := by
  rw [slv, slv, run_neq_struct]
  have := run_equal_pair hk x y w 9998
  rw [slv, slv] at this
  rw [this]; rfl
theorem raw_eqP {k : TypeId} {x y : Operand} {S : World → Prop} (hk : pairTy P k = true) (hg : P.eqGuardType P.depth k = false) (u v : Int × Int) : (Req.raw (do eqGuard .eql k x y (slv u) (slv v); Go.binOp .eql k (slv u) (slv v)) (.bool (u.1 == v.1 && u.2 == v.2))).ok P S := by
  intro w _
  rw [Sem.run_bind, slv, slv, run_eqGuard_agg _ _ _ _ _ _ _ hg]
  exact run_eqP hk u v w
theorem raw_neP {k : TypeId} {x y : Operand} {S : World → Prop} (hk : pairTy P k = true) (hg : P.eqGuardType P.depth k = false) (u v : Int × Int) : (Req.raw (do eqGuard .neq k x y (slv u) (slv v); Go.binOp .neq k (slv u) (slv v)) (.bool (!(u.1 == v.1 && u.2 == v.2)))).ok P S := by
  intro w _
  rw [Sem.run_bind, slv, slv, run_eqGuard_agg _ _ _ _ _ _ _ hg]
  exact run_neP hk u v w

/-! ### Arrays of whole numbers as values -/
def arrL (n : Nat) (f : Nat → Int) : List Value := [] ++ fcells n f ++ []
def arrV (n : Nat) (f : Nat → Int) : Value := .agg (arrL n f).toArray
def feq (n : Nat) (f g : Nat → Int) : Bool := (List.range n).all fun i => f i == g i

/-- t is an array of n whole numbers. -/
def arrTy (P : Program) (t : TypeId) (n : Nat) : Bool :=
  match P.underlying t with
  | some (.array m e) => Nat.beq m n && (match P.underlying e with | some (.int _) => true | _ => false) && (match P.info? e with | some i => Nat.beq i.size 1 | none => false)
  | _ => false
theorem arrTy_ok {t : TypeId} {n : Nat} (h : arrTy P t n = true) : ∃ e q i, P.underlying t = some (.array n e) ∧ P.underlying e = some (.int q) ∧ P.info? e = some i ∧ i.size = 1 := by
  unfold arrTy at h
  split at h
  · rename_i m e hu
    simp only [Bool.and_eq_true] at h
    obtain ⟨⟨h1, h2⟩, h3⟩ := h
    have e1 := Nat.eq_of_beq_eq_true h1
    subst e1
    split at h2
    · rename_i q hq
      split at h3
      · rename_i i hi; exact ⟨e, q, i, hu, hq, hi, Nat.eq_of_beq_eq_true h3⟩
      · cases h3
    · cases h2
  · cases h

theorem arrL_at {n : Nat} {f : Nat → Int} {i : Nat} (h : i < n) : (arrL n f).toArray[i]? = some (.int .i64 (f i)) := by
  simp only [arrL, List.nil_append, List.append_nil, List.getElem?_toArray]
  exact fcells_at h

theorem raw_index {t : TypeId} {n : Nat} {S : World → Prop} (ht : arrTy P t n = true) (f : Nat → Int) {i : Int} (h0 : 0 ≤ i) (h1 : i < n) : (Req.raw (Instr.index t (arrV n f) (.int .i64 i)) (.int .i64 (f i.toNat))).ok P S := by
  intro w _
  obtain ⟨e, q, inf, hu, hq, hi, hs⟩ := arrTy_ok ht
  have hp : (part e (arrL n f).toArray (i.toNat * 1)).run P w = .ok (.int .i64 (f i.toNat)) w := run_part_plain w (by simp [Program.plainKey, hq]) (by rw [Nat.mul_one]; exact arrL_at (by omega))
  unfold Instr.index
  simp only [arrV, asIntOf, Sem.run_bind, Sem.run_pure, Result.andThen_ok, run_underlying hu, h0, h1, and_self, if_true, sizeOf, run_typeInfo hi, hs, hp]

theorem raw_slice {t : TypeId} {n b off : Nat} {S : World → Prop} (ht : arrTy P t n = true) : (Req.raw (Instr.sliceAt t (.pointer (some ⟨b, off, none⟩)) none none none) (.slice (some ⟨b, off, none⟩) n n)).ok P S := by
  intro w _
  obtain ⟨e, q, inf, hu, hq, hi, hs⟩ := arrTy_ok ht
  unfold Instr.sliceAt
  simp only [Sem.run_bind, run_underlying hu, Result.andThen_ok]
  simp only [Instr.sureAddr, Instr.sliceBounds]
  simp [Sem.run_bind, Sem.run, pure, Result.andThen, sizeOf, run_typeInfo hi, hs]
  by_cases h : n = 0 <;> simp [h, Addr.add]

theorem run_equal_arr {t : TypeId} {n : Nat} (ht : arrTy P t n = true) (f g : Nat → Int) (w : World) (d : Nat) : (Op.equalIn (d + 2) t (arrV n f) (arrV n g)).run P w = .ok (feq n f g) w := by
  obtain ⟨e, q, inf, hu, hq, hi, hs⟩ := arrTy_ok ht
  rw [Op.equalIn]
  simp only [arrV, Sem.run_bind, run_underlying hu, Result.andThen_ok]
  simp only [sizeOf, Sem.run_bind, run_typeInfo hi, hs, Result.andThen_ok, Sem.run_pure, Nat.mul_one]
  simp only [Std.Legacy.Range.forIn_eq_forIn_range', Std.Legacy.Range.size, Nat.sub_zero, Nat.add_one_sub_one, Nat.div_one]
  unfold feq
  rw [List.range_eq_range']
  have hmem : ∀ i ∈ List.range' 0 n, i < n := fun i h => by simp [List.mem_range'] at h; omega
  generalize List.range' 0 n = is at *
  induction is with
  | nil => simp
  | cons i is ih =>
    have hin := hmem i (by simp)
    have pf : ∀ f : Nat → Int, (part e (arrL n f).toArray i).run P w = .ok (.int .i64 (f i)) w := fun f => run_part_plain w (by simp [Program.plainKey, hq]) (arrL_at hin)
    simp only [List.forIn_cons, Sem.run_bind, pf, Result.andThen_ok, run_equalIn_int _ _ _ _ _ _ _ hq]
    by_cases h : f i = g i
    · have ih' := ih (fun j hj => hmem j (by simp [hj]))
      simp only [h, beq_self_eq_true, Bool.not_true, Bool.false_eq_true, if_false, Sem.run_pure, Result.andThen_ok, List.all_cons, Bool.true_and]
      exact ih'
    · simp [h, Sem.run_pure, Result.andThen]

theorem raw_eqA {t : TypeId} {n : Nat} {x y : Operand} {S : World → Prop} (ht : arrTy P t n = true) (hg : P.eqGuardType P.depth t = false) (f g : Nat → Int) : (Req.raw (do eqGuard .eql t x y (arrV n f) (arrV n g); Go.binOp .eql t (arrV n f) (arrV n g)) (.bool (feq n f g))).ok P S := by
  intro w _
  rw [Sem.run_bind, arrV, arrV, run_eqGuard_agg _ _ _ _ _ _ _ hg, Result.andThen_ok, run_eql_struct]
  have := run_equal_arr ht f g w 9998
  rw [arrV, arrV] at this
  rw [this]; rfl
theorem raw_neA {t : TypeId} {n : Nat} {x y : Operand} {S : World → Prop} (ht : arrTy P t n = true) (hg : P.eqGuardType P.depth t = false) (f g : Nat → Int) : (Req.raw (do eqGuard .neq t x y (arrV n f) (arrV n g); Go.binOp .neq t (arrV n f) (arrV n g)) (.bool (!(feq n f g)))).ok P S := by
  intro w _
  rw [Sem.run_bind, arrV, arrV, run_eqGuard_agg _ _ _ _ _ _ _ hg, Result.andThen_ok, run_neq_struct]
  have := run_equal_arr ht f g w 9998
  rw [arrV, arrV] at this
  rw [this]; rfl

/-- An array of one's own, read as a slice. -/
theorem rd_own {w0 w : World} {M : Nat → Prop} {L : List Res} {b n : Nat} {f : Nat → Int} {t : TypeId} {enc : Int → List Value} (henc : ∀ x, enc x = [.int .i64 x]) (hO : Own w0 M L w) (j : Nat) (hj : L[j]? = some (cel b (arrL n f).toArray t)) (hn : n ≤ 9223372036854775807) :
    Rd enc 1 w.heap.size w (some ⟨b, 0, none⟩) n ((List.range n).map f) := by
  refine ⟨by simp, hn, fun i x hx => ⟨_, rfl, obj_lt (hO.get j hj), fun k v hv => ?_⟩⟩
  simp only [List.getElem?_map, Option.map_eq_some_iff] at hx
  obtain ⟨m, hm, rfl⟩ := hx
  obtain ⟨hi, rfl⟩ := List.getElem?_eq_some_iff.1 hm
  simp only [List.length_range] at hi
  simp only [List.getElem_range] at hv
  rw [henc] at hv
  have hk : k = 0 := by
    have := (List.getElem?_eq_some_iff.1 hv).1
    simp at this; exact this
  subst hk
  simp at hv
  subst hv
  rw [add_own, add_own]
  refine hO.cell j hj _ ?_
  simpa using arrL_at hi
end Go.Proofs.Ytioimdegbdkppaa.DK
