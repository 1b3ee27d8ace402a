/- Storing into a slice of one's own; slices from an element on. -/
import Derived.Test.YtioimdegbdkppaaKK
namespace Go.Proofs.Ytioimdegbdkppaa.DK
open Go
set_option linter.unusedSimpArgs false
set_option linter.unusedVariables false

variable {P : Program} {rn : Option Nat}

theorem wr_get : ∀ (vs : List Value) (off : Nat) (cs : Array Value) (j : Nat), off + vs.length ≤ cs.size → (wr cs off vs)[j]? = if off ≤ j ∧ j < off + vs.length then vs[j - off]? else cs[j]?
  | [], off, cs, j, _ => by
    rw [if_neg (by simp only [List.length_nil]; omega)]; rfl
  | v :: vs, off, cs, j, h => by
    simp only [List.length_cons] at h
    rw [wr, wr_get vs (off + 1) _ j (by simp; omega)]
    simp only [List.length_cons]
    by_cases h1 : j = off
    · subst h1
      rw [if_neg (by omega), if_pos (by omega), Nat.sub_self]
      simp [show j < cs.size by omega]
    · by_cases h2 : off + 1 ≤ j ∧ j < off + 1 + vs.length
      · rw [if_pos h2, if_pos (by omega), show j - off = (j - (off + 1)) + 1 from by omega, List.getElem?_cons_succ]
      · rw [if_neg h2, if_neg (by omega), Array.getElem?_setIfInBounds_ne (by omega)]
theorem flat_set {α : Type} {enc : α → List Value} {sz : Nat} (henc : ∀ y, (enc y).length = sz) (hsz : 0 < sz) (ys : List α) (i : Nat) (y : α) (hi : i < ys.length) (j : Nat) :
    ((ys.set i y).flatMap enc)[j]? = if i * sz ≤ j ∧ j < i * sz + sz then (enc y)[j - i * sz]? else (ys.flatMap enc)[j]? := by
  by_cases hj : j < ys.length * sz
  · have hq : j / sz < ys.length := Nat.div_lt_of_lt_mul (by rw [Nat.mul_comm]; exact hj)
    have hr : j % sz < sz := Nat.mod_lt _ hsz
    have hjj : j / sz * sz + j % sz = j := by rw [Nat.mul_comm]; exact Nat.div_add_mod j sz
    have h1 := flat_get henc (ys.set i y) (j / sz) (j % sz) _ (List.getElem?_eq_getElem (by rw [List.length_set]; exact hq)) hr
    have h2 := flat_get henc ys (j / sz) (j % sz) _ (List.getElem?_eq_getElem hq) hr
    rw [hjj] at h1 h2
    rw [h1, List.getElem_set]
    by_cases e : i = j / sz
    · rw [if_pos e, if_pos (by rw [e]; omega)]
      congr 1; rw [e]; omega
    · rw [if_neg e, h2, if_neg]
      intro hc
      apply e
      have a1 : i * sz ≤ j := hc.1
      have a2 : j < (i + 1) * sz := by rw [Nat.add_mul, Nat.one_mul]; exact hc.2
      have b1 : i ≤ j / sz := (Nat.le_div_iff_mul_le hsz).2 a1
      have b2 : j / sz < i + 1 := (Nat.div_lt_iff_lt_mul hsz).2 a2
      omega
  · have hle : i * sz + sz ≤ ys.length * sz := by rw [← Nat.succ_mul]; exact Nat.mul_le_mul_right _ hi
    rw [if_neg (by omega), List.getElem?_eq_none (by rw [flat_len henc, List.length_set]; omega), List.getElem?_eq_none (by rw [flat_len henc]; omega)]

section
variable {n : Nat} {ds : List Deferred} {F : List (Nat × Value)} {a : Act} {ops : Array Oper} {ii : Nat} {K : Act → World → Prop} {w w0 : World} {M : Nat → Prop} {L : List Res}

/-- An element of a slice of one's own, written anew. -/
theorem op_storeR {α : Type} {enc : α → List Value} {t e : TypeId} {sz k c : Nat} {q : Option Addr} {ys : List α} {y : α} {i : Int} {v : Value} (henc : ∀ y, (enc y).length = sz) (hsz0 : 0 < sz) (h1c : (enc y).all Value.oneCell' = true) (hF : Fr n ds F a) (hO : Own w0 M L w)
    (he : dec n ops ii F = some (.store t (.pointer (some (adr q sz i))) v)) (hv : v.cells.toList = enc y) (j : Nat) (hj : L[j]? = some (rowR e sz (.slice q k c) k (ys.flatMap enc))) (h0 : 0 ≤ i) (h1 : i < k) (hsz : ((P.info? t).map fun i => i.size) = some sz)
    (h : ∀ a' w', Fr n ds F a' → Own w0 M (L.set j (rowR e sz (.slice q k c) k ((ys.set i.toNat y).flatMap enc))) w' → Kp (rowR e sz (.slice q k c) k (ys.flatMap enc)).fp w w' → K a' w') : opX P rn ops ii K a w := by
  have hr := hO.get j hj
  have hlen : ys.length = k := Nat.eq_of_mul_eq_mul_right hsz0 ((flat_len henc ys).symm.trans hr.1)
  rcases hr.2 with ⟨_, hk0⟩ | ⟨g, cap, cur, hv2, hb, hg, hnc, hcm, hcs, htk⟩
  · omega
  · simp only [Value.slice.injEq, true_and] at hv2
    obtain ⟨rfl, rfl⟩ := hv2
    have hadr : adr (some (⟨g, 0, none⟩ : Addr)) sz i = ⟨g, i.toNat * sz, none⟩ := by unfold adr; rw [Option.getD_some, add_own, Nat.zero_add]
    rw [hadr] at he
    have hle : i.toNat * sz + sz ≤ k * sz := by rw [← Nat.succ_mul]; exact Nat.mul_le_mul_right _ (by omega)
    have hle2 : k * sz ≤ cur.size := by rw [hcs]; exact Nat.mul_le_mul_right _ hnc
    obtain ⟨w', hrun, hb', hk⟩ := run_storeCells (P := P) (enc y) (i.toNat * sz) 0 cur w hg (by rw [henc]; omega) (fun u hu => List.all_eq_true.1 h1c u hu)
    rw [Nat.add_zero] at hb'
    have hkp : Kp (rowR e sz (.slice (some ⟨g, 0, none⟩) k c) k (ys.flatMap enc)).fp w w' := hk.mono fun b _ hb => by simp only [rowR, Value.ownBlock, Option.some.injEq]; exact hb.symm
    refine op_skip (w' := w') he hF rfl ?_ fun a' hf => h a' w' hf (hO.upd j hj (r' := rowR e sz (.slice (some ⟨g, 0, none⟩) k c) k ((ys.set i.toNat y).flatMap enc)) hkp ?_ (fun k hk => .inl hk)) hkp
    · cases hi : P.info? t with
      | none => rw [hi] at hsz; cases hsz
      | some inf =>
        rw [hi] at hsz
        simp only [Option.map_some, Option.some.injEq] at hsz
        have hvs : v.cells.size = sz := by rw [← Array.length_toList, hv, henc]
        simp only [NOp.sem, Instr.storeAt, Instr.sureAddr, storeVar]
        simp [Sem.run_bind, run_sizeOf hi, Result.andThen, Sem.run, pure, hvs, hsz, hv, hrun]
    · refine ⟨by rw [flat_len henc, List.length_set, hlen], .inr ⟨g, c, _, rfl, hb, hb', hnc, hcm, by rw [size_wr cur]; exact hcs, ?_⟩⟩
      apply List.ext_getElem?
      intro m
      rw [flat_set henc hsz0 ys i.toNat y (by omega) m]
      by_cases hm : m < k * sz
      · rw [List.getElem?_take_of_lt hm, Array.getElem?_toList, wr_get _ _ _ _ (by rw [henc]; omega), henc]
        by_cases hc : i.toNat * sz ≤ m ∧ m < i.toNat * sz + sz
        · rw [if_pos hc, if_pos hc]
        · rw [if_neg hc, if_neg hc, ← htk, List.getElem?_take_of_lt hm, Array.getElem?_toList]
      · rw [List.getElem?_eq_none (by rw [List.length_take]; omega), if_neg (by omega), List.getElem?_eq_none (by rw [flat_len henc]; rw [hlen]; omega)]
end
end Go.Proofs.Ytioimdegbdkppaa.DK
namespace Go.Proofs.Ytioimdegbdkppaa.DK
open Go
set_option linter.unusedSimpArgs false
set_option linter.unusedVariables false
section
variable {P : Program}
def dropA (a : Option Addr) (l m sz : Nat) : Option Addr := if m = l then a else a.map (·.add (l * sz))
theorem run_sliceFrom {t e : TypeId} {sz : Nat} (ht : rowTy P t e sz = true) {p : Option Addr} {n c : Nat} {k : Int} (h0 : 0 ≤ k) (hk : k ≤ n) (w : World) : (Instr.sliceAt t (.slice p n c) (some (.int .i64 k)) none none).run P w = .ok (.slice (dropA p k.toNat c sz) (n - k.toNat) (c - k.toNat)) w := by
  obtain ⟨inf, z, hu, hsz, hi, hsize, hby, hz, hzs⟩ := rowTy_ok ht
  unfold Instr.sliceAt
  simp only [Sem.run_bind, run_underlying hu, Result.andThen_ok]
  unfold Instr.slice
  simp only [Sem.run_bind, run_underlying hu, Result.andThen_ok]
  have h1 : (Instr.sliceBounds true n c (some (.int .i64 k)) none none).run P w = .ok (k.toNat, n, c) w := by
    simp [Instr.sliceBounds, Instr.sliceBound, Sem.run_bind, Sem.run, pure, Result.andThen, asIntOf, h0, hk]
  rw [h1]
  simp only [Result.andThen_ok, sizeOf, Sem.run_bind, run_typeInfo hi, Sem.run_pure, hsize]
  rfl
theorem raw_sliceFrom {t e : TypeId} {sz : Nat} {S : World → Prop} (ht : rowTy P t e sz = true) {p : Option Addr} {n c : Nat} {k : Int} (h0 : 0 ≤ k) (hk : k ≤ n) : (Req.raw (Instr.sliceAt t (.slice p n c) (some (.int .i64 k)) none none) (.slice (dropA p k.toNat c sz) (n - k.toNat) (c - k.toNat))).ok P S := fun w _ => run_sliceFrom ht h0 hk w
variable {α : Type} {enc : α → List Value} {sz bd : Nat} {w : World} {a : Option Addr} {n : Nat} {xs : List α}
theorem Rd.take (h : Rd enc sz bd w a n xs) {k : Nat} (hk : k ≤ n) : Rd enc sz bd w a k (xs.take k) :=
  ⟨by have := h.len; rw [List.length_take]; omega, by have := h.size; omega, fun i x hx => by
    rw [List.getElem?_take] at hx
    split at hx
    · exact h.cells i x hx
    · cases hx⟩
theorem Rd.drop (h : Rd enc sz bd w a n xs) {k c : Nat} (hk : k ≤ n) (hc : n ≤ c) : Rd enc sz bd w (dropA a k c sz) (n - k) (xs.drop k) :=
  ⟨by have := h.len; rw [List.length_drop]; omega, by have := h.size; omega, fun i x hx => by
    rw [List.getElem?_drop] at hx
    obtain ⟨ad, ha, hb, hv⟩ := h.cells (k + i) x hx
    have hlt : k + i < n := by rw [← h.len]; exact (List.getElem?_eq_some_iff.1 hx).1
    subst ha
    refine ⟨ad.add (k * sz), by unfold dropA; rw [if_neg (by omega)]; rfl, by rw [add_block]; exact hb, fun j v hj => ?_⟩
    have h1 := hv j v hj
    rw [Nat.add_mul] at h1
    by_cases h0 : i * sz = 0
    · rw [h0, Nat.add_zero] at h1
      rw [h0]
      have e : (ad.add (k * sz)).add 0 = ad.add (k * sz) := by simp [Addr.add]
      rw [e]; exact h1
    · rw [add_add _ _ _ h0]; exact h1⟩
end
end Go.Proofs.Ytioimdegbdkppaa.DK
namespace Go.Proofs.Ytioimdegbdkppaa.DK
open Go
set_option linter.unusedSimpArgs false
set_option linter.unusedVariables false
section
variable {P : Program} {w0 w : World} {M : Nat → Prop} {L : List Res}
/-- What remains, if two other resources change. -/
theorem Own.but2 (hO : Own w0 M L w) (j1 j2 : Nat) {r1 r2 : Res} (h1 : L[j1]? = some r1) (h2 : L[j2]? = some r2) (hne : j1 ≠ j2) : ∀ x, Kp (fun k => r1.fp k ∨ r2.fp k) w x → Own w0 M ((L.set j1 nul).set j2 nul) x := by
  intro x hx
  have hO1 : Own w0 M (L.set j1 nul) w := hO.upd j1 h1 (r' := nul) (Kp.refl _ _) trivial (fun k hk => hk.elim)
  have hO2 : Own w0 M ((L.set j1 nul).set j2 nul) w := hO1.upd j2 (r := r2) (by rw [List.getElem?_set_ne hne]; exact h2) (r' := nul) (Kp.refl _ _) trivial (fun k hk => hk.elim)
  have hap := List.pairwise_iff_getElem.1 hO.apart
  obtain ⟨l1, e1⟩ := List.getElem?_eq_some_iff.1 h1
  obtain ⟨l2, e2⟩ := List.getElem?_eq_some_iff.1 h2
  have key : ∀ i (hi : i < L.length) j (hj : j < L.length), i ≠ j → ∀ k, L[i].fp k → ¬ L[j].fp k := fun i hi j hj hne k a b => by
    rcases Nat.lt_or_gt_of_ne hne with hlt | hlt
    · exact hap i j hi hj hlt k a b
    · exact hap j i hj hi hlt k b a
  refine ⟨hO.kp.trans' hx fun k hk hm => ?_, fun r hr => ?_, hO2.apart, hO2.home⟩
  · rcases hm with hm | hm
    · rcases hO.home r1 (List.mem_of_getElem? h1) k hm with h | h
      · omega
      · exact h
    · rcases hO.home r2 (List.mem_of_getElem? h2) k hm with h | h
      · omega
      · exact h
  · obtain ⟨i, hi, rfl⟩ := List.mem_iff_getElem.1 hr
    simp only [List.length_set] at hi
    by_cases a2 : i = j2
    · subst a2; simp only [List.getElem_set_self]; trivial
    · rw [List.getElem_set_ne (Ne.symm a2)]
      by_cases a1 : i = j1
      · subst a1; simp only [List.getElem_set_self]; trivial
      · rw [List.getElem_set_ne (Ne.symm a1)]
        refine L[i].loc w x (fun k hk => hx.block k (L[i].lt w (hO.all _ (List.getElem_mem hi)) k hk) ?_) (hO.all _ (List.getElem_mem hi))
        rintro (hm | hm)
        · exact key i hi j1 l1 a1 k hk (by rw [e1]; exact hm)
        · exact key i hi j2 l2 a2 k hk (by rw [e2]; exact hm)
theorem raw_eqPk {k : TypeId} {x y : Operand} {S : World → Prop} (hk : pairTy P k = true) (hg : P.eqGuardType P.depth k = false) (u v : Int × Int) {b : Bool} (h : (u.1 == v.1 && u.2 == v.2) = b) : (Req.raw (do eqGuard .eql k x y (slv u) (slv v); Go.binOp .eql k (slv u) (slv v)) (.bool b)).ok P S := h ▸ raw_eqP hk hg u v
end
end Go.Proofs.Ytioimdegbdkppaa.DK
namespace Go.Proofs.Ytioimdegbdkppaa.DK
open Go
section
variable {P : Program} {w0 w : World} {M : Nat → Prop} {L : List Res} {α : Type} {enc : α → List Value} {sz bd : Nat} {a : Option Addr} {n : Nat} {xs : List α}
theorem addr_add0 (p : Addr) : p.add 0 = p := by simp [Addr.add]
theorem ldx0 [Inhabited α] {S : World → Prop} (H : ∀ x, S x → Own w0 M L x) (hm : ∀ k, k < bd → ¬ M k) (h : Rd enc sz bd w0 a n xs) {i : Int} (h0 : 0 ≤ i) (h1 : i < n) {v : Value} (hv : (enc (xs.getD i.toNat default))[0]? = some v) : (Req.ld (adr a sz i) v).ok P S := by
  have := ldx (P := P) H hm h h0 h1 0 hv
  rwa [addr_add0] at this
theorem ldR0 [Inhabited α] {S : World → Prop} (H : ∀ x, S x → Rd enc sz x.heap.size x a n xs) {i : Int} (h0 : 0 ≤ i) (h1 : i < n) {v : Value} (hv : (enc (xs.getD i.toNat default))[0]? = some v) : (Req.ld (adr a sz i) v).ok P S := by
  have := ldR (P := P) H h0 h1 0 hv
  rwa [addr_add0] at this
end
end Go.Proofs.Ytioimdegbdkppaa.DK
namespace Go.Proofs.Ytioimdegbdkppaa.DK
open Go
section
variable {P : Program} {w0 w : World} {M : Nat → Prop} {L : List Res}
def nulAt (js : List Nat) : Nat → List Res → List Res
  | _, [] => []
  | i, r :: L => cond (js.elem i) nul r :: nulAt js (i + 1) L
/-- The blocks of some of them. -/
def selR (L : List Res) (js : List Nat) (k : Nat) : Prop := ∃ j, js.elem j = true ∧ ∃ r, L[j]? = some r ∧ r.fp k
theorem nulAt_get (js : List Nat) : ∀ (L : List Res) (i j : Nat), (nulAt js i L)[j]? = (L[j]?).map fun r => cond (js.elem (i + j)) nul r
  | [], i, j => by simp [nulAt]
  | r :: L, i, 0 => by simp [nulAt]
  | r :: L, i, j + 1 => by
    rw [nulAt, List.getElem?_cons_succ, nulAt_get js L (i + 1) j, List.getElem?_cons_succ, show i + 1 + j = i + (j + 1) from by omega]
theorem Own.butL (hO : Own w0 M L w) (js : List Nat) : ∀ x, Kp (selR L js) w x → Own w0 M (nulAt js 0 L) x := by
  intro x hx
  have hap := List.pairwise_iff_getElem.1 hO.apart
  have key : ∀ (i j : Nat) (r s : Res), L[i]? = some r → L[j]? = some s → i ≠ j → ∀ k, r.fp k → ¬ s.fp k := fun i j r s hi hj hne k a b => by
    obtain ⟨li, rfl⟩ := List.getElem?_eq_some_iff.1 hi
    obtain ⟨lj, rfl⟩ := List.getElem?_eq_some_iff.1 hj
    rcases Nat.lt_or_gt_of_ne hne with hlt | hlt
    · exact hap i j li lj hlt k a b
    · exact hap j i lj li hlt k b a
  have get : ∀ (j : Nat) (r : Res), (nulAt js 0 L)[j]? = some r → r = nul ∨ (js.elem j = false ∧ L[j]? = some r) := fun j r h => by
    rw [nulAt_get, Nat.zero_add] at h
    cases hL : L[j]? with
    | none => rw [hL] at h; cases h
    | some s =>
      rw [hL, Option.map_some, Option.some.injEq] at h
      cases he : js.elem j with
      | true => rw [he] at h; exact .inl h.symm
      | false => rw [he] at h; exact .inr ⟨rfl, by rw [← h]; rfl⟩
  refine ⟨hO.kp.trans' hx fun k hk hm => ?_, fun r hr => ?_, ?_, fun r hr k hk => ?_⟩
  · obtain ⟨j, _, r, hr, hf⟩ := hm
    rcases hO.home r (List.mem_of_getElem? hr) k hf with h | h
    · omega
    · exact h
  · obtain ⟨j, hj⟩ := List.mem_iff_getElem?.1 hr
    rcases get j r hj with rfl | ⟨h1, h2⟩
    · trivial
    · refine r.loc w x (fun k hk => hx.block k (r.lt w (hO.get j h2) k hk) ?_) (hO.get j h2)
      rintro ⟨i, hi, s, hs, hf⟩
      have hne : j ≠ i := fun e => by subst e; rw [h1] at hi; cases hi
      exact key j i r s h2 hs hne k hk hf
  · rw [List.pairwise_iff_getElem]
    intro i j hi hj hij k h1 h2
    rcases get i _ (List.getElem?_eq_getElem hi) with e | ⟨_, e1⟩
    · rw [e] at h1; exact h1
    · rcases get j _ (List.getElem?_eq_getElem hj) with e | ⟨_, e2⟩
      · rw [e] at h2; exact h2
      · exact key i j _ _ e1 e2 (by omega) k h1 h2
  · obtain ⟨j, hj⟩ := List.mem_iff_getElem?.1 hr
    rcases get j r hj with rfl | ⟨_, h2⟩
    · exact hk.elim
    · exact hO.home r (List.mem_of_getElem? h2) k hk
end
end Go.Proofs.Ytioimdegbdkppaa.DK
