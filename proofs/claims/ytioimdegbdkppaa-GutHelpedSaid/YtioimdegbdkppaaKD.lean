/- Slices that grow; slices that are made; slices cut at their length. -/
import Derived.Test.YtioimdegbdkppaaKC
import Derived.ArgAppend
namespace Go.Proofs.Ytioimdegbdkppaa.DK
open Go
set_option linter.unusedSimpArgs false
set_option linter.unusedVariables false

variable {P : Program} {rn : Option Nat}

/-- t is a slice type of elements e of sz cells. -/
def rowTy (P : Program) (t e : TypeId) (sz : Nat) : Bool := match P.underlying t with
  | some (.slice e') => Nat.beq e' e && Nat.blt 0 sz && (match P.info? e with
    | some i => Nat.beq i.size sz && Nat.ble i.bytes 1000 && (match i.zero with | some z => Nat.beq z.cells.size sz | none => false)
    | none => false)
  | _ => false
theorem rowTy_ok {t e : TypeId} {sz : Nat} (h : rowTy P t e sz = true) : ∃ i z, P.underlying t = some (.slice e) ∧ 0 < sz ∧ P.info? e = some i ∧ i.size = sz ∧ i.bytes ≤ 1000 ∧ i.zero = some z ∧ z.cells.size = sz := by
  unfold rowTy at h
  split at h
  · rename_i e' hu
    simp only [Bool.and_eq_true] at h
    obtain ⟨⟨h1, h2⟩, h3⟩ := h
    have e1 := Nat.eq_of_beq_eq_true h1
    subst e1
    split at h3
    · rename_i i hi
      simp only [Bool.and_eq_true] at h3
      obtain ⟨⟨a, b⟩, c⟩ := h3
      split at c
      · rename_i z hz
        exact ⟨i, z, hu, Nat.le_of_ble_eq_true h2, hi, Nat.eq_of_beq_eq_true a, Nat.le_of_ble_eq_true b, hz, Nat.eq_of_beq_eq_true c⟩
      · cases c
    · cases h3
  · cases h

theorem maxLen_ge : 1000000001 ≤ maxLen := by simp only [maxLen]; omega

theorem Kp.of_grown {w w' : World} {v : Value} (hg : w.grownBy w' v.ownBlock) : Kp (fun k => v.ownBlock = some k) w w' :=
  ⟨hg.os, hg.tape, hg.output, hg.size, fun k hk hn => hg.block k hk fun e => hn e.symm⟩
theorem Ext.of_grown {w w' : World} (hg : w.grownBy w' none) : Ext w w' := ⟨hg.os, hg.tape, hg.output, hg.size, fun k hk _ => hg.block k hk (by simp)⟩

/-- What remains, if another resource changes. -/
theorem Own.but {w0 w : World} {M : Nat → Prop} {L : List Res} (hO : Own w0 M L w) (j : Nat) {r : Res} (hj : L[j]? = some r) : ∀ x, Kp r.fp w x → Own w0 M (L.set j nul) x := fun x hx =>
  hO.upd j hj (r' := nul) hx trivial (fun k hk => hk.elim)

section
variable {n : Nat} {ds : List Deferred} {F : List (Nat × Value)} {a : Act} {ops : Array Oper} {i : Nat} {K : Act → World → Prop} {w w0 : World} {M : Nat → Prop} {L : List Res}

theorem op_appR {t ty e : TypeId} {sz k c b d : Nat} {p : Option Addr} {xs : List Value} {cs : Array Value} (ht : rowTy P t e sz = true) (hF : Fr n ds F a) (hO : Own w0 M L w)
    (he : dec n ops i F = some (.app #[t, t] ty [.slice p k c, .slice (some ⟨b, 0, none⟩) 1 1] d)) (j1 : Nat) (h1 : L[j1]? = some (rowR e sz (.slice p k c) k xs)) (j2 : Nat) (h2 : L[j2]? = some (cel b cs e)) (hcs : (Nat.beq cs.size sz && cs.toList.all Value.oneCell') = true) (hk : k ≤ 1000000000)
    (h : ∀ a' w' p' c', Fr n ds ((d, .slice p' (k + 1) c') :: F) a' → Own w0 M (L.set j1 (rowR e sz (.slice p' (k + 1) c') (k + 1) (xs ++ cs.toList))) w' → Kp (rowR e sz (.slice p k c) k xs).fp w w' → K a' w') : opX P rn ops i K a w := by
  obtain ⟨inf, z, hu, hsz, hi, hsize, hby, hz, hzs⟩ := rowTy_ok ht
  simp only [Bool.and_eq_true, List.all_eq_true] at hcs
  have hlen := Nat.eq_of_beq_eq_true hcs.1
  have hr := hO.get j1 h1
  have hmax := maxLen_ge
  obtain ⟨v', w', hrun, hown, hgr, _, hblk⟩ := run_append_own_at (P := P) w 0 t ty e inf z sz inf.bytes hu hi hz hsize rfl hzs hsz (.slice p k c) k xs hr ⟨b, 0, none⟩ 1 1 cs.toList (by simpa using hlen)
    (fun j u hj => by rw [add_own, Nat.zero_add]; exact hO.cell j2 h2 j (by simpa using hj)) hcs.2 (by omega) (Nat.le_trans (Nat.mul_le_mul (Nat.add_le_add_right hk 1) hby) (by omega)) (Nat.zero_le _)
  have hshape : ∃ p' c', v' = .slice p' (k + 1) c' := by
    rcases hown.2 with ⟨_, h0⟩ | ⟨g, cap, cur, hv, _⟩
    · omega
    · exact ⟨_, _, hv⟩
  obtain ⟨p', c', rfl⟩ := hshape
  refine op_val (w' := w') (v := .slice p' (k + 1) c') he hF ?_ fun a' hf => h a' w' p' c' hf (hO.upd j1 h1 (r' := rowR e sz (.slice p' (k + 1) c') (k + 1) (xs ++ cs.toList)) (Kp.of_grown hgr) hown (fun m hm => ?_)) (Kp.of_grown hgr)
  · simp [NOp.sem, Sem.run_bind, hrun, Result.andThen, Sem.run, pure]
  · simp only [rowR] at hm ⊢
    rcases hblk with hb | hb
    · exact .inl (hb ▸ hm)
    · rw [hb] at hm; right; have := Option.some.inj hm; omega

theorem flat_get {α : Type} {enc : α → List Value} {sz : Nat} (henc : ∀ y, (enc y).length = sz) : ∀ (ys : List α) (i j : Nat) (y : α), ys[i]? = some y → j < sz → (ys.flatMap enc)[i * sz + j]? = (enc y)[j]?
  | [], i, j, y, h, _ => by simp at h
  | x :: ys, 0, j, y, h, hj => by
    simp only [List.getElem?_cons_zero, Option.some.injEq] at h; subst h
    rw [List.flatMap_cons, Nat.zero_mul, Nat.zero_add, List.getElem?_append_left (by rw [henc]; exact hj)]
  | x :: ys, i + 1, j, y, h, hj => by
    simp only [List.getElem?_cons_succ] at h
    rw [List.flatMap_cons, List.getElem?_append_right (by rw [henc, Nat.succ_mul]; omega), henc, show (i + 1) * sz + j - sz = i * sz + j from by rw [Nat.succ_mul]; omega]
    exact flat_get henc ys i j y h hj
theorem flat_len {α : Type} {enc : α → List Value} {sz : Nat} (henc : ∀ y, (enc y).length = sz) (ys : List α) : (ys.flatMap enc).length = ys.length * sz := by
  induction ys with
  | nil => simp
  | cons x ys ih => rw [List.flatMap_cons, List.length_append, henc, ih, List.length_cons, Nat.succ_mul]; omega

/-- A slice of one's own, read. -/
theorem rd_row {α : Type} {enc : α → List Value} {e : TypeId} {sz k c : Nat} {p : Option Addr} {ys : List α} (henc : ∀ y, (enc y).length = sz) (hsz : 0 < sz) (hO : Own w0 M L w) (j : Nat) (hj : L[j]? = some (rowR e sz (.slice p k c) k (ys.flatMap enc))) (hk : k ≤ 1000000000) : Rd enc sz w.heap.size w p k ys := by
  have hr := hO.get j hj
  have hl : ys.length = k := by
    have := hr.1
    rw [flat_len henc] at this
    exact Nat.eq_of_mul_eq_mul_right hsz this
  refine ⟨hl, by omega, fun i y hy => ?_⟩
  have hil : i < k := by rw [← hl]; exact (List.getElem?_eq_some_iff.1 hy).1
  rcases hr.2 with ⟨_, h0⟩ | ⟨g, cap, cur, hv, _, hg, hnc, _, hcs, htake⟩
  · omega
  · simp only [Value.slice.injEq] at hv
    obtain ⟨rfl, _, rfl⟩ := hv
    refine ⟨_, rfl, obj_lt hg, fun q v hq => ?_⟩
    have hqs : q < sz := by rw [← henc y]; exact (List.getElem?_eq_some_iff.1 hq).1
    have h1 := flat_get henc ys i q y hy hqs
    rw [hq] at h1
    rw [add_own, add_own, Nat.zero_add]
    have hlt : i * sz + q < k * sz := by
      have : (i + 1) * sz ≤ k * sz := Nat.mul_le_mul_right _ hil
      rw [Nat.succ_mul] at this; omega
    rw [← htake, List.getElem?_take_of_lt hlt] at h1
    simp [World.cell?, hg]
    simpa using h1

/-- An element more behind a slice that is only read, and full. -/
theorem op_appA {α : Type} {enc : α → List Value} {t ty e : TypeId} {sz k b d bd : Nat} {p : Option Addr} {ys : List α} {cs : Array Value} (ht : rowTy P t e sz = true) (henc : ∀ y, (enc y).length = sz) (hF : Fr n ds F a) (hO : Own w0 M L w)
    (he : dec n ops i F = some (.app #[t, t] ty [.slice p k k, .slice (some ⟨b, 0, none⟩) 1 1] d)) (hR : Rd enc sz bd w p k ys) (hp : p = none → k = 0) (j2 : Nat) (h2 : L[j2]? = some (cel b cs e)) (hcs : (Nat.beq cs.size sz && cs.toList.all Value.oneCell') = true) (hk : k ≤ 1000000000)
    (h : ∀ a' w' p' c', Fr n ds ((d, .slice p' (k + 1) c') :: F) a' → Own w0 M (L ++ [rowR e sz (.slice p' (k + 1) c') (k + 1) (ys.flatMap enc ++ cs.toList)]) w' → Ext w w' → K a' w') : opX P rn ops i K a w := by
  obtain ⟨inf, z, hu, hsz, hi, hsize, hby, hz, hzs⟩ := rowTy_ok ht
  simp only [Bool.and_eq_true, List.all_eq_true] at hcs
  have hlen := Nat.eq_of_beq_eq_true hcs.1
  have hmax := maxLen_ge
  have hnews : ∀ j u, cs.toList[j]? = some u → w.cell? ((⟨b, 0, none⟩ : Addr).add j) = some u := fun j u hj => by rw [add_own, Nat.zero_add]; exact hO.cell j2 h2 j (by simpa using hj)
  have fin : ∀ v' w', (Builtin.append_ #[t, t] ty #[.slice p k k, .slice (some ⟨b, 0, none⟩) 1 1]).run P w = .ok v' w' → w'.ownsRow w.heap.size e sz v' (k + 1) (ys.flatMap enc ++ cs.toList) → w.grownBy w' none → opX P rn ops i K a w := by
    intro v' w' hrun hown hgr
    have hshape : ∃ g c', v' = .slice (some ⟨g, 0, none⟩) (k + 1) c' ∧ w.heap.size ≤ g := by
      rcases hown.2 with ⟨_, h0⟩ | ⟨g, cap, cur, hv, hb, _⟩
      · omega
      · exact ⟨_, _, hv, hb⟩
    obtain ⟨g, c', rfl, hg⟩ := hshape
    refine op_val (w' := w') (v := .slice (some ⟨g, 0, none⟩) (k + 1) c') he hF ?_ fun a' hf => h a' w' _ c' hf (hO.add (Ext.of_grown hgr) (r := rowR e sz (.slice (some ⟨g, 0, none⟩) (k + 1) c') (k + 1) (ys.flatMap enc ++ cs.toList)) ?_ fun m hm => ?_) (Ext.of_grown hgr)
    · simp [NOp.sem, Sem.run_bind, hrun, Result.andThen, Sem.run, pure]
    · refine ⟨hown.1, ?_⟩
      rcases hown.2 with h0 | ⟨g', cap, cur, hv, hb, r⟩
      · exact .inl h0
      · exact .inr ⟨g', cap, cur, hv, Nat.zero_le _, r⟩
    · simp only [rowR, Value.ownBlock, Option.some.injEq] at hm; omega
  cases p with
  | some ad =>
    have holds : ∀ j u, (ys.flatMap enc)[j]? = some u → w.cell? (ad.add j) = some u := by
      intro j u hj
      have hjl : j < k * sz := by have := (List.getElem?_eq_some_iff.1 hj).1; rwa [flat_len henc, hR.len] at this
      have hq : j / sz < k := Nat.div_lt_of_lt_mul (by rw [Nat.mul_comm]; exact hjl)
      have hy : ys[j / sz]? = some (ys[j / sz]'(by rw [hR.len]; exact hq)) := List.getElem?_eq_getElem _
      obtain ⟨ad', had, _, hc⟩ := hR.cells _ _ hy
      cases had
      have hj2 : j / sz * sz + j % sz = j := by rw [Nat.mul_comm]; exact Nat.div_add_mod j sz
      have h1 := flat_get henc ys (j / sz) (j % sz) _ hy (Nat.mod_lt _ hsz)
      rw [hj2, hj] at h1
      have h3 := hc (j % sz) u h1.symm
      by_cases hm0 : j % sz = 0
      · rw [hm0] at h3 hj2
        rw [Nat.add_zero] at hj2
        rw [hj2] at h3
        simpa [Addr.add] using h3
      · rw [add_add _ _ _ hm0, hj2] at h3; exact h3
    obtain ⟨v', w', hrun, hown, hgr⟩ := run_append_arg_grows (P := P) w t ty e inf z sz inf.bytes hu hi hz hsize rfl hzs hsz ad k k (ys.flatMap enc) (by rw [flat_len henc, hR.len]) holds ⟨b, 0, none⟩ 1 1 cs.toList (by simpa using hlen) hnews (by omega) (by omega) (Nat.le_trans (Nat.mul_le_mul (Nat.add_le_add_right hk 1) hby) (by omega))
    exact fin v' w' hrun hown hgr
  | none =>
    have hk0 := hp rfl
    subst hk0
    have hys : ys = [] := List.eq_nil_of_length_eq_zero hR.len
    subst hys
    obtain ⟨v', w', hrun, hown, hgr, _, hblk⟩ := run_append_own_at (P := P) w w.heap.size t ty e inf z sz inf.bytes hu hi hz hsize rfl hzs hsz (.slice none 0 0) 0 [] (World.ownsRow_nil w _ e sz) ⟨b, 0, none⟩ 1 1 cs.toList (by simpa using hlen) hnews hcs.2 (by omega) (Nat.le_trans (Nat.mul_le_mul (Nat.add_le_add_right hk 1) hby) (by omega)) (Nat.le_refl _)
    exact fin v' w' hrun (by simpa using hown) hgr

/-- A slice of zeros. -/
theorem op_msl {t e : TypeId} {d k : Nat} (hF : Fr n ds F a) (hO : Own w0 M L w) (he : dec n ops i F = some (.msl t (.int .i64 (k : Int)) (.int .i64 (k : Int)) d)) (hu : P.underlying t = some (.slice e))
    (hi : ((P.info? e).map fun i => (i.size, i.zero)) = some (1, some (.int .i64 0))) (hby : ((P.info? e).map fun i => Nat.ble i.bytes 1000) = some true) (hk : k ≤ 1000000)
    (h : ∀ a' w' b, Fr n ds ((d, .slice (some ⟨b, 0, none⟩) k k) :: F) a' → Own w0 M (L ++ [cel b (arrL k fun _ => 0).toArray e]) w' → Ext w w' ∧ w.heap.size ≤ b → K a' w') : opX P rn ops i K a w := by
  cases hinf : P.info? e with
  | none => rw [hinf] at hi; cases hi
  | some inf =>
    rw [hinf] at hi hby
    simp only [Option.map_some, Option.some.injEq, Prod.mk.injEq] at hi hby
    have hb := Nat.le_of_ble_eq_true hby
    have hmax := maxLen_ge
    obtain ⟨w', hrun, hown, hgr⟩ := run_make_full (P := P) w 0 t e inf (.int .i64 0) 1 hu hinf hi.2 hi.1 .i64 .i64 k (Nat.le_trans (Nat.mul_le_mul hb hk) (by omega)) (by omega) (Nat.zero_le _)
    refine op_val (w' := w') (v := .slice (some ⟨w.heap.size, 0, none⟩) k k) he hF ?_ fun a' hf => h a' w' _ hf (hO.add (Ext.of_grown hgr) (r := cel w.heap.size (arrL k fun _ => 0).toArray e) ?_ fun m hm => ?_) ⟨Ext.of_grown hgr, Nat.le_refl _⟩
    · simp [NOp.sem, Sem.run_bind, hrun, Result.andThen, Sem.run, pure]
    · rcases hown.2 with ⟨hv, _⟩ | ⟨g, cap, cur, hv, _, hg, _, _, hcs, htake⟩
      · cases hv
      · simp only [Value.slice.injEq, Option.some.injEq, Addr.mk.injEq, true_and, and_true] at hv
        obtain ⟨rfl, rfl⟩ := hv
        simp only [pt]
        rw [hg]
        congr 2
        apply Array.ext'
        rw [Nat.mul_one] at hcs htake
        have : cur.toList.take k = cur.toList := List.take_of_length_le (by simp [hcs])
        rw [this] at htake
        rw [htake]
        simp only [Value.cells]
        rw [toList_madeCells_one]
        apply List.ext_getElem?
        intro j
        simp only [arrL, List.nil_append, List.append_nil]
        by_cases hj : j < k
        · rw [fcells_at hj]; simp [hj]
        · rw [List.getElem?_eq_none (by simp; omega), List.getElem?_eq_none (by simp [fcells_length]; omega)]
    · simp only [pt] at hm; omega

theorem run_sliceCap {t e : TypeId} {sz : Nat} (ht : rowTy P t e sz = true) {p : Option Addr} {k c : Nat} (hk : k ≤ c) (w : World) : (Instr.sliceAt t (.slice p k c) none (some (.int .i64 k)) (some (.int .i64 k))).run P w = .ok (.slice p k k) w := by
  obtain ⟨inf, z, hu, hsz, hi, hsize, hby, hz, hzs⟩ := rowTy_ok ht
  unfold Instr.sliceAt
  simp only [Sem.run_bind, run_underlying hu, Result.andThen_ok]
  unfold Instr.slice
  simp only [Sem.run_bind, run_underlying hu, Result.andThen_ok]
  have h1 : (Instr.sliceBounds true k c none (some (.int .i64 k)) (some (.int .i64 k))).run P w = .ok (0, k, k) w := by
    simp [Instr.sliceBounds, Instr.sliceBound, Sem.run_bind, Sem.run, pure, Result.andThen, asIntOf, hk]
  rw [h1]
  simp only [Result.andThen_ok, sizeOf, Sem.run_bind, run_typeInfo hi, Sem.run_pure, Nat.sub_zero, Nat.zero_mul]
  by_cases h0 : k = 0
  · simp [h0]
  · cases p <;> simp [h0, Addr.add]
end
theorem raw_sliceCap {t e : TypeId} {sz : Nat} {S : World → Prop} (ht : rowTy P t e sz = true) {p : Option Addr} {k c : Nat} (hk : k ≤ c) : (Req.raw (Instr.sliceAt t (.slice p k c) none (some (.int .i64 k)) (some (.int .i64 k))) (.slice p k k)).ok P S := fun w _ => run_sliceCap ht hk w
theorem row_cap {w0 w : World} {M : Nat → Prop} {L : List Res} {e : TypeId} {sz k c : Nat} {p : Option Addr} {xs : List Value} (hO : Own w0 M L w) (j : Nat) (hj : L[j]? = some (rowR e sz (.slice p k c) k xs)) : k ≤ c ∧ (p = none → k = 0) := by
  rcases (hO.get j hj).2 with ⟨hv, h0⟩ | ⟨g, cap, cur, hv, _, _, hc, _⟩
  · exact ⟨by omega, fun _ => h0⟩
  · simp only [Value.slice.injEq] at hv
    obtain ⟨rfl, _, rfl⟩ := hv
    exact ⟨hc, by simp⟩
theorem Own.nilRow {w0 w : World} {M : Nat → Prop} {L : List Res} (hO : Own w0 M L w) (e : TypeId) (sz : Nat) : Own w0 M (L ++ [rowR e sz (.slice none 0 0) 0 []]) w :=
  hO.add (Kp.refl _ _) (r := rowR e sz (.slice none 0 0) 0 []) (World.ownsRow_nil w _ e sz) (by simp [rowR, Value.ownBlock])

/-! ### A region in which a resource changes, but reads as it did -/
def KpI (r : Res) (w x : World) : Prop := Kp r.fp w x ∧ r.ok x
theorem KpI.ext {r : Res} (w x y : World) (h : KpI r w x) (hE : Ext x y) : KpI r w y := ⟨h.1.trans (Ext.kp hE), r.loc x y (fun k hk => hE.block k (r.lt x h.2 k hk) (fun h => h)) h.2⟩
theorem draw_startI {id : Nat} {ops : Array Oper} {Q : Exit → Act → World → Prop} {a : Act} {w : World} (hm : P.follows .mixedOrders = true) (Z : List Nat) (n : Nat) (hn : Nat.beq ops.size n = true) {r : Res}
    (h : ∀ w1, Ext w w1 → anyX P rn ops (Q .normal) Z (fun x => KpI r w x) n (Array.replicate n false) a w1) : W rn P (.region id ops true) Q a w := by
  have e := Nat.eq_of_beq_eq_true hn
  subst e
  exact region_any hm Z _ (h _ (Ext.drew w))
theorem draw_qI {tb : Tbl} {n : Nat} (ct : Ctl) {ds : List Deferred} {ops : Array Oper} {K : Act → World → Prop} {Z : List Nat} {F F' : List (Nat × Value)} {rs : List Req} {listed : Array Bool} {a : Act} {w wb : World} {r : Res} (ht : Tbl.ok P tb = true) (hF : Fr n ds F a)
    (hS : KpI r wb w) (is : List Nat) (m fuel : Nat) (hn : Nat.beq m (is.length + fuel) = true) (listed' : Array Bool) (keep : List Nat) (hr : Reqs P (fun x => KpI r w x) rs) (he : evk tb n ct ops is F rs keep = some (F', rs))
    (hh : (Region.noSelect ops && decide (hoist ops Z is listed = some listed')) = true)
    (k : ∀ a', Fr n ds F' a' → anyX P rn ops K Z (fun x => KpI r w x) fuel listed' a' w) : anyX P rn ops K Z (fun x => KpI r wb x) m listed a w := by
  have e := Nat.eq_of_beq_eq_true hn
  subst e
  exact anyX_mono (fun _ h => ⟨hS.1.trans h.1, h.2⟩) _ _ _ _ (any_quiet ct ht hF (fun _ _ h h' => KpI.ext _ _ _ h h') ⟨Kp.refl _ _, hS.2⟩ is fuel listed' keep hr he hh k)
theorem draw_q0I {tb : Tbl} {n : Nat} (ct : Ctl) {ds : List Deferred} {ops : Array Oper} {K : Act → World → Prop} {Z : List Nat} {F F' : List (Nat × Value)} {listed : Array Bool} {a : Act} {w wb : World} {r : Res} (ht : Tbl.ok P tb = true) (hF : Fr n ds F a)
    (hS : KpI r wb w) (is : List Nat) (m fuel : Nat) (hn : Nat.beq m (is.length + fuel) = true) (listed' : Array Bool) (keep : List Nat) (he : evk tb n ct ops is F [] keep = some (F', []))
    (hh : (Region.noSelect ops && decide (hoist ops Z is listed = some listed')) = true)
    (k : ∀ a', Fr n ds F' a' → anyX P rn ops K Z (fun x => KpI r wb x) fuel listed' a' w) : anyX P rn ops K Z (fun x => KpI r wb x) m listed a w := by
  have e := Nat.eq_of_beq_eq_true hn
  subst e
  exact any_quiet ct ht hF (fun _ _ h h' => KpI.ext _ _ _ h h') hS is fuel listed' keep .nil he hh k
theorem Own.butI {w0 w : World} {M : Nat → Prop} {L : List Res} (hO : Own w0 M L w) (j : Nat) {r : Res} (hj : L[j]? = some r) : ∀ x, KpI r w x → Own w0 M L x := fun x hx => by
  have h := hO.upd j hj (r' := r) hx.1 hx.2 (fun k hk => .inl hk)
  have e : L.set j r = L := by
    obtain ⟨hl, rfl⟩ := List.getElem?_eq_some_iff.1 hj
    exact List.set_getElem_self hl
  rwa [e] at h
theorem mapTE_T {α : Type} {b : Nat} {z : Value} {enc : α → Value} {S : Int × Int → α} {x : Int × Int} {s : Nat} {w : World} (h : (mapTE b z enc S x s).ok w) : (mapT b z enc S).ok w := by
  obtain ⟨f, ⟨es, c, h1, h2, _⟩, h3⟩ := h
  exact ⟨f, ⟨es, c, h1, h2⟩, h3⟩

end Go.Proofs.Ytioimdegbdkppaa.DK
