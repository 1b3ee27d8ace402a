/- Regions that draw and make memory; maps in one's own; cells that are only read; ranges over a function. -/
import Derived.Test.YtioimdegbdkppaaK9
namespace Go.Proofs.Ytioimdegbdkppaa.DK
open Go
set_option linter.unusedSimpArgs false
set_option linter.unusedVariables false

variable {P : Program} {rn : Option Nat}

/-! ### Draws -/
theorem draw_start {id : Nat} {ops : Array Oper} {Q : Exit → Act → World → Prop} {a : Act} {w : World} (hm : P.follows .mixedOrders = true) (Z : List Nat) (n : Nat) (hn : Nat.beq ops.size n = true) {R : Nat → Prop}
    (h : ∀ w1, Ext w w1 → anyX P rn ops (Q .normal) Z (fun x => Kp R w x) n (Array.replicate n false) a w1) : W rn P (.region id ops true) Q a w := by
  have e := Nat.eq_of_beq_eq_true hn
  subst e
  exact region_any hm Z _ (h _ (Ext.drew w))

theorem draw_q {tb : Tbl} {n : Nat} (ct : Ctl) {ds : List Deferred} {ops : Array Oper} {K : Act → World → Prop} {Z : List Nat} {F F' : List (Nat × Value)} {rs : List Req} {listed : Array Bool} {a : Act} {w wb : World} {R : Nat → Prop} (ht : Tbl.ok P tb = true) (hF : Fr n ds F a)
    (hS : Kp R wb w) (is : List Nat) (m fuel : Nat) (hn : Nat.beq m (is.length + fuel) = true) (listed' : Array Bool) (keep : List Nat) (hr : Reqs P (fun x => Kp R w x) rs) (he : evk tb n ct ops is F rs keep = some (F', rs))
    (hh : (Region.noSelect ops && decide (hoist ops Z is listed = some listed')) = true)
    (k : ∀ a', Fr n ds F' a' → anyX P rn ops K Z (fun x => Kp R w x) fuel listed' a' w) : anyX P rn ops K Z (fun x => Kp R wb x) m listed a w := by
  have e := Nat.eq_of_beq_eq_true hn
  subst e
  exact anyX_mono (fun _ h => hS.trans h) _ _ _ _ (any_quiet ct ht hF (fun _ _ h h' => Kp.trans h h'.kp) (Kp.refl _ _) is fuel listed' keep hr he hh k)

theorem draw_q0 {tb : Tbl} {n : Nat} (ct : Ctl) {ds : List Deferred} {ops : Array Oper} {K : Act → World → Prop} {Z : List Nat} {F F' : List (Nat × Value)} {listed : Array Bool} {a : Act} {w wb : World} {R : Nat → Prop} (ht : Tbl.ok P tb = true) (hF : Fr n ds F a)
    (hS : Kp R wb w) (is : List Nat) (m fuel : Nat) (hn : Nat.beq m (is.length + fuel) = true) (listed' : Array Bool) (keep : List Nat) (he : evk tb n ct ops is F [] keep = some (F', []))
    (hh : (Region.noSelect ops && decide (hoist ops Z is listed = some listed')) = true)
    (k : ∀ a', Fr n ds F' a' → anyX P rn ops K Z (fun x => Kp R wb x) fuel listed' a' w) : anyX P rn ops K Z (fun x => Kp R wb x) m listed a w := by
  have e := Nat.eq_of_beq_eq_true hn
  subst e
  exact any_quiet ct ht hF (fun _ _ h h' => Kp.trans h h'.kp) hS is fuel listed' keep .nil he hh k

theorem Kp.fresh {wb w w' : World} {b : Nat} {R : Nat → Prop} (h : Kp R wb w) (hk : Kp (· = b) w w') (hb : wb.heap.size ≤ b) : Kp R wb w' :=
  h.trans' hk fun i hi hib => by subst hib; omega

theorem all1 {p : Nat → Prop} {i : Nat} (h : p i) : ∀ j ∈ [i], p j := by simpa using h
theorem all2 {p : Nat → Prop} {i j : Nat} (h : p i) (h' : p j) : ∀ k ∈ [i, j], p k := by simpa using ⟨h, h'⟩
theorem all3 {p : Nat → Prop} {i j k : Nat} (h : p i) (h' : p j) (h'' : p k) : ∀ l ∈ [i, j, k], p l := by simpa using ⟨h, h', h''⟩
theorem all4 {p : Nat → Prop} {i j k m : Nat} (h : p i) (h' : p j) (h'' : p k) (h3 : p m) : ∀ l ∈ [i, j, k, m], p l := by simpa using ⟨h, h', h'', h3⟩

/-! ### Resources in another order -/
theorem Own.sel {w0 : World} {M : Nat → Prop} {L : List Res} {w : World} (h : Own w0 M L w) (is : List Nat) (hn : is.Nodup) : Own w0 M (is.filterMap fun i => L[i]?) w := by
  have hap := List.pairwise_iff_getElem.1 h.apart
  refine ⟨h.kp, fun r hr => ?_, ?_, fun r hr => ?_⟩
  · obtain ⟨i, _, hi⟩ := List.mem_filterMap.1 hr; exact h.all r (List.mem_of_getElem? hi)
  · rw [List.pairwise_filterMap]
    refine hn.imp fun {i j} hij r hr s hs k hk1 hk2 => ?_
    obtain ⟨h1, rfl⟩ := List.getElem?_eq_some_iff.1 hr
    obtain ⟨h2, rfl⟩ := List.getElem?_eq_some_iff.1 hs
    rcases Nat.lt_or_gt_of_ne hij with hlt | hlt
    · exact hap i j h1 h2 hlt k hk1 hk2
    · exact hap j i h2 h1 hlt k hk2 hk1
  · obtain ⟨i, _, hi⟩ := List.mem_filterMap.1 hr; exact h.home r (List.mem_of_getElem? hi)

/-- What a call is given to work on. -/
theorem Own.of {w : World} {M : Nat → Prop} {L : List Res} (hok : ∀ r ∈ L, r.ok w) (hap : L.Pairwise fun r s => ∀ k, r.fp k → ¬ s.fp k) (hh : ∀ r ∈ L, ∀ k, r.fp k → M k) : Own w M L w :=
  ⟨Kp.refl _ _, hok, hap, fun r hr k hk => .inr (hh r hr k hk)⟩

/-! ### Cells that are only read -/
/-- The cells of block b read as cs. -/
def Ro (b : Nat) (cs : List Value) (w : World) : Prop := ∀ off v, cs[off]? = some v → w.cell? ⟨b, off, none⟩ = some v

section
variable {w w0 w1 : World} {M : Nat → Prop} {L : List Res} {b : Nat} {cs : List Value}
theorem Ro.kp {w' : World} (h : Ro b cs w) (hk : Kp M w w') (hm : ¬ M b) : Ro b cs w' := fun off v hv => hk.cell (h off v hv) hm
theorem Ro.of_cel {t : TypeId} (hO : Own w0 M L w) (j : Nat) (hj : L[j]? = some (cel b cs.toArray t)) : Ro b cs w := fun off v hv => hO.cell j hj off (by simpa using hv)
theorem ldr {S : World → Prop} (H : ∀ x, S x → Own w0 M L x) (h : Ro b cs w0) (hm : ¬ M b) (off : Nat) {v : Value} (hv : cs[off]? = some v) : (Req.ld ⟨b, off, none⟩ v).ok P S :=
  fun w' hE => (h.kp (H w' hE).kp hm) off v hv
theorem ldsr {S : World → Prop} (H : ∀ x, S x → Own w0 M L x) (h : Ro b cs w0) (hm : ¬ M b) (off : Nat) {vs : List Value} (hv : (cs.drop off).take vs.length = vs) : (Req.lds ⟨b, off, none⟩ vs).ok P S := by
  intro w' hE i v hi
  have hlt : i < vs.length := (List.getElem?_eq_some_iff.1 hi).1
  rw [add_own]
  refine (h.kp (H w' hE).kp hm) (off + i) v ?_
  rw [← hv] at hi
  rw [List.getElem?_take_of_lt hlt, List.getElem?_drop] at hi
  exact hi
/-- An array of whole numbers among them. -/
theorem ldfr {S : World → Prop} (H : ∀ x, S x → Own w0 M L x) {off n : Nat} {pre post : List Value} {f : Nat → Int} (h : Ro b (pre ++ fcells n f ++ post) w0) (hm : ¬ M b) (hoff : pre.length = off) {i : Int} (h0 : 0 ≤ i) (h1 : i < n) :
    (Req.ld ((⟨b, off, none⟩ : Addr).add (i.toNat * 1)) (.int .i64 (f i.toNat))).ok P S := by
  intro w' hE
  rw [add_own]
  refine (h.kp (H w' hE).kp hm) _ _ ?_
  subst hoff
  have hi : i.toNat < n := by omega
  rw [Nat.mul_one, List.append_assoc, List.getElem?_append_right (Nat.le_add_right _ _), Nat.add_sub_cancel_left, List.getElem?_append_left (by rw [fcells_length]; exact hi)]
  exact fcells_at hi
end

/-! ### Changes of maps -/
section
variable {n : Nat} {ds : List Deferred} {F : List (Nat × Value)} {a : Act} {ops : Array Oper} {i : Nat} {K : Act → World → Prop} {w w0 : World} {M : Nat → Prop} {L : List Res} {t k e : TypeId} {z : Value} {b : Nat} {f : Int × Int → Option Value} {x : Int × Int}

theorem op_mupd {v : Value} (ht : mapTy P t k e z) (hF : Fr n ds F a) (hO : Own w0 M L w) (he : dec n ops i F = some (.mupd t (.map (some b)) (slv x) v)) (j : Nat) (hj : L[j]? = some (mapS b f))
    (h : ∀ a' w', Fr n ds F a' → Own w0 M (L.set j (mapS b (updm f x v))) w' → Kp (· = b) w w' → K a' w') : opX P rn ops i K a w := by
  obtain ⟨w', hr, hok, hk⟩ := update_mapS ht (hO.get j hj) v
  refine op_skip (w' := w') he hF rfl ?_ fun a' hf => h a' w' hf (hO.upd j hj hk hok (fun k hk => .inl hk)) hk
  simp [NOp.sem, Sem.run_bind, hr, Result.andThen, Sem.run, pure]

theorem op_ment {d : Nat} (ht : mapTy P t k e z) (hF : Fr n ds F a) (hO : Own w0 M L w) (he : dec n ops i F = some (.ment t (.map (some b)) (slv x) d)) (j : Nat) (hj : L[j]? = some (mapS b f))
    (h : ∀ a' w' (s : Nat), Fr n ds ((d, .tuple #[(f x).getD z, .int .i64 s]) :: F) a' → Own w0 M (L.set j (mapE b (updm f x ((f x).getD z)) x s)) w' → Kp (· = b) w w' → K a' w') : opX P rn ops i K a w := by
  obtain ⟨w', s, hr, hok, hk⟩ := entry_mapS ht (hO.get j hj)
  refine op_val (w' := w') he hF ?_ fun a' hf => h a' w' s hf (hO.upd j hj hk hok (fun k hk => .inl hk)) hk
  simp [NOp.sem, Sem.run_bind, hr, Result.andThen, Sem.run, pure]

theorem op_esto {v : Value} {s : Nat} (hF : Fr n ds F a) (hO : Own w0 M L w) (he : dec n ops i F = some (.esto t (.map (some b)) (.int .i64 s) v)) (j : Nat) (hj : L[j]? = some (mapE b f x s))
    (h : ∀ a' w', Fr n ds F a' → Own w0 M (L.set j (mapS b (updm f x v))) w' → Kp (· = b) w w' → K a' w') : opX P rn ops i K a w := by
  obtain ⟨w', hr, hok, hk⟩ := store_mapE (P := P) (t := t) (hO.get j hj) v
  refine op_skip (w' := w') he hF rfl ?_ fun a' hf => h a' w' hf (hO.upd j hj hk hok (fun k hk => .inl hk)) hk
  simp [NOp.sem, Sem.run_bind, hr, Result.andThen, Sem.run, pure]

theorem op_mmapS {d : Nat} (hF : Fr n ds F a) (hO : Own w0 M L w) (he : dec n ops i F = some (.mmap t d))
    (h : ∀ a' w' b, Fr n ds ((d, .map (some b)) :: F) a' → Own w0 M (L ++ [mapS b fun _ => none]) w' → Ext w w' ∧ w.heap.size ≤ b → K a' w') : opX P rn ops i K a w := by
  refine op_val (w' := w.alloc (.map #[] 0)) (v := .map (some w.heap.size)) he hF ?_ fun a' hf => h a' _ _ hf (hO.add (Ext.alloc w _) (r := mapS w.heap.size fun _ => none) ⟨_, _, heap_alloc_new w _, mapOk_empty⟩ (fun k hk => by simp only [mapS] at hk; omega)) ⟨Ext.alloc w _, Nat.le_refl _⟩
  simp only [NOp.sem, Instr.makeMap]
  simp [Sem.run_bind, Result.andThen, Sem.run, pure]
end

/-! ### A range over a function -/
/-- yield, called in this world with this value: the round's answer and what it leaves. -/
def Yields (P : Program) (l : Nat) (arg : Value) (w : World) (R : Bool → World → Prop) : Prop :=
  ∃ f tmps assign body, (Instr.yield l #[arg]).run P w = .ok (.round l f tmps assign body) w ∧ RoundIn (FW none) 0 P l f tmps assign body w (fun e w' => ∃ b, e = .returned (.bool b) ∧ R b w')

theorem op_yield {n : Nat} {ds : List Deferred} {F : List (Nat × Value)} {a : Act} {ops : Array Oper} {i l : Nat} {arg : Value} {d : Option Nat} {K : Act → World → Prop} {w : World} {R : Bool → World → Prop} (hF : Fr n ds F a)
    (he : dec n ops i F = some (.yld l [arg] d)) (hy : Yields P l arg w R) (k : ∀ b a' w', R b w' → Fr n ds (putF F d (.bool b)) a' → K a' w') : opX P rn ops i K a w := by
  obtain ⟨o, ho, hw, hs, hd, hf⟩ := dec_ok hF he
  obtain ⟨f, tmps, assign, body, hr, hround⟩ := hy
  unfold opX
  simp only [ho, hw, if_true, hs, NOp.sem, hr, uponX]
  refine (roundIn_FW hround).mono fun e w' ⟨b, hb, hR⟩ => ?_
  exact ⟨_, hb, k b _ w' hR (hf _)⟩

/-- The record of the loop. -/
def loopR (st : LoopState) (pend : Option Code) (fn : FuncId) (tmps : Array Value) (ps : Array Tmp) (assign body : Code) (D : Nat) : Loop := { state := st, pending := pend, fn, tmps, params := ps, assign, body, defers := D }

/-- A round, out of its body's walk. -/
theorem yields_of {l : Nat} {w : World} {fn : FuncId} {tmps : Array Value} {t : Tmp} {assign body : Code} {D : Nat} {arg : Value} {R : Bool → World → Prop}
    (hl : w.heap[l]? = some (.loop (loopR .ready none fn tmps #[t] assign body D)))
    (h : W (some l) P assign (fun e a₁ w₁ => e = .normal ∧ ∃ w₂, (Instr.beginRound l).run P w₁ = .ok () w₂ ∧ W (some l) P body (roundPost P l (fun e w' => ∃ b, e = .returned (.bool b) ∧ R b w')) a₁ w₂) { tmps := tmps.setIfInBounds t arg, defers := [] } w) :
    Yields P l arg w R := by
  refine ⟨fn, tmps.setIfInBounds t arg, assign, body, ?_, ?_⟩
  · have := run_yield (P := P) (args := #[arg]) hl rfl
    simpa [loopR] using this
  · refine roundIn_of_wpIn (F := FW none) (n := 0) trivial ?_
    refine wpIn_mono h fun e a w he => ?_
    obtain ⟨rfl, h2⟩ := he
    exact h2

theorem run_callFunc {f : FuncId} {fn : Func} (hfn : P.funcs[f]? = some fn) (hb : fn.body.isSome = true) (hn : (fn.name == "runtime.NumGoroutine") = false) (args : Array Value) (w : World) : (callFunc f args).run P w = .ok (.enter f args) w := by
  have hb2 : fn.body.isNone = false := by cases hbb : fn.body <;> simp_all
  unfold callFunc
  simp only [Sem.run_bind, program, Sem.run, Result.andThen, hfn]
  simp [hn, hb2, Sem.run, pure]

/-- The mark of a block for the rounds' deferred calls. -/
def mk (D : Nat) : Deferred := { target := .collected D, args := #[] }

/-- The statement. -/
theorem W_range {g : Operand} {t : Tmp} {assign body : Code} {Q : Exit → Act → World → Prop} {a : Act} {w w0 : World} {n : Nat} {ds : List Deferred} {F : List (Nat × Value)} {M : Nat → Prop} {L : List Res} {tb : Tbl} {f : FuncId} {fst cap : Array Value} (ht : Tbl.ok P tb = true)
    (hF : Fr n ds F a) (hO : Own w0 M L w) (hfn : tb.fns.elem f = true) (hg : lkG [] F [] g = some (.func (.func f) fst cap))
    (h : ∀ fn w1 D r, r = loopR .ready none fn a.tmps #[t] assign body D → Own w0 M (L ++ [pt D (.deferred (some [])), pt (D + 1) (.loop r)]) w1 → Ext w w1 →
      Calls P f (fst ++ #[.func (.yield (D + 1)) #[] #[]] ++ cap) w1 fun e w2 => ∃ v, e = .returned v ∧ ∃ r, w2.heap[D + 1]? = some (.loop r) ∧ r.state ≠ .busy ∧
        ((r.pending = none ∧ ∀ a', Fr n (mk D :: ds) F a' → Q .normal a' (w2.putObj (D + 1) (.loop { r with state := .exhausted }))) ∨
         (r.pending = some .ret ∧ ∀ a', Fr n (mk D :: ds) F a' → Q .ret a' (w2.putObj (D + 1) (.loop { r with state := .exhausted }))))) :
    W none P (.rangeFunc g #[t] assign body) Q a w := by
  refine wpIn_rangeFunc (F := FW none) (n := 0) fun fn _ => ?_
  have hev : a.eval g = .func (.func f) fst cap := evOp hF hg
  obtain ⟨fnc, hfnc, hbody, hname⟩ := Tbl.fn_ok ht (List.elem_iff.1 hfn)
  let w1 := (w.alloc (.deferred (some []))).alloc (.loop (loopR .ready none fn a.tmps #[t] assign body w.heap.size))
  have hE : Ext w w1 := (Ext.alloc w _).trans (Ext.alloc _ _)
  have hO1 : Own w0 M (L ++ [pt w.heap.size (.deferred (some [])), pt (w.heap.size + 1) (.loop (loopR .ready none fn a.tmps #[t] assign body w.heap.size))]) w1 := by
    have h1 := hO.add (Ext.alloc w (.deferred (some []))) (pt_new w _) (fun k hk => by simp only [pt] at hk; omega)
    have h2 := h1.add (Ext.alloc _ (.loop (loopR .ready none fn a.tmps #[t] assign body w.heap.size))) (pt_new _ _) (fun k hk => by simp only [pt] at hk; omega)
    simpa using h2
  refine ⟨w.heap.size + 1, [mk w.heap.size], w1, { target := .fn (.func f) cap, args := fst ++ #[.func (.yield (w.heap.size + 1)) #[] #[]] }, w1, f, fst ++ #[.func (.yield (w.heap.size + 1)) #[] #[]] ++ cap, w1, run_enterLoop_outer fn a.tmps #[t] assign body, ?_, fun _ _ => trivial, ?_, FW_depth _ _, callsIn_FW.2 ?_⟩
  · have e0 : (#[.const (.func (.yield (w.heap.size + 1)) #[] #[])] : Array Operand).map a.eval = #[.func (.yield (w.heap.size + 1)) #[] #[]] := by simp [Act.eval]
    simp only [resolve, rangeCall, hev, Deferred.ofValue, e0]
    rfl
  · simp only [invoke]
    exact run_callFunc hfnc hbody hname _ _
  · refine (h fn w1 w.heap.size _ rfl hO1 hE).mono fun e w2 ⟨v, he, r, hr, hs, hk⟩ => ?_
    subst he
    refine ⟨r.pending, _, run_endLoop hr hs, ?_⟩
    have hf' : Fr n (mk w.heap.size :: ds) F { a with defers := [mk w.heap.size] ++ a.defers } := ⟨hF.size, by simp [hF.defers], hF.get⟩
    rcases hk with ⟨hp, hk⟩ | ⟨hp, hk⟩
    · have h1 := hk _ hf'; rw [hp] at h1; rw [hp]; exact h1
    · have h1 := hk _ hf'; rw [hp] at h1; rw [hp]; exact W_ret h1

/-! ### The steps of a range, told of what is owned -/
section
variable {w0 w : World} {M : Nat → Prop} {L : List Res}

theorem Own.put {b : Nat} {o : Obj} (hO : Own w0 M L w) (j : Nat) (hj : L[j]? = some (pt b o)) (o' : Obj) : Own w0 M (L.set j (pt b o')) (w.putObj b o') := by
  have hb : w.heap[b]? = some o := hO.get j hj
  exact hO.upd j hj (r' := pt b o') (Kp_put) (World.putObj_heap_same (obj_lt hb)) (fun k hk => .inl hk)

theorem begin_round {l : Nat} {r : Loop} (hO : Own w0 M L w) (j : Nat) (hj : L[j]? = some (pt l (.loop r))) (hr : r.state = .ready) : ∃ w', (Instr.beginRound l).run P w = .ok () w' ∧ Own w0 M (L.set j (pt l (.loop { r with state := .busy }))) w' :=
  ⟨_, run_beginRound (hO.get j hj) hr, hO.put j hj _⟩
theorem end_round {l : Nat} {r : Loop} (jump : Option Code) (hO : Own w0 M L w) (j : Nat) (hj : L[j]? = some (pt l (.loop r))) : ∃ w', (Instr.endRound l jump).run P w = .ok (.bool jump.isNone) w' ∧ Own w0 M (L.set j (pt l (.loop { r with state := if jump.isNone then .ready else .done, pending := jump }))) w' :=
  ⟨_, run_endRound jump (hO.get j hj), hO.put j hj _⟩

theorem Fr.round {n : Nat} {ds : List Deferred} {F : List (Nat × Value)} {a : Act} (h : Fr n ds F a) {t : Nat} (ht : Nat.blt t n = true) (v : Value) : Fr n [] ((t, v) :: F) { tmps := a.tmps.setIfInBounds t v, defers := [] } := by
  have := (h.put (Nat.le_of_ble_eq_true ht) v)
  exact ⟨this.size, rfl, this.get⟩

theorem shut1 {D : Nat} (hO : Own w0 M L w) (j : Nat) (hj : L[j]? = some (pt D (.deferred (some [])))) : ∃ w', Shut [mk D] w w' ∧ Own w0 M (L.set j (pt D (.deferred none))) w' :=
  ⟨_, .cons (hO.get j hj) (.nil _), hO.put j hj _⟩

/-- The blocks for deferred calls of several ranges. -/
def dfs (Ds : List Nat) : Res where
  fp k := k ∈ Ds
  ok w := Ds.Nodup ∧ ∀ D ∈ Ds, w.heap[D]? = some (.deferred (some []))
  loc w w' h hw := ⟨hw.1, fun D hD => (h D hD).trans (hw.2 D hD)⟩
  lt w hw k hk := obj_lt (hw.2 k hk)

theorem Own.dfs0 (hO : Own w0 M L w) : Own w0 M (L ++ [dfs []]) w :=
  hO.add (Kp.refl _ _) (r := dfs []) ⟨List.nodup_nil, by simp⟩ (by simp [dfs])

/-- Nothing. -/
def nul : Res where
  fp _ := False
  ok _ := True
  loc _ _ _ _ := trivial
  lt _ _ _ h := h.elim

theorem Own.absorb {Ds : List Nat} {D : Nat} (hO : Own w0 M L w) (i j : Nat) (hi : L[i]? = some (dfs Ds)) (hj : L[j]? = some (pt D (.deferred (some [])))) (hij : i ≠ j) : Own w0 M (((L.set i (dfs (D :: Ds))).set j nul).eraseIdx j) w := by
  refine Own.drop1 ?_ j
  have hap := List.pairwise_iff_getElem.1 hO.apart
  obtain ⟨hil, hLi⟩ := List.getElem?_eq_some_iff.1 hi
  obtain ⟨hjl, hLj⟩ := List.getElem?_eq_some_iff.1 hj
  have hd := hO.get i hi
  have hp := hO.get j hj
  have apart : ∀ a b (ha : a < L.length) (hb : b < L.length), a ≠ b → ∀ k, L[a].fp k → ¬ L[b].fp k := by
    intro a b ha hb hne k h1 h2
    rcases Nat.lt_or_gt_of_ne hne with h | h
    · exact hap a b ha hb h k h1 h2
    · exact hap b a hb ha h k h2 h1
  have hDn : D ∉ Ds := fun hm => apart i j hil hjl hij D (by rw [hLi]; exact hm) (by rw [hLj]; rfl)
  have at_ : ∀ a (ha : a < ((L.set i (dfs (D :: Ds))).set j nul).length) (hal : a < L.length), ((L.set i (dfs (D :: Ds))).set j nul)[a] = if a = j then nul else if a = i then dfs (D :: Ds) else L[a] := by
    intro a ha hal
    by_cases e : a = j
    · subst e; simp
    · rw [List.getElem_set_ne (Ne.symm e), if_neg e]
      by_cases e2 : a = i
      · subst e2; simp
      · rw [List.getElem_set_ne (Ne.symm e2), if_neg e2]
  refine ⟨hO.kp, ?_, ?_, ?_⟩
  · intro r hr
    obtain ⟨a, ha, rfl⟩ := List.mem_iff_getElem.1 hr
    have hal : a < L.length := by simpa using ha
    rw [at_ a ha hal]
    split
    · exact trivial
    · split
      · refine ⟨List.nodup_cons.2 ⟨hDn, hd.1⟩, fun E hE => ?_⟩
        rcases List.mem_cons.1 hE with rfl | hE
        · exact hp
        · exact hd.2 E hE
      · exact hO.all _ (List.getElem_mem hal)
  · rw [List.pairwise_iff_getElem]
    intro a b ha hb hlt k hk1 hk2
    have hal : a < L.length := by simpa using ha
    have hbl : b < L.length := by simpa using hb
    rw [at_ a ha hal] at hk1
    rw [at_ b hb hbl] at hk2
    split at hk1
    · exact hk1
    · rename_i haj
      split at hk2
      · exact hk2
      · rename_i hbj
        split at hk1
        · rename_i hai
          split at hk2
          · rename_i hbi; omega
          · rename_i hbi
            rcases List.mem_cons.1 hk1 with rfl | hk1
            · exact apart b j hbl hjl hbj _ hk2 (by rw [hLj]; rfl)
            · exact apart b i hbl hil hbi k hk2 (by rw [hLi]; exact hk1)
        · rename_i hai
          split at hk2
          · rcases List.mem_cons.1 hk2 with rfl | hk2
            · exact apart a j hal hjl haj _ hk1 (by rw [hLj]; rfl)
            · exact apart a i hal hil hai k hk1 (by rw [hLi]; exact hk2)
          · exact apart a b hal hbl (by omega) k hk1 hk2
  · intro r hr k hk
    obtain ⟨a, ha, rfl⟩ := List.mem_iff_getElem.1 hr
    have hal : a < L.length := by simpa using ha
    rw [at_ a ha hal] at hk
    split at hk
    · exact hk.elim
    · split at hk
      · rcases List.mem_cons.1 hk with rfl | hk
        · exact hO.home _ (List.getElem_mem hjl) k (by rw [hLj]; rfl)
        · exact hO.home _ (List.getElem_mem hil) k (by rw [hLi]; exact hk)
      · exact hO.home _ (List.getElem_mem hal) k hk

theorem shuts : ∀ (Ds : List Nat) {L : List Res} {w : World}, Own w0 M L w → ∀ (j : Nat), L[j]? = some (dfs Ds) → ∃ w', Shut (Ds.map mk) w w' ∧ Own w0 M (L.set j (dfs [])) w'
  | [], L, w, hO, j, hj => ⟨w, .nil w, hO.upd j hj (r' := dfs []) (Kp.refl _ _) ⟨List.nodup_nil, by simp⟩ (by simp [dfs])⟩
  | D :: Ds, L, w, hO, j, hj => by
    have hd := hO.get j hj
    have hD : w.heap[D]? = some (.deferred (some [])) := hd.2 D (by simp)
    have hnd := List.nodup_cons.1 hd.1
    have hO2 : Own w0 M (L.set j (dfs Ds)) (w.putObj D (.deferred none)) := by
      refine hO.upd j hj (r' := dfs Ds) ⟨rfl, rfl, rfl, by simp, fun k hk hm => World.putObj_heap_other fun h => hm (by subst h; simp [dfs])⟩ ⟨hnd.2, fun E hE => ?_⟩ (fun k hk => .inl (by simp only [dfs] at hk ⊢; exact List.mem_cons_of_mem _ hk))
      rw [World.putObj_heap_other (by intro h; subst h; exact hnd.1 hE)]
      exact hd.2 E (List.mem_cons_of_mem _ hE)
    have hjl : j < L.length := (List.getElem?_eq_some_iff.1 hj).1
    obtain ⟨w', hs, hO3⟩ := shuts Ds hO2 j (by simp [hjl])
    exact ⟨w', .cons hD hs, by simpa using hO3⟩
end

end Go.Proofs.Ytioimdegbdkppaa.DK
