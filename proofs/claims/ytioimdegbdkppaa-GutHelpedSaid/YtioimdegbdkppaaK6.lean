/- Operations that make or change memory. -/
import Derived.Test.YtioimdegbdkppaaK5
namespace Go.Proofs.Ytioimdegbdkppaa.DK
open Go
set_option linter.unusedSimpArgs false
set_option linter.unusedVariables false

variable {P : Program} {rn : Option Nat}

inductive NOp where
  | box (t : TypeId) (v : Value) (d : Nat)
  | alloc (t : TypeId) (d : Nat)
  | store (t : TypeId) (p : Value) (v : Value)
  | bsl (t : TypeId) (len : Nat) (ps : List (Nat × Value)) (d : Nat)
  | msl (t : TypeId) (l c : Value) (d : Nat)
  | mmap (t : TypeId) (d : Nat)
  | app (tys : Array TypeId) (ty : TypeId) (args : List Value) (d : Nat)
  | cpy (tys : Array TypeId) (ty : TypeId) (args : List Value) (d : Option Nat)
  | mupd (t : TypeId) (m k v : Value)
  | ment (t : TypeId) (m k : Value) (d : Nat)
  | esto (t : TypeId) (m s v : Value)
  | call (f : FuncId) (args : Array Value) (d : Option Nat)
  | yld (l : Nat) (args : List Value) (d : Option Nat)

def NOp.dst : NOp → Option Tmp
  | .box _ _ d | .alloc _ d | .bsl _ _ _ d | .msl _ _ _ d | .mmap _ d | .app _ _ _ d | .ment _ _ _ d => some d
  | .call _ _ d | .cpy _ _ _ d | .yld _ _ d => d
  | _ => none

def NOp.sem : NOp → Sem Next
  | .box t v _ => do pure (.value (← Instr.box t v))
  | .alloc t _ => do pure (.value (← Instr.alloc t true (.tuple #[])))
  | .store t p v => do Instr.storeAt t p v; pure .skip
  | .bsl t len ps _ => do pure (.value (← Instr.buildSlice t len ps.toArray))
  | .msl t l c _ => do pure (.value (← Instr.makeSlice t l c))
  | .mmap t _ => do pure (.value (← Instr.makeMap t none))
  | .app tys ty args _ => do pure (.value (← Builtin.append_ tys ty args.toArray))
  | .cpy tys ty args _ => do pure (.value (← Builtin.copy_ tys ty args.toArray))
  | .mupd t m k v => do Instr.mapUpdate t m k v; pure .skip
  | .ment t m k _ => do pure (.value (← Instr.mapEntry t m k))
  | .esto t m s v => do Instr.entryStore t m s v; pure .skip
  | .call f args _ => callFunc f args
  | .yld l args _ => Instr.yield l args.toArray

def decOp (F : List (Nat × Value)) (o : Oper) : Option NOp :=
  match o.op, o.dst with
  | .box t x, some d => (lkG [] F [] x).map fun v => .box t v d
  | .alloc t, some d => some (.alloc t d)
  | .store t p x, none => match lkG [] F [] p, lkG [] F [] x with
    | some u, some v => some (.store t u v)
    | _, _ => none
  | .buildSlice t len parts, some d => (mapP (lkG [] F []) parts.toList).map fun ps => .bsl t len ps d
  | .makeSlice t l c, some d => match lkG [] F [] l, lkG [] F [] c with
    | some u, some v => some (.msl t u v d)
    | _, _ => none
  | .makeMap t none, some d => some (.mmap t d)
  | .call { callee := .builtin .append, args, argTypes }, some d => (mapO (lkG [] F []) args.toList).map fun vs => .app argTypes o.type vs d
  | .call { callee := .builtin .copy, args, argTypes }, d => (mapO (lkG [] F []) args.toList).map fun vs => .cpy argTypes o.type vs d
  | .mapUpdate t m k x, none => match lkG [] F [] m, lkG [] F [] k, lkG [] F [] x with
    | some u, some v, some y => some (.mupd t u v y)
    | _, _, _ => none
  | .mapEntry t m k, some d => match lkG [] F [] m, lkG [] F [] k with
    | some u, some v => some (.ment t u v d)
    | _, _ => none
  | .entryStore t m s x, none => match lkG [] F [] m, lkG [] F [] s, lkG [] F [] x with
    | some u, some v, some y => some (.esto t u v y)
    | _, _, _ => none
  | .call { callee := .value f, args, .. }, d => match lkG [] F [] f, mapO (lkG [] F []) args.toList with
    | some (.func (.func g) fst cap), some vs => some (.call g (fst ++ vs.toArray ++ cap) d)
    | some (.func (.yield l) fst _), some vs => some (.yld l (fst.toList ++ vs) d)
    | _, _ => none
  | _, _ => none

def dec (n : Nat) (ops : Array Oper) (i : Nat) (F : List (Nat × Value)) : Option NOp :=
  match ops[i]? with
  | some o => match gd {} ops F [] o with
    | some (.lit true) => cond (dstF n ops [] [] o.dst) (decOp F o) none
    | _ => none
  | none => none

theorem decOp_ok {n : Nat} {ds : List Deferred} {F : List (Nat × Value)} {a : Act} (h : Fr n ds F a) {o : Oper} {x : NOp} (he : decOp F o = some x) : execOp a.eval o = x.sem ∧ o.dst = x.dst := by
  have hO : ∀ x v, lkG [] F [] x = some v → a.eval x = v := fun x v hv => lkG_ok (ops := #[]) (B := []) h.fg (by rfl) x v hv
  have hm : ∀ {xs : List Operand} {vs : List Value}, mapO (lkG [] F []) xs = some vs → xs.map a.eval = vs := fun hx => mapO_ok (fun x _ v hv => hO x v hv) hx
  unfold decOp at he
  split at he
  · rename_i hop hd; simp only [Option.map_eq_some_iff] at he; obtain ⟨v, hv, rfl⟩ := he; exact ⟨by unfold execOp; simp only [hop, hO _ _ hv, NOp.sem], hd⟩
  · rename_i hop hd; cases he; exact ⟨by unfold execOp; simp only [hop, NOp.sem], hd⟩
  · rename_i hop hd
    split at he
    · rename_i u v hu hv; cases he; exact ⟨by unfold execOp; simp only [hop, hO _ _ hu, hO _ _ hv, NOp.sem], hd⟩
    · cases he
  · rename_i t len parts d hop hd
    simp only [Option.map_eq_some_iff] at he; obtain ⟨ps, hps, rfl⟩ := he
    refine ⟨?_, hd⟩
    have := mapP_ok (a := a) (fun x _ v hv => hO x.2 v hv) hps
    have e : (parts.map fun (x : Nat × Operand) => (x.1, a.eval x.2)) = ps.toArray := by rw [← this, ← Array.toList_map, Array.toArray_toList]
    unfold execOp
    simp only [hop, NOp.sem]
    rw [← e]
  · rename_i hop hd
    split at he
    · rename_i u v hu hv; cases he; exact ⟨by unfold execOp; simp only [hop, hO _ _ hu, hO _ _ hv, NOp.sem], hd⟩
    · cases he
  · rename_i hop hd; cases he; exact ⟨by unfold execOp; simp only [hop, NOp.sem, Option.map_none], hd⟩
  · rename_i args tys d hop hd
    simp only [Option.map_eq_some_iff] at he; obtain ⟨vs, hvs, rfl⟩ := he
    refine ⟨?_, hd⟩
    have e : args.map a.eval = vs.toArray := by rw [← hm hvs, ← Array.toList_map, Array.toArray_toList]
    unfold execOp
    simp [hop, NOp.sem, resolve, invoke, builtin, e, pure, bind, Sem.bind]
  · rename_i d0 args tys hop
    simp only [Option.map_eq_some_iff] at he; obtain ⟨vs, hvs, rfl⟩ := he
    refine ⟨?_, rfl⟩
    have e : args.map a.eval = vs.toArray := by rw [← hm hvs, ← Array.toList_map, Array.toArray_toList]
    unfold execOp
    simp [hop, NOp.sem, resolve, invoke, builtin, e, pure, bind, Sem.bind]
  · rename_i hop hd
    split at he
    · rename_i u v y hu hv hy; cases he; exact ⟨by unfold execOp; simp only [hop, hO _ _ hu, hO _ _ hv, hO _ _ hy, NOp.sem], hd⟩
    · cases he
  · rename_i hop hd
    split at he
    · rename_i u v hu hv; cases he; exact ⟨by unfold execOp; simp only [hop, hO _ _ hu, hO _ _ hv, NOp.sem], hd⟩
    · cases he
  · rename_i hop hd
    split at he
    · rename_i u v y hu hv hy; cases he; exact ⟨by unfold execOp; simp only [hop, hO _ _ hu, hO _ _ hv, hO _ _ hy, NOp.sem], hd⟩
    · cases he
  · rename_i d0 f args tys hop
    split at he
    · rename_i g fst cap vs hf hvs
      cases he
      refine ⟨?_, rfl⟩
      have e : args.map a.eval = vs.toArray := by rw [← hm hvs, ← Array.toList_map, Array.toArray_toList]
      unfold execOp
      simp only [hop, NOp.sem, resolve, e, hO _ _ hf, Deferred.ofValue, invoke]
      rfl
    · rename_i l fst cap vs hf hvs
      cases he
      refine ⟨?_, rfl⟩
      have e : args.map a.eval = vs.toArray := by rw [← hm hvs, ← Array.toList_map, Array.toArray_toList]
      have e2 : fst ++ vs.toArray = (fst.toList ++ vs).toArray := by simp
      unfold execOp
      simp only [hop, NOp.sem, resolve, e, hO _ _ hf, Deferred.ofValue, invoke, ← e2]
      rfl
    · cases he
  · cases he

theorem dec_ok {n : Nat} {ds : List Deferred} {F : List (Nat × Value)} {a : Act} (h : Fr n ds F a) {ops : Array Oper} {i : Nat} {x : NOp} (he : dec n ops i F = some x) :
    ∃ o, ops[i]? = some o ∧ Region.wanted o (yielded ops a.tmps) = true ∧ execOp a.eval o = x.sem ∧ o.dst = x.dst ∧ ∀ v, Fr n ds (putF F x.dst v) (a.put o.dst v) := by
  unfold dec at he
  split at he
  · rename_i o ho
    split at he
    · rename_i hg
      cases hd : dstF n ops [] [] o.dst with
      | false => rw [hd] at he; cases he
      | true =>
        rw [hd] at he
        obtain ⟨h1, h2⟩ := decOp_ok h he
        refine ⟨o, ho, gd_ok h.fg hg, h1, h2, fun v => ?_⟩
        rw [← h2]
        exact (h.fg.putF hd v).fr
    · cases he
  · cases he

theorem op_val {n : Nat} {ds : List Deferred} {F : List (Nat × Value)} {a : Act} {ops : Array Oper} {i : Nat} {x : NOp} {K : Act → World → Prop} {w w' : World} {v : Value} (he : dec n ops i F = some x) (h : Fr n ds F a)
    (hr : x.sem.run P w = .ok (.value v) w') (k : ∀ a', Fr n ds (putF F x.dst v) a' → K a' w') : opX P rn ops i K a w := by
  obtain ⟨o, ho, hw, hs, hd, hf⟩ := dec_ok h he
  unfold opX
  simp only [ho, hw, if_true, hs, hr, uponX]
  exact k _ (hf v)

theorem op_skip {n : Nat} {ds : List Deferred} {F : List (Nat × Value)} {a : Act} {ops : Array Oper} {i : Nat} {x : NOp} {K : Act → World → Prop} {w w' : World} (he : dec n ops i F = some x) (h : Fr n ds F a) (hx : x.dst = none)
    (hr : x.sem.run P w = .ok .skip w') (k : ∀ a', Fr n ds F a' → K a' w') : opX P rn ops i K a w := by
  obtain ⟨o, ho, hw, hs, hd, hf⟩ := dec_ok h he
  unfold opX
  simp only [ho, hw, if_true, hs, hr, uponX]
  have := hf undef
  rw [hx] at this
  exact k _ this

theorem op_call {n : Nat} {ds : List Deferred} {F : List (Nat × Value)} {a : Act} {ops : Array Oper} {i : Nat} {f : FuncId} {args : Array Value} {d : Option Nat} {K : Act → World → Prop} {w : World} {R : Ending → World → Prop} {tb : Tbl} (ht : Tbl.ok P tb = true) (hfn : tb.fns.elem f = true)
    (h : Fr n ds F a) (he : dec n ops i F = some (.call f args d)) (hc : Calls P f args w R) (k : ∀ e w', R e w' → ∃ v, e = .returned v ∧ ∀ a', Fr n ds (putF F d v) a' → K a' w') : opX P rn ops i K a w := by
  obtain ⟨o, ho, hw, hs, hd, hf⟩ := dec_ok h he
  obtain ⟨fn, hfn, hbody, hname⟩ := Tbl.fn_ok ht (List.elem_iff.1 hfn)
  have hb2 : fn.body.isNone = false := by cases hbb : fn.body <;> simp_all
  have hrun : (callFunc f args).run P w = .ok (.enter f args) w := by
    unfold callFunc
    simp only [Sem.run_bind, program, Sem.run, Result.andThen, hfn]
    simp [hname, hb2, Sem.run, pure]
  unfold opX
  simp only [ho, hw, if_true, hs, NOp.sem, hrun, uponX]
  refine hc.mono fun e w' hR => ?_
  obtain ⟨v, rfl, hk⟩ := k e w' hR
  exact ⟨v, rfl, hk _ (hf v)⟩

/-! ### New blocks -/
theorem pt_new (w : World) (o : Obj) : (pt w.heap.size o).ok (w.alloc o) := heap_alloc_new w o

section
variable {n : Nat} {ds : List Deferred} {F : List (Nat × Value)} {a : Act} {ops : Array Oper} {i : Nat} {K : Act → World → Prop} {w w0 : World} {M : Nat → Prop} {L : List Res}

theorem op_box {t : TypeId} {v : Value} {d : Nat} (hF : Fr n ds F a) (hO : Own w0 M L w) (he : dec n ops i F = some (.box t v d))
    (k : ∀ a' w' b, Fr n ds ((d, .pointer (some ⟨b, 0, none⟩)) :: F) a' → Own w0 M (L ++ [cel b v.cells t]) w' → Ext w w' ∧ w.heap.size ≤ b → K a' w') : opX P rn ops i K a w := by
  refine op_val (w' := w.alloc (.cells v.cells t)) (v := .pointer (some ⟨w.heap.size, 0, none⟩)) he hF ?_ fun a' hf => k a' _ _ hf (hO.add (Ext.alloc w _) (pt_new w _) (fun k hk => by simp only [pt] at hk; omega)) ⟨Ext.alloc w _, Nat.le_refl _⟩
  simp only [NOp.sem, Instr.box, newVar, newRow]
  simp [Sem.run_bind, Result.andThen, Sem.run, pure]

theorem op_alloc {t : TypeId} {d : Nat} {z : Value} (hF : Fr n ds F a) (hO : Own w0 M L w) (he : dec n ops i F = some (.alloc t d)) (hz : ((P.info? t).bind fun i => i.zero) = some z)
    (k : ∀ a' w' b, Fr n ds ((d, .pointer (some ⟨b, 0, none⟩)) :: F) a' → Own w0 M (L ++ [cel b z.cells t]) w' → Ext w w' ∧ w.heap.size ≤ b → K a' w') : opX P rn ops i K a w := by
  refine op_val (w' := w.alloc (.cells z.cells t)) (v := .pointer (some ⟨w.heap.size, 0, none⟩)) he hF ?_ fun a' hf => k a' _ _ hf (hO.add (Ext.alloc w _) (pt_new w _) (fun k hk => by simp only [pt] at hk; omega)) ⟨Ext.alloc w _, Nat.le_refl _⟩
  cases hi : P.info? t with
  | none => rw [hi] at hz; cases hz
  | some inf =>
    rw [hi] at hz
    simp only [Option.bind_some] at hz
    simp only [NOp.sem, Instr.alloc, zeroValue, newVar, newRow]
    simp [Sem.run_bind, run_typeInfo hi, hz, Result.andThen, Sem.run, pure]

theorem op_bsl {t e : TypeId} {len : Nat} {ps : List (Nat × Value)} {d : Nat} {z : Value} {sz : Nat} {cs : Array Value} (hF : Fr n ds F a) (hO : Own w0 M L w) (he : dec n ops i F = some (.bsl t len ps d))
    (ht : P.underlying t = some (.slice e)) (hi : ((P.info? e).bind fun i => i.zero.map fun z => (i.size, z)) = some (sz, z)) (hl : Nat.ble (len * sz) 16777216 = true)
    (hcs : Instr.fill (fun i => some (i * sz, sz)) ((Array.range (len * sz)).map (fun j => (if len * sz = 0 then (#[] : Array Value) else z.cells)[j % (if len * sz = 0 then (#[] : Array Value) else z.cells).size]!)) ps = some cs)
    (k : ∀ a' w' b, Fr n ds ((d, .slice (some ⟨b, 0, none⟩) len len) :: F) a' → Own w0 M (L ++ [cel b cs e]) w' → Ext w w' ∧ w.heap.size ≤ b → K a' w') : opX P rn ops i K a w := by
  refine op_val (w' := w.alloc (.cells cs e)) (v := .slice (some ⟨w.heap.size, 0, none⟩) len len) he hF ?_ fun a' hf => k a' _ _ hf (hO.add (Ext.alloc w _) (pt_new w _) (fun k hk => by simp only [pt] at hk; omega)) ⟨Ext.alloc w _, Nat.le_refl _⟩
  cases hinf : P.info? e with
  | none => rw [hinf] at hi; cases hi
  | some inf =>
    rw [hinf] at hi
    simp only [Option.bind_some, Option.map_eq_some_iff] at hi
    obtain ⟨z', hz, hzz⟩ := hi
    simp only [Prod.mk.injEq] at hzz
    obtain ⟨hs, rfl⟩ := hzz
    have hl' := Nat.le_of_ble_eq_true hl
    simp only [NOp.sem, Instr.buildSlice, zeroValue, newRow, sizeOf]
    simp only [Sem.run_bind, run_underlying ht, Result.andThen, run_typeInfo hinf, pure, Sem.run, hs]
    by_cases h0 : len * sz = 0
    · simp [h0] at hcs
      simp [h0, hcs, Sem.run, pure, Sem.run_bind, Result.andThen]
    · simp only [h0, if_false] at hcs
      have hle : ¬ (16777216 < len * sz) := by omega
      simp [h0, hcs, hle, Sem.run, pure, Sem.run_bind, Result.andThen, run_typeInfo hinf, hz]

theorem op_mmap {t : TypeId} {d : Nat} (hF : Fr n ds F a) (hO : Own w0 M L w) (he : dec n ops i F = some (.mmap t d))
    (k : ∀ a' w' b, Fr n ds ((d, .map (some b)) :: F) a' → Own w0 M (L ++ [pt b (.map #[] 0)]) w' → Ext w w' ∧ w.heap.size ≤ b → K a' w') : opX P rn ops i K a w := by
  refine op_val (w' := w.alloc (.map #[] 0)) (v := .map (some w.heap.size)) he hF ?_ fun a' hf => k a' _ _ hf (hO.add (Ext.alloc w _) (pt_new w _) (fun k hk => by simp only [pt] at hk; omega)) ⟨Ext.alloc w _, Nat.le_refl _⟩
  simp only [NOp.sem, Instr.makeMap]
  simp [Sem.run_bind, Result.andThen, Sem.run, pure]

/-! ### Stores -/
def wr (cs : Array Value) (off : Nat) : List Value → Array Value
  | [] => cs
  | v :: vs => wr (cs.setIfInBounds off v) (off + 1) vs

theorem size_wr (cs : Array Value) : ∀ (vs : List Value) (off : Nat) (cs : Array Value), (wr cs off vs).size = cs.size
  | [], off, cs => rfl
  | v :: vs, off, cs => by simp only [wr]; rw [size_wr cs vs]; simp

theorem run_storeCells {b : Nat} {t : TypeId} : ∀ (vs : List Value) (off j : Nat) (cs : Array Value) (w : World), w.heap[b]? = some (.cells cs t (0, 0)) → off + j + vs.length ≤ cs.size → (∀ v ∈ vs, v.oneCell' = true) →
    ∃ w', (storeCells ⟨b, off, none⟩ vs j).run P w = .ok () w' ∧ w'.heap[b]? = some (.cells (wr cs (off + j) vs) t (0, 0)) ∧ Kp (· = b) w w'
  | [], off, j, cs, w, hb, hl, h1 => ⟨w, by simp [storeCells, Sem.run, pure], hb, Kp.refl _ _⟩
  | v :: vs, off, j, cs, w, hb, hl, h1 => by
    have hadd : (⟨b, off, none⟩ : Addr).add j = ⟨b, off + j, none⟩ := by unfold Addr.add; split <;> simp_all
    have hlt : off + j < cs.size := by simp at hl; omega
    have hcell : w.cell? ⟨b, off + j, none⟩ = some cs[off + j] := by simp [World.cell?, hb, hlt]
    have hfz : w.frozen? ⟨b, off + j, none⟩ = false := by simp [World.frozen?, hb]
    have hb' : (w.setCell ⟨b, off + j, none⟩ v).heap[b]? = some (.cells (cs.setIfInBounds (off + j) v) t (0, 0)) := by
      have hbl := obj_lt hb
      have hbe : w.heap[b] = .cells cs t (0, 0) := by have := (Array.getElem?_eq_some_iff.1 hb).2; exact this
      simp only [World.setCell]
      rw [Array.getElem?_eq_getElem (by simpa using hbl), Array.getElem_modify_self, hbe]
      simp
    have hk1 : Kp (· = b) w (w.setCell ⟨b, off + j, none⟩ v) := ⟨rfl, rfl, rfl, by simp, fun k hk hm => Go.RowKit.Below.heap_setCell w _ _ k hm⟩
    obtain ⟨w', hr, hb2, hk2⟩ := run_storeCells vs off (j + 1) (cs.setIfInBounds (off + j) v) _ hb' (by simp at hl ⊢; omega) (fun u hu => h1 u (List.mem_cons_of_mem _ hu))
    refine ⟨w', ?_, by rw [show off + (j + 1) = off + j + 1 from rfl] at hb2; exact hb2, hk1.trans hk2⟩
    unfold storeCells
    rw [Sem.run_bind, hadd]
    have hv1 := h1 v (List.mem_cons_self ..)
    have hst : (store ⟨b, off + j, none⟩ v).run P w = .ok () (w.setCell ⟨b, off + j, none⟩ v) := by
      cases v <;> first | (simp only [store, Sem.run, hcell, hfz]; rfl) | (simp [Value.oneCell'] at hv1)
    rw [hst]
    exact hr

theorem op_store {t tc : TypeId} {p : Addr} {v : Value} {b off sz : Nat} {cs cs' : Array Value} (hF : Fr n ds F a) (hO : Own w0 M L w) (he : dec n ops i F = some (.store t (.pointer (some p)) v)) (j : Nat) (hj : L[j]? = some (cel b cs tc))
    (hp : p = ⟨b, off, none⟩) (hsz : ((P.info? t).map fun i => i.size) = some sz) (hs : (Nat.beq v.cells.size sz && Nat.ble (off + v.cells.size) cs.size && v.cells.toList.all Value.oneCell') = true) (hcs : wr cs off v.cells.toList = cs')
    (k : ∀ a' w', Fr n ds F a' → Own w0 M (L.set j (cel b cs' tc)) w' → Kp (· = b) w w' → K a' w') : opX P rn ops i K a w := by
  subst hp
  have hb := hO.get j hj
  simp only [pt] at hb
  simp only [Bool.and_eq_true, List.all_eq_true] at hs
  have hle := Nat.le_of_ble_eq_true hs.1.2
  have heq := Nat.eq_of_beq_eq_true hs.1.1
  obtain ⟨w', hr, hb', hk⟩ := run_storeCells (P := P) v.cells.toList off 0 cs w hb (by simpa using hle) hs.2
  simp only [Nat.add_zero] at hb'
  rw [hcs] at hb'
  refine op_skip (w' := w') he hF rfl ?_ fun a' hf => k a' w' hf (hO.upd j hj hk hb' (fun k hk => .inl hk)) hk
  cases hi : P.info? t with
  | none => rw [hi] at hsz; cases hsz
  | some inf =>
    rw [hi] at hsz
    simp only [Option.map_some, Option.some.injEq] at hsz
    simp only [NOp.sem, Instr.storeAt, Instr.sureAddr, storeVar]
    simp [Sem.run_bind, run_sizeOf hi, Result.andThen, Sem.run, pure, heq, hsz, hr]
end

end Go.Proofs.Ytioimdegbdkppaa.DK
