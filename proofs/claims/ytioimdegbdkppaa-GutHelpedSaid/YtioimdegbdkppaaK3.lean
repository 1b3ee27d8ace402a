/- The reckoner of quiet operations. -/
import Derived.Test.YtioimdegbdkppaaK2
import Derived.Laws.BitsLemmas
namespace Go.Proofs.Ytioimdegbdkppaa.DK
open Go
set_option linter.unusedSimpArgs false
set_option linter.unusedVariables false

variable {P : Program} {rn : Option Nat}

/-- What an operation of these kinds is, its operands reckoned: a run of its own, told by whoever proves. -/
def rawSem (ov : Operand → Option Value) : Op → TypeId → Option (Sem Value)
  | .binOp op t x y _, _ => match ov x, ov y with
    | some u, some v => some (do eqGuard op t x y u v; binOp op t u v)
    | _, _ => none
  | .unOp op _ x, _ => (ov x).map (Op.unary op)
  | .build t parts, _ => (mapP ov parts.toList).map fun ps => Instr.build t ps.toArray
  | .slice t x lo hi mx, _ => match ov x, optO ov lo, optO ov hi, optO ov mx with
    | some u, some l, some h, some m => some (Instr.sliceAt t u l h m)
    | _, _, _, _ => none
  | .index t x i, _ => match ov x, ov i with
    | some u, some v => some (Instr.index t u v)
    | _, _ => none
  | .indexAddr t x i, _ => match ov x, ov i with
    | some u, some v => some (Instr.indexAt t u v)
    | _, _ => none
  | .field t x f, _ => (ov x).map fun u => Instr.field t u f
  | .lookup t x i ok, _ => match ov x, ov i with
    | some u, some v => some (Instr.lookup t u v ok)
    | _, _ => none
  | .convert s d x, _ => (ov x).map (Go.convert s d)
  | .load t x, _ => (ov x).map (Instr.loadAt t)
  | .call { callee := .builtin .min, args, argTypes }, ty => (mapO ov args.toList).map fun vs => Builtin.min_ argTypes ty vs.toArray
  | .call { callee := .builtin .max, args, argTypes }, ty => (mapO ov args.toList).map fun vs => Builtin.max_ argTypes ty vs.toArray
  | .call { callee := .builtin .len, args, argTypes }, ty => (mapO ov args.toList).map fun vs => Builtin.len_ argTypes ty vs.toArray
  | _, _ => none

theorem rawSem_ok {ov : Operand → Option Value} {a : Act} {o : Oper} {s : Sem Value} (h : ∀ x ∈ o.op.operands.toList, ∀ v, ov x = some v → a.eval x = v) (hs : rawSem ov o.op o.type = some s) :
    execOp a.eval o = (do pure (.value (← s))) := by
  unfold execOp
  cases ho : o.op with
  | binOp op t x y yt =>
    rw [ho] at hs h; simp only [rawSem] at hs
    split at hs
    · rename_i u v hu hv; cases hs; simp only [h x (by simp [Op.operands]) _ hu, h y (by simp [Op.operands]) _ hv]
    · cases hs
  | unOp op t x => rw [ho] at hs h; simp only [rawSem, Option.map_eq_some_iff] at hs; obtain ⟨u, hu, rfl⟩ := hs; simp only [h x (by simp [Op.operands]) _ hu]
  | build t parts =>
    rw [ho] at hs h; simp only [rawSem, Option.map_eq_some_iff] at hs; obtain ⟨u, hu, rfl⟩ := hs
    have := mapP_ok (a := a) (fun x hx v hv => h x.2 (by simp [Op.operands]; exact ⟨x.1, by simpa using hx⟩) v hv) hu
    have e : (parts.map fun (x : Nat × Operand) => (x.1, a.eval x.2)) = u.toArray := by rw [← this, ← Array.toList_map, Array.toArray_toList]
    show (do pure (Next.value (← Instr.build t (parts.map fun (x : Nat × Operand) => (x.1, a.eval x.2))))) = _
    rw [e]
  | slice t x lo hi mx =>
    rw [ho] at hs h; simp only [rawSem] at hs
    split at hs
    · rename_i u l hh m hu hl hh' hm
      cases hs
      simp only [h x (by simp [Op.operands]) _ hu, optO_ok (a := a) (fun y e v => h y (by subst e; simp [Op.operands]) v) hl, optO_ok (a := a) (fun y e v => h y (by subst e; simp [Op.operands]) v) hh', optO_ok (a := a) (fun y e v => h y (by subst e; simp [Op.operands]) v) hm]
    · cases hs
  | index t x i =>
    rw [ho] at hs h; simp only [rawSem] at hs
    split at hs
    · rename_i u v hu hv; cases hs; simp only [h x (by simp [Op.operands]) _ hu, h i (by simp [Op.operands]) _ hv]
    · cases hs
  | indexAddr t x i =>
    rw [ho] at hs h; simp only [rawSem] at hs
    split at hs
    · rename_i u v hu hv; cases hs; simp only [h x (by simp [Op.operands]) _ hu, h i (by simp [Op.operands]) _ hv]
    · cases hs
  | field t x f => rw [ho] at hs h; simp only [rawSem, Option.map_eq_some_iff] at hs; obtain ⟨u, hu, rfl⟩ := hs; simp only [h x (by simp [Op.operands]) _ hu]
  | lookup t x i ok =>
    rw [ho] at hs h; simp only [rawSem] at hs
    split at hs
    · rename_i u v hu hv; cases hs; simp only [h x (by simp [Op.operands]) _ hu, h i (by simp [Op.operands]) _ hv]
    · cases hs
  | convert s d x => rw [ho] at hs h; simp only [rawSem, Option.map_eq_some_iff] at hs; obtain ⟨u, hu, rfl⟩ := hs; simp only [h x (by simp [Op.operands]) _ hu]
  | load t x => rw [ho] at hs h; simp only [rawSem, Option.map_eq_some_iff] at hs; obtain ⟨u, hu, rfl⟩ := hs; simp only [h x (by simp [Op.operands]) _ hu]
  | call c =>
    obtain ⟨cal, args, tys⟩ := c
    rw [ho] at hs h
    cases cal with
    | value f => simp [rawSem] at hs
    | invoke r m => simp [rawSem] at hs
    | builtin b =>
      cases b <;> unfold rawSem at hs <;> simp at hs
      all_goals
        obtain ⟨u, hu, rfl⟩ := hs
        have e : args.map a.eval = u.toArray := by rw [← mapO_ok (a := a) (fun x hx v hv => h x (by simp [Op.operands, Call.operands]; simpa using hx) v hv) hu, ← Array.toList_map, Array.toArray_toList]
        simp [resolve, invoke, builtin, e, pure, bind, Sem.bind]
  | _ => rw [ho] at hs; simp [rawSem] at hs

def cmpB : BinOp → Int → Int → Option Bool
  | .eql, x, y => some (x == y)
  | .neq, x, y => some (x != y)
  | .lss, x, y => some (decide (x < y))
  | .leq, x, y => some (decide (x ≤ y))
  | .gtr, x, y => some (decide (x > y))
  | .geq, x, y => some (decide (x ≥ y))
  | _, _, _ => none

def ariI : BinOp → Int → Int → Option Int
  | .add, x, y => some (x + y)
  | .sub, x, y => some (x - y)
  | .mul, x, y => some (x * y)
  | _, _, _ => none

/-- The value of an operation that is no pick, and what it asks, if anything (read off what is offered). -/
def evm (tb : Tbl) (ov : Operand → Option Value) (o : Oper) (md : Nat) (hd : Option Req) : Option (Value × Option Req) :=
  match md with
  | 3 => match hd with
    | some (.raw _ v) => match rawSem ov o.op o.type with
      | some s => some (v, some (.raw s v))
      | none => none
    | _ => none
  | _ => plain hd
where plain (hd : Option Req) : Option (Value × Option Req) :=
  match o.op with
  | .move x | .assign x => (ov x).map fun v => (v, none)
  | .binOp op _ x y _ => match ov x, ov y with
    | some (.int .i64 m), some (.int .i64 n) =>
      match ariI op m n with
      | some r => (match md with
        | 2 => some (.int .i64 (Go.RowKit.wrap64 r), none)
        | _ => some (.int .i64 r, some (.rng r)))
      | none => match cmpB op m n with
        | some c => (match md with
          | 1 => (match hd with
            | some (.dec _ b) => some (.bool b, some (.dec c b))
            | _ => none)
          | _ => some (.bool c, none))
        | none => none
    | _, _ => none
  | .unOp .not _ x => match ov x with
    | some (.bool b) => some (.bool (!b), none)
    | _ => none
  | .fieldAddr t x f => match ov x with
    | some (.pointer (some p)) => match lk tb.fld t with
      | some offs => match offs[f]? with
        | some off => some (.pointer (some (p.add off)), none)
        | none => none
      | none => none
    | _ => none
  | .indexAddr t x i => match ov x, ov i with
    | some (.slice a len _), some (.int .i64 n) => match lk tb.sl t, hd with
      | some sz, some (.idx _ _ _ _ p) => some (.pointer (some p), some (.idx a len n sz p))
      | _, _ => none
    | some (.pointer (some q)), some (.int .i64 n) => match lk tb.arr t, hd with
      | some (len, sz), some (.idx _ _ _ _ p) => some (.pointer (some p), some (.idx (some q) len n sz p))
      | _, _ => none
    | _, _ => none
  | .load t x => match ov x with
    | some (.pointer (some p)) => match lk tb.agg t with
      | some sz => (match hd with
        | some (.lds _ vs) => cond (Nat.beq vs.length sz) (some (.agg vs.toArray, some (.lds p vs))) none
        | _ => none)
      | none => cond (tb.sca.elem t) (match hd with
        | some (.ld _ v) => some (v, some (.ld p v))
        | _ => none) none
    | _ => none
  | .extract x i => match ov x with
    | some (.tuple vs) => (vs[i]?).map fun v => (v, none)
    | _ => none
  | .makeFunc fn fst cap => match mapO ov fst.toList, mapO ov cap.toList with
    | some us, some vs => some (.func fn us.toArray vs.toArray, none)
    | _, _ => none
  | .call { callee := .builtin .len, args, argTypes } => match mapO ov args.toList, argTypes[0]? with
    | some [.slice _ n _], some t => cond (lk tb.sl t).isSome (some (.int .i64 n, none)) none
    | _, _ => none
  | .call { callee := .value f, args, .. } => match ov f, mapO ov args.toList with
    | some (.func (.func g) fst cap), some vs => cond (tb.fns.elem g) (match hd with
      | some (.call _ _ v) => some (v, some (.call g (fst ++ vs.toArray ++ cap) v))
      | _ => none) none
    | _, _ => none
  | _ => none

theorem wrap_in {n : Int} (h : -9223372036854775808 ≤ n ∧ n ≤ 9223372036854775807) : IntKind.i64.wrap n = n := by rw [IntKind.wrap_i64]; omega
theorem wrap_64 (n : Int) : IntKind.i64.wrap n = Go.RowKit.wrap64 n := IntKind.wrap_i64 n

theorem eqGuard_skip {op : BinOp} {t : TypeId} {x y : Operand} {u v : Value} {w : World} (h : ∀ vs, u ≠ .agg vs) (h' : u ≠ .nilIface) : (eqGuard op t x y u v).run P w = .ok () w := by
  unfold eqGuard
  cases op <;> simp [pure, bind, Sem.bind, Sem.run, Result.andThen] <;> (split <;> first | rfl | (rename_i he; exact absurd rfl h') | (exact absurd rfl (h _)))

theorem evm_ok {ov : Operand → Option Value} {a : Act} {tb : Tbl} {S : World → Prop} (ht : Tbl.ok P tb = true) {o : Oper} (h : ∀ x ∈ o.op.operands.toList, ∀ v, ov x = some v → a.eval x = v) {md : Nat} {hd em : Option Req} {v : Value}
    (he : evm tb ov o md hd = some (v, em)) (hr : ∀ r, em = some r → r.ok P S) : ∀ w, S w → quietR P w v ((execOp a.eval o).run P w) := by
  intro w hw
  have hraw : ∀ (s : Sem Value), rawSem ov o.op o.type = some s → s.run P w = .ok v w → quietR P w v ((execOp a.eval o).run P w) := by
    intro s hs hrun
    rw [rawSem_ok h hs]
    show quietR P w v (Sem.run P (s >>= fun x => pure (Next.value x)) w)
    rw [Sem.run_bind, hrun]
    exact ⟨rfl, rfl⟩
  have hplain : ∀ hd, evm.plain tb ov o md hd = some (v, em) → quietR P w v ((execOp a.eval o).run P w) := by
    intro hd he
    unfold evm.plain at he
    unfold execOp
    split at he
    · -- move
      rename_i x hop
      simp only [Option.map_eq_some_iff] at he
      obtain ⟨u, hu, he⟩ := he
      cases he
      simp only [hop, h x (by simp [hop, Op.operands]) _ hu]
      exact ⟨rfl, rfl⟩
    · rename_i x hop
      simp only [Option.map_eq_some_iff] at he
      obtain ⟨u, hu, he⟩ := he
      cases he
      simp only [hop, h x (by simp [hop, Op.operands]) _ hu]
      exact ⟨rfl, rfl⟩
    · -- binOp
      rename_i op t x y yt hop
      split at he
      · rename_i m k hm hk
        have hg : ∀ w, (eqGuard op t x y (Value.int .i64 m) (Value.int .i64 k)).run P w = .ok () w := fun w => eqGuard_skip (by simp) (by simp)
        have hb : ∀ u, (binOp op t (.int .i64 m) (.int .i64 k)).run P w = .ok u w → u = v → quietR P w v (Sem.run P (match o.op with | .binOp op xType x y _ => (do pure (Next.value (← (do eqGuard op xType x y (a.eval x) (a.eval y); binOp op xType (a.eval x) (a.eval y))))) | _ => (stuck "" : Sem Next)) w) := by
          intro u hu e
          subst e
          simp only [hop, h x (by simp [hop, Op.operands]) _ hm, h y (by simp [hop, Op.operands]) _ hk, Sem.run_bind, hg, Result.andThen, hu]
          exact ⟨rfl, rfl⟩
        simp only [hop] at hb ⊢
        split at he
        · rename_i r hr'
          split at he
          · cases he
            refine hb _ ?_ rfl
            cases op <;> simp only [ariI] at hr' <;> cases hr' <;> simp only [binOp, Op.intArith] <;> simp [Sem.run, pure, wrap_64]
          · cases he
            have h1 := hr _ rfl
            refine hb _ ?_ rfl
            cases op <;> simp only [ariI] at hr' <;> cases hr' <;> simp only [binOp, Op.intArith] <;> simp [Sem.run, pure, wrap_in h1]
        · split at he
          · rename_i hno c hc
            split at he
            · split at he
              · cases he
                have h1 : c = _ := hr _ rfl
                refine hb (.bool c) ?_ (by rw [h1])
                cases op <;> simp only [cmpB] at hc <;> cases hc <;> simp only [binOp, Op.intCmp] <;> simp [Sem.run, pure]
              · cases he
            · cases he
              refine hb (.bool c) ?_ rfl
              cases op <;> simp only [cmpB] at hc <;> cases hc <;> simp only [binOp, Op.intCmp] <;> simp [Sem.run, pure]
          · cases he
      · cases he
    · -- not
      rename_i t x hop
      split at he
      · rename_i b hb
        cases he
        simp only [hop, h x (by simp [hop, Op.operands]) _ hb]
        exact ⟨rfl, rfl⟩
      · cases he
    · -- fieldAddr
      rename_i t x f hop
      split at he
      · rename_i p hp
        split at he
        · rename_i offs hoffs
          split at he
          · rename_i off hoff
            cases he
            obtain ⟨fs, fd, i, hu, hf, ho', hi, hsz⟩ := Tbl.fld_ok ht hoffs hoff
            simp only [hop, h x (by simp [hop, Op.operands]) _ hp, Instr.fieldAt, Sem.run_bind, run_underlying hu, Result.andThen, hf, Instr.sureAddr, fieldPlace, run_sizeOf hi]
            simp [Sem.run, pure, Result.andThen, hsz, ho', quietR]
          · cases he
        · cases he
      · cases he
    · -- indexAddr
      rename_i t x i hop
      split at he
      · rename_i b len cap k hx hi
        split at he
        · rename_i sz a1 a2 a3 a4 p hsz
          cases he
          obtain ⟨e, inf, hu, hinf, hs⟩ := Tbl.sl_ok ht hsz
          obtain ⟨ad, rfl, h0, h1, rfl⟩ : ∃ ad, b = some ad ∧ 0 ≤ k ∧ k < len ∧ _ = ad.add (k.toNat * sz) := hr _ rfl
          simp only [hop, h x (by simp [hop, Op.operands]) _ hx, h i (by simp [hop, Op.operands]) _ hi, Instr.indexAt, asIntOf, Sem.run_bind, run_underlying hu, Result.andThen]
          simp [Sem.run, pure, Result.andThen, Sem.run_bind, run_underlying hu, h0, h1, run_sizeOf hinf, hs, quietR]
        · cases he
      · rename_i q k hx hi
        split at he
        · rename_i len sz a1 a2 a3 a4 p hsz
          cases he
          obtain ⟨e, inf, hu, hinf, hs⟩ := Tbl.arr_ok ht hsz
          obtain ⟨ad, e1, h0, h1, rfl⟩ : ∃ ad, some q = some ad ∧ 0 ≤ k ∧ k < len ∧ _ = ad.add (k.toNat * sz) := hr _ rfl
          cases e1
          simp only [hop, h x (by simp [hop, Op.operands]) _ hx, h i (by simp [hop, Op.operands]) _ hi, Instr.indexAt, asIntOf, Sem.run_bind, run_underlying hu, Result.andThen]
          simp [Sem.run, pure, Result.andThen, Sem.run_bind, run_underlying hu, h0, h1, run_sizeOf hinf, hs, quietR, Instr.sureAddr]
        · cases he
      · cases he
    · -- load
      rename_i t x hop
      split at he
      · rename_i p hp
        split at he
        · rename_i sz hsz
          split at he
          · rename_i vs
            cases hb : Nat.beq vs.length sz with
            | false => rw [hb] at he; cases he
            | true =>
              rw [hb] at he
              cases he
              obtain ⟨h1, i, hi, hs⟩ := Tbl.agg_ok ht hsz
              have h2 := hr _ rfl w hw
              simp only [hop, h x (by simp [hop, Op.operands]) _ hp, Instr.loadAt, Instr.sureAddr, Sem.run_bind, run_loadVar_agg h1 hi (by rw [hs]; exact (Nat.eq_of_beq_eq_true hb).symm) h2]
              simp [Sem.run, pure, Result.andThen, run_loadVar_agg h1 hi (by rw [hs]; exact (Nat.eq_of_beq_eq_true hb).symm) h2, quietR]
          · cases he
        · cases hb : tb.sca.elem t with
          | false => rw [hb] at he; cases he
          | true =>
            rw [hb] at he
            simp only [cond] at he
            split at he
            · cases he
              obtain ⟨h1, h3, i, hi, hs⟩ := Tbl.sca_ok ht (List.elem_iff.1 hb)
              have h2 := hr _ rfl w hw
              simp only [hop, h x (by simp [hop, Op.operands]) _ hp, Instr.loadAt, Instr.sureAddr, Sem.run_bind, run_loadVar_sca h1 h3 h2]
              simp [Sem.run, pure, Result.andThen, run_loadVar_sca h1 h3 h2, quietR]
            · cases he
      · cases he
    · -- extract
      rename_i x i hop
      split at he
      · rename_i vs hvs
        simp only [Option.map_eq_some_iff] at he
        obtain ⟨u, hu, he⟩ := he
        cases he
        simp only [hop, h x (by simp [hop, Op.operands]) _ hvs, Instr.extract, hu]
        exact ⟨rfl, rfl⟩
      · cases he
    · -- makeFunc
      rename_i fn fst cap hop
      split at he
      · rename_i us vs hus hvs
        cases he
        have e1 : fst.map a.eval = us.toArray := by rw [← mapO_ok (a := a) (fun x hx v hv => h x (by simp [hop, Op.operands]; left; simpa using hx) v hv) hus, ← Array.toList_map, Array.toArray_toList]
        have e2 : cap.map a.eval = vs.toArray := by rw [← mapO_ok (a := a) (fun x hx v hv => h x (by simp [hop, Op.operands]; right; simpa using hx) v hv) hvs, ← Array.toList_map, Array.toArray_toList]
        simp only [hop, Instr.makeFunc, e1, e2]
        exact ⟨rfl, rfl⟩
      · cases he
    · -- len
      rename_i args argTypes hop
      split at he
      · rename_i b nn c t hargs hty
        cases hb : (lk tb.sl t).isSome with
        | false => rw [hb] at he; cases he
        | true =>
          rw [hb] at he
          cases he
          obtain ⟨sz, hsz⟩ := Option.isSome_iff_exists.1 hb
          obtain ⟨e, inf, hu, hinf, hs⟩ := Tbl.sl_ok ht hsz
          have e1 : args.map a.eval = #[.slice b nn c] := by rw [← Array.toArray_toList (xs := args.map a.eval), Array.toList_map, mapO_ok (a := a) (fun x hx v hv => h x (by simp [hop, Op.operands, Call.operands]; first | (right; simpa using hx) | simpa using hx) v hv) hargs]
          simp only [hop, resolve, e1, invoke, builtin, Sem.run_bind, pure, Sem.run, Result.andThen, Builtin.len_, hty]
          simp [Sem.run_bind, run_underlying hu, Sem.run, Result.andThen, goInt, pure, quietR]
      · cases he
    · -- call
      rename_i f args tys hop
      split at he
      · rename_i g fst cap vs hf hargs
        cases hb : tb.fns.elem g with
        | false => rw [hb] at he; cases he
        | true =>
          rw [hb] at he
          simp only [cond] at he
          split at he
          · cases he
            obtain ⟨fn, hfn, hbody, hname⟩ := Tbl.fn_ok ht (List.elem_iff.1 hb)
            have h2 := hr _ rfl w hw
            have e1 : args.map a.eval = vs.toArray := by rw [← Array.toArray_toList (xs := args.map a.eval), Array.toList_map, mapO_ok (a := a) (fun x hx v hv => h x (by simp [hop, Op.operands, Call.operands]; first | (right; simpa using hx) | simpa using hx) v hv) hargs]
            simp only [hop, resolve, e1, h f (by simp [hop, Op.operands, Call.operands]) _ hf, Deferred.ofValue, invoke, Sem.run_bind, pure, Sem.run, Result.andThen, callFunc, program, hfn]
            have hb2 : fn.body.isNone = false := by cases hbb : fn.body <;> simp_all
            simp only [hname, hb2, Sem.run, pure, quietR, Bool.false_eq_true, if_false]
            exact ⟨trivial, h2⟩
          · cases he
      · cases he
    · cases he
  unfold evm at he
  split at he
  · split at he
    · split at he
      · rename_i s hs
        cases he
        exact hraw s hs (hr _ rfl w hw)
      · cases he
    · cases he
  · exact hplain _ he

end Go.Proofs.Ytioimdegbdkppaa.DK
