/- Frames told by a list of the slots that count, and a reckoner of quiet operations: what it answers is checked by the kernel. -/
import Derived.Test.YtioimdegbdkppaaK1
import Derived.Laws.Cells
import Derived.Laws.Sem
namespace Go.Proofs.Ytioimdegbdkppaa.DK
open Go
set_option linter.unusedSimpArgs false
set_option linter.unusedVariables false

variable {P : Program} {rn : Option Nat}

def lk {α : Type} : List (Nat × α) → Nat → Option α
  | [], _ => none
  | (k, v) :: F, t => cond (Nat.beq k t) (some v) (lk F t)

/-- The frame a has n slots, its deferred calls are ds, and its slots hold what F tells. -/
structure Fr (n : Nat) (ds : List Deferred) (F : List (Nat × Value)) (a : Act) : Prop where
  size : a.tmps.size = n
  defers : a.defers = ds
  get : ∀ t v, lk F t = some v → a.tmps[t]? = some v

theorem Fr.put {n : Nat} {ds : List Deferred} {F : List (Nat × Value)} {a : Act} (h : Fr n ds F a) {d : Nat} (hd : d < n) (v : Value) : Fr n ds ((d, v) :: F) (a.put (some d) v) := by
  refine ⟨by simp [Act.put, h.size], by simp [Act.put, h.defers], fun t u hu => ?_⟩
  simp only [lk] at hu
  by_cases e : d = t
  · subst e
    rw [Nat.beq_refl d] at hu
    simp at hu
    subst hu
    simp [Act.put, h.size, hd]
  · have : Nat.beq d t = false := by cases hb : Nat.beq d t with
      | false => rfl
      | true => exact absurd (Nat.eq_of_beq_eq_true hb) e
    rw [this] at hu
    simp only [cond] at hu
    simp only [Act.put]
    rw [Array.getElem?_setIfInBounds_ne e]
    exact h.get t u hu

def sel (keep : List Nat) (F : List (Nat × Value)) : List (Nat × Value) := keep.filterMap fun t => (lk F t).map fun v => (t, v)

theorem lk_sel {F : List (Nat × Value)} : ∀ (keep : List Nat) (t : Nat) (v : Value), lk (sel keep F) t = some v → lk F t = some v
  | [], t, v, h => by simp [sel, lk] at h
  | k :: keep, t, v, h => by
    unfold sel at h
    rw [List.filterMap_cons] at h
    cases hk : lk F k with
    | none => simp only [hk, Option.map_none] at h; exact lk_sel keep t v h
    | some u =>
      simp only [hk, Option.map_some, lk] at h
      cases hb : Nat.beq k t with
      | false => rw [hb] at h; exact lk_sel keep t v h
      | true => rw [hb] at h; simp at h; subst h; rw [← Nat.eq_of_beq_eq_true hb]; exact hk

theorem Fr.sel {n : Nat} {ds : List Deferred} {F : List (Nat × Value)} {a : Act} (h : Fr n ds F a) (keep : List Nat) : Fr n ds (sel keep F) a := ⟨h.size, h.defers, fun t v hv => h.get t v (lk_sel keep t v hv)⟩

/-! ### What quiet operations ask -/
inductive Req where
  | ld (p : Addr) (v : Value)
  | lds (p : Addr) (vs : List Value)
  | rng (n : Int)
  | dec (c b : Bool)
  | call (f : FuncId) (args : Array Value) (v : Value)
  | idx (a : Option Addr) (len : Nat) (i : Int) (sz : Nat) (p : Addr)
  | raw (s : Sem Value) (v : Value)
  | und (g : Bool) (r : Req)

def Req.ok (P : Program) (S : World → Prop) : Req → Prop
  | .ld p v => ∀ w, S w → w.cell? p = some v
  | .lds p vs => ∀ w, S w → ∀ j v, vs[j]? = some v → w.cell? (p.add j) = some v
  | .rng n => -9223372036854775808 ≤ n ∧ n ≤ 9223372036854775807
  | .dec c b => c = b
  | .call f args v => ∀ w, S w → Calls P f args w fun e w' => e = .returned v ∧ Ext w w'
  | .idx a len i sz p => ∃ ad, a = some ad ∧ 0 ≤ i ∧ i < len ∧ p = ad.add (i.toNat * sz)
  | .raw s v => ∀ w, S w → s.run P w = .ok v w
  | .und g r => g = true → r.ok P S

/-- All that is asked, told so that the list is read off the proofs. -/
inductive Reqs (P : Program) (S : World → Prop) : List Req → Prop
  | nil : Reqs P S []
  | cons {r : Req} {rs : List Req} (h : r.ok P S) (t : Reqs P S rs) : Reqs P S (r :: rs)

theorem Reqs.mem {S : World → Prop} {rs : List Req} (h : Reqs P S rs) : ∀ r ∈ rs, r.ok P S := by
  induction h with
  | nil => simp
  | cons h t ih =>
    intro r hr
    rcases List.mem_cons.1 hr with rfl | hr
    · exact h
    · exact ih r hr

/-! ### Types -/
structure Tbl where
  fld : List (Nat × List Nat)
  sl : List (Nat × Nat)
  arr : List (Nat × Nat × Nat)
  agg : List (Nat × Nat)
  sca : List Nat
  fns : List Nat

def isAggB (P : Program) (t : TypeId) : Bool := match P.underlying t with | some (.struct _) | some (.array _ _) => true | _ => false

def Tbl.ok (P : Program) (tb : Tbl) : Bool :=
  (tb.fld.all fun (t, offs) => match P.underlying t with
    | some (.struct fs) => (List.range offs.length).all fun i => match fs[i]?, offs[i]? with
      | some f, some off => f.offset == off && (match P.info? f.type with | some i => i.size != 0 | none => false)
      | _, _ => false
    | _ => false) &&
  (tb.sl.all fun (t, sz) => match P.underlying t with
    | some (.slice e) => (match P.info? e with | some i => i.size == sz | none => false)
    | _ => false) &&
  (tb.arr.all fun (t, len, sz) => match P.underlying t with
    | some (.array n e) => n == len && (match P.info? e with | some i => i.size == sz | none => false)
    | _ => false) &&
  (tb.agg.all fun (t, sz) => isAggB P t && (match P.info? t with | some i => i.size == sz | none => false)) &&
  (tb.sca.all fun t => !isAggB P t && (P.underlying t).isSome && (match P.info? t with | some i => i.size == 1 | none => false)) &&
  (tb.fns.all fun f => match P.funcs[f]? with | some fn => fn.body.isSome && !(fn.name == "runtime.NumGoroutine") | none => false)

theorem lk_mem {α : Type} : ∀ (l : List (Nat × α)) (t : Nat) (v : α), lk l t = some v → (t, v) ∈ l
  | [], t, v, h => by simp [lk] at h
  | (k, u) :: l, t, v, h => by
    simp only [lk] at h
    cases hb : Nat.beq k t with
    | true => rw [hb] at h; simp at h; subst h; rw [Nat.eq_of_beq_eq_true hb]; simp
    | false => rw [hb] at h; exact List.mem_cons_of_mem _ (lk_mem l t v h)

section
variable {tb : Tbl} (ht : Tbl.ok P tb = true)
include ht
theorem Tbl.fld_ok {t : Nat} {offs : List Nat} {f off : Nat} (h : lk tb.fld t = some offs) (ho : offs[f]? = some off) :
    ∃ fs fd i, P.underlying t = some (.struct fs) ∧ fs[f]? = some fd ∧ fd.offset = off ∧ P.info? fd.type = some i ∧ i.size ≠ 0 := by
  simp only [Tbl.ok, Bool.and_eq_true, List.all_eq_true] at ht
  have := ht.1.1.1.1.1 _ (lk_mem _ _ _ h)
  simp only at this
  split at this
  · rename_i fs hu
    simp only [List.all_eq_true, List.mem_range] at this
    have hf : f < offs.length := by
      rcases Nat.lt_or_ge f offs.length with h' | h'
      · exact h'
      · rw [List.getElem?_eq_none h'] at ho; cases ho
    have := this f hf
    split at this
    · rename_i fd off' h1 h2
      rw [ho] at h2; cases h2
      simp only [Bool.and_eq_true, beq_iff_eq] at this
      obtain ⟨h3, h4⟩ := this
      split at h4
      · rename_i i hi; exact ⟨fs, fd, i, hu, h1, h3, hi, by simpa using h4⟩
      · cases h4
    · cases this
  · cases this
theorem Tbl.sl_ok {t sz : Nat} (h : lk tb.sl t = some sz) : ∃ e i, P.underlying t = some (.slice e) ∧ P.info? e = some i ∧ i.size = sz := by
  simp only [Tbl.ok, Bool.and_eq_true, List.all_eq_true] at ht
  have := ht.1.1.1.1.2 _ (lk_mem _ _ _ h)
  simp only at this
  split at this
  · rename_i e hu
    split at this
    · rename_i i hi; exact ⟨e, i, hu, hi, by simpa using this⟩
    · cases this
  · cases this
theorem Tbl.arr_ok {t len sz : Nat} (h : lk tb.arr t = some (len, sz)) : ∃ e i, P.underlying t = some (.array len e) ∧ P.info? e = some i ∧ i.size = sz := by
  simp only [Tbl.ok, Bool.and_eq_true, List.all_eq_true] at ht
  have := ht.1.1.1.2 _ (lk_mem _ _ _ h)
  simp only at this
  split at this
  · rename_i n e hu
    simp only [Bool.and_eq_true, beq_iff_eq] at this
    obtain ⟨rfl, h4⟩ := this
    split at h4
    · rename_i i hi; exact ⟨e, i, hu, hi, by simpa using h4⟩
    · cases h4
  · cases this
theorem Tbl.agg_ok {t sz : Nat} (h : lk tb.agg t = some sz) : isAggB P t = true ∧ ∃ i, P.info? t = some i ∧ i.size = sz := by
  simp only [Tbl.ok, Bool.and_eq_true, List.all_eq_true] at ht
  have := ht.1.1.2 _ (lk_mem _ _ _ h)
  simp only [Bool.and_eq_true] at this
  refine ⟨this.1, ?_⟩
  have h4 := this.2
  split at h4
  · rename_i i hi; exact ⟨i, hi, by simpa using h4⟩
  · cases h4
theorem Tbl.sca_ok {t : Nat} (h : t ∈ tb.sca) : isAggB P t = false ∧ (P.underlying t).isSome = true ∧ ∃ i, P.info? t = some i ∧ i.size = 1 := by
  simp only [Tbl.ok, Bool.and_eq_true, List.all_eq_true] at ht
  have := ht.1.2 _ h
  simp only [Bool.and_eq_true, Bool.not_eq_true'] at this
  refine ⟨this.1.1, this.1.2, ?_⟩
  have h4 := this.2
  split at h4
  · rename_i i hi; exact ⟨i, hi, by simpa using h4⟩
  · cases h4
theorem Tbl.fn_ok {f : Nat} (h : f ∈ tb.fns) : ∃ fn, P.funcs[f]? = some fn ∧ fn.body.isSome = true ∧ (fn.name == "runtime.NumGoroutine") = false := by
  simp only [Tbl.ok, Bool.and_eq_true, List.all_eq_true] at ht
  have h4 := ht.2 _ h
  split at h4
  · rename_i fn hi; simp only [Bool.and_eq_true, Bool.not_eq_true'] at h4; exact ⟨fn, hi, h4.1, h4.2⟩
  · cases h4
end

/-! ### Runs -/
theorem run_underlying {t : TypeId} {d : TypeDesc} {w : World} (h : P.underlying t = some d) : (underlying t).run P w = .ok d w := by
  unfold underlying
  rw [Sem.run_bind]
  simp [program, Sem.run, Result.andThen, h, pure]
theorem run_typeInfo {t : TypeId} {i : TypeInfo} {w : World} (h : P.info? t = some i) : (typeInfo t).run P w = .ok i w := by
  unfold typeInfo
  rw [Sem.run_bind]
  simp [program, Sem.run, Result.andThen, h, pure]
theorem run_sizeOf {t : TypeId} {i : TypeInfo} {w : World} (h : P.info? t = some i) : (sizeOf t).run P w = .ok i.size w := by
  unfold sizeOf
  rw [Sem.run_bind, run_typeInfo h]
  simp [Sem.run, Result.andThen, pure]
theorem run_isAgg {t : TypeId} {w : World} (h : (P.underlying t).isSome = true) : (isAgg t).run P w = .ok (isAggB P t) w := by
  obtain ⟨d, hd⟩ := Option.isSome_iff_exists.1 h
  unfold isAgg isAggB
  rw [Sem.run_bind, run_underlying hd, hd]
  cases d <;> simp [Sem.run, Result.andThen, pure]
theorem isAggB_some {t : TypeId} (h : isAggB P t = true) : (P.underlying t).isSome = true := by
  unfold isAggB at h
  cases hu : P.underlying t with
  | none => rw [hu] at h; cases h
  | some d => rfl
theorem run_loadVar_sca {t : TypeId} {p : Addr} {v : Value} {w : World} (hs : isAggB P t = false) (hu : (P.underlying t).isSome = true) (hc : w.cell? p = some v) : (loadVar t p).run P w = .ok v w := by
  unfold loadVar
  rw [Sem.run_bind, run_isAgg hu, hs]
  simp [load, Sem.run, Result.andThen, hc]
theorem run_loadVar_agg {t : TypeId} {p : Addr} {vs : List Value} {i : TypeInfo} {w : World} (hs : isAggB P t = true) (hi : P.info? t = some i) (hn : i.size = vs.length)
    (hc : ∀ j v, vs[j]? = some v → w.cell? (p.add j) = some v) : (loadVar t p).run P w = .ok (.agg vs.toArray) w := by
  unfold loadVar
  rw [Sem.run_bind, run_isAgg (isAggB_some hs), hs]
  simp only [Result.andThen, if_true, Sem.run_bind, run_sizeOf hi, hn, run_loadCells_list (P := P) w p vs hc]
  simp [Sem.run, pure, Result.andThen]

/-! ### Operands; slots that hold their value only where guards are met -/
/-- Guards: numbers of operations, and what each is to have answered. -/
abbrev Gl := List (Nat × Bool)
/-- What operations have answered. -/
abbrev Bv := List (Nat × (Gl × Bool))

def gt1 (B : Bv) (x : Nat × Bool) : Bool := match lk B x.1 with
  | some (_, c) => cond x.2 c (!c)
  | none => false
/-- Are all guards met? -/
def gt (B : Bv) : Gl → Bool
  | [] => true
  | [x] => gt1 B x
  | x :: xs => gt1 B x && gt B xs

theorem gt_iff {B : Bv} : ∀ {l : Gl}, gt B l = true ↔ ∀ x ∈ l, gt1 B x = true
  | [] => by simp [gt]
  | [x] => by simp [gt]
  | x :: y :: l => by simp only [gt, Bool.and_eq_true, gt_iff (l := y :: l), List.mem_cons, forall_eq_or_imp]

def beqG (x y : Nat × Bool) : Bool := Nat.beq x.1 y.1 && (cond x.2 y.2 (!y.2))
theorem beqG_ok {x y : Nat × Bool} (h : beqG x y = true) : x = y := by
  obtain ⟨a, b⟩ := x
  obtain ⟨c, d⟩ := y
  simp only [beqG, Bool.and_eq_true] at h
  have := Nat.eq_of_beq_eq_true h.1
  cases b <;> cases d <;> simp_all
def subG (l l' : Gl) : Bool := l.all fun x => l'.any fun y => beqG x y
theorem subG_ok {B : Bv} {l l' : Gl} (h : subG l l' = true) (hl : gt B l' = true) : gt B l = true := by
  rw [gt_iff] at *
  intro x hx
  simp only [subG, List.all_eq_true, List.any_eq_true] at h
  obtain ⟨y, hy, he⟩ := h x hx
  rw [beqG_ok he]
  exact hl y hy

/-- A guard more that nobody here names changes nothing. -/
theorem gt_fresh {B : Bv} {i : Nat} {gl : Gl} {c : Bool} : ∀ {l : Gl}, (l.all fun x => !(Nat.beq x.1 i)) = true → gt ((i, (gl, c)) :: B) l = gt B l := by
  have h1 : ∀ x : Nat × Bool, (!(Nat.beq x.1 i)) = true → gt1 ((i, (gl, c)) :: B) x = gt1 B x := by
    intro x hx
    have : Nat.beq i x.1 = false := by
      cases hb : Nat.beq i x.1 with
      | false => rfl
      | true =>
        rw [← Nat.eq_of_beq_eq_true hb, Nat.beq_refl] at hx
        cases hx
    simp only [gt1, lk, this, cond]
  intro l h
  simp only [List.all_eq_true] at h
  cases hb : gt B l with
  | true => rw [gt_iff] at hb ⊢; exact fun x hx => (h1 x (h x hx)).trans (hb x hx)
  | false =>
    cases hc : gt ((i, (gl, c)) :: B) l with
    | false => rfl
    | true =>
      rw [gt_iff] at hc
      have : gt B l = true := gt_iff.2 fun x hx => (h1 x (h x hx)).symm.trans (hc x hx)
      rw [this] at hb; cases hb

abbrev Gs := List (Nat × (Gl × Value))

structure Fg (n : Nat) (ds : List Deferred) (ops : Array Oper) (F : List (Nat × Value)) (G : Gs) (B : Bv) (a : Act) : Prop where
  fr : Fr n ds F a
  getc : ∀ t g v, lk G t = some (g, v) → a.tmps[t]? = some (cond (gt B g) v undef)
  told : ∀ j g c, lk B j = some (g, c) → yielded ops a.tmps j = cond (gt B g) (some c) none

/-- An operand where the guards g are met. -/
def lkG (g : Gl) (F : List (Nat × Value)) (G : Gs) : Operand → Option Value
  | .tmp t => match lk F t with
    | some v => some v
    | none => match lk G t with
      | some (gx, v) => cond (subG gx g) (some v) none
      | none => none
  | .const v => some v
  | .global g => some (.pointer (some ⟨g, 0, none⟩))
  | .func f => some (.func (.func f) #[] #[])

theorem lkG_ok {n : Nat} {ds : List Deferred} {ops : Array Oper} {F : List (Nat × Value)} {G : Gs} {B : Bv} {a : Act} (h : Fg n ds ops F G B a) {g : Gl} (hg : gt B g = true) (x : Operand) (v : Value) (hv : lkG g F G x = some v) : a.eval x = v := by
  cases x with
  | const u => simpa [lkG, Act.eval] using hv
  | global u => simpa [lkG, Act.eval] using hv
  | func u => simpa [lkG, Act.eval] using hv
  | tmp t =>
    simp only [lkG] at hv
    simp only [Act.eval, Array.getD_eq_getD_getElem?]
    split at hv
    · rename_i u hu; cases hv; rw [h.fr.get _ _ hu]; rfl
    · split at hv
      · rename_i gx u hu
        cases hs : subG gx g with
        | false => rw [hs] at hv; cases hv
        | true =>
          rw [hs] at hv
          cases hv
          rw [h.getc _ _ _ hu, subG_ok hs hg]; rfl
      · cases hv

def mapO (ov : Operand → Option Value) : List Operand → Option (List Value)
  | [] => some []
  | x :: xs => match ov x with
    | some v => (match mapO ov xs with | some vs => some (v :: vs) | none => none)
    | none => none

theorem mapO_ok {ov : Operand → Option Value} {a : Act} : ∀ {xs : List Operand} {vs : List Value}, (∀ x ∈ xs, ∀ v, ov x = some v → a.eval x = v) → mapO ov xs = some vs → xs.map a.eval = vs
  | [], vs, _, hx => by simp [mapO] at hx; simp [hx]
  | x :: xs, vs, h, hx => by
    simp only [mapO] at hx
    split at hx
    · rename_i v hv
      split at hx
      · rename_i us hus
        cases hx
        simp [h x (List.mem_cons_self ..) v hv, mapO_ok (fun y hy => h y (List.mem_cons_of_mem _ hy)) hus]
      · cases hx
    · cases hx

def mapP (ov : Operand → Option Value) : List (Nat × Operand) → Option (List (Nat × Value))
  | [] => some []
  | (i, x) :: xs => match ov x with
    | some v => (match mapP ov xs with | some vs => some ((i, v) :: vs) | none => none)
    | none => none

theorem mapP_ok {ov : Operand → Option Value} {a : Act} : ∀ {xs : List (Nat × Operand)} {vs : List (Nat × Value)}, (∀ x ∈ xs, ∀ v, ov x.2 = some v → a.eval x.2 = v) → mapP ov xs = some vs → xs.map (fun q => (q.1, a.eval q.2)) = vs
  | [], vs, _, hx => by simp [mapP] at hx; simp [hx]
  | (i, x) :: xs, vs, h, hx => by
    simp only [mapP] at hx
    split at hx
    · rename_i v hv
      split at hx
      · rename_i us hus
        cases hx
        simp [h (i, x) (List.mem_cons_self ..) v hv, mapP_ok (fun y hy => h y (List.mem_cons_of_mem _ hy)) hus]
      · cases hx
    · cases hx

def optO (ov : Operand → Option Value) : Option Operand → Option (Option Value)
  | none => some none
  | some x => match ov x with
    | some v => some (some v)
    | none => none

theorem optO_ok {ov : Operand → Option Value} {a : Act} {x : Option Operand} {v : Option Value} (h : ∀ y, x = some y → ∀ v, ov y = some v → a.eval y = v) (hx : optO ov x = some v) : x.map a.eval = v := by
  cases x with
  | none => simpa [optO] using hx
  | some x =>
    simp only [optO] at hx
    split at hx
    · rename_i u hu; cases hx; simp [h x rfl u hu]
    · cases hx
end Go.Proofs.Ytioimdegbdkppaa.DK
