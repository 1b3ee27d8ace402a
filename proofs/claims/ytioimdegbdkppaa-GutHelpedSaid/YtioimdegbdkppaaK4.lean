/- Pieces of a region that are quiet: one after the other, and in whatever order. -/
import Derived.Test.YtioimdegbdkppaaK3
namespace Go.Proofs.Ytioimdegbdkppaa.DK
open Go
set_option linter.unusedSimpArgs false
set_option linter.unusedVariables false

variable {P : Program} {rn : Option Nat}

/-- How the operations of a region are to be reckoned. 'sy': the operations whose answers guard others and stay open; 'md': 1 a comparison that is decided, 2 a sum that wraps, 3 a run that is told. -/
structure Ctl where
  sy : List Nat := []
  md : List (Nat × Nat) := []

inductive Gd where
  | lit (b : Bool)
  | sym (g : Gl)

/-- Whether the operation is carried out. -/
def gd (ct : Ctl) (ops : Array Oper) (F : List (Nat × Value)) (B : Bv) (o : Oper) : Option Gd :=
  match o.guard with
  | none => some (.lit true)
  | some (j, want) => cond (ct.sy.elem j)
    (match lk B j with
      | some (g, _) => some (.sym (g ++ [(j, want)]))
      | none => none)
    (match ops[j]? with
      | some oj => match oj.dst with
        | some d => match lk F d with
          | some (.bool b) => some (.lit (b == want))
          | some (.tuple _) => some (.lit false)
          | _ => none
        | none => none
      | none => none)

theorem gd_ok {n : Nat} {ds : List Deferred} {ops : Array Oper} {F : List (Nat × Value)} {G : Gs} {B : Bv} {a : Act} (h : Fg n ds ops F G B a) {ct : Ctl} {o : Oper} {r : Gd} (hw : gd ct ops F B o = some r) :
    Region.wanted o (yielded ops a.tmps) = (match r with | .lit b => b | .sym g => gt B g) := by
  unfold gd at hw
  unfold Region.wanted
  split at hw
  · rename_i hg; cases hw; simp [hg]
  · rename_i j want hg
    cases hs : ct.sy.elem j with
    | true =>
      rw [hs] at hw
      simp only [cond] at hw
      split at hw
      · rename_i g c hl
        cases hw
        simp only [hg, h.told _ _ _ hl]
        have e : gt B (g ++ [(j, want)]) = (gt B g && gt1 B (j, want)) := by
          rw [Bool.eq_iff_iff, Bool.and_eq_true, gt_iff, gt_iff]
          simp only [List.mem_append, List.mem_singleton, or_imp, forall_and, forall_eq]
        rw [e]
        simp only [gt1, hl]
        cases gt B g <;> cases c <;> cases want <;> rfl
      · cases hw
    | false =>
      rw [hs] at hw
      simp only [cond] at hw
      split at hw
      · rename_i oj hj
        split at hw
        · rename_i d hd
          split at hw
          · rename_i b' hl
            cases hw
            simp only [hg, yielded, hj, Option.bind_some, hd, h.fr.get _ _ hl]
            cases b' <;> cases want <;> rfl
          · rename_i vs hl
            cases hw
            simp only [hg, yielded, hj, Option.bind_some, hd, h.fr.get _ _ hl]
            cases want <;> rfl
          · cases hw
        · cases hw
      · cases hw

def putF (F : List (Nat × Value)) (d : Option Tmp) (v : Value) : List (Nat × Value) := match d with | some d => (d, v) :: F | none => F
def putG (G : Gs) (d : Option Tmp) (g : Gl) (v : Value) : Gs := match d with | some d => (d, (g, v)) :: G | none => G
/-- No operation whose answer is told writes this slot. -/
def dstB (ops : Array Oper) (B : Bv) (d : Nat) : Bool := B.all fun x => match ops[x.1]? with | some o => (match o.dst with | some e => !(Nat.beq e d) | none => true) | none => true
/-- May a value be laid into this slot, beside what is told of the slots in the other list? -/
def dstF (n : Nat) (ops : Array Oper) (G : Gs) (B : Bv) (d : Option Tmp) : Bool := match d with | some d => Nat.blt d n && (lk G d).isNone && dstB ops B d | none => true
def dstG (n : Nat) (ops : Array Oper) (F : List (Nat × Value)) (B : Bv) (d : Option Tmp) : Bool := match d with | some d => Nat.blt d n && (lk F d).isNone && dstB ops B d | none => true

theorem yielded_put {ops : Array Oper} {B : Bv} {d : Nat} (hd : dstB ops B d = true) {j : Nat} {r : Gl × Bool} (hj : lk B j = some r) (tmps : Array Value) (v : Value) : yielded ops (tmps.setIfInBounds d v) j = yielded ops tmps j := by
  simp only [dstB, List.all_eq_true] at hd
  have := hd _ (lk_mem _ _ _ hj)
  unfold yielded
  cases ho : ops[j]? with
  | none => rfl
  | some o =>
    simp only [ho] at this
    cases hdst : o.dst with
    | none => simp [hdst]
    | some e =>
      simp only [hdst] at this
      have hne : d ≠ e := by rintro rfl; rw [Nat.beq_refl] at this; cases this
      simp only [Option.bind_some, hdst]
      rw [Array.getElem?_setIfInBounds_ne hne]

theorem Fg.putF {n : Nat} {ds : List Deferred} {ops : Array Oper} {F : List (Nat × Value)} {G : Gs} {B : Bv} {a : Act} (h : Fg n ds ops F G B a) {d : Option Tmp} (hd : dstF n ops G B d = true) (v : Value) : Fg n ds ops (putF F d v) G B (a.put d v) := by
  cases d with
  | none => exact h
  | some d =>
    simp only [dstF, Bool.and_eq_true] at hd
    refine ⟨h.fr.put (by simpa [Nat.blt_eq] using hd.1.1) v, fun t g u hu => ?_, fun j g c hj => ?_⟩
    · have e : d ≠ t := by rintro rfl; rw [hu] at hd; simp at hd
      simp only [Act.put]
      rw [Array.getElem?_setIfInBounds_ne e]
      exact h.getc t g u hu
    · exact (yielded_put hd.2 hj _ _).trans (h.told j g c hj)

theorem Fg.putG {n : Nat} {ds : List Deferred} {ops : Array Oper} {F : List (Nat × Value)} {G : Gs} {B : Bv} {a : Act} (h : Fg n ds ops F G B a) {d : Option Tmp} (hd : dstG n ops F B d = true) (g : Gl) (v : Value) : Fg n ds ops F (putG G d g v) B (a.put d (cond (gt B g) v undef)) := by
  cases d with
  | none => exact h
  | some d =>
    simp only [dstG, Bool.and_eq_true] at hd
    have hlt : d < n := by simpa [Nat.blt_eq] using hd.1.1
    refine ⟨⟨by simp [Act.put, h.fr.size], by simp [Act.put, h.fr.defers], fun t u hu => ?_⟩, fun t g' u hu => ?_, fun j g c hj => (yielded_put hd.2 hj _ _).trans (h.told j g c hj)⟩
    · have e : d ≠ t := by rintro rfl; rw [hu] at hd; simp at hd
      simp only [Act.put]
      rw [Array.getElem?_setIfInBounds_ne e]
      exact h.fr.get t u hu
    · simp only [DK.putG, lk] at hu
      by_cases e : d = t
      · subst e
        rw [Nat.beq_refl d] at hu
        simp at hu
        obtain ⟨rfl, rfl⟩ := hu
        simp [Act.put, h.fr.size, hlt]
      · have : Nat.beq d t = false := by cases hb : Nat.beq d t with
          | false => rfl
          | true => exact absurd (Nat.eq_of_beq_eq_true hb) e
        rw [this] at hu
        simp only [cond] at hu
        simp only [Act.put]
        rw [Array.getElem?_setIfInBounds_ne e]
        exact h.getc t g' u hu

/-- Nobody names this operation as a guard yet. -/
def freshB (i : Nat) (G : Gs) (B : Bv) : Bool := (lk B i).isNone && (G.all fun e => e.2.1.all fun x => !(Nat.beq x.1 i)) && (B.all fun e => e.2.1.all fun x => !(Nat.beq x.1 i))

theorem Fg.putB {n : Nat} {ds : List Deferred} {ops : Array Oper} {F : List (Nat × Value)} {G : Gs} {B : Bv} {a : Act} (h : Fg n ds ops F G B a) {i : Nat} {gl : Gl} {c : Bool} (hf : freshB i G B = true) (hgl : (gl.all fun x => !(Nat.beq x.1 i)) = true)
    (hy : yielded ops a.tmps i = cond (gt B gl) (some c) none) : Fg n ds ops F G ((i, (gl, c)) :: B) a := by
  simp only [freshB, Bool.and_eq_true, List.all_eq_true] at hf
  have hG : ∀ t g v, lk G t = some (g, v) → gt ((i, (gl, c)) :: B) g = gt B g := fun t g v hv => gt_fresh (by simp only [List.all_eq_true]; exact hf.1.2 _ (lk_mem _ _ _ hv))
  refine ⟨h.fr, fun t g v hv => ?_, fun j g c' hj => ?_⟩
  · rw [hG t g v hv]; exact h.getc t g v hv
  · simp only [lk] at hj
    cases hb : Nat.beq i j with
    | true =>
      rw [hb] at hj
      simp at hj
      obtain ⟨rfl, rfl⟩ := hj
      rw [← Nat.eq_of_beq_eq_true hb, gt_fresh hgl]; exact hy
    | false =>
      rw [hb] at hj
      simp only [cond] at hj
      rw [gt_fresh (by simp only [List.all_eq_true]; exact hf.2 _ (lk_mem _ _ _ hj))]; exact h.told j g c' hj

/-- The operation of this region that writes a slot. -/
def whoWrites (ops : Array Oper) (t : Nat) : Nat → Option Nat
  | 0 => none
  | k + 1 => match whoWrites ops t k with
    | some j => some j
    | none => match ops[k]? with
      | some o => (match o.dst with | some d => cond (Nat.beq d t) (some k) none | none => none)
      | none => none

/-- The value of an operation where the guards g are met; 'wrap': what it asks is asked under them. -/
def evp (tb : Tbl) (ct : Ctl) (ops : Array Oper) (i : Nat) (wrap : Bool) (g : Gl) (F : List (Nat × Value)) (G : Gs) (B : Bv) (o : Oper) (rs : List Req) : Option (Value × List Req × List Req) :=
  match o.op with
  | .pick c x y => match lkG g F G c with
    | some (.bool t) =>
      (match (match c with | .tmp s => whoWrites ops s ops.size | _ => none) with
        | some j => cond (ct.sy.elem j)
          (match lk B j with
            | some (_, t') => (match lkG (g ++ [(j, true)]) F G x, lkG (g ++ [(j, false)]) F G y with
              | some (.bool bx), some (.bool bY) => some (.bool (cond t' bx bY), [], rs)
              | some vx, some vy => some (cond t' vx vy, [], rs)
              | _, _ => none)
            | none => none)
          (match (cond t (lkG g F G x) (lkG g F G y)) with | some v => some (v, [], rs) | none => none)
        | none => (match (cond t (lkG g F G x) (lkG g F G y)) with | some v => some (v, [], rs) | none => none))
    | _ => none
  | _ => match rs with
    | [] => (match evm tb (lkG g F G) o ((lk ct.md i).getD 0) none with
      | some (v, none) => some (v, [], [])
      | _ => none)
    | r1 :: rs1 => cond wrap
      (match r1 with
        | .und _ r => (match evm tb (lkG g F G) o ((lk ct.md i).getD 0) (some r) with
          | some (v, none) => some (v, [], r1 :: rs1)
          | some (v, some r') => some (v, [.und (gt B g) r'], rs1)
          | none => none)
        | _ => (match evm tb (lkG g F G) o ((lk ct.md i).getD 0) none with
          | some (v, none) => some (v, [], r1 :: rs1)
          | _ => none))
      (match evm tb (lkG g F G) o ((lk ct.md i).getD 0) (some r1) with
        | some (v, none) => some (v, [], r1 :: rs1)
        | some (v, some r') => some (v, [r'], rs1)
        | none => none)

theorem whoWrites_ok {ops : Array Oper} {t : Nat} : ∀ {k j : Nat}, whoWrites ops t k = some j → ∃ o, ops[j]? = some o ∧ o.dst = some t
  | 0, j, h => by simp [whoWrites] at h
  | k + 1, j, h => by
    simp only [whoWrites] at h
    split at h
    · rename_i j' hj; cases h; exact whoWrites_ok hj
    · split at h
      · rename_i o ho
        split at h
        · rename_i d hd
          cases hb : Nat.beq d t with
          | false => rw [hb] at h; cases h
          | true => rw [hb] at h; cases h; exact ⟨o, ho, by rw [hd, Nat.eq_of_beq_eq_true hb]⟩
        · cases h
      · cases h

theorem evp_ok {n : Nat} {ds : List Deferred} {ops : Array Oper} {F : List (Nat × Value)} {G : Gs} {B : Bv} {a : Act} {tb : Tbl} {S : World → Prop} {ct : Ctl} {i : Nat} (ht : Tbl.ok P tb = true) (h : Fg n ds ops F G B a) {o : Oper} {wrap : Bool} {g : Gl} {rs em rs' : List Req} {v : Value}
    (he : evp tb ct ops i wrap g F G B o rs = some (v, em, rs')) (hr : ∀ r ∈ em, r.ok P S) (hg : gt B g = true) : ∀ w, S w → quietR P w v ((execOp a.eval o).run P w) := by
  unfold evp at he
  split at he
  · rename_i c x y hop
    intro w hw
    split at he
    · rename_i t hc
      have ec := lkG_ok h hg c _ hc
      unfold execOp
      simp only [hop, ec, asBool]
      have hlit : ∀ he : (match (cond t (lkG g F G x) (lkG g F G y)) with | some v => some (v, ([] : List Req), rs) | none => none) = some (v, em, rs'), quietR P w v (Sem.run P (do pure (Next.value (if ← (pure t : Sem Bool) then a.eval x else a.eval y))) w) := by
        intro he
        cases t with
        | true =>
          simp only [cond] at he
          split at he
          · rename_i v' hv'; cases he; exact ⟨rfl, lkG_ok h hg x _ hv'⟩
          · cases he
        | false =>
          simp only [cond] at he
          split at he
          · rename_i v' hv'; cases he; exact ⟨rfl, lkG_ok h hg y _ hv'⟩
          · cases he
      split at he
      · rename_i j hj
        cases hs : ct.sy.elem j with
        | false => rw [hs] at he; exact hlit he
        | true =>
          rw [hs] at he
          simp only [cond] at he
          -- the slot is the one that operation j wrote
          obtain ⟨s, rfl, oj, hoj, hdj⟩ : ∃ s, c = .tmp s ∧ ∃ oj, ops[j]? = some oj ∧ oj.dst = some s := by
            cases c with
            | tmp s => exact ⟨s, rfl, whoWrites_ok hj⟩
            | _ => cases hj
          split at he
          · rename_i gj t' hB
            have hyj := h.told _ _ _ hB
            have hslot : a.tmps[s]? = some (.bool t) := by
              simp only [Act.eval, Array.getD_eq_getD_getElem?] at ec
              cases hs' : a.tmps[s]? with
              | none => rw [hs'] at ec; simp [undef] at ec
              | some u => rw [hs'] at ec; simp at ec; rw [ec]
            have hy2 : yielded ops a.tmps j = some t := by simp only [yielded, hoj, Option.bind_some, hdj, hslot]
            rw [hy2] at hyj
            have ett : t = t' := by
              cases hgj : gt B gj with
              | true => rw [hgj] at hyj; simp at hyj; exact hyj
              | false => rw [hgj] at hyj; simp at hyj
            subst ett
            have hgt : ∀ b, t = b → gt B (g ++ [(j, b)]) = true := by
              intro b hb
              rw [gt_iff]
              intro z hz
              rcases List.mem_append.1 hz with hz | hz
              · exact gt_iff.1 hg z hz
              · simp at hz; subst hz; simp only [gt1, hB]; subst hb; cases t <;> rfl
            have hx : ∀ vx, lkG (g ++ [(j, true)]) F G x = some vx → t = true → a.eval x = vx := fun vx hvx ht' => lkG_ok h (hgt true ht') x vx hvx
            have hy : ∀ vy, lkG (g ++ [(j, false)]) F G y = some vy → t = false → a.eval y = vy := fun vy hvy ht' => lkG_ok h (hgt false ht') y vy hvy
            split at he
            · rename_i bx bY hvx hvy
              cases he
              cases t with
              | true => exact ⟨rfl, hx _ hvx rfl⟩
              | false => exact ⟨rfl, hy _ hvy rfl⟩
            · rename_i vx vy _ hvx hvy
              cases he
              cases t with
              | true => exact ⟨rfl, hx _ hvx rfl⟩
              | false => exact ⟨rfl, hy _ hvy rfl⟩
            · cases he
          · cases he
      · exact hlit he
    · cases he
  · have key : ∀ (hd em' : Option Req), evm tb (lkG g F G) o ((lk ct.md i).getD 0) hd = some (v, em') → (∀ r, em' = some r → r.ok P S) → ∀ w, S w → quietR P w v ((execOp a.eval o).run P w) :=
      fun hd em' hev hem => evm_ok ht (fun x _ v hv => lkG_ok h hg x v hv) hev hem
    split at he
    · split at he
      · rename_i hev
        cases he
        exact key _ _ hev (fun r e => by cases e)
      · cases he
    · rename_i r1 rs1
      cases wrap with
      | true =>
        simp only [cond] at he
        split at he
        · split at he
          · rename_i hev
            cases he
            exact key _ _ hev (fun r e => by cases e)
          · rename_i hev
            cases he
            exact key _ _ hev (fun r e => by cases e; exact hr (.und _ _) (by simp) hg)
          · cases he
        · split at he
          · rename_i hev
            cases he
            exact key _ _ hev (fun r e => by cases e)
          · cases he
      | false =>
        simp only [cond] at he
        split at he
        · rename_i hev
          cases he
          exact key _ _ hev (fun r e => by cases e)
        · rename_i hev
          cases he
          exact key _ _ hev (fun r e => by cases e; exact hr _ (by simp))
        · cases he

structure FGB where
  F : List (Nat × Value)
  G : Gs
  B : Bv

/-- The answer of a guarding operation is told on. -/
def addB (ct : Ctl) (i : Nat) (g : Gl) (d : Option Tmp) (v : Value) (s : FGB) : Option FGB :=
  cond (ct.sy.elem i)
    (match v, d with
      | .bool c, some _ => cond (freshB i s.G s.B && (g.all fun x => !(Nat.beq x.1 i))) (some { s with B := (i, (g, c)) :: s.B }) none
      | _, _ => none)
    (some s)

/-- One operation that is quiet. -/
def ev1 (tb : Tbl) (n : Nat) (ct : Ctl) (ops : Array Oper) (i : Nat) (s : FGB) (rs : List Req) : Option (FGB × List Req × List Req) :=
  match ops[i]? with
  | none => none
  | some o => match gd ct ops s.F s.B o with
    | none => none
    | some (.lit false) => cond (dstF n ops s.G s.B o.dst && !(ct.sy.elem i)) (some ({ s with F := putF s.F o.dst undef }, [], rs)) none
    | some (.lit true) => cond (dstF n ops s.G s.B o.dst) (match evp tb ct ops i false [] s.F s.G s.B o rs with
      | none => none
      | some (v, em, rs') => match addB ct i [] o.dst v { s with F := putF s.F o.dst v } with
        | some s' => some (s', em, rs')
        | none => none) none
    | some (.sym g) => cond (dstG n ops s.F s.B o.dst) (match evp tb ct ops i true g s.F s.G s.B o rs with
      | none => none
      | some (v, em, rs') => match addB ct i g o.dst v { s with G := putG s.G o.dst g v } with
        | some s' => some (s', em, rs')
        | none => none) none

theorem ev1_ok {n : Nat} {ds : List Deferred} {a : Act} {tb : Tbl} {ct : Ctl} {S : World → Prop} (ht : Tbl.ok P tb = true) {ops : Array Oper} {s s' : FGB} (h : Fg n ds ops s.F s.G s.B a) {i : Nat} {rs em rs' : List Req}
    (he : ev1 tb n ct ops i s rs = some (s', em, rs')) (hr : ∀ r ∈ em, r.ok P S) : ∃ o v, ops[i]? = some o ∧ YX P ops S o v a ∧ Fg n ds ops s'.F s'.G s'.B (a.put o.dst v) := by
  have hadd : ∀ (o : Oper) (g : Gl) (v vv : Value) (s1 : FGB), ops[i]? = some o → addB ct i g o.dst v s1 = some s' → Fg n ds ops s1.F s1.G s1.B (a.put o.dst vv) → vv = cond (gt s1.B g) v undef → dstF n ops [] [] o.dst = true → Fg n ds ops s'.F s'.G s'.B (a.put o.dst vv) := by
    intro o g v vv s1 ho hb hf hvv hlt
    unfold addB at hb
    cases hs : ct.sy.elem i with
    | false => rw [hs] at hb; cases hb; exact hf
    | true =>
      rw [hs] at hb
      simp only [cond] at hb
      split at hb
      · rename_i c d hd
        cases hc : freshB i s1.G s1.B && (g.all fun x => !(Nat.beq x.1 i)) with
        | false => rw [hc] at hb; cases hb
        | true =>
          rw [hc] at hb
          cases hb
          simp only [Bool.and_eq_true] at hc
          refine hf.putB hc.1 hc.2 ?_
          have hd2 : d < n := by
            rw [hd] at hlt
            simp only [dstF, Bool.and_eq_true] at hlt
            simpa [Nat.blt_eq] using hlt.1.1
          have hsz : d < a.tmps.size := by rw [h.fr.size]; exact hd2
          simp only [yielded, ho, Option.bind_some, hd, Act.put, hvv]
          rw [Array.getElem?_setIfInBounds_self_of_lt hsz]
          cases gt s1.B g <;> rfl
      · cases hb
  have hd0 : ∀ (G : Gs) (B : Bv) (d : Option Tmp), dstF n ops G B d = true → dstF n ops [] [] d = true := by
    intro G B d hd
    cases d with
    | none => rfl
    | some d => simp only [dstF, Bool.and_eq_true] at hd ⊢; exact ⟨⟨hd.1.1, by simp [lk]⟩, by simp [dstB]⟩
  have hd1 : ∀ (F : List (Nat × Value)) (B : Bv) (d : Option Tmp), dstG n ops F B d = true → dstF n ops [] [] d = true := by
    intro F B d hd
    cases d with
    | none => rfl
    | some d => simp only [dstF, dstG, Bool.and_eq_true] at hd ⊢; exact ⟨⟨hd.1.1, by simp [lk]⟩, by simp [dstB]⟩
  unfold ev1 at he
  split at he
  · cases he
  · rename_i o ho
    split at he
    · cases he
    · rename_i hg
      cases hd : dstF n ops s.G s.B o.dst && !(ct.sy.elem i) with
      | false => rw [hd] at he; cases he
      | true =>
        rw [hd] at he
        cases he
        simp only [Bool.and_eq_true] at hd
        exact ⟨o, undef, ho, .inr ⟨gd_ok h hg, rfl⟩, h.putF hd.1 _⟩
    · rename_i hg
      cases hd : dstF n ops s.G s.B o.dst with
      | false => rw [hd] at he; cases he
      | true =>
        rw [hd] at he
        simp only [cond] at he
        split at he
        · cases he
        · rename_i v em' rs2 hev
          split at he
          · rename_i s2 hb
            cases he
            exact ⟨o, v, ho, .inl ⟨gd_ok h hg, evp_ok ht h hev hr rfl⟩, hadd o [] v v _ ho hb (h.putF hd v) rfl (hd0 _ _ _ hd)⟩
          · cases he
    · rename_i g hg
      cases hd : dstG n ops s.F s.B o.dst with
      | false => rw [hd] at he; cases he
      | true =>
        rw [hd] at he
        simp only [cond] at he
        split at he
        · cases he
        · rename_i v em' rs2 hev
          split at he
          · rename_i s2 hb
            cases he
            refine ⟨o, cond (gt s.B g) v undef, ho, ?_, hadd o g v _ _ ho hb (h.putG hd g v) rfl (hd1 _ _ _ hd)⟩
            have hw := gd_ok h hg
            cases hgv : gt s.B g with
            | true => exact .inl ⟨by rw [hw]; exact hgv, evp_ok ht h hev hr hgv⟩
            | false => exact .inr ⟨by rw [hw]; exact hgv, rfl⟩
          · cases he

def evq (tb : Tbl) (n : Nat) (ct : Ctl) (ops : Array Oper) : List Nat → FGB → List Req → Option (List (Nat × Value) × List Req)
  | [], s, _ => some (s.F, [])
  | i :: is, s, rs => match ev1 tb n ct ops i s rs with
    | none => none
    | some (s1, em, rs') => match evq tb n ct ops is s1 rs' with
      | none => none
      | some (F', em') => some (F', em ++ em')

def evk (tb : Tbl) (n : Nat) (ct : Ctl) (ops : Array Oper) (is : List Nat) (F : List (Nat × Value)) (rs : List Req) (keep : List Nat) : Option (List (Nat × Value) × List Req) :=
  match evq tb n ct ops is ⟨F, [], []⟩ rs with
  | none => none
  | some (F', em) => some (sel keep F', em)

theorem Fr.fg {n : Nat} {ds : List Deferred} {ops : Array Oper} {F : List (Nat × Value)} {a : Act} (h : Fr n ds F a) : Fg n ds ops F [] [] a := ⟨h, fun t g v hv => by simp [lk] at hv, fun j g c hj => by simp [lk] at hj⟩

theorem seq_evq {tb : Tbl} {n : Nat} {ct : Ctl} {ds : List Deferred} {ops : Array Oper} {S : World → Prop} (hSE : ∀ w w', S w → Ext w w' → S w') (ht : Tbl.ok P tb = true) {K : Act → World → Prop} (rest : List Nat) : ∀ (is : List Nat) (s : FGB) (F' : List (Nat × Value)) (rs em : List Req) (a : Act) (w : World),
    evq tb n ct ops is s rs = some (F', em) → (∀ r ∈ em, r.ok P S) → Fg n ds ops s.F s.G s.B a → S w → (∀ a' w', Fr n ds F' a' → Ext w w' → S w' → seqX P rn ops K rest a' w') → seqX P rn ops K (is ++ rest) a w
  | [], s, F', rs, em, a, w, he, hr, hF, hS, k => by
    simp only [evq, Option.some.injEq, Prod.mk.injEq] at he
    rw [← he.1] at k
    exact k a w hF.fr (Kp.refl _ _) hS
  | i :: is, s, F', rs, em, a, w, he, hr, hF, hS, k => by
    simp only [evq] at he
    split at he
    · cases he
    · rename_i s1 em1 rs1 h1
      split at he
      · cases he
      · rename_i F2 em2 h2
        cases he
        obtain ⟨o, v, ho, hy, hF'⟩ := ev1_ok ht hF h1 (fun r hr' => hr r (List.mem_append_left _ hr'))
        refine YX.opX ho hy hS fun w' hE => ?_
        exact seq_evq hSE ht rest is s1 _ rs1 em2 _ w' h2 (fun r hr' => hr r (List.mem_append_right _ hr')) hF' (hSE _ _ hS hE) fun a' w'' hf he' hs => k a' w'' hf (hE.trans he') hs

/-- A piece of a region that does not draw. -/
theorem seq_quiet {tb : Tbl} {n : Nat} (ct : Ctl) {ds : List Deferred} {ops : Array Oper} {K : Act → World → Prop} {F F' : List (Nat × Value)} {rs : List Req} {a : Act} {w : World} (ht : Tbl.ok P tb = true) (hF : Fr n ds F a)
    (is rest : List Nat) (keep : List Nat) (hr : Reqs P (fun w' => Ext w w') rs) (he : evk tb n ct ops is F rs keep = some (F', rs))
    (k : ∀ a' w', Fr n ds F' a' → Ext w w' → seqX P rn ops K rest a' w') : seqX P rn ops K (is ++ rest) a w := by
  unfold evk at he
  split at he
  · cases he
  · rename_i F2 em h2
    simp only [Option.some.injEq, Prod.mk.injEq] at he
    obtain ⟨rfl, rfl⟩ := he
    exact seq_evq (fun _ _ h h' => h.trans h') ht rest is ⟨F, [], []⟩ _ _ _ a w h2 hr.mem hF.fg (Kp.refl _ _) fun a' w' hf hE _ => k a' w' (hf.sel keep) hE

/-! ### In whatever order -/
/-- The operations of the tail wait for this one. -/
def tailB (ops : Array Oper) (Z : List Nat) (i : Nat) : Bool := Z.all fun j => match ops[j]? with | some o => o.after.any fun e => Region.binds .any e && e.on == i | none => true
theorem tailB_ok {ops : Array Oper} {Z : List Nat} {i : Nat} (h : tailB ops Z i = true) (j : Nat) (o : Oper) (hj : Z.elem j = true) (ho : ops[j]? = some o) : ∃ e ∈ o.after, Region.binds .any e = true ∧ e.on = i := by
  simp only [tailB, List.all_eq_true] at h
  have := h j (List.elem_iff.1 hj)
  simp only [ho] at this
  obtain ⟨e, he, hb⟩ := Array.any_eq_true'.1 this
  simp only [Bool.and_eq_true, beq_iff_eq] at hb
  exact ⟨e, he, hb.1, hb.2⟩

def hoist (ops : Array Oper) (Z : List Nat) : List Nat → Array Bool → Option (Array Bool)
  | [], listed => some listed
  | i :: is, listed => cond ((Region.ready .any ops listed).contains i && Region.free .any ops listed i && tailB ops Z i) (hoist ops Z is (listed.setIfInBounds i true)) none

theorem any_evq {tb : Tbl} {n : Nat} {ct : Ctl} {ds : List Deferred} {ops : Array Oper} {S : World → Prop} (hSE : ∀ w w', S w → Ext w w' → S w') (ht : Tbl.ok P tb = true) (hs : Region.noSelect ops = true) {K : Act → World → Prop} {Z : List Nat} (fuel : Nat) : ∀ (is : List Nat) (s : FGB) (F' : List (Nat × Value)) (rs em : List Req) (listed listed' : Array Bool) (a : Act) (w : World),
    evq tb n ct ops is s rs = some (F', em) → hoist ops Z is listed = some listed' → (∀ r ∈ em, r.ok P S) → Fg n ds ops s.F s.G s.B a → S w → (∀ a', Fr n ds F' a' → anyX P rn ops K Z S fuel listed' a' w) → anyX P rn ops K Z S (is.length + fuel) listed a w
  | [], s, F', rs, em, listed, listed', a, w, he, hh, hr, hF, hS, k => by
    simp only [evq, Option.some.injEq, Prod.mk.injEq] at he
    simp only [hoist, Option.some.injEq] at hh
    rw [← he.1, ← hh] at k
    simpa using k a hF.fr
  | i :: is, s, F', rs, em, listed, listed', a, w, he, hh, hr, hF, hS, k => by
    simp only [evq] at he
    split at he
    · cases he
    · rename_i s1 em1 rs1 h1
      split at he
      · cases he
      · rename_i F2 em2 h2
        cases he
        obtain ⟨o, v, ho, hy, hF'⟩ := ev1_ok ht hF h1 (fun r hr' => hr r (List.mem_append_left _ hr'))
        simp only [hoist] at hh
        cases hc : (Region.ready .any ops listed).contains i && Region.free .any ops listed i && tailB ops Z i with
        | false => rw [hc] at hh; cases hh
        | true =>
          rw [hc] at hh
          simp only [cond] at hh
          simp only [Bool.and_eq_true] at hc
          rw [List.length_cons, Nat.add_right_comm]
          exact anyX_first hSE ho (tailB_ok hc.2) (Region.noSelect_spec hs) _ listed a w (Region.free_spec ho hc.1.2) (by simpa using hc.1.1) hy hS
            (any_evq hSE ht hs fuel is s1 _ rs1 em2 _ listed' _ w h2 hh (fun r hr' => hr r (List.mem_append_right _ hr')) hF' hS k)

/-- A piece of a region that draws: what is quiet, taken first. -/
theorem any_quiet {tb : Tbl} {n : Nat} (ct : Ctl) {ds : List Deferred} {ops : Array Oper} {K : Act → World → Prop} {Z : List Nat} {S : World → Prop} {F F' : List (Nat × Value)} {rs : List Req} {listed : Array Bool} {a : Act} {w : World} (ht : Tbl.ok P tb = true) (hF : Fr n ds F a)
    (hSE : ∀ w w', S w → Ext w w' → S w') (hS : S w) (is : List Nat) (fuel : Nat) (listed' : Array Bool) (keep : List Nat) (hr : Reqs P S rs) (he : evk tb n ct ops is F rs keep = some (F', rs))
    (hh : (Region.noSelect ops && decide (hoist ops Z is listed = some listed')) = true)
    (k : ∀ a', Fr n ds F' a' → anyX P rn ops K Z S fuel listed' a' w) : anyX P rn ops K Z S (is.length + fuel) listed a w := by
  unfold evk at he
  simp only [Bool.and_eq_true, decide_eq_true_eq] at hh
  split at he
  · cases he
  · rename_i F2 em h2
    simp only [Option.some.injEq, Prod.mk.injEq] at he
    obtain ⟨rfl, rfl⟩ := he
    exact any_evq hSE ht hh.1 fuel is ⟨F, [], []⟩ _ _ _ listed listed' a w h2 hh.2 hr.mem hF.fg hS fun a' hf => k a' (hf.sel keep)

/-! ### A region that is quiet altogether -/
def lexB (ops : Array Oper) : Bool := match hoist ops [] (List.range ops.size) (Array.replicate ops.size false) with
  | some l => Region.noSelect ops && (Region.ready .any ops l).isEmpty
  | none => false

theorem region_q {tb : Tbl} {n : Nat} (ct : Ctl) {ds : List Deferred} {id : Nat} {ops : Array Oper} {Q : Exit → Act → World → Prop} {F F' : List (Nat × Value)} {rs : List Req} {a : Act} {w : World} (ht : Tbl.ok P tb = true) (hF : Fr n ds F a)
    (keep : List Nat) (hr : Reqs P (fun w' => Ext w w') rs) (he : evk tb n ct ops (List.range ops.size) F rs keep = some (F', rs))
    (k : ∀ a' w', Fr n ds F' a' → Ext w w' → Q .normal a' w') : W rn P (.region id ops false) Q a w := by
  refine region_seq ?_
  rw [← List.append_nil (List.range ops.size)]
  exact seq_quiet ct ht hF _ [] keep hr he fun a' w' hf hE => k a' w' hf hE

theorem region_d {tb : Tbl} {n : Nat} (ct : Ctl) {ds : List Deferred} {id : Nat} {ops : Array Oper} {Q : Exit → Act → World → Prop} {F F' : List (Nat × Value)} {rs : List Req} {a : Act} {w : World} (hm : P.follows .mixedOrders = true) (ht : Tbl.ok P tb = true) (hF : Fr n ds F a)
    (keep : List Nat) (hr : Reqs P (fun w' => Ext w w') rs) (he : evk tb n ct ops (List.range ops.size) F rs keep = some (F', rs)) (hl : lexB ops = true)
    (k : ∀ a' w', Fr n ds F' a' → Ext w w' → Q .normal a' w') : W rn P (.region id ops true) Q a w := by
  refine region_any hm [] (fun w' => Ext w w') ?_
  unfold lexB at hl
  split at hl
  · rename_i l hh
    simp only [Bool.and_eq_true] at hl
    have : ops.size = (List.range ops.size).length + 0 := by simp
    rw [show anyX P rn ops (Q .normal) [] (fun w' => Ext w w') ops.size = anyX P rn ops (Q .normal) [] (fun w' => Ext w w') ((List.range ops.size).length + 0) from by rw [← this]]
    exact any_quiet ct ht hF (fun _ _ h h' => h.trans h') (Ext.drew w) _ 0 l keep hr he (by simp [hl.1, hh]) fun a' hf => any_done (by simpa using hl.2) (fun w1 h1 => k a' w1 hf ((Ext.drew w).trans h1)) 0
  · cases hl

end Go.Proofs.Ytioimdegbdkppaa.DK
