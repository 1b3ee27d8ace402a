/- The base of my walks: one judgement for code inside and outside a round of a range over a function, regions that draw their order by hoisting what is quiet, loops by a falling number. -/
import Derived.RangeFuncRecord
import Derived.RangeFuncLeaves
import Derived.Orders
import Derived.Below
import Derived.RowKit
import Derived.KernelRfl
namespace Go.Proofs.Ytioimdegbdkppaa.DK
open Go

variable {P : Program} {rn : Option Nat}

def FW (rn : Option Nat) : Fence := { fn := fun _ => True, depth := none, alive := false, round := rn }

theorem FW_room (rn : Option Nat) (n : Nat) : (FW rn).room n := fun _ h => by simp [FW] at h
theorem FW_depth (rn : Option Nat) (p : Prop) : (FW rn).depth.isSome = true → p := fun h => by simp [FW] at h

theorem callsIn_FW {n : Nat} {f : FuncId} {args : Array Value} {w : World} {R : Ending → World → Prop} :
    CallsIn (FW rn) n P f args w R ↔ Calls P f args w R :=
  ⟨fun h cs => let ⟨e, w', fr, r, s, x⟩ := h.2 cs (FW_room _ _); ⟨e, w', fr, r, s.comes, x⟩,
   fun h => ⟨trivial, fun cs _ => let ⟨e, w', fr, r, s, x⟩ := h cs; ⟨e, w', fr, r, comesIn_wide.2 s, x⟩⟩⟩

theorem roundIn_FW {rn' : Option Nat} {n n' l : Nat} {f : FuncId} {tmps : Array Value} {assign body : Code} {w : World} {R : Ending → World → Prop}
    (h : RoundIn (FW rn) n P l f tmps assign body w R) : RoundIn (FW rn') n' P l f tmps assign body w R :=
  ⟨trivial, fun c cs _ => h.2 c cs (FW_room _ _)⟩

/-! ### Worlds: what lay outside M lies as it lay -/
structure Kp (M : Nat → Prop) (w w' : World) : Prop where
  os : w'.os = w.os
  tape : w'.tape = w.tape
  output : w'.output = w.output
  size : w.heap.size ≤ w'.heap.size
  block : ∀ k, k < w.heap.size → ¬ M k → w'.heap[k]? = w.heap[k]?

abbrev none_ : Nat → Prop := fun _ => False
abbrev Ext (w w' : World) : Prop := Kp none_ w w'

theorem Kp.refl (M : Nat → Prop) (w : World) : Kp M w w := ⟨rfl, rfl, rfl, Nat.le_refl _, fun _ _ _ => rfl⟩
theorem Kp.trans {M : Nat → Prop} {a b c : World} (h : Kp M a b) (k : Kp M b c) : Kp M a c :=
  ⟨k.os.trans h.os, k.tape.trans h.tape, k.output.trans h.output, Nat.le_trans h.size k.size, fun i hi hm => (k.block i (Nat.lt_of_lt_of_le hi h.size) hm).trans (h.block i hi hm)⟩
theorem Kp.mono {M M' : Nat → Prop} {a b : World} (h : Kp M a b) (hm : ∀ k, k < a.heap.size → M k → M' k) : Kp M' a b :=
  ⟨h.os, h.tape, h.output, h.size, fun k hk hn => h.block k hk fun hm' => hn (hm k hk hm')⟩
theorem Ext.kp {M : Nat → Prop} {a b : World} (h : Ext a b) : Kp M a b := h.mono fun _ _ h => h.elim
/-- Behind a step from a later world: what lay in the first one. -/
theorem Kp.trans' {M M' : Nat → Prop} {a b c : World} (h : Kp M a b) (k : Kp M' b c) (hm : ∀ i, i < a.heap.size → M' i → M i) : Kp M a c :=
  ⟨k.os.trans h.os, k.tape.trans h.tape, k.output.trans h.output, Nat.le_trans h.size k.size,
   fun i hi hn => (k.block i (Nat.lt_of_lt_of_le hi h.size) fun h' => hn (hm i hi h')).trans (h.block i hi hn)⟩
theorem Ext.alloc (w : World) (o : Obj) : Ext w (w.alloc o) := ⟨rfl, rfl, rfl, by simp, fun k hk _ => Go.RowKit.Below.heap_alloc w o k hk⟩
theorem Ext.drew (w : World) : Ext w { w with drawn := w.drawn + 1 } := ⟨rfl, rfl, rfl, Nat.le_refl _, fun _ _ _ => rfl⟩
theorem Ext.below {w w' : World} (h : Ext w w') : Go.RowKit.Below w.heap.size w w' := ⟨h.os, h.tape, h.output, h.size, fun k hk => h.block k hk fun h => h⟩
theorem Ext.of_below {w w' : World} (h : Go.RowKit.Below w.heap.size w w') : Ext w w' := ⟨h.os, h.tape, h.output, h.size, fun k hk _ => h.block k hk⟩
theorem block_lt {w : World} {p : Addr} {v : Value} (h : w.cell? p = some v) : p.block < w.heap.size := World.block_lt_of_cell? w p h
theorem Kp.cell {M : Nat → Prop} {w w' : World} (h : Kp M w w') {p : Addr} {v : Value} (hc : w.cell? p = some v) (hm : ¬ M p.block) : w'.cell? p = some v :=
  (World.cell?_of_block (w := w) (h.block p.block (block_lt hc) hm)).trans hc
theorem Ext.cell {w w' : World} (h : Ext w w') {p : Addr} {v : Value} (hc : w.cell? p = some v) : w'.cell? p = some v := Kp.cell h hc fun h => h
theorem obj_lt {w : World} {k : Nat} {o : Obj} (h : w.heap[k]? = some o) : k < w.heap.size := (Array.getElem?_eq_some_iff.1 h).1
theorem Kp.obj {M : Nat → Prop} {w w' : World} (h : Kp M w w') {k : Nat} {o : Obj} (hc : w.heap[k]? = some o) (hm : ¬ M k) : w'.heap[k]? = some o := (h.block k (obj_lt hc) hm).trans hc
theorem Ext.obj {w w' : World} (h : Ext w w') {k : Nat} {o : Obj} (hc : w.heap[k]? = some o) : w'.heap[k]? = some o := Kp.obj h hc fun h => h

/-- The judgement. -/
def W (rn : Option Nat) (P : Program) (c : Code) (Q : Exit → Act → World → Prop) (a : Act) (w : World) : Prop := c.wpIn (FW rn) 0 P Q a w

/-! ### One operation -/
def uponX (P : Program) (rn : Option Nat) (o : Oper) (a : Act) (K : Act → World → Prop) : Result Next → Prop
  | .ok (.value v) w' => K (a.put o.dst v) w'
  | .ok .skip w' => K (a.put o.dst undef) w'
  | .ok (.enter f args) w' => Calls P f args w' fun e w'' => ∃ v, e = .returned v ∧ K (a.put o.dst v) w''
  | .ok (.round l f tmps assign body) w' => RoundIn (FW rn) 0 P l f tmps assign body w' fun e w'' => ∃ v, e = .returned v ∧ K (a.put o.dst v) w''
  | _ => False

def opX (P : Program) (rn : Option Nat) (ops : Array Oper) (i : Nat) (K : Act → World → Prop) (a : Act) (w : World) : Prop :=
  match ops[i]? with
  | none => K a w
  | some o => if Region.wanted o (yielded ops a.tmps) then uponX P rn o a K ((execOp a.eval o).run P w) else K (a.put o.dst undef) w

theorem uponX_mono {o : Oper} {a : Act} {K K' : Act → World → Prop} {r : Result Next} (hk : ∀ a w, K a w → K' a w) (h : uponX P rn o a K r) : uponX P rn o a K' r := by
  cases r with
  | ok x w' =>
    cases x <;> simp only [uponX] at h ⊢
    case value => exact hk _ _ h
    case skip => exact hk _ _ h
    case enter => exact h.mono fun e w'' ⟨v, he, hv⟩ => ⟨v, he, hk _ _ hv⟩
    case round => exact h.mono fun e w'' ⟨v, he, hv⟩ => ⟨v, he, hk _ _ hv⟩
  | halt x w' => simp only [uponX] at h

theorem opX_mono {ops : Array Oper} {i : Nat} {K K' : Act → World → Prop} {a : Act} {w : World} (hk : ∀ a w, K a w → K' a w) (h : opX P rn ops i K a w) : opX P rn ops i K' a w := by
  unfold opX at *
  split
  · rename_i ho; simp only [ho] at h; exact hk _ _ h
  · rename_i o ho
    simp only [ho] at h
    split
    · rename_i hw; simp only [hw, if_true] at h; exact uponX_mono hk h
    · rename_i hw; simp only [hw, if_false, Bool.false_eq_true] at h; exact hk _ _ h

theorem resolve_total {ρ : Operand → Value} {c : Call} {t : TypeId} {w : World} : (∃ d, (resolve ρ c t).run P w = .ok d w) ∨ ∃ h w', (resolve ρ c t).run P w = .halt h w' := by
  cases h : (resolve ρ c t).run P w with
  | halt x w' => exact .inr ⟨_, _, rfl⟩
  | ok d w' =>
    refine .inl ⟨d, ?_⟩
    unfold resolve at h
    cases hc : c.callee with
    | builtin b => rw [hc] at h; simp only [pure, Sem.run] at h; cases h; rfl
    | invoke r m => rw [hc] at h; simp only [pure, Sem.run] at h; cases h; rfl
    | value f =>
      rw [hc] at h
      simp only [Deferred.ofValue] at h
      split at h <;> simp only [pure, stuck, Sem.run] at h <;> cases h <;> rfl

theorem wpIn_of_uponX {o : Oper} {a : Act} {w : World} {K : Act → World → Prop} {Q : Exit → Act → World → Prop} (h : uponX P rn o a K ((execOp a.eval o).run P w)) :
    o.wpIn (FW rn) 0 P a w K Q := by
  refine ⟨fun _ _ => trivial, ?_⟩
  have hd : ∀ c, o.op ≠ .defer c := by
    intro c hc
    unfold execOp at h
    rw [hc] at h
    simp only [Sem.run_bind] at h
    rcases resolve_total (P := P) (ρ := a.eval) (c := c) (t := o.type) (w := w) with ⟨d, hr⟩ | ⟨x, w', hr⟩
    · rw [hr] at h; simp [Result.andThen, pure, Sem.run, uponX] at h
    · rw [hr] at h; simp [Result.andThen, uponX] at h
  rw [Oper.semAt_eq _ _ _ hd]
  generalize (execOp a.eval o).run P w = r at *
  cases r with
  | ok x w' =>
    cases x <;> simp only [uponX] at h <;> simp only [Oper.uponIn]
    case value => exact h
    case skip => exact h
    case enter => exact ⟨FW_depth _ _, callsIn_FW.2 (h.mono fun e w'' ⟨v, he, hv⟩ => by subst he; exact hv)⟩
    case round => exact ⟨FW_depth _ _, h.mono fun e w'' ⟨v, he, hv⟩ => by subst he; exact hv⟩
  | halt x w' => simp only [uponX] at h

/-! ### Operations one after the other -/
def seqX (P : Program) (rn : Option Nat) (ops : Array Oper) (K : Act → World → Prop) : List Nat → Act → World → Prop
  | [], a, w => K a w
  | i :: r, a, w => opX P rn ops i (seqX P rn ops K r) a w

theorem wpOpsIn_of_seqX {ops : Array Oper} {K : Act → World → Prop} {Q : Exit → Act → World → Prop} (hk : ∀ a w, K a w → Q .normal a w) : ∀ (l : List Nat) (a : Act) (w : World),
    seqX P rn ops K l a w → wpOpsIn (FW rn) 0 P ops Q l a w
  | [], a, w, h => hk _ _ h
  | i :: r, a, w, h => by
    simp only [seqX, opX] at h
    simp only [wpOpsIn]
    cases ho : ops[i]? with
    | none => simp only [ho] at h; exact wpOpsIn_of_seqX hk r a w h
    | some o =>
      simp only [ho] at h
      by_cases hw : Region.wanted o (yielded ops a.tmps) = true
      · simp only [hw, if_true] at h ⊢
        exact wpIn_of_uponX (uponX_mono (fun a w h => wpOpsIn_of_seqX hk r a w h) h)
      · simp only [hw, if_false, Bool.false_eq_true] at h ⊢
        exact ⟨fun _ _ => trivial, wpOpsIn_of_seqX hk r _ w h⟩

theorem region_seq {id : Nat} {ops : Array Oper} {Q : Exit → Act → World → Prop} {a : Act} {w : World} (h : seqX P rn ops (Q .normal) (List.range ops.size) a w) :
    W rn P (.region id ops false) Q a w := wpIn_region (wpOpsIn_of_seqX (fun _ _ h => h) _ _ _ h)

/-! ### Operations in whatever order -/
def anyX (P : Program) (rn : Option Nat) (ops : Array Oper) (K : Act → World → Prop) (Z : List Nat) (S : World → Prop) : Nat → Array Bool → Act → World → Prop
  | 0, listed, a, w => ∀ w1, Ext w w1 → Region.ready .any ops listed = [] ∧ K a w1
  | fuel + 1, listed, a, w => ∀ w1, Ext w w1 →
    (Region.ready .any ops listed = [] → K a w1) ∧
    ∀ i ∈ Region.ready .any ops listed, opX P rn ops i (fun a' w' => (Z.elem i = true ∨ S w') ∧ anyX P rn ops K Z S fuel (listed.setIfInBounds i true) a' w') a w1

theorem anyX_ext {ops : Array Oper} {K : Act → World → Prop} {Z : List Nat} {S : World → Prop} {fuel : Nat} {listed : Array Bool} {a : Act} {w w' : World} (hE : Ext w w')
    (h : anyX P rn ops K Z S fuel listed a w) : anyX P rn ops K Z S fuel listed a w' := by
  cases fuel with
  | zero => exact fun w1 h1 => h w1 (hE.trans h1)
  | succ fuel => exact fun w1 h1 => h w1 (hE.trans h1)

theorem anyX_mono {ops : Array Oper} {K : Act → World → Prop} {Z : List Nat} {S S' : World → Prop} (hs : ∀ w, S w → S' w) : ∀ (fuel : Nat) (listed : Array Bool) (a : Act) (w : World),
    anyX P rn ops K Z S fuel listed a w → anyX P rn ops K Z S' fuel listed a w
  | 0, _, _, _, h => h
  | fuel + 1, _, _, _, h => fun w1 h1 => ⟨(h w1 h1).1, fun i hi => opX_mono (fun _ _ h' => ⟨h'.1.imp id (hs _), anyX_mono hs fuel _ _ _ h'.2⟩) ((h w1 h1).2 i hi)⟩

theorem seqX_of_any {ops : Array Oper} {K : Act → World → Prop} {Z : List Nat} {S : World → Prop} : ∀ (fuel t : Nat) (listed : Array Bool) (a : Act) (w : World), anyX P rn ops K Z S fuel listed a w →
    seqX P rn ops K (Region.linearise.go .any ops fuel t listed []) a w := by
  intro fuel
  induction fuel with
  | zero => intro t listed a w h; simpa [Region.linearise.go, seqX] using (h w (Kp.refl _ _)).2
  | succ fuel ih =>
    intro t listed a w h
    obtain ⟨h₀, h₁⟩ := h w (Kp.refl _ _)
    simp only [Region.linearise.go]
    change seqX P rn ops K (match (Region.ready .any ops listed)[t % (Region.ready .any ops listed).length]? with
      | some i => Region.linearise.go .any ops fuel (t / (Region.ready .any ops listed).length) (listed.setIfInBounds i true) [i]
      | none => [].reverse) a w
    cases hi : (Region.ready .any ops listed)[t % (Region.ready .any ops listed).length]? with
    | none =>
      have hnil : Region.ready .any ops listed = [] := by
        cases hr : Region.ready .any ops listed with
        | nil => rfl
        | cons x xs =>
          rw [hr] at hi
          have hlt : t % (x :: xs).length < (x :: xs).length := Nat.mod_lt _ (by simp)
          simp at hi
          simp at hlt
          omega
      simpa [seqX] using h₀ hnil
    | some i =>
      simp only []
      rw [linearise_go_acc, List.reverse_singleton, List.singleton_append]
      exact opX_mono (fun a w h => ih _ _ a w h.2) (h₁ i (List.mem_of_getElem? hi))

theorem region_any {id : Nat} {ops : Array Oper} {Q : Exit → Act → World → Prop} {a : Act} {w : World} (hm : P.follows .mixedOrders = true) (Z : List Nat) (S : World → Prop)
    (h : anyX P rn ops (Q .normal) Z S ops.size (Array.replicate ops.size false) a { w with drawn := w.drawn + 1 }) : W rn P (.region id ops true) Q a w :=
  wpIn_region_draw fun t => by
    simp only [Region.schedule, hm, Bool.true_or, if_true]
    exact wpOpsIn_of_seqX (fun _ _ h => h) _ _ _ (seqX_of_any ops.size t _ a _ h)

/-- Whichever comes up. -/
theorem any_pick {ops : Array Oper} {K : Act → World → Prop} {Z : List Nat} {S : World → Prop} {rs : List Nat} {fuel : Nat} {listed : Array Bool} {a : Act} {w : World} (hr : Region.ready .any ops listed = rs) (hne : rs ≠ [])
    (h : ∀ w1, Ext w w1 → ∀ i ∈ rs, opX P rn ops i (fun a' w' => (Z.elem i = true ∨ S w') ∧ anyX P rn ops K Z S fuel (listed.setIfInBounds i true) a' w') a w1) : anyX P rn ops K Z S (fuel + 1) listed a w :=
  fun w1 h1 => ⟨fun h0 => absurd (hr ▸ h0) hne, hr ▸ h w1 h1⟩

theorem any_done {ops : Array Oper} {K : Act → World → Prop} {Z : List Nat} {S : World → Prop} {listed : Array Bool} {a : Act} {w : World} (hr : Region.ready .any ops listed = []) (h : ∀ w1, Ext w w1 → K a w1) :
    ∀ fuel, anyX P rn ops K Z S fuel listed a w
  | 0 => fun w1 h1 => ⟨hr, h w1 h1⟩
  | _ + 1 => fun w1 h1 => ⟨fun _ => h w1 h1, by rw [hr]; simp⟩

/-! ### What is quiet may be taken first -/
def quietR (P : Program) (w : World) (v : Value) : Result Next → Prop
  | .ok (.value u) w' => w' = w ∧ u = v
  | .ok .skip w' => w' = w ∧ v = undef
  | .ok (.enter f args) w' => w' = w ∧ Calls P f args w fun e w'' => e = .returned v ∧ Ext w w''
  | _ => False

def YX (P : Program) (ops : Array Oper) (S : World → Prop) (o : Oper) (v : Value) (a : Act) : Prop :=
  (Region.wanted o (yielded ops a.tmps) = true ∧ ∀ w, S w → quietR P w v ((execOp a.eval o).run P w)) ∨
  (Region.wanted o (yielded ops a.tmps) = false ∧ v = undef)

theorem YX.of_same {ops : Array Oper} {S : World → Prop} {o : Oper} {v : Value} {a a' : Act} (hy : YX P ops S o v a) (he : execOp a'.eval o = execOp a.eval o)
    (hw : Region.wanted o (yielded ops a'.tmps) = Region.wanted o (yielded ops a.tmps)) : YX P ops S o v a' := by
  unfold YX at *
  rw [he, hw]
  exact hy

theorem YX.opX {ops : Array Oper} {S : World → Prop} {i : Nat} {o : Oper} {v : Value} {a : Act} {K : Act → World → Prop} {w : World} (hi : ops[i]? = some o) (hy : YX P ops S o v a) (hS : S w)
    (h : ∀ w', Ext w w' → K (a.put o.dst v) w') : opX P rn ops i K a w := by
  unfold DK.opX
  simp only [hi]
  rcases hy with ⟨hw, hv⟩ | ⟨hw, rfl⟩
  · simp only [hw, if_true]
    have h3 := hv w hS
    generalize (execOp a.eval o).run P w = r at *
    cases r with
    | ok n w' =>
      cases n <;> simp only [quietR] at h3 <;> simp only [uponX]
      case value u => obtain ⟨e1, e2⟩ := h3; subst e1; subst e2; exact h _ (Kp.refl _ _)
      case skip => obtain ⟨e1, e2⟩ := h3; subst e1; subst e2; exact h _ (Kp.refl _ _)
      case enter f args => obtain ⟨e1, hc⟩ := h3; subst e1; exact hc.mono fun e w'' ⟨he, hw''⟩ => ⟨v, he, h _ hw''⟩
    | halt x w' => simp only [quietR] at h3
  · simp only [hw, Bool.false_eq_true, if_false]; exact h _ (Kp.refl _ _)

theorem opX_put {ops : Array Oper} {S : World → Prop} {j : Nat} {oi oj : Oper} {v : Value} (hj : ops[j]? = some oj) (hap : oi.apart ops oj = true)
    (hsi : ∀ cs b, oi.op ≠ .select cs b) (hsj : ∀ cs b, oj.op ≠ .select cs b) {K : Act → World → Prop} {a : Act} {w : World}
    (hy : YX P ops S oi v a) (h : opX P rn ops j K (a.put oi.dst v) w) :
    opX P rn ops j (fun a' w' => YX P ops S oi v a' ∧ K (a'.put oi.dst v) w') a w := by
  obtain ⟨h1, h2, h3⟩ := Oper.apart_spec hap
  have keep : ∀ (a : Act), YX P ops S oi v a → ∀ u, YX P ops S oi v (a.put oj.dst u) := fun a hy u =>
    hy.of_same (execOp_put oi hsi a oj.dst u h3) (wanted_put oi a oj.dst u h3)
  unfold opX at *
  simp only [hj] at *
  rw [wanted_put oj a oi.dst v h1] at h
  split
  · rename_i hw
    simp only [hw, if_true] at h
    rw [execOp_put oj hsj a oi.dst v h1] at h
    generalize (execOp a.eval oj).run P w = r at *
    cases r with
    | ok n w' =>
      cases n <;> simp only [uponX] at h ⊢
      case value u => exact ⟨keep a hy u, by rw [← Act.put_comm a v u h2]; exact h⟩
      case skip => exact ⟨keep a hy _, by rw [← Act.put_comm a v undef h2]; exact h⟩
      case enter f args => exact h.mono fun e w'' ⟨u, he, hu⟩ => ⟨u, he, keep a hy u, by rw [← Act.put_comm a v u h2]; exact hu⟩
      case round l f tmps assign body => exact h.mono fun e w'' ⟨u, he, hu⟩ => ⟨u, he, keep a hy u, by rw [← Act.put_comm a v u h2]; exact hu⟩
    | halt x w' => simp only [uponX] at h
  · rename_i hw
    simp only [hw, if_false, Bool.false_eq_true] at h
    exact ⟨keep a hy _, by rw [← Act.put_comm a v undef h2]; exact h⟩

theorem anyX_first {ops : Array Oper} {K : Act → World → Prop} {Z : List Nat} {S : World → Prop} {i : Nat} {oi : Oper} {v : Value} (hSE : ∀ w w', S w → Ext w w' → S w') (hi : ops[i]? = some oi) (hZ : ∀ (j : Nat) (o : Oper), Z.elem j = true → ops[j]? = some o → ∃ e ∈ o.after, Region.binds .any e = true ∧ e.on = i) (hsel : ∀ (j : Nat) (o : Oper) cs b, ops[j]? = some o → o.op ≠ .select cs b) :
    ∀ (fuel : Nat) (listed : Array Bool) (a : Act) (w : World),
      (∀ j oj, ops[j]? = some oj → j ≠ i → listed.getD j true = false → (∀ e ∈ oj.after, Region.binds .any e = true → e.on ≠ i) → oi.apart ops oj = true) →
      i ∈ Region.ready .any ops listed → YX P ops S oi v a → S w →
      anyX P rn ops K Z S fuel (listed.setIfInBounds i true) (a.put oi.dst v) w → anyX P rn ops K Z S (fuel + 1) listed a w := by
  intro fuel
  induction fuel with
  | zero =>
    intro listed a w _ hr hy hS H w1 hE
    refine ⟨fun h => (by rw [h] at hr; cases hr), fun j hj => ?_⟩
    by_cases hji : j = i
    · subst hji; exact hy.opX hi (hSE _ _ hS hE) fun w' hw' => ⟨.inr (hSE _ _ (hSE _ _ hS hE) hw'), anyX_ext (hE.trans hw') H⟩
    · have := ready_mono hj hji
      rw [(H w (Kp.refl _ _)).1] at this
      cases this
  | succ fuel ih =>
    intro listed a w hfree hr hy hS H w1 hE
    refine ⟨fun h => (by rw [h] at hr; cases hr), fun j hj => ?_⟩
    by_cases hji : j = i
    · subst hji; exact hy.opX hi (hSE _ _ hS hE) fun w' hw' => ⟨.inr (hSE _ _ (hSE _ _ hS hE) hw'), anyX_ext (hE.trans hw') H⟩
    · have h1 := (H w1 hE).2 j (ready_mono hj hji)
      obtain ⟨hjun, oj, hoj, hall⟩ := mem_ready.1 hj
      have hnot : ∀ e ∈ oj.after, Region.binds .any e = true → e.on ≠ i := fun e he hb heq => by
        have h1 := hall e he hb
        have h0 := (mem_ready.1 hr).1
        rw [heq] at h1
        rcases Nat.lt_or_ge i listed.size with h' | h'
        · simp [h'] at h0 h1; rw [h0] at h1; cases h1
        · simp [Array.getElem?_eq_none h'] at h1
      have hfree' : ∀ k ok, ops[k]? = some ok → k ≠ i → (listed.setIfInBounds j true).getD k true = false →
          (∀ e ∈ ok.after, Region.binds .any e = true → e.on ≠ i) → oi.apart ops ok = true := fun k ok hk hki hun hno => by
        refine hfree k ok hk hki ?_ hno
        by_cases hjk : j = k
        · subst hjk; exact hjun
        · rw [getD_set_ne true hjk] at hun; exact hun
      have h2 := opX_put hoj (hfree j oj hoj hji hjun hnot) (fun cs b => hsel i oi cs b hi) (fun cs b => hsel j oj cs b hoj) hy h1
      have hSj : ∀ w', (Z.elem j = true ∨ S w') → S w' := fun w' h => h.resolve_left fun hz => by
        obtain ⟨e, he, hb, heq⟩ := hZ j oj hz hoj
        exact hnot e he hb heq
      refine opX_mono (fun a' w' h3 => ⟨h3.2.1, ih (listed.setIfInBounds j true) a' w' hfree' (ready_mono hr (Ne.symm hji)) h3.1 (hSj _ h3.2.1) ?_⟩) h2
      rw [Array.setIfInBounds_comm _ _ hji]
      exact h3.2.2

/-! ### Control -/
section
variable {Q : Exit → Act → World → Prop} {a : Act} {w : World}
theorem W_mono {c : Code} {Q' : Exit → Act → World → Prop} (h : W rn P c Q a w) (hq : ∀ e a w, Q e a w → Q' e a w) : W rn P c Q' a w := wpIn_mono h hq
theorem W_skip (h : Q .normal a w) : W rn P .skip Q a w := wpIn_skip h
theorem W_label {l : Nat} (h : Q .normal a w) : W rn P (.label l) Q a w := wpIn_label h
theorem W_exit {id : Nat} (h : Q (.exit id) a w) : W rn P (.exit id) Q a w := wpIn_exit h
theorem W_ret (h : Q .ret a w) : W rn P .ret Q a w := wpIn_ret h
theorem W_seq {x y : Code} (h : W rn P x (Exit.then (W rn P y Q) Q) a w) : W rn P (.seq x y) Q a w := wpIn_seq h
theorem W_true {c : Operand} {x y : Code} (hc : a.eval c = .bool true) (h : W rn P x Q a w) : W rn P (.cond c x y) Q a w := wpIn_cond_true hc h
theorem W_false {c : Operand} {x y : Code} (hc : a.eval c = .bool false) (h : W rn P y Q a w) : W rn P (.cond c x y) Q a w := wpIn_cond_false hc h
theorem W_block {id : Nat} {c : Code} (h : W rn P c (Exit.inBlock id Q) a w) : W rn P (.block id c) Q a w := wpIn_block h

theorem W_loop {c : Code} (I : Nat → Act → World → Prop) (n : Nat) (h₀ : I n a w)
    (round : ∀ n a w, I n a w → W rn P c (Exit.then (fun a' w' => ∃ m, m < n ∧ I m a' w') Q) a w) : W rn P (.loop c) Q a w := by
  intro b k cs hro hb hr
  have key : ∀ n a w, I n a w → ∃ e a' w', Q e a' w' ∧ ArrivesIn (Machine.fenced P (FW rn)) P (lone (b.atR a (.code c :: .inLoop c :: k)) cs w) b k cs e a' w' := by
    intro n
    induction n using Nat.strongRecOn with
    | _ n ih =>
      intro a w hI
      obtain ⟨e, a₁, w₁, hq, harr⟩ := round n a w hI b (.inLoop c :: k) cs hro hb hr
      cases e with
      | normal =>
        obtain ⟨m, hlt, hI₁⟩ := hq
        obtain ⟨e₂, a₂, w₂, hq₂, harr₂⟩ := ih m hlt a₁ w₁ hI₁
        exact ⟨e₂, a₂, w₂, hq₂, .of_steps (StepsIn.trans harr (.one (fenced_calm hb hr rfl) stepR_inLoop)) harr₂⟩
      | exit id => exact ⟨_, a₁, w₁, hq, .pass (x := .inLoop c) rfl (fun _ _ => .inl (by simp)) harr⟩
      | goto l => exact ⟨_, a₁, w₁, hq, .pass (x := .inLoop c) rfl (fun _ _ => .inl (by simp)) harr⟩
      | ret => exact ⟨_, a₁, w₁, hq, .pass (x := .inLoop c) rfl (fun _ _ => .inl (by simp)) harr⟩
      | panic ch => exact ⟨_, a₁, w₁, hq, .pass (x := .inLoop c) rfl (fun _ _ => .inl (by simp)) harr⟩
      | outgrown => exact ⟨_, a₁, w₁, hq, .pass (x := .inLoop c) rfl (fun _ _ => .inl (by simp)) harr⟩
  obtain ⟨e, a', w', hq, harr⟩ := key n a w h₀
  exact ⟨e, a', w', hq, .of_steps (.one (fenced_calm hb hr rfl) stepR_loop) harr⟩
end
end Go.Proofs.Ytioimdegbdkppaa.DK
