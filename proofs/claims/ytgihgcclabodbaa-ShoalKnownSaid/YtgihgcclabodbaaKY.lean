/- My library of walks: a judgement, regions by reckoning, resources, ranges, maps, rows; what this seat uses of it. No program in it. -/
import Derived.RangeFuncRecord
import Derived.RangeFuncLeaves
import Derived.Orders
import Derived.Below
import Derived.RowKit
import Derived.KernelRfl
import Derived.Laws.Cells
import Derived.Laws.Sem
import Derived.Laws.BitsLemmas
import Derived.Maps.AppendAt
import Derived.Laws.OwnMore
import Derived.Scope
import Derived.ChangeKeysEq
import Derived.Laws.StructEq
import Derived.ArgAppend
import Derived.Laws.Small
import Derived.Laws.Pointers
namespace Go.Proofs.Ytgihgcclabodbaa.DK
open Go
variable {P : Program} {rn : Option Nat}
def FW (rn : Option Nat) : Fence := { fn := fun _ => True, depth := none, alive := false, round := rn }
theorem FW_room (rn : Option Nat) (n : Nat) : (FW rn).room n := fun _ h => by simp [FW] at h
theorem FW_depth (rn : Option Nat) (p : Prop) : (FW rn).depth.isSome = true → p := fun h => by simp [FW] at h
theorem callsIn_FW {n : Nat} {f : FuncId} {args : Array Value} {w : World} {R : Ending → World → Prop} :
    CallsIn (FW rn) n P f args w R ↔ Calls P f args w R :=
  ⟨fun h cs => let ⟨e, w', fr, r, s, x⟩ := h.2 cs (FW_room _ _); ⟨e, w', fr, r, s.comes, x⟩,
   fun h => ⟨trivial, fun cs _ => let ⟨e, w', fr, r, s, x⟩ := h cs; ⟨e, w', fr, r, comesIn_wide.2 s, x⟩⟩⟩
theorem roundIn_FW {rn' : Option Nat} {n n' l : Nat} {f : FuncId} {tmps : Array Value} {assign body : Code} {w : World} {R : Ending → World → Prop}
    (h : RoundIn (FW rn) n P l f tmps assign body w R) : RoundIn (FW rn') n' P l f tmps assign body w R :=
  ⟨trivial, fun c cs _ => h.2 c cs (FW_room _ _)⟩
structure Kp (M : Nat → Prop) (w w' : World) : Prop where
  os : w'.os = w.os
  tape : w'.tape = w.tape
  output : w'.output = w.output
  size : w.heap.size ≤ w'.heap.size
  block : ∀ k, k < w.heap.size → ¬ M k → w'.heap[k]? = w.heap[k]?
abbrev none_ : Nat → Prop := fun _ => False
abbrev Ext (w w' : World) : Prop := Kp none_ w w'
theorem Kp.refl (M : Nat → Prop) (w : World) : Kp M w w := ⟨rfl, rfl, rfl, Nat.le_refl _, fun _ _ _ => rfl⟩
theorem Kp.trans {M : Nat → Prop} {a b c : World} (h : Kp M a b) (k : Kp M b c) : Kp M a c :=
  ⟨k.os.trans h.os, k.tape.trans h.tape, k.output.trans h.output, Nat.le_trans h.size k.size, fun i hi hm => (k.block i (Nat.lt_of_lt_of_le hi h.size) hm).trans (h.block i hi hm)⟩
theorem Kp.mono {M M' : Nat → Prop} {a b : World} (h : Kp M a b) (hm : ∀ k, k < a.heap.size → M k → M' k) : Kp M' a b :=
  ⟨h.os, h.tape, h.output, h.size, fun k hk hn => h.block k hk fun hm' => hn (hm k hk hm')⟩
theorem Ext.kp {M : Nat → Prop} {a b : World} (h : Ext a b) : Kp M a b := h.mono fun _ _ h => h.elim
/-- Behind a step from a later world: what lay in the first one. -/
theorem Kp.trans' {M M' : Nat → Prop} {a b c : World} (h : Kp M a b) (k : Kp M' b c) (hm : ∀ i, i < a.heap.size → M' i → M i) : Kp M a c :=
  ⟨k.os.trans h.os, k.tape.trans h.tape, k.output.trans h.output, Nat.le_trans h.size k.size,
   fun i hi hn => (k.block i (Nat.lt_of_lt_of_le hi h.size) fun h' => hn (hm i hi h')).trans (h.block i hi hn)⟩
theorem Ext.alloc (w : World) (o : Obj) : Ext w (w.alloc o) := ⟨rfl, rfl, rfl, by simp, fun k hk _ => Go.RowKit.Below.heap_alloc w o k hk⟩
theorem Ext.drew (w : World) : Ext w { w with drawn := w.drawn + 1 } := ⟨rfl, rfl, rfl, Nat.le_refl _, fun _ _ _ => rfl⟩
theorem Ext.below {w w' : World} (h : Ext w w') : Go.RowKit.Below w.heap.size w w' := ⟨h.os, h.tape, h.output, h.size, fun k hk => h.block k hk fun h => h⟩
theorem block_lt {w : World} {p : Addr} {v : Value} (h : w.cell? p = some v) : p.block < w.heap.size := World.block_lt_of_cell? w p h
theorem Kp.cell {M : Nat → Prop} {w w' : World} (h : Kp M w w') {p : Addr} {v : Value} (hc : w.cell? p = some v) (hm : ¬ M p.block) : w'.cell? p = some v :=
  (World.cell?_of_block (w := w) (h.block p.block (block_lt hc) hm)).trans hc
theorem Ext.cell {w w' : World} (h : Ext w w') {p : Addr} {v : Value} (hc : w.cell? p = some v) : w'.cell? p = some v := Kp.cell h hc fun h => h
theorem obj_lt {w : World} {k : Nat} {o : Obj} (h : w.heap[k]? = some o) : k < w.heap.size := (Array.getElem?_eq_some_iff.1 h).1
/-- The judgement. -/
def W (rn : Option Nat) (P : Program) (c : Code) (Q : Exit → Act → World → Prop) (a : Act) (w : World) : Prop := c.wpIn (FW rn) 0 P Q a w
def uponX (P : Program) (rn : Option Nat) (o : Oper) (a : Act) (K : Act → World → Prop) : Result Next → Prop
  | .ok (.value v) w' => K (a.put o.dst v) w'
  | .ok .skip w' => K (a.put o.dst undef) w'
  | .ok (.enter f args) w' => Calls P f args w' fun e w'' => ∃ v, e = .returned v ∧ K (a.put o.dst v) w''
  | .ok (.round l f tmps assign body) w' => RoundIn (FW rn) 0 P l f tmps assign body w' fun e w'' => ∃ v, e = .returned v ∧ K (a.put o.dst v) w''
  | _ => False
def opX (P : Program) (rn : Option Nat) (ops : Array Oper) (i : Nat) (K : Act → World → Prop) (a : Act) (w : World) : Prop :=
  match ops[i]? with
  | none => K a w
  | some o => if Region.wanted o (yielded ops a.tmps) then uponX P rn o a K ((execOp a.eval o).run P w) else K (a.put o.dst undef) w
theorem uponX_mono {o : Oper} {a : Act} {K K' : Act → World → Prop} {r : Result Next} (hk : ∀ a w, K a w → K' a w) (h : uponX P rn o a K r) : uponX P rn o a K' r := by
  cases r with
  | ok x w' =>
    cases x <;> simp only [uponX] at h ⊢
    case value => exact hk _ _ h
    case skip => exact hk _ _ h
    case enter => exact h.mono fun e w'' ⟨v, he, hv⟩ => ⟨v, he, hk _ _ hv⟩
    case round => exact h.mono fun e w'' ⟨v, he, hv⟩ => ⟨v, he, hk _ _ hv⟩
  | halt x w' => simp only [uponX] at h
theorem opX_mono {ops : Array Oper} {i : Nat} {K K' : Act → World → Prop} {a : Act} {w : World} (hk : ∀ a w, K a w → K' a w) (h : opX P rn ops i K a w) : opX P rn ops i K' a w := by
  unfold opX at *
  split
  · rename_i ho; simp only [ho] at h; exact hk _ _ h
  · rename_i o ho
    simp only [ho] at h
    split
    · rename_i hw; simp only [hw, if_true] at h; exact uponX_mono hk h
    · rename_i hw; simp only [hw, if_false, Bool.false_eq_true] at h; exact hk _ _ h
theorem resolve_total {ρ : Operand → Value} {c : Call} {t : TypeId} {w : World} : (∃ d, (resolve ρ c t).run P w = .ok d w) ∨ ∃ h w', (resolve ρ c t).run P w = .halt h w' := by
  cases h : (resolve ρ c t).run P w with
  | halt x w' => exact .inr ⟨_, _, rfl⟩
  | ok d w' =>
    refine .inl ⟨d, ?_⟩
    unfold resolve at h
    cases hc : c.callee with
    | builtin b => rw [hc] at h; simp only [pure, Sem.run] at h; cases h; rfl
    | invoke r m => rw [hc] at h; simp only [pure, Sem.run] at h; cases h; rfl
    | value f =>
      rw [hc] at h
      simp only [Deferred.ofValue] at h
      split at h <;> simp only [pure, stuck, Sem.run] at h <;> cases h <;> rfl
theorem wpIn_of_uponX {o : Oper} {a : Act} {w : World} {K : Act → World → Prop} {Q : Exit → Act → World → Prop} (h : uponX P rn o a K ((execOp a.eval o).run P w)) :
    o.wpIn (FW rn) 0 P a w K Q := by
  refine ⟨fun _ _ => trivial, ?_⟩
  have hd : ∀ c, o.op ≠ .defer c := by
    intro c hc
    unfold execOp at h
    rw [hc] at h
    simp only [Sem.run_bind] at h
    rcases resolve_total (P := P) (ρ := a.eval) (c := c) (t := o.type) (w := w) with ⟨d, hr⟩ | ⟨x, w', hr⟩
    · rw [hr] at h; simp [Result.andThen, pure, uponX] at h
    · rw [hr] at h; simp [Result.andThen, uponX] at h
  rw [Oper.semAt_eq _ _ _ hd]
  generalize (execOp a.eval o).run P w = r at *
  cases r with
  | ok x w' =>
    cases x <;> simp only [uponX] at h <;> simp only [Oper.uponIn]
    case value => exact h
    case skip => exact h
    case enter => exact ⟨FW_depth _ _, callsIn_FW.2 (h.mono fun e w'' ⟨v, he, hv⟩ => by subst he; exact hv)⟩
    case round => exact ⟨FW_depth _ _, h.mono fun e w'' ⟨v, he, hv⟩ => by subst he; exact hv⟩
  | halt x w' => simp only [uponX] at h
def seqX (P : Program) (rn : Option Nat) (ops : Array Oper) (K : Act → World → Prop) : List Nat → Act → World → Prop
  | [], a, w => K a w
  | i :: r, a, w => opX P rn ops i (seqX P rn ops K r) a w
theorem wpOpsIn_of_seqX {ops : Array Oper} {K : Act → World → Prop} {Q : Exit → Act → World → Prop} (hk : ∀ a w, K a w → Q .normal a w) : ∀ (l : List Nat) (a : Act) (w : World),
    seqX P rn ops K l a w → wpOpsIn (FW rn) 0 P ops Q l a w
  | [], a, w, h => hk _ _ h
  | i :: r, a, w, h => by
    simp only [seqX, opX] at h
    simp only [wpOpsIn]
    cases ho : ops[i]? with
    | none => simp only [ho] at h; exact wpOpsIn_of_seqX hk r a w h
    | some o =>
      simp only [ho] at h
      by_cases hw : Region.wanted o (yielded ops a.tmps) = true
      · simp only [hw, if_true] at h ⊢
        exact wpIn_of_uponX (uponX_mono (fun a w h => wpOpsIn_of_seqX hk r a w h) h)
      · simp only [hw, if_false, Bool.false_eq_true] at h ⊢
        exact ⟨fun _ _ => trivial, wpOpsIn_of_seqX hk r _ w h⟩
theorem region_seq {id : Nat} {ops : Array Oper} {Q : Exit → Act → World → Prop} {a : Act} {w : World} (h : seqX P rn ops (Q .normal) (List.range ops.size) a w) :
    W rn P (.region id ops false) Q a w := wpIn_region (wpOpsIn_of_seqX (fun _ _ h => h) _ _ _ h)
def anyX (P : Program) (rn : Option Nat) (ops : Array Oper) (K : Act → World → Prop) (Z : List Nat) (S : World → Prop) : Nat → Array Bool → Act → World → Prop
  | 0, listed, a, w => ∀ w1, Ext w w1 → Region.ready .any ops listed = [] ∧ K a w1
  | fuel + 1, listed, a, w => ∀ w1, Ext w w1 →
    (Region.ready .any ops listed = [] → K a w1) ∧
    ∀ i ∈ Region.ready .any ops listed, opX P rn ops i (fun a' w' => (Z.elem i = true ∨ S w') ∧ anyX P rn ops K Z S fuel (listed.setIfInBounds i true) a' w') a w1
theorem anyX_ext {ops : Array Oper} {K : Act → World → Prop} {Z : List Nat} {S : World → Prop} {fuel : Nat} {listed : Array Bool} {a : Act} {w w' : World} (hE : Ext w w')
    (h : anyX P rn ops K Z S fuel listed a w) : anyX P rn ops K Z S fuel listed a w' := by
  cases fuel with
  | zero => exact fun w1 h1 => h w1 (hE.trans h1)
  | succ fuel => exact fun w1 h1 => h w1 (hE.trans h1)
theorem anyX_mono {ops : Array Oper} {K : Act → World → Prop} {Z : List Nat} {S S' : World → Prop} (hs : ∀ w, S w → S' w) : ∀ (fuel : Nat) (listed : Array Bool) (a : Act) (w : World),
    anyX P rn ops K Z S fuel listed a w → anyX P rn ops K Z S' fuel listed a w
  | 0, _, _, _, h => h
  | fuel + 1, _, _, _, h => fun w1 h1 => ⟨(h w1 h1).1, fun i hi => opX_mono (fun _ _ h' => ⟨h'.1.imp id (hs _), anyX_mono hs fuel _ _ _ h'.2⟩) ((h w1 h1).2 i hi)⟩
theorem seqX_of_any {ops : Array Oper} {K : Act → World → Prop} {Z : List Nat} {S : World → Prop} : ∀ (fuel t : Nat) (listed : Array Bool) (a : Act) (w : World), anyX P rn ops K Z S fuel listed a w →
    seqX P rn ops K (Region.linearise.go .any ops fuel t listed []) a w := by
  intro fuel
  induction fuel with
  | zero => intro t listed a w h; simpa [Region.linearise.go, seqX] using (h w (Kp.refl _ _)).2
  | succ fuel ih =>
    intro t listed a w h
    obtain ⟨h₀, h₁⟩ := h w (Kp.refl _ _)
    simp only [Region.linearise.go]
    change seqX P rn ops K (match (Region.ready .any ops listed)[t % (Region.ready .any ops listed).length]? with
      | some i => Region.linearise.go .any ops fuel (t / (Region.ready .any ops listed).length) (listed.setIfInBounds i true) [i]
      | none => [].reverse) a w
    cases hi : (Region.ready .any ops listed)[t % (Region.ready .any ops listed).length]? with
    | none =>
      have hnil : Region.ready .any ops listed = [] := by
        cases hr : Region.ready .any ops listed with
        | nil => rfl
        | cons x xs =>
          rw [hr] at hi
          have hlt : t % (x :: xs).length < (x :: xs).length := Nat.mod_lt _ (by simp)
          simp at hi
          simp at hlt
          omega
      simpa [seqX] using h₀ hnil
    | some i =>
      simp only []
      rw [linearise_go_acc, List.reverse_singleton, List.singleton_append]
      exact opX_mono (fun a w h => ih _ _ a w h.2) (h₁ i (List.mem_of_getElem? hi))
theorem region_any {id : Nat} {ops : Array Oper} {Q : Exit → Act → World → Prop} {a : Act} {w : World} (hm : P.follows .mixedOrders = true) (Z : List Nat) (S : World → Prop)
    (h : anyX P rn ops (Q .normal) Z S ops.size (Array.replicate ops.size false) a { w with drawn := w.drawn + 1 }) : W rn P (.region id ops true) Q a w :=
  wpIn_region_draw fun t => by
    simp only [Region.schedule, hm, Bool.true_or, if_true]
    exact wpOpsIn_of_seqX (fun _ _ h => h) _ _ _ (seqX_of_any ops.size t _ a _ h)
/-- Whichever comes up. -/
theorem any_pick {ops : Array Oper} {K : Act → World → Prop} {Z : List Nat} {S : World → Prop} {rs : List Nat} {fuel : Nat} {listed : Array Bool} {a : Act} {w : World} (hr : Region.ready .any ops listed = rs) (hne : rs ≠ [])
    (h : ∀ w1, Ext w w1 → ∀ i ∈ rs, opX P rn ops i (fun a' w' => (Z.elem i = true ∨ S w') ∧ anyX P rn ops K Z S fuel (listed.setIfInBounds i true) a' w') a w1) : anyX P rn ops K Z S (fuel + 1) listed a w :=
  fun w1 h1 => ⟨fun h0 => absurd (hr ▸ h0) hne, hr ▸ h w1 h1⟩
theorem any_done {ops : Array Oper} {K : Act → World → Prop} {Z : List Nat} {S : World → Prop} {listed : Array Bool} {a : Act} {w : World} (hr : Region.ready .any ops listed = []) (h : ∀ w1, Ext w w1 → K a w1) :
    ∀ fuel, anyX P rn ops K Z S fuel listed a w
  | 0 => fun w1 h1 => ⟨hr, h w1 h1⟩
  | _ + 1 => fun w1 h1 => ⟨fun _ => h w1 h1, by rw [hr]; simp⟩
def quietR (P : Program) (w : World) (v : Value) : Result Next → Prop
  | .ok (.value u) w' => w' = w ∧ u = v
  | .ok .skip w' => w' = w ∧ v = undef
  | .ok (.enter f args) w' => w' = w ∧ Calls P f args w fun e w'' => e = .returned v ∧ Ext w w''
  | _ => False
def YX (P : Program) (ops : Array Oper) (S : World → Prop) (o : Oper) (v : Value) (a : Act) : Prop :=
  (Region.wanted o (yielded ops a.tmps) = true ∧ ∀ w, S w → quietR P w v ((execOp a.eval o).run P w)) ∨
  (Region.wanted o (yielded ops a.tmps) = false ∧ v = undef)
theorem YX.of_same {ops : Array Oper} {S : World → Prop} {o : Oper} {v : Value} {a a' : Act} (hy : YX P ops S o v a) (he : execOp a'.eval o = execOp a.eval o)
    (hw : Region.wanted o (yielded ops a'.tmps) = Region.wanted o (yielded ops a.tmps)) : YX P ops S o v a' := by
  unfold YX at *
  rw [he, hw]
  exact hy
theorem YX.opX {ops : Array Oper} {S : World → Prop} {i : Nat} {o : Oper} {v : Value} {a : Act} {K : Act → World → Prop} {w : World} (hi : ops[i]? = some o) (hy : YX P ops S o v a) (hS : S w)
    (h : ∀ w', Ext w w' → K (a.put o.dst v) w') : opX P rn ops i K a w := by
  unfold DK.opX
  simp only [hi]
  rcases hy with ⟨hw, hv⟩ | ⟨hw, rfl⟩
  · simp only [hw, if_true]
    have h3 := hv w hS
    generalize (execOp a.eval o).run P w = r at *
    cases r with
    | ok n w' =>
      cases n <;> simp only [quietR] at h3 <;> simp only [uponX]
      case value u => obtain ⟨e1, e2⟩ := h3; subst e1; subst e2; exact h _ (Kp.refl _ _)
      case skip => obtain ⟨e1, e2⟩ := h3; subst e1; subst e2; exact h _ (Kp.refl _ _)
      case enter f args => obtain ⟨e1, hc⟩ := h3; subst e1; exact hc.mono fun e w'' ⟨he, hw''⟩ => ⟨v, he, h _ hw''⟩
    | halt x w' => simp only [quietR] at h3
  · simp only [hw, Bool.false_eq_true, if_false]; exact h _ (Kp.refl _ _)
theorem opX_put {ops : Array Oper} {S : World → Prop} {j : Nat} {oi oj : Oper} {v : Value} (hj : ops[j]? = some oj) (hap : oi.apart ops oj = true)
    (hsi : ∀ cs b, oi.op ≠ .select cs b) (hsj : ∀ cs b, oj.op ≠ .select cs b) {K : Act → World → Prop} {a : Act} {w : World}
    (hy : YX P ops S oi v a) (h : opX P rn ops j K (a.put oi.dst v) w) :
    opX P rn ops j (fun a' w' => YX P ops S oi v a' ∧ K (a'.put oi.dst v) w') a w := by
  obtain ⟨h1, h2, h3⟩ := Oper.apart_spec hap
  have keep : ∀ (a : Act), YX P ops S oi v a → ∀ u, YX P ops S oi v (a.put oj.dst u) := fun a hy u =>
    hy.of_same (execOp_put oi hsi a oj.dst u h3) (wanted_put oi a oj.dst u h3)
  unfold opX at *
  simp only [hj] at *
  rw [wanted_put oj a oi.dst v h1] at h
  split
  · rename_i hw
    simp only [hw, if_true] at h
    rw [execOp_put oj hsj a oi.dst v h1] at h
    generalize (execOp a.eval oj).run P w = r at *
    cases r with
    | ok n w' =>
      cases n <;> simp only [uponX] at h ⊢
      case value u => exact ⟨keep a hy u, by rw [← Act.put_comm a v u h2]; exact h⟩
      case skip => exact ⟨keep a hy _, by rw [← Act.put_comm a v undef h2]; exact h⟩
      case enter f args => exact h.mono fun e w'' ⟨u, he, hu⟩ => ⟨u, he, keep a hy u, by rw [← Act.put_comm a v u h2]; exact hu⟩
      case round l f tmps assign body => exact h.mono fun e w'' ⟨u, he, hu⟩ => ⟨u, he, keep a hy u, by rw [← Act.put_comm a v u h2]; exact hu⟩
    | halt x w' => simp only [uponX] at h
  · rename_i hw
    simp only [hw, if_false, Bool.false_eq_true] at h
    exact ⟨keep a hy _, by rw [← Act.put_comm a v undef h2]; exact h⟩
theorem anyX_first {ops : Array Oper} {K : Act → World → Prop} {Z : List Nat} {S : World → Prop} {i : Nat} {oi : Oper} {v : Value} (hSE : ∀ w w', S w → Ext w w' → S w') (hi : ops[i]? = some oi) (hZ : ∀ (j : Nat) (o : Oper), Z.elem j = true → ops[j]? = some o → ∃ e ∈ o.after, Region.binds .any e = true ∧ e.on = i) (hsel : ∀ (j : Nat) (o : Oper) cs b, ops[j]? = some o → o.op ≠ .select cs b) :
    ∀ (fuel : Nat) (listed : Array Bool) (a : Act) (w : World),
      (∀ j oj, ops[j]? = some oj → j ≠ i → listed.getD j true = false → (∀ e ∈ oj.after, Region.binds .any e = true → e.on ≠ i) → oi.apart ops oj = true) →
      i ∈ Region.ready .any ops listed → YX P ops S oi v a → S w →
      anyX P rn ops K Z S fuel (listed.setIfInBounds i true) (a.put oi.dst v) w → anyX P rn ops K Z S (fuel + 1) listed a w := by
  intro fuel
  induction fuel with
  | zero =>
    intro listed a w _ hr hy hS H w1 hE
    refine ⟨fun h => (by rw [h] at hr; cases hr), fun j hj => ?_⟩
    by_cases hji : j = i
    · subst hji; exact hy.opX hi (hSE _ _ hS hE) fun w' hw' => ⟨.inr (hSE _ _ (hSE _ _ hS hE) hw'), anyX_ext (hE.trans hw') H⟩
    · have := ready_mono hj hji
      rw [(H w (Kp.refl _ _)).1] at this
      cases this
  | succ fuel ih =>
    intro listed a w hfree hr hy hS H w1 hE
    refine ⟨fun h => (by rw [h] at hr; cases hr), fun j hj => ?_⟩
    by_cases hji : j = i
    · subst hji; exact hy.opX hi (hSE _ _ hS hE) fun w' hw' => ⟨.inr (hSE _ _ (hSE _ _ hS hE) hw'), anyX_ext (hE.trans hw') H⟩
    · have h1 := (H w1 hE).2 j (ready_mono hj hji)
      obtain ⟨hjun, oj, hoj, hall⟩ := mem_ready.1 hj
      have hnot : ∀ e ∈ oj.after, Region.binds .any e = true → e.on ≠ i := fun e he hb heq => by
        have h1 := hall e he hb
        have h0 := (mem_ready.1 hr).1
        rw [heq] at h1
        rcases Nat.lt_or_ge i listed.size with h' | h'
        · simp [h'] at h0 h1; rw [h0] at h1; cases h1
        · simp [Array.getElem?_eq_none h'] at h1
      have hfree' : ∀ k ok, ops[k]? = some ok → k ≠ i → (listed.setIfInBounds j true).getD k true = false →
          (∀ e ∈ ok.after, Region.binds .any e = true → e.on ≠ i) → oi.apart ops ok = true := fun k ok hk hki hun hno => by
        refine hfree k ok hk hki ?_ hno
        by_cases hjk : j = k
        · subst hjk; exact hjun
        · rw [getD_set_ne true hjk] at hun; exact hun
      have h2 := opX_put hoj (hfree j oj hoj hji hjun hnot) (fun cs b => hsel i oi cs b hi) (fun cs b => hsel j oj cs b hoj) hy h1
      have hSj : ∀ w', (Z.elem j = true ∨ S w') → S w' := fun w' h => h.resolve_left fun hz => by
        obtain ⟨e, he, hb, heq⟩ := hZ j oj hz hoj
        exact hnot e he hb heq
      refine opX_mono (fun a' w' h3 => ⟨h3.2.1, ih (listed.setIfInBounds j true) a' w' hfree' (ready_mono hr (Ne.symm hji)) h3.1 (hSj _ h3.2.1) ?_⟩) h2
      rw [Array.setIfInBounds_comm _ _ hji]
      exact h3.2.2
section
variable {Q : Exit → Act → World → Prop} {a : Act} {w : World}
theorem W_mono {c : Code} {Q' : Exit → Act → World → Prop} (h : W rn P c Q a w) (hq : ∀ e a w, Q e a w → Q' e a w) : W rn P c Q' a w := wpIn_mono h hq
theorem W_skip (h : Q .normal a w) : W rn P .skip Q a w := wpIn_skip h
theorem W_label {l : Nat} (h : Q .normal a w) : W rn P (.label l) Q a w := wpIn_label h
theorem W_exit {id : Nat} (h : Q (.exit id) a w) : W rn P (.exit id) Q a w := wpIn_exit h
theorem W_ret (h : Q .ret a w) : W rn P .ret Q a w := wpIn_ret h
theorem W_seq {x y : Code} (h : W rn P x (Exit.then (W rn P y Q) Q) a w) : W rn P (.seq x y) Q a w := wpIn_seq h
theorem W_true {c : Operand} {x y : Code} (hc : a.eval c = .bool true) (h : W rn P x Q a w) : W rn P (.cond c x y) Q a w := wpIn_cond_true hc h
theorem W_false {c : Operand} {x y : Code} (hc : a.eval c = .bool false) (h : W rn P y Q a w) : W rn P (.cond c x y) Q a w := wpIn_cond_false hc h
theorem W_block {id : Nat} {c : Code} (h : W rn P c (Exit.inBlock id Q) a w) : W rn P (.block id c) Q a w := wpIn_block h
theorem W_loop {c : Code} (I : Nat → Act → World → Prop) (n : Nat) (h₀ : I n a w)
    (round : ∀ n a w, I n a w → W rn P c (Exit.then (fun a' w' => ∃ m, m < n ∧ I m a' w') Q) a w) : W rn P (.loop c) Q a w := by
  intro b k cs hro hb hr
  have key : ∀ n a w, I n a w → ∃ e a' w', Q e a' w' ∧ ArrivesIn (Machine.fenced P (FW rn)) P (lone (b.atR a (.code c :: .inLoop c :: k)) cs w) b k cs e a' w' := by
    intro n
    induction n using Nat.strongRecOn with
    | _ n ih =>
      intro a w hI
      obtain ⟨e, a₁, w₁, hq, harr⟩ := round n a w hI b (.inLoop c :: k) cs hro hb hr
      cases e with
      | normal =>
        obtain ⟨m, hlt, hI₁⟩ := hq
        obtain ⟨e₂, a₂, w₂, hq₂, harr₂⟩ := ih m hlt a₁ w₁ hI₁
        exact ⟨e₂, a₂, w₂, hq₂, .of_steps (StepsIn.trans harr (.one (fenced_calm hb hr rfl) stepR_inLoop)) harr₂⟩
      | exit id => exact ⟨_, a₁, w₁, hq, .pass (x := .inLoop c) rfl (fun _ _ => .inl (by simp)) harr⟩
      | goto l => exact ⟨_, a₁, w₁, hq, .pass (x := .inLoop c) rfl (fun _ _ => .inl (by simp)) harr⟩
      | ret => exact ⟨_, a₁, w₁, hq, .pass (x := .inLoop c) rfl (fun _ _ => .inl (by simp)) harr⟩
      | panic ch => exact ⟨_, a₁, w₁, hq, .pass (x := .inLoop c) rfl (fun _ _ => .inl (by simp)) harr⟩
      | outgrown => exact ⟨_, a₁, w₁, hq, .pass (x := .inLoop c) rfl (fun _ _ => .inl (by simp)) harr⟩
  obtain ⟨e, a', w', hq, harr⟩ := key n a w h₀
  exact ⟨e, a', w', hq, .of_steps (.one (fenced_calm hb hr rfl) stepR_loop) harr⟩
end
end Go.Proofs.Ytgihgcclabodbaa.DK
namespace Go.Proofs.Ytgihgcclabodbaa.DK
open Go
set_option linter.unusedSimpArgs false
set_option linter.unusedVariables false
variable {P : Program} {rn : Option Nat}
def lk {α : Type} : List (Nat × α) → Nat → Option α
  | [], _ => none
  | (k, v) :: F, t => cond (Nat.beq k t) (some v) (lk F t)
/-- The frame a has n slots, its deferred calls are ds, and its slots hold what F tells. -/
structure Fr (n : Nat) (ds : List Deferred) (F : List (Nat × Value)) (a : Act) : Prop where
  size : a.tmps.size = n
  defers : a.defers = ds
  get : ∀ t v, lk F t = some v → a.tmps[t]? = some v
theorem Fr.put {n : Nat} {ds : List Deferred} {F : List (Nat × Value)} {a : Act} (h : Fr n ds F a) {d : Nat} (hd : d < n) (v : Value) : Fr n ds ((d, v) :: F) (a.put (some d) v) := by
  refine ⟨by simp [Act.put, h.size], by simp [Act.put, h.defers], fun t u hu => ?_⟩
  simp only [lk] at hu
  by_cases e : d = t
  · subst e
    rw [Nat.beq_refl d] at hu
    simp at hu
    subst hu
    simp [Act.put, h.size, hd]
  · have : Nat.beq d t = false := by cases hb : Nat.beq d t with
      | false => rfl
      | true => exact absurd (Nat.eq_of_beq_eq_true hb) e
    rw [this] at hu
    simp only [cond] at hu
    simp only [Act.put]
    rw [Array.getElem?_setIfInBounds_ne e]
    exact h.get t u hu
def sel (keep : List Nat) (F : List (Nat × Value)) : List (Nat × Value) := keep.filterMap fun t => (lk F t).map fun v => (t, v)
theorem lk_sel {F : List (Nat × Value)} : ∀ (keep : List Nat) (t : Nat) (v : Value), lk (sel keep F) t = some v → lk F t = some v
  | [], t, v, h => by simp [sel, lk] at h
  | k :: keep, t, v, h => by
    unfold sel at h
    rw [List.filterMap_cons] at h
    cases hk : lk F k with
    | none => simp only [hk, Option.map_none] at h; exact lk_sel keep t v h
    | some u =>
      simp only [hk, Option.map_some, lk] at h
      cases hb : Nat.beq k t with
      | false => rw [hb] at h; exact lk_sel keep t v h
      | true => rw [hb] at h; simp at h; subst h; rw [← Nat.eq_of_beq_eq_true hb]; exact hk
theorem Fr.sel {n : Nat} {ds : List Deferred} {F : List (Nat × Value)} {a : Act} (h : Fr n ds F a) (keep : List Nat) : Fr n ds (sel keep F) a := ⟨h.size, h.defers, fun t v hv => h.get t v (lk_sel keep t v hv)⟩
inductive Req where
  | ld (p : Addr) (v : Value)
  | lds (p : Addr) (vs : List Value)
  | rng (n : Int)
  | dec (c b : Bool)
  | call (f : FuncId) (args : Array Value) (v : Value)
  | idx (a : Option Addr) (len : Nat) (i : Int) (sz : Nat) (p : Addr)
  | raw (s : Sem Value) (v : Value)
  | und (g : Bool) (r : Req)
def Req.ok (P : Program) (S : World → Prop) : Req → Prop
  | .ld p v => ∀ w, S w → w.cell? p = some v
  | .lds p vs => ∀ w, S w → ∀ j v, vs[j]? = some v → w.cell? (p.add j) = some v
  | .rng n => -9223372036854775808 ≤ n ∧ n ≤ 9223372036854775807
  | .dec c b => c = b
  | .call f args v => ∀ w, S w → Calls P f args w fun e w' => e = .returned v ∧ Ext w w'
  | .idx a len i sz p => ∃ ad, a = some ad ∧ 0 ≤ i ∧ i < len ∧ p = ad.add (i.toNat * sz)
  | .raw s v => ∀ w, S w → s.run P w = .ok v w
  | .und g r => g = true → r.ok P S
/-- All that is asked, told so that the list is read off the proofs. -/
inductive Reqs (P : Program) (S : World → Prop) : List Req → Prop
  | nil : Reqs P S []
  | cons {r : Req} {rs : List Req} (h : r.ok P S) (t : Reqs P S rs) : Reqs P S (r :: rs)
theorem Reqs.mem {S : World → Prop} {rs : List Req} (h : Reqs P S rs) : ∀ r ∈ rs, r.ok P S := by
  induction h with
  | nil => simp
  | cons h t ih =>
    intro r hr
    rcases List.mem_cons.1 hr with rfl | hr
    · exact h
    · exact ih r hr
structure Tbl where
  fld : List (Nat × List Nat)
  sl : List (Nat × Nat)
  arr : List (Nat × Nat × Nat)
  agg : List (Nat × Nat)
  sca : List Nat
  fns : List Nat
def isAggB (P : Program) (t : TypeId) : Bool := match P.underlying t with | some (.struct _) | some (.array _ _) => true | _ => false
def Tbl.ok (P : Program) (tb : Tbl) : Bool :=
  (tb.fld.all fun (t, offs) => match P.underlying t with
    | some (.struct fs) => (List.range offs.length).all fun i => match fs[i]?, offs[i]? with
      | some f, some off => f.offset == off && (match P.info? f.type with | some i => i.size != 0 | none => false)
      | _, _ => false
    | _ => false) &&
  (tb.sl.all fun (t, sz) => match P.underlying t with
    | some (.slice e) => (match P.info? e with | some i => i.size == sz | none => false)
    | _ => false) &&
  (tb.arr.all fun (t, len, sz) => match P.underlying t with
    | some (.array n e) => n == len && (match P.info? e with | some i => i.size == sz | none => false)
    | _ => false) &&
  (tb.agg.all fun (t, sz) => isAggB P t && (match P.info? t with | some i => i.size == sz | none => false)) &&
  (tb.sca.all fun t => !isAggB P t && (P.underlying t).isSome && (match P.info? t with | some i => i.size == 1 | none => false)) &&
  (tb.fns.all fun f => match P.funcs[f]? with | some fn => fn.body.isSome && !(fn.name == "runtime.NumGoroutine") | none => false)
theorem lk_mem {α : Type} : ∀ (l : List (Nat × α)) (t : Nat) (v : α), lk l t = some v → (t, v) ∈ l
  | [], t, v, h => by simp [lk] at h
  | (k, u) :: l, t, v, h => by
    simp only [lk] at h
    cases hb : Nat.beq k t with
    | true => rw [hb] at h; simp at h; subst h; rw [Nat.eq_of_beq_eq_true hb]; simp
    | false => rw [hb] at h; exact List.mem_cons_of_mem _ (lk_mem l t v h)
section
variable {tb : Tbl} (ht : Tbl.ok P tb = true)
include ht
theorem Tbl.fld_ok {t : Nat} {offs : List Nat} {f off : Nat} (h : lk tb.fld t = some offs) (ho : offs[f]? = some off) :
    ∃ fs fd i, P.underlying t = some (.struct fs) ∧ fs[f]? = some fd ∧ fd.offset = off ∧ P.info? fd.type = some i ∧ i.size ≠ 0 := by
  simp only [Tbl.ok, Bool.and_eq_true, List.all_eq_true] at ht
  have := ht.1.1.1.1.1 _ (lk_mem _ _ _ h)
  simp only at this
  split at this
  · rename_i fs hu
    simp only [List.all_eq_true, List.mem_range] at this
    have hf : f < offs.length := by
      rcases Nat.lt_or_ge f offs.length with h' | h'
      · exact h'
      · rw [List.getElem?_eq_none h'] at ho; cases ho
    have := this f hf
    split at this
    · rename_i fd off' h1 h2
      rw [ho] at h2; cases h2
      simp only [Bool.and_eq_true, beq_iff_eq] at this
      obtain ⟨h3, h4⟩ := this
      split at h4
      · rename_i i hi; exact ⟨fs, fd, i, hu, h1, h3, hi, by simpa using h4⟩
      · cases h4
    · cases this
  · cases this
theorem Tbl.sl_ok {t sz : Nat} (h : lk tb.sl t = some sz) : ∃ e i, P.underlying t = some (.slice e) ∧ P.info? e = some i ∧ i.size = sz := by
  simp only [Tbl.ok, Bool.and_eq_true, List.all_eq_true] at ht
  have := ht.1.1.1.1.2 _ (lk_mem _ _ _ h)
  simp only at this
  split at this
  · rename_i e hu
    split at this
    · rename_i i hi; exact ⟨e, i, hu, hi, by simpa using this⟩
    · cases this
  · cases this
theorem Tbl.arr_ok {t len sz : Nat} (h : lk tb.arr t = some (len, sz)) : ∃ e i, P.underlying t = some (.array len e) ∧ P.info? e = some i ∧ i.size = sz := by
  simp only [Tbl.ok, Bool.and_eq_true, List.all_eq_true] at ht
  have := ht.1.1.1.2 _ (lk_mem _ _ _ h)
  simp only at this
  split at this
  · rename_i n e hu
    simp only [Bool.and_eq_true, beq_iff_eq] at this
    obtain ⟨rfl, h4⟩ := this
    split at h4
    · rename_i i hi; exact ⟨e, i, hu, hi, by simpa using h4⟩
    · cases h4
  · cases this
theorem Tbl.agg_ok {t sz : Nat} (h : lk tb.agg t = some sz) : isAggB P t = true ∧ ∃ i, P.info? t = some i ∧ i.size = sz := by
  simp only [Tbl.ok, Bool.and_eq_true, List.all_eq_true] at ht
  have := ht.1.1.2 _ (lk_mem _ _ _ h)
  simp only [Bool.and_eq_true] at this
  refine ⟨this.1, ?_⟩
  have h4 := this.2
  split at h4
  · rename_i i hi; exact ⟨i, hi, by simpa using h4⟩
  · cases h4
theorem Tbl.sca_ok {t : Nat} (h : t ∈ tb.sca) : isAggB P t = false ∧ (P.underlying t).isSome = true ∧ ∃ i, P.info? t = some i ∧ i.size = 1 := by
  simp only [Tbl.ok, Bool.and_eq_true, List.all_eq_true] at ht
  have := ht.1.2 _ h
  simp only [Bool.and_eq_true, Bool.not_eq_true'] at this
  refine ⟨this.1.1, this.1.2, ?_⟩
  have h4 := this.2
  split at h4
  · rename_i i hi; exact ⟨i, hi, by simpa using h4⟩
  · cases h4
theorem Tbl.fn_ok {f : Nat} (h : f ∈ tb.fns) : ∃ fn, P.funcs[f]? = some fn ∧ fn.body.isSome = true ∧ (fn.name == "runtime.NumGoroutine") = false := by
  simp only [Tbl.ok, Bool.and_eq_true, List.all_eq_true] at ht
  have h4 := ht.2 _ h
  split at h4
  · rename_i fn hi; simp only [Bool.and_eq_true, Bool.not_eq_true'] at h4; exact ⟨fn, hi, h4.1, h4.2⟩
  · cases h4
end
theorem run_underlying {t : TypeId} {d : TypeDesc} {w : World} (h : P.underlying t = some d) : (underlying t).run P w = .ok d w := by
  unfold underlying
  rw [Sem.run_bind]
  simp [program, Sem.run, Result.andThen, h, pure]
theorem run_typeInfo {t : TypeId} {i : TypeInfo} {w : World} (h : P.info? t = some i) : (typeInfo t).run P w = .ok i w := by
  unfold typeInfo
  rw [Sem.run_bind]
  simp [program, Sem.run, Result.andThen, h, pure]
theorem run_sizeOf {t : TypeId} {i : TypeInfo} {w : World} (h : P.info? t = some i) : (sizeOf t).run P w = .ok i.size w := by
  unfold sizeOf
  rw [Sem.run_bind, run_typeInfo h]
  simp [Sem.run, Result.andThen, pure]
theorem run_isAgg {t : TypeId} {w : World} (h : (P.underlying t).isSome = true) : (isAgg t).run P w = .ok (isAggB P t) w := by
  obtain ⟨d, hd⟩ := Option.isSome_iff_exists.1 h
  unfold isAgg isAggB
  rw [Sem.run_bind, run_underlying hd, hd]
  cases d <;> simp [Sem.run, Result.andThen, pure]
theorem isAggB_some {t : TypeId} (h : isAggB P t = true) : (P.underlying t).isSome = true := by
  unfold isAggB at h
  cases hu : P.underlying t with
  | none => rw [hu] at h; cases h
  | some d => rfl
theorem run_loadVar_sca {t : TypeId} {p : Addr} {v : Value} {w : World} (hs : isAggB P t = false) (hu : (P.underlying t).isSome = true) (hc : w.cell? p = some v) : (loadVar t p).run P w = .ok v w := by
  unfold loadVar
  rw [Sem.run_bind, run_isAgg hu, hs]
  simp [load, Sem.run, Result.andThen, hc]
theorem run_loadVar_agg {t : TypeId} {p : Addr} {vs : List Value} {i : TypeInfo} {w : World} (hs : isAggB P t = true) (hi : P.info? t = some i) (hn : i.size = vs.length)
    (hc : ∀ j v, vs[j]? = some v → w.cell? (p.add j) = some v) : (loadVar t p).run P w = .ok (.agg vs.toArray) w := by
  unfold loadVar
  rw [Sem.run_bind, run_isAgg (isAggB_some hs), hs]
  simp only [Result.andThen, if_true, Sem.run_bind, run_sizeOf hi, hn, run_loadCells_list (P := P) w p vs hc]
  simp [Sem.run, pure, Result.andThen]
/-- Guards: numbers of operations, and what each is to have answered. -/
abbrev Gl := List (Nat × Bool)
/-- What operations have answered. -/
abbrev Bv := List (Nat × (Gl × Bool))
def gt1 (B : Bv) (x : Nat × Bool) : Bool := match lk B x.1 with
  | some (_, c) => cond x.2 c (!c)
  | none => false
/-- Are all guards met? -/
def gt (B : Bv) : Gl → Bool
  | [] => true
  | [x] => gt1 B x
  | x :: xs => gt1 B x && gt B xs
theorem gt_iff {B : Bv} : ∀ {l : Gl}, gt B l = true ↔ ∀ x ∈ l, gt1 B x = true
  | [] => by simp [gt]
  | [x] => by simp [gt]
  | x :: y :: l => by simp only [gt, Bool.and_eq_true, gt_iff (l := y :: l), List.mem_cons, forall_eq_or_imp]
def beqG (x y : Nat × Bool) : Bool := Nat.beq x.1 y.1 && (cond x.2 y.2 (!y.2))
theorem beqG_ok {x y : Nat × Bool} (h : beqG x y = true) : x = y := by
  obtain ⟨a, b⟩ := x
  obtain ⟨c, d⟩ := y
  simp only [beqG, Bool.and_eq_true] at h
  have := Nat.eq_of_beq_eq_true h.1
  cases b <;> cases d <;> simp_all
def subG (l l' : Gl) : Bool := l.all fun x => l'.any fun y => beqG x y
theorem subG_ok {B : Bv} {l l' : Gl} (h : subG l l' = true) (hl : gt B l' = true) : gt B l = true := by
  rw [gt_iff] at *
  intro x hx
  simp only [subG, List.all_eq_true, List.any_eq_true] at h
  obtain ⟨y, hy, he⟩ := h x hx
  rw [beqG_ok he]
  exact hl y hy
/-- A guard more that nobody here names changes nothing. -/
theorem gt_fresh {B : Bv} {i : Nat} {gl : Gl} {c : Bool} : ∀ {l : Gl}, (l.all fun x => !(Nat.beq x.1 i)) = true → gt ((i, (gl, c)) :: B) l = gt B l := by
  have h1 : ∀ x : Nat × Bool, (!(Nat.beq x.1 i)) = true → gt1 ((i, (gl, c)) :: B) x = gt1 B x := by
    intro x hx
    have : Nat.beq i x.1 = false := by
      cases hb : Nat.beq i x.1 with
      | false => rfl
      | true =>
        rw [← Nat.eq_of_beq_eq_true hb, Nat.beq_refl] at hx
        cases hx
    simp only [gt1, lk, this, cond]
  intro l h
  simp only [List.all_eq_true] at h
  cases hb : gt B l with
  | true => rw [gt_iff] at hb ⊢; exact fun x hx => (h1 x (h x hx)).trans (hb x hx)
  | false =>
    cases hc : gt ((i, (gl, c)) :: B) l with
    | false => rfl
    | true =>
      rw [gt_iff] at hc
      have : gt B l = true := gt_iff.2 fun x hx => (h1 x (h x hx)).symm.trans (hc x hx)
      rw [this] at hb; cases hb
abbrev Gs := List (Nat × (Gl × Value))
structure Fg (n : Nat) (ds : List Deferred) (ops : Array Oper) (F : List (Nat × Value)) (G : Gs) (B : Bv) (a : Act) : Prop where
  fr : Fr n ds F a
  getc : ∀ t g v, lk G t = some (g, v) → a.tmps[t]? = some (cond (gt B g) v undef)
  told : ∀ j g c, lk B j = some (g, c) → yielded ops a.tmps j = cond (gt B g) (some c) none
/-- An operand where the guards g are met. -/
def lkG (g : Gl) (F : List (Nat × Value)) (G : Gs) : Operand → Option Value
  | .tmp t => match lk F t with
    | some v => some v
    | none => match lk G t with
      | some (gx, v) => cond (subG gx g) (some v) none
      | none => none
  | .const v => some v
  | .global g => some (.pointer (some ⟨g, 0, none⟩))
  | .func f => some (.func (.func f) #[] #[])
theorem lkG_ok {n : Nat} {ds : List Deferred} {ops : Array Oper} {F : List (Nat × Value)} {G : Gs} {B : Bv} {a : Act} (h : Fg n ds ops F G B a) {g : Gl} (hg : gt B g = true) (x : Operand) (v : Value) (hv : lkG g F G x = some v) : a.eval x = v := by
  cases x with
  | const u => simpa [lkG, Act.eval] using hv
  | global u => simpa [lkG, Act.eval] using hv
  | func u => simpa [lkG, Act.eval] using hv
  | tmp t =>
    simp only [lkG] at hv
    simp only [Act.eval, Array.getD_eq_getD_getElem?]
    split at hv
    · rename_i u hu; cases hv; rw [h.fr.get _ _ hu]; rfl
    · split at hv
      · rename_i gx u hu
        cases hs : subG gx g with
        | false => rw [hs] at hv; cases hv
        | true =>
          rw [hs] at hv
          cases hv
          rw [h.getc _ _ _ hu, subG_ok hs hg]; rfl
      · cases hv
def mapO (ov : Operand → Option Value) : List Operand → Option (List Value)
  | [] => some []
  | x :: xs => match ov x with
    | some v => (match mapO ov xs with | some vs => some (v :: vs) | none => none)
    | none => none
theorem mapO_ok {ov : Operand → Option Value} {a : Act} : ∀ {xs : List Operand} {vs : List Value}, (∀ x ∈ xs, ∀ v, ov x = some v → a.eval x = v) → mapO ov xs = some vs → xs.map a.eval = vs
  | [], vs, _, hx => by simp [mapO] at hx; simp [hx]
  | x :: xs, vs, h, hx => by
    simp only [mapO] at hx
    split at hx
    · rename_i v hv
      split at hx
      · rename_i us hus
        cases hx
        simp [h x (List.mem_cons_self ..) v hv, mapO_ok (fun y hy => h y (List.mem_cons_of_mem _ hy)) hus]
      · cases hx
    · cases hx
def mapP (ov : Operand → Option Value) : List (Nat × Operand) → Option (List (Nat × Value))
  | [] => some []
  | (i, x) :: xs => match ov x with
    | some v => (match mapP ov xs with | some vs => some ((i, v) :: vs) | none => none)
    | none => none
theorem mapP_ok {ov : Operand → Option Value} {a : Act} : ∀ {xs : List (Nat × Operand)} {vs : List (Nat × Value)}, (∀ x ∈ xs, ∀ v, ov x.2 = some v → a.eval x.2 = v) → mapP ov xs = some vs → xs.map (fun q => (q.1, a.eval q.2)) = vs
  | [], vs, _, hx => by simp [mapP] at hx; simp [hx]
  | (i, x) :: xs, vs, h, hx => by
    simp only [mapP] at hx
    split at hx
    · rename_i v hv
      split at hx
      · rename_i us hus
        cases hx
        simp [h (i, x) (List.mem_cons_self ..) v hv, mapP_ok (fun y hy => h y (List.mem_cons_of_mem _ hy)) hus]
      · cases hx
    · cases hx
def optO (ov : Operand → Option Value) : Option Operand → Option (Option Value)
  | none => some none
  | some x => match ov x with
    | some v => some (some v)
    | none => none
theorem optO_ok {ov : Operand → Option Value} {a : Act} {x : Option Operand} {v : Option Value} (h : ∀ y, x = some y → ∀ v, ov y = some v → a.eval y = v) (hx : optO ov x = some v) : x.map a.eval = v := by
  cases x with
  | none => simpa [optO] using hx
  | some x =>
    simp only [optO] at hx
    split at hx
    · rename_i u hu; cases hx; simp [h x rfl u hu]
    · cases hx
end Go.Proofs.Ytgihgcclabodbaa.DK
namespace Go.Proofs.Ytgihgcclabodbaa.DK
open Go
set_option linter.unusedSimpArgs false
set_option linter.unusedVariables false
variable {P : Program} {rn : Option Nat}
/-- What an operation of these kinds is, its operands reckoned: a run of its own, told by whoever proves. -/
def rawSem (ov : Operand → Option Value) : Op → TypeId → Option (Sem Value)
  | .binOp op t x y _, _ => match ov x, ov y with
    | some u, some v => some (do eqGuard op t x y u v; binOp op t u v)
    | _, _ => none
  | .unOp op _ x, _ => (ov x).map (Op.unary op)
  | .build t parts, _ => (mapP ov parts.toList).map fun ps => Instr.build t ps.toArray
  | .slice t x lo hi mx, _ => match ov x, optO ov lo, optO ov hi, optO ov mx with
    | some u, some l, some h, some m => some (Instr.sliceAt t u l h m)
    | _, _, _, _ => none
  | .index t x i, _ => match ov x, ov i with
    | some u, some v => some (Instr.index t u v)
    | _, _ => none
  | .indexAddr t x i, _ => match ov x, ov i with
    | some u, some v => some (Instr.indexAt t u v)
    | _, _ => none
  | .field t x f, _ => (ov x).map fun u => Instr.field t u f
  | .lookup t x i ok, _ => match ov x, ov i with
    | some u, some v => some (Instr.lookup t u v ok)
    | _, _ => none
  | .convert s d x, _ => (ov x).map (Go.convert s d)
  | .load t x, _ => (ov x).map (Instr.loadAt t)
  | .nilCheck x, _ => match ov x with
    | some (.pointer (some q)) => some (pure (.pointer (some q)))
    | _ => none
  | .call { callee := .builtin .min, args, argTypes }, ty => (mapO ov args.toList).map fun vs => Builtin.min_ argTypes ty vs.toArray
  | .call { callee := .builtin .max, args, argTypes }, ty => (mapO ov args.toList).map fun vs => Builtin.max_ argTypes ty vs.toArray
  | .call { callee := .builtin .len, args, argTypes }, ty => (mapO ov args.toList).map fun vs => Builtin.len_ argTypes ty vs.toArray
  | _, _ => none
theorem rawSem_ok {ov : Operand → Option Value} {a : Act} {o : Oper} {s : Sem Value} (h : ∀ x ∈ o.op.operands.toList, ∀ v, ov x = some v → a.eval x = v) (hs : rawSem ov o.op o.type = some s) :
    execOp a.eval o = (do pure (.value (← s))) := by
  unfold execOp
  cases ho : o.op with
  | binOp op t x y yt =>
    rw [ho] at hs h; simp only [rawSem] at hs
    split at hs
    · rename_i u v hu hv; cases hs; simp only [h x (by simp [Op.operands]) _ hu, h y (by simp [Op.operands]) _ hv]
    · cases hs
  | unOp op t x => rw [ho] at hs h; simp only [rawSem, Option.map_eq_some_iff] at hs; obtain ⟨u, hu, rfl⟩ := hs; simp only [h x (by simp [Op.operands]) _ hu]
  | build t parts =>
    rw [ho] at hs h; simp only [rawSem, Option.map_eq_some_iff] at hs; obtain ⟨u, hu, rfl⟩ := hs
    have := mapP_ok (a := a) (fun x hx v hv => h x.2 (by simp [Op.operands]; exact ⟨x.1, by simpa using hx⟩) v hv) hu
    have e : (parts.map fun (x : Nat × Operand) => (x.1, a.eval x.2)) = u.toArray := by rw [← this, ← Array.toList_map, Array.toArray_toList]
    show (do pure (Next.value (← Instr.build t (parts.map fun (x : Nat × Operand) => (x.1, a.eval x.2))))) = _
    rw [e]
  | slice t x lo hi mx =>
    rw [ho] at hs h; simp only [rawSem] at hs
    split at hs
    · rename_i u l hh m hu hl hh' hm
      cases hs
      simp only [h x (by simp [Op.operands]) _ hu, optO_ok (a := a) (fun y e v => h y (by subst e; simp [Op.operands]) v) hl, optO_ok (a := a) (fun y e v => h y (by subst e; simp [Op.operands]) v) hh', optO_ok (a := a) (fun y e v => h y (by subst e; simp [Op.operands]) v) hm]
    · cases hs
  | index t x i =>
    rw [ho] at hs h; simp only [rawSem] at hs
    split at hs
    · rename_i u v hu hv; cases hs; simp only [h x (by simp [Op.operands]) _ hu, h i (by simp [Op.operands]) _ hv]
    · cases hs
  | indexAddr t x i =>
    rw [ho] at hs h; simp only [rawSem] at hs
    split at hs
    · rename_i u v hu hv; cases hs; simp only [h x (by simp [Op.operands]) _ hu, h i (by simp [Op.operands]) _ hv]
    · cases hs
  | field t x f => rw [ho] at hs h; simp only [rawSem, Option.map_eq_some_iff] at hs; obtain ⟨u, hu, rfl⟩ := hs; simp only [h x (by simp [Op.operands]) _ hu]
  | lookup t x i ok =>
    rw [ho] at hs h; simp only [rawSem] at hs
    split at hs
    · rename_i u v hu hv; cases hs; simp only [h x (by simp [Op.operands]) _ hu, h i (by simp [Op.operands]) _ hv]
    · cases hs
  | convert s d x => rw [ho] at hs h; simp only [rawSem, Option.map_eq_some_iff] at hs; obtain ⟨u, hu, rfl⟩ := hs; simp only [h x (by simp [Op.operands]) _ hu]
  | load t x => rw [ho] at hs h; simp only [rawSem, Option.map_eq_some_iff] at hs; obtain ⟨u, hu, rfl⟩ := hs; simp only [h x (by simp [Op.operands]) _ hu]
  | nilCheck x =>
    rw [ho] at hs h; simp only [rawSem] at hs
    split at hs
    · rename_i q hq; cases hs; simp only [h x (by simp [Op.operands]) _ hq]; rfl
    · cases hs
  | call c =>
    obtain ⟨cal, args, tys⟩ := c
    rw [ho] at hs h
    cases cal with
    | value f => simp [rawSem] at hs
    | invoke r m => simp [rawSem] at hs
    | builtin b =>
      cases b <;> unfold rawSem at hs <;> simp at hs
      all_goals
        obtain ⟨u, hu, rfl⟩ := hs
        have e : args.map a.eval = u.toArray := by rw [← mapO_ok (a := a) (fun x hx v hv => h x (by simp [Op.operands, Call.operands]; simpa using hx) v hv) hu, ← Array.toList_map, Array.toArray_toList]
        simp [resolve, invoke, builtin, e, pure, bind, Sem.bind]
  | _ => rw [ho] at hs; simp [rawSem] at hs
def cmpB : BinOp → Int → Int → Option Bool
  | .eql, x, y => some (x == y)
  | .neq, x, y => some (x != y)
  | .lss, x, y => some (decide (x < y))
  | .leq, x, y => some (decide (x ≤ y))
  | .gtr, x, y => some (decide (x > y))
  | .geq, x, y => some (decide (x ≥ y))
  | _, _, _ => none
def ariI : BinOp → Int → Int → Option Int
  | .add, x, y => some (x + y)
  | .sub, x, y => some (x - y)
  | .mul, x, y => some (x * y)
  | _, _, _ => none
/-- The value of an operation that is no pick, and what it asks, if anything (read off what is offered). -/
def evm (tb : Tbl) (ov : Operand → Option Value) (o : Oper) (md : Nat) (hd : Option Req) : Option (Value × Option Req) :=
  match md with
  | 3 => match hd with
    | some (.raw _ v) => match rawSem ov o.op o.type with
      | some s => some (v, some (.raw s v))
      | none => none
    | _ => none
  | _ => plain hd
where plain (hd : Option Req) : Option (Value × Option Req) :=
  match o.op with
  | .move x | .assign x => (ov x).map fun v => (v, none)
  | .binOp op _ x y _ => match ov x, ov y with
    | some (.int .i64 m), some (.int .i64 n) =>
      match ariI op m n with
      | some r => (match md with
        | 2 => some (.int .i64 (Go.RowKit.wrap64 r), none)
        | _ => some (.int .i64 r, some (.rng r)))
      | none => match cmpB op m n with
        | some c => (match md with
          | 1 => (match hd with
            | some (.dec _ b) => some (.bool b, some (.dec c b))
            | _ => none)
          | _ => some (.bool c, none))
        | none => none
    | _, _ => none
  | .unOp .not _ x => match ov x with
    | some (.bool b) => some (.bool (!b), none)
    | _ => none
  | .fieldAddr t x f => match ov x with
    | some (.pointer (some p)) => match lk tb.fld t with
      | some offs => match offs[f]? with
        | some off => some (.pointer (some (p.add off)), none)
        | none => none
      | none => none
    | _ => none
  | .indexAddr t x i => match ov x, ov i with
    | some (.slice a len _), some (.int .i64 n) => match lk tb.sl t, hd with
      | some sz, some (.idx _ _ _ _ p) => some (.pointer (some p), some (.idx a len n sz p))
      | _, _ => none
    | some (.pointer (some q)), some (.int .i64 n) => match lk tb.arr t, hd with
      | some (len, sz), some (.idx _ _ _ _ p) => some (.pointer (some p), some (.idx (some q) len n sz p))
      | _, _ => none
    | _, _ => none
  | .load t x => match ov x with
    | some (.pointer (some p)) => match lk tb.agg t with
      | some sz => (match hd with
        | some (.lds _ vs) => cond (Nat.beq vs.length sz) (some (.agg vs.toArray, some (.lds p vs))) none
        | _ => none)
      | none => cond (tb.sca.elem t) (match hd with
        | some (.ld _ v) => some (v, some (.ld p v))
        | _ => none) none
    | _ => none
  | .extract x i => match ov x with
    | some (.tuple vs) => (vs[i]?).map fun v => (v, none)
    | _ => none
  | .makeFunc fn fst cap => match mapO ov fst.toList, mapO ov cap.toList with
    | some us, some vs => some (.func fn us.toArray vs.toArray, none)
    | _, _ => none
  | .call { callee := .builtin .len, args, argTypes } => match mapO ov args.toList, argTypes[0]? with
    | some [.slice _ n _], some t => cond (lk tb.sl t).isSome (some (.int .i64 n, none)) none
    | _, _ => none
  | .call { callee := .value f, args, .. } => match ov f, mapO ov args.toList with
    | some (.func (.func g) fst cap), some vs => cond (tb.fns.elem g) (match hd with
      | some (.call _ _ v) => some (v, some (.call g (fst ++ vs.toArray ++ cap) v))
      | _ => none) none
    | _, _ => none
  | _ => none
theorem wrap_in {n : Int} (h : -9223372036854775808 ≤ n ∧ n ≤ 9223372036854775807) : IntKind.i64.wrap n = n := by rw [IntKind.wrap_i64]; omega
theorem wrap_64 (n : Int) : IntKind.i64.wrap n = Go.RowKit.wrap64 n := IntKind.wrap_i64 n
theorem eqGuard_skip {op : BinOp} {t : TypeId} {x y : Operand} {u v : Value} {w : World} (h : ∀ vs, u ≠ .agg vs) (h' : u ≠ .nilIface) : (eqGuard op t x y u v).run P w = .ok () w := by
  unfold eqGuard
  cases op <;> simp [pure, bind, Sem.bind, Sem.run, Result.andThen] <;> (split <;> first | rfl | (rename_i he; exact absurd rfl h') | (exact absurd rfl (h _)))
theorem evm_ok {ov : Operand → Option Value} {a : Act} {tb : Tbl} {S : World → Prop} (ht : Tbl.ok P tb = true) {o : Oper} (h : ∀ x ∈ o.op.operands.toList, ∀ v, ov x = some v → a.eval x = v) {md : Nat} {hd em : Option Req} {v : Value}
    (he : evm tb ov o md hd = some (v, em)) (hr : ∀ r, em = some r → r.ok P S) : ∀ w, S w → quietR P w v ((execOp a.eval o).run P w) := by
  intro w hw
  have hraw : ∀ (s : Sem Value), rawSem ov o.op o.type = some s → s.run P w = .ok v w → quietR P w v ((execOp a.eval o).run P w) := by
    intro s hs hrun
    rw [rawSem_ok h hs]
    show quietR P w v (Sem.run P (s >>= fun x => pure (Next.value x)) w)
    rw [Sem.run_bind, hrun]
    exact ⟨rfl, rfl⟩
  have hplain : ∀ hd, evm.plain tb ov o md hd = some (v, em) → quietR P w v ((execOp a.eval o).run P w) := by
    intro hd he
    unfold evm.plain at he
    unfold execOp
    split at he
    · -- move
      rename_i x hop
      simp only [Option.map_eq_some_iff] at he
      obtain ⟨u, hu, he⟩ := he
      cases he
      simp only [hop, h x (by simp [hop, Op.operands]) _ hu]
      exact ⟨rfl, rfl⟩
    · rename_i x hop
      simp only [Option.map_eq_some_iff] at he
      obtain ⟨u, hu, he⟩ := he
      cases he
      simp only [hop, h x (by simp [hop, Op.operands]) _ hu]
      exact ⟨rfl, rfl⟩
    · -- binOp
      rename_i op t x y yt hop
      split at he
      · rename_i m k hm hk
        have hg : ∀ w, (eqGuard op t x y (Value.int .i64 m) (Value.int .i64 k)).run P w = .ok () w := fun w => eqGuard_skip (by simp) (by simp)
        have hb : ∀ u, (binOp op t (.int .i64 m) (.int .i64 k)).run P w = .ok u w → u = v → quietR P w v (Sem.run P (match o.op with | .binOp op xType x y _ => (do pure (Next.value (← (do eqGuard op xType x y (a.eval x) (a.eval y); binOp op xType (a.eval x) (a.eval y))))) | _ => (stuck "" : Sem Next)) w) := by
          intro u hu e
          subst e
          simp only [hop, h x (by simp [hop, Op.operands]) _ hm, h y (by simp [hop, Op.operands]) _ hk, Sem.run_bind, hg, Result.andThen, hu]
          exact ⟨rfl, rfl⟩
        simp only [hop] at hb ⊢
        split at he
        · rename_i r hr'
          split at he
          · cases he
            refine hb _ ?_ rfl
            cases op <;> simp only [ariI] at hr' <;> cases hr' <;> simp only [binOp, Op.intArith] <;> simp [Sem.run, pure, wrap_64]
          · cases he
            have h1 := hr _ rfl
            refine hb _ ?_ rfl
            cases op <;> simp only [ariI] at hr' <;> cases hr' <;> simp only [binOp, Op.intArith] <;> simp [Sem.run, pure, wrap_in h1]
        · split at he
          · rename_i hno c hc
            split at he
            · split at he
              · cases he
                have h1 : c = _ := hr _ rfl
                refine hb (.bool c) ?_ (by rw [h1])
                cases op <;> simp only [cmpB] at hc <;> cases hc <;> simp only [binOp, Op.intCmp] <;> simp [Sem.run, pure]
              · cases he
            · cases he
              refine hb (.bool c) ?_ rfl
              cases op <;> simp only [cmpB] at hc <;> cases hc <;> simp only [binOp, Op.intCmp] <;> simp [Sem.run, pure]
          · cases he
      · cases he
    · -- not
      rename_i t x hop
      split at he
      · rename_i b hb
        cases he
        simp only [hop, h x (by simp [hop, Op.operands]) _ hb]
        exact ⟨rfl, rfl⟩
      · cases he
    · -- fieldAddr
      rename_i t x f hop
      split at he
      · rename_i p hp
        split at he
        · rename_i offs hoffs
          split at he
          · rename_i off hoff
            cases he
            obtain ⟨fs, fd, i, hu, hf, ho', hi, hsz⟩ := Tbl.fld_ok ht hoffs hoff
            simp only [hop, h x (by simp [hop, Op.operands]) _ hp, Instr.fieldAt, Sem.run_bind, run_underlying hu, Result.andThen, hf, Instr.sureAddr, fieldPlace, run_sizeOf hi]
            simp [Sem.run, pure, Result.andThen, hsz, ho', quietR]
          · cases he
        · cases he
      · cases he
    · -- indexAddr
      rename_i t x i hop
      split at he
      · rename_i b len cap k hx hi
        split at he
        · rename_i sz a1 a2 a3 a4 p hsz
          cases he
          obtain ⟨e, inf, hu, hinf, hs⟩ := Tbl.sl_ok ht hsz
          obtain ⟨ad, rfl, h0, h1, rfl⟩ : ∃ ad, b = some ad ∧ 0 ≤ k ∧ k < len ∧ _ = ad.add (k.toNat * sz) := hr _ rfl
          simp only [hop, h x (by simp [hop, Op.operands]) _ hx, h i (by simp [hop, Op.operands]) _ hi, Instr.indexAt, asIntOf, Sem.run_bind, run_underlying hu, Result.andThen]
          simp [Sem.run, pure, Result.andThen, Sem.run_bind, run_underlying hu, h0, h1, run_sizeOf hinf, hs, quietR]
        · cases he
      · rename_i q k hx hi
        split at he
        · rename_i len sz a1 a2 a3 a4 p hsz
          cases he
          obtain ⟨e, inf, hu, hinf, hs⟩ := Tbl.arr_ok ht hsz
          obtain ⟨ad, e1, h0, h1, rfl⟩ : ∃ ad, some q = some ad ∧ 0 ≤ k ∧ k < len ∧ _ = ad.add (k.toNat * sz) := hr _ rfl
          cases e1
          simp only [hop, h x (by simp [hop, Op.operands]) _ hx, h i (by simp [hop, Op.operands]) _ hi, Instr.indexAt, asIntOf, Sem.run_bind, run_underlying hu, Result.andThen]
          simp [Sem.run, pure, Result.andThen, Sem.run_bind, run_underlying hu, h0, h1, run_sizeOf hinf, hs, quietR, Instr.sureAddr]
        · cases he
      · cases he
    · -- load
      rename_i t x hop
      split at he
      · rename_i p hp
        split at he
        · rename_i sz hsz
          split at he
          · rename_i vs
            cases hb : Nat.beq vs.length sz with
            | false => rw [hb] at he; cases he
            | true =>
              rw [hb] at he
              cases he
              obtain ⟨h1, i, hi, hs⟩ := Tbl.agg_ok ht hsz
              have h2 := hr _ rfl w hw
              simp only [hop, h x (by simp [hop, Op.operands]) _ hp, Instr.loadAt, Instr.sureAddr, Sem.run_bind, run_loadVar_agg h1 hi (by rw [hs]; exact (Nat.eq_of_beq_eq_true hb).symm) h2]
              simp [Sem.run, pure, Result.andThen, run_loadVar_agg h1 hi (by rw [hs]; exact (Nat.eq_of_beq_eq_true hb).symm) h2, quietR]
          · cases he
        · cases hb : tb.sca.elem t with
          | false => rw [hb] at he; cases he
          | true =>
            rw [hb] at he
            simp only [cond] at he
            split at he
            · cases he
              obtain ⟨h1, h3, i, hi, hs⟩ := Tbl.sca_ok ht (List.elem_iff.1 hb)
              have h2 := hr _ rfl w hw
              simp only [hop, h x (by simp [hop, Op.operands]) _ hp, Instr.loadAt, Instr.sureAddr, Sem.run_bind, run_loadVar_sca h1 h3 h2]
              simp [Sem.run, pure, Result.andThen, run_loadVar_sca h1 h3 h2, quietR]
            · cases he
      · cases he
    · -- extract
      rename_i x i hop
      split at he
      · rename_i vs hvs
        simp only [Option.map_eq_some_iff] at he
        obtain ⟨u, hu, he⟩ := he
        cases he
        simp only [hop, h x (by simp [hop, Op.operands]) _ hvs, Instr.extract, hu]
        exact ⟨rfl, rfl⟩
      · cases he
    · -- makeFunc
      rename_i fn fst cap hop
      split at he
      · rename_i us vs hus hvs
        cases he
        have e1 : fst.map a.eval = us.toArray := by rw [← mapO_ok (a := a) (fun x hx v hv => h x (by simp [hop, Op.operands]; left; simpa using hx) v hv) hus, ← Array.toList_map, Array.toArray_toList]
        have e2 : cap.map a.eval = vs.toArray := by rw [← mapO_ok (a := a) (fun x hx v hv => h x (by simp [hop, Op.operands]; right; simpa using hx) v hv) hvs, ← Array.toList_map, Array.toArray_toList]
        simp only [hop, Instr.makeFunc, e1, e2]
        exact ⟨rfl, rfl⟩
      · cases he
    · -- len
      rename_i args argTypes hop
      split at he
      · rename_i b nn c t hargs hty
        cases hb : (lk tb.sl t).isSome with
        | false => rw [hb] at he; cases he
        | true =>
          rw [hb] at he
          cases he
          obtain ⟨sz, hsz⟩ := Option.isSome_iff_exists.1 hb
          obtain ⟨e, inf, hu, hinf, hs⟩ := Tbl.sl_ok ht hsz
          have e1 : args.map a.eval = #[.slice b nn c] := by rw [← Array.toArray_toList (xs := args.map a.eval), Array.toList_map, mapO_ok (a := a) (fun x hx v hv => h x (by simp [hop, Op.operands, Call.operands]; first | (right; simpa using hx) | simpa using hx) v hv) hargs]
          simp only [hop, resolve, e1, invoke, builtin, Sem.run_bind, pure, Sem.run, Result.andThen, Builtin.len_, hty]
          simp [Sem.run_bind, run_underlying hu, Sem.run, Result.andThen, goInt, pure, quietR]
      · cases he
    · -- call
      rename_i f args tys hop
      split at he
      · rename_i g fst cap vs hf hargs
        cases hb : tb.fns.elem g with
        | false => rw [hb] at he; cases he
        | true =>
          rw [hb] at he
          simp only [cond] at he
          split at he
          · cases he
            obtain ⟨fn, hfn, hbody, hname⟩ := Tbl.fn_ok ht (List.elem_iff.1 hb)
            have h2 := hr _ rfl w hw
            have e1 : args.map a.eval = vs.toArray := by rw [← Array.toArray_toList (xs := args.map a.eval), Array.toList_map, mapO_ok (a := a) (fun x hx v hv => h x (by simp [hop, Op.operands, Call.operands]; first | (right; simpa using hx) | simpa using hx) v hv) hargs]
            simp only [hop, resolve, e1, h f (by simp [hop, Op.operands, Call.operands]) _ hf, Deferred.ofValue, invoke, Sem.run_bind, pure, Sem.run, Result.andThen, callFunc, program, hfn]
            have hb2 : fn.body.isNone = false := by cases hbb : fn.body <;> simp_all
            simp only [hname, hb2, Sem.run, pure, quietR, Bool.false_eq_true, if_false]
            exact ⟨trivial, h2⟩
          · cases he
      · cases he
    · cases he
  unfold evm at he
  split at he
  · split at he
    · split at he
      · rename_i s hs
        cases he
        exact hraw s hs (hr _ rfl w hw)
      · cases he
    · cases he
  · exact hplain _ he
end Go.Proofs.Ytgihgcclabodbaa.DK
namespace Go.Proofs.Ytgihgcclabodbaa.DK
open Go
set_option linter.unusedSimpArgs false
set_option linter.unusedVariables false
variable {P : Program} {rn : Option Nat}
/-- How the operations of a region are to be reckoned. 'sy': the operations whose answers guard others and stay open; 'md': 1 a comparison that is decided, 2 a sum that wraps, 3 a run that is told. -/
structure Ctl where
  sy : List Nat := []
  md : List (Nat × Nat) := []
inductive Gd where
  | lit (b : Bool)
  | sym (g : Gl)
/-- Whether the operation is carried out. -/
def gd (ct : Ctl) (ops : Array Oper) (F : List (Nat × Value)) (B : Bv) (o : Oper) : Option Gd :=
  match o.guard with
  | none => some (.lit true)
  | some (j, want) => cond (ct.sy.elem j)
    (match lk B j with
      | some (g, _) => some (.sym (g ++ [(j, want)]))
      | none => none)
    (match ops[j]? with
      | some oj => match oj.dst with
        | some d => match lk F d with
          | some (.bool b) => some (.lit (b == want))
          | some (.tuple _) => some (.lit false)
          | _ => none
        | none => none
      | none => none)
theorem gd_ok {n : Nat} {ds : List Deferred} {ops : Array Oper} {F : List (Nat × Value)} {G : Gs} {B : Bv} {a : Act} (h : Fg n ds ops F G B a) {ct : Ctl} {o : Oper} {r : Gd} (hw : gd ct ops F B o = some r) :
    Region.wanted o (yielded ops a.tmps) = (match r with | .lit b => b | .sym g => gt B g) := by
  unfold gd at hw
  unfold Region.wanted
  split at hw
  · rename_i hg; cases hw; simp [hg]
  · rename_i j want hg
    cases hs : ct.sy.elem j with
    | true =>
      rw [hs] at hw
      simp only [cond] at hw
      split at hw
      · rename_i g c hl
        cases hw
        simp only [hg, h.told _ _ _ hl]
        have e : gt B (g ++ [(j, want)]) = (gt B g && gt1 B (j, want)) := by
          rw [Bool.eq_iff_iff, Bool.and_eq_true, gt_iff, gt_iff]
          simp only [List.mem_append, List.mem_singleton, or_imp, forall_and, forall_eq]
        rw [e]
        simp only [gt1, hl]
        cases gt B g <;> cases c <;> cases want <;> rfl
      · cases hw
    | false =>
      rw [hs] at hw
      simp only [cond] at hw
      split at hw
      · rename_i oj hj
        split at hw
        · rename_i d hd
          split at hw
          · rename_i b' hl
            cases hw
            simp only [hg, yielded, hj, Option.bind_some, hd, h.fr.get _ _ hl]
            cases b' <;> cases want <;> rfl
          · rename_i vs hl
            cases hw
            simp only [hg, yielded, hj, Option.bind_some, hd, h.fr.get _ _ hl]
            cases want <;> rfl
          · cases hw
        · cases hw
      · cases hw
def putF (F : List (Nat × Value)) (d : Option Tmp) (v : Value) : List (Nat × Value) := match d with | some d => (d, v) :: F | none => F
def putG (G : Gs) (d : Option Tmp) (g : Gl) (v : Value) : Gs := match d with | some d => (d, (g, v)) :: G | none => G
/-- No operation whose answer is told writes this slot. -/
def dstB (ops : Array Oper) (B : Bv) (d : Nat) : Bool := B.all fun x => match ops[x.1]? with | some o => (match o.dst with | some e => !(Nat.beq e d) | none => true) | none => true
/-- May a value be laid into this slot, beside what is told of the slots in the other list? -/
def dstF (n : Nat) (ops : Array Oper) (G : Gs) (B : Bv) (d : Option Tmp) : Bool := match d with | some d => Nat.blt d n && (lk G d).isNone && dstB ops B d | none => true
def dstG (n : Nat) (ops : Array Oper) (F : List (Nat × Value)) (B : Bv) (d : Option Tmp) : Bool := match d with | some d => Nat.blt d n && (lk F d).isNone && dstB ops B d | none => true
theorem yielded_put {ops : Array Oper} {B : Bv} {d : Nat} (hd : dstB ops B d = true) {j : Nat} {r : Gl × Bool} (hj : lk B j = some r) (tmps : Array Value) (v : Value) : yielded ops (tmps.setIfInBounds d v) j = yielded ops tmps j := by
  simp only [dstB, List.all_eq_true] at hd
  have := hd _ (lk_mem _ _ _ hj)
  unfold yielded
  cases ho : ops[j]? with
  | none => rfl
  | some o =>
    simp only [ho] at this
    cases hdst : o.dst with
    | none => simp [hdst]
    | some e =>
      simp only [hdst] at this
      have hne : d ≠ e := by rintro rfl; rw [Nat.beq_refl] at this; cases this
      simp only [Option.bind_some, hdst]
      rw [Array.getElem?_setIfInBounds_ne hne]
theorem Fg.putF {n : Nat} {ds : List Deferred} {ops : Array Oper} {F : List (Nat × Value)} {G : Gs} {B : Bv} {a : Act} (h : Fg n ds ops F G B a) {d : Option Tmp} (hd : dstF n ops G B d = true) (v : Value) : Fg n ds ops (putF F d v) G B (a.put d v) := by
  cases d with
  | none => exact h
  | some d =>
    simp only [dstF, Bool.and_eq_true] at hd
    refine ⟨h.fr.put (by simpa [Nat.blt_eq] using hd.1.1) v, fun t g u hu => ?_, fun j g c hj => ?_⟩
    · have e : d ≠ t := by rintro rfl; rw [hu] at hd; simp at hd
      simp only [Act.put]
      rw [Array.getElem?_setIfInBounds_ne e]
      exact h.getc t g u hu
    · exact (yielded_put hd.2 hj _ _).trans (h.told j g c hj)
theorem Fg.putG {n : Nat} {ds : List Deferred} {ops : Array Oper} {F : List (Nat × Value)} {G : Gs} {B : Bv} {a : Act} (h : Fg n ds ops F G B a) {d : Option Tmp} (hd : dstG n ops F B d = true) (g : Gl) (v : Value) : Fg n ds ops F (putG G d g v) B (a.put d (cond (gt B g) v undef)) := by
  cases d with
  | none => exact h
  | some d =>
    simp only [dstG, Bool.and_eq_true] at hd
    have hlt : d < n := by simpa [Nat.blt_eq] using hd.1.1
    refine ⟨⟨by simp [Act.put, h.fr.size], by simp [Act.put, h.fr.defers], fun t u hu => ?_⟩, fun t g' u hu => ?_, fun j g c hj => (yielded_put hd.2 hj _ _).trans (h.told j g c hj)⟩
    · have e : d ≠ t := by rintro rfl; rw [hu] at hd; simp at hd
      simp only [Act.put]
      rw [Array.getElem?_setIfInBounds_ne e]
      exact h.fr.get t u hu
    · simp only [DK.putG, lk] at hu
      by_cases e : d = t
      · subst e
        rw [Nat.beq_refl d] at hu
        simp at hu
        obtain ⟨rfl, rfl⟩ := hu
        simp [Act.put, h.fr.size, hlt]
      · have : Nat.beq d t = false := by cases hb : Nat.beq d t with
          | false => rfl
          | true => exact absurd (Nat.eq_of_beq_eq_true hb) e
        rw [this] at hu
        simp only [cond] at hu
        simp only [Act.put]
        rw [Array.getElem?_setIfInBounds_ne e]
        exact h.getc t g' u hu
/-- Nobody names this operation as a guard yet. -/
def freshB (i : Nat) (G : Gs) (B : Bv) : Bool := (lk B i).isNone && (G.all fun e => e.2.1.all fun x => !(Nat.beq x.1 i)) && (B.all fun e => e.2.1.all fun x => !(Nat.beq x.1 i))
theorem Fg.putB {n : Nat} {ds : List Deferred} {ops : Array Oper} {F : List (Nat × Value)} {G : Gs} {B : Bv} {a : Act} (h : Fg n ds ops F G B a) {i : Nat} {gl : Gl} {c : Bool} (hf : freshB i G B = true) (hgl : (gl.all fun x => !(Nat.beq x.1 i)) = true)
    (hy : yielded ops a.tmps i = cond (gt B gl) (some c) none) : Fg n ds ops F G ((i, (gl, c)) :: B) a := by
  simp only [freshB, Bool.and_eq_true, List.all_eq_true] at hf
  have hG : ∀ t g v, lk G t = some (g, v) → gt ((i, (gl, c)) :: B) g = gt B g := fun t g v hv => gt_fresh (by simp only [List.all_eq_true]; exact hf.1.2 _ (lk_mem _ _ _ hv))
  refine ⟨h.fr, fun t g v hv => ?_, fun j g c' hj => ?_⟩
  · rw [hG t g v hv]; exact h.getc t g v hv
  · simp only [lk] at hj
    cases hb : Nat.beq i j with
    | true =>
      rw [hb] at hj
      simp at hj
      obtain ⟨rfl, rfl⟩ := hj
      rw [← Nat.eq_of_beq_eq_true hb, gt_fresh hgl]; exact hy
    | false =>
      rw [hb] at hj
      simp only [cond] at hj
      rw [gt_fresh (by simp only [List.all_eq_true]; exact hf.2 _ (lk_mem _ _ _ hj))]; exact h.told j g c' hj
/-- The operation of this region that writes a slot. -/
def whoWrites (ops : Array Oper) (t : Nat) : Nat → Option Nat
  | 0 => none
  | k + 1 => match whoWrites ops t k with
    | some j => some j
    | none => match ops[k]? with
      | some o => (match o.dst with | some d => cond (Nat.beq d t) (some k) none | none => none)
      | none => none
/-- The value of an operation where the guards g are met; 'wrap': what it asks is asked under them. -/
def evp (tb : Tbl) (ct : Ctl) (ops : Array Oper) (i : Nat) (wrap : Bool) (g : Gl) (F : List (Nat × Value)) (G : Gs) (B : Bv) (o : Oper) (rs : List Req) : Option (Value × List Req × List Req) :=
  match o.op with
  | .pick c x y => match lkG g F G c with
    | some (.bool t) =>
      (match (match c with | .tmp s => whoWrites ops s ops.size | _ => none) with
        | some j => cond (ct.sy.elem j)
          (match lk B j with
            | some (_, t') => (match lkG (g ++ [(j, true)]) F G x, lkG (g ++ [(j, false)]) F G y with
              | some (.bool bx), some (.bool bY) => some (.bool (cond t' bx bY), [], rs)
              | some vx, some vy => some (cond t' vx vy, [], rs)
              | _, _ => none)
            | none => none)
          (match (cond t (lkG g F G x) (lkG g F G y)) with | some v => some (v, [], rs) | none => none)
        | none => (match (cond t (lkG g F G x) (lkG g F G y)) with | some v => some (v, [], rs) | none => none))
    | _ => none
  | _ => match rs with
    | [] => (match evm tb (lkG g F G) o ((lk ct.md i).getD 0) none with
      | some (v, none) => some (v, [], [])
      | _ => none)
    | r1 :: rs1 => cond wrap
      (match r1 with
        | .und _ r => (match evm tb (lkG g F G) o ((lk ct.md i).getD 0) (some r) with
          | some (v, none) => some (v, [], r1 :: rs1)
          | some (v, some r') => some (v, [.und (gt B g) r'], rs1)
          | none => none)
        | _ => (match evm tb (lkG g F G) o ((lk ct.md i).getD 0) none with
          | some (v, none) => some (v, [], r1 :: rs1)
          | _ => none))
      (match evm tb (lkG g F G) o ((lk ct.md i).getD 0) (some r1) with
        | some (v, none) => some (v, [], r1 :: rs1)
        | some (v, some r') => some (v, [r'], rs1)
        | none => none)
theorem whoWrites_ok {ops : Array Oper} {t : Nat} : ∀ {k j : Nat}, whoWrites ops t k = some j → ∃ o, ops[j]? = some o ∧ o.dst = some t
  | 0, j, h => by simp [whoWrites] at h
  | k + 1, j, h => by
    simp only [whoWrites] at h
    split at h
    · rename_i j' hj; cases h; exact whoWrites_ok hj
    · split at h
      · rename_i o ho
        split at h
        · rename_i d hd
          cases hb : Nat.beq d t with
          | false => rw [hb] at h; cases h
          | true => rw [hb] at h; cases h; exact ⟨o, ho, by rw [hd, Nat.eq_of_beq_eq_true hb]⟩
        · cases h
      · cases h
theorem evp_ok {n : Nat} {ds : List Deferred} {ops : Array Oper} {F : List (Nat × Value)} {G : Gs} {B : Bv} {a : Act} {tb : Tbl} {S : World → Prop} {ct : Ctl} {i : Nat} (ht : Tbl.ok P tb = true) (h : Fg n ds ops F G B a) {o : Oper} {wrap : Bool} {g : Gl} {rs em rs' : List Req} {v : Value}
    (he : evp tb ct ops i wrap g F G B o rs = some (v, em, rs')) (hr : ∀ r ∈ em, r.ok P S) (hg : gt B g = true) : ∀ w, S w → quietR P w v ((execOp a.eval o).run P w) := by
  unfold evp at he
  split at he
  · rename_i c x y hop
    intro w hw
    split at he
    · rename_i t hc
      have ec := lkG_ok h hg c _ hc
      unfold execOp
      simp only [hop, ec, asBool]
      have hlit : ∀ he : (match (cond t (lkG g F G x) (lkG g F G y)) with | some v => some (v, ([] : List Req), rs) | none => none) = some (v, em, rs'), quietR P w v (Sem.run P (do pure (Next.value (if ← (pure t : Sem Bool) then a.eval x else a.eval y))) w) := by
        intro he
        cases t with
        | true =>
          simp only [cond] at he
          split at he
          · rename_i v' hv'; cases he; exact ⟨rfl, lkG_ok h hg x _ hv'⟩
          · cases he
        | false =>
          simp only [cond] at he
          split at he
          · rename_i v' hv'; cases he; exact ⟨rfl, lkG_ok h hg y _ hv'⟩
          · cases he
      split at he
      · rename_i j hj
        cases hs : ct.sy.elem j with
        | false => rw [hs] at he; exact hlit he
        | true =>
          rw [hs] at he
          simp only [cond] at he
          -- the slot is the one that operation j wrote
          obtain ⟨s, rfl, oj, hoj, hdj⟩ : ∃ s, c = .tmp s ∧ ∃ oj, ops[j]? = some oj ∧ oj.dst = some s := by
            cases c with
            | tmp s => exact ⟨s, rfl, whoWrites_ok hj⟩
            | _ => cases hj
          split at he
          · rename_i gj t' hB
            have hyj := h.told _ _ _ hB
            have hslot : a.tmps[s]? = some (.bool t) := by
              simp only [Act.eval, Array.getD_eq_getD_getElem?] at ec
              cases hs' : a.tmps[s]? with
              | none => rw [hs'] at ec; simp [undef] at ec
              | some u => rw [hs'] at ec; simp at ec; rw [ec]
            have hy2 : yielded ops a.tmps j = some t := by simp only [yielded, hoj, Option.bind_some, hdj, hslot]
            rw [hy2] at hyj
            have ett : t = t' := by
              cases hgj : gt B gj with
              | true => rw [hgj] at hyj; simp at hyj; exact hyj
              | false => rw [hgj] at hyj; simp at hyj
            subst ett
            have hgt : ∀ b, t = b → gt B (g ++ [(j, b)]) = true := by
              intro b hb
              rw [gt_iff]
              intro z hz
              rcases List.mem_append.1 hz with hz | hz
              · exact gt_iff.1 hg z hz
              · simp at hz; subst hz; simp only [gt1, hB]; subst hb; cases t <;> rfl
            have hx : ∀ vx, lkG (g ++ [(j, true)]) F G x = some vx → t = true → a.eval x = vx := fun vx hvx ht' => lkG_ok h (hgt true ht') x vx hvx
            have hy : ∀ vy, lkG (g ++ [(j, false)]) F G y = some vy → t = false → a.eval y = vy := fun vy hvy ht' => lkG_ok h (hgt false ht') y vy hvy
            split at he
            · rename_i bx bY hvx hvy
              cases he
              cases t with
              | true => exact ⟨rfl, hx _ hvx rfl⟩
              | false => exact ⟨rfl, hy _ hvy rfl⟩
            · rename_i vx vy _ hvx hvy
              cases he
              cases t with
              | true => exact ⟨rfl, hx _ hvx rfl⟩
              | false => exact ⟨rfl, hy _ hvy rfl⟩
            · cases he
          · cases he
      · exact hlit he
    · cases he
  · have key : ∀ (hd em' : Option Req), evm tb (lkG g F G) o ((lk ct.md i).getD 0) hd = some (v, em') → (∀ r, em' = some r → r.ok P S) → ∀ w, S w → quietR P w v ((execOp a.eval o).run P w) :=
      fun hd em' hev hem => evm_ok ht (fun x _ v hv => lkG_ok h hg x v hv) hev hem
    split at he
    · split at he
      · rename_i hev
        cases he
        exact key _ _ hev (fun r e => by cases e)
      · cases he
    · rename_i r1 rs1
      cases wrap with
      | true =>
        simp only [cond] at he
        split at he
        · split at he
          · rename_i hev
            cases he
            exact key _ _ hev (fun r e => by cases e)
          · rename_i hev
            cases he
            exact key _ _ hev (fun r e => by cases e; exact hr (.und _ _) (by simp) hg)
          · cases he
        · split at he
          · rename_i hev
            cases he
            exact key _ _ hev (fun r e => by cases e)
          · cases he
      | false =>
        simp only [cond] at he
        split at he
        · rename_i hev
          cases he
          exact key _ _ hev (fun r e => by cases e)
        · rename_i hev
          cases he
          exact key _ _ hev (fun r e => by cases e; exact hr _ (by simp))
        · cases he
structure FGB where
  F : List (Nat × Value)
  G : Gs
  B : Bv
/-- The answer of a guarding operation is told on. -/
def addB (ct : Ctl) (i : Nat) (g : Gl) (d : Option Tmp) (v : Value) (s : FGB) : Option FGB :=
  cond (ct.sy.elem i)
    (match v, d with
      | .bool c, some _ => cond (freshB i s.G s.B && (g.all fun x => !(Nat.beq x.1 i))) (some { s with B := (i, (g, c)) :: s.B }) none
      | _, _ => none)
    (some s)
/-- One operation that is quiet. -/
def ev1 (tb : Tbl) (n : Nat) (ct : Ctl) (ops : Array Oper) (i : Nat) (s : FGB) (rs : List Req) : Option (FGB × List Req × List Req) :=
  match ops[i]? with
  | none => none
  | some o => match gd ct ops s.F s.B o with
    | none => none
    | some (.lit false) => cond (dstF n ops s.G s.B o.dst && !(ct.sy.elem i)) (some ({ s with F := putF s.F o.dst undef }, [], rs)) none
    | some (.lit true) => cond (dstF n ops s.G s.B o.dst) (match evp tb ct ops i false [] s.F s.G s.B o rs with
      | none => none
      | some (v, em, rs') => match addB ct i [] o.dst v { s with F := putF s.F o.dst v } with
        | some s' => some (s', em, rs')
        | none => none) none
    | some (.sym g) => cond (dstG n ops s.F s.B o.dst) (match evp tb ct ops i true g s.F s.G s.B o rs with
      | none => none
      | some (v, em, rs') => match addB ct i g o.dst v { s with G := putG s.G o.dst g v } with
        | some s' => some (s', em, rs')
        | none => none) none
theorem ev1_ok {n : Nat} {ds : List Deferred} {a : Act} {tb : Tbl} {ct : Ctl} {S : World → Prop} (ht : Tbl.ok P tb = true) {ops : Array Oper} {s s' : FGB} (h : Fg n ds ops s.F s.G s.B a) {i : Nat} {rs em rs' : List Req}
    (he : ev1 tb n ct ops i s rs = some (s', em, rs')) (hr : ∀ r ∈ em, r.ok P S) : ∃ o v, ops[i]? = some o ∧ YX P ops S o v a ∧ Fg n ds ops s'.F s'.G s'.B (a.put o.dst v) := by
  have hadd : ∀ (o : Oper) (g : Gl) (v vv : Value) (s1 : FGB), ops[i]? = some o → addB ct i g o.dst v s1 = some s' → Fg n ds ops s1.F s1.G s1.B (a.put o.dst vv) → vv = cond (gt s1.B g) v undef → dstF n ops [] [] o.dst = true → Fg n ds ops s'.F s'.G s'.B (a.put o.dst vv) := by
    intro o g v vv s1 ho hb hf hvv hlt
    unfold addB at hb
    cases hs : ct.sy.elem i with
    | false => rw [hs] at hb; cases hb; exact hf
    | true =>
      rw [hs] at hb
      simp only [cond] at hb
      split at hb
      · rename_i c d hd
        cases hc : freshB i s1.G s1.B && (g.all fun x => !(Nat.beq x.1 i)) with
        | false => rw [hc] at hb; cases hb
        | true =>
          rw [hc] at hb
          cases hb
          simp only [Bool.and_eq_true] at hc
          refine hf.putB hc.1 hc.2 ?_
          have hd2 : d < n := by
            rw [hd] at hlt
            simp only [dstF, Bool.and_eq_true] at hlt
            simpa [Nat.blt_eq] using hlt.1.1
          have hsz : d < a.tmps.size := by rw [h.fr.size]; exact hd2
          simp only [yielded, ho, Option.bind_some, hd, Act.put, hvv]
          rw [Array.getElem?_setIfInBounds_self_of_lt hsz]
          cases gt s1.B g <;> rfl
      · cases hb
  have hd0 : ∀ (G : Gs) (B : Bv) (d : Option Tmp), dstF n ops G B d = true → dstF n ops [] [] d = true := by
    intro G B d hd
    cases d with
    | none => rfl
    | some d => simp only [dstF, Bool.and_eq_true] at hd ⊢; exact ⟨⟨hd.1.1, by simp [lk]⟩, by simp [dstB]⟩
  have hd1 : ∀ (F : List (Nat × Value)) (B : Bv) (d : Option Tmp), dstG n ops F B d = true → dstF n ops [] [] d = true := by
    intro F B d hd
    cases d with
    | none => rfl
    | some d => simp only [dstF, dstG, Bool.and_eq_true] at hd ⊢; exact ⟨⟨hd.1.1, by simp [lk]⟩, by simp [dstB]⟩
  unfold ev1 at he
  split at he
  · cases he
  · rename_i o ho
    split at he
    · cases he
    · rename_i hg
      cases hd : dstF n ops s.G s.B o.dst && !(ct.sy.elem i) with
      | false => rw [hd] at he; cases he
      | true =>
        rw [hd] at he
        cases he
        simp only [Bool.and_eq_true] at hd
        exact ⟨o, undef, ho, .inr ⟨gd_ok h hg, rfl⟩, h.putF hd.1 _⟩
    · rename_i hg
      cases hd : dstF n ops s.G s.B o.dst with
      | false => rw [hd] at he; cases he
      | true =>
        rw [hd] at he
        simp only [cond] at he
        split at he
        · cases he
        · rename_i v em' rs2 hev
          split at he
          · rename_i s2 hb
            cases he
            exact ⟨o, v, ho, .inl ⟨gd_ok h hg, evp_ok ht h hev hr rfl⟩, hadd o [] v v _ ho hb (h.putF hd v) rfl (hd0 _ _ _ hd)⟩
          · cases he
    · rename_i g hg
      cases hd : dstG n ops s.F s.B o.dst with
      | false => rw [hd] at he; cases he
      | true =>
        rw [hd] at he
        simp only [cond] at he
        split at he
        · cases he
        · rename_i v em' rs2 hev
          split at he
          · rename_i s2 hb
            cases he
            refine ⟨o, cond (gt s.B g) v undef, ho, ?_, hadd o g v _ _ ho hb (h.putG hd g v) rfl (hd1 _ _ _ hd)⟩
            have hw := gd_ok h hg
            cases hgv : gt s.B g with
            | true => exact .inl ⟨by rw [hw]; exact hgv, evp_ok ht h hev hr hgv⟩
            | false => exact .inr ⟨by rw [hw]; exact hgv, rfl⟩
          · cases he
def evq (tb : Tbl) (n : Nat) (ct : Ctl) (ops : Array Oper) : List Nat → FGB → List Req → Option (List (Nat × Value) × List Req)
  | [], s, _ => some (s.F, [])
  | i :: is, s, rs => match ev1 tb n ct ops i s rs with
    | none => none
    | some (s1, em, rs') => match evq tb n ct ops is s1 rs' with
      | none => none
      | some (F', em') => some (F', em ++ em')
def evk (tb : Tbl) (n : Nat) (ct : Ctl) (ops : Array Oper) (is : List Nat) (F : List (Nat × Value)) (rs : List Req) (keep : List Nat) : Option (List (Nat × Value) × List Req) :=
  match evq tb n ct ops is ⟨F, [], []⟩ rs with
  | none => none
  | some (F', em) => some (sel keep F', em)
theorem Fr.fg {n : Nat} {ds : List Deferred} {ops : Array Oper} {F : List (Nat × Value)} {a : Act} (h : Fr n ds F a) : Fg n ds ops F [] [] a := ⟨h, fun t g v hv => by simp [lk] at hv, fun j g c hj => by simp [lk] at hj⟩
theorem seq_evq {tb : Tbl} {n : Nat} {ct : Ctl} {ds : List Deferred} {ops : Array Oper} {S : World → Prop} (hSE : ∀ w w', S w → Ext w w' → S w') (ht : Tbl.ok P tb = true) {K : Act → World → Prop} (rest : List Nat) : ∀ (is : List Nat) (s : FGB) (F' : List (Nat × Value)) (rs em : List Req) (a : Act) (w : World),
    evq tb n ct ops is s rs = some (F', em) → (∀ r ∈ em, r.ok P S) → Fg n ds ops s.F s.G s.B a → S w → (∀ a' w', Fr n ds F' a' → Ext w w' → S w' → seqX P rn ops K rest a' w') → seqX P rn ops K (is ++ rest) a w
  | [], s, F', rs, em, a, w, he, hr, hF, hS, k => by
    simp only [evq, Option.some.injEq, Prod.mk.injEq] at he
    rw [← he.1] at k
    exact k a w hF.fr (Kp.refl _ _) hS
  | i :: is, s, F', rs, em, a, w, he, hr, hF, hS, k => by
    simp only [evq] at he
    split at he
    · cases he
    · rename_i s1 em1 rs1 h1
      split at he
      · cases he
      · rename_i F2 em2 h2
        cases he
        obtain ⟨o, v, ho, hy, hF'⟩ := ev1_ok ht hF h1 (fun r hr' => hr r (List.mem_append_left _ hr'))
        refine YX.opX ho hy hS fun w' hE => ?_
        exact seq_evq hSE ht rest is s1 _ rs1 em2 _ w' h2 (fun r hr' => hr r (List.mem_append_right _ hr')) hF' (hSE _ _ hS hE) fun a' w'' hf he' hs => k a' w'' hf (hE.trans he') hs
/-- A piece of a region that does not draw. -/
theorem seq_quiet {tb : Tbl} {n : Nat} (ct : Ctl) {ds : List Deferred} {ops : Array Oper} {K : Act → World → Prop} {F F' : List (Nat × Value)} {rs : List Req} {a : Act} {w : World} (ht : Tbl.ok P tb = true) (hF : Fr n ds F a)
    (is rest : List Nat) (keep : List Nat) (hr : Reqs P (fun w' => Ext w w') rs) (he : evk tb n ct ops is F rs keep = some (F', rs))
    (k : ∀ a' w', Fr n ds F' a' → Ext w w' → seqX P rn ops K rest a' w') : seqX P rn ops K (is ++ rest) a w := by
  unfold evk at he
  split at he
  · cases he
  · rename_i F2 em h2
    simp only [Option.some.injEq, Prod.mk.injEq] at he
    obtain ⟨rfl, rfl⟩ := he
    exact seq_evq (fun _ _ h h' => h.trans h') ht rest is ⟨F, [], []⟩ _ _ _ a w h2 hr.mem hF.fg (Kp.refl _ _) fun a' w' hf hE _ => k a' w' (hf.sel keep) hE
/-- The operations of the tail wait for this one. -/
def tailB (ops : Array Oper) (Z : List Nat) (i : Nat) : Bool := Z.all fun j => match ops[j]? with | some o => o.after.any fun e => Region.binds .any e && e.on == i | none => true
theorem tailB_ok {ops : Array Oper} {Z : List Nat} {i : Nat} (h : tailB ops Z i = true) (j : Nat) (o : Oper) (hj : Z.elem j = true) (ho : ops[j]? = some o) : ∃ e ∈ o.after, Region.binds .any e = true ∧ e.on = i := by
  simp only [tailB, List.all_eq_true] at h
  have := h j (List.elem_iff.1 hj)
  simp only [ho] at this
  obtain ⟨e, he, hb⟩ := Array.any_eq_true'.1 this
  simp only [Bool.and_eq_true, beq_iff_eq] at hb
  exact ⟨e, he, hb.1, hb.2⟩
def hoist (ops : Array Oper) (Z : List Nat) : List Nat → Array Bool → Option (Array Bool)
  | [], listed => some listed
  | i :: is, listed => cond ((Region.ready .any ops listed).contains i && Region.free .any ops listed i && tailB ops Z i) (hoist ops Z is (listed.setIfInBounds i true)) none
theorem any_evq {tb : Tbl} {n : Nat} {ct : Ctl} {ds : List Deferred} {ops : Array Oper} {S : World → Prop} (hSE : ∀ w w', S w → Ext w w' → S w') (ht : Tbl.ok P tb = true) (hs : Region.noSelect ops = true) {K : Act → World → Prop} {Z : List Nat} (fuel : Nat) : ∀ (is : List Nat) (s : FGB) (F' : List (Nat × Value)) (rs em : List Req) (listed listed' : Array Bool) (a : Act) (w : World),
    evq tb n ct ops is s rs = some (F', em) → hoist ops Z is listed = some listed' → (∀ r ∈ em, r.ok P S) → Fg n ds ops s.F s.G s.B a → S w → (∀ a', Fr n ds F' a' → anyX P rn ops K Z S fuel listed' a' w) → anyX P rn ops K Z S (is.length + fuel) listed a w
  | [], s, F', rs, em, listed, listed', a, w, he, hh, hr, hF, hS, k => by
    simp only [evq, Option.some.injEq, Prod.mk.injEq] at he
    simp only [hoist, Option.some.injEq] at hh
    rw [← he.1, ← hh] at k
    simpa using k a hF.fr
  | i :: is, s, F', rs, em, listed, listed', a, w, he, hh, hr, hF, hS, k => by
    simp only [evq] at he
    split at he
    · cases he
    · rename_i s1 em1 rs1 h1
      split at he
      · cases he
      · rename_i F2 em2 h2
        cases he
        obtain ⟨o, v, ho, hy, hF'⟩ := ev1_ok ht hF h1 (fun r hr' => hr r (List.mem_append_left _ hr'))
        simp only [hoist] at hh
        cases hc : (Region.ready .any ops listed).contains i && Region.free .any ops listed i && tailB ops Z i with
        | false => rw [hc] at hh; cases hh
        | true =>
          rw [hc] at hh
          simp only [cond] at hh
          simp only [Bool.and_eq_true] at hc
          rw [List.length_cons, Nat.add_right_comm]
          exact anyX_first hSE ho (tailB_ok hc.2) (Region.noSelect_spec hs) _ listed a w (Region.free_spec ho hc.1.2) (by simpa using hc.1.1) hy hS
            (any_evq hSE ht hs fuel is s1 _ rs1 em2 _ listed' _ w h2 hh (fun r hr' => hr r (List.mem_append_right _ hr')) hF' hS k)
/-- A piece of a region that draws: what is quiet, taken first. -/
theorem any_quiet {tb : Tbl} {n : Nat} (ct : Ctl) {ds : List Deferred} {ops : Array Oper} {K : Act → World → Prop} {Z : List Nat} {S : World → Prop} {F F' : List (Nat × Value)} {rs : List Req} {listed : Array Bool} {a : Act} {w : World} (ht : Tbl.ok P tb = true) (hF : Fr n ds F a)
    (hSE : ∀ w w', S w → Ext w w' → S w') (hS : S w) (is : List Nat) (fuel : Nat) (listed' : Array Bool) (keep : List Nat) (hr : Reqs P S rs) (he : evk tb n ct ops is F rs keep = some (F', rs))
    (hh : (Region.noSelect ops && decide (hoist ops Z is listed = some listed')) = true)
    (k : ∀ a', Fr n ds F' a' → anyX P rn ops K Z S fuel listed' a' w) : anyX P rn ops K Z S (is.length + fuel) listed a w := by
  unfold evk at he
  simp only [Bool.and_eq_true, decide_eq_true_eq] at hh
  split at he
  · cases he
  · rename_i F2 em h2
    simp only [Option.some.injEq, Prod.mk.injEq] at he
    obtain ⟨rfl, rfl⟩ := he
    exact any_evq hSE ht hh.1 fuel is ⟨F, [], []⟩ _ _ _ listed listed' a w h2 hh.2 hr.mem hF.fg hS fun a' hf => k a' (hf.sel keep)
def lexB (ops : Array Oper) : Bool := match hoist ops [] (List.range ops.size) (Array.replicate ops.size false) with
  | some l => Region.noSelect ops && (Region.ready .any ops l).isEmpty
  | none => false
theorem region_q {tb : Tbl} {n : Nat} (ct : Ctl) {ds : List Deferred} {id : Nat} {ops : Array Oper} {Q : Exit → Act → World → Prop} {F F' : List (Nat × Value)} {rs : List Req} {a : Act} {w : World} (ht : Tbl.ok P tb = true) (hF : Fr n ds F a)
    (keep : List Nat) (hr : Reqs P (fun w' => Ext w w') rs) (he : evk tb n ct ops (List.range ops.size) F rs keep = some (F', rs))
    (k : ∀ a' w', Fr n ds F' a' → Ext w w' → Q .normal a' w') : W rn P (.region id ops false) Q a w := by
  refine region_seq ?_
  rw [← List.append_nil (List.range ops.size)]
  exact seq_quiet ct ht hF _ [] keep hr he fun a' w' hf hE => k a' w' hf hE
theorem region_d {tb : Tbl} {n : Nat} (ct : Ctl) {ds : List Deferred} {id : Nat} {ops : Array Oper} {Q : Exit → Act → World → Prop} {F F' : List (Nat × Value)} {rs : List Req} {a : Act} {w : World} (hm : P.follows .mixedOrders = true) (ht : Tbl.ok P tb = true) (hF : Fr n ds F a)
    (keep : List Nat) (hr : Reqs P (fun w' => Ext w w') rs) (he : evk tb n ct ops (List.range ops.size) F rs keep = some (F', rs)) (hl : lexB ops = true)
    (k : ∀ a' w', Fr n ds F' a' → Ext w w' → Q .normal a' w') : W rn P (.region id ops true) Q a w := by
  refine region_any hm [] (fun w' => Ext w w') ?_
  unfold lexB at hl
  split at hl
  · rename_i l hh
    simp only [Bool.and_eq_true] at hl
    have : ops.size = (List.range ops.size).length + 0 := by simp
    rw [show anyX P rn ops (Q .normal) [] (fun w' => Ext w w') ops.size = anyX P rn ops (Q .normal) [] (fun w' => Ext w w') ((List.range ops.size).length + 0) from by rw [← this]]
    exact any_quiet ct ht hF (fun _ _ h h' => h.trans h') (Ext.drew w) _ 0 l keep hr he (by simp [hl.1, hh]) fun a' hf => any_done (by simpa using hl.2) (fun w1 h1 => k a' w1 hf ((Ext.drew w).trans h1)) 0
  · cases hl
end Go.Proofs.Ytgihgcclabodbaa.DK
namespace Go.Proofs.Ytgihgcclabodbaa.DK
open Go
set_option linter.unusedSimpArgs false
set_option linter.unusedVariables false
variable {P : Program} {rn : Option Nat}
def argF : Nat → List Value → List (Nat × Value)
  | _, [] => []
  | i, v :: vs => (i, v) :: argF (i + 1) vs
theorem lk_argF : ∀ (vs : List Value) (i t : Nat) (v : Value), lk (argF i vs) t = some v → i ≤ t ∧ vs[t - i]? = some v
  | [], i, t, v, h => by simp [argF, lk] at h
  | u :: vs, i, t, v, h => by
    simp only [argF, lk] at h
    cases hb : Nat.beq i t with
    | true =>
      rw [hb] at h
      simp at h
      have := Nat.eq_of_beq_eq_true hb
      subst this
      subst h
      simp
    | false =>
      rw [hb] at h
      have h' := lk_argF vs (i + 1) t v h
      refine ⟨by omega, ?_⟩
      rw [show t - i = (t - (i + 1)) + 1 from by omega]
      simpa using h'.2
theorem calls_of_W {f : FuncId} {fn : Func} {c : Code} {args : List Value} {w : World} {R : Ending → World → Prop} (hf : P.funcs[f]? = some fn) (hb : fn.body = some c) (hn : Nat.ble args.length fn.ntmps = true)
    (h : ∀ a, Fr fn.ntmps [] (argF 0 args) a → W none P c (bodyPostM (FW none) 0 P fn R) a w) : Calls P f args.toArray w R := by
  refine callsIn_FW.1 (callsIn_of_wp_marks (F := FW none) (n := 0) hf hb trivial (h _ ⟨?_, rfl, ?_⟩))
  · have := Nat.le_of_ble_eq_true hn
    simp; omega
  · intro t v hv
    obtain ⟨_, h2⟩ := lk_argF args 0 t v hv
    simp only [Nat.sub_zero] at h2
    have hlt : t < args.length := (List.getElem?_eq_some_iff.1 h2).1
    rw [Array.getElem?_append_left (by simpa using hlt)]
    simpa using h2
def evRes (tb : Tbl) (F : List (Nat × Value)) : List ResultVar → List Req → Option (List Value × List Req)
  | [], _ => some ([], [])
  | .tmp t :: xs, rs => match lk F t with
    | some v => (match evRes tb F xs rs with | some (vs, em) => some (v :: vs, em) | none => none)
    | none => none
  | .cell a t :: xs, rs => match lk F a with
    | some (.pointer (some p)) => match lk tb.agg t with
      | some sz => (match rs with
        | .lds _ us :: rs' => cond (Nat.beq us.length sz) (match evRes tb F xs rs' with | some (vs, em) => some (.agg us.toArray :: vs, .lds p us :: em) | none => none) none
        | _ => none)
      | none => cond (tb.sca.elem t) (match rs with
        | .ld _ v :: rs' => (match evRes tb F xs rs' with | some (vs, em) => some (v :: vs, .ld p v :: em) | none => none)
        | _ => none) none
    | _ => none
def oneOf : List Value → Value
  | [v] => v
  | vs => .tuple vs.toArray
def resOne (tmps : Array Value) : ResultVar → Sem Value
  | .tmp t => pure (tmps.getD t undef)
  | .cell a t => do loadVar t (← asAddr (tmps.getD a undef))
theorem evRes_ok {n : Nat} {ds : List Deferred} {F : List (Nat × Value)} {a : Act} {tb : Tbl} (ht : Tbl.ok P tb = true) (h : Fr n ds F a) {w : World} : ∀ {xs : List ResultVar} {rs em : List Req} {vs : List Value},
    evRes tb F xs rs = some (vs, em) → (∀ r ∈ em, r.ok P (fun w' => w' = w)) →
    (xs.mapM (resOne a.tmps)).run P w = .ok vs w
  | [], rs, em, vs, he, hr => by simp [evRes] at he; obtain ⟨rfl, rfl⟩ := he; rfl
  | .tmp t :: xs, rs, em, vs, he, hr => by
    simp only [evRes] at he
    split at he
    · rename_i v hv
      split at he
      · rename_i us em' hus
        cases he
        have hg : a.tmps.getD t undef = v := by rw [Array.getD_eq_getD_getElem?, h.get _ _ hv]; rfl
        rw [List.mapM_cons]
        simp only [resOne, hg, Sem.run_bind]
        simp [Sem.run, pure, Result.andThen, evRes_ok ht h hus hr, Sem.run_bind]
      · cases he
    · cases he
  | .cell p t :: xs, rs, em, vs, he, hr => by
    simp only [evRes] at he
    split at he
    · rename_i q hq
      have hg : a.tmps.getD p undef = .pointer (some q) := by rw [Array.getD_eq_getD_getElem?, h.get _ _ hq]; rfl
      split at he
      · rename_i sz hsz
        split at he
        · rename_i us rs2
          cases hb : Nat.beq us.length sz with
          | false => rw [hb] at he; cases he
          | true =>
            rw [hb] at he
            simp only [cond] at he
            split at he
            · rename_i vs2 em2 h2
              cases he
              obtain ⟨h1, i, hi, hs⟩ := Tbl.agg_ok ht hsz
              have h3 := hr _ (List.mem_cons_self ..) w rfl
              have hl := run_loadVar_agg (w := w) h1 hi (by rw [hs]; exact (Nat.eq_of_beq_eq_true hb).symm) h3
              have ih := evRes_ok ht h h2 (fun r hm => hr r (List.mem_cons_of_mem _ hm))
              rw [List.mapM_cons]
              simp only [resOne, hg, asAddr, Sem.run_bind]
              simp [Sem.run, pure, Result.andThen, hl, ih, Sem.run_bind]
            · cases he
        · cases he
      · cases hb : tb.sca.elem t with
        | false => rw [hb] at he; cases he
        | true =>
          rw [hb] at he
          simp only [cond] at he
          split at he
          · split at he
            · rename_i vs2 em2 h2
              cases he
              obtain ⟨h1, h4, i, hi, hs⟩ := Tbl.sca_ok ht (List.elem_iff.1 hb)
              have h3 := hr _ (List.mem_cons_self ..) w rfl
              have hl := run_loadVar_sca (w := w) h1 h4 h3
              have ih := evRes_ok ht h h2 (fun r hm => hr r (List.mem_cons_of_mem _ hm))
              rw [List.mapM_cons]
              simp only [resOne, hg, asAddr, Sem.run_bind]
              simp [Sem.run, pure, Result.andThen, hl, ih, Sem.run_bind]
            · cases he
          · cases he
    · cases he
theorem results_run {fn : Func} {tmps : Array Value} {vs : List Value} {w : World} (h : (fn.results.toList.mapM (resOne tmps)).run P w = .ok vs w) : (results fn tmps).run P w = .ok (oneOf vs) w := by
  have e : results fn tmps = (do let vs ← fn.results.mapM (resOne tmps); pure (if h : vs.size = 1 then vs[0] else .tuple vs)) := by
    unfold results
    congr 1
  rw [e, Array.mapM_eq_mapM_toList, Sem.run_bind, Sem.run_map, h]
  simp only [Result.andThen, Sem.run, pure]
  cases vs with
  | nil => rfl
  | cons v vs => cases vs <;> rfl
/-- The marks among the deferred calls are shut, one after the other. -/
inductive Shut : List Deferred → World → World → Prop
  | nil (w : World) : Shut [] w w
  | cons {D : Nat} {ds : List Deferred} {w w' : World} (h : w.heap[D]? = some (.deferred (some []))) (t : Shut ds (w.putObj D (.deferred none)) w') : Shut ({ target := .collected D, args := #[] } :: ds) w w'
theorem leavesM {fn : Func} {tmps : Array Value} {R : Ending → World → Prop} {v : Value} {ds : List Deferred} {w w' : World} (hs : Shut ds w w') (h : (results fn tmps).run P w' = .ok v w') (hR : R (.returned v) w') :
    LeavesInM (FW none) 0 P fn tmps R ds .returning w := by
  induction hs with
  | nil => exact ⟨_, h, hR⟩
  | cons hk _ ih => exact ⟨by simp, .inl ⟨_, _, rfl, run_takeDeferred hk, ih h hR⟩⟩
theorem leave {fn : Func} {R : Ending → World → Prop} {n : Nat} {ds : List Deferred} {F : List (Nat × Value)} {a : Act} {tb : Tbl} {w w' : World} {rs : List Req} {vs : List Value} (ht : Tbl.ok P tb = true) (hF : Fr n ds F a) (hs : Shut ds w w')
    (hr : Reqs P (fun x => x = w') rs) (he : evRes tb F fn.results.toList rs = some (vs, rs)) (hR : R (.returned (oneOf vs)) w') : bodyPostM (FW none) 0 P fn R .ret a w ∧ bodyPostM (FW none) 0 P fn R .normal a w := by
  have h := results_run (evRes_ok ht hF he hr.mem)
  have := leavesM hs h hR
  rw [← hF.defers] at this
  exact ⟨this, this⟩
structure Res where
  fp : Nat → Prop
  ok : World → Prop
  loc : ∀ w w', (∀ k, fp k → w'.heap[k]? = w.heap[k]?) → ok w → ok w'
  lt : ∀ w, ok w → ∀ k, fp k → k < w.heap.size
/-- Block b is o. -/
def pt (b : Nat) (o : Obj) : Res where
  fp := (· = b)
  ok w := w.heap[b]? = some o
  loc w w' h hw := (h b rfl).trans hw
  lt w hw k hk := by subst hk; exact obj_lt hw
/-- Block b is a row of cells. -/
abbrev cel (b : Nat) (cs : Array Value) (t : TypeId) : Res := pt b (.cells cs t (0, 0))
/-- A slice of the call's own: elements of type e, each of sz cells; n of them, told cell by cell. -/
def rowR (e : TypeId) (sz : Nat) (v : Value) (n : Nat) (xs : List Value) : Res where
  fp k := v.ownBlock = some k
  ok w := w.ownsRow 0 e sz v n xs
  loc w w' h hw := by
    refine ⟨hw.1, ?_⟩
    rcases hw.2 with h2 | ⟨g, cap, cur, hv, h0, hg, r⟩
    · exact .inl h2
    · exact .inr ⟨g, cap, cur, hv, h0, by rw [h g (by rw [hv]; rfl)]; exact hg, r⟩
  lt w hw k hk := (hw.lt k hk).2
structure Own (w0 : World) (M : Nat → Prop) (L : List Res) (w : World) : Prop where
  kp : Kp M w0 w
  all : ∀ r ∈ L, r.ok w
  apart : L.Pairwise fun r s => ∀ k, r.fp k → ¬ s.fp k
  home : ∀ r ∈ L, ∀ k, r.fp k → w0.heap.size ≤ k ∨ M k
theorem Own.start (w : World) (M : Nat → Prop) : Own w M [] w := ⟨Kp.refl _ _, by simp, List.Pairwise.nil, by simp⟩
theorem Own.get {w0 : World} {M : Nat → Prop} {L : List Res} {w : World} (h : Own w0 M L w) (i : Nat) {r : Res} (hi : L[i]? = some r) : r.ok w := h.all r (List.mem_of_getElem? hi)
theorem Own.ext {w0 : World} {M : Nat → Prop} {L : List Res} {w w' : World} (h : Own w0 M L w) (hE : Ext w w') : Own w0 M L w' :=
  ⟨h.kp.trans hE.kp, fun r hr => r.loc w w' (fun k hk => hE.block k (r.lt w (h.all r hr) k hk) fun h => h) (h.all r hr), h.apart, h.home⟩
/-- Something of one's own more, in new blocks. -/
theorem Own.add {w0 : World} {M : Nat → Prop} {L : List Res} {w w' : World} (h : Own w0 M L w) (hE : Ext w w') {r : Res} (hok : r.ok w') (hnew : ∀ k, r.fp k → w.heap.size ≤ k) : Own w0 M (L ++ [r]) w' := by
  have h' := h.ext hE
  refine ⟨h'.kp, ?_, ?_, ?_⟩
  · intro s hs
    rcases List.mem_append.1 hs with hs | hs
    · exact h'.all s hs
    · simp at hs; subst hs; exact hok
  · rw [List.pairwise_append]
    refine ⟨h.apart, List.pairwise_singleton _ _, fun s hs t ht k hk hk' => ?_⟩
    simp at ht; subst ht
    have h1 := s.lt w (h.all s hs) k hk
    have h2 := hnew k hk'
    omega
  · intro s hs k hk
    rcases List.mem_append.1 hs with hs | hs
    · exact h.home s hs k hk
    · simp at hs; subst hs; exact .inl (Nat.le_trans h.kp.size (hnew k hk))
/-- One of them changes, maybe into new blocks. -/
theorem Own.upd {w0 : World} {M : Nat → Prop} {L : List Res} {w w' : World} (h : Own w0 M L w) (i : Nat) {r r' : Res} (hi : L[i]? = some r) (hk : Kp r.fp w w') (hok : r'.ok w') (hfp : ∀ k, r'.fp k → r.fp k ∨ w.heap.size ≤ k) : Own w0 M (L.set i r') w' := by
  have hil : i < L.length := (List.getElem?_eq_some_iff.1 hi).1
  have hLi : L[i] = r := (List.getElem?_eq_some_iff.1 hi).2
  have hrm : r ∈ L := List.mem_of_getElem? hi
  have hap := List.pairwise_iff_getElem.1 h.apart
  have key : ∀ j (hj : j < L.length), j ≠ i → ∀ k, L[j].fp k → ¬ r.fp k := by
    intro j hj hne k hk1 hk2
    rcases Nat.lt_or_gt_of_ne hne with hlt | hlt
    · exact hap j i hj hil hlt k hk1 (by rw [hLi]; exact hk2)
    · exact hap i j hil hj hlt k (by rw [hLi]; exact hk2) hk1
  have keep : ∀ j (hj : j < L.length), j ≠ i → L[j].ok w' := fun j hj hne =>
    L[j].loc w w' (fun k hk1 => hk.block k (L[j].lt w (h.all _ (List.getElem_mem hj)) k hk1) (key j hj hne k hk1)) (h.all _ (List.getElem_mem hj))
  refine ⟨?_, ?_, ?_, ?_⟩
  · refine h.kp.trans' hk fun k hk1 hk2 => ?_
    rcases h.home r hrm k hk2 with h' | h'
    · omega
    · exact h'
  · intro s hs
    obtain ⟨j, hj, rfl⟩ := List.mem_iff_getElem.1 hs
    simp only [List.length_set] at hj
    by_cases e : j = i
    · subst e; simp only [List.getElem_set_self]; exact hok
    · rw [List.getElem_set_ne (Ne.symm e)]; exact keep j hj e
  · rw [List.pairwise_iff_getElem]
    intro a b ha0 hb0 hlt k hk1 hk2
    have ha : a < L.length := by simpa using ha0
    have hb : b < L.length := by simpa using hb0
    by_cases ea : a = i
    · subst ea
      simp only [List.getElem_set_self] at hk1
      have hb' : b ≠ a := by omega
      rw [List.getElem_set_ne (Ne.symm hb')] at hk2
      rcases hfp k hk1 with h1 | h1
      · exact key b hb hb' k hk2 h1
      · have := L[b].lt w (h.all _ (List.getElem_mem hb)) k hk2; omega
    · rw [List.getElem_set_ne (Ne.symm ea)] at hk1
      by_cases eb : b = i
      · subst eb
        simp only [List.getElem_set_self] at hk2
        rcases hfp k hk2 with h1 | h1
        · exact key a ha ea k hk1 h1
        · have := L[a].lt w (h.all _ (List.getElem_mem ha)) k hk1; omega
      · rw [List.getElem_set_ne (Ne.symm eb)] at hk2
        exact hap a b ha hb hlt k hk1 hk2
  · intro s hs k hk1
    obtain ⟨j, hj, rfl⟩ := List.mem_iff_getElem.1 hs
    simp only [List.length_set] at hj
    by_cases e : j = i
    · subst e
      simp only [List.getElem_set_self] at hk1
      rcases hfp k hk1 with h1 | h1
      · exact h.home r hrm k h1
      · exact .inl (Nat.le_trans h.kp.size h1)
    · rw [List.getElem_set_ne (Ne.symm e)] at hk1
      exact h.home _ (List.getElem_mem hj) k hk1
/-- Some of them, in their order. -/
theorem Own.sub {w0 : World} {M : Nat → Prop} {L L' : List Res} {w : World} (h : Own w0 M L w) (hs : L'.Sublist L) : Own w0 M L' w :=
  ⟨h.kp, fun r hr => h.all r (hs.subset hr), h.apart.sublist hs, fun r hr => h.home r (hs.subset hr)⟩
theorem Own.drop1 {w0 : World} {M : Nat → Prop} {L : List Res} {w : World} (h : Own w0 M L w) (i : Nat) : Own w0 M (L.eraseIdx i) w := h.sub (List.eraseIdx_sublist ..)
/-- A fact of the start, told of a world that owns what it has changed. -/
theorem Own.old {w0 : World} {M : Nat → Prop} {L : List Res} {w : World} (h : Own w0 M L w) {p : Addr} {v : Value} (hc : w0.cell? p = some v) (hm : ¬ M p.block) : w.cell? p = some v := h.kp.cell hc hm
theorem Own.cell {w0 : World} {M : Nat → Prop} {L : List Res} {w : World} (h : Own w0 M L w) (i : Nat) {b : Nat} {cs : Array Value} {t : TypeId} (hi : L[i]? = some (cel b cs t)) (off : Nat) {v : Value} (hv : cs[off]? = some v) : w.cell? ⟨b, off, none⟩ = some v := by
  have := h.get i hi
  simp only [pt] at this
  simp [World.cell?, this, hv]
end Go.Proofs.Ytgihgcclabodbaa.DK
namespace Go.Proofs.Ytgihgcclabodbaa.DK
open Go
set_option linter.unusedSimpArgs false
set_option linter.unusedVariables false
variable {P : Program} {rn : Option Nat}
inductive NOp where
  | box (t : TypeId) (v : Value) (d : Nat)
  | alloc (t : TypeId) (d : Nat)
  | store (t : TypeId) (p : Value) (v : Value)
  | bsl (t : TypeId) (len : Nat) (ps : List (Nat × Value)) (d : Nat)
  | msl (t : TypeId) (l c : Value) (d : Nat)
  | mmap (t : TypeId) (d : Nat)
  | app (tys : Array TypeId) (ty : TypeId) (args : List Value) (d : Nat)
  | cpy (tys : Array TypeId) (ty : TypeId) (args : List Value) (d : Option Nat)
  | mupd (t : TypeId) (m k v : Value)
  | ment (t : TypeId) (m k : Value) (d : Nat)
  | esto (t : TypeId) (m s v : Value)
  | call (f : FuncId) (args : Array Value) (d : Option Nat)
  | yld (l : Nat) (args : List Value) (d : Option Nat)
def NOp.dst : NOp → Option Tmp
  | .box _ _ d | .alloc _ d | .bsl _ _ _ d | .msl _ _ _ d | .mmap _ d | .app _ _ _ d | .ment _ _ _ d => some d
  | .call _ _ d | .cpy _ _ _ d | .yld _ _ d => d
  | _ => none
def NOp.sem : NOp → Sem Next
  | .box t v _ => do pure (.value (← Instr.box t v))
  | .alloc t _ => do pure (.value (← Instr.alloc t true (.tuple #[])))
  | .store t p v => do Instr.storeAt t p v; pure .skip
  | .bsl t len ps _ => do pure (.value (← Instr.buildSlice t len ps.toArray))
  | .msl t l c _ => do pure (.value (← Instr.makeSlice t l c))
  | .mmap t _ => do pure (.value (← Instr.makeMap t none))
  | .app tys ty args _ => do pure (.value (← Builtin.append_ tys ty args.toArray))
  | .cpy tys ty args _ => do pure (.value (← Builtin.copy_ tys ty args.toArray))
  | .mupd t m k v => do Instr.mapUpdate t m k v; pure .skip
  | .ment t m k _ => do pure (.value (← Instr.mapEntry t m k))
  | .esto t m s v => do Instr.entryStore t m s v; pure .skip
  | .call f args _ => callFunc f args
  | .yld l args _ => Instr.yield l args.toArray
def decOp (F : List (Nat × Value)) (o : Oper) : Option NOp :=
  match o.op, o.dst with
  | .box t x, some d => (lkG [] F [] x).map fun v => .box t v d
  | .alloc t, some d => some (.alloc t d)
  | .store t p x, none => match lkG [] F [] p, lkG [] F [] x with
    | some u, some v => some (.store t u v)
    | _, _ => none
  | .buildSlice t len parts, some d => (mapP (lkG [] F []) parts.toList).map fun ps => .bsl t len ps d
  | .makeSlice t l c, some d => match lkG [] F [] l, lkG [] F [] c with
    | some u, some v => some (.msl t u v d)
    | _, _ => none
  | .makeMap t none, some d => some (.mmap t d)
  | .call { callee := .builtin .append, args, argTypes }, some d => (mapO (lkG [] F []) args.toList).map fun vs => .app argTypes o.type vs d
  | .call { callee := .builtin .copy, args, argTypes }, d => (mapO (lkG [] F []) args.toList).map fun vs => .cpy argTypes o.type vs d
  | .mapUpdate t m k x, none => match lkG [] F [] m, lkG [] F [] k, lkG [] F [] x with
    | some u, some v, some y => some (.mupd t u v y)
    | _, _, _ => none
  | .mapEntry t m k, some d => match lkG [] F [] m, lkG [] F [] k with
    | some u, some v => some (.ment t u v d)
    | _, _ => none
  | .entryStore t m s x, none => match lkG [] F [] m, lkG [] F [] s, lkG [] F [] x with
    | some u, some v, some y => some (.esto t u v y)
    | _, _, _ => none
  | .call { callee := .value f, args, .. }, d => match lkG [] F [] f, mapO (lkG [] F []) args.toList with
    | some (.func (.func g) fst cap), some vs => some (.call g (fst ++ vs.toArray ++ cap) d)
    | some (.func (.yield l) fst _), some vs => some (.yld l (fst.toList ++ vs) d)
    | _, _ => none
  | _, _ => none
def dec (n : Nat) (ops : Array Oper) (i : Nat) (F : List (Nat × Value)) : Option NOp :=
  match ops[i]? with
  | some o => match gd {} ops F [] o with
    | some (.lit true) => cond (dstF n ops [] [] o.dst) (decOp F o) none
    | _ => none
  | none => none
theorem decOp_ok {n : Nat} {ds : List Deferred} {F : List (Nat × Value)} {a : Act} (h : Fr n ds F a) {o : Oper} {x : NOp} (he : decOp F o = some x) : execOp a.eval o = x.sem ∧ o.dst = x.dst := by
  have hO : ∀ x v, lkG [] F [] x = some v → a.eval x = v := fun x v hv => lkG_ok (ops := #[]) (B := []) h.fg (by rfl) x v hv
  have hm : ∀ {xs : List Operand} {vs : List Value}, mapO (lkG [] F []) xs = some vs → xs.map a.eval = vs := fun hx => mapO_ok (fun x _ v hv => hO x v hv) hx
  unfold decOp at he
  split at he
  · rename_i hop hd; simp only [Option.map_eq_some_iff] at he; obtain ⟨v, hv, rfl⟩ := he; exact ⟨by unfold execOp; simp only [hop, hO _ _ hv, NOp.sem], hd⟩
  · rename_i hop hd; cases he; exact ⟨by unfold execOp; simp only [hop, NOp.sem], hd⟩
  · rename_i hop hd
    split at he
    · rename_i u v hu hv; cases he; exact ⟨by unfold execOp; simp only [hop, hO _ _ hu, hO _ _ hv, NOp.sem], hd⟩
    · cases he
  · rename_i t len parts d hop hd
    simp only [Option.map_eq_some_iff] at he; obtain ⟨ps, hps, rfl⟩ := he
    refine ⟨?_, hd⟩
    have := mapP_ok (a := a) (fun x _ v hv => hO x.2 v hv) hps
    have e : (parts.map fun (x : Nat × Operand) => (x.1, a.eval x.2)) = ps.toArray := by rw [← this, ← Array.toList_map, Array.toArray_toList]
    unfold execOp
    simp only [hop, NOp.sem]
    rw [← e]
  · rename_i hop hd
    split at he
    · rename_i u v hu hv; cases he; exact ⟨by unfold execOp; simp only [hop, hO _ _ hu, hO _ _ hv, NOp.sem], hd⟩
    · cases he
  · rename_i hop hd; cases he; exact ⟨by unfold execOp; simp only [hop, NOp.sem, Option.map_none], hd⟩
  · rename_i args tys d hop hd
    simp only [Option.map_eq_some_iff] at he; obtain ⟨vs, hvs, rfl⟩ := he
    refine ⟨?_, hd⟩
    have e : args.map a.eval = vs.toArray := by rw [← hm hvs, ← Array.toList_map, Array.toArray_toList]
    unfold execOp
    simp [hop, NOp.sem, resolve, invoke, builtin, e, pure, bind, Sem.bind]
  · rename_i d0 args tys hop
    simp only [Option.map_eq_some_iff] at he; obtain ⟨vs, hvs, rfl⟩ := he
    refine ⟨?_, rfl⟩
    have e : args.map a.eval = vs.toArray := by rw [← hm hvs, ← Array.toList_map, Array.toArray_toList]
    unfold execOp
    simp [hop, NOp.sem, resolve, invoke, builtin, e, pure, bind, Sem.bind]
  · rename_i hop hd
    split at he
    · rename_i u v y hu hv hy; cases he; exact ⟨by unfold execOp; simp only [hop, hO _ _ hu, hO _ _ hv, hO _ _ hy, NOp.sem], hd⟩
    · cases he
  · rename_i hop hd
    split at he
    · rename_i u v hu hv; cases he; exact ⟨by unfold execOp; simp only [hop, hO _ _ hu, hO _ _ hv, NOp.sem], hd⟩
    · cases he
  · rename_i hop hd
    split at he
    · rename_i u v y hu hv hy; cases he; exact ⟨by unfold execOp; simp only [hop, hO _ _ hu, hO _ _ hv, hO _ _ hy, NOp.sem], hd⟩
    · cases he
  · rename_i d0 f args tys hop
    split at he
    · rename_i g fst cap vs hf hvs
      cases he
      refine ⟨?_, rfl⟩
      have e : args.map a.eval = vs.toArray := by rw [← hm hvs, ← Array.toList_map, Array.toArray_toList]
      unfold execOp
      simp only [hop, NOp.sem, resolve, e, hO _ _ hf, Deferred.ofValue, invoke]
      rfl
    · rename_i l fst cap vs hf hvs
      cases he
      refine ⟨?_, rfl⟩
      have e : args.map a.eval = vs.toArray := by rw [← hm hvs, ← Array.toList_map, Array.toArray_toList]
      have e2 : fst ++ vs.toArray = (fst.toList ++ vs).toArray := by simp
      unfold execOp
      simp only [hop, NOp.sem, resolve, e, hO _ _ hf, Deferred.ofValue, invoke, ← e2]
      rfl
    · cases he
  · cases he
theorem dec_ok {n : Nat} {ds : List Deferred} {F : List (Nat × Value)} {a : Act} (h : Fr n ds F a) {ops : Array Oper} {i : Nat} {x : NOp} (he : dec n ops i F = some x) :
    ∃ o, ops[i]? = some o ∧ Region.wanted o (yielded ops a.tmps) = true ∧ execOp a.eval o = x.sem ∧ o.dst = x.dst ∧ ∀ v, Fr n ds (putF F x.dst v) (a.put o.dst v) := by
  unfold dec at he
  split at he
  · rename_i o ho
    split at he
    · rename_i hg
      cases hd : dstF n ops [] [] o.dst with
      | false => rw [hd] at he; cases he
      | true =>
        rw [hd] at he
        obtain ⟨h1, h2⟩ := decOp_ok h he
        refine ⟨o, ho, gd_ok h.fg hg, h1, h2, fun v => ?_⟩
        rw [← h2]
        exact (h.fg.putF hd v).fr
    · cases he
  · cases he
theorem op_val {n : Nat} {ds : List Deferred} {F : List (Nat × Value)} {a : Act} {ops : Array Oper} {i : Nat} {x : NOp} {K : Act → World → Prop} {w w' : World} {v : Value} (he : dec n ops i F = some x) (h : Fr n ds F a)
    (hr : x.sem.run P w = .ok (.value v) w') (k : ∀ a', Fr n ds (putF F x.dst v) a' → K a' w') : opX P rn ops i K a w := by
  obtain ⟨o, ho, hw, hs, hd, hf⟩ := dec_ok h he
  unfold opX
  simp only [ho, hw, if_true, hs, hr, uponX]
  exact k _ (hf v)
theorem op_skip {n : Nat} {ds : List Deferred} {F : List (Nat × Value)} {a : Act} {ops : Array Oper} {i : Nat} {x : NOp} {K : Act → World → Prop} {w w' : World} (he : dec n ops i F = some x) (h : Fr n ds F a) (hx : x.dst = none)
    (hr : x.sem.run P w = .ok .skip w') (k : ∀ a', Fr n ds F a' → K a' w') : opX P rn ops i K a w := by
  obtain ⟨o, ho, hw, hs, hd, hf⟩ := dec_ok h he
  unfold opX
  simp only [ho, hw, if_true, hs, hr, uponX]
  have := hf undef
  rw [hx] at this
  exact k _ this
theorem op_call {n : Nat} {ds : List Deferred} {F : List (Nat × Value)} {a : Act} {ops : Array Oper} {i : Nat} {f : FuncId} {args : Array Value} {d : Option Nat} {K : Act → World → Prop} {w : World} {R : Ending → World → Prop} {tb : Tbl} (ht : Tbl.ok P tb = true) (hfn : tb.fns.elem f = true)
    (h : Fr n ds F a) (he : dec n ops i F = some (.call f args d)) (hc : Calls P f args w R) (k : ∀ e w', R e w' → ∃ v, e = .returned v ∧ ∀ a', Fr n ds (putF F d v) a' → K a' w') : opX P rn ops i K a w := by
  obtain ⟨o, ho, hw, hs, hd, hf⟩ := dec_ok h he
  obtain ⟨fn, hfn, hbody, hname⟩ := Tbl.fn_ok ht (List.elem_iff.1 hfn)
  have hb2 : fn.body.isNone = false := by cases hbb : fn.body <;> simp_all
  have hrun : (callFunc f args).run P w = .ok (.enter f args) w := by
    unfold callFunc
    simp only [Sem.run_bind, program, Sem.run, Result.andThen, hfn]
    simp [hname, hb2, Sem.run, pure]
  unfold opX
  simp only [ho, hw, if_true, hs, NOp.sem, hrun, uponX]
  refine hc.mono fun e w' hR => ?_
  obtain ⟨v, rfl, hk⟩ := k e w' hR
  exact ⟨v, rfl, hk _ (hf v)⟩
theorem pt_new (w : World) (o : Obj) : (pt w.heap.size o).ok (w.alloc o) := heap_alloc_new w o
section
variable {n : Nat} {ds : List Deferred} {F : List (Nat × Value)} {a : Act} {ops : Array Oper} {i : Nat} {K : Act → World → Prop} {w w0 : World} {M : Nat → Prop} {L : List Res}
theorem op_box {t : TypeId} {v : Value} {d : Nat} (hF : Fr n ds F a) (hO : Own w0 M L w) (he : dec n ops i F = some (.box t v d))
    (k : ∀ a' w' b, Fr n ds ((d, .pointer (some ⟨b, 0, none⟩)) :: F) a' → Own w0 M (L ++ [cel b v.cells t]) w' → Ext w w' ∧ w.heap.size ≤ b → K a' w') : opX P rn ops i K a w := by
  refine op_val (w' := w.alloc (.cells v.cells t)) (v := .pointer (some ⟨w.heap.size, 0, none⟩)) he hF ?_ fun a' hf => k a' _ _ hf (hO.add (Ext.alloc w _) (pt_new w _) (fun k hk => by simp only [pt] at hk; omega)) ⟨Ext.alloc w _, Nat.le_refl _⟩
  simp only [NOp.sem, Instr.box, newVar, newRow]
  simp [Sem.run_bind, Result.andThen, Sem.run, pure]
theorem op_alloc {t : TypeId} {d : Nat} {z : Value} (hF : Fr n ds F a) (hO : Own w0 M L w) (he : dec n ops i F = some (.alloc t d)) (hz : ((P.info? t).bind fun i => i.zero) = some z)
    (k : ∀ a' w' b, Fr n ds ((d, .pointer (some ⟨b, 0, none⟩)) :: F) a' → Own w0 M (L ++ [cel b z.cells t]) w' → Ext w w' ∧ w.heap.size ≤ b → K a' w') : opX P rn ops i K a w := by
  refine op_val (w' := w.alloc (.cells z.cells t)) (v := .pointer (some ⟨w.heap.size, 0, none⟩)) he hF ?_ fun a' hf => k a' _ _ hf (hO.add (Ext.alloc w _) (pt_new w _) (fun k hk => by simp only [pt] at hk; omega)) ⟨Ext.alloc w _, Nat.le_refl _⟩
  cases hi : P.info? t with
  | none => rw [hi] at hz; cases hz
  | some inf =>
    rw [hi] at hz
    simp only [Option.bind_some] at hz
    simp only [NOp.sem, Instr.alloc, zeroValue, newVar, newRow]
    simp [Sem.run_bind, run_typeInfo hi, hz, Result.andThen, Sem.run, pure]
theorem op_bsl {t e : TypeId} {len : Nat} {ps : List (Nat × Value)} {d : Nat} {z : Value} {sz : Nat} {cs : Array Value} (hF : Fr n ds F a) (hO : Own w0 M L w) (he : dec n ops i F = some (.bsl t len ps d))
    (ht : P.underlying t = some (.slice e)) (hi : ((P.info? e).bind fun i => i.zero.map fun z => (i.size, z)) = some (sz, z)) (hl : Nat.ble (len * sz) 16777216 = true)
    (hcs : Instr.fill (fun i => some (i * sz, sz)) ((Array.range (len * sz)).map (fun j => (if len * sz = 0 then (#[] : Array Value) else z.cells)[j % (if len * sz = 0 then (#[] : Array Value) else z.cells).size]!)) ps = some cs)
    (k : ∀ a' w' b, Fr n ds ((d, .slice (some ⟨b, 0, none⟩) len len) :: F) a' → Own w0 M (L ++ [cel b cs e]) w' → Ext w w' ∧ w.heap.size ≤ b → K a' w') : opX P rn ops i K a w := by
  refine op_val (w' := w.alloc (.cells cs e)) (v := .slice (some ⟨w.heap.size, 0, none⟩) len len) he hF ?_ fun a' hf => k a' _ _ hf (hO.add (Ext.alloc w _) (pt_new w _) (fun k hk => by simp only [pt] at hk; omega)) ⟨Ext.alloc w _, Nat.le_refl _⟩
  cases hinf : P.info? e with
  | none => rw [hinf] at hi; cases hi
  | some inf =>
    rw [hinf] at hi
    simp only [Option.bind_some, Option.map_eq_some_iff] at hi
    obtain ⟨z', hz, hzz⟩ := hi
    simp only [Prod.mk.injEq] at hzz
    obtain ⟨hs, rfl⟩ := hzz
    have hl' := Nat.le_of_ble_eq_true hl
    simp only [NOp.sem, Instr.buildSlice, zeroValue, newRow, sizeOf]
    simp only [Sem.run_bind, run_underlying ht, Result.andThen, run_typeInfo hinf, pure, Sem.run, hs]
    by_cases h0 : len * sz = 0
    · simp [h0] at hcs
      simp [h0, hcs, Sem.run, pure, Sem.run_bind, Result.andThen]
    · simp only [h0, if_false] at hcs
      have hle : ¬ (16777216 < len * sz) := by omega
      simp [h0, hcs, hle, Sem.run, pure, Sem.run_bind, Result.andThen, run_typeInfo hinf, hz]
def wr (cs : Array Value) (off : Nat) : List Value → Array Value
  | [] => cs
  | v :: vs => wr (cs.setIfInBounds off v) (off + 1) vs
theorem run_storeCells {b : Nat} {t : TypeId} : ∀ (vs : List Value) (off j : Nat) (cs : Array Value) (w : World), w.heap[b]? = some (.cells cs t (0, 0)) → off + j + vs.length ≤ cs.size → (∀ v ∈ vs, v.oneCell' = true) →
    ∃ w', (storeCells ⟨b, off, none⟩ vs j).run P w = .ok () w' ∧ w'.heap[b]? = some (.cells (wr cs (off + j) vs) t (0, 0)) ∧ Kp (· = b) w w'
  | [], off, j, cs, w, hb, hl, h1 => ⟨w, by simp [storeCells, Sem.run, pure], hb, Kp.refl _ _⟩
  | v :: vs, off, j, cs, w, hb, hl, h1 => by
    have hadd : (⟨b, off, none⟩ : Addr).add j = ⟨b, off + j, none⟩ := by unfold Addr.add; split <;> simp_all
    have hlt : off + j < cs.size := by simp at hl; omega
    have hcell : w.cell? ⟨b, off + j, none⟩ = some cs[off + j] := by simp [World.cell?, hb, hlt]
    have hfz : w.frozen? ⟨b, off + j, none⟩ = false := by simp [World.frozen?, hb]
    have hb' : (w.setCell ⟨b, off + j, none⟩ v).heap[b]? = some (.cells (cs.setIfInBounds (off + j) v) t (0, 0)) := by
      have hbl := obj_lt hb
      have hbe : w.heap[b] = .cells cs t (0, 0) := by have := (Array.getElem?_eq_some_iff.1 hb).2; exact this
      simp only [World.setCell]
      rw [Array.getElem?_eq_getElem (by simpa using hbl), Array.getElem_modify_self, hbe]
      simp
    have hk1 : Kp (· = b) w (w.setCell ⟨b, off + j, none⟩ v) := ⟨rfl, rfl, rfl, by simp, fun k hk hm => Go.RowKit.Below.heap_setCell w _ _ k hm⟩
    obtain ⟨w', hr, hb2, hk2⟩ := run_storeCells vs off (j + 1) (cs.setIfInBounds (off + j) v) _ hb' (by simp at hl ⊢; omega) (fun u hu => h1 u (List.mem_cons_of_mem _ hu))
    refine ⟨w', ?_, by rw [show off + (j + 1) = off + j + 1 from rfl] at hb2; exact hb2, hk1.trans hk2⟩
    unfold storeCells
    rw [Sem.run_bind, hadd]
    have hv1 := h1 v (List.mem_cons_self ..)
    have hst : (store ⟨b, off + j, none⟩ v).run P w = .ok () (w.setCell ⟨b, off + j, none⟩ v) := by
      cases v <;> first | (simp only [store, Sem.run, hcell, hfz]; rfl) | (simp [Value.oneCell'] at hv1)
    rw [hst]
    exact hr
theorem op_store {t tc : TypeId} {p : Addr} {v : Value} {b off sz : Nat} {cs cs' : Array Value} (hF : Fr n ds F a) (hO : Own w0 M L w) (he : dec n ops i F = some (.store t (.pointer (some p)) v)) (j : Nat) (hj : L[j]? = some (cel b cs tc))
    (hp : p = ⟨b, off, none⟩) (hsz : ((P.info? t).map fun i => i.size) = some sz) (hs : (Nat.beq v.cells.size sz && Nat.ble (off + v.cells.size) cs.size && v.cells.toList.all Value.oneCell') = true) (hcs : wr cs off v.cells.toList = cs')
    (k : ∀ a' w', Fr n ds F a' → Own w0 M (L.set j (cel b cs' tc)) w' → Kp (· = b) w w' → K a' w') : opX P rn ops i K a w := by
  subst hp
  have hb := hO.get j hj
  simp only [pt] at hb
  simp only [Bool.and_eq_true, List.all_eq_true] at hs
  have hle := Nat.le_of_ble_eq_true hs.1.2
  have heq := Nat.eq_of_beq_eq_true hs.1.1
  obtain ⟨w', hr, hb', hk⟩ := run_storeCells (P := P) v.cells.toList off 0 cs w hb (by simpa using hle) hs.2
  simp only [Nat.add_zero] at hb'
  rw [hcs] at hb'
  refine op_skip (w' := w') he hF rfl ?_ fun a' hf => k a' w' hf (hO.upd j hj hk hb' (fun k hk => .inl hk)) hk
  cases hi : P.info? t with
  | none => rw [hi] at hsz; cases hsz
  | some inf =>
    rw [hi] at hsz
    simp only [Option.map_some, Option.some.injEq] at hsz
    simp only [NOp.sem, Instr.storeAt, Instr.sureAddr, storeVar]
    simp [Sem.run_bind, run_sizeOf hi, Result.andThen, Sem.run, pure, heq, hsz, hr]
end
end Go.Proofs.Ytgihgcclabodbaa.DK
namespace Go.Proofs.Ytgihgcclabodbaa.DK
open Go
set_option linter.unusedSimpArgs false
set_option linter.unusedVariables false
variable {P : Program} {rn : Option Nat}
theorem add_own (b off j : Nat) : (⟨b, off, none⟩ : Addr).add j = ⟨b, off + j, none⟩ := by unfold Addr.add; split <;> simp_all
theorem add_add (p : Addr) (i j : Nat) (hj : j ≠ 0) : (p.add i).add j = p.add (i + j) := by
  unfold Addr.add
  by_cases hi : i = 0
  · subst hi; simp
  · simp [hi, hj, Nat.add_assoc]
theorem add_block (p : Addr) (i : Nat) : (p.add i).block = p.block := by unfold Addr.add; split <;> rfl
section
variable {w0 w : World} {M : Nat → Prop} {L : List Res}
theorem Own.st (hO : Own w0 M L w) : ∀ x, Ext w x → Own w0 M L x := fun _ h => hO.ext h
theorem ldo {S : World → Prop} (H : ∀ x, S x → Own w0 M L x) (j : Nat) {b : Nat} {cs : Array Value} {t : TypeId} (hj : L[j]? = some (cel b cs t)) (off : Nat) {v : Value} (hv : cs[off]? = some v) : (Req.ld ⟨b, off, none⟩ v).ok P S :=
  fun w' hE => (H w' hE).cell j hj off hv
theorem ldso {S : World → Prop} (H : ∀ x, S x → Own w0 M L x) (j : Nat) {b : Nat} {cs : Array Value} {t : TypeId} (hj : L[j]? = some (cel b cs t)) (off : Nat) {vs : List Value} (hv : (cs.toList.drop off).take vs.length = vs) : (Req.lds ⟨b, off, none⟩ vs).ok P S := by
  intro w' hE i v hi
  have hlt : i < vs.length := (List.getElem?_eq_some_iff.1 hi).1
  rw [add_own]
  refine (H w' hE).cell j hj (off + i) ?_
  rw [← hv] at hi
  rw [List.getElem?_take_of_lt hlt, List.getElem?_drop] at hi
  simpa using hi
/-- The same for what is handed back. -/
theorem rdo (hO : Own w0 M L w) (j : Nat) {b : Nat} {cs : Array Value} {t : TypeId} (hj : L[j]? = some (cel b cs t)) (off : Nat) {v : Value} (hv : cs[off]? = some v) : (Req.ld ⟨b, off, none⟩ v).ok P (fun w' => w' = w) :=
  ldo (w0 := w0) (M := M) (S := fun x => x = w) (fun x e => by rw [show x = w from e]; exact hO) j hj off hv
theorem rdso (hO : Own w0 M L w) (j : Nat) {b : Nat} {cs : Array Value} {t : TypeId} (hj : L[j]? = some (cel b cs t)) (off : Nat) {vs : List Value} (hv : (cs.toList.drop off).take vs.length = vs) : (Req.lds ⟨b, off, none⟩ vs).ok P (fun w' => w' = w) :=
  ldso (w0 := w0) (M := M) (S := fun x => x = w) (fun x e => by rw [show x = w from e]; exact hO) j hj off hv
end
/-- The address of element i. -/
def adr (a : Option Addr) (sz : Nat) (i : Int) : Addr := (a.getD ⟨0, 0, none⟩).add (i.toNat * sz)
/-- A slice at a, of n elements of sz cells each, reads as xs; its block lies below bd. -/
structure Rd {α : Type} (enc : α → List Value) (sz : Nat) (bd : Nat) (w : World) (a : Option Addr) (n : Nat) (xs : List α) : Prop where
  len : xs.length = n
  size : n ≤ 9223372036854775807
  cells : ∀ i x, xs[i]? = some x → ∃ ad, a = some ad ∧ ad.block < bd ∧ ∀ j v, (enc x)[j]? = some v → w.cell? ((ad.add (i * sz)).add j) = some v
section
variable {α : Type} {enc : α → List Value} {sz bd : Nat} {w w0 : World} {M : Nat → Prop} {L : List Res} {a : Option Addr} {n : Nat} {xs : List α}
theorem Rd.kp {w' : World} {M : Nat → Prop} (h : Rd enc sz bd w a n xs) (hk : Kp M w w') (hm : ∀ k, k < bd → ¬ M k) : Rd enc sz bd w' a n xs :=
  ⟨h.len, h.size, fun i x hx => let ⟨ad, ha, hb, hc⟩ := h.cells i x hx; ⟨ad, ha, hb, fun j v hv => hk.cell (hc j v hv) (hm _ (by rw [add_block, add_block]; exact hb))⟩⟩
theorem Rd.ext {w' : World} (h : Rd enc sz bd w a n xs) (hk : Ext w w') : Rd enc sz bd w' a n xs := h.kp hk fun _ _ h => h
theorem Rd.own (h : Rd enc sz bd w0 a n xs) (hO : Own w0 M L w) (hm : ∀ k, k < bd → ¬ M k) : Rd enc sz bd w a n xs := h.kp hO.kp hm
theorem Rd.bd_le {bd' : Nat} (h : Rd enc sz bd w a n xs) (hb : bd ≤ bd') : Rd enc sz bd' w a n xs :=
  ⟨h.len, h.size, fun i x hx => let ⟨ad, ha, hb', hc⟩ := h.cells i x hx; ⟨ad, ha, Nat.lt_of_lt_of_le hb' hb, hc⟩⟩
theorem Rd.at_ [Inhabited α] (h : Rd enc sz bd w a n xs) {i : Int} (h0 : 0 ≤ i) (h1 : i < n) : ∃ ad, a = some ad ∧ ad.block < bd ∧ adr a sz i = ad.add (i.toNat * sz) ∧ ∀ j v, (enc (xs.getD i.toNat default))[j]? = some v → w.cell? ((adr a sz i).add j) = some v := by
  have hlt : i.toNat < xs.length := by have := h.len; omega
  have hx : xs[i.toNat]? = some (xs.getD i.toNat default) := by rw [List.getD_eq_getElem?_getD, List.getElem?_eq_getElem hlt]; rfl
  obtain ⟨ad, ha, hb, hc⟩ := h.cells _ _ hx
  subst ha
  exact ⟨ad, rfl, hb, rfl, hc⟩
theorem ix [Inhabited α] {S : World → Prop} (h : Rd enc sz bd w a n xs) {i : Int} (h0 : 0 ≤ i) (h1 : i < n) : (Req.idx a n i sz (adr a sz i)).ok P S := by
  obtain ⟨ad, ha, _, he, _⟩ := h.at_ h0 h1
  exact ⟨ad, ha, h0, h1, he⟩
theorem ldx [Inhabited α] {S : World → Prop} (H : ∀ x, S x → Own w0 M L x) (hm : ∀ k, k < bd → ¬ M k) (h : Rd enc sz bd w0 a n xs) {i : Int} (h0 : 0 ≤ i) (h1 : i < n) (off : Nat) {v : Value} (hv : (enc (xs.getD i.toNat default))[off]? = some v) : (Req.ld ((adr a sz i).add off) v).ok P S := by
  intro w' hE
  obtain ⟨ad, ha, hb, he, hc⟩ := (h.own (H w' hE) hm).at_ h0 h1
  exact hc off v hv
theorem ldsx [Inhabited α] {S : World → Prop} (H : ∀ x, S x → Own w0 M L x) (hm : ∀ k, k < bd → ¬ M k) (h : Rd enc sz bd w0 a n xs) {i : Int} (h0 : 0 ≤ i) (h1 : i < n) {vs : List Value} (hv : enc (xs.getD i.toNat default) = vs) : (Req.lds (adr a sz i) vs).ok P S := by
  intro w' hE j v hj
  obtain ⟨ad, ha, hb, he, hc⟩ := (h.own (H w' hE) hm).at_ h0 h1
  exact hc j v (by rw [hv]; exact hj)
end
theorem nom {bd : Nat} : ∀ k, k < bd → ¬ none_ k := fun _ _ h => h
theorem W_cut {c : Code} {Q : Exit → Act → World → Prop} {a : Act} {w : World} (R : Act → World → Prop) (h : W rn P c (fun e a w => e = .normal ∧ R a w) a w) (k : ∀ a w, R a w → Q .normal a w) : W rn P c Q a w :=
  W_mono h fun e a w ⟨he, hR⟩ => by subst he; exact k a w hR
theorem Fr.cast {n : Nat} {ds : List Deferred} {F F' : List (Nat × Value)} {a : Act} (h : Fr n ds F a) (e : F = F') : Fr n ds F' a := e ▸ h
theorem Own.cast {w0 : World} {M : Nat → Prop} {L L' : List Res} {w : World} (h : Own w0 M L w) (e : L = L') : Own w0 M L' w := e ▸ h
theorem evOp {n : Nat} {ds : List Deferred} {F : List (Nat × Value)} {a : Act} (h : Fr n ds F a) {x : Operand} {v : Value} (he : lkG [] F [] x = some v) : a.eval x = v := lkG_ok (ops := #[]) (B := []) h.fg (by rfl) x v he
theorem leave_r {fn : Func} {R : Ending → World → Prop} {n : Nat} {ds : List Deferred} {F : List (Nat × Value)} {a : Act} {tb : Tbl} {w w' : World} {rs : List Req} {vs : List Value} (ht : Tbl.ok P tb = true) (hF : Fr n ds F a) (hs : Shut ds w w')
    (hr : Reqs P (fun x => x = w') rs) (he : evRes tb F fn.results.toList rs = some (vs, rs)) (hR : R (.returned (oneOf vs)) w') : bodyPostM (FW none) 0 P fn R .ret a w := (leave ht hF hs hr he hR).1
theorem leave_normal {fn : Func} {R : Ending → World → Prop} {n : Nat} {ds : List Deferred} {F : List (Nat × Value)} {a : Act} {tb : Tbl} {w w' : World} {rs : List Req} {vs : List Value} (ht : Tbl.ok P tb = true) (hF : Fr n ds F a) (hs : Shut ds w w')
    (hr : Reqs P (fun x => x = w') rs) (he : evRes tb F fn.results.toList rs = some (vs, rs)) (hR : R (.returned (oneOf vs)) w') : bodyPostM (FW none) 0 P fn R .normal a w := (leave ht hF hs hr he hR).2
theorem rg {n : Int} {S : World → Prop} (h : -9223372036854775808 ≤ n ∧ n ≤ 9223372036854775807) : (Req.rng n).ok P S := h
end Go.Proofs.Ytgihgcclabodbaa.DK
namespace Go.Proofs.Ytgihgcclabodbaa.DK
open Go
set_option linter.unusedSimpArgs false
set_option linter.unusedVariables false
variable {P : Program} {rn : Option Nat}
def fcells (n : Nat) (f : Nat → Int) : List Value := (List.range n).map fun k => .int .i64 (f k)
def updf (f : Nat → Int) (i : Nat) (x : Int) : Nat → Int := fun k => if k = i then x else f k
theorem fcells_length (n : Nat) (f : Nat → Int) : (fcells n f).length = n := by simp [fcells]
theorem fcells_at {n : Nat} {f : Nat → Int} {i : Nat} (h : i < n) : (fcells n f)[i]? = some (.int .i64 (f i)) := by simp [fcells, h]
theorem fcells_set {n : Nat} {f : Nat → Int} {i : Nat} {x : Int} (h : i < n) : (fcells n f).set i (.int .i64 x) = fcells n (updf f i x) := by
  apply List.ext_getElem?
  intro j
  by_cases hj : j < n
  · rw [fcells_at hj]
    by_cases e : i = j
    · subst e; rw [List.getElem?_set_self (by rw [fcells_length]; exact h)]; simp [updf]
    · rw [List.getElem?_set_ne e, fcells_at hj]; simp [updf, Ne.symm e]
  · rw [List.getElem?_eq_none (by simp [fcells_length]; omega), List.getElem?_eq_none (by simp [fcells_length]; omega)]
theorem ixa {S : World → Prop} {q : Addr} {len sz : Nat} {i : Int} (h0 : 0 ≤ i) (h1 : i < len) : (Req.idx (some q) len i sz (q.add (i.toNat * sz))).ok P S := ⟨q, rfl, h0, h1, rfl⟩
section
variable {w0 w : World} {M : Nat → Prop} {L : List Res}
theorem ldf {S : World → Prop} (H : ∀ x, S x → Own w0 M L x) (j : Nat) {b off n : Nat} {pre post : List Value} {f : Nat → Int} {t : TypeId} (hj : L[j]? = some (cel b (pre ++ fcells n f ++ post).toArray t)) (hoff : pre.length = off) {i : Int} (h0 : 0 ≤ i) (h1 : i < n) :
    (Req.ld ((⟨b, off, none⟩ : Addr).add (i.toNat * 1)) (.int .i64 (f i.toNat))).ok P S := by
  intro w' hE
  rw [add_own]
  refine (H w' hE).cell j hj _ ?_
  subst hoff
  have hi : i.toNat < n := by omega
  rw [Nat.mul_one, List.getElem?_toArray, List.append_assoc, List.getElem?_append_right (Nat.le_add_right _ _), Nat.add_sub_cancel_left, List.getElem?_append_left (by rw [fcells_length]; exact hi)]
  exact fcells_at hi
theorem op_storef {n0 : Nat} {ds : List Deferred} {F : List (Nat × Value)} {a : Act} {ops : Array Oper} {k : Nat} {K : Act → World → Prop} {t tc : TypeId} {x : Int} {b off n : Nat} {pre post : List Value} {f : Nat → Int} {i : Int} (hF : Fr n0 ds F a) (hO : Own w0 M L w)
    (he : dec n0 ops k F = some (.store t (.pointer (some ((⟨b, off, none⟩ : Addr).add (i.toNat * 1)))) (.int .i64 x))) (j : Nat) (hj : L[j]? = some (cel b (pre ++ fcells n f ++ post).toArray tc)) (hoff : pre.length = off)
    (h0 : 0 ≤ i) (h1 : i < n) (hsz : ((P.info? t).map fun i => i.size) = some 1)
    (h : ∀ a' w', Fr n0 ds F a' → Own w0 M (L.set j (cel b (pre ++ fcells n (updf f i.toNat x) ++ post).toArray tc)) w' → Kp (· = b) w w' → K a' w') : opX P rn ops k K a w := by
  subst hoff
  have hi : i.toNat < n := by omega
  refine op_store (off := pre.length + i.toNat * 1) (sz := 1) hF hO he j hj (add_own ..) hsz ?_ ?_ h
  · simp only [Value.cells, Bool.and_eq_true]
    refine ⟨⟨by rfl, ?_⟩, by rfl⟩
    rw [Nat.ble_eq]
    simp [fcells_length]; omega
  · simp only [Value.cells, List.toList_toArray, wr, Nat.mul_one]
    rw [List.setIfInBounds_toArray]
    congr 1
    rw [List.append_assoc, List.set_append_right _ _ (Nat.le_add_right _ _), Nat.add_sub_cancel_left, List.set_append_left _ _ (by rw [fcells_length]; exact hi), fcells_set hi, List.append_assoc]
end
theorem stepR_scope {b : Frame} {a : Act} {k : List Item} {cs : List Frame} {w : World} {c : Code} : step P (lone (b.atR a (.code (.scope c) :: k)) cs w) = .next (lone (b.atR a (.code c :: .inScope c :: k)) cs w) :=
  step_lone_go (by simp [stepG, stepG.exec, Frame.atR])
theorem stepR_inScope {b : Frame} {a : Act} {k : List Item} {cs : List Frame} {w : World} {c : Code} : step P (lone (b.atR a (.inScope c :: k)) cs w) = .next (lone (b.atR a k) cs w) :=
  step_lone_go (by simp [stepG, stepG.exec, Frame.atR])
theorem W_scope' {c : Code} {Q : Exit → Act → World → Prop} {a : Act} {w : World} (h : W rn P c (Exit.noGoto Q) a w) : W rn P (.scope c) Q a w := by
  intro b k cs hro hb hr
  obtain ⟨e, a₁, w₁, hq, harr⟩ := h b (.inScope c :: k) cs hro hb hr
  cases e with
  | normal => exact ⟨.normal, a₁, w₁, hq, StepsIn.trans (.one (fenced_calm hb hr rfl) stepR_scope) (StepsIn.trans harr (.one (fenced_calm hb hr rfl) stepR_inScope))⟩
  | exit id => 
    refine ⟨.exit id, a₁, w₁, hq, .of_steps (.one (fenced_calm hb hr rfl) stepR_scope) ⟨fun k' hk => harr.1 k' (by simp [exitTo, hk]), fun hr hk => harr.2 hr (by simp [exitTo, hk])⟩⟩
  | goto l => exact hq.elim
  | ret => exact ⟨_, a₁, w₁, hq, .of_steps (.one (fenced_calm hb hr rfl) stepR_scope) harr⟩
  | panic ch => exact ⟨_, a₁, w₁, hq, .of_steps (.one (fenced_calm hb hr rfl) stepR_scope) harr⟩
  | outgrown => exact ⟨_, a₁, w₁, hq, .of_steps (.one (fenced_calm hb hr rfl) stepR_scope) harr⟩
end Go.Proofs.Ytgihgcclabodbaa.DK
namespace Go.Proofs.Ytgihgcclabodbaa.DK
open Go
set_option linter.unusedSimpArgs false
set_option linter.unusedVariables false
variable {P : Program} {rn : Option Nat}
def slv (x : Int × Int) : Value := .agg #[.int .i64 x.1, .int .i64 x.2]
theorem slv_inj {x y : Int × Int} (h : slv x = slv y) : x = y := by
  obtain ⟨a, b⟩ := x; obtain ⟨c, d⟩ := y
  simp [slv] at h
  simp [h.1, h.2]
/-- The type is a struct of two whole numbers. -/
def pairTy (P : Program) (k : TypeId) : Bool :=
  match P.underlying k with
  | some (.struct fs) => (match fs.toList with
    | [f, g] => f.name != "_" && g.name != "_" && Nat.beq f.offset 0 && Nat.beq g.offset 1 && (match P.underlying f.type, P.underlying g.type with | some (.int _), some (.int _) => true | _, _ => false)
    | _ => false) && !P.stoodInHeld k
  | _ => false
theorem pairTy_ok {k : TypeId} (h : pairTy P k = true) : ∃ f g q q', P.underlying k = some (.struct #[f, g]) ∧ f.name ≠ "_" ∧ g.name ≠ "_" ∧ f.offset = 0 ∧ g.offset = 1 ∧ P.underlying f.type = some (.int q) ∧ P.underlying g.type = some (.int q') ∧ P.stoodInHeld k = false := by
  unfold pairTy at h
  split at h
  · rename_i fs hu
    simp only [Bool.and_eq_true, Bool.not_eq_true'] at h
    obtain ⟨h1, hs⟩ := h
    split at h1
    · rename_i f g hfs
      simp only [Bool.and_eq_true, bne_iff_ne, ne_eq] at h1
      obtain ⟨⟨⟨⟨a, b⟩, c⟩, d⟩, e⟩ := h1
      split at e
      · rename_i q q' hq hq'
        refine ⟨f, g, _, _, ?_, a, b, Nat.eq_of_beq_eq_true c, Nat.eq_of_beq_eq_true d, hq, hq', hs⟩
        rw [hu]
        congr 2
        apply Array.ext'
        simpa using hfs
      · cases e
    · cases h1
  · cases h
theorem run_equal_pair {k : TypeId} (hk : pairTy P k = true) (x y : Int × Int) (w : World) (d : Nat) : (Op.equalIn (d + 2) k (slv x) (slv y)).run P w = .ok (x.1 == y.1 && x.2 == y.2) w := by
  obtain ⟨f, g, q, q', hu, hf, hg, of, og, tf, tg, hs⟩ := pairTy_ok hk
  have pf : ∀ y z : Int, (part f.type (#[.int .i64 y, .int .i64 z] : Array Value) f.offset).run P w = .ok (.int .i64 y) w := fun y z => run_part_plain w (by simp [Program.plainKey, tf]) (by rw [of]; rfl)
  have pg : ∀ y z : Int, (part g.type (#[.int .i64 y, .int .i64 z] : Array Value) g.offset).run P w = .ok (.int .i64 z) w := fun y z => run_part_plain w (by simp [Program.plainKey, tg]) (by rw [og]; rfl)
  rw [Op.equalIn]
  simp only [slv, Sem.run_bind, run_underlying hu, Result.andThen_ok]
  simp only [program, Sem.run_bind, Sem.run, Result.andThen_ok, hs, Bool.false_eq_true, if_false]
  simp only [List.forIn_toArray, ← Array.forIn_toList, List.forIn_cons, List.forIn_nil, Sem.run_bind, hf, hg, ne_eq, not_false_eq_true, if_true, pf, pg, Result.andThen_ok, run_equalIn_int _ _ _ _ _ _ _ tf, run_equalIn_int _ _ _ _ _ _ _ tg]
  by_cases h1 : x.1 = y.1 <;> by_cases h2 : x.2 = y.2 <;> simp [h1, h2, Sem.run, pure, Result.andThen, Sem.run_bind, hg, pg, run_equalIn_int _ _ _ _ _ _ _ tg]
theorem run_checkKey_pair {k : TypeId} (hk : pairTy P k = true) (x : Int × Int) (em : Bool) (w : World) (d : Nat) : (Instr.checkKey em (d + 2) k (slv x)).run P w = .ok () w := by
  obtain ⟨f, g, q, q', hu, hf, hg, of, og, tf, tg, hs⟩ := pairTy_ok hk
  have pf : ∀ y z : Int, (part f.type (#[.int .i64 y, .int .i64 z] : Array Value) f.offset).run P w = .ok (.int .i64 y) w := fun y z => run_part_plain w (by simp [Program.plainKey, tf]) (by rw [of]; rfl)
  have pg : ∀ y z : Int, (part g.type (#[.int .i64 y, .int .i64 z] : Array Value) g.offset).run P w = .ok (.int .i64 z) w := fun y z => run_part_plain w (by simp [Program.plainKey, tg]) (by rw [og]; rfl)
  have c1 : ∀ (t : TypeId) (q : IntKind) (n : Int), P.underlying t = some (.int q) → (Instr.checkKey em (d + 1) t (.int .i64 n)).run P w = .ok () w := fun t q n ht => by
    rw [Instr.checkKey]
    simp [Sem.run_bind, run_underlying ht, Result.andThen, Sem.run, pure]
  rw [Instr.checkKey]
  simp only [slv, Sem.run_bind, run_underlying hu, Result.andThen_ok]
  simp only [List.forIn_toArray, ← Array.forIn_toList, List.forIn_cons, List.forIn_nil, Sem.run_bind, hf, hg, ne_eq, not_false_eq_true, if_true, pf, pg, Result.andThen_ok, c1 _ _ _ tf, c1 _ _ _ tg]
  simp [Sem.run, pure, Result.andThen, Sem.run_bind, hg, pg, c1 _ _ _ tg]
def mapOk (es : Array MapEntry) (clock : Nat) (f : Int × Int → Option Value) : Prop :=
  (∀ e ∈ es.toList, ∃ x, e.key = slv x ∧ f x = some e.val ∧ e.born < clock) ∧ (∀ x v, f x = some v → ∃ e ∈ es.toList, e.key = slv x) ∧ es.toList.Pairwise (fun a b => a.key ≠ b.key ∧ a.born ≠ b.born)
def updm (f : Int × Int → Option Value) (x : Int × Int) (v : Value) : Int × Int → Option Value := fun y => if y = x then some v else f y
theorem find_pair {k : TypeId} (hk : pairTy P k = true) (x : Int × Int) (w : World) : ∀ (es : List MapEntry) (i : Nat), (∀ e ∈ es, ∃ y, e.key = slv y) →
    ((Instr.findAsking k (slv x) es i).run P w = .ok none w ∧ ∀ e ∈ es, e.key ≠ slv x) ∨ ∃ j e, (Instr.findAsking k (slv x) es i).run P w = .ok (some (i + j, e.val)) w ∧ es[j]? = some e ∧ e.key = slv x
  | [], i, _ => .inl ⟨by simp [Instr.findAsking], by simp⟩
  | e :: es, i, h => by
    obtain ⟨y, hy⟩ := h e (by simp)
    have hr : (Op.equal k (slv x) (slv y)).run P w = .ok (x.1 == y.1 && x.2 == y.2) w := run_equal_pair hk x y w 9998
    by_cases hxy : x = y
    · subst hxy
      refine .inr ⟨0, e, ?_, rfl, hy⟩
      simp [Instr.findAsking, hy, hr]
    · have hb : (x.1 == y.1 && x.2 == y.2) = false := by
        rw [Bool.eq_false_iff]; intro hc; simp only [Bool.and_eq_true, beq_iff_eq] at hc; exact hxy (Prod.ext hc.1 hc.2)
      rw [hb] at hr
      rcases find_pair hk x w es (i + 1) (fun e he => h e (by simp [he])) with ⟨h1, h2⟩ | ⟨j, e', h1, h2, h3⟩
      · refine .inl ⟨by simp [Instr.findAsking, hy, hr, h1], fun e' he' => ?_⟩
        rcases List.mem_cons.1 he' with rfl | he'
        · rw [hy]; exact fun hc => hxy (slv_inj hc).symm
        · exact h2 e' he'
      · exact .inr ⟨j + 1, e', by simp [Instr.findAsking, hy, hr, h1, Nat.add_assoc, Nat.add_comm 1 j], by simpa using h2, h3⟩
theorem findKey_pair {k : TypeId} (hk : pairTy P k = true) {es : Array MapEntry} {clock : Nat} {f : Int × Int → Option Value} (h : mapOk es clock f) (x : Int × Int) (w : World) :
    ((Instr.findKey k (slv x) es.toList).run P w = .ok none w ∧ f x = none ∧ ∀ e ∈ es.toList, e.key ≠ slv x) ∨ ∃ j e, (Instr.findKey k (slv x) es.toList).run P w = .ok (some (j, e.val)) w ∧ es[j]? = some e ∧ e.key = slv x ∧ f x = some e.val ∧ e.born < clock := by
  obtain ⟨f1, g1, q, q', hu, _⟩ := pairTy_ok hk
  have e0 : (Instr.findKey k (slv x) es.toList).run P w = (Instr.findAsking k (slv x) es.toList).run P w := by
    generalize es.toList = l
    cases l with
    | nil => simp [Instr.findKey, run_underlying hu, Instr.findNow, Instr.findAsking, Result.andThen, Sem.run_bind, Sem.run, pure]
    | cons e es => simp [Instr.findKey, run_underlying hu, Instr.findNow, Instr.sameNow, Result.andThen, Sem.run_bind, Sem.run, pure]
  rw [e0]
  rcases find_pair hk x w es.toList 0 (fun e he => let ⟨y, hy, _⟩ := h.1 e he; ⟨y, hy⟩) with ⟨h1, h2⟩ | ⟨j, e, h1, h2, h3⟩
  · refine .inl ⟨h1, ?_, h2⟩
    cases hf : f x with
    | none => rfl
    | some v => obtain ⟨e, he, hk⟩ := h.2.1 x v hf; exact absurd hk (h2 e he)
  · obtain ⟨y, hy, hv, hb⟩ := h.1 e (List.mem_of_getElem? h2)
    have : x = y := slv_inj (h3.symm.trans hy)
    subst this
    exact .inr ⟨j, e, by simpa using h1, by simpa using h2, h3, hv, hb⟩
theorem mapOk_empty : mapOk #[] 0 (fun _ => none) := ⟨by simp, by simp, by simp⟩
theorem mapOk_push {es : Array MapEntry} {clock : Nat} {f : Int × Int → Option Value} (h : mapOk es clock f) {x : Int × Int} (v : Value) (hf : f x = none) (hn : ∀ e ∈ es.toList, e.key ≠ slv x) : mapOk (es.push { key := slv x, val := v, born := clock }) (clock + 1) (updm f x v) := by
  refine ⟨fun e he => ?_, fun y u hy => ?_, ?_⟩
  · simp only [Array.toList_push, List.mem_append, List.mem_singleton] at he
    rcases he with he | rfl
    · obtain ⟨y, hy, hv, hb⟩ := h.1 e he
      refine ⟨y, hy, ?_, by omega⟩
      have : y ≠ x := fun hc => hn e he (by rw [hy, hc])
      simp [updm, this, hv]
    · exact ⟨x, rfl, by simp [updm], by simp⟩
  · by_cases hyx : y = x
    · subst hyx; exact ⟨{ key := slv y, val := v, born := clock }, by simp, rfl⟩
    · simp only [updm, hyx, if_false] at hy
      obtain ⟨e, he, hk⟩ := h.2.1 y u hy
      exact ⟨e, by simp [he], hk⟩
  · simp only [Array.toList_push]
    rw [List.pairwise_append]
    refine ⟨h.2.2, by simp, fun a ha b hb => ?_⟩
    simp only [List.mem_singleton] at hb
    subst hb
    obtain ⟨y, _, _, hlt⟩ := h.1 a ha
    exact ⟨hn a ha, by simp; omega⟩
theorem modify_toList (es : Array MapEntry) (j : Nat) (g : MapEntry → MapEntry) : (es.modify j g).toList = es.toList.modify j g := by
  apply List.ext_getElem?
  intro i
  rw [Array.getElem?_toList, List.getElem?_modify, Array.getElem?_modify]
  by_cases h : j = i <;> simp [h]
theorem mapOk_set {es : Array MapEntry} {clock : Nat} {f : Int × Int → Option Value} (h : mapOk es clock f) {x : Int × Int} {j : Nat} {e : MapEntry} (hj : es[j]? = some e) (hk : e.key = slv x) (v : Value) {g : MapEntry → MapEntry} (hg : g e = { key := slv x, val := v, born := e.born }) :
    mapOk (es.modify j g) clock (updm f x v) := by
  have hjl : j < es.toList.length := by have := (Array.getElem?_eq_some_iff.1 hj).1; simpa using this
  have hje : es.toList[j] = e := by have := (Array.getElem?_eq_some_iff.1 hj).2; simpa using this
  have key : es.toList.modify j g = es.toList.set j { key := slv x, val := v, born := e.born } := by
    rw [← hg, ← hje]
    apply List.ext_getElem?
    intro i
    rw [List.getElem?_modify]
    by_cases hi : j = i
    · subst hi; rw [List.getElem?_set_self hjl, List.getElem?_eq_getElem hjl]; simp
    · rw [List.getElem?_set_ne hi]; simp [hi]
  have hp := List.pairwise_iff_getElem.1 h.2.2
  have hjk : es.toList[j].key = slv x := by rw [hje, hk]
  have hjb : es.toList[j].born = e.born := by rw [hje]
  obtain ⟨y0, hy0, _, hb0⟩ := h.1 e (List.mem_of_getElem? (by simpa using hj))
  refine ⟨fun a ha => ?_, fun y u hy => ?_, ?_⟩
  · rw [modify_toList, key] at ha
    obtain ⟨i, hi, rfl⟩ := List.mem_iff_getElem.1 ha
    simp only [List.length_set] at hi
    by_cases hij : j = i
    · subst hij; simp only [List.getElem_set_self]; exact ⟨x, rfl, by simp [updm], hb0⟩
    · rw [List.getElem_set_ne hij]
      obtain ⟨y, hy, hv, hb⟩ := h.1 es.toList[i] (List.getElem_mem hi)
      refine ⟨y, hy, ?_, hb⟩
      have : y ≠ x := by
        intro hc
        have hne : es.toList[i].key ≠ es.toList[j].key := by
          rcases Nat.lt_or_gt_of_ne hij with hlt | hlt
          · exact fun hc => (hp j i hjl hi hlt).1 hc.symm
          · exact (hp i j hi hjl hlt).1
        exact hne (by rw [hy, hje, hk, hc])
      simp [updm, this, hv]
  · rw [modify_toList, key]
    by_cases hyx : y = x
    · subst hyx; exact ⟨_, List.mem_set hjl _, rfl⟩
    · simp only [updm, hyx, if_false] at hy
      obtain ⟨a, ha, hka⟩ := h.2.1 y u hy
      obtain ⟨i, hi, rfl⟩ := List.mem_iff_getElem.1 ha
      have hij : j ≠ i := by
        intro hc; subst hc
        rw [hje, hk] at hka
        exact hyx (slv_inj hka).symm
      exact ⟨es.toList[i], List.mem_iff_getElem.2 ⟨i, by simpa using hi, by rw [List.getElem_set_ne hij]⟩, hka⟩
  · rw [modify_toList, key, List.pairwise_iff_getElem]
    intro a b ha hb hlt
    simp only [List.length_set] at ha hb
    have hab := hp a b ha hb hlt
    by_cases e1 : j = a
    · subst e1
      have e2 : j ≠ b := by omega
      simp only [List.getElem_set_self]
      rw [List.getElem_set_ne e2]
      exact ⟨fun hc => hab.1 (hjk.trans hc), fun hc => hab.2 (hjb.trans hc)⟩
    · rw [List.getElem_set_ne e1]
      by_cases e2 : j = b
      · subst e2
        simp only [List.getElem_set_self]
        exact ⟨fun hc => hab.1 (hc.trans hjk.symm), fun hc => hab.2 (hc.trans hjb.symm)⟩
      · rw [List.getElem_set_ne e2]; exact hab
/-- Block b is a map that reads as f. -/
def mapS (b : Nat) (f : Int × Int → Option Value) : Res where
  fp := (· = b)
  ok w := ∃ es clock, w.heap[b]? = some (.map es clock) ∧ mapOk es clock f
  loc w w' h hw := by obtain ⟨es, c, h1, h2⟩ := hw; exact ⟨es, c, (h b rfl).trans h1, h2⟩
  lt w hw k hk := by subst hk; obtain ⟨es, c, h1, h2⟩ := hw; exact obj_lt h1
/-- t is a map type from such pairs to e, whose zero is z. -/
def mapTy (P : Program) (t k e : TypeId) (z : Value) : Prop := P.underlying t = some (.map k e) ∧ pairTy P k = true ∧ ((P.info? e).bind fun i => i.zero) = some z
theorem run_zero {e : TypeId} {z : Value} {w : World} (hz : ((P.info? e).bind fun i => i.zero) = some z) : (zeroValue e).run P w = .ok z w := by
  cases hi : P.info? e with
  | none => rw [hi] at hz; cases hz
  | some inf =>
    rw [hi] at hz
    simp only [Option.bind_some] at hz
    simp [zeroValue, Sem.run_bind, run_typeInfo hi, hz, Result.andThen, Sem.run, pure]
section
variable {t k e : TypeId} {z : Value} {w w0 : World} {M : Nat → Prop} {L : List Res} {b : Nat} {f : Int × Int → Option Value} {x : Int × Int}
theorem run_getObj_map {es : Array MapEntry} {c : Nat} (h : w.heap[b]? = some (.map es c)) : (getObj b).run P w = .ok (.map es c) w := by simp [getObj, Sem.run, h]
theorem run_setObj_map {es : Array MapEntry} {c : Nat} (o : Obj) (h : w.heap[b]? = some (.map es c)) : (setObj b o).run P w = .ok () (w.putObj b o) := by simp [setObj, Sem.run, h, World.putObj]
theorem Kp_put {o : Obj} : Kp (· = b) w (w.putObj b o) := ⟨rfl, rfl, rfl, by simp, fun k hk hm => World.putObj_heap_other hm⟩
theorem lookup_mapS (ht : mapTy P t k e z) (hw : (mapS b f).ok w) : (Instr.lookup t (.map (some b)) (slv x) false).run P w = .ok ((f x).getD z) w := by
  obtain ⟨h1, h2, h3⟩ := ht
  obtain ⟨es, c, hb, hm⟩ := hw
  unfold Instr.lookup
  simp only [Sem.run_bind, run_underlying h1, Result.andThen_ok, run_getObj_map hb, Sem.run_pure]
  rw [show (10000 : Nat) = 9998 + 2 from rfl]
  simp only [run_checkKey_pair h2 x _ w 9998, Result.andThen_ok]
  rcases findKey_pair h2 hm x w with ⟨g1, g2, _⟩ | ⟨j, en, g1, _, _, g2, _⟩
  · simp only [g1, Result.andThen_ok, Sem.run_bind, run_zero h3, Sem.run_pure, g2]; simp
  · simp only [g1, Result.andThen_ok, Sem.run_pure, g2]; simp
theorem sameBits_slv (x : Int × Int) : Instr.sameBits 10000 (slv x) (slv x) = true := by
  show Instr.sameBits (9998 + 1 + 1) (slv x) (slv x) = true
  simp [slv, Instr.sameBits]
theorem update_mapS (ht : mapTy P t k e z) (hw : (mapS b f).ok w) (v : Value) : ∃ w', (Instr.mapUpdate t (.map (some b)) (slv x) v).run P w = .ok () w' ∧ (mapS b (updm f x v)).ok w' ∧ Kp (· = b) w w' := by
  obtain ⟨h1, h2, h3⟩ := ht
  obtain ⟨es, c, hb, hm⟩ := hw
  have hlt := obj_lt hb
  unfold Instr.mapUpdate
  simp only [Sem.run_bind, run_underlying h1, Result.andThen_ok, run_getObj_map hb]
  rw [show (10000 : Nat) = 9998 + 2 from rfl]
  simp only [run_checkKey_pair h2 x _ w 9998, Result.andThen_ok]
  rcases findKey_pair h2 hm x w with ⟨g1, g2, g3⟩ | ⟨j, en, g1, g2, g3, g4, g5⟩
  · simp only [g1, Result.andThen_ok, run_setObj_map _ hb]
    exact ⟨_, rfl, ⟨_, _, World.putObj_heap_same hlt, mapOk_push hm v g2 g3⟩, Kp_put⟩
  · simp only [g1, Result.andThen_ok, Sem.run_bind, g2, Option.map_some, Option.getD_some, g3, Instr.keyThatStays, sameBits_slv, if_true, Sem.run_pure, run_setObj_map _ hb]
    exact ⟨_, rfl, ⟨_, _, World.putObj_heap_same hlt, mapOk_set hm g2 g3 v (g := fun e => { e with key := slv x, val := v }) rfl⟩, Kp_put⟩
end
end Go.Proofs.Ytgihgcclabodbaa.DK
namespace Go.Proofs.Ytgihgcclabodbaa.DK
open Go
set_option linter.unusedSimpArgs false
set_option linter.unusedVariables false
variable {P : Program} {rn : Option Nat}
theorem draw_start {id : Nat} {ops : Array Oper} {Q : Exit → Act → World → Prop} {a : Act} {w : World} (hm : P.follows .mixedOrders = true) (Z : List Nat) (n : Nat) (hn : Nat.beq ops.size n = true) {R : Nat → Prop}
    (h : ∀ w1, Ext w w1 → anyX P rn ops (Q .normal) Z (fun x => Kp R w x) n (Array.replicate n false) a w1) : W rn P (.region id ops true) Q a w := by
  have e := Nat.eq_of_beq_eq_true hn
  subst e
  exact region_any hm Z _ (h _ (Ext.drew w))
theorem draw_q {tb : Tbl} {n : Nat} (ct : Ctl) {ds : List Deferred} {ops : Array Oper} {K : Act → World → Prop} {Z : List Nat} {F F' : List (Nat × Value)} {rs : List Req} {listed : Array Bool} {a : Act} {w wb : World} {R : Nat → Prop} (ht : Tbl.ok P tb = true) (hF : Fr n ds F a)
    (hS : Kp R wb w) (is : List Nat) (m fuel : Nat) (hn : Nat.beq m (is.length + fuel) = true) (listed' : Array Bool) (keep : List Nat) (hr : Reqs P (fun x => Kp R w x) rs) (he : evk tb n ct ops is F rs keep = some (F', rs))
    (hh : (Region.noSelect ops && decide (hoist ops Z is listed = some listed')) = true)
    (k : ∀ a', Fr n ds F' a' → anyX P rn ops K Z (fun x => Kp R w x) fuel listed' a' w) : anyX P rn ops K Z (fun x => Kp R wb x) m listed a w := by
  have e := Nat.eq_of_beq_eq_true hn
  subst e
  exact anyX_mono (fun _ h => hS.trans h) _ _ _ _ (any_quiet ct ht hF (fun _ _ h h' => Kp.trans h h'.kp) (Kp.refl _ _) is fuel listed' keep hr he hh k)
theorem draw_q0 {tb : Tbl} {n : Nat} (ct : Ctl) {ds : List Deferred} {ops : Array Oper} {K : Act → World → Prop} {Z : List Nat} {F F' : List (Nat × Value)} {listed : Array Bool} {a : Act} {w wb : World} {R : Nat → Prop} (ht : Tbl.ok P tb = true) (hF : Fr n ds F a)
    (hS : Kp R wb w) (is : List Nat) (m fuel : Nat) (hn : Nat.beq m (is.length + fuel) = true) (listed' : Array Bool) (keep : List Nat) (he : evk tb n ct ops is F [] keep = some (F', []))
    (hh : (Region.noSelect ops && decide (hoist ops Z is listed = some listed')) = true)
    (k : ∀ a', Fr n ds F' a' → anyX P rn ops K Z (fun x => Kp R wb x) fuel listed' a' w) : anyX P rn ops K Z (fun x => Kp R wb x) m listed a w := by
  have e := Nat.eq_of_beq_eq_true hn
  subst e
  exact any_quiet ct ht hF (fun _ _ h h' => Kp.trans h h'.kp) hS is fuel listed' keep .nil he hh k
theorem all1 {p : Nat → Prop} {i : Nat} (h : p i) : ∀ j ∈ [i], p j := by simpa using h
theorem all2 {p : Nat → Prop} {i j : Nat} (h : p i) (h' : p j) : ∀ k ∈ [i, j], p k := by simpa using ⟨h, h'⟩
theorem Own.sel {w0 : World} {M : Nat → Prop} {L : List Res} {w : World} (h : Own w0 M L w) (is : List Nat) (hn : is.Nodup) : Own w0 M (is.filterMap fun i => L[i]?) w := by
  have hap := List.pairwise_iff_getElem.1 h.apart
  refine ⟨h.kp, fun r hr => ?_, ?_, fun r hr => ?_⟩
  · obtain ⟨i, _, hi⟩ := List.mem_filterMap.1 hr; exact h.all r (List.mem_of_getElem? hi)
  · rw [List.pairwise_filterMap]
    refine hn.imp fun {i j} hij r hr s hs k hk1 hk2 => ?_
    obtain ⟨h1, rfl⟩ := List.getElem?_eq_some_iff.1 hr
    obtain ⟨h2, rfl⟩ := List.getElem?_eq_some_iff.1 hs
    rcases Nat.lt_or_gt_of_ne hij with hlt | hlt
    · exact hap i j h1 h2 hlt k hk1 hk2
    · exact hap j i h2 h1 hlt k hk2 hk1
  · obtain ⟨i, _, hi⟩ := List.mem_filterMap.1 hr; exact h.home r (List.mem_of_getElem? hi)
/-- What a call is given to work on. -/
theorem Own.of {w : World} {M : Nat → Prop} {L : List Res} (hok : ∀ r ∈ L, r.ok w) (hap : L.Pairwise fun r s => ∀ k, r.fp k → ¬ s.fp k) (hh : ∀ r ∈ L, ∀ k, r.fp k → M k) : Own w M L w :=
  ⟨Kp.refl _ _, hok, hap, fun r hr k hk => .inr (hh r hr k hk)⟩
/-- The cells of block b read as cs. -/
def Ro (b : Nat) (cs : List Value) (w : World) : Prop := ∀ off v, cs[off]? = some v → w.cell? ⟨b, off, none⟩ = some v
section
variable {w w0 w1 : World} {M : Nat → Prop} {L : List Res} {b : Nat} {cs : List Value}
theorem Ro.kp {w' : World} (h : Ro b cs w) (hk : Kp M w w') (hm : ¬ M b) : Ro b cs w' := fun off v hv => hk.cell (h off v hv) hm
theorem ldr {S : World → Prop} (H : ∀ x, S x → Own w0 M L x) (h : Ro b cs w0) (hm : ¬ M b) (off : Nat) {v : Value} (hv : cs[off]? = some v) : (Req.ld ⟨b, off, none⟩ v).ok P S :=
  fun w' hE => (h.kp (H w' hE).kp hm) off v hv
theorem ldsr {S : World → Prop} (H : ∀ x, S x → Own w0 M L x) (h : Ro b cs w0) (hm : ¬ M b) (off : Nat) {vs : List Value} (hv : (cs.drop off).take vs.length = vs) : (Req.lds ⟨b, off, none⟩ vs).ok P S := by
  intro w' hE i v hi
  have hlt : i < vs.length := (List.getElem?_eq_some_iff.1 hi).1
  rw [add_own]
  refine (h.kp (H w' hE).kp hm) (off + i) v ?_
  rw [← hv] at hi
  rw [List.getElem?_take_of_lt hlt, List.getElem?_drop] at hi
  exact hi
end
section
variable {n : Nat} {ds : List Deferred} {F : List (Nat × Value)} {a : Act} {ops : Array Oper} {i : Nat} {K : Act → World → Prop} {w w0 : World} {M : Nat → Prop} {L : List Res} {t k e : TypeId} {z : Value} {b : Nat} {f : Int × Int → Option Value} {x : Int × Int}
end
/-- yield, called in this world with this value: the round's answer and what it leaves. -/
def Yields (P : Program) (l : Nat) (arg : Value) (w : World) (R : Bool → World → Prop) : Prop :=
  ∃ f tmps assign body, (Instr.yield l #[arg]).run P w = .ok (.round l f tmps assign body) w ∧ RoundIn (FW none) 0 P l f tmps assign body w (fun e w' => ∃ b, e = .returned (.bool b) ∧ R b w')
theorem op_yield {n : Nat} {ds : List Deferred} {F : List (Nat × Value)} {a : Act} {ops : Array Oper} {i l : Nat} {arg : Value} {d : Option Nat} {K : Act → World → Prop} {w : World} {R : Bool → World → Prop} (hF : Fr n ds F a)
    (he : dec n ops i F = some (.yld l [arg] d)) (hy : Yields P l arg w R) (k : ∀ b a' w', R b w' → Fr n ds (putF F d (.bool b)) a' → K a' w') : opX P rn ops i K a w := by
  obtain ⟨o, ho, hw, hs, hd, hf⟩ := dec_ok hF he
  obtain ⟨f, tmps, assign, body, hr, hround⟩ := hy
  unfold opX
  simp only [ho, hw, if_true, hs, NOp.sem, hr, uponX]
  refine (roundIn_FW hround).mono fun e w' ⟨b, hb, hR⟩ => ?_
  exact ⟨_, hb, k b _ w' hR (hf _)⟩
/-- The record of the loop. -/
def loopR (st : LoopState) (pend : Option Code) (fn : FuncId) (tmps : Array Value) (ps : Array Tmp) (assign body : Code) (D : Nat) : Loop := { state := st, pending := pend, fn, tmps, params := ps, assign, body, defers := D }
/-- A round, out of its body's walk. -/
theorem yields_of {l : Nat} {w : World} {fn : FuncId} {tmps : Array Value} {t : Tmp} {assign body : Code} {D : Nat} {arg : Value} {R : Bool → World → Prop}
    (hl : w.heap[l]? = some (.loop (loopR .ready none fn tmps #[t] assign body D)))
    (h : W (some l) P assign (fun e a₁ w₁ => e = .normal ∧ ∃ w₂, (Instr.beginRound l).run P w₁ = .ok () w₂ ∧ W (some l) P body (roundPost P l (fun e w' => ∃ b, e = .returned (.bool b) ∧ R b w')) a₁ w₂) { tmps := tmps.setIfInBounds t arg, defers := [] } w) :
    Yields P l arg w R := by
  refine ⟨fn, tmps.setIfInBounds t arg, assign, body, ?_, ?_⟩
  · have := run_yield (P := P) (args := #[arg]) hl rfl
    simpa [loopR] using this
  · refine roundIn_of_wpIn (F := FW none) (n := 0) trivial ?_
    refine wpIn_mono h fun e a w he => ?_
    obtain ⟨rfl, h2⟩ := he
    exact h2
theorem run_callFunc {f : FuncId} {fn : Func} (hfn : P.funcs[f]? = some fn) (hb : fn.body.isSome = true) (hn : (fn.name == "runtime.NumGoroutine") = false) (args : Array Value) (w : World) : (callFunc f args).run P w = .ok (.enter f args) w := by
  have hb2 : fn.body.isNone = false := by cases hbb : fn.body <;> simp_all
  unfold callFunc
  simp only [Sem.run_bind, program, Sem.run, Result.andThen, hfn]
  simp [hn, hb2, Sem.run, pure]
/-- The mark of a block for the rounds' deferred calls. -/
def mk (D : Nat) : Deferred := { target := .collected D, args := #[] }
/-- The statement. -/
theorem W_range {g : Operand} {t : Tmp} {assign body : Code} {Q : Exit → Act → World → Prop} {a : Act} {w w0 : World} {n : Nat} {ds : List Deferred} {F : List (Nat × Value)} {M : Nat → Prop} {L : List Res} {tb : Tbl} {f : FuncId} {fst cap : Array Value} (ht : Tbl.ok P tb = true)
    (hF : Fr n ds F a) (hO : Own w0 M L w) (hfn : tb.fns.elem f = true) (hg : lkG [] F [] g = some (.func (.func f) fst cap))
    (h : ∀ fn w1 D r, r = loopR .ready none fn a.tmps #[t] assign body D → Own w0 M (L ++ [pt D (.deferred (some [])), pt (D + 1) (.loop r)]) w1 → Ext w w1 →
      Calls P f (fst ++ #[.func (.yield (D + 1)) #[] #[]] ++ cap) w1 fun e w2 => ∃ v, e = .returned v ∧ ∃ r, w2.heap[D + 1]? = some (.loop r) ∧ r.state ≠ .busy ∧
        ((r.pending = none ∧ ∀ a', Fr n (mk D :: ds) F a' → Q .normal a' (w2.putObj (D + 1) (.loop { r with state := .exhausted }))) ∨
         (r.pending = some .ret ∧ ∀ a', Fr n (mk D :: ds) F a' → Q .ret a' (w2.putObj (D + 1) (.loop { r with state := .exhausted }))))) :
    W none P (.rangeFunc g #[t] assign body) Q a w := by
  refine wpIn_rangeFunc (F := FW none) (n := 0) fun fn _ => ?_
  have hev : a.eval g = .func (.func f) fst cap := evOp hF hg
  obtain ⟨fnc, hfnc, hbody, hname⟩ := Tbl.fn_ok ht (List.elem_iff.1 hfn)
  let w1 := (w.alloc (.deferred (some []))).alloc (.loop (loopR .ready none fn a.tmps #[t] assign body w.heap.size))
  have hE : Ext w w1 := (Ext.alloc w _).trans (Ext.alloc _ _)
  have hO1 : Own w0 M (L ++ [pt w.heap.size (.deferred (some [])), pt (w.heap.size + 1) (.loop (loopR .ready none fn a.tmps #[t] assign body w.heap.size))]) w1 := by
    have h1 := hO.add (Ext.alloc w (.deferred (some []))) (pt_new w _) (fun k hk => by simp only [pt] at hk; omega)
    have h2 := h1.add (Ext.alloc _ (.loop (loopR .ready none fn a.tmps #[t] assign body w.heap.size))) (pt_new _ _) (fun k hk => by simp only [pt] at hk; omega)
    simpa using h2
  refine ⟨w.heap.size + 1, [mk w.heap.size], w1, { target := .fn (.func f) cap, args := fst ++ #[.func (.yield (w.heap.size + 1)) #[] #[]] }, w1, f, fst ++ #[.func (.yield (w.heap.size + 1)) #[] #[]] ++ cap, w1, run_enterLoop_outer fn a.tmps #[t] assign body, ?_, fun _ _ => trivial, ?_, FW_depth _ _, callsIn_FW.2 ?_⟩
  · have e0 : (#[.const (.func (.yield (w.heap.size + 1)) #[] #[])] : Array Operand).map a.eval = #[.func (.yield (w.heap.size + 1)) #[] #[]] := by simp [Act.eval]
    simp only [resolve, rangeCall, hev, Deferred.ofValue, e0]
    rfl
  · simp only [invoke]
    exact run_callFunc hfnc hbody hname _ _
  · refine (h fn w1 w.heap.size _ rfl hO1 hE).mono fun e w2 ⟨v, he, r, hr, hs, hk⟩ => ?_
    subst he
    refine ⟨r.pending, _, run_endLoop hr hs, ?_⟩
    have hf' : Fr n (mk w.heap.size :: ds) F { a with defers := [mk w.heap.size] ++ a.defers } := ⟨hF.size, by simp [hF.defers], hF.get⟩
    rcases hk with ⟨hp, hk⟩ | ⟨hp, hk⟩
    · have h1 := hk _ hf'; rw [hp] at h1; rw [hp]; exact h1
    · have h1 := hk _ hf'; rw [hp] at h1; rw [hp]; exact W_ret h1
section
variable {w0 w : World} {M : Nat → Prop} {L : List Res}
theorem Own.put {b : Nat} {o : Obj} (hO : Own w0 M L w) (j : Nat) (hj : L[j]? = some (pt b o)) (o' : Obj) : Own w0 M (L.set j (pt b o')) (w.putObj b o') := by
  have hb : w.heap[b]? = some o := hO.get j hj
  exact hO.upd j hj (r' := pt b o') (Kp_put) (World.putObj_heap_same (obj_lt hb)) (fun k hk => .inl hk)
theorem begin_round {l : Nat} {r : Loop} (hO : Own w0 M L w) (j : Nat) (hj : L[j]? = some (pt l (.loop r))) (hr : r.state = .ready) : ∃ w', (Instr.beginRound l).run P w = .ok () w' ∧ Own w0 M (L.set j (pt l (.loop { r with state := .busy }))) w' :=
  ⟨_, run_beginRound (hO.get j hj) hr, hO.put j hj _⟩
theorem end_round {l : Nat} {r : Loop} (jump : Option Code) (hO : Own w0 M L w) (j : Nat) (hj : L[j]? = some (pt l (.loop r))) : ∃ w', (Instr.endRound l jump).run P w = .ok (.bool jump.isNone) w' ∧ Own w0 M (L.set j (pt l (.loop { r with state := if jump.isNone then .ready else .done, pending := jump }))) w' :=
  ⟨_, run_endRound jump (hO.get j hj), hO.put j hj _⟩
theorem Fr.round {n : Nat} {ds : List Deferred} {F : List (Nat × Value)} {a : Act} (h : Fr n ds F a) {t : Nat} (ht : Nat.blt t n = true) (v : Value) : Fr n [] ((t, v) :: F) { tmps := a.tmps.setIfInBounds t v, defers := [] } := by
  have := (h.put (Nat.le_of_ble_eq_true ht) v)
  exact ⟨this.size, rfl, this.get⟩
theorem shut1 {D : Nat} (hO : Own w0 M L w) (j : Nat) (hj : L[j]? = some (pt D (.deferred (some [])))) : ∃ w', Shut [mk D] w w' ∧ Own w0 M (L.set j (pt D (.deferred none))) w' :=
  ⟨_, .cons (hO.get j hj) (.nil _), hO.put j hj _⟩
/-- The blocks for deferred calls of several ranges. -/
def dfs (Ds : List Nat) : Res where
  fp k := k ∈ Ds
  ok w := Ds.Nodup ∧ ∀ D ∈ Ds, w.heap[D]? = some (.deferred (some []))
  loc w w' h hw := ⟨hw.1, fun D hD => (h D hD).trans (hw.2 D hD)⟩
  lt w hw k hk := obj_lt (hw.2 k hk)
theorem Own.dfs0 (hO : Own w0 M L w) : Own w0 M (L ++ [dfs []]) w :=
  hO.add (Kp.refl _ _) (r := dfs []) ⟨List.nodup_nil, by simp⟩ (by simp [dfs])
/-- Nothing. -/
def nul : Res where
  fp _ := False
  ok _ := True
  loc _ _ _ _ := trivial
  lt _ _ _ h := h.elim
theorem Own.absorb {Ds : List Nat} {D : Nat} (hO : Own w0 M L w) (i j : Nat) (hi : L[i]? = some (dfs Ds)) (hj : L[j]? = some (pt D (.deferred (some [])))) (hij : i ≠ j) : Own w0 M (((L.set i (dfs (D :: Ds))).set j nul).eraseIdx j) w := by
  refine Own.drop1 ?_ j
  have hap := List.pairwise_iff_getElem.1 hO.apart
  obtain ⟨hil, hLi⟩ := List.getElem?_eq_some_iff.1 hi
  obtain ⟨hjl, hLj⟩ := List.getElem?_eq_some_iff.1 hj
  have hd := hO.get i hi
  have hp := hO.get j hj
  have apart : ∀ a b (ha : a < L.length) (hb : b < L.length), a ≠ b → ∀ k, L[a].fp k → ¬ L[b].fp k := by
    intro a b ha hb hne k h1 h2
    rcases Nat.lt_or_gt_of_ne hne with h | h
    · exact hap a b ha hb h k h1 h2
    · exact hap b a hb ha h k h2 h1
  have hDn : D ∉ Ds := fun hm => apart i j hil hjl hij D (by rw [hLi]; exact hm) (by rw [hLj]; rfl)
  have at_ : ∀ a (ha : a < ((L.set i (dfs (D :: Ds))).set j nul).length) (hal : a < L.length), ((L.set i (dfs (D :: Ds))).set j nul)[a] = if a = j then nul else if a = i then dfs (D :: Ds) else L[a] := by
    intro a ha hal
    by_cases e : a = j
    · subst e; simp
    · rw [List.getElem_set_ne (Ne.symm e), if_neg e]
      by_cases e2 : a = i
      · subst e2; simp
      · rw [List.getElem_set_ne (Ne.symm e2), if_neg e2]
  refine ⟨hO.kp, ?_, ?_, ?_⟩
  · intro r hr
    obtain ⟨a, ha, rfl⟩ := List.mem_iff_getElem.1 hr
    have hal : a < L.length := by simpa using ha
    rw [at_ a ha hal]
    split
    · exact trivial
    · split
      · refine ⟨List.nodup_cons.2 ⟨hDn, hd.1⟩, fun E hE => ?_⟩
        rcases List.mem_cons.1 hE with rfl | hE
        · exact hp
        · exact hd.2 E hE
      · exact hO.all _ (List.getElem_mem hal)
  · rw [List.pairwise_iff_getElem]
    intro a b ha hb hlt k hk1 hk2
    have hal : a < L.length := by simpa using ha
    have hbl : b < L.length := by simpa using hb
    rw [at_ a ha hal] at hk1
    rw [at_ b hb hbl] at hk2
    split at hk1
    · exact hk1
    · rename_i haj
      split at hk2
      · exact hk2
      · rename_i hbj
        split at hk1
        · rename_i hai
          split at hk2
          · rename_i hbi; omega
          · rename_i hbi
            rcases List.mem_cons.1 hk1 with rfl | hk1
            · exact apart b j hbl hjl hbj _ hk2 (by rw [hLj]; rfl)
            · exact apart b i hbl hil hbi k hk2 (by rw [hLi]; exact hk1)
        · rename_i hai
          split at hk2
          · rcases List.mem_cons.1 hk2 with rfl | hk2
            · exact apart a j hal hjl haj _ hk1 (by rw [hLj]; rfl)
            · exact apart a i hal hil hai k hk1 (by rw [hLi]; exact hk2)
          · exact apart a b hal hbl (by omega) k hk1 hk2
  · intro r hr k hk
    obtain ⟨a, ha, rfl⟩ := List.mem_iff_getElem.1 hr
    have hal : a < L.length := by simpa using ha
    rw [at_ a ha hal] at hk
    split at hk
    · exact hk.elim
    · split at hk
      · rcases List.mem_cons.1 hk with rfl | hk
        · exact hO.home _ (List.getElem_mem hjl) k (by rw [hLj]; rfl)
        · exact hO.home _ (List.getElem_mem hil) k (by rw [hLi]; exact hk)
      · exact hO.home _ (List.getElem_mem hal) k hk
theorem shuts : ∀ (Ds : List Nat) {L : List Res} {w : World}, Own w0 M L w → ∀ (j : Nat), L[j]? = some (dfs Ds) → ∃ w', Shut (Ds.map mk) w w' ∧ Own w0 M (L.set j (dfs [])) w'
  | [], L, w, hO, j, hj => ⟨w, .nil w, hO.upd j hj (r' := dfs []) (Kp.refl _ _) ⟨List.nodup_nil, by simp⟩ (by simp [dfs])⟩
  | D :: Ds, L, w, hO, j, hj => by
    have hd := hO.get j hj
    have hD : w.heap[D]? = some (.deferred (some [])) := hd.2 D (by simp)
    have hnd := List.nodup_cons.1 hd.1
    have hO2 : Own w0 M (L.set j (dfs Ds)) (w.putObj D (.deferred none)) := by
      refine hO.upd j hj (r' := dfs Ds) ⟨rfl, rfl, rfl, by simp, fun k hk hm => World.putObj_heap_other fun h => hm (by subst h; simp [dfs])⟩ ⟨hnd.2, fun E hE => ?_⟩ (fun k hk => .inl (by simp only [dfs] at hk ⊢; exact List.mem_cons_of_mem _ hk))
      rw [World.putObj_heap_other (by intro h; subst h; exact hnd.1 hE)]
      exact hd.2 E (List.mem_cons_of_mem _ hE)
    have hjl : j < L.length := (List.getElem?_eq_some_iff.1 hj).1
    obtain ⟨w', hs, hO3⟩ := shuts Ds hO2 j (by simp [hjl])
    exact ⟨w', .cons hD hs, by simpa using hO3⟩
end
end Go.Proofs.Ytgihgcclabodbaa.DK
namespace Go.Proofs.Ytgihgcclabodbaa.DK
open Go
set_option linter.unusedSimpArgs false
set_option linter.unusedVariables false
variable {P : Program} {rn : Option Nat}
def updt {α : Type} (S : Int × Int → α) (x : Int × Int) (a : α) : Int × Int → α := fun y => if y = x then a else S y
/-- Block b is a map in which x has the value enc (S x), z standing for what is not in it. -/
def mapT {α : Type} (b : Nat) (z : Value) (enc : α → Value) (S : Int × Int → α) : Res where
  fp := (· = b)
  ok w := ∃ f, (mapS b f).ok w ∧ ∀ x, (f x).getD z = enc (S x)
  loc w w' h hw := by obtain ⟨f, h1, h2⟩ := hw; exact ⟨f, (mapS b f).loc w w' h h1, h2⟩
  lt w hw k hk := by obtain ⟨f, h1, h2⟩ := hw; exact (mapS b f).lt w h1 k hk
theorem updm_enc {α : Type} {z : Value} {enc : α → Value} {S : Int × Int → α} {f : Int × Int → Option Value} (h : ∀ x, (f x).getD z = enc (S x)) (x : Int × Int) (a : α) : ∀ y, (updm f x (enc a) y).getD z = enc (updt S x a y) := by
  intro y
  unfold updm updt
  split
  · rfl
  · exact h y
section
variable {n : Nat} {ds : List Deferred} {F : List (Nat × Value)} {a : Act} {ops : Array Oper} {i : Nat} {K : Act → World → Prop} {w w0 : World} {M : Nat → Prop} {L : List Res} {t k e : TypeId} {z : Value} {b : Nat} {α : Type} {enc : α → Value} {S : Int × Int → α} {x : Int × Int}
theorem lkt (ht : mapTy P t k e z) {U : World → Prop} (H : ∀ x, U x → Own w0 M L x) (j : Nat) (hj : L[j]? = some (mapT b z enc S)) (x : Int × Int) : (Req.raw (Instr.lookup t (.map (some b)) (slv x) false) (enc (S x))).ok P U := by
  intro w' hE
  obtain ⟨f, h1, h2⟩ := (H w' hE).get j hj
  rw [← h2 x]
  exact lookup_mapS ht h1
theorem op_updt {v : Value} (y : α) (hv : v = enc y) (ht : mapTy P t k e z) (hF : Fr n ds F a) (hO : Own w0 M L w) (he : dec n ops i F = some (.mupd t (.map (some b)) (slv x) v)) (j : Nat) (hj : L[j]? = some (mapT b z enc S))
    (h : ∀ a' w', Fr n ds F a' → Own w0 M (L.set j (mapT b z enc (updt S x y))) w' → Kp (· = b) w w' → K a' w') : opX P rn ops i K a w := by
  subst hv
  obtain ⟨f, h1, h2⟩ := hO.get j hj
  obtain ⟨w', hr, hok, hk⟩ := update_mapS ht h1 (enc y)
  refine op_skip (w' := w') he hF rfl ?_ fun a' hf => h a' w' hf (hO.upd j hj hk (r' := mapT b z enc (updt S x y)) ⟨_, hok, updm_enc h2 x y⟩ (fun k hk => .inl hk)) hk
  simp [NOp.sem, Sem.run_bind, hr, Result.andThen, Sem.run, pure]
theorem op_mmapt {d : Nat} (z : Value) (enc : α → Value) (y : α) (hz : z = enc y) (hF : Fr n ds F a) (hO : Own w0 M L w) (he : dec n ops i F = some (.mmap t d))
    (h : ∀ a' w' b, Fr n ds ((d, .map (some b)) :: F) a' → Own w0 M (L ++ [mapT b z enc fun _ => y]) w' → Ext w w' ∧ w.heap.size ≤ b → K a' w') : opX P rn ops i K a w := by
  subst hz
  refine op_val (w' := w.alloc (.map #[] 0)) (v := .map (some w.heap.size)) he hF ?_ fun a' hf => h a' _ _ hf (hO.add (Ext.alloc w _) (r := mapT w.heap.size (enc y) enc fun _ => y) ⟨fun _ => none, ⟨_, _, heap_alloc_new w _, mapOk_empty⟩, fun _ => rfl⟩ (fun k hk => by simp only [mapT] at hk; omega)) ⟨Ext.alloc w _, Nat.le_refl _⟩
  simp only [NOp.sem, Instr.makeMap]
  simp [Sem.run_bind, Result.andThen, Sem.run, pure]
end
theorem raw_shr {t : TypeId} {x y : Operand} {m k : Int} {S : World → Prop} (h0 : 0 ≤ k) : (Req.raw (do eqGuard .shr t x y (.int .i64 m) (.int .i64 k); Go.binOp .shr t (.int .i64 m) (.int .i64 k)) (.int .i64 (Int.fdiv m (2 ^ (min k.toNat 64))))).ok P S := by
  intro w _
  rw [Sem.run_bind, eqGuard_skip (by simp) (by simp)]
  have hk : ¬ k < 0 := by omega
  simp only [Result.andThen_ok, Go.binOp, Op.shift, hk, if_false]
  rfl
theorem raw_and {t : TypeId} {x y : Operand} {m k : Int} {S : World → Prop} : (Req.raw (do eqGuard .and t x y (.int .i64 m) (.int .i64 k); Go.binOp .and t (.int .i64 m) (.int .i64 k)) (.int .i64 (bits .and .i64 m k))).ok P S := by
  intro w _
  rw [Sem.run_bind, eqGuard_skip (by simp) (by simp)]
  simp only [Result.andThen_ok, binOp_and, intBits_and]
  rfl
theorem run_eqP {k : TypeId} (hk : pairTy P k = true) (x y : Int × Int) (w : World) : (Go.binOp .eql k (slv x) (slv y)).run P w = .ok (.bool (x.1 == y.1 && x.2 == y.2)) w := by
  rw [slv, slv, run_eql_struct]
  have := run_equal_pair hk x y w 9998
  rw [slv, slv] at this
  rw [this]; rfl
theorem raw_eqP {k : TypeId} {x y : Operand} {S : World → Prop} (hk : pairTy P k = true) (hg : P.eqGuardType P.depth k = false) (u v : Int × Int) : (Req.raw (do eqGuard .eql k x y (slv u) (slv v); Go.binOp .eql k (slv u) (slv v)) (.bool (u.1 == v.1 && u.2 == v.2))).ok P S := by
  intro w _
  rw [Sem.run_bind, slv, slv, run_eqGuard_agg _ _ _ _ _ _ _ hg]
  exact run_eqP hk u v w
def arrL (n : Nat) (f : Nat → Int) : List Value := [] ++ fcells n f ++ []
def arrV (n : Nat) (f : Nat → Int) : Value := .agg (arrL n f).toArray
def feq (n : Nat) (f g : Nat → Int) : Bool := (List.range n).all fun i => f i == g i
/-- t is an array of n whole numbers. -/
def arrTy (P : Program) (t : TypeId) (n : Nat) : Bool :=
  match P.underlying t with
  | some (.array m e) => Nat.beq m n && (match P.underlying e with | some (.int _) => true | _ => false) && (match P.info? e with | some i => Nat.beq i.size 1 | none => false)
  | _ => false
theorem arrTy_ok {t : TypeId} {n : Nat} (h : arrTy P t n = true) : ∃ e q i, P.underlying t = some (.array n e) ∧ P.underlying e = some (.int q) ∧ P.info? e = some i ∧ i.size = 1 := by
  unfold arrTy at h
  split at h
  · rename_i m e hu
    simp only [Bool.and_eq_true] at h
    obtain ⟨⟨h1, h2⟩, h3⟩ := h
    have e1 := Nat.eq_of_beq_eq_true h1
    subst e1
    split at h2
    · rename_i q hq
      split at h3
      · rename_i i hi; exact ⟨e, q, i, hu, hq, hi, Nat.eq_of_beq_eq_true h3⟩
      · cases h3
    · cases h2
  · cases h
theorem arrL_at {n : Nat} {f : Nat → Int} {i : Nat} (h : i < n) : (arrL n f).toArray[i]? = some (.int .i64 (f i)) := by
  simp only [arrL, List.nil_append, List.append_nil, List.getElem?_toArray]
  exact fcells_at h
theorem raw_slice {t : TypeId} {n b off : Nat} {S : World → Prop} (ht : arrTy P t n = true) : (Req.raw (Instr.sliceAt t (.pointer (some ⟨b, off, none⟩)) none none none) (.slice (some ⟨b, off, none⟩) n n)).ok P S := by
  intro w _
  obtain ⟨e, q, inf, hu, hq, hi, hs⟩ := arrTy_ok ht
  unfold Instr.sliceAt
  simp only [Sem.run_bind, run_underlying hu, Result.andThen_ok]
  simp only [Instr.sureAddr, Instr.sliceBounds]
  simp [Sem.run_bind, Sem.run, pure, Result.andThen, sizeOf, run_typeInfo hi, hs]
  by_cases h : n = 0 <;> simp [h, Addr.add]
theorem run_equal_arr {t : TypeId} {n : Nat} (ht : arrTy P t n = true) (f g : Nat → Int) (w : World) (d : Nat) : (Op.equalIn (d + 2) t (arrV n f) (arrV n g)).run P w = .ok (feq n f g) w := by
  obtain ⟨e, q, inf, hu, hq, hi, hs⟩ := arrTy_ok ht
  rw [Op.equalIn]
  simp only [arrV, Sem.run_bind, run_underlying hu, Result.andThen_ok]
  simp only [sizeOf, Sem.run_bind, run_typeInfo hi, hs, Result.andThen_ok, Sem.run_pure, Nat.mul_one]
  simp only [Std.Legacy.Range.forIn_eq_forIn_range', Std.Legacy.Range.size, Nat.sub_zero, Nat.add_one_sub_one, Nat.div_one]
  unfold feq
  rw [List.range_eq_range']
  have hmem : ∀ i ∈ List.range' 0 n, i < n := fun i h => by simp [List.mem_range'] at h; omega
  generalize List.range' 0 n = is at *
  induction is with
  | nil => simp
  | cons i is ih =>
    have hin := hmem i (by simp)
    have pf : ∀ f : Nat → Int, (part e (arrL n f).toArray i).run P w = .ok (.int .i64 (f i)) w := fun f => run_part_plain w (by simp [Program.plainKey, hq]) (arrL_at hin)
    simp only [List.forIn_cons, Sem.run_bind, pf, Result.andThen_ok, run_equalIn_int _ _ _ _ _ _ _ hq]
    by_cases h : f i = g i
    · have ih' := ih (fun j hj => hmem j (by simp [hj]))
      simp only [h, beq_self_eq_true, Bool.not_true, Bool.false_eq_true, if_false, Sem.run_pure, Result.andThen_ok, List.all_cons, Bool.true_and]
      exact ih'
    · simp [h, Sem.run_pure, Result.andThen]
theorem raw_neA {t : TypeId} {n : Nat} {x y : Operand} {S : World → Prop} (ht : arrTy P t n = true) (hg : P.eqGuardType P.depth t = false) (f g : Nat → Int) : (Req.raw (do eqGuard .neq t x y (arrV n f) (arrV n g); Go.binOp .neq t (arrV n f) (arrV n g)) (.bool (!(feq n f g)))).ok P S := by
  intro w _
  rw [Sem.run_bind, arrV, arrV, run_eqGuard_agg _ _ _ _ _ _ _ hg, Result.andThen_ok, run_neq_struct]
  have := run_equal_arr ht f g w 9998
  rw [arrV, arrV] at this
  rw [this]; rfl
end Go.Proofs.Ytgihgcclabodbaa.DK
namespace Go.Proofs.Ytgihgcclabodbaa.DK
open Go
set_option linter.unusedSimpArgs false
set_option linter.unusedVariables false
variable {P : Program} {rn : Option Nat}
theorem Own.join {w0 w w' : World} {M M' : Nat → Prop} {L1 L2 L' : List Res} (hO : Own w0 M (L1 ++ L2) w) (hC : Own w M' L' w') (hM : ∀ k, M' k → ∃ r ∈ L2, r.fp k) : Own w0 M (L1 ++ L') w' := by
  have hap := List.pairwise_append.1 hO.apart
  have h1 : ∀ r ∈ L1, ∀ k, r.fp k → k < w.heap.size ∧ ¬ M' k := fun r hr k hk =>
    ⟨r.lt w (hO.all r (List.mem_append_left _ hr)) k hk, fun hm => let ⟨s, hs, hsk⟩ := hM k hm; hap.2.2 r hr s hs k hk hsk⟩
  have h2 : ∀ k, M' k → w0.heap.size ≤ k ∨ M k := fun k hm => let ⟨s, hs, hsk⟩ := hM k hm; hO.home s (List.mem_append_right _ hs) k hsk
  refine ⟨hO.kp.trans' hC.kp fun i hi hm => ?_, ?_, ?_, ?_⟩
  · rcases h2 i hm with h | h
    · omega
    · exact h
  · intro r hr
    rcases List.mem_append.1 hr with hr | hr
    · exact r.loc w w' (fun k hk => hC.kp.block k (h1 r hr k hk).1 (h1 r hr k hk).2) (hO.all r (List.mem_append_left _ hr))
    · exact hC.all r hr
  · rw [List.pairwise_append]
    refine ⟨hap.1, hC.apart, fun r hr s hs k hk1 hk2 => ?_⟩
    have := h1 r hr k hk1
    rcases hC.home s hs k hk2 with h | h
    · omega
    · exact this.2 h
  · intro r hr k hk
    rcases List.mem_append.1 hr with hr | hr
    · exact hO.home r (List.mem_append_left _ hr) k hk
    · rcases hC.home r hr k hk with h | h
      · exact .inl (Nat.le_trans hO.kp.size h)
      · exact h2 k h
/-- A call that changes nothing of the caller's. -/
theorem Own.joinE {w0 w w' : World} {M : Nat → Prop} {L L' : List Res} (hO : Own w0 M L w) (hC : Own w none_ L' w') : Own w0 M (L ++ L') w' := by
  refine Own.join (L2 := []) (M' := none_) ?_ hC (fun k h => h.elim)
  rw [List.append_nil]; exact hO
theorem Ro.of_ok {b : Nat} {cs : List Value} {t : TypeId} {w : World} (h : (cel b cs.toArray t).ok w) : Ro b cs w := fun off v hv => by
  simp only [pt] at h
  simp [World.cell?, h, hv]
theorem round_next {l : Nat} {R : Bool → World → Prop} {a : Act} {w w' : World} (he : (Instr.endRound l none).run P w = .ok (.bool true) w') (hR : R true w') : roundPost P l (fun e w' => ∃ b, e = .returned (.bool b) ∧ R b w') .normal a w := ⟨_, w', he, true, rfl, hR⟩
theorem yields_ofR {l : Nat} {w : World} {fn : FuncId} {tmps : Array Value} {t : Tmp} {assign body : Code} {D : Nat} {arg : Value} {R : Bool → World → Prop}
    (hl : w.heap[l]? = some (.loop (loopR .ready none fn tmps #[t] assign body D)))
    (h : ∀ R', R' = R → W (some l) P assign (fun e a₁ w₁ => e = .normal ∧ ∃ w₂, (Instr.beginRound l).run P w₁ = .ok () w₂ ∧ W (some l) P body (roundPost P l (fun e w' => ∃ b, e = .returned (.bool b) ∧ R' b w')) a₁ w₂) { tmps := tmps.setIfInBounds t arg, defers := [] } w) :
    Yields P l arg w R := yields_of hl (h R rfl)
end Go.Proofs.Ytgihgcclabodbaa.DK
namespace Go.Proofs.Ytgihgcclabodbaa.DK
open Go
set_option linter.unusedSimpArgs false
set_option linter.unusedVariables false
variable {P : Program} {rn : Option Nat}
/-- t is a slice type of elements e of sz cells. -/
def rowTy (P : Program) (t e : TypeId) (sz : Nat) : Bool := match P.underlying t with
  | some (.slice e') => Nat.beq e' e && Nat.blt 0 sz && (match P.info? e with
    | some i => Nat.beq i.size sz && Nat.ble i.bytes 1000 && (match i.zero with | some z => Nat.beq z.cells.size sz | none => false)
    | none => false)
  | _ => false
theorem rowTy_ok {t e : TypeId} {sz : Nat} (h : rowTy P t e sz = true) : ∃ i z, P.underlying t = some (.slice e) ∧ 0 < sz ∧ P.info? e = some i ∧ i.size = sz ∧ i.bytes ≤ 1000 ∧ i.zero = some z ∧ z.cells.size = sz := by
  unfold rowTy at h
  split at h
  · rename_i e' hu
    simp only [Bool.and_eq_true] at h
    obtain ⟨⟨h1, h2⟩, h3⟩ := h
    have e1 := Nat.eq_of_beq_eq_true h1
    subst e1
    split at h3
    · rename_i i hi
      simp only [Bool.and_eq_true] at h3
      obtain ⟨⟨a, b⟩, c⟩ := h3
      split at c
      · rename_i z hz
        exact ⟨i, z, hu, Nat.le_of_ble_eq_true h2, hi, Nat.eq_of_beq_eq_true a, Nat.le_of_ble_eq_true b, hz, Nat.eq_of_beq_eq_true c⟩
      · cases c
    · cases h3
  · cases h
theorem maxLen_ge : 1000000001 ≤ maxLen := by simp only [maxLen]; omega
theorem Kp.of_grown {w w' : World} {v : Value} (hg : w.grownBy w' v.ownBlock) : Kp (fun k => v.ownBlock = some k) w w' :=
  ⟨hg.os, hg.tape, hg.output, hg.size, fun k hk hn => hg.block k hk fun e => hn e.symm⟩
theorem Ext.of_grown {w w' : World} (hg : w.grownBy w' none) : Ext w w' := ⟨hg.os, hg.tape, hg.output, hg.size, fun k hk _ => hg.block k hk (by simp)⟩
/-- What remains, if another resource changes. -/
theorem Own.but {w0 w : World} {M : Nat → Prop} {L : List Res} (hO : Own w0 M L w) (j : Nat) {r : Res} (hj : L[j]? = some r) : ∀ x, Kp r.fp w x → Own w0 M (L.set j nul) x := fun x hx =>
  hO.upd j hj (r' := nul) hx trivial (fun k hk => hk.elim)
section
variable {n : Nat} {ds : List Deferred} {F : List (Nat × Value)} {a : Act} {ops : Array Oper} {i : Nat} {K : Act → World → Prop} {w w0 : World} {M : Nat → Prop} {L : List Res}
theorem op_appR {t ty e : TypeId} {sz k c b d : Nat} {p : Option Addr} {xs : List Value} {cs : Array Value} (ht : rowTy P t e sz = true) (hF : Fr n ds F a) (hO : Own w0 M L w)
    (he : dec n ops i F = some (.app #[t, t] ty [.slice p k c, .slice (some ⟨b, 0, none⟩) 1 1] d)) (j1 : Nat) (h1 : L[j1]? = some (rowR e sz (.slice p k c) k xs)) (j2 : Nat) (h2 : L[j2]? = some (cel b cs e)) (hcs : (Nat.beq cs.size sz && cs.toList.all Value.oneCell') = true) (hk : k ≤ 1000000000)
    (h : ∀ a' w' p' c', Fr n ds ((d, .slice p' (k + 1) c') :: F) a' → Own w0 M (L.set j1 (rowR e sz (.slice p' (k + 1) c') (k + 1) (xs ++ cs.toList))) w' → Kp (rowR e sz (.slice p k c) k xs).fp w w' → K a' w') : opX P rn ops i K a w := by
  obtain ⟨inf, z, hu, hsz, hi, hsize, hby, hz, hzs⟩ := rowTy_ok ht
  simp only [Bool.and_eq_true, List.all_eq_true] at hcs
  have hlen := Nat.eq_of_beq_eq_true hcs.1
  have hr := hO.get j1 h1
  have hmax := maxLen_ge
  obtain ⟨v', w', hrun, hown, hgr, _, hblk⟩ := run_append_own_at (P := P) w 0 t ty e inf z sz inf.bytes hu hi hz hsize rfl hzs hsz (.slice p k c) k xs hr ⟨b, 0, none⟩ 1 1 cs.toList (by simpa using hlen)
    (fun j u hj => by rw [add_own, Nat.zero_add]; exact hO.cell j2 h2 j (by simpa using hj)) hcs.2 (by omega) (Nat.le_trans (Nat.mul_le_mul (Nat.add_le_add_right hk 1) hby) (by omega)) (Nat.zero_le _)
  have hshape : ∃ p' c', v' = .slice p' (k + 1) c' := by
    rcases hown.2 with ⟨_, h0⟩ | ⟨g, cap, cur, hv, _⟩
    · omega
    · exact ⟨_, _, hv⟩
  obtain ⟨p', c', rfl⟩ := hshape
  refine op_val (w' := w') (v := .slice p' (k + 1) c') he hF ?_ fun a' hf => h a' w' p' c' hf (hO.upd j1 h1 (r' := rowR e sz (.slice p' (k + 1) c') (k + 1) (xs ++ cs.toList)) (Kp.of_grown hgr) hown (fun m hm => ?_)) (Kp.of_grown hgr)
  · simp [NOp.sem, Sem.run_bind, hrun, Result.andThen, Sem.run, pure]
  · simp only [rowR] at hm ⊢
    rcases hblk with hb | hb
    · exact .inl (hb ▸ hm)
    · rw [hb] at hm; right; have := Option.some.inj hm; omega
theorem flat_get {α : Type} {enc : α → List Value} {sz : Nat} (henc : ∀ y, (enc y).length = sz) : ∀ (ys : List α) (i j : Nat) (y : α), ys[i]? = some y → j < sz → (ys.flatMap enc)[i * sz + j]? = (enc y)[j]?
  | [], i, j, y, h, _ => by simp at h
  | x :: ys, 0, j, y, h, hj => by
    simp only [List.getElem?_cons_zero, Option.some.injEq] at h; subst h
    rw [List.flatMap_cons, Nat.zero_mul, Nat.zero_add, List.getElem?_append_left (by rw [henc]; exact hj)]
  | x :: ys, i + 1, j, y, h, hj => by
    simp only [List.getElem?_cons_succ] at h
    rw [List.flatMap_cons, List.getElem?_append_right (by rw [henc, Nat.succ_mul]; omega), henc, show (i + 1) * sz + j - sz = i * sz + j from by rw [Nat.succ_mul]; omega]
    exact flat_get henc ys i j y h hj
theorem flat_len {α : Type} {enc : α → List Value} {sz : Nat} (henc : ∀ y, (enc y).length = sz) (ys : List α) : (ys.flatMap enc).length = ys.length * sz := by
  induction ys with
  | nil => simp
  | cons x ys ih => rw [List.flatMap_cons, List.length_append, henc, ih, List.length_cons, Nat.succ_mul]; omega
/-- A slice of one's own, read. -/
theorem rd_row {α : Type} {enc : α → List Value} {e : TypeId} {sz k c : Nat} {p : Option Addr} {ys : List α} (henc : ∀ y, (enc y).length = sz) (hsz : 0 < sz) (hO : Own w0 M L w) (j : Nat) (hj : L[j]? = some (rowR e sz (.slice p k c) k (ys.flatMap enc))) (hk : k ≤ 1000000000) : Rd enc sz w.heap.size w p k ys := by
  have hr := hO.get j hj
  have hl : ys.length = k := by
    have := hr.1
    rw [flat_len henc] at this
    exact Nat.eq_of_mul_eq_mul_right hsz this
  refine ⟨hl, by omega, fun i y hy => ?_⟩
  have hil : i < k := by rw [← hl]; exact (List.getElem?_eq_some_iff.1 hy).1
  rcases hr.2 with ⟨_, h0⟩ | ⟨g, cap, cur, hv, _, hg, hnc, _, hcs, htake⟩
  · omega
  · simp only [Value.slice.injEq] at hv
    obtain ⟨rfl, _, rfl⟩ := hv
    refine ⟨_, rfl, obj_lt hg, fun q v hq => ?_⟩
    have hqs : q < sz := by rw [← henc y]; exact (List.getElem?_eq_some_iff.1 hq).1
    have h1 := flat_get henc ys i q y hy hqs
    rw [hq] at h1
    rw [add_own, add_own, Nat.zero_add]
    have hlt : i * sz + q < k * sz := by
      have : (i + 1) * sz ≤ k * sz := Nat.mul_le_mul_right _ hil
      rw [Nat.succ_mul] at this; omega
    rw [← htake, List.getElem?_take_of_lt hlt] at h1
    simp [World.cell?, hg]
    simpa using h1
/-- An element more behind a slice that is only read, and full. -/
theorem op_appA {α : Type} {enc : α → List Value} {t ty e : TypeId} {sz k b d bd : Nat} {p : Option Addr} {ys : List α} {cs : Array Value} (ht : rowTy P t e sz = true) (henc : ∀ y, (enc y).length = sz) (hF : Fr n ds F a) (hO : Own w0 M L w)
    (he : dec n ops i F = some (.app #[t, t] ty [.slice p k k, .slice (some ⟨b, 0, none⟩) 1 1] d)) (hR : Rd enc sz bd w p k ys) (hp : p = none → k = 0) (j2 : Nat) (h2 : L[j2]? = some (cel b cs e)) (hcs : (Nat.beq cs.size sz && cs.toList.all Value.oneCell') = true) (hk : k ≤ 1000000000)
    (h : ∀ a' w' p' c', Fr n ds ((d, .slice p' (k + 1) c') :: F) a' → Own w0 M (L ++ [rowR e sz (.slice p' (k + 1) c') (k + 1) (ys.flatMap enc ++ cs.toList)]) w' → Ext w w' → K a' w') : opX P rn ops i K a w := by
  obtain ⟨inf, z, hu, hsz, hi, hsize, hby, hz, hzs⟩ := rowTy_ok ht
  simp only [Bool.and_eq_true, List.all_eq_true] at hcs
  have hlen := Nat.eq_of_beq_eq_true hcs.1
  have hmax := maxLen_ge
  have hnews : ∀ j u, cs.toList[j]? = some u → w.cell? ((⟨b, 0, none⟩ : Addr).add j) = some u := fun j u hj => by rw [add_own, Nat.zero_add]; exact hO.cell j2 h2 j (by simpa using hj)
  have fin : ∀ v' w', (Builtin.append_ #[t, t] ty #[.slice p k k, .slice (some ⟨b, 0, none⟩) 1 1]).run P w = .ok v' w' → w'.ownsRow w.heap.size e sz v' (k + 1) (ys.flatMap enc ++ cs.toList) → w.grownBy w' none → opX P rn ops i K a w := by
    intro v' w' hrun hown hgr
    have hshape : ∃ g c', v' = .slice (some ⟨g, 0, none⟩) (k + 1) c' ∧ w.heap.size ≤ g := by
      rcases hown.2 with ⟨_, h0⟩ | ⟨g, cap, cur, hv, hb, _⟩
      · omega
      · exact ⟨_, _, hv, hb⟩
    obtain ⟨g, c', rfl, hg⟩ := hshape
    refine op_val (w' := w') (v := .slice (some ⟨g, 0, none⟩) (k + 1) c') he hF ?_ fun a' hf => h a' w' _ c' hf (hO.add (Ext.of_grown hgr) (r := rowR e sz (.slice (some ⟨g, 0, none⟩) (k + 1) c') (k + 1) (ys.flatMap enc ++ cs.toList)) ?_ fun m hm => ?_) (Ext.of_grown hgr)
    · simp [NOp.sem, Sem.run_bind, hrun, Result.andThen, Sem.run, pure]
    · refine ⟨hown.1, ?_⟩
      rcases hown.2 with h0 | ⟨g', cap, cur, hv, hb, r⟩
      · exact .inl h0
      · exact .inr ⟨g', cap, cur, hv, Nat.zero_le _, r⟩
    · simp only [rowR, Value.ownBlock, Option.some.injEq] at hm; omega
  cases p with
  | some ad =>
    have holds : ∀ j u, (ys.flatMap enc)[j]? = some u → w.cell? (ad.add j) = some u := by
      intro j u hj
      have hjl : j < k * sz := by have := (List.getElem?_eq_some_iff.1 hj).1; rwa [flat_len henc, hR.len] at this
      have hq : j / sz < k := Nat.div_lt_of_lt_mul (by rw [Nat.mul_comm]; exact hjl)
      have hy : ys[j / sz]? = some (ys[j / sz]'(by rw [hR.len]; exact hq)) := List.getElem?_eq_getElem _
      obtain ⟨ad', had, _, hc⟩ := hR.cells _ _ hy
      cases had
      have hj2 : j / sz * sz + j % sz = j := by rw [Nat.mul_comm]; exact Nat.div_add_mod j sz
      have h1 := flat_get henc ys (j / sz) (j % sz) _ hy (Nat.mod_lt _ hsz)
      rw [hj2, hj] at h1
      have h3 := hc (j % sz) u h1.symm
      by_cases hm0 : j % sz = 0
      · rw [hm0] at h3 hj2
        rw [Nat.add_zero] at hj2
        rw [hj2] at h3
        simpa [Addr.add] using h3
      · rw [add_add _ _ _ hm0, hj2] at h3; exact h3
    obtain ⟨v', w', hrun, hown, hgr⟩ := run_append_arg_grows (P := P) w t ty e inf z sz inf.bytes hu hi hz hsize rfl hzs hsz ad k k (ys.flatMap enc) (by rw [flat_len henc, hR.len]) holds ⟨b, 0, none⟩ 1 1 cs.toList (by simpa using hlen) hnews (by omega) (by omega) (Nat.le_trans (Nat.mul_le_mul (Nat.add_le_add_right hk 1) hby) (by omega))
    exact fin v' w' hrun hown hgr
  | none =>
    have hk0 := hp rfl
    subst hk0
    have hys : ys = [] := List.eq_nil_of_length_eq_zero hR.len
    subst hys
    obtain ⟨v', w', hrun, hown, hgr, _, hblk⟩ := run_append_own_at (P := P) w w.heap.size t ty e inf z sz inf.bytes hu hi hz hsize rfl hzs hsz (.slice none 0 0) 0 [] (World.ownsRow_nil w _ e sz) ⟨b, 0, none⟩ 1 1 cs.toList (by simpa using hlen) hnews hcs.2 (by omega) (Nat.le_trans (Nat.mul_le_mul (Nat.add_le_add_right hk 1) hby) (by omega)) (Nat.le_refl _)
    exact fin v' w' hrun (by simpa using hown) hgr
theorem run_sliceCap {t e : TypeId} {sz : Nat} (ht : rowTy P t e sz = true) {p : Option Addr} {k c : Nat} (hk : k ≤ c) (w : World) : (Instr.sliceAt t (.slice p k c) none (some (.int .i64 k)) (some (.int .i64 k))).run P w = .ok (.slice p k k) w := by
  obtain ⟨inf, z, hu, hsz, hi, hsize, hby, hz, hzs⟩ := rowTy_ok ht
  unfold Instr.sliceAt
  simp only [Sem.run_bind, run_underlying hu, Result.andThen_ok]
  unfold Instr.slice
  simp only [Sem.run_bind, run_underlying hu, Result.andThen_ok]
  have h1 : (Instr.sliceBounds true k c none (some (.int .i64 k)) (some (.int .i64 k))).run P w = .ok (0, k, k) w := by
    simp [Instr.sliceBounds, Instr.sliceBound, Sem.run_bind, Sem.run, pure, Result.andThen, asIntOf, hk]
  rw [h1]
  simp only [Result.andThen_ok, sizeOf, Sem.run_bind, run_typeInfo hi, Sem.run_pure, Nat.sub_zero, Nat.zero_mul]
  by_cases h0 : k = 0
  · simp [h0]
  · cases p <;> simp [h0, Addr.add]
end
theorem raw_sliceCap {t e : TypeId} {sz : Nat} {S : World → Prop} (ht : rowTy P t e sz = true) {p : Option Addr} {k c : Nat} (hk : k ≤ c) : (Req.raw (Instr.sliceAt t (.slice p k c) none (some (.int .i64 k)) (some (.int .i64 k))) (.slice p k k)).ok P S := fun w _ => run_sliceCap ht hk w
theorem row_cap {w0 w : World} {M : Nat → Prop} {L : List Res} {e : TypeId} {sz k c : Nat} {p : Option Addr} {xs : List Value} (hO : Own w0 M L w) (j : Nat) (hj : L[j]? = some (rowR e sz (.slice p k c) k xs)) : k ≤ c ∧ (p = none → k = 0) := by
  rcases (hO.get j hj).2 with ⟨hv, h0⟩ | ⟨g, cap, cur, hv, _, _, hc, _⟩
  · exact ⟨by omega, fun _ => h0⟩
  · simp only [Value.slice.injEq] at hv
    obtain ⟨rfl, _, rfl⟩ := hv
    exact ⟨hc, by simp⟩
theorem Own.nilRow {w0 w : World} {M : Nat → Prop} {L : List Res} (hO : Own w0 M L w) (e : TypeId) (sz : Nat) : Own w0 M (L ++ [rowR e sz (.slice none 0 0) 0 []]) w :=
  hO.add (Kp.refl _ _) (r := rowR e sz (.slice none 0 0) 0 []) (World.ownsRow_nil w _ e sz) (by simp [rowR, Value.ownBlock])
def KpI (r : Res) (w x : World) : Prop := Kp r.fp w x ∧ r.ok x
theorem KpI.ext {r : Res} (w x y : World) (h : KpI r w x) (hE : Ext x y) : KpI r w y := ⟨h.1.trans (Ext.kp hE), r.loc x y (fun k hk => hE.block k (r.lt x h.2 k hk) (fun h => h)) h.2⟩
theorem draw_startI {id : Nat} {ops : Array Oper} {Q : Exit → Act → World → Prop} {a : Act} {w : World} (hm : P.follows .mixedOrders = true) (Z : List Nat) (n : Nat) (hn : Nat.beq ops.size n = true) {r : Res}
    (h : ∀ w1, Ext w w1 → anyX P rn ops (Q .normal) Z (fun x => KpI r w x) n (Array.replicate n false) a w1) : W rn P (.region id ops true) Q a w := by
  have e := Nat.eq_of_beq_eq_true hn
  subst e
  exact region_any hm Z _ (h _ (Ext.drew w))
theorem draw_qI {tb : Tbl} {n : Nat} (ct : Ctl) {ds : List Deferred} {ops : Array Oper} {K : Act → World → Prop} {Z : List Nat} {F F' : List (Nat × Value)} {rs : List Req} {listed : Array Bool} {a : Act} {w wb : World} {r : Res} (ht : Tbl.ok P tb = true) (hF : Fr n ds F a)
    (hS : KpI r wb w) (is : List Nat) (m fuel : Nat) (hn : Nat.beq m (is.length + fuel) = true) (listed' : Array Bool) (keep : List Nat) (hr : Reqs P (fun x => KpI r w x) rs) (he : evk tb n ct ops is F rs keep = some (F', rs))
    (hh : (Region.noSelect ops && decide (hoist ops Z is listed = some listed')) = true)
    (k : ∀ a', Fr n ds F' a' → anyX P rn ops K Z (fun x => KpI r w x) fuel listed' a' w) : anyX P rn ops K Z (fun x => KpI r wb x) m listed a w := by
  have e := Nat.eq_of_beq_eq_true hn
  subst e
  exact anyX_mono (fun _ h => ⟨hS.1.trans h.1, h.2⟩) _ _ _ _ (any_quiet ct ht hF (fun _ _ h h' => KpI.ext _ _ _ h h') ⟨Kp.refl _ _, hS.2⟩ is fuel listed' keep hr he hh k)
theorem Own.butI {w0 w : World} {M : Nat → Prop} {L : List Res} (hO : Own w0 M L w) (j : Nat) {r : Res} (hj : L[j]? = some r) : ∀ x, KpI r w x → Own w0 M L x := fun x hx => by
  have h := hO.upd j hj (r' := r) hx.1 hx.2 (fun k hk => .inl hk)
  have e : L.set j r = L := by
    obtain ⟨hl, rfl⟩ := List.getElem?_eq_some_iff.1 hj
    exact List.set_getElem_self hl
  rwa [e] at h
end Go.Proofs.Ytgihgcclabodbaa.DK
namespace Go.Proofs.Ytgihgcclabodbaa.DK
open Go
set_option linter.unusedSimpArgs false
set_option linter.unusedVariables false
variable {P : Program} {rn : Option Nat}
/-- A slice whose block is none of M. -/
structure RdX {α : Type} (M : Nat → Prop) (enc : α → List Value) (sz : Nat) (w : World) (a : Option Addr) (n : Nat) (xs : List α) : Prop where
  len : xs.length = n
  size : n ≤ 9223372036854775807
  cells : ∀ i x, xs[i]? = some x → ∃ ad, a = some ad ∧ ¬ M ad.block ∧ ∀ j v, (enc x)[j]? = some v → w.cell? ((ad.add (i * sz)).add j) = some v
section
variable {α : Type} {M : Nat → Prop} {enc : α → List Value} {sz : Nat} {w w0 w1 : World} {L : List Res} {a : Option Addr} {n : Nat} {xs : List α}
theorem RdX.kp {w' : World} {X : Nat → Prop} (h : RdX X enc sz w a n xs) (hk : Kp M w w') (hm : ∀ k, M k → X k) : RdX X enc sz w' a n xs :=
  ⟨h.len, h.size, fun i x hx => let ⟨ad, ha, hb, hc⟩ := h.cells i x hx; ⟨ad, ha, hb, fun j v hv => hk.cell (hc j v hv) (by rw [add_block, add_block]; exact fun h => hb (hm _ h))⟩⟩
theorem RdX.ext {w' : World} (h : RdX M enc sz w a n xs) (hk : Ext w w') : RdX M enc sz w' a n xs := h.kp hk (fun _ h => h.elim)
theorem RdX.rd (h : RdX M enc sz w a n xs) (henc : ∀ y, ∃ v, (enc y)[0]? = some v) : Rd enc sz w.heap.size w a n xs :=
  ⟨h.len, h.size, fun i x hx => let ⟨ad, ha, _, hc⟩ := h.cells i x hx; let ⟨v, hv⟩ := henc x; ⟨ad, ha, by have := block_lt (hc 0 v hv); rwa [add_block, add_block] at this, hc⟩⟩
theorem RdX.none_ : RdX M enc sz w none 0 [] := ⟨rfl, by omega, fun i x hx => by simp at hx⟩
theorem ixX [Inhabited α] {S : World → Prop} (h : RdX M enc sz w a n xs) {i : Int} (h0 : 0 ≤ i) (h1 : i < n) : (Req.idx a n i sz (adr a sz i)).ok P S := by
  have hlt : i.toNat < xs.length := by have := h.len; omega
  obtain ⟨ad, ha, _, _⟩ := h.cells i.toNat _ (List.getElem?_eq_getElem hlt)
  subst ha
  exact ⟨ad, rfl, h0, h1, rfl⟩
theorem ldxX [Inhabited α] {S : World → Prop} {X : Nat → Prop} (H : ∀ x, S x → Own w0 M L x) (hm : ∀ k, M k → X k) (h : RdX X enc sz w0 a n xs) {i : Int} (h0 : 0 ≤ i) (h1 : i < n) (off : Nat) {v : Value} (hv : (enc (xs.getD i.toNat default))[off]? = some v) : (Req.ld ((adr a sz i).add off) v).ok P S := by
  intro w' hS
  have hlt : i.toNat < xs.length := by have := h.len; omega
  have hx : xs[i.toNat]? = some (xs.getD i.toNat default) := by rw [List.getD_eq_getElem?_getD, List.getElem?_eq_getElem hlt]; rfl
  obtain ⟨ad, ha, _, hc⟩ := (h.kp (H w' hS).kp hm).cells _ _ hx
  subst ha
  exact hc off v hv
end
/-- A row of one's own is none of the blocks of two others. -/
theorem rdx_row {α : Type} {enc : α → List Value} {e : TypeId} {sz k c b3 b4 : Nat} {p : Option Addr} {ys : List α} {M Mx : Nat → Prop} {w0 w : World} {L : List Res} {c3 c4 : Array Value} {t3 t4 : TypeId} (henc : ∀ y, (enc y).length = sz) (hsz : 0 < sz) (hO : Own w0 M L w) (j j3 j4 : Nat)
    (hj : L[j]? = some (rowR e sz (.slice p k c) k (ys.flatMap enc))) (h3 : L[j3]? = some (cel b3 c3 t3)) (h4 : L[j4]? = some (cel b4 c4 t4)) (hne : j ≠ j3 ∧ j ≠ j4) {lim : Nat} (hM : ∀ m, Mx m → m = b3 ∨ m = b4 ∨ m < lim) (hlim : lim ≤ w0.heap.size) (hMM : ∀ m, M m → m = b3 ∨ m = b4) (hk : k ≤ 1000000000) : RdX Mx enc sz w p k ys := by
  have h := rd_row henc hsz hO j hj hk
  have hap := List.pairwise_iff_getElem.1 hO.apart
  have apart : ∀ (a b : Nat) (ra rb : Res), L[a]? = some ra → L[b]? = some rb → a ≠ b → ∀ m, ra.fp m → ¬ rb.fp m := by
    intro a b ra rb ha hb hab m h1 h2
    obtain ⟨hal, rfl⟩ := List.getElem?_eq_some_iff.1 ha
    obtain ⟨hbl, rfl⟩ := List.getElem?_eq_some_iff.1 hb
    rcases Nat.lt_or_gt_of_ne hab with hlt | hlt
    · exact hap a b hal hbl hlt m h1 h2
    · exact hap b a hbl hal hlt m h2 h1
  refine ⟨h.len, h.size, fun i x hx => ?_⟩
  obtain ⟨ad, ha, _, hc⟩ := h.cells i x hx
  refine ⟨ad, ha, fun hm => ?_, hc⟩
  have hfp : (rowR e sz (.slice p k c) k (ys.flatMap enc)).fp ad.block := by simp [rowR, Value.ownBlock, ha]
  have hno : ∀ m, (rowR e sz (.slice p k c) k (ys.flatMap enc)).fp m → ¬ (m = b3 ∨ m = b4) := fun m h1 h2 => by
    rcases h2 with h' | h'
    · exact apart j j3 _ _ hj h3 hne.1 _ h1 h'
    · exact apart j j4 _ _ hj h4 hne.2 _ h1 h'
  rcases hM _ hm with h' | h' | h'
  · exact hno _ hfp (.inl h')
  · exact hno _ hfp (.inr h')
  · rcases hO.home _ (List.mem_of_getElem? hj) _ hfp with h2 | h2
    · omega
    · exact hno _ hfp (hMM _ h2)
def rdR {α : Type} (enc : α → List Value) (sz : Nat) (a : Option Addr) (n : Nat) (xs : List α) : Res where
  fp k := xs ≠ [] ∧ ∃ ad, a = some ad ∧ ad.block = k
  ok w := Rd enc sz w.heap.size w a n xs
  loc w w' h hw := by
    refine ⟨hw.len, hw.size, fun i x hx => ?_⟩
    obtain ⟨ad, ha, hb, hc⟩ := hw.cells i x hx
    have hne : xs ≠ [] := by intro e; subst e; simp at hx
    have hh := h ad.block ⟨hne, ad, ha, rfl⟩
    refine ⟨ad, ha, ?_, fun j v hv => ?_⟩
    · have : w.heap[ad.block]? = some w.heap[ad.block] := Array.getElem?_eq_getElem hb
      rw [this] at hh
      exact obj_lt hh
    · exact (World.cell?_of_block (by rw [add_block, add_block]; exact hh)).trans (hc j v hv)
  lt w hw k hk := by
    obtain ⟨hne, ad, ha, rfl⟩ := hk
    cases xs with
    | nil => exact absurd rfl hne
    | cons x xs =>
      obtain ⟨ad', ha', hb, _⟩ := hw.cells 0 x rfl
      rw [ha] at ha'; cases ha'; exact hb
theorem own_rdR {α : Type} {enc : α → List Value} {sz n : Nat} {a : Option Addr} {xs : List α} {w0 w : World} {L : List Res} {X : Nat → Prop} (hO : Own w0 none_ L w) (h : RdX X enc sz w a n xs) (henc : ∀ y, ∃ v, (enc y)[0]? = some v) (hX : ∀ k, k < w0.heap.size → X k) : Own w0 none_ [rdR enc sz a n xs] w := by
  refine ⟨hO.kp, fun r hr => ?_, List.pairwise_singleton _ _, fun r hr k hk => ?_⟩
  · simp at hr; subst hr; exact h.rd henc
  · simp at hr; subst hr
    obtain ⟨hne, ad, ha, rfl⟩ := hk
    left
    cases xs with
    | nil => exact absurd rfl hne
    | cons x xs =>
      obtain ⟨ad', ha', hb, _⟩ := h.cells 0 x rfl
      rw [ha] at ha'; cases ha'
      exact Nat.le_of_not_lt fun hlt => hb (hX _ hlt)
/-- A row of cells of one's own, read as a slice of its first elements. -/
theorem rd_cel {α : Type} {enc : α → List Value} {sz b n : Nat} {cs : Array Value} {t : TypeId} {ys : List α} {rest : List Value} {w0 w : World} {M : Nat → Prop} {L : List Res} (henc : ∀ y, (enc y).length = sz) (hO : Own w0 M L w) (j : Nat) (hj : L[j]? = some (cel b cs t)) (hcs : cs.toList = ys.flatMap enc ++ rest) (hn : ys.length = n) (hk : n ≤ 1000000000) :
    Rd enc sz w.heap.size w (some ⟨b, 0, none⟩) n ys := by
  refine ⟨hn, by omega, fun i y hy => ⟨_, rfl, obj_lt (hO.get j hj), fun q v hq => ?_⟩⟩
  have hqs : q < sz := by rw [← henc y]; exact (List.getElem?_eq_some_iff.1 hq).1
  have h1 := flat_get henc ys i q y hy hqs
  rw [hq] at h1
  rw [add_own, add_own, Nat.zero_add]
  refine hO.cell j hj _ ?_
  have hlt : i * sz + q < (ys.flatMap enc).length := (List.getElem?_eq_some_iff.1 h1).1
  rw [← Array.getElem?_toList, hcs, List.getElem?_append_left hlt]
  exact h1
theorem run_sliceTo {t e : TypeId} {sz : Nat} (ht : rowTy P t e sz = true) {p : Option Addr} {n c : Nat} {k : Int} (h0 : 0 ≤ k) (hk : k ≤ c) (w : World) : (Instr.sliceAt t (.slice p n c) none (some (.int .i64 k)) none).run P w = .ok (.slice p k.toNat c) w := by
  obtain ⟨inf, z, hu, hsz, hi, hsize, hby, hz, hzs⟩ := rowTy_ok ht
  unfold Instr.sliceAt
  simp only [Sem.run_bind, run_underlying hu, Result.andThen_ok]
  unfold Instr.slice
  simp only [Sem.run_bind, run_underlying hu, Result.andThen_ok]
  have h1 : (Instr.sliceBounds true n c none (some (.int .i64 k)) none).run P w = .ok (0, k.toNat, c) w := by
    simp [Instr.sliceBounds, Instr.sliceBound, Sem.run_bind, Sem.run, pure, Result.andThen, asIntOf, h0, hk]
  rw [h1]
  simp only [Result.andThen_ok, sizeOf, Sem.run_bind, run_typeInfo hi, Sem.run_pure, Nat.sub_zero, Nat.zero_mul]
  by_cases h0 : c = 0
  · simp [h0]
  · cases p <;> simp [h0, Addr.add]
theorem raw_sliceTo {t e : TypeId} {sz : Nat} {S : World → Prop} (ht : rowTy P t e sz = true) {p : Option Addr} {n c : Nat} {k : Int} (h0 : 0 ≤ k) (hk : k ≤ c) : (Req.raw (Instr.sliceAt t (.slice p n c) none (some (.int .i64 k)) none) (.slice p k.toNat c)).ok P S := fun w _ => run_sliceTo ht h0 hk w
theorem calls_cast {f : FuncId} {a : Array Value} {w : World} {v v' : Value} (h : Calls P f a w (fun e w' => e = .returned v ∧ Ext w w')) (e : v = v') : Calls P f a w (fun e w' => e = .returned v' ∧ Ext w w') := e ▸ h
theorem rd_nil {α : Type} (enc : α → List Value) (sz : Nat) (w : World) : Rd enc sz w.heap.size w none 0 [] := ⟨rfl, by omega, fun i x hx => by simp at hx⟩
end Go.Proofs.Ytgihgcclabodbaa.DK
namespace Go.Proofs.Ytgihgcclabodbaa.DK
open Go
set_option linter.unusedSimpArgs false
set_option linter.unusedVariables false
variable {P : Program} {rn : Option Nat}
theorem oneCell_of {α : Type} {enc : α → List Value} (h1 : ∀ y, (enc y).all Value.oneCell' = true) (ys : List α) : ∀ u ∈ ys.flatMap enc, u.oneCell' = true := by
  intro u hu
  obtain ⟨y, _, hy⟩ := List.mem_flatMap.1 hu
  exact List.all_eq_true.1 (h1 y) u hy
theorem rd_cells {α : Type} {enc : α → List Value} {sz bd m : Nat} {w : World} {ad : Addr} {ys : List α} (henc : ∀ y, (enc y).length = sz) (hsz : 0 < sz) (hR : Rd enc sz bd w (some ad) m ys) : ∀ j u, (ys.flatMap enc)[j]? = some u → w.cell? (ad.add j) = some u := by
  intro j u hj
  have hjl : j < m * sz := by have := (List.getElem?_eq_some_iff.1 hj).1; rwa [flat_len henc, hR.len] at this
  have hq : j / sz < m := Nat.div_lt_of_lt_mul (by rw [Nat.mul_comm]; exact hjl)
  have hy : ys[j / sz]? = some (ys[j / sz]'(by rw [hR.len]; exact hq)) := List.getElem?_eq_getElem _
  obtain ⟨ad', had, _, hc⟩ := hR.cells _ _ hy
  cases had
  have hj2 : j / sz * sz + j % sz = j := by rw [Nat.mul_comm]; exact Nat.div_add_mod j sz
  have h1 := flat_get henc ys (j / sz) (j % sz) _ hy (Nat.mod_lt _ hsz)
  rw [hj2, hj] at h1
  have h3 := hc (j % sz) u h1.symm
  by_cases hm0 : j % sz = 0
  · rw [hm0] at h3 hj2
    rw [Nat.add_zero] at hj2
    rw [hj2] at h3
    simpa [Addr.add] using h3
  · rw [add_add _ _ _ hm0, hj2] at h3; exact h3
theorem run_append_none {w : World} {t ty e : TypeId} {i : TypeInfo} (ht : P.underlying t = some (.slice e)) (hi : P.info? e = some i) (p : Option Addr) (k c c2 : Nat) (hk : k ≤ c) :
    (Builtin.append_ #[t, t] ty #[.slice p k c, .slice none 0 c2]).run P w = .ok (.slice p k c) w := by
  cases p <;> simp [Builtin.append_, run_underlying ht, sizeOf, typeInfo, hi, Builtin.lenOf, Builtin.firstCells, storeCells, hk]
theorem Kp.freshR {wb w w' : World} {R fp : Nat → Prop} (h : Kp R wb w) (hk : Kp fp w w') (hf : ∀ k, fp k → wb.heap.size ≤ k) : Kp R wb w' :=
  h.trans' hk fun i hi hm => absurd (hf i hm) (by omega)
section
variable {n : Nat} {ds : List Deferred} {F : List (Nat × Value)} {a : Act} {ops : Array Oper} {i : Nat} {K : Act → World → Prop} {w w0 : World} {M : Nat → Prop} {L : List Res}
/-- What is read, behind a slice of one's own. -/
theorem op_appX {α : Type} {enc : α → List Value} {t ty e : TypeId} {sz k c m c2 d bd : Nat} {p p2 : Option Addr} {xs : List Value} {ys : List α} (ht : rowTy P t e sz = true) (henc : ∀ y, (enc y).length = sz) (h1c : ∀ y, (enc y).all Value.oneCell' = true) (hF : Fr n ds F a) (hO : Own w0 M L w)
    (he : dec n ops i F = some (.app #[t, t] ty [.slice p k c, .slice p2 m c2] d)) (hR : Rd enc sz bd w p2 m ys) (j1 : Nat) (h1 : L[j1]? = some (rowR e sz (.slice p k c) k xs)) (hk : k + m ≤ 1000000000)
    (h : ∀ a' w' p' c', Fr n ds ((d, .slice p' (k + m) c') :: F) a' → Own w0 M (L.set j1 (rowR e sz (.slice p' (k + m) c') (k + m) (xs ++ ys.flatMap enc))) w' →
      (Kp (rowR e sz (.slice p k c) k xs).fp w w' ∧ ∀ q, (rowR e sz (.slice p' (k + m) c') (k + m) (xs ++ ys.flatMap enc)).fp q → (rowR e sz (.slice p k c) k xs).fp q ∨ w.heap.size ≤ q) → K a' w') : opX P rn ops i K a w := by
  obtain ⟨inf, z, hu, hsz, hi, hsize, hby, hz, hzs⟩ := rowTy_ok ht
  have hr := hO.get j1 h1
  have hmax := maxLen_ge
  cases p2 with
  | some ad =>
    obtain ⟨v', w', hrun, hown, hgr, _, hblk⟩ := run_append_own_at (P := P) w 0 t ty e inf z sz inf.bytes hu hi hz hsize rfl hzs hsz (.slice p k c) k xs hr ad m c2 (ys.flatMap enc) (by rw [flat_len henc, hR.len])
      (rd_cells henc hsz hR) (oneCell_of h1c ys) (by omega) (Nat.le_trans (Nat.mul_le_mul hk hby) (by omega)) (Nat.zero_le _)
    have hshape : ∃ p' c', v' = .slice p' (k + m) c' := by
      rcases hown.2 with ⟨h0, h2⟩ | ⟨g, cap, cur, hv, _⟩
      · rw [h2]; exact ⟨_, _, h0⟩
      · exact ⟨_, _, hv⟩
    obtain ⟨p', c', rfl⟩ := hshape
    have hq : ∀ q, (rowR e sz (.slice p' (k + m) c') (k + m) (xs ++ ys.flatMap enc)).fp q → (rowR e sz (.slice p k c) k xs).fp q ∨ w.heap.size ≤ q := by
      intro q hm
      simp only [rowR] at hm ⊢
      rcases hblk with hb | hb
      · exact .inl (hb ▸ hm)
      · rw [hb] at hm; right; have := Option.some.inj hm; omega
    refine op_val (w' := w') (v := .slice p' (k + m) c') he hF ?_ fun a' hf => h a' w' p' c' hf (hO.upd j1 h1 (r' := rowR e sz (.slice p' (k + m) c') (k + m) (xs ++ ys.flatMap enc)) (Kp.of_grown hgr) hown hq) ⟨Kp.of_grown hgr, hq⟩
    simp [NOp.sem, Sem.run_bind, hrun, Result.andThen, Sem.run, pure]
  | none =>
    have hm0 : m = 0 := by
      have hl := hR.len
      cases ys with
      | nil => simpa using hl.symm
      | cons y ys => obtain ⟨ad, h1, _⟩ := hR.cells 0 y rfl; cases h1
    subst hm0
    have hys : ys = [] := List.eq_nil_of_length_eq_zero hR.len
    subst hys
    have hkc : k ≤ c := by
      rcases hr.2 with ⟨h0, h2⟩ | ⟨g, cap, cur, hv, _, _, hnc, _⟩
      · simp at h0; omega
      · simp at hv; omega
    have hrow : rowR e sz (.slice p (k + 0) c) (k + 0) (xs ++ ([] : List α).flatMap enc) = rowR e sz (.slice p k c) k xs := by simp
    refine op_val (w' := w) (v := .slice p (k + 0) c) he hF ?_ fun a' hf => h a' w p c hf ?_ ⟨Kp.refl _ _, fun q hq => .inl (by rw [hrow] at hq; exact hq)⟩
    · have hrun := run_append_none (P := P) (w := w) (ty := ty) hu hi p k c c2 hkc
      simp [NOp.sem, Sem.run_bind, hrun, Result.andThen, Sem.run, pure]
    · rw [hrow]
      have : L.set j1 (rowR e sz (.slice p k c) k xs) = L := by
        obtain ⟨hl, he⟩ := List.getElem?_eq_some_iff.1 h1
        rw [← he, List.set_getElem_self]
      rw [this]; exact hO
/-- An empty slice of one's own. -/
theorem Own.emptyRow (hO : Own w0 M L w) (j : Nat) {b : Nat} {e : TypeId} (hj : L[j]? = some (cel b #[] e)) (sz : Nat) : Own w0 M (L.set j (rowR e sz (.slice (some ⟨b, 0, none⟩) 0 0) 0 [])) w := by
  have hg : w.heap[b]? = some (.cells #[] e (0, 0)) := hO.get j hj
  refine hO.upd j hj (Kp.refl _ _) ⟨by simp, .inr ⟨b, 0, #[], rfl, Nat.zero_le _, hg, Nat.le_refl _, Nat.zero_le _, by simp, by simp⟩⟩ fun k hk => .inl ?_
  simp only [rowR, Value.ownBlock, Option.some.injEq] at hk
  exact hk.symm
end
theorem raw_shl {t : TypeId} {x y : Operand} {k : Int} {S : World → Prop} (h0 : 0 ≤ k ∧ k ≤ 60) : (Req.raw (do eqGuard .shl t x y (.int .i64 1) (.int .i64 k); Go.binOp .shl t (.int .i64 1) (.int .i64 k)) (.int .i64 (2 ^ k.toNat))).ok P S := by
  intro w _
  have hk : ¬ k < 0 := by omega
  rw [Sem.run_bind, eqGuard_skip (by simp) (by simp)]
  have hp : (2 : Int) ^ k.toNat ≤ 2 ^ 60 := by
    have : (2 : Nat) ^ k.toNat ≤ 2 ^ 60 := Nat.pow_le_pow_right (by omega) (by omega)
    exact_mod_cast this
  have hp0 : (0 : Int) < 2 ^ k.toNat := Int.pow_pos (by omega)
  have e : IntKind.i64.wrap (1 * 2 ^ min k.toNat IntKind.i64.bits) = 2 ^ k.toNat := by
    rw [show min k.toNat IntKind.i64.bits = k.toNat from by simp only [IntKind.bits]; omega, Int.one_mul]
    have h60 : (2 : Int) ^ 60 = 1152921504606846976 := by decide
    exact wrap_in (by omega)
  simp only [Result.andThen_ok, Go.binOp, Op.shift, hk, if_false, e]
  rfl
theorem raw_tmod {t : TypeId} {x y : Operand} {m k : Int} {S : World → Prop} (h1 : 0 < k) : (Req.raw (do eqGuard .rem t x y (.int .i64 m) (.int .i64 k); Go.binOp .rem t (.int .i64 m) (.int .i64 k)) (.int .i64 (Int.tmod m k))).ok P S := by
  intro w _
  rw [Sem.run_bind, eqGuard_skip (by simp) (by simp)]
  have hk : k ≠ 0 := by omega
  simp [Result.andThen, Go.binOp, Op.intDiv, hk, Sem.run, pure]
theorem raw_eqB {t : TypeId} {x y : Operand} {S : World → Prop} (ht : P.underlying t = some .bool) (a b : Bool) : (Req.raw (do eqGuard .eql t x y (.bool a) (.bool b); Go.binOp .eql t (.bool a) (.bool b)) (.bool (a == b))).ok P S := by
  intro w _
  rw [Sem.run_bind, eqGuard_skip (by simp) (by simp)]
  simp only [Result.andThen_ok]
  exact run_eql_bool _ t a b ht
theorem raw_neB {t : TypeId} {x y : Operand} {S : World → Prop} (ht : P.underlying t = some .bool) (a b : Bool) : (Req.raw (do eqGuard .neq t x y (.bool a) (.bool b); Go.binOp .neq t (.bool a) (.bool b)) (.bool (a != b))).ok P S := by
  intro w _
  rw [Sem.run_bind, eqGuard_skip (by simp) (by simp)]
  simp only [Result.andThen_ok]
  exact run_neq_bool _ t a b ht
theorem raw_neBs {t : TypeId} {x y : Operand} {S : World → Prop} (ht : P.underlying t = some .bool) (a : Bool) : (Req.raw (do eqGuard .neq t x y (.bool a) (.bool a); Go.binOp .neq t (.bool a) (.bool a)) (.bool false)).ok P S := by
  have := raw_neB (x := x) (y := y) (S := S) ht a a
  rwa [bne_self_eq_false] at this
theorem raw_min {ts : Array TypeId} {ty : TypeId} {a b : Int} {S : World → Prop} : (Req.raw (Builtin.min_ ts ty #[.int .i64 a, .int .i64 b]) (.int .i64 (if b < a then b else a))).ok P S := by
  intro w _
  simp [Builtin.min_, Builtin.min2, Sem.run_bind, Sem.run, pure, Result.andThen]
theorem raw_max {ts : Array TypeId} {ty : TypeId} {a b : Int} {S : World → Prop} : (Req.raw (Builtin.max_ ts ty #[.int .i64 a, .int .i64 b]) (.int .i64 (if a < b then b else a))).ok P S := by
  intro w _
  simp [Builtin.max_, Builtin.max2, Sem.run_bind, Sem.run, pure, Result.andThen]
theorem ldR {α : Type} [Inhabited α] {enc : α → List Value} {sz n : Nat} {a : Option Addr} {xs : List α} {S : World → Prop} (H : ∀ x, S x → Rd enc sz x.heap.size x a n xs) {i : Int} (h0 : 0 ≤ i) (h1 : i < n) (off : Nat) {v : Value} (hv : (enc (xs.getD i.toNat default))[off]? = some v) : (Req.ld ((adr a sz i).add off) v).ok P S :=
  fun w hw => by
    obtain ⟨ad, _, _, _, hc⟩ := (H w hw).at_ h0 h1
    exact hc off v hv
theorem ldsR {α : Type} [Inhabited α] {enc : α → List Value} {sz n : Nat} {a : Option Addr} {xs : List α} {S : World → Prop} (H : ∀ x, S x → Rd enc sz x.heap.size x a n xs) {i : Int} (h0 : 0 ≤ i) (h1 : i < n) {vs : List Value} (hv : enc (xs.getD i.toNat default) = vs) : (Req.lds (adr a sz i) vs).ok P S := by
  intro w hw j v hj
  obtain ⟨ad, _, _, _, hc⟩ := (H w hw).at_ h0 h1
  exact hc j v (by rw [hv]; exact hj)
end Go.Proofs.Ytgihgcclabodbaa.DK
namespace Go.Proofs.Ytgihgcclabodbaa.DK
open Go
set_option linter.unusedSimpArgs false
set_option linter.unusedVariables false
variable {P : Program} {rn : Option Nat}
theorem wr_get : ∀ (vs : List Value) (off : Nat) (cs : Array Value) (j : Nat), off + vs.length ≤ cs.size → (wr cs off vs)[j]? = if off ≤ j ∧ j < off + vs.length then vs[j - off]? else cs[j]?
  | [], off, cs, j, _ => by
    rw [if_neg (by simp only [List.length_nil]; omega)]; rfl
  | v :: vs, off, cs, j, h => by
    simp only [List.length_cons] at h
    rw [wr, wr_get vs (off + 1) _ j (by simp; omega)]
    simp only [List.length_cons]
    by_cases h1 : j = off
    · subst h1
      rw [if_neg (by omega), if_pos (by omega), Nat.sub_self]
      simp [show j < cs.size by omega]
    · by_cases h2 : off + 1 ≤ j ∧ j < off + 1 + vs.length
      · rw [if_pos h2, if_pos (by omega), show j - off = (j - (off + 1)) + 1 from by omega, List.getElem?_cons_succ]
      · rw [if_neg h2, if_neg (by omega), Array.getElem?_setIfInBounds_ne (by omega)]
section
variable {n : Nat} {ds : List Deferred} {F : List (Nat × Value)} {a : Act} {ops : Array Oper} {ii : Nat} {K : Act → World → Prop} {w w0 : World} {M : Nat → Prop} {L : List Res}
end
end Go.Proofs.Ytgihgcclabodbaa.DK
namespace Go.Proofs.Ytgihgcclabodbaa.DK
open Go
set_option linter.unusedSimpArgs false
set_option linter.unusedVariables false
section
variable {P : Program}
def dropA (a : Option Addr) (l m sz : Nat) : Option Addr := if m = l then a else a.map (·.add (l * sz))
variable {α : Type} {enc : α → List Value} {sz bd : Nat} {w : World} {a : Option Addr} {n : Nat} {xs : List α}
theorem Rd.take (h : Rd enc sz bd w a n xs) {k : Nat} (hk : k ≤ n) : Rd enc sz bd w a k (xs.take k) :=
  ⟨by have := h.len; rw [List.length_take]; omega, by have := h.size; omega, fun i x hx => by
    rw [List.getElem?_take] at hx
    split at hx
    · exact h.cells i x hx
    · cases hx⟩
theorem Rd.drop (h : Rd enc sz bd w a n xs) {k c : Nat} (hk : k ≤ n) (hc : n ≤ c) : Rd enc sz bd w (dropA a k c sz) (n - k) (xs.drop k) :=
  ⟨by have := h.len; rw [List.length_drop]; omega, by have := h.size; omega, fun i x hx => by
    rw [List.getElem?_drop] at hx
    obtain ⟨ad, ha, hb, hv⟩ := h.cells (k + i) x hx
    have hlt : k + i < n := by rw [← h.len]; exact (List.getElem?_eq_some_iff.1 hx).1
    subst ha
    refine ⟨ad.add (k * sz), by unfold dropA; rw [if_neg (by omega)]; rfl, by rw [add_block]; exact hb, fun j v hj => ?_⟩
    have h1 := hv j v hj
    rw [Nat.add_mul] at h1
    by_cases h0 : i * sz = 0
    · rw [h0, Nat.add_zero] at h1
      rw [h0]
      have e : (ad.add (k * sz)).add 0 = ad.add (k * sz) := by simp [Addr.add]
      rw [e]; exact h1
    · rw [add_add _ _ _ h0]; exact h1⟩
end
end Go.Proofs.Ytgihgcclabodbaa.DK
namespace Go.Proofs.Ytgihgcclabodbaa.DK
open Go
set_option linter.unusedSimpArgs false
set_option linter.unusedVariables false
section
variable {P : Program} {w0 w : World} {M : Nat → Prop} {L : List Res}
end
end Go.Proofs.Ytgihgcclabodbaa.DK
namespace Go.Proofs.Ytgihgcclabodbaa.DK
open Go
section
variable {P : Program} {w0 w : World} {M : Nat → Prop} {L : List Res} {α : Type} {enc : α → List Value} {sz bd : Nat} {a : Option Addr} {n : Nat} {xs : List α}
end
end Go.Proofs.Ytgihgcclabodbaa.DK
namespace Go.Proofs.Ytgihgcclabodbaa.DK
open Go
section
variable {P : Program} {w0 w : World} {M : Nat → Prop} {L : List Res}
def nulAt (js : List Nat) : Nat → List Res → List Res
  | _, [] => []
  | i, r :: L => cond (js.elem i) nul r :: nulAt js (i + 1) L
/-- The blocks of some of them. -/
def selR (L : List Res) (js : List Nat) (k : Nat) : Prop := ∃ j, js.elem j = true ∧ ∃ r, L[j]? = some r ∧ r.fp k
theorem nulAt_get (js : List Nat) : ∀ (L : List Res) (i j : Nat), (nulAt js i L)[j]? = (L[j]?).map fun r => cond (js.elem (i + j)) nul r
  | [], i, j => by simp [nulAt]
  | r :: L, i, 0 => by simp [nulAt]
  | r :: L, i, j + 1 => by
    rw [nulAt, List.getElem?_cons_succ, nulAt_get js L (i + 1) j, List.getElem?_cons_succ, show i + 1 + j = i + (j + 1) from by omega]
theorem Own.butL (hO : Own w0 M L w) (js : List Nat) : ∀ x, Kp (selR L js) w x → Own w0 M (nulAt js 0 L) x := by
  intro x hx
  have hap := List.pairwise_iff_getElem.1 hO.apart
  have key : ∀ (i j : Nat) (r s : Res), L[i]? = some r → L[j]? = some s → i ≠ j → ∀ k, r.fp k → ¬ s.fp k := fun i j r s hi hj hne k a b => by
    obtain ⟨li, rfl⟩ := List.getElem?_eq_some_iff.1 hi
    obtain ⟨lj, rfl⟩ := List.getElem?_eq_some_iff.1 hj
    rcases Nat.lt_or_gt_of_ne hne with hlt | hlt
    · exact hap i j li lj hlt k a b
    · exact hap j i lj li hlt k b a
  have get : ∀ (j : Nat) (r : Res), (nulAt js 0 L)[j]? = some r → r = nul ∨ (js.elem j = false ∧ L[j]? = some r) := fun j r h => by
    rw [nulAt_get, Nat.zero_add] at h
    cases hL : L[j]? with
    | none => rw [hL] at h; cases h
    | some s =>
      rw [hL, Option.map_some, Option.some.injEq] at h
      cases he : js.elem j with
      | true => rw [he] at h; exact .inl h.symm
      | false => rw [he] at h; exact .inr ⟨rfl, by rw [← h]; rfl⟩
  refine ⟨hO.kp.trans' hx fun k hk hm => ?_, fun r hr => ?_, ?_, fun r hr k hk => ?_⟩
  · obtain ⟨j, _, r, hr, hf⟩ := hm
    rcases hO.home r (List.mem_of_getElem? hr) k hf with h | h
    · omega
    · exact h
  · obtain ⟨j, hj⟩ := List.mem_iff_getElem?.1 hr
    rcases get j r hj with rfl | ⟨h1, h2⟩
    · trivial
    · refine r.loc w x (fun k hk => hx.block k (r.lt w (hO.get j h2) k hk) ?_) (hO.get j h2)
      rintro ⟨i, hi, s, hs, hf⟩
      have hne : j ≠ i := fun e => by subst e; rw [h1] at hi; cases hi
      exact key j i r s h2 hs hne k hk hf
  · rw [List.pairwise_iff_getElem]
    intro i j hi hj hij k h1 h2
    rcases get i _ (List.getElem?_eq_getElem hi) with e | ⟨_, e1⟩
    · rw [e] at h1; exact h1
    · rcases get j _ (List.getElem?_eq_getElem hj) with e | ⟨_, e2⟩
      · rw [e] at h2; exact h2
      · exact key i j _ _ e1 e2 (by omega) k h1 h2
  · obtain ⟨j, hj⟩ := List.mem_iff_getElem?.1 hr
    rcases get j r hj with rfl | ⟨_, h2⟩
    · exact hk.elim
    · exact hO.home r (List.mem_of_getElem? h2) k hk
end
end Go.Proofs.Ytgihgcclabodbaa.DK
namespace Go.Proofs.Ytgihgcclabodbaa.DK
open Go
set_option linter.unusedSimpArgs false
set_option linter.unusedVariables false
variable {P : Program} {rn : Option Nat}
section
variable {n : Nat} {ds : List Deferred} {F : List (Nat × Value)} {a : Act} {ops : Array Oper} {i : Nat} {K : Act → World → Prop} {w w0 : World} {M : Nat → Prop} {L : List Res}
end
end Go.Proofs.Ytgihgcclabodbaa.DK
namespace Go.Proofs.Ytgihgcclabodbaa.DK
open Go
set_option linter.unusedSimpArgs false
set_option linter.unusedVariables false
/-- Short words for values. -/
abbrev iv (n : Int) : Value := .int .i64 n
abbrev pv (b : Nat) : Value := .pointer (some ⟨b, 0, none⟩)
abbrev rb (op : BinOp) (t : TypeId) (x y : Operand) (u v : Value) : Sem Value := do eqGuard op t x y u v; Go.binOp op t u v
section
variable {P : Program}
def mx (a b : Int) : Int := if a < b then b else a
def mn (a b : Int) : Int := if b < a then b else a
theorem raw_tquo {t : TypeId} {x y : Operand} {m k : Int} {S : World → Prop} (h : (-9223372036854775808 ≤ m ∧ m ≤ 9223372036854775807) ∧ 0 < k) : (Req.raw (do eqGuard .quo t x y (.int .i64 m) (.int .i64 k); Go.binOp .quo t (.int .i64 m) (.int .i64 k)) (.int .i64 (Int.tdiv m k))).ok P S := by
  intro w _
  rw [Sem.run_bind, eqGuard_skip (by simp) (by simp)]
  have hk : k ≠ 0 := by omega
  have hq : -9223372036854775808 ≤ m.tdiv k ∧ m.tdiv k ≤ 9223372036854775807 := by
    rcases Int.lt_or_le m 0 with h1 | h1
    · have e : m.tdiv k = -((-m) / k) := by
        rw [← Int.neg_neg m, Int.neg_tdiv, Int.tdiv_eq_ediv_of_nonneg (by omega), Int.neg_neg]
      have h2 : 0 ≤ (-m) / k := Int.ediv_nonneg (by omega) (by omega)
      have h3 : (-m) / k ≤ -m := Int.ediv_le_self _ (by omega)
      omega
    · have e : m.tdiv k = m / k := Int.tdiv_eq_ediv_of_nonneg h1
      have h2 : 0 ≤ m / k := Int.ediv_nonneg h1 (by omega)
      have h3 : m / k ≤ m := Int.ediv_le_self _ h1
      omega
  simp [Result.andThen, Go.binOp, Op.intDiv, hk, Sem.run, pure, wrap_in hq]
theorem raw_neg {m : Int} {S : World → Prop} (h : -9223372036854775807 ≤ m ∧ m ≤ 9223372036854775807) : (Req.raw (Op.unary .neg (.int .i64 m)) (.int .i64 (-m))).ok P S := by
  intro w _
  have e : IntKind.wrap .i64 (-m) = -m := wrap_in ⟨by omega, by omega⟩
  simp [Op.unary, Op.intArith, Sem.run, pure, e]
theorem raw_max2 {ts : Array TypeId} {ty : TypeId} {a b : Int} {S : World → Prop} : (Req.raw (Builtin.max_ ts ty #[.int .i64 a, .int .i64 b]) (.int .i64 (mx a b))).ok P S := raw_max
theorem raw_min2 {ts : Array TypeId} {ty : TypeId} {a b : Int} {S : World → Prop} : (Req.raw (Builtin.min_ ts ty #[.int .i64 a, .int .i64 b]) (.int .i64 (mn a b))).ok P S := raw_min
theorem raw_max4 {ts : Array TypeId} {ty : TypeId} {a b c d : Int} {S : World → Prop} : (Req.raw (Builtin.max_ ts ty #[.int .i64 a, .int .i64 b, .int .i64 c, .int .i64 d]) (.int .i64 (mx (mx (mx a b) c) d))).ok P S := by
  intro w _
  have h2 : ∀ u v : Int, Sem.run P (Builtin.max2 (.int .i64 u) (.int .i64 v)) w = .ok (.int .i64 (mx u v)) w := fun u v => by
    simp [Builtin.max2, mx, Sem.run, pure]
  simp [Builtin.max_, Sem.run_bind, Result.andThen, h2]
/-- A map that is only read. -/
def MapRo {α : Type} (bd b : Nat) (z : Value) (enc : α → Value) (S : Int × Int → α) (w : World) : Prop := (mapT b z enc S).ok w ∧ b < bd
section
variable {α : Type} {z : Value} {enc : α → Value} {S : Int × Int → α} {b bd : Nat} {w w' w0 : World} {M : Nat → Prop} {L : List Res} {t k e : TypeId}
theorem MapRo.kp (h : MapRo bd b z enc S w) (hk : Kp M w w') (hm : ∀ k, k < bd → ¬ M k) : MapRo bd b z enc S w' :=
  ⟨(mapT b z enc S).loc w w' (fun k hkk => hk.block k ((mapT b z enc S).lt w h.1 k hkk) (by have : k = b := hkk; subst this; exact hm _ h.2)) h.1, h.2⟩
theorem MapRo.ext (h : MapRo bd b z enc S w) (hk : Ext w w') : MapRo bd b z enc S w' := h.kp hk fun _ _ h => h
theorem MapRo.bd_le {bd' : Nat} (h : MapRo bd b z enc S w) (hb : bd ≤ bd') : MapRo bd' b z enc S w := ⟨h.1, Nat.lt_of_lt_of_le h.2 hb⟩
theorem lktR (ht : mapTy P t k e z) {U : World → Prop} (H : ∀ x, U x → Own w0 M L x) (h : MapRo bd b z enc S w0) (hm : ∀ k, k < bd → ¬ M k) (x : Int × Int) : (Req.raw (Instr.lookup t (.map (some b)) (slv x) false) (enc (S x))).ok P U := by
  intro w' hE
  obtain ⟨f, h1, h2⟩ := (h.kp (H w' hE).kp hm).1
  rw [← h2 x]
  exact lookup_mapS ht h1
theorem MapRo.of (hO : Own w0 M L w) (j : Nat) (hj : L[j]? = some (mapT b z enc S)) : MapRo w.heap.size b z enc S w :=
  ⟨hO.get j hj, (mapT b z enc S).lt w (hO.get j hj) b rfl⟩
end
end
end Go.Proofs.Ytgihgcclabodbaa.DK
namespace Go.Proofs.Ytgihgcclabodbaa.DK
open Go
set_option linter.unusedSimpArgs false
set_option linter.unusedVariables false
variable {P : Program} {rn : Option Nat}
theorem W_rangeX (xk : Nat) {g : Operand} {t : Tmp} {assign body : Code} {Q : Exit → Act → World → Prop} {a : Act} {w w0 : World} {n : Nat} {ds : List Deferred} {F : List (Nat × Value)} {M : Nat → Prop} {L : List Res} {tb : Tbl} {f : FuncId} {fst cap : Array Value} (ht : Tbl.ok P tb = true)
    (hF : Fr n ds F a) (hO : Own w0 M L w) (hfn : tb.fns.elem f = true) (hg : lkG [] F [] g = some (.func (.func f) fst cap))
    (h : ∀ fn w1 D r, r = loopR .ready none fn a.tmps #[t] assign body D → Own w0 M (L ++ [pt D (.deferred (some [])), pt (D + 1) (.loop r)]) w1 → Ext w w1 →
      Calls P f (fst ++ #[.func (.yield (D + 1)) #[] #[]] ++ cap) w1 fun e w2 => ∃ v, e = .returned v ∧ ∃ r, w2.heap[D + 1]? = some (.loop r) ∧ r.state ≠ .busy ∧
        ((r.pending = none ∧ ∀ a', Fr n (mk D :: ds) F a' → Q .normal a' (w2.putObj (D + 1) (.loop { r with state := .exhausted }))) ∨
         (r.pending = some (.exit xk) ∧ ∀ a', Fr n (mk D :: ds) F a' → Q (.exit xk) a' (w2.putObj (D + 1) (.loop { r with state := .exhausted }))))) :
    W none P (.rangeFunc g #[t] assign body) Q a w := by
  refine wpIn_rangeFunc (F := FW none) (n := 0) fun fn _ => ?_
  have hev : a.eval g = .func (.func f) fst cap := evOp hF hg
  obtain ⟨fnc, hfnc, hbody, hname⟩ := Tbl.fn_ok ht (List.elem_iff.1 hfn)
  let w1 := (w.alloc (.deferred (some []))).alloc (.loop (loopR .ready none fn a.tmps #[t] assign body w.heap.size))
  have hE : Ext w w1 := (Ext.alloc w _).trans (Ext.alloc _ _)
  have hO1 : Own w0 M (L ++ [pt w.heap.size (.deferred (some [])), pt (w.heap.size + 1) (.loop (loopR .ready none fn a.tmps #[t] assign body w.heap.size))]) w1 := by
    have h1 := hO.add (Ext.alloc w (.deferred (some []))) (pt_new w _) (fun k hk => by simp only [pt] at hk; omega)
    have h2 := h1.add (Ext.alloc _ (.loop (loopR .ready none fn a.tmps #[t] assign body w.heap.size))) (pt_new _ _) (fun k hk => by simp only [pt] at hk; omega)
    simpa using h2
  refine ⟨w.heap.size + 1, [mk w.heap.size], w1, { target := .fn (.func f) cap, args := fst ++ #[.func (.yield (w.heap.size + 1)) #[] #[]] }, w1, f, fst ++ #[.func (.yield (w.heap.size + 1)) #[] #[]] ++ cap, w1, run_enterLoop_outer fn a.tmps #[t] assign body, ?_, fun _ _ => trivial, ?_, FW_depth _ _, callsIn_FW.2 ?_⟩
  · have e0 : (#[.const (.func (.yield (w.heap.size + 1)) #[] #[])] : Array Operand).map a.eval = #[.func (.yield (w.heap.size + 1)) #[] #[]] := by simp [Act.eval]
    simp only [resolve, rangeCall, hev, Deferred.ofValue, e0]
    rfl
  · simp only [invoke]
    exact run_callFunc hfnc hbody hname _ _
  · refine (h fn w1 w.heap.size _ rfl hO1 hE).mono fun e w2 ⟨v, he, r, hr, hs, hk⟩ => ?_
    subst he
    refine ⟨r.pending, _, run_endLoop hr hs, ?_⟩
    have hf' : Fr n (mk w.heap.size :: ds) F { a with defers := [mk w.heap.size] ++ a.defers } := ⟨hF.size, by simp [hF.defers], hF.get⟩
    rcases hk with ⟨hp, hk⟩ | ⟨hp, hk⟩
    · have h1 := hk _ hf'; rw [hp] at h1; rw [hp]; exact h1
    · have h1 := hk _ hf'; rw [hp] at h1; rw [hp]; exact W_exit h1
theorem round_exit {l xk : Nat} {R : Bool → World → Prop} {a : Act} {w w' : World} (he : (Instr.endRound l (some (.exit xk))).run P w = .ok (.bool false) w') (hR : R false w') : roundPost P l (fun e w' => ∃ b, e = .returned (.bool b) ∧ R b w') (.exit xk) a w := ⟨_, w', he, false, rfl, hR⟩
end Go.Proofs.Ytgihgcclabodbaa.DK
namespace Go.Proofs.Ytgihgcclabodbaa.DK
open Go
set_option linter.unusedVariables false
def encI (x : Int) : List Value := [.int .i64 x]
def inB (n lo hi : Int) : Bool := cond (decide (lo ≤ n)) (decide (n ≤ hi)) false
theorem inB_iff {n lo hi : Int} : inB n lo hi = true ↔ lo ≤ n ∧ n ≤ hi := by unfold inB; by_cases h : lo ≤ n <;> simp [h]
theorem take_all {α : Type} [Inhabited α] (p : α → Bool) {xs : List α} {k : Nat} (h : k < xs.length) : (xs.take (k + 1)).all p = ((xs.take k).all p && p (xs.getD k default)) := by
  have : xs.getD k default = xs[k] := by simp [List.getD_eq_getElem?_getD, h]
  rw [List.take_succ_eq_append_getElem h, List.all_append, this]
  simp
theorem getD_mem {α : Type} [Inhabited α] {xs : List α} {i : Nat} (h : i < xs.length) : xs.getD i default ∈ xs := by
  have : xs.getD i default = xs[i] := by simp [List.getD_eq_getElem?_getD, h]
  rw [this]; exact List.getElem_mem h
theorem drop_getD {α : Type} [Inhabited α] {xs : List α} {i : Nat} (h : i < xs.length) : xs.drop i = xs.getD i default :: xs.drop (i + 1) := by
  have : xs.getD i default = xs[i] := by simp [List.getD_eq_getElem?_getD, h]
  rw [this]; exact List.drop_eq_getElem_cons h
def bitB (fi kd : Int) : Bool := (bits .and .i64 (Int.fdiv fi (2 ^ (min kd.toNat 64))) 1 == 1)
def risF (ln : Int) : Int → List Int → Bool
  | _, [] => true
  | last, i :: r => cond (inB i (last + 1) (ln - 1)) (risF ln i r) false
section
variable {ln last : Int} {xs : List Int} {k : Nat}
theorem risF_step (hk : k < xs.length) (h : inB (xs.getD k default) (last + 1) (ln - 1) = true) : risF ln last (xs.drop k) = risF ln (xs.getD k default) (xs.drop (k + 1)) := by rw [drop_getD hk, risF, h]; rfl
theorem risF_bad (hk : k < xs.length) (h : inB (xs.getD k default) (last + 1) (ln - 1) = false) : risF ln last (xs.drop k) = false := by rw [drop_getD hk, risF, h]; rfl
end
theorem risC {below last : Int} {xs : List Int} {k : Nat} (h0 : -1 ≤ last) (h : (k = 0 ∧ last = -1) ∨ (0 < k ∧ last = xs.getD ((k : Int) - 1).toNat default)) :
    (cond (!(inB (xs.getD k default) 0 (below - 1))) true (cond (decide ((k : Int) > 0)) (decide (xs.getD k default ≤ xs.getD ((k : Int) - 1).toNat default)) false)) = !(inB (xs.getD k default) (last + 1) (below - 1)) := by
  generalize xs.getD k default = x at *
  rcases h with ⟨rfl, rfl⟩ | ⟨h1, h2⟩
  · cases hb : inB x 0 (below - 1) with
    | true => rw [show inB x (-1 + 1) (below - 1) = true from hb]; rfl
    | false => rw [show inB x (-1 + 1) (below - 1) = false from hb]; rfl
  · rw [← h2, decide_eq_true (show (k : Int) > 0 by omega)]
    cases hb : inB x 0 (below - 1) with
    | false =>
      cases hc : inB x (last + 1) (below - 1) with
      | false => rfl
      | true => have := inB_iff.1 hc; rw [inB_iff.2 (by omega)] at hb; cases hb
    | true =>
      have h3 := inB_iff.1 hb
      by_cases h4 : x ≤ last
      · rw [decide_eq_true h4]
        cases hc : inB x (last + 1) (below - 1) with
        | false => rfl
        | true => have := inB_iff.1 hc; omega
      · rw [decide_eq_false h4, inB_iff.2 (by omega)]; rfl
theorem ris_mem {n : Int} : ∀ (xs : List Int) (last : Int), risF n last xs = true → ∀ x ∈ xs, last < x ∧ x < n
  | i :: r, last, h, x, hx => by
    cases hb : inB i (last + 1) (n - 1) with
    | false => rw [risF, hb] at h; cases h
    | true =>
      rw [risF, hb] at h
      have h1 := inB_iff.1 hb
      rcases List.mem_cons.1 hx with rfl | hx
      · omega
      · have := ris_mem r i h x hx; omega
theorem ris_cons {n last i : Int} {r : List Int} : risF n last (i :: r) = true ↔ (last < i ∧ i < n) ∧ risF n i r = true := by
  rw [risF]
  cases hb : inB i (last + 1) (n - 1) with
  | false => exact ⟨fun h => (by cases h), fun h => by rw [inB_iff.2 (by omega)] at hb; cases hb⟩
  | true => have := inB_iff.1 hb; exact ⟨fun h => ⟨by omega, h⟩, fun h => h.2⟩
theorem ris_range {n : Nat} (A : Nat → Bool) : ∀ (k a : Nat), a + k = n → risF n ((a : Int) - 1) (((List.range' a k).filter A).map fun (i : Nat) => (i : Int)) = true
  | 0, a, _ => rfl
  | k + 1, a, h => by
    have ih := ris_range (n := n) A k (a + 1) (by omega)
    rw [show ((a + 1 : Nat) : Int) - 1 = (a : Int) from by omega] at ih
    rw [List.range'_succ]
    cases hA : A a with
    | true =>
      rw [List.filter_cons_of_pos (by simp [hA]), List.map_cons]
      exact ris_cons.2 ⟨by omega, ih⟩
    | false =>
      rw [List.filter_cons_of_neg (by simp [hA])]
      generalize (((List.range' (a + 1) k).filter A).map fun (i : Nat) => (i : Int)) = xs at ih
      cases xs with
      | nil => rfl
      | cons x r =>
        obtain ⟨h1, h2⟩ := ris_cons.1 ih
        exact ris_cons.2 ⟨by omega, h2⟩
def lotsL (n : Nat) (A : Nat → Bool) : List Int := ((List.range n).filter A).map fun (i : Nat) => (i : Int)
theorem lotsL_ris (n : Nat) (A : Nat → Bool) : risF n (-1) (lotsL n A) = true := by
  have := ris_range (n := n) A n 0 (by omega)
  unfold lotsL
  rw [List.range_eq_range']
  exact this
theorem lotsL_len (n : Nat) (A : Nat → Bool) : (lotsL n A).length ≤ n := by
  unfold lotsL
  rw [List.length_map]
  exact Nat.le_trans (List.length_filter_le _ _) (by simp)
theorem lotsL_congr {n : Nat} {A B : Nat → Bool} (h : ∀ i, i < n → A i = B i) : lotsL n A = lotsL n B := by
  unfold lotsL
  congr 1
  exact List.filter_congr fun i hi => h i (List.mem_range.1 hi)
def memL (n : Nat) (set : Int) : List Int := lotsL n fun k => bitB set (k : Int)
theorem memL_ris (n : Nat) (set : Int) : risF n (-1) (memL n set) = true := lotsL_ris _ _
theorem memL_len (n : Nat) (set : Int) : (memL n set).length ≤ n := lotsL_len _ _
theorem memL_yes {k : Nat} {set : Int} (h : bitB set k = true) : memL (k + 1) set = memL k set ++ [(k : Int)] := by
  unfold memL lotsL
  rw [List.range_succ, List.filter_append, List.map_append, List.filter_cons_of_pos (p := fun k : Nat => bitB set (k : Int)) h]
  rfl
theorem memL_no {k : Nat} {set : Int} (h : bitB set k = false) : memL (k + 1) set = memL k set := by
  unfold memL lotsL
  rw [List.range_succ, List.filter_append, List.map_append, List.filter_cons_of_neg (p := fun k : Nat => bitB set (k : Int)) (by simp only [h]; simp)]
  simp
theorem memL_in {n : Nat} {set : Int} : ∀ x ∈ memL n set, 0 ≤ x ∧ x < (n : Int) := fun x hx => by
  have := ris_mem _ _ (memL_ris n set) x hx
  omega
def befL : List Int → List Int → Bool
  | [], [] => false
  | [], _ :: _ => true
  | _ :: _, [] => false
  | x :: xs, y :: ys => cond (decide (x = y)) (befL xs ys) (decide (x < y))
theorem befL_irr : ∀ xs, befL xs xs = false
  | [] => rfl
  | x :: xs => by rw [befL]; simp [befL_irr xs]
theorem befL_trans : ∀ (xs ys zs : List Int), befL xs ys = true → befL ys zs = true → befL xs zs = true
  | [], [], _, h, _ => by simp [befL] at h
  | [], y :: ys, [], _, h => by simp [befL] at h
  | [], y :: ys, z :: zs, _, _ => rfl
  | x :: xs, [], _, h, _ => by simp [befL] at h
  | x :: xs, y :: ys, [], _, h => by simp [befL] at h
  | x :: xs, y :: ys, z :: zs, h1, h2 => by
    rw [befL] at h1 h2 ⊢
    by_cases e1 : x = y
    · subst e1
      by_cases e2 : x = z
      · subst e2
        simp only [decide_true, cond_true] at h1 h2 ⊢
        exact befL_trans xs ys zs h1 h2
      · rw [decide_eq_false e2] at h2 ⊢; exact h2
    · rw [decide_eq_false e1] at h1
      simp only [cond_false, decide_eq_true_eq] at h1
      by_cases e2 : y = z
      · subst e2; rw [decide_eq_false e1]; simpa using h1
      · rw [decide_eq_false e2] at h2
        simp only [cond_false, decide_eq_true_eq] at h2
        rw [decide_eq_false (show ¬ x = z by omega)]; simp; omega
theorem befL_total : ∀ (xs ys : List Int), befL xs ys = true ∨ xs = ys ∨ befL ys xs = true
  | [], [] => .inr (.inl rfl)
  | [], _ :: _ => .inl rfl
  | _ :: _, [] => .inr (.inr rfl)
  | x :: xs, y :: ys => by
    rw [befL, befL]
    by_cases e : x = y
    · subst e
      rcases befL_total xs ys with h | h | h
      · left; simpa using h
      · right; left; rw [h]
      · right; right; simpa using h
    · rw [decide_eq_false e, decide_eq_false (show ¬ y = x from fun h => e h.symm)]
      simp only [cond_false, decide_eq_true_eq]
      rcases Int.lt_trichotomy x y with h | h | h
      · exact .inl h
      · exact absurd h e
      · exact .inr (.inr h)
theorem befL_drop {xs ys : List Int} {k : Nat} (h1 : k < xs.length) (h2 : k < ys.length) (e : (xs.getD k default != ys.getD k default) = false) : befL (xs.drop (k + 1)) (ys.drop (k + 1)) = befL (xs.drop k) (ys.drop k) := by
  rw [drop_getD h1, drop_getD h2, befL, decide_eq_true (by simpa using e)]; rfl
theorem befL_diff {xs ys : List Int} {k : Nat} (h1 : k < xs.length) (h2 : k < ys.length) (e : (xs.getD k default != ys.getD k default) = true) : befL (xs.drop k) (ys.drop k) = decide (xs.getD k default < ys.getD k default) := by
  rw [drop_getD h1, drop_getD h2, befL, decide_eq_false (by simpa using e)]; rfl
theorem befL_end {xs ys : List Int} {k : Nat} (hk : k ≤ xs.length ∧ k ≤ ys.length) (h : ¬ (k < xs.length ∧ k < ys.length)) : befL (xs.drop k) (ys.drop k) = decide ((xs.length : Int) < ys.length) := by
  by_cases h1 : k < xs.length
  · have h2 : ys.length = k := by omega
    rw [drop_getD h1, List.drop_of_length_le (show ys.length ≤ k by omega), decide_eq_false (by omega)]; rfl
  · rw [List.drop_of_length_le (show xs.length ≤ k by omega)]
    by_cases h2 : k < ys.length
    · rw [drop_getD h2, decide_eq_true (by omega)]; rfl
    · rw [List.drop_of_length_le (show ys.length ≤ k by omega), decide_eq_false (by omega)]; rfl
theorem any_take {α : Type} [Inhabited α] {xs : List α} (g : α → Bool) {k : Nat} (h : k < xs.length) : (xs.take (k + 1)).any g = ((xs.take k).any g || g (xs.getD k default)) := by
  have e : xs.getD k default = xs[k] := by simp [List.getD_eq_getElem?_getD, h]
  rw [List.take_succ_eq_append_getElem h, List.any_append, e]
  simp
theorem tmod_neg {n b : Int} (hb : 0 < b) (h : Int.tmod n b < 0) : Int.tmod n b + b = n % b := by
  have h1 := Int.emod_nonneg n (show b ≠ 0 by omega); have h2 := Int.emod_lt_of_pos n hb
  rw [Int.tmod_eq_emod] at h ⊢
  split at h <;> rename_i hc
  · omega
  · rw [if_neg hc]; omega
theorem tmod_nn {n b : Int} (hb : 0 < b) (h : ¬ Int.tmod n b < 0) : Int.tmod n b = n % b := by
  have h1 := Int.emod_nonneg n (show b ≠ 0 by omega); have h2 := Int.emod_lt_of_pos n hb
  rw [Int.tmod_eq_emod] at h ⊢
  split at h <;> rename_i hc
  · rw [if_pos hc]; omega
  · omega
theorem tmod_bd {n b : Int} (hb : 0 < b) : -b < Int.tmod n b ∧ Int.tmod n b < b := by
  have h1 := Int.emod_nonneg n (show b ≠ 0 by omega); have h2 := Int.emod_lt_of_pos n hb
  rw [Int.tmod_eq_emod]
  split <;> omega
def pickI (bits : List Int) (h : Int) : Int := cond ((bits.length : Int) == 0) 0 (bits.getD (h % (bits.length : Int)).toNat default)
end Go.Proofs.Ytgihgcclabodbaa.DK
namespace Go.Proofs.Ytgihgcclabodbaa.DK
open Go
set_option linter.unusedSimpArgs false
set_option linter.unusedVariables false
section
variable {P : Program} {rn : Option Nat} {n0 : Nat} {ds : List Deferred} {F : List (Nat × Value)} {a : Act} {ops : Array Oper} {k : Nat} {K : Act → World → Prop} {w w0 : World} {M : Nat → Prop} {L : List Res}
def flat (G : Nat → Nat → Int) : Nat → Int := fun i => G (i / 80) (i % 80)
def updr (G : Nat → Nat → Int) (h : Nat) (g : Nat → Int) : Nat → Nat → Int := fun i => if i = h then g else G i
def upd2 (G : Nat → Nat → Int) (h c : Nat) (x : Int) : Nat → Nat → Int := updr G h (updf (G h) c x)
theorem flat_at (G : Nat → Nat → Int) {h c : Nat} (hc : c < 80) : flat G (h * 80 + c) = G h c := by
  unfold flat
  rw [show (h * 80 + c) / 80 = h by omega, show (h * 80 + c) % 80 = c by omega]
theorem flat_upd2 (G : Nat → Nat → Int) {h c : Nat} (hc : c < 80) (x : Int) : updf (flat G) (h * 80 + c) x = flat (upd2 G h c x) := by
  funext i
  simp only [updf, flat, upd2, updr]
  by_cases e : i = h * 80 + c
  · subst e; rw [if_pos rfl, if_pos (show (h * 80 + c) / 80 = h by omega)]; show x = if (h * 80 + c) % 80 = c then x else _; rw [if_pos (by omega)]
  · rw [if_neg e]
    by_cases e2 : i / 80 = h
    · rw [if_pos e2]; show _ = if i % 80 = c then x else G h (i % 80); rw [if_neg (by omega), e2]
    · rw [if_neg e2]
theorem ldM {S : World → Prop} (H : ∀ x, S x → Own w0 M L x) (j : Nat) {b N : Nat} {G : Nat → Nat → Int} {t : TypeId} (hj : L[j]? = some (cel b (arrL (N * 80) (flat G)).toArray t)) {h c : Int} (h0 : 0 ≤ h) (h1 : h < N) (c0 : 0 ≤ c) (c1 : c < 80) :
    (Req.ld (((⟨b, 0, none⟩ : Addr).add (h.toNat * 80)).add (c.toNat * 1)) (.int .i64 (G h.toNat c.toNat))).ok P S := by
  intro w' hE
  rw [add_own, add_own]
  refine (H w' hE).cell j hj _ ?_
  have := arrL_at (n := N * 80) (f := flat G) (i := h.toNat * 80 + c.toNat) (by omega)
  rw [flat_at G (by omega)] at this
  rw [show 0 + h.toNat * 80 + c.toNat * 1 = h.toNat * 80 + c.toNat by omega]
  exact this
theorem rdM {enc : Int → List Value} (henc : ∀ x, enc x = [.int .i64 x]) (hO : Own w0 M L w) (j : Nat) {b N : Nat} {G : Nat → Nat → Int} {t : TypeId} (hj : L[j]? = some (cel b (arrL (N * 80) (flat G)).toArray t)) {h : Int} (h0 : 0 ≤ h) (h1 : h < N) :
    Rd enc 1 w.heap.size w (some ((⟨b, 0, none⟩ : Addr).add (h.toNat * 80))) 80 ((List.range 80).map (G h.toNat)) := by
  refine ⟨by simp, by omega, fun i x hx => ⟨_, rfl, by rw [add_own]; exact obj_lt (hO.get j hj), fun q v hv => ?_⟩⟩
  simp only [List.getElem?_map, Option.map_eq_some_iff] at hx
  obtain ⟨m, hm, rfl⟩ := hx
  obtain ⟨hi, rfl⟩ := List.getElem?_eq_some_iff.1 hm
  simp only [List.length_range] at hi
  simp only [List.getElem_range] at hv
  rw [henc] at hv
  cases q with
  | succ q => simp at hv
  | zero =>
    simp only [List.getElem?_cons_zero, Option.some.injEq] at hv
    subst hv
    rw [add_own, add_own, add_own]
    refine hO.cell j hj _ ?_
    have := arrL_at (n := N * 80) (f := flat G) (i := h.toNat * 80 + i) (by omega)
    rw [flat_at G (by omega)] at this
    rw [show 0 + h.toNat * 80 + i * 1 + 0 = h.toNat * 80 + i by omega]
    exact this
theorem op_storeM {t tc : TypeId} {x : Int} {b N : Nat} {G : Nat → Nat → Int} {h c : Int} (hF : Fr n0 ds F a) (hO : Own w0 M L w)
    (he : dec n0 ops k F = some (.store t (.pointer (some (((⟨b, 0, none⟩ : Addr).add (h.toNat * 80)).add (c.toNat * 1)))) (.int .i64 x))) (j : Nat) (hj : L[j]? = some (cel b (arrL (N * 80) (flat G)).toArray tc))
    (h0 : 0 ≤ h) (h1 : h < N) (c0 : 0 ≤ c) (c1 : c < 80) (hsz : ((P.info? t).map fun i => i.size) = some 1)
    (hk : ∀ a' w', Fr n0 ds F a' → Own w0 M (L.set j (cel b (arrL (N * 80) (flat (upd2 G h.toNat c.toNat x))).toArray tc)) w' → Kp (· = b) w w' → K a' w') : opX P rn ops k K a w := by
  have e : (((⟨b, 0, none⟩ : Addr).add (h.toNat * 80)).add (c.toNat * 1)) = (⟨b, 0, none⟩ : Addr).add (((h.toNat * 80 + c.toNat : Nat) : Int).toNat * 1) := by
    rw [add_own, add_own, add_own]
    congr 1
    omega
  rw [e] at he
  refine op_storef (pre := []) (post := []) (n := N * 80) (f := flat G) hF hO he j hj rfl (by omega) (by omega) hsz fun a' w' hf ho hkp => hk a' w' hf ?_ hkp
  rw [← flat_upd2 G (show c.toNat < 80 by omega) x]
  exact ho
theorem op_storeMR {t tc : TypeId} {g : Nat → Int} {b N : Nat} {G : Nat → Nat → Int} {h : Int} (hF : Fr n0 ds F a) (hO : Own w0 M L w)
    (he : dec n0 ops k F = some (.store t (.pointer (some ((⟨b, 0, none⟩ : Addr).add (h.toNat * 80)))) (.agg (arrL 80 g).toArray))) (j : Nat) (hj : L[j]? = some (cel b (arrL (N * 80) (flat G)).toArray tc))
    (h0 : 0 ≤ h) (h1 : h < N) (hsz : ((P.info? t).map fun i => i.size) = some 80)
    (hk : ∀ a' w', Fr n0 ds F a' → Own w0 M (L.set j (cel b (arrL (N * 80) (flat (updr G h.toNat g))).toArray tc)) w' → Kp (· = b) w w' → K a' w') : opX P rn ops k K a w := by
  have hl80 : ∀ f : Nat → Int, (arrL 80 f).length = 80 := fun f => by simp [arrL, fcells_length]
  have hlN : ∀ f : Nat → Int, (arrL (N * 80) f).length = N * 80 := fun f => by simp [arrL, fcells_length]
  refine op_store (off := 0 + h.toNat * 80) (sz := 80) hF hO he j hj (add_own ..) hsz ?_ ?_ hk
  · simp only [Value.cells, Bool.and_eq_true, List.size_toArray, hl80, hlN]
    refine ⟨⟨by rfl, by rw [Nat.ble_eq]; omega⟩, by rfl⟩
  · simp only [Value.cells, List.toList_toArray]
    apply Array.ext_getElem?
    intro i
    rw [wr_get _ _ _ _ (by rw [hl80]; simp only [List.size_toArray, hlN]; omega), hl80]
    by_cases hi : i < N * 80
    · by_cases hc : 0 + h.toNat * 80 ≤ i ∧ i < 0 + h.toNat * 80 + 80
      · rw [if_pos hc, arrL_at hi]
        simp only [flat, updr]
        rw [if_pos (by omega)]
        have := arrL_at (n := 80) (f := g) (i := i - (0 + h.toNat * 80)) (by omega)
        rw [List.getElem?_toArray] at this
        rw [this, show i - (0 + h.toNat * 80) = i % 80 by omega]
      · rw [if_neg hc, arrL_at hi, arrL_at hi]
        simp only [flat, updr]
        rw [if_neg (by omega)]
    · rw [if_neg (by omega), List.getElem?_toArray, List.getElem?_toArray, List.getElem?_eq_none (by rw [hlN]; omega), List.getElem?_eq_none (by rw [hlN]; omega)]
theorem arrL_congr {n : Nat} {f g : Nat → Int} (h : ∀ i, i < n → f i = g i) : arrL n f = arrL n g := by
  unfold arrL fcells
  congr 2
  apply List.map_congr_left
  intro i hi
  rw [h i (List.mem_range.1 hi)]
theorem made80 (k : Nat) : madeCells (arrL 80 fun _ => 0).toArray (k * 80) = (arrL (k * 80) (flat fun _ _ => 0)).toArray := by
  have hl80 : (arrL 80 fun _ => 0).length = 80 := by simp [arrL, fcells_length]
  apply Array.ext_getElem?
  intro i
  by_cases hi : i < k * 80
  · rw [arrL_at hi]
    have h1 := arrL_at (n := 80) (f := fun _ => 0) (i := i % 80) (by omega)
    rw [List.getElem?_toArray] at h1
    simp only [madeCells, List.size_toArray, hl80]
    simp [hi, h1, flat]
  · rw [Array.getElem?_eq_none (by rw [size_madeCells]; omega), Array.getElem?_eq_none (by simp [arrL, fcells_length]; omega)]
theorem op_mslM {t e : TypeId} {d N : Nat} (hF : Fr n0 ds F a) (hO : Own w0 M L w) (he : dec n0 ops k F = some (.msl t (.int .i64 (N : Int)) (.int .i64 (N : Int)) d)) (hu : P.underlying t = some (.slice e))
    (hi : ((P.info? e).map fun i => (i.size, i.zero)) = some (80, some (.agg (arrL 80 fun _ => 0).toArray))) (hby : ((P.info? e).map fun i => Nat.ble i.bytes 1000) = some true) (hk : N ≤ 1000000)
    (h : ∀ a' w' b, Fr n0 ds ((d, .slice (some ⟨b, 0, none⟩) N N) :: F) a' → Own w0 M (L ++ [cel b (arrL (N * 80) (flat fun _ _ => 0)).toArray e]) w' → Ext w w' ∧ w.heap.size ≤ b → K a' w') : opX P rn ops k K a w := by
  cases hinf : P.info? e with
  | none => rw [hinf] at hi; cases hi
  | some inf =>
    rw [hinf] at hi hby
    simp only [Option.map_some, Option.some.injEq, Prod.mk.injEq] at hi hby
    have hb := Nat.le_of_ble_eq_true hby
    have hmax := maxLen_ge
    obtain ⟨w', hrun, hown, hgr⟩ := run_make_full (P := P) w 0 t e inf (.agg (arrL 80 fun _ => 0).toArray) 80 hu hinf hi.2 hi.1 .i64 .i64 N (Nat.le_trans (Nat.mul_le_mul hb hk) (by omega)) (by omega) (Nat.zero_le _)
    refine op_val (w' := w') (v := .slice (some ⟨w.heap.size, 0, none⟩) N N) he hF ?_ fun a' hf => h a' w' _ hf (hO.add (Ext.of_grown hgr) (r := cel w.heap.size (arrL (N * 80) (flat fun _ _ => 0)).toArray e) ?_ fun m hm => ?_) ⟨Ext.of_grown hgr, Nat.le_refl _⟩
    · simp [NOp.sem, Sem.run_bind, hrun, Result.andThen, Sem.run, pure]
    · rcases hown.2 with ⟨hv, _⟩ | ⟨g, cap, cur, hv, _, hg, _, _, hcs, htake⟩
      · cases hv
      · simp only [Value.slice.injEq, Option.some.injEq, Addr.mk.injEq, true_and, and_true] at hv
        obtain ⟨rfl, rfl⟩ := hv
        simp only [pt]
        rw [hg]
        congr 2
        apply Array.ext'
        have : cur.toList.take (N * 80) = cur.toList := List.take_of_length_le (by simp [hcs])
        rw [this] at htake
        rw [htake]
        simp only [Value.cells]
        rw [made80]
    · simp only [pt] at hm; omega
theorem raw_ptrNil {t : TypeId} {x y : Operand} {S : World → Prop} (ht : P.underlying t = some (.pointer (P.pointee t))) (p : Option Addr) : (Req.raw (do eqGuard .eql t x y (.pointer p) (.pointer none); Go.binOp .eql t (.pointer p) (.pointer none)) (.bool p.isNone)).ok P S := by
  intro w _
  rw [Sem.run_bind, eqGuard_skip (by simp) (by simp)]
  have := run_eql_pointer_nil (P := P) (w := w) t p ht
  simpa [Result.andThen] using this
theorem raw_nilCheck {q : Addr} {S : World → Prop} : (Req.raw (pure (.pointer (some q))) (.pointer (some q))).ok P S := by
  intro w _
  simp [Sem.run, pure]
end
end Go.Proofs.Ytgihgcclabodbaa.DK
namespace Go.Proofs.Ytgihgcclabodbaa.DK
open Go
set_option linter.unusedVariables false
section
variable {P : Program} {rn : Option Nat} {n0 : Nat} {ds : List Deferred} {F : List (Nat × Value)} {a : Act} {ops : Array Oper} {k : Nat} {K : Act → World → Prop} {w w0 : World} {M : Nat → Prop} {L : List Res}
theorem op_mslMh {t e : TypeId} {d N : Nat} {m : Int} (hm : m = (N : Int)) (hF : Fr n0 ds F a) (hO : Own w0 M L w) (he : dec n0 ops k F = some (.msl t (.int .i64 m) (.int .i64 m) d)) (hu : P.underlying t = some (.slice e))
    (hi : ((P.info? e).map fun i => (i.size, i.zero)) = some (80, some (.agg (arrL 80 fun _ => 0).toArray))) (hby : ((P.info? e).map fun i => Nat.ble i.bytes 1000) = some true) (hk : N ≤ 1000000)
    (h : ∀ a' w' b, Fr n0 ds ((d, .slice (some ⟨b, 0, none⟩) N N) :: F) a' → Own w0 M (L ++ [cel b (arrL (N * 80) (flat fun _ _ => 0)).toArray e]) w' → Ext w w' ∧ w.heap.size ≤ b → K a' w') : opX P rn ops k K a w := by
  subst hm
  exact op_mslM hF hO he hu hi hby hk h
end
end Go.Proofs.Ytgihgcclabodbaa.DK
namespace Go.Proofs.Ytgihgcclabodbaa.DK
open Go
set_option linter.unusedVariables false
section
variable {P : Program} {rn : Option Nat} {w w0 : World} {M : Nat → Prop} {L : List Res} {b N : Nat} {G : Nat → Nat → Int}
theorem mat_cell (h : Ro b (arrL (N * 80) (flat G)) w) {i c : Nat} (hi : i < N) (hc : c < 80) : w.cell? ⟨b, i * 80 + c, none⟩ = some (.int .i64 (G i c)) := by
  refine h _ _ ?_
  have := arrL_at (n := N * 80) (f := flat G) (i := i * 80 + c) (by omega)
  rw [flat_at G hc, List.getElem?_toArray] at this
  exact this
theorem ldMr {S : World → Prop} (H : ∀ x, S x → Own w0 M L x) (hr : Ro b (arrL (N * 80) (flat G)) w0) (hm : ¬ M b) {h c : Int} (h0 : 0 ≤ h) (h1 : h < N) (c0 : 0 ≤ c) (c1 : c < 80) :
    (Req.ld (((⟨b, 0, none⟩ : Addr).add (h.toNat * 80)).add (c.toNat * 1)) (.int .i64 (G h.toNat c.toNat))).ok P S := by
  intro w' hE
  rw [add_own, add_own, show 0 + h.toNat * 80 + c.toNat * 1 = h.toNat * 80 + c.toNat by omega]
  exact mat_cell (hr.kp (H w' hE).kp hm) (by omega) (by omega)
theorem ldsMr {S : World → Prop} (H : ∀ x, S x → Own w0 M L x) (hr : Ro b (arrL (N * 80) (flat G)) w0) (hm : ¬ M b) {h : Int} (h0 : 0 ≤ h) (h1 : h < N) :
    (Req.lds ((⟨b, 0, none⟩ : Addr).add (h.toNat * 80)) (arrL 80 (G h.toNat))).ok P S := by
  intro w' hE q v hq
  have hq80 : q < 80 := by
    have := (List.getElem?_eq_some_iff.1 hq).1
    simpa [arrL, fcells_length] using this
  have h2 := mat_cell (hr.kp (H w' hE).kp hm) (i := h.toNat) (c := q) (by omega) hq80
  have h3 := arrL_at (n := 80) (f := G h.toNat) (i := q) hq80
  rw [List.getElem?_toArray, hq] at h3
  injection h3 with h3
  rw [h3, add_own, add_own, Nat.zero_add]
  exact h2
theorem rdMr {enc : Int → List Value} (henc : ∀ x, enc x = [.int .i64 x]) (hr : Ro b (arrL (N * 80) (flat G)) w) {h : Int} (h0 : 0 ≤ h) (h1 : h < N) :
    Rd enc 1 w.heap.size w (some ((⟨b, 0, none⟩ : Addr).add (h.toNat * 80))) 80 ((List.range 80).map (G h.toNat)) := by
  have hb : b < w.heap.size := block_lt (mat_cell hr (i := h.toNat) (c := 0) (by omega) (by omega))
  refine ⟨by simp, by omega, fun i x hx => ⟨_, rfl, by rw [add_own]; exact hb, fun q v hv => ?_⟩⟩
  simp only [List.getElem?_map, Option.map_eq_some_iff] at hx
  obtain ⟨m, hm, rfl⟩ := hx
  obtain ⟨hi, rfl⟩ := List.getElem?_eq_some_iff.1 hm
  simp only [List.length_range] at hi
  simp only [List.getElem_range] at hv
  rw [henc] at hv
  cases q with
  | succ q => simp at hv
  | zero =>
    simp only [List.getElem?_cons_zero, Option.some.injEq] at hv
    subst hv
    rw [add_own, add_own, add_own, show 0 + h.toNat * 80 + i * 1 + 0 = h.toNat * 80 + i by omega]
    exact mat_cell hr (by omega) hi
theorem raw_sliceM {t : TypeId} {n i : Nat} {S : World → Prop} (ht : arrTy P t n = true) : (Req.raw (Instr.sliceAt t (.pointer (some ((⟨b, 0, none⟩ : Addr).add i))) none none none) (.slice (some ((⟨b, 0, none⟩ : Addr).add i)) n n)).ok P S := by
  rw [add_own]; exact raw_slice ht
/-- A row of one's own, from now on only read. -/
theorem Own.row_rd {α : Type} {enc : α → List Value} {e : TypeId} {sz k c : Nat} {p : Option Addr} {ys : List α} (hO : Own w0 M L w) (henc : ∀ y, (enc y).length = sz) (hsz : 0 < sz) (j : Nat) (hj : L[j]? = some (rowR e sz (.slice p k c) k (ys.flatMap enc))) (hk : k ≤ 1000000000) : Own w0 M (L.set j (rdR enc sz p k ys)) w :=
  hO.upd j hj (Kp.refl _ _) (rd_row henc hsz hO j hj hk) fun k' hk' => by
    obtain ⟨_, ad, ha, hb⟩ := hk'
    subst ha
    exact .inl (congrArg some hb)
theorem Own.nilRd {α : Type} (enc : α → List Value) (sz : Nat) (hO : Own w0 M L w) : Own w0 M (L ++ [rdR enc sz none 0 []]) w :=
  hO.add (Kp.refl _ _) (rd_nil _ _ _) fun k hk => absurd rfl hk.1
theorem row_len {α : Type} {enc : α → List Value} {e : TypeId} {sz k c : Nat} {p : Option Addr} {ys : List α} (hO : Own w0 M L w) (henc : ∀ y, (enc y).length = sz) (hsz : 0 < sz) (j : Nat) (hj : L[j]? = some (rowR e sz (.slice p k c) k (ys.flatMap enc))) : ys.length = k := by
  have hr := (hO.get j hj).1
  rw [flat_len henc] at hr
  exact Nat.eq_of_mul_eq_mul_right hsz hr
end
end Go.Proofs.Ytgihgcclabodbaa.DK
namespace Go.Proofs.Ytgihgcclabodbaa.DK
open Go
set_option linter.unusedSimpArgs false
set_option linter.unusedVariables false
variable {P : Program} {rn : Option Nat}
theorem next_le {need old : Nat} (h : old < need) : Builtin.nextslicecap need old ≤ need ∨ Builtin.nextslicecap need old ≤ 512 ∨ 4 * Builtin.nextslicecap need old ≤ 5 * need + 768 := by
  unfold Builtin.nextslicecap
  split
  · exact .inl (Nat.le_refl _)
  · split
    · right; left; omega
    · rw [growBy_four]
      right; right
      repeat' split
      all_goals omega
section
variable {n : Nat} {ds : List Deferred} {F : List (Nat × Value)} {a : Act} {ops : Array Oper} {i : Nat} {K : Act → World → Prop} {w w0 : World} {M : Nat → Prop} {L : List Res}
theorem append_one {t ty e : TypeId} {sz k c b B : Nat} {p : Option Addr} {xs : List Value} {cs : Array Value} (ht : rowTy P t e sz = true) (hB : ((P.info? e).map fun i => i.bytes) = some B)
    (hr : w.ownsRow 0 e sz (.slice p k c) k xs) (hc : ∀ j u, cs.toList[j]? = some u → w.cell? ((⟨b, 0, none⟩ : Addr).add j) = some u) (hcs : (Nat.beq cs.size sz && cs.toList.all Value.oneCell') = true) (hk : k + 1 ≤ 8796093022208) (hb24 : B ≤ 24) :
    ∃ p' c' w', (Builtin.append_ #[t, t] ty #[.slice p k c, .slice (some ⟨b, 0, none⟩) 1 1]).run P w = .ok (.slice p' (k + 1) c') w' ∧ w'.ownsRow 0 e sz (.slice p' (k + 1) c') (k + 1) (xs ++ cs.toList) ∧ w.grownBy w' (Value.slice p k c).ownBlock ∧ ((Value.slice p' (k + 1) c').ownBlock = (Value.slice p k c).ownBlock ∨ (Value.slice p' (k + 1) c').ownBlock = some w.heap.size) := by
  obtain ⟨inf, z, hu, hsz, hi, hsize, hby, hz, hzs⟩ := rowTy_ok ht
  have hBe : inf.bytes = B := by rw [hi] at hB; simpa using hB
  subst hBe
  simp only [Bool.and_eq_true, List.all_eq_true] at hcs
  have hlc := Nat.eq_of_beq_eq_true hcs.1
  have h63 : k + 1 ≤ maxLen := by simp only [maxLen]; omega
  have hl1 : cs.toList.length = 1 * inf.size := by simp only [Array.length_toList, Nat.one_mul]; omega
  have hmul : (k + 1) * inf.bytes ≤ (k + 1) * 24 := Nat.mul_le_mul_left _ hb24
  have hall : (xs ++ cs.toList).length = (k + 1) * sz := by rw [List.length_append, hr.1, hl1, Nat.add_mul, hsize]
  by_cases hsmall : (k + 1) * inf.bytes ≤ 140737488355328
  · obtain ⟨v', w', hrun, hown, hgr, _, hblk⟩ := run_append_own_at (P := P) w 0 t ty e inf z sz inf.bytes hu hi hz hsize rfl hzs hsz (.slice p k c) k xs hr ⟨b, 0, none⟩ 1 1 cs.toList (by rw [hl1, hsize]) hc hcs.2 h63 hsmall (Nat.zero_le _)
    have hshape : ∃ p' c', v' = .slice p' (k + 1) c' := by
      rcases hown.2 with ⟨_, h0⟩ | ⟨g, cap, cur, hv, _⟩
      · omega
      · exact ⟨_, _, hv⟩
    obtain ⟨p', c', rfl⟩ := hshape
    exact ⟨p', c', w', hrun, hown, hgr, hblk⟩
  · rcases hr.2 with ⟨_, h0⟩ | ⟨g, cap, cur, hv, hbg, hg, hnc, hcm, hcsz, htake⟩
    · subst h0; omega
    · simp only [Value.slice.injEq] at hv
      obtain ⟨rfl, _, rfl⟩ := hv
      by_cases hroom : k + 1 ≤ c
      · have hfit : k * inf.size + cs.toList.length ≤ cur.size := by rw [hl1, hcsz, ← Nat.add_mul, hsize]; exact Nat.mul_le_mul_right _ hroom
        have hrn := run_append_room (P := P) w t ty e inf hu hi g k c cur hg ⟨b, 0, none⟩ 1 1 cs.toList hl1 hc hcs.2 hroom hfit
        refine ⟨_, _, _, hrn, ⟨hall, .inr ⟨g, c, _, rfl, hbg, setRow_heap w g cur _ e _ hg, hroom, hcm, ?_, ?_⟩⟩, ⟨rfl, rfl, rfl, by simp, fun q _ hq => setRow_other w g q _ (fun e => hq (by simp [Value.ownBlock, e]))⟩, .inl rfl⟩
        · simp only [List.size_toArray, List.length_append, List.length_take, List.length_drop, Array.length_toList]
          omega
        · rw [hsize, htake, ← hall]
          exact List.take_left
      · have holds : ∀ j u, xs[j]? = some u → w.cell? ((⟨g, 0, none⟩ : Addr).add j) = some u := hr.cells (g := g) rfl
        have hfit : Builtin.nextslicecap (k + 1) c * inf.bytes ≤ 281474976710656 := by
          refine Nat.le_trans (Nat.mul_le_mul_left _ hb24) ?_
          have := next_le (need := k + 1) (old := c) (by omega)
          omega
        have hrn := run_append_grow (P := P) w t ty e inf z hu hi hz ⟨g, 0, none⟩ k c xs (by rw [hr.1, hsize]) holds ⟨b, 0, none⟩ 1 1 cs.toList hl1 hc (by omega) (by omega) hfit
        have hge := grownCap_ge w (k + 1) c e
        refine ⟨_, _, _, hrn, ⟨hall, .inr ⟨w.heap.size, _, _, rfl, Nat.zero_le _, heap_alloc_new w.drew _, hge, grownCap_le_maxLen w (k + 1) c e h63, ?_, ?_⟩⟩, ⟨rfl, rfl, rfl, by simp, fun q hq _ => heap_alloc_old w.drew _ q hq⟩, .inr rfl⟩
        · simp only [Array.size_append, List.size_toArray, size_zeroCells, hzs, hr.1, Array.length_toList, hlc, ← Nat.succ_mul, ← Nat.add_mul]
          congr 1
          omega
        · simp only [Array.toList_append, List.append_assoc]
          rw [← List.append_assoc, ← hall]
          exact List.take_left
theorem op_appR3 {t ty e : TypeId} {sz k c b d B : Nat} {p : Option Addr} {xs : List Value} {cs : Array Value} (ht : rowTy P t e sz = true) (hB : ((P.info? e).map fun i => i.bytes) = some B) (hb24 : B ≤ 24) (hF : Fr n ds F a) (hO : Own w0 M L w)
    (he : dec n ops i F = some (.app #[t, t] ty [.slice p k c, .slice (some ⟨b, 0, none⟩) 1 1] d)) (j1 : Nat) (h1 : L[j1]? = some (rowR e sz (.slice p k c) k xs)) (j2 : Nat) (h2 : L[j2]? = some (cel b cs e)) (hcs : (Nat.beq cs.size sz && cs.toList.all Value.oneCell') = true) (hk : k + 1 ≤ 8796093022208)
    (h : ∀ a' w' p' c', Fr n ds ((d, .slice p' (k + 1) c') :: F) a' → Own w0 M (L.set j1 (rowR e sz (.slice p' (k + 1) c') (k + 1) (xs ++ cs.toList))) w' → Kp (rowR e sz (.slice p k c) k xs).fp w w' → K a' w') : opX P rn ops i K a w := by
  obtain ⟨p', c', w', hrun, hown, hgr, hblk⟩ := append_one (P := P) (ty := ty) ht hB (hO.get j1 h1) (fun j u hj => by rw [add_own, Nat.zero_add]; exact hO.cell j2 h2 j (by simpa using hj)) hcs hk hb24
  refine op_val (w' := w') (v := .slice p' (k + 1) c') he hF ?_ fun a' hf => h a' w' p' c' hf (hO.upd j1 h1 (r' := rowR e sz (.slice p' (k + 1) c') (k + 1) (xs ++ cs.toList)) (Kp.of_grown hgr) hown (fun m hm => ?_)) (Kp.of_grown hgr)
  · simp [NOp.sem, Sem.run_bind, hrun, Result.andThen, Sem.run, pure]
  · simp only [rowR] at hm ⊢
    rcases hblk with hb | hb
    · exact .inl (hb ▸ hm)
    · rw [hb] at hm; right; have := Option.some.inj hm; omega
end
end Go.Proofs.Ytgihgcclabodbaa.DK
namespace Go.Proofs.Ytgihgcclabodbaa.DK
open Go
set_option linter.unusedVariables false
section
variable {w w0 : World} {M : Nat → Prop} {L : List Res}
theorem own_apart (hO : Own w0 M L w) {i j : Nat} {r s : Res} (hi : L[i]? = some r) (hj : L[j]? = some s) (hij : i ≠ j) {k : Nat} (h1 : r.fp k) : ¬ s.fp k := by
  have hap := List.pairwise_iff_getElem.1 hO.apart
  obtain ⟨hil, rfl⟩ := List.getElem?_eq_some_iff.1 hi
  obtain ⟨hjl, rfl⟩ := List.getElem?_eq_some_iff.1 hj
  rcases Nat.lt_or_gt_of_ne hij with hlt | hlt
  · exact hap i j hil hjl hlt k h1
  · exact fun h2 => hap j i hjl hil hlt k h2 h1
theorem own_ne (hO : Own w0 M L w) (i j : Nat) {b b' : Nat} {o o' : Obj} (hi : L[i]? = some (pt b o)) (hj : L[j]? = some (pt b' o')) (hij : i ≠ j) : ¬ b = b' := fun e => own_apart hO hi hj hij (k := b) rfl e
theorem own_home (hO : Own w0 none_ L w) (i : Nat) {b : Nat} {o : Obj} (hi : L[i]? = some (pt b o)) : w0.heap.size ≤ b := (hO.home _ (List.mem_of_getElem? hi) b rfl).elim id fun h => h.elim
theorem rdx_rdR {α : Type} {enc : α → List Value} {sz n b : Nat} {a : Option Addr} {xs : List α} {o : Obj} (hO : Own w0 M L w) (i j : Nat) (hi : L[i]? = some (rdR enc sz a n xs)) (hj : L[j]? = some (pt b o)) (hij : i ≠ j) : RdX (fun m => m = b) enc sz w a n xs := by
  have h := hO.get i hi
  refine ⟨h.len, h.size, fun q x hx => ?_⟩
  obtain ⟨ad, ha, _, hc⟩ := h.cells q x hx
  refine ⟨ad, ha, fun hm => ?_, hc⟩
  have hne : xs ≠ [] := by intro e; subst e; simp at hx
  exact own_apart hO hi hj hij (k := ad.block) ⟨hne, ad, ha, rfl⟩ hm
end
end Go.Proofs.Ytgihgcclabodbaa.DK
namespace Go.Proofs.Ytgihgcclabodbaa.DK
open Go
set_option linter.unusedSimpArgs false
set_option linter.unusedVariables false
def updX {α : Type} (X : Nat → α) (h : Nat) (x : α) : Nat → α := fun i => if i = h then x else X i
/-- A slice's header. -/
abbrev Hd := Option Addr × Nat × Nat
def hdV (a : Hd) : Value := .slice a.1 a.2.1 a.2.2
def cellsS (N : Nat) (A : Nat → Hd) : List Value := (List.range N).map fun h => hdV (A h)
def noHd : Nat → Hd := fun _ => (none, 0, 0)
theorem cellsS_at {N : Nat} {A : Nat → Hd} {i : Nat} (h : i < N) : (cellsS N A)[i]? = some (hdV (A i)) := by simp [cellsS, h]
theorem cellsS_len (N : Nat) (A : Nat → Hd) : (cellsS N A).length = N := by simp [cellsS]
theorem cellsS_set {N : Nat} {A : Nat → Hd} {i : Nat} {a : Hd} (h : i < N) : (cellsS N A).set i (hdV a) = cellsS N (updX A i a) := by
  apply List.ext_getElem?
  intro j
  by_cases hj : j < N
  · rw [cellsS_at hj, List.getElem?_set]
    by_cases e : i = j
    · subst e; simp [cellsS_len, h, updX]
    · rw [if_neg e, cellsS_at hj]; simp [updX, Ne.symm e]
  · rw [List.getElem?_eq_none (by rw [List.length_set, cellsS_len]; omega), List.getElem?_eq_none (by rw [cellsS_len]; omega)]
/-- The rows that the headers read. -/
def rwsR {α : Type} (enc : α → List Value) (sz : Nat) (N : Nat) (A : Nat → Hd) (X : Nat → List α) : Res where
  fp k := ∃ h, h < N ∧ X h ≠ [] ∧ ∃ ad, (A h).1 = some ad ∧ ad.block = k
  ok w := ∀ h, h < N → Rd enc sz w.heap.size w (A h).1 (A h).2.1 (X h)
  loc w w' hh hw := by
    intro h hN
    exact (rdR enc sz (A h).1 (A h).2.1 (X h)).loc w w' (fun k hk => hh k ⟨h, hN, hk⟩) (hw h hN)
  lt w hw k hk := by
    obtain ⟨h, hN, hk⟩ := hk
    exact (rdR enc sz (A h).1 (A h).2.1 (X h)).lt w (hw h hN) k hk
section
variable {P : Program} {rn : Option Nat} {n0 : Nat} {ds : List Deferred} {F : List (Nat × Value)} {a : Act} {ops : Array Oper} {k : Nat} {K : Act → World → Prop} {w w0 : World} {M : Nat → Prop} {L : List Res}
/-- Two things of one's own taken as one. -/
theorem Own.fuse (hO : Own w0 M L w) (i j : Nat) {r s r' : Res} (hi : L[i]? = some r) (hj : L[j]? = some s) (hij : i ≠ j) (hok : r.ok w → s.ok w → r'.ok w) (hfp : ∀ k, r'.fp k → r.fp k ∨ s.fp k) : Own w0 M ((L.set i r').set j nul) w := by
  have hil : i < L.length := (List.getElem?_eq_some_iff.1 hi).1
  have hjl : j < L.length := (List.getElem?_eq_some_iff.1 hj).1
  have orig : ∀ q x, ((L.set i r').set j nul)[q]? = some x → q ≠ j ∧ q ≠ i ∧ L[q]? = some x ∨ q = i ∧ x = r' ∨ q = j ∧ x = nul := by
    intro q x hq
    by_cases e1 : q = j
    · subst e1; rw [List.getElem?_set_self (by simpa using hjl)] at hq; injection hq with hq; exact .inr (.inr ⟨rfl, hq.symm⟩)
    · rw [List.getElem?_set_ne (Ne.symm e1)] at hq
      by_cases e2 : q = i
      · subst e2; rw [List.getElem?_set_self hil] at hq; injection hq with hq; exact .inr (.inl ⟨rfl, hq.symm⟩)
      · rw [List.getElem?_set_ne (Ne.symm e2)] at hq; exact .inl ⟨e1, e2, hq⟩
  have foot : ∀ q x m, ((L.set i r').set j nul)[q]? = some x → x.fp m → ∃ q' y, L[q']? = some y ∧ y.fp m ∧ (q' = q ∧ q ≠ j ∨ q' = j ∧ q = i) := by
    intro q x m hq hm
    rcases orig q x hq with ⟨h1, h2, h3⟩ | ⟨rfl, rfl⟩ | ⟨rfl, rfl⟩
    · exact ⟨q, x, h3, hm, .inl ⟨rfl, h1⟩⟩
    · rcases hfp m hm with h | h
      · exact ⟨q, r, hi, h, .inl ⟨rfl, hij⟩⟩
      · exact ⟨j, s, hj, h, .inr ⟨rfl, rfl⟩⟩
    · exact hm.elim
  refine ⟨hO.kp, fun x hx => ?_, ?_, fun x hx m hm => ?_⟩
  · obtain ⟨q, hq⟩ := List.getElem?_of_mem hx
    rcases orig q x hq with ⟨_, _, h3⟩ | ⟨rfl, rfl⟩ | ⟨rfl, rfl⟩
    · exact hO.get q h3
    · exact hok (hO.get q hi) (hO.get j hj)
    · trivial
  · rw [List.pairwise_iff_getElem]
    intro a b ha hb hlt m h1 h2
    obtain ⟨qa, ya, hya, hfa, ca⟩ := foot a _ m (List.getElem?_eq_getElem ha) h1
    obtain ⟨qb, yb, hyb, hfb, cb⟩ := foot b _ m (List.getElem?_eq_getElem hb) h2
    have hne : qa ≠ qb := by omega
    exact own_apart hO hya hyb hne hfa hfb
  · obtain ⟨q, hq⟩ := List.getElem?_of_mem hx
    obtain ⟨q', y, hy, hf, _⟩ := foot q x m hq hm
    exact hO.home y (List.mem_of_getElem? hy) m hf
theorem Own.noRows {α : Type} (enc : α → List Value) (sz N : Nat) (hO : Own w0 M L w) : Own w0 M (L ++ [rwsR enc sz N noHd fun _ => []]) w :=
  hO.add (Kp.refl _ _) (fun h _ => rd_nil _ _ _) fun k hk => by obtain ⟨_, _, h, _⟩ := hk; exact absurd rfl h
/-- A row more is read by a header. -/
theorem Own.addRow {α : Type} {enc : α → List Value} {sz N n : Nat} {A : Nat → Hd} {X : Nat → List α} {p : Option Addr} {xs : List α} (hO : Own w0 M L w) (i j : Nat) (hi : L[i]? = some (rwsR enc sz N A X)) (hj : L[j]? = some (rdR enc sz p n xs)) (hij : i ≠ j) (h c : Nat) :
    Own w0 M ((L.set i (rwsR enc sz N (updX A h (p, n, c)) (updX X h xs))).set j nul) w :=
  hO.fuse i j hi hj hij (fun h1 h2 q hq => by
    show Rd enc sz w.heap.size w (updX A h (p, n, c) q).1 (updX A h (p, n, c) q).2.1 (updX X h xs q)
    unfold updX
    split
    · exact h2
    · exact h1 q hq) fun m hm => by
    obtain ⟨q, hq, hne, ad, ha, hb⟩ := hm
    unfold updX at hne ha
    split at hne
    · rename_i e; rw [if_pos e] at ha; exact .inr ⟨hne, ad, ha, hb⟩
    · rename_i e; rw [if_neg e] at ha; exact .inl ⟨q, hq, hne, ad, ha, hb⟩
theorem rdS {α : Type} {enc : α → List Value} {sz N : Nat} {A : Nat → Hd} {X : Nat → List α} (hO : Own w0 M L w) (j : Nat) (hj : L[j]? = some (rwsR enc sz N A X)) {h : Nat} (hh : h < N) : Rd enc sz w.heap.size w (A h).1 (A h).2.1 (X h) := hO.get j hj h hh
theorem ldS {S : World → Prop} (H : ∀ x, S x → Own w0 M L x) (j : Nat) {b N : Nat} {A : Nat → Hd} {t : TypeId} (hj : L[j]? = some (cel b (cellsS N A).toArray t)) {h : Int} (h0 : 0 ≤ h) (h1 : h < N) :
    (Req.ld ((⟨b, 0, none⟩ : Addr).add (h.toNat * 1)) (.slice (A h.toNat).1 (A h.toNat).2.1 (A h.toNat).2.2)).ok P S := by
  intro w' hE
  rw [add_own]
  refine (H w' hE).cell j hj _ ?_
  rw [List.getElem?_toArray, show 0 + h.toNat * 1 = h.toNat by omega]
  exact cellsS_at (by omega)
theorem op_storeS {t tc : TypeId} {b N : Nat} {A : Nat → Hd} {h : Int} {p : Option Addr} {n c : Nat} (hF : Fr n0 ds F a) (hO : Own w0 M L w)
    (he : dec n0 ops k F = some (.store t (.pointer (some ((⟨b, 0, none⟩ : Addr).add (h.toNat * 1)))) (.slice p n c))) (j : Nat) (hj : L[j]? = some (cel b (cellsS N A).toArray tc))
    (h0 : 0 ≤ h) (h1 : h < N) (hsz : ((P.info? t).map fun i => i.size) = some 1)
    (hk : ∀ a' w', Fr n0 ds F a' → Own w0 M (L.set j (cel b (cellsS N (updX A h.toNat (p, n, c))).toArray tc)) w' → Kp (· = b) w w' → K a' w') : opX P rn ops k K a w := by
  have hi : h.toNat < N := by omega
  refine op_store (off := 0 + h.toNat * 1) (sz := 1) hF hO he j hj (add_own ..) hsz ?_ ?_ hk
  · simp only [Value.cells, Bool.and_eq_true]
    refine ⟨⟨by rfl, ?_⟩, by rfl⟩
    rw [Nat.ble_eq]
    simp [cellsS_len]; omega
  · simp only [Value.cells, List.toList_toArray, wr, Nat.mul_one, Nat.zero_add]
    rw [List.setIfInBounds_toArray]
    congr 1
    exact cellsS_set (a := (p, n, c)) hi
theorem op_mslS {t e : TypeId} {d N : Nat} {m : Int} (hm : m = (N : Int)) (hF : Fr n0 ds F a) (hO : Own w0 M L w) (he : dec n0 ops k F = some (.msl t (.int .i64 m) (.int .i64 m) d)) (hu : P.underlying t = some (.slice e))
    (hi : ((P.info? e).map fun i => (i.size, i.zero)) = some (1, some (.slice none 0 0))) (hby : ((P.info? e).map fun i => Nat.ble i.bytes 1000) = some true) (hk : N ≤ 1000000)
    (h : ∀ a' w' b, Fr n0 ds ((d, .slice (some ⟨b, 0, none⟩) N N) :: F) a' → Own w0 M (L ++ [cel b (cellsS N noHd).toArray e]) w' → Ext w w' ∧ w.heap.size ≤ b → K a' w') : opX P rn ops k K a w := by
  subst hm
  cases hinf : P.info? e with
  | none => rw [hinf] at hi; cases hi
  | some inf =>
    rw [hinf] at hi hby
    simp only [Option.map_some, Option.some.injEq, Prod.mk.injEq] at hi hby
    have hb := Nat.le_of_ble_eq_true hby
    have hmax := maxLen_ge
    obtain ⟨w', hrun, hown, hgr⟩ := run_make_full (P := P) w 0 t e inf (.slice none 0 0) 1 hu hinf hi.2 hi.1 .i64 .i64 N (Nat.le_trans (Nat.mul_le_mul hb hk) (by omega)) (by omega) (Nat.zero_le _)
    refine op_val (w' := w') (v := .slice (some ⟨w.heap.size, 0, none⟩) N N) he hF ?_ fun a' hf => h a' w' _ hf (hO.add (Ext.of_grown hgr) (r := cel w.heap.size (cellsS N noHd).toArray e) ?_ fun m hm => ?_) ⟨Ext.of_grown hgr, Nat.le_refl _⟩
    · simp [NOp.sem, Sem.run_bind, hrun, Result.andThen, Sem.run, pure]
    · rcases hown.2 with ⟨hv, _⟩ | ⟨g, cap, cur, hv, _, hg, _, _, hcs, htake⟩
      · cases hv
      · simp only [Value.slice.injEq, Option.some.injEq, Addr.mk.injEq, true_and, and_true] at hv
        obtain ⟨rfl, rfl⟩ := hv
        simp only [pt]
        rw [hg]
        congr 2
        apply Array.ext'
        rw [Nat.mul_one] at hcs htake
        have : cur.toList.take N = cur.toList := List.take_of_length_le (by simp [hcs])
        rw [this] at htake
        rw [htake]
        simp only [Value.cells]
        rw [toList_madeCells_one]
        apply List.ext_getElem?
        intro j
        by_cases hj : j < N
        · rw [cellsS_at hj]; simp [hj, noHd, hdV]
        · rw [List.getElem?_eq_none (by simp; omega), List.getElem?_eq_none (by simp [cellsS_len]; omega)]
    · simp only [pt] at hm; omega
end
end Go.Proofs.Ytgihgcclabodbaa.DK
namespace Go.Proofs.Ytgihgcclabodbaa.DK
open Go
set_option linter.unusedVariables false
theorem range'_cons {a n : Nat} (h : a < n) : List.range' a (n - a) = a :: List.range' (a + 1) (n - (a + 1)) := by
  rw [show n - a = (n - (a + 1)) + 1 from by omega, List.range'_succ]
theorem ris_list {n : Nat} : ∀ (xs : List Int) (a : Nat), risF n ((a : Int) - 1) xs = true → xs = ((List.range' a (n - a)).filter fun (i : Nat) => decide ((i : Int) ∈ xs)).map fun (i : Nat) => (i : Int)
  | [], a, _ => by simp
  | i :: r, a, h => by
    obtain ⟨h1, h2⟩ := ris_cons.1 h
    obtain ⟨b, rfl⟩ := Int.eq_ofNat_of_zero_le (show 0 ≤ i by omega)
    have hm := ris_mem r _ h2
    have ih := ris_list r (b + 1) (by rw [show ((b + 1 : Nat) : Int) - 1 = (b : Int) from by omega]; exact h2)
    have e1 : List.range' a (n - a) = List.range' a (b - a) ++ (b :: List.range' (b + 1) (n - (b + 1))) := by
      rw [← range'_cons (by omega : b < n), show n - a = (b - a) + (n - b) from by omega, ← List.range'_append_1, show a + (b - a) = b from by omega]
    rw [e1, List.filter_append, List.map_append]
    have e2 : (List.range' a (b - a)).filter (fun (j : Nat) => decide ((j : Int) ∈ (b : Int) :: r)) = [] := by
      rw [List.filter_eq_nil_iff]
      intro j hj
      obtain ⟨k, hk, rfl⟩ := List.mem_range'.1 hj
      simp only [decide_eq_true_eq, List.mem_cons, not_or]
      refine ⟨by omega, fun hr => ?_⟩
      have := hm _ hr; omega
    rw [e2, List.filter_cons_of_pos (by simp)]
    simp only [List.map_nil, List.nil_append, List.map_cons, List.cons.injEq, true_and]
    refine ih.trans ?_
    congr 1
    refine List.filter_congr fun j hj => ?_
    obtain ⟨k, hk, rfl⟩ := List.mem_range'.1 hj
    have : ((b + 1 + 1 * k : Nat) : Int) ≠ (b : Int) := by omega
    rw [decide_eq_decide]
    exact ⟨fun h => List.mem_cons_of_mem _ h, fun h => (List.mem_cons.1 h).resolve_left this⟩
theorem ris_lotsL {n : Nat} {xs : List Int} (h : risF n (-1) xs = true) : xs = lotsL n fun i => decide ((i : Int) ∈ xs) := by
  have := ris_list xs 0 h
  rw [Nat.sub_zero, ← List.range_eq_range'] at this
  exact this
theorem bit_small : ∀ (s : Fin 256) (k : Fin 8), bitB (s.val : Int) (k.val : Int) = Nat.testBit s.val k.val := by decide +kernel
def numA (A : Nat → Bool) : Nat → Nat
  | 0 => 0
  | n + 1 => cond (A n) (2 ^ n + numA A n) (numA A n)
theorem numA_lt (A : Nat → Bool) : ∀ n, numA A n < 2 ^ n
  | 0 => by simp [numA]
  | n + 1 => by
    have := numA_lt A n
    rw [numA, Nat.pow_succ]
    cases A n <;> simp <;> omega
theorem numA_bit (A : Nat → Bool) : ∀ n i, Nat.testBit (numA A n) i = (decide (i < n) && A i)
  | 0, i => by simp [numA]
  | n + 1, i => by
    have hlt := numA_lt A n
    rw [numA]
    cases hA : A n with
    | true =>
      rw [cond_true]
      by_cases h : i = n
      · subst h
        rw [Nat.testBit_two_pow_add_eq, numA_bit A i i]; simp [hA]
      · by_cases h2 : i < n
        · rw [Nat.testBit_two_pow_add_gt h2, numA_bit A n i, decide_eq_true h2, decide_eq_true (show i < n + 1 by omega)]
        · rw [decide_eq_false (show ¬ i < n + 1 by omega), Bool.false_and]
          refine Nat.testBit_lt_two_pow (Nat.lt_of_lt_of_le (show 2 ^ n + numA A n < 2 ^ (n + 1) by rw [Nat.pow_succ]; omega) (Nat.pow_le_pow_right (by omega) (by omega)))
    | false =>
      rw [cond_false, numA_bit A n i]
      by_cases h : i = n
      · subst h; simp [hA]
      · by_cases h2 : i < n
        · rw [decide_eq_true h2, decide_eq_true (show i < n + 1 by omega)]
        · rw [decide_eq_false h2, decide_eq_false (show ¬ i < n + 1 by omega)]
theorem memL_num {n : Nat} (h8 : n ≤ 8) {xs : List Int} (h : risF n (-1) xs = true) : ∃ s : Nat, s < 2 ^ n ∧ memL n s = xs ∧ (xs ≠ [] → 1 ≤ s) := by
  have e := ris_lotsL h
  have hlt := numA_lt (fun i => decide ((i : Int) ∈ xs)) n
  have h256 : 2 ^ n ≤ 256 := Nat.le_trans (Nat.pow_le_pow_right (by omega) h8) (by decide)
  have hm : memL n (numA (fun i => decide ((i : Int) ∈ xs)) n : Nat) = xs := by
    rw [e]
    unfold memL
    refine lotsL_congr fun i hi => ?_
    have := bit_small ⟨numA (fun i => decide ((i : Int) ∈ xs)) n, by omega⟩ ⟨i, by omega⟩
    simp only at this
    rw [← e, this, numA_bit, decide_eq_true hi, Bool.true_and]
  refine ⟨_, hlt, hm, fun hne => ?_⟩
  cases hz : numA (fun i => decide ((i : Int) ∈ xs)) n with
  | succ k => omega
  | zero =>
    exfalso; apply hne
    rw [← hm, hz]
    unfold memL lotsL
    rw [List.map_eq_nil_iff, List.filter_eq_nil_iff]
    intro i hi
    have hi2 := List.mem_range.1 hi
    have := bit_small ⟨0, by omega⟩ ⟨i, by omega⟩
    simp only at this
    rw [show ((0 : Nat) : Int) = 0 from rfl] at this
    rw [show ((0 : Nat) : Int) = 0 from rfl, this]
    simp
end Go.Proofs.Ytgihgcclabodbaa.DK
