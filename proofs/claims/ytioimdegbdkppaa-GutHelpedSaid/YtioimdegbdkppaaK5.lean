/- What a call owns: a list of resources apart from each other. Entering and leaving a function. -/
import Derived.Test.YtioimdegbdkppaaK4
import Derived.Maps.AppendAt
import Derived.Laws.OwnMore
namespace Go.Proofs.Ytioimdegbdkppaa.DK
open Go
set_option linter.unusedSimpArgs false
set_option linter.unusedVariables false

variable {P : Program} {rn : Option Nat}

/-! ### Entering -/
def argF : Nat → List Value → List (Nat × Value)
  | _, [] => []
  | i, v :: vs => (i, v) :: argF (i + 1) vs

theorem lk_argF : ∀ (vs : List Value) (i t : Nat) (v : Value), lk (argF i vs) t = some v → i ≤ t ∧ vs[t - i]? = some v
  | [], i, t, v, h => by simp [argF, lk] at h
  | u :: vs, i, t, v, h => by
    simp only [argF, lk] at h
    cases hb : Nat.beq i t with
    | true =>
      rw [hb] at h
      simp at h
      have := Nat.eq_of_beq_eq_true hb
      subst this
      subst h
      simp
    | false =>
      rw [hb] at h
      have h' := lk_argF vs (i + 1) t v h
      refine ⟨by omega, ?_⟩
      rw [show t - i = (t - (i + 1)) + 1 from by omega]
      simpa using h'.2

theorem calls_of_W {f : FuncId} {fn : Func} {c : Code} {args : List Value} {w : World} {R : Ending → World → Prop} (hf : P.funcs[f]? = some fn) (hb : fn.body = some c) (hn : Nat.ble args.length fn.ntmps = true)
    (h : ∀ a, Fr fn.ntmps [] (argF 0 args) a → W none P c (bodyPostM (FW none) 0 P fn R) a w) : Calls P f args.toArray w R := by
  refine callsIn_FW.1 (callsIn_of_wp_marks (F := FW none) (n := 0) hf hb trivial (h _ ⟨?_, rfl, ?_⟩))
  · have := Nat.le_of_ble_eq_true hn
    simp; omega
  · intro t v hv
    obtain ⟨_, h2⟩ := lk_argF args 0 t v hv
    simp only [Nat.sub_zero] at h2
    have hlt : t < args.length := (List.getElem?_eq_some_iff.1 h2).1
    rw [Array.getElem?_append_left (by simpa using hlt)]
    simpa using h2

/-! ### Leaving -/
def evRes (tb : Tbl) (F : List (Nat × Value)) : List ResultVar → List Req → Option (List Value × List Req)
  | [], _ => some ([], [])
  | .tmp t :: xs, rs => match lk F t with
    | some v => (match evRes tb F xs rs with | some (vs, em) => some (v :: vs, em) | none => none)
    | none => none
  | .cell a t :: xs, rs => match lk F a with
    | some (.pointer (some p)) => match lk tb.agg t with
      | some sz => (match rs with
        | .lds _ us :: rs' => cond (Nat.beq us.length sz) (match evRes tb F xs rs' with | some (vs, em) => some (.agg us.toArray :: vs, .lds p us :: em) | none => none) none
        | _ => none)
      | none => cond (tb.sca.elem t) (match rs with
        | .ld _ v :: rs' => (match evRes tb F xs rs' with | some (vs, em) => some (v :: vs, .ld p v :: em) | none => none)
        | _ => none) none
    | _ => none

def oneOf : List Value → Value
  | [v] => v
  | vs => .tuple vs.toArray

def resOne (tmps : Array Value) : ResultVar → Sem Value
  | .tmp t => pure (tmps.getD t undef)
  | .cell a t => do loadVar t (← asAddr (tmps.getD a undef))

theorem evRes_ok {n : Nat} {ds : List Deferred} {F : List (Nat × Value)} {a : Act} {tb : Tbl} (ht : Tbl.ok P tb = true) (h : Fr n ds F a) {w : World} : ∀ {xs : List ResultVar} {rs em : List Req} {vs : List Value},
    evRes tb F xs rs = some (vs, em) → (∀ r ∈ em, r.ok P (fun w' => w' = w)) →
    (xs.mapM (resOne a.tmps)).run P w = .ok vs w
  | [], rs, em, vs, he, hr => by simp [evRes] at he; obtain ⟨rfl, rfl⟩ := he; rfl
  | .tmp t :: xs, rs, em, vs, he, hr => by
    simp only [evRes] at he
    split at he
    · rename_i v hv
      split at he
      · rename_i us em' hus
        cases he
        have hg : a.tmps.getD t undef = v := by rw [Array.getD_eq_getD_getElem?, h.get _ _ hv]; rfl
        rw [List.mapM_cons]
        simp only [resOne, hg, Sem.run_bind]
        simp [Sem.run, pure, Result.andThen, evRes_ok ht h hus hr, Sem.run_bind]
      · cases he
    · cases he
  | .cell p t :: xs, rs, em, vs, he, hr => by
    simp only [evRes] at he
    split at he
    · rename_i q hq
      have hg : a.tmps.getD p undef = .pointer (some q) := by rw [Array.getD_eq_getD_getElem?, h.get _ _ hq]; rfl
      split at he
      · rename_i sz hsz
        split at he
        · rename_i us rs2
          cases hb : Nat.beq us.length sz with
          | false => rw [hb] at he; cases he
          | true =>
            rw [hb] at he
            simp only [cond] at he
            split at he
            · rename_i vs2 em2 h2
              cases he
              obtain ⟨h1, i, hi, hs⟩ := Tbl.agg_ok ht hsz
              have h3 := hr _ (List.mem_cons_self ..) w rfl
              have hl := run_loadVar_agg (w := w) h1 hi (by rw [hs]; exact (Nat.eq_of_beq_eq_true hb).symm) h3
              have ih := evRes_ok ht h h2 (fun r hm => hr r (List.mem_cons_of_mem _ hm))
              rw [List.mapM_cons]
              simp only [resOne, hg, asAddr, Sem.run_bind]
              simp [Sem.run, pure, Result.andThen, hl, ih, Sem.run_bind]
            · cases he
        · cases he
      · cases hb : tb.sca.elem t with
        | false => rw [hb] at he; cases he
        | true =>
          rw [hb] at he
          simp only [cond] at he
          split at he
          · split at he
            · rename_i vs2 em2 h2
              cases he
              obtain ⟨h1, h4, i, hi, hs⟩ := Tbl.sca_ok ht (List.elem_iff.1 hb)
              have h3 := hr _ (List.mem_cons_self ..) w rfl
              have hl := run_loadVar_sca (w := w) h1 h4 h3
              have ih := evRes_ok ht h h2 (fun r hm => hr r (List.mem_cons_of_mem _ hm))
              rw [List.mapM_cons]
              simp only [resOne, hg, asAddr, Sem.run_bind]
              simp [Sem.run, pure, Result.andThen, hl, ih, Sem.run_bind]
            · cases he
          · cases he
    · cases he

theorem results_run {fn : Func} {tmps : Array Value} {vs : List Value} {w : World} (h : (fn.results.toList.mapM (resOne tmps)).run P w = .ok vs w) : (results fn tmps).run P w = .ok (oneOf vs) w := by
  have e : results fn tmps = (do let vs ← fn.results.mapM (resOne tmps); pure (if h : vs.size = 1 then vs[0] else .tuple vs)) := by
    unfold results
    congr 1
  rw [e, Array.mapM_eq_mapM_toList, Sem.run_bind, Sem.run_map, h]
  simp only [Result.andThen, Sem.run, pure]
  cases vs with
  | nil => rfl
  | cons v vs => cases vs <;> rfl

/-- The marks among the deferred calls are shut, one after the other. -/
inductive Shut : List Deferred → World → World → Prop
  | nil (w : World) : Shut [] w w
  | cons {D : Nat} {ds : List Deferred} {w w' : World} (h : w.heap[D]? = some (.deferred (some []))) (t : Shut ds (w.putObj D (.deferred none)) w') : Shut ({ target := .collected D, args := #[] } :: ds) w w'

theorem leavesM {fn : Func} {tmps : Array Value} {R : Ending → World → Prop} {v : Value} {ds : List Deferred} {w w' : World} (hs : Shut ds w w') (h : (results fn tmps).run P w' = .ok v w') (hR : R (.returned v) w') :
    LeavesInM (FW none) 0 P fn tmps R ds .returning w := by
  induction hs with
  | nil => exact ⟨_, h, hR⟩
  | cons hk _ ih => exact ⟨by simp, .inl ⟨_, _, rfl, run_takeDeferred hk, ih h hR⟩⟩

theorem leave {fn : Func} {R : Ending → World → Prop} {n : Nat} {ds : List Deferred} {F : List (Nat × Value)} {a : Act} {tb : Tbl} {w w' : World} {rs : List Req} {vs : List Value} (ht : Tbl.ok P tb = true) (hF : Fr n ds F a) (hs : Shut ds w w')
    (hr : Reqs P (fun x => x = w') rs) (he : evRes tb F fn.results.toList rs = some (vs, rs)) (hR : R (.returned (oneOf vs)) w') : bodyPostM (FW none) 0 P fn R .ret a w ∧ bodyPostM (FW none) 0 P fn R .normal a w := by
  have h := results_run (evRes_ok ht hF he hr.mem)
  have := leavesM hs h hR
  rw [← hF.defers] at this
  exact ⟨this, this⟩

theorem leave_ret {fn : Func} {R : Ending → World → Prop} {n : Nat} {ds : List Deferred} {F : List (Nat × Value)} {a : Act} {tb : Tbl} {w w' : World} {rs : List Req} {vs : List Value} (ht : Tbl.ok P tb = true) (hF : Fr n ds F a) (hs : Shut ds w w')
    (hr : Reqs P (fun x => x = w') rs) (he : evRes tb F fn.results.toList rs = some (vs, rs)) (hR : R (.returned (oneOf vs)) w') : W none P .ret (bodyPostM (FW none) 0 P fn R) a w := W_ret (leave ht hF hs hr he hR).1

/-! ### Resources -/
structure Res where
  fp : Nat → Prop
  ok : World → Prop
  loc : ∀ w w', (∀ k, fp k → w'.heap[k]? = w.heap[k]?) → ok w → ok w'
  lt : ∀ w, ok w → ∀ k, fp k → k < w.heap.size

/-- Block b is o. -/
def pt (b : Nat) (o : Obj) : Res where
  fp := (· = b)
  ok w := w.heap[b]? = some o
  loc w w' h hw := (h b rfl).trans hw
  lt w hw k hk := by subst hk; exact obj_lt hw

/-- Block b is a row of cells. -/
abbrev cel (b : Nat) (cs : Array Value) (t : TypeId) : Res := pt b (.cells cs t (0, 0))

/-- A slice of the call's own: elements of type e, each of sz cells; n of them, told cell by cell. -/
def rowR (e : TypeId) (sz : Nat) (v : Value) (n : Nat) (xs : List Value) : Res where
  fp k := v.ownBlock = some k
  ok w := w.ownsRow 0 e sz v n xs
  loc w w' h hw := by
    refine ⟨hw.1, ?_⟩
    rcases hw.2 with h2 | ⟨g, cap, cur, hv, h0, hg, r⟩
    · exact .inl h2
    · exact .inr ⟨g, cap, cur, hv, h0, by rw [h g (by rw [hv]; rfl)]; exact hg, r⟩
  lt w hw k hk := (hw.lt k hk).2

structure Own (w0 : World) (M : Nat → Prop) (L : List Res) (w : World) : Prop where
  kp : Kp M w0 w
  all : ∀ r ∈ L, r.ok w
  apart : L.Pairwise fun r s => ∀ k, r.fp k → ¬ s.fp k
  home : ∀ r ∈ L, ∀ k, r.fp k → w0.heap.size ≤ k ∨ M k

theorem Own.start (w : World) (M : Nat → Prop) : Own w M [] w := ⟨Kp.refl _ _, by simp, List.Pairwise.nil, by simp⟩

theorem Own.get {w0 : World} {M : Nat → Prop} {L : List Res} {w : World} (h : Own w0 M L w) (i : Nat) {r : Res} (hi : L[i]? = some r) : r.ok w := h.all r (List.mem_of_getElem? hi)

theorem Own.ext {w0 : World} {M : Nat → Prop} {L : List Res} {w w' : World} (h : Own w0 M L w) (hE : Ext w w') : Own w0 M L w' :=
  ⟨h.kp.trans hE.kp, fun r hr => r.loc w w' (fun k hk => hE.block k (r.lt w (h.all r hr) k hk) fun h => h) (h.all r hr), h.apart, h.home⟩

/-- Something of one's own more, in new blocks. -/
theorem Own.add {w0 : World} {M : Nat → Prop} {L : List Res} {w w' : World} (h : Own w0 M L w) (hE : Ext w w') {r : Res} (hok : r.ok w') (hnew : ∀ k, r.fp k → w.heap.size ≤ k) : Own w0 M (L ++ [r]) w' := by
  have h' := h.ext hE
  refine ⟨h'.kp, ?_, ?_, ?_⟩
  · intro s hs
    rcases List.mem_append.1 hs with hs | hs
    · exact h'.all s hs
    · simp at hs; subst hs; exact hok
  · rw [List.pairwise_append]
    refine ⟨h.apart, List.pairwise_singleton _ _, fun s hs t ht k hk hk' => ?_⟩
    simp at ht; subst ht
    have h1 := s.lt w (h.all s hs) k hk
    have h2 := hnew k hk'
    omega
  · intro s hs k hk
    rcases List.mem_append.1 hs with hs | hs
    · exact h.home s hs k hk
    · simp at hs; subst hs; exact .inl (Nat.le_trans h.kp.size (hnew k hk))

/-- One of them changes, maybe into new blocks. -/
theorem Own.upd {w0 : World} {M : Nat → Prop} {L : List Res} {w w' : World} (h : Own w0 M L w) (i : Nat) {r r' : Res} (hi : L[i]? = some r) (hk : Kp r.fp w w') (hok : r'.ok w') (hfp : ∀ k, r'.fp k → r.fp k ∨ w.heap.size ≤ k) : Own w0 M (L.set i r') w' := by
  have hil : i < L.length := (List.getElem?_eq_some_iff.1 hi).1
  have hLi : L[i] = r := (List.getElem?_eq_some_iff.1 hi).2
  have hrm : r ∈ L := List.mem_of_getElem? hi
  have hap := List.pairwise_iff_getElem.1 h.apart
  have key : ∀ j (hj : j < L.length), j ≠ i → ∀ k, L[j].fp k → ¬ r.fp k := by
    intro j hj hne k hk1 hk2
    rcases Nat.lt_or_gt_of_ne hne with hlt | hlt
    · exact hap j i hj hil hlt k hk1 (by rw [hLi]; exact hk2)
    · exact hap i j hil hj hlt k (by rw [hLi]; exact hk2) hk1
  have keep : ∀ j (hj : j < L.length), j ≠ i → L[j].ok w' := fun j hj hne =>
    L[j].loc w w' (fun k hk1 => hk.block k (L[j].lt w (h.all _ (List.getElem_mem hj)) k hk1) (key j hj hne k hk1)) (h.all _ (List.getElem_mem hj))
  refine ⟨?_, ?_, ?_, ?_⟩
  · refine h.kp.trans' hk fun k hk1 hk2 => ?_
    rcases h.home r hrm k hk2 with h' | h'
    · omega
    · exact h'
  · intro s hs
    obtain ⟨j, hj, rfl⟩ := List.mem_iff_getElem.1 hs
    simp only [List.length_set] at hj
    by_cases e : j = i
    · subst e; simp only [List.getElem_set_self]; exact hok
    · rw [List.getElem_set_ne (Ne.symm e)]; exact keep j hj e
  · rw [List.pairwise_iff_getElem]
    intro a b ha0 hb0 hlt k hk1 hk2
    have ha : a < L.length := by simpa using ha0
    have hb : b < L.length := by simpa using hb0
    by_cases ea : a = i
    · subst ea
      simp only [List.getElem_set_self] at hk1
      have hb' : b ≠ a := by omega
      rw [List.getElem_set_ne (Ne.symm hb')] at hk2
      rcases hfp k hk1 with h1 | h1
      · exact key b hb hb' k hk2 h1
      · have := L[b].lt w (h.all _ (List.getElem_mem hb)) k hk2; omega
    · rw [List.getElem_set_ne (Ne.symm ea)] at hk1
      by_cases eb : b = i
      · subst eb
        simp only [List.getElem_set_self] at hk2
        rcases hfp k hk2 with h1 | h1
        · exact key a ha ea k hk1 h1
        · have := L[a].lt w (h.all _ (List.getElem_mem ha)) k hk1; omega
      · rw [List.getElem_set_ne (Ne.symm eb)] at hk2
        exact hap a b ha hb hlt k hk1 hk2
  · intro s hs k hk1
    obtain ⟨j, hj, rfl⟩ := List.mem_iff_getElem.1 hs
    simp only [List.length_set] at hj
    by_cases e : j = i
    · subst e
      simp only [List.getElem_set_self] at hk1
      rcases hfp k hk1 with h1 | h1
      · exact h.home r hrm k h1
      · exact .inl (Nat.le_trans h.kp.size h1)
    · rw [List.getElem_set_ne (Ne.symm e)] at hk1
      exact h.home _ (List.getElem_mem hj) k hk1

/-- Some of them, in their order. -/
theorem Own.sub {w0 : World} {M : Nat → Prop} {L L' : List Res} {w : World} (h : Own w0 M L w) (hs : L'.Sublist L) : Own w0 M L' w :=
  ⟨h.kp, fun r hr => h.all r (hs.subset hr), h.apart.sublist hs, fun r hr => h.home r (hs.subset hr)⟩

theorem Own.drop1 {w0 : World} {M : Nat → Prop} {L : List Res} {w : World} (h : Own w0 M L w) (i : Nat) : Own w0 M (L.eraseIdx i) w := h.sub (List.eraseIdx_sublist ..)

/-- A fact of the start, told of a world that owns what it has changed. -/
theorem Own.old {w0 : World} {M : Nat → Prop} {L : List Res} {w : World} (h : Own w0 M L w) {p : Addr} {v : Value} (hc : w0.cell? p = some v) (hm : ¬ M p.block) : w.cell? p = some v := h.kp.cell hc hm

theorem Own.cell {w0 : World} {M : Nat → Prop} {L : List Res} {w : World} (h : Own w0 M L w) (i : Nat) {b : Nat} {cs : Array Value} {t : TypeId} (hi : L[i]? = some (cel b cs t)) (off : Nat) {v : Value} (hv : cs[off]? = some v) : w.cell? ⟨b, off, none⟩ = some v := by
  have := h.get i hi
  simp only [pt] at this
  simp [World.cell?, this, hv]

end Go.Proofs.Ytioimdegbdkppaa.DK
