/- Maps whose keys are pairs of whole numbers; comparisons of structs and arrays of whole numbers; regions that draw and make memory. -/
import Derived.Test.YtioimdegbdkppaaK8
import Derived.ChangeKeysEq
import Derived.Laws.StructEq
namespace Go.Proofs.Ytioimdegbdkppaa.DK
open Go
set_option linter.unusedSimpArgs false
set_option linter.unusedVariables false

variable {P : Program} {rn : Option Nat}

/-! ### Pairs -/
def slv (x : Int × Int) : Value := .agg #[.int .i64 x.1, .int .i64 x.2]
theorem slv_inj {x y : Int × Int} (h : slv x = slv y) : x = y := by
  obtain ⟨a, b⟩ := x; obtain ⟨c, d⟩ := y
  simp [slv] at h
  simp [h.1, h.2]

/-- The type is a struct of two whole numbers. -/
def pairTy (P : Program) (k : TypeId) : Bool :=
  match P.underlying k with
  | some (.struct fs) => (match fs.toList with
    | [f, g] => f.name != "_" && g.name != "_" && Nat.beq f.offset 0 && Nat.beq g.offset 1 && (match P.underlying f.type, P.underlying g.type with | some (.int _), some (.int _) => true | _, _ => false)
    | _ => false) && !P.stoodInHeld k
  | _ => false

theorem pairTy_ok {k : TypeId} (h : pairTy P k = true) : ∃ f g q q', P.underlying k = some (.struct #[f, g]) ∧ f.name ≠ "_" ∧ g.name ≠ "_" ∧ f.offset = 0 ∧ g.offset = 1 ∧ P.underlying f.type = some (.int q) ∧ P.underlying g.type = some (.int q') ∧ P.stoodInHeld k = false := by
  unfold pairTy at h
  split at h
  · rename_i fs hu
    simp only [Bool.and_eq_true, Bool.not_eq_true'] at h
    obtain ⟨h1, hs⟩ := h
    split at h1
    · rename_i f g hfs
      simp only [Bool.and_eq_true, bne_iff_ne, ne_eq] at h1
      obtain ⟨⟨⟨⟨a, b⟩, c⟩, d⟩, e⟩ := h1
      split at e
      · rename_i q q' hq hq'
        refine ⟨f, g, _, _, ?_, a, b, Nat.eq_of_beq_eq_true c, Nat.eq_of_beq_eq_true d, hq, hq', hs⟩
        rw [hu]
        congr 2
        apply Array.ext'
        simpa using hfs
      · cases e
    · cases h1
  · cases h

theorem run_equal_pair {k : TypeId} (hk : pairTy P k = true) (x y : Int × Int) (w : World) (d : Nat) : (Op.equalIn (d + 2) k (slv x) (slv y)).run P w = .ok (x.1 == y.1 && x.2 == y.2) w := by
  obtain ⟨f, g, q, q', hu, hf, hg, of, og, tf, tg, hs⟩ := pairTy_ok hk
  have pf : ∀ y z : Int, (part f.type (#[.int .i64 y, .int .i64 z] : Array Value) f.offset).run P w = .ok (.int .i64 y) w := fun y z => run_part_plain w (by simp [Program.plainKey, tf]) (by rw [of]; rfl)
  have pg : ∀ y z : Int, (part g.type (#[.int .i64 y, .int .i64 z] : Array Value) g.offset).run P w = .ok (.int .i64 z) w := fun y z => run_part_plain w (by simp [Program.plainKey, tg]) (by rw [og]; rfl)
  rw [Op.equalIn]
  simp only [slv, Sem.run_bind, run_underlying hu, Result.andThen_ok]
  simp only [program, Sem.run_bind, Sem.run, Result.andThen_ok, hs, Bool.false_eq_true, if_false]
  simp only [List.forIn_toArray, ← Array.forIn_toList, List.forIn_cons, List.forIn_nil, Sem.run_bind, hf, hg, ne_eq, not_false_eq_true, if_true, pf, pg, Result.andThen_ok, run_equalIn_int _ _ _ _ _ _ _ tf, run_equalIn_int _ _ _ _ _ _ _ tg]
  by_cases h1 : x.1 = y.1 <;> by_cases h2 : x.2 = y.2 <;> simp [h1, h2, Sem.run, pure, Result.andThen, Sem.run_bind, hg, pg, run_equalIn_int _ _ _ _ _ _ _ tg]

theorem run_checkKey_pair {k : TypeId} (hk : pairTy P k = true) (x : Int × Int) (em : Bool) (w : World) (d : Nat) : (Instr.checkKey em (d + 2) k (slv x)).run P w = .ok () w := by
  obtain ⟨f, g, q, q', hu, hf, hg, of, og, tf, tg, hs⟩ := pairTy_ok hk
  have pf : ∀ y z : Int, (part f.type (#[.int .i64 y, .int .i64 z] : Array Value) f.offset).run P w = .ok (.int .i64 y) w := fun y z => run_part_plain w (by simp [Program.plainKey, tf]) (by rw [of]; rfl)
  have pg : ∀ y z : Int, (part g.type (#[.int .i64 y, .int .i64 z] : Array Value) g.offset).run P w = .ok (.int .i64 z) w := fun y z => run_part_plain w (by simp [Program.plainKey, tg]) (by rw [og]; rfl)
  have c1 : ∀ (t : TypeId) (q : IntKind) (n : Int), P.underlying t = some (.int q) → (Instr.checkKey em (d + 1) t (.int .i64 n)).run P w = .ok () w := fun t q n ht => by
    rw [Instr.checkKey]
    simp [Sem.run_bind, run_underlying ht, Result.andThen, Sem.run, pure]
  rw [Instr.checkKey]
  simp only [slv, Sem.run_bind, run_underlying hu, Result.andThen_ok]
  simp only [List.forIn_toArray, ← Array.forIn_toList, List.forIn_cons, List.forIn_nil, Sem.run_bind, hf, hg, ne_eq, not_false_eq_true, if_true, pf, pg, Result.andThen_ok, c1 _ _ _ tf, c1 _ _ _ tg]
  simp [Sem.run, pure, Result.andThen, Sem.run_bind, hg, pg, c1 _ _ _ tg]

/-! ### Maps -/
def mapOk (es : Array MapEntry) (clock : Nat) (f : Int × Int → Option Value) : Prop :=
  (∀ e ∈ es.toList, ∃ x, e.key = slv x ∧ f x = some e.val ∧ e.born < clock) ∧ (∀ x v, f x = some v → ∃ e ∈ es.toList, e.key = slv x) ∧ es.toList.Pairwise (fun a b => a.key ≠ b.key ∧ a.born ≠ b.born)

def updm (f : Int × Int → Option Value) (x : Int × Int) (v : Value) : Int × Int → Option Value := fun y => if y = x then some v else f y

theorem find_pair {k : TypeId} (hk : pairTy P k = true) (x : Int × Int) (w : World) : ∀ (es : List MapEntry) (i : Nat), (∀ e ∈ es, ∃ y, e.key = slv y) →
    ((Instr.findAsking k (slv x) es i).run P w = .ok none w ∧ ∀ e ∈ es, e.key ≠ slv x) ∨ ∃ j e, (Instr.findAsking k (slv x) es i).run P w = .ok (some (i + j, e.val)) w ∧ es[j]? = some e ∧ e.key = slv x
  | [], i, _ => .inl ⟨by simp [Instr.findAsking], by simp⟩
  | e :: es, i, h => by
    obtain ⟨y, hy⟩ := h e (by simp)
    have hr : (Op.equal k (slv x) (slv y)).run P w = .ok (x.1 == y.1 && x.2 == y.2) w := run_equal_pair hk x y w 9998
    by_cases hxy : x = y
    · subst hxy
      refine .inr ⟨0, e, ?_, rfl, hy⟩
      simp [Instr.findAsking, hy, hr]
    · have hb : (x.1 == y.1 && x.2 == y.2) = false := by
        rw [Bool.eq_false_iff]; intro hc; simp only [Bool.and_eq_true, beq_iff_eq] at hc; exact hxy (Prod.ext hc.1 hc.2)
      rw [hb] at hr
      rcases find_pair hk x w es (i + 1) (fun e he => h e (by simp [he])) with ⟨h1, h2⟩ | ⟨j, e', h1, h2, h3⟩
      · refine .inl ⟨by simp [Instr.findAsking, hy, hr, h1], fun e' he' => ?_⟩
        rcases List.mem_cons.1 he' with rfl | he'
        · rw [hy]; exact fun hc => hxy (slv_inj hc).symm
        · exact h2 e' he'
      · exact .inr ⟨j + 1, e', by simp [Instr.findAsking, hy, hr, h1, Nat.add_assoc, Nat.add_comm 1 j], by simpa using h2, h3⟩

theorem findKey_pair {k : TypeId} (hk : pairTy P k = true) {es : Array MapEntry} {clock : Nat} {f : Int × Int → Option Value} (h : mapOk es clock f) (x : Int × Int) (w : World) :
    ((Instr.findKey k (slv x) es.toList).run P w = .ok none w ∧ f x = none ∧ ∀ e ∈ es.toList, e.key ≠ slv x) ∨ ∃ j e, (Instr.findKey k (slv x) es.toList).run P w = .ok (some (j, e.val)) w ∧ es[j]? = some e ∧ e.key = slv x ∧ f x = some e.val ∧ e.born < clock := by
  obtain ⟨f1, g1, q, q', hu, _⟩ := pairTy_ok hk
  have e0 : (Instr.findKey k (slv x) es.toList).run P w = (Instr.findAsking k (slv x) es.toList).run P w := by
    generalize es.toList = l
    cases l with
    | nil => simp [Instr.findKey, run_underlying hu, Instr.findNow, Instr.findAsking, Result.andThen, Sem.run_bind, Sem.run, pure]
    | cons e es => simp [Instr.findKey, run_underlying hu, Instr.findNow, Instr.sameNow, Result.andThen, Sem.run_bind, Sem.run, pure]
  rw [e0]
  rcases find_pair hk x w es.toList 0 (fun e he => let ⟨y, hy, _⟩ := h.1 e he; ⟨y, hy⟩) with ⟨h1, h2⟩ | ⟨j, e, h1, h2, h3⟩
  · refine .inl ⟨h1, ?_, h2⟩
    cases hf : f x with
    | none => rfl
    | some v => obtain ⟨e, he, hk⟩ := h.2.1 x v hf; exact absurd hk (h2 e he)
  · obtain ⟨y, hy, hv, hb⟩ := h.1 e (List.mem_of_getElem? h2)
    have : x = y := slv_inj (h3.symm.trans hy)
    subst this
    exact .inr ⟨j, e, by simpa using h1, by simpa using h2, h3, hv, hb⟩

theorem mapOk_empty : mapOk #[] 0 (fun _ => none) := ⟨by simp, by simp, by simp⟩

theorem mapOk_push {es : Array MapEntry} {clock : Nat} {f : Int × Int → Option Value} (h : mapOk es clock f) {x : Int × Int} (v : Value) (hf : f x = none) (hn : ∀ e ∈ es.toList, e.key ≠ slv x) : mapOk (es.push { key := slv x, val := v, born := clock }) (clock + 1) (updm f x v) := by
  refine ⟨fun e he => ?_, fun y u hy => ?_, ?_⟩
  · simp only [Array.toList_push, List.mem_append, List.mem_singleton] at he
    rcases he with he | rfl
    · obtain ⟨y, hy, hv, hb⟩ := h.1 e he
      refine ⟨y, hy, ?_, by omega⟩
      have : y ≠ x := fun hc => hn e he (by rw [hy, hc])
      simp [updm, this, hv]
    · exact ⟨x, rfl, by simp [updm], by simp⟩
  · by_cases hyx : y = x
    · subst hyx; exact ⟨{ key := slv y, val := v, born := clock }, by simp, rfl⟩
    · simp only [updm, hyx, if_false] at hy
      obtain ⟨e, he, hk⟩ := h.2.1 y u hy
      exact ⟨e, by simp [he], hk⟩
  · simp only [Array.toList_push]
    rw [List.pairwise_append]
    refine ⟨h.2.2, by simp, fun a ha b hb => ?_⟩
    simp only [List.mem_singleton] at hb
    subst hb
    obtain ⟨y, _, _, hlt⟩ := h.1 a ha
    exact ⟨hn a ha, by simp; omega⟩

theorem modify_toList (es : Array MapEntry) (j : Nat) (g : MapEntry → MapEntry) : (es.modify j g).toList = es.toList.modify j g := by
  apply List.ext_getElem?
  intro i
  rw [Array.getElem?_toList, List.getElem?_modify, Array.getElem?_modify]
  by_cases h : j = i <;> simp [h]

theorem mapOk_set {es : Array MapEntry} {clock : Nat} {f : Int × Int → Option Value} (h : mapOk es clock f) {x : Int × Int} {j : Nat} {e : MapEntry} (hj : es[j]? = some e) (hk : e.key = slv x) (v : Value) {g : MapEntry → MapEntry} (hg : g e = { key := slv x, val := v, born := e.born }) :
    mapOk (es.modify j g) clock (updm f x v) := by
  have hjl : j < es.toList.length := by have := (Array.getElem?_eq_some_iff.1 hj).1; simpa using this
  have hje : es.toList[j] = e := by have := (Array.getElem?_eq_some_iff.1 hj).2; simpa using this
  have key : es.toList.modify j g = es.toList.set j { key := slv x, val := v, born := e.born } := by
    rw [← hg, ← hje]
    apply List.ext_getElem?
    intro i
    rw [List.getElem?_modify]
    by_cases hi : j = i
    · subst hi; rw [List.getElem?_set_self hjl, List.getElem?_eq_getElem hjl]; simp
    · rw [List.getElem?_set_ne hi]; simp [hi]
  have hp := List.pairwise_iff_getElem.1 h.2.2
  have hjk : es.toList[j].key = slv x := by rw [hje, hk]
  have hjb : es.toList[j].born = e.born := by rw [hje]
  obtain ⟨y0, hy0, _, hb0⟩ := h.1 e (List.mem_of_getElem? (by simpa using hj))
  refine ⟨fun a ha => ?_, fun y u hy => ?_, ?_⟩
  · rw [modify_toList, key] at ha
    obtain ⟨i, hi, rfl⟩ := List.mem_iff_getElem.1 ha
    simp only [List.length_set] at hi
    by_cases hij : j = i
    · subst hij; simp only [List.getElem_set_self]; exact ⟨x, rfl, by simp [updm], hb0⟩
    · rw [List.getElem_set_ne hij]
      obtain ⟨y, hy, hv, hb⟩ := h.1 es.toList[i] (List.getElem_mem hi)
      refine ⟨y, hy, ?_, hb⟩
      have : y ≠ x := by
        intro hc
        have hne : es.toList[i].key ≠ es.toList[j].key := by
          rcases Nat.lt_or_gt_of_ne hij with hlt | hlt
          · exact fun hc => (hp j i hjl hi hlt).1 hc.symm
          · exact (hp i j hi hjl hlt).1
        exact hne (by rw [hy, hje, hk, hc])
      simp [updm, this, hv]
  · rw [modify_toList, key]
    by_cases hyx : y = x
    · subst hyx; exact ⟨_, List.mem_set hjl _, rfl⟩
    · simp only [updm, hyx, if_false] at hy
      obtain ⟨a, ha, hka⟩ := h.2.1 y u hy
      obtain ⟨i, hi, rfl⟩ := List.mem_iff_getElem.1 ha
      have hij : j ≠ i := by
        intro hc; subst hc
        rw [hje, hk] at hka
        exact hyx (slv_inj hka).symm
      exact ⟨es.toList[i], List.mem_iff_getElem.2 ⟨i, by simpa using hi, by rw [List.getElem_set_ne hij]⟩, hka⟩
  · rw [modify_toList, key, List.pairwise_iff_getElem]
    intro a b ha hb hlt
    simp only [List.length_set] at ha hb
    have hab := hp a b ha hb hlt
    by_cases e1 : j = a
    · subst e1
      have e2 : j ≠ b := by omega
      simp only [List.getElem_set_self]
      rw [List.getElem_set_ne e2]
      exact ⟨fun hc => hab.1 (hjk.trans hc), fun hc => hab.2 (hjb.trans hc)⟩
    · rw [List.getElem_set_ne e1]
      by_cases e2 : j = b
      · subst e2
        simp only [List.getElem_set_self]
        exact ⟨fun hc => hab.1 (hc.trans hjk.symm), fun hc => hab.2 (hc.trans hjb.symm)⟩
      · rw [List.getElem_set_ne e2]; exact hab

/-- Block b is a map that reads as f. -/
def mapS (b : Nat) (f : Int × Int → Option Value) : Res where
  fp := (· = b)
  ok w := ∃ es clock, w.heap[b]? = some (.map es clock) ∧ mapOk es clock f
  loc w w' h hw := by obtain ⟨es, c, h1, h2⟩ := hw; exact ⟨es, c, (h b rfl).trans h1, h2⟩
  lt w hw k hk := by subst hk; obtain ⟨es, c, h1, h2⟩ := hw; exact obj_lt h1
/-- .. and its entry for x bears the stamp s. -/
def mapE (b : Nat) (f : Int × Int → Option Value) (x : Int × Int) (s : Nat) : Res where
  fp := (· = b)
  ok w := ∃ es clock, w.heap[b]? = some (.map es clock) ∧ mapOk es clock f ∧ ∃ e ∈ es.toList, e.key = slv x ∧ e.born = s
  loc w w' h hw := by obtain ⟨es, c, h1, h2⟩ := hw; exact ⟨es, c, (h b rfl).trans h1, h2⟩
  lt w hw k hk := by subst hk; obtain ⟨es, c, h1, h2⟩ := hw; exact obj_lt h1

/-- t is a map type from such pairs to e, whose zero is z. -/
def mapTy (P : Program) (t k e : TypeId) (z : Value) : Prop := P.underlying t = some (.map k e) ∧ pairTy P k = true ∧ ((P.info? e).bind fun i => i.zero) = some z

theorem run_zero {e : TypeId} {z : Value} {w : World} (hz : ((P.info? e).bind fun i => i.zero) = some z) : (zeroValue e).run P w = .ok z w := by
  cases hi : P.info? e with
  | none => rw [hi] at hz; cases hz
  | some inf =>
    rw [hi] at hz
    simp only [Option.bind_some] at hz
    simp [zeroValue, Sem.run_bind, run_typeInfo hi, hz, Result.andThen, Sem.run, pure]

section
variable {t k e : TypeId} {z : Value} {w w0 : World} {M : Nat → Prop} {L : List Res} {b : Nat} {f : Int × Int → Option Value} {x : Int × Int}

theorem run_getObj_map {es : Array MapEntry} {c : Nat} (h : w.heap[b]? = some (.map es c)) : (getObj b).run P w = .ok (.map es c) w := by simp [getObj, Sem.run, h]
theorem run_setObj_map {es : Array MapEntry} {c : Nat} (o : Obj) (h : w.heap[b]? = some (.map es c)) : (setObj b o).run P w = .ok () (w.putObj b o) := by simp [setObj, Sem.run, h, World.putObj]
theorem Kp_put {o : Obj} : Kp (· = b) w (w.putObj b o) := ⟨rfl, rfl, rfl, by simp, fun k hk hm => World.putObj_heap_other hm⟩

theorem lookup_mapS (ht : mapTy P t k e z) (hw : (mapS b f).ok w) : (Instr.lookup t (.map (some b)) (slv x) false).run P w = .ok ((f x).getD z) w := by
  obtain ⟨h1, h2, h3⟩ := ht
  obtain ⟨es, c, hb, hm⟩ := hw
  unfold Instr.lookup
  simp only [Sem.run_bind, run_underlying h1, Result.andThen_ok, run_getObj_map hb, Sem.run_pure]
  rw [show (10000 : Nat) = 9998 + 2 from rfl]
  simp only [run_checkKey_pair h2 x _ w 9998, Result.andThen_ok]
  rcases findKey_pair h2 hm x w with ⟨g1, g2, _⟩ | ⟨j, en, g1, _, _, g2, _⟩
  · simp only [g1, Result.andThen_ok, Sem.run_bind, run_zero h3, Sem.run_pure, g2]; simp
  · simp only [g1, Result.andThen_ok, Sem.run_pure, g2]; simp

/-- A look-up in a map of one's own: what is asked of a quiet operation. -/
theorem lkm (ht : mapTy P t k e z) (hO : Own w0 M L w) (j : Nat) (hj : L[j]? = some (mapS b f)) : (Req.raw (Instr.lookup t (.map (some b)) (slv x) false) ((f x).getD z)).ok P (fun w' => Ext w w') :=
  fun w' hE => lookup_mapS ht ((hO.ext hE).get j hj)

theorem sameBits_slv (x : Int × Int) : Instr.sameBits 10000 (slv x) (slv x) = true := by
  show Instr.sameBits (9998 + 1 + 1) (slv x) (slv x) = true
  simp [slv, Instr.sameBits]

theorem update_mapS (ht : mapTy P t k e z) (hw : (mapS b f).ok w) (v : Value) : ∃ w', (Instr.mapUpdate t (.map (some b)) (slv x) v).run P w = .ok () w' ∧ (mapS b (updm f x v)).ok w' ∧ Kp (· = b) w w' := by
  obtain ⟨h1, h2, h3⟩ := ht
  obtain ⟨es, c, hb, hm⟩ := hw
  have hlt := obj_lt hb
  unfold Instr.mapUpdate
  simp only [Sem.run_bind, run_underlying h1, Result.andThen_ok, run_getObj_map hb]
  rw [show (10000 : Nat) = 9998 + 2 from rfl]
  simp only [run_checkKey_pair h2 x _ w 9998, Result.andThen_ok]
  rcases findKey_pair h2 hm x w with ⟨g1, g2, g3⟩ | ⟨j, en, g1, g2, g3, g4, g5⟩
  · simp only [g1, Result.andThen_ok, run_setObj_map _ hb]
    exact ⟨_, rfl, ⟨_, _, World.putObj_heap_same hlt, mapOk_push hm v g2 g3⟩, Kp_put⟩
  · simp only [g1, Result.andThen_ok, Sem.run_bind, g2, Option.map_some, Option.getD_some, g3, Instr.keyThatStays, sameBits_slv, if_true, Sem.run_pure, run_setObj_map _ hb]
    exact ⟨_, rfl, ⟨_, _, World.putObj_heap_same hlt, mapOk_set hm g2 g3 v (g := fun e => { e with key := slv x, val := v }) rfl⟩, Kp_put⟩

theorem updm_self {v : Value} (h : f x = some v) : updm f x v = f := by
  funext y; unfold updm; split
  · rename_i hy; subst hy; exact h.symm
  · rfl

theorem entry_mapS (ht : mapTy P t k e z) (hw : (mapS b f).ok w) : ∃ w' s, (Instr.mapEntry t (.map (some b)) (slv x)).run P w = .ok (.tuple #[(f x).getD z, .int .i64 (s : Nat)]) w' ∧ (mapE b (updm f x ((f x).getD z)) x s).ok w' ∧ Kp (· = b) w w' := by
  obtain ⟨h1, h2, h3⟩ := ht
  obtain ⟨es, c, hb, hm⟩ := hw
  have hlt := obj_lt hb
  unfold Instr.mapEntry
  simp only [Sem.run_bind, run_underlying h1, Result.andThen_ok, run_getObj_map hb]
  rw [show (10000 : Nat) = 9998 + 2 from rfl]
  simp only [run_checkKey_pair h2 x _ w 9998, Result.andThen_ok]
  rcases findKey_pair h2 hm x w with ⟨g1, g2, g3⟩ | ⟨j, en, g1, g2, g3, g4, g5⟩
  · simp only [g1, Result.andThen_ok, Sem.run_bind, run_zero h3, run_setObj_map _ hb, Sem.run_pure, g2, Option.getD_none]
    exact ⟨_, c, rfl, ⟨_, _, World.putObj_heap_same hlt, mapOk_push hm z g2 g3, { key := slv x, val := z, born := c }, by simp, rfl, rfl⟩, Kp_put⟩
  · simp only [g1, Result.andThen_ok, Sem.run_bind, g2, Option.map_some, Option.getD_some, g3, Instr.keyThatStays, sameBits_slv, if_true, Sem.run_pure, run_setObj_map _ hb, g4]
    refine ⟨_, en.born, rfl, ⟨_, _, World.putObj_heap_same hlt, mapOk_set hm g2 g3 en.val (g := fun e => { e with key := slv x }) (by simp), ?_⟩, Kp_put⟩
    have hjl := (Array.getElem?_eq_some_iff.1 g2).1
    refine ⟨{ en with key := slv x }, ?_, rfl, rfl⟩
    rw [modify_toList]
    refine List.mem_of_getElem? (i := j) ?_
    rw [List.getElem?_modify]
    simp [g2]

theorem store_mapE {s : Nat} (hw : (mapE b f x s).ok w) (v : Value) : ∃ w', (Instr.entryStore t (.map (some b)) (.int .i64 (s : Nat)) v).run P w = .ok () w' ∧ (mapS b (updm f x v)).ok w' ∧ Kp (· = b) w w' := by
  obtain ⟨es, c, hb, hm, en, hen, hk, hs⟩ := hw
  have hlt := obj_lt hb
  obtain ⟨j, hj, hje⟩ := List.mem_iff_getElem.1 hen
  have hp := List.pairwise_iff_getElem.1 hm.2.2
  have hjs : j < es.size := by simpa using hj
  have hfind : es.findIdx? (fun e => (e.born : Int) == (s : Int)) = some j := by
    rw [Array.findIdx?_eq_some_iff_getElem]
    refine ⟨hjs, ?_, fun i hi => ?_⟩
    · have : es[j] = en := by simpa using hje
      rw [this, hs]; simp
    · have hne := (hp i j (by simp; omega) hj hi).2
      have h1 : es[j] = en := by simpa using hje
      simp only [Array.getElem_toList] at hne
      rw [h1, hs] at hne
      simp; omega
  unfold Instr.entryStore
  simp only [Sem.run_bind, run_getObj_map hb, Result.andThen_ok, asInt, asIntOf, Sem.run_pure, hfind, run_setObj_map _ hb]
  refine ⟨_, rfl, ⟨_, _, World.putObj_heap_same hlt, mapOk_set hm (e := en) (j := j) (by rw [Array.getElem?_eq_getElem hjs]; simpa using hje) hk v (g := fun e => { e with val := v }) ?_⟩, Kp_put⟩
  rw [← hk]
end
end Go.Proofs.Ytioimdegbdkppaa.DK
