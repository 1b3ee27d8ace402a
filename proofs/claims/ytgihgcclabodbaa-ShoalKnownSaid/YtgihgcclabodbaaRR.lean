/- What the rows have in common: a sea with reports that came in, casts, numbers. -/
import Derived.Test.YtgihgcclabodbaaRows
import Derived.Test.YtgihgcclabodbaaR0
import Derived.Test.YtgihgcclabodbaaSAsk
import Derived.WalkKit
import Derived.ProofKit
import Derived.OpenShut
import Derived.ChangeOld
import Derived.Carry
import Derived.SizedLaws
namespace Go.Proofs.Ytgihgcclabodbaa.DK
open Go Go.ChangeShapes Go.WideShapes Go.ChangeAt Go.RowKit Go.Joins Go.Deep Go.Proofs
set_option linter.unusedVariables false

theorem ownK : ownKnob Try.prog.godebug = none := by kernel_rfl
theorem laidK : laidOutB Try.prog = true := by kernel_rfl
theorem wf_i64 {n : Int} (h : (Lit.int .i64 n).wf = true) : i64 n := by
  simp only [Lit.wf, Bool.and_eq_true, decide_eq_true_eq] at h
  have h1 : IntKind.i64.min = -9223372036854775808 := by decide
  have h2 : IntKind.i64.max = 9223372036854775807 := by decide
  rw [h1, h2] at h
  exact h
def okI (u : Value) : Prop := ∃ n, u = .int .i64 n ∧ i64 n
def okB (u : Value) : Prop := ∃ b, u = .bool b
def toI : Value → Int | .int _ n => n | _ => 0
def toB : Value → Bool | .bool b => b | _ => false
section
variable {H : Type} {en : TypeId × Value → H} {P : Program} {w : World} {base : Nat} {spare : Nat → Bool} {held : Bool}
theorem open_rowsG {α : Type} [Inhabited α] (enc : α → List Value) (mk : (Nat → Value) → α) (Q : α → Prop) (k : Nat) (okj : Nat → Value → Prop) (henc : ∀ g, (∀ j, j < k → okj j (g j)) → enc (mk g) = (List.range k).map g ∧ Q (mk g))
    {t e : TypeId} {fs : Array Field} {fuel : Nat} {v : Value} {x : DataW H × List MemPlace} (ht : P.underlying t = some (.slice e)) (he : P.underlying e = some (.struct fs))
    (hone : oneCellFields P fs = true) (hC : P.cellsOf e = k) (hk : 0 < k) (hfk : ∀ j, j < k → ∃ f, fs[j]? = some f) (hint : ∀ j f, fs[j]? = some f → ∀ fuel c y, DataW.trod en P w base spare held fuel f.type [c] = some y → okj j c) (h : DataW.trod en P w base spare held fuel t [v] = some x) :
    ∃ (a : Option Addr) (len cap : Nat) (ys : List α), v = .slice a len cap ∧ (len ≤ 9223372036854775807 → Rd enc k w.heap.size w a len ys) ∧ len ≤ cap ∧ len ≤ 9223372036854775807 ∧ ∀ y ∈ ys, Q y := by
  rcases open_slice ht h with ⟨h0, _⟩ | ⟨a, len, cap, m, n, D, Pl, hcs, hb, hl, hm, hmm, hx, hi⟩
  · simp at h0
    subst h0
    exact ⟨none, 0, 0, [], rfl, fun _ => ⟨rfl, by omega, by simp⟩, Nat.le_refl _, by omega, by simp⟩
  · simp at hcs
    subst hcs
    have cell : ∀ i, i < len → ∀ j, j < k → ∃ u, w.cell? ((a.add (i * k)).add j) = some u ∧ okj j u := by
      intro i hil j hj
      obtain ⟨cs', hc, ht'⟩ := hi i (by rw [hmm]; split <;> omega)
      rw [hC] at hc
      obtain ⟨ys, n', hn', hy, hlen, hyl, hf⟩ := DataW.trod_struct he ht'
      obtain ⟨_, hcl, hat⟩ := World.cells?_some hc
      have hj2 : j < cs'.length := by omega
      obtain ⟨f, hfj⟩ := hfk j hj
      obtain ⟨ho, hk1⟩ := hone_of hone j f hfj
      have h1 := hf j f hfj
      rw [ho, hk1] at h1
      have hone' : (cs'.drop j).take 1 = [cs'[j]] := by rw [List.drop_eq_getElem_cons hj2]; rfl
      rw [hone'] at h1
      have hys : j < ys.length := by rw [hyl]; exact (Array.getElem?_eq_some_iff.1 hfj).1
      rw [List.getElem?_eq_getElem hys] at h1
      exact ⟨cs'[j], by rw [hat j hj, List.getElem?_eq_getElem hj2], hint j f hfj _ _ _ h1⟩
    have getc : ∀ i j, i < len → j < k → w.cell? ((a.add (i * k)).add j) = some ((w.cell? ((a.add (i * k)).add j)).getD (.bool false)) ∧ okj j ((w.cell? ((a.add (i * k)).add j)).getD (.bool false)) := by
      intro i j hil hj
      obtain ⟨u, hu, ho⟩ := cell i hil j hj
      rw [hu]; exact ⟨rfl, ho⟩
    refine ⟨some a, len, cap, (List.range len).map fun i => mk fun j => (w.cell? ((a.add (i * k)).add j)).getD (.bool false), rfl, fun hsz => ⟨by simp, hsz, fun i y hy => ?_⟩, hl, by have h9 := hm; simp only [maxLen] at h9; omega, fun y hy => ?_⟩
    · simp only [List.getElem?_map, Option.map_eq_some_iff] at hy
      obtain ⟨i', hi', rfl⟩ := hy
      obtain ⟨hil, rfl⟩ := List.getElem?_eq_some_iff.1 hi'
      simp only [List.length_range] at hil
      simp only [List.getElem_range]
      refine ⟨a, rfl, ?_, fun j v hv => ?_⟩
      · have := block_lt (getc i 0 hil hk).1
        rwa [DK.add_block, DK.add_block] at this
      · rw [(henc _ fun j hj => (getc i j hil hj).2).1] at hv
        simp only [List.getElem?_map, Option.map_eq_some_iff] at hv
        obtain ⟨j', hj', rfl⟩ := hv
        obtain ⟨hjl, rfl⟩ := List.getElem?_eq_some_iff.1 hj'
        simp only [List.length_range] at hjl
        simp only [List.getElem_range]
        exact (getc i j hil hjl).1
    · obtain ⟨i, hi, rfl⟩ := List.mem_map.1 hy
      exact (henc _ fun j hj => (getc i j (List.mem_range.1 hi) hj).2).2
end
noncomputable def fd (t j : Nat) : Field := (Try.prog.fieldsOf t)[j]!
section
variable {H : Type} {enc : TypeId × Value → H} {W : World} {b0 : Nat} {v : Value} {d : DataW H} {p : List MemPlace}
theorem int_ok {t : TypeId} (hu : Try.prog.underlying t = some (.int .i64)) {fuel : Nat} {c : Value} {y : DataW H × List MemPlace} {bs : Nat} {sp : Nat → Bool} {hd : Bool} (h : DataW.trod enc Try.prog W bs sp hd fuel t [c] = some y) : okI c := by
  obtain ⟨n, e, _, hw⟩ := DataW.trod_int hu h
  simp at e
  exact ⟨n, e, wf_i64 hw⟩
theorem bool_ok {t : TypeId} (hu : Try.prog.underlying t = some .bool) {fuel : Nat} {c : Value} {y : DataW H × List MemPlace} {bs : Nat} {sp : Nat → Bool} {hd : Bool} (h : DataW.trod enc Try.prog W bs sp hd fuel t [c] = some y) : okB c := by
  obtain ⟨n, e, _⟩ := DataW.trod_bool hu h
  simp at e
  exact ⟨n, e⟩
theorem okI_to {u : Value} (h : okI u) : .int .i64 (toI u) = u ∧ i64 (toI u) := by obtain ⟨n, rfl, h⟩ := h; exact ⟨rfl, h⟩
theorem okB_to {u : Value} (h : okB u) : .bool (toB u) = u := by obtain ⟨n, rfl⟩ := h; rfl
def rpk (j : Nat) (u : Value) : Prop := if j < 3 then okI u else okB u
set_option maxRecDepth 100000 in
theorem open_reps {fuel : Nat} {x : DataW H × List MemPlace} (h : DataW.trod enc Try.prog W 0 (fun _ => true) true fuel 26 [v] = some x) :
    ∃ (a : Option Addr) (len cap : Nat) (ys : List Rp), v = .slice a len cap ∧ (len ≤ 9223372036854775807 → Rd encRp 4 W.heap.size W a len ys) ∧ len ≤ cap ∧ len ≤ 9223372036854775807 ∧ ∀ y ∈ ys, True := by
  refine open_rowsG encRp (fun g => ⟨toI (g 0), toI (g 1), toI (g 2), toB (g 3)⟩) (fun _ => True) 4 rpk (fun g hg => ⟨?_, trivial⟩) (e := 52) (fs := #[fd 52 0, fd 52 1, fd 52 2, fd 52 3]) (by kernel_rfl) (by kernel_rfl) (by kernel_rfl) (by kernel_rfl) (by decide) (fun j hj => ?_) (fun j f hf fuel c y hy => ?_) h
  · have h0 := (okI_to (hg 0 (by omega))).1; have h1 := (okI_to (hg 1 (by omega))).1; have h2 := (okI_to (hg 2 (by omega))).1; have h3 := okB_to (hg 3 (by omega))
    show [Value.int .i64 (toI (g 0)), .int .i64 (toI (g 1)), .int .i64 (toI (g 2)), .bool (toB (g 3))] = [g 0, g 1, g 2, g 3]
    rw [h0, h1, h2, h3]
  · match j, hj with
    | 0, _ => exact ⟨_, rfl⟩
    | 1, _ => exact ⟨_, rfl⟩
    | 2, _ => exact ⟨_, rfl⟩
    | 3, _ => exact ⟨_, rfl⟩
  · match j, hf with
    | 0, hf => cases hf; exact int_ok (by kernel_rfl) hy
    | 1, hf => cases hf; exact int_ok (by kernel_rfl) hy
    | 2, hf => cases hf; exact int_ok (by kernel_rfl) hy
    | 3, hf => cases hf; exact bool_ok (by kernel_rfl) hy
    | j + 4, hf => simp at hf
set_option maxRecDepth 100000 in
theorem open_casts {fuel : Nat} {x : DataW H × List MemPlace} (h : DataW.trod enc Try.prog W 0 (fun _ => true) true fuel 44 [v] = some x) :
    ∃ (a : Option Addr) (len cap : Nat) (ys : List Cs), v = .slice a len cap ∧ (len ≤ 9223372036854775807 → Rd encCs 2 W.heap.size W a len ys) ∧ len ≤ cap ∧ len ≤ 9223372036854775807 ∧ ∀ y ∈ ys, i64 y.cell := by
  refine open_rowsG encCs (fun g => ⟨toI (g 0), toI (g 1)⟩) (fun y => i64 y.cell) 2 (fun _ => okI) (fun g hg => ?_) (e := 64) (fs := #[fd 64 0, fd 64 1]) (by kernel_rfl) (by kernel_rfl) (by kernel_rfl) (by kernel_rfl) (by decide) (fun j hj => ?_) (fun j f hf fuel c y hy => ?_) h
  · have h0 := okI_to (hg 0 (by omega)); have h1 := okI_to (hg 1 (by omega))
    refine ⟨?_, h0.2⟩
    show [Value.int .i64 (toI (g 0)), .int .i64 (toI (g 1))] = [g 0, g 1]
    rw [h0.1, h1.1]
  · match j, hj with
    | 0, _ => exact ⟨_, rfl⟩
    | 1, _ => exact ⟨_, rfl⟩
  · match j, hf with
    | 0, hf => cases hf; exact int_ok (by kernel_rfl) hy
    | 1, hf => cases hf; exact int_ok (by kernel_rfl) hy
    | j + 2, hf => simp at hf
theorem getD_all {α : Type} [Inhabited α] {Q : α → Prop} {ys : List α} (h : ∀ y ∈ ys, Q y) : ∀ i, i < ys.length → Q (ys.getD i default) := fun i hi => h _ (getD_mem hi)
theorem one_of {L : List Value} {j : Nat} (h : j < L.length) : (L.drop j).take 1 = [L.getD j (.bool false)] := by
  rw [List.drop_eq_getElem_cons h]
  show [L[j]] = _
  rw [List.getD_eq_getElem?_getD, List.getElem?_eq_getElem h]; rfl
set_option maxRecDepth 100000 in
/-- A sea with reports that came in. -/
theorem open_search (hv : Value.okWide Try.prog W .any b0 28 v) (h : DataW.Trod enc Try.prog W 0 (fun _ => true) true 28 v d p) :
    ∃ (s : Sea) (sv : SV) (rs : List Rp) (q : Option Addr) (n c : Nat), v = .agg #[.int .i64 s.wide, .int .i64 s.high, .slice sv.la sv.ln sv.lc, .int .i64 s.hours, .slice sv.da sv.dn sv.dc, .int .i64 s.speed, .slice q n c] ∧ SeaR W.heap.size W sv s ∧ Rd encRp 4 W.heap.size W q n rs := by
  have ht : Try.prog.underlying 28 = some (.struct #[fd 28 0, fd 28 1]) := by kernel_rfl
  have ht2 : Try.prog.underlying 25 = some (.struct #[fd 25 0, fd 25 1, fd 25 2, fd 25 3, fd 25 4, fd 25 5]) := by kernel_rfl
  have hC : Try.prog.cellsOf 28 = 7 := by kernel_rfl
  have h9 := hv
  simp only [Value.okWide, ht] at h9
  obtain ⟨cs, rfl, hsz, _⟩ := h9
  rw [hC] at hsz
  obtain ⟨m, hm⟩ := h
  obtain ⟨xs, k, _, _, _, hl, hf⟩ := DataW.trod_struct ht hm
  have e0 := hf 0 (fd 28 0) rfl
  have e1 := hf 1 (fd 28 1) rfl
  have hx0 : xs[0]? = some (xs[0]'(by rw [hl]; decide)) := List.getElem?_eq_getElem _
  have hx1 : xs[1]? = some (xs[1]'(by rw [hl]; decide)) := List.getElem?_eq_getElem _
  rw [hx0] at e0; rw [hx1] at e1
  obtain ⟨L, hL⟩ : ∃ L, (Value.agg cs).cells.toList = L := ⟨_, rfl⟩
  have hLc : cs.toList = L := hL
  have hLl : L.length = 7 := by rw [← hLc]; simpa using hsz
  rw [hL] at e0 e1
  rw [show (fd 28 0).type = 25 by kernel_rfl, show (fd 28 0).offset = 0 by kernel_rfl, show Try.prog.cellsOf 25 = 6 by kernel_rfl] at e0
  rw [show (fd 28 1).type = 26 by kernel_rfl, show (fd 28 1).offset = 6 by kernel_rfl, show Try.prog.cellsOf 26 = 1 by kernel_rfl, one_of (by omega)] at e1
  obtain ⟨ys, k2, _, _, _, hl2, hf2⟩ := DataW.trod_struct ht2 e0
  have fld : ∀ j, j < 6 → ∀ f, #[fd 25 0, fd 25 1, fd 25 2, fd 25 3, fd 25 4, fd 25 5][j]? = some f → f.offset = j → Try.prog.cellsOf f.type = 1 → ∃ y, DataW.trod enc Try.prog W 0 (fun _ => true) true k2 f.type [L.getD j (.bool false)] = some y := by
    intro j hj f hfj ho hc
    have h1 := hf2 j f hfj
    have hys : j < ys.length := by rw [hl2]; exact hj
    rw [List.getElem?_eq_getElem hys, ho, hc, one_of (by simp; omega)] at h1
    refine ⟨ys[j], ?_⟩
    rw [show L.getD j (.bool false) = ((L.drop 0).take 6).getD j (.bool false) by simp [List.getD_eq_getElem?_getD, hj]]
    exact h1
  obtain ⟨y0, g0⟩ := fld 0 (by omega) (fd 25 0) rfl (by kernel_rfl) (by kernel_rfl)
  obtain ⟨y1, g1⟩ := fld 1 (by omega) (fd 25 1) rfl (by kernel_rfl) (by kernel_rfl)
  obtain ⟨y2, g2⟩ := fld 2 (by omega) (fd 25 2) rfl (by kernel_rfl) (by kernel_rfl)
  obtain ⟨y3, g3⟩ := fld 3 (by omega) (fd 25 3) rfl (by kernel_rfl) (by kernel_rfl)
  obtain ⟨y4, g4⟩ := fld 4 (by omega) (fd 25 4) rfl (by kernel_rfl) (by kernel_rfl)
  obtain ⟨y5, g5⟩ := fld 5 (by omega) (fd 25 5) rfl (by kernel_rfl) (by kernel_rfl)
  obtain ⟨n0, q0, i0⟩ := int_ok (t := (fd 25 0).type) (by kernel_rfl) g0
  obtain ⟨n1, q1, i1⟩ := int_ok (t := (fd 25 1).type) (by kernel_rfl) g1
  obtain ⟨n3, q3, i3⟩ := int_ok (t := (fd 25 3).type) (by kernel_rfl) g3
  obtain ⟨n5, q5, i5⟩ := int_ok (t := (fd 25 5).type) (by kernel_rfl) g5
  obtain ⟨la, ln, lc, land, q2, hR2, hc2, hz2⟩ := open_irows (t := (fd 25 2).type) (e := 3) (by kernel_rfl) (by kernel_rfl) (by kernel_rfl) g2
  obtain ⟨da, dn, dc, drift, q4, hR4, hc4, hz4⟩ := open_rows (α := St) encSt (fun g => ⟨g 0, g 1⟩) 2 (fun _ => rfl) (t := (fd 25 4).type) (e := 70) (fs := Try.prog.fieldsOf 70) (by kernel_rfl) (by kernel_rfl) (by kernel_rfl) (by kernel_rfl) (by kernel_rfl) (by decide) g4
  obtain ⟨ra, rn, rc, rs, q6, hR6, hc6, hz6, _⟩ := open_reps e1
  refine ⟨⟨n0, n1, land, n3, drift, n5⟩, ⟨la, ln, lc, da, dn, dc⟩, rs, ra, rn, rc, ?_, ⟨hR2 hz2, hR4 hz4, ⟨i0, i1, i3, i5⟩, hc2, hc4⟩, hR6 hz6⟩
  congr 1
  apply Array.ext'
  rw [hLc]
  match L, hLl, q0, q1, q2, q3, q4, q5, q6 with
  | [c0, c1, c2, c3, c4, c5, c6], _, q0, q1, q2, q3, q4, q5, q6 =>
    simp at q0 q1 q2 q3 q4 q5 q6
    rw [q0, q1, q2, q3, q4, q5, q6]
set_option maxRecDepth 100000 in
theorem open_arr2 (hv : Value.okWide Try.prog W .any b0 38 v) (h : DataW.Trod enc Try.prog W 0 (fun _ => true) true 38 v d p) : ∃ nf : Nat → Int, v = .agg (arrL 2 nf).toArray ∧ ∀ i, i < 2 → i64 (nf i) := by
  have ht : Try.prog.underlying 38 = some (.array 2 3) := by kernel_rfl
  have hC : Try.prog.cellsOf 38 = 2 := by kernel_rfl
  have hC3 : Try.prog.cellsOf 3 = 1 := by kernel_rfl
  have h9 := hv
  simp only [Value.okWide, ht] at h9
  obtain ⟨cs, rfl, hsz, _⟩ := h9
  rw [hC] at hsz
  obtain ⟨m, hm⟩ := h
  obtain ⟨xs, k, _, _, _, hl, hx⟩ := DataW.trod_array ht hm
  rw [hC3] at hx
  have get : ∀ i, i < 2 → ∃ n : Int, cs[i]? = some (.int .i64 n) ∧ i64 n := fun i hi => by
    have h1 := hx i hi
    rw [List.getElem?_eq_getElem (by omega)] at h1
    have e : (((Value.agg cs).cells.toList).drop (i * 1)).take 1 = [cs[i]'(by omega)] := by
      show ((cs.toList).drop (i * 1)).take 1 = _
      rw [Nat.mul_one, List.drop_eq_getElem_cons (by simp; omega)]
      simp
    rw [e] at h1
    obtain ⟨n0, hn0, hi0⟩ := int_ok (by kernel_rfl) h1
    exact ⟨n0, by rw [Array.getElem?_eq_getElem (by omega), hn0], hi0⟩
  obtain ⟨n0, g0, i0⟩ := get 0 (by omega)
  obtain ⟨n1, g1, i1⟩ := get 1 (by omega)
  refine ⟨fun i => if i = 0 then n0 else n1, ?_, fun i hi => by match i, hi with | 0, _ => exact i0 | 1, _ => exact i1⟩
  congr 1
  apply Array.ext_getElem?
  intro i
  match i with
  | 0 => rw [g0]; rfl
  | 1 => rw [g1]; rfl
  | i + 2 => rw [Array.getElem?_eq_none (by omega), Array.getElem?_eq_none (by simp [arrL, fcells])]
/-- Casts that came in take no more than memory bears. -/
theorem casts_size {fuel : Nat} {x : DataW H × List MemPlace} {a : Option Addr} {len cap : Nat} (h : DataW.trod enc Try.prog W 0 (fun _ => true) true fuel 44 [.slice a len cap] = some x) {l : List Nat} (hw : l.all (· ≤ reachBytes) = true) (hm : ∀ u ∈ DataW.weights Try.prog 44 x.1, u ∈ l) : len ≤ 8796093022207 := by
  have hs : Try.prog.underlying 44 = some (.slice 64) := by kernel_rfl
  have hb : Try.prog.bytesOf 64 = 16 := by kernel_rfl
  rcases open_slice hs h with ⟨h4, _⟩ | ⟨a, len, cap, m, k, D, Pl, hcs, _, hl, hm2, hmm, hx, _⟩
  · simp at h4; omega
  · simp at hcs
    obtain ⟨_, rfl, rfl⟩ := hcs
    have hmem := hm ((((List.range len).map D).length + ((List.range (m - len)).map fun j => D (len + j)).length) * 16) (by
      rw [hx]
      simp only [DataW.weights, hs, hb]
      exact List.mem_cons_self ..)
    have h9 := List.all_eq_true.1 hw _ hmem
    have h10 := of_decide_eq_true h9
    have h11 : reachBytes = 140737488351232 := by decide
    rw [h11] at h10
    simp only [List.length_map, List.length_range] at h10
    omega
theorem casts_size3 {fuel : Nat} {d2 : DataW H} {p2 : List MemPlace} {a : Option Addr} {len cap : Nat} (h : DataW.trod enc Try.prog W 0 (fun _ => true) true fuel 44 [.slice a len cap] = some (d2, p2)) {t0 t1 : TypeId} {ts : List TypeId} {d0 d1 : DataW H} {ds : List (DataW H)}
    (hw : (DataW.weightsEach Try.prog (t0 :: t1 :: 44 :: ts) (d0 :: d1 :: d2 :: ds)).all (· ≤ reachBytes) = true) : len ≤ 8796093022207 :=
  casts_size h hw fun u hu => by
    simp only [DataW.weightsEach, List.mem_append]
    exact .inr (.inr (.inl hu))
end
end Go.Proofs.Ytgihgcclabodbaa.DK
