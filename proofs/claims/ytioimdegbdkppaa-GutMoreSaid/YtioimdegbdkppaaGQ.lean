/- What is taken of all lots: in plain Lean. -/
import Derived.Test.YtioimdegbdkppaaGP
namespace Go.Proofs.Ytioimdegbdkppaa.DK
open Go
set_option linter.unusedVariables false

abbrev LD := Int × Int → Nat → Int
def tn (d : Day) : Nat := unseen d (fun _ => false) + 1
/-- One cran more of a lot. -/
def takeT (d : Day) (f : Nat → Int) (lot : Int) (ld : LD) : Bool × LD := ((takeF d f (tn d) lot ⟨fun _ => false, ld⟩).1, (takeF d f (tn d) lot ⟨fun _ => false, ld⟩).2.ld)
/-- n crans of a lot, as many as can be; how many are lost. -/
def takeN (d : Day) (f : Nat → Int) (lot : Int) : Nat → LD × Int → LD × Int
  | 0, s => s
  | n + 1, s => ((takeT d f lot (takeN d f lot n s).1).2, cond (takeT d f lot (takeN d f lot n s).1).1 (takeN d f lot n s).2 ((takeN d f lot n s).2 + 1))
/-- All crans of the first k lots. -/
def doneF (d : Day) (f : Nat → Int) : Nat → LD × Int
  | 0 => (fun _ _ => 0, 0)
  | k + 1 => takeN d f k (d.lots.getD k default).cr.toNat (doneF d f k)

section
variable {d : Day} {f : Nat → Int}
theorem okL_zero (m : Nat) : okL m (fun _ _ => 0) := fun s => ⟨fun i _ => ⟨by simp, fun h => by simp at h⟩, by rw [fsum8]; simp⟩
theorem okL_takeT (hv : dayV d = true) {lot : Int} (hl : 0 ≤ lot ∧ lot < d.lots.length) {ld : LD} (h : okL d.lots.length ld) : okL d.lots.length (takeT d f lot ld).2 := (keeps_take hv _).okL lot _ hl h
theorem takeN_ok (hv : dayV d = true) {lot : Int} (hl : 0 ≤ lot ∧ lot < d.lots.length) {s : LD × Int} (h : okL d.lots.length s.1) : ∀ n, okL d.lots.length (takeN d f lot n s).1 ∧ s.2 ≤ (takeN d f lot n s).2 ∧ (takeN d f lot n s).2 ≤ s.2 + n
  | 0 => ⟨h, by simp [takeN], by simp [takeN]⟩
  | n + 1 => by
    obtain ⟨h1, h2, h3⟩ := takeN_ok hv hl h n
    refine ⟨okL_takeT hv hl h1, ?_, ?_⟩
    · simp only [takeN]; cases (takeT d f lot (takeN d f lot n s).1).1 <;> simp <;> omega
    · simp only [takeN]; cases (takeT d f lot (takeN d f lot n s).1).1 <;> simp <;> omega
theorem doneF_ok (hv : dayV d = true) : ∀ k, k ≤ d.lots.length → okL d.lots.length (doneF d f k).1 ∧ 0 ≤ (doneF d f k).2 ∧ (doneF d f k).2 ≤ 50 * k
  | 0, _ => ⟨okL_zero _, by simp [doneF], by simp [doneF]⟩
  | k + 1, hk => by
    obtain ⟨h1, h2, h3⟩ := doneF_ok hv k (by omega)
    have hl := lot_ok hv (i := k) (by omega)
    obtain ⟨a, b, c⟩ := takeN_ok (f := f) hv (lot := (k : Int)) ⟨by omega, by omega⟩ h1 (d.lots.getD k default).cr.toNat
    refine ⟨a, ?_, ?_⟩
    · simp only [doneF]; omega
    · simp only [doneF]; omega
theorem takeN_succ_yes {lot : Int} {s : LD × Int} {n : Nat} (h : (takeT d f lot (takeN d f lot n s).1).1 = true) : takeN d f lot (n + 1) s = ((takeT d f lot (takeN d f lot n s).1).2, (takeN d f lot n s).2) := by simp only [takeN, h]; rfl
theorem takeN_succ_no {lot : Int} {s : LD × Int} {n : Nat} (h : (takeT d f lot (takeN d f lot n s).1).1 = false) : takeN d f lot (n + 1) s = ((takeT d f lot (takeN d f lot n s).1).2, (takeN d f lot n s).2 + 1) := by simp only [takeN, h]; rfl
end

def mo (bl : Nat) : Nat → Prop := fun k => k = bl
theorem chk_ok {d : Day} (h : (chk d != 0) = false) : dayV d = true := by
  unfold chk at h
  split at h
  · exact dayB_V (by assumption)
  · simp at h
theorem own_ne {w0 w : World} {M : Nat → Prop} {L : List Res} (hO : Own w0 M L w) (i j : Nat) {r s : Res} (hi : L[i]? = some r) (hj : L[j]? = some s) (hij : i ≠ j) {k k' : Nat} (hk : r.fp k) (hk' : s.fp k') : k ≠ k' := by
  intro e; subst e
  have hap := List.pairwise_iff_getElem.1 hO.apart
  obtain ⟨hil, rfl⟩ := List.getElem?_eq_some_iff.1 hi
  obtain ⟨hjl, rfl⟩ := List.getElem?_eq_some_iff.1 hj
  rcases Nat.lt_or_gt_of_ne hij with h | h
  · exact hap i j hil hjl h k hk hk'
  · exact hap j i hjl hil h k hk' hk

theorem own_new {w0 w : World} {bl : Nat} {L : List Res} (hO : Own w0 (mo bl) L w) (i : Nat) {r : Res} (hi : L[i]? = some r) {k : Nat} (hk : r.fp k) (hne : k ≠ bl) : w0.heap.size ≤ k := (hO.home r (List.mem_of_getElem? hi) k hk).resolve_right hne

/-- What a call of take is given. -/
theorem put_start {d : Day} {v : DV} {f : Nat → Int} {bd bs bl bw bc bp : Nat} {lot : Int} {ld : LD} {w0 w : World} {L : List Res} (hd : DayR bd w0 v d) (hb : bd ≤ w0.heap.size) (hbl : bd ≤ bl) (hO : Own w0 (mo bl) L w) (js jl jw jc jp : Nat)
    (h1 : L[js]? = some (mapT bs (.bool false) Value.bool fun _ => false)) (h2 : L[jl]? = some (mapT bl zld (arrV 8) ld)) {tw tc tp : TypeId} (h3 : L[jw]? = some (cel bw (workL v d f bl).toArray tw)) (h4 : L[jc]? = some (cel bc #[.map (some bs)] tc))
    (h5 : L[jp]? = some (cel bp #[.func (.func 73) #[] #[.pointer (some ⟨bw, 0, none⟩), .pointer (some ⟨bc, 0, none⟩), .pointer (some ⟨bp, 0, none⟩)]] tp))
    (hdis : js ≠ jl ∧ jw ≠ js ∧ jw ≠ jl ∧ jc ≠ js ∧ jc ≠ jl ∧ jp ≠ js ∧ jp ≠ jl) (hl : 0 ≤ lot ∧ lot < v.ln) (hok : okL d.lots.length ld) : PutPre d v f bd bs bl bw bc bp (tn d) lot ⟨fun _ => false, ld⟩ w := by
  obtain ⟨e1, e2, e3, e4, e5, e6, e7⟩ := hdis
  have n1 : bs ≠ bl := own_ne hO js jl h1 h2 e1 (k := bs) (k' := bl) rfl rfl
  have nm : ∀ k, k < bd → ¬ mo bl k := fun k hk h => by simp only [mo] at h; omega
  refine ⟨hd.kp hO.kp nm, Nat.le_trans hb hO.kp.size, n1, Nat.le_trans hb (own_new hO js h1 (k := bs) rfl n1), hbl, ?_, ?_, ?_, Ro.of_ok (hO.get jw h3), Ro.of_ok (cs := [.map (some bs)]) (hO.get jc h4), Ro.of_ok (cs := [_]) (hO.get jp h5), hO.get js h1, hO.get jl h2, hl, hok, by simp [tn]⟩
  · rintro (h | h)
    · exact own_ne hO jw js h3 h1 e2 (k := bw) (k' := bs) rfl rfl h
    · exact own_ne hO jw jl h3 h2 e3 (k := bw) (k' := bl) rfl rfl h
  · rintro (h | h)
    · exact own_ne hO jc js h4 h1 e4 (k := bc) (k' := bs) rfl rfl h
    · exact own_ne hO jc jl h4 h2 e5 (k := bc) (k' := bl) rfl rfl h
  · rintro (h | h)
    · exact own_ne hO jp js h5 h1 e6 (k := bp) (k' := bs) rfl rfl h
    · exact own_ne hO jp jl h5 h2 e7 (k := bp) (k' := bl) rfl rfl h

theorem own_fresh {w0 w : World} {L : List Res} (hO : Own w0 none_ L w) (i : Nat) {r : Res} (hi : L[i]? = some r) {k : Nat} (hk : r.fp k) : w0.heap.size ≤ k := (hO.home r (List.mem_of_getElem? hi) k hk).resolve_right (fun h => h)
theorem DayR.own_ {w0 w : World} {v : DV} {d : Day} {L : List Res} (h : DayR w0.heap.size w0 v d) (hO : Own w0 none_ L w) : DayR w0.heap.size w v d := h.ext hO.kp
theorem DayR.own2 {w0 w : World} {v : DV} {d : Day} {L : List Res} (h : DayR w0.heap.size w0 v d) (hO : Own w0 none_ L w) : DayR w.heap.size w v d := (h.ext hO.kp).bd_le hO.kp.size
/-- What Until answers. -/
def gutUntil (d : Day) (lot : Int) : Int × Int × Int :=
  if chk d ≠ 0 then (0, 0, chk d) else if inB lot 0 ((d.lots.length : Int) - 1) = true then (untils Sp.hi d lot.toNat, untils Sp.lo d lot.toNat, 0) else (0, 0, 7)

/-! ### The best plan -/
def tkOf (ld : LD) (i : Nat) (s : Int × Int) : List Tk := cond (cond (!(feq 8 (ld s) (fun _ => 0))) (decide (ld s i > 0)) false) [⟨i, s.1, s.2, ld s i⟩] []
def planS (ld : LD) (i : Nat) (l : List (Int × Int)) : List Tk := l.flatMap (tkOf ld i)
def planK (d : Day) (f : Nat → Int) (ld : LD) (k : Nat) : List Tk := (List.range k).flatMap fun i => planS ld i (slotsA d f i 0)
theorem planK_succ (d : Day) (f : Nat → Int) (ld : LD) (k : Nat) : planK d f ld (k + 1) = planK d f ld k ++ planS ld k (slotsA d f k 0) := by
  unfold planK
  rw [List.range_succ, List.flatMap_append]
  simp
theorem planS_no {ld : LD} {i : Nat} {s : Int × Int} {r : List (Int × Int)} (h : (cond (!(feq 8 (ld s) (fun _ => 0))) (decide (ld s i > 0)) false) = false) : planS ld i (s :: r) = planS ld i r := by
  simp [planS, tkOf, h]
theorem planS_yes {ld : LD} {i : Nat} {s : Int × Int} {r : List (Int × Int)} (h : (cond (!(feq 8 (ld s) (fun _ => 0))) (decide (ld s i > 0)) false) = true) : planS ld i (s :: r) = (⟨i, s.1, s.2, ld s i⟩ : Tk) :: planS ld i r := by
  simp [planS, tkOf, h]
theorem slotsA_len {d : Day} (hv : dayV d = true) (f : Nat → Int) (lot : Int) : (slotsA d f lot 0).length ≤ 200 := by
  have h1 : ∀ k, (slotsW d f lot k 0).length ≤ 24 := fun k => by
    unfold slotsW
    refine Nat.le_trans (List.length_filter_le _ _) ?_
    have := day_ok hv
    simp; omega
  have h2 : ∀ l : List Nat, (l.flatMap fun k => slotsW d f lot k 0).length ≤ 24 * l.length := by
    intro l
    induction l with
    | nil => simp
    | cons x l ih => rw [List.flatMap_cons, List.length_append, List.length_cons]; have := h1 x; omega
  have h3 := h2 (List.range' 0 (d.wks.length - 0))
  have := day_ok hv
  rw [List.length_range'] at h3
  unfold slotsA
  omega
theorem tkOf_len (ld : LD) (i : Nat) (s : Int × Int) : (tkOf ld i s).length ≤ 1 := by unfold tkOf; cases (cond (!(feq 8 (ld s) (fun _ => 0))) (decide (ld s i > 0)) false) <;> simp
theorem planS_len (ld : LD) (i : Nat) : ∀ l, (planS ld i l).length ≤ l.length
  | [] => by simp [planS]
  | x :: l => by
    have h1 := planS_len ld i l; have h2 := tkOf_len ld i x
    unfold planS at *
    rw [List.flatMap_cons, List.length_append, List.length_cons]; omega
theorem planK_len {d : Day} (hv : dayV d = true) (f : Nat → Int) (ld : LD) : ∀ k, (planK d f ld k).length ≤ 200 * k
  | 0 => by simp [planK]
  | k + 1 => by
    have h1 := planK_len hv f ld k; have h2 := slotsA_len hv f (k : Int); have h3 := planS_len ld k (slotsA d f k 0)
    rw [planK_succ, List.length_append]; omega
abbrev hot (d : Day) : Nat → Int := untils Sp.hi d
abbrev cool (d : Day) : Nat → Int := untils Sp.lo d
def bestP (d : Day) : List Tk := if chk d ≠ 0 then [] else planK d (hot d) (doneF d (hot d) d.lots.length).1 d.lots.length
def bestN (d : Day) : Int := if chk d ≠ 0 then 0 else (doneF d (hot d) d.lots.length).2

/-! ### The deficit of lots -/
def defS (d : Day) : List (Int × Int) → Int × (Int × Int → Bool) → Int × (Int × Int → Bool)
  | [], s => s
  | x :: r, s => defS d r (cond (cond (!(x.1 == (-1) && x.2 == (-1))) (!(s.2 x)) false) (s.1 - (d.wks.getD x.1.toNat default).rt, updt s.2 x true) s)
def defK (d : Day) (f : Nat → Int) (xs : List Int) : Nat → Int × (Int × Int → Bool)
  | 0 => (0, fun _ => false)
  | k + 1 => defS d (slotsA d f (xs.getD k default) 0) ((defK d f xs k).1 + (d.lots.getD (xs.getD k default).toNat default).cr, (defK d f xs k).2)
def defF (d : Day) (f : Nat → Int) (xs : List Int) : Int := (defK d f xs xs.length).1
theorem defS_yes {d : Day} {x : Int × Int} {r : List (Int × Int)} {q : Int} {S : Int × Int → Bool} (h : (cond (!(x.1 == (-1) && x.2 == (-1))) (!(S x)) false) = true) : defS d (x :: r) (q, S) = defS d r (q - (d.wks.getD x.1.toNat default).rt, updt S x true) := by
  show defS d r (cond (cond (!(x.1 == (-1) && x.2 == (-1))) (!(S x)) false) (q - (d.wks.getD x.1.toNat default).rt, updt S x true) (q, S)) = _; rw [h]; rfl
theorem defS_no {d : Day} {x : Int × Int} {r : List (Int × Int)} {q : Int} {S : Int × Int → Bool} (h : (cond (!(x.1 == (-1) && x.2 == (-1))) (!(S x)) false) = false) : defS d (x :: r) (q, S) = defS d r (q, S) := by
  show defS d r (cond (cond (!(x.1 == (-1) && x.2 == (-1))) (!(S x)) false) (q - (d.wks.getD x.1.toNat default).rt, updt S x true) (q, S)) = _; rw [h]; rfl
/-- Are the numbers below ln, each greater than the one before? -/
def risF (ln : Int) : Int → List Int → Bool
  | _, [] => true
  | last, i :: r => cond (inB i (last + 1) (ln - 1)) (risF ln i r) false
def gutDeficit (d : Day) (xs : List Int) : Int × Int := if chk d ≠ 0 then (0, chk d) else if risF d.lots.length (-1) xs = true then (defF d (hot d) xs, 0) else (0, 51)
def cransF (d : Day) : Int := (d.lots.map (·.cr)).sum
/-- Between what the fewest crans lie that are lost. -/
def toldLo (d : Day) : Int := if feq 8 (cool d) (hot d) = true then (doneF d (hot d) d.lots.length).2 else (doneF d (cool d) d.lots.length).2
def gutTold (d : Day) : Int × Int × Int := if chk d ≠ 0 then (0, 0, chk d) else (toldLo d, (doneF d (hot d) d.lots.length).2, 0)
theorem take_map {xs : List Lot} {k : Nat} (h : k < xs.length) : (xs.take (k + 1)).map (·.cr) = (xs.take k).map (·.cr) ++ [(xs.getD k default).cr] := by
  have : xs.getD k default = xs[k] := by simp [List.getD_eq_getElem?_getD, h]
  rw [List.take_succ_eq_append_getElem h, this, List.map_append]; rfl

/-! ### One worker more -/
def dayW (d : Day) (x : Wk) : Day := ⟨d.hours, d.heat, d.lots, d.wks ++ [x]⟩
def dvW (v : DV) (p : Option Addr) (c : Nat) : DV := ⟨v.ha, v.hn, v.hc, v.la, v.ln, v.lc, p, v.wn + 1, c⟩
theorem Rd.upM {α : Type} {enc : α → List Value} {sz bd : Nat} {w w' : World} {a : Option Addr} {n : Nat} {xs : List α} {M : Nat → Prop} (h : Rd enc sz bd w a n xs) (hk : Kp M w w') (hm : ∀ k, k < bd → ¬ M k) (hb : bd ≤ w.heap.size) : Rd enc sz w'.heap.size w' a n xs := (h.kp hk hm).bd_le (Nat.le_trans hb hk.size)
theorem Rd.nil {α : Type} {enc : α → List Value} {sz bd : Nat} {w : World} {a : Option Addr} {n : Nat} {xs : List α} (h : Rd enc sz bd w a n xs) : a = none → n = 0 := by
  intro ha
  subst ha
  have hl := h.len
  cases xs with
  | nil => simpa using hl.symm
  | cons x xs => obtain ⟨ad, h1, _⟩ := h.cells 0 x rfl; cases h1
theorem dayW_R {bd : Nat} {w : World} {v : DV} {d : Day} {x : Wk} {p : Option Addr} {c : Nat} (h : DayR bd w v d) (hr : Rd encWk 4 bd w p (v.wn + 1) (d.wks ++ [x])) (hc : v.wn + 1 ≤ c) : DayR bd w (dvW v p c) (dayW d x) :=
  ⟨h.heat, h.lots, hr, h.hlt, h.caps.1, h.caps.2.1, hc⟩
theorem dayW_V {d : Day} {x : Wk} (h : dayB d = true) (hx : wkB d.hours x = true) : dayV (dayW d x) = true := by
  have e : dayV (dayW d x) = ((inB d.hours 1 24 && decide ((d.heat.length : Int) = d.hours) && decide ((d.lots.length : Int) ≤ 8) && decide (((d.wks ++ [x]).length : Int) ≤ 7)) && d.heat.all spB && d.lots.all (lotB d.hours) && (d.wks ++ [x]).all (wkB d.hours)) := rfl
  rw [e]
  simp only [dayB, headB, Bool.and_eq_true, decide_eq_true_eq, List.all_append, List.all_cons, List.all_nil, List.length_append, List.length_singleton] at *
  obtain ⟨⟨⟨⟨⟨⟨a, b⟩, c⟩, e⟩, f⟩, g⟩, i⟩ := h
  exact ⟨⟨⟨⟨⟨⟨a, b⟩, c⟩, by omega⟩, f⟩, g⟩, i, hx, trivial⟩
theorem chk_okB {d : Day} (h : (chk d != 0) = false) : dayB d = true := by
  unfold chk at h
  split at h
  · assumption
  · simp at h
/-- What Help answers. -/
def helpN (d : Day) (x : Wk) : Int := (doneF (dayW d x) (hot (dayW d x)) d.lots.length).2
def helpK (d : Day) (l : List Wk) : Nat → Int × Int
  | 0 => (0, 0)
  | k + 1 => cond (cond ((k : Int) == 0) true (decide (helpN d (l.getD k default) < (helpK d l k).2))) ((k : Int), helpN d (l.getD k default)) (helpK d l k)
def helpOk (d : Day) (l : List Wk) : Bool := inB l.length 1 6 && l.all (wkB d.hours)
def gutHelp (d : Day) (l : List Wk) : Int × Int × Int := if chk d ≠ 0 then (0, 0, chk d) else if helpOk d l = true then ((helpK d l l.length).1, (helpK d l l.length).2, 0) else (0, 0, 52)

theorem bdd_cr {d : Day} (hv : dayV d = true) (k : Nat) : bdd ((d.lots.take k).map (·.cr)) := by
  have h0 := day_ok hv
  refine ⟨by rw [List.length_map, List.length_take]; omega, fun x hx => ?_⟩
  obtain ⟨l, hl, rfl⟩ := List.mem_map.1 hx
  have hl2 := List.mem_of_mem_take hl
  obtain ⟨i, hi, rfl⟩ := List.mem_iff_getElem.1 hl2
  have := lot_ok hv hi
  rw [show d.lots.getD i default = d.lots[i] from by simp [List.getD_eq_getElem?_getD, hi]] at this
  omega
section
variable {ln last : Int} {xs : List Int} {k : Nat}
theorem risF_step (hk : k < xs.length) (h : inB (xs.getD k default) (last + 1) (ln - 1) = true) : risF ln last (xs.drop k) = risF ln (xs.getD k default) (xs.drop (k + 1)) := by rw [drop_getD hk, risF, h]; rfl
theorem risF_bad (hk : k < xs.length) (h : inB (xs.getD k default) (last + 1) (ln - 1) = false) : risF ln last (xs.drop k) = false := by rw [drop_getD hk, risF, h]; rfl
theorem take_in {p : Int → Prop} (h : ∀ x ∈ xs.take k, p x) (hk : k < xs.length) (hp : p (xs.getD k default)) : ∀ x ∈ xs.take (k + 1), p x := by
  have e : xs.getD k default = xs[k] := by simp [List.getD_eq_getElem?_getD, hk]
  rw [List.take_succ_eq_append_getElem hk]
  intro x hx
  rcases List.mem_append.1 hx with hx | hx
  · exact h x hx
  · simp at hx; subst hx; rw [← e]; exact hp
theorem take_all_in {p : Int → Prop} (h : ∀ x ∈ xs.take k, p x) (hk : xs.length ≤ k) : ∀ x ∈ xs, p x := by rw [List.take_of_length_le hk] at h; exact h
end

theorem helpK_yes {d : Day} {l : List Wk} {k : Nat} (h : (cond ((k : Int) == 0) true (decide (helpN d (l.getD k default) < (helpK d l k).2))) = true) : helpK d l (k + 1) = ((k : Int), helpN d (l.getD k default)) := by rw [helpK, h]; rfl
theorem helpK_no {d : Day} {l : List Wk} {k : Nat} (h : (cond ((k : Int) == 0) true (decide (helpN d (l.getD k default) < (helpK d l k).2))) = false) : helpK d l (k + 1) = helpK d l k := by rw [helpK, h]; rfl
theorem helpOk_wk {d : Day} {l : List Wk} (h : helpOk d l = true) : ∀ k, k < l.length → wkB d.hours (l.getD k default) = true := by
  simp only [helpOk, Bool.and_eq_true, List.all_eq_true] at h
  exact fun k hk => h.2 _ (getD_mem hk)

/-! ### Is a plan one? -/
def plBad (d : Day) (f : Nat → Int) (t : Tk) : Bool :=
  cond (cond (cond (!(inB t.lot 0 ((d.lots.length : Int) - 1))) true (!(inB t.wk 0 ((d.wks.length : Int) - 1)))) true (!(canB d f t.lot (t.wk, t.hr)))) true (!(inB t.cr 1 50))
def plOver (d : Day) (T : Nat → Int) (B : Int × Int → Int) (t : Tk) : Bool :=
  cond (decide (T t.lot.toNat > (d.lots.getD t.lot.toNat default).cr)) true (decide (B (t.wk, t.hr) > (d.wks.getD t.wk.toNat default).rt))
def plT (T : Nat → Int) (t : Tk) : Nat → Int := updf T t.lot.toNat (T t.lot.toNat + t.cr)
def plB (B : Int × Int → Int) (t : Tk) : Int × Int → Int := updt B (t.wk, t.hr) (B (t.wk, t.hr) + t.cr)
def isP (d : Day) (f : Nat → Int) : List Tk → (Nat → Int) → (Int × Int → Int) → Option (Nat → Int)
  | [], T, _ => some T
  | t :: r, T, B => cond (plBad d f t) none (cond (plOver d (plT T t) (plB B t) t) none (isP d f r (plT T t) (plB B t)))
def isP0 (d : Day) (plan : List Tk) : Option (Nat → Int) := isP d (hot d) plan (fun _ => 0) (fun _ => 0)
def gutIsPlan (d : Day) (plan : List Tk) : Int × Bool × Int := if chk d ≠ 0 then (0, false, chk d) else if 400 < plan.length then (0, false, 0) else
  match isP0 d plan with | none => (0, false, 0) | some T => (cransF d - fsum d.lots.length T, true, 0)
theorem plGood {d : Day} {f : Nat → Int} {t : Tk} (h : plBad d f t = false) : inB t.lot 0 ((d.lots.length : Int) - 1) = true ∧ inB t.wk 0 ((d.wks.length : Int) - 1) = true ∧ canB d f t.lot (t.wk, t.hr) = true ∧ inB t.cr 1 50 = true := by
  unfold plBad at h
  cases h1 : inB t.lot 0 ((d.lots.length : Int) - 1) <;> cases h2 : inB t.wk 0 ((d.wks.length : Int) - 1) <;> cases h3 : canB d f t.lot (t.wk, t.hr) <;> cases h4 : inB t.cr 1 50 <;> simp_all
theorem plWithin {d : Day} {T : Nat → Int} {B : Int × Int → Int} {t : Tk} (h : plOver d T B t = false) : T t.lot.toNat ≤ (d.lots.getD t.lot.toNat default).cr ∧ B (t.wk, t.hr) ≤ (d.wks.getD t.wk.toNat default).rt := by
  unfold plOver at h
  by_cases h1 : T t.lot.toNat > (d.lots.getD t.lot.toNat default).cr <;> by_cases h2 : B (t.wk, t.hr) > (d.wks.getD t.wk.toNat default).rt <;> simp_all
section
variable {d : Day} {f : Nat → Int} {plan : List Tk} {k : Nat} {T : Nat → Int} {B : Int × Int → Int}
theorem isP_bad (hk : k < plan.length) (h : plBad d f (plan.getD k default) = true) : isP d f (plan.drop k) T B = none := by rw [drop_getD hk, isP, h]; rfl
theorem isP_over (hk : k < plan.length) (h : plBad d f (plan.getD k default) = false) (h2 : plOver d (plT T (plan.getD k default)) (plB B (plan.getD k default)) (plan.getD k default) = true) : isP d f (plan.drop k) T B = none := by rw [drop_getD hk, isP, h, h2]; rfl
theorem isP_on (hk : k < plan.length) (h : plBad d f (plan.getD k default) = false) (h2 : plOver d (plT T (plan.getD k default)) (plB B (plan.getD k default)) (plan.getD k default) = false) :
    isP d f (plan.drop k) T B = isP d f (plan.drop (k + 1)) (plT T (plan.getD k default)) (plB B (plan.getD k default)) := by rw [drop_getD hk, isP, h, h2]; rfl
theorem bdd_T {m : Nat} (hm : m ≤ 1000) (h : ∀ i, i < m → 0 ≤ T i ∧ T i ≤ 50) : bdd ((List.range m).map T) := by
  refine ⟨by rw [List.length_map, List.length_range]; omega, fun x hx => ?_⟩
  simp only [List.mem_map, List.mem_range] at hx
  obtain ⟨i, hi, rfl⟩ := hx
  have := h i hi
  omega
theorem fsum_bd {m : Nat} (hm : m ≤ 1000) (h : ∀ i, i < m → 0 ≤ T i ∧ T i ≤ 50) : -1000000000000 ≤ fsum m T ∧ fsum m T ≤ 1000000000000 := by
  have := sum_bd (bdd_T hm h) ((List.range m).map T).length
  rw [List.take_length] at this
  exact this
theorem cransF_bd (hv : dayV d = true) : -1000000000000 ≤ cransF d ∧ cransF d ≤ 1000000000000 := by
  have := sum_bd (bdd_cr hv d.lots.length) ((d.lots.take d.lots.length).map (·.cr)).length
  rw [List.take_length, List.take_length] at this
  exact this
theorem guard2 {a b : Bool} (h : (!(cond (!a) true (!b))) = true) : a = true ∧ b = true := by cases a <;> cases b <;> simp_all
end

theorem plT_ok {T : Nat → Int} {t : Tk} {m : Nat} (h : ∀ i, i < m → 0 ≤ T i ∧ T i ≤ 50) (h0 : 0 ≤ T t.lot.toNat + t.cr) (h1 : T t.lot.toNat + t.cr ≤ 50) : ∀ i, i < m → 0 ≤ plT T t i ∧ plT T t i ≤ 50 := by
  intro i hi
  unfold plT updf
  split
  · exact ⟨h0, h1⟩
  · exact h i hi
theorem plB_ok {B : Int × Int → Int} {t : Tk} (h : ∀ x, 0 ≤ B x ∧ B x ≤ 20) (h0 : 0 ≤ B (t.wk, t.hr) + t.cr) (h1 : B (t.wk, t.hr) + t.cr ≤ 20) : ∀ x, 0 ≤ plB B t x ∧ plB B t x ≤ 20 := by
  intro x
  unfold plB updt
  split
  · exact ⟨h0, h1⟩
  · exact h x

theorem plT_at {T : Nat → Int} {t : Tk} : plT T t t.lot.toNat = T t.lot.toNat + t.cr := by simp [plT, updf]
theorem plB_at {B : Int × Int → Int} {t : Tk} : plB B t (t.wk, t.hr) = B (t.wk, t.hr) + t.cr := by simp [plB, updt]

end Go.Proofs.Ytioimdegbdkppaa.DK
