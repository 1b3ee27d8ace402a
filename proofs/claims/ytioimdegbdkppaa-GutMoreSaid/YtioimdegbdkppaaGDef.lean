/- The words of the gutting: days, lots, workers, as Lean data; how they lie in memory. -/
import Derived.Test.YtioimdegbdkppaaKK
namespace Go.Proofs.Ytioimdegbdkppaa.DK
open Go

structure Sp where
  lo : Int
  hi : Int
  deriving Inhabited, DecidableEq
structure Lot where
  cr : Int
  la : Int
  ke : Int
  fi : Int
  deriving Inhabited, DecidableEq
structure Wk where
  kd : Int
  fr : Int
  to : Int
  rt : Int
  deriving Inhabited, DecidableEq
structure Tk where
  lot : Int
  wk : Int
  hr : Int
  cr : Int
  deriving Inhabited, DecidableEq
structure Day where
  hours : Int
  heat : List Sp
  lots : List Lot
  wks : List Wk
  deriving Inhabited

def encI (x : Int) : List Value := [.int .i64 x]
def encSp (x : Sp) : List Value := [.int .i64 x.lo, .int .i64 x.hi]
def encLot (x : Lot) : List Value := [.int .i64 x.cr, .int .i64 x.la, .int .i64 x.ke, .int .i64 x.fi]
def encWk (x : Wk) : List Value := [.int .i64 x.kd, .int .i64 x.fr, .int .i64 x.to, .int .i64 x.rt]
def encTk (x : Tk) : List Value := [.int .i64 x.lot, .int .i64 x.wk, .int .i64 x.hr, .int .i64 x.cr]

/-- Where a day's slices lie. -/
structure DV where
  ha : Option Addr
  hn : Nat
  hc : Nat
  la : Option Addr
  ln : Nat
  lc : Nat
  wa : Option Addr
  wn : Nat
  wc : Nat

/-- The day d lies in memory as v says, below block bd. -/
structure DayR (bd : Nat) (w : World) (v : DV) (d : Day) : Prop where
  heat : Rd encSp 2 bd w v.ha v.hn d.heat
  lots : Rd encLot 4 bd w v.la v.ln d.lots
  wks : Rd encWk 4 bd w v.wa v.wn d.wks
  hlt : -9223372036854775808 ≤ d.hours ∧ d.hours ≤ 9223372036854775807
  caps : v.hn ≤ v.hc ∧ v.ln ≤ v.lc ∧ v.wn ≤ v.wc

theorem DayR.kp {bd : Nat} {w w' : World} {v : DV} {d : Day} {M : Nat → Prop} (h : DayR bd w v d) (hk : Kp M w w') (hm : ∀ k, k < bd → ¬ M k) : DayR bd w' v d := ⟨h.heat.kp hk hm, h.lots.kp hk hm, h.wks.kp hk hm, h.hlt, h.caps⟩
theorem DayR.ext {bd : Nat} {w w' : World} {v : DV} {d : Day} (h : DayR bd w v d) (hk : Ext w w') : DayR bd w' v d := h.kp hk nom
theorem DayR.bd_le {bd bd' : Nat} {w : World} {v : DV} {d : Day} (h : DayR bd w v d) (hb : bd ≤ bd') : DayR bd' w v d := ⟨h.heat.bd_le hb, h.lots.bd_le hb, h.wks.bd_le hb, h.hlt, h.caps⟩

theorem DayR.upM {bd : Nat} {w w' : World} {v : DV} {d : Day} {M : Nat → Prop} (h : DayR bd w v d) (hk : Kp M w w') (hm : ∀ k, k < bd → ¬ M k) (hb : bd ≤ w.heap.size) : DayR w'.heap.size w' v d := (h.kp hk hm).bd_le (Nat.le_trans hb hk.size)

def inB (n lo hi : Int) : Bool := cond (decide (lo ≤ n)) (decide (n ≤ hi)) false
theorem inB_iff {n lo hi : Int} : inB n lo hi = true ↔ lo ≤ n ∧ n ≤ hi := by unfold inB; by_cases h : lo ≤ n <;> simp [h]
def andB (a b : Bool) : Bool := cond a b false
theorem andB_iff {a b : Bool} : andB a b = true ↔ a = true ∧ b = true := by cases a <;> simp [andB]

theorem take_all {α : Type} [Inhabited α] (p : α → Bool) {xs : List α} {k : Nat} (h : k < xs.length) : (xs.take (k + 1)).all p = ((xs.take k).all p && p (xs.getD k default)) := by
  have : xs.getD k default = xs[k] := by simp [List.getD_eq_getElem?_getD, h]
  rw [List.take_succ_eq_append_getElem h, List.all_append, this]
  simp

def spB (x : Sp) : Bool := cond (cond (decide (0 ≤ x.lo)) (decide (x.lo ≤ x.hi)) false) (decide (x.hi ≤ 100)) false
def lotB (hours : Int) (x : Lot) : Bool := cond (cond (cond (inB x.cr 1 50) (inB x.la 0 (hours - 1)) false) (inB x.ke 0 10000) false) (inB x.fi 0 7) false
def wkB (hours : Int) (x : Wk) : Bool := cond (cond (cond (inB x.kd 0 2) (inB x.fr 0 x.to) false) (inB x.to 0 (hours - 1)) false) (inB x.rt 0 20) false
def headB (d : Day) : Bool := inB d.hours 1 24 && decide ((d.heat.length : Int) = d.hours) && decide ((d.lots.length : Int) ≤ 8) && decide ((d.wks.length : Int) ≤ 6)
/-- Is the day valid? -/
def dayB (d : Day) : Bool := headB d && d.heat.all spB && d.lots.all (lotB d.hours) && d.wks.all (wkB d.hours)

theorem guard_ok {ok x : Bool} (hg : (cond ok x false) = true) : ok = true := by cases ok <;> simp_all
theorem head_hours {d : Day} (h : headB d = true) : 1 ≤ d.hours ∧ d.hours ≤ 24 := by
  simp only [headB, Bool.and_eq_true] at h
  exact inB_iff.1 h.1.1.1
theorem okhours {ok z : Bool} {d : Day} (hok : ok = (headB d && z)) (h : ok = true) : 1 ≤ d.hours ∧ d.hours ≤ 24 := by
  rw [hok, Bool.and_eq_true] at h
  exact head_hours h.1
def chk (d : Day) : Int := if dayB d = true then 0 else 50

theorem getD_mem {α : Type} [Inhabited α] {xs : List α} {i : Nat} (h : i < xs.length) : xs.getD i default ∈ xs := by
  have : xs.getD i default = xs[i] := by simp [List.getD_eq_getElem?_getD, h]
  rw [this]; exact List.getElem_mem h
theorem drop_getD {α : Type} [Inhabited α] {xs : List α} {i : Nat} (h : i < xs.length) : xs.drop i = xs.getD i default :: xs.drop (i + 1) := by
  have : xs.getD i default = xs[i] := by simp [List.getD_eq_getElem?_getD, h]
  rw [this]; exact List.drop_eq_getElem_cons h

/-- The day as the calculation meets it: one worker more may be in it. -/
def dayV (d : Day) : Bool := (inB d.hours 1 24 && decide ((d.heat.length : Int) = d.hours) && decide ((d.lots.length : Int) ≤ 8) && decide ((d.wks.length : Int) ≤ 7)) && d.heat.all spB && d.lots.all (lotB d.hours) && d.wks.all (wkB d.hours)
theorem dayB_V {d : Day} (h : dayB d = true) : dayV d = true := by
  simp only [dayB, headB, dayV, Bool.and_eq_true, decide_eq_true_eq] at *
  obtain ⟨⟨⟨⟨⟨⟨a, b⟩, c⟩, e⟩, f⟩, g⟩, i⟩ := h
  exact ⟨⟨⟨⟨⟨⟨a, b⟩, c⟩, by omega⟩, f⟩, g⟩, i⟩
section
variable {d : Day} (hv : dayV d = true)
include hv
theorem day_ok : 1 ≤ d.hours ∧ d.hours ≤ 24 ∧ (d.heat.length : Int) = d.hours ∧ d.lots.length ≤ 8 ∧ d.wks.length ≤ 7 := by
  simp only [dayV, Bool.and_eq_true, decide_eq_true_eq] at hv
  have := inB_iff.1 hv.1.1.1.1.1.1
  omega
theorem sp_ok {i : Nat} (h : i < d.heat.length) : 0 ≤ (d.heat.getD i default).lo ∧ (d.heat.getD i default).lo ≤ (d.heat.getD i default).hi ∧ (d.heat.getD i default).hi ≤ 100 := by
  simp only [dayV, Bool.and_eq_true, List.all_eq_true] at hv
  have := hv.1.1.2 _ (getD_mem h)
  simp only [spB] at this
  generalize d.heat.getD i default = x at *
  by_cases h1 : 0 ≤ x.lo <;> by_cases h2 : x.lo ≤ x.hi <;> simp_all
theorem lot_ok {i : Nat} (h : i < d.lots.length) : 1 ≤ (d.lots.getD i default).cr ∧ (d.lots.getD i default).cr ≤ 50 ∧ 0 ≤ (d.lots.getD i default).la ∧ (d.lots.getD i default).la ≤ d.hours - 1 ∧ 0 ≤ (d.lots.getD i default).ke ∧ (d.lots.getD i default).ke ≤ 10000 ∧ 0 ≤ (d.lots.getD i default).fi ∧ (d.lots.getD i default).fi ≤ 7 := by
  simp only [dayV, Bool.and_eq_true, List.all_eq_true] at hv
  have := hv.1.2 _ (getD_mem h)
  generalize d.lots.getD i default = x at *
  have h' : inB x.cr 1 50 = true ∧ inB x.la 0 (d.hours - 1) = true ∧ inB x.ke 0 10000 = true ∧ inB x.fi 0 7 = true := by
    simp only [lotB] at this
    cases h1 : inB x.cr 1 50 <;> cases h2 : inB x.la 0 (d.hours - 1) <;> cases h3 : inB x.ke 0 10000 <;> simp_all
  simp only [inB_iff] at h'
  omega
theorem wk_ok {i : Nat} (h : i < d.wks.length) : 0 ≤ (d.wks.getD i default).kd ∧ (d.wks.getD i default).kd ≤ 2 ∧ 0 ≤ (d.wks.getD i default).fr ∧ (d.wks.getD i default).fr ≤ (d.wks.getD i default).to ∧ (d.wks.getD i default).to ≤ d.hours - 1 ∧ 0 ≤ (d.wks.getD i default).rt ∧ (d.wks.getD i default).rt ≤ 20 := by
  simp only [dayV, Bool.and_eq_true, List.all_eq_true] at hv
  have := hv.2 _ (getD_mem h)
  generalize d.wks.getD i default = x at *
  have h' : inB x.kd 0 2 = true ∧ inB x.fr 0 x.to = true ∧ inB x.to 0 (d.hours - 1) = true ∧ inB x.rt 0 20 = true := by
    simp only [wkB] at this
    cases h1 : inB x.kd 0 2 <;> cases h2 : inB x.fr 0 x.to <;> cases h3 : inB x.to 0 (d.hours - 1) <;> simp_all
  simp only [inB_iff] at h'
  omega
end

/-- Until which hour a lot keeps, hour by hour: n: what it bears still; u: so far. -/
def keepGo (e : Sp → Int) (la : Int) : List Sp → Int → Int → Int → Int
  | [], _, _, u => u
  | x :: xs, h, n, u => if h < la then keepGo e la xs (h + 1) n u else if n - e x < 0 then u else keepGo e la xs (h + 1) (n - e x) h
def untilL (e : Sp → Int) (heat : List Sp) (l : Lot) : Int := keepGo e l.la heat 0 l.ke (l.la - 1)
/-- The hours until which the first k lots keep. -/
def ufs (e : Sp → Int) (d : Day) (k : Nat) : Nat → Int := fun j => if j < k then untilL e d.heat (d.lots.getD j default) else 0
/-- The hours until which all lots keep. -/
def untils (e : Sp → Int) (d : Day) : Nat → Int := ufs e d d.lots.length
theorem ufs_succ (e : Sp → Int) (d : Day) (k : Nat) : ufs e d (k + 1) = updf (ufs e d k) k (untilL e d.heat (d.lots.getD k default)) := by
  funext j
  simp only [ufs, updf]
  by_cases h : j = k
  · subst h; simp
  · have : j < k + 1 ↔ j < k := by omega
    simp [h, this]
section
variable {e : Sp → Int} {la : Int} {heat : List Sp} {h : Nat} {n u : Int}
theorem keepGo_lt (hh : h < heat.length) (hl : (h : Int) < la) : keepGo e la (heat.drop h) h n u = keepGo e la (heat.drop (h + 1)) (h + 1 : Nat) n u := by
  rw [drop_getD hh, keepGo, if_pos hl]; rfl
theorem keepGo_ge (hh : h < heat.length) (hl : ¬ (h : Int) < la) (hn : ¬ n - e (heat.getD h default) < 0) : keepGo e la (heat.drop h) h n u = keepGo e la (heat.drop (h + 1)) (h + 1 : Nat) (n - e (heat.getD h default)) h := by
  rw [drop_getD hh, keepGo, if_neg hl, if_neg hn]; rfl
theorem keepGo_stop (hh : h < heat.length) (hl : ¬ (h : Int) < la) (hn : n - e (heat.getD h default) < 0) : keepGo e la (heat.drop h) h n u = u := by
  rw [drop_getD hh, keepGo, if_neg hl, if_pos hn]
end
theorem updf_updf (f : Nat → Int) (i : Nat) (x y : Int) : updf (updf f i x) i y = updf f i y := by
  funext k; unfold updf; split <;> rfl

def dayPre (v : DV) (d : Day) : List Value := [.int .i64 d.hours, .slice v.ha v.hn v.hc, .slice v.la v.ln v.lc, .slice v.wa v.wn v.wc]
/-- The cells of a day in the calculation. -/
def dayL (v : DV) (d : Day) (f : Nat → Int) : List Value := dayPre v d ++ fcells 8 f ++ []


/-! ### Who can take what -/
def bitB (fi kd : Int) : Bool := (bits .and .i64 (Int.fdiv fi (2 ^ (min kd.toNat 64))) 1 == 1)
/-- Can worker x.1 take the lot in hour x.2, if lots keep until f? -/
def canB (d : Day) (f : Nat → Int) (lot : Int) (x : Int × Int) : Bool :=
  cond (cond (bitB (d.lots.getD lot.toNat default).fi (d.wks.getD x.1.toNat default).kd) (inB x.2 (d.wks.getD x.1.toNat default).fr (d.wks.getD x.1.toNat default).to) false) (inB x.2 (d.lots.getD lot.toNat default).la (f lot.toNat)) false

/-! ### Sums -/
/-- Not too many numbers, none too great. -/
def bdd (xs : List Int) : Prop := xs.length ≤ 1000000 ∧ ∀ x ∈ xs, -1000000 ≤ x ∧ x ≤ 1000000
theorem sum_take {xs : List Int} (k : Nat) (h : k < xs.length) : (xs.take (k + 1)).sum = (xs.take k).sum + xs.getD k default := by
  have : xs.getD k default = xs[k] := by simp [List.getD_eq_getElem?_getD, h]
  rw [List.take_succ_eq_append_getElem h, this, List.sum_append]
  simp only [List.sum_cons, List.sum_nil]; omega
theorem sum_bd' : ∀ (xs : List Int), (∀ x ∈ xs, -1000000 ≤ x ∧ x ≤ 1000000) → -1000000 * (xs.length : Int) ≤ xs.sum ∧ xs.sum ≤ 1000000 * (xs.length : Int)
  | [], _ => by simp
  | x :: xs, h => by
    have h1 := sum_bd' xs (fun y hy => h y (by simp [hy]))
    have h2 := h x (by simp)
    simp only [List.sum_cons, List.length_cons]
    omega
theorem sum_bd {xs : List Int} (h : bdd xs) (k : Nat) : -1000000000000 ≤ (xs.take k).sum ∧ (xs.take k).sum ≤ 1000000000000 := by
  have h1 := sum_bd' (xs.take k) (fun x hx => h.2 x (List.mem_of_mem_take hx))
  have h2 : (xs.take k).length ≤ 1000000 := by rw [List.length_take]; have := h.1; omega
  omega

end Go.Proofs.Ytioimdegbdkppaa.DK
