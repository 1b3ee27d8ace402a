/- The words of the shoal: seas, reports, casts, as Lean data; how they lie in memory. -/
import Derived.Test.YtgihgcclabodbaaKY
namespace Go.Proofs.Ytgihgcclabodbaa.DK
open Go
set_option linter.unusedVariables false

theorem Rd.upM {α : Type} {enc : α → List Value} {sz bd : Nat} {w w' : World} {a : Option Addr} {n : Nat} {xs : List α} {M : Nat → Prop} (h : Rd enc sz bd w a n xs) (hk : Kp M w w') (hm : ∀ k, k < bd → ¬ M k) (hb : bd ≤ w.heap.size) : Rd enc sz w'.heap.size w' a n xs := (h.kp hk hm).bd_le (Nat.le_trans hb hk.size)
theorem Rd.nil {α : Type} {enc : α → List Value} {sz bd : Nat} {w : World} {a : Option Addr} {n : Nat} {xs : List α} (h : Rd enc sz bd w a n xs) : a = none → n = 0 := by
  intro ha
  subst ha
  have hl := h.len
  cases xs with
  | nil => simpa using hl.symm
  | cons x xs => obtain ⟨ad, h1, _⟩ := h.cells 0 x rfl; cases h1
def i64 (n : Int) : Prop := -9223372036854775808 ≤ n ∧ n ≤ 9223372036854775807
structure St where
  e : Int
  n : Int
  deriving Inhabited, DecidableEq
structure Rp where
  hr : Int
  cell : Int
  far : Int
  th : Bool
  deriving Inhabited, DecidableEq
structure Cs where
  cell : Int
  far : Int
  deriving Inhabited, DecidableEq
structure Sea where
  wide : Int
  high : Int
  land : List Int
  hours : Int
  drift : List St
  speed : Int
  deriving Inhabited
def encSt (x : St) : List Value := [.int .i64 x.e, .int .i64 x.n]
def encRp (x : Rp) : List Value := [.int .i64 x.hr, .int .i64 x.cell, .int .i64 x.far, .bool x.th]
def encCs (x : Cs) : List Value := [.int .i64 x.cell, .int .i64 x.far]
/-- Where a sea's slices lie. -/
structure SV where
  la : Option Addr
  ln : Nat
  lc : Nat
  da : Option Addr
  dn : Nat
  dc : Nat
/-- The sea s lies in memory as v says, below block bd. -/
structure SeaR (bd : Nat) (w : World) (v : SV) (s : Sea) : Prop where
  land : Rd encI 1 bd w v.la v.ln s.land
  drift : Rd encSt 2 bd w v.da v.dn s.drift
  rg : i64 s.wide ∧ i64 s.high ∧ i64 s.hours ∧ i64 s.speed
  caps : v.ln ≤ v.lc ∧ v.dn ≤ v.dc
/-- A sea's cells; with its map of the land; with its reports. -/
abbrev sL6 (s : Sea) (v : SV) : List Value := [iv s.wide, iv s.high, .slice v.la v.ln v.lc, iv s.hours, .slice v.da v.dn v.dc, iv s.speed]
abbrev sL7 (s : Sea) (v : SV) (mb : Nat) : List Value := [iv s.wide, iv s.high, .slice v.la v.ln v.lc, iv s.hours, .slice v.da v.dn v.dc, iv s.speed, .map (some mb)]
abbrev sL8 (s : Sea) (v : SV) (mb : Nat) (p : Option Addr) (n c : Nat) : List Value := [iv s.wide, iv s.high, .slice v.la v.ln v.lc, iv s.hours, .slice v.da v.dn v.dc, iv s.speed, .map (some mb), .slice p n c]
abbrev sS6 (s : Sea) (v : SV) : Array Value := #[iv s.wide, iv s.high, .slice v.la v.ln v.lc, iv s.hours, .slice v.da v.dn v.dc, iv s.speed]
abbrev sS7 (s : Sea) (v : SV) (mb : Nat) : Array Value := #[iv s.wide, iv s.high, .slice v.la v.ln v.lc, iv s.hours, .slice v.da v.dn v.dc, iv s.speed, .map (some mb)]
abbrev sS8 (s : Sea) (v : SV) (mb : Nat) (p : Option Addr) (n c : Nat) : Array Value := #[iv s.wide, iv s.high, .slice v.la v.ln v.lc, iv s.hours, .slice v.da v.dn v.dc, iv s.speed, .map (some mb), .slice p n c]
section
variable {bd bd' : Nat} {w w' : World} {v : SV} {s : Sea} {M : Nat → Prop}
theorem SeaR.kp (h : SeaR bd w v s) (hk : Kp M w w') (hm : ∀ k, k < bd → ¬ M k) : SeaR bd w' v s := ⟨h.land.kp hk hm, h.drift.kp hk hm, h.rg, h.caps⟩
theorem SeaR.ext (h : SeaR bd w v s) (hk : Ext w w') : SeaR bd w' v s := h.kp hk nom
theorem SeaR.bd_le (h : SeaR bd w v s) (hb : bd ≤ bd') : SeaR bd' w v s := ⟨h.land.bd_le hb, h.drift.bd_le hb, h.rg, h.caps⟩
theorem SeaR.upM (h : SeaR bd w v s) (hk : Kp M w w') (hm : ∀ k, k < bd → ¬ M k) (hb : bd ≤ w.heap.size) : SeaR w'.heap.size w' v s := (h.kp hk hm).bd_le (Nat.le_trans hb hk.size)
end

/-! ### Valid seas -/
def headB (s : Sea) : Bool := cond (cond (cond (cond (inB s.wide 1 10) (inB s.high 1 8) false) (inB s.speed 0 2) false) (inB s.hours 1 12) false) ((s.drift.length : Int) == s.hours - 1) false
def stB (x : St) : Bool := cond (inB x.e (-2) 2) (inB x.n (-2) 2) false
def nC (s : Sea) : Int := s.wide * s.high
def seaB (s : Sea) : Bool := headB s && risF (nC s) (-1) s.land && s.drift.all stB
def chk (s : Sea) : Int := if seaB s = true then 0 else 10
theorem head_ok {s : Sea} (h : headB s = true) : 1 ≤ s.wide ∧ s.wide ≤ 10 ∧ 1 ≤ s.high ∧ s.high ≤ 8 ∧ 0 ≤ s.speed ∧ s.speed ≤ 2 ∧ 1 ≤ s.hours ∧ s.hours ≤ 12 ∧ (s.drift.length : Int) = s.hours - 1 := by
  unfold headB at h
  cases h1 : inB s.wide 1 10 <;> cases h2 : inB s.high 1 8 <;> cases h3 : inB s.speed 0 2 <;> cases h4 : inB s.hours 1 12 <;> simp [h1, h2, h3, h4] at h
  simp only [inB_iff] at h1 h2 h3 h4
  omega
theorem nC_bd {s : Sea} (h1 : 1 ≤ s.wide) (h2 : s.wide ≤ 10) (h3 : 1 ≤ s.high) (h4 : s.high ≤ 8) : 1 ≤ nC s ∧ nC s ≤ 80 ∧ s.wide ≤ nC s := by
  unfold nC
  have a1 : s.wide * 1 ≤ s.wide * s.high := Int.mul_le_mul_of_nonneg_left h3 (by omega)
  have a2 : s.wide * s.high ≤ s.wide * 8 := Int.mul_le_mul_of_nonneg_left h4 (by omega)
  omega
section
variable {s : Sea} (hv : seaB s = true)
include hv
theorem sea_ok : 1 ≤ s.wide ∧ s.wide ≤ 10 ∧ 1 ≤ s.high ∧ s.high ≤ 8 ∧ 0 ≤ s.speed ∧ s.speed ≤ 2 ∧ 1 ≤ s.hours ∧ s.hours ≤ 12 ∧ (s.drift.length : Int) = s.hours - 1 ∧ 1 ≤ nC s ∧ nC s ≤ 80 := by
  simp only [seaB, Bool.and_eq_true] at hv
  have h := head_ok hv.1.1
  have h2 := nC_bd (s := s) (by omega) (by omega) (by omega) (by omega)
  omega
theorem land_ok : ∀ x ∈ s.land, 0 ≤ x ∧ x < nC s := fun x hx => by
  simp only [seaB, Bool.and_eq_true] at hv
  have := ris_mem _ _ hv.1.2 x hx
  omega
theorem st_ok {i : Nat} (h : i < s.drift.length) : -2 ≤ (s.drift.getD i default).e ∧ (s.drift.getD i default).e ≤ 2 ∧ -2 ≤ (s.drift.getD i default).n ∧ (s.drift.getD i default).n ≤ 2 := by
  simp only [seaB, Bool.and_eq_true, List.all_eq_true] at hv
  have h1 := hv.2 _ (getD_mem h)
  generalize s.drift.getD i default = x at *
  unfold stB at h1
  cases h2 : inB x.e (-2) 2 <;> cases h3 : inB x.n (-2) 2 <;> simp [h2, h3] at h1
  simp only [inB_iff] at h2 h3
  omega
end
theorem chk_ok {s : Sea} (h : (chk s != 0) = false) : seaB s = true := by
  unfold chk at h
  split at h
  · assumption
  · simp at h
theorem chk_no {s : Sea} (h : (chk s != 0) = true) : chk s = 10 := by
  unfold chk at h ⊢
  split at h
  · simp at h
  · rename_i h2; rw [if_neg h2]

/-! ### Places -/
def pl (s : Sea) (c : Int) : Int × Int := (Int.tmod c s.wide, Int.tdiv c s.wide)
def farP (p o : Int × Int) : Int := mx (mx (mx (p.1 - o.1) (o.1 - p.1)) (p.2 - o.2)) (o.2 - p.2)
def absI (n : Int) : Int := mx (-n) n
/-- A place that a sea can have. -/
def plB (p : Int × Int) : Prop := -100 ≤ p.1 ∧ p.1 ≤ 100 ∧ -100 ≤ p.2 ∧ p.2 ≤ 100
theorem tdiv_bd {c w : Int} (h0 : 0 ≤ c) (hw : 1 ≤ w) : 0 ≤ Int.tdiv c w ∧ Int.tdiv c w ≤ c := by
  rw [Int.tdiv_eq_ediv_of_nonneg h0]
  exact ⟨Int.ediv_nonneg h0 (by omega), Int.ediv_le_self _ h0⟩
theorem tmod_nn0 {c w : Int} (h0 : 0 ≤ c) (hw : 1 ≤ w) : 0 ≤ Int.tmod c w ∧ Int.tmod c w < w := by
  rw [Int.tmod_eq_emod_of_nonneg h0]
  exact ⟨Int.emod_nonneg _ (by omega), Int.emod_lt_of_pos _ (by omega)⟩
theorem pl_bd {s : Sea} {c : Int} (hw : 1 ≤ s.wide) (hw2 : s.wide ≤ 10) (h0 : 0 ≤ c) (h1 : c ≤ 80) : 0 ≤ (pl s c).1 ∧ (pl s c).1 ≤ 10 ∧ 0 ≤ (pl s c).2 ∧ (pl s c).2 ≤ 80 := by
  have a := tdiv_bd h0 hw; have b := tmod_nn0 h0 hw
  simp only [pl]; omega
theorem pl_plB {s : Sea} {c : Int} (hw : 1 ≤ s.wide) (hw2 : s.wide ≤ 10) (h0 : 0 ≤ c) (h1 : c ≤ 80) : plB (pl s c) := by
  have := pl_bd hw hw2 h0 h1
  unfold plB; omega
theorem pl_inj {s : Sea} {a b : Int} (h : pl s a = pl s b) : a = b := by
  simp only [pl, Prod.mk.injEq] at h
  have h1 := Int.tmod_add_mul_tdiv a s.wide; have h2 := Int.tmod_add_mul_tdiv b s.wide
  rw [← h1, ← h2, h.1, h.2]
/-- The map of the land, as it is filled. -/
def landK (s : Sea) : Nat → Int × Int → Bool
  | 0 => fun _ => false
  | k + 1 => updt (landK s k) (pl s (s.land.getD k default)) true
def landF (s : Sea) : Int × Int → Bool := landK s s.land.length
theorem landK_pl {s : Sea} (c : Int) : ∀ k, k ≤ s.land.length → landK s k (pl s c) = (s.land.take k).any (· == c)
  | 0, _ => by simp [landK]
  | k + 1, h => by
    rw [any_take _ (by omega), ← landK_pl c k (by omega), landK, updt]
    by_cases e : pl s c = pl s (s.land.getD k default)
    · rw [if_pos e, pl_inj e]; simp
    · rw [if_neg e]
      have : (s.land.getD k default == c) = false := by
        simp only [beq_eq_false_iff_ne]; intro e2; exact e (by rw [e2])
      rw [this, Bool.or_false]
theorem landF_pl (s : Sea) (c : Int) : landF s (pl s c) = decide (c ∈ s.land) := by
  rw [landF, landK_pl c _ (Nat.le_refl _), List.take_length]
  by_cases h : c ∈ s.land
  · rw [decide_eq_true h]; exact List.any_eq_true.2 ⟨c, h, by simp⟩
  · rw [decide_eq_false h, List.any_eq_false]; intro x hx; simp; rintro rfl; exact h hx
def stepP (s : Sea) (h : Int) (p q : Int × Int) : Bool :=
  cond ((p.1 + (s.drift.getD h.toNat default).e == q.1) && (p.2 + (s.drift.getD h.toNat default).n == q.2)) true (decide (farP (p.1 + (s.drift.getD h.toNat default).e, p.2 + (s.drift.getD h.toNat default).n) q ≤ s.speed))
end Go.Proofs.Ytgihgcclabodbaa.DK
