/- Casts that surely find: plain words; what a call of choose is given, and what it leaves. -/
import Derived.Test.YtgihgcclabodbaaSAsk
import Derived.Test.YtgihgcclabodbaaKY
namespace Go.Proofs.Ytgihgcclabodbaa.DK
open Go
set_option linter.unusedVariables false

def findB (P : List (Int × Int)) (C : List Ct) (sm : List Int) : Bool := P.all fun p => sm.any fun i => covB (C.getD i.toNat default) p
def choL (F : List Int → Option (List Int)) (sm : List Int) : Nat → Int → Option (List Int)
  | 0, _ => none
  | r + 1, x => match F (sm ++ [x]) with | some l => some l | none => choL F sm r (x + 1)
def fromI (sm : List Int) : Int := cond (decide ((sm.length : Int) > 0)) (sm.getD ((sm.length : Int) - 1).toNat default + 1) 0
/-- The first list of n more casts that surely finds. -/
def choF (P : List (Int × Int)) (C : List Ct) : Nat → List Int → Option (List Int)
  | 0, sm => cond (findB P C sm) (some sm) none
  | n + 1, sm => choL (choF P C n) sm ((C.length : Int) - fromI sm).toNat (fromI sm)
theorem choL_end {F : List Int → Option (List Int)} {sm : List Int} {m x : Int} (h : m ≤ x) : choL F sm (m - x).toNat x = none := by
  rw [show (m - x).toNat = 0 by omega]; rfl
theorem choL_hit {F : List Int → Option (List Int)} {sm l : List Int} {m x : Int} (h : x < m) (e : F (sm ++ [x]) = some l) : choL F sm (m - x).toNat x = some l := by
  rw [show (m - x).toNat = (m - (x + 1)).toNat + 1 by omega, choL, e]
theorem choL_miss {F : List Int → Option (List Int)} {sm : List Int} {m x : Int} (h : x < m) (e : F (sm ++ [x]) = none) : choL F sm (m - x).toNat x = choL F sm (m - (x + 1)).toNat (x + 1) := by
  rw [show (m - x).toNat = (m - (x + 1)).toNat + 1 by omega, choL, e]
structure ChoPre (P : List (Int × Int)) (C : List Ct) (bd bo b12 b13 bf bc : Nat) (pa : Option Addr) (pn pc : Nat) (ca : Option Addr) (cn cc : Nat) (N n : Nat) (sm : List Int) (sp : Option Addr) (sn sc : Nat) (ov : Value) (w : World) : Prop where
  hP : RdX (fun m => m = bo) encPl 2 w pa pn P
  hC : RdX (fun m => m = bo) encCt 3 w ca cn C
  hb : bd ≤ w.heap.size
  hbo : bd ≤ bo
  r12 : Ro b12 [.slice pa pn pc] w
  n12 : ¬ b12 = bo
  r13 : Ro b13 [.slice ca cn cc] w
  n13 : ¬ b13 = bo
  rf : Ro bf [.func (.func 71) #[] #[.pointer (some ⟨b12, 0, none⟩), .pointer (some ⟨b13, 0, none⟩)]] w
  nf : ¬ bf = bo
  rc : Ro bc [.func (.func 72) #[] #[.pointer (some ⟨bo, 0, none⟩), .pointer (some ⟨bf, 0, none⟩), .pointer (some ⟨b13, 0, none⟩), .pointer (some ⟨bc, 0, none⟩)]] w
  nc : ¬ bc = bo
  out : (cel bo #[ov] 22).ok w
  hs : RdX (fun m => m < bd ∨ m = bo) encI 1 w sp sn sm
  hcap : sn ≤ sc
  hin : ∀ i, i < sm.length → 0 ≤ sm.getD i default ∧ sm.getD i default < C.length
  hn : sn + n = N
  hN : N ≤ 8
  hc8 : C.length ≤ 8
  hp80 : P.length ≤ 80
  bP : ∀ i, i < P.length → plB (P.getD i default)
  bC : ∀ i, i < C.length → plB ((C.getD i default).c, (C.getD i default).r)
/-- What lies in the cell of the answer. -/
def Got (bd bo : Nat) (r : Option (List Int)) (ov : Value) (w : World) : Prop := ∀ l, r = some l → ∃ p k c, ov = .slice p k c ∧ k ≤ c ∧ RdX (fun m => m < bd ∨ m = bo) encI 1 w p k l
theorem Got.ext {bd bo : Nat} {r : Option (List Int)} {ov : Value} {w w' : World} (h : Got bd bo r ov w) (hE : Ext w w') : Got bd bo r ov w' := fun l hl => let ⟨p, k, c, h1, h2, h3⟩ := h l hl; ⟨p, k, c, h1, h2, h3.ext hE⟩
def ChoPost (P : List (Int × Int)) (C : List Ct) (bd bo : Nat) (n : Nat) (sm : List Int) (w : World) (e : Ending) (w' : World) : Prop :=
  ∃ ov, Own w (fun k => k = bo) [cel bo #[ov] 22] w' ∧ e = .returned (.bool (choF P C n sm).isSome) ∧ Got bd bo (choF P C n sm) ov w'
/-- The first list of k + 1, k + 2 .. casts that surely finds. -/
def sureL (P : List (Int × Int)) (C : List Ct) : Nat → Nat → Option (List Int)
  | 0, _ => none
  | r + 1, k => match choF P C (k + 1) [] with | some l => some l | none => sureL P C r (k + 1)
theorem sureL_hit {P : List (Int × Int)} {C : List Ct} {r k : Nat} {l : List Int} (h : 0 < r) (e : choF P C (k + 1) [] = some l) : sureL P C r k = some l := by
  obtain ⟨q, rfl⟩ : ∃ q, r = q + 1 := ⟨r - 1, by omega⟩
  rw [sureL, e]
theorem sureL_miss {P : List (Int × Int)} {C : List Ct} {n k : Nat} (h : k < n) (e : choF P C (k + 1) [] = none) : sureL P C (n - k) k = sureL P C (n - (k + 1)) (k + 1) := by
  rw [show n - k = (n - (k + 1)) + 1 by omega, sureL, e]
/-- What Sure answers. -/
def sureR (s : Sea) (rs : List Rp) (wr h : Int) (cs : List Cs) : List Int × Int :=
  if (askedR s rs wr h cs).2.2 ≠ 0 then ([], (askedR s rs wr h cs).2.2)
  else match sureL (askedR s rs wr h cs).1 (askedR s rs wr h cs).2.1 (askedR s rs wr h cs).2.1.length 0 with | some l => (l, 0) | none => ([], 4)
section
variable {P : List (Int × Int)} {C : List Ct} {bd bo b12 b13 bf bc : Nat} {pa : Option Addr} {pn pc : Nat} {ca : Option Addr} {cn cc : Nat} {N n : Nat} {sm : List Int} {sp : Option Addr} {sn sc : Nat} {ov : Value} {w w0 : World} {L : List Res}
theorem ChoPre.nom (hp : ChoPre P C bd bo b12 b13 bf bc pa pn pc ca cn cc N n sm sp sn sc ov w) : ∀ k, k < bd → ¬ k = bo := fun k hk h => by
  have := hp.hbo; omega
theorem ChoPre.own (hp : ChoPre P C bd bo b12 b13 bf bc pa pn pc ca cn cc N n sm sp sn sc ov w) : Own w (fun k => k = bo) [cel bo #[ov] 22] w := by
  refine Own.of ?_ (List.pairwise_singleton _ _) ?_
  · intro r hr; simp only [List.mem_cons, List.not_mem_nil, or_false] at hr; subst hr; exact hp.out
  · intro r hr k hk; simp only [List.mem_cons, List.not_mem_nil, or_false] at hr; subst hr; exact hk
theorem ChoPre.step (hp : ChoPre P C bd bo b12 b13 bf bc pa pn pc ca cn cc N (n + 1) sm sp sn sc ov w0) (hO : Own w0 (fun k => k = bo) L w) (j : Nat) {ov2 : Value} (hj : L[j]? = some (cel bo #[ov2] 22)) {x : Int} (hx : 0 ≤ x ∧ x < C.length) {sp2 : Option Addr} {sc2 : Nat} (hc2 : sn + 1 ≤ sc2)
    (hs : RdX (fun m => m < bd ∨ m = bo) encI 1 w sp2 (sn + 1) (sm ++ [x])) : ChoPre P C bd bo b12 b13 bf bc pa pn pc ca cn cc N n (sm ++ [x]) sp2 (sn + 1) sc2 ov2 w :=
  ⟨hp.hP.kp hO.kp (fun m h => h), hp.hC.kp hO.kp (fun m h => h), Nat.le_trans hp.hb hO.kp.size, hp.hbo, hp.r12.kp hO.kp hp.n12, hp.n12, hp.r13.kp hO.kp hp.n13, hp.n13, hp.rf.kp hO.kp hp.nf, hp.nf, hp.rc.kp hO.kp hp.nc, hp.nc, hO.get j hj, hs, hc2,
   fun i hi => by
     rw [List.length_append] at hi
     rw [List.getD_eq_getElem?_getD]
     by_cases e : i < sm.length
     · rw [List.getElem?_append_left e, ← List.getD_eq_getElem?_getD]; exact hp.hin i e
     · rw [List.getElem?_append_right (by omega), show i - sm.length = 0 by simp at hi; omega]; exact hx,
   by have := hp.hn; omega, hp.hN, hp.hc8, hp.hp80, hp.bP, hp.bC⟩
theorem ChoPre.from (hp : ChoPre P C bd bo b12 b13 bf bc pa pn pc ca cn cc N n sm sp sn sc ov w) : 0 ≤ fromI sm ∧ fromI sm ≤ 8 := by
  have h8 := hp.hc8
  unfold fromI
  by_cases h : (sm.length : Int) > 0
  · rw [decide_eq_true h, cond_true]
    have := hp.hin ((sm.length : Int) - 1).toNat (by omega)
    omega
  · rw [decide_eq_false h, cond_false]; omega
end
end Go.Proofs.Ytgihgcclabodbaa.DK
