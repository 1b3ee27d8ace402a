/- The lots with the greatest deficit: what the search reckons. -/
import Derived.Test.YtioimdegbdkppaaGQ
import Derived.Test.YtioimdegbdkppaaKK
namespace Go.Proofs.Ytioimdegbdkppaa.DK
open Go
set_option linter.unusedVariables false

def fromF (n : Nat) (xs : List Int) : Int := cond (decide ((n : Int) > 0)) (xs.getD ((n : Int) - 1).toNat default + 1) 0
def chooseL (rec : List Int → Int × List Int → Int × List Int) (xs : List Int) : List Nat → Int × List Int → Int × List Int
  | [], s => s
  | i :: r, s => chooseL rec xs r (rec (xs ++ [(i : Int)]) s)
def chooseF (d : Day) (f : Nat → Int) : Nat → List Int → Int × List Int → Int × List Int
  | 0, xs, s => cond (decide (defF d f xs > s.1)) (defF d f xs, xs) s
  | m + 1, xs, s => chooseL (chooseF d f m) xs (List.range' (fromF xs.length xs).toNat (d.lots.length - (fromF xs.length xs).toNat)) s
def proofK (d : Day) (f : Nat → Int) : Nat → Int × List Int
  | 0 => (0, [])
  | k + 1 => chooseF d f (k + 1) [] (proofK d f k)
def gutProof (d : Day) : List Int := if chk d ≠ 0 then [] else (proofK d (hot d) d.lots.length).2

def mc (b3 b4 : Nat) : Nat → Prop := fun k => k = b3 ∨ k = b4
def mx (bd b3 b4 : Nat) : Nat → Prop := fun k => k = b3 ∨ k = b4 ∨ k < bd
theorem hmx {bd b3 b4 : Nat} : ∀ k, mc b3 b4 k → mx bd b3 b4 k := fun k h => h.elim .inl fun h => .inr (.inl h)

structure ChPre (d : Day) (v : DV) (f : Nat → Int) (bd b2 b3 b4 b5 m : Nat) (xs : List Int) (p : Option Addr) (n c : Nat) (q : Int) (ys : List Int) (op : Option Addr) (on oc : Nat) (w : World) : Prop where
  hd : DayR bd w v d
  hb : bd ≤ w.heap.size
  ne : b3 ≠ b4
  h3 : bd ≤ b3
  h4 : bd ≤ b4
  n2 : ¬ mc b3 b4 b2
  n5 : ¬ mc b3 b4 b5
  r2 : Ro b2 (dayL v d f) w
  r5 : Ro b5 [.func (.func 67) #[] #[.pointer (some ⟨b2, 0, none⟩), .pointer (some ⟨b3, 0, none⟩), .pointer (some ⟨b4, 0, none⟩), .pointer (some ⟨b5, 0, none⟩)]] w
  c3 : (cel b3 #[.int .i64 q] 3).ok w
  c4 : (cel b4 #[.slice op on oc] 41).ok w
  hx : RdX (mx bd b3 b4) encI 1 w p n xs
  cap : n ≤ c
  hy : RdX (mx bd b3 b4) encI 1 w op on ys
  hin : ∀ x ∈ xs, 0 ≤ x ∧ x < v.ln
  hnm : n + m ≤ 8

def ChPost (d : Day) (f : Nat → Int) (bd b3 b4 m : Nat) (xs : List Int) (q : Int) (ys : List Int) (w : World) (e : Ending) (w' : World) : Prop :=
  e = .returned (.tuple #[]) ∧ ∃ op on oc, Own w (mc b3 b4) [cel b3 #[.int .i64 (chooseF d f m xs (q, ys)).1] 3, cel b4 #[.slice op on oc] 41] w' ∧ RdX (mx bd b3 b4) encI 1 w' op on (chooseF d f m xs (q, ys)).2

section
variable {d : Day} {v : DV} {f : Nat → Int} {bd b2 b3 b4 b5 m : Nat} {xs : List Int} {p : Option Addr} {n c : Nat} {q : Int} {ys : List Int} {op : Option Addr} {on oc : Nat} {w w0 : World} {L : List Res}
theorem ChPre.nom (hp : ChPre d v f bd b2 b3 b4 b5 m xs p n c q ys op on oc w) : ∀ k, k < bd → ¬ mc b3 b4 k := fun k hk hm => by
  have h1 := hp.h3; have h2 := hp.h4
  rcases hm with h | h <;> omega
theorem ChPre.own (hp : ChPre d v f bd b2 b3 b4 b5 m xs p n c q ys op on oc w) : Own w (mc b3 b4) [cel b3 #[.int .i64 q] 3, cel b4 #[.slice op on oc] 41] w := by
  refine Own.of ?_ ?_ ?_
  · intro r hr
    simp only [List.mem_cons, List.not_mem_nil, or_false] at hr
    rcases hr with rfl | rfl
    · exact hp.c3
    · exact hp.c4
  · simp only [List.pairwise_cons, List.mem_cons, List.not_mem_nil, or_false, forall_eq, false_implies, implies_true, List.Pairwise.nil, and_true]
    intro k h1 h2
    exact hp.ne (h1.symm.trans h2)
  · intro r hr k hk
    simp only [List.mem_cons, List.not_mem_nil, or_false] at hr
    rcases hr with rfl | rfl
    · exact .inl hk
    · exact .inr hk
theorem ChPre.step (hp : ChPre d v f bd b2 b3 b4 b5 (m + 1) xs p n c q ys op on oc w0) (hO : Own w0 (mc b3 b4) L w) (j3 j4 : Nat) {q' : Int} {op' : Option Addr} {on' oc' : Nat} {ys' : List Int} (h3 : L[j3]? = some (cel b3 #[.int .i64 q'] 3)) (h4 : L[j4]? = some (cel b4 #[.slice op' on' oc'] 41))
    {xs' : List Int} {p' : Option Addr} {n' c' : Nat} (hx : RdX (mx bd b3 b4) encI 1 w p' n' xs') (cap : n' ≤ c') (hy : RdX (mx bd b3 b4) encI 1 w op' on' ys') (hin : ∀ x ∈ xs', 0 ≤ x ∧ x < v.ln) (hnm : n' + m ≤ 8) : ChPre d v f bd b2 b3 b4 b5 m xs' p' n' c' q' ys' op' on' oc' w :=
  ⟨hp.hd.kp hO.kp hp.nom, Nat.le_trans hp.hb hO.kp.size, hp.ne, hp.h3, hp.h4, hp.n2, hp.n5, hp.r2.kp hO.kp hp.n2, hp.r5.kp hO.kp hp.n5, hO.get j3 h3, hO.get j4 h4, hx, cap, hy, hin, hnm⟩
theorem hmc {q' : Int} {op' : Option Addr} {on' oc' : Nat} : ∀ k, mc b3 b4 k → ∃ r ∈ [cel b3 #[.int .i64 q'] 3, cel b4 #[.slice op' on' oc'] 41], r.fp k := by
  rintro k (rfl | rfl)
  · exact ⟨_, List.mem_cons_self .., rfl⟩
  · exact ⟨_, List.mem_cons_of_mem _ (List.mem_cons_self ..), rfl⟩
theorem encI_0 : ∀ y : Int, ∃ v, (encI y)[0]? = some v := fun y => ⟨_, rfl⟩
theorem chooseL_cons {rec : List Int → Int × List Int → Int × List Int} {i k : Nat} {s : Int × List Int} (h : i < k) : chooseL rec xs (List.range' i (k - i)) s = chooseL rec xs (List.range' (i + 1) (k - (i + 1))) (rec (xs ++ [(i : Int)]) s) := by rw [range'_cons h]; rfl
theorem chooseL_nil {rec : List Int → Int × List Int → Int × List Int} {i k : Nat} {s : Int × List Int} (h : k ≤ i) : chooseL rec xs (List.range' i (k - i)) s = s := by rw [show k - i = 0 from by omega]; rfl
theorem fromF_ok (hl : xs.length = n) (hin : ∀ x ∈ xs, 0 ≤ x ∧ x < v.ln) : 0 ≤ fromF n xs ∧ fromF n xs ≤ v.ln := by
  unfold fromF
  by_cases h : (n : Int) > 0
  · have := hin _ (getD_mem (show ((n : Int) - 1).toNat < xs.length by omega))
    simp only [h, decide_true, cond_true]; omega
  · simp only [h, decide_false, cond_false]; omega
theorem snoc_in {i m : Nat} (hin : ∀ x ∈ xs, 0 ≤ x ∧ x < (m : Int)) (hi : i < m) : ∀ x ∈ xs ++ [(i : Int)], 0 ≤ x ∧ x < (m : Int) := by
  intro x hx
  rcases List.mem_append.1 hx with hx | hx
  · exact hin x hx
  · simp at hx; subst hx; omega
theorem ch_start {z2 z3 z4 z5 : Nat} {t2 t5 : TypeId} (hd : DayR w0.heap.size w0 v d) (hO : Own w0 none_ L w) (j2 j3 j4 j5 : Nat) (h2 : L[j2]? = some (cel z2 (dayL v d f).toArray t2)) (h3 : L[j3]? = some (cel z3 #[.int .i64 q] 3)) (h4 : L[j4]? = some (cel z4 #[.slice op on oc] 41))
    (h5 : L[j5]? = some (cel z5 #[.func (.func 67) #[] #[.pointer (some ⟨z2, 0, none⟩), .pointer (some ⟨z3, 0, none⟩), .pointer (some ⟨z4, 0, none⟩), .pointer (some ⟨z5, 0, none⟩)]] t5))
    (hdis : j3 ≠ j4 ∧ j2 ≠ j3 ∧ j2 ≠ j4 ∧ j5 ≠ j3 ∧ j5 ≠ j4) (hy : RdX (mx w0.heap.size z3 z4) encI 1 w op on ys) (hm : m ≤ 8) : ChPre d v f w0.heap.size z2 z3 z4 z5 m [] none 0 0 q ys op on oc w := by
  obtain ⟨e1, e2, e3, e4, e5⟩ := hdis
  refine ⟨hd.own_ hO, hO.kp.size, own_ne hO j3 j4 h3 h4 e1 (k := z3) (k' := z4) rfl rfl, own_fresh hO j3 h3 (k := z3) rfl, own_fresh hO j4 h4 (k := z4) rfl, ?_, ?_, Ro.of_ok (hO.get j2 h2), Ro.of_ok (cs := [_]) (hO.get j5 h5), hO.get j3 h3, hO.get j4 h4, RdX.none_, Nat.le_refl _, hy, by simp, by omega⟩
  · rintro (h | h)
    · exact own_ne hO j2 j3 h2 h3 e2 (k := z2) (k' := z3) rfl rfl h
    · exact own_ne hO j2 j4 h2 h4 e3 (k := z2) (k' := z4) rfl rfl h
  · rintro (h | h)
    · exact own_ne hO j5 j3 h5 h3 e4 (k := z5) (k' := z3) rfl rfl h
    · exact own_ne hO j5 j4 h5 h4 e5 (k := z5) (k' := z4) rfl rfl h
end
end Go.Proofs.Ytioimdegbdkppaa.DK
