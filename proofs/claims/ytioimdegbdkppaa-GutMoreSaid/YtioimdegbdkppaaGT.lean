/- What the reference reckons: in plain Lean. -/
import Derived.Test.YtioimdegbdkppaaGS
namespace Go.Proofs.Ytioimdegbdkppaa.DK
open Go
set_option linter.unusedVariables false

def refSpB (x : Sp) (a b : Int) : Bool := cond (inB x.lo a b) (inB x.hi x.lo b) false
def refWkB (hours : Int) (x : Wk) : Bool := cond (cond (cond (inB x.kd 0 2) (inB x.fr 0 (hours - 1)) false) (inB x.to x.fr (hours - 1)) false) (inB x.rt 0 20) false
/-- Until which hour a lot keeps, as the reference sums it up. -/
def refGo (e : Sp → Int) (keep : Int) : List Sp → Int → Int → Int → Int
  | [], _, _, u => u
  | x :: xs, h, s, u => refGo e keep xs (h + 1) (s + e x) (cond (decide (s + e x ≤ keep)) h u)
def refUntil (e : Sp → Int) (d : Day) (l : Lot) : Int := refGo e l.ke (d.heat.drop l.la.toNat) l.la 0 (l.la - 1)
def bestE (b : Bool) : Sp → Int := fun x => cond b x.lo x.hi
theorem refGo_step {e : Sp → Int} {keep h s u : Int} {heat : List Sp} (h0 : 0 ≤ h) (hh : h.toNat < heat.length) : refGo e keep (heat.drop h.toNat) h s u = refGo e keep (heat.drop (h + 1).toNat) (h + 1) (s + e (heat.getD h.toNat default)) (cond (decide (s + e (heat.getD h.toNat default) ≤ keep)) h u) := by
  rw [drop_getD hh, refGo, show (h + 1).toNat = h.toNat + 1 from by omega]

def refDayB (d : Day) : Bool := headB d && d.heat.all (fun x => refSpB x 0 100) && d.lots.all (lotB d.hours) && d.wks.all (refWkB d.hours)
def refChk (d : Day) : Int := if refDayB d = true then 0 else 50
theorem rall_step {α : Type} [Inhabited α] {p : α → Bool} {xs : List α} {k : Nat} {ok r : Bool} (h : (ok && (xs.drop k).all p) = r) (hok : ok = true) (hk : k < xs.length) : (p (xs.getD k default) && (xs.drop (k + 1)).all p) = r := by
  rw [drop_getD hk, hok] at h; simpa using h
theorem rall_end {α : Type} {p : α → Bool} {xs : List α} {k : Nat} {ok r : Bool} (h : (ok && (xs.drop k).all p) = r) (hx : (cond ok (decide ((k : Int) < xs.length)) false) = false) : ok = r := by
  cases ok
  · simpa using h
  · have : xs.length ≤ k := by simp at hx; omega
    rw [List.drop_of_length_le this] at h; simpa using h
theorem rgo {ok : Bool} {k n : Nat} (hx : (cond ok (decide ((k : Int) < (n : Int))) false) = true) : ok = true ∧ k < n := by cases ok <;> simp_all
def refUntilA (d : Day) (lot : Int) : Int × Int × Int :=
  if refChk d ≠ 0 then (0, 0, refChk d) else if inB lot 0 ((d.lots.length : Int) - 1) = true then (refUntil Sp.hi d (d.lots.getD lot.toNat default), refUntil Sp.lo d (d.lots.getD lot.toNat default), 0) else (0, 0, 7)
def sameB (xs ys : List Int) : Bool := cond ((xs.length : Int) != ys.length) false (decide (xs = ys))
theorem refWk_eq (h : Int) (x : Wk) : refWkB h x = wkB h x := by
  have a : refWkB h x = true ↔ wkB h x = true := by
    simp only [refWkB, wkB]
    cases h1 : inB x.kd 0 2 <;> cases h2 : inB x.fr 0 (h - 1) <;> cases h3 : inB x.to x.fr (h - 1) <;> cases h4 : inB x.rt 0 20 <;> cases h5 : inB x.fr 0 x.to <;> cases h6 : inB x.to 0 (h - 1) <;> simp <;>
      simp [inB] at h2 h3 h5 h6 <;> (try (repeat' split at *)) <;> simp_all <;> omega
  cases h1 : refWkB h x <;> cases h2 : wkB h x <;> simp_all
theorem refSp_eq (x : Sp) : refSpB x 0 100 = spB x := by
  have a : refSpB x 0 100 = true ↔ spB x = true := by
    simp only [refSpB, spB, inB]
    by_cases h1 : 0 ≤ x.lo <;> by_cases h2 : x.lo ≤ 100 <;> by_cases h3 : x.lo ≤ x.hi <;> by_cases h4 : x.hi ≤ 100 <;> simp [h1, h2, h3, h4] <;> omega
  cases h1 : refSpB x 0 100 <;> cases h2 : spB x <;> simp_all
theorem refDay_eq (d : Day) : refDayB d = dayB d := by
  have e1 : (fun x => refSpB x 0 100) = spB := funext refSp_eq
  have e2 : refWkB d.hours = wkB d.hours := funext (refWk_eq _)
  unfold refDayB dayB
  rw [e1, e2]
theorem refChk_eq (d : Day) : refChk d = chk d := by unfold refChk chk; rw [refDay_eq]

theorem headB_form {d : Day} {a b c : Nat} (h1 : d.heat.length = a) (h2 : d.lots.length = b) (h3 : d.wks.length = c) : (cond (cond (cond (inB d.hours 1 24) ((a : Int) == d.hours) false) (decide ((b : Int) ≤ 8)) false) (decide ((c : Int) ≤ 6)) false) = headB d := by
  subst h1; subst h2; subst h3
  unfold headB
  rw [Bool.beq_eq_decide_eq]
  cases inB d.hours 1 24 <;> by_cases e1 : (d.heat.length : Int) = d.hours <;> by_cases e2 : (d.lots.length : Int) ≤ 8 <;> simp [e1, e2]

end Go.Proofs.Ytioimdegbdkppaa.DK
