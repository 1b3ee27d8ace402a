/- What a call of put is given, and what it leaves. -/
import Derived.Test.YtioimdegbdkppaaGM
namespace Go.Proofs.Ytioimdegbdkppaa.DK
open Go
set_option linter.unusedVariables false

def mm (bs bl : Nat) : Nat → Prop := fun k => k = bs ∨ k = bl
def workL (v : DV) (d : Day) (f : Nat → Int) (bl : Nat) : List Value := dayPre v d ++ fcells 8 f ++ [.map (some bl)]
def zld : Value := .agg #[.int .i64 0, .int .i64 0, .int .i64 0, .int .i64 0, .int .i64 0, .int .i64 0, .int .i64 0, .int .i64 0]
theorem updf_or (f : Nat → Int) (i : Nat) (x : Int) (k : Nat) : updf f i x k = x ∨ updf f i x k = f k := by unfold updf; split <;> simp
theorem updt_le {S : Int × Int → Bool} {x y : Int × Int} (h : S x = true) : updt S y true x = true := by unfold updt; split <;> simp_all

structure PutPre (d : Day) (v : DV) (f : Nat → Int) (bd bs bl bw bc bp n : Nat) (lot : Int) (st : TS) (w : World) : Prop where
  hd : DayR bd w v d
  hb : bd ≤ w.heap.size
  ne : bs ≠ bl
  hbs : bd ≤ bs
  hbl : bd ≤ bl
  nw : ¬ mm bs bl bw
  nc : ¬ mm bs bl bc
  np : ¬ mm bs bl bp
  rw : Ro bw (workL v d f bl) w
  rc : Ro bc [.map (some bs)] w
  rp : Ro bp [.func (.func 73) #[] #[.pointer (some ⟨bw, 0, none⟩), .pointer (some ⟨bc, 0, none⟩), .pointer (some ⟨bp, 0, none⟩)]] w
  ms : (mapT bs (.bool false) Value.bool st.seen).ok w
  ml : (mapT bl zld (arrV 8) st.ld).ok w
  lot : 0 ≤ lot ∧ lot < v.ln
  ok : okL d.lots.length st.ld
  hn : unseen d st.seen < n

section
variable {d : Day} {v : DV} {f : Nat → Int} {bd bs bl bw bc bp n : Nat} {lot : Int} {st : TS} {w0 w : World} {L : List Res}
theorem PutPre.nom (hp : PutPre d v f bd bs bl bw bc bp n lot st w) : ∀ k, k < bd → ¬ mm bs bl k := fun k hk hm => by
  have h1 := hp.hbs; have h2 := hp.hbl
  rcases hm with h | h <;> omega
theorem PutPre.own (hp : PutPre d v f bd bs bl bw bc bp n lot st w) : Own w (mm bs bl) [mapT bs (.bool false) Value.bool st.seen, mapT bl zld (arrV 8) st.ld] w := by
  refine Own.of ?_ ?_ ?_
  · intro r hr
    simp only [List.mem_cons, List.not_mem_nil, or_false] at hr
    rcases hr with rfl | rfl
    · exact hp.ms
    · exact hp.ml
  · simp only [List.pairwise_cons, List.mem_cons, List.not_mem_nil, or_false, forall_eq, false_implies, implies_true, List.Pairwise.nil, and_true]
    intro k h1 h2
    exact hp.ne (h1.symm.trans h2)
  · intro r hr k hk
    simp only [List.mem_cons, List.not_mem_nil, or_false] at hr
    rcases hr with rfl | rfl
    · exact .inl hk
    · exact .inr hk
theorem PutPre.step (hp : PutPre d v f bd bs bl bw bc bp (n + 1) lot st w0) (hO : Own w0 (mm bs bl) L w) (js jl : Nat) {S2 : Int × Int → Bool} {Ld2 : Int × Int → Nat → Int} (h1 : L[js]? = some (mapT bs (.bool false) Value.bool S2)) (h2 : L[jl]? = some (mapT bl zld (arrV 8) Ld2))
    (o : Int) (ho : 0 ≤ o ∧ o < v.ln) (hok : okL d.lots.length Ld2) (hun : unseen d S2 < n) : PutPre d v f bd bs bl bw bc bp n o ⟨S2, Ld2⟩ w :=
  ⟨hp.hd.kp hO.kp hp.nom, Nat.le_trans hp.hb hO.kp.size, hp.ne, hp.hbs, hp.hbl, hp.nw, hp.nc, hp.np, hp.rw.kp hO.kp hp.nw, hp.rc.kp hO.kp hp.nc, hp.rp.kp hO.kp hp.np, hO.get js h1, hO.get jl h2, ho, hok, hun⟩
theorem PutPre.less (hp : PutPre d v f bd bs bl bw bc bp (n + 1) lot st w0) {S S2 : Int × Int → Bool} {x : Int × Int} (h1 : ∀ x, st.seen x = true → S x = true) (h2 : ∀ y, updt S x true y = true → S2 y = true) (hx : x ∈ grid d) (hs : S x = false) : unseen d S2 < n := by
  have a1 : unseen d S ≤ unseen d st.seen := unseen_le h1
  have a2 : unseen d (updt S x true) < unseen d S := unseen_lt (fun y hy => updt_le hy) hx hs (by simp [updt])
  have a3 : unseen d S2 ≤ unseen d (updt S x true) := unseen_le h2
  have := hp.hn
  omega
theorem hmm {S2 : Int × Int → Bool} {Ld2 : Int × Int → Nat → Int} : ∀ k, mm bs bl k → ∃ r ∈ [mapT bs (.bool false) Value.bool S2, mapT bl zld (arrV 8) Ld2], r.fp k := by
  rintro k (rfl | rfl)
  · exact ⟨_, by simp; left; rfl, rfl⟩
  · exact ⟨_, by simp; right; rfl, rfl⟩
end

def PutPost (d : Day) (f : Nat → Int) (bs bl n : Nat) (lot : Int) (st : TS) (w : World) (e : Ending) (w' : World) : Prop :=
  e = .returned (.bool (takeF d f n lot st).1) ∧ Own w (mm bs bl) [mapT bs (.bool false) Value.bool (takeF d f n lot st).2.seen, mapT bl zld (arrV 8) (takeF d f n lot st).2.ld] w'
end Go.Proofs.Ytioimdegbdkppaa.DK
