/- Hour by hour, forth and back: the counts. -/
import Derived.Test.YtgihgcclabodbaaSF
namespace Go.Proofs.Ytgihgcclabodbaa.DK
open Go Go.Proofs
set_option linter.unusedVariables false
set_option linter.unusedSectionVars false

def fwd (s : Sea) (rs : List Rp) : Nat → Nat → Int
  | 0 => goneF s fun x => untr s rs ((0 : Nat) : Int) x
  | k + 1 => goneF s fun x => mn 1048576 (bestOf (fwd s rs k) ((cellsA s 0).filter fun o => stepP s (((k + 1 : Nat) : Int) - 1) (pl s o) (pl s x)) + untr s rs ((k + 1 : Nat) : Int) x)
def bwd (s : Sea) (rs : List Rp) : Nat → Nat → Int
  | 0 => goneF s fun x => untr s rs (s.hours - 1 - ((0 : Nat) : Int)) x
  | j + 1 => goneF s fun x => mn 1048576 (bestOf (bwd s rs j) ((cellsA s 0).filter fun o => stepP s (s.hours - 1 - ((j + 1 : Nat) : Int)) (pl s x) (pl s o)) + untr s rs (s.hours - 1 - ((j + 1 : Nat) : Int)) x)
theorem goneF_bd {s : Sea} {val : Int → Int} (h : ∀ x, x ∈ cellsA s 0 → 0 ≤ val x ∧ val x ≤ 1048576) : cntB (goneF s val) := by
  intro i hi
  unfold goneF
  split
  · rename_i hm; exact h _ hm
  · omega
section
variable {s : Sea} {rs : List Rp} (hv : seaB s = true) (hr : rpsB s rs = true)
include hv hr
theorem best_step {G : Nat → Int} (hG : cntB G) (p : Int → Bool) (h x : Int) : 0 ≤ mn 1048576 (bestOf G ((cellsA s 0).filter p) + untr s rs h x) ∧ mn 1048576 (bestOf G ((cellsA s 0).filter p) + untr s rs h x) ≤ 1048576 := by
  have h1 := bestOf_bd hG ((cellsA s 0).filter p) (fun y hy => by have := mem_cellsA (List.mem_filter.1 hy).1; have := sea_ok hv; omega) 1048576 (by omega)
  have h2 : bestOf G ((cellsA s 0).filter p) = List.foldl (fun b o => mn b (befG G o)) 1048576 ((cellsA s 0).filter p) := rfl
  rw [← h2] at h1
  have h3 := untr_bd (s := s) (rs := rs) h x
  unfold mn
  split <;> omega
theorem fwd_bd : ∀ k, cntB (fwd s rs k)
  | 0 => goneF_bd fun x _ => by have := untr_bd (s := s) (rs := rs) ((0 : Nat) : Int) x; have := (rp_ok hr).1; omega
  | k + 1 => goneF_bd fun x _ => best_step hv hr (fwd_bd k) _ _ _
theorem bwd_bd : ∀ k, cntB (bwd s rs k)
  | 0 => goneF_bd fun x _ => by have := untr_bd (s := s) (rs := rs) (s.hours - 1 - ((0 : Nat) : Int)) x; have := (rp_ok hr).1; omega
  | k + 1 => goneF_bd fun x _ => best_step hv hr (bwd_bd k) _ _ _
end
/-- The counts of the hour before, as they are pointed at. -/
def PT (b : Nat) : Nat → Value
  | 0 => .pointer none
  | k + 1 => .pointer (some ((⟨b, 0, none⟩ : Addr).add (((k : Nat) : Int).toNat * 80)))
def PB (s : Sea) (b : Nat) : Nat → Value
  | 0 => .pointer none
  | j + 1 => .pointer (some ((⟨b, 0, none⟩ : Addr).add ((s.hours - 1 - (j : Int)).toNat * 80)))
def logL (s : Sea) (v : SV) (mb : Nat) (qa : Option Addr) (qn qc : Nat) : List Value := [.int .i64 s.wide, .int .i64 s.high, .slice v.la v.ln v.lc, .int .i64 s.hours, .slice v.da v.dn v.dc, .int .i64 s.speed, .map (some mb), .slice qa qn qc]
theorem gone_fwd (s : Sea) (v : SV) (mb : Nat) (qa : Option Addr) (qn qc : Nat) (rs : List Rp) (bg b k : Nat) (w0 : World) (hg : LogR w0.heap.size w0 v mb qa qn s rs) (hv : seaB s = true) (hr : rpsB s rs = true) (hb : Ro bg (logL s v mb qa qn qc) w0) (hk : (k : Int) < s.hours)
    (hp : ∀ i, k = i + 1 → Rd encI 1 w0.heap.size w0 (some ((⟨b, 0, none⟩ : Addr).add (((i : Nat) : Int).toNat * 80))) 80 ((List.range 80).map (fwd s rs i))) :
    Calls Try.prog 80 #[.agg (logL s v mb qa qn qc).toArray, .agg #[.func (.func 86) #[] #[.pointer (some ⟨bg, 0, none⟩)]], .int .i64 (k : Int), PT b k] w0 (fun e w' => e = .returned (.agg (arrL 80 (fwd s rs k)).toArray) ∧ Ext w0 w') := by
  have h1 := sea_ok hv; have h2 := hg.sea.drift.len
  cases k with
  | zero => exact gone_first s v mb qa qn qc rs ((0 : Nat) : Int) bg w0 hg hv hr
  | succ i => exact gone_forth s v mb qa qn qc rs ((i + 1 : Nat) : Int) bg _ (fwd s rs i) w0 hg hv hr hb (by omega) (hp i rfl) (fwd_bd hv hr i)
theorem gone_bwd (s : Sea) (v : SV) (mb : Nat) (qa : Option Addr) (qn qc : Nat) (rs : List Rp) (bg b j : Nat) (w0 : World) (hg : LogR w0.heap.size w0 v mb qa qn s rs) (hv : seaB s = true) (hr : rpsB s rs = true) (hb : Ro bg (logL s v mb qa qn qc) w0) (hj : (j : Int) < s.hours)
    (hp : ∀ i, j = i + 1 → Rd encI 1 w0.heap.size w0 (some ((⟨b, 0, none⟩ : Addr).add ((s.hours - 1 - (i : Int)).toNat * 80))) 80 ((List.range 80).map (bwd s rs i))) :
    Calls Try.prog 80 #[.agg (logL s v mb qa qn qc).toArray, .agg #[.func (.func 87) #[] #[.pointer (some ⟨bg, 0, none⟩)]], .int .i64 (s.hours - 1 - (j : Int)), PB s b j] w0 (fun e w' => e = .returned (.agg (arrL 80 (bwd s rs j)).toArray) ∧ Ext w0 w') := by
  have h1 := sea_ok hv; have h2 := hg.sea.drift.len
  cases j with
  | zero => exact gone_last s v mb qa qn qc rs (s.hours - 1 - ((0 : Nat) : Int)) bg w0 hg hv hr
  | succ i => exact gone_back s v mb qa qn qc rs (s.hours - 1 - ((i + 1 : Nat) : Int)) bg _ (bwd s rs i) w0 hg hv hr hb (by omega) (hp i rfl) (bwd_bd hv hr i)
/-- What through answers: the counts through each cell. -/
def allF (s : Sea) (rs : List Rp) (h : Nat) : Nat → Int := fun c => if (c : Int) ∈ cellsA s 0 then mn 1048576 (fwd s rs h c + bwd s rs (s.hours.toNat - 1 - h) c - untr s rs (h : Int) (c : Int)) else fwd s rs h c
def restF (s : Sea) (rs : List Rp) (h : Nat) : Nat → Int := bwd s rs (s.hours.toNat - 1 - h)
end Go.Proofs.Ytgihgcclabodbaa.DK
