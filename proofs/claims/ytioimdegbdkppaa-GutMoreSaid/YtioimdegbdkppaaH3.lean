/- The crans that are taken flow from lots to workers: what taking one more does, and what it shows if it cannot be. -/
import Derived.Test.YtioimdegbdkppaaH2
namespace Go.Proofs.Ytioimdegbdkppaa.DK
open Go
set_option linter.unusedVariables false

abbrev rate (d : Day) (s : Int × Int) : Int := (d.wks.getD s.1.toNat default).rt
structure Flow (d : Day) (f : Nat → Int) (ld : LD) : Prop where
  nn : ∀ s i, i < 8 → 0 ≤ ld s i
  at_ : ∀ s i, i < 8 → 0 < ld s i → i < d.lots.length ∧ s ∈ grid d ∧ canB d f i s = true
  cap : ∀ s ∈ grid d, fsum 8 (ld s) ≤ rate d s
def taken (d : Day) (ld : LD) (i : Nat) : Int := gsum d fun s => ld s i

section
variable {d : Day} {f : Nat → Int}
theorem slots_mem {lot : Int} {s : Int × Int} : s ∈ slotsA d f lot 0 ↔ s ∈ grid d ∧ canB d f lot s = true := by
  constructor
  · intro h
    obtain ⟨h1, h2, h3, h4, h5⟩ := mem_slotsA h
    exact ⟨mem_grid.2 ⟨h1, h2, h3, h4⟩, h5⟩
  · rintro ⟨h, hc⟩
    obtain ⟨a, b⟩ := s
    obtain ⟨h1, h2, h3, h4⟩ := mem_grid.1 h
    simp only at h1 h2 h3 h4
    unfold slotsA
    rw [List.mem_flatMap]
    refine ⟨a.toNat, ?_, ?_⟩
    · rw [List.mem_range']; exact ⟨a.toNat, by omega, by omega⟩
    · unfold slotsW
      rw [List.mem_filter]
      refine ⟨?_, hc⟩
      rw [List.mem_map]
      refine ⟨b.toNat, ?_, ?_⟩
      · rw [List.mem_range']; exact ⟨b.toNat, by omega, by omega⟩
      · rw [Int.toNat_of_nonneg h1, Int.toNat_of_nonneg h3]
theorem taken_updt {ld : LD} {s : Int × Int} {l : Nat → Int} (hs : s ∈ grid d) (i : Nat) : taken d (updt ld s l) i = taken d ld i - ld s i + l i := by
  have e : (fun x => updt ld s l x i) = updt (fun x => ld x i) s (l i) := by
    funext x
    unfold updt
    split <;> rfl
  unfold taken
  rw [e, gsum_updt hs]
theorem Flow.updt {ld : LD} (h : Flow d f ld) {s : Int × Int} {l : Nat → Int} (hs : s ∈ grid d) (h0 : ∀ i, i < 8 → 0 ≤ l i) (h1 : ∀ i, i < 8 → 0 < l i → i < d.lots.length ∧ canB d f i s = true) (h2 : fsum 8 l ≤ rate d s) : Flow d f (DK.updt ld s l) := by
  refine ⟨fun x i hi => ?_, fun x i hi hp => ?_, fun x hx => ?_⟩
  · unfold DK.updt; split
    · exact h0 i hi
    · exact h.nn x i hi
  · unfold DK.updt at hp; split at hp
    · rename_i e; subst e; exact ⟨(h1 i hi hp).1, hs, (h1 i hi hp).2⟩
    · exact h.at_ x i hi hp
  · unfold DK.updt; split
    · rename_i e; subst e; exact h2
    · exact h.cap x hx

/-- All that can take the lot o are in S. -/
def Cl (d : Day) (f : Nat → Int) (S : Int × Int → Bool) (o : Nat) : Prop := ∀ y ∈ grid d, canB d f o y = true → S y = true
theorem Cl.mono {S S' : Int × Int → Bool} {o : Nat} (h : Cl d f S o) (hs : ∀ x, S x = true → S' x = true) : Cl d f S' o := fun y hy hc => hs y (h y hy hc)

structure TakeR (d : Day) (f : Nat → Int) (lot : Int) (st : TS) (r : Bool × TS) : Prop where
  mono : ∀ x, st.seen x = true → r.2.seen x = true
  same : ∀ x, st.seen x = true → r.2.ld x = st.ld x
  yes : r.1 = true → Flow d f r.2.ld ∧ ∀ i, i < 8 → taken d r.2.ld i = taken d st.ld i + (if (i : Int) = lot then 1 else 0)
  no : r.1 = false → r.2.ld = st.ld ∧ Cl d f r.2.seen lot.toNat ∧ ∀ x, r.2.seen x = true → st.seen x = false → rate d x ≤ fsum 8 (st.ld x) ∧ ∀ o, o < 8 → 0 < st.ld x o → Cl d f r.2.seen o

structure TryOR (d : Day) (f : Nat → Int) (lot : Int) (l : Nat → Int) (os : List Nat) (st : TS) (r : Option Nat × TS) : Prop where
  mono : ∀ x, st.seen x = true → r.2.seen x = true
  same : ∀ x, st.seen x = true → r.2.ld x = st.ld x
  yes : ∀ o, r.1 = some o → o < 8 ∧ 0 < l o ∧ (o : Int) ≠ lot ∧ Flow d f r.2.ld ∧ ∀ i, i < 8 → taken d r.2.ld i = taken d st.ld i + (if i = o then 1 else 0)
  no : r.1 = none → r.2.ld = st.ld ∧ (∀ o ∈ os, 0 < l o → (o : Int) ≠ lot → Cl d f r.2.seen o) ∧ ∀ x, r.2.seen x = true → st.seen x = false → rate d x ≤ fsum 8 (st.ld x) ∧ ∀ o, o < 8 → 0 < st.ld x o → Cl d f r.2.seen o

theorem tryO_spec {rec : Int → TS → Bool × TS} {k : Nat} (hrec : ∀ (o : Int) st, 0 ≤ o ∧ o < d.lots.length → Flow d f st.ld → unseen d st.seen < k → TakeR d f o st (rec o st)) {lot : Int} {l : Nat → Int} :
    ∀ (os : List Nat) (st : TS), (∀ o ∈ os, o < 8 ∧ (0 < l o → o < d.lots.length)) → Flow d f st.ld → unseen d st.seen < k → TryOR d f lot l os st (tryO rec lot l os st)
  | [], st, _, hf, _ => ⟨fun x h => h, fun x h => rfl, fun o h => by simp [tryO] at h, fun _ => ⟨rfl, by simp, fun x h1 h2 => by simp [tryO, h2] at h1⟩⟩
  | o :: os, st, hos, hf, hu => by
    have ho := hos o (by simp)
    have hos' : ∀ o ∈ os, o < 8 ∧ (0 < l o → o < d.lots.length) := fun o ho => hos o (by simp [ho])
    by_cases hc : 0 < l o ∧ (o : Int) ≠ lot
    · have h1 := hrec o st ⟨by omega, by have := ho.2 hc.1; omega⟩ hf hu
      cases hb : (rec (o : Int) st).1 with
      | true =>
        rw [tryO_hit hc.1 hc.2 hb]
        refine ⟨h1.mono, h1.same, fun o' e => ?_, fun e => by simp at e⟩
        simp only [Option.some.injEq] at e; subst e
        obtain ⟨y1, y2⟩ := h1.yes hb
        refine ⟨ho.1, hc.1, hc.2, y1, fun i hi => ?_⟩
        rw [y2 i hi]
        by_cases e : i = o
        · simp [e]
        · rw [if_neg e, if_neg (by omega)]
      | false =>
        rw [tryO_fail hc.1 hc.2 hb]
        obtain ⟨n1, n2, n3⟩ := h1.no hb
        have ih := tryO_spec hrec (lot := lot) (l := l) os (rec (o : Int) st).2 hos' (by rw [n1]; exact hf) (Nat.lt_of_le_of_lt (unseen_le h1.mono) hu)
        refine ⟨fun x hx => ih.mono x (h1.mono x hx), fun x hx => (ih.same x (h1.mono x hx)).trans (h1.same x hx), fun o' e => ?_, fun e => ?_⟩
        · obtain ⟨a, b, c, e1, e2⟩ := ih.yes o' e
          refine ⟨a, b, c, e1, fun i hi => ?_⟩
          rw [e2 i hi, n1]
        · obtain ⟨a, b, c⟩ := ih.no e
          refine ⟨a.trans n1, fun o' ho' h2 h3 => ?_, fun x hx hx0 => ?_⟩
          · rcases List.mem_cons.1 ho' with rfl | ho'
            · exact Cl.mono (by simpa using n2) ih.mono
            · exact b o' ho' h2 h3
          · by_cases hx1 : (rec (o : Int) st).2.seen x = true
            · obtain ⟨q1, q2⟩ := n3 x hx1 hx0
              exact ⟨q1, fun o' h4 h5 => (q2 o' h4 h5).mono ih.mono⟩
            · obtain ⟨q1, q2⟩ := c x hx (by simpa using hx1)
              rw [n1] at q1 q2
              exact ⟨q1, q2⟩
    · rw [tryO_skip hc]
      have ih := tryO_spec hrec (lot := lot) (l := l) os st hos' hf hu
      refine ⟨ih.mono, ih.same, ih.yes, fun e => ?_⟩
      obtain ⟨a, b, c⟩ := ih.no e
      refine ⟨a, fun o' ho' h2 h3 => ?_, c⟩
      rcases List.mem_cons.1 ho' with rfl | ho'
      · exact absurd ⟨h2, h3⟩ hc
      · exact b o' ho' h2 h3

structure TrySR (d : Day) (f : Nat → Int) (lot : Int) (ss : List (Int × Int)) (st : TS) (r : Bool × TS) : Prop where
  mono : ∀ x, st.seen x = true → r.2.seen x = true
  same : ∀ x, st.seen x = true → r.2.ld x = st.ld x
  yes : r.1 = true → Flow d f r.2.ld ∧ ∀ i, i < 8 → taken d r.2.ld i = taken d st.ld i + (if (i : Int) = lot then 1 else 0)
  no : r.1 = false → r.2.ld = st.ld ∧ (∀ x ∈ ss, r.2.seen x = true) ∧ ∀ x, r.2.seen x = true → st.seen x = false → rate d x ≤ fsum 8 (st.ld x) ∧ ∀ o, o < 8 → 0 < st.ld x o → (o : Int) ≠ lot → Cl d f r.2.seen o

theorem tryS_spec (h8 : d.lots.length ≤ 8) {rec : Int → TS → Bool × TS} {k : Nat} (hrec : ∀ (o : Int) st, 0 ≤ o ∧ o < d.lots.length → Flow d f st.ld → unseen d st.seen < k → TakeR d f o st (rec o st)) {lot : Int} (hl : 0 ≤ lot ∧ lot < d.lots.length) :
    ∀ (ss : List (Int × Int)) (st : TS), (∀ s ∈ ss, s ∈ grid d ∧ canB d f lot s = true) → Flow d f st.ld → unseen d st.seen < k + 1 → TrySR d f lot ss st (tryS rec d lot ss st)
  | [], st, _, hf, _ => ⟨fun x h => h, fun x h => rfl, fun h => by simp [tryS] at h, fun _ => ⟨rfl, by simp, fun x h1 h2 => by simp [tryS, h2] at h1⟩⟩
  | s :: ss, st, hss, hf, hu => by
    have hs := hss s (by simp)
    have hss' : ∀ s ∈ ss, s ∈ grid d ∧ canB d f lot s = true := fun s hs => hss s (by simp [hs])
    have hlt : (lot.toNat : Int) = lot := by omega
    have hcs : canB d f (lot.toNat : Int) s = true := by rw [hlt]; exact hs.2
    cases hsn : st.seen s with
    | true =>
      rw [tryS_seen hsn]
      have ih := tryS_spec h8 hrec hl ss st hss' hf hu
      refine ⟨ih.mono, ih.same, ih.yes, fun e => ?_⟩
      obtain ⟨a, b, c⟩ := ih.no e
      refine ⟨a, fun x hx => ?_, c⟩
      rcases List.mem_cons.1 hx with rfl | hx
      · exact ih.mono _ hsn
      · exact b x hx
    | false =>
      have hup : ∀ x, st.seen x = true → updt st.seen s true x = true := fun x hx => updt_le hx
      have hup0 : ∀ x, updt st.seen s true x = true → x = s ∨ st.seen x = true := fun x hx => by
        unfold updt at hx; split at hx
        · exact .inl (by assumption)
        · exact .inr hx
      have hne : ∀ x, st.seen x = true → x ≠ s := fun x hx e => by subst e; rw [hsn] at hx; cases hx
      by_cases hr : fsum 8 (st.ld s) < rate d s
      · rw [tryS_room hsn hr]
        refine ⟨hup, fun x hx => ?_, fun _ => ⟨?_, fun i hi => ?_⟩, fun e => by simp at e⟩
        · show updt st.ld s _ x = _
          unfold updt; rw [if_neg (hne x hx)]
        · refine hf.updt hs.1 (fun i hi => ?_) (fun i hi hp => ?_) ?_
          · unfold updf; split
            · have := hf.nn s lot.toNat (by omega); omega
            · exact hf.nn s i hi
          · by_cases e : i = lot.toNat
            · subst e; exact ⟨by omega, hcs⟩
            · simp only [updf, if_neg e] at hp
              exact ⟨(hf.at_ s i hi hp).1, (hf.at_ s i hi hp).2.2⟩
          · rw [fsum_updf 8 (by omega)]; omega
        · show taken d (updt st.ld s _) i = _
          rw [taken_updt hs.1]
          by_cases e : (i : Int) = lot
          · rw [if_pos e]; have : i = lot.toNat := by omega
            subst this; simp only [updf, if_pos rfl]; simp; omega
          · rw [if_neg e]; simp only [updf, if_neg (show ¬ i = lot.toNat by omega)]; omega
      · have hu2 : unseen d (updt st.seen s true) < k := by
          have := unseen_lt (d := d) hup hs.1 hsn (by simp [updt])
          omega
        have hto := tryO_spec hrec (lot := lot) (l := st.ld s) (List.range 8) ⟨updt st.seen s true, st.ld⟩ (fun o ho => ⟨by simpa using ho, fun hp => (hf.at_ s o (by simpa using ho) hp).1⟩) hf hu2
        have hos := hto.same s (by simp [updt])
        cases hr2 : tryO rec lot (st.ld s) (List.range 8) ⟨updt st.seen s true, st.ld⟩ with
        | mk o st2 =>
          rw [hr2] at hto hos
          simp only at hos
          cases o with
          | some o =>
            rw [tryS_swap hsn hr hr2]
            obtain ⟨o1, o2, o3, o4, o5⟩ := hto.yes o rfl
            simp only at o4 o5
            have hol : o ≠ lot.toNat := by omega
            have hsum : fsum 8 (updf (updf (st.ld s) lot.toNat (st.ld s lot.toNat + 1)) o (updf (st.ld s) lot.toNat (st.ld s lot.toNat + 1) o - 1)) = fsum 8 (st.ld s) := by
              rw [fsum_updf 8 o1, fsum_updf 8 (by omega)]; simp only [updf, if_neg hol]; omega
            refine ⟨fun x hx => hto.mono x (hup x hx), fun x hx => ?_, fun _ => ⟨?_, fun i hi => ?_⟩, fun e => by simp at e⟩
            · show updt st2.ld s _ x = _
              have := hto.same x (hup x hx)
              unfold updt; rw [if_neg (hne x hx)]; exact this
            · refine o4.updt hs.1 (fun i hi => ?_) (fun i hi hp => ?_) ?_
              · have h1 := hf.nn s lot.toNat (by omega); have h2 := hf.nn s i hi
                unfold updf; rw [if_neg hol]; split
                · rename_i e; subst e; omega
                · split <;> omega
              · by_cases e : i = lot.toNat
                · subst e; exact ⟨by omega, hcs⟩
                · have hp' : 0 < st.ld s i := by
                    by_cases e2 : i = o
                    · subst e2; exact o2
                    · simpa only [updf, if_neg e, if_neg e2] using hp
                  exact ⟨(hf.at_ s i hi hp').1, (hf.at_ s i hi hp').2.2⟩
              · rw [hsum]; exact hf.cap s hs.1
            · show taken d (updt st2.ld s _) i = _
              rw [taken_updt hs.1, o5 i hi, hos]
              by_cases e : (i : Int) = lot
              · have e1 : i = lot.toNat := by omega
                rw [if_pos e, if_neg (by omega)]; subst e1; simp only [updf, if_neg (show ¬ lot.toNat = o by omega)]; simp; omega
              · rw [if_neg e]
                by_cases e2 : i = o
                · subst e2; simp only [updf, if_neg hol]; simp; omega
                · rw [if_neg e2]; simp only [updf, if_neg e2, if_neg (show ¬ i = lot.toNat by omega)]; omega
          | none =>
            rw [tryS_none hsn hr hr2]
            obtain ⟨n1, n2, n3⟩ := hto.no rfl
            simp only at n1 n2 n3
            have hm2 : ∀ x, st.seen x = true → st2.seen x = true := fun x hx => hto.mono x (hup x hx)
            have ih := tryS_spec h8 hrec hl ss st2 hss' (by rw [n1]; exact hf) (Nat.lt_of_le_of_lt (unseen_le hm2) hu)
            refine ⟨fun x hx => ih.mono x (hm2 x hx), fun x hx => (ih.same x (hm2 x hx)).trans (by rw [n1]), fun e => ?_, fun e => ?_⟩
            · obtain ⟨a, b⟩ := ih.yes e
              exact ⟨a, fun i hi => by rw [b i hi, n1]⟩
            · obtain ⟨a, b, c⟩ := ih.no e
              refine ⟨a.trans n1, fun x hx => ?_, fun x hx hx0 => ?_⟩
              · rcases List.mem_cons.1 hx with rfl | hx
                · exact ih.mono _ (hto.mono _ (by simp [updt]))
                · exact b x hx
              · by_cases hx2 : st2.seen x = true
                · by_cases hxs : x = s
                  · subst hxs
                    exact ⟨by omega, fun o h1 h2 h3 => (n2 o (by simpa using h1) h2 h3).mono ih.mono⟩
                  · obtain ⟨q1, q2⟩ := n3 x hx2 (by unfold updt; rw [if_neg hxs]; exact hx0)
                    exact ⟨q1, fun o h1 h2 _ => (q2 o h1 h2).mono ih.mono⟩
                · obtain ⟨q1, q2⟩ := c x hx (by simpa using hx2)
                  rw [n1] at q1 q2
                  exact ⟨q1, q2⟩

theorem take_spec (h8 : d.lots.length ≤ 8) : ∀ (n : Nat) (lot : Int) (st : TS), 0 ≤ lot ∧ lot < d.lots.length → Flow d f st.ld → unseen d st.seen < n → TakeR d f lot st (takeF d f n lot st)
  | n + 1, lot, st, hl, hf, hu => by
    have h := tryS_spec h8 (take_spec h8 n) hl (slotsA d f lot 0) st (fun s hs => slots_mem.1 hs) hf hu
    refine ⟨h.mono, h.same, h.yes, fun e => ?_⟩
    obtain ⟨a, b, c⟩ := h.no e
    have hcl : Cl d f (takeF d f (n + 1) lot st).2.seen lot.toNat := fun y hy hc => b y (slots_mem.2 ⟨hy, by rwa [show (lot.toNat : Int) = lot from by omega] at hc⟩)
    refine ⟨a, hcl, fun x hx hx0 => ?_⟩
    obtain ⟨q1, q2⟩ := c x hx hx0
    refine ⟨q1, fun o h1 h2 => ?_⟩
    by_cases ho : (o : Int) = lot
    · rw [show o = lot.toNat from by omega]; exact hcl
    · exact q2 o h1 h2 ho
end
end Go.Proofs.Ytioimdegbdkppaa.DK
