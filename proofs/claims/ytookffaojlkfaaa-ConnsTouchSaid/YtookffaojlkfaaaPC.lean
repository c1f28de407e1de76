/- Connections in order: plain laws. -/
import Derived.Test.YtookffaojlkfaaaJ3
import Derived.Test.YtookffaojlkfaaaC16
import Derived.Test.YtookffaojlkfaaaC11
import Derived.Test.YtookffaojlkfaaaC13
set_option linter.unusedSimpArgs false
set_option linter.unusedVariables false
namespace Go.Proofs.Ytookffaojlkfaaa
open Go.RowKit

def ltT (s t : Tu) : Prop := s.a < t.a ∨ s.a = t.a ∧ (s.b < t.b ∨ s.b = t.b ∧ (s.c < t.c ∨ s.c = t.c ∧ s.d < t.d))
theorem cmpT_ifs (s t : Tu) : cmpT s t = if s.a < t.a then -1 else if t.a < s.a then 1 else if s.b < t.b then -1 else if t.b < s.b then 1 else if s.c < t.c then -1 else if t.c < s.c then 1 else if s.d < t.d then -1 else if t.d < s.d then 1 else 0 := by
  have key : ∀ (x y r : Int), (if cmpI x y = 0 then r else cmpI x y) = if x < y then -1 else if y < x then 1 else r := by
    intro x y r
    unfold cmpI
    by_cases h1 : x < y
    · simp [h1]
    · by_cases h2 : y < x
      · simp [h1, h2]
      · simp [h1, h2]
  show (if cmpI s.a t.a = 0 then (if cmpI s.b t.b = 0 then (if cmpI s.c t.c = 0 then (if cmpI s.d t.d = 0 then 0 else cmpI s.d t.d) else cmpI s.c t.c) else cmpI s.b t.b) else cmpI s.a t.a) = _
  rw [key, key, key, key]
theorem cmpT_lt {s t : Tu} : cmpT s t < 0 ↔ ltT s t := by
  rw [cmpT_ifs]; unfold ltT
  repeat' split
  all_goals omega
theorem cmpT_gt {s t : Tu} : 0 < cmpT s t ↔ ltT t s := by
  rw [cmpT_ifs]; unfold ltT
  repeat' split
  all_goals omega
theorem cmpT_eq {s t : Tu} : cmpT s t = 0 ↔ s = t := by
  have h : s = t ↔ s.a = t.a ∧ s.b = t.b ∧ s.c = t.c ∧ s.d = t.d := by
    cases s; cases t; simp
  rw [h, cmpT_ifs]
  repeat' split
  all_goals omega
theorem cmpT_self (t : Tu) : cmpT t t = 0 := cmpT_eq.2 rfl
theorem ltT_trans {s t u : Tu} (h : ltT s t) (k : ltT t u) : ltT s u := by unfold ltT at *; omega
theorem geT_iff {t : Tu} {x : Co} : geT t x = true ↔ ¬ ltT x.t t := by
  unfold geT
  rw [decide_eq_true_eq, ← cmpT_lt]
  omega
theorem right_lt {xs : List Co} (h : rightC xs = true) {m : Nat} {x y : Co} (hx : xs[m]? = some x) (hy : xs[m + 1]? = some y) : ltT x.t y.t := by
  have h1 := ((rightC_iff xs).1 h).2 (m + 1) (List.getElem?_eq_some_iff.1 hy).1
  refine cmpT_lt.1 (Int.not_le.1 fun hc => h1 ⟨y, hy, .inr ⟨m, x, rfl, hx, hc⟩⟩)
theorem right_far {xs : List Co} (h : rightC xs = true) {i : Nat} {x : Co} (hx : xs[i]? = some x) : ∀ (n : Nat) (y : Co), xs[i + 1 + n]? = some y → ltT x.t y.t
  | 0, y, hy => right_lt h hx hy
  | n + 1, y, hy => by
    have hl : i + 1 + n < xs.length := by have := (List.getElem?_eq_some_iff.1 hy).1; omega
    exact ltT_trans (right_far h hx n xs[i + 1 + n] (List.getElem?_eq_getElem hl)) (right_lt h (List.getElem?_eq_getElem hl) hy)
theorem at_spec {xs : List Co} {t : Tu} : ∀ j, j < atC xs t → ∀ x, xs[j]? = some x → ltT x.t t := by
  intro j hj x hx
  have h := List.not_of_lt_findIdx (p := geT t) (xs := xs) hj
  have hl := (List.getElem?_eq_some_iff.1 hx).1
  have e : xs[j] = x := (List.getElem?_eq_some_iff.1 hx).2
  rw [e] at h
  by_cases hg : geT t x = true
  · exact absurd hg (by simpa using h)
  · exact Classical.byContradiction fun hn => hg (geT_iff.2 hn)
theorem at_ge {xs : List Co} {t : Tu} {x : Co} (hx : xs[atC xs t]? = some x) : ¬ ltT x.t t := by
  have hl := (List.getElem?_eq_some_iff.1 hx).1
  have h := List.findIdx_getElem (p := geT t) (xs := xs) (w := hl)
  have e : xs[xs.findIdx (geT t)] = x := (List.getElem?_eq_some_iff.1 hx).2
  rw [e] at h
  exact geT_iff.1 h
theorem at_iff {xs : List Co} (h : rightC xs = true) {t : Tu} {j : Nat} {x : Co} (hx : xs[j]? = some x) (he : x.t = t) : atC xs t = j ∧ okC xs t = true := by
  have hn : ¬ ltT t t := by unfold ltT; omega
  have h1 : atC xs t = j := by
    rcases Nat.lt_trichotomy (atC xs t) j with hlt | e | hgt
    · exfalso
      have hl := (List.getElem?_eq_some_iff.1 hx).1
      have hk : xs[atC xs t]? = some (xs[atC xs t]'(by omega)) := List.getElem?_eq_getElem (by omega)
      have := right_far h hk (j - (atC xs t + 1)) x (by rw [show atC xs t + 1 + (j - (atC xs t + 1)) = j by omega]; exact hx)
      rw [he] at this
      exact at_ge hk this
    · exact e
    · exfalso
      have := at_spec j hgt x hx
      rw [he] at this
      exact hn this
  refine ⟨h1, ?_⟩
  unfold okC
  rw [h1, hx]
  exact eqT_iff.2 he
theorem ok_spec {xs : List Co} {t : Tu} (h : okC xs t = true) : ∃ x, xs[atC xs t]? = some x ∧ x.t = t := by
  unfold okC at h
  cases hg : xs[atC xs t]? with
  | none => rw [hg] at h; cases h
  | some x => rw [hg] at h; exact ⟨x, rfl, eqT_iff.1 h⟩
theorem ok_there {xs : List Co} (h : rightC xs = true) (t : Tu) : okC xs t = xs.any fun x => eqT x.t t := by
  cases ho : okC xs t
  · symm
    rw [List.any_eq_false]
    intro x hx he
    obtain ⟨j, hj, hjx⟩ := List.getElem_of_mem hx
    have := (at_iff h (List.getElem?_eq_some_iff.2 ⟨hj, hjx⟩) (eqT_iff.1 he)).2
    rw [ho] at this; cases this
  · symm
    obtain ⟨x, hx, he⟩ := ok_spec ho
    exact List.any_eq_true.2 ⟨x, List.mem_of_getElem? hx, eqT_iff.2 he⟩
theorem insAt_get {α : Type} (xs : List α) (k : Nat) (x : α) (hk : k ≤ xs.length) (j : Nat) : (insAt xs k x)[j]? = if j < k then xs[j]? else if j = k then some x else xs[j - 1]? := by
  unfold insAt
  have hl : (xs.take k).length = k := by rw [List.length_take]; omega
  by_cases h1 : j < k
  · rw [if_pos h1, List.getElem?_append_left (by omega), List.getElem?_take, if_pos h1]
  · rw [if_neg h1, List.getElem?_append_right (by omega), hl]
    by_cases h2 : j = k
    · rw [if_pos h2, h2, Nat.sub_self]; rfl
    · rw [if_neg h2, show j - k = (j - k - 1) + 1 by omega, List.getElem?_cons_succ, List.getElem?_drop, show k + (j - k - 1) = j - 1 by omega]
theorem insAt_erase {α : Type} (xs : List α) (k : Nat) (x : α) (hk : k ≤ xs.length) : (insAt xs k x).eraseIdx k = xs := by
  have hl : (xs.take k).length = k := by rw [List.length_take]; omega
  unfold insAt
  rw [List.eraseIdx_append_of_length_le (by omega), hl, Nat.sub_self]
  simp
theorem add_right {xs : List Co} {t : Tu} {now : Int} (h : rightC xs = true) (hl : xs.length < 32) (h0 : 0 ≤ now) (h1 : now ≤ 1099511627776) (hn : okC xs t = false) : rightC (insAt xs (atC xs t) (newC t now)) = true := by
  have hk := at_le xs t
  obtain ⟨k, hke⟩ : ∃ k, atC xs t = k := ⟨_, rfl⟩
  have hsp := at_spec (xs := xs) (t := t)
  have hge := fun x => at_ge (xs := xs) (t := t) (x := x)
  have hok : ∀ x, xs[k]? = some x → x.t ≠ t := fun x hx he => by
    have := (at_iff h hx he).2
    rw [hn] at this; cases this
  rw [hke] at hk hsp hge ⊢
  refine (rightC_iff _).2 ⟨by rw [insAt_len]; omega, fun j hj ⟨x, hx, hb⟩ => ?_⟩
  have hbad := ((rightC_iff xs).1 h).2
  rw [insAt_get _ _ _ hk] at hx
  rcases hb with hb | ⟨m, y, rfl, hy, hc⟩
  · have hin : ∀ i, xs[i]? = some x → False := fun i hi => hbad i (List.getElem?_eq_some_iff.1 hi).1 ⟨x, hi, .inl hb⟩
    split at hx
    · exact hin _ hx
    · split at hx
      · cases hx
        unfold wrongC newC at hb
        simp at hb
        omega
      · exact hin _ hx
  · rw [insAt_get _ _ _ hk] at hy
    have hno : ¬ ltT y.t x.t := fun hlt => by have := cmpT_lt.2 hlt; omega
    by_cases c1 : m + 1 < k
    · rw [if_pos c1] at hx
      rw [if_pos (by omega)] at hy
      exact hno (right_lt h hy hx)
    · rw [if_neg c1] at hx
      by_cases c2 : m + 1 = k
      · rw [if_pos c2] at hx
        rw [if_pos (by omega)] at hy
        cases hx
        exact hno (hsp m (by omega) y hy)
      · rw [if_neg c2] at hx
        rw [if_neg (by omega)] at hy
        rw [show m + 1 - 1 = m by omega] at hx
        by_cases c3 : m = k
        · rw [if_pos c3] at hy
          cases hy
          subst c3
          refine hno ?_
          show ltT t x.t
          have a1 := hge x hx
          have a2 := hok x hx
          have a3 : ¬ cmpT x.t t < 0 := fun e => a1 (cmpT_lt.1 e)
          have a4 : cmpT x.t t ≠ 0 := fun e => a2 (cmpT_eq.1 e)
          exact cmpT_gt.1 (by omega)
        · rw [if_neg c3] at hy
          have e : xs[m - 1 + 1]? = some x := by rw [show m - 1 + 1 = m by omega]; exact hx
          exact hno (right_lt h hy e)
theorem add_at {xs : List Co} {t : Tu} {now : Int} : (insAt xs (atC xs t) (newC t now))[atC xs t]? = some (newC t now) := by
  rw [insAt_get _ _ _ (at_le xs t), if_neg (Nat.lt_irrefl _), if_pos rfl]
theorem touch_get {xs : List Co} {t : Tu} {now : Int} (h : rightC xs = true) (j : Nat) (x : Co) (hx : xs[j]? = some x) :
    (withX (touchF now) xs t)[j]? = some (if eqT x.t t = true then { x with l := max x.l (min now 1099511627776) } else x) := by
  unfold withX withOk
  rw [h, Bool.and_true]
  by_cases he : eqT x.t t = true
  · rw [if_pos he]
    obtain ⟨h1, h2⟩ := at_iff h hx (eqT_iff.1 he)
    rw [h2, if_pos rfl, h1]
    unfold touchF
    rw [hx]
    have hl := (List.getElem?_eq_some_iff.1 hx).1
    simp [hl]
  · rw [if_neg he]
    by_cases ho : okC xs t = true
    · rw [if_pos ho]
      obtain ⟨y, hy, hyt⟩ := ok_spec ho
      unfold touchF
      rw [hy]
      have hne : atC xs t ≠ j := fun e => by rw [e, hx] at hy; cases hy; exact he (eqT_iff.2 hyt)
      simp only
      rw [List.getElem?_set_ne hne]
      exact hx
    · rw [if_neg ho]; exact hx
theorem touch_len (xs : List Co) (t : Tu) (now : Int) : (withX (touchF now) xs t).length = xs.length := by
  unfold withX touchF; split
  · split <;> simp
  · rfl
theorem touch_right {xs : List Co} {t : Tu} {now : Int} (h : rightC xs = true) : rightC (withX (touchF now) xs t) = true := by
  have h2 := (rightC_iff xs).1 h
  refine (rightC_iff _).2 ⟨by rw [touch_len]; exact h2.1, fun j hj ⟨x, hx, hb⟩ => ?_⟩
  rw [touch_len] at hj
  have g := touch_get (t := t) (now := now) h
  have hx0 := g j xs[j] (List.getElem?_eq_getElem hj)
  rw [hx] at hx0
  have ht : ∀ (i : Nat) (z : Co), (withX (touchF now) xs t)[i]? = some z → ∃ y, xs[i]? = some y ∧ y.t = z.t := fun i z hz => by
    have hl : i < xs.length := by have := (List.getElem?_eq_some_iff.1 hz).1; rwa [touch_len] at this
    have h3 := g i xs[i] (List.getElem?_eq_getElem hl)
    rw [hz] at h3
    refine ⟨_, List.getElem?_eq_getElem hl, ?_⟩
    cases Option.some.inj h3
    split <;> rfl
  rcases hb with hb | ⟨m, y, rfl, hy, hc⟩
  · have hw : ¬ wrongC xs[j] = true := fun e => h2.2 j hj ⟨_, List.getElem?_eq_getElem hj, .inl e⟩
    cases Option.some.inj hx0
    unfold wrongC at hw hb
    simp only [Bool.or_eq_true, decide_eq_true_eq, not_or] at hw hb
    split at hb
    · simp only at hb; omega
    · omega
  · obtain ⟨y0, hy0, e1⟩ := ht m y hy
    obtain ⟨x0, hx0', e2⟩ := ht (m + 1) x hx
    have := cmpT_lt.2 (right_lt h hy0 hx0')
    rw [e1, e2] at this
    omega
theorem touch_twice {xs : List Co} {t : Tu} {now more : Int} (h : rightC xs = true) : withX (touchF more) (withX (touchF now) xs t) t = withX (touchF (max now more)) xs t := by
  refine List.ext_getElem? fun j => ?_
  by_cases hj : j < xs.length
  · have g1 := touch_get (t := t) (now := now) h j xs[j] (List.getElem?_eq_getElem hj)
    have g2 := touch_get (t := t) (now := more) (touch_right (t := t) (now := now) h) j _ g1
    have g3 := touch_get (t := t) (now := max now more) h j xs[j] (List.getElem?_eq_getElem hj)
    rw [g2, g3]
    by_cases he : eqT xs[j].t t = true
    · simp only [he, if_true]
      congr 2
      omega
    · simp only [he, Bool.false_eq_true, if_false]
  · rw [List.getElem?_eq_none (by rw [touch_len, touch_len]; omega), List.getElem?_eq_none (by rw [touch_len]; omega)]
theorem touch_ok {xs : List Co} (h : rightC xs = true) (t : Tu) : withOk xs t = xs.any fun x => eqT x.t t := by
  unfold withOk
  rw [h, Bool.and_true, ok_there h]

end Go.Proofs.Ytookffaojlkfaaa
