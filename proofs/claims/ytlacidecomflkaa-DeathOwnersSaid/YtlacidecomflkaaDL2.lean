/- The laws of DeathAll and DeathOwners, in plain Lean. -/
import Derived.Test.YtlacidecomflkaaD9
import Derived.Test.YtlacidecomflkaaDL1
import Derived.Test.YtlacidecomflkaaPL6
set_option linter.unusedSimpArgs false
set_option linter.unusedVariables false
namespace Go.Proofs.Ytlacidecomflkaa
open Go.RowKit

theorem allN_le (l : Nat → Mo) (d : Int) (ms : List Int) (i : Nat) : ∀ k, k ≤ i → allN l d ms k i = l i
  | 0, _ => rfl
  | k + 1, h => by
    unfold allN updM
    rw [if_neg (by omega)]
    exact allN_le l d ms i k (by omega)
theorem allN_gt (l : Nat → Mo) (d : Int) (ms : List Int) (i : Nat) : ∀ k, i < k → allN l d ms k i = deathM (l i) d (whoP (allN l d ms i) ms)
  | 0, h => by omega
  | k + 1, h => by
    by_cases e : i = k
    · subst e
      show updM (allN l d ms i) i _ i = _
      unfold updM
      rw [if_pos rfl, allN_le l d ms i i (Nat.le_refl _)]
    · show updM (allN l d ms k) k _ i = _
      unfold updM
      rw [if_neg e]
      exact allN_gt l d ms i k (by omega)
def okO (x : Int) : Prop := x = -1 ∨ 0 ≤ x ∧ x < 6
theorem owner_ok {m : Mo} (h : m.right = true) : okO (ownerM m) := by
  have := (right_cases h).1
  unfold okO ownerM
  split <;> omega
theorem death_ok {m : Mo} (h0 : 0 ≤ m.ph) (d x : Int) : okO (ownerM (deathM m d x)) ↔ okO (ownerM m) := by
  cases hb : deathB m d x
  · rw [deathM_no hb]
  · exact ⟨fun _ => owner_ok (deathB_is.1 hb).1, fun _ => owner_ok (keeps_law h0 hb).1⟩
theorem all_ok (l : Nat → Mo) (h0 : ∀ i, 0 ≤ (l i).ph) (d : Int) (ms : List Int) (k i : Nat) : okO (ownerM (allN l d ms k i)) ↔ okO (ownerM (l i)) := by
  by_cases h : i < k
  · rw [allN_gt l d ms i k h]; exact death_ok (h0 i) _ _
  · rw [allN_le l d ms i k (by omega)]
theorem right_all (l : Nat → Mo) (h0 : ∀ i, 0 ≤ (l i).ph) (d : Int) (ms : List Int) (k : Nat) : rightP (ownersM (allN l d ms k)) ms = rightP (ownersM l) ms := by
  rw [Bool.eq_iff_iff, right_iff, right_iff]
  constructor
  · rintro ⟨h1, h2⟩
    exact ⟨fun i hi => (all_ok l h0 d ms k i).1 (h1 i hi), h2⟩
  · rintro ⟨h1, h2⟩
    exact ⟨fun i hi => (all_ok l h0 d ms k i).2 (h1 i hi), h2⟩
/-- Whom the law asks: nobody, then the takers. -/
def pk (ms : List Int) : Nat → Int
  | 0 => -1
  | j + 1 => ms[j]?.getD 0
def eqM (x y : Mo) : Bool := x.ph == y.ph && x.cur == y.cur && x.nxt == y.nxt && x.gen == y.gen && x.tick == y.tick && x.ver == y.ver
theorem eqM_self (x : Mo) : eqM x x = true := by unfold eqM; simp
theorem eqM_iff {x y : Mo} : eqM x y = true ↔ x = y := by
  constructor
  · intro h
    unfold eqM at h
    simp only [Bool.and_eq_true, beq_iff_eq] at h
    obtain ⟨⟨⟨⟨⟨a, b⟩, c⟩, d⟩, e⟩, f⟩ := h
    cases x; cases y; simp_all
  · rintro rfl; exact eqM_self _
def someP (l : Nat → Mo) (dead : Int) (ms : List Int) (i j : Nat) : Bool :=
  eqM (deathM (l i) dead (pk ms j)) (allN l dead ms 16 i) && (!(pk ms j == -1) || decide (ms.length = 0) || !rightP (ownersM l) ms)
def someN (l : Nat → Mo) (dead : Int) (ms : List Int) (i : Nat) : Nat → Bool
  | 0 => false
  | j + 1 => someN l dead ms i j || someP l dead ms i j
theorem someN_of {l : Nat → Mo} {dead : Int} {ms : List Int} {i j : Nat} (h : someP l dead ms i j = true) : ∀ n, j < n → someN l dead ms i n = true
  | 0, hn => by omega
  | n + 1, hn => by
    unfold someN
    by_cases e : j = n
    · subst e; rw [h]; simp
    · rw [someN_of h n (by omega)]; rfl
/-- THE LAW OF DeathAll, of the buckets that nobody dead had. -/
theorem all_stay (l : Nat → Mo) (dead : Int) (ms : List Int) (i : Nat) (hi : i < 16) (h : (ofM (l i) dead && (l i).right) = false) : allN l dead ms 16 i = l i := by
  rw [allN_gt l dead ms i 16 hi]
  refine deathM_no ?_
  unfold deathB
  cases h1 : (l i).right
  · rfl
  · rw [h1, Bool.and_true] at h
    rw [h]; rfl
/-- .. and of the others. -/
theorem all_law (l : Nat → Mo) (h0 : ∀ i, 0 ≤ (l i).ph) (dead : Int) (ms : List Int) (hB : allB dead ms = true) (i : Nat) (hi : i < 16) (ho : ofM (l i) dead = true) (hr : (l i).right = true) :
    someN l dead ms i (ms.length + 1) = true ∧ ofM (allN l dead ms 16 i) dead = false := by
  unfold allB at hB
  rw [Bool.and_eq_true, Bool.not_eq_true'] at hB
  obtain ⟨hna, hrz⟩ := hB
  have hnd := (any_no ms dead).1 hna
  obtain ⟨-, hms, -⟩ := (right_iff _ _).1 hrz
  have hd : 0 ≤ dead ∧ dead < 6 ∧ (dead = (l i).cur ∨ dead = (l i).nxt) := by unfold ofM at ho; simp at ho; omega
  have hx := allN_gt l dead ms i 16 hi
  obtain ⟨y, hy⟩ : ∃ y, whoP (allN l dead ms i) ms = y := ⟨_, rfl⟩
  rw [hy] at hx
  have hyd : y ≠ dead ∧ -1 ≤ y ∧ y < 6 ∧ someN l dead ms i (ms.length + 1) = true := by
    unfold whoP at hy
    cases hp : pickB (ownersM (allN l dead ms i)) ms
    · rw [hp] at hy
      obtain rfl : -1 = y := by simpa using hy
      refine ⟨by omega, by omega, by omega, someN_of (j := 0) ?_ _ (by omega)⟩
      unfold someP
      rw [hx, show pk ms 0 = -1 from rfl, eqM_self]
      unfold pickB at hp
      rw [right_all l h0] at hp
      cases hq : rightP (ownersM l) ms
      · simp
      · rw [hq] at hp
        have : ms = [] := by cases ms <;> simp at hp ⊢
        subst this; simp
    · rw [hp] at hy
      obtain rfl : pick (ownersM (allN l dead ms i)) ms = y := by simpa using hy
      have hpr : ms.isEmpty = false ∧ rightP (ownersM (allN l dead ms i)) ms = true := by
        unfold pickB at hp
        cases h1 : ms.isEmpty <;> cases h2 : rightP (ownersM (allN l dead ms i)) ms <;> simp [h1, h2] at hp ⊢
      have hlen : 0 < ms.length := by cases ms <;> simp at hpr ⊢
      obtain ⟨-, hm, -⟩ := pick_law _ ms hpr.2 hlen
      have hr6 := hms _ hm
      obtain ⟨j, hj, hje⟩ := List.getElem_of_mem hm
      refine ⟨fun e => hnd (e ▸ hm), by omega, by omega, someN_of (j := j + 1) ?_ _ (by omega)⟩
      unfold someP
      have hpk : pk ms (j + 1) = pick (ownersM (allN l dead ms i)) ms := by show ms[j]?.getD 0 = _; rw [List.getElem?_eq_getElem hj]; exact hje
      rw [hx, hpk, eqM_self, show (pick (ownersM (allN l dead ms i)) ms == -1) = false from by rw [beq_eq_false_iff_ne]; omega]
      rfl
  refine ⟨hyd.2.2.2, ?_⟩
  have hb : deathB (l i) dead y = true := deathB_is.2 ⟨hr, hd, hyd.1, hyd.2.1, hyd.2.2.1⟩
  obtain ⟨-, k1, k2, -⟩ := keeps_law (h0 i) hb
  rw [hx]
  unfold ofM
  rw [show (dead == (deathM (l i) dead y).cur) = false from by rw [beq_eq_false_iff_ne]; exact fun e => k1 e.symm, show (dead == (deathM (l i) dead y).nxt) = false from by rw [beq_eq_false_iff_ne]; exact fun e => k2 e.symm]
  simp
/-- Deaths of all but one, one by one. -/
def runN (l : Nat → Mo) (left : Int) : Nat → Nat → Mo
  | 0 => l
  | j + 1 => if (j : Int) = left then runN l left j else allM (runN l left j) j [left]
theorem runN_ph (l : Nat → Mo) (left : Int) (h : ∀ i, 0 ≤ (l i).ph) : ∀ j i, 0 ≤ (runN l left j i).ph
  | 0, i => h i
  | j + 1, i => by
    unfold runN
    split
    · exact runN_ph l left h j i
    · unfold allM
      split
      · exact allN_ph _ _ _ (runN_ph l left h j) 16 i
      · exact runN_ph l left h j i
theorem run_inv (l : Nat → Mo) (left : Int) (h0 : ∀ i, 0 ≤ (l i).ph) (hl : 0 ≤ left ∧ left < 6) (hr : ∀ i, i < 16 → (l i).right = true ∧ (l i).gen ≤ 1000) : ∀ j, j ≤ 6 → ∀ i, i < 16 →
    (runN l left j i).right = true ∧ (runN l left j i).gen ≤ 1000 + j ∧ (∀ n : Int, 0 ≤ n → n < j → n ≠ left → (runN l left j i).cur ≠ n ∧ (runN l left j i).nxt ≠ n) ∧ ((l i).ph = 0 → runN l left j i = l i) ∧ ((l i).ph ≠ 0 → (runN l left j i).ph ≠ 0)
  | 0, _, i, hi => ⟨(hr i hi).1, by have := (hr i hi).2; show (l i).gen ≤ _; omega, fun n h1 h2 => by omega, fun _ => rfl, fun h => h⟩
  | j + 1, hj, i, hi => by
    have IH := run_inv l left h0 hl hr j (by omega)
    obtain ⟨i1, i2, i3, i4, i5⟩ := IH i hi
    by_cases e : (j : Int) = left
    · have hs : runN l left (j + 1) = runN l left j := by rw [runN, if_pos e]
      rw [hs]
      exact ⟨i1, by omega, fun n h1 h2 h3 => i3 n h1 (by omega) h3, i4, i5⟩
    have hph := runN_ph l left h0 j
    have hs : runN l left (j + 1) = allN (runN l left j) j [left] 16 := by
      rw [runN, if_neg e]
      unfold allM
      rw [if_pos]
      unfold allB
      rw [show rightP (fun _ => 0) [left] = true from (right_iff _ _).2 ⟨fun _ _ => .inr (by omega), fun m hm => by simp at hm; omega, by simp⟩]
      simp [e]
    have hx : runN l left (j + 1) i = deathM (runN l left j i) j left := by
      rw [hs, allN_gt _ _ _ i 16 hi]
      have hrp : rightP (ownersM (allN (runN l left j) j [left] i)) [left] = true := by
        rw [right_all _ hph]
        exact (right_iff _ _).2 ⟨fun a ha => owner_ok (IH a ha).1, fun m hm => by simp at hm; omega, by simp⟩
      obtain ⟨k1, k2, -⟩ := pick_law _ [left] hrp (by simp)
      have : whoP (allN (runN l left j) j [left] i) [left] = left := by
        unfold whoP
        rw [k1, if_pos rfl]
        simpa using k2
      rw [this]
    have hp0 := hph i
    rw [hx]
    clear hx hs hph IH
    generalize runN l left j i = m at *
    have hc := right_cases i1
    cases hb : deathB m j left
    · rw [deathM_no hb]
      refine ⟨i1, by omega, fun n h1 h2 h3 => ?_, i4, i5⟩
      by_cases hn : n < j
      · exact i3 n h1 hn h3
      · obtain rfl : n = j := by omega
        have hno : ¬ (j = m.cur ∨ j = m.nxt) := fun hh => by
          have : deathB m j left = true := deathB_is.2 ⟨i1, ⟨by omega, by omega, hh⟩, fun e2 => e e2.symm, by omega, by omega⟩
          rw [this] at hb; cases hb
        exact ⟨fun e2 => hno (.inl e2.symm), fun e2 => hno (.inr e2.symm)⟩
    · obtain ⟨q1, q2, q3, q4, q5, q6⟩ := keeps_law hp0 hb
      obtain ⟨-, ⟨-, -, hof⟩, -, -, -⟩ := deathB_is.1 hb
      have hne : (l i).ph ≠ 0 := fun h => by
        have hml := i4 h
        subst hml
        omega
      have hph' := i5 hne
      rcases death_is hp0 hb with ⟨e1, g1, g2⟩ | ⟨x, e1, g1, g2, g3, g4, g5, g6⟩ | ⟨e1, g1, g2, g3, g4, g5, g6⟩
      · exfalso; omega
      · refine ⟨q1, by rw [e1]; dsimp only; omega, fun n h1 h2 h3 => ?_, fun h => absurd h hne, fun _ => by rw [e1]; dsimp only; omega⟩
        by_cases hn : n < j
        · have := i3 n h1 hn h3
          rw [e1]
          dsimp only
          refine ⟨by omega, ?_⟩
          by_cases ha : m.ph = 1 ∨ m.ph = 6
          · have := g5 ha; omega
          · have := g6 ha; split at this <;> omega
        · obtain rfl : n = j := by omega
          exact ⟨q2, q3⟩
      · refine ⟨q1, by rw [e1]; dsimp only; omega, fun n h1 h2 h3 => ?_, fun h => absurd h hne, fun _ => by rw [e1]; dsimp only; omega⟩
        by_cases hn : n < j
        · have := i3 n h1 hn h3
          rw [e1]
          dsimp only
          omega
        · obtain rfl : n = j := by omega
          exact ⟨q2, q3⟩
/-- THE LAW OF DeathOwners. -/
theorem owners_law (l : Nat → Mo) (left : Int) (h0 : ∀ i, 0 ≤ (l i).ph) (hl : 0 ≤ left ∧ left < 6) (hr : ∀ i, i < 16 → (l i).right = true ∧ (l i).gen ≤ 1000) (i : Nat) (hi : i < 16) :
    ownersM (runN l left 6) i = left ∨ ownersM l i = -1 ∧ ownersM (runN l left 6) i = -1 := by
  obtain ⟨i1, i2, i3, i4, i5⟩ := run_inv l left h0 hl hr 6 (by omega) i hi
  have hc := right_cases i1
  have hc0 := right_cases (hr i hi).1
  unfold ownersM ownerM
  by_cases hz : (l i).ph = 0
  · right
    rw [i4 hz]
    omega
  · left
    have := i5 hz
    have h3 : ∀ n : Int, 0 ≤ n → n < 6 → n ≠ left → (runN l left 6 i).cur ≠ n ∧ (runN l left 6 i).nxt ≠ n := i3
    generalize runN l left 6 i = m at *
    split
    · by_cases e : m.cur = left
      · exact e
      · exact absurd rfl (h3 m.cur (by omega) (by omega) e).1
    · by_cases e : m.nxt = left
      · exact e
      · exact absurd rfl (h3 m.nxt (by omega) (by omega) e).2

end Go.Proofs.Ytlacidecomflkaa
