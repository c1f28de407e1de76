/- What holds behind a death, in plain Lean. -/
import Derived.Test.YtlacidecomflkaaD11
set_option linter.unusedSimpArgs false
set_option linter.unusedVariables false
namespace Go.Proofs.Ytlacidecomflkaa
open Go.RowKit

theorem right_cases {m : Mo} (h : m.right = true) : (m.ph = 0 ∧ m.cur = -1 ∧ m.nxt = -1 ∨ m.ph = 1 ∧ 0 ≤ m.cur ∧ m.cur ≤ 5 ∧ m.nxt = -1 ∨ m.ph = 6 ∧ m.cur = -1 ∧ 0 ≤ m.nxt ∧ m.nxt ≤ 5 ∨
      (m.ph ≠ 0 ∧ m.ph ≠ 1 ∧ m.ph ≠ 6 ∧ m.ph < 7) ∧ 0 ≤ m.cur ∧ m.cur ≤ 5 ∧ 0 ≤ m.nxt ∧ m.nxt ≤ 5 ∧ m.cur ≠ m.nxt) ∧
    0 ≤ m.gen ∧ m.gen ≤ 2147483647 ∧ (1 ≤ m.gen ∨ m.ph = 0) ∧ 0 ≤ m.tick ∧ m.tick ≤ 1099511627776 ∧ 0 ≤ m.ver ∧ m.ver ≤ 1099511627776 := by
  unfold Mo.right whoM genB tickB at h
  simp only [Bool.and_eq_true, decide_eq_true_eq, Bool.or_eq_true, beq_iff_eq] at h
  obtain ⟨⟨⟨⟨h7, hw⟩, hg⟩, ht⟩, hv⟩ := h
  refine ⟨?_, by omega, by omega, by omega, by omega, by omega, by omega, by omega⟩
  split at hw
  · simp at hw; omega
  · split at hw
    · simp [nodeB] at hw; omega
    · split at hw
      · simp [nodeB] at hw; omega
      · simp [nodeB, bne] at hw; omega
theorem right_of {m : Mo} (h : (m.ph = 0 ∧ m.cur = -1 ∧ m.nxt = -1 ∨ m.ph = 1 ∧ 0 ≤ m.cur ∧ m.cur ≤ 5 ∧ m.nxt = -1 ∨ m.ph = 6 ∧ m.cur = -1 ∧ 0 ≤ m.nxt ∧ m.nxt ≤ 5 ∨
      (m.ph ≠ 0 ∧ m.ph ≠ 1 ∧ m.ph ≠ 6 ∧ m.ph < 7) ∧ 0 ≤ m.cur ∧ m.cur ≤ 5 ∧ 0 ≤ m.nxt ∧ m.nxt ≤ 5 ∧ m.cur ≠ m.nxt) ∧
    0 ≤ m.gen ∧ m.gen ≤ 2147483647 ∧ (1 ≤ m.gen ∨ m.ph = 0) ∧ 0 ≤ m.tick ∧ m.tick ≤ 1099511627776 ∧ 0 ≤ m.ver ∧ m.ver ≤ 1099511627776) : m.right = true := by
  unfold Mo.right whoM genB tickB
  simp only [Bool.and_eq_true, decide_eq_true_eq, Bool.or_eq_true, beq_iff_eq]
  obtain ⟨hc, h1, h2, h3, h4, h5, h6, h7⟩ := h
  refine ⟨⟨⟨⟨by omega, ?_⟩, ⟨h1, h2⟩, h3⟩, h4, h5⟩, h6, h7⟩
  rcases hc with ⟨e, a⟩ | ⟨e, a⟩ | ⟨e, a⟩ | ⟨e, a⟩
  · rw [if_pos e]; simp; omega
  · rw [if_neg (by omega), if_pos e]; simp [nodeB]; omega
  · rw [if_neg (by omega), if_neg (by omega), if_pos e]; simp [nodeB]; omega
  · rw [if_neg (by omega), if_neg (by omega), if_neg (by omega)]; simp [nodeB, bne]; omega
/-- The three things that may become of a move. -/
theorem settles_is {m : Mo} (h : m.right = true) (x : Int) :
    settlesM m x = freeM m ∧ (¬ (0 ≤ x ∧ x ≤ 5) ∨ 2147483645 < m.gen) ∨ settlesM m x = ⟨6, -1, x, m.gen + 1, m.tick, m.ver⟩ ∧ 0 ≤ x ∧ x ≤ 5 ∧ m.gen ≤ 2147483645 := by
  unfold settlesM settleM
  cases hn : nodeB x
  · rw [h, if_pos (by rfl)]
    refine .inl ⟨by unfold doneM; exact if_neg (show ¬ (_ : Int) = 0 by first | exact (show ¬ (2 : Int) = 0 by decide) | exact (show ¬ (150 : Int) = 0 by decide)), .inl fun hx => ?_⟩
    unfold nodeB at hn
    simp at hn; omega
  · rw [h, if_neg (by decide)]
    have hx : 0 ≤ x ∧ x ≤ 5 := by unfold nodeB at hn; simp at hn; omega
    by_cases hg : 2147483645 < m.gen
    · rw [if_pos hg]
      exact .inl ⟨by unfold doneM; exact if_neg (show ¬ (_ : Int) = 0 by first | exact (show ¬ (2 : Int) = 0 by decide) | exact (show ¬ (150 : Int) = 0 by decide)), .inr hg⟩
    · rw [if_neg hg]
      exact .inr ⟨by unfold doneM; rw [if_pos rfl], hx.1, hx.2, by omega⟩
theorem again_is {m : Mo} (h : m.right = true) (h2 : 2 ≤ m.ph) (h5 : m.ph ≤ 5) (x : Int) (hx : 0 ≤ x ∧ x ≤ 5) (hc : x ≠ m.cur) :
    doneM m (againM m x) = freeM m ∧ 2147483645 < m.gen ∨ doneM m (againM m x) = ⟨2, m.cur, x, m.gen + 1, m.tick, m.ver⟩ ∧ m.gen ≤ 2147483645 := by
  have hn : nodeB x = true := by unfold nodeB; simp; omega
  have hq : (m.cur == x) = false := by rw [beq_eq_false_iff_ne]; exact fun e => hc e.symm
  unfold againM
  rw [h, hn, hq, if_neg (by decide), if_neg (by omega)]
  by_cases hg : 2147483645 < m.gen
  · rw [if_pos hg]
    exact .inl ⟨by unfold doneM; exact if_neg (show ¬ (_ : Int) = 0 by first | exact (show ¬ (2 : Int) = 0 by decide) | exact (show ¬ (150 : Int) = 0 by decide)), hg⟩
  · rw [if_neg hg]
    exact .inr ⟨by unfold doneM; rw [if_pos rfl], by omega⟩
theorem deathB_is {m : Mo} {dead pick : Int} : deathB m dead pick = true ↔ m.right = true ∧ (0 ≤ dead ∧ dead < 6 ∧ (dead = m.cur ∨ dead = m.nxt)) ∧ pick ≠ dead ∧ -1 ≤ pick ∧ pick < 6 := by
  unfold deathB ofM
  simp [and_assoc]
/-- What a death makes of a move, at a glance: who is there behind it, by which way. -/
theorem death_is {m : Mo} {dead pick : Int} (h0 : 0 ≤ m.ph) (h : deathB m dead pick = true) :
    (deathM m dead pick = freeM m ∧ (m.ph = 1 ∨ m.ph = 6 ∨ 2147483645 < m.gen) ∧ (m.ph = 1 ∨ m.ph = 6 → pick = -1 ∨ 2147483645 < m.gen)) ∨
    (∃ x, deathM m dead pick = ⟨6, -1, x, m.gen + 1, m.tick, m.ver⟩ ∧ m.gen ≤ 2147483645 ∧ 0 ≤ x ∧ x ≤ 5 ∧ x ≠ dead ∧ (m.ph = 1 ∨ m.ph = 6 → x = pick) ∧ (¬ (m.ph = 1 ∨ m.ph = 6) → x = if m.cur = dead then m.nxt else m.cur)) ∨
    (deathM m dead pick = ⟨2, m.cur, pick, m.gen + 1, m.tick, m.ver⟩ ∧ m.gen ≤ 2147483645 ∧ 0 ≤ pick ∧ pick ≤ 5 ∧ pick ≠ m.cur ∧ m.cur ≠ dead ∧ ¬ (m.ph = 1 ∨ m.ph = 6)) := by
  obtain ⟨hr, ⟨d0, d6, hof⟩, hp, p0, p6⟩ := deathB_is.1 h
  obtain ⟨hc, hg⟩ := right_cases hr
  unfold deathM
  rw [if_pos h]
  unfold wayM
  by_cases ha : m.ph = 1 ∨ m.ph = 6
  · rw [if_pos ha]
    rcases settles_is hr pick with ⟨e, hn⟩ | ⟨e, h1, h2, h3⟩
    · exact .inl ⟨e, by omega, fun _ => by omega⟩
    · exact .inr (.inl ⟨pick, e, h3, h1, h2, hp, fun _ => rfl, fun x => absurd ha x⟩)
  · rw [if_neg ha]
    have h4 : (2 ≤ m.ph ∧ m.ph ≤ 5 ∨ m.ph < 0) ∧ 0 ≤ m.cur ∧ m.cur ≤ 5 ∧ 0 ≤ m.nxt ∧ m.nxt ≤ 5 ∧ m.cur ≠ m.nxt := by omega
    unfold twoM
    by_cases hd : m.cur = dead
    · rw [if_pos (by simp [hd])]
      rcases settles_is hr m.nxt with ⟨e, hn⟩ | ⟨e, h1, h2, h3⟩
      · exact .inl ⟨e, by omega, fun x => absurd x ha⟩
      · exact .inr (.inl ⟨m.nxt, e, h3, h1, h2, by omega, fun x => absurd x ha, fun _ => by rw [if_pos hd]⟩)
    · rw [if_neg (by simp [hd])]
      by_cases hk : pick = -1 ∨ pick = m.cur
      · rw [if_pos hk]
        rcases settles_is hr m.cur with ⟨e, hn⟩ | ⟨e, h1, h2, h3⟩
        · exact .inl ⟨e, by omega, fun x => absurd x ha⟩
        · exact .inr (.inl ⟨m.cur, e, h3, h1, h2, hd, fun x => absurd x ha, fun _ => by rw [if_neg hd]⟩)
      · rw [if_neg hk]
        by_cases hn : m.ph < 0
        · omega
        rcases again_is hr (by omega) (by omega) pick (by omega) (by omega) with ⟨e, hn⟩ | ⟨e, h3⟩
        · exact .inl ⟨e, by omega, fun x => absurd x ha⟩
        · exact .inr (.inr ⟨e, h3, by omega, by omega, by omega, hd, ha⟩)
theorem free_right {m : Mo} (h : m.right = true) : (freeM m).right = true := right_of (by
  have := (right_cases h).2
  unfold freeM
  dsimp only
  omega)
/-- THE LAW OF DeathKeeps. -/
theorem keeps_law {m : Mo} {dead pick : Int} (h0 : 0 ≤ m.ph) (h : deathB m dead pick = true) :
    (deathM m dead pick).right = true ∧ (deathM m dead pick).cur ≠ dead ∧ (deathM m dead pick).nxt ≠ dead ∧ (deathM m dead pick).tick = m.tick ∧
    ((deathM m dead pick).ph = 0 → (m.ph = 1 ∨ m.ph = 6 ∨ 2147483628 < m.gen) ∧ (deathM m dead pick).gen = m.gen) ∧
    ((deathM m dead pick).ph ≠ 0 → m.gen < (deathM m dead pick).gen ∧ ((if m.cur = dead then m.nxt else m.cur) = -1 ∨ (deathM m dead pick).cur = (if m.cur = dead then m.nxt else m.cur) ∨ (deathM m dead pick).nxt = (if m.cur = dead then m.nxt else m.cur))) := by
  obtain ⟨hr, ⟨d0, d6, hof⟩, hp, p0, p6⟩ := deathB_is.1 h
  have hcs := right_cases hr
  rcases death_is h0 h with ⟨e, h1, h2⟩ | ⟨x, e, h1, h2, h3, h4, h5, h6⟩ | ⟨e, h1, h2, h3, h4, h5, h6⟩
  · rw [e]
    refine ⟨free_right hr, ?_, ?_, rfl, fun _ => ⟨by omega, rfl⟩, fun hh => absurd rfl hh⟩ <;> (unfold freeM; dsimp only; omega)
  · rw [e]
    refine ⟨right_of (by dsimp only; omega), by dsimp only; omega, by dsimp only; omega, rfl, fun hh => by dsimp only at hh; omega, fun _ => ⟨by dsimp only; omega, ?_⟩⟩
    dsimp only
    by_cases ha : m.ph = 1 ∨ m.ph = 6
    · left; split <;> omega
    · rw [h6 ha]; exact .inr (.inr rfl)
  · rw [e]
    refine ⟨right_of (by dsimp only; omega), by dsimp only; omega, by dsimp only; omega, rfl, fun hh => by dsimp only at hh; omega, fun _ => ⟨by dsimp only; omega, ?_⟩⟩
    dsimp only
    rw [if_neg h5]
    exact .inr (.inl rfl)

end Go.Proofs.Ytlacidecomflkaa
