/- Plans to move in plain Lean: which shifts, when. -/
import Derived.Test.YtlacidecomflkaaPL2
set_option linter.unusedSimpArgs false
set_option linter.unusedVariables false
namespace Go.Proofs.Ytlacidecomflkaa

/-- How many of the first i buckets are moved. -/
def moveN (so : Nat → Bool) : Nat → Nat
  | 0 => 0
  | i + 1 => moveN so i + if so i then 1 else 0
theorem moveN_mono (so : Nat → Bool) (i n : Nat) : moveN so i ≤ moveN so (i + n) := by
  induction n with
  | zero => exact Nat.le_refl _
  | succ n ih => rw [show i + (n + 1) = (i + n) + 1 by omega, moveN]; omega
theorem moveN_le (so : Nat → Bool) (i : Nat) : moveN so i ≤ i := by
  induction i with
  | zero => exact Nat.le_refl _
  | succ i ih => rw [moveN]; split <;> omega
theorem moveL_len (so : Nat → Bool) (ms : List Int) : ∀ (n i : Nat) (o : Nat → Int), moveN so i + (moveL so ms n i o).length = moveN so (i + n)
  | 0, i, o => by simp [moveL]
  | n + 1, i, o => by
    unfold moveL
    have e : i + (n + 1) = i + 1 + n := by omega
    by_cases h : so i = true
    · have := moveL_len so ms n (i + 1) (upd o i (least o ms))
      rw [if_pos h, List.length_cons, e, ← this, moveN, if_pos h]; omega
    · have := moveL_len so ms n (i + 1) o
      rw [if_neg h, e, ← this, moveN, if_neg h]; omega
theorem moveL_get (so : Nat → Bool) (ms : List Int) (o0 : Nat → Int) : ∀ (n i j : Nat), i ≤ j → j < i + n → so j = true →
    (moveL so ms n i (moveO so ms o0 i))[moveN so j - moveN so i]? = some ⟨j, least (moveO so ms o0 j) ms⟩
  | 0, i, j, h1, h2, _ => by omega
  | n + 1, i, j, h1, h2, h => by
    unfold moveL
    by_cases hi : so i = true
    · rw [if_pos hi]
      by_cases hj : j = i
      · subst hj; simp
      · have h3 := moveL_get so ms o0 n (i + 1) j (by omega) (by omega) h
        rw [moveO, if_pos hi, moveN, if_pos hi] at h3
        have h4 := moveN_mono so (i + 1) (j - (i + 1))
        rw [show i + 1 + (j - (i + 1)) = j by omega, moveN, if_pos hi] at h4
        rw [show moveN so j - moveN so i = (moveN so j - (moveN so i + 1)) + 1 by omega, List.getElem?_cons_succ]
        exact h3
    · rw [if_neg hi]
      have hj : j ≠ i := fun e => hi (e ▸ h)
      have h3 := moveL_get so ms o0 n (i + 1) j (by omega) (by omega) h
      rw [moveO, if_neg hi, moveN, if_neg hi] at h3
      exact h3
/-- The shifts of all buckets that are so. -/
def moveP (so : Nat → Bool) (ms : List Int) (o : Nat → Int) : List Sh := moveL so ms 16 0 o
theorem moveP_len (so : Nat → Bool) (ms : List Int) (o : Nat → Int) : (moveP so ms o).length = moveN so 16 := by
  have := moveL_len so ms 16 0 o
  rw [show moveN so 0 = 0 from rfl, Nat.zero_add, Nat.zero_add] at this
  exact this
theorem moveP_get (so : Nat → Bool) (ms : List Int) (o : Nat → Int) (j : Nat) (hj : j < 16) (h : so j = true) : (moveP so ms o)[moveN so j]? = some ⟨j, least (moveO so ms o j) ms⟩ := by
  have := moveL_get so ms o 16 0 j (by omega) (by omega) h
  rw [show moveN so 0 = 0 from rfl, Nat.sub_zero] at this
  exact this
theorem moveO_yes (so : Nat → Bool) (ms : List Int) (o : Nat → Int) (i : Nat) (h : so i = true) : moveO so ms o (i + 1) = upd (moveO so ms o i) i (least (moveO so ms o i) ms) := by rw [moveO, if_pos h]
theorem moveO_no (so : Nat → Bool) (ms : List Int) (o : Nat → Int) (i : Nat) (h : so i = false) : moveO so ms o (i + 1) = moveO so ms o i := by rw [moveO, if_neg (by rw [h]; simp)]
theorem moveN_yes (so : Nat → Bool) (i : Nat) (h : so i = true) : moveN so (i + 1) = moveN so i + 1 := by rw [moveN, if_pos h]
theorem moveN_no (so : Nat → Bool) (i : Nat) (h : so i = false) : moveN so (i + 1) = moveN so i := by rw [moveN, if_neg (by rw [h]; simp)]; omega

end Go.Proofs.Ytlacidecomflkaa
