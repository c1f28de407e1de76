/- Plans to add in plain Lean: how many shifts, and which. -/
import Derived.Test.YtlacidecomflkaaPL
set_option linter.unusedSimpArgs false
set_option linter.unusedVariables false
namespace Go.Proofs.Ytlacidecomflkaa

theorem loadN_congr (o p : Nat → Int) (x : Int) (n : Nat) (h : ∀ i, i < n → o i = p i) : loadN o x n = loadN p x n := by
  induction n with
  | zero => rfl
  | succ n ih => unfold loadN; rw [ih (fun i hi => h i (by omega)), h n (by omega)]
theorem load_congr (o p : Nat → Int) (x : Int) (h : ∀ i, i < 16 → o i = p i) : load o x = load p x := loadN_congr o p x 16 h
theorem loadN_upd (o : Nat → Int) (k : Nat) (v x : Int) (n : Nat) : loadN (upd o k v) x n = loadN o x n + (if k < n then (if v = x then 1 else 0) - (if o k = x then 1 else 0) else 0) := by
  induction n with
  | zero => simp [loadN]
  | succ n ih =>
    unfold loadN
    rw [ih]
    by_cases h : n = k
    · subst h
      have h1 : upd o n v n = v := by simp [upd]
      rw [h1, if_neg (Nat.lt_irrefl n), if_pos (Nat.lt_succ_self n)]
      omega
    · have h1 : upd o k v n = o n := by unfold upd; rw [if_neg h]
      rw [h1]
      by_cases hk : k < n
      · rw [if_pos hk, if_pos (show k < n + 1 by omega)]; omega
      · rw [if_neg hk, if_neg (show ¬ k < n + 1 by omega)]; omega
theorem lastN_some (o : Nat → Int) (x : Int) (n : Nat) (h : 0 < loadN o x n) : 0 ≤ lastN o x n ∧ o (lastN o x n).toNat = x := by
  induction n with
  | zero => simp [loadN] at h
  | succ n ih =>
    unfold lastN
    by_cases hx : o n = x
    · rw [if_pos hx]; exact ⟨by omega, by simpa using hx⟩
    · rw [if_neg hx]
      unfold loadN at h
      rw [if_neg hx] at h
      exact ih (by omega)
theorem firstM_mem (bt : Int → Int → Bool) (ms : List Int) (h : 0 < ms.length) : firstM bt ms ∈ ms := by
  have hb : ∀ (l : List Int) (b : Int), best bt b l = b ∨ best bt b l ∈ l := by
    intro l
    induction l with
    | nil => exact fun b => .inl rfl
    | cons m r ih =>
      intro b
      unfold best
      rcases ih (if bt m b then m else b) with h | h
      · rw [h]; split
        · exact .inr (by simp)
        · exact .inl rfl
      · exact .inr (by simp [h])
  unfold firstM
  cases ms with
  | nil => simp at h
  | cons m r => rcases hb r m with e | e <;> simp [e]
/-- One shift more: the bucket is the most loaded one's; the one has one more. -/
theorem add_one (o : Nat → Int) (ms : List Int) (who : Int) (hw : who ∉ ms) (h : moreB o ms who = true) :
    0 ≤ (addS o ms who).b ∧ (addS o ms who).b < 16 ∧ o (addS o ms who).b.toNat = most o ms ∧ most o ms ∈ ms ∧ apply1 o (addS o ms who) = upd o (addS o ms who).b.toNat who ∧
      load (apply1 o (addS o ms who)) who = load o who + 1 := by
  unfold moreB at h
  simp only [Bool.and_eq_true, decide_eq_true_eq, Bool.not_eq_true'] at h
  have hp : 0 < ms.length := by cases ms <;> simp at h ⊢
  have hm : most o ms ∈ ms := firstM_mem _ _ hp
  have hl : 0 < loadN o (most o ms) 16 := by have := (load_bd o who).1; have := h.2; unfold load at *; omega
  obtain ⟨h0, h1⟩ := lastN_some o (most o ms) 16 hl
  have h16 := (lastN_bd o (most o ms) 16).2
  have hne : most o ms ≠ who := fun e => hw (e ▸ hm)
  have ha : apply1 o (addS o ms who) = upd o (addS o ms who).b.toNat who := by unfold apply1; rw [if_pos ⟨h0, h16⟩]; rfl
  refine ⟨h0, h16, h1, hm, ha, ?_⟩
  rw [ha]
  show loadN _ _ 16 = loadN _ _ 16 + 1
  rw [loadN_upd, if_pos (by show (lastN o (most o ms) 16).toNat < 16; omega), if_pos rfl, if_neg (by show ¬ o (lastN o (most o ms) 16).toNat = who; rw [h1]; exact hne)]
  omega
theorem addO_load (o : Nat → Int) (ms : List Int) (who : Int) (hw : who ∉ ms) (i : Nat) (h : ∀ j, j < i → moreB (addO o ms who j) ms who = true) : load (addO o ms who i) who = load o who + i := by
  induction i with
  | zero => simp [addO]
  | succ i ih =>
    have hi := h i (by omega)
    rw [addO, if_pos hi, (add_one _ ms who hw hi).2.2.2.2.2, ih (fun j hj => h j (by omega))]
    omega
/-- The owners behind the first shift are where the rest begins. -/
theorem addO_shift (o : Nat → Int) (ms : List Int) (who : Int) (h : moreB o ms who = true) (i : Nat) : addO (apply1 o (addS o ms who)) ms who i = addO o ms who (i + 1) := by
  induction i with
  | zero => simp [addO, h]
  | succ i ih => rw [addO, ih]; rw [addO.eq_2 o ms who (i + 1)]
theorem addL_get (ms : List Int) (who : Int) : ∀ (n : Nat) (o : Nat → Int) (i : Nat), i < (addL ms who n o).length →
    moreB (addO o ms who i) ms who = true ∧ (addL ms who n o)[i]? = some (addS (addO o ms who i) ms who)
  | 0, _, _, h => by simp [addL] at h
  | n + 1, o, i, h => by
    unfold addL at h ⊢
    by_cases hm : moreB o ms who = true
    · rw [if_pos hm] at h ⊢
      cases i with
      | zero => exact ⟨hm, rfl⟩
      | succ i =>
        have := addL_get ms who n (apply1 o (addS o ms who)) i (by simpa using h)
        rw [addO_shift o ms who hm] at this
        simpa using this
    · rw [if_neg hm] at h; simp at h
theorem addL_end (ms : List Int) (who : Int) : ∀ (n : Nat) (o : Nat → Int), (addL ms who n o).length < n → moreB (addO o ms who (addL ms who n o).length) ms who = false
  | 0, _, h => by simp at h
  | n + 1, o, h => by
    unfold addL at h ⊢
    by_cases hm : moreB o ms who = true
    · rw [if_pos hm] at h ⊢
      have := addL_end ms who n (apply1 o (addS o ms who)) (by simpa using h)
      rw [addO_shift o ms who hm] at this
      simpa using this
    · rw [if_neg hm]; simpa [addO] using hm
/-- A plan to add. -/
def addP (o : Nat → Int) (ms : List Int) (who : Int) : List Sh := addL ms who 17 o
theorem addP_len (o : Nat → Int) (ms : List Int) (who : Int) (hw : who ∉ ms) : (addP o ms who).length ≤ 16 := by
  have h := addO_load o ms who hw (addP o ms who).length (fun j hj => (addL_get ms who 17 o j hj).1)
  have h1 := load_bd (addO o ms who (addP o ms who).length) who
  have h2 := load_bd o who
  omega
theorem addP_end (o : Nat → Int) (ms : List Int) (who : Int) (hw : who ∉ ms) : moreB (addO o ms who (addP o ms who).length) ms who = false :=
  addL_end ms who 17 o (by have := addP_len o ms who hw; unfold addP at this; omega)
theorem addP_get (o : Nat → Int) (ms : List Int) (who : Int) (i : Nat) (h : i < (addP o ms who).length) :
    moreB (addO o ms who i) ms who = true ∧ (addP o ms who)[i]? = some (addS (addO o ms who i) ms who) := addL_get ms who 17 o i h

end Go.Proofs.Ytlacidecomflkaa
