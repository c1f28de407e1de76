/- The laws of plans to add and of loads, in plain Lean. -/
import Derived.Test.YtlacidecomflkaaPL4
set_option linter.unusedSimpArgs false
set_option linter.unusedVariables false
namespace Go.Proofs.Ytlacidecomflkaa
open Go.RowKit

theorem sum_one (y : Int) : ∀ l : List Int, l.Pairwise (· < ·) → y ∈ l → (l.map fun x => if y = x then (1 : Int) else 0).sum = 1
  | [], _, h => by simp at h
  | m :: r, hp, h => by
    obtain ⟨p1, p2⟩ := List.pairwise_cons.1 hp
    rw [List.map_cons, List.sum_cons]
    by_cases e : y = m
    · rw [if_pos e]
      have hz : ∀ l : List Int, (∀ x ∈ l, m < x) → (l.map fun x => if y = x then (1 : Int) else 0).sum = 0 := by
        intro l
        induction l with
        | nil => intro _; rfl
        | cons a t ih =>
          intro h
          have := h a (by simp)
          rw [List.map_cons, List.sum_cons, if_neg (by omega), ih (fun x hx => h x (by simp [hx]))]
          rfl
      rw [hz r p1]; rfl
    · rw [if_neg e]
      rcases List.mem_cons.1 h with h | h
      · exact absurd h e
      · rw [sum_one y r p2 h]; rfl
theorem sum_add (f g : Int → Int) : ∀ l : List Int, (l.map fun x => f x + g x).sum = (l.map f).sum + (l.map g).sum
  | [] => rfl
  | m :: r => by
    rw [List.map_cons, List.sum_cons, List.map_cons, List.sum_cons, List.map_cons, List.sum_cons, sum_add f g r]; omega
theorem sum_zero : ∀ l : List Int, (l.map fun _ => (0 : Int)).sum = 0
  | [] => rfl
  | m :: r => by rw [List.map_cons, List.sum_cons, sum_zero r]; rfl
theorem sum_loads (o : Nat → Int) (l : List Int) (hl : l.Pairwise (· < ·)) : ∀ n : Nat, (∀ i, i < n → o i ∈ l) → (l.map fun x => loadN o x n).sum = n
  | 0, _ => sum_zero l
  | n + 1, h => by
    have ih := sum_loads o l hl n (fun i hi => h i (by omega))
    show (l.map fun x => loadN o x n + (if o n = x then (1 : Int) else 0)).sum = _
    rw [sum_add (fun x => loadN o x n) (fun x => if o n = x then (1 : Int) else 0), ih, sum_one (o n) l hl (h n (by omega))]
    omega
theorem sum_ge (f : Int → Int) (q : Int) : ∀ l : List Int, (∀ a ∈ l, q ≤ f a) → q * l.length ≤ (l.map f).sum
  | [], _ => by simp
  | m :: r, h => by
    have ih := sum_ge f q r (fun a ha => h a (by simp [ha]))
    have := h m (by simp)
    rw [List.map_cons, List.sum_cons, List.length_cons, Int.natCast_succ, Int.mul_add]
    omega
theorem sum_le (f : Int → Int) (q : Int) : ∀ l : List Int, (∀ a ∈ l, f a ≤ q) → (l.map f).sum ≤ q * l.length
  | [], _ => by simp
  | m :: r, h => by
    have ih := sum_le f q r (fun a ha => h a (by simp [ha]))
    have := h m (by simp)
    rw [List.map_cons, List.sum_cons, List.length_cons, Int.natCast_succ, Int.mul_add]
    omega
theorem sum_lt (f : Int → Int) (q : Int) (w : Int) : ∀ l : List Int, (∀ a ∈ l, f a ≤ q) → w ∈ l → f w < q → (l.map f).sum + 1 ≤ q * l.length
  | [], _, h, _ => by simp at h
  | m :: r, h, hw, hq => by
    have hm := h m (by simp)
    rw [List.map_cons, List.sum_cons, List.length_cons, Int.natCast_succ, Int.mul_add]
    rcases List.mem_cons.1 hw with rfl | hw
    · have := sum_le f q r (fun a ha => h a (by simp [ha])); omega
    · have := sum_lt f q w r (fun a ha => h a (by simp [ha])) hw hq; omega
/-- Members below n, the one too. -/
def withN (ms : List Int) (who : Int) : Nat → List Int
  | 0 => []
  | n + 1 => withN ms who n ++ if ((n : Int) == who) || ms.any ((n : Int) == ·) then [(n : Int)] else []
theorem withN_mem (ms : List Int) (who x : Int) : ∀ n : Nat, x ∈ withN ms who n ↔ (0 ≤ x ∧ x < n) ∧ (x = who ∨ x ∈ ms)
  | 0 => by simp [withN]; omega
  | n + 1 => by
    have ih := withN_mem ms who x n
    have hn : (((n : Int) == who) || ms.any ((n : Int) == ·)) = true ↔ ((n : Int) = who ∨ (n : Int) ∈ ms) := by rw [Bool.or_eq_true, beq_iff_eq, any_iff]
    unfold withN
    rw [List.mem_append, ih]
    split
    · rename_i h
      have h := hn.1 h
      rw [List.mem_singleton]
      constructor
      · rintro (⟨h1, h2⟩ | rfl)
        · exact ⟨by omega, h2⟩
        · exact ⟨by omega, h⟩
      · rintro ⟨h1, h2⟩
        by_cases e : x = n
        · exact .inr e
        · exact .inl ⟨by omega, h2⟩
    · rename_i h
      constructor
      · rintro (⟨h1, h2⟩ | h1)
        · exact ⟨by omega, h2⟩
        · simp at h1
      · rintro ⟨h1, h2⟩
        by_cases e : x = n
        · subst e; exact absurd (hn.2 h2) h
        · exact .inl ⟨by omega, h2⟩
theorem withN_sorted (ms : List Int) (who : Int) : ∀ n : Nat, (withN ms who n).Pairwise (· < ·)
  | 0 => .nil
  | n + 1 => by
    unfold withN
    rw [List.pairwise_append]
    refine ⟨withN_sorted ms who n, by split <;> simp, fun a ha b hb => ?_⟩
    have h1 := ((withN_mem ms who a n).1 ha).1
    split at hb
    · rw [List.mem_singleton] at hb; omega
    · simp at hb
theorem withN_len (ms : List Int) (who : Int) : ∀ n : Nat, (withN ms who n).length ≤ n
  | 0 => Nat.le_refl _
  | n + 1 => by
    have := withN_len ms who n
    unfold withN
    rw [List.length_append]
    split <;> simp <;> omega
theorem apply_addL (ms : List Int) (who : Int) : ∀ (n : Nat) (o : Nat → Int), apply o (addL ms who n o) = addO o ms who (addL ms who n o).length
  | 0, o => rfl
  | n + 1, o => by
    unfold addL
    by_cases h : moreB o ms who = true
    · rw [if_pos h, List.length_cons, apply, apply_addL ms who n, addO_shift o ms who h]
    · rw [if_neg h]; rfl
theorem shifts_addL (ms : List Int) (who : Int) (hw : who ∉ ms) : ∀ (n : Nat) (o : Nat → Int) (sb : Nat → Bool), (∀ j, j < 16 → o j ∈ ms → sb j = true) → shiftsP (addL ms who n o) sb [who] = true
  | 0, _, _, _ => rfl
  | n + 1, o, sb, hs => by
    unfold addL
    by_cases h : moreB o ms who = true
    · rw [if_pos h]
      obtain ⟨h0, h1, h2, h3, h4, _⟩ := add_one o ms who hw h
      unfold shiftsP
      rw [decide_eq_true h0, decide_eq_true h1, hs _ (by omega) (by rw [h2]; exact h3), show [who].any ((addS o ms who).t == ·) = true from (any_iff _ _).2 (by simp [addS])]
      simp only [Bool.and_self, Bool.true_and]
      refine shifts_addL ms who hw n _ _ fun j hj hm => ?_
      rw [h4] at hm
      unfold upd at hm
      by_cases e : j = (addS o ms who).b.toNat
      · rw [if_pos e] at hm; exact absurd hm hw
      · rw [if_neg e] at hm ⊢; exact hs j hj hm
    · rw [if_neg h]; rfl
theorem addO_inv (o : Nat → Int) (ms : List Int) (who : Int) (hw : who ∉ ms) (hp : 0 < ms.length) (h1 : Ev o ms) (h2 : ∀ a ∈ ms, load o who ≤ load o a) (h3 : ∀ j, j < 16 → o j ∈ ms ∨ o j = who) :
    ∀ i, (∀ j, j < i → moreB (addO o ms who j) ms who = true) → Ev (addO o ms who i) ms ∧ (∀ a ∈ ms, load (addO o ms who i) who ≤ load (addO o ms who i) a) ∧ (∀ j, j < 16 → addO o ms who i j ∈ ms ∨ addO o ms who i j = who)
  | 0, _ => ⟨h1, h2, h3⟩
  | i + 1, h => by
    obtain ⟨e1, e2, e3⟩ := addO_inv o ms who hw hp h1 h2 h3 i (fun j hj => h j (by omega))
    have hm := h i (by omega)
    rw [addO, if_pos hm]
    generalize addO o ms who i = O at *
    obtain ⟨b0, b1, b2, b3, b4, _⟩ := add_one O ms who hw hm
    have hms := most_spec O ms hp
    have hb16 : (addS O ms who).b.toNat < 16 := by omega
    have hgap : load O who + 2 ≤ load O (most O ms) := by
      unfold moreB at hm
      simp only [Bool.and_eq_true, decide_eq_true_eq] at hm
      omega
    rw [b4]
    have hl : ∀ a ∈ ms, load (upd O (addS O ms who).b.toNat who) a = load O a - (if most O ms = a then 1 else 0) := fun a ha => by
      rw [load_upd _ _ _ _ hb16, if_neg (show ¬ who = a from fun e => hw (e ▸ ha)), b2]; omega
    have hlw : load (upd O (addS O ms who).b.toNat who) who = load O who + 1 := by
      rw [load_upd _ _ _ _ hb16, if_pos rfl, b2, if_neg (show ¬ most O ms = who from fun e => hw (e ▸ b3))]; omega
    refine ⟨fun a ha b hb => ?_, fun a ha => ?_, fun j hj => ?_⟩
    · rw [hl a ha, hl b hb]
      have g1 := e1 a ha b hb
      have g2 := e1 _ hms.1 b hb
      have g3 := hms.2 a ha
      have g4 := e1 _ hms.1 a ha
      have g5 := hms.2 b hb
      by_cases ea : most O ms = a
      · rw [if_pos ea]; subst ea; split <;> omega
      · rw [if_neg ea]
        by_cases eb : most O ms = b
        · rw [if_pos eb]; subst eb
          have := g4
          omega
        · rw [if_neg eb]; omega
    · rw [hlw, hl a ha]
      have g4 := e1 _ hms.1 a ha
      split
      · rename_i e; subst e; omega
      · omega
    · unfold upd
      split
      · exact .inr rfl
      · exact e3 j hj

end Go.Proofs.Ytlacidecomflkaa
