/- The laws of plans in plain Lean: spreads that stay, shifts, loads. -/
import Derived.Test.YtlacidecomflkaaP19
set_option linter.unusedSimpArgs false
set_option linter.unusedVariables false
namespace Go.Proofs.Ytlacidecomflkaa
open Go.RowKit

theorem rises_spec : ∀ (a : Int) (ms : List Int), risesB a ms = true → (∀ m ∈ ms, a < m ∧ 0 ≤ m ∧ m < 6) ∧ ms.Pairwise (· < ·)
  | _, [], _ => ⟨fun m h => by simp at h, .nil⟩
  | a, m :: r, h => by
    unfold risesB backB at h
    simp only [Bool.and_eq_true, decide_eq_true_eq] at h
    obtain ⟨⟨h1, h2, h3⟩, h4⟩ := h
    obtain ⟨h5, h6⟩ := rises_spec m r h4
    refine ⟨fun x hx => ?_, List.pairwise_cons.2 ⟨fun x hx => (h5 x hx).1, h6⟩⟩
    rcases List.mem_cons.1 hx with rfl | hx
    · exact ⟨h1, h2, h3⟩
    · have := h5 x hx; omega
theorem rises_of : ∀ (a : Int) (ms : List Int), (∀ m ∈ ms, a < m ∧ 0 ≤ m ∧ m < 6) → ms.Pairwise (· < ·) → risesB a ms = true
  | _, [], _, _ => rfl
  | a, m :: r, h1, h2 => by
    obtain ⟨h3, h4⟩ := List.pairwise_cons.1 h2
    have hm := h1 m (by simp)
    unfold risesB backB
    simp only [Bool.and_eq_true, decide_eq_true_eq]
    exact ⟨⟨hm.1, hm.2⟩, rises_of m r (fun x hx => ⟨h3 x hx, (h1 x (by simp [hx])).2⟩) h4⟩
theorem ownB_iff (o : Nat → Int) : ∀ n, ownB o n = true ↔ ∀ i, i < n → o i = -1 ∨ 0 ≤ o i ∧ o i < 6
  | 0 => by simp [ownB]
  | n + 1 => by
    unfold ownB backB
    simp only [Bool.and_eq_true, Bool.or_eq_true, beq_iff_eq, decide_eq_true_eq, ownB_iff o n]
    constructor
    · rintro ⟨h1, h2⟩ i hi
      rcases Nat.lt_or_ge i n with h | h
      · exact h1 i h
      · obtain rfl : i = n := by omega
        exact h2
    · exact fun h => ⟨fun i hi => h i (by omega), h n (by omega)⟩
theorem right_iff (o : Nat → Int) (ms : List Int) : rightP o ms = true ↔ (∀ i, i < 16 → o i = -1 ∨ 0 ≤ o i ∧ o i < 6) ∧ (∀ m ∈ ms, 0 ≤ m ∧ m < 6) ∧ ms.Pairwise (· < ·) := by
  unfold rightP
  rw [Bool.and_eq_true, ownB_iff]
  constructor
  · rintro ⟨h1, h2⟩
    have := rises_spec _ _ h2
    exact ⟨h1, fun m hm => (this.1 m hm).2, this.2⟩
  · rintro ⟨h1, h2, h3⟩
    exact ⟨h1, rises_of _ _ (fun m hm => ⟨by have := h2 m hm; omega, h2 m hm⟩) h3⟩
theorem any_iff (ms : List Int) (x : Int) : ms.any (x == ·) = true ↔ x ∈ ms := by
  rw [List.any_eq_true]
  exact ⟨fun ⟨y, hy, e⟩ => by rw [beq_iff_eq] at e; rw [e]; exact hy, fun h => ⟨x, h, by simp⟩⟩
theorem any_no (ms : List Int) (x : Int) : ms.any (x == ·) = false ↔ x ∉ ms := by
  rw [← any_iff]; cases ms.any (x == ·) <;> simp
theorem inN_iff (o : Nat → Int) (ms : List Int) : ∀ n, inN o ms n = true ↔ ∀ i, i < n → o i ∈ ms
  | 0 => by simp [inN]
  | n + 1 => by
    unfold inN
    rw [Bool.and_eq_true, inN_iff o ms n, any_iff]
    constructor
    · rintro ⟨h1, h2⟩ i hi
      rcases Nat.lt_or_ge i n with h | h
      · exact h1 i h
      · obtain rfl : i = n := by omega
        exact h2
    · exact fun h => ⟨fun i hi => h i (by omega), h n (by omega)⟩
theorem best_spec (f : Int → Int) : ∀ (l : List Int) (b : Int), (best (fun x y => decide (f x < f y)) b l ∈ b :: l) ∧ (∀ m ∈ b :: l, f (best (fun x y => decide (f x < f y)) b l) ≤ f m) ∧
    ((b :: l).Pairwise (· < ·) → ∀ m ∈ b :: l, f m = f (best (fun x y => decide (f x < f y)) b l) → best (fun x y => decide (f x < f y)) b l ≤ m)
  | [], b => ⟨by simp [best], by simp [best], fun _ m hm _ => by simp [best] at hm ⊢; omega⟩
  | m :: r, b => by
    unfold best
    by_cases h : f m < f b
    · rw [if_pos (decide_eq_true h)]
      obtain ⟨h1, h2, h3⟩ := best_spec f r m
      have h2m := h2 m (by simp)
      refine ⟨List.mem_cons_of_mem _ h1, fun x hx => ?_, fun hp x hx e => ?_⟩
      · rcases List.mem_cons.1 hx with rfl | hx
        · omega
        · exact h2 x hx
      · rcases List.mem_cons.1 hx with rfl | hx
        · omega
        · exact h3 (List.pairwise_cons.1 hp).2 x hx e
    · rw [if_neg (by simpa using h)]
      obtain ⟨h1, h2, h3⟩ := best_spec f r b
      have h2b := h2 b (by simp)
      refine ⟨?_, fun x hx => ?_, fun hp x hx e => ?_⟩
      · rcases List.mem_cons.1 h1 with e | e
        · rw [e]; simp
        · simp [e]
      · rcases List.mem_cons.1 hx with rfl | hx
        · exact h2b
        · rcases List.mem_cons.1 hx with rfl | hx
          · omega
          · exact h2 x (by simp [hx])
      · obtain ⟨p1, p2⟩ := List.pairwise_cons.1 hp
        have hp' : (b :: r).Pairwise (· < ·) := List.pairwise_cons.2 ⟨fun y hy => p1 y (by simp [hy]), (List.pairwise_cons.1 p2).2⟩
        rcases List.mem_cons.1 hx with rfl | hx
        · exact h3 hp' x (by simp) e
        · rcases List.mem_cons.1 hx with rfl | hx
          · have hbx := p1 x (by simp)
            have : f b = f (best (fun x y => decide (f x < f y)) b r) := by omega
            have := h3 hp' b (by simp) this
            omega
          · exact h3 hp' x (by simp [hx]) e
theorem firstM_spec (f : Int → Int) (ms : List Int) (hp : 0 < ms.length) : (firstM (fun x y => decide (f x < f y)) ms ∈ ms) ∧ (∀ m ∈ ms, f (firstM (fun x y => decide (f x < f y)) ms) ≤ f m) ∧
    (ms.Pairwise (· < ·) → ∀ m ∈ ms, f m = f (firstM (fun x y => decide (f x < f y)) ms) → firstM (fun x y => decide (f x < f y)) ms ≤ m) := by
  cases ms with
  | nil => simp at hp
  | cons m r => exact best_spec f r m
theorem least_spec (o : Nat → Int) (ms : List Int) (hp : 0 < ms.length) : least o ms ∈ ms ∧ (∀ m ∈ ms, load o (least o ms) ≤ load o m) ∧ (ms.Pairwise (· < ·) → ∀ m ∈ ms, load o m = load o (least o ms) → least o ms ≤ m) :=
  firstM_spec (load o) ms hp
theorem moreP_eq (o : Nat → Int) : moreP o = fun x y => decide ((fun z => - load o z) x < (fun z => - load o z) y) := by
  funext a b
  unfold moreP
  exact decide_eq_decide.2 (by show load o b < load o a ↔ - load o a < - load o b; omega)
theorem most_spec (o : Nat → Int) (ms : List Int) (hp : 0 < ms.length) : most o ms ∈ ms ∧ ∀ m ∈ ms, load o m ≤ load o (most o ms) := by
  unfold most
  rw [moreP_eq]
  obtain ⟨h1, h2, _⟩ := firstM_spec (fun z => - load o z) ms hp
  exact ⟨h1, fun m hm => by
    have h := h2 m hm
    generalize firstM (fun x y => decide ((fun z => -load o z) x < (fun z => -load o z) y)) ms = q at h ⊢
    have h : - load o q ≤ - load o m := h
    omega⟩
/-- Of all members' loads none is two more than another. -/
def Ev (o : Nat → Int) (ms : List Int) : Prop := ∀ a ∈ ms, ∀ b ∈ ms, load o a ≤ load o b + 1
theorem spread_ev (o : Nat → Int) (ms : List Int) (hr : rightP o ms = true) (hp : 0 < ms.length) : spread o ms ≤ 1 ↔ Ev o ms := by
  have he : ms.isEmpty = false := by cases ms <;> simp at hp ⊢
  unfold spread
  rw [hr, he]
  simp only [Bool.not_true, Bool.or_self, Bool.false_eq_true, if_false]
  have hl := least_spec o ms hp
  have hm := most_spec o ms hp
  constructor
  · intro h a ha b hb
    have := hl.2.1 b hb
    have := hm.2 a ha
    omega
  · intro h
    have := h _ hm.1 _ hl.1
    omega
theorem even_iff (o : Nat → Int) (ms : List Int) : evenP o ms = true ↔ rightP o ms = true ∧ 0 < ms.length ∧ (∀ i, i < 16 → o i ∈ ms) ∧ Ev o ms := by
  unfold evenP
  rw [Bool.and_eq_true, Bool.and_eq_true, Bool.and_eq_true, inN_iff, decide_eq_true_eq]
  constructor
  · rintro ⟨⟨⟨h1, h2⟩, h3⟩, h4⟩
    have hp : 0 < ms.length := by cases ms <;> simp at h2 ⊢
    exact ⟨h1, hp, h3, (spread_ev o ms h1 hp).1 h4⟩
  · rintro ⟨h1, hp, h3, h4⟩
    refine ⟨⟨⟨h1, ?_⟩, h3⟩, (spread_ev o ms h1 hp).2 h4⟩
    cases ms <;> simp at hp ⊢
theorem load_upd (o : Nat → Int) (k : Nat) (v x : Int) (hk : k < 16) : load (upd o k v) x = load o x + (if v = x then 1 else 0) - (if o k = x then 1 else 0) := by
  unfold load; rw [loadN_upd, if_pos hk]; omega
theorem ev_give (o : Nat → Int) (ms : List Int) (i : Nat) (h : Ev o ms) (hi : i < 16) (ho : o i ∉ ms) (hp : 0 < ms.length) : Ev (upd o i (least o ms)) ms := by
  intro a ha b hb
  have hl := least_spec o ms hp
  have h1 := h a ha b hb
  have hla := h a ha _ hl.1
  have h2 := hl.2.1 b hb
  have h3 := hl.2.1 a ha
  rw [load_upd _ _ _ _ hi, load_upd _ _ _ _ hi, if_neg (show ¬ o i = a from fun e => ho (e ▸ ha)), if_neg (show ¬ o i = b from fun e => ho (e ▸ hb))]
  by_cases ea : least o ms = a
  · rw [if_pos ea]; subst ea; split <;> omega
  · rw [if_neg ea]; split <;> omega
theorem moveO_at (so : Nat → Bool) (ms : List Int) (o : Nat → Int) (j : Nat) : ∀ k, (k ≤ j ∨ so j = false) → moveO so ms o k j = o j
  | 0, _ => rfl
  | k + 1, h => by
    have ih := moveO_at so ms o j k (h.imp (by omega) id)
    rw [moveO]
    split
    · rename_i hk
      unfold upd
      rw [if_neg ?_]
      · exact ih
      · rintro rfl
        rcases h with h | h
        · omega
        · rw [hk] at h; cases h
    · exact ih
theorem moveO_mem (so : Nat → Bool) (ms : List Int) (o : Nat → Int) (hp : 0 < ms.length) (j : Nat) (hj : so j = true) : ∀ k, j < k → moveO so ms o k j ∈ ms
  | 0, h => by omega
  | k + 1, h => by
    rw [moveO]
    by_cases e : j = k
    · subst e
      rw [if_pos hj]
      unfold upd
      rw [if_pos rfl]
      exact (least_spec _ ms hp).1
    · have ih := moveO_mem so ms o hp j hj k (by omega)
      split
      · unfold upd; rw [if_neg e]; exact ih
      · exact ih
theorem moveO_ev (so : Nat → Bool) (ms : List Int) (o : Nat → Int) (hp : 0 < ms.length) (h : Ev o ms) (hso : ∀ i, i < 16 → so i = true → o i ∉ ms) : ∀ k, k ≤ 16 → Ev (moveO so ms o k) ms
  | 0, _ => h
  | k + 1, hk => by
    have ih := moveO_ev so ms o hp h hso k (by omega)
    rw [moveO]
    split
    · rename_i hs
      refine ev_give _ ms k ih (by omega) ?_ hp
      rw [moveO_at so ms o k k (.inl (Nat.le_refl _))]
      exact hso k (by omega) hs
    · exact ih
theorem apply_moveL (so : Nat → Bool) (ms : List Int) (o : Nat → Int) : ∀ n i, i + n ≤ 16 → apply (moveO so ms o i) (moveL so ms n i (moveO so ms o i)) = moveO so ms o (i + n)
  | 0, i, _ => rfl
  | n + 1, i, h => by
    have ih := apply_moveL so ms o n (i + 1) (by omega)
    rw [show i + (n + 1) = i + 1 + n by omega, ← ih]
    conv => lhs; rw [moveL]
    by_cases hs : so i = true
    · have e1 : apply1 (moveO so ms o i) ⟨i, least (moveO so ms o i) ms⟩ = moveO so ms o (i + 1) := by
        rw [moveO_yes so ms o i hs]
        unfold apply1
        rw [if_pos (by constructor <;> (dsimp only; omega))]
        rfl
      rw [if_pos hs, apply, e1, ← moveO_yes so ms o i hs]
    · have hs' : so i = false := by cases h : so i <;> simp_all
      rw [if_neg hs, moveO_no so ms o i hs']
theorem apply_moveP (so : Nat → Bool) (ms : List Int) (o : Nat → Int) : apply o (moveP so ms o) = moveO so ms o 16 := apply_moveL so ms o 16 0 (by omega)
theorem shifts_moveL (so : Nat → Bool) (ms : List Int) (hp : 0 < ms.length) : ∀ n i (o : Nat → Int) (sb : Nat → Bool), i + n ≤ 16 → (∀ j, i ≤ j → so j = true → sb j = true) → shiftsP (moveL so ms n i o) sb ms = true
  | 0, i, o, sb, _, _ => rfl
  | n + 1, i, o, sb, h, hs => by
    unfold moveL
    by_cases h1 : so i = true
    · rw [if_pos h1]
      unfold shiftsP
      dsimp only
      rw [decide_eq_true (show (0 : Int) ≤ (i : Int) by omega), decide_eq_true (show (i : Int) < 16 by omega), show ((i : Int)).toNat = i from by omega, hs i (Nat.le_refl _) h1, (any_iff ms _).2 (least_spec o ms hp).1]
      simp only [Bool.and_self, Bool.true_and]
      exact shifts_moveL so ms hp n (i + 1) _ _ (by omega) (fun j hj h2 => by rw [if_neg (by omega)]; exact hs j (by omega) h2)
    · rw [if_neg h1]
      exact shifts_moveL so ms hp n (i + 1) o sb (by omega) (fun j hj h2 => hs j (by omega) h2)
theorem moveN_load (o : Nat → Int) (who : Int) : ∀ n, (moveN (fun i => o i == who) n : Int) = loadN o who n
  | 0 => rfl
  | n + 1 => by
    rw [moveN, loadN]
    have := moveN_load o who n
    by_cases h : o n = who
    · rw [if_pos h, if_pos (beq_iff_eq.2 h)]; omega
    · rw [if_neg h, if_neg (by rw [beq_iff_eq]; exact h)]; omega
theorem mem_without (ms : List Int) (who x : Int) : x ∈ without ms who ↔ x ∈ ms ∧ x ≠ who := by
  unfold without
  rw [List.mem_filter]
  simp
/-- What a plan to remove leads to. -/
theorem removes_law (o : Nat → Int) (ms : List Int) (who : Int) (he : evenP o ms = true) (hw : who ∈ ms) (hn : 0 < (without ms who).length) :
    remE o ms who = 0 ∧ ((remX o ms who).length : Int) = load o who ∧ shiftsP (remX o ms who) (fun i => o i == who) (without ms who) = true ∧ evenP (apply o (remX o ms who)) (without ms who) = true := by
  obtain ⟨hr, hp, hin, hev⟩ := (even_iff o ms).1 he
  obtain ⟨r1, r2, r3⟩ := (right_iff o ms).1 hr
  have hb : backB who = true := by unfold backB; have := r2 who hw; simp; omega
  have hlt : (without ms who).length ≠ ms.length := by
    intro e
    unfold without at e
    rw [List.length_filter_eq_length_iff] at e
    have := e who hw
    simp at this
  have hE : remE o ms who = 0 := by unfold remE; rw [hb, hr, if_pos (by rfl), if_neg hlt, if_neg (by omega)]
  have hX : remX o ms who = moveP (fun i => o i == who) (without ms who) o := by unfold remX; rw [hE]; rfl
  have hso : ∀ i, i < 16 → (o i == who) = true → o i ∉ without ms who := fun i hi h hm => by
    rw [beq_iff_eq] at h
    exact ((mem_without ms who _).1 hm).2 h
  refine ⟨hE, ?_, ?_, ?_⟩
  · rw [hX, moveP_len, moveN_load]; rfl
  · rw [hX]; exact shifts_moveL _ _ hn 16 0 o _ (by omega) (fun j _ h => h)
  · rw [hX, apply_moveP]
    have hmem : ∀ i, i < 16 → moveO (fun i => o i == who) (without ms who) o 16 i ∈ without ms who := fun i hi => by
      by_cases h : (o i == who) = true
      · exact moveO_mem _ _ o hn i h 16 hi
      · have h' : (o i == who) = false := by simpa using h
        rw [moveO_at _ _ o i 16 (.inr h'), mem_without]
        exact ⟨hin i hi, by simpa using h⟩
    have hsub : ∀ m ∈ without ms who, 0 ≤ m ∧ m < 6 := fun m hm => r2 m (without_mem hm)
    refine (even_iff _ _).2 ⟨(right_iff _ _).2 ⟨fun i hi => .inr (hsub _ (hmem i hi)), hsub, ?_⟩, hn, hmem, ?_⟩
    · exact List.Pairwise.filter _ r3
    · exact moveO_ev _ _ o hn (fun a ha b hb => hev a (without_mem ha) b (without_mem hb)) hso 16 (by omega)
theorem removes_last (o : Nat → Int) (ms : List Int) (who : Int) (he : evenP o ms = true) (hw : who ∈ ms) (hn : (without ms who).length = 0) : remE o ms who = 200 ∧ remX o ms who = [] := by
  obtain ⟨hr, hp, hin, hev⟩ := (even_iff o ms).1 he
  obtain ⟨r1, r2, r3⟩ := (right_iff o ms).1 hr
  have hb : backB who = true := by unfold backB; have := r2 who hw; simp; omega
  have hE : remE o ms who = 200 := by unfold remE; rw [hb, hr, if_pos (by rfl), if_neg (by omega), if_pos hn]
  exact ⟨hE, by unfold remX; rw [hE]; rfl⟩
/-- How many of the first n are members'. -/
def wasN (o : Nat → Int) (ms : List Int) : Nat → Nat
  | 0 => 0
  | n + 1 => wasN o ms n + if ms.any (o n == ·) then 1 else 0
theorem wasN_le (o : Nat → Int) (ms : List Int) : ∀ n, wasN o ms n ≤ n
  | 0 => Nat.le_refl _
  | n + 1 => by have := wasN_le o ms n; unfold wasN; split <;> omega
theorem moveN_was (o : Nat → Int) (ms : List Int) : ∀ n, moveN (fun i => !ms.any (o i == ·)) n + wasN o ms n = n
  | 0 => rfl
  | n + 1 => by
    have := moveN_was o ms n
    unfold moveN wasN
    cases ms.any (o n == ·) <;> simp <;> omega
theorem wasN_none (o : Nat → Int) (ms : List Int) : ∀ n, wasN o ms n = 0 → ∀ i, i < n → o i ∉ ms
  | 0, _, i, hi => by omega
  | n + 1, h, i, hi => by
    unfold wasN at h
    rcases Nat.lt_or_ge i n with h1 | h1
    · exact wasN_none o ms n (by omega) i h1
    · obtain rfl : i = n := by omega
      rw [← any_no]
      cases hh : ms.any (o i == ·)
      · rfl
      · rw [hh] at h; simp at h
theorem fills_law (o : Nat → Int) (ms : List Int) (hr : rightP o ms = true) (hp : 0 < ms.length) :
    fillE o ms = 0 ∧ (∀ i, i < 16 → apply o (fillX o ms) i ∈ ms) ∧ (∀ i, i < 16 → o i ∈ ms → apply o (fillX o ms) i = o i) ∧ (fillX o ms).length + wasN o ms 16 = 16 ∧
      (wasN o ms 16 = 0 → evenP (apply o (fillX o ms)) ms = true) := by
  obtain ⟨r1, r2, r3⟩ := (right_iff o ms).1 hr
  have hE : fillE o ms = 0 := by unfold fillE; rw [if_pos hr, if_neg (by omega)]
  have hX : fillX o ms = moveP (fun i => !ms.any (o i == ·)) ms o := by unfold fillX; rw [hE]; rfl
  have hmem : ∀ i, i < 16 → apply o (fillX o ms) i ∈ ms := fun i hi => by
    rw [hX, apply_moveP]
    cases h : ms.any (o i == ·)
    · exact moveO_mem _ _ o hp i (by simp only [h]; rfl) 16 hi
    · rw [moveO_at _ _ o i 16 (.inr (by simp only [h]; rfl))]
      exact (any_iff ms _).1 h
  refine ⟨hE, hmem, fun i hi h => ?_, ?_, fun h0 => ?_⟩
  · rw [hX, apply_moveP]
    exact moveO_at _ _ o i 16 (.inr (by simp only [(any_iff ms _).2 h]; rfl))
  · rw [hX, moveP_len]; exact moveN_was o ms 16
  · have hno := wasN_none o ms 16 h0
    refine (even_iff _ _).2 ⟨(right_iff _ _).2 ⟨fun i hi => .inr (r2 _ (hmem i hi)), r2, r3⟩, hp, hmem, ?_⟩
    rw [hX, apply_moveP]
    have hz : ∀ m ∈ ms, ∀ n, n ≤ 16 → loadN o m n = 0 := fun m hm n => by
      induction n with
      | zero => intro _; rfl
      | succ n ih =>
        intro hn
        unfold loadN
        rw [ih (by omega), if_neg (show ¬ o n = m from fun e => hno n (by omega) (e ▸ hm))]
        rfl
    exact moveO_ev _ _ o hp (fun a ha b hb => by unfold load; rw [hz a ha 16 (by omega), hz b hb 16 (by omega)]; omega) (fun i hi _ => hno i hi) 16 (by omega)

end Go.Proofs.Ytlacidecomflkaa
