/- The laws of PlanAdds and PlanLoads, in plain Lean. -/
import Derived.Test.YtlacidecomflkaaPL5
import Derived.Test.YtlacidecomflkaaP20
set_option linter.unusedSimpArgs false
set_option linter.unusedVariables false
namespace Go.Proofs.Ytlacidecomflkaa
open Go.RowKit

theorem loadN_none (o : Nat → Int) (x : Int) : ∀ n, (∀ i, i < n → o i ≠ x) → loadN o x n = 0
  | 0, _ => rfl
  | n + 1, h => by unfold loadN; rw [loadN_none o x n (fun i hi => h i (by omega)), if_neg (h n (by omega))]; rfl
theorem adds_law (o : Nat → Int) (ms : List Int) (who : Int) (he : evenP o ms = true) (h0 : 0 ≤ who) (h6 : who < 6) (hw : who ∉ ms) :
    addE o ms who = 0 ∧ shiftsP (addX o ms who) (fun _ => true) [who] = true ∧ evenP (apply o (addX o ms who)) (withN ms who 6) = true ∧
      load (apply o (addX o ms who)) who = (addX o ms who).length ∧ 0 < (withN ms who 6).length ∧ ((addX o ms who).length : Int) * (withN ms who 6).length ≤ 16 ∧ 16 < (((addX o ms who).length : Int) + 1) * (withN ms who 6).length := by
  obtain ⟨hr, hp, hin, hev⟩ := (even_iff o ms).1 he
  obtain ⟨r1, r2, r3⟩ := (right_iff o ms).1 hr
  have hb : backB who = true := by unfold backB; simp; omega
  have hE : addE o ms who = 0 := by unfold addE; rw [hb, hr, (any_no ms who).2 hw]; rfl
  have hX : addX o ms who = addP o ms who := by unfold addX; rw [hE]; rfl
  have hlo : load o who = 0 := loadN_none o who 16 fun i hi e => hw (e ▸ hin i hi)
  have hmore : ∀ j, j < (addP o ms who).length → moreB (addO o ms who j) ms who = true := fun j hj => (addP_get o ms who j hj).1
  obtain ⟨e1, e2, e3⟩ := addO_inv o ms who hw hp hev (fun a ha => by rw [hlo]; exact (load_bd o a).1) (fun j hj => .inl (hin j hj)) _ hmore
  have hend := addP_end o ms who hw
  have hload := addO_load o ms who hw _ hmore
  have hap : apply o (addX o ms who) = addO o ms who (addP o ms who).length := by rw [hX]; exact apply_addL ms who 17 o
  rw [hlo] at hload
  have hmem : ∀ x, x ∈ withN ms who 6 ↔ x = who ∨ x ∈ ms := fun x => by
    rw [withN_mem]
    constructor
    · exact fun h => h.2
    · intro h
      refine ⟨?_, h⟩
      rcases h with rfl | h
      · exact ⟨h0, h6⟩
      · exact r2 x h
  have hsub : ∀ m ∈ withN ms who 6, 0 ≤ m ∧ m < 6 := fun m hm => ((withN_mem ms who m 6).1 hm).1
  have hpos : 0 < (withN ms who 6).length := List.length_pos_of_mem ((hmem who).2 (.inl rfl))
  rw [hap, hX]
  generalize addO o ms who (addP o ms who).length = O at *
  generalize (addP o ms who).length = L at *
  have hms := most_spec O ms hp
  have hcl : load O (most O ms) ≤ load O who + 1 := by
    unfold moreB at hend
    have hne : ms.isEmpty = false := by cases ms <;> simp at hp ⊢
    rw [hne] at hend
    simp at hend
    omega
  have hup : ∀ a ∈ withN ms who 6, (L : Int) ≤ load O a ∧ load O a ≤ L + 1 := fun a ha => by
    rcases (hmem a).1 ha with rfl | h
    · omega
    · have := e2 a h; have := hms.2 a h; omega
  have hown : ∀ i, i < 16 → O i ∈ withN ms who 6 := fun i hi => (hmem _).2 ((e3 i hi).symm)
  have hsum := sum_loads O (withN ms who 6) (withN_sorted ms who 6) 16 hown
  refine ⟨hE, shifts_addL ms who hw 17 o _ (fun _ _ _ => rfl), (even_iff _ _).2 ⟨(right_iff _ _).2 ⟨fun i hi => .inr (hsub _ (hown i hi)), hsub, withN_sorted ms who 6⟩, hpos, hown, fun a ha b hb => ?_⟩, by omega, hpos, ?_, ?_⟩
  · have := hup a ha; have := hup b hb; omega
  · have := sum_ge (fun x => loadN O x 16) L _ (fun a ha => (hup a ha).1)
    rw [hsum] at this
    exact this
  · have := sum_lt (fun x => loadN O x 16) (L + 1) who _ (fun a ha => (hup a ha).2) ((hmem who).2 (.inl rfl)) (by show load O who < L + 1; omega)
    rw [hsum] at this
    omega
/-- Nobody's load and the first k backends'. -/
def sumN (o : Nat → Int) : Nat → Int
  | 0 => load o (-1)
  | k + 1 => sumN o k + load o k
theorem sumN_bd (o : Nat → Int) : ∀ k, 0 ≤ sumN o k ∧ sumN o k ≤ 16 * (k + 1)
  | 0 => by have := load_bd o (-1); unfold sumN; omega
  | k + 1 => by have := load_bd o k; have := sumN_bd o k; unfold sumN; omega
theorem sumN_all (o : Nat → Int) (h : ∀ i, i < 16 → o i = -1 ∨ 0 ≤ o i ∧ o i < 6) : sumN o 6 = 16 := by
  have hs := sum_loads o [-1, 0, 1, 2, 3, 4, 5] (by decide) 16 fun i hi => by
    rcases h i hi with e | ⟨e1, e2⟩
    · rw [e]; simp
    · have : o i = 0 ∨ o i = 1 ∨ o i = 2 ∨ o i = 3 ∨ o i = 4 ∨ o i = 5 := by omega
      simp; omega
  simp only [List.map_cons, List.map_nil, List.sum_cons, List.sum_nil] at hs
  simp only [sumN, load]
  have c0 : ((0 : Nat) : Int) = 0 := rfl
  have c1 : ((1 : Nat) : Int) = 1 := rfl
  have c2 : ((2 : Nat) : Int) = 2 := rfl
  have c3 : ((3 : Nat) : Int) = 3 := rfl
  have c4 : ((4 : Nat) : Int) = 4 := rfl
  have c5 : ((5 : Nat) : Int) = 5 := rfl
  rw [c0, c1, c2, c3, c4, c5]
  omega
/-- The least loaded one, and the rest. -/
theorem pick_law (o : Nat → Int) (ms : List Int) (hr : rightP o ms = true) (hp : 0 < ms.length) :
    pickB o ms = true ∧ pick o ms ∈ ms ∧ ∀ m ∈ ms, load o (pick o ms) ≤ load o m ∧ (load o m = load o (pick o ms) → pick o ms ≤ m) ∧ load o m - load o (pick o ms) ≤ spread o ms := by
  have hne : ms.isEmpty = false := by cases ms <;> simp at hp ⊢
  have hB : pickB o ms = true := by unfold pickB; rw [hne, hr]; rfl
  have hP : pick o ms = least o ms := by unfold pick; rw [if_pos hB]
  obtain ⟨h1, h2, h3⟩ := least_spec o ms hp
  have hm := most_spec o ms hp
  have hS : spread o ms = load o (most o ms) - load o (least o ms) := by unfold spread; rw [hne, hr]; rfl
  rw [hP, hS]
  refine ⟨hB, h1, fun m hmm => ⟨h2 m hmm, h3 ((right_iff o ms).1 hr).2.2 m hmm, ?_⟩⟩
  have := hm.2 m hmm
  omega
theorem pick_none (o : Nat → Int) (ms : List Int) (hp : ms.length = 0) : pickB o ms = false := by
  unfold pickB
  cases ms
  · rfl
  · simp at hp
theorem apply_none (o : Nat → Int) (s : Sh) (h : s.b < 0 ∨ 16 ≤ s.b) : apply o [s] = o := by
  show apply1 o s = o
  unfold apply1
  rw [if_neg (by omega)]
theorem apply_some (o : Nat → Int) (b : Nat) (t : Int) (h : b < 16) : apply o [⟨b, t⟩] = upd o b t := by
  show apply1 o _ = _
  unfold apply1
  rw [if_pos (by constructor <;> (dsimp only; omega))]
  rfl
theorem apply_same (o : Nat → Int) (b : Nat) (t : Int) (h : b < 16) (e : o b = t) : eqO (apply o [⟨b, t⟩]) o = true := by
  rw [apply_some o b t h, eqO_iff]
  intro i _
  unfold upd
  split
  · rename_i e2; rw [e2, e]
  · rfl
theorem apply_loads (o : Nat → Int) (b : Nat) (t : Int) (h : b < 16) (e : o b ≠ t) : load (apply o [⟨b, t⟩]) t = load o t + 1 ∧ load (apply o [⟨b, t⟩]) (o b) = load o (o b) - 1 := by
  rw [apply_some o b t h, load_upd _ _ _ _ h, load_upd _ _ _ _ h, if_pos rfl, if_neg e, if_neg (show ¬ t = o b from fun x => e x.symm), if_pos rfl]
  omega

end Go.Proofs.Ytlacidecomflkaa
