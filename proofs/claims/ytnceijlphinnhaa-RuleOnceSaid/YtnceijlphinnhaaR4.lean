/- What 'rules' returns: a map that has just its twelve entries. -/
import Derived.Test.YtnceijlphinnhaaR3
namespace Go.Proofs.Ytnceijlphinnhaa
open Go.RowKit

theorem inj_nat {α : Type} {g : α → Nat} {l : List α} (h : (l.map g).Nodup) {x y : α} (hx : x ∈ l) (hy : y ∈ l) (e : g x = g y) : x = y := by
  induction l with
  | nil => cases hx
  | cons a l ih =>
    simp only [List.map_cons, List.nodup_cons, List.mem_map, not_exists, not_and] at h
    rcases List.mem_cons.1 hx with rfl | hx' <;> rcases List.mem_cons.1 hy with rfl | hy'
    · rfl
    · exact absurd e.symm (h.1 y hy')
    · exact absurd e (h.1 x hx')
    · exact ih h.2 hx' hy'

theorem inj_int {α : Type} {g : α → Int} {l : List α} (h : (l.map g).Nodup) {x y : α} (hx : x ∈ l) (hy : y ∈ l) (e : g x = g y) : x = y := by
  induction l with
  | nil => cases hx
  | cons a l ih =>
    simp only [List.map_cons, List.nodup_cons, List.mem_map, not_exists, not_and] at h
    rcases List.mem_cons.1 hx with rfl | hx' <;> rcases List.mem_cons.1 hy with rfl | hy'
    · rfl
    · exact absurd e.symm (h.1 y hy')
    · exact absurd e (h.1 x hx')
    · exact ih h.2 hx' hy'

theorem acyclic_of {ops : Array Oper} (h : ((List.range ops.size).all fun i => match ops[i]? with | some o => o.after.all (fun e => decide (e.on < i)) | none => true) = true) :
    ∀ (i : Nat) (o : Oper), ops[i]? = some o → ∀ e ∈ o.after, e.on < i := by
  intro i o ho e he
  have hi : i < ops.size := (Array.getElem?_eq_some_iff.1 ho).1
  have := List.all_eq_true.1 h i (by simpa using hi)
  rw [ho] at this
  simp only [Array.all_eq_true_iff_forall_mem, decide_eq_true_eq] at this
  exact this e he

def rulesL : MLit Try.prog where
  t := 59
  kt := 62
  et := 58
  K := isKv
  im := 0
  dm := 1
  D := [(1, 2, isV (kv 1 false 2)),
    (2, 3, clo 61 2),
    (4, 4, isV (kv 1 false 3)),
    (5, 5, clo 61 2),
    (7, 6, isV (kv 1 true 0)),
    (8, 7, clo 60 15),
    (10, 8, isV (kv 1 true 1)),
    (12, 9, isV (kv 1 true 2)),
    (13, 10, clo 61 3),
    (15, 11, isV (kv 1 true 3)),
    (16, 12, clo 61 5),
    (18, 13, isV (kv 3 true 0)),
    (20, 14, isV (kv 3 true 3)),
    (22, 15, isV (kv 4 true 1)),
    (24, 16, isV (kv 5 true 1)),
    (26, 17, isV (kv 4 true 2)),
    (28, 18, isV (kv 5 true 2))]
  C := [(30, 19, 1), (31, 0, 19)]
  I := [(3, kv 1 false 2, clo 61 2),
    (6, kv 1 false 3, clo 61 2),
    (9, kv 1 true 0, clo 60 15),
    (11, kv 1 true 1, isV (.func (.func 57) #[] #[])),
    (14, kv 1 true 2, clo 61 3),
    (17, kv 1 true 3, clo 61 5),
    (19, kv 3 true 0, isV (.func (.func 58) #[] #[])),
    (21, kv 3 true 3, isV (.func (.func 58) #[] #[])),
    (23, kv 4 true 1, isV (.func (.func 57) #[] #[])),
    (25, kv 5 true 1, isV (.func (.func 57) #[] #[])),
    (27, kv 4 true 2, isV (.func (.func 59) #[] #[])),
    (29, kv 5 true 2, isV (.func (.func 59) #[] #[]))]

def RulesPost (w : World) (e : Ending) (w' : World) : Prop :=
  ∃ B f, e = .returned (.map (some B)) ∧ Ext w w' ∧ MapIs isKv w' B f ∧ (∀ x ∈ rulesL.I, ∃ v, f x.2.1 = some v ∧ x.2.2 w' v) ∧ (∀ k v, f k = some v → ∃ x ∈ rulesL.I, x.2.1 = k)

theorem rules_kv : ∀ x ∈ rulesL.I, isKv x.2.1 := by
  intro x hx
  simp only [rulesL, List.mem_cons, List.not_mem_nil, or_false] at hx
  rcases hx with rfl | rfl | rfl | rfl | rfl | rfl | rfl | rfl | rfl | rfl | rfl | rfl <;> exact ⟨_, _, _, rfl⟩

theorem rules_keys {x y : Nat × Value × Pred} (hx : x ∈ rulesL.I) (hy : y ∈ rulesL.I) (e : x.2.1 = y.2.1) : x = y :=
  inj_int (g := fun x => kvCode x.2.1) (by decide) hx hy (by rw [e])

set_option maxRecDepth 100000 in
set_option maxHeartbeats 4000000 in
theorem rules_any (w : World) : Calls Try.prog 49 #[] w (RulesPost w) := by
  go_enter Try.func49, Try.ntmps49
  go_wp2
  refine MLit.wp (L := rulesL) ⟨keys62, Try.underlying59, ?cover, ?acyclic, ?slots, ?dd, ?cc, ?ii, ?i2, ?apart, ?d1, ?c1, ?stable, ?hmk, ?hD, ?hC, ?hI⟩ (by kernel_rfl) ?done
  case cover =>
    have : ∀ i, i < 32 → i = rulesL.im ∨ (∃ x ∈ rulesL.D, x.1 = i) ∨ (∃ x ∈ rulesL.C, x.1 = i) ∨ (∃ x ∈ rulesL.I, x.1 = i) := by decide
    exact this
  case acyclic => exact acyclic_of (by kernel_rfl)
  case slots =>
    refine ⟨?_, ?_, by decide⟩
    · have : ∀ x ∈ rulesL.D, x.2.1 < 20 ∧ x.2.1 ≠ rulesL.dm ∧ ∀ y ∈ rulesL.C, y.2.1 ≠ x.2.1 := by decide
      exact this
    · have : ∀ x ∈ rulesL.C, x.2.1 < 20 ∧ x.2.1 ≠ rulesL.dm := by decide
      exact this
  case dd =>
    intro x hx y hy e
    rw [inj_nat (g := fun x : Nat × Nat × Pred => x.2.1) (by decide) hx hy e]
    exact ⟨rfl, rfl⟩
  case cc =>
    intro x hx y hy e
    rw [inj_nat (g := fun x : Nat × Nat × Nat => x.2.1) (by decide) hx hy e]
  case ii =>
    intro x hx y hy e
    rw [rules_keys hx hy e]
  case i2 => exact fun x hx y hy e => inj_nat (g := fun x : Nat × Value × Pred => x.1) (by decide) hx hy e
  case d1 => exact fun x hx y hy e => inj_nat (g := fun x : Nat × Nat × Pred => x.1) (by decide) hx hy e
  case c1 => exact fun x hx y hy e => inj_nat (g := fun x : Nat × Nat × Nat => x.1) (by decide) hx hy e
  case apart =>
    refine ⟨?_, ?_, ?_⟩
    · have : ∀ x ∈ rulesL.D, x.1 ≠ rulesL.im ∧ (∀ y ∈ rulesL.C, y.1 ≠ x.1) ∧ (∀ y ∈ rulesL.I, y.1 ≠ x.1) := by decide
      exact this
    · have : ∀ x ∈ rulesL.C, x.1 ≠ rulesL.im ∧ (∀ y ∈ rulesL.I, y.1 ≠ x.1) := by decide
      exact this
    · have : ∀ x ∈ rulesL.I, x.1 ≠ rulesL.im := by decide
      exact this
  case stable =>
    refine ⟨?_, ?_⟩ <;> intro x hx <;> simp only [rulesL, List.mem_cons, List.not_mem_nil, or_false] at hx
    · rcases hx with rfl | rfl | rfl | rfl | rfl | rfl | rfl | rfl | rfl | rfl | rfl | rfl | rfl | rfl | rfl | rfl | rfl <;> first | exact clo_stable _ _ | exact isV_stable _
    · rcases hx with rfl | rfl | rfl | rfl | rfl | rfl | rfl | rfl | rfl | rfl | rfl | rfl <;> first | exact clo_stable _ _ | exact isV_stable _
  case hmk => exact ⟨_, rfl, rfl, rfl, rfl⟩
  case hD =>
    intro x hx
    simp only [rulesL, List.mem_cons, List.not_mem_nil, or_false] at hx
    rcases hx with rfl | rfl | rfl | rfl | rfl | rfl | rfl | rfl | rfl | rfl | rfl | rfl | rfl | rfl | rfl | rfl | rfl
    · refine ⟨_, rfl, rfl, fun a w1 Kk _ _ k => ?_⟩
      go_simp
      exact k _ _ (Below.refl _ _) rfl
    · refine ⟨_, rfl, rfl, fun a w1 Kk _ _ k => ?_⟩
      go_simp
      refine (send_any _ _).mono ?_
      rintro e w' ⟨b, rfl, h1, h2, h3⟩
      exact k _ _ h3 ⟨b, rfl, h1, h2⟩
    · refine ⟨_, rfl, rfl, fun a w1 Kk _ _ k => ?_⟩
      go_simp
      exact k _ _ (Below.refl _ _) rfl
    · refine ⟨_, rfl, rfl, fun a w1 Kk _ _ k => ?_⟩
      go_simp
      refine (send_any _ _).mono ?_
      rintro e w' ⟨b, rfl, h1, h2, h3⟩
      exact k _ _ h3 ⟨b, rfl, h1, h2⟩
    · refine ⟨_, rfl, rfl, fun a w1 Kk _ _ k => ?_⟩
      go_simp
      exact k _ _ (Below.refl _ _) rfl
    · refine ⟨_, rfl, rfl, fun a w1 Kk _ _ k => ?_⟩
      go_simp
      refine (drop_any _ _).mono ?_
      rintro e w' ⟨b, rfl, h1, h2, h3⟩
      exact k _ _ h3 ⟨b, rfl, h1, h2⟩
    · refine ⟨_, rfl, rfl, fun a w1 Kk _ _ k => ?_⟩
      go_simp
      exact k _ _ (Below.refl _ _) rfl
    · refine ⟨_, rfl, rfl, fun a w1 Kk _ _ k => ?_⟩
      go_simp
      exact k _ _ (Below.refl _ _) rfl
    · refine ⟨_, rfl, rfl, fun a w1 Kk _ _ k => ?_⟩
      go_simp
      refine (send_any _ _).mono ?_
      rintro e w' ⟨b, rfl, h1, h2, h3⟩
      exact k _ _ h3 ⟨b, rfl, h1, h2⟩
    · refine ⟨_, rfl, rfl, fun a w1 Kk _ _ k => ?_⟩
      go_simp
      exact k _ _ (Below.refl _ _) rfl
    · refine ⟨_, rfl, rfl, fun a w1 Kk _ _ k => ?_⟩
      go_simp
      refine (send_any _ _).mono ?_
      rintro e w' ⟨b, rfl, h1, h2, h3⟩
      exact k _ _ h3 ⟨b, rfl, h1, h2⟩
    · refine ⟨_, rfl, rfl, fun a w1 Kk _ _ k => ?_⟩
      go_simp
      exact k _ _ (Below.refl _ _) rfl
    · refine ⟨_, rfl, rfl, fun a w1 Kk _ _ k => ?_⟩
      go_simp
      exact k _ _ (Below.refl _ _) rfl
    · refine ⟨_, rfl, rfl, fun a w1 Kk _ _ k => ?_⟩
      go_simp
      exact k _ _ (Below.refl _ _) rfl
    · refine ⟨_, rfl, rfl, fun a w1 Kk _ _ k => ?_⟩
      go_simp
      exact k _ _ (Below.refl _ _) rfl
    · refine ⟨_, rfl, rfl, fun a w1 Kk _ _ k => ?_⟩
      go_simp
      exact k _ _ (Below.refl _ _) rfl
    · refine ⟨_, rfl, rfl, fun a w1 Kk _ _ k => ?_⟩
      go_simp
      exact k _ _ (Below.refl _ _) rfl
  case hC =>
    intro x hx
    simp only [rulesL, List.mem_cons, List.not_mem_nil, or_false] at hx
    rcases hx with rfl | rfl
    · exact ⟨_, rfl, rfl, rfl, Or.inl rfl, Or.inl ⟨rfl, ⟨0, .data⟩, by simp, rfl, rfl⟩⟩
    · exact ⟨_, rfl, rfl, rfl, Or.inr rfl, Or.inr ⟨(30, 19, 1), by simp [rulesL], rfl, ⟨30, .data⟩, by simp, rfl, rfl⟩⟩
  case hI =>
    intro x hx
    simp only [rulesL, List.mem_cons, List.not_mem_nil, or_false] at hx
    rcases hx with rfl | rfl | rfl | rfl | rfl | rfl | rfl | rfl | rfl | rfl | rfl | rfl
    · refine ⟨_, _, _, rfl, rfl, rfl, rfl, ⟨_, _, _, rfl⟩, ⟨⟨0, .data⟩, by simp, rfl, rfl⟩, fun a w1 hd _ _ => ⟨?_, ?_⟩⟩
      · exact hd (1, 2, isV (kv 1 false 2)) (by simp [rulesL]) ⟨⟨1, .data⟩, by simp, rfl, rfl⟩
      · exact hd (2, 3, clo 61 2) (by simp [rulesL]) ⟨⟨2, .data⟩, by simp, rfl, rfl⟩
    · refine ⟨_, _, _, rfl, rfl, rfl, rfl, ⟨_, _, _, rfl⟩, ⟨⟨0, .data⟩, by simp, rfl, rfl⟩, fun a w1 hd _ _ => ⟨?_, ?_⟩⟩
      · exact hd (4, 4, isV (kv 1 false 3)) (by simp [rulesL]) ⟨⟨4, .data⟩, by simp, rfl, rfl⟩
      · exact hd (5, 5, clo 61 2) (by simp [rulesL]) ⟨⟨5, .data⟩, by simp, rfl, rfl⟩
    · refine ⟨_, _, _, rfl, rfl, rfl, rfl, ⟨_, _, _, rfl⟩, ⟨⟨0, .data⟩, by simp, rfl, rfl⟩, fun a w1 hd _ _ => ⟨?_, ?_⟩⟩
      · exact hd (7, 6, isV (kv 1 true 0)) (by simp [rulesL]) ⟨⟨7, .data⟩, by simp, rfl, rfl⟩
      · exact hd (8, 7, clo 60 15) (by simp [rulesL]) ⟨⟨8, .data⟩, by simp, rfl, rfl⟩
    · refine ⟨_, _, _, rfl, rfl, rfl, rfl, ⟨_, _, _, rfl⟩, ⟨⟨0, .data⟩, by simp, rfl, rfl⟩, fun a w1 hd _ _ => ⟨?_, ?_⟩⟩
      · exact hd (10, 8, isV (kv 1 true 1)) (by simp [rulesL]) ⟨⟨10, .data⟩, by simp, rfl, rfl⟩
      · rfl
    · refine ⟨_, _, _, rfl, rfl, rfl, rfl, ⟨_, _, _, rfl⟩, ⟨⟨0, .data⟩, by simp, rfl, rfl⟩, fun a w1 hd _ _ => ⟨?_, ?_⟩⟩
      · exact hd (12, 9, isV (kv 1 true 2)) (by simp [rulesL]) ⟨⟨12, .data⟩, by simp, rfl, rfl⟩
      · exact hd (13, 10, clo 61 3) (by simp [rulesL]) ⟨⟨13, .data⟩, by simp, rfl, rfl⟩
    · refine ⟨_, _, _, rfl, rfl, rfl, rfl, ⟨_, _, _, rfl⟩, ⟨⟨0, .data⟩, by simp, rfl, rfl⟩, fun a w1 hd _ _ => ⟨?_, ?_⟩⟩
      · exact hd (15, 11, isV (kv 1 true 3)) (by simp [rulesL]) ⟨⟨15, .data⟩, by simp, rfl, rfl⟩
      · exact hd (16, 12, clo 61 5) (by simp [rulesL]) ⟨⟨16, .data⟩, by simp, rfl, rfl⟩
    · refine ⟨_, _, _, rfl, rfl, rfl, rfl, ⟨_, _, _, rfl⟩, ⟨⟨0, .data⟩, by simp, rfl, rfl⟩, fun a w1 hd _ _ => ⟨?_, ?_⟩⟩
      · exact hd (18, 13, isV (kv 3 true 0)) (by simp [rulesL]) ⟨⟨18, .data⟩, by simp, rfl, rfl⟩
      · rfl
    · refine ⟨_, _, _, rfl, rfl, rfl, rfl, ⟨_, _, _, rfl⟩, ⟨⟨0, .data⟩, by simp, rfl, rfl⟩, fun a w1 hd _ _ => ⟨?_, ?_⟩⟩
      · exact hd (20, 14, isV (kv 3 true 3)) (by simp [rulesL]) ⟨⟨20, .data⟩, by simp, rfl, rfl⟩
      · rfl
    · refine ⟨_, _, _, rfl, rfl, rfl, rfl, ⟨_, _, _, rfl⟩, ⟨⟨0, .data⟩, by simp, rfl, rfl⟩, fun a w1 hd _ _ => ⟨?_, ?_⟩⟩
      · exact hd (22, 15, isV (kv 4 true 1)) (by simp [rulesL]) ⟨⟨22, .data⟩, by simp, rfl, rfl⟩
      · rfl
    · refine ⟨_, _, _, rfl, rfl, rfl, rfl, ⟨_, _, _, rfl⟩, ⟨⟨0, .data⟩, by simp, rfl, rfl⟩, fun a w1 hd _ _ => ⟨?_, ?_⟩⟩
      · exact hd (24, 16, isV (kv 5 true 1)) (by simp [rulesL]) ⟨⟨24, .data⟩, by simp, rfl, rfl⟩
      · rfl
    · refine ⟨_, _, _, rfl, rfl, rfl, rfl, ⟨_, _, _, rfl⟩, ⟨⟨0, .data⟩, by simp, rfl, rfl⟩, fun a w1 hd _ _ => ⟨?_, ?_⟩⟩
      · exact hd (26, 17, isV (kv 4 true 2)) (by simp [rulesL]) ⟨⟨26, .data⟩, by simp, rfl, rfl⟩
      · rfl
    · refine ⟨_, _, _, rfl, rfl, rfl, rfl, ⟨_, _, _, rfl⟩, ⟨⟨0, .data⟩, by simp, rfl, rfl⟩, fun a w1 hd _ _ => ⟨?_, ?_⟩⟩
      · exact hd (28, 18, isV (kv 5 true 2)) (by simp [rulesL]) ⟨⟨28, .data⟩, by simp, rfl, rfl⟩
      · rfl
  case done =>
    intro listed a w1 hl hI
    obtain ⟨B, f, h1, h2, h3, h4, h5⟩ := hI.map (hl 0 (by decide))
    have h0 := hI.cops (31, 0, 19) (by simp [rulesL]) (hl 31 (by decide))
    have hE : Ext w w1 := Ext.tr (Ext.dr (Ext.rf _)) hI.ext
    have hd : a.defers = [] := hI.defers
    have hIl : ∀ x ∈ rulesL.I, x.1 < 32 := by decide
    have h6 : ∀ x ∈ rulesL.I, ∃ v, f x.2.1 = some v ∧ x.2.2 w1 v := fun x hx => h4 x hx (hl x.1 (hIl x hx))
    clear hl hI h4
    go_wp2
    refine bodyPost_ret (v := .map (some B)) ?_ hd ⟨B, f, rfl, hE, h3, h6, fun k v hk => ?_⟩
    · have hs : a.tmps.getD 0 undef = .map (some B) := h0.trans h1
      simp only [Array.getD_eq_getD_getElem?] at hs
      simp [results, Try.results49, hs]
    · obtain ⟨x, hx, _, e⟩ := h5 k v hk
      exact ⟨x, hx, e⟩

end Go.Proofs.Ytnceijlphinnhaa
