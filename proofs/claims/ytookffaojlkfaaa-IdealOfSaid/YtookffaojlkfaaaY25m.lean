/- One table's owners, event by event: plain laws. -/
import Derived.Test.YtookffaojlkfaaaMA9
set_option linter.unusedSimpArgs false
set_option linter.unusedVariables false
namespace Go.Proofs.Ytookffaojlkfaaa
open Go.RowKit

theorem own_filter {ys : List Ho} (h : RtP ys) (f : Ho → Bool) (x : Tu) : (∃ y ∈ ys, y.t = x ∧ ownI ys x = y.n ∧ ownI (ys.filter f) x = if f y = true then y.n else -1) ∨ ((∀ y ∈ ys, y.t ≠ x) ∧ ownI ys x = -1 ∧ ownI (ys.filter f) x = -1) := by
  rcases own_cases (xs := ys) x with ⟨y, hy, h1, h2, -⟩ | ⟨h1, h2, -⟩
  · refine .inl ⟨y, hy, h1, h2, ?_⟩
    cases hf : f y
    · rw [if_neg (by decide)]
      refine (own_not fun z hz e => ?_).1
      obtain ⟨hz1, hz2⟩ := List.mem_filter.1 hz
      rw [h.uniq hz1 hy (e.trans h1.symm), hf] at hz2
      cases hz2
    · rw [if_pos rfl]
      have := own_mem (h.sub List.filter_sublist) (List.mem_filter.2 ⟨hy, hf⟩)
      rw [h1] at this
      exact this.1
  · exact .inr ⟨h1, h2, (own_not fun z hz e => h1 z (List.mem_filter.1 hz).1 e).1⟩
/-- What an event does to the owner of a tuple, as law IdealOne asks. -/
inductive OneC (ys : List Ho) (e : Ev) (x : Tu) : Bool → Int → Prop
  | no : OneC ys e x false (ownI ys x)
  | acc1 (k : e.k = 1) (q : eqT e.t x = true) (o : ownI ys x = -1) : OneC ys e x true e.n
  | acc2 (k : e.k = 1) (q : eqT e.t x = false) : OneC ys e x true (ownI ys x)
  | del1 (k : e.k = 2) (q : eqT e.t x = true) (o : ownI ys x = e.n) : OneC ys e x true (ownI ys x)
  | del2 (k : e.k = 2) (q : eqT e.t x = false) : OneC ys e x true (ownI ys x)
  | clo1 (k : e.k = 3 ∨ e.k = 4) (q : eqT e.t x = true) (o : ownI ys x = e.n) : OneC ys e x true (-1)
  | clo2 (k : e.k = 3 ∨ e.k = 4) (q : eqT e.t x = false) : OneC ys e x true (ownI ys x)
  | kil1 (k : e.k = 5) (o : ownI ys x = e.n) : OneC ys e x true (-1)
  | kil2 (k : e.k = 5) (o : ownI ys x ≠ e.n) : OneC ys e x true (ownI ys x)
theorem one_no {ys : List Ho} {e : Ev} {x : Tu} (h : stepH ys e = (ys, false)) : ∃ o, OneC ys e x (stepH ys e).2 o ∧ ownI (stepH ys e).1 x = o := by
  rw [h]; exact ⟨_, .no, rfl⟩
theorem one_cases {ys : List Ho} (h : RtP ys) (e : Ev) (x : Tu) : ∃ o, OneC ys e x (stepH ys e).2 o ∧ ownI (stepH ys e).1 x = o := by
  cases ha : agB e.n
  · exact one_no (by unfold stepH; rw [ha, Bool.and_false]; rfl)
  have hs : stepH ys e = kindH ys e := by unfold stepH; rw [(rightH_P ys).2 h, ha]; rfl
  by_cases h1 : e.k = 1
  · have hk : kindH ys e = (accX ys e, !okH ys e.t) := by unfold kindH; rw [if_pos h1]
    cases ho : okH ys e.t
    · have hX : accX ys e = insAt ys (atH ys e.t) (zOf e) := by unfold accX; rw [ho]; rfl
      rw [hs, hk, hX, ho]
      have hR := ins_P (zOf e) h ha ho
      have hno : ownHas ys e.t = false := by rw [← ok_has e.t h]; exact ho
      cases hq : eqT e.t x
      · refine ⟨_, .acc2 h1 hq, ?_⟩
        have hne : e.t ≠ x := fun he => by rw [eqT_iff.2 he] at hq; cases hq
        rcases own_cases (xs := ys) x with ⟨y, hy, g1, g2, -⟩ | ⟨g1, g2, -⟩
        · rw [g2, ← g1]
          exact (own_mem hR ((mem_ins _ _ _ _).2 (.inr hy))).1
        · rw [g2]
          refine (own_not fun z hz => ?_).1
          rcases (mem_ins _ _ _ _).1 hz with rfl | hz
          · exact hne
          · exact g1 z hz
      · have hx := eqT_iff.1 hq
        refine ⟨_, .acc1 h1 hq ?_, ?_⟩
        · rcases own_cases (xs := ys) x with ⟨y, hy, g1, g2, g3⟩ | ⟨g1, g2, -⟩
          · rw [← hx, hno] at g3; cases g3
          · exact g2
        · rw [← hx]
          exact (own_mem hR ((mem_ins _ _ _ _).2 (.inl rfl))).1
    · exact one_no (by rw [hs, hk]; unfold accX; rw [ho]; rfl)
  by_cases h2 : e.k = 2
  · have hk : kindH ys e = (ys, ys.any (isH (zOf e))) := by unfold kindH; rw [if_neg h1, if_pos h2]
    cases hm : ys.any (isH (zOf e))
    · exact one_no (by rw [hs, hk, hm])
    · rw [hs, hk, hm]
      have hmi := mine_is h e
      rw [hm] at hmi
      have ho : ownI ys e.t = e.n := by
        have := (Bool.and_eq_true _ _).mp hmi.symm
        simpa using this.2
      cases hq : eqT e.t x
      · exact ⟨_, .del2 h2 hq, rfl⟩
      · exact ⟨_, .del1 h2 hq (by rw [← eqT_iff.1 hq]; exact ho), rfl⟩
  by_cases h3 : e.k = 3 ∨ e.k = 4
  · have hk : kindH ys e = (overX ys e, ys.any (isH (zOf e))) := by unfold kindH; rw [if_neg h1, if_neg h2, if_pos h3]
    cases hm : ys.any (isH (zOf e))
    · exact one_no (by rw [hs, hk]; unfold overX; rw [hm]; rfl)
    · rw [hs, hk, over_filter h e hm, hm]
      have hmi := mine_is h e
      rw [hm] at hmi
      have ho : ownI ys e.t = e.n := by
        have := (Bool.and_eq_true _ _).mp hmi.symm
        simpa using this.2
      cases hq : eqT e.t x
      · refine ⟨_, .clo2 h3 hq, ?_⟩
        have hne : e.t ≠ x := fun he => by rw [eqT_iff.2 he] at hq; cases hq
        rcases own_filter h (fun y => !eqH e.t y) x with ⟨y, hy, g1, g2, g3⟩ | ⟨g1, g2, g3⟩
        · have : eqH e.t y = false := by cases hh : eqH e.t y; rfl; exact absurd ((eqH_iff.1 hh).symm.trans g1) hne
          rw [g3, g2, this]; rfl
        · rw [g3, g2]
      · refine ⟨_, .clo1 h3 hq (by rw [← eqT_iff.1 hq]; exact ho), ?_⟩
        rcases own_filter h (fun y => !eqH e.t y) x with ⟨y, hy, g1, g2, g3⟩ | ⟨g1, g2, g3⟩
        · rw [g3, eqH_iff.2 (g1.trans (eqT_iff.1 hq).symm)]; rfl
        · exact g3
  by_cases h5 : e.k = 5
  · have hk : kindH ys e = (killX ys e, zeT e.t) := by unfold kindH; rw [if_neg h1, if_neg h2, if_neg h3, if_pos h5]
    cases hz : zeT e.t
    · exact one_no (by rw [hs, hk]; unfold killX; rw [hz]; rfl)
    · have hX : killX ys e = ys.filter (fun y => !isN e.n y) := by unfold killX; rw [hz]; rfl
      rw [hs, hk, hX, hz]
      have hag := ag_range ha
      by_cases ho : ownI ys x = e.n
      · refine ⟨_, .kil1 h5 ho, ?_⟩
        rcases own_filter h (fun y => !isN e.n y) x with ⟨y, hy, g1, g2, g3⟩ | ⟨g1, g2, g3⟩
        · rw [g3, show isN e.n y = true by unfold isN; rw [← g2, ho]; simp]; rfl
        · exact g3
      · refine ⟨_, .kil2 h5 ho, ?_⟩
        rcases own_filter h (fun y => !isN e.n y) x with ⟨y, hy, g1, g2, g3⟩ | ⟨g1, g2, g3⟩
        · rw [g3, g2, show isN e.n y = false by unfold isN; rw [← g2]; simpa using ho]; rfl
        · rw [g3, g2]
  · exact one_no (by rw [hs]; unfold kindH; rw [if_neg h1, if_neg h2, if_neg h3, if_neg h5])

end Go.Proofs.Ytookffaojlkfaaa
