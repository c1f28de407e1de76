/- DeathOwners returns true: for any moves and a backend that are data. -/
import Derived.Test.YtlacidecomflkaaD20
import Derived.Test.YtlacidecomflkaaRows
set_option linter.unusedSimpArgs false
set_option linter.unusedVariables false
namespace Go.Proofs.Ytlacidecomflkaa
open Go.ChangeShapes Go.WideShapes Go.ChangeAt Go.RowKit

theorem first_bad {P : Nat → Prop} : ∀ n, (∀ i, i < n → P i) ∨ ∃ m, m < n ∧ (∀ i, i < m → P i) ∧ ¬ P m
  | 0 => .inl fun i hi => absurd hi (Nat.not_lt_zero i)
  | n + 1 => by
    rcases first_bad (P := P) n with h | ⟨m, h1, h2, h3⟩
    · by_cases hp : P n
      · exact .inl fun i hi => by
          by_cases e : i = n
          · subst e; exact hp
          · exact h i (by omega)
      · exact .inr ⟨n, by omega, h, hp⟩
    · exact .inr ⟨m, by omega, h2, h3⟩
theorem deathOwners_walk (l : Nat → Mo) (left : Int) (w : World) (hph : ∀ i, 0 ≤ (l i).ph) :
    Calls Try.prog 11 #[.agg (lm l), .int .i64 left] w fun e w' => e = .returned (.bool true) ∧ Ext w w' := by
  by_cases h1 : left < 0
  · exact deathOwners_A l left w hph (decide_eq_true h1)
  have d0 := decide_eq_false h1
  by_cases h2 : 6 ≤ left
  · exact deathOwners_B l left w hph d0 (decide_eq_true h2)
  have d6 := decide_eq_false h2
  rcases first_bad (P := fun i => (l i).right = true ∧ (l i).gen ≤ 1000) 16 with h | ⟨n, hn, hg, hb⟩
  · exact deathOwners_M l left w hph d0 d6 (Lib.hid h) (Lib.hid fun i hi => owners_law l left hph (by omega) h i hi)
  · cases hr : (l n).right
    · exact deathOwners_C l left w hph d0 d6 n hn (Lib.hid hg) (Lib.hid hr)
    · exact deathOwners_D l left w hph d0 d6 n hn (Lib.hid hg) (Lib.hid hr) (decide_eq_true (by
        by_cases hx : (l n).gen ≤ 1000
        · exact absurd ⟨hr, hx⟩ hb
        · omega))

set_option maxRecDepth 100000 in
theorem deathOwners_lifted (os : Os) (started : os.Started) (H : Type) (enc : TypeId × Value → H) :
    ReturnsInHanded {} Try.checked os 11 .any (Rows.deathOwnersSpec.pre6 enc Try.prog Try.f11 Rows.deathOwnersRow.domain false) (Rows.deathOwnersSpec.post enc Try.prog Try.f11 false true false false) := by
  refine law_lift 4 ownKn started (by kernel_rfl) Try.func11 (ChangeSpec.witness6 (enc := enc) (C := Try.checked) false ⟨#[], #[.agg #[.int .u8 0, .int .i64 0, .int .i64 0, .int .i64 0, .int .i64 0, .int .i64 0, .int .u8 0, .int .i64 0, .int .i64 0, .int .i64 0, .int .i64 0, .int .i64 0, .int .u8 0, .int .i64 0, .int .i64 0, .int .i64 0, .int .i64 0, .int .i64 0, .int .u8 0, .int .i64 0, .int .i64 0, .int .i64 0, .int .i64 0, .int .i64 0, .int .u8 0, .int .i64 0, .int .i64 0, .int .i64 0, .int .i64 0, .int .i64 0, .int .u8 0, .int .i64 0, .int .i64 0, .int .i64 0, .int .i64 0, .int .i64 0, .int .u8 0, .int .i64 0, .int .i64 0, .int .i64 0, .int .i64 0, .int .i64 0, .int .u8 0, .int .i64 0, .int .i64 0, .int .i64 0, .int .i64 0, .int .i64 0, .int .u8 0, .int .i64 0, .int .i64 0, .int .i64 0, .int .i64 0, .int .i64 0, .int .u8 0, .int .i64 0, .int .i64 0, .int .i64 0, .int .i64 0, .int .i64 0, .int .u8 0, .int .i64 0, .int .i64 0, .int .i64 0, .int .i64 0, .int .i64 0, .int .u8 0, .int .i64 0, .int .i64 0, .int .i64 0, .int .i64 0, .int .i64 0, .int .u8 0, .int .i64 0, .int .i64 0, .int .i64 0, .int .i64 0, .int .i64 0, .int .u8 0, .int .i64 0, .int .i64 0, .int .i64 0, .int .i64 0, .int .i64 0, .int .u8 0, .int .i64 0, .int .i64 0, .int .i64 0, .int .i64 0, .int .i64 0, .int .u8 0, .int .i64 0, .int .i64 0, .int .i64 0, .int .i64 0, .int .i64 0], .int .i64 0], []⟩ 8 (by kernel_rfl) (by kernel_rfl) (by kernel_rfl) (by kernel_rfl)) laidOut rfl (by kernel_rfl) Try.underlying4 ?_ (by kernel_rfl) ?_
  · intro ds h
    match ds, h with
    | [d0, d1], _ => rfl
  · intro W base args ds p hval hA hlt
    have hval' : ∀ (j : Nat) t v, Try.f11.params[j]? = some t → args[j]? = some v → Value.okWide Try.prog W .any base t v := hval
    have hA' : DataW.TrodAll enc Try.prog W 0 (fun _ => true) true Try.f11.params.toList args.toList ds p := hA
    rw [Try.params11] at hA' hval'
    obtain ⟨v0, vs0, d0, ds0, p0, q0, hargs, rfl, rfl, h0, r0⟩ := trodAll_cons hA'
    obtain ⟨v1, vs1, d1, ds1, p1, q1, rfl, rfl, rfl, h1, r1⟩ := trodAll_cons r0
    obtain ⟨rfl, rfl, rfl⟩ := trodAll_nil r1
    obtain rfl : args = #[v0, v1] := by cases args; simp_all
    obtain ⟨l, rfl, hph_⟩ := open_moves (hval' 0 _ v0 rfl rfl) h0
    obtain ⟨left, rfl, _, _, w_left⟩ := open_int Try.underlying3 (hval' 1 _ v1 rfl rfl) h1
    exact deathOwners_walk l left W hph_

theorem deathOwners_holds : Rows.DeathOwnersSaid :=
  OpenClaim.holds_of_wide 11 Try.f11 rfl rfl rfl rfl rfl rfl rfl ⟨rfl, rfl, rfl, rfl, rfl⟩ rfl rfl rfl rfl rfl (by kernel_rfl) Try.func11 (by kernel_rfl)
    (of_decide_eq_true (by kernel_rfl)) (by unfold Func.isWrapper; first | (rw [if_pos (by decide +kernel)]; kernel_rfl) | (rw [if_neg (by decide +kernel)]; exact ⟨rfl, rfl⟩))
    (fun os started H enc _ => deathOwners_lifted os started H enc)
#print axioms deathOwners_holds

end Go.Proofs.Ytlacidecomflkaa
