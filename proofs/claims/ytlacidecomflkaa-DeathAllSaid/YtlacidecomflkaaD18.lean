/- DeathAll returns true: for any moves, a backend and takers that are data. -/
import Derived.Test.YtlacidecomflkaaD17
import Derived.Test.YtlacidecomflkaaRows
set_option linter.unusedSimpArgs false
set_option linter.unusedVariables false
namespace Go.Proofs.Ytlacidecomflkaa
open Go.ChangeShapes Go.WideShapes Go.ChangeAt Go.RowKit

theorem deathAll_walk (l : Nat → Mo) (dead : Int) (p : Option Addr) (ms : List Int) (c : Nat) (w : World) (hph : ∀ i, 0 ≤ (l i).ph) (hs : Sl w p ms) (hcap : ms.length ≤ c) :
    Calls Try.prog 10 #[.agg (lm l), .int .i64 dead, .slice p ms.length c] w fun e w' => e = .returned (.bool true) ∧ Ext w w' := by
  by_cases h1 : 40 < (ms.length : Int)
  · exact deathAll_A l dead p ms c w hph hs hcap (decide_eq_true h1)
  have h40 := decide_eq_false h1
  have hlen : ms.length ≤ 1000 := by omega
  cases hr : rightP (fun _ => 0) ms
  · exact deathAll_B l dead p ms c w hph hs hcap h40 hlen (Lib.hid (by unfold allM allB; rw [hr]; simp)) (Lib.hid hr)
  cases hc : ms.any (dead == ·)
  · have hB : allB dead ms = true := by unfold allB; rw [hr, hc]; rfl
    have hM : allM l dead ms = allN l dead ms 16 := by unfold allM; rw [if_pos hB]
    exact deathAll_D l dead p ms c w hph hs hcap h40 hlen (allN l dead ms 16) (Lib.hid hM) (Lib.hid fun _ => rfl) (Lib.hid hr) (Lib.hid hc) (Lib.hid fun i hi h => all_stay l dead ms i hi h) (Lib.hid fun i hi ho hrt => all_law l hph dead ms hB i hi ho hrt)
  · exact deathAll_C l dead p ms c w hph hs hcap h40 hlen (Lib.hid (by unfold allM allB; rw [hr, hc]; simp)) (Lib.hid hr) (Lib.hid hc)

set_option maxRecDepth 100000 in
theorem deathAll_lifted (os : Os) (started : os.Started) (H : Type) (enc : TypeId × Value → H) :
    ReturnsInHanded {} Try.checked os 10 .any (Rows.deathAllSpec.pre6 enc Try.prog Try.f10 Rows.deathAllRow.domain false) (Rows.deathAllSpec.post enc Try.prog Try.f10 false true false false) := by
  refine law_lift 4 ownKn started (by kernel_rfl) Try.func10 (ChangeSpec.witness6 (enc := enc) (C := Try.checked) false ⟨#[], #[.agg #[.int .u8 0, .int .i64 0, .int .i64 0, .int .i64 0, .int .i64 0, .int .i64 0, .int .u8 0, .int .i64 0, .int .i64 0, .int .i64 0, .int .i64 0, .int .i64 0, .int .u8 0, .int .i64 0, .int .i64 0, .int .i64 0, .int .i64 0, .int .i64 0, .int .u8 0, .int .i64 0, .int .i64 0, .int .i64 0, .int .i64 0, .int .i64 0, .int .u8 0, .int .i64 0, .int .i64 0, .int .i64 0, .int .i64 0, .int .i64 0, .int .u8 0, .int .i64 0, .int .i64 0, .int .i64 0, .int .i64 0, .int .i64 0, .int .u8 0, .int .i64 0, .int .i64 0, .int .i64 0, .int .i64 0, .int .i64 0, .int .u8 0, .int .i64 0, .int .i64 0, .int .i64 0, .int .i64 0, .int .i64 0, .int .u8 0, .int .i64 0, .int .i64 0, .int .i64 0, .int .i64 0, .int .i64 0, .int .u8 0, .int .i64 0, .int .i64 0, .int .i64 0, .int .i64 0, .int .i64 0, .int .u8 0, .int .i64 0, .int .i64 0, .int .i64 0, .int .i64 0, .int .i64 0, .int .u8 0, .int .i64 0, .int .i64 0, .int .i64 0, .int .i64 0, .int .i64 0, .int .u8 0, .int .i64 0, .int .i64 0, .int .i64 0, .int .i64 0, .int .i64 0, .int .u8 0, .int .i64 0, .int .i64 0, .int .i64 0, .int .i64 0, .int .i64 0, .int .u8 0, .int .i64 0, .int .i64 0, .int .i64 0, .int .i64 0, .int .i64 0, .int .u8 0, .int .i64 0, .int .i64 0, .int .i64 0, .int .i64 0, .int .i64 0], .int .i64 0, .slice none 0 0], []⟩ 8 (by kernel_rfl) (by kernel_rfl) (by kernel_rfl) (by kernel_rfl)) laidOut rfl (by kernel_rfl) Try.underlying4 ?_ (by kernel_rfl) ?_
  · intro ds h
    match ds, h with
    | [d0, d1, d2], _ => rfl
  · intro W base args ds p hval hA hlt
    have hval' : ∀ (j : Nat) t v, Try.f10.params[j]? = some t → args[j]? = some v → Value.okWide Try.prog W .any base t v := hval
    have hA' : DataW.TrodAll enc Try.prog W 0 (fun _ => true) true Try.f10.params.toList args.toList ds p := hA
    rw [Try.params10] at hA' hval'
    obtain ⟨v0, vs0, d0, ds0, p0, q0, hargs, rfl, rfl, h0, r0⟩ := trodAll_cons hA'
    obtain ⟨v1, vs1, d1, ds1, p1, q1, rfl, rfl, rfl, h1, r1⟩ := trodAll_cons r0
    obtain ⟨v2, vs2, d2, ds2, p2, q2, rfl, rfl, rfl, h2, r2⟩ := trodAll_cons r1
    obtain ⟨rfl, rfl, rfl⟩ := trodAll_nil r2
    obtain rfl : args = #[v0, v1, v2] := by cases args; simp_all
    obtain ⟨l, rfl, hph_⟩ := open_moves (hval' 0 _ v0 rfl rfl) h0
    obtain ⟨dead, rfl, _, _, w_dead⟩ := open_int Try.underlying3 (hval' 1 _ v1 rfl rfl) h1
    obtain ⟨p_, ms, c_, rfl, hs_, hcap_⟩ := open_mems (hval' 2 _ v2 rfl rfl) h2
    exact deathAll_walk l dead p_ ms c_ W hph_ hs_ hcap_

theorem deathAll_holds : Rows.DeathAllSaid :=
  OpenClaim.holds_of_wide 10 Try.f10 rfl rfl rfl rfl rfl rfl rfl ⟨rfl, rfl, rfl, rfl, rfl⟩ rfl rfl rfl rfl rfl (by kernel_rfl) Try.func10 (by kernel_rfl)
    (of_decide_eq_true (by kernel_rfl)) (by unfold Func.isWrapper; first | (rw [if_pos (by decide +kernel)]; kernel_rfl) | (rw [if_neg (by decide +kernel)]; exact ⟨rfl, rfl⟩))
    (fun os started H enc _ => deathAll_lifted os started H enc)
#print axioms deathAll_holds

end Go.Proofs.Ytlacidecomflkaa
