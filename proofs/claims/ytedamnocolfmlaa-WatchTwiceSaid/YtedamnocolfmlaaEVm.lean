/- WatchTwice: a world in which two of the backends that are there have one tuple is not sound, nor one in which both take a bucket; for every world, backends, bucket. -/
import Derived.Test.YtedamnocolfmlaaMB6
import Derived.Test.YtedamnocolfmlaaRows
set_option linter.unusedSimpArgs false
set_option linter.unusedVariables false
namespace Go.Proofs.Ytedamnocolfmlaa
open Go.ChangeShapes Go.WideShapes Go.ChangeAt Go.RowKit

theorem watchTwice_ok (w : World) : Input.okWideB Try.checked.prog w 4 ⟨#[], #[.agg Try.zeroCells53, .int .i64 0, .int .i64 0, .int .i64 0], []⟩ = true :=
  input_ok (P := Try.prog) (fn := Try.f4) (by kernel_rfl) Try.func4 (by kernel_rfl) fun j t v ht hv => by
  rw [Try.params4] at ht
  have hj := (Array.getElem?_eq_some_iff.1 ht).1
  simp only [List.size_toArray, List.length_cons, List.length_nil] at hj
  obtain rfl | rfl | rfl | rfl : j = 0 ∨ j = 1 ∨ j = 2 ∨ j = 3 := by omega
  · simp only [List.getElem?_toArray, List.getElem?_cons_zero, List.getElem?_cons_succ, Option.some.injEq] at ht hv
    subst ht hv
    exact wd_zero_ok _
  · simp only [List.getElem?_toArray, List.getElem?_cons_zero, List.getElem?_cons_succ, Option.some.injEq] at ht hv
    subst ht hv
    exact int_zero_ok _
  · simp only [List.getElem?_toArray, List.getElem?_cons_zero, List.getElem?_cons_succ, Option.some.injEq] at ht hv
    subst ht hv
    exact int_zero_ok _
  · simp only [List.getElem?_toArray, List.getElem?_cons_zero, List.getElem?_cons_succ, Option.some.injEq] at ht hv
    subst ht hv
    exact int_zero_ok _

set_option maxRecDepth 100000 in
theorem watchTwice_lifted (os : Os) (started : os.Started) (H : Type) (enc : TypeId × Value → H) :
    ReturnsInHanded {} Try.checked os 4 .any (Rows.watchTwiceSpec.pre6 enc Try.prog Try.f4 Rows.watchTwiceRow.domain false) (Rows.watchTwiceSpec.post enc Try.prog Try.f4 false true false false) := by
  refine law_lift 4 ownKn started (by kernel_rfl) Try.func4 (ChangeSpec.witness6 (enc := enc) (C := Try.checked) false ⟨#[], #[.agg Try.zeroCells53, .int .i64 0, .int .i64 0, .int .i64 0], []⟩ 8 (by kernel_rfl) (by kernel_rfl) (watchTwice_ok _) (by kernel_rfl)) laidOut rfl (by kernel_rfl) Try.underlying4 ?_ (by kernel_rfl) ?_
  · intro ds h
    match ds, h with
    | [d0, d1, d2, d3], _ => rfl
  · intro W base args ds p hval hA hlt
    have hval' : ∀ (j : Nat) t v, Try.f4.params[j]? = some t → args[j]? = some v → Value.okWide Try.prog W .any base t v := hval
    have hA' : DataW.TrodAll enc Try.prog W 0 (fun _ => true) true Try.f4.params.toList args.toList ds p := hA
    rw [Try.params4] at hA' hval'
    obtain ⟨v0, vs0, d0, ds0, p0, q0, hargs, rfl, rfl, h0, r0⟩ := trodAll_cons hA'
    obtain ⟨v1, vs1, d1, ds1, p1, q1, rfl, rfl, rfl, h1, r1⟩ := trodAll_cons r0
    obtain ⟨v2, vs2, d2, ds2, p2, q2, rfl, rfl, rfl, h2, r2⟩ := trodAll_cons r1
    obtain ⟨v3, vs3, d3, ds3, p3, q3, rfl, rfl, rfl, h3, r3⟩ := trodAll_cons r2
    obtain ⟨rfl, rfl, rfl⟩ := trodAll_nil r3
    obtain rfl : args = #[v0, v1, v2, v3] := by cases args; simp_all
    obtain ⟨x, ps, rfl, hR⟩ := open_wd (hval' 0 _ v0 rfl rfl) h0
    obtain ⟨one, rfl, _, _, w_one⟩ := open_int Try.underlying3 (hval' 1 _ v1 rfl rfl) h1
    obtain ⟨two, rfl, _, _, w_two⟩ := open_int Try.underlying3 (hval' 2 _ v2 rfl rfl) h2
    obtain ⟨b, rfl, _, _, w_b⟩ := open_int Try.underlying3 (hval' 3 _ v3 rfl rfl) h3
    exact twice_any x one two b _ hR.2.1

theorem watchTwice_holds : Rows.WatchTwiceSaid :=
  OpenClaim.holds_of_wide 4 Try.f4 rfl rfl rfl rfl rfl rfl rfl ⟨rfl, rfl, rfl, rfl, rfl⟩ rfl rfl rfl rfl rfl (by kernel_rfl) Try.func4 (by kernel_rfl)
    (of_decide_eq_true (by kernel_rfl)) (by unfold Func.isWrapper; first | (rw [if_pos (by decide +kernel)]; kernel_rfl) | (rw [if_neg (by decide +kernel)]; exact ⟨rfl, rfl⟩))
    (fun os started H enc _ => watchTwice_lifted os started H enc)
#print axioms watchTwice_holds

end Go.Proofs.Ytedamnocolfmlaa
