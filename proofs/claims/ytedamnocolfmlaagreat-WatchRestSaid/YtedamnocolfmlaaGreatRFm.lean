/- WatchRest: phases are as many as buckets, a world is at rest just if its controller is still and nothing of control is in flight, versions are the clients'; for every world. -/
import Derived.Test.YtedamnocolfmlaaGreatREm
import Derived.Test.YtedamnocolfmlaaGreatRows
set_option linter.unusedSimpArgs false
set_option linter.unusedVariables false
namespace Go.Proofs.YtedamnocolfmlaaGreat
open Go.ChangeShapes Go.WideShapes Go.ChangeAt Go.RowKit

theorem watchRest_ok (w : World) : Input.okWideB Tryz.checked.prog w 3 ⟨#[], #[.agg Tryz.zeroCells53], []⟩ = true :=
  input_ok (P := Tryz.prog) (fn := Tryz.f3) (by kernel_rfl) Tryz.func3 (by kernel_rfl) fun j t v ht hv => by
  rw [Tryz.params3] at ht
  have hj := (Array.getElem?_eq_some_iff.1 ht).1
  simp only [List.size_toArray, List.length_cons, List.length_nil] at hj
  obtain rfl : j = 0 := by omega
  · simp only [List.getElem?_toArray, List.getElem?_cons_zero, List.getElem?_cons_succ, Option.some.injEq] at ht hv
    subst ht hv
    exact wd_zero_ok _

set_option maxRecDepth 100000 in
theorem watchRest_lifted (os : Os) (started : os.Started) (H : Type) (enc : TypeId × Value → H) :
    ReturnsInHanded {} Tryz.checked os 3 .any (Rows.watchRestSpec.pre6 enc Tryz.prog Tryz.f3 Rows.watchRestRow.domain false) (Rows.watchRestSpec.post enc Tryz.prog Tryz.f3 false true false false) := by
  refine law_lift 4 ownKn started (by kernel_rfl) Tryz.func3 (ChangeSpec.witness6 (enc := enc) (C := Tryz.checked) false ⟨#[], #[.agg Tryz.zeroCells53], []⟩ 8 (by kernel_rfl) (by kernel_rfl) (watchRest_ok _) (by kernel_rfl)) laidOut rfl (by kernel_rfl) Tryz.underlying4 ?_ (by kernel_rfl) ?_
  · intro ds h
    match ds, h with
    | [d0], _ => rfl
  · intro W base args ds p hval hA hlt
    have hval' : ∀ (j : Nat) t v, Tryz.f3.params[j]? = some t → args[j]? = some v → Value.okWide Tryz.prog W .any base t v := hval
    have hA' : DataW.TrodAll enc Tryz.prog W 0 (fun _ => true) true Tryz.f3.params.toList args.toList ds p := hA
    rw [Tryz.params3] at hA' hval'
    obtain ⟨v0, vs0, d0, ds0, p0, q0, hargs, rfl, rfl, h0, r0⟩ := trodAll_cons hA'
    obtain ⟨rfl, rfl, rfl⟩ := trodAll_nil r0
    obtain rfl : args = #[v0] := by cases args; simp_all
    obtain ⟨x, ps, rfl, hR⟩ := open_wd (hval' 0 _ v0 rfl rfl) h0
    exact rest_law x ps _ hR

theorem watchRest_holds : Rows.WatchRestSaid :=
  OpenClaim.holds_of_wide 3 Tryz.f3 rfl rfl rfl rfl rfl rfl rfl ⟨rfl, rfl, rfl, rfl, rfl⟩ rfl rfl rfl rfl rfl (by kernel_rfl) Tryz.func3 (by kernel_rfl)
    (of_decide_eq_true (by kernel_rfl)) (by unfold Func.isWrapper; first | (rw [if_pos (by decide +kernel)]; kernel_rfl) | (rw [if_neg (by decide +kernel)]; exact ⟨rfl, rfl⟩))
    (fun os started H enc _ => watchRest_lifted os started H enc)
#print axioms watchRest_holds

end Go.Proofs.YtedamnocolfmlaaGreat
