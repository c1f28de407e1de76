/- Two rows of owners are the same: the comparison of [16]int. -/
import Derived.Test.YtlacidecomflkaaP19
import Derived.ChangeKeysEq
set_option linter.unusedSimpArgs false
set_option linter.unusedVariables false
namespace Go.Proofs.Ytlacidecomflkaa
open Go.RowKit

def eqO (a b : Nat → Int) : Bool := (List.range 16).all fun i => a i == b i
theorem eqO_iff (a b : Nat → Int) : eqO a b = true ↔ ∀ i, i < 16 → a i = b i := by
  unfold eqO; rw [List.all_eq_true]; simp
theorem info_i : ∃ i, Try.prog.info? 22 = some i := Option.isSome_iff_exists.1 (by kernel_rfl)
theorem info_i3 : ∃ i, Try.prog.info? 3 = some i := Option.isSome_iff_exists.1 (by kernel_rfl)
theorem eqItems_ov (d : Nat) (a b : Nat → Int) (w : World) : ∀ (is : List Nat), (∀ i ∈ is, i < 16) → (Op.eqItems (d + 1) 3 1 (ov a) (ov b) is).run Try.prog w = .ok (is.all fun i => a i == b i) w
  | [], _ => by simp [Op.eqItems]
  | i :: is, h => by
    have h16 := h i (by simp)
    have px : ∀ o, (part 3 (ov o) (i * 1)).run Try.prog w = .ok (.int .i64 (o i)) w := fun o => by
      have := get_ov o i h16
      simp [part, Sem.run_bind, isAgg_int, this]
    have pe : (Op.equalIn (d + 1) 3 (.int .i64 (a i)) (.int .i64 (b i))).run Try.prog w = .ok (a i == b i) w := by
      rw [run_equalIn_int w d 3 .i64 .i64 _ _ Try.underlying3]
    simp only [Op.eqItems, Sem.run_bind, px, pe, Result.andThen_ok, List.all_cons]
    cases hb : (a i == b i)
    · simp
    · simp only [Bool.not_true, Bool.false_eq_true, if_false, Bool.true_and]
      exact eqItems_ov d a b w is fun j hj => h j (by simp [hj])
theorem cells_i3 : Try.prog.cellsOf 3 = 1 := by kernel_rfl
@[go_sem ↓ high] theorem eql_own (a b : Nat → Int) (w : World) : (binOp .eql 22 (.agg (ov a)) (.agg (ov b))).run Try.prog w = .ok (.bool (eqO a b)) w := by
  obtain ⟨i, hi⟩ := info_i3
  rw [run_eql_struct, show (10000 : Nat) = 9999 + 1 from rfl, run_equalIn_array (w := w) 9999 (n := 16) (e := 3) (ov a) (ov b) Try.underlying22 hi, cells_i3, show (9999 : Nat) = 9998 + 1 from rfl, eqItems_ov 9998 a b w _ (fun i hi => by simpa using hi)]
  rfl

end Go.Proofs.Ytlacidecomflkaa
