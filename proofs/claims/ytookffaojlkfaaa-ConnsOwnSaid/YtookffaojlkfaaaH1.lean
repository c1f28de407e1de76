/- The small functions of hash. -/
import Derived.Test.YtookffaojlkfaaaA
set_option linter.unusedSimpArgs false
set_option linter.unusedVariables false
namespace Go.Proofs.Ytookffaojlkfaaa
open Go.RowKit

def turn (c : Int) : Int := (167 * c + 13) % 256 % 16 * 16 + (167 * c + 13) % 256 / 16
def xorB (s c : Int) : Int := bits BinOp.xor IntKind.u8 s c
theorem turn_bd (c : Int) : 0 ≤ turn c ∧ turn c < 256 := by unfold turn; omega
theorem xorB_bd (s c : Int) : 0 ≤ xorB s c ∧ xorB s c < 256 := by
  have h1 := bits_lo_u8 .xor s c
  have h2 := bits_hi_u8 .xor s c
  unfold xorB; omega
theorem by256 (p : Int → Prop) [∀ c, Decidable (p c)] (h : ((List.range 256).all fun n => decide (p (n : Int))) = true) {c : Int} (h0 : 0 ≤ c) (h1 : c < 256) : p c := by
  obtain ⟨n, rfl⟩ : ∃ n : Nat, c = n := ⟨c.toNat, by omega⟩
  exact of_decide_eq_true (List.all_eq_true.1 h n (List.mem_range.2 (by omega)))
theorem or_val (n : Int) (h0 : 0 ≤ n) (h1 : n < 256) : bits BinOp.or IntKind.u8 (n * 16 % 256) (n / 16) = n % 16 * 16 + n / 16 := by
  refine by256 (fun n => bits BinOp.or IntKind.u8 (n * 16 % 256) (n / 16) = n % 16 * 16 + n / 16) ?_ h0 h1
  kernel_rfl
/-- A sum's bucket. -/
def fold (s : Int) : Int := s / 16 % 16 + s % 16 - 2 * (bits BinOp.and IntKind.u8 (s / 16) (s % 16))
theorem fold_val (n : Int) (h0 : 0 ≤ n) (h1 : n < 256) : wrap64 (bits BinOp.and IntKind.u8 (bits BinOp.xor IntKind.u8 n (n / 16)) 15) = fold n := by
  refine by256 (fun n => wrap64 (bits BinOp.and IntKind.u8 (bits BinOp.xor IntKind.u8 n (n / 16)) 15) = fold n) ?_ h0 h1
  kernel_rfl
theorem rfold_val (n : Int) (h0 : 0 ≤ n) (h1 : n < 256) : bits BinOp.xor IntKind.i64 ((wrap64 n).tdiv 16) ((wrap64 n).tmod 16) = fold n := by
  refine by256 (fun n => bits BinOp.xor IntKind.i64 ((wrap64 n).tdiv 16) ((wrap64 n).tmod 16) = fold n) ?_ h0 h1
  kernel_rfl
theorem fold_bd (n : Int) (h0 : 0 ≤ n) (h1 : n < 256) : 0 ≤ fold n ∧ fold n < 16 := by
  refine by256 (fun n => 0 ≤ fold n ∧ fold n < 16) ?_ h0 h1
  kernel_rfl
set_option maxHeartbeats 400000 in
theorem rot_any (c : Int) (w : World) (h0 : 0 ≤ c) (h1 : c < 256) : Calls Try.prog 125 #[.int .u8 c, .int .i64 4] w fun e w' => e = .returned (.int .u8 (c % 16 * 16 + c / 16)) ∧ w = w' := by
  have HV := Lib.hid (or_val c h0 h1)
  have b47 : bits BinOp.and IntKind.u64 4 7 = 4 := by kernel_rfl
  clear h0 h1
  go_enter Try.func125, Try.ntmps125
  go_wp2
  go_ret
  exact ⟨by rw [← HV.out]; rfl, rfl⟩
set_option maxHeartbeats 400000 in
theorem folded_any (c : Int) (w : World) (h0 : 0 ≤ c) (h1 : c < 256) : Calls Try.prog 92 #[.int .u8 c] w fun e w' => e = .returned (.int .i64 (fold c)) ∧ w = w' := by
  have HV := Lib.hid (fold_val c h0 h1)
  clear h0 h1
  go_enter Try.func92, Try.ntmps92
  go_wp2
  go_ret
  exact ⟨by rw [← HV.out]; rfl, rfl⟩
set_option maxHeartbeats 400000 in
theorem turn_any (c : Int) (w : World) : Calls Try.prog 121 #[.int .u8 c] w fun e w' => e = .returned (.int .u8 (turn c)) ∧ w = w' := by
  have HR := Lib.hid (fun w => rot_any ((167 * c + 13) % 256) w (by omega) (by omega))
  go_enter Try.func121, Try.ntmps121
  go_wp2_with ((with_reducible refine (HR.out _).mono ?_); (rintro e w' ⟨rfl, rfl⟩))
  exact bodyPost_ret (v := .int .u8 ((167 * c + 13) % 16 * 16 + (167 * c + 13) % 256 / 16)) (by kernel_rfl) rfl ⟨by rw [show (167 * c + 13) % 16 * 16 + (167 * c + 13) % 256 / 16 = turn c by unfold turn; omega], rfl⟩

theorem rturn_val (c : Int) (h0 : 0 ≤ c) (h1 : c < 256) : (wrap64 (wrap64 ((wrap64 (wrap64 (167 * wrap64 c) + 13)).tmod 16 * 16) + wrap64 (((wrap64 (wrap64 (167 * wrap64 c) + 13)).tmod 256).tdiv 16)) % 256) = turn c := by
  refine by256 (fun c => (wrap64 (wrap64 ((wrap64 (wrap64 (167 * wrap64 c) + 13)).tmod 16 * 16) + wrap64 (((wrap64 (wrap64 (167 * wrap64 c) + 13)).tmod 256).tdiv 16)) % 256) = turn c) ?_ h0 h1
  kernel_rfl
set_option maxHeartbeats 400000 in
theorem rturn_any (c : Int) (w : World) (h0 : 0 ≤ c) (h1 : c < 256) : Calls Try.prog 118 #[.int .u8 c] w fun e w' => e = .returned (.int .u8 (turn c)) ∧ w = w' := by
  have HV := Lib.hid (rturn_val c h0 h1)
  clear h0 h1
  go_enter Try.func118, Try.ntmps118
  go_wp2
  go_ret
  exact ⟨by rw [← HV.out]; rfl, rfl⟩

end Go.Proofs.Ytookffaojlkfaaa
