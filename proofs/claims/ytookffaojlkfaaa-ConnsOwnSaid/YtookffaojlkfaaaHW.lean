/- The drawn region of tuple.Bytes: its operations, one by one. -/
import Derived.Test.YtookffaojlkfaaaH4
import Derived.Test.YtookffaojlkfaaaXW
import Derived.Test.YtookffaojlkfaaaC5
set_option linter.unusedSimpArgs false
set_option linter.unusedVariables false
namespace Go.Proofs.Ytookffaojlkfaaa
open Go.RowKit

def byN (n : Int) : Nat → List Int
  | 0 => []
  | k + 1 => (n / 256 ^ k % 256) :: byN n k
theorem byN_len (n : Int) : ∀ k, (byN n k).length = k
  | 0 => rfl
  | k + 1 => by simp [byN, byN_len n k]
theorem byN_get (n : Int) : ∀ (m i : Nat) (h : i < m), (byN n m)[i]? = some (n / 256 ^ (m - 1 - i) % 256)
  | m + 1, 0, _ => by simp [byN]
  | m + 1, i + 1, h => by
    simp only [byN, List.getElem?_cons_succ]
    rw [byN_get n m i (by omega)]
    rw [show m - 1 - i = m + 1 - 1 - (i + 1) by omega]
theorem byN_take (n : Int) (m j : Nat) (h : j < m) : (byN n m).take (m - (j + 1)) ++ [n / 256 ^ j % 256] = (byN n m).take (m - j) := by
  have h1 := byN_get n m (m - (j + 1)) (by omega)
  have h2 : m - j = m - (j + 1) + 1 := by omega
  rw [h2, List.take_add_one, h1, show m - 1 - (m - (j + 1)) = j by omega]
  rfl
theorem load_bs_W {C : Nat → Prop} {w : World} {B O : Nat} {a : Option Addr} {m c : Nat} (h0 : w.cell? ⟨B, O, none⟩ = some (.slice a m c)) (hl : Lt B w) (hC : ¬ C B) (ρ : Operand → Value) (dst : Option Tmp) (x : Operand) (ty : TypeId) (pos : String) (after : Array Edge) (g : Option (Nat × Bool))
    (hx : ρ x = .pointer (some ⟨B, O, none⟩)) : ∀ w', Mv C w w' → (execOp ρ ⟨dst, .load 104 x, ty, pos, after, g⟩).run Try.prog w' = .ok (.value (.slice a m c)) w' := by
  intro w' hE
  have h0 : w'.cell? ⟨B, O, none⟩ = some (.slice a m c) := by rw [cell_rowD, rowD_same (hE.same B hl hC), ← cell_rowD]; exact h0
  simp only [execOp, hx]
  go_simp
theorem mul8_run {j : Nat} (hj : j < 4) (ρ : Operand → Value) (dst : Option Tmp) (x : Operand) (r ty : TypeId) (pos : String) (after : Array Edge) (g : Option (Nat × Bool)) (hx : ρ x = .int .i64 (j : Nat)) (hk : ρ (.const (.int .i64 8)) = .int .i64 8) (w : World) :
    (execOp ρ ⟨dst, .binOp .mul 3 (.const (.int .i64 8)) x r, ty, pos, after, g⟩).run Try.prog w = .ok (.value (.int .i64 ((8 * j : Nat) : Int))) w := by
  obtain rfl | rfl | rfl | rfl : j = 0 ∨ j = 1 ∨ j = 2 ∨ j = 3 := by omega
  all_goals (simp only [execOp, hx, hk]; go_simp; rfl)
theorem shr8_run {n : Int} {j : Nat} (hj : j < 4) (ρ : Operand → Value) (dst : Option Tmp) (x y : Operand) (s r ty : TypeId) (pos : String) (after : Array Edge) (g : Option (Nat × Bool)) (hx : ρ x = .int .u32 n) (hy : ρ y = .int .i64 ((8 * j : Nat) : Int)) (w : World) :
    (execOp ρ ⟨dst, .binOp .shr 23 x y 3, ty, pos, after, g⟩).run Try.prog w = .ok (.value (.int .u32 (n / 256 ^ j))) w := by
  obtain rfl | rfl | rfl | rfl : j = 0 ∨ j = 1 ∨ j = 2 ∨ j = 3 := by omega
  all_goals
    simp only [execOp, hx, hy]
    go_simp
theorem conv8_run {n : Int} (ρ : Operand → Value) (dst : Option Tmp) (x : Operand) (ty : TypeId) (pos : String) (after : Array Edge) (g : Option (Nat × Bool)) (hx : ρ x = .int .u32 n) (w : World) :
    (execOp ρ ⟨dst, .convert 23 5 x, ty, pos, after, g⟩).run Try.prog w = .ok (.value (.int .u8 (n % 256))) w := by
  simp only [execOp, hx]
  go_simp
  simp [IntKind.wrap, IntKind.bits, IntKind.signed]
theorem build_run {v : Int} (ρ : Operand → Value) (dst : Option Tmp) (x : Operand) (ty : TypeId) (pos : String) (after : Array Edge) (g : Option (Nat × Bool)) (hx : ρ x = .int .u8 v) (w : World) :
    (execOp ρ ⟨dst, .buildSlice 104 1 #[(0, x)], ty, pos, after, g⟩).run Try.prog w = .ok (.value (.slice (some ⟨w.heap.size, 0, none⟩) 1 1)) (w.alloc (.cells #[.int .u8 v] 5)) := by
  simp only [execOp]
  go_simp
theorem info_U8 : (Try.prog.info? 5).map (fun i => (i.zero, i.size, i.bytes)) = some (some (.int .u8 0), 1, 1) := by kernel_rfl
theorem app_run {w : World} {B A L K : Nat} {v : Int} {u : Value} (hA : w.cell? ⟨A, 0, none⟩ = some (.int .u8 v)) (hL : L + 1 ≤ K) (hc : w.cell? ⟨B, L, none⟩ = some u) (hf : w.frozen? ⟨B, L, none⟩ = false) (ρ : Operand → Value) (dst : Option Tmp) (x y : Operand) (ty : TypeId) (pos : String) (after : Array Edge) (g : Option (Nat × Bool))
    (hx : ρ x = .slice (some ⟨B, 0, none⟩) L K) (hy : ρ y = .slice (some ⟨A, 0, none⟩) 1 1) :
    (execOp ρ ⟨dst, .call { callee := .builtin .append, args := #[x, y], argTypes := #[104, 104] }, ty, pos, after, g⟩).run Try.prog w = .ok (.value (.slice (some ⟨B, 0, none⟩) (L + 1) K)) (w.setCells B (0 + L * 1) [.int .u8 v]) := by
  obtain ⟨i0, hi, hz0, hz, hz2⟩ := info_parts info_U8
  have h := run_append_room_cells (P := Try.prog) w 104 ty 5 i0 Try.underlying104 hi B 0 L K ⟨A, 0, none⟩ 1 1 [.int .u8 v] (by rw [hz]; rfl) (fun j u h => by
    match j, h with
    | 0, h => cases h; exact hA) (by simp [Value.oneCell']) hL (fun j hj => by
      obtain rfl : j = 0 := by simpa using hj
      rw [hz, show 0 + L * 1 + 0 = L by omega, hc]; rfl) (fun j hj => by
      obtain rfl : j = 0 := by simpa using hj
      rw [hz, show 0 + L * 1 + 0 = L by omega]; exact hf)
  rw [hz] at h
  simp [execOp, resolve, invoke, builtin, hx, hy, h, Result.andThen]
theorem store_run {w : World} {B : Nat} {v u : Value} (hc : w.cell? ⟨B, 0, none⟩ = some u) (hf : w.frozen? ⟨B, 0, none⟩ = false) (hv : ∃ a m c, v = .slice a m c) (ρ : Operand → Value) (dst : Option Tmp) (x y : Operand) (ty : TypeId) (pos : String) (after : Array Edge) (g : Option (Nat × Bool))
    (hx : ρ x = .pointer (some ⟨B, 0, none⟩)) (hy : ρ y = v) :
    (execOp ρ ⟨dst, .store 104 x y, ty, pos, after, g⟩).run Try.prog w = .ok .skip (w.setCell ⟨B, 0, none⟩ v) := by
  obtain ⟨a, m, c, rfl⟩ := hv
  simp only [execOp, hx, hy]
  go_simp
def pathsB : List (Nat × List Nat) := [(0, [7, 8]), (1, [4, 5, 6, 7, 8]), (2, [3, 4, 5, 6, 7, 8]), (3, [4, 5, 6, 7, 8]), (4, [5, 6, 7, 8]), (5, [6, 7, 8])]
def SchB (ops : Array Oper) : Prop := Region.noSelect ops = true ∧ (∀ k, k < 6 → okX ops 9 k = true) ∧ (∀ k, k < 6 → closedB .any ops (lst 9 k) = true) ∧ (∀ k l, (k, l) ∈ pathsB → waitsB .any ops (k :: l) = true) ∧ Region.ready .any ops (lst 9 6) = [6] ∧ Region.ready .any ops (lst 9 7) = [7] ∧ Region.ready .any ops (lst 9 8) = [8] ∧ Region.ready .any ops (lst 9 9) = []
theorem schB : SchB ((Try.f115.body.bind (findR 8)).getD #[]) := by
  have h1 : ((List.range 6).all fun k => okX ((Try.f115.body.bind (findR 8)).getD #[]) 9 k) = true := by kernel_rfl
  have h2 : ((List.range 6).all fun k => closedB .any ((Try.f115.body.bind (findR 8)).getD #[]) (lst 9 k)) = true := by kernel_rfl
  have h3 : (pathsB.all fun kl => waitsB .any ((Try.f115.body.bind (findR 8)).getD #[]) (kl.1 :: kl.2)) = true := by kernel_rfl
  exact ⟨by kernel_rfl, fun k hk => List.all_eq_true.1 h1 k (List.mem_range.2 hk), fun k hk => List.all_eq_true.1 h2 k (List.mem_range.2 hk), fun k l h => List.all_eq_true.1 h3 (k, l) h, by kernel_rfl, by kernel_rfl, by kernel_rfl, by kernel_rfl⟩

end Go.Proofs.Ytookffaojlkfaaa
