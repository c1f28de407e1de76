/- Connections' rows in drawn regions: put together, cut. -/
import Derived.Test.YtookffaojlkfaaaJ5
import Derived.Test.YtookffaojlkfaaaXK
set_option linter.unusedSimpArgs false
set_option linter.unusedVariables false
namespace Go.Proofs.Ytookffaojlkfaaa
open Go.RowKit

theorem appC_run {w : World} {base n : Nat} {v1 : Value} {l : List Value} {q : Option Addr} {ys : List Co} {c2 : Nat} (h1 : w.ownsRow base 43 6 v1 n l) (h2 : SlC w q ys) (hn : n + ys.length ≤ 2000) (hb : base ≤ w.heap.size)
    (ρ : Operand → Value) (dst : Option Tmp) (x y : Operand) (ty : TypeId) (pos : String) (after : Array Edge) (g : Option (Nat × Bool)) (hx : ρ x = v1) (hy : ρ y = .slice q ys.length c2) :
    ∃ v' w', (execOp ρ ⟨dst, .call { callee := .builtin .append, args := #[x, y], argTypes := #[22, 22] }, ty, pos, after, g⟩).run Try.prog w = .ok (.value v') w' ∧ w'.ownsRow base 43 6 v' (n + ys.length) (l ++ flC ys) ∧ w.grownBy w' v1.ownBlock := by
  obtain ⟨i0, hi, hz0, hz, hz2⟩ := info_parts info_C
  cases q with
  | none =>
    have h0 : ys = [] := h2.nil_of
    subst h0
    refine ⟨v1, w, ?_, by simpa [flC] using h1, ⟨rfl, rfl, rfl, Nat.le_refl _, fun _ _ _ => rfl⟩⟩
    rcases h1.2 with ⟨rfl, h0⟩ | ⟨gg, cap, cur, rfl, hg, hgb, h1, h2, h3, h4⟩
    · simp only [execOp, hx, hy]
      go_simp
    · simp only [execOp, hx, hy]
      go_simp
  | some a =>
    obtain ⟨v', w', hr, ho, hg, -, -⟩ := run_append_own_at (P := Try.prog) w base 22 ty 43 i0 (.agg #[.int .u32 0, .int .u32 0, .int .u16 0, .int .u16 0, .int .i64 0, .int .i64 0]) 6 32 Try.underlying22 hi hz0 hz hz2 rfl (by decide) v1 n l h1 a ys.length c2 (flC ys) (by rw [flC_len]) (h2.news (Ext.rf w)) (flC_one ys) (by unfold maxLen; omega) (by omega) hb
    refine ⟨v', w', ?_, ho, hg⟩
    simp [execOp, resolve, invoke, builtin, hx, hy, hr, Result.andThen]
theorem grown_mvC {w w' : World} {base n : Nat} {v : Value} {l : List Value} (h : w.ownsRow base 43 6 v n l) (hg : w.grownBy w' v.ownBlock) : Mv (fun k => base ≤ k) w w' := Mv.of_grown hg fun r e => .inl (ownBlock_ge h r e)
theorem appDC {ops : Array Oper} {Q : Act → World → Prop} {N k : Nat} {d : List Nat} {dst : Option Tmp} {x y : Operand} {ty : TypeId} {pos : String} {after : Array Edge} {fuel : Nat} {a : Act} {w : World} {base n : Nat} {v1 : Value} {l : List Value} {q : Option Addr} {ys : List Co} {c2 : Nat}
    (hi : ops[k]? = some ⟨dst, .call { callee := .builtin .append, args := #[x, y], argTypes := #[22, 22] }, ty, pos, after, none⟩) (hx : a.eval x = v1) (hy : a.eval y = .slice q ys.length c2) (h1 : w.ownsRow base 43 6 v1 n l) (h2 : SlC w q ys) (hn : n + ys.length ≤ 2000) (hb : base ≤ w.heap.size)
    (H : ∀ v' w', w.grownBy w' v1.ownBlock → Mv (fun k => base ≤ k) w w' → w'.ownsRow base 43 6 v' (n + ys.length) (l ++ flC ys) → wpAnyK (fun k => base ≤ k) Try.prog .any ops Q fuel (don N (k :: d)) (a.put dst v') w') : stepK (fun k => base ≤ k) Try.prog ops Q fuel N k d a w := by
  obtain ⟨v', w', hr, ho, hg⟩ := appC_run h1 h2 hn hb a.eval dst x y ty pos after none hx hy
  exact makeD hi rfl hr (grown_mvC h1 hg) (H v' w' hg (grown_mvC h1 hg) ho)
theorem lo_run {p : Option Addr} {n k c : Nat} (hk : k ≤ n) (hc : n ≤ c) (hp : p = none → c = 0 ∨ k = 0) (ρ : Operand → Value) (dst : Option Tmp) (x y : Operand) (ty : TypeId) (pos : String) (after : Array Edge) (g : Option (Nat × Bool)) (hx : ρ x = .slice p n c) (hy : ρ y = .int .i64 (k : Nat)) (w : World) :
    (execOp ρ ⟨dst, .slice 22 x none (some y) none, ty, pos, after, g⟩).run Try.prog w = .ok (.value (.slice p k c)) w := by
  have h1 : ¬ (k : Int) < 0 := by omega
  have h2 : (k : Int) ≤ c := by omega
  cases p with
  | none =>
    simp only [execOp, hx, hy]
    go_simp
  | some a =>
    obtain ⟨b, o, s⟩ := a
    simp only [execOp, hx, hy]
    go_simp
theorem SlC.take {w : World} {p : Option Addr} {xs : List Co} (h : SlC w p xs) (k : Nat) : SlC w p (xs.take k) := fun j hj => by
  rw [List.length_take] at hj
  obtain ⟨b, off, hp, hb, c0, c1, c2, c3, c4, c5⟩ := h j (by omega)
  have e : (xs.take k)[j]'(by rw [List.length_take]; exact hj) = xs[j]'(by omega) := by simp
  exact ⟨b, off, hp, hb, by rw [e]; exact c0, by rw [e]; exact c1, by rw [e]; exact c2, by rw [e]; exact c3, by rw [e]; exact c4, by rw [e]; exact c5⟩
theorem hi_run {p : Option Addr} {xs : List Co} {k c : Nat} {w0 : World} (hs : SlC w0 p xs) (hk : k ≤ xs.length) (hc : xs.length ≤ c) :
    ∃ q c2, SlC w0 q (xs.drop k) ∧ ∀ (ρ : Operand → Value) (dst : Option Tmp) (x y : Operand) (ty : TypeId) (pos : String) (after : Array Edge) (g : Option (Nat × Bool)), ρ x = .slice p xs.length c → ρ y = .int .i64 (k : Nat) → ∀ w, (execOp ρ ⟨dst, .slice 22 x (some y) none none, ty, pos, after, g⟩).run Try.prog w = .ok (.value (.slice q (xs.drop k).length c2)) w := by
  rw [List.length_drop]
  have h1 : ¬ (k : Int) < 0 := by omega
  have h2 : (k : Int) ≤ xs.length := by omega
  have h3 : (xs.length : Int) ≤ c := by omega
  cases p with
  | none =>
    have h0 : xs = [] := hs.nil_of
    subst h0
    obtain rfl : k = 0 := by simpa using hk
    refine ⟨none, c, by simpa using hs, fun ρ dst x y ty pos after g hx hy w => ?_⟩
    simp only [execOp, hx, hy]
    go_simp
  | some a =>
    by_cases h0 : xs = []
    · subst h0
      obtain rfl : k = 0 := by simpa using hk
      refine ⟨some a, c, SlC.nil _ _, fun ρ dst x y ty pos after g hx hy w => ?_⟩
      obtain ⟨b, o, s⟩ := a
      by_cases hc0 : c = 0
      · subst hc0
        simp only [execOp, hx, hy]
        go_simp
      · have hc1 : ¬ (c : Int) = 0 := by omega
        simp only [execOp, hx, hy]
        go_simp
    obtain ⟨b, o, hp0, -⟩ := hs 0 (List.length_pos_iff.2 h0)
    cases hp0
    by_cases hcc : c = k
    · subst hcc
      have hl : xs.length = c := by omega
      refine ⟨some ⟨b, o, none⟩, 0, ?_, fun ρ dst x y ty pos after g hx hy w => ?_⟩
      · rw [List.drop_of_length_le (by omega)]; exact SlC.nil _ _
      · simp only [execOp, hx, hy]
        go_simp
    · refine ⟨some ⟨b, o + k * 6, none⟩, c - k, ?_, fun ρ dst x y ty pos after g hx hy w => ?_⟩
      rotate_left
      · simp only [execOp, hx, hy]
        go_simp
      · intro j hj
        rw [List.length_drop] at hj
        obtain ⟨b', off, hp, hb, c0, c1, c2, c3, c4, c5⟩ := hs (k + j) (by omega)
        cases hp
        have e : (xs.drop k)[j]'(by rw [List.length_drop]; exact hj) = xs[k + j]'(by omega) := by simp
        have e2 : o + k * 6 + j * 6 = o + (k + j) * 6 := by omega
        exact ⟨b, o + k * 6, rfl, hb, by rw [e, e2]; exact c0, by rw [e, e2]; exact c1, by rw [e, e2]; exact c2, by rw [e, e2]; exact c3, by rw [e, e2]; exact c4, by rw [e, e2]; exact c5⟩

end Go.Proofs.Ytookffaojlkfaaa
