/- Slices of ints that are read; functions of the library over them: IndexFunc, ContainsFunc, Index, Contains. -/
import Derived.Test.YtlacidecomflkaaV2
import Derived.Shelf.Abstract
set_option linter.unusedSimpArgs false
set_option linter.unusedVariables false
namespace Go.Proofs.Ytlacidecomflkaa
open Go.RowKit

/-- The slice that begins at p reads as ms. -/
def Sl (w : World) (p : Option Addr) (ms : List Int) : Prop := ∀ k, k < ms.length → ∃ b off, p = some ⟨b, off, none⟩ ∧ b < w.heap.size ∧ w.cell? ⟨b, off + k, none⟩ = some (.int .i64 (ms[k]?.getD 0))
theorem Sl.ext {w w' : World} {p : Option Addr} {ms : List Int} (h : Sl w p ms) (e : Ext w w') : Sl w' p ms := fun k hk => by
  obtain ⟨b, off, hp, hb, hc⟩ := h k hk
  exact ⟨b, off, hp, Nat.lt_of_lt_of_le hb e.size, (e.cell (p := ⟨b, off + k, none⟩) hb).trans hc⟩
theorem Sl.nil (w : World) (p : Option Addr) : Sl w p [] := fun k hk => by simp at hk
/-- The place of the first that is so, or -1. -/
def idx {α : Type} (pr : α → Bool) (ms : List α) : Int := if ms.any pr then ms.findIdx pr else -1
theorem idx_none {α : Type} (pr : α → Bool) (ms : List α) (h : ∀ k (hk : k < ms.length), pr ms[k] = false) : idx pr ms = -1 := by
  unfold idx
  rw [if_neg]
  intro hh
  obtain ⟨x, hx, hp⟩ := List.any_eq_true.1 hh
  obtain ⟨k, hk, rfl⟩ := List.mem_iff_getElem.1 hx
  rw [h k hk] at hp; cases hp
theorem idx_some {α : Type} (pr : α → Bool) (ms : List α) (k : Nat) (hk : k < ms.length) (h : ∀ j (hj : j < k), pr (ms[j]'(by omega)) = false) (hp : pr ms[k] = true) : idx pr ms = k := by
  unfold idx
  rw [if_pos (List.any_eq_true.2 ⟨ms[k], List.getElem_mem hk, hp⟩)]
  congr 1
  rw [List.findIdx_eq hk]
  exact ⟨hp, fun j hj => by simpa using h j hj⟩
theorem idx_ge {α : Type} (pr : α → Bool) (ms : List α) : decide (0 ≤ idx pr ms) = ms.any pr := by
  unfold idx
  cases h : ms.any pr <;> simp

set_option maxHeartbeats 1000000 in
theorem indexFunc_any (g : Nat) (lb : Array Value) (eg : ∀ args w, (callFunc g args).run Try.prog w = .ok (.enter g args) w) (pr : Int → Bool) (p : Option Addr) (ms : List Int) (c : Nat) (w : World)
    (hs : Sl w p ms) (hl : ms.length ≤ 1000) (hf : ∀ x W, x ∈ ms → Ext w W → Calls Try.prog g (#[.int .i64 x] ++ lb) W fun e w' => e = .returned (.bool (pr x)) ∧ Ext W w') :
    Calls Try.prog 75 #[.slice p ms.length c, .func (.func g) #[] lb] w fun e w' => e = .returned (.int .i64 (idx pr ms)) ∧ Ext w w' := by
  have HF := Lib.hid hf
  clear hf
  go_enter Try.func75, Try.ntmps75
  go_wp2
  go_loopw [5, 8] (fun _ i wr => ∃ k : Nat, k ≤ ms.length ∧ i = .int .i64 k ∧ (∀ j, j < k → ∀ (hj : j < ms.length), pr ms[j] = false) ∧ Ext w wr) (fun _ i _ => ms.length - (intOf i).toNat)
  case atStart => exact ⟨0, Nat.zero_le _, rfl, fun j hj => by omega, Ext.rf _⟩
  case round =>
    obtain ⟨k, hk, rfl, hno, hE⟩ := hrel
    have HN := Lib.hid hno
    clear hno
    by_cases hlt : k < ms.length
    · obtain ⟨b, off, rfl, hb, hcell⟩ := (hs.ext hE) k hlt
      have HC := HF.out ms[k] wr (List.getElem_mem hlt) hE
      have e1 : ms[k]?.getD 0 = ms[k] := by simp [hlt]
      rw [e1] at hcell
      generalize hx : ms[k] = x at hcell HC
      have HX := Lib.hid hx
      clear hx e1
      cases hp : pr x
      · rw [hp] at HC
        have HP := Lib.hid hp
        clear hp
        have HCC := Lib.hid HC
        clear HC
        go_wp2_with ((with_reducible refine (HCC.out).mono ?_); rintro e w' ⟨rfl, hb'⟩)
        go_roundw
        case rel => exact ⟨k + 1, by omega, by go_num, fun j hj hj' => by
          rcases Nat.lt_or_ge j k with h | h
          · exact HN.out j h hj'
          · obtain rfl : j = k := by omega
            rw [HX.out, HP.out], hE.tr hb'⟩
        case measure => simp [intOf]; omega
      · rw [hp] at HC
        have HP := Lib.hid hp
        clear hp
        have HCC := Lib.hid HC
        clear HC
        go_wp2_with ((with_reducible refine (HCC.out).mono ?_); rintro e w' ⟨rfl, hb'⟩)
        go_ret
        exact ⟨by rw [idx_some pr ms k hlt (fun j hj => HN.out j hj _) (by rw [HX.out, HP.out])]; rfl, hE.tr hb'⟩
    · obtain rfl : k = ms.length := by omega
      go_wp2
      go_ret
      exact ⟨by rw [idx_none pr ms (fun j hj => HN.out j hj hj)]; rfl, hE⟩

set_option maxHeartbeats 1000000 in
theorem containsFunc_any (g : Nat) (lb : Array Value) (eg : ∀ args w, (callFunc g args).run Try.prog w = .ok (.enter g args) w) (pr : Int → Bool) (p : Option Addr) (ms : List Int) (c : Nat) (w : World)
    (hs : Sl w p ms) (hl : ms.length ≤ 1000) (hf : ∀ x W, x ∈ ms → Ext w W → Calls Try.prog g (#[.int .i64 x] ++ lb) W fun e w' => e = .returned (.bool (pr x)) ∧ Ext W w') :
    Calls Try.prog 60 #[.slice p ms.length c, .func (.func g) #[] lb] w fun e w' => e = .returned (.bool (ms.any pr)) ∧ Ext w w' := by
  have HF := Lib.hid hf
  have HE := Lib.hid eg
  clear hf eg
  go_enter Try.func60, Try.ntmps60
  go_wp2_with (go_at_call 75; (with_reducible refine (indexFunc_any g lb HE.out pr p ms c _ hs hl HF.out).mono ?_); rintro e w' ⟨rfl, hb⟩)
  go_ret
  exact ⟨ret_bool (idx_ge _ _), hb⟩

set_option maxHeartbeats 1000000 in
theorem index_any (x : Int) (p : Option Addr) (ms : List Int) (c : Nat) (w : World) (hs : Sl w p ms) (hl : ms.length ≤ 1000) :
    Calls Try.prog 73 #[.slice p ms.length c, .int .i64 x] w fun e w' => e = .returned (.int .i64 (idx (x == ·) ms)) ∧ w = w' := by
  go_enter Try.func73, Try.ntmps73
  go_wp2
  go_loop [5, 8] (fun _ i => ∃ k : Nat, k ≤ ms.length ∧ i = .int .i64 k ∧ (∀ j, j < k → ∀ (hj : j < ms.length), (x == ms[j]) = false)) (fun _ i => ms.length - (intOf i).toNat)
  case atStart => exact ⟨0, Nat.zero_le _, rfl, fun j hj => by omega⟩
  case round =>
    obtain ⟨k, hk, rfl, hno⟩ := hrel
    have HN := Lib.hid hno
    clear hno
    by_cases hlt : k < ms.length
    · obtain ⟨b, off, rfl, hb, hcell⟩ := hs k hlt
      have e1 : ms[k]?.getD 0 = ms[k] := by simp [hlt]
      rw [e1] at hcell
      generalize hy : ms[k] = y at hcell
      have HY := Lib.hid hy
      clear hy e1
      cases hp : (x == y)
      · go_wp2
        go_round
        case rel => exact ⟨k + 1, by omega, by go_num, fun j hj hj' => by
          rcases Nat.lt_or_ge j k with h | h
          · exact HN.out j h hj'
          · obtain rfl : j = k := by omega
            rw [HY.out, hp]⟩
        case measure => simp [intOf]; omega
      · go_wp2
        go_ret
        exact ⟨by rw [idx_some (x == ·) ms k hlt (fun j hj => HN.out j hj _) (by rw [HY.out, hp])]; rfl, rfl⟩
    · obtain rfl : k = ms.length := by omega
      go_wp2
      go_ret
      exact ⟨by rw [idx_none (x == ·) ms (fun j hj => HN.out j hj hj)]; rfl, rfl⟩

set_option maxHeartbeats 1000000 in
theorem contains_any (x : Int) (p : Option Addr) (ms : List Int) (c : Nat) (w : World) (hs : Sl w p ms) (hl : ms.length ≤ 1000) :
    Calls Try.prog 45 #[.slice p ms.length c, .int .i64 x] w fun e w' => e = .returned (.bool (ms.any (x == ·))) ∧ w = w' := by
  go_enter Try.func45, Try.ntmps45
  go_wp2_with (go_at_call 73; (with_reducible refine (index_any x p ms c _ hs hl).mono ?_); rintro e w' ⟨rfl, rfl⟩)
  go_ret
  exact ⟨ret_bool (idx_ge _ _), rfl⟩

end Go.Proofs.Ytlacidecomflkaa
