/- Slices of connections and of holders: IndexFunc, ContainsFunc. -/
import Derived.Test.YtookffaojlkfaaaC2
set_option linter.unusedSimpArgs false
set_option linter.unusedVariables false
namespace Go.Proofs.Ytookffaojlkfaaa
open Go.RowKit
/-- The place of the first that is so, or -1. -/
def idx {α : Type} (pr : α → Bool) (ms : List α) : Int := if ms.any pr then ms.findIdx pr else -1
theorem idx_none {α : Type} (pr : α → Bool) (ms : List α) (h : ∀ k (hk : k < ms.length), pr ms[k] = false) : idx pr ms = -1 := by
  unfold idx
  rw [if_neg]
  intro hh
  obtain ⟨x, hx, hp⟩ := List.any_eq_true.1 hh
  obtain ⟨k, hk, rfl⟩ := List.mem_iff_getElem.1 hx
  rw [h k hk] at hp; cases hp
theorem idx_some {α : Type} (pr : α → Bool) (ms : List α) (k : Nat) (hk : k < ms.length) (h : ∀ j (hj : j < k), pr (ms[j]'(by omega)) = false) (hp : pr ms[k] = true) : idx pr ms = k := by
  unfold idx
  rw [if_pos (List.any_eq_true.2 ⟨ms[k], List.getElem_mem hk, hp⟩)]
  congr 1
  rw [List.findIdx_eq hk]
  exact ⟨hp, fun j hj => by simpa using h j hj⟩
theorem idx_ge {α : Type} (pr : α → Bool) (ms : List α) : decide (0 ≤ idx pr ms) = ms.any pr := by
  unfold idx
  cases h : ms.any pr <;> simp


structure Co where
  t : Tu
  s : Int
  l : Int
  deriving DecidableEq
abbrev Co.v (x : Co) : Value := .agg #[.int .u32 x.t.a, .int .u32 x.t.b, .int .u16 x.t.c, .int .u16 x.t.d, .int .i64 x.s, .int .i64 x.l]
/-- A slice reads as a list. -/
def SlC (w : World) (p : Option Addr) (xs : List Co) : Prop := ∀ k, (h : k < xs.length) → ∃ b off, p = some ⟨b, off, none⟩ ∧ b < w.heap.size ∧ w.cell? ⟨b, off + k * 6, none⟩ = some (.int .u32 xs[k].t.a) ∧ w.cell? ⟨b, off + k * 6 + 1, none⟩ = some (.int .u32 xs[k].t.b) ∧ w.cell? ⟨b, off + k * 6 + 2, none⟩ = some (.int .u16 xs[k].t.c) ∧ w.cell? ⟨b, off + k * 6 + 3, none⟩ = some (.int .u16 xs[k].t.d) ∧ w.cell? ⟨b, off + k * 6 + 4, none⟩ = some (.int .i64 xs[k].s) ∧ w.cell? ⟨b, off + k * 6 + 5, none⟩ = some (.int .i64 xs[k].l)
theorem SlC.ext {w w' : World} {p : Option Addr} {xs : List Co} (h : SlC w p xs) (e : Ext w w') : SlC w' p xs := fun k hk => by
  obtain ⟨b, off, hp, hb, c0, c1, c2, c3, c4, c5⟩ := h k hk
  exact ⟨b, off, hp, Nat.lt_of_lt_of_le hb e.size, (e.cell (p := ⟨b, off + k * 6, none⟩) hb).trans c0, (e.cell (p := ⟨b, off + k * 6 + 1, none⟩) hb).trans c1, (e.cell (p := ⟨b, off + k * 6 + 2, none⟩) hb).trans c2, (e.cell (p := ⟨b, off + k * 6 + 3, none⟩) hb).trans c3, (e.cell (p := ⟨b, off + k * 6 + 4, none⟩) hb).trans c4, (e.cell (p := ⟨b, off + k * 6 + 5, none⟩) hb).trans c5⟩
theorem SlC.nil (w : World) (p : Option Addr) : SlC w p [] := fun k hk => by simp at hk
set_option maxHeartbeats 1000000 in
theorem indexFunc_C (g : Nat) (lb : Array Value) (eg : ∀ args w, (callFunc g args).run Try.prog w = .ok (.enter g args) w) (pr : Co → Bool) (p : Option Addr) (xs : List Co) (c : Nat) (w : World)
    (hs : SlC w p xs) (hl : xs.length ≤ 1000) (hf : ∀ x W, x ∈ xs → Ext w W → Calls Try.prog g (#[.agg #[.int .u32 x.t.a, .int .u32 x.t.b, .int .u16 x.t.c, .int .u16 x.t.d, .int .i64 x.s, .int .i64 x.l]] ++ lb) W fun e w' => e = .returned (.bool (pr x)) ∧ Ext W w') :
    Calls Try.prog 61 #[.slice p xs.length c, .func (.func g) #[] lb] w fun e w' => e = .returned (.int .i64 (idx pr xs)) ∧ Ext w w' := by
  have HF := Lib.hid hf
  clear hf
  go_enter Try.func61, Try.ntmps61
  go_wp2
  go_loopw [5, 8] (fun _ i wr => ∃ k : Nat, k ≤ xs.length ∧ i = .int .i64 k ∧ (∀ j, j < k → ∀ (hj : j < xs.length), pr xs[j] = false) ∧ Ext w wr) (fun _ i _ => xs.length - (intOf i).toNat)
  case atStart => exact ⟨0, Nat.zero_le _, rfl, fun j hj => by omega, Ext.rf _⟩
  case round =>
    obtain ⟨k, hk, rfl, hno, hE⟩ := hrel
    have HN := Lib.hid hno
    clear hno
    by_cases hlt : k < xs.length
    · have hil : (k : Int) < xs.length := by omega
      obtain ⟨b, off, rfl, hb, c0, c1, c2, c3, c4, c5⟩ := (hs.ext hE) k hlt
      have lbb : Lt b wr := hb
      have HC := HF.out xs[k] wr (List.getElem_mem hlt) hE
      obtain ⟨x, hx⟩ : ∃ x, xs[k] = x := ⟨_, rfl⟩
      rw [hx] at c0 c1 c2 c3 c4 c5 HC
      have HX := Lib.hid hx
      clear hx
      cases hp : pr x
      · rw [hp] at HC
        have HP := Lib.hid hp
        clear hp
        have HCC := Lib.hid HC
        clear HC
        go_wp2_with ((with_reducible refine (HCC.out).mono ?_); rintro e w' ⟨rfl, hb'⟩)
        go_roundw
        case rel => exact ⟨k + 1, by omega, by go_num, fun j hj hj' => by
          rcases Nat.lt_or_ge j k with h | h
          · exact HN.out j h hj'
          · obtain rfl : j = k := by omega
            rw [HX.out, HP.out], hE.tr hb'⟩
        case measure => simp [intOf]; omega
      · rw [hp] at HC
        have HP := Lib.hid hp
        clear hp
        have HCC := Lib.hid HC
        clear HC
        go_wp2_with ((with_reducible refine (HCC.out).mono ?_); rintro e w' ⟨rfl, hb'⟩)
        go_ret
        exact ⟨by rw [idx_some pr xs k hlt (fun j hj => HN.out j hj _) (by rw [HX.out, HP.out])]; rfl, hE.tr hb'⟩
    · obtain rfl : k = xs.length := by omega
      go_wp2
      go_ret
      exact ⟨by rw [idx_none pr xs (fun j hj => HN.out j hj hj)]; rfl, hE⟩
set_option maxHeartbeats 1000000 in
theorem containsFunc_C (g : Nat) (lb : Array Value) (eg : ∀ args w, (callFunc g args).run Try.prog w = .ok (.enter g args) w) (pr : Co → Bool) (p : Option Addr) (xs : List Co) (c : Nat) (w : World)
    (hs : SlC w p xs) (hl : xs.length ≤ 1000) (hf : ∀ x W, x ∈ xs → Ext w W → Calls Try.prog g (#[.agg #[.int .u32 x.t.a, .int .u32 x.t.b, .int .u16 x.t.c, .int .u16 x.t.d, .int .i64 x.s, .int .i64 x.l]] ++ lb) W fun e w' => e = .returned (.bool (pr x)) ∧ Ext W w') :
    Calls Try.prog 66 #[.slice p xs.length c, .func (.func g) #[] lb] w fun e w' => e = .returned (.bool (xs.any pr)) ∧ Ext w w' := by
  have HF := Lib.hid hf
  have HE := Lib.hid eg
  clear hf eg
  go_enter Try.func66, Try.ntmps66
  go_wp2_with (go_at_call 61; (with_reducible refine (indexFunc_C g lb HE.out pr p xs c _ hs hl HF.out).mono ?_); rintro e w' ⟨rfl, hb⟩)
  go_ret
  exact ⟨ret_bool (idx_ge _ _), hb⟩

structure Ho where
  t : Tu
  n : Int
  deriving DecidableEq
abbrev Ho.v (x : Ho) : Value := .agg #[.int .u32 x.t.a, .int .u32 x.t.b, .int .u16 x.t.c, .int .u16 x.t.d, .int .i64 x.n]
/-- A slice reads as a list. -/
def SlH (w : World) (p : Option Addr) (xs : List Ho) : Prop := ∀ k, (h : k < xs.length) → ∃ b off, p = some ⟨b, off, none⟩ ∧ b < w.heap.size ∧ w.cell? ⟨b, off + k * 5, none⟩ = some (.int .u32 xs[k].t.a) ∧ w.cell? ⟨b, off + k * 5 + 1, none⟩ = some (.int .u32 xs[k].t.b) ∧ w.cell? ⟨b, off + k * 5 + 2, none⟩ = some (.int .u16 xs[k].t.c) ∧ w.cell? ⟨b, off + k * 5 + 3, none⟩ = some (.int .u16 xs[k].t.d) ∧ w.cell? ⟨b, off + k * 5 + 4, none⟩ = some (.int .i64 xs[k].n)
theorem SlH.ext {w w' : World} {p : Option Addr} {xs : List Ho} (h : SlH w p xs) (e : Ext w w') : SlH w' p xs := fun k hk => by
  obtain ⟨b, off, hp, hb, c0, c1, c2, c3, c4⟩ := h k hk
  exact ⟨b, off, hp, Nat.lt_of_lt_of_le hb e.size, (e.cell (p := ⟨b, off + k * 5, none⟩) hb).trans c0, (e.cell (p := ⟨b, off + k * 5 + 1, none⟩) hb).trans c1, (e.cell (p := ⟨b, off + k * 5 + 2, none⟩) hb).trans c2, (e.cell (p := ⟨b, off + k * 5 + 3, none⟩) hb).trans c3, (e.cell (p := ⟨b, off + k * 5 + 4, none⟩) hb).trans c4⟩
theorem SlH.nil (w : World) (p : Option Addr) : SlH w p [] := fun k hk => by simp at hk
set_option maxHeartbeats 1000000 in
theorem indexFunc_H (g : Nat) (lb : Array Value) (eg : ∀ args w, (callFunc g args).run Try.prog w = .ok (.enter g args) w) (pr : Ho → Bool) (p : Option Addr) (xs : List Ho) (c : Nat) (w : World)
    (hs : SlH w p xs) (hl : xs.length ≤ 1000) (hf : ∀ x W, x ∈ xs → Ext w W → Calls Try.prog g (#[.agg #[.int .u32 x.t.a, .int .u32 x.t.b, .int .u16 x.t.c, .int .u16 x.t.d, .int .i64 x.n]] ++ lb) W fun e w' => e = .returned (.bool (pr x)) ∧ Ext W w') :
    Calls Try.prog 106 #[.slice p xs.length c, .func (.func g) #[] lb] w fun e w' => e = .returned (.int .i64 (idx pr xs)) ∧ Ext w w' := by
  have HF := Lib.hid hf
  clear hf
  go_enter Try.func106, Try.ntmps106
  go_wp2
  go_loopw [5, 8] (fun _ i wr => ∃ k : Nat, k ≤ xs.length ∧ i = .int .i64 k ∧ (∀ j, j < k → ∀ (hj : j < xs.length), pr xs[j] = false) ∧ Ext w wr) (fun _ i _ => xs.length - (intOf i).toNat)
  case atStart => exact ⟨0, Nat.zero_le _, rfl, fun j hj => by omega, Ext.rf _⟩
  case round =>
    obtain ⟨k, hk, rfl, hno, hE⟩ := hrel
    have HN := Lib.hid hno
    clear hno
    by_cases hlt : k < xs.length
    · have hil : (k : Int) < xs.length := by omega
      obtain ⟨b, off, rfl, hb, c0, c1, c2, c3, c4⟩ := (hs.ext hE) k hlt
      have lbb : Lt b wr := hb
      have HC := HF.out xs[k] wr (List.getElem_mem hlt) hE
      obtain ⟨x, hx⟩ : ∃ x, xs[k] = x := ⟨_, rfl⟩
      rw [hx] at c0 c1 c2 c3 c4 HC
      have HX := Lib.hid hx
      clear hx
      cases hp : pr x
      · rw [hp] at HC
        have HP := Lib.hid hp
        clear hp
        have HCC := Lib.hid HC
        clear HC
        go_wp2_with ((with_reducible refine (HCC.out).mono ?_); rintro e w' ⟨rfl, hb'⟩)
        go_roundw
        case rel => exact ⟨k + 1, by omega, by go_num, fun j hj hj' => by
          rcases Nat.lt_or_ge j k with h | h
          · exact HN.out j h hj'
          · obtain rfl : j = k := by omega
            rw [HX.out, HP.out], hE.tr hb'⟩
        case measure => simp [intOf]; omega
      · rw [hp] at HC
        have HP := Lib.hid hp
        clear hp
        have HCC := Lib.hid HC
        clear HC
        go_wp2_with ((with_reducible refine (HCC.out).mono ?_); rintro e w' ⟨rfl, hb'⟩)
        go_ret
        exact ⟨by rw [idx_some pr xs k hlt (fun j hj => HN.out j hj _) (by rw [HX.out, HP.out])]; rfl, hE.tr hb'⟩
    · obtain rfl : k = xs.length := by omega
      go_wp2
      go_ret
      exact ⟨by rw [idx_none pr xs (fun j hj => HN.out j hj hj)]; rfl, hE⟩
set_option maxHeartbeats 1000000 in
theorem containsFunc_H (g : Nat) (lb : Array Value) (eg : ∀ args w, (callFunc g args).run Try.prog w = .ok (.enter g args) w) (pr : Ho → Bool) (p : Option Addr) (xs : List Ho) (c : Nat) (w : World)
    (hs : SlH w p xs) (hl : xs.length ≤ 1000) (hf : ∀ x W, x ∈ xs → Ext w W → Calls Try.prog g (#[.agg #[.int .u32 x.t.a, .int .u32 x.t.b, .int .u16 x.t.c, .int .u16 x.t.d, .int .i64 x.n]] ++ lb) W fun e w' => e = .returned (.bool (pr x)) ∧ Ext W w') :
    Calls Try.prog 79 #[.slice p xs.length c, .func (.func g) #[] lb] w fun e w' => e = .returned (.bool (xs.any pr)) ∧ Ext w w' := by
  have HF := Lib.hid hf
  have HE := Lib.hid eg
  clear hf eg
  go_enter Try.func79, Try.ntmps79
  go_wp2_with (go_at_call 106; (with_reducible refine (indexFunc_H g lb HE.out pr p xs c _ hs hl HF.out).mono ?_); rintro e w' ⟨rfl, hb⟩)
  go_ret
  exact ⟨ret_bool (idx_ge _ _), hb⟩

end Go.Proofs.Ytookffaojlkfaaa
