/- The reference's Right; spreads and picks. -/
import Derived.Test.YtlacidecomflkaaP3
set_option linter.unusedSimpArgs false
set_option linter.unusedVariables false
namespace Go.Proofs.Ytlacidecomflkaa
open Go.RowKit

theorem ownB_bad (o : Nat → Int) (k n : Nat) (hk : k < n) (h : (o k == -1 || backB (o k)) = false) : ownB o n = false := by
  induction n with
  | zero => omega
  | succ n ih =>
    unfold ownB
    by_cases e : k = n
    · subst e; rw [h]; simp
    · rw [ih (by omega)]; rfl
theorem ownB_good (o : Nat → Int) (n : Nat) (h : ∀ k, k < n → (o k == -1 || backB (o k)) = true) : ownB o n = true := by
  induction n with
  | zero => rfl
  | succ n ih => unfold ownB; rw [ih (fun k hk => h k (by omega)), h n (by omega)]; rfl
theorem own_low (x : Int) (h : x < -1) : (x == -1 || backB x) = false := by
  unfold backB; simp; constructor <;> omega
theorem own_high (x : Int) (h : 6 ≤ x) : (x == -1 || backB x) = false := by
  unfold backB; simp; constructor <;> omega
theorem own_mid (x : Int) (h1 : -1 ≤ x) (h2 : x < 6) : (x == -1 || backB x) = true := by
  unfold backB; simp; omega
/-- Is the k-th greater than the one ahead of it? -/
def prevI (ms : List Int) (k : Nat) : Int := if k = 0 then -1 else ms[k - 1]?.getD 0

set_option maxRecDepth 20000 in
set_option maxHeartbeats 4000000 in
theorem rright_any (o : Nat → Int) (p : Option Addr) (ms : List Int) (c : Nat) (w : World) (hs : Sl w p ms) (hlen : ms.length ≤ 1000) :
    Calls Try.prog 24 #[.agg (ov o), .slice p ms.length c] w fun e w' => e = .returned (.bool (rightP o ms)) ∧ Ext w w' := by
  have hE0 : Ext w (w.alloc (.cells (ov o) 22)) := Ext.al (Ext.rf _) _
  go_enter Try.func24, Try.ntmps24
  go_wp2
  go_loop [5] (fun i => ∃ k : Nat, k ≤ 16 ∧ i = .int .i64 k ∧ (∀ j, j < k → (o j == -1 || backB (o j)) = true)) (fun i => 16 - (intOf i).toNat)
  case atStart => exact ⟨0, by omega, rfl, fun j hj => by omega⟩
  case round =>
    obtain ⟨k, hk, rfl, hno⟩ := hrel
    have HN := Lib.hid hno
    clear hno
    have hk16 : (k : Int) ≤ 16 := by omega
    by_cases hlt : k < 16
    · have hlt' : (k : Int) < 16 := by omega
      by_cases h1 : o k < -1
      · have HB := Lib.hid (ownB_bad o k 16 hlt (own_low _ h1))
        go_wp2
        go_ret
        exact ⟨ret_bool (by unfold rightP; rw [HB.out]; rfl), hE0⟩
      by_cases h2 : 6 ≤ o k
      · have HB := Lib.hid (ownB_bad o k 16 hlt (own_high _ h2))
        go_wp2
        go_ret
        exact ⟨ret_bool (by unfold rightP; rw [HB.out]; rfl), hE0⟩
      · have HB := Lib.hid (own_mid _ (show -1 ≤ o k by omega) (show o k < 6 by omega))
        have h2' : o k < 6 := by omega
        have h1' : -1 ≤ o k := by omega
        go_wp2
        go_round
        case rel => exact ⟨k + 1, by omega, by go_num, fun j hj => by
          rcases Nat.lt_or_ge j k with h | h
          · exact HN.out j h
          · obtain rfl : j = k := by omega
            exact HB.out⟩
        case measure => simp [intOf]; omega
    · obtain rfl : k = 16 := by omega
      have HO := Lib.hid (ownB_good o 16 HN.out)
      have HR := Lib.hid (show rightP o ms = risesB (-1) ms by unfold rightP; rw [HO.out]; rfl)
      go_wp2
      obtain ⟨W0, hW0⟩ : ∃ W0 : World, W0 = w.alloc (.cells (ov o) 22) := ⟨_, rfl⟩
      rw [← hW0] at hE0 ⊢
      clear hW0
      have hs0 := hs.ext hE0
      go_loopw [6] (fun i wr => ∃ k : Nat, k ≤ ms.length ∧ i = .int .i64 k ∧ risesB (-1) ms = risesB (prevI ms k) (ms.drop k) ∧ (∀ j, 0 < j → j ≤ k → backB (prevI ms j) = true) ∧ Ext W0 wr) (fun i _ => ms.length - (intOf i).toNat)
      case atStart => exact ⟨0, Nat.zero_le _, rfl, by simp [prevI], fun j h1 h2 => by omega, Ext.rf _⟩
      case round =>
        obtain ⟨k, hk, rfl, hr, hb, hE⟩ := hrel
        by_cases hlt : k < ms.length
        · have hsr := hs0.ext hE
          obtain ⟨b, off, rfl, hbl, hcell⟩ := hsr k hlt
          have hLb : Lt b wr := hbl
          rw [rises_drop _ ms k hlt] at hr
          have hnext : prevI ms (k + 1) = ms[k]?.getD 0 := by unfold prevI; rw [if_neg (by omega)]; rfl
          have hkl : (k : Int) < ms.length := by omega
          have HH := Lib.hid hr
          have HB := Lib.hid hb
          clear hr hb
          generalize hm : ms[k]?.getD 0 = m at hcell HH hnext
          have HX := Lib.hid hnext
          clear hnext hm
          by_cases h1 : m < 0
          · have HF := Lib.hid (show backB m = false by unfold backB; simp; omega)
            go_wp2
            refine wp_region_later (by kernel_rfl) (by kernel_rfl) ?_; (repeat (go_big_quiet_step (fail))); refine wpQuiet_nil ?_; intro d
            go_wp2
            go_ret
            exact ⟨ret_bool (by rw [HR.out, HH.out, HF.out]; simp), (hE0.tr hE).tr (later_ext d)⟩
          by_cases h2 : 6 ≤ m
          · have HF := Lib.hid (show backB m = false by unfold backB; simp; omega)
            have h1' : 0 ≤ m := by omega
            have d1 : decide (m < 0) = false := decide_eq_false (by omega)
            have d2 : decide (6 ≤ m) = true := decide_eq_true (by omega)
            go_wp2
            refine wp_region_later (by kernel_rfl) (by kernel_rfl) ?_; (repeat (go_big_quiet_step (fail))); refine wpQuiet_nil ?_; intro d
            go_wp2
            go_ret
            exact ⟨ret_bool (by rw [HR.out, HH.out, HF.out]; simp), (hE0.tr hE).tr (later_ext d)⟩
          have h1' : 0 ≤ m := by omega
          have h2' : m < 6 := by omega
          have d1 : decide (m < 0) = false := decide_eq_false (by omega)
          have d2 : decide (6 ≤ m) = false := decide_eq_false (by omega)
          have HT := Lib.hid (show backB m = true by unfold backB; simp; omega)
          have hbn : ∀ j, 0 < j → j ≤ k + 1 → backB (prevI ms j) = true := fun j j1 j2 => by
            rcases Nat.lt_or_ge k j with h | h
            · obtain rfl : j = k + 1 := by omega
              rw [HX.out]; exact HT.out
            · exact HB.out j j1 (by omega)
          have HBN := Lib.hid hbn
          clear hbn h1 h2
          by_cases h0 : k = 0
          · subst h0
            rw [Nat.add_zero] at hcell
            have hl0 : (0 : Int) < ms.length := by omega
            have HG := Lib.hid (show decide (prevI ms 0 < m) = true by unfold prevI; rw [if_pos rfl]; simp; omega)
            go_wp2
            refine wp_region_later (by kernel_rfl) (by kernel_rfl) ?_; (repeat (go_big_quiet_step (fail))); refine wpQuiet_nil ?_; intro d
            go_wp2
            go_roundw
            case rel => exact ⟨0 + 1, by omega, by go_num, by rw [HH.out, HG.out, HT.out, HX.out]; simp, HBN.out, hE.tr (later_ext d)⟩
            case measure => simp [intOf]; omega
          · have hk0 : (0 : Int) < k := by omega
            obtain ⟨b', off', hb', hbl', hcell'⟩ := hsr (k - 1) (by omega)
            cases hb'
            have hp : prevI ms k = ms[k-1]?.getD 0 := by unfold prevI; rw [if_neg h0]
            have HBK := HB.out k (by omega) (Nat.le_refl _)
            rw [← hp] at hcell'
            clear hp
            generalize prevI ms k = x at *
            have HBX := Lib.hid HBK
            clear HBK h0
            obtain ⟨j, rfl⟩ : ∃ j, k = j + 1 := ⟨k - 1, by omega⟩
            rw [show j + 1 - 1 = j by omega] at hcell'
            have hj1 : (0 : Int) ≤ j := by omega
            have hj2 : (j : Int) < ms.length := by omega
            have hj3 : (j : Int) + 1 < ms.length := by omega
            have d3 : decide ((0 : Int) < (j : Int) + 1) = true := decide_eq_true (by omega)
            by_cases hxm : x < m
            · have d4 : decide (m ≤ x) = false := decide_eq_false (by omega)
              go_wp2
              refine wp_region_later (by kernel_rfl) (by kernel_rfl) ?_; (repeat (go_big_quiet_step (fail))); refine wpQuiet_nil ?_; intro d
              go_wp2
              go_roundw
              case rel => exact ⟨j + 1 + 1, by omega, by go_num, by rw [HH.out, HT.out, HX.out]; simp [show x < m by omega], HBN.out, hE.tr (later_ext d)⟩
              case measure => simp [intOf]; omega
            · have d4 : decide (m ≤ x) = true := decide_eq_true (by omega)
              have hxm' : m ≤ x := by omega
              clear hxm
              go_wp2
              refine wp_region_later (by kernel_rfl) (by kernel_rfl) ?_; (repeat (go_big_quiet_step (fail))); refine wpQuiet_nil ?_; intro d
              go_wp2
              go_ret
              exact ⟨ret_bool (by rw [HR.out, HH.out]; simp [show ¬ x < m by omega]), (hE0.tr hE).tr (later_ext d)⟩
        · obtain rfl : k = ms.length := by omega
          have HH := Lib.hid hr
          clear hr
          have HB := Lib.hid hb
          clear hb
          go_wp2
          go_ret
          exact ⟨ret_bool (by rw [HR.out, HH.out]; simp [risesB]), hE0.tr hE⟩

end Go.Proofs.Ytlacidecomflkaa
