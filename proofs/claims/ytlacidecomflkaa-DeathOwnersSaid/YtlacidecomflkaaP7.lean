/- Slices of shifts that are read; Apply of both, Same. -/
import Derived.Test.YtlacidecomflkaaP5
import Derived.Test.YtlacidecomflkaaPL2
set_option linter.unusedSimpArgs false
set_option linter.unusedVariables false
namespace Go.Proofs.Ytlacidecomflkaa
open Go.RowKit

/-- The slice that begins at p reads as these shifts. -/
def SlS (w : World) (p : Option Addr) (xs : List Sh) : Prop := ∀ k, (h : k < xs.length) → ∃ b off, p = some ⟨b, off, none⟩ ∧ b < w.heap.size ∧ w.cell? ⟨b, off + k * 2, none⟩ = some (.int .i64 xs[k].b) ∧ w.cell? ⟨b, off + k * 2 + 1, none⟩ = some (.int .i64 xs[k].t)
theorem SlS.ext {w w' : World} {p : Option Addr} {xs : List Sh} (h : SlS w p xs) (e : Ext w w') : SlS w' p xs := fun k hk => by
  obtain ⟨b, off, hp, hb, h1, h2⟩ := h k hk
  exact ⟨b, off, hp, Nat.lt_of_lt_of_le hb e.size, (e.cell (p := ⟨b, _, none⟩) hb).trans h1, (e.cell (p := ⟨b, _, none⟩) hb).trans h2⟩
@[go_sem ↓ high] theorem eql_sh (a b c d : Int) (w : World) : (binOp .eql 45 (.agg #[.int .i64 a, .int .i64 b]) (.agg #[.int .i64 c, .int .i64 d])).run Try.prog w = .ok (.bool (a == c && b == d)) w := by
  go_simp
  by_cases h1 : a = c <;> by_cases h2 : b = d <;> simp [*]
@[go_sem ↓ high] theorem neq_sh (a b c d : Int) (w : World) : (binOp .neq 45 (.agg #[.int .i64 a, .int .i64 b]) (.agg #[.int .i64 c, .int .i64 d])).run Try.prog w = .ok (.bool (!(a == c && b == d))) w := by
  go_simp
  by_cases h1 : a = c <;> by_cases h2 : b = d <;> simp [*]
theorem apply_snoc (o : Nat → Int) (xs : List Sh) (s : Sh) : apply o (xs ++ [s]) = apply1 (apply o xs) s := by
  induction xs generalizing o with
  | nil => rfl
  | cons x r ih => simp only [List.cons_append, apply]; exact ih _
theorem apply_take (o : Nat → Int) (xs : List Sh) (k : Nat) (h : k < xs.length) : apply o (xs.take (k + 1)) = apply1 (apply o (xs.take k)) xs[k] := by
  rw [List.take_succ_eq_append_getElem h, apply_snoc]
/-- Are these the same shifts? -/
def sameP : List Sh → List Sh → Bool
  | [], [] => true
  | a :: r, b :: s => (a.b == b.b && a.t == b.t) && sameP r s
  | _, _ => false
theorem sameP_len : ∀ (a b : List Sh), a.length ≠ b.length → sameP a b = false
  | [], [], h => by simp at h
  | [], _ :: _, _ => rfl
  | _ :: _, [], _ => rfl
  | a :: r, b :: s, h => by simp only [sameP]; rw [sameP_len r s (by simpa using h)]; simp
theorem sameP_no : ∀ (a b : List Sh) (k : Nat) (h1 : k < a.length) (h2 : k < b.length), (a[k].b == b[k].b && a[k].t == b[k].t) = false → sameP a b = false
  | [], _, _, h, _, _ => by simp at h
  | _ :: _, [], _, _, h, _ => by simp at h
  | a :: r, b :: s, 0, _, _, h => by simp only [sameP]; simp only [List.getElem_cons_zero] at h; rw [h]; rfl
  | a :: r, b :: s, k + 1, h1, h2, h => by
    simp only [sameP]
    rw [sameP_no r s k (by simpa using h1) (by simpa using h2) (by simpa using h)]; simp
theorem sameP_yes : ∀ (a b : List Sh), a.length = b.length → (∀ k (h1 : k < a.length) (h2 : k < b.length), (a[k].b == b[k].b && a[k].t == b[k].t) = true) → sameP a b = true
  | [], [], _, _ => rfl
  | [], _ :: _, h, _ => by simp at h
  | _ :: _, [], h, _ => by simp at h
  | a :: r, b :: s, h, hk => by
    show ((a.b == b.b && a.t == b.t) && sameP r s) = true
    rw [show (a.b == b.b && a.t == b.t) = true from hk 0 (by simp) (by simp), sameP_yes r s (by simpa using h) fun k h1 h2 => hk (k + 1) (by simpa using h1) (by simpa using h2)]; rfl
theorem sameP_refl (a : List Sh) : sameP a a = true := sameP_yes a a rfl fun k _ _ => by simp

set_option maxRecDepth 20000 in
set_option maxHeartbeats 2000000 in
theorem same_any (p q : Option Addr) (xs ys : List Sh) (c d : Nat) (w : World) (h1 : SlS w p xs) (h2 : SlS w q ys) (l1 : xs.length ≤ 1000) (l2 : ys.length ≤ 1000) :
    Calls Try.prog 22 #[.slice p xs.length c, .slice q ys.length d] w fun e w' => e = .returned (.bool (sameP xs ys)) ∧ Ext w w' := by
  by_cases hl : xs.length = ys.length
  · have hbl : ((xs.length : Int) == ys.length) = true := by rw [beq_iff_eq]; omega
    have hbn : (xs.length == ys.length) = true := by rw [beq_iff_eq]; omega
    have HL := Lib.hid hl
    clear hl
    go_enter Try.func22, Try.ntmps22
    go_wp2
    go_loopw [5] (fun i wr => ∃ k : Nat, k ≤ xs.length ∧ i = .int .i64 k ∧ (∀ j, j < k → ∀ (a1 : j < xs.length) (a2 : j < ys.length), (xs[j].b == ys[j].b && xs[j].t == ys[j].t) = true) ∧ Ext w wr) (fun i _ => xs.length - (intOf i).toNat)
    case atStart => exact ⟨0, Nat.zero_le _, rfl, fun j hj => by omega, Ext.rf _⟩
    case round =>
      obtain ⟨k, hk, rfl, hall, hE⟩ := hrel
      have HA := Lib.hid hall
      clear hall
      have HLO := HL.out
      by_cases hlt : k < xs.length
      · have hlt2 : k < ys.length := by omega
        obtain ⟨b, off, rfl, hb, c1, c2⟩ := (h1.ext hE) k hlt
        obtain ⟨b', off', rfl, hb', c3, c4⟩ := (h2.ext hE) k hlt2
        have lb : Lt b wr := hb
        have lb' : Lt b' wr := hb'
        have i1 : (k : Int) < xs.length := by omega
        have i2 : (k : Int) < ys.length := by omega
        clear HLO
        generalize hx : xs[k] = x at c1 c2
        generalize hy : ys[k] = y at c3 c4
        have HX := Lib.hid hx
        have HY := Lib.hid hy
        clear hx hy
        cases heq : (x.b == y.b && x.t == y.t)
        · have hq : (x.b == y.b && x.t == y.t) = false := heq
          go_wp2
          refine wp_region_later (by kernel_rfl) (by kernel_rfl) ?_; (repeat (go_big_quiet_step (fail))); refine wpQuiet_nil ?_; intro d
          go_wp2
          go_ret
          exact ⟨ret_bool (by rw [sameP_no xs ys k hlt hlt2 (by rw [HX.out, HY.out, heq])]), hE.tr (later_ext d)⟩
        · have hq : (x.b == y.b && x.t == y.t) = true := heq
          go_wp2
          refine wp_region_later (by kernel_rfl) (by kernel_rfl) ?_; (repeat (go_big_quiet_step (fail))); refine wpQuiet_nil ?_; intro d
          go_wp2
          go_roundw
          case rel => exact ⟨k + 1, by omega, by go_num, fun j hj a1 a2 => by
            rcases Nat.lt_or_ge j k with h | h
            · exact HA.out j h a1 a2
            · obtain rfl : j = k := by omega
              rw [HX.out, HY.out, heq], hE.tr (later_ext d)⟩
          case measure => simp [intOf]; omega
      · obtain rfl : k = xs.length := by omega
        clear HLO
        go_wp2
        go_ret
        exact ⟨ret_bool (by rw [sameP_yes xs ys HL.out fun j a1 a2 => HA.out j a1 a1 a2]), hE⟩
  · have hbl : ((xs.length : Int) == ys.length) = false := by rw [beq_eq_false_iff_ne]; omega
    have hbn : (xs.length == ys.length) = false := by rw [beq_eq_false_iff_ne]; omega
    have HL := Lib.hid (sameP_len xs ys hl)
    clear hl
    go_enter Try.func22, Try.ntmps22
    go_wp2
    go_ret
    exact ⟨ret_bool HL.out.symm, Ext.rf _⟩

set_option maxRecDepth 20000 in
set_option maxHeartbeats 4000000 in
theorem apply_any (o : Nat → Int) (p : Option Addr) (xs : List Sh) (c : Nat) (w : World) (hs : SlS w p xs) (hlen : xs.length ≤ 1000) :
    Calls Try.prog 29 #[.agg (ov o), .slice p xs.length c] w fun e w' => e = .returned (.agg (ov (apply o xs))) ∧ Ext w w' := by
  go_enter Try.func29, Try.ntmps29
  go_wp2
  go_loopw [6, 9] (fun _ i wr => ∃ k : Nat, k ≤ xs.length ∧ i = .int .i64 k ∧ rowD wr w.heap.size = ov (apply o (xs.take k)) ∧ frzD wr w.heap.size = (0, 0) ∧ rowD wr (w.heap.size + 1) = ov (fun _ => 0) ∧ frzD wr (w.heap.size + 1) = (0, 0) ∧ Lt (w.heap.size + 1) wr ∧ Ext w wr) (fun _ i _ => xs.length - (intOf i).toNat)
  case atStart => exact ⟨0, Nat.zero_le _, rfl, by simp [go_sem, apply], by simp [go_sem], by simp [go_sem]; rfl, by simp [go_sem], by simp [Lt], by repeat (first | with_reducible exact Ext.rf _ | with_reducible assumption | with_reducible refine Ext.al ?_ _ | with_reducible refine Ext.dr ?_ | with_reducible refine Ext.dn ?_ _ | ((with_reducible refine Ext.st _ ?_ ?_); focus (first | omega | (simp; omega) | simp)) | ((with_reducible refine Ext.sr _ ?_ ?_); focus (first | omega | (simp; omega) | simp)) | with_reducible refine Ext.tr ?_ (by assumption) | with_reducible refine Ext.tr ?_ (up_ext (by assumption)) | with_reducible refine Ext.of (by assumption) ?_)⟩
  case round =>
    obtain ⟨k, hk, rfl, hR, hZ, hR1, hZ1, hL, hE⟩ := hrel
    have hL0 : Lt w.heap.size wr := by unfold Lt at hL ⊢; omega
    by_cases hlt : k < xs.length
    · have HS := Lib.hid (apply_take o xs k hlt)
      obtain ⟨b, off, rfl, hb, c1, c2⟩ := (hs.ext hE) k hlt
      have hns : ¬ w.heap.size = wr.heap.size := by unfold Lt at hL; omega
      have hns1 : ¬ w.heap.size + 1 = wr.heap.size := by unfold Lt at hL; omega
      have hbw : b < w.heap.size := by
        obtain ⟨b2, off2, e, h2, _⟩ := hs k hlt
        cases e; exact h2
      have lb : Lt b wr := hb
      have i1 : (k : Int) < xs.length := by omega
      have hnb : ¬ b = w.heap.size := by omega
      have hnb1 : ¬ w.heap.size = b := by omega
      have HR := Lib.hid hR
      clear hR
      generalize hx : xs[k] = x at c1 c2 HS
      obtain ⟨xb, xt⟩ := x
      dsimp only at c1 c2
      clear hx
      by_cases hin : 0 ≤ xb ∧ xb < 16
      · have HA := Lib.hid (show apply1 (apply o (xs.take k)) ⟨xb, xt⟩ = upd (apply o (xs.take k)) xb.toNat xt by unfold apply1; rw [if_pos hin])
        obtain ⟨h0, h16⟩ := hin
        have hcell := cell_row (i := xb.toNat) HR.out (by omega)
        have hfr := frozen_of_frz hZ xb.toNat
        go_wp2
        go_roundw
        case rel => exact ⟨k + 1, by omega, by go_num, by simp [go_sem, HR.out, hns]; rw [HS.out, HA.out], by simp [go_sem, hZ], by simp [go_sem, hR1, hns1], by simp [go_sem, hZ1], by simp [go_sem, hL], by repeat (first | with_reducible exact Ext.rf _ | with_reducible assumption | with_reducible refine Ext.al ?_ _ | with_reducible refine Ext.dr ?_ | with_reducible refine Ext.dn ?_ _ | ((with_reducible refine Ext.st _ ?_ ?_); focus (first | omega | (simp; omega) | simp)) | ((with_reducible refine Ext.sr _ ?_ ?_); focus (first | omega | (simp; omega) | simp)) | with_reducible refine Ext.tr ?_ (by assumption) | with_reducible refine Ext.tr ?_ (up_ext (by assumption)) | with_reducible refine Ext.of (by assumption) ?_)⟩
        case measure => simp [intOf]; omega
      · have HA := Lib.hid (show apply1 (apply o (xs.take k)) ⟨xb, xt⟩ = apply o (xs.take k) by unfold apply1; rw [if_neg hin])
        by_cases h0 : 0 ≤ xb
        · have h16 : 16 ≤ xb := by omega
          clear hin
          go_wp2
          go_roundw
          case rel => exact ⟨k + 1, by omega, by go_num, by simp [go_sem, HR.out, hns]; rw [HS.out, HA.out], by simp [go_sem, hZ], by simp [go_sem, hR1, hns1], by simp [go_sem, hZ1], by simp [go_sem, hL], by repeat (first | with_reducible exact Ext.rf _ | with_reducible assumption | with_reducible refine Ext.al ?_ _ | with_reducible refine Ext.dr ?_ | with_reducible refine Ext.dn ?_ _ | ((with_reducible refine Ext.st _ ?_ ?_); focus (first | omega | (simp; omega) | simp)) | ((with_reducible refine Ext.sr _ ?_ ?_); focus (first | omega | (simp; omega) | simp)) | with_reducible refine Ext.tr ?_ (by assumption) | with_reducible refine Ext.tr ?_ (up_ext (by assumption)) | with_reducible refine Ext.of (by assumption) ?_)⟩
          case measure => simp [intOf]; omega
        · have h0' : xb < 0 := by omega
          clear hin h0
          go_wp2
          go_roundw
          case rel => exact ⟨k + 1, by omega, by go_num, by simp [go_sem, HR.out, hns]; rw [HS.out, HA.out], by simp [go_sem, hZ], by simp [go_sem, hR1, hns1], by simp [go_sem, hZ1], by simp [go_sem, hL], by repeat (first | with_reducible exact Ext.rf _ | with_reducible assumption | with_reducible refine Ext.al ?_ _ | with_reducible refine Ext.dr ?_ | with_reducible refine Ext.dn ?_ _ | ((with_reducible refine Ext.st _ ?_ ?_); focus (first | omega | (simp; omega) | simp)) | ((with_reducible refine Ext.sr _ ?_ ?_); focus (first | omega | (simp; omega) | simp)) | with_reducible refine Ext.tr ?_ (by assumption) | with_reducible refine Ext.tr ?_ (up_ext (by assumption)) | with_reducible refine Ext.of (by assumption) ?_)⟩
          case measure => simp [intOf]; omega
    · obtain rfl : k = xs.length := by omega
      rw [List.take_length] at hR
      go_wp2
      refine bodyPost_ret (v := .agg (ov (apply o xs))) ?_ rfl ⟨rfl, ?_⟩
      · refine results_of rfl _ _ (w.heap.size + 1) rfl ?_
        rw [loadVar_own (by simp [go_sem, hR1])]; simp [go_sem, hR1]
      · exact Ext.sr _ (by simp) hE

set_option maxRecDepth 20000 in
set_option maxHeartbeats 4000000 in
theorem rapply_any (o : Nat → Int) (p : Option Addr) (xs : List Sh) (c : Nat) (w : World) (hs : SlS w p xs) (hlen : xs.length ≤ 1000) :
    Calls Try.prog 30 #[.agg (ov o), .slice p xs.length c] w fun e w' => e = .returned (.agg (ov (apply o xs))) ∧ Ext w w' := by
  go_enter Try.func30, Try.ntmps30
  go_wp2
  go_loopw [5] (fun i wr => ∃ k : Nat, k ≤ xs.length ∧ i = .int .i64 k ∧ rowD wr w.heap.size = ov (apply o (xs.take k)) ∧ frzD wr w.heap.size = (0, 0) ∧ rowD wr (w.heap.size + 1) = ov (fun _ => 0) ∧ frzD wr (w.heap.size + 1) = (0, 0) ∧ Lt (w.heap.size + 1) wr ∧ Ext w wr) (fun i _ => xs.length - (intOf i).toNat)
  case atStart => exact ⟨0, Nat.zero_le _, rfl, by simp [go_sem, apply], by simp [go_sem], by simp [go_sem]; rfl, by simp [go_sem], by simp [Lt], by repeat (first | with_reducible exact Ext.rf _ | with_reducible assumption | with_reducible refine Ext.al ?_ _ | with_reducible refine Ext.dr ?_ | with_reducible refine Ext.dn ?_ _ | ((with_reducible refine Ext.st _ ?_ ?_); focus (first | omega | (simp; omega) | simp)) | ((with_reducible refine Ext.sr _ ?_ ?_); focus (first | omega | (simp; omega) | simp)) | with_reducible refine Ext.tr ?_ (by assumption) | with_reducible refine Ext.tr ?_ (up_ext (by assumption)) | with_reducible refine Ext.of (by assumption) ?_)⟩
  case round =>
    obtain ⟨k, hk, rfl, hR, hZ, hR1, hZ1, hL, hE⟩ := hrel
    have hL0 : Lt w.heap.size wr := by unfold Lt at hL ⊢; omega
    by_cases hlt : k < xs.length
    · have HS := Lib.hid (apply_take o xs k hlt)
      obtain ⟨b, off, rfl, hb, c1, c2⟩ := (hs.ext hE) k hlt
      have hns : ¬ w.heap.size = wr.heap.size := by unfold Lt at hL; omega
      have hns1 : ¬ w.heap.size + 1 = wr.heap.size := by unfold Lt at hL; omega
      have hbw : b < w.heap.size := by
        obtain ⟨b2, off2, e, h2, _⟩ := hs k hlt
        cases e; exact h2
      have lb : Lt b wr := hb
      have i1 : (k : Int) < xs.length := by omega
      have hnb : ¬ b = w.heap.size := by omega
      have hnb1 : ¬ w.heap.size = b := by omega
      have HR := Lib.hid hR
      clear hR
      generalize hx : xs[k] = x at c1 c2 HS
      obtain ⟨xb, xt⟩ := x
      dsimp only at c1 c2
      clear hx
      by_cases hin : 0 ≤ xb ∧ xb < 16
      · have HA := Lib.hid (show apply1 (apply o (xs.take k)) ⟨xb, xt⟩ = upd (apply o (xs.take k)) xb.toNat xt by unfold apply1; rw [if_pos hin])
        obtain ⟨h0, h16⟩ := hin
        have hcell := cell_row (i := xb.toNat) HR.out (by omega)
        have hfr := frozen_of_frz hZ xb.toNat
        go_wp2
        go_region
        all_goals go_wp2
        all_goals
          go_roundw
          case rel => exact ⟨k + 1, by omega, by go_num, by simp [go_sem, HR.out, hns]; rw [HS.out, HA.out], by simp [go_sem, hZ], by simp [go_sem, hR1, hns1], by simp [go_sem, hZ1], by simp [go_sem, hL], by repeat (first | with_reducible exact Ext.rf _ | with_reducible assumption | with_reducible refine Ext.al ?_ _ | with_reducible refine Ext.dr ?_ | with_reducible refine Ext.dn ?_ _ | ((with_reducible refine Ext.st _ ?_ ?_); focus (first | omega | (simp; omega) | simp)) | ((with_reducible refine Ext.sr _ ?_ ?_); focus (first | omega | (simp; omega) | simp)) | with_reducible refine Ext.tr ?_ (by assumption) | with_reducible refine Ext.tr ?_ (up_ext (by assumption)) | with_reducible refine Ext.of (by assumption) ?_)⟩
          case measure => simp [intOf]; omega
      · have HA := Lib.hid (show apply1 (apply o (xs.take k)) ⟨xb, xt⟩ = apply o (xs.take k) by unfold apply1; rw [if_neg hin])
        by_cases h0 : 0 ≤ xb
        · have h16 : 16 ≤ xb := by omega
          clear hin
          go_wp2
          go_roundw
          case rel => exact ⟨k + 1, by omega, by go_num, by simp [go_sem, HR.out, hns]; rw [HS.out, HA.out], by simp [go_sem, hZ], by simp [go_sem, hR1, hns1], by simp [go_sem, hZ1], by simp [go_sem, hL], by repeat (first | with_reducible exact Ext.rf _ | with_reducible assumption | with_reducible refine Ext.al ?_ _ | with_reducible refine Ext.dr ?_ | with_reducible refine Ext.dn ?_ _ | ((with_reducible refine Ext.st _ ?_ ?_); focus (first | omega | (simp; omega) | simp)) | ((with_reducible refine Ext.sr _ ?_ ?_); focus (first | omega | (simp; omega) | simp)) | with_reducible refine Ext.tr ?_ (by assumption) | with_reducible refine Ext.tr ?_ (up_ext (by assumption)) | with_reducible refine Ext.of (by assumption) ?_)⟩
          case measure => simp [intOf]; omega
        · have h0' : xb < 0 := by omega
          clear hin h0
          go_wp2
          go_roundw
          case rel => exact ⟨k + 1, by omega, by go_num, by simp [go_sem, HR.out, hns]; rw [HS.out, HA.out], by simp [go_sem, hZ], by simp [go_sem, hR1, hns1], by simp [go_sem, hZ1], by simp [go_sem, hL], by repeat (first | with_reducible exact Ext.rf _ | with_reducible assumption | with_reducible refine Ext.al ?_ _ | with_reducible refine Ext.dr ?_ | with_reducible refine Ext.dn ?_ _ | ((with_reducible refine Ext.st _ ?_ ?_); focus (first | omega | (simp; omega) | simp)) | ((with_reducible refine Ext.sr _ ?_ ?_); focus (first | omega | (simp; omega) | simp)) | with_reducible refine Ext.tr ?_ (by assumption) | with_reducible refine Ext.tr ?_ (up_ext (by assumption)) | with_reducible refine Ext.of (by assumption) ?_)⟩
          case measure => simp [intOf]; omega
    · obtain rfl : k = xs.length := by omega
      rw [List.take_length] at hR
      go_wp2
      refine bodyPost_ret (v := .agg (ov (apply o xs))) ?_ rfl ⟨rfl, ?_⟩
      · refine results_of rfl _ _ (w.heap.size + 1) rfl ?_
        rw [loadVar_own (by simp [go_sem, hR1])]; simp [go_sem, hR1]
      · exact Ext.sr _ (by simp) hE

end Go.Proofs.Ytlacidecomflkaa
