/- The document's Find. -/
import Derived.Test.YtookffaojlkfaaaJ2
set_option linter.unusedSimpArgs false
set_option linter.unusedVariables false
namespace Go.Proofs.Ytookffaojlkfaaa
open Go.RowKit

def belowT (xs : List Co) (t : Tu) (k : Nat) : Prop := ∀ j, j < k → ∀ x, xs[j]? = some x → geT t x = false
theorem at_of {xs : List Co} {t : Tu} {k : Nat} {x : Co} (hx : xs[k]? = some x) (h : belowT xs t k) (hg : geT t x = true) : atC xs t = k := by
  unfold atC
  have hk : k < xs.length := (List.getElem?_eq_some_iff.1 hx).1
  refine (List.findIdx_eq hk).2 ⟨?_, fun j hj => ?_⟩
  · rw [List.getElem?_eq_getElem hk] at hx; cases hx; exact hg
  · exact h j hj _ (List.getElem?_eq_getElem (by omega))
theorem at_end {xs : List Co} {t : Tu} {k : Nat} (hk : ¬ k < xs.length) (h : belowT xs t k) : atC xs t = xs.length ∧ okC xs t = false := by
  have e : atC xs t = xs.length := by
    unfold atC
    refine List.findIdx_eq_length.2 fun x hx => ?_
    obtain ⟨j, hj, hjx⟩ := List.getElem_of_mem hx
    exact h j (by omega) x (by rw [List.getElem?_eq_getElem hj, hjx])
  exact ⟨e, by unfold okC; rw [e]; simp⟩
theorem eql_T {x y : Tu} (ρ : Operand → Value) (dst : Option Tmp) (p q : Operand) (ty : TypeId) (pos : String) (after : Array Edge) (g : Option (Nat × Bool)) (hx : ρ p = tu x.a x.b x.c x.d) (hy : ρ q = tu y.a y.b y.c y.d) (w : World) :
    (execOp ρ ⟨dst, .binOp .eql 26 p q 26, ty, pos, after, g⟩).run Try.prog w = .ok (.value (.bool (eqT x y))) w := by
  simp only [execOp, hx, hy]
  go_simp
  try (unfold eqT; repeat' split)
  all_goals simp_all
set_option maxRecDepth 100000 in
set_option maxHeartbeats 8000000 in
theorem rfind_any (t : Tu) (p : Option Addr) (xs : List Co) (c : Nat) (w : World) (hs : SlC w p xs) (hl : xs.length ≤ 1000) (hr : ∀ x ∈ xs, TuR x.t) (hrt : TuR t) :
    Calls Try.prog 25 #[.slice p xs.length c, tu t.a t.b t.c t.d] w fun e w' => e = .returned (.tuple #[.int .i64 (atC xs t), .bool (okC xs t)]) ∧ Ext w w' := by
  have HRR := Lib.hid hr
  have HRT := Lib.hid hrt
  clear hr hrt
  go_enter Try.func25, Try.ntmps25
  go_upto_region 1 with (fail)
  obtain ⟨W0, hW⟩ : ∃ W0, w.alloc (.cells #[.int .u32 t.a, .int .u32 t.b, .int .u16 t.c, .int .u16 t.d] 26) = W0 := ⟨_, rfl⟩
  have e0 : Ext w W0 := by rw [← hW]; exact Ext.al (Ext.rf _) _
  have s0 := hs.ext e0
  have ht : TuAt W0 w.heap.size t := by rw [← hW]; unfold TuAt; simp [go_sem, Lt]
  rw [hW]
  clear hW hs
  generalize w.heap.size = B at *
  go_wp2
  go_loopw [6] (fun a wr => ∃ k : Nat, k ≤ xs.length ∧ a = .int .i64 k ∧ belowT xs t k ∧ Ext W0 wr) (fun a _ => xs.length - (intOf a).toNat)
  case atStart => exact ⟨0, Nat.zero_le _, rfl, (fun j hj => absurd hj (Nat.not_lt_zero _)), Ext.rf _⟩
  case round =>
    obtain ⟨k, hk, rfl, hG, hE0⟩ := hrel
    have hE := e0.tr hE0
    have hT := ht.ext hE0
    obtain ⟨d0, d1, d2, d3⟩ := hT.cells
    have lB : Lt B wr := hT.2
    have hE0' := Lib.hid hE0
    clear hT
    by_cases hlt : k < xs.length
    · have hil : (k : Int) < xs.length := by omega
      obtain ⟨b, off, rfl, lb, c0, c1, c2, c3, c4, c5⟩ := (s0.ext hE0) k hlt
      obtain ⟨x, hx⟩ : ∃ x, xs[k] = x := ⟨_, rfl⟩
      have hx' : xs[k]? = some x := by rw [List.getElem?_eq_getElem hlt, hx]
      have HX := Lib.hid (HRR.out x (by rw [← hx]; exact List.getElem_mem hlt))
      rw [hx] at c0 c1 c2 c3 c4 c5
      have lbb : Lt b wr := lb
      by_cases hg : cmpT x.t t < 0
      · have hgd : decide (cmpT x.t t < 0) = true := decide_eq_true hg
        have HN := Lib.hid (show belowT xs t (k + 1) by
          intro j hj y hy
          by_cases hjk : j < k
          · exact hG j hjk y hy
          · obtain rfl : j = k := by omega
            rw [hx'] at hy; cases hy
            unfold geT
            exact decide_eq_false (by omega))
        clear hG hx hx' lb hE0 hg
        go_upto_region 2 with (fail)
        refine wp_region_later (by kernel_rfl) (by kernel_rfl) ?_; (repeat (go_big_quiet_step ((go_at_call 64; exact calls_later (rcmp_any _ _ HX.out HRT.out _))))); refine wpQuiet_nil ?_; intro d
        have hd := later_ext d
        go_wp2
        go_roundw
        case rel => exact ⟨k + 1, by omega, by go_num, HN.out, hE0'.out.tr hd⟩
        case measure => simp [intOf]; omega
      · have hgd : decide (cmpT x.t t < 0) = false := decide_eq_false hg
        have hat := at_of hx' hG (by unfold geT; exact decide_eq_true (by omega))
        have HR := Lib.hid (show (Value.tuple #[.int .i64 (atC xs t), .bool (okC xs t)]) = .tuple #[.int .i64 k, .bool (eqT x.t t)] by
          unfold okC; rw [hat, hx'])
        have HTA := Lib.hid ht
        clear hG hx hx' lb hE0 hg hat ht
        go_upto_region 2 with (fail)
        refine wp_region_later (by kernel_rfl) (by kernel_rfl) ?_; (repeat (go_big_quiet_step ((go_at_call 64; exact calls_later (rcmp_any _ _ HX.out HRT.out _))))); refine wpQuiet_nil ?_; intro d
        have hd := later_ext d
        obtain ⟨W5, hW5⟩ : ∃ W5, later d = W5 := ⟨_, rfl⟩
        rw [hW5] at hd ⊢
        clear hW5
        have c0 := (hd.cell (p := ⟨b, _, none⟩) lbb).trans c0
        have c1 := (hd.cell (p := ⟨b, _, none⟩) lbb).trans c1
        have c2 := (hd.cell (p := ⟨b, _, none⟩) lbb).trans c2
        have c3 := (hd.cell (p := ⟨b, _, none⟩) lbb).trans c3
        have d0 := (hd.cell (p := ⟨B, _, none⟩) lB).trans d0
        have d1 := (hd.cell (p := ⟨B, _, none⟩) lB).trans d1
        have d2 := (hd.cell (p := ⟨B, _, none⟩) lB).trans d2
        have d3 := (hd.cell (p := ⟨B, _, none⟩) lB).trans d3
        have lbb : Lt b W5 := Nat.lt_of_lt_of_le lbb hd.size
        have lB : Lt B W5 := Nat.lt_of_lt_of_le lB hd.size
        go_upto_region 4 with (fail)
        refine wp_region_later (by kernel_rfl) (by kernel_rfl) ?_; (repeat (go_big_quiet_step (fail))); refine wpQuiet_nil ?_; intro d2
        have hd2 := later_ext d2
        go_wp2
        exact bodyPost_ret (v := .tuple #[.int .i64 k, .bool (x.t.a == t.a && x.t.b == t.b && x.t.c == t.c && x.t.d == t.d)]) (by simp [results, Try.results25, go_sem]) rfl ⟨by rw [HR.out] <;> rfl, (hE.tr hd).tr hd2⟩
    · have hil : ¬ ((k : Int) < xs.length) := by omega
      obtain ⟨h1, h2⟩ := at_end hlt hG
      obtain rfl : k = xs.length := by omega
      have HR := Lib.hid (show (Value.tuple #[.int .i64 (atC xs t), .bool (okC xs t)]) = .tuple #[.int .i64 xs.length, .bool false] by rw [h1, h2])
      clear hG h1 h2 hE0 hil
      go_upto_region 2 with (fail)
      refine wp_region_later (by kernel_rfl) (by kernel_rfl) ?_; (repeat (go_big_quiet_step (fail))); refine wpQuiet_nil ?_; intro d
      have hd := later_ext d
      obtain ⟨W5, hW5⟩ : ∃ W5, later d = W5 := ⟨_, rfl⟩
      rw [hW5] at hd ⊢
      clear hW5
      go_upto_region 4 with (fail)
      refine wp_region_later (by kernel_rfl) (by kernel_rfl) ?_; (repeat (go_big_quiet_step (fail))); refine wpQuiet_nil ?_; intro d2
      have hd2 := later_ext d2
      go_wp2
      exact bodyPost_ret (v := .tuple #[.int .i64 xs.length, .bool false]) (by simp [results, Try.results25, go_sem]) rfl ⟨by rw [HR.out] <;> rfl, (hE.tr hd).tr hd2⟩

end Go.Proofs.Ytookffaojlkfaaa
