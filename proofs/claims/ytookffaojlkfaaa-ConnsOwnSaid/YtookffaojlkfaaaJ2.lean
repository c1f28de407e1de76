/- The document's Find and Right. -/
import Derived.Test.YtookffaojlkfaaaJ1
import Derived.Test.YtookffaojlkfaaaI4
set_option linter.unusedSimpArgs false
set_option linter.unusedVariables false
namespace Go.Proofs.Ytookffaojlkfaaa
open Go.RowKit

def badAt (xs : List Co) (k : Nat) : Prop := ∃ x, xs[k]? = some x ∧ (wrongC x = true ∨ ∃ m y, k = m + 1 ∧ xs[m]? = some y ∧ 0 ≤ cmpT y.t x.t)
def goodTo (xs : List Co) (k : Nat) : Prop := ∀ j, j < k → ¬ badAt xs j
theorem rightC_iff (xs : List Co) : rightC xs = true ↔ xs.length ≤ 32 ∧ goodTo xs xs.length := by
  unfold rightC
  simp only [Bool.and_eq_true, decide_eq_true_eq, Bool.not_eq_true', and_assoc]
  refine and_congr_right fun _ => ⟨fun ⟨h1, h2⟩ j hj ⟨x, hx, hb⟩ => ?_, fun h => ⟨?_, ?_⟩⟩
  · rcases hb with hb | ⟨m, y, rfl, hy, hc⟩
    · rw [List.any_eq_false] at h1
      exact h1 x (List.mem_of_getElem? hx) hb
    · have hp := pairsC_get xs m (by omega)
      have := List.all_eq_true.1 h2 _ (List.mem_of_getElem? hp)
      unfold lessC at this
      rw [List.getElem?_eq_getElem hj] at hx
      rw [List.getElem?_eq_getElem (by omega)] at hy
      have ex := Option.some.inj hx
      have ey := Option.some.inj hy
      rw [← ex, ← ey] at hc
      have := of_decide_eq_true this
      simp only at this
      omega
  · rw [List.any_eq_false]
    intro x hx hw
    obtain ⟨j, hj, hjx⟩ := List.getElem_of_mem hx
    exact h j hj ⟨x, by rw [List.getElem?_eq_getElem hj, hjx], .inl hw⟩
  · rw [List.all_eq_true]
    intro p hp
    obtain ⟨m, hm, hmp⟩ := List.getElem_of_mem hp
    have hm' : m + 1 < xs.length := by rw [pairsC_len] at hm; omega
    have hg := pairsC_get xs m hm'
    rw [List.getElem?_eq_getElem hm, hmp] at hg
    cases hg
    unfold lessC
    refine decide_eq_true (Int.not_le.1 fun hc => h (m + 1) hm' ⟨xs[m + 1], List.getElem?_eq_getElem hm', .inr ⟨m, xs[m], rfl, List.getElem?_eq_getElem (by omega), hc⟩⟩)
theorem rightC_bad {xs : List Co} {k : Nat} (hk : k < xs.length) (h : badAt xs k) : rightC xs = false := by
  rw [Bool.eq_false_iff]
  intro e
  exact ((rightC_iff xs).1 e).2 k hk h
theorem good_end {xs : List Co} {k : Nat} (hk : ¬ k < xs.length) (h : goodTo xs k) : rightC xs = decide ((xs.length : Int) ≤ 32) := by
  have hg : goodTo xs xs.length := fun j hj => h j (by omega)
  by_cases hl : xs.length ≤ 32
  · rw [(rightC_iff xs).2 ⟨hl, hg⟩, decide_eq_true (by omega)]
  · rw [decide_eq_false (by omega), Bool.eq_false_iff]
    exact fun e => hl ((rightC_iff xs).1 e).1
theorem good_next {xs : List Co} {k : Nat} {x : Co} (hx : xs[k]? = some x) (h : goodTo xs k) (hw : wrongC x = false) (hc : ∀ m y, k = m + 1 → xs[m]? = some y → cmpT y.t x.t < 0) : goodTo xs (k + 1) := by
  intro j hj
  by_cases hjk : j < k
  · exact h j hjk
  · obtain rfl : j = k := by omega
    rintro ⟨z, hz, hb⟩
    rw [hx] at hz
    cases hz
    rcases hb with hb | ⟨m, y, e, hy, hge⟩
    · rw [hw] at hb; cases hb
    · have := hc m y e hy
      omega
set_option maxRecDepth 100000 in
set_option maxHeartbeats 8000000 in
theorem rright_any (p : Option Addr) (xs : List Co) (c : Nat) (w : World) (hs : SlC w p xs) (hl : xs.length ≤ 1000) (hr : ∀ x ∈ xs, TuR x.t) :
    Calls Try.prog 27 #[.slice p xs.length c] w fun e w' => e = .returned (.bool (rightC xs)) ∧ Ext w w' := by
  have HRR := Lib.hid hr
  clear hr
  go_enter Try.func27, Try.ntmps27
  go_wp2
  go_loopw [3] (fun a wr => ∃ k : Nat, k ≤ xs.length ∧ a = .int .i64 k ∧ goodTo xs k ∧ Ext w wr) (fun a _ => xs.length - (intOf a).toNat)
  case atStart => exact ⟨0, Nat.zero_le _, rfl, (fun j hj => absurd hj (Nat.not_lt_zero _)), Ext.rf _⟩
  case round =>
    obtain ⟨k, hk, rfl, hG, hE⟩ := hrel
    by_cases hlt : k < xs.length
    · have hil : (k : Int) < xs.length := by omega
      obtain ⟨b, off, rfl, lb, c0, c1, c2, c3, c4, c5⟩ := (hs.ext hE) k hlt
      obtain ⟨x, hx⟩ : ∃ x, xs[k] = x := ⟨_, rfl⟩
      have hx' : xs[k]? = some x := by rw [List.getElem?_eq_getElem hlt, hx]
      have HX := Lib.hid (HRR.out x (by rw [← hx]; exact List.getElem_mem hlt))
      rw [hx] at c0 c1 c2 c3 c4 c5
      have lbb : Lt b wr := lb
      have HBAD := fun h => Lib.hid (rightC_bad hlt ⟨x, hx', h⟩)
      have HNEXT := fun hw hc => Lib.hid (good_next hx' hG hw hc)
      have HSS := Lib.hid hs
      clear hG
      by_cases h1 : x.s < 0
      · have HR := HBAD (.inl (by unfold wrongC; simp [h1]))
        clear HBAD HNEXT hx hx' hs lb
        go_upto_region 4 with (fail)
        refine wp_region_later (by kernel_rfl) (by kernel_rfl) ?_; (repeat (go_big_quiet_step (fail))); refine wpQuiet_nil ?_; intro d
        have hd := later_ext d
        go_wp2
        exact bodyPost_ret (v := .bool false) (by simp [results, Try.results27, go_sem]) rfl ⟨by rw [HR.out], hE.tr hd⟩
      · by_cases h2 : x.l < x.s
        · have HR := HBAD (.inl (by unfold wrongC; simp [h2]))
          clear HBAD HNEXT hx hx' hs lb
          go_upto_region 4 with (fail)
          refine wp_region_later (by kernel_rfl) (by kernel_rfl) ?_; (repeat (go_big_quiet_step (fail))); refine wpQuiet_nil ?_; intro d
          have hd := later_ext d
          go_wp2
          exact bodyPost_ret (v := .bool false) (by simp [results, Try.results27, go_sem]) rfl ⟨by rw [HR.out], hE.tr hd⟩
        · by_cases h3 : 1099511627776 < x.l
          · have HR := HBAD (.inl (by unfold wrongC; simp [h3]))
            clear HBAD HNEXT hx hx' hs lb
            go_upto_region 4 with (fail)
            refine wp_region_later (by kernel_rfl) (by kernel_rfl) ?_; (repeat (go_big_quiet_step (fail))); refine wpQuiet_nil ?_; intro d
            have hd := later_ext d
            go_wp2
            exact bodyPost_ret (v := .bool false) (by simp [results, Try.results27, go_sem]) rfl ⟨by rw [HR.out], hE.tr hd⟩
          · have hw : wrongC x = false := by unfold wrongC; simp; omega
            by_cases hk0 : k = 0
            · have HN := HNEXT hw (fun m y e _ => by omega)
              clear HBAD HNEXT hx hx' hs lb hw
              subst hk0
              go_upto_region 4 with (fail)
              refine wp_region_later (by kernel_rfl) (by kernel_rfl) ?_; (repeat (go_big_quiet_step (fail))); refine wpQuiet_nil ?_; intro d
              have hd := later_ext d
              go_wp2
              go_roundw
              case rel => exact ⟨1, by omega, by go_num, HN.out, hE.tr hd⟩
              case measure => simp [intOf]; omega
            · obtain ⟨m, rfl⟩ : ∃ m, k = m + 1 := ⟨k - 1, by omega⟩
              obtain ⟨b', off', hpe, -, d0, d1, d2, d3, d4, d5⟩ := (hs.ext hE) m (by omega)
              cases hpe
              have hml : m < xs.length := by omega
              obtain ⟨y, hy⟩ : ∃ y, xs[m] = y := ⟨_, rfl⟩
              have hy' : xs[m]? = some y := by rw [List.getElem?_eq_getElem hml, hy]
              have HY := Lib.hid (HRR.out y (by rw [← hy]; exact List.getElem_mem hml))
              rw [hy] at d0 d1 d2 d3 d4 d5
              have hkp : (0 : Int) < ((m + 1 : Nat) : Int) := by omega
              have hi1 : (m : Int) < xs.length := by omega
              have hmw : IntKind.i64.wrap (((m + 1 : Nat) : Int) - 1) = m := by rw [IntKind.wrap_i64]; omega
              clear hk0
              by_cases hc : 0 ≤ cmpT y.t x.t
              · have HR := HBAD (.inr ⟨m, y, rfl, hy', hc⟩)
                have hcd : decide (0 ≤ cmpT y.t x.t) = true := decide_eq_true hc
                clear HBAD HNEXT hx hx' hy hy' hs lb hw
                go_upto_region 4 with (fail)
                refine wp_region_later (by kernel_rfl) (by kernel_rfl) ?_; (repeat (go_big_quiet_step ((go_at_call 64; exact calls_later (rcmp_any _ _ HY.out HX.out _))))); refine wpQuiet_nil ?_; intro d
                have hd := later_ext d
                go_wp2
                exact bodyPost_ret (v := .bool false) (by simp [results, Try.results27, go_sem]) rfl ⟨by rw [HR.out], hE.tr hd⟩
              · have hcd : decide (0 ≤ cmpT y.t x.t) = false := decide_eq_false hc
                have HN := HNEXT hw (fun m' y' e h' => by
                  obtain rfl : m' = m := by omega
                  rw [hy'] at h'; cases h'
                  omega)
                clear HBAD HNEXT hx hx' hy hy' hs lb hw
                go_upto_region 4 with (fail)
                refine wp_region_later (by kernel_rfl) (by kernel_rfl) ?_; (repeat (go_big_quiet_step ((go_at_call 64; exact calls_later (rcmp_any _ _ HY.out HX.out _))))); refine wpQuiet_nil ?_; intro d
                have hd := later_ext d
                go_wp2
                go_roundw
                case rel => exact ⟨m + 1 + 1, by omega, by go_num, HN.out, hE.tr hd⟩
                case measure => simp [intOf]; omega
    · have hil : ¬ ((k : Int) < xs.length) := by omega
      have HR := Lib.hid (good_end hlt hG)
      clear hG
      go_wp2
      exact bodyPost_ret (v := .bool (decide ((xs.length : Int) ≤ 32))) (by simp [results, Try.results27, go_sem]) rfl ⟨by rw [HR.out], hE⟩

end Go.Proofs.Ytookffaojlkfaaa
