/- What 'Rule' of the package rule returns. -/
import Derived.Test.YtnceijlphinnhaaR4
namespace Go.Proofs.Ytnceijlphinnhaa
open Go.RowKit

@[go_sem] theorem eq_func_nil (fn : Fn) (x y : Array Value) (w : World) : (binOp .eql 58 (.func fn x y) .nilFunc).run Try.prog w = .ok (.bool false) w := by kernel_rfl
@[go_sem] theorem eq_nil_nil (w : World) : (binOp .eql 58 .nilFunc .nilFunc).run Try.prog w = .ok (.bool true) w := by kernel_rfl
def kvFst : Value → Int | .agg #[.int _ a, .bool _, .int _ _] => a | _ => 0
theorem rules_k {i : Nat} {k : Int} {s : Bool} {c : Int} {p : Pred} (h : (i, kv k s c, p) ∈ rulesL.I) : (k == 2) = false := by
  have key : ∀ x ∈ rulesL.I, (kvFst x.2.1 == 2) = false := by decide
  exact key _ h

set_option maxRecDepth 100000 in
set_option maxHeartbeats 2000000 in
theorem rule_send (m : Md) (k f g : Int) (s r : Bool) (x : Int) (hin : ∃ i, (i, kv k s (knownM m).k, clo 61 x) ∈ rulesL.I) (w : World) (h0 : 0 ≤ m.k) (h1 : 1 ≤ k) (h2 : k < 6) :
    Calls Try.prog 32 #[m.v, av k f g s false r] w fun e w' => e = .returned (⟨3, 0, x, (knownM m).p, (knownM m).g⟩ : Ac).v ∧ Ext w w' := by
  have k0 : (k == 0) = false := by simp; omega
  have k2 : (k == 2) = false := by obtain ⟨i, hi⟩ := hin; exact rules_k hi
  obtain ⟨M, hM⟩ : ∃ M, M = knownM m := ⟨_, rfl⟩
  rw [← hM] at hin
  have HM := Lib.hid hM
  have HI := Lib.hid hin
  (try rw [← hM])
  clear hM hin
  cases s
  · go_enter Try.func32, Try.ntmps32
    go_wp2
    refine wp_scope_fwd 0 rfl ?_
    go_wp2_with (go_at_call 48; (with_reducible refine (known_any m _ h0).mono ?_); rw [← HM.out]; rintro e w1 ⟨rfl, hbw1⟩; obtain ⟨hcw1, hfw1, hlw1, hzw1, -⟩ := kept hbw1; try simp at hzw1)
    refine wp_named ?_
    intro W hc hf hl hz hW
    have hEw : Ext w W := Ext.of (w := w) hW (by repeat (first | with_reducible exact Ext.rf _ | with_reducible assumption | with_reducible refine Ext.al ?_ _ | with_reducible refine Ext.dr ?_ | with_reducible refine Ext.dn ?_ _ | ((with_reducible refine Ext.st _ ?_ ?_); focus (first | omega | (simp; omega) | simp)) | with_reducible refine Ext.tr ?_ (by assumption) | with_reducible refine Ext.tr ?_ (up_ext (by assumption)) | with_reducible refine Ext.of (by assumption) ?_))
    go_region_held3 (Up W) (with_reducible refine up ?_; (repeat (first | with_reducible exact Ext.rf _ | with_reducible exact up_ext (by assumption) | with_reducible refine Ext.al ?_ _ | with_reducible refine Ext.dr ?_ | with_reducible refine Ext.dn ?_ _ | ((with_reducible refine Ext.st _ ?_ ?_); focus (first | omega | (simp; omega) | simp)) | with_reducible refine Ext.tr ?_ (by assumption)))) (first | (go_at_call 49; (with_reducible refine (rules_any _).mono ?_); rintro e w' ⟨B, ff, rfl, hb, hMp, hT, hN⟩; obtain ⟨ix, hix⟩ := HI.out; obtain ⟨v, hv, bv, rfl, hLb, hxb⟩ := hT _ hix; have hlk := hMp.look keys62 Try.underlying59 (x := kv k false M.k) ⟨_, _, _, rfl⟩ .nilFunc (by kernel_rfl); simp only [hv, Option.getD_some] at hlk; obtain ⟨hcq, hfq, hlq, hzq, -⟩ := kept hb; try simp at hzq))
    go_wp2_with (first | (go_at_call 61; (with_reducible refine (send1_any ⟨_, _, _, _⟩ _ _ _ _ _ _ _ _ _ hLb hxb).mono ?_); rintro e w' ⟨rfl, hb⟩; obtain ⟨hc, hf, hl, hz, -⟩ := kept hb; try simp at hz))
    (try simp only [Exit.jump])
    refine bodyPost_ret (v := (⟨3, 0, x, M.p, M.g⟩ : Ac).v) ?_ rfl ⟨rfl, ?_⟩
    · (simp [results, Try.results32, go_sem, *]; done)
    · (repeat (first | with_reducible exact Ext.rf _ | with_reducible assumption | with_reducible refine Ext.al ?_ _ | with_reducible refine Ext.dr ?_ | with_reducible refine Ext.dn ?_ _ | ((with_reducible refine Ext.st _ ?_ ?_); focus (first | omega | (simp; omega) | simp)) | with_reducible refine Ext.tr ?_ (by assumption) | with_reducible refine Ext.tr ?_ (up_ext (by assumption)) | with_reducible refine Ext.of (by assumption) ?_))
  · go_enter Try.func32, Try.ntmps32
    go_wp2
    refine wp_scope_fwd 0 rfl ?_
    go_wp2_with (go_at_call 48; (with_reducible refine (known_any m _ h0).mono ?_); rw [← HM.out]; rintro e w1 ⟨rfl, hbw1⟩; obtain ⟨hcw1, hfw1, hlw1, hzw1, -⟩ := kept hbw1; try simp at hzw1)
    refine wp_named ?_
    intro W hc hf hl hz hW
    have hEw : Ext w W := Ext.of (w := w) hW (by repeat (first | with_reducible exact Ext.rf _ | with_reducible assumption | with_reducible refine Ext.al ?_ _ | with_reducible refine Ext.dr ?_ | with_reducible refine Ext.dn ?_ _ | ((with_reducible refine Ext.st _ ?_ ?_); focus (first | omega | (simp; omega) | simp)) | with_reducible refine Ext.tr ?_ (by assumption) | with_reducible refine Ext.tr ?_ (up_ext (by assumption)) | with_reducible refine Ext.of (by assumption) ?_))
    go_region_held3 (Up W) (with_reducible refine up ?_; (repeat (first | with_reducible exact Ext.rf _ | with_reducible exact up_ext (by assumption) | with_reducible refine Ext.al ?_ _ | with_reducible refine Ext.dr ?_ | with_reducible refine Ext.dn ?_ _ | ((with_reducible refine Ext.st _ ?_ ?_); focus (first | omega | (simp; omega) | simp)) | with_reducible refine Ext.tr ?_ (by assumption)))) (first | (go_at_call 49; (with_reducible refine (rules_any _).mono ?_); rintro e w' ⟨B, ff, rfl, hb, hMp, hT, hN⟩; obtain ⟨ix, hix⟩ := HI.out; obtain ⟨v, hv, bv, rfl, hLb, hxb⟩ := hT _ hix; have hlk := hMp.look keys62 Try.underlying59 (x := kv k true M.k) ⟨_, _, _, rfl⟩ .nilFunc (by kernel_rfl); simp only [hv, Option.getD_some] at hlk; obtain ⟨hcq, hfq, hlq, hzq, -⟩ := kept hb; try simp at hzq))
    go_wp2_with (first | (go_at_call 61; (with_reducible refine (send1_any ⟨_, _, _, _⟩ _ _ _ _ _ _ _ _ _ hLb hxb).mono ?_); rintro e w' ⟨rfl, hb⟩; obtain ⟨hc, hf, hl, hz, -⟩ := kept hb; try simp at hz))
    (try simp only [Exit.jump])
    refine bodyPost_ret (v := (⟨3, 0, x, M.p, M.g⟩ : Ac).v) ?_ rfl ⟨rfl, ?_⟩
    · (simp [results, Try.results32, go_sem, *]; done)
    · (repeat (first | with_reducible exact Ext.rf _ | with_reducible assumption | with_reducible refine Ext.al ?_ _ | with_reducible refine Ext.dr ?_ | with_reducible refine Ext.dn ?_ _ | ((with_reducible refine Ext.st _ ?_ ?_); focus (first | omega | (simp; omega) | simp)) | with_reducible refine Ext.tr ?_ (by assumption) | with_reducible refine Ext.tr ?_ (up_ext (by assumption)) | with_reducible refine Ext.of (by assumption) ?_))

set_option maxRecDepth 100000 in
set_option maxHeartbeats 2000000 in
theorem rule_drop (m : Md) (k f g : Int) (s r : Bool) (x : Int) (hin : ∃ i, (i, kv k s (knownM m).k, clo 60 x) ∈ rulesL.I) (w : World) (h0 : 0 ≤ m.k) (h1 : 1 ≤ k) (h2 : k < 6) :
    Calls Try.prog 32 #[m.v, av k f g s false r] w fun e w' => e = .returned (dropA x).v ∧ Ext w w' := by
  have k0 : (k == 0) = false := by simp; omega
  have k2 : (k == 2) = false := by obtain ⟨i, hi⟩ := hin; exact rules_k hi
  obtain ⟨M, hM⟩ : ∃ M, M = knownM m := ⟨_, rfl⟩
  rw [← hM] at hin
  have HM := Lib.hid hM
  have HI := Lib.hid hin
  (try rw [← hM])
  clear hM hin
  cases s
  · go_enter Try.func32, Try.ntmps32
    go_wp2
    refine wp_scope_fwd 0 rfl ?_
    go_wp2_with (go_at_call 48; (with_reducible refine (known_any m _ h0).mono ?_); rw [← HM.out]; rintro e w1 ⟨rfl, hbw1⟩; obtain ⟨hcw1, hfw1, hlw1, hzw1, -⟩ := kept hbw1; try simp at hzw1)
    refine wp_named ?_
    intro W hc hf hl hz hW
    have hEw : Ext w W := Ext.of (w := w) hW (by repeat (first | with_reducible exact Ext.rf _ | with_reducible assumption | with_reducible refine Ext.al ?_ _ | with_reducible refine Ext.dr ?_ | with_reducible refine Ext.dn ?_ _ | ((with_reducible refine Ext.st _ ?_ ?_); focus (first | omega | (simp; omega) | simp)) | with_reducible refine Ext.tr ?_ (by assumption) | with_reducible refine Ext.tr ?_ (up_ext (by assumption)) | with_reducible refine Ext.of (by assumption) ?_))
    go_region_held3 (Up W) (with_reducible refine up ?_; (repeat (first | with_reducible exact Ext.rf _ | with_reducible exact up_ext (by assumption) | with_reducible refine Ext.al ?_ _ | with_reducible refine Ext.dr ?_ | with_reducible refine Ext.dn ?_ _ | ((with_reducible refine Ext.st _ ?_ ?_); focus (first | omega | (simp; omega) | simp)) | with_reducible refine Ext.tr ?_ (by assumption)))) (first | (go_at_call 49; (with_reducible refine (rules_any _).mono ?_); rintro e w' ⟨B, ff, rfl, hb, hMp, hT, hN⟩; obtain ⟨ix, hix⟩ := HI.out; obtain ⟨v, hv, bv, rfl, hLb, hxb⟩ := hT _ hix; have hlk := hMp.look keys62 Try.underlying59 (x := kv k false M.k) ⟨_, _, _, rfl⟩ .nilFunc (by kernel_rfl); simp only [hv, Option.getD_some] at hlk; obtain ⟨hcq, hfq, hlq, hzq, -⟩ := kept hb; try simp at hzq))
    go_wp2_with (first | (go_at_call 60; (with_reducible refine (drop1_any ⟨_, _, _, _⟩ _ _ _ _ _ _ _ _ _ hLb hxb).mono ?_); rintro e w' ⟨rfl, hb⟩; obtain ⟨hc, hf, hl, hz, -⟩ := kept hb; try simp at hz))
    (try simp only [Exit.jump])
    refine bodyPost_ret (v := (dropA x).v) ?_ rfl ⟨rfl, ?_⟩
    · (simp [results, Try.results32, go_sem, dropA, *]; done)
    · (repeat (first | with_reducible exact Ext.rf _ | with_reducible assumption | with_reducible refine Ext.al ?_ _ | with_reducible refine Ext.dr ?_ | with_reducible refine Ext.dn ?_ _ | ((with_reducible refine Ext.st _ ?_ ?_); focus (first | omega | (simp; omega) | simp)) | with_reducible refine Ext.tr ?_ (by assumption) | with_reducible refine Ext.tr ?_ (up_ext (by assumption)) | with_reducible refine Ext.of (by assumption) ?_))
  · go_enter Try.func32, Try.ntmps32
    go_wp2
    refine wp_scope_fwd 0 rfl ?_
    go_wp2_with (go_at_call 48; (with_reducible refine (known_any m _ h0).mono ?_); rw [← HM.out]; rintro e w1 ⟨rfl, hbw1⟩; obtain ⟨hcw1, hfw1, hlw1, hzw1, -⟩ := kept hbw1; try simp at hzw1)
    refine wp_named ?_
    intro W hc hf hl hz hW
    have hEw : Ext w W := Ext.of (w := w) hW (by repeat (first | with_reducible exact Ext.rf _ | with_reducible assumption | with_reducible refine Ext.al ?_ _ | with_reducible refine Ext.dr ?_ | with_reducible refine Ext.dn ?_ _ | ((with_reducible refine Ext.st _ ?_ ?_); focus (first | omega | (simp; omega) | simp)) | with_reducible refine Ext.tr ?_ (by assumption) | with_reducible refine Ext.tr ?_ (up_ext (by assumption)) | with_reducible refine Ext.of (by assumption) ?_))
    go_region_held3 (Up W) (with_reducible refine up ?_; (repeat (first | with_reducible exact Ext.rf _ | with_reducible exact up_ext (by assumption) | with_reducible refine Ext.al ?_ _ | with_reducible refine Ext.dr ?_ | with_reducible refine Ext.dn ?_ _ | ((with_reducible refine Ext.st _ ?_ ?_); focus (first | omega | (simp; omega) | simp)) | with_reducible refine Ext.tr ?_ (by assumption)))) (first | (go_at_call 49; (with_reducible refine (rules_any _).mono ?_); rintro e w' ⟨B, ff, rfl, hb, hMp, hT, hN⟩; obtain ⟨ix, hix⟩ := HI.out; obtain ⟨v, hv, bv, rfl, hLb, hxb⟩ := hT _ hix; have hlk := hMp.look keys62 Try.underlying59 (x := kv k true M.k) ⟨_, _, _, rfl⟩ .nilFunc (by kernel_rfl); simp only [hv, Option.getD_some] at hlk; obtain ⟨hcq, hfq, hlq, hzq, -⟩ := kept hb; try simp at hzq))
    go_wp2_with (first | (go_at_call 60; (with_reducible refine (drop1_any ⟨_, _, _, _⟩ _ _ _ _ _ _ _ _ _ hLb hxb).mono ?_); rintro e w' ⟨rfl, hb⟩; obtain ⟨hc, hf, hl, hz, -⟩ := kept hb; try simp at hz))
    (try simp only [Exit.jump])
    refine bodyPost_ret (v := (dropA x).v) ?_ rfl ⟨rfl, ?_⟩
    · (simp [results, Try.results32, go_sem, dropA, *]; done)
    · (repeat (first | with_reducible exact Ext.rf _ | with_reducible assumption | with_reducible refine Ext.al ?_ _ | with_reducible refine Ext.dr ?_ | with_reducible refine Ext.dn ?_ _ | ((with_reducible refine Ext.st _ ?_ ?_); focus (first | omega | (simp; omega) | simp)) | with_reducible refine Ext.tr ?_ (by assumption) | with_reducible refine Ext.tr ?_ (up_ext (by assumption)) | with_reducible refine Ext.of (by assumption) ?_))

set_option maxRecDepth 100000 in
set_option maxHeartbeats 2000000 in
theorem rule_accept (m : Md) (k f g : Int) (s r : Bool) (hin : ∃ i, (i, kv k s (knownM m).k, isV (.func (.func 57) #[] #[])) ∈ rulesL.I) (w : World) (h0 : 0 ≤ m.k) (h1 : 1 ≤ k) (h2 : k < 6) :
    Calls Try.prog 32 #[m.v, av k f g s false r] w fun e w' => e = .returned (acceptA r).v ∧ Ext w w' := by
  have k0 : (k == 0) = false := by simp; omega
  have k2 : (k == 2) = false := by obtain ⟨i, hi⟩ := hin; exact rules_k hi
  obtain ⟨M, hM⟩ : ∃ M, M = knownM m := ⟨_, rfl⟩
  rw [← hM] at hin
  have HM := Lib.hid hM
  have HI := Lib.hid hin
  (try rw [← hM])
  clear hM hin
  cases s
  · go_enter Try.func32, Try.ntmps32
    go_wp2
    refine wp_scope_fwd 0 rfl ?_
    go_wp2_with (go_at_call 48; (with_reducible refine (known_any m _ h0).mono ?_); rw [← HM.out]; rintro e w1 ⟨rfl, hbw1⟩; obtain ⟨hcw1, hfw1, hlw1, hzw1, -⟩ := kept hbw1; try simp at hzw1)
    refine wp_named ?_
    intro W hc hf hl hz hW
    have hEw : Ext w W := Ext.of (w := w) hW (by repeat (first | with_reducible exact Ext.rf _ | with_reducible assumption | with_reducible refine Ext.al ?_ _ | with_reducible refine Ext.dr ?_ | with_reducible refine Ext.dn ?_ _ | ((with_reducible refine Ext.st _ ?_ ?_); focus (first | omega | (simp; omega) | simp)) | with_reducible refine Ext.tr ?_ (by assumption) | with_reducible refine Ext.tr ?_ (up_ext (by assumption)) | with_reducible refine Ext.of (by assumption) ?_))
    go_region_held3 (Up W) (with_reducible refine up ?_; (repeat (first | with_reducible exact Ext.rf _ | with_reducible exact up_ext (by assumption) | with_reducible refine Ext.al ?_ _ | with_reducible refine Ext.dr ?_ | with_reducible refine Ext.dn ?_ _ | ((with_reducible refine Ext.st _ ?_ ?_); focus (first | omega | (simp; omega) | simp)) | with_reducible refine Ext.tr ?_ (by assumption)))) (first | (go_at_call 49; (with_reducible refine (rules_any _).mono ?_); rintro e w' ⟨B, ff, rfl, hb, hMp, hT, hN⟩; obtain ⟨ix, hix⟩ := HI.out; obtain ⟨v, hv, rfl⟩ := hT _ hix; have hlk := hMp.look keys62 Try.underlying59 (x := kv k false M.k) ⟨_, _, _, rfl⟩ .nilFunc (by kernel_rfl); simp only [hv, Option.getD_some] at hlk; obtain ⟨hcq, hfq, hlq, hzq, -⟩ := kept hb; try simp at hzq))
    go_wp2_with (first | (go_at_call 57; (with_reducible refine (accept_any ⟨_, _, _, _⟩ _ _ _ _ _ _ _).mono ?_); rintro e w' ⟨rfl, hb⟩; obtain ⟨hc, hf, hl, hz, -⟩ := kept hb; try simp at hz))
    (try simp only [Exit.jump])
    refine bodyPost_ret (v := (acceptA r).v) ?_ rfl ⟨rfl, ?_⟩
    · (simp [results, Try.results32, go_sem, acceptA, *]; done)
    · (repeat (first | with_reducible exact Ext.rf _ | with_reducible assumption | with_reducible refine Ext.al ?_ _ | with_reducible refine Ext.dr ?_ | with_reducible refine Ext.dn ?_ _ | ((with_reducible refine Ext.st _ ?_ ?_); focus (first | omega | (simp; omega) | simp)) | with_reducible refine Ext.tr ?_ (by assumption) | with_reducible refine Ext.tr ?_ (up_ext (by assumption)) | with_reducible refine Ext.of (by assumption) ?_))
  · go_enter Try.func32, Try.ntmps32
    go_wp2
    refine wp_scope_fwd 0 rfl ?_
    go_wp2_with (go_at_call 48; (with_reducible refine (known_any m _ h0).mono ?_); rw [← HM.out]; rintro e w1 ⟨rfl, hbw1⟩; obtain ⟨hcw1, hfw1, hlw1, hzw1, -⟩ := kept hbw1; try simp at hzw1)
    refine wp_named ?_
    intro W hc hf hl hz hW
    have hEw : Ext w W := Ext.of (w := w) hW (by repeat (first | with_reducible exact Ext.rf _ | with_reducible assumption | with_reducible refine Ext.al ?_ _ | with_reducible refine Ext.dr ?_ | with_reducible refine Ext.dn ?_ _ | ((with_reducible refine Ext.st _ ?_ ?_); focus (first | omega | (simp; omega) | simp)) | with_reducible refine Ext.tr ?_ (by assumption) | with_reducible refine Ext.tr ?_ (up_ext (by assumption)) | with_reducible refine Ext.of (by assumption) ?_))
    go_region_held3 (Up W) (with_reducible refine up ?_; (repeat (first | with_reducible exact Ext.rf _ | with_reducible exact up_ext (by assumption) | with_reducible refine Ext.al ?_ _ | with_reducible refine Ext.dr ?_ | with_reducible refine Ext.dn ?_ _ | ((with_reducible refine Ext.st _ ?_ ?_); focus (first | omega | (simp; omega) | simp)) | with_reducible refine Ext.tr ?_ (by assumption)))) (first | (go_at_call 49; (with_reducible refine (rules_any _).mono ?_); rintro e w' ⟨B, ff, rfl, hb, hMp, hT, hN⟩; obtain ⟨ix, hix⟩ := HI.out; obtain ⟨v, hv, rfl⟩ := hT _ hix; have hlk := hMp.look keys62 Try.underlying59 (x := kv k true M.k) ⟨_, _, _, rfl⟩ .nilFunc (by kernel_rfl); simp only [hv, Option.getD_some] at hlk; obtain ⟨hcq, hfq, hlq, hzq, -⟩ := kept hb; try simp at hzq))
    go_wp2_with (first | (go_at_call 57; (with_reducible refine (accept_any ⟨_, _, _, _⟩ _ _ _ _ _ _ _).mono ?_); rintro e w' ⟨rfl, hb⟩; obtain ⟨hc, hf, hl, hz, -⟩ := kept hb; try simp at hz))
    (try simp only [Exit.jump])
    refine bodyPost_ret (v := (acceptA r).v) ?_ rfl ⟨rfl, ?_⟩
    · (simp [results, Try.results32, go_sem, acceptA, *]; done)
    · (repeat (first | with_reducible exact Ext.rf _ | with_reducible assumption | with_reducible refine Ext.al ?_ _ | with_reducible refine Ext.dr ?_ | with_reducible refine Ext.dn ?_ _ | ((with_reducible refine Ext.st _ ?_ ?_); focus (first | omega | (simp; omega) | simp)) | with_reducible refine Ext.tr ?_ (by assumption) | with_reducible refine Ext.tr ?_ (up_ext (by assumption)) | with_reducible refine Ext.of (by assumption) ?_))

set_option maxRecDepth 100000 in
set_option maxHeartbeats 2000000 in
theorem rule_bounce (m : Md) (k f g : Int) (s r : Bool) (hin : ∃ i, (i, kv k s (knownM m).k, isV (.func (.func 58) #[] #[])) ∈ rulesL.I) (w : World) (h0 : 0 ≤ m.k) (h1 : 1 ≤ k) (h2 : k < 6) :
    Calls Try.prog 32 #[m.v, av k f g s false r] w fun e w' => e = .returned (bounceA (knownM m) f g).v ∧ Ext w w' := by
  have k0 : (k == 0) = false := by simp; omega
  have k2 : (k == 2) = false := by obtain ⟨i, hi⟩ := hin; exact rules_k hi
  obtain ⟨M, hM⟩ : ∃ M, M = knownM m := ⟨_, rfl⟩
  rw [← hM] at hin
  have HM := Lib.hid hM
  have HI := Lib.hid hin
  (try rw [← hM])
  clear hM hin
  cases s
  · go_enter Try.func32, Try.ntmps32
    go_wp2
    refine wp_scope_fwd 0 rfl ?_
    go_wp2_with (go_at_call 48; (with_reducible refine (known_any m _ h0).mono ?_); rw [← HM.out]; rintro e w1 ⟨rfl, hbw1⟩; obtain ⟨hcw1, hfw1, hlw1, hzw1, -⟩ := kept hbw1; try simp at hzw1)
    refine wp_named ?_
    intro W hc hf hl hz hW
    have hEw : Ext w W := Ext.of (w := w) hW (by repeat (first | with_reducible exact Ext.rf _ | with_reducible assumption | with_reducible refine Ext.al ?_ _ | with_reducible refine Ext.dr ?_ | with_reducible refine Ext.dn ?_ _ | ((with_reducible refine Ext.st _ ?_ ?_); focus (first | omega | (simp; omega) | simp)) | with_reducible refine Ext.tr ?_ (by assumption) | with_reducible refine Ext.tr ?_ (up_ext (by assumption)) | with_reducible refine Ext.of (by assumption) ?_))
    go_region_held3 (Up W) (with_reducible refine up ?_; (repeat (first | with_reducible exact Ext.rf _ | with_reducible exact up_ext (by assumption) | with_reducible refine Ext.al ?_ _ | with_reducible refine Ext.dr ?_ | with_reducible refine Ext.dn ?_ _ | ((with_reducible refine Ext.st _ ?_ ?_); focus (first | omega | (simp; omega) | simp)) | with_reducible refine Ext.tr ?_ (by assumption)))) (first | (go_at_call 49; (with_reducible refine (rules_any _).mono ?_); rintro e w' ⟨B, ff, rfl, hb, hMp, hT, hN⟩; obtain ⟨ix, hix⟩ := HI.out; obtain ⟨v, hv, rfl⟩ := hT _ hix; have hlk := hMp.look keys62 Try.underlying59 (x := kv k false M.k) ⟨_, _, _, rfl⟩ .nilFunc (by kernel_rfl); simp only [hv, Option.getD_some] at hlk; obtain ⟨hcq, hfq, hlq, hzq, -⟩ := kept hb; try simp at hzq))
    go_wp2_with (first | (go_at_call 58; (with_reducible refine (bounce_any M _ _ _ _ _ _ _).mono ?_); rintro e w' ⟨rfl, hb⟩; obtain ⟨hc, hf, hl, hz, -⟩ := kept hb; try simp at hz))
    (try simp only [Exit.jump])
    refine bodyPost_ret (v := (bounceA M f g).v) ?_ rfl ⟨rfl, ?_⟩
    · (simp [results, Try.results32, go_sem, *]; done)
    · (repeat (first | with_reducible exact Ext.rf _ | with_reducible assumption | with_reducible refine Ext.al ?_ _ | with_reducible refine Ext.dr ?_ | with_reducible refine Ext.dn ?_ _ | ((with_reducible refine Ext.st _ ?_ ?_); focus (first | omega | (simp; omega) | simp)) | with_reducible refine Ext.tr ?_ (by assumption) | with_reducible refine Ext.tr ?_ (up_ext (by assumption)) | with_reducible refine Ext.of (by assumption) ?_))
  · go_enter Try.func32, Try.ntmps32
    go_wp2
    refine wp_scope_fwd 0 rfl ?_
    go_wp2_with (go_at_call 48; (with_reducible refine (known_any m _ h0).mono ?_); rw [← HM.out]; rintro e w1 ⟨rfl, hbw1⟩; obtain ⟨hcw1, hfw1, hlw1, hzw1, -⟩ := kept hbw1; try simp at hzw1)
    refine wp_named ?_
    intro W hc hf hl hz hW
    have hEw : Ext w W := Ext.of (w := w) hW (by repeat (first | with_reducible exact Ext.rf _ | with_reducible assumption | with_reducible refine Ext.al ?_ _ | with_reducible refine Ext.dr ?_ | with_reducible refine Ext.dn ?_ _ | ((with_reducible refine Ext.st _ ?_ ?_); focus (first | omega | (simp; omega) | simp)) | with_reducible refine Ext.tr ?_ (by assumption) | with_reducible refine Ext.tr ?_ (up_ext (by assumption)) | with_reducible refine Ext.of (by assumption) ?_))
    go_region_held3 (Up W) (with_reducible refine up ?_; (repeat (first | with_reducible exact Ext.rf _ | with_reducible exact up_ext (by assumption) | with_reducible refine Ext.al ?_ _ | with_reducible refine Ext.dr ?_ | with_reducible refine Ext.dn ?_ _ | ((with_reducible refine Ext.st _ ?_ ?_); focus (first | omega | (simp; omega) | simp)) | with_reducible refine Ext.tr ?_ (by assumption)))) (first | (go_at_call 49; (with_reducible refine (rules_any _).mono ?_); rintro e w' ⟨B, ff, rfl, hb, hMp, hT, hN⟩; obtain ⟨ix, hix⟩ := HI.out; obtain ⟨v, hv, rfl⟩ := hT _ hix; have hlk := hMp.look keys62 Try.underlying59 (x := kv k true M.k) ⟨_, _, _, rfl⟩ .nilFunc (by kernel_rfl); simp only [hv, Option.getD_some] at hlk; obtain ⟨hcq, hfq, hlq, hzq, -⟩ := kept hb; try simp at hzq))
    go_wp2_with (first | (go_at_call 58; (with_reducible refine (bounce_any M _ _ _ _ _ _ _).mono ?_); rintro e w' ⟨rfl, hb⟩; obtain ⟨hc, hf, hl, hz, -⟩ := kept hb; try simp at hz))
    (try simp only [Exit.jump])
    refine bodyPost_ret (v := (bounceA M f g).v) ?_ rfl ⟨rfl, ?_⟩
    · (simp [results, Try.results32, go_sem, *]; done)
    · (repeat (first | with_reducible exact Ext.rf _ | with_reducible assumption | with_reducible refine Ext.al ?_ _ | with_reducible refine Ext.dr ?_ | with_reducible refine Ext.dn ?_ _ | ((with_reducible refine Ext.st _ ?_ ?_); focus (first | omega | (simp; omega) | simp)) | with_reducible refine Ext.tr ?_ (by assumption) | with_reducible refine Ext.tr ?_ (up_ext (by assumption)) | with_reducible refine Ext.of (by assumption) ?_))

set_option maxRecDepth 100000 in
set_option maxHeartbeats 2000000 in
theorem rule_mine (m : Md) (k f g : Int) (s r : Bool) (hin : ∃ i, (i, kv k s (knownM m).k, isV (.func (.func 59) #[] #[])) ∈ rulesL.I) (w : World) (h0 : 0 ≤ m.k) (h1 : 1 ≤ k) (h2 : k < 6) :
    Calls Try.prog 32 #[m.v, av k f g s false r] w fun e w' => e = .returned (mineA (knownM m) g r).v ∧ Ext w w' := by
  have k0 : (k == 0) = false := by simp; omega
  have k2 : (k == 2) = false := by obtain ⟨i, hi⟩ := hin; exact rules_k hi
  obtain ⟨M, hM⟩ : ∃ M, M = knownM m := ⟨_, rfl⟩
  rw [← hM] at hin
  have HM := Lib.hid hM
  have HI := Lib.hid hin
  (try rw [← hM])
  clear hM hin
  cases s
  · go_enter Try.func32, Try.ntmps32
    go_wp2
    refine wp_scope_fwd 0 rfl ?_
    go_wp2_with (go_at_call 48; (with_reducible refine (known_any m _ h0).mono ?_); rw [← HM.out]; rintro e w1 ⟨rfl, hbw1⟩; obtain ⟨hcw1, hfw1, hlw1, hzw1, -⟩ := kept hbw1; try simp at hzw1)
    refine wp_named ?_
    intro W hc hf hl hz hW
    have hEw : Ext w W := Ext.of (w := w) hW (by repeat (first | with_reducible exact Ext.rf _ | with_reducible assumption | with_reducible refine Ext.al ?_ _ | with_reducible refine Ext.dr ?_ | with_reducible refine Ext.dn ?_ _ | ((with_reducible refine Ext.st _ ?_ ?_); focus (first | omega | (simp; omega) | simp)) | with_reducible refine Ext.tr ?_ (by assumption) | with_reducible refine Ext.tr ?_ (up_ext (by assumption)) | with_reducible refine Ext.of (by assumption) ?_))
    go_region_held3 (Up W) (with_reducible refine up ?_; (repeat (first | with_reducible exact Ext.rf _ | with_reducible exact up_ext (by assumption) | with_reducible refine Ext.al ?_ _ | with_reducible refine Ext.dr ?_ | with_reducible refine Ext.dn ?_ _ | ((with_reducible refine Ext.st _ ?_ ?_); focus (first | omega | (simp; omega) | simp)) | with_reducible refine Ext.tr ?_ (by assumption)))) (first | (go_at_call 49; (with_reducible refine (rules_any _).mono ?_); rintro e w' ⟨B, ff, rfl, hb, hMp, hT, hN⟩; obtain ⟨ix, hix⟩ := HI.out; obtain ⟨v, hv, rfl⟩ := hT _ hix; have hlk := hMp.look keys62 Try.underlying59 (x := kv k false M.k) ⟨_, _, _, rfl⟩ .nilFunc (by kernel_rfl); simp only [hv, Option.getD_some] at hlk; obtain ⟨hcq, hfq, hlq, hzq, -⟩ := kept hb; try simp at hzq))
    go_wp2_with (first | (go_at_call 59; (with_reducible refine (mine_any M _ _ _ _ _ _ _).mono ?_); rintro e w' ⟨rfl, hb⟩; obtain ⟨hc, hf, hl, hz, -⟩ := kept hb; try simp at hz))
    (try simp only [Exit.jump])
    refine bodyPost_ret (v := (mineA M g r).v) ?_ rfl ⟨rfl, ?_⟩
    · (simp [results, Try.results32, go_sem, *]; done)
    · (repeat (first | with_reducible exact Ext.rf _ | with_reducible assumption | with_reducible refine Ext.al ?_ _ | with_reducible refine Ext.dr ?_ | with_reducible refine Ext.dn ?_ _ | ((with_reducible refine Ext.st _ ?_ ?_); focus (first | omega | (simp; omega) | simp)) | with_reducible refine Ext.tr ?_ (by assumption) | with_reducible refine Ext.tr ?_ (up_ext (by assumption)) | with_reducible refine Ext.of (by assumption) ?_))
  · go_enter Try.func32, Try.ntmps32
    go_wp2
    refine wp_scope_fwd 0 rfl ?_
    go_wp2_with (go_at_call 48; (with_reducible refine (known_any m _ h0).mono ?_); rw [← HM.out]; rintro e w1 ⟨rfl, hbw1⟩; obtain ⟨hcw1, hfw1, hlw1, hzw1, -⟩ := kept hbw1; try simp at hzw1)
    refine wp_named ?_
    intro W hc hf hl hz hW
    have hEw : Ext w W := Ext.of (w := w) hW (by repeat (first | with_reducible exact Ext.rf _ | with_reducible assumption | with_reducible refine Ext.al ?_ _ | with_reducible refine Ext.dr ?_ | with_reducible refine Ext.dn ?_ _ | ((with_reducible refine Ext.st _ ?_ ?_); focus (first | omega | (simp; omega) | simp)) | with_reducible refine Ext.tr ?_ (by assumption) | with_reducible refine Ext.tr ?_ (up_ext (by assumption)) | with_reducible refine Ext.of (by assumption) ?_))
    go_region_held3 (Up W) (with_reducible refine up ?_; (repeat (first | with_reducible exact Ext.rf _ | with_reducible exact up_ext (by assumption) | with_reducible refine Ext.al ?_ _ | with_reducible refine Ext.dr ?_ | with_reducible refine Ext.dn ?_ _ | ((with_reducible refine Ext.st _ ?_ ?_); focus (first | omega | (simp; omega) | simp)) | with_reducible refine Ext.tr ?_ (by assumption)))) (first | (go_at_call 49; (with_reducible refine (rules_any _).mono ?_); rintro e w' ⟨B, ff, rfl, hb, hMp, hT, hN⟩; obtain ⟨ix, hix⟩ := HI.out; obtain ⟨v, hv, rfl⟩ := hT _ hix; have hlk := hMp.look keys62 Try.underlying59 (x := kv k true M.k) ⟨_, _, _, rfl⟩ .nilFunc (by kernel_rfl); simp only [hv, Option.getD_some] at hlk; obtain ⟨hcq, hfq, hlq, hzq, -⟩ := kept hb; try simp at hzq))
    go_wp2_with (first | (go_at_call 59; (with_reducible refine (mine_any M _ _ _ _ _ _ _).mono ?_); rintro e w' ⟨rfl, hb⟩; obtain ⟨hc, hf, hl, hz, -⟩ := kept hb; try simp at hz))
    (try simp only [Exit.jump])
    refine bodyPost_ret (v := (mineA M g r).v) ?_ rfl ⟨rfl, ?_⟩
    · (simp [results, Try.results32, go_sem, *]; done)
    · (repeat (first | with_reducible exact Ext.rf _ | with_reducible assumption | with_reducible refine Ext.al ?_ _ | with_reducible refine Ext.dr ?_ | with_reducible refine Ext.dn ?_ _ | ((with_reducible refine Ext.st _ ?_ ?_); focus (first | omega | (simp; omega) | simp)) | with_reducible refine Ext.tr ?_ (by assumption) | with_reducible refine Ext.tr ?_ (up_ext (by assumption)) | with_reducible refine Ext.of (by assumption) ?_))

end Go.Proofs.Ytnceijlphinnhaa
