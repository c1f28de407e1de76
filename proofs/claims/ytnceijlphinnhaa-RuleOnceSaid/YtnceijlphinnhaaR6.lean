/- What 'Rule' of the package rule returns where nothing is laid down, of no kind, and of a connection that is there. -/
import Derived.Test.YtnceijlphinnhaaR5
namespace Go.Proofs.Ytnceijlphinnhaa
open Go.RowKit

theorem none_of {ff : Value → Option Value} {x : Value} (hN : ∀ k v, ff k = some v → ∃ x ∈ rulesL.I, x.2.1 = k) (h : ∀ y ∈ rulesL.I, y.2.1 ≠ x) : ff x = none := by
  cases hq : ff x with
  | none => rfl
  | some u =>
    obtain ⟨y, hy, e⟩ := hN x u hq
    exact absurd e (h y hy)

set_option maxRecDepth 100000 in
set_option maxHeartbeats 2000000 in
theorem rule_kind (m : Md) (k f g : Int) (s n r : Bool) (w : World) (h0 : 0 ≤ m.k) (hk : k = 0 ∨ 6 ≤ k) :
    Calls Try.prog 32 #[m.v, av k f g s n r] w fun e w' => e = .returned (dropA 13).v ∧ Ext w w' := by
  obtain ⟨M, hM⟩ : ∃ M, M = knownM m := ⟨_, rfl⟩
  have HM := Lib.hid hM
  clear hM
  rcases hk with hk | hk
  · have k0 : (k == 0) = true := by simpa using hk
    clear hk
    go_enter Try.func32, Try.ntmps32
    go_wp2
    refine wp_scope_fwd 0 rfl ?_
    go_wp2_with ((go_at_call 48; (with_reducible refine (known_any m _ h0).mono ?_); rw [← HM.out]; rintro e w1 ⟨rfl, hbw1⟩; obtain ⟨hcw1, hfw1, hlw1, hzw1, -⟩ := kept hbw1; try simp at hzw1))
    go_step3
    refine ⟨rfl, ?_⟩
    go_wp2
    refine wp_named ?_
    intro W2 hc2 hf2 hl2 hz2 hW2
    (have hEw2 : Ext w W2 := Ext.of (w := w) hW2 (by repeat (first | with_reducible exact Ext.rf _ | with_reducible assumption | with_reducible refine Ext.al ?_ _ | with_reducible refine Ext.dr ?_ | with_reducible refine Ext.dn ?_ _ | ((with_reducible refine Ext.st _ ?_ ?_); focus (first | omega | (simp; omega) | simp)) | with_reducible refine Ext.tr ?_ (by assumption) | with_reducible refine Ext.tr ?_ (up_ext (by assumption)) | with_reducible refine Ext.of (by assumption) ?_)))
    go_region_held3 (UpE (w.heap.size + 1 + 1) w W2) (first | with_reducible exact UpE.start (by assumption) | with_reducible exact UpE.next (by assumption) (by assumption) | ((repeat ((with_reducible refine UpE.st _ ?_ ?_); focus (first | omega | (simp; omega) | simp))); with_reducible assumption)) (first | (go_at_call 50; (with_reducible refine (drop_any _ _).mono ?_); rintro e w' ⟨bq, rfl, hLq, hxq, hb⟩; obtain ⟨hcs, hfs, hls, hzs, -⟩ := kept hb; try simp at hzs) | (go_at_call 60; (with_reducible refine (drop1_any ⟨_, _, _, _⟩ _ _ _ _ _ _ _ _ _ hLq hxq).mono ?_); rintro e w' ⟨rfl, hb⟩; obtain ⟨hcr, hfr, hlr, hzr, -⟩ := kept hb; try simp at hzr))
    all_goals
      go_wp2
      rw [Exit.noGoto_ret]
      refine bodyPost_ret (v := (dropA 13).v) ?_ rfl ⟨rfl, ?_⟩
      · (simp [results, Try.results32, go_sem, dropA, *]; done)
      · (repeat (first | with_reducible exact Ext.rf _ | with_reducible assumption | with_reducible refine Ext.al ?_ _ | with_reducible refine Ext.dr ?_ | with_reducible refine Ext.dn ?_ _ | ((with_reducible refine Ext.st _ ?_ ?_); focus (first | omega | (simp; omega) | simp)) | with_reducible refine Ext.tr ?_ (by assumption) | with_reducible refine Ext.tr ?_ (up_ext (by assumption)) | with_reducible refine Ext.of (by assumption) ?_))
  · have k0 : (k == 0) = false := by simp; omega
    go_enter Try.func32, Try.ntmps32
    go_wp2
    refine wp_scope_fwd 0 rfl ?_
    go_wp2_with ((go_at_call 48; (with_reducible refine (known_any m _ h0).mono ?_); rw [← HM.out]; rintro e w1 ⟨rfl, hbw1⟩; obtain ⟨hcw1, hfw1, hlw1, hzw1, -⟩ := kept hbw1; try simp at hzw1))
    go_step3
    refine ⟨rfl, ?_⟩
    go_wp2
    refine wp_named ?_
    intro W2 hc2 hf2 hl2 hz2 hW2
    (have hEw2 : Ext w W2 := Ext.of (w := w) hW2 (by repeat (first | with_reducible exact Ext.rf _ | with_reducible assumption | with_reducible refine Ext.al ?_ _ | with_reducible refine Ext.dr ?_ | with_reducible refine Ext.dn ?_ _ | ((with_reducible refine Ext.st _ ?_ ?_); focus (first | omega | (simp; omega) | simp)) | with_reducible refine Ext.tr ?_ (by assumption) | with_reducible refine Ext.tr ?_ (up_ext (by assumption)) | with_reducible refine Ext.of (by assumption) ?_)))
    go_region_held3 (UpE (w.heap.size + 1 + 1) w W2) (first | with_reducible exact UpE.start (by assumption) | with_reducible exact UpE.next (by assumption) (by assumption) | ((repeat ((with_reducible refine UpE.st _ ?_ ?_); focus (first | omega | (simp; omega) | simp))); with_reducible assumption)) (first | (go_at_call 50; (with_reducible refine (drop_any _ _).mono ?_); rintro e w' ⟨bq, rfl, hLq, hxq, hb⟩; obtain ⟨hcs, hfs, hls, hzs, -⟩ := kept hb; try simp at hzs) | (go_at_call 60; (with_reducible refine (drop1_any ⟨_, _, _, _⟩ _ _ _ _ _ _ _ _ _ hLq hxq).mono ?_); rintro e w' ⟨rfl, hb⟩; obtain ⟨hcr, hfr, hlr, hzr, -⟩ := kept hb; try simp at hzr))
    all_goals
      go_wp2
      rw [Exit.noGoto_ret]
      refine bodyPost_ret (v := (dropA 13).v) ?_ rfl ⟨rfl, ?_⟩
      · (simp [results, Try.results32, go_sem, dropA, *]; done)
      · (repeat (first | with_reducible exact Ext.rf _ | with_reducible assumption | with_reducible refine Ext.al ?_ _ | with_reducible refine Ext.dr ?_ | with_reducible refine Ext.dn ?_ _ | ((with_reducible refine Ext.st _ ?_ ?_); focus (first | omega | (simp; omega) | simp)) | with_reducible refine Ext.tr ?_ (by assumption) | with_reducible refine Ext.tr ?_ (up_ext (by assumption)) | with_reducible refine Ext.of (by assumption) ?_))

set_option maxRecDepth 100000 in
set_option maxHeartbeats 2000000 in
theorem rule_there (m : Md) (k f g : Int) (s r : Bool) (w : World) (h0 : 0 ≤ m.k) (h1 : 1 ≤ k) (h2 : k < 6) :
    Calls Try.prog 32 #[m.v, av k f g s true r] w fun e w' => e = .returned (⟨1, 0, 0, 0, 0⟩ : Ac).v ∧ Ext w w' := by
  obtain ⟨M, hM⟩ : ∃ M, M = knownM m := ⟨_, rfl⟩
  have HM := Lib.hid hM
  clear hM
  have k0 : (k == 0) = false := by simp; omega
  · go_enter Try.func32, Try.ntmps32
    go_wp2
    refine wp_scope_fwd 0 rfl ?_
    go_wp2_with ((go_at_call 48; (with_reducible refine (known_any m _ h0).mono ?_); rw [← HM.out]; rintro e w1 ⟨rfl, hbw1⟩; obtain ⟨hcw1, hfw1, hlw1, hzw1, -⟩ := kept hbw1; try simp at hzw1))
    (try simp only [Exit.jump])
    refine bodyPost_ret (v := (⟨1, 0, 0, 0, 0⟩ : Ac).v) ?_ rfl ⟨rfl, ?_⟩
    · (simp [results, Try.results32, go_sem, *]; done)
    · (repeat (first | with_reducible exact Ext.rf _ | with_reducible assumption | with_reducible refine Ext.al ?_ _ | with_reducible refine Ext.dr ?_ | with_reducible refine Ext.dn ?_ _ | ((with_reducible refine Ext.st _ ?_ ?_); focus (first | omega | (simp; omega) | simp)) | with_reducible refine Ext.tr ?_ (by assumption) | with_reducible refine Ext.tr ?_ (up_ext (by assumption)) | with_reducible refine Ext.of (by assumption) ?_))

def whyOf (k : Int) (s : Bool) : Int := if s && !(k == 2) then 17 else 16

set_option maxRecDepth 100000 in
set_option maxHeartbeats 2000000 in
theorem rule_none1 (m : Md) (k f g : Int) (r : Bool) (w : World) (h0 : 0 ≤ m.k) (h1 : 1 ≤ k) (h2 : k < 6) (hin : ∀ y ∈ rulesL.I, y.2.1 ≠ kv k false (knownM m).k) :
    Calls Try.prog 32 #[m.v, av k f g false false r] w fun e w' => e = .returned (dropA 16).v ∧ Ext w w' := by
  have k0 : (k == 0) = false := by simp; omega
  obtain ⟨M, hM⟩ : ∃ M, M = knownM m := ⟨_, rfl⟩
  have HM := Lib.hid hM
  rw [← hM] at hin
  have HI := Lib.hid hin
  clear hM hin
  · go_enter Try.func32, Try.ntmps32
    go_wp2
    refine wp_scope_fwd 0 rfl ?_
    go_wp2_with ((go_at_call 48; (with_reducible refine (known_any m _ h0).mono ?_); rw [← HM.out]; rintro e w1 ⟨rfl, hbw1⟩; obtain ⟨hcw1, hfw1, hlw1, hzw1, -⟩ := kept hbw1; try simp at hzw1))
    refine wp_named ?_
    intro W hc hf hl hz hW
    have hEw : Ext w W := Ext.of (w := w) hW (by repeat (first | with_reducible exact Ext.rf _ | with_reducible assumption | with_reducible refine Ext.al ?_ _ | with_reducible refine Ext.dr ?_ | with_reducible refine Ext.dn ?_ _ | ((with_reducible refine Ext.st _ ?_ ?_); focus (first | omega | (simp; omega) | simp)) | with_reducible refine Ext.tr ?_ (by assumption) | with_reducible refine Ext.tr ?_ (up_ext (by assumption)) | with_reducible refine Ext.of (by assumption) ?_))
    go_region_held3 (Up W) (with_reducible refine up ?_; (repeat (first | with_reducible exact Ext.rf _ | with_reducible exact up_ext (by assumption) | with_reducible refine Ext.al ?_ _ | with_reducible refine Ext.dr ?_ | with_reducible refine Ext.dn ?_ _ | ((with_reducible refine Ext.st _ ?_ ?_); focus (first | omega | (simp; omega) | simp)) | with_reducible refine Ext.tr ?_ (by assumption)))) (first | (go_at_call 49; (with_reducible refine (rules_any _).mono ?_); rintro e w' ⟨B, ff, rfl, hb, hMp, hT, hN⟩; have hlk := hMp.look keys62 Try.underlying59 (x := kv k false M.k) ⟨_, _, _, rfl⟩ .nilFunc (by kernel_rfl); simp only [none_of hN HI.out, Option.getD_none] at hlk; obtain ⟨hcq, hfq, hlq, hzq, -⟩ := kept hb; try simp at hzq))
    go_wp2
    go_step3
    refine ⟨rfl, ?_⟩
    go_wp2
    refine wp_named ?_
    intro W2 hc2 hf2 hl2 hz2 hW2
    (have hEw2 : Ext w W2 := Ext.of (w := w) hW2 (by repeat (first | with_reducible exact Ext.rf _ | with_reducible assumption | with_reducible refine Ext.al ?_ _ | with_reducible refine Ext.dr ?_ | with_reducible refine Ext.dn ?_ _ | ((with_reducible refine Ext.st _ ?_ ?_); focus (first | omega | (simp; omega) | simp)) | with_reducible refine Ext.tr ?_ (by assumption) | with_reducible refine Ext.tr ?_ (up_ext (by assumption)) | with_reducible refine Ext.of (by assumption) ?_)))
    go_region_held3 (UpE (w.heap.size + 1 + 1) w W2) (first | with_reducible exact UpE.start (by assumption) | with_reducible exact UpE.next (by assumption) (by assumption) | ((repeat ((with_reducible refine UpE.st _ ?_ ?_); focus (first | omega | (simp; omega) | simp))); with_reducible assumption)) (first | (go_at_call 50; (with_reducible refine (drop_any _ _).mono ?_); rintro e w' ⟨bq, rfl, hLq, hxq, hb⟩; obtain ⟨hcs, hfs, hls, hzs, -⟩ := kept hb; try simp at hzs) | (go_at_call 60; (with_reducible refine (drop1_any ⟨_, _, _, _⟩ _ _ _ _ _ _ _ _ _ hLq hxq).mono ?_); rintro e w' ⟨rfl, hb⟩; obtain ⟨hcr, hfr, hlr, hzr, -⟩ := kept hb; try simp at hzr))
    all_goals
      go_wp2
      rw [Exit.noGoto_ret]
      refine bodyPost_ret (v := (dropA 16).v) ?_ rfl ⟨rfl, ?_⟩
      · (simp [results, Try.results32, go_sem, dropA, *]; done)
      · (repeat (first | with_reducible exact Ext.rf _ | with_reducible assumption | with_reducible refine Ext.al ?_ _ | with_reducible refine Ext.dr ?_ | with_reducible refine Ext.dn ?_ _ | ((with_reducible refine Ext.st _ ?_ ?_); focus (first | omega | (simp; omega) | simp)) | with_reducible refine Ext.tr ?_ (by assumption) | with_reducible refine Ext.tr ?_ (up_ext (by assumption)) | with_reducible refine Ext.of (by assumption) ?_))

set_option maxRecDepth 100000 in
set_option maxHeartbeats 2000000 in
theorem rule_none2 (m : Md) (k f g : Int) (r : Bool) (w : World) (h0 : 0 ≤ m.k) (h1 : 1 ≤ k) (h2 : k < 6) (k2 : (k == 2) = true) (hin : ∀ y ∈ rulesL.I, y.2.1 ≠ kv k true (knownM m).k) :
    Calls Try.prog 32 #[m.v, av k f g true false r] w fun e w' => e = .returned (dropA 16).v ∧ Ext w w' := by
  have k0 : (k == 0) = false := by simp; omega
  obtain ⟨M, hM⟩ : ∃ M, M = knownM m := ⟨_, rfl⟩
  have HM := Lib.hid hM
  rw [← hM] at hin
  have HI := Lib.hid hin
  clear hM hin
  · go_enter Try.func32, Try.ntmps32
    go_wp2
    refine wp_scope_fwd 0 rfl ?_
    go_wp2_with ((go_at_call 48; (with_reducible refine (known_any m _ h0).mono ?_); rw [← HM.out]; rintro e w1 ⟨rfl, hbw1⟩; obtain ⟨hcw1, hfw1, hlw1, hzw1, -⟩ := kept hbw1; try simp at hzw1))
    refine wp_named ?_
    intro W hc hf hl hz hW
    have hEw : Ext w W := Ext.of (w := w) hW (by repeat (first | with_reducible exact Ext.rf _ | with_reducible assumption | with_reducible refine Ext.al ?_ _ | with_reducible refine Ext.dr ?_ | with_reducible refine Ext.dn ?_ _ | ((with_reducible refine Ext.st _ ?_ ?_); focus (first | omega | (simp; omega) | simp)) | with_reducible refine Ext.tr ?_ (by assumption) | with_reducible refine Ext.tr ?_ (up_ext (by assumption)) | with_reducible refine Ext.of (by assumption) ?_))
    go_region_held3 (Up W) (with_reducible refine up ?_; (repeat (first | with_reducible exact Ext.rf _ | with_reducible exact up_ext (by assumption) | with_reducible refine Ext.al ?_ _ | with_reducible refine Ext.dr ?_ | with_reducible refine Ext.dn ?_ _ | ((with_reducible refine Ext.st _ ?_ ?_); focus (first | omega | (simp; omega) | simp)) | with_reducible refine Ext.tr ?_ (by assumption)))) (first | (go_at_call 49; (with_reducible refine (rules_any _).mono ?_); rintro e w' ⟨B, ff, rfl, hb, hMp, hT, hN⟩; have hlk := hMp.look keys62 Try.underlying59 (x := kv k true M.k) ⟨_, _, _, rfl⟩ .nilFunc (by kernel_rfl); simp only [none_of hN HI.out, Option.getD_none] at hlk; obtain ⟨hcq, hfq, hlq, hzq, -⟩ := kept hb; try simp at hzq))
    go_wp2
    go_step3
    refine ⟨rfl, ?_⟩
    go_wp2
    refine wp_named ?_
    intro W2 hc2 hf2 hl2 hz2 hW2
    (have hEw2 : Ext w W2 := Ext.of (w := w) hW2 (by repeat (first | with_reducible exact Ext.rf _ | with_reducible assumption | with_reducible refine Ext.al ?_ _ | with_reducible refine Ext.dr ?_ | with_reducible refine Ext.dn ?_ _ | ((with_reducible refine Ext.st _ ?_ ?_); focus (first | omega | (simp; omega) | simp)) | with_reducible refine Ext.tr ?_ (by assumption) | with_reducible refine Ext.tr ?_ (up_ext (by assumption)) | with_reducible refine Ext.of (by assumption) ?_)))
    go_region_held3 (UpE (w.heap.size + 1 + 1) w W2) (first | with_reducible exact UpE.start (by assumption) | with_reducible exact UpE.next (by assumption) (by assumption) | ((repeat ((with_reducible refine UpE.st _ ?_ ?_); focus (first | omega | (simp; omega) | simp))); with_reducible assumption)) (first | (go_at_call 50; (with_reducible refine (drop_any _ _).mono ?_); rintro e w' ⟨bq, rfl, hLq, hxq, hb⟩; obtain ⟨hcs, hfs, hls, hzs, -⟩ := kept hb; try simp at hzs) | (go_at_call 60; (with_reducible refine (drop1_any ⟨_, _, _, _⟩ _ _ _ _ _ _ _ _ _ hLq hxq).mono ?_); rintro e w' ⟨rfl, hb⟩; obtain ⟨hcr, hfr, hlr, hzr, -⟩ := kept hb; try simp at hzr))
    all_goals
      go_wp2
      rw [Exit.noGoto_ret]
      refine bodyPost_ret (v := (dropA 16).v) ?_ rfl ⟨rfl, ?_⟩
      · (simp [results, Try.results32, go_sem, dropA, *]; done)
      · (repeat (first | with_reducible exact Ext.rf _ | with_reducible assumption | with_reducible refine Ext.al ?_ _ | with_reducible refine Ext.dr ?_ | with_reducible refine Ext.dn ?_ _ | ((with_reducible refine Ext.st _ ?_ ?_); focus (first | omega | (simp; omega) | simp)) | with_reducible refine Ext.tr ?_ (by assumption) | with_reducible refine Ext.tr ?_ (up_ext (by assumption)) | with_reducible refine Ext.of (by assumption) ?_))

set_option maxRecDepth 100000 in
set_option maxHeartbeats 2000000 in
theorem rule_none3 (m : Md) (k f g : Int) (r : Bool) (w : World) (h0 : 0 ≤ m.k) (h1 : 1 ≤ k) (h2 : k < 6) (k2 : (k == 2) = false) (hin : ∀ y ∈ rulesL.I, y.2.1 ≠ kv k true (knownM m).k) :
    Calls Try.prog 32 #[m.v, av k f g true false r] w fun e w' => e = .returned (dropA 17).v ∧ Ext w w' := by
  have k0 : (k == 0) = false := by simp; omega
  obtain ⟨M, hM⟩ : ∃ M, M = knownM m := ⟨_, rfl⟩
  have HM := Lib.hid hM
  rw [← hM] at hin
  have HI := Lib.hid hin
  clear hM hin
  · go_enter Try.func32, Try.ntmps32
    go_wp2
    refine wp_scope_fwd 0 rfl ?_
    go_wp2_with ((go_at_call 48; (with_reducible refine (known_any m _ h0).mono ?_); rw [← HM.out]; rintro e w1 ⟨rfl, hbw1⟩; obtain ⟨hcw1, hfw1, hlw1, hzw1, -⟩ := kept hbw1; try simp at hzw1))
    refine wp_named ?_
    intro W hc hf hl hz hW
    have hEw : Ext w W := Ext.of (w := w) hW (by repeat (first | with_reducible exact Ext.rf _ | with_reducible assumption | with_reducible refine Ext.al ?_ _ | with_reducible refine Ext.dr ?_ | with_reducible refine Ext.dn ?_ _ | ((with_reducible refine Ext.st _ ?_ ?_); focus (first | omega | (simp; omega) | simp)) | with_reducible refine Ext.tr ?_ (by assumption) | with_reducible refine Ext.tr ?_ (up_ext (by assumption)) | with_reducible refine Ext.of (by assumption) ?_))
    go_region_held3 (Up W) (with_reducible refine up ?_; (repeat (first | with_reducible exact Ext.rf _ | with_reducible exact up_ext (by assumption) | with_reducible refine Ext.al ?_ _ | with_reducible refine Ext.dr ?_ | with_reducible refine Ext.dn ?_ _ | ((with_reducible refine Ext.st _ ?_ ?_); focus (first | omega | (simp; omega) | simp)) | with_reducible refine Ext.tr ?_ (by assumption)))) (first | (go_at_call 49; (with_reducible refine (rules_any _).mono ?_); rintro e w' ⟨B, ff, rfl, hb, hMp, hT, hN⟩; have hlk := hMp.look keys62 Try.underlying59 (x := kv k true M.k) ⟨_, _, _, rfl⟩ .nilFunc (by kernel_rfl); simp only [none_of hN HI.out, Option.getD_none] at hlk; obtain ⟨hcq, hfq, hlq, hzq, -⟩ := kept hb; try simp at hzq))
    go_wp2
    go_step3
    refine ⟨rfl, ?_⟩
    go_wp2
    refine wp_named ?_
    intro W2 hc2 hf2 hl2 hz2 hW2
    (have hEw2 : Ext w W2 := Ext.of (w := w) hW2 (by repeat (first | with_reducible exact Ext.rf _ | with_reducible assumption | with_reducible refine Ext.al ?_ _ | with_reducible refine Ext.dr ?_ | with_reducible refine Ext.dn ?_ _ | ((with_reducible refine Ext.st _ ?_ ?_); focus (first | omega | (simp; omega) | simp)) | with_reducible refine Ext.tr ?_ (by assumption) | with_reducible refine Ext.tr ?_ (up_ext (by assumption)) | with_reducible refine Ext.of (by assumption) ?_)))
    go_region_held3 (UpE (w.heap.size + 1 + 1) w W2) (first | with_reducible exact UpE.start (by assumption) | with_reducible exact UpE.next (by assumption) (by assumption) | ((repeat ((with_reducible refine UpE.st _ ?_ ?_); focus (first | omega | (simp; omega) | simp))); with_reducible assumption)) (first | (go_at_call 50; (with_reducible refine (drop_any _ _).mono ?_); rintro e w' ⟨bq, rfl, hLq, hxq, hb⟩; obtain ⟨hcs, hfs, hls, hzs, -⟩ := kept hb; try simp at hzs) | (go_at_call 60; (with_reducible refine (drop1_any ⟨_, _, _, _⟩ _ _ _ _ _ _ _ _ _ hLq hxq).mono ?_); rintro e w' ⟨rfl, hb⟩; obtain ⟨hcr, hfr, hlr, hzr, -⟩ := kept hb; try simp at hzr))
    all_goals
      go_wp2
      rw [Exit.noGoto_ret]
      refine bodyPost_ret (v := (dropA 17).v) ?_ rfl ⟨rfl, ?_⟩
      · (simp [results, Try.results32, go_sem, dropA, *]; done)
      · (repeat (first | with_reducible exact Ext.rf _ | with_reducible assumption | with_reducible refine Ext.al ?_ _ | with_reducible refine Ext.dr ?_ | with_reducible refine Ext.dn ?_ _ | ((with_reducible refine Ext.st _ ?_ ?_); focus (first | omega | (simp; omega) | simp)) | with_reducible refine Ext.tr ?_ (by assumption) | with_reducible refine Ext.tr ?_ (up_ext (by assumption)) | with_reducible refine Ext.of (by assumption) ?_))

end Go.Proofs.Ytnceijlphinnhaa
