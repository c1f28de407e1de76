/- The reference of Rule returns what Rule returns. -/
import Derived.Test.YtnceijlphinnhaaR8
set_option linter.unusedSimpArgs false
namespace Go.Proofs.Ytnceijlphinnhaa
open Go.RowKit

set_option maxHeartbeats 2000000 in
theorem rrule_1_1 (m : Md) (f g : Int) (s r : Bool) (w : World) (h0 : 0 ≤ m.k) (p q : Int) (b : Bool) (hM : knownM m = ⟨1, p, q, b⟩) :
    Calls Try.prog 33 #[m.v, av 1 f g s false r] w fun e w' => e = .returned (ruleT ⟨1, p, q, b⟩ 1 f g s r).v ∧ Ext w w' := by
  have HM := Lib.hid hM.symm
  clear hM
  cases s <;> cases hq : (g == q)
  all_goals
    go_enter Try.func33, Try.ntmps33
    go_wp2_with (first | (go_at_call 47; (with_reducible refine (rknown_any m _ h0).mono ?_); rw [← HM.out]; rintro e w' ⟨rfl, hb⟩; obtain ⟨hc, hf, hl, hz, -⟩ := kept hb; try simp at hz) | (go_at_call 51; (with_reducible refine (rdrop_any _ _).mono ?_); rintro e w' ⟨rfl, hb⟩; obtain ⟨hc, hf, hl, hz, -⟩ := kept hb; try simp at hz) | (go_at_call 52; (with_reducible refine (rdata_any ⟨_, _, _, _⟩ _ _ _ _ _ _ _).mono ?_); rintro e w' ⟨rfl, hb⟩; obtain ⟨hc, hf, hl, hz, -⟩ := kept hb; try simp at hz) | (go_at_call 53; (with_reducible refine (rdirect_any ⟨_, _, _, _⟩ _ _ _ _ _ _ _).mono ?_); rintro e w' ⟨rfl, hb⟩; obtain ⟨hc, hf, hl, hz, -⟩ := kept hb; try simp at hz) | (go_at_call 54; (with_reducible refine (rsend_any _ _ _ _).mono ?_); rintro e w' ⟨rfl, hb⟩; obtain ⟨hc, hf, hl, hz, -⟩ := kept hb; try simp at hz) | (go_at_call 55; (with_reducible refine (raccept_any _ _).mono ?_); rintro e w' ⟨rfl, hb⟩; obtain ⟨hc, hf, hl, hz, -⟩ := kept hb; try simp at hz))
    all_goals first
      | (refine bodyPost_ret (v := (dataA (⟨1, p, q, b⟩ : Md) 1).v) ?_ rfl ⟨ret_ac ?_, ?_⟩
         · (simp [results, Try.results33, go_sem, dropA, acceptA, *]; done)
         · first | rfl | (simp [ruleT, dataA, directA, bounceA, bounceOk, mineA]; done) | grind [ruleT, dataA, directA, bounceA, bounceOk, mineA]
         · (repeat (first | with_reducible exact Ext.rf _ | with_reducible assumption | with_reducible refine Ext.al ?_ _ | with_reducible refine Ext.dr ?_ | with_reducible refine Ext.dn ?_ _ | ((with_reducible refine Ext.st _ ?_ ?_); focus (first | omega | (simp; omega) | simp)) | with_reducible refine Ext.tr ?_ (by assumption) | with_reducible refine Ext.tr ?_ (up_ext (by assumption)) | with_reducible refine Ext.of (by assumption) ?_)))
      | (refine bodyPost_ret (v := (directA (⟨1, p, q, b⟩ : Md) r).v) ?_ rfl ⟨ret_ac ?_, ?_⟩
         · (simp [results, Try.results33, go_sem, dropA, acceptA, *]; done)
         · first | rfl | (simp [ruleT, dataA, directA, bounceA, bounceOk, mineA]; done) | grind [ruleT, dataA, directA, bounceA, bounceOk, mineA]
         · (repeat (first | with_reducible exact Ext.rf _ | with_reducible assumption | with_reducible refine Ext.al ?_ _ | with_reducible refine Ext.dr ?_ | with_reducible refine Ext.dn ?_ _ | ((with_reducible refine Ext.st _ ?_ ?_); focus (first | omega | (simp; omega) | simp)) | with_reducible refine Ext.tr ?_ (by assumption) | with_reducible refine Ext.tr ?_ (up_ext (by assumption)) | with_reducible refine Ext.of (by assumption) ?_)))

set_option maxHeartbeats 2000000 in
theorem rrule_1_2 (m : Md) (f g : Int) (s r : Bool) (w : World) (h0 : 0 ≤ m.k) (p q : Int) (b : Bool) (hM : knownM m = ⟨1, p, q, b⟩) :
    Calls Try.prog 33 #[m.v, av 2 f g s false r] w fun e w' => e = .returned (ruleT ⟨1, p, q, b⟩ 2 f g s r).v ∧ Ext w w' := by
  have HM := Lib.hid hM.symm
  clear hM
  cases s <;> cases hq : (g == q)
  all_goals
    go_enter Try.func33, Try.ntmps33
    go_wp2_with (first | (go_at_call 47; (with_reducible refine (rknown_any m _ h0).mono ?_); rw [← HM.out]; rintro e w' ⟨rfl, hb⟩; obtain ⟨hc, hf, hl, hz, -⟩ := kept hb; try simp at hz) | (go_at_call 51; (with_reducible refine (rdrop_any _ _).mono ?_); rintro e w' ⟨rfl, hb⟩; obtain ⟨hc, hf, hl, hz, -⟩ := kept hb; try simp at hz) | (go_at_call 52; (with_reducible refine (rdata_any ⟨_, _, _, _⟩ _ _ _ _ _ _ _).mono ?_); rintro e w' ⟨rfl, hb⟩; obtain ⟨hc, hf, hl, hz, -⟩ := kept hb; try simp at hz) | (go_at_call 53; (with_reducible refine (rdirect_any ⟨_, _, _, _⟩ _ _ _ _ _ _ _).mono ?_); rintro e w' ⟨rfl, hb⟩; obtain ⟨hc, hf, hl, hz, -⟩ := kept hb; try simp at hz) | (go_at_call 54; (with_reducible refine (rsend_any _ _ _ _).mono ?_); rintro e w' ⟨rfl, hb⟩; obtain ⟨hc, hf, hl, hz, -⟩ := kept hb; try simp at hz) | (go_at_call 55; (with_reducible refine (raccept_any _ _).mono ?_); rintro e w' ⟨rfl, hb⟩; obtain ⟨hc, hf, hl, hz, -⟩ := kept hb; try simp at hz))
    all_goals first
      | (refine bodyPost_ret (v := (dataA (⟨1, p, q, b⟩ : Md) 2).v) ?_ rfl ⟨ret_ac ?_, ?_⟩
         · (simp [results, Try.results33, go_sem, dropA, acceptA, *]; done)
         · first | rfl | (simp [ruleT, dataA, directA, bounceA, bounceOk, mineA]; done) | grind [ruleT, dataA, directA, bounceA, bounceOk, mineA]
         · (repeat (first | with_reducible exact Ext.rf _ | with_reducible assumption | with_reducible refine Ext.al ?_ _ | with_reducible refine Ext.dr ?_ | with_reducible refine Ext.dn ?_ _ | ((with_reducible refine Ext.st _ ?_ ?_); focus (first | omega | (simp; omega) | simp)) | with_reducible refine Ext.tr ?_ (by assumption) | with_reducible refine Ext.tr ?_ (up_ext (by assumption)) | with_reducible refine Ext.of (by assumption) ?_)))
      | (refine bodyPost_ret (v := (dropA 16).v) ?_ rfl ⟨ret_ac ?_, ?_⟩
         · (simp [results, Try.results33, go_sem, dropA, acceptA, *]; done)
         · first | rfl | (simp [ruleT, dataA, directA, bounceA, bounceOk, mineA]; done) | grind [ruleT, dataA, directA, bounceA, bounceOk, mineA]
         · (repeat (first | with_reducible exact Ext.rf _ | with_reducible assumption | with_reducible refine Ext.al ?_ _ | with_reducible refine Ext.dr ?_ | with_reducible refine Ext.dn ?_ _ | ((with_reducible refine Ext.st _ ?_ ?_); focus (first | omega | (simp; omega) | simp)) | with_reducible refine Ext.tr ?_ (by assumption) | with_reducible refine Ext.tr ?_ (up_ext (by assumption)) | with_reducible refine Ext.of (by assumption) ?_)))

set_option maxHeartbeats 2000000 in
theorem rrule_1_3 (m : Md) (f g : Int) (s r : Bool) (w : World) (h0 : 0 ≤ m.k) (p q : Int) (b : Bool) (hM : knownM m = ⟨1, p, q, b⟩) :
    Calls Try.prog 33 #[m.v, av 3 f g s false r] w fun e w' => e = .returned (ruleT ⟨1, p, q, b⟩ 3 f g s r).v ∧ Ext w w' := by
  have HM := Lib.hid hM.symm
  clear hM
  cases s <;> cases hq : (g == q)
  all_goals
    go_enter Try.func33, Try.ntmps33
    go_wp2_with (first | (go_at_call 47; (with_reducible refine (rknown_any m _ h0).mono ?_); rw [← HM.out]; rintro e w' ⟨rfl, hb⟩; obtain ⟨hc, hf, hl, hz, -⟩ := kept hb; try simp at hz) | (go_at_call 51; (with_reducible refine (rdrop_any _ _).mono ?_); rintro e w' ⟨rfl, hb⟩; obtain ⟨hc, hf, hl, hz, -⟩ := kept hb; try simp at hz) | (go_at_call 52; (with_reducible refine (rdata_any ⟨_, _, _, _⟩ _ _ _ _ _ _ _).mono ?_); rintro e w' ⟨rfl, hb⟩; obtain ⟨hc, hf, hl, hz, -⟩ := kept hb; try simp at hz) | (go_at_call 53; (with_reducible refine (rdirect_any ⟨_, _, _, _⟩ _ _ _ _ _ _ _).mono ?_); rintro e w' ⟨rfl, hb⟩; obtain ⟨hc, hf, hl, hz, -⟩ := kept hb; try simp at hz) | (go_at_call 54; (with_reducible refine (rsend_any _ _ _ _).mono ?_); rintro e w' ⟨rfl, hb⟩; obtain ⟨hc, hf, hl, hz, -⟩ := kept hb; try simp at hz) | (go_at_call 55; (with_reducible refine (raccept_any _ _).mono ?_); rintro e w' ⟨rfl, hb⟩; obtain ⟨hc, hf, hl, hz, -⟩ := kept hb; try simp at hz))
    all_goals first
      | (refine bodyPost_ret (v := (dataA (⟨1, p, q, b⟩ : Md) 3).v) ?_ rfl ⟨ret_ac ?_, ?_⟩
         · (simp [results, Try.results33, go_sem, dropA, acceptA, *]; done)
         · first | rfl | (simp [ruleT, dataA, directA, bounceA, bounceOk, mineA]; done) | grind [ruleT, dataA, directA, bounceA, bounceOk, mineA]
         · (repeat (first | with_reducible exact Ext.rf _ | with_reducible assumption | with_reducible refine Ext.al ?_ _ | with_reducible refine Ext.dr ?_ | with_reducible refine Ext.dn ?_ _ | ((with_reducible refine Ext.st _ ?_ ?_); focus (first | omega | (simp; omega) | simp)) | with_reducible refine Ext.tr ?_ (by assumption) | with_reducible refine Ext.tr ?_ (up_ext (by assumption)) | with_reducible refine Ext.of (by assumption) ?_)))
      | (refine bodyPost_ret (v := ((⟨3, 0, 4, f, g⟩ : Ac)).v) ?_ rfl ⟨ret_ac ?_, ?_⟩
         · (simp [results, Try.results33, go_sem, dropA, acceptA, *]; done)
         · first | rfl | (simp [ruleT, dataA, directA, bounceA, bounceOk, mineA]; done) | grind [ruleT, dataA, directA, bounceA, bounceOk, mineA]
         · (repeat (first | with_reducible exact Ext.rf _ | with_reducible assumption | with_reducible refine Ext.al ?_ _ | with_reducible refine Ext.dr ?_ | with_reducible refine Ext.dn ?_ _ | ((with_reducible refine Ext.st _ ?_ ?_); focus (first | omega | (simp; omega) | simp)) | with_reducible refine Ext.tr ?_ (by assumption) | with_reducible refine Ext.tr ?_ (up_ext (by assumption)) | with_reducible refine Ext.of (by assumption) ?_)))
      | (refine bodyPost_ret (v := (dropA 17).v) ?_ rfl ⟨ret_ac ?_, ?_⟩
         · (simp [results, Try.results33, go_sem, dropA, acceptA, *]; done)
         · first | rfl | (simp [ruleT, dataA, directA, bounceA, bounceOk, mineA]; done) | grind [ruleT, dataA, directA, bounceA, bounceOk, mineA]
         · (repeat (first | with_reducible exact Ext.rf _ | with_reducible assumption | with_reducible refine Ext.al ?_ _ | with_reducible refine Ext.dr ?_ | with_reducible refine Ext.dn ?_ _ | ((with_reducible refine Ext.st _ ?_ ?_); focus (first | omega | (simp; omega) | simp)) | with_reducible refine Ext.tr ?_ (by assumption) | with_reducible refine Ext.tr ?_ (up_ext (by assumption)) | with_reducible refine Ext.of (by assumption) ?_)))

set_option maxHeartbeats 2000000 in
theorem rrule_1_4 (m : Md) (f g : Int) (s r : Bool) (w : World) (h0 : 0 ≤ m.k) (p q : Int) (b : Bool) (hM : knownM m = ⟨1, p, q, b⟩) :
    Calls Try.prog 33 #[m.v, av 4 f g s false r] w fun e w' => e = .returned (ruleT ⟨1, p, q, b⟩ 4 f g s r).v ∧ Ext w w' := by
  have HM := Lib.hid hM.symm
  clear hM
  cases s <;> cases hq : (g == q)
  all_goals
    go_enter Try.func33, Try.ntmps33
    go_wp2_with (first | (go_at_call 47; (with_reducible refine (rknown_any m _ h0).mono ?_); rw [← HM.out]; rintro e w' ⟨rfl, hb⟩; obtain ⟨hc, hf, hl, hz, -⟩ := kept hb; try simp at hz) | (go_at_call 51; (with_reducible refine (rdrop_any _ _).mono ?_); rintro e w' ⟨rfl, hb⟩; obtain ⟨hc, hf, hl, hz, -⟩ := kept hb; try simp at hz) | (go_at_call 52; (with_reducible refine (rdata_any ⟨_, _, _, _⟩ _ _ _ _ _ _ _).mono ?_); rintro e w' ⟨rfl, hb⟩; obtain ⟨hc, hf, hl, hz, -⟩ := kept hb; try simp at hz) | (go_at_call 53; (with_reducible refine (rdirect_any ⟨_, _, _, _⟩ _ _ _ _ _ _ _).mono ?_); rintro e w' ⟨rfl, hb⟩; obtain ⟨hc, hf, hl, hz, -⟩ := kept hb; try simp at hz) | (go_at_call 54; (with_reducible refine (rsend_any _ _ _ _).mono ?_); rintro e w' ⟨rfl, hb⟩; obtain ⟨hc, hf, hl, hz, -⟩ := kept hb; try simp at hz) | (go_at_call 55; (with_reducible refine (raccept_any _ _).mono ?_); rintro e w' ⟨rfl, hb⟩; obtain ⟨hc, hf, hl, hz, -⟩ := kept hb; try simp at hz))
    all_goals first
      | (refine bodyPost_ret (v := (dataA (⟨1, p, q, b⟩ : Md) 4).v) ?_ rfl ⟨ret_ac ?_, ?_⟩
         · (simp [results, Try.results33, go_sem, dropA, acceptA, *]; done)
         · first | rfl | (simp [ruleT, dataA, directA, bounceA, bounceOk, mineA]; done) | grind [ruleT, dataA, directA, bounceA, bounceOk, mineA]
         · (repeat (first | with_reducible exact Ext.rf _ | with_reducible assumption | with_reducible refine Ext.al ?_ _ | with_reducible refine Ext.dr ?_ | with_reducible refine Ext.dn ?_ _ | ((with_reducible refine Ext.st _ ?_ ?_); focus (first | omega | (simp; omega) | simp)) | with_reducible refine Ext.tr ?_ (by assumption) | with_reducible refine Ext.tr ?_ (up_ext (by assumption)) | with_reducible refine Ext.of (by assumption) ?_)))
      | (refine bodyPost_ret (v := (acceptA r).v) ?_ rfl ⟨ret_ac ?_, ?_⟩
         · (simp [results, Try.results33, go_sem, dropA, acceptA, *]; done)
         · first | rfl | (simp [ruleT, dataA, directA, bounceA, bounceOk, mineA]; done) | grind [ruleT, dataA, directA, bounceA, bounceOk, mineA]
         · (repeat (first | with_reducible exact Ext.rf _ | with_reducible assumption | with_reducible refine Ext.al ?_ _ | with_reducible refine Ext.dr ?_ | with_reducible refine Ext.dn ?_ _ | ((with_reducible refine Ext.st _ ?_ ?_); focus (first | omega | (simp; omega) | simp)) | with_reducible refine Ext.tr ?_ (by assumption) | with_reducible refine Ext.tr ?_ (up_ext (by assumption)) | with_reducible refine Ext.of (by assumption) ?_)))
      | (refine bodyPost_ret (v := (dropA 17).v) ?_ rfl ⟨ret_ac ?_, ?_⟩
         · (simp [results, Try.results33, go_sem, dropA, acceptA, *]; done)
         · first | rfl | (simp [ruleT, dataA, directA, bounceA, bounceOk, mineA]; done) | grind [ruleT, dataA, directA, bounceA, bounceOk, mineA]
         · (repeat (first | with_reducible exact Ext.rf _ | with_reducible assumption | with_reducible refine Ext.al ?_ _ | with_reducible refine Ext.dr ?_ | with_reducible refine Ext.dn ?_ _ | ((with_reducible refine Ext.st _ ?_ ?_); focus (first | omega | (simp; omega) | simp)) | with_reducible refine Ext.tr ?_ (by assumption) | with_reducible refine Ext.tr ?_ (up_ext (by assumption)) | with_reducible refine Ext.of (by assumption) ?_)))

set_option maxHeartbeats 2000000 in
theorem rrule_1_5 (m : Md) (f g : Int) (s r : Bool) (w : World) (h0 : 0 ≤ m.k) (p q : Int) (b : Bool) (hM : knownM m = ⟨1, p, q, b⟩) :
    Calls Try.prog 33 #[m.v, av 5 f g s false r] w fun e w' => e = .returned (ruleT ⟨1, p, q, b⟩ 5 f g s r).v ∧ Ext w w' := by
  have HM := Lib.hid hM.symm
  clear hM
  cases s <;> cases hq : (g == q)
  all_goals
    go_enter Try.func33, Try.ntmps33
    go_wp2_with (first | (go_at_call 47; (with_reducible refine (rknown_any m _ h0).mono ?_); rw [← HM.out]; rintro e w' ⟨rfl, hb⟩; obtain ⟨hc, hf, hl, hz, -⟩ := kept hb; try simp at hz) | (go_at_call 51; (with_reducible refine (rdrop_any _ _).mono ?_); rintro e w' ⟨rfl, hb⟩; obtain ⟨hc, hf, hl, hz, -⟩ := kept hb; try simp at hz) | (go_at_call 52; (with_reducible refine (rdata_any ⟨_, _, _, _⟩ _ _ _ _ _ _ _).mono ?_); rintro e w' ⟨rfl, hb⟩; obtain ⟨hc, hf, hl, hz, -⟩ := kept hb; try simp at hz) | (go_at_call 53; (with_reducible refine (rdirect_any ⟨_, _, _, _⟩ _ _ _ _ _ _ _).mono ?_); rintro e w' ⟨rfl, hb⟩; obtain ⟨hc, hf, hl, hz, -⟩ := kept hb; try simp at hz) | (go_at_call 54; (with_reducible refine (rsend_any _ _ _ _).mono ?_); rintro e w' ⟨rfl, hb⟩; obtain ⟨hc, hf, hl, hz, -⟩ := kept hb; try simp at hz) | (go_at_call 55; (with_reducible refine (raccept_any _ _).mono ?_); rintro e w' ⟨rfl, hb⟩; obtain ⟨hc, hf, hl, hz, -⟩ := kept hb; try simp at hz))
    all_goals first
      | (refine bodyPost_ret (v := (dataA (⟨1, p, q, b⟩ : Md) 5).v) ?_ rfl ⟨ret_ac ?_, ?_⟩
         · (simp [results, Try.results33, go_sem, dropA, acceptA, *]; done)
         · first | rfl | (simp [ruleT, dataA, directA, bounceA, bounceOk, mineA]; done) | grind [ruleT, dataA, directA, bounceA, bounceOk, mineA]
         · (repeat (first | with_reducible exact Ext.rf _ | with_reducible assumption | with_reducible refine Ext.al ?_ _ | with_reducible refine Ext.dr ?_ | with_reducible refine Ext.dn ?_ _ | ((with_reducible refine Ext.st _ ?_ ?_); focus (first | omega | (simp; omega) | simp)) | with_reducible refine Ext.tr ?_ (by assumption) | with_reducible refine Ext.tr ?_ (up_ext (by assumption)) | with_reducible refine Ext.of (by assumption) ?_)))
      | (refine bodyPost_ret (v := (acceptA r).v) ?_ rfl ⟨ret_ac ?_, ?_⟩
         · (simp [results, Try.results33, go_sem, dropA, acceptA, *]; done)
         · first | rfl | (simp [ruleT, dataA, directA, bounceA, bounceOk, mineA]; done) | grind [ruleT, dataA, directA, bounceA, bounceOk, mineA]
         · (repeat (first | with_reducible exact Ext.rf _ | with_reducible assumption | with_reducible refine Ext.al ?_ _ | with_reducible refine Ext.dr ?_ | with_reducible refine Ext.dn ?_ _ | ((with_reducible refine Ext.st _ ?_ ?_); focus (first | omega | (simp; omega) | simp)) | with_reducible refine Ext.tr ?_ (by assumption) | with_reducible refine Ext.tr ?_ (up_ext (by assumption)) | with_reducible refine Ext.of (by assumption) ?_)))
      | (refine bodyPost_ret (v := (dropA 17).v) ?_ rfl ⟨ret_ac ?_, ?_⟩
         · (simp [results, Try.results33, go_sem, dropA, acceptA, *]; done)
         · first | rfl | (simp [ruleT, dataA, directA, bounceA, bounceOk, mineA]; done) | grind [ruleT, dataA, directA, bounceA, bounceOk, mineA]
         · (repeat (first | with_reducible exact Ext.rf _ | with_reducible assumption | with_reducible refine Ext.al ?_ _ | with_reducible refine Ext.dr ?_ | with_reducible refine Ext.dn ?_ _ | ((with_reducible refine Ext.st _ ?_ ?_); focus (first | omega | (simp; omega) | simp)) | with_reducible refine Ext.tr ?_ (by assumption) | with_reducible refine Ext.tr ?_ (up_ext (by assumption)) | with_reducible refine Ext.of (by assumption) ?_)))

end Go.Proofs.Ytnceijlphinnhaa
