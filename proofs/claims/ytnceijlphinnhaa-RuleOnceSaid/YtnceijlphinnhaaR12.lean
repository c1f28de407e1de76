/- What Words of the package rule returns, and that of its reference. -/
import Derived.Test.YtnceijlphinnhaaR11
set_option linter.unusedSimpArgs false
namespace Go.Proofs.Ytnceijlphinnhaa
open Go.RowKit

theorem ret_i {a b : Int} (h : a = b) : Ending.returned (.int .i64 a) = .returned (.int .i64 b) := by rw [h]
/-- To whom is sent as that kind. -/
def toOf (m : Md) (s : Bool) (x : Int) : Int := if (ruleA m 1 0 0 s false false).d = 3 ∧ (ruleA m 1 0 0 s false false).k = x then (ruleA m 1 0 0 s false false).t else -1

set_option maxHeartbeats 1000000 in
theorem words1_any (m : Md) (s : Bool) (x : Int) (b : Nat) (w : World) (h0 : 0 ≤ m.k) (_hL : Lt b w) (c0 : w.cell? ⟨b, 0, none⟩ = some (.int .u8 m.k)) (c1 : w.cell? ⟨b, 1, none⟩ = some (.int .i64 m.p)) (c2 : w.cell? ⟨b, 2, none⟩ = some (.int .i64 m.g)) (c3 : w.cell? ⟨b, 3, none⟩ = some (.bool m.r)) :
    Calls Try.prog 46 #[.bool s, .int .u8 x, .pointer (some ⟨b, 0, none⟩)] w fun e w' => e = .returned (.int .i64 (toOf m s x)) ∧ Ext w w' := by
  go_enter Try.func46, Try.ntmps46
  go_wp2_with (first | (go_at_call 32; (with_reducible refine (rule_any m _ _ _ _ _ _ _ h0 (by omega)).mono ?_); rintro e w' ⟨rfl, hb⟩; obtain ⟨hc, hf, hl, hz, -⟩ := kept hb; try simp at hz) | (go_at_call 36; (with_reducible refine (ruleSends_any (ruleA m 1 0 0 s false false) _).mono ?_); rintro e w' ⟨rfl, hb⟩; obtain ⟨hc, hf, hl, hz, -⟩ := kept hb; try simp at hz))
  all_goals go_ret
  all_goals (refine ⟨ret_i ?_, ?_⟩)
  all_goals first | (guard_target =~ Below _ _ _; (repeat (first | with_reducible exact Ext.rf _ | with_reducible assumption | with_reducible refine Ext.al ?_ _ | with_reducible refine Ext.dr ?_ | with_reducible refine Ext.dn ?_ _ | ((with_reducible refine Ext.st _ ?_ ?_); focus (first | omega | (simp; omega) | simp)) | with_reducible refine Ext.tr ?_ (by assumption) | with_reducible refine Ext.tr ?_ (up_ext (by assumption)) | with_reducible refine Ext.of (by assumption) ?_))) | grind [toOf]

set_option maxHeartbeats 1000000 in
theorem words_any (m : Md) (w : World) (h0 : 0 ≤ m.k) :
    Calls Try.prog 30 #[m.v] w fun e w' => e = .returned (.tuple #[.int .i64 (toOf m false 2), .int .i64 (toOf m true 3), .int .i64 (toOf m true 5)]) ∧ Ext w w' := by
  go_enter Try.func30, Try.ntmps30
  go_wp2_with (first | (go_at_call_of 46 (Value.int IntKind.u8 2); (with_reducible refine (words1_any m false 2 _ _ h0 ?_ ?_ ?_ ?_ ?_).mono ?_); go_simp; go_simp; go_simp; go_simp; go_simp; rintro e w' ⟨rfl, hb⟩; obtain ⟨hc, hf, hl, hz, -⟩ := kept hb; try simp at hz) | (go_at_call_of 46 (Value.int IntKind.u8 3); (with_reducible refine (words1_any m true 3 _ _ h0 ?_ ?_ ?_ ?_ ?_).mono ?_); go_simp; go_simp; go_simp; go_simp; go_simp; rintro e w' ⟨rfl, hb⟩; obtain ⟨hc, hf, hl, hz, -⟩ := kept hb; try simp at hz) | (go_at_call_of 46 (Value.int IntKind.u8 5); (with_reducible refine (words1_any m true 5 _ _ h0 ?_ ?_ ?_ ?_ ?_).mono ?_); go_simp; go_simp; go_simp; go_simp; go_simp; rintro e w' ⟨rfl, hb⟩; obtain ⟨hc, hf, hl, hz, -⟩ := kept hb; try simp at hz))
  go_ret3
  exact ⟨rfl, by repeat (first | with_reducible exact Ext.rf _ | with_reducible assumption | with_reducible refine Ext.al ?_ _ | with_reducible refine Ext.dr ?_ | with_reducible refine Ext.dn ?_ _ | ((with_reducible refine Ext.st _ ?_ ?_); focus (first | omega | (simp; omega) | simp)) | with_reducible refine Ext.tr ?_ (by assumption) | with_reducible refine Ext.tr ?_ (up_ext (by assumption)) | with_reducible refine Ext.of (by assumption) ?_)⟩

theorem ret_iii {a b c a' b' c' : Int} (h1 : a = a') (h2 : b = b') (h3 : c = c') : Ending.returned (.tuple #[.int .i64 a, .int .i64 b, .int .i64 c]) = .returned (.tuple #[.int .i64 a', .int .i64 b', .int .i64 c']) := by rw [h1, h2, h3]

theorem rwords_0 (m : Md) (w : World) (h0 : 0 ≤ m.k) (p q : Int) (b : Bool) (hM : knownM m = ⟨0, p, q, b⟩) :
    Calls Try.prog 31 #[m.v] w fun e w' => e = .returned (.tuple #[.int .i64 (toOf m false 2), .int .i64 (toOf m true 3), .int .i64 (toOf m true 5)]) ∧ Ext w w' := by
  have HM := Lib.hid hM.symm
  have HN := Lib.hid hM
  clear hM
  go_enter Try.func31, Try.ntmps31
  go_wp2_with (first | (go_at_call 47; (with_reducible refine (rknown_any m _ h0).mono ?_); rw [← HM.out]; rintro e w' ⟨rfl, hb⟩; obtain ⟨hc, hf, hl, hz, -⟩ := kept hb; try simp at hz))
  go_ret3
  refine ⟨ret_iii ?_ ?_ ?_, by repeat (first | with_reducible exact Ext.rf _ | with_reducible assumption | with_reducible refine Ext.al ?_ _ | with_reducible refine Ext.dr ?_ | with_reducible refine Ext.dn ?_ _ | ((with_reducible refine Ext.st _ ?_ ?_); focus (first | omega | (simp; omega) | simp)) | with_reducible refine Ext.tr ?_ (by assumption) | with_reducible refine Ext.tr ?_ (up_ext (by assumption)) | with_reducible refine Ext.of (by assumption) ?_)⟩ <;> simp [toOf, ruleA, HN.out, ruleT, dropA, acceptA, acceptC, acceptW]

theorem rwords_1 (m : Md) (w : World) (h0 : 0 ≤ m.k) (p q : Int) (b : Bool) (hM : knownM m = ⟨1, p, q, b⟩) :
    Calls Try.prog 31 #[m.v] w fun e w' => e = .returned (.tuple #[.int .i64 (toOf m false 2), .int .i64 (toOf m true 3), .int .i64 (toOf m true 5)]) ∧ Ext w w' := by
  have HM := Lib.hid hM.symm
  have HN := Lib.hid hM
  clear hM
  go_enter Try.func31, Try.ntmps31
  go_wp2_with (first | (go_at_call 47; (with_reducible refine (rknown_any m _ h0).mono ?_); rw [← HM.out]; rintro e w' ⟨rfl, hb⟩; obtain ⟨hc, hf, hl, hz, -⟩ := kept hb; try simp at hz))
  go_ret3
  refine ⟨ret_iii ?_ ?_ ?_, by repeat (first | with_reducible exact Ext.rf _ | with_reducible assumption | with_reducible refine Ext.al ?_ _ | with_reducible refine Ext.dr ?_ | with_reducible refine Ext.dn ?_ _ | ((with_reducible refine Ext.st _ ?_ ?_); focus (first | omega | (simp; omega) | simp)) | with_reducible refine Ext.tr ?_ (by assumption) | with_reducible refine Ext.tr ?_ (up_ext (by assumption)) | with_reducible refine Ext.of (by assumption) ?_)⟩ <;> simp [toOf, ruleA, HN.out, ruleT, dropA, acceptA, acceptC, acceptW]

theorem rwords_2 (m : Md) (w : World) (h0 : 0 ≤ m.k) (p q : Int) (b : Bool) (hM : knownM m = ⟨2, p, q, b⟩) :
    Calls Try.prog 31 #[m.v] w fun e w' => e = .returned (.tuple #[.int .i64 (toOf m false 2), .int .i64 (toOf m true 3), .int .i64 (toOf m true 5)]) ∧ Ext w w' := by
  have HM := Lib.hid hM.symm
  have HN := Lib.hid hM
  clear hM
  go_enter Try.func31, Try.ntmps31
  go_wp2_with (first | (go_at_call 47; (with_reducible refine (rknown_any m _ h0).mono ?_); rw [← HM.out]; rintro e w' ⟨rfl, hb⟩; obtain ⟨hc, hf, hl, hz, -⟩ := kept hb; try simp at hz))
  go_quiet (fail)
  go_wp2
  go_ret3
  refine ⟨ret_iii ?_ ?_ ?_, by repeat (first | with_reducible exact Ext.rf _ | with_reducible assumption | with_reducible refine Ext.al ?_ _ | with_reducible refine Ext.dr ?_ | with_reducible refine Ext.dn ?_ _ | ((with_reducible refine Ext.st _ ?_ ?_); focus (first | omega | (simp; omega) | simp)) | with_reducible refine Ext.tr ?_ (by assumption) | with_reducible refine Ext.tr ?_ (up_ext (by assumption)) | with_reducible refine Ext.of (by assumption) ?_)⟩ <;> simp [toOf, ruleA, HN.out, ruleT, dropA, acceptA, acceptC, acceptW]

theorem rwords_3 (m : Md) (w : World) (h0 : 0 ≤ m.k) (p q : Int) (b : Bool) (hM : knownM m = ⟨3, p, q, b⟩) :
    Calls Try.prog 31 #[m.v] w fun e w' => e = .returned (.tuple #[.int .i64 (toOf m false 2), .int .i64 (toOf m true 3), .int .i64 (toOf m true 5)]) ∧ Ext w w' := by
  have HM := Lib.hid hM.symm
  have HN := Lib.hid hM
  clear hM
  go_enter Try.func31, Try.ntmps31
  go_wp2_with (first | (go_at_call 47; (with_reducible refine (rknown_any m _ h0).mono ?_); rw [← HM.out]; rintro e w' ⟨rfl, hb⟩; obtain ⟨hc, hf, hl, hz, -⟩ := kept hb; try simp at hz))
  go_quiet (fail)
  go_wp2
  go_ret3
  refine ⟨ret_iii ?_ ?_ ?_, by repeat (first | with_reducible exact Ext.rf _ | with_reducible assumption | with_reducible refine Ext.al ?_ _ | with_reducible refine Ext.dr ?_ | with_reducible refine Ext.dn ?_ _ | ((with_reducible refine Ext.st _ ?_ ?_); focus (first | omega | (simp; omega) | simp)) | with_reducible refine Ext.tr ?_ (by assumption) | with_reducible refine Ext.tr ?_ (up_ext (by assumption)) | with_reducible refine Ext.of (by assumption) ?_)⟩ <;> simp [toOf, ruleA, HN.out, ruleT, dropA, acceptA, acceptC, acceptW]

theorem rwords_any (m : Md) (w : World) (h0 : 0 ≤ m.k) :
    Calls Try.prog 31 #[m.v] w fun e w' => e = .returned (.tuple #[.int .i64 (toOf m false 2), .int .i64 (toOf m true 3), .int .i64 (toOf m true 5)]) ∧ Ext w w' := by
  have hc := known_k m h0
  obtain ⟨M, hM⟩ : ∃ M, knownM m = M := ⟨_, rfl⟩
  rw [hM] at hc
  obtain ⟨c, p, q, b⟩ := M
  rcases hc with hc | hc | hc | hc <;> (dsimp only at hc; subst hc)
  · exact rwords_0 m w h0 p q b hM
  · exact rwords_1 m w h0 p q b hM
  · exact rwords_2 m w h0 p q b hM
  · exact rwords_3 m w h0 p q b hM

end Go.Proofs.Ytnceijlphinnhaa
