/- The reference of Rule returns what Rule returns, for any mode and anything asked. -/
import Derived.Test.YtnceijlphinnhaaR9c0
import Derived.Test.YtnceijlphinnhaaR9c1
import Derived.Test.YtnceijlphinnhaaR9c2
import Derived.Test.YtnceijlphinnhaaR9c3
set_option linter.unusedSimpArgs false
namespace Go.Proofs.Ytnceijlphinnhaa
open Go.RowKit

theorem known_k (m : Md) (h0 : 0 ≤ m.k) : (knownM m).k = 0 ∨ (knownM m).k = 1 ∨ (knownM m).k = 2 ∨ (knownM m).k = 3 := by
  unfold knownM
  split
  · rename_i h
    unfold Md.right rightB at h
    split at h
    · cases h
    · omega
  · exact Or.inl rfl

set_option maxHeartbeats 2000000 in
theorem rrule_kind (m : Md) (k f g : Int) (s n r : Bool) (w : World) (h0 : 0 ≤ m.k) (hk0 : 0 ≤ k) (hk : k = 0 ∨ 6 ≤ k) :
    Calls Try.prog 33 #[m.v, av k f g s n r] w fun e w' => e = .returned (dropA 13).v ∧ Ext w w' := by
  obtain ⟨M, hM⟩ : ∃ M, M = knownM m := ⟨_, rfl⟩
  have HM := Lib.hid hM
  clear hM
  rcases hk with rfl | hk
  · clear hk0
    go_enter Try.func33, Try.ntmps33
    go_wp2_with (first | (go_at_call 47; (with_reducible refine (rknown_any m _ h0).mono ?_); rw [← HM.out]; rintro e w' ⟨rfl, hb⟩; obtain ⟨hc, hf, hl, hz, -⟩ := kept hb; try simp at hz) | (go_at_call 51; (with_reducible refine (rdrop_any _ _).mono ?_); rintro e w' ⟨rfl, hb⟩; obtain ⟨hc, hf, hl, hz, -⟩ := kept hb; try simp at hz))
    all_goals
      refine bodyPost_ret (v := (dropA 13).v) ?_ rfl ⟨rfl, ?_⟩
      · (simp [results, Try.results33, go_sem, dropA, *]; done)
      · (repeat (first | with_reducible exact Ext.rf _ | with_reducible assumption | with_reducible refine Ext.al ?_ _ | with_reducible refine Ext.dr ?_ | with_reducible refine Ext.dn ?_ _ | ((with_reducible refine Ext.st _ ?_ ?_); focus (first | omega | (simp; omega) | simp)) | with_reducible refine Ext.tr ?_ (by assumption) | with_reducible refine Ext.tr ?_ (up_ext (by assumption)) | with_reducible refine Ext.of (by assumption) ?_))
  · have k1 : ¬ k < 1 := by omega
    go_enter Try.func33, Try.ntmps33
    go_wp2_with (first | (go_at_call 47; (with_reducible refine (rknown_any m _ h0).mono ?_); rw [← HM.out]; rintro e w' ⟨rfl, hb⟩; obtain ⟨hc, hf, hl, hz, -⟩ := kept hb; try simp at hz) | (go_at_call 51; (with_reducible refine (rdrop_any _ _).mono ?_); rintro e w' ⟨rfl, hb⟩; obtain ⟨hc, hf, hl, hz, -⟩ := kept hb; try simp at hz))
    all_goals
      refine bodyPost_ret (v := (dropA 13).v) ?_ rfl ⟨rfl, ?_⟩
      · (simp [results, Try.results33, go_sem, dropA, *]; done)
      · (repeat (first | with_reducible exact Ext.rf _ | with_reducible assumption | with_reducible refine Ext.al ?_ _ | with_reducible refine Ext.dr ?_ | with_reducible refine Ext.dn ?_ _ | ((with_reducible refine Ext.st _ ?_ ?_); focus (first | omega | (simp; omega) | simp)) | with_reducible refine Ext.tr ?_ (by assumption) | with_reducible refine Ext.tr ?_ (up_ext (by assumption)) | with_reducible refine Ext.of (by assumption) ?_))

set_option maxHeartbeats 2000000 in
theorem rrule_there (m : Md) (k f g : Int) (s r : Bool) (w : World) (h0 : 0 ≤ m.k) (h1 : 1 ≤ k) (h2 : k < 6) :
    Calls Try.prog 33 #[m.v, av k f g s true r] w fun e w' => e = .returned (⟨1, 0, 0, 0, 0⟩ : Ac).v ∧ Ext w w' := by
  obtain ⟨M, hM⟩ : ∃ M, M = knownM m := ⟨_, rfl⟩
  have HM := Lib.hid hM
  clear hM
  · skip
    go_enter Try.func33, Try.ntmps33
    go_wp2_with (first | (go_at_call 47; (with_reducible refine (rknown_any m _ h0).mono ?_); rw [← HM.out]; rintro e w' ⟨rfl, hb⟩; obtain ⟨hc, hf, hl, hz, -⟩ := kept hb; try simp at hz) | (go_at_call 51; (with_reducible refine (rdrop_any _ _).mono ?_); rintro e w' ⟨rfl, hb⟩; obtain ⟨hc, hf, hl, hz, -⟩ := kept hb; try simp at hz))
    all_goals
      refine bodyPost_ret (v := (⟨1, 0, 0, 0, 0⟩ : Ac).v) ?_ rfl ⟨rfl, ?_⟩
      · (simp [results, Try.results33, go_sem, dropA, *]; done)
      · (repeat (first | with_reducible exact Ext.rf _ | with_reducible assumption | with_reducible refine Ext.al ?_ _ | with_reducible refine Ext.dr ?_ | with_reducible refine Ext.dn ?_ _ | ((with_reducible refine Ext.st _ ?_ ?_); focus (first | omega | (simp; omega) | simp)) | with_reducible refine Ext.tr ?_ (by assumption) | with_reducible refine Ext.tr ?_ (up_ext (by assumption)) | with_reducible refine Ext.of (by assumption) ?_))

theorem rrule_any (m : Md) (k f g : Int) (s n r : Bool) (w : World) (h0 : 0 ≤ m.k) (hk0 : 0 ≤ k) :
    Calls Try.prog 33 #[m.v, av k f g s n r] w fun e w' => e = .returned (ruleA m k f g s n r).v ∧ Ext w w' := by
  unfold ruleA
  by_cases hk : k = 0 ∨ 6 ≤ k
  · rw [if_pos hk]; exact rrule_kind m k f g s n r w h0 hk0 hk
  rw [if_neg hk]
  cases n
  case true => exact rrule_there m k f g s r w h0 (by omega) (by omega)
  rw [if_neg (by simp)]
  have hc := known_k m h0
  obtain ⟨M, hM⟩ : ∃ M, knownM m = M := ⟨_, rfl⟩
  rw [hM] at hc ⊢
  obtain ⟨c, p, q, b⟩ := M
  have hk5 : k = 1 ∨ k = 2 ∨ k = 3 ∨ k = 4 ∨ k = 5 := by omega
  rcases hc with hc | hc | hc | hc <;> (dsimp only at hc; subst hc) <;> rcases hk5 with rfl | rfl | rfl | rfl | rfl
  · exact rrule_0_1 m f g s r w h0 p q b hM
  · exact rrule_0_2 m f g s r w h0 p q b hM
  · exact rrule_0_3 m f g s r w h0 p q b hM
  · exact rrule_0_4 m f g s r w h0 p q b hM
  · exact rrule_0_5 m f g s r w h0 p q b hM
  · exact rrule_1_1 m f g s r w h0 p q b hM
  · exact rrule_1_2 m f g s r w h0 p q b hM
  · exact rrule_1_3 m f g s r w h0 p q b hM
  · exact rrule_1_4 m f g s r w h0 p q b hM
  · exact rrule_1_5 m f g s r w h0 p q b hM
  · exact rrule_2_1 m f g s r w h0 p q b hM
  · exact rrule_2_2 m f g s r w h0 p q b hM
  · exact rrule_2_3 m f g s r w h0 p q b hM
  · exact rrule_2_4 m f g s r w h0 p q b hM
  · exact rrule_2_5 m f g s r w h0 p q b hM
  · exact rrule_3_1 m f g s r w h0 p q b hM
  · exact rrule_3_2 m f g s r w h0 p q b hM
  · exact rrule_3_3 m f g s r w h0 p q b hM
  · exact rrule_3_4 m f g s r w h0 p q b hM
  · exact rrule_3_5 m f g s r w h0 p q b hM

end Go.Proofs.Ytnceijlphinnhaa
