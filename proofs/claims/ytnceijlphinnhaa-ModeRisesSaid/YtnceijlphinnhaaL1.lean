/- The examples of the chapter on modes hold, and what 'does' returns. -/
import Derived.Test.YtnceijlphinnhaaM3
namespace Go.Proofs.Ytnceijlphinnhaa
open Go.RowKit
set_option maxRecDepth 100000 in
set_option maxHeartbeats 4000000 in
theorem wakes_any (w : World) :
    Calls Try.prog 28 #[] w fun e w' => e = .returned (.bool true) ∧ Ext w w' := by
  have q0 : grant ⟨0, -1, 0, false⟩ 1 (-1) = ⟨1, -1, 1, false⟩ := by decide
  have q1 : grantB ⟨0, -1, 0, false⟩ 1 (-1) = true := by decide
  have q2 : drain ⟨1, -1, 1, false⟩ 2 3 = ⟨3, 3, 2, false⟩ := by decide
  have q3 : drainB ⟨1, -1, 1, false⟩ 2 3 = true := by decide
  have q4 : grant ⟨3, 3, 2, false⟩ 1 (-1) = ⟨3, 3, 2, false⟩ := by decide
  have q5 : grantB ⟨3, 3, 2, false⟩ 1 (-1) = false := by decide
  have q6 : retire ⟨3, 3, 2, false⟩ 2 = ⟨3, 3, 2, true⟩ := by decide
  have q7 : retireB ⟨3, 3, 2, false⟩ 2 = true := by decide
  have q8 : retire ⟨3, 3, 2, true⟩ 2 = ⟨3, 3, 2, true⟩ := by decide
  have q9 : retireB ⟨3, 3, 2, true⟩ 2 = false := by decide
  have q10 : grant ⟨3, 3, 2, true⟩ 5 2 = ⟨2, 2, 5, false⟩ := by decide
  have q11 : grantB ⟨3, 3, 2, true⟩ 5 2 = true := by decide
  have q12 : chainI ⟨3, 3, 2, false⟩ = 3 := by decide
  have q13 : chainB ⟨3, 3, 2, false⟩ = true := by decide
  have q14 : probeI ⟨2, 2, 5, false⟩ = 2 := by decide
  have q15 : probeB ⟨2, 2, 5, false⟩ = true := by decide
  have q16 : probeB ⟨3, 3, 2, false⟩ = false := by decide
  have q17 : acceptsB ⟨1, -1, 1, false⟩ 9 = true := by decide
  have q18 : acceptsB ⟨2, 2, 5, false⟩ 5 = true := by decide
  have q19 : acceptsB ⟨2, 2, 5, false⟩ 4 = false := by decide
  have q20 : acceptsB ⟨3, 3, 2, false⟩ 2 = false := by decide
  have q21 : rightB 0 (-1) 0 false = true := by decide
  have q22 : rightB 0 0 0 false = false := by decide
  go_enter Try.func28, Try.ntmps28
  go_wp2_with (first | (go_at_call 18; (with_reducible refine (new_any _).mono ?_); rintro e w' ⟨rfl, hb⟩; obtain ⟨hc, hf, hl, hz, -⟩ := kept hb; try simp at hz) | (go_at_call 12; (with_reducible refine (grant_any ⟨_, _, _, _⟩ _ _ _ (by first | assumption | decide)).mono ?_); rintro e w' ⟨rfl, hb⟩; obtain ⟨hc, hf, hl, hz, -⟩ := kept hb; try simp at hz) | (go_at_call 14; (with_reducible refine (drain_any ⟨_, _, _, _⟩ _ _ _ (by first | assumption | decide)).mono ?_); rintro e w' ⟨rfl, hb⟩; obtain ⟨hc, hf, hl, hz, -⟩ := kept hb; try simp at hz) | (go_at_call 16; (with_reducible refine (retire_any ⟨_, _, _, _⟩ _ _ (by first | assumption | decide)).mono ?_); rintro e w' ⟨rfl, hb⟩; obtain ⟨hc, hf, hl, hz, -⟩ := kept hb; try simp at hz) | (go_at_call 20; (with_reducible refine (chain_any ⟨_, _, _, _⟩ _ (by first | assumption | decide)).mono ?_); rintro e w' ⟨rfl, hb⟩; obtain ⟨hc, hf, hl, hz, -⟩ := kept hb; try simp at hz) | (go_at_call 22; (with_reducible refine (probe_any ⟨_, _, _, _⟩ _ (by first | assumption | decide)).mono ?_); rintro e w' ⟨rfl, hb⟩; obtain ⟨hc, hf, hl, hz, -⟩ := kept hb; try simp at hz) | (go_at_call 26; (with_reducible refine (accepts_any ⟨_, _, _, _⟩ _ _ (by first | assumption | decide)).mono ?_); rintro e w' ⟨rfl, hb⟩; obtain ⟨hc, hf, hl, hz, -⟩ := kept hb; try simp at hz) | (go_at_call 24; (with_reducible refine (right_any _ _ _ _ _ (by first | assumption | decide)).mono ?_); rintro e w' ⟨rfl, hb⟩; obtain ⟨hc, hf, hl, hz, -⟩ := kept hb; try simp at hz))
  go_ret
  exact ⟨rfl, by repeat (first | with_reducible exact Ext.rf _ | with_reducible assumption | with_reducible refine Ext.al ?_ _ | with_reducible refine Ext.dr ?_ | ((with_reducible refine Ext.st _ ?_ ?_); focus (first | omega | (simp; omega) | simp)) | with_reducible refine Ext.tr ?_ (by assumption))⟩

def does (m : Md) (d g o : Int) : Md := if d = 0 then grant m g o else if d = 1 then drain m g o else retire m g
def doesB (m : Md) (d g o : Int) : Bool := if d = 0 then grantB m g o else if d = 1 then drainB m g o else retireB m g

set_option maxHeartbeats 1000000 in
theorem does_any (m : Md) (d g o : Int) (w : World) (h0 : 0 ≤ m.k) :
    Calls Try.prog 29 #[m.v, .agg #[.int .i64 d, .int .i64 g, .int .i64 o]] w fun e w' => e = .returned (.tuple #[(does m d g o).v, .bool (doesB m d g o)]) ∧ Ext w w' := by
  go_enter Try.func29, Try.ntmps29
  go_wp2_with (first | (go_at_call 12; (with_reducible refine (grant_any m _ _ _ h0).mono ?_); rintro e w' ⟨rfl, hb⟩; obtain ⟨hc, hf, hl, hz, -⟩ := kept hb; try simp at hz) | (go_at_call 14; (with_reducible refine (drain_any m _ _ _ h0).mono ?_); rintro e w' ⟨rfl, hb⟩; obtain ⟨hc, hf, hl, hz, -⟩ := kept hb; try simp at hz) | (go_at_call 16; (with_reducible refine (retire_any m _ _ h0).mono ?_); rintro e w' ⟨rfl, hb⟩; obtain ⟨hc, hf, hl, hz, -⟩ := kept hb; try simp at hz))
  all_goals first
    | (refine bodyPost_ret (v := .tuple #[(grant m g o).v, .bool (grantB m g o)]) ?_ rfl ⟨?_, ?_⟩
       · (simp [results, Try.results29, go_sem, *]; done)
       · (refine ret_mb ?_ ?_ <;> simp_all [does, doesB])
       · (repeat (first | with_reducible exact Ext.rf _ | with_reducible assumption | with_reducible refine Ext.al ?_ _ | with_reducible refine Ext.dr ?_ | ((with_reducible refine Ext.st _ ?_ ?_); focus (first | omega | (simp; omega) | simp)) | with_reducible refine Ext.tr ?_ (by assumption))))
    | (refine bodyPost_ret (v := .tuple #[(drain m g o).v, .bool (drainB m g o)]) ?_ rfl ⟨?_, ?_⟩
       · (simp [results, Try.results29, go_sem, *]; done)
       · (refine ret_mb ?_ ?_ <;> simp_all [does, doesB])
       · (repeat (first | with_reducible exact Ext.rf _ | with_reducible assumption | with_reducible refine Ext.al ?_ _ | with_reducible refine Ext.dr ?_ | ((with_reducible refine Ext.st _ ?_ ?_); focus (first | omega | (simp; omega) | simp)) | with_reducible refine Ext.tr ?_ (by assumption))))
    | (refine bodyPost_ret (v := .tuple #[(retire m g).v, .bool (retireB m g)]) ?_ rfl ⟨?_, ?_⟩
       · (simp [results, Try.results29, go_sem, *]; done)
       · (refine ret_mb ?_ ?_ <;> simp_all [does, doesB])
       · (repeat (first | with_reducible exact Ext.rf _ | with_reducible assumption | with_reducible refine Ext.al ?_ _ | with_reducible refine Ext.dr ?_ | ((with_reducible refine Ext.st _ ?_ ?_); focus (first | omega | (simp; omega) | simp)) | with_reducible refine Ext.tr ?_ (by assumption))))

end Go.Proofs.Ytnceijlphinnhaa
