/- What the reference of the package rule returns: the same. -/
import Derived.Test.YtnceijlphinnhaaR7
set_option linter.unusedSimpArgs false
set_option linter.unusedVariables false
namespace Go.Proofs.Ytnceijlphinnhaa
open Go.RowKit

def dataA (M : Md) (k : Int) : Ac := if k = 1 ∧ (M.k = 2 ∨ M.k = 3) then ⟨3, 0, 2, M.p, M.g⟩ else dropA 16
def directA (M : Md) (r : Bool) : Ac := if M.k = 1 then acceptA r else if M.k = 2 then ⟨3, 0, 3, M.p, M.g⟩ else if M.k = 3 then ⟨3, 0, 5, M.p, M.g⟩ else dropA 15

set_option maxHeartbeats 1000000 in
theorem rdrop_any (x : Int) (w : World) :
    Calls Try.prog 51 #[.int .u8 x] w fun e w' => e = .returned ((dropA x).v) ∧ Ext w w' := by
  go_enter Try.func51, Try.ntmps51
  go_wp2_with (fail)
  all_goals first
    | (refine bodyPost_ret (v := (dropA x).v) ?_ rfl ⟨?_, ?_⟩
       · (simp [results, Try.results51, go_sem, dropA, *]; done)
       · (rfl)
       · (repeat (first | with_reducible exact Ext.rf _ | with_reducible assumption | with_reducible refine Ext.al ?_ _ | with_reducible refine Ext.dr ?_ | with_reducible refine Ext.dn ?_ _ | ((with_reducible refine Ext.st _ ?_ ?_); focus (first | omega | (simp; omega) | simp)) | with_reducible refine Ext.tr ?_ (by assumption) | with_reducible refine Ext.tr ?_ (up_ext (by assumption)) | with_reducible refine Ext.of (by assumption) ?_)))

set_option maxHeartbeats 1000000 in
theorem rsend_any (x t g : Int) (w : World) :
    Calls Try.prog 54 #[.int .u8 x, .int .i64 t, .int .i64 g] w fun e w' => e = .returned ((⟨3, 0, x, t, g⟩ : Ac).v) ∧ Ext w w' := by
  go_enter Try.func54, Try.ntmps54
  go_wp2_with (fail)
  all_goals first
    | (refine bodyPost_ret (v := (⟨3, 0, x, t, g⟩ : Ac).v) ?_ rfl ⟨?_, ?_⟩
       · (simp [results, Try.results54, go_sem, *]; done)
       · (rfl)
       · (repeat (first | with_reducible exact Ext.rf _ | with_reducible assumption | with_reducible refine Ext.al ?_ _ | with_reducible refine Ext.dr ?_ | with_reducible refine Ext.dn ?_ _ | ((with_reducible refine Ext.st _ ?_ ?_); focus (first | omega | (simp; omega) | simp)) | with_reducible refine Ext.tr ?_ (by assumption) | with_reducible refine Ext.tr ?_ (up_ext (by assumption)) | with_reducible refine Ext.of (by assumption) ?_)))

set_option maxHeartbeats 1000000 in
theorem raccept_any (r : Bool) (w : World) :
    Calls Try.prog 55 #[.bool r] w fun e w' => e = .returned ((acceptA r).v) ∧ Ext w w' := by
  go_enter Try.func55, Try.ntmps55
  go_wp2_with ((go_at_call 51; (with_reducible refine (rdrop_any _ _).mono ?_); rintro e w' ⟨rfl, hb⟩; obtain ⟨hc, hf, hl, hz, -⟩ := kept hb; try simp at hz))
  all_goals first
    | (refine bodyPost_ret (v := ((⟨2, 0, 0, 0, 0⟩ : Ac)).v) ?_ rfl ⟨?_, ?_⟩
       · (simp [results, Try.results55, go_sem, dropA, *]; done)
       · (refine ret_ac ?_; first | rfl | grind [acceptA, acceptC, acceptW])
       · (repeat (first | with_reducible exact Ext.rf _ | with_reducible assumption | with_reducible refine Ext.al ?_ _ | with_reducible refine Ext.dr ?_ | with_reducible refine Ext.dn ?_ _ | ((with_reducible refine Ext.st _ ?_ ?_); focus (first | omega | (simp; omega) | simp)) | with_reducible refine Ext.tr ?_ (by assumption) | with_reducible refine Ext.tr ?_ (up_ext (by assumption)) | with_reducible refine Ext.of (by assumption) ?_)))
    | (refine bodyPost_ret (v := (dropA 18).v) ?_ rfl ⟨?_, ?_⟩
       · (simp [results, Try.results55, go_sem, dropA, *]; done)
       · (refine ret_ac ?_; first | rfl | grind [acceptA, acceptC, acceptW, dropA])
       · (repeat (first | with_reducible exact Ext.rf _ | with_reducible assumption | with_reducible refine Ext.al ?_ _ | with_reducible refine Ext.dr ?_ | with_reducible refine Ext.dn ?_ _ | ((with_reducible refine Ext.st _ ?_ ?_); focus (first | omega | (simp; omega) | simp)) | with_reducible refine Ext.tr ?_ (by assumption) | with_reducible refine Ext.tr ?_ (up_ext (by assumption)) | with_reducible refine Ext.of (by assumption) ?_)))

set_option maxHeartbeats 1000000 in
theorem rdata_any (m : Md) (k f g : Int) (s n r : Bool) (w : World) :
    Calls Try.prog 52 #[m.v, av k f g s n r] w fun e w' => e = .returned ((dataA m k).v) ∧ Ext w w' := by
  go_enter Try.func52, Try.ntmps52
  go_wp2_with (first | (go_at_call 51; (with_reducible refine (rdrop_any _ _).mono ?_); rintro e w' ⟨rfl, hb⟩; obtain ⟨hc, hf, hl, hz, -⟩ := kept hb; try simp at hz) | (go_at_call 54; (with_reducible refine (rsend_any _ _ _ _).mono ?_); rintro e w' ⟨rfl, hb⟩; obtain ⟨hc, hf, hl, hz, -⟩ := kept hb; try simp at hz))
  all_goals first
    | (refine bodyPost_ret (v := ((⟨3, 0, 2, m.p, m.g⟩ : Ac)).v) ?_ rfl ⟨?_, ?_⟩
       · (simp [results, Try.results52, go_sem, dropA, *]; done)
       · (refine ret_ac ?_; first | rfl | grind [dataA])
       · (repeat (first | with_reducible exact Ext.rf _ | with_reducible assumption | with_reducible refine Ext.al ?_ _ | with_reducible refine Ext.dr ?_ | with_reducible refine Ext.dn ?_ _ | ((with_reducible refine Ext.st _ ?_ ?_); focus (first | omega | (simp; omega) | simp)) | with_reducible refine Ext.tr ?_ (by assumption) | with_reducible refine Ext.tr ?_ (up_ext (by assumption)) | with_reducible refine Ext.of (by assumption) ?_)))
    | (refine bodyPost_ret (v := (dropA 16).v) ?_ rfl ⟨?_, ?_⟩
       · (simp [results, Try.results52, go_sem, dropA, *]; done)
       · (refine ret_ac ?_; first | rfl | grind [dataA])
       · (repeat (first | with_reducible exact Ext.rf _ | with_reducible assumption | with_reducible refine Ext.al ?_ _ | with_reducible refine Ext.dr ?_ | with_reducible refine Ext.dn ?_ _ | ((with_reducible refine Ext.st _ ?_ ?_); focus (first | omega | (simp; omega) | simp)) | with_reducible refine Ext.tr ?_ (by assumption) | with_reducible refine Ext.tr ?_ (up_ext (by assumption)) | with_reducible refine Ext.of (by assumption) ?_)))

set_option maxHeartbeats 1000000 in
theorem rdirect_any (m : Md) (k f g : Int) (s n r : Bool) (w : World) :
    Calls Try.prog 53 #[m.v, av k f g s n r] w fun e w' => e = .returned ((directA m r).v) ∧ Ext w w' := by
  go_enter Try.func53, Try.ntmps53
  go_wp2_with (first | (go_at_call 51; (with_reducible refine (rdrop_any _ _).mono ?_); rintro e w' ⟨rfl, hb⟩; obtain ⟨hc, hf, hl, hz, -⟩ := kept hb; try simp at hz) | (go_at_call 54; (with_reducible refine (rsend_any _ _ _ _).mono ?_); rintro e w' ⟨rfl, hb⟩; obtain ⟨hc, hf, hl, hz, -⟩ := kept hb; try simp at hz) | (go_at_call 55; (with_reducible refine (raccept_any _ _).mono ?_); rintro e w' ⟨rfl, hb⟩; obtain ⟨hc, hf, hl, hz, -⟩ := kept hb; try simp at hz))
  all_goals first
    | (refine bodyPost_ret (v := (acceptA r).v) ?_ rfl ⟨?_, ?_⟩
       · (simp [results, Try.results53, go_sem, dropA, acceptA, *]; done)
       · (refine ret_ac ?_; first | rfl | grind [directA])
       · (repeat (first | with_reducible exact Ext.rf _ | with_reducible assumption | with_reducible refine Ext.al ?_ _ | with_reducible refine Ext.dr ?_ | with_reducible refine Ext.dn ?_ _ | ((with_reducible refine Ext.st _ ?_ ?_); focus (first | omega | (simp; omega) | simp)) | with_reducible refine Ext.tr ?_ (by assumption) | with_reducible refine Ext.tr ?_ (up_ext (by assumption)) | with_reducible refine Ext.of (by assumption) ?_)))
    | (refine bodyPost_ret (v := ((⟨3, 0, 3, m.p, m.g⟩ : Ac)).v) ?_ rfl ⟨?_, ?_⟩
       · (simp [results, Try.results53, go_sem, dropA, acceptA, *]; done)
       · (refine ret_ac ?_; first | rfl | grind [directA])
       · (repeat (first | with_reducible exact Ext.rf _ | with_reducible assumption | with_reducible refine Ext.al ?_ _ | with_reducible refine Ext.dr ?_ | with_reducible refine Ext.dn ?_ _ | ((with_reducible refine Ext.st _ ?_ ?_); focus (first | omega | (simp; omega) | simp)) | with_reducible refine Ext.tr ?_ (by assumption) | with_reducible refine Ext.tr ?_ (up_ext (by assumption)) | with_reducible refine Ext.of (by assumption) ?_)))
    | (refine bodyPost_ret (v := ((⟨3, 0, 5, m.p, m.g⟩ : Ac)).v) ?_ rfl ⟨?_, ?_⟩
       · (simp [results, Try.results53, go_sem, dropA, acceptA, *]; done)
       · (refine ret_ac ?_; first | rfl | grind [directA])
       · (repeat (first | with_reducible exact Ext.rf _ | with_reducible assumption | with_reducible refine Ext.al ?_ _ | with_reducible refine Ext.dr ?_ | with_reducible refine Ext.dn ?_ _ | ((with_reducible refine Ext.st _ ?_ ?_); focus (first | omega | (simp; omega) | simp)) | with_reducible refine Ext.tr ?_ (by assumption) | with_reducible refine Ext.tr ?_ (up_ext (by assumption)) | with_reducible refine Ext.of (by assumption) ?_)))
    | (refine bodyPost_ret (v := (dropA 15).v) ?_ rfl ⟨?_, ?_⟩
       · (simp [results, Try.results53, go_sem, dropA, acceptA, *]; done)
       · (refine ret_ac ?_; first | rfl | grind [directA])
       · (repeat (first | with_reducible exact Ext.rf _ | with_reducible assumption | with_reducible refine Ext.al ?_ _ | with_reducible refine Ext.dr ?_ | with_reducible refine Ext.dn ?_ _ | ((with_reducible refine Ext.st _ ?_ ?_); focus (first | omega | (simp; omega) | simp)) | with_reducible refine Ext.tr ?_ (by assumption) | with_reducible refine Ext.tr ?_ (up_ext (by assumption)) | with_reducible refine Ext.of (by assumption) ?_)))

end Go.Proofs.Ytnceijlphinnhaa
