/- Connections: Close. -/
import Derived.Test.YtookffaojlkfaaaC11
import Derived.Test.YtookffaojlkfaaaC12
set_option linter.unusedSimpArgs false
set_option linter.unusedVariables false
namespace Go.Proofs.Ytookffaojlkfaaa
open Go.RowKit

theorem enters_close : ∀ args w, (callFunc 57 args).run Try.prog w = .ok (.enter 57 args) w := enters_of Try.func57 (by kernel_rfl) rfl
set_option maxRecDepth 20000 in
set_option maxHeartbeats 4000000 in
theorem close1_any (W0 : World) : DoesC 57 #[] (fun xs k => xs.eraseIdx k) W0 := by
  intro base W v xs k hE hb hl ho hk
  have HC := Lib.hid (delete_any base W v xs k (k + 1) rfl hl ho hk)
  have e : ((k + 1 : Nat) : Int) = (k : Int) + 1 := rfl
  rw [e] at HC
  have hkl : (k : Int) < xs.length := by omega
  clear ho
  rw [show (#[v, Value.int .i64 (k : Nat)] ++ #[] : Array Value) = #[v, .int .i64 (k : Nat)] from rfl]
  go_enter Try.func57, Try.ntmps57
  go_wp2_with ((with_reducible refine (HC.out).mono ?_); rintro e w' ⟨v', rfl, ho, m⟩; have HO := Lib.hid ho; clear ho)
  go_ret
  exact ⟨v', rfl, HO.out, m⟩
set_option maxRecDepth 20000 in
set_option maxHeartbeats 2000000 in
theorem close_any (t : Tu) (p : Option Addr) (xs : List Co) (c : Nat) (w : World) (hs : SlC w p xs) (hl : xs.length ≤ 1000) :
    Calls Try.prog 19 #[.slice p xs.length c, tu t.a t.b t.c t.d] w fun e w' => ∃ v, e = .returned (.tuple #[v, .bool (withOk xs t)]) ∧ w'.ownsRow w.heap.size 43 6 v (withX (fun xs k => xs.eraseIdx k) xs t).length (flC (withX (fun xs k => xs.eraseIdx k) xs t)) ∧ Ext w w' := by
  go_enter Try.func19, Try.ntmps19
  go_upto_region 1 with (fail)
  obtain ⟨W0, hW⟩ : ∃ W0, w.alloc (.cells #[.int .u32 t.a, .int .u32 t.b, .int .u16 t.c, .int .u16 t.d] 26) = W0 := ⟨_, rfl⟩
  rw [hW]
  have g0 : Ext w W0 := by rw [← hW]; exact Ext.al (Ext.rf _) _
  have ht : TuAt W0 w.heap.size t := by rw [← hW]; unfold TuAt; simp [go_sem, Lt]
  have s0 := hs.ext g0
  have hsz : w.heap.size ≤ W0.heap.size := g0.size
  obtain ⟨d0, d1, d2, d3⟩ := ht.cells
  have lB : Lt w.heap.size W0 := ht.2
  clear hW hs ht
  go_wp2_with (go_at_call 55; go_must (with_reducible refine (with_any 57 #[] enters_close (fun xs k => xs.eraseIdx k) t p xs c _ s0 hl (close1_any _)).mono ?_); rintro e w' ⟨v, rfl, ho, g1⟩; have HO := Lib.hid ho; clear ho)
  exact bodyPost_ret (v := .tuple #[v, .bool (withOk xs t)]) (by simp [results, Try.results19, go_sem]) rfl ⟨v, rfl, ownsRow_le HO.out hsz, g0.tr g1⟩

end Go.Proofs.Ytookffaojlkfaaa
