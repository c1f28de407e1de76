/- Connections: Idle. -/
import Derived.Test.YtookffaojlkfaaaC8
set_option linter.unusedSimpArgs false
set_option linter.unusedVariables false
namespace Go.Proofs.Ytookffaojlkfaaa
open Go.RowKit

def asksB (idle now : Int) : Bool := decide (0 ≤ idle) && decide (0 ≤ now) && decide (now ≤ 1099511627776)
def idleB (idle now : Int) (x : Co) : Bool := asksB idle now && decide (x.l ≤ now - idle)
set_option maxHeartbeats 1000000 in
theorem idle1_any (x : Co) (idle now : Int) (ba bn bi : Nat) (w : World) (hi : idle ≤ 9223372036854775807) (la : Lt ba w) (ln : Lt bn w) (li : Lt bi w) (ha : w.cell? ⟨ba, 0, none⟩ = some (.bool (asksB idle now))) (hn : w.cell? ⟨bn, 0, none⟩ = some (.int .i64 now)) (hd : w.cell? ⟨bi, 0, none⟩ = some (.int .i64 idle)) :
    Calls Try.prog 60 #[.agg #[.int .u32 x.t.a, .int .u32 x.t.b, .int .u16 x.t.c, .int .u16 x.t.d, .int .i64 x.s, .int .i64 x.l], .pointer (some ⟨ba, 0, none⟩), .pointer (some ⟨bn, 0, none⟩), .pointer (some ⟨bi, 0, none⟩)] w fun e w' => e = .returned (.bool (idleB idle now x)) ∧ Ext w w' := by
  cases hq : asksB idle now
  · rw [hq] at ha
    have HV := Lib.hid (show idleB idle now x = false by unfold idleB; rw [hq]; rfl)
    clear hq
    go_enter Try.func60, Try.ntmps60
    go_wp2
    go_ret
    refine ⟨by rw [HV.out]; rfl, ?_⟩
    (repeat (first | with_reducible exact Ext.rf _ | with_reducible assumption | with_reducible refine Ext.al ?_ _ | with_reducible refine Ext.dr ?_ | with_reducible refine Ext.dn ?_ _ | ((with_reducible refine Ext.st _ ?_ ?_); focus (first | omega | (simp; omega) | simp)) | with_reducible refine Ext.tr ?_ (by assumption) | with_reducible refine Ext.tr ?_ (up_ext (by assumption)) | with_reducible refine Ext.of (by assumption) ?_))
  · rw [hq] at ha
    have HV := Lib.hid (show idleB idle now x = decide (x.l ≤ now - idle) by unfold idleB; rw [hq]; rfl)
    unfold asksB at hq
    simp only [Bool.and_eq_true, decide_eq_true_eq] at hq
    obtain ⟨⟨q1, q2⟩, q3⟩ := hq
    go_enter Try.func60, Try.ntmps60
    go_wp2
    go_ret
    refine ⟨by rw [HV.out]; rfl, ?_⟩
    (repeat (first | with_reducible exact Ext.rf _ | with_reducible assumption | with_reducible refine Ext.al ?_ _ | with_reducible refine Ext.dr ?_ | with_reducible refine Ext.dn ?_ _ | ((with_reducible refine Ext.st _ ?_ ?_); focus (first | omega | (simp; omega) | simp)) | with_reducible refine Ext.tr ?_ (by assumption) | with_reducible refine Ext.tr ?_ (up_ext (by assumption)) | with_reducible refine Ext.of (by assumption) ?_))
theorem idle1_cl (x : Co) (idle now : Int) (ba bn bi : Nat) (w : World) (hi : idle ≤ 9223372036854775807) (la : Lt ba w) (ln : Lt bn w) (li : Lt bi w) (ha : w.cell? ⟨ba, 0, none⟩ = some (.bool (asksB idle now))) (hn : w.cell? ⟨bn, 0, none⟩ = some (.int .i64 now)) (hd : w.cell? ⟨bi, 0, none⟩ = some (.int .i64 idle)) :
    Calls Try.prog 60 (#[.agg #[.int .u32 x.t.a, .int .u32 x.t.b, .int .u16 x.t.c, .int .u16 x.t.d, .int .i64 x.s, .int .i64 x.l]] ++ #[.pointer (some ⟨ba, 0, none⟩), .pointer (some ⟨bn, 0, none⟩), .pointer (some ⟨bi, 0, none⟩)]) w fun e w' => e = .returned (.bool (idleB idle now x)) ∧ Ext w w' := by
  rw [show (#[Value.agg #[.int .u32 x.t.a, .int .u32 x.t.b, .int .u16 x.t.c, .int .u16 x.t.d, .int .i64 x.s, .int .i64 x.l]] ++ #[Value.pointer (some ⟨ba, 0, none⟩), .pointer (some ⟨bn, 0, none⟩), .pointer (some ⟨bi, 0, none⟩)] : Array Value) = #[.agg #[.int .u32 x.t.a, .int .u32 x.t.b, .int .u16 x.t.c, .int .u16 x.t.d, .int .i64 x.s, .int .i64 x.l], .pointer (some ⟨ba, 0, none⟩), .pointer (some ⟨bn, 0, none⟩), .pointer (some ⟨bi, 0, none⟩)] from rfl]
  exact idle1_any x idle now ba bn bi w hi la ln li ha hn hd
theorem enters_idle : ∀ args w, (callFunc 60 args).run Try.prog w = .ok (.enter 60 args) w := enters_of Try.func60 (by kernel_rfl) rfl
set_option maxRecDepth 20000 in
set_option maxHeartbeats 2000000 in
theorem idle_any (p : Option Addr) (xs : List Co) (c : Nat) (idle now : Int) (w : World) (hs : SlC w p xs) (hl : xs.length ≤ 1000) (hi : idle ≤ 9223372036854775807) (b1 b2 b3 : Bool) (e1 : decide (0 ≤ idle) = b1) (e2 : decide (0 ≤ now) = b2) (e3 : decide (now ≤ 1099511627776) = b3) :
    Calls Try.prog 21 #[.slice p xs.length c, .int .i64 idle, .int .i64 now] w fun e w' => ∃ v1 v2, e = .returned (.tuple #[v1, v2]) ∧ TwoC w.heap.size w' v1 v2 (xs.filter (idleB idle now)) (xs.filter fun x => !idleB idle now x) ∧ Ext w w' := by
  have HA := Lib.hid (show asksB idle now = (b1 && b2 && b3) by unfold asksB; rw [e1, e2, e3])
  cases b1 <;> cases b2 <;> cases b3
  · have HAL := Lib.hid (show asksB idle now = false from HA.out)
    go_enter Try.func21, Try.ntmps21
    go_upto_region 2 with (fail)
    obtain ⟨W0, hW⟩ : ∃ W0, ((w.alloc (.cells #[.int .i64 idle] 3)).alloc (.cells #[.int .i64 now] 3)).alloc (.cells #[.bool false] 4) = W0 := ⟨_, rfl⟩
    rw [hW]
    have g0 : Ext w W0 := by rw [← hW]; exact Ext.al (Ext.al (Ext.al (Ext.rf _) _) _) _
    have ci : W0.cell? ⟨w.heap.size, 0, none⟩ = some (.int .i64 idle) := by rw [← hW]; simp [go_sem]
    have cn : W0.cell? ⟨w.heap.size + 1, 0, none⟩ = some (.int .i64 now) := by rw [← hW]; simp [go_sem]
    have ca : W0.cell? ⟨w.heap.size + 1 + 1, 0, none⟩ = some (.bool (asksB idle now)) := by rw [HAL.out, ← hW]; simp [go_sem]
    have li : Lt w.heap.size W0 := by rw [← hW]; simp [Lt]; try omega
    have ln : Lt (w.heap.size + 1) W0 := by rw [← hW]; simp [Lt]; try omega
    have la : Lt (w.heap.size + 1 + 1) W0 := by rw [← hW]; simp [Lt]; try omega
    have s0 := hs.ext g0
    have hsz : w.heap.size ≤ W0.heap.size := g0.size
    clear hW hs
    have HCL := Lib.hid (fun (x : Co) (W : World) (_ : x ∈ xs) (hE : Ext W0 W) => idle1_cl x idle now _ _ _ W hi (Nat.lt_of_lt_of_le la hE.size) (Nat.lt_of_lt_of_le ln hE.size) (Nat.lt_of_lt_of_le li hE.size) ((hE.cell (p := ⟨w.heap.size + 1 + 1, 0, none⟩) la).trans ca) ((hE.cell (p := ⟨w.heap.size + 1, 0, none⟩) ln).trans cn) ((hE.cell (p := ⟨w.heap.size, 0, none⟩) li).trans ci))
    go_wp2_with (go_at_call 59; go_must (with_reducible refine (parted_any 60 #[.pointer (some ⟨w.heap.size + 1 + 1, 0, none⟩), .pointer (some ⟨w.heap.size + 1, 0, none⟩), .pointer (some ⟨w.heap.size, 0, none⟩)] enters_idle (idleB idle now) p xs c _ s0 hl HCL.out).mono ?_); rintro e w' ⟨v1, v2, rfl, ⟨o1, o2, o3⟩, g1⟩; have O1 := Lib.hid o1; have O2 := Lib.hid o2; have O3 := Lib.hid o3; clear o1 o2 o3)
    exact bodyPost_ret (v := .tuple #[v1, v2]) (by simp [results, Try.results21, go_sem]) rfl ⟨v1, v2, rfl, ⟨ownsRow_le O1.out hsz, ownsRow_le O2.out hsz, O3.out⟩, g0.tr g1⟩
  · have HAL := Lib.hid (show asksB idle now = false from HA.out)
    go_enter Try.func21, Try.ntmps21
    go_upto_region 2 with (fail)
    obtain ⟨W0, hW⟩ : ∃ W0, ((w.alloc (.cells #[.int .i64 idle] 3)).alloc (.cells #[.int .i64 now] 3)).alloc (.cells #[.bool false] 4) = W0 := ⟨_, rfl⟩
    rw [hW]
    have g0 : Ext w W0 := by rw [← hW]; exact Ext.al (Ext.al (Ext.al (Ext.rf _) _) _) _
    have ci : W0.cell? ⟨w.heap.size, 0, none⟩ = some (.int .i64 idle) := by rw [← hW]; simp [go_sem]
    have cn : W0.cell? ⟨w.heap.size + 1, 0, none⟩ = some (.int .i64 now) := by rw [← hW]; simp [go_sem]
    have ca : W0.cell? ⟨w.heap.size + 1 + 1, 0, none⟩ = some (.bool (asksB idle now)) := by rw [HAL.out, ← hW]; simp [go_sem]
    have li : Lt w.heap.size W0 := by rw [← hW]; simp [Lt]; try omega
    have ln : Lt (w.heap.size + 1) W0 := by rw [← hW]; simp [Lt]; try omega
    have la : Lt (w.heap.size + 1 + 1) W0 := by rw [← hW]; simp [Lt]; try omega
    have s0 := hs.ext g0
    have hsz : w.heap.size ≤ W0.heap.size := g0.size
    clear hW hs
    have HCL := Lib.hid (fun (x : Co) (W : World) (_ : x ∈ xs) (hE : Ext W0 W) => idle1_cl x idle now _ _ _ W hi (Nat.lt_of_lt_of_le la hE.size) (Nat.lt_of_lt_of_le ln hE.size) (Nat.lt_of_lt_of_le li hE.size) ((hE.cell (p := ⟨w.heap.size + 1 + 1, 0, none⟩) la).trans ca) ((hE.cell (p := ⟨w.heap.size + 1, 0, none⟩) ln).trans cn) ((hE.cell (p := ⟨w.heap.size, 0, none⟩) li).trans ci))
    go_wp2_with (go_at_call 59; go_must (with_reducible refine (parted_any 60 #[.pointer (some ⟨w.heap.size + 1 + 1, 0, none⟩), .pointer (some ⟨w.heap.size + 1, 0, none⟩), .pointer (some ⟨w.heap.size, 0, none⟩)] enters_idle (idleB idle now) p xs c _ s0 hl HCL.out).mono ?_); rintro e w' ⟨v1, v2, rfl, ⟨o1, o2, o3⟩, g1⟩; have O1 := Lib.hid o1; have O2 := Lib.hid o2; have O3 := Lib.hid o3; clear o1 o2 o3)
    exact bodyPost_ret (v := .tuple #[v1, v2]) (by simp [results, Try.results21, go_sem]) rfl ⟨v1, v2, rfl, ⟨ownsRow_le O1.out hsz, ownsRow_le O2.out hsz, O3.out⟩, g0.tr g1⟩
  · have HAL := Lib.hid (show asksB idle now = false from HA.out)
    go_enter Try.func21, Try.ntmps21
    go_upto_region 2 with (fail)
    obtain ⟨W0, hW⟩ : ∃ W0, ((w.alloc (.cells #[.int .i64 idle] 3)).alloc (.cells #[.int .i64 now] 3)).alloc (.cells #[.bool false] 4) = W0 := ⟨_, rfl⟩
    rw [hW]
    have g0 : Ext w W0 := by rw [← hW]; exact Ext.al (Ext.al (Ext.al (Ext.rf _) _) _) _
    have ci : W0.cell? ⟨w.heap.size, 0, none⟩ = some (.int .i64 idle) := by rw [← hW]; simp [go_sem]
    have cn : W0.cell? ⟨w.heap.size + 1, 0, none⟩ = some (.int .i64 now) := by rw [← hW]; simp [go_sem]
    have ca : W0.cell? ⟨w.heap.size + 1 + 1, 0, none⟩ = some (.bool (asksB idle now)) := by rw [HAL.out, ← hW]; simp [go_sem]
    have li : Lt w.heap.size W0 := by rw [← hW]; simp [Lt]; try omega
    have ln : Lt (w.heap.size + 1) W0 := by rw [← hW]; simp [Lt]; try omega
    have la : Lt (w.heap.size + 1 + 1) W0 := by rw [← hW]; simp [Lt]; try omega
    have s0 := hs.ext g0
    have hsz : w.heap.size ≤ W0.heap.size := g0.size
    clear hW hs
    have HCL := Lib.hid (fun (x : Co) (W : World) (_ : x ∈ xs) (hE : Ext W0 W) => idle1_cl x idle now _ _ _ W hi (Nat.lt_of_lt_of_le la hE.size) (Nat.lt_of_lt_of_le ln hE.size) (Nat.lt_of_lt_of_le li hE.size) ((hE.cell (p := ⟨w.heap.size + 1 + 1, 0, none⟩) la).trans ca) ((hE.cell (p := ⟨w.heap.size + 1, 0, none⟩) ln).trans cn) ((hE.cell (p := ⟨w.heap.size, 0, none⟩) li).trans ci))
    go_wp2_with (go_at_call 59; go_must (with_reducible refine (parted_any 60 #[.pointer (some ⟨w.heap.size + 1 + 1, 0, none⟩), .pointer (some ⟨w.heap.size + 1, 0, none⟩), .pointer (some ⟨w.heap.size, 0, none⟩)] enters_idle (idleB idle now) p xs c _ s0 hl HCL.out).mono ?_); rintro e w' ⟨v1, v2, rfl, ⟨o1, o2, o3⟩, g1⟩; have O1 := Lib.hid o1; have O2 := Lib.hid o2; have O3 := Lib.hid o3; clear o1 o2 o3)
    exact bodyPost_ret (v := .tuple #[v1, v2]) (by simp [results, Try.results21, go_sem]) rfl ⟨v1, v2, rfl, ⟨ownsRow_le O1.out hsz, ownsRow_le O2.out hsz, O3.out⟩, g0.tr g1⟩
  · have HAL := Lib.hid (show asksB idle now = false from HA.out)
    go_enter Try.func21, Try.ntmps21
    go_upto_region 2 with (fail)
    obtain ⟨W0, hW⟩ : ∃ W0, ((w.alloc (.cells #[.int .i64 idle] 3)).alloc (.cells #[.int .i64 now] 3)).alloc (.cells #[.bool false] 4) = W0 := ⟨_, rfl⟩
    rw [hW]
    have g0 : Ext w W0 := by rw [← hW]; exact Ext.al (Ext.al (Ext.al (Ext.rf _) _) _) _
    have ci : W0.cell? ⟨w.heap.size, 0, none⟩ = some (.int .i64 idle) := by rw [← hW]; simp [go_sem]
    have cn : W0.cell? ⟨w.heap.size + 1, 0, none⟩ = some (.int .i64 now) := by rw [← hW]; simp [go_sem]
    have ca : W0.cell? ⟨w.heap.size + 1 + 1, 0, none⟩ = some (.bool (asksB idle now)) := by rw [HAL.out, ← hW]; simp [go_sem]
    have li : Lt w.heap.size W0 := by rw [← hW]; simp [Lt]; try omega
    have ln : Lt (w.heap.size + 1) W0 := by rw [← hW]; simp [Lt]; try omega
    have la : Lt (w.heap.size + 1 + 1) W0 := by rw [← hW]; simp [Lt]; try omega
    have s0 := hs.ext g0
    have hsz : w.heap.size ≤ W0.heap.size := g0.size
    clear hW hs
    have HCL := Lib.hid (fun (x : Co) (W : World) (_ : x ∈ xs) (hE : Ext W0 W) => idle1_cl x idle now _ _ _ W hi (Nat.lt_of_lt_of_le la hE.size) (Nat.lt_of_lt_of_le ln hE.size) (Nat.lt_of_lt_of_le li hE.size) ((hE.cell (p := ⟨w.heap.size + 1 + 1, 0, none⟩) la).trans ca) ((hE.cell (p := ⟨w.heap.size + 1, 0, none⟩) ln).trans cn) ((hE.cell (p := ⟨w.heap.size, 0, none⟩) li).trans ci))
    go_wp2_with (go_at_call 59; go_must (with_reducible refine (parted_any 60 #[.pointer (some ⟨w.heap.size + 1 + 1, 0, none⟩), .pointer (some ⟨w.heap.size + 1, 0, none⟩), .pointer (some ⟨w.heap.size, 0, none⟩)] enters_idle (idleB idle now) p xs c _ s0 hl HCL.out).mono ?_); rintro e w' ⟨v1, v2, rfl, ⟨o1, o2, o3⟩, g1⟩; have O1 := Lib.hid o1; have O2 := Lib.hid o2; have O3 := Lib.hid o3; clear o1 o2 o3)
    exact bodyPost_ret (v := .tuple #[v1, v2]) (by simp [results, Try.results21, go_sem]) rfl ⟨v1, v2, rfl, ⟨ownsRow_le O1.out hsz, ownsRow_le O2.out hsz, O3.out⟩, g0.tr g1⟩
  · have HAL := Lib.hid (show asksB idle now = false from HA.out)
    go_enter Try.func21, Try.ntmps21
    go_upto_region 2 with (fail)
    obtain ⟨W0, hW⟩ : ∃ W0, ((w.alloc (.cells #[.int .i64 idle] 3)).alloc (.cells #[.int .i64 now] 3)).alloc (.cells #[.bool false] 4) = W0 := ⟨_, rfl⟩
    rw [hW]
    have g0 : Ext w W0 := by rw [← hW]; exact Ext.al (Ext.al (Ext.al (Ext.rf _) _) _) _
    have ci : W0.cell? ⟨w.heap.size, 0, none⟩ = some (.int .i64 idle) := by rw [← hW]; simp [go_sem]
    have cn : W0.cell? ⟨w.heap.size + 1, 0, none⟩ = some (.int .i64 now) := by rw [← hW]; simp [go_sem]
    have ca : W0.cell? ⟨w.heap.size + 1 + 1, 0, none⟩ = some (.bool (asksB idle now)) := by rw [HAL.out, ← hW]; simp [go_sem]
    have li : Lt w.heap.size W0 := by rw [← hW]; simp [Lt]; try omega
    have ln : Lt (w.heap.size + 1) W0 := by rw [← hW]; simp [Lt]; try omega
    have la : Lt (w.heap.size + 1 + 1) W0 := by rw [← hW]; simp [Lt]; try omega
    have s0 := hs.ext g0
    have hsz : w.heap.size ≤ W0.heap.size := g0.size
    clear hW hs
    have HCL := Lib.hid (fun (x : Co) (W : World) (_ : x ∈ xs) (hE : Ext W0 W) => idle1_cl x idle now _ _ _ W hi (Nat.lt_of_lt_of_le la hE.size) (Nat.lt_of_lt_of_le ln hE.size) (Nat.lt_of_lt_of_le li hE.size) ((hE.cell (p := ⟨w.heap.size + 1 + 1, 0, none⟩) la).trans ca) ((hE.cell (p := ⟨w.heap.size + 1, 0, none⟩) ln).trans cn) ((hE.cell (p := ⟨w.heap.size, 0, none⟩) li).trans ci))
    go_wp2_with (go_at_call 59; go_must (with_reducible refine (parted_any 60 #[.pointer (some ⟨w.heap.size + 1 + 1, 0, none⟩), .pointer (some ⟨w.heap.size + 1, 0, none⟩), .pointer (some ⟨w.heap.size, 0, none⟩)] enters_idle (idleB idle now) p xs c _ s0 hl HCL.out).mono ?_); rintro e w' ⟨v1, v2, rfl, ⟨o1, o2, o3⟩, g1⟩; have O1 := Lib.hid o1; have O2 := Lib.hid o2; have O3 := Lib.hid o3; clear o1 o2 o3)
    exact bodyPost_ret (v := .tuple #[v1, v2]) (by simp [results, Try.results21, go_sem]) rfl ⟨v1, v2, rfl, ⟨ownsRow_le O1.out hsz, ownsRow_le O2.out hsz, O3.out⟩, g0.tr g1⟩
  · have HAL := Lib.hid (show asksB idle now = false from HA.out)
    go_enter Try.func21, Try.ntmps21
    go_upto_region 2 with (fail)
    obtain ⟨W0, hW⟩ : ∃ W0, ((w.alloc (.cells #[.int .i64 idle] 3)).alloc (.cells #[.int .i64 now] 3)).alloc (.cells #[.bool false] 4) = W0 := ⟨_, rfl⟩
    rw [hW]
    have g0 : Ext w W0 := by rw [← hW]; exact Ext.al (Ext.al (Ext.al (Ext.rf _) _) _) _
    have ci : W0.cell? ⟨w.heap.size, 0, none⟩ = some (.int .i64 idle) := by rw [← hW]; simp [go_sem]
    have cn : W0.cell? ⟨w.heap.size + 1, 0, none⟩ = some (.int .i64 now) := by rw [← hW]; simp [go_sem]
    have ca : W0.cell? ⟨w.heap.size + 1 + 1, 0, none⟩ = some (.bool (asksB idle now)) := by rw [HAL.out, ← hW]; simp [go_sem]
    have li : Lt w.heap.size W0 := by rw [← hW]; simp [Lt]; try omega
    have ln : Lt (w.heap.size + 1) W0 := by rw [← hW]; simp [Lt]; try omega
    have la : Lt (w.heap.size + 1 + 1) W0 := by rw [← hW]; simp [Lt]; try omega
    have s0 := hs.ext g0
    have hsz : w.heap.size ≤ W0.heap.size := g0.size
    clear hW hs
    have HCL := Lib.hid (fun (x : Co) (W : World) (_ : x ∈ xs) (hE : Ext W0 W) => idle1_cl x idle now _ _ _ W hi (Nat.lt_of_lt_of_le la hE.size) (Nat.lt_of_lt_of_le ln hE.size) (Nat.lt_of_lt_of_le li hE.size) ((hE.cell (p := ⟨w.heap.size + 1 + 1, 0, none⟩) la).trans ca) ((hE.cell (p := ⟨w.heap.size + 1, 0, none⟩) ln).trans cn) ((hE.cell (p := ⟨w.heap.size, 0, none⟩) li).trans ci))
    go_wp2_with (go_at_call 59; go_must (with_reducible refine (parted_any 60 #[.pointer (some ⟨w.heap.size + 1 + 1, 0, none⟩), .pointer (some ⟨w.heap.size + 1, 0, none⟩), .pointer (some ⟨w.heap.size, 0, none⟩)] enters_idle (idleB idle now) p xs c _ s0 hl HCL.out).mono ?_); rintro e w' ⟨v1, v2, rfl, ⟨o1, o2, o3⟩, g1⟩; have O1 := Lib.hid o1; have O2 := Lib.hid o2; have O3 := Lib.hid o3; clear o1 o2 o3)
    exact bodyPost_ret (v := .tuple #[v1, v2]) (by simp [results, Try.results21, go_sem]) rfl ⟨v1, v2, rfl, ⟨ownsRow_le O1.out hsz, ownsRow_le O2.out hsz, O3.out⟩, g0.tr g1⟩
  · have HAL := Lib.hid (show asksB idle now = false from HA.out)
    go_enter Try.func21, Try.ntmps21
    go_upto_region 2 with (fail)
    obtain ⟨W0, hW⟩ : ∃ W0, ((w.alloc (.cells #[.int .i64 idle] 3)).alloc (.cells #[.int .i64 now] 3)).alloc (.cells #[.bool false] 4) = W0 := ⟨_, rfl⟩
    rw [hW]
    have g0 : Ext w W0 := by rw [← hW]; exact Ext.al (Ext.al (Ext.al (Ext.rf _) _) _) _
    have ci : W0.cell? ⟨w.heap.size, 0, none⟩ = some (.int .i64 idle) := by rw [← hW]; simp [go_sem]
    have cn : W0.cell? ⟨w.heap.size + 1, 0, none⟩ = some (.int .i64 now) := by rw [← hW]; simp [go_sem]
    have ca : W0.cell? ⟨w.heap.size + 1 + 1, 0, none⟩ = some (.bool (asksB idle now)) := by rw [HAL.out, ← hW]; simp [go_sem]
    have li : Lt w.heap.size W0 := by rw [← hW]; simp [Lt]; try omega
    have ln : Lt (w.heap.size + 1) W0 := by rw [← hW]; simp [Lt]; try omega
    have la : Lt (w.heap.size + 1 + 1) W0 := by rw [← hW]; simp [Lt]; try omega
    have s0 := hs.ext g0
    have hsz : w.heap.size ≤ W0.heap.size := g0.size
    clear hW hs
    have HCL := Lib.hid (fun (x : Co) (W : World) (_ : x ∈ xs) (hE : Ext W0 W) => idle1_cl x idle now _ _ _ W hi (Nat.lt_of_lt_of_le la hE.size) (Nat.lt_of_lt_of_le ln hE.size) (Nat.lt_of_lt_of_le li hE.size) ((hE.cell (p := ⟨w.heap.size + 1 + 1, 0, none⟩) la).trans ca) ((hE.cell (p := ⟨w.heap.size + 1, 0, none⟩) ln).trans cn) ((hE.cell (p := ⟨w.heap.size, 0, none⟩) li).trans ci))
    go_wp2_with (go_at_call 59; go_must (with_reducible refine (parted_any 60 #[.pointer (some ⟨w.heap.size + 1 + 1, 0, none⟩), .pointer (some ⟨w.heap.size + 1, 0, none⟩), .pointer (some ⟨w.heap.size, 0, none⟩)] enters_idle (idleB idle now) p xs c _ s0 hl HCL.out).mono ?_); rintro e w' ⟨v1, v2, rfl, ⟨o1, o2, o3⟩, g1⟩; have O1 := Lib.hid o1; have O2 := Lib.hid o2; have O3 := Lib.hid o3; clear o1 o2 o3)
    exact bodyPost_ret (v := .tuple #[v1, v2]) (by simp [results, Try.results21, go_sem]) rfl ⟨v1, v2, rfl, ⟨ownsRow_le O1.out hsz, ownsRow_le O2.out hsz, O3.out⟩, g0.tr g1⟩
  · have HAL := Lib.hid (show asksB idle now = true from HA.out)
    go_enter Try.func21, Try.ntmps21
    go_upto_region 2 with (fail)
    obtain ⟨W0, hW⟩ : ∃ W0, ((w.alloc (.cells #[.int .i64 idle] 3)).alloc (.cells #[.int .i64 now] 3)).alloc (.cells #[.bool true] 4) = W0 := ⟨_, rfl⟩
    rw [hW]
    have g0 : Ext w W0 := by rw [← hW]; exact Ext.al (Ext.al (Ext.al (Ext.rf _) _) _) _
    have ci : W0.cell? ⟨w.heap.size, 0, none⟩ = some (.int .i64 idle) := by rw [← hW]; simp [go_sem]
    have cn : W0.cell? ⟨w.heap.size + 1, 0, none⟩ = some (.int .i64 now) := by rw [← hW]; simp [go_sem]
    have ca : W0.cell? ⟨w.heap.size + 1 + 1, 0, none⟩ = some (.bool (asksB idle now)) := by rw [HAL.out, ← hW]; simp [go_sem]
    have li : Lt w.heap.size W0 := by rw [← hW]; simp [Lt]; try omega
    have ln : Lt (w.heap.size + 1) W0 := by rw [← hW]; simp [Lt]; try omega
    have la : Lt (w.heap.size + 1 + 1) W0 := by rw [← hW]; simp [Lt]; try omega
    have s0 := hs.ext g0
    have hsz : w.heap.size ≤ W0.heap.size := g0.size
    clear hW hs
    have HCL := Lib.hid (fun (x : Co) (W : World) (_ : x ∈ xs) (hE : Ext W0 W) => idle1_cl x idle now _ _ _ W hi (Nat.lt_of_lt_of_le la hE.size) (Nat.lt_of_lt_of_le ln hE.size) (Nat.lt_of_lt_of_le li hE.size) ((hE.cell (p := ⟨w.heap.size + 1 + 1, 0, none⟩) la).trans ca) ((hE.cell (p := ⟨w.heap.size + 1, 0, none⟩) ln).trans cn) ((hE.cell (p := ⟨w.heap.size, 0, none⟩) li).trans ci))
    go_wp2_with (go_at_call 59; go_must (with_reducible refine (parted_any 60 #[.pointer (some ⟨w.heap.size + 1 + 1, 0, none⟩), .pointer (some ⟨w.heap.size + 1, 0, none⟩), .pointer (some ⟨w.heap.size, 0, none⟩)] enters_idle (idleB idle now) p xs c _ s0 hl HCL.out).mono ?_); rintro e w' ⟨v1, v2, rfl, ⟨o1, o2, o3⟩, g1⟩; have O1 := Lib.hid o1; have O2 := Lib.hid o2; have O3 := Lib.hid o3; clear o1 o2 o3)
    exact bodyPost_ret (v := .tuple #[v1, v2]) (by simp [results, Try.results21, go_sem]) rfl ⟨v1, v2, rfl, ⟨ownsRow_le O1.out hsz, ownsRow_le O2.out hsz, O3.out⟩, g0.tr g1⟩

end Go.Proofs.Ytookffaojlkfaaa
