/- A tuple's bucket; a bucket's connections, and the others. -/
import Derived.Test.YtookffaojlkfaaaH5
import Derived.Test.YtookffaojlkfaaaC8
import Derived.Test.YtookffaojlkfaaaC16
set_option linter.unusedSimpArgs false
set_option linter.unusedVariables false
namespace Go.Proofs.Ytookffaojlkfaaa
open Go.RowKit

def TuR (t : Tu) : Prop := (0 ≤ t.a ∧ t.a < 4294967296) ∧ (0 ≤ t.b ∧ t.b < 4294967296) ∧ (0 ≤ t.c ∧ t.c < 65536) ∧ (0 ≤ t.d ∧ t.d < 65536)
def sumT (t : Tu) : Int := goL 0 (tb t)
def ofT (t : Tu) : Int := fold (sumT t)
theorem sumT_bd (t : Tu) : 0 ≤ sumT t ∧ sumT t < 256 := goL_bd _ _ (by omega) (by omega)
theorem tb_len (t : Tu) : (tb t).length = 12 := rfl
theorem ofT_bd (t : Tu) : 0 ≤ ofT t ∧ ofT t < 16 := fold_bd _ (sumT_bd t).1 (sumT_bd t).2
def inB (k : Int) (x : Co) : Bool := ofT x.t == k
theorem go12 (t : Tu) (p : Option Addr) (w : World) (hb : SlB w p (tb t)) : Calls Try.prog 114 #[.int .u8 0, .slice p 12 12] w fun e w' => e = .returned (.int .u8 (sumT t)) ∧ Ext w w' := go_any 0 (tb t) p 12 w hb (by rw [tb_len]; omega)
set_option maxHeartbeats 1000000 in
theorem sum_any (t : Tu) (hr : TuR t) (w : World) :
    Calls Try.prog 93 #[tu t.a t.b t.c t.d] w fun e w' => e = .returned (.int .u8 (sumT t)) ∧ Ext w w' := by
  have hc : t.c % 4294967296 = t.c := by obtain ⟨-, -, h, -⟩ := hr; omega
  have hd : t.d % 4294967296 = t.d := by obtain ⟨-, -, -, h⟩ := hr; omega
  have HC := Lib.hid hc
  have HD := Lib.hid hd
  clear hc hd hr
  go_enter Try.func93, Try.ntmps93
  go_wp2_with (first | (go_at_call 115; (with_reducible refine (bytes_any t HC.out HD.out _).mono ?_); rintro e w1 ⟨b, rfl, hb, hE1⟩; have HB := Lib.hid hb; clear hb) | (go_at_call 114; (with_reducible refine (go12 t _ _ HB.out).mono ?_); rintro e w2 ⟨rfl, hE2⟩))
  go_ret
  refine ⟨rfl, ?_⟩
  exact (Ext.tr (Ext.al (Ext.rf _) _) hE1).tr hE2
set_option maxHeartbeats 1000000 in
theorem of_any (t : Tu) (hr : TuR t) (w : World) :
    Calls Try.prog 69 #[tu t.a t.b t.c t.d] w fun e w' => e = .returned (.int .i64 (ofT t)) ∧ Ext w w' := by
  have HR := Lib.hid hr
  clear hr
  go_enter Try.func69, Try.ntmps69
  go_wp2_with (first | (go_at_call 93; (with_reducible refine (sum_any t HR.out _).mono ?_); rintro e w1 ⟨rfl, hE1⟩) | (go_at_call 92; (with_reducible refine (folded_any (sumT t) _ (sumT_bd t).1 (sumT_bd t).2).mono ?_); rintro e w2 ⟨rfl, rfl⟩))
  go_ret
  exact ⟨rfl, Ext.tr (Ext.al (Ext.rf _) _) hE1⟩

set_option maxHeartbeats 1000000 in
theorem cof1_any (x : Co) (hr : TuR x.t) (k : Int) (bk : Nat) (w : World) (lk : Lt bk w) (hk : w.cell? ⟨bk, 0, none⟩ = some (.int .i64 k)) :
    Calls Try.prog 68 #[.agg #[.int .u32 x.t.a, .int .u32 x.t.b, .int .u16 x.t.c, .int .u16 x.t.d, .int .i64 x.s, .int .i64 x.l], .pointer (some ⟨bk, 0, none⟩)] w fun e w' => e = .returned (.bool (inB k x)) ∧ Ext w w' := by
  have HR := Lib.hid hr
  clear hr
  go_enter Try.func68, Try.ntmps68
  go_upto_region 1 with (fail)
  obtain ⟨W0, hW⟩ : ∃ W0, w.alloc (.cells #[.int .u32 x.t.a, .int .u32 x.t.b, .int .u16 x.t.c, .int .u16 x.t.d, .int .i64 x.s, .int .i64 x.l] 43) = W0 := ⟨_, rfl⟩
  have e0 : Ext w W0 := by rw [← hW]; exact Ext.al (Ext.rf _) _
  have c0 : W0.cell? ⟨w.heap.size, 0, none⟩ = some (.int .u32 x.t.a) := by rw [← hW]; simp [go_sem]
  have c1 : W0.cell? ⟨w.heap.size, 1, none⟩ = some (.int .u32 x.t.b) := by rw [← hW]; simp [go_sem]
  have c2 : W0.cell? ⟨w.heap.size, 2, none⟩ = some (.int .u16 x.t.c) := by rw [← hW]; simp [go_sem]
  have c3 : W0.cell? ⟨w.heap.size, 3, none⟩ = some (.int .u16 x.t.d) := by rw [← hW]; simp [go_sem]
  have l0 : Lt w.heap.size W0 := by rw [← hW]; simp [Lt]
  have lk0 : Lt bk W0 := Nat.lt_of_lt_of_le lk e0.size
  have hk0 : W0.cell? ⟨bk, 0, none⟩ = some (.int .i64 k) := (e0.cell (p := ⟨bk, 0, none⟩) lk).trans hk
  rw [hW]
  clear hW hk
  generalize w.heap.size = B at *
  refine wp_region_later (by kernel_rfl) (by kernel_rfl) ?_; (repeat (go_big_quiet_step ((go_at_call 69; exact calls_later (of_any x.t HR.out _))))); refine wpQuiet_nil ?_; intro d
  have hd := later_ext d
  go_wp2
  go_ret
  exact ⟨rfl, e0.tr hd⟩
theorem cof1_cl (x : Co) (hr : TuR x.t) (k : Int) (bk : Nat) (w : World) (lk : Lt bk w) (hk : w.cell? ⟨bk, 0, none⟩ = some (.int .i64 k)) :
    Calls Try.prog 68 (#[.agg #[.int .u32 x.t.a, .int .u32 x.t.b, .int .u16 x.t.c, .int .u16 x.t.d, .int .i64 x.s, .int .i64 x.l]] ++ #[.pointer (some ⟨bk, 0, none⟩)]) w fun e w' => e = .returned (.bool (inB k x)) ∧ Ext w w' := by
  rw [show (#[Value.agg #[.int .u32 x.t.a, .int .u32 x.t.b, .int .u16 x.t.c, .int .u16 x.t.d, .int .i64 x.s, .int .i64 x.l]] ++ #[Value.pointer (some ⟨bk, 0, none⟩)] : Array Value) = #[.agg #[.int .u32 x.t.a, .int .u32 x.t.b, .int .u16 x.t.c, .int .u16 x.t.d, .int .i64 x.s, .int .i64 x.l], .pointer (some ⟨bk, 0, none⟩)] from rfl]
  exact cof1_any x hr k bk w lk hk
theorem enters_cof : ∀ args w, (callFunc 68 args).run Try.prog w = .ok (.enter 68 args) w := enters_of Try.func68 (by kernel_rfl) rfl

set_option maxHeartbeats 1000000 in
theorem cwo1_any (x : Co) (hr : TuR x.t) (k : Int) (bk : Nat) (w : World) (lk : Lt bk w) (hk : w.cell? ⟨bk, 0, none⟩ = some (.int .i64 k)) :
    Calls Try.prog 70 #[.agg #[.int .u32 x.t.a, .int .u32 x.t.b, .int .u16 x.t.c, .int .u16 x.t.d, .int .i64 x.s, .int .i64 x.l], .pointer (some ⟨bk, 0, none⟩)] w fun e w' => e = .returned (.bool (inB k x)) ∧ Ext w w' := by
  have HR := Lib.hid hr
  clear hr
  go_enter Try.func70, Try.ntmps70
  go_upto_region 1 with (fail)
  obtain ⟨W0, hW⟩ : ∃ W0, w.alloc (.cells #[.int .u32 x.t.a, .int .u32 x.t.b, .int .u16 x.t.c, .int .u16 x.t.d, .int .i64 x.s, .int .i64 x.l] 43) = W0 := ⟨_, rfl⟩
  have e0 : Ext w W0 := by rw [← hW]; exact Ext.al (Ext.rf _) _
  have c0 : W0.cell? ⟨w.heap.size, 0, none⟩ = some (.int .u32 x.t.a) := by rw [← hW]; simp [go_sem]
  have c1 : W0.cell? ⟨w.heap.size, 1, none⟩ = some (.int .u32 x.t.b) := by rw [← hW]; simp [go_sem]
  have c2 : W0.cell? ⟨w.heap.size, 2, none⟩ = some (.int .u16 x.t.c) := by rw [← hW]; simp [go_sem]
  have c3 : W0.cell? ⟨w.heap.size, 3, none⟩ = some (.int .u16 x.t.d) := by rw [← hW]; simp [go_sem]
  have l0 : Lt w.heap.size W0 := by rw [← hW]; simp [Lt]
  have lk0 : Lt bk W0 := Nat.lt_of_lt_of_le lk e0.size
  have hk0 : W0.cell? ⟨bk, 0, none⟩ = some (.int .i64 k) := (e0.cell (p := ⟨bk, 0, none⟩) lk).trans hk
  rw [hW]
  clear hW hk
  generalize w.heap.size = B at *
  refine wp_region_later (by kernel_rfl) (by kernel_rfl) ?_; (repeat (go_big_quiet_step ((go_at_call 69; exact calls_later (of_any x.t HR.out _))))); refine wpQuiet_nil ?_; intro d
  have hd := later_ext d
  go_wp2
  go_ret
  exact ⟨rfl, e0.tr hd⟩
theorem cwo1_cl (x : Co) (hr : TuR x.t) (k : Int) (bk : Nat) (w : World) (lk : Lt bk w) (hk : w.cell? ⟨bk, 0, none⟩ = some (.int .i64 k)) :
    Calls Try.prog 70 (#[.agg #[.int .u32 x.t.a, .int .u32 x.t.b, .int .u16 x.t.c, .int .u16 x.t.d, .int .i64 x.s, .int .i64 x.l]] ++ #[.pointer (some ⟨bk, 0, none⟩)]) w fun e w' => e = .returned (.bool (inB k x)) ∧ Ext w w' := by
  rw [show (#[Value.agg #[.int .u32 x.t.a, .int .u32 x.t.b, .int .u16 x.t.c, .int .u16 x.t.d, .int .i64 x.s, .int .i64 x.l]] ++ #[Value.pointer (some ⟨bk, 0, none⟩)] : Array Value) = #[.agg #[.int .u32 x.t.a, .int .u32 x.t.b, .int .u16 x.t.c, .int .u16 x.t.d, .int .i64 x.s, .int .i64 x.l], .pointer (some ⟨bk, 0, none⟩)] from rfl]
  exact cwo1_any x hr k bk w lk hk
theorem enters_cwo : ∀ args w, (callFunc 70 args).run Try.prog w = .ok (.enter 70 args) w := enters_of Try.func70 (by kernel_rfl) rfl

set_option maxRecDepth 20000 in
set_option maxHeartbeats 2000000 in
theorem cof_any (p : Option Addr) (xs : List Co) (c : Nat) (k : Int) (w : World) (hs : SlC w p xs) (hl : xs.length ≤ 1000) (hr : ∀ x ∈ xs, TuR x.t) :
    Calls Try.prog 30 #[.slice p xs.length c, .int .i64 k] w fun e w' => ∃ v, e = .returned v ∧ w'.ownsRow w.heap.size 43 6 v (xs.filter (inB k)).length (flC (xs.filter (inB k))) ∧ Ext w w' := by
  have HR := Lib.hid hr
  clear hr
  go_enter Try.func30, Try.ntmps30
  go_upto_region 1 with (fail)
  obtain ⟨W0, hW⟩ : ∃ W0, w.alloc (.cells #[.int .i64 k] 3) = W0 := ⟨_, rfl⟩
  have g0 : Ext w W0 := by rw [← hW]; exact Ext.al (Ext.rf _) _
  have ck : W0.cell? ⟨w.heap.size, 0, none⟩ = some (.int .i64 k) := by rw [← hW]; simp [go_sem]
  have lk : Lt w.heap.size W0 := by rw [← hW]; simp [Lt]
  have s0 := hs.ext g0
  have hsz : w.heap.size ≤ W0.heap.size := g0.size
  rw [hW]
  clear hW hs
  have HCL := Lib.hid (fun (x : Co) (W : World) (hm : x ∈ xs) (hE : Ext W0 W) => cof1_cl x (HR.out x hm) k _ W (Nat.lt_of_lt_of_le lk hE.size) ((hE.cell (p := ⟨w.heap.size, 0, none⟩) lk).trans ck))
  go_wp2_with (go_at_call 59; go_must (with_reducible refine (parted_any 68 #[.pointer (some ⟨w.heap.size, 0, none⟩)] enters_cof (inB k) p xs c _ s0 hl HCL.out).mono ?_); rintro e w' ⟨v1, v2, rfl, ⟨o1, o2, o3⟩, g1⟩; have O1 := Lib.hid o1; have O2 := Lib.hid o2; clear o1 o2 o3)
  exact bodyPost_ret (v := v1) (by simp [results, Try.results30, go_sem]) rfl ⟨v1, rfl, ownsRow_le O1.out hsz, g0.tr g1⟩

set_option maxRecDepth 20000 in
set_option maxHeartbeats 2000000 in
theorem cwo_any (p : Option Addr) (xs : List Co) (c : Nat) (k : Int) (w : World) (hs : SlC w p xs) (hl : xs.length ≤ 1000) (hr : ∀ x ∈ xs, TuR x.t) :
    Calls Try.prog 32 #[.slice p xs.length c, .int .i64 k] w fun e w' => ∃ v, e = .returned v ∧ w'.ownsRow w.heap.size 43 6 v (xs.filter (fun x => !inB k x)).length (flC (xs.filter (fun x => !inB k x))) ∧ Ext w w' := by
  have HR := Lib.hid hr
  clear hr
  go_enter Try.func32, Try.ntmps32
  go_upto_region 1 with (fail)
  obtain ⟨W0, hW⟩ : ∃ W0, w.alloc (.cells #[.int .i64 k] 3) = W0 := ⟨_, rfl⟩
  have g0 : Ext w W0 := by rw [← hW]; exact Ext.al (Ext.rf _) _
  have ck : W0.cell? ⟨w.heap.size, 0, none⟩ = some (.int .i64 k) := by rw [← hW]; simp [go_sem]
  have lk : Lt w.heap.size W0 := by rw [← hW]; simp [Lt]
  have s0 := hs.ext g0
  have hsz : w.heap.size ≤ W0.heap.size := g0.size
  rw [hW]
  clear hW hs
  have HCL := Lib.hid (fun (x : Co) (W : World) (hm : x ∈ xs) (hE : Ext W0 W) => cwo1_cl x (HR.out x hm) k _ W (Nat.lt_of_lt_of_le lk hE.size) ((hE.cell (p := ⟨w.heap.size, 0, none⟩) lk).trans ck))
  go_wp2_with (go_at_call 59; go_must (with_reducible refine (parted_any 70 #[.pointer (some ⟨w.heap.size, 0, none⟩)] enters_cwo (inB k) p xs c _ s0 hl HCL.out).mono ?_); rintro e w' ⟨v1, v2, rfl, ⟨o1, o2, o3⟩, g1⟩; have O1 := Lib.hid o1; have O2 := Lib.hid o2; clear o1 o2 o3)
  exact bodyPost_ret (v := v2) (by simp [results, Try.results32, go_sem]) rfl ⟨v2, rfl, ownsRow_le O2.out hsz, g0.tr g1⟩

end Go.Proofs.Ytookffaojlkfaaa
