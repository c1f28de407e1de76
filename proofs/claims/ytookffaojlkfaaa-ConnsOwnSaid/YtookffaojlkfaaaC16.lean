/- Connections: Add. -/
import Derived.Test.YtookffaojlkfaaaC15
import Derived.Test.YtookffaojlkfaaaC13
set_option linter.unusedSimpArgs false
set_option linter.unusedVariables false
namespace Go.Proofs.Ytookffaojlkfaaa
open Go.RowKit

def addB (xs : List Co) (now : Int) : Bool := !rightC xs || decide (now < 0) || decide (1099511627776 < now)
def addE (xs : List Co) (t : Tu) (now : Int) : Int := if addB xs now = true then 2 else if okC xs t = true then 201 else if (xs.length : Int) < 32 then 0 else 150
def newC (t : Tu) (now : Int) : Co := ⟨t, now, now⟩
def addX (xs : List Co) (t : Tu) (now : Int) : List Co := if addE xs t now = 0 then insAt xs (atC xs t) (newC t now) else xs
theorem at_le (xs : List Co) (t : Tu) : atC xs t ≤ xs.length := List.findIdx_le_length
set_option maxRecDepth 20000 in
set_option maxHeartbeats 4000000 in
theorem add_any (t : Tu) (now : Int) (p : Option Addr) (xs : List Co) (c : Nat) (w : World) (hs : SlC w p xs) (hl : xs.length ≤ 1000) :
    Calls Try.prog 15 #[.slice p xs.length c, tu t.a t.b t.c t.d, .int .i64 now] w fun e w' => ∃ v, e = .returned (.tuple #[v, .int .i64 (addE xs t now)]) ∧ w'.ownsRow w.heap.size 43 6 v (addX xs t now).length (flC (addX xs t now)) ∧ Ext w w' := by
  go_enter Try.func15, Try.ntmps15
  go_upto_region 1 with (fail)
  obtain ⟨W0, hW⟩ : ∃ W0, w.alloc (.cells #[.int .u32 t.a, .int .u32 t.b, .int .u16 t.c, .int .u16 t.d] 26) = W0 := ⟨_, rfl⟩
  rw [hW]
  have g0 : Ext w W0 := by rw [← hW]; exact Ext.al (Ext.rf _) _
  have ht : TuAt W0 w.heap.size t := by rw [← hW]; unfold TuAt; simp [go_sem, Lt]
  have s0 := hs.ext g0
  have hsz : w.heap.size ≤ W0.heap.size := g0.size
  clear hW hs
  go_wp2_with (fail)
  refine wp_scope_fwd 0 rfl ?_
  go_upto_region 2 with (go_at_call 52; (with_reducible refine (clone_C p xs c _ s0 hl).mono ?_); rintro e W1 ⟨v, rfl, ho, g1⟩)
  have ht := ht.ext g1
  have e1 := g0.tr g1
  have ho : W1.ownsRow w.heap.size 43 6 v xs.length (flC xs) := ownsRow_le ho hsz
  have s1 := s0.ext g1
  have HO := Lib.hid ho
  obtain ⟨d0, d1, d2, d3⟩ := ht.cells
  have lB : Lt w.heap.size W1 := ht.2
  clear ho s0 g0 g1 hsz
  go_upto_region 3 with (go_at_call 24; go_must (with_reducible refine (find_any t p xs c _ s1 hl).mono ?_); rintro e W2 ⟨rfl, g2⟩)
  have s2 := s1.ext g2
  have e2 := e1.tr g2
  have HO2 := Lib.hid (own_ext HO.out g2)
  have ht := ht.ext g2
  clear s1 e1 d0 d1 d2 d3 lB g2 HO
  obtain ⟨d0, d1, d2, d3⟩ := ht.cells
  have lB : Lt w.heap.size W2 := ht.2
  have HA := Lib.hid (at_le xs t)
  have hE : addE xs t now = if addB xs now = true then 2 else if okC xs t = true then 201 else if (xs.length : Int) < 32 then 0 else 150 := rfl
  have hB : addB xs now = (!rightC xs || decide (now < 0) || decide (1099511627776 < now)) := rfl
  have hX : addX xs t now = if addE xs t now = 0 then insAt xs (atC xs t) (newC t now) else xs := rfl
  have hg0 : w.heap.size ≤ W2.heap.size := e2.size
  have dn0 : ∀ (k : Int) W, k ≠ 0 → Ext W2 W → addE xs t now = k → ∃ v', (Ending.returned (.tuple #[v, .int .i64 k])) = .returned (.tuple #[v', .int .i64 (addE xs t now)]) ∧ W.ownsRow w.heap.size 43 6 v' (addX xs t now).length (flC (addX xs t now)) ∧ Ext w W := fun k W hk g h => by
    rw [h, if_neg hk] at hX
    exact ⟨v, by rw [h], by rw [hX]; exact own_ext HO2.out g, e2.tr g⟩
  have DN := Lib.hid dn0
  clear dn0
  cases hr : rightC xs
  · have HE := Lib.hid (show addE xs t now = 2 by rw [hE, hB, hr]; rfl)
    clear hE hB hX
    go_wp2_with (go_at_call 26; (with_reducible refine (right_any p xs c _ s2 hl).mono ?_); rw [hr]; rintro e W3 ⟨rfl, g3⟩)
    go_step3
    refine ⟨rfl, ?_⟩
    go_wp2
    rw [Exit.noGoto_ret]
    exact bodyPost_ret (v := .tuple #[v, .int .i64 2]) (by simp [results, Try.results15, go_sem]) rfl (DN.out 2 _ (by omega) g3 HE.out)
  by_cases h1 : now < 0
  · have HE := Lib.hid (show addE xs t now = 2 by rw [hE, hB, hr, decide_eq_true h1]; rfl)
    clear hE hB hX
    go_wp2_with (go_at_call 26; (with_reducible refine (right_any p xs c _ s2 hl).mono ?_); rw [hr]; rintro e W3 ⟨rfl, g3⟩)
    go_step3
    refine ⟨rfl, ?_⟩
    go_wp2
    rw [Exit.noGoto_ret]
    exact bodyPost_ret (v := .tuple #[v, .int .i64 2]) (by simp [results, Try.results15, go_sem]) rfl (DN.out 2 _ (by omega) g3 HE.out)
  by_cases h2 : 1099511627776 < now
  · have HE := Lib.hid (show addE xs t now = 2 by rw [hE, hB, hr, decide_eq_true h2]; simp)
    clear hE hB hX
    go_wp2_with (go_at_call 26; (with_reducible refine (right_any p xs c _ s2 hl).mono ?_); rw [hr]; rintro e W3 ⟨rfl, g3⟩)
    go_step3
    refine ⟨rfl, ?_⟩
    go_wp2
    rw [Exit.noGoto_ret]
    exact bodyPost_ret (v := .tuple #[v, .int .i64 2]) (by simp [results, Try.results15, go_sem]) rfl (DN.out 2 _ (by omega) g3 HE.out)
  rw [hr, decide_eq_false h1, decide_eq_false h2] at hB
  rw [hB] at hE
  simp only [Bool.not_true, Bool.or_false, Bool.false_eq_true, if_false] at hE
  cases hk : okC xs t
  rotate_left
  · have HE := Lib.hid (show addE xs t now = 201 by rw [hE, if_pos hk])
    clear hE hB hX
    go_wp2_with (go_at_call 26; (with_reducible refine (right_any p xs c _ s2 hl).mono ?_); rw [hr]; rintro e W3 ⟨rfl, g3⟩)
    go_step3
    refine ⟨rfl, ?_⟩
    go_wp2
    rw [Exit.noGoto_ret]
    exact bodyPost_ret (v := .tuple #[v, .int .i64 201]) (by simp [results, Try.results15, go_sem]) rfl (DN.out 201 _ (by omega) g3 HE.out)
  rw [if_neg (by rw [hk]; simp)] at hE
  by_cases h3 : (xs.length : Int) < 32
  rotate_left
  · have HE := Lib.hid (show addE xs t now = 150 by rw [hE, if_neg h3])
    have hd : decide ((xs.length : Int) < 32) = false := decide_eq_false h3
    clear hE hB hX
    go_wp2_with (first | (go_at_call 26; (with_reducible refine (right_any p xs c _ s2 hl).mono ?_); rw [hr]; rintro e W3 ⟨rfl, g3⟩) | (go_at_call 28; (with_reducible refine (room_any p xs.length c _).mono ?_); rw [hd]; rintro e W4 ⟨rfl, rfl⟩))
    go_step3
    refine ⟨rfl, ?_⟩
    go_wp2
    rw [Exit.noGoto_ret]
    exact bodyPost_ret (v := .tuple #[v, .int .i64 150]) (by simp [results, Try.results15, go_sem]) rfl (DN.out 150 _ (by omega) g3 HE.out)
  have hd : decide ((xs.length : Int) < 32) = true := decide_eq_true h3
  rw [if_pos h3] at hE
  have HE := Lib.hid hE
  rw [hE, if_pos rfl] at hX
  have HY := Lib.hid hX
  clear hE hB hX DN
  go_upto_region 9 with (first | (go_at_call 26; (with_reducible refine (right_any p xs c _ s2 hl).mono ?_); rw [hr]; rintro e W3 ⟨rfl, g3⟩) | (go_at_call 28; (with_reducible refine (room_any p xs.length c _).mono ?_); rw [hd]; rintro e W4 ⟨rfl, rfl⟩))
  have ht := ht.ext g3
  have e3 := e2.tr g3
  have HO3 := Lib.hid (own_ext HO2.out g3)
  clear d0 d1 d2 d3 lB HO2 s2 e2 g3 hg0
  obtain ⟨d0, d1, d2, d3⟩ := ht.cells
  have lB : Lt w.heap.size W3 := ht.2
  have hg3 : w.heap.size ≤ W3.heap.size := e3.size
  obtain ⟨WN, hWN⟩ : ∃ WN, WN = W3.alloc (.cells #[.int .u32 t.a, .int .u32 t.b, .int .u16 t.c, .int .u16 t.d, .int .i64 now, .int .i64 now] 43) := ⟨_, rfl⟩
  have hnb : v.ownBlock ≠ some W3.heap.size := fun h => by have := (HO3.out.lt _ h).2; omega
  have hOn : WN.ownsRow w.heap.size 43 6 v xs.length (flC xs) := by rw [hWN]; exact own_ext HO3.out (Ext.al (Ext.rf _) _)
  have HI := Lib.hid (ins_C w.heap.size WN v xs (atC xs t) (newC t now) W3.heap.size HA.out hl (by rw [hWN]; simp [go_sem]; omega) hOn (by rw [hWN]; exact World.alloc_heap_new _ _) hnb)
  rw [hWN] at HI
  go_wp2_with ((with_reducible refine (HI.out).mono ?_); rintro e W5 ⟨v', rfl, ho5, m5⟩; have HO5 := Lib.hid ho5; clear ho5)
  simp only [Exit.jump]
  exact bodyPost_ret (v := .tuple #[v', .int .i64 0]) (by simp [results, Try.results15, go_sem]) rfl ⟨v', by rw [HE.out], by rw [HY.out]; exact HO5.out, Mv.ext_of (Ext.al e3 _) m5 (fun _ h => h)⟩

end Go.Proofs.Ytookffaojlkfaaa
