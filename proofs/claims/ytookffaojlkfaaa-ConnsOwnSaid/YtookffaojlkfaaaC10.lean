/- Connections: with. -/
import Derived.Test.YtookffaojlkfaaaC9
set_option linter.unusedSimpArgs false
set_option linter.unusedVariables false
namespace Go.Proofs.Ytookffaojlkfaaa
open Go.RowKit

/-- What a closure of 'with' does to a row of one's own. -/
def DoesC (g : Nat) (lb : Array Value) (f : List Co → Nat → List Co) (W0 : World) : Prop :=
  ∀ (base : Nat) (W : World) (v : Value) (xs : List Co) (k : Nat), Ext W0 W → W0.heap.size ≤ base → xs.length ≤ 1000 → W.ownsRow base 43 6 v xs.length (flC xs) → k < xs.length →
    Calls Try.prog g (#[v, .int .i64 k] ++ lb) W fun e w' => ∃ v', e = .returned v' ∧ w'.ownsRow base 43 6 v' (f xs k).length (flC (f xs k)) ∧ Mv (fun b => base ≤ b) W w'
def withOk (xs : List Co) (t : Tu) : Bool := okC xs t && rightC xs
def withX (f : List Co → Nat → List Co) (xs : List Co) (t : Tu) : List Co := if withOk xs t = true then f xs (atC xs t) else xs
theorem okC_lt {xs : List Co} {t : Tu} (h : okC xs t = true) : atC xs t < xs.length := by
  unfold okC at h
  cases hg : xs[atC xs t]? with
  | none => rw [hg] at h; cases h
  | some x => exact (List.getElem?_eq_some_iff.1 hg).1
set_option maxRecDepth 20000 in
set_option maxHeartbeats 4000000 in
theorem with_any (g : Nat) (lb : Array Value) (eg : ∀ args w, (callFunc g args).run Try.prog w = .ok (.enter g args) w) (f : List Co → Nat → List Co) (t : Tu) (p : Option Addr) (xs : List Co) (c : Nat) (w : World)
    (hs : SlC w p xs) (hl : xs.length ≤ 1000) (hf : DoesC g lb f w) :
    Calls Try.prog 55 #[.slice p xs.length c, tu t.a t.b t.c t.d, .func (.func g) #[] lb] w fun e w' => ∃ v, e = .returned (.tuple #[v, .bool (withOk xs t)]) ∧ w'.ownsRow w.heap.size 43 6 v (withX f xs t).length (flC (withX f xs t)) ∧ Ext w w' := by
  have HF := Lib.hid hf
  clear hf
  go_enter Try.func55, Try.ntmps55
  go_upto_region 1 with (fail)
  obtain ⟨W0, hW⟩ : ∃ W0, w.alloc (.cells #[.int .u32 t.a, .int .u32 t.b, .int .u16 t.c, .int .u16 t.d] 26) = W0 := ⟨_, rfl⟩
  have e0 : Ext w W0 := by rw [← hW]; exact Ext.al (Ext.rf _) _
  have s0 := hs.ext e0
  have ht : TuAt W0 w.heap.size t := by rw [← hW]; unfold TuAt; simp [go_sem, Lt]
  have hsz : w.heap.size ≤ W0.heap.size := e0.size
  rw [hW]
  clear hW hs
  go_upto_region 2 with (go_at_call 52; go_must (with_reducible refine (clone_C p xs c _ s0 hl).mono ?_); rintro e W1 ⟨v, rfl, ho, g1⟩)
  have ht := ht.ext g1
  have e1 := e0.tr g1
  have ho : W1.ownsRow w.heap.size 43 6 v xs.length (flC xs) := ownsRow_le ho hsz
  obtain ⟨p1, c1, rfl, hc1, s1⟩ := SlC.own ho
  have HO := Lib.hid ho
  obtain ⟨d0, d1, d2, d3⟩ := ht.cells
  have lB : Lt w.heap.size W1 := ht.2
  clear ho s0 e0 g1 ht
  go_upto_region 3 with (go_at_call 24; go_must (with_reducible refine (find_any t p1 xs c1 _ s1 hl).mono ?_); rintro e W2 ⟨rfl, g2⟩)
  have s2 := s1.ext g2
  have e2 := e1.tr g2
  have HO2 := Lib.hid (own_ext HO.out g2)
  clear s1 e1 d0 d1 d2 d3 lB g2 HO
  cases hk : okC xs t
  · have HV := Lib.hid (show withOk xs t = false ∧ withX f xs t = xs by unfold withX withOk; rw [hk]; exact ⟨rfl, rfl⟩)
    go_wp2
    exact bodyPost_ret (v := .tuple #[.slice p1 xs.length c1, .bool false]) (by simp [results, Try.results55, go_sem]) rfl ⟨_, by rw [HV.out.1], by rw [HV.out.2]; exact HO2.out, e2⟩
  have hat := okC_lt hk
  cases hr : rightC xs
  · have HV := Lib.hid (show withOk xs t = false ∧ withX f xs t = xs by unfold withX withOk; rw [hk, hr]; exact ⟨rfl, rfl⟩)
    have HR := Lib.hid hr
    clear hr hk
    go_wp2_with (go_at_call 26; (with_reducible refine (right_any p1 xs c1 _ s2 hl).mono ?_); rw [HR.out]; rintro e W3 ⟨rfl, g3⟩)
    exact bodyPost_ret (v := .tuple #[.slice p1 xs.length c1, .bool false]) (by simp [results, Try.results55, go_sem]) rfl ⟨_, by rw [HV.out.1], by rw [HV.out.2]; exact own_ext HO2.out g3, e2.tr g3⟩
  · have HV := Lib.hid (show withOk xs t = true ∧ withX f xs t = f xs (atC xs t) by unfold withX withOk; rw [hk, hr]; exact ⟨rfl, rfl⟩)
    have HR := Lib.hid hr
    clear hr hk
    generalize atC xs t = k at *
    go_upto_region 5 with (go_at_call 26; (with_reducible refine (right_any p1 xs c1 _ s2 hl).mono ?_); rw [HR.out]; rintro e W3 ⟨rfl, g3⟩)
    have HC := Lib.hid (HF.out w.heap.size W3 _ xs k (e2.tr g3) (Nat.le_refl _) hl (own_ext HO2.out g3) hat)
    go_wp2_with ((with_reducible refine (HC.out).mono ?_); rintro e W4 ⟨v', rfl, ho4, m4⟩; have HO4 := Lib.hid ho4; clear ho4)
    exact bodyPost_ret (v := .tuple #[v', .bool true]) (by simp [results, Try.results55, go_sem]) rfl ⟨_, by rw [HV.out.1], by rw [HV.out.2]; exact HO4.out, Mv.ext_of (e2.tr g3) m4 (fun _ h => h)⟩

end Go.Proofs.Ytookffaojlkfaaa
