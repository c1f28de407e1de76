/- Lemmas of this claim, put together out of: W1, W2, W3, F, OC, Y22, Y23. -/
import Derived.Test.YtookffaojlkfaaaMA8
import Derived.WalkKit
import Derived.ProofKit
import Derived.OpenShut
import Derived.Lib.SmallJoins
import Derived.Deep.Slices
import Derived.Deep.Fields
import Derived.ChangeSame
set_option linter.unusedSimpArgs false
set_option linter.unusedVariables false
/- What wakes asks, at literals. -/
namespace Go.Proofs.Ytookffaojlkfaaa
open Go.RowKit

def T3 : Tu := ⟨1, 2, 3, 80⟩
def T7 : Tu := ⟨1, 2, 7, 80⟩
def T8 : Tu := ⟨1, 2, 8, 80⟩
def L1 : List Co := [⟨T7, 5, 5⟩]
def L2 : List Co := [⟨T7, 5, 9⟩]
def M2 : List Co := [⟨T3, 10, 10⟩, ⟨T7, 5, 9⟩]
def C2 : List Co := [⟨T3, 10, 10⟩]
def GetsC (xs : List Co) (n : Nat) (x : Value) (W : World) (e : Ending) (w' : World) : Prop := ∃ p c, e = .returned (.tuple #[.slice p n c, x]) ∧ SlC w' p xs ∧ Ext W w'
theorem gets_of {xs ys : List Co} {n : Nat} {x y v : Value} {W w' : World} (hy : xs = ys) (hn : ys.length = n) (hx : x = y) (ho : w'.ownsRow W.heap.size 43 6 v xs.length (flC xs)) (hE : Ext W w') : GetsC ys n y W (.returned (.tuple #[v, x])) w' := by
  subst hy hn hx
  obtain ⟨p, c, rfl, -, hs⟩ := SlC.own ho
  exact ⟨p, c, rfl, hs, hE⟩
theorem tuple3_any (w : World) : Calls Try.prog 50 #[.int .i64 3] w fun e w' => e = .returned (tu 1 2 3 80) ∧ Ext w w' := by
  go_enter Try.func50, Try.ntmps50
  go_wp2
  refine bodyPost_ret (v := tu 1 2 3 80) (by simp [results, Try.results50, go_sem]) rfl ⟨rfl, ?_⟩
  (repeat (first | with_reducible exact Ext.rf _ | with_reducible assumption | with_reducible refine Ext.al ?_ _ | with_reducible refine Ext.dr ?_ | with_reducible refine Ext.dn ?_ _ | ((with_reducible refine Ext.st _ ?_ ?_); focus (first | omega | (simp; omega) | simp)) | with_reducible refine Ext.tr ?_ (by assumption) | with_reducible refine Ext.tr ?_ (up_ext (by assumption)) | with_reducible refine Ext.of (by assumption) ?_))
theorem tuple7_any (w : World) : Calls Try.prog 50 #[.int .i64 7] w fun e w' => e = .returned (tu 1 2 7 80) ∧ Ext w w' := by
  go_enter Try.func50, Try.ntmps50
  go_wp2
  refine bodyPost_ret (v := tu 1 2 7 80) (by simp [results, Try.results50, go_sem]) rfl ⟨rfl, ?_⟩
  (repeat (first | with_reducible exact Ext.rf _ | with_reducible assumption | with_reducible refine Ext.al ?_ _ | with_reducible refine Ext.dr ?_ | with_reducible refine Ext.dn ?_ _ | ((with_reducible refine Ext.st _ ?_ ?_); focus (first | omega | (simp; omega) | simp)) | with_reducible refine Ext.tr ?_ (by assumption) | with_reducible refine Ext.tr ?_ (up_ext (by assumption)) | with_reducible refine Ext.of (by assumption) ?_))
theorem tuple8_any (w : World) : Calls Try.prog 50 #[.int .i64 8] w fun e w' => e = .returned (tu 1 2 8 80) ∧ Ext w w' := by
  go_enter Try.func50, Try.ntmps50
  go_wp2
  refine bodyPost_ret (v := tu 1 2 8 80) (by simp [results, Try.results50, go_sem]) rfl ⟨rfl, ?_⟩
  (repeat (first | with_reducible exact Ext.rf _ | with_reducible assumption | with_reducible refine Ext.al ?_ _ | with_reducible refine Ext.dr ?_ | with_reducible refine Ext.dn ?_ _ | ((with_reducible refine Ext.st _ ?_ ?_); focus (first | omega | (simp; omega) | simp)) | with_reducible refine Ext.tr ?_ (by assumption) | with_reducible refine Ext.tr ?_ (up_ext (by assumption)) | with_reducible refine Ext.of (by assumption) ?_))

theorem add_g {t : Tu} {now : Int} {p : Option Addr} {xs ys : List Co} {m n c : Nat} {er : Int} {W : World} (hs : SlC W p xs) (hm : xs.length = m) (hl : xs.length ≤ 1000) (hy : addX xs t now = ys) (hn : ys.length = n) (he : addE xs t now = er) :
    Calls Try.prog 15 #[.slice p m c, tu t.a t.b t.c t.d, .int .i64 now] W (GetsC ys n (.int .i64 er) W) := by
  subst hm
  exact (add_any t now p xs c W hs hl).mono fun e w' ⟨v, h1, h2, h3⟩ => by rw [h1]; exact gets_of hy hn (by rw [he]) h2 h3
theorem touch_g {t : Tu} {now : Int} {p : Option Addr} {xs ys : List Co} {m n c : Nat} {er : Bool} {W : World} (hs : SlC W p xs) (hm : xs.length = m) (hl : xs.length ≤ 1000) (hy : withX (touchF now) xs t = ys) (hn : ys.length = n) (he : withOk xs t = er) :
    Calls Try.prog 17 #[.slice p m c, tu t.a t.b t.c t.d, .int .i64 now] W (GetsC ys n (.bool er) W) := by
  subst hm
  exact (touch_any t now p xs c W hs hl).mono fun e w' ⟨v, h1, h2, h3⟩ => by rw [h1]; exact gets_of hy hn (by rw [he]) h2 h3
theorem close_g {t : Tu} {p : Option Addr} {xs ys : List Co} {m n c : Nat} {er : Bool} {W : World} (hs : SlC W p xs) (hm : xs.length = m) (hl : xs.length ≤ 1000) (hy : withX (fun xs k => xs.eraseIdx k) xs t = ys) (hn : ys.length = n) (he : withOk xs t = er) :
    Calls Try.prog 19 #[.slice p m c, tu t.a t.b t.c t.d] W (GetsC ys n (.bool er) W) := by
  subst hm
  exact (close_any t p xs c W hs hl).mono fun e w' ⟨v, h1, h2, h3⟩ => by rw [h1]; exact gets_of hy hn (by rw [he]) h2 h3
def TwoG (xs ys : List Co) (n m : Nat) (W : World) (e : Ending) (w' : World) : Prop := ∃ p c q d, e = .returned (.tuple #[.slice p n c, .slice q m d]) ∧ SlC w' p xs ∧ SlC w' q ys ∧ Ext W w'
theorem idle_g {idle now : Int} {p : Option Addr} {xs ys zs : List Co} {m n k c : Nat} {W : World} (hs : SlC W p xs) (hm : xs.length = m) (hl : xs.length ≤ 1000) (hi : idle ≤ 9223372036854775807) (hy : xs.filter (idleB idle now) = ys) (hz : (xs.filter fun x => !idleB idle now x) = zs) (hn : ys.length = n) (hk : zs.length = k) :
    Calls Try.prog 21 #[.slice p m c, .int .i64 idle, .int .i64 now] W (TwoG ys zs n k W) := by
  subst hm hy hz hn hk
  refine (idle_any p xs c idle now W hs hl hi _ _ _ rfl rfl rfl).mono fun e w' ⟨v1, v2, h1, ⟨o1, o2, _⟩, h3⟩ => ?_
  obtain ⟨p1, c1, rfl, -, s1⟩ := SlC.own o1
  obtain ⟨p2, c2, rfl, -, s2⟩ := SlC.own o2
  exact ⟨p1, c1, p2, c2, h1, s1, s2, h3⟩
def OneG (xs : List Co) (n : Nat) (W : World) (e : Ending) (w' : World) : Prop := ∃ p c, e = .returned (.slice p n c) ∧ SlC w' p xs ∧ Ext W w'
theorem of_g {k : Int} {p : Option Addr} {xs ys : List Co} {m n c : Nat} {W : World} (hs : SlC W p xs) (hm : xs.length = m) (hl : xs.length ≤ 1000) (hr : ∀ x ∈ xs, TuR x.t) (hy : xs.filter (inB k) = ys) (hn : ys.length = n) :
    Calls Try.prog 30 #[.slice p m c, .int .i64 k] W (OneG ys n W) := by
  subst hm hy hn
  refine (cof_any p xs c k W hs hl hr).mono fun e w' ⟨v, h1, o1, h3⟩ => ?_
  obtain ⟨p1, c1, rfl, -, s1⟩ := SlC.own o1
  exact ⟨p1, c1, h1, s1, h3⟩
theorem wo_g {k : Int} {p : Option Addr} {xs ys : List Co} {m n c : Nat} {W : World} (hs : SlC W p xs) (hm : xs.length = m) (hl : xs.length ≤ 1000) (hr : ∀ x ∈ xs, TuR x.t) (hy : (xs.filter fun x => !inB k x) = ys) (hn : ys.length = n) :
    Calls Try.prog 32 #[.slice p m c, .int .i64 k] W (OneG ys n W) := by
  subst hm hy hn
  refine (cwo_any p xs c k W hs hl hr).mono fun e w' ⟨v, h1, o1, h3⟩ => ?_
  obtain ⟨p1, c1, rfl, -, s1⟩ := SlC.own o1
  exact ⟨p1, c1, h1, s1, h3⟩
theorem right_g {b : Bool} {p : Option Addr} {xs : List Co} {m c : Nat} {W : World} (hs : SlC W p xs) (hm : xs.length = m) (hl : xs.length ≤ 1000) (hb : rightC xs = b) :
    Calls Try.prog 26 #[.slice p m c] W fun e w' => e = .returned (.bool b) ∧ Ext W w' := by
  subst hm hb
  exact right_any p xs c W hs hl
theorem find_g {t : Tu} {b : Bool} {k : Nat} {p : Option Addr} {xs : List Co} {m c : Nat} {W : World} (hs : SlC W p xs) (hm : xs.length = m) (hl : xs.length ≤ 1000) (hk : atC xs t = k) (hb : okC xs t = b) :
    Calls Try.prog 24 #[.slice p m c, tu t.a t.b t.c t.d] W fun e w' => e = .returned (.tuple #[.int .i64 k, .bool b]) ∧ Ext W w' := by
  subst hm hb hk
  exact find_any t p xs c W hs hl
theorem r3 : TuR T3 := by unfold TuR T3; simp
theorem r7 : TuR T7 := by unfold TuR T7; simp
theorem k1 : addX [] T7 5 = L1 ∧ addE [] T7 5 = 0 := ⟨by kernel_rfl, by kernel_rfl⟩
theorem k2 : withX (touchF 9) L1 T7 = L2 ∧ withOk L1 T7 = true := ⟨by kernel_rfl, by kernel_rfl⟩
theorem k3 : addX L2 T3 10 = M2 ∧ addE L2 T3 10 = 0 := ⟨by kernel_rfl, by kernel_rfl⟩
theorem k4 : addX L2 T7 11 = L2 ∧ addE L2 T7 11 = 201 := ⟨by kernel_rfl, by kernel_rfl⟩
theorem k5 : addX L2 T8 (-1) = L2 ∧ addE L2 T8 (-1) = 2 := ⟨by kernel_rfl, by kernel_rfl⟩
theorem k6 : L2.filter (idleB 4 12) = [] ∧ (L2.filter fun x => !idleB 4 12 x) = L2 := ⟨by kernel_rfl, by kernel_rfl⟩
theorem k7 : L2.filter (idleB 4 13) = L2 ∧ (L2.filter fun x => !idleB 4 13 x) = [] := ⟨by kernel_rfl, by kernel_rfl⟩
theorem k8 : withX (fun xs k => xs.eraseIdx k) M2 T7 = C2 ∧ withOk M2 T7 = true := ⟨by kernel_rfl, by kernel_rfl⟩
theorem k9 : withX (fun xs k => xs.eraseIdx k) C2 T7 = C2 ∧ withOk C2 T7 = false := ⟨by kernel_rfl, by kernel_rfl⟩
theorem k10 : atC M2 T7 = 1 ∧ okC M2 T7 = true := ⟨by kernel_rfl, by kernel_rfl⟩
theorem k11 : L2.filter (inB (ofT T7)) = L2 ∧ (L2.filter fun x => !inB (ofT T7) x) = [] := by
  have h : inB (ofT T7) ⟨T7, 5, 9⟩ = true := by unfold inB; simp
  unfold L2
  simp [h]
theorem k12 : rightC M2 = true := by kernel_rfl
theorem k13 : rightC [⟨⟨0, 0, 0, 0⟩, 2, 1⟩] = false := by kernel_rfl

end Go.Proofs.Ytookffaojlkfaaa

/- Region 14 of wakes: in which order its operations may be taken. -/
namespace Go.Proofs.Ytookffaojlkfaaa
open Go.RowKit

def SchWk (ops : Array Oper) : Prop := Region.noSelect ops = true ∧ (∀ k, k < 112 → [28, 81, 88, 94, 98, 102, 103, 107, 108].contains k = false → okX ops 112 k = true) ∧
  (∀ k, [28, 81, 88, 94, 98, 102, 103, 107, 108].contains k = true → Region.ready .any ops (lst 112 k) = [k]) ∧ Region.ready .any ops (lst 112 112) = []
theorem sch_sel : Region.noSelect ((Try.f14.body.bind (findR 14)).getD #[]) = true := by kernel_rfl
theorem sch_0 : schedX ((Try.f14.body.bind (findR 14)).getD #[]) 112 [28, 81, 88, 94, 98, 102, 103, 107, 108] 0 12 = true := by kernel_rfl
theorem sch_12 : schedX ((Try.f14.body.bind (findR 14)).getD #[]) 112 [28, 81, 88, 94, 98, 102, 103, 107, 108] 12 24 = true := by kernel_rfl
theorem sch_24 : schedX ((Try.f14.body.bind (findR 14)).getD #[]) 112 [28, 81, 88, 94, 98, 102, 103, 107, 108] 24 36 = true := by kernel_rfl
theorem sch_36 : schedX ((Try.f14.body.bind (findR 14)).getD #[]) 112 [28, 81, 88, 94, 98, 102, 103, 107, 108] 36 48 = true := by kernel_rfl
theorem sch_48 : schedX ((Try.f14.body.bind (findR 14)).getD #[]) 112 [28, 81, 88, 94, 98, 102, 103, 107, 108] 48 60 = true := by kernel_rfl
theorem sch_60 : schedX ((Try.f14.body.bind (findR 14)).getD #[]) 112 [28, 81, 88, 94, 98, 102, 103, 107, 108] 60 72 = true := by kernel_rfl
theorem sch_72 : schedX ((Try.f14.body.bind (findR 14)).getD #[]) 112 [28, 81, 88, 94, 98, 102, 103, 107, 108] 72 84 = true := by kernel_rfl
theorem sch_84 : schedX ((Try.f14.body.bind (findR 14)).getD #[]) 112 [28, 81, 88, 94, 98, 102, 103, 107, 108] 84 96 = true := by kernel_rfl
theorem sch_96 : schedX ((Try.f14.body.bind (findR 14)).getD #[]) 112 [28, 81, 88, 94, 98, 102, 103, 107, 108] 96 108 = true := by kernel_rfl
theorem sch_108 : schedX ((Try.f14.body.bind (findR 14)).getD #[]) 112 [28, 81, 88, 94, 98, 102, 103, 107, 108] 108 112 = true := by kernel_rfl
theorem sch_s28 : Region.ready .any ((Try.f14.body.bind (findR 14)).getD #[]) (lst 112 28) = [28] := by kernel_rfl
theorem sch_s81 : Region.ready .any ((Try.f14.body.bind (findR 14)).getD #[]) (lst 112 81) = [81] := by kernel_rfl
theorem sch_s88 : Region.ready .any ((Try.f14.body.bind (findR 14)).getD #[]) (lst 112 88) = [88] := by kernel_rfl
theorem sch_s94 : Region.ready .any ((Try.f14.body.bind (findR 14)).getD #[]) (lst 112 94) = [94] := by kernel_rfl
theorem sch_s98 : Region.ready .any ((Try.f14.body.bind (findR 14)).getD #[]) (lst 112 98) = [98] := by kernel_rfl
theorem sch_s102 : Region.ready .any ((Try.f14.body.bind (findR 14)).getD #[]) (lst 112 102) = [102] := by kernel_rfl
theorem sch_s103 : Region.ready .any ((Try.f14.body.bind (findR 14)).getD #[]) (lst 112 103) = [103] := by kernel_rfl
theorem sch_s107 : Region.ready .any ((Try.f14.body.bind (findR 14)).getD #[]) (lst 112 107) = [107] := by kernel_rfl
theorem sch_s108 : Region.ready .any ((Try.f14.body.bind (findR 14)).getD #[]) (lst 112 108) = [108] := by kernel_rfl
theorem sch_e : Region.ready .any ((Try.f14.body.bind (findR 14)).getD #[]) (lst 112 112) = [] := by kernel_rfl
theorem schWk : SchWk ((Try.f14.body.bind (findR 14)).getD #[]) := by
  refine ⟨sch_sel, fun k hk hl => ?_, fun k hk => ?_, sch_e⟩
  · rcases (by omega : (0 ≤ k ∧ k < 12) ∨ (12 ≤ k ∧ k < 24) ∨ (24 ≤ k ∧ k < 36) ∨ (36 ≤ k ∧ k < 48) ∨ (48 ≤ k ∧ k < 60) ∨ (60 ≤ k ∧ k < 72) ∨ (72 ≤ k ∧ k < 84) ∨ (84 ≤ k ∧ k < 96) ∨ (96 ≤ k ∧ k < 108) ∨ (108 ≤ k ∧ k < 112)) with ⟨h1, h2⟩ | ⟨h1, h2⟩ | ⟨h1, h2⟩ | ⟨h1, h2⟩ | ⟨h1, h2⟩ | ⟨h1, h2⟩ | ⟨h1, h2⟩ | ⟨h1, h2⟩ | ⟨h1, h2⟩ | ⟨h1, h2⟩
    · exact schedX_at sch_0 h1 h2 hl
    · exact schedX_at sch_12 h1 h2 hl
    · exact schedX_at sch_24 h1 h2 hl
    · exact schedX_at sch_36 h1 h2 hl
    · exact schedX_at sch_48 h1 h2 hl
    · exact schedX_at sch_60 h1 h2 hl
    · exact schedX_at sch_72 h1 h2 hl
    · exact schedX_at sch_84 h1 h2 hl
    · exact schedX_at sch_96 h1 h2 hl
    · exact schedX_at sch_108 h1 h2 hl
  · simp only [List.contains_iff_mem, List.mem_cons, List.not_mem_nil, or_false] at hk
    rcases hk with rfl | rfl | rfl | rfl | rfl | rfl | rfl | rfl | rfl
    · exact sch_s28
    · exact sch_s81
    · exact sch_s88
    · exact sch_s94
    · exact sch_s98
    · exact sch_s102
    · exact sch_s103
    · exact sch_s107
    · exact sch_s108

end Go.Proofs.Ytookffaojlkfaaa

/- wakes of law 15: it answers true. -/
namespace Go.Proofs.Ytookffaojlkfaaa
open Go.RowKit

theorem callLE {P : Program} {ops : Array Oper} {R : Value → World → Prop} {Q : Act → World → Prop} {n k : Nat} {oi : Oper} {f : FuncId} {args : Array Value} {fuel : Nat} {a : Act} {w : World} (hr : Region.ready .any ops (lst n k) = [k]) (hi : ops[k]? = some oi) (hw : Region.wanted oi (yielded ops a.tmps) = true)
    (he : (execOp a.eval oi).run P w = .ok (.enter f args) w) (hc : Calls P f args w fun e w' => ∃ v, e = .returned v ∧ R v w' ∧ Ext w w')
    (H : ∀ v w', Ext w w' → R v w' → wpAnyX P .any ops Q fuel (lst n (k + 1)) (a.put oi.dst v) w') : wpAnyX P .any ops Q (fuel + 1) (lst n k) a w := by
  refine soleX hi hr hw ?_
  rw [he]
  exact hc.mono fun e w' ⟨v, h1, h2, h3⟩ => ⟨v, h1, h3, by rw [lst_set]; exact H v w' h3 h2⟩
theorem ldI_X {w : World} {B O : Nat} {n : Int} (h0 : w.cell? ⟨B, O, none⟩ = some (.int .i64 n)) (hl : Lt B w) (ρ : Operand → Value) (dst : Option Tmp) (x : Operand) (ty : TypeId) (pos : String) (after : Array Edge) (g : Option (Nat × Bool))
    (hx : ρ x = .pointer (some ⟨B, O, none⟩)) : ∀ w', Ext w w' → (execOp ρ ⟨dst, .load 3 x, ty, pos, after, g⟩).run Try.prog w' = .ok (.value (.int .i64 n)) w' := by
  intro w' hE
  have h0 := (hE.cell (p := ⟨B, _, none⟩) hl).trans h0
  simp only [execOp, hx]
  go_simp
theorem ldTU_X {w : World} {B O : Nat} {t : Tu} (h0 : w.cell? ⟨B, O, none⟩ = some (.int .u32 t.a)) (h1 : w.cell? ⟨B, O + 1, none⟩ = some (.int .u32 t.b)) (h2 : w.cell? ⟨B, O + 2, none⟩ = some (.int .u16 t.c)) (h3 : w.cell? ⟨B, O + 3, none⟩ = some (.int .u16 t.d)) (hl : Lt B w) (ρ : Operand → Value) (dst : Option Tmp) (x : Operand) (ty : TypeId) (pos : String) (after : Array Edge) (g : Option (Nat × Bool))
    (hx : ρ x = .pointer (some ⟨B, O, none⟩)) : ∀ w', Ext w w' → (execOp ρ ⟨dst, .load 26 x, ty, pos, after, g⟩).run Try.prog w' = .ok (.value (tu t.a t.b t.c t.d)) w' := by
  intro w' hE
  have h0 := (hE.cell (p := ⟨B, _, none⟩) hl).trans h0
  have h1 := (hE.cell (p := ⟨B, _, none⟩) hl).trans h1
  have h2 := (hE.cell (p := ⟨B, _, none⟩) hl).trans h2
  have h3 := (hE.cell (p := ⟨B, _, none⟩) hl).trans h3
  simp only [execOp, hx]
  go_simp
def z32 : Array Value := (List.replicate 32 ([.int .u32 0, .int .u32 0, .int .u16 0, .int .u16 0, .int .i64 0, .int .i64 0] : List Value)).flatten.toArray
theorem mks_run (ρ : Operand → Value) (dst : Option Tmp) (ty : TypeId) (pos : String) (after : Array Edge) (g : Option (Nat × Bool)) (w : World) (hk : ρ (.const (.int .i64 32)) = .int .i64 32) :
    (execOp ρ ⟨dst, .makeSlice 22 (.const (.int .i64 32)) (.const (.int .i64 32)), ty, pos, after, g⟩).run Try.prog w = .ok (.value (.slice (some ⟨w.heap.size, 0, none⟩) 32 32)) (w.alloc (.cells z32 43)) := by
  simp only [execOp, hk]
  kernel_rfl
theorem bld_run (ρ : Operand → Value) (dst : Option Tmp) (x : Operand) (ty : TypeId) (pos : String) (after : Array Edge) (g : Option (Nat × Bool)) (hx : ρ x = .agg #[.int .u32 0, .int .u32 0, .int .u16 0, .int .u16 0, .int .i64 2, .int .i64 1]) (w : World) :
    (execOp ρ ⟨dst, .buildSlice 22 1 #[(0, x)], ty, pos, after, g⟩).run Try.prog w = .ok (.value (.slice (some ⟨w.heap.size, 0, none⟩) 1 1)) (w.alloc (.cells #[.int .u32 0, .int .u32 0, .int .u16 0, .int .u16 0, .int .i64 2, .int .i64 1] 43)) := by
  simp only [execOp]
  go_simp
theorem wa1 (W : World) : Calls Try.prog 15 #[.slice none 0 0, tu 1 2 7 80, .int .i64 5] W (GetsC L1 1 (.int .i64 0) W) := add_g (t := T7) (xs := []) (SlC.nil W none) rfl (by simp) k1.1 rfl k1.2
theorem wt2 {p : Option Addr} (c : Nat) (W : World) (hs : SlC W p L1) : Calls Try.prog 17 #[.slice p 1 c, tu 1 2 7 80, .int .i64 9] W (GetsC L2 1 (.bool true) W) := touch_g (t := T7) hs rfl (by simp [L1]) k2.1 rfl k2.2
theorem wa3 {p : Option Addr} (c : Nat) (W : World) (hs : SlC W p L2) : Calls Try.prog 15 #[.slice p 1 c, tu 1 2 3 80, .int .i64 10] W (GetsC M2 2 (.int .i64 0) W) := add_g (t := T3) hs rfl (by simp [L2]) k3.1 rfl k3.2
theorem wa4 {p : Option Addr} (c : Nat) (W : World) (hs : SlC W p L2) : Calls Try.prog 15 #[.slice p 1 c, tu 1 2 7 80, .int .i64 11] W (GetsC L2 1 (.int .i64 201) W) := add_g (t := T7) hs rfl (by simp [L2]) k4.1 rfl k4.2
theorem wa5 {p : Option Addr} (c : Nat) (W : World) (hs : SlC W p L2) : Calls Try.prog 15 #[.slice p 1 c, tu 1 2 8 80, .int .i64 (-1)] W (GetsC L2 1 (.int .i64 2) W) := add_g (t := T8) hs rfl (by simp [L2]) k5.1 rfl k5.2
theorem wi6 {p : Option Addr} (c : Nat) (W : World) (hs : SlC W p L2) : Calls Try.prog 21 #[.slice p 1 c, .int .i64 4, .int .i64 12] W (TwoG [] L2 0 1 W) := idle_g hs rfl (by simp [L2]) (by omega) k6.1 k6.2 rfl rfl
theorem wi7 {p : Option Addr} (c : Nat) (W : World) (hs : SlC W p L2) : Calls Try.prog 21 #[.slice p 1 c, .int .i64 4, .int .i64 13] W (TwoG L2 [] 1 0 W) := idle_g hs rfl (by simp [L2]) (by omega) k7.1 k7.2 rfl rfl
theorem wc8 {p : Option Addr} (c : Nat) (W : World) (hs : SlC W p M2) : Calls Try.prog 19 #[.slice p 2 c, tu 1 2 7 80] W (GetsC C2 1 (.bool true) W) := close_g (t := T7) hs rfl (by simp [M2]) k8.1 rfl k8.2
theorem wc9 {p : Option Addr} (c : Nat) (W : World) (hs : SlC W p C2) : Calls Try.prog 19 #[.slice p 1 c, tu 1 2 7 80] W (GetsC C2 1 (.bool false) W) := close_g (t := T7) hs rfl (by simp [C2]) k9.1 rfl k9.2
theorem wf10 {p : Option Addr} (c : Nat) (W : World) (hs : SlC W p M2) : Calls Try.prog 24 #[.slice p 2 c, tu 1 2 7 80] W fun e w' => e = .returned (.tuple #[.int .i64 1, .bool true]) ∧ Ext W w' := find_g (t := T7) hs rfl (by simp [M2]) k10.1 k10.2
theorem wr11 (W : World) : Calls Try.prog 51 #[tu 1 2 7 80] W fun e w' => e = .returned (.int .i64 (ofT T7)) ∧ Ext W w' := rof_any T7 r7 W
theorem wo12 {p : Option Addr} (c : Nat) (W : World) (hs : SlC W p L2) : Calls Try.prog 30 #[.slice p 1 c, .int .i64 (ofT T7)] W (OneG L2 1 W) := of_g hs rfl (by simp [L2]) (by intro x hx; simp [L2] at hx; subst hx; exact r7) k11.1 rfl
theorem ww13 {p : Option Addr} (c : Nat) (W : World) (hs : SlC W p L2) : Calls Try.prog 32 #[.slice p 1 c, .int .i64 (ofT T7)] W (OneG [] 0 W) := wo_g hs rfl (by simp [L2]) (by intro x hx; simp [L2] at hx; subst hx; exact r7) k11.2 rfl
theorem wr14 {p : Option Addr} (c : Nat) (W : World) (hs : SlC W p M2) : Calls Try.prog 26 #[.slice p 2 c] W fun e w' => e = .returned (.bool true) ∧ Ext W w' := right_g hs rfl (by simp [M2]) k12
theorem wr15 {p : Option Addr} (c : Nat) (W : World) (hs : SlC W p [⟨⟨0, 0, 0, 0⟩, 2, 1⟩]) : Calls Try.prog 26 #[.slice p 1 c] W fun e w' => e = .returned (.bool false) ∧ Ext W w' := right_g hs rfl (by simp) k13
theorem wm16 (p : Option Addr) (c : Nat) (W : World) : Calls Try.prog 28 #[.slice p 2 c] W fun e w' => e = .returned (.bool true) ∧ Ext W w' := (room_any p 2 c W).mono fun e w' ⟨h1, h2⟩ => ⟨h1, by subst h2; exact Ext.rf _⟩
theorem wm17 (p : Option Addr) (c : Nat) (W : World) : Calls Try.prog 28 #[.slice p 32 c] W fun e w' => e = .returned (.bool false) ∧ Ext W w' := (room_any p 32 c W).mono fun e w' ⟨h1, h2⟩ => ⟨h1, by subst h2; exact Ext.rf _⟩
theorem up_co {w W : World} {p : Option Addr} {xs : List Co} (h : SlC w p xs) (e : Ext w W) : SlC W p xs := h.ext e

set_option maxRecDepth 100000 in
set_option maxHeartbeats 16000000 in
theorem wakes_any (w : World) : Calls Try.prog 14 #[] w fun e w' => e = .returned (.bool true) ∧ Ext w w' := by
  go_enter Try.func14, Try.ntmps14
  go_upto_region 2 with (first | (go_at_call 50; go_must (with_reducible refine (tuple7_any _).mono ?_); rintro e WT ⟨rfl, gT⟩) | (go_at_call 15; go_must (with_reducible refine (wa1 _).mono ?_); rintro e WC ⟨p1, c1, rfl, s1, gC⟩))
  have E := (gT.tr gC)
  clear gC gT
  go_upto_region 3 with (first | (go_at_call 50; go_must (with_reducible refine (tuple7_any _).mono ?_); rintro e WT ⟨rfl, gT⟩) | (go_at_call 17; go_must (with_reducible refine (wt2 _ _ (s1.ext gT)).mono ?_); rintro e WC ⟨p2, c2, rfl, s2, gC⟩))
  have E := E.tr (gT.tr gC)
  clear gC gT
  clear s1
  go_upto_region 4 with (first | (go_at_call 50; go_must (with_reducible refine (tuple3_any _).mono ?_); rintro e WT ⟨rfl, gT⟩) | (go_at_call 15; go_must (with_reducible refine (wa3 _ _ (s2.ext gT)).mono ?_); rintro e WC ⟨p3, c3, rfl, s3, gC⟩))
  have E := E.tr (gT.tr gC)
  have s2 := s2.ext (gT.tr gC)
  clear gC gT
  go_upto_region 5 with (first | (go_at_call 50; go_must (with_reducible refine (tuple7_any _).mono ?_); rintro e WT ⟨rfl, gT⟩) | (go_at_call 15; go_must (with_reducible refine (wa4 _ _ (s2.ext gT)).mono ?_); rintro e WC ⟨p4, c4, rfl, s4, gC⟩))
  have E := E.tr (gT.tr gC)
  have s2 := s2.ext (gT.tr gC)
  have s3 := s3.ext (gT.tr gC)
  clear gC gT
  clear s4
  go_upto_region 6 with (first | (go_at_call 50; go_must (with_reducible refine (tuple8_any _).mono ?_); rintro e WT ⟨rfl, gT⟩) | (go_at_call 15; go_must (with_reducible refine (wa5 _ _ (s2.ext gT)).mono ?_); rintro e WC ⟨p5, c5, rfl, s5, gC⟩))
  have E := E.tr (gT.tr gC)
  have s2 := s2.ext (gT.tr gC)
  have s3 := s3.ext (gT.tr gC)
  clear gC gT
  clear s5
  go_upto_region 7 with (first | (go_at_call 21; go_must (with_reducible refine (wi6 _ _ s2).mono ?_); rintro e WC ⟨p6, c6, q6, d6, rfl, s6, r6, gC⟩))
  have E := E.tr (gC)
  have s2 := s2.ext (gC)
  have s3 := s3.ext (gC)
  clear gC
  clear s6 r6
  go_upto_region 8 with (first | (go_at_call 21; go_must (with_reducible refine (wi7 _ _ s2).mono ?_); rintro e WC ⟨p7, c7, q7, d7, rfl, s7, r77, gC⟩))
  have E := E.tr (gC)
  have s2 := s2.ext (gC)
  have s3 := s3.ext (gC)
  clear gC
  clear s7 r77
  go_upto_region 9 with (first | (go_at_call 50; go_must (with_reducible refine (tuple7_any _).mono ?_); rintro e WT ⟨rfl, gT⟩) | (go_at_call 19; go_must (with_reducible refine (wc8 _ _ (s3.ext gT)).mono ?_); rintro e WC ⟨p8, c8, rfl, s8, gC⟩))
  have E := E.tr (gT.tr gC)
  have s2 := s2.ext (gT.tr gC)
  have s3 := s3.ext (gT.tr gC)
  clear gC gT
  go_upto_region 10 with (first | (go_at_call 50; go_must (with_reducible refine (tuple7_any _).mono ?_); rintro e WT ⟨rfl, gT⟩) | (go_at_call 19; go_must (with_reducible refine (wc9 _ _ (s8.ext gT)).mono ?_); rintro e WC ⟨p9, c9, rfl, s9, gC⟩))
  have E := E.tr (gT.tr gC)
  have s2 := s2.ext (gT.tr gC)
  have s3 := s3.ext (gT.tr gC)
  clear gC gT
  clear s8 s9
  go_upto_region 11 with (first | (go_at_call 50; go_must (with_reducible refine (tuple7_any _).mono ?_); rintro e WT ⟨rfl, gT⟩) | (go_at_call 24; go_must (with_reducible refine (wf10 _ _ (s3.ext gT)).mono ?_); rintro e WC ⟨rfl, gC⟩))
  have E := E.tr (gT.tr gC)
  have s2 := s2.ext (gT.tr gC)
  have s3 := s3.ext (gT.tr gC)
  clear gC gT
  go_upto_region 12 with (first | (go_at_call 50; go_must (with_reducible refine (tuple7_any _).mono ?_); rintro e WT ⟨rfl, gT⟩) | (go_at_call 51; go_must (with_reducible refine (wr11 _).mono ?_); rintro e WC ⟨rfl, gC⟩))
  have E := E.tr (gT.tr gC)
  have s2 := s2.ext (gT.tr gC)
  have s3 := s3.ext (gT.tr gC)
  clear gC gT
  go_upto_region 14 with (fail)
  refine wp_region_X (by kernel_rfl) ?_
  obtain ⟨W, hW⟩ : ∃ W, World.drew WC = W := ⟨_, rfl⟩
  rw [hW]
  have gD := Ext.dr (Ext.rf WC)
  rw [hW] at gD
  have E := E.tr gD
  have s2 := s2.ext gD
  have s3 := s3.ext gD
  clear hW gD
  obtain ⟨b2, o2, rfl, lb2, x0, x1, x2, x3, x4, x5⟩ := id s2 0 (by simp [L2])
  obtain ⟨b3, o3, rfl, lb3, y0, y1, y2, y3, y4, y5⟩ := id s3 0 (by simp [M2])
  refine withL (n := 112) (R := SchWk) (E := ((Try.f14.body.bind (findR 14)).getD #[])) (by kernel_rfl) schWk (by kernel_rfl) fun hS => ?_
  refine takeL (n := 112) (k := 0) (v := .int .i64 0) hS.1 (hS.2.1 0 (by decide) (by decide)) rfl (by kernel_rfl) (fun _ _ => by kernel_rfl) ?_
  refine takeL (n := 112) (k := 1) (v := .bool true) hS.1 (hS.2.1 1 (by decide) (by decide)) rfl (by kernel_rfl) (fun _ _ => by kernel_rfl) ?_
  refine takeL (n := 112) (k := 2) (v := .bool true) hS.1 (hS.2.1 2 (by decide) (by decide)) rfl (by kernel_rfl) (fun _ _ => by kernel_rfl) ?_
  refine takeL (n := 112) (k := 3) (v := .bool true) hS.1 (hS.2.1 3 (by decide) (by decide)) rfl (by kernel_rfl) (fun _ _ => by kernel_rfl) ?_
  refine takeL (n := 112) (k := 4) (v := .bool true) hS.1 (hS.2.1 4 (by decide) (by decide)) rfl (by kernel_rfl) (fun _ _ => by kernel_rfl) ?_
  refine takeL (n := 112) (k := 5) (v := .bool true) hS.1 (hS.2.1 5 (by decide) (by decide)) rfl (by kernel_rfl) (fun _ _ => by kernel_rfl) ?_
  refine takeL (n := 112) (k := 6) (v := .slice (some ⟨b2, o2, none⟩) 1 c2) hS.1 (hS.2.1 6 (by decide) (by decide)) rfl (by kernel_rfl) (fun _ _ => by kernel_rfl) ?_
  refine takeL (n := 112) (k := 7) (v := .pointer (some ⟨b2, o2 + 0 * 6, none⟩)) hS.1 (hS.2.1 7 (by decide) (by decide)) rfl (by kernel_rfl) (index_C_X (i := 0) (m := 1) (c := c2) (by omega) _ _ _ _ _ _ _ _ (by kernel_rfl) (by kernel_rfl)) ?_
  refine takeL (n := 112) (k := 8) (v := .pointer (some ⟨b2, o2 + 0 * 6 + 4, none⟩)) hS.1 (hS.2.1 8 (by decide) (by decide)) rfl (by kernel_rfl) (fun _ _ => by kernel_rfl) ?_
  refine takeL (n := 112) (k := 9) (v := .int .i64 5) hS.1 (hS.2.1 9 (by decide) (by decide)) rfl (by kernel_rfl) (ldI_X x4 lb2 _ _ _ _ _ _ _ (by kernel_rfl)) ?_
  refine takeL (n := 112) (k := 10) (v := .bool true) hS.1 (hS.2.1 10 (by decide) (by decide)) rfl (by kernel_rfl) (fun _ _ => by kernel_rfl) ?_
  refine takeL (n := 112) (k := 11) (v := .bool true) hS.1 (hS.2.1 11 (by decide) (by decide)) rfl (by kernel_rfl) (fun _ _ => by kernel_rfl) ?_
  refine takeL (n := 112) (k := 12) (v := .bool true) hS.1 (hS.2.1 12 (by decide) (by decide)) rfl (by kernel_rfl) (fun _ _ => by kernel_rfl) ?_
  refine takeL (n := 112) (k := 13) (v := .slice (some ⟨b2, o2, none⟩) 1 c2) hS.1 (hS.2.1 13 (by decide) (by decide)) rfl (by kernel_rfl) (fun _ _ => by kernel_rfl) ?_
  refine takeL (n := 112) (k := 14) (v := .pointer (some ⟨b2, o2 + 0 * 6, none⟩)) hS.1 (hS.2.1 14 (by decide) (by decide)) rfl (by kernel_rfl) (index_C_X (i := 0) (m := 1) (c := c2) (by omega) _ _ _ _ _ _ _ _ (by kernel_rfl) (by kernel_rfl)) ?_
  refine takeL (n := 112) (k := 15) (v := .pointer (some ⟨b2, o2 + 0 * 6 + 5, none⟩)) hS.1 (hS.2.1 15 (by decide) (by decide)) rfl (by kernel_rfl) (fun _ _ => by kernel_rfl) ?_
  refine takeL (n := 112) (k := 16) (v := .int .i64 9) hS.1 (hS.2.1 16 (by decide) (by decide)) rfl (by kernel_rfl) (ldI_X x5 lb2 _ _ _ _ _ _ _ (by kernel_rfl)) ?_
  refine takeL (n := 112) (k := 17) (v := .bool true) hS.1 (hS.2.1 17 (by decide) (by decide)) rfl (by kernel_rfl) (fun _ _ => by kernel_rfl) ?_
  refine takeL (n := 112) (k := 18) (v := .bool true) hS.1 (hS.2.1 18 (by decide) (by decide)) rfl (by kernel_rfl) (fun _ _ => by kernel_rfl) ?_
  refine takeL (n := 112) (k := 19) (v := .bool true) hS.1 (hS.2.1 19 (by decide) (by decide)) rfl (by kernel_rfl) (fun _ _ => by kernel_rfl) ?_
  refine takeL (n := 112) (k := 20) (v := .int .i64 0) hS.1 (hS.2.1 20 (by decide) (by decide)) rfl (by kernel_rfl) (fun _ _ => by kernel_rfl) ?_
  refine takeL (n := 112) (k := 21) (v := .bool true) hS.1 (hS.2.1 21 (by decide) (by decide)) rfl (by kernel_rfl) (fun _ _ => by kernel_rfl) ?_
  refine takeL (n := 112) (k := 22) (v := .bool true) hS.1 (hS.2.1 22 (by decide) (by decide)) rfl (by kernel_rfl) (fun _ _ => by kernel_rfl) ?_
  refine takeL (n := 112) (k := 23) (v := .bool true) hS.1 (hS.2.1 23 (by decide) (by decide)) rfl (by kernel_rfl) (fun _ _ => by kernel_rfl) ?_
  refine takeL (n := 112) (k := 24) (v := .slice (some ⟨b3, o3, none⟩) 2 c3) hS.1 (hS.2.1 24 (by decide) (by decide)) rfl (by kernel_rfl) (fun _ _ => by kernel_rfl) ?_
  refine takeL (n := 112) (k := 25) (v := .pointer (some ⟨b3, o3 + 0 * 6, none⟩)) hS.1 (hS.2.1 25 (by decide) (by decide)) rfl (by kernel_rfl) (index_C_X (i := 0) (m := 2) (c := c3) (by omega) _ _ _ _ _ _ _ _ (by kernel_rfl) (by kernel_rfl)) ?_
  refine takeL (n := 112) (k := 26) (v := .pointer (some ⟨b3, o3 + 0 * 6, none⟩)) hS.1 (hS.2.1 26 (by decide) (by decide)) rfl (by kernel_rfl) (fun _ _ => by kernel_rfl) ?_
  refine takeL (n := 112) (k := 27) (v := (tu 1 2 3 80)) hS.1 (hS.2.1 27 (by decide) (by decide)) rfl (by kernel_rfl) (ldTU_X (t := T3) y0 y1 y2 y3 lb3 _ _ _ _ _ _ _ (by kernel_rfl)) ?_
  refine callL (n := 112) (k := 28) (v := (tu 1 2 3 80)) (hS.2.2.1 28 (by decide)) rfl (by kernel_rfl) (by kernel_rfl) (tuple3_any W) ?_
  intro W1 gW1
  have E := E.tr gW1
  have s2 := s2.ext gW1
  have s3 := s3.ext gW1
  refine takeL (n := 112) (k := 29) (v := .bool true) hS.1 (hS.2.1 29 (by decide) (by decide)) rfl (by kernel_rfl) (fun _ _ => by kernel_rfl) ?_
  refine takeL (n := 112) (k := 30) (v := .bool true) hS.1 (hS.2.1 30 (by decide) (by decide)) rfl (by kernel_rfl) (fun _ _ => by kernel_rfl) ?_
  refine takeL (n := 112) (k := 31) (v := .bool true) hS.1 (hS.2.1 31 (by decide) (by decide)) rfl (by kernel_rfl) (fun _ _ => by kernel_rfl) ?_
  refine takeL (n := 112) (k := 32) (v := .int .i64 201) hS.1 (hS.2.1 32 (by decide) (by decide)) rfl (by kernel_rfl) (fun _ _ => by kernel_rfl) ?_
  refine takeL (n := 112) (k := 33) (v := .bool true) hS.1 (hS.2.1 33 (by decide) (by decide)) rfl (by kernel_rfl) (fun _ _ => by kernel_rfl) ?_
  refine takeL (n := 112) (k := 34) (v := .bool true) hS.1 (hS.2.1 34 (by decide) (by decide)) rfl (by kernel_rfl) (fun _ _ => by kernel_rfl) ?_
  refine takeL (n := 112) (k := 35) (v := .bool true) hS.1 (hS.2.1 35 (by decide) (by decide)) rfl (by kernel_rfl) (fun _ _ => by kernel_rfl) ?_
  refine takeL (n := 112) (k := 36) (v := .int .i64 2) hS.1 (hS.2.1 36 (by decide) (by decide)) rfl (by kernel_rfl) (fun _ _ => by kernel_rfl) ?_
  refine takeL (n := 112) (k := 37) (v := .bool true) hS.1 (hS.2.1 37 (by decide) (by decide)) rfl (by kernel_rfl) (fun _ _ => by kernel_rfl) ?_
  refine takeL (n := 112) (k := 38) (v := .bool true) hS.1 (hS.2.1 38 (by decide) (by decide)) rfl (by kernel_rfl) (fun _ _ => by kernel_rfl) ?_
  refine takeL (n := 112) (k := 39) (v := .bool true) hS.1 (hS.2.1 39 (by decide) (by decide)) rfl (by kernel_rfl) (fun _ _ => by kernel_rfl) ?_
  refine takeL (n := 112) (k := 40) (v := .slice p6 0 c6) hS.1 (hS.2.1 40 (by decide) (by decide)) rfl (by kernel_rfl) (fun _ _ => by kernel_rfl) ?_
  refine takeL (n := 112) (k := 41) (v := .int .i64 0) hS.1 (hS.2.1 41 (by decide) (by decide)) rfl (by kernel_rfl) (fun _ _ => by kernel_rfl) ?_
  refine takeL (n := 112) (k := 42) (v := .bool true) hS.1 (hS.2.1 42 (by decide) (by decide)) rfl (by kernel_rfl) (fun _ _ => by kernel_rfl) ?_
  refine takeL (n := 112) (k := 43) (v := .bool true) hS.1 (hS.2.1 43 (by decide) (by decide)) rfl (by kernel_rfl) (fun _ _ => by kernel_rfl) ?_
  refine takeL (n := 112) (k := 44) (v := .bool true) hS.1 (hS.2.1 44 (by decide) (by decide)) rfl (by kernel_rfl) (fun _ _ => by kernel_rfl) ?_
  refine takeL (n := 112) (k := 45) (v := .slice q6 1 d6) hS.1 (hS.2.1 45 (by decide) (by decide)) rfl (by kernel_rfl) (fun _ _ => by kernel_rfl) ?_
  refine takeL (n := 112) (k := 46) (v := .int .i64 1) hS.1 (hS.2.1 46 (by decide) (by decide)) rfl (by kernel_rfl) (fun _ _ => by kernel_rfl) ?_
  refine takeL (n := 112) (k := 47) (v := .bool true) hS.1 (hS.2.1 47 (by decide) (by decide)) rfl (by kernel_rfl) (fun _ _ => by kernel_rfl) ?_
  refine takeL (n := 112) (k := 48) (v := .bool true) hS.1 (hS.2.1 48 (by decide) (by decide)) rfl (by kernel_rfl) (fun _ _ => by kernel_rfl) ?_
  refine takeL (n := 112) (k := 49) (v := .bool true) hS.1 (hS.2.1 49 (by decide) (by decide)) rfl (by kernel_rfl) (fun _ _ => by kernel_rfl) ?_
  refine takeL (n := 112) (k := 50) (v := .slice p7 1 c7) hS.1 (hS.2.1 50 (by decide) (by decide)) rfl (by kernel_rfl) (fun _ _ => by kernel_rfl) ?_
  refine takeL (n := 112) (k := 51) (v := .int .i64 1) hS.1 (hS.2.1 51 (by decide) (by decide)) rfl (by kernel_rfl) (fun _ _ => by kernel_rfl) ?_
  refine takeL (n := 112) (k := 52) (v := .bool true) hS.1 (hS.2.1 52 (by decide) (by decide)) rfl (by kernel_rfl) (fun _ _ => by kernel_rfl) ?_
  refine takeL (n := 112) (k := 53) (v := .bool true) hS.1 (hS.2.1 53 (by decide) (by decide)) rfl (by kernel_rfl) (fun _ _ => by kernel_rfl) ?_
  refine takeL (n := 112) (k := 54) (v := .bool true) hS.1 (hS.2.1 54 (by decide) (by decide)) rfl (by kernel_rfl) (fun _ _ => by kernel_rfl) ?_
  refine takeL (n := 112) (k := 55) (v := .slice q7 0 d7) hS.1 (hS.2.1 55 (by decide) (by decide)) rfl (by kernel_rfl) (fun _ _ => by kernel_rfl) ?_
  refine takeL (n := 112) (k := 56) (v := .int .i64 0) hS.1 (hS.2.1 56 (by decide) (by decide)) rfl (by kernel_rfl) (fun _ _ => by kernel_rfl) ?_
  refine takeL (n := 112) (k := 57) (v := .bool true) hS.1 (hS.2.1 57 (by decide) (by decide)) rfl (by kernel_rfl) (fun _ _ => by kernel_rfl) ?_
  refine takeL (n := 112) (k := 58) (v := .bool true) hS.1 (hS.2.1 58 (by decide) (by decide)) rfl (by kernel_rfl) (fun _ _ => by kernel_rfl) ?_
  refine takeL (n := 112) (k := 59) (v := .bool true) hS.1 (hS.2.1 59 (by decide) (by decide)) rfl (by kernel_rfl) (fun _ _ => by kernel_rfl) ?_
  refine takeL (n := 112) (k := 60) (v := .bool true) hS.1 (hS.2.1 60 (by decide) (by decide)) rfl (by kernel_rfl) (fun _ _ => by kernel_rfl) ?_
  refine takeL (n := 112) (k := 61) (v := .bool true) hS.1 (hS.2.1 61 (by decide) (by decide)) rfl (by kernel_rfl) (fun _ _ => by kernel_rfl) ?_
  refine takeL (n := 112) (k := 62) (v := .bool true) hS.1 (hS.2.1 62 (by decide) (by decide)) rfl (by kernel_rfl) (fun _ _ => by kernel_rfl) ?_
  refine takeL (n := 112) (k := 63) (v := .bool false) hS.1 (hS.2.1 63 (by decide) (by decide)) rfl (by kernel_rfl) (fun _ _ => by kernel_rfl) ?_
  refine takeL (n := 112) (k := 64) (v := .bool true) hS.1 (hS.2.1 64 (by decide) (by decide)) rfl (by kernel_rfl) (fun _ _ => by kernel_rfl) ?_
  refine takeL (n := 112) (k := 65) (v := .bool true) hS.1 (hS.2.1 65 (by decide) (by decide)) rfl (by kernel_rfl) (fun _ _ => by kernel_rfl) ?_
  refine takeL (n := 112) (k := 66) (v := .bool true) hS.1 (hS.2.1 66 (by decide) (by decide)) rfl (by kernel_rfl) (fun _ _ => by kernel_rfl) ?_
  refine takeL (n := 112) (k := 67) (v := .slice p8 1 c8) hS.1 (hS.2.1 67 (by decide) (by decide)) rfl (by kernel_rfl) (fun _ _ => by kernel_rfl) ?_
  refine takeL (n := 112) (k := 68) (v := .int .i64 1) hS.1 (hS.2.1 68 (by decide) (by decide)) rfl (by kernel_rfl) (fun _ _ => by kernel_rfl) ?_
  refine takeL (n := 112) (k := 69) (v := .bool true) hS.1 (hS.2.1 69 (by decide) (by decide)) rfl (by kernel_rfl) (fun _ _ => by kernel_rfl) ?_
  refine takeL (n := 112) (k := 70) (v := .bool true) hS.1 (hS.2.1 70 (by decide) (by decide)) rfl (by kernel_rfl) (fun _ _ => by kernel_rfl) ?_
  refine takeL (n := 112) (k := 71) (v := .bool true) hS.1 (hS.2.1 71 (by decide) (by decide)) rfl (by kernel_rfl) (fun _ _ => by kernel_rfl) ?_
  refine takeL (n := 112) (k := 72) (v := .int .i64 1) hS.1 (hS.2.1 72 (by decide) (by decide)) rfl (by kernel_rfl) (fun _ _ => by kernel_rfl) ?_
  refine takeL (n := 112) (k := 73) (v := .bool true) hS.1 (hS.2.1 73 (by decide) (by decide)) rfl (by kernel_rfl) (fun _ _ => by kernel_rfl) ?_
  refine takeL (n := 112) (k := 74) (v := .bool true) hS.1 (hS.2.1 74 (by decide) (by decide)) rfl (by kernel_rfl) (fun _ _ => by kernel_rfl) ?_
  refine takeL (n := 112) (k := 75) (v := .bool true) hS.1 (hS.2.1 75 (by decide) (by decide)) rfl (by kernel_rfl) (fun _ _ => by kernel_rfl) ?_
  refine takeL (n := 112) (k := 76) (v := .bool true) hS.1 (hS.2.1 76 (by decide) (by decide)) rfl (by kernel_rfl) (fun _ _ => by kernel_rfl) ?_
  refine takeL (n := 112) (k := 77) (v := .bool true) hS.1 (hS.2.1 77 (by decide) (by decide)) rfl (by kernel_rfl) (fun _ _ => by kernel_rfl) ?_
  refine takeL (n := 112) (k := 78) (v := .bool true) hS.1 (hS.2.1 78 (by decide) (by decide)) rfl (by kernel_rfl) (fun _ _ => by kernel_rfl) ?_
  refine takeL (n := 112) (k := 79) (v := .slice (some ⟨b2, o2, none⟩) 1 c2) hS.1 (hS.2.1 79 (by decide) (by decide)) rfl (by kernel_rfl) (fun _ _ => by kernel_rfl) ?_
  refine takeL (n := 112) (k := 80) (v := .int .i64 (ofT T7)) hS.1 (hS.2.1 80 (by decide) (by decide)) rfl (by kernel_rfl) (fun _ _ => by kernel_rfl) ?_
  refine callLE (n := 112) (k := 81) (R := fun v _ => ∃ p c, v = .slice p 1 c) (hS.2.2.1 81 (by decide)) rfl (by kernel_rfl) (by kernel_rfl) ((wo12 c2 W1 s2).mono fun e w' ⟨p, c, h1, _, h3⟩ => ⟨_, h1, ⟨p, c, rfl⟩, h3⟩) ?_
  rintro _ W2 gW2 ⟨pa, ca, rfl⟩
  have E := E.tr gW2
  have s2 := s2.ext gW2
  have s3 := s3.ext gW2
  refine takeL (n := 112) (k := 82) (v := .int .i64 1) hS.1 (hS.2.1 82 (by decide) (by decide)) rfl (by kernel_rfl) (fun _ _ => by kernel_rfl) ?_
  refine takeL (n := 112) (k := 83) (v := .bool true) hS.1 (hS.2.1 83 (by decide) (by decide)) rfl (by kernel_rfl) (fun _ _ => by kernel_rfl) ?_
  refine takeL (n := 112) (k := 84) (v := .bool true) hS.1 (hS.2.1 84 (by decide) (by decide)) rfl (by kernel_rfl) (fun _ _ => by kernel_rfl) ?_
  refine takeL (n := 112) (k := 85) (v := .bool true) hS.1 (hS.2.1 85 (by decide) (by decide)) rfl (by kernel_rfl) (fun _ _ => by kernel_rfl) ?_
  refine takeL (n := 112) (k := 86) (v := .slice (some ⟨b2, o2, none⟩) 1 c2) hS.1 (hS.2.1 86 (by decide) (by decide)) rfl (by kernel_rfl) (fun _ _ => by kernel_rfl) ?_
  refine takeL (n := 112) (k := 87) (v := .int .i64 (ofT T7)) hS.1 (hS.2.1 87 (by decide) (by decide)) rfl (by kernel_rfl) (fun _ _ => by kernel_rfl) ?_
  refine callLE (n := 112) (k := 88) (R := fun v _ => ∃ p c, v = .slice p 0 c) (hS.2.2.1 88 (by decide)) rfl (by kernel_rfl) (by kernel_rfl) ((ww13 c2 W2 s2).mono fun e w' ⟨p, c, h1, _, h3⟩ => ⟨_, h1, ⟨p, c, rfl⟩, h3⟩) ?_
  rintro _ W3 gW3 ⟨pb, cb, rfl⟩
  have E := E.tr gW3
  have s2 := s2.ext gW3
  have s3 := s3.ext gW3
  refine takeL (n := 112) (k := 89) (v := .int .i64 0) hS.1 (hS.2.1 89 (by decide) (by decide)) rfl (by kernel_rfl) (fun _ _ => by kernel_rfl) ?_
  refine takeL (n := 112) (k := 90) (v := .bool true) hS.1 (hS.2.1 90 (by decide) (by decide)) rfl (by kernel_rfl) (fun _ _ => by kernel_rfl) ?_
  refine takeL (n := 112) (k := 91) (v := .bool true) hS.1 (hS.2.1 91 (by decide) (by decide)) rfl (by kernel_rfl) (fun _ _ => by kernel_rfl) ?_
  refine takeL (n := 112) (k := 92) (v := .bool true) hS.1 (hS.2.1 92 (by decide) (by decide)) rfl (by kernel_rfl) (fun _ _ => by kernel_rfl) ?_
  refine takeL (n := 112) (k := 93) (v := .slice (some ⟨b3, o3, none⟩) 2 c3) hS.1 (hS.2.1 93 (by decide) (by decide)) rfl (by kernel_rfl) (fun _ _ => by kernel_rfl) ?_
  refine callL (n := 112) (k := 94) (v := .bool true) (hS.2.2.1 94 (by decide)) rfl (by kernel_rfl) (by kernel_rfl) (wr14 c3 W3 s3) ?_
  intro W4 gW4
  have E := E.tr gW4
  have s2 := s2.ext gW4
  have s3 := s3.ext gW4
  refine takeL (n := 112) (k := 95) (v := .bool true) hS.1 (hS.2.1 95 (by decide) (by decide)) rfl (by kernel_rfl) (fun _ _ => by kernel_rfl) ?_
  refine takeL (n := 112) (k := 96) (v := .bool true) hS.1 (hS.2.1 96 (by decide) (by decide)) rfl (by kernel_rfl) (fun _ _ => by kernel_rfl) ?_
  refine takeL (n := 112) (k := 97) (v := .slice (some ⟨b3, o3, none⟩) 2 c3) hS.1 (hS.2.1 97 (by decide) (by decide)) rfl (by kernel_rfl) (fun _ _ => by kernel_rfl) ?_
  refine callL (n := 112) (k := 98) (v := .bool true) (hS.2.2.1 98 (by decide)) rfl (by kernel_rfl) (by kernel_rfl) (wm16 (some ⟨b3, o3, none⟩) c3 W4) ?_
  intro W5 gW5
  have E := E.tr gW5
  have s2 := s2.ext gW5
  have s3 := s3.ext gW5
  refine takeL (n := 112) (k := 99) (v := .bool true) hS.1 (hS.2.1 99 (by decide) (by decide)) rfl (by kernel_rfl) (fun _ _ => by kernel_rfl) ?_
  refine takeL (n := 112) (k := 100) (v := .bool true) hS.1 (hS.2.1 100 (by decide) (by decide)) rfl (by kernel_rfl) (fun _ _ => by kernel_rfl) ?_
  refine takeL (n := 112) (k := 101) (v := .agg #[.int .u32 0, .int .u32 0, .int .u16 0, .int .u16 0, .int .i64 2, .int .i64 1]) hS.1 (hS.2.1 101 (by decide) (by decide)) rfl (by kernel_rfl) (fun _ _ => by kernel_rfl) ?_
  refine makeL (n := 112) (k := 102) (hS.2.2.1 102 (by decide)) rfl (by kernel_rfl) (bld_run _ _ _ _ _ _ _ (by kernel_rfl) W5) (Ext.al (Ext.rf _) _) ?_
  obtain ⟨WB, hWB⟩ : ∃ WB, W5.alloc (.cells #[.int .u32 0, .int .u32 0, .int .u16 0, .int .u16 0, .int .i64 2, .int .i64 1] 43) = WB := ⟨_, rfl⟩
  have hbx := World.alloc_heap_new W5 (.cells #[.int .u32 0, .int .u32 0, .int .u16 0, .int .u16 0, .int .i64 2, .int .i64 1] 43)
  have gB : Ext W5 WB := by rw [← hWB]; exact Ext.al (Ext.rf _) _
  rw [hWB] at hbx ⊢
  have E := E.tr gB
  have s2 := s2.ext gB
  have s3 := s3.ext gB
  refine callL (n := 112) (k := 103) (v := .bool false) (hS.2.2.1 103 (by decide)) rfl (by kernel_rfl) (by kernel_rfl) (wr15 1 WB (SlC.one hbx)) ?_
  intro W6 gW6
  have E := E.tr gW6
  have s2 := s2.ext gW6
  have s3 := s3.ext gW6
  refine takeL (n := 112) (k := 104) (v := .bool true) hS.1 (hS.2.1 104 (by decide) (by decide)) rfl (by kernel_rfl) (fun _ _ => by kernel_rfl) ?_
  refine takeL (n := 112) (k := 105) (v := .bool true) hS.1 (hS.2.1 105 (by decide) (by decide)) rfl (by kernel_rfl) (fun _ _ => by kernel_rfl) ?_
  refine takeL (n := 112) (k := 106) (v := .bool true) hS.1 (hS.2.1 106 (by decide) (by decide)) rfl (by kernel_rfl) (fun _ _ => by kernel_rfl) ?_
  refine makeL (n := 112) (k := 107) (hS.2.2.1 107 (by decide)) rfl (by kernel_rfl) (mks_run _ _ _ _ _ _ W6 (by kernel_rfl)) (Ext.al (Ext.rf _) _) ?_
  obtain ⟨WC, hWC⟩ : ∃ WC, W6.alloc (.cells z32 43) = WC := ⟨_, rfl⟩
  have gC : Ext W6 WC := by rw [← hWC]; exact Ext.al (Ext.rf _) _
  rw [hWC]
  have E := E.tr gC
  have s2 := s2.ext gC
  have s3 := s3.ext gC
  refine callL (n := 112) (k := 108) (v := .bool false) (hS.2.2.1 108 (by decide)) rfl (by kernel_rfl) (by kernel_rfl) (wm17 (some ⟨W6.heap.size, 0, none⟩) 32 WC) ?_
  intro W7 gW7
  have E := E.tr gW7
  have s2 := s2.ext gW7
  have s3 := s3.ext gW7
  refine takeL (n := 112) (k := 109) (v := .bool true) hS.1 (hS.2.1 109 (by decide) (by decide)) rfl (by kernel_rfl) (fun _ _ => by kernel_rfl) ?_
  refine takeL (n := 112) (k := 110) (v := .bool true) hS.1 (hS.2.1 110 (by decide) (by decide)) rfl (by kernel_rfl) (fun _ _ => by kernel_rfl) ?_
  refine takeL (n := 112) (k := 111) (v := .bool true) hS.1 (hS.2.1 111 (by decide) (by decide)) rfl (by kernel_rfl) (fun _ _ => by kernel_rfl) ?_
  refine doneX hS.2.2.2 ?_
  clear hS
  go_simp
  go_wp2
  exact bodyPost_ret (v := .bool true) (by simp [results, Try.results14, go_sem]) rfl ⟨rfl, E⟩

end Go.Proofs.Ytookffaojlkfaaa

/- The step from a walk of a law to its row, once for all laws: a law returns true and only new blocks are new, so every argument reads as it did. -/
namespace Go.Proofs.Ytookffaojlkfaaa
open Go.ChangeShapes Go.WideShapes Go.ChangeAt Go.RowKit

section
variable {H : Type} {enc : TypeId × Value → H} {P : Program}
theorem post_of_below {f : Func} {s : ChangeSpec} {apart fresh handsOn again : Bool} {W W' : World} {args : Array Value} {v : Value} {ds gs : List (DataW H)} {before pa pv : List MemPlace}
    (hW : DataW.Whole enc P f.params.toList s.vars apart W args.toList ds gs before)
    (hres : ∀ (b : Nat) (sp : Nat → Bool) (hd : Bool), DataW.TrodAll enc P W' b sp hd f.resultTypes.toList (v.resultList f.resultTypes.size) (s.fn H (ds ++ gs)).results [])
    (hargs : ∀ sp : Nat → Bool, (∀ p ∈ before, sp p.block = true) → DataW.TrodAll enc P W' 0 sp true f.params.toList args.toList (s.fn H (ds ++ gs)).args pa)
    (hvars : ∀ sp : Nat → Bool, (∀ p ∈ before, sp p.block = true) → DataW.TrodVars enc P W' sp s.vars (s.fn H (ds ++ gs)).vars pv)
    (hps : before = pa ++ pv) (hb : Below W.heap.size W W')
    (hok : ∀ (j : Nat) (t : TypeId) (r : Value), f.resultTypes[j]? = some t → (v.resultList f.resultTypes.size)[j]? = some r → Value.okWide P W' .any 0 t r) :
    s.post enc P f apart fresh handsOn again W args v W' := by
  have hlt : ∀ p ∈ before, p.block < W.heap.size := fun p hp => hW.lt p hp
  have hold : ∀ p ∈ before, (fun b => decide (b < W.heap.size)) p.block = true := fun p hp => by simpa using hlt p hp
  refine ⟨ds, gs, before, [], pa, pv, hW, hres _ _ _, hargs _ hold, hvars _ hold, World.keptBut_mono (fun p hp => ⟨hp, ?_⟩) (hb.frame (· ∈ before)), fun _ => ?_⟩
  · rw [hps, List.mem_append] at hp
    exact Or.inr hp
  · obtain ⟨_, _, _, _, _, hz, hn⟩ := hW
    refine ⟨hok, _, _, ([] ++ pa) ++ pv, ⟨[] ++ pa, pv, trodAll_append (hargs _ (fun _ _ => rfl)) (hres _ _ _), hvars _ (fun _ _ => rfl), rfl, ?_, ?_⟩, ?_⟩
    · intro b off hp
      have hin : MemPlace.cell b off ∈ before := by rw [hps]; simpa using hp
      rw [hb.frozen (hlt _ hin)]
      exact hz b off hin
    · intro ha
      have := hn ha
      rw [hps] at this
      simpa using this
    · intro p hp _
      rw [hps]
      simpa using hp

theorem trodAll_stays (hl : laidOutB P = true) {W W' : World} {sp' : Nat → Bool} : ∀ (ts : List TypeId) (vs : List Value) (ds : List (DataW H)) (ps : List MemPlace),
    ts.all (fun t => P.readableRec t && decide (t < P.types.size)) = true → DataW.TrodAll enc P W 0 (fun _ => true) true ts vs ds ps →
    (∀ p ∈ ps, W.sameAt W' p) → (∀ p ∈ ps, sp' p.block = true) → DataW.TrodAll enc P W' 0 sp' true ts vs ds ps
  | [], vs, ds, ps, _, h, _, _ => by
    obtain ⟨rfl, rfl, rfl⟩ := trodAll_nil h
    exact trodAll_mk0
  | t :: ts, vs, ds, ps, ht, h, hs, hp => by
    obtain ⟨v, vs', d, ds', p, q, rfl, rfl, rfl, h1, h2⟩ := trodAll_cons h
    simp only [List.all_cons, Bool.and_eq_true, decide_eq_true_eq] at ht
    refine trodAll_cons_mk (WideElems.Trod_stays hl ht.1.1 ht.1.2 h1 (fun x hx => hs x (by simp [hx])) (fun x hx => hp x (by simp [hx]))) ?_
    exact trodAll_stays hl ts vs' ds' q ht.2 h2 (fun x hx => hs x (by simp [hx])) (fun x hx => hp x (by simp [hx]))

theorem trodAll_length {W : World} {b : Nat} {sp : Nat → Bool} {hd : Bool} : ∀ (ts : List TypeId) (vs : List Value) (ds : List (DataW H)) (ps : List MemPlace),
    DataW.TrodAll enc P W b sp hd ts vs ds ps → ds.length = ts.length
  | [], vs, ds, ps, h => by obtain ⟨rfl, rfl, rfl⟩ := trodAll_nil h; rfl
  | t :: ts, vs, ds, ps, h => by
    obtain ⟨v, vs', d, ds', p, q, rfl, rfl, rfl, h1, h2⟩ := trodAll_cons h
    simp only [List.length_cons, trodAll_length ts vs' ds' q h2]
end

/-- A law's row out of its walk: it returns true, and only new blocks are new. -/
theorem law_lift {C : Checked} {f : FuncId} {fn : Func} {s : ChangeSpec} {os : Os} {H : Type} {enc : TypeId × Value → H} (tb : TypeId)
    (own : ownKnob C.prog.godebug = none) (started : os.Started) (noInit : C.prog.inits.idxOf? f = none) (hfn : C.prog.funcs[f]? = some fn)
    (witness : ∃ (w : World) (tape : Tape) (i : Input), w.os = os ∧ (w.forCall tape i).Shaped C.prog ∧ i.vars = [] ∧ Input.okWide C.prog (w.forCall tape i) .any w.heap.size f i ∧
      s.pre6 enc C.prog fn [] false (w.forCall tape i).memory i.args ∧ ({} : Assume).holds C.prog (lone (Frame.enter C.prog f i.args .normal) [] (w.forCall tape i)))
    (hl : laidOutB C.prog = true) (hvars : s.vars = []) (hrt : fn.resultTypes = #[tb]) (htb : C.prog.underlying tb = some .bool)
    (hs : ∀ ds : List (DataW H), ds.length = fn.params.toList.length → s.fn H ds = { results := [.lit (.bool true)], args := ds })
    (hread : fn.params.toList.all (fun t => C.prog.readableRec t && decide (t < C.prog.types.size)) = true)
    (walk : ∀ (W : World) (base : Nat) (args : Array Value) (ds : List (DataW H)) (p : List MemPlace),
      (∀ (j : Nat) t v, fn.params[j]? = some t → args[j]? = some v → Value.okWide C.prog W .any base t v) →
      DataW.TrodAll enc C.prog W 0 (fun _ => true) true fn.params.toList args.toList ds p → (∀ x ∈ p, x.block < W.heap.size) →
      Calls C.prog f args W fun e W' => e = .returned (.bool true) ∧ Below W.heap.size W W') :
    ReturnsInHanded {} C os f .any (s.pre6 enc C.prog fn [] false) (s.post enc C.prog fn false true false false) := by
  refine returnsInHanded_of_change (C := C) own started noInit hfn witness ?_
  intro W base args ds gs before hval hW _ _
  have hW' := hW
  obtain ⟨p, q, hA, hV, rfl, hfz, hnd⟩ := hW
  rw [hvars] at hV
  obtain ⟨rfl, rfl⟩ := trodVars_none hV
  have hlt : ∀ x ∈ p ++ [], x.block < W.heap.size := fun x hx => hW'.lt x hx
  refine (walk W base args ds p hval hA (fun x hx => hlt x (by simpa using hx))).mono fun e W' h => ?_
  obtain ⟨he, hb⟩ := h
  subst he
  have hlen := trodAll_length _ _ _ _ hA
  have hsp := hs (ds ++ []) (by simpa using hlen)
  refine ⟨_, rfl, post_of_below (pa := p) (pv := []) hW' ?_ ?_ ?_ rfl hb ?_⟩
  · intro b sp hd
    rw [hsp, hrt]
    exact trodAll_mk1 (shut_bool htb _)
  · intro sp hsp'
    rw [hsp]
    simp only [List.append_nil]
    exact trodAll_stays hl _ _ _ _ hread hA (fun x hx => hb.same (hlt x (by simpa using hx))) (fun x hx => hsp' x (by simpa using hx))
  · intro sp _
    rw [hsp, hvars]
    rfl
  · exact ok_one hrt rfl (okWide_bool_mk htb _)
end Go.Proofs.Ytookffaojlkfaaa

/- How arguments of law 15 are read: connections, tuples. -/
namespace Go.Proofs.Ytookffaojlkfaaa
open Go.ChangeShapes Go.WideShapes Go.ChangeAt Go.RowKit Go.Joins Go.Deep

theorem ownKn : ownKnob Try.prog.godebug = none := by kernel_rfl
theorem laidOut : laidOutB Try.prog = true := by kernel_rfl
theorem cells_int : Try.prog.cellsOf 3 = 1 := by kernel_rfl
theorem cells_u32 : Try.prog.cellsOf 23 = 1 := by kernel_rfl
theorem cells_u16 : Try.prog.cellsOf 24 = 1 := by kernel_rfl
theorem cells_tu : Try.prog.cellsOf 26 = 4 := by kernel_rfl
theorem u32_of {n : Int} (h : (Lit.int .u32 n).wf = true) : 0 ≤ n ∧ n < 4294967296 := by
  have h1 : IntKind.u32.min = 0 := rfl
  have h2 : IntKind.u32.max = 4294967295 := rfl
  simp only [Lit.wf, Bool.and_eq_true, decide_eq_true_eq] at h
  omega
theorem u16_of {n : Int} (h : (Lit.int .u16 n).wf = true) : 0 ≤ n ∧ n < 65536 := by
  have h1 : IntKind.u16.min = 0 := rfl
  have h2 : IntKind.u16.max = 65535 := rfl
  simp only [Lit.wf, Bool.and_eq_true, decide_eq_true_eq] at h
  omega
theorem i64_of {n : Int} (h : (Lit.int .i64 n).wf = true) : -9223372036854775808 ≤ n ∧ n ≤ 9223372036854775807 := by
  have h1 : IntKind.i64.min = -9223372036854775808 := rfl
  have h2 : IntKind.i64.max = 9223372036854775807 := rfl
  simp only [Lit.wf, Bool.and_eq_true, decide_eq_true_eq] at h
  omega
theorem one_of {L : List Value} {j : Nat} {v : Value} (h : (L.drop j).take 1 = [v]) : L[j]? = some v := by
  have := congrArg (fun l => l[0]?) h
  simpa using this
def Tu.at (t : Tu) (j : Nat) : Value := match j with | 0 => .int .u32 t.a | 1 => .int .u32 t.b | 2 => .int .u16 t.c | _ => .int .u16 t.d
set_option maxRecDepth 100000 in
theorem open_onetu {H : Type} {enc : TypeId × Value → H} {w : World} {base : Nat} {spare : Nat → Bool} {held : Bool} {fuel : Nat} {L : List Value} {y : DataW H × List MemPlace}
    (h : DataW.trod enc Try.prog w base spare held fuel 26 L = some y) : ∃ t : Tu, TuR t ∧ ∀ j, j < 4 → L[j]? = some (t.at j) := by
  obtain ⟨ys, n, _, _, _, hlen, hf⟩ := DataW.trod_struct Try.underlying26 h
  have hl : ys.length = 4 := hlen
  have g : ∀ j, j < 4 → ∃ z, ys[j]? = some z := fun j hj => ⟨ys[j]'(by omega), List.getElem?_eq_getElem (by omega)⟩
  have h0 : DataW.trod enc Try.prog w base spare held n 23 ((L.drop 0).take (Try.prog.cellsOf 23)) = ys[0]? := hf 0 _ rfl
  have h1 : DataW.trod enc Try.prog w base spare held n 23 ((L.drop 1).take (Try.prog.cellsOf 23)) = ys[1]? := hf 1 _ rfl
  have h2 : DataW.trod enc Try.prog w base spare held n 24 ((L.drop 2).take (Try.prog.cellsOf 24)) = ys[2]? := hf 2 _ rfl
  have h3 : DataW.trod enc Try.prog w base spare held n 24 ((L.drop 3).take (Try.prog.cellsOf 24)) = ys[3]? := hf 3 _ rfl
  obtain ⟨z0, e0⟩ := g 0 (by omega)
  obtain ⟨z1, e1⟩ := g 1 (by omega)
  obtain ⟨z2, e2⟩ := g 2 (by omega)
  obtain ⟨z3, e3⟩ := g 3 (by omega)
  rw [e0, cells_u32] at h0
  rw [e1, cells_u32] at h1
  rw [e2, cells_u16] at h2
  rw [e3, cells_u16] at h3
  obtain ⟨a, p0, _, w0⟩ := DataW.trod_int Try.underlying23 h0
  obtain ⟨b, p1, _, w1⟩ := DataW.trod_int Try.underlying23 h1
  obtain ⟨c, p2, _, w2⟩ := DataW.trod_int Try.underlying24 h2
  obtain ⟨d, p3, _, w3⟩ := DataW.trod_int Try.underlying24 h3
  refine ⟨⟨a, b, c, d⟩, ⟨u32_of w0, u32_of w1, u16_of w2, u16_of w3⟩, fun j hj => ?_⟩
  obtain rfl | rfl | rfl | rfl : j = 0 ∨ j = 1 ∨ j = 2 ∨ j = 3 := by omega
  · exact one_of p0
  · exact one_of p1
  · exact one_of p2
  · exact one_of p3
set_option maxRecDepth 100000 in
theorem open_tu {H : Type} {enc : TypeId × Value → H} {w : World} {base b0 : Nat} {spare : Nat → Bool} {held : Bool} {v : Value} {d : DataW H} {p : List MemPlace} (hv : Value.okWide Try.prog w .any b0 26 v) (h : DataW.Trod enc Try.prog w base spare held 26 v d p) : ∃ t : Tu, v = tu t.a t.b t.c t.d ∧ TuR t := by
  simp only [Value.okWide, Try.underlying26] at hv
  obtain ⟨cs, rfl, hn, _⟩ := hv
  rw [cells_tu] at hn
  obtain ⟨fuel, hf⟩ := h
  obtain ⟨t, hr, ht⟩ := open_onetu hf
  refine ⟨t, congrArg Value.agg (Array.ext_getElem? fun j => ?_), hr⟩
  by_cases hj : j < 4
  · have h1 := ht j hj
    have h2 : cs[j]? = some (t.at j) := by simpa [Value.cells] using h1
    rw [h2]
    obtain rfl | rfl | rfl | rfl : j = 0 ∨ j = 1 ∨ j = 2 ∨ j = 3 := by omega
    all_goals rfl
  · rw [Array.getElem?_eq_none (by omega), Array.getElem?_eq_none (by simp; omega)]

def Co.at (x : Co) (j : Nat) : Value := match j with | 0 => .int .u32 x.t.a | 1 => .int .u32 x.t.b | 2 => .int .u16 x.t.c | 3 => .int .u16 x.t.d | 4 => .int .i64 x.s | _ => .int .i64 x.l
theorem cells_C : Try.prog.cellsOf 43 = 6 := by kernel_rfl
set_option maxRecDepth 100000 in
theorem open_oneC {H : Type} {enc : TypeId × Value → H} {w : World} {base : Nat} {spare : Nat → Bool} {held : Bool} {fuel : Nat} {L : List Value} {y : DataW H × List MemPlace}
    (h : DataW.trod enc Try.prog w base spare held fuel 43 L = some y) : ∃ x : Co, TuR x.t ∧ ∀ j, j < 6 → L[j]? = some (x.at j) := by
  obtain ⟨ys, n, _, _, _, hlen, hf⟩ := DataW.trod_struct Try.underlying43 h
  have hl : ys.length = 3 := hlen
  have g : ∀ j, j < 3 → ∃ z, ys[j]? = some z := fun j hj => ⟨ys[j]'(by omega), List.getElem?_eq_getElem (by omega)⟩
  have h0 : DataW.trod enc Try.prog w base spare held n 26 ((L.drop 0).take (Try.prog.cellsOf 26)) = ys[0]? := hf 0 _ rfl
  have h1 : DataW.trod enc Try.prog w base spare held n 3 ((L.drop 4).take (Try.prog.cellsOf 3)) = ys[1]? := hf 1 _ rfl
  have h2 : DataW.trod enc Try.prog w base spare held n 3 ((L.drop 5).take (Try.prog.cellsOf 3)) = ys[2]? := hf 2 _ rfl
  obtain ⟨z0, e0⟩ := g 0 (by omega)
  obtain ⟨z1, e1⟩ := g 1 (by omega)
  obtain ⟨z2, e2⟩ := g 2 (by omega)
  rw [e0, cells_tu] at h0
  rw [e1, cells_int] at h1
  rw [e2, cells_int] at h2
  obtain ⟨t, hr, ht⟩ := open_onetu h0
  obtain ⟨m1, p1, _, _⟩ := DataW.trod_int Try.underlying3 h1
  obtain ⟨m2, p2, _, _⟩ := DataW.trod_int Try.underlying3 h2
  refine ⟨⟨t, m1, m2⟩, hr, fun j hj => ?_⟩
  obtain rfl | rfl | rfl | rfl | rfl | rfl : j = 0 ∨ j = 1 ∨ j = 2 ∨ j = 3 ∨ j = 4 ∨ j = 5 := by omega
  · have := ht 0 (by omega); rwa [List.getElem?_take, if_pos (by omega), List.getElem?_drop] at this
  · have := ht 1 (by omega); rwa [List.getElem?_take, if_pos (by omega), List.getElem?_drop] at this
  · have := ht 2 (by omega); rwa [List.getElem?_take, if_pos (by omega), List.getElem?_drop] at this
  · have := ht 3 (by omega); rwa [List.getElem?_take, if_pos (by omega), List.getElem?_drop] at this
  · exact one_of p1
  · exact one_of p2
set_option maxRecDepth 100000 in
theorem open_C {H : Type} {enc : TypeId × Value → H} {w : World} {base b0 : Nat} {spare : Nat → Bool} {held : Bool} {v : Value} {d : DataW H} {p : List MemPlace} (hv : Value.okWide Try.prog w .any b0 22 v) (h : DataW.Trod enc Try.prog w base spare held 22 v d p) :
    ∃ (q : Option Addr) (xs : List Co) (c : Nat), v = .slice q xs.length c ∧ SlC w q xs ∧ xs.length ≤ c ∧ ∀ x ∈ xs, TuR x.t := by
  obtain ⟨a0, len, cap, rfl⟩ := okWide_slice Try.underlying22 hv
  obtain ⟨fuel, hf⟩ := h
  rcases open_slice Try.underlying22 hf with ⟨hcs, _⟩ | ⟨a, len', cap', k, n, D, Pl, hcs, _, hl, hm, hk, _, hi⟩
  · simp [Value.cells] at hcs
    obtain ⟨rfl, rfl, rfl⟩ := hcs
    exact ⟨none, [], 0, rfl, SlC.nil _ _, Nat.le_refl _, (fun x h => by cases h)⟩
  · simp [Value.cells] at hcs
    obtain ⟨rfl, rfl, rfl⟩ := hcs
    have hkl : len ≤ k := by rw [hk]; split <;> omega
    have key : ∀ i, i < len → ∃ x : Co, TuR x.t ∧ ∀ j, j < 6 → w.cell? (a.add (i * 6 + j)) = some (x.at j) := by
      intro i hi'
      obtain ⟨cs', hc, ht'⟩ := hi i (by omega)
      rw [cells_C] at hc
      obtain ⟨_, hcl, hat⟩ := World.cells?_some hc
      obtain ⟨x, hr, hx⟩ := open_oneC ht'
      refine ⟨x, hr, fun j hj => ?_⟩
      have h1 := hat j hj
      rw [hx j hj] at h1
      have e : (a.add (i * 6)).add j = a.add (i * 6 + j) := by
        unfold Addr.add
        repeat' split
        all_goals first | (exfalso; simp_all; omega) | (simp_all; done) | (simp_all; omega)
      rw [← e]; exact h1
    have hlen : ((List.range len).map fun i => if h : i < len then (key i h).choose else ⟨⟨0, 0, 0, 0⟩, 0, 0⟩).length = len := by simp
    refine ⟨some a, (List.range len).map fun i => if h : i < len then (key i h).choose else ⟨⟨0, 0, 0, 0⟩, 0, 0⟩, cap, by rw [hlen], ?_, by rw [hlen]; exact hl, ?_⟩
    · intro i hi'
      have hil : i < len := by omega
      have hc := (key i hil).choose_spec
      simp only [List.getElem_map, List.getElem_range, dif_pos hil]
      generalize (key i hil).choose = x at hc
      obtain ⟨-, hx'⟩ := hc
      have hvw : a.spot = none := by
        obtain ⟨x0, _, hx0⟩ := key 0 (by omega)
        have := hx0 0 (by omega)
        simpa [Addr.add] using World.cell?_spot this
      obtain ⟨b, off, view⟩ := a
      obtain rfl : view = none := hvw
      have hx' : ∀ j, j < 6 → w.cell? ⟨b, off + i * 6 + j, none⟩ = some (x.at j) := fun j hj => by
        have := hx' j hj
        rw [add_plain] at this
        rw [Nat.add_assoc]; exact this
      exact ⟨b, off, rfl, World.block_lt_of_cell? w _ (hx' 0 (by omega)), hx' 0 (by omega), hx' 1 (by omega), hx' 2 (by omega), hx' 3 (by omega), hx' 4 (by omega), hx' 5 (by omega)⟩
    · intro x hx
      rw [List.mem_map] at hx
      obtain ⟨i, hi', rfl⟩ := hx
      have hil : i < len := List.mem_range.1 hi'
      rw [dif_pos hil]
      exact (key i hil).choose_spec.1

end Go.Proofs.Ytookffaojlkfaaa

/- How arguments of law 26 are read: tables, events. -/
namespace Go.Proofs.Ytookffaojlkfaaa
open Go.ChangeShapes Go.WideShapes Go.ChangeAt Go.RowKit Go.Joins Go.Deep

def Ho.at (x : Ho) (j : Nat) : Value := match j with | 0 => .int .u32 x.t.a | 1 => .int .u32 x.t.b | 2 => .int .u16 x.t.c | 3 => .int .u16 x.t.d | _ => .int .i64 x.n
theorem cells_H : Try.prog.cellsOf 70 = 5 := by kernel_rfl
set_option maxRecDepth 100000 in
theorem open_oneH {H : Type} {enc : TypeId × Value → H} {w : World} {base : Nat} {spare : Nat → Bool} {held : Bool} {fuel : Nat} {L : List Value} {y : DataW H × List MemPlace}
    (h : DataW.trod enc Try.prog w base spare held fuel 70 L = some y) : ∃ x : Ho, TuR x.t ∧ ∀ j, j < 5 → L[j]? = some (x.at j) := by
  obtain ⟨ys, n, _, _, _, hlen, hf⟩ := DataW.trod_struct Try.underlying70 h
  have hl : ys.length = 2 := hlen
  have g : ∀ j, j < 2 → ∃ z, ys[j]? = some z := fun j hj => ⟨ys[j]'(by omega), List.getElem?_eq_getElem (by omega)⟩
  have h0 : DataW.trod enc Try.prog w base spare held n 26 ((L.drop 0).take (Try.prog.cellsOf 26)) = ys[0]? := hf 0 _ rfl
  have h1 : DataW.trod enc Try.prog w base spare held n 3 ((L.drop 4).take (Try.prog.cellsOf 3)) = ys[1]? := hf 1 _ rfl
  obtain ⟨z0, e0⟩ := g 0 (by omega)
  obtain ⟨z1, e1⟩ := g 1 (by omega)
  rw [e0, cells_tu] at h0
  rw [e1, cells_int] at h1
  obtain ⟨t, hr, ht⟩ := open_onetu h0
  obtain ⟨m1, p1, _, _⟩ := DataW.trod_int Try.underlying3 h1
  refine ⟨⟨t, m1⟩, hr, fun j hj => ?_⟩
  obtain rfl | rfl | rfl | rfl | rfl : j = 0 ∨ j = 1 ∨ j = 2 ∨ j = 3 ∨ j = 4 := by omega
  · have := ht 0 (by omega); rwa [List.getElem?_take, if_pos (by omega), List.getElem?_drop] at this
  · have := ht 1 (by omega); rwa [List.getElem?_take, if_pos (by omega), List.getElem?_drop] at this
  · have := ht 2 (by omega); rwa [List.getElem?_take, if_pos (by omega), List.getElem?_drop] at this
  · have := ht 3 (by omega); rwa [List.getElem?_take, if_pos (by omega), List.getElem?_drop] at this
  · exact one_of p1
set_option maxRecDepth 100000 in
theorem open_H {H : Type} {enc : TypeId × Value → H} {w : World} {base b0 : Nat} {spare : Nat → Bool} {held : Bool} {v : Value} {d : DataW H} {p : List MemPlace} (hv : Value.okWide Try.prog w .any b0 50 v) (h : DataW.Trod enc Try.prog w base spare held 50 v d p) :
    ∃ (q : Option Addr) (xs : List Ho) (c : Nat), v = .slice q xs.length c ∧ SlH w q xs ∧ xs.length ≤ c ∧ ∀ x ∈ xs, TuR x.t := by
  obtain ⟨a0, len, cap, rfl⟩ := okWide_slice Try.underlying50 hv
  obtain ⟨fuel, hf⟩ := h
  rcases open_slice Try.underlying50 hf with ⟨hcs, _⟩ | ⟨a, len', cap', k, n, D, Pl, hcs, _, hl, hm, hk, _, hi⟩
  · simp [Value.cells] at hcs
    obtain ⟨rfl, rfl, rfl⟩ := hcs
    exact ⟨none, [], 0, rfl, SlH.nil _ _, Nat.le_refl _, (fun x h => by cases h)⟩
  · simp [Value.cells] at hcs
    obtain ⟨rfl, rfl, rfl⟩ := hcs
    have hkl : len ≤ k := by rw [hk]; split <;> omega
    have key : ∀ i, i < len → ∃ x : Ho, TuR x.t ∧ ∀ j, j < 5 → w.cell? (a.add (i * 5 + j)) = some (x.at j) := by
      intro i hi'
      obtain ⟨cs', hc, ht'⟩ := hi i (by omega)
      rw [cells_H] at hc
      obtain ⟨_, hcl, hat⟩ := World.cells?_some hc
      obtain ⟨x, hr, hx⟩ := open_oneH ht'
      refine ⟨x, hr, fun j hj => ?_⟩
      have h1 := hat j hj
      rw [hx j hj] at h1
      have e : (a.add (i * 5)).add j = a.add (i * 5 + j) := by
        unfold Addr.add
        repeat' split
        all_goals first | (exfalso; simp_all; omega) | (simp_all; done) | (simp_all; omega)
      rw [← e]; exact h1
    have hlen : ((List.range len).map fun i => if h : i < len then (key i h).choose else ⟨⟨0, 0, 0, 0⟩, 0⟩).length = len := by simp
    refine ⟨some a, (List.range len).map fun i => if h : i < len then (key i h).choose else ⟨⟨0, 0, 0, 0⟩, 0⟩, cap, by rw [hlen], ?_, by rw [hlen]; exact hl, ?_⟩
    · intro i hi'
      have hil : i < len := by omega
      have hc := (key i hil).choose_spec
      simp only [List.getElem_map, List.getElem_range, dif_pos hil]
      generalize (key i hil).choose = x at hc
      obtain ⟨-, hx'⟩ := hc
      have hvw : a.spot = none := by
        obtain ⟨x0, _, hx0⟩ := key 0 (by omega)
        have := hx0 0 (by omega)
        simpa [Addr.add] using World.cell?_spot this
      obtain ⟨b, off, view⟩ := a
      obtain rfl : view = none := hvw
      have hx' : ∀ j, j < 5 → w.cell? ⟨b, off + i * 5 + j, none⟩ = some (x.at j) := fun j hj => by
        have := hx' j hj
        rw [add_plain] at this
        rw [Nat.add_assoc]; exact this
      exact ⟨b, off, rfl, World.block_lt_of_cell? w _ (hx' 0 (by omega)), hx' 0 (by omega), hx' 1 (by omega), hx' 2 (by omega), hx' 3 (by omega), hx' 4 (by omega)⟩
    · intro x hx
      rw [List.mem_map] at hx
      obtain ⟨i, hi', rfl⟩ := hx
      have hil : i < len := List.mem_range.1 hi'
      rw [dif_pos hil]
      exact (key i hil).choose_spec.1

def Ev.at (x : Ev) (j : Nat) : Value := match j with | 0 => .int .u8 x.k | 1 => .int .i64 x.n | 2 => .int .u32 x.t.a | 3 => .int .u32 x.t.b | 4 => .int .u16 x.t.c | _ => .int .u16 x.t.d
theorem cells_E : Try.prog.cellsOf 52 = 6 := by kernel_rfl
theorem cells_u8 : Try.prog.cellsOf 5 = 1 := by kernel_rfl
set_option maxRecDepth 100000 in
theorem open_oneE {H : Type} {enc : TypeId × Value → H} {w : World} {base : Nat} {spare : Nat → Bool} {held : Bool} {fuel : Nat} {L : List Value} {y : DataW H × List MemPlace}
    (h : DataW.trod enc Try.prog w base spare held fuel 52 L = some y) : ∃ x : Ev, TuR x.t ∧ ∀ j, j < 6 → L[j]? = some (x.at j) := by
  obtain ⟨ys, n, _, _, _, hlen, hf⟩ := DataW.trod_struct Try.underlying52 h
  have hl : ys.length = 3 := hlen
  have g : ∀ j, j < 3 → ∃ z, ys[j]? = some z := fun j hj => ⟨ys[j]'(by omega), List.getElem?_eq_getElem (by omega)⟩
  have h0 : DataW.trod enc Try.prog w base spare held n 5 ((L.drop 0).take (Try.prog.cellsOf 5)) = ys[0]? := hf 0 _ rfl
  have h1 : DataW.trod enc Try.prog w base spare held n 3 ((L.drop 1).take (Try.prog.cellsOf 3)) = ys[1]? := hf 1 _ rfl
  have h2 : DataW.trod enc Try.prog w base spare held n 26 ((L.drop 2).take (Try.prog.cellsOf 26)) = ys[2]? := hf 2 _ rfl
  obtain ⟨z0, e0⟩ := g 0 (by omega)
  obtain ⟨z1, e1⟩ := g 1 (by omega)
  obtain ⟨z2, e2⟩ := g 2 (by omega)
  rw [e0, cells_u8] at h0
  rw [e1, cells_int] at h1
  rw [e2, cells_tu] at h2
  obtain ⟨k, p0, _, _⟩ := DataW.trod_int Try.underlying5 h0
  obtain ⟨m, p1, _, _⟩ := DataW.trod_int Try.underlying3 h1
  obtain ⟨t, hr, ht⟩ := open_onetu h2
  refine ⟨⟨k, m, t⟩, hr, fun j hj => ?_⟩
  obtain rfl | rfl | rfl | rfl | rfl | rfl : j = 0 ∨ j = 1 ∨ j = 2 ∨ j = 3 ∨ j = 4 ∨ j = 5 := by omega
  · exact one_of p0
  · exact one_of p1
  · have := ht 0 (by omega); rwa [List.getElem?_take, if_pos (by omega), List.getElem?_drop] at this
  · have := ht 1 (by omega); rwa [List.getElem?_take, if_pos (by omega), List.getElem?_drop] at this
  · have := ht 2 (by omega); rwa [List.getElem?_take, if_pos (by omega), List.getElem?_drop] at this
  · have := ht 3 (by omega); rwa [List.getElem?_take, if_pos (by omega), List.getElem?_drop] at this
set_option maxRecDepth 100000 in
theorem open_ev {H : Type} {enc : TypeId × Value → H} {w : World} {base b0 : Nat} {spare : Nat → Bool} {held : Bool} {v : Value} {d : DataW H} {p : List MemPlace} (hv : Value.okWide Try.prog w .any b0 52 v) (h : DataW.Trod enc Try.prog w base spare held 52 v d p) : ∃ e : Ev, v = .agg #[.int .u8 e.k, .int .i64 e.n, .int .u32 e.t.a, .int .u32 e.t.b, .int .u16 e.t.c, .int .u16 e.t.d] ∧ TuR e.t := by
  simp only [Value.okWide, Try.underlying52] at hv
  obtain ⟨cs, rfl, hn, _⟩ := hv
  rw [cells_E] at hn
  obtain ⟨fuel, hf⟩ := h
  obtain ⟨e, hr, ht⟩ := open_oneE hf
  refine ⟨e, congrArg Value.agg (Array.ext_getElem? fun j => ?_), hr⟩
  by_cases hj : j < 6
  · have h1 := ht j hj
    have h2 : cs[j]? = some (e.at j) := by simpa [Value.cells] using h1
    rw [h2]
    obtain rfl | rfl | rfl | rfl | rfl | rfl : j = 0 ∨ j = 1 ∨ j = 2 ∨ j = 3 ∨ j = 4 ∨ j = 5 := by omega
    all_goals rfl
  · rw [Array.getElem?_eq_none (by omega), Array.getElem?_eq_none (by simp; omega)]
set_option maxRecDepth 100000 in
theorem open_E {H : Type} {enc : TypeId × Value → H} {w : World} {base b0 : Nat} {spare : Nat → Bool} {held : Bool} {v : Value} {d : DataW H} {p : List MemPlace} (hv : Value.okWide Try.prog w .any b0 53 v) (h : DataW.Trod enc Try.prog w base spare held 53 v d p) :
    ∃ (q : Option Addr) (xs : List Ev) (c : Nat), v = .slice q xs.length c ∧ SlE w q xs ∧ xs.length ≤ c ∧ ∀ x ∈ xs, TuR x.t := by
  obtain ⟨a0, len, cap, rfl⟩ := okWide_slice Try.underlying53 hv
  obtain ⟨fuel, hf⟩ := h
  rcases open_slice Try.underlying53 hf with ⟨hcs, _⟩ | ⟨a, len', cap', k, n, D, Pl, hcs, _, hl, hm, hk, _, hi⟩
  · simp [Value.cells] at hcs
    obtain ⟨rfl, rfl, rfl⟩ := hcs
    exact ⟨none, [], 0, rfl, SlE.nil _ _, Nat.le_refl _, (fun x h => by cases h)⟩
  · simp [Value.cells] at hcs
    obtain ⟨rfl, rfl, rfl⟩ := hcs
    have hkl : len ≤ k := by rw [hk]; split <;> omega
    have key : ∀ i, i < len → ∃ x : Ev, TuR x.t ∧ ∀ j, j < 6 → w.cell? (a.add (i * 6 + j)) = some (x.at j) := by
      intro i hi'
      obtain ⟨cs', hc, ht'⟩ := hi i (by omega)
      rw [cells_E] at hc
      obtain ⟨_, hcl, hat⟩ := World.cells?_some hc
      obtain ⟨x, hr, hx⟩ := open_oneE ht'
      refine ⟨x, hr, fun j hj => ?_⟩
      have h1 := hat j hj
      rw [hx j hj] at h1
      have e : (a.add (i * 6)).add j = a.add (i * 6 + j) := by
        unfold Addr.add
        repeat' split
        all_goals first | (exfalso; simp_all; omega) | (simp_all; done) | (simp_all; omega)
      rw [← e]; exact h1
    have hlen : ((List.range len).map fun i => if h : i < len then (key i h).choose else ⟨0, 0, ⟨0, 0, 0, 0⟩⟩).length = len := by simp
    refine ⟨some a, (List.range len).map fun i => if h : i < len then (key i h).choose else ⟨0, 0, ⟨0, 0, 0, 0⟩⟩, cap, by rw [hlen], ?_, by rw [hlen]; exact hl, ?_⟩
    · intro i hi'
      have hil : i < len := by omega
      have hc := (key i hil).choose_spec
      simp only [List.getElem_map, List.getElem_range, dif_pos hil]
      generalize (key i hil).choose = x at hc
      obtain ⟨-, hx'⟩ := hc
      have hvw : a.spot = none := by
        obtain ⟨x0, _, hx0⟩ := key 0 (by omega)
        have := hx0 0 (by omega)
        simpa [Addr.add] using World.cell?_spot this
      obtain ⟨b, off, view⟩ := a
      obtain rfl : view = none := hvw
      have hx' : ∀ j, j < 6 → w.cell? ⟨b, off + i * 6 + j, none⟩ = some (x.at j) := fun j hj => by
        have := hx' j hj
        rw [add_plain] at this
        rw [Nat.add_assoc]; exact this
      exact ⟨b, off, rfl, World.block_lt_of_cell? w _ (hx' 0 (by omega)), hx' 0 (by omega), hx' 1 (by omega), hx' 2 (by omega), hx' 3 (by omega), hx' 4 (by omega), hx' 5 (by omega)⟩
    · intro x hx
      rw [List.mem_map] at hx
      obtain ⟨i, hi', rfl⟩ := hx
      have hil : i < len := List.mem_range.1 hi'
      rw [dif_pos hil]
      exact (key i hil).choose_spec.1

end Go.Proofs.Ytookffaojlkfaaa

/- Contracts of law 26, as its walks meet them. -/
namespace Go.Proofs.Ytookffaojlkfaaa
open Go.RowKit

def OneT (xs : List Tu) (n : Nat) (W : World) (e : Ending) (w' : World) : Prop := ∃ p c, e = .returned (.slice p n c) ∧ SlT w' p xs ∧ Ext W w'
theorem rstep_g {e : Ev} {p : Option Addr} {xs ys : List Ho} {n c : Nat} {b : Bool} {W : World} (hs : SlH W p xs) (hl : xs.length ≤ 1000) (hc : xs.length ≤ c) (hr : ∀ x ∈ xs, TuR x.t) (he : TuR e.t) (hy : (stepH xs e).1 = ys) (hn : ys.length = n) (hb : (stepH xs e).2 = b) :
    Calls Try.prog 37 #[.slice p xs.length c, .agg #[.int .u8 e.k, .int .i64 e.n, .int .u32 e.t.a, .int .u32 e.t.b, .int .u16 e.t.c, .int .u16 e.t.d]] W (GetsH ys n b W) :=
  (rstep_H e p xs c W hs hl hc hr he).mono fun r w' ⟨v, h1, h2, h3⟩ => by rw [h1]; exact getsH_of hy hn hb h2 h3
theorem rrun_g {es : List Ev} {p q : Option Addr} {xs ys : List Ho} {n c d k : Nat} {b : Bool} {W : World} (hs : SlH W p xs) (he : SlE W q es) (hl : xs.length + es.length ≤ 1000) (hc : xs.length ≤ c) (hr : ∀ x ∈ xs, TuR x.t) (hre : ∀ e ∈ es, TuR e.t) (hy : (runH xs es).1 = ys) (hn : ys.length = n) (hk : (runH xs es).2.1 = k) (hb : (runH xs es).2.2 = b) :
    Calls Try.prog 39 #[.slice p xs.length c, .slice q es.length d] W (RunG ys n k b W) := by
  subst hy hn hk hb
  exact (rrun_any p xs c q es d W hs he hl hc hr hre).mono fun r w' ⟨v, h1, h2, h3⟩ => by
    obtain ⟨p1, c1, rfl, hc, hs⟩ := h2.sl
    exact ⟨p1, c1, h1, hs, hc, h3⟩
theorem oft_g {k : Int} {p : Option Addr} {xs : List Ho} {ys : List Tu} {n c : Nat} {W : World} (hs : SlH W p xs) (hl : xs.length ≤ 1000) (hy : ofX xs k = ys) (hn : ys.length = n) :
    Calls Try.prog 46 #[.slice p xs.length c, .int .i64 k] W (OneT ys n W) := by
  subst hy hn
  exact (ofh_any p xs c k W hs hl).mono fun e w' ⟨v, h1, o1, h3⟩ => by
    obtain ⟨p1, c1, rfl, hc, s1⟩ := SlT.own o1
    exact ⟨p1, c1, h1, s1, h3⟩
theorem roft_g {k : Int} {p : Option Addr} {xs : List Ho} {ys : List Tu} {n c : Nat} {W : World} (hs : SlH W p xs) (hl : xs.length ≤ 1000) (hy : ofX xs k = ys) (hn : ys.length = n) :
    Calls Try.prog 47 #[.slice p xs.length c, .int .i64 k] W (OneT ys n W) := by
  subst hy hn
  exact (rofh_any p xs c k W hs hl).mono fun e w' ⟨v, h1, o1, h3⟩ => by
    obtain ⟨p1, c1, rfl, hc, s1⟩ := SlT.own o1
    exact ⟨p1, c1, h1, s1, h3⟩
theorem sameH_g {p q : Option Addr} {xs : List Ho} {n c d : Nat} {W : World} (hs : SlH W p xs) (ht : SlH W q xs) (hn : xs.length = n) (hl : n ≤ 1000) :
    Calls Try.prog 42 #[.slice p n c, .slice q n d] W fun e w' => e = .returned (.bool true) ∧ Ext W w' := by
  subst hn
  exact (same_H p q xs xs c d W hs ht hl hl).mono fun e w' ⟨h1, h2⟩ => ⟨by rw [h1, decide_eq_true rfl], h2⟩
theorem allT_g {p q : Option Addr} {xs : List Tu} {n c d : Nat} {W : World} (hs : SlT W p xs) (ht : SlT W q xs) (hn : xs.length = n) (hl : n ≤ 1000) :
    Calls Try.prog 45 #[.slice p n c, .slice q n d] W fun e w' => e = .returned (.bool true) ∧ Ext W w' := by
  subst hn
  exact (same_T p q xs xs c d W hs ht hl hl).mono fun e w' ⟨h1, h2⟩ => ⟨by rw [h1, decide_eq_true rfl], h2⟩
theorem runH_len : ∀ (es : List Ev) (xs : List Ho), (runH xs es).1.length ≤ xs.length + es.length
  | [], xs => Nat.le_refl _
  | e :: es, xs => by
    rw [runH]
    split
    · have := runH_len es (stepH xs e).1
      have := step_len xs e
      simp only [List.length_cons]
      omega
    · simp
theorem runH_many : ∀ (es : List Ev) (xs : List Ho), (runH xs es).2.1 ≤ es.length
  | [], xs => Nat.le_refl _
  | e :: es, xs => by
    rw [runH]
    split
    · have := runH_many es (stepH xs e).1
      simp only [List.length_cons]
      omega
    · simp

end Go.Proofs.Ytookffaojlkfaaa
