/- What wakes asks, at literals. -/
import Derived.Test.YtookffaojlkfaaaJ8
import Derived.Test.YtookffaojlkfaaaC9
import Derived.Test.YtookffaojlkfaaaC11
import Derived.Test.YtookffaojlkfaaaC13
import Derived.Test.YtookffaojlkfaaaC16
import Derived.Test.YtookffaojlkfaaaH6
set_option linter.unusedSimpArgs false
set_option linter.unusedVariables false
namespace Go.Proofs.Ytookffaojlkfaaa
open Go.RowKit

def T3 : Tu := ⟨1, 2, 3, 80⟩
def T7 : Tu := ⟨1, 2, 7, 80⟩
def T8 : Tu := ⟨1, 2, 8, 80⟩
def L1 : List Co := [⟨T7, 5, 5⟩]
def L2 : List Co := [⟨T7, 5, 9⟩]
def M2 : List Co := [⟨T3, 10, 10⟩, ⟨T7, 5, 9⟩]
def C2 : List Co := [⟨T3, 10, 10⟩]
def GetsC (xs : List Co) (n : Nat) (x : Value) (W : World) (e : Ending) (w' : World) : Prop := ∃ p c, e = .returned (.tuple #[.slice p n c, x]) ∧ SlC w' p xs ∧ Ext W w'
theorem gets_of {xs ys : List Co} {n : Nat} {x y v : Value} {W w' : World} (hy : xs = ys) (hn : ys.length = n) (hx : x = y) (ho : w'.ownsRow W.heap.size 43 6 v xs.length (flC xs)) (hE : Ext W w') : GetsC ys n y W (.returned (.tuple #[v, x])) w' := by
  subst hy hn hx
  obtain ⟨p, c, rfl, -, hs⟩ := SlC.own ho
  exact ⟨p, c, rfl, hs, hE⟩
theorem tuple3_any (w : World) : Calls Try.prog 50 #[.int .i64 3] w fun e w' => e = .returned (tu 1 2 3 80) ∧ Ext w w' := by
  go_enter Try.func50, Try.ntmps50
  go_wp2
  refine bodyPost_ret (v := tu 1 2 3 80) (by simp [results, Try.results50, go_sem]) rfl ⟨rfl, ?_⟩
  (repeat (first | with_reducible exact Ext.rf _ | with_reducible assumption | with_reducible refine Ext.al ?_ _ | with_reducible refine Ext.dr ?_ | with_reducible refine Ext.dn ?_ _ | ((with_reducible refine Ext.st _ ?_ ?_); focus (first | omega | (simp; omega) | simp)) | with_reducible refine Ext.tr ?_ (by assumption) | with_reducible refine Ext.tr ?_ (up_ext (by assumption)) | with_reducible refine Ext.of (by assumption) ?_))
theorem tuple7_any (w : World) : Calls Try.prog 50 #[.int .i64 7] w fun e w' => e = .returned (tu 1 2 7 80) ∧ Ext w w' := by
  go_enter Try.func50, Try.ntmps50
  go_wp2
  refine bodyPost_ret (v := tu 1 2 7 80) (by simp [results, Try.results50, go_sem]) rfl ⟨rfl, ?_⟩
  (repeat (first | with_reducible exact Ext.rf _ | with_reducible assumption | with_reducible refine Ext.al ?_ _ | with_reducible refine Ext.dr ?_ | with_reducible refine Ext.dn ?_ _ | ((with_reducible refine Ext.st _ ?_ ?_); focus (first | omega | (simp; omega) | simp)) | with_reducible refine Ext.tr ?_ (by assumption) | with_reducible refine Ext.tr ?_ (up_ext (by assumption)) | with_reducible refine Ext.of (by assumption) ?_))
theorem tuple8_any (w : World) : Calls Try.prog 50 #[.int .i64 8] w fun e w' => e = .returned (tu 1 2 8 80) ∧ Ext w w' := by
  go_enter Try.func50, Try.ntmps50
  go_wp2
  refine bodyPost_ret (v := tu 1 2 8 80) (by simp [results, Try.results50, go_sem]) rfl ⟨rfl, ?_⟩
  (repeat (first | with_reducible exact Ext.rf _ | with_reducible assumption | with_reducible refine Ext.al ?_ _ | with_reducible refine Ext.dr ?_ | with_reducible refine Ext.dn ?_ _ | ((with_reducible refine Ext.st _ ?_ ?_); focus (first | omega | (simp; omega) | simp)) | with_reducible refine Ext.tr ?_ (by assumption) | with_reducible refine Ext.tr ?_ (up_ext (by assumption)) | with_reducible refine Ext.of (by assumption) ?_))

theorem add_g {t : Tu} {now : Int} {p : Option Addr} {xs ys : List Co} {m n c : Nat} {er : Int} {W : World} (hs : SlC W p xs) (hm : xs.length = m) (hl : xs.length ≤ 1000) (hy : addX xs t now = ys) (hn : ys.length = n) (he : addE xs t now = er) :
    Calls Try.prog 15 #[.slice p m c, tu t.a t.b t.c t.d, .int .i64 now] W (GetsC ys n (.int .i64 er) W) := by
  subst hm
  exact (add_any t now p xs c W hs hl).mono fun e w' ⟨v, h1, h2, h3⟩ => by rw [h1]; exact gets_of hy hn (by rw [he]) h2 h3
theorem touch_g {t : Tu} {now : Int} {p : Option Addr} {xs ys : List Co} {m n c : Nat} {er : Bool} {W : World} (hs : SlC W p xs) (hm : xs.length = m) (hl : xs.length ≤ 1000) (hy : withX (touchF now) xs t = ys) (hn : ys.length = n) (he : withOk xs t = er) :
    Calls Try.prog 17 #[.slice p m c, tu t.a t.b t.c t.d, .int .i64 now] W (GetsC ys n (.bool er) W) := by
  subst hm
  exact (touch_any t now p xs c W hs hl).mono fun e w' ⟨v, h1, h2, h3⟩ => by rw [h1]; exact gets_of hy hn (by rw [he]) h2 h3
theorem close_g {t : Tu} {p : Option Addr} {xs ys : List Co} {m n c : Nat} {er : Bool} {W : World} (hs : SlC W p xs) (hm : xs.length = m) (hl : xs.length ≤ 1000) (hy : withX (fun xs k => xs.eraseIdx k) xs t = ys) (hn : ys.length = n) (he : withOk xs t = er) :
    Calls Try.prog 19 #[.slice p m c, tu t.a t.b t.c t.d] W (GetsC ys n (.bool er) W) := by
  subst hm
  exact (close_any t p xs c W hs hl).mono fun e w' ⟨v, h1, h2, h3⟩ => by rw [h1]; exact gets_of hy hn (by rw [he]) h2 h3
def TwoG (xs ys : List Co) (n m : Nat) (W : World) (e : Ending) (w' : World) : Prop := ∃ p c q d, e = .returned (.tuple #[.slice p n c, .slice q m d]) ∧ SlC w' p xs ∧ SlC w' q ys ∧ Ext W w'
theorem idle_g {idle now : Int} {p : Option Addr} {xs ys zs : List Co} {m n k c : Nat} {W : World} (hs : SlC W p xs) (hm : xs.length = m) (hl : xs.length ≤ 1000) (hi : idle ≤ 9223372036854775807) (hy : xs.filter (idleB idle now) = ys) (hz : (xs.filter fun x => !idleB idle now x) = zs) (hn : ys.length = n) (hk : zs.length = k) :
    Calls Try.prog 21 #[.slice p m c, .int .i64 idle, .int .i64 now] W (TwoG ys zs n k W) := by
  subst hm hy hz hn hk
  refine (idle_any p xs c idle now W hs hl hi _ _ _ rfl rfl rfl).mono fun e w' ⟨v1, v2, h1, ⟨o1, o2, _⟩, h3⟩ => ?_
  obtain ⟨p1, c1, rfl, -, s1⟩ := SlC.own o1
  obtain ⟨p2, c2, rfl, -, s2⟩ := SlC.own o2
  exact ⟨p1, c1, p2, c2, h1, s1, s2, h3⟩
def OneG (xs : List Co) (n : Nat) (W : World) (e : Ending) (w' : World) : Prop := ∃ p c, e = .returned (.slice p n c) ∧ SlC w' p xs ∧ Ext W w'
theorem of_g {k : Int} {p : Option Addr} {xs ys : List Co} {m n c : Nat} {W : World} (hs : SlC W p xs) (hm : xs.length = m) (hl : xs.length ≤ 1000) (hr : ∀ x ∈ xs, TuR x.t) (hy : xs.filter (inB k) = ys) (hn : ys.length = n) :
    Calls Try.prog 30 #[.slice p m c, .int .i64 k] W (OneG ys n W) := by
  subst hm hy hn
  refine (cof_any p xs c k W hs hl hr).mono fun e w' ⟨v, h1, o1, h3⟩ => ?_
  obtain ⟨p1, c1, rfl, -, s1⟩ := SlC.own o1
  exact ⟨p1, c1, h1, s1, h3⟩
theorem wo_g {k : Int} {p : Option Addr} {xs ys : List Co} {m n c : Nat} {W : World} (hs : SlC W p xs) (hm : xs.length = m) (hl : xs.length ≤ 1000) (hr : ∀ x ∈ xs, TuR x.t) (hy : (xs.filter fun x => !inB k x) = ys) (hn : ys.length = n) :
    Calls Try.prog 32 #[.slice p m c, .int .i64 k] W (OneG ys n W) := by
  subst hm hy hn
  refine (cwo_any p xs c k W hs hl hr).mono fun e w' ⟨v, h1, o1, h3⟩ => ?_
  obtain ⟨p1, c1, rfl, -, s1⟩ := SlC.own o1
  exact ⟨p1, c1, h1, s1, h3⟩
theorem right_g {b : Bool} {p : Option Addr} {xs : List Co} {m c : Nat} {W : World} (hs : SlC W p xs) (hm : xs.length = m) (hl : xs.length ≤ 1000) (hb : rightC xs = b) :
    Calls Try.prog 26 #[.slice p m c] W fun e w' => e = .returned (.bool b) ∧ Ext W w' := by
  subst hm hb
  exact right_any p xs c W hs hl
theorem find_g {t : Tu} {b : Bool} {k : Nat} {p : Option Addr} {xs : List Co} {m c : Nat} {W : World} (hs : SlC W p xs) (hm : xs.length = m) (hl : xs.length ≤ 1000) (hk : atC xs t = k) (hb : okC xs t = b) :
    Calls Try.prog 24 #[.slice p m c, tu t.a t.b t.c t.d] W fun e w' => e = .returned (.tuple #[.int .i64 k, .bool b]) ∧ Ext W w' := by
  subst hm hb hk
  exact find_any t p xs c W hs hl
theorem r3 : TuR T3 := by unfold TuR T3; simp
theorem r7 : TuR T7 := by unfold TuR T7; simp
theorem k1 : addX [] T7 5 = L1 ∧ addE [] T7 5 = 0 := ⟨by kernel_rfl, by kernel_rfl⟩
theorem k2 : withX (touchF 9) L1 T7 = L2 ∧ withOk L1 T7 = true := ⟨by kernel_rfl, by kernel_rfl⟩
theorem k3 : addX L2 T3 10 = M2 ∧ addE L2 T3 10 = 0 := ⟨by kernel_rfl, by kernel_rfl⟩
theorem k4 : addX L2 T7 11 = L2 ∧ addE L2 T7 11 = 201 := ⟨by kernel_rfl, by kernel_rfl⟩
theorem k5 : addX L2 T8 (-1) = L2 ∧ addE L2 T8 (-1) = 2 := ⟨by kernel_rfl, by kernel_rfl⟩
theorem k6 : L2.filter (idleB 4 12) = [] ∧ (L2.filter fun x => !idleB 4 12 x) = L2 := ⟨by kernel_rfl, by kernel_rfl⟩
theorem k7 : L2.filter (idleB 4 13) = L2 ∧ (L2.filter fun x => !idleB 4 13 x) = [] := ⟨by kernel_rfl, by kernel_rfl⟩
theorem k8 : withX (fun xs k => xs.eraseIdx k) M2 T7 = C2 ∧ withOk M2 T7 = true := ⟨by kernel_rfl, by kernel_rfl⟩
theorem k9 : withX (fun xs k => xs.eraseIdx k) C2 T7 = C2 ∧ withOk C2 T7 = false := ⟨by kernel_rfl, by kernel_rfl⟩
theorem k10 : atC M2 T7 = 1 ∧ okC M2 T7 = true := ⟨by kernel_rfl, by kernel_rfl⟩
theorem k11 : L2.filter (inB (ofT T7)) = L2 ∧ (L2.filter fun x => !inB (ofT T7) x) = [] := by
  have h : inB (ofT T7) ⟨T7, 5, 9⟩ = true := by unfold inB; simp
  unfold L2
  simp [h]
theorem k12 : rightC M2 = true := by kernel_rfl
theorem k13 : rightC [⟨⟨0, 0, 0, 0⟩, 2, 1⟩] = false := by kernel_rfl

end Go.Proofs.Ytookffaojlkfaaa
