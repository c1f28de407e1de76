/- Contracts of law 15, as its walks meet them. -/
import Derived.Test.YtookffaojlkfaaaW3
import Derived.Test.YtookffaojlkfaaaOC
import Derived.Test.YtookffaojlkfaaaJ8
set_option linter.unusedSimpArgs false
set_option linter.unusedVariables false
namespace Go.Proofs.Ytookffaojlkfaaa
open Go.RowKit

theorem radd_g {t : Tu} {now : Int} {p : Option Addr} {xs ys : List Co} {n c : Nat} {er : Int} {W : World} (hs : SlC W p xs) (hl : xs.length ≤ 1000) (hc : xs.length ≤ c) (hr : ∀ x ∈ xs, TuR x.t) (hrt : TuR t) (hy : addX xs t now = ys) (hn : ys.length = n) (he : addE xs t now = er) :
    Calls Try.prog 16 #[.slice p xs.length c, tu t.a t.b t.c t.d, .int .i64 now] W (GetsC ys n (.int .i64 er) W) :=
  (radd_any t now p xs c W hs hl hc hr hrt).mono fun e w' ⟨v, h1, h2, h3⟩ => by rw [h1]; exact gets_of hy hn (by rw [he]) h2 h3
theorem rtouch_g {t : Tu} {now : Int} {p : Option Addr} {xs ys : List Co} {n c : Nat} {er : Bool} {W : World} (hs : SlC W p xs) (hl : xs.length ≤ 1000) (hc : xs.length ≤ c) (hr : ∀ x ∈ xs, TuR x.t) (hrt : TuR t) (hy : withX (touchF now) xs t = ys) (hn : ys.length = n) (he : withOk xs t = er) :
    Calls Try.prog 18 #[.slice p xs.length c, tu t.a t.b t.c t.d, .int .i64 now] W (GetsC ys n (.bool er) W) :=
  (rtouch_any t now p xs c W hs hl hc hr hrt).mono fun e w' ⟨v, h1, h2, h3⟩ => by rw [h1]; exact gets_of hy hn (by rw [he]) h2 h3
theorem rclose_g {t : Tu} {p : Option Addr} {xs ys : List Co} {n c : Nat} {er : Bool} {W : World} (hs : SlC W p xs) (hl : xs.length ≤ 1000) (hc : xs.length ≤ c) (hr : ∀ x ∈ xs, TuR x.t) (hrt : TuR t) (hy : withX (fun xs k => xs.eraseIdx k) xs t = ys) (hn : ys.length = n) (he : withOk xs t = er) :
    Calls Try.prog 20 #[.slice p xs.length c, tu t.a t.b t.c t.d] W (GetsC ys n (.bool er) W) :=
  (rclose_any t p xs c W hs hl hc hr hrt).mono fun e w' ⟨v, h1, h2, h3⟩ => by rw [h1]; exact gets_of hy hn (by rw [he]) h2 h3
theorem ridle_g {idle now : Int} {p : Option Addr} {xs ys zs : List Co} {n k c : Nat} {W : World} (hs : SlC W p xs) (hl : xs.length ≤ 1000) (hi : idle ≤ 9223372036854775807) (hy : xs.filter (idleB idle now) = ys) (hz : (xs.filter fun x => !idleB idle now x) = zs) (hn : ys.length = n) (hk : zs.length = k) :
    Calls Try.prog 22 #[.slice p xs.length c, .int .i64 idle, .int .i64 now] W (TwoG ys zs n k W) := by
  subst hy hz hn hk
  refine (ridle_any p xs c idle now W hs hl hi).mono fun e w' ⟨v1, v2, h1, ⟨o1, o2, _⟩, h3⟩ => ?_
  obtain ⟨p1, c1, rfl, -, s1⟩ := SlC.own o1
  obtain ⟨p2, c2, rfl, -, s2⟩ := SlC.own o2
  exact ⟨p1, c1, p2, c2, h1, s1, s2, h3⟩
theorem rof_g {k : Int} {p : Option Addr} {xs ys : List Co} {n c : Nat} {W : World} (hs : SlC W p xs) (hl : xs.length ≤ 1000) (hr : ∀ x ∈ xs, TuR x.t) (hy : xs.filter (inB k) = ys) (hn : ys.length = n) :
    Calls Try.prog 31 #[.slice p xs.length c, .int .i64 k] W (OneG ys n W) := by
  subst hy hn
  refine (rcof_any p xs c k W hs hl hr).mono fun e w' ⟨v, h1, o1, h3⟩ => ?_
  obtain ⟨p1, c1, rfl, -, s1⟩ := SlC.own o1
  exact ⟨p1, c1, h1, s1, h3⟩
theorem rwo_g {k : Int} {p : Option Addr} {xs ys : List Co} {n c : Nat} {W : World} (hs : SlC W p xs) (hl : xs.length ≤ 1000) (hr : ∀ x ∈ xs, TuR x.t) (hy : (xs.filter fun x => !inB k x) = ys) (hn : ys.length = n) :
    Calls Try.prog 33 #[.slice p xs.length c, .int .i64 k] W (OneG ys n W) := by
  subst hy hn
  refine (rcwo_any p xs c k W hs hl hr).mono fun e w' ⟨v, h1, o1, h3⟩ => ?_
  obtain ⟨p1, c1, rfl, -, s1⟩ := SlC.own o1
  exact ⟨p1, c1, h1, s1, h3⟩
theorem same_g {p q : Option Addr} {xs : List Co} {n c d : Nat} {W : World} (hs : SlC W p xs) (ht : SlC W q xs) (hn : xs.length = n) (hl : n ≤ 1000) :
    Calls Try.prog 23 #[.slice p n c, .slice q n d] W fun e w' => e = .returned (.bool true) ∧ Ext W w' := by
  subst hn
  exact (same_C p q xs xs c d W hs ht hl hl).mono fun e w' ⟨h1, h2⟩ => ⟨by rw [h1, decide_eq_true rfl], h2⟩
theorem addX_len (xs : List Co) (t : Tu) (now : Int) : (addX xs t now).length ≤ xs.length + 1 := by
  unfold addX; split
  · rw [insAt_len]; omega
  · omega
theorem touchX_len (xs : List Co) (t : Tu) (now : Int) : (withX (touchF now) xs t).length = xs.length := by
  unfold withX touchF; split
  · split <;> simp
  · rfl
theorem closeX_len (xs : List Co) (t : Tu) : (withX (fun xs k => xs.eraseIdx k) xs t).length ≤ xs.length := by
  unfold withX; split
  · exact List.length_eraseIdx_le _ _
  · exact Nat.le_refl _

end Go.Proofs.Ytookffaojlkfaaa
