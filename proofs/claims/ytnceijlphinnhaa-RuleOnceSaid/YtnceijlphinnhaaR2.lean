/- The small functions of the package rule: closures that drop and send. -/
import Derived.Test.YtnceijlphinnhaaM3
import Derived.Test.YtnceijlphinnhaaR1
namespace Go.Proofs.Ytnceijlphinnhaa
open Go.RowKit

abbrev av (k f g : Int) (s n r : Bool) : Value := .agg #[.int .u8 k, .int .i64 f, .int .i64 g, .bool s, .bool n, .bool r]
abbrev cv (d x k t g : Int) : Value := .agg #[.int .u8 d, .int .u8 x, .int .u8 k, .int .i64 t, .int .i64 g]

section
variable (n : Nat)
@[go_sem] theorem self_ne1 : (n = n + 1) = False := by simp; try omega
@[go_sem] theorem self_ne1' : (n + 1 = n) = False := by simp; try omega
@[go_sem] theorem self_ne2 : (n = n + 1 + 1) = False := by simp; try omega
@[go_sem] theorem self_ne2' : (n + 1 + 1 = n) = False := by simp; try omega
@[go_sem] theorem self_ne3 : (n = n + 1 + 1 + 1) = False := by simp; try omega
@[go_sem] theorem self_ne3' : (n + 1 + 1 + 1 = n) = False := by simp; try omega
@[go_sem] theorem self_ne4 : (n = n + 1 + 1 + 1 + 1) = False := by simp; try omega
@[go_sem] theorem self_ne4' : (n + 1 + 1 + 1 + 1 = n) = False := by simp; try omega
@[go_sem] theorem self_ne5 : (n = n + 1 + 1 + 1 + 1 + 1) = False := by simp; try omega
@[go_sem] theorem self_ne5' : (n + 1 + 1 + 1 + 1 + 1 = n) = False := by simp; try omega
@[go_sem] theorem self_ne6 : (n = n + 1 + 1 + 1 + 1 + 1 + 1) = False := by simp; try omega
@[go_sem] theorem self_ne6' : (n + 1 + 1 + 1 + 1 + 1 + 1 = n) = False := by simp; try omega
end
/-- W is kept in w', but for the block B, which is younger than w. -/
abbrev UpE (B : Nat) (w W w' : World) : Prop := (∀ b o, Lt b W → b ≠ B → w'.cell? ⟨b, o, none⟩ = W.cell? ⟨b, o, none⟩) ∧ (∀ b o, Lt b W → w'.frozen? ⟨b, o, none⟩ = W.frozen? ⟨b, o, none⟩) ∧ (∀ b, Lt b W → Lt b w') ∧ W.heap.size ≤ w'.heap.size ∧ Ext w w'
theorem UpE.start {B : Nat} {w W : World} (h : Ext w W) : UpE B w W W.drew := ⟨fun _ _ _ _ => rfl, fun _ _ _ => rfl, fun _ h => h, Nat.le_refl _, Ext.dr h⟩
theorem UpE.next {B : Nat} {w W w1 w2 : World} (h : UpE B w W w1) (hb : Ext w1 w2) : UpE B w W w2 :=
  ⟨fun b o hl hn => (hb.cell (p := ⟨b, o, none⟩) (h.2.2.1 b hl)).trans (h.1 b o hl hn), fun b o hl => (hb.frozen (p := ⟨b, o, none⟩) (h.2.2.1 b hl)).trans (h.2.1 b o hl), fun b hl => Nat.lt_of_lt_of_le (h.2.2.1 b hl) hb.size, Nat.le_trans h.2.2.2.1 hb.size, Ext.tr h.2.2.2.2 hb⟩
theorem UpE.st {B : Nat} {w W w1 : World} {o : Nat} (v : Value) (hB : w.heap.size ≤ B) (h : UpE B w W w1) : UpE B w W (w1.setCell ⟨B, o, none⟩ v) :=
  ⟨fun b o' hl hn => (World.cell?_of_block (w := w1) (a := ⟨b, o', none⟩) (Below.heap_setCell _ _ _ _ hn)).trans (h.1 b o' hl hn), fun b o' hl => (World.frozen?_setCell _ _ _ _).trans (h.2.1 b o' hl), fun b hl => by rw [Lt_setCell]; exact h.2.2.1 b hl, by simpa [World.setCell] using h.2.2.2.1, Ext.st v hB h.2.2.2.2⟩

/-- A closure over function f, whose one captured variable holds n. -/
def clo (f : Nat) (n : Int) : Pred := fun w v => ∃ b, v = .func (.func f) #[] #[.pointer (some ⟨b, 0, none⟩)] ∧ Lt b w ∧ w.cell? ⟨b, 0, none⟩ = some (.int .u8 n)
def isV (u : Value) : Pred := fun _ v => v = u
theorem clo_stable (f : Nat) (n : Int) : Stable (clo f n) := by
  rintro w w' v hm ⟨b, h1, h2, h3⟩
  exact ⟨b, h1, Nat.lt_of_lt_of_le h2 hm.2, hm.1 _ _ _ h3⟩
theorem isV_stable (u : Value) : Stable (isV u) := fun _ _ _ _ h => h

def CloPost (f : Nat) (n : Int) (w : World) (e : Ending) (w' : World) : Prop := ∃ b, e = .returned (.func (.func f) #[] #[.pointer (some ⟨b, 0, none⟩)]) ∧ Lt b w' ∧ w'.cell? ⟨b, 0, none⟩ = some (.int .u8 n) ∧ Ext w w'

theorem send_any (n : Int) (w : World) : Calls Try.prog 56 #[.int .u8 n] w (CloPost 61 n w) := by
  go_enter Try.func56, Try.ntmps56
  go_wp2
  go_ret
  exact ⟨w.heap.size, rfl, by simp [go_sem], by simp [go_sem], by repeat (first | with_reducible exact Ext.rf _ | with_reducible assumption | with_reducible refine Ext.al ?_ _ | with_reducible refine Ext.dr ?_ | with_reducible refine Ext.dn ?_ _ | ((with_reducible refine Ext.st _ ?_ ?_); focus (first | omega | (simp; omega) | simp)) | with_reducible refine Ext.tr ?_ (by assumption) | with_reducible refine Ext.tr ?_ (up_ext (by assumption)) | with_reducible refine Ext.of (by assumption) ?_)⟩

theorem drop_any (n : Int) (w : World) : Calls Try.prog 50 #[.int .u8 n] w (CloPost 60 n w) := by
  go_enter Try.func50, Try.ntmps50
  go_wp2
  go_ret
  exact ⟨w.heap.size, rfl, by simp [go_sem], by simp [go_sem], by repeat (first | with_reducible exact Ext.rf _ | with_reducible assumption | with_reducible refine Ext.al ?_ _ | with_reducible refine Ext.dr ?_ | with_reducible refine Ext.dn ?_ _ | ((with_reducible refine Ext.st _ ?_ ?_); focus (first | omega | (simp; omega) | simp)) | with_reducible refine Ext.tr ?_ (by assumption) | with_reducible refine Ext.tr ?_ (up_ext (by assumption)) | with_reducible refine Ext.of (by assumption) ?_)⟩

set_option maxHeartbeats 1000000 in
theorem send1_any (m : Md) (k f g : Int) (s n r : Bool) (x : Int) (b : Nat) (w : World) (hL : Lt b w) (hx : w.cell? ⟨b, 0, none⟩ = some (.int .u8 x)) :
    Calls Try.prog 61 #[m.v, av k f g s n r, .pointer (some ⟨b, 0, none⟩)] w fun e w' => e = .returned (cv 3 0 x m.p m.g) ∧ Ext w w' := by
  go_enter Try.func61, Try.ntmps61
  go_wp2_with (fail)
  all_goals first
    | (refine bodyPost_ret (v := cv 3 0 x m.p m.g) ?_ rfl ⟨?_, ?_⟩
       · (simp [results, Try.results61, go_sem, *]; done)
       · (rfl)
       · (repeat (first | with_reducible exact Ext.rf _ | with_reducible assumption | with_reducible refine Ext.al ?_ _ | with_reducible refine Ext.dr ?_ | with_reducible refine Ext.dn ?_ _ | ((with_reducible refine Ext.st _ ?_ ?_); focus (first | omega | (simp; omega) | simp)) | with_reducible refine Ext.tr ?_ (by assumption) | with_reducible refine Ext.tr ?_ (up_ext (by assumption)) | with_reducible refine Ext.of (by assumption) ?_)))

set_option maxHeartbeats 1000000 in
theorem drop1_any (m : Md) (k f g : Int) (s n r : Bool) (x : Int) (b : Nat) (w : World) (hL : Lt b w) (hx : w.cell? ⟨b, 0, none⟩ = some (.int .u8 x)) :
    Calls Try.prog 60 #[m.v, av k f g s n r, .pointer (some ⟨b, 0, none⟩)] w fun e w' => e = .returned (cv 0 x 0 0 0) ∧ Ext w w' := by
  go_enter Try.func60, Try.ntmps60
  go_wp2_with (fail)
  all_goals first
    | (refine bodyPost_ret (v := cv 0 x 0 0 0) ?_ rfl ⟨?_, ?_⟩
       · (simp [results, Try.results60, go_sem, *]; done)
       · (rfl)
       · (repeat (first | with_reducible exact Ext.rf _ | with_reducible assumption | with_reducible refine Ext.al ?_ _ | with_reducible refine Ext.dr ?_ | with_reducible refine Ext.dn ?_ _ | ((with_reducible refine Ext.st _ ?_ ?_); focus (first | omega | (simp; omega) | simp)) | with_reducible refine Ext.tr ?_ (by assumption) | with_reducible refine Ext.tr ?_ (up_ext (by assumption)) | with_reducible refine Ext.of (by assumption) ?_)))

def acceptC (r : Bool) : Int := if r then 2 else 0
def acceptW (r : Bool) : Int := if r then 0 else 18

set_option maxHeartbeats 1000000 in
theorem accept_any (m : Md) (k f g : Int) (s n r : Bool) (w : World) :
    Calls Try.prog 57 #[m.v, av k f g s n r] w fun e w' => e = .returned (cv (acceptC r) (acceptW r) 0 0 0) ∧ Ext w w' := by
  cases r
  · go_enter Try.func57, Try.ntmps57
    go_wp2
    refine wp_named ?_
    intro W hc hf hl hz hW
    (have hEw : Ext w W := Ext.of (w := w) hW (by repeat (first | with_reducible exact Ext.rf _ | with_reducible assumption | with_reducible refine Ext.al ?_ _ | with_reducible refine Ext.dr ?_ | with_reducible refine Ext.dn ?_ _ | ((with_reducible refine Ext.st _ ?_ ?_); focus (first | omega | (simp; omega) | simp)) | with_reducible refine Ext.tr ?_ (by assumption) | with_reducible refine Ext.tr ?_ (up_ext (by assumption)) | with_reducible refine Ext.of (by assumption) ?_))); go_region_held3 (UpE (w.heap.size + 1 + 1) w W) (first | with_reducible exact UpE.start (by assumption) | with_reducible exact UpE.next (by assumption) (by assumption) | ((repeat ((with_reducible refine UpE.st _ ?_ ?_); focus (first | omega | (simp; omega) | simp))); with_reducible assumption)) (first | (go_at_call 50; (with_reducible refine (drop_any _ _).mono ?_); rintro e w' ⟨bq, rfl, hLq, hxq, hb⟩; obtain ⟨hcq, hfq, hlq, hzq, -⟩ := kept hb; try simp at hzq) | (go_at_call 60; (with_reducible refine (drop1_any ⟨_, _, _, _⟩ _ _ _ _ _ _ _ _ _ hLq hxq).mono ?_); rintro e w' ⟨rfl, hb⟩; obtain ⟨hcr, hfr, hlr, hzr, -⟩ := kept hb; try simp at hzr))
    all_goals
      go_wp2
      refine bodyPost_ret (v := cv 0 18 0 0 0) ?_ rfl ⟨rfl, ?_⟩
      · (simp [results, Try.results57, go_sem, *]; done)
      · (repeat (first | with_reducible exact Ext.rf _ | with_reducible assumption | with_reducible refine Ext.al ?_ _ | with_reducible refine Ext.dr ?_ | with_reducible refine Ext.dn ?_ _ | ((with_reducible refine Ext.st _ ?_ ?_); focus (first | omega | (simp; omega) | simp)) | with_reducible refine Ext.tr ?_ (by assumption) | with_reducible refine Ext.tr ?_ (up_ext (by assumption)) | with_reducible refine Ext.of (by assumption) ?_))
  · go_enter Try.func57, Try.ntmps57
    go_wp2
    refine bodyPost_ret (v := cv 2 0 0 0 0) ?_ rfl ⟨rfl, ?_⟩
    · (simp [results, Try.results57, go_sem, *]; done)
    · (repeat (first | with_reducible exact Ext.rf _ | with_reducible assumption | with_reducible refine Ext.al ?_ _ | with_reducible refine Ext.dr ?_ | with_reducible refine Ext.dn ?_ _ | ((with_reducible refine Ext.st _ ?_ ?_); focus (first | omega | (simp; omega) | simp)) | with_reducible refine Ext.tr ?_ (by assumption) | with_reducible refine Ext.tr ?_ (up_ext (by assumption)) | with_reducible refine Ext.of (by assumption) ?_))

/-- An action, as five numbers. -/
structure Ac where
  d : Int
  x : Int
  k : Int
  t : Int
  g : Int
  deriving DecidableEq
abbrev Ac.v (c : Ac) : Value := cv c.d c.x c.k c.t c.g
def acceptA (r : Bool) : Ac := ⟨acceptC r, acceptW r, 0, 0, 0⟩
def dropA (why : Int) : Ac := ⟨0, why, 0, 0, 0⟩
def bounceOk (m : Md) (f g : Int) : Bool := decide (m.g ≤ g) && decide (0 ≤ f) && decide (f < 6)
def bounceA (m : Md) (f g : Int) : Ac := if bounceOk m f g then ⟨3, 0, 4, f, g⟩ else dropA 17
def mineA (m : Md) (g : Int) (r : Bool) : Ac := if g == m.g then acceptA r else dropA 17

theorem ret_ac {c c' : Ac} (h : c = c') : Ending.returned c.v = .returned c'.v := by rw [h]

set_option maxHeartbeats 1000000 in
theorem bounce_any (m : Md) (k f g : Int) (s n r : Bool) (w : World) :
    Calls Try.prog 58 #[m.v, av k f g s n r] w fun e w' => e = .returned (bounceA m f g).v ∧ Ext w w' := by
  cases hb0 : bounceOk m f g
  · have HB := Lib.hid hb0
    clear hb0
    go_enter Try.func58, Try.ntmps58
    go_wp2
    all_goals (try (exfalso; have := HB.out; unfold bounceOk at this; grind))
    all_goals
      refine wp_named ?_
      intro W hc hf hl hz hW
      (have hEw : Ext w W := Ext.of (w := w) hW (by repeat (first | with_reducible exact Ext.rf _ | with_reducible assumption | with_reducible refine Ext.al ?_ _ | with_reducible refine Ext.dr ?_ | with_reducible refine Ext.dn ?_ _ | ((with_reducible refine Ext.st _ ?_ ?_); focus (first | omega | (simp; omega) | simp)) | with_reducible refine Ext.tr ?_ (by assumption) | with_reducible refine Ext.tr ?_ (up_ext (by assumption)) | with_reducible refine Ext.of (by assumption) ?_))); go_region_held3 (UpE (w.heap.size + 1 + 1) w W) (first | with_reducible exact UpE.start (by assumption) | with_reducible exact UpE.next (by assumption) (by assumption) | ((repeat ((with_reducible refine UpE.st _ ?_ ?_); focus (first | omega | (simp; omega) | simp))); with_reducible assumption)) (first | (go_at_call 50; (with_reducible refine (drop_any _ _).mono ?_); rintro e w' ⟨bq, rfl, hLq, hxq, hb⟩; obtain ⟨hcq, hfq, hlq, hzq, -⟩ := kept hb; try simp at hzq) | (go_at_call 60; (with_reducible refine (drop1_any ⟨_, _, _, _⟩ _ _ _ _ _ _ _ _ _ hLq hxq).mono ?_); rintro e w' ⟨rfl, hb⟩; obtain ⟨hcr, hfr, hlr, hzr, -⟩ := kept hb; try simp at hzr))
      all_goals
        go_wp2
        refine bodyPost_ret (v := (dropA 17).v) ?_ rfl ⟨ret_ac (by unfold bounceA; rw [HB.out]; rfl), ?_⟩
        · (simp [results, Try.results58, go_sem, dropA, *]; done)
        · (repeat (first | with_reducible exact Ext.rf _ | with_reducible assumption | with_reducible refine Ext.al ?_ _ | with_reducible refine Ext.dr ?_ | with_reducible refine Ext.dn ?_ _ | ((with_reducible refine Ext.st _ ?_ ?_); focus (first | omega | (simp; omega) | simp)) | with_reducible refine Ext.tr ?_ (by assumption) | with_reducible refine Ext.tr ?_ (up_ext (by assumption)) | with_reducible refine Ext.of (by assumption) ?_))
  · have HB := Lib.hid hb0
    have h1 : m.g ≤ g := by unfold bounceOk at hb0; grind
    have h2 : 0 ≤ f := by unfold bounceOk at hb0; grind
    have h3 : f < 6 := by unfold bounceOk at hb0; grind
    clear hb0
    go_enter Try.func58, Try.ntmps58
    go_wp2
    refine bodyPost_ret (v := (⟨3, 0, 4, f, g⟩ : Ac).v) ?_ rfl ⟨ret_ac (by unfold bounceA; rw [HB.out]; rfl), ?_⟩
    · (simp [results, Try.results58, go_sem, *]; done)
    · (repeat (first | with_reducible exact Ext.rf _ | with_reducible assumption | with_reducible refine Ext.al ?_ _ | with_reducible refine Ext.dr ?_ | with_reducible refine Ext.dn ?_ _ | ((with_reducible refine Ext.st _ ?_ ?_); focus (first | omega | (simp; omega) | simp)) | with_reducible refine Ext.tr ?_ (by assumption) | with_reducible refine Ext.tr ?_ (up_ext (by assumption)) | with_reducible refine Ext.of (by assumption) ?_))

set_option maxHeartbeats 1000000 in
theorem mine_any (m : Md) (k f g : Int) (s n r : Bool) (w : World) :
    Calls Try.prog 59 #[m.v, av k f g s n r] w fun e w' => e = .returned (mineA m g r).v ∧ Ext w w' := by
  cases hb0 : (g == m.g)
  · have HB := Lib.hid hb0
    go_enter Try.func59, Try.ntmps59
    go_wp2
    refine wp_named ?_
    intro W hc hf hl hz hW
    (have hEw : Ext w W := Ext.of (w := w) hW (by repeat (first | with_reducible exact Ext.rf _ | with_reducible assumption | with_reducible refine Ext.al ?_ _ | with_reducible refine Ext.dr ?_ | with_reducible refine Ext.dn ?_ _ | ((with_reducible refine Ext.st _ ?_ ?_); focus (first | omega | (simp; omega) | simp)) | with_reducible refine Ext.tr ?_ (by assumption) | with_reducible refine Ext.tr ?_ (up_ext (by assumption)) | with_reducible refine Ext.of (by assumption) ?_))); go_region_held3 (UpE (w.heap.size + 1 + 1) w W) (first | with_reducible exact UpE.start (by assumption) | with_reducible exact UpE.next (by assumption) (by assumption) | ((repeat ((with_reducible refine UpE.st _ ?_ ?_); focus (first | omega | (simp; omega) | simp))); with_reducible assumption)) (first | (go_at_call 50; (with_reducible refine (drop_any _ _).mono ?_); rintro e w' ⟨bq, rfl, hLq, hxq, hb⟩; obtain ⟨hcq, hfq, hlq, hzq, -⟩ := kept hb; try simp at hzq) | (go_at_call 60; (with_reducible refine (drop1_any ⟨_, _, _, _⟩ _ _ _ _ _ _ _ _ _ hLq hxq).mono ?_); rintro e w' ⟨rfl, hb⟩; obtain ⟨hcr, hfr, hlr, hzr, -⟩ := kept hb; try simp at hzr))
    all_goals
      go_wp2
      refine bodyPost_ret (v := (dropA 17).v) ?_ rfl ⟨ret_ac (by unfold mineA; rw [HB.out]; rfl), ?_⟩
      · (simp [results, Try.results59, go_sem, dropA, *]; done)
      · (repeat (first | with_reducible exact Ext.rf _ | with_reducible assumption | with_reducible refine Ext.al ?_ _ | with_reducible refine Ext.dr ?_ | with_reducible refine Ext.dn ?_ _ | ((with_reducible refine Ext.st _ ?_ ?_); focus (first | omega | (simp; omega) | simp)) | with_reducible refine Ext.tr ?_ (by assumption) | with_reducible refine Ext.tr ?_ (up_ext (by assumption)) | with_reducible refine Ext.of (by assumption) ?_))
  · have HB := Lib.hid hb0
    go_enter Try.func59, Try.ntmps59
    go_wp2_with (first | (go_at_call 57; (with_reducible refine (accept_any ⟨_, _, _, _⟩ _ _ _ _ _ _ _).mono ?_); rintro e w' ⟨rfl, hb⟩; obtain ⟨hc, hf, hl, hz, -⟩ := kept hb; try simp at hz))
    refine bodyPost_ret (v := (acceptA r).v) ?_ rfl ⟨ret_ac (by unfold mineA; rw [HB.out]; rfl), ?_⟩
    · (simp [results, Try.results59, go_sem, acceptA, *]; done)
    · (repeat (first | with_reducible exact Ext.rf _ | with_reducible assumption | with_reducible refine Ext.al ?_ _ | with_reducible refine Ext.dr ?_ | with_reducible refine Ext.dn ?_ _ | ((with_reducible refine Ext.st _ ?_ ?_); focus (first | omega | (simp; omega) | simp)) | with_reducible refine Ext.tr ?_ (by assumption) | with_reducible refine Ext.tr ?_ (up_ext (by assumption)) | with_reducible refine Ext.of (by assumption) ?_))

def knownM (m : Md) : Md := if m.right then m else ⟨0, 0, 0, false⟩
theorem ret_md {m m' : Md} (h : m = m') : Ending.returned m.v = .returned m'.v := by rw [h]

set_option maxHeartbeats 1000000 in
theorem known_any (m : Md) (w : World) (h0 : 0 ≤ m.k) :
    Calls Try.prog 48 #[m.v] w fun e w' => e = .returned ((knownM m).v) ∧ Ext w w' := by
  go_enter Try.func48, Try.ntmps48
  go_wp2_with ((go_at_call 24; (with_reducible refine (right_md m _ (by assumption)).mono ?_); rintro e w' ⟨rfl, hb⟩; obtain ⟨hc, hf, hl, hz, -⟩ := kept hb; try simp at hz))
  all_goals first
    | (refine bodyPost_ret (v := m.v) ?_ rfl ⟨?_, ?_⟩
       · (simp [results, Try.results48, go_sem, *]; done)
       · (refine ret_md ?_; grind [knownM])
       · (repeat (first | with_reducible exact Ext.rf _ | with_reducible assumption | with_reducible refine Ext.al ?_ _ | with_reducible refine Ext.dr ?_ | with_reducible refine Ext.dn ?_ _ | ((with_reducible refine Ext.st _ ?_ ?_); focus (first | omega | (simp; omega) | simp)) | with_reducible refine Ext.tr ?_ (by assumption) | with_reducible refine Ext.tr ?_ (up_ext (by assumption)) | with_reducible refine Ext.of (by assumption) ?_)))
    | (refine bodyPost_ret (v := (⟨0, 0, 0, false⟩ : Md).v) ?_ rfl ⟨?_, ?_⟩
       · (simp [results, Try.results48, go_sem, *]; done)
       · (refine ret_md ?_; grind [knownM])
       · (repeat (first | with_reducible exact Ext.rf _ | with_reducible assumption | with_reducible refine Ext.al ?_ _ | with_reducible refine Ext.dr ?_ | with_reducible refine Ext.dn ?_ _ | ((with_reducible refine Ext.st _ ?_ ?_); focus (first | omega | (simp; omega) | simp)) | with_reducible refine Ext.tr ?_ (by assumption) | with_reducible refine Ext.tr ?_ (up_ext (by assumption)) | with_reducible refine Ext.of (by assumption) ?_)))

set_option maxHeartbeats 1000000 in
theorem rknown_any (m : Md) (w : World) (h0 : 0 ≤ m.k) :
    Calls Try.prog 47 #[m.v] w fun e w' => e = .returned ((knownM m).v) ∧ Ext w w' := by
  go_enter Try.func47, Try.ntmps47
  go_wp2_with ((go_at_call 25; (with_reducible refine (rright_md m _ (by assumption)).mono ?_); rintro e w' ⟨rfl, hb⟩; obtain ⟨hc, hf, hl, hz, -⟩ := kept hb; try simp at hz))
  all_goals first
    | (refine bodyPost_ret (v := m.v) ?_ rfl ⟨?_, ?_⟩
       · (simp [results, Try.results47, go_sem, *]; done)
       · (refine ret_md ?_; grind [knownM])
       · (repeat (first | with_reducible exact Ext.rf _ | with_reducible assumption | with_reducible refine Ext.al ?_ _ | with_reducible refine Ext.dr ?_ | with_reducible refine Ext.dn ?_ _ | ((with_reducible refine Ext.st _ ?_ ?_); focus (first | omega | (simp; omega) | simp)) | with_reducible refine Ext.tr ?_ (by assumption) | with_reducible refine Ext.tr ?_ (up_ext (by assumption)) | with_reducible refine Ext.of (by assumption) ?_)))
    | (refine bodyPost_ret (v := (⟨0, 0, 0, false⟩ : Md).v) ?_ rfl ⟨?_, ?_⟩
       · (simp [results, Try.results47, go_sem, *]; done)
       · (refine ret_md ?_; grind [knownM])
       · (repeat (first | with_reducible exact Ext.rf _ | with_reducible assumption | with_reducible refine Ext.al ?_ _ | with_reducible refine Ext.dr ?_ | with_reducible refine Ext.dn ?_ _ | ((with_reducible refine Ext.st _ ?_ ?_); focus (first | omega | (simp; omega) | simp)) | with_reducible refine Ext.tr ?_ (by assumption) | with_reducible refine Ext.tr ?_ (up_ext (by assumption)) | with_reducible refine Ext.of (by assumption) ?_)))


end Go.Proofs.Ytnceijlphinnhaa
