/- Connections: Find, Room. -/
import Derived.Test.YtookffaojlkfaaaC3
import Derived.Shelf.Abstract
set_option linter.unusedSimpArgs false
set_option linter.unusedVariables false
namespace Go.Proofs.Ytookffaojlkfaaa
open Go.RowKit

def eqT (s t : Tu) : Bool := s.a == t.a && s.b == t.b && s.c == t.c && s.d == t.d
theorem eqT_iff {s t : Tu} : eqT s t = true ↔ s = t := by
  constructor
  · intro h
    unfold eqT at h
    simp only [Bool.and_eq_true, beq_iff_eq] at h
    cases s; cases t; simp_all
  · rintro rfl; unfold eqT; simp
@[go_sem ↓ high] theorem eq_tu (a b c d a' b' c' d' : Int) (w : World) :
    (binOp .eql 26 (tu a b c d) (tu a' b' c' d')).run Try.prog w = .ok (.bool (a == a' && b == b' && c == c' && d == d')) w := by
  go_simp
  by_cases h1 : a = a' <;> by_cases h2 : b = b' <;> by_cases h3 : c = c' <;> by_cases h4 : d = d' <;> simp [*]
/-- A block holds a tuple. -/
def TuAt (w : World) (b : Nat) (t : Tu) : Prop := rowD w b = #[.int .u32 t.a, .int .u32 t.b, .int .u16 t.c, .int .u16 t.d] ∧ Lt b w
theorem TuAt.cells {w : World} {b : Nat} {t : Tu} (h : TuAt w b t) : w.cell? ⟨b, 0, none⟩ = some (.int .u32 t.a) ∧ w.cell? ⟨b, 1, none⟩ = some (.int .u32 t.b) ∧ w.cell? ⟨b, 2, none⟩ = some (.int .u16 t.c) ∧ w.cell? ⟨b, 3, none⟩ = some (.int .u16 t.d) := by
  refine ⟨?_, ?_, ?_, ?_⟩ <;> rw [cell_rowD, h.1] <;> rfl
theorem TuAt.ext {w w' : World} {b : Nat} {t : Tu} (h : TuAt w b t) (e : Ext w w') : TuAt w' b t := ⟨by rw [rowD_same (e.block b h.2)]; exact h.1, Nat.lt_of_lt_of_le h.2 e.size⟩
def geT (t : Tu) (x : Co) : Bool := decide (0 ≤ cmpT x.t t)
set_option maxHeartbeats 1000000 in
theorem find1_any (x : Co) (t : Tu) (b : Nat) (w : World) (ht : TuAt w b t) :
    Calls Try.prog 62 #[.agg #[.int .u32 x.t.a, .int .u32 x.t.b, .int .u16 x.t.c, .int .u16 x.t.d, .int .i64 x.s, .int .i64 x.l], .pointer (some ⟨b, 0, none⟩)] w fun e w' => e = .returned (.bool (geT t x)) ∧ Ext w w' := by
  obtain ⟨c0, c1, c2, c3⟩ := ht.cells
  have lb : Lt b w := ht.2
  clear ht
  go_enter Try.func62, Try.ntmps62
  go_wp2_with (go_at_call 63; (with_reducible refine (cmp_any x.t t _).mono ?_); rintro e w' ⟨rfl, hb⟩)
  go_ret
  refine ⟨rfl, ?_⟩
  (repeat (first | with_reducible exact Ext.rf _ | with_reducible assumption | with_reducible refine Ext.al ?_ _ | with_reducible refine Ext.dr ?_ | with_reducible refine Ext.dn ?_ _ | ((with_reducible refine Ext.st _ ?_ ?_); focus (first | omega | (simp; omega) | simp)) | with_reducible refine Ext.tr ?_ (by assumption) | with_reducible refine Ext.tr ?_ (up_ext (by assumption)) | with_reducible refine Ext.of (by assumption) ?_))
theorem find1_cl (x : Co) (t : Tu) (b : Nat) (w : World) (ht : TuAt w b t) :
    Calls Try.prog 62 (#[.agg #[.int .u32 x.t.a, .int .u32 x.t.b, .int .u16 x.t.c, .int .u16 x.t.d, .int .i64 x.s, .int .i64 x.l]] ++ #[.pointer (some ⟨b, 0, none⟩)]) w fun e w' => e = .returned (.bool (geT t x)) ∧ Ext w w' := by
  rw [show (#[Value.agg #[.int .u32 x.t.a, .int .u32 x.t.b, .int .u16 x.t.c, .int .u16 x.t.d, .int .i64 x.s, .int .i64 x.l]] ++ #[Value.pointer (some ⟨b, 0, none⟩)] : Array Value) = #[.agg #[.int .u32 x.t.a, .int .u32 x.t.b, .int .u16 x.t.c, .int .u16 x.t.d, .int .i64 x.s, .int .i64 x.l], .pointer (some ⟨b, 0, none⟩)] from rfl]
  exact find1_any x t b w ht
def atC (xs : List Co) (t : Tu) : Nat := xs.findIdx (geT t)
def okC (xs : List Co) (t : Tu) : Bool := match xs[atC xs t]? with | some x => eqT x.t t | none => false
theorem idx_at (pr : Co → Bool) (xs : List Co) (h : xs.any pr = true) : idx pr xs = (xs.findIdx pr : Nat) ∧ xs.findIdx pr < xs.length := by
  unfold idx
  rw [if_pos h]
  refine ⟨rfl, ?_⟩
  obtain ⟨x, hx, hp⟩ := List.any_eq_true.1 h
  exact List.findIdx_lt_length_of_exists ⟨x, hx, hp⟩
theorem idx_no (pr : Co → Bool) (xs : List Co) (h : xs.any pr = false) : idx pr xs = -1 ∧ xs.findIdx pr = xs.length := by
  unfold idx
  rw [if_neg (by rw [h]; decide)]
  refine ⟨rfl, ?_⟩
  rw [List.findIdx_eq_length]
  intro x hx
  cases hp : pr x
  · rfl
  · have : xs.any pr = true := List.any_eq_true.2 ⟨x, hx, hp⟩
    rw [this] at h; cases h
theorem enters_find1 : ∀ args w, (callFunc 62 args).run Try.prog w = .ok (.enter 62 args) w := enters_of Try.func62 (by kernel_rfl) rfl
set_option maxRecDepth 20000 in
set_option maxHeartbeats 2000000 in
theorem find_any (t : Tu) (p : Option Addr) (xs : List Co) (c : Nat) (w : World) (hs : SlC w p xs) (hl : xs.length ≤ 1000) :
    Calls Try.prog 24 #[.slice p xs.length c, tu t.a t.b t.c t.d] w fun e w' => e = .returned (.tuple #[.int .i64 (atC xs t), .bool (okC xs t)]) ∧ Ext w w' := by
  go_enter Try.func24, Try.ntmps24
  go_upto_region 1 with (fail)
  obtain ⟨W0, hW⟩ : ∃ W0, w.alloc (.cells #[.int .u32 t.a, .int .u32 t.b, .int .u16 t.c, .int .u16 t.d] 26) = W0 := ⟨_, rfl⟩
  have e0 : Ext w W0 := by rw [← hW]; exact Ext.al (Ext.rf _) _
  have s0 := hs.ext e0
  have ht : TuAt W0 w.heap.size t := by rw [← hW]; unfold TuAt; simp [go_sem, Lt]
  rw [hW]
  clear hW hs
  generalize w.heap.size = B at *
  go_upto_region 2 with (go_at_call 61; go_must (with_reducible refine (indexFunc_C 62 #[.pointer (some ⟨B, 0, none⟩)] enters_find1 (geT t) p xs c _ s0 hl (fun x W _ hE => find1_cl x t B W (ht.ext hE))).mono ?_); rintro e W1 ⟨rfl, h1⟩)
  have ht := ht.ext h1
  have s0 := s0.ext h1
  have e1 := e0.tr h1
  cases ha : xs.any (geT t)
  · obtain ⟨i1, i2⟩ := idx_no _ _ ha
    have HR := Lib.hid (show (Value.tuple #[.int .i64 (atC xs t), .bool (okC xs t)]) = .tuple #[.int .i64 xs.length, .bool false] by
      have hat : atC xs t = xs.length := i2
      unfold okC; rw [hat]; simp)
    rw [i1]
    clear i2 ha h1 e0 i1
    go_wp2
    exact bodyPost_ret (v := .tuple #[.int .i64 xs.length, .bool false]) (by simp [results, Try.results24, go_sem]) rfl ⟨by rw [HR.out], e1⟩
  · obtain ⟨i1, i2⟩ := idx_at _ _ ha
    obtain ⟨k, hk⟩ : ∃ k, xs.findIdx (geT t) = k := ⟨_, rfl⟩
    rw [hk] at i1 i2
    obtain ⟨b, off, rfl, hb, c0, c1, c2, c3, c4, c5⟩ := s0 k i2
    have lb : Lt b W1 := hb
    obtain ⟨x, hx⟩ : ∃ x, xs[k] = x := ⟨_, rfl⟩
    rw [hx] at c0 c1 c2 c3 c4 c5
    have HR := Lib.hid (show (Value.tuple #[.int .i64 (atC xs t), .bool (okC xs t)]) = .tuple #[.int .i64 k, .bool (x.t.a == t.a && x.t.b == t.b && x.t.c == t.c && x.t.d == t.d)] by
      have hat : atC xs t = k := hk
      unfold okC; rw [hat, List.getElem?_eq_getElem i2, hx]; rfl)
    rw [i1]
    have hkl : (k : Int) < xs.length := by omega
    obtain ⟨d0, d1, d2, d3⟩ := ht.cells
    have lB : Lt B W1 := ht.2
    clear hx hk i1 ha h1 e0 ht s0
    go_wp2
    refine wp_region_later (by kernel_rfl) (by kernel_rfl) ?_; (repeat (go_big_quiet_step (fail))); refine wpQuiet_nil ?_; intro d
    have hd := later_ext d
    go_wp2
    exact bodyPost_ret (v := .tuple #[.int .i64 k, .bool (x.t.a == t.a && x.t.b == t.b && x.t.c == t.c && x.t.d == t.d)]) (by simp [results, Try.results24, go_sem]) rfl ⟨by rw [HR.out], e1.tr hd⟩
theorem room_any (p : Option Addr) (n c : Nat) (w : World) :
    Calls Try.prog 28 #[.slice p n c] w fun e w' => e = .returned (.bool (decide ((n : Int) < 32))) ∧ w = w' := by
  go_enter Try.func28, Try.ntmps28
  go_wp2
  go_ret
  exact ⟨ret_bool (by simp), rfl⟩

end Go.Proofs.Ytookffaojlkfaaa
