/- ModeRises returns true: for any mode that is data, any list of what is told. -/
import Derived.Test.YtnceijlphinnhaaK3
namespace Go.Proofs.Ytnceijlphinnhaa
open Go.ChangeShapes Go.WideShapes Go.ChangeAt Go.RowKit

theorem Tolds.at {w : World} {b off n : Nat} {T : Nat → Int × Int × Int} (h : Tolds w (some ⟨b, off, none⟩) n T) {i : Nat} (hi : i < n) :
    Lt b w ∧ w.cell? ⟨b, off + i * 3, none⟩ = some (.int .i64 (T i).1) ∧ w.cell? ⟨b, off + i * 3 + 1, none⟩ = some (.int .i64 (T i).2.1) ∧ w.cell? ⟨b, off + i * 3 + 2, none⟩ = some (.int .i64 (T i).2.2) := by
  obtain ⟨b', off', he, h1⟩ := h.2 i hi
  simp only [Option.some.injEq, Addr.mk.injEq, and_true] at he
  obtain ⟨rfl, rfl⟩ := he
  exact h1

def RelR (w : World) (nb : Nat) (n : Nat) (x : Value) (wr : World) : Prop :=
  ∃ (now : Md) (i : Nat), i ≤ n ∧ x = .int .i64 i ∧ 0 ≤ now.k ∧ now.right = true ∧ Ext w wr ∧ At wr nb now
def RelK (w : World) (nb : Nat) (o : Md) (i : Nat) (x : Value) (wr : World) : Prop :=
  ∃ (k : Nat), k ≤ i + 1 ∧ x = .int .i64 k ∧ Ext w wr ∧ At wr nb o

/-- Behind the call: a block that holds o, and whether it was done; the mode ahead lies where it lay. -/
def CutA (w : World) (nb : Nat) (now o : Md) (done : Bool) (s7 s8 : Value) (wx : World) : Prop :=
  ∃ g : Nat, s7 = .pointer (some ⟨g, 0, none⟩) ∧ s8 = .bool done ∧ Ext w wx ∧ At wx nb now ∧ At wx g o
def CutB (w : World) (nb g : Nat) (now o : Md) (done : Bool) (s8 s : Value) (wx : World) : Prop := s8 = .bool done ∧ s = .bool false ∧ Ext w wx ∧ At wx nb now ∧ At wx g o

theorem does_same (m : Md) (d g t : Int) (h : doesB m d g t = false) : does m d g t = m := by
  unfold doesB at h
  unfold does
  split at h
  · rw [if_pos ‹_›]; exact grant_no m g t h
  · rw [if_neg ‹_›]
    split at h
    · rw [if_pos ‹_›]; exact drain_no m g t h
    · rw [if_neg ‹_›]; unfold retire; rw [h]; rfl

theorem does_turn (m : Md) (d g t : Int) (h : doesB m d g t = true) :
    (does m d g t).right = true ∧ (does m d g t).g = g ∧ m.g ≤ (does m d g t).g ∧ ((does m d g t).g = m.g → (does m d g t).k = 3 ∧ (does m d g t).r = true ∧ (does m d g t).p = m.p) ∧
      ((does m d g t).k == m.k && (does m d g t).p == m.p && (does m d g t).g == m.g && (does m d g t).r == m.r) = false := by
  unfold doesB at h
  unfold does
  split at h
  · rw [if_pos ‹_›, grant_yes m g t h]
    have h2 := (grantB_iff m g t).1 h
    have h3 : (grantM g t).right = true := by unfold grantB newerB at h; grind
    refine ⟨h3, rfl, by simp [grantM]; omega, by simp [grantM]; omega, by simp [grantM]; grind⟩
  · rw [if_neg ‹_›]
    split at h
    · rw [if_pos ‹_›]
      have h2 := (drainB_iff m g t).1 h
      have h3 := drain_right m g t h
      rw [drain_yes m g t h] at h3 ⊢
      refine ⟨h3, rfl, by simp [drainM]; omega, by simp [drainM]; omega, by simp [drainM]; grind⟩
    · rw [if_neg ‹_›]
      unfold retire
      rw [if_pos h]
      unfold retireB at h
      simp only [Bool.and_eq_true, beq_iff_eq, Bool.not_eq_true'] at h
      obtain ⟨⟨⟨h1, h2⟩, h3⟩, h4⟩ := h
      refine ⟨?_, h3, by simp, fun _ => ⟨h2, rfl, rfl⟩, by simp [h4]⟩
      simp only [Md.right, h2] at h1 ⊢
      grind [rightB]

theorem does_again (m : Md) (d g t : Int) (h1 : ¬ (d ≠ 0 ∧ d ≠ 1 ∧ g = m.g)) (h2 : g ≤ m.g) : doesB m d g t = false := by
  unfold doesB
  split
  · cases h : grantB m g t
    · rfl
    · have := (grantB_iff m g t).1 h; omega
  · split
    · cases h : drainB m g t
      · rfl
      · have := (drainB_iff m g t).1 h; omega
    · unfold retireB; grind

set_option maxRecDepth 100000 in
set_option maxHeartbeats 8000000 in
theorem modeRises_yes (m : Md) (a : Option Addr) (n cap : Nat) (T : Nat → Int × Int × Int) (w : World) (h0 : 0 ≤ m.k) (hT : Tolds w a n T) (hn : n ≤ 30) (hr : m.right = true) :
    Calls Try.prog 4 #[m.v, .slice a n cap] w fun e w' => e = .returned (.bool true) ∧ Ext w w' := by
  have HT := Lib.hid hT
  clear hT
  go_enter Try.func4, Try.ntmps4
  go_wp2_with (first | (go_at_call 25; (with_reducible refine (rright_md m _ h0).mono ?_); rintro e w1 ⟨rfl, hbw1⟩; obtain ⟨hcw1, hfw1, hlw1, hzw1, -⟩ := kept hbw1; try simp at hzw1) | (go_at_call 28; (with_reducible refine (wakes_any _).mono ?_); rintro e w3 ⟨rfl, hbw3⟩; obtain ⟨hcw3, hfw3, hlw3, hzw3, -⟩ := kept hbw3; try simp at hzw3))
  go_loopw [6] (fun x wr => RelR w w1.heap.size n x wr) (fun x _ => n - (intOf x).toNat)
  case atStart =>
    refine ⟨m, 0, by omega, rfl, h0, hr, by repeat (first | with_reducible exact Ext.rf _ | with_reducible assumption | with_reducible refine Ext.al ?_ _ | with_reducible refine Ext.dr ?_ | with_reducible refine Ext.dn ?_ _ | ((with_reducible refine Ext.st _ ?_ ?_); focus (first | omega | (simp; omega) | simp)) | with_reducible refine Ext.tr ?_ (by assumption) | with_reducible refine Ext.tr ?_ (up_ext (by assumption)) | with_reducible refine Ext.of (by assumption) ?_), by simp [go_sem], ?_⟩
    simp [go_sem]
  case round =>
    obtain ⟨now, i, hi, rfl, hk0, hkr, hE, hL, c0, c1, c2, c3, f0, f1, f2, f3⟩ := hrel
    by_cases hlt : i < n
    · obtain ⟨b, off, rfl, -⟩ := HT.out.2 i hlt
      obtain ⟨hLb, t0, t1, t2⟩ := HT.out.at hlt
      have hn' := HT.out.1
      have i1 : (0 : Int) ≤ (i : Int) := by omega
      have i2 : (i : Int) < (n : Int) := by omega
      have u0 := (hE.cell (p := ⟨b, off + i * 3, none⟩) hLb).trans t0
      have u1 := (hE.cell (p := ⟨b, off + i * 3 + 1, none⟩) hLb).trans t1
      have u2 := (hE.cell (p := ⟨b, off + i * 3 + 2, none⟩) hLb).trans t2
      have hEs := hE.size
      have hLr : Lt b wr := Nat.lt_of_lt_of_le hLb hE.size
      clear t0 t1 t2
      have ht := Lib.hid (does_turn now (T i).1 (T i).2.1 (T i).2.2)
      have hs := Lib.hid (does_same now (T i).1 (T i).2.1 (T i).2.2)
      have hko := does_k now (T i).1 (T i).2.1 (T i).2.2 hk0
      obtain ⟨o, ho⟩ : ∃ o, o = does now (T i).1 (T i).2.1 (T i).2.2 := ⟨_, rfl⟩
      have HO := Lib.hid ho
      rw [← ho] at hs ht hko
      clear ho
      have hall : o.right = true ∧ now.g ≤ o.g := by
        cases hd : doesB now (T i).1 (T i).2.1 (T i).2.2
        · rw [hs.out hd]; exact ⟨hkr, by omega⟩
        · exact ⟨(ht.out hd).1, (ht.out hd).2.2.1⟩
      obtain ⟨hor, hog⟩ := hall
      go_upto_region 7 with (first | (go_at_call 25; (with_reducible refine (rright_md o _ hko).mono ?_); rintro e w4 ⟨rfl, hbw4⟩; obtain ⟨hcw4, hfw4, hlw4, hzw4, -⟩ := kept hbw4; try simp at hzw4) | (go_at_call 28; (with_reducible refine (wakes_any _).mono ?_); rintro e w8 ⟨rfl, hbw8⟩; obtain ⟨hcw8, hfw8, hlw8, hzw8, -⟩ := kept hbw8; try simp at hzw8))
      go_cut [7, 8] (fun s7 s8 wx => CutA w w1.heap.size now o (doesB now (T i).1 (T i).2.1 (T i).2.2) s7 s8 wx)
      case first =>
        clear hs ht
        refine wp_named ?_
        intro W hc hf hl hz hW
        go_region_held3 (Up W) (with_reducible refine up ?_; (repeat (first | with_reducible exact Ext.rf _ | with_reducible exact up_ext (by assumption) | with_reducible refine Ext.al ?_ _ | with_reducible refine Ext.dr ?_ | with_reducible refine Ext.dn ?_ _ | ((with_reducible refine Ext.st _ ?_ ?_); focus (first | omega | (simp; omega) | simp)) | with_reducible refine Ext.tr ?_ (by assumption)))) (first | (go_at_call 29; (with_reducible refine (does_any now _ _ _ _ hk0).mono ?_); rw [← HO.out]; rintro e w' ⟨rfl, hb⟩; obtain ⟨hcq, hfq, hlq, hzq, -⟩ := kept hb; try simp at hzq))
        all_goals
          go_wp2_with (fail)
          go_meet
        · refine ⟨_, rfl, rfl, by repeat (first | with_reducible exact Ext.rf _ | with_reducible assumption | with_reducible refine Ext.al ?_ _ | with_reducible refine Ext.dr ?_ | with_reducible refine Ext.dn ?_ _ | ((with_reducible refine Ext.st _ ?_ ?_); focus (first | omega | (simp; omega) | simp)) | with_reducible refine Ext.tr ?_ (by assumption) | with_reducible refine Ext.tr ?_ (up_ext (by assumption)) | with_reducible refine Ext.of (by assumption) ?_), ?_, ?_⟩ <;> (unfold At; go_simp)
        · refine ⟨_, rfl, rfl, by repeat (first | with_reducible exact Ext.rf _ | with_reducible assumption | with_reducible refine Ext.al ?_ _ | with_reducible refine Ext.dr ?_ | with_reducible refine Ext.dn ?_ _ | ((with_reducible refine Ext.st _ ?_ ?_); focus (first | omega | (simp; omega) | simp)) | with_reducible refine Ext.tr ?_ (by assumption) | with_reducible refine Ext.tr ?_ (up_ext (by assumption)) | with_reducible refine Ext.of (by assumption) ?_), ?_, ?_⟩ <;> (unfold At; go_simp)
      case rest =>
        obtain ⟨g, rfl, rfl, hE1, ⟨hL1, d0, d1, d2, d3, g0, g1, g2, g3⟩, ⟨hL2, x0, x1, x2, x3, y0, y1, y2, y3⟩⟩ := hcut
        have hLc : Lt b wc := Nat.lt_of_lt_of_le hLb hE1.size
        clear u0 u1 u2 hE hL c0 c1 c2 c3 f0 f1 f2 f3 hEs hLr
        have hEs := hE1.size
        go_upto_region 8 with (first | (go_at_call 25; (with_reducible refine (rright_md o _ hko).mono ?_); rintro e w4 ⟨rfl, hbw4⟩; obtain ⟨hcw4, hfw4, hlw4, hzw4, -⟩ := kept hbw4; try simp at hzw4) | (go_at_call 28; (with_reducible refine (wakes_any _).mono ?_); rintro e w8 ⟨rfl, hbw8⟩; obtain ⟨hcw8, hfw8, hlw8, hzw8, -⟩ := kept hbw8; try simp at hzw8))
        go_cut [8, 53] (fun s8 s wx => CutB w w1.heap.size g now o (doesB now (T i).1 (T i).2.1 (T i).2.2) s8 s wx)
        case first =>
          cases hd : doesB now (T i).1 (T i).2.1 (T i).2.2
          · have e1 := Lib.hid (hs.out hd)
            have e2 : (o.k == now.k && o.p == now.p && o.g == now.g && o.r == now.r) = true := by rw [e1.out]; simp
            clear hs ht
            go_wp2_with (first | (go_at_call 25; (with_reducible refine (rright_md o _ hko).mono ?_); rintro e w4 ⟨rfl, hbw4⟩; obtain ⟨hcw4, hfw4, hlw4, hzw4, -⟩ := kept hbw4; try simp at hzw4) | (go_at_call 28; (with_reducible refine (wakes_any _).mono ?_); rintro e w8 ⟨rfl, hbw8⟩; obtain ⟨hcw8, hfw8, hlw8, hzw8, -⟩ := kept hbw8; try simp at hzw8))
            go_meet
            refine ⟨by rw [hd], by first | rfl | (simp; omega), by repeat (first | with_reducible exact Ext.rf _ | with_reducible assumption | with_reducible refine Ext.al ?_ _ | with_reducible refine Ext.dr ?_ | with_reducible refine Ext.dn ?_ _ | ((with_reducible refine Ext.st _ ?_ ?_); focus (first | omega | (simp; omega) | simp)) | with_reducible refine Ext.tr ?_ (by assumption) | with_reducible refine Ext.tr ?_ (up_ext (by assumption)) | with_reducible refine Ext.of (by assumption) ?_), ?_, ?_⟩ <;> (unfold At; go_simp)
          · have e2 := (ht.out hd).2.2.2.2
            clear hs ht
            go_wp2_with (first | (go_at_call 25; (with_reducible refine (rright_md o _ hko).mono ?_); rintro e w4 ⟨rfl, hbw4⟩; obtain ⟨hcw4, hfw4, hlw4, hzw4, -⟩ := kept hbw4; try simp at hzw4) | (go_at_call 28; (with_reducible refine (wakes_any _).mono ?_); rintro e w8 ⟨rfl, hbw8⟩; obtain ⟨hcw8, hfw8, hlw8, hzw8, -⟩ := kept hbw8; try simp at hzw8))
            go_meet
            refine ⟨by rw [hd], by first | rfl | (simp; omega), by repeat (first | with_reducible exact Ext.rf _ | with_reducible assumption | with_reducible refine Ext.al ?_ _ | with_reducible refine Ext.dr ?_ | with_reducible refine Ext.dn ?_ _ | ((with_reducible refine Ext.st _ ?_ ?_); focus (first | omega | (simp; omega) | simp)) | with_reducible refine Ext.tr ?_ (by assumption) | with_reducible refine Ext.tr ?_ (up_ext (by assumption)) | with_reducible refine Ext.of (by assumption) ?_), ?_, ?_⟩ <;> (unfold At; go_simp)
        case rest =>
          clear hE1 hL1 d0 d1 d2 d3 g0 g1 g2 g3 hL2 x0 x1 x2 x3 y0 y1 y2 y3 hLc hEs
          obtain ⟨rfl, rfl, hE1, ⟨hL1, d0, d1, d2, d3, g0, g1, g2, g3⟩, ⟨hL2, x0, x1, x2, x3, y0, y1, y2, y3⟩⟩ := hcut
          have hLc : Lt b wc := Nat.lt_of_lt_of_le hLb hE1.size
          have hEs := hE1.size
          obtain ⟨-, t0, t1, t2⟩ := HT.out.at hlt
          have u0 := (hE1.cell (p := ⟨b, off + i * 3, none⟩) hLb).trans t0
          have u1 := (hE1.cell (p := ⟨b, off + i * 3 + 1, none⟩) hLb).trans t1
          have u2 := (hE1.cell (p := ⟨b, off + i * 3 + 2, none⟩) hLb).trans t2
          clear t0 t1 t2
          go_upto_region 10 with (first | (go_at_call 25; (with_reducible refine (rright_md o _ hko).mono ?_); rintro e w4 ⟨rfl, hbw4⟩; obtain ⟨hcw4, hfw4, hlw4, hzw4, -⟩ := kept hbw4; try simp at hzw4) | (go_at_call 28; (with_reducible refine (wakes_any _).mono ?_); rintro e w8 ⟨rfl, hbw8⟩; obtain ⟨hcw8, hfw8, hlw8, hzw8, -⟩ := kept hbw8; try simp at hzw8))
          go_cut [8, 91] (fun s8 s wx => CutB w w1.heap.size g now o (doesB now (T i).1 (T i).2.1 (T i).2.2) s8 s wx)
          case first =>
            cases hd : doesB now (T i).1 (T i).2.1 (T i).2.2
            · clear hs ht
              go_quiet (fail)
              go_wp2_with (fail)
              go_meet
              refine ⟨by rw [hd], by first | rfl | (simp; omega), by repeat (first | with_reducible exact Ext.rf _ | with_reducible assumption | with_reducible refine Ext.al ?_ _ | with_reducible refine Ext.dr ?_ | with_reducible refine Ext.dn ?_ _ | ((with_reducible refine Ext.st _ ?_ ?_); focus (first | omega | (simp; omega) | simp)) | with_reducible refine Ext.tr ?_ (by assumption) | with_reducible refine Ext.tr ?_ (up_ext (by assumption)) | with_reducible refine Ext.of (by assumption) ?_), ?_, ?_⟩ <;> (unfold At; go_simp)
            · obtain ⟨-, q1, -, q2, -⟩ := ht.out hd
              have q3 : (o.g != (T i).2.1) = false := by rw [q1]; simp
              have Q1 := Lib.hid q1
              have Q2 := Lib.hid q2
              clear hs ht q1 q2
              cases hgg : (o.g == now.g)
              · go_quiet (fail)
                go_wp2_with (fail)
                go_meet
                refine ⟨by rw [hd], by first | rfl | (simp; omega), by repeat (first | with_reducible exact Ext.rf _ | with_reducible assumption | with_reducible refine Ext.al ?_ _ | with_reducible refine Ext.dr ?_ | with_reducible refine Ext.dn ?_ _ | ((with_reducible refine Ext.st _ ?_ ?_); focus (first | omega | (simp; omega) | simp)) | with_reducible refine Ext.tr ?_ (by assumption) | with_reducible refine Ext.tr ?_ (up_ext (by assumption)) | with_reducible refine Ext.of (by assumption) ?_), ?_, ?_⟩ <;> (unfold At; go_simp)
              · obtain ⟨q4, q5, q6⟩ := Q2.out (by simpa using hgg)
                have q7 : (o.k != 3) = false := by simp [q4]
                have q8 : (o.p != now.p) = false := by simp [q6]
                clear q4 q6
                go_quiet (fail)
                go_wp2_with (fail)
                go_meet
                refine ⟨by rw [hd], by first | rfl | (simp; omega), by repeat (first | with_reducible exact Ext.rf _ | with_reducible assumption | with_reducible refine Ext.al ?_ _ | with_reducible refine Ext.dr ?_ | with_reducible refine Ext.dn ?_ _ | ((with_reducible refine Ext.st _ ?_ ?_); focus (first | omega | (simp; omega) | simp)) | with_reducible refine Ext.tr ?_ (by assumption) | with_reducible refine Ext.tr ?_ (up_ext (by assumption)) | with_reducible refine Ext.of (by assumption) ?_), ?_, ?_⟩ <;> (unfold At; go_simp)
          case rest =>
            clear hE1 hL1 d0 d1 d2 d3 g0 g1 g2 g3 hL2 x0 x1 x2 x3 y0 y1 y2 y3 hLc hEs u0 u1 u2 hs ht
            obtain ⟨rfl, rfl, hE1, ⟨hL1, d0, d1, d2, d3, g0, g1, g2, g3⟩, ⟨hL2, x0, x1, x2, x3, y0, y1, y2, y3⟩⟩ := hcut
            have hLc : Lt b wc := Nat.lt_of_lt_of_le hLb hE1.size
            have hEs := hE1.size
            go_wp2_with (first | (go_at_call 25; (with_reducible refine (rright_md o _ hko).mono ?_); rintro e w4 ⟨rfl, hbw4⟩; obtain ⟨hcw4, hfw4, hlw4, hzw4, -⟩ := kept hbw4; try simp at hzw4) | (go_at_call 28; (with_reducible refine (wakes_any _).mono ?_); rintro e w8 ⟨rfl, hbw8⟩; obtain ⟨hcw8, hfw8, hlw8, hzw8, -⟩ := kept hbw8; try simp at hzw8))
            go_loopw [9] (fun x wr2 => RelK w w1.heap.size o i x wr2) (fun x _ => i + 1 - (intOf x).toNat)
            case atStart =>
              refine ⟨0, by omega, rfl, by repeat (first | with_reducible exact Ext.rf _ | with_reducible assumption | with_reducible refine Ext.al ?_ _ | with_reducible refine Ext.dr ?_ | with_reducible refine Ext.dn ?_ _ | ((with_reducible refine Ext.st _ ?_ ?_); focus (first | omega | (simp; omega) | simp)) | with_reducible refine Ext.tr ?_ (by assumption) | with_reducible refine Ext.tr ?_ (up_ext (by assumption)) | with_reducible refine Ext.of (by assumption) ?_), ?_⟩
              unfold At
              go_simp
            case round =>
              obtain ⟨k, hki, rfl, hE2, ⟨hL5, l0, l1, l2, l3, m0, m1, m2, m3⟩⟩ := hrel
              clear hE1 hL1 d0 d1 d2 d3 g0 g1 g2 g3 hL2 x0 x1 x2 x3 y0 y1 y2 y3 hLc hEs
              have hEs := hE2.size
              by_cases hk : k ≤ i
              · have hkn : k < n := by omega
                obtain ⟨-, t0, t1, t2⟩ := HT.out.at hkn
                have u0 := (hE2.cell (p := ⟨b, off + k * 3, none⟩) hLb).trans t0
                have u1 := (hE2.cell (p := ⟨b, off + k * 3 + 1, none⟩) hLb).trans t1
                have u2 := (hE2.cell (p := ⟨b, off + k * 3 + 2, none⟩) hLb).trans t2
                have hLr : Lt b wr := Nat.lt_of_lt_of_le hLb hE2.size
                clear t0 t1 t2
                have j1 : (0 : Int) ≤ (k : Int) := by omega
                have j2 : (k : Int) < (n : Int) := by omega
                have j3 : (k : Int) ≤ (i : Int) := by omega
                by_cases q : (T k).1 ≠ 0 ∧ (T k).1 ≠ 1 ∧ (T k).2.1 = o.g
                · have z0 : ((T k).1 != 0) = true := by simpa using q.1
                  have z1 : ((T k).1 != 1) = true := by simpa using q.2.1
                  have z2 : ((T k).2.1 == o.g) = true := by simpa using q.2.2
                  clear q
                  go_wp2_with (fail)
                  go_quiet (fail)
                  go_wp2_with (fail)
                  go_roundw
                  case rel =>
                    refine ⟨k + 1, by omega, by go_num, by repeat (first | with_reducible exact Ext.rf _ | with_reducible assumption | with_reducible refine Ext.al ?_ _ | with_reducible refine Ext.dr ?_ | with_reducible refine Ext.dn ?_ _ | ((with_reducible refine Ext.st _ ?_ ?_); focus (first | omega | (simp; omega) | simp)) | with_reducible refine Ext.tr ?_ (by assumption) | with_reducible refine Ext.tr ?_ (up_ext (by assumption)) | with_reducible refine Ext.of (by assumption) ?_), ?_⟩
                    unfold At
                    go_simp
                  case measure => simp [intOf]; omega
                · go_upto_region 16 with (fail)
                  go_cut [121] (fun s wx => s = .bool false ∧ Ext w wx ∧ At wx w1.heap.size o)
                  case first =>
                    have Q := Lib.hid q
                    clear q
                    cases z0 : ((T k).1 != 0) <;> cases z1 : ((T k).1 != 1) <;> cases z2 : ((T k).2.1 == o.g)
                    case true.true.true => exact absurd ⟨by simpa using z0, by simpa using z1, by simpa using z2⟩ Q.out
                    all_goals
                      go_quiet (fail)
                      go_wp2_with (fail)
                      go_meet
                      refine ⟨rfl, by repeat (first | with_reducible exact Ext.rf _ | with_reducible assumption | with_reducible refine Ext.al ?_ _ | with_reducible refine Ext.dr ?_ | with_reducible refine Ext.dn ?_ _ | ((with_reducible refine Ext.st _ ?_ ?_); focus (first | omega | (simp; omega) | simp)) | with_reducible refine Ext.tr ?_ (by assumption) | with_reducible refine Ext.tr ?_ (up_ext (by assumption)) | with_reducible refine Ext.of (by assumption) ?_), ?_⟩
                      unfold At
                      go_simp
                  case rest =>
                    obtain ⟨rfl, hE3, ⟨hL6, d0, d1, d2, d3, g0, g1, g2, g3⟩⟩ := hcut
                    obtain ⟨-, t0, t1, t2⟩ := HT.out.at hkn
                    clear hE2 hL5 l0 l1 l2 l3 m0 m1 m2 m3 u0 u1 u2 hLr hEs
                    have hEs := hE3.size
                    have u0 := (hE3.cell (p := ⟨b, off + k * 3, none⟩) hLb).trans t0
                    have u1 := (hE3.cell (p := ⟨b, off + k * 3 + 1, none⟩) hLb).trans t1
                    have u2 := (hE3.cell (p := ⟨b, off + k * 3 + 2, none⟩) hLb).trans t2
                    have hLr : Lt b wc := Nat.lt_of_lt_of_le hLb hE3.size
                    clear t0 t1 t2
                    by_cases hle : (T k).2.1 ≤ o.g
                    · have b1 := does_again o (T k).1 (T k).2.1 (T k).2.2 q hle
                      have b2 := does_same o (T k).1 (T k).2.1 (T k).2.2 b1
                      clear q
                      go_wp2_with (fail)
                      refine wp_named ?_
                      intro W hc hf hl hz hW
                      go_region_held3 (Up W) (with_reducible refine up ?_; (repeat (first | with_reducible exact Ext.rf _ | with_reducible exact up_ext (by assumption) | with_reducible refine Ext.al ?_ _ | with_reducible refine Ext.dr ?_ | with_reducible refine Ext.dn ?_ _ | ((with_reducible refine Ext.st _ ?_ ?_); focus (first | omega | (simp; omega) | simp)) | with_reducible refine Ext.tr ?_ (by assumption)))) (first | (go_at_call 29; (with_reducible refine (does_any o _ _ _ _ hko).mono ?_); rintro e w' ⟨rfl, hb⟩; obtain ⟨hcq, hfq, hlq, hzq, -⟩ := kept hb; try simp at hzq))
                      all_goals
                        go_wp2_with (fail)
                        go_quiet (fail)
                        go_wp2_with (fail)
                        go_roundw
                        case rel =>
                          refine ⟨k + 1, by omega, by go_num, by repeat (first | with_reducible exact Ext.rf _ | with_reducible assumption | with_reducible refine Ext.al ?_ _ | with_reducible refine Ext.dr ?_ | with_reducible refine Ext.dn ?_ _ | ((with_reducible refine Ext.st _ ?_ ?_); focus (first | omega | (simp; omega) | simp)) | with_reducible refine Ext.tr ?_ (by assumption) | with_reducible refine Ext.tr ?_ (up_ext (by assumption)) | with_reducible refine Ext.of (by assumption) ?_), ?_⟩
                          unfold At
                          go_simp
                        case measure => simp [intOf]; omega
                    · have hlt' : o.g < (T k).2.1 := by omega
                      have hle' : decide ((T k).2.1 ≤ o.g) = false := by simpa using hlt'
                      clear q hle
                      go_wp2_with (fail)
                      refine wp_named ?_
                      intro W hc hf hl hz hW
                      go_region_held3 (Up W) (with_reducible refine up ?_; (repeat (first | with_reducible exact Ext.rf _ | with_reducible exact up_ext (by assumption) | with_reducible refine Ext.al ?_ _ | with_reducible refine Ext.dr ?_ | with_reducible refine Ext.dn ?_ _ | ((with_reducible refine Ext.st _ ?_ ?_); focus (first | omega | (simp; omega) | simp)) | with_reducible refine Ext.tr ?_ (by assumption)))) (first | (go_at_call 29; (with_reducible refine (does_any o _ _ _ _ hko).mono ?_); rintro e w' ⟨rfl, hb⟩; obtain ⟨hcq, hfq, hlq, hzq, -⟩ := kept hb; try simp at hzq))
                      all_goals
                        go_wp2_with (fail)
                        go_quiet (fail)
                        go_wp2_with (fail)
                        go_roundw
                        case rel =>
                          refine ⟨k + 1, by omega, by go_num, by repeat (first | with_reducible exact Ext.rf _ | with_reducible assumption | with_reducible refine Ext.al ?_ _ | with_reducible refine Ext.dr ?_ | with_reducible refine Ext.dn ?_ _ | ((with_reducible refine Ext.st _ ?_ ?_); focus (first | omega | (simp; omega) | simp)) | with_reducible refine Ext.tr ?_ (by assumption) | with_reducible refine Ext.tr ?_ (up_ext (by assumption)) | with_reducible refine Ext.of (by assumption) ?_), ?_⟩
                          unfold At
                          go_simp
                        case measure => simp [intOf]; omega
              · have hkk : k = i + 1 := by omega
                subst hkk
                go_wp2_with (fail)
                go_roundw
                case rel =>
                  refine ⟨o, i + 1, by omega, by go_num, hko, hor, by repeat (first | with_reducible exact Ext.rf _ | with_reducible assumption | with_reducible refine Ext.al ?_ _ | with_reducible refine Ext.dr ?_ | with_reducible refine Ext.dn ?_ _ | ((with_reducible refine Ext.st _ ?_ ?_); focus (first | omega | (simp; omega) | simp)) | with_reducible refine Ext.tr ?_ (by assumption) | with_reducible refine Ext.tr ?_ (up_ext (by assumption)) | with_reducible refine Ext.of (by assumption) ?_), ?_⟩
                  unfold At
                  go_simp
                case measure => simp [intOf]; omega
    · have hni : n = i := by omega
      subst hni
      go_wp2_with (first | (go_at_call 25; (with_reducible refine (rright_md o _ hko).mono ?_); rintro e w4 ⟨rfl, hbw4⟩; obtain ⟨hcw4, hfw4, hlw4, hzw4, -⟩ := kept hbw4; try simp at hzw4) | (go_at_call 28; (with_reducible refine (wakes_any _).mono ?_); rintro e w8 ⟨rfl, hbw8⟩; obtain ⟨hcw8, hfw8, hlw8, hzw8, -⟩ := kept hbw8; try simp at hzw8))
      go_ret
      exact ⟨rfl, by repeat (first | with_reducible exact Ext.rf _ | with_reducible assumption | with_reducible refine Ext.al ?_ _ | with_reducible refine Ext.dr ?_ | with_reducible refine Ext.dn ?_ _ | ((with_reducible refine Ext.st _ ?_ ?_); focus (first | omega | (simp; omega) | simp)) | with_reducible refine Ext.tr ?_ (by assumption) | with_reducible refine Ext.tr ?_ (up_ext (by assumption)) | with_reducible refine Ext.of (by assumption) ?_)⟩

set_option maxRecDepth 100000 in
set_option maxHeartbeats 4000000 in
theorem modeRises_walk (m : Md) (a : Option Addr) (n cap : Nat) (T : Nat → Int × Int × Int) (w : World) (h0 : 0 ≤ m.k) (hT : Tolds w a n T) :
    Calls Try.prog 4 #[m.v, .slice a n cap] w fun e w' => e = .returned (.bool true) ∧ Ext w w' := by
  by_cases hn : n ≤ 30
  · cases hr : m.right
    · clear hT
      go_enter Try.func4, Try.ntmps4
      go_wp2_with (first | (go_at_call 25; (with_reducible refine (rright_md m _ h0).mono ?_); rintro e w1 ⟨rfl, hbw1⟩; obtain ⟨hcw1, hfw1, hlw1, hzw1, -⟩ := kept hbw1; try simp at hzw1) | (go_at_call 28; (with_reducible refine (wakes_any _).mono ?_); rintro e w3 ⟨rfl, hbw3⟩; obtain ⟨hcw3, hfw3, hlw3, hzw3, -⟩ := kept hbw3; try simp at hzw3))
      go_ret
      exact ⟨rfl, by repeat (first | with_reducible exact Ext.rf _ | with_reducible assumption | with_reducible refine Ext.al ?_ _ | with_reducible refine Ext.dr ?_ | with_reducible refine Ext.dn ?_ _ | ((with_reducible refine Ext.st _ ?_ ?_); focus (first | omega | (simp; omega) | simp)) | with_reducible refine Ext.tr ?_ (by assumption) | with_reducible refine Ext.tr ?_ (up_ext (by assumption)) | with_reducible refine Ext.of (by assumption) ?_)⟩
    · exact modeRises_yes m a n cap T w h0 hT hn hr
  · clear hT
    go_enter Try.func4, Try.ntmps4
    go_wp2_with (first | (go_at_call 25; (with_reducible refine (rright_md m _ h0).mono ?_); rintro e w1 ⟨rfl, hbw1⟩; obtain ⟨hcw1, hfw1, hlw1, hzw1, -⟩ := kept hbw1; try simp at hzw1) | (go_at_call 28; (with_reducible refine (wakes_any _).mono ?_); rintro e w3 ⟨rfl, hbw3⟩; obtain ⟨hcw3, hfw3, hlw3, hzw3, -⟩ := kept hbw3; try simp at hzw3))
    go_ret
    exact ⟨rfl, by repeat (first | with_reducible exact Ext.rf _ | with_reducible assumption | with_reducible refine Ext.al ?_ _ | with_reducible refine Ext.dr ?_ | with_reducible refine Ext.dn ?_ _ | ((with_reducible refine Ext.st _ ?_ ?_); focus (first | omega | (simp; omega) | simp)) | with_reducible refine Ext.tr ?_ (by assumption) | with_reducible refine Ext.tr ?_ (up_ext (by assumption)) | with_reducible refine Ext.of (by assumption) ?_)⟩

set_option maxRecDepth 100000 in
theorem modeRises_lifted (os : Os) (started : os.Started) (H : Type) (enc : TypeId × Value → H) :
    ReturnsInHanded {} Try.checked os 4 .any (Rows.modeRisesSpec.pre6 enc Try.prog Try.f4 Rows.modeRisesRow.domain false) (Rows.modeRisesSpec.post enc Try.prog Try.f4 false true false false) := by
  refine law_lift 4 own started (by kernel_rfl) Try.func4 (ChangeSpec.witness6 (enc := enc) (C := Try.checked) false ⟨#[], #[.agg #[.int .u8 0, .int .i64 0, .int .i64 0, .bool false], .slice none 0 0], []⟩ 8 (by kernel_rfl) (by kernel_rfl) (by kernel_rfl) (by kernel_rfl)) laidOut rfl (by kernel_rfl) Try.underlying4 ?_ (by kernel_rfl) ?_
  · intro ds h
    match ds, h with
    | [d0, d1], _ => rfl
  · intro W base args ds p hval hA hlt
    have hval' : ∀ (j : Nat) t v, Try.f4.params[j]? = some t → args[j]? = some v → Value.okWide Try.prog W .any base t v := hval
    have hA' : DataW.TrodAll enc Try.prog W 0 (fun _ => true) true Try.f4.params.toList args.toList ds p := hA
    rw [Try.params4] at hA' hval'
    obtain ⟨v0, vs0, d0, ds0, p0, q0, hargs, rfl, rfl, h0, r0⟩ := trodAll_cons hA'
    obtain ⟨v1, vs1, d1, ds1, p1, q1, rfl, rfl, rfl, h1, r1⟩ := trodAll_cons r0
    obtain ⟨rfl, rfl, rfl⟩ := trodAll_nil r1
    obtain rfl : args = #[v0, v1] := by cases args; simp_all
    obtain ⟨m, rfl, hm0, hm1⟩ := open_mode (hval' 0 _ v0 rfl rfl) h0
    obtain ⟨a, n, cap, T, rfl, hT⟩ := open_tolds (hval' 1 _ v1 rfl rfl) h1
    exact modeRises_walk m a n cap T W hm0 hT

theorem modeRises_holds : Rows.ModeRisesSaid :=
  OpenClaim.holds_of_wide 4 Try.f4 rfl rfl rfl rfl rfl rfl rfl ⟨rfl, rfl, rfl, rfl, rfl⟩ rfl rfl rfl rfl rfl (by kernel_rfl) Try.func4 (by kernel_rfl)
    (of_decide_eq_true (by kernel_rfl)) (by unfold Func.isWrapper; first | (rw [if_pos (by decide +kernel)]; kernel_rfl) | (rw [if_neg (by decide +kernel)]; exact ⟨rfl, rfl⟩))
    (fun os started H enc _ => modeRises_lifted os started H enc)
#print axioms modeRises_holds

end Go.Proofs.Ytnceijlphinnhaa
