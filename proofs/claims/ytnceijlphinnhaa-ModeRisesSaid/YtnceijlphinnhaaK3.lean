/- ModeDrained returns true: for any mode that is data, any numbers, any list of what is told. -/
import Derived.Test.YtnceijlphinnhaaK2
import Derived.Test.YtnceijlphinnhaaS
namespace Go.Proofs.Ytnceijlphinnhaa
open Go.ChangeShapes Go.WideShapes Go.ChangeAt Go.RowKit

/-- What a list of things that are told holds: n of them, in memory that lies in w. -/
def Tolds (w : World) (a : Option Addr) (n : Nat) (T : Nat → Int × Int × Int) : Prop :=
  n ≤ 9223372036854775807 ∧ ∀ i, i < n → ∃ b off, a = some ⟨b, off, none⟩ ∧ Lt b w ∧ w.cell? ⟨b, off + i * 3, none⟩ = some (.int .i64 (T i).1) ∧ w.cell? ⟨b, off + i * 3 + 1, none⟩ = some (.int .i64 (T i).2.1) ∧ w.cell? ⟨b, off + i * 3 + 2, none⟩ = some (.int .i64 (T i).2.2)

/-- The mode m lies in block b of w, and may be written there. -/
def At (w : World) (b : Nat) (m : Md) : Prop :=
  Lt b w ∧ w.cell? ⟨b, 0, none⟩ = some (.int .u8 m.k) ∧ w.cell? ⟨b, 1, none⟩ = some (.int .i64 m.p) ∧ w.cell? ⟨b, 2, none⟩ = some (.int .i64 m.g) ∧ w.cell? ⟨b, 3, none⟩ = some (.bool m.r) ∧
  w.frozen? ⟨b, 0, none⟩ = false ∧ w.frozen? ⟨b, 1, none⟩ = false ∧ w.frozen? ⟨b, 2, none⟩ = false ∧ w.frozen? ⟨b, 3, none⟩ = false

def RelD (w : World) (nb : Nat) (gen : Int) (n : Nat) (x : Value) (wr : World) : Prop :=
  ∃ (now : Md) (i : Nat), i ≤ n ∧ x = .int .i64 i ∧ 0 ≤ now.k ∧ now.right = true ∧ now.k = 3 ∧ gen ≤ now.g ∧ Ext w wr ∧ At wr nb now

theorem drain_right (m : Md) (gen succ : Int) (h : drainB m gen succ = true) : (drain m gen succ).right = true := by
  unfold drain newer; unfold drainB at h; rw [h]; unfold newerB at h; simp at h; exact h.2

theorem drainB_iff (m : Md) (gen succ : Int) : drainB m gen succ = true ↔ (m.right = true ∧ m.g < gen ∧ 1 ≤ gen ∧ gen < 2147483648 ∧ 0 ≤ succ ∧ succ < 6) := by
  unfold drainB newerB drainM Md.right
  cases h : rightB m.k m.p m.g m.r <;> grind [rightB]
theorem drain_yes (m : Md) (gen prev : Int) (h : drainB m gen prev = true) : drain m gen prev = drainM gen prev := by unfold drain newer; unfold drainB at h; rw [h]; rfl
theorem drain_no (m : Md) (gen prev : Int) (h : drainB m gen prev = false) : drain m gen prev = m := by unfold drain newer; unfold drainB at h; rw [h]; rfl

theorem does_k (m : Md) (d g t : Int) (h0 : 0 ≤ m.k) : 0 ≤ (does m d g t).k := by
  unfold does
  split
  · exact grant_k m g t h0
  split
  · unfold drain newer drainM; split <;> simp [h0]
  · unfold retire; split <;> simp [h0]
theorem does_stay (m : Md) (d g t : Int) (hr : m.right = true) (hk : m.k = 3) (h : ¬ (doesB m d g t = true ∧ d = 0)) :
    (does m d g t).right = true ∧ (does m d g t).k = 3 ∧ m.g ≤ (does m d g t).g := by
  by_cases hd : d = 0
  · subst hd
    simp only [doesB, does, if_true, and_true, Bool.not_eq_true] at h ⊢
    rw [grant_no m g t h]; exact ⟨hr, hk, by omega⟩
  by_cases hd1 : d = 1
  · subst hd1
    simp only [does, if_neg hd, if_true]
    cases hB : drainB m g t
    · rw [drain_no m g t hB]; exact ⟨hr, hk, by omega⟩
    · have h1 := drain_right m g t hB
      have h2 := (drainB_iff m g t).1 hB
      rw [drain_yes m g t hB] at h1 ⊢
      exact ⟨h1, rfl, by simp [drainM]; omega⟩
  · simp only [does, if_neg hd, if_neg hd1]
    unfold retire
    split
    · refine ⟨?_, hk, by simp⟩
      simp only [Md.right, hk] at hr ⊢
      grind [rightB]
    · exact ⟨hr, hk, by omega⟩
theorem does_leave (m : Md) (d g t : Int) (h : doesB m d g t = true) (hd : d = 0) :
    m.g < (does m d g t).g ∧ (does m d g t).k ≠ 3 := by
  subst hd
  simp only [doesB, does, if_true] at h ⊢
  have h2 := (grantB_iff m g t).1 h
  rw [grant_yes m g t h]
  unfold grantM
  exact ⟨h2.2.1, by simp; split <;> omega⟩

set_option maxRecDepth 100000 in
set_option maxHeartbeats 4000000 in
theorem modeDrained_yes (m : Md) (gen succ oth : Int) (a : Option Addr) (n cap : Nat) (T : Nat → Int × Int × Int) (w : World) (h0 : 0 ≤ m.k) (hT : Tolds w a n T) (hn : n ≤ 30) (hB : drainB m gen succ = true) :
    Calls Try.prog 5 #[m.v, .int .i64 gen, .int .i64 succ, .slice a n cap, .int .i64 oth] w fun e w' => e = .returned (.bool true) ∧ Ext w w' := by
  have hg : drain m gen succ = ⟨3, succ, gen, false⟩ := drain_yes m gen succ hB
  have hr := ((drainB_iff m gen succ).1 hB).1
  have hg1 := ((drainB_iff m gen succ).1 hB).2.2.1
  have HT := Lib.hid hT
  clear hT
  go_enter Try.func5, Try.ntmps5
  go_wp2_with (first | (go_at_call 25; (with_reducible refine (rright_md m _ h0).mono ?_); rintro e w1 ⟨rfl, hbw1⟩; obtain ⟨hcw1, hfw1, hlw1, hzw1, -⟩ := kept hbw1; try simp at hzw1) | (go_at_call 14; (with_reducible refine (drain_any m _ _ _ h0).mono ?_); rintro e w2 ⟨rfl, hbw2⟩; obtain ⟨hcw2, hfw2, hlw2, hzw2, -⟩ := kept hbw2; try simp at hzw2) | (go_at_call 28; (with_reducible refine (wakes_any _).mono ?_); rintro e w3 ⟨rfl, hbw3⟩; obtain ⟨hcw3, hfw3, hlw3, hzw3, -⟩ := kept hbw3; try simp at hzw3))
  go_loopw [13] (fun x wr => RelD w w2.heap.size gen n x wr) (fun x _ => n - (intOf x).toNat)
  case atStart =>
    refine ⟨⟨3, succ, gen, false⟩, 0, by omega, rfl, by simp, ?_, rfl, by simp, by repeat (first | with_reducible exact Ext.rf _ | with_reducible assumption | with_reducible refine Ext.al ?_ _ | with_reducible refine Ext.dr ?_ | ((with_reducible refine Ext.st _ ?_ ?_); focus (first | omega | (simp; omega) | simp)) | with_reducible refine Ext.tr ?_ (by assumption) | with_reducible refine Ext.tr ?_ (up_ext (by assumption)) | with_reducible refine Ext.of (by assumption) ?_), by simp [go_sem], ?_⟩
    · rw [← hg]; exact drain_right m gen succ hB
    · simp [go_sem]
  case round =>
    obtain ⟨now, i, hi, rfl, hk0, hkr, hk3, hkg, hE, hL, c0, c1, c2, c3, f0, f1, f2, f3⟩ := hrel
    have a1 : chainB now = true := by simp [chainB, hkr, hk3]
    have a2 : chainI now = now.p := by unfold chainI; rw [a1]; rfl
    have a3 : probeB now = false := by simp [probeB, hk3]
    have a4 : acceptsB now oth = false := by simp [acceptsB, hk3]
    have a5 : (now.k != 3) = false := by simp [hk3]
    have K3 := Lib.hid hk3
    clear hk3
    by_cases hlt : i < n
    · obtain ⟨b, off, rfl, hLb, t0, t1, t2⟩ := HT.out.2 i hlt
      have hn' := HT.out.1
      have i1 : (0 : Int) ≤ (i : Int) := by omega
      have i2 : (i : Int) < (n : Int) := by omega
      have u0 := (hE.cell (p := ⟨b, off + i * 3, none⟩) hLb).trans t0
      have u1 := (hE.cell (p := ⟨b, off + i * 3 + 1, none⟩) hLb).trans t1
      have u2 := (hE.cell (p := ⟨b, off + i * 3 + 2, none⟩) hLb).trans t2
      have hEs := hE.size
      have hLr : Lt b wr := Nat.lt_of_lt_of_le hLb hE.size
      clear t0 t1 t2
      have hs := Lib.hid (does_stay now (T i).1 (T i).2.1 (T i).2.2 hkr K3.out)
      have hv := Lib.hid (does_leave now (T i).1 (T i).2.1 (T i).2.2)
      have hk := does_k now (T i).1 (T i).2.1 (T i).2.2 hk0
      obtain ⟨o, ho⟩ : ∃ o, o = does now (T i).1 (T i).2.1 (T i).2.2 := ⟨_, rfl⟩
      have HO := Lib.hid ho
      rw [← ho] at hs hv hk
      clear ho
      cases hd : doesB now (T i).1 (T i).2.1 (T i).2.2 <;> cases hz0 : ((T i).1 == 0)
      case true.true =>
        obtain ⟨q1, q2⟩ := hv.out hd (by simpa using hz0)
        have q3 : gen < o.g := by omega
        have q4 : (o.k != 3) = true := by simpa using q2
        clear q2 hs hv
        go_wp2_with (first | (go_at_call 20; (with_reducible refine (chain_any now _ hk0).mono ?_); rintro e w4 ⟨rfl, hbw4⟩; obtain ⟨hcw4, hfw4, hlw4, hzw4, -⟩ := kept hbw4; try simp at hzw4) | (go_at_call 22; (with_reducible refine (probe_any now _ hk0).mono ?_); rintro e w5 ⟨rfl, hbw5⟩; obtain ⟨hcw5, hfw5, hlw5, hzw5, -⟩ := kept hbw5; try simp at hzw5) | (go_at_call 26; (with_reducible refine (accepts_any now _ _ hk0).mono ?_); rintro e w6 ⟨rfl, hbw6⟩; obtain ⟨hcw6, hfw6, hlw6, hzw6, -⟩ := kept hbw6; try simp at hzw6) | (go_at_call 28; (with_reducible refine (wakes_any _).mono ?_); rintro e w8 ⟨rfl, hbw8⟩; obtain ⟨hcw8, hfw8, hlw8, hzw8, -⟩ := kept hbw8; try simp at hzw8))
        refine wp_named ?_
        intro W hc hf hl hz hW
        go_region_held3 (Up W) (with_reducible refine up ?_; (repeat (first | with_reducible exact Ext.rf _ | with_reducible exact up_ext (by assumption) | with_reducible refine Ext.al ?_ _ | with_reducible refine Ext.dr ?_ | ((with_reducible refine Ext.st _ ?_ ?_); focus (first | omega | (simp; omega) | simp)) | with_reducible refine Ext.tr ?_ (by assumption)))) (first | (go_at_call 29; (with_reducible refine (does_any now _ _ _ _ hk0).mono ?_); rw [← HO.out]; rintro e w' ⟨rfl, hb⟩; obtain ⟨hcq, hfq, hlq, hzq, -⟩ := kept hb; try simp at hzq))
        all_goals
          go_wp2_with (first | (go_at_call 20; (with_reducible refine (chain_any now _ hk0).mono ?_); rintro e w4 ⟨rfl, hbw4⟩; obtain ⟨hcw4, hfw4, hlw4, hzw4, -⟩ := kept hbw4; try simp at hzw4) | (go_at_call 22; (with_reducible refine (probe_any now _ hk0).mono ?_); rintro e w5 ⟨rfl, hbw5⟩; obtain ⟨hcw5, hfw5, hlw5, hzw5, -⟩ := kept hbw5; try simp at hzw5) | (go_at_call 26; (with_reducible refine (accepts_any now _ _ hk0).mono ?_); rintro e w6 ⟨rfl, hbw6⟩; obtain ⟨hcw6, hfw6, hlw6, hzw6, -⟩ := kept hbw6; try simp at hzw6) | (go_at_call 28; (with_reducible refine (wakes_any _).mono ?_); rintro e w8 ⟨rfl, hbw8⟩; obtain ⟨hcw8, hfw8, hlw8, hzw8, -⟩ := kept hbw8; try simp at hzw8))
          go_ret
          exact ⟨rfl, by repeat (first | with_reducible exact Ext.rf _ | with_reducible assumption | with_reducible refine Ext.al ?_ _ | with_reducible refine Ext.dr ?_ | ((with_reducible refine Ext.st _ ?_ ?_); focus (first | omega | (simp; omega) | simp)) | with_reducible refine Ext.tr ?_ (by assumption) | with_reducible refine Ext.tr ?_ (up_ext (by assumption)) | with_reducible refine Ext.of (by assumption) ?_)⟩
      all_goals
        obtain ⟨q1, q2, q3⟩ := hs.out (by rintro ⟨h1, h2⟩; first | (simp [hd] at h1; done) | (simp [h2] at hz0; done))
        have q4 : gen ≤ o.g := by omega
        have Q2 := Lib.hid q2
        clear q2 hs hv
        go_wp2_with (first | (go_at_call 20; (with_reducible refine (chain_any now _ hk0).mono ?_); rintro e w4 ⟨rfl, hbw4⟩; obtain ⟨hcw4, hfw4, hlw4, hzw4, -⟩ := kept hbw4; try simp at hzw4) | (go_at_call 22; (with_reducible refine (probe_any now _ hk0).mono ?_); rintro e w5 ⟨rfl, hbw5⟩; obtain ⟨hcw5, hfw5, hlw5, hzw5, -⟩ := kept hbw5; try simp at hzw5) | (go_at_call 26; (with_reducible refine (accepts_any now _ _ hk0).mono ?_); rintro e w6 ⟨rfl, hbw6⟩; obtain ⟨hcw6, hfw6, hlw6, hzw6, -⟩ := kept hbw6; try simp at hzw6) | (go_at_call 28; (with_reducible refine (wakes_any _).mono ?_); rintro e w8 ⟨rfl, hbw8⟩; obtain ⟨hcw8, hfw8, hlw8, hzw8, -⟩ := kept hbw8; try simp at hzw8))
        refine wp_named ?_
        intro W hc hf hl hz hW
        go_region_held3 (Up W) (with_reducible refine up ?_; (repeat (first | with_reducible exact Ext.rf _ | with_reducible exact up_ext (by assumption) | with_reducible refine Ext.al ?_ _ | with_reducible refine Ext.dr ?_ | ((with_reducible refine Ext.st _ ?_ ?_); focus (first | omega | (simp; omega) | simp)) | with_reducible refine Ext.tr ?_ (by assumption)))) (first | (go_at_call 29; (with_reducible refine (does_any now _ _ _ _ hk0).mono ?_); rw [← HO.out]; rintro e w' ⟨rfl, hb⟩; obtain ⟨hcq, hfq, hlq, hzq, -⟩ := kept hb; try simp at hzq))
        all_goals
          go_wp2_with (first | (go_at_call 20; (with_reducible refine (chain_any now _ hk0).mono ?_); rintro e w4 ⟨rfl, hbw4⟩; obtain ⟨hcw4, hfw4, hlw4, hzw4, -⟩ := kept hbw4; try simp at hzw4) | (go_at_call 22; (with_reducible refine (probe_any now _ hk0).mono ?_); rintro e w5 ⟨rfl, hbw5⟩; obtain ⟨hcw5, hfw5, hlw5, hzw5, -⟩ := kept hbw5; try simp at hzw5) | (go_at_call 26; (with_reducible refine (accepts_any now _ _ hk0).mono ?_); rintro e w6 ⟨rfl, hbw6⟩; obtain ⟨hcw6, hfw6, hlw6, hzw6, -⟩ := kept hbw6; try simp at hzw6) | (go_at_call 28; (with_reducible refine (wakes_any _).mono ?_); rintro e w8 ⟨rfl, hbw8⟩; obtain ⟨hcw8, hfw8, hlw8, hzw8, -⟩ := kept hbw8; try simp at hzw8))
          go_roundw
          case rel =>
            refine ⟨o, i + 1, by omega, by go_num, hk, q1, Q2.out, q4, by repeat (first | with_reducible exact Ext.rf _ | with_reducible assumption | with_reducible refine Ext.al ?_ _ | with_reducible refine Ext.dr ?_ | ((with_reducible refine Ext.st _ ?_ ?_); focus (first | omega | (simp; omega) | simp)) | with_reducible refine Ext.tr ?_ (by assumption) | with_reducible refine Ext.tr ?_ (up_ext (by assumption)) | with_reducible refine Ext.of (by assumption) ?_), ?_⟩
            unfold At
            go_simp
          case measure => simp [intOf]; omega
    · have hni : n = i := by omega
      subst hni
      go_wp2_with (first | (go_at_call 20; (with_reducible refine (chain_any now _ hk0).mono ?_); rintro e w4 ⟨rfl, hbw4⟩; obtain ⟨hcw4, hfw4, hlw4, hzw4, -⟩ := kept hbw4; try simp at hzw4) | (go_at_call 22; (with_reducible refine (probe_any now _ hk0).mono ?_); rintro e w5 ⟨rfl, hbw5⟩; obtain ⟨hcw5, hfw5, hlw5, hzw5, -⟩ := kept hbw5; try simp at hzw5) | (go_at_call 26; (with_reducible refine (accepts_any now _ _ hk0).mono ?_); rintro e w6 ⟨rfl, hbw6⟩; obtain ⟨hcw6, hfw6, hlw6, hzw6, -⟩ := kept hbw6; try simp at hzw6) | (go_at_call 28; (with_reducible refine (wakes_any _).mono ?_); rintro e w8 ⟨rfl, hbw8⟩; obtain ⟨hcw8, hfw8, hlw8, hzw8, -⟩ := kept hbw8; try simp at hzw8))
      go_ret
      exact ⟨rfl, by repeat (first | with_reducible exact Ext.rf _ | with_reducible assumption | with_reducible refine Ext.al ?_ _ | with_reducible refine Ext.dr ?_ | ((with_reducible refine Ext.st _ ?_ ?_); focus (first | omega | (simp; omega) | simp)) | with_reducible refine Ext.tr ?_ (by assumption) | with_reducible refine Ext.tr ?_ (up_ext (by assumption)) | with_reducible refine Ext.of (by assumption) ?_)⟩

set_option maxRecDepth 100000 in
set_option maxHeartbeats 4000000 in
theorem modeDrained_walk (m : Md) (gen succ oth : Int) (a : Option Addr) (n cap : Nat) (T : Nat → Int × Int × Int) (w : World) (h0 : 0 ≤ m.k) (hT : Tolds w a n T) :
    Calls Try.prog 5 #[m.v, .int .i64 gen, .int .i64 succ, .slice a n cap, .int .i64 oth] w fun e w' => e = .returned (.bool true) ∧ Ext w w' := by
  by_cases hn : n ≤ 30
  · cases hB : drainB m gen succ
    · have hg : drain m gen succ = m := drain_no m gen succ hB
      clear hT
      cases hr : m.right
      · go_enter Try.func5, Try.ntmps5
        go_wp2_with (first | (go_at_call 25; (with_reducible refine (rright_md m _ h0).mono ?_); rintro e w1 ⟨rfl, hbw1⟩; obtain ⟨hcw1, hfw1, hlw1, hzw1, -⟩ := kept hbw1; try simp at hzw1) | (go_at_call 14; (with_reducible refine (drain_any m _ _ _ h0).mono ?_); rintro e w2 ⟨rfl, hbw2⟩; obtain ⟨hcw2, hfw2, hlw2, hzw2, -⟩ := kept hbw2; try simp at hzw2) | (go_at_call 28; (with_reducible refine (wakes_any _).mono ?_); rintro e w3 ⟨rfl, hbw3⟩; obtain ⟨hcw3, hfw3, hlw3, hzw3, -⟩ := kept hbw3; try simp at hzw3))
        go_ret
        exact ⟨rfl, by repeat (first | with_reducible exact Ext.rf _ | with_reducible assumption | with_reducible refine Ext.al ?_ _ | with_reducible refine Ext.dr ?_ | ((with_reducible refine Ext.st _ ?_ ?_); focus (first | omega | (simp; omega) | simp)) | with_reducible refine Ext.tr ?_ (by assumption) | with_reducible refine Ext.tr ?_ (up_ext (by assumption)) | with_reducible refine Ext.of (by assumption) ?_)⟩
      · go_enter Try.func5, Try.ntmps5
        go_wp2_with (first | (go_at_call 25; (with_reducible refine (rright_md m _ h0).mono ?_); rintro e w1 ⟨rfl, hbw1⟩; obtain ⟨hcw1, hfw1, hlw1, hzw1, -⟩ := kept hbw1; try simp at hzw1) | (go_at_call 14; (with_reducible refine (drain_any m _ _ _ h0).mono ?_); rintro e w2 ⟨rfl, hbw2⟩; obtain ⟨hcw2, hfw2, hlw2, hzw2, -⟩ := kept hbw2; try simp at hzw2) | (go_at_call 28; (with_reducible refine (wakes_any _).mono ?_); rintro e w3 ⟨rfl, hbw3⟩; obtain ⟨hcw3, hfw3, hlw3, hzw3, -⟩ := kept hbw3; try simp at hzw3))
        go_ret
        exact ⟨rfl, by repeat (first | with_reducible exact Ext.rf _ | with_reducible assumption | with_reducible refine Ext.al ?_ _ | with_reducible refine Ext.dr ?_ | ((with_reducible refine Ext.st _ ?_ ?_); focus (first | omega | (simp; omega) | simp)) | with_reducible refine Ext.tr ?_ (by assumption) | with_reducible refine Ext.tr ?_ (up_ext (by assumption)) | with_reducible refine Ext.of (by assumption) ?_)⟩
    · exact modeDrained_yes m gen succ oth a n cap T w h0 hT hn hB
  · clear hT
    go_enter Try.func5, Try.ntmps5
    go_wp2_with (first | (go_at_call 25; (with_reducible refine (rright_md m _ h0).mono ?_); rintro e w1 ⟨rfl, hbw1⟩; obtain ⟨hcw1, hfw1, hlw1, hzw1, -⟩ := kept hbw1; try simp at hzw1) | (go_at_call 14; (with_reducible refine (drain_any m _ _ _ h0).mono ?_); rintro e w2 ⟨rfl, hbw2⟩; obtain ⟨hcw2, hfw2, hlw2, hzw2, -⟩ := kept hbw2; try simp at hzw2) | (go_at_call 28; (with_reducible refine (wakes_any _).mono ?_); rintro e w3 ⟨rfl, hbw3⟩; obtain ⟨hcw3, hfw3, hlw3, hzw3, -⟩ := kept hbw3; try simp at hzw3))
    go_ret
    exact ⟨rfl, by repeat (first | with_reducible exact Ext.rf _ | with_reducible assumption | with_reducible refine Ext.al ?_ _ | with_reducible refine Ext.dr ?_ | ((with_reducible refine Ext.st _ ?_ ?_); focus (first | omega | (simp; omega) | simp)) | with_reducible refine Ext.tr ?_ (by assumption) | with_reducible refine Ext.tr ?_ (up_ext (by assumption)) | with_reducible refine Ext.of (by assumption) ?_)⟩

theorem cells37 : Try.prog.cellsOf 37 = 3 := by kernel_rfl

theorem open_tolds {H : Type} {enc : TypeId × Value → H} {w : World} {base b0 : Nat} {spare : Nat → Bool} {held : Bool} {v : Value} {d : DataW H} {p : List MemPlace}
    (hv : Value.okWide Try.prog w .any b0 34 v) (h : DataW.Trod enc Try.prog w base spare held 34 v d p) :
    ∃ (a : Option Addr) (n cap : Nat) (T : Nat → Int × Int × Int), v = .slice a n cap ∧ Tolds w a n T := by
  obtain ⟨a0, len, cap, rfl⟩ := okWide_slice Try.underlying34 hv
  obtain ⟨fuel, hf⟩ := h
  rcases open_slice_fields Try.underlying34 Try.underlying37 (by kernel_rfl) cells37 hf with ⟨hcs, _⟩ | ⟨a, len', cap', k, D, Pl, hcs, _, hl, hm, hk, _, hi⟩
  · simp [Value.cells] at hcs
    obtain ⟨rfl, rfl, rfl⟩ := hcs
    exact ⟨_, _, _, fun _ => (0, 0, 0), rfl, by omega, fun i hi => by omega⟩
  · simp [Value.cells] at hcs
    obtain ⟨rfl, rfl, rfl⟩ := hcs
    have hkl : len ≤ k := by rw [hk]; split <;> omega
    have key : ∀ i, i < len → ∃ t : Int × Int × Int, w.cell? (a.add (i * 3)) = some (.int .i64 t.1) ∧ w.cell? (a.add (i * 3 + 1)) = some (.int .i64 t.2.1) ∧ w.cell? (a.add (i * 3 + 2)) = some (.int .i64 t.2.2) := by
      intro i hi'
      obtain ⟨ys, n, _, _, _, hf⟩ := hi i (by omega)
      obtain ⟨v0, y0, c0, _, t0⟩ := hf 0 _ rfl
      obtain ⟨v1, y1, c1, _, t1⟩ := hf 1 _ rfl
      obtain ⟨v2, y2, c2, _, t2⟩ := hf 2 _ rfl
      obtain ⟨n0, e0, _, _⟩ := DataW.trod_int Try.underlying3 t0
      obtain ⟨n1, e1, _, _⟩ := DataW.trod_int Try.underlying3 t1
      obtain ⟨n2, e2, _, _⟩ := DataW.trod_int Try.underlying3 t2
      simp at e0 e1 e2
      subst e0 e1 e2
      exact ⟨(n0, n1, n2), c0, c1, c2⟩
    refine ⟨_, _, _, fun i => if h : i < len then (key i h).choose else (0, 0, 0), rfl, by unfold maxLen at hm; omega, fun i hi' => ?_⟩
    have hvw : a.spot = none := by
      obtain ⟨t, h, _⟩ := key 0 (by omega)
      simpa [Addr.add] using World.cell?_spot h
    have hc := (key i hi').choose_spec
    simp only [dif_pos hi']
    generalize (key i hi').choose = t at hc
    clear key hi
    obtain ⟨b, off, view⟩ := a
    obtain ⟨h1, h2, h3⟩ := hc
    obtain rfl : view = none := hvw
    rw [add_plain] at h1 h2 h3
    exact ⟨b, off, rfl, World.block_lt_of_cell? w _ h1, h1, h2, h3⟩

set_option maxRecDepth 100000 in
theorem modeDrained_lifted (os : Os) (started : os.Started) (H : Type) (enc : TypeId × Value → H) :
    ReturnsInHanded {} Try.checked os 5 .any (Rows.modeDrainedSpec.pre6 enc Try.prog Try.f5 Rows.modeDrainedRow.domain false) (Rows.modeDrainedSpec.post enc Try.prog Try.f5 false true false false) := by
  refine law_lift 4 own started (by kernel_rfl) Try.func5 (ChangeSpec.witness6 (enc := enc) (C := Try.checked) false ⟨#[], #[.agg #[.int .u8 0, .int .i64 0, .int .i64 0, .bool false], .int .i64 0, .int .i64 0, .slice none 0 0, .int .i64 0], []⟩ 8 (by kernel_rfl) (by kernel_rfl) (by kernel_rfl) (by kernel_rfl)) laidOut rfl (by kernel_rfl) Try.underlying4 ?_ (by kernel_rfl) ?_
  · intro ds h
    match ds, h with
    | [d0, d1, d2, d3, d4], _ => rfl
  · intro W base args ds p hval hA hlt
    have hval' : ∀ (j : Nat) t v, Try.f5.params[j]? = some t → args[j]? = some v → Value.okWide Try.prog W .any base t v := hval
    have hA' : DataW.TrodAll enc Try.prog W 0 (fun _ => true) true Try.f5.params.toList args.toList ds p := hA
    rw [Try.params5] at hA' hval'
    obtain ⟨v0, vs0, d0, ds0, p0, q0, hargs, rfl, rfl, h0, r0⟩ := trodAll_cons hA'
    obtain ⟨v1, vs1, d1, ds1, p1, q1, rfl, rfl, rfl, h1, r1⟩ := trodAll_cons r0
    obtain ⟨v2, vs2, d2, ds2, p2, q2, rfl, rfl, rfl, h2, r2⟩ := trodAll_cons r1
    obtain ⟨v3, vs3, d3, ds3, p3, q3, rfl, rfl, rfl, h3, r3⟩ := trodAll_cons r2
    obtain ⟨v4, vs4, d4, ds4, p4, q4, rfl, rfl, rfl, h4, r4⟩ := trodAll_cons r3
    obtain ⟨rfl, rfl, rfl⟩ := trodAll_nil r4
    obtain rfl : args = #[v0, v1, v2, v3, v4] := by cases args; simp_all
    obtain ⟨m, rfl, hm0, hm1⟩ := open_mode (hval' 0 _ v0 rfl rfl) h0
    obtain ⟨gen, rfl, _, _, w_gen⟩ := open_int Try.underlying3 (hval' 1 _ v1 rfl rfl) h1
    obtain ⟨suc, rfl, _, _, w_suc⟩ := open_int Try.underlying3 (hval' 2 _ v2 rfl rfl) h2
    obtain ⟨a, n, cap, T, rfl, hT⟩ := open_tolds (hval' 3 _ v3 rfl rfl) h3
    obtain ⟨oth, rfl, _, _, w_oth⟩ := open_int Try.underlying3 (hval' 4 _ v4 rfl rfl) h4
    exact modeDrained_walk m gen suc oth a n cap T W hm0 hT

theorem modeDrained_holds : Rows.ModeDrainedSaid :=
  OpenClaim.holds_of_wide 5 Try.f5 rfl rfl rfl rfl rfl rfl rfl ⟨rfl, rfl, rfl, rfl, rfl⟩ rfl rfl rfl rfl rfl (by kernel_rfl) Try.func5 (by kernel_rfl)
    (of_decide_eq_true (by kernel_rfl)) (by unfold Func.isWrapper; first | (rw [if_pos (by decide +kernel)]; kernel_rfl) | (rw [if_neg (by decide +kernel)]; exact ⟨rfl, rfl⟩))
    (fun os started H enc _ => modeDrained_lifted os started H enc)
#print axioms modeDrained_holds

end Go.Proofs.Ytnceijlphinnhaa
