/- Lemmas of this claim, put together out of: Y18, Y19, XM, Y20, Y21, J8. -/
import Derived.Test.YtookffaojlkfaaaMA7
set_option linter.unusedSimpArgs false
set_option linter.unusedVariables false
/- The document's Step. -/
namespace Go.Proofs.Ytookffaojlkfaaa
open Go.RowKit

theorem withH_e (e : Ev) (p : Option Addr) (xs : List Ho) (c : Nat) (w : World) (hs : SlH w p xs) (hl : xs.length ≤ 1000) (hc : xs.length ≤ c) (hr : ∀ x ∈ xs, TuR x.t) (hrt : TuR (zOf e).t) :
    Calls Try.prog 76 #[.slice p xs.length c, .agg #[.int .u32 e.t.a, .int .u32 e.t.b, .int .u16 e.t.c, .int .u16 e.t.d, .int .i64 e.n]] w fun r w' => ∃ v, r = .returned v ∧ OwnH w' w.heap.size v (insAt xs (atH xs e.t) (zOf e)) ∧ Ext w w' := withH_any (zOf e) p xs c w hs hl hc hr hrt
set_option maxRecDepth 100000 in
set_option maxHeartbeats 16000000 in
theorem rstep_any (e : Ev) (p : Option Addr) (xs : List Ho) (c : Nat) (w : World) (hs : SlH w p xs) (hl : xs.length ≤ 1000) (hc : xs.length ≤ c) (hrr : ∀ x ∈ xs, TuR x.t) (hrt : TuR e.t) :
    Calls Try.prog 37 #[.slice p xs.length c, .agg #[.int .u8 e.k, .int .i64 e.n, .int .u32 e.t.a, .int .u32 e.t.b, .int .u16 e.t.c, .int .u16 e.t.d]] w fun r w' => ∃ v', r = .returned (.tuple #[v', .bool (stepR xs e).2]) ∧ OwnH w' w.heap.size v' (stepR xs e).1 ∧ Ext w w' := by
  have HRR := Lib.hid hrr
  have HRT := Lib.hid (show TuR (zOf e).t from hrt)
  clear hrr hrt
  go_enter Try.func37, Try.ntmps37
  go_upto_region 1 with (fail)
  obtain ⟨W0, hW⟩ : ∃ W0, w.alloc (.cells #[.int .u8 e.k, .int .i64 e.n, .int .u32 e.t.a, .int .u32 e.t.b, .int .u16 e.t.c, .int .u16 e.t.d] 52) = W0 := ⟨_, rfl⟩
  have e0 : Ext w W0 := by rw [← hW]; exact Ext.al (Ext.rf _) _
  have he : EvAt W0 w.heap.size e := by rw [← hW]; unfold EvAt; simp [go_sem, Lt]
  have hsz : W0.heap.size = w.heap.size + 1 := by rw [← hW]; simp
  rw [hW]
  clear hW
  obtain ⟨c0, c1, c2, c3, c4, c5⟩ := he.cells
  have lB : Lt w.heap.size W0 := he.2
  have s0 := hs.ext e0
  clear he hs hsz
  obtain ⟨B, hB⟩ : ∃ B, w.heap.size = B := ⟨_, rfl⟩
  rw [hB] at c0 c1 c2 c3 c4 c5 lB ⊢
  have HBB := Lib.hid hB
  clear hB
  cases hr : rightH xs
  · have HX := Lib.hid (show stepR xs e = (xs, false) by unfold stepR; simp [hr])
    go_wp2_with (first | (go_at_call 44; go_must (with_reducible refine (rrighth_any p xs c _ s0 hl HRR.out).mono ?_); rw [hr]; rintro r W1 ⟨rfl, g1⟩; obtain ⟨kc1, kf1, kl1, kz1, -⟩ := kept g1; (try simp at kz1); have s1 := s0.ext g1) | (go_at_call 75; go_must (with_reducible refine (own_H p xs c _ s1 hl).mono ?_); rintro r W3 ⟨v, rfl, ho, g3⟩; have HW := Lib.hid ho; clear ho))
    exact bodyPost_ret (v := .tuple #[v, .bool false]) (by simp [results, Try.results37, go_sem]) rfl ⟨v, by rw [HX.out], by rw [HX.out]; exact ownsRow_le HW.out (Nat.le_trans e0.size g1.size), e0.tr (g1.tr g3)⟩
  cases ha : agB e.n
  · have HX := Lib.hid (show stepR xs e = (xs, false) by unfold stepR; simp [hr, ha])
    go_wp2_with (first | (go_at_call 44; go_must (with_reducible refine (rrighth_any p xs c _ s0 hl HRR.out).mono ?_); rw [hr]; rintro r W1 ⟨rfl, g1⟩; obtain ⟨kc1, kf1, kl1, kz1, -⟩ := kept g1; (try simp at kz1); have s1 := s0.ext g1) | (go_at_call 74; go_must (with_reducible refine (ragent_any e.n _).mono ?_); rw [ha]; rintro r W9 ⟨rfl, rfl⟩) | (go_at_call 75; go_must (with_reducible refine (own_H p xs c _ s1 hl).mono ?_); rintro r W3 ⟨v, rfl, ho, g3⟩; have HW := Lib.hid ho; clear ho))
    exact bodyPost_ret (v := .tuple #[v, .bool false]) (by simp [results, Try.results37, go_sem]) rfl ⟨v, by rw [HX.out], by rw [HX.out]; exact ownsRow_le HW.out (Nat.le_trans e0.size g1.size), e0.tr (g1.tr g3)⟩
  cases hh : ownHas xs e.t
  · have hm : True := trivial
    by_cases hk1 : e.k = 1
    · have hkk := hk1
      have q1 : (e.k == 1) = true := by rw [hk1]; rfl
      have q2 : (e.k == 2) = false := by rw [hk1]; rfl
      have q3 : (e.k == 3) = false := by rw [hk1]; rfl
      have q4 : (e.k == 4) = false := by rw [hk1]; rfl
      have q5 : (e.k == 5) = false := by rw [hk1]; rfl
      clear hk1
      have hz : True := trivial
      have HX := Lib.hid (show stepR xs e = (insAt xs (atH xs e.t) (zOf e), true) by unfold stepR; simp [hr, ha, hh, hm, hkk, hz])
      clear hkk
      go_wp2_with (first | (go_at_call 44; go_must (with_reducible refine (rrighth_any p xs c _ s0 hl HRR.out).mono ?_); rw [hr]; rintro r W1 ⟨rfl, g1⟩; obtain ⟨kc1, kf1, kl1, kz1, -⟩ := kept g1; (try simp at kz1); have s1 := s0.ext g1) | (go_at_call 74; go_must (with_reducible refine (ragent_any e.n _).mono ?_); rw [ha]; rintro r W9 ⟨rfl, rfl⟩) | (go_at_call 41; go_must (with_reducible refine (rowner_any e.t p xs c _ s1 hl).mono ?_); rw [hh]; rintro r W2 ⟨rfl, g2⟩; obtain ⟨kc2, kf2, kl2, kz2, -⟩ := kept g2; (try simp at kz2); have s2 := s1.ext g2) | (go_at_call 76; go_must (with_reducible refine (withH_e e p xs c _ s2 hl hc HRR.out HRT.out).mono ?_); rintro r W3 ⟨v, rfl, ho, g3⟩; have HW := Lib.hid ho; clear ho))
      exact bodyPost_ret (v := .tuple #[v, .bool true]) (by simp [results, Try.results37, go_sem]) rfl ⟨v, by rw [HX.out], by rw [HX.out]; exact ownsRow_le HW.out (Nat.le_trans e0.size (Nat.le_trans g1.size g2.size)), e0.tr (g1.tr (g2.tr g3))⟩
    by_cases hk2 : e.k = 2
    · have hkk := hk2
      have q1 : (e.k == 1) = false := by rw [hk2]; rfl
      have q2 : (e.k == 2) = true := by rw [hk2]; rfl
      have q3 : (e.k == 3) = false := by rw [hk2]; rfl
      have q4 : (e.k == 4) = false := by rw [hk2]; rfl
      have q5 : (e.k == 5) = false := by rw [hk2]; rfl
      clear hk1 hk2
      have hz : True := trivial
      have HX := Lib.hid (show stepR xs e = (xs, false) by unfold stepR; simp [hr, ha, hh, hm, hkk, hz])
      clear hkk
      go_wp2_with (first | (go_at_call 44; go_must (with_reducible refine (rrighth_any p xs c _ s0 hl HRR.out).mono ?_); rw [hr]; rintro r W1 ⟨rfl, g1⟩; obtain ⟨kc1, kf1, kl1, kz1, -⟩ := kept g1; (try simp at kz1); have s1 := s0.ext g1) | (go_at_call 74; go_must (with_reducible refine (ragent_any e.n _).mono ?_); rw [ha]; rintro r W9 ⟨rfl, rfl⟩) | (go_at_call 41; go_must (with_reducible refine (rowner_any e.t p xs c _ s1 hl).mono ?_); rw [hh]; rintro r W2 ⟨rfl, g2⟩; obtain ⟨kc2, kf2, kl2, kz2, -⟩ := kept g2; (try simp at kz2); have s2 := s1.ext g2) | (go_at_call 75; go_must (with_reducible refine (own_H p xs c _ s2 hl).mono ?_); rintro r W3 ⟨v, rfl, ho, g3⟩; have HW := Lib.hid ho; clear ho))
      exact bodyPost_ret (v := .tuple #[v, .bool false]) (by simp [results, Try.results37, go_sem]) rfl ⟨v, by rw [HX.out], by rw [HX.out]; exact ownsRow_le HW.out (Nat.le_trans e0.size (Nat.le_trans g1.size g2.size)), e0.tr (g1.tr (g2.tr g3))⟩
    by_cases hk3 : e.k = 3
    · have hkk := hk3
      have q1 : (e.k == 1) = false := by rw [hk3]; rfl
      have q2 : (e.k == 2) = false := by rw [hk3]; rfl
      have q3 : (e.k == 3) = true := by rw [hk3]; rfl
      have q4 : (e.k == 4) = false := by rw [hk3]; rfl
      have q5 : (e.k == 5) = false := by rw [hk3]; rfl
      clear hk1 hk2 hk3
      have hz : True := trivial
      have HX := Lib.hid (show stepR xs e = (xs, false) by unfold stepR; simp [hr, ha, hh, hm, hkk, hz])
      clear hkk
      go_wp2_with (first | (go_at_call 44; go_must (with_reducible refine (rrighth_any p xs c _ s0 hl HRR.out).mono ?_); rw [hr]; rintro r W1 ⟨rfl, g1⟩; obtain ⟨kc1, kf1, kl1, kz1, -⟩ := kept g1; (try simp at kz1); have s1 := s0.ext g1) | (go_at_call 74; go_must (with_reducible refine (ragent_any e.n _).mono ?_); rw [ha]; rintro r W9 ⟨rfl, rfl⟩) | (go_at_call 41; go_must (with_reducible refine (rowner_any e.t p xs c _ s1 hl).mono ?_); rw [hh]; rintro r W2 ⟨rfl, g2⟩; obtain ⟨kc2, kf2, kl2, kz2, -⟩ := kept g2; (try simp at kz2); have s2 := s1.ext g2) | (go_at_call 75; go_must (with_reducible refine (own_H p xs c _ s2 hl).mono ?_); rintro r W3 ⟨v, rfl, ho, g3⟩; have HW := Lib.hid ho; clear ho))
      exact bodyPost_ret (v := .tuple #[v, .bool false]) (by simp [results, Try.results37, go_sem]) rfl ⟨v, by rw [HX.out], by rw [HX.out]; exact ownsRow_le HW.out (Nat.le_trans e0.size (Nat.le_trans g1.size g2.size)), e0.tr (g1.tr (g2.tr g3))⟩
    by_cases hk4 : e.k = 4
    · have hkk := hk4
      have q1 : (e.k == 1) = false := by rw [hk4]; rfl
      have q2 : (e.k == 2) = false := by rw [hk4]; rfl
      have q3 : (e.k == 3) = false := by rw [hk4]; rfl
      have q4 : (e.k == 4) = true := by rw [hk4]; rfl
      have q5 : (e.k == 5) = false := by rw [hk4]; rfl
      clear hk1 hk2 hk3 hk4
      have hz : True := trivial
      have HX := Lib.hid (show stepR xs e = (xs, false) by unfold stepR; simp [hr, ha, hh, hm, hkk, hz])
      clear hkk
      go_wp2_with (first | (go_at_call 44; go_must (with_reducible refine (rrighth_any p xs c _ s0 hl HRR.out).mono ?_); rw [hr]; rintro r W1 ⟨rfl, g1⟩; obtain ⟨kc1, kf1, kl1, kz1, -⟩ := kept g1; (try simp at kz1); have s1 := s0.ext g1) | (go_at_call 74; go_must (with_reducible refine (ragent_any e.n _).mono ?_); rw [ha]; rintro r W9 ⟨rfl, rfl⟩) | (go_at_call 41; go_must (with_reducible refine (rowner_any e.t p xs c _ s1 hl).mono ?_); rw [hh]; rintro r W2 ⟨rfl, g2⟩; obtain ⟨kc2, kf2, kl2, kz2, -⟩ := kept g2; (try simp at kz2); have s2 := s1.ext g2) | (go_at_call 75; go_must (with_reducible refine (own_H p xs c _ s2 hl).mono ?_); rintro r W3 ⟨v, rfl, ho, g3⟩; have HW := Lib.hid ho; clear ho))
      exact bodyPost_ret (v := .tuple #[v, .bool false]) (by simp [results, Try.results37, go_sem]) rfl ⟨v, by rw [HX.out], by rw [HX.out]; exact ownsRow_le HW.out (Nat.le_trans e0.size (Nat.le_trans g1.size g2.size)), e0.tr (g1.tr (g2.tr g3))⟩
    by_cases hk5 : e.k = 5
    · have hkk := hk5
      have q1 : (e.k == 1) = false := by rw [hk5]; rfl
      have q2 : (e.k == 2) = false := by rw [hk5]; rfl
      have q3 : (e.k == 3) = false := by rw [hk5]; rfl
      have q4 : (e.k == 4) = false := by rw [hk5]; rfl
      have q5 : (e.k == 5) = true := by rw [hk5]; rfl
      clear hk1 hk2 hk3 hk4 hk5
      cases hz : zeT e.t
      · have hz' : (e.t.a == 0 && e.t.b == 0 && e.t.c == 0 && e.t.d == 0) = false := hz
        have HX := Lib.hid (show stepR xs e = (xs, false) by unfold stepR; simp [hr, ha, hh, hm, hkk, hz])
        clear hkk
        go_wp2_with (first | (go_at_call 44; go_must (with_reducible refine (rrighth_any p xs c _ s0 hl HRR.out).mono ?_); rw [hr]; rintro r W1 ⟨rfl, g1⟩; obtain ⟨kc1, kf1, kl1, kz1, -⟩ := kept g1; (try simp at kz1); have s1 := s0.ext g1) | (go_at_call 74; go_must (with_reducible refine (ragent_any e.n _).mono ?_); rw [ha]; rintro r W9 ⟨rfl, rfl⟩) | (go_at_call 41; go_must (with_reducible refine (rowner_any e.t p xs c _ s1 hl).mono ?_); rw [hh]; rintro r W2 ⟨rfl, g2⟩; obtain ⟨kc2, kf2, kl2, kz2, -⟩ := kept g2; (try simp at kz2); have s2 := s1.ext g2) | (go_at_call 75; go_must (with_reducible refine (own_H p xs c _ s2 hl).mono ?_); rintro r W3 ⟨v, rfl, ho, g3⟩; have HW := Lib.hid ho; clear ho))
        exact bodyPost_ret (v := .tuple #[v, .bool false]) (by simp [results, Try.results37, go_sem]) rfl ⟨v, by rw [HX.out], by rw [HX.out]; exact ownsRow_le HW.out (Nat.le_trans e0.size (Nat.le_trans g1.size g2.size)), e0.tr (g1.tr (g2.tr g3))⟩
      · have hz' : (e.t.a == 0 && e.t.b == 0 && e.t.c == 0 && e.t.d == 0) = true := hz
        have HX := Lib.hid (show stepR xs e = (xs.filter (fun x => !isN e.n x), true) by unfold stepR; simp [hr, ha, hh, hm, hkk, hz])
        clear hkk
        go_wp2_with (first | (go_at_call 44; go_must (with_reducible refine (rrighth_any p xs c _ s0 hl HRR.out).mono ?_); rw [hr]; rintro r W1 ⟨rfl, g1⟩; obtain ⟨kc1, kf1, kl1, kz1, -⟩ := kept g1; (try simp at kz1); have s1 := s0.ext g1) | (go_at_call 74; go_must (with_reducible refine (ragent_any e.n _).mono ?_); rw [ha]; rintro r W9 ⟨rfl, rfl⟩) | (go_at_call 41; go_must (with_reducible refine (rowner_any e.t p xs c _ s1 hl).mono ?_); rw [hh]; rintro r W2 ⟨rfl, g2⟩; obtain ⟨kc2, kf2, kl2, kz2, -⟩ := kept g2; (try simp at kz2); have s2 := s1.ext g2) | (go_at_call 77; go_must (with_reducible refine (wok_any ⟨0, 0, 0, 0⟩ e.n p xs c _ s2 hl).mono ?_); rintro r W3 ⟨v, rfl, ho, g3⟩; have HW := Lib.hid ho; clear ho))
        exact bodyPost_ret (v := .tuple #[v, .bool true]) (by simp [results, Try.results37, go_sem]) rfl ⟨v, by rw [HX.out], by rw [HX.out]; exact ownsRow_le HW.out (Nat.le_trans e0.size (Nat.le_trans g1.size g2.size)), e0.tr (g1.tr (g2.tr g3))⟩
    have hkk : True := trivial
    have hz : True := trivial
    have q1 : (e.k == 1) = false := by simp [hk1]
    have q2 : (e.k == 2) = false := by simp [hk2]
    have q3 : (e.k == 3) = false := by simp [hk3]
    have q4 : (e.k == 4) = false := by simp [hk4]
    have q5 : (e.k == 5) = false := by simp [hk5]
    have HX := Lib.hid (show stepR xs e = (xs, false) by unfold stepR; simp [hr, ha, hh, hm, hk1, hk2, hk3, hk4, hk5])
    clear hkk hk1 hk2 hk3 hk4 hk5
    go_wp2_with (first | (go_at_call 44; go_must (with_reducible refine (rrighth_any p xs c _ s0 hl HRR.out).mono ?_); rw [hr]; rintro r W1 ⟨rfl, g1⟩; obtain ⟨kc1, kf1, kl1, kz1, -⟩ := kept g1; (try simp at kz1); have s1 := s0.ext g1) | (go_at_call 74; go_must (with_reducible refine (ragent_any e.n _).mono ?_); rw [ha]; rintro r W9 ⟨rfl, rfl⟩) | (go_at_call 41; go_must (with_reducible refine (rowner_any e.t p xs c _ s1 hl).mono ?_); rw [hh]; rintro r W2 ⟨rfl, g2⟩; obtain ⟨kc2, kf2, kl2, kz2, -⟩ := kept g2; (try simp at kz2); have s2 := s1.ext g2) | (go_at_call 75; go_must (with_reducible refine (own_H p xs c _ s2 hl).mono ?_); rintro r W3 ⟨v, rfl, ho, g3⟩; have HW := Lib.hid ho; clear ho))
    exact bodyPost_ret (v := .tuple #[v, .bool false]) (by simp [results, Try.results37, go_sem]) rfl ⟨v, by rw [HX.out], by rw [HX.out]; exact ownsRow_le HW.out (Nat.le_trans e0.size (Nat.le_trans g1.size g2.size)), e0.tr (g1.tr (g2.tr g3))⟩
  cases hm : (ownI xs e.t == e.n)
  · by_cases hk1 : e.k = 1
    · have hkk := hk1
      have q1 : (e.k == 1) = true := by rw [hk1]; rfl
      have q2 : (e.k == 2) = false := by rw [hk1]; rfl
      have q3 : (e.k == 3) = false := by rw [hk1]; rfl
      have q4 : (e.k == 4) = false := by rw [hk1]; rfl
      have q5 : (e.k == 5) = false := by rw [hk1]; rfl
      clear hk1
      have hz : True := trivial
      have HX := Lib.hid (show stepR xs e = (xs, false) by unfold stepR; simp [hr, ha, hh, hm, hkk, hz])
      clear hkk
      go_wp2_with (first | (go_at_call 44; go_must (with_reducible refine (rrighth_any p xs c _ s0 hl HRR.out).mono ?_); rw [hr]; rintro r W1 ⟨rfl, g1⟩; obtain ⟨kc1, kf1, kl1, kz1, -⟩ := kept g1; (try simp at kz1); have s1 := s0.ext g1) | (go_at_call 74; go_must (with_reducible refine (ragent_any e.n _).mono ?_); rw [ha]; rintro r W9 ⟨rfl, rfl⟩) | (go_at_call 41; go_must (with_reducible refine (rowner_any e.t p xs c _ s1 hl).mono ?_); rw [hh]; rintro r W2 ⟨rfl, g2⟩; obtain ⟨kc2, kf2, kl2, kz2, -⟩ := kept g2; (try simp at kz2); have s2 := s1.ext g2) | (go_at_call 75; go_must (with_reducible refine (own_H p xs c _ s2 hl).mono ?_); rintro r W3 ⟨v, rfl, ho, g3⟩; have HW := Lib.hid ho; clear ho))
      exact bodyPost_ret (v := .tuple #[v, .bool false]) (by simp [results, Try.results37, go_sem]) rfl ⟨v, by rw [HX.out], by rw [HX.out]; exact ownsRow_le HW.out (Nat.le_trans e0.size (Nat.le_trans g1.size g2.size)), e0.tr (g1.tr (g2.tr g3))⟩
    by_cases hk2 : e.k = 2
    · have hkk := hk2
      have q1 : (e.k == 1) = false := by rw [hk2]; rfl
      have q2 : (e.k == 2) = true := by rw [hk2]; rfl
      have q3 : (e.k == 3) = false := by rw [hk2]; rfl
      have q4 : (e.k == 4) = false := by rw [hk2]; rfl
      have q5 : (e.k == 5) = false := by rw [hk2]; rfl
      clear hk1 hk2
      have hz : True := trivial
      have HX := Lib.hid (show stepR xs e = (xs, false) by unfold stepR; simp [hr, ha, hh, hm, hkk, hz])
      clear hkk
      go_wp2_with (first | (go_at_call 44; go_must (with_reducible refine (rrighth_any p xs c _ s0 hl HRR.out).mono ?_); rw [hr]; rintro r W1 ⟨rfl, g1⟩; obtain ⟨kc1, kf1, kl1, kz1, -⟩ := kept g1; (try simp at kz1); have s1 := s0.ext g1) | (go_at_call 74; go_must (with_reducible refine (ragent_any e.n _).mono ?_); rw [ha]; rintro r W9 ⟨rfl, rfl⟩) | (go_at_call 41; go_must (with_reducible refine (rowner_any e.t p xs c _ s1 hl).mono ?_); rw [hh]; rintro r W2 ⟨rfl, g2⟩; obtain ⟨kc2, kf2, kl2, kz2, -⟩ := kept g2; (try simp at kz2); have s2 := s1.ext g2) | (go_at_call 75; go_must (with_reducible refine (own_H p xs c _ s2 hl).mono ?_); rintro r W3 ⟨v, rfl, ho, g3⟩; have HW := Lib.hid ho; clear ho))
      exact bodyPost_ret (v := .tuple #[v, .bool false]) (by simp [results, Try.results37, go_sem]) rfl ⟨v, by rw [HX.out], by rw [HX.out]; exact ownsRow_le HW.out (Nat.le_trans e0.size (Nat.le_trans g1.size g2.size)), e0.tr (g1.tr (g2.tr g3))⟩
    by_cases hk3 : e.k = 3
    · have hkk := hk3
      have q1 : (e.k == 1) = false := by rw [hk3]; rfl
      have q2 : (e.k == 2) = false := by rw [hk3]; rfl
      have q3 : (e.k == 3) = true := by rw [hk3]; rfl
      have q4 : (e.k == 4) = false := by rw [hk3]; rfl
      have q5 : (e.k == 5) = false := by rw [hk3]; rfl
      clear hk1 hk2 hk3
      have hz : True := trivial
      have HX := Lib.hid (show stepR xs e = (xs, false) by unfold stepR; simp [hr, ha, hh, hm, hkk, hz])
      clear hkk
      go_wp2_with (first | (go_at_call 44; go_must (with_reducible refine (rrighth_any p xs c _ s0 hl HRR.out).mono ?_); rw [hr]; rintro r W1 ⟨rfl, g1⟩; obtain ⟨kc1, kf1, kl1, kz1, -⟩ := kept g1; (try simp at kz1); have s1 := s0.ext g1) | (go_at_call 74; go_must (with_reducible refine (ragent_any e.n _).mono ?_); rw [ha]; rintro r W9 ⟨rfl, rfl⟩) | (go_at_call 41; go_must (with_reducible refine (rowner_any e.t p xs c _ s1 hl).mono ?_); rw [hh]; rintro r W2 ⟨rfl, g2⟩; obtain ⟨kc2, kf2, kl2, kz2, -⟩ := kept g2; (try simp at kz2); have s2 := s1.ext g2) | (go_at_call 75; go_must (with_reducible refine (own_H p xs c _ s2 hl).mono ?_); rintro r W3 ⟨v, rfl, ho, g3⟩; have HW := Lib.hid ho; clear ho))
      exact bodyPost_ret (v := .tuple #[v, .bool false]) (by simp [results, Try.results37, go_sem]) rfl ⟨v, by rw [HX.out], by rw [HX.out]; exact ownsRow_le HW.out (Nat.le_trans e0.size (Nat.le_trans g1.size g2.size)), e0.tr (g1.tr (g2.tr g3))⟩
    by_cases hk4 : e.k = 4
    · have hkk := hk4
      have q1 : (e.k == 1) = false := by rw [hk4]; rfl
      have q2 : (e.k == 2) = false := by rw [hk4]; rfl
      have q3 : (e.k == 3) = false := by rw [hk4]; rfl
      have q4 : (e.k == 4) = true := by rw [hk4]; rfl
      have q5 : (e.k == 5) = false := by rw [hk4]; rfl
      clear hk1 hk2 hk3 hk4
      have hz : True := trivial
      have HX := Lib.hid (show stepR xs e = (xs, false) by unfold stepR; simp [hr, ha, hh, hm, hkk, hz])
      clear hkk
      go_wp2_with (first | (go_at_call 44; go_must (with_reducible refine (rrighth_any p xs c _ s0 hl HRR.out).mono ?_); rw [hr]; rintro r W1 ⟨rfl, g1⟩; obtain ⟨kc1, kf1, kl1, kz1, -⟩ := kept g1; (try simp at kz1); have s1 := s0.ext g1) | (go_at_call 74; go_must (with_reducible refine (ragent_any e.n _).mono ?_); rw [ha]; rintro r W9 ⟨rfl, rfl⟩) | (go_at_call 41; go_must (with_reducible refine (rowner_any e.t p xs c _ s1 hl).mono ?_); rw [hh]; rintro r W2 ⟨rfl, g2⟩; obtain ⟨kc2, kf2, kl2, kz2, -⟩ := kept g2; (try simp at kz2); have s2 := s1.ext g2) | (go_at_call 75; go_must (with_reducible refine (own_H p xs c _ s2 hl).mono ?_); rintro r W3 ⟨v, rfl, ho, g3⟩; have HW := Lib.hid ho; clear ho))
      exact bodyPost_ret (v := .tuple #[v, .bool false]) (by simp [results, Try.results37, go_sem]) rfl ⟨v, by rw [HX.out], by rw [HX.out]; exact ownsRow_le HW.out (Nat.le_trans e0.size (Nat.le_trans g1.size g2.size)), e0.tr (g1.tr (g2.tr g3))⟩
    by_cases hk5 : e.k = 5
    · have hkk := hk5
      have q1 : (e.k == 1) = false := by rw [hk5]; rfl
      have q2 : (e.k == 2) = false := by rw [hk5]; rfl
      have q3 : (e.k == 3) = false := by rw [hk5]; rfl
      have q4 : (e.k == 4) = false := by rw [hk5]; rfl
      have q5 : (e.k == 5) = true := by rw [hk5]; rfl
      clear hk1 hk2 hk3 hk4 hk5
      cases hz : zeT e.t
      · have hz' : (e.t.a == 0 && e.t.b == 0 && e.t.c == 0 && e.t.d == 0) = false := hz
        have HX := Lib.hid (show stepR xs e = (xs, false) by unfold stepR; simp [hr, ha, hh, hm, hkk, hz])
        clear hkk
        go_wp2_with (first | (go_at_call 44; go_must (with_reducible refine (rrighth_any p xs c _ s0 hl HRR.out).mono ?_); rw [hr]; rintro r W1 ⟨rfl, g1⟩; obtain ⟨kc1, kf1, kl1, kz1, -⟩ := kept g1; (try simp at kz1); have s1 := s0.ext g1) | (go_at_call 74; go_must (with_reducible refine (ragent_any e.n _).mono ?_); rw [ha]; rintro r W9 ⟨rfl, rfl⟩) | (go_at_call 41; go_must (with_reducible refine (rowner_any e.t p xs c _ s1 hl).mono ?_); rw [hh]; rintro r W2 ⟨rfl, g2⟩; obtain ⟨kc2, kf2, kl2, kz2, -⟩ := kept g2; (try simp at kz2); have s2 := s1.ext g2) | (go_at_call 75; go_must (with_reducible refine (own_H p xs c _ s2 hl).mono ?_); rintro r W3 ⟨v, rfl, ho, g3⟩; have HW := Lib.hid ho; clear ho))
        exact bodyPost_ret (v := .tuple #[v, .bool false]) (by simp [results, Try.results37, go_sem]) rfl ⟨v, by rw [HX.out], by rw [HX.out]; exact ownsRow_le HW.out (Nat.le_trans e0.size (Nat.le_trans g1.size g2.size)), e0.tr (g1.tr (g2.tr g3))⟩
      · have hz' : (e.t.a == 0 && e.t.b == 0 && e.t.c == 0 && e.t.d == 0) = true := hz
        have HX := Lib.hid (show stepR xs e = (xs.filter (fun x => !isN e.n x), true) by unfold stepR; simp [hr, ha, hh, hm, hkk, hz])
        clear hkk
        go_wp2_with (first | (go_at_call 44; go_must (with_reducible refine (rrighth_any p xs c _ s0 hl HRR.out).mono ?_); rw [hr]; rintro r W1 ⟨rfl, g1⟩; obtain ⟨kc1, kf1, kl1, kz1, -⟩ := kept g1; (try simp at kz1); have s1 := s0.ext g1) | (go_at_call 74; go_must (with_reducible refine (ragent_any e.n _).mono ?_); rw [ha]; rintro r W9 ⟨rfl, rfl⟩) | (go_at_call 41; go_must (with_reducible refine (rowner_any e.t p xs c _ s1 hl).mono ?_); rw [hh]; rintro r W2 ⟨rfl, g2⟩; obtain ⟨kc2, kf2, kl2, kz2, -⟩ := kept g2; (try simp at kz2); have s2 := s1.ext g2) | (go_at_call 77; go_must (with_reducible refine (wok_any ⟨0, 0, 0, 0⟩ e.n p xs c _ s2 hl).mono ?_); rintro r W3 ⟨v, rfl, ho, g3⟩; have HW := Lib.hid ho; clear ho))
        exact bodyPost_ret (v := .tuple #[v, .bool true]) (by simp [results, Try.results37, go_sem]) rfl ⟨v, by rw [HX.out], by rw [HX.out]; exact ownsRow_le HW.out (Nat.le_trans e0.size (Nat.le_trans g1.size g2.size)), e0.tr (g1.tr (g2.tr g3))⟩
    have hkk : True := trivial
    have hz : True := trivial
    have q1 : (e.k == 1) = false := by simp [hk1]
    have q2 : (e.k == 2) = false := by simp [hk2]
    have q3 : (e.k == 3) = false := by simp [hk3]
    have q4 : (e.k == 4) = false := by simp [hk4]
    have q5 : (e.k == 5) = false := by simp [hk5]
    have HX := Lib.hid (show stepR xs e = (xs, false) by unfold stepR; simp [hr, ha, hh, hm, hk1, hk2, hk3, hk4, hk5])
    clear hkk hk1 hk2 hk3 hk4 hk5
    go_wp2_with (first | (go_at_call 44; go_must (with_reducible refine (rrighth_any p xs c _ s0 hl HRR.out).mono ?_); rw [hr]; rintro r W1 ⟨rfl, g1⟩; obtain ⟨kc1, kf1, kl1, kz1, -⟩ := kept g1; (try simp at kz1); have s1 := s0.ext g1) | (go_at_call 74; go_must (with_reducible refine (ragent_any e.n _).mono ?_); rw [ha]; rintro r W9 ⟨rfl, rfl⟩) | (go_at_call 41; go_must (with_reducible refine (rowner_any e.t p xs c _ s1 hl).mono ?_); rw [hh]; rintro r W2 ⟨rfl, g2⟩; obtain ⟨kc2, kf2, kl2, kz2, -⟩ := kept g2; (try simp at kz2); have s2 := s1.ext g2) | (go_at_call 75; go_must (with_reducible refine (own_H p xs c _ s2 hl).mono ?_); rintro r W3 ⟨v, rfl, ho, g3⟩; have HW := Lib.hid ho; clear ho))
    exact bodyPost_ret (v := .tuple #[v, .bool false]) (by simp [results, Try.results37, go_sem]) rfl ⟨v, by rw [HX.out], by rw [HX.out]; exact ownsRow_le HW.out (Nat.le_trans e0.size (Nat.le_trans g1.size g2.size)), e0.tr (g1.tr (g2.tr g3))⟩
  · by_cases hk1 : e.k = 1
    · have hkk := hk1
      have q1 : (e.k == 1) = true := by rw [hk1]; rfl
      have q2 : (e.k == 2) = false := by rw [hk1]; rfl
      have q3 : (e.k == 3) = false := by rw [hk1]; rfl
      have q4 : (e.k == 4) = false := by rw [hk1]; rfl
      have q5 : (e.k == 5) = false := by rw [hk1]; rfl
      clear hk1
      have hz : True := trivial
      have HX := Lib.hid (show stepR xs e = (xs, false) by unfold stepR; simp [hr, ha, hh, hm, hkk, hz])
      clear hkk
      go_wp2_with (first | (go_at_call 44; go_must (with_reducible refine (rrighth_any p xs c _ s0 hl HRR.out).mono ?_); rw [hr]; rintro r W1 ⟨rfl, g1⟩; obtain ⟨kc1, kf1, kl1, kz1, -⟩ := kept g1; (try simp at kz1); have s1 := s0.ext g1) | (go_at_call 74; go_must (with_reducible refine (ragent_any e.n _).mono ?_); rw [ha]; rintro r W9 ⟨rfl, rfl⟩) | (go_at_call 41; go_must (with_reducible refine (rowner_any e.t p xs c _ s1 hl).mono ?_); rw [hh]; rintro r W2 ⟨rfl, g2⟩; obtain ⟨kc2, kf2, kl2, kz2, -⟩ := kept g2; (try simp at kz2); have s2 := s1.ext g2) | (go_at_call 75; go_must (with_reducible refine (own_H p xs c _ s2 hl).mono ?_); rintro r W3 ⟨v, rfl, ho, g3⟩; have HW := Lib.hid ho; clear ho))
      exact bodyPost_ret (v := .tuple #[v, .bool false]) (by simp [results, Try.results37, go_sem]) rfl ⟨v, by rw [HX.out], by rw [HX.out]; exact ownsRow_le HW.out (Nat.le_trans e0.size (Nat.le_trans g1.size g2.size)), e0.tr (g1.tr (g2.tr g3))⟩
    by_cases hk2 : e.k = 2
    · have hkk := hk2
      have q1 : (e.k == 1) = false := by rw [hk2]; rfl
      have q2 : (e.k == 2) = true := by rw [hk2]; rfl
      have q3 : (e.k == 3) = false := by rw [hk2]; rfl
      have q4 : (e.k == 4) = false := by rw [hk2]; rfl
      have q5 : (e.k == 5) = false := by rw [hk2]; rfl
      clear hk1 hk2
      have hz : True := trivial
      have HX := Lib.hid (show stepR xs e = (xs, true) by unfold stepR; simp [hr, ha, hh, hm, hkk, hz])
      clear hkk
      go_wp2_with (first | (go_at_call 44; go_must (with_reducible refine (rrighth_any p xs c _ s0 hl HRR.out).mono ?_); rw [hr]; rintro r W1 ⟨rfl, g1⟩; obtain ⟨kc1, kf1, kl1, kz1, -⟩ := kept g1; (try simp at kz1); have s1 := s0.ext g1) | (go_at_call 74; go_must (with_reducible refine (ragent_any e.n _).mono ?_); rw [ha]; rintro r W9 ⟨rfl, rfl⟩) | (go_at_call 41; go_must (with_reducible refine (rowner_any e.t p xs c _ s1 hl).mono ?_); rw [hh]; rintro r W2 ⟨rfl, g2⟩; obtain ⟨kc2, kf2, kl2, kz2, -⟩ := kept g2; (try simp at kz2); have s2 := s1.ext g2) | (go_at_call 75; go_must (with_reducible refine (own_H p xs c _ s2 hl).mono ?_); rintro r W3 ⟨v, rfl, ho, g3⟩; have HW := Lib.hid ho; clear ho))
      exact bodyPost_ret (v := .tuple #[v, .bool true]) (by simp [results, Try.results37, go_sem]) rfl ⟨v, by rw [HX.out], by rw [HX.out]; exact ownsRow_le HW.out (Nat.le_trans e0.size (Nat.le_trans g1.size g2.size)), e0.tr (g1.tr (g2.tr g3))⟩
    by_cases hk3 : e.k = 3
    · have hkk := hk3
      have q1 : (e.k == 1) = false := by rw [hk3]; rfl
      have q2 : (e.k == 2) = false := by rw [hk3]; rfl
      have q3 : (e.k == 3) = true := by rw [hk3]; rfl
      have q4 : (e.k == 4) = false := by rw [hk3]; rfl
      have q5 : (e.k == 5) = false := by rw [hk3]; rfl
      clear hk1 hk2 hk3
      have hz : True := trivial
      have HX := Lib.hid (show stepR xs e = (xs.filter (fun x => !eqH e.t x), true) by unfold stepR; simp [hr, ha, hh, hm, hkk, hz])
      clear hkk
      go_wp2_with (first | (go_at_call 44; go_must (with_reducible refine (rrighth_any p xs c _ s0 hl HRR.out).mono ?_); rw [hr]; rintro r W1 ⟨rfl, g1⟩; obtain ⟨kc1, kf1, kl1, kz1, -⟩ := kept g1; (try simp at kz1); have s1 := s0.ext g1) | (go_at_call 74; go_must (with_reducible refine (ragent_any e.n _).mono ?_); rw [ha]; rintro r W9 ⟨rfl, rfl⟩) | (go_at_call 41; go_must (with_reducible refine (rowner_any e.t p xs c _ s1 hl).mono ?_); rw [hh]; rintro r W2 ⟨rfl, g2⟩; obtain ⟨kc2, kf2, kl2, kz2, -⟩ := kept g2; (try simp at kz2); have s2 := s1.ext g2) | (go_at_call 77; go_must (with_reducible refine (wou_any e.t 0 p xs c _ s2 hl).mono ?_); rintro r W3 ⟨v, rfl, ho, g3⟩; have HW := Lib.hid ho; clear ho))
      exact bodyPost_ret (v := .tuple #[v, .bool true]) (by simp [results, Try.results37, go_sem]) rfl ⟨v, by rw [HX.out], by rw [HX.out]; exact ownsRow_le HW.out (Nat.le_trans e0.size (Nat.le_trans g1.size g2.size)), e0.tr (g1.tr (g2.tr g3))⟩
    by_cases hk4 : e.k = 4
    · have hkk := hk4
      have q1 : (e.k == 1) = false := by rw [hk4]; rfl
      have q2 : (e.k == 2) = false := by rw [hk4]; rfl
      have q3 : (e.k == 3) = false := by rw [hk4]; rfl
      have q4 : (e.k == 4) = true := by rw [hk4]; rfl
      have q5 : (e.k == 5) = false := by rw [hk4]; rfl
      clear hk1 hk2 hk3 hk4
      have hz : True := trivial
      have HX := Lib.hid (show stepR xs e = (xs.filter (fun x => !eqH e.t x), true) by unfold stepR; simp [hr, ha, hh, hm, hkk, hz])
      clear hkk
      go_wp2_with (first | (go_at_call 44; go_must (with_reducible refine (rrighth_any p xs c _ s0 hl HRR.out).mono ?_); rw [hr]; rintro r W1 ⟨rfl, g1⟩; obtain ⟨kc1, kf1, kl1, kz1, -⟩ := kept g1; (try simp at kz1); have s1 := s0.ext g1) | (go_at_call 74; go_must (with_reducible refine (ragent_any e.n _).mono ?_); rw [ha]; rintro r W9 ⟨rfl, rfl⟩) | (go_at_call 41; go_must (with_reducible refine (rowner_any e.t p xs c _ s1 hl).mono ?_); rw [hh]; rintro r W2 ⟨rfl, g2⟩; obtain ⟨kc2, kf2, kl2, kz2, -⟩ := kept g2; (try simp at kz2); have s2 := s1.ext g2) | (go_at_call 77; go_must (with_reducible refine (wou_any e.t 0 p xs c _ s2 hl).mono ?_); rintro r W3 ⟨v, rfl, ho, g3⟩; have HW := Lib.hid ho; clear ho))
      exact bodyPost_ret (v := .tuple #[v, .bool true]) (by simp [results, Try.results37, go_sem]) rfl ⟨v, by rw [HX.out], by rw [HX.out]; exact ownsRow_le HW.out (Nat.le_trans e0.size (Nat.le_trans g1.size g2.size)), e0.tr (g1.tr (g2.tr g3))⟩
    by_cases hk5 : e.k = 5
    · have hkk := hk5
      have q1 : (e.k == 1) = false := by rw [hk5]; rfl
      have q2 : (e.k == 2) = false := by rw [hk5]; rfl
      have q3 : (e.k == 3) = false := by rw [hk5]; rfl
      have q4 : (e.k == 4) = false := by rw [hk5]; rfl
      have q5 : (e.k == 5) = true := by rw [hk5]; rfl
      clear hk1 hk2 hk3 hk4 hk5
      cases hz : zeT e.t
      · have hz' : (e.t.a == 0 && e.t.b == 0 && e.t.c == 0 && e.t.d == 0) = false := hz
        have HX := Lib.hid (show stepR xs e = (xs, false) by unfold stepR; simp [hr, ha, hh, hm, hkk, hz])
        clear hkk
        go_wp2_with (first | (go_at_call 44; go_must (with_reducible refine (rrighth_any p xs c _ s0 hl HRR.out).mono ?_); rw [hr]; rintro r W1 ⟨rfl, g1⟩; obtain ⟨kc1, kf1, kl1, kz1, -⟩ := kept g1; (try simp at kz1); have s1 := s0.ext g1) | (go_at_call 74; go_must (with_reducible refine (ragent_any e.n _).mono ?_); rw [ha]; rintro r W9 ⟨rfl, rfl⟩) | (go_at_call 41; go_must (with_reducible refine (rowner_any e.t p xs c _ s1 hl).mono ?_); rw [hh]; rintro r W2 ⟨rfl, g2⟩; obtain ⟨kc2, kf2, kl2, kz2, -⟩ := kept g2; (try simp at kz2); have s2 := s1.ext g2) | (go_at_call 75; go_must (with_reducible refine (own_H p xs c _ s2 hl).mono ?_); rintro r W3 ⟨v, rfl, ho, g3⟩; have HW := Lib.hid ho; clear ho))
        exact bodyPost_ret (v := .tuple #[v, .bool false]) (by simp [results, Try.results37, go_sem]) rfl ⟨v, by rw [HX.out], by rw [HX.out]; exact ownsRow_le HW.out (Nat.le_trans e0.size (Nat.le_trans g1.size g2.size)), e0.tr (g1.tr (g2.tr g3))⟩
      · have hz' : (e.t.a == 0 && e.t.b == 0 && e.t.c == 0 && e.t.d == 0) = true := hz
        have HX := Lib.hid (show stepR xs e = (xs.filter (fun x => !isN e.n x), true) by unfold stepR; simp [hr, ha, hh, hm, hkk, hz])
        clear hkk
        go_wp2_with (first | (go_at_call 44; go_must (with_reducible refine (rrighth_any p xs c _ s0 hl HRR.out).mono ?_); rw [hr]; rintro r W1 ⟨rfl, g1⟩; obtain ⟨kc1, kf1, kl1, kz1, -⟩ := kept g1; (try simp at kz1); have s1 := s0.ext g1) | (go_at_call 74; go_must (with_reducible refine (ragent_any e.n _).mono ?_); rw [ha]; rintro r W9 ⟨rfl, rfl⟩) | (go_at_call 41; go_must (with_reducible refine (rowner_any e.t p xs c _ s1 hl).mono ?_); rw [hh]; rintro r W2 ⟨rfl, g2⟩; obtain ⟨kc2, kf2, kl2, kz2, -⟩ := kept g2; (try simp at kz2); have s2 := s1.ext g2) | (go_at_call 77; go_must (with_reducible refine (wok_any ⟨0, 0, 0, 0⟩ e.n p xs c _ s2 hl).mono ?_); rintro r W3 ⟨v, rfl, ho, g3⟩; have HW := Lib.hid ho; clear ho))
        exact bodyPost_ret (v := .tuple #[v, .bool true]) (by simp [results, Try.results37, go_sem]) rfl ⟨v, by rw [HX.out], by rw [HX.out]; exact ownsRow_le HW.out (Nat.le_trans e0.size (Nat.le_trans g1.size g2.size)), e0.tr (g1.tr (g2.tr g3))⟩
    have hkk : True := trivial
    have hz : True := trivial
    have q1 : (e.k == 1) = false := by simp [hk1]
    have q2 : (e.k == 2) = false := by simp [hk2]
    have q3 : (e.k == 3) = false := by simp [hk3]
    have q4 : (e.k == 4) = false := by simp [hk4]
    have q5 : (e.k == 5) = false := by simp [hk5]
    have HX := Lib.hid (show stepR xs e = (xs, false) by unfold stepR; simp [hr, ha, hh, hm, hk1, hk2, hk3, hk4, hk5])
    clear hkk hk1 hk2 hk3 hk4 hk5
    go_wp2_with (first | (go_at_call 44; go_must (with_reducible refine (rrighth_any p xs c _ s0 hl HRR.out).mono ?_); rw [hr]; rintro r W1 ⟨rfl, g1⟩; obtain ⟨kc1, kf1, kl1, kz1, -⟩ := kept g1; (try simp at kz1); have s1 := s0.ext g1) | (go_at_call 74; go_must (with_reducible refine (ragent_any e.n _).mono ?_); rw [ha]; rintro r W9 ⟨rfl, rfl⟩) | (go_at_call 41; go_must (with_reducible refine (rowner_any e.t p xs c _ s1 hl).mono ?_); rw [hh]; rintro r W2 ⟨rfl, g2⟩; obtain ⟨kc2, kf2, kl2, kz2, -⟩ := kept g2; (try simp at kz2); have s2 := s1.ext g2) | (go_at_call 75; go_must (with_reducible refine (own_H p xs c _ s2 hl).mono ?_); rintro r W3 ⟨v, rfl, ho, g3⟩; have HW := Lib.hid ho; clear ho))
    exact bodyPost_ret (v := .tuple #[v, .bool false]) (by simp [results, Try.results37, go_sem]) rfl ⟨v, by rw [HX.out], by rw [HX.out]; exact ownsRow_le HW.out (Nat.le_trans e0.size (Nat.le_trans g1.size g2.size)), e0.tr (g1.tr (g2.tr g3))⟩

end Go.Proofs.Ytookffaojlkfaaa

/- Run, the program's and the document's. -/
namespace Go.Proofs.Ytookffaojlkfaaa
open Go.RowKit

/-- A slice of events reads as a list. -/
def SlE (w : World) (p : Option Addr) (es : List Ev) : Prop := ∀ k, (h : k < es.length) → ∃ b off, p = some ⟨b, off, none⟩ ∧ b < w.heap.size ∧ w.cell? ⟨b, off + k * 6, none⟩ = some (.int .u8 es[k].k) ∧ w.cell? ⟨b, off + k * 6 + 1, none⟩ = some (.int .i64 es[k].n) ∧ w.cell? ⟨b, off + k * 6 + 2, none⟩ = some (.int .u32 es[k].t.a) ∧ w.cell? ⟨b, off + k * 6 + 3, none⟩ = some (.int .u32 es[k].t.b) ∧ w.cell? ⟨b, off + k * 6 + 4, none⟩ = some (.int .u16 es[k].t.c) ∧ w.cell? ⟨b, off + k * 6 + 5, none⟩ = some (.int .u16 es[k].t.d)
theorem SlE.ext {w w' : World} {p : Option Addr} {es : List Ev} (h : SlE w p es) (e : Ext w w') : SlE w' p es := fun k hk => by
  obtain ⟨b, off, hp, hb, c0, c1, c2, c3, c4, c5⟩ := h k hk
  exact ⟨b, off, hp, Nat.lt_of_lt_of_le hb e.size, (e.cell (p := ⟨b, off + k * 6, none⟩) hb).trans c0, (e.cell (p := ⟨b, off + k * 6 + 1, none⟩) hb).trans c1, (e.cell (p := ⟨b, off + k * 6 + 2, none⟩) hb).trans c2, (e.cell (p := ⟨b, off + k * 6 + 3, none⟩) hb).trans c3, (e.cell (p := ⟨b, off + k * 6 + 4, none⟩) hb).trans c4, (e.cell (p := ⟨b, off + k * 6 + 5, none⟩) hb).trans c5⟩
theorem SlE.nil (w : World) (p : Option Addr) : SlE w p [] := fun k hk => by simp at hk
def runH : List Ho → List Ev → List Ho × Nat × Bool
  | xs, [] => (xs, 0, true)
  | xs, e :: es => if (stepH xs e).2 = true then ((runH (stepH xs e).1 es).1, (runH (stepH xs e).1 es).2.1 + 1, (runH (stepH xs e).1 es).2.2) else (xs, 0, false)
/-- Behind q events the table is ys. -/
def RunAt (xs : List Ho) (es : List Ev) (q : Nat) (ys : List Ho) : Prop := runH xs es = ((runH ys (es.drop q)).1, (runH ys (es.drop q)).2.1 + q, (runH ys (es.drop q)).2.2) ∧ ys.length ≤ xs.length + q ∧ ∀ y ∈ ys, y ∈ xs ∨ ∃ e ∈ es, y = zOf e
theorem RunAt.start (xs : List Ho) (es : List Ev) : RunAt xs es 0 xs := ⟨rfl, Nat.le_refl _, fun y h => .inl h⟩
theorem drop_cons {α : Type} {es : List α} {q : Nat} (h : q < es.length) : es.drop q = es[q] :: es.drop (q + 1) := List.drop_eq_getElem_cons h
theorem RunAt.next {xs ys : List Ho} {es : List Ev} {q : Nat} {e : Ev} (h : RunAt xs es q ys) (hq : q < es.length) (he : es[q] = e) (hs : (stepH ys e).2 = true) : RunAt xs es (q + 1) (stepH ys e).1 := by
  obtain ⟨h1, h2, h3⟩ := h
  refine ⟨?_, ?_, fun y hy => ?_⟩
  · rw [h1, drop_cons hq, he, runH, if_pos hs]
    refine Prod.ext rfl (Prod.ext ?_ rfl)
    show _ + 1 + q = _ + (q + 1)
    omega
  · have := step_len ys e; omega
  · rcases step_mem hy with h | h
    · exact .inr ⟨e, by rw [← he]; exact List.getElem_mem hq, h⟩
    · exact h3 y h
theorem RunAt.no {xs ys : List Ho} {es : List Ev} {q : Nat} {e : Ev} (h : RunAt xs es q ys) (hq : q < es.length) (he : es[q] = e) (hs : (stepH ys e).2 = false) : runH xs es = (ys, q, false) := by
  rw [h.1, drop_cons hq, he, runH, if_neg (by rw [hs]; decide), Nat.zero_add]
theorem RunAt.done {xs ys : List Ho} {es : List Ev} {q : Nat} (h : RunAt xs es q ys) (hq : ¬ q < es.length) : runH xs es = (ys, q, true) := by
  rw [h.1, List.drop_of_length_le (by omega), runH, Nat.zero_add]
theorem RunAt.tu {xs ys : List Ho} {es : List Ev} {q : Nat} (h : RunAt xs es q ys) (hx : ∀ x ∈ xs, TuR x.t) (he : ∀ e ∈ es, TuR e.t) : ∀ y ∈ ys, TuR y.t := fun y hy => by
  rcases h.2.2 y hy with h | ⟨e, h, rfl⟩
  · exact hx y h
  · exact he e h
theorem rstep_H (e : Ev) (p : Option Addr) (xs : List Ho) (c : Nat) (w : World) (hs : SlH w p xs) (hl : xs.length ≤ 1000) (hc : xs.length ≤ c) (hrr : ∀ x ∈ xs, TuR x.t) (hrt : TuR e.t) :
    Calls Try.prog 37 #[.slice p xs.length c, .agg #[.int .u8 e.k, .int .i64 e.n, .int .u32 e.t.a, .int .u32 e.t.b, .int .u16 e.t.c, .int .u16 e.t.d]] w fun r w' => ∃ v', r = .returned (.tuple #[v', .bool (stepH xs e).2]) ∧ OwnH w' w.heap.size v' (stepH xs e).1 ∧ Ext w w' := by
  rw [← step_eq]; exact rstep_any e p xs c w hs hl hc hrr hrt

set_option maxRecDepth 100000 in
set_option maxHeartbeats 8000000 in
theorem rrun_any (p : Option Addr) (xs : List Ho) (c : Nat) (q : Option Addr) (es : List Ev) (d : Nat) (w : World) (hs : SlH w p xs) (he : SlE w q es) (hl : xs.length + es.length ≤ 1000) (hc : xs.length ≤ c) (hrr : ∀ x ∈ xs, TuR x.t) (hre : ∀ e ∈ es, TuR e.t) :
    Calls Try.prog 39 #[.slice p xs.length c, .slice q es.length d] w fun r w' => ∃ v', r = .returned (.tuple #[v', .int .i64 (runH xs es).2.1, .bool (runH xs es).2.2]) ∧ OwnH w' w.heap.size v' (runH xs es).1 ∧ Ext w w' := by
  have HRR := Lib.hid hrr
  have HRE := Lib.hid hre
  clear hrr hre
  have HS := Lib.hid hs
  have HE := Lib.hid he
  clear hs he
  go_enter Try.func39, Try.ntmps39
  go_wp2_with (go_at_call 75; go_must (with_reducible refine (own_H p xs c _ HS.out (by omega)).mono ?_); rintro r W1 ⟨v, rfl, ho, g1⟩; have HO1 := Lib.hid ho; clear ho)
  go_loopw [0, 7, 8, 9] (fun v a _ _ wr => ∃ k : Nat, k ≤ es.length ∧ a = .int .i64 k ∧ (∃ ys, OwnH wr w.heap.size v ys ∧ RunAt xs es k ys) ∧ Ext w wr) (fun _ a _ _ _ => es.length - (intOf a).toNat)
  case atStart => exact ⟨0, Nat.zero_le _, rfl, ⟨xs, HO1.out, RunAt.start xs es⟩, g1⟩
  case round =>
    obtain ⟨k, hk, rfl, ⟨ys, ho, hR⟩, hE⟩ := hrel
    obtain ⟨py, cy, rfl, hcy, hsy⟩ := ho.sl
    have HO := Lib.hid ho
    have hlen := hR.2.1
    have hbw := hE.size
    by_cases hlt : k < es.length
    · have hil : (k : Int) < es.length := by omega
      obtain ⟨b, off, rfl, hb, c0, c1, c2, c3, c4, c5⟩ := (HE.out.ext hE) k hlt
      obtain ⟨e, hx⟩ : ∃ e, es[k] = e := ⟨_, rfl⟩
      rw [hx] at c0 c1 c2 c3 c4 c5
      have lbb : Lt b wr := hb
      have HTY := Lib.hid (hR.tu HRR.out HRE.out)
      have hly : ys.length ≤ 1000 := by omega
      cases hst : (stepH ys e).2
      · have HN := Lib.hid (hR.no hlt hx hst)
        have HT := Lib.hid (HRE.out e (by rw [← hx]; exact List.getElem_mem hlt))
        clear hR hx hb ho
        go_wp2_with (go_at_call 37; go_must (with_reducible refine (rstep_H e py ys cy _ hsy hly hcy HTY.out HT.out).mono ?_); rw [hst]; rintro r W3 ⟨v', rfl, ho3, g3⟩; have HO3 := Lib.hid ho3; clear ho3)
        exact bodyPost_ret (v := .tuple #[.slice py ys.length cy, .int .i64 k, .bool false]) (by simp [results, Try.results39, go_sem]) rfl ⟨.slice py ys.length cy, by rw [HN.out], by rw [HN.out]; exact HO.out.ext g3, hE.tr g3⟩
      · have HN := Lib.hid (hR.next hlt hx hst)
        have HT := Lib.hid (HRE.out e (by rw [← hx]; exact List.getElem_mem hlt))
        clear hR hx hb ho
        go_wp2_with (go_at_call 37; go_must (with_reducible refine (rstep_H e py ys cy _ hsy hly hcy HTY.out HT.out).mono ?_); rw [hst]; rintro r W3 ⟨v', rfl, ho3, g3⟩; have HO3 := Lib.hid ho3; clear ho3)
        go_roundw
        case rel => exact ⟨k + 1, by omega, by go_num, ⟨_, ownsRow_le HO3.out hbw, HN.out⟩, hE.tr g3⟩
        case measure => simp [intOf]; omega
    · have hil : ¬ ((k : Int) < es.length) := by omega
      have HN := Lib.hid (hR.done hlt)
      obtain rfl : k = es.length := by omega
      clear hR ho hsy
      go_wp2
      exact bodyPost_ret (v := .tuple #[.slice py ys.length cy, .int .i64 es.length, .bool true]) (by simp [results, Try.results39, go_sem]) rfl ⟨.slice py ys.length cy, by rw [HN.out], by rw [HN.out]; exact HO.out, hE⟩


set_option maxRecDepth 100000 in
set_option maxHeartbeats 8000000 in
theorem irun_any (p : Option Addr) (xs : List Ho) (c : Nat) (q : Option Addr) (es : List Ev) (d : Nat) (w : World) (hs : SlH w p xs) (he : SlE w q es) (hl : xs.length + es.length ≤ 1000) :
    Calls Try.prog 38 #[.slice p xs.length c, .slice q es.length d] w fun r w' => ∃ v', r = .returned (.tuple #[v', .int .i64 (runH xs es).2.1, .bool (runH xs es).2.2]) ∧ OwnH w' w.heap.size v' (runH xs es).1 ∧ Ext w w' := by
  have HS := Lib.hid hs
  have HE := Lib.hid he
  clear hs he
  go_enter Try.func38, Try.ntmps38
  go_wp2_with (go_at_call 73; go_must (with_reducible refine (clone_H p xs c _ HS.out (by omega)).mono ?_); rintro r W1 ⟨v, rfl, ho, g1⟩; have HO1 := Lib.hid ho; clear ho)
  go_loopw [4, 5, 8, 9, 10, 15] (fun v m _ _ _ a wr => ∃ k : Nat, k ≤ es.length ∧ a = .int .i64 k ∧ m = .int .i64 k ∧ (∃ ys, OwnH wr w.heap.size v ys ∧ RunAt xs es k ys) ∧ Ext w wr) (fun _ _ _ _ _ a _ => es.length - (intOf a).toNat)
  case atStart => exact ⟨0, Nat.zero_le _, rfl, rfl, ⟨xs, HO1.out, RunAt.start xs es⟩, g1⟩
  case round =>
    obtain ⟨k, hk, rfl, rfl, ⟨ys, ho, hR⟩, hE⟩ := hrel
    obtain ⟨py, cy, rfl, hcy, hsy⟩ := ho.sl
    have HO := Lib.hid ho
    have hlen := hR.2.1
    have hbw := hE.size
    by_cases hlt : k < es.length
    · have hil : (k : Int) < es.length := by omega
      obtain ⟨b, off, rfl, hb, c0, c1, c2, c3, c4, c5⟩ := (HE.out.ext hE) k hlt
      obtain ⟨e, hx⟩ : ∃ e, es[k] = e := ⟨_, rfl⟩
      rw [hx] at c0 c1 c2 c3 c4 c5
      have lbb : Lt b wr := hb
      have hly : ys.length ≤ 1000 := by omega
      cases hst : (stepH ys e).2
      · have HN := Lib.hid (hR.no hlt hx hst)
        have HT := Lib.hid (trivial)
        clear hR hx hb ho
        go_upto_region 5 with (fail)
        obtain ⟨Wb, hW⟩ : ∃ Wb, wr.alloc (.cells #[.int .u8 e.k, .int .i64 e.n, .int .u32 e.t.a, .int .u32 e.t.b, .int .u16 e.t.c, .int .u16 e.t.d] 52) = Wb := ⟨_, rfl⟩
        have gb : Ext wr Wb := by rw [← hW]; exact Ext.al (Ext.rf _) _
        have he : EvAt Wb wr.heap.size e := by rw [← hW]; unfold EvAt; simp [go_sem, Lt]
        have hsb := hsy.ext gb
        rw [hW]
        clear hW c0 c1 c2 c3 c4 c5 lbb
        obtain ⟨c0, c1, c2, c3, c4, c5⟩ := he.cells
        have lB : Lt wr.heap.size Wb := he.2
        clear he
        generalize wr.heap.size = BX at *
        go_wp2_with (go_at_call 36; go_must (with_reducible refine (step_any e py ys cy _ hsb hly).mono ?_); rw [hst]; rintro r W3 ⟨v', rfl, ho3, g3⟩; have HO3 := Lib.hid ho3; clear ho3)
        exact bodyPost_ret (v := .tuple #[.slice py ys.length cy, .int .i64 k, .bool false]) (by simp [results, Try.results38, go_sem]) rfl ⟨.slice py ys.length cy, by rw [HN.out], by rw [HN.out]; exact HO.out.ext (gb.tr g3), hE.tr (gb.tr g3)⟩
      · have HN := Lib.hid (hR.next hlt hx hst)
        have HT := Lib.hid (trivial)
        clear hR hx hb ho
        go_upto_region 5 with (fail)
        obtain ⟨Wb, hW⟩ : ∃ Wb, wr.alloc (.cells #[.int .u8 e.k, .int .i64 e.n, .int .u32 e.t.a, .int .u32 e.t.b, .int .u16 e.t.c, .int .u16 e.t.d] 52) = Wb := ⟨_, rfl⟩
        have gb : Ext wr Wb := by rw [← hW]; exact Ext.al (Ext.rf _) _
        have he : EvAt Wb wr.heap.size e := by rw [← hW]; unfold EvAt; simp [go_sem, Lt]
        have hsb := hsy.ext gb
        rw [hW]
        clear hW c0 c1 c2 c3 c4 c5 lbb
        obtain ⟨c0, c1, c2, c3, c4, c5⟩ := he.cells
        have lB : Lt wr.heap.size Wb := he.2
        clear he
        generalize wr.heap.size = BX at *
        go_wp2_with (go_at_call 36; go_must (with_reducible refine (step_any e py ys cy _ hsb hly).mono ?_); rw [hst]; rintro r W3 ⟨v', rfl, ho3, g3⟩; have HO3 := Lib.hid ho3; clear ho3)
        go_roundw
        case rel => exact ⟨k + 1, by omega, by go_num, by go_num, ⟨_, ownsRow_le HO3.out (hE.tr gb).size, HN.out⟩, hE.tr (gb.tr g3)⟩
        case measure => simp [intOf]; omega
    · have hil : ¬ ((k : Int) < es.length) := by omega
      have HN := Lib.hid (hR.done hlt)
      obtain rfl : k = es.length := by omega
      clear hR ho hsy
      go_wp2
      exact bodyPost_ret (v := .tuple #[.slice py ys.length cy, .int .i64 es.length, .bool true]) (by simp [results, Try.results38, go_sem]) rfl ⟨.slice py ys.length cy, by rw [HN.out], by rw [HN.out]; exact HO.out, hE⟩


end Go.Proofs.Ytookffaojlkfaaa

/- A region that draws, whose operations turn blocks of C alone; what is done are the bits of a number. (My own law; any program.) -/
namespace Go.Proofs.Ytookffaojlkfaaa
open Go.RowKit

section
variable {P : Program} {ops : Array Oper} {C : Nat → Prop}
/-- Those are done whose bits are set. -/
def msk (n m : Nat) : Array Bool := ((List.range n).map fun j => m.testBit j).toArray
theorem msk_set (n k m : Nat) : (msk n m).setIfInBounds k true = msk n (m ||| (1 <<< k)) := by
  unfold msk
  refine Array.ext_getElem? fun i => ?_
  rw [Array.getElem?_setIfInBounds]
  by_cases hi : i < n
  · by_cases h : k = i
    · subst h; simp [hi, Nat.testBit_or, Nat.testBit_shiftLeft]
    · have h' : ¬ i = k := fun e => h e.symm
      by_cases hki : k ≤ i
      · have : ¬ i - k = 0 := by omega
        simp [h, h', hi, Nat.testBit_or, Nat.testBit_shiftLeft, hki, Nat.testBit_one_eq_true_iff_self_eq_zero, this]
      · simp [h, h', hi, Nat.testBit_or, Nat.testBit_shiftLeft, hki]
  · by_cases h : k = i
    · subst h; simp [hi]
    · simp [h, hi]
theorem msk_zero (n : Nat) : Array.replicate n false = msk n 0 := by
  unfold msk
  refine Array.ext_getElem? fun i => ?_
  by_cases hi : i < n <;> simp [hi, Array.getElem?_replicate]
/-- These may be taken one behind the other. -/
def stepsM (ops : Array Oper) (n : Nat) : List Nat → Nat → Bool
  | [], _ => true
  | k :: rest, m => Region.free .any ops (msk n m) k && upX ops (msk n m) k && stepsM ops n rest (m ||| (1 <<< k))
theorem stepsM_one {N k m m' : Nat} {rest : List Nat} (ht : stepsM ops N (k :: rest) m = true) (hm : m ||| (1 <<< k) = m') : Region.free .any ops (msk N m) k = true ∧ upX ops (msk N m) k = true ∧ (msk N m).setIfInBounds k true = msk N m' ∧ stepsM ops N rest m' = true := by
  unfold stepsM at ht
  simp only [Bool.and_eq_true] at ht
  obtain ⟨⟨t1, t2⟩, t5⟩ := ht
  exact ⟨t1, t2, by rw [msk_set, hm], by rw [← hm]; exact t5⟩
theorem takeM {Q : Act → World → Prop} {N k m m' : Nat} {rest : List Nat} {oi : Oper} {v : Value} {fuel : Nat} {a : Act} {w : World} (hs : Region.noSelect ops = true) (ht : stepsM ops N (k :: rest) m = true) (hm : m ||| (1 <<< k) = m')
    (hi : ops[k]? = some oi) (hw : Region.wanted oi (yielded ops a.tmps) = true) (hy : ∀ w', Mv C w w' → (execOp a.eval oi).run P w' = .ok (.value v) w')
    (H : stepsM ops N rest m' = true → wpAnyK C P .any ops Q fuel (msk N m') (a.put oi.dst v) w) : wpAnyK C P .any ops Q (fuel + 1) (msk N m) a w := by
  obtain ⟨t1, t2, t3, t4⟩ := stepsM_one ht hm
  refine takeK hi hs t1 (upX_ready t2) hw hy ?_
  rw [t3]
  exact H t4
/-- What is not wanted. -/
theorem takeU {Q : Act → World → Prop} {N k m m' : Nat} {rest : List Nat} {oi : Oper} {fuel : Nat} {a : Act} {w : World} (hs : Region.noSelect ops = true) (ht : stepsM ops N (k :: rest) m = true) (hm : m ||| (1 <<< k) = m')
    (hi : ops[k]? = some oi) (hw : Region.wanted oi (yielded ops a.tmps) = false)
    (H : stepsM ops N rest m' = true → wpAnyK C P .any ops Q fuel (msk N m') (a.put oi.dst undef) w) : wpAnyK C P .any ops Q (fuel + 1) (msk N m) a w := by
  obtain ⟨t1, t2, t3, t4⟩ := stepsM_one ht hm
  refine wpAnyK_first hi (Region.noSelect_spec hs) fuel _ a w (Region.free_spec hi t1) (by simpa using upX_ready t2) (.inr (.inl ⟨hw, rfl⟩)) ?_
  rw [t3]
  exact H t4
/-- A call that leaves the world as it was. -/
theorem takeP {Q : Act → World → Prop} {N k m m' : Nat} {rest : List Nat} {oi : Oper} {v : Value} {fuel : Nat} {a : Act} {w : World} {f : FuncId} {args : Array Value} (hs : Region.noSelect ops = true) (ht : stepsM ops N (k :: rest) m = true) (hm : m ||| (1 <<< k) = m')
    (hi : ops[k]? = some oi) (hw : Region.wanted oi (yielded ops a.tmps) = true) (he : ∀ w', Mv C w w' → (execOp a.eval oi).run P w' = .ok (.enter f args) w') (hc : ∀ w', Mv C w w' → Calls P f args w' fun e w'' => e = .returned v ∧ w'' = w')
    (H : stepsM ops N rest m' = true → wpAnyK C P .any ops Q fuel (msk N m') (a.put oi.dst v) w) : wpAnyK C P .any ops Q (fuel + 1) (msk N m) a w := by
  obtain ⟨t1, t2, t3, t4⟩ := stepsM_one ht hm
  refine wpAnyK_first hi (Region.noSelect_spec hs) fuel _ a w (Region.free_spec hi t1) (by simpa using upX_ready t2) (.inr (.inr ⟨hw, f, args, fun w' h => ⟨he w' h, hc w' h⟩⟩)) ?_
  rw [t3]
  exact H t4
/-- One operation, and then the others. -/
structure StepM (C : Nat → Prop) (P : Program) (ops : Array Oper) (Q : Act → World → Prop) (fuel N k m : Nat) (a : Act) (w : World) : Prop where
  h : xOpK P ops k (fun a' w' => Mv C w w' ∧ wpAnyK C P .any ops Q fuel (msk N (m ||| (1 <<< k))) a' w') a w
theorem soleM {Q : Act → World → Prop} {N k m : Nat} {fuel : Nat} {a : Act} {w : World} (hr : Region.ready .any ops (msk N m) = [k]) (H : StepM C P ops Q fuel N k m a w) : wpAnyK C P .any ops Q (fuel + 1) (msk N m) a w := by
  refine ⟨fun h0 => ?_, fun j hj => ?_⟩
  · rw [hr] at h0; cases h0
  · rw [hr] at hj
    obtain rfl : j = k := by simpa using hj
    rw [msk_set]
    exact H.h
theorem twoM {Q : Act → World → Prop} {N i j m : Nat} {fuel : Nat} {a : Act} {w : World} (hr : Region.ready .any ops (msk N m) = [i, j]) (Hi : StepM C P ops Q fuel N i m a w) (Hj : StepM C P ops Q fuel N j m a w) : wpAnyK C P .any ops Q (fuel + 1) (msk N m) a w := by
  refine ⟨fun h0 => ?_, fun k hk => ?_⟩
  · rw [hr] at h0; cases h0
  · rw [hr] at hk
    have hk' : k = i ∨ k = j := by simpa using hk
    rw [msk_set]
    rcases hk' with rfl | rfl
    · exact Hi.h
    · exact Hj.h
theorem makeM {Q : Act → World → Prop} {N k m m' : Nat} {oi : Oper} {v : Value} {fuel : Nat} {a : Act} {w w1 : World} (hm : m ||| (1 <<< k) = m') (hi : ops[k]? = some oi) (hw : Region.wanted oi (yielded ops a.tmps) = true)
    (he : (execOp a.eval oi).run P w = .ok (.value v) w1) (hE : Mv C w w1) (H : wpAnyK C P .any ops Q fuel (msk N m') (a.put oi.dst v) w1) : StepM C P ops Q fuel N k m a w := by
  refine ⟨?_⟩
  unfold xOpK
  simp only [hi, hw, if_true, he, hm]
  exact ⟨hE, H⟩
theorem callM {R : Value → World → Prop} {Q : Act → World → Prop} {N k m m' : Nat} {oi : Oper} {f : FuncId} {args : Array Value} {fuel : Nat} {a : Act} {w : World} (hm : m ||| (1 <<< k) = m') (hi : ops[k]? = some oi) (hw : Region.wanted oi (yielded ops a.tmps) = true)
    (he : (execOp a.eval oi).run P w = .ok (.enter f args) w) (hc : Calls P f args w fun e w' => ∃ v, e = .returned v ∧ R v w' ∧ Ext w w')
    (H : ∀ v w', Ext w w' → R v w' → wpAnyK C P .any ops Q fuel (msk N m') (a.put oi.dst v) w') : StepM C P ops Q fuel N k m a w := by
  refine ⟨?_⟩
  unfold xOpK
  simp only [hi, hw, if_true, he, hm]
  exact hc.mono fun e w' ⟨v, h1, h2, h3⟩ => ⟨v, h1, Mv.of_ext h3, H v w' h3 h2⟩
theorem callMv {R : Value → World → Prop} {Q : Act → World → Prop} {N k m m' : Nat} {oi : Oper} {f : FuncId} {args : Array Value} {fuel : Nat} {a : Act} {w : World} (hm : m ||| (1 <<< k) = m') (hi : ops[k]? = some oi) (hw : Region.wanted oi (yielded ops a.tmps) = true)
    (he : (execOp a.eval oi).run P w = .ok (.enter f args) w) (hc : Calls P f args w fun e w' => ∃ v, e = .returned v ∧ R v w' ∧ Mv C w w')
    (H : ∀ v w', Mv C w w' → R v w' → wpAnyK C P .any ops Q fuel (msk N m') (a.put oi.dst v) w') : StepM C P ops Q fuel N k m a w := by
  refine ⟨?_⟩
  unfold xOpK
  simp only [hi, hw, if_true, he, hm]
  exact hc.mono fun e w' ⟨v, h1, h2, h3⟩ => ⟨v, h1, h3, H v w' h3 h2⟩
/-- A call, and a row that is made: in either order. -/
theorem forkMM {R : Value → World → Prop} {Q : Act → World → Prop} {N i j m m' : Nat} {oi oj : Oper} {f : FuncId} {xa : Array Value} {fuel : Nat} {a : Act} {w : World} {V : Nat → Value} {o : Obj}
    (r0 : Region.ready .any ops (msk N m) = [i, j]) (r1 : Region.ready .any ops (msk N (m ||| (1 <<< i))) = [j]) (r2 : Region.ready .any ops (msk N (m ||| (1 <<< j))) = [i]) (h1 : (m ||| (1 <<< i)) ||| (1 <<< j) = m') (h2 : (m ||| (1 <<< j)) ||| (1 <<< i) = m') (hi : ops[i]? = some oi) (hj : ops[j]? = some oj)
    (wi : Region.wanted oi (yielded ops a.tmps) = true) (wi' : ∀ v, Region.wanted oi (yielded ops (a.put oj.dst v).tmps) = true) (wj : Region.wanted oj (yielded ops a.tmps) = true) (wj' : ∀ v, Region.wanted oj (yielded ops (a.put oi.dst v).tmps) = true)
    (ei : ∀ w', (execOp a.eval oi).run P w' = .ok (.enter f xa) w') (ei' : ∀ v w', (execOp (a.put oj.dst v).eval oi).run P w' = .ok (.enter f xa) w')
    (ej : ∀ w' : World, (execOp a.eval oj).run P w' = .ok (.value (V w'.heap.size)) (w'.alloc o)) (ej' : ∀ v (w' : World), (execOp (a.put oi.dst v).eval oj).run P w' = .ok (.value (V w'.heap.size)) (w'.alloc o))
    (ci : ∀ w', Ext w w' → Calls P f xa w' fun e w'' => ∃ v, e = .returned v ∧ R v w'' ∧ Ext w' w'') (s1 : ∀ v w1 w2, R v w1 → Ext w1 w2 → R v w2)
    (hpc : ∀ v1 v2, (a.put oi.dst v1).put oj.dst v2 = (a.put oj.dst v2).put oi.dst v1)
    (H : ∀ v1 b w', Ext w w' → R v1 w' → w'.heap[b]? = some o → wpAnyK C P .any ops Q fuel (msk N m') ((a.put oi.dst v1).put oj.dst (V b)) w') : wpAnyK C P .any ops Q (fuel + 2) (msk N m) a w := by
  refine twoM r0 ?_ ?_
  · refine callM (R := R) rfl hi wi (ei w) (ci w (Ext.rf _)) fun v1 w1 h3 h2 => ?_
    have hE := Ext.al (Ext.rf w1) o
    refine soleM r1 (makeM h1 hj (wj' _) (ej' v1 w1) (Mv.of_ext hE) ?_)
    exact H v1 w1.heap.size _ (h3.tr hE) (s1 _ _ _ h2 hE) (World.alloc_heap_new _ _)
  · have hE := Ext.al (Ext.rf w) o
    refine makeM rfl hj wj (ej w) (Mv.of_ext hE) ?_
    refine soleM r2 (callM (R := R) h2 hi (wi' _) (ei' _ _) (ci _ hE) fun v1 w2 g3 g2 => ?_)
    rw [← hpc]
    exact H v1 w.heap.size w2 (hE.tr g3) g2 ((g3.block _ (by simp)).trans (World.alloc_heap_new _ _))
theorem withM {Q : Act → World → Prop} {E : Array Oper} {N : Nat} {a : Act} {w : World} {R : Array Oper → Prop} (h : ops = E) (hR : R E) (hf : ops.size = N)
    (H : R ops → wpAnyK C P .any ops Q N (msk N 0) a w) : wpAnyK C P .any ops Q ops.size (Array.replicate ops.size false) a w := by
  rw [hf, msk_zero]; exact H (h ▸ hR)
end

end Go.Proofs.Ytookffaojlkfaaa

/- The same tuples; what wakes of law 26 asks. -/
namespace Go.Proofs.Ytookffaojlkfaaa
open Go.RowKit
theorem SlT.news {w W : World} {a : Addr} {xs : List Tu} (hs : SlT w (some a) xs) (e : Ext w W) : ∀ j u, (flT xs)[j]? = some u → W.cell? (a.add j) = some u := by
  intro j u hu
  have hj : j < xs.length * 4 := by have := (List.getElem?_eq_some_iff.1 hu).1; rwa [flT_len] at this
  have hk : j / 4 < xs.length := by omega
  obtain ⟨b, off, h, hb, c0, c1, c2, c3⟩ := (hs.ext e) (j / 4) hk
  cases h
  have e : (⟨b, off, none⟩ : Addr).add j = ⟨b, off + j, none⟩ := by unfold Addr.add; split <;> simp_all
  have hg := flT_get xs (j / 4) (j % 4) hk (Nat.mod_lt _ (by omega))
  rw [show j / 4 * 4 + j % 4 = j by omega] at hg
  rw [e, ← hu, hg]
  have hm : j % 4 < 4 := Nat.mod_lt _ (by omega)
  generalize hq : j / 4 = q at *
  generalize hr : j % 4 = r at *
  have hjq : j = q * 4 + r := by omega
  subst hjq
  obtain rfl | rfl | rfl | rfl : r = 0 ∨ r = 1 ∨ r = 2 ∨ r = 3 := by omega
  · exact c0
  · exact c1
  · exact c2
  · exact c3
theorem SlT.nil_of {w : World} {xs : List Tu} (hs : SlT w none xs) : xs = [] := by
  cases xs with
  | nil => rfl
  | cons m r => obtain ⟨b, off, h, _⟩ := hs 0 (by simp); cases h
theorem neq_T {x y : Tu} (h : x ≠ y) (ρ : Operand → Value) (dst : Option Tmp) (p q : Operand) (ty : TypeId) (pos : String) (after : Array Edge) (g : Option (Nat × Bool)) (hx : ρ p = tu x.a x.b x.c x.d) (hy : ρ q = tu y.a y.b y.c y.d) (w : World) :
    (execOp ρ ⟨dst, .binOp .neq 26 p q 26, ty, pos, after, g⟩).run Try.prog w = .ok (.value (.bool true)) w :=
  neqT_run (q := false) (by cases hq : eqT x y; rfl; exact absurd (eqT_iff.1 hq) h) ρ dst p q ty pos after g hx hy w
set_option maxRecDepth 20000 in
set_option maxHeartbeats 2000000 in
theorem same_T (p q : Option Addr) (xs ys : List Tu) (c c' : Nat) (w : World) (hs : SlT w p xs) (ht : SlT w q ys) (hl : xs.length ≤ 1000) (hm : ys.length ≤ 1000) :
    Calls Try.prog 45 #[.slice p xs.length c, .slice q ys.length c'] w fun e w' => e = .returned (.bool (decide (xs = ys))) ∧ Ext w w' := by
  by_cases hle : xs.length = ys.length
  · have hlb : ((xs.length : Int) != ys.length) = false := by simp [hle]
    have HLE := Lib.hid hle
    rw [hle] at hlb ⊢
    clear hle
    go_enter Try.func45, Try.ntmps45
    go_wp2
    go_loopw [5] (fun a wr => ∃ k : Nat, k ≤ xs.length ∧ a = .int .i64 k ∧ xs.take k = ys.take k ∧ Ext w wr) (fun a _ => ys.length - (intOf a).toNat)
    case atStart => exact ⟨0, Nat.zero_le _, rfl, rfl, Ext.rf _⟩
    case round =>
      obtain ⟨k, hk, rfl, hT, hE⟩ := hrel
      have hle := HLE.out
      by_cases hlt : k < ys.length
      · have hil : (k : Int) < ys.length := by omega
        obtain ⟨b1, o1, rfl, lb1, c0, c1, c2, c3⟩ := (hs.ext hE) k (by omega)
        obtain ⟨b2, o2, rfl, lb2, d0, d1, d2, d3⟩ := (ht.ext hE) k hlt
        have L1 : Lt b1 wr := lb1
        have L2 : Lt b2 wr := lb2
        have HH := Lib.hid hs
        have HT := Lib.hid ht
        have hx1 : k < xs.length := by omega
        obtain ⟨x, hx⟩ : ∃ x, xs[k] = x := ⟨_, rfl⟩
        obtain ⟨y, hy⟩ : ∃ y, ys[k] = y := ⟨_, rfl⟩
        have hT1 : xs.take (k + 1) = xs.take k ++ [x] := by rw [List.take_succ_eq_append_getElem hx1, hx]
        have hT2 : ys.take (k + 1) = ys.take k ++ [y] := by rw [List.take_succ_eq_append_getElem hlt, hy]
        rw [hx] at c0 c1 c2 c3
        rw [hy] at d0 d1 d2 d3
        clear hs ht hle lb1 lb2
        by_cases hxy : x = y
        · subst hxy
          have HN := Lib.hid (show xs.take (k + 1) = ys.take (k + 1) by rw [hT1, hT2, hT])
          clear hT hT1 hT2 hx hy
          go_upto_region 6 with (fail)
          refine wp_region_later (by kernel_rfl) (by kernel_rfl) ?_; (repeat (go_big_quiet_step (fail))); refine wpQuiet_nil ?_; intro d
          have hd := later_ext d
          go_wp2
          go_roundw
          case rel => exact ⟨k + 1, by omega, by go_num, HN.out, hE.tr hd⟩
          case measure => simp [intOf]; omega
        · have HXY := Lib.hid hxy
          have HR := Lib.hid (show decide (xs = ys) = false by
            refine decide_eq_false fun e => hxy ?_
            subst e
            rw [← hx, ← hy])
          clear hT hT1 hT2 hx hy hxy
          go_upto_region 6 with (fail)
          refine wp_region_later (by kernel_rfl) (by kernel_rfl) ?_; (repeat (go_big_quiet_step (fail)))
          refine wpQuiet_val (v := .bool true) (by kernel_rfl) (neq_T HXY.out _ _ _ _ _ _ _ _ (by kernel_rfl) (by kernel_rfl)) ?_
          refine wpQuiet_nil ?_; intro d
          have hd := later_ext d
          go_simp
          go_wp2
          exact bodyPost_ret (v := .bool false) (by simp [results, Try.results45, go_sem]) rfl ⟨by rw [HR.out], hE.tr hd⟩
      · have hil : ¬ ((k : Int) < ys.length) := by omega
        have HR := Lib.hid (show decide (xs = ys) = true by
          refine decide_eq_true ?_
          rwa [List.take_of_length_le (by omega), List.take_of_length_le (by omega)] at hT)
        clear hT
        go_wp2
        exact bodyPost_ret (v := .bool true) (by simp [results, Try.results45, go_sem]) rfl ⟨by rw [HR.out], hE⟩
  · have hlb : ((xs.length : Int) != ys.length) = true := by simp; omega
    have HR := Lib.hid (show decide (xs = ys) = false from decide_eq_false fun e => hle (by rw [e]))
    clear hle
    go_enter Try.func45, Try.ntmps45
    go_wp2
    exact bodyPost_ret (v := .bool false) (by simp [results, Try.results45, go_sem]) rfl ⟨by rw [HR.out], Ext.rf _⟩

def GetsH (ys : List Ho) (n : Nat) (b : Bool) (W : World) (e : Ending) (w' : World) : Prop := ∃ p c, e = .returned (.tuple #[.slice p n c, .bool b]) ∧ SlH w' p ys ∧ n ≤ c ∧ Ext W w'
theorem getsH_of {xs ys : List Ho} {n : Nat} {b b' : Bool} {v : Value} {base : Nat} {W w' : World} (hy : xs = ys) (hn : ys.length = n) (hb : b = b') (ho : OwnH w' base v xs) (hE : Ext W w') : GetsH ys n b' W (.returned (.tuple #[v, .bool b])) w' := by
  subst hy hn hb
  obtain ⟨p, c, rfl, hc, hs⟩ := ho.sl
  exact ⟨p, c, rfl, hs, hc, hE⟩
theorem step_g {e : Ev} {p : Option Addr} {xs ys : List Ho} {m n c : Nat} {b : Bool} {W : World} (hs : SlH W p xs) (hm : xs.length = m) (hl : xs.length ≤ 1000) (hy : (stepH xs e).1 = ys) (hn : ys.length = n) (hb : (stepH xs e).2 = b) :
    Calls Try.prog 36 #[.slice p m c, .agg #[.int .u8 e.k, .int .i64 e.n, .int .u32 e.t.a, .int .u32 e.t.b, .int .u16 e.t.c, .int .u16 e.t.d]] W (GetsH ys n b W) := by
  subst hm
  exact (step_any e p xs c W hs hl).mono fun r w' ⟨v, h1, h2, h3⟩ => by rw [h1]; exact getsH_of hy hn hb h2 h3
def RunG (ys : List Ho) (n k : Nat) (b : Bool) (W : World) (e : Ending) (w' : World) : Prop := ∃ p c, e = .returned (.tuple #[.slice p n c, .int .i64 k, .bool b]) ∧ SlH w' p ys ∧ n ≤ c ∧ Ext W w'
theorem run_g {es : List Ev} {p q : Option Addr} {xs ys : List Ho} {m n c d k z : Nat} {b : Bool} {W : World} (hs : SlH W p xs) (he : SlE W q es) (hm : xs.length = m) (hz : es.length = z) (hl : xs.length + es.length ≤ 1000) (hy : (runH xs es).1 = ys) (hn : ys.length = n) (hk : (runH xs es).2.1 = k) (hb : (runH xs es).2.2 = b) :
    Calls Try.prog 38 #[.slice p m c, .slice q z d] W (RunG ys n k b W) := by
  subst hm hz hy hn hk hb
  exact (irun_any p xs c q es d W hs he hl).mono fun r w' ⟨v, h1, h2, h3⟩ => by
    obtain ⟨p1, c1, rfl, hc, hs⟩ := h2.sl
    exact ⟨p1, c1, h1, hs, hc, h3⟩
theorem ofh_g {k : Int} {p : Option Addr} {xs : List Ho} {ys : List Tu} {m n c : Nat} {W : World} (hs : SlH W p xs) (hm : xs.length = m) (hl : xs.length ≤ 1000) (hy : ofX xs k = ys) (hn : ys.length = n) :
    Calls Try.prog 46 #[.slice p m c, .int .i64 k] W fun e w' => ∃ v, e = .returned v ∧ (∃ p c, v = .slice p n c ∧ n ≤ c ∧ SlT w' p ys) ∧ Ext W w' := by
  subst hm hy hn
  exact (ofh_any p xs c k W hs hl).mono fun e w' ⟨v, h1, o1, h3⟩ => by
    obtain ⟨p1, c1, rfl, hc, s1⟩ := SlT.own o1
    exact ⟨_, h1, ⟨p1, c1, rfl, hc, s1⟩, h3⟩
/-- A call whose value is known. -/
theorem val_of {f : FuncId} {args : Array Value} {W : World} {v : Value} (h : Calls Try.prog f args W fun e w' => e = .returned v ∧ Ext W w') : Calls Try.prog f args W fun e w' => ∃ u, e = .returned u ∧ u = v ∧ Ext W w' :=
  h.mono fun _ _ ⟨h1, h2⟩ => ⟨v, h1, rfl, h2⟩
def X7 : Tu := ⟨7, 0, 0, 0⟩
def X0 : Tu := ⟨0, 0, 0, 0⟩
def A1 : List Ho := [⟨X7, 1⟩]
def B1 : List Ho := [⟨X0, 6⟩]
theorem wk1 : (stepH [] ⟨1, 1, X7⟩).1 = A1 ∧ (stepH [] ⟨1, 1, X7⟩).2 = true := ⟨by kernel_rfl, by kernel_rfl⟩
theorem wk2 : (runH [] [⟨1, 1, X7⟩, ⟨2, 2, X7⟩]).1 = A1 ∧ (runH [] [⟨1, 1, X7⟩, ⟨2, 2, X7⟩]).2.1 = 1 ∧ (runH [] [⟨1, 1, X7⟩, ⟨2, 2, X7⟩]).2.2 = false := ⟨by kernel_rfl, by kernel_rfl, by kernel_rfl⟩
theorem wk3 : (stepH A1 ⟨3, 1, X7⟩).1 = [] ∧ (stepH A1 ⟨3, 1, X7⟩).2 = true := ⟨by kernel_rfl, by kernel_rfl⟩
theorem wk4 : (stepH A1 ⟨5, 1, X0⟩).1 = [] ∧ (stepH A1 ⟨5, 1, X0⟩).2 = true := ⟨by kernel_rfl, by kernel_rfl⟩
theorem wk5 : (stepH A1 ⟨5, 1, X7⟩).1 = A1 ∧ (stepH A1 ⟨5, 1, X7⟩).2 = false := ⟨by kernel_rfl, by kernel_rfl⟩
theorem wk6 : ownI A1 X7 = 1 ∧ ownHas A1 X7 = true ∧ ownI [] X7 = -1 ∧ ownHas [] X7 = false := ⟨by kernel_rfl, by kernel_rfl, by kernel_rfl, by kernel_rfl⟩
theorem wk7 : ofX A1 1 = [X7] ∧ ofX A1 2 = [] := ⟨by kernel_rfl, by kernel_rfl⟩
theorem wk8 : rightH A1 = true ∧ rightH B1 = false := ⟨by kernel_rfl, by kernel_rfl⟩
theorem wz1 (W : World) : Calls Try.prog 36 #[.slice none 0 0, .agg #[.int .u8 1, .int .i64 1, .int .u32 7, .int .u32 0, .int .u16 0, .int .u16 0]] W (GetsH A1 1 true W) := step_g (e := ⟨1, 1, X7⟩) (xs := []) (SlH.nil W none) rfl (by simp) wk1.1 rfl wk1.2
theorem wz2 {q : Option Addr} (d : Nat) (W : World) (hs : SlE W q [⟨1, 1, X7⟩, ⟨2, 2, X7⟩]) : Calls Try.prog 38 #[.slice none 0 0, .slice q 2 d] W (RunG A1 1 1 false W) := run_g (xs := []) (SlH.nil W none) hs rfl rfl (by simp) wk2.1 rfl wk2.2.1 wk2.2.2
theorem wz3 {p : Option Addr} (c : Nat) (W : World) (hs : SlH W p A1) : Calls Try.prog 36 #[.slice p 1 c, .agg #[.int .u8 3, .int .i64 1, .int .u32 7, .int .u32 0, .int .u16 0, .int .u16 0]] W (GetsH [] 0 true W) := step_g (e := ⟨3, 1, X7⟩) hs rfl (by simp [A1]) wk3.1 rfl wk3.2
theorem wz4 {p : Option Addr} (c : Nat) (W : World) (hs : SlH W p A1) : Calls Try.prog 36 #[.slice p 1 c, .agg #[.int .u8 5, .int .i64 1, .int .u32 0, .int .u32 0, .int .u16 0, .int .u16 0]] W (GetsH [] 0 true W) := step_g (e := ⟨5, 1, X0⟩) hs rfl (by simp [A1]) wk4.1 rfl wk4.2
theorem wz5 {p : Option Addr} (c : Nat) (W : World) (hs : SlH W p A1) : Calls Try.prog 36 #[.slice p 1 c, .agg #[.int .u8 5, .int .i64 1, .int .u32 7, .int .u32 0, .int .u16 0, .int .u16 0]] W (GetsH A1 1 false W) := step_g (e := ⟨5, 1, X7⟩) hs rfl (by simp [A1]) wk5.1 rfl wk5.2
theorem wz6 {p : Option Addr} (c : Nat) (W : World) (hs : SlH W p A1) : Calls Try.prog 40 #[.slice p 1 c, tu 7 0 0 0] W fun e w' => e = .returned (.tuple #[.int .i64 1, .bool true]) ∧ Ext W w' := owner_any X7 p A1 c W hs (by simp [A1])
theorem wz7 {p : Option Addr} (c : Nat) (W : World) : Calls Try.prog 40 #[.slice p 0 c, tu 7 0 0 0] W fun e w' => e = .returned (.tuple #[.int .i64 (-1), .bool false]) ∧ Ext W w' := owner_any X7 p [] c W (SlH.nil _ _) (by simp)
theorem wz8 {p q : Option Addr} (c d : Nat) (W : World) (hs : SlH W p A1) (ht : SlH W q A1) : Calls Try.prog 48 #[.slice p 1 c, .slice q 1 d] W fun e w' => e = .returned (.bool true) ∧ Ext W w' := ideal_same_any p q A1 A1 c d W hs ht (by simp [A1]) (by simp [A1])
theorem wz9 {p q : Option Addr} (c d : Nat) (W : World) (hs : SlH W p A1) : Calls Try.prog 48 #[.slice p 1 c, .slice q 0 d] W fun e w' => e = .returned (.bool false) ∧ Ext W w' := ideal_same_any p q A1 [] c d W hs (SlH.nil _ _) (by simp [A1]) (by simp)
theorem wz10 {p : Option Addr} (c : Nat) (W : World) (hs : SlH W p A1) : Calls Try.prog 46 #[.slice p 1 c, .int .i64 1] W fun e w' => ∃ v, e = .returned v ∧ (∃ p c, v = .slice p 1 c ∧ 1 ≤ c ∧ SlT w' p [X7]) ∧ Ext W w' := ofh_g hs rfl (by simp [A1]) wk7.1 rfl
theorem wz11 {p : Option Addr} (c : Nat) (W : World) (hs : SlH W p A1) : Calls Try.prog 46 #[.slice p 1 c, .int .i64 2] W fun e w' => ∃ v, e = .returned v ∧ (∃ p c, v = .slice p 0 c ∧ 0 ≤ c ∧ SlT w' p []) ∧ Ext W w' := ofh_g hs rfl (by simp [A1]) wk7.2 rfl
theorem wz12 {p q : Option Addr} (c d : Nat) (W : World) (hs : SlT W p [X7]) (ht : SlT W q [X7]) : Calls Try.prog 45 #[.slice p 1 c, .slice q 1 d] W fun e w' => e = .returned (.bool true) ∧ Ext W w' := same_T p q [X7] [X7] c d W hs ht (by simp) (by simp)
theorem wz13 {p : Option Addr} (c : Nat) (W : World) (hs : SlH W p A1) : Calls Try.prog 43 #[.slice p 1 c] W fun e w' => e = .returned (.bool true) ∧ Ext W w' := righth_any p A1 c W hs (by simp [A1])
theorem wz14 {p : Option Addr} (c : Nat) (W : World) (hs : SlH W p B1) : Calls Try.prog 43 #[.slice p 1 c] W fun e w' => e = .returned (.bool false) ∧ Ext W w' := righth_any p B1 c W hs (by simp [B1])
theorem SlT.one {w : World} {b : Nat} (h : w.heap[b]? = some (.cells #[.int .u32 7, .int .u32 0, .int .u16 0, .int .u16 0] 26)) : SlT w (some ⟨b, 0, none⟩) [X7] := fun k hk => by
  obtain rfl : k = 0 := by simpa using hk
  have hb := (Array.getElem?_eq_some_iff.1 h).1
  have e : rowD w b = #[.int .u32 7, .int .u32 0, .int .u16 0, .int .u16 0] := by unfold rowD; rw [h]
  refine ⟨b, 0, rfl, hb, ?_, ?_, ?_, ?_⟩ <;> rw [cell_rowD, e] <;> rfl
theorem SlE.lit (W : World) (t : TypeId) : SlE (W.alloc (.cells #[.int .u8 1, .int .i64 1, .int .u32 7, .int .u32 0, .int .u16 0, .int .u16 0, .int .u8 2, .int .i64 2, .int .u32 7, .int .u32 0, .int .u16 0, .int .u16 0] t)) (some ⟨W.heap.size, 0, none⟩) [⟨1, 1, X7⟩, ⟨2, 2, X7⟩] := fun k hk => by
  refine ⟨W.heap.size, 0, rfl, by simp, ?_⟩
  have hk2 : k = 0 ∨ k = 1 := by simp at hk; omega
  rcases hk2 with rfl | rfl
  all_goals (refine ⟨?_, ?_, ?_, ?_, ?_, ?_⟩ <;> rw [cell_rowD, rowD_new] <;> rfl)

end Go.Proofs.Ytookffaojlkfaaa

/- wakes of law 26: it answers true. -/
namespace Go.Proofs.Ytookffaojlkfaaa
open Go.RowKit
def SchWx (ops : Array Oper) : Prop := Region.noSelect ops = true ∧ stepsM ops 84 [0, 1, 2, 3, 4, 5, 6, 7, 8] 0 = true ∧ Region.ready .any ops (msk 84 511) = [9] ∧ stepsM ops 84 [10, 11, 12, 13, 14, 15, 16, 17, 18, 19, 20, 21, 22, 23] 1023 = true ∧ stepsM ops 84 [24, 25, 26, 27, 28, 29, 30, 31, 32, 33, 34, 35, 36, 37] 16777215 = true ∧ stepsM ops 84 [38, 39, 40, 41, 42, 43, 44, 45, 46, 47, 48, 49, 50, 51] 274877906943 = true ∧ stepsM ops 84 [52, 53, 54, 55, 57] 4503599627370495 = true ∧ Region.ready .any ops (msk 84 216172782113783807) = [56, 58] ∧ Region.ready .any ops (msk 84 (216172782113783807 ||| (1 <<< 56))) = [58] ∧ Region.ready .any ops (msk 84 (216172782113783807 ||| (1 <<< 58))) = [56] ∧ Region.ready .any ops (msk 84 576460752303423487) = [59] ∧ stepsM ops 84 [60, 61, 62] 1152921504606846975 = true ∧ Region.ready .any ops (msk 84 9223372036854775807) = [63] ∧ stepsM ops 84 [64, 65, 66, 67, 68] 18446744073709551615 = true ∧ Region.ready .any ops (msk 84 590295810358705651711) = [69] ∧ stepsM ops 84 [70, 71, 72] 1180591620717411303423 = true ∧ Region.ready .any ops (msk 84 9444732965739290427391) = [73] ∧ Region.ready .any ops (msk 84 18889465931478580854783) = [74] ∧ stepsM ops 84 [75, 76, 77, 78, 79] 37778931862957161709567 = true ∧ Region.ready .any ops (msk 84 1208925819614629174706175) = [80] ∧ stepsM ops 84 [81, 82, 83] 2417851639229258349412351 = true ∧ Region.ready .any ops (msk 84 19342813113834066795298815) = []
theorem SchWx_0 : Region.noSelect ((Try.f35.body.bind (findR 9)).getD #[]) = true := by kernel_rfl
theorem SchWx_1 : stepsM ((Try.f35.body.bind (findR 9)).getD #[]) 84 [0, 1, 2, 3, 4, 5, 6, 7, 8] 0 = true := by kernel_rfl
theorem SchWx_2 : Region.ready .any ((Try.f35.body.bind (findR 9)).getD #[]) (msk 84 511) = [9] := by kernel_rfl
theorem SchWx_3 : stepsM ((Try.f35.body.bind (findR 9)).getD #[]) 84 [10, 11, 12, 13, 14, 15, 16, 17, 18, 19, 20, 21, 22, 23] 1023 = true := by kernel_rfl
theorem SchWx_4 : stepsM ((Try.f35.body.bind (findR 9)).getD #[]) 84 [24, 25, 26, 27, 28, 29, 30, 31, 32, 33, 34, 35, 36, 37] 16777215 = true := by kernel_rfl
theorem SchWx_5 : stepsM ((Try.f35.body.bind (findR 9)).getD #[]) 84 [38, 39, 40, 41, 42, 43, 44, 45, 46, 47, 48, 49, 50, 51] 274877906943 = true := by kernel_rfl
theorem SchWx_6 : stepsM ((Try.f35.body.bind (findR 9)).getD #[]) 84 [52, 53, 54, 55, 57] 4503599627370495 = true := by kernel_rfl
theorem SchWx_7 : Region.ready .any ((Try.f35.body.bind (findR 9)).getD #[]) (msk 84 216172782113783807) = [56, 58] := by kernel_rfl
theorem SchWx_8 : Region.ready .any ((Try.f35.body.bind (findR 9)).getD #[]) (msk 84 (216172782113783807 ||| (1 <<< 56))) = [58] := by kernel_rfl
theorem SchWx_9 : Region.ready .any ((Try.f35.body.bind (findR 9)).getD #[]) (msk 84 (216172782113783807 ||| (1 <<< 58))) = [56] := by kernel_rfl
theorem SchWx_10 : Region.ready .any ((Try.f35.body.bind (findR 9)).getD #[]) (msk 84 576460752303423487) = [59] := by kernel_rfl
theorem SchWx_11 : stepsM ((Try.f35.body.bind (findR 9)).getD #[]) 84 [60, 61, 62] 1152921504606846975 = true := by kernel_rfl
theorem SchWx_12 : Region.ready .any ((Try.f35.body.bind (findR 9)).getD #[]) (msk 84 9223372036854775807) = [63] := by kernel_rfl
theorem SchWx_13 : stepsM ((Try.f35.body.bind (findR 9)).getD #[]) 84 [64, 65, 66, 67, 68] 18446744073709551615 = true := by kernel_rfl
theorem SchWx_14 : Region.ready .any ((Try.f35.body.bind (findR 9)).getD #[]) (msk 84 590295810358705651711) = [69] := by kernel_rfl
theorem SchWx_15 : stepsM ((Try.f35.body.bind (findR 9)).getD #[]) 84 [70, 71, 72] 1180591620717411303423 = true := by kernel_rfl
theorem SchWx_16 : Region.ready .any ((Try.f35.body.bind (findR 9)).getD #[]) (msk 84 9444732965739290427391) = [73] := by kernel_rfl
theorem SchWx_17 : Region.ready .any ((Try.f35.body.bind (findR 9)).getD #[]) (msk 84 18889465931478580854783) = [74] := by kernel_rfl
theorem SchWx_18 : stepsM ((Try.f35.body.bind (findR 9)).getD #[]) 84 [75, 76, 77, 78, 79] 37778931862957161709567 = true := by kernel_rfl
theorem SchWx_19 : Region.ready .any ((Try.f35.body.bind (findR 9)).getD #[]) (msk 84 1208925819614629174706175) = [80] := by kernel_rfl
theorem SchWx_20 : stepsM ((Try.f35.body.bind (findR 9)).getD #[]) 84 [81, 82, 83] 2417851639229258349412351 = true := by kernel_rfl
theorem SchWx_21 : Region.ready .any ((Try.f35.body.bind (findR 9)).getD #[]) (msk 84 19342813113834066795298815) = [] := by kernel_rfl
theorem SchWx_all : SchWx ((Try.f35.body.bind (findR 9)).getD #[]) := ⟨SchWx_0, SchWx_1, SchWx_2, SchWx_3, SchWx_4, SchWx_5, SchWx_6, SchWx_7, SchWx_8, SchWx_9, SchWx_10, SchWx_11, SchWx_12, SchWx_13, SchWx_14, SchWx_15, SchWx_16, SchWx_17, SchWx_18, SchWx_19, SchWx_20, SchWx_21⟩

theorem cl7 {w : World} {b : Nat} (h : TuAt w b X7) : w.cell? ⟨b, 0, none⟩ = some (.int .u32 7) ∧ w.cell? ⟨b, 1, none⟩ = some (.int .u32 0) ∧ w.cell? ⟨b, 2, none⟩ = some (.int .u16 0) ∧ w.cell? ⟨b, 3, none⟩ = some (.int .u16 0) ∧ Lt b w := by
  obtain ⟨a, b, c, d⟩ := h.cells
  exact ⟨a, b, c, d, h.2⟩
theorem bld7_run (ρ : Operand → Value) (dst : Option Tmp) (x : Operand) (ty : TypeId) (pos : String) (after : Array Edge) (g : Option (Nat × Bool)) (hx : ρ x = tu 7 0 0 0) (w : World) :
    (execOp ρ ⟨dst, .buildSlice 62 1 #[(0, x)], ty, pos, after, g⟩).run Try.prog w = .ok (.value (.slice (some ⟨w.heap.size, 0, none⟩) 1 1)) (w.alloc (.cells #[.int .u32 7, .int .u32 0, .int .u16 0, .int .u16 0] 26)) := by
  simp only [execOp]
  go_simp
theorem bld6_run (ρ : Operand → Value) (dst : Option Tmp) (x : Operand) (ty : TypeId) (pos : String) (after : Array Edge) (g : Option (Nat × Bool)) (hx : ρ x = .agg #[.int .u32 0, .int .u32 0, .int .u16 0, .int .u16 0, .int .i64 6]) (w : World) :
    (execOp ρ ⟨dst, .buildSlice 50 1 #[(0, x)], ty, pos, after, g⟩).run Try.prog w = .ok (.value (.slice (some ⟨w.heap.size, 0, none⟩) 1 1)) (w.alloc (.cells #[.int .u32 0, .int .u32 0, .int .u16 0, .int .u16 0, .int .i64 6] 70)) := by
  simp only [execOp]
  go_simp
set_option maxRecDepth 100000 in
set_option maxHeartbeats 16000000 in
theorem wakes26_any (w : World) : Calls Try.prog 35 #[] w fun e w' => e = .returned (.bool true) ∧ Ext w w' := by
  go_enter Try.func35, Try.ntmps35
  go_upto_region 2 with (fail)
  obtain ⟨W0, hW⟩ : ∃ W0, w.alloc (.cells #[.int .u32 7, .int .u32 0, .int .u16 0, .int .u16 0] 26) = W0 := ⟨_, rfl⟩
  have E0 : Ext w W0 := by rw [← hW]; exact Ext.al (Ext.rf _) _
  have ht : TuAt W0 w.heap.size X7 := by rw [← hW]; unfold TuAt X7; simp [go_sem, Lt]
  rw [hW]
  clear hW
  generalize w.heap.size = B at *
  obtain ⟨d0, d1, d2, d3, lB⟩ := cl7 ht
  go_upto_region 3 with (first | (go_at_call 36; go_must (with_reducible refine (wz1 _).mono ?_); rintro e WC ⟨p1, c1, rfl, s1, -, gC⟩))
  have E := E0.tr gC
  have ht := ht.ext gC
  clear gC d0 d1 d2 d3 lB
  obtain ⟨d0, d1, d2, d3, lB⟩ := cl7 ht
  go_upto_region 4 with (first | (go_at_call 38; go_must (with_reducible refine (wz2 _ _ (SlE.lit _ _)).mono ?_); rintro e WC ⟨p2, c2, rfl, s2, -, gC⟩))
  have gC := Ext.tr (Ext.al (Ext.rf _) _) gC
  have E := E.tr gC
  have s1 := s1.ext gC
  have ht := ht.ext gC
  clear gC d0 d1 d2 d3 lB
  obtain ⟨d0, d1, d2, d3, lB⟩ := cl7 ht
  go_upto_region 5 with (first | (go_at_call 36; go_must (with_reducible refine (wz3 _ _ s1).mono ?_); rintro e WC ⟨p3, c3, rfl, s3, -, gC⟩))
  have E := E.tr gC
  have s1 := s1.ext gC
  have s2 := s2.ext gC
  have ht := ht.ext gC
  clear gC d0 d1 d2 d3 lB
  obtain ⟨d0, d1, d2, d3, lB⟩ := cl7 ht
  go_upto_region 6 with (first | (go_at_call 36; go_must (with_reducible refine (wz4 _ _ s1).mono ?_); rintro e WC ⟨p4, c4, rfl, s4, -, gC⟩))
  have E := E.tr gC
  have s1 := s1.ext gC
  have s2 := s2.ext gC
  have ht := ht.ext gC
  clear gC d0 d1 d2 d3 lB
  obtain ⟨d0, d1, d2, d3, lB⟩ := cl7 ht
  go_upto_region 7 with (first | (go_at_call 36; go_must (with_reducible refine (wz5 _ _ s1).mono ?_); rintro e WC ⟨p5, c5, rfl, s5, -, gC⟩))
  have E := E.tr gC
  have s1 := s1.ext gC
  have s2 := s2.ext gC
  have ht := ht.ext gC
  clear gC d0 d1 d2 d3 lB
  obtain ⟨d0, d1, d2, d3, lB⟩ := cl7 ht
  go_upto_region 8 with (first | (go_at_call 40; go_must (with_reducible refine (wz6 _ _ s1).mono ?_); rintro e WC ⟨rfl, gC⟩))
  have E := E.tr gC
  have s1 := s1.ext gC
  have s2 := s2.ext gC
  have ht := ht.ext gC
  clear gC d0 d1 d2 d3 lB
  obtain ⟨d0, d1, d2, d3, lB⟩ := cl7 ht
  go_upto_region 9 with (first | (go_at_call 40; go_must (with_reducible refine (wz7 _ _).mono ?_); rintro e WC ⟨rfl, gC⟩))
  have E := E.tr gC
  have s1 := s1.ext gC
  have s2 := s2.ext gC
  have ht := ht.ext gC
  clear gC d0 d1 d2 d3 lB
  obtain ⟨d0, d1, d2, d3, lB⟩ := cl7 ht
  refine wp_region_K (fun _ => False) (by kernel_rfl) ?_
  obtain ⟨WW, hW⟩ : ∃ W, World.drew WC = W := ⟨_, rfl⟩
  rw [hW]
  have gC := Ext.dr (Ext.rf WC)
  rw [hW] at gC
  have E := E.tr gC
  have s1 := s1.ext gC
  have s2 := s2.ext gC
  have ht := ht.ext gC
  clear hW gC d0 d1 d2 d3 lB
  refine withM (N := 84) (R := SchWx) (E := ((Try.f35.body.bind (findR 9)).getD #[])) (by kernel_rfl) SchWx_all (by kernel_rfl) fun hS => ?_
  have hT := hS.2.1
  refine takeM (N := 84) (k := 0) (m' := 1) (v := .bool true) hS.1 hT rfl rfl (by kernel_rfl) (fun _ _ => by kernel_rfl) fun hT => ?_
  refine takeM (N := 84) (k := 1) (m' := 3) (v := .bool true) hS.1 hT rfl rfl (by kernel_rfl) (fun _ _ => by kernel_rfl) fun hT => ?_
  refine takeM (N := 84) (k := 2) (m' := 7) (v := .slice p1 1 c1) hS.1 hT rfl rfl (by kernel_rfl) (fun _ _ => by kernel_rfl) fun hT => ?_
  refine takeM (N := 84) (k := 3) (m' := 15) (v := .int .i64 1) hS.1 hT rfl rfl (by kernel_rfl) (fun _ _ => by kernel_rfl) fun hT => ?_
  refine takeM (N := 84) (k := 4) (m' := 31) (v := .bool true) hS.1 hT rfl rfl (by kernel_rfl) (fun _ _ => by kernel_rfl) fun hT => ?_
  refine takeM (N := 84) (k := 5) (m' := 63) (v := .bool true) hS.1 hT rfl rfl (by kernel_rfl) (fun _ _ => by kernel_rfl) fun hT => ?_
  refine takeM (N := 84) (k := 6) (m' := 127) (v := .bool true) hS.1 hT rfl rfl (by kernel_rfl) (fun _ _ => by kernel_rfl) fun hT => ?_
  refine takeM (N := 84) (k := 7) (m' := 255) (v := .slice p1 1 c1) hS.1 hT rfl rfl (by kernel_rfl) (fun _ _ => by kernel_rfl) fun hT => ?_
  refine takeM (N := 84) (k := 8) (m' := 511) (v := .slice p2 1 c2) hS.1 hT rfl rfl (by kernel_rfl) (fun _ _ => by kernel_rfl) fun hT => ?_
  refine soleM hS.2.2.1 (callM (m' := 1023) (R := fun v _ => v = .bool true) rfl rfl (by kernel_rfl) (by kernel_rfl) (val_of (wz8 c1 c2 WW s1 s2)) ?_)
  rintro _ W1 gW1 rfl
  have E := E.tr gW1
  have s1 := s1.ext gW1
  have s2 := s2.ext gW1
  have ht := ht.ext gW1
  have hT := hS.2.2.2.1
  refine takeM (N := 84) (k := 10) (m' := 2047) (v := .bool true) hS.1 hT rfl rfl (by kernel_rfl) (fun _ _ => by kernel_rfl) fun hT => ?_
  refine takeM (N := 84) (k := 11) (m' := 4095) (v := .bool true) hS.1 hT rfl rfl (by kernel_rfl) (fun _ _ => by kernel_rfl) fun hT => ?_
  refine takeM (N := 84) (k := 12) (m' := 8191) (v := .int .i64 1) hS.1 hT rfl rfl (by kernel_rfl) (fun _ _ => by kernel_rfl) fun hT => ?_
  refine takeM (N := 84) (k := 13) (m' := 16383) (v := .bool true) hS.1 hT rfl rfl (by kernel_rfl) (fun _ _ => by kernel_rfl) fun hT => ?_
  refine takeM (N := 84) (k := 14) (m' := 32767) (v := .bool true) hS.1 hT rfl rfl (by kernel_rfl) (fun _ _ => by kernel_rfl) fun hT => ?_
  refine takeM (N := 84) (k := 15) (m' := 65535) (v := .bool true) hS.1 hT rfl rfl (by kernel_rfl) (fun _ _ => by kernel_rfl) fun hT => ?_
  refine takeM (N := 84) (k := 16) (m' := 131071) (v := .bool false) hS.1 hT rfl rfl (by kernel_rfl) (fun _ _ => by kernel_rfl) fun hT => ?_
  refine takeM (N := 84) (k := 17) (m' := 262143) (v := .bool true) hS.1 hT rfl rfl (by kernel_rfl) (fun _ _ => by kernel_rfl) fun hT => ?_
  refine takeM (N := 84) (k := 18) (m' := 524287) (v := .bool true) hS.1 hT rfl rfl (by kernel_rfl) (fun _ _ => by kernel_rfl) fun hT => ?_
  refine takeM (N := 84) (k := 19) (m' := 1048575) (v := .bool true) hS.1 hT rfl rfl (by kernel_rfl) (fun _ _ => by kernel_rfl) fun hT => ?_
  refine takeM (N := 84) (k := 20) (m' := 2097151) (v := .bool true) hS.1 hT rfl rfl (by kernel_rfl) (fun _ _ => by kernel_rfl) fun hT => ?_
  refine takeM (N := 84) (k := 21) (m' := 4194303) (v := .bool true) hS.1 hT rfl rfl (by kernel_rfl) (fun _ _ => by kernel_rfl) fun hT => ?_
  refine takeM (N := 84) (k := 22) (m' := 8388607) (v := .bool true) hS.1 hT rfl rfl (by kernel_rfl) (fun _ _ => by kernel_rfl) fun hT => ?_
  refine takeM (N := 84) (k := 23) (m' := 16777215) (v := .slice p3 0 c3) hS.1 hT rfl rfl (by kernel_rfl) (fun _ _ => by kernel_rfl) fun hT => ?_
  have hT := hS.2.2.2.2.1
  refine takeM (N := 84) (k := 24) (m' := 33554431) (v := .int .i64 0) hS.1 hT rfl rfl (by kernel_rfl) (fun _ _ => by kernel_rfl) fun hT => ?_
  refine takeM (N := 84) (k := 25) (m' := 67108863) (v := .bool true) hS.1 hT rfl rfl (by kernel_rfl) (fun _ _ => by kernel_rfl) fun hT => ?_
  refine takeM (N := 84) (k := 26) (m' := 134217727) (v := .bool true) hS.1 hT rfl rfl (by kernel_rfl) (fun _ _ => by kernel_rfl) fun hT => ?_
  refine takeM (N := 84) (k := 27) (m' := 268435455) (v := .bool true) hS.1 hT rfl rfl (by kernel_rfl) (fun _ _ => by kernel_rfl) fun hT => ?_
  refine takeM (N := 84) (k := 28) (m' := 536870911) (v := .bool true) hS.1 hT rfl rfl (by kernel_rfl) (fun _ _ => by kernel_rfl) fun hT => ?_
  refine takeM (N := 84) (k := 29) (m' := 1073741823) (v := .bool true) hS.1 hT rfl rfl (by kernel_rfl) (fun _ _ => by kernel_rfl) fun hT => ?_
  refine takeM (N := 84) (k := 30) (m' := 2147483647) (v := .bool true) hS.1 hT rfl rfl (by kernel_rfl) (fun _ _ => by kernel_rfl) fun hT => ?_
  refine takeM (N := 84) (k := 31) (m' := 4294967295) (v := .slice p4 0 c4) hS.1 hT rfl rfl (by kernel_rfl) (fun _ _ => by kernel_rfl) fun hT => ?_
  refine takeM (N := 84) (k := 32) (m' := 8589934591) (v := .int .i64 0) hS.1 hT rfl rfl (by kernel_rfl) (fun _ _ => by kernel_rfl) fun hT => ?_
  refine takeM (N := 84) (k := 33) (m' := 17179869183) (v := .bool true) hS.1 hT rfl rfl (by kernel_rfl) (fun _ _ => by kernel_rfl) fun hT => ?_
  refine takeM (N := 84) (k := 34) (m' := 34359738367) (v := .bool true) hS.1 hT rfl rfl (by kernel_rfl) (fun _ _ => by kernel_rfl) fun hT => ?_
  refine takeM (N := 84) (k := 35) (m' := 68719476735) (v := .bool true) hS.1 hT rfl rfl (by kernel_rfl) (fun _ _ => by kernel_rfl) fun hT => ?_
  refine takeM (N := 84) (k := 36) (m' := 137438953471) (v := .bool false) hS.1 hT rfl rfl (by kernel_rfl) (fun _ _ => by kernel_rfl) fun hT => ?_
  refine takeM (N := 84) (k := 37) (m' := 274877906943) (v := .bool true) hS.1 hT rfl rfl (by kernel_rfl) (fun _ _ => by kernel_rfl) fun hT => ?_
  have hT := hS.2.2.2.2.2.1
  refine takeM (N := 84) (k := 38) (m' := 549755813887) (v := .bool true) hS.1 hT rfl rfl (by kernel_rfl) (fun _ _ => by kernel_rfl) fun hT => ?_
  refine takeM (N := 84) (k := 39) (m' := 1099511627775) (v := .bool true) hS.1 hT rfl rfl (by kernel_rfl) (fun _ _ => by kernel_rfl) fun hT => ?_
  refine takeM (N := 84) (k := 40) (m' := 2199023255551) (v := .int .i64 1) hS.1 hT rfl rfl (by kernel_rfl) (fun _ _ => by kernel_rfl) fun hT => ?_
  refine takeM (N := 84) (k := 41) (m' := 4398046511103) (v := .bool true) hS.1 hT rfl rfl (by kernel_rfl) (fun _ _ => by kernel_rfl) fun hT => ?_
  refine takeM (N := 84) (k := 42) (m' := 8796093022207) (v := .bool true) hS.1 hT rfl rfl (by kernel_rfl) (fun _ _ => by kernel_rfl) fun hT => ?_
  refine takeM (N := 84) (k := 43) (m' := 17592186044415) (v := .bool true) hS.1 hT rfl rfl (by kernel_rfl) (fun _ _ => by kernel_rfl) fun hT => ?_
  refine takeM (N := 84) (k := 44) (m' := 35184372088831) (v := .bool true) hS.1 hT rfl rfl (by kernel_rfl) (fun _ _ => by kernel_rfl) fun hT => ?_
  refine takeM (N := 84) (k := 45) (m' := 70368744177663) (v := .bool true) hS.1 hT rfl rfl (by kernel_rfl) (fun _ _ => by kernel_rfl) fun hT => ?_
  refine takeM (N := 84) (k := 46) (m' := 140737488355327) (v := .bool true) hS.1 hT rfl rfl (by kernel_rfl) (fun _ _ => by kernel_rfl) fun hT => ?_
  refine takeM (N := 84) (k := 47) (m' := 281474976710655) (v := .int .i64 (-1)) hS.1 hT rfl rfl (by kernel_rfl) (fun _ _ => by kernel_rfl) fun hT => ?_
  refine takeM (N := 84) (k := 48) (m' := 562949953421311) (v := .bool true) hS.1 hT rfl rfl (by kernel_rfl) (fun _ _ => by kernel_rfl) fun hT => ?_
  refine takeM (N := 84) (k := 49) (m' := 1125899906842623) (v := .bool true) hS.1 hT rfl rfl (by kernel_rfl) (fun _ _ => by kernel_rfl) fun hT => ?_
  refine takeM (N := 84) (k := 50) (m' := 2251799813685247) (v := .bool true) hS.1 hT rfl rfl (by kernel_rfl) (fun _ _ => by kernel_rfl) fun hT => ?_
  refine takeM (N := 84) (k := 51) (m' := 4503599627370495) (v := .bool false) hS.1 hT rfl rfl (by kernel_rfl) (fun _ _ => by kernel_rfl) fun hT => ?_
  have hT := hS.2.2.2.2.2.2.1
  refine takeM (N := 84) (k := 52) (m' := 9007199254740991) (v := .bool true) hS.1 hT rfl rfl (by kernel_rfl) (fun _ _ => by kernel_rfl) fun hT => ?_
  refine takeM (N := 84) (k := 53) (m' := 18014398509481983) (v := .bool true) hS.1 hT rfl rfl (by kernel_rfl) (fun _ _ => by kernel_rfl) fun hT => ?_
  refine takeM (N := 84) (k := 54) (m' := 36028797018963967) (v := .bool true) hS.1 hT rfl rfl (by kernel_rfl) (fun _ _ => by kernel_rfl) fun hT => ?_
  refine takeM (N := 84) (k := 55) (m' := 72057594037927935) (v := .slice p1 1 c1) hS.1 hT rfl rfl (by kernel_rfl) (fun _ _ => by kernel_rfl) fun hT => ?_
  refine takeM (N := 84) (k := 57) (m' := 216172782113783807) (v := tu 7 0 0 0) hS.1 hT rfl rfl (by kernel_rfl) (ldT_run ht (fun h => h) _ _ _ _ _ _ _ (by kernel_rfl)) fun hT => ?_
  refine forkMM (m' := 576460752303423487) (R := fun v w' => ∃ p c, v = .slice p 1 c ∧ 1 ≤ c ∧ SlT w' p [X7]) (V := fun b => .slice (some ⟨b, 0, none⟩) 1 1) (o := (.cells #[.int .u32 7, .int .u32 0, .int .u16 0, .int .u16 0] 26)) hS.2.2.2.2.2.2.2.1 hS.2.2.2.2.2.2.2.2.1 hS.2.2.2.2.2.2.2.2.2.1 rfl rfl rfl rfl (by kernel_rfl) (fun _ => by kernel_rfl) (by kernel_rfl) (fun _ => by kernel_rfl) (fun _ => by kernel_rfl) (fun _ _ => by kernel_rfl) (fun w' => bld7_run _ _ _ _ _ _ _ (by kernel_rfl) w') (fun _ w' => bld7_run _ _ _ _ _ _ _ (by kernel_rfl) w') (fun w' e => wz10 c1 w' (s1.ext e)) (fun v w1 w2 ⟨p, c, h1, h2, h3⟩ e => ⟨p, c, h1, h2, h3.ext e⟩) (fun _ _ => by kernel_rfl) ?_
  rintro _ bW2 W2 gW2 ⟨pt, ct, rfl, -, st⟩ hb7
  have E := E.tr gW2
  have s1 := s1.ext gW2
  have s2 := s2.ext gW2
  have ht := ht.ext gW2
  refine soleM hS.2.2.2.2.2.2.2.2.2.2.1 (callM (m' := 1152921504606846975) (R := fun v _ => v = .bool true) rfl rfl (by kernel_rfl) (by kernel_rfl) (val_of (wz12 ct 1 W2 st (SlT.one hb7))) ?_)
  rintro _ W3 gW3 rfl
  have E := E.tr gW3
  have s1 := s1.ext gW3
  have s2 := s2.ext gW3
  have ht := ht.ext gW3
  have hT := hS.2.2.2.2.2.2.2.2.2.2.2.1
  refine takeM (N := 84) (k := 60) (m' := 2305843009213693951) (v := .bool true) hS.1 hT rfl rfl (by kernel_rfl) (fun _ _ => by kernel_rfl) fun hT => ?_
  refine takeM (N := 84) (k := 61) (m' := 4611686018427387903) (v := .bool true) hS.1 hT rfl rfl (by kernel_rfl) (fun _ _ => by kernel_rfl) fun hT => ?_
  refine takeM (N := 84) (k := 62) (m' := 9223372036854775807) (v := .slice p1 1 c1) hS.1 hT rfl rfl (by kernel_rfl) (fun _ _ => by kernel_rfl) fun hT => ?_
  refine soleM hS.2.2.2.2.2.2.2.2.2.2.2.2.1 (callM (m' := 18446744073709551615) (R := fun v w' => ∃ p c, v = .slice p 0 c ∧ 0 ≤ c ∧ SlT w' p []) rfl rfl (by kernel_rfl) (by kernel_rfl) (wz11 c1 W3 s1) ?_)
  rintro _ W4 gW4 ⟨pu, cu, rfl, -, -⟩
  have E := E.tr gW4
  have s1 := s1.ext gW4
  have s2 := s2.ext gW4
  have ht := ht.ext gW4
  have hT := hS.2.2.2.2.2.2.2.2.2.2.2.2.2.1
  refine takeM (N := 84) (k := 64) (m' := 36893488147419103231) (v := .int .i64 0) hS.1 hT rfl rfl (by kernel_rfl) (fun _ _ => by kernel_rfl) fun hT => ?_
  refine takeM (N := 84) (k := 65) (m' := 73786976294838206463) (v := .bool true) hS.1 hT rfl rfl (by kernel_rfl) (fun _ _ => by kernel_rfl) fun hT => ?_
  refine takeM (N := 84) (k := 66) (m' := 147573952589676412927) (v := .bool true) hS.1 hT rfl rfl (by kernel_rfl) (fun _ _ => by kernel_rfl) fun hT => ?_
  refine takeM (N := 84) (k := 67) (m' := 295147905179352825855) (v := .bool true) hS.1 hT rfl rfl (by kernel_rfl) (fun _ _ => by kernel_rfl) fun hT => ?_
  refine takeM (N := 84) (k := 68) (m' := 590295810358705651711) (v := .slice p1 1 c1) hS.1 hT rfl rfl (by kernel_rfl) (fun _ _ => by kernel_rfl) fun hT => ?_
  refine soleM hS.2.2.2.2.2.2.2.2.2.2.2.2.2.2.1 (callM (m' := 1180591620717411303423) (R := fun v _ => v = .bool true) rfl rfl (by kernel_rfl) (by kernel_rfl) (val_of (wz13 c1 W4 s1)) ?_)
  rintro _ W5 gW5 rfl
  have E := E.tr gW5
  have s1 := s1.ext gW5
  have s2 := s2.ext gW5
  have ht := ht.ext gW5
  have hT := hS.2.2.2.2.2.2.2.2.2.2.2.2.2.2.2.1
  refine takeM (N := 84) (k := 70) (m' := 2361183241434822606847) (v := .bool true) hS.1 hT rfl rfl (by kernel_rfl) (fun _ _ => by kernel_rfl) fun hT => ?_
  refine takeM (N := 84) (k := 71) (m' := 4722366482869645213695) (v := .bool true) hS.1 hT rfl rfl (by kernel_rfl) (fun _ _ => by kernel_rfl) fun hT => ?_
  refine takeM (N := 84) (k := 72) (m' := 9444732965739290427391) (v := .agg #[.int .u32 0, .int .u32 0, .int .u16 0, .int .u16 0, .int .i64 6]) hS.1 hT rfl rfl (by kernel_rfl) (fun _ _ => by kernel_rfl) fun hT => ?_
  refine soleM hS.2.2.2.2.2.2.2.2.2.2.2.2.2.2.2.2.1 (makeM (m' := 18889465931478580854783) rfl rfl (by kernel_rfl) (bld6_run _ _ _ _ _ _ _ (by kernel_rfl) W5) (Mv.of_ext (Ext.al (Ext.rf _) _)) ?_)
  obtain ⟨W6, hW6⟩ : ∃ W6, W5.alloc (.cells #[.int .u32 0, .int .u32 0, .int .u16 0, .int .u16 0, .int .i64 6] 70) = W6 := ⟨_, rfl⟩
  have hb6 := World.alloc_heap_new W5 (.cells #[.int .u32 0, .int .u32 0, .int .u16 0, .int .u16 0, .int .i64 6] 70)
  have gW6 : Ext W5 W6 := by rw [← hW6]; exact Ext.al (Ext.rf _) _
  rw [hW6] at hb6 ⊢
  clear hW6
  have E := E.tr gW6
  have s1 := s1.ext gW6
  have s2 := s2.ext gW6
  have ht := ht.ext gW6
  refine soleM hS.2.2.2.2.2.2.2.2.2.2.2.2.2.2.2.2.2.1 (callM (m' := 37778931862957161709567) (R := fun v _ => v = .bool false) rfl rfl (by kernel_rfl) (by kernel_rfl) (val_of (wz14 1 W6 (SlH.one (x := ⟨X0, 6⟩) hb6))) ?_)
  rintro _ W7 gW7 rfl
  have E := E.tr gW7
  have s1 := s1.ext gW7
  have s2 := s2.ext gW7
  have ht := ht.ext gW7
  have hT := hS.2.2.2.2.2.2.2.2.2.2.2.2.2.2.2.2.2.2.1
  refine takeM (N := 84) (k := 75) (m' := 75557863725914323419135) (v := .bool true) hS.1 hT rfl rfl (by kernel_rfl) (fun _ _ => by kernel_rfl) fun hT => ?_
  refine takeM (N := 84) (k := 76) (m' := 151115727451828646838271) (v := .bool true) hS.1 hT rfl rfl (by kernel_rfl) (fun _ _ => by kernel_rfl) fun hT => ?_
  refine takeM (N := 84) (k := 77) (m' := 302231454903657293676543) (v := .bool true) hS.1 hT rfl rfl (by kernel_rfl) (fun _ _ => by kernel_rfl) fun hT => ?_
  refine takeM (N := 84) (k := 78) (m' := 604462909807314587353087) (v := .slice p1 1 c1) hS.1 hT rfl rfl (by kernel_rfl) (fun _ _ => by kernel_rfl) fun hT => ?_
  refine takeM (N := 84) (k := 79) (m' := 1208925819614629174706175) (v := .slice p3 0 c3) hS.1 hT rfl rfl (by kernel_rfl) (fun _ _ => by kernel_rfl) fun hT => ?_
  refine soleM hS.2.2.2.2.2.2.2.2.2.2.2.2.2.2.2.2.2.2.2.1 (callM (m' := 2417851639229258349412351) (R := fun v _ => v = .bool false) rfl rfl (by kernel_rfl) (by kernel_rfl) (val_of (wz9 (q := p3) c1 c3 W7 s1)) ?_)
  rintro _ W8 gW8 rfl
  have E := E.tr gW8
  have s1 := s1.ext gW8
  have s2 := s2.ext gW8
  have ht := ht.ext gW8
  have hT := hS.2.2.2.2.2.2.2.2.2.2.2.2.2.2.2.2.2.2.2.2.1
  refine takeM (N := 84) (k := 81) (m' := 4835703278458516698824703) (v := .bool true) hS.1 hT rfl rfl (by kernel_rfl) (fun _ _ => by kernel_rfl) fun hT => ?_
  refine takeM (N := 84) (k := 82) (m' := 9671406556917033397649407) (v := .bool true) hS.1 hT rfl rfl (by kernel_rfl) (fun _ _ => by kernel_rfl) fun hT => ?_
  refine takeM (N := 84) (k := 83) (m' := 19342813113834066795298815) (v := .bool true) hS.1 hT rfl rfl (by kernel_rfl) (fun _ _ => by kernel_rfl) fun hT => ?_
  refine doneK hS.2.2.2.2.2.2.2.2.2.2.2.2.2.2.2.2.2.2.2.2.2 ?_
  clear hS
  go_simp
  go_wp2
  exact bodyPost_ret (v := .bool true) (by simp [results, Try.results35, go_sem]) rfl ⟨rfl, E⟩

end Go.Proofs.Ytookffaojlkfaaa

/- The document's Touch. -/
namespace Go.Proofs.Ytookffaojlkfaaa
open Go.RowKit

set_option maxRecDepth 100000 in
set_option maxHeartbeats 8000000 in
theorem rtouch_any (t : Tu) (now : Int) (p : Option Addr) (xs : List Co) (c : Nat) (w : World) (hs : SlC w p xs) (hl : xs.length ≤ 1000) (hc : xs.length ≤ c) (hr : ∀ x ∈ xs, TuR x.t) (hrt : TuR t) :
    Calls Try.prog 18 #[.slice p xs.length c, tu t.a t.b t.c t.d, .int .i64 now] w fun e w' => ∃ v, e = .returned (.tuple #[v, .bool (withOk xs t)]) ∧ w'.ownsRow w.heap.size 43 6 v (withX (touchF now) xs t).length (flC (withX (touchF now) xs t)) ∧ Ext w w' := by
  have HRR := Lib.hid hr
  have HRT := Lib.hid hrt
  clear hr hrt
  go_enter Try.func18, Try.ntmps18
  go_upto_region 1 with (fail)
  obtain ⟨W0, hW⟩ : ∃ W0, w.alloc (.cells #[.int .u32 t.a, .int .u32 t.b, .int .u16 t.c, .int .u16 t.d] 26) = W0 := ⟨_, rfl⟩
  have g0 : Ext w W0 := by rw [← hW]; exact Ext.al (Ext.rf _) _
  have ht : TuAt W0 w.heap.size t := by rw [← hW]; unfold TuAt; simp [go_sem, Lt]
  have s0 := hs.ext g0
  have hsz : w.heap.size ≤ W0.heap.size := g0.size
  have HS0 := Lib.hid hs
  rw [hW]
  clear hW hs
  obtain ⟨d0, d1, d2, d3⟩ := ht.cells
  have lB : Lt w.heap.size W0 := ht.2
  go_upto_region 2 with (go_at_call 54; (with_reducible refine (own_C p xs c _ s0 hl).mono ?_); rintro e W1 ⟨v, rfl, ho, g1⟩)
  have ht := ht.ext g1
  have e1 := g0.tr g1
  have ho : W1.ownsRow w.heap.size 43 6 v xs.length (flC xs) := ownsRow_le ho hsz
  have s1 := s0.ext g1
  have HO := Lib.hid ho
  obtain ⟨d0, d1, d2, d3⟩ := ht.cells
  have lB : Lt w.heap.size W1 := ht.2
  clear ho s0 g0 g1 hsz
  go_upto_region 3 with (go_at_call 25; go_must (with_reducible refine (rfind_any t p xs c _ s1 hl HRR.out HRT.out).mono ?_); rintro e W2 ⟨rfl, g2⟩)
  have s2 := s1.ext g2
  have e2 := e1.tr g2
  have HW := Lib.hid (own_ext HO.out g2)
  clear s1 e1 d0 d1 d2 d3 lB g2 HO ht
  have hX : withX (touchF now) xs t = if withOk xs t = true then touchF now xs (atC xs t) else xs := rfl
  have hO : withOk xs t = (okC xs t && rightC xs) := rfl
  cases hrr : rightC xs
  · rw [hrr, Bool.and_false] at hO
    rw [hO, if_neg (by simp)] at hX
    have HO := Lib.hid hO
    have HX := Lib.hid hX
    clear hO hX
    go_wp2_with ((go_at_call 27; (with_reducible refine (rright_any p xs c _ s2 hl HRR.out).mono ?_); rw [hrr]; rintro e W3 ⟨rfl, g3⟩))
    exact bodyPost_ret (v := .tuple #[v, .bool false]) (by simp [results, Try.results18, go_sem]) rfl ⟨v, by rw [HO.out], by rw [HX.out]; exact own_ext HW.out g3, e2.tr g3⟩
  · rw [hrr, Bool.and_true] at hO
    cases hok : okC xs t
    · rw [hok] at hO
      rw [hO, if_neg (by simp)] at hX
      have HO := Lib.hid hO
      have HX := Lib.hid hX
      clear hO hX
      go_wp2_with ((go_at_call 27; (with_reducible refine (rright_any p xs c _ s2 hl HRR.out).mono ?_); rw [hrr]; rintro e W3 ⟨rfl, g3⟩))
      exact bodyPost_ret (v := .tuple #[v, .bool false]) (by simp [results, Try.results18, go_sem]) rfl ⟨v, by rw [HO.out], by rw [HX.out]; exact own_ext HW.out g3, e2.tr g3⟩
    · rw [hok] at hO
      rw [hO, if_pos rfl] at hX
      have hk := okC_lt hok
      have HO := Lib.hid hO
      have HX := Lib.hid hX
      clear hO hX
      obtain ⟨k, hke⟩ : ∃ k, atC xs t = k := ⟨_, rfl⟩
      rw [hke] at HX hk ⊢
      clear hke
      go_upto_region 5 with ((go_at_call 27; (with_reducible refine (rright_any p xs c _ s2 hl HRR.out).mono ?_); rw [hrr]; rintro e W3 ⟨rfl, g3⟩))
      have ho := own_ext HW.out g3
      have hb : w.heap.size ≤ w.heap.size := Nat.le_refl _
      obtain ⟨g, cap, rfl, hg, hgl, hfz, hc1⟩ : ∃ g cap, v = .slice (some ⟨g, 0, none⟩) xs.length cap ∧ w.heap.size ≤ g ∧ g < W3.heap.size ∧ frzD W3 g = (0, 0) ∧ xs.length ≤ cap := by
        rcases ho.2 with ⟨_, h0⟩ | ⟨g, cap, cur, rfl, h1, hgb, h2, h3, h4, h5⟩
        · omega
        · exact ⟨g, cap, rfl, h1, (Array.getElem?_eq_some_iff.1 hgb).1, by unfold frzD; rw [hgb], h2⟩
      obtain ⟨p1, c1, e1, _, s1⟩ := SlC.own ho
      cases e1
      obtain ⟨b, off, e3, _, c0, c1', c2, c3, c4, c5⟩ := s1 k hk
      cases e3
      obtain ⟨x, hx⟩ : ∃ x, xs[k] = x := ⟨_, rfl⟩
      rw [hx, Nat.zero_add] at c5
      have hxl : x.l ≤ 1099511627776 := by
        have h9 := (rightC_iff xs).1 hrr
        refine Int.not_lt.1 fun hlt => h9.2 k hk ⟨x, by rw [List.getElem?_eq_getElem hk, hx], .inl ?_⟩
        unfold wrongC; simp [hlt]
      have HOO := Lib.hid ho
      have HXX := Lib.hid hx
      have hkl : (k : Int) < xs.length := by omega
      have lg : Lt g W3 := hgl
      have hf5 := frozen_of_frz hfz (k * 6 + 5)
      have HT := Lib.hid (show touchF now xs k = xs.set k { x with l := max x.l (min now 1099511627776) } by unfold touchF; rw [List.getElem?_eq_getElem hk, hx])
      have HXL := Lib.hid hxl
      clear ho s1 hx c0 c1' c2 c3 c4 hfz hxl hb HW
      go_wp2
      all_goals
        refine bodyPost_ret (v := .tuple #[.slice (some ⟨g, 0, none⟩) xs.length cap, .bool true]) (by simp [results, Try.results18, go_sem]) rfl ⟨_, by rw [HO.out], ?_, Ext.st _ hg (e2.tr g3)⟩
        rw [HX.out, HT.out, List.length_set, ← flC_set xs k x _ hk HXX.out]
        have hxl := HXL.out
        first
          | rw [show max x.l (min now 1099511627776) = now by omega]; exact own_set HOO.out _ _
          | rw [show max x.l (min now 1099511627776) = x.l by omega]; exact own_set HOO.out _ _
          | rw [show max x.l (min now 1099511627776) = 1099511627776 by omega]; exact own_set HOO.out _ _

end Go.Proofs.Ytookffaojlkfaaa
