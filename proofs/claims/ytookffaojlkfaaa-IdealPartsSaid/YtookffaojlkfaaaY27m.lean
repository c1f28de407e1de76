/- IdealParts. -/
import Derived.Test.YtookffaojlkfaaaY25m
import Derived.Test.YtookffaojlkfaaaRows
set_option linter.unusedSimpArgs false
set_option linter.unusedVariables false
namespace Go.Proofs.Ytookffaojlkfaaa
open Go.ChangeShapes Go.WideShapes Go.ChangeAt Go.RowKit

theorem runH_yes : ∀ (es : List Ev) (xs : List Ho), ((runH xs es).2.2 = true → (runH xs es).2.1 = es.length) ∧ ((runH xs es).2.2 = false → (runH xs es).2.1 < es.length)
  | [], xs => ⟨fun _ => rfl, fun h => by cases h⟩
  | e :: es, xs => by
    rw [runH]
    split
    · have := runH_yes es (stepH xs e).1
      refine ⟨fun h => ?_, fun h => ?_⟩
      · have := this.1 h; simp only [List.length_cons]; omega
      · have := this.2 h; simp only [List.length_cons]; omega
    · refine ⟨fun h => ?_, fun _ => ?_⟩
      · cases h
      · simp
theorem runH_app : ∀ (es bs : List Ev) (xs : List Ho), runH xs (es ++ bs) = if (runH xs es).2.2 = true then ((runH (runH xs es).1 bs).1, (runH xs es).2.1 + (runH (runH xs es).1 bs).2.1, (runH (runH xs es).1 bs).2.2) else runH xs es
  | [], bs, xs => by simp [runH]
  | e :: es, bs, xs => by
    rw [List.cons_append, runH, runH]
    split
    · rw [runH_app es bs]
      simp only
      split
      · refine Prod.ext rfl (Prod.ext ?_ rfl)
        simp only
        omega
      · rfl
    · simp
theorem SlE.take {w : World} {p : Option Addr} {es : List Ev} (h : SlE w p es) (k : Nat) : SlE w p (es.take k) := fun j hj => by
  rw [List.length_take] at hj
  obtain ⟨b, off, hp, hb, c0, c1, c2, c3, c4, c5⟩ := h j (by omega)
  have e : (es.take k)[j]'(by rw [List.length_take]; exact hj) = es[j]'(by omega) := by simp
  exact ⟨b, off, hp, hb, by rw [e]; exact c0, by rw [e]; exact c1, by rw [e]; exact c2, by rw [e]; exact c3, by rw [e]; exact c4, by rw [e]; exact c5⟩
set_option maxRecDepth 100000 in
set_option maxHeartbeats 4000000 in
theorem parts26_great1 (p : Option Addr) (xs : List Ho) (c : Nat) (q : Option Addr) (es : List Ev) (d : Nat) (at0 : Int) (w : World) (hx : SlH w p xs) (he : SlE w q es) (g1 : decide ((60 : Int) < xs.length) = true) :
    Calls Try.prog 10 #[.slice p xs.length c, .slice q es.length d, .int .i64 at0] w fun e w' => e = .returned (.bool true) ∧ Ext w w' := by
  go_enter Try.func10, Try.ntmps10
  go_wp2_with ((go_at_call 35; (with_reducible refine (wakes26_any _).mono ?_); rintro e WZ ⟨rfl, gZ⟩))
  go_ret
  exact ⟨rfl, gZ⟩
set_option maxRecDepth 100000 in
set_option maxHeartbeats 4000000 in
theorem parts26_great2 (p : Option Addr) (xs : List Ho) (c : Nat) (q : Option Addr) (es : List Ev) (d : Nat) (at0 : Int) (w : World) (hx : SlH w p xs) (he : SlE w q es) (g1 : decide ((60 : Int) < xs.length) = false) (g2 : decide ((40 : Int) < es.length) = true) :
    Calls Try.prog 10 #[.slice p xs.length c, .slice q es.length d, .int .i64 at0] w fun e w' => e = .returned (.bool true) ∧ Ext w w' := by
  go_enter Try.func10, Try.ntmps10
  go_wp2_with ((go_at_call 35; (with_reducible refine (wakes26_any _).mono ?_); rintro e WZ ⟨rfl, gZ⟩))
  go_ret
  exact ⟨rfl, gZ⟩
attribute [local go_sem] beq_self_eq_true bne_self_eq_false

set_option maxRecDepth 100000 in
set_option maxHeartbeats 16000000 in
theorem pA_yes (p : Option Addr) (xs : List Ho) (c : Nat) (d : Nat) (at0 : Int) (w : World) (hx : SlH w p xs) (he : SlE w none []) (g1 : decide ((60 : Int) < xs.length) = false)   (HAT : Hid ((if (0 : Int) < (if at0 < 0 then 0 else at0) then (0 : Int) else if at0 < 0 then 0 else at0) = (0 : Int))) (A C : List Ho) (n : Nat) (hA : A.length ≤ 1000) (hC : C.length ≤ 1000) (w0 : Hid (∀ W, SlH W p xs → SlE W none [] → Calls Try.prog 38 #[.slice p xs.length c, .slice none 0 d] W (RunG C C.length (0) true W))) (w1 : Hid (∀ W, SlH W p xs → SlE W none [] → Calls Try.prog 38 #[.slice p xs.length c, .slice none 0 d] W (RunG A A.length 0 true W))) (w2 : Hid (∀ W p1 c1, SlH W p1 A → SlE W none [] → Calls Try.prog 38 #[.slice p1 A.length c1, .slice none 0 d] W (RunG C C.length 0 true W)))
     :
    Calls Try.prog 10 #[.slice p xs.length c, .slice none 0 d, .int .i64 at0] w fun e w' => e = .returned (.bool true) ∧ Ext w w' := by
  go_enter Try.func10, Try.ntmps10
  go_upto_region 4 with (fail)
  try rw [HAT.out]
  go_upto_region 5 with (go_at_call 38; go_must (with_reducible refine (w0.out _ hx he).mono ?_); rintro r W1 ⟨p1, e1, rfl, s1, -, g⟩)
  have E := g
  replace hx := hx.ext g
  replace he := he.ext g
  clear g
  go_upto_region 6 with (go_at_call 38; go_must (with_reducible refine (w1.out _ hx he).mono ?_); rintro r W2 ⟨p2, e2, rfl, s2, -, g⟩)
  replace E := E.tr g
  replace hx := hx.ext g
  replace he := he.ext g
  replace s1 := s1.ext g
  clear g
  go_upto_region 9 with (go_at_call 38; go_must (with_reducible refine (w2.out _ _ _ s2 he).mono ?_); rintro r W3 ⟨p3, e3, rfl, s3, -, g⟩)
  replace E := E.tr g
  replace s1 := s1.ext g
  clear g
  go_wp2_with (first | (go_at_call 42; go_must (with_reducible refine (sameH_g s1 s3 rfl hC).mono ?_); rintro r W4 ⟨rfl, g⟩; replace E := E.tr g; clear g) | (go_at_call 35; (with_reducible refine (wakes26_any _).mono ?_); rintro e WZ ⟨rfl, gZ⟩))
  all_goals (go_ret; exact ⟨rfl, E.tr gZ⟩)

set_option maxRecDepth 100000 in
set_option maxHeartbeats 16000000 in
theorem pD_no (p : Option Addr) (xs : List Ho) (c : Nat) (b o : Nat) (es : List Ev) (k d : Nat) (at0 : Int) (w : World) (hx : SlH w p xs) (he : SlE w (some ⟨b, o, none⟩) es) (g1 : decide ((60 : Int) < xs.length) = false) (g2 : decide ((40 : Int) < es.length) = false) (hk1 : (k : Int) ≤ d) (hk2 : (k : Int) ≤ es.length) (hk3 : (es.length : Int) ≤ d) (hdk : ¬ d = k) (HAT : Hid ((if (es.length : Int) < (if at0 < 0 then 0 else at0) then (es.length : Int) else if at0 < 0 then 0 else at0) = (k : Int))) (A C : List Ho) (n m : Nat) (hA : A.length ≤ 1000) (hC : C.length ≤ 1000) (hnk : decide (n < k) = true) (w0 : Hid (∀ W, SlH W p xs → SlE W (some ⟨b, o, none⟩) es → Calls Try.prog 38 #[.slice p xs.length c, .slice (some ⟨b, o, none⟩) es.length d] W (RunG A A.length n false W))) (w1 : Hid (∀ W, SlH W p xs → SlE W (some ⟨b, o, none⟩) es → Calls Try.prog 38 #[.slice p xs.length c, .slice (some ⟨b, o, none⟩) k d] W (RunG A A.length n false W))) :
    Calls Try.prog 10 #[.slice p xs.length c, .slice (some ⟨b, o, none⟩) es.length d, .int .i64 at0] w fun e w' => e = .returned (.bool true) ∧ Ext w w' := by
  go_enter Try.func10, Try.ntmps10
  go_upto_region 4 with (fail)
  try rw [HAT.out]
  go_upto_region 5 with (go_at_call 38; go_must (with_reducible refine (w0.out _ hx he).mono ?_); rintro r W1 ⟨p1, e1, rfl, s1, -, g⟩)
  have E := g
  replace hx := hx.ext g
  replace he := he.ext g
  clear g
  go_upto_region 6 with (go_at_call 38; go_must (with_reducible refine (w1.out _ hx he).mono ?_); rintro r W2 ⟨p2, e2, rfl, s2, -, g⟩)
  replace E := E.tr g
  replace hx := hx.ext g
  replace he := he.ext g
  replace s1 := s1.ext g
  clear g
  go_wp2_with (first | (go_at_call 42; go_must (with_reducible refine (sameH_g s1 s2 rfl hA).mono ?_); rintro r W4 ⟨rfl, g⟩; replace E := E.tr g; clear g) | (go_at_call 35; (with_reducible refine (wakes26_any _).mono ?_); rintro e WZ ⟨rfl, gZ⟩))
  all_goals (go_ret; exact ⟨rfl, E.tr gZ⟩)

set_option maxRecDepth 100000 in
set_option maxHeartbeats 16000000 in
theorem pD_yes (p : Option Addr) (xs : List Ho) (c : Nat) (b o : Nat) (es : List Ev) (k d : Nat) (at0 : Int) (w : World) (hx : SlH w p xs) (he : SlE w (some ⟨b, o, none⟩) es) (g1 : decide ((60 : Int) < xs.length) = false) (g2 : decide ((40 : Int) < es.length) = false) (hk1 : (k : Int) ≤ d) (hk2 : (k : Int) ≤ es.length) (hk3 : (es.length : Int) ≤ d) (hdk : ¬ d = k) (HAT : Hid ((if (es.length : Int) < (if at0 < 0 then 0 else at0) then (es.length : Int) else if at0 < 0 then 0 else at0) = (k : Int))) (A C : List Ho) (n m : Nat) (hA : A.length ≤ 1000) (hC : C.length ≤ 1000) (two : Bool) (w0 : Hid (∀ W, SlH W p xs → SlE W (some ⟨b, o, none⟩) es → Calls Try.prog 38 #[.slice p xs.length c, .slice (some ⟨b, o, none⟩) es.length d] W (RunG C C.length (k + m) two W))) (w1 : Hid (∀ W, SlH W p xs → SlE W (some ⟨b, o, none⟩) es → Calls Try.prog 38 #[.slice p xs.length c, .slice (some ⟨b, o, none⟩) k d] W (RunG A A.length k true W))) (w2 : Hid (∀ W p1 c1, SlH W p1 A → SlE W (some ⟨b, o, none⟩) es → Calls Try.prog 38 #[.slice p1 A.length c1, .slice (some ⟨b, o + k * 6, none⟩) (es.length - k) (d - k)] W (RunG C C.length m two W)))
    (hw : IntKind.i64.wrap ((k : Int) + (m : Int)) = (k : Int) + (m : Int)) (q2 : ((k : Int) + (m : Int) == (es.length : Int)) = two) :
    Calls Try.prog 10 #[.slice p xs.length c, .slice (some ⟨b, o, none⟩) es.length d, .int .i64 at0] w fun e w' => e = .returned (.bool true) ∧ Ext w w' := by
  go_enter Try.func10, Try.ntmps10
  go_upto_region 4 with (fail)
  try rw [HAT.out]
  go_upto_region 5 with (go_at_call 38; go_must (with_reducible refine (w0.out _ hx he).mono ?_); rintro r W1 ⟨p1, e1, rfl, s1, -, g⟩)
  have E := g
  replace hx := hx.ext g
  replace he := he.ext g
  clear g
  go_upto_region 6 with (go_at_call 38; go_must (with_reducible refine (w1.out _ hx he).mono ?_); rintro r W2 ⟨p2, e2, rfl, s2, -, g⟩)
  replace E := E.tr g
  replace hx := hx.ext g
  replace he := he.ext g
  replace s1 := s1.ext g
  clear g
  go_upto_region 9 with (go_at_call 38; go_must (with_reducible refine (w2.out _ _ _ s2 he).mono ?_); rintro r W3 ⟨p3, e3, rfl, s3, -, g⟩)
  replace E := E.tr g
  replace s1 := s1.ext g
  clear g
  go_wp2_with (first | (go_at_call 42; go_must (with_reducible refine (sameH_g s1 s3 rfl hC).mono ?_); rintro r W4 ⟨rfl, g⟩; replace E := E.tr g; clear g) | (go_at_call 35; (with_reducible refine (wakes26_any _).mono ?_); rintro e WZ ⟨rfl, gZ⟩))
  all_goals (go_ret; exact ⟨rfl, E.tr gZ⟩)

set_option maxRecDepth 100000 in
set_option maxHeartbeats 16000000 in
theorem pC_no (p : Option Addr) (xs : List Ho) (c : Nat) (b o : Nat) (es : List Ev) (at0 : Int) (w : World) (hx : SlH w p xs) (he : SlE w (some ⟨b, o, none⟩) es) (g1 : decide ((60 : Int) < xs.length) = false) (g2 : decide ((40 : Int) < es.length) = false)  (HAT : Hid ((if (es.length : Int) < (if at0 < 0 then 0 else at0) then (es.length : Int) else if at0 < 0 then 0 else at0) = (es.length : Int))) (A C : List Ho) (n : Nat) (hA : A.length ≤ 1000) (hC : C.length ≤ 1000) (hnk : decide (n < es.length) = true) (w0 : Hid (∀ W, SlH W p xs → SlE W (some ⟨b, o, none⟩) es → Calls Try.prog 38 #[.slice p xs.length c, .slice (some ⟨b, o, none⟩) es.length es.length] W (RunG A A.length n false W))) (w1 : Hid (∀ W, SlH W p xs → SlE W (some ⟨b, o, none⟩) es → Calls Try.prog 38 #[.slice p xs.length c, .slice (some ⟨b, o, none⟩) es.length es.length] W (RunG A A.length n false W))) :
    Calls Try.prog 10 #[.slice p xs.length c, .slice (some ⟨b, o, none⟩) es.length es.length, .int .i64 at0] w fun e w' => e = .returned (.bool true) ∧ Ext w w' := by
  go_enter Try.func10, Try.ntmps10
  go_upto_region 4 with (fail)
  try rw [HAT.out]
  go_upto_region 5 with (go_at_call 38; go_must (with_reducible refine (w0.out _ hx he).mono ?_); rintro r W1 ⟨p1, e1, rfl, s1, -, g⟩)
  have E := g
  replace hx := hx.ext g
  replace he := he.ext g
  clear g
  go_upto_region 6 with (go_at_call 38; go_must (with_reducible refine (w1.out _ hx he).mono ?_); rintro r W2 ⟨p2, e2, rfl, s2, -, g⟩)
  replace E := E.tr g
  replace hx := hx.ext g
  replace he := he.ext g
  replace s1 := s1.ext g
  clear g
  go_wp2_with (first | (go_at_call 42; go_must (with_reducible refine (sameH_g s1 s2 rfl hA).mono ?_); rintro r W4 ⟨rfl, g⟩; replace E := E.tr g; clear g) | (go_at_call 35; (with_reducible refine (wakes26_any _).mono ?_); rintro e WZ ⟨rfl, gZ⟩))
  all_goals (go_ret; exact ⟨rfl, E.tr gZ⟩)

set_option maxRecDepth 100000 in
set_option maxHeartbeats 16000000 in
theorem pC_yes (p : Option Addr) (xs : List Ho) (c : Nat) (b o : Nat) (es : List Ev) (at0 : Int) (w : World) (hx : SlH w p xs) (he : SlE w (some ⟨b, o, none⟩) es) (g1 : decide ((60 : Int) < xs.length) = false) (g2 : decide ((40 : Int) < es.length) = false)  (HAT : Hid ((if (es.length : Int) < (if at0 < 0 then 0 else at0) then (es.length : Int) else if at0 < 0 then 0 else at0) = (es.length : Int))) (A C : List Ho) (n : Nat) (hA : A.length ≤ 1000) (hC : C.length ≤ 1000) (w0 : Hid (∀ W, SlH W p xs → SlE W (some ⟨b, o, none⟩) es → Calls Try.prog 38 #[.slice p xs.length c, .slice (some ⟨b, o, none⟩) es.length es.length] W (RunG C C.length (es.length) true W))) (w1 : Hid (∀ W, SlH W p xs → SlE W (some ⟨b, o, none⟩) es → Calls Try.prog 38 #[.slice p xs.length c, .slice (some ⟨b, o, none⟩) es.length es.length] W (RunG A A.length es.length true W))) (w2 : Hid (∀ W p1 c1, SlH W p1 A → SlE W (some ⟨b, o, none⟩) es → Calls Try.prog 38 #[.slice p1 A.length c1, .slice (some ⟨b, o, none⟩) 0 0] W (RunG C C.length 0 true W)))
    (hw : IntKind.i64.wrap ((es.length : Nat) : Int) = (es.length : Nat)) :
    Calls Try.prog 10 #[.slice p xs.length c, .slice (some ⟨b, o, none⟩) es.length es.length, .int .i64 at0] w fun e w' => e = .returned (.bool true) ∧ Ext w w' := by
  go_enter Try.func10, Try.ntmps10
  go_upto_region 4 with (fail)
  try rw [HAT.out]
  go_upto_region 5 with (go_at_call 38; go_must (with_reducible refine (w0.out _ hx he).mono ?_); rintro r W1 ⟨p1, e1, rfl, s1, -, g⟩)
  have E := g
  replace hx := hx.ext g
  replace he := he.ext g
  clear g
  go_upto_region 6 with (go_at_call 38; go_must (with_reducible refine (w1.out _ hx he).mono ?_); rintro r W2 ⟨p2, e2, rfl, s2, -, g⟩)
  replace E := E.tr g
  replace hx := hx.ext g
  replace he := he.ext g
  replace s1 := s1.ext g
  clear g
  go_upto_region 9 with (go_at_call 38; go_must (with_reducible refine (w2.out _ _ _ s2 he).mono ?_); rintro r W3 ⟨p3, e3, rfl, s3, -, g⟩)
  replace E := E.tr g
  replace s1 := s1.ext g
  clear g
  go_wp2_with (first | (go_at_call 42; go_must (with_reducible refine (sameH_g s1 s3 rfl hC).mono ?_); rintro r W4 ⟨rfl, g⟩; replace E := E.tr g; clear g) | (go_at_call 35; (with_reducible refine (wakes26_any _).mono ?_); rintro e WZ ⟨rfl, gZ⟩))
  all_goals (go_ret; exact ⟨rfl, E.tr gZ⟩)

set_option maxRecDepth 100000 in
set_option maxHeartbeats 16000000 in
theorem pB_yes (p : Option Addr) (xs : List Ho) (c : Nat) (a : Addr) (d : Nat) (at0 : Int) (w : World) (hx : SlH w p xs) (he : SlE w (some a) []) (g1 : decide ((60 : Int) < xs.length) = false)  (hd0 : ¬ (d : Int) = 0) (HAT : Hid ((if (0 : Int) < (if at0 < 0 then 0 else at0) then (0 : Int) else if at0 < 0 then 0 else at0) = (0 : Int))) (A C : List Ho) (n : Nat) (hA : A.length ≤ 1000) (hC : C.length ≤ 1000) (w0 : Hid (∀ W, SlH W p xs → SlE W (some a) [] → Calls Try.prog 38 #[.slice p xs.length c, .slice (some a) 0 d] W (RunG C C.length (0) true W))) (w1 : Hid (∀ W, SlH W p xs → SlE W (some a) [] → Calls Try.prog 38 #[.slice p xs.length c, .slice (some a) 0 d] W (RunG A A.length 0 true W))) (w2 : Hid (∀ W p1 c1, SlH W p1 A → SlE W (some a) [] → Calls Try.prog 38 #[.slice p1 A.length c1, .slice (some a) 0 d] W (RunG C C.length 0 true W)))
     :
    Calls Try.prog 10 #[.slice p xs.length c, .slice (some a) 0 d, .int .i64 at0] w fun e w' => e = .returned (.bool true) ∧ Ext w w' := by
  obtain ⟨b, o, s⟩ := a
  go_enter Try.func10, Try.ntmps10
  go_upto_region 4 with (fail)
  try rw [HAT.out]
  go_upto_region 5 with (go_at_call 38; go_must (with_reducible refine (w0.out _ hx he).mono ?_); rintro r W1 ⟨p1, e1, rfl, s1, -, g⟩)
  have E := g
  replace hx := hx.ext g
  replace he := he.ext g
  clear g
  go_upto_region 6 with (go_at_call 38; go_must (with_reducible refine (w1.out _ hx he).mono ?_); rintro r W2 ⟨p2, e2, rfl, s2, -, g⟩)
  replace E := E.tr g
  replace hx := hx.ext g
  replace he := he.ext g
  replace s1 := s1.ext g
  clear g
  go_upto_region 9 with (go_at_call 38; go_must (with_reducible refine (w2.out _ _ _ s2 he).mono ?_); rintro r W3 ⟨p3, e3, rfl, s3, -, g⟩)
  replace E := E.tr g
  replace s1 := s1.ext g
  clear g
  go_wp2_with (first | (go_at_call 42; go_must (with_reducible refine (sameH_g s1 s3 rfl hC).mono ?_); rintro r W4 ⟨rfl, g⟩; replace E := E.tr g; clear g) | (go_at_call 35; (with_reducible refine (wakes26_any _).mono ?_); rintro e WZ ⟨rfl, gZ⟩))
  all_goals (go_ret; exact ⟨rfl, E.tr gZ⟩)

set_option maxRecDepth 100000 in
set_option maxHeartbeats 16000000 in
theorem pE_yes (p : Option Addr) (xs : List Ho) (c : Nat) (a : Addr) (at0 : Int) (w : World) (hx : SlH w p xs) (he : SlE w (some a) []) (g1 : decide ((60 : Int) < xs.length) = false)   (HAT : Hid ((if (0 : Int) < (if at0 < 0 then 0 else at0) then (0 : Int) else if at0 < 0 then 0 else at0) = (0 : Int))) (A C : List Ho) (n : Nat) (hA : A.length ≤ 1000) (hC : C.length ≤ 1000) (w0 : Hid (∀ W, SlH W p xs → SlE W (some a) [] → Calls Try.prog 38 #[.slice p xs.length c, .slice (some a) 0 0] W (RunG C C.length (0) true W))) (w1 : Hid (∀ W, SlH W p xs → SlE W (some a) [] → Calls Try.prog 38 #[.slice p xs.length c, .slice (some a) 0 0] W (RunG A A.length 0 true W))) (w2 : Hid (∀ W p1 c1, SlH W p1 A → SlE W (some a) [] → Calls Try.prog 38 #[.slice p1 A.length c1, .slice (some a) 0 0] W (RunG C C.length 0 true W)))
     :
    Calls Try.prog 10 #[.slice p xs.length c, .slice (some a) 0 0, .int .i64 at0] w fun e w' => e = .returned (.bool true) ∧ Ext w w' := by
  obtain ⟨b, o, s⟩ := a
  go_enter Try.func10, Try.ntmps10
  go_upto_region 4 with (fail)
  try rw [HAT.out]
  go_upto_region 5 with (go_at_call 38; go_must (with_reducible refine (w0.out _ hx he).mono ?_); rintro r W1 ⟨p1, e1, rfl, s1, -, g⟩)
  have E := g
  replace hx := hx.ext g
  replace he := he.ext g
  clear g
  go_upto_region 6 with (go_at_call 38; go_must (with_reducible refine (w1.out _ hx he).mono ?_); rintro r W2 ⟨p2, e2, rfl, s2, -, g⟩)
  replace E := E.tr g
  replace hx := hx.ext g
  replace he := he.ext g
  replace s1 := s1.ext g
  clear g
  go_upto_region 9 with (go_at_call 38; go_must (with_reducible refine (w2.out _ _ _ s2 he).mono ?_); rintro r W3 ⟨p3, e3, rfl, s3, -, g⟩)
  replace E := E.tr g
  replace s1 := s1.ext g
  clear g
  go_wp2_with (first | (go_at_call 42; go_must (with_reducible refine (sameH_g s1 s3 rfl hC).mono ?_); rintro r W4 ⟨rfl, g⟩; replace E := E.tr g; clear g) | (go_at_call 35; (with_reducible refine (wakes26_any _).mono ?_); rintro e WZ ⟨rfl, gZ⟩))
  all_goals (go_ret; exact ⟨rfl, E.tr gZ⟩)

theorem SlE.drop {w : World} {b o : Nat} {es : List Ev} (h : SlE w (some ⟨b, o, none⟩) es) (k : Nat) : SlE w (some ⟨b, o + k * 6, none⟩) (es.drop k) := fun j hj => by
  rw [List.length_drop] at hj
  obtain ⟨b', off, hp, hb, c0, c1, c2, c3, c4, c5⟩ := h (k + j) (by omega)
  cases hp
  have e : (es.drop k)[j]'(by rw [List.length_drop]; exact hj) = es[k + j]'(by omega) := by simp
  have e2 : o + k * 6 + j * 6 = o + (k + j) * 6 := by omega
  exact ⟨b, o + k * 6, rfl, hb, by rw [e, e2]; exact c0, by rw [e, e2]; exact c1, by rw [e, e2]; exact c2, by rw [e, e2]; exact c3, by rw [e, e2]; exact c4, by rw [e, e2]; exact c5⟩
theorem parts26_walk (p : Option Addr) (xs : List Ho) (c : Nat) (q : Option Addr) (es : List Ev) (d : Nat) (at0 : Int) (w : World) (hx : SlH w p xs) (he : SlE w q es) (hd : es.length ≤ d) :
    Calls Try.prog 10 #[.slice p xs.length c, .slice q es.length d, .int .i64 at0] w fun e w' => e = .returned (.bool true) ∧ Ext w w' := by
  cases g1 : decide ((60 : Int) < xs.length)
  rotate_left
  · exact parts26_great1 p xs c q es d at0 w hx he g1
  cases g2 : decide ((40 : Int) < es.length)
  rotate_left
  · exact parts26_great2 p xs c q es d at0 w hx he g1 g2
  have l1 : xs.length ≤ 60 := by have := of_decide_eq_false g1; omega
  have l2 : es.length ≤ 40 := by have := of_decide_eq_false g2; omega
  obtain ⟨k, hat, hkl⟩ : ∃ k : Nat, (if (es.length : Int) < (if at0 < 0 then 0 else at0) then (es.length : Int) else if at0 < 0 then 0 else at0) = (k : Int) ∧ k ≤ es.length := by
    by_cases h0 : at0 < 0
    · exact ⟨0, by rw [if_pos h0]; split <;> omega, Nat.zero_le _⟩
    · by_cases h1 : (es.length : Int) < at0
      · exact ⟨es.length, by rw [if_neg h0, if_pos h1], Nat.le_refl _⟩
      · exact ⟨at0.toNat, by rw [if_neg h0, if_neg h1]; omega, by omega⟩
  by_cases hes : es = []
  · subst hes
    obtain rfl : k = 0 := by simpa using hkl
    have w0 : ∀ (q : Option Addr) (d c0 : Nat) (p0 : Option Addr) W, SlH W p0 xs → Calls Try.prog 38 #[.slice p0 xs.length c0, .slice q 0 d] W (RunG xs xs.length 0 true W) := fun q d c0 p0 W s => run_g (es := []) s (SlE.nil _ _) rfl rfl (by simp; omega) rfl rfl rfl rfl
    cases q with
    | none => exact pA_yes p xs c d at0 w hx he g1 (Lib.hid hat) xs xs 0 (by omega) (by omega) (Lib.hid fun W s _ => w0 _ _ _ _ W s) (Lib.hid fun W s _ => w0 _ _ _ _ W s) (Lib.hid fun W p1 c1 s _ => w0 _ _ _ _ W s)
    | some a =>
      by_cases h0 : d = 0
      · subst h0
        exact pE_yes p xs c a at0 w hx he g1 (Lib.hid hat) xs xs 0 (by omega) (by omega) (Lib.hid fun W s _ => w0 _ _ _ _ W s) (Lib.hid fun W s _ => w0 _ _ _ _ W s) (Lib.hid fun W p1 c1 s _ => w0 _ _ _ _ W s)
      · exact pB_yes p xs c a d at0 w hx he g1 (by omega) (Lib.hid hat) xs xs 0 (by omega) (by omega) (Lib.hid fun W s _ => w0 _ _ _ _ W s) (Lib.hid fun W s _ => w0 _ _ _ _ W s) (Lib.hid fun W p1 c1 s _ => w0 _ _ _ _ W s)
  obtain ⟨b, o, rfl, -⟩ := he 0 (List.length_pos_iff.2 hes)
  have htk : (es.take k).length = k := by rw [List.length_take]; omega
  have hap := runH_app (es.take k) (es.drop k) xs
  rw [List.take_append_drop] at hap
  have hy := runH_yes (es.take k) xs
  have hlA := runH_len (es.take k) xs
  rw [htk] at hy hlA
  have hA : (runH xs (es.take k)).1.length ≤ 1000 := by omega
  have hw0 : IntKind.i64.wrap ((es.length : Nat) : Int) = (es.length : Nat) := by rw [IntKind.wrap_i64]; omega
  cases h1 : (runH xs (es.take k)).2.2
  · rw [h1, if_neg (by decide)] at hap
    have hn := hy.2 h1
    by_cases hdk : d = k
    · obtain rfl : k = es.length := by omega
      subst hdk
      exact pC_no p xs c b o es at0 w hx he g1 g2 (Lib.hid hat) (runH xs (es.take es.length)).1 [] (runH xs (es.take es.length)).2.1 hA (by simp) (decide_eq_true hn)
        (Lib.hid fun W s s' => run_g s s' rfl rfl (by omega) (by rw [hap]) rfl (by rw [hap]) (by rw [hap, h1])) (Lib.hid fun W s s' => run_g s s' rfl rfl (by omega) (by rw [hap]) rfl (by rw [hap]) (by rw [hap, h1]))
    · exact pD_no p xs c b o es k d at0 w hx he g1 g2 (by omega) (by omega) (by omega) hdk (Lib.hid hat) (runH xs (es.take k)).1 [] (runH xs (es.take k)).2.1 0 hA (by simp) (decide_eq_true hn)
        (Lib.hid fun W s s' => run_g s s' rfl rfl (by omega) (by rw [hap]) rfl (by rw [hap]) (by rw [hap, h1])) (Lib.hid fun W s s' => run_g s (s'.take k) rfl htk (by omega) rfl rfl rfl h1)
  · rw [h1, if_pos rfl] at hap
    have hn := hy.1 h1
    rw [hn] at hap
    by_cases hdk : d = k
    · obtain rfl : k = es.length := by omega
      subst hdk
      rw [List.drop_length] at hap
      have hap' : runH xs es = ((runH xs (es.take es.length)).1, es.length, true) := hap
      exact pC_yes p xs c b o es at0 w hx he g1 g2 (Lib.hid hat) (runH xs (es.take es.length)).1 (runH xs (es.take es.length)).1 0 hA hA
        (Lib.hid fun W s s' => run_g s s' rfl rfl (by omega) (by rw [hap']) rfl (by rw [hap']) (by rw [hap'])) (Lib.hid fun W s s' => run_g s s' rfl rfl (by omega) (by rw [hap']) rfl (by rw [hap']) (by rw [hap']))
        (Lib.hid fun W p1 c1 s s' => run_g (es := []) s (SlE.nil _ _) rfl rfl hA rfl rfl rfl rfl) hw0
    · obtain ⟨A, hAe⟩ : ∃ A, (runH xs (es.take k)).1 = A := ⟨_, rfl⟩
      rw [hAe] at hap hA hlA
      have hdl : (es.drop k).length = es.length - k := List.length_drop
      have hy2 := runH_yes (es.drop k) A
      have hlC := runH_len (es.drop k) A
      rw [hdl] at hy2 hlC
      have hm := runH_many (es.drop k) A
      rw [hdl] at hm
      exact pD_yes p xs c b o es k d at0 w hx he g1 g2 (by omega) (by omega) (by omega) hdk (Lib.hid hat) A (runH A (es.drop k)).1 0 (runH A (es.drop k)).2.1 hA (by omega) (runH A (es.drop k)).2.2
        (Lib.hid fun W s s' => run_g s s' rfl rfl (by omega) (by rw [hap]) rfl (by rw [hap]) (by rw [hap])) (Lib.hid fun W s s' => run_g s (s'.take k) rfl htk (by omega) hAe rfl hn h1)
        (Lib.hid fun W p1 c1 s s' => run_g s (s'.drop k) rfl hdl (by omega) rfl rfl rfl rfl)
        (by rw [IntKind.wrap_i64]; omega) (by
          cases h2 : (runH A (es.drop k)).2.2
          · have := hy2.2 h2; simp; omega
          · have := hy2.1 h2; rw [this]; simp; omega)

set_option maxRecDepth 100000 in
theorem idealParts_lifted (os : Os) (started : os.Started) (H : Type) (enc : TypeId × Value → H) :
    ReturnsInHanded {} Try.checked os 10 .any (Rows.idealPartsSpec.pre6 enc Try.prog Try.f10 Rows.idealPartsRow.domain false) (Rows.idealPartsSpec.post enc Try.prog Try.f10 false true false false) := by
  refine law_lift 4 ownKn started (by kernel_rfl) Try.func10 (ChangeSpec.witness6 (enc := enc) (C := Try.checked) false ⟨#[], #[.slice none 0 0, .slice none 0 0, .int .i64 0], []⟩ 8 (by kernel_rfl) (by kernel_rfl) (by kernel_rfl) (by kernel_rfl)) laidOut rfl (by kernel_rfl) Try.underlying4 ?_ (by kernel_rfl) ?_
  · intro ds h
    match ds, h with
    | [d0, d1, d2], _ => rfl
  · intro W base args ds p hval hA hlt
    have hval' : ∀ (j : Nat) t v, Try.f10.params[j]? = some t → args[j]? = some v → Value.okWide Try.prog W .any base t v := hval
    have hA' : DataW.TrodAll enc Try.prog W 0 (fun _ => true) true Try.f10.params.toList args.toList ds p := hA
    rw [Try.params10] at hA' hval'
    obtain ⟨v0, vs0, d0, ds0, p0, q0, hargs, rfl, rfl, h0, r0⟩ := trodAll_cons hA'
    obtain ⟨v1, vs1, d1, ds1, p1, q1, rfl, rfl, rfl, h1, r1⟩ := trodAll_cons r0
    obtain ⟨v2, vs2, d2, ds2, p2, q2, rfl, rfl, rfl, h2, r2⟩ := trodAll_cons r1
    obtain ⟨rfl, rfl, rfl⟩ := trodAll_nil r2
    obtain rfl : args = #[v0, v1, v2] := by cases args; simp_all
    obtain ⟨p_, xs, c_, rfl, hs1, hc1, hr1⟩ := open_H (hval' 0 _ v0 rfl rfl) h0
    obtain ⟨q_, es, d_, rfl, hs2, hc2, hr2⟩ := open_E (hval' 1 _ v1 rfl rfl) h1
    obtain ⟨at0, rfl, _, _, w_at0⟩ := open_int Try.underlying3 (hval' 2 _ v2 rfl rfl) h2
    exact parts26_walk p_ xs c_ q_ es d_ at0 W hs1 hs2 hc2

theorem idealParts_holds : Rows.IdealPartsSaid :=
  OpenClaim.holds_of_wide 10 Try.f10 rfl rfl rfl rfl rfl rfl rfl ⟨rfl, rfl, rfl, rfl, rfl⟩ rfl rfl rfl rfl rfl (by kernel_rfl) Try.func10 (by kernel_rfl)
    (of_decide_eq_true (by kernel_rfl)) (by unfold Func.isWrapper; first | (rw [if_pos (by decide +kernel)]; kernel_rfl) | (rw [if_neg (by decide +kernel)]; exact ⟨rfl, rfl⟩))
    (fun os started H enc _ => idealParts_lifted os started H enc)
#print axioms idealParts_holds

end Go.Proofs.Ytookffaojlkfaaa
