/- ConnsParts. -/
import Derived.Test.YtookffaojlkfaaaL4
import Derived.Test.YtookffaojlkfaaaRows
set_option linter.unusedSimpArgs false
set_option linter.unusedVariables false
namespace Go.Proofs.Ytookffaojlkfaaa
open Go.ChangeShapes Go.WideShapes Go.ChangeAt Go.RowKit

attribute [local go_sem] beq_self_eq_true bne_self_eq_false

theorem filter_mono (f g : Co → Bool) : ∀ xs : List Co, (∀ x, f x = true → g x = true) → (xs.filter f).length ≤ (xs.filter g).length
  | [], _ => Nat.le_refl _
  | x :: xs, h => by
    have ih := filter_mono f g xs h
    by_cases hf : f x = true
    · rw [List.filter_cons_of_pos hf, List.filter_cons_of_pos (h x hf)]; simp; exact ih
    · rw [List.filter_cons_of_neg hf]
      by_cases hg : g x = true
      · rw [List.filter_cons_of_pos hg, List.length_cons]; omega
      · rw [List.filter_cons_of_neg hg]; exact ih
theorem idle_mono {idle longer now : Int} {x : Co} (h0 : 0 ≤ idle) (h1 : idle ≤ longer) (h : idleB longer now x = true) : idleB idle now x = true := by
  unfold idleB asksB at *
  simp only [Bool.and_eq_true, decide_eq_true_eq] at *
  omega
/-- How many are of one of the first m buckets. -/
def upto (xs : List Co) (m : Nat) : Nat := (xs.filter fun x => decide (ofT x.t < (m : Int))).length
theorem upto_le (xs : List Co) (m : Nat) : upto xs m ≤ xs.length := List.length_filter_le _ _
theorem upto_zero (xs : List Co) (_ : ∀ x ∈ xs, TuR x.t) : upto xs 0 = 0 := by
  unfold upto
  rw [List.length_eq_zero_iff, List.filter_eq_nil_iff]
  intro x _ h
  have := of_decide_eq_true h
  have := (ofT_bd x.t).1
  omega
theorem upto_all (xs : List Co) : upto xs 16 = xs.length := by
  unfold upto
  rw [List.filter_eq_self.2]
  intro x _
  exact decide_eq_true (ofT_bd x.t).2
theorem upto_next : ∀ (xs : List Co) (m : Nat), upto xs (m + 1) = upto xs m + (xs.filter (inB (m : Int))).length
  | [], _ => rfl
  | x :: xs, m => by
    have ih := upto_next xs m
    unfold upto at *
    have e : ∀ f : Co → Bool, ((x :: xs).filter f).length = (if f x = true then 1 else 0) + (xs.filter f).length := fun f => by
      by_cases h : f x = true
      · rw [List.filter_cons_of_pos h, if_pos h, List.length_cons]; omega
      · rw [List.filter_cons_of_neg h, if_neg h]; omega
    rw [e, e, e, ih]
    have h1 : (inB (m : Int) x = true) ↔ ofT x.t = m := by unfold inB; simp
    simp only [decide_eq_true_eq, h1]
    repeat' split
    all_goals omega
set_option maxRecDepth 100000 in
set_option maxHeartbeats 4000000 in
theorem parts_great (bucket idle longer now : Int) (p : Option Addr) (xs : List Co) (c : Nat) (w : World) (hs : SlC w p xs) (hc : xs.length ≤ c) (hr : ∀ x ∈ xs, TuR x.t) (hgd : decide ((60 : Int) < xs.length) = true) :
    Calls Try.prog 6 #[.slice p xs.length c, .int .i64 bucket, .int .i64 idle, .int .i64 longer, .int .i64 now] w fun e w' => e = .returned (.bool true) ∧ Ext w w' := by
  go_enter Try.func6, Try.ntmps6
  go_wp2_with (first | (go_at_call 13; (with_reducible refine (great_any p xs.length c _).mono ?_); rintro e W7 ⟨rfl, rfl⟩) | (go_at_call 14; (with_reducible refine (wakes_any _).mono ?_); rintro e WZ ⟨rfl, gZ⟩))
  go_ret
  exact ⟨rfl, gZ⟩
set_option maxRecDepth 100000 in
set_option maxHeartbeats 4000000 in
theorem parts_fall (bucket idle longer now : Int) (p : Option Addr) (xs : List Co) (c : Nat) (w : World) (hs : SlC w p xs) (hc : xs.length ≤ c) (hr : ∀ x ∈ xs, TuR x.t) (hgd : decide ((60 : Int) < xs.length) = false) (hil : decide (longer < idle) = true) :
    Calls Try.prog 6 #[.slice p xs.length c, .int .i64 bucket, .int .i64 idle, .int .i64 longer, .int .i64 now] w fun e w' => e = .returned (.bool true) ∧ Ext w w' := by
  go_enter Try.func6, Try.ntmps6
  go_wp2_with (first | (go_at_call 13; (with_reducible refine (great_any p xs.length c _).mono ?_); rintro e W7 ⟨rfl, rfl⟩) | (go_at_call 14; (with_reducible refine (wakes_any _).mono ?_); rintro e WZ ⟨rfl, gZ⟩))
  go_ret
  exact ⟨rfl, gZ⟩

set_option maxRecDepth 100000 in
set_option maxHeartbeats 16000000 in
theorem parts_neg (bucket idle longer now : Int) (p : Option Addr) (xs : List Co) (c : Nat) (w : World) (hs : SlC w p xs) (hc : xs.length ≤ c) (hr : ∀ x ∈ xs, TuR x.t) (hl : xs.length ≤ 60) (hgd : decide ((60 : Int) < xs.length) = false) (hil : decide (longer < idle) = false) (hi0 : decide (idle < 0) = true) (hid : idle ≤ 9223372036854775807) (hlo : longer ≤ 9223372036854775807) (A B G L F : List Co)
    (HA : Hid (xs.filter (inB bucket) = A)) (HB : Hid ((xs.filter fun x => !inB bucket x) = B)) (HG : Hid (xs.filter (idleB idle now) = G)) (HL : Hid ((xs.filter fun x => !idleB idle now x) = L)) (HF : Hid (xs.filter (idleB longer now) = F)) (F2 : List Co) (HF2 : Hid ((xs.filter fun x => !idleB longer now x) = F2)) :
    Calls Try.prog 6 #[.slice p xs.length c, .int .i64 bucket, .int .i64 idle, .int .i64 longer, .int .i64 now] w fun e w' => e = .returned (.bool true) ∧ Ext w w' := by
  have HR := Lib.hid hr
  have s := hs
  have E := Ext.rf w
  have hl' : xs.length ≤ 1000 := by omega
  clear hr hs
  go_enter Try.func6, Try.ntmps6
  go_upto_region 3 with ((go_at_call 13; (with_reducible refine (great_any p xs.length c _).mono ?_); rintro e W7 ⟨rfl, rfl⟩))
  go_upto_region 4 with (first | (go_at_call 30; (with_reducible refine (of_g s rfl hl' HR.out HA.out rfl).mono ?_); rintro e W1 ⟨p1, c1, rfl, s1, g⟩; replace E := E.tr g; replace s := s.ext g; clear g) | (go_at_call 32; (with_reducible refine (wo_g s rfl hl' HR.out HB.out rfl).mono ?_); rintro e W1 ⟨p2, c2, rfl, s2, g⟩; replace E := E.tr g; replace s := s.ext g; replace s1 := s1.ext g; clear g))
  go_upto_region 5 with (go_at_call 21; (with_reducible refine (idle_g s rfl hl' hid HG.out HL.out rfl rfl).mono ?_); rintro e W1 ⟨p3, c3, q3, e3, rfl, s3, r3, g⟩; replace E := E.tr g; replace s := s.ext g; replace s1 := s1.ext g; replace s2 := s2.ext g; clear g)
  go_upto_region 7 with (go_at_call 34; (first | (with_reducible refine (merges_any (inB bucket) p xs _ _ c _ _ _ _ _ s s1 s2 hl HA HB).mono ?_) | (with_reducible refine (merges_any (idleB idle now) p xs _ _ c _ _ _ _ _ s s3 r3 hl HG HL).mono ?_)); rintro e Wb ⟨rfl, g⟩; replace E := E.tr g; replace s := s.ext g; replace s1 := s1.ext g; replace s2 := s2.ext g; replace s3 := s3.ext g; replace r3 := r3.ext g; clear g)
  have HSS := Lib.hid s
  have HE := Lib.hid E
  clear s E s1 s2 s3 r3
  go_wp2
  go_loopw [15, 16] (fun n j wr => ∃ m : Nat, m ≤ 16 ∧ j = .int .i64 m ∧ n = .int .i64 (upto xs m : Nat) ∧ Ext Wb wr) (fun _ j _ => 16 - (intOf j).toNat)
  case atStart => exact ⟨0, by omega, rfl, by rw [upto_zero xs HR.out]; rfl, Ext.rf _⟩
  case round =>
    obtain ⟨m, hm, rfl, rfl, hE⟩ := hrel
    by_cases hlt : m < 16
    · have hil2 : (m : Int) < 16 := by omega
      have hu := upto_le xs m
      have hu2 := upto_le xs (m + 1)
      have hn := upto_next xs m
      have HN := Lib.hid hn
      have hE2 := Lib.hid hE
      have s := HSS.out.ext hE
      obtain ⟨D, hD⟩ : ∃ D, xs.filter (inB (m : Int)) = D := ⟨_, rfl⟩
      obtain ⟨U, hU⟩ : ∃ U, upto xs m = U := ⟨_, rfl⟩
      rw [hD, hU] at hn HN
      rw [hU] at hu ⊢
      have hw : IntKind.i64.wrap ((U : Int) + D.length) = (U : Int) + D.length := by rw [IntKind.wrap_i64]; omega
      clear hU hE
      go_wp2_with (go_at_call 30; (with_reducible refine (of_g s rfl hl' HR.out hD rfl).mono ?_); rintro e W1 ⟨p4, c4, rfl, s4, g⟩)
      go_roundw
      case rel => exact ⟨m + 1, by omega, by go_num, by rw [HN.out]; go_num, hE2.out.tr g⟩
      case measure => simp [intOf]; omega
    · have hil2 : ¬ ((m : Int) < 16) := by omega
      obtain rfl : m = 16 := by omega
      rw [upto_all xs]
      have s := HSS.out.ext hE
      have E := HE.out.tr hE
      have hfl : ¬ idle < 0 → F.length ≤ G.length := fun h => by
        rw [← HF.out, ← HG.out]
        exact filter_mono _ _ xs fun x hx => idle_mono (by omega) (by have := of_decide_eq_false hil; omega) hx
      skip
      skip
      clear hE HE HSS hfl
      go_wp2_with (first | (go_at_call 21; (with_reducible refine (idle_g s rfl hl' hlo HF.out HF2.out rfl rfl).mono ?_); rintro e W1 ⟨p3, c3, q3, e3, rfl, s3, r3, g⟩; replace E := E.tr g; clear g) | (go_at_call 14; (with_reducible refine (wakes_any _).mono ?_); rintro e WZ ⟨rfl, gZ⟩))
      go_ret
      exact ⟨rfl, E.tr gZ⟩

set_option maxRecDepth 100000 in
set_option maxHeartbeats 16000000 in
theorem parts_pos (bucket idle longer now : Int) (p : Option Addr) (xs : List Co) (c : Nat) (w : World) (hs : SlC w p xs) (hc : xs.length ≤ c) (hr : ∀ x ∈ xs, TuR x.t) (hl : xs.length ≤ 60) (hgd : decide ((60 : Int) < xs.length) = false) (hil : decide (longer < idle) = false) (hi0 : decide (idle < 0) = false) (hid : idle ≤ 9223372036854775807) (hlo : longer ≤ 9223372036854775807) (A B G L F : List Co)
    (HA : Hid (xs.filter (inB bucket) = A)) (HB : Hid ((xs.filter fun x => !inB bucket x) = B)) (HG : Hid (xs.filter (idleB idle now) = G)) (HL : Hid ((xs.filter fun x => !idleB idle now x) = L)) (HF : Hid (xs.filter (idleB longer now) = F)) (F2 : List Co) (HF2 : Hid ((xs.filter fun x => !idleB longer now x) = F2)) :
    Calls Try.prog 6 #[.slice p xs.length c, .int .i64 bucket, .int .i64 idle, .int .i64 longer, .int .i64 now] w fun e w' => e = .returned (.bool true) ∧ Ext w w' := by
  have HR := Lib.hid hr
  have s := hs
  have E := Ext.rf w
  have hl' : xs.length ≤ 1000 := by omega
  clear hr hs
  go_enter Try.func6, Try.ntmps6
  go_upto_region 3 with ((go_at_call 13; (with_reducible refine (great_any p xs.length c _).mono ?_); rintro e W7 ⟨rfl, rfl⟩))
  go_upto_region 4 with (first | (go_at_call 30; (with_reducible refine (of_g s rfl hl' HR.out HA.out rfl).mono ?_); rintro e W1 ⟨p1, c1, rfl, s1, g⟩; replace E := E.tr g; replace s := s.ext g; clear g) | (go_at_call 32; (with_reducible refine (wo_g s rfl hl' HR.out HB.out rfl).mono ?_); rintro e W1 ⟨p2, c2, rfl, s2, g⟩; replace E := E.tr g; replace s := s.ext g; replace s1 := s1.ext g; clear g))
  go_upto_region 5 with (go_at_call 21; (with_reducible refine (idle_g s rfl hl' hid HG.out HL.out rfl rfl).mono ?_); rintro e W1 ⟨p3, c3, q3, e3, rfl, s3, r3, g⟩; replace E := E.tr g; replace s := s.ext g; replace s1 := s1.ext g; replace s2 := s2.ext g; clear g)
  go_upto_region 7 with (go_at_call 34; (first | (with_reducible refine (merges_any (inB bucket) p xs _ _ c _ _ _ _ _ s s1 s2 hl HA HB).mono ?_) | (with_reducible refine (merges_any (idleB idle now) p xs _ _ c _ _ _ _ _ s s3 r3 hl HG HL).mono ?_)); rintro e Wb ⟨rfl, g⟩; replace E := E.tr g; replace s := s.ext g; replace s1 := s1.ext g; replace s2 := s2.ext g; replace s3 := s3.ext g; replace r3 := r3.ext g; clear g)
  have HSS := Lib.hid s
  have HE := Lib.hid E
  clear s E s1 s2 s3 r3
  go_wp2
  go_loopw [15, 16] (fun n j wr => ∃ m : Nat, m ≤ 16 ∧ j = .int .i64 m ∧ n = .int .i64 (upto xs m : Nat) ∧ Ext Wb wr) (fun _ j _ => 16 - (intOf j).toNat)
  case atStart => exact ⟨0, by omega, rfl, by rw [upto_zero xs HR.out]; rfl, Ext.rf _⟩
  case round =>
    obtain ⟨m, hm, rfl, rfl, hE⟩ := hrel
    by_cases hlt : m < 16
    · have hil2 : (m : Int) < 16 := by omega
      have hu := upto_le xs m
      have hu2 := upto_le xs (m + 1)
      have hn := upto_next xs m
      have HN := Lib.hid hn
      have hE2 := Lib.hid hE
      have s := HSS.out.ext hE
      obtain ⟨D, hD⟩ : ∃ D, xs.filter (inB (m : Int)) = D := ⟨_, rfl⟩
      obtain ⟨U, hU⟩ : ∃ U, upto xs m = U := ⟨_, rfl⟩
      rw [hD, hU] at hn HN
      rw [hU] at hu ⊢
      have hw : IntKind.i64.wrap ((U : Int) + D.length) = (U : Int) + D.length := by rw [IntKind.wrap_i64]; omega
      clear hU hE
      go_wp2_with (go_at_call 30; (with_reducible refine (of_g s rfl hl' HR.out hD rfl).mono ?_); rintro e W1 ⟨p4, c4, rfl, s4, g⟩)
      go_roundw
      case rel => exact ⟨m + 1, by omega, by go_num, by rw [HN.out]; go_num, hE2.out.tr g⟩
      case measure => simp [intOf]; omega
    · have hil2 : ¬ ((m : Int) < 16) := by omega
      obtain rfl : m = 16 := by omega
      rw [upto_all xs]
      have s := HSS.out.ext hE
      have E := HE.out.tr hE
      have hfl : ¬ idle < 0 → F.length ≤ G.length := fun h => by
        rw [← HF.out, ← HG.out]
        exact filter_mono _ _ xs fun x hx => idle_mono (by omega) (by have := of_decide_eq_false hil; omega) hx
      have hfg : (F.length : Int) ≤ G.length := by have := hfl (of_decide_eq_false hi0); omega
      have hfgd : decide ((F.length : Int) ≤ G.length) = true := decide_eq_true hfg
      clear hE HE HSS hfl
      go_wp2_with (first | (go_at_call 21; (with_reducible refine (idle_g s rfl hl' hlo HF.out HF2.out rfl rfl).mono ?_); rintro e W1 ⟨p3, c3, q3, e3, rfl, s3, r3, g⟩; replace E := E.tr g; clear g) | (go_at_call 14; (with_reducible refine (wakes_any _).mono ?_); rintro e WZ ⟨rfl, gZ⟩))
      go_ret
      exact ⟨rfl, E.tr gZ⟩

theorem parts_walk (bucket idle longer now : Int) (p : Option Addr) (xs : List Co) (c : Nat) (w : World) (hs : SlC w p xs) (hc : xs.length ≤ c) (hr : ∀ x ∈ xs, TuR x.t) (hid : idle ≤ 9223372036854775807) (hlo : longer ≤ 9223372036854775807) :
    Calls Try.prog 6 #[.slice p xs.length c, .int .i64 bucket, .int .i64 idle, .int .i64 longer, .int .i64 now] w fun e w' => e = .returned (.bool true) ∧ Ext w w' := by
  cases hg : decide ((60 : Int) < xs.length)
  rotate_left
  · exact parts_great bucket idle longer now p xs c w hs hc hr hg
  have hl : xs.length ≤ 60 := by have := of_decide_eq_false hg; omega
  cases hil : decide (longer < idle)
  rotate_left
  · exact parts_fall bucket idle longer now p xs c w hs hc hr hg hil
  cases hi0 : decide (idle < 0)
  · exact parts_pos bucket idle longer now p xs c w hs hc hr hl hg hil hi0 hid hlo _ _ _ _ _ (Lib.hid rfl) (Lib.hid rfl) (Lib.hid rfl) (Lib.hid rfl) (Lib.hid rfl) _ (Lib.hid rfl)
  · exact parts_neg bucket idle longer now p xs c w hs hc hr hl hg hil hi0 hid hlo _ _ _ _ _ (Lib.hid rfl) (Lib.hid rfl) (Lib.hid rfl) (Lib.hid rfl) (Lib.hid rfl) _ (Lib.hid rfl)

set_option maxRecDepth 100000 in
theorem connsParts_lifted (os : Os) (started : os.Started) (H : Type) (enc : TypeId × Value → H) :
    ReturnsInHanded {} Try.checked os 6 .any (Rows.connsPartsSpec.pre6 enc Try.prog Try.f6 Rows.connsPartsRow.domain false) (Rows.connsPartsSpec.post enc Try.prog Try.f6 false true false false) := by
  refine law_lift 4 ownKn started (by kernel_rfl) Try.func6 (ChangeSpec.witness6 (enc := enc) (C := Try.checked) false ⟨#[], #[.slice none 0 0, .int .i64 0, .int .i64 0, .int .i64 0, .int .i64 0], []⟩ 8 (by kernel_rfl) (by kernel_rfl) (by kernel_rfl) (by kernel_rfl)) laidOut rfl (by kernel_rfl) Try.underlying4 ?_ (by kernel_rfl) ?_
  · intro ds h
    match ds, h with
    | [d0, d1, d2, d3, d4], _ => rfl
  · intro W base args ds p hval hA hlt
    have hval' : ∀ (j : Nat) t v, Try.f6.params[j]? = some t → args[j]? = some v → Value.okWide Try.prog W .any base t v := hval
    have hA' : DataW.TrodAll enc Try.prog W 0 (fun _ => true) true Try.f6.params.toList args.toList ds p := hA
    rw [Try.params6] at hA' hval'
    obtain ⟨v0, vs0, d0, ds0, p0, q0, hargs, rfl, rfl, h0, r0⟩ := trodAll_cons hA'
    obtain ⟨v1, vs1, d1, ds1, p1, q1, rfl, rfl, rfl, h1, r1⟩ := trodAll_cons r0
    obtain ⟨v2, vs2, d2, ds2, p2, q2, rfl, rfl, rfl, h2, r2⟩ := trodAll_cons r1
    obtain ⟨v3, vs3, d3, ds3, p3, q3, rfl, rfl, rfl, h3, r3⟩ := trodAll_cons r2
    obtain ⟨v4, vs4, d4, ds4, p4, q4, rfl, rfl, rfl, h4, r4⟩ := trodAll_cons r3
    obtain ⟨rfl, rfl, rfl⟩ := trodAll_nil r4
    obtain rfl : args = #[v0, v1, v2, v3, v4] := by cases args; simp_all
    obtain ⟨p_, xs, c_, rfl, hs_, hc_, hr_⟩ := open_C (hval' 0 _ v0 rfl rfl) h0
    obtain ⟨bucket, rfl, _, _, w_bucket⟩ := open_int Try.underlying3 (hval' 1 _ v1 rfl rfl) h1
    obtain ⟨idle, rfl, _, _, w_idle⟩ := open_int Try.underlying3 (hval' 2 _ v2 rfl rfl) h2
    obtain ⟨longer, rfl, _, _, w_longer⟩ := open_int Try.underlying3 (hval' 3 _ v3 rfl rfl) h3
    obtain ⟨now, rfl, _, _, w_now⟩ := open_int Try.underlying3 (hval' 4 _ v4 rfl rfl) h4
    exact parts_walk bucket idle longer now p_ xs c_ W hs_ hc_ hr_ (i64_of w_idle).2 (i64_of w_longer).2

theorem connsParts_holds : Rows.ConnsPartsSaid :=
  OpenClaim.holds_of_wide 6 Try.f6 rfl rfl rfl rfl rfl rfl rfl ⟨rfl, rfl, rfl, rfl, rfl⟩ rfl rfl rfl rfl rfl (by kernel_rfl) Try.func6 (by kernel_rfl)
    (of_decide_eq_true (by kernel_rfl)) (by unfold Func.isWrapper; first | (rw [if_pos (by decide +kernel)]; kernel_rfl) | (rw [if_neg (by decide +kernel)]; exact ⟨rfl, rfl⟩))
    (fun os started H enc _ => connsParts_lifted os started H enc)
#print axioms connsParts_holds

end Go.Proofs.Ytookffaojlkfaaa
