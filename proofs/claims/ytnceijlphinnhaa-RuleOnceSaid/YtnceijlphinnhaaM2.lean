/- What the other functions of the package mode return. -/
import Derived.Test.YtnceijlphinnhaaM1
namespace Go.Proofs.Ytnceijlphinnhaa
open Go.RowKit

def newerB (m : Md) (gen : Int) (o : Md) : Bool := m.right && decide (m.g < gen) && o.right
def newer (m : Md) (gen : Int) (o : Md) : Md := if newerB m gen o then o else m
def grantM (gen prev : Int) : Md := ⟨if prev = -1 then 1 else 2, prev, gen, false⟩
def drainM (gen succ : Int) : Md := ⟨3, succ, gen, false⟩

theorem newer_ret (m : Md) (gen : Int) (o x : Md) (b : Bool) (h : newerB m gen o = b) (h1 : x = if b then o else m) :
    Ending.returned (.tuple #[x.v, .bool b]) = .returned (.tuple #[(newer m gen o).v, .bool (newerB m gen o)]) := by
  subst h1; unfold newer; rw [h]


set_option maxHeartbeats 1000000 in
theorem grant1_any (gen prev : Int) (b1 b2 : Nat) (w : World) (h1 : w.cell? ⟨b1, 0, none⟩ = some (.int .i64 prev)) (h2 : w.cell? ⟨b2, 0, none⟩ = some (.int .i64 gen)) (l1 : Lt b1 w) (l2 : Lt b2 w) :
    Calls Try.prog 40 #[.pointer (some ⟨b1, 0, none⟩), .pointer (some ⟨b2, 0, none⟩)] w fun e w' => e = .returned (grantM gen prev).v ∧ Ext w w' := by
  by_cases hp : prev = -1
  · subst hp
    go_enter Try.func40, Try.ntmps40
    go_wp2
    refine bodyPost_ret (v := (grantM gen (-1)).v) (by simp [results, Try.results40, go_sem, grantM]) rfl ⟨rfl, ?_⟩
    (repeat (first | with_reducible exact Ext.rf _ | with_reducible assumption | with_reducible refine Ext.al ?_ _ | with_reducible refine Ext.dr ?_ | ((with_reducible refine Ext.st _ ?_ ?_); focus (first | omega | (simp; omega) | simp)) | with_reducible refine Ext.tr ?_ (by assumption)))
  · have hp' : (prev == -1) = false := by simpa using hp
    go_enter Try.func40, Try.ntmps40
    go_wp2
    refine bodyPost_ret (v := (grantM gen prev).v) (by simp [results, Try.results40, go_sem, grantM, *]) rfl ⟨rfl, ?_⟩
    (repeat (first | with_reducible exact Ext.rf _ | with_reducible assumption | with_reducible refine Ext.al ?_ _ | with_reducible refine Ext.dr ?_ | ((with_reducible refine Ext.st _ ?_ ?_); focus (first | omega | (simp; omega) | simp)) | with_reducible refine Ext.tr ?_ (by assumption)))

theorem grant1_k (gen prev : Int) : 0 ≤ (grantM gen prev).k := by unfold grantM; (try dsimp only); first | omega | (split <;> omega)

set_option maxHeartbeats 1000000 in
theorem newer_grant (m : Md) (gen prev : Int) (b1 b2 : Nat) (w : World) (h0 : 0 ≤ m.k) (h1 : w.cell? ⟨b1, 0, none⟩ = some (.int .i64 prev)) (h2 : w.cell? ⟨b2, 0, none⟩ = some (.int .i64 gen)) (l1 : Lt b1 w) (l2 : Lt b2 w) :
    Calls Try.prog 39 #[m.v, .int .i64 gen, .func (.func 40) #[] #[.pointer (some ⟨b1, 0, none⟩), .pointer (some ⟨b2, 0, none⟩)]] w fun e w' => e = .returned (.tuple #[(newer m gen (grantM gen prev)).v, .bool (newerB m gen (grantM gen prev))]) ∧ Ext w w' := by
  have hk := grant1_k gen prev
  obtain ⟨o, ho⟩ : ∃ o, o = grantM gen prev := ⟨_, rfl⟩
  rw [← ho] at hk
  have HO := Lib.hid ho
  rw [← ho]
  clear ho
  go_enter Try.func39, Try.ntmps39
  go_wp2_with (first | (go_at_call_of 24 (Md.k m); (with_reducible refine (right_md m _ (by assumption)).mono ?_); rintro e w' ⟨rfl, hb⟩; obtain ⟨hc, hf, hl, hz, -⟩ := kept hb; try simp at hz) | (go_at_call_of 24 (Md.k o); (with_reducible refine (right_md o _ (by assumption)).mono ?_); rintro e w' ⟨rfl, hb⟩; obtain ⟨hc, hf, hl, hz, -⟩ := kept hb; try simp at hz) | (go_at_call 40; go_must ((with_reducible refine (grant1_any gen prev b1 b2 _ ?_ ?_ ?_ ?_).mono ?_); go_simp; go_simp; go_simp; go_simp); rw [← HO.out]; rintro e w' ⟨rfl, hb⟩; obtain ⟨hc, hf, hl, hz, -⟩ := kept hb; try simp at hz))
  all_goals first
    | (refine bodyPost_ret (v := .tuple #[m.v, .bool false]) ?_ rfl ⟨newer_ret m gen o m false ?_ rfl, ?_⟩
       · (simp [results, Try.results39, go_sem, *]; done)
       · (first | (simp [newerB, *]; done) | (simp [newerB, *]; omega))
       · (repeat (first | with_reducible exact Ext.rf _ | with_reducible assumption | with_reducible refine Ext.al ?_ _ | with_reducible refine Ext.dr ?_ | ((with_reducible refine Ext.st _ ?_ ?_); focus (first | omega | (simp; omega) | simp)) | with_reducible refine Ext.tr ?_ (by assumption))))
    | (refine bodyPost_ret (v := .tuple #[o.v, .bool true]) ?_ rfl ⟨newer_ret m gen o o true ?_ rfl, ?_⟩
       · (simp [results, Try.results39, go_sem, *]; done)
       · (first | (simp [newerB, *]; done) | (simp [newerB, *]; omega))
       · (repeat (first | with_reducible exact Ext.rf _ | with_reducible assumption | with_reducible refine Ext.al ?_ _ | with_reducible refine Ext.dr ?_ | ((with_reducible refine Ext.st _ ?_ ?_); focus (first | omega | (simp; omega) | simp)) | with_reducible refine Ext.tr ?_ (by assumption))))

set_option maxHeartbeats 1000000 in
theorem drain1_any (gen prev : Int) (b1 b2 : Nat) (w : World) (h1 : w.cell? ⟨b1, 0, none⟩ = some (.int .i64 prev)) (h2 : w.cell? ⟨b2, 0, none⟩ = some (.int .i64 gen)) (l1 : Lt b1 w) (l2 : Lt b2 w) :
    Calls Try.prog 43 #[.pointer (some ⟨b1, 0, none⟩), .pointer (some ⟨b2, 0, none⟩)] w fun e w' => e = .returned (drainM gen prev).v ∧ Ext w w' := by
  by_cases hp : prev = -1
  · subst hp
    go_enter Try.func43, Try.ntmps43
    go_wp2
    refine bodyPost_ret (v := (drainM gen (-1)).v) (by simp [results, Try.results43, go_sem, drainM]) rfl ⟨rfl, ?_⟩
    (repeat (first | with_reducible exact Ext.rf _ | with_reducible assumption | with_reducible refine Ext.al ?_ _ | with_reducible refine Ext.dr ?_ | ((with_reducible refine Ext.st _ ?_ ?_); focus (first | omega | (simp; omega) | simp)) | with_reducible refine Ext.tr ?_ (by assumption)))
  · have hp' : (prev == -1) = false := by simpa using hp
    go_enter Try.func43, Try.ntmps43
    go_wp2
    refine bodyPost_ret (v := (drainM gen prev).v) (by simp [results, Try.results43, go_sem, drainM, *]) rfl ⟨rfl, ?_⟩
    (repeat (first | with_reducible exact Ext.rf _ | with_reducible assumption | with_reducible refine Ext.al ?_ _ | with_reducible refine Ext.dr ?_ | ((with_reducible refine Ext.st _ ?_ ?_); focus (first | omega | (simp; omega) | simp)) | with_reducible refine Ext.tr ?_ (by assumption)))

theorem drain1_k (gen prev : Int) : 0 ≤ (drainM gen prev).k := by unfold drainM; (try dsimp only); first | omega | (split <;> omega)

set_option maxHeartbeats 1000000 in
theorem newer_drain (m : Md) (gen prev : Int) (b1 b2 : Nat) (w : World) (h0 : 0 ≤ m.k) (h1 : w.cell? ⟨b1, 0, none⟩ = some (.int .i64 prev)) (h2 : w.cell? ⟨b2, 0, none⟩ = some (.int .i64 gen)) (l1 : Lt b1 w) (l2 : Lt b2 w) :
    Calls Try.prog 39 #[m.v, .int .i64 gen, .func (.func 43) #[] #[.pointer (some ⟨b1, 0, none⟩), .pointer (some ⟨b2, 0, none⟩)]] w fun e w' => e = .returned (.tuple #[(newer m gen (drainM gen prev)).v, .bool (newerB m gen (drainM gen prev))]) ∧ Ext w w' := by
  have hk := drain1_k gen prev
  obtain ⟨o, ho⟩ : ∃ o, o = drainM gen prev := ⟨_, rfl⟩
  rw [← ho] at hk
  have HO := Lib.hid ho
  rw [← ho]
  clear ho
  go_enter Try.func39, Try.ntmps39
  go_wp2_with (first | (go_at_call_of 24 (Md.k m); (with_reducible refine (right_md m _ (by assumption)).mono ?_); rintro e w' ⟨rfl, hb⟩; obtain ⟨hc, hf, hl, hz, -⟩ := kept hb; try simp at hz) | (go_at_call_of 24 (Md.k o); (with_reducible refine (right_md o _ (by assumption)).mono ?_); rintro e w' ⟨rfl, hb⟩; obtain ⟨hc, hf, hl, hz, -⟩ := kept hb; try simp at hz) | (go_at_call 43; go_must ((with_reducible refine (drain1_any gen prev b1 b2 _ ?_ ?_ ?_ ?_).mono ?_); go_simp; go_simp; go_simp; go_simp); rw [← HO.out]; rintro e w' ⟨rfl, hb⟩; obtain ⟨hc, hf, hl, hz, -⟩ := kept hb; try simp at hz))
  all_goals first
    | (refine bodyPost_ret (v := .tuple #[m.v, .bool false]) ?_ rfl ⟨newer_ret m gen o m false ?_ rfl, ?_⟩
       · (simp [results, Try.results39, go_sem, *]; done)
       · (first | (simp [newerB, *]; done) | (simp [newerB, *]; omega))
       · (repeat (first | with_reducible exact Ext.rf _ | with_reducible assumption | with_reducible refine Ext.al ?_ _ | with_reducible refine Ext.dr ?_ | ((with_reducible refine Ext.st _ ?_ ?_); focus (first | omega | (simp; omega) | simp)) | with_reducible refine Ext.tr ?_ (by assumption))))
    | (refine bodyPost_ret (v := .tuple #[o.v, .bool true]) ?_ rfl ⟨newer_ret m gen o o true ?_ rfl, ?_⟩
       · (simp [results, Try.results39, go_sem, *]; done)
       · (first | (simp [newerB, *]; done) | (simp [newerB, *]; omega))
       · (repeat (first | with_reducible exact Ext.rf _ | with_reducible assumption | with_reducible refine Ext.al ?_ _ | with_reducible refine Ext.dr ?_ | ((with_reducible refine Ext.st _ ?_ ?_); focus (first | omega | (simp; omega) | simp)) | with_reducible refine Ext.tr ?_ (by assumption))))

end Go.Proofs.Ytnceijlphinnhaa
