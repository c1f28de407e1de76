/- What Rule, Accepts, Sends of the package rule return, for any mode and anything asked. -/
import Derived.Test.YtnceijlphinnhaaR6
namespace Go.Proofs.Ytnceijlphinnhaa
open Go.RowKit

/-- What is done with a packet whose connection is not there, in a mode that counts. -/
def ruleT (M : Md) (k f g : Int) (s r : Bool) : Ac :=
  if s = false then (if k = 1 ∧ (M.k = 2 ∨ M.k = 3) then ⟨3, 0, 2, M.p, M.g⟩ else dropA 16)
  else if k = 1 then
    (if M.k = 0 then dropA 15 else if M.k = 1 then acceptA r else if M.k = 2 then ⟨3, 0, 3, M.p, M.g⟩ else if M.k = 3 then ⟨3, 0, 5, M.p, M.g⟩ else dropA 17)
  else if k = 2 then dropA 16
  else if k = 3 then (if M.k = 0 ∨ M.k = 3 then bounceA M f g else dropA 17)
  else if M.k = 1 then acceptA r else if M.k = 2 then mineA M g r else dropA 17
def ruleA (m : Md) (k f g : Int) (s n r : Bool) : Ac :=
  if k = 0 ∨ 6 ≤ k then dropA 13 else if n then ⟨1, 0, 0, 0, 0⟩ else ruleT (knownM m) k f g s r

theorem noent (k : Int) (s : Bool) (c : Int)
    (h : ¬ ((s = false ∧ k = 1 ∧ (c = 2 ∨ c = 3)) ∨ (s = true ∧ ((k = 1 ∧ (c = 0 ∨ c = 1 ∨ c = 2 ∨ c = 3)) ∨ (k = 3 ∧ (c = 0 ∨ c = 3)) ∨ ((k = 4 ∨ k = 5) ∧ (c = 1 ∨ c = 2)))))) :
    ∀ y ∈ rulesL.I, y.2.1 ≠ kv k s c := by
  intro y hy e
  simp only [rulesL, List.mem_cons, List.not_mem_nil, or_false] at hy
  apply h
  rcases hy with rfl | rfl | rfl | rfl | rfl | rfl | rfl | rfl | rfl | rfl | rfl | rfl <;> (simp at e; obtain ⟨rfl, rfl, rfl⟩ := e; simp)

theorem rule_any (m : Md) (k f g : Int) (s n r : Bool) (w : World) (h0 : 0 ≤ m.k) (hk0 : 0 ≤ k) :
    Calls Try.prog 32 #[m.v, av k f g s n r] w fun e w' => e = .returned (ruleA m k f g s n r).v ∧ Ext w w' := by
  unfold ruleA
  by_cases hk : k = 0 ∨ 6 ≤ k
  · rw [if_pos hk]; exact rule_kind m k f g s n r w h0 hk
  rw [if_neg hk]
  have h1 : 1 ≤ k := by omega
  have h2 : k < 6 := by omega
  cases n
  case true => exact rule_there m k f g s r w h0 h1 h2
  rw [if_neg (by simp)]
  unfold ruleT
  cases s
  · rw [if_pos rfl]
    by_cases hc : k = 1 ∧ ((knownM m).k = 2 ∨ (knownM m).k = 3)
    · rw [if_pos hc]
      obtain ⟨rfl, hc⟩ := hc
      refine rule_send m 1 f g false r 2 ?_ w h0 h1 h2
      rcases hc with hc | hc <;> rw [hc]
      · exact ⟨3, by simp [rulesL]⟩
      · exact ⟨6, by simp [rulesL]⟩
    · rw [if_neg hc]
      exact rule_none1 m k f g r w h0 h1 h2 (noent _ _ _ (by simp only [reduceCtorEq, false_and, or_false]; grind))
  · rw [if_neg (by simp)]
    by_cases k1 : k = 1
    · subst k1
      rw [if_pos rfl]
      by_cases c0 : (knownM m).k = 0
      · rw [if_pos c0]
        exact rule_drop m 1 f g true r 15 ⟨9, by rw [c0]; simp [rulesL]⟩ w h0 h1 h2
      rw [if_neg c0]
      by_cases c1 : (knownM m).k = 1
      · rw [if_pos c1]
        exact rule_accept m 1 f g true r ⟨11, by rw [c1]; simp [rulesL]⟩ w h0 h1 h2
      rw [if_neg c1]
      by_cases c2 : (knownM m).k = 2
      · rw [if_pos c2]
        exact rule_send m 1 f g true r 3 ⟨14, by rw [c2]; simp [rulesL]⟩ w h0 h1 h2
      rw [if_neg c2]
      by_cases c3 : (knownM m).k = 3
      · rw [if_pos c3]
        exact rule_send m 1 f g true r 5 ⟨17, by rw [c3]; simp [rulesL]⟩ w h0 h1 h2
      rw [if_neg c3]
      exact rule_none3 m 1 f g r w h0 h1 h2 (by decide) (noent _ _ _ (by grind))
    rw [if_neg k1]
    by_cases k2 : k = 2
    · subst k2
      rw [if_pos rfl]
      exact rule_none2 m 2 f g r w h0 h1 h2 (by decide) (noent _ _ _ (by grind))
    rw [if_neg k2]
    have k2' : (k == 2) = false := by simpa using k2
    by_cases k3 : k = 3
    · subst k3
      rw [if_pos rfl]
      by_cases c0 : (knownM m).k = 0 ∨ (knownM m).k = 3
      · rw [if_pos c0]
        refine rule_bounce m 3 f g true r ?_ w h0 h1 h2
        rcases c0 with c0 | c0 <;> rw [c0]
        · exact ⟨19, by simp [rulesL]⟩
        · exact ⟨21, by simp [rulesL]⟩
      rw [if_neg c0]
      exact rule_none3 m 3 f g r w h0 h1 h2 k2' (noent _ _ _ (by grind))
    rw [if_neg k3]
    have k45 : k = 4 ∨ k = 5 := by omega
    by_cases c1 : (knownM m).k = 1
    · rw [if_pos c1]
      refine rule_accept m k f g true r ?_ w h0 h1 h2
      rw [c1]
      rcases k45 with rfl | rfl
      · exact ⟨23, by simp [rulesL]⟩
      · exact ⟨25, by simp [rulesL]⟩
    rw [if_neg c1]
    by_cases c2 : (knownM m).k = 2
    · rw [if_pos c2]
      refine rule_mine m k f g true r ?_ w h0 h1 h2
      rw [c2]
      rcases k45 with rfl | rfl
      · exact ⟨27, by simp [rulesL]⟩
      · exact ⟨29, by simp [rulesL]⟩
    rw [if_neg c2]
    exact rule_none3 m k f g r w h0 h1 h2 k2' (noent _ _ _ (by grind))
end Go.Proofs.Ytnceijlphinnhaa
