/- What 'rules' makes: a map that has just its twelve entries, in whatever order they were stored. -/
import Derived.Test.YtnceijlphinnhaaR2
namespace Go.Proofs.Ytnceijlphinnhaa
open Go.RowKit

/-- A key of the rules: how a packet came, whether it is a SYN, the mode's kind. -/
abbrev kv (a : Int) (s : Bool) (c : Int) : Value := .agg #[.int .u8 a, .bool s, .int .u8 c]
def isKv (x : Value) : Prop := ∃ a s c, x = kv a s c
def kvCode : Value → Int | .agg #[.int _ a, .bool s, .int _ c] => a * 100 + c * 10 + (if s then 1 else 0) | _ => 0

theorem eq_kv (a : Int) (s : Bool) (c a' : Int) (s' : Bool) (c' : Int) (w : World) :
    (Op.equal 62 (kv a s c) (kv a' s' c')).run Try.prog w = .ok (a == a' && s == s' && c == c') w := by
  unfold Op.equal Op.maxDepth
  go_simp
  by_cases h1 : a = a' <;> by_cases h2 : s = s' <;> by_cases h3 : c = c' <;> simp [*]

theorem keys62 : Keys Try.prog 62 isKv where
  check := by
    rintro w em x ⟨a, s, c, rfl⟩
    cases em <;> kernel_rfl
  find := by
    rintro w x ⟨a, s, c, rfl⟩ es hes
    have key : ∀ (es : List MapEntry) (i : Nat), (∀ e ∈ es, isKv e.key) →
        ((Instr.findAsking 62 (kv a s c) es i).run Try.prog w = .ok none w ∧ ∀ e ∈ es, e.key ≠ kv a s c) ∨ ∃ j e, (Instr.findAsking 62 (kv a s c) es i).run Try.prog w = .ok (some (i + j, e.val)) w ∧ es[j]? = some e ∧ e.key = kv a s c := by
      intro es
      induction es with
      | nil => intro i _; exact .inl ⟨rfl, by simp⟩
      | cons e es ih =>
        intro i h
        obtain ⟨a', s', c', he⟩ := h e (by simp)
        by_cases hn : a = a' ∧ s = s' ∧ c = c'
        · obtain ⟨rfl, rfl, rfl⟩ := hn
          refine .inr ⟨0, e, ?_, rfl, he⟩
          simp only [Instr.findAsking, Sem.run_bind, he, eq_kv, Result.andThen]
          simp
        · have hb : (a == a' && s == s' && c == c') = false := by
            by_cases h1 : a = a' <;> by_cases h2 : s = s' <;> by_cases h3 : c = c' <;> simp_all
          have hk : e.key ≠ kv a s c := by
            rw [he]
            intro h
            simp at h
            exact hn ⟨h.1.symm, h.2.1.symm, h.2.2.symm⟩
          rcases ih (i + 1) (fun e' h' => h e' (by simp [h'])) with ⟨h1, h2⟩ | ⟨j, e', h1, h2, h3⟩
          · refine .inl ⟨?_, ?_⟩
            · simp only [Instr.findAsking, Sem.run_bind, he, eq_kv, Result.andThen, hb]
              simpa using h1
            · intro e' h'
              rcases List.mem_cons.1 h' with rfl | h'
              · exact hk
              · exact h2 e' h'
          · refine .inr ⟨j + 1, e', ?_, by simpa using h2, h3⟩
            simp only [Instr.findAsking, Sem.run_bind, he, eq_kv, Result.andThen, hb]
            have e1 : i + (j + 1) = i + 1 + j := by omega
            rw [e1]
            simpa using h1
    have hu : Try.prog.underlying 62 = some (.struct (Try.prog.fieldsOf 62)) := by kernel_rfl
    cases es with
    | nil => exact .inl ⟨by simp [Instr.findKey, run_underlying hu, Instr.findNow, Result.andThen], by simp⟩
    | cons e es =>
      have hn : Instr.findNow (.struct (Try.prog.fieldsOf 62)) (kv a s c) (e :: es) 0 = none := by
        obtain ⟨a', s', c', he⟩ := hes e (by simp)
        simp [Instr.findNow, Instr.sameNow]
      have hf : (Instr.findKey 62 (kv a s c) (e :: es)).run Try.prog w = (Instr.findAsking 62 (kv a s c) (e :: es)).run Try.prog w := by
        simp [Instr.findKey, run_underlying hu, hn, Result.andThen]
      rw [hf]
      rcases key (e :: es) 0 hes with h | ⟨j, e', h1, h2⟩
      · exact .inl h
      · exact .inr ⟨j, e', by simpa using h1, h2⟩

def rulesTab : List (Value × Pred) := [(kv 1 false 2, clo 61 2), (kv 1 false 3, clo 61 2), (kv 1 true 0, clo 60 15), (kv 1 true 1, isV (.func (.func 57) #[] #[])), (kv 1 true 2, clo 61 3), (kv 1 true 3, clo 61 5), (kv 3 true 0, isV (.func (.func 58) #[] #[])), (kv 3 true 3, isV (.func (.func 58) #[] #[])), (kv 4 true 1, isV (.func (.func 57) #[] #[])), (kv 5 true 1, isV (.func (.func 57) #[] #[])), (kv 4 true 2, isV (.func (.func 59) #[] #[])), (kv 5 true 2, isV (.func (.func 59) #[] #[]))]

end Go.Proofs.Ytnceijlphinnhaa
