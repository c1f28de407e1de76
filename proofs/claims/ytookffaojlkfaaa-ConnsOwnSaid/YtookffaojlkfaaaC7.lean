/- Slices of connections and holders of one's own: Clone. -/
import Derived.Test.YtookffaojlkfaaaC6
import Derived.Lib.SliceRun
set_option linter.unusedSimpArgs false
set_option linter.unusedVariables false
namespace Go.Proofs.Ytookffaojlkfaaa
open Go.RowKit

def Co.cl (x : Co) : List Value := [.int .u32 x.t.a, .int .u32 x.t.b, .int .u16 x.t.c, .int .u16 x.t.d, .int .i64 x.s, .int .i64 x.l]
def flC (xs : List Co) : List Value := xs.flatMap Co.cl
theorem flC_len : ∀ xs : List Co, (flC xs).length = xs.length * 6
  | [] => rfl
  | x :: xs => by
    show (Co.cl x ++ flC xs).length = _
    rw [List.length_append, flC_len xs, List.length_cons]
    show 6 + _ = _
    omega
theorem flC_get : ∀ (xs : List Co) (k j : Nat) (hk : k < xs.length), j < 6 → (flC xs)[k * 6 + j]? = (xs[k]).cl[j]?
  | x :: xs, 0, j, _, hj => by
    show (Co.cl x ++ flC xs)[0 * 6 + j]? = _
    rw [Nat.zero_mul, Nat.zero_add, List.getElem?_append_left (by show j < 6; exact hj)]; rfl
  | x :: xs, k + 1, j, hk, hj => by
    show (Co.cl x ++ flC xs)[(k + 1) * 6 + j]? = _
    have hc : (Co.cl x).length = 6 := rfl
    rw [List.getElem?_append_right (by omega), hc, show (k + 1) * 6 + j - 6 = k * 6 + j by omega]
    exact flC_get xs k j (by simpa using hk) hj
theorem flC_snoc (xs : List Co) (x : Co) : flC (xs ++ [x]) = flC xs ++ x.cl := by unfold flC; simp
theorem flC_one (xs : List Co) : ∀ u ∈ flC xs, u.oneCell' = true := by
  intro u hu
  unfold flC at hu
  rw [List.mem_flatMap] at hu
  obtain ⟨x, _, hx⟩ := hu
  unfold Co.cl at hx
  simp only [List.mem_cons, List.not_mem_nil, or_false] at hx
  rcases hx with rfl | rfl | rfl | rfl | rfl | rfl <;> rfl
theorem info_C : (Try.prog.info? 43).map (fun i => (i.zero, i.size, i.bytes)) = some (some (.agg #[.int .u32 0, .int .u32 0, .int .u16 0, .int .u16 0, .int .i64 0, .int .i64 0]), 6, 32) := by kernel_rfl
theorem SlC.own {w : World} {base : Nat} {v : Value} {xs : List Co} (h : w.ownsRow base 43 6 v xs.length (flC xs)) : ∃ p c, v = .slice p xs.length c ∧ xs.length ≤ c ∧ SlC w p xs := by
  rcases h.2 with ⟨rfl, h0⟩ | ⟨g, cap, cur, rfl, hg, hgb, h1, h2, h3, h4⟩
  · have : xs = [] := List.length_eq_zero_iff.1 h0
    subst this
    exact ⟨none, 0, rfl, Nat.le_refl _, SlC.nil _ _⟩
  · refine ⟨some ⟨g, 0, none⟩, cap, rfl, h1, fun k hk => ?_⟩
    have key : ∀ j, j < 6 → w.cell? ⟨g, 0 + k * 6 + j, none⟩ = (xs[k]).cl[j]? := fun j hj => by
      rw [← flC_get xs k j hk hj, ← h4, List.getElem?_take_of_lt (by have := flC_len xs; omega)]
      simp only [World.cell?, hgb]
      simp
    exact ⟨g, 0, rfl, (Array.getElem?_eq_some_iff.1 hgb).1, key 0 (by omega), key 1 (by omega), key 2 (by omega), key 3 (by omega), key 4 (by omega), key 5 (by omega)⟩
set_option maxRecDepth 20000 in
set_option maxHeartbeats 2000000 in
theorem clone_C (p : Option Addr) (xs : List Co) (c : Nat) (w : World) (hs : SlC w p xs) (hl : xs.length ≤ 1000) :
    Calls Try.prog 52 #[.slice p xs.length c] w fun e w' => ∃ v, e = .returned v ∧ w'.ownsRow w.heap.size 43 6 v xs.length (flC xs) ∧ Ext w w' := by
  obtain ⟨i0, hi, hz0, hz1, hz2⟩ := info_parts info_C
  have hnil := fun (W : World) (a : Option Addr) (n c : Nat) => Lib.run_eql_slice_nil (P := Try.prog) W 22 43 a n c 0 0 Try.underlying22
  cases p with
  | none =>
    have h0 : xs = [] := by
      cases xs with
      | nil => rfl
      | cons m r => obtain ⟨b, off, h, _⟩ := hs 0 (by simp); cases h
    subst h0
    go_enter Try.func52, Try.ntmps52
    go_wp2
    go_ret
    exact ⟨_, rfl, World.ownsRow_nil _ _ _ _, Ext.rf _⟩
  | some a =>
    have own0 : (w.alloc (.cells #[] 43)).ownsRow w.heap.size 43 6 (.slice (some ⟨w.heap.size, 0, none⟩) 0 0) 0 [] := ⟨rfl, .inr ⟨w.heap.size, 0, #[], rfl, Nat.le_refl _, World.alloc_heap_new _ _, Nat.le_refl _, by unfold maxLen; omega, rfl, rfl⟩⟩
    have hnews : ∀ j u, (flC xs)[j]? = some u → (w.alloc (.cells #[] 43)).cell? (a.add j) = some u := by
      intro j u hu
      have hj : j < xs.length * 6 := by have := (List.getElem?_eq_some_iff.1 hu).1; rwa [flC_len] at this
      have hk : j / 6 < xs.length := by omega
      obtain ⟨b, off, h, hb, c0, c1, c2, c3, c4, c5⟩ := hs (j / 6) hk
      cases h
      have e : (⟨b, off, none⟩ : Addr).add j = ⟨b, off + j, none⟩ := by unfold Addr.add; split <;> simp_all
      have hg := flC_get xs (j / 6) (j % 6) hk (Nat.mod_lt _ (by omega))
      rw [show j / 6 * 6 + j % 6 = j by omega] at hg
      rw [e, World.cell?_alloc_past _ _ _ hb, ← hu, hg]
      have hm : j % 6 < 6 := Nat.mod_lt _ (by omega)
      generalize hq : j / 6 = q at *
      generalize hr : j % 6 = r at *
      have hjq : j = q * 6 + r := by omega
      subst hjq
      obtain rfl | rfl | rfl | rfl | rfl | rfl : r = 0 ∨ r = 1 ∨ r = 2 ∨ r = 3 ∨ r = 4 ∨ r = 5 := by omega
      · exact c0
      · exact c1
      · exact c2
      · exact c3
      · exact c4
      · exact c5
    have HN := Lib.hid hnews
    have HO := Lib.hid own0
    clear hnews own0 hs
    go_enter Try.func52, Try.ntmps52
    go_wp2_with (at_builtin; refine wpList_append_own _ rfl _ _ 22 rfl w.heap.size 43 i0 (.agg #[.int .u32 0, .int .u32 0, .int .u16 0, .int .u16 0, .int .i64 0, .int .i64 0]) 6 32 Try.underlying22 hi hz0 hz1 hz2 rfl (by decide) _ _ _ rfl HO.out a xs.length c (flC xs) rfl (by simp [flC_len]) HN.out (flC_one xs) (by unfold maxLen; omega) (by omega) (by simp) ?_; intro v' w2 hown' hgrow _; have HOW := Lib.hid hown'; have HG := Lib.hid hgrow; clear hown' hgrow)
    go_ret
    refine ⟨v', rfl, ?_, ?_⟩
    · have := HOW.out; rw [Nat.zero_add, List.nil_append] at this; exact this
    · exact Mv.ext (C := fun k => k = w.heap.size) ((Mv.al _ (Mv.refl _ _)).trans (Mv.of_grown HG.out fun r e => .inl (by have e' : some w.heap.size = some r := e; injection e' with h; exact h.symm))) (fun k hk e => by omega)

end Go.Proofs.Ytookffaojlkfaaa
