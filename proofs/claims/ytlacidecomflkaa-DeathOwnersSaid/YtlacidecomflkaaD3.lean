/- Deaths: what becomes of one move. -/
import Derived.Test.YtlacidecomflkaaD2
import Derived.Test.YtlacidecomflkaaP7
set_option linter.unusedSimpArgs false
set_option linter.unusedVariables false
namespace Go.Proofs.Ytlacidecomflkaa
open Go.RowKit

def settlesM (m : Mo) (who : Int) : Mo := doneM m (settleM m who)
def twoM (m : Mo) (pick : Int) (cur : Bool) : Mo := if cur = true then settlesM m m.nxt else if pick = -1 ∨ pick = m.cur then settlesM m m.cur else doneM m (againM m pick)
/-- A block holds a move. -/
def MoAt (w : World) (b : Nat) (m : Mo) : Prop := rowD w b = #[.int .u8 m.ph, .int .i64 m.cur, .int .i64 m.nxt, .int .i64 m.gen, .int .i64 m.tick, .int .i64 m.ver] ∧ Lt b w
theorem MoAt.cells {w : World} {b : Nat} {m : Mo} (h : MoAt w b m) : w.cell? ⟨b, 0, none⟩ = some (.int .u8 m.ph) ∧ w.cell? ⟨b, 1, none⟩ = some (.int .i64 m.cur) ∧ w.cell? ⟨b, 2, none⟩ = some (.int .i64 m.nxt) ∧
    w.cell? ⟨b, 3, none⟩ = some (.int .i64 m.gen) ∧ w.cell? ⟨b, 4, none⟩ = some (.int .i64 m.tick) ∧ w.cell? ⟨b, 5, none⟩ = some (.int .i64 m.ver) := by
  refine ⟨?_, ?_, ?_, ?_, ?_, ?_⟩ <;> rw [cell_rowD, h.1] <;> rfl
theorem MoAt.ext {w w' : World} {b : Nat} {m : Mo} (h : MoAt w b m) (e : Ext w w') : MoAt w' b m := ⟨by rw [rowD_same (e.block b h.2)]; exact h.1, Nat.lt_of_lt_of_le h.2 e.size⟩
set_option maxHeartbeats 2000000 in
theorem settles_any (m : Mo) (who : Int) (w : World) (h0 : 0 ≤ m.ph) :
    Calls Try.prog 85 #[mo m.ph m.cur m.nxt m.gen m.tick m.ver, .int .i64 who] w fun e w' => e = .returned (settlesM m who).v ∧ Ext w w' := by
  go_enter Try.func85, Try.ntmps85
  go_wp2_with (first | (go_at_call 90; (with_reducible refine (settle_any m who _ h0).mono ?_); rintro e w' ⟨rfl, hb⟩; obtain ⟨hc, hf, hl, hz, -⟩ := kept hb; (try simp at hz)) | (go_at_call 88; (with_reducible refine (done_any m (settleM m who).1 (settleM m who).2 _).mono ?_); rintro e w' ⟨rfl, hb⟩; obtain ⟨hc, hf, hl, hz, -⟩ := kept hb; (try simp at hz)))
  refine bodyPost_ret (v := (settlesM m who).v) (by simp [results, Try.results85, go_sem, settlesM, *]) rfl ⟨rfl, ?_⟩
  (repeat (first | with_reducible exact Ext.rf _ | with_reducible assumption | with_reducible refine Ext.al ?_ _ | with_reducible refine Ext.dr ?_ | with_reducible refine Ext.dn ?_ _ | ((with_reducible refine Ext.st _ ?_ ?_); focus (first | omega | (simp; omega) | simp)) | with_reducible refine Ext.tr ?_ (by assumption) | with_reducible refine Ext.tr ?_ (up_ext (by assumption)) | with_reducible refine Ext.of (by assumption) ?_))
set_option maxHeartbeats 2000000 in
theorem alone_any (m : Mo) (pick : Int) (cb : Bool) (b : Nat) (w : World) (h0 : 0 ≤ m.ph) (hm : MoAt w b m) :
    Calls Try.prog 84 #[.int .i64 pick, .bool cb, .pointer (some ⟨b, 0, none⟩)] w fun e w' => e = .returned (settlesM m pick).v ∧ Ext w w' := by
  obtain ⟨c0, c1, c2, c3, c4, c5⟩ := hm.cells
  have lb : Lt b w := hm.2
  clear hm
  go_enter Try.func84, Try.ntmps84
  go_wp2_with ((go_at_call 85; (with_reducible refine (settles_any m pick _ h0).mono ?_); rintro e w' ⟨rfl, hb⟩; obtain ⟨hc, hf, hl, hz, -⟩ := kept hb; (try simp at hz)))
  refine bodyPost_ret (v := (settlesM m pick).v) (by simp [results, Try.results84, go_sem, *]) rfl ⟨rfl, ?_⟩
  (repeat (first | with_reducible exact Ext.rf _ | with_reducible assumption | with_reducible refine Ext.al ?_ _ | with_reducible refine Ext.dr ?_ | with_reducible refine Ext.dn ?_ _ | ((with_reducible refine Ext.st _ ?_ ?_); focus (first | omega | (simp; omega) | simp)) | with_reducible refine Ext.tr ?_ (by assumption) | with_reducible refine Ext.tr ?_ (up_ext (by assumption)) | with_reducible refine Ext.of (by assumption) ?_))
set_option maxHeartbeats 2000000 in
theorem two_any (m : Mo) (pick : Int) (cb : Bool) (b : Nat) (w : World) (h0 : 0 ≤ m.ph) (hm : MoAt w b m) :
    Calls Try.prog 86 #[.int .i64 pick, .bool cb, .pointer (some ⟨b, 0, none⟩)] w fun e w' => e = .returned (twoM m pick cb).v ∧ Ext w w' := by
  obtain ⟨c0, c1, c2, c3, c4, c5⟩ := hm.cells
  have lb : Lt b w := hm.2
  clear hm
  cases cb
  · by_cases hp : pick = -1 ∨ pick = m.cur
    · have HT := Lib.hid (show twoM m pick false = settlesM m m.cur by unfold twoM; rw [if_neg (by simp), if_pos hp])
      rw [HT.out]
      go_enter Try.func86, Try.ntmps86
      rcases hp with hp | hp
      · have hp' : (pick == -1) = true := by simpa using hp
        clear hp
        go_wp2_with ((go_at_call 85; (with_reducible refine (settles_any m m.cur _ h0).mono ?_); rintro e w' ⟨rfl, hb⟩; obtain ⟨hc, hf, hl, hz, -⟩ := kept hb; (try simp at hz)))
        refine bodyPost_ret (v := (settlesM m m.cur).v) (by simp [results, Try.results86, go_sem, *]) rfl ⟨rfl, ?_⟩
        (repeat (first | with_reducible exact Ext.rf _ | with_reducible assumption | with_reducible refine Ext.al ?_ _ | with_reducible refine Ext.dr ?_ | with_reducible refine Ext.dn ?_ _ | ((with_reducible refine Ext.st _ ?_ ?_); focus (first | omega | (simp; omega) | simp)) | with_reducible refine Ext.tr ?_ (by assumption) | with_reducible refine Ext.tr ?_ (up_ext (by assumption)) | with_reducible refine Ext.of (by assumption) ?_))
      · have hp' : (pick == m.cur) = true := by simpa using hp
        clear hp
        go_wp2_with ((go_at_call 85; (with_reducible refine (settles_any m m.cur _ h0).mono ?_); rintro e w' ⟨rfl, hb⟩; obtain ⟨hc, hf, hl, hz, -⟩ := kept hb; (try simp at hz)))
        all_goals (refine bodyPost_ret (v := (settlesM m m.cur).v) (by simp [results, Try.results86, go_sem, *]) rfl ⟨rfl, ?_⟩; (repeat (first | with_reducible exact Ext.rf _ | with_reducible assumption | with_reducible refine Ext.al ?_ _ | with_reducible refine Ext.dr ?_ | with_reducible refine Ext.dn ?_ _ | ((with_reducible refine Ext.st _ ?_ ?_); focus (first | omega | (simp; omega) | simp)) | with_reducible refine Ext.tr ?_ (by assumption) | with_reducible refine Ext.tr ?_ (up_ext (by assumption)) | with_reducible refine Ext.of (by assumption) ?_)))
    · have HT := Lib.hid (show twoM m pick false = doneM m (againM m pick) by unfold twoM; rw [if_neg (by simp), if_neg hp])
      rw [HT.out]
      have hp1 : (pick == -1) = false := by rw [beq_eq_false_iff_ne]; exact fun e => hp (.inl e)
      have hp2 : (pick == m.cur) = false := by rw [beq_eq_false_iff_ne]; exact fun e => hp (.inr e)
      clear hp
      go_enter Try.func86, Try.ntmps86
      go_wp2_with (first | (go_at_call 87; (with_reducible refine (again_any m pick _ h0).mono ?_); rintro e w' ⟨rfl, hb⟩; obtain ⟨hc, hf, hl, hz, -⟩ := kept hb; (try simp at hz)) | (go_at_call 88; (with_reducible refine (done_any m (againM m pick).1 (againM m pick).2 _).mono ?_); rintro e w' ⟨rfl, hb⟩; obtain ⟨hc, hf, hl, hz, -⟩ := kept hb; (try simp at hz)))
      refine bodyPost_ret (v := (doneM m (againM m pick)).v) (by simp [results, Try.results86, go_sem, *]) rfl ⟨rfl, ?_⟩
      (repeat (first | with_reducible exact Ext.rf _ | with_reducible assumption | with_reducible refine Ext.al ?_ _ | with_reducible refine Ext.dr ?_ | with_reducible refine Ext.dn ?_ _ | ((with_reducible refine Ext.st _ ?_ ?_); focus (first | omega | (simp; omega) | simp)) | with_reducible refine Ext.tr ?_ (by assumption) | with_reducible refine Ext.tr ?_ (up_ext (by assumption)) | with_reducible refine Ext.of (by assumption) ?_))
  · have HT := Lib.hid (show twoM m pick true = settlesM m m.nxt by unfold twoM; rw [if_pos rfl])
    rw [HT.out]
    go_enter Try.func86, Try.ntmps86
    go_wp2_with ((go_at_call 85; (with_reducible refine (settles_any m m.nxt _ h0).mono ?_); rintro e w' ⟨rfl, hb⟩; obtain ⟨hc, hf, hl, hz, -⟩ := kept hb; (try simp at hz)))
    refine bodyPost_ret (v := (settlesM m m.nxt).v) (by simp [results, Try.results86, go_sem, *]) rfl ⟨rfl, ?_⟩
    (repeat (first | with_reducible exact Ext.rf _ | with_reducible assumption | with_reducible refine Ext.al ?_ _ | with_reducible refine Ext.dr ?_ | with_reducible refine Ext.dn ?_ _ | ((with_reducible refine Ext.st _ ?_ ?_); focus (first | omega | (simp; omega) | simp)) | with_reducible refine Ext.tr ?_ (by assumption) | with_reducible refine Ext.tr ?_ (up_ext (by assumption)) | with_reducible refine Ext.of (by assumption) ?_))

theorem info_way : (Try.prog.info? 80).map (·.size) = some 7 := by kernel_rfl
theorem loadVar_way {w : World} {b : Nat} (h : (rowD w b).size = 7) : (loadVar 80 ⟨b, 0, none⟩).run Try.prog w = .ok (.agg (rowD w b)) w := by
  unfold rowD at h ⊢
  cases hg : w.heap[b]? with
  | none => rw [hg] at h; simp at h
  | some o =>
    rw [hg] at h
    cases o with
    | cells cs t fr => exact run_loadVar_row w b t _ cs fr _ hg Try.underlying80 rfl (by rw [info_way]; simpa using h.symm)
    | _ => simp at h
theorem loadAt_way {w : World} {b : Nat} (h : (rowD w b).size = 7) : (Instr.loadAt 80 (.pointer (some ⟨b, 0, none⟩))).run Try.prog w = .ok (.agg (rowD w b)) w := by
  simp only [Instr.loadAt, Instr.sureAddr, Sem.run_bind, Sem.run_pure, Result.andThen_ok]
  exact loadVar_way h
theorem storeAt_way {w : World} {b : Nat} (cs : Array Value) (hs : cs.size = 7) (h : (rowD w b).size = 7) (hz : frzD w b = (0, 0)) (h1 : cs.all (·.oneCell') = true) : (Instr.storeAt 80 (.pointer (some ⟨b, 0, none⟩)) (.agg cs)).run Try.prog w = .ok () (setRow w b cs) := by
  refine run_storeAt_mid w b 0 80 cs (fun j hj => ⟨?_, frozen_of_frz hz _⟩) (by rw [info_way, hs]) h1
  rw [cell_rowD, Nat.zero_add, Array.getElem?_eq_getElem (by omega)]; rfl
@[go_sem ↓ high] theorem exec_load_way (ρ : Operand → Value) (dst : Option Tmp) (x : Operand) (ty : TypeId) (pos : String) (after : Array Edge) (g : Option (Nat × Bool)) (w : World)
    (hx : ρ x = .pointer (some ⟨blkOf (ρ x), 0, none⟩)) (h : (rowD w (blkOf (ρ x))).size = 7) :
    (execOp ρ ⟨dst, .load 80 x, ty, pos, after, g⟩).run Try.prog w = .ok (.value (.agg (rowD w (blkOf (ρ x))))) w := by
  generalize hB : blkOf (ρ x) = B at *
  simp only [execOp, hx, Sem.run_bind, loadAt_way h, Result.andThen_ok, Sem.run_pure]
@[go_sem ↓ high] theorem exec_store_way (ρ : Operand → Value) (dst : Option Tmp) (x y : Operand) (ty : TypeId) (pos : String) (after : Array Edge) (g : Option (Nat × Bool)) (w : World)
    (hx : ρ x = .pointer (some ⟨blkOf (ρ x), 0, none⟩)) (hy : ρ y = .agg (ρ y).cells) (hs : (ρ y).cells.size = 7) (h : (rowD w (blkOf (ρ x))).size = 7) (hz : frzD w (blkOf (ρ x)) = (0, 0)) (h1 : oneC (ρ y).cells) :
    (execOp ρ ⟨dst, .store 80 x y, ty, pos, after, g⟩).run Try.prog w = .ok .skip (setRow w (blkOf (ρ x)) (ρ y).cells) := by
  generalize hB : blkOf (ρ x) = B at *
  generalize hC : (ρ y).cells = C at *
  simp only [execOp, hx, hy, Sem.run_bind, storeAt_way _ hs h hz h1, Result.andThen_ok, Sem.run_pure]

@[go_sem] theorem oneC_way (b : Nat) : oneC #[.nilFunc, (.func (.func 84) #[] #[.pointer (some ⟨b, 0, none⟩)]), (.func (.func 86) #[] #[.pointer (some ⟨b, 0, none⟩)]), (.func (.func 86) #[] #[.pointer (some ⟨b, 0, none⟩)]), (.func (.func 86) #[] #[.pointer (some ⟨b, 0, none⟩)]), (.func (.func 86) #[] #[.pointer (some ⟨b, 0, none⟩)]), (.func (.func 84) #[] #[.pointer (some ⟨b, 0, none⟩)])] := by unfold oneC; simp [Value.oneCell']
@[go_sem] theorem cells_way (b : Nat) : (Value.agg #[.nilFunc, (.func (.func 84) #[] #[.pointer (some ⟨b, 0, none⟩)]), (.func (.func 86) #[] #[.pointer (some ⟨b, 0, none⟩)]), (.func (.func 86) #[] #[.pointer (some ⟨b, 0, none⟩)]), (.func (.func 86) #[] #[.pointer (some ⟨b, 0, none⟩)]), (.func (.func 86) #[] #[.pointer (some ⟨b, 0, none⟩)]), (.func (.func 84) #[] #[.pointer (some ⟨b, 0, none⟩)])]).cells = #[.nilFunc, (.func (.func 84) #[] #[.pointer (some ⟨b, 0, none⟩)]), (.func (.func 86) #[] #[.pointer (some ⟨b, 0, none⟩)]), (.func (.func 86) #[] #[.pointer (some ⟨b, 0, none⟩)]), (.func (.func 86) #[] #[.pointer (some ⟨b, 0, none⟩)]), (.func (.func 86) #[] #[.pointer (some ⟨b, 0, none⟩)]), (.func (.func 84) #[] #[.pointer (some ⟨b, 0, none⟩)])] := rfl
set_option maxHeartbeats 2000000 in
theorem ways_any (m : Mo) (w : World) :
    Calls Try.prog 64 #[mo m.ph m.cur m.nxt m.gen m.tick m.ver] w fun e w' => ∃ b, e = .returned (.agg #[.nilFunc, (.func (.func 84) #[] #[.pointer (some ⟨b, 0, none⟩)]), (.func (.func 86) #[] #[.pointer (some ⟨b, 0, none⟩)]), (.func (.func 86) #[] #[.pointer (some ⟨b, 0, none⟩)]), (.func (.func 86) #[] #[.pointer (some ⟨b, 0, none⟩)]), (.func (.func 86) #[] #[.pointer (some ⟨b, 0, none⟩)]), (.func (.func 84) #[] #[.pointer (some ⟨b, 0, none⟩)])]) ∧ MoAt w' b m ∧ Ext w w' := by
  go_enter Try.func64, Try.ntmps64
  go_wp2
  refine bodyPost_ret (v := (.agg #[.nilFunc, (.func (.func 84) #[] #[.pointer (some ⟨w.heap.size, 0, none⟩)]), (.func (.func 86) #[] #[.pointer (some ⟨w.heap.size, 0, none⟩)]), (.func (.func 86) #[] #[.pointer (some ⟨w.heap.size, 0, none⟩)]), (.func (.func 86) #[] #[.pointer (some ⟨w.heap.size, 0, none⟩)]), (.func (.func 86) #[] #[.pointer (some ⟨w.heap.size, 0, none⟩)]), (.func (.func 84) #[] #[.pointer (some ⟨w.heap.size, 0, none⟩)])])) ?_ rfl ⟨w.heap.size, rfl, ?_, ?_⟩
  · refine results_of Try.results64 _ _ (w.heap.size + 1) rfl ?_
    rw [loadVar_way (by simp [go_sem])]; simp [go_sem]
  · unfold MoAt; simp [go_sem, Lt]
  · exact Ext.sr _ (by simp) (Ext.al (Ext.al (Ext.rf _) _) _)

end Go.Proofs.Ytlacidecomflkaa
