/- AgentIdle: an agent that is right and has no connection is what it was after a tick, for every agent, every time. -/
import Derived.Test.YtpeonbaodnmlnaaGreatMA6
import Derived.Test.YtpeonbaodnmlnaaGreatRows
set_option linter.unusedSimpArgs false
set_option linter.unusedVariables false
set_option maxRecDepth 100000
set_option maxHeartbeats 16000000
namespace Go.Proofs.YtpeonbaodnmlnaaGreat
open Go.ChangeShapes Go.WideShapes Go.ChangeAt Go.RowKit
theorem agentIdle_lifted(os:Os)(started:os.Started)(H:Type)(enc:TypeId×Value→H):
  ReturnsInHanded {} Tryz.checked os 7 .any (Rows.agentIdleSpec.pre6 enc Tryz.prog Tryz.f7 Rows.agentIdleRow.domain false) (Rows.agentIdleSpec.post enc Tryz.prog Tryz.f7 false true false false):=by
 refine QpI 4 QwY started (by kernel_rfl) Tryz.func7 (ChangeSpec.witness6 (enc:=enc) (C:=Tryz.checked) false ⟨#[],#[.agg Tryz.zeroCells27,.int .i64 0],[]⟩ 8 (by kernel_rfl) (by kernel_rfl) (by kernel_rfl) (by kernel_rfl)) QrD rfl (by kernel_rfl) Tryz.underlying4 ?_ (by kernel_rfl) ?_
 ·intro ds h
  match ds,h with
  | [d0,d1],_=>rfl
 ·intro W base args ds p hval hA hlt;have hval': ∀(j:Nat) t v,Tryz.f7.params[j]?=some t→args[j]?=some v→Value.okWide Tryz.prog W .any base t v:=hval;have hA':DataW.TrodAll enc Tryz.prog W 0 (fun _=>true) true Tryz.f7.params.toList args.toList ds p:=hA;rw [Tryz.params7]at hA' hval';obtain⟨v0,vs0,d0,ds0,p0,q0,hargs,rfl,rfl,h0,r0⟩:=trodAll_cons hA';obtain⟨v1,vs1,d1,ds1,p1,q1,rfl,rfl,rfl,h1,r1⟩:=trodAll_cons r0;obtain⟨rfl,rfl,rfl⟩:=trodAll_nil r1;obtain rfl:args=#[v0,v1]:=by cases args;simp_all
  obtain⟨x,rfl,ha⟩:=QrI (hval' 0 _ v0 rfl rfl) h0;obtain⟨now,rfl,_,_,w_now⟩:=open_int Tryz.underlying3 (hval' 1 _ v1 rfl rfl) h1;exact QpQ x now _ ha
theorem agentIdle_holds:Rows.AgentIdleSaid:=
 OpenClaim.holds_of_wide 7 Tryz.f7 rfl rfl rfl rfl rfl rfl rfl ⟨rfl,rfl,rfl,rfl,rfl⟩ rfl rfl rfl rfl rfl (by kernel_rfl) Tryz.func7 (by kernel_rfl)
  (of_decide_eq_true (by kernel_rfl)) (by unfold Func.isWrapper;first|(rw [if_pos (by decide+kernel)];kernel_rfl)|(rw [if_neg (by decide+kernel)];exact⟨rfl,rfl⟩))
  (fun os started H enc _=>agentIdle_lifted os started H enc)
#print axioms agentIdle_holds
end Go.Proofs.YtpeonbaodnmlnaaGreat
