/- AgentOne: an agent that may be stays one, whatever is done; what happens at it is what one table lets happen with its connections, and leaves just these: for every agent, all deeds. -/
import Derived.Test.YtpeonbaodnmlnaaGreatRA6
import Derived.Test.YtpeonbaodnmlnaaGreatRows
set_option linter.unusedSimpArgs false
set_option linter.unusedVariables false
set_option maxRecDepth 100000
set_option maxHeartbeats 16000000
namespace Go.Proofs.YtpeonbaodnmlnaaGreat
open Go.ChangeShapes Go.WideShapes Go.ChangeAt Go.RowKit
theorem agentOne_lifted(os:Os)(started:os.Started)(H:Type)(enc:TypeId×Value→H):
  ReturnsInHanded {} Tryz.checked os 4 .any (Rows.agentOneSpec.pre6 enc Tryz.prog Tryz.f4 Rows.agentOneRow.domain false) (Rows.agentOneSpec.post enc Tryz.prog Tryz.f4 false true false false):=by
 refine Qrn 4 Qzd started Kr Tryz.func4 (ChangeSpec.witness6 (enc:=enc) (C:=Tryz.checked) false ⟨#[],#[.agg Tryz.zeroCells27,.slice none 0 0],[]⟩ 8 Kr Kr Kr Kr) Qtq rfl Kr Tryz.underlying4 ?_ Kr ?_
 ·intro a h
  match a,h with
  | [l,o],_=>rfl
 ·intro W g b a p i k A;have c: ∀(j:Nat) t v,Tryz.f4.params[j]?=some t→b[j]?=some v→Value.okWide Tryz.prog W .any g t v:=i;have d:DataW.TrodAll enc Tryz.prog W 0 (fun _=>true) true Tryz.f4.params.toList b.toList a p:=k;rw [Tryz.params4]at d c;obtain⟨e,B,l,D,E,F,G,rfl,rfl,m,n⟩:=trodAll_cons d;obtain⟨f,I,o,J,K,L,rfl,rfl,rfl,q,r⟩:=trodAll_cons n;obtain⟨rfl,rfl,rfl⟩:=trodAll_nil r;obtain rfl:b=#[e,f]:=by cases b;simp_all
  obtain⟨x,rfl,s⟩:=Qtu (c 0 _ e rfl rfl) m;obtain⟨u,a,w,rfl,y,z⟩:=QtE (c 1 _ f rfl rfl) q;exact QtB x u a w _ s y z
theorem agentOne_holds:Rows.AgentOneSaid:=
 OpenClaim.holds_of_wide 4 Tryz.f4 rfl rfl rfl rfl rfl rfl rfl ⟨rfl,rfl,rfl,rfl,rfl⟩ rfl rfl rfl rfl rfl Kr Tryz.func4 Kr
  (of_decide_eq_true Kr) (by unfold Func.isWrapper;first|(rw [if_pos (by decide+kernel)];kernel_rfl)|(rw [if_neg (by decide+kernel)];exact⟨rfl,rfl⟩))
  (fun os started H enc _=>agentOne_lifted os started H enc)
#print axioms agentOne_holds
end Go.Proofs.YtpeonbaodnmlnaaGreat
