/- AgentPacket: of a packet there is one of these: a reason, and nothing changes; an event (or two, if it closes); one that is sent, with the same Inner, to another backend (or back to who it is from), and nothing changes; a connection is accepted only where the bucket's mode lets it: for every agent, all bytes, every tick. -/
import Derived.Test.YtpeonbaodnmlnaaGreatSA6
import Derived.Test.YtpeonbaodnmlnaaGreatRows
set_option linter.unusedSimpArgs false
set_option linter.unusedVariables false
set_option maxRecDepth 100000
set_option maxHeartbeats 16000000
namespace Go.Proofs.YtpeonbaodnmlnaaGreat
open Go.ChangeShapes Go.WideShapes Go.ChangeAt Go.RowKit
theorem agentPacket_lifted(os:Os)(started:os.Started)(H:Type)(enc:TypeId×Value→H):
  ReturnsInHanded {} Tryz.checked os 5 .any (Rows.agentPacketSpec.pre6 enc Tryz.prog Tryz.f5 Rows.agentPacketRow.domain false) (Rows.agentPacketSpec.post enc Tryz.prog Tryz.f5 false true false false):=by
 refine Qrn 4 Qzd started Kr Tryz.func5 (ChangeSpec.witness6 (enc:=enc) (C:=Tryz.checked) false ⟨#[],#[.agg Tryz.zeroCells27,.slice none 0 0,.int .i64 0],[]⟩ 8 Kr Kr Kr Kr) Qtq rfl Kr Tryz.underlying4 ?_ Kr ?_
 ·intro c h
  match c,h with
  | [m,q,u],_=>rfl
 ·intro W i b c p k l J;have a: ∀(j:Nat) t v,Tryz.f5.params[j]?=some t→b[j]?=some v→Value.okWide Tryz.prog W .any i t v:=k;have d:DataW.TrodAll enc Tryz.prog W 0 (fun _=>true) true Tryz.f5.params.toList b.toList c p:=l;rw [Tryz.params5]at d a;obtain⟨e,K,m,L,M,N,O,rfl,rfl,n,o⟩:=trodAll_cons d;obtain⟨f,P,q,Q,R,S,rfl,rfl,rfl,r,s⟩:=trodAll_cons o;obtain⟨g,T,u,U,V,X,rfl,rfl,rfl,w,y⟩:=trodAll_cons s;obtain⟨rfl,rfl,rfl⟩:=trodAll_nil y;obtain rfl:b=#[e,f,g]:=by cases b;simp_all
  obtain⟨x,rfl,z⟩:=Qtu (a 0 _ e rfl rfl) n;obtain⟨A,B,D,rfl,E,F,G⟩:=QBM (a 1 _ f rfl rfl) r;obtain⟨I,rfl,_,_,Y⟩:=open_int Tryz.underlying3 (a 2 _ g rfl rfl) w;exact QBb x B A D I _ z E F G
theorem agentPacket_holds:Rows.AgentPacketSaid:=
 OpenClaim.holds_of_wide 5 Tryz.f5 rfl rfl rfl rfl rfl rfl rfl ⟨rfl,rfl,rfl,rfl,rfl⟩ rfl rfl rfl rfl rfl Kr Tryz.func5 Kr
  (of_decide_eq_true Kr) (by unfold Func.isWrapper;first|(rw [if_pos (by decide+kernel)];kernel_rfl)|(rw [if_neg (by decide+kernel)];exact⟨rfl,rfl⟩))
  (fun os started H enc _=>agentPacket_lifted os started H enc)
#print axioms agentPacket_holds
end Go.Proofs.YtpeonbaodnmlnaaGreat
