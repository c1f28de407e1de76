/- AgentTold: what is told of a generation that is not greater changes nothing but a retirement of just that one; it is answered all the same; only a retirement ends connections, all of that bucket: for every agent, everything that may be told. -/
import Derived.Test.YtpeonbaodnmlnaaGreatPA6
import Derived.Test.YtpeonbaodnmlnaaGreatRows
set_option linter.unusedSimpArgs false
set_option linter.unusedVariables false
set_option maxRecDepth 100000
set_option maxHeartbeats 16000000
namespace Go.Proofs.YtpeonbaodnmlnaaGreat
open Go.ChangeShapes Go.WideShapes Go.ChangeAt Go.RowKit
variable{Q:Act→World→Prop}{listed:Array Bool}{after:Array Edge}{E ops:Array Oper}{R:Array Oper→Prop}{args cs tmps:Array Value}{Q':Exit→Act→World→Prop}{b1 bs:List Int}{rest:List Nat}{B B1 B4 B5 N O b7 base fuel i j m' off:Nat}{oi:Oper}{ρ:Operand→Value}{dst:Option Tmp}{P:Program}{pos:String}{tq:TypeId}{a0 a1 a10 a2 a3 a4 a5 a6 a7 a8 a9 u v1 v2:Value}{A A' W w w' w0 w1:World}
theorem agentTold_lifted(os:Os)(started:os.Started)(H:Type)(enc:TypeId×Value→H):
  ReturnsInHanded {} Tryz.checked os 6 .any (Rows.agentToldSpec.pre6 enc Tryz.prog Tryz.f6 Rows.agentToldRow.domain false) (Rows.agentToldSpec.post enc Tryz.prog Tryz.f6 false true false false):=by
 refine Qqb 4 QxH started Kr Tryz.func6 (ChangeSpec.witness6 (enc:=enc) (C:=Tryz.checked) false ⟨#[],#[.agg Tryz.zeroCells27,.agg #[.int .u8 0,.int .u8 0,.int .i64 0,.int .i64 0,.int .i64 0,.int .i64 0,.int .i64 0,.int .i64 0,.int .i64 0,.slice none 0 0]],[]⟩ 8 Kr Kr Kr Kr) Qr3 rfl Kr Tryz.underlying4 ?_ Kr ?_
 ·intro ds h
  match ds,h with
  | [d0,d1],_=>rfl
 ·intro W base args ds p hval hA hlt;have hval': ∀(j:Nat) t v,Tryz.f6.params[j]?=some t→args[j]?=some v→Value.okWide Tryz.prog W .any base t v:=hval;have hA':DataW.TrodAll enc Tryz.prog W 0 (fun _=>true) true Tryz.f6.params.toList args.toList ds p:=hA;rw [Tryz.params6]at hA' hval';obtain⟨v0,vs0,d0,ds0,p0,q0,hargs,rfl,rfl,h0,r0⟩:=trodAll_cons hA';obtain⟨v1,vs1,d1,ds1,p1,q1,rfl,rfl,rfl,h1,r1⟩:=trodAll_cons r0;obtain⟨rfl,rfl,rfl⟩:=trodAll_nil r1;obtain rfl:args=#[v0,v1]:=by cases args;simp_all
  obtain⟨x,rfl,ha⟩:=Qr7 (hval' 0 _ v0 rfl rfl) h0;obtain⟨y,rs,rfl,hc⟩:=Qqi (hval' 1 _ v1 rfl rfl) h1;exact Qqh x y rs _ ha hc.k hc.f hc.n hc.s hc.l
theorem agentTold_holds:Rows.AgentToldSaid:=
 OpenClaim.holds_of_wide 6 Tryz.f6 rfl rfl rfl rfl rfl rfl rfl ⟨rfl,rfl,rfl,rfl,rfl⟩ rfl rfl rfl rfl rfl Kr Tryz.func6 Kr
  (of_decide_eq_true Kr) (by unfold Func.isWrapper;first|(rw [if_pos (by decide+kernel)];kernel_rfl)|(rw [if_neg (by decide+kernel)];exact⟨rfl,rfl⟩))
  (fun os started H enc _=>agentTold_lifted os started H enc)
#print axioms agentTold_holds
end Go.Proofs.YtpeonbaodnmlnaaGreat
