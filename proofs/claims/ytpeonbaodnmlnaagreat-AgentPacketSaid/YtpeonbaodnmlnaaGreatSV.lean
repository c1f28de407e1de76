/- Lemmas of this claim: ZR. -/
import Derived.Test.YtpeonbaodnmlnaaGreatSA1
import Derived.Test.YtpeonbaodnmlnaaGreatSU
set_option linter.unusedSimpArgs false
set_option linter.unusedVariables false
set_option maxRecDepth 100000
set_option maxHeartbeats 16000000
namespace Go.Proofs.YtpeonbaodnmlnaaGreat.Ru
open Go.RowKit
variable{after:Array Edge}{B b:Nat}{x y:Operand}{ρ:Operand→Value}{g:Option (Nat×Bool)}{dst:Option Tmp}{pos:String}{ty:TypeId}{a0 a1 a2 a3 a4 a5:Value}{W w:World}
def QA1(m:Md):Bool:=(QT m).k==1||(QT m).k==2
theorem QBp(m:Md)(w:World)(h0:0≤m.k):
  Cr 32 #[m.v] w (.bool (QA1 m)):=by
 go_enter Tryz.func32,Tryz.ntmps32
 go_wp2_with ((go_at_call 86;(with_reducible refine(QA2 m _ h0).mono ?_);rintro e c ⟨rfl,a⟩;obtain⟨d,f,g,b,-⟩:=QU a;try simp at b))
 all_goals go_ret
 all_goals(refine⟨Qm ?_,?_⟩)
 all_goals first|(guard_target=~ Below _ _ _;(exact Xe))|rfl|grind [QA1]
end Go.Proofs.YtpeonbaodnmlnaaGreat.Ru
