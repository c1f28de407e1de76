/- Lemmas of this claim, put together out of: NI, NJ, NK, NL, HT, HU, HV, HX, HY, HZ, IA, IC, IE, IB, NM, NN, NP, NO, NQ, OA1, OA2. -/
import Derived.Test.YtpeonbaodnmlnaaGreatPA4
import Derived.Laws.EntriesVeiled
set_option linter.unusedSimpArgs false
set_option linter.unusedVariables false
set_option maxRecDepth 100000
set_option maxHeartbeats 16000000
namespace Go.Proofs.YtpeonbaodnmlnaaGreat
open Go.RowKit
variable{Q:Act→World→Prop}{listed:Array Bool}{after:Array Edge}{E ops:Array Oper}{R:Array Oper→Prop}{args cs tmps:Array Value}{Q':Exit→Act→World→Prop}{b1 bs:List Int}{rest:List Nat}{B B1 B4 B5 N O b7 base fuel i j m' off:Nat}{oi:Oper}{ρ:Operand→Value}{dst:Option Tmp}{P:Program}{pos:String}{tq:TypeId}{a0 a1 a10 a2 a3 a4 a5 a6 a7 a8 a9 u v1 v2:Value}{A A' W w w' w0 w1:World}
theorem QgB{o:Opt}(h:ZY o=true):JD o= [158,16,o.ki,o.bu,o.cu % 256,o.pv % 256]++byN o.ge 4++byN o.ti 6:=by
 have h:=(Zx o).1 h;have e: ∀n:Int,byN n 1= [n % 256]:=fun n=>by show [n/256^0 % 256]=_;rw [show(256:Int)^0=1 by decide,Int.ediv_one]
 show byN 158 1++(byN 16 1++(byN o.ki 1++(byN o.bu 1++(byN o.cu 1++(byN o.pv 1++(byN o.ge 4++(byN o.ti 6++ [])))))))=_;rw [e,e,e,e,e,e,show o.ki % 256=o.ki by omega,show o.bu % 256=o.bu by omega];simp
theorem Qia(lo:Nat)(n:Int)(m:Nat)(hm:m≤6)(h:0≤n∧n<281474976710656)(w:World)(hlo:lo≤w.heap.size):Calls Tryz.prog 200 #[.int .i64 n,.int .i64 m] w fun e w'=> ∃v,e= .returned v∧OB w' lo v (byN n m)∧Ext w w':=
 (Qh9 n m hm h.1 h.2 w).mono fun e w' ⟨v,h1,h2,h3⟩=>⟨v,h1,OB.le (by unfold OB;rw [Zy];exact h2) hlo,h3⟩
theorem Qln{x:Int}(h:(-1)≤x∧x≤5):bits .and .i64 x 255=x % 256:=by
 obtain rfl|rfl|rfl|rfl|rfl|rfl|rfl:x= -1∨x=0∨x=1∨x=2∨x=3∨x=4∨x=5:=by omega
 all_goals decide
def Qpp(ops:Array Oper):Prop:=Region.noSelect ops=true∧Qp ops 11 [0,1,2,5,6] 0=true∧Region.ready .any ops (msk 11 103)= [3]∧Region.ready .any ops (msk 11 111)= [4]∧Region.ready .any ops (msk 11 127)= [7]∧Region.ready .any ops (msk 11 255)= [8]∧Qp ops 11 [9,10] 511=true∧Region.ready .any ops (msk 11 2047)= []
theorem QjV:Qpp ((Tryz.f151.body.bind (Qg 4)).getD #[]):=⟨Kr,Kr,Kr,Kr,Kr,Kr,Kr,Kr⟩
theorem QmE(o:Opt)(h:ZY o=true)(w:World):Calls Tryz.prog 151 #[.agg (opv o)] w fun e w'=> ∃v,e= .returned (.tuple #[v,.int .i64 0])∧Ya w w' v (JD o):=by
 have hr:=(Zx o).1 h;have HR:=Xh (Qdr o Om);have HGE:=Xh (show 0≤o.ge∧o.ge<281474976710656 by omega);have HTI:=Xh (show 0≤o.ti∧o.ti<281474976710656 by omega);have HOB:=Xh (QgB h);have h1:=Qln hr.2.2.1;have h2:=Qln hr.2.2.2.1;have h3:IntKind.u8.wrap (o.cu % 256)=o.cu % 256:=by rw [Z9];omega
 have h4:IntKind.u8.wrap (o.pv % 256)=o.pv % 256:=by rw [Z9];omega
 rw [h]at HR;clear h hr;unfold opv at HR⊢
 go_enter Tryz.func151,Tryz.ntmps151
 go_upto_region 1 with(fail)
 obtain⟨W0,hW⟩: ∃W0,w.alloc (.cells #[.int .u8 o.ki,.int .u8 o.bu,.int .i64 o.cu,.int .i64 o.pv,.int .i64 o.ge,.int .i64 o.ti] 75)=W0:=⟨_,rfl⟩;have g0:Ext w W0:=by rw [←hW];exact Ext.al (Ext.rf _) _
 have rz:RowZ W0 w.heap.size #[.int .u8 o.ki,.int .u8 o.bu,.int .i64 o.cu,.int .i64 o.pv,.int .i64 o.ge,.int .i64 o.ti]:=by rw [←hW];exact RowZ.new _ _ _
 rw [hW];clear hW;obtain⟨b1,e1⟩: ∃b,w.heap.size=b:=⟨_,rfl⟩;rw [e1]at rz⊢;have HB1:=Xh e1;have hR:=rz.r;have HRH:=Xh rz;have HE:=Xh g0;clear rz e1 g0
 go_upto_region 3 with(go_at_call 165;(with_reducible refine(HR.out _).mono ?_);rintro e w2 ⟨rfl,g2⟩;have HRH:=Xh (HRH.out.ext g2);have HE:=Xh (HE.out.tr g2))
 clear hR;have hR:=HRH.out.r;have c0:w2.cell? ⟨b1,0,none⟩=some (.int .u8 o.ki):=HRH.out.cell 0 (by show 0<6;omega);have c1:w2.cell? ⟨b1,1,none⟩=some (.int .u8 o.bu):=HRH.out.cell 1 (by show 1<6;omega);have c2:w2.cell? ⟨b1,2,none⟩=some (.int .i64 o.cu):=HRH.out.cell 2 (by show 2<6;omega);have c3:w2.cell? ⟨b1,3,none⟩=some (.int .i64 o.pv):=HRH.out.cell 3 (by show 3<6;omega);clear hR
 go_upto_region 4 with(fail)
 clear c0 c1 c2 c3;obtain⟨lo,hlo⟩: ∃lo,b1+1=lo:=⟨_,rfl⟩;have hb2:lo≤w2.heap.size:=by have:=HRH.out.l;unfold Lt at this;omega
 obtain⟨W3,hW⟩: ∃W3,w2.alloc (.cells #[.int .u8 158,.int .u8 16,.int .u8 o.ki,.int .u8 o.bu,.int .u8 (o.cu % 256),.int .u8 (o.pv % 256)] 5)=W3:=⟨_,rfl⟩;have g3:Ext w2 W3:=by rw [←hW];exact Ext.al (Ext.rf _) _
 have ho:OB W3 lo (.slice (some ⟨w2.heap.size,0,none⟩) 6 6) [158,16,o.ki,o.bu,o.cu % 256,o.pv % 256]:=by rw [←hW];exact OB.lit w2 lo [158,16,o.ki,o.bu,o.cu % 256,o.pv % 256] 6 rfl hb2 (by simp)
 rw [hW];clear hW;have rh:=HRH.out.ext g3;have E:=HE.out.tr g3;have hbs:=Xt hb2 g3.size;obtain⟨va,eva⟩: ∃v,Value.slice (some ⟨w2.heap.size,0,none⟩) 6 6=v:=⟨_,rfl⟩;rw [eva]at ho⊢;clear g3 hb2 eva;refine Qy (fun k=>lo≤k) (fun k=>lo≤k) 11 Kr ?_;obtain⟨WA,hW⟩: ∃Wdr,World.drew W3=Wdr:=⟨_,rfl⟩;have gD:Ext W3 WA:=by rw [←hW];exact Ext.dr (Ext.rf _)
 rw [hW];clear hW;have E:=E.tr gD;have rh:=rh.ext gD;have ho:=ho.ext gD;have hbs:=Xt hbs gD.size;refine Zi (N:=11) (R:=Qpp) (E:=((Tryz.f151.body.bind (Qg 4)).getD #[])) Kr QjV Kr fun hS=> ?_;have hT:=hS.2.1;refine tWk 1 va hS.1 hT rfl fun hT=> ?_;refine tWk 3 (.pointer (some ⟨b1,4,none⟩)) hS.1 hT rfl fun hT=> ?_;refine tW 7 (.int .i64 o.ge) hS.1 hT rfl (QW (rh.cell 4 (by show 4<6;omega)) rh.l Om Kr) fun hT=> ?_;refine tWk 39 (.pointer (some ⟨b1,5,none⟩)) hS.1 hT rfl fun hT=> ?_;refine tW 103 (.int .i64 o.ti) hS.1 hT rfl (QW (rh.cell 5 (by show 5<6;omega)) rh.l Om Kr) fun hT=> ?_;refine sV 111 (fun v w'=>OB w' lo v (byN o.ge 4)) hS.2.2.1 rfl (Qia lo o.ge 4 Om HGE.out WA hbs) ?_;rintro vq WB1 gWB1 oq;have E:=E.tr gWB1;have rh:=rh.ext gWB1;have ho:=ho.ext gWB1;have hbs:=Xt hbs gWB1.size;refine Qs hS.2.2.2.1 (Qlk (m':=127) (base:=lo) (b1:= [158,16,o.ki,o.bu,o.cu % 256,o.pv % 256]) rfl rfl Kr Kr ho (Qar.of_ob oq) (by simp [Zy]<;>omega) hbs (fun k hk=>hk) ?_);intro v5 WB2 ho hmv;have rh:=rh.mv (C:=fun k=>lo≤k) hmv Om;have E:=Mv.ext_of (C:=fun k=>lo≤k) E hmv (fun k hk=>by have:=HB1.out;omega);have hbs:=Xt hbs hmv.size;have gWB2:=Ext.rf WB2;have E:=E.tr gWB2;have rh:=rh.ext gWB2;have ho:=ho.ext gWB2;refine sV 255 (fun v w'=>OB w' lo v (byN o.ti 6)) hS.2.2.2.2.1 rfl (Qia lo o.ti 6 Om HTI.out WB2 hbs) ?_;rintro vq WB3 gWB3 oq;have E:=E.tr gWB3;have rh:=rh.ext gWB3;have ho:=ho.ext gWB3;have hbs:=Xt hbs gWB3.size;refine Qs hS.2.2.2.2.2.1 (Qlk (m':=511) (base:=lo) (b1:=([158,16,o.ki,o.bu,o.cu % 256,o.pv % 256]++byN o.ge 4)) rfl rfl Kr Kr ho (Qar.of_ob oq) (by simp [Zy]<;>omega) hbs (fun k hk=>hk) ?_);intro v9 WB4 ho hmv;have rh:=rh.mv (C:=fun k=>lo≤k) hmv Om;have E:=Mv.ext_of (C:=fun k=>lo≤k) E hmv (fun k hk=>by have:=HB1.out;omega);have hbs:=Xt hbs hmv.size;have gWB4:=Ext.rf WB4;have E:=E.tr gWB4;have rh:=rh.ext gWB4;have ho:=ho.ext gWB4;have hT:=hS.2.2.2.2.2.2.1;refine tWk 1023 v9 hS.1 hT rfl fun hT=> ?_;refine tWk 2047 (.int .i64 0) hS.1 hT rfl fun hT=> ?_;refine Q2 hS.2.2.2.2.2.2.2 ?_;clear hS hT;go_simp;have HE:=Xh E;have HO:=Xh ho;clear E rh hbs ho;go_wp2;refine bodyPost_ret (v:= .tuple #[v9,.int .i64 0]) (by simp [results,Tryz.results151,go_sem]) rfl ?_;refine⟨_,rfl,?_,HE.out⟩;rw [HB1.out,HOB.out];exact HO.out.le Om
section
open Ru
theorem Qrw:(Tryz.prog.info? 73).map (fun i=>(i.zero,i.size,i.bytes))=some (some (.agg #[.int .u8 0,.int .i64 0]),2,16):=Kr
def ndN(ps:List (Int×Int)):List Value:=ps.flatMap fun p=> [.int .u8 p.1,.int .i64 p.2]
theorem JM(w:World)(a b:Value)(t:TypeId): ∀j u,[a,b][j]?=some u→(w.alloc (.cells #[a,b] t)).cell? ((⟨w.heap.size,0,none⟩:Addr).add j)=some u:=by
 intro j u h
 match j,h with
 |0,h=>cases h;simp [go_sem,Addr.add]
 |1,h=>cases h;simp [go_sem,Addr.add]
theorem QyL{q:Nat}(h:q<3):ndN (Qx.take q)++ [.int .u8 1,.int .i64 q]=ndN (Qx.take (q+1)):=by
 obtain rfl|rfl|rfl:q=0∨q=1∨q=2:=by omega
 all_goals rfl
theorem QyM{q:Nat}(h:q<6):ndN (Qx.take (3+q))++ [.int .u8 2,.int .i64 q]=ndN (Qx.take (3+(q+1))):=by
 obtain rfl|rfl|rfl|rfl|rfl|rfl:q=0∨q=1∨q=2∨q=3∨q=4∨q=5:=by omega
 all_goals rfl
theorem QjW(w:World):Calls Tryz.prog 152 #[] w fun e w'=> ∃v,e= .returned v∧w'.ownsRow w.heap.size 73 2 v 10 (ndN Qx)∧Ext w w':=by
 obtain⟨i0,hi,hz0,hz1,hz2⟩:=info_parts Qrw
 go_enter Tryz.func152,Tryz.ntmps152
 go_wp2
 go_loopw [1,2] (fun v a wr=> ∃q:Nat,q≤3∧a= .int .i64 q∧wr.ownsRow w.heap.size 73 2 v q (ndN (Qx.take q))∧Ext w wr) (fun _ a _=>3- (intOf a).toNat)
 case atStart=>exact⟨0,Nat.zero_le _,rfl,World.ownsRow_nil _ _ _ _,Ext.rf _⟩
 case round=>
  obtain⟨q,hq,rfl,ho,hE⟩:=hrel;have HO:=Xh ho;have HE:=Xh hE;clear ho hE
  by_cases hlt:q<3
  ·have hlt':(q:Int)<3:=by omega
   have HT:=Xh (QyL hlt)
   go_wp2_with (at_builtin;go_must (refine wpList_append_own _ rfl _ _ 191 rfl w.heap.size 73 i0 (.agg #[.int .u8 0,.int .i64 0]) 2 16 Tryz.underlying191 hi hz0 hz1 hz2 rfl Dc _ _ _ rfl (HO.out.alloc _) ⟨wr.heap.size,0,none⟩ 1 1 [.int .u8 1,.int .i64 (q:Int)] rfl rfl (JM _ _ _ _) (by intro u hu;simp at hu;rcases hu with rfl|rfl<;>rfl) (by unfold maxLen;omega) Om (by have:=HE.out.size;simp;omega) ?_);intro v' w3 hown hgrow _;have HN:=Xh hown;have HG:=Xh hgrow;clear hown hgrow)
   go_roundw
   case rel=>
    refine⟨q+1,Om,by go_num,?_,Mv.ext_of (Ext.al HE.out _) (Mv.of_grown (C:=fun k=>w.heap.size≤k) HG.out fun r e=> .inl (Qh HO.out r e)) (fun k h=>h)⟩;have h:=HN.out;rw [HT.out]at h;exact h
   case measure=>simp [intOf];omega
  ·obtain rfl:q=3:=by omega
   have HO3:=Xh HO.out;have HE3:=Xh HE.out;generalize wr=w2 at*;clear HO HE hlt hq;rw [show((3:Nat):Int)=3 from rfl];go_wp2
   go_loopw [1,3] (fun v a wr=> ∃q:Nat,q≤6∧a= .int .i64 q∧wr.ownsRow w.heap.size 73 2 v (3+q) (ndN (Qx.take (3+q)))∧Ext w wr) (fun _ a _=>6- (intOf a).toNat)
   case atStart=>exact⟨0,Nat.zero_le _,rfl,HO3.out,HE3.out⟩
   case round=>
    obtain⟨q,hq,rfl,ho,hE⟩:=hrel;have HO:=Xh ho;have HE:=Xh hE;clear ho hE
    by_cases hlt:q<6
    ·have hlt':(q:Int)<6:=by omega
     have HT:=Xh (QyM hlt)
     go_wp2_with (at_builtin;go_must (refine wpList_append_own _ rfl _ _ 191 rfl w.heap.size 73 i0 (.agg #[.int .u8 0,.int .i64 0]) 2 16 Tryz.underlying191 hi hz0 hz1 hz2 rfl Dc _ _ _ rfl (HO.out.alloc _) ⟨wr.heap.size,0,none⟩ 1 1 [.int .u8 2,.int .i64 (q:Int)] rfl rfl (JM _ _ _ _) (by intro u hu;simp at hu;rcases hu with rfl|rfl<;>rfl) (by unfold maxLen;omega) Om (by have:=HE.out.size;simp;omega) ?_);intro v' w3 hown hgrow _;have HN:=Xh hown;have HG:=Xh hgrow;clear hown hgrow)
     go_roundw
     case rel=>
      refine⟨q+1,Om,by go_num,?_,Mv.ext_of (Ext.al HE.out _) (Mv.of_grown (C:=fun k=>w.heap.size≤k) HG.out fun r e=> .inl (Qh HO.out r e)) (fun k h=>h)⟩;have h:=HN.out;rw [HT.out]at h;exact h
     case measure=>simp [intOf];omega
    ·obtain rfl:q=6:=by omega
     rw [show((6:Nat):Int)=6 from rfl]
     go_wp2_with (at_builtin;go_must (refine wpList_append_own _ rfl _ _ 191 rfl w.heap.size 73 i0 (.agg #[.int .u8 0,.int .i64 0]) 2 16 Tryz.underlying191 hi hz0 hz1 hz2 rfl Dc _ _ _ rfl (HO.out.alloc _) ⟨wr.heap.size,0,none⟩ 1 1 [.int .u8 3,.int .i64 0] rfl rfl (JM _ _ _ _) (by intro u hu;simp at hu;rcases hu with rfl|rfl<;>rfl) (by unfold maxLen;omega) Om (by have:=HE.out.size;simp;omega) ?_);intro v' w3 hown hgrow _;have HN:=Xh hown;have HG:=Xh hgrow;clear hown hgrow)
     go_ret;exact⟨_,rfl,HN.out,Mv.ext_of (Ext.al HE.out _) (Mv.of_grown (C:=fun k=>w.heap.size≤k) HG.out fun r e=> .inl (Qh HO.out r e)) (fun k h=>h)⟩
theorem Qpq(p:Int×Int)(h:p∈Qx)(w:World):Calls Tryz.prog 153 #[.agg #[.int .u8 p.1,.int .i64 p.2]] w fun e w'=>e= .returned (.int .u32 (QP p))∧Ext w w':=by
 have hp:(0≤p.1∧p.1<4)∧(0≤p.2∧p.2<6):=by
  have: ∀x∈Qx,(0≤x.1∧x.1<4)∧(0≤x.2∧x.2<6):=by decide
  exact this p h
 have h1:IntKind.u32.wrap p.1=p.1:=by rw [YA];omega
 have h2:IntKind.u32.wrap (p.1*256)=p.1*256:=by rw [YA];omega
 have h3:IntKind.u32.wrap (167772160+p.1*256)=167772160+p.1*256:=by rw [YA];omega
 have h4:IntKind.u32.wrap p.2=p.2:=by rw [YA];omega
 have h5:IntKind.u32.wrap (167772160+p.1*256+p.2)=167772160+p.1*256+p.2:=by rw [YA];omega
 clear h hp
 go_enter Tryz.func153,Tryz.ntmps153
 go_wp2;go_ret;exact⟨rfl,Ext.al (Ext.rf _) _⟩
end
section
open Ru
theorem Qpr{v:Value}(h:w.ownsRow base 73 2 v 10 (ndN Qx)): ∃g cap,v= .slice (some ⟨g,0,none⟩) 10 cap∧g<w.heap.size∧ ∀k (hk:k<10),w.cell? ⟨g,k*2,none⟩=some (.int .u8 (Qx[k]'hk).1)∧w.cell? ⟨g,k*2+1,none⟩=some (.int .i64 (Qx[k]'hk).2):=by
 rcases h.2 with⟨-,h1⟩|⟨g,cap,cur,rfl,hg,hgb,h1,h2,h3,h4⟩
 ·omega
 ·refine⟨g,cap,rfl,(Array.getElem?_eq_some_iff.1 hgb).1,fun k hk=> ?_⟩;have key: ∀j u,(ndN Qx)[j]?=some u→w.cell? ⟨g,j,none⟩=some u:=fun j u hu=>by
   have hj:j<20:=(List.getElem?_eq_some_iff.1 hu).1;rw [←h4,List.getElem?_take,if_pos Om,Array.getElem?_toList]at hu;simp only [World.cell?,hgb];exact hu
  obtain rfl|rfl|rfl|rfl|rfl|rfl|rfl|rfl|rfl|rfl:k=0∨k=1∨k=2∨k=3∨k=4∨k=5∨k=6∨k=7∨k=8∨k=9:=by omega
  all_goals exact⟨key _ _ rfl,key _ _ rfl⟩
theorem Qps{g cap q:Nat}(h:q<10){x y:Operand}{ty:TypeId}{gd:Option (Nat×Bool)}(hx:ρ x= .slice (some ⟨g,0,none⟩) 10 cap)(hy:ρ y= .int .i64 (q:Int))(w:World):
  (execOp ρ ⟨dst,.indexAddr 191 x y,ty,pos,after,gd⟩).run Tryz.prog w= .ok (.value (.pointer (some ⟨g,q*2,none⟩))) w:=by
 have h':(q:Int)<10:=by omega
 simp only [execOp,hx,hy];go_simp
theorem Qrx{C:Nat→Prop}{a b:Value}(h0:w.cell? ⟨B,i,none⟩=some a)(h1:w.cell? ⟨B,i+1,none⟩=some b)(hl:Lt B w)(hC: ¬C B){x:Operand}{ty:TypeId}{g:Option (Nat×Bool)}
  (hx:ρ x= .pointer (some ⟨B,i,none⟩)): ∀w',Mv C w w'→(execOp ρ ⟨dst,.load 73 x,ty,pos,after,g⟩).run Tryz.prog w'= .ok (.value (.agg #[a,b])) w':=by
 intro w' hE;have e:=Qf (hE.same B hl hC);have h0:w'.cell? ⟨B,i,none⟩=some a:=by rw [Qa,e,←Qa];exact h0
 have h1:w'.cell? ⟨B,i+1,none⟩=some b:=by rw [Qa,e,←Qa];exact h1
 simp only [execOp,hx];go_simp
theorem Qpt{p q:Int×Int}{bb:Bool}(hn:decide (p=q)=bb){x y:Operand}{ty:TypeId}{g:Option (Nat×Bool)}(hx:ρ x= .agg #[.int .u8 p.1,.int .i64 p.2])(hy:ρ y= .agg #[.int .u8 q.1,.int .i64 q.2])(w:World):
  (execOp ρ ⟨dst,.binOp .eql 73 x y 73,ty,pos,after,g⟩).run Tryz.prog w= .ok (.value (.bool bb)) w:=by
 obtain⟨p1,p2⟩:=p;obtain⟨q1,q2⟩:=q;simp only [execOp,hx,hy];go_simp
 by_cases h1:p1=q1<;>by_cases h2:p2=q2<;>cases bb<;>simp_all
def Qpu(ops:Array Oper):Prop:=Region.noSelect ops=true∧Qp ops 6 [0,1,2,3,4,5] 0=true∧Region.ready .any ops (msk 6 63)= []
theorem QjX:Qpu ((Tryz.f154.body.bind (Qg 5)).getD #[]):=⟨Kr,Kr,Kr⟩
theorem QmF(p:Int×Int)(w:World):Calls Tryz.prog 154 #[.agg #[.int .u8 p.1,.int .i64 p.2]] w fun e w'=>e= .returned (.tuple #[.int .u32 (adO p),.bool (isN p)])∧Ext w w':=by
 go_enter Tryz.func154,Tryz.ntmps154
 go_upto_region 1 with(fail)
 obtain⟨W0,hW⟩: ∃W0,w.alloc (.cells #[.int .u8 p.1,.int .i64 p.2] 73)=W0:=⟨_,rfl⟩;have g0:Ext w W0:=by rw [←hW];exact Ext.al (Ext.rf _) _
 have rz:RowZ W0 w.heap.size #[.int .u8 p.1,.int .i64 p.2]:=by rw [←hW];exact RowZ.new _ _ _
 rw [hW];clear hW;obtain⟨b1,e1⟩: ∃b,w.heap.size=b:=⟨_,rfl⟩;rw [e1]at rz⊢;clear e1
 go_wp2_with (go_at_call 152;(with_reducible refine(QjW _).mono ?_);rintro e w1 ⟨v,rfl,ho,g1⟩;have rz:=rz.ext g1;have g1:=g0.tr g1;clear g0;obtain⟨g,cap,rfl,hg,hc⟩:=Qpr ho;clear ho)
 go_loopw [5] (fun a wr=> ∃q:Nat,q≤10∧a= .int .i64 q∧(∀j (hj:j<10),j<q→(Qx[j]'hj)≠p)∧Ext w1 wr) (fun a _=>10- (intOf a).toNat)
 case atStart=>exact⟨0,Nat.zero_le _,rfl,fun j hj h=>by omega,Ext.rf _⟩
 case round=>
  obtain⟨q,hq,rfl,hne,hE⟩:=hrel;have rz:=rz.ext hE;have E:=g1.tr hE;have HNE:=Xh hne;have HE1:=Xh hE
  by_cases hlt:q<10
  ·have hlt':(q:Int)<10:=by omega
   have hq10:=hlt;obtain⟨d0,d1⟩:=hc q hlt;have d0:=(hE.cell (p:=⟨g,q*2,none⟩) hg).trans d0;have d1:=(hE.cell (p:=⟨g,q*2+1,none⟩) hg).trans d1;have lg:Lt g wr:=Xl hg hE.size;obtain⟨x,hx⟩: ∃x,(Qx[q]'hlt)=x:=⟨_,rfl⟩;rw [hx]at d0 d1;have HX:=Xh hx;obtain⟨bb,hbb⟩: ∃bb,decide (x=p)=bb:=⟨_,rfl⟩;clear hne hE hx
   go_upto_region 5 with(fail)
   refine Qy (fun _=>False) (fun _=>False) 6 Kr ?_;obtain⟨WA,hW⟩: ∃Wdr,World.drew wr=Wdr:=⟨_,rfl⟩;have gD:Ext wr WA:=by rw [←hW];exact Ext.dr (Ext.rf _)
   rw [hW];clear hW;have E:=E.tr gD;have rz:=rz.ext gD;have d0:=(gD.cell (p:=⟨g,q*2,none⟩) lg).trans d0;have d1:=(gD.cell (p:=⟨g,q*2+1,none⟩) lg).trans d1;have lg:=Xl lg gD.size;have HE2:=Xh (HE1.out.tr gD);refine Zi (N:=6) (R:=Qpu) (E:=((Tryz.f154.body.bind (Qg 5)).getD #[])) Kr QjX Kr fun hS=> ?_;have hT:=hS.2.1;refine tWk 1 (.slice (some ⟨g,0,none⟩) 10 cap) hS.1 hT rfl fun hT=> ?_;refine tWk 3 (.int .i64 (q:Int)) hS.1 hT rfl fun hT=> ?_;refine tW 7 (.pointer (some ⟨g,q*2,none⟩)) hS.1 hT rfl (fun w' _=>Qps (cap:=cap) hq10 Kr Kr w') fun hT=> ?_;refine tW 15 (.agg #[.int .u8 x.1,.int .i64 x.2]) hS.1 hT rfl (Qrx (C:=fun _=>False) d0 d1 lg (fun h=>h) Kr) fun hT=> ?_;refine tW 31 (.agg #[.int .u8 p.1,.int .i64 p.2]) hS.1 hT rfl (Qoh rz rfl (fun h=>h) Kr) fun hT=> ?_;refine tW 63 (.bool bb) hS.1 hT rfl (fun w' _=>Qpt hbb Kr Kr w') fun hT=> ?_;refine Q2 hS.2.2 ?_;clear hS hT d0 d1;go_simp;have HB:=Xh hbb;have HEE:=Xh E;have hR:=rz.r;clear hbb E rz
   cases bb
   ·have HN:=Xh (of_decide_eq_false HB.out);go_wp2
    go_roundw
    case rel=>exact⟨q+1,Om,by go_num,fun j hj h=>by rcases Nat.lt_or_ge j q with h'|h';exact HNE.out j hj h';(obtain rfl:j=q:=by omega);rw [HX.out];exact HN.out,HE2.out⟩
    case measure=>simp [intOf];omega
   ·have HN:=of_decide_eq_true HB.out;have hm:p∈Qx:=by rw [←HN,←HX.out];exact List.getElem_mem hlt
    have HA:=Xh (Qpq p hm);have HM:=Xh hm;clear HN hm HB
    go_wp2_with (go_at_call 153;(with_reducible refine(HA.out _).mono ?_);rintro e w2 ⟨rfl,g2⟩)
    exact bodyPost_ret (v:= .tuple #[.int .u32 (QP p),.bool true]) (by simp [results,Tryz.results154,go_sem]) rfl ⟨by unfold adO isN;rw [if_pos HM.out,decide_eq_true HM.out],HEE.out.tr g2⟩
  ·obtain rfl:q=10:=by omega
   have HM:=Xh (show p ∉ Qx from fun hm=>by obtain⟨j,hj,e⟩:=List.mem_iff_getElem.1 hm;exact HNE.out j hj hj e);have HEE:=Xh E;clear hne hE E rz;go_wp2;exact bodyPost_ret (v:= .tuple #[.int .u32 0,.bool false]) (by simp [results,Tryz.results154,go_sem]) rfl ⟨by unfold adO isN;rw [if_neg HM.out,decide_eq_false HM.out],HEE.out⟩
end
section
open Ru
theorem Qpv(ki bu cu pv ge ti:Int)(hb:0≤bu∧bu<16)(h:ZY ⟨ki,bu,cu,pv,ge,ti⟩=true)(w:World):
  Calls Tryz.prog 92 #[.int .u8 ki,.int .i64 bu,.agg #[.int .i64 cu,.int .i64 pv,.int .i64 ge,.int .i64 ti]] w fun e w'=>e= .returned (.tuple #[.agg (opv ⟨ki,bu,cu,pv,ge,ti⟩),.int .i64 0])∧Ext w w':=by
 have HR:=Xh (Qdr ⟨ki,bu,cu,pv,ge,ti⟩ hb.1);rw [h]at HR;have h1:decide (bu<0)=false:=decide_eq_false Om;have h2:decide (16≤bu)=false:=decide_eq_false Om;have h3:IntKind.u8.wrap bu=bu:=by rw [Z9];omega
 have hbd: ∀W,(Instr.build 75 #[(0,.int .u8 ki),(1,.int .u8 bu),(2,.int .i64 cu),(3,.int .i64 pv),(4,.int .i64 ge),(5,.int .i64 ti)]).run Tryz.prog W= .ok (.agg #[.int .u8 ki,.int .u8 bu,.int .i64 cu,.int .i64 pv,.int .i64 ge,.int .i64 ti]) W:=fun W=>by kernel_rfl
 clear h hb;unfold opv at HR⊢
 go_enter Tryz.func92,Tryz.ntmps92
 go_upto_region 4 with(fail)
 obtain⟨V,hV⟩: ∃V,(w.alloc (.cells #[.int .i64 cu,.int .i64 pv,.int .i64 ge,.int .i64 ti] 153)).alloc (.cells #[.int .u8 0,.int .u8 0,.int .i64 0,.int .i64 0,.int .i64 0,.int .i64 0] 75)=V:=⟨_,rfl⟩;have gV:Ext w V:=by rw [←hV];exact Ext.al (Ext.al (Ext.rf _) _) _
 have hz:V.heap.size=w.heap.size+1+1:=by rw [←hV];simp
 have r6:RowZ V (w.heap.size+1) #[.int .u8 0,.int .u8 0,.int .i64 0,.int .i64 0,.int .i64 0,.int .i64 0]:=by rw [←hV];exact⟨by simp [go_sem],by simp [go_sem],by simp [go_sem,Lt]⟩
 rw [hV];obtain⟨W0,hW⟩: ∃W0,Qe (V.alloc (.cells #[.int .u8 0,.int .u8 0,.int .i64 0,.int .i64 0,.int .i64 0,.int .i64 0] 75)) (w.heap.size+1+1) 0 #[.int .u8 ki,.int .u8 bu,.int .i64 cu,.int .i64 pv,.int .i64 ge,.int .i64 ti]=W0:=⟨_,rfl⟩;have r8:RowZ W0 (w.heap.size+1+1) #[.int .u8 ki,.int .u8 bu,.int .i64 cu,.int .i64 pv,.int .i64 ge,.int .i64 ti]:=by rw [←hW,←hz];exact(RowZ.new V _ _).all _ rfl
 have g8:Ext V W0:=by rw [←hW,←hz];exact Ext.sa _ (Nat.le_refl _) (Ext.al (Ext.rf _) _)
 rw [hW];have r6:=r6.ext g8;have g0:=gV.tr g8;clear hW hV g8 gV hz;obtain⟨b6,e6⟩: ∃b,w.heap.size+1=b:=⟨_,rfl⟩;rw [e6]at r6 r8⊢;have h6:w.heap.size≤b6:=by omega
 clear e6;have hr8:=r8.r;have HR6:=Xh r6;have HR8:=Xh r8;clear r6 r8
 go_wp2_with (go_at_call 165;(with_reducible refine(HR.out _).mono ?_);rintro e w2 ⟨rfl,g2⟩;have hr8:=(HR8.out.ext g2).r;have hr6:=(HR6.out.ext g2).r;have hz6:=(HR6.out.ext g2).z)
 obtain⟨W5,h5⟩: ∃W5,Qe w2 b6 0 #[.int .u8 ki,.int .u8 bu,.int .i64 cu,.int .i64 pv,.int .i64 ge,.int .i64 ti]=W5:=⟨_,rfl⟩;have hr:Qc W5 b6=#[.int .u8 ki,.int .u8 bu,.int .i64 cu,.int .i64 pv,.int .i64 ge,.int .i64 ti]:=by rw [←h5];exact Qq _ _ _ (by rw [hr6];rfl)
 have hE:Ext w W5:=by rw [←h5];exact Ext.sa _ h6 (g0.tr g2)
 rw [h5]
 refine bodyPost_ret (QJ rfl _ _ b6 rfl (by
  rw [Qae (by rw [hr];show 0+6≤6;omega),hr]
  rfl)) rfl ⟨rfl,hE⟩
theorem Qpw{p:Int×Int}(h:p∈Qx):0≤QP p∧QP p<4294967296:=by
 have: ∀x∈Qx,0≤QP x∧QP x<4294967296:=by decide
 exact this p h
theorem QfD{p:Int×Int}(h:p∈Qx)(w:World):Calls Tryz.prog 154 #[.agg #[.int .u8 p.1,.int .i64 p.2]] w fun e w'=>e= .returned (.tuple #[.int .u32 (QP p),.bool true])∧Ext w w':=by
 have:=QmF p w;unfold adO isN at this;rw [if_pos h,decide_eq_true h]at this;exact this
theorem Qry(x y:Int)(LO pl:List Int)(g q:Nat)(pp:Option Addr)(cp:Nat)(w1:World)(HL:LO.length=16)(H0:0≤x∧x<4294967296)(H1:0≤y∧y<4294967296)(s1:SlB w1 (some ⟨g,0,none⟩) LO)(rl:ByR LO)(sp:SlB w1 pp pl)(hpp:pp=none→cp=0)(hl:pl.length≤2000):
  Calls Tryz.prog 155 #[.agg #[.int .u8 0,.int .u16 0,.int .u16 0,.int .u8 64,.int .u8 4,.int .u32 x,.int .u32 y,.slice (some ⟨g,0,none⟩) LO.length q,.slice pp pl.length cp]] w1 fun e w'=> ∃v,e= .returned (.tuple #[v,.bool true])∧Ya w1 w' v (Qh5 ⟨0,0,0,64,4,x,y,LO,pl⟩):=by
 refine QeE ⟨0,0,0,64,4,x,y,LO,pl⟩ (some ⟨g,0,none⟩) pp q cp w1 ?_ (by show(0:Int)≤0∧(0:Int)<256;decide) (by show(0:Int)≤0∧(0:Int)<65536;decide) (by show(0:Int)≤0∧(0:Int)<65536;decide) (by show(0:Int)≤64∧(64:Int)<256;decide) (by show(0:Int)≤4∧(4:Int)<256;decide) H0 H1 s1 (fun e=>by cases e) sp hpp rl ?_ ?_
 ·show hdR 0 LO.length pl.length=true;unfold hdR;rw [HL,show decide (20+((16:Nat):Int)+(pl.length:Int)≤65535)=true from decide_eq_true Om];decide
 ·show LO.length≤40;omega
 ·exact hl
theorem QmG(fr tn:Int×Int)(o:Opt)(pl:List Int)(pp:Option Addr)(cp:Nat)(w:World)(hf:fr∈Qx)(ht:tn∈Qx)(ho:ZY o=true)(sp:SlB w pp pl)(hpp:pp=none→cp=0)(hl:pl.length≤2000):
  Calls Tryz.prog 84 #[.agg (wrV fr tn o (.slice pp pl.length cp))] w fun e w'=> ∃v,e= .returned (.tuple #[v,.int .u8 0])∧Ya w w' v (Qh5 ⟨0,0,0,64,4,QP fr,QP tn,JD o,pl⟩):=by
 have HA1:=Xh (QfD hf);have HA2:=Xh (QfD ht);have HP6:=Xh (QmE o ho);have HSP:=Xh (fun W (hE:Ext w W)=>sp.ext hE);have HL16:=Xh (show(JD o).length=16 by rw [QgB ho];simp [Zy])
 have HBR:=Xh (show ByR (JD o)from by
  rw [QgB ho];have h:=(Zx o).1 ho
  exact((ByR.cons Om (ByR.cons Om (ByR.cons Om (ByR.cons Om (ByR.cons Om (ByR.cons Om ByR.nil)))))).app (Qk3 _ _)).app (Qk3 _ _))
 have HX:=Xh (Qpw hf);have HY:=Xh (Qpw ht);obtain⟨LO,eLO⟩: ∃L,JD o=L:=⟨_,rfl⟩;rw [eLO]at HP6 HL16 HBR⊢;obtain⟨x,ex⟩: ∃x,QP fr=x:=⟨_,rfl⟩;obtain⟨y,ey⟩: ∃y,QP tn=y:=⟨_,rfl⟩;rw [ex]at HA1 HX⊢;rw [ey]at HA2 HY⊢;have HPP:=Xh (And.intro hpp hl);have hbd: ∀W (g q:Nat),(Instr.build 132 #[(3,.int .u8 64),(4,.int .u8 4),(5,.int .u32 x),(6,.int .u32 y),(7,.slice (some ⟨g,0,none⟩) LO.length q),(8,.slice pp pl.length cp)]).run Tryz.prog W= .ok (.agg #[.int .u8 0,.int .u16 0,.int .u16 0,.int .u8 64,.int .u8 4,.int .u32 x,.int .u32 y,.slice (some ⟨g,0,none⟩) LO.length q,.slice pp pl.length cp]) W:=fun W g q=>by kernel_rfl
 clear hf ht ho sp hpp hl eLO ex ey;unfold opv at HP6;unfold wrV
 go_enter Tryz.func84,Tryz.ntmps84
 go_upto_region 1 with(fail)
 obtain⟨W0,hW⟩: ∃W0,w.alloc (.cells #[.int .u8 fr.1,.int .i64 fr.2,.int .u8 tn.1,.int .i64 tn.2,.int .u8 o.ki,.int .u8 o.bu,.int .i64 o.cu,.int .i64 o.pv,.int .i64 o.ge,.int .i64 o.ti,.slice pp pl.length cp] 77)=W0:=⟨_,rfl⟩;have g0:Ext w W0:=by rw [←hW];exact Ext.al (Ext.rf _) _
 have rz:RowZ W0 w.heap.size #[.int .u8 fr.1,.int .i64 fr.2,.int .u8 tn.1,.int .i64 tn.2,.int .u8 o.ki,.int .u8 o.bu,.int .i64 o.cu,.int .i64 o.pv,.int .i64 o.ge,.int .i64 o.ti,.slice pp pl.length cp]:=by rw [←hW];exact RowZ.new _ _ _
 rw [hW];clear hW;obtain⟨b1,e1⟩: ∃b,w.heap.size=b:=⟨_,rfl⟩;rw [e1]at rz⊢;have HB1:=Xh e1;have HRH:=Xh rz;have HE:=Xh g0;clear rz e1 g0;have c0:W0.cell? ⟨b1,0,none⟩=some (.int .u8 fr.1):=HRH.out.cell 0 (by show 0<11;omega);have c1:W0.cell? ⟨b1,1,none⟩=some (.int .i64 fr.2):=HRH.out.cell 1 (by show 1<11;omega)
 go_wp2_with (first|(go_at_call 154;first|((with_reducible refine(HA1.out _).mono ?_);rintro e wa ⟨rfl,ga⟩;have HRH:=Xh (HRH.out.ext ga);have HE:=Xh (HE.out.tr ga);have c2:wa.cell? ⟨b1,2,none⟩=some (.int .u8 tn.1):=HRH.out.cell 2 (by show 2<11;omega);have c3:wa.cell? ⟨b1,3,none⟩=some (.int .i64 tn.2):=HRH.out.cell 3 (by show 3<11;omega))|((with_reducible refine(HA2.out _).mono ?_);rintro e wb ⟨rfl,gb⟩;have HRH:=Xh (HRH.out.ext gb);have HE:=Xh (HE.out.tr gb);have c4:wb.cell? ⟨b1,4,none⟩=some (.int .u8 o.ki):=HRH.out.cell 4 (by show 4<11;omega);have c5:wb.cell? ⟨b1,5,none⟩=some (.int .u8 o.bu):=HRH.out.cell 5 (by show 5<11;omega);have c6:wb.cell? ⟨b1,6,none⟩=some (.int .i64 o.cu):=HRH.out.cell 6 (by show 6<11;omega);have c7:wb.cell? ⟨b1,7,none⟩=some (.int .i64 o.pv):=HRH.out.cell 7 (by show 7<11;omega);have c8:wb.cell? ⟨b1,8,none⟩=some (.int .i64 o.ge):=HRH.out.cell 8 (by show 8<11;omega);have c9:wb.cell? ⟨b1,9,none⟩=some (.int .i64 o.ti):=HRH.out.cell 9 (by show 9<11;omega)))|(go_at_call 151;(with_reducible refine(HP6.out _).mono ?_);rintro e wp ⟨vo,rfl,oo⟩;obtain⟨g,q,rfl,-,-,-,-,-⟩:=oo.own.at (by have:=HL16.out;omega);have s1:SlB wp (some ⟨g,0,none⟩) LO:=(by obtain⟨p,c,e,-,s⟩:=oo.sl;cases e;exact s);have HRH:=Xh (HRH.out.ext oo.ext);have HE:=Xh (HE.out.tr oo.ext);have HP2:=Xh (Qry x y LO pl g q pp cp wp HL16.out HX.out HY.out s1 HBR.out (HSP.out _ HE.out) HPP.out.1 HPP.out.2);clear s1 oo;have c10:wp.cell? ⟨b1,10,none⟩=some (.slice pp pl.length cp):=HRH.out.cell 10 (by show 10<11;omega))|(go_at_call 155;(with_reducible refine(HP2.out).mono ?_);rintro e w2 ⟨v2,rfl,o2⟩;have HO:=Xh o2;clear o2))
 refine bodyPost_ret (v:= .tuple #[v2,.int .u8 0]) (by simp [results,Tryz.results84,go_sem]) rfl ?_;exact⟨v2,rfl,HO.out.own.le HE.out.size,HE.out.tr HO.out.ext⟩
end
@[go_sem] theorem Qxe{a11 a12 a13 a14 a15 a16 a17:Value}{o m:Nat}:Fits o m #[a0,a1,a2,a3,a4,a5,a6,a7,a8,a9,a10,a11,a12,a13,a14,a15,a16,a17]=(o+m≤18):=by unfold Fits;rfl
@[go_sem] theorem Qup{a11 a12 a13 a14 a15 a16 a17:Value}:Qo #[a0,a1,a2,a3,a4,a5,a6,a7,a8,a9,a10,a11,a12,a13,a14,a15,a16,a17] 18=True:=by unfold Qo;exact eq_true rfl
@[go_sem] theorem Qxf{a11 a12 a13 a14 a15 a16 a17:Value}:QM #[a0,a1,a2,a3,a4,a5,a6,a7,a8,a9,a10,a11,a12,a13,a14,a15,a16,a17]=(a0.oneCell'=true∧a1.oneCell'=true∧a2.oneCell'=true∧a3.oneCell'=true∧a4.oneCell'=true∧a5.oneCell'=true∧a6.oneCell'=true∧a7.oneCell'=true∧a8.oneCell'=true∧a9.oneCell'=true∧a10.oneCell'=true∧a11.oneCell'=true∧a12.oneCell'=true∧a13.oneCell'=true∧a14.oneCell'=true∧a15.oneCell'=true∧a16.oneCell'=true∧a17.oneCell'=true):=by
 unfold QM;simp [and_assoc]
@[go_sem ↓ high] theorem QvH{a11 a12 a13 a14 a15 a16 a17:Value}:(Value.agg #[a0,a1,a2,a3,a4,a5,a6,a7,a8,a9,a10,a11,a12,a13,a14,a15,a16,a17]).cells=#[a0,a1,a2,a3,a4,a5,a6,a7,a8,a9,a10,a11,a12,a13,a14,a15,a16,a17]:=QF _
@[go_sem] theorem Qxg{a11 a12 a13 a14 a15 a16 a17:Value}:QA #[a0,a1,a2,a3,a4,a5,a6,a7,a8,a9,a10,a11,a12,a13,a14,a15,a16,a17] 0 18=#[a0,a1,a2,a3,a4,a5,a6,a7,a8,a9,a10,a11,a12,a13,a14,a15,a16,a17]:=Q9 _ _ rfl
theorem Qlo:(Tryz.prog.info? 98).map (·.size)=some 18:=Kr
theorem QmH{b o:Nat}(h:o+18≤(Qc w b).size):(Instr.loadAt 98 (.pointer (some ⟨b,o,none⟩))).run Tryz.prog w= .ok (.agg ((Qc w b).extract o (o+18))) w:=by
 have:=run_loadAt_mid w b o 98 ((Qc w b).extract o (o+18)).toList _ (QC w b o (o+18)) Tryz.underlying98 rfl (by rw [Qlo];simp;omega)
 rwa [Array.toArray_toList]at this
@[go_sem ↓ high] theorem Qcu(ρ:Operand→Value)(dst:Option Tmp)(x:Operand)(ty:TypeId)(pos:String)(after:Array Edge)(g:Option (Nat×Bool))(w:World)
  (hx:ρ x= .pointer (some ⟨Qb (ρ x),Qd (ρ x),none⟩))(h:Fits (Qd (ρ x)) 18 (Qc w (Qb (ρ x)))):
  (execOp ρ ⟨dst,.load 98 x,ty,pos,after,g⟩).run Tryz.prog w= .ok (.value (.agg (QA (Qc w (Qb (ρ x))) (Qd (ρ x)) 18))) w:=by
 unfold Fits at h;generalize hB:Qb (ρ x)=B at*;generalize hO:Qd (ρ x)=O at*;simp only [execOp,hx,Sem.run_bind,QmH h,Result.andThen_ok,Sem.run_pure,QA]
@[go_sem ↓ high] theorem QsX{l:Option Nat}{x:Operand}{ty:TypeId}{g:Option (Nat×Bool)}(w:World)
  (hx:ρ x= .pointer (some ⟨Qb (ρ x),Qd (ρ x),none⟩))(h:Fits (Qd (ρ x)) 18 (Qc w (Qb (ρ x)))):
  (Oper.semAt l ρ ⟨dst,.load 98 x,ty,pos,after,g⟩).run Tryz.prog w= .ok (.value (.agg (QA (Qc w (Qb (ρ x))) (Qd (ρ x)) 18))) w:=by rw [Oper.semAt_eq _ _ _ (fun c h=>by cases h)];exact Qcu ρ dst x ty pos after g w hx h
@[go_sem ↓ high] theorem Qe7(ρ:Operand→Value)(dst:Option Tmp)(x y:Operand)(ty:TypeId)(pos:String)(after:Array Edge)(g:Option (Nat×Bool))(w:World)
  (hx:ρ x= .pointer (some ⟨Qb (ρ x),Qd (ρ x),none⟩))(hy:ρ y= .agg (ρ y).cells)(hs:Qo (ρ y).cells 18)(h:Fits (Qd (ρ x)) 18 (Qc w (Qb (ρ x))))(hz:Qt w (Qb (ρ x))=(0,0))(h1:QM (ρ y).cells):
  (execOp ρ ⟨dst,.store 98 x y,ty,pos,after,g⟩).run Tryz.prog w= .ok .skip (Qe w (Qb (ρ x)) (Qd (ρ x)) (ρ y).cells):=by
 unfold Fits at h;unfold Qo at hs;generalize hB:Qb (ρ x)=B at*;generalize hO:Qd (ρ x)=O at*;generalize hC:(ρ y).cells=C at*;have hst:(Instr.storeAt 98 (.pointer (some ⟨B,O,none⟩)) (.agg C)).run Tryz.prog w= .ok () (Qe w B O C):=
  run_storeAt_mid w B O 98 C (fun j hj=>⟨by rw [Qa,Array.getElem?_eq_getElem Om];rfl,Ql hz _⟩) (by rw [Qlo,hs]) h1
 simp only [execOp,hx,hy,Sem.run_bind,hst,Result.andThen_ok,Sem.run_pure]
@[go_sem ↓ high] theorem Qrz{l:Option Nat}{x y:Operand}{ty:TypeId}{g:Option (Nat×Bool)}(w:World)
  (hx:ρ x= .pointer (some ⟨Qb (ρ x),Qd (ρ x),none⟩))(hy:ρ y= .agg (ρ y).cells)(hs:Qo (ρ y).cells 18)(h:Fits (Qd (ρ x)) 18 (Qc w (Qb (ρ x))))(hz:Qt w (Qb (ρ x))=(0,0))(h1:QM (ρ y).cells):
  (Oper.semAt l ρ ⟨dst,.store 98 x y,ty,pos,after,g⟩).run Tryz.prog w= .ok .skip (Qe w (Qb (ρ x)) (Qd (ρ x)) (ρ y).cells):=by rw [Oper.semAt_eq _ _ _ (fun c h=>by cases h)];exact Qe7 ρ dst x y ty pos after g w hx hy hs h hz h1
theorem QgC:(Tryz.prog.info? 42).map (·.size)=some 3:=Kr
theorem QmI{b o:Nat}(h:o+3≤(Qc w b).size):(Instr.loadAt 42 (.pointer (some ⟨b,o,none⟩))).run Tryz.prog w= .ok (.agg ((Qc w b).extract o (o+3))) w:=by
 have:=run_loadAt_mid w b o 42 ((Qc w b).extract o (o+3)).toList _ (QC w b o (o+3)) Tryz.underlying42 rfl (by rw [QgC];simp;omega)
 rwa [Array.toArray_toList]at this
theorem QjY{b o:Nat}(h:o+3≤(Qc w b).size):(loadVar 42 ⟨b,o,none⟩).run Tryz.prog w= .ok (.agg ((Qc w b).extract o (o+3))) w:=by
 have:=run_loadVar_mid w b o 42 ((Qc w b).extract o (o+3)).toList _ (QC w b o (o+3)) Tryz.underlying42 rfl (by rw [QgC];simp;omega)
 rwa [Array.toArray_toList]at this
@[go_sem ↓ high] theorem Qcv(ρ:Operand→Value)(dst:Option Tmp)(x:Operand)(ty:TypeId)(pos:String)(after:Array Edge)(g:Option (Nat×Bool))(w:World)
  (hx:ρ x= .pointer (some ⟨Qb (ρ x),Qd (ρ x),none⟩))(h:Fits (Qd (ρ x)) 3 (Qc w (Qb (ρ x)))):
  (execOp ρ ⟨dst,.load 42 x,ty,pos,after,g⟩).run Tryz.prog w= .ok (.value (.agg (QA (Qc w (Qb (ρ x))) (Qd (ρ x)) 3))) w:=by
 unfold Fits at h;generalize hB:Qb (ρ x)=B at*;generalize hO:Qd (ρ x)=O at*;simp only [execOp,hx,Sem.run_bind,QmI h,Result.andThen_ok,Sem.run_pure,QA]
@[go_sem ↓ high] theorem QsY{l:Option Nat}{x:Operand}{ty:TypeId}{g:Option (Nat×Bool)}(w:World)
  (hx:ρ x= .pointer (some ⟨Qb (ρ x),Qd (ρ x),none⟩))(h:Fits (Qd (ρ x)) 3 (Qc w (Qb (ρ x)))):
  (Oper.semAt l ρ ⟨dst,.load 42 x,ty,pos,after,g⟩).run Tryz.prog w= .ok (.value (.agg (QA (Qc w (Qb (ρ x))) (Qd (ρ x)) 3))) w:=by rw [Oper.semAt_eq _ _ _ (fun c h=>by cases h)];exact Qcv ρ dst x ty pos after g w hx h
@[go_sem ↓ high] theorem QbA(ρ:Operand→Value)(dst:Option Tmp)(x y:Operand)(ty:TypeId)(pos:String)(after:Array Edge)(g:Option (Nat×Bool))(w:World)
  (hx:ρ x= .pointer (some ⟨Qb (ρ x),Qd (ρ x),none⟩))(hy:ρ y= .agg (ρ y).cells)(hs:Qo (ρ y).cells 3)(h:Fits (Qd (ρ x)) 3 (Qc w (Qb (ρ x))))(hz:Qt w (Qb (ρ x))=(0,0))(h1:QM (ρ y).cells):
  (execOp ρ ⟨dst,.store 42 x y,ty,pos,after,g⟩).run Tryz.prog w= .ok .skip (Qe w (Qb (ρ x)) (Qd (ρ x)) (ρ y).cells):=by
 unfold Fits at h;unfold Qo at hs;generalize hB:Qb (ρ x)=B at*;generalize hO:Qd (ρ x)=O at*;generalize hC:(ρ y).cells=C at*;have hst:(Instr.storeAt 42 (.pointer (some ⟨B,O,none⟩)) (.agg C)).run Tryz.prog w= .ok () (Qe w B O C):=
  run_storeAt_mid w B O 42 C (fun j hj=>⟨by rw [Qa,Array.getElem?_eq_getElem Om];rfl,Ql hz _⟩) (by rw [QgC,hs]) h1
 simp only [execOp,hx,hy,Sem.run_bind,hst,Result.andThen_ok,Sem.run_pure]
@[go_sem ↓ high] theorem QrA{l:Option Nat}{x y:Operand}{ty:TypeId}{g:Option (Nat×Bool)}(w:World)
  (hx:ρ x= .pointer (some ⟨Qb (ρ x),Qd (ρ x),none⟩))(hy:ρ y= .agg (ρ y).cells)(hs:Qo (ρ y).cells 3)(h:Fits (Qd (ρ x)) 3 (Qc w (Qb (ρ x))))(hz:Qt w (Qb (ρ x))=(0,0))(h1:QM (ρ y).cells):
  (Oper.semAt l ρ ⟨dst,.store 42 x y,ty,pos,after,g⟩).run Tryz.prog w= .ok .skip (Qe w (Qb (ρ x)) (Qd (ρ x)) (ρ y).cells):=by rw [Oper.semAt_eq _ _ _ (fun c h=>by cases h)];exact QbA ρ dst x y ty pos after g w hx hy hs h hz h1
@[go_sem] theorem Qxh{o m:Nat}:Fits o m #[a0,a1,a2]=(o+m≤3):=by unfold Fits;rfl
@[go_sem] theorem Quq:Qo #[a0,a1,a2] 3=True:=by unfold Qo;exact eq_true rfl
@[go_sem] theorem Qxi:QM #[a0,a1,a2]=(a0.oneCell'=true∧a1.oneCell'=true∧a2.oneCell'=true):=by
 unfold QM;simp [and_assoc]
@[go_sem ↓ high] theorem QvI:(Value.agg #[a0,a1,a2]).cells=#[a0,a1,a2]:=QF _
@[go_sem] theorem Qxj:QA #[a0,a1,a2] 0 3=#[a0,a1,a2]:=rfl
theorem Jc(hs:(Qc w B).size=3)(hz:Qt w B=(0,0))(hcs:cs.size=3)(ho:QM cs){x y:Operand}{ty:TypeId}{g:Option (Nat×Bool)}
  (hx:ρ x= .pointer (some ⟨B,0,none⟩))(hy:ρ y= .agg cs):(execOp ρ ⟨dst,.store 42 x y,ty,pos,after,g⟩).run Tryz.prog w= .ok .skip (Qe w B 0 cs):=by
 have e:=QbA ρ dst x y ty pos after g w (by rw [hx];rfl) (by rw [hy];rfl) (by rw [hy];exact hcs) (by rw [hx];show Fits 0 3 (Qc w B);unfold Fits;omega) (by rw [hx];exact hz) (by rw [hy];exact ho);rw [e,hx,hy];rfl
theorem QgD:(Tryz.prog.info? 68).map (·.size)=some 6:=Kr
theorem QmJ{b o:Nat}(h:o+6≤(Qc w b).size):(Instr.loadAt 68 (.pointer (some ⟨b,o,none⟩))).run Tryz.prog w= .ok (.agg ((Qc w b).extract o (o+6))) w:=by
 have:=run_loadAt_mid w b o 68 ((Qc w b).extract o (o+6)).toList _ (QC w b o (o+6)) Tryz.underlying68 rfl (by rw [QgD];simp;omega)
 rwa [Array.toArray_toList]at this
theorem QjZ{b o:Nat}(h:o+6≤(Qc w b).size):(loadVar 68 ⟨b,o,none⟩).run Tryz.prog w= .ok (.agg ((Qc w b).extract o (o+6))) w:=by
 have:=run_loadVar_mid w b o 68 ((Qc w b).extract o (o+6)).toList _ (QC w b o (o+6)) Tryz.underlying68 rfl (by rw [QgD];simp;omega)
 rwa [Array.toArray_toList]at this
@[go_sem ↓ high] theorem QgE(ρ:Operand→Value)(dst:Option Tmp)(x:Operand)(ty:TypeId)(pos:String)(after:Array Edge)(g:Option (Nat×Bool))(w:World)
  (hx:ρ x= .pointer (some ⟨Qb (ρ x),Qd (ρ x),none⟩))(h:Fits (Qd (ρ x)) 6 (Qc w (Qb (ρ x)))):
  (execOp ρ ⟨dst,.load 68 x,ty,pos,after,g⟩).run Tryz.prog w= .ok (.value (.agg (QA (Qc w (Qb (ρ x))) (Qd (ρ x)) 6))) w:=by
 unfold Fits at h;generalize hB:Qb (ρ x)=B at*;generalize hO:Qd (ρ x)=O at*;simp only [execOp,hx,Sem.run_bind,QmJ h,Result.andThen_ok,Sem.run_pure,QA]
@[go_sem ↓ high] theorem QsZ{l:Option Nat}{x:Operand}{ty:TypeId}{g:Option (Nat×Bool)}(w:World)
  (hx:ρ x= .pointer (some ⟨Qb (ρ x),Qd (ρ x),none⟩))(h:Fits (Qd (ρ x)) 6 (Qc w (Qb (ρ x)))):
  (Oper.semAt l ρ ⟨dst,.load 68 x,ty,pos,after,g⟩).run Tryz.prog w= .ok (.value (.agg (QA (Qc w (Qb (ρ x))) (Qd (ρ x)) 6))) w:=by rw [Oper.semAt_eq _ _ _ (fun c h=>by cases h)];exact QgE ρ dst x ty pos after g w hx h
@[go_sem ↓ high] theorem QbB(ρ:Operand→Value)(dst:Option Tmp)(x y:Operand)(ty:TypeId)(pos:String)(after:Array Edge)(g:Option (Nat×Bool))(w:World)
  (hx:ρ x= .pointer (some ⟨Qb (ρ x),Qd (ρ x),none⟩))(hy:ρ y= .agg (ρ y).cells)(hs:Qo (ρ y).cells 6)(h:Fits (Qd (ρ x)) 6 (Qc w (Qb (ρ x))))(hz:Qt w (Qb (ρ x))=(0,0))(h1:QM (ρ y).cells):
  (execOp ρ ⟨dst,.store 68 x y,ty,pos,after,g⟩).run Tryz.prog w= .ok .skip (Qe w (Qb (ρ x)) (Qd (ρ x)) (ρ y).cells):=by
 unfold Fits at h;unfold Qo at hs;generalize hB:Qb (ρ x)=B at*;generalize hO:Qd (ρ x)=O at*;generalize hC:(ρ y).cells=C at*;have hst:(Instr.storeAt 68 (.pointer (some ⟨B,O,none⟩)) (.agg C)).run Tryz.prog w= .ok () (Qe w B O C):=
  run_storeAt_mid w B O 68 C (fun j hj=>⟨by rw [Qa,Array.getElem?_eq_getElem Om];rfl,Ql hz _⟩) (by rw [QgD,hs]) h1
 simp only [execOp,hx,hy,Sem.run_bind,hst,Result.andThen_ok,Sem.run_pure]
@[go_sem ↓ high] theorem QrB{l:Option Nat}{x y:Operand}{ty:TypeId}{g:Option (Nat×Bool)}(w:World)
  (hx:ρ x= .pointer (some ⟨Qb (ρ x),Qd (ρ x),none⟩))(hy:ρ y= .agg (ρ y).cells)(hs:Qo (ρ y).cells 6)(h:Fits (Qd (ρ x)) 6 (Qc w (Qb (ρ x))))(hz:Qt w (Qb (ρ x))=(0,0))(h1:QM (ρ y).cells):
  (Oper.semAt l ρ ⟨dst,.store 68 x y,ty,pos,after,g⟩).run Tryz.prog w= .ok .skip (Qe w (Qb (ρ x)) (Qd (ρ x)) (ρ y).cells):=by rw [Oper.semAt_eq _ _ _ (fun c h=>by cases h)];exact QbB ρ dst x y ty pos after g w hx hy hs h hz h1
theorem Qpx(hs:(Qc w B).size=6)(hz:Qt w B=(0,0))(hcs:cs.size=6)(ho:QM cs){x y:Operand}{ty:TypeId}{g:Option (Nat×Bool)}
  (hx:ρ x= .pointer (some ⟨B,0,none⟩))(hy:ρ y= .agg cs):(execOp ρ ⟨dst,.store 68 x y,ty,pos,after,g⟩).run Tryz.prog w= .ok .skip (Qe w B 0 cs):=by
 have e:=QbB ρ dst x y ty pos after g w (by rw [hx];rfl) (by rw [hy];rfl) (by rw [hy];exact hcs) (by rw [hx];show Fits 0 6 (Qc w B);unfold Fits;omega) (by rw [hx];exact hz) (by rw [hy];exact ho);rw [e,hx,hy];rfl
structure Cm where
 fr:Int×Int
 tn:Int×Int
 o:Opt
 ip:Option Addr
 iN:Nat
 ic:Nat
 pk:Pk
 bp:Option Addr
 bN:Nat
 bc:Nat
 now:Int
def cmv(c:Cm):Array Value:=#[.int .u8 c.fr.1,.int .i64 c.fr.2,.int .u8 c.tn.1,.int .i64 c.tn.2,.int .u8 c.o.ki,.int .u8 c.o.bu,.int .i64 c.o.cu,.int .i64 c.o.pv,.int .i64 c.o.ge,.int .i64 c.o.ti,.slice c.ip c.iN c.ic,.int .u32 c.pk.tu.a,.int .u32 c.pk.tu.b,.int .u16 c.pk.tu.c,.int .u16 c.pk.tu.d,.int .u8 c.pk.fl,.slice c.bp c.bN c.bc,.int .i64 c.now]
theorem QZ{c:Cm}(h:RowZ w B (cmv c))(j:Nat)(hj:j<(cmv c).size):w.cell? ⟨B,j,none⟩=some (cmv c)[j]:=h.cell j hj
structure Dn where
 dr:Int
 ep:Option Addr
 eN:Nat
 ec:Nat
 sp:Option Addr
 sN:Nat
 sc:Nat
def dnv(d:Dn):Array Value:=#[.int .u8 d.dr,.slice d.ep d.eN d.ec,.slice d.sp d.sN d.sc]
def dn0:Dn:=⟨0,none,0,0,none,0,0⟩
theorem J1{b:Nat}(h:Qc w b=cs)(h3:cs.size=3):(loadVar 42 ⟨b,0,none⟩).run Tryz.prog w= .ok (.agg cs) w:=by
 rw [QjY (by rw [h,h3];omega),h];rw [show cs.extract 0 (0+3)=cs by rw [Nat.zero_add,←h3];simp]
theorem Qxk{b:Nat}(h:Qc w b=cs)(h3:cs.size=6):(loadVar 68 ⟨b,0,none⟩).run Tryz.prog w= .ok (.agg cs) w:=by
 rw [QjZ (by rw [h,h3];omega),h];rw [show cs.extract 0 (0+6)=cs by rw [Nat.zero_add,←h3];simp]
theorem Qa5{C:Nat→Prop}{q:Option Addr}(h0:w.cell? ⟨B,i,none⟩=some (.pointer q))(hl:Lt B w)(hC: ¬C B){x:Operand}{ty:TypeId}{g:Option (Nat×Bool)}
  (hx:ρ x= .pointer (some ⟨B,i,none⟩)): ∀w',Mv C w w'→(execOp ρ ⟨dst,.load 110 x,ty,pos,after,g⟩).run Tryz.prog w'= .ok (.value (.pointer q)) w':=by
 intro w' hE;have h1:w'.cell? ⟨B,i,none⟩=some (.pointer q):=by rw [Qa,Qf (hE.same B hl hC),←Qa];exact h0
 simp only [execOp,hx];go_simp
theorem QeF{C:Nat→Prop}{a b c d:Value}(h0:w.cell? ⟨B,i,none⟩=some a)(h1:w.cell? ⟨B,i+1,none⟩=some b)(h2:w.cell? ⟨B,i+2,none⟩=some c)(h3:w.cell? ⟨B,i+3,none⟩=some d)(hl:Lt B w)(hC: ¬C B){x:Operand}{ty:TypeId}{g:Option (Nat×Bool)}
  (hx:ρ x= .pointer (some ⟨B,i,none⟩)): ∀w',Mv C w w'→(execOp ρ ⟨dst,.load 64 x,ty,pos,after,g⟩).run Tryz.prog w'= .ok (.value (.agg #[a,b,c,d])) w':=by
 intro w' hE;have e:=Qf (hE.same B hl hC);have h0:w'.cell? ⟨B,i,none⟩=some a:=by rw [Qa,e,←Qa];exact h0
 have h1:w'.cell? ⟨B,i+1,none⟩=some b:=by rw [Qa,e,←Qa];exact h1
 have h2:w'.cell? ⟨B,i+2,none⟩=some c:=by rw [Qa,e,←Qa];exact h2
 have h3:w'.cell? ⟨B,i+3,none⟩=some d:=by rw [Qa,e,←Qa];exact h3
 simp only [execOp,hx];go_simp
def Qpy(ops:Array Oper):Prop:=Region.noSelect ops=true∧Qp ops 10 [0,1,2,3,4,5,6,7,8] 0=true∧Region.ready .any ops (msk 10 511)= [9]∧Region.ready .any ops (msk 10 1023)= []
theorem Qj0:Qpy ((Tryz.f112.body.bind (Qg 1)).getD #[]):=⟨Kr,Kr,Kr,Kr⟩
theorem Qc0(q id:Int)(c:Cm)(b2 Ba:Nat)(w:World)(c2:w.cell? ⟨b2,0,none⟩=some (.pointer (some ⟨Ba,0,none⟩)))(l2:Lt b2 w)(ci:w.cell? ⟨Ba,0,none⟩=some (.int .i64 id))(li:Lt Ba w):
  Calls Tryz.prog 112 #[.int .u8 q,.agg (cmv c),.pointer (some ⟨b2,0,none⟩)] w fun e w'=>e= .returned (Ev.v ⟨q,id,c.pk.tu⟩)∧Ext w w':=by
 go_enter Tryz.func112,Tryz.ntmps112
 go_upto_region 1 with(fail)
 obtain⟨W0,hW⟩: ∃W0,(w.alloc (.cells (cmv c) 98)).alloc (.cells #[.int .u8 0,.int .i64 0,.int .u32 0,.int .u32 0,.int .u16 0,.int .u16 0] 68)=W0:=⟨_,rfl⟩;have E:Ext w W0:=by rw [←hW];exact Ext.al (Ext.al (Ext.rf _) _) _
 have r4:RowZ W0 w.heap.size (cmv c):=by rw [←hW];exact⟨by simp [go_sem],by simp [go_sem],by simp [go_sem,Lt]⟩
 have r5:RowZ W0 (w.heap.size+1) #[.int .u8 0,.int .i64 0,.int .u32 0,.int .u32 0,.int .u16 0,.int .u16 0]:=by rw [←hW];exact⟨by simp [go_sem],by simp [go_sem],by simp [go_sem,Lt]⟩
 rw [hW];clear hW;have c2:=(E.cell (p:=⟨b2,0,none⟩) l2).trans c2;have ci:=(E.cell (p:=⟨Ba,0,none⟩) li).trans ci;have l2':b2<w.heap.size:=l2;have li':Ba<w.heap.size:=li;obtain⟨b4,e4⟩: ∃b,w.heap.size=b:=⟨_,rfl⟩;rw [e4]at r4 r5 l2' li'⊢;obtain⟨b5,e5⟩: ∃b,b4+1=b:=⟨_,rfl⟩;rw [e5]at r5⊢;have l2:=Xl l2 E.size;have li:=Xl li E.size;refine Qy (fun _=>False) (fun q=>q=b5) 9 Kr ?_;obtain⟨WA,hW⟩: ∃Wdr,World.drew W0=Wdr:=⟨_,rfl⟩;have gD:Ext W0 WA:=by rw [←hW];exact Ext.dr (Ext.rf _)
 rw [hW];clear hW;have E:=E.tr gD;have r4:=r4.ext gD;have r5:=r5.ext gD;have c2:=(gD.cell (p:=⟨b2,0,none⟩) l2).trans c2;have ci:=(gD.cell (p:=⟨Ba,0,none⟩) li).trans ci;have l2:=Xl l2 gD.size;have li:=Xl li gD.size;refine Zi (N:=10) (R:=Qpy) (E:=((Tryz.f112.body.bind (Qg 1)).getD #[])) Kr Qj0 Kr fun hS=> ?_;have hT:=hS.2.1;refine tWk 1 (.int .u8 q) hS.1 hT rfl fun hT=> ?_;refine tW 3 (.pointer (some ⟨Ba,0,none⟩)) hS.1 hT rfl (Qa5 (by exact c2) l2 Om Kr) fun hT=> ?_;refine tWk 7 (.pointer (some ⟨Ba,0,none⟩)) hS.1 hT rfl fun hT=> ?_;refine tWk 15 (.pointer (some ⟨Ba,0,none⟩)) hS.1 hT rfl fun hT=> ?_;refine tW 31 (.int .i64 id) hS.1 hT rfl (QW ci li Om Kr) fun hT=> ?_;refine tWk 63 (.pointer (some ⟨b4,11,none⟩)) hS.1 hT rfl fun hT=> ?_;refine tWk 127 (.pointer (some ⟨b4,11,none⟩)) hS.1 hT rfl fun hT=> ?_;refine tW 255 (.agg #[.int .u32 c.pk.tu.a,.int .u32 c.pk.tu.b,.int .u16 c.pk.tu.c,.int .u16 c.pk.tu.d]) hS.1 hT rfl (QeF (QZ r4 11 (by show 11<18;omega)) (QZ r4 12 (by show 12<18;omega)) (QZ r4 13 (by show 13<18;omega)) (QZ r4 14 (by show 14<18;omega)) r4.l Om Kr) fun hT=> ?_;refine tWk 511 (.agg #[.int .u8 q,.int .i64 id,.int .u32 c.pk.tu.a,.int .u32 c.pk.tu.b,.int .u16 c.pk.tu.c,.int .u16 c.pk.tu.d]) hS.1 hT rfl fun hT=> ?_;refine Qs hS.2.2.1 (QD (m':=1023) rfl rfl Kr (Qpx (B:=b5) (cs:=#[.int .u8 q,.int .i64 id,.int .u32 c.pk.tu.a,.int .u32 c.pk.tu.b,.int .u16 c.pk.tu.c,.int .u16 c.pk.tu.d]) (by rw [r5.r];rfl) r5.z rfl (by simp [go_sem]) Kr Kr) ⟨.inl Dc,(Mv.sa _ rfl (Mv.refl _ _))⟩ ?_);obtain⟨WB1,hWB1⟩: ∃WB1,Qe WA b5 0 #[.int .u8 q,.int .i64 id,.int .u32 c.pk.tu.a,.int .u32 c.pk.tu.b,.int .u16 c.pk.tu.c,.int .u16 c.pk.tu.d]=WB1:=⟨_,rfl⟩;have gS:Mv (fun q=>q=b5) WA WB1:=by rw [←hWB1];exact Mv.sa _ rfl (Mv.refl _ _)
 have r5:RowZ WB1 b5 #[.int .u8 q,.int .i64 id,.int .u32 c.pk.tu.a,.int .u32 c.pk.tu.b,.int .u16 c.pk.tu.c,.int .u16 c.pk.tu.d]:=by rw [←hWB1];exact r5.all _ rfl
 have E:=Mv.ext_of E gS (fun q e=>by omega);rw [hWB1];clear hWB1;refine Q2 hS.2.2.2 ?_;clear hS hT;go_simp;go_wp2;exact bodyPost_ret (Zt rfl _ _ b5 rfl (Qxk r5.r rfl)) rfl ⟨rfl,E⟩
theorem Mv.trn{C D:Nat→Prop}{B:World}(h:Mv C w A)(m:Mv D A B)(hc: ∀k,D k→C k∨w.heap.size≤k):Mv C w B:=
 ⟨m.os.trans h.os,m.tape.trans h.tape,m.output.trans h.output,Xt h.size m.size,fun q hq hn=>(m.same q (Xl hq h.size) (fun d=>(hc q d).elim hn (fun g=>by omega))).trans (h.same q hq hn)⟩
theorem SlC.mvg{B:World}{C:Nat→Prop}{p:Option Addr}{xs:List Co}(h:SlC A p xs)(m:Mv C A B)(hb: ∀b off,p=some ⟨b,off,none⟩→ ¬C b):SlC B p xs:=fun j hk=>by
 obtain⟨b,off,h1,h2,c0,c1,c2,c3,c4,c5⟩:=h j hk;have e:=Qf (m.same b h2 (hb b off h1));simp only [Qa]at c0 c1 c2 c3 c4 c5⊢;exact⟨b,off,h1,Xl h2 m.size,by rw [e];exact c0,by rw [e];exact c1,by rw [e];exact c2,by rw [e];exact c3,by rw [e];exact c4,by rw [e];exact c5⟩
theorem SlE.mvg{B:World}{C:Nat→Prop}{p:Option Addr}{xs:List Ev}(h:SlE A p xs)(m:Mv C A B)(hb: ∀b off,p=some ⟨b,off,none⟩→ ¬C b):SlE B p xs:=fun j hk=>by
 obtain⟨b,off,h1,h2,c0,c1,c2,c3,c4,c5⟩:=h j hk;have e:=Qf (m.same b h2 (hb b off h1));simp only [Qa]at c0 c1 c2 c3 c4 c5⊢;exact⟨b,off,h1,Xl h2 m.size,by rw [e];exact c0,by rw [e];exact c1,by rw [e];exact c2,by rw [e];exact c3,by rw [e];exact c4,by rw [e];exact c5⟩
def ZZ(v:Value):Nat→Prop:=fun k=>v.ownBlock=some k
def OEv(w:World)(base:Nat)(v:Value)(es:List Ev):Prop:=w.ownsRow base 68 6 v es.length (flE es)
theorem OEv.ext{v:Value}{es:List Ev}(h:OEv w base v es)(e:Ext w w'):OEv w' base v es:=ZQ h e
theorem OEv.mv{v:Value}{es:List Ev}{C:Nat→Prop}(h:OEv w base v es)(m:Mv C w w')(hc: ∀q,base≤q→ ¬C q):OEv w' base v es:=Qw h m hc
theorem QeG{v:Value}{es:List Ev}(h:OEv w base v es): ∃p n c,v= .slice p n c:=by
 obtain⟨p,c,e,-,-⟩:=SlE.own h;exact⟨p,_,c,e⟩
theorem QeH{x:Ev}{p:Operand}{ty:TypeId}{g:Option (Nat×Bool)}(hx:ρ p=x.v)(w:World):
  (execOp ρ ⟨dst,.buildSlice 39 1 #[(0,p)],ty,pos,after,g⟩).run Tryz.prog w= .ok (.value (.slice (some ⟨w.heap.size,0,none⟩) 1 1)) (w.alloc (.cells x.cl.toArray 68)):=by
 simp only [execOp,List.map_toArray,List.map_cons,List.map_nil,hx];go_simp;rfl
theorem Qj1{C D:Nat→Prop}{r:Nat}{k m:Nat}{x y:Operand}{ty:TypeId}{a:Act}{A:Nat}{b1:List Ev}{x1:Ev}
  (hm:m|||(1<<<k)=m')(hi:ops[k]?=some ⟨dst,.call {callee:= .builtin .append,args:=#[x,y],argTypes:=#[39,39]},ty,pos,after,none⟩)(hx:a.eval x=v1)(hy:a.eval y= .slice (some ⟨A,0,none⟩) 1 1)(h1:OEv w base v1 b1)(hA: ∀j u,x1.cl[j]?=some u→w.cell? ⟨A,j,none⟩=some u)(hl:b1.length≤1000)(hC: ∀r,v1.ownBlock=some r→C r)(hCD: ∀k,C k→D k)(hb:base≤w.heap.size)
  (H: ∀v' w',OEv w' base v' (b1++ [x1])→w.grownBy w' v1.ownBlock→Mv (fun k=>v1.ownBlock=some k) w w'→QO C D r Tryz.prog .any ops Q fuel (msk N m') (a.put dst v') w'):QaL C D r Tryz.prog ops Q fuel N k m a w:=by
 obtain⟨i0,hi0,hz0,hz,hz2⟩:=info_parts QoB
 obtain⟨v',w',hr,ho,hg,-,-⟩:=run_append_own_at (P:=Tryz.prog) w base 39 ty 68 i0 (.agg #[.int .u8 0,.int .i64 0,.int .u32 0,.int .u32 0,.int .u16 0,.int .u16 0]) 6 32 Tryz.underlying39 hi0 hz0 hz hz2 rfl Dc v1 b1.length _ h1 ⟨A,0,none⟩ 1 1 x1.cl rfl (fun j u hu=>by
  have e:(⟨A,0,none⟩:Addr).add j=⟨A,j,none⟩:=by unfold Addr.add;split<;>simp_all
  rw [e];exact hA j u hu) (QoC x1) (by unfold maxLen;omega) Om hb
 have hm3:Mv (fun k=>v1.ownBlock=some k) w w':=Mv.of_grown hg fun r e=> .inl e;have hm2:Mv C w w':=hm3.mono fun k _ e=>hC k e;refine Zl (v:=v') hm hi rfl ?_ ⟨.inr hm2,hm2.mono fun k _ h=>hCD k h⟩ (H v' w' ?_ hg hm3)
 ·simp [execOp,resolve,invoke,builtin,hx,hy,hr,Result.andThen]
 ·unfold OEv;rw [List.length_append,QhE];exact ho
theorem Qc1{v:Value}(hc:w.cell? ⟨B,i,none⟩=some u)(hf:w.frozen? ⟨B,i,none⟩=false)(hv: ∃a m c,v= .slice a m c){x y:Operand}{ty:TypeId}{g:Option (Nat×Bool)}
  (hx:ρ x= .pointer (some ⟨B,i,none⟩))(hy:ρ y=v):(execOp ρ ⟨dst,.store 25 x y,ty,pos,after,g⟩).run Tryz.prog w= .ok .skip (w.setCell ⟨B,i,none⟩ v):=by
 obtain⟨a,m,c,rfl⟩:=hv;simp only [execOp,hx,hy];go_simp
theorem Qc2{v:Value}(hc:w.cell? ⟨B,i,none⟩=some u)(hf:w.frozen? ⟨B,i,none⟩=false)(hv: ∃a m c,v= .slice a m c){x y:Operand}{ty:TypeId}{g:Option (Nat×Bool)}
  (hx:ρ x= .pointer (some ⟨B,i,none⟩))(hy:ρ y=v):(execOp ρ ⟨dst,.store 39 x y,ty,pos,after,g⟩).run Tryz.prog w= .ok .skip (w.setCell ⟨B,i,none⟩ v):=by
 obtain⟨a,m,c,rfl⟩:=hv;simp only [execOp,hx,hy];go_simp
theorem Qbk{C:Nat→Prop}{a:Option Addr}{m c:Nat}(h0:w.cell? ⟨B,i,none⟩=some (.slice a m c))(hl:Lt B w)(hC: ¬C B){q:Operand}{ty:TypeId}{g:Option (Nat×Bool)}
  (hx:ρ q= .pointer (some ⟨B,i,none⟩)): ∀w',Mv C w w'→(execOp ρ ⟨dst,.load 39 q,ty,pos,after,g⟩).run Tryz.prog w'= .ok (.value (.slice a m c)) w':=by
 intro w' hE;have h1:w'.cell? ⟨B,i,none⟩=some (.slice a m c):=by rw [Qa,Qf (hE.same B hl hC),←Qa];exact h0
 simp only [execOp,hx];go_simp
theorem Qj2{C:Nat→Prop}{f:Nat}{x y:Array Value}(h0:w.cell? ⟨B,i,none⟩=some (.func (.func f) x y))(hl:Lt B w)(hC: ¬C B){q:Operand}{ty:TypeId}{g:Option (Nat×Bool)}
  (hx:ρ q= .pointer (some ⟨B,i,none⟩)): ∀w',Mv C w w'→(execOp ρ ⟨dst,.load 168 q,ty,pos,after,g⟩).run Tryz.prog w'= .ok (.value (.func (.func f) x y)) w':=by
 intro w' hE;have h1:w'.cell? ⟨B,i,none⟩=some (.func (.func f) x y):=by rw [Qa,Qf (hE.same B hl hC),←Qa];exact h0
 simp only [execOp,hx];go_simp
theorem Qc3{C:Nat→Prop}{c:Cm}(h0:RowZ w B (cmv c))(hC: ¬C B){q:Operand}{ty:TypeId}{g:Option (Nat×Bool)}
  (hx:ρ q= .pointer (some ⟨B,0,none⟩)): ∀w',Mv C w w'→(execOp ρ ⟨dst,.load 98 q,ty,pos,after,g⟩).run Tryz.prog w'= .ok (.value (.agg (cmv c))) w':=by
 intro w' hE;have h1:=h0.mv hE hC;have e:=Qcu ρ dst q ty pos after g w' (by rw [hx];rfl) (by rw [hx];show Fits 0 18 (Qc w' B);rw [h1.r];unfold Fits;exact Nat.le_refl _);rw [e,hx];show Result.ok (Next.value (Value.agg (QA (Qc w' B) 0 18))) w'=_;rw [h1.r,Q9 _ 18 rfl]
def SlBB(w:World)(p:Option Addr)(bss:List (List Int)):Prop:= ∀k,(h:k<bss.length)→ ∃b off q c,p=some ⟨b,off,none⟩∧b<w.heap.size∧w.cell? ⟨b,off+k,none⟩=some (.slice q bss[k].length c)∧SlB w q bss[k]
theorem SlBB.nil(w:World)(p:Option Addr):SlBB w p []:=fun k hk=>by simp at hk
def Qc4(w:World)(Ba:Nat)(a:Ag)(dr:Int)(xs:List Co)(es:List Ev)(ss:List (List Int))(e:Ending)(w':World):Prop:=
 ∃p c ep ec sp sc,e= .returned (.agg (dnv ⟨dr,ep,es.length,ec,sp,ss.length,sc⟩))∧RowZ w' Ba (agv {a with p:=p,xs:=xs,c:=c})∧SlC w' p xs∧SlE w' ep es∧SlBB w' sp ss∧Mv (fun q=>q=Ba) w w'∧
  (∀b off,p=some ⟨b,off,none⟩→w.heap.size≤b∨p=a.p)∧(∀b off,ep=some ⟨b,off,none⟩→w.heap.size≤b)∧(∀b off,sp=some ⟨b,off,none⟩→w.heap.size≤b)
theorem Qcw{W5:World}{Ba b4 lo:Nat}{a:Ag}{dr:Int}{xs:List Co}{es:List Ev}{ss:List (List Int)}{p ep sp:Option Addr}{c ec sc:Nat}(hW:Qe W b4 0 cs=W5)(E:Mv (fun q=>q=Ba) w W)(ra:RowZ W Ba (agv {a with p:=p,xs:=xs,c:=c}))(sn:SlC W p xs)(se:SlE W ep es)(ss':SlBB W5 sp ss)
  (h4:w.heap.size≤b4)(h5:b4<lo)(hBa:Ba<w.heap.size)(hp:(∀b off,p=some ⟨b,off,none⟩→lo≤b)∨p=a.p∧ ∀b off,p=some ⟨b,off,none⟩→b<w.heap.size)(he: ∀b off,ep=some ⟨b,off,none⟩→lo≤b)(hs: ∀b off,sp=some ⟨b,off,none⟩→lo≤b):
  Qc4 w Ba a dr xs es ss (.returned (.agg (dnv ⟨dr,ep,es.length,ec,sp,ss.length,sc⟩))) W5:=by
 have m:Mv (fun q=>q=b4) W W5:=by rw [←hW];exact Mv.sa _ rfl (Mv.refl _ _)
 refine⟨p,c,ep,ec,sp,sc,rfl,ra.mv m Om,sn.mvg m ?_,se.mvg m (fun b off e f=>by have:=he b off e;omega),ss',E.trn m (fun k e=> .inr Om),?_,fun b off e=>by have:=he b off e;omega,fun b off e=>by have:=hs b off e;omega⟩
 ·rintro b off e rfl;rcases hp with hp|⟨-,hp⟩
  ·have:=hp _ _ e;omega
  ·have:=hp _ _ e;omega
 ·intro b off e;rcases hp with hp|⟨h,-⟩
  ·exact .inl (by have:=hp b off e;omega)
  ·exact .inr h
structure Qs0(w:World)(a:Ag)(Ba b2 bc:Nat):Prop where
 ra:RowZ w Ba (agv a)
 rb:RowZ w b2 #[.pointer (some ⟨Ba,0,none⟩)]
 rc:RowZ w bc #[.func (.func 112) #[] #[.pointer (some ⟨b2,0,none⟩)]]
 s:SlC w a.p a.xs
 n:Ba≠b2∧Ba≠bc
def Qs1(lo:Nat)(xs:List Co)(n:Int)(v:Value)(w':World):Prop:= ∃p c,v= .tuple #[.slice p xs.length c,.int .i64 n]∧SlC w' p xs∧ ∀b off,p=some ⟨b,off,none⟩→lo≤b
theorem Qxl(lo:Nat)(t:Tu)(now:Int)(p:Option Addr)(xs:List Co)(c:Nat)(w:World)(hs:SlC w p xs)(hl:xs.length≤1000)(hlo:lo≤w.heap.size):Calls Tryz.prog 119 #[.slice p xs.length c,.agg #[.int .u32 t.a,.int .u32 t.b,.int .u16 t.c,.int .u16 t.d],.int .i64 now] w fun e w'=> ∃v,e= .returned v∧Qs1 lo (Qav xs t now) (QbM xs t now) v w'∧Ext w w':=
 (QqF t now p xs c w hs hl).mono fun e w' ⟨v,h1,h2,h3⟩=>⟨_,h1,(by obtain⟨q,d,e,-,s⟩:=SlC.own h2;exact⟨q,d,by rw [e],s,fun b off e2=>Xt hlo (Qh h2 b (by rw [e,e2];rfl))⟩),h3⟩
def Qpz(ops:Array Oper):Prop:=Region.noSelect ops=true∧Qp ops 17 [0,1,2,3,4,5,6,7,8,9] 0=true∧Region.ready .any ops (msk 17 1023)= [10]∧Qp ops 17 [11,12,13,14,15] 2047=true∧Region.ready .any ops (msk 17 65535)= [16]∧Region.ready .any ops (msk 17 131071)= []∧lateB .any ops 16 4=true
theorem Qj3:Qpz ((Tryz.f118.body.bind (Qg 1)).getD #[]):=⟨Kr,Kr,Kr,Kr,Kr,Kr,Kr⟩
def QpA(ops:Array Oper):Prop:=Region.noSelect ops=true∧Qp ops 9 [0,1,2,3] 0=true∧Region.ready .any ops (msk 9 15)= [4]∧Region.ready .any ops (msk 9 31)= [5]∧Region.ready .any ops (msk 9 63)= [6]∧Qp ops 9 [7] 127=true∧Region.ready .any ops (msk 9 255)= [8]∧Region.ready .any ops (msk 9 511)= []∧lateB .any ops 8 1=true
theorem Qj4:QpA ((Tryz.f118.body.bind (Qg 2)).getD #[]):=⟨Kr,Kr,Kr,Kr,Kr,Kr,Kr,Kr,Kr⟩
theorem Jv(a:Ag)(c:Cm)(Ba b2 bc:Nat)(w:World)(h:Qs0 w a Ba b2 bc)(hl:a.xs.length≤1000):
  Calls Tryz.prog 118 #[.agg (cmv c),.pointer (some ⟨b2,0,none⟩),.pointer (some ⟨bc,0,none⟩)] w (Qc4 w Ba a 0 (Qav a.xs c.pk.tu c.now) [⟨1,a.id,c.pk.tu⟩] []):=by
 obtain⟨ra,rb,rc,hs,hn1,hn2⟩:=h;have lA:Ba<w.heap.size:=ra.l;have lB:b2<w.heap.size:=rb.l;have lC:bc<w.heap.size:=rc.l
 go_enter Tryz.func118,Tryz.ntmps118
 go_upto_region 1 with(fail)
 obtain⟨W0,hW⟩: ∃W0,(w.alloc (.cells (cmv c) 98)).alloc (.cells #[.int .u8 0,.slice none 0 0,.slice none 0 0] 42)=W0:=⟨_,rfl⟩;have E':Ext w W0:=by rw [←hW];exact Ext.al (Ext.al (Ext.rf _) _) _
 have r3:RowZ W0 w.heap.size (cmv c):=by rw [←hW];exact⟨by simp [go_sem],by simp [go_sem],by simp [go_sem,Lt]⟩
 have r4:RowZ W0 (w.heap.size+1) #[.int .u8 0,.slice none 0 0,.slice none 0 0]:=by rw [←hW];exact⟨by simp [go_sem],by simp [go_sem],by simp [go_sem,Lt]⟩
 have hsz:W0.heap.size=w.heap.size+2:=by rw [←hW];simp
 rw [hW];clear hW;have ra:=ra.ext E';have rb:=rb.ext E';have rc:=rc.ext E';obtain⟨b3,e3⟩: ∃b,w.heap.size=b:=⟨_,rfl⟩;rw [e3]at r3 r4 hsz lA lB lC⊢;obtain⟨b4,e4⟩: ∃b,b3+1=b:=⟨_,rfl⟩;rw [e4]at r4⊢;obtain⟨lo,hlo⟩: ∃lo,b4+1=lo:=⟨_,rfl⟩;have E:Mv (fun q=>q=Ba) w W0:=Mv.of_ext E';have hnb: ¬b2=Ba:=fun e=>hn1 e.symm;have hnc: ¬bc=Ba:=fun e=>hn2 e.symm;have hn3: ¬b3=Ba:=by omega
 have hn4: ¬b4=Ba:=by omega
 refine Qy (fun _=>False) (fun q=>q=Ba) 16 Kr ?_;have hDb: ¬(fun q=>q=Ba) b2:=hnb;have hD3: ¬(fun q=>q=Ba) b3:=hn3;obtain⟨WA,hW⟩: ∃Wdr,World.drew W0=Wdr:=⟨_,rfl⟩;have gD:Ext W0 WA:=by rw [←hW];exact Ext.dr (Ext.rf _)
 rw [hW];clear hW;have E:=E.tr gD;have ra:=ra.ext gD;have rb:=rb.ext gD;have rc:=rc.ext gD;have r3:=r3.ext gD;have r4:=r4.ext gD;have E':=E'.tr gD;refine Zi (N:=17) (R:=Qpz) (E:=((Tryz.f118.body.bind (Qg 1)).getD #[])) Kr Qj3 Kr fun hS=> ?_;have hT:=hS.2.1;refine tW 1 (.pointer (some ⟨Ba,0,none⟩)) hS.1 hT rfl (Qa5 (rb.cell 0 Nat.zero_lt_one) rb.l hDb Kr) fun hT=> ?_;refine tW 3 (.pointer (some ⟨Ba,0,none⟩)) hS.1 hT rfl (Qa5 (rb.cell 0 Nat.zero_lt_one) rb.l hDb Kr) fun hT=> ?_;refine tWk 7 (.pointer (some ⟨Ba,0,none⟩)) hS.1 hT rfl fun hT=> ?_;refine tWk 15 (.pointer (some ⟨Ba,66,none⟩)) hS.1 hT rfl fun hT=> ?_;refine ZA (N:=17) (k:=4) (m':=31) (v:= .slice a.p a.xs.length a.c) hS.1 hT hS.2.2.2.2.2.2 rfl rfl Kr (Qan (C:=fun _=>False) (by rw [Qa,ra.r,Qu]) ra.l (fun h=>h) Kr) fun hT=> ?_;refine tWk 63 (.pointer (some ⟨b3,11,none⟩)) hS.1 hT rfl fun hT=> ?_;refine tWk 127 (.pointer (some ⟨b3,11,none⟩)) hS.1 hT rfl fun hT=> ?_;refine tW 255 (.agg #[.int .u32 c.pk.tu.a,.int .u32 c.pk.tu.b,.int .u16 c.pk.tu.c,.int .u16 c.pk.tu.d]) hS.1 hT rfl (QeF (QZ r3 11 (by show 11<18;omega)) (QZ r3 12 (by show 12<18;omega)) (QZ r3 13 (by show 13<18;omega)) (QZ r3 14 (by show 14<18;omega)) r3.l hD3 Kr) fun hT=> ?_;refine tWk 511 (.pointer (some ⟨b3,17,none⟩)) hS.1 hT rfl fun hT=> ?_;refine tW 1023 (.int .i64 c.now) hS.1 hT rfl (QW (QZ r3 17 (by show 17<18;omega)) r3.l hD3 Kr) fun hT=> ?_;refine sV 2047 (Qs1 lo (Qav a.xs c.pk.tu c.now) (QbM a.xs c.pk.tu c.now)) hS.2.2.1 rfl (Qxl lo c.pk.tu c.now a.p a.xs a.c WA (hs.ext (by first|exact E'|exact E'.tr gWB1)) hl (by have:=E.size;have:=r4.l;unfold Lt at this;omega)) ?_;rintro _ WB1 gWB1 ⟨pn,cn,rfl,sn,nn⟩;have E:=E.tr gWB1;have ra:=ra.ext gWB1;have rb:=rb.ext gWB1;have rc:=rc.ext gWB1;have r3:=r3.ext gWB1;have r4:=r4.ext gWB1;have hT:=hS.2.2.2.1;refine tWk 4095 (.tuple #[.slice pn (Qav a.xs c.pk.tu c.now).length cn,.int .i64 (QbM a.xs c.pk.tu c.now)]) hS.1 hT rfl fun hT=> ?_;refine tWk 8191 (.slice pn (Qav a.xs c.pk.tu c.now).length cn) hS.1 hT rfl fun hT=> ?_;refine tWk 16383 (.int .i64 (QbM a.xs c.pk.tu c.now)) hS.1 hT rfl fun hT=> ?_;refine tWk 32767 (.pointer (some ⟨Ba,0,none⟩)) hS.1 hT rfl fun hT=> ?_;refine tWk 65535 (.pointer (some ⟨Ba,66,none⟩)) hS.1 hT rfl fun hT=> ?_;refine Qs hS.2.2.2.2.1 (QD (m':=131071) rfl rfl Kr (Qc1 (B:=Ba) (i:=66) (v:= .slice pn (Qav a.xs c.pk.tu c.now).length cn) (u:= .slice a.p a.xs.length a.c) (by rw [Qa,ra.r,Qu]) (ra.frz 66) ⟨_,_,_,rfl⟩ Kr Kr) ⟨.inl Dc,(Mv.st _ (.inl rfl) (Mv.refl _ _))⟩ ?_);obtain⟨WB2,hWB2⟩: ∃WB2,World.setCell WB1 ⟨Ba,66,none⟩ (.slice pn (Qav a.xs c.pk.tu c.now).length cn)=WB2:=⟨_,rfl⟩;have gS:Mv (fun q=>q=Ba) WB1 WB2:=by rw [←hWB2];exact Mv.st _ (.inl rfl) (Mv.refl _ _)
 have ra:RowZ WB2 Ba (agv {a with p:=pn,xs:=(Qav a.xs c.pk.tu c.now),c:=cn}):=by rw [←hWB2];exact⟨JW (a:=a) pn (Qav a.xs c.pk.tu c.now) cn ra.r,by rw [QR];exact ra.z,by rw [Zg];exact ra.l⟩
 have E:=E.trans gS;have rb:=rb.mv gS hnb;have rc:=rc.mv gS hnc;have r3:=r3.mv gS hn3;have r4:=r4.mv gS hn4;have sn:=sn.mvo gS (fun b off e=>by have:=nn b off e;omega);rw [hWB2];clear hWB2;refine Q2 hS.2.2.2.2.2.1 ?_;clear hS hT;go_simp;obtain⟨a1,ea⟩: ∃a1,({a with p:=pn,xs:=(Qav a.xs c.pk.tu c.now),c:=cn}:Ag)=a1:=⟨_,rfl⟩;have ra:RowZ WB2 Ba (agv a1):=by rw [←ea];exact ra
 have eid:a1.id=a.id:=by rw [←ea]
 have HEA:=Xh ea;clear ea
 go_upto_region 2 with(fail)
 have oe:OEv WB2 lo (.slice none 0 0) []:=World.ownsRow_nil WB2 lo 68 6;have hbs:lo≤WB2.heap.size:=by have:=r4.l;unfold Lt at this;omega
 have hge:=Qh oe;have hCa: ¬ZZ (.slice none 0 0) Ba:=fun e=>by have:=hge _ e;omega
 have hCb: ¬ZZ (.slice none 0 0) b2:=fun e=>by have:=hge _ e;omega
 have hCc: ¬ZZ (.slice none 0 0) bc:=fun e=>by have:=hge _ e;omega
 have hC3: ¬ZZ (.slice none 0 0) b3:=fun e=>by have:=hge _ e;omega
 have hC4: ¬ZZ (.slice none 0 0) b4:=fun e=>by have:=hge _ e;omega
 have hCE: ∀q,ZZ (.slice none 0 0) q→w.heap.size≤q:=fun q e=>by have:=hge _ e;omega
 have hDc: ¬(fun q=>q=b4∨ZZ (.slice none 0 0) q) bc:=fun e=>e.elim Om hCc;have hD3: ¬(fun q=>q=b4∨ZZ (.slice none 0 0) q) b3:=fun e=>e.elim Om hC3;have hle:([]:List Ev).length≤1000:=by decide
 have hnk: ∀b off,pn=some ⟨b,off,none⟩→ ¬ZZ (.slice none 0 0) b:=fun b off _ f=>by cases f
 refine Qy (ZZ (.slice none 0 0)) (fun q=>q=b4∨ZZ (.slice none 0 0) q) 8 Kr ?_;obtain⟨WC,hW⟩: ∃Wdr,World.drew WB2=Wdr:=⟨_,rfl⟩;have gD:Ext WB2 WC:=by rw [←hW];exact Ext.dr (Ext.rf _)
 rw [hW];clear hW;have E:=E.tr gD;have ra:=ra.ext gD;have rb:=rb.ext gD;have rc:=rc.ext gD;have r3:=r3.ext gD;have r4:=r4.ext gD;have oe:=oe.ext gD;have sn:=sn.ext gD;have hbs:=Xt hbs gD.size;refine Zi (N:=9) (R:=QpA) (E:=((Tryz.f118.body.bind (Qg 2)).getD #[])) Kr Qj4 Kr fun hS=> ?_;have hT:=hS.2.1;refine tWk 1 (.pointer (some ⟨b4,1,none⟩)) hS.1 hT rfl fun hT=> ?_;refine ZA (N:=9) (k:=1) (m':=3) (v:= .slice none 0 0) hS.1 hT hS.2.2.2.2.2.2.2.2 rfl rfl Kr (Qbk (C:=ZZ (.slice none 0 0)) (r4.cell 1 (by show 1<3;omega)) r4.l hC4 Kr) fun hT=> ?_;refine tW 7 (.func (.func 112) #[] #[.pointer (some ⟨b2,0,none⟩)]) hS.1 hT rfl (Qj2 (rc.cell 0 Nat.zero_lt_one) rc.l hDc Kr) fun hT=> ?_;refine tW 15 (.agg (cmv c)) hS.1 hT rfl (Qc3 r3 hD3 Kr) fun hT=> ?_;refine sV 31 (fun v _=>v=Ev.v ⟨1,a1.id,c.pk.tu⟩) hS.2.2.1 rfl (Zz (Qc0 1 a1.id c b2 Ba WC (rb.cell 0 Nat.zero_lt_one) rb.l (Yb ra.r) ra.l)) ?_;rintro _ WD1 gWD1 rfl;have E:=E.tr gWD1;have ra:=ra.ext gWD1;have rb:=rb.ext gWD1;have rc:=rc.ext gWD1;have r3:=r3.ext gWD1;have r4:=r4.ext gWD1;have oe:=oe.ext gWD1;have sn:=sn.ext gWD1;have hbs:=Xt hbs gWD1.size;refine Qs hS.2.2.2.1 (Zl (m':=63) rfl rfl Kr (QeH (x:=⟨1,a1.id,c.pk.tu⟩) Kr WD1) ⟨.inr (Mv.of_ext (Ext.al (Ext.rf _) _)),(Mv.of_ext (Ext.al (Ext.rf _) _))⟩ ?_);obtain⟨WD2,hWD2⟩: ∃WD2,WD1.alloc (.cells (Ev.cl ⟨1,a1.id,c.pk.tu⟩).toArray 68)=WD2:=⟨_,rfl⟩;have hbk:=World.alloc_heap_new WD1 (.cells (Ev.cl ⟨1,a1.id,c.pk.tu⟩).toArray 68);have gWD2:Ext WD1 WD2:=by rw [←hWD2];exact Ext.al (Ext.rf _) _
 rw [hWD2]at hbk⊢;clear hWD2;have E:=E.tr gWD2;have ra:=ra.ext gWD2;have rb:=rb.ext gWD2;have rc:=rc.ext gWD2;have r3:=r3.ext gWD2;have r4:=r4.ext gWD2;have oe:=oe.ext gWD2;have sn:=sn.ext gWD2;have hA: ∀j u,(Ev.cl ⟨1,a1.id,c.pk.tu⟩)[j]?=some u→WD2.cell? ⟨WD1.heap.size,j,none⟩=some u:=fun j u hu=>by simp only [World.cell?,hbk];simpa using hu
 have hbs:=Xt hbs gWD2.size;refine Qs hS.2.2.2.2.1 (Qj1 (m':=127) (base:=lo) (v1:= .slice none 0 0) (b1:=([]:List Ev)) (x1:=⟨1,a1.id,c.pk.tu⟩) rfl rfl Kr Kr oe hA hle (fun r e=>e) (fun k h=> .inr h) hbs ?_);intro v' WD3 oe hg' hm';have E:=E.trn hm' (fun q e=> .inr (hCE q e));have ra:=ra.mv hm' hCa;have rb:=rb.mv hm' hCb;have rc:=rc.mv hm' hCc;have r3:=r3.mv hm' hC3;have r4:=r4.mv hm' hC4;have hbs:=Xt hbs hm'.size;have sn:=sn.mvg hm' (fun b off e f=>by first|exact hnk b off e f|(have:=nn b off e;omega));have gWD3:=Ext.rf WD3;have E:=E.tr gWD3;have ra:=ra.ext gWD3;have rb:=rb.ext gWD3;have rc:=rc.ext gWD3;have r3:=r3.ext gWD3;have r4:=r4.ext gWD3;have oe:=oe.ext gWD3;have sn:=sn.ext gWD3;have hT:=hS.2.2.2.2.2.1;refine tWk 255 (.pointer (some ⟨b4,1,none⟩)) hS.1 hT rfl fun hT=> ?_;refine Qs hS.2.2.2.2.2.2.1 (QD (m':=511) rfl rfl Kr (Qc2 (B:=b4) (i:=1) (v:=v') (u:= .slice none 0 0) (r4.cell 1 (by show 1<3;omega)) (r4.frz 1) (QeG oe) Kr Kr) ⟨.inl Dc,(Mv.st _ (.inl (.inl rfl)) (Mv.refl _ _))⟩ ?_);obtain⟨WD4,hWD4⟩: ∃WD4,World.setCell WD3 ⟨b4,1,none⟩ v'=WD4:=⟨_,rfl⟩;have gS:Mv (fun q=>q=b4) WD3 WD4:=by rw [←hWD4];exact Mv.st _ (.inl rfl) (Mv.refl _ _)
 have r4:RowZ WD4 b4 #[.int .u8 0,v',.slice none 0 0]:=by rw [←hWD4];exact r4.set 1 _
 have E:=E.trn gS (fun q e=> .inr Om);have ra:=ra.mv gS Om;have rb:=rb.mv gS Om;have rc:=rc.mv gS Om;have r3:=r3.mv gS Om;have oe:=oe.mv gS (fun q hq e=>by omega);have hbs:=Xt hbs gS.size;have sn:=sn.mvg gS (fun b off e f=>by first|exact hnk b off e f|(have:=nn b off e;omega));rw [hWD4];clear hWD4;refine Q2 hS.2.2.2.2.2.2.2.1 ?_;clear hS hT;obtain⟨ep,ec,rfl,-,se⟩:=SlE.own oe;have hnE:=Qh oe;have e1:(([]:List Ev)++ [(⟨1,a1.id,c.pk.tu⟩:Ev)]).length=1:=rfl;rw [e1]at r4 hnE⊢;clear e1;have HC:=Xh (show Mv (fun q=>q=Ba) w WD4∧RowZ WD4 Ba (agv a1)∧SlC WD4 pn (Qav a.xs c.pk.tu c.now)∧SlE WD4 ep [⟨1,a1.id,c.pk.tu⟩]∧(∀b off,ep=some ⟨b,off,none⟩→lo≤b)from⟨E,ra,sn,se,fun b off e=>by have:=hnE b (by rw [e];rfl);omega⟩);clear E ra sn se rb rc r3 oe hnE;have HR4:=Xh r4;have hq4:Qc WD4 b4=#[.int .u8 0,.slice ep 1 ec,.slice none 0 0]:=r4.r;have hf4:Qt WD4 b4=(0,0):=r4.z;have hz4:Lt b4 WD4:=r4.l;go_wp2;obtain⟨W5,h5⟩: ∃W5,Qe WD4 b4 0 #[.int .u8 0,.slice ep 1 ec,.slice none 0 0]=W5:=⟨_,rfl⟩;have q5:Qc W5 b4=#[.int .u8 0,.slice ep 1 ec,.slice none 0 0]:=by rw [←h5];exact Qq _ _ _ (by rw [hq4])
 rw [h5];obtain⟨E,ra,sn,se,hep⟩:=HC.out;rw [eid]at se;refine bodyPost_ret (Zt rfl _ _ b4 rfl (J1 q5 rfl)) rfl (Qcw (lo:=lo) (a:=a) (c:=cn) h5 E (by rw [HEA.out];exact ra) sn se (SlBB.nil _ none) Om Om Om (.inl nn) hep (fun b off e=>by cases e))
theorem Qj5(t:Pk)(p:Option Addr)(n c:Nat)(w:World):Calls Tryz.prog 116 #[.agg (pkV t (.slice p n c))] w fun e w'=>e= .returned (.bool (bits .and .u8 t.fl 5 !=0))∧Ext w w':=by
 unfold pkV
 go_enter Tryz.func116,Tryz.ntmps116
 go_wp2;go_ret;exact⟨rfl,Ext.al (Ext.rf _) _⟩
theorem QrC(t:Pk)(p:Option Addr)(n c:Nat)(w:World):Calls Tryz.prog 45 #[.agg (pkV t (.slice p n c))] w fun e w'=>e= .returned (.bool (bits .and .u8 t.fl 7==2))∧Ext w w':=by
 unfold pkV
 go_enter Tryz.func45,Tryz.ntmps45
 go_wp2;go_ret;exact⟨rfl,Ext.al (Ext.rf _) _⟩
def acv(x:Ru.Ac):Array Value:=#[.int .u8 x.d,.int .u8 x.x,.int .u8 x.k,.int .i64 x.t,.int .i64 x.g]
theorem Z5(x:Ru.Ac)(c:Cm)(a:Ag)(Ba b1:Nat)(w:World)(ra:RowZ w Ba (agv a))(rx:RowZ w b1 (acv x))(hs:SlC w a.p a.xs)(hlt: ∀b off,a.p=some ⟨b,off,none⟩→b<w.heap.size):
  Calls Tryz.prog 113 #[.agg (cmv c),.pointer (some ⟨b1,0,none⟩)] w (Qc4 w Ba a x.x a.xs [] []):=by
 go_enter Tryz.func113,Tryz.ntmps113
 go_upto_region 1 with(fail)
 obtain⟨W0,hW⟩: ∃W0,(w.alloc (.cells (cmv c) 98)).alloc (.cells #[.int .u8 0,.slice none 0 0,.slice none 0 0] 42)=W0:=⟨_,rfl⟩;have E':Ext w W0:=by rw [←hW];exact Ext.al (Ext.al (Ext.rf _) _) _
 have r3:RowZ W0 (w.heap.size+1) #[.int .u8 0,.slice none 0 0,.slice none 0 0]:=by rw [←hW];exact⟨by simp [go_sem],by simp [go_sem],by simp [go_sem,Lt]⟩
 have c1:W0.cell? ⟨b1,1,none⟩=some (.int .u8 x.x):=(E'.cell (p:=⟨b1,1,none⟩) rx.l).trans (rx.cell 1 (by show 1<5;omega));have lA:Ba<w.heap.size:=ra.l;rw [hW];clear hW;have ra:=ra.ext E';have hs:=hs.ext E';obtain⟨b3,e3⟩: ∃b,w.heap.size+1=b:=⟨_,rfl⟩;rw [e3]at r3⊢;have HC:=Xh (show Ext w W0∧RowZ W0 Ba (agv a)∧SlC W0 a.p a.xs from⟨E',ra,hs⟩);clear E' ra hs;have q3:Qc W0 b3=#[.int .u8 0,.slice none 0 0,.slice none 0 0]:=r3.r;have f3:Qt W0 b3=(0,0):=r3.z;have z3:Lt b3 W0:=r3.l;have HR3:=Xh r3;clear r3;go_wp2;obtain⟨W5,h5⟩: ∃W5,Qe W0 b3 0 #[.int .u8 x.x,.slice none 0 0,.slice none 0 0]=W5:=⟨_,rfl⟩;have q5:Qc W5 b3=#[.int .u8 x.x,.slice none 0 0,.slice none 0 0]:=by rw [←h5];exact Qq _ _ _ (by rw [q3];rfl)
 rw [h5];obtain⟨E,ra,sn⟩:=HC.out;exact bodyPost_ret (Zt rfl _ _ b3 rfl (J1 q5 rfl)) rfl (Qcw (lo:=b3+1) (a:=a) (p:=a.p) (c:=a.c) (es:= []) (ss:= []) h5 (Mv.of_ext E) ra sn (SlE.nil _ none) (SlBB.nil _ none) Om Om Om (.inr ⟨rfl,hlt⟩) (fun b off e=>by cases e) (fun b off e=>by cases e))
def Qlp(lo:Nat)(xs:List Co)(ok:Bool)(v:Value)(w':World):Prop:= ∃p c,v= .tuple #[.slice p xs.length c,.bool ok]∧SlC w' p xs∧ ∀b off,p=some ⟨b,off,none⟩→lo≤b
theorem QrD(lo:Nat)(t:Tu)(now:Int)(p:Option Addr)(xs:List Co)(c:Nat)(w:World)(hs:SlC w p xs)(hl:xs.length≤1000)(hlo:lo≤w.heap.size):Calls Tryz.prog 115 #[.slice p xs.length c,.agg #[.int .u32 t.a,.int .u32 t.b,.int .u16 t.c,.int .u16 t.d],.int .i64 now] w fun e w'=> ∃v,e= .returned v∧Qlp lo (withX (touchF now) xs t) (withOk xs t) v w'∧Ext w w':=
 (QlE t now p xs c w hs hl).mono fun e w' ⟨v,h1,h2,h3⟩=>⟨_,h1,(by obtain⟨q,d,e,-,s⟩:=SlC.own h2;exact⟨q,d,by rw [e],s,fun b off e2=>Xt hlo (Qh h2 b (by rw [e,e2];rfl))⟩),h3⟩
theorem QrE(lo:Nat)(t:Tu)(p:Option Addr)(xs:List Co)(c:Nat)(w:World)(hs:SlC w p xs)(hl:xs.length≤1000)(hlo:lo≤w.heap.size):Calls Tryz.prog 117 #[.slice p xs.length c,.agg #[.int .u32 t.a,.int .u32 t.b,.int .u16 t.c,.int .u16 t.d]] w fun e w'=> ∃v,e= .returned v∧Qlp lo (withX (fun xs k=>xs.eraseIdx k) xs t) (withOk xs t) v w'∧Ext w w':=
 (QlM t p xs c w hs hl).mono fun e w' ⟨v,h1,h2,h3⟩=>⟨_,h1,(by obtain⟨q,d,e,-,s⟩:=SlC.own h2;exact⟨q,d,by rw [e],s,fun b off e2=>Xt hlo (Qh h2 b (by rw [e,e2];rfl))⟩),h3⟩
theorem Qj6(now:Int)(xs:List Co)(t:Tu):(withX (touchF now) xs t).length=xs.length:=by
 unfold withX touchF
 split
 ·split
  ·simp
  ·rfl
 ·rfl
@[go_sem] theorem Qys{c:Cm}{o m:Nat}:Fits o m (cmv c)=(o+m≤18):=by unfold Fits;rfl
@[go_sem] theorem QmK{c:Cm}:QA (cmv c) 11 6=pkV c.pk (.slice c.bp c.bN c.bc):=rfl
def QdE(c:Cm):Bool:=bits .and .u8 c.pk.fl 5 !=0
def Qib(a:Ag)(c:Cm):List Co:=if QdE c=true then withX (fun xs k=>xs.eraseIdx k) (withX (touchF c.now) a.xs c.pk.tu) c.pk.tu else(withX (touchF c.now) a.xs c.pk.tu)
def QeI(a:Ag)(c:Cm):List Ev:=if QdE c=true then [⟨2,a.id,c.pk.tu⟩,⟨3,a.id,c.pk.tu⟩]else [⟨2,a.id,c.pk.tu⟩]
def QpB(ops:Array Oper):Prop:=Region.noSelect ops=true∧Qp ops 9 [0,1,2,3] 0=true∧Region.ready .any ops (msk 9 15)= [4]∧Region.ready .any ops (msk 9 31)= [5]∧Region.ready .any ops (msk 9 63)= [6]∧Qp ops 9 [7] 127=true∧Region.ready .any ops (msk 9 255)= [8]∧Region.ready .any ops (msk 9 511)= []∧lateB .any ops 8 1=true
theorem Qj7:QpB ((Tryz.f114.body.bind (Qg 1)).getD #[]):=⟨Kr,Kr,Kr,Kr,Kr,Kr,Kr,Kr,Kr⟩
def QpC(ops:Array Oper):Prop:=Region.noSelect ops=true∧Qp ops 17 [0,1,2,3,4,5,6,7,8,9] 0=true∧Region.ready .any ops (msk 17 1023)= [10]∧Qp ops 17 [11,12,13,14,15] 2047=true∧Region.ready .any ops (msk 17 65535)= [16]∧Region.ready .any ops (msk 17 131071)= []∧lateB .any ops 16 4=true
theorem Qj8:QpC ((Tryz.f114.body.bind (Qg 2)).getD #[]):=⟨Kr,Kr,Kr,Kr,Kr,Kr,Kr⟩
def QpD(ops:Array Oper):Prop:=Region.noSelect ops=true∧Qp ops 9 [0,1,2,3] 0=true∧Region.ready .any ops (msk 9 15)= [4]∧Region.ready .any ops (msk 9 31)= [5]∧Region.ready .any ops (msk 9 63)= [6]∧Qp ops 9 [7] 127=true∧Region.ready .any ops (msk 9 255)= [8]∧Region.ready .any ops (msk 9 511)= []∧lateB .any ops 8 1=true
theorem Qj9:QpD ((Tryz.f114.body.bind (Qg 4)).getD #[]):=⟨Kr,Kr,Kr,Kr,Kr,Kr,Kr,Kr,Kr⟩
def QpE(ops:Array Oper):Prop:=Region.noSelect ops=true∧Qp ops 15 [0,1,2,3,4,5,6,7] 0=true∧Region.ready .any ops (msk 15 255)= [8]∧Qp ops 15 [9,10,11,12,13] 511=true∧Region.ready .any ops (msk 15 16383)= [14]∧Region.ready .any ops (msk 15 32767)= []∧lateB .any ops 14 4=true
theorem Qka:QpE ((Tryz.f114.body.bind (Qg 5)).getD #[]):=⟨Kr,Kr,Kr,Kr,Kr,Kr,Kr⟩
theorem Qic(a:Ag)(c:Cm)(Ba b2 bc:Nat)(w:World)(h:Qs0 w a Ba b2 bc)(hl:a.xs.length≤1000)(hlt: ∀b off,a.p=some ⟨b,off,none⟩→b<w.heap.size)(hne: ∀b off,a.p=some ⟨b,off,none⟩→b≠Ba):
  Calls Tryz.prog 114 #[.agg (cmv c),.pointer (some ⟨bc,0,none⟩),.pointer (some ⟨b2,0,none⟩)] w (Qc4 w Ba a 0 (Qib a c) (QeI a c) []):=by
 obtain⟨ra,rb,rc,hs,hn1,hn2⟩:=h;have lA:Ba<w.heap.size:=ra.l;have lB:b2<w.heap.size:=rb.l;have lC:bc<w.heap.size:=rc.l
 go_enter Tryz.func114,Tryz.ntmps114
 go_upto_region 1 with(fail)
 obtain⟨W0,hW⟩: ∃W0,(w.alloc (.cells (cmv c) 98)).alloc (.cells #[.int .u8 0,.slice none 0 0,.slice none 0 0] 42)=W0:=⟨_,rfl⟩;have E':Ext w W0:=by rw [←hW];exact Ext.al (Ext.al (Ext.rf _) _) _
 have r3:RowZ W0 w.heap.size (cmv c):=by rw [←hW];exact⟨by simp [go_sem],by simp [go_sem],by simp [go_sem,Lt]⟩
 have r4:RowZ W0 (w.heap.size+1) #[.int .u8 0,.slice none 0 0,.slice none 0 0]:=by rw [←hW];exact⟨by simp [go_sem],by simp [go_sem],by simp [go_sem,Lt]⟩
 have hsz:W0.heap.size=w.heap.size+2:=by rw [←hW];simp
 rw [hW];clear hW;have ra:=ra.ext E';have rb:=rb.ext E';have rc:=rc.ext E';have hs:=hs.ext E';obtain⟨b3,e3⟩: ∃b,w.heap.size=b:=⟨_,rfl⟩;rw [e3]at r3 r4 hsz lA lB lC hlt⊢;obtain⟨b4,e4⟩: ∃b,b3+1=b:=⟨_,rfl⟩;rw [e4]at r4⊢;obtain⟨lo,hlo⟩: ∃lo,b4+1=lo:=⟨_,rfl⟩;have E:Mv (fun q=>q=Ba) w W0:=Mv.of_ext E';have hnb: ¬b2=Ba:=fun e=>hn1 e.symm;have hnc: ¬bc=Ba:=fun e=>hn2 e.symm;have hn3: ¬b3=Ba:=by omega
 have hn4: ¬b4=Ba:=by omega
 have oe:OEv W0 lo (.slice none 0 0) []:=World.ownsRow_nil W0 lo 68 6;have hbs:lo≤W0.heap.size:=by omega
 have hge:=Qh oe;have hCa: ¬ZZ (.slice none 0 0) Ba:=fun e=>by have:=hge _ e;omega
 have hCb: ¬ZZ (.slice none 0 0) b2:=fun e=>by have:=hge _ e;omega
 have hCc: ¬ZZ (.slice none 0 0) bc:=fun e=>by have:=hge _ e;omega
 have hC3: ¬ZZ (.slice none 0 0) b3:=fun e=>by have:=hge _ e;omega
 have hC4: ¬ZZ (.slice none 0 0) b4:=fun e=>by have:=hge _ e;omega
 have hCE: ∀q,ZZ (.slice none 0 0) q→w.heap.size≤q:=fun q e=>by have:=hge _ e;omega
 have hDc: ¬(fun q=>q=b4∨ZZ (.slice none 0 0) q) bc:=fun e=>e.elim Om hCc;have hD3: ¬(fun q=>q=b4∨ZZ (.slice none 0 0) q) b3:=fun e=>e.elim Om hC3;have hle:([]:List Ev).length≤1000:=by decide
 have hnk: ∀b off,a.p=some ⟨b,off,none⟩→ ¬ZZ (.slice none 0 0) b:=fun b off _ f=>by cases f
 have hn4s: ∀b off,a.p=some ⟨b,off,none⟩→ ¬b=b4:=fun b off e=>by have:=hlt b off e;omega
 refine Qy (ZZ (.slice none 0 0)) (fun q=>q=b4∨ZZ (.slice none 0 0) q) 8 Kr ?_;obtain⟨WA,hW⟩: ∃Wdr,World.drew W0=Wdr:=⟨_,rfl⟩;have gD:Ext W0 WA:=by rw [←hW];exact Ext.dr (Ext.rf _)
 rw [hW];clear hW;have E:=E.tr gD;have ra:=ra.ext gD;have rb:=rb.ext gD;have rc:=rc.ext gD;have r3:=r3.ext gD;have r4:=r4.ext gD;have oe:=oe.ext gD;have hs:=hs.ext gD;have hbs:=Xt hbs gD.size;refine Zi (N:=9) (R:=QpB) (E:=((Tryz.f114.body.bind (Qg 1)).getD #[])) Kr Qj7 Kr fun hS=> ?_;have hT:=hS.2.1;refine tWk 1 (.pointer (some ⟨b4,1,none⟩)) hS.1 hT rfl fun hT=> ?_;refine ZA (N:=9) (k:=1) (m':=3) (v:= .slice none 0 0) hS.1 hT hS.2.2.2.2.2.2.2.2 rfl rfl Kr (Qbk (C:=ZZ (.slice none 0 0)) (r4.cell 1 (by show 1<3;omega)) r4.l hC4 Kr) fun hT=> ?_;refine tW 7 (.func (.func 112) #[] #[.pointer (some ⟨b2,0,none⟩)]) hS.1 hT rfl (Qj2 (rc.cell 0 Nat.zero_lt_one) rc.l hDc Kr) fun hT=> ?_;refine tW 15 (.agg (cmv c)) hS.1 hT rfl (Qc3 r3 hD3 Kr) fun hT=> ?_;refine sV 31 (fun v _=>v=Ev.v ⟨2,a.id,c.pk.tu⟩) hS.2.2.1 rfl (Zz (Qc0 2 a.id c b2 Ba WA (rb.cell 0 Nat.zero_lt_one) rb.l (Yb ra.r) ra.l)) ?_;rintro _ WB1 gWB1 rfl;have E:=E.tr gWB1;have ra:=ra.ext gWB1;have rb:=rb.ext gWB1;have rc:=rc.ext gWB1;have r3:=r3.ext gWB1;have r4:=r4.ext gWB1;have oe:=oe.ext gWB1;have hs:=hs.ext gWB1;have hbs:=Xt hbs gWB1.size;refine Qs hS.2.2.2.1 (Zl (m':=63) rfl rfl Kr (QeH (x:=⟨2,a.id,c.pk.tu⟩) Kr WB1) ⟨.inr (Mv.of_ext (Ext.al (Ext.rf _) _)),(Mv.of_ext (Ext.al (Ext.rf _) _))⟩ ?_);obtain⟨WB2,hWB2⟩: ∃WB2,WB1.alloc (.cells (Ev.cl ⟨2,a.id,c.pk.tu⟩).toArray 68)=WB2:=⟨_,rfl⟩;have hbk:=World.alloc_heap_new WB1 (.cells (Ev.cl ⟨2,a.id,c.pk.tu⟩).toArray 68);have gWB2:Ext WB1 WB2:=by rw [←hWB2];exact Ext.al (Ext.rf _) _
 rw [hWB2]at hbk⊢;clear hWB2;have E:=E.tr gWB2;have ra:=ra.ext gWB2;have rb:=rb.ext gWB2;have rc:=rc.ext gWB2;have r3:=r3.ext gWB2;have r4:=r4.ext gWB2;have oe:=oe.ext gWB2;have hs:=hs.ext gWB2;have hA: ∀j u,(Ev.cl ⟨2,a.id,c.pk.tu⟩)[j]?=some u→WB2.cell? ⟨WB1.heap.size,j,none⟩=some u:=fun j u hu=>by simp only [World.cell?,hbk];simpa using hu
 have hbs:=Xt hbs gWB2.size;refine Qs hS.2.2.2.2.1 (Qj1 (m':=127) (base:=lo) (v1:= .slice none 0 0) (b1:=([]:List Ev)) (x1:=⟨2,a.id,c.pk.tu⟩) rfl rfl Kr Kr oe hA hle (fun r e=>e) (fun k h=> .inr h) hbs ?_);intro v' WB3 oe hg' hm';have E:=E.trn hm' (fun q e=> .inr (hCE q e));have ra:=ra.mv hm' hCa;have rb:=rb.mv hm' hCb;have rc:=rc.mv hm' hCc;have r3:=r3.mv hm' hC3;have r4:=r4.mv hm' hC4;have hbs:=Xt hbs hm'.size;have hs:=hs.mvg hm' (fun b off e f=>by first|exact hnk b off e f|exact hn4s b off e f);have gWB3:=Ext.rf WB3;have E:=E.tr gWB3;have ra:=ra.ext gWB3;have rb:=rb.ext gWB3;have rc:=rc.ext gWB3;have r3:=r3.ext gWB3;have r4:=r4.ext gWB3;have oe:=oe.ext gWB3;have hs:=hs.ext gWB3;have hT:=hS.2.2.2.2.2.1;refine tWk 255 (.pointer (some ⟨b4,1,none⟩)) hS.1 hT rfl fun hT=> ?_;refine Qs hS.2.2.2.2.2.2.1 (QD (m':=511) rfl rfl Kr (Qc2 (B:=b4) (i:=1) (v:=v') (u:= .slice none 0 0) (r4.cell 1 (by show 1<3;omega)) (r4.frz 1) (QeG oe) Kr Kr) ⟨.inl Dc,(Mv.st _ (.inl (.inl rfl)) (Mv.refl _ _))⟩ ?_);obtain⟨WB4,hWB4⟩: ∃WB4,World.setCell WB3 ⟨b4,1,none⟩ v'=WB4:=⟨_,rfl⟩;have gS:Mv (fun q=>q=b4) WB3 WB4:=by rw [←hWB4];exact Mv.st _ (.inl rfl) (Mv.refl _ _)
 have r4:RowZ WB4 b4 #[.int .u8 0,v',.slice none 0 0]:=by rw [←hWB4];exact r4.set 1 _
 have E:=E.trn gS (fun q e=> .inr Om);have ra:=ra.mv gS Om;have rb:=rb.mv gS Om;have rc:=rc.mv gS Om;have r3:=r3.mv gS Om;have oe:=oe.mv gS (fun q hq e=>by omega);have hbs:=Xt hbs gS.size;have hs:=hs.mvg gS (fun b off e f=>by first|exact hnk b off e f|exact hn4s b off e f);rw [hWB4];clear hWB4;refine Q2 hS.2.2.2.2.2.2.2.1 ?_;clear hS hT hCa hCb hCc hC3 hC4 hCE hDc hD3 hge;obtain⟨ep,ec,rfl,-,-⟩:=SlE.own oe;have e1:(([]:List Ev)++ [(⟨2,a.id,c.pk.tu⟩:Ev)])= [⟨2,a.id,c.pk.tu⟩]:=rfl;rw [e1]at r4 oe⊢;clear e1;rw [show([(⟨2,a.id,c.pk.tu⟩:Ev)]).length=1 from rfl]at r4 oe⊢
 go_upto_region 2 with(fail)
 obtain⟨lo2,hlo2⟩: ∃lo2,WB4.heap.size=lo2:=⟨_,rfl⟩;have hown: ∀b,ZZ (.slice ep 1 ec) b→b<lo2:=fun b e=>by have:=QbJ oe b e;omega
 have hll:lo≤lo2:=by omega
 have hz2:lo2≤WB4.heap.size:=by omega
 refine Qy (fun _=>False) (fun q=>q=Ba) 16 Kr ?_;have hDb: ¬(fun q=>q=Ba) b2:=hnb;have hD3: ¬(fun q=>q=Ba) b3:=hn3;obtain⟨WC,hW⟩: ∃Wdr,World.drew WB4=Wdr:=⟨_,rfl⟩;have gD:Ext WB4 WC:=by rw [←hW];exact Ext.dr (Ext.rf _)
 rw [hW];clear hW;have E:=E.tr gD;have ra:=ra.ext gD;have rb:=rb.ext gD;have rc:=rc.ext gD;have r3:=r3.ext gD;have r4:=r4.ext gD;have oe:=oe.ext gD;have hs:=hs.ext gD;have hbs:=Xt hbs gD.size;have hz2:=Xt hz2 gD.size;refine Zi (N:=17) (R:=QpC) (E:=((Tryz.f114.body.bind (Qg 2)).getD #[])) Kr Qj8 Kr fun hS=> ?_;have hT:=hS.2.1;refine tW 1 (.pointer (some ⟨Ba,0,none⟩)) hS.1 hT rfl (Qa5 (rb.cell 0 Nat.zero_lt_one) rb.l hDb Kr) fun hT=> ?_;refine tW 3 (.pointer (some ⟨Ba,0,none⟩)) hS.1 hT rfl (Qa5 (rb.cell 0 Nat.zero_lt_one) rb.l hDb Kr) fun hT=> ?_;refine tWk 7 (.pointer (some ⟨Ba,0,none⟩)) hS.1 hT rfl fun hT=> ?_;refine tWk 15 (.pointer (some ⟨Ba,66,none⟩)) hS.1 hT rfl fun hT=> ?_;refine ZA (N:=17) (k:=4) (m':=31) (v:= .slice a.p a.xs.length a.c) hS.1 hT hS.2.2.2.2.2.2 rfl rfl Kr (Qan (C:=fun _=>False) (by rw [Qa,ra.r,Qu]) ra.l (fun h=>h) Kr) fun hT=> ?_;refine tWk 63 (.pointer (some ⟨b3,11,none⟩)) hS.1 hT rfl fun hT=> ?_;refine tWk 127 (.pointer (some ⟨b3,11,none⟩)) hS.1 hT rfl fun hT=> ?_;refine tW 255 (.agg #[.int .u32 c.pk.tu.a,.int .u32 c.pk.tu.b,.int .u16 c.pk.tu.c,.int .u16 c.pk.tu.d]) hS.1 hT rfl (QeF (QZ r3 11 (by show 11<18;omega)) (QZ r3 12 (by show 12<18;omega)) (QZ r3 13 (by show 13<18;omega)) (QZ r3 14 (by show 14<18;omega)) r3.l hD3 Kr) fun hT=> ?_;refine tWk 511 (.pointer (some ⟨b3,17,none⟩)) hS.1 hT rfl fun hT=> ?_;refine tW 1023 (.int .i64 c.now) hS.1 hT rfl (QW (QZ r3 17 (by show 17<18;omega)) r3.l hD3 Kr) fun hT=> ?_;refine sV 2047 (Qlp lo2 (withX (touchF c.now) a.xs c.pk.tu) (withOk a.xs c.pk.tu)) hS.2.2.1 rfl (QrD lo2 c.pk.tu c.now a.p a.xs a.c WC (hs.ext (by first|exact Ext.rf _|exact gWD1)) hl Om) ?_;rintro _ WD1 gWD1 ⟨pn,cn,rfl,sn,nn⟩;have E:=E.tr gWD1;have ra:=ra.ext gWD1;have rb:=rb.ext gWD1;have rc:=rc.ext gWD1;have r3:=r3.ext gWD1;have r4:=r4.ext gWD1;have oe:=oe.ext gWD1;have hbs:=Xt hbs gWD1.size;have hT:=hS.2.2.2.1;refine tWk 4095 (.tuple #[.slice pn (withX (touchF c.now) a.xs c.pk.tu).length cn,.bool (withOk a.xs c.pk.tu)]) hS.1 hT rfl fun hT=> ?_;refine tWk 8191 (.slice pn (withX (touchF c.now) a.xs c.pk.tu).length cn) hS.1 hT rfl fun hT=> ?_;refine tWk 16383 (.bool (withOk a.xs c.pk.tu)) hS.1 hT rfl fun hT=> ?_;refine tWk 32767 (.pointer (some ⟨Ba,0,none⟩)) hS.1 hT rfl fun hT=> ?_;refine tWk 65535 (.pointer (some ⟨Ba,66,none⟩)) hS.1 hT rfl fun hT=> ?_;refine Qs hS.2.2.2.2.1 (QD (m':=131071) rfl rfl Kr (Qc1 (B:=Ba) (i:=66) (v:= .slice pn (withX (touchF c.now) a.xs c.pk.tu).length cn) (u:= .slice a.p a.xs.length a.c) (by rw [Qa,ra.r,Qu]) (ra.frz 66) ⟨_,_,_,rfl⟩ Kr Kr) ⟨.inl Dc,(Mv.st _ (.inl rfl) (Mv.refl _ _))⟩ ?_);obtain⟨WD2,hWD2⟩: ∃WD2,World.setCell WD1 ⟨Ba,66,none⟩ (.slice pn (withX (touchF c.now) a.xs c.pk.tu).length cn)=WD2:=⟨_,rfl⟩;have gS:Mv (fun q=>q=Ba) WD1 WD2:=by rw [←hWD2];exact Mv.st _ (.inl rfl) (Mv.refl _ _)
 have ra:RowZ WD2 Ba (agv {a with p:=pn,xs:=(withX (touchF c.now) a.xs c.pk.tu),c:=cn}):=by rw [←hWD2];exact⟨JW (a:=a) pn (withX (touchF c.now) a.xs c.pk.tu) cn ra.r,by rw [QR];exact ra.z,by rw [Zg];exact ra.l⟩
 have E:=E.trans gS;have rb:=rb.mv gS hnb;have rc:=rc.mv gS hnc;have r3:=r3.mv gS hn3;have r4:=r4.mv gS hn4;have sn:=sn.mvo gS (fun b off e=>by have:=nn b off e;omega);have oe:=oe.mv gS (fun q hq e=>by omega);have hbs:=Xt hbs gS.size;rw [hWD2];clear hWD2;refine Q2 hS.2.2.2.2.2.1 ?_;clear hS hT;obtain⟨a1,ea⟩: ∃a1,({a with p:=pn,xs:=(withX (touchF c.now) a.xs c.pk.tu),c:=cn}:Ag)=a1:=⟨_,rfl⟩;have ra:RowZ WD2 Ba (agv a1):=by rw [←ea];exact ra
 have eid:a1.id=a.id:=by rw [←ea]
 have hs:SlC WD2 a1.p a1.xs:=by rw [←ea];exact sn
 have hx1:a1.xs=(withX (touchF c.now) a.xs c.pk.tu):=by rw [←ea]
 have hnp: ∀b off,a1.p=some ⟨b,off,none⟩→lo2≤b:=by rw [←ea];exact nn
 have hl1:a1.xs.length≤1000:=by rw [hx1,Qj6];exact hl
 have HEA:=Xh ea;have HX1:=Xh hx1;clear ea hx1 sn nn hz2 hnk hn4s hlt hne hDb hD3 gS;have HCLS:=Xh (fun W=>Qj5 c.pk c.bp c.bN c.bc W);have HR3:=Xh r3;have hr3:=r3.r
 cases hcl:QdE c
 ·have hcl':(bits .and .u8 c.pk.fl 5 !=0)=false:=hcl;rw [hcl']at HCLS;clear hcl';have HCL:=Xh hcl;clear hcl
  go_upto_region 6 with(go_at_call 116;(with_reducible refine(HCLS.out _).mono ?_);rintro e w3 ⟨rfl,g3⟩)
  have E:=E.tr g3;have ra:=ra.ext g3;have hs:=hs.ext g3;have r4:=r4.ext g3;have oe:=oe.ext g3;obtain⟨ep',ec',h,-,se⟩:=SlE.own oe
  cases h
  have hnE:=Qh oe;have HC:=Xh (show Mv (fun q=>q=Ba) w w3∧RowZ w3 Ba (agv a1)∧SlC w3 a1.p a1.xs∧SlE w3 ep [(⟨2,a.id,c.pk.tu⟩:Ev)]∧(∀b off,a1.p=some ⟨b,off,none⟩→lo≤b)∧(∀b off,ep=some ⟨b,off,none⟩→lo≤b)from⟨E,ra,hs,se,fun b off e=>by have:=hnp b off e;omega,fun b off e=>by have:=hnE b (by rw [e];rfl);omega⟩);have q4:=r4.r;have f4:=r4.z;have z4:=r4.l;clear E ra hs se hnp hnE oe r4 rb rc r3;go_wp2;obtain⟨W5,h5⟩: ∃W5,Qe w3 b4 0 #[.int .u8 0,.slice ep ([(⟨2,a.id,c.pk.tu⟩:Ev)]).length ec,.slice none 0 0]=W5:=⟨_,rfl⟩;have q5:Qc W5 b4=#[.int .u8 0,.slice ep ([(⟨2,a.id,c.pk.tu⟩:Ev)]).length ec,.slice none 0 0]:=by rw [←h5];exact Qq _ _ _ (by rw [q4];rfl)
  have h5':=h5;simp only [List.length_cons,List.length_nil,Nat.zero_add,Nat.reduceAdd]at h5';rw [h5'];clear h5';obtain⟨E,ra,hs,se,h8,h9⟩:=HC.out;have hd:Qib a c=a1.xs:=by unfold Qib;rw [HCL.out,if_neg Dc];exact HX1.out.symm
  have hde:QeI a c= [⟨2,a.id,c.pk.tu⟩]:=by unfold QeI;rw [HCL.out];rfl
  rw [hd,hde];have hrow:({a with p:=a1.p,xs:=a1.xs,c:=a1.c}:Ag)=a1:=by rw [←HEA.out]
  exact bodyPost_ret (Zt rfl _ _ b4 rfl (J1 q5 rfl)) rfl (Qcw (lo:=lo) (a:=a) (p:=a1.p) (xs:=a1.xs) (c:=a1.c) (es:= [(⟨2,a.id,c.pk.tu⟩:Ev)]) (ss:= []) h5 E (by rw [hrow];exact ra) hs se (SlBB.nil _ none) Om Om Om (.inl h8) h9 (fun b off e=>by cases e))
 have hcl':(bits .and .u8 c.pk.fl 5 !=0)=true:=hcl;rw [hcl']at HCLS;clear hcl';have HCL:=Xh hcl;clear hcl
 go_upto_region 4 with(go_at_call 116;(with_reducible refine(HCLS.out _).mono ?_);rintro e w3 ⟨rfl,g3⟩)
 clear hr3;have E:=E.tr g3;have ra:=ra.ext g3;have rb:=rb.ext g3;have rc:=rc.ext g3;have r3:=r3.ext g3;have hs:=hs.ext g3;have r4:=r4.ext g3;have oe:=oe.ext g3;have hbs:=Xt hbs g3.size;have hge:=Qh oe;have hCa: ¬ZZ (.slice ep 1 ec) Ba:=fun e=>by have:=hge _ e;omega
 have hCb: ¬ZZ (.slice ep 1 ec) b2:=fun e=>by have:=hge _ e;omega
 have hCc: ¬ZZ (.slice ep 1 ec) bc:=fun e=>by have:=hge _ e;omega
 have hC3: ¬ZZ (.slice ep 1 ec) b3:=fun e=>by have:=hge _ e;omega
 have hC4: ¬ZZ (.slice ep 1 ec) b4:=fun e=>by have:=hge _ e;omega
 have hCE: ∀q,ZZ (.slice ep 1 ec) q→w.heap.size≤q:=fun q e=>by have:=hge _ e;omega
 have hDc: ¬(fun q=>q=b4∨ZZ (.slice ep 1 ec) q) bc:=fun e=>e.elim Om hCc;have hD3: ¬(fun q=>q=b4∨ZZ (.slice ep 1 ec) q) b3:=fun e=>e.elim Om hC3;have hle:([(⟨2,a.id,c.pk.tu⟩:Ev)]).length≤1000:=by show 1≤1000;omega
 have hnk: ∀b off,a1.p=some ⟨b,off,none⟩→ ¬ZZ (.slice ep 1 ec) b:=fun b off e f=>by have:=hnp b off e;have:=hown b f;omega
 have hn4s: ∀b off,a1.p=some ⟨b,off,none⟩→ ¬b=b4:=fun b off e=>by have:=hnp b off e;omega
 refine Qy (ZZ (.slice ep 1 ec)) (fun q=>q=b4∨ZZ (.slice ep 1 ec) q) 8 Kr ?_;obtain⟨WE,hW⟩: ∃Wdr,World.drew w3=Wdr:=⟨_,rfl⟩;have gD:Ext w3 WE:=by rw [←hW];exact Ext.dr (Ext.rf _)
 rw [hW];clear hW;have E:=E.tr gD;have ra:=ra.ext gD;have rb:=rb.ext gD;have rc:=rc.ext gD;have r3:=r3.ext gD;have r4:=r4.ext gD;have oe:=oe.ext gD;have hs:=hs.ext gD;have hbs:=Xt hbs gD.size;refine Zi (N:=9) (R:=QpD) (E:=((Tryz.f114.body.bind (Qg 4)).getD #[])) Kr Qj9 Kr fun hS=> ?_;have hT:=hS.2.1;refine tWk 1 (.pointer (some ⟨b4,1,none⟩)) hS.1 hT rfl fun hT=> ?_;refine ZA (N:=9) (k:=1) (m':=3) (v:= .slice ep 1 ec) hS.1 hT hS.2.2.2.2.2.2.2.2 rfl rfl Kr (Qbk (C:=ZZ (.slice ep 1 ec)) (r4.cell 1 (by show 1<3;omega)) r4.l hC4 Kr) fun hT=> ?_;refine tW 7 (.func (.func 112) #[] #[.pointer (some ⟨b2,0,none⟩)]) hS.1 hT rfl (Qj2 (rc.cell 0 Nat.zero_lt_one) rc.l hDc Kr) fun hT=> ?_;refine tW 15 (.agg (cmv c)) hS.1 hT rfl (Qc3 r3 hD3 Kr) fun hT=> ?_;refine sV 31 (fun v _=>v=Ev.v ⟨3,a1.id,c.pk.tu⟩) hS.2.2.1 rfl (Zz (Qc0 3 a1.id c b2 Ba WE (rb.cell 0 Nat.zero_lt_one) rb.l (Yb ra.r) ra.l)) ?_;rintro _ WF1 gWF1 rfl;have E:=E.tr gWF1;have ra:=ra.ext gWF1;have rb:=rb.ext gWF1;have rc:=rc.ext gWF1;have r3:=r3.ext gWF1;have r4:=r4.ext gWF1;have oe:=oe.ext gWF1;have hs:=hs.ext gWF1;have hbs:=Xt hbs gWF1.size;refine Qs hS.2.2.2.1 (Zl (m':=63) rfl rfl Kr (QeH (x:=⟨3,a1.id,c.pk.tu⟩) Kr WF1) ⟨.inr (Mv.of_ext (Ext.al (Ext.rf _) _)),(Mv.of_ext (Ext.al (Ext.rf _) _))⟩ ?_);obtain⟨WF2,hWF2⟩: ∃WF2,WF1.alloc (.cells (Ev.cl ⟨3,a1.id,c.pk.tu⟩).toArray 68)=WF2:=⟨_,rfl⟩;have hbk:=World.alloc_heap_new WF1 (.cells (Ev.cl ⟨3,a1.id,c.pk.tu⟩).toArray 68);have gWF2:Ext WF1 WF2:=by rw [←hWF2];exact Ext.al (Ext.rf _) _
 rw [hWF2]at hbk⊢;clear hWF2;have E:=E.tr gWF2;have ra:=ra.ext gWF2;have rb:=rb.ext gWF2;have rc:=rc.ext gWF2;have r3:=r3.ext gWF2;have r4:=r4.ext gWF2;have oe:=oe.ext gWF2;have hs:=hs.ext gWF2;have hA: ∀j u,(Ev.cl ⟨3,a1.id,c.pk.tu⟩)[j]?=some u→WF2.cell? ⟨WF1.heap.size,j,none⟩=some u:=fun j u hu=>by simp only [World.cell?,hbk];simpa using hu
 have hbs:=Xt hbs gWF2.size;refine Qs hS.2.2.2.2.1 (Qj1 (m':=127) (base:=lo) (v1:= .slice ep 1 ec) (b1:= [(⟨2,a.id,c.pk.tu⟩:Ev)]) (x1:=⟨3,a1.id,c.pk.tu⟩) rfl rfl Kr Kr oe hA hle (fun r e=>e) (fun k h=> .inr h) hbs ?_);intro v' WF3 oe hg' hm';have E:=E.trn hm' (fun q e=> .inr (hCE q e));have ra:=ra.mv hm' hCa;have rb:=rb.mv hm' hCb;have rc:=rc.mv hm' hCc;have r3:=r3.mv hm' hC3;have r4:=r4.mv hm' hC4;have hbs:=Xt hbs hm'.size;have hs:=hs.mvg hm' (fun b off e f=>by first|exact hnk b off e f|exact hn4s b off e f);have gWF3:=Ext.rf WF3;have E:=E.tr gWF3;have ra:=ra.ext gWF3;have rb:=rb.ext gWF3;have rc:=rc.ext gWF3;have r3:=r3.ext gWF3;have r4:=r4.ext gWF3;have oe:=oe.ext gWF3;have hs:=hs.ext gWF3;have hT:=hS.2.2.2.2.2.1;refine tWk 255 (.pointer (some ⟨b4,1,none⟩)) hS.1 hT rfl fun hT=> ?_;refine Qs hS.2.2.2.2.2.2.1 (QD (m':=511) rfl rfl Kr (Qc2 (B:=b4) (i:=1) (v:=v') (u:= .slice ep 1 ec) (r4.cell 1 (by show 1<3;omega)) (r4.frz 1) (QeG oe) Kr Kr) ⟨.inl Dc,(Mv.st _ (.inl (.inl rfl)) (Mv.refl _ _))⟩ ?_);obtain⟨WF4,hWF4⟩: ∃WF4,World.setCell WF3 ⟨b4,1,none⟩ v'=WF4:=⟨_,rfl⟩;have gS:Mv (fun q=>q=b4) WF3 WF4:=by rw [←hWF4];exact Mv.st _ (.inl rfl) (Mv.refl _ _)
 have r4:RowZ WF4 b4 #[.int .u8 0,v',.slice none 0 0]:=by rw [←hWF4];exact r4.set 1 _
 have E:=E.trn gS (fun q e=> .inr Om);have ra:=ra.mv gS Om;have rb:=rb.mv gS Om;have rc:=rc.mv gS Om;have r3:=r3.mv gS Om;have oe:=oe.mv gS (fun q hq e=>by omega);have hbs:=Xt hbs gS.size;have hs:=hs.mvg gS (fun b off e f=>by first|exact hnk b off e f|exact hn4s b off e f);rw [hWF4];clear hWF4;refine Q2 hS.2.2.2.2.2.2.2.1 ?_;clear hS hT hCa hCb hCc hC3 hC4 hCE hDc hD3 hge;obtain⟨ep,ec,rfl,-,-⟩:=SlE.own oe;have e1:([(⟨2,a.id,c.pk.tu⟩:Ev)]++ [(⟨3,a1.id,c.pk.tu⟩:Ev)])= [⟨2,a.id,c.pk.tu⟩,⟨3,a.id,c.pk.tu⟩]:=by rw [eid];rfl
 rw [e1]at r4 oe⊢;clear e1;rw [show([(⟨2,a.id,c.pk.tu⟩:Ev),⟨3,a.id,c.pk.tu⟩]).length=2 from rfl]at r4 oe⊢;clear hnk hn4s hown
 go_upto_region 5 with(fail)
 refine Qy (fun _=>False) (fun q=>q=Ba) 14 Kr ?_;have hDb: ¬(fun q=>q=Ba) b2:=hnb;have hD3: ¬(fun q=>q=Ba) b3:=hn3;obtain⟨WG,hW⟩: ∃Wdr,World.drew WF4=Wdr:=⟨_,rfl⟩;have gD:Ext WF4 WG:=by rw [←hW];exact Ext.dr (Ext.rf _)
 rw [hW];clear hW;have E:=E.tr gD;have ra:=ra.ext gD;have rb:=rb.ext gD;have rc:=rc.ext gD;have r3:=r3.ext gD;have r4:=r4.ext gD;have oe:=oe.ext gD;have hs:=hs.ext gD;have hbs:=Xt hbs gD.size;refine Zi (N:=15) (R:=QpE) (E:=((Tryz.f114.body.bind (Qg 5)).getD #[])) Kr Qka Kr fun hS=> ?_;have hT:=hS.2.1;refine tW 1 (.pointer (some ⟨Ba,0,none⟩)) hS.1 hT rfl (Qa5 (rb.cell 0 Nat.zero_lt_one) rb.l hDb Kr) fun hT=> ?_;refine tW 3 (.pointer (some ⟨Ba,0,none⟩)) hS.1 hT rfl (Qa5 (rb.cell 0 Nat.zero_lt_one) rb.l hDb Kr) fun hT=> ?_;refine tWk 7 (.pointer (some ⟨Ba,0,none⟩)) hS.1 hT rfl fun hT=> ?_;refine tWk 15 (.pointer (some ⟨Ba,66,none⟩)) hS.1 hT rfl fun hT=> ?_;refine ZA (N:=15) (k:=4) (m':=31) (v:= .slice a1.p a1.xs.length a1.c) hS.1 hT hS.2.2.2.2.2.2 rfl rfl Kr (Qan (C:=fun _=>False) (by rw [Qa,ra.r,Qu]) ra.l (fun h=>h) Kr) fun hT=> ?_;refine tWk 63 (.pointer (some ⟨b3,11,none⟩)) hS.1 hT rfl fun hT=> ?_;refine tWk 127 (.pointer (some ⟨b3,11,none⟩)) hS.1 hT rfl fun hT=> ?_;refine tW 255 (.agg #[.int .u32 c.pk.tu.a,.int .u32 c.pk.tu.b,.int .u16 c.pk.tu.c,.int .u16 c.pk.tu.d]) hS.1 hT rfl (QeF (QZ r3 11 (by show 11<18;omega)) (QZ r3 12 (by show 12<18;omega)) (QZ r3 13 (by show 13<18;omega)) (QZ r3 14 (by show 14<18;omega)) r3.l hD3 Kr) fun hT=> ?_;refine sV 511 (Qlp lo (withX (fun xs k=>xs.eraseIdx k) a1.xs c.pk.tu) (withOk a1.xs c.pk.tu)) hS.2.2.1 rfl (QrE lo c.pk.tu a1.p a1.xs a1.c WG (hs.ext (by first|exact Ext.rf _|exact gWH1)) hl1 Om) ?_;rintro _ WH1 gWH1 ⟨pn,cn,rfl,sn,nn⟩;have E:=E.tr gWH1;have ra:=ra.ext gWH1;have rb:=rb.ext gWH1;have rc:=rc.ext gWH1;have r3:=r3.ext gWH1;have r4:=r4.ext gWH1;have oe:=oe.ext gWH1;have hbs:=Xt hbs gWH1.size;have hT:=hS.2.2.2.1;refine tWk 1023 (.tuple #[.slice pn (withX (fun xs k=>xs.eraseIdx k) a1.xs c.pk.tu).length cn,.bool (withOk a1.xs c.pk.tu)]) hS.1 hT rfl fun hT=> ?_;refine tWk 2047 (.slice pn (withX (fun xs k=>xs.eraseIdx k) a1.xs c.pk.tu).length cn) hS.1 hT rfl fun hT=> ?_;refine tWk 4095 (.bool (withOk a1.xs c.pk.tu)) hS.1 hT rfl fun hT=> ?_;refine tWk 8191 (.pointer (some ⟨Ba,0,none⟩)) hS.1 hT rfl fun hT=> ?_;refine tWk 16383 (.pointer (some ⟨Ba,66,none⟩)) hS.1 hT rfl fun hT=> ?_;refine Qs hS.2.2.2.2.1 (QD (m':=32767) rfl rfl Kr (Qc1 (B:=Ba) (i:=66) (v:= .slice pn (withX (fun xs k=>xs.eraseIdx k) a1.xs c.pk.tu).length cn) (u:= .slice a1.p a1.xs.length a1.c) (by rw [Qa,ra.r,Qu]) (ra.frz 66) ⟨_,_,_,rfl⟩ Kr Kr) ⟨.inl Dc,(Mv.st _ (.inl rfl) (Mv.refl _ _))⟩ ?_);obtain⟨WH2,hWH2⟩: ∃WH2,World.setCell WH1 ⟨Ba,66,none⟩ (.slice pn (withX (fun xs k=>xs.eraseIdx k) a1.xs c.pk.tu).length cn)=WH2:=⟨_,rfl⟩;have gS:Mv (fun q=>q=Ba) WH1 WH2:=by rw [←hWH2];exact Mv.st _ (.inl rfl) (Mv.refl _ _)
 have ra:RowZ WH2 Ba (agv {a1 with p:=pn,xs:=(withX (fun xs k=>xs.eraseIdx k) a1.xs c.pk.tu),c:=cn}):=by rw [←hWH2];exact⟨JW (a:=a1) pn (withX (fun xs k=>xs.eraseIdx k) a1.xs c.pk.tu) cn ra.r,by rw [QR];exact ra.z,by rw [Zg];exact ra.l⟩
 have E:=E.trans gS;have rb:=rb.mv gS hnb;have rc:=rc.mv gS hnc;have r3:=r3.mv gS hn3;have r4:=r4.mv gS hn4;have sn:=sn.mvo gS (fun b off e=>by have:=nn b off e;omega);have oe:=oe.mv gS (fun q hq e=>by omega);have hbs:=Xt hbs gS.size;rw [hWH2];clear hWH2;refine Q2 hS.2.2.2.2.2.1 ?_;clear hS hT;obtain⟨a2,ea⟩: ∃a2,({a1 with p:=pn,xs:=(withX (fun xs k=>xs.eraseIdx k) a1.xs c.pk.tu),c:=cn}:Ag)=a2:=⟨_,rfl⟩;have ra:RowZ WH2 Ba (agv a2):=by rw [←ea];exact ra
 have hs:SlC WH2 a2.p a2.xs:=by rw [←ea];exact sn
 have hx2:a2.xs=(withX (fun xs k=>xs.eraseIdx k) a1.xs c.pk.tu):=by rw [←ea]
 have hnp: ∀b off,a2.p=some ⟨b,off,none⟩→lo≤b:=by rw [←ea];exact nn
 have HEA2:=Xh ea;have HX2:=Xh hx2;clear ea hx2 sn nn hDb hD3 gS
 go_upto_region 6 with(fail)
 obtain⟨ep',ec',h,-,se⟩:=SlE.own oe
 cases h
 have hnE:=Qh oe;have HC:=Xh (show Mv (fun q=>q=Ba) w WH2∧RowZ WH2 Ba (agv a2)∧SlC WH2 a2.p a2.xs∧SlE WH2 ep [(⟨2,a.id,c.pk.tu⟩:Ev),⟨3,a.id,c.pk.tu⟩]∧(∀b off,a2.p=some ⟨b,off,none⟩→lo≤b)∧(∀b off,ep=some ⟨b,off,none⟩→lo≤b)from⟨E,ra,hs,se,fun b off e=>by have:=hnp b off e;omega,fun b off e=>by have:=hnE b (by rw [e];rfl);omega⟩);have q4:=r4.r;have f4:=r4.z;have z4:=r4.l;clear E ra hs se hnp hnE oe r4 rb rc r3;go_wp2;obtain⟨W5,h5⟩: ∃W5,Qe WH2 b4 0 #[.int .u8 0,.slice ep ([(⟨2,a.id,c.pk.tu⟩:Ev),⟨3,a.id,c.pk.tu⟩]).length ec,.slice none 0 0]=W5:=⟨_,rfl⟩;have q5:Qc W5 b4=#[.int .u8 0,.slice ep ([(⟨2,a.id,c.pk.tu⟩:Ev),⟨3,a.id,c.pk.tu⟩]).length ec,.slice none 0 0]:=by rw [←h5];exact Qq _ _ _ (by rw [q4];rfl)
 have h5':=h5;simp only [List.length_cons,List.length_nil,Nat.zero_add,Nat.reduceAdd]at h5';rw [h5'];clear h5';obtain⟨E,ra,hs,se,h8,h9⟩:=HC.out;have hd:Qib a c=a2.xs:=by unfold Qib;rw [HCL.out,if_pos rfl,←HX1.out];exact HX2.out.symm
 have hde:QeI a c= [⟨2,a.id,c.pk.tu⟩,⟨3,a.id,c.pk.tu⟩]:=by unfold QeI;rw [HCL.out];rfl
 rw [hd,hde];have hrow:({a with p:=a2.p,xs:=a2.xs,c:=a2.c}:Ag)=a2:=by rw [←HEA2.out,←HEA.out]
 exact bodyPost_ret (Zt rfl _ _ b4 rfl (J1 q5 rfl)) rfl (Qcw (lo:=lo) (a:=a) (p:=a2.p) (xs:=a2.xs) (c:=a2.c) (es:= [(⟨2,a.id,c.pk.tu⟩:Ev),⟨3,a.id,c.pk.tu⟩]) (ss:= []) h5 E (by rw [hrow];exact ra) hs se (SlBB.nil _ none) Om Om Om (.inl h8) h9 (fun b off e=>by cases e))
@[go_sem] theorem QvJ{c:Cm}:QA (cmv c) 4 6=opv c.o:=rfl
theorem Qur{C:Nat→Prop}(h0:RowZ w B cs)(h6:cs.size=6)(hC: ¬C B){q:Operand}{ty:TypeId}{g:Option (Nat×Bool)}
  (hx:ρ q= .pointer (some ⟨B,0,none⟩)): ∀w',Mv C w w'→(execOp ρ ⟨dst,.load 75 q,ty,pos,after,g⟩).run Tryz.prog w'= .ok (.value (.agg cs)) w':=by
 intro w' hE;have h1:=h0.mv hE hC;have e:=Qcf ρ dst q ty pos after g w' (by rw [hx];rfl) (by rw [hx];show Fits 0 6 (Qc w' B);rw [h1.r];unfold Fits;omega);rw [e,hx];show Result.ok (Next.value (Value.agg (QA (Qc w' B) 0 6))) w'=_;rw [h1.r,Q9 _ 6 h6]
theorem QpF(lo:Nat){F:Nat}(h:Calls Tryz.prog F args W fun e w'=> ∃v,e= .returned (.tuple #[v,.int .u8 0])∧Ya W w' v bs)(hlo:lo≤W.heap.size):
  Calls Tryz.prog F args W fun e w'=> ∃v,e= .returned v∧(∃p q,v= .tuple #[.slice p bs.length q,.int .u8 0]∧SlB w' p bs∧ ∀b off,p=some ⟨b,off,none⟩→lo≤b)∧Ext W w':=
 h.mono fun e w' ⟨v,h1,h2⟩=>by
  obtain⟨p,q,e1,-,s⟩:=h2.sl;subst e1;exact⟨_,h1,⟨p,q,rfl,s,fun b off e2=>Xt hlo (Qh h2.own b (by rw [e2];rfl))⟩,h2.ext⟩
theorem QrF:(Tryz.prog.info? 28).map (fun i=>(i.zero,i.size,i.bytes))=some (some (.slice none 0 0),1,24):=Kr
theorem Qus{C:Nat→Prop}{a:Option Addr}{m c:Nat}(h0:w.cell? ⟨B,i,none⟩=some (.slice a m c))(hl:Lt B w)(hC: ¬C B){q:Operand}{ty:TypeId}{g:Option (Nat×Bool)}
  (hx:ρ q= .pointer (some ⟨B,i,none⟩)): ∀w',Mv C w w'→(execOp ρ ⟨dst,.load 40 q,ty,pos,after,g⟩).run Tryz.prog w'= .ok (.value (.slice a m c)) w':=by
 intro w' hE;have h1:w'.cell? ⟨B,i,none⟩=some (.slice a m c):=by rw [Qa,Qf (hE.same B hl hC),←Qa];exact h0
 simp only [execOp,hx];go_simp
theorem QpG{v:Value}(hc:w.cell? ⟨B,i,none⟩=some u)(hf:w.frozen? ⟨B,i,none⟩=false)(hv: ∃a m c,v= .slice a m c){x y:Operand}{ty:TypeId}{g:Option (Nat×Bool)}
  (hx:ρ x= .pointer (some ⟨B,i,none⟩))(hy:ρ y=v):(execOp ρ ⟨dst,.store 40 x y,ty,pos,after,g⟩).run Tryz.prog w= .ok .skip (w.setCell ⟨B,i,none⟩ v):=by
 obtain⟨a,m,c,rfl⟩:=hv;simp only [execOp,hx,hy];go_simp
theorem QmL{p:Option Addr}{n m:Nat}{q:Operand}{ty:TypeId}{g:Option (Nat×Bool)}(hx:ρ q= .slice p n m)(w:World):
  (execOp ρ ⟨dst,.buildSlice 40 1 #[(0,q)],ty,pos,after,g⟩).run Tryz.prog w= .ok (.value (.slice (some ⟨w.heap.size,0,none⟩) 1 1)) (w.alloc (.cells #[.slice p n m] 28)):=by
 simp only [execOp,List.map_toArray,List.map_cons,List.map_nil,hx];go_simp
theorem QpH{A:Nat}(hA:w.cell? ⟨A,0,none⟩=some u)(hu:u.oneCell'=true)(ty:TypeId): ∃g cap w',(Builtin.append_ #[40,40] ty #[.slice none 0 0,.slice (some ⟨A,0,none⟩) 1 1]).run Tryz.prog w= .ok (.slice (some ⟨g,0,none⟩) 1 cap) w'∧w.heap.size≤g∧g<w'.heap.size∧w'.cell? ⟨g,0,none⟩=some u∧Ext w w':=by
 obtain⟨i0,hi0,hz0,hz,hz2⟩:=info_parts QrF
 obtain⟨v',w',hr,ho,hg,-,-⟩:=run_append_own_at (P:=Tryz.prog) w w.heap.size 40 ty 28 i0 (.slice none 0 0) 1 24 Tryz.underlying40 hi0 hz0 hz hz2 rfl Dc (.slice none 0 0) 0 [] (World.ownsRow_nil w w.heap.size 28 1) ⟨A,0,none⟩ 1 1 [u] rfl (fun j x hx=>by
  cases j with
  |zero=>simp at hx;subst hx;exact hA
  |succ j=>simp at hx) (fun x hx=>by simp at hx;subst hx;exact hu) (by unfold maxLen;omega) Om (Nat.le_refl _)
 have hE:Ext w w':=Mv.ext (C:=fun _=>False) (Mv.of_grown hg fun r e=>by cases e) (fun _ _ h=>h);rcases ho.2 with⟨-,h0⟩|⟨g,cap,cur,rfl,hgl,hgb,h1,h2,h3,h4⟩
 ·simp at h0
 ·refine⟨g,cap,w',hr,hgl,(Array.getElem?_eq_some_iff.1 hgb).1,?_,hE⟩;have h5:(cur.toList.take 1)[0]?=some u:=by rw [show(1:Nat)=(0+1)*1 from rfl,h4];rfl
  rw [List.getElem?_take_of_lt Om]at h5;simp only [World.cell?,hgb];simpa using h5
theorem Qid{i:Int}(h:0≤i∧i<6):((2,i):Int×Int)∈Qx:=by
 obtain⟨h0,h1⟩:=h;have:i=0∨i=1∨i=2∨i=3∨i=4∨i=5:=by omega
 rcases this with rfl|rfl|rfl|rfl|rfl|rfl<;>decide
def QpI(ops:Array Oper):Prop:=Region.noSelect ops=true∧Qv ops 19 [0,1,2,3,5,6,8,9,10,11] 0=true∧Region.ready .any ops (msk 19 3951)= [4]∧Region.ready .any ops (msk 19 3967)= [7]∧Qv ops 19 [12] 4095=true∧Region.ready .any ops (msk 19 8191)= [13]∧Qv ops 19 [14,15,16,17,18] 16383=true∧Region.ready .any ops (msk 19 524287)= []
theorem Qkb:QpI ((Tryz.f120.body.bind (Qg 2)).getD #[]):=⟨Kr,Kr,Kr,Kr,Kr,Kr,Kr,Kr⟩
theorem QaU(x:Ru.Ac)(c:Cm)(a:Ag)(Ba b1 b2:Nat)(pl:List Int)(w:World)(ra:RowZ w Ba (agv a))(rb:RowZ w b2 #[.pointer (some ⟨Ba,0,none⟩)])(rx:RowZ w b1 (acv x))(hs:SlC w a.p a.xs)(hlt: ∀b off,a.p=some ⟨b,off,none⟩→b<w.heap.size)
  (hid:0≤a.id∧a.id<6)(hx:0≤x.t∧x.t<6)(hk:0≤x.k∧x.k<256)(hbu:0≤c.o.bu∧c.o.bu<256)(ho:ZY {c.o with ki:=x.k,ge:=x.g}=true)
  (hN:c.iN≤1000)(hN0:(c.ip=none∧pl= [])∨ ∃b off,c.ip=some ⟨b,off,none⟩)(hpl:pl.length=c.iN)(hcp:c.iN≤c.ic)(sp:SlB w c.ip pl)(rp:ByR pl)(hpp: ∀b off,c.ip=some ⟨b,off,none⟩→b<w.heap.size):
  Calls Tryz.prog 120 #[.agg (cmv c),.pointer (some ⟨b1,0,none⟩),.pointer (some ⟨b2,0,none⟩)] w (Qc4 w Ba a 0 a.xs [] [ipB (QP (2,a.id)) (QP (2,x.t)) (JD {c.o with ki:=x.k,ge:=x.g}) pl]):=by
 obtain⟨o1,eo⟩: ∃o1,({c.o with ki:=x.k,ge:=x.g}:Opt)=o1:=⟨_,rfl⟩;have HTU: ∀W,Calls Tryz.prog 121 #[.agg (opv c.o),.int .u8 x.k,.int .i64 x.g] W fun e w'=>e= .returned (.tuple #[.agg (opv o1),.int .i64 0])∧Ext W w':=fun W=>by
  have h:=QiV c.o x.k x.g W hbu hk;unfold Qgc Qgd at h;rw [ho,if_pos rfl,if_pos rfl,eo]at h;exact h
 have HEP: ∀W,SlB W c.ip pl→w.heap.size≤W.heap.size→Calls Tryz.prog 96 #[.agg (wrV (2,a.id) (2,x.t) o1 (.slice c.ip c.iN c.ic))] W fun e w'=> ∃v,e= .returned (.tuple #[v,.int .u8 0])∧Ya W w' v (ipB (QP (2,a.id)) (QP (2,x.t)) (JD o1) pl):=fun W hsp hw=>
  Qeo (2,a.id) (2,x.t) o1 pl c.ip c.iN c.ic W (Qid hid) (Qid hx) (by rw [←eo];exact hk) (by rw [←eo];exact hbu) (by rw [←eo];exact ho) hN hN0 hpl hcp hsp rp (fun b off e=>by have:=hpp b off e;omega)
 rw [eo];obtain⟨bs,ebs⟩: ∃bs,ipB (QP (2,a.id)) (QP (2,x.t)) (JD o1) pl=bs:=⟨_,rfl⟩;rw [ebs]at HEP⊢;have HTU:=Xh HTU;have HEP:=Xh HEP;clear ho hN hN0 hpl hcp rp hpp hid hx hk hbu eo ebs;have lA:Ba<w.heap.size:=ra.l;have lB:b2<w.heap.size:=rb.l;have lX:b1<w.heap.size:=rx.l
 go_enter Tryz.func120,Tryz.ntmps120
 go_upto_region 1 with(fail)
 obtain⟨W0,hW⟩: ∃W0,(w.alloc (.cells (cmv c) 98)).alloc (.cells #[.int .u8 0,.slice none 0 0,.slice none 0 0] 42)=W0:=⟨_,rfl⟩;have E:Ext w W0:=by rw [←hW];exact Ext.al (Ext.al (Ext.rf _) _) _
 have r3:RowZ W0 w.heap.size (cmv c):=by rw [←hW];exact⟨by simp [go_sem],by simp [go_sem],by simp [go_sem,Lt]⟩
 have r4:RowZ W0 (w.heap.size+1) #[.int .u8 0,.slice none 0 0,.slice none 0 0]:=by rw [←hW];exact⟨by simp [go_sem],by simp [go_sem],by simp [go_sem,Lt]⟩
 have hsz:W0.heap.size=w.heap.size+2:=by rw [←hW];simp
 rw [hW];clear hW;have ra:=ra.ext E;have rb:=rb.ext E;have rx:=rx.ext E;have hs:=hs.ext E;have sp:=sp.ext E;obtain⟨b3,e3⟩: ∃b,w.heap.size=b:=⟨_,rfl⟩;rw [e3]at r3 r4 hsz lA lB lX hlt⊢;obtain⟨b4,e4⟩: ∃b,b3+1=b:=⟨_,rfl⟩;rw [e4]at r4⊢;have q3:=r3.r;have cx2:W0.cell? ⟨b1,2,none⟩=some (.int .u8 x.k):=rx.cell 2 (by show 2<5;omega);have cx4:W0.cell? ⟨b1,4,none⟩=some (.int .i64 x.g):=rx.cell 4 (by show 4<5;omega);have HH:=Xh (And.intro E (And.intro ra (And.intro rb (And.intro rx (And.intro hs (And.intro sp (And.intro r3 r4)))))));have HSZ:=Xh hsz;clear E ra rb rx hs sp r3 r4 hsz
 go_upto_region 2 with(go_at_call 121;(with_reducible refine(HTU.out _).mono ?_);rintro e w1 ⟨rfl,g1⟩)
 obtain⟨E,ra,rb,rx,hs,sp,r3,r4⟩:=HH.out;have hsz:=HSZ.out;have hb5:W0.heap.size≤w1.heap.size:=g1.size;obtain⟨b5,e5⟩: ∃b,w1.heap.size=b:=⟨_,rfl⟩;obtain⟨W2,hW⟩: ∃W2,Qe (w1.alloc (.cells #[.int .u8 0,.int .u8 0,.int .i64 0,.int .i64 0,.int .i64 0,.int .i64 0] 75)) w1.heap.size 0 (opv o1)=W2:=⟨_,rfl⟩;have gn:Ext w1 (w1.alloc (.cells #[.int .u8 0,.int .u8 0,.int .i64 0,.int .i64 0,.int .i64 0,.int .i64 0] 75)):=Ext.al (Ext.rf _) _;have g2:Ext w1 W2:=by rw [←hW];exact Mv.ext_of (C:=fun q=>q=w1.heap.size) gn (Mv.sa _ rfl (Mv.refl _ _)) (fun q e=>by omega)
 have r5:RowZ W2 b5 (opv o1):=by
  rw [←hW,←e5];exact(show RowZ (w1.alloc (.cells #[.int .u8 0,.int .u8 0,.int .i64 0,.int .i64 0,.int .i64 0,.int .i64 0] 75)) w1.heap.size #[.int .u8 0,.int .u8 0,.int .i64 0,.int .i64 0,.int .i64 0,.int .i64 0]from RowZ.new _ _ _).all _ rfl
 have hz2:b5<W2.heap.size:=r5.l;rw [hW,e5];clear hW gn cx2 cx4 q3 HTU HSZ;have g2:=g1.tr g2;have E:=E.tr g2;have ra:=ra.ext g2;have rb:=rb.ext g2;have rx:=rx.ext g2;have hs:=hs.ext g2;have sp:=sp.ext g2;have r3:=r3.ext g2;have r4:=r4.ext g2;obtain⟨lo,hlo⟩: ∃lo,b5+1=lo:=⟨_,rfl⟩;have hbs:lo≤W2.heap.size:=by omega
 have h45:b4<b5:=by omega
 clear HH g1 g2 e5 hb5 hsz hz2;refine QT (fun _=>False) Kr ?_;obtain⟨WA,hW⟩: ∃Wdr,World.drew W2=Wdr:=⟨_,rfl⟩;have gD:Ext W2 WA:=by rw [←hW];exact Ext.dr (Ext.rf _)
 rw [hW];clear hW;have E:=E.tr gD;have ra:=ra.ext gD;have rb:=rb.ext gD;have rx:=rx.ext gD;have r3:=r3.ext gD;have r4:=r4.ext gD;have r5:=r5.ext gD;have hs:=hs.ext gD;have sp:=sp.ext gD;have hbs:=Xt hbs gD.size;refine Qas (N:=19) (R:=QpI) (E:=((Tryz.f120.body.bind (Qg 2)).getD #[])) Kr Qkb Kr fun hS=> ?_;have hT:=hS.2.1;refine tM 1 (.pointer (some ⟨Ba,0,none⟩)) hS.1 hT rfl (Qa5 (C:=fun _=>False) (rb.cell 0 Nat.zero_lt_one) rb.l (fun h=>h) Kr) fun hT=> ?_;refine tMk 3 (.pointer (some ⟨Ba,0,none⟩)) hS.1 hT rfl fun hT=> ?_;refine tMk 7 (.pointer (some ⟨Ba,0,none⟩)) hS.1 hT rfl fun hT=> ?_;refine tM 15 (.int .i64 a.id) hS.1 hT rfl (QW (C:=fun _=>False) (Yb ra.r) ra.l (fun h=>h) Kr) fun hT=> ?_;refine tMk 47 (.pointer (some ⟨b1,3,none⟩)) hS.1 hT rfl fun hT=> ?_;refine tM 111 (.int .i64 x.t) hS.1 hT rfl (QW (C:=fun _=>False) (rx.cell 3 (by show 3<5;omega)) rx.l (fun h=>h) Kr) fun hT=> ?_;refine tM 367 (.agg (opv o1)) hS.1 hT rfl (Qur (C:=fun _=>False) r5 rfl (fun h=>h) Kr) fun hT=> ?_;refine tMk 879 (.pointer (some ⟨b3,0,none⟩)) hS.1 hT rfl fun hT=> ?_;refine tMk 1903 (.pointer (some ⟨b3,10,none⟩)) hS.1 hT rfl fun hT=> ?_;refine tM 3951 (.slice c.ip c.iN c.ic) hS.1 hT rfl (Qad (C:=fun _=>False) (QZ r3 10 (by show 10<18;omega)) r3.l (fun h=>h) Kr) fun hT=> ?_;refine sM 3967 (fun v _=>v= .agg #[.int .u8 2,.int .i64 a.id]) hS.2.2.1 rfl (Zz (QcQ a.id WA)) ?_;rintro _ WB1 gWB1 rfl;have E:=E.tr gWB1;have ra:=ra.ext gWB1;have rb:=rb.ext gWB1;have rx:=rx.ext gWB1;have r3:=r3.ext gWB1;have r4:=r4.ext gWB1;have r5:=r5.ext gWB1;have hs:=hs.ext gWB1;refine sM 4095 (fun v _=>v= .agg #[.int .u8 2,.int .i64 x.t]) hS.2.2.2.1 rfl (Zz (QcQ x.t WB1)) ?_;rintro _ WB2 gWB2 rfl;have E:=E.tr gWB2;have ra:=ra.ext gWB2;have rb:=rb.ext gWB2;have rx:=rx.ext gWB2;have r3:=r3.ext gWB2;have r4:=r4.ext gWB2;have r5:=r5.ext gWB2;have hs:=hs.ext gWB2;have hT:=hS.2.2.2.2.1;refine tMk 8191 (.agg (wrV (2,a.id) (2,x.t) o1 (.slice c.ip c.iN c.ic))) hS.1 hT rfl fun hT=> ?_;refine sM 16383 (fun v W'=> ∃p q,v= .tuple #[.slice p bs.length q,.int .u8 0]∧SlB W' p bs∧ ∀b off,p=some ⟨b,off,none⟩→lo≤b) hS.2.2.2.2.2.1 rfl (QpF lo (HEP.out WB2 (sp.ext (by first|exact Ext.rf _|exact gWB1.tr gWB2)) E.size) (by have:=gWB1.size;have:=gWB2.size;omega)) ?_;rintro _ WB3 gWB3 ⟨pb,cb,rfl,sb,nbb⟩;have E:=E.tr gWB3;have ra:=ra.ext gWB3;have rb:=rb.ext gWB3;have rx:=rx.ext gWB3;have r3:=r3.ext gWB3;have r4:=r4.ext gWB3;have r5:=r5.ext gWB3;have hs:=hs.ext gWB3;have hT:=hS.2.2.2.2.2.2.1;refine tMk 32767 (.tuple #[.slice pb bs.length cb,.int .u8 0]) hS.1 hT rfl fun hT=> ?_;refine tMk 65535 (.slice pb bs.length cb) hS.1 hT rfl fun hT=> ?_;refine tMk 131071 (.int .u8 0) hS.1 hT rfl fun hT=> ?_;refine tMk 262143 (.slice pb bs.length cb) hS.1 hT rfl fun hT=> ?_;refine tMk 524287 (.int .u8 0) hS.1 hT rfl fun hT=> ?_;refine doneK hS.2.2.2.2.2.2.2 ?_;clear hS hT;have h34:b3+1=b4:=e4
 go_upto_region 3 with(fail)
 obtain⟨W5,hW⟩: ∃W5,WB3.alloc (.cells #[.slice pb bs.length cb] 28)=W5:=⟨_,rfl⟩;have g5:Ext WB3 W5:=by rw [←hW];exact Ext.al (Ext.rf _) _
 have hA:W5.cell? ⟨WB3.heap.size,0,none⟩=some (.slice pb bs.length cb):=by rw [←hW];simp [go_sem]
 obtain⟨g,cap,W6,hap,hg0,hg1,hcg,g6⟩:=QpH hA rfl 40;have r46:RowZ W6 b4 #[.int .u8 0,.slice none 0 0,.slice none 0 0]:=(r4.ext g5).ext g6;obtain⟨W7,hW7⟩: ∃W7,W6.setCell ⟨b4,2,none⟩ (.slice (some ⟨g,0,none⟩) 1 cap)=W7:=⟨_,rfl⟩;refine wp_region_lit ?_;refine listV (v:= .pointer (some ⟨b4,2,none⟩)) (w':=WB3) rfl Kr ?_;refine listV rfl (Qus (C:=fun _=>False) (r4.cell 2 (by show 2<3;omega)) r4.l (fun h=>h) Kr _ (Mv.refl _ _)) ?_;refine listV (v:= .slice pb bs.length cb) (w':=WB3) rfl Kr ?_;refine listV rfl (QmL (p:=pb) (n:=bs.length) (m:=cb) Kr _) ?_;rw [hW];refine listV rfl (QaX (v1:= .slice none 0 0) (v2:= .slice (some ⟨WB3.heap.size,0,none⟩) 1 1) Kr Kr hap) ?_;refine listV (v:= .pointer (some ⟨b4,2,none⟩)) (w':=W6) rfl Kr ?_;refine Zk rfl (QpG (B:=b4) (i:=2) (v:= .slice (some ⟨g,0,none⟩) 1 cap) (r46.cell 2 (by show 2<3;omega)) (r46.frz 2) ⟨_,_,_,rfl⟩ Kr Kr) ?_;refine wpList_nil ?_;have r4:RowZ W7 b4 #[.int .u8 0,.slice none 0 0,.slice (some ⟨g,0,none⟩) 1 cap]:=by rw [←hW7];exact r46.set 2 _
 have m7:Mv (fun q=>q=b4) W6 W7:=by rw [←hW7];exact Mv.st _ (.inl rfl) (Mv.refl _ _)
 rw [hW7];have g36:Ext WB3 W6:=g5.tr g6;have E6:=E.tr g36;have hlo6:lo≤WB3.heap.size:=by have:=gWB1.size;have:=gWB2.size;have:=gWB3.size;omega
 have hlg:lo≤g:=by have:=g5.size;omega
 have E7:Mv (fun q=>q=Ba) w W7:=(Mv.of_ext E6).trn m7 (fun q e=> .inr Om);have ra7:RowZ W7 Ba (agv a):=(ra.ext g36).mv m7 Om;have hs7:SlC W7 a.p a.xs:=(hs.ext g36).mvg m7 (fun b off e=>by have:=hlt b off e;omega);have hg7:g<W7.heap.size:=Xl hg1 m7.size;have hc7:W7.cell? ⟨g,0,none⟩=some (.slice pb bs.length cb):=by rw [Qa,Qf (m7.same g hg1 Om),←Qa];exact hcg
 have sb7:SlB W7 pb bs:=(sb.ext g36).mvg m7 (fun b off e=>by have:=nbb b off e;omega);have HC:=Xh (And.intro E7 (And.intro ra7 (And.intro hs7 (And.intro hg7 (And.intro hc7 (And.intro sb7 (And.intro hlg hlt)))))));have q4:=r4.r;have f4:=r4.z;have z4:=r4.l;clear E7 ra7 hs7 hg7 hc7 sb7 hlg hlt E6 g36 hlo6 m7 r46 hap hcg hA g5 g6 hW7 hW E ra rb rx r3 r5 hs sb r4;go_simp;go_wp2;obtain⟨W8,h8⟩: ∃W8,Qe W7 b4 0 #[.int .u8 0,.slice none 0 0,.slice (some ⟨g,0,none⟩) 1 cap]=W8:=⟨_,rfl⟩;have q5:Qc W8 b4=#[.int .u8 0,.slice none 0 0,.slice (some ⟨g,0,none⟩) 1 cap]:=by rw [←h8];exact Qq _ _ _ (by rw [q4])
 rw [h8];obtain⟨E,ra,hs,hg,hc,sb,hlg,hlt⟩:=HC.out;have m8:Mv (fun q=>q=b4) W7 W8:=by rw [←h8];exact Mv.sa _ rfl (Mv.refl _ _)
 exact bodyPost_ret (Zt rfl _ _ b4 rfl (J1 q5 rfl)) rfl (Qcw (lo:=lo) (a:=a) (p:=a.p) (c:=a.c) (es:= []) (ss:= [bs]) h8 E ra hs (SlE.nil _ none) (fun k hk=>by
  obtain rfl:k=0:=by simp at hk;exact hk
  exact⟨g,0,pb,cb,rfl,Xl hg m8.size,by rw [Qa,Qf (m8.same g hg Om),←Qa];exact hc,sb.mvg m8 (fun b off e=>by have:=nbb b off e;omega)⟩) Om Om Om (.inr ⟨rfl,fun b off e=>by have:=hlt b off e;omega⟩) (fun b off e=>by cases e) (fun b off e=>by cases e;exact hlg))
theorem QeJ:Ru.QeV Tryz.prog 5 (fun x=> ∃n:Int,x= .int .u8 n):=Ru.QwB .u8 Tryz.underlying5
theorem QrG{ty:TypeId}{g:Option (Nat×Bool)}(w:World):
  (execOp ρ ⟨dst,.makeMap 108 none,ty,pos,after,g⟩).run Tryz.prog w= .ok (.value (.map (some w.heap.size))) (w.alloc (.map #[] 0)):=by
 have:=run_makeMap (P:=Tryz.prog) 108 w;simp [execOp,this,Result.andThen]
theorem Qcx{m k v:Value}{p q r:Operand}{ty:TypeId}{g:Option (Nat×Bool)}(hp:ρ p=m)(hq:ρ q=k)(hr:ρ r=v)
  (h:(Instr.mapUpdate 108 m k v).run Tryz.prog w= .ok () w'):(execOp ρ ⟨dst,.insert 108 p q r,ty,pos,after,g⟩).run Tryz.prog w= .ok .skip w':=by
 simp only [execOp,hp,hq,hr,Sem.run_bind,h,Result.andThen_ok,Sem.run_pure]
structure QeK(w:World)(m:Value)(x:Ru.Ac)(Ba b1 b2 bc:Nat):Prop where
 is: ∃B f,m= .map (some B)∧Ru.ZB (fun x=> ∃n:Int,x= .int .u8 n) w B f∧f (.int .u8 0)=some (.func (.func 113) #[] #[.pointer (some ⟨b1,0,none⟩)])∧f (.int .u8 1)=some (.func (.func 114) #[] #[.pointer (some ⟨bc,0,none⟩),.pointer (some ⟨b2,0,none⟩)])∧f (.int .u8 2)=some (.func (.func 118) #[] #[.pointer (some ⟨b2,0,none⟩),.pointer (some ⟨bc,0,none⟩)])∧f (.int .u8 3)=some (.func (.func 120) #[] #[.pointer (some ⟨b1,0,none⟩),.pointer (some ⟨b2,0,none⟩)])
 rx:RowZ w b1 (acv x)
 rb:RowZ w b2 #[.pointer (some ⟨Ba,0,none⟩)]
 rc:RowZ w bc #[.func (.func 112) #[] #[.pointer (some ⟨b2,0,none⟩)]]
 ne:Ba≠b2∧Ba≠bc∧Ba≠b1
theorem QpJ(x:Ru.Ac)(Ba:Nat)(w:World)(lA:Ba<w.heap.size):
  Calls Tryz.prog 48 #[.pointer (some ⟨Ba,0,none⟩),.agg (acv x)] w fun e w'=> ∃m b1 b2 bc,e= .returned m∧QeK w' m x Ba b1 b2 bc∧Ext w w':=by
 unfold acv
 go_enter Tryz.func48,Tryz.ntmps48
 go_upto_region 2 with(fail)
 obtain⟨V,hV⟩: ∃V,(((w.alloc (.cells #[.pointer (some ⟨Ba,0,none⟩)] 110)).alloc (.cells #[.int .u8 x.d,.int .u8 x.x,.int .u8 x.k,.int .i64 x.t,.int .i64 x.g] 105)).alloc (.cells #[.func (.func 112) #[] #[.pointer (some ⟨w.heap.size,0,none⟩)]] 168))=V:=⟨_,rfl⟩;have E:Ext w V:=by rw [←hV];exact Ext.al (Ext.al (Ext.al (Ext.rf _) _) _) _
 have rb:RowZ V w.heap.size #[.pointer (some ⟨Ba,0,none⟩)]:=by rw [←hV];exact⟨by simp [go_sem],by simp [go_sem],by simp [go_sem,Lt]⟩
 have rx:RowZ V (w.heap.size+1) (acv x):=by rw [←hV];exact⟨by simp [go_sem,acv],by simp [go_sem],by simp [go_sem,Lt]⟩
 have rc:RowZ V (w.heap.size+1+1) #[.func (.func 112) #[] #[.pointer (some ⟨w.heap.size,0,none⟩)]]:=by rw [←hV];exact⟨by simp [go_sem],by simp [go_sem],by simp [go_sem,Lt]⟩
 rw [hV];clear hV;obtain⟨b2,e2⟩: ∃b,w.heap.size=b:=⟨_,rfl⟩;rw [e2]at rb rx rc lA⊢;obtain⟨b1,e1⟩: ∃b,b2+1=b:=⟨_,rfl⟩;rw [e1]at rx rc⊢;obtain⟨bc,ec⟩: ∃b,b1+1=b:=⟨_,rfl⟩;rw [ec]at rc⊢;obtain⟨M,hM⟩: ∃M,V.heap.size=M:=⟨_,rfl⟩;have lb:b2<M:=by rw [←hM];exact rb.l
 have lx:b1<M:=by rw [←hM];exact rx.l
 have lc:bc<M:=by rw [←hM];exact rc.l
 have lw:w.heap.size≤M:=by rw [←hM];exact E.size
 obtain⟨V0,hV0⟩: ∃V0,V.alloc (.map #[] 0)=V0:=⟨_,rfl⟩;have h0:Ru.ZB (fun x=> ∃n:Int,x= .int .u8 n) V0 M (fun _=>none):=by rw [←hV0,←hM];exact Ru.ZB.new V
 have g0:Ext V V0:=by rw [←hV0];exact Ext.al (Ext.rf _) _
 obtain⟨V1,hr1,h1,o1,o2,o3,o4,o5⟩:=Ru.ZB.store (P:=Tryz.prog) (t:=108) QeJ Tryz.underlying108 h0 ⟨0,rfl⟩ (by simp) (.func (.func 113) #[] #[.pointer (some ⟨b1,0,none⟩)]);have m1:Mv (fun q=>q=M) V0 V1:=⟨o1,o2,o3,Nat.le_of_eq o4.symm,fun k _ hk=>o5 k hk⟩;clear o1 o2 o3 o4 o5;obtain⟨V2,hr2,h2,o1,o2,o3,o4,o5⟩:=Ru.ZB.store (P:=Tryz.prog) (t:=108) QeJ Tryz.underlying108 h1 ⟨1,rfl⟩ (by simp) (.func (.func 114) #[] #[.pointer (some ⟨bc,0,none⟩),.pointer (some ⟨b2,0,none⟩)]);have m2:Mv (fun q=>q=M) V1 V2:=⟨o1,o2,o3,Nat.le_of_eq o4.symm,fun k _ hk=>o5 k hk⟩;clear o1 o2 o3 o4 o5;obtain⟨V3,hr3,h3,o1,o2,o3,o4,o5⟩:=Ru.ZB.store (P:=Tryz.prog) (t:=108) QeJ Tryz.underlying108 h2 ⟨2,rfl⟩ (by simp) (.func (.func 118) #[] #[.pointer (some ⟨b2,0,none⟩),.pointer (some ⟨bc,0,none⟩)]);have m3:Mv (fun q=>q=M) V2 V3:=⟨o1,o2,o3,Nat.le_of_eq o4.symm,fun k _ hk=>o5 k hk⟩;clear o1 o2 o3 o4 o5;obtain⟨V4,hr4,h4,o1,o2,o3,o4,o5⟩:=Ru.ZB.store (P:=Tryz.prog) (t:=108) QeJ Tryz.underlying108 h3 ⟨3,rfl⟩ (by simp) (.func (.func 120) #[] #[.pointer (some ⟨b1,0,none⟩),.pointer (some ⟨b2,0,none⟩)]);have m4:Mv (fun q=>q=M) V3 V4:=⟨o1,o2,o3,Nat.le_of_eq o4.symm,fun k _ hk=>o5 k hk⟩;clear o1 o2 o3 o4 o5;refine wp_region_lit ?_;refine listV rfl (QrG _) ?_;rw [hV0,hM];refine listV (v:=(.func (.func 113) #[] #[.pointer (some ⟨b1,0,none⟩)])) (w':=V0) rfl Kr ?_;refine Zk rfl (Qcx (m:= .map (some M)) (k:= .int .u8 0) (v:=(.func (.func 113) #[] #[.pointer (some ⟨b1,0,none⟩)])) Kr Kr Kr hr1) ?_;refine listV (v:=(.func (.func 114) #[] #[.pointer (some ⟨bc,0,none⟩),.pointer (some ⟨b2,0,none⟩)])) (w':=V1) rfl Kr ?_;refine Zk rfl (Qcx (m:= .map (some M)) (k:= .int .u8 1) (v:=(.func (.func 114) #[] #[.pointer (some ⟨bc,0,none⟩),.pointer (some ⟨b2,0,none⟩)])) Kr Kr Kr hr2) ?_;refine listV (v:=(.func (.func 118) #[] #[.pointer (some ⟨b2,0,none⟩),.pointer (some ⟨bc,0,none⟩)])) (w':=V2) rfl Kr ?_;refine Zk rfl (Qcx (m:= .map (some M)) (k:= .int .u8 2) (v:=(.func (.func 118) #[] #[.pointer (some ⟨b2,0,none⟩),.pointer (some ⟨bc,0,none⟩)])) Kr Kr Kr hr3) ?_;refine listV (v:=(.func (.func 120) #[] #[.pointer (some ⟨b1,0,none⟩),.pointer (some ⟨b2,0,none⟩)])) (w':=V3) rfl Kr ?_;refine Zk rfl (Qcx (m:= .map (some M)) (k:= .int .u8 3) (v:=(.func (.func 120) #[] #[.pointer (some ⟨b1,0,none⟩),.pointer (some ⟨b2,0,none⟩)])) Kr Kr Kr hr4) ?_;refine listV (v:= .map (some M)) (w':=V4) rfl Kr ?_;refine listV (v:= .map (some M)) (w':=V4) rfl Kr ?_;refine wpList_nil ?_;have m:Mv (fun q=>q=M) V0 V4:=((m1.trans m2).trans m3).trans m4;have HC:=Xh (show Ext w V4∧RowZ V4 b1 (acv x)∧RowZ V4 b2 #[.pointer (some ⟨Ba,0,none⟩)]∧RowZ V4 bc #[.func (.func 112) #[] #[.pointer (some ⟨b2,0,none⟩)]]from⟨Mv.ext_of (E.tr g0) m (fun q e=>by omega),(rx.ext g0).mv m Om,(rb.ext g0).mv m Om,(rc.ext g0).mv m Om⟩);have HM:=Xh h4;clear h0 h1 h2 h3 h4 hr1 hr2 hr3 hr4 m1 m2 m3 m4 m g0 hV0 E rx rb rc;go_simp;go_wp2;obtain⟨E,rx,rb,rc⟩:=HC.out;go_ret;exact⟨.map (some M),b1,b2,bc,rfl,⟨⟨M,_,rfl,HM.out,by simp,by simp,by simp,by simp⟩,rx,rb,rc,Om,Om,Om⟩,E⟩
theorem QpK{C:Nat→Prop}(h0:RowZ w B cs)(h3:cs.size=3)(hC: ¬C B){q:Operand}{ty:TypeId}{g:Option (Nat×Bool)}
  (hx:ρ q= .pointer (some ⟨B,0,none⟩)): ∀w',Mv C w w'→(execOp ρ ⟨dst,.load 42 q,ty,pos,after,g⟩).run Tryz.prog w'= .ok (.value (.agg cs)) w':=by
 intro w' hE;have h1:=h0.mv hE hC;have e:=Qcv ρ dst q ty pos after g w' (by rw [hx];rfl) (by rw [hx];show Fits 0 3 (Qc w' B);rw [h1.r];unfold Fits;omega);rw [e,hx];show Result.ok (Next.value (Value.agg (QA (Qc w' B) 0 3))) w'=_;rw [h1.r,Q9 _ 3 h3]
theorem QpL{id:Nat}{Q:Exit→Act→World→Prop}{a:Act}{b6:Nat}{o:Ag}{d:Dn}(h6:a.eval (.tmp 6)= .pointer (some ⟨b6,0,none⟩))(h7:a.eval (.tmp 7)= .pointer (some ⟨b7,0,none⟩))(hz:a.tmps.size=128)(r6:RowZ w b6 (agv o))(r7:RowZ w b7 (dnv d))
  (H: ∀a' w',Ext w w'→RowZ w' b6 (agv o)→RowZ w' b7 (dnv d)→a'.eval (.tmp 6)= .pointer (some ⟨b6,0,none⟩)→a'.eval (.tmp 7)= .pointer (some ⟨b7,0,none⟩)→a'.defers=a.defers→Q .normal a' w'):(Code.region id #[⟨some 124,.load 27 (.tmp 6),27, "agent.go:124",#[],none⟩,⟨some 125,.load 42 (.tmp 7),42, "agent.go:124",#[⟨2,.gcOnly .lateStores⟩],none⟩,⟨none,.store 27 (.tmp 6) (.tmp 124),0, "agent.go:124",#[⟨0,.data⟩,⟨0,.phase⟩,⟨1,.textOnly .lateStores⟩],none⟩,⟨none,.store 42 (.tmp 7) (.tmp 125),0, "agent.go:124",#[⟨1,.data⟩,⟨2,.chain⟩,⟨0,.phase⟩,⟨1,.phase⟩,⟨2,.phase⟩],none⟩] true).wp Tryz.prog Q a w:=by
 refine wp_region_quiet (C:=fun w'=>Ext w w'∧RowZ w' b6 (agv o)∧RowZ w' b7 (dnv d)) Kr Kr ⟨Ext.dr (Ext.rf w),r6.ext (Ext.dr (Ext.rf w)),r7.ext (Ext.dr (Ext.rf w))⟩ ?_;refine Qap (.agg (agv o)) rfl (fun w' hw=>ZM (C:=fun _=>False) hw.2.1 (fun h=>h) h6 _ (Mv.refl _ _)) ?_;refine Qap (.agg (dnv d)) rfl (fun w' hw=>QpK (C:=fun _=>False) hw.2.2 rfl (fun h=>h) (by rw [QI Dc];exact h7) _ (Mv.refl _ _)) ?_;refine QcW rfl (fun w' hw=>(Zu (B:=b6) (cs:=agv o) (by rw [hw.2.1.r];exact Qi) hw.2.1.z Qi ZS (by rw [QI Dc,QI Dc];exact h6) (by rw [QI Dc];exact Qao Om)).trans (by rw [JZ hw.2.1])) ?_;refine QcW rfl (fun w' hw=>(Jc (B:=b7) (cs:=dnv d) (by rw [hw.2.2.r];rfl) hw.2.2.z rfl (by simp [go_sem,dnv]) (by show Act.eval _ _=_;rw [QI Dc,QI Dc];exact h7) (Qao (by rw [Zw];omega))).trans (by rw [JZ hw.2.2])) ?_;refine wpQuiet_nil fun w' hw=>H _ w' hw.1 hw.2.1 hw.2.2 ?_ ?_ rfl
 ·show((a.put (some 124) _).put (some 125) _).eval _=_;rw [QI Dc,QI Dc];exact h6
 ·show((a.put (some 124) _).put (some 125) _).eval _=_;rw [QI Dc,QI Dc];exact h7
theorem JC{id:Nat}{Q:Exit→Act→World→Prop}{a:Act}{b6:Nat}{o:Ag}{d:Dn}(h6:a.eval (.tmp 6)= .pointer (some ⟨b6,0,none⟩))(h7:a.eval (.tmp 7)= .pointer (some ⟨b7,0,none⟩))(hz:a.tmps.size=128)(r6:RowZ w b6 (agv o))(r7:RowZ w b7 (dnv d))
  (H: ∀a' w',Ext w w'→RowZ w' b6 (agv o)→RowZ w' b7 (dnv d)→a'.eval (.tmp 6)= .pointer (some ⟨b6,0,none⟩)→a'.eval (.tmp 7)= .pointer (some ⟨b7,0,none⟩)→a'.defers=a.defers→Q .normal a' w'):(Code.region id #[⟨some 126,.load 27 (.tmp 6),27, "agent.go:127",#[],none⟩,⟨some 127,.load 42 (.tmp 7),42, "agent.go:127",#[⟨2,.gcOnly .lateStores⟩],none⟩,⟨none,.store 27 (.tmp 6) (.tmp 126),0, "agent.go:127",#[⟨0,.data⟩,⟨0,.phase⟩,⟨1,.textOnly .lateStores⟩],none⟩,⟨none,.store 42 (.tmp 7) (.tmp 127),0, "agent.go:127",#[⟨1,.data⟩,⟨2,.chain⟩,⟨0,.phase⟩,⟨1,.phase⟩,⟨2,.phase⟩],none⟩] true).wp Tryz.prog Q a w:=by
 refine wp_region_quiet (C:=fun w'=>Ext w w'∧RowZ w' b6 (agv o)∧RowZ w' b7 (dnv d)) Kr Kr ⟨Ext.dr (Ext.rf w),r6.ext (Ext.dr (Ext.rf w)),r7.ext (Ext.dr (Ext.rf w))⟩ ?_;refine Qap (.agg (agv o)) rfl (fun w' hw=>ZM (C:=fun _=>False) hw.2.1 (fun h=>h) h6 _ (Mv.refl _ _)) ?_;refine Qap (.agg (dnv d)) rfl (fun w' hw=>QpK (C:=fun _=>False) hw.2.2 rfl (fun h=>h) (by rw [QI Dc];exact h7) _ (Mv.refl _ _)) ?_;refine QcW rfl (fun w' hw=>(Zu (B:=b6) (cs:=agv o) (by rw [hw.2.1.r];exact Qi) hw.2.1.z Qi ZS (by rw [QI Dc,QI Dc];exact h6) (by rw [QI Dc];exact Qao Om)).trans (by rw [JZ hw.2.1])) ?_;refine QcW rfl (fun w' hw=>(Jc (B:=b7) (cs:=dnv d) (by rw [hw.2.2.r];rfl) hw.2.2.z rfl (by simp [go_sem,dnv]) (by show Act.eval _ _=_;rw [QI Dc,QI Dc];exact h7) (Qao (by rw [Zw];omega))).trans (by rw [JZ hw.2.2])) ?_;refine wpQuiet_nil fun w' hw=>H _ w' hw.1 hw.2.1 hw.2.2 ?_ ?_ rfl
 ·show((a.put (some 126) _).put (some 127) _).eval _=_;rw [QI Dc,QI Dc];exact h6
 ·show((a.put (some 126) _).put (some 127) _).eval _=_;rw [QI Dc,QI Dc];exact h7
open Go.RowKit
theorem Qlq:(Tryz.prog.info? 105).map (·.size)=some 5:=Kr
theorem QmQ{b o:Nat}(h:o+5≤(Qc w b).size):(Instr.loadAt 105 (.pointer (some ⟨b,o,none⟩))).run Tryz.prog w= .ok (.agg ((Qc w b).extract o (o+5))) w:=by
 have:=run_loadAt_mid w b o 105 ((Qc w b).extract o (o+5)).toList _ (QC w b o (o+5)) Tryz.underlying105 rfl (by rw [Qlq];simp;omega)
 rwa [Array.toArray_toList]at this
@[go_sem ↓ high] theorem QcA(ρ:Operand→Value)(dst:Option Tmp)(x:Operand)(ty:TypeId)(pos:String)(after:Array Edge)(g:Option (Nat×Bool))(w:World)
  (hx:ρ x= .pointer (some ⟨Qb (ρ x),Qd (ρ x),none⟩))(h:Fits (Qd (ρ x)) 5 (Qc w (Qb (ρ x)))):
  (execOp ρ ⟨dst,.load 105 x,ty,pos,after,g⟩).run Tryz.prog w= .ok (.value (.agg (QA (Qc w (Qb (ρ x))) (Qd (ρ x)) 5))) w:=by
 unfold Fits at h;generalize hB:Qb (ρ x)=B at*;generalize hO:Qd (ρ x)=O at*;simp only [execOp,hx,Sem.run_bind,QmQ h,Result.andThen_ok,Sem.run_pure,QA]
@[go_sem ↓ high] theorem Qs5{l:Option Nat}{x:Operand}{ty:TypeId}{g:Option (Nat×Bool)}(w:World)
  (hx:ρ x= .pointer (some ⟨Qb (ρ x),Qd (ρ x),none⟩))(h:Fits (Qd (ρ x)) 5 (Qc w (Qb (ρ x)))):
  (Oper.semAt l ρ ⟨dst,.load 105 x,ty,pos,after,g⟩).run Tryz.prog w= .ok (.value (.agg (QA (Qc w (Qb (ρ x))) (Qd (ρ x)) 5))) w:=by rw [Oper.semAt_eq _ _ _ (fun c h=>by cases h)];exact QcA ρ dst x ty pos after g w hx h
@[go_sem ↓ high] theorem QbC(ρ:Operand→Value)(dst:Option Tmp)(x y:Operand)(ty:TypeId)(pos:String)(after:Array Edge)(g:Option (Nat×Bool))(w:World)
  (hx:ρ x= .pointer (some ⟨Qb (ρ x),Qd (ρ x),none⟩))(hy:ρ y= .agg (ρ y).cells)(hs:Qo (ρ y).cells 5)(h:Fits (Qd (ρ x)) 5 (Qc w (Qb (ρ x))))(hz:Qt w (Qb (ρ x))=(0,0))(h1:QM (ρ y).cells):
  (execOp ρ ⟨dst,.store 105 x y,ty,pos,after,g⟩).run Tryz.prog w= .ok .skip (Qe w (Qb (ρ x)) (Qd (ρ x)) (ρ y).cells):=by
 unfold Fits at h;unfold Qo at hs;generalize hB:Qb (ρ x)=B at*;generalize hO:Qd (ρ x)=O at*;generalize hC:(ρ y).cells=C at*;have hst:(Instr.storeAt 105 (.pointer (some ⟨B,O,none⟩)) (.agg C)).run Tryz.prog w= .ok () (Qe w B O C):=
  run_storeAt_mid w B O 105 C (fun j hj=>⟨by rw [Qa,Array.getElem?_eq_getElem Om];rfl,Ql hz _⟩) (by rw [Qlq,hs]) h1
 simp only [execOp,hx,hy,Sem.run_bind,hst,Result.andThen_ok,Sem.run_pure]
@[go_sem ↓ high] theorem QrI{l:Option Nat}{x y:Operand}{ty:TypeId}{g:Option (Nat×Bool)}(w:World)
  (hx:ρ x= .pointer (some ⟨Qb (ρ x),Qd (ρ x),none⟩))(hy:ρ y= .agg (ρ y).cells)(hs:Qo (ρ y).cells 5)(h:Fits (Qd (ρ x)) 5 (Qc w (Qb (ρ x))))(hz:Qt w (Qb (ρ x))=(0,0))(h1:QM (ρ y).cells):
  (Oper.semAt l ρ ⟨dst,.store 105 x y,ty,pos,after,g⟩).run Tryz.prog w= .ok .skip (Qe w (Qb (ρ x)) (Qd (ρ x)) (ρ y).cells):=by rw [Oper.semAt_eq _ _ _ (fun c h=>by cases h)];exact QbC ρ dst x y ty pos after g w hx hy hs h hz h1
theorem Qig(hs:(Qc w B).size=5)(hz:Qt w B=(0,0))(hcs:cs.size=5)(ho:QM cs){x y:Operand}{ty:TypeId}{g:Option (Nat×Bool)}
  (hx:ρ x= .pointer (some ⟨B,0,none⟩))(hy:ρ y= .agg cs):(execOp ρ ⟨dst,.store 105 x y,ty,pos,after,g⟩).run Tryz.prog w= .ok .skip (Qe w B 0 cs):=by
 have e:=QbC ρ dst x y ty pos after g w (by rw [hx];rfl) (by rw [hy];rfl) (by rw [hy];exact hcs) (by rw [hx];show Fits 0 5 (Qc w B);unfold Fits;omega) (by rw [hx];exact hz) (by rw [hy];exact ho);rw [e,hx,hy];rfl
def Qbo(x:Ru.Ac)(a:Ag)(c:Cm)(pl:List Int):Int×List Co×List Ev×List (List Int):=
 if x.d=0 then(x.x,a.xs,[],[])else if x.d=1 then(0,Qib a c,QeI a c,[])else if x.d=2 then(0,Qav a.xs c.pk.tu c.now,[⟨1,a.id,c.pk.tu⟩],[])
 else(0,a.xs,[],[ipB (QP (2,a.id)) (QP (2,x.t)) (JD {c.o with ki:=x.k,ge:=x.g}) pl])
theorem Qkh{C:Nat→Prop}(h0:RowZ w B cs)(h5:cs.size=5)(hC: ¬C B){q:Operand}{ty:TypeId}{g:Option (Nat×Bool)}
  (hx:ρ q= .pointer (some ⟨B,0,none⟩)): ∀w',Mv C w w'→(execOp ρ ⟨dst,.load 105 q,ty,pos,after,g⟩).run Tryz.prog w'= .ok (.value (.agg cs)) w':=by
 intro w' hE;have h1:=h0.mv hE hC;have e:=QcA ρ dst q ty pos after g w' (by rw [hx];rfl) (by rw [hx];show Fits 0 5 (Qc w' B);rw [h1.r];unfold Fits;omega);rw [e,hx];show Result.ok (Next.value (Value.agg (QA (Qc w' B) 0 5))) w'=_;rw [h1.r,Q9 _ 5 h5]
theorem Qki{C D M:Nat→Prop}{r:Nat}{R:Value→World→Prop}{k m:Nat}{f:FuncId}{a:Act}(hm:m|||(1<<<k)=m')(hi:ops[k]?=some oi)(hw:Region.wanted oi (yielded ops a.tmps)=true)
  (he:(execOp a.eval oi).run P w= .ok (.enter f args) w)(hc:Calls P f args w fun e w'=> ∃v,e= .returned v∧R v w'∧Mv M w w')(hr:r≤k∨ ∀q,M q→C q)(hD: ∀q,M q→D q)
  (H: ∀v w',Mv M w w'→R v w'→QO C D r P .any ops Q fuel (msk N m') (a.put oi.dst v) w'):QaL C D r P ops Q fuel N k m a w:=by
 refine⟨?_⟩;unfold Jd;simp only [hi,hw,if_true,he,hm];exact hc.mono fun e w' ⟨v,h1,h2,h3⟩=>⟨v,h1,⟨hr.imp id fun h=>h3.mono fun q _ e=>h q e,h3.mono fun q _ e=>hD q e⟩,H v w' h3 h2⟩
theorem Qc6{f:Value→Option Value}{n:Int}{v:Value}(h:Ru.ZB (fun x=> ∃n:Int,x= .int .u8 n) w B f)(hv:f (.int .u8 n)=some v){x y:Operand}{ty:TypeId}{g:Option (Nat×Bool)}(hx:ρ x= .map (some B))(hy:ρ y= .int .u8 n):
  (execOp ρ ⟨dst,.lookup 108 x y false,ty,pos,after,g⟩).run Tryz.prog w= .ok (.value v) w:=by
 have h1:=h.look QeJ Tryz.underlying108 ⟨n,rfl⟩ .nilFunc (by simp [go_sem]);rw [hv]at h1;simp [execOp,hx,hy,h1,Result.andThen]
theorem Qkj{x:Ru.Ac}{a b:Ag}{c d:Cm}{pl:List Int}(h1:b.xs=a.xs)(h2:b.id=a.id)(h3:d.pk=c.pk)(h4:d.now=c.now)(h5:d.o=c.o):Qbo x b d pl=Qbo x a c pl:=by
 unfold Qbo Qib QeI QdE;rw [h1,h2,h3,h4,h5]
theorem QfE{a:Ag}(h:agR a=true)(k:Nat)(hk:k<16):(toR (a.md k)).right=true:=by
 unfold agR at h;simp only [Bool.and_eq_true,List.all_eq_true,List.mem_range]at h;have:=h.1.2 k hk;unfold Qdw at this;simp only [Bool.and_eq_true]at this;exact this.1
theorem QrJ{o:Opt}(h:ZY o=true):0≤o.ge∧o.ge≤2147483647:=by
 unfold ZY Qaf QeT at h;simp only [List.all_cons,List.all_nil,Bool.and_eq_true,decide_eq_true_eq]at h
 grind
theorem QrK{m:Ru.Md}{k f g:Int}{s n r:Bool}:(Ru.Qs4 m k f g s n r).d=0∨(Ru.Qs4 m k f g s n r).d=1∨(Ru.Qs4 m k f g s n r).d=2∨(Ru.Qs4 m k f g s n r).d=3:=by
 obtain⟨x,hx⟩: ∃x,Ru.Qs4 m k f g s n r=x:=⟨_,rfl⟩;rw [hx];unfold Ru.Qs4 Ru.Qs3 Ru.Qai Ru.Qeg Ru.Y2 Ru.Zq at hx;have hac:Ru.QkZ r=2∨Ru.QkZ r=0:=by unfold Ru.QkZ;cases r<;>decide
 repeat' split at hx
 all_goals(subst hx;first|exact .inl rfl|exact .inr (.inl rfl)|exact .inr (.inr (.inr rfl))|(rcases hac with h|h;exact .inr (.inr (.inl h));exact .inl h))
def Qlr(x:Ru.Ac)(Ba:Nat)(v:Value)(w':World):Prop:= ∃b1 b2 bc,QeK w' v x Ba b1 b2 bc
theorem Qkk(x:Ru.Ac)(Ba:Nat)(w:World)(lA:Ba<w.heap.size):Calls Tryz.prog 48 #[.pointer (some ⟨Ba,0,none⟩),.agg (acv x)] w fun e w'=> ∃v,e= .returned v∧Qlr x Ba v w'∧Ext w w':=
 (QpJ x Ba w lA).mono fun e w' ⟨m,b1,b2,bc,h1,h2,h3⟩=>⟨m,h1,⟨b1,b2,bc,h2⟩,h3⟩
def QrL(w:World)(Ba:Nat)(a:Ag)(dr:Int)(xs:List Co)(es:List Ev)(ss:List (List Int))(v:Value)(w':World):Prop:=
 ∃p c ep ec sp sc,v= .agg (dnv ⟨dr,ep,es.length,ec,sp,ss.length,sc⟩)∧RowZ w' Ba (agv {a with p:=p,xs:=xs,c:=c})∧SlC w' p xs∧SlE w' ep es∧SlBB w' sp ss∧
  (∀b off,p=some ⟨b,off,none⟩→w.heap.size≤b∨p=a.p)∧(∀b off,ep=some ⟨b,off,none⟩→w.heap.size≤b)∧(∀b off,sp=some ⟨b,off,none⟩→w.heap.size≤b)
theorem QpM{f:Nat}{Ba:Nat}{a:Ag}{dr:Int}{xs:List Co}{es:List Ev}{ss:List (List Int)}(h:Calls Tryz.prog f args w (Qc4 w Ba a dr xs es ss)):
  Calls Tryz.prog f args w fun e w'=> ∃v,e= .returned v∧QrL w Ba a dr xs es ss v w'∧Mv (fun q=>q=Ba) w w':=
 h.mono fun e w' ⟨p,c,ep,ec,sp,sc,h1,h2,h3,h4,h5,h6,h7,h8,h9⟩=>⟨_,h1,⟨p,c,ep,ec,sp,sc,rfl,h2,h3,h4,h5,h7,h8,h9⟩,h6⟩
theorem SlBB.mv3{B:World}{p:Option Addr}{bss:List (List Int)}(h:SlBB A p bss)(m:Mv (fun q=>q=b7) A B)(r:RowZ A b7 cs)(hb: ∀b off,p=some ⟨b,off,none⟩→b≠b7)(hl:cs.size≤3∧ ∀bs∈bss,3<bs.length):SlBB B p bss:=fun k hk=>by
 obtain⟨b,off,q,c,h1,h2,h3,h4⟩:=h k hk;have e:=Qf (m.same b h2 (hb b off h1));refine⟨b,off,q,c,h1,Xl h2 m.size,by rw [Qa,e,←Qa];exact h3,h4.mvg m fun b' off' e' f=> ?_⟩;have f':b'=b7:=f;subst f';have hlen:=hl.2 _ (List.getElem_mem hk);obtain⟨b2,off2,e2,-,c2⟩:=h4 3 hlen;rw [e']at e2
 cases e2
 rw [Qa,r.r,Array.getElem?_eq_none Om]at c2
 cases c2
theorem SlBB.ext{B:World}{p:Option Addr}{bss:List (List Int)}(h:SlBB A p bss)(e:Ext A B):SlBB B p bss:=fun k hk=>by
 obtain⟨b,off,q,c,h1,h2,h3,h4⟩:=h k hk;exact⟨b,off,q,c,h1,Xl h2 e.size,(e.cell (p:=⟨b,off+k,none⟩) h2).trans h3,h4.ext e⟩
def QpN(ops:Array Oper):Prop:=Region.noSelect ops=true∧Qp ops 8 [0,2,3,5] 0=true∧Region.ready .any ops (msk 8 45)= [1]∧Region.ready .any ops (msk 8 47)= [4]∧Region.ready .any ops (msk 8 63)= [6]∧Region.ready .any ops (msk 8 127)= [7]∧Region.ready .any ops (msk 8 255)= []
theorem Qkl:QpN ((Tryz.f12.body.bind (Qg 21)).getD #[]):=⟨Kr,Kr,Kr,Kr,Kr,Kr,Kr⟩
def QpO(ops:Array Oper):Prop:=Region.noSelect ops=true∧Qp ops 8 [0,2,3,5] 0=true∧Region.ready .any ops (msk 8 45)= [1]∧Region.ready .any ops (msk 8 47)= [4]∧Region.ready .any ops (msk 8 63)= [6]∧Region.ready .any ops (msk 8 127)= [7]∧Region.ready .any ops (msk 8 255)= []
theorem Qkm:QpO ((Tryz.f12.body.bind (Qg 21)).getD #[]):=⟨Kr,Kr,Kr,Kr,Kr,Kr,Kr⟩
def QpP(ops:Array Oper):Prop:=Region.noSelect ops=true∧Qp ops 8 [0,2,3,5] 0=true∧Region.ready .any ops (msk 8 45)= [1]∧Region.ready .any ops (msk 8 47)= [4]∧Region.ready .any ops (msk 8 63)= [6]∧Region.ready .any ops (msk 8 127)= [7]∧Region.ready .any ops (msk 8 255)= []
theorem Qkn:QpP ((Tryz.f12.body.bind (Qg 21)).getD #[]):=⟨Kr,Kr,Kr,Kr,Kr,Kr,Kr⟩
theorem QpQ{id:Nat}{Q:Exit→Act→World→Prop}{v0 v3 v4 v5 v8 v9 v12 v13 v14 v15 v16 v17 v18 v19 v20 v21 v22 v23 v24 v25 v26 v27 v28 v29 v30 v31 v32 v33 v34 v35 v36 v37 v38 v39 v40 v41 v42 v43 v44 v45 v46 v47 v48 v49 v50 v51 v52 v53 v54 v55 v56 v57 v58 v59 v60 v61 v62 v63 v64 v65 v66 v67 v68 v69 v70 v71 v72 v73 v74 v75 v76 v77 v78 v79 v80 v81 v82 v83 v84 v85 v86 v87 v88 v89 v90 v91 v92 v93 v94 v95 v96 v97 v98 v99 v100 v101 v102 v103 v104 v105 v106 v107 v108 v109 v110 v111 v112 v113 v114 v115 v116 v117 v118 v119 v120 v121 v122 v123 v124 v125 v126 v127:Value}{df}{b6 b10 b11:Nat}{o1:Ag}{c:Cm}{x:Ru.Ac}{pl:List Int}{rz:Array Value}(hops:ops=((Tryz.f12.body.bind (Qg 21)).getD #[]))
  (E:Ext w0 W)(l6:w0.heap.size≤b6)(l67:b6<b7)(l7:b7<b10)(l10:b10<b11)(ra:RowZ W b6 (agv o1))(rd:RowZ W b7 rz)(hrz:rz.size=3)(r10:RowZ W b10 (cmv c))(r11:RowZ W b11 (acv x))(sO:SlC W o1.p o1.xs)(hpO: ∀b off,o1.p=some ⟨b,off,none⟩→b10<b∧b<W.heap.size)(hl:o1.xs.length≤1000)
  (sq:SlB W c.ip pl)(hq: ∀b off,c.ip=some ⟨b,off,none⟩→b10<b∧b<W.heap.size)(hd:x.d=0∨x.d=1∨x.d=2)
  (H: ∀a' w' p' c' ep ec sp sc,a'.eval (.tmp 6)= .pointer (some ⟨b6,0,none⟩)→a'.eval (.tmp 7)= .pointer (some ⟨b7,0,none⟩)→a'.tmps.size=128→a'.defers=df→RowZ w' b6 (agv {o1 with p:=p',xs:=(Qbo x o1 c pl).2.1,c:=c'})→RowZ w' b7 (dnv ⟨(Qbo x o1 c pl).1,ep,(Qbo x o1 c pl).2.2.1.length,ec,sp,(Qbo x o1 c pl).2.2.2.length,sc⟩)→SlC w' p' (Qbo x o1 c pl).2.1→SlE w' ep (Qbo x o1 c pl).2.2.1→SlBB w' sp (Qbo x o1 c pl).2.2.2→Ext w0 w'→Q .normal a' w'):
  (Code.region id ops true).wp Tryz.prog Q ⟨#[v0,v1,v2,v3,v4,v5,.pointer (some ⟨b6,0,none⟩),.pointer (some ⟨b7,0,none⟩),v8,v9,.pointer (some ⟨b10,0,none⟩),.pointer (some ⟨b11,0,none⟩),v12,v13,v14,v15,v16,v17,v18,v19,v20,v21,v22,v23,v24,v25,v26,v27,v28,v29,v30,v31,v32,v33,v34,v35,v36,v37,v38,v39,v40,v41,v42,v43,v44,v45,v46,v47,v48,v49,v50,v51,v52,v53,v54,v55,v56,v57,v58,v59,v60,v61,v62,v63,v64,v65,v66,v67,v68,v69,v70,v71,v72,v73,v74,v75,v76,v77,v78,v79,v80,v81,v82,v83,v84,v85,v86,v87,v88,v89,v90,v91,v92,v93,v94,v95,v96,v97,v98,v99,v100,v101,v102,v103,v104,v105,v106,v107,v108,v109,v110,v111,v112,v113,v114,v115,v116,v117,v118,v119,v120,v121,v122,v123,v124,v125,v126,v127],df⟩ W:=by
 subst hops;have hne: ∀b off,o1.p=some ⟨b,off,none⟩→b≠b6:=fun b off e=>by have:=hpO b off e;omega
 have hD10: ¬(fun q=>q=b6∨q=b7) b10:=fun e=>e.elim Om Om;have hD11: ¬(fun q=>q=b6∨q=b7) b11:=fun e=>e.elim Om Om;have hsz:W.heap.size≤W.heap.size:=Nat.le_refl _;obtain⟨lo,hlo⟩: ∃n,W.heap.size=n:=⟨_,rfl⟩;have l11:b11<lo:=by rw [←hlo];exact r11.l
 rw [hlo]at hpO hq;have hsz:lo≤W.heap.size:=by omega
 clear hlo;refine Qy (fun _=>False) (fun q=>q=b6∨q=b7) 6 Kr ?_;obtain⟨W1,hW⟩: ∃Wdr,World.drew W=Wdr:=⟨_,rfl⟩;have gD:Ext W W1:=by rw [←hW];exact Ext.dr (Ext.rf _)
 rw [hW];clear hW;have E:=E.tr gD;have ra:=ra.ext gD;have rd:=rd.ext gD;have r10:=r10.ext gD;have r11:=r11.ext gD;have sO:=sO.ext gD;have sq:=sq.ext gD;have hsz:=Xt hsz gD.size;have HR:=Xh H;clear H;rcases hd with hxd|hxd|hxd
 ·have HSSL:rz.size≤3∧ ∀bs∈([]:List (List Int)),3<bs.length:=⟨Nat.le_of_eq hrz,fun bs hb=>by cases hb⟩;have HW:=Xh (show Qbo x o1 c pl=_ from if_pos hxd);refine Zi (N:=8) (R:=QpN) (E:=((Tryz.f12.body.bind (Qg 21)).getD #[])) Kr Qkl Kr fun hS=> ?_;have hT:=hS.2.1;refine tW 1 (.agg (acv x)) hS.1 hT rfl (Qkh r11 rfl hD11 Kr) fun hT=> ?_;refine tWk 5 (.pointer (some ⟨b11,0,none⟩)) hS.1 hT rfl fun hT=> ?_;refine tW 13 (.int .u8 x.d) hS.1 hT rfl (YC (r11.cell 0 (by show 0<5;omega)) r11.l hD11 Kr) fun hT=> ?_;refine tW 45 (.agg (cmv c)) hS.1 hT rfl (Qc3 r10 hD10 Kr) fun hT=> ?_;refine sV 47 (Qlr x b6) hS.2.2.1 rfl (Qkk x b6 W1 ra.l) ?_;rintro vm WM1 gWM1 ⟨b1,b2,bc,WI⟩;have E:=E.tr gWM1;have ra:=ra.ext gWM1;have rd:=rd.ext gWM1;have r10:=r10.ext gWM1;have r11:=r11.ext gWM1;have sO:=sO.ext gWM1;have sq:=sq.ext gWM1;obtain⟨Bm,fm,rfl,HM,f0,f1,f2,f3⟩:=WI.is;have hsz:=Xt hsz gWM1.size;refine Qs hS.2.2.2.1 (Zl (m':=63) (v:= .func (.func 113) #[] #[.pointer (some ⟨b1,0,none⟩)]) rfl rfl Kr (Qc6 (n:=x.d) HM (by rw [hxd];exact f0) Kr Kr) ⟨.inr (Mv.refl _ _),Mv.refl _ _⟩ ?_);obtain⟨WM2,eWM2⟩: ∃N,WM1=N:=⟨_,rfl⟩;have gWM2:Ext WM1 WM2:=by rw [eWM2];exact Ext.rf _
  have WI:QeK WM2 (.map (some Bm)) x b6 b1 b2 bc:=by rw [←eWM2];exact WI
  rw [eWM2];clear HM f0 f1 f2 f3;have E:=E.tr gWM2;have ra:=ra.ext gWM2;have rd:=rd.ext gWM2;have r10:=r10.ext gWM2;have r11:=r11.ext gWM2;have sO:=sO.ext gWM2;have sq:=sq.ext gWM2;have hsz:=Xt hsz gWM2.size;have hlt: ∀b off,o1.p=some ⟨b,off,none⟩→b<WM2.heap.size:=fun b off e=>by have:=hpO b off e;omega
  have hql: ∀b off,c.ip=some ⟨b,off,none⟩→b<WM2.heap.size:=fun b off e=>by have:=hq b off e;omega
  refine Qs hS.2.2.2.2.1 (Qki (m':=127) (M:=fun q=>q=b6) (R:=QrL WM2 b6 o1 x.x o1.xs [] []) rfl rfl Kr Kr (QpM (Z5 x c o1 b6 b1 WM2 ra WI.rx sO hlt)) (.inl Dc) (fun q e=> .inl e) ?_);rintro vd WM3 hmv ⟨p',c',ep,ec,sp,sc,rfl,ra,sn,se,ss,hp',he',hs'⟩;have E:=Mv.ext_of E hmv (fun q e=>by omega);have rd:=rd.mv hmv Om;have r10:=r10.mv hmv Om;have r11:=r11.mv hmv Om;have sO:=sO.mvg hmv (fun b off e f=>by have:=hpO b off e;omega);have sq:=sq.mvg hmv (fun b off e f=>by have:=hq b off e;omega);have hsz:=Xt hsz hmv.size;have gWM3:=Ext.rf WM3;have E:=E.tr gWM3;have ra:=ra.ext gWM3;have rd:=rd.ext gWM3;have r10:=r10.ext gWM3;have r11:=r11.ext gWM3;have sO:=sO.ext gWM3;have sq:=sq.ext gWM3;refine Qs hS.2.2.2.2.2.1 (QD (m':=255) rfl rfl Kr (Jc (B:=b7) (cs:=(dnv ⟨x.x,ep,([]:List Ev).length,ec,sp,([]:List (List Int)).length,sc⟩)) (by rw [rd.r];exact hrz) rd.z rfl (by simp [go_sem,dnv]) Kr Kr) ⟨.inl Dc,(Mv.sa _ (.inr rfl) (Mv.refl _ _))⟩ ?_);obtain⟨WM4,hWM4⟩: ∃WM4,Qe WM3 b7 0 (dnv ⟨x.x,ep,([]:List Ev).length,ec,sp,([]:List (List Int)).length,sc⟩)=WM4:=⟨_,rfl⟩;have gS:Mv (fun q=>q=b7) WM3 WM4:=by rw [←hWM4];exact Mv.sa _ rfl (Mv.refl _ _)
  have ra:=ra.mv gS Om;have rd0:=rd;have rd:RowZ WM4 b7 (dnv ⟨x.x,ep,([]:List Ev).length,ec,sp,([]:List (List Int)).length,sc⟩):=by rw [←hWM4];exact rd.all _ hrz
  have E:=Mv.ext_of E gS (fun q e=>by omega);have sn:=sn.mvg gS (fun b off e f=>by rcases hp' b off e with h|h;omega;(rw [h]at e;have:=hpO b off e;omega));have se:=se.mvg gS (fun b off e f=>by have:=he' b off e;omega);have ss:=ss.mv3 gS rd0 (fun b off e f=>by have:=hs' b off e;omega) HSSL;rw [hWM4];clear hWM4;refine Q2 hS.2.2.2.2.2.2 ?_;exact HR.out _ _ p' c' ep ec sp sc Kr Kr Kr rfl (by rw [HW.out];exact ra) (by rw [HW.out];exact rd) (by rw [HW.out];exact sn) (by rw [HW.out];exact se) (by rw [HW.out];exact ss) E
 ·have HSSL:rz.size≤3∧ ∀bs∈([]:List (List Int)),3<bs.length:=⟨Nat.le_of_eq hrz,fun bs hb=>by cases hb⟩;have HW:=Xh (show Qbo x o1 c pl=_ from(if_neg Om).trans (if_pos hxd));refine Zi (N:=8) (R:=QpO) (E:=((Tryz.f12.body.bind (Qg 21)).getD #[])) Kr Qkm Kr fun hS=> ?_;have hT:=hS.2.1;refine tW 1 (.agg (acv x)) hS.1 hT rfl (Qkh r11 rfl hD11 Kr) fun hT=> ?_;refine tWk 5 (.pointer (some ⟨b11,0,none⟩)) hS.1 hT rfl fun hT=> ?_;refine tW 13 (.int .u8 x.d) hS.1 hT rfl (YC (r11.cell 0 (by show 0<5;omega)) r11.l hD11 Kr) fun hT=> ?_;refine tW 45 (.agg (cmv c)) hS.1 hT rfl (Qc3 r10 hD10 Kr) fun hT=> ?_;refine sV 47 (Qlr x b6) hS.2.2.1 rfl (Qkk x b6 W1 ra.l) ?_;rintro vm WM1 gWM1 ⟨b1,b2,bc,WI⟩;have E:=E.tr gWM1;have ra:=ra.ext gWM1;have rd:=rd.ext gWM1;have r10:=r10.ext gWM1;have r11:=r11.ext gWM1;have sO:=sO.ext gWM1;have sq:=sq.ext gWM1;obtain⟨Bm,fm,rfl,HM,f0,f1,f2,f3⟩:=WI.is;have hsz:=Xt hsz gWM1.size;refine Qs hS.2.2.2.1 (Zl (m':=63) (v:= .func (.func 114) #[] #[.pointer (some ⟨bc,0,none⟩),.pointer (some ⟨b2,0,none⟩)]) rfl rfl Kr (Qc6 (n:=x.d) HM (by rw [hxd];exact f1) Kr Kr) ⟨.inr (Mv.refl _ _),Mv.refl _ _⟩ ?_);obtain⟨WM2,eWM2⟩: ∃N,WM1=N:=⟨_,rfl⟩;have gWM2:Ext WM1 WM2:=by rw [eWM2];exact Ext.rf _
  have WI:QeK WM2 (.map (some Bm)) x b6 b1 b2 bc:=by rw [←eWM2];exact WI
  rw [eWM2];clear HM f0 f1 f2 f3;have E:=E.tr gWM2;have ra:=ra.ext gWM2;have rd:=rd.ext gWM2;have r10:=r10.ext gWM2;have r11:=r11.ext gWM2;have sO:=sO.ext gWM2;have sq:=sq.ext gWM2;have hsz:=Xt hsz gWM2.size;have hlt: ∀b off,o1.p=some ⟨b,off,none⟩→b<WM2.heap.size:=fun b off e=>by have:=hpO b off e;omega
  have hql: ∀b off,c.ip=some ⟨b,off,none⟩→b<WM2.heap.size:=fun b off e=>by have:=hq b off e;omega
  refine Qs hS.2.2.2.2.1 (Qki (m':=127) (M:=fun q=>q=b6) (R:=QrL WM2 b6 o1 0 (Qib o1 c) (QeI o1 c) []) rfl rfl Kr Kr (QpM (Qic o1 c b6 b2 bc WM2 ⟨ra,WI.rb,WI.rc,sO,WI.ne.1,WI.ne.2.1⟩ hl hlt hne)) (.inl Dc) (fun q e=> .inl e) ?_);rintro vd WM3 hmv ⟨p',c',ep,ec,sp,sc,rfl,ra,sn,se,ss,hp',he',hs'⟩;have E:=Mv.ext_of E hmv (fun q e=>by omega);have rd:=rd.mv hmv Om;have r10:=r10.mv hmv Om;have r11:=r11.mv hmv Om;have sO:=sO.mvg hmv (fun b off e f=>by have:=hpO b off e;omega);have sq:=sq.mvg hmv (fun b off e f=>by have:=hq b off e;omega);have hsz:=Xt hsz hmv.size;have gWM3:=Ext.rf WM3;have E:=E.tr gWM3;have ra:=ra.ext gWM3;have rd:=rd.ext gWM3;have r10:=r10.ext gWM3;have r11:=r11.ext gWM3;have sO:=sO.ext gWM3;have sq:=sq.ext gWM3;refine Qs hS.2.2.2.2.2.1 (QD (m':=255) rfl rfl Kr (Jc (B:=b7) (cs:=(dnv ⟨0,ep,(QeI o1 c).length,ec,sp,([]:List (List Int)).length,sc⟩)) (by rw [rd.r];exact hrz) rd.z rfl (by simp [go_sem,dnv]) Kr Kr) ⟨.inl Dc,(Mv.sa _ (.inr rfl) (Mv.refl _ _))⟩ ?_);obtain⟨WM4,hWM4⟩: ∃WM4,Qe WM3 b7 0 (dnv ⟨0,ep,(QeI o1 c).length,ec,sp,([]:List (List Int)).length,sc⟩)=WM4:=⟨_,rfl⟩;have gS:Mv (fun q=>q=b7) WM3 WM4:=by rw [←hWM4];exact Mv.sa _ rfl (Mv.refl _ _)
  have ra:=ra.mv gS Om;have rd0:=rd;have rd:RowZ WM4 b7 (dnv ⟨0,ep,(QeI o1 c).length,ec,sp,([]:List (List Int)).length,sc⟩):=by rw [←hWM4];exact rd.all _ hrz
  have E:=Mv.ext_of E gS (fun q e=>by omega);have sn:=sn.mvg gS (fun b off e f=>by rcases hp' b off e with h|h;omega;(rw [h]at e;have:=hpO b off e;omega));have se:=se.mvg gS (fun b off e f=>by have:=he' b off e;omega);have ss:=ss.mv3 gS rd0 (fun b off e f=>by have:=hs' b off e;omega) HSSL;rw [hWM4];clear hWM4;refine Q2 hS.2.2.2.2.2.2 ?_;exact HR.out _ _ p' c' ep ec sp sc Kr Kr Kr rfl (by rw [HW.out];exact ra) (by rw [HW.out];exact rd) (by rw [HW.out];exact sn) (by rw [HW.out];exact se) (by rw [HW.out];exact ss) E
 ·have HSSL:rz.size≤3∧ ∀bs∈([]:List (List Int)),3<bs.length:=⟨Nat.le_of_eq hrz,fun bs hb=>by cases hb⟩;have HW:=Xh (show Qbo x o1 c pl=_ from(if_neg Om).trans ((if_neg Om).trans (if_pos hxd)));refine Zi (N:=8) (R:=QpP) (E:=((Tryz.f12.body.bind (Qg 21)).getD #[])) Kr Qkn Kr fun hS=> ?_;have hT:=hS.2.1;refine tW 1 (.agg (acv x)) hS.1 hT rfl (Qkh r11 rfl hD11 Kr) fun hT=> ?_;refine tWk 5 (.pointer (some ⟨b11,0,none⟩)) hS.1 hT rfl fun hT=> ?_;refine tW 13 (.int .u8 x.d) hS.1 hT rfl (YC (r11.cell 0 (by show 0<5;omega)) r11.l hD11 Kr) fun hT=> ?_;refine tW 45 (.agg (cmv c)) hS.1 hT rfl (Qc3 r10 hD10 Kr) fun hT=> ?_;refine sV 47 (Qlr x b6) hS.2.2.1 rfl (Qkk x b6 W1 ra.l) ?_;rintro vm WM1 gWM1 ⟨b1,b2,bc,WI⟩;have E:=E.tr gWM1;have ra:=ra.ext gWM1;have rd:=rd.ext gWM1;have r10:=r10.ext gWM1;have r11:=r11.ext gWM1;have sO:=sO.ext gWM1;have sq:=sq.ext gWM1;obtain⟨Bm,fm,rfl,HM,f0,f1,f2,f3⟩:=WI.is;have hsz:=Xt hsz gWM1.size;refine Qs hS.2.2.2.1 (Zl (m':=63) (v:= .func (.func 118) #[] #[.pointer (some ⟨b2,0,none⟩),.pointer (some ⟨bc,0,none⟩)]) rfl rfl Kr (Qc6 (n:=x.d) HM (by rw [hxd];exact f2) Kr Kr) ⟨.inr (Mv.refl _ _),Mv.refl _ _⟩ ?_);obtain⟨WM2,eWM2⟩: ∃N,WM1=N:=⟨_,rfl⟩;have gWM2:Ext WM1 WM2:=by rw [eWM2];exact Ext.rf _
  have WI:QeK WM2 (.map (some Bm)) x b6 b1 b2 bc:=by rw [←eWM2];exact WI
  rw [eWM2];clear HM f0 f1 f2 f3;have E:=E.tr gWM2;have ra:=ra.ext gWM2;have rd:=rd.ext gWM2;have r10:=r10.ext gWM2;have r11:=r11.ext gWM2;have sO:=sO.ext gWM2;have sq:=sq.ext gWM2;have hsz:=Xt hsz gWM2.size;have hlt: ∀b off,o1.p=some ⟨b,off,none⟩→b<WM2.heap.size:=fun b off e=>by have:=hpO b off e;omega
  have hql: ∀b off,c.ip=some ⟨b,off,none⟩→b<WM2.heap.size:=fun b off e=>by have:=hq b off e;omega
  refine Qs hS.2.2.2.2.1 (Qki (m':=127) (M:=fun q=>q=b6) (R:=QrL WM2 b6 o1 0 (Qav o1.xs c.pk.tu c.now) [⟨1,o1.id,c.pk.tu⟩] []) rfl rfl Kr Kr (QpM (Jv o1 c b6 b2 bc WM2 ⟨ra,WI.rb,WI.rc,sO,WI.ne.1,WI.ne.2.1⟩ hl)) (.inl Dc) (fun q e=> .inl e) ?_);rintro vd WM3 hmv ⟨p',c',ep,ec,sp,sc,rfl,ra,sn,se,ss,hp',he',hs'⟩;have E:=Mv.ext_of E hmv (fun q e=>by omega);have rd:=rd.mv hmv Om;have r10:=r10.mv hmv Om;have r11:=r11.mv hmv Om;have sO:=sO.mvg hmv (fun b off e f=>by have:=hpO b off e;omega);have sq:=sq.mvg hmv (fun b off e f=>by have:=hq b off e;omega);have hsz:=Xt hsz hmv.size;have gWM3:=Ext.rf WM3;have E:=E.tr gWM3;have ra:=ra.ext gWM3;have rd:=rd.ext gWM3;have r10:=r10.ext gWM3;have r11:=r11.ext gWM3;have sO:=sO.ext gWM3;have sq:=sq.ext gWM3;refine Qs hS.2.2.2.2.2.1 (QD (m':=255) rfl rfl Kr (Jc (B:=b7) (cs:=(dnv ⟨0,ep,([⟨1,o1.id,c.pk.tu⟩]:List Ev).length,ec,sp,([]:List (List Int)).length,sc⟩)) (by rw [rd.r];exact hrz) rd.z rfl (by simp [go_sem,dnv]) Kr Kr) ⟨.inl Dc,(Mv.sa _ (.inr rfl) (Mv.refl _ _))⟩ ?_);obtain⟨WM4,hWM4⟩: ∃WM4,Qe WM3 b7 0 (dnv ⟨0,ep,([⟨1,o1.id,c.pk.tu⟩]:List Ev).length,ec,sp,([]:List (List Int)).length,sc⟩)=WM4:=⟨_,rfl⟩;have gS:Mv (fun q=>q=b7) WM3 WM4:=by rw [←hWM4];exact Mv.sa _ rfl (Mv.refl _ _)
  have ra:=ra.mv gS Om;have rd0:=rd;have rd:RowZ WM4 b7 (dnv ⟨0,ep,([⟨1,o1.id,c.pk.tu⟩]:List Ev).length,ec,sp,([]:List (List Int)).length,sc⟩):=by rw [←hWM4];exact rd.all _ hrz
  have E:=Mv.ext_of E gS (fun q e=>by omega);have sn:=sn.mvg gS (fun b off e f=>by rcases hp' b off e with h|h;omega;(rw [h]at e;have:=hpO b off e;omega));have se:=se.mvg gS (fun b off e f=>by have:=he' b off e;omega);have ss:=ss.mv3 gS rd0 (fun b off e f=>by have:=hs' b off e;omega) HSSL;rw [hWM4];clear hWM4;refine Q2 hS.2.2.2.2.2.2 ?_;exact HR.out _ _ p' c' ep ec sp sc Kr Kr Kr rfl (by rw [HW.out];exact ra) (by rw [HW.out];exact rd) (by rw [HW.out];exact sn) (by rw [HW.out];exact se) (by rw [HW.out];exact ss) E
section
theorem Qls:(Tryz.prog.info? 96).map (·.size)=some 6:=Kr
theorem QmR{b o:Nat}(h:o+6≤(Qc w b).size):(Instr.loadAt 96 (.pointer (some ⟨b,o,none⟩))).run Tryz.prog w= .ok (.agg ((Qc w b).extract o (o+6))) w:=by
 have:=run_loadAt_mid w b o 96 ((Qc w b).extract o (o+6)).toList _ (QC w b o (o+6)) Tryz.underlying96 rfl (by rw [Qls];simp;omega)
 rwa [Array.toArray_toList]at this
@[go_sem ↓ high] theorem QcB(ρ:Operand→Value)(dst:Option Tmp)(x:Operand)(ty:TypeId)(pos:String)(after:Array Edge)(g:Option (Nat×Bool))(w:World)
  (hx:ρ x= .pointer (some ⟨Qb (ρ x),Qd (ρ x),none⟩))(h:Fits (Qd (ρ x)) 6 (Qc w (Qb (ρ x)))):
  (execOp ρ ⟨dst,.load 96 x,ty,pos,after,g⟩).run Tryz.prog w= .ok (.value (.agg (QA (Qc w (Qb (ρ x))) (Qd (ρ x)) 6))) w:=by
 unfold Fits at h;generalize hB:Qb (ρ x)=B at*;generalize hO:Qd (ρ x)=O at*;simp only [execOp,hx,Sem.run_bind,QmR h,Result.andThen_ok,Sem.run_pure,QA]
@[go_sem ↓ high] theorem Qs6{l:Option Nat}{x:Operand}{ty:TypeId}{g:Option (Nat×Bool)}(w:World)
  (hx:ρ x= .pointer (some ⟨Qb (ρ x),Qd (ρ x),none⟩))(h:Fits (Qd (ρ x)) 6 (Qc w (Qb (ρ x)))):
  (Oper.semAt l ρ ⟨dst,.load 96 x,ty,pos,after,g⟩).run Tryz.prog w= .ok (.value (.agg (QA (Qc w (Qb (ρ x))) (Qd (ρ x)) 6))) w:=by rw [Oper.semAt_eq _ _ _ (fun c h=>by cases h)];exact QcB ρ dst x ty pos after g w hx h
@[go_sem ↓ high] theorem Qe8(ρ:Operand→Value)(dst:Option Tmp)(x y:Operand)(ty:TypeId)(pos:String)(after:Array Edge)(g:Option (Nat×Bool))(w:World)
  (hx:ρ x= .pointer (some ⟨Qb (ρ x),Qd (ρ x),none⟩))(hy:ρ y= .agg (ρ y).cells)(hs:Qo (ρ y).cells 6)(h:Fits (Qd (ρ x)) 6 (Qc w (Qb (ρ x))))(hz:Qt w (Qb (ρ x))=(0,0))(h1:QM (ρ y).cells):
  (execOp ρ ⟨dst,.store 96 x y,ty,pos,after,g⟩).run Tryz.prog w= .ok .skip (Qe w (Qb (ρ x)) (Qd (ρ x)) (ρ y).cells):=by
 unfold Fits at h;unfold Qo at hs;generalize hB:Qb (ρ x)=B at*;generalize hO:Qd (ρ x)=O at*;generalize hC:(ρ y).cells=C at*;have hst:(Instr.storeAt 96 (.pointer (some ⟨B,O,none⟩)) (.agg C)).run Tryz.prog w= .ok () (Qe w B O C):=
  run_storeAt_mid w B O 96 C (fun j hj=>⟨by rw [Qa,Array.getElem?_eq_getElem Om];rfl,Ql hz _⟩) (by rw [Qls,hs]) h1
 simp only [execOp,hx,hy,Sem.run_bind,hst,Result.andThen_ok,Sem.run_pure]
@[go_sem ↓ high] theorem QrM{l:Option Nat}{x y:Operand}{ty:TypeId}{g:Option (Nat×Bool)}(w:World)
  (hx:ρ x= .pointer (some ⟨Qb (ρ x),Qd (ρ x),none⟩))(hy:ρ y= .agg (ρ y).cells)(hs:Qo (ρ y).cells 6)(h:Fits (Qd (ρ x)) 6 (Qc w (Qb (ρ x))))(hz:Qt w (Qb (ρ x))=(0,0))(h1:QM (ρ y).cells):
  (Oper.semAt l ρ ⟨dst,.store 96 x y,ty,pos,after,g⟩).run Tryz.prog w= .ok .skip (Qe w (Qb (ρ x)) (Qd (ρ x)) (ρ y).cells):=by rw [Oper.semAt_eq _ _ _ (fun c h=>by cases h)];exact Qe8 ρ dst x y ty pos after g w hx hy hs h hz h1
attribute [local go_sem ↓ high] QE Yf
def cm0(now:Int):Cm:=⟨(0,0),(0,0),⟨0,0,0,0,0,0⟩,none,0,0,⟨⟨0,0,0,0⟩,0,[]⟩,none,0,0,now⟩
@[go_sem] theorem Qxo{c:Cm}:(cmv c).size=18:=rfl
@[go_sem] theorem Quu{c:Cm}:Qo (cmv c) 18=True:=eq_true rfl
@[go_sem ↓ high] theorem QvK{c:Cm}:(Value.agg (cmv c)).cells=cmv c:=QF _
@[go_sem] theorem Qyt{c:Cm}:QM (cmv c):=by unfold cmv;simp [go_sem]
@[go_sem] theorem Qs7{c:Cm}:QA (cmv c) 0 18=cmv c:=Q9 _ _ rfl
theorem Quv{b:Nat}{c:Cm}(fr tn:Int×Int)(o:Opt)(p:Option Addr)(n k:Nat)(h:RowZ W b (cmv c)):RowZ (Qe W b 0 (wrV fr tn o (.slice p n k))) b (cmv {c with fr:=fr,tn:=tn,o:=o,ip:=p,iN:=n,ic:=k}):=by
 have r:=(((((((((((h.set 0 (.int .u8 fr.1)).set 1 (.int .i64 fr.2)).set 2 (.int .u8 tn.1)).set 3 (.int .i64 tn.2)).set 4 (.int .u8 o.ki)).set 5 (.int .u8 o.bu)).set 6 (.int .i64 o.cu)).set 7 (.int .i64 o.pv)).set 8 (.int .i64 o.ge)).set 9 (.int .i64 o.ti)).set 10 (.slice p n k));have hc:((((((((((((cmv c).setIfInBounds 0 (.int .u8 fr.1)).setIfInBounds 1 (.int .i64 fr.2)).setIfInBounds 2 (.int .u8 tn.1)).setIfInBounds 3 (.int .i64 tn.2)).setIfInBounds 4 (.int .u8 o.ki)).setIfInBounds 5 (.int .u8 o.bu)).setIfInBounds 6 (.int .i64 o.cu)).setIfInBounds 7 (.int .i64 o.pv)).setIfInBounds 8 (.int .i64 o.ge)).setIfInBounds 9 (.int .i64 o.ti)).setIfInBounds 10 (.slice p n k))=cmv {c with fr:=fr,tn:=tn,o:=o,ip:=p,iN:=n,ic:=k}:=Kr
 rw [hc]at r;have hW:Qe W b 0 (wrV fr tn o (.slice p n k))=(((((((((((W.setCell ⟨b,0,none⟩ (.int .u8 fr.1)).setCell ⟨b,1,none⟩ (.int .i64 fr.2)).setCell ⟨b,2,none⟩ (.int .u8 tn.1)).setCell ⟨b,3,none⟩ (.int .i64 tn.2)).setCell ⟨b,4,none⟩ (.int .u8 o.ki)).setCell ⟨b,5,none⟩ (.int .u8 o.bu)).setCell ⟨b,6,none⟩ (.int .i64 o.cu)).setCell ⟨b,7,none⟩ (.int .i64 o.pv)).setCell ⟨b,8,none⟩ (.int .i64 o.ge)).setCell ⟨b,9,none⟩ (.int .i64 o.ti)).setCell ⟨b,10,none⟩ (.slice p n k)):=Kr
 rw [hW];exact r
theorem Quw{b:Nat}{c:Cm}(t:Pk)(p:Option Addr)(n k:Nat)(h:RowZ W b (cmv c)):RowZ (Qe W b 11 (pkV t (.slice p n k))) b (cmv {c with pk:=t,bp:=p,bN:=n,bc:=k}):=by
 have r:=((((((h.set 11 (.int .u32 t.tu.a)).set 12 (.int .u32 t.tu.b)).set 13 (.int .u16 t.tu.c)).set 14 (.int .u16 t.tu.d)).set 15 (.int .u8 t.fl)).set 16 (.slice p n k));have hc:(((((((cmv c).setIfInBounds 11 (.int .u32 t.tu.a)).setIfInBounds 12 (.int .u32 t.tu.b)).setIfInBounds 13 (.int .u16 t.tu.c)).setIfInBounds 14 (.int .u16 t.tu.d)).setIfInBounds 15 (.int .u8 t.fl)).setIfInBounds 16 (.slice p n k))=cmv {c with pk:=t,bp:=p,bN:=n,bc:=k}:=Kr
 rw [hc]at r;have hW:Qe W b 11 (pkV t (.slice p n k))=((((((W.setCell ⟨b,11,none⟩ (.int .u32 t.tu.a)).setCell ⟨b,12,none⟩ (.int .u32 t.tu.b)).setCell ⟨b,13,none⟩ (.int .u16 t.tu.c)).setCell ⟨b,14,none⟩ (.int .u16 t.tu.d)).setCell ⟨b,15,none⟩ (.int .u8 t.fl)).setCell ⟨b,16,none⟩ (.slice p n k)):=Kr
 rw [hW];exact r
theorem QrN{o:Nat}(hs:o+11≤(Qc w B).size)(hz:Qt w B=(0,0))(hcs:cs.size=11)(ho:QM cs){x y:Operand}{ty:TypeId}{g:Option (Nat×Bool)}
  (hx:ρ x= .pointer (some ⟨B,o,none⟩))(hy:ρ y= .agg cs):(execOp ρ ⟨dst,.store 77 x y,ty,pos,after,g⟩).run Tryz.prog w= .ok .skip (Qe w B o cs):=by
 have e:=Qbu ρ dst x y ty pos after g w (by rw [hx];rfl) (by rw [hy];rfl) (by rw [hy];exact hcs) (by rw [hx];show Fits o 11 (Qc w B);unfold Fits;omega) (by rw [hx];exact hz) (by rw [hy];exact ho);rw [e,hx,hy];rfl
theorem QrO{o:Nat}(hs:o+6≤(Qc w B).size)(hz:Qt w B=(0,0))(hcs:cs.size=6)(ho:QM cs){x y:Operand}{ty:TypeId}{g:Option (Nat×Bool)}
  (hx:ρ x= .pointer (some ⟨B,o,none⟩))(hy:ρ y= .agg cs):(execOp ρ ⟨dst,.store 81 x y,ty,pos,after,g⟩).run Tryz.prog w= .ok .skip (Qe w B o cs):=by
 have e:=JK ρ dst x y ty pos after g w (by rw [hx];rfl) (by rw [hy];rfl) (by rw [hy];exact hcs) (by rw [hx];show Fits o 6 (Qc w B);unfold Fits;omega) (by rw [hx];exact hz) (by rw [hy];exact ho);rw [e,hx,hy];rfl
theorem Qc7{n:Int}(hc:w.cell? ⟨B,i,none⟩=some u)(hf:w.frozen? ⟨B,i,none⟩=false){x y:Operand}{ty:TypeId}{g:Option (Nat×Bool)}
  (hx:ρ x= .pointer (some ⟨B,i,none⟩))(hy:ρ y= .int .u8 n):(execOp ρ ⟨dst,.store 5 x y,ty,pos,after,g⟩).run Tryz.prog w= .ok .skip (w.setCell ⟨B,i,none⟩ (.int .u8 n)):=by
 simp only [execOp,hx,hy];go_simp
theorem QrP{C:Nat→Prop}{a b:Value}(h0:w.cell? ⟨B,i,none⟩=some a)(h1:w.cell? ⟨B,i+1,none⟩=some b)(hl:Lt B w)(hC: ¬C B){x:Operand}{ty:TypeId}{g:Option (Nat×Bool)}
  (hx:ρ x= .pointer (some ⟨B,i,none⟩)): ∀w',Mv C w w'→(execOp ρ ⟨dst,.load 73 x,ty,pos,after,g⟩).run Tryz.prog w'= .ok (.value (.agg #[a,b])) w':=by
 intro w' hE;have e:=Qf (hE.same B hl hC);have h0:w'.cell? ⟨B,i,none⟩=some a:=by rw [Qa,e,←Qa];exact h0
 have h1:w'.cell? ⟨B,i+1,none⟩=some b:=by rw [Qa,e,←Qa];exact h1
 simp only [execOp,hx];go_simp
theorem QmS{tn:Int×Int}{id:Int}{nb:Bool}(hn:decide (tn=(2,id))=!nb){x y:Operand}{ty:TypeId}{g:Option (Nat×Bool)}(hx:ρ x= .agg #[.int .u8 tn.1,.int .i64 tn.2])(hy:ρ y= .agg #[.int .u8 2,.int .i64 id])(w:World):
  (execOp ρ ⟨dst,.binOp .neq 73 x y 73,ty,pos,after,g⟩).run Tryz.prog w= .ok (.value (.bool nb)) w:=by
 obtain⟨t1,t2⟩:=tn;simp only [execOp,hx,hy];go_simp
 by_cases h1:t1=2<;>by_cases h2:t2=id<;>cases nb<;>simp_all
theorem QrQ{C:Nat→Prop}{c:Cm}(h0:RowZ w B (cmv c))(hC: ¬C B){q:Operand}{ty:TypeId}{g:Option (Nat×Bool)}
  (hx:ρ q= .pointer (some ⟨B,11,none⟩)): ∀w',Mv C w w'→(execOp ρ ⟨dst,.load 81 q,ty,pos,after,g⟩).run Tryz.prog w'= .ok (.value (.agg (pkV c.pk (.slice c.bp c.bN c.bc)))) w':=by
 intro w' hE;have h1:=h0.mv hE hC;have e:=Qac ρ dst q ty pos after g w' (by rw [hx];rfl) (by rw [hx];show Fits 11 6 (Qc w' B);rw [h1.r];unfold Fits;exact Nat.le_of_ble_eq_true rfl);rw [e,hx];show Result.ok (Next.value (Value.agg (QA (Qc w' B) 11 6))) w'=_;rw [h1.r,QmK]
theorem QbD{ty:TypeId}{g:Option (Nat×Bool)}(w:World):
  (execOp ρ ⟨dst,.alloc 105,ty,pos,after,g⟩).run Tryz.prog w= .ok (.value (.pointer (some ⟨w.heap.size,0,none⟩))) (w.alloc (.cells #[.int .u8 0,.int .u8 0,.int .u8 0,.int .i64 0,.int .i64 0] 105)):=Kr
theorem RowZ.of_heap{b:Nat}{t:TypeId}(h:w.heap[b]?=some (.cells cs t)):RowZ w b cs:=
 ⟨by unfold Qc;rw [h],by unfold Qt;rw [h],(Array.getElem?_eq_some_iff.1 h).1⟩
theorem Qux{C:Nat→Prop}(h0:RowZ w B cs)(h6:cs.size=6)(hC: ¬C B){q:Operand}{ty:TypeId}{g:Option (Nat×Bool)}
  (hx:ρ q= .pointer (some ⟨B,0,none⟩)): ∀w',Mv C w w'→(execOp ρ ⟨dst,.load 96 q,ty,pos,after,g⟩).run Tryz.prog w'= .ok (.value (.agg cs)) w':=by
 intro w' hE;have h1:=h0.mv hE hC;have e:=QcB ρ dst q ty pos after g w' (by rw [hx];rfl) (by rw [hx];show Fits 0 6 (Qc w' B);rw [h1.r];unfold Fits;omega);rw [e,hx];show Result.ok (Next.value (Value.agg (QA (Qc w' B) 0 6))) w'=_;rw [h1.r,Q9 _ 6 h6]
theorem QmT(hi:i<16)(ρ:Operand→Value)(dst:Option Tmp)(x y:Operand)(ty:TypeId)(pos:String)(after:Array Edge)(g:Option (Nat×Bool))(hx:ρ x= .pointer (some ⟨B,2,none⟩))(hy:ρ y= .int .i64 (i:Int))(w:World):
  (execOp ρ ⟨dst,.indexAddr 24 x y,ty,pos,after,g⟩).run Tryz.prog w= .ok (.value (.pointer (some ⟨B,2+i*4,none⟩))) w:=by
 simp only [execOp,hx,hy];go_simp;intro h;omega
theorem QrR{n:Int}(hc:w.cell? ⟨B,i,none⟩=some u)(hf:w.frozen? ⟨B,i,none⟩=false){x y:Operand}{ty:TypeId}{g:Option (Nat×Bool)}
  (hx:ρ x= .pointer (some ⟨B,i,none⟩))(hy:ρ y= .int .i64 n):(execOp ρ ⟨dst,.store 3 x y,ty,pos,after,g⟩).run Tryz.prog w= .ok .skip (w.setCell ⟨B,i,none⟩ (.int .i64 n)):=by
 simp only [execOp,hx,hy];go_simp
theorem Qko{n:Bool}(hc:w.cell? ⟨B,i,none⟩=some u)(hf:w.frozen? ⟨B,i,none⟩=false){x y:Operand}{ty:TypeId}{g:Option (Nat×Bool)}
  (hx:ρ x= .pointer (some ⟨B,i,none⟩))(hy:ρ y= .bool n):(execOp ρ ⟨dst,.store 4 x y,ty,pos,after,g⟩).run Tryz.prog w= .ok .skip (w.setCell ⟨B,i,none⟩ (.bool n)):=by
 simp only [execOp,hx,hy];go_simp
def Qxp(bs:List Int)(W:World)(v:Value)(w':World):Prop:= ∃fr tn o q pl cq dr,v= .tuple #[.agg (wrV fr tn o (.slice q pl.length cq)),.int .u8 dr]∧Ext W w'∧((Jy bs=none∧dr=13)∨(Jy bs=some (fr,tn,o,pl)∧dr=0∧pl.length≤cq∧SlB w' q pl∧ ∀b off,q=some ⟨b,off,none⟩→W.heap.size≤b∧b<w'.heap.size))
def Qxq(t:Pk):Bool:=bits .and .u8 t.fl 7==2
def inX(a:Ag)(fr:Int×Int)(o:Opt)(pl:List Int):Ru.Ac:=Ru.Qs4 (toR (a.md (ofT (pkI pl).tu).toNat)) o.ki (if fr.1=2 then fr.2 else-1) o.ge (Qxq (pkI pl)) (okC a.xs (pkI pl).tu) (decide ((a.xs.length:Int)<32))
def inG(a:Ag)(now:Int):Bool:=agR a&&(decide (0≤now)&&decide (now≤1099511627776))
def inR(a:Ag)(bs:List Int)(now:Int):Int×List Co×List Ev×List (List Int):=
 if inG a now=false then(13,a.xs,[],[])
 else match Jy bs with
  |none=>(13,a.xs,[],[])
  |some (fr,tn,o,pl)=>if tn≠(2,a.id)then(13,a.xs,[],[])else if Yp pl≠0 then(Yp pl,a.xs,[],[])else if ofT (pkI pl).tu≠o.bu then(14,a.xs,[],[])
   else Qbo (inX a fr o pl) a ⟨fr,tn,o,none,0,0,pkI pl,none,0,0,now⟩ pl
theorem QrS{fr tn:Int×Int}{o:Opt}{pl:List Int}(hr:ByR bs)(h:Jy bs=some (fr,tn,o,pl)):ByR pl∧pl.length≤bs.length∧((0≤o.ki∧o.ki<256)∧(0≤o.bu∧o.bu<256)∧ZY o=true):=by
 unfold Jy at h
 split at h
 ·rename_i h1
  split at h
  ·split at h
   ·simp only [Option.some.injEq,Prod.mk.injEq]at h;obtain⟨-,-,rfl,rfl⟩:=h;exact⟨(JV hr).2,QhA.2,QhC (JV hr).1 h1.2⟩
   ·cases h
  ·cases h
 ·cases h
theorem Quy{pl:List Int}(hr:ByR pl):TuR (pkI pl).tu∧(0≤(pkI pl).fl∧(pkI pl).fl<256):=by
 unfold pkI
 split
 ·have hp:ByR (hdI pl).pl:=by
   unfold hdI
   split
   ·exact(JV hr).2
   ·intro z hz;cases hz
  have hh:(0≤(hdI pl).sr∧(hdI pl).sr<4294967296)∧(0≤(hdI pl).ds∧(hdI pl).ds<4294967296):=by
   unfold hdI
   split
   ·have h1:=ZX hr 12;have h2:=ZX hr 14;have h3:=ZX hr 16;have h4:=ZX hr 18;unfold ipH;refine⟨⟨?_,?_⟩,?_,?_⟩<;>dsimp only<;>omega
   ·exact⟨⟨Dc,Dc⟩,Dc,Dc⟩
  generalize (hdI pl).pl=l at*;have ht: ∀s d:Int,(0≤(tcI s d l).sp∧(tcI s d l).sp<65536)∧(0≤(tcI s d l).dp∧(tcI s d l).dp<65536)∧(0≤(tcI s d l).fl∧(tcI s d l).fl<256):=fun s d=>by
   unfold tcI
   split
   ·exact⟨ZX hp 0,ZX hp 2,Qat hp 13⟩
   ·exact⟨⟨Dc,Dc⟩,⟨Dc,Dc⟩,Dc,Dc⟩
  exact⟨⟨hh.1,hh.2,(ht _ _).1,(ht _ _).2.1⟩,(ht _ _).2.2⟩
 ·exact⟨⟨⟨Dc,Dc⟩,⟨Dc,Dc⟩,⟨Dc,Dc⟩,Dc,Dc⟩,Dc,Dc⟩
def QpR(pl:List Int)(W:World)(v:Value)(w':World):Prop:= ∃p n k,v= .tuple #[.agg (pkV (pkI pl) (.slice p n k)),.int .u8 (Yp pl)]∧Ext W w'
theorem QrT{q:Option Addr}{pl:List Int}{cq:Nat}(hs:SlB W q pl)(hr:ByR pl)(hl:pl.length≤1000)(hlc:pl.length≤cq)(hq: ∀b off,q=some ⟨b,off,none⟩→b<W.heap.size):Calls Tryz.prog 42 #[.slice q pl.length cq] W fun e w'=> ∃v,e= .returned v∧QpR pl W v w':=
 (Qhl q pl cq W hs hr hl hlc hq).mono fun e w' ⟨vb,h1,h2,p,k,h3,_⟩=>⟨_,h1,p,(pkI pl).by_.length,k,by rw [h3],h2⟩
def Quz(w:World)(a:Ag)(r:Int×List Co×List Ev×List (List Int))(e:Ending)(w':World):Prop:=
 ∃p c ep ec sp sc,e= .returned (.tuple #[.agg (agv {a with p:=p,xs:=r.2.1,c:=c}),.agg (dnv ⟨r.1,ep,r.2.2.1.length,ec,sp,r.2.2.2.length,sc⟩)])∧SlC w' p r.2.1∧SlE w' ep r.2.2.1∧SlBB w' sp r.2.2.2∧Ext w w'
def QpS(ops:Array Oper):Prop:=Region.noSelect ops=true∧Qp ops 12 [0,1,2,3,4,5,6,7,8] 0=true∧Region.ready .any ops (msk 12 511)= [9]∧Qp ops 12 [10] 1023=true∧Region.ready .any ops (msk 12 2047)= [11]∧Region.ready .any ops (msk 12 4095)= []
theorem Qkp:QpS ((Tryz.f12.body.bind (Qg 17)).getD #[]):=⟨Kr,Kr,Kr,Kr,Kr,Kr⟩
def Qlt(ops:Array Oper):Prop:=Region.noSelect ops=true∧Qp ops 8 [0,1,2,3,4] 0=true∧Region.ready .any ops (msk 8 31)= [5,6]∧Region.ready .any ops (msk 8 63)= [6]∧Region.ready .any ops (msk 8 127)= [7]∧Region.ready .any ops (msk 8 255)= []
theorem Qih:Qlt ((Tryz.f12.body.bind (Qg 20)).getD #[]):=⟨Kr,Kr,Kr,Kr,Kr,Kr⟩
def Qlu(ops:Array Oper):Prop:=Region.noSelect ops=true∧Qp ops 8 [0,1,2,3,4] 0=true∧Region.ready .any ops (msk 8 31)= [5,6]∧Region.ready .any ops (msk 8 95)= [5]∧Region.ready .any ops (msk 8 127)= [7]∧Region.ready .any ops (msk 8 255)= []
theorem Qii:Qlu ((Tryz.f12.body.bind (Qg 20)).getD #[]):=⟨Kr,Kr,Kr,Kr,Kr,Kr⟩
def QpT(ops:Array Oper):Prop:=Qlt ops∧Qlu ops
theorem Qkq:QpT ((Tryz.f12.body.bind (Qg 20)).getD #[]):=⟨Qih,Qii⟩
def QpU(ops:Array Oper):Prop:=Region.noSelect ops=true∧Qp ops 10 [0,1,3,4] 0=true∧Region.ready .any ops (msk 10 27)= [2]∧Qp ops 10 [6] 31=true∧Region.ready .any ops (msk 10 95)= [5]∧Region.ready .any ops (msk 10 127)= [7]∧Qp ops 10 [8] 255=true∧Region.ready .any ops (msk 10 511)= [9]∧Region.ready .any ops (msk 10 1023)= []
theorem Qkr:QpU ((Tryz.f12.body.bind (Qg 19)).getD #[]):=⟨Kr,Kr,Kr,Kr,Kr,Kr,Kr,Kr,Kr⟩
def QpV(ops:Array Oper):Prop:=Region.noSelect ops=true∧Qv ops 12 [0,1,2,3,4,5,6,7,8,9,10,11] 0=true∧Region.ready .any ops (msk 12 4095)= []
theorem Qks:QpV ((Tryz.f12.body.bind (Qg 8)).getD #[]):=⟨Kr,Kr,Kr⟩
def QpW(ops:Array Oper):Prop:=Region.noSelect ops=true∧Qv ops 12 [0,1,2,3,4,5,6,7,8] 0=true∧Region.ready .any ops (msk 12 511)= [9]∧Qv ops 12 [10,11] 1023=true∧Region.ready .any ops (msk 12 4095)= []
theorem Qkt:QpW ((Tryz.f12.body.bind (Qg 8)).getD #[]):=⟨Kr,Kr,Kr,Kr,Kr⟩
theorem QuA(a:Ag)(bs:List Int)(pp:Option Addr)(cp:Nat)(now:Int)(w:World)(hs:SlC w a.p a.xs)(hl:a.xs.length≤1000)(hr: ∀x∈a.xs,TuR x.t)(hk: ∀k,k<16→0≤(a.md k).kind)
  (hb:SlB w pp bs)(hB:ByR bs)(hlb:bs.length≤1000)(hcp:bs.length≤cp)(hSM:Jy bs≠none∧ ∀fr tn o pl,Jy bs=some (fr,tn,o,pl)→(inX a fr o pl).d≠3):
  Calls Tryz.prog 12 #[.agg (agv a),.slice pp bs.length cp,.int .i64 now] w (Quz w a (inR a bs now)):=by
 have HOW:=Xh (fun W (hE:Ext w W)=>Qcn a W (hs.ext hE) hl);have HRT:=Xh (fun W (hE:Ext w W)=>YU a W (hs.ext hE) hl hr hk);have HTK:=Xh (fun W (hE:Ext w W)=>QhD bs pp cp W (hb.ext hE) hB hlb hcp hSM.1);have HSM:=Xh hSM.2;clear hSM;have HK:=Xh hk;have HSA:=Xh (And.intro hs hl);have HBB:=Xh (And.intro hB hlb);obtain⟨r,er⟩: ∃r,inR a bs now=r:=⟨_,rfl⟩;rw [er];have HER:=Xh er;clear er hs hr hk hb hB
 go_enter Tryz.func12,Tryz.ntmps12
 go_upto_region 2 with(fail)
 obtain⟨W0,hW⟩: ∃W0,((w.alloc (.cells (agv a) 27)).alloc (.cells (agv agz) 27)).alloc (.cells #[.int .u8 0,.slice none 0 0,.slice none 0 0] 42)=W0:=⟨_,rfl⟩;have E:Ext w W0:=by rw [←hW];exact Ext.al (Ext.al (Ext.al (Ext.rf _) _) _) _
 have ra:RowZ W0 w.heap.size (agv a):=by rw [←hW];exact⟨by simp [go_sem],by simp [go_sem],by simp [go_sem,Lt]⟩
 have ro:RowZ W0 (w.heap.size+1) (agv agz):=by rw [←hW];exact⟨by simp [go_sem],by simp [go_sem],by simp [go_sem,Lt]⟩
 have rd:RowZ W0 (w.heap.size+1+1) #[.int .u8 0,.slice none 0 0,.slice none 0 0]:=by rw [←hW];exact⟨by simp [go_sem],by simp [go_sem],by simp [go_sem,Lt]⟩
 have hsz:W0.heap.size=w.heap.size+3:=by rw [←hW];simp
 rw [hW];clear hW;obtain⟨b3,e3⟩: ∃b,w.heap.size=b:=⟨_,rfl⟩;have HE3:=Xh e3;rw [e3]at ra ro rd hsz⊢;clear e3;obtain⟨b6,e6⟩: ∃b,b3+1=b:=⟨_,rfl⟩;rw [e6]at ro rd⊢;obtain⟨b7,e7⟩: ∃b,b6+1=b:=⟨_,rfl⟩;rw [e7]at rd⊢;refine Qr 0 rfl ?_
 go_upto_region 4 with(fail)
 obtain⟨b9,e9⟩: ∃b,b3+3=b:=⟨_,rfl⟩;obtain⟨b10,e10⟩: ∃b,b9+1=b:=⟨_,rfl⟩;rw [e9,e10];rw [e9]at hsz;obtain⟨V1,h1⟩: ∃V1,W0.alloc (.cells #[.int .u8 0,.int .i64 0,.int .i64 0,.bool false,.bool false,.bool false] 96)=V1:=⟨_,rfl⟩;have r9:RowZ V1 b9 #[.int .u8 0,.int .i64 0,.int .i64 0,.bool false,.bool false,.bool false]:=by rw [←h1,←hsz];exact RowZ.new _ _ _
 have g1:Ext W0 V1:=by rw [←h1];exact Ext.al (Ext.rf _) _
 have z1:V1.heap.size=b10:=by rw [←h1];simp;omega
 rw [h1];obtain⟨V2,h2⟩: ∃V2,Qe V1 b9 0 #[.int .u8 0,.int .i64 (-1),.int .i64 0,.bool false,.bool false,.bool false]=V2:=⟨_,rfl⟩;have r9:RowZ V2 b9 #[.int .u8 0,.int .i64 (-1),.int .i64 0,.bool false,.bool false,.bool false]:=by rw [←h2];exact r9.all _ rfl
 have g2:Ext W0 V2:=by rw [←h2];exact Mv.ext_of (C:=fun q=>q=b9) g1 (Mv.sa _ rfl (Mv.refl _ _)) (fun q e=>by omega)
 have z2:V2.heap.size=b10:=by rw [←h2,QbO];exact z1
 rw [h2];obtain⟨V3,h3⟩: ∃V3,V2.alloc (.cells (cmv (cm0 0)) 98)=V3:=⟨_,rfl⟩;have r10:RowZ V3 b10 (cmv (cm0 0)):=by rw [←h3,←z2];exact RowZ.new _ _ _
 have g3:Ext V2 V3:=by rw [←h3];exact Ext.al (Ext.rf _) _
 have r9:=r9.ext g3;have h3':=h3;unfold cm0 cmv at h3';rw [h3'];obtain⟨V4,h4⟩: ∃V4,Qe V3 b10 0 (cmv (cm0 now))=V4:=⟨_,rfl⟩;have r10:RowZ V4 b10 (cmv (cm0 now)):=by rw [←h4];exact r10.all _ rfl
 have m4:Mv (fun q=>q=b10) V3 V4:=by rw [←h4];exact Mv.sa _ rfl (Mv.refl _ _)
 have r9:=r9.mv m4 Om;have g4:Ext W0 V4:=Mv.ext_of (g2.tr g3) m4 (fun q e=>by omega);have h4':=h4;unfold cm0 cmv at h4';rw [h4'];have ra:=ra.ext g4;have ro:=ro.ext g4;have rd:=rd.ext g4;have E4:=E.tr g4;have hz4:b10<V4.heap.size:=r10.l;clear h1 h2 h3 h4 h3' h4' g1 g2 g3 g4 m4 z1 z2 E hsz;have hr0:=ra.r;have HH:=Xh (And.intro ra (And.intro ro (And.intro rd (And.intro r9 (And.intro r10 E4)))));clear ra ro rd r9 r10
 go_upto_region 5 with(go_at_call 25;(with_reducible refine(HOW.out _ E4).mono ?_);rintro e w1 ⟨p',c',rfl,o1⟩;have s1:=o1.own;have g1:=o1.ext;clear o1;have hrz:=(HH.out.2.1.ext g1).r;have hzz:=(HH.out.2.1.ext g1).z)
 obtain⟨o1,eo⟩: ∃o1,({a with p:=p',c:=c'}:Ag)=o1:=⟨_,rfl⟩;have HEO:=Xh eo;obtain⟨W5,h5⟩: ∃W5,Qe w1 b6 0 (agv {a with p:=p',c:=c'})=W5:=⟨_,rfl⟩;have m5:Mv (fun q=>q=b6) w1 W5:=by rw [←h5];exact Mv.sa _ rfl (Mv.refl _ _)
 obtain⟨ra,ro,rd,r9,r10,-⟩:=HH.out;have ra:=(ra.ext g1).mv m5 Om;have ro:RowZ W5 b6 (agv o1):=by rw [←h5,←eo];exact(ro.ext g1).all _ (by rw [Qi,Qi])
 have rd:=(rd.ext g1).mv m5 Om;have r9:=(r9.ext g1).mv m5 Om;have r10:=(r10.ext g1).mv m5 Om;have sO:SlC W5 p' a.xs:=by
  obtain⟨p,c,e,-,s⟩:=SlC.own (Qw s1 m5 (fun k hk e=>by omega))
  cases e;exact s
 have hpO: ∀b off,p'=some ⟨b,off,none⟩→b10<b∧b<W5.heap.size:=fun b off e=>by
  have h1:=Qh s1 b (by rw [e];rfl);have h2:=QbJ s1 b (by rw [e];rfl);have h3:=m5.size;exact⟨Om,Om⟩
 have E5:Ext w W5:=Mv.ext_of (E4.tr g1) m5 (fun q e=>by have:=HE3.out;omega);rw [h5,eo];clear h5 eo m5 s1 g1 hrz hzz HH hr0 E4 hz4;have d0:W5.cell? ⟨b7,0,none⟩=some (.int .u8 0):=rd.cell 0 (by show 0<3;omega);have f0:W5.frozen? ⟨b7,0,none⟩=false:=rd.frz 0
 go_upto_region 6 with(fail)
 obtain⟨W6,h6⟩: ∃W6,W5.setCell ⟨b7,0,none⟩ (.int .u8 13)=W6:=⟨_,rfl⟩;have m6:Mv (fun q=>q=b7) W5 W6:=by rw [←h6];exact Mv.st _ (.inl rfl) (Mv.refl _ _)
 have rd:RowZ W6 b7 #[.int .u8 13,.slice none 0 0,.slice none 0 0]:=by rw [←h6];exact rd.set 0 _
 have ra:=ra.mv m6 Om;have ro:=ro.mv m6 Om;have r9:=r9.mv m6 Om;have r10:=r10.mv m6 Om;have sO:=sO.mvg m6 (fun b off e=>by have:=hpO b off e;omega);have E6:Ext w W6:=Mv.ext_of E5 m6 (fun q e=>by have:=HE3.out;omega);have hpO: ∀b off,p'=some ⟨b,off,none⟩→b10<b∧b<W6.heap.size:=fun b off e=>by have h1:=hpO b off e;have h3:=m6.size;exact⟨h1.1,Om⟩
 rw [h6];clear h6 m6 d0 f0 E5;have hra:=ra.r;have HH:=Xh (And.intro ra (And.intro ro (And.intro rd (And.intro r9 (And.intro r10 (And.intro sO hpO))))));clear ra ro rd r9 r10 sO hpO
 cases hG:inG a now
 ·have HG:inR a bs now=(13,a.xs,[],[]):=by unfold inR;rw [hG,if_pos rfl]
  have HG:=Xh HG
  cases hA:agR a
  ·rw [hA]at HRT;have HA:=Xh hA;clear hA hG
   go_wp2_with (go_at_call 22;(with_reducible refine(HRT.out _ E6).mono ?_);rintro e w3 ⟨rfl,g3⟩)
   have HF:=Xh (show RowZ w3 b6 (agv o1)∧RowZ w3 b7 (dnv ⟨13,none,0,0,none,0,0⟩)∧SlC w3 p' a.xs∧Ext w w3 from⟨HH.out.2.1.ext g3,HH.out.2.2.1.ext g3,HH.out.2.2.2.2.2.1.ext g3,E6.tr g3⟩);clear hra;go_step3;refine⟨rfl,?_⟩
   go_upto_region 23 with(fail)
   refine JC (o:=o1) (d:=⟨13,none,0,0,none,0,0⟩) (b6:=b6) (b7:=b7) Kr Kr Kr HF.out.1 HF.out.2.1 ?_;intro a' w' e' r6 r7 q6 q7 hd;go_wp2;refine bodyPost_ret (ZJ rfl _ _ b6 b7 q6 q7 (YN r6.r) (J1 r7.r rfl)) hd ?_;rw [←HER.out,HG.out,←HEO.out];exact⟨p',c',none,0,none,0,rfl,HF.out.2.2.1.ext e',SlE.nil _ none,SlBB.nil _ none,HF.out.2.2.2.tr e'⟩
  ·rw [hA]at HRT;have hor:now<0∨(0≤now∧1099511627776<now):=by
    unfold inG at hG;rw [hA]at hG;simp only [Bool.true_and,Bool.and_eq_false_iff,decide_eq_false_iff_not]at hG;omega
   clear hA hG;rcases hor with h0|⟨h0,h1⟩
   ·have h0':decide (now<0)=true:=decide_eq_true h0;clear h0
    go_wp2_with (go_at_call 22;(with_reducible refine(HRT.out _ E6).mono ?_);rintro e w3 ⟨rfl,g3⟩)
    have HF:=Xh (show RowZ w3 b6 (agv o1)∧RowZ w3 b7 (dnv ⟨13,none,0,0,none,0,0⟩)∧SlC w3 p' a.xs∧Ext w w3 from⟨HH.out.2.1.ext g3,HH.out.2.2.1.ext g3,HH.out.2.2.2.2.2.1.ext g3,E6.tr g3⟩);clear hra;go_step3;refine⟨rfl,?_⟩
    go_upto_region 23 with(fail)
    refine JC (o:=o1) (d:=⟨13,none,0,0,none,0,0⟩) (b6:=b6) (b7:=b7) Kr Kr Kr HF.out.1 HF.out.2.1 ?_;intro a' w' e' r6 r7 q6 q7 hd;go_wp2;refine bodyPost_ret (ZJ rfl _ _ b6 b7 q6 q7 (YN r6.r) (J1 r7.r rfl)) hd ?_;rw [←HER.out,HG.out,←HEO.out];exact⟨p',c',none,0,none,0,rfl,HF.out.2.2.1.ext e',SlE.nil _ none,SlBB.nil _ none,HF.out.2.2.2.tr e'⟩
   ·have h0':decide (now<0)=false:=decide_eq_false Om;have h1':decide (1099511627776<now)=true:=decide_eq_true h1;clear h0 h1
    go_wp2_with (go_at_call 22;(with_reducible refine(HRT.out _ E6).mono ?_);rintro e w3 ⟨rfl,g3⟩)
    have HF:=Xh (show RowZ w3 b6 (agv o1)∧RowZ w3 b7 (dnv ⟨13,none,0,0,none,0,0⟩)∧SlC w3 p' a.xs∧Ext w w3 from⟨HH.out.2.1.ext g3,HH.out.2.2.1.ext g3,HH.out.2.2.2.2.2.1.ext g3,E6.tr g3⟩);clear hra;go_step3;refine⟨rfl,?_⟩
    go_upto_region 23 with(fail)
    refine JC (o:=o1) (d:=⟨13,none,0,0,none,0,0⟩) (b6:=b6) (b7:=b7) Kr Kr Kr HF.out.1 HF.out.2.1 ?_;intro a' w' e' r6 r7 q6 q7 hd;go_wp2;refine bodyPost_ret (ZJ rfl _ _ b6 b7 q6 q7 (YN r6.r) (J1 r7.r rfl)) hd ?_;rw [←HER.out,HG.out,←HEO.out];exact⟨p',c',none,0,none,0,rfl,HF.out.2.2.1.ext e',SlE.nil _ none,SlBB.nil _ none,HF.out.2.2.2.tr e'⟩
 have hA:agR a=true:=by unfold inG at hG;simp only [Bool.and_eq_true]at hG;exact hG.1
 rw [hA]at HRT;have h0':decide (now<0)=false:=by unfold inG at hG;simp only [Bool.and_eq_true,decide_eq_true_eq]at hG;exact decide_eq_false Om
 have h1':decide (1099511627776<now)=false:=by unfold inG at hG;simp only [Bool.and_eq_true,decide_eq_true_eq]at hG;exact decide_eq_false Om
 have HAG:=Xh (And.intro hA hG);clear hA hG
 go_upto_region 7 with(go_at_call 22;(with_reducible refine(HRT.out _ E6).mono ?_);rintro e w3 ⟨rfl,g3⟩)
 have HTK2:Calls Tryz.prog 40 #[.slice pp bs.length cp] w3 fun e w'=> ∃v,e= .returned v∧Qxp bs w3 v w':=(HTK.out _ (E6.tr g3)).mono fun e w' h=>by
  rcases h with⟨h1,h2,h3⟩|⟨fr,tn,o,pl,vp,h1,h2,h3,q,cq,h4,h5,h6,h7⟩
  ·exact⟨_,h2,(0,0),(0,0),⟨0,0,0,0,0,0⟩,none,[],0,13,rfl,h3,.inl ⟨h1,rfl⟩⟩
  ·exact⟨_,h2,fr,tn,o,q,pl,cq,0,by rw [h4],h3,.inr ⟨h1,rfl,h5,h6,h7⟩⟩
 obtain⟨ra,ro,rd,r9,r10,sO,hpO⟩:=HH.out;refine wp_region_lit ?_;refine listV (v:= .slice pp bs.length cp) (w':=w3) rfl Kr ?_;refine J0 (f:=40) (args:=#[.slice pp bs.length cp]) rfl Kr HTK2 ?_;rintro v8 w8 ⟨fr,tn,o,q,pl,cq,dr,rfl,g8,hT⟩;have g38:=g3.tr g8;have ra:=ra.ext g38;have ro:=ro.ext g38;have rd:=rd.ext g38;have r9:=r9.ext g38;have r10:=r10.ext g38;have sO:=sO.ext g38;refine listV (v:= .tuple #[.agg (wrV fr tn o (.slice q pl.length cq)),.int .u8 dr]) (w':=w8) rfl Kr ?_;refine listV (v:= .agg (wrV fr tn o (.slice q pl.length cq))) (w':=w8) rfl Kr ?_;refine listV (v:= .int .u8 dr) (w':=w8) rfl Kr ?_;refine listV (v:= .pointer (some ⟨b10,0,none⟩)) (w':=w8) rfl Kr ?_;refine Zk rfl (QrN (B:=b10) (o:=0) (cs:=wrV fr tn o (.slice q pl.length cq)) (by rw [r10.r];show 0+11≤18;omega) r10.z rfl (by unfold wrV;simp [go_sem]) Kr Kr) ?_;obtain⟨W8,h8⟩: ∃W8,Qe w8 b10 0 (wrV fr tn o (.slice q pl.length cq))=W8:=⟨_,rfl⟩;have m8:Mv (fun q=>q=b10) w8 W8:=by rw [←h8];exact Mv.sa _ rfl (Mv.refl _ _)
 obtain⟨c1,ec1⟩: ∃c1,({cm0 now with fr:=fr,tn:=tn,o:=o,ip:=q,iN:=pl.length,ic:=cq}:Cm)=c1:=⟨_,rfl⟩;have r10:RowZ W8 b10 (cmv c1):=by rw [←h8,←ec1];exact Quv fr tn o q pl.length cq r10
 have ra:=ra.mv m8 Om;have ro:=ro.mv m8 Om;have rd:=rd.mv m8 Om;have r9:=r9.mv m8 Om;have sO:=sO.mvg m8 (fun b off e=>by have:=hpO b off e;omega);rw [h8];refine listV (v:= .pointer (some ⟨b7,0,none⟩)) (w':=W8) rfl Kr ?_;refine Zk rfl (Qc7 (B:=b7) (i:=0) (n:=dr) (rd.cell 0 (by show 0<3;omega)) (rd.frz 0) Kr Kr) ?_;refine wpList_nil ?_;obtain⟨W9,h9⟩: ∃W9,W8.setCell ⟨b7,0,none⟩ (.int .u8 dr)=W9:=⟨_,rfl⟩;have m9:Mv (fun q=>q=b7) W8 W9:=by rw [←h9];exact Mv.st _ (.inl rfl) (Mv.refl _ _)
 have rd:RowZ W9 b7 #[.int .u8 dr,.slice none 0 0,.slice none 0 0]:=by rw [←h9];exact rd.set 0 _
 have ra:=ra.mv m9 Om;have ro:=ro.mv m9 Om;have r9:=r9.mv m9 Om;have r10:=r10.mv m9 Om;have sO:=sO.mvg m9 (fun b off e=>by have:=hpO b off e;omega);rw [h9];have hw3:W6.heap.size≤w3.heap.size:=g3.size;have hz9:w8.heap.size≤W9.heap.size:=Xt m8.size m9.size;have hqO:dr=0→SlB W9 q pl∧(∀b off,q=some ⟨b,off,none⟩→b10<b)∧(∀b off,q=some ⟨b,off,none⟩→b<W9.heap.size):=fun h=>by
  rcases hT with⟨-,h1⟩|⟨-,-,-,h1,h2⟩
  ·exfalso;omega
  ·have hlo:b10<w3.heap.size:=by have:=HH.out.2.2.2.2.1.l;unfold Lt at this;omega
   have hlt: ∀b off,q=some ⟨b,off,none⟩→b10<b:=fun b off e=>by have:=h2 b off e;omega
   exact⟨(h1.mvg m8 (fun b off e f=>by have:=hlt b off e;omega)).mvg m9 (fun b off e f=>by have:=hlt b off e;omega),hlt,fun b off e=>by have:=(h2 b off e).2;omega⟩
 have E9:Ext w W9:=Mv.ext_of (Mv.ext_of (E6.tr g38) m8 (fun q e=>by have:=HE3.out;omega)) m9 (fun q e=>by have:=HE3.out;omega);have hpO: ∀b off,p'=some ⟨b,off,none⟩→b10<b∧b<W9.heap.size:=fun b off e=>by have h1:=hpO b off e;have:=g8.size;exact⟨h1.1,Om⟩
 have HEC:=Xh ec1;clear h8 h9 m8 m9 g8 g38 ec1 HH E6 hw3 hz9 HRT HTK hra h0' h1';rcases hT with⟨hN,rfl⟩|⟨hN,rfl,hcq,-,-⟩
 ·have HG:inR a bs now=(13,a.xs,[],[]):=by unfold inR;rw [HAG.out.2,if_neg Dc,hN]
  have HG:=Xh HG
  go_upto_region 8 with(fail)
  refine QT (fun _=>False) Kr ?_;obtain⟨WA,hW⟩: ∃Wdr,World.drew W9=Wdr:=⟨_,rfl⟩;have gD:Ext W9 WA:=by rw [←hW];exact Ext.dr (Ext.rf _)
  rw [hW];clear hW;have E9:=E9.tr gD;have ra:=ra.ext gD;have ro:=ro.ext gD;have rd:=rd.ext gD;have r9:=r9.ext gD;have r10:=r10.ext gD;have sO:=sO.ext gD;refine Qas (N:=12) (R:=QpV) (E:=((Tryz.f12.body.bind (Qg 8)).getD #[])) Kr Qks Kr fun hS=> ?_;have hT:=hS.2.1;refine tMk 1 (.pointer (some ⟨b7,0,none⟩)) hS.1 hT rfl fun hT=> ?_;refine tM 3 (.int .u8 13) hS.1 hT rfl (YC (C:=fun _=>False) (rd.cell 0 (by show 0<3;omega)) rd.l (fun h=>h) Kr) fun hT=> ?_;refine tMk 7 (.bool true) hS.1 hT rfl fun hT=> ?_;refine tMk 15 (.bool true) hS.1 hT rfl fun hT=> ?_;refine tMU 31 hS.1 hT rfl fun hT=> ?_;refine tMU 63 hS.1 hT rfl fun hT=> ?_;refine tMU 127 hS.1 hT rfl fun hT=> ?_;refine tMU 255 hS.1 hT rfl fun hT=> ?_;refine tMU 511 hS.1 hT rfl fun hT=> ?_;refine tMU 1023 hS.1 hT rfl fun hT=> ?_;refine tMU 2047 hS.1 hT rfl fun hT=> ?_;refine tMk 4095 (.bool true) hS.1 hT rfl fun hT=> ?_;refine doneK hS.2.2 ?_;clear hS hT;go_simp;have d0:=rd.cell 0 (by show 0<3;omega);have f0:=rd.frz 0
  go_upto_region 9 with(fail)
  have rd8:=rd;refine wp_region_lit ?_;refine listV (v:= .pointer (some ⟨b7,0,none⟩)) (w':=WA) rfl Kr ?_;refine Zk rfl (Qc7 (B:=b7) (i:=0) (n:=13) (rd.cell 0 (by show 0<3;omega)) (rd.frz 0) Kr Kr) ?_;refine wpList_nil ?_;obtain⟨W10,h10⟩: ∃W10,WA.setCell ⟨b7,0,none⟩ (.int .u8 13)=W10:=⟨_,rfl⟩;have m10:Mv (fun q=>q=b7) WA W10:=by rw [←h10];exact Mv.st _ (.inl rfl) (Mv.refl _ _)
  have HF:=Xh (show RowZ W10 b6 (agv o1)∧RowZ W10 b7 (dnv ⟨13,none,0,0,none,0,0⟩)∧SlC W10 p' a.xs∧Ext w W10 from⟨ro.mv m10 Om,by rw [←h10];exact rd.set 0 _,sO.mvg m10 (fun b off e=>by have:=hpO b off e;omega),Mv.ext_of E9 m10 (fun q e=>by have:=HE3.out;omega)⟩);rw [h10];clear h10 m10;clear rd8 ra ro rd r9 r10 sO E9 hpO d0 f0;go_simp;go_wp2;go_step3;refine⟨rfl,?_⟩
  go_upto_region 23 with(fail)
  refine JC (o:=o1) (d:=⟨13,none,0,0,none,0,0⟩) (b6:=b6) (b7:=b7) Kr Kr Kr HF.out.1 HF.out.2.1 ?_;intro a' w' e' r6 r7 q6 q7 hd;go_wp2;refine bodyPost_ret (ZJ rfl _ _ b6 b7 q6 q7 (YN r6.r) (J1 r7.r rfl)) hd ?_;rw [←HER.out,HG.out,←HEO.out];exact⟨p',c',none,0,none,0,rfl,HF.out.2.2.1.ext e',SlE.nil _ none,SlBB.nil _ none,HF.out.2.2.2.tr e'⟩
 obtain⟨nb,hnb⟩: ∃nb:Bool,decide (tn=(2,a.id))=!nb:=⟨!decide (tn=(2,a.id)),by simp⟩;obtain⟨sq,hq1,hq2⟩:=hqO rfl;obtain⟨lo9,hlo9⟩: ∃n,W9.heap.size=n:=⟨_,rfl⟩;rw [hlo9]at hq2 hpO;have z9:lo9≤W9.heap.size:=by omega
 clear hlo9 hqO
 go_upto_region 8 with(fail)
 refine QT (fun _=>False) Kr ?_;obtain⟨WA,hW⟩: ∃Wdr,World.drew W9=Wdr:=⟨_,rfl⟩;have gD:Ext W9 WA:=by rw [←hW];exact Ext.dr (Ext.rf _)
 rw [hW];clear hW;have E9:=E9.tr gD;have ra:=ra.ext gD;have ro:=ro.ext gD;have rd:=rd.ext gD;have r9:=r9.ext gD;have r10:=r10.ext gD;have sO:=sO.ext gD;have sq:=sq.ext gD;have z9:=Xt z9 gD.size;have r10c2:WA.cell? ⟨b10,2,none⟩=some (.int .u8 tn.1):=by have:=r10.cell 2 (by show 2<18;omega);rw [this,←HEC.out];rfl
 have r10c3:WA.cell? ⟨b10,2+1,none⟩=some (.int .i64 tn.2):=by have:=r10.cell 3 (by show 3<18;omega);rw [this,←HEC.out];rfl
 refine Qas (N:=12) (R:=QpW) (E:=((Tryz.f12.body.bind (Qg 8)).getD #[])) Kr Qkt Kr fun hS=> ?_;have hT:=hS.2.1;refine tMk 1 (.pointer (some ⟨b7,0,none⟩)) hS.1 hT rfl fun hT=> ?_;refine tM 3 (.int .u8 0) hS.1 hT rfl (YC (C:=fun _=>False) (rd.cell 0 (by show 0<3;omega)) rd.l (fun h=>h) Kr) fun hT=> ?_;refine tMk 7 (.bool false) hS.1 hT rfl fun hT=> ?_;refine tMk 15 (.bool false) hS.1 hT rfl fun hT=> ?_;refine tMk 31 (.pointer (some ⟨b10,0,none⟩)) hS.1 hT rfl fun hT=> ?_;refine tMk 63 (.pointer (some ⟨b10,2,none⟩)) hS.1 hT rfl fun hT=> ?_;refine tM 127 (.agg #[.int .u8 tn.1,.int .i64 tn.2]) hS.1 hT rfl (QrP (C:=fun _=>False) r10c2 r10c3 r10.l (fun h=>h) Kr) fun hT=> ?_;refine tMk 255 (.pointer (some ⟨b3,0,none⟩)) hS.1 hT rfl fun hT=> ?_;refine tM 511 (.int .i64 a.id) hS.1 hT rfl (QW (C:=fun _=>False) (Yb ra.r) ra.l (fun h=>h) Kr) fun hT=> ?_;refine sM 1023 (fun v _=>v= .agg #[.int .u8 2,.int .i64 a.id]) hS.2.2.1 rfl (Zz (QcQ a.id WA)) ?_;rintro _ WB1 gWB1 rfl;have E9:=E9.tr gWB1;have ra:=ra.ext gWB1;have ro:=ro.ext gWB1;have rd:=rd.ext gWB1;have r9:=r9.ext gWB1;have r10:=r10.ext gWB1;have sO:=sO.ext gWB1;have sq:=sq.ext gWB1;have hT:=hS.2.2.2.1;refine tM 2047 (.bool nb) hS.1 hT rfl (fun w' _=>QmS hnb Kr Kr w') fun hT=> ?_;refine tMk 4095 (.bool nb) hS.1 hT rfl fun hT=> ?_;refine doneK hS.2.2.2.2 ?_;clear hS hT r10c2 r10c3;have z9:=Xt z9 gWB1.size
 cases nb
 ·have htn:tn=(2,a.id):=by simpa using hnb
  have HTN:=Xh htn;clear htn hnb;go_simp;have HEN:=Xh (QrS HBB.out.1 hN);have HN:=Xh hN
  go_upto_region 10 with(fail)
  have HPK:Calls Tryz.prog 42 #[.slice q pl.length cq] WB1 fun e w'=> ∃v,e= .returned v∧QpR pl WB1 v w':=by
   refine QrT sq HEN.out.1 (by have:=HEN.out.2.1;have:=HBB.out.2;omega) hcq ?_;exact fun b off e=>by have:=hq2 b off e;omega
  have c10:WB1.cell? ⟨b10,10,none⟩=some (.slice q pl.length cq):=by have:=r10.cell 10 (by show 10<18;omega);rw [this,←HEC.out];rfl
  refine wp_region_lit ?_;refine listV (v:= .pointer (some ⟨b10,0,none⟩)) (w':=WB1) rfl Kr ?_;refine listV (v:= .pointer (some ⟨b10,10,none⟩)) (w':=WB1) rfl Kr ?_;refine listV rfl (Qad (C:=fun _=>False) c10 r10.l (fun h=>h) Kr _ (Mv.refl _ _)) ?_;refine J0 (f:=42) (args:=#[.slice q pl.length cq]) rfl Kr HPK ?_;rintro v11 w11 ⟨pb,nb,kb,rfl,g11⟩;have E9:=E9.tr g11;have ra:=ra.ext g11;have ro:=ro.ext g11;have rd:=rd.ext g11;have r9:=r9.ext g11;have r10:=r10.ext g11;have sO:=sO.ext g11;have sq:=sq.ext g11;have z9:=Xt z9 g11.size;obtain⟨k,hk⟩: ∃k,pkI pl=k:=⟨_,rfl⟩;obtain⟨dr,hdr⟩: ∃dr,Yp pl=dr:=⟨_,rfl⟩;have HKD:=Xh (And.intro hk hdr);rw [hk,hdr];clear hk hdr;refine listV (v:= .tuple #[.agg (pkV k (.slice pb nb kb)),.int .u8 dr]) (w':=w11) rfl Kr ?_;refine listV (v:= .agg (pkV k (.slice pb nb kb))) (w':=w11) rfl Kr ?_;refine listV (v:= .int .u8 dr) (w':=w11) rfl Kr ?_;refine listV (v:= .pointer (some ⟨b10,11,none⟩)) (w':=w11) rfl Kr ?_;refine Zk rfl (QrO (B:=b10) (o:=11) (cs:=pkV k (.slice pb nb kb)) (by rw [r10.r];show 11+6≤18;omega) r10.z rfl (by unfold pkV;simp [go_sem]) Kr Kr) ?_;obtain⟨W11,h11⟩: ∃W11,Qe w11 b10 11 (pkV k (.slice pb nb kb))=W11:=⟨_,rfl⟩;have m11:Mv (fun q=>q=b10) w11 W11:=by rw [←h11];exact Mv.sa _ rfl (Mv.refl _ _)
  obtain⟨c2,ec2⟩: ∃c2,({c1 with pk:=k,bp:=pb,bN:=nb,bc:=kb}:Cm)=c2:=⟨_,rfl⟩;have r10:RowZ W11 b10 (cmv c2):=by rw [←h11,←ec2];exact Quw k pb nb kb r10
  have ra:=ra.mv m11 Om;have ro:=ro.mv m11 Om;have rd:=rd.mv m11 Om;have r9:=r9.mv m11 Om;have sO:=sO.mvg m11 (fun b off e=>by have:=hpO b off e;omega);have sq:=sq.mvg m11 (fun b off e=>by have:=hq1 b off e;omega);rw [h11];refine listV (v:= .pointer (some ⟨b7,0,none⟩)) (w':=W11) rfl Kr ?_;refine Zk rfl (Qc7 (B:=b7) (i:=0) (n:=dr) (rd.cell 0 (by show 0<3;omega)) (rd.frz 0) Kr Kr) ?_;refine wpList_nil ?_;obtain⟨W12,h12⟩: ∃W12,W11.setCell ⟨b7,0,none⟩ (.int .u8 dr)=W12:=⟨_,rfl⟩;have m12:Mv (fun q=>q=b7) W11 W12:=by rw [←h12];exact Mv.st _ (.inl rfl) (Mv.refl _ _)
  have rd:RowZ W12 b7 #[.int .u8 dr,.slice none 0 0,.slice none 0 0]:=by rw [←h12];exact rd.set 0 _
  have ra:=ra.mv m12 Om;have ro:=ro.mv m12 Om;have r9:=r9.mv m12 Om;have r10:=r10.mv m12 Om;have sO:=sO.mvg m12 (fun b off e=>by have:=hpO b off e;omega);have sq:=sq.mvg m12 (fun b off e=>by have:=hq1 b off e;omega);have z9:=Xt (Xt z9 m11.size) m12.size;have E9:=Mv.ext_of (Mv.ext_of E9 m11 (fun q e=>by have:=HE3.out;omega)) m12 (fun q e=>by have:=HE3.out;omega);have HEC2:=Xh ec2;rw [h12];clear h11 h12 m11 m12 g11 ec2 c10 HPK;have d0:W12.cell? ⟨b7,0,none⟩=some (.int .u8 dr):=rd.cell 0 (by show 0<3;omega)
  cases hdz:decide (dr=0)
  ·have hdz':(dr==0)=false:=by simpa using hdz
   have HG:inR a bs now=(dr,a.xs,[],[]):=by
    have hne:dr≠0:=by simpa using hdz
    unfold inR;rw [HAG.out.2,if_neg Dc,HN.out];show(if tn≠(2,a.id)then _ else if Yp pl≠0 then _ else _)=_;rw [if_neg (by rw [HTN.out];exact fun h=>h rfl),HKD.out.2,if_pos hne]
   have HG:=Xh HG;have HF:=Xh (show RowZ W12 b6 (agv o1)∧RowZ W12 b7 (dnv ⟨dr,none,0,0,none,0,0⟩)∧SlC W12 p' a.xs∧Ext w W12 from⟨ro,rd,sO,E9⟩);clear ra ro rd r9 r10 sO sq E9 hpO hdz;go_simp;go_wp2;go_step3;refine⟨rfl,?_⟩
   go_upto_region 23 with(fail)
   refine JC (o:=o1) (d:=⟨dr,none,0,0,none,0,0⟩) (b6:=b6) (b7:=b7) Kr Kr Kr HF.out.1 HF.out.2.1 ?_;intro a' w' e' r6 r7 q6 q7 hd;go_wp2;refine bodyPost_ret (ZJ rfl _ _ b6 b7 q6 q7 (YN r6.r) (J1 r7.r rfl)) hd ?_;rw [←HER.out,HG.out,←HEO.out];exact⟨p',c',none,0,none,0,rfl,HF.out.2.2.1.ext e',SlE.nil _ none,SlBB.nil _ none,HF.out.2.2.2.tr e'⟩
  ·have hdz':dr=0:=by simpa using hdz
   subst hdz';clear hdz;go_simp;obtain⟨hTU,hFL⟩:=Quy HEN.out.1;rw [HKD.out.1]at hTU hFL;have HTUR:=Xh (And.intro hTU hFL);have ek2:c2.pk=k:=by rw [←HEC2.out]
   have eo2:c2.o=o:=by rw [←HEC2.out,←HEC.out]
   have ef2:c2.fr=fr:=by rw [←HEC2.out,←HEC.out]
   have en2:c2.now=now:=by rw [←HEC2.out,←HEC.out];rfl
   have HCE:=Xh (And.intro ek2 (And.intro eo2 (And.intro ef2 en2)));have t0:W12.cell? ⟨b10,11,none⟩=some (.int .u32 k.tu.a):=by rw [←ek2];exact r10.cell 11 (by show 11<18;omega)
   have t1:W12.cell? ⟨b10,12,none⟩=some (.int .u32 k.tu.b):=by rw [←ek2];exact r10.cell 12 (by show 12<18;omega)
   have t2:W12.cell? ⟨b10,13,none⟩=some (.int .u16 k.tu.c):=by rw [←ek2];exact r10.cell 13 (by show 13<18;omega)
   have t3:W12.cell? ⟨b10,14,none⟩=some (.int .u16 k.tu.d):=by rw [←ek2];exact r10.cell 14 (by show 14<18;omega)
   clear hTU hFL ek2 eo2 ef2 en2;have HR12:=Xh (And.intro ra (And.intro ro (And.intro rd (And.intro r9 (And.intro r10 (And.intro sO (And.intro sq E9)))))));clear ra ro rd r9 r10 sO sq E9;have HHO:=Xh (fun W=>QfX k.tu HTUR.out.1 W);have hbd:=QdU k.tu
   go_upto_region 13 with(go_at_call 43;(with_reducible refine(HHO.out _).mono ?_);rintro e w13 ⟨rfl,g13⟩)
   obtain⟨ra,ro,rd,r9,r10,sO,sq,E9⟩:=HR12.out;have ra:=ra.ext g13;have ro:=ro.ext g13;have rd:=rd.ext g13;have r9:=r9.ext g13;have r10:=r10.ext g13;have sO:=sO.ext g13;have sq:=sq.ext g13;have E9:=E9.tr g13;have z9:=Xt z9 g13.size;refine wp_region_lit ?_;refine listV (v:= .pointer (some ⟨b7,0,none⟩)) (w':=w13) rfl Kr ?_;refine Zk rfl (Qc7 (B:=b7) (i:=0) (n:=14) (rd.cell 0 (by show 0<3;omega)) (rd.frz 0) Kr Kr) ?_;refine wpList_nil ?_;obtain⟨W14,h14⟩: ∃W14,w13.setCell ⟨b7,0,none⟩ (.int .u8 14)=W14:=⟨_,rfl⟩;have m14:Mv (fun q=>q=b7) w13 W14:=by rw [←h14];exact Mv.st _ (.inl rfl) (Mv.refl _ _)
   have rd:RowZ W14 b7 #[.int .u8 14,.slice none 0 0,.slice none 0 0]:=by rw [←h14];exact rd.set 0 _
   have ra:=ra.mv m14 Om;have ro:=ro.mv m14 Om;have r9:=r9.mv m14 Om;have r10:=r10.mv m14 Om;have sO:=sO.mvg m14 (fun b off e=>by have:=hpO b off e;omega);have sq:=sq.mvg m14 (fun b off e=>by have:=hq1 b off e;omega);have z9:=Xt z9 m14.size;have E9:=Mv.ext_of E9 m14 (fun q e=>by have:=HE3.out;omega);rw [h14];clear h14 m14 g13 t0 t1 t2 t3 d0 HR12 HHO;have cb:W14.cell? ⟨b10,5,none⟩=some (.int .u8 o.bu):=by have:=r10.cell 5 (by show 5<18;omega);rw [this];show some (Value.int .u8 c2.o.bu)=_;rw [HCE.out.2.1]
   have hbu:0≤o.bu∧o.bu<256:=HEN.out.2.2.2.1;go_simp
   cases hbk:decide (ofT k.tu=o.bu)
   ·have hbk':(ofT k.tu==o.bu)=false:=by simpa using hbk
    have HG:inR a bs now=(14,a.xs,[],[]):=by
     have hne:ofT k.tu≠o.bu:=by simpa using hbk
     unfold inR;rw [HAG.out.2,if_neg Dc,HN.out];show(if tn≠(2,a.id)then _ else if Yp pl≠0 then _ else if ofT (pkI pl).tu≠o.bu then _ else _)=_;rw [if_neg (by rw [HTN.out];exact fun h=>h rfl),HKD.out.2,if_neg (fun h=>h rfl),HKD.out.1,if_pos hne]
    have HG:=Xh HG;have HF:=Xh (show RowZ W14 b6 (agv o1)∧RowZ W14 b7 (dnv ⟨14,none,0,0,none,0,0⟩)∧SlC W14 p' a.xs∧Ext w W14 from⟨ro,rd,sO,E9⟩);clear ra ro rd r9 r10 sO sq E9 hpO hbk;go_wp2;go_step3;refine⟨rfl,?_⟩
    go_upto_region 23 with(fail)
    refine JC (o:=o1) (d:=⟨14,none,0,0,none,0,0⟩) (b6:=b6) (b7:=b7) Kr Kr Kr HF.out.1 HF.out.2.1 ?_;intro a' w' e' r6 r7 q6 q7 hd;go_wp2;refine bodyPost_ret (ZJ rfl _ _ b6 b7 q6 q7 (YN r6.r) (J1 r7.r rfl)) hd ?_;rw [←HER.out,HG.out,←HEO.out];exact⟨p',c',none,0,none,0,rfl,HF.out.2.2.1.ext e',SlE.nil _ none,SlBB.nil _ none,HF.out.2.2.2.tr e'⟩
   ·have hbk':ofT k.tu=o.bu:=by simpa using hbk
    clear hbk;have cf0:W14.cell? ⟨b10,0,none⟩=some (.int .u8 fr.1):=by have:=r10.cell 0 (by show 0<18;omega);rw [this];show some (Value.int .u8 c2.fr.1)=_;rw [HCE.out.2.2.1]
    have cf1:W14.cell? ⟨b10,1,none⟩=some (.int .i64 fr.2):=by have:=r10.cell 1 (by show 1<18;omega);rw [this];show some (Value.int .i64 c2.fr.2)=_;rw [HCE.out.2.2.1]
    have c91:W14.cell? ⟨b9,1,none⟩=some (.int .i64 (-1)):=r9.cell 1 (by show 1<6;omega);have f91:W14.frozen? ⟨b9,1,none⟩=false:=r9.frz 1;obtain⟨fv,hfv⟩: ∃fv:Int,(if fr.1=2 then fr.2 else-1)=fv:=⟨_,rfl⟩;have HFV:=Xh hfv;have HR14:=Xh (And.intro ra (And.intro ro (And.intro rd (And.intro r9 (And.intro r10 (And.intro sO (And.intro sq E9)))))));clear ra ro rd r9 r10 sO sq E9 hfv;have h910:b10≠b9:=by omega
    go_upto_if 77 with(fail)
    have HBK:=Xh hbk';clear cb hbk'
    go_cut [78]from 78 to 83 (fun v wx=>RowZ wx b9 #[.int .u8 0,.int .i64 fv,.int .i64 0,.bool false,.bool false,.bool false]∧Mv (fun q=>q=b9) W14 wx)
    case first=>
     cases hf2:decide (fr.1=2)
     ·have hf2':(fr.1==2)=false:=by simpa using hf2
      have HV:=Xh (show fv= -1 by rw [←HFV.out,if_neg (by simpa using hf2)]);clear hf2
      go_wp2_with (fail)
      go_meet
      exact⟨by rw [HV.out];exact HR14.out.2.2.2.1,Mv.refl _ _⟩
     ·have hf2':fr.1=2:=by simpa using hf2
      have HV:=Xh (show fv=fr.2 by rw [←HFV.out,if_pos hf2']);have hf2b:(fr.1==2)=true:=by rw [hf2'];rfl
      clear hf2 hf2'
      go_wp2_with (fail)
      go_meet
      exact⟨by rw [HV.out];exact HR14.out.2.2.2.1.set 1 _,Mv.st _ (.inl rfl) (Mv.refl _ _)⟩
    case rest=>
     obtain⟨r9,m16⟩:=hcut;obtain⟨W16,hW16⟩: ∃W,wc=W:=⟨_,rfl⟩;rw [hW16]at r9 m16⊢;clear hW16 cf0 cf1 c91 f91;obtain⟨ra,ro,rd,-,r10,sO,sq,E9⟩:=HR14.out;have ra:=ra.mv m16 Om;have ro:=ro.mv m16 Om;have rd:=rd.mv m16 Om;have r10:=r10.mv m16 Om;have sO:=sO.mvg m16 (fun b off e=>by have:=hpO b off e;omega);have sq:=sq.mvg m16 (fun b off e=>by have:=hq1 b off e;omega);have z9:=Xt z9 m16.size;have E9:=Mv.ext_of E9 m16 (fun q e=>by have:=HE3.out;omega);clear HR14 m16;have h109: ¬b10=b9:=by omega
     go_upto_region 17 with(fail)
     refine Qy (fun _=>False) (fun q=>q=b9) 9 Kr ?_;obtain⟨WG,hW⟩: ∃Wdr,World.drew W16=Wdr:=⟨_,rfl⟩;have gD:Ext W16 WG:=by rw [←hW];exact Ext.dr (Ext.rf _)
     rw [hW];clear hW;have E9:=E9.tr gD;have ra:=ra.ext gD;have ro:=ro.ext gD;have rd:=rd.ext gD;have r9:=r9.ext gD;have r10:=r10.ext gD;have sO:=sO.ext gD;have sq:=sq.ext gD;have z9:=Xt z9 gD.size;refine Zi (N:=12) (R:=QpS) (E:=((Tryz.f12.body.bind (Qg 17)).getD #[])) Kr Qkp Kr fun hS=> ?_;have hT:=hS.2.1;refine tWk 1 (.pointer (some ⟨b10,0,none⟩)) hS.1 hT rfl fun hT=> ?_;refine tWk 3 (.pointer (some ⟨b10,4,none⟩)) hS.1 hT rfl fun hT=> ?_;refine tWk 7 (.pointer (some ⟨b10,4,none⟩)) hS.1 hT rfl fun hT=> ?_;refine tW 15 (.int .u8 c2.o.ki) hS.1 hT rfl (YC (C:=fun q=>q=b9) (QZ r10 4 (by show 4<18;omega)) r10.l h109 Kr) fun hT=> ?_;refine tWk 31 (.pointer (some ⟨b10,0,none⟩)) hS.1 hT rfl fun hT=> ?_;refine tWk 63 (.pointer (some ⟨b10,4,none⟩)) hS.1 hT rfl fun hT=> ?_;refine tWk 127 (.pointer (some ⟨b10,8,none⟩)) hS.1 hT rfl fun hT=> ?_;refine tW 255 (.int .i64 c2.o.ge) hS.1 hT rfl (QW (QZ r10 8 (by show 8<18;omega)) r10.l h109 Kr) fun hT=> ?_;refine tWk 511 (.pointer (some ⟨b9,0,none⟩)) hS.1 hT rfl fun hT=> ?_;refine Qs hS.2.2.1 (QD (m':=1023) rfl rfl Kr (Qc7 (B:=b9) (i:=0) (n:=c2.o.ki) (r9.cell 0 (by show 0<6;omega)) (r9.frz 0) Kr Kr) ⟨.inl Dc,(Mv.st _ (.inl rfl) (Mv.refl _ _))⟩ ?_);obtain⟨WH1,hWH1⟩: ∃WH1,World.setCell WG ⟨b9,0,none⟩ (.int .u8 c2.o.ki)=WH1:=⟨_,rfl⟩;have gS:Mv (fun q=>q=b9) WG WH1:=by rw [←hWH1];exact Mv.st _ (.inl rfl) (Mv.refl _ _)
     have r9:RowZ WH1 b9 #[.int .u8 c2.o.ki,.int .i64 fv,.int .i64 0,.bool false,.bool false,.bool false]:=by rw [←hWH1];exact r9.set 0 _
     have E9:=Mv.ext_of E9 gS (fun q e=>by have:=HE3.out;omega);have ra:=ra.mv gS Om;have ro:=ro.mv gS Om;have rd:=rd.mv gS Om;have r10:=r10.mv gS Om;have sO:=sO.mvg gS (fun b off e=>by have:=hpO b off e;omega);have sq:=sq.mvg gS (fun b off e=>by have:=hq1 b off e;omega);have z9:=Xt z9 gS.size;rw [hWH1];clear hWH1;have hT:=hS.2.2.2.1;refine tWk 2047 (.pointer (some ⟨b9,2,none⟩)) hS.1 hT rfl fun hT=> ?_;refine Qs hS.2.2.2.2.1 (QD (m':=4095) rfl rfl Kr (QrR (B:=b9) (i:=2) (n:=c2.o.ge) (r9.cell 2 (by show 2<6;omega)) (r9.frz 2) Kr Kr) ⟨.inl Dc,(Mv.st _ (.inl rfl) (Mv.refl _ _))⟩ ?_);obtain⟨WH2,hWH2⟩: ∃WH2,World.setCell WH1 ⟨b9,2,none⟩ (.int .i64 c2.o.ge)=WH2:=⟨_,rfl⟩;have gS:Mv (fun q=>q=b9) WH1 WH2:=by rw [←hWH2];exact Mv.st _ (.inl rfl) (Mv.refl _ _)
     have r9:RowZ WH2 b9 #[.int .u8 c2.o.ki,.int .i64 fv,.int .i64 c2.o.ge,.bool false,.bool false,.bool false]:=by rw [←hWH2];exact r9.set 2 _
     have E9:=Mv.ext_of E9 gS (fun q e=>by have:=HE3.out;omega);have ra:=ra.mv gS Om;have ro:=ro.mv gS Om;have rd:=rd.mv gS Om;have r10:=r10.mv gS Om;have sO:=sO.mvg gS (fun b off e=>by have:=hpO b off e;omega);have sq:=sq.mvg gS (fun b off e=>by have:=hq1 b off e;omega);have z9:=Xt z9 gS.size;rw [hWH2];clear hWH2;refine Q2 hS.2.2.2.2.2 ?_;clear hS hT
     go_upto_region 18 with(fail)
     have HFI:Calls Tryz.prog 44 #[.slice a.p a.xs.length a.c,.agg #[.int .u32 c2.pk.tu.a,.int .u32 c2.pk.tu.b,.int .u16 c2.pk.tu.c,.int .u16 c2.pk.tu.d]] WH2 fun e w'=> ∃v,e= .returned v∧(v= .tuple #[.int .i64 (atC a.xs c2.pk.tu),.bool (okC a.xs c2.pk.tu)]∧Ext WH2 w'):=
      (QdL c2.pk.tu a.p a.xs a.c WH2 (HSA.out.1.ext E9) HSA.out.2).mono fun e w' ⟨h1,h2⟩=>⟨_,h1,rfl,h2⟩
     refine wp_region_lit ?_;refine listV (v:= .pointer (some ⟨b3,66,none⟩)) (w':=WH2) rfl Kr ?_;refine listV rfl (Qan (C:=fun _=>False) (by rw [Qa,ra.r,Qu]) ra.l (fun h=>h) Kr _ (Mv.refl _ _)) ?_;refine listV (v:= .pointer (some ⟨b10,11,none⟩)) (w':=WH2) rfl Kr ?_;refine listV (v:= .pointer (some ⟨b10,11,none⟩)) (w':=WH2) rfl Kr ?_;refine listV rfl (QeF (C:=fun _=>False) (QZ r10 11 (by show 11<18;omega)) (QZ r10 12 (by show 12<18;omega)) (QZ r10 13 (by show 13<18;omega)) (QZ r10 14 (by show 14<18;omega)) r10.l (fun h=>h) Kr _ (Mv.refl _ _)) ?_;refine J0 (f:=44) rfl Kr HFI ?_;rintro v18 w18 ⟨rfl,g18⟩;have E9:=E9.tr g18;have ra:=ra.ext g18;have ro:=ro.ext g18;have rd:=rd.ext g18;have r9:=r9.ext g18;have r10:=r10.ext g18;have sO:=sO.ext g18;have sq:=sq.ext g18;have z9:=Xt z9 g18.size;obtain⟨kn,hkn⟩: ∃kn,okC a.xs c2.pk.tu=kn:=⟨_,rfl⟩;have HKN:=Xh hkn;rw [hkn];clear hkn HFI;refine listV (v:= .tuple #[.int .i64 (atC a.xs c2.pk.tu),.bool kn]) (w':=w18) rfl Kr ?_;refine listV (v:= .int .i64 (atC a.xs c2.pk.tu)) (w':=w18) rfl Kr ?_;refine listV (v:= .bool kn) (w':=w18) rfl Kr ?_;refine listV (v:= .pointer (some ⟨b9,4,none⟩)) (w':=w18) rfl Kr ?_;refine Zk rfl (Qko (B:=b9) (i:=4) (n:=kn) (r9.cell 4 (by show 4<6;omega)) (r9.frz 4) Kr Kr) ?_;refine wpList_nil ?_;obtain⟨W18,h18⟩: ∃W18,w18.setCell ⟨b9,4,none⟩ (.bool kn)=W18:=⟨_,rfl⟩;have gS:Mv (fun q=>q=b9) w18 W18:=by rw [←h18];exact Mv.st _ (.inl rfl) (Mv.refl _ _)
     have r9:RowZ W18 b9 #[.int .u8 c2.o.ki,.int .i64 fv,.int .i64 c2.o.ge,.bool false,.bool kn,.bool false]:=by rw [←h18];exact r9.set 4 _
     have E9:=Mv.ext_of E9 gS (fun q e=>by have:=HE3.out;omega);have ra:=ra.mv gS Om;have ro:=ro.mv gS Om;have rd:=rd.mv gS Om;have r10:=r10.mv gS Om;have sO:=sO.mvg gS (fun b off e=>by have:=hpO b off e;omega);have sq:=sq.mvg gS (fun b off e=>by have:=hq1 b off e;omega);have z9:=Xt z9 gS.size;rw [h18];clear h18 g18 gS
     go_upto_region 19 with(fail)
     obtain⟨sy,hsy⟩: ∃sy,Qxq c2.pk=sy:=⟨_,rfl⟩;obtain⟨rm,hrm⟩: ∃rm,decide ((a.xs.length:Int)<32)=rm:=⟨_,rfl⟩;have HSY:Hid (∀W,Calls Tryz.prog 45 #[.agg (pkV c2.pk (.slice c2.bp c2.bN c2.bc))] W fun e w'=>e= .returned (.bool sy)∧Ext W w'):=Xh (fun W=>by rw [←hsy];exact QrC c2.pk c2.bp c2.bN c2.bc W);have HRM:Hid (∀W,Calls Tryz.prog 46 #[.slice a.p a.xs.length a.c] W fun e w'=>e= .returned (.bool rm)∧Ext W w'):=Xh (fun W=>by rw [←hrm];exact(QdM a.p a.xs.length a.c W).mono fun e w' ⟨h1,h2⟩=>⟨h1,by rw [←h2];exact Ext.rf _⟩);have HSR:=Xh (And.intro hsy hrm);clear hsy hrm;have h39: ¬b3=b9:=by omega
     refine Qy (fun _=>False) (fun q=>q=b9) 7 Kr ?_;obtain⟨WI,hW⟩: ∃Wdr,World.drew W18=Wdr:=⟨_,rfl⟩;have gD:Ext W18 WI:=by rw [←hW];exact Ext.dr (Ext.rf _)
     rw [hW];clear hW;have E9:=E9.tr gD;have ra:=ra.ext gD;have ro:=ro.ext gD;have rd:=rd.ext gD;have r9:=r9.ext gD;have r10:=r10.ext gD;have sO:=sO.ext gD;have sq:=sq.ext gD;have z9:=Xt z9 gD.size;refine Zi (N:=10) (R:=QpU) (E:=((Tryz.f12.body.bind (Qg 19)).getD #[])) Kr Qkr Kr fun hS=> ?_;have hT:=hS.2.1;refine tWk 1 (.pointer (some ⟨b10,11,none⟩)) hS.1 hT rfl fun hT=> ?_;refine tW 3 (.agg (pkV c2.pk (.slice c2.bp c2.bN c2.bc))) hS.1 hT rfl (QrQ r10 h109 Kr) fun hT=> ?_;refine tWk 11 (.pointer (some ⟨b3,66,none⟩)) hS.1 hT rfl fun hT=> ?_;refine tW 27 (.slice a.p a.xs.length a.c) hS.1 hT rfl (Qan (C:=fun q=>q=b9) (by rw [Qa,ra.r,Qu]) ra.l h39 Kr) fun hT=> ?_;refine sV 31 (fun v _=>v= .bool sy) hS.2.2.1 rfl (Zz (HSY.out WI)) ?_;rintro _ WJ1 gWJ1 rfl;have E9:=E9.tr gWJ1;have ra:=ra.ext gWJ1;have ro:=ro.ext gWJ1;have rd:=rd.ext gWJ1;have r9:=r9.ext gWJ1;have r10:=r10.ext gWJ1;have sO:=sO.ext gWJ1;have sq:=sq.ext gWJ1;have z9:=Xt z9 gWJ1.size;have hT:=hS.2.2.2.1;refine tWk 95 (.pointer (some ⟨b9,3,none⟩)) hS.1 hT rfl fun hT=> ?_;refine sV 127 (fun v _=>v= .bool rm) hS.2.2.2.2.1 rfl (Zz (HRM.out WJ1)) ?_;rintro _ WJ2 gWJ2 rfl;have E9:=E9.tr gWJ2;have ra:=ra.ext gWJ2;have ro:=ro.ext gWJ2;have rd:=rd.ext gWJ2;have r9:=r9.ext gWJ2;have r10:=r10.ext gWJ2;have sO:=sO.ext gWJ2;have sq:=sq.ext gWJ2;have z9:=Xt z9 gWJ2.size;refine Qs hS.2.2.2.2.2.1 (QD (m':=255) rfl rfl Kr (Qko (B:=b9) (i:=3) (n:=sy) (r9.cell 3 (by show 3<6;omega)) (r9.frz 3) Kr Kr) ⟨.inl Dc,(Mv.st _ (.inl rfl) (Mv.refl _ _))⟩ ?_);obtain⟨WJ3,hWJ3⟩: ∃WJ3,World.setCell WJ2 ⟨b9,3,none⟩ (.bool sy)=WJ3:=⟨_,rfl⟩;have gS:Mv (fun q=>q=b9) WJ2 WJ3:=by rw [←hWJ3];exact Mv.st _ (.inl rfl) (Mv.refl _ _)
     have r9:RowZ WJ3 b9 #[.int .u8 c2.o.ki,.int .i64 fv,.int .i64 c2.o.ge,.bool sy,.bool kn,.bool false]:=by rw [←hWJ3];exact r9.set 3 _
     have E9:=Mv.ext_of E9 gS (fun q e=>by have:=HE3.out;omega);have ra:=ra.mv gS Om;have ro:=ro.mv gS Om;have rd:=rd.mv gS Om;have r10:=r10.mv gS Om;have sO:=sO.mvg gS (fun b off e=>by have:=hpO b off e;omega);have sq:=sq.mvg gS (fun b off e=>by have:=hq1 b off e;omega);have z9:=Xt z9 gS.size;rw [hWJ3];clear hWJ3;have hT:=hS.2.2.2.2.2.2.1;refine tWk 511 (.pointer (some ⟨b9,5,none⟩)) hS.1 hT rfl fun hT=> ?_;refine Qs hS.2.2.2.2.2.2.2.1 (QD (m':=1023) rfl rfl Kr (Qko (B:=b9) (i:=5) (n:=rm) (r9.cell 5 (by show 5<6;omega)) (r9.frz 5) Kr Kr) ⟨.inl Dc,(Mv.st _ (.inl rfl) (Mv.refl _ _))⟩ ?_);obtain⟨WJ4,hWJ4⟩: ∃WJ4,World.setCell WJ3 ⟨b9,5,none⟩ (.bool rm)=WJ4:=⟨_,rfl⟩;have gS:Mv (fun q=>q=b9) WJ3 WJ4:=by rw [←hWJ4];exact Mv.st _ (.inl rfl) (Mv.refl _ _)
     have r9:RowZ WJ4 b9 #[.int .u8 c2.o.ki,.int .i64 fv,.int .i64 c2.o.ge,.bool sy,.bool kn,.bool rm]:=by rw [←hWJ4];exact r9.set 5 _
     have E9:=Mv.ext_of E9 gS (fun q e=>by have:=HE3.out;omega);have ra:=ra.mv gS Om;have ro:=ro.mv gS Om;have rd:=rd.mv gS Om;have r10:=r10.mv gS Om;have sO:=sO.mvg gS (fun b off e=>by have:=hpO b off e;omega);have sq:=sq.mvg gS (fun b off e=>by have:=hq1 b off e;omega);have z9:=Xt z9 gS.size;rw [hWJ4];clear hWJ4;refine Q2 hS.2.2.2.2.2.2.2.2 ?_;clear hS hT;go_simp
     go_upto_region 20 with(fail)
     obtain⟨W19,hW19⟩: ∃W,WJ4=W:=⟨_,rfl⟩;rw [hW19]at ra ro rd r9 r10 sO sq E9 z9⊢;clear hW19 gS;obtain⟨x,hx⟩: ∃x,Ru.Qs4 (toR (a.md (ofT k.tu).toNat)) c2.o.ki fv c2.o.ge sy kn rm=x:=⟨_,rfl⟩;obtain⟨bi,hbi'⟩: ∃bi,(ofT k.tu).toNat=bi:=⟨_,rfl⟩;have hbi:bi<16:=by omega
     have eof:ofT k.tu=(bi:Int):=by omega
     have HRU:Hid (∀W,Calls Tryz.prog 47 #[.agg (mdv (a.md bi)),.agg #[.int .u8 c2.o.ki,.int .i64 fv,.int .i64 c2.o.ge,.bool sy,.bool kn,.bool rm]] W fun e w'=>e= .returned (.agg (acv x))∧Ext W w'):=Xh (fun W=>by
      rw [←hx,hbi',Qak]
      exact Ru.Qxn (toR (a.md bi)) c2.o.ki fv c2.o.ge sy kn rm W (HK.out bi hbi) (by rw [HCE.out.2.1];exact HEN.out.2.2.1.1))
     have HX0:=Xh (And.intro hx hbi');have HIX:=Xh (QmT (B:=b3) hbi);rw [eof];have HEOF:=Xh eof;clear hx hbi' eof hbd;have HR19:=Xh (And.intro ra (And.intro ro (And.intro rd (And.intro r9 (And.intro r10 (And.intro sO (And.intro sq E9)))))));obtain⟨lo19,hl19'⟩: ∃n,W19.heap.size=n:=⟨_,rfl⟩;have hl19:W19.heap.size≤lo19:=by omega
     have z19:lo19≤W19.heap.size:=by omega
     clear hl19';have hd3: ¬lo19≤b3:=by have:b10<W19.heap.size:=r10.l;omega
     have hd9: ¬lo19≤b9:=by have:b10<W19.heap.size:=r10.l;omega
     go_cut [11]from 111 to 117 (fun s wx=> ∃b11,s= .pointer (some ⟨b11,0,none⟩)∧(RowZ wx b11 (acv x)∧Ext W19 wx∧lo19≤b11))
     case first=>
      have E20:=Ext.rf W19;refine Qy (fun _=>False) (fun q=>lo19≤q) 7 Kr ?_;obtain⟨WK,hW⟩: ∃Wdr,World.drew W19=Wdr:=⟨_,rfl⟩;have gD:Ext W19 WK:=by rw [←hW];exact Ext.dr (Ext.rf _)
      rw [hW];clear hW;have E20:=E20.tr gD;have ra:=ra.ext gD;have r9:=r9.ext gD;have z19:=Xt z19 gD.size;refine Zi (N:=8) (R:=QpT) (E:=((Tryz.f12.body.bind (Qg 20)).getD #[])) Kr Qkq Kr fun hS=> ?_;obtain⟨hS,hSb⟩:=hS;have hT:=hS.2.1;refine tWk 1 (.int .i64 (bi:Int)) hS.1 hT rfl fun hT=> ?_;refine tWk 3 (.pointer (some ⟨b3,2,none⟩)) hS.1 hT rfl fun hT=> ?_;refine tW 7 (.pointer (some ⟨b3,2+bi*4,none⟩)) hS.1 hT rfl (fun w' _=>HIX.out _ _ _ _ _ _ _ _ Kr Kr w') fun hT=> ?_;refine tW 15 (.agg (mdv (a.md bi))) hS.1 hT rfl (QcV (C:=fun q=>lo19≤q) ra hbi hd3 Kr) fun hT=> ?_;refine tW 31 (.agg #[.int .u8 c2.o.ki,.int .i64 fv,.int .i64 c2.o.ge,.bool sy,.bool kn,.bool rm]) hS.1 hT rfl (Qux (C:=fun q=>lo19≤q) r9 rfl hd9 Kr) fun hT=> ?_;refine QlW hS.2.2.1 ?_ ?_
      ·clear HR19;refine(QsJ (m':=63) (R:=fun v _=>v= .agg (acv x)) rfl rfl Kr Kr (Zz (HRU.out WK)) ?_);rintro _ WL1 gWL1 rfl;have E20:=E20.tr gWL1;have z19:=Xt z19 gWL1.size;refine Qs hS.2.2.2.1 (Zl (m':=127) rfl rfl Kr (QbD WL1) ⟨.inr (Mv.of_ext (Ext.al (Ext.rf _) _)),(Mv.of_ext (Ext.al (Ext.rf _) _))⟩ ?_);obtain⟨WL2,hWL2⟩: ∃WL2,WL1.alloc (.cells #[.int .u8 0,.int .u8 0,.int .u8 0,.int .i64 0,.int .i64 0] 105)=WL2:=⟨_,rfl⟩;have hbk:=World.alloc_heap_new WL1 (.cells #[.int .u8 0,.int .u8 0,.int .u8 0,.int .i64 0,.int .i64 0] 105);have gWL2:Ext WL1 WL2:=by rw [←hWL2];exact Ext.al (Ext.rf _) _
       rw [hWL2]at hbk⊢;clear hWL2;have E20:=E20.tr gWL2;have r11:=RowZ.of_heap hbk;obtain⟨b11,e11⟩: ∃b,WL1.heap.size=b:=⟨_,rfl⟩;rw [e11]at r11⊢;have h11:lo19≤b11:=by have:=z19;omega
       have z19:=Xt z19 gWL2.size;clear hbk;refine Qs hS.2.2.2.2.1 (QD (m':=255) rfl rfl Kr (Qig (B:=b11) (cs:=acv x) (by rw [r11.r];rfl) r11.z rfl (by unfold acv;simp [go_sem]) Kr Kr) ⟨.inl Dc,(Mv.sa _ h11 (Mv.refl _ _))⟩ ?_);obtain⟨WL3,hWL3⟩: ∃WL3,Qe WL2 b11 0 (acv x)=WL3:=⟨_,rfl⟩;have HX:=Xh (show RowZ WL3 b11 (acv x)∧Ext W19 WL3∧lo19≤b11 from⟨by rw [←hWL3];exact r11.all _ rfl,by rw [←hWL3];exact Mv.ext_of (C:=fun q=>q=b11) E20 (Mv.sa _ rfl (Mv.refl _ _)) (fun q e=>by have:=hl19;omega),h11⟩);rw [hWL3];clear hWL3;refine Q2 hS.2.2.2.2.2 ?_;clear hS hT
       go_wp2_with (fail)
       go_meet
       exact⟨b11,rfl,HX.out⟩
      ·clear HR19;refine(Zl (m':=95) rfl rfl Kr (QbD WK) ⟨.inr (Mv.of_ext (Ext.al (Ext.rf _) _)),(Mv.of_ext (Ext.al (Ext.rf _) _))⟩ ?_);obtain⟨WL1,hWL1⟩: ∃WL1,WK.alloc (.cells #[.int .u8 0,.int .u8 0,.int .u8 0,.int .i64 0,.int .i64 0] 105)=WL1:=⟨_,rfl⟩;have hbk:=World.alloc_heap_new WK (.cells #[.int .u8 0,.int .u8 0,.int .u8 0,.int .i64 0,.int .i64 0] 105);have gWL1:Ext WK WL1:=by rw [←hWL1];exact Ext.al (Ext.rf _) _
       rw [hWL1]at hbk⊢;clear hWL1;have E20:=E20.tr gWL1;have r11:=RowZ.of_heap hbk;obtain⟨b11,e11⟩: ∃b,WK.heap.size=b:=⟨_,rfl⟩;rw [e11]at r11⊢;have h11:lo19≤b11:=by have:=z19;omega
       have z19:=Xt z19 gWL1.size;clear hbk;refine sV 127 (fun v _=>v= .agg (acv x)) hSb.2.2.2.1 rfl (Zz (HRU.out WL1)) ?_;rintro _ WL2 gWL2 rfl;have E20:=E20.tr gWL2;have r11:=r11.ext gWL2;have z19:=Xt z19 gWL2.size;refine Qs hSb.2.2.2.2.1 (QD (m':=255) rfl rfl Kr (Qig (B:=b11) (cs:=acv x) (by rw [r11.r];rfl) r11.z rfl (by unfold acv;simp [go_sem]) Kr Kr) ⟨.inl Dc,(Mv.sa _ h11 (Mv.refl _ _))⟩ ?_);obtain⟨WL3,hWL3⟩: ∃WL3,Qe WL2 b11 0 (acv x)=WL3:=⟨_,rfl⟩;have HX:=Xh (show RowZ WL3 b11 (acv x)∧Ext W19 WL3∧lo19≤b11 from⟨by rw [←hWL3];exact r11.all _ rfl,by rw [←hWL3];exact Mv.ext_of (C:=fun q=>q=b11) E20 (Mv.sa _ rfl (Mv.refl _ _)) (fun q e=>by have:=hl19;omega),h11⟩);rw [hWL3];clear hWL3;refine Q2 hSb.2.2.2.2.2 ?_;clear hS hT
       go_wp2_with (fail)
       go_meet
       exact⟨b11,rfl,HX.out⟩
     case rest=>
      obtain⟨b11,rfl,hcut⟩:=hcut;obtain⟨W20,hW20⟩: ∃W,wc=W:=⟨_,rfl⟩;rw [hW20]at hcut⊢;obtain⟨r11,E20,h11⟩:=hcut;clear hW20;have HX1:=Xh (And.intro r11 (And.intro E20 h11));clear r11 E20 h11
      go_upto_region 21 with(fail)
      obtain⟨r11,E20,h11⟩:=HX1.out;obtain⟨ra,ro,rd,r9,r10,sO,sq,E9⟩:=HR19.out;have hs20:=E20.size;have eid:o1.id=a.id:=by rw [←HEO.out]
      have exs:o1.xs=a.xs:=by rw [←HEO.out]
      have ep1:o1.p=p':=by rw [←HEO.out]
      have eip:c2.ip=q:=by rw [←HEC2.out,←HEC.out]
      have eiN:c2.iN=pl.length:=by rw [←HEC2.out,←HEC.out]
      have eic:c2.ic=cq:=by rw [←HEC2.out,←HEC.out]
      have hkA:(Ru.Qs4 (toR (a.md bi)) c2.o.ki fv c2.o.ge sy kn rm)=x:=by have h0:=HX0.out.1;rw [HX0.out.2]at h0;exact h0
      have hmr:(toR (a.md bi)).right=true:=QfE HAG.out.1 bi hbi;have eo:c2.o=o:=HCE.out.2.1;have hgo:0≤o.ge∧o.ge≤2147483647:=QrJ HEN.out.2.2.2.2;have hx:inX a fr o pl=x:=by
       unfold inX;rw [HKD.out.1,←HCE.out.1,←eo,HFV.out,HSR.out.1,HKN.out,HSR.out.2];have h0:=HX0.out.1;rw [←HCE.out.1]at h0;exact h0
      have hx3:x.d≠3:=by
       have h:=HSM.out fr tn o pl HN.out;rw [hx]at h;exact h
      have HGR:=Xh (show inR a bs now=Qbo x o1 c2 pl from by
       unfold inR;rw [HAG.out.2,if_neg Dc,HN.out];show(if tn≠(2,a.id)then _ else if Yp pl≠0 then _ else if ofT (pkI pl).tu≠o.bu then _ else _)=_;rw [if_neg (by rw [HTN.out];exact fun h=>h rfl),HKD.out.2,if_neg (fun h=>h rfl),HKD.out.1,if_neg (fun h=>h HBK.out)];show Qbo (inX a fr o pl) a _ pl=_;rw [hx]
       exact(Qkj exs eid (by rw [HCE.out.1]) HCE.out.2.2.2 eo).symm)
      refine QpQ (o1:=o1) (c:=c2) (x:=x) (pl:=pl) (b6:=b6) (b7:=b7) (b10:=b10) (b11:=b11) Kr (E9.tr E20) (by have:=HE3.out;omega) Om Om (by have:b10<W19.heap.size:=r10.l;omega) (ro.ext E20) (rd.ext E20) rfl (r10.ext E20) r11 (by rw [ep1,exs];exact sO.ext E20) (fun b off e=>by rw [ep1]at e;have:=hpO b off e;omega) (by rw [exs];exact HSA.out.2) (by rw [eip];exact sq.ext E20) (fun b off e=>by rw [eip]at e;have h1:=hq1 b off e;have h2:=hq2 b off e;omega) (by
       have h4:x.d=0∨x.d=1∨x.d=2∨x.d=3:=by rw [←hkA];exact QrK
       rcases h4 with h|h|h|h
       ·exact .inl h
       ·exact .inr (.inl h)
       ·exact .inr (.inr h)
       ·exact absurd h hx3) ?_
      ·intro a' w' p2 c3 ep ec sp sc h6 h7 hz hdf r6 r7 s1 s2 s3 Ew
       go_upto_region 22 with(fail)
       refine QpL h6 h7 hz r6 r7 ?_;intro a2 w2 e2 r6 r7 q6 q7 hd2;go_wp2;refine bodyPost_ret (ZJ rfl _ _ b6 b7 q6 q7 (YN r6.r) (J1 r7.r rfl)) (hd2.trans hdf) ?_;rw [←HER.out,HGR.out];rw [←HEO.out]at s1 s2 s3⊢;exact⟨p2,c3,ep,ec,sp,sc,rfl,s1.ext e2,s2.ext e2,s3.ext e2,Ew.tr e2⟩
 ·have htn:tn≠(2,a.id):=by simpa using hnb
  have HG:inR a bs now=(13,a.xs,[],[]):=by unfold inR;rw [HAG.out.2,if_neg Dc,hN];exact if_pos htn
  have HG:=Xh HG;clear htn hnb;go_simp
  go_upto_region 9 with(fail)
  have rd8:=rd;refine wp_region_lit ?_;refine listV (v:= .pointer (some ⟨b7,0,none⟩)) (w':=WB1) rfl Kr ?_;refine Zk rfl (Qc7 (B:=b7) (i:=0) (n:=13) (rd.cell 0 (by show 0<3;omega)) (rd.frz 0) Kr Kr) ?_;refine wpList_nil ?_;obtain⟨W10,h10⟩: ∃W10,WB1.setCell ⟨b7,0,none⟩ (.int .u8 13)=W10:=⟨_,rfl⟩;have m10:Mv (fun q=>q=b7) WB1 W10:=by rw [←h10];exact Mv.st _ (.inl rfl) (Mv.refl _ _)
  have HF:=Xh (show RowZ W10 b6 (agv o1)∧RowZ W10 b7 (dnv ⟨13,none,0,0,none,0,0⟩)∧SlC W10 p' a.xs∧Ext w W10 from⟨ro.mv m10 Om,by rw [←h10];exact rd.set 0 _,sO.mvg m10 (fun b off e=>by have:=hpO b off e;omega),Mv.ext_of E9 m10 (fun q e=>by have:=HE3.out;omega)⟩);rw [h10];clear h10 m10;clear rd8 ra ro rd r9 r10 sO E9 hpO;go_simp;go_wp2;go_step3;refine⟨rfl,?_⟩
  go_upto_region 23 with(fail)
  refine JC (o:=o1) (d:=⟨13,none,0,0,none,0,0⟩) (b6:=b6) (b7:=b7) Kr Kr Kr HF.out.1 HF.out.2.1 ?_;intro a' w' e' r6 r7 q6 q7 hd;go_wp2;refine bodyPost_ret (ZJ rfl _ _ b6 b7 q6 q7 (YN r6.r) (J1 r7.r rfl)) hd ?_;rw [←HER.out,HG.out,←HEO.out];exact⟨p',c',none,0,none,0,rfl,HF.out.2.2.1.ext e',SlE.nil _ none,SlBB.nil _ none,HF.out.2.2.2.tr e'⟩
end
def Z8:Tu:=⟨1,2,3,4⟩
def synI:List Int:=Qh5 ⟨0,0,0,64,6,1,2,[],QjS 1 2 3 4 2⟩
def Qb1:List Int:=Qh5 ⟨0,0,0,64,4,QP (1,0),QP (2,2),JD ⟨1,13,2,-1,1,0⟩,synI⟩
theorem QrU:ofT Z8=13:=Kr
def wA:Ag:=agN 2 9
def wX2:Ct:=⟨2,0,2,13,1,-1,0,0,0,none,0,0⟩
def wX3:Ct:=⟨2,0,3,13,1,-1,0,0,0,none,0,0⟩
def wB(p:Option Addr)(c:Nat):Ag:={Yh wA wX2 with p:=p,xs:= [],c:=c}
def wC(p:Option Addr)(c:Nat):Ag:={Yh wA wX2 with p:=p,xs:= [⟨Z8,5,5⟩],c:=c}
def wD(p:Option Addr)(c:Nat):Ag:={Yh wA wX2 with p:=p,xs:= [⟨Z8,5,6⟩],c:=c}
def wE(p:Option Addr)(c:Nat):Ag:={Yh wA wX2 with p:=p,xs:= [],c:=c}
theorem QuB:Qev 2 9=wA:=if_pos Kr
theorem QrV:QbV 2 9=0:=Kr
theorem QuC:Qev 6 9=agz:=if_neg (by rw [show agR (agN 6 9)=false by kernel_rfl];decide)
theorem QrW:QbV 6 9=2:=Kr
theorem Qxr:inR wA Qb1 5=(15,[],[],[]):=Kr
theorem QuD:Jo wA wX2=true:=Kr
theorem QuE:Jo wA wX3=false:=Kr
theorem QrX:Yr wA wX2= []:=Kr
theorem QrY:Ys wA wX2= []:=Kr
theorem QrZ:Jl wA wX2=⟨4,2,2,13,1,0,0,0,0,none,0,0⟩:=Kr
theorem Qxs(p:Option Addr)(c:Nat):inR (wB p c) Qb1 5=(0,[⟨Z8,5,5⟩],[⟨1,2,Z8⟩],[]):=Kr
theorem Qxt(p:Option Addr)(c:Nat):inR (wC p c) Qb1 6=(0,[⟨Z8,5,6⟩],[⟨2,2,Z8⟩],[]):=Kr
theorem Qij(p:Option Addr)(c:Nat):Qew (wD p c) 14= [⟨Z8,5,6⟩]∧Qex (wD p c) 14= []:=⟨Kr,Kr⟩
theorem Qik(p:Option Addr)(c:Nat):Qew (wD p c) 15= []∧Qex (wD p c) 15= [⟨4,2,Z8⟩]:=⟨Kr,Kr⟩
theorem Qr0(p q:Option Addr)(c d:Nat):Zj (wD p c) (wD q d)=true:=Kr
theorem Qr1(p q:Option Addr)(c d:Nat):Zj (wC p c) (wC q d)=true:=Kr
theorem Qr2(p q:Option Addr)(c d:Nat):Zj (wC p c) (wB q d)=false:=Kr
theorem QpX(p:Option Addr)(c:Nat):agR (wC p c)=true:=Kr
theorem QpY:agR agz=false:=Kr
theorem Qlv:Qb1.length=76:=Kr
theorem QpZ:ByR Qb1:=by
 have h:Qb1.all (fun b=>decide (0≤b)&&decide (b<256))=true:=Kr
 intro b hb;have:=List.all_eq_true.1 h b hb;simp only [Bool.and_eq_true,decide_eq_true_eq]at this;exact this
theorem QeL(p:Option Addr)(xs:List Co)(c:Nat): ∀k,k<16→0≤((({Yh wA wX2 with p:=p,xs:=xs,c:=c}:Ag)).md k).kind:=by
 intro k hk;have h:(List.range 16).all (fun k=>decide (0≤((Yh wA wX2).md k).kind))=true:=Kr
 exact of_decide_eq_true (List.all_eq_true.1 h k (List.mem_range.2 hk))
theorem QgG: ∀k,k<16→0≤(wA.md k).kind:=fun k _=>by show(0:Int)≤0;omega
theorem Qil:TuR Z8:=by unfold TuR Z8;decide
theorem Qxu:Jy Qb1=some ((1,0),(2,2),⟨1,13,2,-1,1,0⟩,synI):=Kr
theorem QuF{a:Ag}(h:decide ((inX a (1,0) ⟨1,13,2,-1,1,0⟩ synI).d=3)=false):Jy Qb1≠none∧ ∀fr tn o pl,Jy Qb1=some (fr,tn,o,pl)→(inX a fr o pl).d≠3:=by
 rw [Qxu];refine⟨fun e=>(by cases e),fun fr tn o pl e=> ?_⟩;have e:=Option.some.inj e;have e1:=congrArg Prod.fst e;have e2:=congrArg (fun z=>z.2.2.1) e;have e3:=congrArg (fun z=>z.2.2.2) e;dsimp only at e1 e2 e3;rw [←e1,←e2,←e3];exact of_decide_eq_false h
theorem QyN:decide ((inX wA (1,0) ⟨1,13,2,-1,1,0⟩ synI).d=3)=false:=Kr
theorem QyO(p:Option Addr)(c:Nat):decide ((inX (wB p c) (1,0) ⟨1,13,2,-1,1,0⟩ synI).d=3)=false:=Kr
theorem QyP(p:Option Addr)(c:Nat):decide ((inX (wC p c) (1,0) ⟨1,13,2,-1,1,0⟩ synI).d=3)=false:=Kr
theorem QuG(S:List Int)(hS:synI=S)(g q:Nat)(W:World)(s:SlB W (some ⟨g,0,none⟩) S):Calls Tryz.prog 84 #[.agg #[.int .u8 1,.int .i64 0,.int .u8 2,.int .i64 2,.int .u8 1,.int .u8 13,.int .i64 2,.int .i64 (-1),.int .i64 1,.int .i64 0,.slice (some ⟨g,0,none⟩) S.length q]] W fun e w'=> ∃v,e= .returned (.tuple #[v,.int .u8 0])∧Ya W w' v Qb1:=by
 subst hS;exact QmG (1,0) (2,2) ⟨1,13,2,-1,1,0⟩ synI (some ⟨g,0,none⟩) q W Dc Dc Kr s (fun e=>by cases e) (by rw [show synI.length=40 by kernel_rfl];omega)
theorem QmU(w:World):Calls Tryz.prog 37 #[] w fun e w'=> ∃v,e= .returned (.tuple #[v,.int .i64 13])∧Ya w w' v Qb1:=by
 obtain⟨S,eS⟩: ∃S,synI=S:=⟨_,rfl⟩;have HSL:=Xh (show S.length=40 by rw [←eS];kernel_rfl);have HSE:=Xh eS;have HOF:Hid (∀W,Calls Tryz.prog 33 #[.agg #[.int .u32 1,.int .u32 2,.int .u16 3,.int .u16 4]] W fun e w'=>e= .returned (.int .i64 13)∧Ext W w'):=Xh (fun W=>by have h:=QdC Z8 Qil W;rw [QrU]at h;exact h);have HMK:Hid (∀W,Calls Tryz.prog 91 #[.agg #[.int .u32 1,.int .u32 2,.int .u16 3,.int .u16 4],.int .u8 2,.slice none 0 0] W fun e w'=> ∃v,e= .returned (.tuple #[v,.bool true])∧Ya W w' v S):=Xh (fun W=>by rw [←eS];exact QmD 1 2 3 4 2 Dc Dc Dc W);have HO6:Hid (∀W,Calls Tryz.prog 92 #[.int .u8 1,.int .i64 13,.agg #[.int .i64 2,.int .i64 (-1),.int .i64 1,.int .i64 0]] W fun e w'=>e= .returned (.tuple #[.agg #[.int .u8 1,.int .u8 13,.int .i64 2,.int .i64 (-1),.int .i64 1,.int .i64 0],.int .i64 0])∧Ext W w'):=Xh (Qpv 1 13 2 (-1) 1 0 Dc Kr);have hb1: ∀W,(Instr.build 64 #[(0,.int .u32 1),(1,.int .u32 2),(2,.int .u16 3),(3,.int .u16 4)]).run Tryz.prog W= .ok (.agg #[.int .u32 1,.int .u32 2,.int .u16 3,.int .u16 4]) W:=fun W=>by kernel_rfl
 have hb2: ∀W,(Instr.build 153 #[(0,.int .i64 2),(1,.int .i64 (-1)),(2,.int .i64 1)]).run Tryz.prog W= .ok (.agg #[.int .i64 2,.int .i64 (-1),.int .i64 1,.int .i64 0]) W:=fun W=>by kernel_rfl
 have hb3: ∀W,(Instr.build 73 #[(0,.int .u8 1)]).run Tryz.prog W= .ok (.agg #[.int .u8 1,.int .i64 0]) W:=fun W=>by kernel_rfl
 have hb4: ∀W,(Instr.build 73 #[(0,.int .u8 2),(1,.int .i64 2)]).run Tryz.prog W= .ok (.agg #[.int .u8 2,.int .i64 2]) W:=fun W=>by kernel_rfl
 have hb5: ∀W (g q:Nat),(Instr.build 77 #[(0,.agg #[.int .u8 1,.int .i64 0]),(1,.agg #[.int .u8 2,.int .i64 2]),(2,.agg #[.int .u8 1,.int .u8 13,.int .i64 2,.int .i64 (-1),.int .i64 1,.int .i64 0]),(3,.slice (some ⟨g,0,none⟩) S.length q)]).run Tryz.prog W= .ok (.agg #[.int .u8 1,.int .i64 0,.int .u8 2,.int .i64 2,.int .u8 1,.int .u8 13,.int .i64 2,.int .i64 (-1),.int .i64 1,.int .i64 0,.slice (some ⟨g,0,none⟩) S.length q]) W:=fun W g q=>by kernel_rfl
 clear eS
 go_enter Tryz.func37,Tryz.ntmps37
 go_upto_region 2 with(fail)
 obtain⟨W0,hW⟩: ∃W0,w.alloc (.cells #[.int .u32 1,.int .u32 2,.int .u16 3,.int .u16 4] 64)=W0:=⟨_,rfl⟩;have g0:Ext w W0:=by rw [←hW];exact Ext.al (Ext.rf _) _
 have rz:RowZ W0 w.heap.size #[.int .u32 1,.int .u32 2,.int .u16 3,.int .u16 4]:=by rw [←hW];exact RowZ.new _ _ _
 rw [hW];clear hW;have HRT:=Xh rz;have HE:=Xh g0;clear rz g0;have d0:W0.cell? ⟨w.heap.size,0,none⟩=some (.int .u32 1):=HRT.out.cell 0 (by show 0<4;omega);have d1:W0.cell? ⟨w.heap.size,1,none⟩=some (.int .u32 2):=HRT.out.cell 1 (by show 1<4;omega);have d2:W0.cell? ⟨w.heap.size,2,none⟩=some (.int .u16 3):=HRT.out.cell 2 (by show 2<4;omega);have d3:W0.cell? ⟨w.heap.size,3,none⟩=some (.int .u16 4):=HRT.out.cell 3 (by show 3<4;omega)
 go_upto_region 5 with(first|(go_at_call 33;(with_reducible refine(HOF.out _).mono ?_);rintro e wa ⟨rfl,ga⟩;have HRT:=Xh (HRT.out.ext ga);have HE:=Xh (HE.out.tr ga);have d0:wa.cell? ⟨w.heap.size,0,none⟩=some (.int .u32 1):=HRT.out.cell 0 (by show 0<4;omega);have d1:wa.cell? ⟨w.heap.size,1,none⟩=some (.int .u32 2):=HRT.out.cell 1 (by show 1<4;omega);have d2:wa.cell? ⟨w.heap.size,2,none⟩=some (.int .u16 3):=HRT.out.cell 2 (by show 2<4;omega);have d3:wa.cell? ⟨w.heap.size,3,none⟩=some (.int .u16 4):=HRT.out.cell 3 (by show 3<4;omega))|(go_at_call 91;(with_reducible refine(HMK.out _).mono ?_);rintro e wb ⟨vb,rfl,ob⟩;obtain⟨g,q,rfl,-,-,-,-,-⟩:=ob.own.at (by have:=HSL.out;omega);have s1:SlB wb (some ⟨g,0,none⟩) S:=(by obtain⟨p,c,e,-,s⟩:=ob.sl;cases e;exact s);have HE:=Xh (HE.out.tr ob.ext);have HS1:=Xh s1;clear s1 ob)|(go_at_call 92;(with_reducible refine(HO6.out _).mono ?_);rintro e wc ⟨rfl,gc⟩;have HE:=Xh (HE.out.tr gc);have HS1:=Xh (HS1.out.ext gc)))
 obtain⟨W5,hW⟩: ∃W5,Qe (wc.alloc (.cells #[.int .u8 0,.int .u8 0,.int .i64 0,.int .i64 0,.int .i64 0,.int .i64 0] 75)) wc.heap.size 0 #[.int .u8 1,.int .u8 13,.int .i64 2,.int .i64 (-1),.int .i64 1,.int .i64 0]=W5:=⟨_,rfl⟩;have g5:Ext wc W5:=by rw [←hW];exact Ext.sa _ (Nat.le_refl _) (Ext.al (Ext.rf _) _)
 have r5:Qc W5 wc.heap.size=#[.int .u8 1,.int .u8 13,.int .i64 2,.int .i64 (-1),.int .i64 1,.int .i64 0]:=by rw [←hW];exact Qq _ _ _ (by rw [Zh];rfl)
 rw [hW];have HE5:=Xh (HE.out.tr g5);have HP7:=Xh (QuG S HSE.out g q W5 (HS1.out.ext g5));clear g5 hW
 go_wp2_with (go_at_call 84;(with_reducible refine(HP7.out).mono ?_);rintro e wd ⟨vd,rfl,od⟩;have HO:=Xh od;clear od)
 refine bodyPost_ret (v:= .tuple #[vd,.int .i64 13]) (by simp [results,Tryz.results37,go_sem]) rfl ?_;exact⟨vd,rfl,HO.out.own.le HE5.out.size,HE5.out.tr HO.out.ext⟩
def InW(A:Option Addr→Nat→Ag)(dr:Int)(xs:List Co)(es:List Ev)(v:Value)(w':World):Prop:= ∃p c ep ec sp sc,v= .tuple #[.agg (agv (A p c)),.agg (dnv ⟨dr,ep,es.length,ec,sp,0,sc⟩)]∧SlC w' p xs∧SlE w' ep es
theorem QuH{a:Ag}{now dr:Int}{xs:List Co}{es:List Ev}{g q:Nat}(A:Option Addr→Nat→Ag)(hA: ∀p c,({a with p:=p,xs:=xs,c:=c}:Ag)=A p c)(hr:inR a bs now=(dr,xs,es,[]))(hs:SlC W a.p a.xs)(hl:a.xs.length≤1000)(ht: ∀x∈a.xs,TuR x.t)(hk: ∀k,k<16→0≤(a.md k).kind)
  (hb:SlB W (some ⟨g,0,none⟩) bs)(hB:ByR bs)(hlb:bs.length≤1000)(hq:bs.length≤q)(hSM:Jy bs≠none∧ ∀fr tn o pl,Jy bs=some (fr,tn,o,pl)→(inX a fr o pl).d≠3):Calls Tryz.prog 12 #[.agg (agv a),.slice (some ⟨g,0,none⟩) bs.length q,.int .i64 now] W fun e w'=> ∃v,e= .returned v∧InW A dr xs es v w'∧Ext W w':=
 (QuA a bs _ q now W hs hl ht hk hb hB hlb hq hSM).mono fun e w' ⟨p,c,ep,ec,sp,sc,h1,h2,h3,h4,h5⟩=>by
  rw [hr]at h1 h2 h3;rw [hA]at h1;exact⟨_,h1,⟨p,c,ep,ec,sp,sc,rfl,h2,h3⟩,h5⟩
theorem Qxv{S:List Int}(hS:Qb1=S){g q:Nat}(hb:SlB W (some ⟨g,0,none⟩) S)(hq:S.length≤q):Calls Tryz.prog 12 #[.agg (agv wA),.slice (some ⟨g,0,none⟩) S.length q,.int .i64 5] W fun e w'=> ∃v,e= .returned v∧InW (fun p c=>{wA with p:=p,xs:= [],c:=c}) 15 [] [] v w'∧Ext W w':=by
 subst hS;exact QuH _ (fun _ _=>rfl) Qxr (SlC.nil _ _) (by show 0≤1000;omega) (fun x hx=>by cases hx) QgG hb QpZ (by rw [Qlv];omega) hq (QuF QyN)
theorem Qxw{S:List Int}(hS:Qb1=S){g q:Nat}(p:Option Addr)(c:Nat)(hb:SlB W (some ⟨g,0,none⟩) S)(hq:S.length≤q):Calls Tryz.prog 12 #[.agg (agv (wB p c)),.slice (some ⟨g,0,none⟩) S.length q,.int .i64 5] W fun e w'=> ∃v,e= .returned v∧InW wC 0 [⟨Z8,5,5⟩] [⟨1,2,Z8⟩] v w'∧Ext W w':=by
 subst hS;exact QuH _ (fun _ _=>rfl) (Qxs p c) (SlC.nil _ _) (by show 0≤1000;omega) (fun x hx=>by cases hx) (QeL p [] c) hb QpZ (by rw [Qlv];omega) hq (QuF (QyO p c))
theorem Qxx{S:List Int}(hS:Qb1=S){g q:Nat}(p:Option Addr)(c:Nat)(hs:SlC W p [⟨Z8,5,5⟩])(hb:SlB W (some ⟨g,0,none⟩) S)(hq:S.length≤q):Calls Tryz.prog 12 #[.agg (agv (wC p c)),.slice (some ⟨g,0,none⟩) S.length q,.int .i64 6] W fun e w'=> ∃v,e= .returned v∧InW wD 0 [⟨Z8,5,6⟩] [⟨2,2,Z8⟩] v w'∧Ext W w':=by
 subst hS;exact QuH _ (fun _ _=>rfl) (Qxt p c) hs (by show 1≤1000;omega) (fun x hx=>by rw [List.mem_singleton.1 hx];exact Qil) (QeL p _ c) hb QpZ (by rw [Qlv];omega) hq (QuF (QyP p c))
def Qxy(v:Value)(w':World):Prop:= ∃p c q d,v= .tuple #[.agg (agv (wB p c)),.slice q 0 d,.agg (ctv ⟨4,2,2,13,1,0,0,0,0,none,0,0⟩),.bool true]
theorem Qxz(W:World):Calls Tryz.prog 16 #[.agg (agv wA),.agg (ctv wX2)] W fun e w'=> ∃v,e= .returned v∧Qxy v w'∧Ext W w':=
 (QcX wA wX2 W (SlC.nil _ _) (by show 0≤1000;omega) (fun x hx=>by cases hx) QgG Dc Dc).mono fun e w' ⟨p,c,q,d,h1,_,_,h4⟩=>by
  rw [QrX,QrY,QrZ,QuD]at h1;exact⟨_,h1,⟨p,c,q,d,rfl⟩,h4⟩
def QxA(v:Value)(w':World):Prop:= ∃A q n d K,v= .tuple #[.agg (agv A),.slice q n d,.agg (ctv K),.bool false]
theorem QxB(W:World):Calls Tryz.prog 16 #[.agg (agv wA),.agg (ctv wX3)] W fun e w'=> ∃v,e= .returned v∧QxA v w'∧Ext W w':=
 (QcX wA wX3 W (SlC.nil _ _) (by show 0≤1000;omega) (fun x hx=>by cases hx) QgG Dc Dc).mono fun e w' ⟨p,c,q,d,h1,_,_,h4⟩=>by
  rw [QuE]at h1;exact⟨_,h1,⟨_,q,_,d,_,rfl⟩,h4⟩
def TiW(A:Option Addr→Nat→Ag)(xs:List Co)(es:List Ev)(v:Value)(w':World):Prop:= ∃p c q d,v= .tuple #[.agg (agv (A p c)),.slice q es.length d]∧SlC w' p xs∧SlE w' q es
theorem QuI(p:Option Addr)(c:Nat)(W:World)(hs:SlC W p [⟨Z8,5,6⟩]):Calls Tryz.prog 20 #[.agg (agv (wD p c)),.int .i64 14] W fun e w'=> ∃v,e= .returned v∧TiW wD [⟨Z8,5,6⟩] [] v w'∧Ext W w':=
 (Qfw (wD p c) 14 W hs (by show 1≤1000;omega) (fun x hx=>by rw [List.mem_singleton.1 hx];exact Qil) (QeL p _ c)).mono fun e w' ⟨p',c',q,d,h1,h2,h3,h4⟩=>by
  rw [(Qij p c).1]at h1 h2;rw [(Qij p c).2]at h1 h3;exact⟨_,h1,⟨p',c',q,d,rfl,h2,h3⟩,h4⟩
theorem QuJ(p:Option Addr)(c:Nat)(W:World)(hs:SlC W p [⟨Z8,5,6⟩]):Calls Tryz.prog 20 #[.agg (agv (wD p c)),.int .i64 15] W fun e w'=> ∃v,e= .returned v∧TiW wE [] [⟨4,2,Z8⟩] v w'∧Ext W w':=
 (Qfw (wD p c) 15 W hs (by show 1≤1000;omega) (fun x hx=>by rw [List.mem_singleton.1 hx];exact Qil) (QeL p _ c)).mono fun e w' ⟨p',c',q,d,h1,h2,h3,h4⟩=>by
  rw [(Qik p c).1]at h1 h2;rw [(Qik p c).2]at h1 h3;exact⟨_,h1,⟨p',c',q,d,rfl,h2,h3⟩,h4⟩
theorem QyQ(W:World):Calls Tryz.prog 10 #[.int .i64 2,.int .i64 9] W fun e w'=>e= .returned (.tuple #[.agg (agv wA),.int .i64 0])∧Ext W w':=by
 have h:=QhM 2 9 W;rw [QuB,QrV]at h;exact h
theorem QyR(W:World):Calls Tryz.prog 10 #[.int .i64 6,.int .i64 9] W fun e w'=>e= .returned (.tuple #[.agg (agv agz),.int .i64 2])∧Ext W w':=by
 have h:=QhM 6 9 W;rw [QuC,QrW]at h;exact h
def OwW(v:Value)(w':World):Prop:= ∃p c,v= .agg (agv (wC p c))∧SlC w' p [⟨Z8,5,5⟩]
theorem QyS(p:Option Addr)(c:Nat)(W:World)(hs:SlC W p [⟨Z8,5,5⟩]):Calls Tryz.prog 25 #[.agg (agv (wC p c))] W fun e w'=> ∃v,e= .returned v∧OwW v w'∧Ext W w':=
 (Qcn (wC p c) W hs (by show 1≤1000;omega)).mono fun e w' ⟨p',c',h1,h2⟩=>⟨_,h1,⟨p',c',rfl,by
  obtain⟨q,d,e2,-,s⟩:=SlC.own h2.own
  cases e2
  exact s⟩,h2.ext⟩
theorem Qc8{ty:TypeId}{g:Option (Nat×Bool)}(w:World):
  (execOp ρ ⟨dst,.alloc 42,ty,pos,after,g⟩).run Tryz.prog w= .ok (.value (.pointer (some ⟨w.heap.size,0,none⟩))) (w.alloc (.cells #[.int .u8 0,.slice none 0 0,.slice none 0 0] 42)):=Kr
theorem Qc9{ty:TypeId}{g:Option (Nat×Bool)}(w:World):
  (execOp ρ ⟨dst,.alloc 33,ty,pos,after,g⟩).run Tryz.prog w= .ok (.value (.pointer (some ⟨w.heap.size,0,none⟩))) (w.alloc (.cells (ctv ⟨0,0,0,0,0,0,0,0,0,none,0,0⟩) 33)):=Kr
structure EvB(w:World)(b o:Nat)(k a:Int):Prop where
 lt:Lt b w
 cell0:w.cell? ⟨b,o,none⟩=some (.int .u8 k)
 cell1:w.cell? ⟨b,o+1,none⟩=some (.int .i64 a)
theorem EvB.ext{b o:Nat}{k a:Int}(h:EvB w b o k a)(e:Ext w w'):EvB w' b o k a:=⟨Xl h.lt e.size,(e.cell (p:=⟨b,o,none⟩) h.lt).trans h.cell0,(e.cell (p:=⟨b,o+1,none⟩) h.lt).trans h.cell1⟩
theorem SlE.evb{p:Option Addr}{k a:Int}{t:Tu}(h:SlE w p [⟨k,a,t⟩]): ∃b o,p=some ⟨b,o,none⟩∧EvB w b o k a:=by
 obtain⟨b,o,h1,h2,c0,c1,-⟩:=h 0 Nat.zero_lt_one;exact⟨b,o,h1,h2,by rw [Nat.zero_mul]at c0;exact c0,by rw [Nat.zero_mul]at c1;exact c1⟩
theorem Qbl{b o c:Nat}{x y:Operand}{ty:TypeId}{g:Option (Nat×Bool)}(hx:ρ x= .slice (some ⟨b,o,none⟩) 1 c)(hy:ρ y= .int .i64 0)(w:World):
  (execOp ρ ⟨dst,.indexAddr 39 x y,ty,pos,after,g⟩).run Tryz.prog w= .ok (.value (.pointer (some ⟨b,o,none⟩))) w:=by
 simp only [execOp,hx,hy];go_simp
theorem QxC(p q:Option Addr)(c d:Nat)(W:World)(s:SlC W p [⟨Z8,5,6⟩])(t:SlC W q [⟨Z8,5,6⟩]):Calls Tryz.prog 24 #[.agg (agv (wD p c)),.agg (agv (wD q d))] W fun e w'=>e= .returned (.bool true)∧Ext W w':=by
 have h:=QcR (wD p c) (wD q d) W s t (by show 1≤1000;omega) (by show 1≤1000;omega);rw [Qr0]at h;exact h
theorem QxD(p q:Option Addr)(c d:Nat)(W:World)(s:SlC W p [⟨Z8,5,5⟩])(t:SlC W q [⟨Z8,5,5⟩]):Calls Tryz.prog 24 #[.agg (agv (wC p c)),.agg (agv (wC q d))] W fun e w'=>e= .returned (.bool true)∧Ext W w':=by
 have h:=QcR (wC p c) (wC q d) W s t (by show 1≤1000;omega) (by show 1≤1000;omega);rw [Qr1]at h;exact h
theorem QxE(p q:Option Addr)(c d:Nat)(W:World)(s:SlC W p [⟨Z8,5,5⟩]):Calls Tryz.prog 24 #[.agg (agv (wC p c)),.agg (agv (wB q d))] W fun e w'=>e= .returned (.bool false)∧Ext W w':=by
 have h:=QcR (wC p c) (wB q d) W s (SlC.nil _ _) (by show 1≤1000;omega) (by show 0≤1000;omega);rw [Qr2]at h;exact h
theorem QxF(p:Option Addr)(c:Nat)(W:World)(s:SlC W p [⟨Z8,5,5⟩]):Calls Tryz.prog 22 #[.agg (agv (wC p c))] W fun e w'=>e= .returned (.bool true)∧Ext W w':=by
 have h:=YU (wC p c) W s (by show 1≤1000;omega) (fun x hx=>by rw [List.mem_singleton.1 hx];exact Qil) (QeL p _ c);rw [QpX]at h;exact h
theorem QxG(W:World):Calls Tryz.prog 22 #[.agg (agv agz)] W fun e w'=>e= .returned (.bool false)∧Ext W w':=by
 have h:=YU agz W (SlC.nil _ _) (by show 0≤1000;omega) (fun x hx=>by cases hx) (fun k hk=>by show(0:Int)≤0;omega);rw [QpY]at h;exact h
def Qp0(ops:Array Oper):Prop:=Region.noSelect ops=true∧Qv ops 107 [0,1,2,3,4,5,6,7,8,9,10,11,12,13] 0=true∧Qv ops 107 [14,15,16,17,18,19,20,21,22,23,24,25,26,27] 16383=true∧Qv ops 107 [28,29,30,31,32,33,34,35,36,37,38,39,40,41] 268435455=true∧Qv ops 107 [42,43,44,45,46,47,48,49,50,51,52,53,54,55] 4398046511103=true∧Qv ops 107 [56,57,58,59,60,61,62,63,64] 72057594037927935=true∧Region.ready .any ops (msk 107 36893488147419103231)= [65]∧Qv ops 107 [66,67,68,69,70,71,72,73,74,75,76,77,78,79] 73786976294838206463=true∧Qv ops 107 [80,81,82,83,84,85,86] 1208925819614629174706175=true∧Region.ready .any ops (msk 107 154742504910672534362390527)= [87]∧Qv ops 107 [88,89,90] 309485009821345068724781055=true∧Region.ready .any ops (msk 107 2475880078570760549798248447)= [91]∧Qv ops 107 [92,93,94,95,97] 4951760157141521099596496895=true∧Region.ready .any ops (msk 107 237684487542793012780631851007)= [96]∧Region.ready .any ops (msk 107 316912650057057350374175801343)= [98]∧Qv ops 107 [99,100,101,102] 633825300114114700748351602687=true∧Region.ready .any ops (msk 107 10141204801825835211973625643007)= [103]∧Qv ops 107 [104,105,106] 20282409603651670423947251286015=true∧Region.ready .any ops (msk 107 162259276829213363391578010288127)= []
theorem Qp1:Region.noSelect ((Tryz.f9.body.bind (Qg 13)).getD #[])=true:=Kr
theorem Qp2:Qv ((Tryz.f9.body.bind (Qg 13)).getD #[]) 107 [0,1,2,3,4,5,6,7,8,9,10,11,12,13] 0=true:=Kr
theorem Qp3:Qv ((Tryz.f9.body.bind (Qg 13)).getD #[]) 107 [14,15,16,17,18,19,20,21,22,23,24,25,26,27] 16383=true:=Kr
theorem Qp4:Qv ((Tryz.f9.body.bind (Qg 13)).getD #[]) 107 [28,29,30,31,32,33,34,35,36,37,38,39,40,41] 268435455=true:=Kr
theorem Qp5:Qv ((Tryz.f9.body.bind (Qg 13)).getD #[]) 107 [42,43,44,45,46,47,48,49,50,51,52,53,54,55] 4398046511103=true:=Kr
theorem Qp6:Qv ((Tryz.f9.body.bind (Qg 13)).getD #[]) 107 [56,57,58,59,60,61,62,63,64] 72057594037927935=true:=Kr
theorem Qp7:Region.ready .any ((Tryz.f9.body.bind (Qg 13)).getD #[]) (msk 107 36893488147419103231)= [65]:=Kr
theorem Qp8:Qv ((Tryz.f9.body.bind (Qg 13)).getD #[]) 107 [66,67,68,69,70,71,72,73,74,75,76,77,78,79] 73786976294838206463=true:=Kr
theorem Qp9:Qv ((Tryz.f9.body.bind (Qg 13)).getD #[]) 107 [80,81,82,83,84,85,86] 1208925819614629174706175=true:=Kr
theorem Qqa:Region.ready .any ((Tryz.f9.body.bind (Qg 13)).getD #[]) (msk 107 154742504910672534362390527)= [87]:=Kr
theorem QmV:Qv ((Tryz.f9.body.bind (Qg 13)).getD #[]) 107 [88,89,90] 309485009821345068724781055=true:=Kr
theorem QmW:Region.ready .any ((Tryz.f9.body.bind (Qg 13)).getD #[]) (msk 107 2475880078570760549798248447)= [91]:=Kr
theorem QmX:Qv ((Tryz.f9.body.bind (Qg 13)).getD #[]) 107 [92,93,94,95,97] 4951760157141521099596496895=true:=Kr
theorem QmY:Region.ready .any ((Tryz.f9.body.bind (Qg 13)).getD #[]) (msk 107 237684487542793012780631851007)= [96]:=Kr
theorem QmZ:Region.ready .any ((Tryz.f9.body.bind (Qg 13)).getD #[]) (msk 107 316912650057057350374175801343)= [98]:=Kr
theorem Qm0:Qv ((Tryz.f9.body.bind (Qg 13)).getD #[]) 107 [99,100,101,102] 633825300114114700748351602687=true:=Kr
theorem Qm1:Region.ready .any ((Tryz.f9.body.bind (Qg 13)).getD #[]) (msk 107 10141204801825835211973625643007)= [103]:=Kr
theorem Qm2:Qv ((Tryz.f9.body.bind (Qg 13)).getD #[]) 107 [104,105,106] 20282409603651670423947251286015=true:=Kr
theorem Qm3:Region.ready .any ((Tryz.f9.body.bind (Qg 13)).getD #[]) (msk 107 162259276829213363391578010288127)= []:=Kr
theorem Qku:Qp0 ((Tryz.f9.body.bind (Qg 13)).getD #[]):=⟨Qp1,Qp2,Qp3,Qp4,Qp5,Qp6,Qp7,Qp8,Qp9,Qqa,QmV,QmW,QmX,QmY,QmZ,Qm0,Qm1,Qm2,Qm3⟩
theorem Yt(w:World):Calls Tryz.prog 9 #[] w fun e w'=>e= .returned (.bool true)∧Ext w w':=by
 obtain⟨S,eS⟩: ∃S,Qb1=S:=⟨_,rfl⟩;have HSY:Hid (Calls Tryz.prog 37 #[] w fun e w'=> ∃v,e= .returned (.tuple #[v,.int .i64 13])∧Ya w w' v S):=Xh (by rw [←eS];exact QmU w);have HSL:=Xh (show S.length=76 by rw [←eS];exact Qlv);have HSE:=Xh eS;clear eS
 go_enter Tryz.func9,Tryz.ntmps9
 go_upto_region 2 with(go_at_call 37;(with_reducible refine(HSY.out).mono ?_);rintro e W1 ⟨v,rfl,o1⟩;obtain⟨g,q,rfl,hq,-,-,-,-⟩:=o1.own.at (by have:=HSL.out;omega);have sS:SlB W1 (some ⟨g,0,none⟩) S:=(by obtain⟨p,c,e,-,s⟩:=o1.sl;cases e;exact s);have E:=o1.ext;clear o1)
 go_upto_region 2 with(fail)
 refine wp_region_lit ?_;refine J0 (R:=fun v w'=>(fun v _=>v= .tuple #[.agg (agv wA),.int .i64 0]) v w'∧Ext W1 w') rfl Kr (Zz (QyQ W1)) ?_;rintro _ X2_1 ⟨rfl,gX2_1⟩;have E:=E.tr gX2_1;have sS:=sS.ext gX2_1;have eC:=Ext.rf X2_1;refine listV (v:= .tuple #[.agg (agv wA),.int .i64 0]) (w':=X2_1) rfl Kr ?_;refine listV (v:= .agg (agv wA)) (w':=X2_1) rfl Kr ?_;refine listV (v:= .int .i64 0) (w':=X2_1) rfl Kr ?_;refine listV rfl (QE _ _ _ _ _ _ _) ?_;obtain⟨b3,e3⟩: ∃b,X2_1.heap.size=b:=⟨_,rfl⟩;obtain⟨X2_2,hX2_2⟩: ∃N,X2_1.alloc (.cells (agv agz) 27)=N:=⟨_,rfl⟩;have r3:RowZ X2_2 b3 (agv agz):=by rw [←hX2_2,←e3];exact RowZ.new _ _ _
 have l3:X2_1.heap.size≤b3:=by rw [←e3];exact eC.size
 have g1:Ext X2_1 X2_2:=by rw [←hX2_2];exact Ext.al (Ext.rf _) _
 have eC:=eC.tr g1;rw [hX2_2,e3];clear hX2_2 e3 g1;refine Zk rfl (Zu (B:=b3) (cs:=agv wA) (by rw [r3.r];exact Qi) r3.z Qi ZS Kr Kr) ?_;obtain⟨X2_3,hX2_3⟩: ∃X2_3,Qe X2_2 b3 0 (agv wA)=X2_3:=⟨_,rfl⟩;have gS:Mv (fun q=>q=b3) X2_2 X2_3:=by rw [←hX2_3];exact Mv.sa _ rfl (Mv.refl _ _)
 have r3:RowZ X2_3 b3 (agv wA):=by rw [←hX2_3];exact r3.all _ (Qi.trans Qi.symm)
 have eC:Ext X2_1 X2_3:=by rw [←hX2_3];exact Ext.sa _ l3 eC
 clear gS;rw [hX2_3];clear hX2_3;refine listV (v:= .int .i64 0) (w':=X2_3) rfl Kr ?_;refine wpList_nil ?_;have HX:=Xh eC;clear eC;have E:=E.tr HX.out;have sS:=sS.ext HX.out;clear HX l3;go_simp
 go_upto_region 3 with(fail)
 refine wp_region_lit ?_;refine J0 (R:=fun v w'=>(fun v _=>v= .tuple #[.agg (agv agz),.int .i64 2]) v w'∧Ext X2_3 w') rfl Kr (Zz (QyR X2_3)) ?_;rintro _ X3_1 ⟨rfl,gX3_1⟩;have E:=E.tr gX3_1;have sS:=sS.ext gX3_1;have r3:=r3.ext gX3_1;have eC:=Ext.rf X3_1;refine listV (v:= .tuple #[.agg (agv agz),.int .i64 2]) (w':=X3_1) rfl Kr ?_;refine listV (v:= .agg (agv agz)) (w':=X3_1) rfl Kr ?_;refine listV (v:= .int .i64 2) (w':=X3_1) rfl Kr ?_;refine listV rfl (QE _ _ _ _ _ _ _) ?_;obtain⟨b5,e5⟩: ∃b,X3_1.heap.size=b:=⟨_,rfl⟩;obtain⟨X3_2,hX3_2⟩: ∃N,X3_1.alloc (.cells (agv agz) 27)=N:=⟨_,rfl⟩;have r5:RowZ X3_2 b5 (agv agz):=by rw [←hX3_2,←e5];exact RowZ.new _ _ _
 have l5:X3_1.heap.size≤b5:=by rw [←e5];exact eC.size
 have g1:Ext X3_1 X3_2:=by rw [←hX3_2];exact Ext.al (Ext.rf _) _
 have eC:=eC.tr g1;rw [hX3_2,e5];clear hX3_2 e5 g1;refine Zk rfl (Zu (B:=b5) (cs:=agv agz) (by rw [r5.r];exact Qi) r5.z Qi ZS Kr Kr) ?_;obtain⟨X3_3,hX3_3⟩: ∃X3_3,Qe X3_2 b5 0 (agv agz)=X3_3:=⟨_,rfl⟩;have gS:Mv (fun q=>q=b5) X3_2 X3_3:=by rw [←hX3_3];exact Mv.sa _ rfl (Mv.refl _ _)
 have r5:RowZ X3_3 b5 (agv agz):=by rw [←hX3_3];exact r5.all _ (Qi.trans Qi.symm)
 have eC:Ext X3_1 X3_3:=by rw [←hX3_3];exact Ext.sa _ l5 eC
 clear gS;rw [hX3_3];clear hX3_3;refine listV (v:= .int .i64 2) (w':=X3_3) rfl Kr ?_;refine wpList_nil ?_;have HX:=Xh eC;clear eC;have E:=E.tr HX.out;have sS:=sS.ext HX.out;have r3:=r3.ext HX.out;clear HX l5;go_simp
 go_upto_region 4 with(fail)
 refine wp_region_lit ?_;refine listV (v:= .agg (agv wA)) (w':=X3_3) rfl ((ZM (C:=fun _=>False) r3 (fun h=>h) Kr) _ (Mv.refl (fun _=>False) _)) ?_;refine listV (v:= .slice (some ⟨g,0,none⟩) S.length q) (w':=X3_3) rfl Kr ?_;refine J0 (R:=fun v w'=>(InW (fun p c=>{wA with p:=p,xs:= [],c:=c}) 15 [] []) v w'∧Ext X3_3 w') rfl Kr (Qxv HSE.out sS hq) ?_;rintro _ X4_1 ⟨⟨p7,c7,ep7,ec7,sp7,sc7,rfl,-,-⟩,gX4_1⟩;have E:=E.tr gX4_1;have sS:=sS.ext gX4_1;have r3:=r3.ext gX4_1;have eC:=Ext.rf X4_1;refine listV (v:= .tuple #[.agg (agv {wA with p:=p7,xs:= [],c:=c7}),.agg (dnv ⟨15,ep7,0,ec7,sp7,0,sc7⟩)]) (w':=X4_1) rfl Kr ?_;refine listV (v:= .agg (agv {wA with p:=p7,xs:= [],c:=c7})) (w':=X4_1) rfl Kr ?_;refine listV (v:= .agg (dnv ⟨15,ep7,0,ec7,sp7,0,sc7⟩)) (w':=X4_1) rfl Kr ?_;refine listV rfl (QE _ _ _ _ _ _ _) ?_;obtain⟨b7,e7⟩: ∃b,X4_1.heap.size=b:=⟨_,rfl⟩;obtain⟨X4_2,hX4_2⟩: ∃N,X4_1.alloc (.cells (agv agz) 27)=N:=⟨_,rfl⟩;have r7:RowZ X4_2 b7 (agv agz):=by rw [←hX4_2,←e7];exact RowZ.new _ _ _
 have l7:X4_1.heap.size≤b7:=by rw [←e7];exact eC.size
 have g1:Ext X4_1 X4_2:=by rw [←hX4_2];exact Ext.al (Ext.rf _) _
 have eC:=eC.tr g1;rw [hX4_2,e7];clear hX4_2 e7 g1;refine listV rfl (Qc8 _) ?_;obtain⟨b8,e8⟩: ∃b,X4_2.heap.size=b:=⟨_,rfl⟩;obtain⟨X4_3,hX4_3⟩: ∃N,X4_2.alloc (.cells (#[.int .u8 0,.slice none 0 0,.slice none 0 0]) 42)=N:=⟨_,rfl⟩;have n7_8:b7<b8:=by have:=r7.l;unfold Lt at this;omega
 have r8:RowZ X4_3 b8 (#[.int .u8 0,.slice none 0 0,.slice none 0 0]):=by rw [←hX4_3,←e8];exact RowZ.new _ _ _
 have l8:X4_1.heap.size≤b8:=by rw [←e8];exact eC.size
 have g1:Ext X4_2 X4_3:=by rw [←hX4_3];exact Ext.al (Ext.rf _) _
 have eC:=eC.tr g1;have r7:=r7.ext g1;rw [hX4_3,e8];clear hX4_3 e8 g1;refine Zk rfl (Zu (B:=b7) (cs:=agv {wA with p:=p7,xs:= [],c:=c7}) (by rw [r7.r];exact Qi) r7.z Qi ZS Kr Kr) ?_;obtain⟨X4_4,hX4_4⟩: ∃X4_4,Qe X4_3 b7 0 (agv {wA with p:=p7,xs:= [],c:=c7})=X4_4:=⟨_,rfl⟩;have gS:Mv (fun q=>q=b7) X4_3 X4_4:=by rw [←hX4_4];exact Mv.sa _ rfl (Mv.refl _ _)
 have r7:RowZ X4_4 b7 (agv {wA with p:=p7,xs:= [],c:=c7}):=by rw [←hX4_4];exact r7.all _ (Qi.trans Qi.symm)
 have eC:Ext X4_1 X4_4:=by rw [←hX4_4];exact Ext.sa _ l7 eC
 have r8:=r8.mv gS Om;clear gS;rw [hX4_4];clear hX4_4;refine Zk rfl (Jc (B:=b8) (cs:=dnv ⟨15,ep7,0,ec7,sp7,0,sc7⟩) (by rw [r8.r];rfl) r8.z rfl (by simp [go_sem,dnv]) Kr Kr) ?_;obtain⟨X4_5,hX4_5⟩: ∃X4_5,Qe X4_4 b8 0 (dnv ⟨15,ep7,0,ec7,sp7,0,sc7⟩)=X4_5:=⟨_,rfl⟩;have gS:Mv (fun q=>q=b8) X4_4 X4_5:=by rw [←hX4_5];exact Mv.sa _ rfl (Mv.refl _ _)
 have r8:RowZ X4_5 b8 (dnv ⟨15,ep7,0,ec7,sp7,0,sc7⟩):=by rw [←hX4_5];exact r8.all _ rfl
 have eC:Ext X4_1 X4_5:=by rw [←hX4_5];exact Ext.sa _ l8 eC
 have r7:=r7.mv gS Om;clear gS;rw [hX4_5];clear hX4_5;refine wpList_nil ?_;have HX:=Xh eC;clear eC;have E:=E.tr HX.out;have sS:=sS.ext HX.out;have r3:=r3.ext HX.out;clear HX l7 l8;go_simp
 go_upto_region 5 with(fail)
 refine wp_region_lit ?_;refine listV (v:= .agg (agv wA)) (w':=X4_5) rfl ((ZM (C:=fun _=>False) r3 (fun h=>h) Kr) _ (Mv.refl (fun _=>False) _)) ?_;refine listV (v:= .int .i64 13) (w':=X4_5) rfl Kr ?_;refine listV (v:= .agg (ctv wX2)) (w':=X4_5) rfl Kr ?_;refine J0 (R:=fun v w'=>(Qxy) v w'∧Ext X4_5 w') rfl Kr (Qxz X4_5) ?_;rintro _ X5_1 ⟨⟨p9,c9,q10,d10,rfl⟩,gX5_1⟩;have E:=E.tr gX5_1;have sS:=sS.ext gX5_1;have r3:=r3.ext gX5_1;have r8:=r8.ext gX5_1;have eC:=Ext.rf X5_1;refine listV (v:= .tuple #[.agg (agv (wB p9 c9)),.slice q10 0 d10,.agg (ctv ⟨4,2,2,13,1,0,0,0,0,none,0,0⟩),.bool true]) (w':=X5_1) rfl Kr ?_;refine listV (v:= .agg (agv (wB p9 c9))) (w':=X5_1) rfl Kr ?_;refine listV (v:= .slice q10 0 d10) (w':=X5_1) rfl Kr ?_;refine listV (v:= .agg (ctv ⟨4,2,2,13,1,0,0,0,0,none,0,0⟩)) (w':=X5_1) rfl Kr ?_;refine listV (v:= .bool true) (w':=X5_1) rfl Kr ?_;refine listV rfl (QE _ _ _ _ _ _ _) ?_;obtain⟨b9,e9⟩: ∃b,X5_1.heap.size=b:=⟨_,rfl⟩;obtain⟨X5_2,hX5_2⟩: ∃N,X5_1.alloc (.cells (agv agz) 27)=N:=⟨_,rfl⟩;have r9:RowZ X5_2 b9 (agv agz):=by rw [←hX5_2,←e9];exact RowZ.new _ _ _
 have l9:X5_1.heap.size≤b9:=by rw [←e9];exact eC.size
 have g1:Ext X5_1 X5_2:=by rw [←hX5_2];exact Ext.al (Ext.rf _) _
 have eC:=eC.tr g1;rw [hX5_2,e9];clear hX5_2 e9 g1;refine listV rfl (Qc9 _) ?_;obtain⟨b11,e11⟩: ∃b,X5_2.heap.size=b:=⟨_,rfl⟩;obtain⟨X5_3,hX5_3⟩: ∃N,X5_2.alloc (.cells (ctv ⟨0,0,0,0,0,0,0,0,0,none,0,0⟩) 33)=N:=⟨_,rfl⟩;have n9_11:b9<b11:=by have:=r9.l;unfold Lt at this;omega
 have r11:RowZ X5_3 b11 (ctv ⟨0,0,0,0,0,0,0,0,0,none,0,0⟩):=by rw [←hX5_3,←e11];exact RowZ.new _ _ _
 have l11:X5_1.heap.size≤b11:=by rw [←e11];exact eC.size
 have g1:Ext X5_2 X5_3:=by rw [←hX5_3];exact Ext.al (Ext.rf _) _
 have eC:=eC.tr g1;have r9:=r9.ext g1;rw [hX5_3,e11];clear hX5_3 e11 g1;refine Zk rfl (Zu (B:=b9) (cs:=agv (wB p9 c9)) (by rw [r9.r];exact Qi) r9.z Qi ZS Kr Kr) ?_;obtain⟨X5_4,hX5_4⟩: ∃X5_4,Qe X5_3 b9 0 (agv (wB p9 c9))=X5_4:=⟨_,rfl⟩;have gS:Mv (fun q=>q=b9) X5_3 X5_4:=by rw [←hX5_4];exact Mv.sa _ rfl (Mv.refl _ _)
 have r9:RowZ X5_4 b9 (agv (wB p9 c9)):=by rw [←hX5_4];exact r9.all _ (Qi.trans Qi.symm)
 have eC:Ext X5_1 X5_4:=by rw [←hX5_4];exact Ext.sa _ l9 eC
 have r11:=r11.mv gS Om;clear gS;rw [hX5_4];clear hX5_4;refine listV (v:= .slice q10 0 d10) (w':=X5_4) rfl Kr ?_;refine Zk rfl (JA (B:=b11) (cs:=ctv ⟨4,2,2,13,1,0,0,0,0,none,0,0⟩) (by rw [r11.r];exact QL) r11.z QL Qbg Kr Kr) ?_;obtain⟨X5_5,hX5_5⟩: ∃X5_5,Qe X5_4 b11 0 (ctv ⟨4,2,2,13,1,0,0,0,0,none,0,0⟩)=X5_5:=⟨_,rfl⟩;have gS:Mv (fun q=>q=b11) X5_4 X5_5:=by rw [←hX5_5];exact Mv.sa _ rfl (Mv.refl _ _)
 have r11:RowZ X5_5 b11 (ctv ⟨4,2,2,13,1,0,0,0,0,none,0,0⟩):=by rw [←hX5_5];exact r11.all _ (QL.trans QL.symm)
 have eC:Ext X5_1 X5_5:=by rw [←hX5_5];exact Ext.sa _ l11 eC
 have r9:=r9.mv gS Om;clear gS;rw [hX5_5];clear hX5_5;refine listV (v:= .bool true) (w':=X5_5) rfl Kr ?_;refine wpList_nil ?_;have HX:=Xh eC;clear eC;have E:=E.tr HX.out;have sS:=sS.ext HX.out;have r3:=r3.ext HX.out;have r8:=r8.ext HX.out;clear HX l9 l11;go_simp
 go_upto_region 6 with(fail)
 refine wp_region_lit ?_;refine listV (v:= .agg (agv wA)) (w':=X5_5) rfl ((ZM (C:=fun _=>False) r3 (fun h=>h) Kr) _ (Mv.refl (fun _=>False) _)) ?_;refine listV (v:= .int .i64 13) (w':=X5_5) rfl Kr ?_;refine listV (v:= .agg (ctv wX3)) (w':=X5_5) rfl Kr ?_;refine J0 (R:=fun v w'=>(QxA) v w'∧Ext X5_5 w') rfl Kr (QxB X5_5) ?_;rintro _ X6_1 ⟨⟨A13,q14,n14,d14,K15,rfl⟩,gX6_1⟩;have E:=E.tr gX6_1;have sS:=sS.ext gX6_1;have r3:=r3.ext gX6_1;have r8:=r8.ext gX6_1;have r9:=r9.ext gX6_1;have r11:=r11.ext gX6_1;have eC:=Ext.rf X6_1;refine listV (v:= .tuple #[.agg (agv A13),.slice q14 n14 d14,.agg (ctv K15),.bool false]) (w':=X6_1) rfl Kr ?_;refine listV (v:= .agg (agv A13)) (w':=X6_1) rfl Kr ?_;refine listV (v:= .slice q14 n14 d14) (w':=X6_1) rfl Kr ?_;refine listV (v:= .agg (ctv K15)) (w':=X6_1) rfl Kr ?_;refine listV (v:= .bool false) (w':=X6_1) rfl Kr ?_;refine listV rfl (QE _ _ _ _ _ _ _) ?_;obtain⟨b13,e13⟩: ∃b,X6_1.heap.size=b:=⟨_,rfl⟩;obtain⟨X6_2,hX6_2⟩: ∃N,X6_1.alloc (.cells (agv agz) 27)=N:=⟨_,rfl⟩;have r13:RowZ X6_2 b13 (agv agz):=by rw [←hX6_2,←e13];exact RowZ.new _ _ _
 have l13:X6_1.heap.size≤b13:=by rw [←e13];exact eC.size
 have g1:Ext X6_1 X6_2:=by rw [←hX6_2];exact Ext.al (Ext.rf _) _
 have eC:=eC.tr g1;rw [hX6_2,e13];clear hX6_2 e13 g1;refine listV rfl (Qc9 _) ?_;obtain⟨b15,e15⟩: ∃b,X6_2.heap.size=b:=⟨_,rfl⟩;obtain⟨X6_3,hX6_3⟩: ∃N,X6_2.alloc (.cells (ctv ⟨0,0,0,0,0,0,0,0,0,none,0,0⟩) 33)=N:=⟨_,rfl⟩;have n13_15:b13<b15:=by have:=r13.l;unfold Lt at this;omega
 have r15:RowZ X6_3 b15 (ctv ⟨0,0,0,0,0,0,0,0,0,none,0,0⟩):=by rw [←hX6_3,←e15];exact RowZ.new _ _ _
 have l15:X6_1.heap.size≤b15:=by rw [←e15];exact eC.size
 have g1:Ext X6_2 X6_3:=by rw [←hX6_3];exact Ext.al (Ext.rf _) _
 have eC:=eC.tr g1;have r13:=r13.ext g1;rw [hX6_3,e15];clear hX6_3 e15 g1;refine Zk rfl (Zu (B:=b13) (cs:=agv A13) (by rw [r13.r];exact Qi) r13.z Qi ZS Kr Kr) ?_;obtain⟨X6_4,hX6_4⟩: ∃X6_4,Qe X6_3 b13 0 (agv A13)=X6_4:=⟨_,rfl⟩;have gS:Mv (fun q=>q=b13) X6_3 X6_4:=by rw [←hX6_4];exact Mv.sa _ rfl (Mv.refl _ _)
 have r13:RowZ X6_4 b13 (agv A13):=by rw [←hX6_4];exact r13.all _ (Qi.trans Qi.symm)
 have eC:Ext X6_1 X6_4:=by rw [←hX6_4];exact Ext.sa _ l13 eC
 have r15:=r15.mv gS Om;clear gS;rw [hX6_4];clear hX6_4;refine listV (v:= .slice q14 n14 d14) (w':=X6_4) rfl Kr ?_;refine Zk rfl (JA (B:=b15) (cs:=ctv K15) (by rw [r15.r];exact QL) r15.z QL Qbg Kr Kr) ?_;obtain⟨X6_5,hX6_5⟩: ∃X6_5,Qe X6_4 b15 0 (ctv K15)=X6_5:=⟨_,rfl⟩;have gS:Mv (fun q=>q=b15) X6_4 X6_5:=by rw [←hX6_5];exact Mv.sa _ rfl (Mv.refl _ _)
 have r15:RowZ X6_5 b15 (ctv K15):=by rw [←hX6_5];exact r15.all _ (QL.trans QL.symm)
 have eC:Ext X6_1 X6_5:=by rw [←hX6_5];exact Ext.sa _ l15 eC
 have r13:=r13.mv gS Om;clear gS;rw [hX6_5];clear hX6_5;refine listV (v:= .bool false) (w':=X6_5) rfl Kr ?_;refine wpList_nil ?_;have HX:=Xh eC;clear eC;have E:=E.tr HX.out;have sS:=sS.ext HX.out;have r3:=r3.ext HX.out;have r8:=r8.ext HX.out;have r9:=r9.ext HX.out;have r11:=r11.ext HX.out;clear HX l13 l15;go_simp
 go_upto_region 7 with(fail)
 refine wp_region_lit ?_;refine listV (v:= .agg (agv (wB p9 c9))) (w':=X6_5) rfl ((ZM (C:=fun _=>False) r9 (fun h=>h) Kr) _ (Mv.refl (fun _=>False) _)) ?_;refine listV (v:= .slice (some ⟨g,0,none⟩) S.length q) (w':=X6_5) rfl Kr ?_;refine J0 (R:=fun v w'=>(InW wC 0 [⟨Z8,5,5⟩] [⟨1,2,Z8⟩]) v w'∧Ext X6_5 w') rfl Kr (Qxw HSE.out p9 c9 sS hq) ?_;rintro _ X7_1 ⟨⟨p17,c17,ep18,ec18,sp18,sc18,rfl,s17,s18⟩,gX7_1⟩;have E:=E.tr gX7_1;have sS:=sS.ext gX7_1;have r3:=r3.ext gX7_1;have r8:=r8.ext gX7_1;have r9:=r9.ext gX7_1;have r11:=r11.ext gX7_1;have eC:=Ext.rf X7_1;refine listV (v:= .tuple #[.agg (agv (wC p17 c17)),.agg (dnv ⟨0,ep18,1,ec18,sp18,0,sc18⟩)]) (w':=X7_1) rfl Kr ?_;refine listV (v:= .agg (agv (wC p17 c17))) (w':=X7_1) rfl Kr ?_;refine listV (v:= .agg (dnv ⟨0,ep18,1,ec18,sp18,0,sc18⟩)) (w':=X7_1) rfl Kr ?_;refine listV rfl (QE _ _ _ _ _ _ _) ?_;obtain⟨b17,e17⟩: ∃b,X7_1.heap.size=b:=⟨_,rfl⟩;obtain⟨X7_2,hX7_2⟩: ∃N,X7_1.alloc (.cells (agv agz) 27)=N:=⟨_,rfl⟩;have r17:RowZ X7_2 b17 (agv agz):=by rw [←hX7_2,←e17];exact RowZ.new _ _ _
 have l17:X7_1.heap.size≤b17:=by rw [←e17];exact eC.size
 have g1:Ext X7_1 X7_2:=by rw [←hX7_2];exact Ext.al (Ext.rf _) _
 have eC:=eC.tr g1;rw [hX7_2,e17];clear hX7_2 e17 g1;refine listV rfl (Qc8 _) ?_;obtain⟨b18,e18⟩: ∃b,X7_2.heap.size=b:=⟨_,rfl⟩;obtain⟨X7_3,hX7_3⟩: ∃N,X7_2.alloc (.cells (#[.int .u8 0,.slice none 0 0,.slice none 0 0]) 42)=N:=⟨_,rfl⟩;have n17_18:b17<b18:=by have:=r17.l;unfold Lt at this;omega
 have r18:RowZ X7_3 b18 (#[.int .u8 0,.slice none 0 0,.slice none 0 0]):=by rw [←hX7_3,←e18];exact RowZ.new _ _ _
 have l18:X7_1.heap.size≤b18:=by rw [←e18];exact eC.size
 have g1:Ext X7_2 X7_3:=by rw [←hX7_3];exact Ext.al (Ext.rf _) _
 have eC:=eC.tr g1;have r17:=r17.ext g1;rw [hX7_3,e18];clear hX7_3 e18 g1;refine Zk rfl (Zu (B:=b17) (cs:=agv (wC p17 c17)) (by rw [r17.r];exact Qi) r17.z Qi ZS Kr Kr) ?_;obtain⟨X7_4,hX7_4⟩: ∃X7_4,Qe X7_3 b17 0 (agv (wC p17 c17))=X7_4:=⟨_,rfl⟩;have gS:Mv (fun q=>q=b17) X7_3 X7_4:=by rw [←hX7_4];exact Mv.sa _ rfl (Mv.refl _ _)
 have r17:RowZ X7_4 b17 (agv (wC p17 c17)):=by rw [←hX7_4];exact r17.all _ (Qi.trans Qi.symm)
 have eC:Ext X7_1 X7_4:=by rw [←hX7_4];exact Ext.sa _ l17 eC
 have r18:=r18.mv gS Om;clear gS;rw [hX7_4];clear hX7_4;refine Zk rfl (Jc (B:=b18) (cs:=dnv ⟨0,ep18,1,ec18,sp18,0,sc18⟩) (by rw [r18.r];rfl) r18.z rfl (by simp [go_sem,dnv]) Kr Kr) ?_;obtain⟨X7_5,hX7_5⟩: ∃X7_5,Qe X7_4 b18 0 (dnv ⟨0,ep18,1,ec18,sp18,0,sc18⟩)=X7_5:=⟨_,rfl⟩;have gS:Mv (fun q=>q=b18) X7_4 X7_5:=by rw [←hX7_5];exact Mv.sa _ rfl (Mv.refl _ _)
 have r18:RowZ X7_5 b18 (dnv ⟨0,ep18,1,ec18,sp18,0,sc18⟩):=by rw [←hX7_5];exact r18.all _ rfl
 have eC:Ext X7_1 X7_5:=by rw [←hX7_5];exact Ext.sa _ l18 eC
 have r17:=r17.mv gS Om;clear gS;rw [hX7_5];clear hX7_5;refine wpList_nil ?_;have HX:=Xh eC;clear eC;have E:=E.tr HX.out;have sS:=sS.ext HX.out;have r3:=r3.ext HX.out;have r8:=r8.ext HX.out;have r9:=r9.ext HX.out;have r11:=r11.ext HX.out;have s17:=s17.ext HX.out;have s18:=s18.ext HX.out;clear HX l17 l18;go_simp
 go_upto_region 8 with(fail)
 refine wp_region_lit ?_;refine listV (v:= .agg (agv (wC p17 c17))) (w':=X7_5) rfl ((ZM (C:=fun _=>False) r17 (fun h=>h) Kr) _ (Mv.refl (fun _=>False) _)) ?_;refine listV (v:= .slice (some ⟨g,0,none⟩) S.length q) (w':=X7_5) rfl Kr ?_;refine J0 (R:=fun v w'=>(InW wD 0 [⟨Z8,5,6⟩] [⟨2,2,Z8⟩]) v w'∧Ext X7_5 w') rfl Kr (Qxx HSE.out p17 c17 s17 sS hq) ?_;rintro _ X8_1 ⟨⟨p19,c19,ep20,ec20,sp20,sc20,rfl,s19,s20⟩,gX8_1⟩;have E:=E.tr gX8_1;have sS:=sS.ext gX8_1;have r3:=r3.ext gX8_1;have r8:=r8.ext gX8_1;have r9:=r9.ext gX8_1;have r11:=r11.ext gX8_1;have s17:=s17.ext gX8_1;have s18:=s18.ext gX8_1;have r17:=r17.ext gX8_1;have r18:=r18.ext gX8_1;have eC:=Ext.rf X8_1;refine listV (v:= .tuple #[.agg (agv (wD p19 c19)),.agg (dnv ⟨0,ep20,1,ec20,sp20,0,sc20⟩)]) (w':=X8_1) rfl Kr ?_;refine listV (v:= .agg (agv (wD p19 c19))) (w':=X8_1) rfl Kr ?_;refine listV (v:= .agg (dnv ⟨0,ep20,1,ec20,sp20,0,sc20⟩)) (w':=X8_1) rfl Kr ?_;refine listV rfl (QE _ _ _ _ _ _ _) ?_;obtain⟨b19,e19⟩: ∃b,X8_1.heap.size=b:=⟨_,rfl⟩;obtain⟨X8_2,hX8_2⟩: ∃N,X8_1.alloc (.cells (agv agz) 27)=N:=⟨_,rfl⟩;have r19:RowZ X8_2 b19 (agv agz):=by rw [←hX8_2,←e19];exact RowZ.new _ _ _
 have l19:X8_1.heap.size≤b19:=by rw [←e19];exact eC.size
 have g1:Ext X8_1 X8_2:=by rw [←hX8_2];exact Ext.al (Ext.rf _) _
 have eC:=eC.tr g1;rw [hX8_2,e19];clear hX8_2 e19 g1;refine listV rfl (Qc8 _) ?_;obtain⟨b20,e20⟩: ∃b,X8_2.heap.size=b:=⟨_,rfl⟩;obtain⟨X8_3,hX8_3⟩: ∃N,X8_2.alloc (.cells (#[.int .u8 0,.slice none 0 0,.slice none 0 0]) 42)=N:=⟨_,rfl⟩;have n19_20:b19<b20:=by have:=r19.l;unfold Lt at this;omega
 have r20:RowZ X8_3 b20 (#[.int .u8 0,.slice none 0 0,.slice none 0 0]):=by rw [←hX8_3,←e20];exact RowZ.new _ _ _
 have l20:X8_1.heap.size≤b20:=by rw [←e20];exact eC.size
 have g1:Ext X8_2 X8_3:=by rw [←hX8_3];exact Ext.al (Ext.rf _) _
 have eC:=eC.tr g1;have r19:=r19.ext g1;rw [hX8_3,e20];clear hX8_3 e20 g1;refine Zk rfl (Zu (B:=b19) (cs:=agv (wD p19 c19)) (by rw [r19.r];exact Qi) r19.z Qi ZS Kr Kr) ?_;obtain⟨X8_4,hX8_4⟩: ∃X8_4,Qe X8_3 b19 0 (agv (wD p19 c19))=X8_4:=⟨_,rfl⟩;have gS:Mv (fun q=>q=b19) X8_3 X8_4:=by rw [←hX8_4];exact Mv.sa _ rfl (Mv.refl _ _)
 have r19:RowZ X8_4 b19 (agv (wD p19 c19)):=by rw [←hX8_4];exact r19.all _ (Qi.trans Qi.symm)
 have eC:Ext X8_1 X8_4:=by rw [←hX8_4];exact Ext.sa _ l19 eC
 have r20:=r20.mv gS Om;clear gS;rw [hX8_4];clear hX8_4;refine Zk rfl (Jc (B:=b20) (cs:=dnv ⟨0,ep20,1,ec20,sp20,0,sc20⟩) (by rw [r20.r];rfl) r20.z rfl (by simp [go_sem,dnv]) Kr Kr) ?_;obtain⟨X8_5,hX8_5⟩: ∃X8_5,Qe X8_4 b20 0 (dnv ⟨0,ep20,1,ec20,sp20,0,sc20⟩)=X8_5:=⟨_,rfl⟩;have gS:Mv (fun q=>q=b20) X8_4 X8_5:=by rw [←hX8_5];exact Mv.sa _ rfl (Mv.refl _ _)
 have r20:RowZ X8_5 b20 (dnv ⟨0,ep20,1,ec20,sp20,0,sc20⟩):=by rw [←hX8_5];exact r20.all _ rfl
 have eC:Ext X8_1 X8_5:=by rw [←hX8_5];exact Ext.sa _ l20 eC
 have r19:=r19.mv gS Om;clear gS;rw [hX8_5];clear hX8_5;refine wpList_nil ?_;have HX:=Xh eC;clear eC;have E:=E.tr HX.out;have sS:=sS.ext HX.out;have r3:=r3.ext HX.out;have r8:=r8.ext HX.out;have r9:=r9.ext HX.out;have r11:=r11.ext HX.out;have s17:=s17.ext HX.out;have s18:=s18.ext HX.out;have r17:=r17.ext HX.out;have r18:=r18.ext HX.out;have s19:=s19.ext HX.out;have s20:=s20.ext HX.out;clear HX l19 l20;go_simp
 go_upto_region 9 with(fail)
 refine wp_region_lit ?_;refine listV (v:= .agg (agv (wD p19 c19))) (w':=X8_5) rfl ((ZM (C:=fun _=>False) r19 (fun h=>h) Kr) _ (Mv.refl (fun _=>False) _)) ?_;refine J0 (R:=fun v w'=>(TiW wD [⟨Z8,5,6⟩] []) v w'∧Ext X8_5 w') rfl Kr (QuI p19 c19 X8_5 s19) ?_;rintro _ X9_1 ⟨⟨p21,c21,q22,d22,rfl,s21,-⟩,gX9_1⟩;have E:=E.tr gX9_1;have sS:=sS.ext gX9_1;have r3:=r3.ext gX9_1;have r8:=r8.ext gX9_1;have r9:=r9.ext gX9_1;have r11:=r11.ext gX9_1;have s17:=s17.ext gX9_1;have s18:=s18.ext gX9_1;have r17:=r17.ext gX9_1;have r18:=r18.ext gX9_1;have s19:=s19.ext gX9_1;have s20:=s20.ext gX9_1;have r19:=r19.ext gX9_1;have r20:=r20.ext gX9_1;have eC:=Ext.rf X9_1;refine listV (v:= .tuple #[.agg (agv (wD p21 c21)),.slice q22 0 d22]) (w':=X9_1) rfl Kr ?_;refine listV (v:= .agg (agv (wD p21 c21))) (w':=X9_1) rfl Kr ?_;refine listV (v:= .slice q22 0 d22) (w':=X9_1) rfl Kr ?_;refine listV rfl (QE _ _ _ _ _ _ _) ?_;obtain⟨b21,e21⟩: ∃b,X9_1.heap.size=b:=⟨_,rfl⟩;obtain⟨X9_2,hX9_2⟩: ∃N,X9_1.alloc (.cells (agv agz) 27)=N:=⟨_,rfl⟩;have r21:RowZ X9_2 b21 (agv agz):=by rw [←hX9_2,←e21];exact RowZ.new _ _ _
 have l21:X9_1.heap.size≤b21:=by rw [←e21];exact eC.size
 have g1:Ext X9_1 X9_2:=by rw [←hX9_2];exact Ext.al (Ext.rf _) _
 have eC:=eC.tr g1;rw [hX9_2,e21];clear hX9_2 e21 g1;refine Zk rfl (Zu (B:=b21) (cs:=agv (wD p21 c21)) (by rw [r21.r];exact Qi) r21.z Qi ZS Kr Kr) ?_;obtain⟨X9_3,hX9_3⟩: ∃X9_3,Qe X9_2 b21 0 (agv (wD p21 c21))=X9_3:=⟨_,rfl⟩;have gS:Mv (fun q=>q=b21) X9_2 X9_3:=by rw [←hX9_3];exact Mv.sa _ rfl (Mv.refl _ _)
 have r21:RowZ X9_3 b21 (agv (wD p21 c21)):=by rw [←hX9_3];exact r21.all _ (Qi.trans Qi.symm)
 have eC:Ext X9_1 X9_3:=by rw [←hX9_3];exact Ext.sa _ l21 eC
 clear gS;rw [hX9_3];clear hX9_3;refine listV (v:= .slice q22 0 d22) (w':=X9_3) rfl Kr ?_;refine wpList_nil ?_;have HX:=Xh eC;clear eC;have E:=E.tr HX.out;have sS:=sS.ext HX.out;have r3:=r3.ext HX.out;have r8:=r8.ext HX.out;have r9:=r9.ext HX.out;have r11:=r11.ext HX.out;have s17:=s17.ext HX.out;have s18:=s18.ext HX.out;have r17:=r17.ext HX.out;have r18:=r18.ext HX.out;have s19:=s19.ext HX.out;have s20:=s20.ext HX.out;have r19:=r19.ext HX.out;have r20:=r20.ext HX.out;have s21:=s21.ext HX.out;clear HX l21;go_simp
 go_upto_region 10 with(fail)
 refine wp_region_lit ?_;refine listV (v:= .agg (agv (wD p19 c19))) (w':=X9_3) rfl ((ZM (C:=fun _=>False) r19 (fun h=>h) Kr) _ (Mv.refl (fun _=>False) _)) ?_;refine J0 (R:=fun v w'=>(TiW wE [] [⟨4,2,Z8⟩]) v w'∧Ext X9_3 w') rfl Kr (QuJ p19 c19 X9_3 s19) ?_;rintro _ X10_1 ⟨⟨p23,c23,q24,d24,rfl,-,s24⟩,gX10_1⟩;have E:=E.tr gX10_1;have sS:=sS.ext gX10_1;have r3:=r3.ext gX10_1;have r8:=r8.ext gX10_1;have r9:=r9.ext gX10_1;have r11:=r11.ext gX10_1;have s17:=s17.ext gX10_1;have s18:=s18.ext gX10_1;have r17:=r17.ext gX10_1;have r18:=r18.ext gX10_1;have s19:=s19.ext gX10_1;have s20:=s20.ext gX10_1;have r19:=r19.ext gX10_1;have r20:=r20.ext gX10_1;have s21:=s21.ext gX10_1;have r21:=r21.ext gX10_1;have eC:=Ext.rf X10_1;refine listV (v:= .tuple #[.agg (agv (wE p23 c23)),.slice q24 1 d24]) (w':=X10_1) rfl Kr ?_;refine listV (v:= .agg (agv (wE p23 c23))) (w':=X10_1) rfl Kr ?_;refine listV (v:= .slice q24 1 d24) (w':=X10_1) rfl Kr ?_;refine listV rfl (QE _ _ _ _ _ _ _) ?_;obtain⟨b23,e23⟩: ∃b,X10_1.heap.size=b:=⟨_,rfl⟩;obtain⟨X10_2,hX10_2⟩: ∃N,X10_1.alloc (.cells (agv agz) 27)=N:=⟨_,rfl⟩;have r23:RowZ X10_2 b23 (agv agz):=by rw [←hX10_2,←e23];exact RowZ.new _ _ _
 have l23:X10_1.heap.size≤b23:=by rw [←e23];exact eC.size
 have g1:Ext X10_1 X10_2:=by rw [←hX10_2];exact Ext.al (Ext.rf _) _
 have eC:=eC.tr g1;rw [hX10_2,e23];clear hX10_2 e23 g1;refine Zk rfl (Zu (B:=b23) (cs:=agv (wE p23 c23)) (by rw [r23.r];exact Qi) r23.z Qi ZS Kr Kr) ?_;obtain⟨X10_3,hX10_3⟩: ∃X10_3,Qe X10_2 b23 0 (agv (wE p23 c23))=X10_3:=⟨_,rfl⟩;have gS:Mv (fun q=>q=b23) X10_2 X10_3:=by rw [←hX10_3];exact Mv.sa _ rfl (Mv.refl _ _)
 have r23:RowZ X10_3 b23 (agv (wE p23 c23)):=by rw [←hX10_3];exact r23.all _ (Qi.trans Qi.symm)
 have eC:Ext X10_1 X10_3:=by rw [←hX10_3];exact Ext.sa _ l23 eC
 clear gS;rw [hX10_3];clear hX10_3;refine listV (v:= .slice q24 1 d24) (w':=X10_3) rfl Kr ?_;refine wpList_nil ?_;have HX:=Xh eC;clear eC;have E:=E.tr HX.out;have sS:=sS.ext HX.out;have r3:=r3.ext HX.out;have r8:=r8.ext HX.out;have r9:=r9.ext HX.out;have r11:=r11.ext HX.out;have s17:=s17.ext HX.out;have s18:=s18.ext HX.out;have r17:=r17.ext HX.out;have r18:=r18.ext HX.out;have s19:=s19.ext HX.out;have s20:=s20.ext HX.out;have r19:=r19.ext HX.out;have r20:=r20.ext HX.out;have s21:=s21.ext HX.out;have r21:=r21.ext HX.out;have s24:=s24.ext HX.out;clear HX l23;go_simp;obtain⟨be18,oe18,rfl,z18⟩:=s18.evb;clear s18;obtain⟨be20,oe20,rfl,z20⟩:=s20.evb;clear s20;obtain⟨be24,oe24,rfl,z24⟩:=s24.evb;clear s24;have x18:X10_3.cell? ⟨b18,1,none⟩=some (.slice (some ⟨be18,oe18,none⟩) 1 ec18):=r18.cell 1 (by show 1<3;omega);have x20:X10_3.cell? ⟨b20,1,none⟩=some (.slice (some ⟨be20,oe20,none⟩) 1 ec20):=r20.cell 1 (by show 1<3;omega);have x17:X10_3.cell? ⟨b17,66,none⟩=some (.slice p17 1 c17):=by rw [Qa,r17.r];exact Qu _
 have HC:=Xh (And.intro E (And.intro r8 (And.intro r9 (And.intro r11 (And.intro s17 (And.intro z18 (And.intro r17 (And.intro r18 (And.intro s19 (And.intro z20 (And.intro r19 (And.intro r20 (And.intro s21 (And.intro r21 (And.intro z24 r23)))))))))))))));clear E r8 r9 r11 s17 z18 r17 r18 s19 z20 r19 r20 s21 r21 z24 r23 sS r3
 go_upto_region 13 with(fail)
 obtain⟨E,r8,r9,r11,s17,z18,r17,r18,s19,z20,r19,r20,s21,r21,z24,r23⟩:=HC.out;clear HC x18 x20 x17;refine QT (fun _=>False) Kr ?_;obtain⟨WW,hW⟩: ∃Wdr,World.drew X10_3=Wdr:=⟨_,rfl⟩;have gD:Ext X10_3 WW:=by rw [←hW];exact Ext.dr (Ext.rf _)
 rw [hW];clear hW;have E:=E.tr gD;have r8:=r8.ext gD;have r9:=r9.ext gD;have r11:=r11.ext gD;have s17:=s17.ext gD;have z18:=z18.ext gD;have r17:=r17.ext gD;have r18:=r18.ext gD;have s19:=s19.ext gD;have z20:=z20.ext gD;have r19:=r19.ext gD;have r20:=r20.ext gD;have s21:=s21.ext gD;have r21:=r21.ext gD;have z24:=z24.ext gD;have r23:=r23.ext gD;refine Qas (N:=107) (R:=Qp0) (E:=((Tryz.f9.body.bind (Qg 13)).getD #[])) Kr Qku Kr fun hS=> ?_;have hT:=hS.2.1;refine tMk 1 (.int .i64 0) hS.1 hT rfl fun hT=> ?_;refine tMk 3 (.bool true) hS.1 hT rfl fun hT=> ?_;refine tMk 7 (.bool true) hS.1 hT rfl fun hT=> ?_;refine tMk 15 (.int .i64 2) hS.1 hT rfl fun hT=> ?_;refine tMk 31 (.bool true) hS.1 hT rfl fun hT=> ?_;refine tMk 63 (.bool true) hS.1 hT rfl fun hT=> ?_;refine tMk 127 (.bool true) hS.1 hT rfl fun hT=> ?_;refine tMk 255 (.pointer (some ⟨b8,0,none⟩)) hS.1 hT rfl fun hT=> ?_;refine tM 511 (.int .u8 15) hS.1 hT rfl (YC (C:=fun _=>False) (r8.cell 0 (by show 0<3;omega)) r8.l (fun h=>h) Kr) fun hT=> ?_;refine tMk 1023 (.bool true) hS.1 hT rfl fun hT=> ?_;refine tMk 2047 (.bool true) hS.1 hT rfl fun hT=> ?_;refine tMk 4095 (.bool true) hS.1 hT rfl fun hT=> ?_;refine tMk 8191 (.slice q10 0 d10) hS.1 hT rfl fun hT=> ?_;refine tMk 16383 (.int .i64 0) hS.1 hT rfl fun hT=> ?_;have hT:=hS.2.2.1;refine tMk 32767 (.bool true) hS.1 hT rfl fun hT=> ?_;refine tMk 65535 (.bool true) hS.1 hT rfl fun hT=> ?_;refine tMk 131071 (.bool true) hS.1 hT rfl fun hT=> ?_;refine tMk 262143 (.bool true) hS.1 hT rfl fun hT=> ?_;refine tMk 524287 (.bool true) hS.1 hT rfl fun hT=> ?_;refine tMk 1048575 (.bool true) hS.1 hT rfl fun hT=> ?_;refine tMk 2097151 (.pointer (some ⟨b11,0,none⟩)) hS.1 hT rfl fun hT=> ?_;refine tM 4194303 (.int .u8 4) hS.1 hT rfl (YC (C:=fun _=>False) (r11.cell 0 (by show 0<10;omega)) r11.l (fun h=>h) Kr) fun hT=> ?_;refine tMk 8388607 (.bool true) hS.1 hT rfl fun hT=> ?_;refine tMk 16777215 (.bool true) hS.1 hT rfl fun hT=> ?_;refine tMk 33554431 (.bool true) hS.1 hT rfl fun hT=> ?_;refine tMk 67108863 (.pointer (some ⟨b11,1,none⟩)) hS.1 hT rfl fun hT=> ?_;refine tM 134217727 (.int .u8 2) hS.1 hT rfl (YC (C:=fun _=>False) (r11.cell 1 (by show 1<10;omega)) r11.l (fun h=>h) Kr) fun hT=> ?_;refine tMk 268435455 (.bool true) hS.1 hT rfl fun hT=> ?_;have hT:=hS.2.2.2.1;refine tMk 536870911 (.bool true) hS.1 hT rfl fun hT=> ?_;refine tMk 1073741823 (.bool true) hS.1 hT rfl fun hT=> ?_;refine tMk 2147483647 (.pointer (some ⟨b11,4,none⟩)) hS.1 hT rfl fun hT=> ?_;refine tM 4294967295 (.int .i64 1) hS.1 hT rfl (QW (C:=fun _=>False) (r11.cell 4 (by show 4<10;omega)) r11.l (fun h=>h) Kr) fun hT=> ?_;refine tMk 8589934591 (.bool true) hS.1 hT rfl fun hT=> ?_;refine tMk 17179869183 (.bool true) hS.1 hT rfl fun hT=> ?_;refine tMk 34359738367 (.bool true) hS.1 hT rfl fun hT=> ?_;refine tMk 68719476735 (.bool false) hS.1 hT rfl fun hT=> ?_;refine tMk 137438953471 (.bool true) hS.1 hT rfl fun hT=> ?_;refine tMk 274877906943 (.bool true) hS.1 hT rfl fun hT=> ?_;refine tMk 549755813887 (.bool true) hS.1 hT rfl fun hT=> ?_;refine tMk 1099511627775 (.pointer (some ⟨b18,1,none⟩)) hS.1 hT rfl fun hT=> ?_;refine tM 2199023255551 (.slice (some ⟨be18,oe18,none⟩) 1 ec18) hS.1 hT rfl (Qbk (C:=fun _=>False) (r18.cell 1 (by show 1<3;omega)) r18.l (fun h=>h) Kr) fun hT=> ?_;refine tM 4398046511103 (.pointer (some ⟨be18,oe18,none⟩)) hS.1 hT rfl (fun w' _=>Qbl (b:=be18) (o:=oe18) (c:=ec18) Kr Kr w') fun hT=> ?_;have hT:=hS.2.2.2.2.1;refine tMk 8796093022207 (.pointer (some ⟨be18,oe18,none⟩)) hS.1 hT rfl fun hT=> ?_;refine tM 17592186044415 (.int .u8 1) hS.1 hT rfl (YC (C:=fun _=>False) (z18.cell0) z18.lt (fun h=>h) Kr) fun hT=> ?_;refine tMk 35184372088831 (.bool true) hS.1 hT rfl fun hT=> ?_;refine tMk 70368744177663 (.bool true) hS.1 hT rfl fun hT=> ?_;refine tMk 140737488355327 (.bool true) hS.1 hT rfl fun hT=> ?_;refine tMk 281474976710655 (.pointer (some ⟨b18,1,none⟩)) hS.1 hT rfl fun hT=> ?_;refine tM 562949953421311 (.slice (some ⟨be18,oe18,none⟩) 1 ec18) hS.1 hT rfl (Qbk (C:=fun _=>False) (r18.cell 1 (by show 1<3;omega)) r18.l (fun h=>h) Kr) fun hT=> ?_;refine tM 1125899906842623 (.pointer (some ⟨be18,oe18,none⟩)) hS.1 hT rfl (fun w' _=>Qbl (b:=be18) (o:=oe18) (c:=ec18) Kr Kr w') fun hT=> ?_;refine tMk 2251799813685247 (.pointer (some ⟨be18,oe18+1,none⟩)) hS.1 hT rfl fun hT=> ?_;refine tM 4503599627370495 (.int .i64 2) hS.1 hT rfl (QW (C:=fun _=>False) z18.cell1 z18.lt (fun h=>h) Kr) fun hT=> ?_;refine tMk 9007199254740991 (.bool true) hS.1 hT rfl fun hT=> ?_;refine tMk 18014398509481983 (.bool true) hS.1 hT rfl fun hT=> ?_;refine tMk 36028797018963967 (.bool true) hS.1 hT rfl fun hT=> ?_;refine tMk 72057594037927935 (.pointer (some ⟨b20,1,none⟩)) hS.1 hT rfl fun hT=> ?_;have hT:=hS.2.2.2.2.2.1;refine tM 144115188075855871 (.slice (some ⟨be20,oe20,none⟩) 1 ec20) hS.1 hT rfl (Qbk (C:=fun _=>False) (r20.cell 1 (by show 1<3;omega)) r20.l (fun h=>h) Kr) fun hT=> ?_;refine tM 288230376151711743 (.pointer (some ⟨be20,oe20,none⟩)) hS.1 hT rfl (fun w' _=>Qbl (b:=be20) (o:=oe20) (c:=ec20) Kr Kr w') fun hT=> ?_;refine tMk 576460752303423487 (.pointer (some ⟨be20,oe20,none⟩)) hS.1 hT rfl fun hT=> ?_;refine tM 1152921504606846975 (.int .u8 2) hS.1 hT rfl (YC (C:=fun _=>False) (z20.cell0) z20.lt (fun h=>h) Kr) fun hT=> ?_;refine tMk 2305843009213693951 (.bool true) hS.1 hT rfl fun hT=> ?_;refine tMk 4611686018427387903 (.bool true) hS.1 hT rfl fun hT=> ?_;refine tMk 9223372036854775807 (.bool true) hS.1 hT rfl fun hT=> ?_;refine tM 18446744073709551615 (.agg (agv (wD p21 c21))) hS.1 hT rfl (ZM (C:=fun _=>False) r21 (fun h=>h) Kr) fun hT=> ?_;refine tM 36893488147419103231 (.agg (agv (wD p19 c19))) hS.1 hT rfl (ZM (C:=fun _=>False) r19 (fun h=>h) Kr) fun hT=> ?_;refine sM 73786976294838206463 (fun v _=>v= .bool true) hS.2.2.2.2.2.2.1 rfl (Zz (QxC p21 p19 c21 c19 WW s21 s19)) ?_;rintro _ WY1 gWY1 rfl;have E:=E.tr gWY1;have r8:=r8.ext gWY1;have r9:=r9.ext gWY1;have r11:=r11.ext gWY1;have s17:=s17.ext gWY1;have z18:=z18.ext gWY1;have r17:=r17.ext gWY1;have r18:=r18.ext gWY1;have s19:=s19.ext gWY1;have z20:=z20.ext gWY1;have r19:=r19.ext gWY1;have r20:=r20.ext gWY1;have s21:=s21.ext gWY1;have r21:=r21.ext gWY1;have z24:=z24.ext gWY1;have r23:=r23.ext gWY1;have hT:=hS.2.2.2.2.2.2.2.1;refine tMk 147573952589676412927 (.bool true) hS.1 hT rfl fun hT=> ?_;refine tMk 295147905179352825855 (.bool true) hS.1 hT rfl fun hT=> ?_;refine tMk 590295810358705651711 (.slice q22 0 d22) hS.1 hT rfl fun hT=> ?_;refine tMk 1180591620717411303423 (.int .i64 0) hS.1 hT rfl fun hT=> ?_;refine tMk 2361183241434822606847 (.bool true) hS.1 hT rfl fun hT=> ?_;refine tMk 4722366482869645213695 (.bool true) hS.1 hT rfl fun hT=> ?_;refine tMk 9444732965739290427391 (.bool true) hS.1 hT rfl fun hT=> ?_;refine tMk 18889465931478580854783 (.slice (some ⟨be24,oe24,none⟩) 1 d24) hS.1 hT rfl fun hT=> ?_;refine tM 37778931862957161709567 (.pointer (some ⟨be24,oe24,none⟩)) hS.1 hT rfl (fun w' _=>Qbl (b:=be24) (o:=oe24) (c:=d24) Kr Kr w') fun hT=> ?_;refine tMk 75557863725914323419135 (.pointer (some ⟨be24,oe24,none⟩)) hS.1 hT rfl fun hT=> ?_;refine tM 151115727451828646838271 (.int .u8 4) hS.1 hT rfl (YC (C:=fun _=>False) (z24.cell0) z24.lt (fun h=>h) Kr) fun hT=> ?_;refine tMk 302231454903657293676543 (.bool true) hS.1 hT rfl fun hT=> ?_;refine tMk 604462909807314587353087 (.bool true) hS.1 hT rfl fun hT=> ?_;refine tMk 1208925819614629174706175 (.bool true) hS.1 hT rfl fun hT=> ?_;have hT:=hS.2.2.2.2.2.2.2.2.1;refine tMk 2417851639229258349412351 (.pointer (some ⟨b23,66,none⟩)) hS.1 hT rfl fun hT=> ?_;refine tM 4835703278458516698824703 (.slice p23 0 c23) hS.1 hT rfl (Qan (C:=fun _=>False) (by rw [Qa,r23.r];exact Qu _) r23.l (fun h=>h) Kr) fun hT=> ?_;refine tMk 9671406556917033397649407 (.int .i64 0) hS.1 hT rfl fun hT=> ?_;refine tMk 19342813113834066795298815 (.bool true) hS.1 hT rfl fun hT=> ?_;refine tMk 38685626227668133590597631 (.bool true) hS.1 hT rfl fun hT=> ?_;refine tMk 77371252455336267181195263 (.bool true) hS.1 hT rfl fun hT=> ?_;refine tM 154742504910672534362390527 (.agg (agv (wC p17 c17))) hS.1 hT rfl (ZM (C:=fun _=>False) r17 (fun h=>h) Kr) fun hT=> ?_;refine sM 309485009821345068724781055 (fun v _=>v= .bool true) hS.2.2.2.2.2.2.2.2.2.1 rfl (Zz (QxF p17 c17 WY1 s17)) ?_;rintro _ WY2 gWY2 rfl;have E:=E.tr gWY2;have r8:=r8.ext gWY2;have r9:=r9.ext gWY2;have r11:=r11.ext gWY2;have s17:=s17.ext gWY2;have z18:=z18.ext gWY2;have r17:=r17.ext gWY2;have r18:=r18.ext gWY2;have s19:=s19.ext gWY2;have z20:=z20.ext gWY2;have r19:=r19.ext gWY2;have r20:=r20.ext gWY2;have s21:=s21.ext gWY2;have r21:=r21.ext gWY2;have z24:=z24.ext gWY2;have r23:=r23.ext gWY2;have hT:=hS.2.2.2.2.2.2.2.2.2.2.1;refine tMk 618970019642690137449562111 (.bool true) hS.1 hT rfl fun hT=> ?_;refine tMk 1237940039285380274899124223 (.bool true) hS.1 hT rfl fun hT=> ?_;refine tMk 2475880078570760549798248447 (.agg (agv agz)) hS.1 hT rfl fun hT=> ?_;refine sM 4951760157141521099596496895 (fun v _=>v= .bool false) hS.2.2.2.2.2.2.2.2.2.2.2.1 rfl (Zz (QxG WY2)) ?_;rintro _ WY3 gWY3 rfl;have E:=E.tr gWY3;have r8:=r8.ext gWY3;have r9:=r9.ext gWY3;have r11:=r11.ext gWY3;have s17:=s17.ext gWY3;have z18:=z18.ext gWY3;have r17:=r17.ext gWY3;have r18:=r18.ext gWY3;have s19:=s19.ext gWY3;have z20:=z20.ext gWY3;have r19:=r19.ext gWY3;have r20:=r20.ext gWY3;have s21:=s21.ext gWY3;have r21:=r21.ext gWY3;have z24:=z24.ext gWY3;have r23:=r23.ext gWY3;have hT:=hS.2.2.2.2.2.2.2.2.2.2.2.2.1;refine tMk 9903520314283042199192993791 (.bool true) hS.1 hT rfl fun hT=> ?_;refine tMk 19807040628566084398385987583 (.bool true) hS.1 hT rfl fun hT=> ?_;refine tMk 39614081257132168796771975167 (.bool true) hS.1 hT rfl fun hT=> ?_;refine tM 79228162514264337593543950335 (.agg (agv (wC p17 c17))) hS.1 hT rfl (ZM (C:=fun _=>False) r17 (fun h=>h) Kr) fun hT=> ?_;refine tM 237684487542793012780631851007 (.agg (agv (wC p17 c17))) hS.1 hT rfl (ZM (C:=fun _=>False) r17 (fun h=>h) Kr) fun hT=> ?_;refine sM 316912650057057350374175801343 (OwW) hS.2.2.2.2.2.2.2.2.2.2.2.2.2.1 rfl (QyS p17 c17 WY3 s17) ?_;rintro _ WY4 gWY4 ⟨pO,cO,rfl,sO⟩;have E:=E.tr gWY4;have r8:=r8.ext gWY4;have r9:=r9.ext gWY4;have r11:=r11.ext gWY4;have s17:=s17.ext gWY4;have z18:=z18.ext gWY4;have r17:=r17.ext gWY4;have r18:=r18.ext gWY4;have s19:=s19.ext gWY4;have z20:=z20.ext gWY4;have r19:=r19.ext gWY4;have r20:=r20.ext gWY4;have s21:=s21.ext gWY4;have r21:=r21.ext gWY4;have z24:=z24.ext gWY4;have r23:=r23.ext gWY4;refine sM 633825300114114700748351602687 (fun v _=>v= .bool true) hS.2.2.2.2.2.2.2.2.2.2.2.2.2.2.1 rfl (Zz (QxD pO p17 cO c17 WY4 sO s17)) ?_;rintro _ WY5 gWY5 rfl;have E:=E.tr gWY5;have r8:=r8.ext gWY5;have r9:=r9.ext gWY5;have r11:=r11.ext gWY5;have s17:=s17.ext gWY5;have z18:=z18.ext gWY5;have r17:=r17.ext gWY5;have r18:=r18.ext gWY5;have s19:=s19.ext gWY5;have z20:=z20.ext gWY5;have r19:=r19.ext gWY5;have r20:=r20.ext gWY5;have s21:=s21.ext gWY5;have r21:=r21.ext gWY5;have z24:=z24.ext gWY5;have r23:=r23.ext gWY5;have sO:=sO.ext gWY5;have hT:=hS.2.2.2.2.2.2.2.2.2.2.2.2.2.2.2.1;refine tMk 1267650600228229401496703205375 (.bool true) hS.1 hT rfl fun hT=> ?_;refine tMk 2535301200456458802993406410751 (.bool true) hS.1 hT rfl fun hT=> ?_;refine tM 5070602400912917605986812821503 (.agg (agv (wC p17 c17))) hS.1 hT rfl (ZM (C:=fun _=>False) r17 (fun h=>h) Kr) fun hT=> ?_;refine tM 10141204801825835211973625643007 (.agg (agv (wB p9 c9))) hS.1 hT rfl (ZM (C:=fun _=>False) r9 (fun h=>h) Kr) fun hT=> ?_;refine sM 20282409603651670423947251286015 (fun v _=>v= .bool false) hS.2.2.2.2.2.2.2.2.2.2.2.2.2.2.2.2.1 rfl (Zz (QxE p17 p9 c17 c9 WY5 s17)) ?_;rintro _ WY6 gWY6 rfl;have E:=E.tr gWY6;have r8:=r8.ext gWY6;have r9:=r9.ext gWY6;have r11:=r11.ext gWY6;have s17:=s17.ext gWY6;have z18:=z18.ext gWY6;have r17:=r17.ext gWY6;have r18:=r18.ext gWY6;have s19:=s19.ext gWY6;have z20:=z20.ext gWY6;have r19:=r19.ext gWY6;have r20:=r20.ext gWY6;have s21:=s21.ext gWY6;have r21:=r21.ext gWY6;have z24:=z24.ext gWY6;have r23:=r23.ext gWY6;have sO:=sO.ext gWY6;have hT:=hS.2.2.2.2.2.2.2.2.2.2.2.2.2.2.2.2.2.1;refine tMk 40564819207303340847894502572031 (.bool true) hS.1 hT rfl fun hT=> ?_;refine tMk 81129638414606681695789005144063 (.bool true) hS.1 hT rfl fun hT=> ?_;refine tMk 162259276829213363391578010288127 (.bool true) hS.1 hT rfl fun hT=> ?_;refine doneK hS.2.2.2.2.2.2.2.2.2.2.2.2.2.2.2.2.2.2 ?_;clear hS hT;have HE:=Xh E;clear E;go_simp;go_wp2;go_ret;exact⟨rfl,HE.out⟩
theorem Qim(p:Option Addr)(xs:List Co)(c:Nat)(w:World)(hs:SlC w p xs)(hl:xs.length≤9223372036854775807)(hr: ∀x∈xs,TuR x.t):
  Calls Tryz.prog 77 #[.slice p xs.length c] w fun e w'=>e= .returned (.bool (Zs xs))∧Ext w w':=by
 have HRR:=Xh hr;clear hr
 go_enter Tryz.func77,Tryz.ntmps77
 go_wp2
 go_loopw [3] (fun a wr=> ∃k:Nat,k≤xs.length∧a= .int .i64 k∧QcZ xs k∧Ext w wr) (fun a _=>xs.length- (intOf a).toNat)
 case atStart=>exact⟨0,Nat.zero_le _,rfl,(fun j hj=>absurd hj (Nat.not_lt_zero _)),Ext.rf _⟩
 case round=>
  obtain⟨k,hk,rfl,hG,hE⟩:=hrel
  by_cases hlt:k<xs.length
  ·have hil:(k:Int)<xs.length:=by omega
   obtain⟨b,off,rfl,lb,c0,c1,c2,c3,c4,c5⟩:=(hs.ext hE) k hlt;obtain⟨x,hx⟩: ∃x,xs[k]=x:=⟨_,rfl⟩;have hx':xs[k]?=some x:=by rw [List.getElem?_eq_getElem hlt,hx]
   have HX:=Xh (HRR.out x (by rw [←hx];exact List.getElem_mem hlt));rw [hx]at c0 c1 c2 c3 c4 c5;have lbb:Lt b wr:=lb;have HBAD:=fun h=>Xh (QjM hlt ⟨x,hx',h⟩);have HNEXT:=fun hw hc=>Xh (Qmx hx' hG hw hc);have HSS:=Xh hs;clear hG
   by_cases h1:x.s<0
   ·have HR:=HBAD (.inl (by unfold Yy;simp [h1]));clear HBAD HNEXT hx hx' hs lb
    go_upto_region 4 with(fail)
    refine Qm Kr Kr ?_;(repeat(go_big_quiet_step (fail)));refine wpQuiet_nil ?_;intro d
    have hd:=Qz d;go_wp2;exact bodyPost_ret (v:= .bool false) (by simp [results,Tryz.results77,go_sem]) rfl ⟨by rw [HR.out],hE.tr hd⟩
   ·by_cases h2:x.l<x.s
    ·have HR:=HBAD (.inl (by unfold Yy;simp [h2]));clear HBAD HNEXT hx hx' hs lb
     go_upto_region 4 with(fail)
     refine Qm Kr Kr ?_;(repeat(go_big_quiet_step (fail)));refine wpQuiet_nil ?_;intro d
     have hd:=Qz d;go_wp2;exact bodyPost_ret (v:= .bool false) (by simp [results,Tryz.results77,go_sem]) rfl ⟨by rw [HR.out],hE.tr hd⟩
    ·by_cases h3:1099511627776<x.l
     ·have HR:=HBAD (.inl (by unfold Yy;simp [h3]));clear HBAD HNEXT hx hx' hs lb
      go_upto_region 4 with(fail)
      refine Qm Kr Kr ?_;(repeat(go_big_quiet_step (fail)));refine wpQuiet_nil ?_;intro d
      have hd:=Qz d;go_wp2;exact bodyPost_ret (v:= .bool false) (by simp [results,Tryz.results77,go_sem]) rfl ⟨by rw [HR.out],hE.tr hd⟩
     ·have hw:Yy x=false:=by unfold Yy;simp;omega
      by_cases hk0:k=0
      ·have HN:=HNEXT hw (fun m y e _=>by omega);clear HBAD HNEXT hx hx' hs lb hw;subst hk0
       go_upto_region 4 with(fail)
       refine Qm Kr Kr ?_;(repeat(go_big_quiet_step (fail)));refine wpQuiet_nil ?_;intro d
       have hd:=Qz d;go_wp2
       go_roundw
       case rel=>exact⟨1,Om,by go_num,HN.out,hE.tr hd⟩
       case measure=>simp [intOf];omega
      ·obtain⟨m,rfl⟩: ∃m,k=m+1:=⟨k- 1,Om⟩;obtain⟨b',off',hpe,-,d0,d1,d2,d3,d4,d5⟩:=(hs.ext hE) m Om
       cases hpe
       have hml:m<xs.length:=by omega
       obtain⟨y,hy⟩: ∃y,xs[m]=y:=⟨_,rfl⟩;have hy':xs[m]?=some y:=by rw [List.getElem?_eq_getElem hml,hy]
       have HY:=Xh (HRR.out y (by rw [←hy];exact List.getElem_mem hml));rw [hy]at d0 d1 d2 d3 d4 d5;have hkp:(0:Int)<((m+1:Nat):Int):=by omega
       have hi1:(m:Int)<xs.length:=by omega
       have hmw:IntKind.i64.wrap (((m+1:Nat):Int)- 1)=m:=by rw [IntKind.wrap_i64];omega
       clear hk0
       by_cases hc:0≤Qb4 y.t x.t
       ·have HR:=HBAD (.inr ⟨m,y,rfl,hy',hc⟩);have hcd:decide (0≤Qb4 y.t x.t)=true:=decide_eq_true hc;clear HBAD HNEXT hx hx' hy hy' hs lb hw
        go_upto_region 4 with(fail)
        refine Qm Kr Kr ?_;(repeat(go_big_quiet_step ((go_at_call 122;exact ZF (Qh2 _ _ HY.out HX.out _)))));refine wpQuiet_nil ?_;intro d
        have hd:=Qz d;go_wp2;exact bodyPost_ret (v:= .bool false) (by simp [results,Tryz.results77,go_sem]) rfl ⟨by rw [HR.out],hE.tr hd⟩
       ·have hcd:decide (0≤Qb4 y.t x.t)=false:=decide_eq_false hc
        have HN:=HNEXT hw (fun m' y' e h'=>by
         obtain rfl:m'=m:=by omega
         rw [hy']at h';cases h'
         omega)
        clear HBAD HNEXT hx hx' hy hy' hs lb hw
        go_upto_region 4 with(fail)
        refine Qm Kr Kr ?_;(repeat(go_big_quiet_step ((go_at_call 122;exact ZF (Qh2 _ _ HY.out HX.out _)))));refine wpQuiet_nil ?_;intro d
        have hd:=Qz d;go_wp2
        go_roundw
        case rel=>exact⟨m+1+1,Om,by go_num,HN.out,hE.tr hd⟩
        case measure=>simp [intOf];omega
  ·have hil: ¬((k:Int)<xs.length):=by omega
   have HR:=Xh (Qpd hlt hG);clear hG;go_wp2;exact bodyPost_ret (v:= .bool (decide ((xs.length:Int)≤32))) (by simp [results,Tryz.results77,go_sem]) rfl ⟨by rw [HR.out],hE⟩
theorem Qm4(a:Ag)(w:World)(hs:SlC w a.p a.xs)(hl:a.xs.length≤9223372036854775807)(hr: ∀x∈a.xs,TuR x.t)(hk0: ∀k,k<16→0≤(a.md k).kind):
  Calls Tryz.prog 23 #[.agg (agv a)] w fun e w'=>e= .returned (.bool (agR a))∧Ext w w':=by
 have HC:=Xh (fun W (hE:Ext w W)=>Qim a.p a.xs a.c W (hs.ext hE) hl hr);have HSL:=Xh (fun W (hE:Ext w W)=>hs.ext hE);have HTU:=Xh hr;have HK0:=Xh hk0;clear hs hr hk0
 go_enter Tryz.func23,Tryz.ntmps23
 go_upto_region 1 with(fail)
 obtain⟨W0,hW⟩: ∃W0,w.alloc (.cells (agv a) 27)=W0:=⟨_,rfl⟩;have g0:Ext w W0:=by rw [←hW];exact Ext.al (Ext.rf _) _
 have rx0:Qc W0 w.heap.size=agv a:=by rw [←hW];simp [go_sem]
 have lx0:Lt w.heap.size W0:=by rw [←hW];simp [go_sem]
 rw [hW];clear hW;have c0:W0.cell? ⟨w.heap.size,0,none⟩=some (.int .i64 a.id):=by rw [Qa,rx0,Yo]
 have c1:W0.cell? ⟨w.heap.size,1,none⟩=some (.int .i64 a.idle):=by rw [Qa,rx0,Z4]
 cases h1:decide (0≤a.id)
 ·have h1':=of_decide_eq_false h1;have HN:=Xh (Z6 (a:=a) (by unfold Yg;rw [h1];rfl));go_wp2;go_ret;exact⟨Qj HN.out.symm,g0⟩
 have h1':=of_decide_eq_true h1
 cases h2:decide (a.id<6)
 ·have h2':=of_decide_eq_false h2;have HN:=Xh (Z6 (a:=a) (by unfold Yg;rw [h2];simp));go_wp2;go_ret;exact⟨Qj HN.out.symm,g0⟩
 have h2':=of_decide_eq_true h2
 cases h3:decide (0≤a.idle)
 ·have h3':=of_decide_eq_false h3;have HN:=Xh (Z6 (a:=a) (by unfold Yg;rw [h3];simp));go_wp2;go_ret;exact⟨Qj HN.out.symm,g0⟩
 have h3':=of_decide_eq_true h3
 cases h4:decide (a.idle≤1099511627776)
 ·have h4':=of_decide_eq_false h4;have HN:=Xh (Z6 (a:=a) (by unfold Yg;rw [h4];simp));go_wp2;go_ret;exact⟨Qj HN.out.symm,g0⟩
 have h4':=of_decide_eq_true h4;have c66:W0.cell? ⟨w.heap.size,66,none⟩=some (.slice a.p a.xs.length a.c):=by rw [Qa,rx0,Qu]
 cases h5:Zs a.xs
 ·have HN:=Xh (Z6 (a:=a) (by unfold Yg;rw [h5];simp));rw [h5]at HC
  go_wp2_with (go_at_call 77;(with_reducible refine(HC.out _ g0).mono ?_);rintro e w1 ⟨rfl,g1⟩)
  go_ret;exact⟨Qj HN.out.symm,g0.tr g1⟩
 have HH:=Xh (show Yg a=true by unfold Yg;rw [h1,h2,h3,h4,h5];rfl);rw [h5]at HC
 go_wp2_with (go_at_call 77;(with_reducible refine(HC.out _ g0).mono ?_);rintro e w1 ⟨rfl,g1⟩;have rx1:=QK g1 lx0 rx0;have lx1:Lt w.heap.size w1:=Xl lx0 g1.size)
 clear rx0 lx0 c66 c0 c1
 go_loopw [3] (fun q wr=> ∃k:Nat,k≤16∧q= .int .i64 k∧(∀j,j<k→Qdw a j=true)∧Ext w1 wr) (fun q _=>16- (intOf q).toNat)
 case atStart=>exact⟨0,Nat.zero_le _,rfl,fun j hj=>by omega,Ext.rf _⟩
 case round=>
  obtain⟨k,hk,rfl,hA,hE⟩:=hrel;have hR:=QK hE lx1 rx1;have hL:Lt w.heap.size wr:=Xl lx1 hE.size;have hEw:=(g0.tr g1).tr hE
  by_cases hlt:k<16
  ·have hlt':(k:Int)<16:=by omega
   have cp:wr.cell? ⟨w.heap.size,2+k*4+1,none⟩=some (.int .i64 (a.md k).peer):=by
    rw [Qa,hR];unfold agv;rw [QV,if_pos Om];unfold Ag.at
    rw [if_neg Om,if_neg Om,if_pos Om,show(2+k*4+1- 2)/4=k by omega,show(2+k*4+1- 2) % 4=1 by omega];rfl
   have c0:wr.cell? ⟨w.heap.size,0,none⟩=some (.int .i64 a.id):=by rw [Qa,hR,Yo]
   have hfit:2+k*4+4≤67:=by omega
   have HA:=Xh hA;have HE:=Xh hE;have HEW:=Xh hEw;clear hA hE hEw
   cases hm:mdR (a.md k)
   ·have HN:=Xh (QoG k hlt (by unfold Qdw;rw [hm];rfl))
    go_wp2_with (fail)
    refine Qm Kr Kr ?_;(repeat(go_big_quiet_step ((go_at_call 35;exact ZF (Qcm _ _ (HK0.out k hlt))))));refine wpQuiet_nil ?_;intro d
    have HD:=Xh (Qz d);go_wp2;go_ret;exact⟨Qj HN.out.symm,HEW.out.tr HD.out⟩
   cases hp:((a.md k).peer==a.id)
   ·have HB:=Xh (show Qdw a k=true by unfold Qdw;rw [hm];simpa using hp)
    go_wp2_with (fail)
    refine Qm Kr Kr ?_;(repeat(go_big_quiet_step ((go_at_call 35;exact ZF (Qcm _ _ (HK0.out k hlt))))));refine wpQuiet_nil ?_;intro d
    have HD:=Xh (Qz d);generalize later d=W2 at*;go_wp2
    go_roundw
    case rel=>exact⟨k+1,Om,by go_num,fun j hj=>by rcases Nat.lt_or_ge j k with h|h;exact HA.out j h;(obtain rfl:j=k:=by omega);exact HB.out,HE.out.tr HD.out⟩
    case measure=>simp [intOf];omega
   ·have HN:=Xh (QoG k hlt (by unfold Qdw;rw [hm];simpa using hp))
    go_wp2_with (fail)
    refine Qm Kr Kr ?_;(repeat(go_big_quiet_step ((go_at_call 35;exact ZF (Qcm _ _ (HK0.out k hlt))))));refine wpQuiet_nil ?_;intro d
    have HD:=Xh (Qz d);go_wp2;go_ret;exact⟨Qj HN.out.symm,HEW.out.tr HD.out⟩
  ·obtain rfl:k=16:=by omega
   have HM:=Xh hA;have rx2:=hR;have lx2:=hL;have HEW:=Xh hEw;generalize wr=w2 at*;clear hA hE hEw hR hL rx1 lx1;rw [show((16:Nat):Int)=16 from rfl];go_wp2
   go_loopw [4,5] (fun q _ wr=> ∃k:Nat,k≤a.xs.length∧q= .int .i64 k∧(∀j,j<k→ ∀hj:j<a.xs.length,cnA a a.xs[j]=true)∧Ext w2 wr) (fun q _ _=>a.xs.length- (intOf q).toNat)
   case atStart=>exact⟨0,Nat.zero_le _,rfl,fun j hj=>by omega,Ext.rf _⟩
   case round=>
    obtain⟨k,hk,rfl,hA,hE⟩:=hrel;have hR:=QK hE lx2 rx2;have hL:Lt w.heap.size wr:=Xl lx2 hE.size;have hEw:=HEW.out.tr hE;have c66:wr.cell? ⟨w.heap.size,66,none⟩=some (.slice a.p a.xs.length a.c):=by rw [Qa,hR,Qu]
    by_cases hlt:k<a.xs.length
    ·have hlt':(k:Int)<a.xs.length:=by omega
     obtain⟨b,off,hp,hb,d0,d1,d2,d3,d4,d5⟩:=(HSL.out _ hEw) k hlt;have HTZ:=Xh (HTU.out _ (List.getElem_mem hlt));have HMEM:=Xh (List.getElem_mem hlt);obtain⟨o,ho⟩: ∃o:Nat,ofT a.xs[k].t=o:=⟨(ofT a.xs[k].t).toNat,by have:=(QdU a.xs[k].t).1;omega⟩;have ho16:o<16:=by have:=(QdU a.xs[k].t).2;omega
     have HOF:=Xh (fun W=>ho▸QdC a.xs[k].t HTZ.out W);have HCN:=Xh (show cnA a a.xs[k]=((a.md o).kind !=0&&!(a.md o).ret)by unfold cnA;rw [ho];rfl);obtain⟨z,hz⟩: ∃z,a.xs[k]=z:=⟨_,rfl⟩;rw [hz]at d0 d1 d2 d3 d4 d5 HOF HCN HMEM;have HZ:=Xh hz;have HPP:=Xh hp;have lb:Lt b wr:=hb;have hfit:2+o*4+4≤67:=by omega
     have ho':(o:Int)<16:=by omega
     have HA:=Xh hA;have HE:=Xh hE;have HEW2:=Xh hEw;have hlen:((a.xs.length:Nat):Int)≤9223372036854775807:=by omega
     rw [hp]at c66;clear hz ho hp hA hE hEw HTZ d4 d5 hb
     go_upto_region 12 with(go_at_call 33;(with_reducible refine(HOF.out _).mono ?_);rintro e w4 ⟨rfl,g4⟩;have hR4:=QK g4 hL hR;have hL4:Lt w.heap.size w4:=Xl hL g4.size)
     obtain⟨W5,hW⟩: ∃W5,Qe (w4.alloc (.cells #[.int .u8 0,.int .i64 0,.int .i64 0,.bool false] 23)) w4.heap.size 0 (mdv (a.md o))=W5:=⟨_,rfl⟩;have g5:Ext w4 W5:=by rw [←hW];exact Ext.sa _ (Nat.le_refl _) (Ext.al (Ext.rf _) _)
     have r5:Qc W5 w4.heap.size=mdv (a.md o):=by rw [←hW];exact Qq _ _ _ (by rw [Zh,ZU];rfl)
     have c0:W5.cell? ⟨w4.heap.size,0,none⟩=some (.int .u8 (a.md o).kind):=by rw [Qa,r5,QkG]
     have c3:W5.cell? ⟨w4.heap.size,3,none⟩=some (.bool (a.md o).ret):=by rw [Qa,r5,QkH]
     have HE6:=Xh (HEW2.out.tr (g4.tr g5));have HG6:=Xh (HE.out.tr (g4.tr g5));rw [hW];clear hW g4 g5 r5 hR4 hL4 hR d0 d1 d2 d3 c66;generalize w4.heap.size=M at*
     cases e0:((a.md o).kind==0)
     ·cases e3:(a.md o).ret
      ·have HB:=Xh (show cnA a z=true by rw [HCN.out];simp_all);go_wp2
       go_roundw
       case rel=>exact⟨k+1,Om,by go_num,fun j hj hjl=>by rcases Nat.lt_or_ge j k with h|h;exact HA.out j h hjl;(obtain rfl:j=k:=by omega);rw [HZ.out];exact HB.out,HG6.out⟩
       case measure=>simp [intOf];omega
      ·have HN:=Xh (QoH z HMEM.out (show cnA a z=false by rw [HCN.out];simp_all));go_wp2;go_ret;exact⟨Qj HN.out.symm,HE6.out⟩
     ·have HN:=Xh (QoH z HMEM.out (show cnA a z=false by rw [HCN.out];simp_all));go_wp2;go_ret;exact⟨Qj HN.out.symm,HE6.out⟩
    ·obtain rfl:k=a.xs.length:=by omega
     have HK:=Xh (show agR a=true from Qua HH.out HM.out fun c hc=>by obtain⟨j,hj,rfl⟩:=List.mem_iff_getElem.1 hc;exact hA j hj hj);have HEE:=Xh hEw;clear hA hE hEw hR;go_wp2;go_ret;exact⟨Qj HK.out.symm,HEE.out⟩
end Go.Proofs.YtpeonbaodnmlnaaGreat
