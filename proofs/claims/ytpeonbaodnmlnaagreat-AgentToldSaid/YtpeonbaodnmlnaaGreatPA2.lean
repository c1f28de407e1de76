/- Lemmas of this claim, put together out of: GA, WB, D1, WD, GB, J1, GC, GX, GD, GE, XV, GF, Z3, GG, GH, GI, GJ, GK, GL, XI, GM. -/
import Derived.Test.YtpeonbaodnmlnaaGreatPA1
import Derived.TacticsIn
import Derived.ScopeJumps
set_option linter.unusedSimpArgs false
set_option linter.unusedVariables false
set_option maxRecDepth 100000
set_option maxHeartbeats 16000000
namespace Go.Proofs.YtpeonbaodnmlnaaGreat
open Go.RowKit
variable{Q:Act→World→Prop}{listed:Array Bool}{after:Array Edge}{E ops:Array Oper}{R:Array Oper→Prop}{args cs tmps:Array Value}{Q':Exit→Act→World→Prop}{b1 bs:List Int}{rest:List Nat}{B B1 B4 B5 N O b7 base fuel i j m' off:Nat}{oi:Oper}{ρ:Operand→Value}{dst:Option Tmp}{P:Program}{pos:String}{tq:TypeId}{a0 a1 a10 a2 a3 a4 a5 a6 a7 a8 a9 u v1 v2:Value}{A A' W w w' w0 w1:World}
def ByR(bs:List Int):Prop:= ∀b∈bs,0≤b∧b<256
theorem ByR.get(h:ByR bs)(k:Nat)(hk:k<bs.length):0≤bs[k]∧bs[k]<256:=h _ (List.getElem_mem hk)
theorem ByR.drop(h:ByR bs)(k:Nat):ByR (bs.drop k):=fun b hb=>h b (List.mem_of_mem_drop hb)
theorem ByR.take(h:ByR bs)(k:Nat):ByR (bs.take k):=fun b hb=>h b (List.mem_of_mem_take hb)
theorem ByR.app{xs:List Int}(h:ByR xs)(h2:ByR bs):ByR (xs++bs):=fun b hb=>by rcases List.mem_append.1 hb with q|q;exact h b q;exact h2 b q
theorem ByR.set(h:ByR bs)(i:Nat)(v:Int)(hv:0≤v∧v<256):ByR (bs.set i v):=fun b hb=>by rcases List.mem_or_eq_of_mem_set hb with q|q;exact h b q;exact q▸hv
theorem ByR.nil:ByR []:=fun _ h=>by cases h
theorem ByR.cons{b:Int}(hb:0≤b∧b<256)(h:ByR bs):ByR (b::bs):=fun x hx=>by rcases List.mem_cons.1 hx with rfl|q;exact hb;exact h x q
theorem ZE(n a:Nat)(h:a<2^n):(BitVec.ofInt n (a:Int)).toNat=a:=by
 rw [BitVec.toNat_ofInt,←Int.natCast_emod,Int.toNat_natCast,Nat.mod_eq_of_lt h]
theorem QaD(k:IntKind)(a b:Nat)(ha:a<2^k.bits)(hb:b<2^k.bits):bits BinOp.or k a b=k.wrap ((a|||b:Nat):Int):=by
 unfold bits;simp only [BitVec.toNat_or];rw [ZE _ _ ha,ZE _ _ hb]
theorem Qcd(k:IntKind)(a b:Nat)(ha:a<2^k.bits)(hb:b<2^k.bits):bits BinOp.and k a b=k.wrap ((a&&&b:Nat):Int):=by
 unfold bits;simp only [BitVec.toNat_and];rw [ZE _ _ ha,ZE _ _ hb]
theorem Q1(x:Int):IntKind.u16.wrap x=x % 65536:=by simp [IntKind.wrap,IntKind.bits,IntKind.signed]
theorem Z9(x:Int):IntKind.u8.wrap x=x % 256:=by simp [IntKind.wrap,IntKind.bits,IntKind.signed]
theorem YA(x:Int):IntKind.u32.wrap x=x % 4294967296:=by simp [IntKind.wrap,IntKind.bits,IntKind.signed]
theorem QaE(x:Int):IntKind.u64.wrap x=x % 18446744073709551616:=by simp [IntKind.wrap,IntKind.bits,IntKind.signed]
theorem QiD(a b n:Nat)(h:b<2^n):(a*2^n)|||b=a*2^n+b:=by
 have:=Nat.shiftLeft_add_eq_or_of_lt h a;rw [Nat.shiftLeft_eq]at this;exact this.symm
theorem Qtu{x y:Int}(h0:0≤x)(h1:x<256)(h2:0≤y)(h3:y<256):bits BinOp.or IntKind.u16 (IntKind.u16.wrap (IntKind.u16.wrap x*256)) (IntKind.u16.wrap y)=x*256+y:=by
 obtain⟨a,rfl⟩:=Int.eq_ofNat_of_zero_le h0;obtain⟨b,rfl⟩:=Int.eq_ofNat_of_zero_le h2
 rw [Q1,Q1,Q1,show((a:Int) % 65536*256) % 65536=((a*2^8:Nat):Int)by omega,show(b:Int) % 65536=(b:Int)by omega,
  QaD _ _ _ (by show a*2^8<2^16;omega) (by show b<2^16;omega),QiD _ _ _ Om,Q1]
 omega
def Q8:List Int→List Int
 | []=> []
 | [a]=> [a*256]
 |a::b::r=>(a*256+b)::Q8 r
theorem J8(a b:Int)(r:List Int):Q8 (a::b::r)=(a*256+b)::Q8 r:=rfl
theorem Yl: ∀bs:List Int,(Q8 bs).length=(bs.length+1)/2
 | []=>rfl
 | [a]=>by simp [Q8]
 |a::b::r=>by rw [J8,List.length_cons,Yl r,List.length_cons,List.length_cons];omega
theorem QbN: ∀(bs:List Int) (i:Nat) (h:2*i+1<bs.length),(Q8 bs)[i]?=some (bs[2*i]*256+bs[2*i+1])
 |a::b::r,0,_=>rfl
 |a::b::r,i+1,h=>by
  rw [J8,List.getElem?_cons_succ,QbN r i (by simp at h;omega)];simp [show 2*(i+1)=2*i+1+1 by omega]
theorem QaF: ∀(bs:List Int) (i:Nat) (h:bs.length=2*i+1),(Q8 bs)[i]?=some (bs[2*i]*256)
 | [a],0,_=>rfl
 |a::b::r,i+1,h=>by
  rw [J8,List.getElem?_cons_succ,QaF r i (by simp at h;omega)];simp [show 2*(i+1)=2*i+1+1 by omega]
 | [],i,h=>by simp at h
 | [a],i+1,h=>by simp at h
 |a::b::r,0,h=>by simp at h
def sh(p:Option Addr)(k:Nat):Option Addr:=p.map fun a=>{a with off:=a.off+k}
theorem QkB(b off k:Nat):sh (some ⟨b,off,none⟩) k=some ⟨b,off+k,none⟩:=rfl
theorem Qny{b n c:Nat}{x y:Int}(w:World)(h0:w.cell? ⟨b,off,none⟩=some (.int .u8 x))(h1:w.cell? ⟨b,off+1,none⟩=some (.int .u8 y))(lb:Lt b w)(hn:2≤n)(x0:0≤x∧x<256)(y0:0≤y∧y<256):
  Calls Tryz.prog 166 #[.slice (some ⟨b,off,none⟩) n c] w fun e w'=>e= .returned (.int .u16 (x*256+y))∧Ext w w':=by
 have hn0:(0:Int)<n:=by omega
 have hn1:(1:Int)<n:=by omega
 have HL:=Xh (Qtu x0.1 x0.2 y0.1 y0.2);clear x0 y0 hn
 go_enter Tryz.func166,Tryz.ntmps166
 go_upto_region 1 with(fail)
 refine Qm Kr Kr ?_;(repeat(go_big_quiet_step (fail)));refine wpQuiet_nil ?_;intro d
 have hd:=Qz d;go_wp2;go_ret;exact⟨by rw [←HL.out];rfl,hd⟩
theorem QiE{b n c:Nat}{x y:Int}(w:World)(h0:w.cell? ⟨b,off,none⟩=some (.int .u8 x))(h1:w.cell? ⟨b,off+1,none⟩=some (.int .u8 y))(lb:Lt b w)(hn:2≤n)(x0:0≤x∧x<256)(y0:0≤y∧y<256):
  Calls Tryz.prog 176 #[.slice (some ⟨b,off,none⟩) n c] w fun e w'=>e= .returned (.int .u16 (x*256+y))∧Ext w w':=by
 have hn0:(0:Int)<n:=by omega
 have hn1:(1:Int)<n:=by omega
 have HL:=Xh (Qtu x0.1 x0.2 y0.1 y0.2);clear x0 y0 hn
 go_enter Tryz.func176,Tryz.ntmps176
 go_upto_region 1 with(fail)
 refine Qm Kr Kr ?_;(repeat(go_big_quiet_step (fail)));refine wpQuiet_nil ?_;intro d
 have hd:=Qz d;go_wp2;go_ret;exact⟨by rw [←HL.out];rfl,hd⟩
theorem QkC{b n c:Nat}{v:Int}{u0 u1:Value}(w:World)(h0:w.cell? ⟨b,off,none⟩=some u0)(h1:w.cell? ⟨b,off+1,none⟩=some u1)(f0:w.frozen? ⟨b,off,none⟩=false)(f1:w.frozen? ⟨b,off+1,none⟩=false)(hn:2≤n):
  Calls Tryz.prog 210 #[.slice (some ⟨b,off,none⟩) n c,.int .u16 v] w fun e w'=>(∃r,e= .returned r)∧w'=(w.setCell ⟨b,off,none⟩ (.int .u8 (v/256 % 256))).setCell ⟨b,off+1,none⟩ (.int .u8 (v % 256)):=by
 have hn0:(0:Int)<n:=by omega
 have hn1:(1:Int)<n:=by omega
 clear hn
 go_enter Tryz.func210,Tryz.ntmps210
 go_wp2
 go_end0
 simp only [Z9];exact⟨⟨_,rfl⟩,trivial⟩
theorem QlN(p:Option Addr)(n c:Nat)(w:World):
  Calls Tryz.prog 251 #[.slice p n c] w fun e w'=>e= .returned (.func (.func 257) #[] #[.pointer (some ⟨w.heap.size,0,none⟩)])∧w'=w.alloc (.cells #[.slice p n c] 28):=by
 go_enter Tryz.func251,Tryz.ntmps251
 go_wp2;go_ret;exact⟨rfl,rfl⟩
theorem QfY: ∀args w,(callFunc 257 args).run Tryz.prog w= .ok (.enter 257 args) w:=enters_of Tryz.func257 Kr rfl
theorem Qnz{a:Option Addr}{m c:Nat}(h0:w.cell? ⟨B,O,none⟩=some (.slice a m c))(hl:Lt B w){x:Operand}{ty:TypeId}{g:Option (Nat×Bool)}
  (hx:ρ x= .pointer (some ⟨B,O,none⟩)): ∀w',Ext w w'→(execOp ρ ⟨dst,.load 28 x,ty,pos,after,g⟩).run Tryz.prog w'= .ok (.value (.slice a m c)) w':=by
 intro w' hE;have h0:=(hE.cell (p:=⟨B,_,none⟩) hl).trans h0;simp only [execOp,hx];go_simp
theorem QnA{x:Int}(h0:w.cell? ⟨B,O,none⟩=some (.int .u8 x))(hl:Lt B w){q:Operand}{ty:TypeId}{g:Option (Nat×Bool)}
  (hx:ρ q= .pointer (some ⟨B,O,none⟩)): ∀w',Ext w w'→(execOp ρ ⟨dst,.load 5 q,ty,pos,after,g⟩).run Tryz.prog w'= .ok (.value (.int .u8 x)) w':=by
 intro w' hE;have h0:=(hE.cell (p:=⟨B,_,none⟩) hl).trans h0;simp only [execOp,hx];go_simp
theorem Zf{m c:Nat}(i:Nat)(hi:i<m){x y:Operand}{ty:TypeId}{g:Option (Nat×Bool)}
  (hx:ρ x= .slice (some ⟨B,O,none⟩) m c)(hy:ρ y= .int .i64 (i:Nat))(w:World):(execOp ρ ⟨dst,.indexAddr 28 x y,ty,pos,after,g⟩).run Tryz.prog w= .ok (.value (.pointer (some ⟨B,O+i,none⟩))) w:=by
 have hi':(i:Int)<m:=by omega
 simp only [execOp,hx,hy];go_simp
theorem Qg1{x:Int}(hx0:0≤x∧x<256){q:Operand}{ty:TypeId}{g:Option (Nat×Bool)}(hx:ρ q= .int .u8 x)(w:World):
  (execOp ρ ⟨dst,.convert 5 62 q,ty,pos,after,g⟩).run Tryz.prog w= .ok (.value (.int .u16 x)) w:=by
 have e:IntKind.u16.wrap x=x:=by rw [Q1];omega
 simp only [execOp,hx];go_simp
theorem QlO{x:Int}(hx0:0≤x∧x<256)(ρ:Operand→Value)(dst:Option Tmp)(q y:Operand)(r ty:TypeId)(pos:String)(after:Array Edge)(g:Option (Nat×Bool))(hx:ρ q= .int .u16 x)(hy:ρ y= .int .u64 8)(w:World):
  (execOp ρ ⟨dst,.binOp .shl 62 q y 197,ty,pos,after,g⟩).run Tryz.prog w= .ok (.value (.int .u16 (x*256))) w:=by
 have e:IntKind.u16.wrap (x*256)=x*256:=by rw [Q1];omega
 simp only [execOp,hx,hy];go_simp
theorem QnB{x y:Int}(hx0:0≤x∧x<256)(hy0:0≤y∧y<256){q r:Operand}{ty:TypeId}{g:Option (Nat×Bool)}(hx:ρ q= .int .u16 (x*256))(hy:ρ r= .int .u16 y)(w:World):
  (execOp ρ ⟨dst,.binOp .or 62 q r 62,ty,pos,after,g⟩).run Tryz.prog w= .ok (.value (.int .u16 (x*256+y))) w:=by
 have e:=Qtu hx0.1 hx0.2 hy0.1 hy0.2;rw [Q1,Q1,Q1,show x % 65536*256 % 65536=x*256 by omega,show y % 65536=y by omega]at e;simp only [execOp,hx,hy];go_simp
theorem QiF{y:Nat}{R:Result Next}(h:(Instr.yield y #[v1]).run Tryz.prog w=R){x q1:Operand}(tys:Array TypeId){ty:TypeId}{g:Option (Nat×Bool)}
  (hx:ρ x= .func (.yield y) #[] #[])(h1:ρ q1=v1):(execOp ρ ⟨dst,.call {callee:= .value x,args:=#[q1],argTypes:=tys},ty,pos,after,g⟩).run Tryz.prog w=R:=by
 rw [←h];subst h1;simp only [execOp,hx];go_simp
def QnC(w:World)(B:Nat):Nat:=match w.cell? ⟨B,0,none⟩with|some (.slice _ n _)=>n|_=>0
theorem Qg2{n c:Nat}{p:Option Addr}(h:w.cell? ⟨B,0,none⟩=some (.slice p n c)):QnC w B=n:=by unfold QnC;rw [h]
def QkD:List (Nat×List Nat):= [(0,[11]),(1,[2,3,4,5,10,11]),(2,[3,4,5,10,11]),(3,[4,5,10,11]),(4,[5,10,11]),(5,[10,11]),(6,[7,8,9,10,11]),(7,[8,9,10,11]),(8,[9,10,11]),(9,[10,11]),(10,[11])]
def Qsm(ops:Array Oper):Prop:=Region.noSelect ops=true∧(∀k,k<11→okX ops 13 k=true)∧(∀k,k<11→closedB .any ops (lst 13 k)=true)∧(∀k l,(k,l)∈QkD→YO .any ops (k::l)=true)∧Region.ready .any ops (lst 13 11)= [11]∧Region.ready .any ops (lst 13 12)= [12]∧Region.ready .any ops (lst 13 13)= []
theorem Qwa:Qsm ((Tryz.f257.body.bind (Qg 1)).getD #[]):=by
 have h1:((List.range 11).all fun k=>okX ((Tryz.f257.body.bind (Qg 1)).getD #[]) 13 k)=true:=Kr
 have h2:((List.range 11).all fun k=>closedB .any ((Tryz.f257.body.bind (Qg 1)).getD #[]) (lst 13 k))=true:=Kr
 have h3:(QkD.all fun kl=>YO .any ((Tryz.f257.body.bind (Qg 1)).getD #[]) (kl.1::kl.2))=true:=Kr
 exact⟨Kr,fun k hk=>List.all_eq_true.1 h1 k (List.mem_range.2 hk),fun k hk=>List.all_eq_true.1 h2 k (List.mem_range.2 hk),fun k l h=>List.all_eq_true.1 h3 (k,l) h,Kr,Kr,Kr⟩
theorem QiG(n:Nat)(bs:List Int)(p:Option Addr)(c:Nat)(w0 w:World)(Bb:Nat)(U:Nat→Prop)(h0:Ext w0 w)(hb:SlB w0 p bs)(hr:ByR bs)(hl:bs.length≤100000)(hlc:bs.length≤c)
  (hcb:w.cell? ⟨Bb,0,none⟩=some (.slice p bs.length c))(hz:Qt w Bb=(0,0))(lb:Lt Bb w)(nb:w0.heap.size≤Bb)(hU: ∀k,U k→w0.heap.size≤k∧k≠Bb):
  QcC Fence.wide n Tryz.prog 257 #[.pointer (some ⟨Bb,0,none⟩)] (fun x:Int=>#[.int .u16 x]) (fun k=>k=Bb) U (Q8 bs) w:=by
 intro y J Jx W hW hJ hJx hY hJ0;have HJ:=Xh hJ;have HJx:=Xh hJx;have HU:=Xh hU;have HR:=Xh hr;clear hJ hJx hU hr;obtain⟨yfn,ytm,yas,ybo,hY⟩:=hY;have HY:=Xh hY;clear hY;have kb:W.cell? ⟨Bb,0,none⟩=some (.slice p bs.length c):=(hW.cell (p:=⟨Bb,0,none⟩) lb).trans hcb;have kz:Qt W Bb=(0,0):=by unfold Qt;rw [hW.block Bb lb];exact hz
 have lbW:Lt Bb W:=Xl lb hW.size;have h0W:=h0.tr hW;have HB:=Xh hb;clear hcb hz hb;refine callsIn_of_wp Tryz.func257 rfl trivial ?_ rfl;simp only [Tryz.ntmps257,List.size_toArray,List.length_cons,List.length_nil,Nat.reduceAdd,Nat.reduceSub,Array.replicate_succ,Array.replicate_zero,List.push_toArray,List.append_toArray,List.nil_append,List.cons_append];refine wpIn_wide.2 ?_;go_wp2
 go_loopw [3] (fun _ wr=> ∃(i m k:Nat) (P:Option Addr),2*i+m=bs.length∧m≤k∧J i wr∧(0<m→P=sh p (2*i))∧wr.cell? ⟨Bb,0,none⟩=some (.slice P m k)∧Qt wr Bb=(0,0)∧Lt Bb wr∧Ext w0 wr) (fun _ wr=>QnC wr Bb)
 case atStart=>exact⟨0,bs.length,c,p,Om,hlc,hJ0,fun _=>by cases p<;>rfl,kb,kz,lbW,h0W⟩
 case round=>
  clear kb kz lbW h0W hJ0;obtain⟨i,m,q,P,him,hmq,hJi,hPP,kb,kz,lbw,hE⟩:=hrel;have hJI:=Xh hJi;clear hJi;rcases Nat.lt_or_ge 1 m with hlt|hlt
  ·have hlt':(1:Int)<m:=by omega
   obtain⟨b,off,hp,hbl,c0⟩:=(HB.out.ext hE) (2*i) Om;obtain⟨b',off',hp',-,c1⟩:=(HB.out.ext hE) (2*i+1) Om;rw [hp]at hp'
   cases hp'
   rw [hPP Om,hp,QkB]at kb;clear hPP;have HP:=Xh hp;have HX:=Xh (QbN bs i Om);have r0:=HR.out.get (2*i) Om;have r1:=HR.out.get (2*i+1) Om;obtain⟨x,hx⟩: ∃x,bs[2*i]=x:=⟨_,rfl⟩;obtain⟨z,hz⟩: ∃z,bs[2*i+1]=z:=⟨_,rfl⟩;rw [hx]at c0 r0 HX;rw [hz]at c1 r1 HX;obtain⟨O,hO⟩: ∃O,off+2*i=O:=⟨_,rfl⟩;have HO:=Xh hO;rw [hO]at c0 kb;rw [show off+(2*i+1)=O+1 by omega]at c1;have lbb:Lt b wr:=hbl;have f0:=Ql kz 0;have HLN:=Xh (Qg2 kb);clear hx hz hp hO
   go_upto_region 1 with(fail)
   refine(wpIn_wide (n:=n)).1 ?_;refine Qdf 11 Kr ?_;obtain⟨W1,hW1⟩: ∃W1,wr.drew=W1:=⟨_,rfl⟩;have g1:Ext wr W1:=by rw [←hW1];exact Ext.dr (Ext.rf _)
   rw [hW1];clear hW1;have hJ1:J i W1:=HJ.out _ _ _ hJI.out (Mv.of_ext g1);have kb1:=(g1.cell (p:=⟨Bb,0,none⟩) lbw).trans kb;have kz1:Qt W1 Bb=(0,0):=by unfold Qt at kz⊢;rw [g1.block _ lbw];exact kz
   have lbw1:Lt Bb W1:=Xl lbw g1.size;have lb1:Lt b W1:=Xl lbb g1.size;have hE1:=hE.tr g1;have d0:=(g1.cell (p:=⟨b,_,none⟩) lbb).trans c0;have d1:=(g1.cell (p:=⟨b,_,none⟩) lbb).trans c1;clear c0 c1 kb kz f0;refine Qsg (N:=13) (R:=Qsm) (E:=((Tryz.f257.body.bind (Qg 1)).getD #[])) Kr Qwa Kr fun hS=> ?_;refine ZN (N:=13) (k:=0) (l:= [11]) (v:= .func (.yield y) #[] #[]) hS.1 (hS.2.1 0 Dc) (hS.2.2.1 0 Dc) (hS.2.2.2.1 0 [11] Dc) rfl Dc rfl Kr (fun _ _=>by kernel_rfl) ?_;refine ZN (N:=13) (k:=1) (l:= [2,3,4,5,10,11]) (v:= .slice (some ⟨b,O,none⟩) m q) hS.1 (hS.2.1 1 Dc) (hS.2.2.1 1 Dc) (hS.2.2.2.1 1 [2,3,4,5,10,11] Dc) rfl Dc rfl Kr (Qnz kb1 lbw1 Kr) ?_;refine ZN (N:=13) (k:=2) (l:= [3,4,5,10,11]) (v:= .pointer (some ⟨b,O+0,none⟩)) hS.1 (hS.2.1 2 Dc) (hS.2.2.1 2 Dc) (hS.2.2.2.1 2 [3,4,5,10,11] Dc) rfl Dc rfl Kr (fun w' _=>Zf (m:=m) (c:=q) 0 Om Kr Kr w') ?_;refine ZN (N:=13) (k:=3) (l:= [4,5,10,11]) (v:= .int .u8 x) hS.1 (hS.2.1 3 Dc) (hS.2.2.1 3 Dc) (hS.2.2.2.1 3 [4,5,10,11] Dc) rfl Dc rfl Kr (QnA d0 lb1 Kr) ?_;refine ZN (N:=13) (k:=4) (l:= [5,10,11]) (v:= .int .u16 x) hS.1 (hS.2.1 4 Dc) (hS.2.2.1 4 Dc) (hS.2.2.2.1 4 [5,10,11] Dc) rfl Dc rfl Kr (fun w' _=>Qg1 r0 Kr w') ?_;refine ZN (N:=13) (k:=5) (l:= [10,11]) (v:= .int .u16 (x*256)) hS.1 (hS.2.1 5 Dc) (hS.2.2.1 5 Dc) (hS.2.2.2.1 5 [10,11] Dc) rfl Dc rfl Kr (fun w' _=>QlO r0 _ _ _ _ 0 _ _ _ _ Kr Kr w') ?_;refine ZN (N:=13) (k:=6) (l:= [7,8,9,10,11]) (v:= .slice (some ⟨b,O,none⟩) m q) hS.1 (hS.2.1 6 Dc) (hS.2.2.1 6 Dc) (hS.2.2.2.1 6 [7,8,9,10,11] Dc) rfl Dc rfl Kr (Qnz kb1 lbw1 Kr) ?_;refine ZN (N:=13) (k:=7) (l:= [8,9,10,11]) (v:= .pointer (some ⟨b,O+1,none⟩)) hS.1 (hS.2.1 7 Dc) (hS.2.2.1 7 Dc) (hS.2.2.2.1 7 [8,9,10,11] Dc) rfl Dc rfl Kr (fun w' _=>Zf (m:=m) (c:=q) 1 Om Kr Kr w') ?_;refine ZN (N:=13) (k:=8) (l:= [9,10,11]) (v:= .int .u8 z) hS.1 (hS.2.1 8 Dc) (hS.2.2.1 8 Dc) (hS.2.2.2.1 8 [9,10,11] Dc) rfl Dc rfl Kr (QnA d1 lb1 Kr) ?_;refine ZN (N:=13) (k:=9) (l:= [10,11]) (v:= .int .u16 z) hS.1 (hS.2.1 9 Dc) (hS.2.2.1 9 Dc) (hS.2.2.2.1 9 [10,11] Dc) rfl Dc rfl Kr (fun w' _=>Qg1 r1 Kr w') ?_;refine ZN (N:=13) (k:=10) (l:= [11]) (v:= .int .u16 (x*256+z)) hS.1 (hS.2.1 10 Dc) (hS.2.2.1 10 Dc) (hS.2.2.2.1 10 [11] Dc) rfl Dc rfl Kr (fun w' _=>QnB r0 r1 Kr Kr w') ?_;have hrun:(Instr.yield y #[.int .u16 (x*256+z)]).run Tryz.prog W1= .ok (.round y yfn (ytm #[.int .u16 (x*256+z)]) yas ybo) W1:=(HY.out i (x*256+z) W1 hJ1 HX.out).1;have HRD:=Xh (HY.out i (x*256+z) W1 hJ1 HX.out).2;refine Qnh (N:=13) hS.2.2.2.2.1 rfl Kr (QiF hrun _ Kr Kr) HRD.out ?_;rintro e w6 ⟨bb,rfl,hP⟩;refine⟨_,rfl,?_⟩;refine valueR (N:=13) (k:=11+1) (v:= .bool (!bb)) hS.2.2.2.2.2.1 rfl Kr (by cases bb<;>kernel_rfl) ?_;refine doneR hS.2.2.2.2.2.2 ?_;clear hS HRD hrun;go_simp;obtain⟨rfl,hJ6,hm6⟩|⟨rfl,hx6⟩:=hP
   ·have hst:=hm6.same Bb lbw1 (fun h=>by rcases h with h|h;exact(HU.out _ h).2 rfl;unfold Lt at lb;omega);have kb6:w6.cell? ⟨Bb,0,none⟩=some (.slice (some ⟨b,O,none⟩) m q):=by rw [Qa,Qf hst,←Qa];exact kb1
    have kz6:Qt w6 Bb=(0,0):=by unfold Qt at kz1⊢;rw [hst];exact kz1
    have lbw6:Lt Bb w6:=Xl lbw1 hm6.size;have hE6:Ext w0 w6:=Mv.ext_of hE1 hm6 (fun k h=>by rcases h with h|h;exact(HU.out _ h).1;exact Xt h0.size h);have f6:=Ql kz6 0;have HJ6:=Xh hJ6;have hmq2:(2:Int)≤m:=by omega
    have hmq3:(m:Int)≤q:=by omega
    clear hm6 hst hJ6 kb1 kz1 d0 d1;go_wp2;have hmv: ∀v,Mv (fun k=>k=Bb) w6 (w6.setCell ⟨Bb,0,none⟩ v):=fun v=>Mv.st _ (.inl rfl) (Mv.refl _ _);refine⟨⟨i+1,m- 2,q- 2,_,Om,Om,HJ.out _ _ _ HJ6.out (hmv _),?_,World.cell?_setCell_same _ _ _ kb6,by rw [QR];exact kz6,by rw [Zg];exact lbw6,Mv.ext_of hE6 (hmv _) (fun k e=>by rw [e];exact nb)⟩,?_⟩
    ·intro hm;rw [if_neg Om,HP.out,←HO.out,show off+2*i+2=off+2*(i+1)by omega];rfl
    ·rw [Qg2 (World.cell?_setCell_same _ _ _ kb6),HLN.out];omega
   ·go_wp2;refine bodyPost_ret (results_none rfl _ _ _) rfl ?_;exact⟨⟨_,rfl⟩,.inr hx6⟩
  ·have hlt': ¬(1:Int)<m:=by omega
   obtain rfl|rfl:m=0∨m=1:=by omega
   ·have HLN:=Xh (Yl bs);go_wp2
    go_end0
    exact⟨⟨_,rfl⟩,.inl (by rw [HLN.out,show(bs.length+1)/2=i by omega];exact hJI.out)⟩
   ·obtain⟨b,off,hp,hbl,c0⟩:=(HB.out.ext hE) (2*i) Om;rw [hPP Om,hp,QkB]at kb;have r0:=HR.out.get (2*i) Om;have HX:=Xh (QaF bs i Om);obtain⟨x,hx⟩: ∃x,bs[2*i]=x:=⟨_,rfl⟩;rw [hx]at c0 r0 HX;have lbb:Lt b wr:=hbl;have hw1:IntKind.u16.wrap x=x:=by rw [Q1];omega
    have hw2:IntKind.u16.wrap (x*256)=x*256:=by rw [Q1];omega
    have hrun:(Instr.yield y #[.int .u16 (x*256)]).run Tryz.prog wr= .ok (.round y yfn (ytm #[.int .u16 (x*256)]) yas ybo) wr:=(HY.out i (x*256) wr hJI.out HX.out).1;have HRD:=Xh (HY.out i (x*256) wr hJI.out HX.out).2;have HLN:=Xh (show(Q8 bs).length=i+1 by rw [Yl];omega);clear hx hp hPP
    go_upto_region 4 with(fail)
    refine(wpIn_wide (n:=n)).1 ?_
    gi_wp2
    refine⟨(fun h=>by cases h),(HRD.out).mono ?_⟩;rintro e w6 ⟨bb,rfl,hP⟩;clear hrun HRD;obtain⟨rfl,hJ6,hm6⟩|⟨rfl,hx6⟩:=hP
    ·gi_wp2
     refine bodyPost_end (results_none rfl _ _ _) rfl ?_;exact⟨⟨_,rfl⟩,.inl (by rw [HLN.out];exact hJ6)⟩
    ·gi_wp2
     refine bodyPost_end (results_none rfl _ _ _) rfl ?_;exact⟨⟨_,rfl⟩,.inr hx6⟩
def Qd:Value→Nat| .pointer (some a)=>a.off|_=>0
@[go_sem] theorem QuU(a:Addr):Qd (.pointer (some a))=a.off:=rfl
def Fits(o m:Nat)(cs:Array Value):Prop:=o+m≤cs.size
def Qo(cs:Array Value)(n:Nat):Prop:=cs.size=n
def QA(cs:Array Value)(o n:Nat):Array Value:=cs.extract o (o+n)
theorem QC(w:World)(b o e:Nat):w.rangeAt b o ((Qc w b).extract o e).toList:=fun j v hv=>by
 rw [Qa];have:((Qc w b).extract o e)[j]?=some v:=by rw [←Array.getElem?_toList];exact hv
 rw [Array.getElem?_extract]at this
 split at this
 ·exact this
 ·cases this
def Qe(w:World)(b o:Nat)(cs:Array Value):World:=w.setCells b o cs.toList
@[go_sem] theorem QbO(w:World)(b o:Nat)(cs:Array Value):(Qe w b o cs).heap.size=w.heap.size:=(Q7 b _ o w).1
theorem QbP(w:World)(b o:Nat)(cs:Array Value)(k:Nat)(h:k≠b):(Qe w b o cs).heap[k]?=w.heap[k]?:=(Q7 b _ o w).2.1 k h
def ovl(f:Nat→Value)(o m:Nat)(g:Nat→Value):Nat→Value:=fun j=>if o≤j∧j<o+m then g (j- o)else f j
theorem Qdv(w:World)(b o n m:Nat)(f g:Nat→Value)(h:Qc w b=rowv n f)(hm:o+m≤n):Qc (Qe w b o (rowv m g)) b=rowv n (ovl f o m g):=by
 unfold Qe;rw [JJ]
 apply Array.ext_getElem?
 intro i;rw [QdH,h,QV];simp only [Array.length_toList,Q0]
 by_cases hi:i<n
 ·rw [if_pos hi,QV,if_pos hi];unfold ovl
  by_cases hc:o≤i∧i<o+m
  ·rw [if_pos ⟨hc.1,hc.2,hi⟩,if_pos hc,Array.getElem?_toList,QV,if_pos Om]
  ·rw [if_neg (fun e=>hc ⟨e.1,e.2.1⟩),if_neg hc]
 ·rw [if_neg (fun e=>hi e.2.2),if_neg hi,QV,if_neg hi]
theorem ZL(w:World)(b b' o:Nat)(cs:Array Value)(h:b'≠b):Qc (Qe w b o cs) b'=Qc w b':=Qf (QbP w b o cs b' h)
@[go_sem] theorem ZR(w:World)(b b' o:Nat)(cs:Array Value):Qt (Qe w b o cs) b'=Qt w b':=by
 by_cases h:b'=b
 ·subst h;exact(Q7 b' _ o w).2.2.2.2.2
 ·unfold Qt;rw [QbP _ _ _ _ _ h]
@[go_sem] theorem QaG(w:World)(b b' o:Nat)(cs:Array Value):Lt b' (Qe w b o cs)=Lt b' w:=by unfold Lt;rw [QbO]
@[go_sem] theorem QqM(w:World)(b b' o i:Nat)(cs:Array Value):(Qe w b o cs).frozen? ⟨b',i,none⟩=w.frozen? ⟨b',i,none⟩:=by rw [Y5,Y5,ZR]
theorem Ext.sa{w:World}{b o:Nat}(cs:Array Value)(hp:w.heap.size≤b)(h:Ext w W):Ext w (Qe W b o cs):=
 let s:=Q7 b cs.toList o W
 h.trans ⟨s.2.2.1,s.2.2.2.1,s.2.2.2.2.1,by rw [QbO];exact Nat.le_refl _,fun k hk=>QbP W b o cs k Om⟩
theorem Qq(w:World)(b:Nat)(cs:Array Value)(h:(Qc w b).size=cs.size):Qc (Qe w b 0 cs) b=cs:=JN w b cs h
theorem Q9(cs:Array Value)(n:Nat)(h:cs.size=n):QA cs 0 n=cs:=by unfold QA;subst h;simp
theorem Zt{P:Program}{fn:Func}{p:Tmp}{ty:TypeId}{v:Value}(h:fn.results=#[.cell p ty])(tmps:Array Value)(w:World)(g:Nat)
  (hp:tmps.getD p undef= .pointer (some ⟨g,0,none⟩))(hl:(loadVar ty ⟨g,0,none⟩).run P w= .ok v w):(results fn tmps).run P w= .ok v w:=by
 have hp':tmps[p]?.getD undef= .pointer (some ⟨g,0,none⟩):=by simpa using hp
 simp [results,h,hp',asAddr,hl]
theorem QK{w':World}{b:Nat}(h:Ext W w')(hb:Lt b W)(hr:Qc W b=cs):Qc w' b=cs:=by rw [Qf (h.block b hb)];exact hr
theorem QF(cs:Array Value):(Value.agg cs).cells=cs:=rfl
theorem ZG(n:Nat)(f:Nat→Value)(h: ∀i,(f i).oneCell'=true):QM (rowv n f):=by
 unfold QM;rw [Array.all_eq_true];intro i hi;simp [rowv,h]
theorem Za(n:Nat)(f:Nat→Value)(o m:Nat)(h:o+m≤n):QA (rowv n f) o m=rowv m (fun j=>f (o+j)):=by
 unfold QA
 apply Array.ext_getElem?
 intro j;rw [Array.getElem?_extract,Q0,QV,QV]
 by_cases hj:j<m
 ·rw [if_pos Om,if_pos Om,if_pos hj]
 ·rw [if_neg Om,if_neg hj]
@[go_sem ↓ high] theorem Qtv{l:Option Nat}{x:Operand}{g:Option (Nat×Bool)}:Oper.semAt l ρ ⟨dst,.move x,tq,pos,after,g⟩=execOp ρ ⟨dst,.move x,tq,pos,after,g⟩:=Oper.semAt_eq _ _ _ (fun c h=>by cases h)
@[go_sem ↓ high] theorem QqN{l:Option Nat}{x:Operand}{g:Option (Nat×Bool)}:Oper.semAt l ρ ⟨dst,.assign x,tq,pos,after,g⟩=execOp ρ ⟨dst,.assign x,tq,pos,after,g⟩:=Oper.semAt_eq _ _ _ (fun c h=>by cases h)
@[go_sem ↓ high] theorem Qtw{l:Option Nat}{c a b:Operand}{g:Option (Nat×Bool)}:Oper.semAt l ρ ⟨dst,.pick c a b,tq,pos,after,g⟩=execOp ρ ⟨dst,.pick c a b,tq,pos,after,g⟩:=Oper.semAt_eq _ _ _ (fun c h=>by cases h)
@[go_sem ↓ high] theorem Qsn{l:Option Nat}{e:TypeId}{g:Option (Nat×Bool)}:Oper.semAt l ρ ⟨dst,.alloc e,tq,pos,after,g⟩=execOp ρ ⟨dst,.alloc e,tq,pos,after,g⟩:=Oper.semAt_eq _ _ _ (fun c h=>by cases h)
@[go_sem ↓ high] theorem QuV{l:Option Nat}{e:TypeId}{v:Operand}{g:Option (Nat×Bool)}:Oper.semAt l ρ ⟨dst,.box e v,tq,pos,after,g⟩=execOp ρ ⟨dst,.box e v,tq,pos,after,g⟩:=Oper.semAt_eq _ _ _ (fun c h=>by cases h)
@[go_sem ↓ high] theorem Qso{l:Option Nat}{t:TypeId}(p:Array (Nat×Operand)){g:Option (Nat×Bool)}:Oper.semAt l ρ ⟨dst,.build t p,tq,pos,after,g⟩=execOp ρ ⟨dst,.build t p,tq,pos,after,g⟩:=Oper.semAt_eq _ _ _ (fun c h=>by cases h)
@[go_sem ↓ high] theorem QlP{l:Option Nat}{t:TypeId}(n:Nat)(p:Array (Nat×Operand)){g:Option (Nat×Bool)}:Oper.semAt l ρ ⟨dst,.buildSlice t n p,tq,pos,after,g⟩=execOp ρ ⟨dst,.buildSlice t n p,tq,pos,after,g⟩:=Oper.semAt_eq _ _ _ (fun c h=>by cases h)
@[go_sem ↓ high] theorem QqO{l:Option Nat}{t:TypeId}{m k v:Operand}{g:Option (Nat×Bool)}:Oper.semAt l ρ ⟨dst,.insert t m k v,tq,pos,after,g⟩=execOp ρ ⟨dst,.insert t m k v,tq,pos,after,g⟩:=Oper.semAt_eq _ _ _ (fun c h=>by cases h)
@[go_sem ↓ high] theorem Qtx{l:Option Nat}{t:TypeId}{x:Operand}{g:Option (Nat×Bool)}:Oper.semAt l ρ ⟨dst,.load t x,tq,pos,after,g⟩=execOp ρ ⟨dst,.load t x,tq,pos,after,g⟩:=Oper.semAt_eq _ _ _ (fun c h=>by cases h)
@[go_sem ↓ high] theorem Qsp{l:Option Nat}{t:TypeId}{x y:Operand}{g:Option (Nat×Bool)}:Oper.semAt l ρ ⟨dst,.store t x y,tq,pos,after,g⟩=execOp ρ ⟨dst,.store t x y,tq,pos,after,g⟩:=Oper.semAt_eq _ _ _ (fun c h=>by cases h)
@[go_sem ↓ high] theorem QnD{l:Option Nat}{x:Operand}{g:Option (Nat×Bool)}:Oper.semAt l ρ ⟨dst,.nilCheck x,tq,pos,after,g⟩=execOp ρ ⟨dst,.nilCheck x,tq,pos,after,g⟩:=Oper.semAt_eq _ _ _ (fun c h=>by cases h)
@[go_sem ↓ high] theorem Qsq{l:Option Nat}(o:BinOp){t:TypeId}{x y:Operand}{u:TypeId}{g:Option (Nat×Bool)}:Oper.semAt l ρ ⟨dst,.binOp o t x y u,tq,pos,after,g⟩=execOp ρ ⟨dst,.binOp o t x y u,tq,pos,after,g⟩:=Oper.semAt_eq _ _ _ (fun c h=>by cases h)
@[go_sem ↓ high] theorem Qty{l:Option Nat}(o:UnOp){t:TypeId}{x:Operand}{g:Option (Nat×Bool)}:Oper.semAt l ρ ⟨dst,.unOp o t x,tq,pos,after,g⟩=execOp ρ ⟨dst,.unOp o t x,tq,pos,after,g⟩:=Oper.semAt_eq _ _ _ (fun c h=>by cases h)
@[go_sem ↓ high] theorem Qql{l:Option Nat}{s d:TypeId}{x:Operand}{g:Option (Nat×Bool)}:Oper.semAt l ρ ⟨dst,.convert s d x,tq,pos,after,g⟩=execOp ρ ⟨dst,.convert s d x,tq,pos,after,g⟩:=Oper.semAt_eq _ _ _ (fun c h=>by cases h)
@[go_sem ↓ high] theorem Qio{l:Option Nat}{t:TypeId}{x:Operand}{g:Option (Nat×Bool)}:Oper.semAt l ρ ⟨dst,.makeInterface t x,tq,pos,after,g⟩=execOp ρ ⟨dst,.makeInterface t x,tq,pos,after,g⟩:=Oper.semAt_eq _ _ _ (fun c h=>by cases h)
@[go_sem ↓ high] theorem QnE{l:Option Nat}(f:Fn)(a b:Array Operand){g:Option (Nat×Bool)}:Oper.semAt l ρ ⟨dst,.makeFunc f a b,tq,pos,after,g⟩=execOp ρ ⟨dst,.makeFunc f a b,tq,pos,after,g⟩:=Oper.semAt_eq _ _ _ (fun c h=>by cases h)
@[go_sem ↓ high] theorem Qqm{l:Option Nat}{t:TypeId}(r:Option Operand){g:Option (Nat×Bool)}:Oper.semAt l ρ ⟨dst,.makeMap t r,tq,pos,after,g⟩=execOp ρ ⟨dst,.makeMap t r,tq,pos,after,g⟩:=Oper.semAt_eq _ _ _ (fun c h=>by cases h)
@[go_sem ↓ high] theorem Qm7{l:Option Nat}{t:TypeId}{a b:Operand}{g:Option (Nat×Bool)}:Oper.semAt l ρ ⟨dst,.makeSlice t a b,tq,pos,after,g⟩=execOp ρ ⟨dst,.makeSlice t a b,tq,pos,after,g⟩:=Oper.semAt_eq _ _ _ (fun c h=>by cases h)
@[go_sem ↓ high] theorem Qsr{l:Option Nat}{t:TypeId}{x:Operand}(a b c:Option Operand){g:Option (Nat×Bool)}:Oper.semAt l ρ ⟨dst,.slice t x a b c,tq,pos,after,g⟩=execOp ρ ⟨dst,.slice t x a b c,tq,pos,after,g⟩:=Oper.semAt_eq _ _ _ (fun c h=>by cases h)
@[go_sem ↓ high] theorem Qm8{l:Option Nat}{t:TypeId}{x:Operand}(n:Nat){g:Option (Nat×Bool)}:Oper.semAt l ρ ⟨dst,.fieldAddr t x n,tq,pos,after,g⟩=execOp ρ ⟨dst,.fieldAddr t x n,tq,pos,after,g⟩:=Oper.semAt_eq _ _ _ (fun c h=>by cases h)
@[go_sem ↓ high] theorem Qss{l:Option Nat}{t:TypeId}{x:Operand}(n:Nat){g:Option (Nat×Bool)}:Oper.semAt l ρ ⟨dst,.field t x n,tq,pos,after,g⟩=execOp ρ ⟨dst,.field t x n,tq,pos,after,g⟩:=Oper.semAt_eq _ _ _ (fun c h=>by cases h)
@[go_sem ↓ high] theorem Qm9{l:Option Nat}{t:TypeId}{x i:Operand}{g:Option (Nat×Bool)}:Oper.semAt l ρ ⟨dst,.indexAddr t x i,tq,pos,after,g⟩=execOp ρ ⟨dst,.indexAddr t x i,tq,pos,after,g⟩:=Oper.semAt_eq _ _ _ (fun c h=>by cases h)
@[go_sem ↓ high] theorem Qst{l:Option Nat}{t:TypeId}{x i:Operand}{g:Option (Nat×Bool)}:Oper.semAt l ρ ⟨dst,.index t x i,tq,pos,after,g⟩=execOp ρ ⟨dst,.index t x i,tq,pos,after,g⟩:=Oper.semAt_eq _ _ _ (fun c h=>by cases h)
@[go_sem ↓ high] theorem Qtz{l:Option Nat}(c:Call){g:Option (Nat×Bool)}:Oper.semAt l ρ ⟨dst,.call c,tq,pos,after,g⟩=execOp ρ ⟨dst,.call c,tq,pos,after,g⟩:=Oper.semAt_eq _ _ _ (fun c h=>by cases h)
section
variable {F:Fence} {n:Nat} {P:Program} {ops:Array Oper} {Q:Exit→Act→World→Prop} {a:Act} {w w':World} {rest:List Oper} {o:Oper} {v:Value}
end
structure Mo where
 ph:Int
 cur:Int
 nxt:Int
 gen:Int
 tick:Int
 ver:Int
 deriving DecidableEq
abbrev mo(ph cur nxt gen tick ver:Int):Value:= .agg #[.int .u8 ph,.int .i64 cur,.int .i64 nxt,.int .i64 gen,.int .i64 tick,.int .i64 ver]
abbrev Mo.v(m:Mo):Value:=mo m.ph m.cur m.nxt m.gen m.tick m.ver
def QkE(n:Int):Bool:=decide (0≤n)&&decide (n≤5)
def Qsu(n:Int):Bool:=decide (0≤n)&&decide (n≤1099511627776)
def QyB(m:Mo):Bool:=
 if m.ph=0 then m.cur== -1&&m.nxt== -1
 else if m.ph=1 then QkE m.cur&&m.nxt== -1
 else if m.ph=6 then m.cur== -1&&QkE m.nxt
 else QkE m.cur&&QkE m.nxt&&m.cur !=m.nxt
def QyC(m:Mo):Bool:=decide (0≤m.gen)&&decide (m.gen≤2147483647)&&(decide (1≤m.gen)||m.ph==0)
def Mo.right(m:Mo):Bool:=decide (m.ph<7)&&QyB m&&QyC m&&Qsu m.tick&&Qsu m.ver
structure Sh where
 b:Int
 t:Int
 deriving DecidableEq
def SlS(w:World)(p:Option Addr)(xs:List Sh):Prop:= ∀k,(h:k<xs.length)→ ∃b off,p=some ⟨b,off,none⟩∧b<w.heap.size∧w.cell? ⟨b,off+k*2,none⟩=some (.int .i64 xs[k].b)∧w.cell? ⟨b,off+k*2+1,none⟩=some (.int .i64 xs[k].t)
theorem SlS.ext{p:Option Addr}{xs:List Sh}(h:SlS w p xs)(e:Ext w w'):SlS w' p xs:=fun k hk=>by
 obtain⟨b,off,hp,hb,c0,c1⟩:=h k hk;exact⟨b,off,hp,Xl hb e.size,(e.cell (p:=⟨b,off+k*2,none⟩) hb).trans c0,(e.cell (p:=⟨b,off+k*2+1,none⟩) hb).trans c1⟩
theorem SlS.nil(w:World)(p:Option Addr):SlS w p []:=fun k hk=>by simp at hk
def Mo.at(m:Mo):Nat→Value
 |0=> .int .u8 m.ph
 |1=> .int .i64 m.cur
 |2=> .int .i64 m.nxt
 |3=> .int .i64 m.gen
 |4=> .int .i64 m.tick
 |_=> .int .i64 m.ver
def lm(l:Nat→Mo):Array Value:=rowv 96 fun j=>(l (j/6)).at (j % 6)
theorem QfZ(l:Nat→Mo):(lm l).size=96:=Q0 _ _
theorem QnF(m:Mo)(j:Nat):(m.at j).oneCell'=true:=by
 unfold Mo.at
 split<;>rfl
@[go_sem] theorem QyD(l:Nat→Mo):QM (lm l):=ZG _ _ fun j=>QnF _ _
@[go_sem ↓ high] theorem Qwb(l:Nat→Mo):(Value.agg (lm l)).cells=lm l:=rfl
@[go_sem] theorem Qx0{x o m}:Fits o m (lm x)=(o+m≤96):=by unfold Fits;rw [QfZ]
@[go_sem] theorem QuW{x}:Qo (lm x) 96:=QfZ x
structure Md where
 kind:Int
 peer:Int
 gen:Int
 ret:Bool
 deriving DecidableEq
structure En where
 cur:Int
 prev:Int
 gen:Int
 tick:Int
 deriving DecidableEq
structure Tb where
 ver:Int
 rows:Nat→En
structure Cl where
 has:Bool
 t:Tb
structure Ag where
 id:Int
 idle:Int
 md:Nat→Md
 p:Option Addr
 xs:List Co
 c:Nat
structure Mb where
 bk:Nat→Int
 mx:Nat→Int
structure St where
 mb:Mb
 mv:Nat→Mo
 t:Tb
 set:Nat→Int
 has:Nat→Int
 win:Int
 p:Option Addr
 pl:List Sh
 c:Nat
structure Wd where
 now:Int
 idle:Int
 st:St
 cl:Nat→Cl
 ag:Nat→Ag
 fp:Option Addr
 fl:Nat
 fc:Nat
 tp:Option Addr
 tl:Nat
 tc:Nat
 drops:Nat→Int
def Md.at(m:Md)(j:Nat):Value:=match j with|0=> .int .u8 m.kind|1=> .int .i64 m.peer|2=> .int .i64 m.gen|_=> .bool m.ret
def En.at(e:En)(j:Nat):Value:=match j with|0=> .int .i64 e.cur|1=> .int .i64 e.prev|2=> .int .i64 e.gen|_=> .int .i64 e.tick
def Tb.at(t:Tb)(j:Nat):Value:=if j=0 then .int .i64 t.ver else(t.rows ((j- 1)/4)).at ((j- 1) % 4)
def Cl.at(c:Cl)(j:Nat):Value:=if j=0 then .bool c.has else c.t.at (j- 1)
def Ag.at(a:Ag)(j:Nat):Value:=if j=0 then .int .i64 a.id else if j=1 then .int .i64 a.idle else if j<66 then(a.md ((j- 2)/4)).at ((j- 2) % 4)else .slice a.p a.xs.length a.c
def Mb.at(m:Mb)(j:Nat):Value:=if j<6 then .int .u8 (m.bk j)else .int .u8 (m.mx (j- 6))
def St.at(s:St)(j:Nat):Value:=
 if j<9 then s.mb.at j else if j<105 then(s.mv ((j- 9)/6)).at ((j- 9) % 6)else if j<170 then s.t.at (j- 105)else if j<186 then .int .i64 (s.set (j- 170))
 else if j<189 then .int .i64 (s.has (j- 186))else if j=189 then .int .i64 s.win else .slice s.p s.pl.length s.c
def Wd.at(x:Wd)(j:Nat):Value:=
 if j=0 then .int .i64 x.now else if j=1 then .int .i64 x.idle else if j<193 then x.st.at (j- 2)else if j<391 then(x.cl ((j- 193)/66)).at ((j- 193) % 66)
 else if j<793 then(x.ag ((j- 391)/67)).at ((j- 391) % 67)else if j=793 then .slice x.fp x.fl x.fc else if j=794 then .slice x.tp x.tl x.tc else .int .i64 (x.drops (j- 795))
def mdv(m:Md):Array Value:=rowv 4 m.at
def mdL(l:Nat→Md):Array Value:=rowv 64 fun j=>(l (j/4)).at (j % 4)
def env(e:En):Array Value:=rowv 4 e.at
def enL(l:Nat→En):Array Value:=rowv 64 fun j=>(l (j/4)).at (j % 4)
def tbv(t:Tb):Array Value:=rowv 65 t.at
def clv(c:Cl):Array Value:=rowv 66 c.at
def clL(l:Nat→Cl):Array Value:=rowv 198 fun j=>(l (j/66)).at (j % 66)
def agv(a:Ag):Array Value:=rowv 67 a.at
def agL(l:Nat→Ag):Array Value:=rowv 402 fun j=>(l (j/67)).at (j % 67)
def mbv(m:Mb):Array Value:=rowv 9 m.at
def stv(s:St):Array Value:=rowv 191 s.at
def wdv(x:Wd):Array Value:=rowv 814 x.at
theorem ZU{x}:(mdv x).size=4:=by unfold mdv;rw [Q0]
@[go_sem] theorem Qwc{x o m}:Fits o m (mdv x)=(o+m≤4):=by unfold Fits;rw [ZU]
@[go_sem] theorem QtA{x}:Qo (mdv x) 4:=ZU
@[go_sem ↓ high] theorem QuX{x}:(Value.agg (mdv x)).cells=mdv x:=QF _
theorem QdV{x}:(mdL x).size=64:=by unfold mdL;rw [Q0]
@[go_sem] theorem Qwd{x o m}:Fits o m (mdL x)=(o+m≤64):=by unfold Fits;rw [QdV]
@[go_sem] theorem QtB{x}:Qo (mdL x) 64:=QdV
@[go_sem ↓ high] theorem QuY{x}:(Value.agg (mdL x)).cells=mdL x:=QF _
theorem Qg3{x}:(env x).size=4:=by unfold env;rw [Q0]
@[go_sem] theorem Qwe{x o m}:Fits o m (env x)=(o+m≤4):=by unfold Fits;rw [Qg3]
@[go_sem] theorem QtC{x}:Qo (env x) 4:=Qg3
@[go_sem ↓ high] theorem QuZ{x}:(Value.agg (env x)).cells=env x:=QF _
theorem QdW{x}:(enL x).size=64:=by unfold enL;rw [Q0]
@[go_sem] theorem Qwf{x o m}:Fits o m (enL x)=(o+m≤64):=by unfold Fits;rw [QdW]
@[go_sem] theorem QtD{x}:Qo (enL x) 64:=QdW
@[go_sem ↓ high] theorem Qu0{x}:(Value.agg (enL x)).cells=enL x:=QF _
theorem QdX{x}:(tbv x).size=65:=by unfold tbv;rw [Q0]
@[go_sem] theorem Qwg{x o m}:Fits o m (tbv x)=(o+m≤65):=by unfold Fits;rw [QdX]
@[go_sem] theorem QtE{x}:Qo (tbv x) 65:=QdX
@[go_sem ↓ high] theorem Qu1{x}:(Value.agg (tbv x)).cells=tbv x:=QF _
theorem QdY{x}:(clv x).size=66:=by unfold clv;rw [Q0]
@[go_sem] theorem Qwh{x o m}:Fits o m (clv x)=(o+m≤66):=by unfold Fits;rw [QdY]
@[go_sem] theorem QtF{x}:Qo (clv x) 66:=QdY
@[go_sem ↓ high] theorem Qu2{x}:(Value.agg (clv x)).cells=clv x:=QF _
theorem QdZ{x}:(clL x).size=198:=by unfold clL;rw [Q0]
@[go_sem] theorem Qwi{x o m}:Fits o m (clL x)=(o+m≤198):=by unfold Fits;rw [QdZ]
@[go_sem] theorem QtG{x}:Qo (clL x) 198:=QdZ
@[go_sem ↓ high] theorem Qu3{x}:(Value.agg (clL x)).cells=clL x:=QF _
theorem Qi{x}:(agv x).size=67:=by unfold agv;rw [Q0]
@[go_sem] theorem Qwj{x o m}:Fits o m (agv x)=(o+m≤67):=by unfold Fits;rw [Qi]
@[go_sem] theorem QtH{x}:Qo (agv x) 67:=Qi
@[go_sem ↓ high] theorem Qu4{x}:(Value.agg (agv x)).cells=agv x:=QF _
theorem Qd0{x}:(agL x).size=402:=by unfold agL;rw [Q0]
@[go_sem] theorem Qwk{x o m}:Fits o m (agL x)=(o+m≤402):=by unfold Fits;rw [Qd0]
@[go_sem] theorem QtI{x}:Qo (agL x) 402:=Qd0
@[go_sem ↓ high] theorem Qu5{x}:(Value.agg (agL x)).cells=agL x:=QF _
theorem Qd1{x}:(mbv x).size=9:=by unfold mbv;rw [Q0]
@[go_sem] theorem Qwl{x o m}:Fits o m (mbv x)=(o+m≤9):=by unfold Fits;rw [Qd1]
@[go_sem] theorem QtJ{x}:Qo (mbv x) 9:=Qd1
@[go_sem ↓ high] theorem Qu6{x}:(Value.agg (mbv x)).cells=mbv x:=QF _
theorem Qd2{x}:(stv x).size=191:=by unfold stv;rw [Q0]
@[go_sem] theorem Qwm{x o m}:Fits o m (stv x)=(o+m≤191):=by unfold Fits;rw [Qd2]
@[go_sem] theorem QtK{x}:Qo (stv x) 191:=Qd2
@[go_sem ↓ high] theorem Qu7{x}:(Value.agg (stv x)).cells=stv x:=QF _
theorem Qd3{x}:(wdv x).size=814:=by unfold wdv;rw [Q0]
@[go_sem] theorem Qwn{x o m}:Fits o m (wdv x)=(o+m≤814):=by unfold Fits;rw [Qd3]
@[go_sem] theorem QtL{x}:Qo (wdv x) 814:=Qd3
@[go_sem ↓ high] theorem Qu8{x}:(Value.agg (wdv x)).cells=wdv x:=QF _
theorem QcF(m:Md)(j:Nat):(m.at j).oneCell'=true:=by unfold Md.at;split<;>rfl
theorem QcG(m:En)(j:Nat):(m.at j).oneCell'=true:=by unfold En.at;split<;>rfl
theorem QcH(t:Tb)(j:Nat):(t.at j).oneCell'=true:=by unfold Tb.at;split;rfl;exact QcG _ _
theorem QcI(c:Cl)(j:Nat):(c.at j).oneCell'=true:=by unfold Cl.at;split;rfl;exact QcH _ _
theorem QcJ(a:Ag)(j:Nat):(a.at j).oneCell'=true:=by unfold Ag.at;split;rfl;split;rfl;split;exact QcF _ _;rfl
theorem Qfj(m:Mb)(j:Nat):(m.at j).oneCell'=true:=by unfold Mb.at;split<;>rfl
theorem Qfk(s:St)(j:Nat):(s.at j).oneCell'=true:=by
 unfold St.at;split;exact Qfj _ _;split;exact QnF _ _;split;exact QcH _ _;split;rfl;split;rfl;split<;>rfl
theorem QlQ(x:Wd)(j:Nat):(x.at j).oneCell'=true:=by
 unfold Wd.at;split;rfl;split;rfl;split;exact Qfk _ _;split;exact QcI _ _;split;exact QcJ _ _;split;rfl;split<;>rfl
@[go_sem] theorem QkF{x}:QM (mdv x):=ZG _ _ fun _=>QcF _ _
@[go_sem] theorem Qx1{x}:QM (mdL x):=ZG _ _ fun _=>QcF _ _
@[go_sem] theorem Qx2{x}:QM (env x):=ZG _ _ fun _=>QcG _ _
@[go_sem] theorem Qx3{x}:QM (enL x):=ZG _ _ fun _=>QcG _ _
@[go_sem] theorem Qx4{x}:QM (tbv x):=ZG _ _ fun _=>QcH _ _
@[go_sem] theorem Qx5{x}:QM (clv x):=ZG _ _ fun _=>QcI _ _
@[go_sem] theorem Qx6{x}:QM (clL x):=ZG _ _ fun _=>QcI _ _
@[go_sem] theorem ZS{x}:QM (agv x):=ZG _ _ fun _=>QcJ _ _
@[go_sem] theorem Qx7{x}:QM (agL x):=ZG _ _ fun _=>QcJ _ _
@[go_sem] theorem Qx8{x}:QM (mbv x):=ZG _ _ fun _=>Qfj _ _
@[go_sem] theorem Qx9{x}:QM (stv x):=ZG _ _ fun _=>Qfk _ _
@[go_sem] theorem Qya{x}:QM (wdv x):=ZG _ _ fun _=>QlQ _ _
@[go_sem] theorem Qsv{x}:QA (mdL x) 0 64=mdL x:=Q9 _ _ (QdV)
@[go_sem] theorem Qsw{x}:QA (enL x) 0 64=enL x:=Q9 _ _ (QdW)
@[go_sem] theorem Qsx{x}:QA (tbv x) 0 65=tbv x:=Q9 _ _ (QdX)
@[go_sem] theorem Qsy{x}:QA (clv x) 0 66=clv x:=Q9 _ _ (QdY)
@[go_sem] theorem Qsz{x}:QA (clL x) 0 198=clL x:=Q9 _ _ (QdZ)
@[go_sem] theorem Qdj{x}:QA (agv x) 0 67=agv x:=Q9 _ _ (Qi)
@[go_sem] theorem QsA{x}:QA (agL x) 0 402=agL x:=Q9 _ _ (Qd0)
@[go_sem] theorem QsB{x}:QA (mbv x) 0 9=mbv x:=Q9 _ _ (Qd1)
@[go_sem] theorem QsC{x}:QA (stv x) 0 191=stv x:=Q9 _ _ (Qd2)
@[go_sem] theorem QsD{x}:QA (wdv x) 0 814=wdv x:=Q9 _ _ (Qd3)
@[go_sem] theorem QtM{x}:QA (lm x) 0 96=lm x:=Q9 _ _ (QfZ _)
@[go_sem] theorem Qu9(x:Wd):QA (wdv x) 2 191=stv x.st:=by
 unfold wdv stv;rw [Za _ _ _ _ Om];refine QG _ _ _ fun j hj=> ?_;unfold Wd.at;rw [if_neg Om,if_neg Om,if_pos Om,show 2+j- 2=j by omega]
@[go_sem] theorem Qva(x:Wd):QA (wdv x) 2 9=mbv x.st.mb:=by
 unfold wdv mbv;rw [Za _ _ _ _ Om];refine QG _ _ _ fun j hj=> ?_;unfold Wd.at;rw [if_neg Om,if_neg Om,if_pos Om,show 2+j- 2=j by omega];unfold St.at;rw [if_pos hj]
@[go_sem] theorem Qvb(x:Wd):QA (wdv x) 11 96=lm x.st.mv:=by
 unfold wdv lm;rw [Za _ _ _ _ Om];refine QG _ _ _ fun j hj=> ?_;unfold Wd.at;rw [if_neg Om,if_neg Om,if_pos Om,show 11+j- 2=j+9 by omega];unfold St.at;rw [if_neg Om,if_pos Om,show j+9- 9=j by omega]
@[go_sem] theorem QtN(x:Wd):QA (wdv x) 193 198=clL x.cl:=by
 unfold wdv clL;rw [Za _ _ _ _ Om];refine QG _ _ _ fun j hj=> ?_;unfold Wd.at;rw [if_neg Om,if_neg Om,if_neg Om,if_pos Om,show 193+j- 193=j by omega]
@[go_sem] theorem Qvc(x:Wd)(i:Nat)(hi:i<3):QA (wdv x) (193+i*66) 66=clv (x.cl i):=by
 unfold wdv clv;rw [Za _ _ _ _ Om];refine QG _ _ _ fun j hj=> ?_;unfold Wd.at;rw [if_neg Om,if_neg Om,if_neg Om,if_pos Om,show(193+i*66+j- 193)/66=i by omega,show(193+i*66+j- 193) % 66=j by omega]
@[go_sem] theorem QtO(x:Wd):QA (wdv x) 391 402=agL x.ag:=by
 unfold wdv agL;rw [Za _ _ _ _ Om];refine QG _ _ _ fun j hj=> ?_;unfold Wd.at;rw [if_neg Om,if_neg Om,if_neg Om,if_neg Om,if_pos Om,show 391+j- 391=j by omega]
@[go_sem] theorem Qvd(x:Wd)(i:Nat)(hi:i<6):QA (wdv x) (391+i*67) 67=agv (x.ag i):=by
 unfold wdv agv;rw [Za _ _ _ _ Om];refine QG _ _ _ fun j hj=> ?_;unfold Wd.at;rw [if_neg Om,if_neg Om,if_neg Om,if_neg Om,if_pos Om,show(391+i*67+j- 391)/67=i by omega,show(391+i*67+j- 391) % 67=j by omega]
@[go_sem] theorem Qve(s:St):QA (stv s) 0 9=mbv s.mb:=by
 unfold stv mbv;rw [Za _ _ _ _ Om];refine QG _ _ _ fun j hj=> ?_;unfold St.at;rw [Nat.zero_add,if_pos hj]
@[go_sem] theorem Qvf(s:St):QA (stv s) 9 96=lm s.mv:=by
 unfold stv lm;rw [Za _ _ _ _ Om];refine QG _ _ _ fun j hj=> ?_;unfold St.at;rw [if_neg Om,if_pos Om,show 9+j- 9=j by omega]
@[go_sem] theorem Qwo(s:St):QA (stv s) 105 65=tbv s.t:=by
 unfold stv tbv;rw [Za _ _ _ _ Om];refine QG _ _ _ fun j hj=> ?_;unfold St.at;rw [if_neg Om,if_neg Om,if_pos Om,show 105+j- 105=j by omega]
@[go_sem] theorem QsE(t:Tb):QA (tbv t) 1 64=enL t.rows:=by
 unfold tbv enL;rw [Za _ _ _ _ Om];refine QG _ _ _ fun j hj=> ?_;unfold Tb.at;rw [if_neg Om,show 1+j- 1=j by omega]
@[go_sem] theorem Qwp(c:Cl):QA (clv c) 1 65=tbv c.t:=by
 unfold clv tbv;rw [Za _ _ _ _ Om];refine QG _ _ _ fun j hj=> ?_;unfold Cl.at;rw [if_neg Om,show 1+j- 1=j by omega]
@[go_sem] theorem QtP(l:Nat→Ag)(i:Nat)(hi:i<6):QA (agL l) (i*67) 67=agv (l i):=by
 unfold agL agv;rw [Za _ _ _ _ Om];refine QG _ _ _ fun j hj=> ?_;rw [show(i*67+j)/67=i by omega,show(i*67+j) % 67=j by omega]
@[go_sem] theorem QtQ(l:Nat→Cl)(i:Nat)(hi:i<3):QA (clL l) (i*66) 66=clv (l i):=by
 unfold clL clv;rw [Za _ _ _ _ Om];refine QG _ _ _ fun j hj=> ?_;rw [show(i*66+j)/66=i by omega,show(i*66+j) % 66=j by omega]
@[go_sem] theorem QtR(a:Ag):QA (agv a) 2 64=mdL a.md:=by
 unfold agv mdL;rw [Za _ _ _ _ Om];refine QG _ _ _ fun j hj=> ?_;unfold Ag.at;rw [if_neg Om,if_neg Om,if_pos Om,show 2+j- 2=j by omega]
@[go_sem] theorem Qvg(a:Ag)(k:Nat)(hk:k<16):QA (agv a) (2+k*4) 4=mdv (a.md k):=by
 unfold agv mdv;rw [Za _ _ _ _ Om];refine QG _ _ _ fun j hj=> ?_;unfold Ag.at;rw [if_neg Om,if_neg Om,if_pos Om,show(2+k*4+j- 2)/4=k by omega,show(2+k*4+j- 2) % 4=j by omega]
@[go_sem] theorem Qvh(x:Wd)(i k:Nat)(hi:i<6)(hk:k<16):QA (wdv x) (391+i*67+2+k*4) 4=mdv ((x.ag i).md k):=by
 unfold wdv mdv;rw [Za _ _ _ _ Om];refine QG _ _ _ fun j hj=> ?_;unfold Wd.at;rw [if_neg Om,if_neg Om,if_neg Om,if_neg Om,if_pos Om,show(391+i*67+2+k*4+j- 391)/67=i by omega,show(391+i*67+2+k*4+j- 391) % 67=2+k*4+j by omega];unfold Ag.at;rw [if_neg Om,if_neg Om,if_pos Om,show(2+k*4+j- 2)/4=k by omega,show(2+k*4+j- 2) % 4=j by omega]
@[go_sem] theorem QkG(m:Md):(mdv m)[0]?=some (.int .u8 m.kind):=by
 unfold mdv;rw [QV,if_pos Om];simp [Md.at,En.at,Ag.at]
@[go_sem] theorem QqP(m:Md):(mdv m)[1]?=some (.int .i64 m.peer):=by
 unfold mdv;rw [QV,if_pos Om];simp [Md.at,En.at,Ag.at]
@[go_sem] theorem Qyb(m:Md):(mdv m)[2]?=some (.int .i64 m.gen):=by
 unfold mdv;rw [QV,if_pos Om];simp [Md.at,En.at,Ag.at]
@[go_sem] theorem QkH(m:Md):(mdv m)[3]?=some (.bool m.ret):=by
 unfold mdv;rw [QV,if_pos Om];simp [Md.at,En.at,Ag.at]
@[go_sem] theorem Qyc(e:En):(env e)[0]?=some (.int .i64 e.cur):=by
 unfold env;rw [QV,if_pos Om];simp [Md.at,En.at,Ag.at]
@[go_sem] theorem Qyd(e:En):(env e)[1]?=some (.int .i64 e.prev):=by
 unfold env;rw [QV,if_pos Om];simp [Md.at,En.at,Ag.at]
@[go_sem] theorem Qye(e:En):(env e)[2]?=some (.int .i64 e.gen):=by
 unfold env;rw [QV,if_pos Om];simp [Md.at,En.at,Ag.at]
@[go_sem] theorem Qyf(e:En):(env e)[3]?=some (.int .i64 e.tick):=by
 unfold env;rw [QV,if_pos Om];simp [Md.at,En.at,Ag.at]
@[go_sem] theorem Yo(a:Ag):(agv a)[0]?=some (.int .i64 a.id):=by
 unfold agv;rw [QV,if_pos Om];simp [Md.at,En.at,Ag.at]
@[go_sem] theorem Z4(a:Ag):(agv a)[1]?=some (.int .i64 a.idle):=by
 unfold agv;rw [QV,if_pos Om];simp [Md.at,En.at,Ag.at]
@[go_sem] theorem Qu(a:Ag):(agv a)[66]?=some (.slice a.p a.xs.length a.c):=by
 unfold agv;rw [QV,if_pos Om];simp [Md.at,En.at,Ag.at]
def c16(n:Int):Int:=if n=0 then 0 else(n- 1) % 65535+1
theorem QiH{n:Int}:0≤c16 n∧c16 n<65536:=by unfold c16;split<;>omega
theorem Qfl{n:Int}(h0:0≤n)(h:n<65536):c16 n=n:=by unfold c16;split<;>omega
theorem Qg4{n:Int}(h:65536≤n):c16 (n % 65536+n/65536)=c16 n:=by
 unfold c16;rw [if_neg Om,if_neg Om];omega
theorem QkI{n:Int}(h0:0≤n)(h1:n<18446744073709551616):bits BinOp.and IntKind.u64 n 65535=n % 65536:=by
 obtain⟨a,rfl⟩:=Int.eq_ofNat_of_zero_le h0;rw [show(65535:Int)=((65535:Nat):Int)from rfl,Qcd _ _ _ (by show a<2^64;omega) (by show 65535<2^64;omega),QaE,show(65535:Nat)=2^16- 1 from rfl,Nat.and_two_pow_sub_one_eq_mod];omega
def QaH(l:List Int):Int:=l.foldl (· + ·) 0
theorem QcK(l:List Int)(i:Nat)(x:Int)(h:l[i]?=some x):QaH (l.take (i+1))=QaH (l.take i)+x:=by
 unfold QaH;rw [List.take_add_one,h,List.foldl_append];rfl
theorem JP: ∀(bs:List Int),ByR bs→ ∀x∈Q8 bs,0≤x∧x<65536
 | [],_,x,h=>by cases h
 | [a],hr,x,h=>by
  have:=hr a (by simp);simp [Q8]at h;omega
 |a::b::r,hr,x,h=>by
  rw [J8]at h;rcases List.mem_cons.1 h with rfl|h
  ·have:=hr a (by simp);have:=hr b (by simp);omega
  ·exact JP r (fun y hy=>hr y (by simp [hy])) x h
theorem Qdy(l:List Int)(h: ∀x∈l,0≤x∧x<65536): ∀i,0≤QaH (l.take i)∧QaH (l.take i)≤65535*i
 |0=>by simp [QaH]
 |i+1=>by
  have ih:=Qdy l h i
  cases hx:l[i]? with
  |none=>
   have:l.take (i+1)=l.take i:=by rw [List.take_add_one,hx];simp
   rw [this];omega
  |some x=>
   have hb:=h x (List.mem_of_getElem? hx);rw [QcK l i x hx];omega
def QbQ(bs:List Int):Int:=c16 (QaH (Q8 bs))
theorem Qf0(bs:List Int):0≤QbQ bs∧QbQ bs<65536:=QiH
theorem Qg5(n:Int)(w:World)(h0:0≤n)(h1:n≤4294967295000):Calls Tryz.prog 252 #[.int .u64 n] w fun e w'=>e= .returned (.int .u16 (c16 n))∧w=w':=by
 go_enter Tryz.func252,Tryz.ntmps252
 go_wp2;refine wp_scope_jumps 0 (fun a' w'=>w'=w∧ ∃(m:Int) (u3 u4 u5 u6 u7 u8 u9 u10:Value),a'={tmps:=#[.int .u64 m,undef,.int .u16 0,u3,u4,u5,u6,u7,u8,u9,u10,undef,undef],defers:= []}∧0≤m∧m≤4294967295000∧Hid (c16 m=c16 n)) (fun a' _=>(intOf (a'.tmps.getD 0 undef)).toNat) rfl ?_ ?_
 ·go_wp2;go_step3;rcases Int.lt_or_le n 65536 with hlt|hge
  ·have q1:n/65536=0:=by omega
   have q2:IntKind.u16.wrap n=n:=by rw [Q1];omega
   go_wp2;simp only [Exit.jump];go_ret;exact⟨by rw [show c16 n=n from by exact Qfl h0 hlt];rfl,rfl⟩
  ·have q1: ¬n/65536=0:=by omega
   have q2:bits BinOp.and IntKind.u64 n 65535=n % 65536:=QkI h0 Om;have q3:IntKind.u64.wrap (n % 65536+n/65536)=n % 65536+n/65536:=by rw [QaE];omega
   go_wp2;go_step3;exact⟨rfl,rfl,_,_,_,_,_,_,_,_,_,rfl,Om,Om,Xh (by rw [Qg4 Om])⟩
 ·rintro a' w' ⟨rfl,m,u3,u4,u5,u6,u7,u8,u9,u10,rfl,h0,h1,HC⟩;rcases Int.lt_or_le m 65536 with hlt|hge
  ·have q1:m/65536=0:=by omega
   have q2:IntKind.u16.wrap m=m:=by rw [Q1];omega
   go_wp2;simp only [Exit.jump];go_ret;exact⟨by rw [show c16 n=m from by rw [←HC.out];exact Qfl h0 hlt];rfl,rfl⟩
  ·have q1: ¬m/65536=0:=by omega
   have q2:bits BinOp.and IntKind.u64 m 65535=m % 65536:=QkI h0 Om;have q3:IntKind.u64.wrap (m % 65536+m/65536)=m % 65536+m/65536:=by rw [QaE];omega
   go_wp2;go_step3;exact⟨rfl,⟨rfl,_,_,_,_,_,_,_,_,_,rfl,Om,Om,Xh (by rw [Qg4 Om];exact HC.out)⟩,by simp [intOf];omega⟩
theorem QnG(bs:List Int)(p:Option Addr)(c:Nat)(w:World)(hb:SlB w p bs)(hr:ByR bs)(hl:bs.length≤100000)(hlc:bs.length≤c):
  Calls Tryz.prog 233 #[.slice p bs.length c] w fun e w'=>e= .returned (.int .u16 (QbQ bs))∧Ext w w':=by
 have HR:=Xh hr;have HB:=Xh hb;clear hr hb;refine(callsIn_wide (n:=5)).1 ?_;refine callsIn_of_wp_marks Tryz.func233 rfl trivial ?_ rfl;simp only [Tryz.ntmps233,List.size_toArray,List.length_cons,List.length_nil,Nat.reduceAdd,Nat.reduceSub,Array.replicate_succ,Array.replicate_zero,List.push_toArray,List.append_toArray,List.nil_append,List.cons_append];refine wpIn_wide.2 ?_
 go_wp2_with (go_at_call 251;(with_reducible refine(QlN p bs.length c _).mono ?_);rintro e w2 ⟨rfl,rfl⟩)
 obtain⟨W2,hW2⟩: ∃W2,((w.alloc (Obj.cells #[.int .u64 0] 279)).alloc (Obj.cells #[.slice p bs.length c] 28))=W2:=⟨_,rfl⟩;have g2:Ext w W2:=by rw [←hW2];exact Ext.al (Ext.al (Ext.rf _) _) _
 have hsz:W2.heap.size=w.heap.size+2:=by rw [←hW2];simp
 have cN:W2.cell? ⟨w.heap.size,0,none⟩=some (.int .u64 0):=by rw [←hW2];simp [go_sem]
 have zN:Qt W2 w.heap.size=(0,0):=by rw [←hW2];simp [go_sem]
 have cB:W2.cell? ⟨w.heap.size+1,0,none⟩=some (.slice p bs.length c):=by rw [←hW2];simp [go_sem]
 have zB:Qt W2 (w.heap.size+1)=(0,0):=by rw [←hW2];simp [go_sem]
 rw [hW2];clear hW2;refine(wpIn_wide (n:=5)).1 ?_;refine ZH rfl Om (gf:=257) (lb:=#[.pointer (some ⟨w.heap.size+1,0,none⟩)]) rfl trivial QfY
  (QiG _ bs p c w W2 (w.heap.size+1) (fun k=>k=w.heap.size) g2 HB.out HR.out hl hlc cB zB (by unfold Lt;omega) Om (fun k e=>by subst e;exact⟨Nat.le_refl _,Om⟩))
  (fun k e=>by omega) (fun k e=>by omega) (fun _=>rfl)
  (fun i W=>W.cell? ⟨w.heap.size,0,none⟩=some (.int .u64 (QaH ((Q8 bs).take i)))∧Qt W w.heap.size=(0,0)∧Lt w.heap.size W) (fun _ _=>False)
  (fun i A B h hm=>by
   obtain⟨h1,h2,h3⟩:=h;have hs:=hm.same w.heap.size h3 Om
   exact⟨by rw [Qa,Qf hs,←Qa];exact h1,by unfold Qt at h2⊢;rw [hs];exact h2,Xl h3 hm.size⟩)
  (fun _ _ _ h _=>h) ⟨cN,zN,by unfold Lt;omega⟩
  (fun x a' W=>a'={tmps:=#[.slice p bs.length c,undef,.int .u16 0,.pointer (some ⟨w.heap.size,0,none⟩),.int .u16 x,.slice p bs.length c,.func (.func 257) #[] #[.pointer (some ⟨w.heap.size+1,0,none⟩)],.int .u16 x,undef,undef,undef,undef,undef,undef],defers:= []})
  (fun x a' A B h _=>h) ?assign ?body ?done ?stop
 case assign=>
  rintro y i x W K hsz' hv hI hx hK
  gi_wp2
  exact hK _ _ (Mv.refl _ _) hI rfl
 case body=>
  rintro y i x a' W hyl ⟨rr,hr⟩ hsz' hv ⟨h1,h2,h3⟩ hx rfl;have hN:=Xh (QcK _ i x hx);have hb1:=(Qdy _ (JP bs HR.out) i);have hxb:=JP bs HR.out x (List.mem_of_getElem? hx);have hil:i<(Q8 bs).length:=(List.getElem?_eq_some_iff.1 hx).1;rw [Yl]at hil;obtain⟨S,hS⟩: ∃S,QaH ((Q8 bs).take i)=S:=⟨_,rfl⟩;rw [hS]at h1 hb1 hN;have q1:IntKind.u64.wrap x=x:=by rw [QaE];omega
  have q2:IntKind.u64.wrap (S+x)=S+x:=by rw [QaE];omega
  have f0:=Ql h2 0;clear hS hr hx hv hyl hb1 hxb hil
  gi_wp2
  exact⟨Mv.st _ (.inl (.inl rfl)) (Mv.refl _ _),by rw [hN.out];exact World.cell?_setCell_same _ _ _ h1,by rw [QR];exact h2,by rw [Zg];exact h3⟩
 case done=>
  rintro W ⟨h1,h2,h3⟩ hv hK;rw [List.take_length]at h1;have hb1:=(Qdy _ (JP bs HR.out) (Q8 bs).length);rw [List.take_length,Yl]at hb1;have HS:=Xh (show QbQ bs=c16 (QaH (Q8 bs))from rfl);obtain⟨S,hS⟩: ∃S,QaH (Q8 bs)=S:=⟨_,rfl⟩;rw [hS]at h1 hb1 HS;have hE2:Ext w W:=Mv.ext_of g2 hv (fun k h=>by rcases h with h|h<;>omega);have HK:=Xh hK;have HV:=Xh hE2;have HC:=Xh (fun W=>Qg5 S W hb1.1 Om);clear hS hb1 hv hK hE2 g2
  go_wp2_with (go_at_call 252;(with_reducible refine(HC.out _).mono ?_);rintro e w3 ⟨rfl,rfl⟩)
  refine⟨by simp,.inl ⟨_,_,rfl,run_takeDeferred (by rw [hsz]at HK;exact HK.out),?_⟩⟩;refine⟨_,results_tmp rfl _ _ _,by rw [HS.out];rfl,?_⟩;exact Mv.ext_of HV.out (Mv.put (C:=fun k=>k=w.heap.size+2) _ _ _ rfl) (fun k h=>by omega)
 case stop=>intro _ _ h;exact h.elim
theorem Qwq{S:Int}(h0:0≤S)(h1:S<65536):bits BinOp.xor IntKind.u16 IntKind.u16.max S=65535- S:=by
 obtain⟨a,rfl⟩:=Int.eq_ofNat_of_zero_le h0;show IntKind.u16.wrap ((BitVec.ofInt 16 65535^^^ BitVec.ofInt 16 (a:Int)).toNat:Int)=_;rw [show BitVec.ofInt 16 65535=BitVec.allOnes 16 by decide,BitVec.allOnes_xor,BitVec.toNat_not,ZE _ _ Om,Q1];omega
def Z1(bs:List Int):Int:=65535- QbQ bs
theorem QkJ(bs:List Int):0≤Z1 bs∧Z1 bs<65536:=by have:=Qf0 bs;unfold Z1;omega
theorem QcL(bs:List Int)(p:Option Addr)(c:Nat)(w:World)(hb:SlB w p bs)(hr:ByR bs)(hl:bs.length≤100000)(hlc:bs.length≤c):
  Calls Tryz.prog 211 #[.slice p bs.length c] w fun e w'=>e= .returned (.int .u16 (Z1 bs))∧Ext w w':=by
 have HC:=Xh (QnG bs p c w hb hr hl hlc);have hbd:=Qf0 bs;have HD:=Xh (show Z1 bs=65535- QbQ bs from rfl);obtain⟨S,hS⟩: ∃S,QbQ bs=S:=⟨_,rfl⟩;rw [hS]at HC hbd HD;clear hS hb hr hl hlc
 go_enter Tryz.func211,Tryz.ntmps211
 go_wp2_with (go_at_call 233;(with_reducible refine(HC.out).mono ?_);rintro e w3 ⟨rfl,g3⟩)
 go_ret;exact⟨congrArg (fun x=>Ending.returned (Value.int .u16 x)) ((Qwq hbd.1 hbd.2).trans HD.out.symm),g3⟩
theorem QiI(bs:List Int)(p:Option Addr)(c:Nat)(w:World)(hb:SlB w p bs)(hr:ByR bs)(hl:bs.length≤100000)(hlc:bs.length≤c):
  Calls Tryz.prog 174 #[.slice p bs.length c] w fun e w'=>e= .returned (.bool (QbQ bs==65535))∧Ext w w':=by
 have HC:=Xh (QcL bs p c w hb hr hl hlc);have HD:=Xh (show(Z1 bs==0)=(QbQ bs==65535)by unfold Z1;rw [Bool.eq_iff_iff];simp;omega);clear hb hr hl hlc
 go_enter Tryz.func174,Tryz.ntmps174
 go_wp2_with (go_at_call 211;(with_reducible refine(HC.out).mono ?_);rintro e w3 ⟨rfl,g3⟩)
 go_ret;exact⟨Qj HD.out,g3⟩
theorem Qdk{C:World→Prop}{Q:Act→Prop}{o:Oper}{a:Act}{rest:List Oper}{v:Value}(hw:Region.wanted o (yielded ops a.tmps)=true)(hr: ∀w,(execOp a.eval o).run P w= .ok (.value v) w)(h:wpQuiet P ops C Q rest (a.put o.dst v)):wpQuiet P ops C Q (o::rest) a:=by
 unfold wpQuiet;rw [if_pos hw];exact⟨v,fun w hc=>by unfold Oper.quietAt;rw [hr];exact⟨rfl,rfl⟩,h⟩
theorem SlC.news{a:Addr}{xs:List Co}(hs:SlC w (some a) xs)(e:Ext w W): ∀j u,(flC xs)[j]?=some u→W.cell? (a.add j)=some u:=by
 intro j u hu;have hj:j<xs.length*6:=by have:=(List.getElem?_eq_some_iff.1 hu).1;rwa [Q5]at this
 have hk:j/6<xs.length:=by omega
 obtain⟨b,off,h,hb,c0,c1,c2,c3,c4,c5⟩:=(hs.ext e) (j/6) hk
 cases h
 have e:(⟨b,off,none⟩:Addr).add j=⟨b,off+j,none⟩:=by unfold Addr.add;split<;>simp_all
 have hg:=Qa8 xs (j/6) (j % 6) hk (Nat.mod_lt _ Om);rw [show j/6*6+j % 6=j by omega]at hg;rw [e,←hu,hg];have hm:j % 6<6:=Nat.mod_lt _ Om;generalize hq:j/6=q at*;generalize hr:j % 6=r at*;have hjq:j=q*6+r:=by omega
 subst hjq;obtain rfl|rfl|rfl|rfl|rfl|rfl:r=0∨r=1∨r=2∨r=3∨r=4∨r=5:=by omega
 ·exact c0
 ·exact c1
 ·exact c2
 ·exact c3
 ·exact c4
 ·exact c5
theorem SlC.nil_of{xs:List Co}(hs:SlC w none xs):xs= []:=by
 cases xs with
 |nil=>rfl
 |cons m r=>obtain⟨b,off,h,_⟩:=hs 0 (by simp);cases h
theorem QsF{x y:Co}(h:x≠y){p q:Operand}{ty:TypeId}{g:Option (Nat×Bool)}(hx:ρ p= .agg #[.int .u32 x.t.a,.int .u32 x.t.b,.int .u16 x.t.c,.int .u16 x.t.d,.int .i64 x.s,.int .i64 x.l])(hy:ρ q= .agg #[.int .u32 y.t.a,.int .u32 y.t.b,.int .u16 y.t.c,.int .u16 y.t.d,.int .i64 y.s,.int .i64 y.l])(w:World):
  (execOp ρ ⟨dst,.binOp .neq 66 p q 66,ty,pos,after,g⟩).run Tryz.prog w= .ok (.value (.bool true)) w:=by
 simp only [execOp,hx,hy];go_simp;intro h1 h2 h3 h4 h5 h6
 apply h
 rcases x with⟨⟨_,_,_,_⟩,_,_⟩
 rcases y with⟨⟨_,_,_,_⟩,_,_⟩
 simp_all
theorem SlB.news{a:Addr}(hs:SlB w (some a) bs)(e:Ext w W): ∀j u,(bs.map (Value.int .u8))[j]?=some u→W.cell? (a.add j)=some u:=by
 intro j u hu;rw [List.getElem?_map]at hu;obtain⟨x,hx,rfl⟩:=Option.map_eq_some_iff.1 hu;obtain⟨hj,rfl⟩:=List.getElem?_eq_some_iff.1 hx;obtain⟨b,off,h,hb,hc⟩:=(hs.ext e) j hj
 cases h
 have e:(⟨b,off,none⟩:Addr).add j=⟨b,off+j,none⟩:=by unfold Addr.add;split<;>simp_all
 rw [e];exact hc
theorem SlB.nil_of(hs:SlB w none bs):bs= []:=by
 cases bs with
 |nil=>rfl
 |cons m r=>obtain⟨b,off,h,_⟩:=hs 0 (by simp);cases h
theorem SlB.nil(w:World)(p:Option Addr):SlB w p []:=fun k hk=>absurd hk (Nat.not_lt_zero _)
theorem oneB(bs:List Int): ∀u∈bs.map (Value.int .u8),u.oneCell'=true:=fun u hu=>by obtain⟨z,-,rfl⟩:=List.mem_map.1 hu;rfl
theorem OB.slb{v:Value}(h:OB w base v bs): ∃p c,v= .slice p bs.length c∧bs.length≤c∧SlB w p bs:=by
 rcases Nat.eq_zero_or_pos bs.length with h0|h0
 ·have:bs= []:=List.length_eq_zero_iff.1 h0;subst this;rcases h.2 with⟨rfl,-⟩|⟨g,cap,cur,rfl,-⟩
  ·exact⟨none,0,rfl,Nat.le_refl _,SlB.nil _ _⟩
  ·exact⟨_,cap,rfl,Nat.zero_le _,SlB.nil _ _⟩
 ·rcases h.2 with⟨rfl,h1⟩|⟨g,cap,cur,rfl,hg,hgb,h1,h2,h3,h4⟩
  ·exact⟨none,0,by rw [h1],Om,fun k hk=>by omega⟩
  ·refine⟨_,cap,rfl,h1,fun k hk=>⟨g,0,rfl,(Array.getElem?_eq_some_iff.1 hgb).1,?_⟩⟩;have e1:(List.take (bs.length*1) cur.toList)[k]?=(bs.map (Value.int .u8))[k]?:=by rw [h4]
   rw [List.getElem?_take,if_pos Om,Array.getElem?_toList,List.getElem?_map,List.getElem?_eq_getElem hk]at e1;simp only [World.cell?,hgb,Nat.zero_add];exact e1
theorem OB.new(w:World):OB (w.alloc (.cells #[] 5)) w.heap.size (.slice (some ⟨w.heap.size,0,none⟩) 0 0) []:=⟨rfl,.inr ⟨w.heap.size,0,#[],rfl,Nat.le_refl _,World.alloc_heap_new _ _,Nat.le_refl _,by unfold maxLen;omega,rfl,rfl⟩⟩
theorem OB.zero(w:World)(base:Nat):OB w base (.slice none 0 0) []:=World.ownsRow_nil _ _ _ _
structure Ya(w w':World)(v:Value)(bs:List Int):Prop where
 own:OB w' w.heap.size v bs
 ext:Ext w w'
theorem Ya.sl{v:Value}(h:Ya w w' v bs): ∃p c,v= .slice p bs.length c∧bs.length≤c∧SlB w' p bs:=h.own.slb
theorem Qd4(p:Option Addr)(bs:List Int)(c:Nat)(w:World)(hs:SlB w p bs)(hl:bs.length≤2000):
  Calls Tryz.prog 103 #[.slice p bs.length c] w fun e w'=> ∃v,e= .returned v∧Ya w w' v bs:=by
 obtain⟨i0,hi,hz0,hz1,hz2⟩:=info_parts Yz;have hnil:=fun(W:World) (a:Option Addr) (n c:Nat)=>Lib.run_eql_slice_nil (P:=Tryz.prog) W 28 5 a n c 0 0 Tryz.underlying28
 cases p with
 |none=>
  have h0:bs= []:=hs.nil_of;subst h0
  go_enter Tryz.func103,Tryz.ntmps103
  go_wp2;go_ret;exact⟨_,rfl,OB.zero _ _,Ext.rf _⟩
 |some a=>
  have HN:=Xh (hs.news (Ext.al (Ext.rf w) (.cells #[] 5)));have HO:=Xh (show World.ownsRow _ w.heap.size 5 1 (.slice (some ⟨w.heap.size,0,none⟩) 0 0) 0 []from OB.new w);clear hs
  go_enter Tryz.func103,Tryz.ntmps103
  go_wp2_with (at_builtin;refine wpList_append_own _ rfl _ _ 28 rfl w.heap.size 5 i0 (.int .u8 0) 1 1 Tryz.underlying28 hi hz0 hz1 hz2 rfl Dc _ _ _ rfl HO.out a bs.length c (bs.map (Value.int .u8)) rfl (by simp) HN.out (oneB _) (by unfold maxLen;omega) Om (by simp) ?_;intro v' w2 hown' hgrow _;have HOW:=Xh hown';have HG:=Xh hgrow;clear hown' hgrow)
  go_ret;refine⟨v',rfl,?_,?_⟩
  ·have:=HOW.out;rw [Nat.zero_add,List.nil_append]at this;exact this
  ·exact Mv.ext (C:=fun k=>k=w.heap.size) ((Mv.al _ (Mv.refl _ _)).trans (Mv.of_grown HG.out fun r e=> .inl (by have e':some w.heap.size=some r:=e;injection e' with h;exact h.symm))) (fun k hk e=>by omega)
theorem YB{g n c:Nat}(h:OB w base (.slice (some ⟨g,0,none⟩) n c) bs)(i:Nat)(v:Int)(hn:n=bs.length):OB (w.setCell ⟨g,i,none⟩ (.int .u8 v)) base (.slice (some ⟨g,0,none⟩) n c) (bs.set i v):=by
 subst hn;unfold OB at h⊢;rw [List.length_set,List.map_set];exact QfO h i _
theorem OB.at{v:Value}(h:OB w base v bs)(hn:0<bs.length): ∃g c,v= .slice (some ⟨g,0,none⟩) bs.length c∧bs.length≤c∧base≤g∧g<w.heap.size∧Qt w g=(0,0)∧ ∀k (hk:k<bs.length),w.cell? ⟨g,k,none⟩=some (.int .u8 bs[k]):=by
 rcases h.2 with⟨rfl,h1⟩|⟨g,cap,cur,rfl,hg,hgb,h1,h2,h3,h4⟩
 ·omega
 ·refine⟨g,cap,rfl,h1,hg,(Array.getElem?_eq_some_iff.1 hgb).1,by unfold Qt;rw [hgb],fun k hk=> ?_⟩;have e1:(List.take (bs.length*1) cur.toList)[k]?=(bs.map (Value.int .u8))[k]?:=by rw [h4]
  rw [List.getElem?_take,if_pos Om,Array.getElem?_toList,List.getElem?_map,List.getElem?_eq_getElem hk]at e1;simp only [World.cell?,hgb];exact e1
def QaI(bs:List Int):List Int:=(bs.set 10 0).set 11 0
theorem QcM(bs:List Int):(QaI bs).length=bs.length:=by simp [QaI]
theorem QqQ(h:ByR bs):ByR (QaI bs):=(h.set 10 0 Om).set 11 0 Om
theorem QqR{g q n:Nat}(h:OB w base (.slice (some ⟨g,0,none⟩) bs.length q) bs)(hr:ByR bs)(hl:bs.length≤2000)(hn:n=bs.length)(hq:n≤q):
  Calls Tryz.prog 211 #[.slice (some ⟨g,0,none⟩) n q] w fun e w'=>e= .returned (.int .u16 (Z1 bs))∧Ext w w':=by
 subst hn;obtain⟨p,c,e,-,hs⟩:=h.slb
 cases e
 exact QcL bs _ q w hs hr Om hq
theorem Qg6(p:Option Addr)(bs:List Int)(c:Nat)(w:World)(hs:SlB w p bs)(hr:ByR bs)(hl:bs.length≤2000)(h12:12≤bs.length):
  Calls Tryz.prog 167 #[.slice p bs.length c] w fun e w'=>e= .returned (.int .u16 (Z1 (QaI bs)))∧Ext w w':=by
 have HS:=Xh hs;have HR:=Xh hr;clear hs hr
 go_enter Tryz.func167,Tryz.ntmps167
 go_upto_region 2 with(go_at_call 103;(with_reducible refine(Qd4 p bs c _ HS.out hl).mono ?_);rintro e w1 ⟨v,rfl,⟨o1,g1⟩⟩)
 obtain⟨g,q,rfl,hq,hg,lg,fz,hc⟩:=o1.at Om;have c10:=hc 10 Om;have c11:=hc 11 Om;have f10:=Ql fz 10;have f11:=Ql fz 11;have HO:=Xh o1;have k1:(10:Int)≤bs.length:=by omega
 have k2:(bs.length:Int)≤q:=by omega
 have k3: ¬q=10:=by omega
 have k4:2≤bs.length- 10:=by omega
 clear hc o1 fz;have HG:=Xh g1;have HGB:=Xh hg;clear g1 hg
 go_wp2_with (first|(go_at_call 210;(with_reducible refine(QkC _ c10 c11 f10 f11 k4).mono ?_);rintro e w2 ⟨⟨r,rfl⟩,hw2⟩;have o2:=Xh (show OB w2 w.heap.size (.slice (some ⟨g,0,none⟩) (QaI bs).length q) (QaI bs)by rw [hw2,QcM];exact YB (YB HO.out 10 0 rfl) 11 0 (by simp));have e2:=Xh (show Ext w w2 from Mv.ext_of HG.out (show Mv (fun k=>k=g) w1 w2 by rw [hw2];exact Mv.st _ (.inl rfl) (Mv.st _ (.inl rfl) (Mv.refl _ _))) (fun k h=>by rw [h];exact HGB.out));clear hw2)|(go_at_call 211;(with_reducible refine(QqR (bs:=QaI bs) (n:=bs.length) o2.out (QqQ HR.out) (by rw [QcM];omega) (by rw [QcM]) hq).mono ?_);rintro e w3 ⟨rfl,g3⟩))
 go_ret;exact⟨rfl,e2.out.tr g3⟩
theorem J9{C:Nat→Prop}{k m:Nat}{a:Act}(hm:m|||(1<<<k)=m')(hi:ops[k]?=some oi)(hw:Region.wanted oi (yielded ops a.tmps)=true)
  (he:(execOp a.eval oi).run P w= .ok .skip w1)(hE:Mv C w w1)(H:QN C P .any ops Q fuel (msk N m') (a.put oi.dst undef) w1):Qky C P ops Q fuel N k m a w:=by
 refine⟨?_⟩;unfold Jd;simp only [hi,hw,if_true,he,hm];exact⟨hE,H⟩
def bt(bs:List Int)(k:Nat):Int:=bs.getD k 0
def w16(bs:List Int)(k:Nat):Int:=bt bs k*256+bt bs (k+1)
theorem Qat(h:ByR bs)(k:Nat):0≤bt bs k∧bt bs k<256:=by
 unfold bt;rw [List.getD_eq_getElem?_getD]
 by_cases hk:k<bs.length
 ·rw [List.getElem?_eq_getElem hk];exact h.get k hk
 ·rw [List.getElem?_eq_none Om];decide
theorem ZX(h:ByR bs)(k:Nat):0≤w16 bs k∧w16 bs k<65536:=by
 have:=Qat h k;have:=Qat h (k+1);unfold w16;omega
theorem SlB.bt{b:Nat}(hs:SlB w (some ⟨b,off,none⟩) bs)(k:Nat)(hk:k<bs.length):w.cell? ⟨b,off+k,none⟩=some (.int .u8 (bt bs k))∧Lt b w:=by
 obtain⟨b',off',h,hb,hc⟩:=hs k hk
 cases h
 unfold Go.Proofs.YtpeonbaodnmlnaaGreat.bt;rw [List.getD_eq_getElem?_getD,List.getElem?_eq_getElem hk];exact⟨hc,hb⟩
theorem wordx{b:Nat}(hs:SlB w (some ⟨b,off,none⟩) bs)(hr:ByR bs)(k n c:Nat)(hk:k+2≤bs.length)(hn:2≤n):
  Calls Tryz.prog 166 #[.slice (some ⟨b,off+k,none⟩) n c] w fun e w'=>e= .returned (.int .u16 (w16 bs k))∧Ext w w':=
 Qny w (hs.bt k Om).1 (hs.bt (k+1) Om).1 (hs.bt k Om).2 hn (Qat hr k) (Qat hr (k+1))
theorem QkK{b:Nat}(hs:SlB w (some ⟨b,off,none⟩) bs)(hr:ByR bs)(k n c:Nat)(hk:k+2≤bs.length)(hn:2≤n):
  Calls Tryz.prog 176 #[.slice (some ⟨b,off+k,none⟩) n c] w fun e w'=>e= .returned (.int .u16 (w16 bs k))∧Ext w w':=
 QiE w (hs.bt k Om).1 (hs.bt (k+1) Om).1 (hs.bt k Om).2 hn (Qat hr k) (Qat hr (k+1))
theorem Zz{f:FuncId}{v:Value}(h:Calls P f args w fun e w'=>e= .returned v∧Ext w w'):Calls P f args w fun e w'=> ∃u,e= .returned u∧u=v∧Ext w w':=h.mono fun e w' ⟨h1,h2⟩=>⟨v,h1,rfl,h2⟩
theorem QkL{C:Nat→Prop}{b:Nat}(hs:SlB w (some ⟨b,off,none⟩) bs)(k:Nat)(hk:k<bs.length)(hC: ¬C b){q:Operand}{ty:TypeId}{g:Option (Nat×Bool)}
  (hx:ρ q= .pointer (some ⟨b,off+k,none⟩)): ∀w',Mv C w w'→(execOp ρ ⟨dst,.load 5 q,ty,pos,after,g⟩).run Tryz.prog w'= .ok (.value (.int .u8 (bt bs k))) w':=by
 intro w' hE;obtain⟨h0,hl⟩:=hs.bt k hk;have h1:w'.cell? ⟨b,off+k,none⟩=some (.int .u8 (bt bs k)):=by rw [Qa,Qf (hE.same b hl hC),←Qa];exact h0
 simp only [execOp,hx];go_simp
theorem JF{m c:Nat}(i:Nat)(hi:i<m)(hc:m≤c){x y:Operand}{ty:TypeId}{g:Option (Nat×Bool)}
  (hx:ρ x= .slice (some ⟨B,O,none⟩) m c)(hy:ρ y= .int .i64 (i:Nat))(w:World):(execOp ρ ⟨dst,.slice 28 x (some y) none none,ty,pos,after,g⟩).run Tryz.prog w= .ok (.value (.slice (some ⟨B,O+i,none⟩) (m- i) (c- i))) w:=by
 have h1:(i:Int)≤m:=by omega
 have h2:(m:Int)≤c:=by omega
 have h3: ¬c=i:=by omega
 simp only [execOp,hx,hy];go_simp
theorem Qbb{x:Int}(hx0:0≤x∧x<65536){q:Operand}{ty:TypeId}{g:Option (Nat×Bool)}(hx:ρ q= .int .u16 x)(w:World):
  (execOp ρ ⟨dst,.convert 62 61 q,ty,pos,after,g⟩).run Tryz.prog w= .ok (.value (.int .u32 x)) w:=by
 have e:IntKind.u32.wrap x=x:=by rw [YA];omega
 simp only [execOp,hx];go_simp
theorem Qfm{x:Int}(hx0:0≤x∧x<65536){q y:Operand}{ty:TypeId}{g:Option (Nat×Bool)}(hx:ρ q= .int .u32 x)(hy:ρ y= .int .u64 16)(w:World):
  (execOp ρ ⟨dst,.binOp .shl 61 q y 197,ty,pos,after,g⟩).run Tryz.prog w= .ok (.value (.int .u32 (x*65536))) w:=by
 have e:IntKind.u32.wrap (x*65536)=x*65536:=by rw [YA];omega
 simp only [execOp,hx,hy];go_simp
theorem QtS{x y:Int}(h0:0≤x∧x<65536)(h1:0≤y∧y<65536):bits BinOp.or IntKind.u32 (x*65536) y=x*65536+y:=by
 obtain⟨a,rfl⟩:=Int.eq_ofNat_of_zero_le h0.1;obtain⟨b,rfl⟩:=Int.eq_ofNat_of_zero_le h1.1;rw [show(a:Int)*65536=((a*2^16:Nat):Int)by omega,QaD _ _ _ (by show a*2^16<2^32;omega) (by show b<2^32;omega),QiD _ _ _ Om,YA];omega
theorem Qg7{x y:Int}(hx0:0≤x∧x<65536)(hy0:0≤y∧y<65536){q r:Operand}{ty:TypeId}{g:Option (Nat×Bool)}(hx:ρ q= .int .u32 (x*65536))(hy:ρ r= .int .u32 y)(w:World):
  (execOp ρ ⟨dst,.binOp .or 61 q r 61,ty,pos,after,g⟩).run Tryz.prog w= .ok (.value (.int .u32 (x*65536+y))) w:=by
 have e:=QtS hx0 hy0;simp only [execOp,hx,hy];go_simp
theorem QlR{v:Int}(h0:0≤v)(h1:v<65536):(bits BinOp.andNot IntKind.u16 v 16384==0)=(v==0||v==16384):=by
 obtain⟨a,rfl⟩:=Int.eq_ofNat_of_zero_le h0;have ha:a<2^16:=by omega
 show(IntKind.u16.wrap ((BitVec.ofInt 16 (a:Int)&&& ~~~ BitVec.ofInt 16 16384).toNat:Int)==0)=_;rw [BitVec.toNat_and,ZE _ _ ha,show(~~~ BitVec.ofInt 16 16384).toNat=49151 by decide,Q1];have hle:a&&&49151≤a:=Nat.and_le_left;have hm:(((a&&&49151:Nat):Int) % 65536)=((a&&&49151:Nat):Int):=by omega
 rw [hm,Bool.eq_iff_iff];simp only [beq_iff_eq,Bool.or_eq_true];constructor
 ·intro h;have h':a&&&49151=0:=by omega
  have hb: ∀i,i<16→i≠14→a.testBit i=false:=fun i hi hn=>by
   have:=congrArg (fun x=>x.testBit i) h';simp only [Nat.testBit_and,Nat.zero_testBit]at this;have hk:Nat.testBit 49151 i=true:=by
    obtain rfl|rfl|rfl|rfl|rfl|rfl|rfl|rfl|rfl|rfl|rfl|rfl|rfl|rfl|rfl:i=0∨i=1∨i=2∨i=3∨i=4∨i=5∨i=6∨i=7∨i=8∨i=9∨i=10∨i=11∨i=12∨i=13∨i=15:=by omega
    all_goals rfl
   rw [hk,Bool.and_true]at this;exact this
  have he:a=if a.testBit 14 then 16384 else 0:=by
   refine Nat.eq_of_testBit_eq fun i=> ?_
   by_cases hi:i<16
   ·by_cases h14:i=14
    ·subst h14
     cases a.testBit 14<;>rfl
    ·rw [hb i hi h14]
     cases a.testBit 14
     ·simp
     ·rw [if_pos rfl,show(16384:Nat)=2^14 from rfl,Nat.testBit_two_pow];simp;omega
   ·rw [Nat.testBit_lt_two_pow (Xl ha (Nat.pow_le_pow_right Om Om))]
    cases a.testBit 14
    ·simp
    ·rw [if_pos rfl,show(16384:Nat)=2^14 from rfl,Nat.testBit_two_pow];simp;omega
  split at he<;>omega
 ·rintro(h|h)
  ·obtain rfl:a=0:=by omega
   rfl
  ·obtain rfl:a=16384:=by omega
   rfl
theorem Qf1{b:Nat}{v:Value}(h:Qc w b=cs):Qc (w.setCell ⟨b,i,none⟩ v) b=cs.setIfInBounds i v:=by rw [Yx,if_pos rfl,h]
structure RowZ(W:World)(b:Nat)(cs:Array Value):Prop where
 r:Qc W b=cs
 z:Qt W b=(0,0)
 l:Lt b W
theorem RowZ.ext{V:World}{b:Nat}(h:RowZ W b cs)(e:Ext W V):RowZ V b cs:=⟨QK e h.l h.r,by have:=h.z;unfold Qt at this⊢;rw [e.block b h.l];exact this,Xl h.l e.size⟩
theorem RowZ.set{b:Nat}(h:RowZ W b cs)(i:Nat)(v:Value):RowZ (W.setCell ⟨b,i,none⟩ v) b (cs.setIfInBounds i v):=⟨Qf1 h.r,by rw [QR];exact h.z,by rw [Zg];exact h.l⟩
theorem RowZ.all{b:Nat}(h:RowZ W b cs)(cs':Array Value)(hs:cs.size=cs'.size):RowZ (Qe W b 0 cs') b cs':=⟨Qq _ _ _ (by rw [h.r];exact hs),by rw [ZR];exact h.z,by rw [QaG];exact h.l⟩
theorem RowZ.cell{b:Nat}(h:RowZ W b cs)(i:Nat)(hi:i<cs.size):W.cell? ⟨b,i,none⟩=some cs[i]:=by rw [Qa,h.r,Array.getElem?_eq_getElem hi]
theorem RowZ.frz{b:Nat}(h:RowZ W b cs)(i:Nat):W.frozen? ⟨b,i,none⟩=false:=Ql h.z i
theorem RowZ.new(W:World)(cs:Array Value)(t:TypeId):RowZ (W.alloc (.cells cs t)) W.heap.size cs:=⟨Zh _ _ _ _,by simp [go_sem],by simp [go_sem]⟩
theorem RowZ.mv{B:World}{b:Nat}{C:Nat→Prop}(h:RowZ A b cs)(m:Mv C A B)(hb: ¬C b):RowZ B b cs:=⟨by rw [Qf (m.same b h.l hb)];exact h.r,by have:=h.z;unfold Qt at this⊢;rw [m.same b h.l hb];exact this,Xl h.l m.size⟩
theorem Mv.sa{C:Nat→Prop}{B:World}{b o:Nat}(cs:Array Value)(hb:C b)(h:Mv C A B):Mv C A (Qe B b o cs):=Mv.sc hb _ _ _ _ h
theorem SlB.mv{B:World}{C:Nat→Prop}{b:Nat}(h:SlB A (some ⟨b,off,none⟩) bs)(m:Mv C A B)(hb: ¬C b):SlB B (some ⟨b,off,none⟩) bs:=fun k hk=>by
 obtain⟨b',off',h1,h2,h3⟩:=h k hk
 cases h1
 exact⟨b,off,rfl,Xl h2 m.size,by rw [Qa,Qf (m.same b h2 hb),←Qa];exact h3⟩
theorem SlB.mvn{B:World}{n:Nat}{p:Option Addr}(h:SlB A p bs)(m:Mv (fun k=>k=n) A B)(hb: ∀b off,p=some ⟨b,off,none⟩→b≠n):SlB B p bs:=fun k hk=>by
 obtain⟨b,off,h1,h2,h3⟩:=h k hk;exact⟨b,off,h1,Xl h2 m.size,by rw [Qa,Qf (m.same b h2 (hb b off h1)),←Qa];exact h3⟩
def OBn(w:World)(lo:Nat)(v:Value)(bs:List Int):Prop:= ∃base,lo<base∧OB w base v bs
theorem OBn.ext{lo:Nat}{v:Value}(h:OBn w lo v bs)(e:Ext w w'):OBn w' lo v bs:=by obtain⟨b,h1,h2⟩:=h;exact⟨b,h1,h2.ext e⟩
theorem OBn.mv{lo:Nat}{v:Value}{C:Nat→Prop}(h:OBn w lo v bs)(m:Mv C w w')(hc: ∀k,C k→k≤lo):OBn w' lo v bs:=by
 obtain⟨b,h1,h2⟩:=h;exact⟨b,h1,Qw h2 m fun k hk c=>by have:=hc k c;omega⟩
theorem OBn.ob{lo:Nat}{v:Value}(h:OBn w lo v bs):OB w lo v bs:=by obtain⟨b,h1,h2⟩:=h;exact h2.le Om
theorem OBn.sl{lo:Nat}{v:Value}(h:OBn w lo v bs): ∃p c,v= .slice p bs.length c∧bs.length≤c∧SlB w p bs:=h.ob.slb
theorem Qf2{p:Option Addr}{n c lo:Nat}(hs:SlB w p bs)(hl:bs.length≤2000)(hn:n=bs.length)(hlo:lo<w.heap.size):
  Calls Tryz.prog 103 #[.slice p n c] w fun e w'=> ∃v,e= .returned v∧OBn w' lo v bs∧Ext w w':=by
 subst hn;exact(Qd4 p bs c w hs hl).mono fun e w' ⟨v,h1,h2⟩=>⟨v,h1,⟨w.heap.size,hlo,h2.own⟩,h2.ext⟩
theorem SlB.take{p:Option Addr}(h:SlB w p bs)(n:Nat):SlB w p (bs.take n):=fun k hk=>by
 rw [List.length_take]at hk;obtain⟨b,off,h1,h2,h3⟩:=h k Om;exact⟨b,off,h1,h2,by rw [List.getElem_take];exact h3⟩
theorem SlB.drop{b:Nat}(h:SlB w (some ⟨b,off,none⟩) bs)(n:Nat):SlB w (some ⟨b,off+n,none⟩) (bs.drop n):=fun k hk=>by
 rw [List.length_drop]at hk;obtain⟨b',off',h1,h2,h3⟩:=h (n+k) Om
 cases h1
 exact⟨b,off+n,rfl,h2,by rw [List.getElem_drop,Nat.add_assoc];exact h3⟩
def ZC(b off c lo:Nat):Option Addr:=if c=lo then some ⟨b,off,none⟩else some ⟨b,off+lo,none⟩
theorem SlB.cut{b c:Nat}(h:SlB w (some ⟨b,off,none⟩) bs)(lo:Nat)(hc:bs.length≤c):SlB w (ZC b off c lo) (bs.drop lo):=by
 unfold ZC
 split
 ·rw [List.drop_eq_nil_of_le Om];exact SlB.nil _ _
 ·exact h.drop lo
theorem QnH{m c lo hi:Nat}(h1:lo≤hi)(h2:hi≤c){x y z:Operand}{ty:TypeId}{g:Option (Nat×Bool)}
  (hx:ρ x= .slice (some ⟨B,O,none⟩) m c)(hy:ρ y= .int .i64 (lo:Nat))(hz:ρ z= .int .i64 (hi:Nat))(w:World):(execOp ρ ⟨dst,.slice 28 x (some y) (some z) none,ty,pos,after,g⟩).run Tryz.prog w= .ok (.value (.slice (ZC B O c lo) (hi- lo) (c- lo))) w:=by
 have h3:(lo:Int)≤hi:=by omega
 have h4:(hi:Int)≤c:=by omega
 unfold ZC;simp only [execOp,hx,hy,hz];go_simp
theorem QaJ{m c lo:Nat}(h1:lo≤m)(h2:m≤c){x y:Operand}{ty:TypeId}{g:Option (Nat×Bool)}
  (hx:ρ x= .slice (some ⟨B,O,none⟩) m c)(hy:ρ y= .int .i64 (lo:Nat))(w:World):(execOp ρ ⟨dst,.slice 28 x (some y) none none,ty,pos,after,g⟩).run Tryz.prog w= .ok (.value (.slice (ZC B O c lo) (m- lo) (c- lo))) w:=by
 have h3:(lo:Int)≤m:=by omega
 have h4:(m:Int)≤c:=by omega
 unfold ZC;simp only [execOp,hx,hy];go_simp
theorem Qg8{v:Int}(hc:w.cell? ⟨B,i,none⟩=some u)(hf:w.frozen? ⟨B,i,none⟩=false){x y:Operand}{ty:TypeId}{g:Option (Nat×Bool)}
  (hx:ρ x= .pointer (some ⟨B,i,none⟩))(hy:ρ y= .int .u32 v):(execOp ρ ⟨dst,.store 61 x y,ty,pos,after,g⟩).run Tryz.prog w= .ok .skip (w.setCell ⟨B,i,none⟩ (.int .u32 v)):=by
 simp only [execOp,hx,hy];go_simp
theorem Qg9{v:Int}(hc:w.cell? ⟨B,i,none⟩=some u)(hf:w.frozen? ⟨B,i,none⟩=false){x y:Operand}{ty:TypeId}{g:Option (Nat×Bool)}
  (hx:ρ x= .pointer (some ⟨B,i,none⟩))(hy:ρ y= .int .u16 v):(execOp ρ ⟨dst,.store 62 x y,ty,pos,after,g⟩).run Tryz.prog w= .ok .skip (w.setCell ⟨B,i,none⟩ (.int .u16 v)):=by
 simp only [execOp,hx,hy];go_simp
theorem Qf3{v:Int}(hc:w.cell? ⟨B,i,none⟩=some u)(hf:w.frozen? ⟨B,i,none⟩=false){x y:Operand}{ty:TypeId}{g:Option (Nat×Bool)}
  (hx:ρ x= .pointer (some ⟨B,i,none⟩))(hy:ρ y= .int .u8 v):(execOp ρ ⟨dst,.store 5 x y,ty,pos,after,g⟩).run Tryz.prog w= .ok .skip (w.setCell ⟨B,i,none⟩ (.int .u8 v)):=by
 simp only [execOp,hx,hy];go_simp
theorem Qd5{v:Value}(hc:w.cell? ⟨B,i,none⟩=some u)(hf:w.frozen? ⟨B,i,none⟩=false)(hv: ∃a m c,v= .slice a m c){x y:Operand}{ty:TypeId}{g:Option (Nat×Bool)}
  (hx:ρ x= .pointer (some ⟨B,i,none⟩))(hy:ρ y=v):(execOp ρ ⟨dst,.store 28 x y,ty,pos,after,g⟩).run Tryz.prog w= .ok .skip (w.setCell ⟨B,i,none⟩ v):=by
 obtain⟨a,m,c,rfl⟩:=hv;simp only [execOp,hx,hy];go_simp
theorem OBn.slice{lo:Nat}{v:Value}(h:OBn w lo v bs): ∃a m c,v= .slice a m c:=by obtain⟨p,c,h,-⟩:=h.sl;exact⟨_,_,_,h⟩
theorem Qf4:(Tryz.prog.info? 132).map (·.size)=some 9:=Kr
theorem QlS{b o:Nat}(h:o+9≤(Qc w b).size):(Instr.loadAt 132 (.pointer (some ⟨b,o,none⟩))).run Tryz.prog w= .ok (.agg ((Qc w b).extract o (o+9))) w:=by
 have:=run_loadAt_mid w b o 132 ((Qc w b).extract o (o+9)).toList _ (QC w b o (o+9)) Tryz.underlying132 rfl (by rw [Qf4];simp;omega)
 rwa [Array.toArray_toList]at this
theorem QiJ{b o:Nat}(h:o+9≤(Qc w b).size):(loadVar 132 ⟨b,o,none⟩).run Tryz.prog w= .ok (.agg ((Qc w b).extract o (o+9))) w:=by
 have:=run_loadVar_mid w b o 132 ((Qc w b).extract o (o+9)).toList _ (QC w b o (o+9)) Tryz.underlying132 rfl (by rw [Qf4];simp;omega)
 rwa [Array.toArray_toList]at this
@[go_sem ↓ high] theorem Qce(ρ:Operand→Value)(dst:Option Tmp)(x:Operand)(ty:TypeId)(pos:String)(after:Array Edge)(g:Option (Nat×Bool))(w:World)
  (hx:ρ x= .pointer (some ⟨Qb (ρ x),Qd (ρ x),none⟩))(h:Fits (Qd (ρ x)) 9 (Qc w (Qb (ρ x)))):
  (execOp ρ ⟨dst,.load 132 x,ty,pos,after,g⟩).run Tryz.prog w= .ok (.value (.agg (QA (Qc w (Qb (ρ x))) (Qd (ρ x)) 9))) w:=by
 unfold Fits at h;generalize hB:Qb (ρ x)=B at*;generalize hO:Qd (ρ x)=O at*;simp only [execOp,hx,Sem.run_bind,QlS h,Result.andThen_ok,Sem.run_pure,QA]
@[go_sem ↓ high] theorem QsG{l:Option Nat}{x:Operand}{ty:TypeId}{g:Option (Nat×Bool)}(w:World)
  (hx:ρ x= .pointer (some ⟨Qb (ρ x),Qd (ρ x),none⟩))(h:Fits (Qd (ρ x)) 9 (Qc w (Qb (ρ x)))):
  (Oper.semAt l ρ ⟨dst,.load 132 x,ty,pos,after,g⟩).run Tryz.prog w= .ok (.value (.agg (QA (Qc w (Qb (ρ x))) (Qd (ρ x)) 9))) w:=by rw [Oper.semAt_eq _ _ _ (fun c h=>by cases h)];exact Qce ρ dst x ty pos after g w hx h
@[go_sem ↓ high] theorem Qbq(ρ:Operand→Value)(dst:Option Tmp)(x y:Operand)(ty:TypeId)(pos:String)(after:Array Edge)(g:Option (Nat×Bool))(w:World)
  (hx:ρ x= .pointer (some ⟨Qb (ρ x),Qd (ρ x),none⟩))(hy:ρ y= .agg (ρ y).cells)(hs:Qo (ρ y).cells 9)(h:Fits (Qd (ρ x)) 9 (Qc w (Qb (ρ x))))(hz:Qt w (Qb (ρ x))=(0,0))(h1:QM (ρ y).cells):
  (execOp ρ ⟨dst,.store 132 x y,ty,pos,after,g⟩).run Tryz.prog w= .ok .skip (Qe w (Qb (ρ x)) (Qd (ρ x)) (ρ y).cells):=by
 unfold Fits at h;unfold Qo at hs;generalize hB:Qb (ρ x)=B at*;generalize hO:Qd (ρ x)=O at*;generalize hC:(ρ y).cells=C at*;have hst:(Instr.storeAt 132 (.pointer (some ⟨B,O,none⟩)) (.agg C)).run Tryz.prog w= .ok () (Qe w B O C):=
  run_storeAt_mid w B O 132 C (fun j hj=>⟨by rw [Qa,Array.getElem?_eq_getElem Om];rfl,Ql hz _⟩) (by rw [Qf4,hs]) h1
 simp only [execOp,hx,hy,Sem.run_bind,hst,Result.andThen_ok,Sem.run_pure]
@[go_sem ↓ high] theorem QqS{l:Option Nat}{x y:Operand}{ty:TypeId}{g:Option (Nat×Bool)}(w:World)
  (hx:ρ x= .pointer (some ⟨Qb (ρ x),Qd (ρ x),none⟩))(hy:ρ y= .agg (ρ y).cells)(hs:Qo (ρ y).cells 9)(h:Fits (Qd (ρ x)) 9 (Qc w (Qb (ρ x))))(hz:Qt w (Qb (ρ x))=(0,0))(h1:QM (ρ y).cells):
  (Oper.semAt l ρ ⟨dst,.store 132 x y,ty,pos,after,g⟩).run Tryz.prog w= .ok .skip (Qe w (Qb (ρ x)) (Qd (ρ x)) (ρ y).cells):=by rw [Oper.semAt_eq _ _ _ (fun c h=>by cases h)];exact Qbq ρ dst x y ty pos after g w hx hy hs h hz h1
@[go_sem] theorem Qvi{a b c d e f g h i:Value}{o m:Nat}:Fits o m #[a,b,c,d,e,f,g,h,i]=(o+m≤9):=by unfold Fits;rfl
@[go_sem] theorem QsH{a b c d e f g h i:Value}:Qo #[a,b,c,d,e,f,g,h,i] 9=True:=by unfold Qo;exact eq_true rfl
@[go_sem] theorem Qvj{a b c d e f g h i:Value}:QM #[a,b,c,d,e,f,g,h,i]=(a.oneCell'=true∧b.oneCell'=true∧c.oneCell'=true∧d.oneCell'=true∧e.oneCell'=true∧f.oneCell'=true∧g.oneCell'=true∧h.oneCell'=true∧i.oneCell'=true):=by
 unfold QM;simp [and_assoc]
@[go_sem ↓ high] theorem QtT{a b c d e f g h i:Value}:(Value.agg #[a,b,c,d,e,f,g,h,i]).cells=#[a,b,c,d,e,f,g,h,i]:=QF _
@[go_sem] theorem QsI{k:IntKind}{n:Int}:(Value.int k n).oneCell'=true:=rfl
@[go_sem] theorem Qqn{p:Option Addr}{n c:Nat}:(Value.slice p n c).oneCell'=true:=rfl
@[go_sem] theorem QqT{b:Bool}:(Value.bool b).oneCell'=true:=rfl
@[go_sem] theorem Qvk{a b c d e f g h i:Value}:QA #[a,b,c,d,e,f,g,h,i] 0 9=#[a,b,c,d,e,f,g,h,i]:=rfl
theorem QJ{fn:Func}{p u:Tmp}{ty:TypeId}{v:Value}(h:fn.results=#[.cell p ty,.tmp u])(tmps:Array Value)(w:World)(g:Nat)
  (hp:tmps.getD p undef= .pointer (some ⟨g,0,none⟩))(hl:(loadVar ty ⟨g,0,none⟩).run P w= .ok v w):(results fn tmps).run P w= .ok (.tuple #[v,tmps.getD u undef]) w:=by
 have hp':tmps[p]?.getD undef= .pointer (some ⟨g,0,none⟩):=by simpa using hp
 simp [results,h,hp',asAddr,hl]
def QkM(ops:Array Oper):Prop:=Region.noSelect ops=true∧Qv ops 17 [0,1,2,3,4,6,7,9,10,11,12,13,14] 0=true∧Region.ready .any ops (msk 17 32479)= [5]∧Region.ready .any ops (msk 17 32511)= [8]∧Qv ops 17 [15] 32767=true∧Region.ready .any ops (msk 17 65535)= [16]∧Region.ready .any ops (msk 17 131071)= []
theorem Qha:QkM ((Tryz.f93.body.bind (Qg 15)).getD #[]):=⟨Kr,Kr,Kr,Kr,Kr,Kr,Kr⟩
def QkN(ops:Array Oper):Prop:=Region.noSelect ops=true∧Qv ops 24 [0,1,5,6,10,11,15,16] 0=true∧Region.ready .any ops (msk 24 101475)= [2]∧Qv ops 24 [3,4] 101479=true∧Region.ready .any ops (msk 24 101503)= [7]∧Qv ops 24 [8,9,20] 101631=true∧Region.ready .any ops (msk 24 1150975)= [12]∧Qv ops 24 [13,14] 1155071=true∧Region.ready .any ops (msk 24 1179647)= [17]∧Qv ops 24 [18,19] 1310719=true∧Region.ready .any ops (msk 24 2097151)= [21]∧Qv ops 24 [22] 4194303=true∧Region.ready .any ops (msk 24 8388607)= [23]∧Region.ready .any ops (msk 24 16777215)= []
theorem Qhb:QkN ((Tryz.f93.body.bind (Qg 16)).getD #[]):=⟨Kr,Kr,Kr,Kr,Kr,Kr,Kr,Kr,Kr,Kr,Kr,Kr,Kr,Kr⟩
def QkO(ops:Array Oper):Prop:=Region.noSelect ops=true∧Qv ops 12 [0,1,2,4,5,6] 0=true∧Region.ready .any ops (msk 12 119)= [3]∧Qv ops 12 [8] 127=true∧Region.ready .any ops (msk 12 383)= [7]∧Region.ready .any ops (msk 12 511)= [9]∧Qv ops 12 [10] 1023=true∧Region.ready .any ops (msk 12 2047)= [11]∧Region.ready .any ops (msk 12 4095)= []
theorem Qhc:QkO ((Tryz.f93.body.bind (Qg 17)).getD #[]):=⟨Kr,Kr,Kr,Kr,Kr,Kr,Kr,Kr,Kr⟩
structure He where
 sv:Int
 nu:Int
 fl:Int
 ho:Int
 pr:Int
 sr:Int
 ds:Int
 op:List Int
 pl:List Int
def heV(h:He)(vo vp:Value):Array Value:=#[.int .u8 h.sv,.int .u16 h.nu,.int .u16 h.fl,.int .u8 h.ho,.int .u8 h.pr,.int .u32 h.sr,.int .u32 h.ds,vo,vp]
abbrev QnI:Array Value:=#[.int .u8 0,.int .u16 0,.int .u16 0,.int .u8 0,.int .u8 0,.int .u32 0,.int .u32 0,.slice none 0 0,.slice none 0 0]
def ipN(bs:List Int):Nat:=(bt bs 0).toNat % 16*4
def Zp(bs:List Int):Int:=
 if bs.length<20 then 1 else if bt bs 0/16≠4 then 2 else if ipN bs<20∨bs.length<ipN bs then 3 else if w16 bs 2≠bs.length then 4
 else if w16 bs 10≠Z1 (QaI (bs.take (ipN bs)))then 5 else if w16 bs 6≠0∧w16 bs 6≠16384 then 6 else 0
def ipH(bs:List Int):He:=⟨bt bs 1,w16 bs 4,w16 bs 6,bt bs 8,bt bs 9,w16 bs 12*65536+w16 bs 14,w16 bs 16*65536+w16 bs 18,(bs.take (ipN bs)).drop 20,bs.drop (ipN bs)⟩
inductive QkP(bs:List Int)(w:World):Ending→World→Prop
 |no {w':World} (h:Zp bs≠0) (e:Ext w w'):QkP bs w (.returned (.tuple #[.agg QnI,.int .u8 (Zp bs)])) w'
 |yes {w':World} {vo vp:Value} (h:Zp bs=0) (e:Ext w w') (ho:OB w' w.heap.size vo (ipH bs).op) (hp:OB w' w.heap.size vp (ipH bs).pl):QkP bs w (.returned (.tuple #[.agg (heV (ipH bs) vo vp),.int .u8 0])) w'
theorem Qwr{c:Int}(h0:0≤c)(h1:c<256):bits BinOp.and IntKind.u8 c 15=c % 16:=by
 refine Qfa (fun n=>bits BinOp.and IntKind.u8 n 15=n % 16) ?_ h0 h1
 kernel_rfl
theorem Qaa{b:Nat}(h:Ext W w')(hb:Lt b W)(hz:Qt W b=(0,0)):Qt w' b=(0,0):=by unfold Qt at hz⊢;rw [h.block b hb];exact hz
theorem QnJ(hs:(Qc w B).size=9)(hz:Qt w B=(0,0))(hcs:cs.size=9)(ho:QM cs){x y:Operand}{ty:TypeId}{g:Option (Nat×Bool)}
  (hx:ρ x= .pointer (some ⟨B,0,none⟩))(hy:ρ y= .agg cs):(execOp ρ ⟨dst,.store 132 x y,ty,pos,after,g⟩).run Tryz.prog w= .ok .skip (Qe w B 0 cs):=by
 have e:=Qbq ρ dst x y ty pos after g w (by rw [hx];rfl) (by rw [hy];rfl) (by rw [hy];exact hcs) (by rw [hx];show Fits 0 9 (Qc w B);unfold Fits;omega) (by rw [hx];exact hz) (by rw [hy];exact ho);rw [e,hx,hy];rfl
theorem QaK{g:Nat}(hp:tmps.getD 2 undef= .pointer (some ⟨g,0,none⟩))(hr:Qc w g=cs)(hc:cs.size=9):
  (results Tryz.f93 tmps).run Tryz.prog w= .ok (.tuple #[.agg cs,tmps.getD 3 undef]) w:=
 QJ rfl tmps w g hp (by
  rw [QiJ (by rw [hr,hc];omega),hr]
  rw [show cs.extract 0 (0+9)=cs by rw [←hc];simp])
theorem Qdl(p:Option Addr)(bs:List Int)(c:Nat)(w:World)(hs:SlB w p bs)(hr:ByR bs)(hl:bs.length≤1000)(hlc:bs.length≤c):
  Calls Tryz.prog 93 #[.slice p bs.length c] w fun e w'=>QkP bs w e w':=by
 have HS:=Xh hs;have HR:=Xh hr;clear hs hr
 go_enter Tryz.func93,Tryz.ntmps93
 go_upto_region 1 with(fail)
 obtain⟨W0,hW⟩: ∃W0,w.alloc (.cells #[.int .u8 0,.int .u16 0,.int .u16 0,.int .u8 0,.int .u8 0,.int .u32 0,.int .u32 0,.slice none 0 0,.slice none 0 0] 132)=W0:=⟨_,rfl⟩;have E:Ext w W0:=by rw [←hW];exact Ext.al (Ext.rf _) _
 have hR:Qc W0 w.heap.size=QnI:=by rw [←hW];exact Zh _ _ _ _
 have hZ:Qt W0 w.heap.size=(0,0):=by rw [←hW];simp [go_sem]
 have hL:Lt w.heap.size W0:=by rw [←hW];simp [go_sem]
 rw [hW];clear hW
 go_wp2_with (fail)
 refine Qr 0 rfl ?_;rcases Nat.lt_or_ge bs.length 20 with h20|h20
 ·have h20':(bs.length:Int)<20:=by omega
  have HW:=Xh (show Zp bs=1 by unfold Zp;rw [if_pos h20])
  go_wp2_with (fail)
  go_step3;refine⟨rfl,?_⟩;go_wp2;rw [Exit.noGoto_ret];exact bodyPost_ret (QaK rfl (Qq _ _ _ (by rw [hR])) rfl) rfl (by rw [←HW.out];exact .no (by rw [HW.out];omega) (Ext.sa _ (Nat.le_refl _) E))
 have h20': ¬(bs.length:Int)<20:=by omega
 have HS0:=Xh (HS.out.ext E);obtain⟨b,off,rfl,hbl,-⟩:=HS.out 0 Om;obtain⟨x0,hx0⟩: ∃x,bt bs 0=x:=⟨_,rfl⟩;have c0:=(HS0.out.bt 0 Om).1;have lb:=(HS0.out.bt 0 Om).2;rw [Nat.add_zero,hx0]at c0;have b0:=Qat HR.out 0;rw [hx0]at b0;have k1:bits BinOp.and IntKind.u8 x0 15=x0 % 16:=Qwr b0.1 b0.2;have HX0:=Xh hx0;have z0:(0:Int)<bs.length:=by omega
 have hN:x0 % 16*4=((ipN bs:Nat):Int):=by unfold ipN;rw [hx0];omega
 have hN64:ipN bs≤60:=by unfold ipN;omega
 obtain⟨N,hNN⟩: ∃N,ipN bs=N:=⟨_,rfl⟩;rw [hNN]at hN hN64;have HNN:=Xh hNN;clear hx0 hNN
 go_upto_region 5 with(fail)
 have HN:=Xh hN;clear hN k1
 cases t2:(x0/16==4)
 ·have HW:=Xh (show Zp bs=2 by unfold Zp;rw [if_neg Om,if_pos (by rw [HX0.out];simpa using t2)])
  go_wp2_with (fail)
  go_step3;refine⟨rfl,?_⟩;go_wp2;rw [Exit.noGoto_ret];exact bodyPost_ret (QaK rfl (Qq _ _ _ (by rw [hR])) rfl) rfl (by rw [←HW.out];exact .no (by rw [HW.out];omega) (Ext.sa _ (Nat.le_refl _) E))
 have U2:=Xh (show ¬bt bs 0/16≠4 by rw [HX0.out];simpa using t2)
 by_cases t3:N<20
 ·have t3':(N:Int)<20:=by omega
  have HW:=Xh (show Zp bs=3 by unfold Zp;rw [if_neg Om,if_neg U2.out,HNN.out,if_pos (.inl t3)])
  go_wp2_with (fail)
  go_step3;refine⟨rfl,?_⟩;go_wp2;rw [Exit.noGoto_ret];exact bodyPost_ret (QaK rfl (Qq _ _ _ (by rw [hR])) rfl) rfl (by rw [←HW.out];exact .no (by rw [HW.out];omega) (Ext.sa _ (Nat.le_refl _) E))
 have t3': ¬(N:Int)<20:=by omega
 by_cases t4:bs.length<N
 ·have t4':(bs.length:Int)<N:=by omega
  have HW:=Xh (show Zp bs=3 by unfold Zp;rw [if_neg Om,if_neg U2.out,HNN.out,if_pos (.inr t4)])
  go_wp2_with (fail)
  go_step3;refine⟨rfl,?_⟩;go_wp2;rw [Exit.noGoto_ret];exact bodyPost_ret (QaK rfl (Qq _ _ _ (by rw [hR])) rfl) rfl (by rw [←HW.out];exact .no (by rw [HW.out];omega) (Ext.sa _ (Nat.le_refl _) E))
 have t4': ¬(bs.length:Int)<N:=by omega
 have U3:=Xh (show ¬(ipN bs<20∨bs.length<ipN bs)by rw [HNN.out];omega);obtain⟨v2,hv2⟩: ∃v,w16 bs 2=v:=⟨_,rfl⟩;have b2:=ZX HR.out 2;rw [hv2]at b2;have HV2:=Xh hv2
 go_upto_region 9 with(fail)
 clear hv2 t2 c0 lb;have q2:(2:Int)≤bs.length:=by omega
 have q3:(bs.length:Int)≤c:=by omega
 have q4: ¬c=2:=by omega
 have q6: ¬c=6:=by omega
 have q10: ¬c=10:=by omega
 cases t5:(v2==(bs.length:Int))
 ·have HW:=Xh (show Zp bs=4 by unfold Zp;rw [if_neg Om,if_neg U2.out,if_neg U3.out,if_pos (by rw [HV2.out];simpa using t5)])
  go_wp2_with ((go_at_call 166;(with_reducible refine(wordx HS0.out HR.out 2 _ _ Om Om).mono ?_);rw [HV2.out];rintro e WC ⟨rfl,gC⟩;have hR:=QK gC hL hR;have hZ:=Qaa gC hL hZ;have hL:=Xl hL gC.size;have E:=E.tr gC;have HS0:=Xh (HS0.out.ext gC)))
  go_step3;refine⟨rfl,?_⟩;go_wp2;rw [Exit.noGoto_ret];exact bodyPost_ret (QaK rfl (Qq _ _ _ (by rw [hR])) rfl) rfl (by rw [←HW.out];exact .no (by rw [HW.out];omega) (Ext.sa _ (Nat.le_refl _) E))
 have U4:=Xh (show ¬w16 bs 2≠bs.length by rw [HV2.out];simpa using t5)
 go_upto_region 11 with(go_at_call 166;(with_reducible refine(wordx HS0.out HR.out 2 _ _ Om Om).mono ?_);rw [HV2.out];rintro e WC ⟨rfl,gC⟩;have hR:=QK gC hL hR;have hZ:=Qaa gC hL hZ;have hL:=Xl hL gC.size;have E:=E.tr gC;have HS0:=Xh (HS0.out.ext gC))
 have HST:=Xh (show SlB WC (some ⟨b,off,none⟩) (bs.take N)from HS0.out.take N);have hTL:(bs.take N).length=N:=by rw [List.length_take];omega
 have HCK:=Xh (fun W (hE:Ext WC W)=>(show Calls Tryz.prog 167 #[.slice (some ⟨b,off,none⟩) N c] W fun e w'=>e= .returned (.int .u16 (Z1 (QaI (bs.take N))))∧Ext W w' by
  have:=Qg6 (some ⟨b,off,none⟩) (bs.take N) c W (HST.out.ext hE) (HR.out.take N) Om Om
  rwa [hTL]at this))
 clear hTL t5;have q7:(N:Int)≤bs.length:=by omega
 have q8:(N:Int)≤c:=by omega
 obtain⟨v10,hv10⟩: ∃v,w16 bs 10=v:=⟨_,rfl⟩
 have HW10:=Xh (fun W (hE:Ext WC W)=>(show Calls Tryz.prog 166 #[.slice (some ⟨b,off+10,none⟩) (bs.length- 10) (c- 10)] W fun e w'=>e= .returned (.int .u16 v10)∧Ext W w' by
  rw [←hv10];exact wordx (HS0.out.ext hE) HR.out 10 _ _ Om Om))
 have HV10:=Xh hv10;obtain⟨ck,hck⟩: ∃v,Z1 (QaI (bs.take N))=v:=⟨_,rfl⟩;rw [hck]at HCK;have HK5:=Xh hck;clear hv10 hck;refine Qm Kr Kr ?_;(repeat(go_big_quiet_step (first|(go_at_call 166;exact ZF (HW10.out _ (Qz _)))|(go_at_call 167;exact ZF (HCK.out _ (Qz _))))));refine wpQuiet_nil ?_;intro d
 have gC:=Qz d;have hR:=QK gC hL hR;have hZ:=Qaa gC hL hZ;have hL:=Xl hL gC.size;have E:=E.tr gC;have HS0:=Xh (HS0.out.ext gC);generalize later d=WL at*
 cases t6:(v10==ck)
 ·have HW:=Xh (show Zp bs=5 by unfold Zp;rw [if_neg Om,if_neg U2.out,if_neg U3.out,if_neg U4.out,HNN.out,if_pos (by rw [HV10.out,HK5.out];simpa using t6)])
  go_wp2_with (fail)
  go_step3;refine⟨rfl,?_⟩;go_wp2;rw [Exit.noGoto_ret];exact bodyPost_ret (QaK rfl (Qq _ _ _ (by rw [hR])) rfl) rfl (by rw [←HW.out];exact .no (by rw [HW.out];omega) (Ext.sa _ (Nat.le_refl _) E))
 have U5:=Xh (show ¬w16 bs 10≠Z1 (QaI (bs.take (ipN bs)))by rw [HNN.out,HV10.out,HK5.out];simpa using t6);obtain⟨v6,hv6⟩: ∃v,w16 bs 6=v:=⟨_,rfl⟩;have b6:=ZX HR.out 6;rw [hv6]at b6;have HV6:=Xh hv6;have HAN:=Xh (QlR b6.1 b6.2);obtain⟨q,hq⟩: ∃q,bits BinOp.andNot IntKind.u16 v6 16384=q:=⟨_,rfl⟩;rw [hq]at HAN
 go_upto_region 13 with(fail)
 clear t6 hv6
 cases t7:(q==0)
 ·have HW:=Xh (show Zp bs=6 by
   unfold Zp;rw [if_neg Om,if_neg U2.out,if_neg U3.out,if_neg U4.out,if_neg U5.out,HV6.out,if_pos];have h:=HAN.out;rw [t7]at h;have h2:=(Bool.or_eq_false_iff.1 h.symm)
   exact⟨by simpa using h2.1,by simpa using h2.2⟩)
  go_wp2_with ((go_at_call 166;(with_reducible refine(wordx HS0.out HR.out 6 _ _ Om Om).mono ?_);rw [HV6.out];rintro e WC ⟨rfl,gC⟩;have hR:=QK gC hL hR;have hZ:=Qaa gC hL hZ;have hL:=Xl hL gC.size;have E:=E.tr gC;have HS0:=Xh (HS0.out.ext gC)))
  go_step3;refine⟨rfl,?_⟩;go_wp2;rw [Exit.noGoto_ret];exact bodyPost_ret (QaK rfl (Qq _ _ _ (by rw [hR])) rfl) rfl (by rw [←HW.out];exact .no (by rw [HW.out];omega) (Ext.sa _ (Nat.le_refl _) E))
 have HW:=Xh (show Zp bs=0 by
  unfold Zp;rw [if_neg Om,if_neg U2.out,if_neg U3.out,if_neg U4.out,if_neg U5.out,HV6.out,if_neg];have h:=HAN.out;rw [t7]at h;rintro⟨h1,h2⟩;rcases Bool.or_eq_true_iff.1 h.symm with h3|h3
  ·exact h1 (by simpa using h3)
  ·exact h2 (by simpa using h3))
 go_upto_region 15 with(go_at_call 166;(with_reducible refine(wordx HS0.out HR.out 6 _ _ Om Om).mono ?_);rw [HV6.out];rintro e WC ⟨rfl,gC⟩;have hR:=QK gC hL hR;have hZ:=Qaa gC hL hZ;have hL:=Xl hL gC.size;have E:=E.tr gC;have HS0:=Xh (HS0.out.ext gC))
 clear t7 hq HAN b6 b2 HS;have rz:RowZ WC w.heap.size QnI:=⟨hR,hZ,hL⟩;have s:=HS0.out;have hbw:b<w.heap.size:=hbl;have HRR:=HR.out;have hC: ¬(fun k=>w.heap.size≤k) b:=Nat.not_le_of_lt hbw;clear hR hZ hL HS0 gC;refine QT (fun k=>w.heap.size≤k) Kr ?_;obtain⟨WA,hW⟩: ∃Wdr,World.drew WC=Wdr:=⟨_,rfl⟩;have gD:Ext WC WA:=by rw [←hW];exact Ext.dr (Ext.rf _)
 rw [hW];clear hW;have E:=E.tr gD;have s:=s.ext gD;have rz:=rz.ext gD;refine Qas (N:=17) (R:=QkM) (E:=((Tryz.f93.body.bind (Qg 15)).getD #[])) Kr Qha Kr fun hS=> ?_;have hT:=hS.2.1;refine tMk 1 (.slice (some ⟨b,off,none⟩) bs.length c) hS.1 hT rfl fun hT=> ?_;refine tM 3 (.pointer (some ⟨b,off+1,none⟩)) hS.1 hT rfl (fun w' _=>Zf (m:=bs.length) (c:=c) 1 Om Kr Kr w') fun hT=> ?_;refine tM 7 (.int .u8 (bt bs 1)) hS.1 hT rfl (QkL s 1 Om hC Kr) fun hT=> ?_;refine tMk 15 (.slice (some ⟨b,off,none⟩) bs.length c) hS.1 hT rfl fun hT=> ?_;refine tM 31 (.slice (some ⟨b,off+4,none⟩) (bs.length- 4) (c- 4)) hS.1 hT rfl (fun w' _=>JF (m:=bs.length) (c:=c) 4 Om Om Kr Kr w') fun hT=> ?_;refine tMk 95 (.slice (some ⟨b,off,none⟩) bs.length c) hS.1 hT rfl fun hT=> ?_;refine tM 223 (.slice (some ⟨b,off+6,none⟩) (bs.length- 6) (c- 6)) hS.1 hT rfl (fun w' _=>JF (m:=bs.length) (c:=c) 6 Om Om Kr Kr w') fun hT=> ?_;refine tMk 735 (.slice (some ⟨b,off,none⟩) bs.length c) hS.1 hT rfl fun hT=> ?_;refine tM 1759 (.pointer (some ⟨b,off+8,none⟩)) hS.1 hT rfl (fun w' _=>Zf (m:=bs.length) (c:=c) 8 Om Kr Kr w') fun hT=> ?_;refine tM 3807 (.int .u8 (bt bs 8)) hS.1 hT rfl (QkL s 8 Om hC Kr) fun hT=> ?_;refine tMk 7903 (.slice (some ⟨b,off,none⟩) bs.length c) hS.1 hT rfl fun hT=> ?_;refine tM 16095 (.pointer (some ⟨b,off+9,none⟩)) hS.1 hT rfl (fun w' _=>Zf (m:=bs.length) (c:=c) 9 Om Kr Kr w') fun hT=> ?_;refine tM 32479 (.int .u8 (bt bs 9)) hS.1 hT rfl (QkL s 9 Om hC Kr) fun hT=> ?_;refine sM 32511 (fun v _=>v= .int .u16 (w16 bs 4)) hS.2.2.1 rfl (Zz (wordx s HRR 4 (bs.length- 4) (c- 4) Om Om)) ?_;rintro _ WB1 gWB1 rfl;have E:=E.tr gWB1;have s:=s.ext gWB1;have rz:=rz.ext gWB1;refine sM 32767 (fun v _=>v= .int .u16 (w16 bs 6)) hS.2.2.2.1 rfl (Zz (wordx s HRR 6 (bs.length- 6) (c- 6) Om Om)) ?_;rintro _ WB2 gWB2 rfl;have E:=E.tr gWB2;have s:=s.ext gWB2;have rz:=rz.ext gWB2;have hT:=hS.2.2.2.2.1;refine tMk 65535 (.agg #[.int .u8 (bt bs 1),.int .u16 (w16 bs 4),.int .u16 (w16 bs 6),.int .u8 (bt bs 8),.int .u8 (bt bs 9),.int .u32 0,.int .u32 0,.slice none 0 0,.slice none 0 0]) hS.1 hT rfl fun hT=> ?_;refine QaB hS.2.2.2.2.2.1 (J9 (m':=131071) rfl rfl Kr (QnJ (B:=w.heap.size) (cs:=#[.int .u8 (bt bs 1),.int .u16 (w16 bs 4),.int .u16 (w16 bs 6),.int .u8 (bt bs 8),.int .u8 (bt bs 9),.int .u32 0,.int .u32 0,.slice none 0 0,.slice none 0 0]) (by rw [rz.r];rfl) rz.z rfl (by simp [go_sem]) Kr Kr) (Mv.sa _ (Nat.le_refl _) (Mv.refl _ _)) ?_);obtain⟨WB3,hWB3⟩: ∃WB3,Qe WB2 w.heap.size 0 #[.int .u8 (bt bs 1),.int .u16 (w16 bs 4),.int .u16 (w16 bs 6),.int .u8 (bt bs 8),.int .u8 (bt bs 9),.int .u32 0,.int .u32 0,.slice none 0 0,.slice none 0 0]=WB3:=⟨_,rfl⟩;have gS:Mv (fun k=>k=w.heap.size) WB2 WB3:=by rw [←hWB3];exact Mv.sa _ rfl (Mv.refl _ _)
 have E:=Mv.ext_of E gS (fun k e=>by rw [e];exact Nat.le_refl _);have s:=s.mv gS Om;have rz:=rz.all #[.int .u8 (bt bs 1),.int .u16 (w16 bs 4),.int .u16 (w16 bs 6),.int .u8 (bt bs 8),.int .u8 (bt bs 9),.int .u32 0,.int .u32 0,.slice none 0 0,.slice none 0 0] rfl;rw [hWB3]at rz;rw [hWB3];clear hWB3;refine doneK hS.2.2.2.2.2.2 ?_;clear hS hT;go_simp
 go_upto_region 16 with(fail)
 refine QT (fun k=>w.heap.size≤k) Kr ?_;obtain⟨WC,hW⟩: ∃Wdr,World.drew WB3=Wdr:=⟨_,rfl⟩;have gD:Ext WB3 WC:=by rw [←hW];exact Ext.dr (Ext.rf _)
 rw [hW];clear hW;have E:=E.tr gD;have s:=s.ext gD;have rz:=rz.ext gD;refine Qas (N:=24) (R:=QkN) (E:=((Tryz.f93.body.bind (Qg 16)).getD #[])) Kr Qhb Kr fun hS=> ?_;have hT:=hS.2.1;refine tMk 1 (.slice (some ⟨b,off,none⟩) bs.length c) hS.1 hT rfl fun hT=> ?_;refine tM 3 (.slice (some ⟨b,off+12,none⟩) (bs.length- 12) (c- 12)) hS.1 hT rfl (fun w' _=>JF (m:=bs.length) (c:=c) 12 Om Om Kr Kr w') fun hT=> ?_;refine tMk 35 (.slice (some ⟨b,off,none⟩) bs.length c) hS.1 hT rfl fun hT=> ?_;refine tM 99 (.slice (some ⟨b,off+14,none⟩) (bs.length- 14) (c- 14)) hS.1 hT rfl (fun w' _=>JF (m:=bs.length) (c:=c) 14 Om Om Kr Kr w') fun hT=> ?_;refine tMk 1123 (.slice (some ⟨b,off,none⟩) bs.length c) hS.1 hT rfl fun hT=> ?_;refine tM 3171 (.slice (some ⟨b,off+16,none⟩) (bs.length- 16) (c- 16)) hS.1 hT rfl (fun w' _=>JF (m:=bs.length) (c:=c) 16 Om Om Kr Kr w') fun hT=> ?_;refine tMk 35939 (.slice (some ⟨b,off,none⟩) bs.length c) hS.1 hT rfl fun hT=> ?_;refine tM 101475 (.slice (some ⟨b,off+18,none⟩) (bs.length- 18) (c- 18)) hS.1 hT rfl (fun w' _=>JF (m:=bs.length) (c:=c) 18 Om Om Kr Kr w') fun hT=> ?_;refine sM 101479 (fun v _=>v= .int .u16 (w16 bs 12)) hS.2.2.1 rfl (Zz (wordx s HRR 12 (bs.length- 12) (c- 12) Om Om)) ?_;rintro _ WD1 gWD1 rfl;have E:=E.tr gWD1;have s:=s.ext gWD1;have rz:=rz.ext gWD1;have hT:=hS.2.2.2.1;refine tM 101487 (.int .u32 (w16 bs 12)) hS.1 hT rfl (fun w' _=>Qbb (ZX HRR 12) Kr w') fun hT=> ?_;refine tM 101503 (.int .u32 (w16 bs 12*65536)) hS.1 hT rfl (fun w' _=>Qfm (ZX HRR 12) Kr Kr w') fun hT=> ?_;refine sM 101631 (fun v _=>v= .int .u16 (w16 bs 14)) hS.2.2.2.2.1 rfl (Zz (wordx s HRR 14 (bs.length- 14) (c- 14) Om Om)) ?_;rintro _ WD2 gWD2 rfl;have E:=E.tr gWD2;have s:=s.ext gWD2;have rz:=rz.ext gWD2;have hT:=hS.2.2.2.2.2.1;refine tM 101887 (.int .u32 (w16 bs 14)) hS.1 hT rfl (fun w' _=>Qbb (ZX HRR 14) Kr w') fun hT=> ?_;refine tM 102399 (.int .u32 (w16 bs 12*65536+w16 bs 14)) hS.1 hT rfl (fun w' _=>Qg7 (ZX HRR 12) (ZX HRR 14) Kr Kr w') fun hT=> ?_;refine tMk 1150975 (.pointer (some ⟨w.heap.size,5,none⟩)) hS.1 hT rfl fun hT=> ?_;refine sM 1155071 (fun v _=>v= .int .u16 (w16 bs 16)) hS.2.2.2.2.2.2.1 rfl (Zz (wordx s HRR 16 (bs.length- 16) (c- 16) Om Om)) ?_;rintro _ WD3 gWD3 rfl;have E:=E.tr gWD3;have s:=s.ext gWD3;have rz:=rz.ext gWD3;have hT:=hS.2.2.2.2.2.2.2.1;refine tM 1163263 (.int .u32 (w16 bs 16)) hS.1 hT rfl (fun w' _=>Qbb (ZX HRR 16) Kr w') fun hT=> ?_;refine tM 1179647 (.int .u32 (w16 bs 16*65536)) hS.1 hT rfl (fun w' _=>Qfm (ZX HRR 16) Kr Kr w') fun hT=> ?_;refine sM 1310719 (fun v _=>v= .int .u16 (w16 bs 18)) hS.2.2.2.2.2.2.2.2.1 rfl (Zz (wordx s HRR 18 (bs.length- 18) (c- 18) Om Om)) ?_;rintro _ WD4 gWD4 rfl;have E:=E.tr gWD4;have s:=s.ext gWD4;have rz:=rz.ext gWD4;have hT:=hS.2.2.2.2.2.2.2.2.2.1;refine tM 1572863 (.int .u32 (w16 bs 18)) hS.1 hT rfl (fun w' _=>Qbb (ZX HRR 18) Kr w') fun hT=> ?_;refine tM 2097151 (.int .u32 (w16 bs 16*65536+w16 bs 18)) hS.1 hT rfl (fun w' _=>Qg7 (ZX HRR 16) (ZX HRR 18) Kr Kr w') fun hT=> ?_;refine QaB hS.2.2.2.2.2.2.2.2.2.2.1 (J9 (m':=4194303) rfl rfl Kr (Qg8 (v:=w16 bs 12*65536+w16 bs 14) (rz.cell 5 (by show 5<9;omega)) (rz.frz 5) Kr Kr) (Mv.st _ (.inl (Nat.le_refl _)) (Mv.refl _ _)) ?_);obtain⟨WD5,hWD5⟩: ∃WD5,World.setCell WD4 ⟨w.heap.size,5,none⟩ (.int .u32 (w16 bs 12*65536+w16 bs 14))=WD5:=⟨_,rfl⟩;have gS:Mv (fun k=>k=w.heap.size) WD4 WD5:=by rw [←hWD5];exact Mv.st _ (.inl rfl) (Mv.refl _ _)
 have E:=Mv.ext_of E gS (fun k e=>by rw [e];exact Nat.le_refl _);have s:=s.mv gS Om;have rz:RowZ WD5 w.heap.size #[.int .u8 (bt bs 1),.int .u16 (w16 bs 4),.int .u16 (w16 bs 6),.int .u8 (bt bs 8),.int .u8 (bt bs 9),.int .u32 (w16 bs 12*65536+w16 bs 14),.int .u32 (0),.slice none 0 0,.slice none 0 0]:=by rw [←hWD5];exact rz.set 5 _
 rw [hWD5];clear hWD5;have hT:=hS.2.2.2.2.2.2.2.2.2.2.2.1;refine tMk 8388607 (.pointer (some ⟨w.heap.size,6,none⟩)) hS.1 hT rfl fun hT=> ?_;refine QaB hS.2.2.2.2.2.2.2.2.2.2.2.2.1 (J9 (m':=16777215) rfl rfl Kr (Qg8 (v:=w16 bs 16*65536+w16 bs 18) (rz.cell 6 (by show 6<9;omega)) (rz.frz 6) Kr Kr) (Mv.st _ (.inl (Nat.le_refl _)) (Mv.refl _ _)) ?_);obtain⟨WD6,hWD6⟩: ∃WD6,World.setCell WD5 ⟨w.heap.size,6,none⟩ (.int .u32 (w16 bs 16*65536+w16 bs 18))=WD6:=⟨_,rfl⟩;have gS:Mv (fun k=>k=w.heap.size) WD5 WD6:=by rw [←hWD6];exact Mv.st _ (.inl rfl) (Mv.refl _ _)
 have E:=Mv.ext_of E gS (fun k e=>by rw [e];exact Nat.le_refl _);have s:=s.mv gS Om;have rz:RowZ WD6 w.heap.size #[.int .u8 (bt bs 1),.int .u16 (w16 bs 4),.int .u16 (w16 bs 6),.int .u8 (bt bs 8),.int .u8 (bt bs 9),.int .u32 (w16 bs 12*65536+w16 bs 14),.int .u32 (w16 bs 16*65536+w16 bs 18),.slice none 0 0,.slice none 0 0]:=by rw [←hWD6];exact rz.set 6 _
 rw [hWD6];clear hWD6;refine doneK hS.2.2.2.2.2.2.2.2.2.2.2.2.2 ?_;clear hS hT;go_simp
 go_upto_region 17 with(fail)
 refine QT (fun k=>w.heap.size≤k) Kr ?_;obtain⟨WE,hW⟩: ∃Wdr,World.drew WD6=Wdr:=⟨_,rfl⟩;have gD:Ext WD6 WE:=by rw [←hW];exact Ext.dr (Ext.rf _)
 rw [hW];clear hW;have E:=E.tr gD;have s:=s.ext gD;have rz:=rz.ext gD;refine Qas (N:=12) (R:=QkO) (E:=((Tryz.f93.body.bind (Qg 17)).getD #[])) Kr Qhc Kr fun hS=> ?_;have hT:=hS.2.1;refine tMk 1 (.slice (some ⟨b,off,none⟩) bs.length c) hS.1 hT rfl fun hT=> ?_;refine tMk 3 (.int .i64 (N:Nat)) hS.1 hT rfl fun hT=> ?_;refine tM 7 (.slice (ZC b off c 20) (N- 20) (c- 20)) hS.1 hT rfl (fun w' _=>QnH (lo:=20) (hi:=N) (m:=bs.length) Om Om Kr Kr Kr w') fun hT=> ?_;refine tMk 23 (.slice (some ⟨b,off,none⟩) bs.length c) hS.1 hT rfl fun hT=> ?_;refine tMk 55 (.int .i64 (N:Nat)) hS.1 hT rfl fun hT=> ?_;refine tM 119 (.slice (ZC b off c N) (bs.length- N) (c- N)) hS.1 hT rfl (fun w' _=>QaJ (lo:=N) (m:=bs.length) Om Om Kr Kr w') fun hT=> ?_;refine sM 127 (fun v w'=>OBn w' w.heap.size v ((bs.take N).drop 20)) hS.2.2.1 rfl (Qf2 (p:=ZC b off c 20) (n:=N- 20) (c:=c- 20) (lo:=w.heap.size) ((s.take N).cut 20 (by rw [List.length_take];omega)) (by rw [List.length_drop,List.length_take];omega) (by rw [List.length_drop,List.length_take];omega) rz.l) ?_;rintro vo WF1 gWF1 o1;have E:=E.tr gWF1;have s:=s.ext gWF1;have rz:=rz.ext gWF1;have hT:=hS.2.2.2.1;refine tMk 383 (.pointer (some ⟨w.heap.size,7,none⟩)) hS.1 hT rfl fun hT=> ?_;refine sM 511 (fun v w'=>OBn w' w.heap.size v (bs.drop N)) hS.2.2.2.2.1 rfl (Qf2 (p:=ZC b off c N) (n:=bs.length- N) (c:=c- N) (lo:=w.heap.size) (s.cut N Om) (by rw [List.length_drop];omega) (by rw [List.length_drop]) rz.l) ?_;rintro vp WF2 gWF2 o2;have E:=E.tr gWF2;have s:=s.ext gWF2;have rz:=rz.ext gWF2;have o1:=o1.ext gWF2;refine QaB hS.2.2.2.2.2.1 (J9 (m':=1023) rfl rfl Kr (Qd5 (v:=vo) (rz.cell 7 (by show 7<9;omega)) (rz.frz 7) o1.slice Kr Kr) (Mv.st _ (.inl (Nat.le_refl _)) (Mv.refl _ _)) ?_);obtain⟨WF3,hWF3⟩: ∃WF3,World.setCell WF2 ⟨w.heap.size,7,none⟩ (vo)=WF3:=⟨_,rfl⟩;have gS:Mv (fun k=>k=w.heap.size) WF2 WF3:=by rw [←hWF3];exact Mv.st _ (.inl rfl) (Mv.refl _ _)
 have E:=Mv.ext_of E gS (fun k e=>by rw [e];exact Nat.le_refl _);have o1:=o1.mv gS (fun k e=>by omega);have o2:=o2.mv gS (fun k e=>by omega);have rz:RowZ WF3 w.heap.size #[.int .u8 (bt bs 1),.int .u16 (w16 bs 4),.int .u16 (w16 bs 6),.int .u8 (bt bs 8),.int .u8 (bt bs 9),.int .u32 (w16 bs 12*65536+w16 bs 14),.int .u32 (w16 bs 16*65536+w16 bs 18),vo,.slice none 0 0]:=by rw [←hWF3];exact rz.set 7 _
 rw [hWF3];clear hWF3;have hT:=hS.2.2.2.2.2.2.1;refine tMk 2047 (.pointer (some ⟨w.heap.size,8,none⟩)) hS.1 hT rfl fun hT=> ?_;refine QaB hS.2.2.2.2.2.2.2.1 (J9 (m':=4095) rfl rfl Kr (Qd5 (v:=vp) (rz.cell 8 (by show 8<9;omega)) (rz.frz 8) o2.slice Kr Kr) (Mv.st _ (.inl (Nat.le_refl _)) (Mv.refl _ _)) ?_);obtain⟨WF4,hWF4⟩: ∃WF4,World.setCell WF3 ⟨w.heap.size,8,none⟩ (vp)=WF4:=⟨_,rfl⟩;have gS:Mv (fun k=>k=w.heap.size) WF3 WF4:=by rw [←hWF4];exact Mv.st _ (.inl rfl) (Mv.refl _ _)
 have E:=Mv.ext_of E gS (fun k e=>by rw [e];exact Nat.le_refl _);have o1:=o1.mv gS (fun k e=>by omega);have o2:=o2.mv gS (fun k e=>by omega);have rz:RowZ WF4 w.heap.size #[.int .u8 (bt bs 1),.int .u16 (w16 bs 4),.int .u16 (w16 bs 6),.int .u8 (bt bs 8),.int .u8 (bt bs 9),.int .u32 (w16 bs 12*65536+w16 bs 14),.int .u32 (w16 bs 16*65536+w16 bs 18),vo,vp]:=by rw [←hWF4];exact rz.set 8 _
 rw [hWF4];clear hWF4;refine doneK hS.2.2.2.2.2.2.2.2 ?_;clear hS hT;go_simp;have hR:=rz.r;have hZ:=rz.z;have v1:vo.oneCell'=true:=by obtain⟨_,_,_,h⟩:=o1.slice;rw [h];rfl
 have v2:vp.oneCell'=true:=by obtain⟨_,_,_,h⟩:=o2.slice;rw [h];rfl
 have E:=Xh E;have o1:=Xh o1;have o2:=Xh o2;clear s hC gD;go_wp2;simp only [Exit.jump];have gS:Mv (fun k=>k=w.heap.size) WF4 (Qe WF4 w.heap.size 0 #[.int .u8 (bt bs 1),.int .u16 (w16 bs 4),.int .u16 (w16 bs 6),.int .u8 (bt bs 8),.int .u8 (bt bs 9),.int .u32 (w16 bs 12*65536+w16 bs 14),.int .u32 (w16 bs 16*65536+w16 bs 18),vo,vp]):=Mv.sa _ rfl (Mv.refl _ _);refine bodyPost_ret (QaK rfl (Qq _ _ _ (by rw [hR])) rfl) rfl ?_;have h1:=o1.out.mv gS (fun k e=>by omega);have h2:=o2.out.mv gS (fun k e=>by omega);exact QkP.yes (bs:=bs) (vo:=vo) (vp:=vp) HW.out (Mv.ext_of E.out gS (fun k e=>by rw [e];exact Nat.le_refl _)) (by unfold ipH;rw [HNN.out];exact h1.ob) (by unfold ipH;rw [HNN.out];exact h2.ob)
def QkQ(B base:Nat)(xs:List Int)(i:Nat)(W:World):Prop:= ∃v,Boxed W B 28 v∧W.ownsRow base 5 1 v i ((xs.take i).map (Value.int .u8))
theorem QkQ.mv{xs:List Int}{C:Nat→Prop}(h:QkQ B base xs i A)(hm:Mv C A A')(hb: ¬C B)(hc: ∀k,base≤k→ ¬C k):QkQ B base xs i A':=by
 obtain⟨v,h1,h2⟩:=h;exact⟨v,Qk h1 hm hb,Qw h2 hm hc⟩
theorem QeQ(w:World)(a:Value)(t:TypeId): ∀j u,[a][j]?=some u→(w.alloc (.cells #[a] t)).cell? ((⟨w.heap.size,0,none⟩:Addr).add j)=some u:=by
 intro j u hu;have e:(⟨w.heap.size,0,none⟩:Addr).add j=⟨w.heap.size,j,none⟩:=by unfold Addr.add;split<;>simp_all
 rw [e,Qa,Zh];simpa using hu
theorem Qd6(g:Nat)(lb:Array Value)(eg: ∀args w,(callFunc g args).run Tryz.prog w= .ok (.enter g args) w)(xs:List Int)(w:World)(hlen:xs.length≤2000)
  (hseq: ∀(n:Nat) (U:Nat→Prop) w',Ext w w'→(∀k,U k→w.heap.size≤k)→QcC Fence.wide n Tryz.prog g lb (fun s:Int=>#[.int .u8 s]) (fun _=>False) U xs w'):
  Calls Tryz.prog 253 #[.slice none 0 0,.func (.func g) #[] lb] w fun e W'=> ∃v,e= .returned v∧Ya w W' v xs:=by
 obtain⟨i0,hi,hz0,hz1,hz2⟩:=info_parts Yz;have HSQ:=Xh hseq;have HEG:=Xh eg;clear hseq eg;refine(callsIn_wide (n:=5)).1 ?_;refine callsIn_of_wp_marks Tryz.func253 rfl trivial ?_ rfl;simp only [Tryz.ntmps253,List.size_toArray,List.length_cons,List.length_nil,Nat.reduceAdd,Nat.reduceSub,Array.replicate_succ,Array.replicate_zero,List.push_toArray,List.append_toArray,List.nil_append,List.cons_append]
 gi_wp2
 have bO:=Boxed.new w 28 (.slice none 0 0);obtain⟨w1,hw1⟩: ∃w1,w.alloc (.cells #[.slice none 0 0] 28)=w1:=⟨_,rfl⟩;have hs1:w1.heap.size=w.heap.size+1:=by rw [←hw1];simp
 have hE1:Ext w w1:=by rw [←hw1];exact Ext.al (Ext.rf _) _
 rw [hw1]at bO⊢;clear hw1;refine ZH rfl Om (gf:=g) (lb:=lb) rfl trivial HEG.out (HSQ.out _ (fun k=>k=w.heap.size) w1 hE1 (fun k e=>by omega))
  (fun k h=>h.elim) (fun k h=>by omega) (fun _=>rfl)
  (fun i W=>QkQ w.heap.size (w1.heap.size+2) xs i W) (fun _ _=>False)
  (fun i A B h hm=>h.mv hm (fun hh=>by rcases hh with hh|hh|hh;exact hh.elim;omega;omega) (fun k hk hh=>by rcases hh with hh|hh|hh;exact hh.elim;omega;omega))
  (fun _ _ _ h _=>h) ⟨_,bO,World.ownsRow_nil _ _ _ _⟩
  (fun s a' W=>a'={tmps:=#[.slice none 0 0,.func (.func g) #[] lb,.pointer (some ⟨w.heap.size,0,none⟩),undef,.slice none 0 0,.int .u8 s,.func (.func g) #[] lb,.int .u8 s,undef,undef,undef,undef,undef],defers:= []})
  (fun s a' A B h hm=>h)
  ?assign ?body ?done ?stop
 case assign=>
  intro l i s W K hsz hv hI hx hK
  gi_wp2
  exact hK _ _ (Mv.refl _ _) hI rfl
 case body=>
  rintro l i s a' W hl ⟨r,hr⟩ hsz hv ⟨v,hb,hrow⟩ hx rfl;have hil:i<xs.length:=(List.getElem?_eq_some_iff.1 hx).1;have hxi:xs[i]=s:=(List.getElem?_eq_some_iff.1 hx).2;have hc:=hb.cell;have HX:=Xh hxi;have HR:=Xh hrow;have HV:=Xh hv;clear hxi hv hx hr;have htk:xs.take (i+1)=xs.take i++ [s]:=by rw [List.take_succ_eq_append_getElem hil,HX.out]
  have HT2:=Xh htk;clear htk;have hnB: ∀r,v.ownBlock=some r→w1.heap.size+2≤r:=Qh HR.out;have HNB:=Xh hnB;clear hnB
  gi_wp2_with (gi_at_builtin;refine wpListIn_append_own _ rfl _ _ 28 rfl (w1.heap.size+2) 5 i0 (.int .u8 0) 1 1 Tryz.underlying28 hi hz0 hz1 hz2 rfl Dc _ _ _ rfl (HR.out.alloc _) ⟨W.heap.size,0,none⟩ 1 1 [.int .u8 s] rfl rfl (QeQ _ _ _) (by simp [Value.oneCell']) (by unfold maxLen;omega) Om (by simp;omega) ?_;intro v' w2 hown' hgrow _;have HOW:=Xh hown';obtain⟨g',cap',rfl⟩:=ownsRow_succ hown';have hb2:Boxed w2 w.heap.size 28 v:=(hb.alloc _).kept hgrow (fun e=>by have:=HNB.out _ e.symm;omega);have hc2:=hb2.cell;have hf2:=hb2.frozen;clear hown')
  have hm2:Mv (fun k=>k=w.heap.size∨w1.heap.size+2≤k) W w2:=(Mv.al _ (Mv.refl _ _)).trans (Mv.of_grown hgrow fun r e=> .inl (.inr (HNB.out r e)));refine⟨Mv.st _ (.inl (.inl rfl)) hm2,_,hb2.set _,?_⟩;rw [HT2.out,List.map_append];exact Qw (C:=fun k=>k=w.heap.size) HOW.out (Mv.st _ (.inl rfl) (Mv.refl _ _)) (fun k hk e=>by omega)
 case done=>
  rintro W ⟨v,hb,hrow⟩ hv hK;have hc:=hb.cell;have HV:=Xh hv;clear hv
  gi_wp2
  refine⟨by simp,.inl ⟨_,_,rfl,run_takeDeferred hK,?_⟩⟩;refine⟨_,results_tmp rfl _ _ _,v,rfl,?_,?_⟩
  ·have:=Qw (C:=fun k=>k=w1.heap.size) hrow (Mv.put W w1.heap.size (.deferred none) rfl) (fun k hk e=>by omega);rw [List.take_length]at this;exact QB this Om
  ·have hE2:Ext w W:=Mv.ext_of hE1 HV.out (fun k h=>by rcases h with h|h;exact h.elim;omega);exact Mv.ext_of hE2 (Mv.put (C:=fun k=>k=w1.heap.size) _ _ _ rfl) (fun k h=>by omega)
 case stop=>intro _ _ h;exact h.elim
theorem Qf5(g:Nat)(lb:Array Value)(eg: ∀args w,(callFunc g args).run Tryz.prog w= .ok (.enter g args) w)(xs:List Int)(w:World)(hlen:xs.length≤2000)
  (hseq: ∀(n:Nat) (U:Nat→Prop) w',Ext w w'→(∀k,U k→w.heap.size≤k)→QcC Fence.wide n Tryz.prog g lb (fun s:Int=>#[.int .u8 s]) (fun _=>False) U xs w'):
  Calls Tryz.prog 236 #[.func (.func g) #[] lb] w fun e W'=> ∃v,e= .returned v∧Ya w W' v xs:=by
 have HC:=Xh (Qd6 g lb eg xs w hlen hseq);clear hseq eg
 go_enter Tryz.func236,Tryz.ntmps236
 go_wp2_with (go_at_call 253;(with_reducible refine(HC.out).mono ?_);rintro e w2 ⟨v,rfl,h⟩)
 go_ret;exact⟨v,rfl,h⟩
def SlW(w:World)(p:Option Addr)(ns:List Int):Prop:= ∀k,(h:k<ns.length)→ ∃b off,p=some ⟨b,off,none⟩∧b<w.heap.size∧w.cell? ⟨b,off+k,none⟩=some (.int .u16 ns[k])
theorem SlW.ext{p:Option Addr}(h:SlW w p bs)(e:Ext w w'):SlW w' p bs:=fun k hk=>by
 obtain⟨b,off,hp,hb,hc⟩:=h k hk;exact⟨b,off,hp,Xl hb e.size,(e.cell (p:=⟨b,off+k,none⟩) hb).trans hc⟩
def Yv:List Int→List Int
 | []=> []
 |n::r=>n/256 % 256::n % 256::Yv r
theorem JQ: ∀ns:List Int,(Yv ns).length=2*ns.length
 | []=>rfl
 |n::r=>by show(Yv r).length+1+1=_;rw [JQ r,List.length_cons];omega
theorem Qhd: ∀(ns:List Int) (i:Nat) (h:i<ns.length),(Yv ns)[2*i]?=some (ns[i]/256 % 256)∧(Yv ns)[2*i+1]?=some (ns[i] % 256)
 |n::r,0,_=>⟨rfl,rfl⟩
 |n::r,i+1,h=>by
  have:=Qhd r i (by simpa using h);show(_::_::Yv r)[2*(i+1)]?=_∧(_::_::Yv r)[2*(i+1)+1]?=_;rw [show 2*(i+1)=2*i+1+1 by omega,show 2*i+1+1+1=(2*i+1)+1+1 by omega];simpa using this
theorem QiK: ∀ns:List Int,ByR (Yv ns)
 | []=>ByR.nil
 |n::r=>ByR.cons Om (ByR.cons Om (QiK r))
theorem QiL(p:Option Addr)(n c:Nat)(w:World):
  Calls Tryz.prog 237 #[.slice p n c] w fun e w'=>e= .returned (.func (.func 254) #[] #[.pointer (some ⟨w.heap.size,0,none⟩)])∧w'=w.alloc (.cells #[.slice p n c] 270):=by
 go_enter Tryz.func237,Tryz.ntmps237
 go_wp2;go_ret;exact⟨rfl,rfl⟩
theorem QeR: ∀args w,(callFunc 254 args).run Tryz.prog w= .ok (.enter 254 args) w:=enters_of Tryz.func254 Kr rfl
theorem Qhe(n:Nat)(ns:List Int)(p:Option Addr)(c:Nat)(w0 w:World)(Bl:Nat)(U:Nat→Prop)(h0:Ext w0 w)(hs:SlW w0 p ns)(hl:ns.length≤1000)(hc:w.cell? ⟨Bl,0,none⟩=some (.slice p ns.length c))(lb:Lt Bl w)(hU: ∀k,U k→w0.heap.size≤k∧k≠Bl):
  QcC Fence.wide n Tryz.prog 254 #[.pointer (some ⟨Bl,0,none⟩)] (fun x:Int=>#[.int .u8 x]) (fun _=>False) U (Yv ns) w:=by
 intro y J Jx W hW hJ hJx hY hJ0;have HJ:=Xh hJ;have HJx:=Xh hJx;have HU:=Xh hU;have HS:=Xh hs;clear hJ hJx hU hs;obtain⟨yfn,ytm,yas,ybo,hY⟩:=hY;have HY:=Xh hY;clear hY;have hcW:W.cell? ⟨Bl,0,none⟩=some (.slice p ns.length c):=(hW.cell (p:=⟨Bl,0,none⟩) lb).trans hc;have lbW:Lt Bl W:=Xl lb hW.size;have h0W:=h0.tr hW;refine callsIn_of_wp Tryz.func254 rfl trivial ?_ rfl;simp only [Tryz.ntmps254,List.size_toArray,List.length_cons,List.length_nil,Nat.reduceAdd,Nat.reduceSub,Array.replicate_succ,Array.replicate_zero,List.push_toArray,List.append_toArray,List.nil_append,List.cons_append];refine wpIn_wide.2 ?_;go_wp2
 go_loopw [4,7] (fun _ a wr=> ∃i:Nat,i≤ns.length∧a= .int .i64 i∧J (2*i) wr∧Ext w0 wr) (fun _ a _=>ns.length- (intOf a).toNat)
 case atStart=>exact⟨0,Nat.zero_le _,rfl,hJ0,h0W⟩
 case round=>
  clear hcW lbW h0W hJ0;obtain⟨i,hi,rfl,hJi,hE⟩:=hrel
  by_cases hlt:i<ns.length
  ·have hlt':(i:Int)<ns.length:=by omega
   obtain⟨b,off,rfl,hb,c0⟩:=(HS.out.ext hE) i hlt;obtain⟨hx0,hx1⟩:=Qhd ns i hlt;obtain⟨x,hx⟩: ∃x,ns[i]=x:=⟨_,rfl⟩;rw [hx]at c0 hx0 hx1;have lbb:Lt b wr:=hb;have w0':IntKind.u8.wrap (x/256)=x/256 % 256:=Z9 _;have w1':IntKind.u8.wrap x=x % 256:=Z9 _;have hrun:(Instr.yield y #[.int .u8 (x/256 % 256)]).run Tryz.prog wr= .ok (.round y yfn (ytm #[.int .u8 (x/256 % 256)]) yas ybo) wr:=(HY.out (2*i) _ wr hJi hx0).1;have HRD:=Xh (HY.out (2*i) _ wr hJi hx0).2;have HX1:=Xh hx1;have HE:=Xh hE;clear hx hJi hx0 hx1 hE
   go_upto_region 3 with(fail)
   refine(wpIn_wide (n:=n)).1 ?_
   gi_wp2
   refine⟨(fun h=>by cases h),(HRD.out).mono ?_⟩;rintro e w6 ⟨bb,rfl,hP⟩;clear hrun HRD c0;obtain⟨rfl,hJ6,hm6⟩|⟨rfl,hx6⟩:=hP
   ·have hrun:(Instr.yield y #[.int .u8 (x % 256)]).run Tryz.prog w6= .ok (.round y yfn (ytm #[.int .u8 (x % 256)]) yas ybo) w6:=(HY.out (2*i+1) _ w6 hJ6 HX1.out).1;have HRD:=Xh (HY.out (2*i+1) _ w6 hJ6 HX1.out).2;have HM6:=Xh hm6;clear hJ6 hm6
    gi_wp2
    refine⟨(fun h=>by cases h),(HRD.out).mono ?_⟩;rintro e w7 ⟨bb,rfl,hP⟩;clear hrun HRD;obtain⟨rfl,hJ7,hm7⟩|⟨rfl,hx7⟩:=hP
    ·have hE7:Ext w0 w7:=Mv.ext_of (Mv.ext_of HE.out HM6.out (fun k h=>by rcases h with h|h;exact(HU.out _ h).1;exact Xt h0.size h)) hm7 (fun k h=>by rcases h with h|h;exact(HU.out _ h).1;exact Xt h0.size h);clear hm7
     gi_wp2
     go_wp2
     go_roundw
     case rel=>exact⟨i+1,Om,by go_num,by rw [show 2*(i+1)=2*i+1+1 by omega];exact hJ7,hE7⟩
     case measure=>simp [intOf];omega
    ·gi_wp2
     go_wp2;refine bodyPost_ret (results_none rfl _ _ _) rfl ⟨⟨_,rfl⟩,.inr hx7⟩
   ·gi_wp2
    all_goals
     refine⟨(fun f h=>by cases h),?_⟩
     gi_wp2
     go_wp2;exact bodyPost_ret (results_none rfl _ _ _) rfl ⟨⟨_,rfl⟩,.inr hx6⟩
  ·obtain rfl:i=ns.length:=by omega
   have HLN:=Xh (JQ ns);go_wp2
   go_end0
   exact⟨⟨_,rfl⟩,.inl (by rw [HLN.out];exact hJi)⟩
def psN(src dst n:Int):List Int:= [src/65536 % 65536,src % 65536,dst/65536 % 65536,dst % 65536,6,n % 65536]
def Z0(src dst n:Int):List Int:=Yv (psN src dst n)
theorem Y9(src dst n:Int):(Z0 src dst n).length=12:=by unfold Z0;rw [JQ];rfl
theorem QnK{W1 w2:World}{ns:List Int}(sw:SlW W1 (some ⟨B,0,none⟩) ns)(g1:Ext w W1){m c:Nat}(h:w2=W1.alloc (.cells #[.slice (some ⟨B,0,none⟩) m c] 270))(hm:m=ns.length:=by rfl)(hl:ns.length≤1000:=by first|decide|(show 6≤1000;omega)):
  Calls Tryz.prog 236 #[.func (.func 254) #[] #[.pointer (some ⟨W1.heap.size,0,none⟩)]] w2 fun e w'=> ∃v,e= .returned v∧Ya w w' v (Yv ns):=by
 subst hm;have g2:Ext W1 w2:=by rw [h];exact Ext.al (Ext.rf _) _
 have hc:w2.cell? ⟨W1.heap.size,0,none⟩=some (.slice (some ⟨B,0,none⟩) ns.length c):=by rw [h];simp [go_sem]
 have hl2:Lt W1.heap.size w2:=by rw [h];simp [go_sem]
 refine(Qf5 254 #[.pointer (some ⟨W1.heap.size,0,none⟩)] QeR (Yv ns) w2 (by rw [JQ];omega) (fun n U w' hE hU=> ?_)).mono ?_
 ·exact Qhe n ns _ c w2 w' W1.heap.size U hE (sw.ext g2) hl ((hE.cell (p:=⟨W1.heap.size,0,none⟩) hl2).trans hc) (Xl hl2 hE.size) (fun k hk=>⟨hU k hk,fun e=>by have:=hU k hk;unfold Lt at hl2;omega⟩)
 ·rintro e w' ⟨v,h1,h2⟩;exact⟨v,h1,⟨h2.own.le (Xt g1.size g2.size),(g1.tr g2).tr h2.ext⟩⟩
theorem Qfn(src dst n:Int):ByR (Z0 src dst n):=QiK _
theorem SlW.row{ns:List Int}(h:Qc w B=(ns.map (Value.int .u16)).toArray)(hl:Lt B w):SlW w (some ⟨B,0,none⟩) ns:=fun k hk=>⟨B,0,rfl,hl,by rw [Qa,h];simp [List.getElem?_map,List.getElem?_eq_getElem hk]⟩
theorem Qd7(src dst n:Int)(w:World):
  Calls Tryz.prog 217 #[.int .u32 src,.int .u32 dst,.int .i64 n] w fun e w'=> ∃v,e= .returned v∧Ya w w' v (Z0 src dst n):=by
 go_enter Tryz.func217,Tryz.ntmps217
 go_upto_region 2 with(fail)
 simp only [Q1];obtain⟨W1,hW⟩: ∃W1,w.alloc (.cells #[.int .u16 (src/65536 % 65536),.int .u16 (src % 65536),.int .u16 (dst/65536 % 65536),.int .u16 (dst % 65536),.int .u16 6,.int .u16 (n % 65536)] 266)=W1:=⟨_,rfl⟩;have g1:Ext w W1:=by rw [←hW];exact Ext.al (Ext.rf _) _
 have sw:SlW W1 (some ⟨w.heap.size,0,none⟩) (psN src dst n):=SlW.row (by rw [←hW,Zh];rfl) (by rw [←hW];simp [go_sem]);rw [hW];clear hW
 go_wp2_with (first|(go_at_call 237;(with_reducible refine(QiL _ _ _ _).mono ?_);rintro e w2 ⟨rfl,h2⟩;have HC:=Xh (QnK sw g1 h2);clear h2)|(go_at_call 236;(with_reducible refine(HC.out).mono ?_);rintro e w3 ⟨v,rfl,h3⟩))
 go_ret;exact⟨v,rfl,h3⟩
theorem QlT{w2:World}{v:Value}{xs ys:List Int}(h:Ya w w1 v xs)(ho:w2.ownsRow w.heap.size 5 1 v2 (xs.length+ys.length) (xs.map (Value.int .u8)++ys.map (Value.int .u8)))(hg:w1.grownBy w2 v.ownBlock):Ya w w2 v2 (xs++ys):=by
 refine⟨?_,Mv.ext_of h.ext (Qcc h.own hg) (fun k hk=>hk)⟩;unfold OB;rw [List.length_append,List.map_append];exact ho
theorem QlU(src dst:Int)(p:Option Addr)(bs:List Int)(c:Nat)(w:World)(hs:SlB w p bs)(hl:bs.length≤1000):
  Calls Tryz.prog 175 #[.int .u32 src,.int .u32 dst,.slice p bs.length c] w fun e w'=> ∃v,e= .returned v∧Ya w w' v (Z0 src dst bs.length++bs):=by
 obtain⟨i0,hi,hz0,hz1,hz2⟩:=info_parts Yz
 cases p with
 |none=>
  have h0:bs= []:=hs.nil_of;subst h0
  go_enter Tryz.func175,Tryz.ntmps175
  go_wp2_with (go_at_call 217;(with_reducible refine(Qd7 src dst _ _).mono ?_);rintro e w2 ⟨v,rfl,h2⟩;obtain⟨g2,c2,rfl,k2,-,-,-,-⟩:=h2.own.at (by rw [Y9];omega);have HO:=Xh h2;clear h2)
  go_ret;exact⟨_,rfl,by rw [List.append_nil];exact HO.out⟩
 |some a=>
  have HS:=Xh hs;clear hs
  go_enter Tryz.func175,Tryz.ntmps175
  go_wp2_with (first|(go_at_call 217;(with_reducible refine(Qd7 src dst _ _).mono ?_);rintro e w2 ⟨v,rfl,h2⟩;have HN:=Xh ((HS.out).news h2.ext);have HO:=Xh h2;have hpl:=Y9 src dst bs.length;clear h2)|(at_builtin;refine wpList_append_own _ rfl _ _ 28 rfl w.heap.size 5 i0 (.int .u8 0) 1 1 Tryz.underlying28 hi hz0 hz1 hz2 rfl Dc _ _ _ rfl HO.out.own a bs.length c (bs.map (Value.int .u8)) rfl (by simp) HN.out (oneB _) (by unfold maxLen;omega) Om (HO.out.ext.size) ?_;intro v' w2 hown' hgrow _;have HOW:=Xh hown';have HG:=Xh hgrow;clear hown' hgrow))
  go_ret;exact⟨v',rfl,QlT HO.out HOW.out HG.out⟩
section
variable {P:Program} {ops:Array Oper} {md:Region.Mode} {C D:Nat→Prop} {r:Nat}
def QO(C D:Nat→Prop)(r:Nat)(P:Program)(md:Region.Mode)(ops:Array Oper)(Q:Act→World→Prop):Nat→Array Bool→Act→World→Prop
 |0,listed,a,w=>Region.ready md ops listed= []∧Q a w
 |fuel+1,listed,a,w=>(Region.ready md ops listed= []→Q a w)∧
  ∀i∈Region.ready md ops listed,Jd P ops i (fun a' w'=>((r≤i∨Mv C w w')∧Mv D w w')∧QO C D r P md ops Q fuel (listed.setIfInBounds i true) a' w') a w
theorem Qd8(hQ: ∀a w,Q a w→Q' .normal a w): ∀(fuel:Nat) (listed:Array Bool) (a:Act) (w:World),
  QO C D r P md ops Q fuel listed a w→wpAny P md ops Q' fuel listed a w
 |0,_,_,_,h=>⟨h.1,hQ _ _ h.2⟩
 |fuel+1,_,_,_,h=>⟨fun h0=>hQ _ _ (h.1 h0),fun i hi=>Qb7 (Jq (fun a' w' h1=>Qd8 hQ fuel _ a' w' h1.2) (h.2 i hi))⟩
def lateB(md:Region.Mode)(ops:Array Oper)(r k:Nat):Bool:=(List.range ops.size).all fun j=>decide (j<r)||((ops[j]?).map fun o=>o.after.any fun e=>Region.binds md e&&e.on==k).getD true
theorem QlV{k:Nat}(h:lateB md ops r k=true): ∀j oj,ops[j]?=some oj→r≤j→ ∃e∈oj.after,Region.binds md e=true∧e.on=k:=by
 intro j oj hj hr;unfold lateB at h;have:=List.all_eq_true.1 h j (List.mem_range.2 (Array.getElem?_eq_some_iff.1 hj).1);rw [hj,decide_eq_false Om]at this;simp only [Option.map_some,Option.getD_some,Bool.false_or,Array.any_eq_true',Bool.and_eq_true,beq_iff_eq]at this;obtain⟨e,he,hb,hk⟩:=this;exact⟨e,he,hb,hk⟩
theorem Qf6{v:Value}(hi:ops[i]?=some oi)(hlate: ∀j oj,ops[j]?=some oj→r≤j→ ∃e∈oj.after,Region.binds md e=true∧e.on=i)(hsel: ∀(j:Nat) (o:Oper) cs b,ops[j]?=some o→o.op≠ .select cs b):
  ∀(fuel:Nat) (listed:Array Bool) (a:Act) (w:World),
   (∀j oj,ops[j]?=some oj→j≠i→listed.getD j true=false→(∀e∈oj.after,Region.binds md e=true→e.on≠i)→oi.apart ops oj=true)→
   i∈Region.ready md ops listed→Yi C P ops w oi v a→
   QO C D r P md ops Q fuel (listed.setIfInBounds i true) (a.put oi.dst v) w→QO C D r P md ops Q (fuel+1) listed a w:=by
 intro fuel
 induction fuel with
 |zero=>
  intro listed a w _ hr hy H;refine⟨fun h=>(by rw [h]at hr;cases hr),fun j hj=> ?_⟩
  by_cases hji:j=i
  ·subst hji;exact hy.xOpK hi ⟨⟨.inr (Mv.refl _ _),Mv.refl _ _⟩,H⟩
  ·have:=ready_mono hj hji;rw [H.1]at this
   cases this
 |succ fuel ih=>
  intro listed a w hfree hr hy H;refine⟨fun h=>(by rw [h]at hr;cases hr),fun j hj=> ?_⟩
  by_cases hji:j=i
  ·subst hji;exact hy.xOpK hi ⟨⟨.inr (Mv.refl _ _),Mv.refl _ _⟩,H⟩
  ·have h1:=H.2 j (ready_mono hj hji);obtain⟨hjun,oj,hoj,hall⟩:=mem_ready.1 hj;have hnot: ∀e∈oj.after,Region.binds md e=true→e.on≠i:=fun e he hb heq=>by
    have h1:=hall e he hb;have h0:=(mem_ready.1 hr).1;rw [heq]at h1;rcases Nat.lt_or_ge i listed.size with h'|h'
    ·simp [h']at h0 h1;rw [h0]at h1;cases h1
    ·simp [Array.getElem?_eq_none h']at h1
   have h2:=QdR hoj (hfree j oj hoj hji hjun hnot) (fun cs b=>hsel i oi cs b hi) (fun cs b=>hsel j oj cs b hoj) hy h1;have hfree': ∀k ok,ops[k]?=some ok→k≠i→(listed.setIfInBounds j true).getD k true=false→
     (∀e∈ok.after,Region.binds md e=true→e.on≠i)→oi.apart ops ok=true:=fun k ok hk hki hun hno=>by
    refine hfree k ok hk hki ?_ hno
    by_cases hjk:j=k
    ·subst hjk;exact hjun
    ·rw [getD_set_ne true hjk]at hun;exact hun
   have hml: ∀{A B:World},(r≤j∨Mv C A B)→Mv C A B:=fun h=>by
    rcases h with h|h
    ·obtain⟨e,he,hb,hon⟩:=hlate j oj hoj h;exact absurd hon (hnot e he hb)
    ·exact h
   refine Jq (fun a' w' h3=>⟨h3.2.1,ih (listed.setIfInBounds j true) a' w' hfree' (ready_mono hr (Ne.symm hji)) (h3.1.later (hml h3.2.1.1)) ?_⟩) h2;have h4:=h3.2.2;rw [Array.setIfInBounds_comm _ _ hji];exact h4
theorem Qbr{v:Value}(hi:ops[i]?=some oi)(hsel: ∀(j:Nat) (o:Oper) cs b,ops[j]?=some o→o.op≠ .select cs b):
  ∀(fuel:Nat) (listed:Array Bool) (a:Act) (w:World),
   (∀j oj,ops[j]?=some oj→j≠i→listed.getD j true=false→(∀e∈oj.after,Region.binds md e=true→e.on≠i)→oi.apart ops oj=true)→
   i∈Region.ready md ops listed→Yi D P ops w oi v a→
   QO C D r P md ops Q fuel (listed.setIfInBounds i true) (a.put oi.dst v) w→QO C D r P md ops Q (fuel+1) listed a w:=by
 intro fuel
 induction fuel with
 |zero=>
  intro listed a w _ hr hy H;refine⟨fun h=>(by rw [h]at hr;cases hr),fun j hj=> ?_⟩
  by_cases hji:j=i
  ·subst hji;exact hy.xOpK hi ⟨⟨.inr (Mv.refl _ _),Mv.refl _ _⟩,H⟩
  ·have:=ready_mono hj hji;rw [H.1]at this
   cases this
 |succ fuel ih=>
  intro listed a w hfree hr hy H;refine⟨fun h=>(by rw [h]at hr;cases hr),fun j hj=> ?_⟩
  by_cases hji:j=i
  ·subst hji;exact hy.xOpK hi ⟨⟨.inr (Mv.refl _ _),Mv.refl _ _⟩,H⟩
  ·have h1:=H.2 j (ready_mono hj hji);obtain⟨hjun,oj,hoj,hall⟩:=mem_ready.1 hj;have hnot: ∀e∈oj.after,Region.binds md e=true→e.on≠i:=fun e he hb heq=>by
    have h1:=hall e he hb;have h0:=(mem_ready.1 hr).1;rw [heq]at h1;rcases Nat.lt_or_ge i listed.size with h'|h'
    ·simp [h']at h0 h1;rw [h0]at h1;cases h1
    ·simp [Array.getElem?_eq_none h']at h1
   have h2:=QdR hoj (hfree j oj hoj hji hjun hnot) (fun cs b=>hsel i oi cs b hi) (fun cs b=>hsel j oj cs b hoj) hy h1;have hfree': ∀k ok,ops[k]?=some ok→k≠i→(listed.setIfInBounds j true).getD k true=false→
     (∀e∈ok.after,Region.binds md e=true→e.on≠i)→oi.apart ops ok=true:=fun k ok hk hki hun hno=>by
    refine hfree k ok hk hki ?_ hno
    by_cases hjk:j=k
    ·subst hjk;exact hjun
    ·rw [getD_set_ne true hjk]at hun;exact hun
   refine Jq (fun a' w' h3=>⟨h3.2.1,ih (listed.setIfInBounds j true) a' w' hfree' (ready_mono hr (Ne.symm hji)) (h3.1.later h3.2.1.2) ?_⟩) h2;have h4:=h3.2.2;rw [Array.setIfInBounds_comm _ _ hji];exact h4
theorem Q2{a:Act}(hr:Region.ready md ops listed= [])(H:Q a w):QO C D r P md ops Q fuel listed a w:=by
 cases fuel with
 |zero=>exact⟨hr,H⟩
 |succ n=>exact⟨fun _=>H,fun i hi=>by rw [hr]at hi;cases hi⟩
theorem Qy{id:Nat}{Q:Exit→Act→World→Prop}{a:Act}(C D:Nat→Prop)(r:Nat)(hm:P.follows .mixedOrders=true)
  (h:QO C D r P .any ops (fun a w=>Q .normal a w) ops.size (Array.replicate ops.size false) a w.drew):(Code.region id ops true).wp P Q a w:=
 wp_region_any hm (Qd8 (fun _ _ h=>h) _ _ _ _ h)
def Qp(ops:Array Oper)(n:Nat):List Nat→Nat→Bool
 | [],_=>true
 |k::rest,m=>Region.free .any ops (msk n m) k&&upX ops (msk n m) k&&Qp ops n rest (m|||(1<<<k))
theorem QbR{k m:Nat}(ht:Qp ops N (k::rest) m=true)(hm:m|||(1<<<k)=m'):Region.free .any ops (msk N m) k=true∧upX ops (msk N m) k=true∧(msk N m).setIfInBounds k true=msk N m'∧Qp ops N rest m'=true:=by
 unfold Qp at ht;simp only [Bool.and_eq_true]at ht;obtain⟨⟨t1,t2⟩,t5⟩:=ht;exact⟨t1,t2,by rw [Qb9,hm],by rw [←hm];exact t5⟩
theorem ZA{k m:Nat}{v:Value}{a:Act}(hs:Region.noSelect ops=true)(ht:Qp ops N (k::rest) m=true)(hl:lateB .any ops r k=true)(hm:m|||(1<<<k)=m')
  (hi:ops[k]?=some oi)(hw:Region.wanted oi (yielded ops a.tmps)=true)(hy: ∀w',Mv C w w'→(execOp a.eval oi).run P w'= .ok (.value v) w')
  (H:Qp ops N rest m'=true→QO C D r P .any ops Q fuel (msk N m') (a.put oi.dst v) w):QO C D r P .any ops Q (fuel+1) (msk N m) a w:=by
 obtain⟨t1,t2,t4,t5⟩:=QbR ht hm;refine Qf6 hi (QlV hl) (Region.noSelect_spec hs) fuel _ a w (Region.free_spec hi t1) (by simpa using ZV t2) (.inl ⟨hw,hy⟩) ?_;rw [t4];exact H t5
theorem QnL{k m:Nat}{v:Value}{a:Act}(hs:Region.noSelect ops=true)(ht:Qp ops N (k::rest) m=true)(hm:m|||(1<<<k)=m')
  (hi:ops[k]?=some oi)(hw:Region.wanted oi (yielded ops a.tmps)=true)(hy: ∀w',Mv D w w'→(execOp a.eval oi).run P w'= .ok (.value v) w')
  (H:Qp ops N rest m'=true→QO C D r P .any ops Q fuel (msk N m') (a.put oi.dst v) w):QO C D r P .any ops Q (fuel+1) (msk N m) a w:=by
 obtain⟨t1,t2,t4,t5⟩:=QbR ht hm;refine Qbr hi (Region.noSelect_spec hs) fuel _ a w (Region.free_spec hi t1) (by simpa using ZV t2) (.inl ⟨hw,hy⟩) ?_;rw [t4];exact H t5
theorem QtU{k m:Nat}{a:Act}(hs:Region.noSelect ops=true)(ht:Qp ops N (k::rest) m=true)(hm:m|||(1<<<k)=m')
  (hi:ops[k]?=some oi)(hw:Region.wanted oi (yielded ops a.tmps)=false)
  (H:Qp ops N rest m'=true→QO C D r P .any ops Q fuel (msk N m') (a.put oi.dst undef) w):QO C D r P .any ops Q (fuel+1) (msk N m) a w:=by
 obtain⟨t1,t2,t4,t5⟩:=QbR ht hm;refine Qbr hi (Region.noSelect_spec hs) fuel _ a w (Region.free_spec hi t1) (by simpa using ZV t2) (.inr (.inl ⟨hw,rfl⟩)) ?_;rw [t4];exact H t5
structure QaL(C D:Nat→Prop)(r:Nat)(P:Program)(ops:Array Oper)(Q:Act→World→Prop)(fuel N k m:Nat)(a:Act)(w:World):Prop where
 h:Jd P ops k (fun a' w'=>((r≤k∨Mv C w w')∧Mv D w w')∧QO C D r P .any ops Q fuel (msk N (m|||(1<<<k))) a' w') a w
theorem Qs{k m:Nat}{a:Act}(hr:Region.ready .any ops (msk N m)= [k])(H:QaL C D r P ops Q fuel N k m a w):QO C D r P .any ops Q (fuel+1) (msk N m) a w:=by
 refine⟨fun h0=> ?_,fun j hj=> ?_⟩
 ·rw [hr]at h0;cases h0
 ·rw [hr]at hj;obtain rfl:j=k:=by simpa using hj
  rw [Qb9];exact H.h
theorem QlW{m:Nat}{a:Act}(hr:Region.ready .any ops (msk N m)= [i,j])(Hi:QaL C D r P ops Q fuel N i m a w)(Hj:QaL C D r P ops Q fuel N j m a w):QO C D r P .any ops Q (fuel+1) (msk N m) a w:=by
 refine⟨fun h0=> ?_,fun k hk=> ?_⟩
 ·rw [hr]at h0;cases h0
 ·rw [hr]at hk;have hk':k=i∨k=j:=by simpa using hk
  rw [Qb9];rcases hk' with rfl|rfl
  ·exact Hi.h
  ·exact Hj.h
theorem Zl{k m:Nat}{v:Value}{a:Act}(hm:m|||(1<<<k)=m')(hi:ops[k]?=some oi)(hw:Region.wanted oi (yielded ops a.tmps)=true)
  (he:(execOp a.eval oi).run P w= .ok (.value v) w1)(hE:(r≤k∨Mv C w w1)∧Mv D w w1)(H:QO C D r P .any ops Q fuel (msk N m') (a.put oi.dst v) w1):QaL C D r P ops Q fuel N k m a w:=by
 refine⟨?_⟩;unfold Jd;simp only [hi,hw,if_true,he,hm];exact⟨hE,H⟩
theorem QD{k m:Nat}{a:Act}(hm:m|||(1<<<k)=m')(hi:ops[k]?=some oi)(hw:Region.wanted oi (yielded ops a.tmps)=true)
  (he:(execOp a.eval oi).run P w= .ok .skip w1)(hE:(r≤k∨Mv C w w1)∧Mv D w w1)(H:QO C D r P .any ops Q fuel (msk N m') (a.put oi.dst undef) w1):QaL C D r P ops Q fuel N k m a w:=by
 refine⟨?_⟩;unfold Jd;simp only [hi,hw,if_true,he,hm];exact⟨hE,H⟩
theorem QsJ{R:Value→World→Prop}{k m:Nat}{f:FuncId}{a:Act}(hm:m|||(1<<<k)=m')(hi:ops[k]?=some oi)(hw:Region.wanted oi (yielded ops a.tmps)=true)
  (he:(execOp a.eval oi).run P w= .ok (.enter f args) w)(hc:Calls P f args w fun e w'=> ∃v,e= .returned v∧R v w'∧Ext w w')
  (H: ∀v w',Ext w w'→R v w'→QO C D r P .any ops Q fuel (msk N m') (a.put oi.dst v) w'):QaL C D r P ops Q fuel N k m a w:=by
 refine⟨?_⟩;unfold Jd;simp only [hi,hw,if_true,he,hm];exact hc.mono fun e w' ⟨v,h1,h2,h3⟩=>⟨v,h1,⟨.inr (Mv.of_ext h3),Mv.of_ext h3⟩,H v w' h3 h2⟩
theorem Zi{a:Act}(h:ops=E)(hR:R E)(hf:ops.size=N)
  (H:R ops→QO C D r P .any ops Q N (msk N 0) a w):QO C D r P .any ops Q ops.size (Array.replicate ops.size false) a w:=by
 rw [hf,QgX];exact H (h▸hR)
end
section
variable {P:Program} {ops:Array Oper} {C D:Nat→Prop} {r:Nat}
theorem tW{k m:Nat}{a:Act}(m':Nat)(v:Value)(hs:Region.noSelect ops=true)(ht:Qp ops N (k::rest) m=true)(hi:ops[k]?=some oi)(hy: ∀w',Mv D w w'→(execOp a.eval oi).run P w'= .ok (.value v) w')
  (H:Qp ops N rest m'=true→QO C D r P .any ops Q fuel (msk N m') (a.put oi.dst v) w)(hm:m|||(1<<<k)=m':=by rfl)(hw:Region.wanted oi (yielded ops a.tmps)=true:=by kernel_rfl):QO C D r P .any ops Q (fuel+1) (msk N m) a w:=QnL hs ht hm hi hw hy H
theorem tWk{k m:Nat}{a:Act}(m':Nat)(v:Value)(hs:Region.noSelect ops=true)(ht:Qp ops N (k::rest) m=true)(hi:ops[k]?=some oi)
  (H:Qp ops N rest m'=true→QO C D r P .any ops Q fuel (msk N m') (a.put oi.dst v) w)(hm:m|||(1<<<k)=m':=by rfl)(hw:Region.wanted oi (yielded ops a.tmps)=true:=by kernel_rfl)(hy: ∀w',Mv D w w'→(execOp a.eval oi).run P w'= .ok (.value v) w':=by(intro _ _;kernel_rfl)):QO C D r P .any ops Q (fuel+1) (msk N m) a w:=QnL hs ht hm hi hw hy H
theorem tVU{k m:Nat}{a:Act}(m':Nat)(hs:Region.noSelect ops=true)(ht:Qp ops N (k::rest) m=true)(hi:ops[k]?=some oi)
  (H:Qp ops N rest m'=true→QO C D r P .any ops Q fuel (msk N m') (a.put oi.dst undef) w)(hm:m|||(1<<<k)=m':=by rfl)(hw:Region.wanted oi (yielded ops a.tmps)=false:=by kernel_rfl):QO C D r P .any ops Q (fuel+1) (msk N m) a w:=QtU hs ht hm hi hw H
theorem sV{k m:Nat}{f:FuncId}{a:Act}(m':Nat)(R:Value→World→Prop)(hr:Region.ready .any ops (msk N m)= [k])(hi:ops[k]?=some oi)(hc:Calls P f args w fun e w'=> ∃v,e= .returned v∧R v w'∧Ext w w')
  (H: ∀v w',Ext w w'→R v w'→QO C D r P .any ops Q fuel (msk N m') (a.put oi.dst v) w')(hm:m|||(1<<<k)=m':=by rfl)(hw:Region.wanted oi (yielded ops a.tmps)=true:=by kernel_rfl)(he:(execOp a.eval oi).run P w= .ok (.enter f args) w:=by kernel_rfl):QO C D r P .any ops Q (fuel+1) (msk N m) a w:=Qs hr (QsJ hm hi hw he hc H)
end
@[go_sem] theorem Qyg{o m:Nat}:Fits o m #[a0,a1,a2,a3,a4]=(o+m≤5):=by unfold Fits;rfl
@[go_sem] theorem Qvl:Qo #[a0,a1,a2,a3,a4] 5=True:=by unfold Qo;exact eq_true rfl
@[go_sem] theorem Qyh:QM #[a0,a1,a2,a3,a4]=(a0.oneCell'=true∧a1.oneCell'=true∧a2.oneCell'=true∧a3.oneCell'=true∧a4.oneCell'=true):=by
 unfold QM;simp [and_assoc]
@[go_sem ↓ high] theorem Qws:(Value.agg #[a0,a1,a2,a3,a4]).cells=#[a0,a1,a2,a3,a4]:=QF _
@[go_sem] theorem Qyi:QA #[a0,a1,a2,a3,a4] 0 5=#[a0,a1,a2,a3,a4]:=rfl
theorem Qf7:(Tryz.prog.info? 142).map (·.size)=some 5:=Kr
theorem QlX{b o:Nat}(h:o+5≤(Qc w b).size):(Instr.loadAt 142 (.pointer (some ⟨b,o,none⟩))).run Tryz.prog w= .ok (.agg ((Qc w b).extract o (o+5))) w:=by
 have:=run_loadAt_mid w b o 142 ((Qc w b).extract o (o+5)).toList _ (QC w b o (o+5)) Tryz.underlying142 rfl (by rw [Qf7];simp;omega)
 rwa [Array.toArray_toList]at this
theorem QiM{b o:Nat}(h:o+5≤(Qc w b).size):(loadVar 142 ⟨b,o,none⟩).run Tryz.prog w= .ok (.agg ((Qc w b).extract o (o+5))) w:=by
 have:=run_loadVar_mid w b o 142 ((Qc w b).extract o (o+5)).toList _ (QC w b o (o+5)) Tryz.underlying142 rfl (by rw [Qf7];simp;omega)
 rwa [Array.toArray_toList]at this
@[go_sem ↓ high] theorem Qf8(ρ:Operand→Value)(dst:Option Tmp)(x:Operand)(ty:TypeId)(pos:String)(after:Array Edge)(g:Option (Nat×Bool))(w:World)
  (hx:ρ x= .pointer (some ⟨Qb (ρ x),Qd (ρ x),none⟩))(h:Fits (Qd (ρ x)) 5 (Qc w (Qb (ρ x)))):
  (execOp ρ ⟨dst,.load 142 x,ty,pos,after,g⟩).run Tryz.prog w= .ok (.value (.agg (QA (Qc w (Qb (ρ x))) (Qd (ρ x)) 5))) w:=by
 unfold Fits at h;generalize hB:Qb (ρ x)=B at*;generalize hO:Qd (ρ x)=O at*;simp only [execOp,hx,Sem.run_bind,QlX h,Result.andThen_ok,Sem.run_pure,QA]
@[go_sem ↓ high] theorem QsK{l:Option Nat}{x:Operand}{ty:TypeId}{g:Option (Nat×Bool)}(w:World)
  (hx:ρ x= .pointer (some ⟨Qb (ρ x),Qd (ρ x),none⟩))(h:Fits (Qd (ρ x)) 5 (Qc w (Qb (ρ x)))):
  (Oper.semAt l ρ ⟨dst,.load 142 x,ty,pos,after,g⟩).run Tryz.prog w= .ok (.value (.agg (QA (Qc w (Qb (ρ x))) (Qd (ρ x)) 5))) w:=by rw [Oper.semAt_eq _ _ _ (fun c h=>by cases h)];exact Qf8 ρ dst x ty pos after g w hx h
@[go_sem ↓ high] theorem QeS(ρ:Operand→Value)(dst:Option Tmp)(x y:Operand)(ty:TypeId)(pos:String)(after:Array Edge)(g:Option (Nat×Bool))(w:World)
  (hx:ρ x= .pointer (some ⟨Qb (ρ x),Qd (ρ x),none⟩))(hy:ρ y= .agg (ρ y).cells)(hs:Qo (ρ y).cells 5)(h:Fits (Qd (ρ x)) 5 (Qc w (Qb (ρ x))))(hz:Qt w (Qb (ρ x))=(0,0))(h1:QM (ρ y).cells):
  (execOp ρ ⟨dst,.store 142 x y,ty,pos,after,g⟩).run Tryz.prog w= .ok .skip (Qe w (Qb (ρ x)) (Qd (ρ x)) (ρ y).cells):=by
 unfold Fits at h;unfold Qo at hs;generalize hB:Qb (ρ x)=B at*;generalize hO:Qd (ρ x)=O at*;generalize hC:(ρ y).cells=C at*;have hst:(Instr.storeAt 142 (.pointer (some ⟨B,O,none⟩)) (.agg C)).run Tryz.prog w= .ok () (Qe w B O C):=
  run_storeAt_mid w B O 142 C (fun j hj=>⟨by rw [Qa,Array.getElem?_eq_getElem Om];rfl,Ql hz _⟩) (by rw [Qf7,hs]) h1
 simp only [execOp,hx,hy,Sem.run_bind,hst,Result.andThen_ok,Sem.run_pure]
@[go_sem ↓ high] theorem QqU{l:Option Nat}{x y:Operand}{ty:TypeId}{g:Option (Nat×Bool)}(w:World)
  (hx:ρ x= .pointer (some ⟨Qb (ρ x),Qd (ρ x),none⟩))(hy:ρ y= .agg (ρ y).cells)(hs:Qo (ρ y).cells 5)(h:Fits (Qd (ρ x)) 5 (Qc w (Qb (ρ x))))(hz:Qt w (Qb (ρ x))=(0,0))(h1:QM (ρ y).cells):
  (Oper.semAt l ρ ⟨dst,.store 142 x y,ty,pos,after,g⟩).run Tryz.prog w= .ok .skip (Qe w (Qb (ρ x)) (Qd (ρ x)) (ρ y).cells):=by rw [Oper.semAt_eq _ _ _ (fun c h=>by cases h)];exact QeS ρ dst x y ty pos after g w hx hy hs h hz h1
theorem Qd9{g:Nat}(hp:tmps.getD 6 undef= .pointer (some ⟨g,0,none⟩))(hr:Qc w g=cs)(hc:cs.size=5):
  (results Tryz.f101 tmps).run Tryz.prog w= .ok (.tuple #[.agg cs,tmps.getD 7 undef]) w:=
 QJ rfl tmps w g hp (by
  rw [QiM (by rw [hr,hc];omega),hr]
  rw [show cs.extract 0 (0+5)=cs by rw [Nat.zero_add,←hc];simp])
def QnM(ops:Array Oper):Prop:=Region.noSelect ops=true∧Qp ops 21 [0,2,3,5,6,7,8,9,10,11] 0=true∧Region.ready .any ops (msk 21 4077)= [1]∧Qp ops 21 [13] 4079=true∧Region.ready .any ops (msk 21 12271)= [4]∧Region.ready .any ops (msk 21 12287)= [12]∧Region.ready .any ops (msk 21 16383)= [14]∧Qp ops 21 [15] 32767=true∧Region.ready .any ops (msk 21 65535)= [16]∧Qp ops 21 [17] 131071=true∧Region.ready .any ops (msk 21 262143)= [18]∧Qp ops 21 [19] 524287=true∧Region.ready .any ops (msk 21 1048575)= [20]∧Region.ready .any ops (msk 21 2097151)= []∧lateB .any ops 14 10=true
theorem QiN:QnM ((Tryz.f101.body.bind (Qg 7)).getD #[]):=⟨Kr,Kr,Kr,Kr,Kr,Kr,Kr,Kr,Kr,Kr,Kr,Kr,Kr,Kr,Kr⟩
theorem QaM{C:Nat→Prop}{v:Int}(h0:w.cell? ⟨B,i,none⟩=some (.int .i64 v))(hl:Lt B w)(hC: ¬C B){q:Operand}{ty:TypeId}{g:Option (Nat×Bool)}
  (hx:ρ q= .pointer (some ⟨B,i,none⟩)): ∀w',Mv C w w'→(execOp ρ ⟨dst,.load 3 q,ty,pos,after,g⟩).run Tryz.prog w'= .ok (.value (.int .i64 v)) w':=by
 intro w' hE;have h1:w'.cell? ⟨B,i,none⟩=some (.int .i64 v):=by rw [Qa,Qf (hE.same B hl hC),←Qa];exact h0
 simp only [execOp,hx];go_simp
structure Tc where
 sp:Int
 dp:Int
 fl:Int
 hd:Int
 da:List Int
def tcV(t:Tc)(v:Value):Array Value:=#[.int .u16 t.sp,.int .u16 t.dp,.int .u8 t.fl,.int .i64 t.hd,v]
abbrev QnN:Array Value:=#[.int .u16 0,.int .u16 0,.int .u8 0,.int .i64 0,.slice none 0 0]
def tcN(bs:List Int):Nat:=(bt bs 12).toNat/16*4
def Ye(src dst:Int)(bs:List Int):Int:=
 if bs.length<20 then 8 else if tcN bs<20∨bs.length<tcN bs then 8 else if QbQ (Z0 src dst bs.length++bs)≠65535 then 9 else 0
def tcT(bs:List Int):Tc:=⟨w16 bs 0,w16 bs 2,bt bs 13,tcN bs,bs.drop (tcN bs)⟩
inductive QkR(src dst:Int)(bs:List Int)(w:World):Ending→World→Prop
 |no {w':World} (h:Ye src dst bs≠0) (e:Ext w w'):QkR src dst bs w (.returned (.tuple #[.agg QnN,.int .u8 (Ye src dst bs)])) w'
 |yes {w':World} {v:Value} (h:Ye src dst bs=0) (e:Ext w w') (ho:OB w' w.heap.size v (tcT bs).da):QkR src dst bs w (.returned (.tuple #[.agg (tcV (tcT bs) v),.int .u8 0])) w'
theorem Qea{v:Value}(h:Ya w w1 v bs)(hr:ByR bs)(hl:bs.length≤2000):Calls Tryz.prog 174 #[v] w1 fun e w'=>e= .returned (.bool (QbQ bs==65535))∧Ext w1 w':=by
 obtain⟨p,c,rfl,hc,hs⟩:=h.sl;exact QiI bs p c w1 hs hr Om hc
theorem Qhf(src dst:Int)(p:Option Addr)(bs:List Int)(c:Nat)(w:World)(hs:SlB w p bs)(hr:ByR bs)(hl:bs.length≤1000)(hlc:bs.length≤c):
  Calls Tryz.prog 101 #[.int .u32 src,.int .u32 dst,.slice p bs.length c] w fun e w'=>QkR src dst bs w e w':=by
 have HS:=Xh hs;have HR:=Xh hr;clear hs hr
 go_enter Tryz.func101,Tryz.ntmps101
 go_upto_region 1 with(fail)
 obtain⟨W0,hW⟩: ∃W0,w.alloc (.cells #[.int .u16 0,.int .u16 0,.int .u8 0,.int .i64 0,.slice none 0 0] 142)=W0:=⟨_,rfl⟩;have E:Ext w W0:=by rw [←hW];exact Ext.al (Ext.rf _) _
 have hR:Qc W0 w.heap.size=QnN:=by rw [←hW];exact Zh _ _ _ _
 have hZ:Qt W0 w.heap.size=(0,0):=by rw [←hW];simp [go_sem]
 have hL:Lt w.heap.size W0:=by rw [←hW];simp [go_sem]
 rw [hW];clear hW
 go_wp2_with (fail)
 refine Qr 0 rfl ?_;rcases Nat.lt_or_ge bs.length 20 with h20|h20
 ·have h20':(bs.length:Int)<20:=by omega
  have HW:=Xh (show Ye src dst bs=8 by unfold Ye;rw [if_pos h20])
  go_wp2_with (fail)
  go_step3;refine⟨rfl,?_⟩;go_wp2;rw [Exit.noGoto_ret];exact bodyPost_ret (Qd9 rfl (Qq _ _ _ (by rw [hR];try rfl)) rfl) rfl (by rw [←HW.out];exact .no (by rw [HW.out];omega) (Ext.sa _ (Nat.le_refl _) E))
 have h20': ¬(bs.length:Int)<20:=by omega
 have hbig: ¬(65535:Int)<bs.length:=by omega
 have HS0:=Xh (HS.out.ext E);obtain⟨b,off,rfl,hbl,-⟩:=HS.out 0 Om;obtain⟨x,hx⟩: ∃x,bt bs 12=x:=⟨_,rfl⟩;have c12:=(HS0.out.bt 12 Om).1;have lb:=(HS0.out.bt 12 Om).2;rw [hx]at c12;have b12:=Qat HR.out 12;rw [hx]at b12;have z12:(12:Int)<bs.length:=by omega
 have hN:x/16*4=((tcN bs:Nat):Int):=by unfold tcN;rw [hx];omega
 have hN64:tcN bs≤60:=by unfold tcN;omega
 obtain⟨N,hNN⟩: ∃N,tcN bs=N:=⟨_,rfl⟩;rw [hNN]at hN hN64;have HNN:=Xh hNN;have HX:=Xh hx;clear hx hNN;have rz0:RowZ W0 w.heap.size QnN:=⟨hR,hZ,hL⟩;have c3:=rz0.cell 3 (by show 3<5;omega);have f3:=rz0.frz 3
 go_upto_region 4 with(fail)
 obtain⟨W1,hW⟩: ∃W1,W0.setCell ⟨w.heap.size,3,none⟩ (.int .i64 (N:Nat))=W1:=⟨_,rfl⟩;have rz:RowZ W1 w.heap.size #[.int .u16 0,.int .u16 0,.int .u8 0,.int .i64 (N:Nat),.slice none 0 0]:=by rw [←hW];exact rz0.set 3 _
 have gS:Mv (fun k=>k=w.heap.size) W0 W1:=by rw [←hW];exact Mv.st _ (.inl rfl) (Mv.refl _ _)
 have E:=Mv.ext_of E gS (fun k e=>by rw [e];exact Nat.le_refl _);have s:=HS.out.ext E;rw [hW];clear hW rz0 c3 f3 hR hZ hL c12 lb gS HS0 z12 hN;have hR:=rz.r;have hZ:=rz.z;have hL:=rz.l;have c3:=rz.cell 3 (by show 3<5;omega)
 by_cases t3:N<20
 ·have t3':(N:Int)<20:=by omega
  have HW:=Xh (show Ye src dst bs=8 by unfold Ye;rw [if_neg Om,HNN.out,if_pos (.inl t3)])
  go_wp2_with (fail)
  go_step3;refine⟨rfl,?_⟩;go_wp2;rw [Exit.noGoto_ret];exact bodyPost_ret (Qd9 rfl (Qq _ _ _ (by rw [hR];try rfl)) rfl) rfl (by rw [←HW.out];exact .no (by rw [HW.out];omega) (Ext.sa _ (Nat.le_refl _) E))
 have t3': ¬(N:Int)<20:=by omega
 by_cases t4:bs.length<N
 ·have t4':(bs.length:Int)<N:=by omega
  have HW:=Xh (show Ye src dst bs=8 by unfold Ye;rw [if_neg Om,HNN.out,if_pos (.inr t4)])
  go_wp2_with (fail)
  go_step3;refine⟨rfl,?_⟩;go_wp2;rw [Exit.noGoto_ret];exact bodyPost_ret (Qd9 rfl (Qq _ _ _ (by rw [hR];try rfl)) rfl) rfl (by rw [←HW.out];exact .no (by rw [HW.out];omega) (Ext.sa _ (Nat.le_refl _) E))
 have t4': ¬(bs.length:Int)<N:=by omega
 have U3:=Xh (show ¬(tcN bs<20∨bs.length<tcN bs)by rw [HNN.out];omega);have HWH:=Xh (QlU src dst (some ⟨b,off,none⟩) bs c W1 s hl);have HPR:=Xh (ByR.app (Qfn src dst bs.length) HR.out);have HPL:=Xh (show(Z0 src dst bs.length++bs).length≤2000 by rw [List.length_append,Y9];omega);obtain⟨ws,hws⟩: ∃ws,Z0 src dst bs.length++bs=ws:=⟨_,rfl⟩;rw [hws]at HWH HPR HPL;have HWS:=Xh hws;have HE:=Xh E;have HRZ:=Xh rz;have HSS:=Xh s;clear hws hR hZ hL s E
 cases t5:(QbQ ws==65535)
 ·have HW:=Xh (show Ye src dst bs=9 by unfold Ye;rw [if_neg Om,if_neg U3.out,HWS.out,if_pos (by simpa using t5)])
  go_wp2_with (first|(go_at_call 175;(with_reducible refine(HWH.out).mono ?_);rintro e WD ⟨vw,rfl,h3⟩;have HRI:=Xh (Qea h3 HPR.out HPL.out);have HE3:=Xh h3.ext;clear h3)|(go_at_call 174;(with_reducible refine(HRI.out).mono ?_);rw [t5];rintro e WC ⟨rfl,gC⟩;have rz:=HRZ.out.ext (HE3.out.tr gC);have E:=HE.out.tr (HE3.out.tr gC);have s:=HSS.out.ext (HE3.out.tr gC);have hR:=rz.r;have hZ:=rz.z;have hL:=rz.l))
  go_step3;refine⟨rfl,?_⟩;go_wp2;rw [Exit.noGoto_ret];exact bodyPost_ret (Qd9 rfl (Qq _ _ _ (by rw [hR];try rfl)) rfl) rfl (by rw [←HW.out];exact .no (by rw [HW.out];omega) (Ext.sa _ (Nat.le_refl _) E))
 have HW:=Xh (show Ye src dst bs=0 by unfold Ye;rw [if_neg Om,if_neg U3.out,HWS.out,if_neg (by simpa using t5)])
 go_upto_region 7 with(first|(go_at_call 175;(with_reducible refine(HWH.out).mono ?_);rintro e WD ⟨vw,rfl,h3⟩;have HRI:=Xh (Qea h3 HPR.out HPL.out);have HE3:=Xh h3.ext;clear h3)|(go_at_call 174;(with_reducible refine(HRI.out).mono ?_);rw [t5];rintro e WC ⟨rfl,gC⟩;have rz:=HRZ.out.ext (HE3.out.tr gC);have E:=HE.out.tr (HE3.out.tr gC);have s:=HSS.out.ext (HE3.out.tr gC);have hR:=rz.r;have hZ:=rz.z;have hL:=rz.l))
 have hC: ¬(fun k=>w.heap.size≤k) b:=Nat.not_le_of_lt hbl;have HRR:=HR.out;have HHL:=Xh HE3;clear hR hZ hL gC t5 HWH HPR HPL HE HRZ HSS HHL c3;refine Qy (fun _=>False) (fun k=>w.heap.size≤k) 14 Kr ?_;obtain⟨WE,hW⟩: ∃Wdr,World.drew WC=Wdr:=⟨_,rfl⟩;have gD:Ext WC WE:=by rw [←hW];exact Ext.dr (Ext.rf _)
 rw [hW];clear hW;have E:=E.tr gD;have s:=s.ext gD;have rz:=rz.ext gD;refine Zi (N:=21) (R:=QnM) (E:=((Tryz.f101.body.bind (Qg 7)).getD #[])) Kr QiN Kr fun hS=> ?_;have hT:=hS.2.1;refine tWk 1 (.slice (some ⟨b,off,none⟩) bs.length c) hS.1 hT rfl fun hT=> ?_;refine tWk 5 (.slice (some ⟨b,off,none⟩) bs.length c) hS.1 hT rfl fun hT=> ?_;refine tW 13 (.slice (some ⟨b,off+2,none⟩) (bs.length- 2) (c- 2)) hS.1 hT rfl (fun w' _=>JF (m:=bs.length) (c:=c) 2 Om Om Kr Kr w') fun hT=> ?_;refine tWk 45 (.slice (some ⟨b,off,none⟩) bs.length c) hS.1 hT rfl fun hT=> ?_;refine tW 109 (.pointer (some ⟨b,off+13,none⟩)) hS.1 hT rfl (fun w' _=>Zf (m:=bs.length) (c:=c) 13 Om Kr Kr w') fun hT=> ?_;refine tW 237 (.int .u8 (bt bs 13)) hS.1 hT rfl (QkL s 13 Om hC Kr) fun hT=> ?_;refine tWk 493 (.slice (some ⟨b,off,none⟩) bs.length c) hS.1 hT rfl fun hT=> ?_;refine tWk 1005 (.pointer (some ⟨w.heap.size,3,none⟩)) hS.1 hT rfl fun hT=> ?_;refine ZA (N:=21) (k:=10) (m':=2029) (v:= .int .i64 (N:Nat)) hS.1 hT hS.2.2.2.2.2.2.2.2.2.2.2.2.2.2 rfl rfl Kr (QaM (rz.cell 3 (by show 3<5;omega)) rz.l (fun h=>h) Kr) fun hT=> ?_;refine tW 4077 (.slice (ZC b off c N) (bs.length- N) (c- N)) hS.1 hT rfl (fun w' _=>QaJ (lo:=N) (m:=bs.length) Om Om Kr Kr w') fun hT=> ?_;refine sV 4079 (fun v _=>v= .int .u16 (w16 bs 0)) hS.2.2.1 rfl (Zz (QkK s HRR 0 (bs.length- 0) (c- 0) Om Om)) ?_;rintro _ WF1 gWF1 rfl;have E:=E.tr gWF1;have s:=s.ext gWF1;have rz:=rz.ext gWF1;have hT:=hS.2.2.2.1;refine tWk 12271 (.pointer (some ⟨w.heap.size,0,none⟩)) hS.1 hT rfl fun hT=> ?_;refine sV 12287 (fun v _=>v= .int .u16 (w16 bs 2)) hS.2.2.2.2.1 rfl (Zz (QkK s HRR 2 (bs.length- 2) (c- 2) Om Om)) ?_;rintro _ WF2 gWF2 rfl;have E:=E.tr gWF2;have s:=s.ext gWF2;have rz:=rz.ext gWF2;refine sV 16383 (fun v w'=>OBn w' w.heap.size v (bs.drop N)) hS.2.2.2.2.2.1 rfl (Qf2 (p:=ZC b off c N) (n:=bs.length- N) (c:=c- N) (lo:=w.heap.size) (s.cut N Om) (by rw [List.length_drop];omega) (by rw [List.length_drop]) rz.l) ?_;rintro vp WF3 gWF3 o2;have E:=E.tr gWF3;have s:=s.ext gWF3;have rz:=rz.ext gWF3;refine Qs hS.2.2.2.2.2.2.1 (QD (m':=32767) rfl rfl Kr (Qg9 (v:=w16 bs 0) (rz.cell 0 (by show 0<5;omega)) (rz.frz 0) Kr Kr) ⟨.inl Dc,(Mv.st _ (.inl (Nat.le_refl _)) (Mv.refl _ _))⟩ ?_);obtain⟨WF4,hWF4⟩: ∃WF4,World.setCell WF3 ⟨w.heap.size,0,none⟩ (.int .u16 (w16 bs 0))=WF4:=⟨_,rfl⟩;have gS:Mv (fun k=>k=w.heap.size) WF3 WF4:=by rw [←hWF4];exact Mv.st _ (.inl rfl) (Mv.refl _ _)
 have E:=Mv.ext_of E gS (fun k e=>by rw [e];exact Nat.le_refl _);have o2:=o2.mv gS (fun k e=>by omega);have rz:RowZ WF4 w.heap.size #[.int .u16 (w16 bs 0),.int .u16 (0),.int .u8 (0),.int .i64 (N:Nat),.slice none 0 0]:=by rw [←hWF4];exact rz.set 0 _
 rw [hWF4];clear hWF4;have hT:=hS.2.2.2.2.2.2.2.1;refine tWk 65535 (.pointer (some ⟨w.heap.size,1,none⟩)) hS.1 hT rfl fun hT=> ?_;refine Qs hS.2.2.2.2.2.2.2.2.1 (QD (m':=131071) rfl rfl Kr (Qg9 (v:=w16 bs 2) (rz.cell 1 (by show 1<5;omega)) (rz.frz 1) Kr Kr) ⟨.inl Dc,(Mv.st _ (.inl (Nat.le_refl _)) (Mv.refl _ _))⟩ ?_);obtain⟨WF5,hWF5⟩: ∃WF5,World.setCell WF4 ⟨w.heap.size,1,none⟩ (.int .u16 (w16 bs 2))=WF5:=⟨_,rfl⟩;have gS:Mv (fun k=>k=w.heap.size) WF4 WF5:=by rw [←hWF5];exact Mv.st _ (.inl rfl) (Mv.refl _ _)
 have E:=Mv.ext_of E gS (fun k e=>by rw [e];exact Nat.le_refl _);have o2:=o2.mv gS (fun k e=>by omega);have rz:RowZ WF5 w.heap.size #[.int .u16 (w16 bs 0),.int .u16 (w16 bs 2),.int .u8 (0),.int .i64 (N:Nat),.slice none 0 0]:=by rw [←hWF5];exact rz.set 1 _
 rw [hWF5];clear hWF5;have hT:=hS.2.2.2.2.2.2.2.2.2.1;refine tWk 262143 (.pointer (some ⟨w.heap.size,2,none⟩)) hS.1 hT rfl fun hT=> ?_;refine Qs hS.2.2.2.2.2.2.2.2.2.2.1 (QD (m':=524287) rfl rfl Kr (Qf3 (v:=bt bs 13) (rz.cell 2 (by show 2<5;omega)) (rz.frz 2) Kr Kr) ⟨.inl Dc,(Mv.st _ (.inl (Nat.le_refl _)) (Mv.refl _ _))⟩ ?_);obtain⟨WF6,hWF6⟩: ∃WF6,World.setCell WF5 ⟨w.heap.size,2,none⟩ (.int .u8 (bt bs 13))=WF6:=⟨_,rfl⟩;have gS:Mv (fun k=>k=w.heap.size) WF5 WF6:=by rw [←hWF6];exact Mv.st _ (.inl rfl) (Mv.refl _ _)
 have E:=Mv.ext_of E gS (fun k e=>by rw [e];exact Nat.le_refl _);have o2:=o2.mv gS (fun k e=>by omega);have rz:RowZ WF6 w.heap.size #[.int .u16 (w16 bs 0),.int .u16 (w16 bs 2),.int .u8 (bt bs 13),.int .i64 (N:Nat),.slice none 0 0]:=by rw [←hWF6];exact rz.set 2 _
 rw [hWF6];clear hWF6;have hT:=hS.2.2.2.2.2.2.2.2.2.2.2.1;refine tWk 1048575 (.pointer (some ⟨w.heap.size,4,none⟩)) hS.1 hT rfl fun hT=> ?_;refine Qs hS.2.2.2.2.2.2.2.2.2.2.2.2.1 (QD (m':=2097151) rfl rfl Kr (Qd5 (v:=vp) (rz.cell 4 (by show 4<5;omega)) (rz.frz 4) o2.slice Kr Kr) ⟨.inl Dc,(Mv.st _ (.inl (Nat.le_refl _)) (Mv.refl _ _))⟩ ?_);obtain⟨WF7,hWF7⟩: ∃WF7,World.setCell WF6 ⟨w.heap.size,4,none⟩ (vp)=WF7:=⟨_,rfl⟩;have gS:Mv (fun k=>k=w.heap.size) WF6 WF7:=by rw [←hWF7];exact Mv.st _ (.inl rfl) (Mv.refl _ _)
 have E:=Mv.ext_of E gS (fun k e=>by rw [e];exact Nat.le_refl _);have o2:=o2.mv gS (fun k e=>by omega);have rz:RowZ WF7 w.heap.size #[.int .u16 (w16 bs 0),.int .u16 (w16 bs 2),.int .u8 (bt bs 13),.int .i64 (N:Nat),vp]:=by rw [←hWF7];exact rz.set 4 _
 rw [hWF7];clear hWF7;refine Q2 hS.2.2.2.2.2.2.2.2.2.2.2.2.2.1 ?_;clear hS hT;go_simp;have hR:=rz.r;have hZ:=rz.z;have v1:vp.oneCell'=true:=by obtain⟨_,_,_,h⟩:=o2.slice;rw [h];rfl
 have HE:=Xh E;have HO:=Xh o2;clear E o2 gD;go_wp2;simp only [Exit.jump];have gS:Mv (fun k=>k=w.heap.size) WF7 (Qe WF7 w.heap.size 0 #[.int .u16 (w16 bs 0),.int .u16 (w16 bs 2),.int .u8 (bt bs 13),.int .i64 (N:Nat),vp]):=Mv.sa _ rfl (Mv.refl _ _);refine bodyPost_ret (Qd9 rfl (Qq _ _ _ (by rw [hR];try rfl)) rfl) rfl ?_;have h2:=HO.out.mv gS (fun k e=>by omega);have h3:=QkR.yes (src:=src) (dst:=dst) (bs:=bs) (v:=vp) HW.out (Mv.ext_of HE.out gS (fun k e=>by rw [e];exact Nat.le_refl _)) (by unfold tcT;rw [HNN.out];exact h2.ob);unfold tcT at h3;rw [HNN.out]at h3;exact h3
def QkS{α:Type}(F:Fence)(n:Nat)(P:Program)(g:Nat)(lb:Array Value)(encs:α→Array Value)(T U:Nat→Prop)(S:World→Prop)(xs:List α)(w:World):Prop:=
 ∀(l:Nat) (J:Nat→World→Prop) (Jx:World→Prop) (W:World),Ext w W→w.heap.size+2≤W.heap.size→
  (∀i A B,J i A→Mv T A B→J i B)→(∀A B,Jx A→Mv T A B→Jx B)→
  (∃(fn:FuncId) (tm:Array Value→Array Value) (assign body:Code),∀i x W1,J i W1→xs[i]?=some x→
   (Instr.yield l (encs x)).run P W1= .ok (.round l fn (tm (encs x)) assign body) W1∧
   RoundIn F (n- 1) P l fn (tm (encs x)) assign body W1 fun e W'=> ∃b:Bool,e= .returned (.bool b)∧((b=true∧J (i+1) W'∧Mv (fun k=>U k∨k=w.heap.size∨k=w.heap.size+1) W1 W')∨(b=false∧Jx W')))→
  J 0 W→
  CallsIn F n P g (#[.func (.yield l) #[] #[]]++lb) W fun e W'=>(∃v,e= .returned v)∧((J xs.length W'∧S W')∨Jx W')
def Qwt(U:Nat→Prop)(I:Nat→World→Prop)(Ix:Code→World→Prop)(i:Nat)(W:World):Exit→Act→World→Prop
 | .normal,_,W'=>Mv U W W'∧I (i+1) W'
 | .ret,_,W'=>Mv U W W'∧Ix .ret W'
 | .exit id,_,W'=>Mv U W W'∧Ix (.exit id) W'
 | .goto t,_,W'=>Mv U W W'∧Ix (.goto t) W'
 | .panic _,_,_=>False
 | .outgrown,_,_=>False
theorem QaN{α:Type}{F:Fence}{n:Nat}{g:Operand}{ps:Array Tmp}{assign body:Code}{Q:Exit→Act→World→Prop}{a:Act}
  (hro:F.round=none)(h1:1≤n){gf:Nat}{lb:Array Value}(hg:a.eval g= .func (.func gf) #[] lb)(hFg:F.fn gf)(eg: ∀args w,(callFunc gf args).run P w= .ok (.enter gf args) w)
  {encs:α→Array Value}{T U:Nat→Prop}{S:World→Prop}{xs:List α}(hseq:QkS F (n- 1) P gf lb encs T U S xs w)(hSs: ∀A B,S A→Mv (fun k=>k=w.heap.size+1) A B→S B)
  (hT: ∀k,T k→k<w.heap.size)(hU: ∀k,U k→k<w.heap.size)(hps: ∀x,(encs x).size=ps.size)
  (I:Nat→World→Prop)(Ix:Code→World→Prop)(hI: ∀i A B,I i A→Mv (fun k=>T k∨k=w.heap.size∨k=w.heap.size+1) A B→I i B)
  (hIx: ∀c A B,Ix c A→Mv (fun k=>T k∨k=w.heap.size∨k=w.heap.size+1) A B→Ix c B)(h0:I 0 w)
  (Ax:α→Act→World→Prop)(hAx: ∀x a' A B,Ax x a' A→Mv (fun k=>k=w.heap.size+1) A B→Ax x a' B)
  (hassign: ∀(l i:Nat) (x:α) (W:World) (K:Act→World→Prop),w.heap.size+2≤W.heap.size→Mv (fun k=>T k∨U k) w W→I i W→xs[i]?=some x→
   (∀a' W',Mv U W W'→I i W'→Ax x a' W'→K a' W')→
   assign.wpIn (F.inRound l) (n- 1- 1) P (Exit.then K (fun _ _ _=>False)) {tmps:=(ps.zip (encs x)).foldl (fun t (p,v)=>t.setIfInBounds p v) a.tmps,defers:= []} W)
  (hbody: ∀(l i:Nat) (x:α) (a':Act) (W:World),w.heap.size≤l→(∃r,W.heap[l]?=some (.loop r))→w.heap.size+2≤W.heap.size→Mv (fun k=>T k∨U k) w W→I i W→xs[i]?=some x→Ax x a' W→
   body.wpIn (F.inRound l) (n- 1- 1) P (Qwt U I Ix i W) a' W)
  (hdone: ∀(W:World),S W→I xs.length W→Mv (fun k=>T k∨U k) w W→W.heap[w.heap.size]?=some (.deferred (some []))→Q .normal {a with defers:={target:= .collected w.heap.size,args:=#[]}::a.defers} W)
  (hstop: ∀(c:Code) (W:World),Ix c W→Mv (fun k=>T k∨U k) w W→W.heap[w.heap.size]?=some (.deferred (some []))→c.wpIn F n P Q {a with defers:={target:= .collected w.heap.size,args:=#[]}::a.defers} W):
  (Code.rangeFunc g ps assign body).wpIn F n P Q a w:=by
 refine wpIn_rangeFunc ?_;intro fn hfn;rw [hro];obtain⟨rec,hrec⟩: ∃rec:LoopState→Option Code→Loop,rec=fun st pe=>{state:=st,pending:=pe,fn,tmps:=a.tmps,params:=ps,assign,body,defers:=w.heap.size}:=⟨_,rfl⟩;obtain⟨W1,hW1⟩: ∃W1,(w.alloc (.deferred (some []))).alloc (.loop (rec .ready none))=W1:=⟨_,rfl⟩;have hL1:W1.heap[w.heap.size+1]?=some (.loop (rec .ready none)):=by
  rw [←hW1];have:=World.alloc_heap_new (w.alloc (.deferred (some []))) (.loop (rec .ready none));rwa [World.size_alloc]at this
 have hK1:W1.heap[w.heap.size]?=some (.deferred (some [])):=by
  rw [←hW1];exact(Below.heap_alloc _ _ _ (by simp)).trans (World.alloc_heap_new w _)
 have hb1:Ext w W1:=by rw [←hW1];exact Ext.al (Ext.al (Ext.rf _) _) _
 have hI1:I 0 W1:=hI 0 _ _ h0 (Mv.of_ext hb1)
 refine⟨w.heap.size+1,[{target:= .collected w.heap.size,args:=#[]}],W1,{target:= .fn (.func gf) lb,args:=#[.func (.yield (w.heap.size+1)) #[] #[]]},W1,gf,
  #[.func (.yield (w.heap.size+1)) #[] #[]]++lb,W1,?_,?_,?_,?_,fun _=>h1,?_⟩
 ·rw [←hW1,hrec];exact run_enterLoop_outer _ _ _ _ _
 ·simp only [resolve,hg];simp [go_sem]
 ·intro f' hf';simp [Target.leads]at hf';subst hf';exact hFg
 ·simp [invoke,go_sem,eg]
 ·have hsame: ∀{k:Nat} {A B:World} {o:Obj},w.heap.size≤k→A.heap[k]?=some o→Mv T A B→B.heap[k]?=some o:=fun hk ha hm=>
   (hm.same _ (Array.getElem?_eq_some_iff.1 ha).1 (fun ht=>by have:=hT _ ht;omega)).trans ha
  refine(hseq (w.heap.size+1)
   (fun i W=>I i W∧Mv (fun k=>T k∨U k) w W∧W.heap[w.heap.size+1]?=some (.loop (rec .ready none))∧W.heap[w.heap.size]?=some (.deferred (some [])))
   (fun W=> ∃c,Ix c W∧Mv (fun k=>T k∨U k) w W∧W.heap[w.heap.size+1]?=some (.loop (rec .done (some c)))∧W.heap[w.heap.size]?=some (.deferred (some [])))
   W1 hb1 (by rw [←hW1];simp)
   (fun i A B hs hm=>⟨hI i A B hs.1 (hm.mono fun _ _ h=> .inl h),hs.2.1.trans (hm.mono fun _ _ h=> .inl h),hsame Om hs.2.2.1 hm,hsame (Nat.le_refl _) hs.2.2.2 hm⟩)
   (fun A B hs hm=>by
    obtain⟨c,hc,hv,hl,hk⟩:=hs
    exact⟨c,hIx c A B hc (hm.mono fun _ _ h=> .inl h),hv.trans (hm.mono fun _ _ h=> .inl h),hsame Om hl hm,hsame (Nat.le_refl _) hk hm⟩)
   ?_ ⟨hI1,Mv.of_ext hb1,hL1,hK1⟩).mono ?_
  ·refine⟨fn,fun args=>(ps.zip args).foldl (fun t (p,v)=>t.setIfInBounds p v) a.tmps,assign,body,?_⟩;rintro i x W ⟨hi,hv,hl,hk⟩ hx;have hlt:w.heap.size+1<W.heap.size:=(Array.getElem?_eq_some_iff.1 hl).1;have hy:=run_yield (P:=P) (args:=encs x) hl (by rw [hrec];exact hps x);rw [hrec]at hy;refine⟨hy,roundIn_of_wpIn hfn (hassign _ i x W _ Om hv hi hx ?_)⟩;clear hy;intro a' Wa hma hia hax;have keepU: ∀{k:Nat} {A B:World} {o:Obj},w.heap.size≤k→k<w.heap.size+2→A.heap[k]?=some o→Mv U A B→B.heap[k]?=some o:=fun hk1 hk2 ha hm=>
    (hm.same _ (Array.getElem?_eq_some_iff.1 ha).1 (fun ht=>by have:=hU _ ht;omega)).trans ha
   have hla:=keepU Om Om hl hma;have hka:=keepU (Nat.le_refl _) Om hk hma;have hva:Mv (fun k=>T k∨U k) w Wa:=
    ⟨hma.os.trans hv.os,hma.tape.trans hv.tape,hma.output.trans hv.output,Xt hv.size hma.size,fun k hk hc=>(hma.same k (Xl hk hv.size) (fun hh=>hc (.inr hh))).trans (hv.same k hk hc)⟩
   have hlta:w.heap.size+1<Wa.heap.size:=(Array.getElem?_eq_some_iff.1 hla).1;refine⟨_,run_beginRound hla (by rw [hrec]),?_⟩;have hput: ∀(A:World) (o:Obj),Mv (fun k=>k=w.heap.size+1) A (A.putObj (w.heap.size+1) o):=fun A o=>Mv.put A _ o rfl;have hputT: ∀(A:World) (o:Obj),Mv (fun k=>T k∨k=w.heap.size∨k=w.heap.size+1) A (A.putObj (w.heap.size+1) o):=fun A o=>Mv.put A _ o (.inr (.inr rfl));have hputV: ∀(A:World) (o:Obj),Mv (fun k=>T k∨U k) w A→Mv (fun k=>T k∨U k) w (A.putObj (w.heap.size+1) o):=fun A o h=>
    ⟨h.os,h.tape,h.output,by simpa using h.size,fun k hk hc=>(World.putObj_heap_other Om).trans (h.same k hk hc)⟩
   obtain⟨Wb,hWb⟩: ∃Wb,Wb=Wa.putObj (w.heap.size+1) (.loop {rec .ready none with state:= .busy}):=⟨_,rfl⟩;rw [←hWb];have hl2:Wb.heap[w.heap.size+1]?=some (.loop {rec .ready none with state:= .busy}):=by rw [hWb];exact World.putObj_heap_same hlta
   have hk2:Wb.heap[w.heap.size]?=some (.deferred (some [])):=by rw [hWb];exact(World.putObj_heap_other Om).trans hka
   have hvb:Mv (fun k=>T k∨U k) w Wb:=by rw [hWb];exact hputV _ _ hva
   have hib:I i Wb:=by rw [hWb];exact hI _ _ _ hia (hputT _ _)
   have haxb:Ax x a' Wb:=by rw [hWb];exact hAx _ _ _ _ hax (hput _ _)
   have hsb:w.heap.size+2≤Wb.heap.size:=by rw [hWb];simp;omega
   refine wpIn_mono (hbody (w.heap.size+1) i x a' Wb Om ⟨_,hl2⟩ hsb hvb hib hx haxb) ?_;have fin: ∀(jump:Option Code) (W3:World),Mv U Wb W3→
     (Instr.endRound (w.heap.size+1) jump).run P W3= .ok (.bool jump.isNone) (W3.putObj (w.heap.size+1) (.loop (rec (if jump.isNone then .ready else .done) jump)))∧
     Mv (fun k=>T k∨U k) w (W3.putObj (w.heap.size+1) (.loop (rec (if jump.isNone then .ready else .done) jump)))∧
     (W3.putObj (w.heap.size+1) (.loop (rec (if jump.isNone then .ready else .done) jump))).heap[w.heap.size+1]?=some (.loop (rec (if jump.isNone then .ready else .done) jump))∧
     (W3.putObj (w.heap.size+1) (.loop (rec (if jump.isNone then .ready else .done) jump))).heap[w.heap.size]?=some (.deferred (some [])):=fun jump W3 hm3=>by
    have hl3:=keepU Om Om hl2 hm3;have:=run_endRound (P:=P) jump hl3;rw [hrec]at this⊢;refine⟨this,?_,World.putObj_heap_same (Array.getElem?_eq_some_iff.1 hl3).1,(World.putObj_heap_other Om).trans (keepU (Nat.le_refl _) Om hk2 hm3)⟩;exact hputV _ _ ⟨hm3.os.trans hvb.os,hm3.tape.trans hvb.tape,hm3.output.trans hvb.output,Xt hvb.size hm3.size,fun k hk hc=>(hm3.same k (Xl hk hvb.size) (fun hh=>hc (.inr hh))).trans (hvb.same k hk hc)⟩
   rintro e a3 W3 hp
   cases e with
   |normal=>
    obtain⟨hm3,hi3⟩:=hp;obtain⟨hr,hv4,hl4,hk4⟩:=fin none W3 hm3;refine⟨_,_,hr,true,rfl,.inl ⟨rfl,⟨hI _ _ _ hi3 (hputT _ _),hv4,hl4,hk4⟩,?_⟩⟩;have e1:Mv (fun k=>U k∨k=w.heap.size∨k=w.heap.size+1) W Wa:=hma.mono fun k _ h=> .inl h;have e2:Mv (fun k=>U k∨k=w.heap.size∨k=w.heap.size+1) Wa Wb:=by rw [hWb];exact(hput _ _).mono fun k _ h=> .inr (.inr h)
    have e3:Mv (fun k=>U k∨k=w.heap.size∨k=w.heap.size+1) Wb W3:=hm3.mono fun k _ h=> .inl h;exact((e1.trans e2).trans e3).trans ((hput _ _).mono fun k _ h=> .inr (.inr h))
   |ret=>
    obtain⟨hm3,hi3⟩:=hp;obtain⟨hr,hv4,hl4,hk4⟩:=fin (some .ret) W3 hm3;exact⟨_,_,hr,false,rfl,.inr ⟨rfl,.ret,hIx _ _ _ hi3 (hputT _ _),hv4,hl4,hk4⟩⟩
   |exit id=>
    obtain⟨hm3,hi3⟩:=hp;obtain⟨hr,hv4,hl4,hk4⟩:=fin (some (.exit id)) W3 hm3;exact⟨_,_,hr,false,rfl,.inr ⟨rfl,.exit id,hIx _ _ _ hi3 (hputT _ _),hv4,hl4,hk4⟩⟩
   |goto t=>
    obtain⟨hm3,hi3⟩:=hp;obtain⟨hr,hv4,hl4,hk4⟩:=fin (some (.goto t)) W3 hm3;exact⟨_,_,hr,false,rfl,.inr ⟨rfl,.goto t,hIx _ _ _ hi3 (hputT _ _),hv4,hl4,hk4⟩⟩
   |panic ch=>exact hp.elim
   |outgrown=>exact hp.elim
  ·have hputT: ∀(A:World) (o:Obj),Mv (fun k=>T k∨k=w.heap.size∨k=w.heap.size+1) A (A.putObj (w.heap.size+1) o):=fun A o=>Mv.put A _ o (.inr (.inr rfl));have hputV: ∀(A:World) (o:Obj),Mv (fun k=>T k∨U k) w A→Mv (fun k=>T k∨U k) w (A.putObj (w.heap.size+1) o):=fun A o h=>
    ⟨h.os,h.tape,h.output,by simpa using h.size,fun k hk hc=>(World.putObj_heap_other Om).trans (h.same k hk hc)⟩
   rintro e W2 ⟨⟨v,rfl⟩,(⟨⟨hi,hv,hl,hk⟩,hsS⟩|⟨c,hi,hv,hl,hk⟩)⟩
   ·exact⟨none,_,by have:=run_endLoop (P:=P) hl (by rw [hrec];simp);rw [hrec]at this;exact this,hdone _ (hSs _ _ hsS (Mv.put _ _ _ rfl)) (hI _ _ _ hi (hputT _ _)) (hputV _ _ hv) ((World.putObj_heap_other Om).trans hk)⟩
   ·exact⟨some c,_,by have:=run_endLoop (P:=P) hl (by rw [hrec];simp);rw [hrec]at this;exact this,hstop c _ (hIx _ _ _ hi (hputT _ _)) (hputV _ _ hv) ((World.putObj_heap_other Om).trans hk)⟩
def QnO:He:=⟨0,0,0,0,0,0,0,[],[]⟩
def QnP:Tc:=⟨0,0,0,0,[]⟩
def hdI(bs:List Int):He:=if Zp bs=0 then ipH bs else QnO
def tcI(src dst:Int)(bs:List Int):Tc:=if Ye src dst bs=0 then tcT bs else QnP
def SlV(w:World)(lo:Nat)(v:Value)(bs:List Int):Prop:= ∃p c,v= .slice p bs.length c∧bs.length≤c∧SlB w p bs∧ ∀b off,p=some ⟨b,off,none⟩→lo≤b∧b<w.heap.size
theorem SlV.of{lo:Nat}{v:Value}(h:OB w lo v bs):SlV w lo v bs:=by
 obtain⟨p,c,h1,h2,h3⟩:=h.slb;refine⟨p,c,h1,h2,h3,fun b off e=> ?_⟩;subst h1 e;exact⟨Qh h b rfl,QbJ h b rfl⟩
theorem SlV.nil(w:World)(lo:Nat):SlV w lo (.slice none 0 0) []:=⟨none,0,rfl,Nat.le_refl _,SlB.nil _ _,fun _ _ e=>by cases e⟩
theorem SlV.ext{lo:Nat}{v:Value}(h:SlV w lo v bs)(e:Ext w w'):SlV w' lo v bs:=by
 obtain⟨p,c,h1,h2,h3,h4⟩:=h;exact⟨p,c,h1,h2,h3.ext e,fun b off q=>⟨(h4 b off q).1,Xl (h4 b off q).2 e.size⟩⟩
theorem SlV.mv{lo:Nat}{v:Value}{C:Nat→Prop}(h:SlV w lo v bs)(m:Mv C w w')(hc: ∀k,lo≤k→ ¬C k):SlV w' lo v bs:=by
 obtain⟨p,c,h1,h2,h3,h4⟩:=h;refine⟨p,c,h1,h2,fun k hk=> ?_,fun b off q=>⟨(h4 b off q).1,Xl (h4 b off q).2 m.size⟩⟩;obtain⟨b,off,e,h5,h6⟩:=h3 k hk;exact⟨b,off,e,Xl h5 m.size,by rw [Qa,Qf (m.same b h5 (hc b (h4 b off e).1)),←Qa];exact h6⟩
theorem SlV.one{lo:Nat}{v:Value}(h:SlV w lo v bs):v.oneCell'=true:=by obtain⟨p,c,rfl,-⟩:=h;rfl
theorem Qhg(p:Option Addr)(bs:List Int)(c:Nat)(w:World)(hs:SlB w p bs)(hr:ByR bs)(hl:bs.length≤1000)(hlc:bs.length≤c):
  Calls Tryz.prog 93 #[.slice p bs.length c] w fun e w'=> ∃vo vp,e= .returned (.tuple #[.agg (heV (hdI bs) vo vp),.int .u8 (Zp bs)])∧Ext w w'∧SlV w' w.heap.size vo (hdI bs).op∧SlV w' w.heap.size vp (hdI bs).pl:=by
 refine(Qdl p bs c w hs hr hl hlc).mono ?_;rintro e w' h;unfold hdI
 cases h with
 |no h e=>rw [if_neg h];exact⟨_,_,rfl,e,SlV.nil _ _,SlV.nil _ _⟩
 |yes h e ho hp=>rw [if_pos h,h];exact⟨_,_,rfl,e,SlV.of ho,SlV.of hp⟩
theorem Qhh(src dst:Int)(p:Option Addr)(bs:List Int)(c:Nat)(w:World)(hs:SlB w p bs)(hr:ByR bs)(hl:bs.length≤1000)(hlc:bs.length≤c):
  Calls Tryz.prog 101 #[.int .u32 src,.int .u32 dst,.slice p bs.length c] w fun e w'=> ∃vd,e= .returned (.tuple #[.agg (tcV (tcI src dst bs) vd),.int .u8 (Ye src dst bs)])∧Ext w w'∧SlV w' w.heap.size vd (tcI src dst bs).da:=by
 refine(Qhf src dst p bs c w hs hr hl hlc).mono ?_;rintro e w' h;unfold tcI
 cases h with
 |no h e=>rw [if_neg h];exact⟨_,rfl,e,SlV.nil _ _⟩
 |yes h e ho=>rw [if_pos h,h];exact⟨_,rfl,e,SlV.of ho⟩
theorem Qwu(h:ByR bs):ByR (hdI bs).pl:=by
 unfold hdI
 split
 ·exact h.drop _
 ·exact ByR.nil
theorem QqV(bs:List Int):(hdI bs).pl.length≤bs.length:=by
 unfold hdI
 split
 ·show(bs.drop _).length≤_;rw [List.length_drop];omega
 ·exact Nat.zero_le _
theorem QnQ(h:He)(a b:Value):(heV h a b).size=9:=rfl
theorem QnR(h:Tc)(a:Value):(tcV h a).size=5:=rfl
theorem QiO(p:Option Addr)(bs:List Int)(c:Nat)(w:World)(B1 B4:Nat)(cs:Array Value)(cb:w.cell? ⟨B1,0,none⟩=some (.slice p bs.length c))(hs:SlB w p bs)(hr:ByR bs)(hl:bs.length≤1000)(hlc:bs.length≤c)(rz:RowZ w B4 cs)(h9:cs.size=9):
  Calls Tryz.prog 98 #[.pointer (some ⟨B1,0,none⟩),.pointer (some ⟨B4,0,none⟩)] w fun e w'=>e= .returned (.int .u8 (Zp bs))∧ ∃vo vp,RowZ w' B4 (heV (hdI bs) vo vp)∧SlV w' w.heap.size vp (hdI bs).pl∧Mv (fun k=>k=B4) w w':=by
 have HI:=Xh (Qhg p bs c w hs hr hl hlc);have HRZ:=Xh rz;have hlt:=rz.l;have HLT:=Xh hlt;clear hs hr rz hlt
 go_enter Tryz.func98,Tryz.ntmps98
 go_upto_region 2 with(go_at_call 93;(with_reducible refine(HI.out).mono ?_);rintro e W1 ⟨vo,vp,rfl,g1,so,sp⟩;have rz:=HRZ.out.ext g1;have hR:=rz.r;have hZ:=rz.z;have hL:=rz.l;have h9':Fits 0 9 cs:=(by unfold Fits;omega);have v1:=so.one;have v2:=sp.one;have HG:=Xh g1;have HSP:=Xh sp;clear g1 so sp;unfold heV)
 go_wp2;go_ret;refine⟨rfl,vo,vp,(rz.all (heV (hdI bs) vo vp) h9),HSP.out.mv (C:=fun k=>k=B4) (Mv.sa _ rfl (Mv.refl _ _)) (fun k hk e=> ?_),(Mv.of_ext HG.out).trans (Mv.sa _ rfl (Mv.refl _ _))⟩;have:=HLT.out;unfold Lt at this;omega
theorem QiP(h:He)(vo vp:Value)(w:World)(B4:Nat)(rz:RowZ w B4 (heV h vo vp)):
  Calls Tryz.prog 99 #[.pointer (some ⟨B4,0,none⟩)] w fun e w'=>e= .returned (.int .u8 (if h.pr=6 then 0 else 7))∧w=w':=by
 have c4:w.cell? ⟨B4,4,none⟩=some (.int .u8 h.pr):=rz.cell 4 (by show 4<9;omega);clear rz
 by_cases hp:h.pr=6
 ·have hp':(h.pr==6)=true:=by simpa using hp
  rw [if_pos hp];clear hp;obtain⟨q,hq⟩: ∃q,h.pr=q:=⟨_,rfl⟩;rw [hq]at c4 hp';clear hq
  go_enter Tryz.func99,Tryz.ntmps99
  go_wp2;go_ret;exact⟨rfl,rfl⟩
 ·have hp':(h.pr==6)=false:=by simpa using hp
  rw [if_neg hp];clear hp;obtain⟨q,hq⟩: ∃q,h.pr=q:=⟨_,rfl⟩;rw [hq]at c4 hp';clear hq
  go_enter Tryz.func99,Tryz.ntmps99
  go_wp2;go_ret;exact⟨rfl,rfl⟩
theorem QiQ(h:He)(vo vp:Value)(w:World)(lo B4 B5:Nat)(cs:Array Value)(rh:RowZ w B4 (heV h vo vp))(hs:SlV w lo vp h.pl)(hr:ByR h.pl)(hl:h.pl.length≤1000)(rz:RowZ w B5 cs)(h5:cs.size=5):
  Calls Tryz.prog 100 #[.pointer (some ⟨B4,0,none⟩),.pointer (some ⟨B5,0,none⟩)] w fun e w'=>e= .returned (.int .u8 (Ye h.sr h.ds h.pl))∧ ∃vd,RowZ w' B5 (tcV (tcI h.sr h.ds h.pl) vd)∧Mv (fun k=>k=B5) w w':=by
 obtain⟨p,c,rfl,hc,hsl,-⟩:=hs;have HI:=Xh (Qhh h.sr h.ds p h.pl c w hsl hr hl hc);have k5:w.cell? ⟨B4,5,none⟩=some (.int .u32 h.sr):=rh.cell 5 (by show 5<9;omega);have k6:w.cell? ⟨B4,6,none⟩=some (.int .u32 h.ds):=rh.cell 6 (by show 6<9;omega);have k8:w.cell? ⟨B4,8,none⟩=some (.slice p h.pl.length c):=rh.cell 8 (by show 8<9;omega);have HRZ:=Xh rz;clear hsl hr rz rh hl hc
 go_enter Tryz.func100,Tryz.ntmps100
 go_upto_region 2 with(go_at_call 101;(with_reducible refine(HI.out).mono ?_);rintro e W1 ⟨vd,rfl,g1,sd⟩;have rz:=HRZ.out.ext g1;have hR:=rz.r;have hZ:=rz.z;have hL:=rz.l;have h9':Fits 0 5 cs:=(by unfold Fits;omega);have v1:=sd.one;have HG:=Xh g1;clear g1 sd;unfold tcV)
 go_wp2;go_ret;exact⟨rfl,vd,(rz.all (tcV (tcI h.sr h.ds h.pl) vd) h5),(Mv.of_ext HG.out).trans (Mv.sa _ rfl (Mv.refl _ _))⟩
def Qfo(h:He):Int:=if h.pr=6 then 0 else 7
def hdN(bs:List Int)(i:Nat):He:=if i=0 then QnO else hdI bs
def QyE(bs:List Int)(i:Nat):Tc:=if i<3 then QnP else tcI (hdI bs).sr (hdI bs).ds (hdI bs).pl
structure PSt(p:Option Addr)(bs:List Int)(c B1 B4 B5 lo i:Nat)(W:World):Prop where
 cb:W.cell? ⟨B1,0,none⟩=some (.slice p bs.length c)
 l1:Lt B1 W
 sb:SlB W p bs
 h: ∃vo vp,RowZ W B4 (heV (hdN bs i) vo vp)∧SlV W lo vp (hdN bs i).pl
 t: ∃vd,RowZ W B5 (tcV (QyE bs i) vd)
theorem SlB.mvc{B:World}{C:Nat→Prop}{p:Option Addr}(h:SlB A p bs)(m:Mv C A B)(hb: ∀b off,p=some ⟨b,off,none⟩→ ¬C b):SlB B p bs:=fun k hk=>by
 obtain⟨b,off,h1,h2,h3⟩:=h k hk;exact⟨b,off,h1,Xl h2 m.size,by rw [Qa,Qf (m.same b h2 (hb b off h1)),←Qa];exact h3⟩
theorem PSt.mv{p:Option Addr}{c lo:Nat}{B:World}{C:Nat→Prop}(h:PSt p bs c B1 B4 B5 lo i A)(m:Mv C A B)(h1: ¬C B1)(h4: ¬C B4)(h5: ¬C B5)(hp: ∀b off,p=some ⟨b,off,none⟩→ ¬C b)(hlo: ∀k,lo≤k→ ¬C k):PSt p bs c B1 B4 B5 lo i B:=
 ⟨by rw [Qa,Qf (m.same B1 h.l1 h1),←Qa];exact h.cb,Xl h.l1 m.size,h.sb.mvc m hp,
 by obtain⟨vo,vp,a,b⟩:=h.h;exact⟨vo,vp,a.mv m h4,b.mv m hlo⟩,by obtain⟨vd,a⟩:=h.t;exact⟨vd,a.mv m h5⟩⟩
theorem PSt.step1{p:Option Addr}{c lo:Nat}{B:World}{vo vp:Value}(h:PSt p bs c B1 B4 B5 lo 0 A)(m:Mv (fun k=>k=B4) A B)(rh:RowZ B B4 (heV (hdI bs) vo vp))(sp:SlV B A.heap.size vp (hdI bs).pl)(hlo:lo≤A.heap.size)(n1:B1≠B4)(n5:B5≠B4)(hp: ∀b off,p=some ⟨b,off,none⟩→b≠B4):PSt p bs c B1 B4 B5 lo 1 B:=
 ⟨by rw [Qa,Qf (m.same B1 h.l1 n1),←Qa];exact h.cb,Xl h.l1 m.size,h.sb.mvc m hp,
 ⟨vo,vp,rh,by obtain⟨q,d,a1,a2,a3,a4⟩:=sp;exact⟨q,d,a1,a2,a3,fun b off e=>⟨Xt hlo (a4 b off e).1,(a4 b off e).2⟩⟩⟩,by obtain⟨vd,a⟩:=h.t;exact⟨vd,a.mv m n5⟩⟩
theorem PSt.step2{p:Option Addr}{c lo:Nat}(h:PSt p bs c B1 B4 B5 lo 1 A):PSt p bs c B1 B4 B5 lo 2 A:=⟨h.cb,h.l1,h.sb,h.h,h.t⟩
theorem PSt.step3{p:Option Addr}{c lo:Nat}{B:World}{vd:Value}(h:PSt p bs c B1 B4 B5 lo 2 A)(m:Mv (fun k=>k=B5) A B)(rt:RowZ B B5 (tcV (tcI (hdI bs).sr (hdI bs).ds (hdI bs).pl) vd))(hlo:B5<lo)(n1:B1≠B5)(n4:B4≠B5)(hp: ∀b off,p=some ⟨b,off,none⟩→b≠B5):PSt p bs c B1 B4 B5 lo 3 B:=
 ⟨by rw [Qa,Qf (m.same B1 h.l1 n1),←Qa];exact h.cb,Xl h.l1 m.size,h.sb.mvc m hp,
 by obtain⟨vo,vp,a,b⟩:=h.h;exact⟨vo,vp,a.mv m n4,b.mv m (fun k hk e=>by omega)⟩,⟨vd,rt⟩⟩
structure Lk(Bl Bf B1 B4 B5:Nat)(W:World):Prop where
 cl:W.cell? ⟨Bl,0,none⟩=some (.slice (some ⟨Bf,0,none⟩) 3 3)
 f0:W.cell? ⟨Bf,0,none⟩=some (.func (.func 98) #[] #[.pointer (some ⟨B1,0,none⟩),.pointer (some ⟨B4,0,none⟩)])
 f1:W.cell? ⟨Bf,1,none⟩=some (.func (.func 99) #[] #[.pointer (some ⟨B4,0,none⟩)])
 f2:W.cell? ⟨Bf,2,none⟩=some (.func (.func 100) #[] #[.pointer (some ⟨B4,0,none⟩),.pointer (some ⟨B5,0,none⟩)])
 ll:Lt Bl W
 lf:Lt Bf W
theorem Lk.mv{Bl Bf:Nat}{B:World}{C:Nat→Prop}(h:Lk Bl Bf B1 B4 B5 A)(m:Mv C A B)(h1: ¬C Bl)(h2: ¬C Bf):Lk Bl Bf B1 B4 B5 B:=by
 have e1:=m.same Bl h.ll h1;have e2:=m.same Bf h.lf h2;exact⟨by rw [Qa,Qf e1,←Qa];exact h.cl,by rw [Qa,Qf e2,←Qa];exact h.f0,by rw [Qa,Qf e2,←Qa];exact h.f1,by rw [Qa,Qf e2,←Qa];exact h.f2,Xl h.ll m.size,Xl h.lf m.size⟩
theorem QlY(q:Option Addr)(n c:Nat)(w:World):
  Calls Tryz.prog 102 #[.slice q n c] w fun e w'=>e= .returned (.func (.func 177) #[] #[.pointer (some ⟨w.heap.size,0,none⟩)])∧w'=w.alloc (.cells #[.slice q n c] 215):=by
 go_enter Tryz.func102,Tryz.ntmps102
 go_wp2;go_ret;exact⟨rfl,rfl⟩
theorem Qf9: ∀args w,(callFunc 177 args).run Tryz.prog w= .ok (.enter 177 args) w:=enters_of Tryz.func177 Kr rfl
def Qab(bs:List Int):List Int:= [Zp bs,Qfo (hdI bs),Ye (hdI bs).sr (hdI bs).ds (hdI bs).pl]
theorem QiR(n:Nat)(p:Option Addr)(bs:List Int)(c B1 B4 B5 Bl Bf:Nat)(w:World)(U:Nat→Prop)(hr:ByR bs)(hl:bs.length≤1000)(hlc:bs.length≤c)
  (hk:Lk Bl Bf B1 B4 B5 w)(h0:PSt p bs c B1 B4 B5 (w.heap.size+2) 0 w)(hb1:B1<w.heap.size)(hb4:B4<w.heap.size)(hb5:B5<w.heap.size)(hn:B1≠B4∧B5≠B4)(hn5:B1≠B5)(hnl:Bl≠B4∧Bf≠B4∧Bl≠B5∧Bf≠B5)(hpb: ∀b off,p=some ⟨b,off,none⟩→b<w.heap.size∧b≠B4∧b≠B5)
  (hU: ∀k,U k→k<w.heap.size∧k≠B1∧k≠B4∧k≠B5∧k≠Bl∧k≠Bf∧ ∀b off,p=some ⟨b,off,none⟩→k≠b):
  QkS Fence.wide n Tryz.prog 177 #[.pointer (some ⟨Bl,0,none⟩)] (fun x:Int=>#[.int .u8 x]) (fun k=>k=B4∨k=B5) U (PSt p bs c B1 B4 B5 (w.heap.size+2) 3) (Qab bs) w:=by
 intro y J Jx W hW hW2 hJ hJx hY hJ0;have HJ:=Xh hJ;have HJx:=Xh hJx;have HU:=Xh hU;have HR:=Xh hr;have HPB:=Xh hpb;clear hJ hJx hU hr hpb;obtain⟨yfn,ytm,yas,ybo,hY⟩:=hY;have HY:=Xh hY;clear hY;have hkW:=hk.mv (C:=fun _=>False) (Mv.of_ext hW) (fun h=>h) (fun h=>h);have hPW:=h0.mv (C:=fun _=>False) (Mv.of_ext hW) (fun h=>h) (fun h=>h) (fun h=>h) (fun _ _ _ h=>h) (fun _ _ h=>h);have hll:=hk.ll;have hlf:=hk.lf;unfold Lt at hll hlf;have hUl: ¬(U Bl∨Bl=w.heap.size∨Bl=w.heap.size+1):=by rintro(h|h|h);exact(HU.out _ h).2.2.2.2.1 rfl;omega;omega
 have hUf: ¬(U Bf∨Bf=w.heap.size∨Bf=w.heap.size+1):=by rintro(h|h|h);exact(HU.out _ h).2.2.2.2.2.1 rfl;omega;omega
 have hU1: ¬(U B1∨B1=w.heap.size∨B1=w.heap.size+1):=by rintro(h|h|h);exact(HU.out _ h).2.1 rfl;omega;omega
 have hU4: ¬(U B4∨B4=w.heap.size∨B4=w.heap.size+1):=by rintro(h|h|h);exact(HU.out _ h).2.2.1 rfl;omega;omega
 have hU5: ¬(U B5∨B5=w.heap.size∨B5=w.heap.size+1):=by rintro(h|h|h);exact(HU.out _ h).2.2.2.1 rfl;omega;omega
 have HPU:=Xh (show ∀b off,p=some ⟨b,off,none⟩→ ¬(U b∨b=w.heap.size∨b=w.heap.size+1)from fun b off e=>by rintro(h|h|h);exact(HU.out _ h).2.2.2.2.2.2 b off e rfl;(have:=(HPB.out b off e).1;omega);(have:=(HPB.out b off e).1;omega));have HLU:=Xh (show ∀k,w.heap.size+2≤k→ ¬(U k∨k=w.heap.size∨k=w.heap.size+1)from fun k hk=>by rintro(h|h|h);(have:=(HU.out _ h).1;omega);omega;omega);obtain⟨lo,hlo⟩: ∃lo,w.heap.size+2=lo:=⟨_,rfl⟩;have hlo5:B5<lo:=by omega
 rw [hlo]at HLU hPW hW2⊢;have HUS:=Xh (show(¬(U B1∨B1=w.heap.size∨B1=w.heap.size+1))∧(¬(U B4∨B4=w.heap.size∨B4=w.heap.size+1))∧(¬(U B5∨B5=w.heap.size∨B5=w.heap.size+1))∧(¬(U Bl∨Bl=w.heap.size∨Bl=w.heap.size+1))∧(¬(U Bf∨Bf=w.heap.size∨Bf=w.heap.size+1))from⟨hU1,hU4,hU5,hUl,hUf⟩);have HN:=Xh hn;have HN5:=Xh hn5;have HNL:=Xh hnl;clear hU1 hU4 hU5 hUl hUf hn hn5 hnl hlo h0 hb1 hb4 hb5;refine callsIn_of_wp Tryz.func177 rfl trivial ?_ rfl;simp only [Tryz.ntmps177,List.size_toArray,List.length_cons,List.length_nil,Nat.reduceAdd,Nat.reduceSub,Array.replicate_succ,Array.replicate_zero,List.push_toArray,List.append_toArray,List.nil_append,List.cons_append];refine wpIn_wide.2 ?_;have cl:=hkW.cl;have HKW:=Xh hkW;clear hkW hk;go_wp2
 go_loopw [4,7] (fun _ a wr=> ∃i:Nat,i≤3∧a= .int .i64 i∧J i wr∧PSt p bs c B1 B4 B5 lo i wr∧Lk Bl Bf B1 B4 B5 wr∧lo≤wr.heap.size) (fun _ a _=>3- (intOf a).toNat)
 case atStart=>exact⟨0,Om,rfl,hJ0,hPW,HKW.out,hW2⟩
 case round=>
  clear cl hJ0 hPW hW2;obtain⟨i,hi,rfl,hJi,hP,hK,hz⟩:=hrel;have HJI:=Xh hJi;have HK:=Xh hK;have HP:=Xh hP;clear hJi hK hP;obtain rfl|rfl|rfl|rfl:i=0∨i=1∨i=2∨i=3:=by omega
  ·obtain⟨vo,vp,rh,hsp⟩:=HP.out.h;obtain⟨vd,rt⟩:=HP.out.t;have f0:=HK.out.f0;have lf:=HK.out.lf;have PC:=Xh (show Calls Tryz.prog 98 #[.pointer (some ⟨B1,0,none⟩),.pointer (some ⟨B4,0,none⟩)] wr (fun e w'=>e= .returned (.int .u8 (Zp bs))∧ ∃vo vp,RowZ w' B4 (heV (hdI bs) vo vp)∧SlV w' wr.heap.size vp (hdI bs).pl∧Mv (fun k=>k=B4) wr w')from QiO p bs c wr B1 B4 _ HP.out.cb HP.out.sb HR.out hl hlc rh (QnQ _ _ _));obtain⟨xv,hxv⟩: ∃x,Zp bs=x:=⟨_,rfl⟩;rw [hxv]at PC;have HXV:=Xh (show(Qab bs)[0]?=some xv by rw [←hxv];rfl);clear rh hsp rt hxv
   go_upto_region 3 with(fail)
   refine(wpIn_wide (n:=n)).1 ?_
   gi_wp2
   refine⟨trivial,(fun h=>by cases h),(callsIn_wide.2 PC.out).mono ?_⟩;rintro e w6 ⟨rfl,vo2,vp2,rh2,sp2,m2⟩;have hN:PSt p bs c B1 B4 B5 lo 1 w6:=HP.out.step1 m2 rh2 sp2 hz HN.out.1 HN.out.2 (fun b off e=>(HPB.out b off e).2.1);have hL6:=HK.out.mv m2 HNL.out.1 HNL.out.2.1;have hJ6:=HJ.out _ _ _ HJI.out (m2.mono fun k _ e=> .inl e);have hz6:lo≤w6.heap.size:=Xt hz m2.size;clear m2 rh2 sp2;have hrun:(Instr.yield y #[.int .u8 xv]).run Tryz.prog w6= .ok (.round y yfn (ytm #[.int .u8 xv]) yas ybo) w6:=(HY.out 0 xv w6 hJ6 HXV.out).1;have HRD:=Xh (HY.out 0 xv w6 hJ6 HXV.out).2;have HNN:=Xh hN;have HL6:=Xh hL6;clear hN hL6 hJ6
   gi_wp2
   refine⟨(fun h=>by cases h),(HRD.out).mono ?_⟩;rintro e w7 ⟨bb,rfl,hQ⟩;clear hrun HRD f0 lf;obtain⟨rfl,hJ7,hm7⟩|⟨rfl,hx7⟩:=hQ
   ·have hN7:=HNN.out.mv hm7 HUS.out.1 HUS.out.2.1 HUS.out.2.2.1 HPU.out HLU.out;have hL7:=HL6.out.mv hm7 HUS.out.2.2.2.1 HUS.out.2.2.2.2;have hz7:=Xt hz6 hm7.size;clear hm7
    gi_wp2
    go_wp2
    go_roundw
    case rel=>exact⟨1,Om,by go_num,hJ7,hN7,hL7,hz7⟩
    case measure=>simp [intOf]
   ·gi_wp2
    go_wp2;exact bodyPost_ret (results_none rfl _ _ _) rfl ⟨⟨_,rfl⟩,.inr hx7⟩
  ·obtain⟨vo,vp,rh,hsp⟩:=HP.out.h;obtain⟨vd,rt⟩:=HP.out.t;have f1:=HK.out.f1;have lf:=HK.out.lf;have PC:=Xh (show Calls Tryz.prog 99 #[.pointer (some ⟨B4,0,none⟩)] wr (fun e w'=>e= .returned (.int .u8 (Qfo (hdI bs)))∧wr=w')from QiP (hdI bs) vo vp wr B4 rh);obtain⟨xv,hxv⟩: ∃x,Qfo (hdI bs)=x:=⟨_,rfl⟩;rw [hxv]at PC;have HXV:=Xh (show(Qab bs)[1]?=some xv by rw [←hxv];rfl);clear rh hsp rt hxv
   go_upto_region 3 with(fail)
   refine(wpIn_wide (n:=n)).1 ?_
   gi_wp2
   refine⟨trivial,(fun h=>by cases h),(callsIn_wide.2 PC.out).mono ?_⟩;rintro e w6 ⟨rfl,rfl⟩;have hN:PSt p bs c B1 B4 B5 lo 2 wr:=HP.out.step2;have hL6:=HK.out;have hJ6:=HJI.out;have hz6:=hz;have hrun:(Instr.yield y #[.int .u8 xv]).run Tryz.prog wr= .ok (.round y yfn (ytm #[.int .u8 xv]) yas ybo) wr:=(HY.out 1 xv wr hJ6 HXV.out).1;have HRD:=Xh (HY.out 1 xv wr hJ6 HXV.out).2;have HNN:=Xh hN;have HL6:=Xh hL6;clear hN hL6 hJ6
   gi_wp2
   refine⟨(fun h=>by cases h),(HRD.out).mono ?_⟩;rintro e w7 ⟨bb,rfl,hQ⟩;clear hrun HRD f1 lf;obtain⟨rfl,hJ7,hm7⟩|⟨rfl,hx7⟩:=hQ
   ·have hN7:=HNN.out.mv hm7 HUS.out.1 HUS.out.2.1 HUS.out.2.2.1 HPU.out HLU.out;have hL7:=HL6.out.mv hm7 HUS.out.2.2.2.1 HUS.out.2.2.2.2;have hz7:=Xt hz6 hm7.size;clear hm7
    gi_wp2
    go_wp2
    go_roundw
    case rel=>exact⟨2,Om,by go_num,hJ7,hN7,hL7,hz7⟩
    case measure=>simp [intOf]
   ·gi_wp2
    go_wp2;exact bodyPost_ret (results_none rfl _ _ _) rfl ⟨⟨_,rfl⟩,.inr hx7⟩
  ·obtain⟨vo,vp,rh,hsp⟩:=HP.out.h;obtain⟨vd,rt⟩:=HP.out.t;have f2:=HK.out.f2;have lf:=HK.out.lf;have PC:=Xh (show Calls Tryz.prog 100 #[.pointer (some ⟨B4,0,none⟩),.pointer (some ⟨B5,0,none⟩)] wr (fun e w'=>e= .returned (.int .u8 (Ye (hdI bs).sr (hdI bs).ds (hdI bs).pl))∧ ∃vd,RowZ w' B5 (tcV (tcI (hdI bs).sr (hdI bs).ds (hdI bs).pl) vd)∧Mv (fun k=>k=B5) wr w')from QiQ (hdI bs) vo vp wr lo B4 B5 _ rh hsp (Qwu HR.out) (Xt (QqV bs) hl) rt (QnR _ _));obtain⟨xv,hxv⟩: ∃x,Ye (hdI bs).sr (hdI bs).ds (hdI bs).pl=x:=⟨_,rfl⟩;rw [hxv]at PC;have HXV:=Xh (show(Qab bs)[2]?=some xv by rw [←hxv];rfl);clear rh hsp rt hxv
   go_upto_region 3 with(fail)
   refine(wpIn_wide (n:=n)).1 ?_
   gi_wp2
   refine⟨trivial,(fun h=>by cases h),(callsIn_wide.2 PC.out).mono ?_⟩;rintro e w6 ⟨rfl,vd2,rt2,m2⟩;have hN:PSt p bs c B1 B4 B5 lo 3 w6:=HP.out.step3 m2 rt2 hlo5 HN5.out (Ne.symm HN.out.2) (fun b off e=>(HPB.out b off e).2.2);have hL6:=HK.out.mv m2 HNL.out.2.2.1 HNL.out.2.2.2;have hJ6:=HJ.out _ _ _ HJI.out (m2.mono fun k _ e=> .inr e);have hz6:lo≤w6.heap.size:=Xt hz m2.size;clear m2 rt2;have hrun:(Instr.yield y #[.int .u8 xv]).run Tryz.prog w6= .ok (.round y yfn (ytm #[.int .u8 xv]) yas ybo) w6:=(HY.out 2 xv w6 hJ6 HXV.out).1;have HRD:=Xh (HY.out 2 xv w6 hJ6 HXV.out).2;have HNN:=Xh hN;have HL6:=Xh hL6;clear hN hL6 hJ6
   gi_wp2
   refine⟨(fun h=>by cases h),(HRD.out).mono ?_⟩;rintro e w7 ⟨bb,rfl,hQ⟩;clear hrun HRD f2 lf;obtain⟨rfl,hJ7,hm7⟩|⟨rfl,hx7⟩:=hQ
   ·have hN7:=HNN.out.mv hm7 HUS.out.1 HUS.out.2.1 HUS.out.2.2.1 HPU.out HLU.out;have hL7:=HL6.out.mv hm7 HUS.out.2.2.2.1 HUS.out.2.2.2.2;have hz7:=Xt hz6 hm7.size;clear hm7
    gi_wp2
    go_wp2
    go_roundw
    case rel=>exact⟨3,Om,by go_num,hJ7,hN7,hL7,hz7⟩
    case measure=>simp [intOf]
   ·gi_wp2
    go_wp2;exact bodyPost_ret (results_none rfl _ _ _) rfl ⟨⟨_,rfl⟩,.inr hx7⟩
  ·go_wp2
   go_end0
   exact⟨⟨_,rfl⟩,.inl ⟨HJI.out,HP.out⟩⟩
@[go_sem] theorem Qyj{o m:Nat}:Fits o m #[a0,a1,a2,a3,a4,a5]=(o+m≤6):=by unfold Fits;rfl
@[go_sem] theorem Qvm:Qo #[a0,a1,a2,a3,a4,a5] 6=True:=by unfold Qo;exact eq_true rfl
@[go_sem] theorem QqW:QM #[a0,a1,a2,a3,a4,a5]=(a0.oneCell'=true∧a1.oneCell'=true∧a2.oneCell'=true∧a3.oneCell'=true∧a4.oneCell'=true∧a5.oneCell'=true):=by
 unfold QM;simp [and_assoc]
@[go_sem ↓ high] theorem Qwv:(Value.agg #[a0,a1,a2,a3,a4,a5]).cells=#[a0,a1,a2,a3,a4,a5]:=QF _
@[go_sem] theorem Qyk:QA #[a0,a1,a2,a3,a4,a5] 0 6=#[a0,a1,a2,a3,a4,a5]:=rfl
theorem Qga:(Tryz.prog.info? 81).map (·.size)=some 6:=Kr
theorem QlZ{b o:Nat}(h:o+6≤(Qc w b).size):(Instr.loadAt 81 (.pointer (some ⟨b,o,none⟩))).run Tryz.prog w= .ok (.agg ((Qc w b).extract o (o+6))) w:=by
 have:=run_loadAt_mid w b o 81 ((Qc w b).extract o (o+6)).toList _ (QC w b o (o+6)) Tryz.underlying81 rfl (by rw [Qga];simp;omega)
 rwa [Array.toArray_toList]at this
theorem QiS{b o:Nat}(h:o+6≤(Qc w b).size):(loadVar 81 ⟨b,o,none⟩).run Tryz.prog w= .ok (.agg ((Qc w b).extract o (o+6))) w:=by
 have:=run_loadVar_mid w b o 81 ((Qc w b).extract o (o+6)).toList _ (QC w b o (o+6)) Tryz.underlying81 rfl (by rw [Qga];simp;omega)
 rwa [Array.toArray_toList]at this
@[go_sem ↓ high] theorem Qac(ρ:Operand→Value)(dst:Option Tmp)(x:Operand)(ty:TypeId)(pos:String)(after:Array Edge)(g:Option (Nat×Bool))(w:World)
  (hx:ρ x= .pointer (some ⟨Qb (ρ x),Qd (ρ x),none⟩))(h:Fits (Qd (ρ x)) 6 (Qc w (Qb (ρ x)))):
  (execOp ρ ⟨dst,.load 81 x,ty,pos,after,g⟩).run Tryz.prog w= .ok (.value (.agg (QA (Qc w (Qb (ρ x))) (Qd (ρ x)) 6))) w:=by
 unfold Fits at h;generalize hB:Qb (ρ x)=B at*;generalize hO:Qd (ρ x)=O at*;simp only [execOp,hx,Sem.run_bind,QlZ h,Result.andThen_ok,Sem.run_pure,QA]
@[go_sem ↓ high] theorem QsL{l:Option Nat}{x:Operand}{ty:TypeId}{g:Option (Nat×Bool)}(w:World)
  (hx:ρ x= .pointer (some ⟨Qb (ρ x),Qd (ρ x),none⟩))(h:Fits (Qd (ρ x)) 6 (Qc w (Qb (ρ x)))):
  (Oper.semAt l ρ ⟨dst,.load 81 x,ty,pos,after,g⟩).run Tryz.prog w= .ok (.value (.agg (QA (Qc w (Qb (ρ x))) (Qd (ρ x)) 6))) w:=by rw [Oper.semAt_eq _ _ _ (fun c h=>by cases h)];exact Qac ρ dst x ty pos after g w hx h
@[go_sem ↓ high] theorem JK(ρ:Operand→Value)(dst:Option Tmp)(x y:Operand)(ty:TypeId)(pos:String)(after:Array Edge)(g:Option (Nat×Bool))(w:World)
  (hx:ρ x= .pointer (some ⟨Qb (ρ x),Qd (ρ x),none⟩))(hy:ρ y= .agg (ρ y).cells)(hs:Qo (ρ y).cells 6)(h:Fits (Qd (ρ x)) 6 (Qc w (Qb (ρ x))))(hz:Qt w (Qb (ρ x))=(0,0))(h1:QM (ρ y).cells):
  (execOp ρ ⟨dst,.store 81 x y,ty,pos,after,g⟩).run Tryz.prog w= .ok .skip (Qe w (Qb (ρ x)) (Qd (ρ x)) (ρ y).cells):=by
 unfold Fits at h;unfold Qo at hs;generalize hB:Qb (ρ x)=B at*;generalize hO:Qd (ρ x)=O at*;generalize hC:(ρ y).cells=C at*;have hst:(Instr.storeAt 81 (.pointer (some ⟨B,O,none⟩)) (.agg C)).run Tryz.prog w= .ok () (Qe w B O C):=
  run_storeAt_mid w B O 81 C (fun j hj=>⟨by rw [Qa,Array.getElem?_eq_getElem Om];rfl,Ql hz _⟩) (by rw [Qga,hs]) h1
 simp only [execOp,hx,hy,Sem.run_bind,hst,Result.andThen_ok,Sem.run_pure]
@[go_sem ↓ high] theorem QqX{l:Option Nat}{x y:Operand}{ty:TypeId}{g:Option (Nat×Bool)}(w:World)
  (hx:ρ x= .pointer (some ⟨Qb (ρ x),Qd (ρ x),none⟩))(hy:ρ y= .agg (ρ y).cells)(hs:Qo (ρ y).cells 6)(h:Fits (Qd (ρ x)) 6 (Qc w (Qb (ρ x))))(hz:Qt w (Qb (ρ x))=(0,0))(h1:QM (ρ y).cells):
  (Oper.semAt l ρ ⟨dst,.store 81 x y,ty,pos,after,g⟩).run Tryz.prog w= .ok .skip (Qe w (Qb (ρ x)) (Qd (ρ x)) (ρ y).cells):=by rw [Oper.semAt_eq _ _ _ (fun c h=>by cases h)];exact JK ρ dst x y ty pos after g w hx hy hs h hz h1
theorem Qhi(hs:(Qc w B).size=6)(hz:Qt w B=(0,0))(hcs:cs.size=6)(ho:QM cs){x y:Operand}{ty:TypeId}{g:Option (Nat×Bool)}
  (hx:ρ x= .pointer (some ⟨B,0,none⟩))(hy:ρ y= .agg cs):(execOp ρ ⟨dst,.store 81 x y,ty,pos,after,g⟩).run Tryz.prog w= .ok .skip (Qe w B 0 cs):=by
 have e:=JK ρ dst x y ty pos after g w (by rw [hx];rfl) (by rw [hy];rfl) (by rw [hy];exact hcs) (by rw [hx];show Fits 0 6 (Qc w B);unfold Fits;omega) (by rw [hx];exact hz) (by rw [hy];exact ho);rw [e,hx,hy];rfl
def QnS(ops:Array Oper):Prop:=Region.noSelect ops=true∧Qv ops 16 [0,1,2,3,4,5,6,7,8,9,10,11] 0=true∧Region.ready .any ops (msk 16 4095)= [12]∧Qv ops 16 [13] 8191=true∧Region.ready .any ops (msk 16 16383)= [14]∧Region.ready .any ops (msk 16 32767)= [15]∧Region.ready .any ops (msk 16 65535)= []
theorem QiT:QnS ((Tryz.f42.body.bind (Qg 9)).getD #[]):=⟨Kr,Kr,Kr,Kr,Kr,Kr,Kr⟩
def QkT(ops:Array Oper):Prop:=Region.noSelect ops=true∧Qp ops 4 [1] 0=true∧Region.ready .any ops (msk 4 2)= [0]∧Region.ready .any ops (msk 4 3)= [2]∧Region.ready .any ops (msk 4 7)= [3]∧Region.ready .any ops (msk 4 15)= []∧lateB .any ops 3 1=true
theorem Qhj:QkT ((Tryz.f42.body.bind (Qg 10)).getD #[]):=⟨Kr,Kr,Kr,Kr,Kr,Kr,Kr⟩
theorem QaO{C:Nat→Prop}{v:Int}(h0:w.cell? ⟨B,i,none⟩=some (.int .u32 v))(hl:Lt B w)(hC: ¬C B){q:Operand}{ty:TypeId}{g:Option (Nat×Bool)}
  (hx:ρ q= .pointer (some ⟨B,i,none⟩)): ∀w',Mv C w w'→(execOp ρ ⟨dst,.load 61 q,ty,pos,after,g⟩).run Tryz.prog w'= .ok (.value (.int .u32 v)) w':=by
 intro w' hE;have h1:w'.cell? ⟨B,i,none⟩=some (.int .u32 v):=by rw [Qa,Qf (hE.same B hl hC),←Qa];exact h0
 simp only [execOp,hx];go_simp
theorem QaP{C:Nat→Prop}{v:Int}(h0:w.cell? ⟨B,i,none⟩=some (.int .u16 v))(hl:Lt B w)(hC: ¬C B){q:Operand}{ty:TypeId}{g:Option (Nat×Bool)}
  (hx:ρ q= .pointer (some ⟨B,i,none⟩)): ∀w',Mv C w w'→(execOp ρ ⟨dst,.load 62 q,ty,pos,after,g⟩).run Tryz.prog w'= .ok (.value (.int .u16 v)) w':=by
 intro w' hE;have h1:w'.cell? ⟨B,i,none⟩=some (.int .u16 v):=by rw [Qa,Qf (hE.same B hl hC),←Qa];exact h0
 simp only [execOp,hx];go_simp
theorem YC{C:Nat→Prop}{v:Int}(h0:w.cell? ⟨B,i,none⟩=some (.int .u8 v))(hl:Lt B w)(hC: ¬C B){q:Operand}{ty:TypeId}{g:Option (Nat×Bool)}
  (hx:ρ q= .pointer (some ⟨B,i,none⟩)): ∀w',Mv C w w'→(execOp ρ ⟨dst,.load 5 q,ty,pos,after,g⟩).run Tryz.prog w'= .ok (.value (.int .u8 v)) w':=by
 intro w' hE;have h1:w'.cell? ⟨B,i,none⟩=some (.int .u8 v):=by rw [Qa,Qf (hE.same B hl hC),←Qa];exact h0
 simp only [execOp,hx];go_simp
theorem Qad{C:Nat→Prop}{a:Option Addr}{m c:Nat}(h0:w.cell? ⟨B,i,none⟩=some (.slice a m c))(hl:Lt B w)(hC: ¬C B){q:Operand}{ty:TypeId}{g:Option (Nat×Bool)}
  (hx:ρ q= .pointer (some ⟨B,i,none⟩)): ∀w',Mv C w w'→(execOp ρ ⟨dst,.load 28 q,ty,pos,after,g⟩).run Tryz.prog w'= .ok (.value (.slice a m c)) w':=by
 intro w' hE;have h1:w'.cell? ⟨B,i,none⟩=some (.slice a m c):=by rw [Qa,Qf (hE.same B hl hC),←Qa];exact h0
 simp only [execOp,hx];go_simp
theorem QtV{C:Nat→Prop}(h0:RowZ w B cs)(h6:cs.size=6)(hC: ¬C B){q:Operand}{ty:TypeId}{g:Option (Nat×Bool)}
  (hx:ρ q= .pointer (some ⟨B,0,none⟩)): ∀w',Mv C w w'→(execOp ρ ⟨dst,.load 81 q,ty,pos,after,g⟩).run Tryz.prog w'= .ok (.value (.agg cs)) w':=by
 intro w' hE;have h1:=h0.mv hE hC;have e:=Qac ρ dst q ty pos after g w' (by rw [hx];rfl) (by rw [hx];show Fits 0 6 (Qc w' B);rw [h1.r];unfold Fits;omega);rw [e,hx];show Result.ok (Next.value (Value.agg (QA (Qc w' B) 0 6))) w'=_;rw [h1.r,Q9 cs 6 h6]
theorem Qhk(h:RowZ w B cs)(h6:cs.size=6):(loadVar 81 ⟨B,0,none⟩).run Tryz.prog w= .ok (.agg cs) w:=by
 rw [QiS (by rw [h.r,h6];omega),h.r];rw [show cs.extract 0 (0+6)=cs by rw [Nat.zero_add,←h6];simp]
theorem QkU{v:Int}(h:w.cell? ⟨B,0,none⟩=some (.int .u8 v)):(loadVar 5 ⟨B,0,none⟩).run Tryz.prog w= .ok (.int .u8 v) w:=by go_simp
theorem ZJ{fn:Func}{p q:Tmp}{ty ty2:TypeId}{v:Value}(h:fn.results=#[.cell p ty,.cell q ty2])(tmps:Array Value)(w:World)(g g2:Nat)
  (hp:tmps.getD p undef= .pointer (some ⟨g,0,none⟩))(hq:tmps.getD q undef= .pointer (some ⟨g2,0,none⟩))(hl:(loadVar ty ⟨g,0,none⟩).run P w= .ok v w)(hl2:(loadVar ty2 ⟨g2,0,none⟩).run P w= .ok v2 w):(results fn tmps).run P w= .ok (.tuple #[v,v2]) w:=by
 have hp':tmps[p]?.getD undef= .pointer (some ⟨g,0,none⟩):=by simpa using hp
 have hq':tmps[q]?.getD undef= .pointer (some ⟨g2,0,none⟩):=by simpa using hq
 simp [results,h,hp',hq',asAddr,hl,hl2]
def Yp(bs:List Int):Int:=if Zp bs≠0 then Zp bs else if Qfo (hdI bs)≠0 then Qfo (hdI bs)else Ye (hdI bs).sr (hdI bs).ds (hdI bs).pl
theorem QnT{v:Int}(h: ∀j,j<i→ ∀x,(Qab bs)[j]?=some x→x=0)(hv:(Qab bs)[i]?=some v)(h0:v≠0):Yp bs=v:=by
 unfold Yp;have hi:i<3:=by have:=(List.getElem?_eq_some_iff.1 hv).1;exact this
 obtain rfl|rfl|rfl:i=0∨i=1∨i=2:=by omega
 ·obtain rfl:Zp bs=v:=Option.some.inj hv;rw [if_pos h0]
 ·have a0:=h 0 Om _ rfl;obtain rfl:Qfo (hdI bs)=v:=Option.some.inj hv;rw [if_neg Om,if_pos h0]
 ·have a0:=h 0 Om _ rfl;have a1:=h 1 Om _ rfl;obtain rfl:Ye (hdI bs).sr (hdI bs).ds (hdI bs).pl=v:=Option.some.inj hv;rw [if_neg Om,if_neg Om]
theorem QnU(h: ∀j,j<3→ ∀x,(Qab bs)[j]?=some x→x=0):Yp bs=0:=by
 have a0:=h 0 Om _ rfl;have a1:=h 1 Om _ rfl;have a2:=h 2 Om _ rfl;unfold Yp;rw [if_neg Om,if_neg Om];exact a2
structure Pk where
 tu:Tu
 fl:Int
 by_:List Int
def pkV(t:Pk)(v:Value):Array Value:=#[.int .u32 t.tu.a,.int .u32 t.tu.b,.int .u16 t.tu.c,.int .u16 t.tu.d,.int .u8 t.fl,v]
def QnV:Pk:=⟨⟨0,0,0,0⟩,0,[]⟩
def pkI(bs:List Int):Pk:=if Yp bs=0 then⟨⟨(hdI bs).sr,(hdI bs).ds,(tcI (hdI bs).sr (hdI bs).ds (hdI bs).pl).sp,(tcI (hdI bs).sr (hdI bs).ds (hdI bs).pl).dp⟩,(tcI (hdI bs).sr (hdI bs).ds (hdI bs).pl).fl,bs⟩else QnV
structure DrI(bs:List Int)(B i:Nat)(W:World):Prop where
 at_: ∃v,RowZ W B #[.int .u8 v]∧(∀j,j<i→ ∀x,(Qab bs)[j]?=some x→x=0)∧(v=0∨(Qab bs)[i]?=some v)
structure DrX(bs:List Int)(B:Nat)(cc:Code)(W:World):Prop where
 c:cc= .goto 0
 n:Yp bs≠0
 r:RowZ W B #[.int .u8 (Yp bs)]
theorem Qhl(p:Option Addr)(bs:List Int)(c:Nat)(w:World)(hs:SlB w p bs)(hr:ByR bs)(hl:bs.length≤1000)(hlc:bs.length≤c)(hpb: ∀b off,p=some ⟨b,off,none⟩→b<w.heap.size):
  Calls Tryz.prog 42 #[.slice p bs.length c] w fun e w'=> ∃vb,e= .returned (.tuple #[.agg (pkV (pkI bs) vb),.int .u8 (Yp bs)])∧Ext w w'∧SlV w' w.heap.size vb (pkI bs).by_:=by
 have HS:=Xh hs;have HR:=Xh hr;have HPB:=Xh hpb;clear hs hr hpb;refine(callsIn_wide (n:=5)).1 ?_;refine callsIn_of_wp_marks Tryz.func42 rfl trivial ?_ rfl;simp only [Tryz.ntmps42,List.size_toArray,List.length_cons,List.length_nil,Nat.reduceAdd,Nat.reduceSub,Array.replicate_succ,Array.replicate_zero,List.push_toArray,List.append_toArray,List.nil_append,List.cons_append];refine wpIn_wide.2 ?_;go_wp2;refine Qr 0 rfl ?_
 go_wp2_with (go_at_call 102;(with_reducible refine(QlY _ _ _ _).mono ?_);rintro e w2 ⟨rfl,rfl⟩)
 obtain⟨W2,hW2⟩: ∃W2,(((((((w.alloc (.cells #[.slice p bs.length c] 28)).alloc (.cells #[.int .u32 0,.int .u32 0,.int .u16 0,.int .u16 0,.int .u8 0,.slice none 0 0] 81)).alloc (.cells #[.int .u8 0] 5)).alloc (.cells #[.int .u8 0,.int .u16 0,.int .u16 0,.int .u8 0,.int .u8 0,.int .u32 0,.int .u32 0,.slice none 0 0,.slice none 0 0] 132)).alloc (.cells #[.int .u16 0,.int .u16 0,.int .u8 0,.int .i64 0,.slice none 0 0] 142)).alloc (.cells #[.func (.func 98) #[] #[.pointer (some ⟨w.heap.size,0,none⟩),.pointer (some ⟨w.heap.size+1+1+1,0,none⟩)],.func (.func 99) #[] #[.pointer (some ⟨w.heap.size+1+1+1,0,none⟩)],.func (.func 100) #[] #[.pointer (some ⟨w.heap.size+1+1+1,0,none⟩),.pointer (some ⟨w.heap.size+1+1+1+1,0,none⟩)]] 217)).alloc (.cells #[.slice (some ⟨w.heap.size+1+1+1+1+1,0,none⟩) 3 3] 215))=W2:=⟨_,rfl⟩;have g2:Ext w W2:=by rw [←hW2];exact Ext.al (Ext.al (Ext.al (Ext.al (Ext.al (Ext.al (Ext.al (Ext.rf _) _) _) _) _) _) _) _
 have hsz:W2.heap.size=w.heap.size+7:=by rw [←hW2];simp
 have c0:W2.cell? ⟨w.heap.size,0,none⟩=some (.slice p bs.length c):=by rw [←hW2];simp [go_sem]
 have r1:RowZ W2 (w.heap.size+1) #[.int .u32 0,.int .u32 0,.int .u16 0,.int .u16 0,.int .u8 0,.slice none 0 0]:=by rw [←hW2];exact⟨by simp [go_sem],by simp [go_sem],by simp [go_sem,Lt]⟩
 have r2:RowZ W2 (w.heap.size+1+1) #[.int .u8 0]:=by rw [←hW2];exact⟨by simp [go_sem],by simp [go_sem],by simp [go_sem,Lt]⟩
 have r3:RowZ W2 (w.heap.size+1+1+1) #[.int .u8 0,.int .u16 0,.int .u16 0,.int .u8 0,.int .u8 0,.int .u32 0,.int .u32 0,.slice none 0 0,.slice none 0 0]:=by rw [←hW2];exact⟨by simp [go_sem],by simp [go_sem],by simp [go_sem,Lt]⟩
 have r4:RowZ W2 (w.heap.size+1+1+1+1) #[.int .u16 0,.int .u16 0,.int .u8 0,.int .i64 0,.slice none 0 0]:=by rw [←hW2];exact⟨by simp [go_sem],by simp [go_sem],by simp [go_sem,Lt]⟩
 have hk:Lk (w.heap.size+1+1+1+1+1+1) (w.heap.size+1+1+1+1+1) w.heap.size (w.heap.size+1+1+1) (w.heap.size+1+1+1+1) W2:=by
  rw [←hW2];exact⟨by simp [go_sem],by simp [go_sem],by simp [go_sem],by simp [go_sem],by simp [go_sem,Lt],by simp [go_sem,Lt]⟩
 rw [hW2];clear hW2;obtain⟨b1,e1⟩: ∃b,w.heap.size+1=b:=⟨_,rfl⟩;rw [e1]at r1 r2 r3 r4 hk⊢;obtain⟨b2,e2⟩: ∃b,b1+1=b:=⟨_,rfl⟩;rw [e2]at r2 r3 r4 hk⊢;obtain⟨b3,e3⟩: ∃b,b2+1=b:=⟨_,rfl⟩;rw [e3]at r3 r4 hk⊢;obtain⟨b4,e4⟩: ∃b,b3+1=b:=⟨_,rfl⟩;rw [e4]at r4 hk⊢;obtain⟨b5,e5⟩: ∃b,b4+1=b:=⟨_,rfl⟩;rw [e5]at hk⊢;obtain⟨b6,e6⟩: ∃b,b5+1=b:=⟨_,rfl⟩;rw [e6]at hk⊢;have h0:PSt p bs c w.heap.size b3 b4 (W2.heap.size+2) 0 W2:=⟨c0,by unfold Lt;omega,HS.out.ext g2,⟨_,_,r3,SlV.nil _ _⟩,⟨_,r4⟩⟩;refine(wpIn_wide (n:=5)).1 ?_;refine QaN rfl Om (gf:=177) (lb:=#[.pointer (some ⟨b6,0,none⟩)]) rfl trivial Qf9
  (QiR _ p bs c w.heap.size b3 b4 b6 b5 W2 (fun k=>k=b2) HR.out hl hlc hk h0 Om Om Om Om Om Om (fun b off e=>by have:=HPB.out b off e;omega) (fun k e=>by subst e;exact⟨Om,Om,Om,Om,Om,Om,fun b off e=>by have:=HPB.out b off e;omega⟩))
  (fun A B hS hm=>hS.mv hm Om Om Om (fun b off e=>by have:=HPB.out b off e;omega) (fun k hk e=>by omega))
  (fun k e=>by omega) (fun k e=>by omega) (fun _=>rfl)
  (DrI bs b2) (DrX bs b2)
  (fun i A B h hm=>by obtain⟨⟨v,a1,a2,a3⟩⟩:=h;exact⟨⟨v,a1.mv hm Om,a2,a3⟩⟩)
  (fun cc A B h hm=>⟨h.c,h.n,h.r.mv hm Om⟩) ⟨⟨0,r2,fun j hj=>by omega,.inl rfl⟩⟩
  (fun x a' W=>RowZ W b2 #[.int .u8 x]∧a'={tmps:=#[.slice p bs.length c,.pointer (some ⟨w.heap.size,0,none⟩),.pointer (some ⟨b1,0,none⟩),.pointer (some ⟨b2,0,none⟩),.pointer (some ⟨b3,0,none⟩),.pointer (some ⟨b4,0,none⟩),.func (.func 98) #[] #[.pointer (some ⟨w.heap.size,0,none⟩),.pointer (some ⟨b3,0,none⟩)],.func (.func 99) #[] #[.pointer (some ⟨b3,0,none⟩)],.func (.func 100) #[] #[.pointer (some ⟨b3,0,none⟩),.pointer (some ⟨b4,0,none⟩)],.func (.func 98) #[] #[.pointer (some ⟨w.heap.size,0,none⟩),.pointer (some ⟨b3,0,none⟩)],.func (.func 99) #[] #[.pointer (some ⟨b3,0,none⟩)],.func (.func 100) #[] #[.pointer (some ⟨b3,0,none⟩),.pointer (some ⟨b4,0,none⟩)],.func (.func 98) #[] #[.pointer (some ⟨w.heap.size,0,none⟩),.pointer (some ⟨b3,0,none⟩)],.func (.func 99) #[] #[.pointer (some ⟨b3,0,none⟩)],.func (.func 100) #[] #[.pointer (some ⟨b3,0,none⟩),.pointer (some ⟨b4,0,none⟩)],.slice (some ⟨b5,0,none⟩) 3 3,.func (.func 177) #[] #[.pointer (some ⟨b6,0,none⟩)],.int .u8 x,undef,undef,undef,undef,undef,undef,undef,undef,undef,undef,undef,undef,undef,undef,undef,undef,undef,undef],defers:= []})
  (fun x a' A B h hm=>⟨h.1.mv hm Om,h.2⟩) ?assign ?body ?done ?stop
 case assign=>
  rintro y i x W K hsz' hv ⟨⟨v,a1,a2,a3⟩⟩ hx hK;have cd:=a1.cell 0 (by show 0<1;omega);have fd:=a1.frz 0
  gi_wp2
  exact hK _ _ (Mv.st _ (.inl rfl) (Mv.refl _ _)) ⟨⟨x,a1.set 0 _,a2,.inr hx⟩⟩ ⟨a1.set 0 _,rfl⟩
 case body=>
  rintro y i x a' W hyl ⟨rr,hr⟩ hsz' hv ⟨⟨v,a1,a2,a3⟩⟩ hx ⟨a4,rfl⟩;have cd:=a4.cell 0 (by show 0<1;omega);have HX:=Xh hx;have HA:=Xh a2;have HR4:=Xh a4;clear hx hr hv a2 a3 a1 hyl a4
  cases hq:(x==0)
  ·have hxn:x≠0:=by simpa using hq
   have HW:=Xh (QnT HA.out HX.out hxn)
   gi_wp2
   refine wpIn_goto ?_;exact⟨Mv.refl _ _,rfl,by rw [HW.out];exact hxn,by rw [HW.out];exact HR4.out⟩
  ·obtain rfl:x=0:=by simpa using hq
   gi_wp2
   exact⟨Mv.refl _ _,⟨⟨0,HR4.out,fun j hj z hz=>by
    rcases Nat.lt_or_ge j i with h|h
    ·exact HA.out j h z hz
    ·obtain rfl:j=i:=by omega
     rw [HX.out]at hz;exact(Option.some.inj hz).symm,.inl rfl⟩⟩⟩
 case done=>
  rintro W hS ⟨⟨v,a1,a2,a3⟩⟩ hv hK;have HW:=Xh (show Yp bs=0 from QnU a2);obtain⟨vo,vp,rh,-⟩:=hS.h;obtain⟨vd,rt⟩:=hS.t;have rh:RowZ W b3 (heV (hdI bs) vo vp):=rh;have rt:RowZ W b4 (tcV (tcI (hdI bs).sr (hdI bs).ds (hdI bs).pl) vd):=rt;have r1:=r1.mv hv Om;have cb:=hS.cb;have l1:=hS.l1;have s:=hS.sb;have E:=Mv.ext_of g2 hv (fun k h=>by omega);have hKs:=(Array.getElem?_eq_some_iff.1 hK).1;obtain⟨H,hH⟩: ∃H,hdI bs=H:=⟨_,rfl⟩;rw [hH]at rh rt;obtain⟨T,hT⟩: ∃T,tcI H.sr H.ds H.pl=T:=⟨_,rfl⟩;rw [hT]at rt;have HPK:=Xh (show pkI bs=⟨⟨H.sr,H.ds,T.sp,T.dp⟩,T.fl,bs⟩by unfold pkI;rw [if_pos HW.out,hH,hT]);have HKK:=Xh hK;clear a2 a3 hS hH hT hk r2 r3 r4 h0 c0 hv hK
  go_upto_region 9 with(fail)
  refine QT (fun k=>k=b1∨k=b2) Kr ?_;obtain⟨WA,hW⟩: ∃Wdr,World.drew W=Wdr:=⟨_,rfl⟩;have gD:Ext W WA:=by rw [←hW];exact Ext.dr (Ext.rf _)
  rw [hW];clear hW;have E:=E.tr gD;have rh:=rh.ext gD;have rt:=rt.ext gD;have r1:=r1.ext gD;have a1:=a1.ext gD;have s:=s.ext gD;have cb:=(gD.cell (p:=⟨w.heap.size,0,none⟩) l1).trans cb;have l1:=Xl l1 gD.size;have hk1:=(gD.block _ hKs).trans HKK.out;refine Qas (N:=16) (R:=QnS) (E:=((Tryz.f42.body.bind (Qg 9)).getD #[])) Kr QiT Kr fun hS=> ?_;have hT:=hS.2.1;refine tMk 1 (.pointer (some ⟨b3,5,none⟩)) hS.1 hT rfl fun hT=> ?_;refine tM 3 (.int .u32 H.sr) hS.1 hT rfl (QaO (rh.cell 5 (by show 5<9;omega)) rh.l Om Kr) fun hT=> ?_;refine tMk 7 (.pointer (some ⟨b3,6,none⟩)) hS.1 hT rfl fun hT=> ?_;refine tM 15 (.int .u32 H.ds) hS.1 hT rfl (QaO (rh.cell 6 (by show 6<9;omega)) rh.l Om Kr) fun hT=> ?_;refine tMk 31 (.pointer (some ⟨b4,0,none⟩)) hS.1 hT rfl fun hT=> ?_;refine tM 63 (.int .u16 T.sp) hS.1 hT rfl (QaP (rt.cell 0 (by show 0<5;omega)) rt.l Om Kr) fun hT=> ?_;refine tMk 127 (.pointer (some ⟨b4,1,none⟩)) hS.1 hT rfl fun hT=> ?_;refine tM 255 (.int .u16 T.dp) hS.1 hT rfl (QaP (rt.cell 1 (by show 1<5;omega)) rt.l Om Kr) fun hT=> ?_;refine tMk 511 (.agg #[.int .u32 H.sr,.int .u32 H.ds,.int .u16 T.sp,.int .u16 T.dp]) hS.1 hT rfl fun hT=> ?_;refine tMk 1023 (.pointer (some ⟨b4,2,none⟩)) hS.1 hT rfl fun hT=> ?_;refine tM 2047 (.int .u8 T.fl) hS.1 hT rfl (YC (rt.cell 2 (by show 2<5;omega)) rt.l Om Kr) fun hT=> ?_;refine tM 4095 (.slice p bs.length c) hS.1 hT rfl (Qad cb l1 Om Kr) fun hT=> ?_;refine sM 8191 (fun v w'=>OBn w' (b6+1) v bs) hS.2.2.1 rfl (Qf2 (p:=p) (n:=bs.length) (c:=c) (lo:=b6+1) s Om rfl (by have:=E.size;have:=Xl hKs gD.size;omega)) ?_;rintro vb WB1 gWB1 ob;have E:=E.tr gWB1;have r1:=r1.ext gWB1;have a1:=a1.ext gWB1;obtain⟨pv,cv,rfl,-,-⟩:=ob.sl;have hkl:W2.heap.size<WB1.heap.size:=Xl (Xl hKs gD.size) gWB1.size;have hk1:=(gWB1.block _ (Xl hKs gD.size)).trans hk1;have hT:=hS.2.2.2.1;refine tMk 16383 (.agg #[.int .u32 H.sr,.int .u32 H.ds,.int .u16 T.sp,.int .u16 T.dp,.int .u8 T.fl,.slice pv bs.length cv]) hS.1 hT rfl fun hT=> ?_;refine QaB hS.2.2.2.2.1 (J9 (m':=32767) rfl rfl Kr (Qhi (B:=b1) (cs:=#[.int .u32 H.sr,.int .u32 H.ds,.int .u16 T.sp,.int .u16 T.dp,.int .u8 T.fl,.slice pv bs.length cv]) (by rw [r1.r];rfl) r1.z rfl (by simp [go_sem]) Kr Kr) (Mv.sa _ (.inl rfl) (Mv.refl _ _)) ?_);obtain⟨WB2,hWB2⟩: ∃WB2,Qe WB1 b1 0 #[.int .u32 H.sr,.int .u32 H.ds,.int .u16 T.sp,.int .u16 T.dp,.int .u8 T.fl,.slice pv bs.length cv]=WB2:=⟨_,rfl⟩;have gS:Mv (fun k=>k=b1∨k=b2) WB1 WB2:=by rw [←hWB2];exact Mv.sa _ (.inl rfl) (Mv.refl _ _)
  have E:=Mv.ext_of E gS (fun k e=>by omega);have ob:=ob.mv gS (fun k e=>by omega);have hk1:=(gS.same W2.heap.size hkl Om).trans hk1;have hkl:=Xl hkl gS.size;have r1:RowZ WB2 b1 #[.int .u32 H.sr,.int .u32 H.ds,.int .u16 T.sp,.int .u16 T.dp,.int .u8 T.fl,.slice pv bs.length cv]:=by rw [←hWB2];exact r1.all _ rfl
  have a1:=a1.mv (show Mv (fun k=>k=b1) WB1 WB2 by rw [←hWB2];exact Mv.sa _ rfl (Mv.refl _ _)) Om;rw [hWB2];clear hWB2;refine QaB hS.2.2.2.2.2.1 (J9 (m':=65535) rfl rfl Kr (Qf3 (v:=0) (a1.cell 0 (by show 0<1;omega)) (a1.frz 0) Kr Kr) (Mv.st _ (.inl (.inr rfl)) (Mv.refl _ _)) ?_);obtain⟨WB3,hWB3⟩: ∃WB3,World.setCell WB2 ⟨b2,0,none⟩ (.int .u8 0)=WB3:=⟨_,rfl⟩;have gS:Mv (fun k=>k=b1∨k=b2) WB2 WB3:=by rw [←hWB3];exact Mv.st _ (.inl (.inr rfl)) (Mv.refl _ _)
  have E:=Mv.ext_of E gS (fun k e=>by omega);have ob:=ob.mv gS (fun k e=>by omega);have hk1:=(gS.same W2.heap.size hkl Om).trans hk1;have hkl:=Xl hkl gS.size;have a1:RowZ WB3 b2 #[.int .u8 0]:=by rw [←hWB3];exact a1.set 0 _
  have r1:=r1.mv (show Mv (fun k=>k=b2) WB2 WB3 by rw [←hWB3];exact Mv.st _ (.inl rfl) (Mv.refl _ _)) Om;rw [hWB3];clear hWB3;refine doneK hS.2.2.2.2.2.2 ?_;clear hS hT;go_simp;have HE:=Xh E;have HR1:=Xh r1;have HA1:=Xh a1;have HOB:=Xh ob;clear E r1 a1 ob rh rt s cb l1 gS gD;go_wp2;simp only [Exit.jump];refine⟨by simp,.inl ⟨_,_,rfl,run_takeDeferred (by rw [hsz]at hk1;exact hk1),?_⟩⟩;have m3:Mv (fun k=>k=w.heap.size+7) WB3 (WB3.putObj (w.heap.size+7) (.deferred none)):=Mv.put _ _ _ rfl;refine⟨_,ZJ rfl _ _ b1 b2 rfl rfl (Qhk (HR1.out.mv m3 Om) rfl) (QkU ((HA1.out.mv m3 Om).cell 0 (by show 0<1;omega))),.slice pv bs.length cv,?_,Mv.ext_of HE.out m3 (fun k e=>by omega),?_⟩
  ·rw [HW.out,HPK.out];rfl
  ·rw [HPK.out];exact SlV.of ((HOB.out.mv (C:=fun k=>k=b6+1) (by rw [show b6+1=w.heap.size+7 by omega];exact m3) (fun k e=>by omega)).ob.le Om)
 case stop=>
  rintro cc W ⟨rfl,hn,hd⟩ hv hK;refine wpIn_goto ?_;simp only [Exit.inBlock,Exit.then,Exit.jump];refine⟨rfl,?_⟩;have r1:=r1.mv hv Om;have a1:=hd;have E:=Mv.ext_of g2 hv (fun k h=>by omega);have hkl:=(Array.getElem?_eq_some_iff.1 hK).1;have hk1:=hK;have HPK:=Xh (show pkI bs=QnV by unfold pkI;rw [if_neg hn]);clear hk r2 r3 r4 h0 c0 hv hK hd hn
  go_upto_region 10 with(fail)
  refine Qy (fun k=>k=b1) (fun k=>k=b1∨k=b2) 3 Kr ?_;obtain⟨WA,hW⟩: ∃Wdr,World.drew W=Wdr:=⟨_,rfl⟩;have gD:Ext W WA:=by rw [←hW];exact Ext.dr (Ext.rf _)
  rw [hW];clear hW;have E:=E.tr gD;have r1:=r1.ext gD;have a1:=a1.ext gD;have hk1:=(gD.block _ hkl).trans hk1;have hkl:=Xl hkl gD.size;refine Zi (N:=4) (R:=QkT) (E:=((Tryz.f42.body.bind (Qg 10)).getD #[])) Kr Qhj Kr fun hS=> ?_;have hT:=hS.2.1;refine ZA (N:=4) (k:=1) (m':=2) (v:= .int .u8 (Yp bs)) hS.1 hT hS.2.2.2.2.2.2 rfl rfl Kr (YC (a1.cell 0 (by show 0<1;omega)) a1.l Om Kr) fun hT=> ?_;refine Qs hS.2.2.1 (Zl (m':=3) (v:= .agg #[.int .u32 0,.int .u32 0,.int .u16 0,.int .u16 0,.int .u8 0,.slice none 0 0]) rfl rfl Kr ((QtV r1 rfl (fun h=>h) Kr) _ (Mv.refl (fun _=>False) _)) ⟨.inr (Mv.refl _ _),(Mv.refl _ _)⟩ ?_);refine Qs hS.2.2.2.1 (QD (m':=7) rfl rfl Kr (Qhi (B:=b1) (cs:=#[.int .u32 0,.int .u32 0,.int .u16 0,.int .u16 0,.int .u8 0,.slice none 0 0]) (by rw [r1.r];rfl) r1.z rfl (by simp [go_sem]) Kr Kr) ⟨.inr (Mv.sa _ (by first|exact rfl|exact .inl rfl) (Mv.refl _ _)),(Mv.sa _ (by first|exact rfl|exact .inl rfl) (Mv.refl _ _))⟩ ?_);obtain⟨WB2,hWB2⟩: ∃WB2,Qe WA b1 0 #[.int .u32 0,.int .u32 0,.int .u16 0,.int .u16 0,.int .u8 0,.slice none 0 0]=WB2:=⟨_,rfl⟩;have gS:Mv (fun k=>k=b1∨k=b2) WA WB2:=by rw [←hWB2];exact Mv.sa _ (.inl rfl) (Mv.refl _ _)
  have E:=Mv.ext_of E gS (fun k e=>by omega);have hk1:=(gS.same W2.heap.size hkl Om).trans hk1;have hkl:=Xl hkl gS.size;have r1:RowZ WB2 b1 #[.int .u32 0,.int .u32 0,.int .u16 0,.int .u16 0,.int .u8 0,.slice none 0 0]:=by rw [←hWB2];exact r1.all _ rfl
  have a1:=a1.mv (show Mv (fun k=>k=b1) WA WB2 by rw [←hWB2];exact Mv.sa _ rfl (Mv.refl _ _)) Om;rw [hWB2];clear hWB2;refine Qs hS.2.2.2.2.1 (QD (m':=15) rfl rfl Kr (Qf3 (v:=Yp bs) (a1.cell 0 (by show 0<1;omega)) (a1.frz 0) Kr Kr) ⟨.inl Dc,(Mv.st _ (.inl (.inr rfl)) (Mv.refl _ _))⟩ ?_);obtain⟨WB3,hWB3⟩: ∃WB3,World.setCell WB2 ⟨b2,0,none⟩ (.int .u8 (Yp bs))=WB3:=⟨_,rfl⟩;have gS:Mv (fun k=>k=b1∨k=b2) WB2 WB3:=by rw [←hWB3];exact Mv.st _ (.inl (.inr rfl)) (Mv.refl _ _)
  have E:=Mv.ext_of E gS (fun k e=>by omega);have hk1:=(gS.same W2.heap.size hkl Om).trans hk1;have hkl:=Xl hkl gS.size;have a1:RowZ WB3 b2 #[.int .u8 (Yp bs)]:=by rw [←hWB3];exact a1.set 0 _
  have r1:=r1.mv (show Mv (fun k=>k=b2) WB2 WB3 by rw [←hWB3];exact Mv.st _ (.inl rfl) (Mv.refl _ _)) Om;rw [hWB3];clear hWB3;refine Q2 hS.2.2.2.2.2.1 ?_;clear hS hT;go_simp;have HE:=Xh E;have HR1:=Xh r1;have HA1:=Xh a1;clear E r1 a1 gS gD;go_wp2;rw [Exit.noGoto_ret];refine⟨by simp,.inl ⟨_,_,rfl,run_takeDeferred (by rw [hsz]at hk1;exact hk1),?_⟩⟩;have m3:Mv (fun k=>k=w.heap.size+7) WB3 (WB3.putObj (w.heap.size+7) (.deferred none)):=Mv.put _ _ _ rfl;refine⟨_,ZJ rfl _ _ b1 b2 rfl rfl (Qhk (HR1.out.mv m3 Om) rfl) (QkU ((HA1.out.mv m3 Om).cell 0 (by show 0<1;omega))),.slice none 0 0,?_,Mv.ext_of HE.out m3 (fun k e=>by omega),?_⟩
  ·rw [HPK.out];rfl
  ·rw [HPK.out];exact SlV.nil _ _
theorem Qgb:(Tryz.prog.info? 75).map (·.size)=some 6:=Kr
theorem Ql0{b o:Nat}(h:o+6≤(Qc w b).size):(Instr.loadAt 75 (.pointer (some ⟨b,o,none⟩))).run Tryz.prog w= .ok (.agg ((Qc w b).extract o (o+6))) w:=by
 have:=run_loadAt_mid w b o 75 ((Qc w b).extract o (o+6)).toList _ (QC w b o (o+6)) Tryz.underlying75 rfl (by rw [Qgb];simp;omega)
 rwa [Array.toArray_toList]at this
theorem Qae{b o:Nat}(h:o+6≤(Qc w b).size):(loadVar 75 ⟨b,o,none⟩).run Tryz.prog w= .ok (.agg ((Qc w b).extract o (o+6))) w:=by
 have:=run_loadVar_mid w b o 75 ((Qc w b).extract o (o+6)).toList _ (QC w b o (o+6)) Tryz.underlying75 rfl (by rw [Qgb];simp;omega)
 rwa [Array.toArray_toList]at this
@[go_sem ↓ high] theorem Qcf(ρ:Operand→Value)(dst:Option Tmp)(x:Operand)(ty:TypeId)(pos:String)(after:Array Edge)(g:Option (Nat×Bool))(w:World)
  (hx:ρ x= .pointer (some ⟨Qb (ρ x),Qd (ρ x),none⟩))(h:Fits (Qd (ρ x)) 6 (Qc w (Qb (ρ x)))):
  (execOp ρ ⟨dst,.load 75 x,ty,pos,after,g⟩).run Tryz.prog w= .ok (.value (.agg (QA (Qc w (Qb (ρ x))) (Qd (ρ x)) 6))) w:=by
 unfold Fits at h;generalize hB:Qb (ρ x)=B at*;generalize hO:Qd (ρ x)=O at*;simp only [execOp,hx,Sem.run_bind,Ql0 h,Result.andThen_ok,Sem.run_pure,QA]
@[go_sem ↓ high] theorem QsM{l:Option Nat}{x:Operand}{ty:TypeId}{g:Option (Nat×Bool)}(w:World)
  (hx:ρ x= .pointer (some ⟨Qb (ρ x),Qd (ρ x),none⟩))(h:Fits (Qd (ρ x)) 6 (Qc w (Qb (ρ x)))):
  (Oper.semAt l ρ ⟨dst,.load 75 x,ty,pos,after,g⟩).run Tryz.prog w= .ok (.value (.agg (QA (Qc w (Qb (ρ x))) (Qd (ρ x)) 6))) w:=by rw [Oper.semAt_eq _ _ _ (fun c h=>by cases h)];exact Qcf ρ dst x ty pos after g w hx h
@[go_sem ↓ high] theorem Qbs(ρ:Operand→Value)(dst:Option Tmp)(x y:Operand)(ty:TypeId)(pos:String)(after:Array Edge)(g:Option (Nat×Bool))(w:World)
  (hx:ρ x= .pointer (some ⟨Qb (ρ x),Qd (ρ x),none⟩))(hy:ρ y= .agg (ρ y).cells)(hs:Qo (ρ y).cells 6)(h:Fits (Qd (ρ x)) 6 (Qc w (Qb (ρ x))))(hz:Qt w (Qb (ρ x))=(0,0))(h1:QM (ρ y).cells):
  (execOp ρ ⟨dst,.store 75 x y,ty,pos,after,g⟩).run Tryz.prog w= .ok .skip (Qe w (Qb (ρ x)) (Qd (ρ x)) (ρ y).cells):=by
 unfold Fits at h;unfold Qo at hs;generalize hB:Qb (ρ x)=B at*;generalize hO:Qd (ρ x)=O at*;generalize hC:(ρ y).cells=C at*;have hst:(Instr.storeAt 75 (.pointer (some ⟨B,O,none⟩)) (.agg C)).run Tryz.prog w= .ok () (Qe w B O C):=
  run_storeAt_mid w B O 75 C (fun j hj=>⟨by rw [Qa,Array.getElem?_eq_getElem Om];rfl,Ql hz _⟩) (by rw [Qgb,hs]) h1
 simp only [execOp,hx,hy,Sem.run_bind,hst,Result.andThen_ok,Sem.run_pure]
@[go_sem ↓ high] theorem QqY{l:Option Nat}{x y:Operand}{ty:TypeId}{g:Option (Nat×Bool)}(w:World)
  (hx:ρ x= .pointer (some ⟨Qb (ρ x),Qd (ρ x),none⟩))(hy:ρ y= .agg (ρ y).cells)(hs:Qo (ρ y).cells 6)(h:Fits (Qd (ρ x)) 6 (Qc w (Qb (ρ x))))(hz:Qt w (Qb (ρ x))=(0,0))(h1:QM (ρ y).cells):
  (Oper.semAt l ρ ⟨dst,.store 75 x y,ty,pos,after,g⟩).run Tryz.prog w= .ok .skip (Qe w (Qb (ρ x)) (Qd (ρ x)) (ρ y).cells):=by rw [Oper.semAt_eq _ _ _ (fun c h=>by cases h)];exact Qbs ρ dst x y ty pos after g w hx hy hs h hz h1
theorem QnW(hs:(Qc w B).size=6)(hz:Qt w B=(0,0))(hcs:cs.size=6)(ho:QM cs){x y:Operand}{ty:TypeId}{g:Option (Nat×Bool)}
  (hx:ρ x= .pointer (some ⟨B,0,none⟩))(hy:ρ y= .agg cs):(execOp ρ ⟨dst,.store 75 x y,ty,pos,after,g⟩).run Tryz.prog w= .ok .skip (Qe w B 0 cs):=by
 have e:=Qbs ρ dst x y ty pos after g w (by rw [hx];rfl) (by rw [hy];rfl) (by rw [hy];exact hcs) (by rw [hx];show Fits 0 6 (Qc w B);unfold Fits;omega) (by rw [hx];exact hz) (by rw [hy];exact ho);rw [e,hx,hy];rfl
structure Opt where
 ki:Int
 bu:Int
 cu:Int
 pv:Int
 ge:Int
 ti:Int
def opv(o:Opt):Array Value:=#[.int .u8 o.ki,.int .u8 o.bu,.int .i64 o.cu,.int .i64 o.pv,.int .i64 o.ge,.int .i64 o.ti]
structure Nm where
 n:Int
 lo:Int
 hi:Int
 by_:Int
def nmv(x:Nm):Array Value:=#[.int .i64 x.n,.int .i64 x.lo,.int .i64 x.hi,.int .i64 x.by_]
def Qaf(o:Opt):List Nm:= [⟨158,158,158,1⟩,⟨16,16,16,1⟩,⟨o.ki,1,5,1⟩,⟨o.bu,0,15,1⟩,⟨o.cu,-1,5,1⟩,⟨o.pv,-1,5,1⟩,⟨o.ge,0,2147483647,4⟩,⟨o.ti,0,1099511627776,6⟩]
def SlN(w:World)(p:Option Addr)(xs:List Nm):Prop:= ∀k,(h:k<xs.length)→ ∃b off,p=some ⟨b,off,none⟩∧b<w.heap.size∧w.cell? ⟨b,off+k*4,none⟩=some (.int .i64 xs[k].n)∧w.cell? ⟨b,off+k*4+1,none⟩=some (.int .i64 xs[k].lo)∧w.cell? ⟨b,off+k*4+2,none⟩=some (.int .i64 xs[k].hi)∧w.cell? ⟨b,off+k*4+3,none⟩=some (.int .i64 xs[k].by_)
theorem SlN.ext{p:Option Addr}{xs:List Nm}(h:SlN w p xs)(e:Ext w w'):SlN w' p xs:=fun k hk=>by
 obtain⟨b,off,hp,hb,c0,c1,c2,c3⟩:=h k hk;exact⟨b,off,hp,Xl hb e.size,(e.cell (p:=⟨b,_,none⟩) hb).trans c0,(e.cell (p:=⟨b,_,none⟩) hb).trans c1,(e.cell (p:=⟨b,_,none⟩) hb).trans c2,(e.cell (p:=⟨b,_,none⟩) hb).trans c3⟩
theorem SlN.mvc{B:World}{C:Nat→Prop}{p:Option Addr}{xs:List Nm}(h:SlN A p xs)(m:Mv C A B)(hb: ∀b off,p=some ⟨b,off,none⟩→ ¬C b):SlN B p xs:=fun k hk=>by
 obtain⟨b,off,hp,h2,c0,c1,c2,c3⟩:=h k hk;have e:=Qf (m.same b h2 (hb b off hp));simp only [Qa]at c0 c1 c2 c3⊢;exact⟨b,off,hp,Xl h2 m.size,by rw [e];exact c0,by rw [e];exact c1,by rw [e];exact c2,by rw [e];exact c3⟩
def Nm.cl(x:Nm):List Value:= [.int .i64 x.n,.int .i64 x.lo,.int .i64 x.hi,.int .i64 x.by_]
def flN:List Nm→List Value
 | []=> []
 |x::xs=>x.cl++flN xs
theorem QkV: ∀(xs:List Nm) (k j:Nat) (hk:k<xs.length),j<4→(flN xs)[k*4+j]?=(xs[k]).cl[j]?
 |x::xs,0,j,_,hj=>by
  show(x.cl++flN xs)[0*4+j]?=_;rw [Nat.zero_mul,Nat.zero_add,List.getElem?_append_left (by show j<4;exact hj)];rfl
 |x::xs,k+1,j,hk,hj=>by
  show(x.cl++flN xs)[(k+1)*4+j]?=_;have hc:x.cl.length=4:=rfl;rw [List.getElem?_append_right Om,hc,show(k+1)*4+j- 4=k*4+j by omega];exact QkV xs k j (by simpa using hk) hj
theorem SlN.row{xs:List Nm}(h:Qc w B=(flN xs).toArray)(hl:Lt B w):SlN w (some ⟨B,0,none⟩) xs:=fun k hk=>by
 have key: ∀j,j<4→w.cell? ⟨B,0+k*4+j,none⟩=(xs[k]).cl[j]?:=fun j hj=>by
  rw [←QkV xs k j hk hj,Qa,h,Nat.zero_add];simp
 exact⟨B,0,rfl,hl,key 0 Om,key 1 Om,key 2 Om,key 3 Om⟩
structure NumsAt(w:World)(o:Opt)(Bv:Nat)(w':World):Prop where
 e:Ext w w'
 lo:w.heap.size≤Bv
 ex: ∃br,w'.cell? ⟨Bv,0,none⟩=some (.slice (some ⟨br,0,none⟩) (Qaf o).length 8)∧SlN w' (some ⟨br,0,none⟩) (Qaf o)∧w.heap.size≤br∧br<Bv
 l:Lt Bv w'
theorem QaQ(o:Opt)(w:World)(h0:0≤o.ki∧o.ki<256)(h1:0≤o.bu∧o.bu<256):
  Calls Tryz.prog 168 #[.agg (opv o)] w fun e w'=> ∃Bv,e= .returned (.func (.func 212) #[] #[.pointer (some ⟨Bv,0,none⟩)])∧NumsAt w o Bv w':=by
 obtain⟨ki,bu,cu,pv,ge,ti⟩:=o;dsimp only at h0 h1;unfold opv
 go_enter Tryz.func168,Tryz.ntmps168
 go_wp2;go_ret;refine⟨w.heap.size+1+1,rfl,Ext.al (Ext.al (Ext.al (Ext.rf _) _) _) _,Om,⟨w.heap.size+1,by simp [go_sem,Qaf],SlN.row ?_ (by simp [go_sem,Lt]),Om,Om⟩,by simp [go_sem,Lt]⟩;rw [QdG,if_neg (by simp),QdG,if_pos (by simp)];rfl
theorem Ju: ∀args w,(callFunc 212 args).run Tryz.prog w= .ok (.enter 212 args) w:=enters_of Tryz.func212 Kr rfl
theorem Qag(n:Nat)(xs:List Nm)(p:Option Addr)(c:Nat)(w:World)(Bl:Nat)(U:Nat→Prop)(hs:SlN w p xs)(hpb: ∀b off,p=some ⟨b,off,none⟩→b<w.heap.size)(hl:xs.length≤1000)(hc:w.cell? ⟨Bl,0,none⟩=some (.slice p xs.length c))(lb:Lt Bl w)(hU: ∀k,U k→k≠Bl∧ ∀b off,p=some ⟨b,off,none⟩→k≠b):
  QcC Fence.wide n Tryz.prog 212 #[.pointer (some ⟨Bl,0,none⟩)] (fun x:Nm=>#[.agg (nmv x)]) (fun _=>False) U xs w:=by
 intro y J Jx W hW hJ hJx hY hJ0;have HJ:=Xh hJ;have HJx:=Xh hJx;have HU:=Xh hU;have HS:=Xh hs;clear hJ hJx hU hs;obtain⟨yfn,ytm,yas,ybo,hY⟩:=hY;have HY:=Xh hY;clear hY;have hcW:W.cell? ⟨Bl,0,none⟩=some (.slice p xs.length c):=(hW.cell (p:=⟨Bl,0,none⟩) lb).trans hc;have lbW:Lt Bl W:=Xl lb hW.size;have h0W:=HS.out.ext hW;have HPB:=Xh hpb;clear hpb;refine callsIn_of_wp Tryz.func212 rfl trivial ?_ rfl;simp only [Tryz.ntmps212,List.size_toArray,List.length_cons,List.length_nil,Nat.reduceAdd,Nat.reduceSub,Array.replicate_succ,Array.replicate_zero,List.push_toArray,List.append_toArray,List.nil_append,List.cons_append];refine wpIn_wide.2 ?_;go_wp2
 go_loopw [4,7] (fun _ a wr=> ∃i:Nat,i≤xs.length∧a= .int .i64 i∧J i wr∧SlN wr p xs) (fun _ a _=>xs.length- (intOf a).toNat)
 case atStart=>exact⟨0,Nat.zero_le _,rfl,hJ0,h0W⟩
 case round=>
  clear hcW lbW h0W hJ0;obtain⟨i,hi,rfl,hJi,hE⟩:=hrel
  by_cases hlt:i<xs.length
  ·have hlt':(i:Int)<xs.length:=by omega
   obtain⟨b,off,rfl,hb,c0,c1,c2,c3⟩:=hE i hlt;obtain⟨x,hx⟩: ∃x,xs[i]=x:=⟨_,rfl⟩;rw [hx]at c0 c1 c2 c3;have lbb:Lt b wr:=hb;have HX:=Xh (show xs[i]?=some x by rw [List.getElem?_eq_getElem hlt,hx]);have HE:=Xh hE;have HJI:=Xh hJi;clear hx hJi hE
   go_upto_region 3 with(fail)
   obtain⟨W1,hW1⟩: ∃W1,wr.alloc (.cells #[.int .i64 x.n,.int .i64 x.lo,.int .i64 x.hi,.int .i64 x.by_] 210)=W1:=⟨_,rfl⟩;have g1:Ext wr W1:=by rw [←hW1];exact Ext.al (Ext.rf _) _
   have r1:RowZ W1 wr.heap.size #[.int .i64 x.n,.int .i64 x.lo,.int .i64 x.hi,.int .i64 x.by_]:=by rw [←hW1];exact RowZ.new _ _ _
   rw [hW1];clear hW1 c0 c1 c2 c3;have d0:=r1.cell 0 (by show 0<4;omega);have d1:=r1.cell 1 (by show 1<4;omega);have d2:=r1.cell 2 (by show 2<4;omega);have d3:=r1.cell 3 (by show 3<4;omega);have l1:=r1.l;have hJ1:=HJ.out _ _ _ HJI.out (Mv.of_ext g1);have hrun:(Instr.yield y #[.agg #[.int .i64 x.n,.int .i64 x.lo,.int .i64 x.hi,.int .i64 x.by_]]).run Tryz.prog W1= .ok (.round y yfn (ytm #[.agg #[.int .i64 x.n,.int .i64 x.lo,.int .i64 x.hi,.int .i64 x.by_]]) yas ybo) W1:=(HY.out i x W1 hJ1 HX.out).1;have HRD:=Xh (HY.out i x W1 hJ1 HX.out).2;have HG1:=Xh g1;clear g1 r1 hJ1;refine(wpIn_wide (n:=n)).1 ?_
   gi_wp2
   refine⟨(fun h=>by cases h),(HRD.out).mono ?_⟩;rintro e w6 ⟨bb,rfl,hP⟩;clear hrun HRD d0 d1 d2 d3;obtain⟨rfl,hJ6,hm6⟩|⟨rfl,hx6⟩:=hP
   ·have hE6:=(HE.out.ext HG1.out).mvc hm6 (fun b off e=>by rintro(h|h);exact(HU.out _ h).2 b off e rfl;(have:=HPB.out b off e;omega));clear hm6
    gi_wp2
    go_wp2
    go_roundw
    case rel=>exact⟨i+1,Om,by go_num,hJ6,hE6⟩
    case measure=>simp [intOf];omega
   ·gi_wp2
    go_wp2;exact bodyPost_ret (results_none rfl _ _ _) rfl ⟨⟨_,rfl⟩,.inr hx6⟩
  ·obtain rfl:i=xs.length:=by omega
   go_wp2
   go_end0
   exact⟨⟨_,rfl⟩,.inl hJi⟩
theorem QnX(o:Opt):(opv o).size=6:=rfl
theorem QkW(o:Opt):opv o=#[.int .u8 o.ki,.int .u8 o.bu,.int .i64 o.cu,.int .i64 o.pv,.int .i64 o.ge,.int .i64 o.ti]:=rfl
@[go_sem] theorem Qww{o:Opt}{k m:Nat}:Fits k m (opv o)=(k+m≤6):=by unfold Fits;rw [QnX]
@[go_sem] theorem QtW{o:Opt}:Qo (opv o) 6:=rfl
@[go_sem] theorem Qwx{o:Opt}:QM (opv o):=by rw [QkW,QqW];exact⟨rfl,rfl,rfl,rfl,rfl,rfl⟩
@[go_sem ↓ high] theorem Qvn{o:Opt}:(Value.agg (opv o)).cells=opv o:=QF _
@[go_sem] theorem Qwy{o:Opt}:QA (opv o) 0 6=opv o:=rfl
def QeT(x:Nm):Bool:=decide (x.lo≤x.n)&&decide (x.n≤x.hi)
def ZY(o:Opt):Bool:=(Qaf o).all QeT
theorem QbS(o:Opt)(w:World)(h0:0≤o.ki∧o.ki<256)(h1:0≤o.bu∧o.bu<256):
  Calls Tryz.prog 169 #[.agg (opv o)] w fun e w'=>e= .returned (.bool (ZY o))∧Ext w w':=by
 have HN:=Xh (fun W=>QaQ o W h0 h1);clear h0 h1;refine(callsIn_wide (n:=5)).1 ?_;refine callsIn_of_wp_marks Tryz.func169 rfl trivial ?_ rfl;simp only [Tryz.ntmps169,List.size_toArray,List.length_cons,List.length_nil,Nat.reduceAdd,Nat.reduceSub,Array.replicate_succ,Array.replicate_zero,List.push_toArray,List.append_toArray,List.nil_append,List.cons_append];refine wpIn_wide.2 ?_;go_wp2;refine Qr 0 rfl ?_
 go_wp2_with (go_at_call 168;(with_reducible refine(HN.out _).mono ?_);rintro e w1 ⟨Bv,rfl,⟨g1,lo1,⟨br,cv,sv,br1,br2⟩,lv⟩⟩)
 have g2:Ext w w1:=(Ext.al (Ext.rf _) _).tr g1;simp only [World.size_alloc]at lo1;refine(wpIn_wide (n:=5)).1 ?_;refine ZH rfl Om (gf:=212) (lb:=#[.pointer (some ⟨Bv,0,none⟩)]) rfl trivial Ju
  (Qag _ (Qaf o) (some ⟨br,0,none⟩) 8 w1 Bv (fun _=>False) sv (fun b off e=>by cases e;exact Nat.lt_trans br2 lv) (by show 8≤1000;omega) cv lv (fun _ h=>h.elim))
  (fun k h=>h.elim) (fun k h=>h.elim) (fun _=>rfl)
  (fun i _=> ∀j,j<i→ ∀h:j<(Qaf o).length,QeT (Qaf o)[j]=true) (fun cc _=>cc= .goto 0∧ZY o=false)
  (fun _ _ _ h _=>h) (fun _ _ _ h _=>h) (fun j hj=>by omega)
  (fun x a' W=> ∃Bx,w1.heap.size+2≤Bx∧RowZ W Bx #[.int .i64 x.n,.int .i64 x.lo,.int .i64 x.hi,.int .i64 x.by_]∧a'={tmps:=#[.agg (opv o),.pointer (some ⟨w.heap.size,0,none⟩),.bool false,.pointer (some ⟨Bx,0,none⟩),.agg (opv o),.func (.func 212) #[] #[.pointer (some ⟨Bv,0,none⟩)],.agg #[.int .i64 x.n,.int .i64 x.lo,.int .i64 x.hi,.int .i64 x.by_],undef,undef,undef,undef,undef,undef,undef,undef,undef,undef,undef,undef],defers:= []})
  (fun x a' A B h hm=>by
   obtain⟨Bx,q1,q2,q3⟩:=h
   exact⟨Bx,q1,q2.mv hm Om,q3⟩)
  ?assign ?body ?done ?stop
 case assign=>
  intro y i x W K hsz hv hI hx hK;unfold nmv
  gi_wp2
  exact hK _ _ (Mv.al _ (Mv.refl _ _)) hI ⟨W.heap.size,hsz,RowZ.new _ _ _,rfl⟩
 case body=>
  rintro y i x a' W hyl ⟨rr,hr⟩ hsz hv hI hx ⟨Bx,q1,q2,rfl⟩;have hil:i<(Qaf o).length:=(List.getElem?_eq_some_iff.1 hx).1;have hxi:(Qaf o)[i]=x:=(List.getElem?_eq_some_iff.1 hx).2;have d0:=q2.cell 0 (by show 0<4;omega);have d1:=q2.cell 1 (by show 1<4;omega);have d2:=q2.cell 2 (by show 2<4;omega);have HI:=Xh hI;have HXI:=Xh hxi;clear hI hxi hx hr q2 hv
  cases t1:decide (x.lo≤x.n)
  ·have t1':x.n<x.lo:=by have:=of_decide_eq_false t1;omega
   have HLS:=Xh (show QeT x=false by unfold QeT;rw [t1];rfl);clear t1
   gi_wp2
   refine wpIn_goto ?_;exact⟨Mv.refl _ _,rfl,List.all_eq_false.2 ⟨x,by rw [←HXI.out];exact List.getElem_mem hil,by rw [HLS.out];decide⟩⟩
  ·have t1': ¬x.n<x.lo:=by have:=of_decide_eq_true t1;omega
   cases t2:decide (x.n≤x.hi)
   ·have t2':x.hi<x.n:=by have:=of_decide_eq_false t2;omega
    have HLS:=Xh (show QeT x=false by unfold QeT;rw [t1,t2];rfl);clear t1 t2
    gi_wp2
    refine wpIn_goto ?_;exact⟨Mv.refl _ _,rfl,List.all_eq_false.2 ⟨x,by rw [←HXI.out];exact List.getElem_mem hil,by rw [HLS.out];decide⟩⟩
   ·have t2': ¬x.hi<x.n:=by have:=of_decide_eq_true t2;omega
    have HLS:=Xh (show QeT x=true by unfold QeT;rw [t1,t2];rfl);clear t1 t2
    gi_wp2
    exact⟨Mv.refl _ _,fun j hj hjl=>by
     rcases Nat.lt_or_ge j i with h|h
     ·exact HI.out j h hjl
     ·obtain rfl:j=i:=by omega
      rw [HXI.out];exact HLS.out⟩
 case done=>
  rintro W hI hv hK;have HRT:=Xh (show ZY o=true from List.all_eq_true.2 fun z hz=>by obtain⟨j,hj,rfl⟩:=List.mem_iff_getElem.1 hz;exact hI j hj hj);have HG:=Xh (Mv.ext_of g2 hv (fun k h=>by rcases h with h|h<;>exact h.elim));clear hI hv g1 g2;go_wp2;simp only [Exit.jump];refine⟨by simp,.inl ⟨_,_,rfl,run_takeDeferred hK,?_⟩⟩;refine⟨_,results_tmp rfl _ _ _,by rw [HRT.out];rfl,?_⟩;exact Mv.ext_of HG.out (Mv.put (C:=fun k=>k=w1.heap.size) _ _ _ rfl) (fun k h=>by unfold Lt at lv;omega)
 case stop=>
  rintro cc W ⟨rfl,hn⟩ hv hK;have HRF:=Xh (show ZY o=false from hn);have HG:=Xh (Mv.ext_of g2 hv (fun k h=>by rcases h with h|h<;>exact h.elim));clear hn hv g1 g2;refine wpIn_goto ?_;simp only [Exit.inBlock,Exit.then,Exit.jump];refine⟨rfl,?_⟩;go_wp2;rw [Exit.noGoto_ret];refine⟨by simp,.inl ⟨_,_,rfl,run_takeDeferred hK,?_⟩⟩;refine⟨_,results_tmp rfl _ _ _,by rw [HRF.out];rfl,?_⟩;exact Mv.ext_of HG.out (Mv.put (C:=fun k=>k=w1.heap.size) _ _ _ rfl) (fun k h=>by unfold Lt at lv;omega)
def zeroOp:Opt:=⟨0,0,0,0,0,0⟩
def Qgc(o:Opt):Opt:=if ZY o then o else zeroOp
def Qgd(o:Opt):Int:=if ZY o then 0 else 2
theorem QnY{g:Nat}(hp:tmps.getD 2 undef= .pointer (some ⟨g,0,none⟩))(hr:Qc w g=cs)(hc:cs.size=6):
  (results Tryz.f193 tmps).run Tryz.prog w= .ok (.tuple #[.agg cs,tmps.getD 3 undef]) w:=
 QJ rfl tmps w g hp (by
  rw [Qae (by rw [hr,hc];omega),hr]
  rw [show cs.extract 0 (0+6)=cs by rw [Nat.zero_add,←hc];simp])
theorem QqZ(o:Opt)(w:World)(h0:0≤o.ki∧o.ki<256)(h1:0≤o.bu∧o.bu<256):
  Calls Tryz.prog 193 #[.agg (opv o)] w fun e w'=>e= .returned (.tuple #[.agg (opv (Qgc o)),.int .i64 (Qgd o)])∧Ext w w':=by
 have HN:=Xh (fun W=>QbS o W h0 h1);clear h0 h1
 go_enter Tryz.func193,Tryz.ntmps193
 go_upto_region 1 with(fail)
 obtain⟨W0,hW⟩: ∃W0,(w.alloc (.cells (opv o) 75)).alloc (.cells #[.int .u8 0,.int .u8 0,.int .i64 0,.int .i64 0,.int .i64 0,.int .i64 0] 75)=W0:=⟨_,rfl⟩;have g0:Ext w W0:=by rw [←hW];exact Ext.al (Ext.al (Ext.rf _) _) _
 have r1:RowZ W0 w.heap.size (opv o):=by rw [←hW];exact⟨by simp [go_sem],by simp [go_sem],by simp [go_sem,Lt]⟩
 have r2:RowZ W0 (w.heap.size+1) #[.int .u8 0,.int .u8 0,.int .i64 0,.int .i64 0,.int .i64 0,.int .i64 0]:=by rw [←hW];exact⟨by simp [go_sem],by simp [go_sem],by simp [go_sem,Lt]⟩
 rw [hW];clear hW;have hR1:=r1.r
 cases hq:ZY o
 ·have HM:=Xh (show Qgc o=zeroOp∧Qgd o=2 by unfold Qgc Qgd;rw [hq];exact⟨rfl,rfl⟩);rw [hq]at HN;have HR2:=Xh r2;clear r1 r2
  go_wp2_with (go_at_call 169;(with_reducible refine(HN.out _).mono ?_);rintro e w1 ⟨rfl,g1⟩;have hR:=(HR2.out.ext g1).r;have hZ:=(HR2.out.ext g1).z;have hL:=(HR2.out.ext g1).l)
  refine bodyPost_ret (QnY (cs:=opv zeroOp) rfl (Qq _ _ _ (by rw [hR];try rfl)) rfl) rfl ?_;rw [HM.out.1,HM.out.2];exact⟨rfl,Ext.sa _ Om (g0.tr g1)⟩
 ·have HM:=Xh (show Qgc o=o∧Qgd o=0 by unfold Qgc Qgd;rw [hq];exact⟨rfl,rfl⟩);rw [hq]at HN;have HR2:=Xh r2;have HR1:=Xh r1;clear r1 r2
  go_wp2_with (go_at_call 169;(with_reducible refine(HN.out _).mono ?_);rintro e w1 ⟨rfl,g1⟩;have hR:=(HR2.out.ext g1).r;have hZ:=(HR2.out.ext g1).z;have hL:=(HR2.out.ext g1).l;have hRr:=(HR1.out.ext g1).r)
  refine bodyPost_ret (QnY (cs:=opv o) rfl (Qq _ _ _ (by rw [hR];try rfl)) rfl) rfl ?_;rw [HM.out.1,HM.out.2];exact⟨rfl,Ext.sa _ Om (g0.tr g1)⟩
@[go_sem ↓ high] theorem Qyl{a0 b0 a1 b1 a2 b2 a3 b3 a4 b4 a5 b5:Int}(w:World):
  (binOp .eql 75 (.agg #[.int .u8 a0,.int .u8 a1,.int .i64 a2,.int .i64 a3,.int .i64 a4,.int .i64 a5]) (.agg #[.int .u8 b0,.int .u8 b1,.int .i64 b2,.int .i64 b3,.int .i64 b4,.int .i64 b5])).run Tryz.prog w= .ok (.bool (a0==b0&&a1==b1&&a2==b2&&a3==b3&&a4==b4&&a5==b5)) w:=by
 go_simp
 by_cases h0:a0=b0<;>by_cases h1:a1=b1<;>by_cases h2:a2=b2<;>by_cases h3:a3=b3<;>by_cases h4:a4=b4<;>by_cases h5:a5=b5<;>simp [*]
theorem QnZ(o:Opt):opv o=#[.int .u8 o.ki,.int .u8 o.bu,.int .i64 o.cu,.int .i64 o.pv,.int .i64 o.ge,.int .i64 o.ti]:=rfl
theorem Qge{g:Nat}(hp:tmps.getD 6 undef= .pointer (some ⟨g,0,none⟩))(hr:Qc w g=cs)(hc:cs.size=6):
  (results Tryz.f121 tmps).run Tryz.prog w= .ok (.tuple #[.agg cs,tmps.getD 7 undef]) w:=
 QJ rfl tmps w g hp (by
  rw [Qae (by rw [hr,hc];omega),hr]
  rw [show cs.extract 0 (0+6)=cs by rw [Nat.zero_add,←hc];simp])
theorem QiU(o:Opt)(k g:Int)(h1:0≤o.bu∧o.bu<256)(hk:0≤k∧k<256)(W:World):
  Calls Tryz.prog 193 #[.agg #[.int .u8 k,.int .u8 o.bu,.int .i64 o.cu,.int .i64 o.pv,.int .i64 g,.int .i64 o.ti]] W fun e w'=>e= .returned (.tuple #[.agg (opv (Qgc {o with ki:=k,ge:=g})),.int .i64 (Qgd {o with ki:=k,ge:=g})])∧Ext W w':=QqZ {o with ki:=k,ge:=g} W hk h1
theorem QiV(o:Opt)(k g:Int)(w:World)(h1:0≤o.bu∧o.bu<256)(hk:0≤k∧k<256):
  Calls Tryz.prog 121 #[.agg (opv o),.int .u8 k,.int .i64 g] w fun e w'=>e= .returned (.tuple #[.agg (opv (Qgc {o with ki:=k,ge:=g})),.int .i64 (Qgd {o with ki:=k,ge:=g})])∧Ext w w':=by
 have HM:=Xh (QiU o k g h1 hk);rw [QnZ o];obtain⟨mo,hmo⟩: ∃m,Qgc {o with ki:=k,ge:=g}=m:=⟨_,rfl⟩;obtain⟨me,hme⟩: ∃m,Qgd {o with ki:=k,ge:=g}=m:=⟨_,rfl⟩;rw [hmo,hme]at HM⊢;clear hmo hme h1 hk;obtain⟨ki,bu,cu,pv,ge,ti⟩:=o;dsimp only at HM⊢
 go_enter Tryz.func121,Tryz.ntmps121
 go_upto_region 1 with(fail)
 obtain⟨W0,hW⟩: ∃W0,(w.alloc (.cells #[.int .u8 ki,.int .u8 bu,.int .i64 cu,.int .i64 pv,.int .i64 ge,.int .i64 ti] 75)).alloc (.cells #[.int .u8 0,.int .u8 0,.int .i64 0,.int .i64 0,.int .i64 0,.int .i64 0] 75)=W0:=⟨_,rfl⟩;have g0:Ext w W0:=by rw [←hW];exact Ext.al (Ext.al (Ext.rf _) _) _
 have r1:RowZ W0 w.heap.size #[.int .u8 ki,.int .u8 bu,.int .i64 cu,.int .i64 pv,.int .i64 ge,.int .i64 ti]:=by rw [←hW];exact⟨by simp [go_sem],by simp [go_sem],by simp [go_sem,Lt]⟩
 have r2:RowZ W0 (w.heap.size+1) #[.int .u8 0,.int .u8 0,.int .i64 0,.int .i64 0,.int .i64 0,.int .i64 0]:=by rw [←hW];exact⟨by simp [go_sem],by simp [go_sem],by simp [go_sem,Lt]⟩
 rw [hW];clear hW;have hR1:=r1.r;have hL1:=r1.l
 go_upto_region 2 with(fail)
 obtain⟨W1,hW⟩: ∃W1,Qe (W0.alloc (.cells #[.int .u8 0,.int .u8 0,.int .i64 0,.int .i64 0,.int .i64 0,.int .i64 0] 75)) W0.heap.size 0 #[.int .u8 ki,.int .u8 bu,.int .i64 cu,.int .i64 pv,.int .i64 ge,.int .i64 ti]=W1:=⟨_,rfl⟩;have g1:Ext W0 W1:=by rw [←hW];exact Ext.sa _ (Nat.le_refl _) (Ext.al (Ext.rf _) _)
 have r8:RowZ W1 W0.heap.size #[.int .u8 ki,.int .u8 bu,.int .i64 cu,.int .i64 pv,.int .i64 ge,.int .i64 ti]:=by rw [←hW];exact(RowZ.new W0 #[.int .u8 0,.int .u8 0,.int .i64 0,.int .i64 0,.int .i64 0,.int .i64 0] 75).all _ rfl
 have r1:=r1.ext g1;have r2:=r2.ext g1;have hn8:w.heap.size≠W0.heap.size:=by unfold Lt at hL1;omega
 have hn2:w.heap.size≠w.heap.size+1:=by omega
 rw [hW];clear hW hR1 hL1;have g01:=g0.tr g1;clear g0 g1;obtain⟨B8,hB8⟩: ∃b,W0.heap.size=b:=⟨_,rfl⟩;rw [hB8]at r8 hn8⊢;clear hB8;have c0:=r1.cell 0 (by show 0<6;omega);have c4:=r1.cell 4 (by show 4<6;omega);have f0:=r1.frz 0;have f4:=r1.frz 4
 go_upto_region 3 with(fail)
 obtain⟨W2,hW⟩: ∃W2,(W1.setCell ⟨w.heap.size,0,none⟩ (.int .u8 k)).setCell ⟨w.heap.size,4,none⟩ (.int .i64 g)=W2:=⟨_,rfl⟩;have gS:Mv (fun x=>x=w.heap.size) W1 W2:=by rw [←hW];exact Mv.st _ (.inl rfl) (Mv.st _ (.inl rfl) (Mv.refl _ _))
 have r1:RowZ W2 w.heap.size #[.int .u8 k,.int .u8 bu,.int .i64 cu,.int .i64 pv,.int .i64 g,.int .i64 ti]:=by rw [←hW];exact(r1.set 0 _).set 4 _
 have r2:=r2.mv gS (fun e=>hn2 e.symm);have r8:=r8.mv gS (fun e=>hn8 e.symm);have E:=Mv.ext_of g01 gS (fun x e=>by rw [e];exact Nat.le_refl _);rw [hW];clear hW c0 c4 f0 f4 gS g01;have hR1:=r1.r;have hL1:=r1.l;have hR8:=r8.r;have hL8:=r8.l;have HR2:=Xh r2;have HE:=Xh E;clear r1 r2 r8 E
 cases q1:(k==ki)
 ·go_wp2_with (go_at_call 193;(with_reducible refine(HM.out _).mono ?_);rintro e w1 ⟨rfl,g1⟩;have hR:=(HR2.out.ext g1).r;have hZ:=(HR2.out.ext g1).z;have hL:=(HR2.out.ext g1).l)
  refine bodyPost_ret (Qge (cs:=opv mo) rfl (Qq _ _ _ (by rw [hR];try rfl)) rfl) rfl ?_;exact⟨rfl,Ext.sa _ Om (HE.out.tr g1)⟩
 ·cases q2:(g==ge)
  ·go_wp2_with (go_at_call 193;(with_reducible refine(HM.out _).mono ?_);rintro e w1 ⟨rfl,g1⟩;have hR:=(HR2.out.ext g1).r;have hZ:=(HR2.out.ext g1).z;have hL:=(HR2.out.ext g1).l)
   refine bodyPost_ret (Qge (cs:=opv mo) rfl (Qq _ _ _ (by rw [hR];try rfl)) rfl) rfl ?_;exact⟨rfl,Ext.sa _ Om (HE.out.tr g1)⟩
  ·obtain rfl:k=ki:=by simpa using q1
   obtain rfl:g=ge:=by simpa using q2
   clear q1 q2
   go_wp2_with (go_at_call 193;(with_reducible refine(HM.out _).mono ?_);rintro e w1 ⟨rfl,g1⟩;have hR:=(HR2.out.ext g1).r;have hZ:=(HR2.out.ext g1).z;have hL:=(HR2.out.ext g1).l)
   refine bodyPost_ret (Qge (cs:=opv mo) rfl (Qq _ _ _ (by rw [hR];try rfl)) rfl) rfl ?_;exact⟨rfl,Ext.sa _ Om (HE.out.tr g1)⟩
section
variable {F:Fence} {n:Nat} {P:Program} {ops:Array Oper} {md:Region.Mode} {C D:Nat→Prop} {r:Nat}
theorem Qhm{a:Act}{K:Act→World→Prop}{Q:Exit→Act→World→Prop}(hF: ∀f,F.fn f)(hdp:F.depth.isSome=true→1≤n)(hC: ∀f args w (R:Ending→World→Prop),Calls P f args w R→CallsIn F (n- 1) P f args w R)(hd: ∀o,ops[i]?=some o→ ∀c,o.op≠ .defer c)(hh:Jd P ops i K a w):wpOpIn F n P ops Q i K a w:=by
 unfold Jd at hh;unfold wpOpIn
 split
 ·rename_i ho;simp only [ho]at hh;exact hh
 ·rename_i o ho
  simp only [ho]at hh
  split
  ·rename_i hw
   simp only [hw,if_true]at hh;refine⟨fun f _=>hF f,?_⟩;have hs:Oper.semAt F.round a.eval o=execOp a.eval o:=by
    cases F.round with
    |none=>rfl
    |some l=>exact Oper.semAt_some l _ _ (hd o ho)
   rw [hs];generalize (execOp a.eval o).run P w=q at*
   cases q with
   |ok x w'=>
    cases x<;>simp only [xUponK]at hh<;>simp only [Oper.uponIn]
    case value u=>exact hh
    case skip=>exact hh
    case enter f args=>exact⟨hdp,(hC f args w' _ hh).mono fun e w'' ⟨v,he,hw''⟩=>by subst he;exact hw''⟩
   |halt x w'=>simp only [xUponK]at hh
  ·rename_i hw;simp only [hw]at hh;exact⟨fun f _=>hF f,hh⟩
theorem Qcg(hF: ∀f,F.fn f)(hdp:F.depth.isSome=true→1≤n)(hC: ∀f args w (R:Ending→World→Prop),Calls P f args w R→CallsIn F (n- 1) P f args w R)(hd: ∀(i:Nat) o,ops[i]?=some o→ ∀c,o.op≠ .defer c)(hQ: ∀a w,Q a w→Q' .normal a w): ∀(fuel:Nat) (listed:Array Bool) (a:Act) (w:World),
  QO C D r P md ops Q fuel listed a w→wpAnyIn F n P md ops Q' fuel listed a w
 |0,_,_,_,h=>⟨h.1,hQ _ _ h.2⟩
 |fuel+1,_,_,_,h=>⟨fun h0=>hQ _ _ (h.1 h0),fun i hi=>Qhm hF hdp hC (hd i) (Jq (fun a' w' h1=>Qcg hF hdp hC hd hQ fuel _ a' w' h1.2) (h.2 i hi))⟩
theorem ZT{id:Nat}{Q:Exit→Act→World→Prop}{a:Act}(C D:Nat→Prop)(r:Nat)(hF: ∀f,F.fn f)(hdp:F.depth.isSome=true→1≤n)(hC: ∀f args w (R:Ending→World→Prop),Calls P f args w R→CallsIn F (n- 1) P f args w R)(hd:(ops.all fun o=>match o.op with| .defer _=>false|_=>true)=true)(hm:P.follows .mixedOrders=true)
  (h:QO C D r P .any ops (fun a w=>Q .normal a w) ops.size (Array.replicate ops.size false) a w.drew):(Code.region id ops true).wpIn F n P Q a w:=
 wpIn_region_any hm (Qcg hF hdp hC (fun i o ho c e=>by
  rw [Array.all_eq_true']at hd;have:=hd o (Array.mem_of_getElem? ho);rw [e]at this
  cases this) (fun _ _ h=>h) _ _ _ _ h)
end
def nmB(x:Nm):List Int:=byN x.n x.by_.toNat
def JD(o:Opt):List Int:=(Qaf o).flatMap nmB
theorem Qwz{C D:Nat→Prop}{r:Nat}{k m:Nat}{x y:Operand}{ty:TypeId}{a:Act}{A:Nat}{x1:Int}
  (hm:m|||(1<<<k)=m')(hi:ops[k]?=some ⟨dst,.call {callee:= .builtin .append,args:=#[x,y],argTypes:=#[28,28]},ty,pos,after,none⟩)(hx:a.eval x=v1)(hy:a.eval y= .slice (some ⟨A,0,none⟩) 1 1)(h1:OB w base v1 b1)(hA:w.cell? ⟨A,0,none⟩=some (.int .u8 x1))(hl:b1.length≤1000)(hC: ∀r,v1.ownBlock=some r→C r)(hCD: ∀k,C k→D k)(hb:base≤w.heap.size)
  (H: ∀v' w',OB w' base v' (b1++ [x1])→w.grownBy w' v1.ownBlock→Mv C w w'→QO C D r Tryz.prog .any ops Q fuel (msk N m') (a.put dst v') w'):QaL C D r Tryz.prog ops Q fuel N k m a w:=by
 obtain⟨i0,hi0,hz0,hz,hz2⟩:=info_parts Yz
 obtain⟨v',w',hr,ho,hg,-,-⟩:=run_append_own_at (P:=Tryz.prog) w base 28 ty 5 i0 (.int .u8 0) 1 1 Tryz.underlying28 hi0 hz0 hz hz2 rfl Dc v1 b1.length _ h1 ⟨A,0,none⟩ 1 1 [.int .u8 x1] rfl (fun j u hu=>by
  match j,hu with
  |0,h=>cases h;exact hA) (by intro u hu;simp at hu;subst hu;rfl) (by unfold maxLen;omega) Om hb
 have hm2:Mv C w w':=Mv.of_grown hg fun r e=> .inl (hC r e);refine Zl (v:=v') hm hi rfl ?_ ⟨.inr hm2,hm2.mono fun k _ h=>hCD k h⟩ (H v' w' ?_ hg hm2)
 ·simp [execOp,resolve,invoke,builtin,hx,hy,hr,Result.andThen]
 ·unfold OB;rw [List.length_append,List.map_append];exact ho
theorem QaR{v:Value}(h:OB w base v bs): ∃a m c,v= .slice a m c:=by obtain⟨p,c,h,-⟩:=h.slb;exact⟨_,_,_,h⟩
theorem Ql1{n:Int}(hj:j<6)(ρ:Operand→Value)(dst:Option Tmp)(x y:Operand)(r ty:TypeId)(pos:String)(after:Array Edge)(g:Option (Nat×Bool))(hx:ρ x= .int .i64 n)(hy:ρ y= .int .i64 ((8*j:Nat):Int))(w:World):
  (execOp ρ ⟨dst,.binOp .shr 3 x y r,ty,pos,after,g⟩).run Tryz.prog w= .ok (.value (.int .i64 (n/256^j))) w:=by
 obtain rfl|rfl|rfl|rfl|rfl|rfl:j=0∨j=1∨j=2∨j=3∨j=4∨j=5:=by omega
 all_goals
  simp only [execOp,hx,hy];go_simp
theorem Qeb{n:Int}(ρ:Operand→Value)(dst:Option Tmp)(x:Operand)(ty:TypeId)(pos:String)(after:Array Edge)(g:Option (Nat×Bool))(hx:ρ x= .int .i64 n)(w:World):
  (execOp ρ ⟨dst,.convert 3 5 x,ty,pos,after,g⟩).run Tryz.prog w= .ok (.value (.int .u8 (n % 256))) w:=by
 simp only [execOp,hx];go_simp;rw [Z9]
def Qn0(ops:Array Oper):Prop:=Region.noSelect ops=true∧Qp ops 9 [0,1,2,3,4,5] 0=true∧Region.ready .any ops (msk 9 63)= [6]∧Region.ready .any ops (msk 9 127)= [7]∧Region.ready .any ops (msk 9 255)= [8]∧Region.ready .any ops (msk 9 511)= []∧lateB .any ops 8 0=true∧lateB .any ops 8 1=true∧lateB .any ops 8 2=true∧lateB .any ops 8 3=true∧lateB .any ops 8 4=true∧lateB .any ops 8 5=true
theorem QiW:Qn0 ((Tryz.f171.body.bind (Qg 8)).getD #[]):=⟨Kr,Kr,Kr,Kr,Kr,Kr,Kr,Kr,Kr,Kr,Kr,Kr⟩
def Qch(o:Opt)(i:Nat):List Int:=((Qaf o).take i).flatMap nmB
theorem Ql2{o:Opt}{x:Nm}(h:(Qaf o)[i]?=some x):Qch o (i+1)=Qch o i++nmB x:=by
 unfold Qch;rw [List.take_add_one,h];simp
theorem Qq0{o:Opt}{x:Nm}(h:(Qaf o)[i]?=some x): ∃m:Nat,x.by_=m∧1≤m∧m≤6:=by
 have hi:i<8:=(List.getElem?_eq_some_iff.1 h).1;obtain rfl|rfl|rfl|rfl|rfl|rfl|rfl|rfl:i=0∨i=1∨i=2∨i=3∨i=4∨i=5∨i=6∨i=7:=by omega
 all_goals(obtain rfl:=Option.some.inj h;first|exact⟨1,rfl,Om,Om⟩|exact⟨4,rfl,Om,Om⟩|exact⟨6,rfl,Om,Om⟩)
theorem Qn1(o:Opt)(i:Nat):(Qch o i).length≤16:=by
 have h8:(Qch o i).length≤(Qch o 8).length:=by
  unfold Qch;rcases Nat.lt_or_ge i 8 with h|h
  ·obtain⟨k,hk⟩: ∃k,8=i+k:=⟨8- i,Om⟩;rw [hk,List.take_add,List.flatMap_append,List.length_append];omega
  ·rw [List.take_of_length_le (by show 8≤i;exact h),List.take_of_length_le (by show 8≤8;omega)];omega
 have:(Qch o 8).length=16:=rfl;omega
theorem Qq1{b:Nat}{p:Option Addr}{m c:Nat}(h:w.cell? ⟨b,0,none⟩=some (.slice p m c)):(loadVar 28 ⟨b,0,none⟩).run Tryz.prog w= .ok (.slice p m c) w:=by go_simp
structure Qec(B base:Nat)(L:List Int)(W:World):Prop where
 at_: ∃v,Boxed W B 28 v∧OB W base v L∧(v= .slice none 0 0∨0<L.length)
theorem Qec.mv{L:List Int}{C:Nat→Prop}(h:Qec B base L A)(hm:Mv C A A')(hb: ¬C B)(hc: ∀k,base≤k→ ¬C k):Qec B base L A':=by
 obtain⟨v,h1,h2,h3⟩:=h;exact⟨v,Qk h1 hm hb,Qw h2 hm hc,h3⟩
theorem QtX{Bx:Nat}{v:Value}{L:List Int}{x:Nm}(h:OB W base v L)(h0:v= .slice none 0 0∨0<L.length)(rx:RowZ W Bx #[.int .i64 x.n,.int .i64 x.lo,.int .i64 x.hi,.int .i64 x.by_]): ∀g,v.ownBlock=some g→g≠Bx:=by
 intro g hg e;subst e;rcases h0 with rfl|h0
 ·cases hg
 ·obtain⟨g',c,rfl,-,-,-,-,hc⟩:=h.at h0;have:g'=g:=by simpa [Value.ownBlock]using hg
  subst this;have h1:=hc 0 h0;have h2:=rx.cell 0 (by show 0<4;omega);rw [h1]at h2
  cases h2
theorem Qn2(o:Opt)(w:World)(h0:0≤o.ki∧o.ki<256)(h1:0≤o.bu∧o.bu<256)(hok:ZY o=true):
  Calls Tryz.prog 171 #[.agg (opv o)] w fun e w'=> ∃v,e= .returned (.tuple #[v,.int .i64 0])∧Ya w w' v (JD o):=by
 have HN:=Xh (fun W=>QaQ o W h0 h1);have HR:=Xh (fun W=>QbS o W h0 h1);rw [hok]at HR;clear h0 h1 hok;refine(callsIn_wide (n:=5)).1 ?_;refine callsIn_of_wp_marks Tryz.func171 rfl trivial ?_ rfl;simp only [Tryz.ntmps171,List.size_toArray,List.length_cons,List.length_nil,Nat.reduceAdd,Nat.reduceSub,Array.replicate_succ,Array.replicate_zero,List.push_toArray,List.append_toArray,List.nil_append,List.cons_append];refine wpIn_wide.2 ?_
 go_upto_region 1 with(fail)
 obtain⟨W0,hW⟩: ∃W0,(w.alloc (.cells (opv o) 75)).alloc (.cells #[.slice none 0 0] 28)=W0:=⟨_,rfl⟩;have g0:Ext w W0:=by rw [←hW];exact Ext.al (Ext.al (Ext.rf _) _) _
 have r1:RowZ W0 w.heap.size (opv o):=by rw [←hW];exact⟨by simp [go_sem],by simp [go_sem],by simp [go_sem,Lt]⟩
 have bx0:Boxed W0 (w.heap.size+1) 28 (.slice none 0 0):=by
  rw [←hW];have:=Boxed.new (w.alloc (.cells (opv o) 75)) 28 (.slice none 0 0)
  rwa [World.size_alloc]at this
 rw [hW];clear hW;have hR1:=r1.r;have hL1:=r1.l
 go_wp2_with (first|(go_at_call 169;(with_reducible refine(HR.out _).mono ?_);rintro e w3 ⟨rfl,g3⟩;have hRr:=(r1.ext g3).r;have hLr:=(r1.ext g3).l)|(go_at_call 168;(with_reducible refine(HN.out _).mono ?_);rintro e w1 ⟨Bv,rfl,⟨g1,lo1,⟨br,cv,sv,br1,br2⟩,lv⟩⟩))
 have g2:Ext w w1:=(g0.tr g3).tr g1;have bx1:Boxed w1 (w.heap.size+1) 28 (.slice none 0 0):=Qk (C:=fun _=>False) bx0 (Mv.of_ext (g3.tr g1)) (fun h=>h);have hz3:w.heap.size+2≤w3.heap.size:=Xt (by have:=bx0.lt;omega) g3.size;refine(wpIn_wide (n:=5)).1 ?_;refine ZH rfl Om (gf:=212) (lb:=#[.pointer (some ⟨Bv,0,none⟩)]) rfl trivial Ju
  (Qag _ (Qaf o) (some ⟨br,0,none⟩) 8 w1 Bv (fun k=>k=w.heap.size+1) sv (fun b off e=>by cases e;exact Nat.lt_trans br2 lv) (by show 8≤1000;omega) cv lv (fun k e=>by subst e;exact⟨Om,fun b off e=>by cases e;omega⟩))
  (fun k h=>h.elim) (fun k h=>by unfold Lt at lv;omega) (fun _=>rfl)
  (fun i W=>Qec (w.heap.size+1) (w1.heap.size+2) (Qch o i) W) (fun _ _=>False)
  (fun i A B h hm=>h.mv hm (by rintro(h|h|h);exact h.elim;(unfold Lt at lv;omega);(unfold Lt at lv;omega)) (fun k hk h=>by rcases h with h|h|h;exact h.elim;omega;omega))
  (fun _ _ _ h _=>h) ⟨⟨_,bx1,OB.zero _ _,.inl rfl⟩⟩
  (fun x a' W=> ∃Bx,w1.heap.size+2≤Bx∧RowZ W Bx #[.int .i64 x.n,.int .i64 x.lo,.int .i64 x.hi,.int .i64 x.by_]∧a'={tmps:=#[.agg (opv o),.pointer (some ⟨w.heap.size,0,none⟩),.pointer (some ⟨w.heap.size+1,0,none⟩),.int .i64 0,.pointer (some ⟨Bx,0,none⟩),undef,.agg (opv o),.bool true,.bool false,.agg (opv o),.func (.func 212) #[] #[.pointer (some ⟨Bv,0,none⟩)],.agg #[.int .i64 x.n,.int .i64 x.lo,.int .i64 x.hi,.int .i64 x.by_],undef,undef,undef,undef,undef,undef,undef,undef,undef,undef,undef,undef,undef,undef,undef,undef,undef],defers:= []})
  (fun x a' A B h hm=>by
   obtain⟨Bx,q1,q2,q3⟩:=h
   exact⟨Bx,q1,q2.mv hm Om,q3⟩)
  ?assign ?body ?done ?stop
 case assign=>
  intro y i x W K hsz hv hI hx hK;unfold nmv
  gi_wp2
  refine hK _ _ (Mv.al _ (Mv.refl _ _)) (hI.mv (C:=fun _=>False) (Mv.al _ (Mv.refl _ _)) (fun h=>h) (fun _ _ h=>h)) ⟨W.heap.size,hsz,RowZ.new _ _ _,rfl⟩
 case body=>
  rintro y i x a' W hyl ⟨rr,hr⟩ hsz hv hI hx ⟨Bx,q1,q2,rfl⟩;have hil:i<(Qaf o).length:=(List.getElem?_eq_some_iff.1 hx).1;obtain⟨m,hm,m1,m6⟩:=Qq0 hx;have d3:=q2.cell 3 (by show 3<4;omega);have d3:W.cell? ⟨Bx,3,none⟩=some (.int .i64 (m:Nat)):=by rw [←hm];exact d3
  have HNX:=Xh (show Qch o (i+1)=Qch o i++byN x.n m by rw [Ql2 hx];unfold nmB;rw [hm];rfl);have HLL:=Xh (show(Qch o i).length+m≤16 by have:=Qn1 o (i+1);rw [HNX.out,List.length_append,Zy]at this;exact this);obtain⟨L,hL⟩: ∃L,Qch o i=L:=⟨_,rfl⟩;rw [hL]at hI HNX HLL;have HI:=Xh hI;have HQ:=Xh q2;have lv':Bv<w1.heap.size:=lv;have HBY:=Xh hm;clear hI hx hr q2 hv hm hL hyl
  gi_wp2
  gi_loopw [5] (fun a wr=> ∃q:Nat,q≤m∧a= .int .i64 (8*((q:Int)- 1))∧Qec (w.heap.size+1) (w1.heap.size+2) (L++(byN x.n m).take (m- q)) wr∧RowZ wr Bx #[.int .i64 x.n,.int .i64 x.lo,.int .i64 x.hi,.int .i64 x.by_]∧Mv (fun k=>k=w.heap.size+1∨w1.heap.size+2≤k) W wr) (fun a _=>(intOf a+8).toNat)
  case atStart=>exact⟨m,Nat.le_refl _,congrArg (Value.int .i64) (by rw [HBY.out];simp only [wrap64];omega),by rw [Nat.sub_self,List.take_zero,List.append_nil];exact HI.out,HQ.out,Mv.refl _ _⟩
  case round=>
   obtain⟨q,hq,rfl,⟨va,bx,ho,hnl⟩,rx,hM⟩:=hrel
   by_cases hq0:q=0
   ·subst hq0;have hneg:decide ((0:Int)≤8*(((0:Nat):Int)- 1))=false:=by decide
    have HF:=Xh (show Qec (w.heap.size+1) (w1.heap.size+2) (Qch o (i+1)) wr by
     rw [HNX.out];rw [Nat.sub_zero,List.take_of_length_le (by rw [Zy];omega)]at ho hnl
     exact⟨va,bx,ho,hnl⟩)
    have HM:=Xh hM;clear bx ho hnl rx hM d3
    gi_wp2
    exact⟨HM.out,HF.out⟩
   ·obtain⟨j,rfl⟩: ∃j,q=j+1:=⟨q- 1,Om⟩;have hpos:decide ((0:Int)≤8*(((j+1:Nat):Int)- 1))=true:=decide_eq_true Om;obtain⟨pa,na,ca,rfl⟩:=QaR ho;have hne:=QtX ho hnl rx;have hge:=Qh ho;obtain⟨LL,hLL⟩: ∃LL,L++(byN x.n m).take (m- (j+1))=LL:=⟨_,rfl⟩;have hlen:LL.length≤1000:=by rw [←hLL,List.length_append,List.length_take];have:=HLL.out;omega
    have HLN:=Xh (show LL++ [x.n/256^j % 256]=L++(byN x.n m).take (m- j)by rw [←hLL,List.append_assoc,Qcb x.n m j Om]);rw [hLL]at ho hnl;have HO:=Xh ho;have HB:=Xh bx;have HRX:=Xh rx;have HM:=Xh hM;have HNE:=Xh hne;have HGE:=Xh hge;clear ho bx rx hM hne hge hLL d3 hnl
    gi_wp2
    rw [show 8*(((j+1:Nat):Int)- 1)=((8*j:Nat):Int)by omega];refine ZT (fun k=>(Value.slice pa na ca).ownBlock=some k) (fun k=>(Value.slice pa na ca).ownBlock=some k∨k=w.heap.size+1) 8 (fun _=>trivial) (fun h=>by cases h) (fun f args w R h=>CallsIn.inRound y (callsIn_wide.2 h)) Kr Kr ?_;obtain⟨WA,hW⟩: ∃Wdr,World.drew wr=Wdr:=⟨_,rfl⟩;have gD:Ext wr WA:=by rw [←hW];exact Ext.dr (Ext.rf _)
    rw [hW];clear hW;have bx:=Qk (C:=fun _=>False) HB.out (Mv.of_ext gD) (fun h=>h);have ho:=OB.ext HO.out gD;have rx:=HRX.out.ext gD;have hge:=HGE.out;have hC2: ¬(fun k=>(Value.slice pa na ca).ownBlock=some k) (w.heap.size+1):=fun e=>by have:=hge _ e;omega
    have hCx: ¬(fun k=>(Value.slice pa na ca).ownBlock=some k) Bx:=fun e=>HNE.out _ e rfl;have hn2: ¬Bx=w.heap.size+1:=by omega
    have hj6:j<6:=by omega
    have cv:=bx.cell;have lv2:Lt (w.heap.size+1) WA:=bx.lt;have hbs:w1.heap.size+2≤WA.heap.size:=Xt (Xt hsz HM.out.size) gD.size;refine Zi (N:=9) (R:=Qn0) (E:=((Tryz.f171.body.bind (Qg 8)).getD #[])) Kr QiW Kr fun hS=> ?_;have hT:=hS.2.1;refine ZA (N:=9) (k:=0) (m':=1) (v:= .slice pa na ca) hS.1 hT hS.2.2.2.2.2.2.1 rfl rfl Kr (Qad cv lv2 hC2 Kr) fun hT=> ?_;refine ZA (N:=9) (k:=1) (m':=3) (v:= .pointer (some ⟨Bx,0,none⟩)) hS.1 hT hS.2.2.2.2.2.2.2.1 rfl rfl Kr (fun _ _=>by kernel_rfl) fun hT=> ?_;refine ZA (N:=9) (k:=2) (m':=7) (v:= .int .i64 x.n) hS.1 hT hS.2.2.2.2.2.2.2.2.1 rfl rfl Kr (QaM (rx.cell 0 (by show 0<4;omega)) rx.l hCx Kr) fun hT=> ?_;refine ZA (N:=9) (k:=3) (m':=15) (v:= .int .i64 ((8*j:Nat):Int)) hS.1 hT hS.2.2.2.2.2.2.2.2.2.1 rfl rfl Kr (fun _ _=>by kernel_rfl) fun hT=> ?_;refine ZA (N:=9) (k:=4) (m':=31) (v:= .int .i64 (x.n/256^j)) hS.1 hT hS.2.2.2.2.2.2.2.2.2.2.1 rfl rfl Kr (fun w' _=>Ql1 hj6 _ _ _ _ 3 _ _ _ _ Kr Kr w') fun hT=> ?_;refine ZA (N:=9) (k:=5) (m':=63) (v:= .int .u8 (x.n/256^j % 256)) hS.1 hT hS.2.2.2.2.2.2.2.2.2.2.2 rfl rfl Kr (fun w' _=>Qeb _ _ _ _ _ _ _ Kr w') fun hT=> ?_;refine Qs hS.2.2.1 (Zl (m':=127) rfl rfl Kr (Qfi (v:=x.n/256^j % 256) Kr WA) ⟨.inr (Mv.of_ext (Ext.al (Ext.rf _) _)),(Mv.of_ext (Ext.al (Ext.rf _) _))⟩ ?_);obtain⟨WB1,hWB1⟩: ∃WB1,WA.alloc (.cells #[.int .u8 (x.n/256^j % 256)] 5)=WB1:=⟨_,rfl⟩;have hbk:=World.alloc_heap_new WA (.cells #[.int .u8 (x.n/256^j % 256)] 5);have gWB1:Ext WA WB1:=by rw [←hWB1];exact Ext.al (Ext.rf _) _
    rw [hWB1]at hbk⊢;clear hWB1;have bx:=Qk (C:=fun _=>False) bx (Mv.of_ext gWB1) (fun h=>h);have ho:=OB.ext ho gWB1;have rx:=rx.ext gWB1;have hcA:WB1.cell? ⟨WA.heap.size,0,none⟩=some (.int .u8 (x.n/256^j % 256)):=by simp only [World.cell?,hbk];rfl
    have hbs:=Xt hbs gWB1.size;have hm1:=Mv.of_ext (C:=fun k=>k=w.heap.size+1∨w1.heap.size+2≤k) gWB1;refine Qs hS.2.2.2.1 (Qwz (m':=255) (base:=w1.heap.size+2) (v1:= .slice pa na ca) (b1:=LL) (x1:=x.n/256^j % 256) rfl rfl Kr Kr ho hcA hlen (fun r e=>e) (fun k h=> .inl h) hbs ?_);intro v' WB2 ho' hg' hm';have bx:=Qk bx hm' hC2;have rx:=rx.mv hm' hCx;have hm2:=hm'.mono (D:=fun k=>k=w.heap.size+1∨w1.heap.size+2≤k) (fun k _ e=> .inr (hge k e));refine Qs hS.2.2.2.2.1 (QD (m':=511) rfl rfl Kr (Yn (B:=w.heap.size+1) (v:=v') (u:= .slice pa na ca) bx.cell bx.frozen (QaR ho') Kr Kr) ⟨.inl Dc,(Mv.st _ (.inl (.inr rfl)) (Mv.refl _ _))⟩ ?_);obtain⟨WB3,hWB3⟩: ∃WB3,World.setCell WB2 ⟨w.heap.size+1,0,none⟩ v'=WB3:=⟨_,rfl⟩;have bx:Boxed WB3 (w.heap.size+1) 28 v':=by rw [←hWB3];exact bx.set _
    have gS:Mv (fun k=>k=w.heap.size+1) WB2 WB3:=by rw [←hWB3];exact Mv.st _ (.inl rfl) (Mv.refl _ _)
    have rx:=rx.mv gS hn2;rw [hWB3];clear hWB3;refine Q2 hS.2.2.2.2.2.1 ?_;clear hS hT;have HF:=Xh (show Qec (w.heap.size+1) (w1.heap.size+2) (L++(byN x.n m).take (m- j)) WB3 from⟨⟨v',bx,by rw [←HLN.out];exact Qw ho' gS (fun k hk e=>by omega),.inr (by rw [←HLN.out];simp)⟩⟩);have HRX2:=Xh rx;have HM2:=Xh ((((HM.out.tr gD).trans hm1).trans hm2).trans (gS.mono (D:=fun k=>k=w.heap.size+1∨w1.heap.size+2≤k) (fun k _ e=> .inl e)));have hw:wrap64 (((8*j:Nat):Int)- 8)=8*((j:Int)- 1):=by simp only [wrap64];omega
    clear bx ho rx hge hC2 hCx cv hm1 hm2 gS ho' hg' hm' gD hcA;go_simp
    gi_wp2
    exact⟨⟨j,Om,congrArg (Value.int .i64) Om,HF.out,HRX2.out,HM2.out⟩,by simp [intOf];omega⟩
 case done=>
  rintro W ⟨v,bx,ho,-⟩ hv hK;obtain⟨pa,na,ca,rfl⟩:=QaR ho;have hc:=bx.cell;have hf:=bx.frozen;have lv':Bv<w1.heap.size:=lv;have HO:=Xh (show OB W (w1.heap.size+2) (.slice pa na ca) (JD o)from ho);have HG:=Xh (Mv.ext_of g2 hv (fun k h=>by rcases h with h|h;exact h.elim;omega));have HB:=Xh bx;have HK:=Xh hK;clear ho hv bx hK g2 g1 g0 g3;go_wp2;have mS:Mv (fun k=>k=w.heap.size+1) W (W.setCell ⟨w.heap.size+1,0,none⟩ (.slice pa na ca)):=Mv.st _ (.inl rfl) (Mv.refl _ _);have hk1:=(mS.same w1.heap.size (Array.getElem?_eq_some_iff.1 HK.out).1 Om).trans HK.out;refine⟨by simp,.inl ⟨_,_,rfl,run_takeDeferred hk1,?_⟩⟩;obtain⟨W4,hW4⟩: ∃W4,W.setCell ⟨w.heap.size+1,0,none⟩ (.slice pa na ca)=W4:=⟨_,rfl⟩;have b4:Boxed W4 (w.heap.size+1) 28 (.slice pa na ca):=by rw [←hW4];exact HB.out.set _
  rw [hW4]at mS hk1⊢;have m3:Mv (fun k=>k=w1.heap.size) W4 (W4.putObj w1.heap.size (.deferred none)):=Mv.put _ _ _ rfl;refine⟨_,QJ rfl _ _ (w.heap.size+1) rfl (Qq1 (Qk b4 m3 Om).cell),.slice pa na ca,rfl,?_,?_⟩
  ·exact(show OB _ (w1.heap.size+2) _ _ from Qw (Qw HO.out mS (fun k hk e=>by omega)) m3 (fun k hk e=>by omega)).le Om
  ·exact Mv.ext_of (Mv.ext_of HG.out mS (fun k e=>by omega)) m3 (fun k e=>by omega)
 case stop=>intro _ _ h;exact h.elim
end Go.Proofs.YtpeonbaodnmlnaaGreat
