/- Lemmas of this claim, put together out of: GA, WB, D1, WD, GB, J1, GC, GX, GD, GE, XV, GF, Z3, GG, GH, GI, GJ, GK, GL, XI, GM. -/
import Derived.Test.YtpeonbaodnmlnaaGreatSA1
import Derived.TacticsIn
import Derived.ScopeJumps
set_option linter.unusedSimpArgs false
set_option linter.unusedVariables false
set_option maxRecDepth 100000
set_option maxHeartbeats 16000000
namespace Go.Proofs.YtpeonbaodnmlnaaGreat
open Go.RowKit
variable{a:Act}{Q:Act→World→Prop}{after:Array Edge}{cs:Array Value}{bs:List Int}{B N base fuel i k m m' o off:Nat}{C:Nat→Prop}{oi:Oper}{q x y:Operand}{ρ:Operand→Value}{g:Option (Nat×Bool)}{dst:Option Tmp}{pos:String}{tq ty:TypeId}{a0 a1 a2 a3 a4:Value}{A W w w':World}
def ByR(bs:List Int):Prop:= ∀b∈bs,0≤b∧b<256
theorem ByR.get(h:ByR bs)(k:Nat)(hk:k<bs.length):0≤bs[k]∧bs[k]<256:=h _ (List.getElem_mem hk)
theorem ByR.drop(h:ByR bs)(k:Nat):ByR (bs.drop k):=fun b hb=>h b (List.mem_of_mem_drop hb)
theorem ByR.take(h:ByR bs)(k:Nat):ByR (bs.take k):=fun b hb=>h b (List.mem_of_mem_take hb)
theorem ByR.app{xs:List Int}(h:ByR xs)(h2:ByR bs):ByR (xs++bs):=fun b hb=>by rcases List.mem_append.1 hb with q|q;exact h b q;exact h2 b q
theorem ByR.set(h:ByR bs)(i:Nat)(v:Int)(hv:0≤v∧v<256):ByR (bs.set i v):=fun b hb=>by rcases List.mem_or_eq_of_mem_set hb with q|q;exact h b q;exact q▸hv
theorem ByR.nil:ByR []:=fun _ h=>by cases h
theorem ByR.cons{b:Int}(hb:0≤b∧b<256)(h:ByR bs):ByR (b::bs):=fun x hx=>by rcases List.mem_cons.1 hx with rfl|q;exact hb;exact h x q
theorem ZH(n a:Nat)(h:a<2^n):(BitVec.ofInt n (a:Int)).toNat=a:=by
 rw [BitVec.toNat_ofInt,←Int.natCast_emod,Int.toNat_natCast,Nat.mod_eq_of_lt h]
theorem QaP(k:IntKind)(a b:Nat)(ha:a<2^k.bits)(hb:b<2^k.bits):bits BinOp.or k a b=k.wrap ((a|||b:Nat):Int):=by
 unfold bits;simp only [BitVec.toNat_or];rw [ZH _ _ ha,ZH _ _ hb]
theorem Qcr(k:IntKind)(a b:Nat)(ha:a<2^k.bits)(hb:b<2^k.bits):bits BinOp.and k a b=k.wrap ((a&&&b:Nat):Int):=by
 unfold bits;simp only [BitVec.toNat_and];rw [ZH _ _ ha,ZH _ _ hb]
theorem Q4(x:Int):IntKind.u16.wrap x=x % 65536:=by simp [IntKind.wrap,IntKind.bits,IntKind.signed]
theorem Ye(x:Int):IntKind.u8.wrap x=x % 256:=by simp [IntKind.wrap,IntKind.bits,IntKind.signed]
theorem YC(x:Int):IntKind.u32.wrap x=x % 4294967296:=by simp [IntKind.wrap,IntKind.bits,IntKind.signed]
theorem QaQ(x:Int):IntKind.u64.wrap x=x % 18446744073709551616:=by simp [IntKind.wrap,IntKind.bits,IntKind.signed]
theorem Qjw(a b n:Nat)(h:b<2^n):(a*2^n)|||b=a*2^n+b:=by
 have:=Nat.shiftLeft_add_eq_or_of_lt h a;rw [Nat.shiftLeft_eq]at this;exact this.symm
theorem QuY{x y:Int}(h0:0≤x)(h1:x<256)(h2:0≤y)(h3:y<256):bits BinOp.or IntKind.u16 (IntKind.u16.wrap (IntKind.u16.wrap x*256)) (IntKind.u16.wrap y)=x*256+y:=by
 obtain⟨a,rfl⟩:=Int.eq_ofNat_of_zero_le h0;obtain⟨b,rfl⟩:=Int.eq_ofNat_of_zero_le h2
 rw [Q4,Q4,Q4,show((a:Int) % 65536*256) % 65536=((a*2^8:Nat):Int)by omega,show(b:Int) % 65536=(b:Int)by omega,
  QaP _ _ _ (by show a*2^8<2^16;omega) (by show b<2^16;omega),Qjw _ _ _ Om,Q4]
 omega
def Zb:List Int→List Int
 | []=> []
 | [a]=> [a*256]
 |a::b::r=>(a*256+b)::Zb r
theorem Qam(a b:Int)(r:List Int):Zb (a::b::r)=(a*256+b)::Zb r:=rfl
theorem Ys: ∀bs:List Int,(Zb bs).length=(bs.length+1)/2
 | []=>rfl
 | [a]=>by simp [Zb]
 |a::b::r=>by rw [Qam,List.length_cons,Ys r,List.length_cons,List.length_cons];omega
theorem Qb1: ∀(bs:List Int) (i:Nat) (h:2*i+1<bs.length),(Zb bs)[i]?=some (bs[2*i]*256+bs[2*i+1])
 |a::b::r,0,_=>rfl
 |a::b::r,i+1,h=>by
  rw [Qam,List.getElem?_cons_succ,Qb1 r i (by simp at h;omega)];simp [show 2*(i+1)=2*i+1+1 by omega]
theorem QaR: ∀(bs:List Int) (i:Nat) (h:bs.length=2*i+1),(Zb bs)[i]?=some (bs[2*i]*256)
 | [a],0,_=>rfl
 |a::b::r,i+1,h=>by
  rw [Qam,List.getElem?_cons_succ,QaR r i (by simp at h;omega)];simp [show 2*(i+1)=2*i+1+1 by omega]
 | [],i,h=>by simp at h
 | [a],i+1,h=>by simp at h
 |a::b::r,0,h=>by simp at h
def sh(p:Option Addr)(k:Nat):Option Addr:=p.map fun a=>{a with off:=a.off+k}
theorem Qls(b off k:Nat):sh (some ⟨b,off,none⟩) k=some ⟨b,off+k,none⟩:=rfl
theorem QoM{b n c:Nat}{x y:Int}(w:World)(h0:w.cell? ⟨b,off,none⟩=some (.int .u8 x))(h1:w.cell? ⟨b,off+1,none⟩=some (.int .u8 y))(lb:Lt b w)(hn:2≤n)(x0:0≤x∧x<256)(y0:0≤y∧y<256):
  Cr 166 #[.slice (some ⟨b,off,none⟩) n c] w (.int .u16 (x*256+y)):=by
 have f:(0:Int)<n:=by omega
 have g:(1:Int)<n:=by omega
 have a:=Xh (QuY x0.1 x0.2 y0.1 y0.2);clear x0 y0 hn
 go_enter Tryz.func166,Tryz.ntmps166
 go_upto_region 1 with(fail)
 refine Qk Kr Kr ?_;(repeat(go_big_quiet_step (fail)));refine wpQuiet_nil ?_;intro d
 have e:=Qt d;go_wp2;go_ret;exact⟨by rw [←a.out];rfl,e⟩
theorem Qjx{b n c:Nat}{x y:Int}(w:World)(h0:w.cell? ⟨b,off,none⟩=some (.int .u8 x))(h1:w.cell? ⟨b,off+1,none⟩=some (.int .u8 y))(lb:Lt b w)(hn:2≤n)(x0:0≤x∧x<256)(y0:0≤y∧y<256):
  Cr 176 #[.slice (some ⟨b,off,none⟩) n c] w (.int .u16 (x*256+y)):=by
 have f:(0:Int)<n:=by omega
 have g:(1:Int)<n:=by omega
 have a:=Xh (QuY x0.1 x0.2 y0.1 y0.2);clear x0 y0 hn
 go_enter Tryz.func176,Tryz.ntmps176
 go_upto_region 1 with(fail)
 refine Qk Kr Kr ?_;(repeat(go_big_quiet_step (fail)));refine wpQuiet_nil ?_;intro d
 have e:=Qt d;go_wp2;go_ret;exact⟨by rw [←a.out];rfl,e⟩
theorem Qlt{b n c:Nat}{v:Int}{u0 u1:Value}(w:World)(h0:w.cell? ⟨b,off,none⟩=some u0)(h1:w.cell? ⟨b,off+1,none⟩=some u1)(f0:w.frozen? ⟨b,off,none⟩=false)(f1:w.frozen? ⟨b,off+1,none⟩=false)(hn:2≤n):
  Calls Tryz.prog 210 #[.slice (some ⟨b,off,none⟩) n c,.int .u16 v] w fun e w'=>(∃r,e= .returned r)∧w'=(w.setCell ⟨b,off,none⟩ (.int .u8 (v/256 % 256))).setCell ⟨b,off+1,none⟩ (.int .u8 (v % 256)):=by
 have a:(0:Int)<n:=by omega
 have d:(1:Int)<n:=by omega
 clear hn
 go_enter Tryz.func210,Tryz.ntmps210
 go_wp2
 go_end0
 simp only [Ye];exact⟨⟨_,rfl⟩,trivial⟩
theorem QmJ(p:Option Addr)(n c:Nat)(w:World):
  Calls Tryz.prog 251 #[.slice p n c] w fun e w'=>e= .returned (.func (.func 257) #[] #[.pointer (some ⟨w.heap.size,0,none⟩)])∧w'=w.alloc (.cells #[.slice p n c] 28):=by
 go_enter Tryz.func251,Tryz.ntmps251
 go_wp2;go_ret;exact⟨rfl,rfl⟩
theorem QgH: ∀args w,(callFunc 257 args).run Tryz.prog w= .ok (.enter 257 args) w:=enters_of Tryz.func257 Kr rfl
theorem QoN{O:Nat}{a:Option Addr}{c:Nat}(h0:w.cell? ⟨B,O,none⟩=some (.slice a m c))(hl:Lt B w)
  (hx:ρ x= .pointer (some ⟨B,O,none⟩)): ∀w',Ext w w'→(execOp ρ ⟨dst,.load 28 x,ty,pos,after,g⟩).run Tryz.prog w'= .ok (.value (.slice a m c)) w':=by
 intro w' b;have h0:=(b.cell (p:=⟨B,_,none⟩) hl).trans h0;simp only [execOp,hx];go_simp
theorem QoO{O:Nat}{x:Int}(h0:w.cell? ⟨B,O,none⟩=some (.int .u8 x))(hl:Lt B w)
  (hx:ρ q= .pointer (some ⟨B,O,none⟩)): ∀w',Ext w w'→(execOp ρ ⟨dst,.load 5 q,ty,pos,after,g⟩).run Tryz.prog w'= .ok (.value (.int .u8 x)) w':=by
 intro w' a;have h0:=(a.cell (p:=⟨B,_,none⟩) hl).trans h0;simp only [execOp,hx];go_simp
theorem Zh{O c:Nat}(i:Nat)(hi:i<m)
  (hx:ρ x= .slice (some ⟨B,O,none⟩) m c)(hy:ρ y= .int .i64 (i:Nat))(w:World):(execOp ρ ⟨dst,.indexAddr 28 x y,ty,pos,after,g⟩).run Tryz.prog w= .ok (.value (.pointer (some ⟨B,O+i,none⟩))) w:=by
 have a:(i:Int)<m:=by omega
 simp only [execOp,hx,hy];go_simp
theorem QhZ{x:Int}(hx0:0≤x∧x<256)(hx:ρ q= .int .u8 x)(w:World):
  (execOp ρ ⟨dst,.convert 5 62 q,ty,pos,after,g⟩).run Tryz.prog w= .ok (.value (.int .u16 x)) w:=by
 have e:IntKind.u16.wrap x=x:=by rw [Q4];omega
 simp only [execOp,hx];go_simp
theorem QmK{x:Int}(hx0:0≤x∧x<256)(ρ:Operand→Value)(dst:Option Tmp)(q y:Operand)(r ty:TypeId)(pos:String)(after:Array Edge)(g:Option (Nat×Bool))(hx:ρ q= .int .u16 x)(hy:ρ y= .int .u64 8)(w:World):
  (execOp ρ ⟨dst,.binOp .shl 62 q y 197,ty,pos,after,g⟩).run Tryz.prog w= .ok (.value (.int .u16 (x*256))) w:=by
 have e:IntKind.u16.wrap (x*256)=x*256:=by rw [Q4];omega
 simp only [execOp,hx,hy];go_simp
theorem QoP{x y:Int}(hx0:0≤x∧x<256)(hy0:0≤y∧y<256){r:Operand}(hx:ρ q= .int .u16 (x*256))(hy:ρ r= .int .u16 y)(w:World):
  (execOp ρ ⟨dst,.binOp .or 62 q r 62,ty,pos,after,g⟩).run Tryz.prog w= .ok (.value (.int .u16 (x*256+y))) w:=by
 have e:=QuY hx0.1 hx0.2 hy0.1 hy0.2;rw [Q4,Q4,Q4,show x % 65536*256 % 65536=x*256 by omega,show y % 65536=y by omega]at e;simp only [execOp,hx,hy];go_simp
theorem Qjy{y:Nat}{v1:Value}{R:Result Next}(h:(Instr.yield y #[v1]).run Tryz.prog w=R){q1:Operand}(tys:Array TypeId)
  (hx:ρ x= .func (.yield y) #[] #[])(h1:ρ q1=v1):(execOp ρ ⟨dst,.call {callee:= .value x,args:=#[q1],argTypes:=tys},ty,pos,after,g⟩).run Tryz.prog w=R:=by
 rw [←h];subst h1;simp only [execOp,hx];go_simp
def QoQ(w:World)(B:Nat):Nat:=match w.cell? ⟨B,0,none⟩with|some (.slice _ n _)=>n|_=>0
theorem Qh0{n c:Nat}{p:Option Addr}(h:w.cell? ⟨B,0,none⟩=some (.slice p n c)):QoQ w B=n:=by unfold QoQ;rw [h]
def Qlu:List (Nat×List Nat):= [(0,[11]),(1,[2,3,4,5,10,11]),(2,[3,4,5,10,11]),(3,[4,5,10,11]),(4,[5,10,11]),(5,[10,11]),(6,[7,8,9,10,11]),(7,[8,9,10,11]),(8,[9,10,11]),(9,[10,11]),(10,[11])]
def QtU(ops:Array Oper):Prop:=Region.noSelect ops=true∧(∀k,k<11→okX ops 13 k=true)∧(∀k,k<11→closedB .any ops (lst 13 k)=true)∧(∀k l,(k,l)∈Qlu→YR .any ops (k::l)=true)∧Region.ready .any ops (lst 13 11)= [11]∧Region.ready .any ops (lst 13 12)= [12]∧Region.ready .any ops (lst 13 13)= []
theorem QxN:QtU ((Tryz.f257.body.bind (Qh 1)).getD #[]):=by
 have a:((List.range 11).all fun k=>okX ((Tryz.f257.body.bind (Qh 1)).getD #[]) 13 k)=true:=Kr
 have b:((List.range 11).all fun k=>closedB .any ((Tryz.f257.body.bind (Qh 1)).getD #[]) (lst 13 k))=true:=Kr
 have c:(Qlu.all fun kl=>YR .any ((Tryz.f257.body.bind (Qh 1)).getD #[]) (kl.1::kl.2))=true:=Kr
 exact⟨Kr,fun k hk=>List.all_eq_true.1 a k (List.mem_range.2 hk),fun k hk=>List.all_eq_true.1 b k (List.mem_range.2 hk),fun k l h=>List.all_eq_true.1 c (k,l) h,Kr,Kr,Kr⟩
theorem Qjz(n:Nat)(bs:List Int)(p:Option Addr)(c:Nat)(w0 w:World)(Bb:Nat)(U:Nat→Prop)(h0:Ext w0 w)(hb:SlB w0 p bs)(hr:ByR bs)(hl:bs.length≤100000)(hlc:bs.length≤c)
  (hcb:w.cell? ⟨Bb,0,none⟩=some (.slice p bs.length c))(hz:Qs w Bb=(0,0))(lb:Lt Bb w)(nb:w0.heap.size≤Bb)(hU: ∀k,U k→w0.heap.size≤k∧k≠Bb):
  QcT Fence.wide n Tryz.prog 257 #[.pointer (some ⟨Bb,0,none⟩)] (fun x:Int=>#[.int .u16 x]) (fun k=>k=Bb) U (Zb bs) w:=by
 intro y J Jx W M hJ b3 Q b4;have HJ:=Xh hJ;have c8:=Xh b3;have HU:=Xh hU;have Y:=Xh hr;clear hJ b3 hU hr;obtain⟨b5,b6,b7,b8,Q⟩:=Q;have F:=Xh Q;clear Q;have d:W.cell? ⟨Bb,0,none⟩=some (.slice p bs.length c):=(M.cell (p:=⟨Bb,0,none⟩) lb).trans hcb;have j:Qs W Bb=(0,0):=by unfold Qs;rw [M.block Bb lb];exact hz
 have a6:Lt Bb W:=Xl lb M.size;have a7:=h0.tr M;have Z:=Xh hb;clear hcb hz hb;refine callsIn_of_wp Tryz.func257 rfl trivial ?_ rfl;simp only [Tryz.ntmps257,List.size_toArray,List.length_cons,List.length_nil,Nat.reduceAdd,Nat.reduceSub,Array.replicate_succ,Array.replicate_zero,List.push_toArray,List.append_toArray,List.nil_append,List.cons_append];refine wpIn_wide.2 ?_;go_wp2
 go_loopw [3] (fun _ wr=> ∃(i m k:Nat) (P:Option Addr),2*i+m=bs.length∧m≤k∧J i wr∧(0<m→P=sh p (2*i))∧wr.cell? ⟨Bb,0,none⟩=some (.slice P m k)∧Qs wr Bb=(0,0)∧Lt Bb wr∧Ext w0 wr) (fun _ wr=>QoQ wr Bb)
 case atStart=>exact⟨0,bs.length,c,p,Om,hlc,b4,fun _=>by cases p<;>rfl,d,j,a6,a7⟩
 case round=>
  clear d j a6 a7 b4;obtain⟨i,m,q,P,d5,d6,b9,S,d,j,a2,T⟩:=hrel;have G:=Xh b9;clear b9;rcases Nat.lt_or_ge 1 m with hlt|hlt
  ·have c3:(1:Int)<m:=by omega
   obtain⟨b,B,o,a3,t⟩:=(Z.out.ext T) (2*i) Om;obtain⟨b',d7,c2,-,V⟩:=(Z.out.ext T) (2*i+1) Om;rw [o]at c2
   cases c2
   rw [S Om,o,Qls]at d;clear S;have HP:=Xh o;have f:=Xh (Qb1 bs i Om);have s:=Y.out.get (2*i) Om;have r1:=Y.out.get (2*i+1) Om;obtain⟨x,C⟩: ∃x,bs[2*i]=x:=⟨_,rfl⟩;obtain⟨z,hz⟩: ∃z,bs[2*i+1]=z:=⟨_,rfl⟩;rw [C]at t s f;rw [hz]at V r1 f;obtain⟨O,hO⟩: ∃O,B+2*i=O:=⟨_,rfl⟩;have HO:=Xh hO;rw [hO]at t d;rw [show B+(2*i+1)=O+1 by omega]at V;have H:Lt b wr:=a3;have f0:=Ql j 0;have u:=Xh (Qh0 d);clear C hz o hO
   go_upto_region 1 with(fail)
   refine(wpIn_wide (n:=n)).1 ?_;refine QdD 11 Kr ?_;obtain⟨a,a4⟩: ∃a,wr.drew=a:=⟨_,rfl⟩;have g:Ext wr a:=by rw [←a4];exact Ext.dr (Ext.rf _)
   rw [a4];clear a4;have a8:J i a:=HJ.out _ _ _ G.out (Mv.of_ext g);have I:=(g.cell (p:=⟨Bb,0,none⟩) a2).trans d;have a0:Qs a Bb=(0,0):=by unfold Qs at j⊢;rw [g.block _ a2];exact j
   have K:Lt Bb a:=Xl a2 g.size;have a9:Lt b a:=Xl H g.size;have c4:=T.tr g;have d0:=(g.cell (p:=⟨b,_,none⟩) H).trans t;have d1:=(g.cell (p:=⟨b,_,none⟩) H).trans V;clear t V d j f0;refine QtL (N:=13) (R:=QtU) (E:=((Tryz.f257.body.bind (Qh 1)).getD #[])) Kr QxN Kr fun hS=> ?_;refine ZR (N:=13) (k:=0) (l:= [11]) (v:= .func (.yield y) #[] #[]) hS.1 (hS.2.1 0 Dc) (hS.2.2.1 0 Dc) (hS.2.2.2.1 0 [11] Dc) rfl Dc rfl Kr (fun _ _=>by kernel_rfl) ?_;refine ZR (N:=13) (k:=1) (l:= [2,3,4,5,10,11]) (v:= .slice (some ⟨b,O,none⟩) m q) hS.1 (hS.2.1 1 Dc) (hS.2.2.1 1 Dc) (hS.2.2.2.1 1 [2,3,4,5,10,11] Dc) rfl Dc rfl Kr (QoN I K Kr) ?_;refine ZR (N:=13) (k:=2) (l:= [3,4,5,10,11]) (v:= .pointer (some ⟨b,O+0,none⟩)) hS.1 (hS.2.1 2 Dc) (hS.2.2.1 2 Dc) (hS.2.2.2.1 2 [3,4,5,10,11] Dc) rfl Dc rfl Kr (fun w' _=>Zh (m:=m) (c:=q) 0 Om Kr Kr w') ?_;refine ZR (N:=13) (k:=3) (l:= [4,5,10,11]) (v:= .int .u8 x) hS.1 (hS.2.1 3 Dc) (hS.2.2.1 3 Dc) (hS.2.2.2.1 3 [4,5,10,11] Dc) rfl Dc rfl Kr (QoO d0 a9 Kr) ?_;refine ZR (N:=13) (k:=4) (l:= [5,10,11]) (v:= .int .u16 x) hS.1 (hS.2.1 4 Dc) (hS.2.2.1 4 Dc) (hS.2.2.2.1 4 [5,10,11] Dc) rfl Dc rfl Kr (fun w' _=>QhZ s Kr w') ?_;refine ZR (N:=13) (k:=5) (l:= [10,11]) (v:= .int .u16 (x*256)) hS.1 (hS.2.1 5 Dc) (hS.2.2.1 5 Dc) (hS.2.2.2.1 5 [10,11] Dc) rfl Dc rfl Kr (fun w' _=>QmK s _ _ _ _ 0 _ _ _ _ Kr Kr w') ?_;refine ZR (N:=13) (k:=6) (l:= [7,8,9,10,11]) (v:= .slice (some ⟨b,O,none⟩) m q) hS.1 (hS.2.1 6 Dc) (hS.2.2.1 6 Dc) (hS.2.2.2.1 6 [7,8,9,10,11] Dc) rfl Dc rfl Kr (QoN I K Kr) ?_;refine ZR (N:=13) (k:=7) (l:= [8,9,10,11]) (v:= .pointer (some ⟨b,O+1,none⟩)) hS.1 (hS.2.1 7 Dc) (hS.2.2.1 7 Dc) (hS.2.2.2.1 7 [8,9,10,11] Dc) rfl Dc rfl Kr (fun w' _=>Zh (m:=m) (c:=q) 1 Om Kr Kr w') ?_;refine ZR (N:=13) (k:=8) (l:= [9,10,11]) (v:= .int .u8 z) hS.1 (hS.2.1 8 Dc) (hS.2.2.1 8 Dc) (hS.2.2.2.1 8 [9,10,11] Dc) rfl Dc rfl Kr (QoO d1 a9 Kr) ?_;refine ZR (N:=13) (k:=9) (l:= [10,11]) (v:= .int .u16 z) hS.1 (hS.2.1 9 Dc) (hS.2.2.1 9 Dc) (hS.2.2.2.1 9 [10,11] Dc) rfl Dc rfl Kr (fun w' _=>QhZ r1 Kr w') ?_;refine ZR (N:=13) (k:=10) (l:= [11]) (v:= .int .u16 (x*256+z)) hS.1 (hS.2.1 10 Dc) (hS.2.2.1 10 Dc) (hS.2.2.2.1 10 [11] Dc) rfl Dc rfl Kr (fun w' _=>QoP s r1 Kr Kr w') ?_;have L:(Instr.yield y #[.int .u16 (x*256+z)]).run Tryz.prog a= .ok (.round y b5 (b6 #[.int .u16 (x*256+z)]) b7 b8) a:=(F.out i (x*256+z) a a8 f.out).1;have A:=Xh (F.out i (x*256+z) a a8 f.out).2;refine Qok (N:=13) hS.2.2.2.2.1 rfl Kr (Qjy L _ Kr Kr) A.out ?_;rintro e r ⟨bb,rfl,hP⟩;refine⟨_,rfl,?_⟩;refine valueR (N:=13) (k:=11+1) (v:= .bool (!bb)) hS.2.2.2.2.2.1 rfl Kr (by cases bb<;>kernel_rfl) ?_;refine doneR hS.2.2.2.2.2.2 ?_;clear hS A L;go_simp;obtain⟨rfl,X,D⟩|⟨rfl,a5⟩:=hP
   ·have a1:=D.same Bb K (fun h=>by rcases h with h|h;exact(HU.out _ h).2 rfl;unfold Lt at lb;omega);have b0:r.cell? ⟨Bb,0,none⟩=some (.slice (some ⟨b,O,none⟩) m q):=by rw [Qa,Qf a1,←Qa];exact I
    have b1:Qs r Bb=(0,0):=by unfold Qs at a0⊢;rw [a1];exact a0
    have c5:Lt Bb r:=Xl K D.size;have c6:Ext w0 r:=Mv.ext_of c4 D (fun k h=>by rcases h with h|h;exact(HU.out _ h).1;exact Xt h0.size h);have f6:=Ql b1 0;have c7:=Xh X;have c9:(2:Int)≤m:=by omega
    have d2:(m:Int)≤q:=by omega
    clear D a1 X I a0 d0 d1;go_wp2;have b2: ∀v,Mv (fun k=>k=Bb) r (r.setCell ⟨Bb,0,none⟩ v):=fun v=>Mv.st _ (.inl rfl) (Mv.refl _ _);refine⟨⟨i+1,m- 2,q- 2,_,Om,Om,HJ.out _ _ _ c7.out (b2 _),?_,World.cell?_setCell_same _ _ _ b0,by rw [QR];exact b1,by rw [Zk];exact c5,Mv.ext_of c6 (b2 _) (fun k e=>by rw [e];exact nb)⟩,?_⟩
    ·intro hm;rw [if_neg Om,HP.out,←HO.out,show B+2*i+2=B+2*(i+1)by omega];rfl
    ·rw [Qh0 (World.cell?_setCell_same _ _ _ b0),u.out];omega
   ·go_wp2;refine bodyPost_ret (results_none rfl _ _ _) rfl ?_;exact⟨⟨_,rfl⟩,.inr a5⟩
  ·have c3: ¬(1:Int)<m:=by omega
   obtain rfl|rfl:m=0∨m=1:=by omega
   ·have u:=Xh (Ys bs);go_wp2
    go_end0
    exact⟨⟨_,rfl⟩,.inl (by rw [u.out,show(bs.length+1)/2=i by omega];exact G.out)⟩
   ·obtain⟨b,B,o,a3,t⟩:=(Z.out.ext T) (2*i) Om;rw [S Om,o,Qls]at d;have s:=Y.out.get (2*i) Om;have f:=Xh (QaR bs i Om);obtain⟨x,C⟩: ∃x,bs[2*i]=x:=⟨_,rfl⟩;rw [C]at t s f;have H:Lt b wr:=a3;have d3:IntKind.u16.wrap x=x:=by rw [Q4];omega
    have d4:IntKind.u16.wrap (x*256)=x*256:=by rw [Q4];omega
    have L:(Instr.yield y #[.int .u16 (x*256)]).run Tryz.prog wr= .ok (.round y b5 (b6 #[.int .u16 (x*256)]) b7 b8) wr:=(F.out i (x*256) wr G.out f.out).1;have A:=Xh (F.out i (x*256) wr G.out f.out).2;have u:=Xh (show(Zb bs).length=i+1 by rw [Ys];omega);clear C o S
    go_upto_region 4 with(fail)
    refine(wpIn_wide (n:=n)).1 ?_
    gi_wp2
    refine⟨(fun h=>by cases h),(A.out).mono ?_⟩;rintro e r ⟨bb,rfl,hP⟩;clear L A;obtain⟨rfl,X,D⟩|⟨rfl,a5⟩:=hP
    ·gi_wp2
     refine bodyPost_end (results_none rfl _ _ _) rfl ?_;exact⟨⟨_,rfl⟩,.inl (by rw [u.out];exact X)⟩
    ·gi_wp2
     refine bodyPost_end (results_none rfl _ _ _) rfl ?_;exact⟨⟨_,rfl⟩,.inr a5⟩
def Qd:Value→Nat| .pointer (some a)=>a.off|_=>0
@[go_sem] theorem Qwt(a:Addr):Qd (.pointer (some a))=a.off:=rfl
def Fits(o m:Nat)(cs:Array Value):Prop:=o+m≤cs.size
def Qn(cs:Array Value)(n:Nat):Prop:=cs.size=n
def QB(cs:Array Value)(o n:Nat):Array Value:=cs.extract o (o+n)
theorem QC(w:World)(b o e:Nat):w.rangeAt b o ((Qc w b).extract o e).toList:=fun j v hv=>by
 rw [Qa];have:((Qc w b).extract o e)[j]?=some v:=by rw [←Array.getElem?_toList];exact hv
 rw [Array.getElem?_extract]at this
 split at this
 ·exact this
 ·cases this
def Qe(w:World)(b o:Nat)(cs:Array Value):World:=w.setCells b o cs.toList
@[go_sem] theorem Qb2(w:World)(b o:Nat)(cs:Array Value):(Qe w b o cs).heap.size=w.heap.size:=(Za b _ o w).1
theorem Qb3(w:World)(b o:Nat)(cs:Array Value)(k:Nat)(h:k≠b):(Qe w b o cs).heap[k]?=w.heap[k]?:=(Za b _ o w).2.1 k h
def ovl(f:Nat→Value)(o m:Nat)(g:Nat→Value):Nat→Value:=fun j=>if o≤j∧j<o+m then g (j- o)else f j
theorem QdV(w:World)(b o n m:Nat)(f g:Nat→Value)(h:Qc w b=rowv n f)(hm:o+m≤n):Qc (Qe w b o (rowv m g)) b=rowv n (ovl f o m g):=by
 unfold Qe;rw [JU]
 apply Array.ext_getElem?
 intro i;rw [Qd9,h,QM];simp only [Array.length_toList,QY]
 by_cases a:i<n
 ·rw [if_pos a,QM,if_pos a];unfold ovl
  by_cases c:o≤i∧i<o+m
  ·rw [if_pos ⟨c.1,c.2,a⟩,if_pos c,Array.getElem?_toList,QM,if_pos Om]
  ·rw [if_neg (fun e=>c ⟨e.1,e.2.1⟩),if_neg c]
 ·rw [if_neg (fun e=>a e.2.2),if_neg a,QM,if_neg a]
theorem ZP(w:World)(b b' o:Nat)(cs:Array Value)(h:b'≠b):Qc (Qe w b o cs) b'=Qc w b':=Qf (Qb3 w b o cs b' h)
@[go_sem] theorem ZV(w:World)(b b' o:Nat)(cs:Array Value):Qs (Qe w b o cs) b'=Qs w b':=by
 by_cases h:b'=b
 ·subst h;exact(Za b' _ o w).2.2.2.2.2
 ·unfold Qs;rw [Qb3 _ _ _ _ _ h]
@[go_sem] theorem QaS(w:World)(b b' o:Nat)(cs:Array Value):Lt b' (Qe w b o cs)=Lt b' w:=by unfold Lt;rw [Qb2]
@[go_sem] theorem Qsc(w:World)(b b' o i:Nat)(cs:Array Value):(Qe w b o cs).frozen? ⟨b',i,none⟩=w.frozen? ⟨b',i,none⟩:=by rw [Y7,Y7,ZV]
theorem Ext.sa{w:World}{b o:Nat}(cs:Array Value)(hp:w.heap.size≤b)(h:Ext w W):Ext w (Qe W b o cs):=
 let s:=Za b cs.toList o W
 h.trans ⟨s.2.2.1,s.2.2.2.1,s.2.2.2.2.1,by rw [Qb2];exact Nat.le_refl _,fun k hk=>Qb3 W b o cs k Om⟩
theorem Qq(w:World)(b:Nat)(cs:Array Value)(h:(Qc w b).size=cs.size):Qc (Qe w b 0 cs) b=cs:=J0 w b cs h
theorem Q9(cs:Array Value)(n:Nat)(h:cs.size=n):QB cs 0 n=cs:=by unfold QB;subst h;simp
theorem Zv{P:Program}{fn:Func}{p:Tmp}{v:Value}(h:fn.results=#[.cell p ty])(tmps:Array Value)(w:World)(g:Nat)
  (hp:tmps.getD p undef= .pointer (some ⟨g,0,none⟩))(hl:(loadVar ty ⟨g,0,none⟩).run P w= .ok v w):(results fn tmps).run P w= .ok v w:=by
 have a:tmps[p]?.getD undef= .pointer (some ⟨g,0,none⟩):=by simpa using hp
 simp [results,h,a,asAddr,hl]
theorem Zc{w':World}{b:Nat}(h:Ext W w')(hb:Lt b W)(hr:Qc W b=cs):Qc w' b=cs:=by rw [Qf (h.block b hb)];exact hr
theorem QF(cs:Array Value):(Value.agg cs).cells=cs:=rfl
theorem Zw(n:Nat)(f:Nat→Value)(h: ∀i,(f i).oneCell'=true):QK (rowv n f):=by
 unfold QK;rw [Array.all_eq_true];intro i a;simp [rowv,h]
theorem Q5(n:Nat)(f:Nat→Value)(o m:Nat)(h:o+m≤n):QB (rowv n f) o m=rowv m (fun j=>f (o+j)):=by
 unfold QB
 apply Array.ext_getElem?
 intro j;rw [Array.getElem?_extract,QY,QM,QM]
 by_cases a:j<m
 ·rw [if_pos Om,if_pos Om,if_pos a]
 ·rw [if_neg Om,if_neg a]
@[go_sem ↓ high] theorem QuZ{l:Option Nat}:Oper.semAt l ρ ⟨dst,.move x,tq,pos,after,g⟩=execOp ρ ⟨dst,.move x,tq,pos,after,g⟩:=Oper.semAt_eq _ _ _ (fun c h=>by cases h)
@[go_sem ↓ high] theorem Qsd{l:Option Nat}:Oper.semAt l ρ ⟨dst,.assign x,tq,pos,after,g⟩=execOp ρ ⟨dst,.assign x,tq,pos,after,g⟩:=Oper.semAt_eq _ _ _ (fun c h=>by cases h)
@[go_sem ↓ high] theorem Qu0{l:Option Nat}{c a b:Operand}:Oper.semAt l ρ ⟨dst,.pick c a b,tq,pos,after,g⟩=execOp ρ ⟨dst,.pick c a b,tq,pos,after,g⟩:=Oper.semAt_eq _ _ _ (fun c h=>by cases h)
@[go_sem ↓ high] theorem QtV{l:Option Nat}{e:TypeId}:Oper.semAt l ρ ⟨dst,.alloc e,tq,pos,after,g⟩=execOp ρ ⟨dst,.alloc e,tq,pos,after,g⟩:=Oper.semAt_eq _ _ _ (fun c h=>by cases h)
@[go_sem ↓ high] theorem Qwu{l:Option Nat}{e:TypeId}{v:Operand}:Oper.semAt l ρ ⟨dst,.box e v,tq,pos,after,g⟩=execOp ρ ⟨dst,.box e v,tq,pos,after,g⟩:=Oper.semAt_eq _ _ _ (fun c h=>by cases h)
@[go_sem ↓ high] theorem QtW{l:Option Nat}{t:TypeId}(p:Array (Nat×Operand)):Oper.semAt l ρ ⟨dst,.build t p,tq,pos,after,g⟩=execOp ρ ⟨dst,.build t p,tq,pos,after,g⟩:=Oper.semAt_eq _ _ _ (fun c h=>by cases h)
@[go_sem ↓ high] theorem QmL{l:Option Nat}{t:TypeId}(n:Nat)(p:Array (Nat×Operand)):Oper.semAt l ρ ⟨dst,.buildSlice t n p,tq,pos,after,g⟩=execOp ρ ⟨dst,.buildSlice t n p,tq,pos,after,g⟩:=Oper.semAt_eq _ _ _ (fun c h=>by cases h)
@[go_sem ↓ high] theorem Qse{l:Option Nat}{t:TypeId}{m k v:Operand}:Oper.semAt l ρ ⟨dst,.insert t m k v,tq,pos,after,g⟩=execOp ρ ⟨dst,.insert t m k v,tq,pos,after,g⟩:=Oper.semAt_eq _ _ _ (fun c h=>by cases h)
@[go_sem ↓ high] theorem Qu1{l:Option Nat}{t:TypeId}:Oper.semAt l ρ ⟨dst,.load t x,tq,pos,after,g⟩=execOp ρ ⟨dst,.load t x,tq,pos,after,g⟩:=Oper.semAt_eq _ _ _ (fun c h=>by cases h)
@[go_sem ↓ high] theorem QtX{l:Option Nat}{t:TypeId}:Oper.semAt l ρ ⟨dst,.store t x y,tq,pos,after,g⟩=execOp ρ ⟨dst,.store t x y,tq,pos,after,g⟩:=Oper.semAt_eq _ _ _ (fun c h=>by cases h)
@[go_sem ↓ high] theorem QoR{l:Option Nat}:Oper.semAt l ρ ⟨dst,.nilCheck x,tq,pos,after,g⟩=execOp ρ ⟨dst,.nilCheck x,tq,pos,after,g⟩:=Oper.semAt_eq _ _ _ (fun c h=>by cases h)
@[go_sem ↓ high] theorem QtY{l:Option Nat}(o:BinOp){t:TypeId}{u:TypeId}:Oper.semAt l ρ ⟨dst,.binOp o t x y u,tq,pos,after,g⟩=execOp ρ ⟨dst,.binOp o t x y u,tq,pos,after,g⟩:=Oper.semAt_eq _ _ _ (fun c h=>by cases h)
@[go_sem ↓ high] theorem Qu2{l:Option Nat}(o:UnOp){t:TypeId}:Oper.semAt l ρ ⟨dst,.unOp o t x,tq,pos,after,g⟩=execOp ρ ⟨dst,.unOp o t x,tq,pos,after,g⟩:=Oper.semAt_eq _ _ _ (fun c h=>by cases h)
@[go_sem ↓ high] theorem QrI{l:Option Nat}{s d:TypeId}:Oper.semAt l ρ ⟨dst,.convert s d x,tq,pos,after,g⟩=execOp ρ ⟨dst,.convert s d x,tq,pos,after,g⟩:=Oper.semAt_eq _ _ _ (fun c h=>by cases h)
@[go_sem ↓ high] theorem Qjg{l:Option Nat}{t:TypeId}:Oper.semAt l ρ ⟨dst,.makeInterface t x,tq,pos,after,g⟩=execOp ρ ⟨dst,.makeInterface t x,tq,pos,after,g⟩:=Oper.semAt_eq _ _ _ (fun c h=>by cases h)
@[go_sem ↓ high] theorem QoS{l:Option Nat}(f:Fn)(a b:Array Operand):Oper.semAt l ρ ⟨dst,.makeFunc f a b,tq,pos,after,g⟩=execOp ρ ⟨dst,.makeFunc f a b,tq,pos,after,g⟩:=Oper.semAt_eq _ _ _ (fun c h=>by cases h)
@[go_sem ↓ high] theorem QrJ{l:Option Nat}{t:TypeId}(r:Option Operand):Oper.semAt l ρ ⟨dst,.makeMap t r,tq,pos,after,g⟩=execOp ρ ⟨dst,.makeMap t r,tq,pos,after,g⟩:=Oper.semAt_eq _ _ _ (fun c h=>by cases h)
@[go_sem ↓ high] theorem Qoc{l:Option Nat}{t:TypeId}{a b:Operand}:Oper.semAt l ρ ⟨dst,.makeSlice t a b,tq,pos,after,g⟩=execOp ρ ⟨dst,.makeSlice t a b,tq,pos,after,g⟩:=Oper.semAt_eq _ _ _ (fun c h=>by cases h)
@[go_sem ↓ high] theorem QtZ{l:Option Nat}{t:TypeId}(a b c:Option Operand):Oper.semAt l ρ ⟨dst,.slice t x a b c,tq,pos,after,g⟩=execOp ρ ⟨dst,.slice t x a b c,tq,pos,after,g⟩:=Oper.semAt_eq _ _ _ (fun c h=>by cases h)
@[go_sem ↓ high] theorem Qod{l:Option Nat}{t:TypeId}(n:Nat):Oper.semAt l ρ ⟨dst,.fieldAddr t x n,tq,pos,after,g⟩=execOp ρ ⟨dst,.fieldAddr t x n,tq,pos,after,g⟩:=Oper.semAt_eq _ _ _ (fun c h=>by cases h)
@[go_sem ↓ high] theorem Qt0{l:Option Nat}{t:TypeId}(n:Nat):Oper.semAt l ρ ⟨dst,.field t x n,tq,pos,after,g⟩=execOp ρ ⟨dst,.field t x n,tq,pos,after,g⟩:=Oper.semAt_eq _ _ _ (fun c h=>by cases h)
@[go_sem ↓ high] theorem Qoe{l:Option Nat}{t:TypeId}{i:Operand}:Oper.semAt l ρ ⟨dst,.indexAddr t x i,tq,pos,after,g⟩=execOp ρ ⟨dst,.indexAddr t x i,tq,pos,after,g⟩:=Oper.semAt_eq _ _ _ (fun c h=>by cases h)
@[go_sem ↓ high] theorem Qt1{l:Option Nat}{t:TypeId}{i:Operand}:Oper.semAt l ρ ⟨dst,.index t x i,tq,pos,after,g⟩=execOp ρ ⟨dst,.index t x i,tq,pos,after,g⟩:=Oper.semAt_eq _ _ _ (fun c h=>by cases h)
@[go_sem ↓ high] theorem Qu3{l:Option Nat}(c:Call):Oper.semAt l ρ ⟨dst,.call c,tq,pos,after,g⟩=execOp ρ ⟨dst,.call c,tq,pos,after,g⟩:=Oper.semAt_eq _ _ _ (fun c h=>by cases h)
section
variable {F:Fence} {n:Nat} {P:Program} {ops:Array Oper} {Q:Exit→Act→World→Prop} {a:Act} {w w':World} {rest:List Oper} {o:Oper} {v:Value}
end
structure Mo where
 ph:Int
 cur:Int
 nxt:Int
 gen:Int
 tick:Int
 ver:Int
 deriving DecidableEq
abbrev mo(ph cur nxt gen tick ver:Int):Value:= .agg #[.int .u8 ph,.int .i64 cur,.int .i64 nxt,.int .i64 gen,.int .i64 tick,.int .i64 ver]
abbrev Mo.v(m:Mo):Value:=mo m.ph m.cur m.nxt m.gen m.tick m.ver
def Qlv(n:Int):Bool:=decide (0≤n)&&decide (n≤5)
def Qt2(n:Int):Bool:=decide (0≤n)&&decide (n≤1099511627776)
def QAe(m:Mo):Bool:=
 if m.ph=0 then m.cur== -1&&m.nxt== -1
 else if m.ph=1 then Qlv m.cur&&m.nxt== -1
 else if m.ph=6 then m.cur== -1&&Qlv m.nxt
 else Qlv m.cur&&Qlv m.nxt&&m.cur !=m.nxt
def QAf(m:Mo):Bool:=decide (0≤m.gen)&&decide (m.gen≤2147483647)&&(decide (1≤m.gen)||m.ph==0)
def Mo.right(m:Mo):Bool:=decide (m.ph<7)&&QAe m&&QAf m&&Qt2 m.tick&&Qt2 m.ver
structure Sh where
 b:Int
 t:Int
 deriving DecidableEq
def SlS(w:World)(p:Option Addr)(xs:List Sh):Prop:= ∀k,(h:k<xs.length)→ ∃b off,p=some ⟨b,off,none⟩∧b<w.heap.size∧w.cell? ⟨b,off+k*2,none⟩=some (.int .i64 xs[k].b)∧w.cell? ⟨b,off+k*2+1,none⟩=some (.int .i64 xs[k].t)
theorem SlS.ext{p:Option Addr}{xs:List Sh}(h:SlS w p xs)(e:Ext w w'):SlS w' p xs:=fun k hk=>by
 obtain⟨b,a,d,c,f,g⟩:=h k hk;exact⟨b,a,d,Xl c e.size,(e.cell (p:=⟨b,a+k*2,none⟩) c).trans f,(e.cell (p:=⟨b,a+k*2+1,none⟩) c).trans g⟩
theorem SlS.nil(w:World)(p:Option Addr):SlS w p []:=fun k hk=>by simp at hk
def Mo.at(m:Mo):Nat→Value
 |0=> .int .u8 m.ph
 |1=> .int .i64 m.cur
 |2=> .int .i64 m.nxt
 |3=> .int .i64 m.gen
 |4=> .int .i64 m.tick
 |_=> .int .i64 m.ver
def lm(l:Nat→Mo):Array Value:=rowv 96 fun j=>(l (j/6)).at (j % 6)
theorem QgI(l:Nat→Mo):(lm l).size=96:=QY _ _
theorem QoT(m:Mo)(j:Nat):(m.at j).oneCell'=true:=by
 unfold Mo.at
 split<;>rfl
@[go_sem] theorem QAg(l:Nat→Mo):QK (lm l):=Zw _ _ fun j=>QoT _ _
@[go_sem ↓ high] theorem QxO(l:Nat→Mo):(Value.agg (lm l)).cells=lm l:=rfl
@[go_sem] theorem QzB{x o m}:Fits o m (lm x)=(o+m≤96):=by unfold Fits;rw [QgI]
@[go_sem] theorem Qwv{x}:Qn (lm x) 96:=QgI x
structure Md where
 kind:Int
 peer:Int
 gen:Int
 ret:Bool
 deriving DecidableEq
structure En where
 cur:Int
 prev:Int
 gen:Int
 tick:Int
 deriving DecidableEq
structure Tb where
 ver:Int
 rows:Nat→En
structure Cl where
 has:Bool
 t:Tb
structure Ag where
 id:Int
 idle:Int
 md:Nat→Md
 p:Option Addr
 xs:List Co
 c:Nat
structure Mb where
 bk:Nat→Int
 mx:Nat→Int
structure St where
 mb:Mb
 mv:Nat→Mo
 t:Tb
 set:Nat→Int
 has:Nat→Int
 win:Int
 p:Option Addr
 pl:List Sh
 c:Nat
structure Wd where
 now:Int
 idle:Int
 st:St
 cl:Nat→Cl
 ag:Nat→Ag
 fp:Option Addr
 fl:Nat
 fc:Nat
 tp:Option Addr
 tl:Nat
 tc:Nat
 drops:Nat→Int
def Md.at(m:Md)(j:Nat):Value:=match j with|0=> .int .u8 m.kind|1=> .int .i64 m.peer|2=> .int .i64 m.gen|_=> .bool m.ret
def En.at(e:En)(j:Nat):Value:=match j with|0=> .int .i64 e.cur|1=> .int .i64 e.prev|2=> .int .i64 e.gen|_=> .int .i64 e.tick
def Tb.at(t:Tb)(j:Nat):Value:=if j=0 then .int .i64 t.ver else(t.rows ((j- 1)/4)).at ((j- 1) % 4)
def Cl.at(c:Cl)(j:Nat):Value:=if j=0 then .bool c.has else c.t.at (j- 1)
def Ag.at(a:Ag)(j:Nat):Value:=if j=0 then .int .i64 a.id else if j=1 then .int .i64 a.idle else if j<66 then(a.md ((j- 2)/4)).at ((j- 2) % 4)else .slice a.p a.xs.length a.c
def Mb.at(m:Mb)(j:Nat):Value:=if j<6 then .int .u8 (m.bk j)else .int .u8 (m.mx (j- 6))
def St.at(s:St)(j:Nat):Value:=
 if j<9 then s.mb.at j else if j<105 then(s.mv ((j- 9)/6)).at ((j- 9) % 6)else if j<170 then s.t.at (j- 105)else if j<186 then .int .i64 (s.set (j- 170))
 else if j<189 then .int .i64 (s.has (j- 186))else if j=189 then .int .i64 s.win else .slice s.p s.pl.length s.c
def Wd.at(x:Wd)(j:Nat):Value:=
 if j=0 then .int .i64 x.now else if j=1 then .int .i64 x.idle else if j<193 then x.st.at (j- 2)else if j<391 then(x.cl ((j- 193)/66)).at ((j- 193) % 66)
 else if j<793 then(x.ag ((j- 391)/67)).at ((j- 391) % 67)else if j=793 then .slice x.fp x.fl x.fc else if j=794 then .slice x.tp x.tl x.tc else .int .i64 (x.drops (j- 795))
def mdv(m:Md):Array Value:=rowv 4 m.at
def mdL(l:Nat→Md):Array Value:=rowv 64 fun j=>(l (j/4)).at (j % 4)
def env(e:En):Array Value:=rowv 4 e.at
def enL(l:Nat→En):Array Value:=rowv 64 fun j=>(l (j/4)).at (j % 4)
def tbv(t:Tb):Array Value:=rowv 65 t.at
def clv(c:Cl):Array Value:=rowv 66 c.at
def clL(l:Nat→Cl):Array Value:=rowv 198 fun j=>(l (j/66)).at (j % 66)
def agv(a:Ag):Array Value:=rowv 67 a.at
def agL(l:Nat→Ag):Array Value:=rowv 402 fun j=>(l (j/67)).at (j % 67)
def mbv(m:Mb):Array Value:=rowv 9 m.at
def stv(s:St):Array Value:=rowv 191 s.at
def wdv(x:Wd):Array Value:=rowv 814 x.at
theorem J2{x}:(mdv x).size=4:=by unfold mdv;rw [QY]
@[go_sem] theorem QxP{x o m}:Fits o m (mdv x)=(o+m≤4):=by unfold Fits;rw [J2]
@[go_sem] theorem Qu4{x}:Qn (mdv x) 4:=J2
@[go_sem ↓ high] theorem Qww{x}:(Value.agg (mdv x)).cells=mdv x:=QF _
theorem Qeq{x}:(mdL x).size=64:=by unfold mdL;rw [QY]
@[go_sem] theorem QxQ{x o m}:Fits o m (mdL x)=(o+m≤64):=by unfold Fits;rw [Qeq]
@[go_sem] theorem Qu5{x}:Qn (mdL x) 64:=Qeq
@[go_sem ↓ high] theorem Qwx{x}:(Value.agg (mdL x)).cells=mdL x:=QF _
theorem Qh1{x}:(env x).size=4:=by unfold env;rw [QY]
@[go_sem] theorem QxR{x o m}:Fits o m (env x)=(o+m≤4):=by unfold Fits;rw [Qh1]
@[go_sem] theorem Qu6{x}:Qn (env x) 4:=Qh1
@[go_sem ↓ high] theorem Qwy{x}:(Value.agg (env x)).cells=env x:=QF _
theorem Qer{x}:(enL x).size=64:=by unfold enL;rw [QY]
@[go_sem] theorem QxS{x o m}:Fits o m (enL x)=(o+m≤64):=by unfold Fits;rw [Qer]
@[go_sem] theorem Qu7{x}:Qn (enL x) 64:=Qer
@[go_sem ↓ high] theorem Qwz{x}:(Value.agg (enL x)).cells=enL x:=QF _
theorem Qes{x}:(tbv x).size=65:=by unfold tbv;rw [QY]
@[go_sem] theorem QxT{x o m}:Fits o m (tbv x)=(o+m≤65):=by unfold Fits;rw [Qes]
@[go_sem] theorem Qu8{x}:Qn (tbv x) 65:=Qes
@[go_sem ↓ high] theorem QwA{x}:(Value.agg (tbv x)).cells=tbv x:=QF _
theorem Qet{x}:(clv x).size=66:=by unfold clv;rw [QY]
@[go_sem] theorem QxU{x o m}:Fits o m (clv x)=(o+m≤66):=by unfold Fits;rw [Qet]
@[go_sem] theorem Qu9{x}:Qn (clv x) 66:=Qet
@[go_sem ↓ high] theorem QwB{x}:(Value.agg (clv x)).cells=clv x:=QF _
theorem Qeu{x}:(clL x).size=198:=by unfold clL;rw [QY]
@[go_sem] theorem QxV{x o m}:Fits o m (clL x)=(o+m≤198):=by unfold Fits;rw [Qeu]
@[go_sem] theorem Qva{x}:Qn (clL x) 198:=Qeu
@[go_sem ↓ high] theorem QwC{x}:(Value.agg (clL x)).cells=clL x:=QF _
theorem Qg{x}:(agv x).size=67:=by unfold agv;rw [QY]
@[go_sem] theorem QxW{x o m}:Fits o m (agv x)=(o+m≤67):=by unfold Fits;rw [Qg]
@[go_sem] theorem Qvb{x}:Qn (agv x) 67:=Qg
@[go_sem ↓ high] theorem QwD{x}:(Value.agg (agv x)).cells=agv x:=QF _
theorem Qev{x}:(agL x).size=402:=by unfold agL;rw [QY]
@[go_sem] theorem QxX{x o m}:Fits o m (agL x)=(o+m≤402):=by unfold Fits;rw [Qev]
@[go_sem] theorem Qvc{x}:Qn (agL x) 402:=Qev
@[go_sem ↓ high] theorem QwE{x}:(Value.agg (agL x)).cells=agL x:=QF _
theorem Qew{x}:(mbv x).size=9:=by unfold mbv;rw [QY]
@[go_sem] theorem QxY{x o m}:Fits o m (mbv x)=(o+m≤9):=by unfold Fits;rw [Qew]
@[go_sem] theorem Qvd{x}:Qn (mbv x) 9:=Qew
@[go_sem ↓ high] theorem QwF{x}:(Value.agg (mbv x)).cells=mbv x:=QF _
theorem Qex{x}:(stv x).size=191:=by unfold stv;rw [QY]
@[go_sem] theorem QxZ{x o m}:Fits o m (stv x)=(o+m≤191):=by unfold Fits;rw [Qex]
@[go_sem] theorem Qve{x}:Qn (stv x) 191:=Qex
@[go_sem ↓ high] theorem QwG{x}:(Value.agg (stv x)).cells=stv x:=QF _
theorem Qey{x}:(wdv x).size=814:=by unfold wdv;rw [QY]
@[go_sem] theorem Qx0{x o m}:Fits o m (wdv x)=(o+m≤814):=by unfold Fits;rw [Qey]
@[go_sem] theorem Qvf{x}:Qn (wdv x) 814:=Qey
@[go_sem ↓ high] theorem QwH{x}:(Value.agg (wdv x)).cells=wdv x:=QF _
theorem QcZ(m:Md)(j:Nat):(m.at j).oneCell'=true:=by unfold Md.at;split<;>rfl
theorem Qc0(m:En)(j:Nat):(m.at j).oneCell'=true:=by unfold En.at;split<;>rfl
theorem Qc1(t:Tb)(j:Nat):(t.at j).oneCell'=true:=by unfold Tb.at;split;rfl;exact Qc0 _ _
theorem Qc2(c:Cl)(j:Nat):(c.at j).oneCell'=true:=by unfold Cl.at;split;rfl;exact Qc1 _ _
theorem Qc3(a:Ag)(j:Nat):(a.at j).oneCell'=true:=by unfold Ag.at;split;rfl;split;rfl;split;exact QcZ _ _;rfl
theorem QfS(m:Mb)(j:Nat):(m.at j).oneCell'=true:=by unfold Mb.at;split<;>rfl
theorem QfT(s:St)(j:Nat):(s.at j).oneCell'=true:=by
 unfold St.at;split;exact QfS _ _;split;exact QoT _ _;split;exact Qc1 _ _;split;rfl;split;rfl;split<;>rfl
theorem QmM(x:Wd)(j:Nat):(x.at j).oneCell'=true:=by
 unfold Wd.at;split;rfl;split;rfl;split;exact QfT _ _;split;exact Qc2 _ _;split;exact Qc3 _ _;split;rfl;split<;>rfl
@[go_sem] theorem Qsf{x}:QK (mdv x):=Zw _ _ fun _=>QcZ _ _
@[go_sem] theorem QzC{x}:QK (mdL x):=Zw _ _ fun _=>QcZ _ _
@[go_sem] theorem QzD{x}:QK (env x):=Zw _ _ fun _=>Qc0 _ _
@[go_sem] theorem QzE{x}:QK (enL x):=Zw _ _ fun _=>Qc0 _ _
@[go_sem] theorem QzF{x}:QK (tbv x):=Zw _ _ fun _=>Qc1 _ _
@[go_sem] theorem QzG{x}:QK (clv x):=Zw _ _ fun _=>Qc2 _ _
@[go_sem] theorem QzH{x}:QK (clL x):=Zw _ _ fun _=>Qc2 _ _
@[go_sem] theorem Zr{x}:QK (agv x):=Zw _ _ fun _=>Qc3 _ _
@[go_sem] theorem QzI{x}:QK (agL x):=Zw _ _ fun _=>Qc3 _ _
@[go_sem] theorem QzJ{x}:QK (mbv x):=Zw _ _ fun _=>QfS _ _
@[go_sem] theorem QzK{x}:QK (stv x):=Zw _ _ fun _=>QfT _ _
@[go_sem] theorem QzL{x}:QK (wdv x):=Zw _ _ fun _=>QmM _ _
@[go_sem] theorem Qt3{x}:QB (mdL x) 0 64=mdL x:=Q9 _ _ (Qeq)
@[go_sem] theorem Qt4{x}:QB (enL x) 0 64=enL x:=Q9 _ _ (Qer)
@[go_sem] theorem Qt5{x}:QB (tbv x) 0 65=tbv x:=Q9 _ _ (Qes)
@[go_sem] theorem Qt6{x}:QB (clv x) 0 66=clv x:=Q9 _ _ (Qet)
@[go_sem] theorem Qt7{x}:QB (clL x) 0 198=clL x:=Q9 _ _ (Qeu)
@[go_sem] theorem QdJ{x}:QB (agv x) 0 67=agv x:=Q9 _ _ (Qg)
@[go_sem] theorem Qt8{x}:QB (agL x) 0 402=agL x:=Q9 _ _ (Qev)
@[go_sem] theorem Qt9{x}:QB (mbv x) 0 9=mbv x:=Q9 _ _ (Qew)
@[go_sem] theorem Qua{x}:QB (stv x) 0 191=stv x:=Q9 _ _ (Qex)
@[go_sem] theorem Qub{x}:QB (wdv x) 0 814=wdv x:=Q9 _ _ (Qey)
@[go_sem] theorem Qvg{x}:QB (lm x) 0 96=lm x:=Q9 _ _ (QgI _)
@[go_sem] theorem QwI(x:Wd):QB (wdv x) 2 191=stv x.st:=by
 unfold wdv stv;rw [Q5 _ _ _ _ Om];refine QH _ _ _ fun j hj=> ?_;unfold Wd.at;rw [if_neg Om,if_neg Om,if_pos Om,show 2+j- 2=j by omega]
@[go_sem] theorem QwJ(x:Wd):QB (wdv x) 2 9=mbv x.st.mb:=by
 unfold wdv mbv;rw [Q5 _ _ _ _ Om];refine QH _ _ _ fun j hj=> ?_;unfold Wd.at;rw [if_neg Om,if_neg Om,if_pos Om,show 2+j- 2=j by omega];unfold St.at;rw [if_pos hj]
@[go_sem] theorem QwK(x:Wd):QB (wdv x) 11 96=lm x.st.mv:=by
 unfold wdv lm;rw [Q5 _ _ _ _ Om];refine QH _ _ _ fun j hj=> ?_;unfold Wd.at;rw [if_neg Om,if_neg Om,if_pos Om,show 11+j- 2=j+9 by omega];unfold St.at;rw [if_neg Om,if_pos Om,show j+9- 9=j by omega]
@[go_sem] theorem Qvh(x:Wd):QB (wdv x) 193 198=clL x.cl:=by
 unfold wdv clL;rw [Q5 _ _ _ _ Om];refine QH _ _ _ fun j hj=> ?_;unfold Wd.at;rw [if_neg Om,if_neg Om,if_neg Om,if_pos Om,show 193+j- 193=j by omega]
@[go_sem] theorem QwL(x:Wd)(i:Nat)(hi:i<3):QB (wdv x) (193+i*66) 66=clv (x.cl i):=by
 unfold wdv clv;rw [Q5 _ _ _ _ Om];refine QH _ _ _ fun j hj=> ?_;unfold Wd.at;rw [if_neg Om,if_neg Om,if_neg Om,if_pos Om,show(193+i*66+j- 193)/66=i by omega,show(193+i*66+j- 193) % 66=j by omega]
@[go_sem] theorem Qvi(x:Wd):QB (wdv x) 391 402=agL x.ag:=by
 unfold wdv agL;rw [Q5 _ _ _ _ Om];refine QH _ _ _ fun j hj=> ?_;unfold Wd.at;rw [if_neg Om,if_neg Om,if_neg Om,if_neg Om,if_pos Om,show 391+j- 391=j by omega]
@[go_sem] theorem QwM(x:Wd)(i:Nat)(hi:i<6):QB (wdv x) (391+i*67) 67=agv (x.ag i):=by
 unfold wdv agv;rw [Q5 _ _ _ _ Om];refine QH _ _ _ fun j hj=> ?_;unfold Wd.at;rw [if_neg Om,if_neg Om,if_neg Om,if_neg Om,if_pos Om,show(391+i*67+j- 391)/67=i by omega,show(391+i*67+j- 391) % 67=j by omega]
@[go_sem] theorem QwN(s:St):QB (stv s) 0 9=mbv s.mb:=by
 unfold stv mbv;rw [Q5 _ _ _ _ Om];refine QH _ _ _ fun j hj=> ?_;unfold St.at;rw [Nat.zero_add,if_pos hj]
@[go_sem] theorem QwO(s:St):QB (stv s) 9 96=lm s.mv:=by
 unfold stv lm;rw [Q5 _ _ _ _ Om];refine QH _ _ _ fun j hj=> ?_;unfold St.at;rw [if_neg Om,if_pos Om,show 9+j- 9=j by omega]
@[go_sem] theorem Qx1(s:St):QB (stv s) 105 65=tbv s.t:=by
 unfold stv tbv;rw [Q5 _ _ _ _ Om];refine QH _ _ _ fun j hj=> ?_;unfold St.at;rw [if_neg Om,if_neg Om,if_pos Om,show 105+j- 105=j by omega]
@[go_sem] theorem Quc(t:Tb):QB (tbv t) 1 64=enL t.rows:=by
 unfold tbv enL;rw [Q5 _ _ _ _ Om];refine QH _ _ _ fun j hj=> ?_;unfold Tb.at;rw [if_neg Om,show 1+j- 1=j by omega]
@[go_sem] theorem Qx2(c:Cl):QB (clv c) 1 65=tbv c.t:=by
 unfold clv tbv;rw [Q5 _ _ _ _ Om];refine QH _ _ _ fun j hj=> ?_;unfold Cl.at;rw [if_neg Om,show 1+j- 1=j by omega]
@[go_sem] theorem Qvj(l:Nat→Ag)(i:Nat)(hi:i<6):QB (agL l) (i*67) 67=agv (l i):=by
 unfold agL agv;rw [Q5 _ _ _ _ Om];refine QH _ _ _ fun j hj=> ?_;rw [show(i*67+j)/67=i by omega,show(i*67+j) % 67=j by omega]
@[go_sem] theorem Qvk(l:Nat→Cl)(i:Nat)(hi:i<3):QB (clL l) (i*66) 66=clv (l i):=by
 unfold clL clv;rw [Q5 _ _ _ _ Om];refine QH _ _ _ fun j hj=> ?_;rw [show(i*66+j)/66=i by omega,show(i*66+j) % 66=j by omega]
@[go_sem] theorem Qvl(a:Ag):QB (agv a) 2 64=mdL a.md:=by
 unfold agv mdL;rw [Q5 _ _ _ _ Om];refine QH _ _ _ fun j hj=> ?_;unfold Ag.at;rw [if_neg Om,if_neg Om,if_pos Om,show 2+j- 2=j by omega]
@[go_sem] theorem QwP(a:Ag)(k:Nat)(hk:k<16):QB (agv a) (2+k*4) 4=mdv (a.md k):=by
 unfold agv mdv;rw [Q5 _ _ _ _ Om];refine QH _ _ _ fun j hj=> ?_;unfold Ag.at;rw [if_neg Om,if_neg Om,if_pos Om,show(2+k*4+j- 2)/4=k by omega,show(2+k*4+j- 2) % 4=j by omega]
@[go_sem] theorem QwQ(x:Wd)(i k:Nat)(hi:i<6)(hk:k<16):QB (wdv x) (391+i*67+2+k*4) 4=mdv ((x.ag i).md k):=by
 unfold wdv mdv;rw [Q5 _ _ _ _ Om];refine QH _ _ _ fun j hj=> ?_;unfold Wd.at;rw [if_neg Om,if_neg Om,if_neg Om,if_neg Om,if_pos Om,show(391+i*67+2+k*4+j- 391)/67=i by omega,show(391+i*67+2+k*4+j- 391) % 67=2+k*4+j by omega];unfold Ag.at;rw [if_neg Om,if_neg Om,if_pos Om,show(2+k*4+j- 2)/4=k by omega,show(2+k*4+j- 2) % 4=j by omega]
@[go_sem] theorem Qlw(m:Md):(mdv m)[0]?=some (.int .u8 m.kind):=by
 unfold mdv;rw [QM,if_pos Om];simp [Md.at,En.at,Ag.at]
@[go_sem] theorem Qsg(m:Md):(mdv m)[1]?=some (.int .i64 m.peer):=by
 unfold mdv;rw [QM,if_pos Om];simp [Md.at,En.at,Ag.at]
@[go_sem] theorem QzM(m:Md):(mdv m)[2]?=some (.int .i64 m.gen):=by
 unfold mdv;rw [QM,if_pos Om];simp [Md.at,En.at,Ag.at]
@[go_sem] theorem Qlx(m:Md):(mdv m)[3]?=some (.bool m.ret):=by
 unfold mdv;rw [QM,if_pos Om];simp [Md.at,En.at,Ag.at]
@[go_sem] theorem QzN(e:En):(env e)[0]?=some (.int .i64 e.cur):=by
 unfold env;rw [QM,if_pos Om];simp [Md.at,En.at,Ag.at]
@[go_sem] theorem QzO(e:En):(env e)[1]?=some (.int .i64 e.prev):=by
 unfold env;rw [QM,if_pos Om];simp [Md.at,En.at,Ag.at]
@[go_sem] theorem QzP(e:En):(env e)[2]?=some (.int .i64 e.gen):=by
 unfold env;rw [QM,if_pos Om];simp [Md.at,En.at,Ag.at]
@[go_sem] theorem QzQ(e:En):(env e)[3]?=some (.int .i64 e.tick):=by
 unfold env;rw [QM,if_pos Om];simp [Md.at,En.at,Ag.at]
@[go_sem] theorem Jw(a:Ag):(agv a)[0]?=some (.int .i64 a.id):=by
 unfold agv;rw [QM,if_pos Om];simp [Md.at,En.at,Ag.at]
@[go_sem] theorem Jb(a:Ag):(agv a)[1]?=some (.int .i64 a.idle):=by
 unfold agv;rw [QM,if_pos Om];simp [Md.at,En.at,Ag.at]
@[go_sem] theorem Qu(a:Ag):(agv a)[66]?=some (.slice a.p a.xs.length a.c):=by
 unfold agv;rw [QM,if_pos Om];simp [Md.at,En.at,Ag.at]
def c16(n:Int):Int:=if n=0 then 0 else(n- 1) % 65535+1
theorem QjA{n:Int}:0≤c16 n∧c16 n<65536:=by unfold c16;split<;>omega
theorem QfU{n:Int}(h0:0≤n)(h:n<65536):c16 n=n:=by unfold c16;split<;>omega
theorem Qh2{n:Int}(h:65536≤n):c16 (n % 65536+n/65536)=c16 n:=by
 unfold c16;rw [if_neg Om,if_neg Om];omega
theorem Qly{n:Int}(h0:0≤n)(h1:n<18446744073709551616):bits BinOp.and IntKind.u64 n 65535=n % 65536:=by
 obtain⟨a,rfl⟩:=Int.eq_ofNat_of_zero_le h0;rw [show(65535:Int)=((65535:Nat):Int)from rfl,Qcr _ _ _ (by show a<2^64;omega) (by show 65535<2^64;omega),QaQ,show(65535:Nat)=2^16- 1 from rfl,Nat.and_two_pow_sub_one_eq_mod];omega
def QaT(l:List Int):Int:=l.foldl (· + ·) 0
theorem Qc4(l:List Int)(i:Nat)(x:Int)(h:l[i]?=some x):QaT (l.take (i+1))=QaT (l.take i)+x:=by
 unfold QaT;rw [List.take_add_one,h,List.foldl_append];rfl
theorem J3: ∀(bs:List Int),ByR bs→ ∀x∈Zb bs,0≤x∧x<65536
 | [],_,x,h=>by cases h
 | [a],hr,x,h=>by
  have:=hr a (by simp);simp [Zb]at h;omega
 |a::b::r,hr,x,h=>by
  rw [Qam]at h;rcases List.mem_cons.1 h with rfl|h
  ·have:=hr a (by simp);have:=hr b (by simp);omega
  ·exact J3 r (fun y hy=>hr y (by simp [hy])) x h
theorem Qd2(l:List Int)(h: ∀x∈l,0≤x∧x<65536): ∀i,0≤QaT (l.take i)∧QaT (l.take i)≤65535*i
 |0=>by simp [QaT]
 |i+1=>by
  have b:=Qd2 l h i
  cases a:l[i]? with
  |none=>
   have:l.take (i+1)=l.take i:=by rw [List.take_add_one,a];simp
   rw [this];omega
  |some x=>
   have c:=h x (List.mem_of_getElem? a);rw [Qc4 l i x a];omega
def Qb4(bs:List Int):Int:=c16 (QaT (Zb bs))
theorem QgJ(bs:List Int):0≤Qb4 bs∧Qb4 bs<65536:=QjA
theorem Qh3(n:Int)(w:World)(h0:0≤n)(h1:n≤4294967295000):Calls Tryz.prog 252 #[.int .u64 n] w fun e w'=>e= .returned (.int .u16 (c16 n))∧w=w':=by
 go_enter Tryz.func252,Tryz.ntmps252
 go_wp2;refine wp_scope_jumps 0 (fun a w'=>w'=w∧ ∃(m:Int) (d f g h i j k l:Value),a={tmps:=#[.int .u64 m,undef,.int .u16 0,d,f,g,h,i,j,k,l,undef,undef],defers:= []}∧0≤m∧m≤4294967295000∧Hid (c16 m=c16 n)) (fun a _=>(intOf (a.tmps.getD 0 undef)).toNat) rfl ?_ ?_
 ·go_wp2;go_step3;rcases Int.lt_or_le n 65536 with hlt|hge
  ·have b:n/65536=0:=by omega
   have c:IntKind.u16.wrap n=n:=by rw [Q4];omega
   go_wp2;simp only [Exit.jump];go_ret;exact⟨by rw [show c16 n=n from by exact QfU h0 hlt];rfl,rfl⟩
  ·have b: ¬n/65536=0:=by omega
   have c:bits BinOp.and IntKind.u64 n 65535=n % 65536:=Qly h0 Om;have p:IntKind.u64.wrap (n % 65536+n/65536)=n % 65536+n/65536:=by rw [QaQ];omega
   go_wp2;go_step3;exact⟨rfl,rfl,_,_,_,_,_,_,_,_,_,rfl,Om,Om,Xh (by rw [Qh2 Om])⟩
 ·rintro a w' ⟨rfl,m,d,f,g,h,i,j,k,l,rfl,h0,h1,o⟩;rcases Int.lt_or_le m 65536 with hlt|hge
  ·have b:m/65536=0:=by omega
   have c:IntKind.u16.wrap m=m:=by rw [Q4];omega
   go_wp2;simp only [Exit.jump];go_ret;exact⟨by rw [show c16 n=m from by rw [←o.out];exact QfU h0 hlt];rfl,rfl⟩
  ·have b: ¬m/65536=0:=by omega
   have c:bits BinOp.and IntKind.u64 m 65535=m % 65536:=Qly h0 Om;have p:IntKind.u64.wrap (m % 65536+m/65536)=m % 65536+m/65536:=by rw [QaQ];omega
   go_wp2;go_step3;exact⟨rfl,⟨rfl,_,_,_,_,_,_,_,_,_,rfl,Om,Om,Xh (by rw [Qh2 Om];exact o.out)⟩,by simp [intOf];omega⟩
theorem QoU(bs:List Int)(p:Option Addr)(c:Nat)(w:World)(hb:SlB w p bs)(hr:ByR bs)(hl:bs.length≤100000)(hlc:bs.length≤c):
  Cr 233 #[.slice p bs.length c] w (.int .u16 (Qb4 bs)):=by
 have q:=Xh hr;have G:=Xh hb;clear hr hb;refine(callsIn_wide (n:=5)).1 ?_;refine callsIn_of_wp_marks Tryz.func233 rfl trivial ?_ rfl;simp only [Tryz.ntmps233,List.size_toArray,List.length_cons,List.length_nil,Nat.reduceAdd,Nat.reduceSub,Array.replicate_succ,Array.replicate_zero,List.push_toArray,List.append_toArray,List.nil_append,List.cons_append];refine wpIn_wide.2 ?_
 go_wp2_with (go_at_call 251;(refine(QmJ p bs.length c _).mono ?_);rintro e Y ⟨rfl,rfl⟩)
 obtain⟨a,b⟩: ∃a,((w.alloc (Obj.cells #[.int .u64 0] 279)).alloc (Obj.cells #[.slice p bs.length c] 28))=a:=⟨_,rfl⟩;have s:Ext w a:=by rw [←b];exact Ext.al Ea _
 have H:a.heap.size=w.heap.size+2:=by rw [←b];simp
 have I:a.cell? ⟨w.heap.size,0,none⟩=some (.int .u64 0):=by rw [←b];simp [go_sem]
 have J:Qs a w.heap.size=(0,0):=by rw [←b];simp [go_sem]
 have L:a.cell? ⟨w.heap.size+1,0,none⟩=some (.slice p bs.length c):=by rw [←b];simp [go_sem]
 have M:Qs a (w.heap.size+1)=(0,0):=by rw [←b];simp [go_sem]
 rw [b];clear b;refine(wpIn_wide (n:=5)).1 ?_;refine ZI rfl Om (gf:=257) (lb:=#[.pointer (some ⟨w.heap.size+1,0,none⟩)]) rfl trivial QgH
  (Qjz _ bs p c w a (w.heap.size+1) (fun k=>k=w.heap.size) s G.out q.out hl hlc L M (by unfold Lt;omega) Om (fun k e=>by subst e;exact⟨Nat.le_refl _,Om⟩))
  (fun k e=>by omega) (fun k e=>by omega) (fun _=>rfl)
  (fun i W=>W.cell? ⟨w.heap.size,0,none⟩=some (.int .u64 (QaT ((Zb bs).take i)))∧Qs W w.heap.size=(0,0)∧Lt w.heap.size W) (fun _ _=>False)
  (fun i A B h hm=>by
   obtain⟨f,g,j⟩:=h;have u:=hm.same w.heap.size j Om
   exact⟨by rw [Qa,Qf u,←Qa];exact f,by unfold Qs at g⊢;rw [u];exact g,Xl j hm.size⟩)
  (fun _ _ _ h _=>h) ⟨I,J,by unfold Lt;omega⟩
  (fun x t W=>t={tmps:=#[.slice p bs.length c,undef,.int .u16 0,.pointer (some ⟨w.heap.size,0,none⟩),.int .u16 x,.slice p bs.length c,.func (.func 257) #[] #[.pointer (some ⟨w.heap.size+1,0,none⟩)],.int .u16 x,undef,undef,undef,undef,undef,undef],defers:= []})
  (fun x t A B h _=>h) ?assign ?body ?done ?stop
 case assign=>
  rintro y i x W K Q l R m r
  gi_wp2
  exact r _ _ (Mv.refl _ _) R rfl
 case body=>
  rintro y i x t W T ⟨Z,hr⟩ Q l ⟨f,g,j⟩ m rfl;have v:=Xh (Qc4 _ i x m);have d:=(Qd2 _ (J3 bs q.out) i);have N:=J3 bs q.out x (List.mem_of_getElem? m);have z:i<(Zb bs).length:=(List.getElem?_eq_some_iff.1 m).1;rw [Ys]at z;obtain⟨S,o⟩: ∃S,QaT ((Zb bs).take i)=S:=⟨_,rfl⟩;rw [o]at f d v;have U:IntKind.u64.wrap x=x:=by rw [QaQ];omega
  have V:IntKind.u64.wrap (S+x)=S+x:=by rw [QaQ];omega
  have X:=Ql g 0;clear o hr m l T d N z
  gi_wp2
  exact⟨Mv.st _ (.inl (.inl rfl)) (Mv.refl _ _),by rw [v.out];exact World.cell?_setCell_same _ _ _ f,by rw [QR];exact g,by rw [Zk];exact j⟩
 case done=>
  rintro W ⟨f,g,j⟩ l r;rw [List.take_length]at f;have d:=(Qd2 _ (J3 bs q.out) (Zb bs).length);rw [List.take_length,Ys]at d;have D:=Xh (show Qb4 bs=c16 (QaT (Zb bs))from rfl);obtain⟨S,o⟩: ∃S,QaT (Zb bs)=S:=⟨_,rfl⟩;rw [o]at f d D;have E:Ext w W:=Mv.ext_of s l (fun k h=>by rcases h with h|h<;>omega);have F:=Xh r;have O:=Xh E;have P:=Xh (fun W=>Qh3 S W d.1 Om);clear o d l r E s
  go_wp2_with (go_at_call 252;(refine(P.out _).mono ?_);rintro e w3 ⟨rfl,rfl⟩)
  refine⟨by simp,.inl ⟨_,_,rfl,run_takeDeferred (by rw [H]at F;exact F.out),?_⟩⟩;refine⟨_,results_tmp rfl _ _ _,by rw [D.out];rfl,?_⟩;exact Mv.ext_of O.out (Mv.put (C:=fun k=>k=w.heap.size+2) _ _ _ rfl) (fun k h=>by omega)
 case stop=>intro _ _ h;exact h.elim
theorem Qx3{S:Int}(h0:0≤S)(h1:S<65536):bits BinOp.xor IntKind.u16 IntKind.u16.max S=65535- S:=by
 obtain⟨a,rfl⟩:=Int.eq_ofNat_of_zero_le h0;show IntKind.u16.wrap ((BitVec.ofInt 16 65535^^^ BitVec.ofInt 16 (a:Int)).toNat:Int)=_;rw [show BitVec.ofInt 16 65535=BitVec.allOnes 16 by decide,BitVec.allOnes_xor,BitVec.toNat_not,ZH _ _ Om,Q4];omega
def Z5(bs:List Int):Int:=65535- Qb4 bs
theorem Qlz(bs:List Int):0≤Z5 bs∧Z5 bs<65536:=by have:=QgJ bs;unfold Z5;omega
theorem Qc5(bs:List Int)(p:Option Addr)(c:Nat)(w:World)(hb:SlB w p bs)(hr:ByR bs)(hl:bs.length≤100000)(hlc:bs.length≤c):
  Cr 211 #[.slice p bs.length c] w (.int .u16 (Z5 bs)):=by
 have b:=Xh (QoU bs p c w hb hr hl hlc);have a:=QgJ bs;have d:=Xh (show Z5 bs=65535- Qb4 bs from rfl);obtain⟨S,f⟩: ∃S,Qb4 bs=S:=⟨_,rfl⟩;rw [f]at b a d;clear f hb hr hl hlc
 go_enter Tryz.func211,Tryz.ntmps211
 go_wp2_with (go_at_call 233;(refine(b.out).mono ?_);rintro e h ⟨rfl,g⟩)
 go_ret;exact⟨congrArg (fun x=>Ending.returned (Value.int .u16 x)) ((Qx3 a.1 a.2).trans d.out.symm),g⟩
theorem QjB(bs:List Int)(p:Option Addr)(c:Nat)(w:World)(hb:SlB w p bs)(hr:ByR bs)(hl:bs.length≤100000)(hlc:bs.length≤c):
  Cr 174 #[.slice p bs.length c] w (.bool (Qb4 bs==65535)):=by
 have a:=Xh (Qc5 bs p c w hb hr hl hlc);have b:=Xh (show(Z5 bs==0)=(Qb4 bs==65535)by unfold Z5;rw [Bool.eq_iff_iff];simp;omega);clear hb hr hl hlc
 go_enter Tryz.func174,Tryz.ntmps174
 go_wp2_with (go_at_call 211;(refine(a.out).mono ?_);rintro e f ⟨rfl,d⟩)
 go_ret;exact⟨Qm b.out,d⟩
theorem QdG{P:Program}{ops:Array Oper}{C:World→Prop}{Q:Act→Prop}{o:Oper}{rest:List Oper}{v:Value}(hw:Region.wanted o (yielded ops a.tmps)=true)(hr: ∀w,(execOp a.eval o).run P w= .ok (.value v) w)(h:wpQuiet P ops C Q rest (a.put o.dst v)):wpQuiet P ops C Q (o::rest) a:=by
 unfold wpQuiet;rw [if_pos hw];exact⟨v,fun w hc=>by unfold Oper.quietAt;rw [hr];exact⟨rfl,rfl⟩,h⟩
theorem SlC.news{a:Addr}{xs:List Co}(hs:SlC w (some a) xs)(e:Ext w W): ∀j u,(flC xs)[j]?=some u→W.cell? (a.add j)=some u:=by
 intro j u f;have s:j<xs.length*6:=by have:=(List.getElem?_eq_some_iff.1 f).1;rwa [Q8]at this
 have c:j/6<xs.length:=by omega
 obtain⟨b,g,h,y,k,l,m,n,o,p⟩:=(hs.ext e) (j/6) c
 cases h
 have e:(⟨b,g,none⟩:Addr).add j=⟨b,g+j,none⟩:=by unfold Addr.add;split<;>simp_all
 have d:=Qbk xs (j/6) (j % 6) c (Nat.mod_lt _ Om);rw [show j/6*6+j % 6=j by omega]at d;rw [e,←f,d];have t:j % 6<6:=Nat.mod_lt _ Om;generalize v:j/6=q at*;generalize x:j % 6=r at*;have i:j=q*6+r:=by omega
 subst i;obtain rfl|rfl|rfl|rfl|rfl|rfl:r=0∨r=1∨r=2∨r=3∨r=4∨r=5:=by omega
 ·exact k
 ·exact l
 ·exact m
 ·exact n
 ·exact o
 ·exact p
theorem SlC.nil_of{xs:List Co}(hs:SlC w none xs):xs= []:=by
 cases xs with
 |nil=>rfl
 |cons m r=>obtain⟨b,a,h,_⟩:=hs 0 (by simp);cases h
theorem QxD{x y:Co}(h:x≠y){p:Operand}(hx:ρ p= .agg #[.int .u32 x.t.a,.int .u32 x.t.b,.int .u16 x.t.c,.int .u16 x.t.d,.int .i64 x.s,.int .i64 x.l])(hy:ρ q= .agg #[.int .u32 y.t.a,.int .u32 y.t.b,.int .u16 y.t.c,.int .u16 y.t.d,.int .i64 y.s,.int .i64 y.l])(w:World):
  (execOp ρ ⟨dst,.binOp .neq 66 p q 66,ty,pos,after,g⟩).run Tryz.prog w= .ok (.value (.bool true)) w:=by
 simp only [execOp,hx,hy];go_simp;intro e f i j k m
 apply h
 rcases x with⟨⟨_,_,_,_⟩,_,_⟩
 rcases y with⟨⟨_,_,_,_⟩,_,_⟩
 simp_all
theorem SlB.news{a:Addr}(hs:SlB w (some a) bs)(e:Ext w W): ∀j u,(bs.map (Value.int .u8))[j]?=some u→W.cell? (a.add j)=some u:=by
 intro j u c;rw [List.getElem?_map]at c;obtain⟨x,f,rfl⟩:=Option.map_eq_some_iff.1 c;obtain⟨g,rfl⟩:=List.getElem?_eq_some_iff.1 f;obtain⟨b,d,h,k,i⟩:=(hs.ext e) j g
 cases h
 have e:(⟨b,d,none⟩:Addr).add j=⟨b,d+j,none⟩:=by unfold Addr.add;split<;>simp_all
 rw [e];exact i
theorem SlB.nil_of(hs:SlB w none bs):bs= []:=by
 cases bs with
 |nil=>rfl
 |cons m r=>obtain⟨b,a,h,_⟩:=hs 0 (by simp);cases h
theorem SlB.nil(w:World)(p:Option Addr):SlB w p []:=fun k hk=>absurd hk (Nat.not_lt_zero _)
theorem oneB(bs:List Int): ∀u∈bs.map (Value.int .u8),u.oneCell'=true:=fun u hu=>by obtain⟨z,-,rfl⟩:=List.mem_map.1 hu;rfl
theorem OB.slb{v:Value}(h:OB w base v bs): ∃p c,v= .slice p bs.length c∧bs.length≤c∧SlB w p bs:=by
 rcases Nat.eq_zero_or_pos bs.length with h0|h0
 ·have:bs= []:=List.length_eq_zero_iff.1 h0;subst this;rcases h.2 with⟨rfl,-⟩|⟨g,cap,cur,rfl,-⟩
  ·exact⟨none,0,rfl,Nat.le_refl _,SlB.nil _ _⟩
  ·exact⟨_,cap,rfl,Nat.zero_le _,SlB.nil _ _⟩
 ·rcases h.2 with⟨rfl,h1⟩|⟨g,cap,cur,rfl,hg,hgb,h1,h2,h3,h4⟩
  ·exact⟨none,0,by rw [h1],Om,fun k hk=>by omega⟩
  ·refine⟨_,cap,rfl,h1,fun k hk=>⟨g,0,rfl,(Array.getElem?_eq_some_iff.1 hgb).1,?_⟩⟩;have a:(List.take (bs.length*1) cur.toList)[k]?=(bs.map (Value.int .u8))[k]?:=by rw [h4]
   rw [List.getElem?_take,if_pos Om,Array.getElem?_toList,List.getElem?_map,List.getElem?_eq_getElem hk]at a;simp only [World.cell?,hgb,Nat.zero_add];exact a
theorem OB.new(w:World):OB (w.alloc (.cells #[] 5)) w.heap.size (.slice (some ⟨w.heap.size,0,none⟩) 0 0) []:=⟨rfl,.inr ⟨w.heap.size,0,#[],rfl,Nat.le_refl _,World.alloc_heap_new _ _,Nat.le_refl _,by unfold maxLen;omega,rfl,rfl⟩⟩
theorem OB.zero(w:World)(base:Nat):OB w base (.slice none 0 0) []:=World.ownsRow_nil _ _ _ _
structure Z8(w w':World)(v:Value)(bs:List Int):Prop where
 own:OB w' w.heap.size v bs
 ext:Ext w w'
theorem Z8.sl{v:Value}(h:Z8 w w' v bs): ∃p c,v= .slice p bs.length c∧bs.length≤c∧SlB w' p bs:=h.own.slb
theorem Qez(p:Option Addr)(bs:List Int)(c:Nat)(w:World)(hs:SlB w p bs)(hl:bs.length≤2000):
  Calls Tryz.prog 103 #[.slice p bs.length c] w fun e w'=> ∃v,e= .returned v∧Z8 w w' v bs:=by
 obtain⟨o,q,s,t,u⟩:=info_parts YB;have y:=fun(W:World) (a:Option Addr) (n c:Nat)=>Lib.run_eql_slice_nil (P:=Tryz.prog) W 28 5 a n c 0 0 Tryz.underlying28
 cases p with
 |none=>
  have f:bs= []:=hs.nil_of;subst f
  go_enter Tryz.func103,Tryz.ntmps103
  go_wp2;go_ret;exact⟨_,rfl,OB.zero _ _,Ext.rf _⟩
 |some a=>
  have g:=Xh (hs.news (Ext.al (Ext.rf w) (.cells #[] 5)));have i:=Xh (show World.ownsRow _ w.heap.size 5 1 (.slice (some ⟨w.heap.size,0,none⟩) 0 0) 0 []from OB.new w);clear hs
  go_enter Tryz.func103,Tryz.ntmps103
  go_wp2_with (at_builtin;refine wpList_append_own _ rfl _ _ 28 rfl w.heap.size 5 o (.int .u8 0) 1 1 Tryz.underlying28 q s t u rfl Dc _ _ _ rfl i.out a bs.length c (bs.map (Value.int .u8)) rfl (by simp) g.out (oneB _) (by unfold maxLen;omega) Om (by simp) ?_;intro x z b d _;have j:=Xh b;have l:=Xh d;clear b d)
  go_ret;refine⟨x,rfl,?_,?_⟩
  ·have:=j.out;rw [Nat.zero_add,List.nil_append]at this;exact this
  ·exact Mv.ext (C:=fun k=>k=w.heap.size) ((Mv.al _ (Mv.refl _ _)).trans (Mv.of_grown l.out fun r e=> .inl (by have m:some w.heap.size=some r:=e;injection m with h;exact h.symm))) (fun k hk e=>by omega)
theorem YD{g n c:Nat}(h:OB w base (.slice (some ⟨g,0,none⟩) n c) bs)(i:Nat)(v:Int)(hn:n=bs.length):OB (w.setCell ⟨g,i,none⟩ (.int .u8 v)) base (.slice (some ⟨g,0,none⟩) n c) (bs.set i v):=by
 subst hn;unfold OB at h⊢;rw [List.length_set,List.map_set];exact Qgs h i _
theorem OB.at{v:Value}(h:OB w base v bs)(hn:0<bs.length): ∃g c,v= .slice (some ⟨g,0,none⟩) bs.length c∧bs.length≤c∧base≤g∧g<w.heap.size∧Qs w g=(0,0)∧ ∀k (hk:k<bs.length),w.cell? ⟨g,k,none⟩=some (.int .u8 bs[k]):=by
 rcases h.2 with⟨rfl,h1⟩|⟨g,cap,cur,rfl,hg,hgb,h1,h2,h3,h4⟩
 ·omega
 ·refine⟨g,cap,rfl,h1,hg,(Array.getElem?_eq_some_iff.1 hgb).1,by unfold Qs;rw [hgb],fun k hk=> ?_⟩;have a:(List.take (bs.length*1) cur.toList)[k]?=(bs.map (Value.int .u8))[k]?:=by rw [h4]
  rw [List.getElem?_take,if_pos Om,Array.getElem?_toList,List.getElem?_map,List.getElem?_eq_getElem hk]at a;simp only [World.cell?,hgb];exact a
def QaU(bs:List Int):List Int:=(bs.set 10 0).set 11 0
theorem Qc6(bs:List Int):(QaU bs).length=bs.length:=by simp [QaU]
theorem Qsh(h:ByR bs):ByR (QaU bs):=(h.set 10 0 Om).set 11 0 Om
theorem Qsi{g q n:Nat}(h:OB w base (.slice (some ⟨g,0,none⟩) bs.length q) bs)(hr:ByR bs)(hl:bs.length≤2000)(hn:n=bs.length)(hq:n≤q):
  Cr 211 #[.slice (some ⟨g,0,none⟩) n q] w (.int .u16 (Z5 bs)):=by
 subst hn;obtain⟨p,c,e,-,a⟩:=h.slb
 cases e
 exact Qc5 bs _ q w a hr Om hq
theorem Qh4(p:Option Addr)(bs:List Int)(c:Nat)(w:World)(hs:SlB w p bs)(hr:ByR bs)(hl:bs.length≤2000)(h12:12≤bs.length):
  Cr 167 #[.slice p bs.length c] w (.int .u16 (Z5 (QaU bs))):=by
 have m:=Xh hs;have o:=Xh hr;clear hs hr
 go_enter Tryz.func167,Tryz.ntmps167
 go_upto_region 2 with(go_at_call 103;(refine(Qez p bs c _ m.out hl).mono ?_);rintro e E ⟨v,rfl,⟨a,j⟩⟩)
 obtain⟨g,q,rfl,F,l,K,b,d⟩:=a.at Om;have s:=d 10 Om;have t:=d 11 Om;have u:=Ql b 10;have x:=Ql b 11;have y:=Xh a;have H:(10:Int)≤bs.length:=by omega
 have I:(bs.length:Int)≤q:=by omega
 have J: ¬q=10:=by omega
 have z:2≤bs.length- 10:=by omega
 clear d a b;have A:=Xh j;have B:=Xh l;clear j l
 go_wp2_with (first|(go_at_call 210;(with_reducible refine(Qlt _ s t u x z).mono ?_);rintro e f ⟨⟨r,rfl⟩,i⟩;have C:=Xh (show OB f w.heap.size (.slice (some ⟨g,0,none⟩) (QaU bs).length q) (QaU bs)by rw [i,Qc6];exact YD (YD y.out 10 0 rfl) 11 0 (by simp));have D:=Xh (show Ext w f from Mv.ext_of A.out (show Mv (fun k=>k=g) E f by rw [i];exact Mv.st _ (.inl rfl) (Mv.st _ (.inl rfl) (Mv.refl _ _))) (fun k h=>by rw [h];exact B.out));clear i)|(go_at_call 211;(with_reducible refine(Qsi (bs:=QaU bs) (n:=bs.length) C.out (Qsh o.out) (by rw [Qc6];omega) (by rw [Qc6]) F).mono ?_);rintro e L ⟨rfl,G⟩))
 go_ret;exact⟨rfl,D.out.tr G⟩
theorem Qan{P:Program}{ops:Array Oper}{w1:World}(hm:m|||(1<<<k)=m')(hi:ops[k]?=some oi)(hw:Region.wanted oi (yielded ops a.tmps)=true)
  (he:(execOp a.eval oi).run P w= .ok .skip w1)(hE:Mv C w w1)(H:QN C P .any ops Q fuel (msk N m') (a.put oi.dst undef) w1):Qlr C P ops Q fuel N k m a w:=by
 refine⟨?_⟩;unfold Jj;simp only [hi,hw,if_true,he,hm];exact⟨hE,H⟩
def bt(bs:List Int)(k:Nat):Int:=bs.getD k 0
def w16(bs:List Int)(k:Nat):Int:=bt bs k*256+bt bs (k+1)
theorem QaI(h:ByR bs)(k:Nat):0≤bt bs k∧bt bs k<256:=by
 unfold bt;rw [List.getD_eq_getElem?_getD]
 by_cases a:k<bs.length
 ·rw [List.getElem?_eq_getElem a];exact h.get k a
 ·rw [List.getElem?_eq_none Om];decide
theorem Z2(h:ByR bs)(k:Nat):0≤w16 bs k∧w16 bs k<65536:=by
 have:=QaI h k;have:=QaI h (k+1);unfold w16;omega
theorem SlB.bt{b:Nat}(hs:SlB w (some ⟨b,off,none⟩) bs)(k:Nat)(hk:k<bs.length):w.cell? ⟨b,off+k,none⟩=some (.int .u8 (bt bs k))∧Lt b w:=by
 obtain⟨d,e,h,a,c⟩:=hs k hk
 cases h
 unfold Go.Proofs.YtpeonbaodnmlnaaGreat.bt;rw [List.getD_eq_getElem?_getD,List.getElem?_eq_getElem hk];exact⟨c,a⟩
theorem wordx{b:Nat}(hs:SlB w (some ⟨b,off,none⟩) bs)(hr:ByR bs)(k n c:Nat)(hk:k+2≤bs.length)(hn:2≤n):
  Cr 166 #[.slice (some ⟨b,off+k,none⟩) n c] w (.int .u16 (w16 bs k)):=
 QoM w (hs.bt k Om).1 (hs.bt (k+1) Om).1 (hs.bt k Om).2 hn (QaI hr k) (QaI hr (k+1))
theorem QlA{b:Nat}(hs:SlB w (some ⟨b,off,none⟩) bs)(hr:ByR bs)(k n c:Nat)(hk:k+2≤bs.length)(hn:2≤n):
  Cr 176 #[.slice (some ⟨b,off+k,none⟩) n c] w (.int .u16 (w16 bs k)):=
 Qjx w (hs.bt k Om).1 (hs.bt (k+1) Om).1 (hs.bt k Om).2 hn (QaI hr k) (QaI hr (k+1))
theorem ZC{P:Program}{f:FuncId}{args:Array Value}{v:Value}(h:Calls P f args w fun e w'=>e= .returned v∧Ext w w'):Calls P f args w fun e w'=> ∃u,e= .returned u∧u=v∧Ext w w':=h.mono fun e w' ⟨h1,h2⟩=>⟨v,h1,rfl,h2⟩
theorem QlB{b:Nat}(hs:SlB w (some ⟨b,off,none⟩) bs)(k:Nat)(hk:k<bs.length)(hC: ¬C b)
  (hx:ρ q= .pointer (some ⟨b,off+k,none⟩)): ∀w',Mv C w w'→(execOp ρ ⟨dst,.load 5 q,ty,pos,after,g⟩).run Tryz.prog w'= .ok (.value (.int .u8 (bt bs k))) w':=by
 intro w' a;obtain⟨c,d⟩:=hs.bt k hk;have e:w'.cell? ⟨b,off+k,none⟩=some (.int .u8 (bt bs k)):=by rw [Qa,Qf (a.same b d hC),←Qa];exact c
 simp only [execOp,hx];go_simp
theorem JM{O c:Nat}(i:Nat)(hi:i<m)(hc:m≤c)
  (hx:ρ x= .slice (some ⟨B,O,none⟩) m c)(hy:ρ y= .int .i64 (i:Nat))(w:World):(execOp ρ ⟨dst,.slice 28 x (some y) none none,ty,pos,after,g⟩).run Tryz.prog w= .ok (.value (.slice (some ⟨B,O+i,none⟩) (m- i) (c- i))) w:=by
 have a:(i:Int)≤m:=by omega
 have b:(m:Int)≤c:=by omega
 have d: ¬c=i:=by omega
 simp only [execOp,hx,hy];go_simp
theorem Qbp{x:Int}(hx0:0≤x∧x<65536)(hx:ρ q= .int .u16 x)(w:World):
  (execOp ρ ⟨dst,.convert 62 61 q,ty,pos,after,g⟩).run Tryz.prog w= .ok (.value (.int .u32 x)) w:=by
 have e:IntKind.u32.wrap x=x:=by rw [YC];omega
 simp only [execOp,hx];go_simp
theorem QfV{x:Int}(hx0:0≤x∧x<65536)(hx:ρ q= .int .u32 x)(hy:ρ y= .int .u64 16)(w:World):
  (execOp ρ ⟨dst,.binOp .shl 61 q y 197,ty,pos,after,g⟩).run Tryz.prog w= .ok (.value (.int .u32 (x*65536))) w:=by
 have e:IntKind.u32.wrap (x*65536)=x*65536:=by rw [YC];omega
 simp only [execOp,hx,hy];go_simp
theorem Qvm{x y:Int}(h0:0≤x∧x<65536)(h1:0≤y∧y<65536):bits BinOp.or IntKind.u32 (x*65536) y=x*65536+y:=by
 obtain⟨a,rfl⟩:=Int.eq_ofNat_of_zero_le h0.1;obtain⟨b,rfl⟩:=Int.eq_ofNat_of_zero_le h1.1;rw [show(a:Int)*65536=((a*2^16:Nat):Int)by omega,QaP _ _ _ (by show a*2^16<2^32;omega) (by show b<2^32;omega),Qjw _ _ _ Om,YC];omega
theorem Qh5{x y:Int}(hx0:0≤x∧x<65536)(hy0:0≤y∧y<65536){r:Operand}(hx:ρ q= .int .u32 (x*65536))(hy:ρ r= .int .u32 y)(w:World):
  (execOp ρ ⟨dst,.binOp .or 61 q r 61,ty,pos,after,g⟩).run Tryz.prog w= .ok (.value (.int .u32 (x*65536+y))) w:=by
 have e:=Qvm hx0 hy0;simp only [execOp,hx,hy];go_simp
theorem QmN{v:Int}(h0:0≤v)(h1:v<65536):(bits BinOp.andNot IntKind.u16 v 16384==0)=(v==0||v==16384):=by
 obtain⟨a,rfl⟩:=Int.eq_ofNat_of_zero_le h0;have b:a<2^16:=by omega
 show(IntKind.u16.wrap ((BitVec.ofInt 16 (a:Int)&&& ~~~ BitVec.ofInt 16 16384).toNat:Int)==0)=_;rw [BitVec.toNat_and,ZH _ _ b,show(~~~ BitVec.ofInt 16 16384).toNat=49151 by decide,Q4];have l:a&&&49151≤a:=Nat.and_le_left;have e:(((a&&&49151:Nat):Int) % 65536)=((a&&&49151:Nat):Int):=by omega
 rw [e,Bool.eq_iff_iff];simp only [beq_iff_eq,Bool.or_eq_true];constructor
 ·intro h;have f:a&&&49151=0:=by omega
  have g: ∀i,i<16→i≠14→a.testBit i=false:=fun i c hn=>by
   have:=congrArg (fun x=>x.testBit i) f;simp only [Nat.testBit_and,Nat.zero_testBit]at this;have j:Nat.testBit 49151 i=true:=by
    obtain rfl|rfl|rfl|rfl|rfl|rfl|rfl|rfl|rfl|rfl|rfl|rfl|rfl|rfl|rfl:i=0∨i=1∨i=2∨i=3∨i=4∨i=5∨i=6∨i=7∨i=8∨i=9∨i=10∨i=11∨i=12∨i=13∨i=15:=by omega
    all_goals rfl
   rw [j,Bool.and_true]at this;exact this
  have k:a=if a.testBit 14 then 16384 else 0:=by
   refine Nat.eq_of_testBit_eq fun i=> ?_
   by_cases c:i<16
   ·by_cases d:i=14
    ·subst d
     cases a.testBit 14<;>rfl
    ·rw [g i c d]
     cases a.testBit 14
     ·simp
     ·rw [if_pos rfl,show(16384:Nat)=2^14 from rfl,Nat.testBit_two_pow];simp;omega
   ·rw [Nat.testBit_lt_two_pow (Xl b (Nat.pow_le_pow_right Om Om))]
    cases a.testBit 14
    ·simp
    ·rw [if_pos rfl,show(16384:Nat)=2^14 from rfl,Nat.testBit_two_pow];simp;omega
  split at k<;>omega
 ·rintro(h|h)
  ·obtain rfl:a=0:=by omega
   rfl
  ·obtain rfl:a=16384:=by omega
   rfl
theorem QgK{b:Nat}{v:Value}(h:Qc w b=cs):Qc (w.setCell ⟨b,i,none⟩ v) b=cs.setIfInBounds i v:=by rw [YA,if_pos rfl,h]
structure RowZ(W:World)(b:Nat)(cs:Array Value):Prop where
 r:Qc W b=cs
 z:Qs W b=(0,0)
 l:Lt b W
theorem RowZ.ext{V:World}{b:Nat}(h:RowZ W b cs)(e:Ext W V):RowZ V b cs:=⟨Zc e h.l h.r,by have:=h.z;unfold Qs at this⊢;rw [e.block b h.l];exact this,Xl h.l e.size⟩
theorem RowZ.set{b:Nat}(h:RowZ W b cs)(i:Nat)(v:Value):RowZ (W.setCell ⟨b,i,none⟩ v) b (cs.setIfInBounds i v):=⟨QgK h.r,by rw [QR];exact h.z,by rw [Zk];exact h.l⟩
theorem RowZ.all{b:Nat}(h:RowZ W b cs)(cs':Array Value)(hs:cs.size=cs'.size):RowZ (Qe W b 0 cs') b cs':=⟨Qq _ _ _ (by rw [h.r];exact hs),by rw [ZV];exact h.z,by rw [QaS];exact h.l⟩
theorem RowZ.cell{b:Nat}(h:RowZ W b cs)(i:Nat)(hi:i<cs.size):W.cell? ⟨b,i,none⟩=some cs[i]:=by rw [Qa,h.r,Array.getElem?_eq_getElem hi]
theorem RowZ.frz{b:Nat}(h:RowZ W b cs)(i:Nat):W.frozen? ⟨b,i,none⟩=false:=Ql h.z i
theorem RowZ.new(W:World)(cs:Array Value)(t:TypeId):RowZ (W.alloc (.cells cs t)) W.heap.size cs:=⟨Zn _ _ _ _,by simp [go_sem],by simp [go_sem]⟩
theorem RowZ.mv{B:World}{b:Nat}(h:RowZ A b cs)(m:Mv C A B)(hb: ¬C b):RowZ B b cs:=⟨by rw [Qf (m.same b h.l hb)];exact h.r,by have:=h.z;unfold Qs at this⊢;rw [m.same b h.l hb];exact this,Xl h.l m.size⟩
theorem Mv.sa{B:World}{b:Nat}(cs:Array Value)(hb:C b)(h:Mv C A B):Mv C A (Qe B b o cs):=Mv.sc hb _ _ _ _ h
theorem SlB.mv{B:World}{b:Nat}(h:SlB A (some ⟨b,off,none⟩) bs)(m:Mv C A B)(hb: ¬C b):SlB B (some ⟨b,off,none⟩) bs:=fun k hk=>by
 obtain⟨e,f,c,a,d⟩:=h k hk
 cases c
 exact⟨b,off,rfl,Xl a m.size,by rw [Qa,Qf (m.same b a hb),←Qa];exact d⟩
theorem SlB.mvn{B:World}{n:Nat}{p:Option Addr}(h:SlB A p bs)(m:Mv (fun k=>k=n) A B)(hb: ∀b off,p=some ⟨b,off,none⟩→b≠n):SlB B p bs:=fun k hk=>by
 obtain⟨b,off,a,c,d⟩:=h k hk;exact⟨b,off,a,Xl c m.size,by rw [Qa,Qf (m.same b c (hb b off a)),←Qa];exact d⟩
def OBn(w:World)(lo:Nat)(v:Value)(bs:List Int):Prop:= ∃base,lo<base∧OB w base v bs
theorem OBn.ext{lo:Nat}{v:Value}(h:OBn w lo v bs)(e:Ext w w'):OBn w' lo v bs:=by obtain⟨b,a,c⟩:=h;exact⟨b,a,c.ext e⟩
theorem OBn.mv{lo:Nat}{v:Value}(h:OBn w lo v bs)(m:Mv C w w')(hc: ∀k,C k→k≤lo):OBn w' lo v bs:=by
 obtain⟨b,a,d⟩:=h;exact⟨b,a,Qw d m fun k hk c=>by have:=hc k c;omega⟩
theorem OBn.ob{lo:Nat}{v:Value}(h:OBn w lo v bs):OB w lo v bs:=by obtain⟨b,c,a⟩:=h;exact a.le Om
theorem OBn.sl{lo:Nat}{v:Value}(h:OBn w lo v bs): ∃p c,v= .slice p bs.length c∧bs.length≤c∧SlB w p bs:=h.ob.slb
theorem QgL{p:Option Addr}{n c lo:Nat}(hs:SlB w p bs)(hl:bs.length≤2000)(hn:n=bs.length)(hlo:lo<w.heap.size):
  Calls Tryz.prog 103 #[.slice p n c] w fun e w'=> ∃v,e= .returned v∧OBn w' lo v bs∧Ext w w':=by
 subst hn;exact(Qez p bs c w hs hl).mono fun e w' ⟨v,h1,h2⟩=>⟨v,h1,⟨w.heap.size,hlo,h2.own⟩,h2.ext⟩
theorem SlB.take{p:Option Addr}(h:SlB w p bs)(n:Nat):SlB w p (bs.take n):=fun k hk=>by
 rw [List.length_take]at hk;obtain⟨b,a,c,d,e⟩:=h k Om;exact⟨b,a,c,d,by rw [List.getElem_take];exact e⟩
theorem SlB.drop{b:Nat}(h:SlB w (some ⟨b,off,none⟩) bs)(n:Nat):SlB w (some ⟨b,off+n,none⟩) (bs.drop n):=fun k hk=>by
 rw [List.length_drop]at hk;obtain⟨e,f,a,c,d⟩:=h (n+k) Om
 cases a
 exact⟨b,off+n,rfl,c,by rw [List.getElem_drop,Nat.add_assoc];exact d⟩
def ZF(b off c lo:Nat):Option Addr:=if c=lo then some ⟨b,off,none⟩else some ⟨b,off+lo,none⟩
theorem SlB.cut{b c:Nat}(h:SlB w (some ⟨b,off,none⟩) bs)(lo:Nat)(hc:bs.length≤c):SlB w (ZF b off c lo) (bs.drop lo):=by
 unfold ZF
 split
 ·rw [List.drop_eq_nil_of_le Om];exact SlB.nil _ _
 ·exact h.drop lo
theorem QoV{O c lo hi:Nat}(h1:lo≤hi)(h2:hi≤c)(ρ:Operand→Value)(dst:Option Tmp)(x y z:Operand)(ty:TypeId)(pos:String)(after:Array Edge)(g:Option (Nat×Bool))
  (hx:ρ x= .slice (some ⟨B,O,none⟩) m c)(hy:ρ y= .int .i64 (lo:Nat))(hz:ρ z= .int .i64 (hi:Nat))(w:World):(execOp ρ ⟨dst,.slice 28 x (some y) (some z) none,ty,pos,after,g⟩).run Tryz.prog w= .ok (.value (.slice (ZF B O c lo) (hi- lo) (c- lo))) w:=by
 have a:(lo:Int)≤hi:=by omega
 have b:(hi:Int)≤c:=by omega
 unfold ZF;simp only [execOp,hx,hy,hz];go_simp
theorem QaV{O c lo:Nat}(h1:lo≤m)(h2:m≤c)(ρ:Operand→Value)(dst:Option Tmp)(x y:Operand)(ty:TypeId)(pos:String)(after:Array Edge)(g:Option (Nat×Bool))
  (hx:ρ x= .slice (some ⟨B,O,none⟩) m c)(hy:ρ y= .int .i64 (lo:Nat))(w:World):(execOp ρ ⟨dst,.slice 28 x (some y) none none,ty,pos,after,g⟩).run Tryz.prog w= .ok (.value (.slice (ZF B O c lo) (m- lo) (c- lo))) w:=by
 have a:(lo:Int)≤m:=by omega
 have b:(m:Int)≤c:=by omega
 unfold ZF;simp only [execOp,hx,hy];go_simp
theorem Qh6{v:Int}{u:Value}(hc:w.cell? ⟨B,i,none⟩=some u)(hf:w.frozen? ⟨B,i,none⟩=false)
  (hx:ρ x= .pointer (some ⟨B,i,none⟩))(hy:ρ y= .int .u32 v):(execOp ρ ⟨dst,.store 61 x y,ty,pos,after,g⟩).run Tryz.prog w= .ok .skip (w.setCell ⟨B,i,none⟩ (.int .u32 v)):=by
 simp only [execOp,hx,hy];go_simp
theorem Qh7{v:Int}{u:Value}(hc:w.cell? ⟨B,i,none⟩=some u)(hf:w.frozen? ⟨B,i,none⟩=false)
  (hx:ρ x= .pointer (some ⟨B,i,none⟩))(hy:ρ y= .int .u16 v):(execOp ρ ⟨dst,.store 62 x y,ty,pos,after,g⟩).run Tryz.prog w= .ok .skip (w.setCell ⟨B,i,none⟩ (.int .u16 v)):=by
 simp only [execOp,hx,hy];go_simp
theorem QgM{v:Int}{u:Value}(hc:w.cell? ⟨B,i,none⟩=some u)(hf:w.frozen? ⟨B,i,none⟩=false)
  (hx:ρ x= .pointer (some ⟨B,i,none⟩))(hy:ρ y= .int .u8 v):(execOp ρ ⟨dst,.store 5 x y,ty,pos,after,g⟩).run Tryz.prog w= .ok .skip (w.setCell ⟨B,i,none⟩ (.int .u8 v)):=by
 simp only [execOp,hx,hy];go_simp
theorem QeA{v u:Value}(hc:w.cell? ⟨B,i,none⟩=some u)(hf:w.frozen? ⟨B,i,none⟩=false)(hv: ∃a m c,v= .slice a m c)
  (hx:ρ x= .pointer (some ⟨B,i,none⟩))(hy:ρ y=v):(execOp ρ ⟨dst,.store 28 x y,ty,pos,after,g⟩).run Tryz.prog w= .ok .skip (w.setCell ⟨B,i,none⟩ v):=by
 obtain⟨a,m,c,rfl⟩:=hv;simp only [execOp,hx,hy];go_simp
theorem OBn.slice{lo:Nat}{v:Value}(h:OBn w lo v bs): ∃a m c,v= .slice a m c:=by obtain⟨p,c,h,-⟩:=h.sl;exact⟨_,_,_,h⟩
theorem QgN:(Tryz.prog.info? 132).map (·.size)=some 9:=Kr
theorem QmO{b:Nat}(h:o+9≤(Qc w b).size):(Instr.loadAt 132 (.pointer (some ⟨b,o,none⟩))).run Tryz.prog w= .ok (.agg ((Qc w b).extract o (o+9))) w:=by
 have:=run_loadAt_mid w b o 132 ((Qc w b).extract o (o+9)).toList _ (QC w b o (o+9)) Tryz.underlying132 rfl (by rw [QgN];simp;omega)
 rwa [Array.toArray_toList]at this
theorem QjC{b:Nat}(h:o+9≤(Qc w b).size):(loadVar 132 ⟨b,o,none⟩).run Tryz.prog w= .ok (.agg ((Qc w b).extract o (o+9))) w:=by
 have:=run_loadVar_mid w b o 132 ((Qc w b).extract o (o+9)).toList _ (QC w b o (o+9)) Tryz.underlying132 rfl (by rw [QgN];simp;omega)
 rwa [Array.toArray_toList]at this
@[go_sem ↓ high] theorem Qcs(ρ:Operand→Value)(dst:Option Tmp)(x:Operand)(ty:TypeId)(pos:String)(after:Array Edge)(g:Option (Nat×Bool))(w:World)
  (hx:ρ x= .pointer (some ⟨Qb (ρ x),Qd (ρ x),none⟩))(h:Fits (Qd (ρ x)) 9 (Qc w (Qb (ρ x)))):
  (execOp ρ ⟨dst,.load 132 x,ty,pos,after,g⟩).run Tryz.prog w= .ok (.value (.agg (QB (Qc w (Qb (ρ x))) (Qd (ρ x)) 9))) w:=by
 unfold Fits at h;generalize a:Qb (ρ x)=B at*;generalize b:Qd (ρ x)=O at*;simp only [execOp,hx,Sem.run_bind,QmO h,Result.andThen_ok,Sem.run_pure,QB]
@[go_sem ↓ high] theorem Qud{l:Option Nat}(w:World)
  (hx:ρ x= .pointer (some ⟨Qb (ρ x),Qd (ρ x),none⟩))(h:Fits (Qd (ρ x)) 9 (Qc w (Qb (ρ x)))):
  (Oper.semAt l ρ ⟨dst,.load 132 x,ty,pos,after,g⟩).run Tryz.prog w= .ok (.value (.agg (QB (Qc w (Qb (ρ x))) (Qd (ρ x)) 9))) w:=by rw [Oper.semAt_eq _ _ _ (fun c h=>by cases h)];exact Qcs ρ dst x ty pos after g w hx h
@[go_sem ↓ high] theorem QbG(ρ:Operand→Value)(dst:Option Tmp)(x y:Operand)(ty:TypeId)(pos:String)(after:Array Edge)(g:Option (Nat×Bool))(w:World)
  (hx:ρ x= .pointer (some ⟨Qb (ρ x),Qd (ρ x),none⟩))(hy:ρ y= .agg (ρ y).cells)(hs:Qn (ρ y).cells 9)(h:Fits (Qd (ρ x)) 9 (Qc w (Qb (ρ x))))(hz:Qs w (Qb (ρ x))=(0,0))(h1:QK (ρ y).cells):
  (execOp ρ ⟨dst,.store 132 x y,ty,pos,after,g⟩).run Tryz.prog w= .ok .skip (Qe w (Qb (ρ x)) (Qd (ρ x)) (ρ y).cells):=by
 unfold Fits at h;unfold Qn at hs;generalize b:Qb (ρ x)=B at*;generalize c:Qd (ρ x)=O at*;generalize d:(ρ y).cells=C at*;have a:(Instr.storeAt 132 (.pointer (some ⟨B,O,none⟩)) (.agg C)).run Tryz.prog w= .ok () (Qe w B O C):=
  run_storeAt_mid w B O 132 C (fun j hj=>⟨by rw [Qa,Array.getElem?_eq_getElem Om];rfl,Ql hz _⟩) (by rw [QgN,hs]) h1
 simp only [execOp,hx,hy,Sem.run_bind,a,Result.andThen_ok,Sem.run_pure]
@[go_sem ↓ high] theorem Qsj{l:Option Nat}(w:World)
  (hx:ρ x= .pointer (some ⟨Qb (ρ x),Qd (ρ x),none⟩))(hy:ρ y= .agg (ρ y).cells)(hs:Qn (ρ y).cells 9)(h:Fits (Qd (ρ x)) 9 (Qc w (Qb (ρ x))))(hz:Qs w (Qb (ρ x))=(0,0))(h1:QK (ρ y).cells):
  (Oper.semAt l ρ ⟨dst,.store 132 x y,ty,pos,after,g⟩).run Tryz.prog w= .ok .skip (Qe w (Qb (ρ x)) (Qd (ρ x)) (ρ y).cells):=by rw [Oper.semAt_eq _ _ _ (fun c h=>by cases h)];exact QbG ρ dst x y ty pos after g w hx hy hs h hz h1
@[go_sem] theorem QwR{a b c d e f g h i:Value}:Fits o m #[a,b,c,d,e,f,g,h,i]=(o+m≤9):=by unfold Fits;rfl
@[go_sem] theorem Que{a b c d e f g h i:Value}:Qn #[a,b,c,d,e,f,g,h,i] 9=True:=by unfold Qn;exact eq_true rfl
@[go_sem] theorem QwS{a b c d e f g h i:Value}:QK #[a,b,c,d,e,f,g,h,i]=(a.oneCell'=true∧b.oneCell'=true∧c.oneCell'=true∧d.oneCell'=true∧e.oneCell'=true∧f.oneCell'=true∧g.oneCell'=true∧h.oneCell'=true∧i.oneCell'=true):=by
 unfold QK;simp [and_assoc]
@[go_sem ↓ high] theorem Qvn{a b c d e f g h i:Value}:(Value.agg #[a,b,c,d,e,f,g,h,i]).cells=#[a,b,c,d,e,f,g,h,i]:=QF _
@[go_sem] theorem Quf{k:IntKind}{n:Int}:(Value.int k n).oneCell'=true:=rfl
@[go_sem] theorem QrK{p:Option Addr}{n c:Nat}:(Value.slice p n c).oneCell'=true:=rfl
@[go_sem] theorem Qsk{b:Bool}:(Value.bool b).oneCell'=true:=rfl
@[go_sem] theorem QwT{a b c d e f g h i:Value}:QB #[a,b,c,d,e,f,g,h,i] 0 9=#[a,b,c,d,e,f,g,h,i]:=rfl
theorem QL{P:Program}{fn:Func}{p u:Tmp}{v:Value}(h:fn.results=#[.cell p ty,.tmp u])(tmps:Array Value)(w:World)(g:Nat)
  (hp:tmps.getD p undef= .pointer (some ⟨g,0,none⟩))(hl:(loadVar ty ⟨g,0,none⟩).run P w= .ok v w):(results fn tmps).run P w= .ok (.tuple #[v,tmps.getD u undef]) w:=by
 have a:tmps[p]?.getD undef= .pointer (some ⟨g,0,none⟩):=by simpa using hp
 simp [results,h,a,asAddr,hl]
def QlC(ops:Array Oper):Prop:=Region.noSelect ops=true∧Qv ops 17 [0,1,2,3,4,6,7,9,10,11,12,13,14] 0=true∧Rd ops 17 32479 [5]∧Rd ops 17 32511 [8]∧Qv ops 17 [15] 32767=true∧Rd ops 17 65535 [16]∧Rd ops 17 131071 []
theorem Qh8:QlC ((Tryz.f93.body.bind (Qh 15)).getD #[]):=⟨Kr,Kr,Rk,Rk,Kr,Rk,Rk⟩
def QlD(ops:Array Oper):Prop:=Region.noSelect ops=true∧Qv ops 24 [0,1,5,6,10,11,15,16] 0=true∧Rd ops 24 101475 [2]∧Qv ops 24 [3,4] 101479=true∧Rd ops 24 101503 [7]∧Qv ops 24 [8,9,20] 101631=true∧Rd ops 24 1150975 [12]∧Qv ops 24 [13,14] 1155071=true∧Rd ops 24 1179647 [17]∧Qv ops 24 [18,19] 1310719=true∧Rd ops 24 2097151 [21]∧Qv ops 24 [22] 4194303=true∧Rd ops 24 8388607 [23]∧Rd ops 24 16777215 []
theorem Qh9:QlD ((Tryz.f93.body.bind (Qh 16)).getD #[]):=⟨Kr,Kr,Rk,Kr,Rk,Kr,Rk,Kr,Rk,Kr,Rk,Kr,Rk,Rk⟩
def QlE(ops:Array Oper):Prop:=Region.noSelect ops=true∧Qv ops 12 [0,1,2,4,5,6] 0=true∧Rd ops 12 119 [3]∧Qv ops 12 [8] 127=true∧Rd ops 12 383 [7]∧Rd ops 12 511 [9]∧Qv ops 12 [10] 1023=true∧Rd ops 12 2047 [11]∧Rd ops 12 4095 []
theorem Qia:QlE ((Tryz.f93.body.bind (Qh 17)).getD #[]):=⟨Kr,Kr,Rk,Kr,Rk,Rk,Kr,Rk,Rk⟩
structure He where
 sv:Int
 nu:Int
 fl:Int
 ho:Int
 pr:Int
 sr:Int
 ds:Int
 op:List Int
 pl:List Int
def heV(h:He)(vo vp:Value):Array Value:=#[.int .u8 h.sv,.int .u16 h.nu,.int .u16 h.fl,.int .u8 h.ho,.int .u8 h.pr,.int .u32 h.sr,.int .u32 h.ds,vo,vp]
abbrev QoW:Array Value:=#[.int .u8 0,.int .u16 0,.int .u16 0,.int .u8 0,.int .u8 0,.int .u32 0,.int .u32 0,.slice none 0 0,.slice none 0 0]
def ipN(bs:List Int):Nat:=(bt bs 0).toNat % 16*4
def Zd(bs:List Int):Int:=
 if bs.length<20 then 1 else if bt bs 0/16≠4 then 2 else if ipN bs<20∨bs.length<ipN bs then 3 else if w16 bs 2≠bs.length then 4
 else if w16 bs 10≠Z5 (QaU (bs.take (ipN bs)))then 5 else if w16 bs 6≠0∧w16 bs 6≠16384 then 6 else 0
def ipH(bs:List Int):He:=⟨bt bs 1,w16 bs 4,w16 bs 6,bt bs 8,bt bs 9,w16 bs 12*65536+w16 bs 14,w16 bs 16*65536+w16 bs 18,(bs.take (ipN bs)).drop 20,bs.drop (ipN bs)⟩
inductive QlF(bs:List Int)(w:World):Ending→World→Prop
 |no {w':World} (h:Zd bs≠0) (e:Ext w w'):QlF bs w (.returned (.tuple #[.agg QoW,.int .u8 (Zd bs)])) w'
 |yes {w':World} {vo vp:Value} (h:Zd bs=0) (e:Ext w w') (ho:OB w' w.heap.size vo (ipH bs).op) (hp:OB w' w.heap.size vp (ipH bs).pl):QlF bs w (.returned (.tuple #[.agg (heV (ipH bs) vo vp),.int .u8 0])) w'
theorem Qx4{c:Int}(h0:0≤c)(h1:c<256):bits BinOp.and IntKind.u8 c 15=c % 16:=by
 refine QfK (fun n=>bits BinOp.and IntKind.u8 n 15=n % 16) ?_ h0 h1
 kernel_rfl
theorem Qao{b:Nat}(h:Ext W w')(hb:Lt b W)(hz:Qs W b=(0,0)):Qs w' b=(0,0):=by unfold Qs at hz⊢;rw [h.block b hb];exact hz
theorem QoX(hs:(Qc w B).size=9)(hz:Qs w B=(0,0))(hcs:cs.size=9)(ho:QK cs)
  (hx:ρ x= .pointer (some ⟨B,0,none⟩))(hy:ρ y= .agg cs):(execOp ρ ⟨dst,.store 132 x y,ty,pos,after,g⟩).run Tryz.prog w= .ok .skip (Qe w B 0 cs):=by
 have e:=QbG ρ dst x y ty pos after g w (by rw [hx];rfl) (by rw [hy];rfl) (by rw [hy];exact hcs) (by rw [hx];show Fits 0 9 (Qc w B);unfold Fits;omega) (by rw [hx];exact hz) (by rw [hy];exact ho);rw [e,hx,hy];rfl
theorem QaW{tmps:Array Value}{g:Nat}(hp:tmps.getD 2 undef= .pointer (some ⟨g,0,none⟩))(hr:Qc w g=cs)(hc:cs.size=9):
  (results Tryz.f93 tmps).run Tryz.prog w= .ok (.tuple #[.agg cs,tmps.getD 3 undef]) w:=
 QL rfl tmps w g hp (by
  rw [QjC (by rw [hr,hc];omega),hr]
  rw [show cs.extract 0 (0+9)=cs by rw [←hc];simp])
theorem Yu(p:Option Addr)(bs:List Int)(c:Nat)(w:World)(hs:SlB w p bs)(hr:ByR bs)(hl:bs.length≤1000)(hlc:bs.length≤c):
  Calls Tryz.prog 93 #[.slice p bs.length c] w fun e w'=>QlF bs w e w':=by
 have HS:=Xh hs;have I:=Xh hr;clear hs hr
 go_enter Tryz.func93,Tryz.ntmps93
 go_upto_region 1 with(fail)
 obtain⟨O,A⟩: ∃O,w.alloc (.cells #[.int .u8 0,.int .u16 0,.int .u16 0,.int .u8 0,.int .u8 0,.int .u32 0,.int .u32 0,.slice none 0 0,.slice none 0 0] 132)=O:=⟨_,rfl⟩;have E:Ext w O:=by rw [←A];exact Ea
 have t:Qc O w.heap.size=QoW:=by rw [←A];exact Zn _ _ _ _
 have D:Qs O w.heap.size=(0,0):=by rw [←A];simp [go_sem]
 have j:Lt w.heap.size O:=by rw [←A];simp [go_sem]
 rw [A];clear A
 go_wp2_with (fail)
 refine Qp 0 rfl ?_;rcases Nat.lt_or_ge bs.length 20 with h20|h20
 ·have d3:(bs.length:Int)<20:=by omega
  have o:=Xh (show Zd bs=1 by unfold Zd;rw [if_pos h20])
  go_wp2_with (fail)
  go_step3;refine⟨rfl,?_⟩;go_wp2;rw [Exit.noGoto_ret];exact bodyPost_ret (QaW rfl (Qq _ _ _ (by rw [t])) rfl) rfl (by rw [←o.out];exact .no (by rw [o.out];omega) (Ext.sa _ (Nat.le_refl _) E))
 have d3: ¬(bs.length:Int)<20:=by omega
 have u:=Xh (HS.out.ext E);obtain⟨b,i,rfl,e0,-⟩:=HS.out 0 Om;obtain⟨x0,U⟩: ∃x,bt bs 0=x:=⟨_,rfl⟩;have c0:=(u.out.bt 0 Om).1;have lb:=(u.out.bt 0 Om).2;rw [Nat.add_zero,U]at c0;have b0:=QaI I.out 0;rw [U]at b0;have k1:bits BinOp.and IntKind.u8 x0 15=x0 % 16:=Qx4 b0.1 b0.2;have c4:=Xh U;have z0:(0:Int)<bs.length:=by omega
 have hN:x0 % 16*4=((ipN bs:Nat):Int):=by unfold ipN;rw [U];omega
 have d4:ipN bs≤60:=by unfold ipN;omega
 obtain⟨N,a8⟩: ∃N,ipN bs=N:=⟨_,rfl⟩;rw [a8]at hN d4;have K:=Xh a8;clear U a8
 go_upto_region 5 with(fail)
 have HN:=Xh hN;clear hN k1
 cases t2:(x0/16==4)
 ·have o:=Xh (show Zd bs=2 by unfold Zd;rw [if_neg Om,if_pos (by rw [c4.out];simpa using t2)])
  go_wp2_with (fail)
  go_step3;refine⟨rfl,?_⟩;go_wp2;rw [Exit.noGoto_ret];exact bodyPost_ret (QaW rfl (Qq _ _ _ (by rw [t])) rfl) rfl (by rw [←o.out];exact .no (by rw [o.out];omega) (Ext.sa _ (Nat.le_refl _) E))
 have L:=Xh (show ¬bt bs 0/16≠4 by rw [c4.out];simpa using t2)
 by_cases t3:N<20
 ·have d5:(N:Int)<20:=by omega
  have o:=Xh (show Zd bs=3 by unfold Zd;rw [if_neg Om,if_neg L.out,K.out,if_pos (.inl t3)])
  go_wp2_with (fail)
  go_step3;refine⟨rfl,?_⟩;go_wp2;rw [Exit.noGoto_ret];exact bodyPost_ret (QaW rfl (Qq _ _ _ (by rw [t])) rfl) rfl (by rw [←o.out];exact .no (by rw [o.out];omega) (Ext.sa _ (Nat.le_refl _) E))
 have d5: ¬(N:Int)<20:=by omega
 by_cases t4:bs.length<N
 ·have d6:(bs.length:Int)<N:=by omega
  have o:=Xh (show Zd bs=3 by unfold Zd;rw [if_neg Om,if_neg L.out,K.out,if_pos (.inr t4)])
  go_wp2_with (fail)
  go_step3;refine⟨rfl,?_⟩;go_wp2;rw [Exit.noGoto_ret];exact bodyPost_ret (QaW rfl (Qq _ _ _ (by rw [t])) rfl) rfl (by rw [←o.out];exact .no (by rw [o.out];omega) (Ext.sa _ (Nat.le_refl _) E))
 have d6: ¬(bs.length:Int)<N:=by omega
 have X:=Xh (show ¬(ipN bs<20∨bs.length<ipN bs)by rw [K.out];omega);obtain⟨v2,a9⟩: ∃v,w16 bs 2=v:=⟨_,rfl⟩;have b2:=Z2 I.out 2;rw [a9]at b2;have Y:=Xh a9
 go_upto_region 9 with(fail)
 clear a9 t2 c0 lb;have q2:(2:Int)≤bs.length:=by omega
 have q3:(bs.length:Int)≤c:=by omega
 have q4: ¬c=2:=by omega
 have q6: ¬c=6:=by omega
 have e1: ¬c=10:=by omega
 cases t5:(v2==(bs.length:Int))
 ·have o:=Xh (show Zd bs=4 by unfold Zd;rw [if_neg Om,if_neg L.out,if_neg X.out,if_pos (by rw [Y.out];simpa using t5)])
  go_wp2_with ((go_at_call 166;(with_reducible refine(wordx u.out I.out 2 _ _ Om Om).mono ?_);rw [Y.out];rintro e H ⟨rfl,g⟩;have t:=Zc g j t;have D:=Qao g j D;have j:=Xl j g.size;have E:=E.tr g;have u:=Xh (u.out.ext g)))
  go_step3;refine⟨rfl,?_⟩;go_wp2;rw [Exit.noGoto_ret];exact bodyPost_ret (QaW rfl (Qq _ _ _ (by rw [t])) rfl) rfl (by rw [←o.out];exact .no (by rw [o.out];omega) (Ext.sa _ (Nat.le_refl _) E))
 have U4:=Xh (show ¬w16 bs 2≠bs.length by rw [Y.out];simpa using t5)
 go_upto_region 11 with(go_at_call 166;(refine(wordx u.out I.out 2 _ _ Om Om).mono ?_);rw [Y.out];rintro e H ⟨rfl,g⟩;have t:=Zc g j t;have D:=Qao g j D;have j:=Xl j g.size;have E:=E.tr g;have u:=Xh (u.out.ext g))
 have d7:=Xh (show SlB H (some ⟨b,i,none⟩) (bs.take N)from u.out.take N);have c5:(bs.take N).length=N:=by rw [List.length_take];omega
 have c6:=Xh (fun W (hE:Ext H W)=>(show Cr 167 #[.slice (some ⟨b,i,none⟩) N c] W (.int .u16 (Z5 (QaU (bs.take N)))) by
  have:=Qh4 (some ⟨b,i,none⟩) (bs.take N) c W (d7.out.ext hE) (I.out.take N) Om Om
  rwa [c5]at this))
 clear c5 t5;have q7:(N:Int)≤bs.length:=by omega
 have q8:(N:Int)≤c:=by omega
 obtain⟨c9,b1⟩: ∃v,w16 bs 10=v:=⟨_,rfl⟩
 have d8:=Xh (fun W (hE:Ext H W)=>(show Cr 166 #[.slice (some ⟨b,i+10,none⟩) (bs.length- 10) (c- 10)] W (.int .u16 c9) by
  rw [←b1];exact wordx (u.out.ext hE) I.out 10 _ _ Om Om))
 have c7:=Xh b1;obtain⟨ck,b3⟩: ∃v,Z5 (QaU (bs.take N))=v:=⟨_,rfl⟩;rw [b3]at c6;have c8:=Xh b3;clear b1 b3;refine Qk Kr Kr ?_;(repeat(go_big_quiet_step (first|(go_at_call 166;exact Zo (d8.out _ (Qt _)))|(go_at_call 167;exact Zo (c6.out _ (Qt _))))));refine wpQuiet_nil ?_;intro d
 have g:=Qt d;have t:=Zc g j t;have D:=Qao g j D;have j:=Xl j g.size;have E:=E.tr g;have u:=Xh (u.out.ext g);generalize later d=WL at*
 cases t6:(c9==ck)
 ·have o:=Xh (show Zd bs=5 by unfold Zd;rw [if_neg Om,if_neg L.out,if_neg X.out,if_neg U4.out,K.out,if_pos (by rw [c7.out,c8.out];simpa using t6)])
  go_wp2_with (fail)
  go_step3;refine⟨rfl,?_⟩;go_wp2;rw [Exit.noGoto_ret];exact bodyPost_ret (QaW rfl (Qq _ _ _ (by rw [t])) rfl) rfl (by rw [←o.out];exact .no (by rw [o.out];omega) (Ext.sa _ (Nat.le_refl _) E))
 have U5:=Xh (show ¬w16 bs 10≠Z5 (QaU (bs.take (ipN bs)))by rw [K.out,c7.out,c8.out];simpa using t6);obtain⟨v6,b4⟩: ∃v,w16 bs 6=v:=⟨_,rfl⟩;have Z:=Z2 I.out 6;rw [b4]at Z;have a0:=Xh b4;have a1:=Xh (QmN Z.1 Z.2);obtain⟨q,hq⟩: ∃q,bits BinOp.andNot IntKind.u16 v6 16384=q:=⟨_,rfl⟩;rw [hq]at a1
 go_upto_region 13 with(fail)
 clear t6 b4
 cases t7:(q==0)
 ·have o:=Xh (show Zd bs=6 by
   unfold Zd;rw [if_neg Om,if_neg L.out,if_neg X.out,if_neg U4.out,if_neg U5.out,a0.out,if_pos];have h:=a1.out;rw [t7]at h;have M:=(Bool.or_eq_false_iff.1 h.symm)
   exact⟨by simpa using M.1,by simpa using M.2⟩)
  go_wp2_with ((go_at_call 166;(with_reducible refine(wordx u.out I.out 6 _ _ Om Om).mono ?_);rw [a0.out];rintro e H ⟨rfl,g⟩;have t:=Zc g j t;have D:=Qao g j D;have j:=Xl j g.size;have E:=E.tr g;have u:=Xh (u.out.ext g)))
  go_step3;refine⟨rfl,?_⟩;go_wp2;rw [Exit.noGoto_ret];exact bodyPost_ret (QaW rfl (Qq _ _ _ (by rw [t])) rfl) rfl (by rw [←o.out];exact .no (by rw [o.out];omega) (Ext.sa _ (Nat.le_refl _) E))
 have o:=Xh (show Zd bs=0 by
  unfold Zd;rw [if_neg Om,if_neg L.out,if_neg X.out,if_neg U4.out,if_neg U5.out,a0.out,if_neg];have h:=a1.out;rw [t7]at h;rintro⟨h1,M⟩;rcases Bool.or_eq_true_iff.1 h.symm with h3|h3
  ·exact h1 (by simpa using h3)
  ·exact M (by simpa using h3))
 go_upto_region 15 with(go_at_call 166;(refine(wordx u.out I.out 6 _ _ Om Om).mono ?_);rw [a0.out];rintro e H ⟨rfl,g⟩;have t:=Zc g j t;have D:=Qao g j D;have j:=Xl j g.size;have E:=E.tr g;have u:=Xh (u.out.ext g))
 clear t7 hq a1 Z b2 HS;have f:RowZ H w.heap.size QoW:=⟨t,D,j⟩;have s:=u.out;have d9:b<w.heap.size:=e0;have C:=I.out;have hC: ¬(fun k=>w.heap.size≤k) b:=Nat.not_le_of_lt d9;clear t D j u g;refine QO (fun k=>w.heap.size≤k) Kr ?_;obtain⟨WA,A⟩: ∃Wdr,World.drew H=Wdr:=⟨_,rfl⟩;have F:Ext H WA:=by rw [←A];exact Ext.dr (Ext.rf _)
 rw [A];clear A;have E:=E.tr F;have s:=s.ext F;have f:=f.ext F;refine QaH (N:=17) (R:=QlC) (E:=((Tryz.f93.body.bind (Qh 15)).getD #[])) Kr Qh8 Kr fun hS=> ?_;have a:=hS.2.1;refine tMk 1 (.slice (some ⟨b,i,none⟩) bs.length c) hS.1 a rfl fun a=>tM 3 (.pointer (some ⟨b,i+1,none⟩)) hS.1 a rfl (fun w' _=>Zh (m:=bs.length) (c:=c) 1 Om Kr Kr w') fun a=>tM 7 (.int .u8 (bt bs 1)) hS.1 a rfl (QlB s 1 Om hC Kr) fun a=>tMk 15 (.slice (some ⟨b,i,none⟩) bs.length c) hS.1 a rfl fun a=>tM 31 (.slice (some ⟨b,i+4,none⟩) (bs.length- 4) (c- 4)) hS.1 a rfl (fun w' _=>JM (m:=bs.length) (c:=c) 4 Om Om Kr Kr w') fun a=>tMk 95 (.slice (some ⟨b,i,none⟩) bs.length c) hS.1 a rfl fun a=>tM 223 (.slice (some ⟨b,i+6,none⟩) (bs.length- 6) (c- 6)) hS.1 a rfl (fun w' _=>JM (m:=bs.length) (c:=c) 6 Om Om Kr Kr w') fun a=>tMk 735 (.slice (some ⟨b,i,none⟩) bs.length c) hS.1 a rfl fun a=>tM 1759 (.pointer (some ⟨b,i+8,none⟩)) hS.1 a rfl (fun w' _=>Zh (m:=bs.length) (c:=c) 8 Om Kr Kr w') fun a=>tM 3807 (.int .u8 (bt bs 8)) hS.1 a rfl (QlB s 8 Om hC Kr) fun a=>tMk 7903 (.slice (some ⟨b,i,none⟩) bs.length c) hS.1 a rfl fun a=>tM 16095 (.pointer (some ⟨b,i+9,none⟩)) hS.1 a rfl (fun w' _=>Zh (m:=bs.length) (c:=c) 9 Om Kr Kr w') fun a=>tM 32479 (.int .u8 (bt bs 9)) hS.1 a rfl (QlB s 9 Om hC Kr) fun a=> ?_;refine sM 32511 (fun v _=>v= .int .u16 (w16 bs 4)) hS.2.2.1 rfl (ZC (wordx s C 4 (bs.length- 4) (c- 4) Om Om)) ?_;rintro _ e2 b5 rfl;have E:=E.tr b5;have s:=s.ext b5;have f:=f.ext b5;refine sM 32767 (fun v _=>v= .int .u16 (w16 bs 6)) hS.2.2.2.1 rfl (ZC (wordx s C 6 (bs.length- 6) (c- 6) Om Om)) ?_;rintro _ d0 b7 rfl;have E:=E.tr b7;have s:=s.ext b7;have f:=f.ext b7;have a:=hS.2.2.2.2.1;refine tMk 65535 (.agg #[.int .u8 (bt bs 1),.int .u16 (w16 bs 4),.int .u16 (w16 bs 6),.int .u8 (bt bs 8),.int .u8 (bt bs 9),.int .u32 0,.int .u32 0,.slice none 0 0,.slice none 0 0]) hS.1 a rfl fun a=> ?_;refine QaO hS.2.2.2.2.2.1 (Qan (m':=131071) rfl rfl Kr (QoX (B:=w.heap.size) (cs:=#[.int .u8 (bt bs 1),.int .u16 (w16 bs 4),.int .u16 (w16 bs 6),.int .u8 (bt bs 8),.int .u8 (bt bs 9),.int .u32 0,.int .u32 0,.slice none 0 0,.slice none 0 0]) (by rw [f.r];rfl) f.z rfl (by simp [go_sem]) Kr Kr) (Mv.sa _ (Nat.le_refl _) (Mv.refl _ _)) ?_);obtain⟨V,a2⟩: ∃V,Qe d0 w.heap.size 0 #[.int .u8 (bt bs 1),.int .u16 (w16 bs 4),.int .u16 (w16 bs 6),.int .u8 (bt bs 8),.int .u8 (bt bs 9),.int .u32 0,.int .u32 0,.slice none 0 0,.slice none 0 0]=V:=⟨_,rfl⟩;have y:Mv (fun k=>k=w.heap.size) d0 V:=by rw [←a2];exact Mv.sa _ rfl (Mv.refl _ _)
 have E:=Mv.ext_of E y (fun k e=>by rw [e];exact Nat.le_refl _);have s:=s.mv y Om;have f:=f.all #[.int .u8 (bt bs 1),.int .u16 (w16 bs 4),.int .u16 (w16 bs 6),.int .u8 (bt bs 8),.int .u8 (bt bs 9),.int .u32 0,.int .u32 0,.slice none 0 0,.slice none 0 0] rfl;rw [a2]at f;rw [a2];clear a2;refine doneK hS.2.2.2.2.2.2 ?_;clear hS a;go_simp
 go_upto_region 16 with(fail)
 refine QO (fun k=>w.heap.size≤k) Kr ?_;obtain⟨H,A⟩: ∃Wdr,World.drew V=Wdr:=⟨_,rfl⟩;have F:Ext V H:=by rw [←A];exact Ext.dr (Ext.rf _)
 rw [A];clear A;have E:=E.tr F;have s:=s.ext F;have f:=f.ext F;refine QaH (N:=24) (R:=QlD) (E:=((Tryz.f93.body.bind (Qh 16)).getD #[])) Kr Qh9 Kr fun hS=> ?_;have a:=hS.2.1;refine tMk 1 (.slice (some ⟨b,i,none⟩) bs.length c) hS.1 a rfl fun a=>tM 3 (.slice (some ⟨b,i+12,none⟩) (bs.length- 12) (c- 12)) hS.1 a rfl (fun w' _=>JM (m:=bs.length) (c:=c) 12 Om Om Kr Kr w') fun a=>tMk 35 (.slice (some ⟨b,i,none⟩) bs.length c) hS.1 a rfl fun a=>tM 99 (.slice (some ⟨b,i+14,none⟩) (bs.length- 14) (c- 14)) hS.1 a rfl (fun w' _=>JM (m:=bs.length) (c:=c) 14 Om Om Kr Kr w') fun a=>tMk 1123 (.slice (some ⟨b,i,none⟩) bs.length c) hS.1 a rfl fun a=>tM 3171 (.slice (some ⟨b,i+16,none⟩) (bs.length- 16) (c- 16)) hS.1 a rfl (fun w' _=>JM (m:=bs.length) (c:=c) 16 Om Om Kr Kr w') fun a=>tMk 35939 (.slice (some ⟨b,i,none⟩) bs.length c) hS.1 a rfl fun a=>tM 101475 (.slice (some ⟨b,i+18,none⟩) (bs.length- 18) (c- 18)) hS.1 a rfl (fun w' _=>JM (m:=bs.length) (c:=c) 18 Om Om Kr Kr w') fun a=> ?_;refine sM 101479 (fun v _=>v= .int .u16 (w16 bs 12)) hS.2.2.1 rfl (ZC (wordx s C 12 (bs.length- 12) (c- 12) Om Om)) ?_;rintro _ e3 b8 rfl;have E:=E.tr b8;have s:=s.ext b8;have f:=f.ext b8;have a:=hS.2.2.2.1;refine tM 101487 (.int .u32 (w16 bs 12)) hS.1 a rfl (fun w' _=>Qbp (Z2 C 12) Kr w') fun a=>tM 101503 (.int .u32 (w16 bs 12*65536)) hS.1 a rfl (fun w' _=>QfV (Z2 C 12) Kr Kr w') fun a=> ?_;refine sM 101631 (fun v _=>v= .int .u16 (w16 bs 14)) hS.2.2.2.2.1 rfl (ZC (wordx s C 14 (bs.length- 14) (c- 14) Om Om)) ?_;rintro _ e4 b9 rfl;have E:=E.tr b9;have s:=s.ext b9;have f:=f.ext b9;have a:=hS.2.2.2.2.2.1;refine tM 101887 (.int .u32 (w16 bs 14)) hS.1 a rfl (fun w' _=>Qbp (Z2 C 14) Kr w') fun a=>tM 102399 (.int .u32 (w16 bs 12*65536+w16 bs 14)) hS.1 a rfl (fun w' _=>Qh5 (Z2 C 12) (Z2 C 14) Kr Kr w') fun a=>tMk 1150975 (.pointer (some ⟨w.heap.size,5,none⟩)) hS.1 a rfl fun a=> ?_;refine sM 1155071 (fun v _=>v= .int .u16 (w16 bs 16)) hS.2.2.2.2.2.2.1 rfl (ZC (wordx s C 16 (bs.length- 16) (c- 16) Om Om)) ?_;rintro _ e5 c1 rfl;have E:=E.tr c1;have s:=s.ext c1;have f:=f.ext c1;have a:=hS.2.2.2.2.2.2.2.1;refine tM 1163263 (.int .u32 (w16 bs 16)) hS.1 a rfl (fun w' _=>Qbp (Z2 C 16) Kr w') fun a=>tM 1179647 (.int .u32 (w16 bs 16*65536)) hS.1 a rfl (fun w' _=>QfV (Z2 C 16) Kr Kr w') fun a=> ?_;refine sM 1310719 (fun v _=>v= .int .u16 (w16 bs 18)) hS.2.2.2.2.2.2.2.2.1 rfl (ZC (wordx s C 18 (bs.length- 18) (c- 18) Om Om)) ?_;rintro _ d1 c2 rfl;have E:=E.tr c2;have s:=s.ext c2;have f:=f.ext c2;have a:=hS.2.2.2.2.2.2.2.2.2.1;refine tM 1572863 (.int .u32 (w16 bs 18)) hS.1 a rfl (fun w' _=>Qbp (Z2 C 18) Kr w') fun a=>tM 2097151 (.int .u32 (w16 bs 16*65536+w16 bs 18)) hS.1 a rfl (fun w' _=>Qh5 (Z2 C 16) (Z2 C 18) Kr Kr w') fun a=> ?_;refine QaO hS.2.2.2.2.2.2.2.2.2.2.1 (Qan (m':=4194303) rfl rfl Kr (Qh6 (v:=w16 bs 12*65536+w16 bs 14) (f.cell 5 (by show 5<9;omega)) (f.frz 5) Kr Kr) (Mv.st _ (.inl (Nat.le_refl _)) (Mv.refl _ _)) ?_);obtain⟨P,a3⟩: ∃P,World.setCell d1 ⟨w.heap.size,5,none⟩ (.int .u32 (w16 bs 12*65536+w16 bs 14))=P:=⟨_,rfl⟩;have y:Mv (fun k=>k=w.heap.size) d1 P:=by rw [←a3];exact Mv.st _ (.inl rfl) (Mv.refl _ _)
 have E:=Mv.ext_of E y (fun k e=>by rw [e];exact Nat.le_refl _);have s:=s.mv y Om;have f:RowZ P w.heap.size #[.int .u8 (bt bs 1),.int .u16 (w16 bs 4),.int .u16 (w16 bs 6),.int .u8 (bt bs 8),.int .u8 (bt bs 9),.int .u32 (w16 bs 12*65536+w16 bs 14),.int .u32 (0),.slice none 0 0,.slice none 0 0]:=by rw [←a3];exact f.set 5 _
 rw [a3];clear a3;have a:=hS.2.2.2.2.2.2.2.2.2.2.2.1;refine tMk 8388607 (.pointer (some ⟨w.heap.size,6,none⟩)) hS.1 a rfl fun a=> ?_;refine QaO hS.2.2.2.2.2.2.2.2.2.2.2.2.1 (Qan (m':=16777215) rfl rfl Kr (Qh6 (v:=w16 bs 16*65536+w16 bs 18) (f.cell 6 (by show 6<9;omega)) (f.frz 6) Kr Kr) (Mv.st _ (.inl (Nat.le_refl _)) (Mv.refl _ _)) ?_);obtain⟨Q,a4⟩: ∃Q,World.setCell P ⟨w.heap.size,6,none⟩ (.int .u32 (w16 bs 16*65536+w16 bs 18))=Q:=⟨_,rfl⟩;have y:Mv (fun k=>k=w.heap.size) P Q:=by rw [←a4];exact Mv.st _ (.inl rfl) (Mv.refl _ _)
 have E:=Mv.ext_of E y (fun k e=>by rw [e];exact Nat.le_refl _);have s:=s.mv y Om;have f:RowZ Q w.heap.size #[.int .u8 (bt bs 1),.int .u16 (w16 bs 4),.int .u16 (w16 bs 6),.int .u8 (bt bs 8),.int .u8 (bt bs 9),.int .u32 (w16 bs 12*65536+w16 bs 14),.int .u32 (w16 bs 16*65536+w16 bs 18),.slice none 0 0,.slice none 0 0]:=by rw [←a4];exact f.set 6 _
 rw [a4];clear a4;refine doneK hS.2.2.2.2.2.2.2.2.2.2.2.2.2 ?_;clear hS a;go_simp
 go_upto_region 17 with(fail)
 refine QO (fun k=>w.heap.size≤k) Kr ?_;obtain⟨WE,A⟩: ∃Wdr,World.drew Q=Wdr:=⟨_,rfl⟩;have F:Ext Q WE:=by rw [←A];exact Ext.dr (Ext.rf _)
 rw [A];clear A;have E:=E.tr F;have s:=s.ext F;have f:=f.ext F;refine QaH (N:=12) (R:=QlE) (E:=((Tryz.f93.body.bind (Qh 17)).getD #[])) Kr Qia Kr fun hS=> ?_;have a:=hS.2.1;refine tMk 1 (.slice (some ⟨b,i,none⟩) bs.length c) hS.1 a rfl fun a=>tMk 3 (.int .i64 (N:Nat)) hS.1 a rfl fun a=>tM 7 (.slice (ZF b i c 20) (N- 20) (c- 20)) hS.1 a rfl (fun w' _=>QoV (lo:=20) (hi:=N) (m:=bs.length) Om Om _ _ _ _ _ _ _ _ _ Kr Kr Kr w') fun a=>tMk 23 (.slice (some ⟨b,i,none⟩) bs.length c) hS.1 a rfl fun a=>tMk 55 (.int .i64 (N:Nat)) hS.1 a rfl fun a=>tM 119 (.slice (ZF b i c N) (bs.length- N) (c- N)) hS.1 a rfl (fun w' _=>QaV (lo:=N) (m:=bs.length) Om Om _ _ _ _ _ _ _ _ Kr Kr w') fun a=> ?_;refine sM 127 (fun v w'=>OBn w' w.heap.size v ((bs.take N).drop 20)) hS.2.2.1 rfl (QgL (p:=ZF b i c 20) (n:=N- 20) (c:=c- 20) (lo:=w.heap.size) ((s.take N).cut 20 (by rw [List.length_take];omega)) (by rw [List.length_drop,List.length_take];omega) (by rw [List.length_drop,List.length_take];omega) f.l) ?_;rintro vo e6 c3 G;have E:=E.tr c3;have s:=s.ext c3;have f:=f.ext c3;have a:=hS.2.2.2.1;refine tMk 383 (.pointer (some ⟨w.heap.size,7,none⟩)) hS.1 a rfl fun a=> ?_;refine sM 511 (fun v w'=>OBn w' w.heap.size v (bs.drop N)) hS.2.2.2.2.1 rfl (QgL (p:=ZF b i c N) (n:=bs.length- N) (c:=c- N) (lo:=w.heap.size) (s.cut N Om) (by rw [List.length_drop];omega) (by rw [List.length_drop]) f.l) ?_;rintro vp d2 a5 J;have E:=E.tr a5;have s:=s.ext a5;have f:=f.ext a5;have G:=G.ext a5;refine QaO hS.2.2.2.2.2.1 (Qan (m':=1023) rfl rfl Kr (QeA (v:=vo) (f.cell 7 (by show 7<9;omega)) (f.frz 7) G.slice Kr Kr) (Mv.st _ (.inl (Nat.le_refl _)) (Mv.refl _ _)) ?_);obtain⟨S,a6⟩: ∃S,World.setCell d2 ⟨w.heap.size,7,none⟩ (vo)=S:=⟨_,rfl⟩;have y:Mv (fun k=>k=w.heap.size) d2 S:=by rw [←a6];exact Mv.st _ (.inl rfl) (Mv.refl _ _)
 have E:=Mv.ext_of E y (fun k e=>by rw [e];exact Nat.le_refl _);have G:=G.mv y (fun k e=>by omega);have J:=J.mv y (fun k e=>by omega);have f:RowZ S w.heap.size #[.int .u8 (bt bs 1),.int .u16 (w16 bs 4),.int .u16 (w16 bs 6),.int .u8 (bt bs 8),.int .u8 (bt bs 9),.int .u32 (w16 bs 12*65536+w16 bs 14),.int .u32 (w16 bs 16*65536+w16 bs 18),vo,.slice none 0 0]:=by rw [←a6];exact f.set 7 _
 rw [a6];clear a6;have a:=hS.2.2.2.2.2.2.1;refine tMk 2047 (.pointer (some ⟨w.heap.size,8,none⟩)) hS.1 a rfl fun a=> ?_;refine QaO hS.2.2.2.2.2.2.2.1 (Qan (m':=4095) rfl rfl Kr (QeA (v:=vp) (f.cell 8 (by show 8<9;omega)) (f.frz 8) J.slice Kr Kr) (Mv.st _ (.inl (Nat.le_refl _)) (Mv.refl _ _)) ?_);obtain⟨T,a7⟩: ∃T,World.setCell S ⟨w.heap.size,8,none⟩ (vp)=T:=⟨_,rfl⟩;have y:Mv (fun k=>k=w.heap.size) S T:=by rw [←a7];exact Mv.st _ (.inl rfl) (Mv.refl _ _)
 have E:=Mv.ext_of E y (fun k e=>by rw [e];exact Nat.le_refl _);have G:=G.mv y (fun k e=>by omega);have J:=J.mv y (fun k e=>by omega);have f:RowZ T w.heap.size #[.int .u8 (bt bs 1),.int .u16 (w16 bs 4),.int .u16 (w16 bs 6),.int .u8 (bt bs 8),.int .u8 (bt bs 9),.int .u32 (w16 bs 12*65536+w16 bs 14),.int .u32 (w16 bs 16*65536+w16 bs 18),vo,vp]:=by rw [←a7];exact f.set 8 _
 rw [a7];clear a7;refine doneK hS.2.2.2.2.2.2.2.2 ?_;clear hS a;go_simp;have t:=f.r;have D:=f.z;have v1:vo.oneCell'=true:=by obtain⟨_,_,_,h⟩:=G.slice;rw [h];rfl
 have v2:vp.oneCell'=true:=by obtain⟨_,_,_,h⟩:=J.slice;rw [h];rfl
 have E:=Xh E;have G:=Xh G;have J:=Xh J;clear s hC F;go_wp2;simp only [Exit.jump];have y:Mv (fun k=>k=w.heap.size) T (Qe T w.heap.size 0 #[.int .u8 (bt bs 1),.int .u16 (w16 bs 4),.int .u16 (w16 bs 6),.int .u8 (bt bs 8),.int .u8 (bt bs 9),.int .u32 (w16 bs 12*65536+w16 bs 14),.int .u32 (w16 bs 16*65536+w16 bs 18),vo,vp]):=Mv.sa _ rfl (Mv.refl _ _);refine bodyPost_ret (QaW rfl (Qq _ _ _ (by rw [t])) rfl) rfl ?_;have h1:=G.out.mv y (fun k e=>by omega);have M:=J.out.mv y (fun k e=>by omega);exact QlF.yes (bs:=bs) (vo:=vo) (vp:=vp) o.out (Mv.ext_of E.out y (fun k e=>by rw [e];exact Nat.le_refl _)) (by unfold ipH;rw [K.out];exact h1.ob) (by unfold ipH;rw [K.out];exact M.ob)
def QlG(B base:Nat)(xs:List Int)(i:Nat)(W:World):Prop:= ∃v,Boxed W B 28 v∧W.ownsRow base 5 1 v i ((xs.take i).map (Value.int .u8))
theorem QlG.mv{xs:List Int}{A':World}(h:QlG B base xs i A)(hm:Mv C A A')(hb: ¬C B)(hc: ∀k,base≤k→ ¬C k):QlG B base xs i A':=by
 obtain⟨v,a,b⟩:=h;exact⟨v,Qj a hm hb,Qw b hm hc⟩
theorem Qfl(w:World)(a:Value)(t:TypeId): ∀j u,[a][j]?=some u→(w.alloc (.cells #[a] t)).cell? ((⟨w.heap.size,0,none⟩:Addr).add j)=some u:=by
 intro j u b;have e:(⟨w.heap.size,0,none⟩:Addr).add j=⟨w.heap.size,j,none⟩:=by unfold Addr.add;split<;>simp_all
 rw [e,Qa,Zn];simpa using b
theorem QeB(g:Nat)(lb:Array Value)(eg: ∀args w,(callFunc g args).run Tryz.prog w= .ok (.enter g args) w)(xs:List Int)(w:World)(hlen:xs.length≤2000)
  (hseq: ∀(n:Nat) (U:Nat→Prop) w',Ext w w'→(∀k,U k→w.heap.size≤k)→QcT Fence.wide n Tryz.prog g lb (fun s:Int=>#[.int .u8 s]) (fun _=>False) U xs w'):
  Calls Tryz.prog 253 #[.slice none 0 0,.func (.func g) #[] lb] w fun e W'=> ∃v,e= .returned v∧Z8 w W' v xs:=by
 obtain⟨S,T,V,X,Y⟩:=info_parts YB;have I:=Xh hseq;have J:=Xh eg;clear hseq eg;refine(callsIn_wide (n:=5)).1 ?_;refine callsIn_of_wp_marks Tryz.func253 rfl trivial ?_ rfl;simp only [Tryz.ntmps253,List.size_toArray,List.length_cons,List.length_nil,Nat.reduceAdd,Nat.reduceSub,Array.replicate_succ,Array.replicate_zero,List.push_toArray,List.append_toArray,List.nil_append,List.cons_append]
 gi_wp2
 have t:=Boxed.new w 28 (.slice none 0 0);obtain⟨a,c⟩: ∃a,w.alloc (.cells #[.slice none 0 0] 28)=a:=⟨_,rfl⟩;have a0:a.heap.size=w.heap.size+1:=by rw [←c];simp
 have u:Ext w a:=by rw [←c];exact Ea
 rw [c]at t⊢;clear c;refine ZI rfl Om (gf:=g) (lb:=lb) rfl trivial J.out (I.out _ (fun k=>k=w.heap.size) a u (fun k e=>by omega))
  (fun k h=>h.elim) (fun k h=>by omega) (fun _=>rfl)
  (fun i W=>QlG w.heap.size (a.heap.size+2) xs i W) (fun _ _=>False)
  (fun i A B h hm=>h.mv hm (fun hh=>by rcases hh with hh|hh|hh;exact hh.elim;omega;omega) (fun k hk hh=>by rcases hh with hh|hh|hh;exact hh.elim;omega;omega))
  (fun _ _ _ h _=>h) ⟨_,t,World.ownsRow_nil _ _ _ _⟩
  (fun s o W=>o={tmps:=#[.slice none 0 0,.func (.func g) #[] lb,.pointer (some ⟨w.heap.size,0,none⟩),undef,.slice none 0 0,.int .u8 s,.func (.func g) #[] lb,.int .u8 s,undef,undef,undef,undef,undef],defers:= []})
  (fun s o A B h hm=>h)
  ?assign ?body ?done ?stop
 case assign=>
  intro l i s W K Z b hI d m
  gi_wp2
  exact m _ _ (Mv.refl _ _) hI rfl
 case body=>
  rintro l i s o W hl ⟨r,hr⟩ Z b ⟨v,f,p⟩ d rfl;have L:i<xs.length:=(List.getElem?_eq_some_iff.1 d).1;have x:xs[i]=s:=(List.getElem?_eq_some_iff.1 d).2;have M:=f.cell;have N:=Xh x;have y:=Xh p;have z:=Xh b;clear x b d hr;have D:xs.take (i+1)=xs.take i++ [s]:=by rw [List.take_succ_eq_append_getElem L,N.out]
  have O:=Xh D;clear D;have E: ∀r,v.ownBlock=some r→a.heap.size+2≤r:=Qi y.out;have F:=Xh E;clear E
  gi_wp2_with (gi_at_builtin;refine wpListIn_append_own _ rfl _ _ 28 rfl (a.heap.size+2) 5 S (.int .u8 0) 1 1 Tryz.underlying28 T V X Y rfl Dc _ _ _ rfl (y.out.alloc _) ⟨W.heap.size,0,none⟩ 1 1 [.int .u8 s] rfl rfl (Qfl _ _ _) (by simp [Value.oneCell']) (by unfold maxLen;omega) Om (by simp;omega) ?_;intro v' G q H _;have P:=Xh q;obtain⟨g',a3,rfl⟩:=ownsRow_succ q;have j:Boxed G w.heap.size 28 v:=(f.alloc _).kept H (fun e=>by have:=F.out _ e.symm;omega);have a1:=j.cell;have a2:=j.frozen;clear q)
  have Q:Mv (fun k=>k=w.heap.size∨a.heap.size+2≤k) W G:=(Mv.al _ (Mv.refl _ _)).trans (Mv.of_grown H fun r e=> .inl (.inr (F.out r e)));refine⟨Mv.st _ (.inl (.inl rfl)) Q,_,j.set _,?_⟩;rw [O.out,List.map_append];exact Qw (C:=fun k=>k=w.heap.size) P.out (Mv.st _ (.inl rfl) (Mv.refl _ _)) (fun k hk e=>by omega)
 case done=>
  rintro W ⟨v,f,p⟩ b m;have M:=f.cell;have z:=Xh b;clear b
  gi_wp2
  refine⟨by simp,.inl ⟨_,_,rfl,run_takeDeferred m,?_⟩⟩;refine⟨_,results_tmp rfl _ _ _,v,rfl,?_,?_⟩
  ·have:=Qw (C:=fun k=>k=a.heap.size) p (Mv.put W a.heap.size (.deferred none) rfl) (fun k hk e=>by omega);rw [List.take_length]at this;exact QA this Om
  ·have R:Ext w W:=Mv.ext_of u z.out (fun k h=>by rcases h with h|h;exact h.elim;omega);exact Mv.ext_of R (Mv.put (C:=fun k=>k=a.heap.size) _ _ _ rfl) (fun k h=>by omega)
 case stop=>intro _ _ h;exact h.elim
theorem QgO(g:Nat)(lb:Array Value)(eg: ∀args w,(callFunc g args).run Tryz.prog w= .ok (.enter g args) w)(xs:List Int)(w:World)(hlen:xs.length≤2000)
  (hseq: ∀(n:Nat) (U:Nat→Prop) w',Ext w w'→(∀k,U k→w.heap.size≤k)→QcT Fence.wide n Tryz.prog g lb (fun s:Int=>#[.int .u8 s]) (fun _=>False) U xs w'):
  Calls Tryz.prog 236 #[.func (.func g) #[] lb] w fun e W'=> ∃v,e= .returned v∧Z8 w W' v xs:=by
 have a:=Xh (QeB g lb eg xs w hlen hseq);clear hseq eg
 go_enter Tryz.func236,Tryz.ntmps236
 go_wp2_with (go_at_call 253;(refine(a.out).mono ?_);rintro e b ⟨v,rfl,h⟩)
 go_ret;exact⟨v,rfl,h⟩
def SlW(w:World)(p:Option Addr)(ns:List Int):Prop:= ∀k,(h:k<ns.length)→ ∃b off,p=some ⟨b,off,none⟩∧b<w.heap.size∧w.cell? ⟨b,off+k,none⟩=some (.int .u16 ns[k])
theorem SlW.ext{p:Option Addr}(h:SlW w p bs)(e:Ext w w'):SlW w' p bs:=fun k hk=>by
 obtain⟨b,a,d,c,f⟩:=h k hk;exact⟨b,a,d,Xl c e.size,(e.cell (p:=⟨b,a+k,none⟩) c).trans f⟩
def Yz:List Int→List Int
 | []=> []
 |n::r=>n/256 % 256::n % 256::Yz r
theorem Jc: ∀ns:List Int,(Yz ns).length=2*ns.length
 | []=>rfl
 |n::r=>by show(Yz r).length+1+1=_;rw [Jc r,List.length_cons];omega
theorem Qib: ∀(ns:List Int) (i:Nat) (h:i<ns.length),(Yz ns)[2*i]?=some (ns[i]/256 % 256)∧(Yz ns)[2*i+1]?=some (ns[i] % 256)
 |n::r,0,_=>⟨rfl,rfl⟩
 |n::r,i+1,h=>by
  have:=Qib r i (by simpa using h);show(_::_::Yz r)[2*(i+1)]?=_∧(_::_::Yz r)[2*(i+1)+1]?=_;rw [show 2*(i+1)=2*i+1+1 by omega,show 2*i+1+1+1=(2*i+1)+1+1 by omega];simpa using this
theorem QgP: ∀ns:List Int,ByR (Yz ns)
 | []=>ByR.nil
 |n::r=>ByR.cons Om (ByR.cons Om (QgP r))
theorem QjD(p:Option Addr)(n c:Nat)(w:World):
  Calls Tryz.prog 237 #[.slice p n c] w fun e w'=>e= .returned (.func (.func 254) #[] #[.pointer (some ⟨w.heap.size,0,none⟩)])∧w'=w.alloc (.cells #[.slice p n c] 270):=by
 go_enter Tryz.func237,Tryz.ntmps237
 go_wp2;go_ret;exact⟨rfl,rfl⟩
theorem Qfm: ∀args w,(callFunc 254 args).run Tryz.prog w= .ok (.enter 254 args) w:=enters_of Tryz.func254 Kr rfl
theorem Qic(n:Nat)(ns:List Int)(p:Option Addr)(c:Nat)(w0 w:World)(Bl:Nat)(U:Nat→Prop)(h0:Ext w0 w)(hs:SlW w0 p ns)(hl:ns.length≤1000)(hc:w.cell? ⟨Bl,0,none⟩=some (.slice p ns.length c))(lb:Lt Bl w)(hU: ∀k,U k→w0.heap.size≤k∧k≠Bl):
  QcT Fence.wide n Tryz.prog 254 #[.pointer (some ⟨Bl,0,none⟩)] (fun x:Int=>#[.int .u8 x]) (fun _=>False) U (Yz ns) w:=by
 intro y J Jx W r D E j F;have HJ:=Xh D;have a3:=Xh E;have z:=Xh hU;have P:=Xh hs;clear D E hU hs;obtain⟨G,H,I,K,j⟩:=j;have g:=Xh j;clear j;have Q:W.cell? ⟨Bl,0,none⟩=some (.slice p ns.length c):=(r.cell (p:=⟨Bl,0,none⟩) lb).trans hc;have R:Lt Bl W:=Xl lb r.size;have A:=h0.tr r;refine callsIn_of_wp Tryz.func254 rfl trivial ?_ rfl;simp only [Tryz.ntmps254,List.size_toArray,List.length_cons,List.length_nil,Nat.reduceAdd,Nat.reduceSub,Array.replicate_succ,Array.replicate_zero,List.push_toArray,List.append_toArray,List.nil_append,List.cons_append];refine wpIn_wide.2 ?_;go_wp2
 go_loopw [4,7] (fun _ a wr=> ∃i:Nat,i≤ns.length∧a= .int .i64 i∧J (2*i) wr∧Ext w0 wr) (fun _ a _=>ns.length- (intOf a).toNat)
 case atStart=>exact⟨0,Nat.zero_le _,rfl,F,A⟩
 case round=>
  clear Q R A F;obtain⟨i,hi,rfl,l,s⟩:=hrel
  by_cases C:i<ns.length
  ·have a4:(i:Int)<ns.length:=by omega
   obtain⟨b,a8,rfl,Y,L⟩:=(P.out.ext s) i C;obtain⟨m,t⟩:=Qib ns i C;obtain⟨x,M⟩: ∃x,ns[i]=x:=⟨_,rfl⟩;rw [M]at L m t;have a5:Lt b wr:=Y;have a6:IntKind.u8.wrap (x/256)=x/256 % 256:=Ye _;have a7:IntKind.u8.wrap x=x % 256:=Ye _;have q:(Instr.yield y #[.int .u8 (x/256 % 256)]).run Tryz.prog wr= .ok (.round y G (H #[.int .u8 (x/256 % 256)]) I K) wr:=(g.out (2*i) _ wr l m).1;have d:=Xh (g.out (2*i) _ wr l m).2;have B:=Xh t;have S:=Xh s;clear M l m t s
   go_upto_region 3 with(fail)
   refine(wpIn_wide (n:=n)).1 ?_
   gi_wp2
   refine⟨(fun h=>by cases h),(d.out).mono ?_⟩;rintro e o ⟨Z,rfl,u⟩;clear q d L;obtain⟨rfl,v,N⟩|⟨rfl,a0⟩:=u
   ·have q:(Instr.yield y #[.int .u8 (x % 256)]).run Tryz.prog o= .ok (.round y G (H #[.int .u8 (x % 256)]) I K) o:=(g.out (2*i+1) _ o v B.out).1;have d:=Xh (g.out (2*i+1) _ o v B.out).2;have T:=Xh N;clear v N
    gi_wp2
    refine⟨(fun h=>by cases h),(d.out).mono ?_⟩;rintro e w7 ⟨Z,rfl,u⟩;clear q d;obtain⟨rfl,a1,O⟩|⟨rfl,a2⟩:=u
    ·have V:Ext w0 w7:=Mv.ext_of (Mv.ext_of S.out T.out (fun k h=>by rcases h with h|h;exact(z.out _ h).1;exact Xt h0.size h)) O (fun k h=>by rcases h with h|h;exact(z.out _ h).1;exact Xt h0.size h);clear O
     gi_wp2
     go_wp2
     go_roundw
     case rel=>exact⟨i+1,Om,by go_num,by rw [show 2*(i+1)=2*i+1+1 by omega];exact a1,V⟩
     case measure=>simp [intOf];omega
    ·gi_wp2
     go_wp2;refine bodyPost_ret (results_none rfl _ _ _) rfl ⟨⟨_,rfl⟩,.inr a2⟩
   ·gi_wp2
    all_goals
     refine⟨(fun f h=>by cases h),?_⟩
     gi_wp2
     go_wp2;exact bodyPost_ret (results_none rfl _ _ _) rfl ⟨⟨_,rfl⟩,.inr a0⟩
  ·obtain rfl:i=ns.length:=by omega
   have X:=Xh (Jc ns);go_wp2
   go_end0
   exact⟨⟨_,rfl⟩,.inl (by rw [X.out];exact l)⟩
def psN(src dst n:Int):List Int:= [src/65536 % 65536,src % 65536,dst/65536 % 65536,dst % 65536,6,n % 65536]
def Z4(src dst n:Int):List Int:=Yz (psN src dst n)
theorem Jd(src dst n:Int):(Z4 src dst n).length=12:=by unfold Z4;rw [Jc];rfl
theorem QoY{W1 w2:World}{ns:List Int}(sw:SlW W1 (some ⟨B,0,none⟩) ns)(g1:Ext w W1){c:Nat}(h:w2=W1.alloc (.cells #[.slice (some ⟨B,0,none⟩) m c] 270))(hm:m=ns.length:=by rfl)(hl:ns.length≤1000:=by first|decide|(show 6≤1000;omega)):
  Calls Tryz.prog 236 #[.func (.func 254) #[] #[.pointer (some ⟨W1.heap.size,0,none⟩)]] w2 fun e w'=> ∃v,e= .returned v∧Z8 w w' v (Yz ns):=by
 subst hm;have a:Ext W1 w2:=by rw [h];exact Ea
 have f:w2.cell? ⟨W1.heap.size,0,none⟩=some (.slice (some ⟨B,0,none⟩) ns.length c):=by rw [h];simp [go_sem]
 have b:Lt W1.heap.size w2:=by rw [h];simp [go_sem]
 refine(QgO 254 #[.pointer (some ⟨W1.heap.size,0,none⟩)] Qfm (Yz ns) w2 (by rw [Jc];omega) (fun n U w' hE hU=> ?_)).mono ?_
 ·exact Qic n ns _ c w2 w' W1.heap.size U hE (sw.ext a) hl ((hE.cell (p:=⟨W1.heap.size,0,none⟩) b).trans f) (Xl b hE.size) (fun k hk=>⟨hU k hk,fun e=>by have:=hU k hk;unfold Lt at b;omega⟩)
 ·rintro e w' ⟨v,g,d⟩;exact⟨v,g,⟨d.own.le (Xt g1.size a.size),(g1.tr a).tr d.ext⟩⟩
theorem QfW(src dst n:Int):ByR (Z4 src dst n):=QgP _
theorem SlW.row{ns:List Int}(h:Qc w B=(ns.map (Value.int .u16)).toArray)(hl:Lt B w):SlW w (some ⟨B,0,none⟩) ns:=fun k hk=>⟨B,0,rfl,hl,by rw [Qa,h];simp [List.getElem?_map,List.getElem?_eq_getElem hk]⟩
theorem QeC(src dst n:Int)(w:World):
  Calls Tryz.prog 217 #[.int .u32 src,.int .u32 dst,.int .i64 n] w fun e w'=> ∃v,e= .returned v∧Z8 w w' v (Z4 src dst n):=by
 go_enter Tryz.func217,Tryz.ntmps217
 go_upto_region 2 with(fail)
 simp only [Q4];obtain⟨b,a⟩: ∃b,w.alloc (.cells #[.int .u16 (src/65536 % 65536),.int .u16 (src % 65536),.int .u16 (dst/65536 % 65536),.int .u16 (dst % 65536),.int .u16 6,.int .u16 (n % 65536)] 266)=b:=⟨_,rfl⟩;have d:Ext w b:=by rw [←a];exact Ea
 have f:SlW b (some ⟨w.heap.size,0,none⟩) (psN src dst n):=SlW.row (by rw [←a,Zn];rfl) (by rw [←a];simp [go_sem]);rw [a];clear a
 go_wp2_with (first|(go_at_call 237;(with_reducible refine(QjD _ _ _ _).mono ?_);rintro e i ⟨rfl,c⟩;have g:=Xh (QoY f d c);clear c)|(go_at_call 236;(with_reducible refine(g.out).mono ?_);rintro e j ⟨v,rfl,h⟩))
 go_ret;exact⟨v,rfl,h⟩
theorem QmP{w1 w2:World}{v v2:Value}{xs ys:List Int}(h:Z8 w w1 v xs)(ho:w2.ownsRow w.heap.size 5 1 v2 (xs.length+ys.length) (xs.map (Value.int .u8)++ys.map (Value.int .u8)))(hg:w1.grownBy w2 v.ownBlock):Z8 w w2 v2 (xs++ys):=by
 refine⟨?_,Mv.ext_of h.ext (Qcp h.own hg) (fun k hk=>hk)⟩;unfold OB;rw [List.length_append,List.map_append];exact ho
theorem QmQ(src dst:Int)(p:Option Addr)(bs:List Int)(c:Nat)(w:World)(hs:SlB w p bs)(hl:bs.length≤1000):
  Calls Tryz.prog 175 #[.int .u32 src,.int .u32 dst,.slice p bs.length c] w fun e w'=> ∃v,e= .returned v∧Z8 w w' v (Z4 src dst bs.length++bs):=by
 obtain⟨n,o,q,r,s⟩:=info_parts YB
 cases p with
 |none=>
  have i:bs= []:=hs.nil_of;subst i
  go_enter Tryz.func175,Tryz.ntmps175
  go_wp2_with (go_at_call 217;(refine(QeC src dst _ _).mono ?_);rintro e f ⟨v,rfl,b⟩;obtain⟨x,y,rfl,z,-,-,-,-⟩:=b.own.at (by rw [Jd];omega);have d:=Xh b;clear b)
  go_ret;exact⟨_,rfl,by rw [List.append_nil];exact d.out⟩
 |some a=>
  have j:=Xh hs;clear hs
  go_enter Tryz.func175,Tryz.ntmps175
  go_wp2_with (first|(go_at_call 217;(with_reducible refine(QeC src dst _ _).mono ?_);rintro e f ⟨v,rfl,b⟩;have k:=Xh ((j.out).news b.ext);have d:=Xh b;have u:=Jd src dst bs.length;clear b)|(at_builtin;refine wpList_append_own _ rfl _ _ 28 rfl w.heap.size 5 n (.int .u8 0) 1 1 Tryz.underlying28 o q r s rfl Dc _ _ _ rfl d.out.own a bs.length c (bs.map (Value.int .u8)) rfl (by simp) k.out (oneB _) (by unfold maxLen;omega) Om (d.out.ext.size) ?_;intro t f g h _;have l:=Xh g;have m:=Xh h;clear g h))
  go_ret;exact⟨t,rfl,QmP d.out l.out m.out⟩
section
variable {P:Program} {ops:Array Oper} {md:Region.Mode} {C D:Nat→Prop} {r:Nat}
def QP(C D:Nat→Prop)(r:Nat)(P:Program)(md:Region.Mode)(ops:Array Oper)(Q:Act→World→Prop):Nat→Array Bool→Act→World→Prop
 |0,listed,a,w=>Region.ready md ops listed= []∧Q a w
 |fuel+1,listed,a,w=>(Region.ready md ops listed= []→Q a w)∧
  ∀i∈Region.ready md ops listed,Jj P ops i (fun a' w'=>((r≤i∨Mv C w w')∧Mv D w w')∧QP C D r P md ops Q fuel (listed.setIfInBounds i true) a' w') a w
theorem QeD{Q':Exit→Act→World→Prop}(hQ: ∀a w,Q a w→Q' .normal a w): ∀(fuel:Nat) (listed:Array Bool) (a:Act) (w:World),
  QP C D r P md ops Q fuel listed a w→wpAny P md ops Q' fuel listed a w
 |0,_,_,_,h=>⟨h.1,hQ _ _ h.2⟩
 |fuel+1,_,_,_,h=>⟨fun h0=>hQ _ _ (h.1 h0),fun i hi=>Qcn (Jv (fun a' w' h1=>QeD hQ fuel _ a' w' h1.2) (h.2 i hi))⟩
def lateB(md:Region.Mode)(ops:Array Oper)(r k:Nat):Bool:=(List.range ops.size).all fun j=>decide (j<r)||((ops[j]?).map fun o=>o.after.any fun e=>Region.binds md e&&e.on==k).getD true
theorem QmR(h:lateB md ops r k=true): ∀j oj,ops[j]?=some oj→r≤j→ ∃e∈oj.after,Region.binds md e=true∧e.on=k:=by
 intro j oj a f;unfold lateB at h;have:=List.all_eq_true.1 h j (List.mem_range.2 (Array.getElem?_eq_some_iff.1 a).1);rw [a,decide_eq_false Om]at this;simp only [Option.map_some,Option.getD_some,Bool.false_or,Array.any_eq_true',Bool.and_eq_true,beq_iff_eq]at this;obtain⟨e,b,c,d⟩:=this;exact⟨e,b,c,d⟩
theorem QbH{E:Nat→Prop}{v:Value}(hi:ops[i]?=some oi)(hE: ∀j oj A B,ops[j]?=some oj→(∀e∈oj.after,Region.binds md e=true→e.on≠i)→(r≤j∨Mv C A B)→Mv D A B→Mv E A B)(hsel: ∀(j:Nat) (o:Oper) cs b,ops[j]?=some o→o.op≠ .select cs b):
  ∀(fuel:Nat) (listed:Array Bool) (a:Act) (w:World),
   (∀j oj,ops[j]?=some oj→j≠i→listed.getD j true=false→(∀e∈oj.after,Region.binds md e=true→e.on≠i)→oi.apart ops oj=true)→
   i∈Region.ready md ops listed→Yr E P ops w oi v a→
   QP C D r P md ops Q fuel (listed.setIfInBounds i true) (a.put oi.dst v) w→QP C D r P md ops Q (fuel+1) listed a w:=by
 intro fuel
 induction fuel with
 |zero=>
  intro listed a w _ f g H;refine⟨fun h=>(by rw [h]at f;cases f),fun j hj=> ?_⟩
  by_cases c:j=i
  ·subst c;exact g.xOpK hi ⟨⟨.inr (Mv.refl _ _),Mv.refl _ _⟩,H⟩
  ·have:=ready_mono hj c;rw [H.1]at this
   cases this
 |succ fuel ih=>
  intro listed a w q f g H;refine⟨fun h=>(by rw [h]at f;cases f),fun j hj=> ?_⟩
  by_cases c:j=i
  ·subst c;exact g.xOpK hi ⟨⟨.inr (Mv.refl _ _),Mv.refl _ _⟩,H⟩
  ·have d:=H.2 j (ready_mono hj c);obtain⟨s,oj,l,hall⟩:=mem_ready.1 hj;have m: ∀e∈oj.after,Region.binds md e=true→e.on≠i:=fun e he hb heq=>by
    have d:=hall e he hb;have n:=(mem_ready.1 f).1;rw [heq]at d;rcases Nat.lt_or_ge i listed.size with h'|h'
    ·simp [h']at n d;rw [n]at d;cases d
    ·simp [Array.getElem?_eq_none h']at d
   have t:=Qel l (q j oj l c s m) (fun cs b=>hsel i oi cs b hi) (fun cs b=>hsel j oj cs b l) g d;have u: ∀k ok,ops[k]?=some ok→k≠i→(listed.setIfInBounds j true).getD k true=false→
     (∀e∈ok.after,Region.binds md e=true→e.on≠i)→oi.apart ops ok=true:=fun k ok hk hki hun hno=>by
    refine q k ok hk hki ?_ hno
    by_cases p:j=k
    ·subst p;exact s
    ·rw [getD_set_ne true p]at hun;exact hun
   refine Jv (fun a' w' h3=>⟨h3.2.1,ih (listed.setIfInBounds j true) a' w' u (ready_mono f (Ne.symm c)) (h3.1.later (hE j oj _ _ l m h3.2.1.1 h3.2.1.2)) ?_⟩) t;have x:=h3.2.2;rw [Array.setIfInBounds_comm _ _ c];exact x
theorem QZ{listed:Array Bool}(hr:Region.ready md ops listed= [])(H:Q a w):QP C D r P md ops Q fuel listed a w:=by
 cases fuel with
 |zero=>exact⟨hr,H⟩
 |succ n=>exact⟨fun _=>H,fun i hi=>by rw [hr]at hi;cases hi⟩
theorem Qy{id:Nat}{Q:Exit→Act→World→Prop}(C D:Nat→Prop)(r:Nat)(hm:P.follows .mixedOrders=true)
  (h:QP C D r P .any ops (fun a w=>Q .normal a w) ops.size (Array.replicate ops.size false) a w.drew):(Code.region id ops true).wp P Q a w:=
 wp_region_any hm (QeD (fun _ _ h=>h) _ _ _ _ h)
def Qo(ops:Array Oper)(n:Nat):List Nat→Nat→Bool
 | [],_=>true
 |k::rest,m=>Region.free .any ops (msk n m) k&&upX ops (msk n m) k&&Qo ops n rest (m|||(1<<<k))
theorem Qb5{rest:List Nat}(ht:Qo ops N (k::rest) m=true)(hm:m|||(1<<<k)=m'):Region.free .any ops (msk N m) k=true∧upX ops (msk N m) k=true∧(msk N m).setIfInBounds k true=msk N m'∧Qo ops N rest m'=true:=by
 unfold Qo at ht;simp only [Bool.and_eq_true]at ht;obtain⟨⟨a,b⟩,c⟩:=ht;exact⟨a,b,by rw [Qcq,hm],by rw [←hm];exact c⟩
theorem ZD{rest:List Nat}{v:Value}(hs:Region.noSelect ops=true)(ht:Qo ops N (k::rest) m=true)(hl:lateB .any ops r k=true)(hm:m|||(1<<<k)=m')
  (hi:ops[k]?=some oi)(hw:Region.wanted oi (yielded ops a.tmps)=true)(hy: ∀w',Mv C w w'→(execOp a.eval oi).run P w'= .ok (.value v) w')
  (H:Qo ops N rest m'=true→QP C D r P .any ops Q fuel (msk N m') (a.put oi.dst v) w):QP C D r P .any ops Q (fuel+1) (msk N m) a w:=by
 obtain⟨b,c,d,f⟩:=Qb5 ht hm;refine QbH hi (fun j oj A B hoj hn h _=>h.elim (fun h=>let ⟨e,he,hb,ho⟩:=QmR hl j oj hoj h;absurd ho (hn e he hb)) id) (Region.noSelect_spec hs) fuel _ a w (Region.free_spec hi b) (by simpa using ZZ c) (.inl ⟨hw,hy⟩) ?_;rw [d];exact H f
theorem QoZ{rest:List Nat}{v:Value}(hs:Region.noSelect ops=true)(ht:Qo ops N (k::rest) m=true)(hm:m|||(1<<<k)=m')
  (hi:ops[k]?=some oi)(hw:Region.wanted oi (yielded ops a.tmps)=true)(hy: ∀w',Mv D w w'→(execOp a.eval oi).run P w'= .ok (.value v) w')
  (H:Qo ops N rest m'=true→QP C D r P .any ops Q fuel (msk N m') (a.put oi.dst v) w):QP C D r P .any ops Q (fuel+1) (msk N m) a w:=by
 obtain⟨b,c,d,e⟩:=Qb5 ht hm;refine QbH hi (fun _ _ _ _ _ _ _ h=>h) (Region.noSelect_spec hs) fuel _ a w (Region.free_spec hi b) (by simpa using ZZ c) (.inl ⟨hw,hy⟩) ?_;rw [d];exact H e
theorem Qvo{rest:List Nat}(hs:Region.noSelect ops=true)(ht:Qo ops N (k::rest) m=true)(hm:m|||(1<<<k)=m')
  (hi:ops[k]?=some oi)(hw:Region.wanted oi (yielded ops a.tmps)=false)
  (H:Qo ops N rest m'=true→QP C D r P .any ops Q fuel (msk N m') (a.put oi.dst undef) w):QP C D r P .any ops Q (fuel+1) (msk N m) a w:=by
 obtain⟨b,c,d,e⟩:=Qb5 ht hm;refine QbH hi (fun _ _ _ _ _ _ _ h=>h) (Region.noSelect_spec hs) fuel _ a w (Region.free_spec hi b) (by simpa using ZZ c) (.inr (.inl ⟨hw,rfl⟩)) ?_;rw [d];exact H e
structure QaX(C D:Nat→Prop)(r:Nat)(P:Program)(ops:Array Oper)(Q:Act→World→Prop)(fuel N k m:Nat)(a:Act)(w:World):Prop where
 h:Jj P ops k (fun a' w'=>((r≤k∨Mv C w w')∧Mv D w w')∧QP C D r P .any ops Q fuel (msk N (m|||(1<<<k))) a' w') a w
theorem Qr(hr:Region.ready .any ops (msk N m)= [k])(H:QaX C D r P ops Q fuel N k m a w):QP C D r P .any ops Q (fuel+1) (msk N m) a w:=by
 refine⟨fun h0=> ?_,fun j hj=> ?_⟩
 ·rw [hr]at h0;cases h0
 ·rw [hr]at hj;obtain rfl:j=k:=by simpa using hj
  rw [Qcq];exact H.h
theorem QmS{j:Nat}(hr:Region.ready .any ops (msk N m)= [i,j])(Hi:QaX C D r P ops Q fuel N i m a w)(Hj:QaX C D r P ops Q fuel N j m a w):QP C D r P .any ops Q (fuel+1) (msk N m) a w:=by
 refine⟨fun h0=> ?_,fun k hk=> ?_⟩
 ·rw [hr]at h0;cases h0
 ·rw [hr]at hk;have b:k=i∨k=j:=by simpa using hk
  rw [Qcq];rcases b with rfl|rfl
  ·exact Hi.h
  ·exact Hj.h
theorem Zq{v:Value}{w1:World}(hm:m|||(1<<<k)=m')(hi:ops[k]?=some oi)(hw:Region.wanted oi (yielded ops a.tmps)=true)
  (he:(execOp a.eval oi).run P w= .ok (.value v) w1)(hE:(r≤k∨Mv C w w1)∧Mv D w w1)(H:QP C D r P .any ops Q fuel (msk N m') (a.put oi.dst v) w1):QaX C D r P ops Q fuel N k m a w:=by
 refine⟨?_⟩;unfold Jj;simp only [hi,hw,if_true,he,hm];exact⟨hE,H⟩
theorem QE{w1:World}(hm:m|||(1<<<k)=m')(hi:ops[k]?=some oi)(hw:Region.wanted oi (yielded ops a.tmps)=true)
  (he:(execOp a.eval oi).run P w= .ok .skip w1)(hE:(r≤k∨Mv C w w1)∧Mv D w w1)(H:QP C D r P .any ops Q fuel (msk N m') (a.put oi.dst undef) w1):QaX C D r P ops Q fuel N k m a w:=by
 refine⟨?_⟩;unfold Jj;simp only [hi,hw,if_true,he,hm];exact⟨hE,H⟩
theorem QlH{R:Value→World→Prop}{f:FuncId}{args:Array Value}(hm:m|||(1<<<k)=m')(hi:ops[k]?=some oi)(hw:Region.wanted oi (yielded ops a.tmps)=true)
  (he:(execOp a.eval oi).run P w= .ok (.enter f args) w)(hc:Calls P f args w fun e w'=> ∃v,e= .returned v∧R v w'∧Ext w w')
  (H: ∀v w',Ext w w'→R v w'→QP C D r P .any ops Q fuel (msk N m') (a.put oi.dst v) w'):QaX C D r P ops Q fuel N k m a w:=by
 refine⟨?_⟩;unfold Jj;simp only [hi,hw,if_true,he,hm];exact hc.mono fun e w' ⟨v,h1,h2,h3⟩=>⟨v,h1,⟨.inr (Mv.of_ext h3),Mv.of_ext h3⟩,H v w' h3 h2⟩
theorem Zi{E:Array Oper}{R:Array Oper→Prop}(h:ops=E)(hR:R E)(hf:ops.size=N)
  (H:R ops→QP C D r P .any ops Q N (msk N 0) a w):QP C D r P .any ops Q ops.size (Array.replicate ops.size false) a w:=by
 rw [hf,QhY];exact H (h▸hR)
end
section
variable {P:Program} {ops:Array Oper} {C D:Nat→Prop} {r:Nat}
theorem tW{rest:List Nat}(m':Nat)(v:Value)(hs:Region.noSelect ops=true)(ht:Qo ops N (k::rest) m=true)(hi:ops[k]?=some oi)(hy: ∀w',Mv D w w'→(execOp a.eval oi).run P w'= .ok (.value v) w')
  (H:Qo ops N rest m'=true→QP C D r P .any ops Q fuel (msk N m') (a.put oi.dst v) w)(hm:m|||(1<<<k)=m':=by rfl)(hw:Region.wanted oi (yielded ops a.tmps)=true:=by kernel_rfl):QP C D r P .any ops Q (fuel+1) (msk N m) a w:=QoZ hs ht hm hi hw hy H
theorem tWk{rest:List Nat}(m':Nat)(v:Value)(hs:Region.noSelect ops=true)(ht:Qo ops N (k::rest) m=true)(hi:ops[k]?=some oi)
  (H:Qo ops N rest m'=true→QP C D r P .any ops Q fuel (msk N m') (a.put oi.dst v) w)(hm:m|||(1<<<k)=m':=by rfl)(hw:Region.wanted oi (yielded ops a.tmps)=true:=by kernel_rfl)(hy: ∀w',Mv D w w'→(execOp a.eval oi).run P w'= .ok (.value v) w':=by(intro _ _;kernel_rfl)):QP C D r P .any ops Q (fuel+1) (msk N m) a w:=QoZ hs ht hm hi hw hy H
theorem tVU{rest:List Nat}(m':Nat)(hs:Region.noSelect ops=true)(ht:Qo ops N (k::rest) m=true)(hi:ops[k]?=some oi)
  (H:Qo ops N rest m'=true→QP C D r P .any ops Q fuel (msk N m') (a.put oi.dst undef) w)(hm:m|||(1<<<k)=m':=by rfl)(hw:Region.wanted oi (yielded ops a.tmps)=false:=by kernel_rfl):QP C D r P .any ops Q (fuel+1) (msk N m) a w:=Qvo hs ht hm hi hw H
theorem sV{f:FuncId}{args:Array Value}(m':Nat)(R:Value→World→Prop)(hr:Region.ready .any ops (msk N m)= [k])(hi:ops[k]?=some oi)(hc:Calls P f args w fun e w'=> ∃v,e= .returned v∧R v w'∧Ext w w')
  (H: ∀v w',Ext w w'→R v w'→QP C D r P .any ops Q fuel (msk N m') (a.put oi.dst v) w')(hm:m|||(1<<<k)=m':=by rfl)(hw:Region.wanted oi (yielded ops a.tmps)=true:=by kernel_rfl)(he:(execOp a.eval oi).run P w= .ok (.enter f args) w:=by kernel_rfl):QP C D r P .any ops Q (fuel+1) (msk N m) a w:=Qr hr (QlH hm hi hw he hc H)
end
@[go_sem] theorem QzR:Fits o m #[a0,a1,a2,a3,a4]=(o+m≤5):=by unfold Fits;rfl
@[go_sem] theorem QwU:Qn #[a0,a1,a2,a3,a4] 5=True:=by unfold Qn;exact eq_true rfl
@[go_sem] theorem QzS:QK #[a0,a1,a2,a3,a4]=(a0.oneCell'=true∧a1.oneCell'=true∧a2.oneCell'=true∧a3.oneCell'=true∧a4.oneCell'=true):=by
 unfold QK;simp [and_assoc]
@[go_sem ↓ high] theorem Qx5:(Value.agg #[a0,a1,a2,a3,a4]).cells=#[a0,a1,a2,a3,a4]:=QF _
@[go_sem] theorem QzT:QB #[a0,a1,a2,a3,a4] 0 5=#[a0,a1,a2,a3,a4]:=rfl
theorem QgR:(Tryz.prog.info? 142).map (·.size)=some 5:=Kr
theorem QmT{b:Nat}(h:o+5≤(Qc w b).size):(Instr.loadAt 142 (.pointer (some ⟨b,o,none⟩))).run Tryz.prog w= .ok (.agg ((Qc w b).extract o (o+5))) w:=by
 have:=run_loadAt_mid w b o 142 ((Qc w b).extract o (o+5)).toList _ (QC w b o (o+5)) Tryz.underlying142 rfl (by rw [QgR];simp;omega)
 rwa [Array.toArray_toList]at this
theorem QjE{b:Nat}(h:o+5≤(Qc w b).size):(loadVar 142 ⟨b,o,none⟩).run Tryz.prog w= .ok (.agg ((Qc w b).extract o (o+5))) w:=by
 have:=run_loadVar_mid w b o 142 ((Qc w b).extract o (o+5)).toList _ (QC w b o (o+5)) Tryz.underlying142 rfl (by rw [QgR];simp;omega)
 rwa [Array.toArray_toList]at this
@[go_sem ↓ high] theorem QgS(ρ:Operand→Value)(dst:Option Tmp)(x:Operand)(ty:TypeId)(pos:String)(after:Array Edge)(g:Option (Nat×Bool))(w:World)
  (hx:ρ x= .pointer (some ⟨Qb (ρ x),Qd (ρ x),none⟩))(h:Fits (Qd (ρ x)) 5 (Qc w (Qb (ρ x)))):
  (execOp ρ ⟨dst,.load 142 x,ty,pos,after,g⟩).run Tryz.prog w= .ok (.value (.agg (QB (Qc w (Qb (ρ x))) (Qd (ρ x)) 5))) w:=by
 unfold Fits at h;generalize a:Qb (ρ x)=B at*;generalize b:Qd (ρ x)=O at*;simp only [execOp,hx,Sem.run_bind,QmT h,Result.andThen_ok,Sem.run_pure,QB]
@[go_sem ↓ high] theorem Qug{l:Option Nat}(w:World)
  (hx:ρ x= .pointer (some ⟨Qb (ρ x),Qd (ρ x),none⟩))(h:Fits (Qd (ρ x)) 5 (Qc w (Qb (ρ x)))):
  (Oper.semAt l ρ ⟨dst,.load 142 x,ty,pos,after,g⟩).run Tryz.prog w= .ok (.value (.agg (QB (Qc w (Qb (ρ x))) (Qd (ρ x)) 5))) w:=by rw [Oper.semAt_eq _ _ _ (fun c h=>by cases h)];exact QgS ρ dst x ty pos after g w hx h
@[go_sem ↓ high] theorem Qfn(ρ:Operand→Value)(dst:Option Tmp)(x y:Operand)(ty:TypeId)(pos:String)(after:Array Edge)(g:Option (Nat×Bool))(w:World)
  (hx:ρ x= .pointer (some ⟨Qb (ρ x),Qd (ρ x),none⟩))(hy:ρ y= .agg (ρ y).cells)(hs:Qn (ρ y).cells 5)(h:Fits (Qd (ρ x)) 5 (Qc w (Qb (ρ x))))(hz:Qs w (Qb (ρ x))=(0,0))(h1:QK (ρ y).cells):
  (execOp ρ ⟨dst,.store 142 x y,ty,pos,after,g⟩).run Tryz.prog w= .ok .skip (Qe w (Qb (ρ x)) (Qd (ρ x)) (ρ y).cells):=by
 unfold Fits at h;unfold Qn at hs;generalize b:Qb (ρ x)=B at*;generalize c:Qd (ρ x)=O at*;generalize d:(ρ y).cells=C at*;have a:(Instr.storeAt 142 (.pointer (some ⟨B,O,none⟩)) (.agg C)).run Tryz.prog w= .ok () (Qe w B O C):=
  run_storeAt_mid w B O 142 C (fun j hj=>⟨by rw [Qa,Array.getElem?_eq_getElem Om];rfl,Ql hz _⟩) (by rw [QgR,hs]) h1
 simp only [execOp,hx,hy,Sem.run_bind,a,Result.andThen_ok,Sem.run_pure]
@[go_sem ↓ high] theorem Qsl{l:Option Nat}(w:World)
  (hx:ρ x= .pointer (some ⟨Qb (ρ x),Qd (ρ x),none⟩))(hy:ρ y= .agg (ρ y).cells)(hs:Qn (ρ y).cells 5)(h:Fits (Qd (ρ x)) 5 (Qc w (Qb (ρ x))))(hz:Qs w (Qb (ρ x))=(0,0))(h1:QK (ρ y).cells):
  (Oper.semAt l ρ ⟨dst,.store 142 x y,ty,pos,after,g⟩).run Tryz.prog w= .ok .skip (Qe w (Qb (ρ x)) (Qd (ρ x)) (ρ y).cells):=by rw [Oper.semAt_eq _ _ _ (fun c h=>by cases h)];exact Qfn ρ dst x y ty pos after g w hx hy hs h hz h1
theorem QBs(hs:(Qc w B).size=5)(hz:Qs w B=(0,0))(hcs:cs.size=5)(ho:QK cs)
  (hx:ρ x= .pointer (some ⟨B,0,none⟩))(hy:ρ y= .agg cs):(execOp ρ ⟨dst,.store 142 x y,ty,pos,after,g⟩).run Tryz.prog w= .ok .skip (Qe w B 0 cs):=by
 have e:=Qfn ρ dst x y ty pos after g w (by rw [hx];rfl) (by rw [hy];rfl) (by rw [hy];exact hcs) (by rw [hx];show Fits 0 5 (Qc w B);unfold Fits;omega) (by rw [hx];exact hz) (by rw [hy];exact ho);rw [e,hx,hy];rfl
theorem QeE{tmps:Array Value}{g:Nat}(hp:tmps.getD 6 undef= .pointer (some ⟨g,0,none⟩))(hr:Qc w g=cs)(hc:cs.size=5):
  (results Tryz.f101 tmps).run Tryz.prog w= .ok (.tuple #[.agg cs,tmps.getD 7 undef]) w:=
 QL rfl tmps w g hp (by
  rw [QjE (by rw [hr,hc];omega),hr]
  rw [show cs.extract 0 (0+5)=cs by rw [Nat.zero_add,←hc];simp])
def Qo0(ops:Array Oper):Prop:=Region.noSelect ops=true∧Qo ops 21 [0,2,3,5,6,7,8,9,10,11] 0=true∧Rd ops 21 4077 [1]∧Qo ops 21 [13] 4079=true∧Rd ops 21 12271 [4]∧Rd ops 21 12287 [12]∧Rd ops 21 16383 [14]∧Qo ops 21 [15] 32767=true∧Rd ops 21 65535 [16]∧Qo ops 21 [17] 131071=true∧Rd ops 21 262143 [18]∧Qo ops 21 [19] 524287=true∧Rd ops 21 1048575 [20]∧Rd ops 21 2097151 []∧lateB .any ops 14 10=true
theorem QjF:Qo0 ((Tryz.f101.body.bind (Qh 7)).getD #[]):=⟨Kr,Kr,Rk,Kr,Rk,Rk,Rk,Kr,Rk,Kr,Rk,Kr,Rk,Rk,Kr⟩
theorem QaY{v:Int}(h0:w.cell? ⟨B,i,none⟩=some (.int .i64 v))(hl:Lt B w)(hC: ¬C B)
  (hx:ρ q= .pointer (some ⟨B,i,none⟩)): ∀w',Mv C w w'→(execOp ρ ⟨dst,.load 3 q,ty,pos,after,g⟩).run Tryz.prog w'= .ok (.value (.int .i64 v)) w':=by
 intro w' a;have b:w'.cell? ⟨B,i,none⟩=some (.int .i64 v):=by rw [Qa,Qf (a.same B hl hC),←Qa];exact h0
 simp only [execOp,hx];go_simp
structure Tc where
 sp:Int
 dp:Int
 fl:Int
 hd:Int
 da:List Int
def tcV(t:Tc)(v:Value):Array Value:=#[.int .u16 t.sp,.int .u16 t.dp,.int .u8 t.fl,.int .i64 t.hd,v]
abbrev Qo1:Array Value:=#[.int .u16 0,.int .u16 0,.int .u8 0,.int .i64 0,.slice none 0 0]
def tcN(bs:List Int):Nat:=(bt bs 12).toNat/16*4
def Yn(src dst:Int)(bs:List Int):Int:=
 if bs.length<20 then 8 else if tcN bs<20∨bs.length<tcN bs then 8 else if Qb4 (Z4 src dst bs.length++bs)≠65535 then 9 else 0
def tcT(bs:List Int):Tc:=⟨w16 bs 0,w16 bs 2,bt bs 13,tcN bs,bs.drop (tcN bs)⟩
inductive QlI(src dst:Int)(bs:List Int)(w:World):Ending→World→Prop
 |no {w':World} (h:Yn src dst bs≠0) (e:Ext w w'):QlI src dst bs w (.returned (.tuple #[.agg Qo1,.int .u8 (Yn src dst bs)])) w'
 |yes {w':World} {v:Value} (h:Yn src dst bs=0) (e:Ext w w') (ho:OB w' w.heap.size v (tcT bs).da):QlI src dst bs w (.returned (.tuple #[.agg (tcV (tcT bs) v),.int .u8 0])) w'
theorem QeF{w1:World}{v:Value}(h:Z8 w w1 v bs)(hr:ByR bs)(hl:bs.length≤2000):Cr 174 #[v] w1 (.bool (Qb4 bs==65535)):=by
 obtain⟨p,c,rfl,a,b⟩:=h.sl;exact QjB bs p c w1 b hr Om a
theorem Qid(src dst:Int)(p:Option Addr)(bs:List Int)(c:Nat)(w:World)(hs:SlB w p bs)(hr:ByR bs)(hl:bs.length≤1000)(hlc:bs.length≤c):
  Calls Tryz.prog 101 #[.int .u32 src,.int .u32 dst,.slice p bs.length c] w fun e w'=>QlI src dst bs w e w':=by
 have Z:=Xh hs;have HR:=Xh hr;clear hs hr
 go_enter Tryz.func101,Tryz.ntmps101
 go_upto_region 1 with(fail)
 obtain⟨t,g⟩: ∃t,w.alloc (.cells #[.int .u16 0,.int .u16 0,.int .u8 0,.int .i64 0,.slice none 0 0] 142)=t:=⟨_,rfl⟩;have E:Ext w t:=by rw [←g];exact Ea
 have i:Qc t w.heap.size=Qo1:=by rw [←g];exact Zn _ _ _ _
 have y:Qs t w.heap.size=(0,0):=by rw [←g];simp [go_sem]
 have C:Lt w.heap.size t:=by rw [←g];simp [go_sem]
 rw [g];clear g
 go_wp2_with (fail)
 refine Qp 0 rfl ?_;rcases Nat.lt_or_ge bs.length 20 with h20|h20
 ·have b3:(bs.length:Int)<20:=by omega
  have j:=Xh (show Yn src dst bs=8 by unfold Yn;rw [if_pos h20])
  go_wp2_with (fail)
  go_step3;refine⟨rfl,?_⟩;go_wp2;rw [Exit.noGoto_ret];exact bodyPost_ret (QeE rfl (Qq _ _ _ (by rw [i];try rfl)) rfl) rfl (by rw [←j.out];exact .no (by rw [j.out];omega) (Ext.sa _ (Nat.le_refl _) E))
 have b3: ¬(bs.length:Int)<20:=by omega
 have c1: ¬(65535:Int)<bs.length:=by omega
 have a0:=Xh (Z.out.ext E);obtain⟨b,u,rfl,c0,-⟩:=Z.out 0 Om;obtain⟨x,M⟩: ∃x,bt bs 12=x:=⟨_,rfl⟩;have a9:=(a0.out.bt 12 Om).1;have lb:=(a0.out.bt 12 Om).2;rw [M]at a9;have b4:=QaI HR.out 12;rw [M]at b4;have b5:(12:Int)<bs.length:=by omega
 have hN:x/16*4=((tcN bs:Nat):Int):=by unfold tcN;rw [M];omega
 have b6:tcN bs≤60:=by unfold tcN;omega
 obtain⟨N,a4⟩: ∃N,tcN bs=N:=⟨_,rfl⟩;rw [a4]at hN b6;have J:=Xh a4;have HX:=Xh M;clear M a4;have P:RowZ t w.heap.size Qo1:=⟨i,y,C⟩;have c3:=P.cell 3 (by show 3<5;omega);have f3:=P.frz 3
 go_upto_region 4 with(fail)
 obtain⟨O,g⟩: ∃O,t.setCell ⟨w.heap.size,3,none⟩ (.int .i64 (N:Nat))=O:=⟨_,rfl⟩;have a:RowZ O w.heap.size #[.int .u16 0,.int .u16 0,.int .u8 0,.int .i64 (N:Nat),.slice none 0 0]:=by rw [←g];exact P.set 3 _
 have f:Mv (fun k=>k=w.heap.size) t O:=by rw [←g];exact Mv.st _ (.inl rfl) (Mv.refl _ _)
 have E:=Mv.ext_of E f (fun k e=>by rw [e];exact Nat.le_refl _);have s:=Z.out.ext E;rw [g];clear g P c3 f3 i y C a9 lb f a0 b5 hN;have i:=a.r;have y:=a.z;have C:=a.l;have c3:=a.cell 3 (by show 3<5;omega)
 by_cases t3:N<20
 ·have b7:(N:Int)<20:=by omega
  have j:=Xh (show Yn src dst bs=8 by unfold Yn;rw [if_neg Om,J.out,if_pos (.inl t3)])
  go_wp2_with (fail)
  go_step3;refine⟨rfl,?_⟩;go_wp2;rw [Exit.noGoto_ret];exact bodyPost_ret (QeE rfl (Qq _ _ _ (by rw [i];try rfl)) rfl) rfl (by rw [←j.out];exact .no (by rw [j.out];omega) (Ext.sa _ (Nat.le_refl _) E))
 have b7: ¬(N:Int)<20:=by omega
 by_cases t4:bs.length<N
 ·have b8:(bs.length:Int)<N:=by omega
  have j:=Xh (show Yn src dst bs=8 by unfold Yn;rw [if_neg Om,J.out,if_pos (.inr t4)])
  go_wp2_with (fail)
  go_step3;refine⟨rfl,?_⟩;go_wp2;rw [Exit.noGoto_ret];exact bodyPost_ret (QeE rfl (Qq _ _ _ (by rw [i];try rfl)) rfl) rfl (by rw [←j.out];exact .no (by rw [j.out];omega) (Ext.sa _ (Nat.le_refl _) E))
 have b8: ¬(bs.length:Int)<N:=by omega
 have U3:=Xh (show ¬(tcN bs<20∨bs.length<tcN bs)by rw [J.out];omega);have Q:=Xh (QmQ src dst (some ⟨b,u,none⟩) bs c O s hl);have S:=Xh (ByR.app (QfW src dst bs.length) HR.out);have T:=Xh (show(Z4 src dst bs.length++bs).length≤2000 by rw [List.length_append,Jd];omega);obtain⟨ws,a5⟩: ∃ws,Z4 src dst bs.length++bs=ws:=⟨_,rfl⟩;rw [a5]at Q S T;have b0:=Xh a5;have K:=Xh E;have a1:=Xh a;have a2:=Xh s;clear a5 i y C s E
 cases L:(Qb4 ws==65535)
 ·have j:=Xh (show Yn src dst bs=9 by unfold Yn;rw [if_neg Om,if_neg U3.out,b0.out,if_pos (by simpa using L)])
  go_wp2_with (first|(go_at_call 175;(with_reducible refine(Q.out).mono ?_);rintro e WD ⟨vw,rfl,q⟩;have a3:=Xh (QeF q S.out T.out);have A:=Xh q.ext;clear q)|(go_at_call 174;(with_reducible refine(a3.out).mono ?_);rw [L];rintro e WC ⟨rfl,B⟩;have a:=a1.out.ext (A.out.tr B);have E:=K.out.tr (A.out.tr B);have s:=a2.out.ext (A.out.tr B);have i:=a.r;have y:=a.z;have C:=a.l))
  go_step3;refine⟨rfl,?_⟩;go_wp2;rw [Exit.noGoto_ret];exact bodyPost_ret (QeE rfl (Qq _ _ _ (by rw [i];try rfl)) rfl) rfl (by rw [←j.out];exact .no (by rw [j.out];omega) (Ext.sa _ (Nat.le_refl _) E))
 have j:=Xh (show Yn src dst bs=0 by unfold Yn;rw [if_neg Om,if_neg U3.out,b0.out,if_neg (by simpa using L)])
 go_upto_region 7 with(first|(go_at_call 175;(with_reducible refine(Q.out).mono ?_);rintro e WD ⟨vw,rfl,q⟩;have a3:=Xh (QeF q S.out T.out);have A:=Xh q.ext;clear q)|(go_at_call 174;(with_reducible refine(a3.out).mono ?_);rw [L];rintro e WC ⟨rfl,B⟩;have a:=a1.out.ext (A.out.tr B);have E:=K.out.tr (A.out.tr B);have s:=a2.out.ext (A.out.tr B);have i:=a.r;have y:=a.z;have C:=a.l))
 have hC: ¬(fun k=>w.heap.size≤k) b:=Nat.not_le_of_lt c0;have b1:=HR.out;have b9:=Xh A;clear i y C B L Q S T K a1 a2 b9 c3;refine Qy (fun _=>False) (fun k=>w.heap.size≤k) 14 Kr ?_;obtain⟨WE,g⟩: ∃Wdr,World.drew WC=Wdr:=⟨_,rfl⟩;have U:Ext WC WE:=by rw [←g];exact Ext.dr (Ext.rf _)
 rw [g];clear g;have E:=E.tr U;have s:=s.ext U;have a:=a.ext U;refine Zi (N:=21) (R:=Qo0) (E:=((Tryz.f101.body.bind (Qh 7)).getD #[])) Kr QjF Kr fun hS=> ?_;have d:=hS.2.1;refine tWk 1 (.slice (some ⟨b,u,none⟩) bs.length c) hS.1 d rfl fun d=>tWk 5 (.slice (some ⟨b,u,none⟩) bs.length c) hS.1 d rfl fun d=>tW 13 (.slice (some ⟨b,u+2,none⟩) (bs.length- 2) (c- 2)) hS.1 d rfl (fun w' _=>JM (m:=bs.length) (c:=c) 2 Om Om Kr Kr w') fun d=>tWk 45 (.slice (some ⟨b,u,none⟩) bs.length c) hS.1 d rfl fun d=>tW 109 (.pointer (some ⟨b,u+13,none⟩)) hS.1 d rfl (fun w' _=>Zh (m:=bs.length) (c:=c) 13 Om Kr Kr w') fun d=>tW 237 (.int .u8 (bt bs 13)) hS.1 d rfl (QlB s 13 Om hC Kr) fun d=>tWk 493 (.slice (some ⟨b,u,none⟩) bs.length c) hS.1 d rfl fun d=>tWk 1005 (.pointer (some ⟨w.heap.size,3,none⟩)) hS.1 d rfl fun d=> ?_;refine ZD (N:=21) (k:=10) (m':=2029) (v:= .int .i64 (N:Nat)) hS.1 d hS.2.2.2.2.2.2.2.2.2.2.2.2.2.2 rfl rfl Kr (QaY (a.cell 3 (by show 3<5;omega)) a.l (fun h=>h) Kr) fun d=>tW 4077 (.slice (ZF b u c N) (bs.length- N) (c- N)) hS.1 d rfl (fun w' _=>QaV (lo:=N) (m:=bs.length) Om Om _ _ _ _ _ _ _ _ Kr Kr w') fun d=> ?_;refine sV 4079 (fun v _=>v= .int .u16 (w16 bs 0)) hS.2.2.1 rfl (ZC (QlA s b1 0 (bs.length- 0) (c- 0) Om Om)) ?_;rintro _ c2 a6 rfl;have E:=E.tr a6;have s:=s.ext a6;have a:=a.ext a6;have d:=hS.2.2.2.1;refine tWk 12271 (.pointer (some ⟨w.heap.size,0,none⟩)) hS.1 d rfl fun d=> ?_;refine sV 12287 (fun v _=>v= .int .u16 (w16 bs 2)) hS.2.2.2.2.1 rfl (ZC (QlA s b1 2 (bs.length- 2) (c- 2) Om Om)) ?_;rintro _ c4 a7 rfl;have E:=E.tr a7;have s:=s.ext a7;have a:=a.ext a7;refine sV 16383 (fun v w'=>OBn w' w.heap.size v (bs.drop N)) hS.2.2.2.2.2.1 rfl (QgL (p:=ZF b u c N) (n:=bs.length- N) (c:=c- N) (lo:=w.heap.size) (s.cut N Om) (by rw [List.length_drop];omega) (by rw [List.length_drop]) a.l) ?_;rintro D b2 a8 o;have E:=E.tr a8;have s:=s.ext a8;have a:=a.ext a8;refine Qr hS.2.2.2.2.2.2.1 (QE (m':=32767) rfl rfl Kr (Qh7 (v:=w16 bs 0) (a.cell 0 (by show 0<5;omega)) (a.frz 0) Kr Kr) ⟨.inl Dc,(Mv.st _ (.inl (Nat.le_refl _)) (Mv.refl _ _))⟩ ?_);obtain⟨F,V⟩: ∃F,World.setCell b2 ⟨w.heap.size,0,none⟩ (.int .u16 (w16 bs 0))=F:=⟨_,rfl⟩;have f:Mv (fun k=>k=w.heap.size) b2 F:=by rw [←V];exact Mv.st _ (.inl rfl) (Mv.refl _ _)
 have E:=Mv.ext_of E f (fun k e=>by rw [e];exact Nat.le_refl _);have o:=o.mv f (fun k e=>by omega);have a:RowZ F w.heap.size #[.int .u16 (w16 bs 0),.int .u16 (0),.int .u8 (0),.int .i64 (N:Nat),.slice none 0 0]:=by rw [←V];exact a.set 0 _
 rw [V];clear V;have d:=hS.2.2.2.2.2.2.2.1;refine tWk 65535 (.pointer (some ⟨w.heap.size,1,none⟩)) hS.1 d rfl fun d=> ?_;refine Qr hS.2.2.2.2.2.2.2.2.1 (QE (m':=131071) rfl rfl Kr (Qh7 (v:=w16 bs 2) (a.cell 1 (by show 1<5;omega)) (a.frz 1) Kr Kr) ⟨.inl Dc,(Mv.st _ (.inl (Nat.le_refl _)) (Mv.refl _ _))⟩ ?_);obtain⟨G,W⟩: ∃G,World.setCell F ⟨w.heap.size,1,none⟩ (.int .u16 (w16 bs 2))=G:=⟨_,rfl⟩;have f:Mv (fun k=>k=w.heap.size) F G:=by rw [←W];exact Mv.st _ (.inl rfl) (Mv.refl _ _)
 have E:=Mv.ext_of E f (fun k e=>by rw [e];exact Nat.le_refl _);have o:=o.mv f (fun k e=>by omega);have a:RowZ G w.heap.size #[.int .u16 (w16 bs 0),.int .u16 (w16 bs 2),.int .u8 (0),.int .i64 (N:Nat),.slice none 0 0]:=by rw [←W];exact a.set 1 _
 rw [W];clear W;have d:=hS.2.2.2.2.2.2.2.2.2.1;refine tWk 262143 (.pointer (some ⟨w.heap.size,2,none⟩)) hS.1 d rfl fun d=> ?_;refine Qr hS.2.2.2.2.2.2.2.2.2.2.1 (QE (m':=524287) rfl rfl Kr (QgM (v:=bt bs 13) (a.cell 2 (by show 2<5;omega)) (a.frz 2) Kr Kr) ⟨.inl Dc,(Mv.st _ (.inl (Nat.le_refl _)) (Mv.refl _ _))⟩ ?_);obtain⟨H,X⟩: ∃H,World.setCell G ⟨w.heap.size,2,none⟩ (.int .u8 (bt bs 13))=H:=⟨_,rfl⟩;have f:Mv (fun k=>k=w.heap.size) G H:=by rw [←X];exact Mv.st _ (.inl rfl) (Mv.refl _ _)
 have E:=Mv.ext_of E f (fun k e=>by rw [e];exact Nat.le_refl _);have o:=o.mv f (fun k e=>by omega);have a:RowZ H w.heap.size #[.int .u16 (w16 bs 0),.int .u16 (w16 bs 2),.int .u8 (bt bs 13),.int .i64 (N:Nat),.slice none 0 0]:=by rw [←X];exact a.set 2 _
 rw [X];clear X;have d:=hS.2.2.2.2.2.2.2.2.2.2.2.1;refine tWk 1048575 (.pointer (some ⟨w.heap.size,4,none⟩)) hS.1 d rfl fun d=> ?_;refine Qr hS.2.2.2.2.2.2.2.2.2.2.2.2.1 (QE (m':=2097151) rfl rfl Kr (QeA (v:=D) (a.cell 4 (by show 4<5;omega)) (a.frz 4) o.slice Kr Kr) ⟨.inl Dc,(Mv.st _ (.inl (Nat.le_refl _)) (Mv.refl _ _))⟩ ?_);obtain⟨I,Y⟩: ∃I,World.setCell H ⟨w.heap.size,4,none⟩ (D)=I:=⟨_,rfl⟩;have f:Mv (fun k=>k=w.heap.size) H I:=by rw [←Y];exact Mv.st _ (.inl rfl) (Mv.refl _ _)
 have E:=Mv.ext_of E f (fun k e=>by rw [e];exact Nat.le_refl _);have o:=o.mv f (fun k e=>by omega);have a:RowZ I w.heap.size #[.int .u16 (w16 bs 0),.int .u16 (w16 bs 2),.int .u8 (bt bs 13),.int .i64 (N:Nat),D]:=by rw [←Y];exact a.set 4 _
 rw [Y];clear Y;refine QZ hS.2.2.2.2.2.2.2.2.2.2.2.2.2.1 ?_;clear hS d;go_simp;have i:=a.r;have y:=a.z;have v1:D.oneCell'=true:=by obtain⟨_,_,_,h⟩:=o.slice;rw [h];rfl
 have K:=Xh E;have HO:=Xh o;clear E o U;go_wp2;simp only [Exit.jump];have f:Mv (fun k=>k=w.heap.size) I (Qe I w.heap.size 0 #[.int .u16 (w16 bs 0),.int .u16 (w16 bs 2),.int .u8 (bt bs 13),.int .i64 (N:Nat),D]):=Mv.sa _ rfl (Mv.refl _ _);refine bodyPost_ret (QeE rfl (Qq _ _ _ (by rw [i];try rfl)) rfl) rfl ?_;have h2:=HO.out.mv f (fun k e=>by omega);have q:=QlI.yes (src:=src) (dst:=dst) (bs:=bs) (v:=D) j.out (Mv.ext_of K.out f (fun k e=>by rw [e];exact Nat.le_refl _)) (by unfold tcT;rw [J.out];exact h2.ob);unfold tcT at q;rw [J.out]at q;exact q
def QlJ{α:Type}(F:Fence)(n:Nat)(P:Program)(g:Nat)(lb:Array Value)(encs:α→Array Value)(T U:Nat→Prop)(S:World→Prop)(xs:List α)(w:World):Prop:=
 ∀(l:Nat) (J:Nat→World→Prop) (Jx:World→Prop) (W:World),Ext w W→w.heap.size+2≤W.heap.size→
  (∀i A B,J i A→Mv T A B→J i B)→(∀A B,Jx A→Mv T A B→Jx B)→
  (∃(fn:FuncId) (tm:Array Value→Array Value) (assign body:Code),∀i x W1,J i W1→xs[i]?=some x→
   (Instr.yield l (encs x)).run P W1= .ok (.round l fn (tm (encs x)) assign body) W1∧
   RoundIn F (n- 1) P l fn (tm (encs x)) assign body W1 fun e W'=> ∃b:Bool,e= .returned (.bool b)∧((b=true∧J (i+1) W'∧Mv (fun k=>U k∨k=w.heap.size∨k=w.heap.size+1) W1 W')∨(b=false∧Jx W')))→
  J 0 W→
  CallsIn F n P g (#[.func (.yield l) #[] #[]]++lb) W fun e W'=>(∃v,e= .returned v)∧((J xs.length W'∧S W')∨Jx W')
def Qx6(U:Nat→Prop)(I:Nat→World→Prop)(Ix:Code→World→Prop)(i:Nat)(W:World):Exit→Act→World→Prop
 | .normal,_,W'=>Mv U W W'∧I (i+1) W'
 | .ret,_,W'=>Mv U W W'∧Ix .ret W'
 | .exit id,_,W'=>Mv U W W'∧Ix (.exit id) W'
 | .goto t,_,W'=>Mv U W W'∧Ix (.goto t) W'
 | .panic _,_,_=>False
 | .outgrown,_,_=>False
theorem QaZ{α:Type}{F:Fence}{n:Nat}{P:Program}{g:Operand}{ps:Array Tmp}{assign body:Code}{Q:Exit→Act→World→Prop}
  (hro:F.round=none)(h1:1≤n){gf:Nat}{lb:Array Value}(hg:a.eval g= .func (.func gf) #[] lb)(hFg:F.fn gf)(eg: ∀args w,(callFunc gf args).run P w= .ok (.enter gf args) w)
  {encs:α→Array Value}{T U:Nat→Prop}{S:World→Prop}{xs:List α}(hseq:QlJ F (n- 1) P gf lb encs T U S xs w)(hSs: ∀A B,S A→Mv (fun k=>k=w.heap.size+1) A B→S B)
  (hT: ∀k,T k→k<w.heap.size)(hU: ∀k,U k→k<w.heap.size)(hps: ∀x,(encs x).size=ps.size)
  (I:Nat→World→Prop)(Ix:Code→World→Prop)(hI: ∀i A B,I i A→Mv (fun k=>T k∨k=w.heap.size∨k=w.heap.size+1) A B→I i B)
  (hIx: ∀c A B,Ix c A→Mv (fun k=>T k∨k=w.heap.size∨k=w.heap.size+1) A B→Ix c B)(h0:I 0 w)
  (Ax:α→Act→World→Prop)(hAx: ∀x a' A B,Ax x a' A→Mv (fun k=>k=w.heap.size+1) A B→Ax x a' B)
  (hassign: ∀(l i:Nat) (x:α) (W:World) (K:Act→World→Prop),w.heap.size+2≤W.heap.size→Mv (fun k=>T k∨U k) w W→I i W→xs[i]?=some x→
   (∀a' W',Mv U W W'→I i W'→Ax x a' W'→K a' W')→
   assign.wpIn (F.inRound l) (n- 1- 1) P (Exit.then K (fun _ _ _=>False)) {tmps:=(ps.zip (encs x)).foldl (fun t (p,v)=>t.setIfInBounds p v) a.tmps,defers:= []} W)
  (hbody: ∀(l i:Nat) (x:α) (a':Act) (W:World),w.heap.size≤l→(∃r,W.heap[l]?=some (.loop r))→w.heap.size+2≤W.heap.size→Mv (fun k=>T k∨U k) w W→I i W→xs[i]?=some x→Ax x a' W→
   body.wpIn (F.inRound l) (n- 1- 1) P (Qx6 U I Ix i W) a' W)
  (hdone: ∀(W:World),S W→I xs.length W→Mv (fun k=>T k∨U k) w W→W.heap[w.heap.size]?=some (.deferred (some []))→Q .normal {a with defers:={target:= .collected w.heap.size,args:=#[]}::a.defers} W)
  (hstop: ∀(c:Code) (W:World),Ix c W→Mv (fun k=>T k∨U k) w W→W.heap[w.heap.size]?=some (.deferred (some []))→c.wpIn F n P Q {a with defers:={target:= .collected w.heap.size,args:=#[]}::a.defers} W):
  (Code.rangeFunc g ps assign body).wpIn F n P Q a w:=by
 refine wpIn_rangeFunc ?_;intro fn b9;rw [hro];obtain⟨f,y⟩: ∃f:LoopState→Option Code→Loop,f=fun st pe=>{state:=st,pending:=pe,fn,tmps:=a.tmps,params:=ps,assign,body,defers:=w.heap.size}:=⟨_,rfl⟩;obtain⟨u,V⟩: ∃u,(w.alloc (.deferred (some []))).alloc (.loop (f .ready none))=u:=⟨_,rfl⟩;have b0:u.heap[w.heap.size+1]?=some (.loop (f .ready none)):=by
  rw [←V];have:=World.alloc_heap_new (w.alloc (.deferred (some []))) (.loop (f .ready none));rwa [World.size_alloc]at this
 have b1:u.heap[w.heap.size]?=some (.deferred (some [])):=by
  rw [←V];exact(Below.heap_alloc _ _ _ (by simp)).trans (World.alloc_heap_new w _)
 have a2:Ext w u:=by rw [←V];exact Ext.al Ea _
 have b2:I 0 u:=hI 0 _ _ h0 (Mv.of_ext a2)
 refine⟨w.heap.size+1,[{target:= .collected w.heap.size,args:=#[]}],u,{target:= .fn (.func gf) lb,args:=#[.func (.yield (w.heap.size+1)) #[] #[]]},u,gf,
  #[.func (.yield (w.heap.size+1)) #[] #[]]++lb,u,?_,?_,?_,?_,fun _=>h1,?_⟩
 ·rw [←V,y];exact run_enterLoop_outer _ _ _ _ _
 ·simp only [resolve,hg];simp [go_sem]
 ·intro f' a9;simp [Target.leads]at a9;subst a9;exact hFg
 ·simp [invoke,go_sem,eg]
 ·have Z: ∀{k:Nat} {A B:World} {o:Obj},w.heap.size≤k→A.heap[k]?=some o→Mv T A B→B.heap[k]?=some o:=fun b ha hm=>
   (hm.same _ (Array.getElem?_eq_some_iff.1 ha).1 (fun ht=>by have:=hT _ ht;omega)).trans ha
  refine(hseq (w.heap.size+1)
   (fun i W=>I i W∧Mv (fun k=>T k∨U k) w W∧W.heap[w.heap.size+1]?=some (.loop (f .ready none))∧W.heap[w.heap.size]?=some (.deferred (some [])))
   (fun W=> ∃c,Ix c W∧Mv (fun k=>T k∨U k) w W∧W.heap[w.heap.size+1]?=some (.loop (f .done (some c)))∧W.heap[w.heap.size]?=some (.deferred (some [])))
   u a2 (by rw [←V];simp)
   (fun i A B hs hm=>⟨hI i A B hs.1 (hm.mono fun _ _ h=> .inl h),hs.2.1.trans (hm.mono fun _ _ h=> .inl h),Z Om hs.2.2.1 hm,Z (Nat.le_refl _) hs.2.2.2 hm⟩)
   (fun A B hs hm=>by
    obtain⟨c,s,j,z,b⟩:=hs
    exact⟨c,hIx c A B s (hm.mono fun _ _ h=> .inl h),j.trans (hm.mono fun _ _ h=> .inl h),Z Om z hm,Z (Nat.le_refl _) b hm⟩)
   ?_ ⟨b2,Mv.of_ext a2,b0,b1⟩).mono ?_
  ·refine⟨fn,fun args=>(ps.zip args).foldl (fun t (p,v)=>t.setIfInBounds p v) a.tmps,assign,body,?_⟩;rintro i x W ⟨X,j,z,b⟩ hx;have c3:w.heap.size+1<W.heap.size:=(Array.getElem?_eq_some_iff.1 z).1;have hy:=run_yield (P:=P) (args:=encs x) z (by rw [y];exact hps x);rw [y]at hy;refine⟨hy,roundIn_of_wpIn b9 (hassign _ i x W _ Om j X hx ?_)⟩;clear hy;intro a' Y D c0 c1;have a0: ∀{k:Nat} {A B:World} {o:Obj},w.heap.size≤k→k<w.heap.size+2→A.heap[k]?=some o→Mv U A B→B.heap[k]?=some o:=fun hk1 a7 ha hm=>
    (hm.same _ (Array.getElem?_eq_some_iff.1 ha).1 (fun ht=>by have:=hU _ ht;omega)).trans ha
   have a5:=a0 Om Om z D;have b3:=a0 (Nat.le_refl _) Om b D;have b4:Mv (fun k=>T k∨U k) w Y:=
    ⟨D.os.trans j.os,D.tape.trans j.tape,D.output.trans j.output,Xt j.size D.size,fun k b s=>(D.same k (Xl b j.size) (fun hh=>s (.inr hh))).trans (j.same k b s)⟩
   have b5:w.heap.size+1<Y.heap.size:=(Array.getElem?_eq_some_iff.1 a5).1;refine⟨_,run_beginRound a5 (by rw [y]),?_⟩;have a4: ∀(A:World) (o:Obj),Mv (fun k=>k=w.heap.size+1) A (A.putObj (w.heap.size+1) o):=fun A o=>Mv.put A _ o rfl;have C: ∀(A:World) (o:Obj),Mv (fun k=>T k∨k=w.heap.size∨k=w.heap.size+1) A (A.putObj (w.heap.size+1) o):=fun A o=>Mv.put A _ o (.inr (.inr rfl));have R: ∀(A:World) (o:Obj),Mv (fun k=>T k∨U k) w A→Mv (fun k=>T k∨U k) w (A.putObj (w.heap.size+1) o):=fun A o h=>
    ⟨h.os,h.tape,h.output,by simpa using h.size,fun k b s=>(World.putObj_heap_other Om).trans (h.same k b s)⟩
   obtain⟨q,E⟩: ∃q,q=Y.putObj (w.heap.size+1) (.loop {f .ready none with state:= .busy}):=⟨_,rfl⟩;rw [←E];have a6:q.heap[w.heap.size+1]?=some (.loop {f .ready none with state:= .busy}):=by rw [E];exact World.putObj_heap_same b5
   have a7:q.heap[w.heap.size]?=some (.deferred (some [])):=by rw [E];exact(World.putObj_heap_other Om).trans b3
   have G:Mv (fun k=>T k∨U k) w q:=by rw [E];exact R _ _ b4
   have b6:I i q:=by rw [E];exact hI _ _ _ c0 (C _ _)
   have b7:Ax x a' q:=by rw [E];exact hAx _ _ _ _ c1 (a4 _ _)
   have b8:w.heap.size+2≤q.heap.size:=by rw [E];simp;omega
   refine wpIn_mono (hbody (w.heap.size+1) i x a' q Om ⟨_,a6⟩ b8 G b6 hx b7) ?_;have a1: ∀(jump:Option Code) (m:World),Mv U q m→
     (Instr.endRound (w.heap.size+1) jump).run P m= .ok (.bool jump.isNone) (m.putObj (w.heap.size+1) (.loop (f (if jump.isNone then .ready else .done) jump)))∧
     Mv (fun k=>T k∨U k) w (m.putObj (w.heap.size+1) (.loop (f (if jump.isNone then .ready else .done) jump)))∧
     (m.putObj (w.heap.size+1) (.loop (f (if jump.isNone then .ready else .done) jump))).heap[w.heap.size+1]?=some (.loop (f (if jump.isNone then .ready else .done) jump))∧
     (m.putObj (w.heap.size+1) (.loop (f (if jump.isNone then .ready else .done) jump))).heap[w.heap.size]?=some (.deferred (some [])):=fun jump m d=>by
    have a8:=a0 Om Om a6 d;have:=run_endRound (P:=P) jump a8;rw [y]at this⊢;refine⟨this,?_,World.putObj_heap_same (Array.getElem?_eq_some_iff.1 a8).1,(World.putObj_heap_other Om).trans (a0 (Nat.le_refl _) Om a7 d)⟩;exact R _ _ ⟨d.os.trans G.os,d.tape.trans G.tape,d.output.trans G.output,Xt G.size d.size,fun k b s=>(d.same k (Xl b G.size) (fun hh=>s (.inr hh))).trans (G.same k b s)⟩
   rintro e a3 m O
   cases e with
   |normal=>
    obtain⟨d,H⟩:=O;obtain⟨J,L,M,N⟩:=a1 none m d;refine⟨_,_,J,true,rfl,.inl ⟨rfl,⟨hI _ _ _ H (C _ _),L,M,N⟩,?_⟩⟩;have e1:Mv (fun k=>U k∨k=w.heap.size∨k=w.heap.size+1) W Y:=D.mono fun k _ h=> .inl h;have e2:Mv (fun k=>U k∨k=w.heap.size∨k=w.heap.size+1) Y q:=by rw [E];exact(a4 _ _).mono fun k _ h=> .inr (.inr h)
    have e3:Mv (fun k=>U k∨k=w.heap.size∨k=w.heap.size+1) q m:=d.mono fun k _ h=> .inl h;exact((e1.trans e2).trans e3).trans ((a4 _ _).mono fun k _ h=> .inr (.inr h))
   |ret=>
    obtain⟨d,H⟩:=O;obtain⟨J,L,M,N⟩:=a1 (some .ret) m d;exact⟨_,_,J,false,rfl,.inr ⟨rfl,.ret,hIx _ _ _ H (C _ _),L,M,N⟩⟩
   |exit id=>
    obtain⟨d,H⟩:=O;obtain⟨J,L,M,N⟩:=a1 (some (.exit id)) m d;exact⟨_,_,J,false,rfl,.inr ⟨rfl,.exit id,hIx _ _ _ H (C _ _),L,M,N⟩⟩
   |goto t=>
    obtain⟨d,H⟩:=O;obtain⟨J,L,M,N⟩:=a1 (some (.goto t)) m d;exact⟨_,_,J,false,rfl,.inr ⟨rfl,.goto t,hIx _ _ _ H (C _ _),L,M,N⟩⟩
   |panic ch=>exact O.elim
   |outgrown=>exact O.elim
  ·have C: ∀(A:World) (o:Obj),Mv (fun k=>T k∨k=w.heap.size∨k=w.heap.size+1) A (A.putObj (w.heap.size+1) o):=fun A o=>Mv.put A _ o (.inr (.inr rfl));have R: ∀(A:World) (o:Obj),Mv (fun k=>T k∨U k) w A→Mv (fun k=>T k∨U k) w (A.putObj (w.heap.size+1) o):=fun A o h=>
    ⟨h.os,h.tape,h.output,by simpa using h.size,fun k b s=>(World.putObj_heap_other Om).trans (h.same k b s)⟩
   rintro e W2 ⟨⟨v,rfl⟩,(⟨⟨X,j,z,b⟩,c2⟩|⟨c,X,j,z,b⟩)⟩
   ·exact⟨none,_,by have:=run_endLoop (P:=P) z (by rw [y];simp);rw [y]at this;exact this,hdone _ (hSs _ _ c2 (Mv.put _ _ _ rfl)) (hI _ _ _ X (C _ _)) (R _ _ j) ((World.putObj_heap_other Om).trans b)⟩
   ·exact⟨some c,_,by have:=run_endLoop (P:=P) z (by rw [y];simp);rw [y]at this;exact this,hstop c _ (hIx _ _ _ X (C _ _)) (R _ _ j) ((World.putObj_heap_other Om).trans b)⟩
def Qo2:He:=⟨0,0,0,0,0,0,0,[],[]⟩
def Qo3:Tc:=⟨0,0,0,0,[]⟩
def hdI(bs:List Int):He:=if Zd bs=0 then ipH bs else Qo2
def tcI(src dst:Int)(bs:List Int):Tc:=if Yn src dst bs=0 then tcT bs else Qo3
def SlV(w:World)(lo:Nat)(v:Value)(bs:List Int):Prop:= ∃p c,v= .slice p bs.length c∧bs.length≤c∧SlB w p bs∧ ∀b off,p=some ⟨b,off,none⟩→lo≤b∧b<w.heap.size
theorem SlV.of{lo:Nat}{v:Value}(h:OB w lo v bs):SlV w lo v bs:=by
 obtain⟨p,c,a,d,f⟩:=h.slb;refine⟨p,c,a,d,f,fun b off e=> ?_⟩;subst a e;exact⟨Qi h b rfl,QbW h b rfl⟩
theorem SlV.nil(w:World)(lo:Nat):SlV w lo (.slice none 0 0) []:=⟨none,0,rfl,Nat.le_refl _,SlB.nil _ _,fun _ _ e=>by cases e⟩
theorem SlV.ext{lo:Nat}{v:Value}(h:SlV w lo v bs)(e:Ext w w'):SlV w' lo v bs:=by
 obtain⟨p,c,d,f,g,a⟩:=h;exact⟨p,c,d,f,g.ext e,fun b off q=>⟨(a b off q).1,Xl (a b off q).2 e.size⟩⟩
theorem SlV.mv{lo:Nat}{v:Value}(h:SlV w lo v bs)(m:Mv C w w')(hc: ∀k,lo≤k→ ¬C k):SlV w' lo v bs:=by
 obtain⟨p,c,g,i,j,d⟩:=h;refine⟨p,c,g,i,fun k hk=> ?_,fun b a q=>⟨(d b a q).1,Xl (d b a q).2 m.size⟩⟩;obtain⟨b,a,e,f,l⟩:=j k hk;exact⟨b,a,e,Xl f m.size,by rw [Qa,Qf (m.same b f (hc b (d b a e).1)),←Qa];exact l⟩
theorem SlV.one{lo:Nat}{v:Value}(h:SlV w lo v bs):v.oneCell'=true:=by obtain⟨p,c,rfl,-⟩:=h;rfl
theorem Qie(p:Option Addr)(bs:List Int)(c:Nat)(w:World)(hs:SlB w p bs)(hr:ByR bs)(hl:bs.length≤1000)(hlc:bs.length≤c):
  Calls Tryz.prog 93 #[.slice p bs.length c] w fun e w'=> ∃vo vp,e= .returned (.tuple #[.agg (heV (hdI bs) vo vp),.int .u8 (Zd bs)])∧Ext w w'∧SlV w' w.heap.size vo (hdI bs).op∧SlV w' w.heap.size vp (hdI bs).pl:=by
 refine(Yu p bs c w hs hr hl hlc).mono ?_;rintro e w' h;unfold hdI
 cases h with
 |no h e=>rw [if_neg h];exact⟨_,_,rfl,e,SlV.nil _ _,SlV.nil _ _⟩
 |yes h e ho hp=>rw [if_pos h,h];exact⟨_,_,rfl,e,SlV.of ho,SlV.of hp⟩
theorem Qif(src dst:Int)(p:Option Addr)(bs:List Int)(c:Nat)(w:World)(hs:SlB w p bs)(hr:ByR bs)(hl:bs.length≤1000)(hlc:bs.length≤c):
  Calls Tryz.prog 101 #[.int .u32 src,.int .u32 dst,.slice p bs.length c] w fun e w'=> ∃vd,e= .returned (.tuple #[.agg (tcV (tcI src dst bs) vd),.int .u8 (Yn src dst bs)])∧Ext w w'∧SlV w' w.heap.size vd (tcI src dst bs).da:=by
 refine(Qid src dst p bs c w hs hr hl hlc).mono ?_;rintro e w' h;unfold tcI
 cases h with
 |no h e=>rw [if_neg h];exact⟨_,rfl,e,SlV.nil _ _⟩
 |yes h e ho=>rw [if_pos h,h];exact⟨_,rfl,e,SlV.of ho⟩
theorem Qx7(h:ByR bs):ByR (hdI bs).pl:=by
 unfold hdI
 split
 ·exact h.drop _
 ·exact ByR.nil
theorem Qsm(bs:List Int):(hdI bs).pl.length≤bs.length:=by
 unfold hdI
 split
 ·show(bs.drop _).length≤_;rw [List.length_drop];omega
 ·exact Nat.zero_le _
theorem Qo4(h:He)(a b:Value):(heV h a b).size=9:=rfl
theorem Qo5(h:Tc)(a:Value):(tcV h a).size=5:=rfl
theorem QjG(p:Option Addr)(bs:List Int)(c:Nat)(w:World)(B1 B4:Nat)(cs:Array Value)(cb:w.cell? ⟨B1,0,none⟩=some (.slice p bs.length c))(hs:SlB w p bs)(hr:ByR bs)(hl:bs.length≤1000)(hlc:bs.length≤c)(rz:RowZ w B4 cs)(h9:cs.size=9):
  Calls Tryz.prog 98 #[.pointer (some ⟨B1,0,none⟩),.pointer (some ⟨B4,0,none⟩)] w fun e w'=>e= .returned (.int .u8 (Zd bs))∧ ∃vo vp,RowZ w' B4 (heV (hdI bs) vo vp)∧SlV w' w.heap.size vp (hdI bs).pl∧Mv (fun k=>k=B4) w w':=by
 have g:=Xh (Qie p bs c w hs hr hl hlc);have h:=Xh rz;have d:=rz.l;have i:=Xh d;clear hs hr rz d
 go_enter Tryz.func98,Tryz.ntmps98
 go_upto_region 2 with(go_at_call 93;(refine(g.out).mono ?_);rintro e v ⟨vo,vp,rfl,a,f,b⟩;have rz:=h.out.ext a;have n:=rz.r;have o:=rz.z;have q:=rz.l;have s:Fits 0 9 cs:=(by unfold Fits;omega);have t:=f.one;have u:=b.one;have j:=Xh a;have m:=Xh b;clear a f b;unfold heV)
 go_wp2;go_ret;refine⟨rfl,vo,vp,(rz.all (heV (hdI bs) vo vp) h9),m.out.mv (C:=fun k=>k=B4) (Mv.sa _ rfl (Mv.refl _ _)) (fun k hk e=> ?_),(Mv.of_ext j.out).trans (Mv.sa _ rfl (Mv.refl _ _))⟩;have:=i.out;unfold Lt at this;omega
theorem QjH(h:He)(vo vp:Value)(w:World)(B4:Nat)(rz:RowZ w B4 (heV h vo vp)):
  Calls Tryz.prog 99 #[.pointer (some ⟨B4,0,none⟩)] w fun e w'=>e= .returned (.int .u8 (if h.pr=6 then 0 else 7))∧w=w':=by
 have d:w.cell? ⟨B4,4,none⟩=some (.int .u8 h.pr):=rz.cell 4 (by show 4<9;omega);clear rz
 by_cases a:h.pr=6
 ·have c:(h.pr==6)=true:=by simpa using a
  rw [if_pos a];clear a;obtain⟨q,b⟩: ∃q,h.pr=q:=⟨_,rfl⟩;rw [b]at d c;clear b
  go_enter Tryz.func99,Tryz.ntmps99
  go_wp2;go_ret;exact⟨rfl,rfl⟩
 ·have c:(h.pr==6)=false:=by simpa using a
  rw [if_neg a];clear a;obtain⟨q,b⟩: ∃q,h.pr=q:=⟨_,rfl⟩;rw [b]at d c;clear b
  go_enter Tryz.func99,Tryz.ntmps99
  go_wp2;go_ret;exact⟨rfl,rfl⟩
theorem QjI(h:He)(vo vp:Value)(w:World)(lo B4 B5:Nat)(cs:Array Value)(rh:RowZ w B4 (heV h vo vp))(hs:SlV w lo vp h.pl)(hr:ByR h.pl)(hl:h.pl.length≤1000)(rz:RowZ w B5 cs)(h5:cs.size=5):
  Calls Tryz.prog 100 #[.pointer (some ⟨B4,0,none⟩),.pointer (some ⟨B5,0,none⟩)] w fun e w'=>e= .returned (.int .u8 (Yn h.sr h.ds h.pl))∧ ∃vd,RowZ w' B5 (tcV (tcI h.sr h.ds h.pl) vd)∧Mv (fun k=>k=B5) w w':=by
 obtain⟨p,c,rfl,b,d,-⟩:=hs;have g:=Xh (Qif h.sr h.ds p h.pl c w d hr hl b);have m:w.cell? ⟨B4,5,none⟩=some (.int .u32 h.sr):=rh.cell 5 (by show 5<9;omega);have n:w.cell? ⟨B4,6,none⟩=some (.int .u32 h.ds):=rh.cell 6 (by show 6<9;omega);have o:w.cell? ⟨B4,8,none⟩=some (.slice p h.pl.length c):=rh.cell 8 (by show 8<9;omega);have i:=Xh rz;clear d hr rz rh hl b
 go_enter Tryz.func100,Tryz.ntmps100
 go_upto_region 2 with(go_at_call 101;(refine(g.out).mono ?_);rintro e x ⟨vd,rfl,a,f⟩;have rz:=i.out.ext a;have q:=rz.r;have s:=rz.z;have t:=rz.l;have u:Fits 0 5 cs:=(by unfold Fits;omega);have v:=f.one;have j:=Xh a;clear a f;unfold tcV)
 go_wp2;go_ret;exact⟨rfl,vd,(rz.all (tcV (tcI h.sr h.ds h.pl) vd) h5),(Mv.of_ext j.out).trans (Mv.sa _ rfl (Mv.refl _ _))⟩
def QfX(h:He):Int:=if h.pr=6 then 0 else 7
def hdN(bs:List Int)(i:Nat):He:=if i=0 then Qo2 else hdI bs
def QAh(bs:List Int)(i:Nat):Tc:=if i<3 then Qo3 else tcI (hdI bs).sr (hdI bs).ds (hdI bs).pl
structure PSt(p:Option Addr)(bs:List Int)(c B1 B4 B5 lo i:Nat)(W:World):Prop where
 cb:W.cell? ⟨B1,0,none⟩=some (.slice p bs.length c)
 l1:Lt B1 W
 sb:SlB W p bs
 h: ∃vo vp,RowZ W B4 (heV (hdN bs i) vo vp)∧SlV W lo vp (hdN bs i).pl
 t: ∃vd,RowZ W B5 (tcV (QAh bs i) vd)
theorem SlB.mvc{B:World}{p:Option Addr}(h:SlB A p bs)(m:Mv C A B)(hb: ∀b off,p=some ⟨b,off,none⟩→ ¬C b):SlB B p bs:=fun k hk=>by
 obtain⟨b,off,a,c,d⟩:=h k hk;exact⟨b,off,a,Xl c m.size,by rw [Qa,Qf (m.same b c (hb b off a)),←Qa];exact d⟩
theorem PSt.mv{p:Option Addr}{c B1 B4 B5 lo:Nat}{B:World}(h:PSt p bs c B1 B4 B5 lo i A)(m:Mv C A B)(h1: ¬C B1)(h4: ¬C B4)(h5: ¬C B5)(hp: ∀b off,p=some ⟨b,off,none⟩→ ¬C b)(hlo: ∀k,lo≤k→ ¬C k):PSt p bs c B1 B4 B5 lo i B:=
 ⟨by rw [Qa,Qf (m.same B1 h.l1 h1),←Qa];exact h.cb,Xl h.l1 m.size,h.sb.mvc m hp,
 by obtain⟨d,e,a,b⟩:=h.h;exact⟨d,e,a.mv m h4,b.mv m hlo⟩,by obtain⟨f,a⟩:=h.t;exact⟨f,a.mv m h5⟩⟩
theorem PSt.step1{p:Option Addr}{c B1 B4 B5 lo:Nat}{B:World}{vo vp:Value}(h:PSt p bs c B1 B4 B5 lo 0 A)(m:Mv (fun k=>k=B4) A B)(rh:RowZ B B4 (heV (hdI bs) vo vp))(sp:SlV B A.heap.size vp (hdI bs).pl)(hlo:lo≤A.heap.size)(n1:B1≠B4)(n5:B5≠B4)(hp: ∀b off,p=some ⟨b,off,none⟩→b≠B4):PSt p bs c B1 B4 B5 lo 1 B:=
 ⟨by rw [Qa,Qf (m.same B1 h.l1 n1),←Qa];exact h.cb,Xl h.l1 m.size,h.sb.mvc m hp,
 ⟨vo,vp,rh,by obtain⟨q,d,g,i,j,f⟩:=sp;exact⟨q,d,g,i,j,fun b off e=>⟨Xt hlo (f b off e).1,(f b off e).2⟩⟩⟩,by obtain⟨l,a⟩:=h.t;exact⟨l,a.mv m n5⟩⟩
theorem PSt.step2{p:Option Addr}{c B1 B4 B5 lo:Nat}(h:PSt p bs c B1 B4 B5 lo 1 A):PSt p bs c B1 B4 B5 lo 2 A:=⟨h.cb,h.l1,h.sb,h.h,h.t⟩
theorem PSt.step3{p:Option Addr}{c B1 B4 B5 lo:Nat}{B:World}{vd:Value}(h:PSt p bs c B1 B4 B5 lo 2 A)(m:Mv (fun k=>k=B5) A B)(rt:RowZ B B5 (tcV (tcI (hdI bs).sr (hdI bs).ds (hdI bs).pl) vd))(hlo:B5<lo)(n1:B1≠B5)(n4:B4≠B5)(hp: ∀b off,p=some ⟨b,off,none⟩→b≠B5):PSt p bs c B1 B4 B5 lo 3 B:=
 ⟨by rw [Qa,Qf (m.same B1 h.l1 n1),←Qa];exact h.cb,Xl h.l1 m.size,h.sb.mvc m hp,
 by obtain⟨d,f,a,b⟩:=h.h;exact⟨d,f,a.mv m n4,b.mv m (fun k hk e=>by omega)⟩,⟨vd,rt⟩⟩
structure Lk(Bl Bf B1 B4 B5:Nat)(W:World):Prop where
 cl:W.cell? ⟨Bl,0,none⟩=some (.slice (some ⟨Bf,0,none⟩) 3 3)
 f0:W.cell? ⟨Bf,0,none⟩=some (.func (.func 98) #[] #[.pointer (some ⟨B1,0,none⟩),.pointer (some ⟨B4,0,none⟩)])
 f1:W.cell? ⟨Bf,1,none⟩=some (.func (.func 99) #[] #[.pointer (some ⟨B4,0,none⟩)])
 f2:W.cell? ⟨Bf,2,none⟩=some (.func (.func 100) #[] #[.pointer (some ⟨B4,0,none⟩),.pointer (some ⟨B5,0,none⟩)])
 ll:Lt Bl W
 lf:Lt Bf W
theorem Lk.mv{Bl Bf B1 B4 B5:Nat}{B:World}(h:Lk Bl Bf B1 B4 B5 A)(m:Mv C A B)(h1: ¬C Bl)(h2: ¬C Bf):Lk Bl Bf B1 B4 B5 B:=by
 have b:=m.same Bl h.ll h1;have a:=m.same Bf h.lf h2;exact⟨by rw [Qa,Qf b,←Qa];exact h.cl,by rw [Qa,Qf a,←Qa];exact h.f0,by rw [Qa,Qf a,←Qa];exact h.f1,by rw [Qa,Qf a,←Qa];exact h.f2,Xl h.ll m.size,Xl h.lf m.size⟩
theorem QmU(q:Option Addr)(n c:Nat)(w:World):
  Calls Tryz.prog 102 #[.slice q n c] w fun e w'=>e= .returned (.func (.func 177) #[] #[.pointer (some ⟨w.heap.size,0,none⟩)])∧w'=w.alloc (.cells #[.slice q n c] 215):=by
 go_enter Tryz.func102,Tryz.ntmps102
 go_wp2;go_ret;exact⟨rfl,rfl⟩
theorem QgT: ∀args w,(callFunc 177 args).run Tryz.prog w= .ok (.enter 177 args) w:=enters_of Tryz.func177 Kr rfl
def Qap(bs:List Int):List Int:= [Zd bs,QfX (hdI bs),Yn (hdI bs).sr (hdI bs).ds (hdI bs).pl]
theorem QjJ(n:Nat)(p:Option Addr)(bs:List Int)(c B1 B4 B5 Bl Bf:Nat)(w:World)(U:Nat→Prop)(hr:ByR bs)(hl:bs.length≤1000)(hlc:bs.length≤c)
  (hk:Lk Bl Bf B1 B4 B5 w)(h0:PSt p bs c B1 B4 B5 (w.heap.size+2) 0 w)(hb1:B1<w.heap.size)(hb4:B4<w.heap.size)(hb5:B5<w.heap.size)(hn:B1≠B4∧B5≠B4)(hn5:B1≠B5)(hnl:Bl≠B4∧Bf≠B4∧Bl≠B5∧Bf≠B5)(hpb: ∀b off,p=some ⟨b,off,none⟩→b<w.heap.size∧b≠B4∧b≠B5)
  (hU: ∀k,U k→k<w.heap.size∧k≠B1∧k≠B4∧k≠B5∧k≠Bl∧k≠Bf∧ ∀b off,p=some ⟨b,off,none⟩→k≠b):
  QlJ Fence.wide n Tryz.prog 177 #[.pointer (some ⟨Bl,0,none⟩)] (fun x:Int=>#[.int .u8 x]) (fun k=>k=B4∨k=B5) U (PSt p bs c B1 B4 B5 (w.heap.size+2) 3) (Qap bs) w:=by
 intro y J Jx W hW a5 hJ b5 hY b6;have HJ:=Xh hJ;have c7:=Xh b5;have E:=Xh hU;have HR:=Xh hr;have Y:=Xh hpb;clear hJ b5 hU hr hpb;obtain⟨a6,a7,a8,a9,hY⟩:=hY;have G:=Xh hY;clear hY;have a2:=hk.mv (C:=fun _=>False) (Mv.of_ext hW) (fun h=>h) (fun h=>h);have a3:=h0.mv (C:=fun _=>False) (Mv.of_ext hW) (fun h=>h) (fun h=>h) (fun h=>h) (fun _ _ _ h=>h) (fun _ _ h=>h);have c2:=hk.ll;have c3:=hk.lf;unfold Lt at c2 c3;have b0: ¬(U Bl∨Bl=w.heap.size∨Bl=w.heap.size+1):=by rintro(h|h|h);exact(E.out _ h).2.2.2.2.1 rfl;omega;omega
 have b1: ¬(U Bf∨Bf=w.heap.size∨Bf=w.heap.size+1):=by rintro(h|h|h);exact(E.out _ h).2.2.2.2.2.1 rfl;omega;omega
 have b2: ¬(U B1∨B1=w.heap.size∨B1=w.heap.size+1):=by rintro(h|h|h);exact(E.out _ h).2.1 rfl;omega;omega
 have b3: ¬(U B4∨B4=w.heap.size∨B4=w.heap.size+1):=by rintro(h|h|h);exact(E.out _ h).2.2.1 rfl;omega;omega
 have b4: ¬(U B5∨B5=w.heap.size∨B5=w.heap.size+1):=by rintro(h|h|h);exact(E.out _ h).2.2.2.1 rfl;omega;omega
 have a4:=Xh (show ∀b off,p=some ⟨b,off,none⟩→ ¬(U b∨b=w.heap.size∨b=w.heap.size+1)from fun b off e=>by rintro(h|h|h);exact(E.out _ h).2.2.2.2.2.2 b off e rfl;(have:=(Y.out b off e).1;omega);(have:=(Y.out b off e).1;omega));have Z:=Xh (show ∀k,w.heap.size+2≤k→ ¬(U k∨k=w.heap.size∨k=w.heap.size+1)from fun k hk=>by rintro(h|h|h);(have:=(E.out _ h).1;omega);omega;omega);obtain⟨o,b7⟩: ∃o,w.heap.size+2=o:=⟨_,rfl⟩;have c4:B5<o:=by omega
 rw [b7]at Z a3 a5⊢;have f:=Xh (show(¬(U B1∨B1=w.heap.size∨B1=w.heap.size+1))∧(¬(U B4∨B4=w.heap.size∨B4=w.heap.size+1))∧(¬(U B5∨B5=w.heap.size∨B5=w.heap.size+1))∧(¬(U Bl∨Bl=w.heap.size∨Bl=w.heap.size+1))∧(¬(U Bf∨Bf=w.heap.size∨Bf=w.heap.size+1))from⟨b2,b3,b4,b0,b1⟩);have HN:=Xh hn;have c5:=Xh hn5;have a0:=Xh hnl;clear b2 b3 b4 b0 b1 hn hn5 hnl b7 h0 hb1 hb4 hb5;refine callsIn_of_wp Tryz.func177 rfl trivial ?_ rfl;simp only [Tryz.ntmps177,List.size_toArray,List.length_cons,List.length_nil,Nat.reduceAdd,Nat.reduceSub,Array.replicate_succ,Array.replicate_zero,List.push_toArray,List.append_toArray,List.nil_append,List.cons_append];refine wpIn_wide.2 ?_;have cl:=a2.cl;have c6:=Xh a2;clear a2 hk;go_wp2
 go_loopw [4,7] (fun _ a wr=> ∃i:Nat,i≤3∧a= .int .i64 i∧J i wr∧PSt p bs c B1 B4 B5 o i wr∧Lk Bl Bf B1 B4 B5 wr∧o≤wr.heap.size) (fun _ a _=>3- (intOf a).toNat)
 case atStart=>exact⟨0,Om,rfl,b6,a3,c6.out,a5⟩
 case round=>
  clear cl b6 a3 a5;obtain⟨i,hi,rfl,b8,hP,hK,hz⟩:=hrel;have a1:=Xh b8;have s:=Xh hK;have l:=Xh hP;clear b8 hK hP;obtain rfl|rfl|rfl|rfl:i=0∨i=1∨i=2∨i=3:=by omega
  ·obtain⟨H,F,D,I⟩:=l.out.h;obtain⟨vd,K⟩:=l.out.t;have f0:=s.out.f0;have L:=s.out.lf;have u:=Xh (show Calls Tryz.prog 98 #[.pointer (some ⟨B1,0,none⟩),.pointer (some ⟨B4,0,none⟩)] wr (fun e w'=>e= .returned (.int .u8 (Zd bs))∧ ∃H F,RowZ w' B4 (heV (hdI bs) H F)∧SlV w' wr.heap.size F (hdI bs).pl∧Mv (fun k=>k=B4) wr w')from QjG p bs c wr B1 B4 _ l.out.cb l.out.sb HR.out hl hlc D (Qo4 _ _ _));obtain⟨d,q⟩: ∃x,Zd bs=x:=⟨_,rfl⟩;rw [q]at u;have v:=Xh (show(Qap bs)[0]?=some d by rw [←q];rfl);clear D I K q
   go_upto_region 3 with(fail)
   refine(wpIn_wide (n:=n)).1 ?_
   gi_wp2
   refine⟨trivial,(fun h=>by cases h),(callsIn_wide.2 u.out).mono ?_⟩;rintro e g ⟨rfl,c8,c9,b9,c0,r⟩;have z:PSt p bs c B1 B4 B5 o 1 g:=l.out.step1 r b9 c0 hz HN.out.1 HN.out.2 (fun b off e=>(Y.out b off e).2.1);have A:=s.out.mv r a0.out.1 a0.out.2.1;have m:=HJ.out _ _ _ a1.out (r.mono fun k _ e=> .inl e);have M:o≤g.heap.size:=Xt hz r.size;clear r b9 c0;have N:(Instr.yield y #[.int .u8 d]).run Tryz.prog g= .ok (.round y a6 (a7 #[.int .u8 d]) a8 a9) g:=(G.out 0 d g m v.out).1;have B:=Xh (G.out 0 d g m v.out).2;have O:=Xh z;have P:=Xh A;clear z A m
   gi_wp2
   refine⟨(fun h=>by cases h),(B.out).mono ?_⟩;rintro e w7 ⟨bb,rfl,T⟩;clear N B f0 L;obtain⟨rfl,V,j⟩|⟨rfl,X⟩:=T
   ·have Q:=O.out.mv j f.out.1 f.out.2.1 f.out.2.2.1 a4.out Z.out;have R:=P.out.mv j f.out.2.2.2.1 f.out.2.2.2.2;have S:=Xt M j.size;clear j
    gi_wp2
    go_wp2
    go_roundw
    case rel=>exact⟨1,Om,by go_num,V,Q,R,S⟩
    case measure=>simp [intOf]
   ·gi_wp2
    go_wp2;exact bodyPost_ret (results_none rfl _ _ _) rfl ⟨⟨_,rfl⟩,.inr X⟩
  ·obtain⟨H,F,D,I⟩:=l.out.h;obtain⟨vd,K⟩:=l.out.t;have f1:=s.out.f1;have L:=s.out.lf;have u:=Xh (show Calls Tryz.prog 99 #[.pointer (some ⟨B4,0,none⟩)] wr (fun e w'=>e= .returned (.int .u8 (QfX (hdI bs)))∧wr=w')from QjH (hdI bs) H F wr B4 D);obtain⟨d,q⟩: ∃x,QfX (hdI bs)=x:=⟨_,rfl⟩;rw [q]at u;have v:=Xh (show(Qap bs)[1]?=some d by rw [←q];rfl);clear D I K q
   go_upto_region 3 with(fail)
   refine(wpIn_wide (n:=n)).1 ?_
   gi_wp2
   refine⟨trivial,(fun h=>by cases h),(callsIn_wide.2 u.out).mono ?_⟩;rintro e g ⟨rfl,rfl⟩;have z:PSt p bs c B1 B4 B5 o 2 wr:=l.out.step2;have A:=s.out;have m:=a1.out;have M:=hz;have N:(Instr.yield y #[.int .u8 d]).run Tryz.prog wr= .ok (.round y a6 (a7 #[.int .u8 d]) a8 a9) wr:=(G.out 1 d wr m v.out).1;have B:=Xh (G.out 1 d wr m v.out).2;have O:=Xh z;have P:=Xh A;clear z A m
   gi_wp2
   refine⟨(fun h=>by cases h),(B.out).mono ?_⟩;rintro e w7 ⟨bb,rfl,T⟩;clear N B f1 L;obtain⟨rfl,V,j⟩|⟨rfl,X⟩:=T
   ·have Q:=O.out.mv j f.out.1 f.out.2.1 f.out.2.2.1 a4.out Z.out;have R:=P.out.mv j f.out.2.2.2.1 f.out.2.2.2.2;have S:=Xt M j.size;clear j
    gi_wp2
    go_wp2
    go_roundw
    case rel=>exact⟨2,Om,by go_num,V,Q,R,S⟩
    case measure=>simp [intOf]
   ·gi_wp2
    go_wp2;exact bodyPost_ret (results_none rfl _ _ _) rfl ⟨⟨_,rfl⟩,.inr X⟩
  ·obtain⟨H,F,D,I⟩:=l.out.h;obtain⟨vd,K⟩:=l.out.t;have f2:=s.out.f2;have L:=s.out.lf;have u:=Xh (show Calls Tryz.prog 100 #[.pointer (some ⟨B4,0,none⟩),.pointer (some ⟨B5,0,none⟩)] wr (fun e w'=>e= .returned (.int .u8 (Yn (hdI bs).sr (hdI bs).ds (hdI bs).pl))∧ ∃vd,RowZ w' B5 (tcV (tcI (hdI bs).sr (hdI bs).ds (hdI bs).pl) vd)∧Mv (fun k=>k=B5) wr w')from QjI (hdI bs) H F wr o B4 B5 _ D I (Qx7 HR.out) (Xt (Qsm bs) hl) K (Qo5 _ _));obtain⟨d,q⟩: ∃x,Yn (hdI bs).sr (hdI bs).ds (hdI bs).pl=x:=⟨_,rfl⟩;rw [q]at u;have v:=Xh (show(Qap bs)[2]?=some d by rw [←q];rfl);clear D I K q
   go_upto_region 3 with(fail)
   refine(wpIn_wide (n:=n)).1 ?_
   gi_wp2
   refine⟨trivial,(fun h=>by cases h),(callsIn_wide.2 u.out).mono ?_⟩;rintro e g ⟨rfl,d0,c1,r⟩;have z:PSt p bs c B1 B4 B5 o 3 g:=l.out.step3 r c1 c4 c5.out (Ne.symm HN.out.2) (fun b off e=>(Y.out b off e).2.2);have A:=s.out.mv r a0.out.2.2.1 a0.out.2.2.2;have m:=HJ.out _ _ _ a1.out (r.mono fun k _ e=> .inr e);have M:o≤g.heap.size:=Xt hz r.size;clear r c1;have N:(Instr.yield y #[.int .u8 d]).run Tryz.prog g= .ok (.round y a6 (a7 #[.int .u8 d]) a8 a9) g:=(G.out 2 d g m v.out).1;have B:=Xh (G.out 2 d g m v.out).2;have O:=Xh z;have P:=Xh A;clear z A m
   gi_wp2
   refine⟨(fun h=>by cases h),(B.out).mono ?_⟩;rintro e w7 ⟨bb,rfl,T⟩;clear N B f2 L;obtain⟨rfl,V,j⟩|⟨rfl,X⟩:=T
   ·have Q:=O.out.mv j f.out.1 f.out.2.1 f.out.2.2.1 a4.out Z.out;have R:=P.out.mv j f.out.2.2.2.1 f.out.2.2.2.2;have S:=Xt M j.size;clear j
    gi_wp2
    go_wp2
    go_roundw
    case rel=>exact⟨3,Om,by go_num,V,Q,R,S⟩
    case measure=>simp [intOf]
   ·gi_wp2
    go_wp2;exact bodyPost_ret (results_none rfl _ _ _) rfl ⟨⟨_,rfl⟩,.inr X⟩
  ·go_wp2
   go_end0
   exact⟨⟨_,rfl⟩,.inl ⟨a1.out,l.out⟩⟩
@[go_sem] theorem QzU{a5:Value}:Fits o m #[a0,a1,a2,a3,a4,a5]=(o+m≤6):=by unfold Fits;rfl
@[go_sem] theorem QwV{a5:Value}:Qn #[a0,a1,a2,a3,a4,a5] 6=True:=by unfold Qn;exact eq_true rfl
@[go_sem] theorem Qsn{a5:Value}:QK #[a0,a1,a2,a3,a4,a5]=(a0.oneCell'=true∧a1.oneCell'=true∧a2.oneCell'=true∧a3.oneCell'=true∧a4.oneCell'=true∧a5.oneCell'=true):=by
 unfold QK;simp [and_assoc]
@[go_sem ↓ high] theorem Qx8{a5:Value}:(Value.agg #[a0,a1,a2,a3,a4,a5]).cells=#[a0,a1,a2,a3,a4,a5]:=QF _
@[go_sem] theorem QzV{a5:Value}:QB #[a0,a1,a2,a3,a4,a5] 0 6=#[a0,a1,a2,a3,a4,a5]:=rfl
theorem QgU:(Tryz.prog.info? 81).map (·.size)=some 6:=Kr
theorem QmV{b:Nat}(h:o+6≤(Qc w b).size):(Instr.loadAt 81 (.pointer (some ⟨b,o,none⟩))).run Tryz.prog w= .ok (.agg ((Qc w b).extract o (o+6))) w:=by
 have:=run_loadAt_mid w b o 81 ((Qc w b).extract o (o+6)).toList _ (QC w b o (o+6)) Tryz.underlying81 rfl (by rw [QgU];simp;omega)
 rwa [Array.toArray_toList]at this
theorem QjK{b:Nat}(h:o+6≤(Qc w b).size):(loadVar 81 ⟨b,o,none⟩).run Tryz.prog w= .ok (.agg ((Qc w b).extract o (o+6))) w:=by
 have:=run_loadVar_mid w b o 81 ((Qc w b).extract o (o+6)).toList _ (QC w b o (o+6)) Tryz.underlying81 rfl (by rw [QgU];simp;omega)
 rwa [Array.toArray_toList]at this
@[go_sem ↓ high] theorem Qaq(ρ:Operand→Value)(dst:Option Tmp)(x:Operand)(ty:TypeId)(pos:String)(after:Array Edge)(g:Option (Nat×Bool))(w:World)
  (hx:ρ x= .pointer (some ⟨Qb (ρ x),Qd (ρ x),none⟩))(h:Fits (Qd (ρ x)) 6 (Qc w (Qb (ρ x)))):
  (execOp ρ ⟨dst,.load 81 x,ty,pos,after,g⟩).run Tryz.prog w= .ok (.value (.agg (QB (Qc w (Qb (ρ x))) (Qd (ρ x)) 6))) w:=by
 unfold Fits at h;generalize a:Qb (ρ x)=B at*;generalize b:Qd (ρ x)=O at*;simp only [execOp,hx,Sem.run_bind,QmV h,Result.andThen_ok,Sem.run_pure,QB]
@[go_sem ↓ high] theorem Quh{l:Option Nat}(w:World)
  (hx:ρ x= .pointer (some ⟨Qb (ρ x),Qd (ρ x),none⟩))(h:Fits (Qd (ρ x)) 6 (Qc w (Qb (ρ x)))):
  (Oper.semAt l ρ ⟨dst,.load 81 x,ty,pos,after,g⟩).run Tryz.prog w= .ok (.value (.agg (QB (Qc w (Qb (ρ x))) (Qd (ρ x)) 6))) w:=by rw [Oper.semAt_eq _ _ _ (fun c h=>by cases h)];exact Qaq ρ dst x ty pos after g w hx h
@[go_sem ↓ high] theorem JX(ρ:Operand→Value)(dst:Option Tmp)(x y:Operand)(ty:TypeId)(pos:String)(after:Array Edge)(g:Option (Nat×Bool))(w:World)
  (hx:ρ x= .pointer (some ⟨Qb (ρ x),Qd (ρ x),none⟩))(hy:ρ y= .agg (ρ y).cells)(hs:Qn (ρ y).cells 6)(h:Fits (Qd (ρ x)) 6 (Qc w (Qb (ρ x))))(hz:Qs w (Qb (ρ x))=(0,0))(h1:QK (ρ y).cells):
  (execOp ρ ⟨dst,.store 81 x y,ty,pos,after,g⟩).run Tryz.prog w= .ok .skip (Qe w (Qb (ρ x)) (Qd (ρ x)) (ρ y).cells):=by
 unfold Fits at h;unfold Qn at hs;generalize b:Qb (ρ x)=B at*;generalize c:Qd (ρ x)=O at*;generalize d:(ρ y).cells=C at*;have a:(Instr.storeAt 81 (.pointer (some ⟨B,O,none⟩)) (.agg C)).run Tryz.prog w= .ok () (Qe w B O C):=
  run_storeAt_mid w B O 81 C (fun j hj=>⟨by rw [Qa,Array.getElem?_eq_getElem Om];rfl,Ql hz _⟩) (by rw [QgU,hs]) h1
 simp only [execOp,hx,hy,Sem.run_bind,a,Result.andThen_ok,Sem.run_pure]
@[go_sem ↓ high] theorem Qso{l:Option Nat}(w:World)
  (hx:ρ x= .pointer (some ⟨Qb (ρ x),Qd (ρ x),none⟩))(hy:ρ y= .agg (ρ y).cells)(hs:Qn (ρ y).cells 6)(h:Fits (Qd (ρ x)) 6 (Qc w (Qb (ρ x))))(hz:Qs w (Qb (ρ x))=(0,0))(h1:QK (ρ y).cells):
  (Oper.semAt l ρ ⟨dst,.store 81 x y,ty,pos,after,g⟩).run Tryz.prog w= .ok .skip (Qe w (Qb (ρ x)) (Qd (ρ x)) (ρ y).cells):=by rw [Oper.semAt_eq _ _ _ (fun c h=>by cases h)];exact JX ρ dst x y ty pos after g w hx hy hs h hz h1
theorem Qig(hs:(Qc w B).size=6)(hz:Qs w B=(0,0))(hcs:cs.size=6)(ho:QK cs)
  (hx:ρ x= .pointer (some ⟨B,0,none⟩))(hy:ρ y= .agg cs):(execOp ρ ⟨dst,.store 81 x y,ty,pos,after,g⟩).run Tryz.prog w= .ok .skip (Qe w B 0 cs):=by
 have e:=JX ρ dst x y ty pos after g w (by rw [hx];rfl) (by rw [hy];rfl) (by rw [hy];exact hcs) (by rw [hx];show Fits 0 6 (Qc w B);unfold Fits;omega) (by rw [hx];exact hz) (by rw [hy];exact ho);rw [e,hx,hy];rfl
def Qo6(ops:Array Oper):Prop:=Region.noSelect ops=true∧Qv ops 16 [0,1,2,3,4,5,6,7,8,9,10,11] 0=true∧Rd ops 16 4095 [12]∧Qv ops 16 [13] 8191=true∧Rd ops 16 16383 [14]∧Rd ops 16 32767 [15]∧Rd ops 16 65535 []
theorem QjL:Qo6 ((Tryz.f42.body.bind (Qh 9)).getD #[]):=⟨Kr,Kr,Rk,Kr,Rk,Rk,Rk⟩
def QlK(ops:Array Oper):Prop:=Region.noSelect ops=true∧Qo ops 4 [1] 0=true∧Rd ops 4 2 [0]∧Rd ops 4 3 [2]∧Rd ops 4 7 [3]∧Rd ops 4 15 []∧lateB .any ops 3 1=true
theorem Qih:QlK ((Tryz.f42.body.bind (Qh 10)).getD #[]):=⟨Kr,Kr,Rk,Rk,Rk,Rk,Kr⟩
theorem Qa0{v:Int}(h0:w.cell? ⟨B,i,none⟩=some (.int .u32 v))(hl:Lt B w)(hC: ¬C B)
  (hx:ρ q= .pointer (some ⟨B,i,none⟩)): ∀w',Mv C w w'→(execOp ρ ⟨dst,.load 61 q,ty,pos,after,g⟩).run Tryz.prog w'= .ok (.value (.int .u32 v)) w':=by
 intro w' a;have b:w'.cell? ⟨B,i,none⟩=some (.int .u32 v):=by rw [Qa,Qf (a.same B hl hC),←Qa];exact h0
 simp only [execOp,hx];go_simp
theorem Qa1{v:Int}(h0:w.cell? ⟨B,i,none⟩=some (.int .u16 v))(hl:Lt B w)(hC: ¬C B)
  (hx:ρ q= .pointer (some ⟨B,i,none⟩)): ∀w',Mv C w w'→(execOp ρ ⟨dst,.load 62 q,ty,pos,after,g⟩).run Tryz.prog w'= .ok (.value (.int .u16 v)) w':=by
 intro w' a;have b:w'.cell? ⟨B,i,none⟩=some (.int .u16 v):=by rw [Qa,Qf (a.same B hl hC),←Qa];exact h0
 simp only [execOp,hx];go_simp
theorem Yv{v:Int}(h0:w.cell? ⟨B,i,none⟩=some (.int .u8 v))(hl:Lt B w)(hC: ¬C B)
  (hx:ρ q= .pointer (some ⟨B,i,none⟩)): ∀w',Mv C w w'→(execOp ρ ⟨dst,.load 5 q,ty,pos,after,g⟩).run Tryz.prog w'= .ok (.value (.int .u8 v)) w':=by
 intro w' a;have b:w'.cell? ⟨B,i,none⟩=some (.int .u8 v):=by rw [Qa,Qf (a.same B hl hC),←Qa];exact h0
 simp only [execOp,hx];go_simp
theorem JY{a:Option Addr}{c:Nat}(h0:w.cell? ⟨B,i,none⟩=some (.slice a m c))(hl:Lt B w)(hC: ¬C B)
  (hx:ρ q= .pointer (some ⟨B,i,none⟩)): ∀w',Mv C w w'→(execOp ρ ⟨dst,.load 28 q,ty,pos,after,g⟩).run Tryz.prog w'= .ok (.value (.slice a m c)) w':=by
 intro w' b;have d:w'.cell? ⟨B,i,none⟩=some (.slice a m c):=by rw [Qa,Qf (b.same B hl hC),←Qa];exact h0
 simp only [execOp,hx];go_simp
theorem Qvp(h0:RowZ w B cs)(h6:cs.size=6)(hC: ¬C B)
  (hx:ρ q= .pointer (some ⟨B,0,none⟩)): ∀w',Mv C w w'→(execOp ρ ⟨dst,.load 81 q,ty,pos,after,g⟩).run Tryz.prog w'= .ok (.value (.agg cs)) w':=by
 intro w' b;have a:=h0.mv b hC;have e:=Qaq ρ dst q ty pos after g w' (by rw [hx];rfl) (by rw [hx];show Fits 0 6 (Qc w' B);rw [a.r];unfold Fits;omega);rw [e,hx];show Result.ok (Next.value (Value.agg (QB (Qc w' B) 0 6))) w'=_;rw [a.r,Q9 cs 6 h6]
theorem Qii(h:RowZ w B cs)(h6:cs.size=6):(loadVar 81 ⟨B,0,none⟩).run Tryz.prog w= .ok (.agg cs) w:=by
 rw [QjK (by rw [h.r,h6];omega),h.r];rw [show cs.extract 0 (0+6)=cs by rw [Nat.zero_add,←h6];simp]
theorem QlL{v:Int}(h:w.cell? ⟨B,0,none⟩=some (.int .u8 v)):(loadVar 5 ⟨B,0,none⟩).run Tryz.prog w= .ok (.int .u8 v) w:=by go_simp
theorem ZL{P:Program}{fn:Func}{p q:Tmp}{ty2:TypeId}{v v2:Value}(h:fn.results=#[.cell p ty,.cell q ty2])(tmps:Array Value)(w:World)(g g2:Nat)
  (hp:tmps.getD p undef= .pointer (some ⟨g,0,none⟩))(hq:tmps.getD q undef= .pointer (some ⟨g2,0,none⟩))(hl:(loadVar ty ⟨g,0,none⟩).run P w= .ok v w)(hl2:(loadVar ty2 ⟨g2,0,none⟩).run P w= .ok v2 w):(results fn tmps).run P w= .ok (.tuple #[v,v2]) w:=by
 have a:tmps[p]?.getD undef= .pointer (some ⟨g,0,none⟩):=by simpa using hp
 have b:tmps[q]?.getD undef= .pointer (some ⟨g2,0,none⟩):=by simpa using hq
 simp [results,h,a,b,asAddr,hl,hl2]
def Yw(bs:List Int):Int:=if Zd bs≠0 then Zd bs else if QfX (hdI bs)≠0 then QfX (hdI bs)else Yn (hdI bs).sr (hdI bs).ds (hdI bs).pl
theorem Qo7{v:Int}(h: ∀j,j<i→ ∀x,(Qap bs)[j]?=some x→x=0)(hv:(Qap bs)[i]?=some v)(h0:v≠0):Yw bs=v:=by
 unfold Yw;have b:i<3:=by have:=(List.getElem?_eq_some_iff.1 hv).1;exact this
 obtain rfl|rfl|rfl:i=0∨i=1∨i=2:=by omega
 ·obtain rfl:Zd bs=v:=Option.some.inj hv;rw [if_pos h0]
 ·have a:=h 0 Om _ rfl;obtain rfl:QfX (hdI bs)=v:=Option.some.inj hv;rw [if_neg Om,if_pos h0]
 ·have a:=h 0 Om _ rfl;have c:=h 1 Om _ rfl;obtain rfl:Yn (hdI bs).sr (hdI bs).ds (hdI bs).pl=v:=Option.some.inj hv;rw [if_neg Om,if_neg Om]
theorem Qo8(h: ∀j,j<3→ ∀x,(Qap bs)[j]?=some x→x=0):Yw bs=0:=by
 have b:=h 0 Om _ rfl;have c:=h 1 Om _ rfl;have a:=h 2 Om _ rfl;unfold Yw;rw [if_neg Om,if_neg Om];exact a
structure Pk where
 tu:Tu
 fl:Int
 by_:List Int
def pkV(t:Pk)(v:Value):Array Value:=#[.int .u32 t.tu.a,.int .u32 t.tu.b,.int .u16 t.tu.c,.int .u16 t.tu.d,.int .u8 t.fl,v]
def Qo9:Pk:=⟨⟨0,0,0,0⟩,0,[]⟩
def pkI(bs:List Int):Pk:=if Yw bs=0 then⟨⟨(hdI bs).sr,(hdI bs).ds,(tcI (hdI bs).sr (hdI bs).ds (hdI bs).pl).sp,(tcI (hdI bs).sr (hdI bs).ds (hdI bs).pl).dp⟩,(tcI (hdI bs).sr (hdI bs).ds (hdI bs).pl).fl,bs⟩else Qo9
structure DrI(bs:List Int)(B i:Nat)(W:World):Prop where
 at_: ∃v,RowZ W B #[.int .u8 v]∧(∀j,j<i→ ∀x,(Qap bs)[j]?=some x→x=0)∧(v=0∨(Qap bs)[i]?=some v)
structure DrX(bs:List Int)(B:Nat)(cc:Code)(W:World):Prop where
 c:cc= .goto 0
 n:Yw bs≠0
 r:RowZ W B #[.int .u8 (Yw bs)]
theorem Qij(p:Option Addr)(bs:List Int)(c:Nat)(w:World)(hs:SlB w p bs)(hr:ByR bs)(hl:bs.length≤1000)(hlc:bs.length≤c)(hpb: ∀b off,p=some ⟨b,off,none⟩→b<w.heap.size):
  Calls Tryz.prog 42 #[.slice p bs.length c] w fun e w'=> ∃vb,e= .returned (.tuple #[.agg (pkV (pkI bs) vb),.int .u8 (Yw bs)])∧Ext w w'∧SlV w' w.heap.size vb (pkI bs).by_:=by
 have HS:=Xh hs;have HR:=Xh hr;have a8:=Xh hpb;clear hs hr hpb;refine(callsIn_wide (n:=5)).1 ?_;refine callsIn_of_wp_marks Tryz.func42 rfl trivial ?_ rfl;simp only [Tryz.ntmps42,List.size_toArray,List.length_cons,List.length_nil,Nat.reduceAdd,Nat.reduceSub,Array.replicate_succ,Array.replicate_zero,List.push_toArray,List.append_toArray,List.nil_append,List.cons_append];refine wpIn_wide.2 ?_;go_wp2;refine Qp 0 rfl ?_
 go_wp2_with (go_at_call 102;(refine(QmU _ _ _ _).mono ?_);rintro e w2 ⟨rfl,rfl⟩)
 obtain⟨D,V⟩: ∃D,(((((((w.alloc (.cells #[.slice p bs.length c] 28)).alloc (.cells #[.int .u32 0,.int .u32 0,.int .u16 0,.int .u16 0,.int .u8 0,.slice none 0 0] 81)).alloc (.cells #[.int .u8 0] 5)).alloc (.cells #[.int .u8 0,.int .u16 0,.int .u16 0,.int .u8 0,.int .u8 0,.int .u32 0,.int .u32 0,.slice none 0 0,.slice none 0 0] 132)).alloc (.cells #[.int .u16 0,.int .u16 0,.int .u8 0,.int .i64 0,.slice none 0 0] 142)).alloc (.cells #[.func (.func 98) #[] #[.pointer (some ⟨w.heap.size,0,none⟩),.pointer (some ⟨w.heap.size+1+1+1,0,none⟩)],.func (.func 99) #[] #[.pointer (some ⟨w.heap.size+1+1+1,0,none⟩)],.func (.func 100) #[] #[.pointer (some ⟨w.heap.size+1+1+1,0,none⟩),.pointer (some ⟨w.heap.size+1+1+1+1,0,none⟩)]] 217)).alloc (.cells #[.slice (some ⟨w.heap.size+1+1+1+1+1,0,none⟩) 3 3] 215))=D:=⟨_,rfl⟩;have g2:Ext w D:=by rw [←V];exact Ext.al (Ext.al (Ext.al (Ext.al (Ext.al (Ext.al Ea _) _) _) _) _) _
 have b7:D.heap.size=w.heap.size+7:=by rw [←V];simp
 have c0:D.cell? ⟨w.heap.size,0,none⟩=some (.slice p bs.length c):=by rw [←V];simp [go_sem]
 have g:RowZ D (w.heap.size+1) #[.int .u32 0,.int .u32 0,.int .u16 0,.int .u16 0,.int .u8 0,.slice none 0 0]:=by rw [←V];exact⟨by simp [go_sem],by simp [go_sem],by simp [go_sem,Lt]⟩
 have r2:RowZ D (w.heap.size+1+1) #[.int .u8 0]:=by rw [←V];exact⟨by simp [go_sem],by simp [go_sem],by simp [go_sem,Lt]⟩
 have r3:RowZ D (w.heap.size+1+1+1) #[.int .u8 0,.int .u16 0,.int .u16 0,.int .u8 0,.int .u8 0,.int .u32 0,.int .u32 0,.slice none 0 0,.slice none 0 0]:=by rw [←V];exact⟨by simp [go_sem],by simp [go_sem],by simp [go_sem,Lt]⟩
 have r4:RowZ D (w.heap.size+1+1+1+1) #[.int .u16 0,.int .u16 0,.int .u8 0,.int .i64 0,.slice none 0 0]:=by rw [←V];exact⟨by simp [go_sem],by simp [go_sem],by simp [go_sem,Lt]⟩
 have S:Lk (w.heap.size+1+1+1+1+1+1) (w.heap.size+1+1+1+1+1) w.heap.size (w.heap.size+1+1+1) (w.heap.size+1+1+1+1) D:=by
  rw [←V];exact⟨by simp [go_sem],by simp [go_sem],by simp [go_sem],by simp [go_sem],by simp [go_sem,Lt],by simp [go_sem,Lt]⟩
 rw [V];clear V;obtain⟨u,e1⟩: ∃b,w.heap.size+1=b:=⟨_,rfl⟩;rw [e1]at g r2 r3 r4 S⊢;obtain⟨o,e2⟩: ∃b,u+1=b:=⟨_,rfl⟩;rw [e2]at r2 r3 r4 S⊢;obtain⟨J,e3⟩: ∃b,o+1=b:=⟨_,rfl⟩;rw [e3]at r3 r4 S⊢;obtain⟨O,e4⟩: ∃b,J+1=b:=⟨_,rfl⟩;rw [e4]at r4 S⊢;obtain⟨b5,e5⟩: ∃b,O+1=b:=⟨_,rfl⟩;rw [e5]at S⊢;obtain⟨b6,e6⟩: ∃b,b5+1=b:=⟨_,rfl⟩;rw [e6]at S⊢;have h0:PSt p bs c w.heap.size J O (D.heap.size+2) 0 D:=⟨c0,by unfold Lt;omega,HS.out.ext g2,⟨_,_,r3,SlV.nil _ _⟩,⟨_,r4⟩⟩;refine(wpIn_wide (n:=5)).1 ?_;refine QaZ rfl Om (gf:=177) (lb:=#[.pointer (some ⟨b6,0,none⟩)]) rfl trivial QgT
  (QjJ _ p bs c w.heap.size J O b6 b5 D (fun k=>k=o) HR.out hl hlc S h0 Om Om Om Om Om Om (fun b off e=>by have:=a8.out b off e;omega) (fun k e=>by subst e;exact⟨Om,Om,Om,Om,Om,Om,fun b off e=>by have:=a8.out b off e;omega⟩))
  (fun A B a hm=>a.mv hm Om Om Om (fun b off e=>by have:=a8.out b off e;omega) (fun k S e=>by omega))
  (fun k e=>by omega) (fun k e=>by omega) (fun _=>rfl)
  (DrI bs o) (DrX bs o)
  (fun i A B h hm=>by obtain⟨⟨v,f,Y,a3⟩⟩:=h;exact⟨⟨v,f.mv hm Om,Y,a3⟩⟩)
  (fun cc A B h hm=>⟨h.c,h.n,h.r.mv hm Om⟩) ⟨⟨0,r2,fun j hj=>by omega,.inl rfl⟩⟩
  (fun x a' W=>RowZ W o #[.int .u8 x]∧a'={tmps:=#[.slice p bs.length c,.pointer (some ⟨w.heap.size,0,none⟩),.pointer (some ⟨u,0,none⟩),.pointer (some ⟨o,0,none⟩),.pointer (some ⟨J,0,none⟩),.pointer (some ⟨O,0,none⟩),.func (.func 98) #[] #[.pointer (some ⟨w.heap.size,0,none⟩),.pointer (some ⟨J,0,none⟩)],.func (.func 99) #[] #[.pointer (some ⟨J,0,none⟩)],.func (.func 100) #[] #[.pointer (some ⟨J,0,none⟩),.pointer (some ⟨O,0,none⟩)],.func (.func 98) #[] #[.pointer (some ⟨w.heap.size,0,none⟩),.pointer (some ⟨J,0,none⟩)],.func (.func 99) #[] #[.pointer (some ⟨J,0,none⟩)],.func (.func 100) #[] #[.pointer (some ⟨J,0,none⟩),.pointer (some ⟨O,0,none⟩)],.func (.func 98) #[] #[.pointer (some ⟨w.heap.size,0,none⟩),.pointer (some ⟨J,0,none⟩)],.func (.func 99) #[] #[.pointer (some ⟨J,0,none⟩)],.func (.func 100) #[] #[.pointer (some ⟨J,0,none⟩),.pointer (some ⟨O,0,none⟩)],.slice (some ⟨b5,0,none⟩) 3 3,.func (.func 177) #[] #[.pointer (some ⟨b6,0,none⟩)],.int .u8 x,undef,undef,undef,undef,undef,undef,undef,undef,undef,undef,undef,undef,undef,undef,undef,undef,undef,undef],defers:= []})
  (fun x a' A B h hm=>⟨h.1.mv hm Om,h.2⟩) ?assign ?body ?done ?stop
 case assign=>
  rintro y i x W K c3 X ⟨⟨v,f,Y,a3⟩⟩ hx Z;have cd:=f.cell 0 (by show 0<1;omega);have fd:=f.frz 0
  gi_wp2
  exact Z _ _ (Mv.st _ (.inl rfl) (Mv.refl _ _)) ⟨⟨x,f.set 0 _,Y,.inr hx⟩⟩ ⟨f.set 0 _,rfl⟩
 case body=>
  rintro y i x a' W c4 ⟨rr,hr⟩ c3 X ⟨⟨v,f,Y,a3⟩⟩ hx ⟨a4,rfl⟩;have cd:=a4.cell 0 (by show 0<1;omega);have HX:=Xh hx;have HA:=Xh Y;have b8:=Xh a4;clear hx hr X Y a3 f c4 a4
  cases hq:(x==0)
  ·have b9:x≠0:=by simpa using hq
   have HW:=Xh (Qo7 HA.out HX.out b9)
   gi_wp2
   refine wpIn_goto ?_;exact⟨Mv.refl _ _,rfl,by rw [HW.out];exact b9,by rw [HW.out];exact b8.out⟩
  ·obtain rfl:x=0:=by simpa using hq
   gi_wp2
   exact⟨Mv.refl _ _,⟨⟨0,b8.out,fun j hj z hz=>by
    rcases Nat.lt_or_ge j i with h|h
    ·exact HA.out j h z hz
    ·obtain rfl:j=i:=by omega
     rw [HX.out]at hz;exact(Option.some.inj hz).symm,.inl rfl⟩⟩⟩
 case done=>
  rintro W a ⟨⟨v,f,Y,a3⟩⟩ X Z;have HW:=Xh (show Yw bs=0 from Qo8 Y);obtain⟨vo,vp,U,-⟩:=a.h;obtain⟨vd,M⟩:=a.t;have U:RowZ W J (heV (hdI bs) vo vp):=U;have M:RowZ W O (tcV (tcI (hdI bs).sr (hdI bs).ds (hdI bs).pl) vd):=M;have g:=g.mv X Om;have cb:=a.cb;have l1:=a.l1;have s:=a.sb;have E:=Mv.ext_of g2 X (fun k h=>by omega);have a6:=(Array.getElem?_eq_some_iff.1 Z).1;obtain⟨H,hH⟩: ∃H,hdI bs=H:=⟨_,rfl⟩;rw [hH]at U M;obtain⟨T,d⟩: ∃T,tcI H.sr H.ds H.pl=T:=⟨_,rfl⟩;rw [d]at M;have a0:=Xh (show pkI bs=⟨⟨H.sr,H.ds,T.sp,T.dp⟩,T.fl,bs⟩by unfold pkI;rw [if_pos HW.out,hH,d]);have c1:=Xh Z;clear Y a3 a hH d S r2 r3 r4 h0 c0 X Z
  go_upto_region 9 with(fail)
  refine QO (fun k=>k=u∨k=o) Kr ?_;obtain⟨WA,hW⟩: ∃Wdr,World.drew W=Wdr:=⟨_,rfl⟩;have m:Ext W WA:=by rw [←hW];exact Ext.dr (Ext.rf _)
  rw [hW];clear hW;have E:=E.tr m;have U:=U.ext m;have M:=M.ext m;have g:=g.ext m;have f:=f.ext m;have s:=s.ext m;have cb:=(m.cell (p:=⟨w.heap.size,0,none⟩) l1).trans cb;have l1:=Xl l1 m.size;have F:=(m.block _ a6).trans c1.out;refine QaH (N:=16) (R:=Qo6) (E:=((Tryz.f42.body.bind (Qh 9)).getD #[])) Kr QjL Kr fun a=> ?_;have d:=a.2.1;refine tMk 1 (.pointer (some ⟨J,5,none⟩)) a.1 d rfl fun d=>tM 3 (.int .u32 H.sr) a.1 d rfl (Qa0 (U.cell 5 (by show 5<9;omega)) U.l Om Kr) fun d=>tMk 7 (.pointer (some ⟨J,6,none⟩)) a.1 d rfl fun d=>tM 15 (.int .u32 H.ds) a.1 d rfl (Qa0 (U.cell 6 (by show 6<9;omega)) U.l Om Kr) fun d=>tMk 31 (.pointer (some ⟨O,0,none⟩)) a.1 d rfl fun d=>tM 63 (.int .u16 T.sp) a.1 d rfl (Qa1 (M.cell 0 (by show 0<5;omega)) M.l Om Kr) fun d=>tMk 127 (.pointer (some ⟨O,1,none⟩)) a.1 d rfl fun d=>tM 255 (.int .u16 T.dp) a.1 d rfl (Qa1 (M.cell 1 (by show 1<5;omega)) M.l Om Kr) fun d=>tMk 511 (.agg #[.int .u32 H.sr,.int .u32 H.ds,.int .u16 T.sp,.int .u16 T.dp]) a.1 d rfl fun d=>tMk 1023 (.pointer (some ⟨O,2,none⟩)) a.1 d rfl fun d=>tM 2047 (.int .u8 T.fl) a.1 d rfl (Yv (M.cell 2 (by show 2<5;omega)) M.l Om Kr) fun d=>tM 4095 (.slice p bs.length c) a.1 d rfl (JY cb l1 Om Kr) fun d=> ?_;refine sM 8191 (fun v w'=>OBn w' (b6+1) v bs) a.2.2.1 rfl (QgL (p:=p) (n:=bs.length) (c:=c) (lo:=b6+1) s Om rfl (by have:=E.size;have:=Xl a6 m.size;omega)) ?_;rintro vb a7 a5 ob;have E:=E.tr a5;have g:=g.ext a5;have f:=f.ext a5;obtain⟨pv,cv,rfl,-,-⟩:=ob.sl;have I:D.heap.size<a7.heap.size:=Xl (Xl a6 m.size) a5.size;have F:=(a5.block _ (Xl a6 m.size)).trans F;have d:=a.2.2.2.1;refine tMk 16383 (.agg #[.int .u32 H.sr,.int .u32 H.ds,.int .u16 T.sp,.int .u16 T.dp,.int .u8 T.fl,.slice pv bs.length cv]) a.1 d rfl fun d=> ?_;refine QaO a.2.2.2.2.1 (Qan (m':=32767) rfl rfl Kr (Qig (B:=u) (cs:=#[.int .u32 H.sr,.int .u32 H.ds,.int .u16 T.sp,.int .u16 T.dp,.int .u8 T.fl,.slice pv bs.length cv]) (by rw [g.r];rfl) g.z rfl (by simp [go_sem]) Kr Kr) (Mv.sa _ (.inl rfl) (Mv.refl _ _)) ?_);obtain⟨G,P⟩: ∃G,Qe a7 u 0 #[.int .u32 H.sr,.int .u32 H.ds,.int .u16 T.sp,.int .u16 T.dp,.int .u8 T.fl,.slice pv bs.length cv]=G:=⟨_,rfl⟩;have q:Mv (fun k=>k=u∨k=o) a7 G:=by rw [←P];exact Mv.sa _ (.inl rfl) (Mv.refl _ _)
  have E:=Mv.ext_of E q (fun k e=>by omega);have ob:=ob.mv q (fun k e=>by omega);have F:=(q.same D.heap.size I Om).trans F;have I:=Xl I q.size;have g:RowZ G u #[.int .u32 H.sr,.int .u32 H.ds,.int .u16 T.sp,.int .u16 T.dp,.int .u8 T.fl,.slice pv bs.length cv]:=by rw [←P];exact g.all _ rfl
  have f:=f.mv (show Mv (fun k=>k=u) a7 G by rw [←P];exact Mv.sa _ rfl (Mv.refl _ _)) Om;rw [P];clear P;refine QaO a.2.2.2.2.2.1 (Qan (m':=65535) rfl rfl Kr (QgM (v:=0) (f.cell 0 (by show 0<1;omega)) (f.frz 0) Kr Kr) (Mv.st _ (.inl (.inr rfl)) (Mv.refl _ _)) ?_);obtain⟨L,Q⟩: ∃L,World.setCell G ⟨o,0,none⟩ (.int .u8 0)=L:=⟨_,rfl⟩;have q:Mv (fun k=>k=u∨k=o) G L:=by rw [←Q];exact Mv.st _ (.inl (.inr rfl)) (Mv.refl _ _)
  have E:=Mv.ext_of E q (fun k e=>by omega);have ob:=ob.mv q (fun k e=>by omega);have F:=(q.same D.heap.size I Om).trans F;have I:=Xl I q.size;have f:RowZ L o #[.int .u8 0]:=by rw [←Q];exact f.set 0 _
  have g:=g.mv (show Mv (fun k=>k=o) G L by rw [←Q];exact Mv.st _ (.inl rfl) (Mv.refl _ _)) Om;rw [Q];clear Q;refine doneK a.2.2.2.2.2.2 ?_;clear a d;go_simp;have HE:=Xh E;have a9:=Xh g;have b0:=Xh f;have c2:=Xh ob;clear E g f ob U M s cb l1 q m;go_wp2;simp only [Exit.jump];refine⟨by simp,.inl ⟨_,_,rfl,run_takeDeferred (by rw [b7]at F;exact F),?_⟩⟩;have m3:Mv (fun k=>k=w.heap.size+7) L (L.putObj (w.heap.size+7) (.deferred none)):=Mv.put _ _ _ rfl;refine⟨_,ZL rfl _ _ u o rfl rfl (Qii (a9.out.mv m3 Om) rfl) (QlL ((b0.out.mv m3 Om).cell 0 (by show 0<1;omega))),.slice pv bs.length cv,?_,Mv.ext_of HE.out m3 (fun k e=>by omega),?_⟩
  ·rw [HW.out,a0.out];rfl
  ·rw [a0.out];exact SlV.of ((c2.out.mv (C:=fun k=>k=b6+1) (by rw [show b6+1=w.heap.size+7 by omega];exact m3) (fun k e=>by omega)).ob.le Om)
 case stop=>
  rintro cc W ⟨rfl,hn,hd⟩ X Z;refine wpIn_goto ?_;simp only [Exit.inBlock,Exit.then,Exit.jump];refine⟨rfl,?_⟩;have g:=g.mv X Om;have f:=hd;have E:=Mv.ext_of g2 X (fun k h=>by omega);have I:=(Array.getElem?_eq_some_iff.1 Z).1;have F:=Z;have a0:=Xh (show pkI bs=Qo9 by unfold pkI;rw [if_neg hn]);clear S r2 r3 r4 h0 c0 X Z hd hn
  go_upto_region 10 with(fail)
  refine Qy (fun k=>k=u) (fun k=>k=u∨k=o) 3 Kr ?_;obtain⟨WA,hW⟩: ∃Wdr,World.drew W=Wdr:=⟨_,rfl⟩;have m:Ext W WA:=by rw [←hW];exact Ext.dr (Ext.rf _)
  rw [hW];clear hW;have E:=E.tr m;have g:=g.ext m;have f:=f.ext m;have F:=(m.block _ I).trans F;have I:=Xl I m.size;refine Zi (N:=4) (R:=QlK) (E:=((Tryz.f42.body.bind (Qh 10)).getD #[])) Kr Qih Kr fun a=> ?_;have d:=a.2.1;refine ZD (N:=4) (k:=1) (m':=2) (v:= .int .u8 (Yw bs)) a.1 d a.2.2.2.2.2.2 rfl rfl Kr (Yv (f.cell 0 (by show 0<1;omega)) f.l Om Kr) fun d=> ?_;refine Qr a.2.2.1 (Zq (m':=3) (v:= .agg #[.int .u32 0,.int .u32 0,.int .u16 0,.int .u16 0,.int .u8 0,.slice none 0 0]) rfl rfl Kr ((Qvp g rfl (fun h=>h) Kr) _ (Mv.refl (fun _=>False) _)) ⟨.inr (Mv.refl _ _),(Mv.refl _ _)⟩ ?_);refine Qr a.2.2.2.1 (QE (m':=7) rfl rfl Kr (Qig (B:=u) (cs:=#[.int .u32 0,.int .u32 0,.int .u16 0,.int .u16 0,.int .u8 0,.slice none 0 0]) (by rw [g.r];rfl) g.z rfl (by simp [go_sem]) Kr Kr) ⟨.inr (Mv.sa _ (by first|exact rfl|exact .inl rfl) (Mv.refl _ _)),(Mv.sa _ (by first|exact rfl|exact .inl rfl) (Mv.refl _ _))⟩ ?_);obtain⟨G,P⟩: ∃G,Qe WA u 0 #[.int .u32 0,.int .u32 0,.int .u16 0,.int .u16 0,.int .u8 0,.slice none 0 0]=G:=⟨_,rfl⟩;have q:Mv (fun k=>k=u∨k=o) WA G:=by rw [←P];exact Mv.sa _ (.inl rfl) (Mv.refl _ _)
  have E:=Mv.ext_of E q (fun k e=>by omega);have F:=(q.same D.heap.size I Om).trans F;have I:=Xl I q.size;have g:RowZ G u #[.int .u32 0,.int .u32 0,.int .u16 0,.int .u16 0,.int .u8 0,.slice none 0 0]:=by rw [←P];exact g.all _ rfl
  have f:=f.mv (show Mv (fun k=>k=u) WA G by rw [←P];exact Mv.sa _ rfl (Mv.refl _ _)) Om;rw [P];clear P;refine Qr a.2.2.2.2.1 (QE (m':=15) rfl rfl Kr (QgM (v:=Yw bs) (f.cell 0 (by show 0<1;omega)) (f.frz 0) Kr Kr) ⟨.inl Dc,(Mv.st _ (.inl (.inr rfl)) (Mv.refl _ _))⟩ ?_);obtain⟨L,Q⟩: ∃L,World.setCell G ⟨o,0,none⟩ (.int .u8 (Yw bs))=L:=⟨_,rfl⟩;have q:Mv (fun k=>k=u∨k=o) G L:=by rw [←Q];exact Mv.st _ (.inl (.inr rfl)) (Mv.refl _ _)
  have E:=Mv.ext_of E q (fun k e=>by omega);have F:=(q.same D.heap.size I Om).trans F;have I:=Xl I q.size;have f:RowZ L o #[.int .u8 (Yw bs)]:=by rw [←Q];exact f.set 0 _
  have g:=g.mv (show Mv (fun k=>k=o) G L by rw [←Q];exact Mv.st _ (.inl rfl) (Mv.refl _ _)) Om;rw [Q];clear Q;refine QZ a.2.2.2.2.2.1 ?_;clear a d;go_simp;have HE:=Xh E;have a9:=Xh g;have b0:=Xh f;clear E g f q m;go_wp2;rw [Exit.noGoto_ret];refine⟨by simp,.inl ⟨_,_,rfl,run_takeDeferred (by rw [b7]at F;exact F),?_⟩⟩;have m3:Mv (fun k=>k=w.heap.size+7) L (L.putObj (w.heap.size+7) (.deferred none)):=Mv.put _ _ _ rfl;refine⟨_,ZL rfl _ _ u o rfl rfl (Qii (a9.out.mv m3 Om) rfl) (QlL ((b0.out.mv m3 Om).cell 0 (by show 0<1;omega))),.slice none 0 0,?_,Mv.ext_of HE.out m3 (fun k e=>by omega),?_⟩
  ·rw [a0.out];rfl
  ·rw [a0.out];exact SlV.nil _ _
theorem QgV:(Tryz.prog.info? 75).map (·.size)=some 6:=Kr
theorem QmW{b:Nat}(h:o+6≤(Qc w b).size):(Instr.loadAt 75 (.pointer (some ⟨b,o,none⟩))).run Tryz.prog w= .ok (.agg ((Qc w b).extract o (o+6))) w:=by
 have:=run_loadAt_mid w b o 75 ((Qc w b).extract o (o+6)).toList _ (QC w b o (o+6)) Tryz.underlying75 rfl (by rw [QgV];simp;omega)
 rwa [Array.toArray_toList]at this
theorem Qar{b:Nat}(h:o+6≤(Qc w b).size):(loadVar 75 ⟨b,o,none⟩).run Tryz.prog w= .ok (.agg ((Qc w b).extract o (o+6))) w:=by
 have:=run_loadVar_mid w b o 75 ((Qc w b).extract o (o+6)).toList _ (QC w b o (o+6)) Tryz.underlying75 rfl (by rw [QgV];simp;omega)
 rwa [Array.toArray_toList]at this
@[go_sem ↓ high] theorem Qct(ρ:Operand→Value)(dst:Option Tmp)(x:Operand)(ty:TypeId)(pos:String)(after:Array Edge)(g:Option (Nat×Bool))(w:World)
  (hx:ρ x= .pointer (some ⟨Qb (ρ x),Qd (ρ x),none⟩))(h:Fits (Qd (ρ x)) 6 (Qc w (Qb (ρ x)))):
  (execOp ρ ⟨dst,.load 75 x,ty,pos,after,g⟩).run Tryz.prog w= .ok (.value (.agg (QB (Qc w (Qb (ρ x))) (Qd (ρ x)) 6))) w:=by
 unfold Fits at h;generalize a:Qb (ρ x)=B at*;generalize b:Qd (ρ x)=O at*;simp only [execOp,hx,Sem.run_bind,QmW h,Result.andThen_ok,Sem.run_pure,QB]
@[go_sem ↓ high] theorem Qui{l:Option Nat}(w:World)
  (hx:ρ x= .pointer (some ⟨Qb (ρ x),Qd (ρ x),none⟩))(h:Fits (Qd (ρ x)) 6 (Qc w (Qb (ρ x)))):
  (Oper.semAt l ρ ⟨dst,.load 75 x,ty,pos,after,g⟩).run Tryz.prog w= .ok (.value (.agg (QB (Qc w (Qb (ρ x))) (Qd (ρ x)) 6))) w:=by rw [Oper.semAt_eq _ _ _ (fun c h=>by cases h)];exact Qct ρ dst x ty pos after g w hx h
@[go_sem ↓ high] theorem QbI(ρ:Operand→Value)(dst:Option Tmp)(x y:Operand)(ty:TypeId)(pos:String)(after:Array Edge)(g:Option (Nat×Bool))(w:World)
  (hx:ρ x= .pointer (some ⟨Qb (ρ x),Qd (ρ x),none⟩))(hy:ρ y= .agg (ρ y).cells)(hs:Qn (ρ y).cells 6)(h:Fits (Qd (ρ x)) 6 (Qc w (Qb (ρ x))))(hz:Qs w (Qb (ρ x))=(0,0))(h1:QK (ρ y).cells):
  (execOp ρ ⟨dst,.store 75 x y,ty,pos,after,g⟩).run Tryz.prog w= .ok .skip (Qe w (Qb (ρ x)) (Qd (ρ x)) (ρ y).cells):=by
 unfold Fits at h;unfold Qn at hs;generalize b:Qb (ρ x)=B at*;generalize c:Qd (ρ x)=O at*;generalize d:(ρ y).cells=C at*;have a:(Instr.storeAt 75 (.pointer (some ⟨B,O,none⟩)) (.agg C)).run Tryz.prog w= .ok () (Qe w B O C):=
  run_storeAt_mid w B O 75 C (fun j hj=>⟨by rw [Qa,Array.getElem?_eq_getElem Om];rfl,Ql hz _⟩) (by rw [QgV,hs]) h1
 simp only [execOp,hx,hy,Sem.run_bind,a,Result.andThen_ok,Sem.run_pure]
@[go_sem ↓ high] theorem Qsp{l:Option Nat}(w:World)
  (hx:ρ x= .pointer (some ⟨Qb (ρ x),Qd (ρ x),none⟩))(hy:ρ y= .agg (ρ y).cells)(hs:Qn (ρ y).cells 6)(h:Fits (Qd (ρ x)) 6 (Qc w (Qb (ρ x))))(hz:Qs w (Qb (ρ x))=(0,0))(h1:QK (ρ y).cells):
  (Oper.semAt l ρ ⟨dst,.store 75 x y,ty,pos,after,g⟩).run Tryz.prog w= .ok .skip (Qe w (Qb (ρ x)) (Qd (ρ x)) (ρ y).cells):=by rw [Oper.semAt_eq _ _ _ (fun c h=>by cases h)];exact QbI ρ dst x y ty pos after g w hx hy hs h hz h1
theorem Qpa(hs:(Qc w B).size=6)(hz:Qs w B=(0,0))(hcs:cs.size=6)(ho:QK cs)
  (hx:ρ x= .pointer (some ⟨B,0,none⟩))(hy:ρ y= .agg cs):(execOp ρ ⟨dst,.store 75 x y,ty,pos,after,g⟩).run Tryz.prog w= .ok .skip (Qe w B 0 cs):=by
 have e:=QbI ρ dst x y ty pos after g w (by rw [hx];rfl) (by rw [hy];rfl) (by rw [hy];exact hcs) (by rw [hx];show Fits 0 6 (Qc w B);unfold Fits;omega) (by rw [hx];exact hz) (by rw [hy];exact ho);rw [e,hx,hy];rfl
structure Opt where
 ki:Int
 bu:Int
 cu:Int
 pv:Int
 ge:Int
 ti:Int
def opv(o:Opt):Array Value:=#[.int .u8 o.ki,.int .u8 o.bu,.int .i64 o.cu,.int .i64 o.pv,.int .i64 o.ge,.int .i64 o.ti]
structure Nm where
 n:Int
 lo:Int
 hi:Int
 by_:Int
def nmv(x:Nm):Array Value:=#[.int .i64 x.n,.int .i64 x.lo,.int .i64 x.hi,.int .i64 x.by_]
def J4(o:Opt):List Nm:= [⟨158,158,158,1⟩,⟨16,16,16,1⟩,⟨o.ki,1,5,1⟩,⟨o.bu,0,15,1⟩,⟨o.cu,-1,5,1⟩,⟨o.pv,-1,5,1⟩,⟨o.ge,0,2147483647,4⟩,⟨o.ti,0,1099511627776,6⟩]
def SlN(w:World)(p:Option Addr)(xs:List Nm):Prop:= ∀k,(h:k<xs.length)→ ∃b off,p=some ⟨b,off,none⟩∧b<w.heap.size∧w.cell? ⟨b,off+k*4,none⟩=some (.int .i64 xs[k].n)∧w.cell? ⟨b,off+k*4+1,none⟩=some (.int .i64 xs[k].lo)∧w.cell? ⟨b,off+k*4+2,none⟩=some (.int .i64 xs[k].hi)∧w.cell? ⟨b,off+k*4+3,none⟩=some (.int .i64 xs[k].by_)
theorem SlN.ext{p:Option Addr}{xs:List Nm}(h:SlN w p xs)(e:Ext w w'):SlN w' p xs:=fun k hk=>by
 obtain⟨b,c,d,a,f,g,i,j⟩:=h k hk;exact⟨b,c,d,Xl a e.size,(e.cell (p:=⟨b,_,none⟩) a).trans f,(e.cell (p:=⟨b,_,none⟩) a).trans g,(e.cell (p:=⟨b,_,none⟩) a).trans i,(e.cell (p:=⟨b,_,none⟩) a).trans j⟩
theorem SlN.mvc{B:World}{p:Option Addr}{xs:List Nm}(h:SlN A p xs)(m:Mv C A B)(hb: ∀b off,p=some ⟨b,off,none⟩→ ¬C b):SlN B p xs:=fun k hk=>by
 obtain⟨b,off,a,c,d,f,g,i⟩:=h k hk;have e:=Qf (m.same b c (hb b off a));simp only [Qa]at d f g i⊢;exact⟨b,off,a,Xl c m.size,by rw [e];exact d,by rw [e];exact f,by rw [e];exact g,by rw [e];exact i⟩
def Nm.cl(x:Nm):List Value:= [.int .i64 x.n,.int .i64 x.lo,.int .i64 x.hi,.int .i64 x.by_]
def flN:List Nm→List Value
 | []=> []
 |x::xs=>x.cl++flN xs
theorem QlM: ∀(xs:List Nm) (k j:Nat) (hk:k<xs.length),j<4→(flN xs)[k*4+j]?=(xs[k]).cl[j]?
 |x::xs,0,j,_,hj=>by
  show(x.cl++flN xs)[0*4+j]?=_;rw [Nat.zero_mul,Nat.zero_add,List.getElem?_append_left (by show j<4;exact hj)];rfl
 |x::xs,k+1,j,hk,hj=>by
  show(x.cl++flN xs)[(k+1)*4+j]?=_;have a:x.cl.length=4:=rfl;rw [List.getElem?_append_right Om,a,show(k+1)*4+j- 4=k*4+j by omega];exact QlM xs k j (by simpa using hk) hj
theorem SlN.row{xs:List Nm}(h:Qc w B=(flN xs).toArray)(hl:Lt B w):SlN w (some ⟨B,0,none⟩) xs:=fun k hk=>by
 have a: ∀j,j<4→w.cell? ⟨B,0+k*4+j,none⟩=(xs[k]).cl[j]?:=fun j hj=>by
  rw [←QlM xs k j hk hj,Qa,h,Nat.zero_add];simp
 exact⟨B,0,rfl,hl,a 0 Om,a 1 Om,a 2 Om,a 3 Om⟩
structure NumsAt(w:World)(o:Opt)(Bv:Nat)(w':World):Prop where
 e:Ext w w'
 lo:w.heap.size≤Bv
 ex: ∃br,w'.cell? ⟨Bv,0,none⟩=some (.slice (some ⟨br,0,none⟩) (J4 o).length 8)∧SlN w' (some ⟨br,0,none⟩) (J4 o)∧w.heap.size≤br∧br<Bv
 l:Lt Bv w'
theorem Qa2(o:Opt)(w:World)(h0:0≤o.ki∧o.ki<256)(h1:0≤o.bu∧o.bu<256):
  Calls Tryz.prog 168 #[.agg (opv o)] w fun e w'=> ∃Bv,e= .returned (.func (.func 212) #[] #[.pointer (some ⟨Bv,0,none⟩)])∧NumsAt w o Bv w':=by
 obtain⟨a,b,c,d,f,g⟩:=o;dsimp only at h0 h1;unfold opv
 go_enter Tryz.func168,Tryz.ntmps168
 go_wp2;go_ret;refine⟨w.heap.size+1+1,rfl,Ext.al (Ext.al Ea _) _,Om,⟨w.heap.size+1,by simp [go_sem,J4],SlN.row ?_ (by simp [go_sem,Lt]),Om,Om⟩,by simp [go_sem,Lt]⟩;rw [Qd8,if_neg (by simp),Qd8,if_pos (by simp)];rfl
theorem JB: ∀args w,(callFunc 212 args).run Tryz.prog w= .ok (.enter 212 args) w:=enters_of Tryz.func212 Kr rfl
theorem Qas(n:Nat)(xs:List Nm)(p:Option Addr)(c:Nat)(w:World)(Bl:Nat)(U:Nat→Prop)(hs:SlN w p xs)(hpb: ∀b off,p=some ⟨b,off,none⟩→b<w.heap.size)(hl:xs.length≤1000)(hc:w.cell? ⟨Bl,0,none⟩=some (.slice p xs.length c))(lb:Lt Bl w)(hU: ∀k,U k→k≠Bl∧ ∀b off,p=some ⟨b,off,none⟩→k≠b):
  QcT Fence.wide n Tryz.prog 212 #[.pointer (some ⟨Bl,0,none⟩)] (fun x:Nm=>#[.agg (nmv x)]) (fun _=>False) U xs w:=by
 intro y J Jx W q C D g E;have L:=Xh C;have a8:=Xh D;have M:=Xh hU;have N:=Xh hs;clear C D hU hs;obtain⟨a2,a3,a4,a5,g⟩:=g;have u:=Xh g;clear g;have O:W.cell? ⟨Bl,0,none⟩=some (.slice p xs.length c):=(q.cell (p:=⟨Bl,0,none⟩) lb).trans hc;have P:Lt Bl W:=Xl lb q.size;have v:=N.out.ext q;have Q:=Xh hpb;clear hpb;refine callsIn_of_wp Tryz.func212 rfl trivial ?_ rfl;simp only [Tryz.ntmps212,List.size_toArray,List.length_cons,List.length_nil,Nat.reduceAdd,Nat.reduceSub,Array.replicate_succ,Array.replicate_zero,List.push_toArray,List.append_toArray,List.nil_append,List.cons_append];refine wpIn_wide.2 ?_;go_wp2
 go_loopw [4,7] (fun _ a wr=> ∃i:Nat,i≤xs.length∧a= .int .i64 i∧J i wr∧SlN wr p xs) (fun _ a _=>xs.length- (intOf a).toNat)
 case atStart=>exact⟨0,Nat.zero_le _,rfl,E,v⟩
 case round=>
  clear O P v E;obtain⟨i,hi,rfl,r,s⟩:=hrel
  by_cases B:i<xs.length
  ·have a9:(i:Int)<xs.length:=by omega
   obtain⟨b,off,rfl,hb,F,G,H,I⟩:=s i B;obtain⟨x,t⟩: ∃x,xs[i]=x:=⟨_,rfl⟩;rw [t]at F G H I;have b0:Lt b wr:=hb;have z:=Xh (show xs[i]?=some x by rw [List.getElem?_eq_getElem B,t]);have R:=Xh s;have S:=Xh r;clear t r s
   go_upto_region 3 with(fail)
   obtain⟨d,j⟩: ∃d,wr.alloc (.cells #[.int .i64 x.n,.int .i64 x.lo,.int .i64 x.hi,.int .i64 x.by_] 210)=d:=⟨_,rfl⟩;have m:Ext wr d:=by rw [←j];exact Ea
   have f:RowZ d wr.heap.size #[.int .i64 x.n,.int .i64 x.lo,.int .i64 x.hi,.int .i64 x.by_]:=by rw [←j];exact RowZ.new _ _ _
   rw [j];clear j F G H I;have T:=f.cell 0 (by show 0<4;omega);have V:=f.cell 1 (by show 1<4;omega);have X:=f.cell 2 (by show 2<4;omega);have Y:=f.cell 3 (by show 3<4;omega);have l1:=f.l;have o:=L.out _ _ _ S.out (Mv.of_ext m);have Z:(Instr.yield y #[.agg #[.int .i64 x.n,.int .i64 x.lo,.int .i64 x.hi,.int .i64 x.by_]]).run Tryz.prog d= .ok (.round y a2 (a3 #[.agg #[.int .i64 x.n,.int .i64 x.lo,.int .i64 x.hi,.int .i64 x.by_]]) a4 a5) d:=(u.out i x d o z.out).1;have A:=Xh (u.out i x d o z.out).2;have a0:=Xh m;clear m f o;refine(wpIn_wide (n:=n)).1 ?_
   gi_wp2
   refine⟨(fun h=>by cases h),(A.out).mono ?_⟩;rintro e w6 ⟨bb,rfl,hP⟩;clear Z A T V X Y;obtain⟨rfl,a6,K⟩|⟨rfl,a7⟩:=hP
   ·have a1:=(R.out.ext a0.out).mvc K (fun b off e=>by rintro(h|h);exact(M.out _ h).2 b off e rfl;(have:=Q.out b off e;omega));clear K
    gi_wp2
    go_wp2
    go_roundw
    case rel=>exact⟨i+1,Om,by go_num,a6,a1⟩
    case measure=>simp [intOf];omega
   ·gi_wp2
    go_wp2;exact bodyPost_ret (results_none rfl _ _ _) rfl ⟨⟨_,rfl⟩,.inr a7⟩
  ·obtain rfl:i=xs.length:=by omega
   go_wp2
   go_end0
   exact⟨⟨_,rfl⟩,.inl r⟩
theorem Qpb(o:Opt):(opv o).size=6:=rfl
theorem Qcu(o:Opt):opv o=#[.int .u8 o.ki,.int .u8 o.bu,.int .i64 o.cu,.int .i64 o.pv,.int .i64 o.ge,.int .i64 o.ti]:=rfl
@[go_sem] theorem Qx9{o:Opt}:Fits k m (opv o)=(k+m≤6):=by unfold Fits;rw [Qpb]
@[go_sem] theorem Qvq{o:Opt}:Qn (opv o) 6:=rfl
@[go_sem] theorem Qya{o:Opt}:QK (opv o):=by rw [Qcu,Qsn];exact⟨rfl,rfl,rfl,rfl,rfl,rfl⟩
@[go_sem ↓ high] theorem QwW{o:Opt}:(Value.agg (opv o)).cells=opv o:=QF _
@[go_sem] theorem Qyb{o:Opt}:QB (opv o) 0 6=opv o:=rfl
def QeG(x:Nm):Bool:=decide (x.lo≤x.n)&&decide (x.n≤x.hi)
def ZO(o:Opt):Bool:=(J4 o).all QeG
theorem Qb6(o:Opt)(w:World)(h0:0≤o.ki∧o.ki<256)(h1:0≤o.bu∧o.bu<256):
  Cr 169 #[.agg (opv o)] w (.bool (ZO o)):=by
 have O:=Xh (fun W=>Qa2 o W h0 h1);clear h0 h1;refine(callsIn_wide (n:=5)).1 ?_;refine callsIn_of_wp_marks Tryz.func169 rfl trivial ?_ rfl;simp only [Tryz.ntmps169,List.size_toArray,List.length_cons,List.length_nil,Nat.reduceAdd,Nat.reduceSub,Array.replicate_succ,Array.replicate_zero,List.push_toArray,List.append_toArray,List.nil_append,List.cons_append];refine wpIn_wide.2 ?_;go_wp2;refine Qp 0 rfl ?_
 go_wp2_with (go_at_call 168;(refine(O.out _).mono ?_);rintro e p ⟨E,rfl,⟨F,U,⟨V,X,Y,a0,Z⟩,s⟩⟩)
 have r:Ext w p:=Ea.tr F;simp only [World.size_alloc]at U;refine(wpIn_wide (n:=5)).1 ?_;refine ZI rfl Om (gf:=212) (lb:=#[.pointer (some ⟨E,0,none⟩)]) rfl trivial JB
  (Qas _ (J4 o) (some ⟨V,0,none⟩) 8 p E (fun _=>False) Y (fun b off e=>by cases e;exact Nat.lt_trans Z s) (by show 8≤1000;omega) X s (fun _ h=>h.elim))
  (fun k h=>h.elim) (fun k h=>h.elim) (fun _=>rfl)
  (fun i _=> ∀j,j<i→ ∀h:j<(J4 o).length,QeG (J4 o)[j]=true) (fun M _=>M= .goto 0∧ZO o=false)
  (fun _ _ _ h _=>h) (fun _ _ _ h _=>h) (fun j u=>by omega)
  (fun x G W=> ∃g,p.heap.size+2≤g∧RowZ W g #[.int .i64 x.n,.int .i64 x.lo,.int .i64 x.hi,.int .i64 x.by_]∧G={tmps:=#[.agg (opv o),.pointer (some ⟨w.heap.size,0,none⟩),.bool false,.pointer (some ⟨g,0,none⟩),.agg (opv o),.func (.func 212) #[] #[.pointer (some ⟨E,0,none⟩)],.agg #[.int .i64 x.n,.int .i64 x.lo,.int .i64 x.hi,.int .i64 x.by_],undef,undef,undef,undef,undef,undef,undef,undef,undef,undef,undef,undef],defers:= []})
  (fun x G A B h hm=>by
   obtain⟨g,J,l,q3⟩:=h
   exact⟨g,J,l.mv hm Om,q3⟩)
  ?assign ?body ?done ?stop
 case assign=>
  intro y i x W K L c d t q;unfold nmv
  gi_wp2
  exact q _ _ (Mv.al _ (Mv.refl _ _)) d ⟨W.heap.size,L,RowZ.new _ _ _,rfl⟩
 case body=>
  rintro y i x G W a1 ⟨rr,hr⟩ L c d t ⟨g,J,l,rfl⟩;have H:i<(J4 o).length:=(List.getElem?_eq_some_iff.1 t).1;have I:(J4 o)[i]=x:=(List.getElem?_eq_some_iff.1 t).2;have d0:=l.cell 0 (by show 0<4;omega);have d1:=l.cell 1 (by show 1<4;omega);have d2:=l.cell 2 (by show 2<4;omega);have P:=Xh d;have v:=Xh I;clear d I t hr l c
  cases a:decide (x.lo≤x.n)
  ·have Q:x.n<x.lo:=by have:=of_decide_eq_false a;omega
   have m:=Xh (show QeG x=false by unfold QeG;rw [a];rfl);clear a
   gi_wp2
   refine wpIn_goto ?_;exact⟨Mv.refl _ _,rfl,List.all_eq_false.2 ⟨x,by rw [←v.out];exact List.getElem_mem H,by rw [m.out];decide⟩⟩
  ·have Q: ¬x.n<x.lo:=by have:=of_decide_eq_true a;omega
   cases f:decide (x.n≤x.hi)
   ·have R:x.hi<x.n:=by have:=of_decide_eq_false f;omega
    have m:=Xh (show QeG x=false by unfold QeG;rw [a,f];rfl);clear a f
    gi_wp2
    refine wpIn_goto ?_;exact⟨Mv.refl _ _,rfl,List.all_eq_false.2 ⟨x,by rw [←v.out];exact List.getElem_mem H,by rw [m.out];decide⟩⟩
   ·have R: ¬x.hi<x.n:=by have:=of_decide_eq_true f;omega
    have m:=Xh (show QeG x=true by unfold QeG;rw [a,f];rfl);clear a f
    gi_wp2
    exact⟨Mv.refl _ _,fun j u hjl=>by
     rcases Nat.lt_or_ge j i with h|h
     ·exact P.out j h hjl
     ·obtain rfl:j=i:=by omega
      rw [v.out];exact m.out⟩
 case done=>
  rintro W d c q;have S:=Xh (show ZO o=true from List.all_eq_true.2 fun z hz=>by obtain⟨j,u,rfl⟩:=List.mem_iff_getElem.1 hz;exact d j u u);have D:=Xh (Mv.ext_of r c (fun k h=>by rcases h with h|h<;>exact h.elim));clear d c F r;go_wp2;simp only [Exit.jump];refine⟨by simp,.inl ⟨_,_,rfl,run_takeDeferred q,?_⟩⟩;refine⟨_,results_tmp rfl _ _ _,by rw [S.out];rfl,?_⟩;exact Mv.ext_of D.out (Mv.put (C:=fun k=>k=p.heap.size) _ _ _ rfl) (fun k h=>by unfold Lt at s;omega)
 case stop=>
  rintro M W ⟨rfl,N⟩ c q;have T:=Xh (show ZO o=false from N);have D:=Xh (Mv.ext_of r c (fun k h=>by rcases h with h|h<;>exact h.elim));clear N c F r;refine wpIn_goto ?_;simp only [Exit.inBlock,Exit.then,Exit.jump];refine⟨rfl,?_⟩;go_wp2;rw [Exit.noGoto_ret];refine⟨by simp,.inl ⟨_,_,rfl,run_takeDeferred q,?_⟩⟩;refine⟨_,results_tmp rfl _ _ _,by rw [T.out];rfl,?_⟩;exact Mv.ext_of D.out (Mv.put (C:=fun k=>k=p.heap.size) _ _ _ rfl) (fun k h=>by unfold Lt at s;omega)
def QV:Opt:=⟨0,0,0,0,0,0⟩
def QgW(o:Opt):Opt:=if ZO o then o else QV
def QgX(o:Opt):Int:=if ZO o then 0 else 2
theorem Qpc{tmps:Array Value}{g:Nat}(hp:tmps.getD 2 undef= .pointer (some ⟨g,0,none⟩))(hr:Qc w g=cs)(hc:cs.size=6):
  (results Tryz.f193 tmps).run Tryz.prog w= .ok (.tuple #[.agg cs,tmps.getD 3 undef]) w:=
 QL rfl tmps w g hp (by
  rw [Qar (by rw [hr,hc];omega),hr]
  rw [show cs.extract 0 (0+6)=cs by rw [Nat.zero_add,←hc];simp])
theorem Qsq(o:Opt)(w:World)(h0:0≤o.ki∧o.ki<256)(h1:0≤o.bu∧o.bu<256):
  Cr 193 #[.agg (opv o)] w (.tuple #[.agg (opv (QgW o)),.int .i64 (QgX o)]):=by
 have g:=Xh (fun W=>Qb6 o W h0 h1);clear h0 h1
 go_enter Tryz.func193,Tryz.ntmps193
 go_upto_region 1 with(fail)
 obtain⟨d,f⟩: ∃d,(w.alloc (.cells (opv o) 75)).alloc (.cells #[.int .u8 0,.int .u8 0,.int .i64 0,.int .i64 0,.int .i64 0,.int .i64 0] 75)=d:=⟨_,rfl⟩;have m:Ext w d:=by rw [←f];exact Ext.al Ea _
 have h:RowZ d w.heap.size (opv o):=by rw [←f];exact⟨by simp [go_sem],by simp [go_sem],by simp [go_sem,Lt]⟩
 have i:RowZ d (w.heap.size+1) #[.int .u8 0,.int .u8 0,.int .i64 0,.int .i64 0,.int .i64 0,.int .i64 0]:=by rw [←f];exact⟨by simp [go_sem],by simp [go_sem],by simp [go_sem,Lt]⟩
 rw [f];clear f;have t:=h.r
 cases j:ZO o
 ·have c:=Xh (show QgW o=QV∧QgX o=2 by unfold QgW QgX;rw [j];exact⟨rfl,rfl⟩);rw [j]at g;have b:=Xh i;clear h i
  go_wp2_with (go_at_call 169;(refine(g.out _).mono ?_);rintro e s ⟨rfl,a⟩;have k:=(b.out.ext a).r;have n:=(b.out.ext a).z;have p:=(b.out.ext a).l)
  refine bodyPost_ret (Qpc (cs:=opv QV) rfl (Qq _ _ _ (by rw [k];try rfl)) rfl) rfl ?_;rw [c.out.1,c.out.2];exact⟨rfl,Ext.sa _ Om (m.tr a)⟩
 ·have c:=Xh (show QgW o=o∧QgX o=0 by unfold QgW QgX;rw [j];exact⟨rfl,rfl⟩);rw [j]at g;have b:=Xh i;have q:=Xh h;clear h i
  go_wp2_with (go_at_call 169;(refine(g.out _).mono ?_);rintro e s ⟨rfl,a⟩;have k:=(b.out.ext a).r;have n:=(b.out.ext a).z;have p:=(b.out.ext a).l;have u:=(q.out.ext a).r)
  refine bodyPost_ret (Qpc (cs:=opv o) rfl (Qq _ _ _ (by rw [k];try rfl)) rfl) rfl ?_;rw [c.out.1,c.out.2];exact⟨rfl,Ext.sa _ Om (m.tr a)⟩
@[go_sem ↓ high] theorem QzW{a0 b0 a1 b1 a2 b2 a3 b3 a4 b4 a5 b5:Int}(w:World):
  (binOp .eql 75 (.agg #[.int .u8 a0,.int .u8 a1,.int .i64 a2,.int .i64 a3,.int .i64 a4,.int .i64 a5]) (.agg #[.int .u8 b0,.int .u8 b1,.int .i64 b2,.int .i64 b3,.int .i64 b4,.int .i64 b5])).run Tryz.prog w= .ok (.bool (a0==b0&&a1==b1&&a2==b2&&a3==b3&&a4==b4&&a5==b5)) w:=by
 go_simp
 by_cases a:a0=b0<;>by_cases b:a1=b1<;>by_cases c:a2=b2<;>by_cases d:a3=b3<;>by_cases e:a4=b4<;>by_cases f:a5=b5<;>simp [*]
theorem Qpd(o:Opt):opv o=#[.int .u8 o.ki,.int .u8 o.bu,.int .i64 o.cu,.int .i64 o.pv,.int .i64 o.ge,.int .i64 o.ti]:=rfl
theorem QgY{tmps:Array Value}{g:Nat}(hp:tmps.getD 6 undef= .pointer (some ⟨g,0,none⟩))(hr:Qc w g=cs)(hc:cs.size=6):
  (results Tryz.f121 tmps).run Tryz.prog w= .ok (.tuple #[.agg cs,tmps.getD 7 undef]) w:=
 QL rfl tmps w g hp (by
  rw [Qar (by rw [hr,hc];omega),hr]
  rw [show cs.extract 0 (0+6)=cs by rw [Nat.zero_add,←hc];simp])
theorem QjM(o:Opt)(k g:Int)(h1:0≤o.bu∧o.bu<256)(hk:0≤k∧k<256)(W:World):
  Cr 193 #[.agg #[.int .u8 k,.int .u8 o.bu,.int .i64 o.cu,.int .i64 o.pv,.int .i64 g,.int .i64 o.ti]] W (.tuple #[.agg (opv (QgW {o with ki:=k,ge:=g})),.int .i64 (QgX {o with ki:=k,ge:=g})]):=Qsq {o with ki:=k,ge:=g} W hk h1
theorem QjN(o:Opt)(k g:Int)(w:World)(h1:0≤o.bu∧o.bu<256)(hk:0≤k∧k<256):
  Cr 121 #[.agg (opv o),.int .u8 k,.int .i64 g] w (.tuple #[.agg (opv (QgW {o with ki:=k,ge:=g})),.int .i64 (QgX {o with ki:=k,ge:=g})]):=by
 have p:=Xh (QjM o k g h1 hk);rw [Qpd o];obtain⟨D,N⟩: ∃m,QgW {o with ki:=k,ge:=g}=m:=⟨_,rfl⟩;obtain⟨Y,O⟩: ∃m,QgX {o with ki:=k,ge:=g}=m:=⟨_,rfl⟩;rw [N,O]at p⊢;clear N O h1 hk;obtain⟨ki,s,t,u,ge,v⟩:=o;dsimp only at p⊢
 go_enter Tryz.func121,Tryz.ntmps121
 go_upto_region 1 with(fail)
 obtain⟨f,c⟩: ∃f,(w.alloc (.cells #[.int .u8 ki,.int .u8 s,.int .i64 t,.int .i64 u,.int .i64 ge,.int .i64 v] 75)).alloc (.cells #[.int .u8 0,.int .u8 0,.int .i64 0,.int .i64 0,.int .i64 0,.int .i64 0] 75)=f:=⟨_,rfl⟩;have F:Ext w f:=by rw [←c];exact Ext.al Ea _
 have d:RowZ f w.heap.size #[.int .u8 ki,.int .u8 s,.int .i64 t,.int .i64 u,.int .i64 ge,.int .i64 v]:=by rw [←c];exact⟨by simp [go_sem],by simp [go_sem],by simp [go_sem,Lt]⟩
 have i:RowZ f (w.heap.size+1) #[.int .u8 0,.int .u8 0,.int .i64 0,.int .i64 0,.int .i64 0,.int .i64 0]:=by rw [←c];exact⟨by simp [go_sem],by simp [go_sem],by simp [go_sem,Lt]⟩
 rw [c];clear c;have G:=d.r;have B:=d.l
 go_upto_region 2 with(fail)
 obtain⟨n,c⟩: ∃n,Qe (f.alloc (.cells #[.int .u8 0,.int .u8 0,.int .i64 0,.int .i64 0,.int .i64 0,.int .i64 0] 75)) f.heap.size 0 #[.int .u8 ki,.int .u8 s,.int .i64 t,.int .i64 u,.int .i64 ge,.int .i64 v]=n:=⟨_,rfl⟩;have a:Ext f n:=by rw [←c];exact Ext.sa _ (Nat.le_refl _) Ea
 have j:RowZ n f.heap.size #[.int .u8 ki,.int .u8 s,.int .i64 t,.int .i64 u,.int .i64 ge,.int .i64 v]:=by rw [←c];exact(RowZ.new f #[.int .u8 0,.int .u8 0,.int .i64 0,.int .i64 0,.int .i64 0,.int .i64 0] 75).all _ rfl
 have d:=d.ext a;have i:=i.ext a;have H:w.heap.size≠f.heap.size:=by unfold Lt at B;omega
 have R:w.heap.size≠w.heap.size+1:=by omega
 rw [c];clear c G B;have I:=F.tr a;clear F a;obtain⟨Z,P⟩: ∃b,f.heap.size=b:=⟨_,rfl⟩;rw [P]at j H⊢;clear P;have S:=d.cell 0 (by show 0<6;omega);have T:=d.cell 4 (by show 4<6;omega);have U:=d.frz 0;have V:=d.frz 4
 go_upto_region 3 with(fail)
 obtain⟨A,c⟩: ∃A,(n.setCell ⟨w.heap.size,0,none⟩ (.int .u8 k)).setCell ⟨w.heap.size,4,none⟩ (.int .i64 g)=A:=⟨_,rfl⟩;have y:Mv (fun x=>x=w.heap.size) n A:=by rw [←c];exact Mv.st _ (.inl rfl) (Mv.st _ (.inl rfl) (Mv.refl _ _))
 have d:RowZ A w.heap.size #[.int .u8 k,.int .u8 s,.int .i64 t,.int .i64 u,.int .i64 g,.int .i64 v]:=by rw [←c];exact(d.set 0 _).set 4 _
 have i:=i.mv y (fun e=>R e.symm);have j:=j.mv y (fun e=>H e.symm);have E:=Mv.ext_of I y (fun x e=>by rw [e];exact Nat.le_refl _);rw [c];clear c S T U V y I;have G:=d.r;have B:=d.l;have W:=j.r;have X:=j.l;have h:=Xh i;have C:=Xh E;clear d i j E
 cases L:(k==ki)
 ·go_wp2_with (go_at_call 193;(refine(p.out _).mono ?_);rintro e Q ⟨rfl,a⟩;have q:=(h.out.ext a).r;have J:=(h.out.ext a).z;have K:=(h.out.ext a).l)
  refine bodyPost_ret (QgY (cs:=opv D) rfl (Qq _ _ _ (by rw [q];try rfl)) rfl) rfl ?_;exact⟨rfl,Ext.sa _ Om (C.out.tr a)⟩
 ·cases M:(g==ge)
  ·go_wp2_with (go_at_call 193;(refine(p.out _).mono ?_);rintro e Q ⟨rfl,a⟩;have q:=(h.out.ext a).r;have J:=(h.out.ext a).z;have K:=(h.out.ext a).l)
   refine bodyPost_ret (QgY (cs:=opv D) rfl (Qq _ _ _ (by rw [q];try rfl)) rfl) rfl ?_;exact⟨rfl,Ext.sa _ Om (C.out.tr a)⟩
  ·obtain rfl:k=ki:=by simpa using L
   obtain rfl:g=ge:=by simpa using M
   clear L M
   go_wp2_with (go_at_call 193;(refine(p.out _).mono ?_);rintro e Q ⟨rfl,a⟩;have q:=(h.out.ext a).r;have J:=(h.out.ext a).z;have K:=(h.out.ext a).l)
   refine bodyPost_ret (QgY (cs:=opv D) rfl (Qq _ _ _ (by rw [q];try rfl)) rfl) rfl ?_;exact⟨rfl,Ext.sa _ Om (C.out.tr a)⟩
section
variable {F:Fence} {n:Nat} {P:Program} {ops:Array Oper} {md:Region.Mode} {C D:Nat→Prop} {r:Nat}
theorem Qik{K:Act→World→Prop}{Q:Exit→Act→World→Prop}(hF: ∀f,F.fn f)(hdp:F.depth.isSome=true→1≤n)(hC: ∀f args w (R:Ending→World→Prop),Calls P f args w R→CallsIn F (n- 1) P f args w R)(hd: ∀o,ops[i]?=some o→ ∀c,o.op≠ .defer c)(hh:Jj P ops i K a w):wpOpIn F n P ops Q i K a w:=by
 unfold Jj at hh;unfold wpOpIn
 split
 ·rename_i ho;simp only [ho]at hh;exact hh
 ·rename_i o ho
  simp only [ho]at hh
  split
  ·rename_i hw
   simp only [hw,if_true]at hh;refine⟨fun f _=>hF f,?_⟩;have b:Oper.semAt F.round a.eval o=execOp a.eval o:=by
    cases F.round with
    |none=>rfl
    |some l=>exact Oper.semAt_some l _ _ (hd o ho)
   rw [b];generalize (execOp a.eval o).run P w=q at*
   cases q with
   |ok x w'=>
    cases x<;>simp only [xUponK]at hh<;>simp only [Oper.uponIn]
    case value u=>exact hh
    case skip=>exact hh
    case enter f args=>exact⟨hdp,(hC f args w' _ hh).mono fun e w'' ⟨v,he,hw''⟩=>by subst he;exact hw''⟩
   |halt x w'=>simp only [xUponK]at hh
  ·rename_i hw;simp only [hw]at hh;exact⟨fun f _=>hF f,hh⟩
theorem Qcv{Q':Exit→Act→World→Prop}(hF: ∀f,F.fn f)(hdp:F.depth.isSome=true→1≤n)(hC: ∀f args w (R:Ending→World→Prop),Calls P f args w R→CallsIn F (n- 1) P f args w R)(hd: ∀(i:Nat) o,ops[i]?=some o→ ∀c,o.op≠ .defer c)(hQ: ∀a w,Q a w→Q' .normal a w): ∀(fuel:Nat) (listed:Array Bool) (a:Act) (w:World),
  QP C D r P md ops Q fuel listed a w→wpAnyIn F n P md ops Q' fuel listed a w
 |0,_,_,_,h=>⟨h.1,hQ _ _ h.2⟩
 |fuel+1,_,_,_,h=>⟨fun h0=>hQ _ _ (h.1 h0),fun i hi=>Qik hF hdp hC (hd i) (Jv (fun a' w' h1=>Qcv hF hdp hC hd hQ fuel _ a' w' h1.2) (h.2 i hi))⟩
theorem ZW{id:Nat}{Q:Exit→Act→World→Prop}(C D:Nat→Prop)(r:Nat)(hF: ∀f,F.fn f)(hdp:F.depth.isSome=true→1≤n)(hC: ∀f args w (R:Ending→World→Prop),Calls P f args w R→CallsIn F (n- 1) P f args w R)(hd:(ops.all fun o=>match o.op with| .defer _=>false|_=>true)=true)(hm:P.follows .mixedOrders=true)
  (h:QP C D r P .any ops (fun a w=>Q .normal a w) ops.size (Array.replicate ops.size false) a w.drew):(Code.region id ops true).wpIn F n P Q a w:=
 wpIn_region_any hm (Qcv hF hdp hC (fun i o ho c e=>by
  rw [Array.all_eq_true']at hd;have:=hd o (Array.mem_of_getElem? ho);rw [e]at this
  cases this) (fun _ _ h=>h) _ _ _ _ h)
end
def nmB(x:Nm):List Int:=byN x.n x.by_.toNat
def Ym(o:Opt):List Int:=(J4 o).flatMap nmB
theorem Qyc{ops:Array Oper}{D:Nat→Prop}{r:Nat}{A:Nat}{v1:Value}{b1:List Int}{x1:Int}
  (hm:m|||(1<<<k)=m')(hi:ops[k]?=some ⟨dst,.call {callee:= .builtin .append,args:=#[x,y],argTypes:=#[28,28]},ty,pos,after,none⟩)(hx:a.eval x=v1)(hy:a.eval y= .slice (some ⟨A,0,none⟩) 1 1)(h1:OB w base v1 b1)(hA:w.cell? ⟨A,0,none⟩=some (.int .u8 x1))(hl:b1.length≤1000)(hC: ∀r,v1.ownBlock=some r→C r)(hCD: ∀k,C k→D k)(hb:base≤w.heap.size)
  (H: ∀v' w',OB w' base v' (b1++ [x1])→w.grownBy w' v1.ownBlock→Mv C w w'→QP C D r Tryz.prog .any ops Q fuel (msk N m') (a.put dst v') w'):QaX C D r Tryz.prog ops Q fuel N k m a w:=by
 obtain⟨f,g,i,l,n⟩:=info_parts YB
 obtain⟨v',w',o,p,d,-,-⟩:=run_append_own_at (P:=Tryz.prog) w base 28 ty 5 f (.int .u8 0) 1 1 Tryz.underlying28 g i l n rfl Dc v1 b1.length _ h1 ⟨A,0,none⟩ 1 1 [.int .u8 x1] rfl (fun j u b=>by
  match j,b with
  |0,h=>cases h;exact hA) (by intro u b;simp at b;subst b;rfl) (by unfold maxLen;omega) Om hb
 have c:Mv C w w':=Mv.of_grown d fun r e=> .inl (hC r e);refine Zq (v:=v') hm hi rfl ?_ ⟨.inr c,c.mono fun k _ h=>hCD k h⟩ (H v' w' ?_ d c)
 ·simp [execOp,resolve,invoke,builtin,hx,hy,o,Result.andThen]
 ·unfold OB;rw [List.length_append,List.map_append];exact p
theorem Qa3{v:Value}(h:OB w base v bs): ∃a m c,v= .slice a m c:=by obtain⟨p,c,h,-⟩:=h.slb;exact⟨_,_,_,h⟩
theorem QmX{n:Int}{j:Nat}(hj:j<6)(ρ:Operand→Value)(dst:Option Tmp)(x y:Operand)(r ty:TypeId)(pos:String)(after:Array Edge)(g:Option (Nat×Bool))(hx:ρ x= .int .i64 n)(hy:ρ y= .int .i64 ((8*j:Nat):Int))(w:World):
  (execOp ρ ⟨dst,.binOp .shr 3 x y r,ty,pos,after,g⟩).run Tryz.prog w= .ok (.value (.int .i64 (n/256^j))) w:=by
 obtain rfl|rfl|rfl|rfl|rfl|rfl:j=0∨j=1∨j=2∨j=3∨j=4∨j=5:=by omega
 all_goals
  simp only [execOp,hx,hy];go_simp
theorem QeH{n:Int}(ρ:Operand→Value)(dst:Option Tmp)(x:Operand)(ty:TypeId)(pos:String)(after:Array Edge)(g:Option (Nat×Bool))(hx:ρ x= .int .i64 n)(w:World):
  (execOp ρ ⟨dst,.convert 3 5 x,ty,pos,after,g⟩).run Tryz.prog w= .ok (.value (.int .u8 (n % 256))) w:=by
 simp only [execOp,hx];go_simp;rw [Ye]
def Qpe(ops:Array Oper):Prop:=Region.noSelect ops=true∧Qo ops 9 [0,1,2,3,4,5] 0=true∧Rd ops 9 63 [6]∧Rd ops 9 127 [7]∧Rd ops 9 255 [8]∧Rd ops 9 511 []∧lateB .any ops 8 0=true∧lateB .any ops 8 1=true∧lateB .any ops 8 2=true∧lateB .any ops 8 3=true∧lateB .any ops 8 4=true∧lateB .any ops 8 5=true
theorem QjO:Qpe ((Tryz.f171.body.bind (Qh 8)).getD #[]):=⟨Kr,Kr,Rk,Rk,Rk,Rk,Kr,Kr,Kr,Kr,Kr,Kr⟩
def Qcw(o:Opt)(i:Nat):List Int:=((J4 o).take i).flatMap nmB
theorem QmY{o:Opt}{x:Nm}(h:(J4 o)[i]?=some x):Qcw o (i+1)=Qcw o i++nmB x:=by
 unfold Qcw;rw [List.take_add_one,h];simp
theorem Qsr{o:Opt}{x:Nm}(h:(J4 o)[i]?=some x): ∃m:Nat,x.by_=m∧1≤m∧m≤6:=by
 have a:i<8:=(List.getElem?_eq_some_iff.1 h).1;obtain rfl|rfl|rfl|rfl|rfl|rfl|rfl|rfl:i=0∨i=1∨i=2∨i=3∨i=4∨i=5∨i=6∨i=7:=by omega
 all_goals(obtain rfl:=Option.some.inj h;first|exact⟨1,rfl,Om,Om⟩|exact⟨4,rfl,Om,Om⟩|exact⟨6,rfl,Om,Om⟩)
theorem Qpf(o:Opt)(i:Nat):(Qcw o i).length≤16:=by
 have b:(Qcw o i).length≤(Qcw o 8).length:=by
  unfold Qcw;rcases Nat.lt_or_ge i 8 with h|h
  ·obtain⟨k,a⟩: ∃k,8=i+k:=⟨8- i,Om⟩;rw [a,List.take_add,List.flatMap_append,List.length_append];omega
  ·rw [List.take_of_length_le (by show 8≤i;exact h),List.take_of_length_le (by show 8≤8;omega)];omega
 have:(Qcw o 8).length=16:=rfl;omega
theorem Qss{b:Nat}{p:Option Addr}{c:Nat}(h:w.cell? ⟨b,0,none⟩=some (.slice p m c)):(loadVar 28 ⟨b,0,none⟩).run Tryz.prog w= .ok (.slice p m c) w:=by go_simp
structure QeI(B base:Nat)(L:List Int)(W:World):Prop where
 at_: ∃v,Boxed W B 28 v∧OB W base v L∧(v= .slice none 0 0∨0<L.length)
theorem QeI.mv{L:List Int}{A':World}(h:QeI B base L A)(hm:Mv C A A')(hb: ¬C B)(hc: ∀k,base≤k→ ¬C k):QeI B base L A':=by
 obtain⟨v,a,b,c⟩:=h;exact⟨v,Qj a hm hb,Qw b hm hc,c⟩
theorem Qvr{Bx:Nat}{v:Value}{L:List Int}{x:Nm}(h:OB W base v L)(h0:v= .slice none 0 0∨0<L.length)(rx:RowZ W Bx #[.int .i64 x.n,.int .i64 x.lo,.int .i64 x.hi,.int .i64 x.by_]): ∀g,v.ownBlock=some g→g≠Bx:=by
 intro g b e;subst e;rcases h0 with rfl|h0
 ·cases b
 ·obtain⟨f,c,rfl,-,-,-,-,i⟩:=h.at h0;have:f=g:=by simpa [Value.ownBlock]using b
  subst this;have d:=i 0 h0;have a:=rx.cell 0 (by show 0<4;omega);rw [d]at a
  cases a
theorem Qpg(o:Opt)(w:World)(h0:0≤o.ki∧o.ki<256)(h1:0≤o.bu∧o.bu<256)(hok:ZO o=true):
  Calls Tryz.prog 171 #[.agg (opv o)] w fun e w'=> ∃v,e= .returned (.tuple #[v,.int .i64 0])∧Z8 w w' v (Ym o):=by
 have HN:=Xh (fun W=>Qa2 o W h0 h1);have HR:=Xh (fun W=>Qb6 o W h0 h1);rw [hok]at HR;clear h0 h1 hok;refine(callsIn_wide (n:=5)).1 ?_;refine callsIn_of_wp_marks Tryz.func171 rfl trivial ?_ rfl;simp only [Tryz.ntmps171,List.size_toArray,List.length_cons,List.length_nil,Nat.reduceAdd,Nat.reduceSub,Array.replicate_succ,Array.replicate_zero,List.push_toArray,List.append_toArray,List.nil_append,List.cons_append];refine wpIn_wide.2 ?_
 go_upto_region 1 with(fail)
 obtain⟨U,H⟩: ∃U,(w.alloc (.cells (opv o) 75)).alloc (.cells #[.slice none 0 0] 28)=U:=⟨_,rfl⟩;have g0:Ext w U:=by rw [←H];exact Ext.al Ea _
 have r1:RowZ U w.heap.size (opv o):=by rw [←H];exact⟨by simp [go_sem],by simp [go_sem],by simp [go_sem,Lt]⟩
 have b3:Boxed U (w.heap.size+1) 28 (.slice none 0 0):=by
  rw [←H];have:=Boxed.new (w.alloc (.cells (opv o) 75)) 28 (.slice none 0 0)
  rwa [World.size_alloc]at this
 rw [H];clear H;have e2:=r1.r;have e3:=r1.l
 go_wp2_with (first|(go_at_call 169;(with_reducible refine(HR.out _).mono ?_);rintro e w3 ⟨rfl,Q⟩;have e4:=(r1.ext Q).r;have e5:=(r1.ext Q).l)|(go_at_call 168;(with_reducible refine(HN.out _).mono ?_);rintro e d ⟨V,rfl,⟨g1,f0,⟨br,cv,sv,f1,d9⟩,M⟩⟩))
 have g2:Ext w d:=(g0.tr Q).tr g1;have c5:Boxed d (w.heap.size+1) 28 (.slice none 0 0):=Qj (C:=fun _=>False) b3 (Mv.of_ext (Q.tr g1)) (fun h=>h);have e6:w.heap.size+2≤w3.heap.size:=Xt (by have:=b3.lt;omega) Q.size;refine(wpIn_wide (n:=5)).1 ?_;refine ZI rfl Om (gf:=212) (lb:=#[.pointer (some ⟨V,0,none⟩)]) rfl trivial JB
  (Qas _ (J4 o) (some ⟨br,0,none⟩) 8 d V (fun k=>k=w.heap.size+1) sv (fun b off e=>by cases e;exact Nat.lt_trans d9 M) (by show 8≤1000;omega) cv M (fun k e=>by subst e;exact⟨Om,fun b off e=>by cases e;omega⟩))
  (fun k h=>h.elim) (fun k h=>by unfold Lt at M;omega) (fun _=>rfl)
  (fun i W=>QeI (w.heap.size+1) (d.heap.size+2) (Qcw o i) W) (fun _ _=>False)
  (fun i A B h I=>h.mv I (by rintro(h|h|h);exact h.elim;(unfold Lt at M;omega);(unfold Lt at M;omega)) (fun k hk h=>by rcases h with h|h|h;exact h.elim;omega;omega))
  (fun _ _ _ h _=>h) ⟨⟨_,c5,OB.zero _ _,.inl rfl⟩⟩
  (fun x a' W=> ∃G,d.heap.size+2≤G∧RowZ W G #[.int .i64 x.n,.int .i64 x.lo,.int .i64 x.hi,.int .i64 x.by_]∧a'={tmps:=#[.agg (opv o),.pointer (some ⟨w.heap.size,0,none⟩),.pointer (some ⟨w.heap.size+1,0,none⟩),.int .i64 0,.pointer (some ⟨G,0,none⟩),undef,.agg (opv o),.bool true,.bool false,.agg (opv o),.func (.func 212) #[] #[.pointer (some ⟨V,0,none⟩)],.agg #[.int .i64 x.n,.int .i64 x.lo,.int .i64 x.hi,.int .i64 x.by_],undef,undef,undef,undef,undef,undef,undef,undef,undef,undef,undef,undef,undef,undef,undef,undef,undef],defers:= []})
  (fun x a' A B h I=>by
   obtain⟨G,q1,X,q3⟩:=h
   exact⟨G,q1,X.mv I Om,q3⟩)
  ?assign ?body ?done ?stop
 case assign=>
  intro y i x W K a9 Y Z hx hK;unfold nmv
  gi_wp2
  refine hK _ _ (Mv.al _ (Mv.refl _ _)) (Z.mv (C:=fun _=>False) (Mv.al _ (Mv.refl _ _)) (fun h=>h) (fun _ _ h=>h)) ⟨W.heap.size,a9,RowZ.new _ _ _,rfl⟩
 case body=>
  rintro y i x a' W e0 ⟨rr,hr⟩ a9 Y Z hx ⟨G,q1,X,rfl⟩;have e7:i<(J4 o).length:=(List.getElem?_eq_some_iff.1 hx).1;obtain⟨m,I,m1,m6⟩:=Qsr hx;have d3:=X.cell 3 (by show 3<4;omega);have d3:W.cell? ⟨G,3,none⟩=some (.int .i64 (m:Nat)):=by rw [←I];exact d3
  have a5:=Xh (show Qcw o (i+1)=Qcw o i++byN x.n m by rw [QmY hx];unfold nmB;rw [I];rfl);have b5:=Xh (show(Qcw o i).length+m≤16 by have:=Qpf o (i+1);rw [a5.out,List.length_append,ZA]at this;exact this);obtain⟨L,hL⟩: ∃L,Qcw o i=L:=⟨_,rfl⟩;rw [hL]at Z a5 b5;have HI:=Xh Z;have HQ:=Xh X;have c6:V<d.heap.size:=M;have c7:=Xh I;clear Z hx hr X Y I hL e0
  gi_wp2
  gi_loopw [5] (fun a wr=> ∃q:Nat,q≤m∧a= .int .i64 (8*((q:Int)- 1))∧QeI (w.heap.size+1) (d.heap.size+2) (L++(byN x.n m).take (m- q)) wr∧RowZ wr G #[.int .i64 x.n,.int .i64 x.lo,.int .i64 x.hi,.int .i64 x.by_]∧Mv (fun k=>k=w.heap.size+1∨d.heap.size+2≤k) W wr) (fun a _=>(intOf a+8).toNat)
  case atStart=>exact⟨m,Nat.le_refl _,congrArg (Value.int .i64) (by rw [c7.out];simp only [wrap64];omega),by rw [Nat.sub_self,List.take_zero,List.append_nil];exact HI.out,HQ.out,Mv.refl _ _⟩
  case round=>
   obtain⟨q,hq,rfl,⟨va,c,g,S⟩,p,hM⟩:=hrel
   by_cases d8:q=0
   ·subst d8;have e8:decide ((0:Int)≤8*(((0:Nat):Int)- 1))=false:=by decide
    have HF:=Xh (show QeI (w.heap.size+1) (d.heap.size+2) (Qcw o (i+1)) wr by
     rw [a5.out];rw [Nat.sub_zero,List.take_of_length_le (by rw [ZA];omega)]at g S
     exact⟨va,c,g,S⟩)
    have HM:=Xh hM;clear c g S p hM d3
    gi_wp2
    exact⟨HM.out,HF.out⟩
   ·obtain⟨j,rfl⟩: ∃j,q=j+1:=⟨q- 1,Om⟩;have e9:decide ((0:Int)≤8*(((j+1:Nat):Int)- 1))=true:=decide_eq_true Om;obtain⟨t,z,F,rfl⟩:=Qa3 g;have b6:=Qvr g S p;have O:=Qi g;obtain⟨LL,a1⟩: ∃LL,L++(byN x.n m).take (m- (j+1))=LL:=⟨_,rfl⟩;have c8:LL.length≤1000:=by rw [←a1,List.length_append,List.length_take];have:=b5.out;omega
    have b7:=Xh (show LL++ [x.n/256^j % 256]=L++(byN x.n m).take (m- j)by rw [←a1,List.append_assoc,Qcm x.n m j Om]);rw [a1]at g S;have HO:=Xh g;have HB:=Xh c;have c9:=Xh p;have HM:=Xh hM;have d0:=Xh b6;have d1:=Xh O;clear g c p hM b6 O a1 d3 S
    gi_wp2
    rw [show 8*(((j+1:Nat):Int)- 1)=((8*j:Nat):Int)by omega];refine ZW (fun k=>(Value.slice t z F).ownBlock=some k) (fun k=>(Value.slice t z F).ownBlock=some k∨k=w.heap.size+1) 8 (fun _=>trivial) (fun h=>by cases h) (fun f args w R h=>CallsIn.inRound y (callsIn_wide.2 h)) Kr Kr ?_;obtain⟨J,H⟩: ∃Wdr,World.drew wr=Wdr:=⟨_,rfl⟩;have P:Ext wr J:=by rw [←H];exact Ext.dr (Ext.rf _)
    rw [H];clear H;have c:=Qj (C:=fun _=>False) HB.out (Mv.of_ext P) (fun h=>h);have g:=OB.ext HO.out P;have p:=c9.out.ext P;have O:=d1.out;have a6: ¬(fun k=>(Value.slice t z F).ownBlock=some k) (w.heap.size+1):=fun e=>by have:=O _ e;omega
    have a7: ¬(fun k=>(Value.slice t z F).ownBlock=some k) G:=fun e=>d0.out _ e rfl;have d2: ¬G=w.heap.size+1:=by omega
    have d4:j<6:=by omega
    have cv:=c.cell;have d5:Lt (w.heap.size+1) J:=c.lt;have a8:d.heap.size+2≤J.heap.size:=Xt (Xt a9 HM.out.size) P.size;refine Zi (N:=9) (R:=Qpe) (E:=((Tryz.f171.body.bind (Qh 8)).getD #[])) Kr QjO Kr fun hS=> ?_;have s:=hS.2.1;refine ZD (N:=9) (k:=0) (m':=1) (v:= .slice t z F) hS.1 s hS.2.2.2.2.2.2.1 rfl rfl Kr (JY cv d5 a6 Kr) fun s=> ?_;refine ZD (N:=9) (k:=1) (m':=3) (v:= .pointer (some ⟨G,0,none⟩)) hS.1 s hS.2.2.2.2.2.2.2.1 rfl rfl Kr (fun _ _=>by kernel_rfl) fun s=> ?_;refine ZD (N:=9) (k:=2) (m':=7) (v:= .int .i64 x.n) hS.1 s hS.2.2.2.2.2.2.2.2.1 rfl rfl Kr (QaY (p.cell 0 (by show 0<4;omega)) p.l a7 Kr) fun s=> ?_;refine ZD (N:=9) (k:=3) (m':=15) (v:= .int .i64 ((8*j:Nat):Int)) hS.1 s hS.2.2.2.2.2.2.2.2.2.1 rfl rfl Kr (fun _ _=>by kernel_rfl) fun s=> ?_;refine ZD (N:=9) (k:=4) (m':=31) (v:= .int .i64 (x.n/256^j)) hS.1 s hS.2.2.2.2.2.2.2.2.2.2.1 rfl rfl Kr (fun w' _=>QmX d4 _ _ _ _ 3 _ _ _ _ Kr Kr w') fun s=> ?_;refine ZD (N:=9) (k:=5) (m':=63) (v:= .int .u8 (x.n/256^j % 256)) hS.1 s hS.2.2.2.2.2.2.2.2.2.2.2 rfl rfl Kr (fun w' _=>QeH _ _ _ _ _ _ _ Kr w') fun s=> ?_;refine Qr hS.2.2.1 (Zq (m':=127) rfl rfl Kr (QfN (v:=x.n/256^j % 256) Kr J) ⟨.inr (Mv.of_ext Ea),(Mv.of_ext Ea)⟩ ?_);obtain⟨a2,b0⟩: ∃a2,J.alloc (.cells #[.int .u8 (x.n/256^j % 256)] 5)=a2:=⟨_,rfl⟩;have b8:=World.alloc_heap_new J (.cells #[.int .u8 (x.n/256^j % 256)] 5);have T:Ext J a2:=by rw [←b0];exact Ea
    rw [b0]at b8⊢;clear b0;have c:=Qj (C:=fun _=>False) c (Mv.of_ext T) (fun h=>h);have g:=OB.ext g T;have p:=p.ext T;have b9:a2.cell? ⟨J.heap.size,0,none⟩=some (.int .u8 (x.n/256^j % 256)):=by simp only [World.cell?,b8];rfl
    have a8:=Xt a8 T.size;have c0:=Mv.of_ext (C:=fun k=>k=w.heap.size+1∨d.heap.size+2≤k) T;refine Qr hS.2.2.2.1 (Qyc (m':=255) (base:=d.heap.size+2) (v1:= .slice t z F) (b1:=LL) (x1:=x.n/256^j % 256) rfl rfl Kr Kr g b9 c8 (fun r e=>e) (fun k h=> .inl h) a8 ?_);intro v' c3 b2 e1 a3;have c:=Qj c a3 a6;have p:=p.mv a3 a7;have c1:=a3.mono (D:=fun k=>k=w.heap.size+1∨d.heap.size+2≤k) (fun k _ e=> .inr (O k e));refine Qr hS.2.2.2.2.1 (QE (m':=511) rfl rfl Kr (Yt (B:=w.heap.size+1) (v:=v') (u:= .slice t z F) c.cell c.frozen (Qa3 b2) Kr Kr) ⟨.inl Dc,(Mv.st _ (.inl (.inr rfl)) (Mv.refl _ _))⟩ ?_);obtain⟨a0,a4⟩: ∃a0,World.setCell c3 ⟨w.heap.size+1,0,none⟩ v'=a0:=⟨_,rfl⟩;have c:Boxed a0 (w.heap.size+1) 28 v':=by rw [←a4];exact c.set _
    have gS:Mv (fun k=>k=w.heap.size+1) c3 a0:=by rw [←a4];exact Mv.st _ (.inl rfl) (Mv.refl _ _)
    have p:=p.mv gS d2;rw [a4];clear a4;refine QZ hS.2.2.2.2.2.1 ?_;clear hS s;have HF:=Xh (show QeI (w.heap.size+1) (d.heap.size+2) (L++(byN x.n m).take (m- j)) a0 from⟨⟨v',c,by rw [←b7.out];exact Qw b2 gS (fun k hk e=>by omega),.inr (by rw [←b7.out];simp)⟩⟩);have d6:=Xh p;have d7:=Xh ((((HM.out.tr P).trans c0).trans c1).trans (gS.mono (D:=fun k=>k=w.heap.size+1∨d.heap.size+2≤k) (fun k _ e=> .inl e)));have hw:wrap64 (((8*j:Nat):Int)- 8)=8*((j:Int)- 1):=by simp only [wrap64];omega
    clear c g p O a6 a7 cv c0 c1 gS b2 e1 a3 P b9;go_simp
    gi_wp2
    exact⟨⟨j,Om,congrArg (Value.int .i64) Om,HF.out,d6.out,d7.out⟩,by simp [intOf];omega⟩
 case done=>
  rintro W ⟨v,c,g,-⟩ Y hK;obtain⟨t,z,F,rfl⟩:=Qa3 g;have hc:=c.cell;have hf:=c.frozen;have c6:V<d.heap.size:=M;have HO:=Xh (show OB W (d.heap.size+2) (.slice t z F) (Ym o)from g);have HG:=Xh (Mv.ext_of g2 Y (fun k h=>by rcases h with h|h;exact h.elim;omega));have HB:=Xh c;have HK:=Xh hK;clear g Y c hK g2 g1 g0 Q;go_wp2;have mS:Mv (fun k=>k=w.heap.size+1) W (W.setCell ⟨w.heap.size+1,0,none⟩ (.slice t z F)):=Mv.st _ (.inl rfl) (Mv.refl _ _);have c2:=(mS.same d.heap.size (Array.getElem?_eq_some_iff.1 HK.out).1 Om).trans HK.out;refine⟨by simp,.inl ⟨_,_,rfl,run_takeDeferred c2,?_⟩⟩;obtain⟨W4,c4⟩: ∃W4,W.setCell ⟨w.heap.size+1,0,none⟩ (.slice t z F)=W4:=⟨_,rfl⟩;have b4:Boxed W4 (w.heap.size+1) 28 (.slice t z F):=by rw [←c4];exact HB.out.set _
  rw [c4]at mS c2⊢;have m3:Mv (fun k=>k=d.heap.size) W4 (W4.putObj d.heap.size (.deferred none)):=Mv.put _ _ _ rfl;refine⟨_,QL rfl _ _ (w.heap.size+1) rfl (Qss (Qj b4 m3 Om).cell),.slice t z F,rfl,?_,?_⟩
  ·exact(show OB _ (d.heap.size+2) _ _ from Qw (Qw HO.out mS (fun k hk e=>by omega)) m3 (fun k hk e=>by omega)).le Om
  ·exact Mv.ext_of (Mv.ext_of HG.out mS (fun k e=>by omega)) m3 (fun k e=>by omega)
 case stop=>intro _ _ h;exact h.elim
end Go.Proofs.YtpeonbaodnmlnaaGreat
