/- Lemmas of this claim, put together out of: OE, OI. -/
import Derived.Test.YtpeonbaodnmlnaaGreatMA5
import Derived.Deep.Slices
import Derived.Deep.Fields
import Derived.ChangeSame
set_option linter.unusedSimpArgs false
set_option linter.unusedVariables false
set_option maxRecDepth 100000
set_option maxHeartbeats 16000000
namespace Go.Proofs.YtpeonbaodnmlnaaGreat
open Go.ChangeShapes Go.WideShapes Go.ChangeAt Go.RowKit Go.Joins Go.Deep
theorem QwY:ownKnob Tryz.prog.godebug=none:=by kernel_rfl
theorem QrD:laidOutB Tryz.prog=true:=by kernel_rfl
theorem QrE:Tryz.prog.cellsOf 3=1:=by kernel_rfl
theorem QwZ:Tryz.prog.cellsOf 5=1:=by kernel_rfl
theorem QpJ:Tryz.prog.cellsOf 61=1:=by kernel_rfl
theorem QpK:Tryz.prog.cellsOf 62=1:=by kernel_rfl
theorem QrF:Tryz.prog.cellsOf 4=1:=by kernel_rfl
theorem Qw0:Tryz.prog.cellsOf 64=4:=by kernel_rfl
theorem Qw1:Tryz.prog.cellsOf 66=6:=by kernel_rfl
theorem Qw2:Tryz.prog.cellsOf 23=4:=by kernel_rfl
theorem Qug:Tryz.prog.cellsOf 24=64:=by kernel_rfl
theorem QrG:Tryz.prog.cellsOf 25=1:=by kernel_rfl
theorem Qw3:Tryz.prog.cellsOf 27=67:=by kernel_rfl
theorem Qw4{n:Int}(h:(Lit.int .u8 n).wf=true):0≤n:=by
 have h1:IntKind.u8.min=0:=rfl;simp only [Lit.wf,Bool.and_eq_true,decide_eq_true_eq]at h;omega
theorem QpL{n:Int}(h:(Lit.int .u32 n).wf=true):0≤n∧n<4294967296:=by
 have h1:IntKind.u32.min=0:=rfl;have h2:IntKind.u32.max=4294967295:=rfl;simp only [Lit.wf,Bool.and_eq_true,decide_eq_true_eq]at h;omega
theorem QpM{n:Int}(h:(Lit.int .u16 n).wf=true):0≤n∧n<65536:=by
 have h1:IntKind.u16.min=0:=rfl;have h2:IntKind.u16.max=65535:=rfl;simp only [Lit.wf,Bool.and_eq_true,decide_eq_true_eq]at h;omega
theorem YE{L:List Value}{j:Nat}{v:Value}(h:(L.drop j).take 1= [v]):L[j]?=some v:=by
 have:=congrArg (fun l=>l[0]?) h;simpa using this
theorem QcU{L:List Value}{o n j:Nat}{v:Value}(h:((L.drop o).take n)[j]?=some v)(hj:j<n):L[o+j]?=some v:=by
 rwa [List.getElem?_take,if_pos hj,List.getElem?_drop]at h
open Classical in
theorem Qmz{α:Type}{p:Nat→α→Prop}{n:Nat}(h: ∀i,i<n→ ∃x,p i x)[Nonempty α]: ∃f:Nat→α,∀i,i<n→p i (f i):=
 ⟨fun i=>if q:i<n then(h i q).choose else Classical.choice inferInstance,fun i hi=>by dsimp only;rw [dif_pos hi];exact(h i hi).choose_spec⟩
instance:Nonempty Md:=⟨⟨0,0,0,false⟩⟩
def Tu.at(t:Tu)(j:Nat):Value:=match j with|0=> .int .u32 t.a|1=> .int .u32 t.b|2=> .int .u16 t.c|_=> .int .u16 t.d
def Co.at(x:Co)(j:Nat):Value:=match j with|0=> .int .u32 x.t.a|1=> .int .u32 x.t.b|2=> .int .u16 x.t.c|3=> .int .u16 x.t.d|4=> .int .i64 x.s|_=> .int .i64 x.l
section
variable {H:Type} {enc:TypeId×Value→H} {w:World} {base b0:Nat} {spare:Nat→Bool} {held:Bool} {fuel:Nat} {L:List Value} {y:DataW H×List MemPlace}
theorem Qa7{T:TypeId}{fs:Array Field}(ht:Tryz.prog.underlying T=some (.struct fs))(h:DataW.trod enc Tryz.prog w base spare held fuel T L=some y):
  ∃n,L.length=Tryz.prog.cellsOf T∧ ∀(i:Nat) (f:Field),fs[i]?=some f→ ∃z,DataW.trod enc Tryz.prog w base spare held n f.type ((L.drop f.offset).take (Tryz.prog.cellsOf f.type))=some z:=by
 obtain⟨ys,n,_,_,hl,hlen,hf⟩:=DataW.trod_struct ht h;refine⟨n,hl,fun i f hi=> ?_⟩;have hlt:i<fs.size:=(Array.getElem?_eq_some_iff.1 hi).1;exact⟨ys[i]'(by omega),(hf i f hi).trans (List.getElem?_eq_getElem (by omega))⟩
theorem QpN{T e:TypeId}{n:Nat}(ht:Tryz.prog.underlying T=some (.array n e))(h:DataW.trod enc Tryz.prog w base spare held fuel T L=some y):
  ∃m,L.length=Tryz.prog.cellsOf T∧ ∀(i:Nat),i<n→ ∃z,DataW.trod enc Tryz.prog w base spare held m e ((L.drop (i*Tryz.prog.cellsOf e)).take (Tryz.prog.cellsOf e))=some z:=by
 obtain⟨ys,m,_,_,hl,hlen,hf⟩:=DataW.trod_array ht h;exact⟨m,hl,fun i hi=>⟨ys[i]'(by omega),(hf i hi).trans (List.getElem?_eq_getElem (by omega))⟩⟩
theorem Qw5(h:DataW.trod enc Tryz.prog w base spare held fuel 23 L=some y): ∃x:Md,0≤x.kind∧ ∀j,j<4→L[j]?=some (x.at j):=by
 obtain⟨n,-,hf⟩:=Qa7 Tryz.underlying23 h;obtain⟨z0,(h0:DataW.trod enc Tryz.prog w base spare held n 5 ((L.drop 0).take (Tryz.prog.cellsOf 5))=some z0)⟩:=hf 0 _ rfl;rw [QwZ]at h0;obtain⟨a0,p0,_,w0⟩:=DataW.trod_int Tryz.underlying5 h0;obtain⟨z1,(h1:DataW.trod enc Tryz.prog w base spare held n 3 ((L.drop 1).take (Tryz.prog.cellsOf 3))=some z1)⟩:=hf 1 _ rfl;rw [QrE]at h1;obtain⟨a1,p1,_,w1⟩:=DataW.trod_int Tryz.underlying3 h1;obtain⟨z2,(h2:DataW.trod enc Tryz.prog w base spare held n 3 ((L.drop 2).take (Tryz.prog.cellsOf 3))=some z2)⟩:=hf 2 _ rfl;rw [QrE]at h2;obtain⟨a2,p2,_,w2⟩:=DataW.trod_int Tryz.underlying3 h2;obtain⟨z3,(h3:DataW.trod enc Tryz.prog w base spare held n 4 ((L.drop 3).take (Tryz.prog.cellsOf 4))=some z3)⟩:=hf 3 _ rfl;rw [QrF]at h3;obtain⟨a3,p3,_⟩:=DataW.trod_bool Tryz.underlying4 h3;refine⟨⟨a0,a1,a2,a3⟩,Qw4 w0,fun j hj=> ?_⟩;obtain rfl|rfl|rfl|rfl:j=0∨j=1∨j=2∨j=3:=by omega
 ·exact YE p0
 ·exact YE p1
 ·exact YE p2
 ·exact YE p3
theorem Quh(h:DataW.trod enc Tryz.prog w base spare held fuel 24 L=some y): ∃f:Nat→Md,(∀i,i<16→0≤((f i)).kind)∧ ∀i j,i<16→j<4→L[i*4+j]?=some ((f i).at j):=by
 obtain⟨q,-,hf⟩:=QpN Tryz.underlying24 h;rw [Qw2]at hf;obtain⟨f,hf⟩:=Qmz (p:=fun i (x:Md)=>(0≤(x).kind)∧ ∀j,j<4→((L.drop (i*4)).take 4)[j]?=some (x.at j)) (n:=16) fun i hi=>by
  obtain⟨z,hz⟩:=hf i hi;exact Qw5 hz
 exact⟨f,fun i hi=>(hf i hi).1,fun i j hi hj=>QcU ((hf i hi).2 j hj) hj⟩
theorem Qw6(h:DataW.trod enc Tryz.prog w base spare held fuel 64 L=some y): ∃x:Tu,TuR x∧ ∀j,j<4→L[j]?=some (x.at j):=by
 obtain⟨n,-,hf⟩:=Qa7 Tryz.underlying64 h;obtain⟨z0,(h0:DataW.trod enc Tryz.prog w base spare held n 61 ((L.drop 0).take (Tryz.prog.cellsOf 61))=some z0)⟩:=hf 0 _ rfl;rw [QpJ]at h0;obtain⟨a0,p0,_,w0⟩:=DataW.trod_int Tryz.underlying61 h0;obtain⟨z1,(h1:DataW.trod enc Tryz.prog w base spare held n 61 ((L.drop 1).take (Tryz.prog.cellsOf 61))=some z1)⟩:=hf 1 _ rfl;rw [QpJ]at h1;obtain⟨a1,p1,_,w1⟩:=DataW.trod_int Tryz.underlying61 h1;obtain⟨z2,(h2:DataW.trod enc Tryz.prog w base spare held n 62 ((L.drop 2).take (Tryz.prog.cellsOf 62))=some z2)⟩:=hf 2 _ rfl;rw [QpK]at h2;obtain⟨a2,p2,_,w2⟩:=DataW.trod_int Tryz.underlying62 h2;obtain⟨z3,(h3:DataW.trod enc Tryz.prog w base spare held n 62 ((L.drop 3).take (Tryz.prog.cellsOf 62))=some z3)⟩:=hf 3 _ rfl;rw [QpK]at h3;obtain⟨a3,p3,_,w3⟩:=DataW.trod_int Tryz.underlying62 h3;refine⟨⟨a0,a1,a2,a3⟩,⟨QpL w0,QpL w1,QpM w2,QpM w3⟩,fun j hj=> ?_⟩;obtain rfl|rfl|rfl|rfl:j=0∨j=1∨j=2∨j=3:=by omega
 ·exact YE p0
 ·exact YE p1
 ·exact YE p2
 ·exact YE p3
theorem Qw7(h:DataW.trod enc Tryz.prog w base spare held fuel 66 L=some y): ∃x:Co,TuR x.t∧ ∀j,j<6→L[j]?=some (x.at j):=by
 obtain⟨n,-,hf⟩:=Qa7 Tryz.underlying66 h;obtain⟨z0,(h0:DataW.trod enc Tryz.prog w base spare held n 64 ((L.drop 0).take (Tryz.prog.cellsOf 64))=some z0)⟩:=hf 0 _ rfl;obtain⟨z1,(h1:DataW.trod enc Tryz.prog w base spare held n 3 ((L.drop 4).take (Tryz.prog.cellsOf 3))=some z1)⟩:=hf 1 _ rfl;obtain⟨z2,(h2:DataW.trod enc Tryz.prog w base spare held n 3 ((L.drop 5).take (Tryz.prog.cellsOf 3))=some z2)⟩:=hf 2 _ rfl;rw [Qw0]at h0;rw [QrE]at h1 h2;obtain⟨t,hr,ht⟩:=Qw6 h0;obtain⟨a1,p1,_,_⟩:=DataW.trod_int Tryz.underlying3 h1;obtain⟨a2,p2,_,_⟩:=DataW.trod_int Tryz.underlying3 h2;refine⟨⟨t,a1,a2⟩,hr,fun j hj=> ?_⟩;obtain rfl|rfl|rfl|rfl|rfl|rfl:j=0∨j=1∨j=2∨j=3∨j=4∨j=5:=by omega
 ·exact QcU (o:=0) (ht 0 (by omega)) (by omega)
 ·exact QcU (o:=0) (ht 1 (by omega)) (by omega)
 ·exact QcU (o:=0) (ht 2 (by omega)) (by omega)
 ·exact QcU (o:=0) (ht 3 (by omega)) (by omega)
 ·exact YE p1
 ·exact YE p2
theorem QrH(h:DataW.trod enc Tryz.prog w base spare held fuel 25 L=some y):
  ∃(q:Option Addr) (xs:List Co) (c:Nat),L= [.slice q xs.length c]∧SlC w q xs∧(∀x∈xs,TuR x.t)∧xs.length≤c∧c≤maxLen∧(q=none→c=0):=by
 rcases open_slice Tryz.underlying25 h with⟨hcs,_⟩|⟨a,len,cap,k,n,D,Pl,hcs,_,hl,hm,hk,_,hi⟩
 ·exact⟨none,[],0,hcs,SlC.nil _ _,(fun x h=>by cases h),Nat.le_refl _,by unfold maxLen;omega,fun _=>rfl⟩
 ·have hkl:len≤k:=by rw [hk];split<;>omega
  have key: ∀i,i<len→ ∃x:Co,(TuR (x).t)∧ ∀j,j<6→w.cell? (a.add (i*6+j))=some (x.at j):=by
   intro i hi';obtain⟨cs',hc,ht'⟩:=hi i (by omega);rw [Qw1]at hc;obtain⟨_,hcl,hat⟩:=World.cells?_some hc;obtain⟨x,hr,hx⟩:=Qw7 ht';refine⟨x,hr,fun j hj=> ?_⟩;have h1:=hat j hj;rw [hx j hj]at h1;have e:(a.add (i*6)).add j=a.add (i*6+j):=by
    unfold Addr.add
    repeat' split
    all_goals first|(exfalso;simp_all;omega)|(simp_all;done)|(simp_all;omega)
   rw [←e];exact h1
  have hlen:((List.range len).map fun i=>if h:i<len then(key i h).choose else⟨⟨0,0,0,0⟩,0,0⟩).length=len:=by simp
  refine⟨some a,(List.range len).map fun i=>if h:i<len then(key i h).choose else⟨⟨0,0,0,0⟩,0,0⟩,cap,by rw [hlen];exact hcs,?_,?_,by rw [hlen];exact hl,hm,fun e=>by cases e⟩
  ·intro i hi';have hil:i<len:=by omega
   have hc:=(key i hil).choose_spec;simp only [List.getElem_map,List.getElem_range,dif_pos hil];generalize (key i hil).choose=x at hc;obtain⟨-,hx'⟩:=hc;have hvw:a.spot=none:=by
    obtain⟨x0,_,hx0⟩:=key 0 (by omega);have:=hx0 0 (by omega);simpa [Addr.add]using World.cell?_spot this
   obtain⟨b,off,view⟩:=a;obtain rfl:view=none:=hvw;have hx': ∀j,j<6→w.cell? ⟨b,off+i*6+j,none⟩=some (x.at j):=fun j hj=>by
    have:=hx' j hj;rw [add_plain]at this;rw [Nat.add_assoc];exact this
   exact⟨b,off,rfl,World.block_lt_of_cell? w _ (hx' 0 (by omega)),hx' 0 (by omega),hx' 1 (by omega),hx' 2 (by omega),hx' 3 (by omega),hx' 4 (by omega),hx' 5 (by omega)⟩
  ·intro x hx;rw [List.mem_map]at hx;obtain⟨i,hi',rfl⟩:=hx;have hil:i<len:=List.mem_range.1 hi';rw [dif_pos hil];exact(key i hil).choose_spec.1
structure AgO(w:World)(a:Ag):Prop where
 s:SlC w a.p a.xs
 t: ∀c∈a.xs,TuR c.t
 k: ∀i,i<16→0≤(a.md i).kind
 l:a.xs.length≤9223372036854775807
theorem Qw8(h:DataW.trod enc Tryz.prog w base spare held fuel 27 L=some y): ∃x:Ag,AgO w x∧ ∀j,j<67→L[j]?=some (x.at j):=by
 obtain⟨n,-,hf⟩:=Qa7 Tryz.underlying27 h;obtain⟨z0,(h0:DataW.trod enc Tryz.prog w base spare held n 3 ((L.drop 0).take (Tryz.prog.cellsOf 3))=some z0)⟩:=hf 0 _ rfl;obtain⟨z1,(h1:DataW.trod enc Tryz.prog w base spare held n 3 ((L.drop 1).take (Tryz.prog.cellsOf 3))=some z1)⟩:=hf 1 _ rfl;obtain⟨z2,(h2:DataW.trod enc Tryz.prog w base spare held n 24 ((L.drop 2).take (Tryz.prog.cellsOf 24))=some z2)⟩:=hf 2 _ rfl;obtain⟨z3,(h3:DataW.trod enc Tryz.prog w base spare held n 25 ((L.drop 66).take (Tryz.prog.cellsOf 25))=some z3)⟩:=hf 3 _ rfl;rw [QrE]at h0 h1;rw [Qug]at h2;rw [QrG]at h3;obtain⟨a,p0,_,_⟩:=DataW.trod_int Tryz.underlying3 h0;obtain⟨b,p1,_,_⟩:=DataW.trod_int Tryz.underlying3 h1;obtain⟨f,hk,hr⟩:=Quh h2;obtain⟨p,xs,c,p3,hs,ht,hlc,hcm,-⟩:=QrH h3;refine⟨⟨a,b,f,p,xs,c⟩,⟨hs,ht,hk,by unfold maxLen at hcm;show xs.length≤_;omega⟩,fun j hj=> ?_⟩;unfold Ag.at
 by_cases q0:j=0
 ·subst q0;exact YE p0
 rw [if_neg q0]
 by_cases q1:j=1
 ·subst q1;exact YE p1
 rw [if_neg q1]
 by_cases q2:j<66
 ·rw [if_pos q2];have h:=QcU (hr ((j- 2)/4) ((j- 2) % 4) (by omega) (by omega)) (by omega)
  rwa [show 2+((j- 2)/4*4+(j- 2) % 4)=j by omega]at h
 ·rw [if_neg q2];obtain rfl:j=66:=by omega
  exact YE p3
theorem QrI{v:Value}{d:DataW H}{p:List MemPlace}(hv:Value.okWide Tryz.prog w .any b0 27 v)(h:DataW.Trod enc Tryz.prog w base spare held 27 v d p): ∃x:Ag,v= .agg (agv x)∧AgO w x:=by
 simp only [Value.okWide,Tryz.underlying27]at hv;obtain⟨cs,rfl,hn,_⟩:=hv;rw [Qw3]at hn;obtain⟨fuel,hf⟩:=h;obtain⟨x,hR,hx⟩:=Qw8 hf;refine⟨x,congrArg Value.agg (Array.ext_getElem? fun j=> ?_),hR⟩
 by_cases hj:j<67
 ·have h1:=hx j hj;have h2:cs[j]?=some (x.at j):=by simpa [Value.cells]using h1
  rw [h2];unfold agv;rw [QU,if_pos hj]
 ·rw [Array.getElem?_eq_none (by omega),Array.getElem?_eq_none (by rw [Qh];omega)]
end
end Go.Proofs.YtpeonbaodnmlnaaGreat
namespace Go.Proofs.YtpeonbaodnmlnaaGreat
open Go.ChangeShapes Go.WideShapes Go.ChangeAt Go.RowKit
def Jm(P:Co→Bool)(xs:List Co)(j:Nat):Nat:=((xs.take j).filter P).length
theorem Qh1{P:Co→Bool}{xs:List Co}{j:Nat}{x:Co}(h:xs[j]?=some x)(hp:P x=true):Jm P xs (j+1)=Jm P xs j+1∧(xs.filter P)[Jm P xs j]?=some x∧Jm P xs j<(xs.filter P).length:=by
 have e1:Jm P xs (j+1)=Jm P xs j+1:=by unfold Jm;rw [List.take_add_one,h];simp [hp]
 have hg:(xs.filter P)[Jm P xs j]?=some x:=by
  obtain⟨hj,hx⟩:=List.getElem?_eq_some_iff.1 h;have hs:xs=xs.take j++x::xs.drop (j+1):=by
   rw [←hx,←List.drop_eq_getElem_cons hj,List.take_append_drop]
  unfold Jm
  conv=>lhs;rw [hs,List.filter_append]
  rw [List.filter_cons_of_pos hp,List.take_append_of_le_length (by simp;omega)];rw [List.take_take,Nat.min_self,List.getElem?_append_right (Nat.le_refl _),Nat.sub_self];rfl
 exact⟨e1,hg,(List.getElem?_eq_some_iff.1 hg).1⟩
theorem Qk1{P:Co→Bool}{xs:List Co}{j:Nat}{x:Co}(h:xs[j]?=some x)(hp:P x=false):Jm P xs (j+1)=Jm P xs j:=by unfold Jm;rw [List.take_add_one,h];simp [hp]
theorem Qh2{P:Co→Bool}{xs:List Co}{j:Nat}(h:xs.length≤j):Jm P xs j=(xs.filter P).length:=by unfold Jm;rw [List.take_of_length_le h]
theorem Qk2(P:Co→Bool)(xs:List Co)(j:Nat):Jm P xs j≤xs.length:=by
 unfold Jm;exact Xt (List.length_filter_le _ _) (by rw [List.length_take];omega)
theorem QmA{id:Int}{xs:List Co}{n:Nat}{x:Co}(h:xs[n]?=some x):(Zj id xs)[n]?=some ⟨4,id,x.t⟩:=by unfold Zj;rw [List.getElem?_map,h];rfl
theorem QpO(a:Ag):Qf7 a.md a.md=true:=by unfold Qf7 Qoi;simp
theorem QpP{a:Ag}(now:Int)(h:agR a=true):Qbk a now=a.xs.filter (fun x=>!idleB a.idle now x)∧Qbl a now=Zj a.id (a.xs.filter (idleB a.idle now)):=by unfold Qbk Qbl;rw [if_pos h,if_pos h];exact⟨rfl,rfl⟩
def QsG(a:Ag)(xs:List Co)(es:List Ev)(v:Value)(w':World):Prop:= ∃p c q d,v= .tuple #[.agg (agv {a with p:=p,xs:=xs,c:=c}),.slice q es.length d]∧SlC w' p xs∧SlE w' q es
theorem Qui(a:Ag)(now:Int)(w:World)(R:List Co)(L:List Co)(h1:Qbk a now=R)(h2:Qbl a now=Zj a.id L)(hs:SlC w a.p a.xs)(hl:a.xs.length≤1000)(hr: ∀x∈a.xs,TuR x.t)(hk: ∀k,k<16→0≤(a.md k).kind):Calls Tryz.prog 20 #[.agg (agv a),.int .i64 now] w fun e w'=> ∃v,e= .returned v∧QsG a R (Zj a.id L) v w'∧Ext w w':=
 (QcD a now w hs hl hr hk).mono fun e w' ⟨p,c,q,d,h3,h4,h5,h6⟩=>by
  rw [h1]at h3 h4;rw [h2]at h3 h5;exact⟨_,h3,⟨p,c,q,d,rfl,h4,h5⟩,h6⟩
theorem QpQ(a:Ag)(now:Int)(w:World)(ha:AgO w a):
  Calls Tryz.prog 7 #[.agg (agv a),.int .i64 now] w fun e w'=>e= .returned (.bool true)∧Ext w w':=by
 have HAR:=Xh (fun W (hE:Ext w W)=>Qmy a W (ha.s.ext hE) ha.l ha.t ha.k);have HA:=Xh ha;clear ha
 go_enter Tryz.func7,Tryz.ntmps7
 go_upto_region 1 with(fail)
 obtain⟨W0,hW⟩: ∃W0,w.alloc (.cells (agv a) 27)=W0:=⟨_,rfl⟩;have g0:Ext w W0:=by rw [←hW];exact Ext.al (Ext.rf _) _
 have ra:RowZ W0 w.heap.size (agv a):=by rw [←hW];exact RowZ.new _ _ _
 rw [hW];clear hW;obtain⟨b2,e2⟩: ∃b,w.heap.size=b:=⟨_,rfl⟩;rw [e2]at ra⊢;clear e2;have hr0:=ra.r;have HRA:=Xh ra;have HG0:=Xh g0;clear ra g0
 cases hR:agR a
 ·rw [hR]at HAR;clear hR
  go_wp2_with (first|(go_at_call 23;(with_reducible refine(HAR.out _ HG0.out).mono ?_);rintro e w1 ⟨rfl,g1⟩)|(go_at_call 9;(with_reducible refine(Qdf _).mono ?_);rintro e wk ⟨rfl,gk⟩))
  go_ret;exact⟨rfl,(HG0.out.tr g1).tr gk⟩
 ·have hai:=Qht hR;have hl32:a.xs.length≤32:=((Qae a.xs).1 hai.2.2.2.2).1;obtain⟨L,eL⟩: ∃L,a.xs.filter (idleB a.idle now)=L:=⟨_,rfl⟩;obtain⟨R,eR⟩: ∃R,a.xs.filter (fun x=>!idleB a.idle now x)=R:=⟨_,rfl⟩;have HLE:=Xh eL;have HRE:=Xh eR;have hty:=QpP now hR;rw [eL,eR]at hty;have HTI:=Xh (fun W (hE:Ext w W)=>Qui a now W R L hty.1 hty.2 (HA.out.s.ext hE) (by omega) HA.out.t HA.out.k);rw [hR]at HAR;have HID:=Xh hai;clear hR hai hty eL eR
  go_upto_region 3 with(go_at_call 23;(with_reducible refine(HAR.out _ HG0.out).mono ?_);rintro e w1 ⟨rfl,g1⟩)
  have ra:=HRA.out.ext g1;have g1:=HG0.out.tr g1;refine wp_region_lit ?_;refine listV (v:= .agg (agv a)) (w':=w1) rfl ((ZI (C:=fun _=>False) ra (fun h=>h) _ _ _ _ _ _ _ (by kernel_rfl)) _ (Mv.refl (fun _=>False) _)) ?_;refine listV (v:= .int .i64 now) (w':=w1) rfl (by kernel_rfl) ?_;refine JM (R:=fun v w'=>(QsG a R (Zj a.id L)) v w'∧Ext w1 w') rfl (by kernel_rfl) (HTI.out w1 g1) ?_;rintro _ WT1 ⟨⟨p',c',q,d,rfl,s2,l2⟩,gWT1⟩;have g1:=g1.tr gWT1;have ra:=ra.ext gWT1;have eC:=Ext.rf WT1;obtain⟨o,eo⟩: ∃o,({a with p:=p',xs:=R,c:=c'}:Ag)=o:=⟨_,rfl⟩;rw [eo];refine listV (v:= .tuple #[.agg (agv o),.slice q (Zj a.id L).length d]) (w':=WT1) rfl (by kernel_rfl) ?_;refine listV (v:= .agg (agv o)) (w':=WT1) rfl (by kernel_rfl) ?_;refine listV (v:= .slice q (Zj a.id L).length d) (w':=WT1) rfl (by kernel_rfl) ?_;refine listV rfl (QC _ _ _ _ _ _ _) ?_;obtain⟨b5,e5⟩: ∃b,WT1.heap.size=b:=⟨_,rfl⟩;obtain⟨WT2,hWT2⟩: ∃N,WT1.alloc (.cells (agv agz) 27)=N:=⟨_,rfl⟩;have r5:RowZ WT2 b5 (agv agz):=by rw [←hWT2,←e5];exact RowZ.new _ _ _
  have l5:WT1.heap.size≤b5:=by rw [←e5];exact eC.size
  have eC:Ext WT1 WT2:=by rw [←hWT2];exact Ext.al eC _
  rw [hWT2,e5];clear hWT2 e5;refine Zh rfl (Zp (B:=b5) (cs:=agv o) (by rw [r5.r];exact Qh) r5.z Qh ZN _ _ _ _ _ _ _ _ (by kernel_rfl) (by kernel_rfl)) ?_;obtain⟨WT3,hWT3⟩: ∃WT3,Qe WT2 b5 0 (agv o)=WT3:=⟨_,rfl⟩;have r5:RowZ WT3 b5 (agv o):=by rw [←hWT3];exact r5.all _ (Qh.trans Qh.symm)
  have eC:Ext WT1 WT3:=by rw [←hWT3];exact Ext.sa _ l5 eC
  rw [hWT3];clear hWT3;refine listV (v:= .slice q (Zj a.id L).length d) (w':=WT3) rfl (by kernel_rfl) ?_;refine wpList_nil ?_;have g1:=g1.tr eC;have ra:=ra.ext eC;have s2:=s2.ext eC;have l2:=l2.ext eC;clear eC;go_simp;have hp5:o.p=p':=by rw [←eo]
  have hx5:o.xs=R:=by rw [←eo]
  have hc5:o.c=c':=by rw [←eo]
  have HMD:=Xh (show Qf7 o.md a.md=true by rw [←eo];exact QpO a);have o66:WT3.cell? ⟨b5,66,none⟩=some (.slice p' R.length c'):=by rw [Qa,r5.r,Qw,hp5,hx5,hc5]
  have HO66:=Xh (And.intro o66 r5.l);have HS2:=Xh s2;have HL2:=Xh l2;have HR2:=Xh (And.intro ra r5);have HG3:=Xh g1;clear hp5 hx5 hc5 o66 s2 l2 ra r5 g1 eo HRA HG0 HAR HTI;go_wp2
  go_loopw [7,8,9] (fun n k i wr=> ∃j:Nat,j≤a.xs.length∧i= .int .i64 j∧n= .int .i64 (Jm (idleB a.idle now) a.xs j)∧k= .int .i64 (Jm (fun x=>!idleB a.idle now x) a.xs j)∧Ext WT3 wr) (fun _ _ i _=>a.xs.length- (intOf i).toNat)
  case atStart=>exact⟨0,Nat.zero_le _,rfl,rfl,rfl,Ext.rf _⟩
  case round=>
   obtain⟨j,hj,rfl,rfl,rfl,hE⟩:=hrel;have hr2:=(HR2.out.1.ext hE);have c66:wr.cell? ⟨b2,66,none⟩=some (.slice a.p a.xs.length a.c):=by rw [Qa,hr2.r,Qw]
   have c0:wr.cell? ⟨b2,0,none⟩=some (.int .i64 a.id):=by rw [Qa,hr2.r,Yz]
   have c1:wr.cell? ⟨b2,1,none⟩=some (.int .i64 a.idle):=by rw [Qa,hr2.r,Yc]
   have o66:wr.cell? ⟨b5,66,none⟩=some (.slice p' R.length c'):=(hE.cell (p:=⟨b5,66,none⟩) HO66.out.2).trans HO66.out.1;have hl2:Lt b2 wr:=hr2.l;have hl5:Lt b5 wr:=Xl HO66.out.2 hE.size;have HE:=Xh hE;have hcn:=Qk2 (idleB a.idle now) a.xs j;have hck:=Qk2 (fun x=>!idleB a.idle now x) a.xs j;clear hr2
   by_cases hlt:j<a.xs.length
   ·have hlt':(j:Int)<a.xs.length:=by omega
    obtain⟨b,off,hp,hb,d0,d1,d2,d3,d4,d5⟩:=(HA.out.s.ext (HG3.out.tr hE)) j hlt;have hx':a.xs[j]?=some a.xs[j]:=List.getElem?_eq_getElem hlt;obtain⟨x,hx⟩: ∃x,a.xs[j]=x:=⟨_,rfl⟩;rw [hx]at d0 d1 d2 d3 d4 d5 hx';rw [hp]at c66;have lb:Lt b wr:=hb;have HID2:=HID.out;have hyes:=fun hP:idleB a.idle now x=true=>Xh (And.intro (Qh1 hx' hP) (Qk1 (P:=fun x=>!idleB a.idle now x) hx' (by rw [hP];rfl)));have hno:=fun hP:idleB a.idle now x=false=>Xh (And.intro (Qk1 hx' hP) (Qh1 (P:=fun x=>!idleB a.idle now x) hx' (by rw [hP];rfl)));obtain⟨n,hn⟩: ∃n,Jm (idleB a.idle now) a.xs j=n:=⟨_,rfl⟩;obtain⟨k,hk⟩: ∃k,Jm (fun x=>!idleB a.idle now x) a.xs j=k:=⟨_,rfl⟩;rw [hn,hk]at hyes hno;rw [HLE.out]at hyes;rw [HRE.out]at hno;rw [hn]at hcn⊢;rw [hk]at hck⊢;have HIB:=Xh (show idleB a.idle now x=(ZG a.idle now&&decide (x.l≤now- a.idle))from rfl);have hq0:decide (0≤a.idle)=true:=decide_eq_true HID2.1;clear hx hn hk hp hb hx' hE HID2
    cases e1:decide (0≤now)
    ·have HN:=hno (by rw [HIB.out];unfold ZG;rw [e1];simp);clear hno hyes HIB;have hkl:decide (R.length≤k)=false:=decide_eq_false (by have:=HN.out.2.2.2;omega);have hkl2:(k:Int)<R.length:=by have:=HN.out.2.2.2;omega
     obtain⟨bR,oR,hpR,hbR,r0,r1,r2,r3,r4,r5⟩:=(HS2.out.ext HE.out) k HN.out.2.2.2;have hRk:R[k]'HN.out.2.2.2=x:=(List.getElem?_eq_some_iff.1 HN.out.2.2.1).2;rw [hRk]at r0 r1 r2 r3 r4 r5;rw [hpR]at o66;have lbR:Lt bR wr:=hbR;clear hRk hpR hbR
     go_upto_region 8 with(fail)
     refine Qj (by kernel_rfl) (by kernel_rfl) ?_;(repeat(go_big_quiet_step (fail)));refine wpQuiet_nil ?_;intro d8
     have g8:=Qq d8;obtain⟨W8,h8⟩: ∃W,later d8=W:=⟨_,rfl⟩;rw [h8]at g8⊢;clear h8;have c66:=(g8.cell (p:=⟨b2,66,none⟩) hl2).trans c66;have c0:=(g8.cell (p:=⟨b2,0,none⟩) hl2).trans c0;have c1:=(g8.cell (p:=⟨b2,1,none⟩) hl2).trans c1;have o66:=(g8.cell (p:=⟨b5,66,none⟩) hl5).trans o66;have d0:=(g8.cell (p:=⟨b,off+j*6,none⟩) lb).trans d0;have d1:=(g8.cell (p:=⟨b,off+j*6+1,none⟩) lb).trans d1;have d2:=(g8.cell (p:=⟨b,off+j*6+2,none⟩) lb).trans d2;have d3:=(g8.cell (p:=⟨b,off+j*6+3,none⟩) lb).trans d3;have d4:=(g8.cell (p:=⟨b,off+j*6+4,none⟩) lb).trans d4;have d5:=(g8.cell (p:=⟨b,off+j*6+5,none⟩) lb).trans d5;have r0:=(g8.cell (p:=⟨bR,oR+k*6,none⟩) lbR).trans r0;have r1:=(g8.cell (p:=⟨bR,oR+k*6+1,none⟩) lbR).trans r1;have r2:=(g8.cell (p:=⟨bR,oR+k*6+2,none⟩) lbR).trans r2;have r3:=(g8.cell (p:=⟨bR,oR+k*6+3,none⟩) lbR).trans r3;have r4:=(g8.cell (p:=⟨bR,oR+k*6+4,none⟩) lbR).trans r4;have r5:=(g8.cell (p:=⟨bR,oR+k*6+5,none⟩) lbR).trans r5;have hl2:Lt b2 W8:=Xl hl2 g8.size;have hl5:Lt b5 W8:=Xl hl5 g8.size;have lb:Lt b W8:=Xl lb g8.size;have lbR:Lt bR W8:=Xl lbR g8.size;have HE:=Xh (HE.out.tr g8);clear g8 d8
     go_upto_region 12 with(fail)
     refine Qj (by kernel_rfl) (by kernel_rfl) ?_;(repeat(go_big_quiet_step (fail)));refine wpQuiet_nil ?_;intro d8
     have g9:=Qq d8;go_wp2
     go_roundw
     case rel=>exact⟨j+1,by omega,by go_num,by rw [HN.out.1],by rw [HN.out.2.1];go_num,HE.out.tr g9⟩
     case measure=>simp [intOf];omega
    cases e2:decide (now≤1099511627776)
    ·have HN:=hno (by rw [HIB.out];unfold ZG;rw [e2];simp);clear hno hyes HIB;have hkl:decide (R.length≤k)=false:=decide_eq_false (by have:=HN.out.2.2.2;omega);have hkl2:(k:Int)<R.length:=by have:=HN.out.2.2.2;omega
     obtain⟨bR,oR,hpR,hbR,r0,r1,r2,r3,r4,r5⟩:=(HS2.out.ext HE.out) k HN.out.2.2.2;have hRk:R[k]'HN.out.2.2.2=x:=(List.getElem?_eq_some_iff.1 HN.out.2.2.1).2;rw [hRk]at r0 r1 r2 r3 r4 r5;rw [hpR]at o66;have lbR:Lt bR wr:=hbR;clear hRk hpR hbR
     go_upto_region 8 with(fail)
     refine Qj (by kernel_rfl) (by kernel_rfl) ?_;(repeat(go_big_quiet_step (fail)));refine wpQuiet_nil ?_;intro d8
     have g8:=Qq d8;obtain⟨W8,h8⟩: ∃W,later d8=W:=⟨_,rfl⟩;rw [h8]at g8⊢;clear h8;have c66:=(g8.cell (p:=⟨b2,66,none⟩) hl2).trans c66;have c0:=(g8.cell (p:=⟨b2,0,none⟩) hl2).trans c0;have c1:=(g8.cell (p:=⟨b2,1,none⟩) hl2).trans c1;have o66:=(g8.cell (p:=⟨b5,66,none⟩) hl5).trans o66;have d0:=(g8.cell (p:=⟨b,off+j*6,none⟩) lb).trans d0;have d1:=(g8.cell (p:=⟨b,off+j*6+1,none⟩) lb).trans d1;have d2:=(g8.cell (p:=⟨b,off+j*6+2,none⟩) lb).trans d2;have d3:=(g8.cell (p:=⟨b,off+j*6+3,none⟩) lb).trans d3;have d4:=(g8.cell (p:=⟨b,off+j*6+4,none⟩) lb).trans d4;have d5:=(g8.cell (p:=⟨b,off+j*6+5,none⟩) lb).trans d5;have r0:=(g8.cell (p:=⟨bR,oR+k*6,none⟩) lbR).trans r0;have r1:=(g8.cell (p:=⟨bR,oR+k*6+1,none⟩) lbR).trans r1;have r2:=(g8.cell (p:=⟨bR,oR+k*6+2,none⟩) lbR).trans r2;have r3:=(g8.cell (p:=⟨bR,oR+k*6+3,none⟩) lbR).trans r3;have r4:=(g8.cell (p:=⟨bR,oR+k*6+4,none⟩) lbR).trans r4;have r5:=(g8.cell (p:=⟨bR,oR+k*6+5,none⟩) lbR).trans r5;have hl2:Lt b2 W8:=Xl hl2 g8.size;have hl5:Lt b5 W8:=Xl hl5 g8.size;have lb:Lt b W8:=Xl lb g8.size;have lbR:Lt bR W8:=Xl lbR g8.size;have HE:=Xh (HE.out.tr g8);clear g8 d8
     go_upto_region 12 with(fail)
     refine Qj (by kernel_rfl) (by kernel_rfl) ?_;(repeat(go_big_quiet_step (fail)));refine wpQuiet_nil ?_;intro d8
     have g9:=Qq d8;go_wp2
     go_roundw
     case rel=>exact⟨j+1,by omega,by go_num,by rw [HN.out.1],by rw [HN.out.2.1];go_num,HE.out.tr g9⟩
     case measure=>simp [intOf];omega
    have hw:wrap64 (now- a.idle)=now- a.idle:=by
     have h1:=of_decide_eq_true e1;have h2:=of_decide_eq_true e2;have h3:=HID.out.1;have h4:=HID.out.2.1;simp only [wrap64];omega
    cases e3:decide (x.l≤now- a.idle)
    ·have HN:=hno (by rw [HIB.out];unfold ZG;rw [e3];simp);clear hno hyes HIB;have hkl:decide (R.length≤k)=false:=decide_eq_false (by have:=HN.out.2.2.2;omega);have hkl2:(k:Int)<R.length:=by have:=HN.out.2.2.2;omega
     obtain⟨bR,oR,hpR,hbR,r0,r1,r2,r3,r4,r5⟩:=(HS2.out.ext HE.out) k HN.out.2.2.2;have hRk:R[k]'HN.out.2.2.2=x:=(List.getElem?_eq_some_iff.1 HN.out.2.2.1).2;rw [hRk]at r0 r1 r2 r3 r4 r5;rw [hpR]at o66;have lbR:Lt bR wr:=hbR;clear hRk hpR hbR
     go_upto_region 8 with(fail)
     refine Qj (by kernel_rfl) (by kernel_rfl) ?_;(repeat(go_big_quiet_step (fail)));refine wpQuiet_nil ?_;intro d8
     have g8:=Qq d8;obtain⟨W8,h8⟩: ∃W,later d8=W:=⟨_,rfl⟩;rw [h8]at g8⊢;clear h8;have c66:=(g8.cell (p:=⟨b2,66,none⟩) hl2).trans c66;have c0:=(g8.cell (p:=⟨b2,0,none⟩) hl2).trans c0;have c1:=(g8.cell (p:=⟨b2,1,none⟩) hl2).trans c1;have o66:=(g8.cell (p:=⟨b5,66,none⟩) hl5).trans o66;have d0:=(g8.cell (p:=⟨b,off+j*6,none⟩) lb).trans d0;have d1:=(g8.cell (p:=⟨b,off+j*6+1,none⟩) lb).trans d1;have d2:=(g8.cell (p:=⟨b,off+j*6+2,none⟩) lb).trans d2;have d3:=(g8.cell (p:=⟨b,off+j*6+3,none⟩) lb).trans d3;have d4:=(g8.cell (p:=⟨b,off+j*6+4,none⟩) lb).trans d4;have d5:=(g8.cell (p:=⟨b,off+j*6+5,none⟩) lb).trans d5;have r0:=(g8.cell (p:=⟨bR,oR+k*6,none⟩) lbR).trans r0;have r1:=(g8.cell (p:=⟨bR,oR+k*6+1,none⟩) lbR).trans r1;have r2:=(g8.cell (p:=⟨bR,oR+k*6+2,none⟩) lbR).trans r2;have r3:=(g8.cell (p:=⟨bR,oR+k*6+3,none⟩) lbR).trans r3;have r4:=(g8.cell (p:=⟨bR,oR+k*6+4,none⟩) lbR).trans r4;have r5:=(g8.cell (p:=⟨bR,oR+k*6+5,none⟩) lbR).trans r5;have hl2:Lt b2 W8:=Xl hl2 g8.size;have hl5:Lt b5 W8:=Xl hl5 g8.size;have lb:Lt b W8:=Xl lb g8.size;have lbR:Lt bR W8:=Xl lbR g8.size;have HE:=Xh (HE.out.tr g8);clear g8 d8
     go_upto_region 12 with(fail)
     refine Qj (by kernel_rfl) (by kernel_rfl) ?_;(repeat(go_big_quiet_step (fail)));refine wpQuiet_nil ?_;intro d8
     have g9:=Qq d8;go_wp2
     go_roundw
     case rel=>exact⟨j+1,by omega,by go_num,by rw [HN.out.1],by rw [HN.out.2.1];go_num,HE.out.tr g9⟩
     case measure=>simp [intOf];omega
    ·have HN:=hyes (by rw [HIB.out];unfold ZG;rw [hq0,e1,e2,e3];rfl);clear hno hyes HIB;have hEn:=QmA (id:=a.id) HN.out.1.2.1;have hnl:n<(Zj a.id L).length:=(List.getElem?_eq_some_iff.1 hEn).1;have hnl':(n:Int)<(Zj a.id L).length:=by omega
     have hnl2:decide ((Zj a.id L).length≤n)=false:=decide_eq_false (by omega);obtain⟨bE,oE,hpE,hbE,r0,r1,r2,r3,r4,r5⟩:=(HL2.out.ext HE.out) n hnl;have hRk:(Zj a.id L)[n]'hnl=⟨4,a.id,x.t⟩:=(List.getElem?_eq_some_iff.1 hEn).2;rw [hRk]at r0 r1 r2 r3 r4 r5;have lbE:Lt bE wr:=hbE;have HPE:=Xh hpE;rw [hpE];clear hRk hpE hbE hEn
     go_upto_region 8 with(fail)
     refine Qj (by kernel_rfl) (by kernel_rfl) ?_;(repeat(go_big_quiet_step (fail)));refine wpQuiet_nil ?_;intro d8
     have g8:=Qq d8;obtain⟨W8,h8⟩: ∃W,later d8=W:=⟨_,rfl⟩;rw [h8]at g8⊢;clear h8;have c66:=(g8.cell (p:=⟨b2,66,none⟩) hl2).trans c66;have c0:=(g8.cell (p:=⟨b2,0,none⟩) hl2).trans c0;have c1:=(g8.cell (p:=⟨b2,1,none⟩) hl2).trans c1;have o66:=(g8.cell (p:=⟨b5,66,none⟩) hl5).trans o66;have d0:=(g8.cell (p:=⟨b,off+j*6,none⟩) lb).trans d0;have d1:=(g8.cell (p:=⟨b,off+j*6+1,none⟩) lb).trans d1;have d2:=(g8.cell (p:=⟨b,off+j*6+2,none⟩) lb).trans d2;have d3:=(g8.cell (p:=⟨b,off+j*6+3,none⟩) lb).trans d3;have d4:=(g8.cell (p:=⟨b,off+j*6+4,none⟩) lb).trans d4;have d5:=(g8.cell (p:=⟨b,off+j*6+5,none⟩) lb).trans d5;have r0:=(g8.cell (p:=⟨bE,oE+n*6,none⟩) lbE).trans r0;have r1:=(g8.cell (p:=⟨bE,oE+n*6+1,none⟩) lbE).trans r1;have r2:=(g8.cell (p:=⟨bE,oE+n*6+2,none⟩) lbE).trans r2;have r3:=(g8.cell (p:=⟨bE,oE+n*6+3,none⟩) lbE).trans r3;have r4:=(g8.cell (p:=⟨bE,oE+n*6+4,none⟩) lbE).trans r4;have r5:=(g8.cell (p:=⟨bE,oE+n*6+5,none⟩) lbE).trans r5;have hl2:Lt b2 W8:=Xl hl2 g8.size;have hl5:Lt b5 W8:=Xl hl5 g8.size;have lb:Lt b W8:=Xl lb g8.size;have lbE:Lt bE W8:=Xl lbE g8.size;have HE:=Xh (HE.out.tr g8);clear g8 d8
     go_upto_region 9 with(fail)
     refine Qj (by kernel_rfl) (by kernel_rfl) ?_;(repeat(go_big_quiet_step (fail)));refine wpQuiet_nil ?_;intro d8
     have g9:=Qq d8;go_wp2;exact⟨⟨j+1,by omega,by go_num,by rw [HN.out.1.1];go_num,by rw [HN.out.2],HE.out.tr g9⟩,by simp [intOf];omega⟩
   ·have hn:Jm (idleB a.idle now) a.xs j=L.length:=(Qh2 (by omega)).trans (by rw [HLE.out]);have hk:Jm (fun x=>!idleB a.idle now x) a.xs j=R.length:=(Qh2 (by omega)).trans (by rw [HRE.out]);have hol:(Zj a.id L).length=L.length:=by unfold Zj;rw [List.length_map]
    have hil: ¬((j:Int)<a.xs.length):=by omega
    have hr2:=(HR2.out.1.ext hE).r;have hr5:=(HR2.out.2.ext hE).r;have hM:=HMD.out;rw [hn,hk,hol];clear hn hk hol hcn hck hE
    go_wp2_with (go_at_call 9;(with_reducible refine(Qdf _).mono ?_);rintro e wk ⟨rfl,gk⟩)
    go_ret;exact⟨rfl,(HG3.out.tr HE.out).tr gk⟩
end Go.Proofs.YtpeonbaodnmlnaaGreat
