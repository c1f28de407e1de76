/- Lemmas of this claim, put together out of: F, OE, TH, TI. -/
import Derived.Test.YtpeonbaodnmlnaaGreatPA5
import Derived.WalkKit
import Derived.ProofKit
import Derived.OpenShut
import Derived.Lib.SmallJoins
import Derived.Deep.Slices
import Derived.Deep.Fields
import Derived.ChangeSame
set_option linter.unusedSimpArgs false
set_option linter.unusedVariables false
set_option maxRecDepth 100000
set_option maxHeartbeats 16000000
namespace Go.Proofs.YtpeonbaodnmlnaaGreat
open Go.RowKit
variable{Q:Act→World→Prop}{listed:Array Bool}{after:Array Edge}{E ops:Array Oper}{R:Array Oper→Prop}{args cs tmps:Array Value}{Q':Exit→Act→World→Prop}{b1 bs:List Int}{rest:List Nat}{B B1 B4 B5 N O b7 base fuel i j m' off:Nat}{oi:Oper}{ρ:Operand→Value}{dst:Option Tmp}{P:Program}{pos:String}{tq:TypeId}{a0 a1 a10 a2 a3 a4 a5 a6 a7 a8 a9 u v1 v2:Value}{A A' W w w' w0 w1:World}
section
open Go.ChangeShapes Go.WideShapes Go.ChangeAt
section
variable {H:Type} {enc:TypeId×Value→H} {P:Program}
theorem Qe9{f:Func}{s:ChangeSpec}{apart fresh handsOn again:Bool}{W':World}{v:Value}{ds gs:List (DataW H)}{before pa pv:List MemPlace}
  (hW:DataW.Whole enc P f.params.toList s.vars apart W args.toList ds gs before)
  (hres: ∀(b:Nat) (sp:Nat→Bool) (hd:Bool),DataW.TrodAll enc P W' b sp hd f.resultTypes.toList (v.resultList f.resultTypes.size) (s.fn H (ds++gs)).results [])
  (hargs: ∀sp:Nat→Bool,(∀p∈before,sp p.block=true)→DataW.TrodAll enc P W' 0 sp true f.params.toList args.toList (s.fn H (ds++gs)).args pa)
  (hvars: ∀sp:Nat→Bool,(∀p∈before,sp p.block=true)→DataW.TrodVars enc P W' sp s.vars (s.fn H (ds++gs)).vars pv)
  (hps:before=pa++pv)(hb:Below W.heap.size W W')
  (hok: ∀(j:Nat) (t:TypeId) (r:Value),f.resultTypes[j]?=some t→(v.resultList f.resultTypes.size)[j]?=some r→Value.okWide P W' .any 0 t r):
  s.post enc P f apart fresh handsOn again W args v W':=by
 have hlt: ∀p∈before,p.block<W.heap.size:=fun p hp=>hW.lt p hp;have hold: ∀p∈before,(fun b=>decide (b<W.heap.size)) p.block=true:=fun p hp=>by simpa using hlt p hp
 refine⟨ds,gs,before,[],pa,pv,hW,hres _ _ _,hargs _ hold,hvars _ hold,World.keptBut_mono (fun p hp=>⟨hp,?_⟩) (hb.frame (· ∈before)),fun _=> ?_⟩
 ·rw [hps,List.mem_append]at hp;exact Or.inr hp
 ·obtain⟨_,_,_,_,_,hz,hn⟩:=hW;refine⟨hok,_,_,([]++pa)++pv,⟨[]++pa,pv,trodAll_append (hargs _ (fun _ _=>rfl)) (hres _ _ _),hvars _ (fun _ _=>rfl),rfl,?_,?_⟩,?_⟩
  ·intro b off hp;have hin:MemPlace.cell b off∈before:=by rw [hps];simpa using hp
   rw [hb.frozen (hlt _ hin)];exact hz b off hin
  ·intro ha;have:=hn ha;rw [hps]at this;simpa using this
  ·intro p hp _;rw [hps];simpa using hp
theorem QbE(hl:laidOutB P=true){W':World}{sp':Nat→Bool}: ∀(ts:List TypeId) (vs:List Value) (ds:List (DataW H)) (ps:List MemPlace),
  ts.all (fun t=>P.readableRec t&&decide (t<P.types.size))=true→DataW.TrodAll enc P W 0 (fun _=>true) true ts vs ds ps→
  (∀p∈ps,W.sameAt W' p)→(∀p∈ps,sp' p.block=true)→DataW.TrodAll enc P W' 0 sp' true ts vs ds ps
 | [],vs,ds,ps,_,h,_,_=>by
  obtain⟨rfl,rfl,rfl⟩:=trodAll_nil h;exact trodAll_mk0
 |t::ts,vs,ds,ps,ht,h,hs,hp=>by
  obtain⟨v,vs',d,ds',p,q,rfl,rfl,rfl,h1,h2⟩:=trodAll_cons h;simp only [List.all_cons,Bool.and_eq_true,decide_eq_true_eq]at ht;refine trodAll_cons_mk (WideElems.Trod_stays hl ht.1.1 ht.1.2 h1 (fun x hx=>hs x (by simp [hx])) (fun x hx=>hp x (by simp [hx]))) ?_;exact QbE hl ts vs' ds' q ht.2 h2 (fun x hx=>hs x (by simp [hx])) (fun x hx=>hp x (by simp [hx]))
theorem Qa6{b:Nat}{sp:Nat→Bool}{hd:Bool}: ∀(ts:List TypeId) (vs:List Value) (ds:List (DataW H)) (ps:List MemPlace),
  DataW.TrodAll enc P W b sp hd ts vs ds ps→ds.length=ts.length
 | [],vs,ds,ps,h=>by obtain⟨rfl,rfl,rfl⟩:=trodAll_nil h;rfl
 |t::ts,vs,ds,ps,h=>by
  obtain⟨v,vs',d,ds',p,q,rfl,rfl,rfl,h1,h2⟩:=trodAll_cons h;simp only [List.length_cons,Qa6 ts vs' ds' q h2]
end
theorem Qqb{C:Checked}{f:FuncId}{fn:Func}{s:ChangeSpec}{os:Os}{H:Type}{enc:TypeId×Value→H}(tb:TypeId)
  (own:ownKnob C.prog.godebug=none)(started:os.Started)(noInit:C.prog.inits.idxOf? f=none)(hfn:C.prog.funcs[f]?=some fn)
  (witness: ∃(w:World) (tape:Tape) (i:Input),w.os=os∧(w.forCall tape i).Shaped C.prog∧i.vars= []∧Input.okWide C.prog (w.forCall tape i) .any w.heap.size f i∧
   s.pre6 enc C.prog fn [] false (w.forCall tape i).memory i.args∧({}:Assume).holds C.prog (lone (Frame.enter C.prog f i.args .normal) [] (w.forCall tape i)))
  (hl:laidOutB C.prog=true)(hvars:s.vars= [])(hrt:fn.resultTypes=#[tb])(htb:C.prog.underlying tb=some .bool)
  (hs: ∀ds:List (DataW H),ds.length=fn.params.toList.length→s.fn H ds={results:= [.lit (.bool true)],args:=ds})
  (hread:fn.params.toList.all (fun t=>C.prog.readableRec t&&decide (t<C.prog.types.size))=true)
  (walk: ∀(W:World) (base:Nat) (args:Array Value) (ds:List (DataW H)) (p:List MemPlace),
   (∀(j:Nat) t v,fn.params[j]?=some t→args[j]?=some v→Value.okWide C.prog W .any base t v)→
   DataW.TrodAll enc C.prog W 0 (fun _=>true) true fn.params.toList args.toList ds p→(∀x∈p,x.block<W.heap.size)→
   Calls C.prog f args W fun e W'=>e= .returned (.bool true)∧Below W.heap.size W W'):
  ReturnsInHanded {} C os f .any (s.pre6 enc C.prog fn [] false) (s.post enc C.prog fn false true false false):=by
 refine returnsInHanded_of_change (C:=C) own started noInit hfn witness ?_;intro W base args ds gs before hval hW _ _;have hW':=hW;obtain⟨p,q,hA,hV,rfl,hfz,hnd⟩:=hW;rw [hvars]at hV;obtain⟨rfl,rfl⟩:=trodVars_none hV;have hlt: ∀x∈p++ [],x.block<W.heap.size:=fun x hx=>hW'.lt x hx;refine(walk W base args ds p hval hA (fun x hx=>hlt x (by simpa using hx))).mono fun e W' h=> ?_;obtain⟨he,hb⟩:=h;subst he;have hlen:=Qa6 _ _ _ _ hA;have hsp:=hs (ds++ []) (by simpa using hlen);refine⟨_,rfl,Qe9 (pa:=p) (pv:= []) hW' ?_ ?_ ?_ rfl hb ?_⟩
 ·intro b sp hd;rw [hsp,hrt];exact trodAll_mk1 (shut_bool htb _)
 ·intro sp hsp';rw [hsp];simp only [List.append_nil];exact QbE hl _ _ _ _ hread hA (fun x hx=>hb.same (hlt x (by simpa using hx))) (fun x hx=>hsp' x (by simpa using hx))
 ·intro sp _;rw [hsp,hvars];rfl
 ·exact ok_one hrt rfl (okWide_bool_mk htb _)
end
section
open Go.ChangeShapes Go.WideShapes Go.ChangeAt Go.Joins Go.Deep
theorem QxH:ownKnob Tryz.prog.godebug=none:=Kr
theorem Qr3:laidOutB Tryz.prog=true:=Kr
theorem QeM:Tryz.prog.cellsOf 3=1:=Kr
theorem Qs8:Tryz.prog.cellsOf 5=1:=Kr
theorem Qqc:Tryz.prog.cellsOf 61=1:=Kr
theorem Qqd:Tryz.prog.cellsOf 62=1:=Kr
theorem Qr4:Tryz.prog.cellsOf 4=1:=Kr
theorem QxI:Tryz.prog.cellsOf 64=4:=Kr
theorem QxJ:Tryz.prog.cellsOf 66=6:=Kr
theorem QxK:Tryz.prog.cellsOf 23=4:=Kr
theorem QuK:Tryz.prog.cellsOf 24=64:=Kr
theorem Qr5:Tryz.prog.cellsOf 25=1:=Kr
theorem QxL:Tryz.prog.cellsOf 27=67:=Kr
theorem Qs9{n:Int}(h:(Lit.int .u8 n).wf=true):0≤n:=by
 have h1:IntKind.u8.min=0:=rfl;simp only [Lit.wf,Bool.and_eq_true,decide_eq_true_eq]at h;omega
theorem Qqe{n:Int}(h:(Lit.int .u32 n).wf=true):0≤n∧n<4294967296:=by
 have h1:IntKind.u32.min=0:=rfl;have h2:IntKind.u32.max=4294967295:=rfl;simp only [Lit.wf,Bool.and_eq_true,decide_eq_true_eq]at h;omega
theorem Qqf{n:Int}(h:(Lit.int .u16 n).wf=true):0≤n∧n<65536:=by
 have h1:IntKind.u16.min=0:=rfl;have h2:IntKind.u16.max=65535:=rfl;simp only [Lit.wf,Bool.and_eq_true,decide_eq_true_eq]at h;omega
theorem Zd{L:List Value}{v:Value}(h:(L.drop j).take 1= [v]):L[j]?=some v:=by
 have:=congrArg (fun l=>l[0]?) h;simpa using this
theorem YW{L:List Value}{o n:Nat}{v:Value}(h:((L.drop o).take n)[j]?=some v)(hj:j<n):L[o+j]?=some v:=by
 rwa [List.getElem?_take,if_pos hj,List.getElem?_drop]at h
open Classical in
theorem Qm5{α:Type}{p:Nat→α→Prop}{n:Nat}(h: ∀i,i<n→ ∃x,p i x)[Nonempty α]: ∃f:Nat→α,∀i,i<n→p i (f i):=
 ⟨fun i=>if q:i<n then(h i q).choose else Classical.choice inferInstance,fun i hi=>by dsimp only;rw [dif_pos hi];exact(h i hi).choose_spec⟩
instance:Nonempty Md:=⟨⟨0,0,0,false⟩⟩
def Tu.at(t:Tu)(j:Nat):Value:=match j with|0=> .int .u32 t.a|1=> .int .u32 t.b|2=> .int .u16 t.c|_=> .int .u16 t.d
def Co.at(x:Co)(j:Nat):Value:=match j with|0=> .int .u32 x.t.a|1=> .int .u32 x.t.b|2=> .int .u16 x.t.c|3=> .int .u16 x.t.d|4=> .int .i64 x.s|_=> .int .i64 x.l
section
variable {H:Type} {enc:TypeId×Value→H} {w:World} {base b0:Nat} {spare:Nat→Bool} {held:Bool} {fuel:Nat} {L:List Value} {y:DataW H×List MemPlace}
theorem Yu{T:TypeId}{fs:Array Field}(ht:Tryz.prog.underlying T=some (.struct fs))(h:DataW.trod enc Tryz.prog w base spare held fuel T L=some y):
  ∃n,L.length=Tryz.prog.cellsOf T∧ ∀(i:Nat) (f:Field),fs[i]?=some f→ ∃z,DataW.trod enc Tryz.prog w base spare held n f.type ((L.drop f.offset).take (Tryz.prog.cellsOf f.type))=some z:=by
 obtain⟨ys,n,_,_,hl,hlen,hf⟩:=DataW.trod_struct ht h;refine⟨n,hl,fun i f hi=> ?_⟩;have hlt:i<fs.size:=(Array.getElem?_eq_some_iff.1 hi).1;exact⟨ys[i]'Om,(hf i f hi).trans (List.getElem?_eq_getElem Om)⟩
theorem Qqg{T e:TypeId}{n:Nat}(ht:Tryz.prog.underlying T=some (.array n e))(h:DataW.trod enc Tryz.prog w base spare held fuel T L=some y):
  ∃m,L.length=Tryz.prog.cellsOf T∧ ∀(i:Nat),i<n→ ∃z,DataW.trod enc Tryz.prog w base spare held m e ((L.drop (i*Tryz.prog.cellsOf e)).take (Tryz.prog.cellsOf e))=some z:=by
 obtain⟨ys,m,_,_,hl,hlen,hf⟩:=DataW.trod_array ht h;exact⟨m,hl,fun i hi=>⟨ys[i]'Om,(hf i hi).trans (List.getElem?_eq_getElem Om)⟩⟩
theorem QxM(h:DataW.trod enc Tryz.prog w base spare held fuel 23 L=some y): ∃x:Md,0≤x.kind∧ ∀j,j<4→L[j]?=some (x.at j):=by
 obtain⟨n,-,hf⟩:=Yu Tryz.underlying23 h;obtain⟨z0,(h0:DataW.trod enc Tryz.prog w base spare held n 5 ((L.drop 0).take (Tryz.prog.cellsOf 5))=some z0)⟩:=hf 0 _ rfl;rw [Qs8]at h0;obtain⟨a0,p0,_,w0⟩:=DataW.trod_int Tryz.underlying5 h0;obtain⟨z1,(h1:DataW.trod enc Tryz.prog w base spare held n 3 ((L.drop 1).take (Tryz.prog.cellsOf 3))=some z1)⟩:=hf 1 _ rfl;rw [QeM]at h1;obtain⟨a1,p1,_,w1⟩:=DataW.trod_int Tryz.underlying3 h1;obtain⟨z2,(h2:DataW.trod enc Tryz.prog w base spare held n 3 ((L.drop 2).take (Tryz.prog.cellsOf 3))=some z2)⟩:=hf 2 _ rfl;rw [QeM]at h2;obtain⟨a2,p2,_,w2⟩:=DataW.trod_int Tryz.underlying3 h2;obtain⟨z3,(h3:DataW.trod enc Tryz.prog w base spare held n 4 ((L.drop 3).take (Tryz.prog.cellsOf 4))=some z3)⟩:=hf 3 _ rfl;rw [Qr4]at h3;obtain⟨a3,p3,_⟩:=DataW.trod_bool Tryz.underlying4 h3;refine⟨⟨a0,a1,a2,a3⟩,Qs9 w0,fun j hj=> ?_⟩;obtain rfl|rfl|rfl|rfl:j=0∨j=1∨j=2∨j=3:=by omega
 ·exact Zd p0
 ·exact Zd p1
 ·exact Zd p2
 ·exact Zd p3
theorem QuL(h:DataW.trod enc Tryz.prog w base spare held fuel 24 L=some y): ∃f:Nat→Md,(∀i,i<16→0≤((f i)).kind)∧ ∀i j,i<16→j<4→L[i*4+j]?=some ((f i).at j):=by
 obtain⟨q,-,hf⟩:=Qqg Tryz.underlying24 h;rw [QxK]at hf;obtain⟨f,hf⟩:=Qm5 (p:=fun i (x:Md)=>(0≤(x).kind)∧ ∀j,j<4→((L.drop (i*4)).take 4)[j]?=some (x.at j)) (n:=16) fun i hi=>by
  obtain⟨z,hz⟩:=hf i hi;exact QxM hz
 exact⟨f,fun i hi=>(hf i hi).1,fun i j hi hj=>YW ((hf i hi).2 j hj) hj⟩
theorem QxN(h:DataW.trod enc Tryz.prog w base spare held fuel 64 L=some y): ∃x:Tu,TuR x∧ ∀j,j<4→L[j]?=some (x.at j):=by
 obtain⟨n,-,hf⟩:=Yu Tryz.underlying64 h;obtain⟨z0,(h0:DataW.trod enc Tryz.prog w base spare held n 61 ((L.drop 0).take (Tryz.prog.cellsOf 61))=some z0)⟩:=hf 0 _ rfl;rw [Qqc]at h0;obtain⟨a0,p0,_,w0⟩:=DataW.trod_int Tryz.underlying61 h0;obtain⟨z1,(h1:DataW.trod enc Tryz.prog w base spare held n 61 ((L.drop 1).take (Tryz.prog.cellsOf 61))=some z1)⟩:=hf 1 _ rfl;rw [Qqc]at h1;obtain⟨a1,p1,_,w1⟩:=DataW.trod_int Tryz.underlying61 h1;obtain⟨z2,(h2:DataW.trod enc Tryz.prog w base spare held n 62 ((L.drop 2).take (Tryz.prog.cellsOf 62))=some z2)⟩:=hf 2 _ rfl;rw [Qqd]at h2;obtain⟨a2,p2,_,w2⟩:=DataW.trod_int Tryz.underlying62 h2;obtain⟨z3,(h3:DataW.trod enc Tryz.prog w base spare held n 62 ((L.drop 3).take (Tryz.prog.cellsOf 62))=some z3)⟩:=hf 3 _ rfl;rw [Qqd]at h3;obtain⟨a3,p3,_,w3⟩:=DataW.trod_int Tryz.underlying62 h3;refine⟨⟨a0,a1,a2,a3⟩,⟨Qqe w0,Qqe w1,Qqf w2,Qqf w3⟩,fun j hj=> ?_⟩;obtain rfl|rfl|rfl|rfl:j=0∨j=1∨j=2∨j=3:=by omega
 ·exact Zd p0
 ·exact Zd p1
 ·exact Zd p2
 ·exact Zd p3
theorem QxO(h:DataW.trod enc Tryz.prog w base spare held fuel 66 L=some y): ∃x:Co,TuR x.t∧ ∀j,j<6→L[j]?=some (x.at j):=by
 obtain⟨n,-,hf⟩:=Yu Tryz.underlying66 h;obtain⟨z0,(h0:DataW.trod enc Tryz.prog w base spare held n 64 ((L.drop 0).take (Tryz.prog.cellsOf 64))=some z0)⟩:=hf 0 _ rfl;obtain⟨z1,(h1:DataW.trod enc Tryz.prog w base spare held n 3 ((L.drop 4).take (Tryz.prog.cellsOf 3))=some z1)⟩:=hf 1 _ rfl;obtain⟨z2,(h2:DataW.trod enc Tryz.prog w base spare held n 3 ((L.drop 5).take (Tryz.prog.cellsOf 3))=some z2)⟩:=hf 2 _ rfl;rw [QxI]at h0;rw [QeM]at h1 h2;obtain⟨t,hr,ht⟩:=QxN h0;obtain⟨a1,p1,_,_⟩:=DataW.trod_int Tryz.underlying3 h1;obtain⟨a2,p2,_,_⟩:=DataW.trod_int Tryz.underlying3 h2;refine⟨⟨t,a1,a2⟩,hr,fun j hj=> ?_⟩;obtain rfl|rfl|rfl|rfl|rfl|rfl:j=0∨j=1∨j=2∨j=3∨j=4∨j=5:=by omega
 ·exact YW (o:=0) (ht 0 Om) Om
 ·exact YW (o:=0) (ht 1 Om) Om
 ·exact YW (o:=0) (ht 2 Om) Om
 ·exact YW (o:=0) (ht 3 Om) Om
 ·exact Zd p1
 ·exact Zd p2
theorem Qr6(h:DataW.trod enc Tryz.prog w base spare held fuel 25 L=some y):
  ∃(q:Option Addr) (xs:List Co) (c:Nat),L= [.slice q xs.length c]∧SlC w q xs∧(∀x∈xs,TuR x.t)∧xs.length≤c∧c≤maxLen∧(q=none→c=0):=by
 rcases open_slice Tryz.underlying25 h with⟨hcs,_⟩|⟨a,len,cap,k,n,D,Pl,hcs,_,hl,hm,hk,_,hi⟩
 ·exact⟨none,[],0,hcs,SlC.nil _ _,(fun x h=>by cases h),Nat.le_refl _,by unfold maxLen;omega,fun _=>rfl⟩
 ·have hkl:len≤k:=by rw [hk];split<;>omega
  have key: ∀i,i<len→ ∃x:Co,(TuR (x).t)∧ ∀j,j<6→w.cell? (a.add (i*6+j))=some (x.at j):=by
   intro i hi';obtain⟨cs',hc,ht'⟩:=hi i Om;rw [QxJ]at hc;obtain⟨_,hcl,hat⟩:=World.cells?_some hc;obtain⟨x,hr,hx⟩:=QxO ht';refine⟨x,hr,fun j hj=> ?_⟩;have h1:=hat j hj;rw [hx j hj]at h1;have e:(a.add (i*6)).add j=a.add (i*6+j):=by
    unfold Addr.add
    repeat' split
    all_goals first|(exfalso;simp_all;omega)|(simp_all;done)|(simp_all;omega)
   rw [←e];exact h1
  have hlen:((List.range len).map fun i=>if h:i<len then(key i h).choose else⟨⟨0,0,0,0⟩,0,0⟩).length=len:=by simp
  refine⟨some a,(List.range len).map fun i=>if h:i<len then(key i h).choose else⟨⟨0,0,0,0⟩,0,0⟩,cap,by rw [hlen];exact hcs,?_,?_,by rw [hlen];exact hl,hm,fun e=>by cases e⟩
  ·intro i hi';have hil:i<len:=by omega
   have hc:=(key i hil).choose_spec;simp only [List.getElem_map,List.getElem_range,dif_pos hil];generalize (key i hil).choose=x at hc;obtain⟨-,hx'⟩:=hc;have hvw:a.spot=none:=by
    obtain⟨x0,_,hx0⟩:=key 0 Om;have:=hx0 0 Om;simpa [Addr.add]using World.cell?_spot this
   obtain⟨b,off,view⟩:=a;obtain rfl:view=none:=hvw;have hx': ∀j,j<6→w.cell? ⟨b,off+i*6+j,none⟩=some (x.at j):=fun j hj=>by
    have:=hx' j hj;rw [add_plain]at this;rw [Nat.add_assoc];exact this
   exact⟨b,off,rfl,World.block_lt_of_cell? w _ (hx' 0 Om),hx' 0 Om,hx' 1 Om,hx' 2 Om,hx' 3 Om,hx' 4 Om,hx' 5 Om⟩
  ·intro x hx;rw [List.mem_map]at hx;obtain⟨i,hi',rfl⟩:=hx;have hil:i<len:=List.mem_range.1 hi';rw [dif_pos hil];exact(key i hil).choose_spec.1
structure AgO(w:World)(a:Ag):Prop where
 s:SlC w a.p a.xs
 t: ∀c∈a.xs,TuR c.t
 k: ∀i,i<16→0≤(a.md i).kind
 l:a.xs.length≤9223372036854775807
theorem QxP(h:DataW.trod enc Tryz.prog w base spare held fuel 27 L=some y): ∃x:Ag,AgO w x∧ ∀j,j<67→L[j]?=some (x.at j):=by
 obtain⟨n,-,hf⟩:=Yu Tryz.underlying27 h;obtain⟨z0,(h0:DataW.trod enc Tryz.prog w base spare held n 3 ((L.drop 0).take (Tryz.prog.cellsOf 3))=some z0)⟩:=hf 0 _ rfl;obtain⟨z1,(h1:DataW.trod enc Tryz.prog w base spare held n 3 ((L.drop 1).take (Tryz.prog.cellsOf 3))=some z1)⟩:=hf 1 _ rfl;obtain⟨z2,(h2:DataW.trod enc Tryz.prog w base spare held n 24 ((L.drop 2).take (Tryz.prog.cellsOf 24))=some z2)⟩:=hf 2 _ rfl;obtain⟨z3,(h3:DataW.trod enc Tryz.prog w base spare held n 25 ((L.drop 66).take (Tryz.prog.cellsOf 25))=some z3)⟩:=hf 3 _ rfl;rw [QeM]at h0 h1;rw [QuK]at h2;rw [Qr5]at h3;obtain⟨a,p0,_,_⟩:=DataW.trod_int Tryz.underlying3 h0;obtain⟨b,p1,_,_⟩:=DataW.trod_int Tryz.underlying3 h1;obtain⟨f,hk,hr⟩:=QuL h2;obtain⟨p,xs,c,p3,hs,ht,hlc,hcm,-⟩:=Qr6 h3;refine⟨⟨a,b,f,p,xs,c⟩,⟨hs,ht,hk,by unfold maxLen at hcm;show xs.length≤_;omega⟩,fun j hj=> ?_⟩;unfold Ag.at
 by_cases q0:j=0
 ·subst q0;exact Zd p0
 rw [if_neg q0]
 by_cases q1:j=1
 ·subst q1;exact Zd p1
 rw [if_neg q1]
 by_cases q2:j<66
 ·rw [if_pos q2];have h:=YW (hr ((j- 2)/4) ((j- 2) % 4) Om Om) Om
  rwa [show 2+((j- 2)/4*4+(j- 2) % 4)=j by omega]at h
 ·rw [if_neg q2];obtain rfl:j=66:=by omega
  exact Zd p3
theorem Qr7{v:Value}{d:DataW H}{p:List MemPlace}(hv:Value.okWide Tryz.prog w .any b0 27 v)(h:DataW.Trod enc Tryz.prog w base spare held 27 v d p): ∃x:Ag,v= .agg (agv x)∧AgO w x:=by
 simp only [Value.okWide,Tryz.underlying27]at hv;obtain⟨cs,rfl,hn,_⟩:=hv;rw [QxL]at hn;obtain⟨fuel,hf⟩:=h;obtain⟨x,hR,hx⟩:=QxP hf;refine⟨x,congrArg Value.agg (Array.ext_getElem? fun j=> ?_),hR⟩
 by_cases hj:j<67
 ·have h1:=hx j hj;have h2:cs[j]?=some (x.at j):=by simpa [Value.cells]using h1
  rw [h2];unfold agv;rw [QV,if_pos hj]
 ·rw [Array.getElem?_eq_none Om,Array.getElem?_eq_none (by rw [Qi];omega)]
end
end
section
open Go.ChangeShapes Go.WideShapes Go.ChangeAt
def Qta(A:Ag)(X:List Co)(L:List Ev)(K:Ct)(T:Bool)(v:Value)(w':World):Prop:= ∃p c q d,v= .tuple #[.agg (agv {A with p:=p,xs:=X,c:=c}),.slice q L.length d,.agg (ctv K),.bool T]∧SlC w' p X∧SlE w' q L
theorem QuM(a:Ag)(x:Ct)(w:World)(A:Ag)(X:List Co)(L:List Ev)(K:Ct)(T:Bool)(e1:Yh a x=A)(e2:Yr a x=X)(e3:Ys a x=L)(e4:Jl a x=K)(e5:Jo a x=T)(hs:SlC w a.p a.xs)(hl:a.xs.length≤1000)(hr: ∀x∈a.xs,TuR x.t)(hk: ∀k,k<16→0≤(a.md k).kind)(h0:0≤x.ki)(hof:0≤x.of_∧x.of_<256):
  Calls Tryz.prog 16 #[.agg (agv a),.agg (ctv x)] w fun e w'=> ∃v,e= .returned v∧Qta A X L K T v w'∧Ext w w':=
 (QcX a x w hs hl hr hk h0 hof).mono fun e w' ⟨p,c,q,d,h1,h2,h3,h4⟩=>by
  subst e1 e2 e3 e4 e5;exact⟨_,h1,⟨p,c,q,d,rfl,h2,h3⟩,h4⟩
theorem Qlw{W4 WA:World}{m n u v:Md}(g:Ext W4 W)(h0:W4.heap.size≤WA.heap.size)(h4:WA.heap.size≤B4)(h5:WA.heap.size≤B5)(hn:B4≠B5)(r4:RowZ W B4 (mdv u))(r5:RowZ (Qe W B4 0 (mdv m)) B5 (mdv v)):
  Ext W4 (Qe (Qe W B4 0 (mdv m)) B5 0 (mdv n))∧RowZ (Qe (Qe W B4 0 (mdv m)) B5 0 (mdv n)) B4 (mdv m)∧RowZ (Qe (Qe W B4 0 (mdv m)) B5 0 (mdv n)) B5 (mdv n)∧W4.heap.size≤B4∧W4.heap.size≤B5:=
 ⟨Ext.sa _ Om (Ext.sa _ Om g),(r4.all _ (ZU.trans ZU.symm)).mv (show Mv (fun k=>k=B5) _ _ from Mv.sa _ rfl (Mv.refl _ _)) hn,r5.all _ (ZU.trans ZU.symm),Om,Om⟩
theorem QuN(w:World):Calls Tryz.prog 19 #[.agg (ctv ⟨0,0,0,0,0,0,0,0,0,none,0,0⟩),.agg #[.int .u8 0,.int .u8 0,.int .i64 0,.int .i64 0,.int .i64 0,.int .i64 0,.int .i64 0,.int .i64 0,.int .i64 0,.slice none 0 0]] w fun e w'=>e= .returned (.bool true)∧Ext w w':=by
 have e:(#[.int .u8 0,.int .u8 0,.int .i64 0,.int .i64 0,.int .i64 0,.int .i64 0,.int .i64 0,.int .i64 0,.int .i64 0,.slice none 0 0]:Array Value)=ctv ⟨0,0,0,0,0,0,0,0,0,none,0,0⟩
  :=(Ze ⟨0,0,0,0,0,0,0,0,0,none,0,0⟩).symm
 rw [e];exact Qfy _ rfl w
structure TwR(W:World)(b2 b3 b5 b7 b9 B4 B5:Nat)(a o:Ag)(x K Y:Ct)(m n:Md):Prop where
 a:RowZ W b2 (agv a)
 x:RowZ W b3 (ctv x)
 o:RowZ W b5 (agv o)
 k:RowZ W b7 (ctv K)
 y:RowZ W b9 (ctv Y)
 m:RowZ W B4 (mdv m)
 n:RowZ W B5 (mdv n)
theorem TwR.ext{W':World}{b2 b3 b5 b9:Nat}{a o:Ag}{x K Y:Ct}{m n:Md}(h:TwR W b2 b3 b5 b7 b9 B4 B5 a o x K Y m n)(e:Ext W W'):TwR W' b2 b3 b5 b7 b9 B4 B5 a o x K Y m n:=⟨h.a.ext e,h.x.ext e,h.o.ext e,h.k.ext e,h.y.ext e,h.m.ext e,h.n.ext e⟩
theorem TwR.facts{b2 b3 b5 b9:Nat}{a o:Ag}{x Y:Ct}{m n:Md}(h:TwR W b2 b3 b5 b7 b9 B4 B5 a o x Y Y m n)(hi:x.bu=(i:Int)):W.cell? ⟨b3,0,none⟩=some (.int .u8 x.ki)∧W.cell? ⟨b3,4,none⟩=some (.int .i64 x.ge)∧W.cell? ⟨b3,3,none⟩=some (.int .i64 (i:Int))∧W.cell? ⟨b2,66,none⟩=some (.slice a.p a.xs.length a.c)∧W.cell? ⟨b5,66,none⟩=some (.slice o.p o.xs.length o.c)∧W.cell? ⟨B4,0,none⟩=some (.int .u8 m.kind)∧W.cell? ⟨B4,2,none⟩=some (.int .i64 m.gen)∧W.cell? ⟨B5,2,none⟩=some (.int .i64 n.gen)∧W.cell? ⟨B5,3,none⟩=some (.bool n.ret)∧Lt b2 W∧Qc W b2=agv a∧Lt b3 W∧Qc W b3=ctv x∧Lt b5 W∧Qc W b5=agv o∧Lt b7 W∧Qc W b7=ctv Y∧Lt b9 W∧Qc W b9=ctv Y∧Lt B4 W∧Qc W B4=mdv m∧Lt B5 W∧Qc W B5=mdv n∧Qt W b2=(0,0):=
 ⟨Qn h.x.r 0 Om,Qn h.x.r 4 Om,by rw [←hi];exact Qn h.x.r 3 Om,by rw [Qa,h.a.r,Qu],by rw [Qa,h.o.r,Qu],by rw [Qa,h.m.r,Yj];rfl,by rw [Qa,h.m.r,Yj];rfl,by rw [Qa,h.n.r,Yj];rfl,by rw [Qa,h.n.r,Yj];rfl,h.a.l,h.a.r,h.x.l,h.x.r,h.o.l,h.o.r,h.k.l,h.k.r,h.y.l,h.y.r,h.m.l,h.m.r,h.n.l,h.n.r,h.a.z⟩
def Qin(ops:Array Oper):Prop:=Region.noSelect ops=true∧Qp ops 14 [0,1,2,3,4,5,6,7,8,9] 0=true∧Region.ready .any ops (msk 14 1023)= [10,11]∧Region.ready .any ops (msk 14 2047)= [11]∧Region.ready .any ops (msk 14 3071)= [10]∧Region.ready .any ops (msk 14 4095)= [12]∧Region.ready .any ops (msk 14 8191)= [13]∧Region.ready .any ops (msk 14 16383)= []
theorem QgH:Qin ((Tryz.f6.body.bind (Qg 9)).getD #[]):=⟨Kr,Kr,Kr,Kr,Kr,Kr,Kr,Kr⟩
theorem Qqh(a:Ag)(x:Ct)(rs:List Rw)(w:World)(ha:AgO w a)(h0:0≤x.ki)(hof:0≤x.of_∧x.of_<256)(hn:x.n=rs.length)(hs:SlR w x.p rs)(hl:rs.length≤9223372036854775807):
  Calls Tryz.prog 6 #[.agg (agv a),.agg (ctv x)] w fun e w'=>e= .returned (.bool true)∧Ext w w':=by
 have HAR:=Xh (fun W (hE:Ext w W)=>Qm4 a W (ha.s.ext hE) ha.l ha.t ha.k);have HRK:=Xh (fun W (hE:Ext w W)=>Qo5 x rs W h0 hn (hs.ext hE) hl);have HA:=Xh ha;clear ha hs hn hl
 go_enter Tryz.func6,Tryz.ntmps6
 go_upto_region 1 with(fail)
 obtain⟨W0,hW⟩: ∃W0,(w.alloc (.cells (agv a) 27)).alloc (.cells (ctv x) 33)=W0:=⟨_,rfl⟩;have g0:Ext w W0:=by rw [←hW];exact Ext.al (Ext.al (Ext.rf _) _) _
 have rA:RowZ W0 w.heap.size (agv a):=by rw [←hW];exact⟨by simp [go_sem],by simp [go_sem],by simp [go_sem,Lt]⟩
 have rX:RowZ W0 (w.heap.size+1) (ctv x):=by rw [←hW];exact⟨by simp [go_sem],by simp [go_sem],by simp [go_sem,Lt]⟩
 rw [hW];clear hW;obtain⟨b2,e2⟩: ∃b,w.heap.size=b:=⟨_,rfl⟩;obtain⟨b3,e3⟩: ∃b,b2+1=b:=⟨_,rfl⟩;rw [e2]at rA;rw [e2,e3]at rX;rw [e2,e3];have HB:=Xh (show w.heap.size≤b2∧b2+1=b3 from⟨Nat.le_of_eq e2,e3⟩);clear e2 e3;have c9:W0.cell? ⟨b3,9,none⟩=some (.slice x.p x.n x.c):=Qn rX.r 9 Om;have ra0:=rA.r;have l3:=rX.l;have HR0:=Xh (And.intro rA rX);have HG0:=Xh g0;clear rA rX g0
 cases h40:decide ((x.n:Int)>40)
 case true=>
  go_wp2_with (first|(go_at_call 23;(with_reducible refine(HAR.out _ HG0.out).mono ?_);rintro e wx ⟨rfl,gx⟩)|(go_at_call 9;(with_reducible refine(Yt _).mono ?_);rintro e wx ⟨rfl,gk⟩))
  go_ret;exact⟨rfl,HG0.out.tr gk⟩
 cases hR:agR a
 ·rw [hR]at HAR;clear hR
  go_wp2_with (first|(go_at_call 23;(with_reducible refine(HAR.out _ HG0.out).mono ?_);rintro e wx ⟨rfl,gx⟩)|(go_at_call 9;(with_reducible refine(Yt _).mono ?_);rintro e wx ⟨rfl,gk⟩))
  go_ret;exact⟨rfl,(HG0.out.tr gx).tr gk⟩
 have hai:=QhN hR;have hl32:a.xs.length≤32:=((Qaq a.xs).1 hai.2.2.2.2).1;obtain⟨A,eA⟩: ∃A,Yh a x=A:=⟨_,rfl⟩;obtain⟨X,eX⟩: ∃X,Yr a x=X:=⟨_,rfl⟩;obtain⟨L,eL⟩: ∃L,Ys a x=L:=⟨_,rfl⟩;obtain⟨K,eK⟩: ∃K,Jl a x=K:=⟨_,rfl⟩;obtain⟨T,eT⟩: ∃T,Jo a x=T:=⟨_,rfl⟩;have HTI:=Xh (fun W (hE:Ext w W)=>QuM a x W A X L K T eA eX eL eK eT (HA.out.s.ext hE) Om HA.out.t HA.out.k h0 hof);have HEQ:=Xh (And.intro eA (And.intro eX (And.intro eL (And.intro eK eT))));have HRI:=Xh hR;have HH0:=Xh h0;rw [hR]at HAR;clear hR hai eA eX eL eK eT h0 hof
 go_upto_region 3 with(go_at_call 23;(with_reducible refine(HAR.out _ HG0.out).mono ?_);rintro e w1 ⟨rfl,g1⟩)
 have rA:=HR0.out.1.ext g1;have rX:=HR0.out.2.ext g1;have E:=HG0.out.tr g1;clear HR0 HG0 g1 HAR ra0 l3 c9 h40;refine wp_region_lit ?_;refine listV (v:= .agg (agv a)) (w':=w1) rfl ((ZM (C:=fun _=>False) rA (fun h=>h) Kr) _ (Mv.refl (fun _=>False) _)) ?_;refine listV (v:= .agg (ctv x)) (w':=w1) rfl ((Qjs (C:=fun _=>False) rX (fun h=>h) Kr) _ (Mv.refl (fun _=>False) _)) ?_;refine J0 (R:=fun v w'=>(Qta A X L K T) v w'∧Ext w1 w') rfl Kr (HTI.out w1 E) ?_;rintro _ X3_1 ⟨⟨p',c',q,d,rfl,s2,l2⟩,gX3_1⟩;have E:=E.tr gX3_1;have rA:=rA.ext gX3_1;have rX:=rX.ext gX3_1;have hb2X:b2<X3_1.heap.size:=rA.l;obtain⟨o,eo⟩: ∃o,({A with p:=p',xs:=X,c:=c'}:Ag)=o:=⟨_,rfl⟩;rw [eo];have eC:=Ext.rf X3_1;refine listV (v:= .tuple #[.agg (agv o),.slice q L.length d,.agg (ctv K),.bool T]) (w':=X3_1) rfl Kr ?_;refine listV (v:= .agg (agv o)) (w':=X3_1) rfl Kr ?_;refine listV (v:= .slice q L.length d) (w':=X3_1) rfl Kr ?_;refine listV (v:= .agg (ctv K)) (w':=X3_1) rfl Kr ?_;refine listV (v:= .bool T) (w':=X3_1) rfl Kr ?_;refine listV rfl (QE _ _ _ _ _ _ _) ?_;obtain⟨b5,e5⟩: ∃b,X3_1.heap.size=b:=⟨_,rfl⟩;obtain⟨X3_2,hX3_2⟩: ∃N,X3_1.alloc (.cells (agv agz) 27)=N:=⟨_,rfl⟩;have r5:RowZ X3_2 b5 (agv agz):=by rw [←hX3_2,←e5];exact RowZ.new _ _ _
 have l5:X3_1.heap.size≤b5:=by rw [←e5];exact eC.size
 have g1:Ext X3_1 X3_2:=by rw [←hX3_2];exact Ext.al (Ext.rf _) _
 have eC:=eC.tr g1;rw [hX3_2,e5];clear hX3_2 e5 g1;refine listV rfl (Qc9 _) ?_;obtain⟨b7,e7⟩: ∃b,X3_2.heap.size=b:=⟨_,rfl⟩;obtain⟨X3_3,hX3_3⟩: ∃N,X3_2.alloc (.cells (ctv ⟨0,0,0,0,0,0,0,0,0,none,0,0⟩) 33)=N:=⟨_,rfl⟩;have n5_7:b5<b7:=by have:=r5.l;unfold Lt at this;omega
 have r7:RowZ X3_3 b7 (ctv ⟨0,0,0,0,0,0,0,0,0,none,0,0⟩):=by rw [←hX3_3,←e7];exact RowZ.new _ _ _
 have l7:X3_1.heap.size≤b7:=by rw [←e7];exact eC.size
 have g1:Ext X3_2 X3_3:=by rw [←hX3_3];exact Ext.al (Ext.rf _) _
 have eC:=eC.tr g1;have r5:=r5.ext g1;rw [hX3_3,e7];clear hX3_3 e7 g1;refine Zk rfl (Zu (B:=b5) (cs:=agv o) (by rw [r5.r];exact Qi) r5.z Qi ZS Kr Kr) ?_;obtain⟨X3_4,hX3_4⟩: ∃X3_4,Qe X3_3 b5 0 (agv o)=X3_4:=⟨_,rfl⟩;have gS:Mv (fun q=>q=b5) X3_3 X3_4:=by rw [←hX3_4];exact Mv.sa _ rfl (Mv.refl _ _)
 have r5:RowZ X3_4 b5 (agv o):=by rw [←hX3_4];exact r5.all _ (Qi.trans Qi.symm)
 have eC:Ext X3_1 X3_4:=by rw [←hX3_4];exact Ext.sa _ l5 eC
 have r7:=r7.mv gS Om;clear gS;rw [hX3_4];clear hX3_4;refine listV (v:= .slice q L.length d) (w':=X3_4) rfl Kr ?_;refine Zk rfl (JA (B:=b7) (cs:=ctv K) (by rw [r7.r];exact QL) r7.z QL Qbg Kr Kr) ?_;obtain⟨X3_5,hX3_5⟩: ∃X3_5,Qe X3_4 b7 0 (ctv K)=X3_5:=⟨_,rfl⟩;have gS:Mv (fun q=>q=b7) X3_4 X3_5:=by rw [←hX3_5];exact Mv.sa _ rfl (Mv.refl _ _)
 have r7:RowZ X3_5 b7 (ctv K):=by rw [←hX3_5];exact r7.all _ (QL.trans QL.symm)
 have eC:Ext X3_1 X3_5:=by rw [←hX3_5];exact Ext.sa _ l7 eC
 have r5:=r5.mv gS Om;clear gS;rw [hX3_5];clear hX3_5;refine listV (v:= .bool T) (w':=X3_5) rfl Kr ?_;refine wpList_nil ?_;have HX:=Xh eC;clear eC;have E:=E.tr HX.out;have rA:=rA.ext HX.out;have rX:=rX.ext HX.out;have s2:=s2.ext HX.out;have l2:=l2.ext HX.out;have hb25:b2<b5:=Xl hb2X l5;clear HX l5 l7 hb2X;go_simp;have hB2:w.heap.size≤b2:=HB.out.1;have HSL:=Xh (And.intro s2 l2);have HR3:=Xh (And.intro rA (And.intro rX (And.intro r5 r7)));have HE3:=Xh E;have HO:=Xh (show o.p=p'∧o.xs=X∧o.c=c' by rw [←eo];exact⟨rfl,rfl,rfl⟩);have HOE:=Xh eo;have hwx:=rX.r;have lx3:=rX.l;have HBB:=Xh (show ¬(fun k=>k=b2) b5 from fun e=>by have e':b5=b2:=e;omega);clear s2 l2 rA r5 r7 E eo hB2 rX hb25
 go_upto_region 5 with(go_at_call 34;(with_reducible refine(HRK.out _ HE3.out).mono ?_);rintro e w4 ⟨rfl,g4⟩)
 obtain⟨W4,hW⟩: ∃W4,Qe (w4.alloc (.cells #[.int .u8 0,.int .u8 0,.int .i64 0,.int .i64 0,.int .i64 0,.int .i64 0,.int .i64 0,.int .i64 0,.int .i64 0,.slice none 0 0] 33)) w4.heap.size 0 (ctv (Yw x))=W4:=⟨_,rfl⟩;obtain⟨b9,e9⟩: ∃b,w4.heap.size=b:=⟨_,rfl⟩;have g5:Ext w4 W4:=by rw [←hW];exact Ext.sa _ (Nat.le_refl _) (Ext.al (Ext.rf _) _)
 have r9:RowZ W4 b9 (ctv (Yw x)):=by rw [←hW,←e9];exact(RowZ.new _ _ _).all _ rfl
 rw [hW,e9];clear hW e9 hwx lx3;obtain⟨Y,eY⟩: ∃Y,Yw x=Y:=⟨_,rfl⟩;rw [eY]at r9⊢;have HY:=Xh eY;have HE4:=Xh (HE3.out.tr (g4.tr g5));have HR4:=Xh (And.intro (HR3.out.1.ext (g4.tr g5)) (And.intro (HR3.out.2.1.ext (g4.tr g5)) (And.intro (HR3.out.2.2.1.ext (g4.tr g5)) (And.intro (HR3.out.2.2.2.ext (g4.tr g5)) r9))));have HS4:=Xh (And.intro (HSL.out.1.ext (g4.tr g5)) (HSL.out.2.ext (g4.tr g5)));clear HSL HR3 HE3 g4 g5 r9 eY;have x2:W4.cell? ⟨b3,2,none⟩=some (.int .i64 x.ag):=Qn HR4.out.2.1.r 2 Om;have a0:W4.cell? ⟨b2,0,none⟩=some (.int .i64 a.id):=Yb HR4.out.1.r;have wo:=HR4.out.2.2.1.r;have wa:=HR4.out.1.r;have lo:=HR4.out.2.2.1.l;have lk:=HR4.out.2.2.2.1.l;have wk:=HR4.out.2.2.2.1.r;have HL1:=Xh (show a.xs.length≤1000 by omega);have h3:Jo a x=false∧ackOk x=false∨Jo a x=false∧ackOk x=true∧(x.ag==a.id)=false∨ackOk x=true∧(x.ag==a.id)=true:=by unfold Jo;cases ackOk x<;>cases(x.ag==a.id)<;>simp
 rcases h3 with⟨hF,e1⟩|⟨hF,e1,e2⟩|⟨e1,e2⟩
 rotate_left 2
 ·obtain rfl:T=true:=by rw [←HEQ.out.2.2.2.2];unfold Jo;rw [e1,e2,HRI.out];rfl
  have hT:=HEQ.out.2.2.2.2;have hKY:K=Y:=by rw [←HEQ.out.2.2.2.1,←HY.out];unfold Jl;rw [hT];rfl
  have hYn:Y.n=0:=by rw [←HY.out];unfold Yw;split<;>rfl
  have HS9:=Xh (fun W=>Qfy Y hYn W);obtain⟨htk,hb0,hb16,-,-⟩:=Qfz HH0.out hT;obtain⟨i,hi⟩: ∃i:Nat,x.bu=(i:Int):=⟨x.bu.toNat,Om⟩;have hi16:i<16:=by omega
  have hil16:(i:Int)<16:=by omega
  have hfit1:2+i*4+4≤67:=by omega
  have hfit2:2+i*4≤63:=by omega
  have hiN:x.bu.toNat=i:=by omega
  have HI:=Xh hi;have HIL:=Xh hi16;obtain⟨m,em⟩: ∃m,a.md i=m:=⟨_,rfl⟩;obtain⟨n,en⟩: ∃n,Qbz x m=n:=⟨_,rfl⟩;have hAm:A=Z7 a i n:=by rw [←HEQ.out.1];unfold Yh;rw [hT,hiN,em,en];rfl
  have hom:o.md i=n:=by rw [←HOE.out,hAm];show(if i=i then n else a.md i)=n;rw [if_pos rfl]
  have HMM:=Xh (show Qe2 o.md (Z7 a i n).md=true by rw [←HOE.out,hAm];exact QfA _);have hmR:mdR m=true:=by rw [←em];exact QfE HRI.out i hi16
  obtain⟨f1,f0,f2,f3,f4⟩:=Qpe x m n htk hmR en (by rw [←em];exact HA.out.k i hi16);have hY2:YJ a x=(!JX m n&&x.ki==3):=by unfold YJ;rw [hT,hiN,em,f3];rfl
  have HR16:=Xh (fun W=>show Calls Tryz.prog 35 #[.agg (mdv n)] W fun e w'=>e= .returned (.bool true)∧Ext W w' by have h:=Qcm n W f0;rw [f1]at h;exact h);have HF:=Xh (And.intro f2 f4);have HSA:=Xh (fun W (hE:Ext w W)=>HA.out.s.ext hE);have HSO:=Xh (fun W (hE:Ext W4 W)=>HS4.out.1.ext hE);have HTU:=Xh HA.out.t;have HB2:=Xh HB.out.1;have HEM:=Xh em;have HON:=Xh hom;have HYY:=Xh hY2;have HXQ:=Xh (show Yr a x=X∧Ys a x=L from⟨HEQ.out.2.1,HEQ.out.2.2.1⟩);have wk:=wk;rw [hKY]at wk;have HR4:=Xh (And.intro HR4.out.1 (And.intro HR4.out.2.1 (And.intro HR4.out.2.2.1 (And.intro (show RowZ W4 b7 (ctv Y)by rw [←hKY];exact HR4.out.2.2.2.1) HR4.out.2.2.2.2))));clear hYn htk hb0 hb16 hi hiN em en hAm hom hmR f0 f1 f2 f3 f4 hY2 hKY hT HEQ HTI
  go_upto_region 9 with(fail)
  go_cut [11,12]from 67 to 76 (fun s t wx=> ∃B4 B5,s= .pointer (some ⟨B4,0,none⟩)∧t= .pointer (some ⟨B5,0,none⟩)∧Ext W4 wx∧RowZ wx B4 (mdv (a.md i))∧RowZ wx B5 (mdv (o.md i))∧W4.heap.size≤B4∧W4.heap.size≤B5)
  case first=>
   have rA:=HR4.out.1;have rX:=HR4.out.2.1;have rO:=HR4.out.2.2.1;have E:=HE4.out;have hD2: ¬(fun k=>W4.heap.size≤k) b2:=by have h:b2<W4.heap.size:=rA.l;exact Nat.not_le_of_lt h
   have hD3: ¬(fun k=>W4.heap.size≤k) b3:=by have h:b3<W4.heap.size:=rX.l;exact Nat.not_le_of_lt h
   have hD5: ¬(fun k=>W4.heap.size≤k) b5:=by have h:b5<W4.heap.size:=rO.l;exact Nat.not_le_of_lt h
   refine Qy (fun _=>False) (fun k=>W4.heap.size≤k) 12 Kr ?_;obtain⟨WA,hW⟩: ∃Wdr,World.drew W4=Wdr:=⟨_,rfl⟩;have gD:Ext W4 WA:=by rw [←hW];exact Ext.dr (Ext.rf _)
   rw [hW];clear hW;have E:=E.tr gD;have rA:=rA.ext gD;have rX:=rX.ext gD;have rO:=rO.ext gD;refine Zi (N:=14) (R:=Qin) (E:=((Tryz.f6.body.bind (Qg 9)).getD #[])) Kr QgH Kr fun hS=> ?_;have hT:=hS.2.1;refine tWk 1 (.pointer (some ⟨b3,3,none⟩)) hS.1 hT rfl fun hT=> ?_;refine tW 3 (.int .i64 (i:Int)) hS.1 hT rfl (QW (by rw [←HI.out];exact Qn rX.r 3 Om) rX.l hD3 Kr) fun hT=> ?_;refine tWk 7 (.pointer (some ⟨b2,2,none⟩)) hS.1 hT rfl fun hT=> ?_;refine tW 15 (.pointer (some ⟨b2,2+i*4,none⟩)) hS.1 hT rfl (fun w' _=>Qh4 hi16 Kr Kr w') fun hT=> ?_;refine tW 31 (.agg (mdv (a.md i))) hS.1 hT rfl (QcV rA hi16 hD2 Kr) fun hT=> ?_;refine tWk 63 (.pointer (some ⟨b3,3,none⟩)) hS.1 hT rfl fun hT=> ?_;refine tW 127 (.int .i64 (i:Int)) hS.1 hT rfl (QW (by rw [←HI.out];exact Qn rX.r 3 Om) rX.l hD3 Kr) fun hT=> ?_;refine tWk 255 (.pointer (some ⟨b5,2,none⟩)) hS.1 hT rfl fun hT=> ?_;refine tW 511 (.pointer (some ⟨b5,2+i*4,none⟩)) hS.1 hT rfl (fun w' _=>Qh4 hi16 Kr Kr w') fun hT=> ?_;refine tW 1023 (.agg (mdv (o.md i))) hS.1 hT rfl (QcV rO hi16 hD5 Kr) fun hT=> ?_;refine QlW hS.2.2.1 ?_ ?_
   ·refine Zl (m':=2047) rfl rfl Kr (QdD _) ⟨.inr (Mv.of_ext (Ext.al (Ext.rf _) _)),Mv.of_ext (Ext.al (Ext.rf _) _)⟩ ?_;refine Qs hS.2.2.2.1 (Zl (m':=4095) rfl rfl Kr (QdD _) ⟨.inr (Mv.of_ext (Ext.al (Ext.rf _) _)),Mv.of_ext (Ext.al (Ext.rf _) _)⟩ ?_);obtain⟨W2,hW⟩: ∃W,((WA.alloc (.cells (mdv mdz) 23)).alloc (.cells (mdv mdz) 23))=W:=⟨_,rfl⟩;obtain⟨B4,hB4⟩: ∃B,WA.heap.size=B:=⟨_,rfl⟩;obtain⟨B5,hB5⟩: ∃B,(WA.alloc (.cells (mdv mdz) 23)).heap.size=B:=⟨_,rfl⟩;have hn:B4≠B5∧WA.heap.size≤B4∧WA.heap.size≤B5:=by rw [←hB4,←hB5];simp only [World.size_alloc];omega
    have g2:Ext WA W2:=by rw [←hW];exact Ext.al (Ext.al (Ext.rf _) _) _
    have r4:RowZ W2 B4 (mdv mdz):=by rw [←hW,←hB4];exact⟨by simp [go_sem],by simp [go_sem],by simp [go_sem,Lt]⟩
    have r5:RowZ W2 B5 (mdv mdz):=by rw [←hW,←hB5];exact⟨by simp [go_sem],by simp [go_sem],by simp [go_sem,Lt]⟩
    rw [hW,hB4,hB5];clear hW hB4 hB5;refine Qs hS.2.2.2.2.2.1 (QD (m':=8191) rfl rfl Kr (Qbh (m:=a.md i) r4 Kr Kr) ⟨.inl Dc,Mv.sa _ (Xt gD.size hn.2.1) (Mv.refl _ _)⟩ ?_);have r5:=r5.mv (show Mv (fun k=>k=B4) W2 (Qe W2 B4 0 (mdv (a.md i)))from Mv.sa _ rfl (Mv.refl _ _)) (fun e=>hn.1 e.symm);refine Qs hS.2.2.2.2.2.2.1 (QD (m':=16383) rfl rfl Kr (Qbh (m:=o.md i) r5 Kr Kr) ⟨.inl Dc,Mv.sa _ (Xt gD.size hn.2.2) (Mv.refl _ _)⟩ ?_);refine Q2 hS.2.2.2.2.2.2.2 ?_;have HF:=Xh (Qlw (n:=o.md i) (gD.tr g2) gD.size hn.2.1 hn.2.2 hn.1 r4 r5);clear r4 r5 hn g2
    go_wp2_with (fail)
    go_meet
    exact⟨B4,B5,rfl,rfl,HF.out⟩
   ·refine Zl (m':=3071) rfl rfl Kr (QdD _) ⟨.inr (Mv.of_ext (Ext.al (Ext.rf _) _)),Mv.of_ext (Ext.al (Ext.rf _) _)⟩ ?_;refine Qs hS.2.2.2.2.1 (Zl (m':=4095) rfl rfl Kr (QdD _) ⟨.inr (Mv.of_ext (Ext.al (Ext.rf _) _)),Mv.of_ext (Ext.al (Ext.rf _) _)⟩ ?_);obtain⟨W2,hW⟩: ∃W,((WA.alloc (.cells (mdv mdz) 23)).alloc (.cells (mdv mdz) 23))=W:=⟨_,rfl⟩;obtain⟨B4,hB4⟩: ∃B,(WA.alloc (.cells (mdv mdz) 23)).heap.size=B:=⟨_,rfl⟩;obtain⟨B5,hB5⟩: ∃B,WA.heap.size=B:=⟨_,rfl⟩;have hn:B4≠B5∧WA.heap.size≤B4∧WA.heap.size≤B5:=by rw [←hB4,←hB5];simp only [World.size_alloc];omega
    have g2:Ext WA W2:=by rw [←hW];exact Ext.al (Ext.al (Ext.rf _) _) _
    have r4:RowZ W2 B4 (mdv mdz):=by rw [←hW,←hB4];exact⟨by simp [go_sem],by simp [go_sem],by simp [go_sem,Lt]⟩
    have r5:RowZ W2 B5 (mdv mdz):=by rw [←hW,←hB5];exact⟨by simp [go_sem],by simp [go_sem],by simp [go_sem,Lt]⟩
    rw [hW,hB4,hB5];clear hW hB4 hB5;refine Qs hS.2.2.2.2.2.1 (QD (m':=8191) rfl rfl Kr (Qbh (m:=a.md i) r4 Kr Kr) ⟨.inl Dc,Mv.sa _ (Xt gD.size hn.2.1) (Mv.refl _ _)⟩ ?_);have r5:=r5.mv (show Mv (fun k=>k=B4) W2 (Qe W2 B4 0 (mdv (a.md i)))from Mv.sa _ rfl (Mv.refl _ _)) (fun e=>hn.1 e.symm);refine Qs hS.2.2.2.2.2.2.1 (QD (m':=16383) rfl rfl Kr (Qbh (m:=o.md i) r5 Kr Kr) ⟨.inl Dc,Mv.sa _ (Xt gD.size hn.2.2) (Mv.refl _ _)⟩ ?_);refine Q2 hS.2.2.2.2.2.2.2 ?_;have HF:=Xh (Qlw (n:=o.md i) (gD.tr g2) gD.size hn.2.1 hn.2.2 hn.1 r4 r5);clear r4 r5 hn g2
    go_wp2_with (fail)
    go_meet
    exact⟨B4,B5,rfl,rfl,HF.out⟩
  case rest=>
   obtain⟨B4,B5,rfl,rfl,g9,r11,r12,-,-⟩:=hcut;obtain⟨W9,hW9⟩: ∃W,wc=W:=⟨_,rfl⟩;rw [hW9]at g9 r11 r12⊢;clear hW9;rw [HEM.out]at r11;rw [HON.out]at r12;have HG9:=Xh g9;have HT9:=Xh (show TwR W9 b2 b3 b5 b7 b9 B4 B5 a o x Y Y m n from⟨HR4.out.1.ext g9,HR4.out.2.1.ext g9,HR4.out.2.2.1.ext g9,HR4.out.2.2.2.1.ext g9,HR4.out.2.2.2.2.ext g9,r11,r12⟩);clear g9 r11 r12 x2 a0 wo wa lo lk wk e1 e2;obtain⟨x0,x4,x3,a66,o66,m0,m2,n2,n3,la,wa,lx,wx,lo,wo,lk,wk,ly,wy,lm,wm,ln,wn,za⟩:=HT9.out.facts HI.out;rw [HO.out.1,HO.out.2.1,HO.out.2.2]at o66;have h4:(YJ a x=false∧(x.ki !=3)=true∧JX m n=false∧decide (x.ge≤m.gen)=false∧(n.gen !=x.ge)=false)∨(YJ a x=false∧(x.ki !=3)=true∧JX m n=true)∨(YJ a x=false∧(x.ki==3)=true∧JX m n=true)∨(YJ a x=true∧(x.ki==3)=true∧JX m n=false):=by
    rw [HYY.out,bne]
    cases ek:(x.ki==3)<;>cases et:JX m n
    ·have h:=HF.out.1 et (fun e=>by rw [e]at ek;cases ek);exact .inl ⟨rfl,rfl,rfl,decide_eq_false Om,by rw [h.2];simp⟩
    ·exact .inr (.inl ⟨rfl,rfl,rfl⟩)
    ·exact .inr (.inr (.inr ⟨rfl,rfl,rfl⟩))
    ·exact .inr (.inr (.inl ⟨rfl,rfl,rfl⟩))
   rcases h4 with⟨hY,k3,et,hge,hng⟩|⟨hY,k3,et⟩|⟨hY,ek,et⟩|⟨hY,ek,et⟩
   rotate_left 3
   ·obtain⟨q1,q2,q3⟩:=HF.out.2 et (beq_iff_eq.1 ek);have k3:(x.ki !=3)=false:=by rw [bne,ek];rfl
    have q1':(m.kind !=3)=false:=by rw [q1];rfl
    have q2':(m.gen !=x.ge)=false:=by rw [q2];simp
    have hX:X=a.xs.filter (fun c=>!inB i c):=by rw [←HXQ.out.1,←HI.out];unfold Yr;rw [hY];rfl
    have hL:L.length=(a.xs.filter (inB i)).length:=by rw [←HXQ.out.2,←HI.out];unfold Ys;rw [hY];exact Qmz _ _
    have hf2:=Qpf a.xs (inB i);rw [←hX]at hf2;have hXf:(X.filter (inB i)).length=0:=by rw [hX,Qmy];rfl
    have hl1:=HL1.out;have hsub:IntKind.i64.wrap ((a.xs.length:Int)- X.length)=L.length:=by rw [IntKind.wrap_i64];omega
    have HL2:=Xh (show X.length≤1000 by omega);have HTX:=Xh (show ∀c∈X,TuR c.t from fun c hc=>HTU.out c (by rw [hX]at hc;exact(List.mem_filter.1 hc).1));clear hX hf2 hl1 hY q1 q2
    go_upto_region 18 with(first|(go_at_call 19;(with_reducible refine(HS9.out W9).mono ?_);rintro e w10 ⟨rfl,g10⟩;have HT10:=Xh (HT9.out.ext g10);clear x0 x3 x4 a66 o66 m0 m2 n2 n3 la wa lx wx lo wo lk wk ly wy lm wm ln wn za;obtain⟨x0,x4,x3,a66,o66,m0,m2,n2,n3,la,wa,lx,wx,lo,wo,lk,wk,ly,wy,lm,wm,ln,wn,za⟩:=HT10.out.facts HI.out;rw [HO.out.1,HO.out.2.1,HO.out.2.2]at o66)|(go_at_call 35;(with_reducible refine(HR16.out w10).mono ?_);rintro e w11 ⟨rfl,g11⟩;have HT11:=Xh (HT10.out.ext g11);clear x0 x3 x4 a66 o66 m0 m2 n2 n3 la wa lx wx lo wo lk wk ly wy lm wm ln wn za;obtain⟨x0,x4,x3,a66,o66,m0,m2,n2,n3,la,wa,lx,wx,lo,wo,lk,wk,ly,wy,lm,wm,ln,wn,za⟩:=HT11.out.facts HI.out;rw [HO.out.1,HO.out.2.1,HO.out.2.2]at o66)|(go_at_call 36;(with_reducible refine(Qh3 a.p a.xs a.c i w11 (HSA.out _ (((HE4.out.tr HG9.out).tr g10).tr g11)) HL1.out HTU.out).mono ?_);rintro e w12 ⟨vo12,rfl,oo12,g12⟩;obtain⟨po12,co12,rfl,-,-⟩:=SlC.own oo12;have HT12:=Xh (HT11.out.ext g12);clear oo12 x0 x3 x4 a66 o66 m0 m2 n2 n3 la wa lx wx lo wo lk wk ly wy lm wm ln wn za;obtain⟨x0,x4,x3,a66,o66,m0,m2,n2,n3,la,wa,lx,wx,lo,wo,lk,wk,ly,wy,lm,wm,ln,wn,za⟩:=HT12.out.facts HI.out;rw [HO.out.1,HO.out.2.1,HO.out.2.2]at o66)|(go_at_call 36;(with_reducible refine(Qh3 p' X c' i w12 (HSO.out _ (((HG9.out.tr g10).tr g11).tr g12)) HL2.out HTX.out).mono ?_);rintro e w13 ⟨vo13,rfl,oo13,g13⟩;obtain⟨po13,co13,rfl,-,-⟩:=SlC.own oo13;have HT13:=Xh (HT12.out.ext g13);clear oo13 x0 x3 x4 a66 o66 m0 m2 n2 n3 la wa lx wx lo wo lk wk ly wy lm wm ln wn za;obtain⟨x0,x4,x3,a66,o66,m0,m2,n2,n3,la,wa,lx,wx,lo,wo,lk,wk,ly,wy,lm,wm,ln,wn,za⟩:=HT13.out.facts HI.out;rw [HO.out.1,HO.out.2.1,HO.out.2.2]at o66))
    go_upto_region 19 with(fail)
    obtain⟨WZ,hW⟩: ∃W,Qe w13 b2 (2+i*4) (mdv n)=W:=⟨_,rfl⟩;have mZ:Mv (fun k=>k=b2) w13 WZ:=by rw [←hW];exact Mv.sa _ rfl (Mv.refl _ _)
    have rA:RowZ WZ b2 (agv (Z7 a i n)):=by rw [←hW];exact RowZ.md HT13.out.a HIL.out n
    have rO:=HT13.out.o.mv mZ HBB.out;have EZ:Ext w WZ:=by rw [←hW];exact Ext.sa _ HB2.out ((((((HE4.out.tr HG9.out).tr g10).tr g11).tr g12).tr g13))
    rw [hW];clear hW mZ x0 x3 x4 a66 o66 m0 m2 n2 n3 la wa lx wx lo wo lk wk ly wy lm wm ln wn za;have wA:=rA.r;have wO:=rO.r;have lA:=rA.l;have lO:=rO.l;have hM:=HMM.out;clear rA rO
    go_wp2_with (go_at_call 9;(with_reducible refine(Yt _).mono ?_);rintro e wx ⟨rfl,gk⟩)
    go_ret;exact⟨rfl,EZ.tr gk⟩
   rotate_left 2
   ·have k3:(x.ki !=3)=false:=by rw [bne,ek];rfl
    have hX:X.length=a.xs.length:=by rw [←HXQ.out.1];unfold Yr;rw [hY];rfl
    have hL:L.length=0:=by rw [←HXQ.out.2];unfold Ys;rw [hY];rfl
    have hsub:IntKind.i64.wrap ((a.xs.length:Int)- a.xs.length)=0:=by rw [IntKind.wrap_i64];omega
    clear hY
    go_upto_region 18 with(first|(go_at_call 19;(with_reducible refine(HS9.out W9).mono ?_);rintro e w10 ⟨rfl,g10⟩;have HT10:=Xh (HT9.out.ext g10);clear x0 x3 x4 a66 o66 m0 m2 n2 n3 la wa lx wx lo wo lk wk ly wy lm wm ln wn za;obtain⟨x0,x4,x3,a66,o66,m0,m2,n2,n3,la,wa,lx,wx,lo,wo,lk,wk,ly,wy,lm,wm,ln,wn,za⟩:=HT10.out.facts HI.out;rw [HO.out.1,HO.out.2.1,HO.out.2.2]at o66)|(go_at_call 35;(with_reducible refine(HR16.out w10).mono ?_);rintro e w11 ⟨rfl,g11⟩;have HT11:=Xh (HT10.out.ext g11);clear x0 x3 x4 a66 o66 m0 m2 n2 n3 la wa lx wx lo wo lk wk ly wy lm wm ln wn za;obtain⟨x0,x4,x3,a66,o66,m0,m2,n2,n3,la,wa,lx,wx,lo,wo,lk,wk,ly,wy,lm,wm,ln,wn,za⟩:=HT11.out.facts HI.out;rw [HO.out.1,HO.out.2.1,HO.out.2.2]at o66))
    go_upto_region 19 with(fail)
    obtain⟨WZ,hW⟩: ∃W,Qe w11 b2 (2+i*4) (mdv n)=W:=⟨_,rfl⟩;have mZ:Mv (fun k=>k=b2) w11 WZ:=by rw [←hW];exact Mv.sa _ rfl (Mv.refl _ _)
    have rA:RowZ WZ b2 (agv (Z7 a i n)):=by rw [←hW];exact RowZ.md HT11.out.a HIL.out n
    have rO:=HT11.out.o.mv mZ HBB.out;have EZ:Ext w WZ:=by rw [←hW];exact Ext.sa _ HB2.out ((((HE4.out.tr HG9.out).tr g10).tr g11))
    rw [hW];clear hW mZ x0 x3 x4 a66 o66 m0 m2 n2 n3 la wa lx wx lo wo lk wk ly wy lm wm ln wn za;have wA:=rA.r;have wO:=rO.r;have lA:=rA.l;have lO:=rO.l;have hM:=HMM.out;clear rA rO
    go_wp2_with (go_at_call 9;(with_reducible refine(Yt _).mono ?_);rintro e wx ⟨rfl,gk⟩)
    go_ret;exact⟨rfl,EZ.tr gk⟩
   all_goals
    have ek:(x.ki==3)=false:=by rw [bne]at k3;simpa using k3
    have hX:X.length=a.xs.length:=by rw [←HXQ.out.1];unfold Yr;rw [hY];rfl
    have hL:L.length=0:=by rw [←HXQ.out.2];unfold Ys;rw [hY];rfl
    have hsub:IntKind.i64.wrap ((a.xs.length:Int)- a.xs.length)=0:=by rw [IntKind.wrap_i64];omega
    clear hY
    go_upto_region 18 with(first|(go_at_call 19;(with_reducible refine(HS9.out W9).mono ?_);rintro e w10 ⟨rfl,g10⟩;have HT10:=Xh (HT9.out.ext g10);clear x0 x3 x4 a66 o66 m0 m2 n2 n3 la wa lx wx lo wo lk wk ly wy lm wm ln wn za;obtain⟨x0,x4,x3,a66,o66,m0,m2,n2,n3,la,wa,lx,wx,lo,wo,lk,wk,ly,wy,lm,wm,ln,wn,za⟩:=HT10.out.facts HI.out;rw [HO.out.1,HO.out.2.1,HO.out.2.2]at o66)|(go_at_call 35;(with_reducible refine(HR16.out w10).mono ?_);rintro e w11 ⟨rfl,g11⟩;have HT11:=Xh (HT10.out.ext g11);clear x0 x3 x4 a66 o66 m0 m2 n2 n3 la wa lx wx lo wo lk wk ly wy lm wm ln wn za;obtain⟨x0,x4,x3,a66,o66,m0,m2,n2,n3,la,wa,lx,wx,lo,wo,lk,wk,ly,wy,lm,wm,ln,wn,za⟩:=HT11.out.facts HI.out;rw [HO.out.1,HO.out.2.1,HO.out.2.2]at o66))
    go_upto_region 19 with(fail)
    obtain⟨WZ,hW⟩: ∃W,Qe w11 b2 (2+i*4) (mdv n)=W:=⟨_,rfl⟩;have mZ:Mv (fun k=>k=b2) w11 WZ:=by rw [←hW];exact Mv.sa _ rfl (Mv.refl _ _)
    have rA:RowZ WZ b2 (agv (Z7 a i n)):=by rw [←hW];exact RowZ.md HT11.out.a HIL.out n
    have rO:=HT11.out.o.mv mZ HBB.out;have EZ:Ext w WZ:=by rw [←hW];exact Ext.sa _ HB2.out ((((HE4.out.tr HG9.out).tr g10).tr g11))
    rw [hW];clear hW mZ x0 x3 x4 a66 o66 m0 m2 n2 n3 la wa lx wx lo wo lk wk ly wy lm wm ln wn za;have wA:=rA.r;have wO:=rO.r;have lA:=rA.l;have lO:=rO.l;have hM:=HMM.out;clear rA rO
    go_wp2_with (go_at_call 9;(with_reducible refine(Yt _).mono ?_);rintro e wx ⟨rfl,gk⟩)
    go_ret;exact⟨rfl,EZ.tr gk⟩
 all_goals
  obtain rfl:T=false:=by rw [←HEQ.out.2.2.2.2];exact hF
  obtain rfl:K=⟨0,0,0,0,0,0,0,0,0,none,0,0⟩:=by rw [←HEQ.out.2.2.2.1];unfold Jl;rw [HEQ.out.2.2.2.2];rfl
  obtain rfl:L= []:=by rw [←HEQ.out.2.2.1];unfold Ys YJ;rw [HEQ.out.2.2.2.2];rfl
  have hA:A=a:=by rw [←HEQ.out.1];unfold Yh;rw [HEQ.out.2.2.2.2];rfl
  have hX:X=a.xs:=by rw [←HEQ.out.2.1];unfold Yr YJ;rw [HEQ.out.2.2.2.2];rfl
  have HSS:=Xh (show Calls Tryz.prog 14 #[.agg (agv o),.agg (agv a)] W4 fun e w'=>e= .returned (.bool true)∧Ext W4 w' by
   have h:=QhV o a W4 (by rw [HO.out.1,HO.out.2.1];exact HS4.out.1) (HA.out.s.ext HE4.out) (by rw [HO.out.2.1,hX];exact HL1.out) HL1.out;rw [show Zj o a=true by rw [←HOE.out,hA,hX];unfold Zj;simp [QfA]]at h
   exact h)
  have HSZ:=Xh (fun W=>QuN W);clear hA hX
  go_wp2_with (first|(go_at_call 14;(with_reducible refine(HSS.out).mono ?_);rintro e wx ⟨rfl,gx⟩;have wk:=(HR4.out.2.2.2.1.ext gx).r;have lk:=(HR4.out.2.2.2.1.ext gx).l)|(go_at_call 19;(with_reducible refine(HSZ.out _).mono ?_);rintro e wx ⟨rfl,gy⟩)|(go_at_call 9;(with_reducible refine(Yt _).mono ?_);rintro e wx ⟨rfl,gk⟩))
  go_ret;exact⟨rfl,(((HE4.out.tr gx).tr gy).tr gk)⟩
end
section
open Go.ChangeShapes Go.WideShapes Go.ChangeAt Go.Joins Go.Deep
theorem QxQ:Tryz.prog.cellsOf 183=5:=Kr
theorem QxR:Tryz.prog.cellsOf 153=4:=Kr
theorem QxS:Tryz.prog.cellsOf 31=3:=Kr
theorem QuO:Tryz.prog.cellsOf 33=10:=Kr
theorem Qr8:Tryz.prog.cellsOf 29=1:=Kr
theorem QxT{n:Int}(h:(Lit.int .u8 n).wf=true):0≤n∧n<256:=by
 have h1:IntKind.u8.min=0:=rfl;have h2:IntKind.u8.max=255:=rfl;simp only [Lit.wf,Bool.and_eq_true,decide_eq_true_eq]at h;omega
section
variable {H:Type} {enc:TypeId×Value→H} {w:World} {base b0:Nat} {spare:Nat→Bool} {held:Bool} {fuel:Nat} {L:List Value} {y:DataW H×List MemPlace}
theorem QxU(h:DataW.trod enc Tryz.prog w base spare held fuel 153 L=some y): ∃x:En,True∧ ∀j,j<4→L[j]?=some (x.at j):=by
 obtain⟨n,-,hf⟩:=Yu Tryz.underlying153 h;obtain⟨z0,(h0:DataW.trod enc Tryz.prog w base spare held n 3 ((L.drop 0).take (Tryz.prog.cellsOf 3))=some z0)⟩:=hf 0 _ rfl;rw [QeM]at h0;obtain⟨a0,p0,_,w0⟩:=DataW.trod_int Tryz.underlying3 h0;obtain⟨z1,(h1:DataW.trod enc Tryz.prog w base spare held n 3 ((L.drop 1).take (Tryz.prog.cellsOf 3))=some z1)⟩:=hf 1 _ rfl;rw [QeM]at h1;obtain⟨a1,p1,_,w1⟩:=DataW.trod_int Tryz.underlying3 h1;obtain⟨z2,(h2:DataW.trod enc Tryz.prog w base spare held n 3 ((L.drop 2).take (Tryz.prog.cellsOf 3))=some z2)⟩:=hf 2 _ rfl;rw [QeM]at h2;obtain⟨a2,p2,_,w2⟩:=DataW.trod_int Tryz.underlying3 h2;obtain⟨z3,(h3:DataW.trod enc Tryz.prog w base spare held n 3 ((L.drop 3).take (Tryz.prog.cellsOf 3))=some z3)⟩:=hf 3 _ rfl;rw [QeM]at h3;obtain⟨a3,p3,_,w3⟩:=DataW.trod_int Tryz.underlying3 h3;refine⟨⟨a0,a1,a2,a3⟩,trivial,fun j hj=> ?_⟩;obtain rfl|rfl|rfl|rfl:j=0∨j=1∨j=2∨j=3:=by omega
 ·exact Zd p0
 ·exact Zd p1
 ·exact Zd p2
 ·exact Zd p3
theorem QxV(h:DataW.trod enc Tryz.prog w base spare held fuel 183 L=some y): ∃x:Rw,True∧ ∀j,j<5→L[j]?=some (x.at j):=by
 obtain⟨n,-,hf⟩:=Yu Tryz.underlying183 h;obtain⟨z0,(h0:DataW.trod enc Tryz.prog w base spare held n 3 ((L.drop 0).take (Tryz.prog.cellsOf 3))=some z0)⟩:=hf 0 _ rfl;obtain⟨z1,(h1:DataW.trod enc Tryz.prog w base spare held n 153 ((L.drop 1).take (Tryz.prog.cellsOf 153))=some z1)⟩:=hf 1 _ rfl;rw [QeM]at h0;rw [QxR]at h1;obtain⟨a0,p0,_,_⟩:=DataW.trod_int Tryz.underlying3 h0;obtain⟨e,-,he⟩:=QxU h1;refine⟨⟨a0,e.cur,e.prev,e.gen,e.tick⟩,trivial,fun j hj=> ?_⟩;obtain rfl|rfl|rfl|rfl|rfl:j=0∨j=1∨j=2∨j=3∨j=4:=by omega
 ·exact Zd p0
 ·exact YW (o:=1) (he 0 Om) Om
 ·exact YW (o:=1) (he 1 Om) Om
 ·exact YW (o:=1) (he 2 Om) Om
 ·exact YW (o:=1) (he 3 Om) Om
theorem Qr9(h:DataW.trod enc Tryz.prog w base spare held fuel 29 L=some y):
  ∃(q:Option Addr) (xs:List Rw) (c:Nat),L= [.slice q xs.length c]∧SlR w q xs∧xs.length≤maxLen:=by
 rcases open_slice Tryz.underlying29 h with⟨hcs,_⟩|⟨a,len,cap,k,n,D,Pl,hcs,_,hl,hm,hk,_,hi⟩
 ·exact⟨none,[],0,hcs,SlR.nil _ _,by unfold maxLen;show 0≤_;omega⟩
 ·have hkl:len≤k:=by rw [hk];split<;>omega
  have key: ∀i,i<len→ ∃x:Rw,(True)∧ ∀j,j<5→w.cell? (a.add (i*5+j))=some (x.at j):=by
   intro i hi';obtain⟨cs',hc,ht'⟩:=hi i Om;rw [QxQ]at hc;obtain⟨_,hcl,hat⟩:=World.cells?_some hc;obtain⟨x,hr,hx⟩:=QxV ht';refine⟨x,hr,fun j hj=> ?_⟩;have h1:=hat j hj;rw [hx j hj]at h1;have e:(a.add (i*5)).add j=a.add (i*5+j):=by
    unfold Addr.add
    repeat' split
    all_goals first|(exfalso;simp_all;omega)|(simp_all;done)|(simp_all;omega)
   rw [←e];exact h1
  have hlen:((List.range len).map fun i=>if h:i<len then(key i h).choose else⟨0,0,0,0,0⟩).length=len:=by simp
  refine⟨some a,(List.range len).map fun i=>if h:i<len then(key i h).choose else⟨0,0,0,0,0⟩,cap,by rw [hlen];exact hcs,?_,?_⟩
  ·intro i hi';have hil:i<len:=by omega
   have hc:=(key i hil).choose_spec;simp only [List.getElem_map,List.getElem_range,dif_pos hil];generalize (key i hil).choose=x at hc;obtain⟨-,hx'⟩:=hc;have hvw:a.spot=none:=by
    obtain⟨x0,_,hx0⟩:=key 0 Om;have:=hx0 0 Om;simpa [Addr.add]using World.cell?_spot this
   obtain⟨b,off,view⟩:=a;obtain rfl:view=none:=hvw;have hx': ∀j,j<5→w.cell? ⟨b,off+i*5+j,none⟩=some (x.at j):=fun j hj=>by
    have:=hx' j hj;rw [add_plain]at this;rw [Nat.add_assoc];exact this
   exact⟨b,off,rfl,World.block_lt_of_cell? w _ (hx' 0 Om),hx' 0 Om,hx' 1 Om,hx' 2 Om,hx' 3 Om,hx' 4 Om⟩
  ·rw [hlen];omega
structure CtO(w:World)(x:Ct)(rs:List Rw):Prop where
 k:0≤x.ki
 f:0≤x.of_∧x.of_<256
 n:x.n=rs.length
 s:SlR w x.p rs
 l:rs.length≤9223372036854775807
theorem QxW(h:DataW.trod enc Tryz.prog w base spare held fuel 31 L=some y): ∃(a b:Int) (p:Option Addr) (rs:List Rw) (c:Nat),SlR w p rs∧rs.length≤maxLen∧L[0]?=some (.int .i64 a)∧L[1]?=some (.int .i64 b)∧L[2]?=some (.slice p rs.length c):=by
 obtain⟨n,-,hf⟩:=Yu Tryz.underlying31 h;obtain⟨z0,(h0:DataW.trod enc Tryz.prog w base spare held n 3 ((L.drop 0).take (Tryz.prog.cellsOf 3))=some z0)⟩:=hf 0 _ rfl;obtain⟨z1,(h1:DataW.trod enc Tryz.prog w base spare held n 3 ((L.drop 1).take (Tryz.prog.cellsOf 3))=some z1)⟩:=hf 1 _ rfl;obtain⟨z2,(h2:DataW.trod enc Tryz.prog w base spare held n 29 ((L.drop 2).take (Tryz.prog.cellsOf 29))=some z2)⟩:=hf 2 _ rfl;rw [QeM]at h0 h1;rw [Qr8]at h2;obtain⟨a,p0,_,_⟩:=DataW.trod_int Tryz.underlying3 h0;obtain⟨b,p1,_,_⟩:=DataW.trod_int Tryz.underlying3 h1;obtain⟨p,rs,c,p2,hs,hm⟩:=Qr9 h2;exact⟨a,b,p,rs,c,hs,hm,Zd p0,Zd p1,Zd p2⟩
theorem QuP(h:DataW.trod enc Tryz.prog w base spare held fuel 33 L=some y): ∃(x:Ct) (rs:List Rw),CtO w x rs∧ ∀j,j<10→L[j]?=some (x.at j):=by
 obtain⟨n,-,hf⟩:=Yu Tryz.underlying33 h;obtain⟨z0,(h0:DataW.trod enc Tryz.prog w base spare held n 5 ((L.drop 0).take (Tryz.prog.cellsOf 5))=some z0)⟩:=hf 0 _ rfl;obtain⟨z1,(h1:DataW.trod enc Tryz.prog w base spare held n 5 ((L.drop 1).take (Tryz.prog.cellsOf 5))=some z1)⟩:=hf 1 _ rfl;obtain⟨z2,(h2:DataW.trod enc Tryz.prog w base spare held n 3 ((L.drop 2).take (Tryz.prog.cellsOf 3))=some z2)⟩:=hf 2 _ rfl;obtain⟨z3,(h3:DataW.trod enc Tryz.prog w base spare held n 3 ((L.drop 3).take (Tryz.prog.cellsOf 3))=some z3)⟩:=hf 3 _ rfl;obtain⟨z4,(h4:DataW.trod enc Tryz.prog w base spare held n 3 ((L.drop 4).take (Tryz.prog.cellsOf 3))=some z4)⟩:=hf 4 _ rfl;obtain⟨z5,(h5:DataW.trod enc Tryz.prog w base spare held n 3 ((L.drop 5).take (Tryz.prog.cellsOf 3))=some z5)⟩:=hf 5 _ rfl;obtain⟨z6,(h6:DataW.trod enc Tryz.prog w base spare held n 3 ((L.drop 6).take (Tryz.prog.cellsOf 3))=some z6)⟩:=hf 6 _ rfl;obtain⟨z7,(h7:DataW.trod enc Tryz.prog w base spare held n 31 ((L.drop 7).take (Tryz.prog.cellsOf 31))=some z7)⟩:=hf 7 _ rfl;rw [Qs8]at h0 h1;rw [QeM]at h2 h3 h4 h5 h6;rw [QxS]at h7;obtain⟨a0,p0,_,w0⟩:=DataW.trod_int Tryz.underlying5 h0;obtain⟨a1,p1,_,w1⟩:=DataW.trod_int Tryz.underlying5 h1;obtain⟨a2,p2,_,_⟩:=DataW.trod_int Tryz.underlying3 h2;obtain⟨a3,p3,_,_⟩:=DataW.trod_int Tryz.underlying3 h3;obtain⟨a4,p4,_,_⟩:=DataW.trod_int Tryz.underlying3 h4;obtain⟨a5,p5,_,_⟩:=DataW.trod_int Tryz.underlying3 h5;obtain⟨a6,p6,_,_⟩:=DataW.trod_int Tryz.underlying3 h6;obtain⟨s,t,p,rs,c,hs,hm,q0,q1,q2⟩:=QxW h7;refine⟨⟨a0,a1,a2,a3,a4,a5,a6,s,t,p,rs.length,c⟩,rs,⟨Qs9 w0,QxT w1,rfl,hs,by unfold maxLen at hm;omega⟩,fun j hj=> ?_⟩;obtain rfl|rfl|rfl|rfl|rfl|rfl|rfl|rfl|rfl|rfl:j=0∨j=1∨j=2∨j=3∨j=4∨j=5∨j=6∨j=7∨j=8∨j=9:=by omega
 ·exact Zd p0
 ·exact Zd p1
 ·exact Zd p2
 ·exact Zd p3
 ·exact Zd p4
 ·exact Zd p5
 ·exact Zd p6
 ·exact YW (o:=7) q0 Om
 ·exact YW (o:=7) q1 Om
 ·exact YW (o:=7) q2 Om
theorem Qqi{v:Value}{d:DataW H}{p:List MemPlace}(hv:Value.okWide Tryz.prog w .any b0 33 v)(h:DataW.Trod enc Tryz.prog w base spare held 33 v d p): ∃(x:Ct) (rs:List Rw),v= .agg (ctv x)∧CtO w x rs:=by
 simp only [Value.okWide,Tryz.underlying33]at hv;obtain⟨cs,rfl,hn,_⟩:=hv;rw [QuO]at hn;obtain⟨fuel,hf⟩:=h;obtain⟨x,rs,hR,hx⟩:=QuP hf;refine⟨x,rs,congrArg Value.agg (Array.ext_getElem? fun j=> ?_),hR⟩
 by_cases hj:j<10
 ·have h1:=hx j hj;have h2:cs[j]?=some (x.at j):=by simpa [Value.cells]using h1
  rw [h2];unfold ctv;rw [QV,if_pos hj]
 ·rw [Array.getElem?_eq_none Om,Array.getElem?_eq_none (by rw [QL];omega)]
end
end
end Go.Proofs.YtpeonbaodnmlnaaGreat
