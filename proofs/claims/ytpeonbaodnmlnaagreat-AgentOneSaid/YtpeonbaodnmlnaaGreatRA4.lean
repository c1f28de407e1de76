/- Lemmas of this claim, put together out of: XA, HN, XB, HO, HP, HQ, HR, TA, TB, TC, TD, TE, TF, HS, J4, TG, NA, NB, NC, ND, NE, NF, NG, NH, NI, NJ, NK, NL. -/
import Derived.Test.YtpeonbaodnmlnaaGreatRA3
import Derived.ArgAppend
import Derived.Deep.Upon
import Derived.Sort.QuietIn
import Derived.Sort.CutIn
set_option linter.unusedSimpArgs false
set_option linter.unusedVariables false
set_option maxRecDepth 100000
set_option maxHeartbeats 16000000
namespace Go.Proofs.YtpeonbaodnmlnaaGreat
open Go.RowKit
variable{a a0:Act}{after:Array Edge}{Q:Exit→Act→World→Prop}{B base i:Nat}{C:Nat→Prop}{x y:Operand}{ρ:Operand→Value}{g:Option (Nat×Bool)}{dst:Option Tmp}{pos:String}{w w0:World}
theorem JE{α:Type}{g:α→Nat}{l:List α}(h:(l.map g).Nodup){x y:α}(hx:x∈l)(hy:y∈l)(e:g x=g y):x=y:=by
 induction l with
 |nil=>cases hx
 |cons a l ih=>
  simp only [List.map_cons,List.nodup_cons,List.mem_map,not_exists,not_and]at h;rcases List.mem_cons.1 hx with rfl|hx'<;>rcases List.mem_cons.1 hy with rfl|hy'
  ·rfl
  ·exact absurd e.symm (h.1 y hy')
  ·exact absurd e (h.1 x hx')
  ·exact ih h.2 hx' hy'
section
variable {P:Program} {ops:Array Oper}
abbrev Q6:=World→Value→Prop
def JO(p:Q6):Prop:= ∀w w' v,Ext w w'→p w v→p w' v
def eqA(u:Value):Q6:=fun _ v=>v=u
theorem QQ(u:Value):JO (eqA u):=fun _ _ _ _ h=>h
def Qdh(p:Nat×Nat×Q6→Prop):List (Nat×Nat×Q6)→Prop
 | []=>True
 |x::l=>p x∧Qdh p l
theorem Qdh.mem{p:Nat×Nat×Q6→Prop}: ∀{l:List (Nat×Nat×Q6)},Qdh p l→ ∀x∈l,p x
 | [],_,x,hx=>by cases hx
 |y::l,h,x,hx=>by
  rcases List.mem_cons.1 hx with rfl|hx
  ·exact h.1
  ·exact Qdh.mem h.2 x hx
theorem Qdh.of{p:Nat×Nat×Q6→Prop}: ∀{l:List (Nat×Nat×Q6)},(∀x∈l,p x)→Qdh p l
 | [],_=>trivial
 |y::l,h=>⟨h y (List.mem_cons_self ..),Qdh.of fun x hx=>h x (List.mem_cons_of_mem _ hx)⟩
def Jn(P:Program)(ρ:Operand→Value)(o:Oper)(w:World)(p:Q6):Prop:=
 (∃v w',(execOp ρ o).run P w= .ok (.value v) w'∧Ext w w'∧p w' v)∨
 (∃f args,(execOp ρ o).run P w= .ok (.enter f args) w∧Calls P f args w fun e w'=> ∃v,e= .returned v∧Ext w w'∧p w' v)
theorem Jn.val{o:Oper}{w':World}{p:Q6}{v:Value}(h:(execOp ρ o).run P w= .ok (.value v) w')(hE:Ext w w')(hp:p w' v):Jn P ρ o w p:= .inl ⟨v,w',h,hE,hp⟩
theorem Jn.eq{o:Oper}{v:Value}(h:(execOp ρ o).run P w= .ok (.value v) w):Jn P ρ o w (eqA v):= .inl ⟨v,w,h,Ext.rf _,rfl⟩
theorem Jn.call{o:Oper}{p:Q6}{f:FuncId}{args:Array Value}(h:(execOp ρ o).run P w= .ok (.enter f args) w)(hc:Calls P f args w fun e w'=> ∃v,e= .returned v∧p w' v∧Ext w w'):Jn P ρ o w p:=
 .inr ⟨f,args,h,hc.mono fun e w' ⟨v,h1,h2,h3⟩=>⟨v,h1,h3,h2⟩⟩
structure Qke(D:List (Nat×Nat×Q6))(r:Nat)(ops:Array Oper)(a0:Act)(w0:World)(listed:Array Bool)(a:Act)(w:World):Prop where
 defers:a.defers=a0.defers
 size:a.tmps.size=a0.tmps.size
 ext:Ext w0 w
 free: ∀s,(∀x∈D,x.2.1≠s)→a.tmps.getD s undef=a0.tmps.getD s undef
 vals: ∀x∈D,listed.getD x.1 false=true→x.2.2 w (a.tmps.getD x.2.1 undef)
 late: ∀j,r≤j→j<ops.size→listed.getD j true=false
def QiL(ops:Array Oper)(r:Nat):Bool:=(List.range ops.size).all fun j=>decide (j<r)||((ops[j]?).map fun o=>(List.range r).all fun i=>o.after.any fun e=>Region.binds .any e&&e.on==i).getD true
def Qp2(ops:Array Oper):Bool:=(List.range ops.size).all fun i=>match ops[i]? with|some o=>o.after.all (fun e=>decide (e.on<i))|none=>true
structure JP(D:List (Nat×Nat×Q6))(r:Nat)(ops:Array Oper)(P:Program)(a0:Act)(w0:World):Prop where
 idx:D.map (·.1)=List.range r
 slots:(D.map (·.2.1)).Nodup
 hr:r≤ops.size
 inb: ∀x∈D,x.2.1<a0.tmps.size
 late:QiL ops r=true
 acyc:Qp2 ops=true
 stable: ∀x∈D,JO x.2.2
 does: ∀x∈D,∃o,ops[x.1]?=some o∧o.guard=none∧o.dst=some x.2.1∧ ∀(ρ:Operand→Value) (w:World),
  (∀y∈D,(o.after.any fun e=>Region.binds .any e&&e.on==y.1)=true→y.2.2 w (ρ (.tmp y.2.1)))→(∀v,ρ (.const v)=v)→(∀f,ρ (.func f)= .func (.func f) #[] #[])→(∀s,(∀x∈D,x.2.1≠s)→ρ (.tmp s)=a0.tmps.getD s undef)→Ext w0 w→Jn P ρ o w x.2.2
theorem JP.nodup{D:List (Nat×Nat×Q6)}{r:Nat}(F:JP D r ops P a0 w0){x y:Nat×Nat×Q6}(hx:x∈D)(hy:y∈D)(h:x.2.1=y.2.1):x=y:=JE (g:=fun x:Nat×Nat×Q6=>x.2.1) F.slots hx hy h
theorem JP.nodup1{D:List (Nat×Nat×Q6)}{r:Nat}(F:JP D r ops P a0 w0){x y:Nat×Nat×Q6}(hx:x∈D)(hy:y∈D)(h:x.1=y.1):x=y:=JE (g:=fun x:Nat×Nat×Q6=>x.1) (by rw [F.idx];exact List.nodup_range) hx hy h
theorem JP.at{D:List (Nat×Nat×Q6)}{r:Nat}(F:JP D r ops P a0 w0)(h:i<r): ∃x∈D,x.1=i:=by
 have:i∈D.map (·.1):=by rw [F.idx];exact List.mem_range.2 h
 obtain⟨x,hx,e⟩:=List.mem_map.1 this;exact⟨x,hx,e⟩
theorem JP.lt{D:List (Nat×Nat×Q6)}{r:Nat}(F:JP D r ops P a0 w0){x:Nat×Nat×Q6}(hx:x∈D):x.1<r:=by
 have:x.1∈D.map (·.1):=List.mem_map.2 ⟨x,hx,rfl⟩;rw [F.idx]at this;exact List.mem_range.1 this
theorem Qf4{d s:Nat}{v:Value}:(a.put (some d) v).tmps.getD s undef=if d=s∧s<a.tmps.size then v else a.tmps.getD s undef:=Ru.Qfq.getD_put
theorem Qni{D:List (Nat×Nat×Q6)}{r:Nat}(F:JP D r ops P a0 w0){listed:Array Bool}(hs:listed.size=ops.size)(h:Qke D r ops a0 w0 listed a w){x:Nat×Nat×Q6}(hx:x∈D)(hi:x.1∈Region.ready .any ops listed):
  wpOp P ops Q x.1 (Qke D r ops a0 w0 (listed.setIfInBounds x.1 true)) a w:=by
 obtain⟨o,ho,hg,hd,hrun⟩:=F.does x hx
 have hdo:=hrun a.eval w (fun y hy hany=>by
  obtain⟨e,he,hb⟩:=Array.any_eq_true'.1 hany;simp only [Bool.and_eq_true,beq_iff_eq]at hb
  exact h.vals y hy (hb.2▸(Ru.Qfq.ready_spec hi ho).2.2 e he hb.1)) (fun _=>rfl) (fun _=>rfl) h.free h.ext
 have key: ∀v w',Ext w w'→x.2.2 w' v→Qke D r ops a0 w0 (listed.setIfInBounds x.1 true) (a.put o.dst v) w':=by
  intro v w' hE hp;rw [hd];refine⟨h.defers,by simpa [Act.put]using h.size,h.ext.tr hE,fun s hf=> ?_,fun y hy hl=> ?_,fun j hj hj2=> ?_⟩
  ·rw [Qf4,if_neg (fun e=>hf x hx e.1)];exact h.free s hf
  ·rw [Qf4]
   split
   ·rename_i e
    have:=F.nodup hx hy e.1;subst this;exact hp
   ·rename_i e
    rcases Ru.Qfq.lists _ hl with he|hl
    ·have:=F.nodup1 hy hx he;subst this;exact absurd ⟨rfl,by rw [h.size];exact F.inb _ hy⟩ e
    ·exact F.stable y hy _ _ _ hE (h.vals y hy hl)
  ·have:=F.lt hx;rw [getD_set_ne true (by omega:x.1≠j)];exact h.late j hj hj2
 refine Ru.Qfq.wpOp_some ho hg ?_;unfold Oper.wp;rcases hdo with⟨v,w',h1,h2,h3⟩|⟨f,args,h1,h2⟩
 ·rw [h1,Oper.upon_value];exact key v w' h2 h3
 ·rw [h1];refine h2.mono fun e w' h=> ?_;obtain⟨v,rfl,h4,h5⟩:=h;exact key v w' h4 h5
theorem QiM{D:List (Nat×Nat×Q6)}{r:Nat}(F:JP D r ops P a0 w0){listed:Array Bool}(hs:listed.size=ops.size)(hi:i∈Region.ready .any ops listed){k:Nat}(hk:k<r)(hf:listed.getD k false=false):i<r:=by
 rcases Nat.lt_or_ge i r with h|h
 ·exact h
 ·exfalso;have hlt:i<ops.size:=by
   unfold Region.ready at hi;simp only [List.mem_filter,List.mem_range]at hi;exact hi.1
  have hl:=List.all_eq_true.1 F.late i (List.mem_range.2 hlt);rw [Array.getElem?_eq_getElem hlt,decide_eq_false Om]at hl;simp only [Option.map_some,Option.getD_some,Bool.false_or]at hl;have hany:=List.all_eq_true.1 hl k (List.mem_range.2 hk);obtain⟨e,he,hb⟩:=Array.any_eq_true'.1 hany;simp only [Bool.and_eq_true,beq_iff_eq]at hb;have:=(Ru.Qfq.ready_spec hi (Array.getElem?_eq_getElem hlt)).2.2 e he hb.1;rw [hb.2,hf]at this
  cases this
theorem QiN{D:List (Nat×Nat×Q6)}{r:Nat}(F:JP D r ops P a0 w0){listed:Array Bool}(hs:listed.size=ops.size)(h0:Region.ready .any ops listed= []): ∀i,i<r→listed.getD i false=true:=by
 intro i
 induction i using Nat.strongRecOn with
 |_ i ih=>
  intro hi
  cases hl:listed.getD i false with
  |true=>rfl
  |false=>
   exfalso;have hlt:i<ops.size:=Xl hi F.hr;have hm:i∈Region.ready .any ops listed:=by
    unfold Region.ready;simp only [List.mem_filter,List.mem_range,Bool.and_eq_true,Bool.not_eq_true'];refine⟨hlt,?_,?_⟩
    ·simpa [Array.getD,hs,hlt]using hl
    ·rw [Array.getElem?_eq_getElem hlt];simp only [Option.map_some,Option.getD_some,Array.all_eq_true_iff_forall_mem];intro e he;have ha:=List.all_eq_true.1 F.acyc i (List.mem_range.2 hlt);rw [Array.getElem?_eq_getElem hlt]at ha;simp only [Array.all_eq_true_iff_forall_mem,decide_eq_true_eq]at ha;rw [ih e.on (ha e he) (by have:=ha e he;omega)];simp
   rw [h0]at hm
   cases hm
theorem Qp3{D:List (Nat×Nat×Q6)}{r:Nat}(F:JP D r ops P a0 w0)
  (done: ∀(listed:Array Bool) (a:Act) (w:World),listed.size=ops.size→(∀i,i<r→listed.getD i false=true)→Qke D r ops a0 w0 listed a w→wpAny P .any ops Q (listed.toList.count false) listed a w):
  ∀(fuel:Nat) (listed:Array Bool) (a:Act) (w:World),listed.size=ops.size→listed.toList.count false=fuel→Qke D r ops a0 w0 listed a w→wpAny P .any ops Q fuel listed a w:=by
 intro fuel
 induction fuel with
 |zero=>
  intro listed a w hs hc hi;rw [←hc];refine done listed a w hs (fun i hir=> ?_) hi;have hlt:i<listed.size:=by rw [hs];exact Xl hir F.hr
  cases h:listed.getD i false with
  |true=>rfl
  |false=>
   exfalso;have e:listed[i]=false:=by simpa [Array.getD,hlt]using h
   have:0<listed.toList.count false:=List.count_pos_iff.2 (by rw [←e];simp);omega
 |succ fuel ih=>
  intro listed a w hs hc hi
  by_cases hall: ∀i,i<r→listed.getD i false=true
  ·rw [←hc];exact done listed a w hs hall hi
  ·obtain⟨k,hk⟩:=Classical.not_forall.1 hall;obtain⟨hkr,hkf⟩:=Classical.not_imp.1 hk;have hkf:listed.getD k false=false:=by simpa using hkf
   refine⟨fun h0=>absurd (QiN F hs h0) hall,fun i hm=> ?_⟩;have hir:=QiM F hs hm hkr hkf;obtain⟨x,hx,rfl⟩:=F.at hir;refine wpOp_mono (fun a' w' h'=> ?_) (Qni F hs hi hx hm);have hm':=hm;unfold Region.ready at hm';simp only [List.mem_filter,List.mem_range,Bool.and_eq_true,Bool.not_eq_true']at hm';have:=Ru.Qm1 (l:=listed) (i:=x.1) (by rw [hs];exact hm'.1) hm'.2.1;exact ih _ a' w' (by simpa using hs) Om h'
theorem QsJ(D:List (Nat×Nat×Q6))(val:Nat→Value): ∀(t:Array Value) (s:Nat),(D.foldl (fun t x=>t.setIfInBounds x.2.1 (val x.2.1)) t)[s]?=if s<t.size then(if ∃x∈D,x.2.1=s then some (val s)else t[s]?)else none:=by
 induction D with
 |nil=>intro t s;by_cases h:s<t.size<;>simp [h]
 |cons x D ih=>
  intro t s;rw [List.foldl_cons,ih];simp only [Array.size_setIfInBounds]
  by_cases h:s<t.size
  ·rw [if_pos h,if_pos h]
   by_cases h1: ∃y∈D,y.2.1=s
   ·rw [if_pos h1,if_pos (by obtain⟨y,hy,e⟩:=h1;exact⟨y,List.mem_cons_of_mem _ hy,e⟩)]
   ·rw [if_neg h1]
    by_cases h2:x.2.1=s
    ·rw [if_pos ⟨x,List.mem_cons_self ..,h2⟩,h2,Array.getElem?_setIfInBounds_self_of_lt h]
    ·rw [if_neg (by
      rintro⟨y,hy,e⟩;rcases List.mem_cons.1 hy with rfl|hy
      ·exact h2 e
      ·exact h1 ⟨y,hy,e⟩),Array.getElem?_setIfInBounds_ne h2]
  ·rw [if_neg h,if_neg h]
theorem Qke.act{D:List (Nat×Nat×Q6)}{r:Nat}{listed:Array Bool}(h:Qke D r ops a0 w0 listed a w):
  a={tmps:=D.foldl (fun t x=>t.setIfInBounds x.2.1 (a.tmps.getD x.2.1 undef)) a0.tmps,defers:=a0.defers}:=by
 have hd:=h.defers;have hf:=h.free;have hz:=h.size;clear h;obtain⟨tmps,defers⟩:=a;dsimp only at hd hf hz⊢;subst hd
 congr 1
 refine Array.ext_getElem? fun s=> ?_;have:=QsJ D (fun s=>tmps.getD s undef) a0.tmps s;rw [this]
 by_cases hs:s<a0.tmps.size
 ·rw [if_pos hs];have e:tmps[s]?=some (tmps.getD s undef):=by rw [Array.getElem?_eq_getElem Om];simp [Array.getD,show s<tmps.size by omega]
  split
  ·exact e
  ·rename_i hn
   rw [e,hf s (fun x hx he=>hn ⟨x,hx,he⟩)];simp [Array.getD,hs]
 ·rw [if_neg hs,Array.getElem?_eq_none Om]
structure QvH(D:List (Nat×Nat×Q6))(r N:Nat)(ops:Array Oper)(P:Program)(a0:Act)(w0:World):Prop where
 idx:D.map (·.1)=List.range r
 slots:(D.map (·.2.1)).Nodup
 hN:ops.size=N
 hr:r≤N
 inb:(D.map (·.2.1)).all (fun s=>decide (s<a0.tmps.size))=true
 late:QiL ops r=true
 acyc:Qp2 ops=true
 stable:Qdh (fun x=>JO x.2.2) D
 does:Qdh (fun x=> ∃o,ops[x.1]?=some o∧o.guard=none∧o.dst=some x.2.1∧ ∀(ρ:Operand→Value) (w:World),
  (∀y∈D,(o.after.any fun e=>Region.binds .any e&&e.on==y.1)=true→y.2.2 w (ρ (.tmp y.2.1)))→(∀v,ρ (.const v)=v)→(∀f,ρ (.func f)= .func (.func f) #[] #[])→(∀s,(D.map (·.2.1)).contains s=false→ρ (.tmp s)=a0.tmps.getD s undef)→Ext w0 w→Jn P ρ o w x.2.2) D
theorem QvH.fits{D:List (Nat×Nat×Q6)}{r N:Nat}(h:QvH D r N ops P a0 w0):JP D r ops P a0 w0 where
 idx:=h.idx
 slots:=h.slots
 hr:=by rw [h.hN];exact h.hr
 inb:=fun x hx=>by simpa using List.all_eq_true.1 h.inb x.2.1 (List.mem_map.2 ⟨x,hx,rfl⟩)
 late:=h.late
 acyc:=h.acyc
 stable:=h.stable.mem
 does:=fun x hx=>by
  obtain⟨o,h1,h2,h3,h4⟩:=h.does.mem x hx;refine⟨o,h1,h2,h3,fun ρ w a b c d e=>h4 ρ w a b c (fun s hs=>d s fun x hx he=> ?_) e⟩;have:(D.map (·.2.1)).contains s=true:=List.contains_iff_mem.2 (List.mem_map.2 ⟨x,hx,he⟩);rw [hs]at this;cases this
theorem Qhe{id:Nat}(D:List (Nat×Nat×Q6))(r:Nat)(hm:P.follows .mixedOrders=true)(F:JP D r ops P a0 w0.drew)
  (H: ∀(val:Nat→Value) (w:World),Ext w0 w→(∀x∈D,x.2.2 w (val x.2.1))→wpAny P .any ops Q (ops.size- r) (msk ops.size (2^r- 1)) {tmps:=D.foldl (fun t x=>t.setIfInBounds x.2.1 (val x.2.1)) a0.tmps,defers:=a0.defers} w):
  (Code.region id ops true).wp P Q a0 w0:=by
 have h0: ∀j,(Array.replicate ops.size false).getD j false=false:=by
  intro j;simp only [Array.getD_eq_getD_getElem?,Array.getElem?_replicate]
  split<;>rfl
 refine wp_region_any hm (Qp3 F ?_ _ _ _ _ (by simp) (by simp) ⟨rfl,rfl,Ext.rf _,fun _ _=>rfl,fun x _ hl=> ?_,fun j h1 h2=> ?_⟩)
 ·intro listed a w hs hall h;have e:listed=msk ops.size (2^r- 1):=by
   refine Array.ext_getElem? fun i=> ?_;unfold msk
   by_cases hi:i<ops.size
   ·have hl:i<listed.size:=by omega
    rw [Array.getElem?_eq_getElem hl];simp only [List.getElem?_toArray,List.getElem?_map,List.getElem?_range hi,Option.map_some,Nat.testBit_two_pow_sub_one]
    by_cases hr:i<r
    ·have:=hall i hr;rw [decide_eq_true hr];simpa [Array.getD,hl]using this
    ·have:=h.late i Om hi;rw [decide_eq_false hr];simpa [Array.getD,hl]using this
   ·rw [Array.getElem?_eq_none Om];simp [Array.getElem?_eq_none,hi]
  have ec:listed.toList.count false=ops.size- r:=by
   rw [e];unfold msk;show List.count false ((List.range ops.size).map fun j=>(2^r- 1).testBit j)=_;simp only [Nat.testBit_two_pow_sub_one];have:=F.hr;obtain⟨k,hk⟩: ∃k,ops.size=r+k:=⟨ops.size- r,Om⟩;rw [hk,List.range_add,List.map_append,List.count_append,show r+k- r=k by omega];have h1:List.count false ((List.range r).map fun j=>decide (j<r))=0:=by
    rw [List.count_eq_zero];intro hmem;obtain⟨j,hj,hjf⟩:=List.mem_map.1 hmem;simp at hj hjf;omega
   have h2:List.count false (((List.range k).map fun x=>r+x).map fun j=>decide (j<r))=k:=by
    rw [List.map_map];have:((fun j=>decide (j<r))∘ fun x=>r+x)=fun _=>false:=by funext x;simp
    rw [this,List.map_const',List.count_replicate_self,List.length_range]
   omega
  rw [ec];rw [h.act];rw [e];exact H (fun s=>a.tmps.getD s undef) w ((Ext.dr (Ext.rf w0)).tr h.ext) (fun x hx=>h.vals x hx (hall x.1 (F.lt hx)))
 ·rw [h0]at hl;cases hl
 ·simp [Array.getD,h2]
theorem Qa7{id:Nat}(D:List (Nat×Nat×Q6))(r N F M:Nat)(hF:N- r=F)(hM:2^r- 1=M)(hm:P.follows .mixedOrders=true)(Fit:QvH D r N ops P a0 w0.drew)
  (H: ∀(val:Nat→Value) (w:World),Ext w0 w→Qdh (fun x=>x.2.2 w (val x.2.1)) D→wpAny P .any ops Q F (msk N M) {tmps:=D.foldl (fun t x=>t.setIfInBounds x.2.1 (val x.2.1)) a0.tmps,defers:=a0.defers} w):
  (Code.region id ops true).wp P Q a0 w0:=
 Qhe D r hm Fit.fits fun val w hE h=>by rw [Fit.hN,hF,hM];exact H val w hE (Qdh.of h)
theorem QiO{fuel:Nat}{listed:Array Bool}(h:QN C P .any ops (fun a w=>Q .normal a w) fuel listed a w):wpAny P .any ops Q fuel listed a w:=QbZ (fun _ _ h=>h) _ _ _ _ h
end
structure Pt where
 q:Option Addr
 by_:Int
 add:Int
 lo:Int
 hi:Int
abbrev Pt.v(x:Pt):Value:= .agg #[.pointer x.q,.int .i64 x.by_,.int .i64 x.add,.int .i64 x.lo,.int .i64 x.hi]
def ZM(w:World)(p:Option Addr)(xs:List Pt):Prop:= ∀k,(h:k<xs.length)→ ∃b off,p=some ⟨b,off,none⟩∧b<w.heap.size∧w.cell? ⟨b,off+k*5,none⟩=some (.pointer xs[k].q)∧w.cell? ⟨b,off+k*5+1,none⟩=some (.int .i64 xs[k].by_)∧w.cell? ⟨b,off+k*5+2,none⟩=some (.int .i64 xs[k].add)∧w.cell? ⟨b,off+k*5+3,none⟩=some (.int .i64 xs[k].lo)∧w.cell? ⟨b,off+k*5+4,none⟩=some (.int .i64 xs[k].hi)
theorem ZM.ext{w':World}{p:Option Addr}{xs:List Pt}(h:ZM w p xs)(e:Ext w w'):ZM w' p xs:=fun k hk=>by
 obtain⟨b,off,hp,hb,c0,c1,c2,c3,c4⟩:=h k hk;exact⟨b,off,hp,Xl hb e.size,(e.cell (p:=⟨b,off+k*5,none⟩) hb).trans c0,(e.cell (p:=⟨b,off+k*5+1,none⟩) hb).trans c1,(e.cell (p:=⟨b,off+k*5+2,none⟩) hb).trans c2,(e.cell (p:=⟨b,off+k*5+3,none⟩) hb).trans c3,(e.cell (p:=⟨b,off+k*5+4,none⟩) hb).trans c4⟩
theorem ZM.nil(w:World)(p:Option Addr):ZM w p []:=fun k hk=>by simp at hk
def Pt.cl(x:Pt):List Value:= [.pointer x.q,.int .i64 x.by_,.int .i64 x.add,.int .i64 x.lo,.int .i64 x.hi]
def QbE(xs:List Pt):List Value:=xs.flatMap Pt.cl
theorem Qa8: ∀xs:List Pt,(QbE xs).length=xs.length*5
 | []=>rfl
 |x::xs=>by
  show(Pt.cl x++QbE xs).length=_;rw [List.length_append,Qa8 xs,List.length_cons];show 5+_=_;omega
theorem QcF: ∀(xs:List Pt) (k j:Nat) (hk:k<xs.length),j<5→(QbE xs)[k*5+j]?=(xs[k]).cl[j]?
 |x::xs,0,j,_,hj=>by
  show(Pt.cl x++QbE xs)[0*5+j]?=_;rw [Nat.zero_mul,Nat.zero_add,List.getElem?_append_left (by show j<5;exact hj)];rfl
 |x::xs,k+1,j,hk,hj=>by
  show(Pt.cl x++QbE xs)[(k+1)*5+j]?=_;have hc:(Pt.cl x).length=5:=rfl;rw [List.getElem?_append_right Om,hc,show(k+1)*5+j- 5=k*5+j by omega];exact QcF xs k j (by simpa using hk) hj
theorem QsK:(Tryz.prog.info? 231).map (fun i=>(i.zero,i.size,i.bytes))=some (some (.agg #[.pointer none,.int .i64 0,.int .i64 0,.int .i64 0,.int .i64 0]),5,40):=Kr
theorem ZM.own{v:Value}{xs:List Pt}(h:w.ownsRow base 231 5 v xs.length (QbE xs)): ∃p c,v= .slice p xs.length c∧xs.length≤c∧ZM w p xs:=by
 rcases h.2 with⟨rfl,h0⟩|⟨g,cap,cur,rfl,hg,hgb,h1,h2,h3,h4⟩
 ·have:xs= []:=List.length_eq_zero_iff.1 h0;subst this;exact⟨none,0,rfl,Nat.le_refl _,ZM.nil _ _⟩
 ·refine⟨some ⟨g,0,none⟩,cap,rfl,h1,fun k hk=> ?_⟩;have key: ∀j,j<5→w.cell? ⟨g,0+k*5+j,none⟩=(xs[k]).cl[j]?:=fun j hj=>by
   rw [←QcF xs k j hk hj,←h4,List.getElem?_take_of_lt (by have:=Qa8 xs;omega)];simp only [World.cell?,hgb];simp
  exact⟨g,0,rfl,(Array.getElem?_eq_some_iff.1 hgb).1,key 0 Om,key 1 Om,key 2 Om,key 3 Om,key 4 Om⟩
def Qp4(lo:Nat)(xs:List Pt):Q6:=fun w v=> ∃q d,v= .slice q xs.length d∧ZM w q xs∧ ∀b off,q=some ⟨b,off,none⟩→lo≤b
theorem QdM(lo:Nat)(xs:List Pt):JO (Qp4 lo xs):=fun w w' v hE ⟨q,d,h1,h2,h3⟩=>⟨q,d,h1,h2.ext hE,h3⟩
theorem Ql1{a:Option Addr}{m c:Nat}(h0:w.cell? ⟨B,i,none⟩=some (.slice a m c))(hl:Lt B w)(hC: ¬C B){q:Operand}{ty:TypeId}
  (hx:ρ q= .pointer (some ⟨B,i,none⟩)): ∀w',Mv C w w'→(execOp ρ ⟨dst,.load 261 q,ty,pos,after,g⟩).run Tryz.prog w'= .ok (.value (.slice a m c)) w':=by
 intro w' hE;have h1:w'.cell? ⟨B,i,none⟩=some (.slice a m c):=by rw [Qa,Qf (hE.same B hl hC),←Qa];exact h0
 simp only [execOp,hx];go_simp
theorem Qnj{m:Nat}{z:Operand}{ty:TypeId}
  (hx:ρ x= .slice (some ⟨m,0,none⟩) 3 3)(hy:ρ y= .int .i64 3)(hz:ρ z= .int .i64 3)(w:World):(execOp ρ ⟨dst,.slice 261 x none (some y) (some z),ty,pos,after,g⟩).run Tryz.prog w= .ok (.value (.slice (some ⟨m,0,none⟩) 3 3)) w:=by
 simp only [execOp,hx,hy,hz];go_simp
theorem Qa9{s:Operand}{t ty:TypeId}{w':World}{v v1 v2:Value}(hs:ρ s=v1)(hx:ρ x=v2)
  (h:(Builtin.append_ #[t,t] ty #[v1,v2]).run Tryz.prog w= .ok v w'):(execOp ρ ⟨dst,.call {callee:= .builtin .append,args:=#[s,x],argTypes:=#[t,t]},ty,pos,after,g⟩).run Tryz.prog w= .ok (.value v) w':=by
 unfold execOp;simp only [resolve,invoke,builtin,Sem.run_bind,Sem.run_pure,Result.andThen_ok,List.map_toArray,List.map_cons,List.map_nil,hs,hx,h]
theorem ZM.news{W:World}{a:Addr}{xs:List Pt}(hs:ZM w (some a) xs)(e:Ext w W): ∀j u,(QbE xs)[j]?=some u→W.cell? (a.add j)=some u:=by
 intro j u hu;have hj:j<xs.length*5:=by have:=(List.getElem?_eq_some_iff.1 hu).1;rwa [Qa8]at this
 have hk:j/5<xs.length:=by omega
 obtain⟨b,off,h,hb,c0,c1,c2,c3,c4⟩:=(hs.ext e) (j/5) hk
 cases h
 have e:(⟨b,off,none⟩:Addr).add j=⟨b,off+j,none⟩:=by unfold Addr.add;split<;>simp_all
 have hg:=QcF xs (j/5) (j % 5) hk (Nat.mod_lt _ Om);rw [show j/5*5+j % 5=j by omega]at hg;rw [e,←hu,hg];have hm:j % 5<5:=Nat.mod_lt _ Om;generalize hq:j/5=q at*;generalize hr:j % 5=r at*;have hjq:j=q*5+r:=by omega
 subst hjq;obtain rfl|rfl|rfl|rfl|rfl:r=0∨r=1∨r=2∨r=3∨r=4:=by omega
 ·exact c0
 ·exact c1
 ·exact c2
 ·exact c3
 ·exact c4
theorem ZM.nil_of{xs:List Pt}(hs:ZM w none xs):xs= []:=by
 cases xs with
 |nil=>rfl
 |cons m r=>obtain⟨b,off,h,_⟩:=hs 0 (by simp);cases h
theorem Qyt{W:World}{m cp lo:Nat}(hlm:lo≤m)(hlw:lo≤W.heap.size){pp:Option Addr}{ms xs:List Pt}(hm:ZM w (some ⟨m,0,none⟩) ms)(hp:ZM w pp xs)(h3:ms.length=3)(hx:xs.length=0∨xs.length=1)(hE:Ext w W){s:Operand}
  (h1:ρ s= .slice (some ⟨m,0,none⟩) 3 3)(h2:ρ x= .slice pp xs.length cp):Jn Tryz.prog ρ ⟨dst,.call {callee:= .builtin .append,args:=#[s,x],argTypes:=#[261,261]},261,pos,after,g⟩ W (Qp4 lo (ms++xs)):=by
 obtain⟨i0,hi,hz0,hz1,hz2⟩:=info_parts QsK;rcases hx with hx|hx
 ·have h0:xs= []:=List.length_eq_zero_iff.1 hx;subst h0;refine .val (v:= .slice (some ⟨m,0,none⟩) 3 3) (Qa9 h1 h2 ?_) (Ext.rf _) ⟨_,_,by rw [List.append_nil,h3],by rw [List.append_nil];exact hm.ext hE,fun b off e=>by cases e;exact hlm⟩
  cases pp<;>simp [Builtin.append_,run_underlying Tryz.underlying261,sizeOf,typeInfo,hi,Builtin.firstCells,loadCells,loadCellsFrom,storeCells,Builtin.lenOf]
 ·cases pp with
  |none=>have:=hp.nil_of;subst this;simp at hx
  |some a=>
   obtain⟨v',w',hr,ho,hg⟩:=run_append_arg_grows (P:=Tryz.prog) W 261 261 231 i0 (.agg #[.pointer none,.int .i64 0,.int .i64 0,.int .i64 0,.int .i64 0]) 5 40 Tryz.underlying261 hi hz0 hz1 hz2 rfl Dc ⟨m,0,none⟩ 3 3 (QbE ms) (by rw [Qa8,h3]) (hm.news hE) a xs.length cp (QbE xs) (by rw [Qa8]) (hp.news hE) Om (by unfold maxLen;omega) Om;have hfl:QbE ms++QbE xs=QbE (ms++xs):=by unfold QbE;simp
   rw [hfl,←h3,←List.length_append]at ho;obtain⟨q,d,rfl,-,s⟩:=ZM.own ho;have hgE:Ext W w':=Mv.ext (C:=fun _=>False) (Mv.of_grown hg fun r e=>by cases e) (fun _ _ h=>h);exact .val (Qa9 h1 h2 hr) hgE ⟨q,d,rfl,s,fun b off e=>Xt hlw (Qi ho b (by rw [e];rfl))⟩
def CloPt(lo:Nat)(ms xs:List Pt):Q6:=fun w v=> ∃Bm Bp m pp cp,lo≤m∧v= .func (.func 243) #[] #[.pointer (some ⟨Bm,0,none⟩),.pointer (some ⟨Bp,0,none⟩)]∧w.cell? ⟨Bm,0,none⟩=some (.slice (some ⟨m,0,none⟩) 3 3)∧Lt Bm w∧ZM w (some ⟨m,0,none⟩) ms∧w.cell? ⟨Bp,0,none⟩=some (.slice pp xs.length cp)∧Lt Bp w∧ZM w pp xs
theorem Qax(lo:Nat)(ms xs:List Pt):JO (CloPt lo ms xs):=by
 rintro w w' v hE ⟨Bm,Bp,m,pp,cp,h0,h1,h2,h3,h4,h5,h6,h7⟩;exact⟨Bm,Bp,m,pp,cp,h0,h1,(hE.cell (p:=⟨Bm,0,none⟩) h3).trans h2,Xl h3 hE.size,h4.ext hE,(hE.cell (p:=⟨Bp,0,none⟩) h6).trans h5,Xl h6 hE.size,h7.ext hE⟩
theorem Qbu(lo Bm m:Nat)(hlm:lo≤m)(pp:Option Addr)(cp:Nat)(ms xs:List Pt)(w:World)(cm:w.cell? ⟨Bm,0,none⟩=some (.slice (some ⟨m,0,none⟩) 3 3))(lm:Lt Bm w)(sm:ZM w (some ⟨m,0,none⟩) ms)(sp:ZM w pp xs):
  Calls Tryz.prog 242 #[.slice pp xs.length cp,.pointer (some ⟨Bm,0,none⟩)] w fun e w'=> ∃v,e= .returned v∧CloPt lo ms xs w' v∧Ext w w':=by
 have SM:=Xh sm;have SPP:=Xh sp;clear sm sp
 go_enter Tryz.func242,Tryz.ntmps242
 go_wp2;go_ret;have g:Ext w (w.alloc (.cells #[.slice pp xs.length cp] 261)):=Ext.al (Ext.rf _) _;exact⟨_,rfl,⟨Bm,w.heap.size,m,pp,cp,hlm,rfl,(g.cell (p:=⟨Bm,0,none⟩) lm).trans cm,Xl lm g.size,SM.out.ext g,by simp [go_sem],by simp [go_sem,Lt],SPP.out.ext g⟩,g⟩
theorem QsL(lo:Nat)(ms xs:List Pt)(Bm Bp m:Nat)(hlm:lo≤m)(pp:Option Addr)(cp:Nat)(w:World)(hlw:lo≤w.heap.size)(h3:ms.length=3)(hx:xs.length=0∨xs.length=1)(cm:w.cell? ⟨Bm,0,none⟩=some (.slice (some ⟨m,0,none⟩) 3 3))(lm:Lt Bm w)(sm:ZM w (some ⟨m,0,none⟩) ms)(cp':w.cell? ⟨Bp,0,none⟩=some (.slice pp xs.length cp))(lp:Lt Bp w)(sp:ZM w pp xs):
  Calls Tryz.prog 243 #[.pointer (some ⟨Bm,0,none⟩),.pointer (some ⟨Bp,0,none⟩)] w fun e w'=> ∃q d,e= .returned (.slice q (ms++xs).length d)∧ZM w' q (ms++xs)∧(∀b off,q=some ⟨b,off,none⟩→lo≤b)∧Ext w w':=by
 have HM:=Xh sm;have HX:=Xh sp;clear sm sp
 go_enter Tryz.func243,Tryz.ntmps243
 go_upto_region 1 with(fail)
 have cm:w.drew.cell? ⟨Bm,0,none⟩=some (.slice (some ⟨m,0,none⟩) 3 3):=cm;have cp':w.drew.cell? ⟨Bp,0,none⟩=some (.slice pp xs.length cp):=cp';have lm:Lt Bm w.drew:=lm;have lp:Lt Bp w.drew:=lp;have HM:Hid (ZM w.drew (some ⟨m,0,none⟩) ms):=Xh (HM.out.ext (Ext.dr (Ext.rf _)));have HX:Hid (ZM w.drew pp xs):=Xh (HX.out.ext (Ext.dr (Ext.rf _)));refine Qa7 [(0,3,eqA (.slice (some ⟨m,0,none⟩) 3 3)),(1,4,eqA (.slice (some ⟨m,0,none⟩) 3 3)),(2,5,eqA (.slice pp xs.length cp)),(3,6,Qp4 lo (ms++xs)),(4,2,Qp4 lo (ms++xs))] 5 5 0 31 rfl Dc Kr ⟨rfl,(by show List.Nodup [3,4,5,6,2];decide),rfl,Om,rfl,Kr,Kr,?stab1,?does1⟩ ?after1
 case' stab1=>exact⟨QQ _,QQ _,QQ _,(QdM _ _),(QdM _ _),trivial⟩
 case' does1=>
  refine⟨?d1_0,?d1_1,?d1_2,?d1_3,?d1_4,trivial⟩
  case' d1_0=>
   refine⟨_,rfl,rfl,rfl,fun ρ w hd hc hfn hf E=> ?_⟩;simp only [List.getElem_toArray,List.getElem_cons_zero,List.getElem_cons_succ]at hd⊢;have h0:ρ (.tmp 0)= .pointer (some ⟨Bm,0,none⟩):=(hf 0 rfl).trans rfl;exact .eq (Ql1 (C:=fun _=>False) cm lm (fun h=>h) h0 _ (Mv.of_ext E))
  case' d1_1=>
   refine⟨_,rfl,rfl,rfl,fun ρ w hd hc hfn hf E=> ?_⟩;simp only [List.getElem_toArray,List.getElem_cons_zero,List.getElem_cons_succ]at hd⊢;have h0:=hd (0,3,eqA (.slice (some ⟨m,0,none⟩) 3 3)) (List.mem_of_getElem? (i:=0) rfl) Kr
   replace h0:ρ (.tmp 3)= .slice (some ⟨m,0,none⟩) 3 3:=h0
   exact .eq (Qnj h0 (hc _) (hc _) _)
  case' d1_2=>
   refine⟨_,rfl,rfl,rfl,fun ρ w hd hc hfn hf E=> ?_⟩;simp only [List.getElem_toArray,List.getElem_cons_zero,List.getElem_cons_succ]at hd⊢;have h0:ρ (.tmp 1)= .pointer (some ⟨Bp,0,none⟩):=(hf 1 rfl).trans rfl;exact .eq (Ql1 (C:=fun _=>False) cp' lp (fun h=>h) h0 _ (Mv.of_ext E))
  case' d1_3=>
   refine⟨_,rfl,rfl,rfl,fun ρ w hd hc hfn hf E=> ?_⟩;simp only [List.getElem_toArray,List.getElem_cons_zero,List.getElem_cons_succ]at hd⊢;have h0:=hd (1,4,eqA (.slice (some ⟨m,0,none⟩) 3 3)) (List.mem_of_getElem? (i:=1) rfl) Kr
   replace h0:ρ (.tmp 4)= .slice (some ⟨m,0,none⟩) 3 3:=h0
   have h1:=hd (2,5,eqA (.slice pp xs.length cp)) (List.mem_of_getElem? (i:=2) rfl) Kr
   replace h1:ρ (.tmp 5)= .slice pp xs.length cp:=h1
   exact Qyt hlm (Xt hlw E.size) HM.out HX.out h3 hx E h0 h1
  case' d1_4=>
   refine⟨_,rfl,rfl,rfl,fun ρ w hd hc hfn hf E=> ?_⟩;simp only [List.getElem_toArray,List.getElem_cons_zero,List.getElem_cons_succ]at hd⊢;have h0:=hd (3,6,Qp4 lo (ms++xs)) (List.mem_of_getElem? (i:=3) rfl) Kr;exact .val (v:=ρ (.tmp 6)) rfl (Ext.rf _) h0
 intro val WN EN hall;obtain⟨hv3,hv4,hv5,hv6,hv2,-⟩:=hall
 replace hv3:val 3= .slice (some ⟨m,0,none⟩) 3 3:=hv3
 replace hv4:val 4= .slice (some ⟨m,0,none⟩) 3 3:=hv4
 replace hv5:val 5= .slice pp xs.length cp:=hv5
 obtain⟨q6,d6,hv6,s6,n6⟩:=hv6;obtain⟨q2,d2,hv2,s2,n2⟩:=hv2;simp only [List.foldl_cons,List.foldl_nil,hv3,hv4,hv5,hv6,hv2];clear hv3 hv4 hv5 hv6 hv2;refine⟨Kr,?_⟩;have HS2:=Xh s2;clear s2 s6;go_simp;go_wp2;go_ret;exact⟨q2,d2,by rw [List.length_append,h3];rfl,HS2.out,n2,EN⟩
section
variable {P:Program} {ops:Array Oper}
def Qbv(p:Q6):Prop:= ∀w w' v,Ru.Qat w w'→p w v→p w' v
theorem QX(u:Value):Qbv (eqA u):=fun _ _ _ _ h=>h
theorem Jr:Qbv (fun _ _=>True):=fun _ _ _ _ h=>h
theorem Jn.wp{o:Oper}{p:Q6}{K:Act→World→Prop}(h:Jn P a.eval o w p)(k: ∀v w',Ext w w'→p w' v→K (a.put o.dst v) w'):o.wp P a w K Q:=by
 unfold Oper.wp;rcases h with⟨v,w',h1,h2,h3⟩|⟨f,args,h1,h2⟩
 ·rw [h1,Oper.upon_value];exact k v w' h2 h3
 ·rw [h1];refine h2.mono fun e w' h=> ?_;obtain⟨v,rfl,h4,h5⟩:=h;exact k v w' h4 h5
def QsM:Value→Int| .int _ n=>n|_=>0
theorem Qp5{α:Type}{g:α→Int}{l:List α}(h:(l.map g).Nodup){x y:α}(hx:x∈l)(hy:y∈l)(e:g x=g y):x=y:=by
 induction l with
 |nil=>cases hx
 |cons a l ih=>
  simp only [List.map_cons,List.nodup_cons,List.mem_map,not_exists,not_and]at h;rcases List.mem_cons.1 hx with rfl|hx'<;>rcases List.mem_cons.1 hy with rfl|hy'
  ·rfl
  ·exact absurd e.symm (h.1 y hy')
  ·exact absurd e (h.1 x hx')
  ·exact ih h.2 hx' hy'
theorem Je{l m:List Nat}(h:(l++m).Nodup):l.Nodup∧m.Nodup∧ ∀x∈l,x ∉ m:=by
 rw [List.nodup_append]at h;exact⟨h.1,h.2.1,fun x hx hm=>h.2.2 x hx x hm rfl⟩
open Ru in
structure QvI(L:QcE P)(N:Nat)(ops:Array Oper)(a0:Act)(w0:World):Prop where
 law:Qfp P L.kt L.K
 ty:P.underlying L.t=some (.map L.kt L.et)
 hN:ops.size=N
 cover:((List.range N).all fun i=>i==L.im||((L.D.map (·.1)).contains i||((L.C.map (·.1)).contains i||(L.I.map (·.1)).contains i)))=true
 acyc:Qp2 ops=true
 idx:(L.D.map (·.1)++(L.C.map (·.1)++(L.I.map (·.1)++ [L.im]))).Nodup
 slots:(L.D.map (·.2.1)++(L.C.map (·.2.1)++ [L.dm])).Nodup
 keys:(L.I.map fun x=>QsM x.2.1).Nodup
 inb:((L.D.map (·.2.1)++(L.C.map (·.2.1)++ [L.dm])).all fun s=>decide (s<a0.tmps.size))=true
 stD:Qdh (fun x=>Qbv x.2.2) L.D
 stI: ∀x∈L.I,Qbv x.2.2
 hmk: ∃o,ops[L.im]?=some o∧o.dst=some L.dm∧o.guard=none∧o.op= .makeMap L.t none
 does:Qdh (fun x=> ∃o,ops[x.1]?=some o∧o.guard=none∧o.dst=some x.2.1∧ ∀(ρ:Operand→Value) (w:World),
  (∀y∈L.D,(o.after.any fun e=>Region.binds .any e&&e.on==y.1)=true→y.2.2 w (ρ (.tmp y.2.1)))→(∀v,ρ (.const v)=v)→(∀f,ρ (.func f)= .func (.func f) #[] #[])→(∀s,(L.D.map (·.2.1)++(L.C.map (·.2.1)++ [L.dm])).contains s=false→ρ (.tmp s)=a0.tmps.getD s undef)→Ext w0 w→Qat w0 w→Jn P ρ o w x.2.2) L.D
 hC: ∀x∈L.C,∃o,ops[x.1]?=some o∧o.dst=some x.2.1∧o.guard=none∧(o.op= .move (.tmp x.2.2)∨o.op= .assign (.tmp x.2.2))∧
  ((x.2.2=L.dm∧(o.after.any fun e=>Region.binds .any e&&e.on==L.im)=true)∨ ∃y∈L.C,y.2.1=x.2.2∧(o.after.any fun e=>Region.binds .any e&&e.on==y.1)=true)
 hI: ∀x∈L.I,∃o k s,ops[x.1]?=some o∧o.dst=none∧o.guard=none∧o.op= .insert L.t (.tmp L.dm) k (.tmp s)∧L.K x.2.1∧(o.after.any fun e=>Region.binds .any e&&e.on==L.im)=true∧k= .const x.2.1∧
  ∃y∈L.D,y.2.1=s∧y.2.2=x.2.2∧(o.after.any fun e=>Region.binds .any e&&e.on==y.1)=true
theorem Qba{o:Oper}{n:Nat}(h:(o.after.any fun e=>Region.binds .any e&&e.on==n)=true): ∃e∈o.after,e.on=n∧Region.binds .any e=true:=by
 obtain⟨e,he,hb⟩:=Array.any_eq_true'.1 h;simp only [Bool.and_eq_true,beq_iff_eq]at hb;exact⟨e,he,hb.2,hb.1⟩
open Ru in
theorem QvI.fits{L:QcE P}{N:Nat}(F:QvI L N ops a0 w0)(hkey: ∀x∈L.I,∀y∈L.I,x.2.1=y.2.1→QsM x.2.1=QsM y.2.1:=by intro x _ y _ h;rw [h]):L.Fits ops Q a0 w0:=by
 obtain⟨i1,i2,i3⟩:=Je F.idx;obtain⟨i4,i5,i6⟩:=Je i2;obtain⟨i7,i8,i9⟩:=Je i5;obtain⟨s1,s2,s3⟩:=Je F.slots;obtain⟨s4,s5,s6⟩:=Je s2;have hin: ∀s∈(L.D.map (·.2.1)++(L.C.map (·.2.1)++ [L.dm])),s<a0.tmps.size:=fun s hs=>by simpa using List.all_eq_true.1 F.inb s hs
 have mD: ∀{x},x∈L.D→x.1∈L.D.map (·.1):=fun{x} h=>List.mem_map.2 ⟨x,h,rfl⟩;have mC: ∀{x},x∈L.C→x.1∈L.C.map (·.1):=fun{x} h=>List.mem_map.2 ⟨x,h,rfl⟩;have mI: ∀{x},x∈L.I→x.1∈L.I.map (·.1):=fun{x} h=>List.mem_map.2 ⟨x,h,rfl⟩;have nD: ∀{x},x∈L.D→x.2.1∈L.D.map (·.2.1):=fun{x} h=>List.mem_map.2 ⟨x,h,rfl⟩;have nC: ∀{x},x∈L.C→x.2.1∈L.C.map (·.2.1):=fun{x} h=>List.mem_map.2 ⟨x,h,rfl⟩;refine⟨F.law,F.ty,fun i hi=> ?_,fun i o ho e he=> ?_,⟨fun x hx=>⟨hin _ (List.mem_append_left _ (nD hx)),fun e=>s3 _ (nD hx) (by rw [e];simp),fun y hy e=>s3 _ (nD hx) (by rw [←e];exact List.mem_append_left _ (nC hy))⟩,fun x hx=>⟨hin _ (List.mem_append_right _ (List.mem_append_left _ (nC hx))),fun e=>s6 _ (nC hx) (by rw [e];simp)⟩,hin _ (by simp)⟩,fun x hx y hy e=> ?_,fun x hx y hy e=> ?_,fun x hx y hy e=> ?_,fun x hx y hy e=>JE (g:=fun x:Nat×Value×J7=>x.1) i7 hx hy e,⟨fun x hx=>⟨fun e=>i3 _ (mD hx) (by rw [e];simp),fun y hy e=>i3 _ (mD hx) (by rw [←e];exact List.mem_append_left _ (mC hy)),fun y hy e=>i3 _ (mD hx) (by rw [←e];exact List.mem_append_right _ (List.mem_append_left _ (mI hy)))⟩,fun x hx=>⟨fun e=>i6 _ (mC hx) (by rw [e];simp),fun y hy e=>i6 _ (mC hx) (by rw [←e];exact List.mem_append_left _ (mI hy))⟩,fun x hx e=>i9 _ (mI hx) (by rw [e];simp)⟩,fun x hx y hy e=>JE (g:=fun x:Nat×Nat×J7=>x.1) i1 hx hy e,fun x hx y hy e=>JE (g:=fun x:Nat×Nat×Nat=>x.1) i4 hx hy e,⟨fun x hx=>F.stD.mem x hx,F.stI⟩,F.hmk,fun x hx=> ?_,fun x hx=> ?_,fun x hx=> ?_⟩
 ·have:=List.all_eq_true.1 F.cover i (List.mem_range.2 (by rw [←F.hN];exact hi));simp only [Bool.or_eq_true,beq_iff_eq,List.contains_iff_mem,List.mem_map]at this;rcases this with h|⟨x,hx,e⟩|⟨x,hx,e⟩|⟨x,hx,e⟩
  ·exact .inl h
  ·exact .inr (.inl ⟨x,hx,e⟩)
  ·exact .inr (.inr (.inl ⟨x,hx,e⟩))
  ·exact .inr (.inr (.inr ⟨x,hx,e⟩))
 ·have hi:i<ops.size:=(Array.getElem?_eq_some_iff.1 ho).1;have:=List.all_eq_true.1 F.acyc i (List.mem_range.2 hi);rw [ho]at this;simp only [Array.all_eq_true_iff_forall_mem,decide_eq_true_eq]at this;exact this e he
 ·rw [JE (g:=fun x:Nat×Nat×J7=>x.2.1) s1 hx hy e];exact⟨rfl,rfl⟩
 ·rw [JE (g:=fun x:Nat×Nat×Nat=>x.2.1) s4 hx hy e]
 ·rw [Qp5 (g:=fun x:Nat×Value×J7=>QsM x.2.1) F.keys hx hy (hkey x hx y hy e)]
 ·obtain⟨o,h1,h2,h3,h4⟩:=F.does.mem x hx;refine⟨o,h1,h2,fun a w Kk hd hf hE hk=> ?_⟩;have:=h4 a.eval w (fun y hy hany=>hd y hy (Qba hany)) (fun _=>rfl) (fun _=>rfl) (fun s hs=>hf s ⟨fun y hy e=> ?_,fun y hy e=> ?_,fun e=> ?_⟩) hE (Qat.of hE)
  ·refine this.wp fun v w' hv hp=> ?_;rw [h3];exact hk v w' hv hp
  ·have:(L.D.map (·.2.1)++(L.C.map (·.2.1)++ [L.dm])).contains s=true:=List.contains_iff_mem.2 (by rw [←e];exact List.mem_append_left _ (nD hy));rw [hs]at this;cases this
  ·have:(L.D.map (·.2.1)++(L.C.map (·.2.1)++ [L.dm])).contains s=true:=List.contains_iff_mem.2 (by rw [←e];exact List.mem_append_right _ (List.mem_append_left _ (nC hy)));rw [hs]at this;cases this
  ·have:(L.D.map (·.2.1)++(L.C.map (·.2.1)++ [L.dm])).contains s=true:=List.contains_iff_mem.2 (by rw [e];simp);rw [hs]at this;cases this
 ·obtain⟨o,h1,h2,h3,h4,h5⟩:=F.hC x hx;refine⟨o,h1,h2,h3,h4,?_⟩;rcases h5 with⟨h5,h6⟩|⟨y,hy,h5,h6⟩
  ·exact .inl ⟨h5,Qba h6⟩
  ·exact .inr ⟨y,hy,h5,Qba h6⟩
 ·obtain⟨o,k,s,h1,h2,h3,h4,h5,h6,h7,y,hy,h8,h9,h10⟩:=F.hI x hx;refine⟨o,k,.tmp s,h1,h2,h3,h4,h5,Qba h6,fun a w hd hf hE=>⟨by rw [h7];rfl,?_⟩⟩;have:=hd y hy (Qba h10);rw [h9,h8]at this;exact this
end
def mvL(Bc:Nat):List Pt:= [⟨some ⟨Bc,2,none⟩,1,0,0,5⟩,⟨some ⟨Bc,3,none⟩,1,0,0,15⟩,⟨some ⟨Bc,4,none⟩,4,0,0,2147483647⟩]
def Mv3(lo:Nat)(ms:List Pt):Q6:=fun w v=> ∃m,v= .slice (some ⟨m,0,none⟩) 3 3∧ZM w (some ⟨m,0,none⟩) ms∧lo≤m
theorem Qkf(lo:Nat)(ms:List Pt):JO (Mv3 lo ms):=fun w w' v hE ⟨m,h1,h2,h3⟩=>⟨m,h1,h2.ext hE,h3⟩
def Qp6(lo:Nat):Q6:=fun w v=> ∃B,v= .pointer (some ⟨B,0,none⟩)∧lo≤B∧Lt B w∧RowZ w B #[.slice none 0 0]
theorem Qhf(lo:Nat):JO (Qp6 lo):=fun w w' v hE ⟨B,h1,h2,h3,h4⟩=>⟨B,h1,h2,Xl h3 hE.size,h4.ext hE⟩
theorem Qp7{lo:Nat}{ty:TypeId}(hlo:lo≤w.heap.size):Jn Tryz.prog ρ ⟨dst,.alloc 261,ty,pos,after,none⟩ w (Qp6 lo):=by
 refine .val (v:= .pointer (some ⟨w.heap.size,0,none⟩)) (w':=w.alloc (.cells #[.slice none 0 0] 261)) (by simp only [execOp];go_simp) Ea ⟨w.heap.size,rfl,hlo,by simp [go_sem,Lt],RowZ.new _ _ _⟩
theorem Qdi{q:Option Addr}(h0:w.cell? ⟨B,i,none⟩=some (.pointer q))(hl:Lt B w)(hC: ¬C B){ty:TypeId}
  (hx:ρ x= .pointer (some ⟨B,i,none⟩)): ∀w',Mv C w w'→(execOp ρ ⟨dst,.load 228 x,ty,pos,after,g⟩).run Tryz.prog w'= .ok (.value (.pointer q)) w':=by
 intro w' hE;have h1:w'.cell? ⟨B,i,none⟩=some (.pointer q):=by rw [Qa,Qf (hE.same B hl hC),←Qa];exact h0
 simp only [execOp,hx];go_simp
theorem QvJ{a b c d e:Value}(h0:RowZ w B #[a,b,c,d,e])(hC: ¬C B){ty:TypeId}
  (hx:ρ x= .pointer (some ⟨B,0,none⟩)): ∀w',Mv C w w'→(execOp ρ ⟨dst,.load 231 x,ty,pos,after,g⟩).run Tryz.prog w'= .ok (.value (.agg #[a,b,c,d,e])) w':=by
 intro w' hE;have h1:=h0.mv hE hC;have d0:=h1.cell 0 (by show 0<5;omega);have d1:=h1.cell 1 (by show 1<5;omega);have d2:=h1.cell 2 (by show 2<5;omega);have d3:=h1.cell 3 (by show 3<5;omega);have d4:=h1.cell 4 (by show 4<5;omega);have l:=h1.l;simp only [execOp,hx];go_simp
theorem ZM.row{xs:List Pt}(h:Qc w B=(QbE xs).toArray)(hl:Lt B w):ZM w (some ⟨B,0,none⟩) xs:=fun k hk=>by
 have key: ∀j,j<5→w.cell? ⟨B,0+k*5+j,none⟩=(xs[k]).cl[j]?:=fun j hj=>by
  rw [←QcF xs k j hk hj,Qa,h,Nat.zero_add];simp
 exact⟨B,0,rfl,hl,key 0 Om,key 1 Om,key 2 Om,key 3 Om,key 4 Om⟩
theorem Qp8{lo:Nat}(hlo:lo≤w.heap.size){x y z:Pt}(ρ:Operand→Value)(dst:Option Tmp)(p q r:Operand)(ty:TypeId)(pos:String)(after:Array Edge)
  (h0:ρ p=x.v)(h1:ρ q=y.v)(h2:ρ r=z.v):Jn Tryz.prog ρ ⟨dst,.buildSlice 261 3 #[(0,p),(1,q),(2,r)],ty,pos,after,none⟩ w (Mv3 lo [x,y,z]):=by
 refine .val (v:= .slice (some ⟨w.heap.size,0,none⟩) 3 3) (w':=w.alloc (.cells (QbE [x,y,z]).toArray 231)) ?_ Ea ⟨w.heap.size,rfl,ZM.row (by rw [Zn]) (by simp [go_sem,Lt]),hlo⟩;simp only [execOp,List.map_toArray,List.map_cons,List.map_nil,h0,h1,h2];go_simp;rfl
theorem Qnk{v u:Value}(hc:w.cell? ⟨B,0,none⟩=some u)(hf:w.frozen? ⟨B,0,none⟩=false)(hv: ∃a m c,v= .slice a m c){ty:TypeId}
  (hx:ρ x= .pointer (some ⟨B,0,none⟩))(hy:ρ y=v):(execOp ρ ⟨dst,.store 261 x y,ty,pos,after,g⟩).run Tryz.prog w= .ok .skip (w.setCell ⟨B,0,none⟩ v):=by
 obtain⟨a,m,c,rfl⟩:=hv;simp only [execOp,hx,hy];go_simp
theorem ZM.mvo{A B:World}{n:Nat}{p:Option Addr}{xs:List Pt}(h:ZM A p xs)(m:Mv (fun k=>k=n) A B)(hb: ∀b off,p=some ⟨b,off,none⟩→b≠n):ZM B p xs:=fun k hk=>by
 obtain⟨b,off,h1,h2,c0,c1,c2,c3,c4⟩:=h k hk;have e:=Qf (m.same b h2 (hb b off h1));simp only [Qa]at c0 c1 c2 c3 c4⊢;exact⟨b,off,h1,Xl h2 m.size,by rw [e];exact c0,by rw [e];exact c1,by rw [e];exact c2,by rw [e];exact c3,by rw [e];exact c4⟩
theorem Qay{w':World}{p:Option Addr}{xs:List Pt}(h:ZM w p xs)(m:Ru.Qat w w'):ZM w' p xs:=fun k hk=>by
 obtain⟨b,off,h1,h2,c0,c1,c2,c3,c4⟩:=h k hk;exact⟨b,off,h1,Xl h2 m.2,m.1 _ _ _ c0,m.1 _ _ _ c1,m.1 _ _ _ c2,m.1 _ _ _ c3,m.1 _ _ _ c4⟩
theorem ZT(lo:Nat)(ms xs:List Pt):Qbv (CloPt lo ms xs):=by
 rintro w w' v hm ⟨Bm,Bp,m,pp,cp,h0,h1,h2,h3,h4,h5,h6,h7⟩;exact⟨Bm,Bp,m,pp,cp,h0,h1,hm.1 _ _ _ h2,Xl h3 hm.2,Qay h4 hm,hm.1 _ _ _ h5,Xl h6 hm.2,Qay h7 hm⟩
def Sl1(x:Pt):Q6:=fun w v=> ∃q,v= .slice (some ⟨q,0,none⟩) 1 1∧ZM w (some ⟨q,0,none⟩) [x]
theorem Qcc(x:Pt):Qbv (Sl1 x):=fun w w' v hm ⟨q,h1,h2⟩=>⟨q,h1,Qay h2 hm⟩
theorem Qe0{x:Pt}{p:Operand}{ty:TypeId}
  (h0:ρ p=x.v):Jn Tryz.prog ρ ⟨dst,.buildSlice 261 1 #[(0,p)],ty,pos,after,none⟩ w (Sl1 x):=by
 refine .val (v:= .slice (some ⟨w.heap.size,0,none⟩) 1 1) (w':=w.alloc (.cells (QbE [x]).toArray 231)) ?_ Ea ⟨w.heap.size,rfl,ZM.row (by rw [Zn]) (by simp [go_sem,Lt])⟩;simp only [execOp,List.map_toArray,List.map_cons,List.map_nil,h0];go_simp;rfl
theorem JQ(tys:Array TypeId){ty:TypeId}{f:Nat}{lb:Array Value}{v:Value}(hx:ρ x= .func (.func f) #[] lb)(hy:ρ y=v)(eg: ∀args w,(callFunc f args).run Tryz.prog w= .ok (.enter f args) w):
  (execOp ρ ⟨dst,.call {callee:= .value x,args:=#[y],argTypes:=tys},ty,pos,after,g⟩).run Tryz.prog w= .ok (.enter f (#[v]++lb)) w:=by
 unfold execOp;simp only [resolve,hx,hy,List.map_toArray,List.map_cons,List.map_nil];simp [invoke,go_sem,eg]
theorem Js: ∀args w,(callFunc 242 args).run Tryz.prog w= .ok (.enter 242 args) w:=enters_of Tryz.func242 Kr rfl
def cpartsL(w:World)(Bc Bo b2 b6 B7:Nat):Ru.QcE Tryz.prog:={t:=259,kt:=5,et:=258,K:=(fun x=> ∃n:Int,x= .int .u8 n),im:=0,dm:=28,D:= [(1,29,eqA (.func (.func 242) #[] #[.pointer (some ⟨B7,0,none⟩)])),(2,30,eqA (.pointer (some ⟨Bc,0,none⟩))),(3,31,eqA (.pointer (some ⟨Bc,0,none⟩))),(4,32,eqA (.pointer (some ⟨Bc,5,none⟩))),(5,33,eqA (.agg #[.pointer (some ⟨Bc,5,none⟩),.int .i64 1,.int .i64 1,.int .i64 0,.int .i64 5])),(6,34,Sl1 ⟨some ⟨Bc,5,none⟩,1,1,0,5⟩),(7,35,CloPt w.heap.size (mvL Bc) [⟨some ⟨Bc,5,none⟩,1,1,0,5⟩]),(9,36,eqA (.func (.func 242) #[] #[.pointer (some ⟨B7,0,none⟩)])),(10,37,eqA (.pointer (some ⟨Bc,0,none⟩))),(11,38,eqA (.pointer (some ⟨Bc,0,none⟩))),(12,39,eqA (.pointer (some ⟨Bc,5,none⟩))),(13,40,eqA (.agg #[.pointer (some ⟨Bc,5,none⟩),.int .i64 1,.int .i64 1,.int .i64 (-1),.int .i64 5])),(14,41,Sl1 ⟨some ⟨Bc,5,none⟩,1,1,(-1),5⟩),(15,42,CloPt w.heap.size (mvL Bc) [⟨some ⟨Bc,5,none⟩,1,1,(-1),5⟩]),(17,43,eqA (.func (.func 242) #[] #[.pointer (some ⟨B7,0,none⟩)])),(18,44,CloPt w.heap.size (mvL Bc) []),(20,45,eqA (.func (.func 242) #[] #[.pointer (some ⟨B7,0,none⟩)])),(21,46,eqA (.pointer (some ⟨Bo,0,none⟩))),(22,47,eqA (.agg #[.pointer (some ⟨Bo,0,none⟩),.int .i64 1,.int .i64 0,.int .i64 1,.int .i64 3])),(23,48,Sl1 ⟨some ⟨Bo,0,none⟩,1,0,1,3⟩),(24,49,CloPt w.heap.size (mvL Bc) [⟨some ⟨Bo,0,none⟩,1,0,1,3⟩]),(26,50,fun _ _=>True),(28,51,fun _ _=>True)],C:= [(30,52,28),(31,4,52)],I:= [(8,.int .u8 1,CloPt w.heap.size (mvL Bc) [⟨some ⟨Bc,5,none⟩,1,1,0,5⟩]),(16,.int .u8 2,CloPt w.heap.size (mvL Bc) [⟨some ⟨Bc,5,none⟩,1,1,(-1),5⟩]),(19,.int .u8 3,CloPt w.heap.size (mvL Bc) []),(25,.int .u8 4,CloPt w.heap.size (mvL Bc) [⟨some ⟨Bo,0,none⟩,1,0,1,3⟩]),(27,.int .u8 5,fun _ _=>True),(29,.int .u8 6,fun _ _=>True)]}
def Qnl(Bc:Nat)(w:World)(e:Ending)(w':World):Prop:= ∃B f,e= .returned (.map (some B))∧Ext w w'∧Ru.ZE (fun x=> ∃n:Int,x= .int .u8 n) w' B f∧
 (∃v,f (.int .u8 1)=some v∧CloPt w.heap.size (mvL Bc) [⟨some ⟨Bc,5,none⟩,1,1,0,5⟩] w' v)∧(∃v,f (.int .u8 2)=some v∧CloPt w.heap.size (mvL Bc) [⟨some ⟨Bc,5,none⟩,1,1,(-1),5⟩] w' v)∧(∃v,f (.int .u8 3)=some v∧CloPt w.heap.size (mvL Bc) [] w' v)
theorem Qkg(Bc Bo:Nat)(w:World)(lc:Lt Bc w)(cc:(w.cell? ⟨Bc,0,none⟩).isSome=true):
  Calls Tryz.prog 227 #[.pointer (some ⟨Bc,0,none⟩),.pointer (some ⟨Bo,0,none⟩)] w (Qnl Bc w):=by
 go_enter Tryz.func227,Tryz.ntmps227
 go_upto_region 3 with(fail)
 obtain⟨W1,hW⟩: ∃W1,(((w.alloc (.cells #[.pointer (some ⟨Bc,0,none⟩)] 228)).alloc (.cells #[.pointer (some ⟨Bc,2,none⟩),.int .i64 1,.int .i64 0,.int .i64 0,.int .i64 5] 231)).alloc (.cells #[.pointer (some ⟨Bc,2,none⟩),.int .i64 1,.int .i64 0,.int .i64 0,.int .i64 2] 231))=W1:=⟨_,rfl⟩;have E1:Ext w W1:=by rw [←hW];exact Ext.al (Ext.al Ea _) _
 have c2:W1.cell? ⟨w.heap.size,0,none⟩=some (.pointer (some ⟨Bc,0,none⟩)):=by rw [←hW];simp [go_sem]
 have l2:Lt w.heap.size W1:=by rw [←hW];simp [go_sem,Lt]
 have r5:RowZ W1 (w.heap.size+1) #[.pointer (some ⟨Bc,2,none⟩),.int .i64 1,.int .i64 0,.int .i64 0,.int .i64 5]:=by rw [←hW];exact⟨by simp [go_sem],by simp [go_sem],by simp [go_sem,Lt]⟩
 rw [hW];clear hW;obtain⟨b2,e2⟩: ∃b,w.heap.size=b:=⟨_,rfl⟩;rw [e2]at c2 l2 r5⊢;obtain⟨b5,e5⟩: ∃b,b2+1=b:=⟨_,rfl⟩;rw [e5]at r5⊢;obtain⟨b6,e6⟩: ∃b,b5+1=b:=⟨_,rfl⟩;rw [e6];have EW:Ext w W1.drew:=E1.tr (Ext.dr (Ext.rf _));have EW:Ext w W1.drew:=EW;have c2:W1.drew.cell? ⟨b2,0,none⟩=some (.pointer (some ⟨Bc,0,none⟩)):=c2;have l2:Lt b2 W1.drew:=l2;have r5:RowZ W1.drew b5 #[.pointer (some ⟨Bc,2,none⟩),.int .i64 1,.int .i64 0,.int .i64 0,.int .i64 5]:=r5.ext (Ext.dr (Ext.rf _));refine Qa7 [(0,17,eqA (.agg #[.pointer (some ⟨Bc,2,none⟩),.int .i64 1,.int .i64 0,.int .i64 0,.int .i64 5])),(1,18,eqA (.pointer (some ⟨Bc,0,none⟩))),(2,19,eqA (.pointer (some ⟨Bc,0,none⟩))),(3,20,eqA (.pointer (some ⟨Bc,3,none⟩))),(4,21,eqA (.agg #[.pointer (some ⟨Bc,3,none⟩),.int .i64 1,.int .i64 0,.int .i64 0,.int .i64 15])),(5,22,eqA (.pointer (some ⟨Bc,0,none⟩))),(6,23,eqA (.pointer (some ⟨Bc,0,none⟩))),(7,24,eqA (.pointer (some ⟨Bc,4,none⟩))),(8,25,eqA (.agg #[.pointer (some ⟨Bc,4,none⟩),.int .i64 4,.int .i64 0,.int .i64 0,.int .i64 2147483647])),(9,26,Mv3 W1.heap.size (mvL Bc)),(10,7,Qp6 W1.heap.size)] 11 12 1 2047 rfl Dc Kr ⟨rfl,(by show List.Nodup [17,18,19,20,21,22,23,24,25,26,7];decide),rfl,Om,rfl,Kr,Kr,?stab3,?does3⟩ ?after3
 case' stab3=>exact⟨QQ _,QQ _,QQ _,QQ _,QQ _,QQ _,QQ _,QQ _,QQ _,(Qkf _ _),(Qhf _),trivial⟩
 case' does3=>
  refine⟨?d3_0,?d3_1,?d3_2,?d3_3,?d3_4,?d3_5,?d3_6,?d3_7,?d3_8,?d3_9,?d3_10,trivial⟩
  case' d3_0=>
   refine⟨_,rfl,rfl,rfl,fun ρ w hd hc hfn hf E=> ?_⟩;simp only [List.getElem_toArray,List.getElem_cons_zero,List.getElem_cons_succ]at hd⊢;have h0:ρ (.tmp 5)= .pointer (some ⟨b5,0,none⟩):=(hf 5 rfl).trans rfl;exact .eq (QvJ (C:=fun _=>False) r5 (fun h=>h) h0 _ (Mv.of_ext E))
  case' d3_1=>
   refine⟨_,rfl,rfl,rfl,fun ρ w hd hc hfn hf E=> ?_⟩;simp only [List.getElem_toArray,List.getElem_cons_zero,List.getElem_cons_succ]at hd⊢;have h0:ρ (.tmp 2)= .pointer (some ⟨b2,0,none⟩):=(hf 2 rfl).trans rfl;exact .eq (Qdi (C:=fun _=>False) c2 l2 (fun h=>h) h0 _ (Mv.of_ext E))
  case' d3_2=>
   refine⟨_,rfl,rfl,rfl,fun ρ w hd hc hfn hf E=> ?_⟩;simp only [List.getElem_toArray,List.getElem_cons_zero,List.getElem_cons_succ]at hd⊢;have h0:=hd (1,18,eqA (.pointer (some ⟨Bc,0,none⟩))) (List.mem_of_getElem? (i:=1) rfl) Kr
   replace h0:ρ (.tmp 18)= .pointer (some ⟨Bc,0,none⟩):=h0
   exact .eq (by simp only [execOp,h0];go_simp)
  case' d3_3=>
   refine⟨_,rfl,rfl,rfl,fun ρ w hd hc hfn hf E=> ?_⟩;simp only [List.getElem_toArray,List.getElem_cons_zero,List.getElem_cons_succ]at hd⊢;have h0:=hd (2,19,eqA (.pointer (some ⟨Bc,0,none⟩))) (List.mem_of_getElem? (i:=2) rfl) Kr
   replace h0:ρ (.tmp 19)= .pointer (some ⟨Bc,0,none⟩):=h0
   exact .eq (by simp only [execOp,h0];go_simp)
  case' d3_4=>
   refine⟨_,rfl,rfl,rfl,fun ρ w hd hc hfn hf E=> ?_⟩;simp only [List.getElem_toArray,List.getElem_cons_zero,List.getElem_cons_succ]at hd⊢;have h0:=hd (3,20,eqA (.pointer (some ⟨Bc,3,none⟩))) (List.mem_of_getElem? (i:=3) rfl) Kr
   replace h0:ρ (.tmp 20)= .pointer (some ⟨Bc,3,none⟩):=h0
   exact .eq (by simp only [execOp,h0,hc,List.map_toArray,List.map_cons,List.map_nil];kernel_rfl)
  case' d3_5=>
   refine⟨_,rfl,rfl,rfl,fun ρ w hd hc hfn hf E=> ?_⟩;simp only [List.getElem_toArray,List.getElem_cons_zero,List.getElem_cons_succ]at hd⊢;have h0:ρ (.tmp 2)= .pointer (some ⟨b2,0,none⟩):=(hf 2 rfl).trans rfl;exact .eq (Qdi (C:=fun _=>False) c2 l2 (fun h=>h) h0 _ (Mv.of_ext E))
  case' d3_6=>
   refine⟨_,rfl,rfl,rfl,fun ρ w hd hc hfn hf E=> ?_⟩;simp only [List.getElem_toArray,List.getElem_cons_zero,List.getElem_cons_succ]at hd⊢;have h0:=hd (5,22,eqA (.pointer (some ⟨Bc,0,none⟩))) (List.mem_of_getElem? (i:=5) rfl) Kr
   replace h0:ρ (.tmp 22)= .pointer (some ⟨Bc,0,none⟩):=h0
   exact .eq (by simp only [execOp,h0];go_simp)
  case' d3_7=>
   refine⟨_,rfl,rfl,rfl,fun ρ w hd hc hfn hf E=> ?_⟩;simp only [List.getElem_toArray,List.getElem_cons_zero,List.getElem_cons_succ]at hd⊢;have h0:=hd (6,23,eqA (.pointer (some ⟨Bc,0,none⟩))) (List.mem_of_getElem? (i:=6) rfl) Kr
   replace h0:ρ (.tmp 23)= .pointer (some ⟨Bc,0,none⟩):=h0
   exact .eq (by simp only [execOp,h0];go_simp)
  case' d3_8=>
   refine⟨_,rfl,rfl,rfl,fun ρ w hd hc hfn hf E=> ?_⟩;simp only [List.getElem_toArray,List.getElem_cons_zero,List.getElem_cons_succ]at hd⊢;have h0:=hd (7,24,eqA (.pointer (some ⟨Bc,4,none⟩))) (List.mem_of_getElem? (i:=7) rfl) Kr
   replace h0:ρ (.tmp 24)= .pointer (some ⟨Bc,4,none⟩):=h0
   exact .eq (by simp only [execOp,h0,hc,List.map_toArray,List.map_cons,List.map_nil];kernel_rfl)
  case' d3_9=>
   refine⟨_,rfl,rfl,rfl,fun ρ w hd hc hfn hf E=> ?_⟩;simp only [List.getElem_toArray,List.getElem_cons_zero,List.getElem_cons_succ]at hd⊢;have h0:=hd (0,17,eqA (.agg #[.pointer (some ⟨Bc,2,none⟩),.int .i64 1,.int .i64 0,.int .i64 0,.int .i64 5])) (List.mem_of_getElem? (i:=0) rfl) Kr
   replace h0:ρ (.tmp 17)= .agg #[.pointer (some ⟨Bc,2,none⟩),.int .i64 1,.int .i64 0,.int .i64 0,.int .i64 5]:=h0
   have h1:=hd (4,21,eqA (.agg #[.pointer (some ⟨Bc,3,none⟩),.int .i64 1,.int .i64 0,.int .i64 0,.int .i64 15])) (List.mem_of_getElem? (i:=4) rfl) Kr
   replace h1:ρ (.tmp 21)= .agg #[.pointer (some ⟨Bc,3,none⟩),.int .i64 1,.int .i64 0,.int .i64 0,.int .i64 15]:=h1
   have h2:=hd (8,25,eqA (.agg #[.pointer (some ⟨Bc,4,none⟩),.int .i64 4,.int .i64 0,.int .i64 0,.int .i64 2147483647])) (List.mem_of_getElem? (i:=8) rfl) Kr
   replace h2:ρ (.tmp 25)= .agg #[.pointer (some ⟨Bc,4,none⟩),.int .i64 4,.int .i64 0,.int .i64 0,.int .i64 2147483647]:=h2
   exact Qp8 (hlo:=E.size) _ _ _ _ _ _ _ _ h0 h1 h2
  case' d3_10=>
   refine⟨_,rfl,rfl,rfl,fun ρ w hd hc hfn hf E=> ?_⟩;simp only [List.getElem_toArray,List.getElem_cons_zero,List.getElem_cons_succ]at hd⊢;exact Qp7 E.size
 intro val WN EN hall;obtain⟨hv17,hv18,hv19,hv20,hv21,hv22,hv23,hv24,hv25,hv26,hv7,-⟩:=hall
 replace hv17:val 17= .agg #[.pointer (some ⟨Bc,2,none⟩),.int .i64 1,.int .i64 0,.int .i64 0,.int .i64 5]:=hv17
 replace hv18:val 18= .pointer (some ⟨Bc,0,none⟩):=hv18
 replace hv19:val 19= .pointer (some ⟨Bc,0,none⟩):=hv19
 replace hv20:val 20= .pointer (some ⟨Bc,3,none⟩):=hv20
 replace hv21:val 21= .agg #[.pointer (some ⟨Bc,3,none⟩),.int .i64 1,.int .i64 0,.int .i64 0,.int .i64 15]:=hv21
 replace hv22:val 22= .pointer (some ⟨Bc,0,none⟩):=hv22
 replace hv23:val 23= .pointer (some ⟨Bc,0,none⟩):=hv23
 replace hv24:val 24= .pointer (some ⟨Bc,4,none⟩):=hv24
 replace hv25:val 25= .agg #[.pointer (some ⟨Bc,4,none⟩),.int .i64 4,.int .i64 0,.int .i64 0,.int .i64 2147483647]:=hv25
 obtain⟨m,hv26,sm,hlm⟩:=hv26;obtain⟨B7,hv7,hB7,lB7,rB7⟩:=hv7;simp only [List.foldl_cons,List.foldl_nil,hv17,hv18,hv19,hv20,hv21,hv22,hv23,hv24,hv25,hv26,hv7];clear hv17 hv18 hv19 hv20 hv21 hv22 hv23 hv24 hv25 hv26 hv7;have HLM:=Xh (Xt E1.size hlm);have c7:=rB7.cell 0 (by show 0<1;omega);have f7:=rB7.frz 0;have hne:m≠B7:=fun e=>by
  obtain⟨b,off,hq,-,d0,-⟩:=sm 0 (by show 0<3;omega)
  cases hq
  subst e;rw [show 0+0*5=0 from rfl,c7]at d0
  cases d0
 refine QiO (C:=fun k=>k=B7) ?_;refine QaO (k:=11) (N:=12) (m:=2047) Kr (Qan (m':=4095) rfl rfl Kr (Qnk (v:= .slice (some ⟨m,0,none⟩) 3 3) c7 f7 ⟨_,_,_,rfl⟩ Kr Kr) (Mv.st _ (.inl rfl) (Mv.refl _ _)) ?_);refine doneK (listed:=msk 12 4095) Kr ?_;obtain⟨W2,hW⟩: ∃W2,WN.setCell ⟨B7,0,none⟩ (.slice (some ⟨m,0,none⟩) 3 3)=W2:=⟨_,rfl⟩;have m2:Mv (fun k=>k=B7) WN W2:=by rw [←hW];exact Mv.st _ (.inl rfl) (Mv.refl _ _)
 have E2:Ext w W2:=Mv.ext_of (E1.tr EN) m2 (fun k e=>by have:=E1.size;omega);have c2:W2.cell? ⟨b2,0,none⟩=some (.pointer (some ⟨Bc,0,none⟩)):=by
  have hb:b2≠B7:=by have h:b2<W1.heap.size:=l2;omega
  rw [Qa,Qf (m2.same b2 (Xl l2 EN.size) hb),←Qa];exact(EN.cell (p:=⟨b2,0,none⟩) l2).trans c2
 have l2:Lt b2 W2:=Xl (Xl l2 EN.size) m2.size;have sm:ZM W2 (some ⟨m,0,none⟩) (mvL Bc):=sm.mvo m2 (fun b off e=>by cases e;exact hne);have c7:W2.cell? ⟨B7,0,none⟩=some (.slice (some ⟨m,0,none⟩) 3 3):=by rw [←hW,Qa,(rB7.set 0 _).r];rfl
 have l7:Lt B7 W2:=Xl lB7 m2.size;rw [hW];clear hW m2 rB7 lB7 f7 r5 EN EW E1;go_simp
 go_upto_region 5 with(fail)
 have c2:W2.drew.cell? ⟨b2,0,none⟩=some (.pointer (some ⟨Bc,0,none⟩)):=c2;have l2:Lt b2 W2.drew:=l2;have c7:W2.drew.cell? ⟨B7,0,none⟩=some (.slice (some ⟨m,0,none⟩) 3 3):=c7;have l7:Lt B7 W2.drew:=l7;have sm:ZM W2.drew (some ⟨m,0,none⟩) (mvL Bc):=sm.ext (Ext.dr (Ext.rf _));refine Ru.QcE.wp (L:=cpartsL w Bc Bo b2 b6 B7) (QvI.fits (N:=32) ⟨Ru.Qye .u8 Tryz.underlying5,?ty5,rfl,Kr,Kr,(by show List.Nodup [1,2,3,4,5,6,7,9,10,11,12,13,14,15,17,18,20,21,22,23,24,26,28,30,31,8,16,19,25,27,29,0];decide),(by show List.Nodup [29,30,31,32,33,34,35,36,37,38,39,40,41,42,43,44,45,46,47,48,49,50,51,52,4,28];decide),(by show List.Nodup [(1:Int),(2:Int),(3:Int),(4:Int),(5:Int),(6:Int)];decide),Kr,?stD5,?stI5,?hmk5,?does5,?hC5,?hI5⟩) Kr ?after5
 case' ty5=>exact Tryz.underlying259
 case' stD5=>exact⟨QX _,QX _,QX _,QX _,QX _,(Qcc _),(ZT _ _ _),QX _,QX _,QX _,QX _,QX _,(Qcc _),(ZT _ _ _),QX _,(ZT _ _ _),QX _,QX _,QX _,(Qcc _),(ZT _ _ _),(Jr),(Jr),trivial⟩
 case' stI5=>
  intro x hx;simp only [cpartsL,List.mem_cons,List.not_mem_nil,or_false]at hx;rcases hx with rfl|rfl|rfl|rfl|rfl|rfl
  ·exact(ZT _ _ _)
  ·exact(ZT _ _ _)
  ·exact(ZT _ _ _)
  ·exact(ZT _ _ _)
  ·exact(Jr)
  ·exact(Jr)
 case' hmk5=>exact⟨_,rfl,rfl,rfl,rfl⟩
 case' does5=>
  refine⟨?d5_1,?d5_2,?d5_3,?d5_4,?d5_5,?d5_6,?d5_7,?d5_9,?d5_10,?d5_11,?d5_12,?d5_13,?d5_14,?d5_15,?d5_17,?d5_18,?d5_20,?d5_21,?d5_22,?d5_23,?d5_24,?d5_26,?d5_28,trivial⟩
  case' d5_1=>
   refine⟨_,rfl,rfl,rfl,fun ρ w hd hc hfn hf E EM=> ?_⟩;simp only [List.getElem_toArray,List.getElem_cons_zero,List.getElem_cons_succ]at hd⊢;have h0:ρ (.tmp 8)= .func (.func 242) #[] #[.pointer (some ⟨B7,0,none⟩)]:=(hf 8 rfl).trans rfl;exact .eq (by simp only [execOp,h0,hc];rfl)
  case' d5_2=>
   refine⟨_,rfl,rfl,rfl,fun ρ w hd hc hfn hf E EM=> ?_⟩;simp only [List.getElem_toArray,List.getElem_cons_zero,List.getElem_cons_succ]at hd⊢;have h0:ρ (.tmp 2)= .pointer (some ⟨b2,0,none⟩):=(hf 2 rfl).trans rfl;exact .eq (Qdi (C:=fun _=>False) c2 l2 (fun h=>h) h0 _ (Mv.of_ext E))
  case' d5_3=>
   refine⟨_,rfl,rfl,rfl,fun ρ w hd hc hfn hf E EM=> ?_⟩;simp only [List.getElem_toArray,List.getElem_cons_zero,List.getElem_cons_succ]at hd⊢;have h0:=hd (2,30,eqA (.pointer (some ⟨Bc,0,none⟩))) (List.mem_of_getElem? (i:=1) rfl) Kr
   replace h0:ρ (.tmp 30)= .pointer (some ⟨Bc,0,none⟩):=h0
   exact .eq (by simp only [execOp,h0];go_simp)
  case' d5_4=>
   refine⟨_,rfl,rfl,rfl,fun ρ w hd hc hfn hf E EM=> ?_⟩;simp only [List.getElem_toArray,List.getElem_cons_zero,List.getElem_cons_succ]at hd⊢;have h0:=hd (3,31,eqA (.pointer (some ⟨Bc,0,none⟩))) (List.mem_of_getElem? (i:=2) rfl) Kr
   replace h0:ρ (.tmp 31)= .pointer (some ⟨Bc,0,none⟩):=h0
   exact .eq (by simp only [execOp,h0];go_simp)
  case' d5_5=>
   refine⟨_,rfl,rfl,rfl,fun ρ w hd hc hfn hf E EM=> ?_⟩;simp only [List.getElem_toArray,List.getElem_cons_zero,List.getElem_cons_succ]at hd⊢;have h0:=hd (4,32,eqA (.pointer (some ⟨Bc,5,none⟩))) (List.mem_of_getElem? (i:=3) rfl) Kr
   replace h0:ρ (.tmp 32)= .pointer (some ⟨Bc,5,none⟩):=h0
   exact .eq (by simp only [execOp,h0,hc,List.map_toArray,List.map_cons,List.map_nil];kernel_rfl)
  case' d5_6=>
   refine⟨_,rfl,rfl,rfl,fun ρ w hd hc hfn hf E EM=> ?_⟩;simp only [List.getElem_toArray,List.getElem_cons_zero,List.getElem_cons_succ]at hd⊢;have h0:=hd (5,33,eqA (.agg #[.pointer (some ⟨Bc,5,none⟩),.int .i64 1,.int .i64 1,.int .i64 0,.int .i64 5])) (List.mem_of_getElem? (i:=4) rfl) Kr
   replace h0:ρ (.tmp 33)= .agg #[.pointer (some ⟨Bc,5,none⟩),.int .i64 1,.int .i64 1,.int .i64 0,.int .i64 5]:=h0
   exact Qe0 h0
  case' d5_7=>
   refine⟨_,rfl,rfl,rfl,fun ρ w hd hc hfn hf E EM=> ?_⟩;simp only [List.getElem_toArray,List.getElem_cons_zero,List.getElem_cons_succ]at hd⊢;have h0:=hd (1,29,eqA (.func (.func 242) #[] #[.pointer (some ⟨B7,0,none⟩)])) (List.mem_of_getElem? (i:=0) rfl) Kr
   replace h0:ρ (.tmp 29)= .func (.func 242) #[] #[.pointer (some ⟨B7,0,none⟩)]:=h0
   have h1:=hd (6,34,Sl1 ⟨some ⟨Bc,5,none⟩,1,1,0,5⟩) (List.mem_of_getElem? (i:=5) rfl) Kr;obtain⟨q,hq,sq⟩:=h1;exact .call (JQ _ h0 hq Js) (Qbu _ B7 m HLM.out (some ⟨q,0,none⟩) 1 (mvL Bc) [⟨some ⟨Bc,5,none⟩,1,1,0,5⟩] _ ((E.cell (p:=⟨B7,0,none⟩) l7).trans c7) (Xl l7 E.size) (sm.ext E) sq)
  case' d5_9=>
   refine⟨_,rfl,rfl,rfl,fun ρ w hd hc hfn hf E EM=> ?_⟩;simp only [List.getElem_toArray,List.getElem_cons_zero,List.getElem_cons_succ]at hd⊢;have h0:ρ (.tmp 8)= .func (.func 242) #[] #[.pointer (some ⟨B7,0,none⟩)]:=(hf 8 rfl).trans rfl;exact .eq (by simp only [execOp,h0,hc];rfl)
  case' d5_10=>
   refine⟨_,rfl,rfl,rfl,fun ρ w hd hc hfn hf E EM=> ?_⟩;simp only [List.getElem_toArray,List.getElem_cons_zero,List.getElem_cons_succ]at hd⊢;have h0:ρ (.tmp 2)= .pointer (some ⟨b2,0,none⟩):=(hf 2 rfl).trans rfl;exact .eq (Qdi (C:=fun _=>False) c2 l2 (fun h=>h) h0 _ (Mv.of_ext E))
  case' d5_11=>
   refine⟨_,rfl,rfl,rfl,fun ρ w hd hc hfn hf E EM=> ?_⟩;simp only [List.getElem_toArray,List.getElem_cons_zero,List.getElem_cons_succ]at hd⊢;have h0:=hd (10,37,eqA (.pointer (some ⟨Bc,0,none⟩))) (List.mem_of_getElem? (i:=8) rfl) Kr
   replace h0:ρ (.tmp 37)= .pointer (some ⟨Bc,0,none⟩):=h0
   exact .eq (by simp only [execOp,h0];go_simp)
  case' d5_12=>
   refine⟨_,rfl,rfl,rfl,fun ρ w hd hc hfn hf E EM=> ?_⟩;simp only [List.getElem_toArray,List.getElem_cons_zero,List.getElem_cons_succ]at hd⊢;have h0:=hd (11,38,eqA (.pointer (some ⟨Bc,0,none⟩))) (List.mem_of_getElem? (i:=9) rfl) Kr
   replace h0:ρ (.tmp 38)= .pointer (some ⟨Bc,0,none⟩):=h0
   exact .eq (by simp only [execOp,h0];go_simp)
  case' d5_13=>
   refine⟨_,rfl,rfl,rfl,fun ρ w hd hc hfn hf E EM=> ?_⟩;simp only [List.getElem_toArray,List.getElem_cons_zero,List.getElem_cons_succ]at hd⊢;have h0:=hd (12,39,eqA (.pointer (some ⟨Bc,5,none⟩))) (List.mem_of_getElem? (i:=10) rfl) Kr
   replace h0:ρ (.tmp 39)= .pointer (some ⟨Bc,5,none⟩):=h0
   exact .eq (by simp only [execOp,h0,hc,List.map_toArray,List.map_cons,List.map_nil];kernel_rfl)
  case' d5_14=>
   refine⟨_,rfl,rfl,rfl,fun ρ w hd hc hfn hf E EM=> ?_⟩;simp only [List.getElem_toArray,List.getElem_cons_zero,List.getElem_cons_succ]at hd⊢;have h0:=hd (13,40,eqA (.agg #[.pointer (some ⟨Bc,5,none⟩),.int .i64 1,.int .i64 1,.int .i64 (-1),.int .i64 5])) (List.mem_of_getElem? (i:=11) rfl) Kr
   replace h0:ρ (.tmp 40)= .agg #[.pointer (some ⟨Bc,5,none⟩),.int .i64 1,.int .i64 1,.int .i64 (-1),.int .i64 5]:=h0
   exact Qe0 h0
  case' d5_15=>
   refine⟨_,rfl,rfl,rfl,fun ρ w hd hc hfn hf E EM=> ?_⟩;simp only [List.getElem_toArray,List.getElem_cons_zero,List.getElem_cons_succ]at hd⊢;have h0:=hd (9,36,eqA (.func (.func 242) #[] #[.pointer (some ⟨B7,0,none⟩)])) (List.mem_of_getElem? (i:=7) rfl) Kr
   replace h0:ρ (.tmp 36)= .func (.func 242) #[] #[.pointer (some ⟨B7,0,none⟩)]:=h0
   have h1:=hd (14,41,Sl1 ⟨some ⟨Bc,5,none⟩,1,1,(-1),5⟩) (List.mem_of_getElem? (i:=12) rfl) Kr;obtain⟨q,hq,sq⟩:=h1;exact .call (JQ _ h0 hq Js) (Qbu _ B7 m HLM.out (some ⟨q,0,none⟩) 1 (mvL Bc) [⟨some ⟨Bc,5,none⟩,1,1,(-1),5⟩] _ ((E.cell (p:=⟨B7,0,none⟩) l7).trans c7) (Xl l7 E.size) (sm.ext E) sq)
  case' d5_17=>
   refine⟨_,rfl,rfl,rfl,fun ρ w hd hc hfn hf E EM=> ?_⟩;simp only [List.getElem_toArray,List.getElem_cons_zero,List.getElem_cons_succ]at hd⊢;have h0:ρ (.tmp 8)= .func (.func 242) #[] #[.pointer (some ⟨B7,0,none⟩)]:=(hf 8 rfl).trans rfl;exact .eq (by simp only [execOp,h0,hc];rfl)
  case' d5_18=>
   refine⟨_,rfl,rfl,rfl,fun ρ w hd hc hfn hf E EM=> ?_⟩;simp only [List.getElem_toArray,List.getElem_cons_zero,List.getElem_cons_succ]at hd⊢;have h0:=hd (17,43,eqA (.func (.func 242) #[] #[.pointer (some ⟨B7,0,none⟩)])) (List.mem_of_getElem? (i:=14) rfl) Kr
   replace h0:ρ (.tmp 43)= .func (.func 242) #[] #[.pointer (some ⟨B7,0,none⟩)]:=h0
   exact .call (JQ _ h0 (hc _) Js) (Qbu _ B7 m HLM.out none 0 (mvL Bc) [] _ ((E.cell (p:=⟨B7,0,none⟩) l7).trans c7) (Xl l7 E.size) (sm.ext E) (ZM.nil _ _))
  case' d5_20=>
   refine⟨_,rfl,rfl,rfl,fun ρ w hd hc hfn hf E EM=> ?_⟩;simp only [List.getElem_toArray,List.getElem_cons_zero,List.getElem_cons_succ]at hd⊢;have h0:ρ (.tmp 8)= .func (.func 242) #[] #[.pointer (some ⟨B7,0,none⟩)]:=(hf 8 rfl).trans rfl;exact .eq (by simp only [execOp,h0,hc];rfl)
  case' d5_21=>
   refine⟨_,rfl,rfl,rfl,fun ρ w hd hc hfn hf E EM=> ?_⟩;simp only [List.getElem_toArray,List.getElem_cons_zero,List.getElem_cons_succ]at hd⊢;have h0:ρ (.tmp 1)= .pointer (some ⟨Bo,0,none⟩):=(hf 1 rfl).trans rfl;exact .eq (by simp only [execOp,h0,hc];rfl)
  case' d5_22=>
   refine⟨_,rfl,rfl,rfl,fun ρ w hd hc hfn hf E EM=> ?_⟩;simp only [List.getElem_toArray,List.getElem_cons_zero,List.getElem_cons_succ]at hd⊢;have h0:=hd (21,46,eqA (.pointer (some ⟨Bo,0,none⟩))) (List.mem_of_getElem? (i:=17) rfl) Kr
   replace h0:ρ (.tmp 46)= .pointer (some ⟨Bo,0,none⟩):=h0
   exact .eq (by simp only [execOp,h0,hc,List.map_toArray,List.map_cons,List.map_nil];kernel_rfl)
  case' d5_23=>
   refine⟨_,rfl,rfl,rfl,fun ρ w hd hc hfn hf E EM=> ?_⟩;simp only [List.getElem_toArray,List.getElem_cons_zero,List.getElem_cons_succ]at hd⊢;have h0:=hd (22,47,eqA (.agg #[.pointer (some ⟨Bo,0,none⟩),.int .i64 1,.int .i64 0,.int .i64 1,.int .i64 3])) (List.mem_of_getElem? (i:=18) rfl) Kr
   replace h0:ρ (.tmp 47)= .agg #[.pointer (some ⟨Bo,0,none⟩),.int .i64 1,.int .i64 0,.int .i64 1,.int .i64 3]:=h0
   exact Qe0 h0
  case' d5_24=>
   refine⟨_,rfl,rfl,rfl,fun ρ w hd hc hfn hf E EM=> ?_⟩;simp only [List.getElem_toArray,List.getElem_cons_zero,List.getElem_cons_succ]at hd⊢;have h0:=hd (20,45,eqA (.func (.func 242) #[] #[.pointer (some ⟨B7,0,none⟩)])) (List.mem_of_getElem? (i:=16) rfl) Kr
   replace h0:ρ (.tmp 45)= .func (.func 242) #[] #[.pointer (some ⟨B7,0,none⟩)]:=h0
   have h1:=hd (23,48,Sl1 ⟨some ⟨Bo,0,none⟩,1,0,1,3⟩) (List.mem_of_getElem? (i:=19) rfl) Kr;obtain⟨q,hq,sq⟩:=h1;exact .call (JQ _ h0 hq Js) (Qbu _ B7 m HLM.out (some ⟨q,0,none⟩) 1 (mvL Bc) [⟨some ⟨Bo,0,none⟩,1,0,1,3⟩] _ ((E.cell (p:=⟨B7,0,none⟩) l7).trans c7) (Xl l7 E.size) (sm.ext E) sq)
  case' d5_26=>
   refine⟨_,rfl,rfl,rfl,fun ρ w hd hc hfn hf E EM=> ?_⟩;simp only [List.getElem_toArray,List.getElem_cons_zero,List.getElem_cons_succ]at hd⊢;have h0:ρ (.tmp 6)= .pointer (some ⟨b6,0,none⟩):=(hf 6 rfl).trans rfl;exact .val (by simp only [execOp,h0];go_simp;rfl) (Ext.rf _) trivial
  case' d5_28=>
   refine⟨_,rfl,rfl,rfl,fun ρ w hd hc hfn hf E EM=> ?_⟩;simp only [List.getElem_toArray,List.getElem_cons_zero,List.getElem_cons_succ]at hd⊢;have h0:ρ (.tmp 6)= .pointer (some ⟨b6,0,none⟩):=(hf 6 rfl).trans rfl;have h1:ρ (.tmp 2)= .pointer (some ⟨b2,0,none⟩):=(hf 2 rfl).trans rfl;exact .val (by simp only [execOp,h0,h1];go_simp;rfl) (Ext.rf _) trivial
 case' hC5=>
  intro x hx;simp only [cpartsL,List.mem_cons,List.not_mem_nil,or_false]at hx;rcases hx with rfl|rfl
  ·exact⟨_,rfl,rfl,rfl,Or.inl rfl,Or.inl ⟨rfl,Kr⟩⟩
  ·exact⟨_,rfl,rfl,rfl,Or.inr rfl,Or.inr ⟨(30,52,28),List.mem_of_getElem? (i:=0) rfl,rfl,Kr⟩⟩
 case' hI5=>
  intro x hx;simp only [cpartsL,List.mem_cons,List.not_mem_nil,or_false]at hx;rcases hx with rfl|rfl|rfl|rfl|rfl|rfl
  ·exact⟨_,_,35,rfl,rfl,rfl,rfl,⟨_,rfl⟩,Kr,rfl,(7,35,CloPt w.heap.size (mvL Bc) [⟨some ⟨Bc,5,none⟩,1,1,0,5⟩]),List.mem_of_getElem? (i:=6) rfl,rfl,rfl,Kr⟩
  ·exact⟨_,_,42,rfl,rfl,rfl,rfl,⟨_,rfl⟩,Kr,rfl,(15,42,CloPt w.heap.size (mvL Bc) [⟨some ⟨Bc,5,none⟩,1,1,(-1),5⟩]),List.mem_of_getElem? (i:=13) rfl,rfl,rfl,Kr⟩
  ·exact⟨_,_,44,rfl,rfl,rfl,rfl,⟨_,rfl⟩,Kr,rfl,(18,44,CloPt w.heap.size (mvL Bc) []),List.mem_of_getElem? (i:=15) rfl,rfl,rfl,Kr⟩
  ·exact⟨_,_,49,rfl,rfl,rfl,rfl,⟨_,rfl⟩,Kr,rfl,(24,49,CloPt w.heap.size (mvL Bc) [⟨some ⟨Bo,0,none⟩,1,0,1,3⟩]),List.mem_of_getElem? (i:=20) rfl,rfl,rfl,Kr⟩
  ·exact⟨_,_,50,rfl,rfl,rfl,rfl,⟨_,rfl⟩,Kr,rfl,(26,50,fun _ _=>True),List.mem_of_getElem? (i:=21) rfl,rfl,rfl,Kr⟩
  ·exact⟨_,_,51,rfl,rfl,rfl,rfl,⟨_,rfl⟩,Kr,rfl,(28,51,fun _ _=>True),List.mem_of_getElem? (i:=22) rfl,rfl,rfl,Kr⟩
 intro listed a w1 hl hI;obtain⟨B,ff,h1,h2,h3,h4,h5⟩:=hI.map (hl 0 (by show 0<32;omega));have h0:=hI.cops (31,4,52) (List.mem_of_getElem? (i:=1) rfl) (hl 31 (by show 31<32;omega));have EF:Ext w w1:=E2.tr (Ext.tr (Ext.dr (Ext.rf _)) hI.ext);have hd:a.defers= []:=hI.defers;have p1:=h4 (8,.int .u8 1,CloPt w.heap.size (mvL Bc) [⟨some ⟨Bc,5,none⟩,1,1,0,5⟩]) (List.mem_of_getElem? (i:=0) rfl) (hl 8 (by show 8<32;omega));have p2:=h4 (16,.int .u8 2,CloPt w.heap.size (mvL Bc) [⟨some ⟨Bc,5,none⟩,1,1,(-1),5⟩]) (List.mem_of_getElem? (i:=1) rfl) (hl 16 (by show 16<32;omega));have p3:=h4 (19,.int .u8 3,CloPt w.heap.size (mvL Bc) []) (List.mem_of_getElem? (i:=2) rfl) (hl 19 (by show 19<32;omega));clear hl hI h4 h5 c2 l2 c7 l7 sm;go_wp2;refine bodyPost_ret (v:= .map (some B)) ?_ hd ⟨B,ff,rfl,EF,h3,p1,p2,p3⟩;have hs:a.tmps.getD 4 undef= .map (some B):=h0.trans h1;simp only [Array.getD_eq_getD_getElem?]at hs;simp [results,Tryz.results227,hs]
def exL(Bc:Nat)(k:Int):List Pt:=if k=1 then [⟨some ⟨Bc,5,none⟩,1,1,0,5⟩]else if k=2 then [⟨some ⟨Bc,5,none⟩,1,1,(-1),5⟩]else []
def Qe1(lo Bc:Nat):Q6:=fun w v=> ∃B f,v= .map (some B)∧Ru.ZE (fun x=> ∃n:Int,x= .int .u8 n) w B f∧ ∀k,(k=1∨k=2∨k=3)→ ∃v,f (.int .u8 k)=some v∧CloPt lo (mvL Bc) (exL Bc k) w v
theorem CloPt.le{lo lo':Nat}{ms xs:List Pt}{v:Value}(h:CloPt lo ms xs w v)(hl:lo'≤lo):CloPt lo' ms xs w v:=by
 obtain⟨Bm,Bp,m,pp,cp,h0,h1⟩:=h;exact⟨Bm,Bp,m,pp,cp,Xt hl h0,h1⟩
theorem Qfx(lo Bc:Nat):JO (Qe1 lo Bc):=by
 rintro w w' v hE ⟨B,f,h1,h2,h3⟩;have hB:B<w.heap.size:=by
  obtain⟨es,clk,h,_⟩:=h2;exact(Array.getElem?_eq_some_iff.1 h).1
 exact⟨B,f,h1,h2.keep (hE.block B hB),fun k hk=>by obtain⟨v,a,b⟩:=h3 k hk;exact⟨v,a,Qax _ _ _ _ _ _ hE b⟩⟩
theorem QsN(Bc Bo lo:Nat)(w:World)(lc:Lt Bc w)(cc:(w.cell? ⟨Bc,0,none⟩).isSome=true)(hlo:lo≤w.heap.size):
  Calls Tryz.prog 227 #[.pointer (some ⟨Bc,0,none⟩),.pointer (some ⟨Bo,0,none⟩)] w fun e w'=> ∃v,e= .returned v∧Qe1 lo Bc w' v∧Ext w w':=by
 refine(Qkg Bc Bo w lc cc).mono ?_;rintro e w' ⟨B,ff,rfl,hE,h1,h2,h3,h4⟩;refine⟨_,rfl,⟨B,ff,rfl,h1,fun k hk=> ?_⟩,hE⟩;rcases hk with rfl|rfl|rfl
 ·obtain⟨v,a,b⟩:=h2;exact⟨v,a,b.le hlo⟩
 ·obtain⟨v,a,b⟩:=h3;exact⟨v,a,b.le hlo⟩
 ·obtain⟨v,a,b⟩:=h4;exact⟨v,a,b.le hlo⟩
theorem Qfy: ∀args w,(callFunc 227 args).run Tryz.prog w= .ok (.enter 227 args) w:=enters_of Tryz.func227 Kr rfl
theorem QiP(tys:Array TypeId){ty:TypeId}(f:Nat){u v:Value}(hf: ∀f,ρ (.func f)= .func (.func f) #[] #[])(hx:ρ x=u)(hy:ρ y=v)(eg: ∀args w,(callFunc f args).run Tryz.prog w= .ok (.enter f args) w):
  (execOp ρ ⟨dst,.call {callee:= .value (.func f),args:=#[x,y],argTypes:=tys},ty,pos,after,g⟩).run Tryz.prog w= .ok (.enter f #[u,v]) w:=by
 unfold execOp;simp only [resolve,hx,hy,hf,List.map_toArray,List.map_cons,List.map_nil];simp [invoke,go_sem,eg]
theorem Qdj{q:Option Addr}(h0:w.cell? ⟨B,i,none⟩=some (.pointer q))(hl:Lt B w)(hC: ¬C B){ty:TypeId}
  (hx:ρ x= .pointer (some ⟨B,i,none⟩)): ∀w',Mv C w w'→(execOp ρ ⟨dst,.load 229 x,ty,pos,after,g⟩).run Tryz.prog w'= .ok (.value (.pointer q)) w':=by
 intro w' hE;have h1:w'.cell? ⟨B,i,none⟩=some (.pointer q):=by rw [Qa,Qf (hE.same B hl hC),←Qa];exact h0
 simp only [execOp,hx];go_simp
theorem Ql2{v:Int}(h0:w.cell? ⟨B,i,none⟩=some (.int .u8 v))(hl:Lt B w)(hC: ¬C B){q:Operand}{ty:TypeId}
  (hx:ρ q= .pointer (some ⟨B,i,none⟩)): ∀w',Mv C w w'→(execOp ρ ⟨dst,.load 5 q,ty,pos,after,g⟩).run Tryz.prog w'= .ok (.value (.int .u8 v)) w':=by
 intro w' hE;have h1:w'.cell? ⟨B,i,none⟩=some (.int .u8 v):=by rw [Qa,Qf (hE.same B hl hC),←Qa];exact h0
 simp only [execOp,hx];go_simp
theorem Qkh{lo Bc:Nat}{k:Int}(hk:k=1∨k=2∨k=3){ty:TypeId}
  (h0:Qe1 lo Bc w (ρ x))(h1:ρ y= .int .u8 k):Jn Tryz.prog ρ ⟨dst,.lookup 259 x y false,ty,pos,after,g⟩ w (CloPt lo (mvL Bc) (exL Bc k)):=by
 obtain⟨B,ff,e,h2,h3⟩:=h0;obtain⟨v,hv,hc⟩:=h3 k hk;refine .val (v:=v) ?_ (Ext.rf _) hc;have hl:=h2.look (Ru.Qye .u8 Tryz.underlying5) Tryz.underlying259 (x:= .int .u8 k) ⟨k,rfl⟩ .nilFunc Kr;rw [hv]at hl;simp only [execOp,e,h1,Sem.run_bind,hl,Option.getD_some,Result.andThen_ok,Sem.run_pure]
theorem Qp9(w:World)(p q:Option Addr):Calls Tryz.prog 195 #[.pointer p,.pointer q] w fun e w'=>e= .returned (.func (.func 226) #[] #[.pointer (some ⟨w.heap.size,0,none⟩),.pointer (some ⟨w.heap.size+1,0,none⟩)])∧w'=(w.alloc (.cells #[.pointer p] 228)).alloc (.cells #[.pointer q] 229):=by
 go_enter Tryz.func195,Tryz.ntmps195
 go_wp2;go_ret;exact⟨rfl,rfl⟩
theorem Qhg: ∀args w,(callFunc 226 args).run Tryz.prog w= .ok (.enter 226 args) w:=enters_of Tryz.func226 Kr rfl
theorem ZM.mvc{A B:World}{p:Option Addr}{xs:List Pt}(h:ZM A p xs)(m:Mv C A B)(hb: ∀b off,p=some ⟨b,off,none⟩→ ¬C b):ZM B p xs:=fun k hk=>by
 obtain⟨b,off,h1,h2,c0,c1,c2,c3,c4⟩:=h k hk;have e:=Qf (m.same b h2 (hb b off h1));simp only [Qa]at c0 c1 c2 c3 c4⊢;exact⟨b,off,h1,Xl h2 m.size,by rw [e];exact c0,by rw [e];exact c1,by rw [e];exact c2,by rw [e];exact c3,by rw [e];exact c4⟩
def Jo(Bc:Nat)(k:Int):List Pt:=mvL Bc++exL Bc k
theorem Qhh(Bc:Nat)(k:Int):(exL Bc k).length=0∨(exL Bc k).length=1:=by
 unfold exL;split;exact .inr rfl;split;exact .inr rfl;exact .inl rfl
@[go_sem ↓ high] theorem Qyu(f:Nat)(x y:Array Value)(w:World):(binOp .neq 258 (.func (.func f) x y) .nilFunc).run Tryz.prog w= .ok (.bool true) w:=Kr
theorem Qki(n:Nat)(Bc Bo b1 b2:Nat)(k:Int)(hk:k=1∨k=2∨k=3)(w:World)(U:Nat→Prop)(c1:w.cell? ⟨b1,0,none⟩=some (.pointer (some ⟨Bc,0,none⟩)))(l1:Lt b1 w)(c2:w.cell? ⟨b2,0,none⟩=some (.pointer (some ⟨Bo,0,none⟩)))(l2:Lt b2 w)(ck:w.cell? ⟨Bc,0,none⟩=some (.int .u8 k))(lc:Lt Bc w)(hU: ∀k,U k→k<w.heap.size):
  QlJ Fence.wide n Tryz.prog 226 #[.pointer (some ⟨b1,0,none⟩),.pointer (some ⟨b2,0,none⟩)] (fun x:Pt=>#[x.v]) (fun _=>False) U (fun _=>True) (Jo Bc k) w:=by
 intro y J Jx W hW hW2 hJ hJx hY hJ0;have HJ:=Xh hJ;have HJx:=Xh hJx;clear hJ hJx;obtain⟨yfn,ytm,yas,ybo,hY⟩:=hY;have HY:=Xh hY;clear hY;have HLU:=Xh (show ∀k,w.heap.size+2≤k→ ¬(U k∨k=w.heap.size∨k=w.heap.size+1)from fun k hk=>by rintro(h|h|h);(have:=hU _ h;omega);omega;omega);obtain⟨lo,hlo⟩: ∃lo,w.heap.size+2=lo:=⟨_,rfl⟩;rw [hlo]at HLU hW2;have c1:W.cell? ⟨b1,0,none⟩=some (.pointer (some ⟨Bc,0,none⟩)):=(hW.cell (p:=⟨b1,0,none⟩) l1).trans c1;have c2:W.cell? ⟨b2,0,none⟩=some (.pointer (some ⟨Bo,0,none⟩)):=(hW.cell (p:=⟨b2,0,none⟩) l2).trans c2;have ck:W.cell? ⟨Bc,0,none⟩=some (.int .u8 k):=(hW.cell (p:=⟨Bc,0,none⟩) lc).trans ck;have l1:Lt b1 W:=Xl l1 hW.size;have l2:Lt b2 W:=Xl l2 hW.size;have lc:Lt Bc W:=Xl lc hW.size;clear hlo hU hW;refine callsIn_of_wp Tryz.func226 rfl trivial ?_ rfl;simp only [Tryz.ntmps226,List.size_toArray,List.length_cons,List.length_nil,Nat.reduceAdd,Nat.reduceSub,Array.replicate_succ,Array.replicate_zero,List.push_toArray,List.append_toArray,List.nil_append,List.cons_append];refine wpIn_wide.2 ?_
 go_upto_region 0 with(fail)
 have hlo:lo≤W.drew.heap.size:=hW2;have c1:W.drew.cell? ⟨b1,0,none⟩=some (.pointer (some ⟨Bc,0,none⟩)):=c1;have c2:W.drew.cell? ⟨b2,0,none⟩=some (.pointer (some ⟨Bo,0,none⟩)):=c2;have ck:W.drew.cell? ⟨Bc,0,none⟩=some (.int .u8 k):=ck;have l1:Lt b1 W.drew:=l1;have l2:Lt b2 W.drew:=l2;have lc:Lt Bc W.drew:=lc;refine Qa7 [(0,7,eqA (.pointer (some ⟨Bc,0,none⟩))),(1,8,eqA (.pointer (some ⟨Bo,0,none⟩))),(2,9,Qe1 lo Bc),(3,10,eqA (.pointer (some ⟨Bc,0,none⟩))),(4,11,eqA (.pointer (some ⟨Bc,0,none⟩))),(5,12,eqA (.pointer (some ⟨Bc,0,none⟩))),(6,13,eqA (.int .u8 k)),(7,14,CloPt lo (mvL Bc) (exL Bc k)),(8,4,CloPt lo (mvL Bc) (exL Bc k))] 9 9 0 511 rfl Dc Kr ⟨rfl,(by show List.Nodup [7,8,9,10,11,12,13,14,4];decide),rfl,Om,rfl,Kr,Kr,?stab0,?does0⟩ ?after0
 case' stab0=>exact⟨QQ _,QQ _,(Qfx _ _),QQ _,QQ _,QQ _,QQ _,(Qax _ _ _),(Qax _ _ _),trivial⟩
 case' does0=>
  refine⟨?d0_0,?d0_1,?d0_2,?d0_3,?d0_4,?d0_5,?d0_6,?d0_7,?d0_8,trivial⟩
  case' d0_0=>
   refine⟨_,rfl,rfl,rfl,fun ρ w hd hc hfn hf E=> ?_⟩;simp only [List.getElem_toArray,List.getElem_cons_zero,List.getElem_cons_succ]at hd⊢;have h0:ρ (.tmp 1)= .pointer (some ⟨b1,0,none⟩):=(hf 1 rfl).trans rfl;exact .eq (Qdi (C:=fun _=>False) c1 l1 (fun h=>h) h0 _ (Mv.of_ext E))
  case' d0_1=>
   refine⟨_,rfl,rfl,rfl,fun ρ w hd hc hfn hf E=> ?_⟩;simp only [List.getElem_toArray,List.getElem_cons_zero,List.getElem_cons_succ]at hd⊢;have h0:ρ (.tmp 2)= .pointer (some ⟨b2,0,none⟩):=(hf 2 rfl).trans rfl;exact .eq (Qdj (C:=fun _=>False) c2 l2 (fun h=>h) h0 _ (Mv.of_ext E))
  case' d0_2=>
   refine⟨_,rfl,rfl,rfl,fun ρ w hd hc hfn hf E=> ?_⟩;simp only [List.getElem_toArray,List.getElem_cons_zero,List.getElem_cons_succ]at hd⊢;have h0:=hd (0,7,eqA (.pointer (some ⟨Bc,0,none⟩))) (List.mem_of_getElem? (i:=0) rfl) Kr
   replace h0:ρ (.tmp 7)= .pointer (some ⟨Bc,0,none⟩):=h0
   have h1:=hd (1,8,eqA (.pointer (some ⟨Bo,0,none⟩))) (List.mem_of_getElem? (i:=1) rfl) Kr
   replace h1:ρ (.tmp 8)= .pointer (some ⟨Bo,0,none⟩):=h1
   exact .call (QiP _ _ hfn h0 h1 Qfy) (QsN Bc Bo lo _ (Xl lc E.size) (by rw [(E.cell (p:=⟨Bc,0,none⟩) lc),ck];rfl) (Xt hlo E.size))
  case' d0_3=>
   refine⟨_,rfl,rfl,rfl,fun ρ w hd hc hfn hf E=> ?_⟩;simp only [List.getElem_toArray,List.getElem_cons_zero,List.getElem_cons_succ]at hd⊢;have h0:ρ (.tmp 1)= .pointer (some ⟨b1,0,none⟩):=(hf 1 rfl).trans rfl;exact .eq (Qdi (C:=fun _=>False) c1 l1 (fun h=>h) h0 _ (Mv.of_ext E))
  case' d0_4=>
   refine⟨_,rfl,rfl,rfl,fun ρ w hd hc hfn hf E=> ?_⟩;simp only [List.getElem_toArray,List.getElem_cons_zero,List.getElem_cons_succ]at hd⊢;have h0:=hd (3,10,eqA (.pointer (some ⟨Bc,0,none⟩))) (List.mem_of_getElem? (i:=3) rfl) Kr
   replace h0:ρ (.tmp 10)= .pointer (some ⟨Bc,0,none⟩):=h0
   exact .eq (by simp only [execOp,h0];go_simp)
  case' d0_5=>
   refine⟨_,rfl,rfl,rfl,fun ρ w hd hc hfn hf E=> ?_⟩;simp only [List.getElem_toArray,List.getElem_cons_zero,List.getElem_cons_succ]at hd⊢;have h0:=hd (4,11,eqA (.pointer (some ⟨Bc,0,none⟩))) (List.mem_of_getElem? (i:=4) rfl) Kr
   replace h0:ρ (.tmp 11)= .pointer (some ⟨Bc,0,none⟩):=h0
   exact .eq (by simp only [execOp,h0];go_simp)
  case' d0_6=>
   refine⟨_,rfl,rfl,rfl,fun ρ w hd hc hfn hf E=> ?_⟩;simp only [List.getElem_toArray,List.getElem_cons_zero,List.getElem_cons_succ]at hd⊢;have h0:=hd (5,12,eqA (.pointer (some ⟨Bc,0,none⟩))) (List.mem_of_getElem? (i:=5) rfl) Kr
   replace h0:ρ (.tmp 12)= .pointer (some ⟨Bc,0,none⟩):=h0
   exact .eq (Ql2 (C:=fun _=>False) ck lc (fun h=>h) h0 _ (Mv.of_ext E))
  case' d0_7=>
   refine⟨_,rfl,rfl,rfl,fun ρ w hd hc hfn hf E=> ?_⟩;simp only [List.getElem_toArray,List.getElem_cons_zero,List.getElem_cons_succ]at hd⊢;have h0:=hd (2,9,Qe1 lo Bc) (List.mem_of_getElem? (i:=2) rfl) Kr;have h1:=hd (6,13,eqA (.int .u8 k)) (List.mem_of_getElem? (i:=6) rfl) Kr
   replace h1:ρ (.tmp 13)= .int .u8 k:=h1
   exact Qkh hk h0 h1
  case' d0_8=>
   refine⟨_,rfl,rfl,rfl,fun ρ w hd hc hfn hf E=> ?_⟩;simp only [List.getElem_toArray,List.getElem_cons_zero,List.getElem_cons_succ]at hd⊢;have h0:=hd (7,14,CloPt lo (mvL Bc) (exL Bc k)) (List.mem_of_getElem? (i:=7) rfl) Kr;exact .val (v:=ρ (.tmp 14)) rfl (Ext.rf _) h0
 intro val WN EN hall;obtain⟨hv7,hv8,hv9,hv10,hv11,hv12,hv13,hv14,hv4,-⟩:=hall
 replace hv7:val 7= .pointer (some ⟨Bc,0,none⟩):=hv7
 replace hv8:val 8= .pointer (some ⟨Bo,0,none⟩):=hv8
 obtain⟨B9,f9,hv9,-⟩:=hv9
 replace hv10:val 10= .pointer (some ⟨Bc,0,none⟩):=hv10
 replace hv11:val 11= .pointer (some ⟨Bc,0,none⟩):=hv11
 replace hv12:val 12= .pointer (some ⟨Bc,0,none⟩):=hv12
 replace hv13:val 13= .int .u8 k:=hv13
 obtain⟨Bm,Bp,m,pp,cp,hlm,hv4,cm,lm,sm,cp',lp,sp⟩:=hv4;simp only [List.foldl_cons,List.foldl_nil,hv7,hv8,hv9,hv10,hv11,hv12,hv13,hv4];clear hv7 hv8 hv9 hv10 hv11 hv12 hv13 hv14 hv4;refine⟨Kr,?_⟩;have HSM:=Xh sm;have HSP:=Xh sp;have hJ1:=HJ.out _ _ _ hJ0 (Mv.of_ext EN);have HCLO:=Xh (QsL lo (mvL Bc) (exL Bc k) Bm Bp m hlm pp cp WN (Xt hlo EN.size) rfl (Qhh Bc k) cm lm HSM.out cp' lp HSP.out);clear sm sp cm lm cp' lp hJ0 c1 c2 ck l1 l2 lc;go_simp;obtain⟨L,hL⟩: ∃L,mvL Bc++exL Bc k=L:=⟨_,rfl⟩;rw [hL]at HCLO;have hLn:L.length≤4:=by rw [←hL,List.length_append];have:=Qhh Bc k;show 3+_≤4;omega
 have HLL:=Xh hL;have hz1:=Xt hW2 EN.size;clear hL hlo hW2 EN
 go_wp2_with (go_at_call 243;(refine(HCLO.out).mono ?_);rintro e wq ⟨q,d,rfl,sq,nq,gq⟩;have HSQ:=Xh sq;have HNQ:=Xh nq;have hJ2:=Xh (HJ.out _ _ _ hJ1 (Mv.of_ext gq));have hz2:=Xt hz1 gq.size;clear sq nq gq)
 clear hJ1 hz1
 go_loopw [6,20] (fun _ a wr=> ∃i:Nat,i≤L.length∧a= .int .i64 i∧J i wr∧ZM wr q L∧lo≤wr.heap.size) (fun _ a _=>L.length- (intOf a).toNat)
 case atStart=>exact⟨0,Nat.zero_le _,rfl,hJ2.out,HSQ.out,hz2⟩
 case round=>
  clear hz2 hJ2 HSQ;obtain⟨i,hi,rfl,hJi,hE,hz⟩:=hrel
  by_cases hlt:i<L.length
  ·have hlt':(i:Int)<L.length:=by omega
   obtain⟨b,off,hqq,hb,c0,c1,c2,c3,c4⟩:=hE i hlt;obtain⟨x,hx⟩: ∃x,L[i]=x:=⟨_,rfl⟩;rw [hx]at c0 c1 c2 c3 c4;have lbb:Lt b wr:=hb;have HX:=Xh (show L[i]?=some x by rw [List.getElem?_eq_getElem hlt,hx]);have HE:=Xh hE;have HJI:=Xh hJi;have HQQ:=Xh hqq;rw [hqq];clear hx hJi hE hqq
   go_upto_region 5 with(fail)
   obtain⟨W1,hW1⟩: ∃W1,wr.alloc (.cells #[.pointer x.q,.int .i64 x.by_,.int .i64 x.add,.int .i64 x.lo,.int .i64 x.hi] 231)=W1:=⟨_,rfl⟩;have g1:Ext wr W1:=by rw [←hW1];exact Ea
   have r1:RowZ W1 wr.heap.size #[.pointer x.q,.int .i64 x.by_,.int .i64 x.add,.int .i64 x.lo,.int .i64 x.hi]:=by rw [←hW1];exact RowZ.new _ _ _
   rw [hW1];clear hW1 c0 c1 c2 c3 c4;have d0:=r1.cell 0 (by show 0<5;omega);have d1:=r1.cell 1 (by show 1<5;omega);have d2:=r1.cell 2 (by show 2<5;omega);have d3:=r1.cell 3 (by show 3<5;omega);have d4:=r1.cell 4 (by show 4<5;omega);have l1:=r1.l;have hJ1:=HJ.out _ _ _ HJI.out (Mv.of_ext g1);have hrun:(Instr.yield y #[.agg #[.pointer x.q,.int .i64 x.by_,.int .i64 x.add,.int .i64 x.lo,.int .i64 x.hi]]).run Tryz.prog W1= .ok (.round y yfn (ytm #[.agg #[.pointer x.q,.int .i64 x.by_,.int .i64 x.add,.int .i64 x.lo,.int .i64 x.hi]]) yas ybo) W1:=(HY.out i x W1 hJ1 (by rw [←HLL.out]at HX;exact HX.out)).1;have HRD:=Xh (HY.out i x W1 hJ1 (by rw [←HLL.out]at HX;exact HX.out)).2;have HG1:=Xh g1;clear g1 r1 hJ1;refine(wpIn_wide (n:=n)).1 ?_
   gi_wp2
   refine⟨(fun h=>by cases h),(HRD.out).mono ?_⟩;rintro e w6 ⟨bb,rfl,hP⟩;clear hrun HRD d0 d1 d2 d3 d4;obtain⟨rfl,hJ6,hm6⟩|⟨rfl,hx6⟩:=hP
   ·have hE6:=(HE.out.ext HG1.out).mvc hm6 (fun b off e=>HLU.out b (HNQ.out b off e));have hz6:=Xt (Xt hz HG1.out.size) hm6.size;rw [HQQ.out]at hE6;clear hm6
    gi_wp2
    go_wp2
    go_roundw
    case rel=>exact⟨i+1,Om,by go_num,hJ6,hE6,hz6⟩
    case measure=>simp [intOf];omega
   ·gi_wp2
    go_wp2;exact bodyPost_ret (results_none rfl _ _ _) rfl ⟨⟨_,rfl⟩,.inr hx6⟩
  ·obtain rfl:i=L.length:=by omega
   have HJ2:=Xh hJi;clear hJi hE;go_wp2
   go_end0
   exact⟨⟨_,rfl⟩,.inl ⟨by have:=HJ2.out;rw [←HLL.out]at this;exact this,trivial⟩⟩
structure Ct where
 ki:Int
 of_:Int
 ag:Int
 bu:Int
 ge:Int
 pe:Int
 ve:Int
 sb:Int
 st:Int
 p:Option Addr
 n:Nat
 c:Nat
def Ct.at(x:Ct)(j:Nat):Value:=match j with|0=> .int .u8 x.ki|1=> .int .u8 x.of_|2=> .int .i64 x.ag|3=> .int .i64 x.bu|4=> .int .i64 x.ge|5=> .int .i64 x.pe|6=> .int .i64 x.ve|7=> .int .i64 x.sb|8=> .int .i64 x.st|_=> .slice x.p x.n x.c
def ctv(x:Ct):Array Value:=rowv 10 x.at
theorem ZB(x:Ct):ctv x=#[.int .u8 x.ki,.int .u8 x.of_,.int .i64 x.ag,.int .i64 x.bu,.int .i64 x.ge,.int .i64 x.pe,.int .i64 x.ve,.int .i64 x.sb,.int .i64 x.st,.slice x.p x.n x.c]:=by unfold ctv;rfl
theorem QS{x}:(ctv x).size=10:=by unfold ctv;rw [QY]
@[go_sem] theorem Qyv{x o m}:Fits o m (ctv x)=(o+m≤10):=by unfold Fits;rw [QS]
@[go_sem] theorem QvK{x}:Qn (ctv x) 10:=QS
@[go_sem ↓ high] theorem Qxe{x}:(Value.agg (ctv x)).cells=ctv x:=QF _
theorem Qf5(x:Ct)(j:Nat):(x.at j).oneCell'=true:=by unfold Ct.at;split<;>rfl
@[go_sem] theorem Qbw{x}:QK (ctv x):=Zw _ _ fun _=>Qf5 _ _
@[go_sem] theorem QdN{x}:QB (ctv x) 0 10=ctv x:=Q9 _ _ QS
@[go_sem] theorem Qnm{x}:QB (ctv x) 7 3=#[.int .i64 x.sb,.int .i64 x.st,.slice x.p x.n x.c]:=by rw [ZB];rfl
theorem QG{x:Ct}(h:Qc w B=ctv x)(j:Nat)(hj:j<10):w.cell? ⟨B,j,none⟩=some (x.at j):=by
 rw [Qa,h];unfold ctv;rw [QM,if_pos hj]
theorem Qhi:(Tryz.prog.info? 33).map (·.size)=some 10:=Kr
theorem Qnn{b o:Nat}(h:o+10≤(Qc w b).size):(Instr.loadAt 33 (.pointer (some ⟨b,o,none⟩))).run Tryz.prog w= .ok (.agg ((Qc w b).extract o (o+10))) w:=by
 have:=run_loadAt_mid w b o 33 ((Qc w b).extract o (o+10)).toList _ (QC w b o (o+10)) Tryz.underlying33 rfl (by rw [Qhi];simp;omega)
 rwa [Array.toArray_toList]at this
theorem Qkj{b o:Nat}(h:o+10≤(Qc w b).size):(loadVar 33 ⟨b,o,none⟩).run Tryz.prog w= .ok (.agg ((Qc w b).extract o (o+10))) w:=by
 have:=run_loadVar_mid w b o 33 ((Qc w b).extract o (o+10)).toList _ (QC w b o (o+10)) Tryz.underlying33 rfl (by rw [Qhi];simp;omega)
 rwa [Array.toArray_toList]at this
@[go_sem ↓ high] theorem Qaz(ρ:Operand→Value)(dst:Option Tmp)(x:Operand)(ty:TypeId)(pos:String)(after:Array Edge)(g:Option (Nat×Bool))(w:World)
  (hx:ρ x= .pointer (some ⟨Qb (ρ x),Qd (ρ x),none⟩))(h:Fits (Qd (ρ x)) 10 (Qc w (Qb (ρ x)))):
  (execOp ρ ⟨dst,.load 33 x,ty,pos,after,g⟩).run Tryz.prog w= .ok (.value (.agg (QB (Qc w (Qb (ρ x))) (Qd (ρ x)) 10))) w:=by
 unfold Fits at h;generalize hB:Qb (ρ x)=B at*;generalize hO:Qd (ρ x)=O at*;simp only [execOp,hx,Sem.run_bind,Qnn h,Result.andThen_ok,Sem.run_pure,QB]
@[go_sem ↓ high] theorem Quo{l:Option Nat}{ty:TypeId}(w:World)
  (hx:ρ x= .pointer (some ⟨Qb (ρ x),Qd (ρ x),none⟩))(h:Fits (Qd (ρ x)) 10 (Qc w (Qb (ρ x)))):
  (Oper.semAt l ρ ⟨dst,.load 33 x,ty,pos,after,g⟩).run Tryz.prog w= .ok (.value (.agg (QB (Qc w (Qb (ρ x))) (Qd (ρ x)) 10))) w:=by rw [Oper.semAt_eq _ _ _ (fun c h=>by cases h)];exact Qaz ρ dst x ty pos after g w hx h
@[go_sem ↓ high] theorem QbO(ρ:Operand→Value)(dst:Option Tmp)(x y:Operand)(ty:TypeId)(pos:String)(after:Array Edge)(g:Option (Nat×Bool))(w:World)
  (hx:ρ x= .pointer (some ⟨Qb (ρ x),Qd (ρ x),none⟩))(hy:ρ y= .agg (ρ y).cells)(hs:Qn (ρ y).cells 10)(h:Fits (Qd (ρ x)) 10 (Qc w (Qb (ρ x))))(hz:Qs w (Qb (ρ x))=(0,0))(h1:QK (ρ y).cells):
  (execOp ρ ⟨dst,.store 33 x y,ty,pos,after,g⟩).run Tryz.prog w= .ok .skip (Qe w (Qb (ρ x)) (Qd (ρ x)) (ρ y).cells):=by
 unfold Fits at h;unfold Qn at hs;generalize hB:Qb (ρ x)=B at*;generalize hO:Qd (ρ x)=O at*;generalize hC:(ρ y).cells=C at*;have hst:(Instr.storeAt 33 (.pointer (some ⟨B,O,none⟩)) (.agg C)).run Tryz.prog w= .ok () (Qe w B O C):=
  run_storeAt_mid w B O 33 C (fun j hj=>⟨by rw [Qa,Array.getElem?_eq_getElem Om];rfl,Ql hz _⟩) (by rw [Qhi,hs]) h1
 simp only [execOp,hx,hy,Sem.run_bind,hst,Result.andThen_ok,Sem.run_pure]
@[go_sem ↓ high] theorem QsO{l:Option Nat}{ty:TypeId}(w:World)
  (hx:ρ x= .pointer (some ⟨Qb (ρ x),Qd (ρ x),none⟩))(hy:ρ y= .agg (ρ y).cells)(hs:Qn (ρ y).cells 10)(h:Fits (Qd (ρ x)) 10 (Qc w (Qb (ρ x))))(hz:Qs w (Qb (ρ x))=(0,0))(h1:QK (ρ y).cells):
  (Oper.semAt l ρ ⟨dst,.store 33 x y,ty,pos,after,g⟩).run Tryz.prog w= .ok .skip (Qe w (Qb (ρ x)) (Qd (ρ x)) (ρ y).cells):=by rw [Oper.semAt_eq _ _ _ (fun c h=>by cases h)];exact QbO ρ dst x y ty pos after g w hx hy hs h hz h1
theorem JF{cs:Array Value}(hs:(Qc w B).size=10)(hz:Qs w B=(0,0))(hcs:cs.size=10)(ho:QK cs){ty:TypeId}
  (hx:ρ x= .pointer (some ⟨B,0,none⟩))(hy:ρ y= .agg cs):(execOp ρ ⟨dst,.store 33 x y,ty,pos,after,g⟩).run Tryz.prog w= .ok .skip (Qe w B 0 cs):=by
 have e:=QbO ρ dst x y ty pos after g w (by rw [hx];rfl) (by rw [hy];rfl) (by rw [hy];exact hcs) (by rw [hx];show Fits 0 10 (Qc w B);unfold Fits;omega) (by rw [hx];exact hz) (by rw [hy];exact ho);rw [e,hx,hy];rfl
theorem Ql3:(Tryz.prog.info? 31).map (·.size)=some 3:=Kr
theorem Qno{b o:Nat}(h:o+3≤(Qc w b).size):(Instr.loadAt 31 (.pointer (some ⟨b,o,none⟩))).run Tryz.prog w= .ok (.agg ((Qc w b).extract o (o+3))) w:=by
 have:=run_loadAt_mid w b o 31 ((Qc w b).extract o (o+3)).toList _ (QC w b o (o+3)) Tryz.underlying31 rfl (by rw [Ql3];simp;omega)
 rwa [Array.toArray_toList]at this
@[go_sem ↓ high] theorem Qhj(ρ:Operand→Value)(dst:Option Tmp)(x:Operand)(ty:TypeId)(pos:String)(after:Array Edge)(g:Option (Nat×Bool))(w:World)
  (hx:ρ x= .pointer (some ⟨Qb (ρ x),Qd (ρ x),none⟩))(h:Fits (Qd (ρ x)) 3 (Qc w (Qb (ρ x)))):
  (execOp ρ ⟨dst,.load 31 x,ty,pos,after,g⟩).run Tryz.prog w= .ok (.value (.agg (QB (Qc w (Qb (ρ x))) (Qd (ρ x)) 3))) w:=by
 unfold Fits at h;generalize hB:Qb (ρ x)=B at*;generalize hO:Qd (ρ x)=O at*;simp only [execOp,hx,Sem.run_bind,Qno h,Result.andThen_ok,Sem.run_pure,QB]
@[go_sem ↓ high] theorem Qup{l:Option Nat}{ty:TypeId}(w:World)
  (hx:ρ x= .pointer (some ⟨Qb (ρ x),Qd (ρ x),none⟩))(h:Fits (Qd (ρ x)) 3 (Qc w (Qb (ρ x)))):
  (Oper.semAt l ρ ⟨dst,.load 31 x,ty,pos,after,g⟩).run Tryz.prog w= .ok (.value (.agg (QB (Qc w (Qb (ρ x))) (Qd (ρ x)) 3))) w:=by rw [Oper.semAt_eq _ _ _ (fun c h=>by cases h)];exact Qhj ρ dst x ty pos after g w hx h
@[go_sem ↓ high] theorem Qfz(ρ:Operand→Value)(dst:Option Tmp)(x y:Operand)(ty:TypeId)(pos:String)(after:Array Edge)(g:Option (Nat×Bool))(w:World)
  (hx:ρ x= .pointer (some ⟨Qb (ρ x),Qd (ρ x),none⟩))(hy:ρ y= .agg (ρ y).cells)(hs:Qn (ρ y).cells 3)(h:Fits (Qd (ρ x)) 3 (Qc w (Qb (ρ x))))(hz:Qs w (Qb (ρ x))=(0,0))(h1:QK (ρ y).cells):
  (execOp ρ ⟨dst,.store 31 x y,ty,pos,after,g⟩).run Tryz.prog w= .ok .skip (Qe w (Qb (ρ x)) (Qd (ρ x)) (ρ y).cells):=by
 unfold Fits at h;unfold Qn at hs;generalize hB:Qb (ρ x)=B at*;generalize hO:Qd (ρ x)=O at*;generalize hC:(ρ y).cells=C at*;have hst:(Instr.storeAt 31 (.pointer (some ⟨B,O,none⟩)) (.agg C)).run Tryz.prog w= .ok () (Qe w B O C):=
  run_storeAt_mid w B O 31 C (fun j hj=>⟨by rw [Qa,Array.getElem?_eq_getElem Om];rfl,Ql hz _⟩) (by rw [Ql3,hs]) h1
 simp only [execOp,hx,hy,Sem.run_bind,hst,Result.andThen_ok,Sem.run_pure]
@[go_sem ↓ high] theorem QsP{l:Option Nat}{ty:TypeId}(w:World)
  (hx:ρ x= .pointer (some ⟨Qb (ρ x),Qd (ρ x),none⟩))(hy:ρ y= .agg (ρ y).cells)(hs:Qn (ρ y).cells 3)(h:Fits (Qd (ρ x)) 3 (Qc w (Qb (ρ x))))(hz:Qs w (Qb (ρ x))=(0,0))(h1:QK (ρ y).cells):
  (Oper.semAt l ρ ⟨dst,.store 31 x y,ty,pos,after,g⟩).run Tryz.prog w= .ok .skip (Qe w (Qb (ρ x)) (Qd (ρ x)) (ρ y).cells):=by rw [Oper.semAt_eq _ _ _ (fun c h=>by cases h)];exact Qfz ρ dst x y ty pos after g w hx hy hs h hz h1
theorem QdO{b:Nat}{x:Ct}(h:Qc w b=ctv x):(loadVar 33 ⟨b,0,none⟩).run Tryz.prog w= .ok (.agg (ctv x)) w:=by
 have e:=Qkj (w:=w) (b:=b) (o:=0) (by rw [h,QS];exact Nat.le_refl _);have c:= @QdN x;unfold QB at c;rw [h,c]at e;exact e
theorem Qkk(p:Option Addr)(n c:Nat)(w:World):
  Cr 246 #[.slice p n c,.slice none 0 0] w (.bool (decide (n=0))):=by
 by_cases hn:n=0
 ·subst hn
  go_enter Tryz.func246,Tryz.ntmps246
  go_wp2
  go_loopw [5,13] (fun _ a wr=>a= .int .i64 0∧wr=w) (fun _ _ _=>0)
  case atStart=>exact⟨rfl,rfl⟩
  case round=>
   obtain⟨rfl,rfl⟩:=hrel;go_wp2;go_ret;exact⟨rfl,Ext.rf _⟩
 ·have hnb:((n:Int) !=0)=true:=by simp;omega
  have HN:=Xh (show decide (n=0)=false from decide_eq_false hn);clear hn
  go_enter Tryz.func246,Tryz.ntmps246
  go_wp2;go_ret;exact⟨Qm HN.out.symm,Ext.rf _⟩
def Jt(sb st sb' st':Int)(n:Nat):Bool:=sb==sb'&&st==st'&&decide (n=0)
theorem Qkl(sb st sb' st':Int)(p:Option Addr)(n c:Nat)(w:World):
  Cr 228 #[.agg #[.int .i64 sb,.int .i64 st,.slice p n c],.agg #[.int .i64 sb',.int .i64 st',.slice none 0 0]] w (.bool (Jt sb st sb' st' n)):=by
 cases h1:(sb==sb')
 ·have HN:=Xh (show Jt sb st sb' st' n=false by unfold Jt;rw [h1];rfl)
  go_enter Tryz.func228,Tryz.ntmps228
  go_wp2;go_ret;exact⟨Qm HN.out.symm,Ext.al Ea _⟩
 cases h2:(st==st')
 ·have HN:=Xh (show Jt sb st sb' st' n=false by unfold Jt;rw [h2];simp)
  go_enter Tryz.func228,Tryz.ntmps228
  go_wp2;go_ret;exact⟨Qm HN.out.symm,Ext.al Ea _⟩
 have HN:=Xh (show Jt sb st sb' st' n=decide (n=0)by unfold Jt;rw [h1,h2];rfl)
 go_enter Tryz.func228,Tryz.ntmps228
 go_wp2_with (go_at_call 246;(refine(Qkk p n c _).mono ?_);rintro e w1 ⟨rfl,g1⟩)
 go_ret;exact⟨Qm HN.out.symm,(Ext.al Ea _).tr g1⟩
def Zm(x y:Ct):Bool:=x.ki==y.ki&&x.of_==y.of_&&x.ag==y.ag&&x.bu==y.bu&&x.ge==y.ge&&x.pe==y.pe&&x.ve==y.ve&&Jt x.sb x.st y.sb y.st x.n
theorem Qkm(x y:Ct)(hy:y.p=none∧y.n=0∧y.c=0)(w:World):
  Cr 196 #[.agg (ctv x),.agg (ctv y)] w (.bool (Zm x y)):=by
 have HSH:=Xh (fun W=>Qkl x.sb x.st y.sb y.st x.p x.n x.c W)
 go_enter Tryz.func196,Tryz.ntmps196
 go_upto_region 1 with(fail)
 obtain⟨W0,hW⟩: ∃W0,(w.alloc (.cells (ctv x) 33)).alloc (.cells (ctv y) 33)=W0:=⟨_,rfl⟩;have g0:Ext w W0:=by rw [←hW];exact Ext.al Ea _
 have ra:Qc W0 w.heap.size=ctv x:=by rw [←hW];simp [go_sem]
 have rb:Qc W0 (w.heap.size+1)=ctv y:=by rw [←hW];simp [go_sem]
 have l1:Lt (w.heap.size+1) W0:=by rw [←hW];simp [go_sem,Lt]
 have l0:Lt w.heap.size W0:=by rw [←hW];simp [go_sem,Lt]
 rw [hW];clear hW;have c0:W0.cell? ⟨w.heap.size,0,none⟩=some (.int .u8 x.ki):=QG ra 0 Om;have d0:W0.cell? ⟨w.heap.size+1,0,none⟩=some (.int .u8 y.ki):=QG rb 0 Om;have c1:W0.cell? ⟨w.heap.size,1,none⟩=some (.int .u8 x.of_):=QG ra 1 Om;have d1:W0.cell? ⟨w.heap.size+1,1,none⟩=some (.int .u8 y.of_):=QG rb 1 Om;have c2:W0.cell? ⟨w.heap.size,2,none⟩=some (.int .i64 x.ag):=QG ra 2 Om;have d2:W0.cell? ⟨w.heap.size+1,2,none⟩=some (.int .i64 y.ag):=QG rb 2 Om;have c3:W0.cell? ⟨w.heap.size,3,none⟩=some (.int .i64 x.bu):=QG ra 3 Om;have d3:W0.cell? ⟨w.heap.size+1,3,none⟩=some (.int .i64 y.bu):=QG rb 3 Om;have c4:W0.cell? ⟨w.heap.size,4,none⟩=some (.int .i64 x.ge):=QG ra 4 Om;have d4:W0.cell? ⟨w.heap.size+1,4,none⟩=some (.int .i64 y.ge):=QG rb 4 Om;have c5:W0.cell? ⟨w.heap.size,5,none⟩=some (.int .i64 x.pe):=QG ra 5 Om;have d5:W0.cell? ⟨w.heap.size+1,5,none⟩=some (.int .i64 y.pe):=QG rb 5 Om;have c6:W0.cell? ⟨w.heap.size,6,none⟩=some (.int .i64 x.ve):=QG ra 6 Om;have d6:W0.cell? ⟨w.heap.size+1,6,none⟩=some (.int .i64 y.ve):=QG rb 6 Om
 cases h0:(x.ki==y.ki)
 ·have HN:=Xh (show Zm x y=false by unfold Zm;rw [h0];simp);go_wp2;go_ret;exact⟨Qm HN.out.symm,g0⟩
 cases h1:(x.of_==y.of_)
 ·have HN:=Xh (show Zm x y=false by unfold Zm;rw [h1];simp);go_wp2;go_ret;exact⟨Qm HN.out.symm,g0⟩
 cases h2:(x.ag==y.ag)
 ·have HN:=Xh (show Zm x y=false by unfold Zm;rw [h2];simp);go_wp2;go_ret;exact⟨Qm HN.out.symm,g0⟩
 cases h3:(x.bu==y.bu)
 ·have HN:=Xh (show Zm x y=false by unfold Zm;rw [h3];simp);go_wp2;go_ret;exact⟨Qm HN.out.symm,g0⟩
 cases h4:(x.ge==y.ge)
 ·have HN:=Xh (show Zm x y=false by unfold Zm;rw [h4];simp);go_wp2;go_ret;exact⟨Qm HN.out.symm,g0⟩
 cases h5:(x.pe==y.pe)
 ·have HN:=Xh (show Zm x y=false by unfold Zm;rw [h5];simp);go_wp2;go_ret;exact⟨Qm HN.out.symm,g0⟩
 cases h6:(x.ve==y.ve)
 ·have HN:=Xh (show Zm x y=false by unfold Zm;rw [h6];simp);go_wp2;go_ret;exact⟨Qm HN.out.symm,g0⟩
 have HN:=Xh (show Zm x y=Jt x.sb x.st y.sb y.st x.n by unfold Zm;rw [h0,h1,h2,h3,h4,h5,h6];rfl);obtain⟨hy1,hy2,hy3⟩:=hy;have hcut:QB (ctv y) 7 3=#[.int .i64 y.sb,.int .i64 y.st,.slice none 0 0]:=by rw [Qnm,hy1,hy2,hy3]
 clear hy1 hy2 hy3
 go_wp2_with (go_at_call 228;(refine(HSH.out _).mono ?_);rintro e w1 ⟨rfl,g1⟩)
 go_ret;exact⟨Qm HN.out.symm,g0.tr g1⟩
@[go_sem] theorem Qyw{a0 a1 a2 a3 a4 a5 a6 a7 a8 a9:Value}{o m:Nat}:Fits o m #[a0,a1,a2,a3,a4,a5,a6,a7,a8,a9]=(o+m≤10):=by unfold Fits;rfl
@[go_sem] theorem QvL{a0 a1 a2 a3 a4 a5 a6 a7 a8 a9:Value}:Qn #[a0,a1,a2,a3,a4,a5,a6,a7,a8,a9] 10=True:=by unfold Qn;exact eq_true rfl
@[go_sem] theorem Qyx{a0 a1 a2 a3 a4 a5 a6 a7 a8 a9:Value}:QK #[a0,a1,a2,a3,a4,a5,a6,a7,a8,a9]=(a0.oneCell'=true∧a1.oneCell'=true∧a2.oneCell'=true∧a3.oneCell'=true∧a4.oneCell'=true∧a5.oneCell'=true∧a6.oneCell'=true∧a7.oneCell'=true∧a8.oneCell'=true∧a9.oneCell'=true):=by
 unfold QK;simp [and_assoc]
@[go_sem ↓ high] theorem Qxf{a0 a1 a2 a3 a4 a5 a6 a7 a8 a9:Value}:(Value.agg #[a0,a1,a2,a3,a4,a5,a6,a7,a8,a9]).cells=#[a0,a1,a2,a3,a4,a5,a6,a7,a8,a9]:=QF _
@[go_sem] theorem Qyy{a0 a1 a2 a3 a4 a5 a6 a7 a8 a9:Value}:QB #[a0,a1,a2,a3,a4,a5,a6,a7,a8,a9] 0 10=#[a0,a1,a2,a3,a4,a5,a6,a7,a8,a9]:=rfl
def QcG(k:Int):Ct:=⟨k,0,0,0,0,0,0,0,0,none,0,0⟩
theorem Ql4{ty:TypeId}(w:World):(execOp ρ ⟨dst,.alloc 33,ty,pos,after,g⟩).run Tryz.prog w= .ok (.value (.pointer (some ⟨w.heap.size,0,none⟩))) (w.alloc (.cells #[.int .u8 0,.int .u8 0,.int .i64 0,.int .i64 0,.int .i64 0,.int .i64 0,.int .i64 0,.int .i64 0,.int .i64 0,.slice none 0 0] 33)):=by
 simp only [execOp];go_simp
theorem Qqa{ty:TypeId}(w:World):(execOp ρ ⟨dst,.alloc 3,ty,pos,after,g⟩).run Tryz.prog w= .ok (.value (.pointer (some ⟨w.heap.size,0,none⟩))) (w.alloc (.cells #[.int .i64 0] 3)):=by
 simp only [execOp];go_simp
theorem Qqb{x:Ct}(h0:RowZ w B (ctv x))(hC: ¬C B){q:Operand}{ty:TypeId}
  (hx:ρ q= .pointer (some ⟨B,0,none⟩)): ∀w',Mv C w w'→(execOp ρ ⟨dst,.load 33 q,ty,pos,after,g⟩).run Tryz.prog w'= .ok (.value (.agg (ctv x))) w':=by
 intro w' hE;have h1:=h0.mv hE hC;have e:=Qaz ρ dst q ty pos after g w' (by rw [hx];rfl) (by rw [hx];show Fits 0 10 (Qc w' B);rw [h1.r];unfold Fits;rw [QS];omega);rw [e,hx];show Result.ok (Next.value (Value.agg (QB (Qc w' B) 0 10))) w'=_;rw [h1.r,QdN]
theorem Qqc{x:Int}(hx0:0≤x∧x<256){q:Operand}{ty:TypeId}(hx:ρ q= .int .u8 x)(w:World):
  (execOp ρ ⟨dst,.convert 5 3 q,ty,pos,after,g⟩).run Tryz.prog w= .ok (.value (.int .i64 x)) w:=by
 have e:IntKind.i64.wrap x=x:=by rw [IntKind.wrap_i64];omega
 simp only [execOp,hx];go_simp
theorem Ql5{v:Int}{u:Value}(hc:w.cell? ⟨B,i,none⟩=some u)(hf:w.frozen? ⟨B,i,none⟩=false){ty:TypeId}
  (hx:ρ x= .pointer (some ⟨B,i,none⟩))(hy:ρ y= .int .i64 v):(execOp ρ ⟨dst,.store 3 x y,ty,pos,after,g⟩).run Tryz.prog w= .ok .skip (w.setCell ⟨B,i,none⟩ (.int .i64 v)):=by
 simp only [execOp,hx,hy];go_simp
structure CrB(w:World)(x:Ct)(Bc Br Bb B4 B5:Nat)(W:World):Prop where
 c:RowZ W Bc (ctv x)
 r:RowZ W Br #[.bool false]
 b:RowZ W Bb (ctv (QcG x.ki))
 o:RowZ W B5 #[.int .i64 x.of_]
 e:Ext w W
 n:w.heap.size≤Bc∧Bc<Br∧Br<Bb∧Bb<B5
def badC(x:Ct):Bool:=x.ki==0||((x.ki==1||x.ki==2)&&x.pe==x.ag)
def inP(v lo hi:Int):Bool:=decide (lo≤v)&&decide (v≤hi)
def zer(i:Nat)(x:Ct):Ct:={x with ag:=if 0<i then 0 else x.ag,bu:=if 1<i then 0 else x.bu,ge:=if 2<i then 0 else x.ge,pe:=if 3<i then 0 else x.pe}
theorem QAk(x:Ct):zer 0 x=x:=rfl
def Qe2(x:Ct)(j:Nat):Int:=if j=0 then x.ag else if j=1 then x.bu else if j=2 then x.ge else x.pe
def numOk(x:Ct)(j:Nat):Bool:=match (Jo 0 x.ki)[j]? with|some p=>inP (Qe2 x j) p.lo p.hi|none=>true
def crB(x:Ct):Bool:=!badC x&&(((List.range (Jo 0 x.ki).length).all fun j=>numOk x j)&&Zm (zer (Jo 0 x.ki).length x) (QcG x.ki))
theorem Qqd{Bc:Nat}{k:Int}{s:Pt}(h:(Jo Bc k)[i]?=some s):i<4∧s.q=some ⟨Bc,i+2,none⟩∧ ∃p,(Jo 0 k)[i]?=some p∧p.lo=s.lo∧p.hi=s.hi:=by
 have hl:=(List.getElem?_eq_some_iff.1 h).1;have h4:i<4:=by unfold Jo at hl;rw [List.length_append]at hl;have:=Qhh Bc k;have e:(mvL Bc).length=3:=rfl;omega
 refine⟨h4,?_⟩;unfold Jo exL at h⊢;obtain rfl|rfl|rfl|rfl:i=0∨i=1∨i=2∨i=3:=by omega
 ·cases h;exact⟨rfl,_,rfl,rfl,rfl⟩
 ·cases h;exact⟨rfl,_,rfl,rfl,rfl⟩
 ·cases h;exact⟨rfl,_,rfl,rfl,rfl⟩
 ·by_cases h1:k=1
  ·rw [if_pos h1]at h⊢
   cases h;exact⟨rfl,_,rfl,rfl,rfl⟩
  ·rw [if_neg h1]at h⊢
   by_cases h2:k=2
   ·rw [if_pos h2]at h⊢
    cases h;exact⟨rfl,_,rfl,rfl,rfl⟩
   ·rw [if_neg h2]at h
    cases h
theorem QvM(x:Ct)(h:i<4):(zer i x).at (i+2)= .int .i64 (Qe2 x i):=by
 obtain rfl|rfl|rfl|rfl:i=0∨i=1∨i=2∨i=3:=by omega
 all_goals rfl
theorem QsQ(x:Ct)(h:i<4):(ctv (zer i x)).setIfInBounds (i+2) (.int .i64 0)=ctv (zer (i+1) x):=by
 rw [ZB,ZB];obtain rfl|rfl|rfl|rfl:i=0∨i=1∨i=2∨i=3:=by omega
 all_goals rfl
theorem Qqe{x:Ct}(h:numOk x i=false)(hi:i<(Jo 0 x.ki).length):crB x=false:=by
 unfold crB;rw [show((List.range (Jo 0 x.ki).length).all fun j=>numOk x j)=false from List.all_eq_false.2 ⟨i,List.mem_range.2 hi,by rw [h];decide⟩];simp
theorem Qe3{x y:Int}{b:Bool}(h:decide (x<y)=b){p q:Operand}{ty:TypeId}(hx:ρ p= .int .i64 x)(hy:ρ q= .int .i64 y)(w:World):
  (execOp ρ ⟨dst,.binOp .lss 3 p q 3,ty,pos,after,g⟩).run Tryz.prog w= .ok (.value (.bool b)) w:=by
 subst h;simp only [execOp,hx,hy];go_simp
theorem QiQ{x y:Int}{b:Bool}(h:decide (y<x)=b){p q:Operand}{ty:TypeId}(hx:ρ p= .int .i64 x)(hy:ρ q= .int .i64 y)(w:World):
  (execOp ρ ⟨dst,.binOp .gtr 3 p q 3,ty,pos,after,g⟩).run Tryz.prog w= .ok (.value (.bool b)) w:=by
 subst h;simp only [execOp,hx,hy];go_simp
structure CrI(x:Ct)(Bc Br Bb i:Nat)(W:World):Prop where
 c:RowZ W Bc (ctv (zer i x))
 r:RowZ W Br #[.bool false]
 b:RowZ W Bb (ctv (QcG x.ki))
 ok: ∀j,j<i→numOk x j=true
theorem CrI.mv{x:Ct}{Bc Br Bb:Nat}{A B:World}(h:CrI x Bc Br Bb i A)(m:Mv C A B)(h1: ¬C Bc)(h2: ¬C Br)(h3: ¬C Bb):CrI x Bc Br Bb i B:=⟨h.c.mv m h1,h.r.mv m h2,h.b.mv m h3,h.ok⟩
structure CrX(x:Ct)(Br:Nat)(c:Code)(W:World):Prop where
 c:c= .ret
 n:crB x=false
 r:RowZ W Br #[.bool false]
theorem Qkn{v:Bool}(h:w.cell? ⟨B,0,none⟩=some (.bool v)):(loadVar 4 ⟨B,0,none⟩).run Tryz.prog w= .ok (.bool v) w:=by go_simp
theorem Ql6{WA W2:World}{x:Ct}{Bc Br Bb B4 B5:Nat}(g2:Ext WA W2)(E:Ext w WA)(rC:RowZ WA Bc (ctv x))(rR:RowZ WA Br #[.bool false])(rB:RowZ WA Bb (ctv (QcG x.ki)))(h4:WA.heap.size≤B4)(h5:WA.heap.size≤B5)(hn:B4≠B5)(r5:RowZ (Qe W2 B4 0 (ctv x)) B5 #[.int .i64 0])(hb:w.heap.size≤Bc∧Bc<Br∧Br<Bb):
  CrB w x Bc Br Bb B4 B5 ((Qe W2 B4 0 (ctv x)).setCell ⟨B5,0,none⟩ (.int .i64 x.of_)):=by
 have m1:Mv (fun k=>k=B4) W2 (Qe W2 B4 0 (ctv x)):=Mv.sa _ rfl (Mv.refl _ _);have m2:Mv (fun k=>k=B5) (Qe W2 B4 0 (ctv x)) ((Qe W2 B4 0 (ctv x)).setCell ⟨B5,0,none⟩ (.int .i64 x.of_)):=Mv.st _ (.inl rfl) (Mv.refl _ _);have l1:=rC.l;have l2:=rR.l;have l3:=rB.l;unfold Lt at l1 l2 l3;have hs:=E.size;exact⟨((rC.ext g2).mv m1 Om).mv m2 Om,((rR.ext g2).mv m1 Om).mv m2 Om,((rB.ext g2).mv m1 Om).mv m2 Om,r5.set 0 _,Mv.ext_of (Mv.ext_of (E.tr g2) m1 (fun k e=>by omega)) m2 (fun k e=>by omega),⟨hb.1,hb.2.1,hb.2.2,Om⟩⟩
def Qqf(ops:Array Oper):Prop:=Region.noSelect ops=true∧Qo ops 8 [0,1,2,3] 0=true∧Rd ops 8 15 [4,5]∧Rd ops 8 31 [5]∧Rd ops 8 47 [4]∧Rd ops 8 63 [6]∧Rd ops 8 127 [7]∧Rd ops 8 255 []
theorem Qko:Qqf ((Tryz.f133.body.bind (Qh 2)).getD #[]):=⟨Kr,Kr,Rk,Rk,Rk,Rk,Rk,Rk⟩
def Qqg(ops:Array Oper):Prop:=Region.noSelect ops=true∧Qo ops 16 [0,1,2,3,4,5,6,7,8,9,10,11,12,13] 0=true∧Qo ops 16 [14,15] 16383=true∧Rd ops 16 65535 []
theorem Qkp:Qqg ((Tryz.f133.body.bind (Qh 7)).getD #[]):=⟨Kr,Kr,Kr,Rk⟩
def Qqh(ops:Array Oper):Prop:=Region.noSelect ops=true∧Qo ops 16 [0,1,2,3,4,5,6,7,8,9,10,11,12,13] 0=true∧Qo ops 16 [14,15] 16383=true∧Rd ops 16 65535 []
theorem Qkq:Qqh ((Tryz.f133.body.bind (Qh 7)).getD #[]):=⟨Kr,Kr,Kr,Rk⟩
def Qqi(ops:Array Oper):Prop:=Region.noSelect ops=true∧Qo ops 16 [0,1,2,3,4,5,6,7,8,9,10,11,12,13] 0=true∧Qo ops 16 [14,15] 16383=true∧Rd ops 16 65535 []
theorem Qkr:Qqi ((Tryz.f133.body.bind (Qh 7)).getD #[]):=⟨Kr,Kr,Kr,Rk⟩
theorem Qks(x:Ct)(w:World)(hk:x.ki=0∨x.ki=1∨x.ki=2∨x.ki=3)(hof:0≤x.of_∧x.of_<256):
  Cr 133 #[.agg (ctv x)] w (.bool (crB x)):=by
 refine(callsIn_wide (n:=5)).1 ?_;refine callsIn_of_wp_marks Tryz.func133 rfl trivial ?_ rfl;simp only [Tryz.ntmps133,List.size_toArray,List.length_cons,List.length_nil,Nat.reduceAdd,Nat.reduceSub,Array.replicate_succ,Array.replicate_zero,List.push_toArray,List.append_toArray,List.nil_append,List.cons_append];refine wpIn_wide.2 ?_
 go_upto_region 1 with(fail)
 have hc0:((w.alloc (.cells (ctv x) 33)).alloc (.cells #[.bool false] 4)).cell? ⟨w.heap.size,0,none⟩=some (.int .u8 x.ki):=by
  have h:Qc ((w.alloc (.cells (ctv x) 33)).alloc (.cells #[.bool false] 4)) w.heap.size=ctv x:=by simp [go_sem]
  exact QG h 0 Om
 go_upto_region 2 with(fail)
 obtain⟨W1,hW⟩: ∃W1,Qe (((w.alloc (.cells (ctv x) 33)).alloc (.cells #[.bool false] 4)).alloc (.cells #[.int .u8 0,.int .u8 0,.int .i64 0,.int .i64 0,.int .i64 0,.int .i64 0,.int .i64 0,.int .i64 0,.int .i64 0,.slice none 0 0] 33)) (w.heap.size+1+1) 0 #[.int .u8 x.ki,.int .u8 0,.int .i64 0,.int .i64 0,.int .i64 0,.int .i64 0,.int .i64 0,.int .i64 0,.int .i64 0,.slice none 0 0]=W1:=⟨_,rfl⟩;have rC:RowZ W1 w.heap.size (ctv x):=by rw [←hW];exact⟨by rw [ZP _ _ _ _ _ Om];simp [go_sem],by rw [ZV];simp [go_sem],by rw [QaS];simp [go_sem,Lt]⟩
 have rR:RowZ W1 (w.heap.size+1) #[.bool false]:=by rw [←hW];exact⟨by rw [ZP _ _ _ _ _ Om];simp [go_sem],by rw [ZV];simp [go_sem],by rw [QaS];simp [go_sem,Lt]⟩
 have rB:RowZ W1 (w.heap.size+1+1) (ctv (QcG x.ki)):=by
  rw [←hW,ZB];exact RowZ.all (cs:=#[.int .u8 0,.int .u8 0,.int .i64 0,.int .i64 0,.int .i64 0,.int .i64 0,.int .i64 0,.int .i64 0,.int .i64 0,.slice none 0 0]) ⟨by simp [go_sem],by simp [go_sem],by simp [go_sem,Lt]⟩ _ rfl
 have E1:Ext w W1:=by rw [←hW];exact Ext.sa _ Om (Ext.al (Ext.al Ea _) _)
 rw [hW];clear hW hc0;obtain⟨Bc,hBc⟩: ∃B,w.heap.size=B:=⟨_,rfl⟩;rw [hBc]at rC rR rB⊢;obtain⟨Br,hBr⟩: ∃B,Bc+1=B:=⟨_,rfl⟩;rw [hBr]at rR rB⊢;obtain⟨Bb,hBb⟩: ∃B,Br+1=B:=⟨_,rfl⟩;rw [hBb]at rB⊢;have hBs:w.heap.size≤Bc∧Bc<Br∧Br<Bb:=by omega
 go_cut [4,5]from 10 to 13 (fun s t wx=> ∃B4 B5,s= .pointer (some ⟨B4,0,none⟩)∧t= .pointer (some ⟨B5,0,none⟩)∧CrB w x Bc Br Bb B4 B5 wx)
 case first=>
  refine Qy (fun _=>False) (fun k=>W1.heap.size≤k) 6 Kr ?_;have hDc: ¬(fun k=>W1.heap.size≤k) Bc:=by have h:Bc<W1.heap.size:=rC.l;exact Nat.not_le_of_lt h
  have E:=E1;obtain⟨WA,hW⟩: ∃Wdr,World.drew W1=Wdr:=⟨_,rfl⟩;have gD:Ext W1 WA:=by rw [←hW];exact Ext.dr (Ext.rf _)
  rw [hW];clear hW;have E:=E.tr gD;have rC:=rC.ext gD;have rR:=rR.ext gD;have rB:=rB.ext gD;refine Zi (N:=8) (R:=Qqf) (E:=((Tryz.f133.body.bind (Qh 2)).getD #[])) Kr Qko Kr fun hS=> ?_;have hT:=hS.2.1;refine tW 1 (.agg (ctv x)) hS.1 hT rfl (Qqb rC hDc Kr) fun hT=>tWk 3 (.pointer (some ⟨Bc,1,none⟩)) hS.1 hT rfl fun hT=>tW 7 (.int .u8 x.of_) hS.1 hT rfl (Ql2 (QG rC.r 1 Om) rC.l hDc Kr) fun hT=>tW 15 (.int .i64 x.of_) hS.1 hT rfl (fun w' _=>Qqc hof Kr w') fun hT=> ?_;refine QmS hS.2.2.1 ?_ ?_
  ·refine Zq (m':=31) rfl rfl Kr (Ql4 _) ⟨.inr (Mv.of_ext Ea),Mv.of_ext Ea⟩ ?_;refine Qr hS.2.2.2.1 (Zq (m':=63) rfl rfl Kr (Qqa _) ⟨.inr (Mv.of_ext Ea),Mv.of_ext Ea⟩ ?_);obtain⟨W2,hW⟩: ∃W,((WA.alloc (.cells #[.int .u8 0,.int .u8 0,.int .i64 0,.int .i64 0,.int .i64 0,.int .i64 0,.int .i64 0,.int .i64 0,.int .i64 0,.slice none 0 0] 33)).alloc (.cells #[.int .i64 0] 3))=W:=⟨_,rfl⟩;obtain⟨B4,hB4⟩: ∃B,WA.heap.size=B:=⟨_,rfl⟩;obtain⟨B5,hB5⟩: ∃B,(WA.alloc (.cells #[.int .u8 0,.int .u8 0,.int .i64 0,.int .i64 0,.int .i64 0,.int .i64 0,.int .i64 0,.int .i64 0,.int .i64 0,.slice none 0 0] 33)).heap.size=B:=⟨_,rfl⟩;have hn:B4≠B5∧WA.heap.size≤B4∧WA.heap.size≤B5:=by rw [←hB4,←hB5];simp only [World.size_alloc];omega
   have g2:Ext WA W2:=by rw [←hW];exact Ext.al Ea _
   have r4:RowZ W2 B4 #[.int .u8 0,.int .u8 0,.int .i64 0,.int .i64 0,.int .i64 0,.int .i64 0,.int .i64 0,.int .i64 0,.int .i64 0,.slice none 0 0]:=by rw [←hW,←hB4];exact⟨by simp [go_sem],by simp [go_sem],by simp [go_sem,Lt]⟩
   have r5:RowZ W2 B5 #[.int .i64 0]:=by rw [←hW,←hB5];exact⟨by simp [go_sem],by simp [go_sem],by simp [go_sem,Lt]⟩
   rw [hW,hB4,hB5];clear hW hB4 hB5;refine Qr hS.2.2.2.2.2.1 (QE (m':=127) rfl rfl Kr (JF (B:=B4) (cs:=ctv x) (by rw [r4.r];rfl) r4.z QS Qbw Kr Kr) ⟨.inl Dc,Mv.sa _ (Xt gD.size hn.2.1) (Mv.refl _ _)⟩ ?_);have r5:=r5.mv (show Mv (fun k=>k=B4) W2 (Qe W2 B4 0 (ctv x))from Mv.sa _ rfl (Mv.refl _ _)) (fun e=>hn.1 e.symm);refine Qr hS.2.2.2.2.2.2.1 (QE (m':=255) rfl rfl Kr (Ql5 (B:=B5) (i:=0) (v:=x.of_) (r5.cell 0 (by show 0<1;omega)) (r5.frz 0) Kr Kr) ⟨.inl Dc,Mv.st _ (.inl (Xt gD.size hn.2.2)) (Mv.refl _ _)⟩ ?_);refine QZ hS.2.2.2.2.2.2.2 ?_;have HF:=Xh (Ql6 g2 E rC rR rB hn.2.1 hn.2.2 hn.1 r5 hBs);clear r4 r5 hn g2
   go_wp2_with (fail)
   go_meet
   exact⟨B4,B5,rfl,rfl,HF.out⟩
  ·refine Zq (m':=47) rfl rfl Kr (Qqa _) ⟨.inr (Mv.of_ext Ea),Mv.of_ext Ea⟩ ?_;refine Qr hS.2.2.2.2.1 (Zq (m':=63) rfl rfl Kr (Ql4 _) ⟨.inr (Mv.of_ext Ea),Mv.of_ext Ea⟩ ?_);obtain⟨W2,hW⟩: ∃W,((WA.alloc (.cells #[.int .i64 0] 3)).alloc (.cells #[.int .u8 0,.int .u8 0,.int .i64 0,.int .i64 0,.int .i64 0,.int .i64 0,.int .i64 0,.int .i64 0,.int .i64 0,.slice none 0 0] 33))=W:=⟨_,rfl⟩;obtain⟨B4,hB4⟩: ∃B,(WA.alloc (.cells #[.int .i64 0] 3)).heap.size=B:=⟨_,rfl⟩;obtain⟨B5,hB5⟩: ∃B,WA.heap.size=B:=⟨_,rfl⟩;have hn:B4≠B5∧WA.heap.size≤B4∧WA.heap.size≤B5:=by rw [←hB4,←hB5];simp only [World.size_alloc];omega
   have g2:Ext WA W2:=by rw [←hW];exact Ext.al Ea _
   have r4:RowZ W2 B4 #[.int .u8 0,.int .u8 0,.int .i64 0,.int .i64 0,.int .i64 0,.int .i64 0,.int .i64 0,.int .i64 0,.int .i64 0,.slice none 0 0]:=by rw [←hW,←hB4];exact⟨by simp [go_sem],by simp [go_sem],by simp [go_sem,Lt]⟩
   have r5:RowZ W2 B5 #[.int .i64 0]:=by rw [←hW,←hB5];exact⟨by simp [go_sem],by simp [go_sem],by simp [go_sem,Lt]⟩
   rw [hW,hB4,hB5];clear hW hB4 hB5;refine Qr hS.2.2.2.2.2.1 (QE (m':=127) rfl rfl Kr (JF (B:=B4) (cs:=ctv x) (by rw [r4.r];rfl) r4.z QS Qbw Kr Kr) ⟨.inl Dc,Mv.sa _ (Xt gD.size hn.2.1) (Mv.refl _ _)⟩ ?_);have r5:=r5.mv (show Mv (fun k=>k=B4) W2 (Qe W2 B4 0 (ctv x))from Mv.sa _ rfl (Mv.refl _ _)) (fun e=>hn.1 e.symm);refine Qr hS.2.2.2.2.2.2.1 (QE (m':=255) rfl rfl Kr (Ql5 (B:=B5) (i:=0) (v:=x.of_) (r5.cell 0 (by show 0<1;omega)) (r5.frz 0) Kr Kr) ⟨.inl Dc,Mv.st _ (.inl (Xt gD.size hn.2.2)) (Mv.refl _ _)⟩ ?_);refine QZ hS.2.2.2.2.2.2.2 ?_;have HF:=Xh (Ql6 g2 E rC rR rB hn.2.1 hn.2.2 hn.1 r5 hBs);clear r4 r5 hn g2
   go_wp2_with (fail)
   go_meet
   exact⟨B4,B5,rfl,rfl,HF.out⟩
 case rest=>
  obtain⟨B4,B5,rfl,rfl,hCB⟩:=hcut;obtain⟨W3,hW3⟩: ∃W,wc=W:=⟨_,rfl⟩;rw [hW3]at hCB⊢;clear hW3;have c0:W3.cell? ⟨Bc,0,none⟩=some (.int .u8 x.ki):=QG hCB.c.r 0 Om;have c2:W3.cell? ⟨Bc,2,none⟩=some (.int .i64 x.ag):=QG hCB.c.r 2 Om;have c5:W3.cell? ⟨Bc,5,none⟩=some (.int .i64 x.pe):=QG hCB.c.r 5 Om;have lc:=hCB.c.l;obtain⟨k,hkx⟩: ∃k,x.ki=k:=⟨_,rfl⟩;rw [hkx]at hk c0⊢;have HKX:=Xh hkx;have HCB:=Xh hCB;have cr:=hCB.r.cell 0 (by show 0<1;omega);have fr:=hCB.r.frz 0;have lr:=hCB.r.l;clear hCB hkx rC rR rB E1 hBc hBr hBb
  go_upto_region 3 with(fail)
  go_cut [38]from 14 to 38 (fun v wx=>v= .bool (badC x)∧wx=W3)
  case first=>
   rcases hk with rfl|rfl|rfl|rfl
   ·have HN:=Xh (show badC x=true by unfold badC;rw [HKX.out];rfl)
    go_wp2_with (fail)
    go_meet
    exact⟨congrArg Value.bool HN.out.symm,rfl⟩
   ·have HN:=Xh (show badC x=(x.pe==x.ag)by unfold badC;rw [HKX.out];rfl)
    go_wp2_with (fail)
    go_meet
    exact⟨congrArg Value.bool HN.out.symm,rfl⟩
   ·have HN:=Xh (show badC x=(x.pe==x.ag)by unfold badC;rw [HKX.out];rfl)
    go_wp2_with (fail)
    go_meet
    exact⟨congrArg Value.bool HN.out.symm,rfl⟩
   ·have HN:=Xh (show badC x=false by unfold badC;rw [HKX.out];rfl)
    go_wp2_with (fail)
    go_meet
    exact⟨congrArg Value.bool HN.out.symm,rfl⟩
  case rest=>
   obtain⟨rfl,hwc⟩:=hcut;rw [hwc];clear hwc c0 c2 c5
   cases hb:badC x
   case true=>
    have HN:=Xh (show crB x=false by unfold crB;rw [hb];rfl);go_wp2;have m4:Mv (fun k=>k=Br) W3 (W3.setCell ⟨Br,0,none⟩ (.bool false)):=Mv.st _ (.inl rfl) (Mv.refl _ _);have hq:=((HCB.out).r.set 0 (.bool false)).cell 0 (by show 0<1;omega);exact⟨_,Zv rfl _ _ Br rfl (Qkn hq),by rw [HN.out],Mv.ext_of HCB.out.e m4 (fun k e=>by omega)⟩
   have hk:k=1∨k=2∨k=3:=by
    rcases hk with h|h
    ·have:=HKX.out;unfold badC at hb;rw [this,h]at hb
     cases hb
    ·exact h
   have HBD:=Xh hb;clear hb cr fr lr lc
   go_wp2_with (go_at_call 195;(refine(Qp9 W3 (some ⟨Bc,0,none⟩) (some ⟨B5,0,none⟩)).mono ?_);rintro e W4 ⟨rfl,hw4'⟩;have HW4:=Xh hw4';clear hw4')
   have hw4:=HW4.out;have g4:Ext W3 W4:=by rw [hw4];exact Ext.al Ea _
   have e1:W4.cell? ⟨W3.heap.size,0,none⟩=some (.pointer (some ⟨Bc,0,none⟩)):=by rw [hw4];simp [go_sem]
   have e2:W4.cell? ⟨W3.heap.size+1,0,none⟩=some (.pointer (some ⟨B5,0,none⟩)):=by rw [hw4];simp [go_sem]
   have z1:Lt W3.heap.size W4:=by rw [hw4];simp [go_sem,Lt]
   have z2:Lt (W3.heap.size+1) W4:=by rw [hw4];simp [go_sem,Lt]
   have q1:=HCB.out.c.ext g4;have q2:=HCB.out.r.ext g4;have q3:=HCB.out.b.ext g4;have E4:=HCB.out.e.tr g4;have hnn:=HCB.out.n;have l5:B5<W4.heap.size:=(HCB.out.o.ext g4).l;have ck:W4.cell? ⟨Bc,0,none⟩=some (.int .u8 k):=by rw [←HKX.out];exact QG q1.r 0 Om
   obtain⟨b7,h7⟩: ∃b,W3.heap.size=b:=⟨_,rfl⟩;rw [h7]at e1 e2 z1 z2⊢;clear hw4 g4 h7;refine(wpIn_wide (n:=5)).1 ?_;refine QaZ rfl Om (gf:=226) (lb:=#[.pointer (some ⟨b7,0,none⟩),.pointer (some ⟨b7+1,0,none⟩)]) rfl trivial Qhg
    (Qki _ Bc B5 b7 (b7+1) k hk W4 (fun q=>q=Bc∨q=Br) e1 z1 e2 z2 ck q1.l (fun q h=>by have:=q1.l;have:=q2.l;unfold Lt at*;rcases h with rfl|rfl<;>assumption))
    (fun _ _ h _=>h) (fun q h=>h.elim) (fun q h=>by have:=q1.l;have:=q2.l;unfold Lt at*;rcases h with rfl|rfl<;>assumption) (fun _=>rfl)
    (CrI x Bc Br Bb) (CrX x Br)
    (fun i A B h hm=>h.mv hm (by have:=q1.l;unfold Lt at this;rintro(h|h|h)<;>first|exact False.elim h|omega) (by have:=q2.l;unfold Lt at this;rintro(h|h|h)<;>first|exact False.elim h|omega) (by have:=q3.l;unfold Lt at this;rintro(h|h|h)<;>first|exact False.elim h|omega))
    (fun c A B h hm=>⟨h.c,h.n,h.r.mv hm (by have:=q2.l;unfold Lt at this;rintro(h|h|h)<;>first|exact False.elim h|omega)⟩)
    ⟨by rw [QAk];exact q1,q2,q3,fun j hj=>by omega⟩
    (fun s a' W=> ∃Bx,W4.heap.size+2≤Bx∧RowZ W Bx s.cl.toArray∧a'={tmps:=#[.agg (ctv x),.pointer (some ⟨Bc,0,none⟩),.pointer (some ⟨Br,0,none⟩),.pointer (some ⟨Bb,0,none⟩),.pointer (some ⟨B4,0,none⟩),.pointer (some ⟨B5,0,none⟩),.pointer (some ⟨Bx,0,none⟩),.pointer (some ⟨Bc,0,none⟩),.int .u8 k,.agg #[.int .u8 k,.int .u8 0,.int .i64 0,.int .i64 0,.int .i64 0,.int .i64 0,.int .i64 0,.int .i64 0,.int .i64 0,.slice none 0 0],u10,u11,u12,u13,u14,u15,u16,u17,u18,u19,u20,u21,u22,u23,u24,u25,u26,u27,u28,u29,u30,u31,u32,u33,u34,u35,u36,u37,.bool false,.func (.func 226) #[] #[.pointer (some ⟨b7,0,none⟩),.pointer (some ⟨b7+1,0,none⟩)],s.v,undef,undef,undef,undef,undef,undef,undef,undef,undef,undef,undef,undef,undef,undef,undef,undef,undef,undef,undef,undef,undef,undef,undef,undef,undef,undef,undef,undef,undef,undef,undef,undef,undef,undef,undef,undef,undef,undef,undef],defers:= []})
    (fun s a' A B h hm=>by obtain⟨Bx,h1,h2,h3⟩:=h;exact⟨Bx,h1,h2.mv hm Om,h3⟩)
    ?assign ?body ?done ?stop
   case assign=>
    intro l i s W K hsz hv hI hx hK
    gi_wp2
    refine hK _ _ (Mv.of_ext Ea) (hI.mv (C:=fun _=>False) (Mv.of_ext Ea) (fun h=>h) (fun h=>h) (fun h=>h)) ⟨W.heap.size,hsz,RowZ.new _ _ _,rfl⟩
   case body=>
    rintro y i s a' W hyl ⟨rr,hr⟩ hsz hv hI hx ⟨Bx,hBx,hRx,rfl⟩;obtain⟨hi4,hsq,hp⟩:=Qqd hx;obtain⟨q,by0,ad0,lo,hi⟩:=s;dsimp only at hsq hp;subst hsq;have d0:W.cell? ⟨Bx,0,none⟩=some (.pointer (some ⟨Bc,i+2,none⟩)):=by rw [Qa,hRx.r];rfl
    have d3:W.cell? ⟨Bx,3,none⟩=some (.int .i64 lo):=by rw [Qa,hRx.r];rfl
    have d4:W.cell? ⟨Bx,4,none⟩=some (.int .i64 hi):=by rw [Qa,hRx.r];rfl
    have lx:=hRx.l;have lc:=hI.c.l;have cv:W.cell? ⟨Bc,i+2,none⟩=some (.int .i64 (Qe2 x i)):=by rw [←QvM x hi4];exact QG hI.c.r (i+2) Om
    have fv:=hI.c.frz (i+2);have cr:W.cell? ⟨Br,0,none⟩=some (.bool false):=hI.r.cell 0 Nat.zero_lt_one;have fr:=hI.r.frz 0;have lr:=hI.r.l;have HI:=Xh hI;have HP:=Xh hp;obtain⟨v,hvv⟩: ∃v,Qe2 x i=v:=⟨_,rfl⟩;rw [hvv]at cv;have HVV:=Xh hvv;clear hx hr hv hI hRx hp hyl hvv
    cases t1:decide (lo≤v)
    ·have t1':v<lo:=by have:=of_decide_eq_false t1;omega
     have T1:decide (v<lo)=true:=decide_eq_true t1'
     have HNO:=Xh (show numOk x i=false by
      obtain⟨p,h1,h2,h3⟩:=HP.out
      unfold numOk;rw [HKX.out,h1];show inP (Qe2 x i) p.lo p.hi=false;rw [h2,HVV.out];unfold inP;rw [t1];rfl)
     have HNC:=Xh (Qqe HNO.out (by obtain⟨p,h1,-⟩:=HP.out;rw [HKX.out];exact(List.getElem?_eq_some_iff.1 h1).1));clear t1
     gi_upto_region 7 with(fail)
     refine ZW (fun _=>False) (fun _=>False) 16 (fun _=>trivial) (fun h=>by cases h) (fun f args w R h=>CallsIn.inRound y (callsIn_wide.2 h)) Kr Kr ?_;obtain⟨WA,hW⟩: ∃Wdr,World.drew W=Wdr:=⟨_,rfl⟩;have gD:Ext W WA:=by rw [←hW];exact Ext.dr (Ext.rf _)
     rw [hW];clear hW;have d0:=(gD.cell (p:=⟨Bx,0,none⟩) lx).trans d0;have d3:=(gD.cell (p:=⟨Bx,3,none⟩) lx).trans d3;have d4:=(gD.cell (p:=⟨Bx,4,none⟩) lx).trans d4;have cv:=(gD.cell (p:=⟨Bc,i+2,none⟩) lc).trans cv;have lx:=Xl lx gD.size;have lc:=Xl lc gD.size;refine Zi (N:=16) (R:=Qqg) (E:=((Tryz.f133.body.bind (Qh 7)).getD #[])) Kr Qkp Kr fun hS=> ?_;have hT:=hS.2.1;refine tWk 1 (.pointer (some ⟨Bx,0,none⟩)) hS.1 hT rfl fun hT=>tW 3 (.pointer (some ⟨Bc,i+2,none⟩)) hS.1 hT rfl (Qdj (C:=fun _=>False) d0 lx (fun h=>h) Kr) fun hT=>tWk 7 (.pointer (some ⟨Bc,i+2,none⟩)) hS.1 hT rfl fun hT=>tW 15 (.int .i64 v) hS.1 hT rfl (Q0 (C:=fun _=>False) cv lc (fun h=>h) Kr) fun hT=>tWk 31 (.pointer (some ⟨Bx,3,none⟩)) hS.1 hT rfl fun hT=>tW 63 (.int .i64 lo) hS.1 hT rfl (Q0 (C:=fun _=>False) d3 lx (fun h=>h) Kr) fun hT=>tW 127 (.bool true) hS.1 hT rfl (fun w' _=>Qe3 T1 Kr Kr w') fun hT=>tWk 255 (.bool true) hS.1 hT rfl fun hT=>tVU 511 hS.1 hT rfl fun hT=>tVU 1023 hS.1 hT rfl fun hT=>tVU 2047 hS.1 hT rfl fun hT=>tVU 4095 hS.1 hT rfl fun hT=>tVU 8191 hS.1 hT rfl fun hT=>tVU 16383 hS.1 hT rfl fun hT=> ?_;have hT:=hS.2.2.1;refine tVU 32767 hS.1 hT rfl fun hT=>tWk 65535 (.bool true) hS.1 hT rfl fun hT=> ?_;refine QZ hS.2.2.2 ?_;clear hS hT;go_simp;have cr:=(gD.cell (p:=⟨Br,0,none⟩) lr).trans cr;have fr:WA.frozen? ⟨Br,0,none⟩=false:=((HI.out.r.ext gD)).frz 0;have lr:=Xl lr gD.size
     gi_wp2
     exact⟨(Mv.of_ext gD).trans (Mv.st _ (.inl (.inr rfl)) (Mv.refl _ _)),rfl,HNC.out,(HI.out.r.ext gD).set 0 (.bool false)⟩
    ·have t1': ¬v<lo:=by have:=of_decide_eq_true t1;omega
     have T1:decide (v<lo)=false:=decide_eq_false t1'
     cases t2:decide (v≤hi)
     ·have t2':hi<v:=by have:=of_decide_eq_false t2;omega
      have T2:decide (hi<v)=true:=decide_eq_true t2'
      have HNO:=Xh (show numOk x i=false by
       obtain⟨p,h1,h2,h3⟩:=HP.out
       unfold numOk;rw [HKX.out,h1];show inP (Qe2 x i) p.lo p.hi=false;rw [h3,HVV.out];unfold inP;rw [t2];simp)
      have HNC:=Xh (Qqe HNO.out (by obtain⟨p,h1,-⟩:=HP.out;rw [HKX.out];exact(List.getElem?_eq_some_iff.1 h1).1));clear t1 t2
      gi_upto_region 7 with(fail)
      refine ZW (fun _=>False) (fun _=>False) 16 (fun _=>trivial) (fun h=>by cases h) (fun f args w R h=>CallsIn.inRound y (callsIn_wide.2 h)) Kr Kr ?_;obtain⟨WA,hW⟩: ∃Wdr,World.drew W=Wdr:=⟨_,rfl⟩;have gD:Ext W WA:=by rw [←hW];exact Ext.dr (Ext.rf _)
      rw [hW];clear hW;have d0:=(gD.cell (p:=⟨Bx,0,none⟩) lx).trans d0;have d3:=(gD.cell (p:=⟨Bx,3,none⟩) lx).trans d3;have d4:=(gD.cell (p:=⟨Bx,4,none⟩) lx).trans d4;have cv:=(gD.cell (p:=⟨Bc,i+2,none⟩) lc).trans cv;have lx:=Xl lx gD.size;have lc:=Xl lc gD.size;refine Zi (N:=16) (R:=Qqh) (E:=((Tryz.f133.body.bind (Qh 7)).getD #[])) Kr Qkq Kr fun hS=> ?_;have hT:=hS.2.1;refine tWk 1 (.pointer (some ⟨Bx,0,none⟩)) hS.1 hT rfl fun hT=>tW 3 (.pointer (some ⟨Bc,i+2,none⟩)) hS.1 hT rfl (Qdj (C:=fun _=>False) d0 lx (fun h=>h) Kr) fun hT=>tWk 7 (.pointer (some ⟨Bc,i+2,none⟩)) hS.1 hT rfl fun hT=>tW 15 (.int .i64 v) hS.1 hT rfl (Q0 (C:=fun _=>False) cv lc (fun h=>h) Kr) fun hT=>tWk 31 (.pointer (some ⟨Bx,3,none⟩)) hS.1 hT rfl fun hT=>tW 63 (.int .i64 lo) hS.1 hT rfl (Q0 (C:=fun _=>False) d3 lx (fun h=>h) Kr) fun hT=>tW 127 (.bool false) hS.1 hT rfl (fun w' _=>Qe3 T1 Kr Kr w') fun hT=>tWk 255 (.bool false) hS.1 hT rfl fun hT=>tWk 511 (.pointer (some ⟨Bx,0,none⟩)) hS.1 hT rfl fun hT=>tW 1023 (.pointer (some ⟨Bc,i+2,none⟩)) hS.1 hT rfl (Qdj (C:=fun _=>False) d0 lx (fun h=>h) Kr) fun hT=>tWk 2047 (.pointer (some ⟨Bc,i+2,none⟩)) hS.1 hT rfl fun hT=>tW 4095 (.int .i64 v) hS.1 hT rfl (Q0 (C:=fun _=>False) cv lc (fun h=>h) Kr) fun hT=>tWk 8191 (.pointer (some ⟨Bx,4,none⟩)) hS.1 hT rfl fun hT=>tW 16383 (.int .i64 hi) hS.1 hT rfl (Q0 (C:=fun _=>False) d4 lx (fun h=>h) Kr) fun hT=> ?_;have hT:=hS.2.2.1;refine tW 32767 (.bool true) hS.1 hT rfl (fun w' _=>QiQ T2 Kr Kr w') fun hT=>tWk 65535 (.bool true) hS.1 hT rfl fun hT=> ?_;refine QZ hS.2.2.2 ?_;clear hS hT;go_simp;have cr:=(gD.cell (p:=⟨Br,0,none⟩) lr).trans cr;have fr:WA.frozen? ⟨Br,0,none⟩=false:=((HI.out.r.ext gD)).frz 0;have lr:=Xl lr gD.size
      gi_wp2
      exact⟨(Mv.of_ext gD).trans (Mv.st _ (.inl (.inr rfl)) (Mv.refl _ _)),rfl,HNC.out,(HI.out.r.ext gD).set 0 (.bool false)⟩
     ·have t2': ¬hi<v:=by have:=of_decide_eq_true t2;omega
      have T2:decide (hi<v)=false:=decide_eq_false t2'
      have HNO:=Xh (show numOk x i=true by
       obtain⟨p,h1,h2,h3⟩:=HP.out
       unfold numOk;rw [HKX.out,h1];show inP (Qe2 x i) p.lo p.hi=true;rw [h2,h3,HVV.out];unfold inP;rw [t1,t2];rfl)
      clear t1 t2
      gi_upto_region 7 with(fail)
      refine ZW (fun _=>False) (fun _=>False) 16 (fun _=>trivial) (fun h=>by cases h) (fun f args w R h=>CallsIn.inRound y (callsIn_wide.2 h)) Kr Kr ?_;obtain⟨WA,hW⟩: ∃Wdr,World.drew W=Wdr:=⟨_,rfl⟩;have gD:Ext W WA:=by rw [←hW];exact Ext.dr (Ext.rf _)
      rw [hW];clear hW;have d0:=(gD.cell (p:=⟨Bx,0,none⟩) lx).trans d0;have d3:=(gD.cell (p:=⟨Bx,3,none⟩) lx).trans d3;have d4:=(gD.cell (p:=⟨Bx,4,none⟩) lx).trans d4;have cv:=(gD.cell (p:=⟨Bc,i+2,none⟩) lc).trans cv;have lx:=Xl lx gD.size;have lc:=Xl lc gD.size;refine Zi (N:=16) (R:=Qqi) (E:=((Tryz.f133.body.bind (Qh 7)).getD #[])) Kr Qkr Kr fun hS=> ?_;have hT:=hS.2.1;refine tWk 1 (.pointer (some ⟨Bx,0,none⟩)) hS.1 hT rfl fun hT=>tW 3 (.pointer (some ⟨Bc,i+2,none⟩)) hS.1 hT rfl (Qdj (C:=fun _=>False) d0 lx (fun h=>h) Kr) fun hT=>tWk 7 (.pointer (some ⟨Bc,i+2,none⟩)) hS.1 hT rfl fun hT=>tW 15 (.int .i64 v) hS.1 hT rfl (Q0 (C:=fun _=>False) cv lc (fun h=>h) Kr) fun hT=>tWk 31 (.pointer (some ⟨Bx,3,none⟩)) hS.1 hT rfl fun hT=>tW 63 (.int .i64 lo) hS.1 hT rfl (Q0 (C:=fun _=>False) d3 lx (fun h=>h) Kr) fun hT=>tW 127 (.bool false) hS.1 hT rfl (fun w' _=>Qe3 T1 Kr Kr w') fun hT=>tWk 255 (.bool false) hS.1 hT rfl fun hT=>tWk 511 (.pointer (some ⟨Bx,0,none⟩)) hS.1 hT rfl fun hT=>tW 1023 (.pointer (some ⟨Bc,i+2,none⟩)) hS.1 hT rfl (Qdj (C:=fun _=>False) d0 lx (fun h=>h) Kr) fun hT=>tWk 2047 (.pointer (some ⟨Bc,i+2,none⟩)) hS.1 hT rfl fun hT=>tW 4095 (.int .i64 v) hS.1 hT rfl (Q0 (C:=fun _=>False) cv lc (fun h=>h) Kr) fun hT=>tWk 8191 (.pointer (some ⟨Bx,4,none⟩)) hS.1 hT rfl fun hT=>tW 16383 (.int .i64 hi) hS.1 hT rfl (Q0 (C:=fun _=>False) d4 lx (fun h=>h) Kr) fun hT=> ?_;have hT:=hS.2.2.1;refine tW 32767 (.bool false) hS.1 hT rfl (fun w' _=>QiQ T2 Kr Kr w') fun hT=>tWk 65535 (.bool false) hS.1 hT rfl fun hT=> ?_;refine QZ hS.2.2.2 ?_;clear hS hT;go_simp;have fv:WA.frozen? ⟨Bc,i+2,none⟩=false:=((HI.out.c.ext gD)).frz (i+2)
      gi_wp2
      have m9:Mv (fun q=>q=Bc) WA (WA.setCell ⟨Bc,i+2,none⟩ (.int .i64 0)):=Mv.st _ (.inl rfl) (Mv.refl _ _);refine⟨(Mv.of_ext gD).trans (m9.mono fun q _ h=> .inl h),?_,(HI.out.r.ext gD).mv m9 Om,(HI.out.b.ext gD).mv m9 Om,fun j hj=> ?_⟩
      ·have h:=(HI.out.c.ext gD).set (i+2) (.int .i64 0)
       rwa [QsQ x hi4]at h
      ·rcases Nat.lt_or_ge j i with h|h
       ·exact HI.out.ok j h
       ·obtain rfl:j=i:=by omega
        exact HNO.out
   case done=>
    rintro W hS hI hv hK;have hlen:(Jo Bc k).length=(Jo 0 x.ki).length:=by rw [HKX.out];rcases hk with rfl|rfl|rfl<;>rfl
    rw [hlen]at hI
    have HN:=Xh (show crB x=Zm (zer (Jo 0 x.ki).length x) (QcG x.ki)by
     unfold crB;rw [HBD.out,show((List.range (Jo 0 x.ki).length).all fun j=>numOk x j)=true from List.all_eq_true.2 fun j hj=>hI.ok j (List.mem_range.1 hj)]
     rfl)
    obtain⟨Z,hZ⟩: ∃Z,zer (Jo 0 x.ki).length x=Z:=⟨_,rfl⟩;have hZk:Z.ki=k:=by rw [←hZ];exact HKX.out
    have hic:=hI.c;rw [hZ]at HN hic;have c0:W.cell? ⟨Bc,0,none⟩=some (.int .u8 k):=by rw [←hZk];exact QG hic.r 0 Om
    have hrc:=hic.r;have hrb:=hI.b.r;have lc:=hic.l;have hib:=hI.b;have HIR:=Xh hI.r;have HSA:=Xh (fun W=>Qkm Z (QcG x.ki) ⟨rfl,rfl,rfl⟩ W);have EV:Ext w W:=Mv.ext_of E4 hv (fun q h=>by rcases h with h|h|h;exact h.elim;omega;omega);have lK:=(Array.getElem?_eq_some_iff.1 hK).1;have HKK:=Xh hK;clear hI hlen hZ hv hS hic hib hK;have hk4:(k==4)=false:=by rcases hk with rfl|rfl|rfl<;>rfl
    have hk5:(k==5)=false:=by rcases hk with rfl|rfl|rfl<;>rfl
    go_wp2_with (go_at_call 196;(refine(HSA.out _).mono ?_);rintro e W6 ⟨rfl,g6⟩;have cr:=(HIR.out.ext g6).cell 0 Nat.zero_lt_one;have fr:=(HIR.out.ext g6).frz 0;have lr:=(HIR.out.ext g6).l)
    try simp only [Exit.jump]
    obtain⟨W7,hW7⟩: ∃W7,W6.setCell ⟨Br,0,none⟩ (.bool (Zm Z (QcG x.ki)))=W7:=⟨_,rfl⟩;have m7:Mv (fun q=>q=Br) W6 W7:=by rw [←hW7];exact Mv.st _ (.inl rfl) (Mv.refl _ _)
    have r7:RowZ W7 Br #[.bool (Zm Z (QcG x.ki))]:=by rw [←hW7];exact(HIR.out.ext g6).set 0 _
    have lr4:Br<W4.heap.size:=q2.l;have hk7:W7.heap[W4.heap.size]?=some (.deferred (some [])):=(m7.same W4.heap.size (Xl lK g6.size) Om).trans ((g6.block _ lK).trans HKK.out);rw [hW7];clear hW7;refine⟨by simp,.inl ⟨_,_,rfl,run_takeDeferred hk7,?_⟩⟩;have m3:Mv (fun q=>q=W4.heap.size) W7 (W7.putObj W4.heap.size (.deferred none)):=Mv.put _ _ _ rfl;have hq:=(r7.mv m3 Om).cell 0 Nat.zero_lt_one;refine⟨_,Zv rfl _ _ Br rfl (Qkn hq),by rw [HN.out],Mv.ext_of (Mv.ext_of (EV.tr g6) m7 (fun q e=>by omega)) m3 (fun q e=>by have:=E4.size;omega)⟩
   case stop=>
    rintro cc W ⟨rfl,hn,hd⟩ hv hK;have HN:=Xh hn;have HD:=Xh hd;have EV:Ext w W:=Mv.ext_of E4 hv (fun q h=>by rcases h with h|h|h;exact h.elim;omega;omega);clear hn hd hv;refine wpIn_ret ?_
    try simp only [Exit.inBlock,Exit.then,Exit.jump]
    have lr4:Br<W4.heap.size:=q2.l;have EV':=EV;refine⟨by simp,.inl ⟨_,_,rfl,run_takeDeferred hK,?_⟩⟩;have m3:Mv (fun q=>q=W4.heap.size) W (W.putObj W4.heap.size (.deferred none)):=Mv.put _ _ _ rfl;have hq:=(HD.out.mv m3 Om).cell 0 Nat.zero_lt_one;refine⟨_,Zv rfl _ _ Br rfl (Qkn hq),by rw [HN.out],Mv.ext_of EV m3 (fun q e=>by have:=E4.size;omega)⟩
def ackOk(x:Ct):Bool:=decide (x.ki≤3)&&crB x
def QaA(x:Ct):Ct:=if ackOk x then⟨4,x.ki,x.ag,x.bu,x.ge,0,0,0,0,none,0,0⟩else⟨0,0,0,0,0,0,0,0,0,none,0,0⟩
theorem Qqj(x:Ct)(w:World)(h0:0≤x.ki)(hof:0≤x.of_∧x.of_<256):
  Cr 55 #[.agg (ctv x)] w (.tuple #[.agg (ctv (QaA x)),.bool (ackOk x)]):=by
 have HR:=Xh (fun W (hk:x.ki≤3)=>Qks x W Om hof)
 go_enter Tryz.func55,Tryz.ntmps55
 go_upto_region 1 with(fail)
 obtain⟨W0,hW⟩: ∃W0,(w.alloc (.cells (ctv x) 33)).alloc (.cells #[.int .u8 0,.int .u8 0,.int .i64 0,.int .i64 0,.int .i64 0,.int .i64 0,.int .i64 0,.int .i64 0,.int .i64 0,.slice none 0 0] 33)=W0:=⟨_,rfl⟩;have g0:Ext w W0:=by rw [←hW];exact Ext.al Ea _
 have ra:RowZ W0 w.heap.size (ctv x):=by rw [←hW];exact⟨by simp [go_sem],by simp [go_sem],by simp [go_sem,Lt]⟩
 have rz:RowZ W0 (w.heap.size+1) #[.int .u8 0,.int .u8 0,.int .i64 0,.int .i64 0,.int .i64 0,.int .i64 0,.int .i64 0,.int .i64 0,.int .i64 0,.slice none 0 0]:=by rw [←hW];exact⟨by simp [go_sem],by simp [go_sem],by simp [go_sem,Lt]⟩
 rw [hW];clear hW;have c0:W0.cell? ⟨w.heap.size,0,none⟩=some (.int .u8 x.ki):=QG ra.r 0 Om;have hra:=ra.r;have la:=ra.l;have hrz:=rz.r;have hzz:=rz.z;have HRA:=Xh ra;have HRZ:=Xh rz;clear ra rz
 cases h1:decide (x.ki≤3)
 ·have h1':3<x.ki:=by have:=of_decide_eq_false h1;omega
  have HN:=Xh (show ackOk x=false∧QaA x=⟨0,0,0,0,0,0,0,0,0,none,0,0⟩by unfold QaA ackOk;rw [h1];exact⟨rfl,rfl⟩);clear h1;go_wp2;have hr:Qc (Qe W0 (w.heap.size+1) 0 #[.int .u8 0,.int .u8 0,.int .i64 0,.int .i64 0,.int .i64 0,.int .i64 0,.int .i64 0,.int .i64 0,.int .i64 0,.slice none 0 0]) (w.heap.size+1)=ctv ⟨0,0,0,0,0,0,0,0,0,none,0,0⟩:=by rw [Qq _ _ _ (by rw [hrz]),ZB]
  exact bodyPost_ret (QL rfl _ _ (w.heap.size+1) rfl (QdO hr)) rfl ⟨by rw [HN.out.1,HN.out.2];rfl,Ext.sa _ Om g0⟩
 have h1': ¬3<x.ki:=by have:=of_decide_eq_true h1;omega
 have HC:=Xh (fun W=>HR.out W (of_decide_eq_true h1))
 cases h2:crB x
 ·have HN:=Xh (show ackOk x=false∧QaA x=⟨0,0,0,0,0,0,0,0,0,none,0,0⟩by unfold QaA ackOk;rw [h2];simp);rw [h2]at HC;clear h1 h2
  go_wp2_with (go_at_call 133;(refine(HC.out _).mono ?_);rintro e w1 ⟨rfl,g1⟩;have rz1:=HRZ.out.ext g1;have hrz1:=rz1.r;have hzz1:=rz1.z)
  have hr:Qc (Qe w1 (w.heap.size+1) 0 #[.int .u8 0,.int .u8 0,.int .i64 0,.int .i64 0,.int .i64 0,.int .i64 0,.int .i64 0,.int .i64 0,.int .i64 0,.slice none 0 0]) (w.heap.size+1)=ctv ⟨0,0,0,0,0,0,0,0,0,none,0,0⟩:=by rw [Qq _ _ _ (by rw [hrz1]),ZB]
  exact bodyPost_ret (QL rfl _ _ (w.heap.size+1) rfl (QdO hr)) rfl ⟨by rw [HN.out.1,HN.out.2];rfl,Ext.sa _ Om (g0.tr g1)⟩
 have HN:=Xh (show ackOk x=true∧QaA x=⟨4,x.ki,x.ag,x.bu,x.ge,0,0,0,0,none,0,0⟩by unfold QaA ackOk;rw [h1,h2];exact⟨rfl,rfl⟩);rw [h2]at HC;clear h1 h2
 go_wp2_with (go_at_call 133;(refine(HC.out _).mono ?_);rintro e w1 ⟨rfl,g1⟩;have rz1:=HRZ.out.ext g1;have hrz1:=rz1.r;have hzz1:=rz1.z;have ra1:=HRA.out.ext g1;have l1:=ra1.l;have d0:w1.cell? ⟨w.heap.size,0,none⟩=some (.int .u8 x.ki):=QG ra1.r 0 Om;have d2:w1.cell? ⟨w.heap.size,2,none⟩=some (.int .i64 x.ag):=QG ra1.r 2 Om;have d3:w1.cell? ⟨w.heap.size,3,none⟩=some (.int .i64 x.bu):=QG ra1.r 3 Om;have d4:w1.cell? ⟨w.heap.size,4,none⟩=some (.int .i64 x.ge):=QG ra1.r 4 Om)
 have hr:Qc (Qe w1 (w.heap.size+1) 0 #[.int .u8 4,.int .u8 x.ki,.int .i64 x.ag,.int .i64 x.bu,.int .i64 x.ge,.int .i64 0,.int .i64 0,.int .i64 0,.int .i64 0,.slice none 0 0]) (w.heap.size+1)=ctv ⟨4,x.ki,x.ag,x.bu,x.ge,0,0,0,0,none,0,0⟩:=by rw [Qq _ _ _ (by rw [hrz1];rfl),ZB]
 exact bodyPost_ret (QL rfl _ _ (w.heap.size+1) rfl (QdO hr)) rfl ⟨by rw [HN.out.1,HN.out.2];rfl,Ext.sa _ Om (g0.tr g1)⟩
@[go_sem] theorem Qyz{x}:(ctv x)[0]?=some (.int .u8 x.ki):=by rw [ZB];rfl
@[go_sem] theorem QyA{x}:(ctv x)[1]?=some (.int .u8 x.of_):=by rw [ZB];rfl
@[go_sem] theorem QyB{x}:(ctv x)[2]?=some (.int .i64 x.ag):=by rw [ZB];rfl
@[go_sem] theorem QyC{x}:(ctv x)[3]?=some (.int .i64 x.bu):=by rw [ZB];rfl
@[go_sem] theorem QyD{x}:(ctv x)[4]?=some (.int .i64 x.ge):=by rw [ZB];rfl
@[go_sem] theorem QyE{x}:(ctv x)[5]?=some (.int .i64 x.pe):=by rw [ZB];rfl
@[go_sem] theorem QyF{x}:(ctv x)[6]?=some (.int .i64 x.ve):=by rw [ZB];rfl
@[go_sem] theorem QyG{x}:(ctv x)[7]?=some (.int .i64 x.sb):=by rw [ZB];rfl
@[go_sem] theorem QyH{x}:(ctv x)[8]?=some (.int .i64 x.st):=by rw [ZB];rfl
@[go_sem] theorem QyI{x}:(ctv x)[9]?=some (.slice x.p x.n x.c):=by rw [ZB];rfl
open Go.RowKit
open Go.RowKit
structure Rw where
 bu:Int
 cu:Int
 pr:Int
 ge:Int
 ti:Int
def Rw.at(x:Rw)(j:Nat):Value:=match j with|0=> .int .i64 x.bu|1=> .int .i64 x.cu|2=> .int .i64 x.pr|3=> .int .i64 x.ge|_=> .int .i64 x.ti
def SlR(w:World)(p:Option Addr)(xs:List Rw):Prop:= ∀k,(h:k<xs.length)→ ∃b off,p=some ⟨b,off,none⟩∧b<w.heap.size∧w.cell? ⟨b,off+k*5,none⟩=some (.int .i64 xs[k].bu)∧w.cell? ⟨b,off+k*5+1,none⟩=some (.int .i64 xs[k].cu)∧w.cell? ⟨b,off+k*5+2,none⟩=some (.int .i64 xs[k].pr)∧w.cell? ⟨b,off+k*5+3,none⟩=some (.int .i64 xs[k].ge)∧w.cell? ⟨b,off+k*5+4,none⟩=some (.int .i64 xs[k].ti)
theorem SlR.ext{w':World}{p:Option Addr}{xs:List Rw}(h:SlR w p xs)(e:Ext w w'):SlR w' p xs:=fun k hk=>by
 obtain⟨b,off,hp,hb,c0,c1,c2,c3,c4⟩:=h k hk;exact⟨b,off,hp,Xl hb e.size,(e.cell (p:=⟨b,off+k*5,none⟩) hb).trans c0,(e.cell (p:=⟨b,off+k*5+1,none⟩) hb).trans c1,(e.cell (p:=⟨b,off+k*5+2,none⟩) hb).trans c2,(e.cell (p:=⟨b,off+k*5+3,none⟩) hb).trans c3,(e.cell (p:=⟨b,off+k*5+4,none⟩) hb).trans c4⟩
theorem SlR.nil(w:World)(p:Option Addr):SlR w p []:=fun k hk=>by simp at hk
open Go.RowKit
open Go.RowKit
section
attribute [local go_sem ↓ high] Qz Z1
theorem Qbb{ty:TypeId}(w:World):(execOp ρ ⟨dst,.build 33 #[],ty,pos,after,g⟩).run Tryz.prog w= .ok (.value (.agg #[.int .u8 0,.int .u8 0,.int .i64 0,.int .i64 0,.int .i64 0,.int .i64 0,.int .i64 0,.int .i64 0,.int .i64 0,.slice none 0 0])) w:=Kr
attribute [go_sem ↓ high] Qbb
theorem listV{ops:Array Oper}{rest:List Oper}{o:Oper}{w':World}{v:Value}(hg:o.guard=none)(he:(execOp a.eval o).run Tryz.prog w= .ok (.value v) w')(h:wpList Tryz.prog ops Q rest (a.put o.dst v) w'):wpList Tryz.prog ops Q (o::rest) a w:=by
 refine wpList_plain hg fun K hK=> ?_;unfold Oper.wp;rw [he,Oper.upon_value];exact hK _ _ h
theorem Zj{ops:Array Oper}{rest:List Oper}{o:Oper}{w':World}(hg:o.guard=none)(he:(execOp a.eval o).run Tryz.prog w= .ok .skip w')(h:wpList Tryz.prog ops Q rest (a.put o.dst undef) w'):wpList Tryz.prog ops Q (o::rest) a w:=by
 refine wpList_plain hg fun K hK=> ?_;unfold Oper.wp;rw [he,Oper.upon_skip];exact hK _ _ h
theorem SlC.mvt{A B:World}{n k:Nat}{p:Option Addr}{xs:List Co}(h:SlC A p xs)(m:Mv (fun q=>q=n∨q=k) A B)(hb: ∀b off,p=some ⟨b,off,none⟩→b≠n∧b≠k):SlC B p xs:=fun j hk=>by
 obtain⟨b,off,h1,h2,c0,c1,c2,c3,c4,c5⟩:=h j hk;have e:=Qf (m.same b h2 (fun e=>by have:=hb b off h1;omega));simp only [Qa]at c0 c1 c2 c3 c4 c5⊢;exact⟨b,off,h1,Xl h2 m.size,by rw [e];exact c0,by rw [e];exact c1,by rw [e];exact c2,by rw [e];exact c3,by rw [e];exact c4,by rw [e];exact c5⟩
theorem SlE.mvt{A B:World}{n k:Nat}{p:Option Addr}{xs:List Ev}(h:SlE A p xs)(m:Mv (fun q=>q=n∨q=k) A B)(hb: ∀b off,p=some ⟨b,off,none⟩→b≠n∧b≠k):SlE B p xs:=fun j hk=>by
 obtain⟨b,off,h1,h2,c0,c1,c2,c3,c4,c5⟩:=h j hk;have e:=Qf (m.same b h2 (fun e=>by have:=hb b off h1;omega));simp only [Qa]at c0 c1 c2 c3 c4 c5⊢;exact⟨b,off,h1,Xl h2 m.size,by rw [e];exact c0,by rw [e];exact c1,by rw [e];exact c2,by rw [e];exact c3,by rw [e];exact c4,by rw [e];exact c5⟩
theorem QaB{a:Option Addr}{m c:Nat}(h0:w.cell? ⟨B,i,none⟩=some (.slice a m c))(hl:Lt B w)(hC: ¬C B){q:Operand}{ty:TypeId}
  (hx:ρ q= .pointer (some ⟨B,i,none⟩)): ∀w',Mv C w w'→(execOp ρ ⟨dst,.load 25 q,ty,pos,after,g⟩).run Tryz.prog w'= .ok (.value (.slice a m c)) w':=by
 intro w' hE;have h1:w'.cell? ⟨B,i,none⟩=some (.slice a m c):=by rw [Qa,Qf (hE.same B hl hC),←Qa];exact h0
 simp only [execOp,hx];go_simp
def QyJ(xs:List Co)(v:Value)(w':World):Prop:= ∃p c,v= .slice p xs.length c∧SlC w' p xs
theorem QAl(p:Option Addr)(xs:List Co)(c:Nat)(k:Int)(w:World)(hs:SlC w p xs)(hl:xs.length≤1000)(hr: ∀x∈xs,TuR x.t):Calls Tryz.prog 61 #[.slice p xs.length c,.int .i64 k] w fun e w'=> ∃v,e= .returned v∧QyJ (xs.filter (inB k)) v w'∧Ext w w':=
 (Qr8 p xs c k w hs hl hr).mono fun e w' ⟨v,h1,h2,h3⟩=>⟨v,h1,(by obtain⟨q,d,e,-,s⟩:=SlC.own h2;exact⟨q,d,e,s⟩),h3⟩
def Q7(m:Ru.Md):Md:=⟨m.k,m.p,m.g,m.r⟩
theorem Qhk(m:Ru.Md):m.v= .agg (mdv (Q7 m)):=by rw [YH];rfl
theorem Qnp(m:Md)(gen peer:Int)(w:World)(h0:0≤m.kind):Cr 56 #[.agg (mdv m),.int .i64 gen,.int .i64 peer] w (.tuple #[.agg (mdv (Q7 (Ru.Qpn (toR m) gen peer))),.bool (Ru.QjT (toR m) gen peer)]):=by
 rw [Qaw,←Qhk];exact Ru.Qw1 (toR m) gen peer w h0
theorem Qnq(m:Md)(gen peer:Int)(w:World)(h0:0≤m.kind):Cr 57 #[.agg (mdv m),.int .i64 gen,.int .i64 peer] w (.tuple #[.agg (mdv (Q7 (Ru.Qpm (toR m) gen peer))),.bool (Ru.QjS (toR m) gen peer)]):=by
 rw [Qaw,←Qhk];exact Ru.Qw0 (toR m) gen peer w h0
theorem Qkt(m:Md)(gen:Int)(w:World)(h0:0≤m.kind):Cr 58 #[.agg (mdv m),.int .i64 gen] w (.tuple #[.agg (mdv (Q7 (Ru.QjU (toR m) gen))),.bool (Ru.Qd4 (toR m) gen)]):=by
 rw [Qaw,←Qhk];exact Ru.Qvw (toR m) gen w h0
def YP(a:Ag)(o:Nat)(m:Md):Ag:={a with md:=fun i=>if i=o then m else a.md i}
theorem RowZ.md{o:Nat}{a:Ag}(h:RowZ w B (agv a))(ho:o<16)(m:Md):RowZ (Qe w B (2+o*4) (mdv m)) B (agv (YP a o m)):=⟨QiG m h.r ho,by rw [ZV];exact h.z,by rw [QaS];exact h.l⟩
theorem Qnr{a:Ag}{o:Nat}(ho:o<16):QB (agv a) (2+o*4) 4=mdv (a.md o):=by
 unfold agv mdv;rw [Q5 _ _ _ _ Om];refine QH _ _ _ fun j hj=> ?_;unfold Ag.at;rw [if_neg Om,if_neg Om,if_pos Om,show(2+o*4+j- 2)/4=o by omega,show(2+o*4+j- 2) % 4=j by omega]
theorem Qhl{o:Nat}{a:Ag}(h0:RowZ w B (agv a))(ho:o<16)(hC: ¬C B){q:Operand}{ty:TypeId}
  (hx:ρ q= .pointer (some ⟨B,2+o*4,none⟩)): ∀w',Mv C w w'→(execOp ρ ⟨dst,.load 23 q,ty,pos,after,g⟩).run Tryz.prog w'= .ok (.value (.agg (mdv (a.md o)))) w':=by
 intro w' hE;have h1:=h0.mv hE hC;have e:=QcB ρ dst q ty pos after g w' (by rw [hx];rfl) (by rw [hx];show Fits (2+o*4) 4 (Qc w' B);rw [h1.r];unfold Fits;rw [Qg];omega);rw [e,hx];show Result.ok (Next.value (Value.agg (QB (Qc w' B) (2+o*4) 4))) w'=_;rw [h1.r,Qnr ho]
theorem Qe4{o:Nat}{a:Ag}{m:Md}(h0:RowZ w B (agv a))(ho:o<16){ty:TypeId}
  (hx:ρ x= .pointer (some ⟨B,2+o*4,none⟩))(hy:ρ y= .agg (mdv m)):(execOp ρ ⟨dst,.store 23 x y,ty,pos,after,g⟩).run Tryz.prog w= .ok .skip (Qe w B (2+o*4) (mdv m)):=by
 have e:=QbM ρ dst x y ty pos after g w (by rw [hx];rfl) (by rw [hy];rfl) (by rw [hy];exact J2) (by rw [hx];show Fits (2+o*4) 4 (Qc w B);rw [h0.r];unfold Fits;rw [Qg];omega) (by rw [hx];exact h0.z) (by rw [hy];exact Qsf);rw [e,hx,hy];rfl
theorem YJ{P:Program}{fn:Func}{p q r s:Tmp}{ty ty2:TypeId}{v v2:Value}(h:fn.results=#[.cell p ty,.tmp q,.cell r ty2,.tmp s])(tmps:Array Value)(w:World)(g g2:Nat)
  (hp:tmps.getD p undef= .pointer (some ⟨g,0,none⟩))(hr:tmps.getD r undef= .pointer (some ⟨g2,0,none⟩))(hl:(loadVar ty ⟨g,0,none⟩).run P w= .ok v w)(hl2:(loadVar ty2 ⟨g2,0,none⟩).run P w= .ok v2 w):(results fn tmps).run P w= .ok (.tuple #[v,tmps.getD q undef,v2,tmps.getD s undef]) w:=by
 have hp':tmps[p]?.getD undef= .pointer (some ⟨g,0,none⟩):=by simpa using hp
 have hr':tmps[r]?.getD undef= .pointer (some ⟨g2,0,none⟩):=by simpa using hr
 simp [results,h,hp',hr',asAddr,hl,hl2]
theorem Qku{b:Nat}{v:Value}(h:w.cell? ⟨b,i,none⟩=some v):w.setCell ⟨b,i,none⟩ v=w:=by
 have key:(w.heap.modify b fun x=>match x with|Obj.cells c elem frozen=>Obj.cells (if(none:Option Nat).isSome=true then c else c.setIfInBounds i v) elem frozen|o=>o)=w.heap:=by
  apply Array.ext_getElem?
  intro k;rw [Array.getElem?_modify]
  split
  ·rename_i e
   subst e;unfold World.cell? at h
   cases hb:w.heap[b]? with
   |none=>rfl
   |some o=>
    simp only [hb]at h
    cases o with
    |cells c t f=>
     simp only [Option.isSome_none,Bool.false_eq_true,if_false]at h;simp only [Option.map_some,Option.isSome_none,Bool.false_eq_true,if_false];have:c.setIfInBounds i v=c:=by
      apply Array.ext_getElem?
      intro j;rw [Array.getElem?_setIfInBounds]
      split
      ·rename_i e2
       subst e2
       split
       ·exact h.symm
       ·rename_i hn
        rw [Array.getElem?_eq_none Om]
      ·rfl
     rw [this]
    |_=>cases h
  ·rfl
 exact congrArg (fun hp=>({heap:=hp,tape:=w.tape,drawn:=w.drawn,os:=w.os,output:=w.output}:World)) key
theorem QiR: ∀(vs:List Value) (w:World) (b o:Nat),(∀j v,vs[j]?=some v→w.cell? ⟨b,o+j,none⟩=some v)→w.setCells b o vs=w:=by
 intro vs
 induction vs with
 |nil=>intro w b o _;rfl
 |cons v vs ih=>
  intro w b o h;have h0:=Qku (h 0 v rfl);show(w.setCell ⟨b,o,none⟩ v).setCells b (o+1) vs=w;rw [show w.setCell ⟨b,o,none⟩ v=w from h0];exact ih w b (o+1) fun j u hu=>by have:=h (j+1) u hu;rw [show o+1+j=o+(j+1)by omega];exact this
theorem Qac{b:Nat}{cs:Array Value}(h:RowZ w b cs):Qe w b 0 cs=w:=by
 unfold Qe;refine QiR _ _ _ _ fun j v hj=> ?_;rw [Qa,h.r,Nat.zero_add];simpa using hj
theorem QI{j k:Nat}{v:Value}(h:j≠k):(a.put (some k) v).eval (.tmp j)=a.eval (.tmp j):=by
 simp only [Act.put,Act.eval,Array.getD_eq_getD_getElem?];rw [Array.getElem?_setIfInBounds_ne Om]
theorem QaC{k:Nat}{v:Value}(h:k<a.tmps.size):(a.put (some k) v).eval (.tmp k)=v:=by
 simp only [Act.put,Act.eval,Array.getD_eq_getD_getElem?];rw [Array.getElem?_setIfInBounds_self_of_lt h];rfl
theorem Zy{k:Option Nat}{v:Value}:(a.put k v).tmps.size=a.tmps.size:=by cases k<;>simp [Act.put]
theorem QaD{P:Program}{ops:Array Oper}{C:World→Prop}{Q:Act→Prop}{o:Oper}{rest:List Oper}(v:Value)(hg:o.guard=none)(h: ∀w,C w→(execOp a.eval o).run P w= .ok (.value v) w)(k:wpQuiet P ops C Q rest (a.put o.dst v)):wpQuiet P ops C Q (o::rest) a:=by
 unfold wpQuiet;rw [if_pos (by simp [Region.wanted,hg])];exact⟨v,fun w hw=>by unfold Oper.quietAt;rw [h w hw];exact⟨rfl,rfl⟩,k⟩
theorem Qdk{P:Program}{ops:Array Oper}{C:World→Prop}{Q:Act→Prop}{o:Oper}{rest:List Oper}(hg:o.guard=none)(h: ∀w,C w→(execOp a.eval o).run P w= .ok .skip w)(k:wpQuiet P ops C Q rest (a.put o.dst undef)):wpQuiet P ops C Q (o::rest) a:=by
 unfold wpQuiet;rw [if_pos (by simp [Region.wanted,hg])];exact⟨undef,fun w hw=>by unfold Oper.quietAt;rw [h w hw];exact⟨rfl,rfl⟩,k⟩
theorem Jf{v:Value}:(a.put none v).eval x=a.eval x:=rfl
theorem QvN{v:Value}{q:Operand}{ty:TypeId}(hx:ρ q=v)(w:World):(execOp ρ ⟨dst,.move q,ty,pos,after,g⟩).run Tryz.prog w= .ok (.value v) w:=by simp [execOp,hx]
theorem Ql7{v:Value}{q:Operand}{ty:TypeId}(hx:ρ q=v)(w:World):(execOp ρ ⟨dst,.assign q,ty,pos,after,g⟩).run Tryz.prog w= .ok (.value v) w:=by simp [execOp,hx]
theorem QcH{id:Nat}{b4 b6:Nat}{A:Ag}{K:Ct}{EV:Value}(h4:a.eval (.tmp 4)= .pointer (some ⟨b4,0,none⟩))(h6:a.eval (.tmp 6)= .pointer (some ⟨b6,0,none⟩))(h5:a.eval (.tmp 5)=EV)(hz:a.tmps.size=101)(r4:RowZ w b4 (agv A))(r6:RowZ w b6 (ctv K))
  (H: ∀a' w',Ext w w'→RowZ w' b4 (agv A)→RowZ w' b6 (ctv K)→a'.eval (.tmp 4)= .pointer (some ⟨b4,0,none⟩)→a'.eval (.tmp 6)= .pointer (some ⟨b6,0,none⟩)→a'.eval (.tmp 5)=EV→a'.eval (.tmp 7)= .bool true→a'.defers=a.defers→Q .normal a' w'):(Code.region id #[⟨some 98,.load 27 (.tmp 4),27, "agent.go:160",#[],none⟩,⟨some 99,.move (.tmp 5),39, "agent.go:160",#[⟨3,.gcOnly .lateStores⟩],none⟩,⟨some 100,.load 33 (.tmp 6),33, "agent.go:160",#[⟨4,.gcOnly .lateStores⟩],none⟩,⟨none,.store 27 (.tmp 4) (.tmp 98),0, "agent.go:160",#[⟨0,.data⟩,⟨0,.phase⟩,⟨1,.textOnly .lateStores⟩,⟨2,.textOnly .lateStores⟩],none⟩,⟨some 5,.assign (.tmp 99),39, "agent.go:160",#[⟨1,.data⟩,⟨3,.chain⟩,⟨0,.phase⟩,⟨1,.phase⟩,⟨2,.textOnly .lateStores⟩,⟨3,.phase⟩],none⟩,⟨none,.store 33 (.tmp 6) (.tmp 100),0, "agent.go:160",#[⟨2,.data⟩,⟨4,.chain⟩,⟨0,.phase⟩,⟨1,.phase⟩,⟨2,.phase⟩,⟨3,.phase⟩,⟨4,.phase⟩],none⟩,⟨some 7,.assign (.const (.bool true)),4, "agent.go:160",#[⟨5,.chain⟩,⟨0,.phase⟩,⟨1,.phase⟩,⟨2,.phase⟩,⟨3,.phase⟩,⟨4,.phase⟩,⟨5,.phase⟩],none⟩] true).wp Tryz.prog Q a w:=by
 refine wp_region_quiet (C:=fun w'=>Ext w w'∧RowZ w' b4 (agv A)∧RowZ w' b6 (ctv K)) Kr Kr ⟨Ext.dr (Ext.rf w),r4.ext (Ext.dr (Ext.rf w)),r6.ext (Ext.dr (Ext.rf w))⟩ ?_;refine QaD (.agg (agv A)) rfl (fun w' hw=>Zx (C:=fun _=>False) hw.2.1 (fun h=>h) h4 _ (Mv.refl _ _)) ?_;refine QaD EV rfl (fun w' hw=>QvN (by show Act.eval _ _=_;rw [QI Dc];exact h5) _) ?_;refine QaD (.agg (ctv K)) rfl (fun w' hw=>Qqb (C:=fun _=>False) hw.2.2 (fun h=>h) (by show Act.eval _ _=_;rw [QI Dc,QI Dc];exact h6) _ (Mv.refl _ _)) ?_;refine Qdk rfl (fun w' hw=>(Ze (B:=b4) (cs:=agv A) (by rw [hw.2.1.r];exact Qg) hw.2.1.z Qg Zr (by show Act.eval _ _=_;rw [QI Dc,QI Dc,QI Dc];exact h4) (by show Act.eval _ _=_;rw [QI Dc,QI Dc];exact QaC Om)).trans (by rw [Qac hw.2.1])) ?_;refine QaD EV rfl (fun w' hw=>Ql7 (by show Act.eval _ _=_;rw [Jf,QI Dc];exact QaC (by rw [Zy];omega)) _) ?_;refine Qdk rfl (fun w' hw=>(JF (B:=b6) (cs:=ctv K) (by rw [hw.2.2.r];exact QS) hw.2.2.z QS Qbw (by show Act.eval _ _=_;rw [QI Dc,Jf,QI Dc,QI Dc,QI Dc];exact h6) (by show Act.eval _ _=_;rw [QI Dc,Jf];exact QaC (by rw [Zy,Zy];omega))).trans (by rw [Qac hw.2.2])) ?_;refine QaD (.bool true) rfl (fun w' hw=>Ql7 rfl _) ?_;refine wpQuiet_nil fun w' hw=>H _ w' hw.1 hw.2.1 hw.2.2 ?_ ?_ ?_ ?_ rfl
 ·show Act.eval _ _=_;rw [QI Dc,Jf,QI Dc,Jf,QI Dc,QI Dc,QI Dc];exact h4
 ·show Act.eval _ _=_;rw [QI Dc,Jf,QI Dc,Jf,QI Dc,QI Dc,QI Dc];exact h6
 ·show Act.eval _ _=_;rw [QI Dc,Jf];exact QaC (by rw [Zy,Zy,Zy,Zy];omega)
 ·show Act.eval _ _=_;exact QaC (by rw [Zy,Zy,Zy,Zy,Zy,Zy];omega)
def JI(a:Ag)(x:Ct):Bool:=ackOk x&&(x.ag==a.id&&agR a)
def Jp(x:Ct)(m:Md):Md:=if x.ki=1 then Q7 (Ru.Qpn (toR m) x.ge x.pe)else if x.ki=2 then Q7 (Ru.Qpm (toR m) x.ge x.pe)else Q7 (Ru.QjU (toR m) x.ge)
def Jq(x:Ct)(m:Md):Bool:=if x.ki=3 then Ru.Qd4 (toR m) x.ge else false
def Zt(a:Ag)(x:Ct):Ag:=if JI a x then YP a x.bu.toNat (Jp x (a.md x.bu.toNat))else a
def Jg(a:Ag)(x:Ct):Bool:=JI a x&&Jq x (a.md x.bu.toNat)
def Yb(a:Ag)(x:Ct):List Co:=if Jg a x then a.xs.filter (fun c=>!inB x.bu c)else a.xs
def Yc(a:Ag)(x:Ct):List Ev:=if Jg a x then ZN a.id (a.xs.filter (inB x.bu))else []
def JR(a:Ag)(x:Ct):Ct:=if JI a x then QaA x else⟨0,0,0,0,0,0,0,0,0,none,0,0⟩
def QvO(w:World)(a:Ag)(x:Ct)(e:Ending)(w':World):Prop:= ∃p c q d,e= .returned (.tuple #[.agg (agv {Zt a x with p:=p,xs:=Yb a x,c:=c}),.slice q (Yc a x).length d,.agg (ctv (JR a x)),.bool (JI a x)])∧SlC w' p (Yb a x)∧SlE w' q (Yc a x)∧Ext w w'
theorem Qf6{a:Ag}{x:Ct}(h0:0≤x.ki)(h:JI a x=true):(x.ki=1∨x.ki=2∨x.ki=3)∧0≤x.bu∧x.bu<16∧agR a=true∧x.ag=a.id:=by
 unfold JI ackOk at h;simp only [Bool.and_eq_true,beq_iff_eq,decide_eq_true_eq]at h;obtain⟨⟨h3,hc⟩,hag,hR⟩:=h;unfold crB at hc;simp only [Bool.and_eq_true,Bool.not_eq_true']at hc;obtain⟨hb,hn,-⟩:=hc;have hk:x.ki=1∨x.ki=2∨x.ki=3:=by
  unfold badC at hb;simp only [Bool.or_eq_false_iff,beq_eq_false_iff_ne,ne_eq]at hb;omega
 have h1:=List.all_eq_true.1 hn 1 (List.mem_range.2 (by unfold Jo;rw [List.length_append];show 1<3+_;omega));have h2:numOk x 1=inP x.bu 0 15:=by rcases hk with h|h|h<;>(unfold numOk;rw [h];rfl)
 rw [h2]at h1;unfold inP at h1;simp only [Bool.and_eq_true,decide_eq_true_eq]at h1;exact⟨hk,h1.1,Om,hR,hag⟩
def Ql8(ops:Array Oper):Prop:=Region.noSelect ops=true∧Qo ops 10 [0,1,2,3,4,5] 0=true∧Rd ops 10 63 [6]∧Rd ops 10 127 [7]∧Rd ops 10 255 [8]∧Qo ops 10 [9] 511=true∧Rd ops 10 1023 []
theorem QiS:Ql8 ((Tryz.f16.body.bind (Qh 14)).getD #[]):=⟨Kr,Kr,Rk,Rk,Rk,Kr,Rk⟩
def Qqk(ops:Array Oper):Prop:=Region.noSelect ops=true∧Qo ops 14 [0,1,2,3,4,5,6,7] 0=true∧Rd ops 14 255 [8]∧Qo ops 14 [9,10,11,12] 511=true∧Rd ops 14 8191 [13]∧Rd ops 14 16383 []∧lateB .any ops 13 3=true
theorem Qkv:Qqk ((Tryz.f16.body.bind (Qh 8)).getD #[]):=⟨Kr,Kr,Rk,Kr,Rk,Rk,Kr⟩
def Qql(ops:Array Oper):Prop:=Region.noSelect ops=true∧Qo ops 14 [0,1,2,3,4,5,6,7] 0=true∧Rd ops 14 255 [8]∧Qo ops 14 [9,10,11,12] 511=true∧Rd ops 14 8191 [13]∧Rd ops 14 16383 []∧lateB .any ops 13 3=true
theorem Qkw:Qql ((Tryz.f16.body.bind (Qh 10)).getD #[]):=⟨Kr,Kr,Rk,Kr,Rk,Rk,Kr⟩
def Qqm(ops:Array Oper):Prop:=Region.noSelect ops=true∧Qo ops 13 [0,1,2,3,4,5] 0=true∧Rd ops 13 63 [6]∧Qo ops 13 [7,8,9,10] 127=true∧Rd ops 13 2047 [11]∧Qo ops 13 [12] 4095=true∧Rd ops 13 8191 []∧lateB .any ops 11 3=true
theorem Qkx:Qqm ((Tryz.f16.body.bind (Qh 12)).getD #[]):=⟨Kr,Kr,Rk,Kr,Rk,Kr,Rk,Kr⟩
theorem Qdl(a:Ag)(x:Ct)(w:World)(hs:SlC w a.p a.xs)(hl:a.xs.length≤1000)(hr: ∀x∈a.xs,TuR x.t)(hk: ∀k,k<16→0≤(a.md k).kind)(h0:0≤x.ki)(hof:0≤x.of_∧x.of_<256):
  Calls Tryz.prog 16 #[.agg (agv a),.agg (ctv x)] w (QvO w a x):=by
 have HRT:=Xh (fun W (hE:Ext w W)=>YX a W (hs.ext hE) hl hr hk);have HOW:=Xh (fun W (hE:Ext w W)=>QcD a W (hs.ext hE) hl);have HAK:=Xh (fun W=>Qqj x W h0 hof);have HS:=Xh hs;have HTU:=Xh hr;have HKI:=Xh hk;clear hs hr hk
 go_enter Tryz.func16,Tryz.ntmps16
 go_upto_region 1 with(fail)
 obtain⟨W0,hW⟩: ∃W0,(((w.alloc (.cells (agv a) 27)).alloc (.cells (ctv x) 33)).alloc (.cells (agv agz) 27)).alloc (.cells #[.int .u8 0,.int .u8 0,.int .i64 0,.int .i64 0,.int .i64 0,.int .i64 0,.int .i64 0,.int .i64 0,.int .i64 0,.slice none 0 0] 33)=W0:=⟨_,rfl⟩;have g0:Ext w W0:=by rw [←hW];exact Ext.al (Ext.al (Ext.al Ea _) _) _
 have rA:RowZ W0 w.heap.size (agv a):=by rw [←hW];exact⟨by simp [go_sem],by simp [go_sem],by simp [go_sem,Lt]⟩
 have rX:RowZ W0 (w.heap.size+1) (ctv x):=by rw [←hW];exact⟨by simp [go_sem],by simp [go_sem],by simp [go_sem,Lt]⟩
 have rO:RowZ W0 (w.heap.size+1+1) (agv agz):=by rw [←hW];exact⟨by simp [go_sem],by simp [go_sem],by simp [go_sem,Lt]⟩
 have rK:RowZ W0 (w.heap.size+1+1+1) #[.int .u8 0,.int .u8 0,.int .i64 0,.int .i64 0,.int .i64 0,.int .i64 0,.int .i64 0,.int .i64 0,.int .i64 0,.slice none 0 0]:=by rw [←hW];exact⟨by simp [go_sem],by simp [go_sem],by simp [go_sem,Lt]⟩
 have hsz:W0.heap.size=w.heap.size+4:=by rw [←hW];simp
 rw [hW];clear hW;obtain⟨b2,e2⟩: ∃b,w.heap.size=b:=⟨_,rfl⟩;rw [e2]at rA rX rO rK hsz⊢;obtain⟨b3,e3⟩: ∃b,b2+1=b:=⟨_,rfl⟩;rw [e3]at rX rO rK⊢;obtain⟨b4,e4⟩: ∃b,b3+1=b:=⟨_,rfl⟩;rw [e4]at rO rK⊢;obtain⟨b6,e6⟩: ∃b,b4+1=b:=⟨_,rfl⟩;rw [e6]at rK⊢;have hr0:=rA.r;have HRA:=Xh rA;have HRX:=Xh rX;have HRO:=Xh rO;have HRK:=Xh rK;clear rA rX rO rK
 go_upto_region 2 with(go_at_call 25;(refine(HOW.out _ g0).mono ?_);rintro e w1 ⟨p',c',rfl,o1⟩;have s1:=o1.own;have g1:=o1.ext;clear o1;have hrz:=(HRO.out.ext g1).r;have hzz:=(HRO.out.ext g1).z)
 obtain⟨a1,ha1⟩: ∃a1:Ag,a1={a with p:=p',c:=c'}:=⟨_,rfl⟩;rw [←ha1];have HA1:=Xh ha1;clear ha1;obtain⟨W2,hW⟩: ∃W2,Qe w1 b4 0 (agv a1)=W2:=⟨_,rfl⟩;have m2:Mv (fun q=>q=b4) w1 W2:=by rw [←hW];exact Mv.sa _ rfl (Mv.refl _ _)
 have E2:Ext w W2:=Mv.ext_of (g0.tr g1) m2 (fun q h=>by omega);have rA:RowZ W2 b2 (agv a):=(HRA.out.ext g1).mv m2 Om;have rX:RowZ W2 b3 (ctv x):=(HRX.out.ext g1).mv m2 Om;have rK:RowZ W2 b6 #[.int .u8 0,.int .u8 0,.int .i64 0,.int .i64 0,.int .i64 0,.int .i64 0,.int .i64 0,.int .i64 0,.int .i64 0,.slice none 0 0]:=(HRK.out.ext g1).mv m2 Om;have rO:RowZ W2 b4 (agv a1):=by rw [←hW];exact(HRO.out.ext g1).all _ (by rw [Qg,Qg])
 have hp2: ∀b off,p'=some ⟨b,off,none⟩→b6<b:=fun b off e=>by
  have:=Qi s1 b (by rw [e];rfl);omega
 have s2:SlC W2 p' a.xs:=by
  obtain⟨p,c,e,-,s⟩:=SlC.own (Qw s1 m2 (fun q hq e=>by omega))
  cases e;exact s
 rw [hW];clear hW s1 m2 hrz hzz hr0 g1 g0;have hxr:=rX.r;have hkr:=rK.r;have hkz:=rK.z;have HRA2:=Xh rA;have HRX2:=Xh rX;have HRO2:=Xh rO;have HRK2:=Xh rK;have HS2:=Xh s2;have HP2:=Xh hp2;clear rA rX rO rK s2 hp2
 go_upto_region 3 with(go_at_call 55;(refine(HAK.out _).mono ?_);rintro e w3 ⟨rfl,g3⟩;have hkr3:=(HRK2.out.ext g3).r;have hkz3:=(HRK2.out.ext g3).z)
 obtain⟨W4,hW⟩: ∃W4,Qe w3 b6 0 (ctv (QaA x))=W4:=⟨_,rfl⟩;have m4:Mv (fun q=>q=b6) w3 W4:=by rw [←hW];exact Mv.sa _ rfl (Mv.refl _ _)
 have E4:Ext w W4:=Mv.ext_of (E2.tr g3) m4 (fun q h=>by omega);have rA:RowZ W4 b2 (agv a):=(HRA2.out.ext g3).mv m4 Om;have rX:RowZ W4 b3 (ctv x):=(HRX2.out.ext g3).mv m4 Om;have rO:RowZ W4 b4 (agv a1):=(HRO2.out.ext g3).mv m4 Om;have rK:RowZ W4 b6 (ctv (QaA x)):=by rw [←hW];exact(HRK2.out.ext g3).all _ (by rw [QS];rfl)
 have s4:SlC W4 p' a.xs:=(HS2.out.ext g3).mvo m4 (fun b off e=>by have:=HP2.out b off e;omega);rw [hW];clear hW m4 g3 hkr3 hkz3 hxr hkr hkz;have cA:W4.cell? ⟨b2,0,none⟩=some (.int .i64 a.id):=ZQ rA.r;have cX:W4.cell? ⟨b3,2,none⟩=some (.int .i64 x.ag):=QG rX.r 2 Om;have lA:=rA.l;have lX:=rX.l;have hra:=rA.r;have HRA:=Xh rA;have HRX:=Xh rX;have HRO:=Xh rO;have HRK:=Xh rK;have HS4:=Xh s4;have HC:=Xh (fun W hE=>HRT.out W hE);clear rA rX rO rK s4
 go_cut [7,12,14,16,30]from 17 to 30 (fun s7 _ _ _ v wx=>s7= .bool (ackOk x)∧v= .bool (!JI a x)∧Ext W4 wx)
 case first=>
  cases hok:ackOk x
  ·have HN:=Xh (show JI a x=false by unfold JI;rw [hok];rfl)
   go_wp2_with (fail)
   go_meet
   exact⟨by rw [hok],by rw [HN.out];rfl,Ext.rf _⟩
  cases hag:(x.ag==a.id)
  ·have HN:=Xh (show JI a x=false by unfold JI;rw [hag];simp);have hne:(x.ag !=a.id)=true:=by unfold bne;rw [hag];rfl
   go_wp2_with (fail)
   go_meet
   exact⟨by rw [hok],by rw [HN.out];rfl,Ext.rf _⟩
  have hne:(x.ag !=a.id)=false:=by unfold bne;rw [hag];rfl
  cases hb:agR a
  ·have HN:=Xh (show JI a x=false by unfold JI;rw [hb];simp);rw [hb]at HRT
   go_wp2_with (go_at_call 22;(refine(HRT.out _ E4).mono ?_);rintro e w5 ⟨rfl,g5⟩)
   go_meet
   exact⟨by rw [hok],by rw [HN.out];rfl,g5⟩
  ·have HN:=Xh (show JI a x=true by unfold JI;rw [hok,hag,hb];rfl);rw [hb]at HRT
   go_wp2_with (go_at_call 22;(refine(HRT.out _ E4).mono ?_);rintro e w5 ⟨rfl,g5⟩)
   go_meet
   exact⟨by rw [hok],by rw [HN.out];rfl,g5⟩
 case rest=>
  obtain⟨rfl,rfl,g5⟩:=hcut;obtain⟨W5,hW5⟩: ∃W,wc=W:=⟨_,rfl⟩;rw [hW5]at g5⊢;clear hW5 cA cX lA lX hra;have rA:=HRA.out.ext g5;have rX:=HRX.out.ext g5;have rO:=HRO.out.ext g5;have rK:=HRK.out.ext g5;have s5:=HS4.out.ext g5;have E5:=E4.tr g5;have HP:=Xh (show b2<b3∧b3<b4∧b4<b6∧w.heap.size=b2 by omega)
  cases ht:JI a x
  ·have HN:=Xh (show Zt a x=a∧Yb a x=a.xs∧Yc a x= []∧JR a x=⟨0,0,0,0,0,0,0,0,0,none,0,0⟩by
    unfold Zt Yb Yc JR Jg;rw [ht];exact⟨rfl,rfl,rfl,rfl⟩)
   have ho:=rO.r;have hz:=rO.z;have hkr:=rK.r;have hkz:=rK.z;have HS5:=Xh s5;have HO5:=Xh rO;have HK5:=Xh rK;have HT:=Xh ht;clear s5 rA rX rO rK ht
   go_upto_region 4 with(fail)
   have rO:=HO5.out;have rK:=HK5.out;have hP:=HP.out;have rK2:RowZ (Qe W5 b4 0 (agv a1)) b6 (ctv (QaA x)):=rK.mv (show Mv (fun q=>q=b4) W5 (Qe W5 b4 0 (agv a1))from Mv.sa _ rfl (Mv.refl _ _)) Om;refine wp_region_lit ?_;refine listV rfl (Zx (C:=fun _=>False) rO (fun h=>h) Kr _ (Mv.refl _ _)) ?_;refine listV rfl (Qbb _) ?_;refine Zj rfl (Ze (B:=b4) (cs:=agv a1) (by rw [rO.r];exact Qg) rO.z Qg Zr Kr Kr) ?_;refine listV (v:= .slice none 0 0) (w':=Qe W5 b4 0 (agv a1)) rfl Kr ?_;refine Zj rfl (JF (B:=b6) (cs:=#[.int .u8 0,.int .u8 0,.int .i64 0,.int .i64 0,.int .i64 0,.int .i64 0,.int .i64 0,.int .i64 0,.int .i64 0,.slice none 0 0]) (by rw [rK2.r];exact QS) rK2.z rfl (by simp [go_sem]) Kr Kr) ?_;refine listV (v:= .bool false) (w':=Qe (Qe W5 b4 0 (agv a1)) b6 0 #[.int .u8 0,.int .u8 0,.int .i64 0,.int .i64 0,.int .i64 0,.int .i64 0,.int .i64 0,.int .i64 0,.int .i64 0,.slice none 0 0]) rfl Kr ?_;refine wpList_nil ?_;obtain⟨W6,hW⟩: ∃W6,Qe (Qe W5 b4 0 (agv a1)) b6 0 #[.int .u8 0,.int .u8 0,.int .i64 0,.int .i64 0,.int .i64 0,.int .i64 0,.int .i64 0,.int .i64 0,.int .i64 0,.slice none 0 0]=W6:=⟨_,rfl⟩;have m6:Mv (fun q=>q=b4∨q=b6) W5 W6:=by rw [←hW];exact Mv.sa _ (.inr rfl) (Mv.sa _ (.inl rfl) (Mv.refl _ _))
   have q4:Qc W6 b4=agv a1:=by rw [←hW,ZP _ _ _ _ _ Om];exact Qq _ _ _ (by rw [rO.r])
   have q6:Qc W6 b6=ctv ⟨0,0,0,0,0,0,0,0,0,none,0,0⟩:=by rw [←hW,Qq _ _ _ (by rw [rK2.r,QS];rfl),ZB]
   rw [hW];clear hW ho hz hkr hkz rK2 rO rK;go_simp;go_wp2;refine bodyPost_ret (YJ rfl _ _ b4 b6 rfl rfl (Yp q4) (QdO q6)) rfl ⟨p',c',none,0,?_,?_,by rw [HN.out.2.2.1];exact SlE.nil _ _,Mv.ext_of E5 m6 (fun q e=>by omega)⟩
   ·rw [HN.out.1,HN.out.2.1,HN.out.2.2.1,HN.out.2.2.2,HA1.out,HT.out];rfl
   ·rw [HN.out.2.1];exact HS5.out.mvt m6 (fun b off e=>by have:=HP2.out b off e;omega)
  obtain⟨hk,hb0,hb16,hR,hag⟩:=Qf6 h0 ht;obtain⟨o,ho⟩: ∃o:Nat,x.bu=o:=Int.eq_ofNat_of_zero_le hb0;have ho16:o<16:=by omega
  have ho':(o:Int)<16:=by omega
  have d3:W5.cell? ⟨b3,3,none⟩=some (.int .i64 (o:Int)):=by rw [←ho];exact QG rX.r 3 Om
  have d0:W5.cell? ⟨b3,0,none⟩=some (.int .u8 x.ki):=QG rX.r 0 Om;have hk0:0≤(a1.md o).kind:=by rw [HA1.out];exact HKI.out o ho16
  have lX:=rX.l;have HT:=Xh ht;have HO:=Xh ho;have HRA5:=Xh rA;have HRX5:=Xh rX;have HRO5:=Xh rO;have HRK5:=Xh rK;have HS5:=Xh s5;have HR:=Xh hR;clear ht ho rA rX rO rK s5 hR hag hb0 hb16;rcases hk with hk|hk|hk
  ·rw [hk]at d0;have HKK:=Xh hk;clear hk
   go_upto_region 8 with(fail)
   have rA:=HRA5.out;have rX:=HRX5.out;have rO:=HRO5.out;have rK:=HRK5.out;have s5:=HS5.out;have E:=E5;have hP:=HP.out;have hD3: ¬(fun q=>q=b4) b3:=by omega
   refine Qy (fun _=>False) (fun q=>q=b4) 13 Kr ?_;obtain⟨WA,hW⟩: ∃Wdr,World.drew W5=Wdr:=⟨_,rfl⟩;have gD:Ext W5 WA:=by rw [←hW];exact Ext.dr (Ext.rf _)
   rw [hW];clear hW;have E:=E.tr gD;have rO:=rO.ext gD;have rX:=rX.ext gD;have rA:=rA.ext gD;have rK:=rK.ext gD;have s5:=s5.ext gD;refine Zi (N:=14) (R:=Qqk) (E:=((Tryz.f16.body.bind (Qh 8)).getD #[])) Kr Qkv Kr fun hS=> ?_;have hT:=hS.2.1;refine tWk 1 (.pointer (some ⟨b4,2+o*4,none⟩)) hS.1 hT rfl fun hT=>tWk 3 (.pointer (some ⟨b4,2+o*4,none⟩)) hS.1 hT rfl fun hT=>tWk 7 (.pointer (some ⟨b4,2+o*4,none⟩)) hS.1 hT rfl fun hT=> ?_;refine ZD (N:=14) (k:=3) (m':=15) (v:= .agg (mdv (a1.md o))) hS.1 hT hS.2.2.2.2.2.2 rfl rfl Kr (Qhl (C:=fun _=>False) rO ho16 (fun h=>h) Kr) fun hT=>tWk 31 (.pointer (some ⟨b3,4,none⟩)) hS.1 hT rfl fun hT=>tW 63 (.int .i64 x.ge) hS.1 hT rfl (Q0 (QG rX.r 4 Om) rX.l hD3 Kr) fun hT=>tWk 127 (.pointer (some ⟨b3,5,none⟩)) hS.1 hT rfl fun hT=>tW 255 (.int .i64 x.pe) hS.1 hT rfl (Q0 (QG rX.r 5 Om) rX.l hD3 Kr) fun hT=> ?_;refine sV 511 (fun v _=>v= .tuple #[.agg (mdv (Q7 (Ru.Qpn (toR (a1.md o)) x.ge x.pe))),.bool (Ru.QjT (toR (a1.md o)) x.ge x.pe)]) hS.2.2.1 rfl (ZC (Qnp (a1.md o) x.ge x.pe WA hk0)) ?_;rintro _ WB1 gWB1 rfl;have E:=E.tr gWB1;have rO:=rO.ext gWB1;have rX:=rX.ext gWB1;have rA:=rA.ext gWB1;have rK:=rK.ext gWB1;have s5:=s5.ext gWB1;have hT:=hS.2.2.2.1;refine tWk 1023 (.tuple #[.agg (mdv (Q7 (Ru.Qpn (toR (a1.md o)) x.ge x.pe))),.bool (Ru.QjT (toR (a1.md o)) x.ge x.pe)]) hS.1 hT rfl fun hT=>tWk 2047 (.agg (mdv (Q7 (Ru.Qpn (toR (a1.md o)) x.ge x.pe)))) hS.1 hT rfl fun hT=>tWk 4095 (.bool (Ru.QjT (toR (a1.md o)) x.ge x.pe)) hS.1 hT rfl fun hT=>tWk 8191 (.pointer (some ⟨b4,2+o*4,none⟩)) hS.1 hT rfl fun hT=> ?_;refine Qr hS.2.2.2.2.1 (QE (m':=16383) rfl rfl Kr (Qe4 (o:=o) (m:=(Q7 (Ru.Qpn (toR (a1.md o)) x.ge x.pe))) rO ho16 Kr Kr) ⟨.inl Dc,(Mv.sa _ rfl (Mv.refl _ _))⟩ ?_);obtain⟨WB2,hWB2⟩: ∃WB2,Qe WB1 b4 (2+o*4) (mdv (Q7 (Ru.Qpn (toR (a1.md o)) x.ge x.pe)))=WB2:=⟨_,rfl⟩;have gS:Mv (fun q=>q=b4) WB1 WB2:=by rw [←hWB2];exact Mv.sa _ rfl (Mv.refl _ _)
   have rO:RowZ WB2 b4 (agv (YP a1 o (Q7 (Ru.Qpn (toR (a1.md o)) x.ge x.pe)))):=by rw [←hWB2];exact RowZ.md rO ho16 _
   have E:=Mv.ext_of E gS (fun q e=>by omega);have rX:=rX.mv gS Om;have rA:=rA.mv gS Om;have rK:=rK.mv gS Om;have s5:=s5.mvo gS (fun b off e=>by have:=HP2.out b off e;omega);rw [hWB2];clear hWB2;refine QZ hS.2.2.2.2.2.1 ?_;clear hS hT gS gD;go_simp;have HS6:=Xh s5;have HRA6:=Xh rA;have HRX6:=Xh rX;have HRO6:=Xh rO;have HRK6:=Xh rK;have HE6:=Xh E;clear s5 rA rX rO rK E
   go_upto_region 16 with(fail)
   have HN:=Xh (show Zt a x=YP a o (Q7 (Ru.Qpn (toR (a.md o)) x.ge x.pe))∧Yb a x=a.xs∧Yc a x= []∧JR a x=QaA x by
    have hD:Jg a x=false:=by
     unfold Jg Jq;rw [HT.out,HO.out,Int.toNat_natCast,HKK.out];rfl
    unfold Zt Yb Yc JR;rw [hD,HT.out,HO.out,Int.toNat_natCast];unfold Jp;rw [HKK.out]
    exact⟨rfl,rfl,rfl,rfl⟩)
   have rO:=HRO6.out;have rK:=HRK6.out;have s5:=HS6.out;have E:=HE6.out;obtain⟨A,hA⟩: ∃A:Ag,YP a1 o (Q7 (Ru.Qpn (toR (a1.md o)) x.ge x.pe))=A:=⟨_,rfl⟩;obtain⟨K,hK⟩: ∃K:Ct,QaA x=K:=⟨_,rfl⟩;rw [hA]at rO;rw [hK]at rK;refine QcH (A:=A) (K:=K) (EV:= .slice none 0 0) (b4:=b4) (b6:=b6) Kr Kr Kr Kr rO rK ?_;intro a' W2 eL rO2 rK2 k4 k6 k5 k7 hdf;have EF:=E.tr eL;go_wp2;have hres:=YJ (P:=Tryz.prog) (fn:=Tryz.f16) (p:=4) (q:=5) (r:=6) (s:=7) rfl a'.tmps W2 b4 b6 k4 k6 (Yp rO2.r) (QdO rK2.r);rw [show a'.tmps.getD 5 undef=_ from k5,show a'.tmps.getD 7 undef=_ from k7]at hres;refine bodyPost_ret hres hdf ⟨p',c',none,0,?_,by rw [HN.out.2.1];exact s5.ext eL,by rw [HN.out.2.2.1];exact SlE.nil _ _,EF⟩;rw [HN.out.1,HN.out.2.1,HN.out.2.2.1,HN.out.2.2.2,←hA,←hK,HA1.out,HT.out];rfl
  ·rw [hk]at d0;have HKK:=Xh hk;clear hk
   go_upto_region 10 with(fail)
   have rA:=HRA5.out;have rX:=HRX5.out;have rO:=HRO5.out;have rK:=HRK5.out;have s5:=HS5.out;have E:=E5;have hP:=HP.out;have hD3: ¬(fun q=>q=b4) b3:=by omega
   refine Qy (fun _=>False) (fun q=>q=b4) 13 Kr ?_;obtain⟨WA,hW⟩: ∃Wdr,World.drew W5=Wdr:=⟨_,rfl⟩;have gD:Ext W5 WA:=by rw [←hW];exact Ext.dr (Ext.rf _)
   rw [hW];clear hW;have E:=E.tr gD;have rO:=rO.ext gD;have rX:=rX.ext gD;have rA:=rA.ext gD;have rK:=rK.ext gD;have s5:=s5.ext gD;refine Zi (N:=14) (R:=Qql) (E:=((Tryz.f16.body.bind (Qh 10)).getD #[])) Kr Qkw Kr fun hS=> ?_;have hT:=hS.2.1;refine tWk 1 (.pointer (some ⟨b4,2+o*4,none⟩)) hS.1 hT rfl fun hT=>tWk 3 (.pointer (some ⟨b4,2+o*4,none⟩)) hS.1 hT rfl fun hT=>tWk 7 (.pointer (some ⟨b4,2+o*4,none⟩)) hS.1 hT rfl fun hT=> ?_;refine ZD (N:=14) (k:=3) (m':=15) (v:= .agg (mdv (a1.md o))) hS.1 hT hS.2.2.2.2.2.2 rfl rfl Kr (Qhl (C:=fun _=>False) rO ho16 (fun h=>h) Kr) fun hT=>tWk 31 (.pointer (some ⟨b3,4,none⟩)) hS.1 hT rfl fun hT=>tW 63 (.int .i64 x.ge) hS.1 hT rfl (Q0 (QG rX.r 4 Om) rX.l hD3 Kr) fun hT=>tWk 127 (.pointer (some ⟨b3,5,none⟩)) hS.1 hT rfl fun hT=>tW 255 (.int .i64 x.pe) hS.1 hT rfl (Q0 (QG rX.r 5 Om) rX.l hD3 Kr) fun hT=> ?_;refine sV 511 (fun v _=>v= .tuple #[.agg (mdv (Q7 (Ru.Qpm (toR (a1.md o)) x.ge x.pe))),.bool (Ru.QjS (toR (a1.md o)) x.ge x.pe)]) hS.2.2.1 rfl (ZC (Qnq (a1.md o) x.ge x.pe WA hk0)) ?_;rintro _ WB1 gWB1 rfl;have E:=E.tr gWB1;have rO:=rO.ext gWB1;have rX:=rX.ext gWB1;have rA:=rA.ext gWB1;have rK:=rK.ext gWB1;have s5:=s5.ext gWB1;have hT:=hS.2.2.2.1;refine tWk 1023 (.tuple #[.agg (mdv (Q7 (Ru.Qpm (toR (a1.md o)) x.ge x.pe))),.bool (Ru.QjS (toR (a1.md o)) x.ge x.pe)]) hS.1 hT rfl fun hT=>tWk 2047 (.agg (mdv (Q7 (Ru.Qpm (toR (a1.md o)) x.ge x.pe)))) hS.1 hT rfl fun hT=>tWk 4095 (.bool (Ru.QjS (toR (a1.md o)) x.ge x.pe)) hS.1 hT rfl fun hT=>tWk 8191 (.pointer (some ⟨b4,2+o*4,none⟩)) hS.1 hT rfl fun hT=> ?_;refine Qr hS.2.2.2.2.1 (QE (m':=16383) rfl rfl Kr (Qe4 (o:=o) (m:=(Q7 (Ru.Qpm (toR (a1.md o)) x.ge x.pe))) rO ho16 Kr Kr) ⟨.inl Dc,(Mv.sa _ rfl (Mv.refl _ _))⟩ ?_);obtain⟨WB2,hWB2⟩: ∃WB2,Qe WB1 b4 (2+o*4) (mdv (Q7 (Ru.Qpm (toR (a1.md o)) x.ge x.pe)))=WB2:=⟨_,rfl⟩;have gS:Mv (fun q=>q=b4) WB1 WB2:=by rw [←hWB2];exact Mv.sa _ rfl (Mv.refl _ _)
   have rO:RowZ WB2 b4 (agv (YP a1 o (Q7 (Ru.Qpm (toR (a1.md o)) x.ge x.pe)))):=by rw [←hWB2];exact RowZ.md rO ho16 _
   have E:=Mv.ext_of E gS (fun q e=>by omega);have rX:=rX.mv gS Om;have rA:=rA.mv gS Om;have rK:=rK.mv gS Om;have s5:=s5.mvo gS (fun b off e=>by have:=HP2.out b off e;omega);rw [hWB2];clear hWB2;refine QZ hS.2.2.2.2.2.1 ?_;clear hS hT gS gD;go_simp;have HS6:=Xh s5;have HRA6:=Xh rA;have HRX6:=Xh rX;have HRO6:=Xh rO;have HRK6:=Xh rK;have HE6:=Xh E;clear s5 rA rX rO rK E
   go_upto_region 16 with(fail)
   have HN:=Xh (show Zt a x=YP a o (Q7 (Ru.Qpm (toR (a.md o)) x.ge x.pe))∧Yb a x=a.xs∧Yc a x= []∧JR a x=QaA x by
    have hD:Jg a x=false:=by
     unfold Jg Jq;rw [HT.out,HO.out,Int.toNat_natCast,HKK.out];rfl
    unfold Zt Yb Yc JR;rw [hD,HT.out,HO.out,Int.toNat_natCast];unfold Jp;rw [HKK.out]
    exact⟨rfl,rfl,rfl,rfl⟩)
   have rO:=HRO6.out;have rK:=HRK6.out;have s5:=HS6.out;have E:=HE6.out;obtain⟨A,hA⟩: ∃A:Ag,YP a1 o (Q7 (Ru.Qpm (toR (a1.md o)) x.ge x.pe))=A:=⟨_,rfl⟩;obtain⟨K,hK⟩: ∃K:Ct,QaA x=K:=⟨_,rfl⟩;rw [hA]at rO;rw [hK]at rK;refine QcH (A:=A) (K:=K) (EV:= .slice none 0 0) (b4:=b4) (b6:=b6) Kr Kr Kr Kr rO rK ?_;intro a' W2 eL rO2 rK2 k4 k6 k5 k7 hdf;have EF:=E.tr eL;go_wp2;have hres:=YJ (P:=Tryz.prog) (fn:=Tryz.f16) (p:=4) (q:=5) (r:=6) (s:=7) rfl a'.tmps W2 b4 b6 k4 k6 (Yp rO2.r) (QdO rK2.r);rw [show a'.tmps.getD 5 undef=_ from k5,show a'.tmps.getD 7 undef=_ from k7]at hres;refine bodyPost_ret hres hdf ⟨p',c',none,0,?_,by rw [HN.out.2.1];exact s5.ext eL,by rw [HN.out.2.2.1];exact SlE.nil _ _,EF⟩;rw [HN.out.1,HN.out.2.1,HN.out.2.2.1,HN.out.2.2.2,←hA,←hK,HA1.out,HT.out];rfl
  ·rw [hk]at d0;have HKK:=Xh hk;clear hk
   go_upto_region 12 with(fail)
   have rA:=HRA5.out;have rX:=HRX5.out;have rO:=HRO5.out;have rK:=HRK5.out;have s5:=HS5.out;have E:=E5;have hP:=HP.out;have hD3: ¬(fun q=>q=b4) b3:=by omega
   refine Qy (fun _=>False) (fun q=>q=b4) 11 Kr ?_;obtain⟨WA,hW⟩: ∃Wdr,World.drew W5=Wdr:=⟨_,rfl⟩;have gD:Ext W5 WA:=by rw [←hW];exact Ext.dr (Ext.rf _)
   rw [hW];clear hW;have E:=E.tr gD;have rO:=rO.ext gD;have rX:=rX.ext gD;have rA:=rA.ext gD;have rK:=rK.ext gD;have s5:=s5.ext gD;refine Zi (N:=13) (R:=Qqm) (E:=((Tryz.f16.body.bind (Qh 12)).getD #[])) Kr Qkx Kr fun hS=> ?_;have hT:=hS.2.1;refine tWk 1 (.pointer (some ⟨b4,2+o*4,none⟩)) hS.1 hT rfl fun hT=>tWk 3 (.pointer (some ⟨b4,2+o*4,none⟩)) hS.1 hT rfl fun hT=>tWk 7 (.pointer (some ⟨b4,2+o*4,none⟩)) hS.1 hT rfl fun hT=> ?_;refine ZD (N:=13) (k:=3) (m':=15) (v:= .agg (mdv (a1.md o))) hS.1 hT hS.2.2.2.2.2.2.2 rfl rfl Kr (Qhl (C:=fun _=>False) rO ho16 (fun h=>h) Kr) fun hT=>tWk 31 (.pointer (some ⟨b3,4,none⟩)) hS.1 hT rfl fun hT=>tW 63 (.int .i64 x.ge) hS.1 hT rfl (Q0 (QG rX.r 4 Om) rX.l hD3 Kr) fun hT=> ?_;refine sV 127 (fun v _=>v= .tuple #[.agg (mdv (Q7 (Ru.QjU (toR (a1.md o)) x.ge))),.bool (Ru.Qd4 (toR (a1.md o)) x.ge)]) hS.2.2.1 rfl (ZC (Qkt (a1.md o) x.ge WA hk0)) ?_;rintro _ WB1 gWB1 rfl;have E:=E.tr gWB1;have rO:=rO.ext gWB1;have rX:=rX.ext gWB1;have rA:=rA.ext gWB1;have rK:=rK.ext gWB1;have s5:=s5.ext gWB1;have hT:=hS.2.2.2.1;refine tWk 255 (.tuple #[.agg (mdv (Q7 (Ru.QjU (toR (a1.md o)) x.ge))),.bool (Ru.Qd4 (toR (a1.md o)) x.ge)]) hS.1 hT rfl fun hT=>tWk 511 (.agg (mdv (Q7 (Ru.QjU (toR (a1.md o)) x.ge)))) hS.1 hT rfl fun hT=>tWk 1023 (.bool (Ru.Qd4 (toR (a1.md o)) x.ge)) hS.1 hT rfl fun hT=>tWk 2047 (.pointer (some ⟨b4,2+o*4,none⟩)) hS.1 hT rfl fun hT=> ?_;refine Qr hS.2.2.2.2.1 (QE (m':=4095) rfl rfl Kr (Qe4 (o:=o) (m:=(Q7 (Ru.QjU (toR (a1.md o)) x.ge))) rO ho16 Kr Kr) ⟨.inl Dc,(Mv.sa _ rfl (Mv.refl _ _))⟩ ?_);obtain⟨WB2,hWB2⟩: ∃WB2,Qe WB1 b4 (2+o*4) (mdv (Q7 (Ru.QjU (toR (a1.md o)) x.ge)))=WB2:=⟨_,rfl⟩;have gS:Mv (fun q=>q=b4) WB1 WB2:=by rw [←hWB2];exact Mv.sa _ rfl (Mv.refl _ _)
   have rO:RowZ WB2 b4 (agv (YP a1 o (Q7 (Ru.QjU (toR (a1.md o)) x.ge)))):=by rw [←hWB2];exact RowZ.md rO ho16 _
   have E:=Mv.ext_of E gS (fun q e=>by omega);have rX:=rX.mv gS Om;have rA:=rA.mv gS Om;have rK:=rK.mv gS Om;have s5:=s5.mvo gS (fun b off e=>by have:=HP2.out b off e;omega);rw [hWB2];clear hWB2;have hT:=hS.2.2.2.2.2.1;refine tWk 8191 (.bool (Ru.Qd4 (toR (a1.md o)) x.ge)) hS.1 hT rfl fun hT=> ?_;refine QZ hS.2.2.2.2.2.2.1 ?_;clear hS hT gS gD;go_simp;have HS6:=Xh s5;have HRA6:=Xh rA;have HRX6:=Xh rX;have HRO6:=Xh rO;have HRK6:=Xh rK;have HE6:=Xh E;clear s5 rA rX rO rK E;have hmd:a1.md o=a.md o:=by rw [HA1.out]
   cases hD:Ru.Qd4 (toR (a1.md o)) x.ge
   ·have HDD:=Xh (show Ru.Qd4 (toR (a.md o)) x.ge=false by rw [←hmd];exact hD);clear hD hmd
    go_upto_region 16 with(fail)
    have HN:=Xh (show Zt a x=YP a o (Q7 (Ru.QjU (toR (a.md o)) x.ge))∧Yb a x=a.xs∧Yc a x= []∧JR a x=QaA x by
     have hD:Jg a x=false:=by
      unfold Jg Jq;rw [HT.out,HO.out,Int.toNat_natCast,HKK.out];show(true&&(Ru.Qd4 (toR (a.md o)) x.ge))=_;rw [HDD.out];rfl
     unfold Zt Yb Yc JR;rw [hD,HT.out,HO.out,Int.toNat_natCast];unfold Jp;rw [HKK.out]
     exact⟨rfl,rfl,rfl,rfl⟩)
    have rO:=HRO6.out;have rK:=HRK6.out;have s5:=HS6.out;have E:=HE6.out;obtain⟨A,hA⟩: ∃A:Ag,YP a1 o (Q7 (Ru.QjU (toR (a1.md o)) x.ge))=A:=⟨_,rfl⟩;obtain⟨K,hK⟩: ∃K:Ct,QaA x=K:=⟨_,rfl⟩;rw [hA]at rO;rw [hK]at rK;refine QcH (A:=A) (K:=K) (EV:= .slice none 0 0) (b4:=b4) (b6:=b6) Kr Kr Kr Kr rO rK ?_;intro a' W2 eL rO2 rK2 k4 k6 k5 k7 hdf;have EF:=E.tr eL;go_wp2;have hres:=YJ (P:=Tryz.prog) (fn:=Tryz.f16) (p:=4) (q:=5) (r:=6) (s:=7) rfl a'.tmps W2 b4 b6 k4 k6 (Yp rO2.r) (QdO rK2.r);rw [show a'.tmps.getD 5 undef=_ from k5,show a'.tmps.getD 7 undef=_ from k7]at hres;refine bodyPost_ret hres hdf ⟨p',c',none,0,?_,by rw [HN.out.2.1];exact s5.ext eL,by rw [HN.out.2.2.1];exact SlE.nil _ _,EF⟩;rw [HN.out.1,HN.out.2.1,HN.out.2.2.1,HN.out.2.2.2,←hA,←hK,HA1.out,HT.out];rfl
   ·have HDD:=Xh (show Ru.Qd4 (toR (a.md o)) x.ge=true by rw [←hmd];exact hD);clear hD hmd
    go_upto_region 14 with(fail)
    have HN:=Xh (show Zt a x=YP a o (Q7 (Ru.QjU (toR (a.md o)) x.ge))∧Yb a x=a.xs.filter (fun c=>!inB o c)∧Yc a x=ZN a.id (a.xs.filter (inB o))∧JR a x=QaA x by
     have hD:Jg a x=true:=by
      unfold Jg Jq;rw [HT.out,HO.out,Int.toNat_natCast,HKK.out];show(true&&(Ru.Qd4 (toR (a.md o)) x.ge))=_;rw [HDD.out];rfl
     unfold Zt Yb Yc JR;rw [hD,HT.out,HO.out,Int.toNat_natCast];unfold Jp;rw [HKK.out]
     exact⟨rfl,rfl,rfl,rfl⟩)
    have rO:=HRO6.out;have rK:=HRK6.out;have s5:=HS6.out;have E:=HE6.out;have rA:=HRA6.out;have rX:=HRX6.out;refine Qy (fun _=>False) (fun _=>False) 10 Kr ?_;obtain⟨WC,hW⟩: ∃Wdr,World.drew WB2=Wdr:=⟨_,rfl⟩;have gD:Ext WB2 WC:=by rw [←hW];exact Ext.dr (Ext.rf _)
    rw [hW];clear hW;have E:=E.tr gD;have rO:=rO.ext gD;have rX:=rX.ext gD;have rA:=rA.ext gD;have rK:=rK.ext gD;have s5:=s5.ext gD;refine Zi (N:=10) (R:=Ql8) (E:=((Tryz.f16.body.bind (Qh 14)).getD #[])) Kr QiS Kr fun hS=> ?_;have hT:=hS.2.1;refine tWk 1 (.pointer (some ⟨b2,0,none⟩)) hS.1 hT rfl fun hT=>tW 3 (.int .i64 a.id) hS.1 hT rfl (Q0 (C:=fun _=>False) (ZQ rA.r) rA.l (fun h=>h) Kr) fun hT=>tWk 7 (.pointer (some ⟨b2,66,none⟩)) hS.1 hT rfl fun hT=>tW 15 (.slice a.p a.xs.length a.c) hS.1 hT rfl (QaB (C:=fun _=>False) (by rw [Qa,rA.r,Qu]) rA.l (fun h=>h) Kr) fun hT=>tWk 31 (.pointer (some ⟨b3,3,none⟩)) hS.1 hT rfl fun hT=>tW 63 (.int .i64 (o:Int)) hS.1 hT rfl (Q0 (C:=fun _=>False) (by rw [←HO.out];exact QG rX.r 3 Om) rX.l (fun h=>h) Kr) fun hT=> ?_;refine sV 127 (QyJ (a.xs.filter (inB o))) hS.2.2.1 rfl (QAl a.p a.xs a.c o WC (HS.out.ext E) hl HTU.out) ?_;rintro _ WD1 gWD1 ⟨p9,c9,rfl,s9⟩;have E:=E.tr gWD1;have rO:=rO.ext gWD1;have rX:=rX.ext gWD1;have rA:=rA.ext gWD1;have rK:=rK.ext gWD1;have s5:=s5.ext gWD1;refine sV 255 (QvF a.id p9 (a.xs.filter (inB o)).length c9) hS.2.2.2.1 rfl (Qp0 a.id p9 _ c9 WD1) ?_;rintro _ WD2 gWD2 ⟨BO,rfl,o1,o2,o3⟩;have E:=E.tr gWD2;have rO:=rO.ext gWD2;have rX:=rX.ext gWD2;have rA:=rA.ext gWD2;have rK:=rK.ext gWD2;have s5:=s5.ext gWD2;have s9:=s9.ext gWD2;refine sV 511 (QsI (b6+1) (ZN a.id (a.xs.filter (inB o)))) hS.2.2.2.2.1 rfl (Ql0 a.id p9 (a.xs.filter (inB o)) c9 BO _ WD2 s9 (Xt (List.length_filter_le _ _) hl) o1 o2 o3 (by have:=rK.l;unfold Lt at this;omega)) ?_;rintro _ WD3 gWD3 ⟨q9,d9,rfl,se,ne⟩;have E:=E.tr gWD3;have rO:=rO.ext gWD3;have rX:=rX.ext gWD3;have rA:=rA.ext gWD3;have rK:=rK.ext gWD3;have s5:=s5.ext gWD3;have s9:=s9.ext gWD3;have hT:=hS.2.2.2.2.2.1;refine tWk 1023 (.slice q9 (ZN a.id (a.xs.filter (inB o))).length d9) hS.1 hT rfl fun hT=> ?_;refine QZ hS.2.2.2.2.2.2 ?_;clear hS hT gD;go_simp;have HSE:=Xh se;have HNE:=Xh ne;have HRO7:=Xh rO;have HRK7:=Xh rK;have HE7:=Xh E;have d66:WD3.cell? ⟨b2,66,none⟩=some (.slice a.p a.xs.length a.c):=by rw [Qa,rA.r,Qu]
    have d3:WD3.cell? ⟨b3,3,none⟩=some (.int .i64 (o:Int)):=by rw [←HO.out];exact QG rX.r 3 Om
    have lA:=rA.l;have lX:=rX.l;have zz:=rK.l;have HWO:=Xh (Qr9 a.p a.xs a.c o WD3 (HS.out.ext E) hl HTU.out);clear se ne rO rK rX rA s5 s9 o1 o2 o3
    go_upto_region 16 with(go_at_call 62;(refine(HWO.out).mono ?_);rintro e W8 ⟨v8,rfl,o8,g8⟩;obtain⟨p7,c7,rfl,-,s7⟩:=SlC.own o8;have b7:=Qi o8;have HS7:=Xh s7;have HB7:=Xh b7;have rO8:=HRO7.out.ext g8;have c67:W8.cell? ⟨b4,66,none⟩=some (.slice (YP a1 o (Q7 (Ru.QjU (toR (a1.md o)) x.ge))).p (YP a1 o (Q7 (Ru.QjU (toR (a1.md o)) x.ge))).xs.length (YP a1 o (Q7 (Ru.QjU (toR (a1.md o)) x.ge))).c):=(by rw [Qa,rO8.r,Qu]);have f67:=rO8.frz 66;have lO:=rO8.l;have HRO8:=Xh rO8;clear s7 b7 o8 rO8)
    obtain⟨W9,hW⟩: ∃W9,W8.setCell ⟨b4,66,none⟩ (.slice p7 (a.xs.filter (fun c=>!inB o c)).length c7)=W9:=⟨_,rfl⟩;have m9:Mv (fun q=>q=b4) W8 W9:=by rw [←hW];exact Mv.st _ (.inl rfl) (Mv.refl _ _)
    have hP:=HP.out;have rO:RowZ W9 b4 (agv {YP a1 o (Q7 (Ru.QjU (toR (a1.md o)) x.ge))with p:=p7,xs:=(a.xs.filter (fun c=>!inB o c)),c:=c7}):=by
     have h:=HRO8.out;rw [←hW];exact⟨(Qab (a:=YP a1 o (Q7 (Ru.QjU (toR (a1.md o)) x.ge))) p7 (a.xs.filter (fun c=>!inB o c)) c7 h.r),(by rw [QR];exact h.z),(by rw [Zk];exact h.l)⟩
    have rK:=(HRK7.out.ext g8).mv m9 Om;have E:=Mv.ext_of (HE7.out.tr g8) m9 (fun q e=>by omega);have zz':b6<WD3.heap.size:=zz;have s7:=HS7.out.mvo m9 (fun b off e=>by have:=HB7.out b (by rw [e];rfl);omega);have se:=(HSE.out.ext g8).mvo m9 (fun b off e=>by have:=HNE.out b off e;omega);rw [hW];clear hW m9 c67 f67 lO d66 d3 lA lX zz;obtain⟨A,hA⟩: ∃A:Ag,{YP a1 o (Q7 (Ru.QjU (toR (a1.md o)) x.ge))with p:=p7,xs:=(a.xs.filter (fun c=>!inB o c)),c:=c7}=A:=⟨_,rfl⟩;obtain⟨K,hK⟩: ∃K:Ct,QaA x=K:=⟨_,rfl⟩;rw [hA]at rO;rw [hK]at rK;refine QcH (A:=A) (K:=K) (EV:= .slice q9 (ZN a.id (a.xs.filter (inB o))).length d9) (b4:=b4) (b6:=b6) Kr Kr Kr Kr rO rK ?_;intro a' W2 eL rO2 rK2 k4 k6 k5 k7 hdf;have EF:=E.tr eL;go_wp2;have hres:=YJ (P:=Tryz.prog) (fn:=Tryz.f16) (p:=4) (q:=5) (r:=6) (s:=7) rfl a'.tmps W2 b4 b6 k4 k6 (Yp rO2.r) (QdO rK2.r);rw [show a'.tmps.getD 5 undef=_ from k5,show a'.tmps.getD 7 undef=_ from k7]at hres;refine bodyPost_ret hres hdf ⟨p7,c7,q9,d9,?_,by rw [HN.out.2.1];exact s7.ext eL,by rw [HN.out.2.2.1];exact se.ext eL,EF⟩;rw [HN.out.1,HN.out.2.1,HN.out.2.2.1,HN.out.2.2.2,←hA,←hK,HA1.out,HT.out];rfl
end
open Go.RowKit
theorem Qqn(x:Ct)(m n:Md)(hk:x.ki=1∨x.ki=2∨x.ki=3)(hm:mdR m=true)(hn:Jp x m=n)(h0:0≤m.kind):
  mdR n=true∧0≤n.kind∧(Qde m n=false→x.ki≠3→m.gen<x.ge∧n.gen=x.ge)∧Jq x m=(!Qde m n&&x.ki==3)∧(Qde m n=false→x.ki=3→m.kind=3∧m.gen=x.ge∧n.ret=true):=by
 have key: ∀o:Ru.Md,o.g=x.ge→0≤o.k→n=Q7 (Ru.newer (toR m) x.ge o)→mdR n=true∧0≤n.kind∧(Qde m n=false→m.gen<x.ge∧n.gen=x.ge):=by
  intro o ho hz e
  cases hb:Ru.newerB (toR m) x.ge o
  ·have e2:n=m:=by rw [e];unfold Ru.newer;rw [hb];rfl
   rw [e2];exact⟨hm,h0,fun h=>by unfold Qde at h;simp at h⟩
  ·have e2:n=Q7 o:=by rw [e];unfold Ru.newer;rw [hb];rfl
   unfold Ru.newerB at hb;simp only [Bool.and_eq_true,decide_eq_true_eq]at hb;rw [e2];exact⟨hb.2,hz,fun _=>⟨hb.1.2,ho⟩⟩
 rcases hk with h|h|h
 ·have k:=key (Ru.drainM x.ge x.pe) rfl (by show(0:Int)≤3;omega) (by rw [←hn];unfold Jp;rw [if_pos h];rfl);exact⟨k.1,k.2.1,fun e _=>k.2.2 e,by unfold Jq;rw [h];simp,fun _ e=>by omega⟩
 ·have k:=key (Ru.grantM x.ge x.pe) rfl (by show(0:Int)≤(if x.pe= -1 then 1 else 2);split<;>omega) (by rw [←hn];unfold Jp;rw [if_neg Om,if_pos h];rfl);exact⟨k.1,k.2.1,fun e _=>k.2.2 e,by unfold Jq;rw [h];simp,fun _ e=>by omega⟩
 ·obtain⟨k,p,g,r⟩:=m;subst hn;unfold mdR toR at hm;simp only [Jp,Jq,h]
  grind [Q7,toR,mdR,Ru.Md.right,Ru.Qg2,Ru.QjU,Ru.Qd4,Qde]
theorem Qns(id:Int)(xs:List Co):(ZN id xs).length=xs.length:=by unfold ZN;rw [List.length_map]
theorem Qqo(a b:Md)(w:World):(Op.equalIn 10000 23 (.agg (mdv a)) (.agg (mdv b))).run Tryz.prog w= .ok (Qde a b) w:=by
 rw [YH,YH];unfold Qde;go_simp
 by_cases h1:a.kind=b.kind<;>by_cases h2:a.peer=b.peer<;>by_cases h3:a.gen=b.gen<;>by_cases h4:a.ret=b.ret<;>simp [*]
@[go_sem ↓ high] theorem QAm(a b:Md)(w:World):(binOp .neq 23 (.agg (mdv a)) (.agg (mdv b))).run Tryz.prog w= .ok (.bool (!Qde a b)) w:=by
 rw [run_neq_struct,Qqo];rfl
theorem Qqp:(Tryz.prog.info? 62).map (fun i=>(i.zero,i.size,i.bytes))=some (some (.int .u16 0),1,2):=Kr
def OWw(w:World)(base:Nat)(v:Value)(ns:List Int):Prop:=w.ownsRow base 62 1 v ns.length (ns.map (Value.int .u16))
theorem OWw.slw{v:Value}{ns:List Int}(h:OWw w base v ns): ∃p c,v= .slice p ns.length c∧SlW w p ns:=by
 rcases h.2 with⟨rfl,h1⟩|⟨g,cap,cur,rfl,hg,hgb,h1,h2,h3,h4⟩
 ·exact⟨none,0,by rw [h1],fun k hk=>by omega⟩
 ·refine⟨_,cap,rfl,fun k hk=>⟨g,0,rfl,(Array.getElem?_eq_some_iff.1 hgb).1,?_⟩⟩;have e1:(List.take (ns.length*1) cur.toList)[k]?=(ns.map (Value.int .u16))[k]?:=by rw [h4]
  rw [List.getElem?_take,if_pos Om,Array.getElem?_toList,List.getElem?_map,List.getElem?_eq_getElem hk]at e1;simp only [World.cell?,hgb,Nat.zero_add];exact e1
theorem Qky(bs:List Int)(p:Option Addr)(c:Nat)(w:World)(hb:SlB w p bs)(hr:ByR bs)(hl:bs.length≤100000):
  Calls Tryz.prog 250 #[.slice p bs.length c] w fun e w'=> ∃v,e= .returned v∧OWw w' w.heap.size v (Zb bs)∧Ext w w':=by
 obtain⟨i0,hi,hz0,hz1,hz2⟩:=info_parts Qqp;have HB:=Xh hb;have HR:=Xh hr;clear hb hr
 go_enter Tryz.func250,Tryz.ntmps250
 go_wp2
 go_loopw [3,4] (fun v a wr=> ∃q m:Nat,Hid (2*q=m)∧q≤(bs.length+1)/2∧a= .int .i64 (m:Int)∧wr.ownsRow w.heap.size 62 1 v q (((Zb bs).take q).map (Value.int .u16))∧Ext w wr) (fun _ a _=>(bs.length+1- intOf a).toNat)
 case atStart=>exact⟨0,0,Xh rfl,Nat.zero_le _,rfl,World.ownsRow_nil _ _ _ _,Ext.rf _⟩
 case round=>
  obtain⟨q,m,HM,hq,rfl,ho,hE⟩:=hrel;have HO:=Xh ho;clear ho
  by_cases hlt:m<bs.length
  ·have hlt':(m:Int)<bs.length:=by omega
   have hpos:(0:Int)≤(m:Int):=by omega
   obtain⟨b,off,rfl,hbl,c0⟩:=(HB.out.ext hE) m hlt;have r0:=HR.out.get m hlt;obtain⟨x,hx⟩: ∃x,bs[m]=x:=⟨_,rfl⟩;rw [hx]at c0 r0;have lbb:Lt b wr:=hbl;have hw0:IntKind.i64.wrap (256*x)=256*x:=by rw [IntKind.wrap_i64];omega
   have hw1:IntKind.i64.wrap ((m:Int)+1)=(m:Int)+1:=by rw [IntKind.wrap_i64];omega
   have hw2:IntKind.i64.wrap ((m:Int)+2)=((m+2:Nat):Int):=by rw [IntKind.wrap_i64];omega
   by_cases h2:m+1<bs.length
   ·have h2':(m:Int)+1<bs.length:=by omega
    obtain⟨b2,off2,hp2,-,c1⟩:=(HB.out.ext hE) (m+1) h2
    cases hp2
    have r1:=HR.out.get (m+1) h2;have HX:=Xh (show(Zb bs)[q]?=some (bs[m]*256+bs[m+1])by have hm:=HM.out;subst hm;exact Qb1 bs q h2);rw [hx]at HX;obtain⟨z,hz⟩: ∃z,bs[m+1]=z:=⟨_,rfl⟩;rw [hz]at c1 r1 HX;have hw3:IntKind.i64.wrap (256*x+z)=x*256+z:=by rw [IntKind.wrap_i64];omega
    have hw4:IntKind.u16.wrap (x*256+z)=x*256+z:=by rw [Q4];omega
    have HT:=Xh (show(Zb bs).take (q+1)=(Zb bs).take q++ [x*256+z]by rw [List.take_add_one,HX.out];rfl);have c1':wr.cell? ⟨b,off+(m+1),none⟩=some (.int .u8 z):=c1;clear hx hz HX c1 h2
    go_wp2_with (at_builtin;go_must (refine wpList_append_own _ rfl _ _ 270 rfl w.heap.size 62 i0 (.int .u16 0) 1 2 Tryz.underlying270 hi hz0 hz1 hz2 rfl Dc _ _ _ rfl (HO.out.alloc _) ⟨wr.heap.size,0,none⟩ 1 1 [.int .u16 (x*256+z)] rfl rfl (Q1 _ _ _) (by intro u hu;simp at hu;subst hu;rfl) (by unfold maxLen;omega) Om (by have:=hE.size;simp;omega) ?_);intro v' w3 hown hgrow _;have HN:=Xh hown;have HG:=Xh hgrow;clear hown hgrow)
    clear hw0 hw1 hw2 hw3 hw4
    go_roundw
    case rel=>
     refine⟨q+1,m+2,Xh (by have:=HM.out;omega),by have:=HM.out;omega,by go_num,?_,Mv.ext_of (Ext.al hE _) (Mv.of_grown (C:=fun k=>w.heap.size≤k) HG.out fun r e=> .inl (Qi HO.out r e)) (fun k h=>h)⟩;have h:=HN.out
     first|rw [HT.out,List.map_append]|rw [←List.map_take,HT.out,List.map_append]
     exact h
    case measure=>first|(simp [intOf];done)|(simp [intOf];omega)
   ·have h2': ¬(m:Int)+1<bs.length:=by omega
    have HX:=Xh (show(Zb bs)[q]?=some (bs[m]*256)by have hm:=HM.out;subst hm;exact QaR bs q Om);rw [hx]at HX;have hw4:IntKind.u16.wrap (256*x)=x*256:=by rw [Q4];omega
    have HT:=Xh (show(Zb bs).take (q+1)=(Zb bs).take q++ [x*256]by rw [List.take_add_one,HX.out];rfl);clear hx HX
    go_wp2_with (at_builtin;go_must (refine wpList_append_own _ rfl _ _ 270 rfl w.heap.size 62 i0 (.int .u16 0) 1 2 Tryz.underlying270 hi hz0 hz1 hz2 rfl Dc _ _ _ rfl (HO.out.alloc _) ⟨wr.heap.size,0,none⟩ 1 1 [.int .u16 (x*256)] rfl rfl (Q1 _ _ _) (by intro u hu;simp at hu;subst hu;rfl) (by unfold maxLen;omega) Om (by have:=hE.size;simp;omega) ?_);intro v' w3 hown hgrow _;have HN:=Xh hown;have HG:=Xh hgrow;clear hown hgrow)
    go_roundw
    case rel=>
     refine⟨q+1,m+2,Xh (by have:=HM.out;omega),by have:=HM.out;omega,by go_num,?_,Mv.ext_of (Ext.al hE _) (Mv.of_grown (C:=fun k=>w.heap.size≤k) HG.out fun r e=> .inl (Qi HO.out r e)) (fun k h=>h)⟩;have h:=HN.out
     first|rw [HT.out,List.map_append]|rw [←List.map_take,HT.out,List.map_append]
     exact h
    case measure=>first|(simp [intOf];done)|(simp [intOf];omega)
  ·have hlt': ¬(m:Int)<bs.length:=by omega
   go_wp2;refine bodyPost_ret (v:=u3) (by simp [results,Tryz.results250,go_sem]) rfl ⟨_,rfl,?_,hE⟩;have:=HO.out;unfold OWw;have hn:(Zb bs).length=q:=by have:=HM.out;rw [Ys];omega
   rw [hn]
   rwa [List.take_of_length_le Om]at this
theorem QsR{s x:Int}(hs:0≤s)(hx:0≤x∧x<65536):c16 (s+x)=if c16 s+x>65535 then c16 s+x- 65535 else c16 s+x:=by
 unfold c16
 by_cases h0:s=0
 ·subst h0;simp only [Int.zero_add,if_true];rw [if_neg (show ¬x>65535 by omega)]
  split<;>omega
 ·rw [if_neg Om,if_neg h0]
  split<;>omega
theorem Qnt(ns:List Int)(p:Option Addr)(c:Nat)(w:World)(hb:SlW w p ns)(hr: ∀x∈ns,0≤x∧x<65536)(hl:ns.length≤100000):
  Calls Tryz.prog 249 #[.slice p ns.length c] w fun e w'=>e= .returned (.int .u16 (c16 (QaT ns)))∧w'=w:=by
 have HR:=Xh hr;have HB:=Xh hb;clear hr hb
 go_enter Tryz.func249,Tryz.ntmps249
 go_wp2
 go_loopw [3,4] (fun n a wr=> ∃k:Nat,k≤ns.length∧a= .int .i64 k∧n= .int .i64 (c16 (QaT (ns.take k)))∧wr=w) (fun _ a _=>ns.length- (intOf a).toNat)
 case atStart=>exact⟨0,Nat.zero_le _,rfl,rfl,rfl⟩
 case round=>
  obtain⟨k,hk,rfl,rfl,rfl⟩:=hrel
  by_cases hlt:k<ns.length
  ·have hlt':(k:Int)<ns.length:=by omega
   obtain⟨b,off,rfl,lb,cb⟩:=HB.out k hlt;have hx':ns[k]?=some ns[k]:=List.getElem?_eq_getElem hlt;have hxb:=HR.out _ (List.getElem_mem hlt);obtain⟨x,hx⟩: ∃x,ns[k]=x:=⟨_,rfl⟩;rw [hx]at cb hx' hxb;have hS:=Qc4 ns k x hx';have hb:=(Qd2 ns HR.out k).1;have HC:=Xh (QsR hb hxb);rw [←hS]at HC;have hcb:=QjA (n:=QaT (ns.take k));obtain⟨n,hn⟩: ∃n,c16 (QaT (ns.take k))=n:=⟨_,rfl⟩;rw [hn]at HC hcb⊢;have hw:IntKind.i64.wrap (n+x)=n+x:=by rw [IntKind.wrap_i64];omega
   have lbb:Lt b wr:=lb;clear hx hx' hS hb hn
   by_cases hgt:65535<n+x
   ·have hw2:IntKind.i64.wrap (n+x- 65535)=n+x- 65535:=by rw [IntKind.wrap_i64];omega
    have HC2:=Xh (HC.out.trans (if_pos hgt));clear HC;go_wp2
    go_roundw
    case rel=>exact⟨k+1,Om,by go_num,by rw [HC2.out],by first|rfl|trivial⟩
    case measure=>simp [intOf];omega
   ·have HC2:=Xh (HC.out.trans (if_neg hgt));clear HC;go_wp2
    go_roundw
    case rel=>exact⟨k+1,Om,by go_num,by rw [HC2.out],by first|rfl|trivial⟩
    case measure=>simp [intOf];omega
  ·have hlt': ¬((k:Int)<ns.length):=by omega
   have HK:=Xh (show ns.take k=ns by rw [List.take_of_length_le Om]);have hcb:=QjA (n:=QaT ns);rw [HK.out];obtain⟨n,hn⟩: ∃n,c16 (QaT ns)=n:=⟨_,rfl⟩;rw [hn]at hcb⊢;have hw2:IntKind.u16.wrap n=n:=by rw [Q4];omega
   go_wp2;go_ret;exact⟨rfl,by first|rfl|trivial⟩
theorem Qnu(bs:List Int)(p:Option Addr)(c:Nat)(w:World)(hb:SlB w p bs)(hr:ByR bs)(hl:bs.length≤100000):
  Cr 230 #[.slice p bs.length c] w (.int .u16 (Qb4 bs)):=by
 have HC:=Xh (Qky bs p c w hb hr hl);have HF:=Xh (fun W q d (hs:SlW W q (Zb bs))=>Qnt (Zb bs) q d W hs (J3 bs hr) (by rw [Ys];omega));clear hb hr hl
 go_enter Tryz.func230,Tryz.ntmps230
 go_wp2_with (first|(go_at_call 250;(with_reducible refine(HC.out).mono ?_);rintro e w3 ⟨v,rfl,o3,g3⟩;obtain⟨q,d,rfl,s3⟩:=o3.slw;have HF2:=Xh (HF.out _ _ d s3);clear o3 s3)|(go_at_call 249;(with_reducible refine(HF2.out).mono ?_);rintro e w4 ⟨rfl,rfl⟩))
 go_ret;exact⟨rfl,g3⟩
theorem Qe5(bs:List Int)(p:Option Addr)(c:Nat)(w:World)(hb:SlB w p bs)(hr:ByR bs)(hl:bs.length≤100000):
  Cr 199 #[.slice p bs.length c] w (.int .u16 (Z5 bs)):=by
 have HC:=Xh (Qnu bs p c w hb hr hl);have hbd:=QgJ bs;have HD:=Xh (show Z5 bs=65535- Qb4 bs from rfl);obtain⟨S,hS⟩: ∃S,Qb4 bs=S:=⟨_,rfl⟩;rw [hS]at HC hbd HD;have hw:IntKind.u16.wrap (65535- S)=65535- S:=by rw [Q4];omega
 clear hS hb hr hl
 go_enter Tryz.func199,Tryz.ntmps199
 go_wp2_with (go_at_call 230;(refine(HC.out).mono ?_);rintro e w3 ⟨rfl,g3⟩)
 go_ret;exact⟨by show Ending.returned (Value.int .u16 (65535- S))=_;rw [HD.out],g3⟩
theorem JS{ops:Array Oper}{rest:List Oper}{o:Oper}{R:Value→World→Prop}{f:FuncId}{args:Array Value}(hg:o.guard=none)(he:(execOp a.eval o).run Tryz.prog w= .ok (.enter f args) w)(hc:Calls Tryz.prog f args w fun e w'=> ∃v,e= .returned v∧R v w')
  (h: ∀v w',R v w'→wpList Tryz.prog ops Q rest (a.put o.dst v) w'):wpList Tryz.prog ops Q (o::rest) a w:=by
 refine wpList_plain hg fun K hK=> ?_;unfold Oper.wp;rw [he,Oper.upon_enter];refine hc.mono fun e w' ⟨v,h1,h2⟩=> ?_;subst h1;exact hK _ _ (h v w' h2)
def QaE(w:World)(y:Value)(bs:List Int):Prop:=(y= .slice none 0 0∧bs= [])∨ ∃ad c,y= .slice (some ad) bs.length c∧ ∀j u,(bs.map (Value.int .u8))[j]?=some u→w.cell? (ad.add j)=some u
theorem QaE.of_slb{p:Option Addr}{bs:List Int}{c:Nat}(h:SlB w p bs)(hc:p=none→c=0):QaE w (.slice p bs.length c) bs:=by
 cases p with
 |none=>
  obtain rfl:=h.nil_of;rw [hc rfl];exact .inl ⟨rfl,rfl⟩
 |some ad=>exact .inr ⟨ad,c,rfl,h.news (Ext.rf w)⟩
theorem QsS(g j:Nat):(⟨g,0,none⟩:Addr).add j=⟨g,j,none⟩:=by unfold Addr.add;split<;>simp_all
theorem QaE.of_ob{v:Value}{bs:List Int}(h:OB w base v bs):QaE w v bs:=by
 rcases Nat.eq_zero_or_pos bs.length with h0|h0
 ·obtain rfl:=List.length_eq_zero_iff.1 h0;rcases h.2 with⟨rfl,-⟩|⟨g,cap,cur,rfl,-⟩
  ·exact .inl ⟨rfl,rfl⟩
  ·exact .inr ⟨_,cap,rfl,fun j u hu=>by simp at hu⟩
 ·obtain⟨g,c,rfl,-,-,-,-,hc⟩:=h.at h0;refine .inr ⟨_,c,rfl,fun j u hu=> ?_⟩;rw [List.getElem?_map]at hu;obtain⟨x,hx,rfl⟩:=Option.map_eq_some_iff.1 hu;obtain⟨hj,rfl⟩:=List.getElem?_eq_some_iff.1 hx;rw [QsS];exact hc j hj
theorem OB.lit(w:World)(base:Nat)(bs:List Int)(n:Nat)(hn:n=bs.length)(hb:base≤w.heap.size)(hl:bs.length≤1000):OB (w.alloc (.cells (bs.map (Value.int .u8)).toArray 5)) base (.slice (some ⟨w.heap.size,0,none⟩) n n) bs:=by
 subst hn;exact World.ownsRow_lit (e:=5) (size:=1) w (bs.map (Value.int .u8)).toArray bs.length hb (by unfold maxLen;omega) (by simp)
theorem Ql9{v1 y:Value}{b1 b2:List Int}(h1:OB w base v1 b1)(h2:QaE w y b2)(hl:b1.length+b2.length≤200000)(hb:base≤w.heap.size)
  (ρ:Operand→Value)(dst:Option Tmp)(p q:Operand)(ty:TypeId)(pos:String)(after:Array Edge)(g:Option (Nat×Bool))(hx:ρ p=v1)(hy:ρ q=y):
  ∃v' w',(execOp ρ ⟨dst,.call {callee:= .builtin .append,args:=#[p,q],argTypes:=#[28,28]},ty,pos,after,g⟩).run Tryz.prog w= .ok (.value v') w'∧OB w' base v' (b1++b2)∧Mv (fun k=>base≤k) w w':=by
 obtain⟨i0,hi,hz0,hz,hz2⟩:=info_parts YB;rcases h2 with⟨rfl,rfl⟩|⟨ad,c,rfl,h5⟩
 ·refine⟨v1,w,?_,by rw [List.append_nil];exact h1,Mv.refl _ _⟩;have hr:=run_append_owned_none (P:=Tryz.prog) w base 28 ty 5 i0 1 Tryz.underlying28 hi v1 b1.length _ h1;simp [execOp,resolve,invoke,builtin,hx,hy,hr,Result.andThen]
 ·obtain⟨v',w',hr,ho,hg,-,-⟩:=run_append_own_at (P:=Tryz.prog) w base 28 ty 5 i0 (.int .u8 0) 1 1 Tryz.underlying28 hi hz0 hz hz2 rfl Dc v1 b1.length _ h1 ad b2.length c (b2.map (Value.int .u8)) (by simp) h5 (oneB b2) (by unfold maxLen;omega) Om hb;refine⟨v',w',?_,?_,Qcp h1 hg⟩
  ·simp [execOp,resolve,invoke,builtin,hx,hy,hr,Result.andThen]
  ·unfold OB;rw [List.length_append,List.map_append];exact ho
theorem listA{ops:Array Oper}{rest:List Oper}{p q:Operand}{ty:TypeId}{v1 y:Value}{b1 b2:List Int}(h1:OB w base v1 b1)(h2:QaE w y b2)(hl:b1.length+b2.length≤200000)(hb:base≤w.heap.size)(hx:a.eval p=v1)(hy:a.eval q=y)
  (h: ∀v' w',OB w' base v' (b1++b2)→Mv (fun k=>base≤k) w w'→wpList Tryz.prog ops Q rest (a.put dst v') w'):wpList Tryz.prog ops Q (⟨dst,.call {callee:= .builtin .append,args:=#[p,q],argTypes:=#[28,28]},ty,pos,after,none⟩::rest) a w:=by
 obtain⟨v',w',hr,ho,hm⟩:=Ql9 h1 h2 hl hb a.eval dst p q ty pos after none hx hy;exact listV rfl hr (h v' w' ho hm)
theorem Qma{ops:Array Oper}{D:Nat→Prop}{r:Nat}{Q:Act→World→Prop}{N k m m':Nat}{ty:TypeId}{fuel:Nat}{v1 v2:Value}{b1 b2:List Int}
  (hm:m|||(1<<<k)=m')(hi:ops[k]?=some ⟨dst,.call {callee:= .builtin .append,args:=#[x,y],argTypes:=#[28,28]},ty,pos,after,none⟩)(hx:a.eval x=v1)(hy:a.eval y=v2)(h1:OB w base v1 b1)(h2:QaE w v2 b2)(hl:b1.length+b2.length≤200000)(hb:base≤w.heap.size)(hD: ∀k,base≤k→D k)
  (H: ∀v' w',OB w' base v' (b1++b2)→Mv (fun k=>base≤k) w w'→QP (fun k=>base≤k) D r Tryz.prog .any ops Q fuel (msk N m') (a.put dst v') w'):QaX (fun k=>base≤k) D r Tryz.prog ops Q fuel N k m a w:=by
 obtain⟨v',w',hr,ho,hv⟩:=Ql9 h1 h2 hl hb a.eval dst x y ty pos after none hx hy;exact Zq (v:=v') hm hi rfl hr ⟨.inr hv,hv.mono fun k _ e=>hD k e⟩ (H v' w' ho hv)
def Ju(n:Int):List Int:= [n/256 % 256,n % 256]
def Qbc(n:Int):List Int:=Ju (n/65536)++Ju (n % 65536)
theorem Qe6(n:Int):ByR (Ju n):=ByR.cons Om (ByR.cons Om ByR.nil)
theorem Qmb(n:Int):ByR (Qbc n):=(Qe6 _).app (Qe6 _)
@[simp] theorem JG(n:Int):(Ju n).length=2:=rfl
@[simp] theorem Qf7(n:Int):(Qbc n).length=4:=rfl
theorem QyK{n:Int}(h0:0≤n)(h1:n<4294967296):bits .and .u32 n 65535=n % 65536:=by
 obtain⟨a,rfl⟩:=Int.eq_ofNat_of_zero_le h0;rw [show(65535:Int)=((65535:Nat):Int)from rfl,Qcr _ _ _ (by show a<2^32;omega) (by show 65535<2^32;omega),YC,show(65535:Nat)=2^16- 1 from rfl,Nat.and_two_pow_sub_one_eq_mod];omega
theorem Qbx(n:Int)(h0:0≤n∧n<4294967296)(w:World):Calls Tryz.prog 202 #[.int .i64 n] w fun e w'=> ∃v,e= .returned v∧Z8 w w' v (Ju n):=by
 have h1:bits .and .i64 (n/256) 255=n/256 % 256:=QcV _ Om Om;have h2:bits .and .i64 n 255=n % 256:=QcV _ Om Om;have h3:IntKind.u8.wrap (n/256 % 256)=n/256 % 256:=by rw [Ye];omega
 have h4:IntKind.u8.wrap (n % 256)=n % 256:=by rw [Ye];omega
 clear h0
 go_enter Tryz.func202,Tryz.ntmps202
 go_wp2;go_ret;exact⟨_,rfl,OB.lit w w.heap.size (Ju n) 2 rfl (Nat.le_refl _) (by rw [JG];omega),Ext.al (Ext.rf _) _⟩
theorem Qqq(n:Int)(h0:0≤n∧n<4294967296)(w:World):Calls Tryz.prog 204 #[.int .u32 n] w fun e w'=> ∃v,e= .returned v∧Z8 w w' v (Qbc n):=by
 obtain⟨i0,hi,hz0,hz1,hz2⟩:=info_parts YB;have h1:bits .and .u32 n 65535=n % 65536:=QyK h0.1 h0.2;have hw1:wrap64 (n/65536)=n/65536:=by simp only [wrap64];omega
 have hw2:wrap64 (n % 65536)=n % 65536:=by simp only [wrap64];omega
 have HT1:=Xh (Qbx (n/65536) Om);have HT2:=Xh (Qbx (n % 65536) Om);clear h0
 go_enter Tryz.func204,Tryz.ntmps204
 go_wp2_with (first|(go_at_call 202;first|((with_reducible refine(HT1.out _).mono ?_);rintro e w1 ⟨v1,rfl,o1⟩)|((with_reducible refine(HT2.out _).mono ?_);rintro e w2 ⟨v2,rfl,o2⟩;have HO:=Xh (o1.own.ext o2.ext);have HE:=Xh (o1.ext.tr o2.ext)))|(at_builtin;refine listA (base:=w.heap.size) HO.out (QaE.of_ob o2.own) (by rw [JG,JG];omega) HE.out.size rfl rfl ?_;intro v' w3 ho3 hm3))
 go_ret;exact⟨_,rfl,ho3,Mv.ext_of HE.out hm3 (fun k h=>h)⟩
def hdR(fl:Int)(no np:Nat):Bool:=(fl==0||fl==16384)&&decide ((no:Int)≤40)&&((no:Int) % 4==0)&&decide (20+(no:Int)+(np:Int)≤65535)
theorem QsT(fl:Int)(no np:Nat)(a b c d e:Bool)(h1:(fl==0)=a)(h2:(fl==16384)=b)(h3:decide ((no:Int)≤40)=c)(h4:((no:Int) % 4==0)=d)(h5:decide (20+(no:Int)+(np:Int)≤65535)=e):hdR fl no np=((a||b)&&c&&d&&e):=by
 unfold hdR;rw [h1,h2,h3,h4,h5]
theorem QdP(h:He)(po pp:Option Addr)(no co np cp:Nat)(hno:no≤100000)(hnp:np≤100000)(w:World):Cr 201 #[.agg (heV h (.slice po no co) (.slice pp np cp))] w (.bool (hdR h.fl no np)):=by
 cases e1:(h.fl==0)<;>cases e2:(h.fl==16384)<;>cases e3:decide ((no:Int)≤40)<;>cases e4:((no:Int) % 4==0)<;>cases e5:decide (20+(no:Int)+(np:Int)≤65535)
 all_goals
  have HR:=Xh (QsT h.fl no np _ _ _ _ _ e1 e2 e3 e4 e5);unfold heV
  go_enter Tryz.func201,Tryz.ntmps201
  go_wp2;go_ret;exact⟨Qm (by rw [HR.out];rfl),Ext.al (Ext.rf _) _⟩
theorem Qkz(h:He)(po pp:Option Addr)(no co np cp:Nat)(hno:no≤100000)(hnp:np≤100000)(hR:hdR h.fl no np=true)(w:World):Cr 203 #[.agg (heV h (.slice po no co) (.slice pp np cp))] w (.int .i64 (20+(no:Int)+(np:Int))):=by
 have HR:=Xh (fun W=>QdP h po pp no co np cp hno hnp W);rw [hR]at HR;clear hR;unfold heV at HR⊢
 go_enter Tryz.func203,Tryz.ntmps203
 go_upto_region 1 with(fail)
 obtain⟨W0,hW⟩: ∃W0,w.alloc (.cells #[.int .u8 h.sv,.int .u16 h.nu,.int .u16 h.fl,.int .u8 h.ho,.int .u8 h.pr,.int .u32 h.sr,.int .u32 h.ds,.slice po no co,.slice pp np cp] 132)=W0:=⟨_,rfl⟩;have g0:Ext w W0:=by rw [←hW];exact Ea
 have rz:RowZ W0 w.heap.size #[.int .u8 h.sv,.int .u16 h.nu,.int .u16 h.fl,.int .u8 h.ho,.int .u8 h.pr,.int .u32 h.sr,.int .u32 h.ds,.slice po no co,.slice pp np cp]:=by rw [←hW];exact RowZ.new _ _ _
 rw [hW];clear hW;have hR:=rz.r;have HZ:=Xh rz;clear rz
 go_wp2_with (go_at_call 201;(refine(HR.out _).mono ?_);rintro e w2 ⟨rfl,g2⟩;have c7:w2.cell? ⟨w.heap.size,7,none⟩=some (.slice po no co):=(HZ.out.ext g2).cell 7 (by show 7<9;omega);have c8:w2.cell? ⟨w.heap.size,8,none⟩=some (.slice pp np cp):=(HZ.out.ext g2).cell 8 (by show 8<9;omega))
 go_ret;exact⟨rfl,g0.tr g2⟩
theorem Y5{n:Int}{u:Value}(hc:w.cell? ⟨B,i,none⟩=some u)(hf:w.frozen? ⟨B,i,none⟩=false){ty:TypeId}
  (hx:ρ x= .pointer (some ⟨B,i,none⟩))(hy:ρ y= .int .u8 n):(execOp ρ ⟨dst,.store 5 x y,ty,pos,after,g⟩).run Tryz.prog w= .ok .skip (w.setCell ⟨B,i,none⟩ (.int .u8 n)):=by
 simp only [execOp,hx,hy];go_simp
theorem Zp{g n c:Nat}{bs:List Int}(h:OB w base (.slice (some ⟨g,0,none⟩) n c) bs)(k:Nat)(hk:k<bs.length):w.cell? ⟨g,k,none⟩=some (.int .u8 bs[k])∧w.frozen? ⟨g,k,none⟩=false∧base≤g∧g<w.heap.size:=by
 obtain⟨g',c',e,-,h1,h2,h3,h4⟩:=h.at Om
 cases e
 exact⟨h4 k hk,Ql h3 k,h1,h2⟩
theorem Qqr(lo:Nat)(n:Int)(h0:0≤n∧n<4294967296)(w:World)(hlo:lo≤w.heap.size):Calls Tryz.prog 204 #[.int .u32 n] w fun e w'=> ∃v,e= .returned v∧OB w' lo v (Qbc n)∧Ext w w':=
 (Qqq n h0 w).mono fun e w' ⟨v,h1,h2⟩=>⟨v,h1,h2.own.le hlo,h2.ext⟩
def Qf8(h:He):List Int:= [69+(h.op.length:Int)/4,h.sv]++Ju (20+(h.op.length:Int)+(h.pl.length:Int))++Ju h.nu++Ju h.fl++ [h.ho,h.pr,0,0]++Qbc h.sr++Qbc h.ds++h.op
theorem QsU(h:He)(rop:ByR h.op)(hsv:0≤h.sv∧h.sv<256)(hho:0≤h.ho∧h.ho<256)(hpr:0≤h.pr∧h.pr<256)(hop:h.op.length≤40):ByR (Qf8 h):=by
 unfold Qf8;refine((((((ByR.app ?_ (Qe6 _)).app (Qe6 _)).app (Qe6 _)).app ?_).app (Qmb _)).app (Qmb _)).app rop
 ·exact ByR.cons Om (ByR.cons hsv ByR.nil)
 ·exact ByR.cons hho (ByR.cons hpr (ByR.cons Om (ByR.cons Om ByR.nil)))
def QiT(h:He):List Int:=((Qf8 h).set 10 (Z5 (Qf8 h)/256 % 256)).set 11 (Z5 (Qf8 h) % 256)++h.pl
def Qqs(ops:Array Oper):Prop:=Region.noSelect ops=true∧Qo ops 10 [0,1,2,5,6] 0=true∧Rd ops 10 103 [3]∧Rd ops 10 111 [4]∧Rd ops 10 127 [7]∧Rd ops 10 255 [8]∧Qo ops 10 [9] 511=true∧Rd ops 10 1023 []
theorem QkA:Qqs ((Tryz.f155.body.bind (Qh 8)).getD #[]):=⟨Kr,Kr,Rk,Rk,Rk,Rk,Kr,Rk⟩
def Qmc(ops:Array Oper):Prop:=Region.noSelect ops=true∧Qo ops 12 [0,1,2,3,4,5,6,7,8] 0=true∧Rd ops 12 511 [9]∧Qo ops 12 [10] 1023=true∧Rd ops 12 2047 [11]∧Rd ops 12 4095 []
theorem QiU:Qmc ((Tryz.f155.body.bind (Qh 11)).getD #[]):=⟨Kr,Kr,Rk,Kr,Rk,Rk⟩
theorem Qe7(h:He)(po pp:Option Addr)(co cp:Nat)(w:World)(hR:hdR h.fl h.op.length h.pl.length=true)(hsv:0≤h.sv∧h.sv<256)(hnu:0≤h.nu∧h.nu<65536)(hfl:0≤h.fl∧h.fl<65536)(hho:0≤h.ho∧h.ho<256)(hpr:0≤h.pr∧h.pr<256)(hsr:0≤h.sr∧h.sr<4294967296)(hds:0≤h.ds∧h.ds<4294967296)
  (so:SlB w po h.op)(hpo:po=none→co=0)(sp:SlB w pp h.pl)(hpp:pp=none→cp=0)(rop:ByR h.op)(hop:h.op.length≤40)(hpl:h.pl.length≤2000):
  Calls Tryz.prog 155 #[.agg (heV h (.slice po h.op.length co) (.slice pp h.pl.length cp))] w fun e w'=> ∃v,e= .returned (.tuple #[v,.bool true])∧Z8 w w' v (QiT h):=by
 have HR:=Xh (fun W=>QdP h po pp h.op.length co h.pl.length cp Om Om W);have HSZ:=Xh (fun W=>Qkz h po pp h.op.length co h.pl.length cp Om Om hR W);have HT0:=Xh (Qbx (20+(h.op.length:Int)+(h.pl.length:Int)) Om);have HT1:=Xh (Qbx h.nu Om);have HT2:=Xh (Qbx h.fl Om);have HT3:=Xh (fun n (hn:0≤n∧n<65536)=>Qbx n Om);have Hsr:=Xh hsr;have Hds:=Xh hds;have HSO:=Xh (fun W (hE:Ext w W)=>QaE.of_slb (c:=co) (so.ext hE) hpo);have HSP:=Xh (fun W (hE:Ext w W)=>QaE.of_slb (c:=cp) (sp.ext hE) hpp);have HHR:=Xh (QsU h rop hsv hho hpr hop);rw [hR]at HR;have hw1:wrap64 h.nu=h.nu:=by simp only [wrap64];omega
 have hw2:wrap64 h.fl=h.fl:=by simp only [wrap64];omega
 have hq0:IntKind.u8.wrap (69+(h.op.length:Int)/4)=69+(h.op.length:Int)/4:=by rw [Ye];omega
 clear hR hnu hfl hsr hds so hpo sp hpp rop hsv hho hpr;unfold heV at HR HSZ⊢
 go_enter Tryz.func155,Tryz.ntmps155
 go_upto_region 1 with(fail)
 obtain⟨W0,hW⟩: ∃W0,w.alloc (.cells #[.int .u8 h.sv,.int .u16 h.nu,.int .u16 h.fl,.int .u8 h.ho,.int .u8 h.pr,.int .u32 h.sr,.int .u32 h.ds,.slice po h.op.length co,.slice pp h.pl.length cp] 132)=W0:=⟨_,rfl⟩;have g0:Ext w W0:=by rw [←hW];exact Ea
 have rz:RowZ W0 w.heap.size #[.int .u8 h.sv,.int .u16 h.nu,.int .u16 h.fl,.int .u8 h.ho,.int .u8 h.pr,.int .u32 h.sr,.int .u32 h.ds,.slice po h.op.length co,.slice pp h.pl.length cp]:=by rw [←hW];exact RowZ.new _ _ _
 rw [hW];clear hW;obtain⟨b1,e1⟩: ∃b,w.heap.size=b:=⟨_,rfl⟩;rw [e1]at rz⊢;have HB1:=Xh e1;have hR:=rz.r;have HRH:=Xh rz;have HE:=Xh g0;clear rz e1 g0
 go_upto_region 3 with(go_at_call 201;(refine(HR.out _).mono ?_);rintro e w2 ⟨rfl,g2⟩;have HRH:=Xh (HRH.out.ext g2);have HE:=Xh (HE.out.tr g2))
 clear hR;have c0:w2.cell? ⟨b1,0,none⟩=some (.int .u8 h.sv):=HRH.out.cell 0 (by show 0<9;omega);have c7:w2.cell? ⟨b1,7,none⟩=some (.slice po h.op.length co):=HRH.out.cell 7 (by show 7<9;omega)
 go_upto_region 4 with(fail)
 clear c0 c7;obtain⟨lo,hlo⟩: ∃lo,b1+1=lo:=⟨_,rfl⟩;have hb2:lo≤w2.heap.size:=by have:=HRH.out.l;unfold Lt at this;omega
 obtain⟨W3,hW⟩: ∃W3,w2.alloc (.cells #[.int .u8 (69+(h.op.length:Int)/4),.int .u8 h.sv] 5)=W3:=⟨_,rfl⟩;have g3:Ext w2 W3:=by rw [←hW];exact Ea
 have HO:Hid (OB W3 lo (.slice (some ⟨w2.heap.size,0,none⟩) 2 2) [69+(h.op.length:Int)/4,h.sv]):=Xh (by rw [←hW];exact OB.lit w2 lo [69+(h.op.length:Int)/4,h.sv] 2 rfl hb2 (by simp));rw [hW];clear hW;have HRH:=Xh (HRH.out.ext g3);have HE:=Xh (HE.out.tr g3);have HBS:=Xh (Xt hb2 g3.size);clear g3 hb2;have hR:=HRH.out.r
 go_upto_region 7 with(first|(go_at_call 203;(with_reducible refine(HSZ.out _).mono ?_);rintro e ws ⟨rfl,gs⟩;have HRH:=Xh (HRH.out.ext gs);have HO:=Xh (HO.out.ext gs);have HE:=Xh (HE.out.tr gs);have HBS:=Xh (Xt HBS.out gs.size))|(go_at_call 202;(first|(with_reducible refine(HT0.out _).mono ?_)|(with_reducible refine(HT1.out _).mono ?_)|(with_reducible refine(HT2.out _).mono ?_));rintro e wt ⟨vt,rfl,ot⟩;have HRH:=Xh (HRH.out.ext ot.ext);have HO:=Xh (HO.out.ext ot.ext);have HE:=Xh (HE.out.tr ot.ext);have HS2:=Xh (QaE.of_ob ot.own);have HBS:=Xh (Xt HBS.out ot.ext.size);clear ot;have c1:wt.cell? ⟨b1,1,none⟩=some (.int .u16 h.nu):=HRH.out.cell 1 (by show 1<9;omega);have c2:wt.cell? ⟨b1,2,none⟩=some (.int .u16 h.fl):=HRH.out.cell 2 (by show 2<9;omega);have c3:wt.cell? ⟨b1,3,none⟩=some (.int .u8 h.ho):=HRH.out.cell 3 (by show 3<9;omega);have c4:wt.cell? ⟨b1,4,none⟩=some (.int .u8 h.pr):=HRH.out.cell 4 (by show 4<9;omega))|(at_builtin;refine listA (base:=lo) HO.out HS2.out (by simp<;>omega) HBS.out rfl rfl ?_;intro va wa ho hm;have HRH:=Xh (RowZ.mv (C:=fun k=>lo≤k) HRH.out hm Om);have HE:=Xh (Mv.ext_of (C:=fun k=>lo≤k) HE.out hm (fun k hk=>by have:=HB1.out;omega));have HO:=Xh ho;have HBS:=Xh (Xt HBS.out hm.size);clear ho hm;have c1:wa.cell? ⟨b1,1,none⟩=some (.int .u16 h.nu):=HRH.out.cell 1 (by show 1<9;omega);have c2:wa.cell? ⟨b1,2,none⟩=some (.int .u16 h.fl):=HRH.out.cell 2 (by show 2<9;omega);have c3:wa.cell? ⟨b1,3,none⟩=some (.int .u8 h.ho):=HRH.out.cell 3 (by show 3<9;omega);have c4:wa.cell? ⟨b1,4,none⟩=some (.int .u8 h.pr):=HRH.out.cell 4 (by show 4<9;omega)))
 clear c1 c2 hR
 go_upto_region 8 with((at_builtin;refine listA (base:=lo) (HO.out.ext Ea) (QaE.of_ob (OB.lit _ lo [h.ho,h.pr,0,0] 4 rfl HBS.out (by simp))) (by simp<;>omega) (Xt HBS.out Ea.size) rfl rfl ?_;intro va wa ho hm;have HRH:=Xh (RowZ.mv (C:=fun k=>lo≤k) (HRH.out.ext Ea) hm Om);have HE:=Xh (Mv.ext_of (C:=fun k=>lo≤k) (Ext.al HE.out _) hm (fun k hk=>by have:=HB1.out;omega));have HO:=Xh ho;have HBS:=Xh (Xt (Xt HBS.out Ea.size) hm.size);clear ho hm;))
 clear c3 c4;obtain⟨L7,hL7⟩: ∃L,([69+(h.op.length:Int)/4,h.sv]++Ju (20+(h.op.length:Int)+(h.pl.length:Int))++Ju h.nu++Ju h.fl++ [h.ho,h.pr,0,0])=L:=⟨_,rfl⟩;have hl7:L7.length=12:=by rw [←hL7];simp
 have HL7:=Xh hL7;have ho:OB wa lo va L7:=by rw [←hL7];exact HO.out
 have rh:=HRH.out;have E:=HE.out;have hbs:=HBS.out;clear hL7;refine Qy (fun k=>lo≤k) (fun k=>lo≤k) 10 Kr ?_;obtain⟨WA,hW⟩: ∃Wdr,World.drew wa=Wdr:=⟨_,rfl⟩;have gD:Ext wa WA:=by rw [←hW];exact Ext.dr (Ext.rf _)
 rw [hW];clear hW;have E:=E.tr gD;have rh:=rh.ext gD;have ho:=ho.ext gD;have hbs:=Xt hbs gD.size;refine Zi (N:=10) (R:=Qqs) (E:=((Tryz.f155.body.bind (Qh 8)).getD #[])) Kr QkA Kr fun hS=> ?_;have hT:=hS.2.1;refine tWk 1 va hS.1 hT rfl fun hT=>tWk 3 (.pointer (some ⟨b1,5,none⟩)) hS.1 hT rfl fun hT=>tW 7 (.int .u32 h.sr) hS.1 hT rfl (Qa0 (rh.cell 5 (by show 5<9;omega)) rh.l Om Kr) fun hT=>tWk 39 (.pointer (some ⟨b1,6,none⟩)) hS.1 hT rfl fun hT=>tW 103 (.int .u32 h.ds) hS.1 hT rfl (Qa0 (rh.cell 6 (by show 6<9;omega)) rh.l Om Kr) fun hT=> ?_;refine sV 111 (fun v w'=>OB w' lo v (Qbc h.sr)) hS.2.2.1 rfl (Qqr lo h.sr Hsr.out WA hbs) ?_;rintro vq WB1 gWB1 oq;have E:=E.tr gWB1;have rh:=rh.ext gWB1;have ho:=ho.ext gWB1;have hbs:=Xt hbs gWB1.size;refine Qr hS.2.2.2.1 (Qma (m':=127) (base:=lo) (b1:=L7) rfl rfl Kr Kr ho (QaE.of_ob oq) (by simp<;>omega) hbs (fun k hk=>hk) ?_);intro v8 WB2 ho hmv;have rh:=rh.mv (C:=fun k=>lo≤k) hmv Om;have E:=Mv.ext_of (C:=fun k=>lo≤k) E hmv (fun k hk=>by have:=HB1.out;omega);have hbs:=Xt hbs hmv.size;have gWB2:=Ext.rf WB2;have E:=E.tr gWB2;have rh:=rh.ext gWB2;have ho:=ho.ext gWB2;refine sV 255 (fun v w'=>OB w' lo v (Qbc h.ds)) hS.2.2.2.2.1 rfl (Qqr lo h.ds Hds.out WB2 hbs) ?_;rintro vq WB3 gWB3 oq;have E:=E.tr gWB3;have rh:=rh.ext gWB3;have ho:=ho.ext gWB3;have hbs:=Xt hbs gWB3.size;refine Qr hS.2.2.2.2.2.1 (Qma (m':=511) (base:=lo) (b1:=(L7++Qbc h.sr)) rfl rfl Kr Kr ho (QaE.of_ob oq) (by simp<;>omega) hbs (fun k hk=>hk) ?_);intro v9 WB4 ho hmv;have rh:=rh.mv (C:=fun k=>lo≤k) hmv Om;have E:=Mv.ext_of (C:=fun k=>lo≤k) E hmv (fun k hk=>by have:=HB1.out;omega);have hbs:=Xt hbs hmv.size;have gWB4:=Ext.rf WB4;have E:=E.tr gWB4;have rh:=rh.ext gWB4;have ho:=ho.ext gWB4;have hT:=hS.2.2.2.2.2.2.1;refine tWk 1023 v9 hS.1 hT rfl fun hT=> ?_;refine QZ hS.2.2.2.2.2.2.2 ?_;clear hS hT;go_simp;have HRH:=Xh rh;have HE:=Xh E;have HO:=Xh ho;have HBS:=Xh hbs;clear rh E ho hbs;have c7:WB4.cell? ⟨b1,7,none⟩=some (.slice po h.op.length co):=HRH.out.cell 7 (by show 7<9;omega)
 go_upto_region 10 with((at_builtin;refine listA (base:=lo) HO.out (HSO.out _ HE.out) (by simp only [List.length_append,Qf7];omega) HBS.out rfl rfl ?_;intro va wa ho hm;have HRH:=Xh (RowZ.mv (C:=fun k=>lo≤k) HRH.out hm Om);have HE:=Xh (Mv.ext_of (C:=fun k=>lo≤k) HE.out hm (fun k hk=>by have:=HB1.out;omega));have HO:=Xh ho;have HBS:=Xh (Xt HBS.out hm.size);clear ho hm;))
 clear c7;obtain⟨LL,hL⟩: ∃L,L7++Qbc h.sr++Qbc h.ds++h.op=L:=⟨_,rfl⟩;have HLL:=Xh (show LL.length=20+h.op.length by rw [←hL];simp only [List.length_append,Qf7];omega);have HLH:=Xh (show Qf8 h=LL by rw [←hL,←HL7.out];rfl);have HO:Hid (OB wa lo va LL):=Xh (by rw [←hL];exact HO.out);clear hL;obtain⟨g,cg,rfl,hcg,hgl,hgb,-,-⟩:=HO.out.at (by have:=HLL.out;omega)
 have HCK:Hid (Cr 199 #[.slice (some ⟨g,0,none⟩) LL.length cg] wa (.int .u16 (Z5 LL))):=Xh (by
  obtain⟨p,c,e,-,s⟩:=HO.out.slb
  cases e
  exact Qe5 LL _ cg wa s (by rw [←HLH.out];exact HHR.out) (by have:=HLL.out;omega))
 have hK:=Qlz LL;obtain⟨K,eK⟩: ∃K,Z5 LL=K:=⟨_,rfl⟩;have HK:=Xh eK;rw [eK]at HCK hK;have hw3:wrap64 K=K:=by simp only [wrap64];omega
 have HT4:=Xh (HT3.out K hK);clear eK hK
 go_upto_region 11 with(first|(go_at_call 199;(with_reducible refine(HCK.out).mono ?_);rintro e wc ⟨rfl,gc⟩)|(go_at_call 202;(with_reducible refine(HT4.out _).mono ?_);rintro e wd ⟨v5,rfl,o5⟩;obtain⟨g5,c5,rfl,-,h5l,h5b,-,h5c⟩:=o5.own.at (by rw [JG];omega)))
 have gd:=gc.tr o5.ext;have hne:g<g5:=by have:=gc.size;omega
 have hg5: ¬g5=g:=by omega
 have k0:wd.cell? ⟨g5,0,none⟩=some (.int .u8 (K/256 % 256)):=h5c 0 (by rw [JG];omega);have k1:wd.cell? ⟨g5,1,none⟩=some (.int .u8 (K % 256)):=h5c 1 (by rw [JG];omega);have l5:Lt g5 wd:=h5b;have ho:=HO.out.ext gd;have rh:=HRH.out.ext gd;have E:=HE.out.tr gd;have hbs:=Xt HBS.out gd.size;clear gc gd o5 h5c h5b hw3;refine Qy (fun _=>False) (fun q=>q=g) 9 Kr ?_;obtain⟨WC,hW⟩: ∃Wdr,World.drew wd=Wdr:=⟨_,rfl⟩;have gD:Ext wd WC:=by rw [←hW];exact Ext.dr (Ext.rf _)
 rw [hW];clear hW;have E:=E.tr gD;have rh:=rh.ext gD;have ho:=ho.ext gD;have hbs:=Xt hbs gD.size;have k0:=(gD.cell (p:=⟨g5,0,none⟩) l5).trans k0;have k1:=(gD.cell (p:=⟨g5,1,none⟩) l5).trans k1;have l5:=Xl l5 gD.size;have hb1g:b1<g:=by omega
 have hLL:=HLL.out;refine Zi (N:=12) (R:=Qmc) (E:=((Tryz.f155.body.bind (Qh 11)).getD #[])) Kr QiU Kr fun hS=> ?_;have hT:=hS.2.1;refine tWk 1 (.slice (some ⟨g,0,none⟩) LL.length cg) hS.1 hT rfl fun hT=>tWk 3 (.slice (some ⟨g,0,none⟩) LL.length cg) hS.1 hT rfl fun hT=>tWk 7 (.slice (some ⟨g5,0,none⟩) 2 c5) hS.1 hT rfl fun hT=>tW 15 (.pointer (some ⟨g5,0,none⟩)) hS.1 hT rfl (fun w' _=>Zh (m:=2) (c:=c5) 0 Om Kr Kr w') fun hT=>tW 31 (.int .u8 (K/256 % 256)) hS.1 hT rfl (Yv k0 l5 hg5 Kr) fun hT=>tWk 63 (.slice (some ⟨g5,0,none⟩) 2 c5) hS.1 hT rfl fun hT=>tW 127 (.pointer (some ⟨g5,1,none⟩)) hS.1 hT rfl (fun w' _=>Zh (m:=2) (c:=c5) 1 Om Kr Kr w') fun hT=>tW 255 (.int .u8 (K % 256)) hS.1 hT rfl (Yv k1 l5 hg5 Kr) fun hT=>tW 511 (.pointer (some ⟨g,10,none⟩)) hS.1 hT rfl (fun w' _=>Zh (m:=LL.length) (c:=cg) 10 Om Kr Kr w') fun hT=> ?_;refine Qr hS.2.2.1 (QE (m':=1023) rfl rfl Kr (Y5 (B:=g) (i:=10) (n:=K/256 % 256) (Zp ho 10 (by rw [hLL];omega)).1 (Zp ho 10 (by rw [hLL];omega)).2.1 Kr Kr) ⟨.inl Dc,(Mv.st _ (.inl rfl) (Mv.refl _ _))⟩ ?_);obtain⟨WD1,hWD1⟩: ∃WD1,World.setCell WC ⟨g,10,none⟩ (.int .u8 (K/256 % 256))=WD1:=⟨_,rfl⟩;have gS:Mv (fun q=>q=g) WC WD1:=by rw [←hWD1];exact Mv.st _ (.inl rfl) (Mv.refl _ _)
 have ho:OB WD1 lo (.slice (some ⟨g,0,none⟩) LL.length cg) (LL.set 10 (K/256 % 256)):=by rw [←hWD1];exact YD ho 10 _ (by simp)
 have E:=Mv.ext_of E gS (fun q e=>by have:=HB1.out;omega);have rh:=rh.mv gS Om;have hbs:=Xt hbs gS.size;rw [hWD1];clear hWD1;have hT:=hS.2.2.2.1;refine tW 2047 (.pointer (some ⟨g,11,none⟩)) hS.1 hT rfl (fun w' _=>Zh (m:=LL.length) (c:=cg) 11 Om Kr Kr w') fun hT=> ?_;refine Qr hS.2.2.2.2.1 (QE (m':=4095) rfl rfl Kr (Y5 (B:=g) (i:=11) (n:=K % 256) (Zp ho 11 (by rw [List.length_set,hLL];omega)).1 (Zp ho 11 (by rw [List.length_set,hLL];omega)).2.1 Kr Kr) ⟨.inl Dc,(Mv.st _ (.inl rfl) (Mv.refl _ _))⟩ ?_);obtain⟨WD2,hWD2⟩: ∃WD2,World.setCell WD1 ⟨g,11,none⟩ (.int .u8 (K % 256))=WD2:=⟨_,rfl⟩;have gS:Mv (fun q=>q=g) WD1 WD2:=by rw [←hWD2];exact Mv.st _ (.inl rfl) (Mv.refl _ _)
 have ho:OB WD2 lo (.slice (some ⟨g,0,none⟩) LL.length cg) ((LL.set 10 (K/256 % 256)).set 11 (K % 256)):=by rw [←hWD2];exact YD ho 11 _ (by simp)
 have E:=Mv.ext_of E gS (fun q e=>by have:=HB1.out;omega);have rh:=rh.mv gS Om;have hbs:=Xt hbs gS.size;rw [hWD2];clear hWD2;refine QZ hS.2.2.2.2.2 ?_;clear hS hT k0 k1 hLL;go_simp;have HRH:=Xh rh;have HE:=Xh E;have HO:=Xh ho;have HBS:=Xh hbs;clear rh E ho hbs;have c8:WD2.cell? ⟨b1,8,none⟩=some (.slice pp h.pl.length cp):=HRH.out.cell 8 (by show 8<9;omega)
 go_wp2_with ((at_builtin;refine listA (base:=lo) HO.out (HSP.out _ HE.out) (by have:=HLL.out;simp only [List.length_set];omega) HBS.out rfl rfl ?_;intro va wa ho hm;have HRH:=Xh (RowZ.mv (C:=fun k=>lo≤k) HRH.out hm Om);have HE:=Xh (Mv.ext_of (C:=fun k=>lo≤k) HE.out hm (fun k hk=>by have:=HB1.out;omega));have HO:=Xh ho;have HBS:=Xh (Xt HBS.out hm.size);clear ho hm;))
 refine bodyPost_ret (v:= .tuple #[va,.bool true]) (by simp [results,Tryz.results155,go_sem]) rfl ?_;refine⟨va,rfl,?_,HE.out⟩;rw [HB1.out];unfold QiT;rw [HLH.out,HK.out];exact HO.out.le Om
theorem Qbd(n:Int)(w:World):Calls Tryz.prog 231 #[.int .i64 n] w fun e w'=> ∃v,e= .returned v∧Z8 w w' v (Ju n):=by
 have h3:IntKind.u8.wrap (n/256)=n/256 % 256:=Ye _;have h4:IntKind.u8.wrap n=n % 256:=Ye _
 go_enter Tryz.func231,Tryz.ntmps231
 go_wp2;go_ret;exact⟨_,rfl,OB.lit w w.heap.size (Ju n) 2 rfl (Nat.le_refl _) (by rw [JG];omega),Ext.al (Ext.rf _) _⟩
theorem Qbe(n:Int):Ju (n % 65536)=Ju n:=by
 unfold Ju;rw [show n % 65536/256 % 256=n/256 % 256 by omega,show n % 65536 % 256=n % 256 by omega]
theorem QkB(src dst n:Int):Ju (src/65536)++Ju src++Ju (dst/65536)++Ju dst++ [0,6]++Ju n=Z4 src dst n:=by
 have h: ∀(x:Int) (l:List Int),Yz (x::l)=Ju x++Yz l:=fun _ _=>rfl;unfold Z4 psN;rw [h,h,h,h,h,h,Qbe,Qbe,Qbe,Qbe,Qbe];simp [Yz,Ju]
theorem QiV(src dst n:Int)(h0:0≤src∧src<4294967296)(h1:0≤dst∧dst<4294967296)(w:World):Calls Tryz.prog 206 #[.int .u32 src,.int .u32 dst,.int .i64 n] w fun e w'=> ∃v,e= .returned v∧Z8 w w' v (Z4 src dst n):=by
 have hw1:wrap64 (src/65536)=src/65536:=by simp only [wrap64];omega
 have hw2:wrap64 src=src:=by simp only [wrap64];omega
 have hw3:wrap64 (dst/65536)=dst/65536:=by simp only [wrap64];omega
 have hw4:wrap64 dst=dst:=by simp only [wrap64];omega
 have HT1:=Xh (Qbd (src/65536));have HT2:=Xh (Qbd src);have HT3:=Xh (Qbd (dst/65536));have HT4:=Xh (Qbd dst);have HT5:=Xh (Qbd n);clear h0 h1
 go_enter Tryz.func206,Tryz.ntmps206
 go_wp2_with (first|(go_at_call 231;first|((with_reducible refine(HT1.out _).mono ?_);rintro e wt ⟨vt,rfl,ot⟩;have HO:=Xh ot.own;have HE:=Xh ot.ext;clear ot)|((first|(with_reducible refine(HT2.out _).mono ?_)|(with_reducible refine(HT3.out _).mono ?_)|(with_reducible refine(HT4.out _).mono ?_)|(with_reducible refine(HT5.out _).mono ?_));rintro e wt ⟨vt,rfl,ot⟩;have HO:=Xh (HO.out.ext ot.ext);have HE:=Xh (HE.out.tr ot.ext);have HS2:=Xh (QaE.of_ob ot.own);clear ot))|(at_builtin;refine listA (base:=w.heap.size) HO.out HS2.out (by simp<;>omega) HE.out.size rfl rfl ?_;intro va wa ho hm;have HE:=Xh (Mv.ext_of HE.out hm (fun k hk=>hk));have HO:=Xh ho;clear ho hm)|(at_builtin;refine listA (base:=w.heap.size) (HO.out.ext Ea) (QaE.of_ob (OB.lit _ w.heap.size [0,6] 2 rfl HE.out.size (by simp))) (by simp<;>omega) (Xt HE.out.size Ea.size) rfl rfl ?_;intro va wa ho hm;have HE:=Xh (Mv.ext_of (Ext.al HE.out _) hm (fun k hk=>hk));have HO:=Xh ho;clear ho hm))
 go_ret;exact⟨va,rfl,by rw [←QkB];exact HO.out,HE.out⟩
theorem Qqt{q r:Operand}{ty:TypeId}(hx:ρ q= .int .i64 20)(hy:ρ r= .int .i64 20)(w:World):
  (execOp ρ ⟨dst,.makeSlice 28 q r,ty,pos,after,g⟩).run Tryz.prog w= .ok (.value (.slice (some ⟨w.heap.size,0,none⟩) 20 20)) (w.alloc (.cells (((List.replicate 20 (0:Int))).map (Value.int .u8)).toArray 5)):=by
 have h:(Instr.makeSlice 28 (.int .i64 20) (.int .i64 20)).run Tryz.prog w= .ok (.slice (some ⟨w.heap.size,0,none⟩) 20 20) (w.alloc (.cells (((List.replicate 20 (0:Int))).map (Value.int .u8)).toArray 5)):=Kr
 simp [execOp,hx,hy,h,Result.andThen]
theorem OB.of_heap{g:Nat}{bs:List Int}(h:w.heap[g]?=some (.cells (bs.map (Value.int .u8)).toArray 5))(hb:base≤g)(n:Nat)(hn:n=bs.length)(hl:bs.length≤1000):OB w base (.slice (some ⟨g,0,none⟩) n n) bs:=by
 subst hn;exact⟨by simp,.inr ⟨g,bs.length,_,rfl,hb,h,Nat.le_refl _,by unfold maxLen;omega,by simp,by simp [List.take_of_length_le]⟩⟩
theorem Qcd{x:Int}{q:Operand}{ty:TypeId}(hx:ρ q= .int .u16 x)(hy:ρ y= .int .u64 8)(w:World):
  (execOp ρ ⟨dst,.binOp .shr 62 q y 197,ty,pos,after,g⟩).run Tryz.prog w= .ok (.value (.int .u16 (x/256))) w:=by
 simp only [execOp,hx,hy];go_simp
theorem Jy{x:Int}{q:Operand}{ty:TypeId}(hx:ρ q= .int .u16 x)(w:World):
  (execOp ρ ⟨dst,.convert 62 5 q,ty,pos,after,g⟩).run Tryz.prog w= .ok (.value (.int .u8 (x % 256))) w:=by
 simp only [execOp,hx];go_simp;rw [Ye]
def QkC(sp dp fl:Int):List Int:=((((((List.replicate 20 (0:Int)).set 0 (sp/256 % 256)).set 1 (sp % 256)).set 2 (dp/256 % 256)).set 3 (dp % 256)).set 12 80).set 13 fl
theorem QiW(sp dp fl:Int):(QkC sp dp fl).length=20:=by unfold QkC;simp
theorem QvP(sp dp fl:Int)(h:0≤fl∧fl<256):ByR (QkC sp dp fl):=by
 have hz:ByR (List.replicate 20 (0:Int)):=fun b hb=>by rw [List.eq_of_mem_replicate hb];omega
 exact(((((hz.set 0 _ Om).set 1 _ Om).set 2 _ Om).set 3 _ Om).set 12 _ Om).set 13 _ h
def QkD(src dst sp dp fl:Int):List Int:=((QkC sp dp fl).set 16 (Z5 (Z4 src dst 20++QkC sp dp fl)/256 % 256)).set 17 (Z5 (Z4 src dst 20++QkC sp dp fl) % 256)
def Qqu(ops:Array Oper):Prop:=Region.noSelect ops=true∧Qo ops 13 [0,1,2,3,4,5,6,7,8,9] 0=true∧Rd ops 13 1023 [10]∧Qo ops 13 [11] 2047=true∧Rd ops 13 4095 [12]∧Rd ops 13 8191 []
theorem QkE:Qqu ((Tryz.f164.body.bind (Qh 4)).getD #[]):=⟨Kr,Kr,Rk,Kr,Rk,Rk⟩
def Qqv(ops:Array Oper):Prop:=Region.noSelect ops=true∧Qo ops 13 [0,1,2,3,4,5,6,7,8,9] 0=true∧Rd ops 13 1023 [10]∧Qo ops 13 [11] 2047=true∧Rd ops 13 4095 [12]∧Rd ops 13 8191 []
theorem QkF:Qqv ((Tryz.f164.body.bind (Qh 5)).getD #[]):=⟨Kr,Kr,Rk,Kr,Rk,Rk⟩
theorem Qnv(src dst sp dp fl:Int)(h0:0≤src∧src<4294967296)(h1:0≤dst∧dst<4294967296)(hf:0≤fl∧fl<256)(w:World):
  Calls Tryz.prog 164 #[.int .u32 src,.int .u32 dst,.agg #[.int .u16 sp,.int .u16 dp,.int .u8 fl,.int .i64 20,.slice none 0 0]] w fun e w'=> ∃v,e= .returned (.tuple #[v,.bool true])∧Z8 w w' v (QkD src dst sp dp fl):=by
 have HPS:=Xh (QiV src dst 20 h0 h1);have HTR:=Xh (QvP sp dp fl hf);clear h0 h1 hf
 go_enter Tryz.func164,Tryz.ntmps164
 go_upto_region 3 with(fail)
 obtain⟨W0,hW⟩: ∃W0,w.alloc (.cells #[.int .u16 sp,.int .u16 dp,.int .u8 fl,.int .i64 20,.slice none 0 0] 142)=W0:=⟨_,rfl⟩;have E:Ext w W0:=by rw [←hW];exact Ea
 have rt:RowZ W0 w.heap.size #[.int .u16 sp,.int .u16 dp,.int .u8 fl,.int .i64 20,.slice none 0 0]:=by rw [←hW];exact RowZ.new _ _ _
 rw [hW];clear hW;obtain⟨b5,e5⟩: ∃b,w.heap.size=b:=⟨_,rfl⟩;rw [e5]at rt⊢;have HB5:=Xh e5;obtain⟨lo,hlo⟩: ∃lo,b5+1=lo:=⟨_,rfl⟩;have hb2:lo≤W0.heap.size:=by have:=rt.l;unfold Lt at this;omega
 clear e5;refine wp_region_lit ?_;refine listV (v:= .pointer (some ⟨b5,3,none⟩)) (w':=W0) rfl Kr ?_;refine listV (v:= .int .i64 20) (w':=W0) rfl ((Q0 (C:=fun _=>False) (rt.cell 3 (by show 3<5;omega)) rt.l (fun h=>h) Kr) _ (Mv.refl (fun _=>False) _)) ?_;refine listV rfl (Qqt Kr Kr W0) ?_;obtain⟨WZ1,hWZ1⟩: ∃WZ1,W0.alloc (.cells (((List.replicate 20 (0:Int))).map (Value.int .u8)).toArray 5)=WZ1:=⟨_,rfl⟩;have hbk:=World.alloc_heap_new W0 (.cells (((List.replicate 20 (0:Int))).map (Value.int .u8)).toArray 5);have gWZ1:Ext W0 WZ1:=by rw [←hWZ1];exact Ea
 rw [hWZ1]at hbk⊢;clear hWZ1;have E:=E.tr gWZ1;have rt:=rt.ext gWZ1;refine listV (v:= .slice (some ⟨W0.heap.size,0,none⟩) 20 20) (w':=WZ1) rfl Kr ?_;refine wpList_nil ?_;have ho:=OB.of_heap (base:=lo) hbk hb2 20 (by simp) (by simp);have hbs:=Xt hb2 gWZ1.size;obtain⟨g,eg⟩: ∃g,W0.heap.size=g:=⟨_,rfl⟩;rw [eg]at ho hbk hb2⊢;have hg5: ¬(fun q=>q=g) b5:=fun e=>by have e':b5=g:=e;omega
 have hbg:b5<g:=by omega
 clear gWZ1 hbk;go_simp
 go_upto_region 4 with(fail)
 refine Qy (fun _=>False) (fun q=>q=g) 10 Kr ?_;obtain⟨WA,hW⟩: ∃Wdr,World.drew WZ1=Wdr:=⟨_,rfl⟩;have gD:Ext WZ1 WA:=by rw [←hW];exact Ext.dr (Ext.rf _)
 rw [hW];clear hW;have E:=E.tr gD;have rt:=rt.ext gD;have ho:=ho.ext gD;have hbs:=Xt hbs gD.size;refine Zi (N:=13) (R:=Qqu) (E:=((Tryz.f164.body.bind (Qh 4)).getD #[])) Kr QkE Kr fun hS=> ?_;have hT:=hS.2.1;refine tWk 1 (.slice (some ⟨g,0,none⟩) 20 20) hS.1 hT rfl fun hT=>tWk 3 (.slice (some ⟨g,0,none⟩) 20 20) hS.1 hT rfl fun hT=>tWk 7 (.pointer (some ⟨b5,0,none⟩)) hS.1 hT rfl fun hT=>tW 15 (.int .u16 sp) hS.1 hT rfl (Qa1 (rt.cell 0 (by show 0<5;omega)) rt.l Om Kr) fun hT=>tW 31 (.int .u16 (sp/256)) hS.1 hT rfl (fun w' _=>Qcd Kr Kr w') fun hT=>tW 63 (.int .u8 ((sp/256) % 256)) hS.1 hT rfl (fun w' _=>Jy Kr w') fun hT=>tWk 127 (.pointer (some ⟨b5,0,none⟩)) hS.1 hT rfl fun hT=>tW 255 (.int .u16 sp) hS.1 hT rfl (Qa1 (rt.cell 0 (by show 0<5;omega)) rt.l Om Kr) fun hT=>tW 511 (.int .u8 (sp % 256)) hS.1 hT rfl (fun w' _=>Jy Kr w') fun hT=>tW 1023 (.pointer (some ⟨g,0,none⟩)) hS.1 hT rfl (fun w' _=>Zh (m:=20) (c:=20) 0 Om Kr Kr w') fun hT=> ?_;refine Qr hS.2.2.1 (QE (m':=2047) rfl rfl Kr (Y5 (B:=g) (i:=0) (n:=sp/256 % 256) (Zp ho 0 (by simp)).1 (Zp ho 0 (by simp)).2.1 Kr Kr) ⟨.inl Dc,(Mv.st _ (.inl rfl) (Mv.refl _ _))⟩ ?_);obtain⟨WB1,hWB1⟩: ∃WB1,World.setCell WA ⟨g,0,none⟩ (.int .u8 (sp/256 % 256))=WB1:=⟨_,rfl⟩;have gS:Mv (fun q=>q=g) WA WB1:=by rw [←hWB1];exact Mv.st _ (.inl rfl) (Mv.refl _ _)
 have ho:OB WB1 lo (.slice (some ⟨g,0,none⟩) 20 20) ((List.replicate 20 (0:Int)).set 0 (sp/256 % 256)):=by rw [←hWB1];exact YD ho 0 _ (by simp)
 have E:=Mv.ext_of E gS (fun q e=>by have:=HB5.out;omega);have rt:=rt.mv gS Om;have hbs:=Xt hbs gS.size;rw [hWB1];clear hWB1;have hT:=hS.2.2.2.1;refine tW 4095 (.pointer (some ⟨g,1,none⟩)) hS.1 hT rfl (fun w' _=>Zh (m:=20) (c:=20) 1 Om Kr Kr w') fun hT=> ?_;refine Qr hS.2.2.2.2.1 (QE (m':=8191) rfl rfl Kr (Y5 (B:=g) (i:=1) (n:=sp % 256) (Zp ho 1 (by simp)).1 (Zp ho 1 (by simp)).2.1 Kr Kr) ⟨.inl Dc,(Mv.st _ (.inl rfl) (Mv.refl _ _))⟩ ?_);obtain⟨WB2,hWB2⟩: ∃WB2,World.setCell WB1 ⟨g,1,none⟩ (.int .u8 (sp % 256))=WB2:=⟨_,rfl⟩;have gS:Mv (fun q=>q=g) WB1 WB2:=by rw [←hWB2];exact Mv.st _ (.inl rfl) (Mv.refl _ _)
 have ho:OB WB2 lo (.slice (some ⟨g,0,none⟩) 20 20) (((List.replicate 20 (0:Int)).set 0 (sp/256 % 256)).set 1 (sp % 256)):=by rw [←hWB2];exact YD ho 1 _ (by simp)
 have E:=Mv.ext_of E gS (fun q e=>by have:=HB5.out;omega);have rt:=rt.mv gS Om;have hbs:=Xt hbs gS.size;rw [hWB2];clear hWB2;refine QZ hS.2.2.2.2.2 ?_;clear hS hT;go_simp
 go_upto_region 5 with(fail)
 refine Qy (fun _=>False) (fun q=>q=g) 10 Kr ?_;obtain⟨WC,hW⟩: ∃Wdr,World.drew WB2=Wdr:=⟨_,rfl⟩;have gD:Ext WB2 WC:=by rw [←hW];exact Ext.dr (Ext.rf _)
 rw [hW];clear hW;have E:=E.tr gD;have rt:=rt.ext gD;have ho:=ho.ext gD;have hbs:=Xt hbs gD.size;refine Zi (N:=13) (R:=Qqv) (E:=((Tryz.f164.body.bind (Qh 5)).getD #[])) Kr QkF Kr fun hS=> ?_;have hT:=hS.2.1;refine tWk 1 (.slice (some ⟨g,0,none⟩) 20 20) hS.1 hT rfl fun hT=>tWk 3 (.slice (some ⟨g,0,none⟩) 20 20) hS.1 hT rfl fun hT=>tWk 7 (.pointer (some ⟨b5,1,none⟩)) hS.1 hT rfl fun hT=>tW 15 (.int .u16 dp) hS.1 hT rfl (Qa1 (rt.cell 1 (by show 1<5;omega)) rt.l Om Kr) fun hT=>tW 31 (.int .u16 (dp/256)) hS.1 hT rfl (fun w' _=>Qcd Kr Kr w') fun hT=>tW 63 (.int .u8 ((dp/256) % 256)) hS.1 hT rfl (fun w' _=>Jy Kr w') fun hT=>tWk 127 (.pointer (some ⟨b5,1,none⟩)) hS.1 hT rfl fun hT=>tW 255 (.int .u16 dp) hS.1 hT rfl (Qa1 (rt.cell 1 (by show 1<5;omega)) rt.l Om Kr) fun hT=>tW 511 (.int .u8 (dp % 256)) hS.1 hT rfl (fun w' _=>Jy Kr w') fun hT=>tW 1023 (.pointer (some ⟨g,2,none⟩)) hS.1 hT rfl (fun w' _=>Zh (m:=20) (c:=20) 2 Om Kr Kr w') fun hT=> ?_;refine Qr hS.2.2.1 (QE (m':=2047) rfl rfl Kr (Y5 (B:=g) (i:=2) (n:=dp/256 % 256) (Zp ho 2 (by simp)).1 (Zp ho 2 (by simp)).2.1 Kr Kr) ⟨.inl Dc,(Mv.st _ (.inl rfl) (Mv.refl _ _))⟩ ?_);obtain⟨WD1,hWD1⟩: ∃WD1,World.setCell WC ⟨g,2,none⟩ (.int .u8 (dp/256 % 256))=WD1:=⟨_,rfl⟩;have gS:Mv (fun q=>q=g) WC WD1:=by rw [←hWD1];exact Mv.st _ (.inl rfl) (Mv.refl _ _)
 have ho:OB WD1 lo (.slice (some ⟨g,0,none⟩) 20 20) ((((List.replicate 20 (0:Int)).set 0 (sp/256 % 256)).set 1 (sp % 256)).set 2 (dp/256 % 256)):=by rw [←hWD1];exact YD ho 2 _ (by simp)
 have E:=Mv.ext_of E gS (fun q e=>by have:=HB5.out;omega);have rt:=rt.mv gS Om;have hbs:=Xt hbs gS.size;rw [hWD1];clear hWD1;have hT:=hS.2.2.2.1;refine tW 4095 (.pointer (some ⟨g,3,none⟩)) hS.1 hT rfl (fun w' _=>Zh (m:=20) (c:=20) 3 Om Kr Kr w') fun hT=> ?_;refine Qr hS.2.2.2.2.1 (QE (m':=8191) rfl rfl Kr (Y5 (B:=g) (i:=3) (n:=dp % 256) (Zp ho 3 (by simp)).1 (Zp ho 3 (by simp)).2.1 Kr Kr) ⟨.inl Dc,(Mv.st _ (.inl rfl) (Mv.refl _ _))⟩ ?_);obtain⟨WD2,hWD2⟩: ∃WD2,World.setCell WD1 ⟨g,3,none⟩ (.int .u8 (dp % 256))=WD2:=⟨_,rfl⟩;have gS:Mv (fun q=>q=g) WD1 WD2:=by rw [←hWD2];exact Mv.st _ (.inl rfl) (Mv.refl _ _)
 have ho:OB WD2 lo (.slice (some ⟨g,0,none⟩) 20 20) (((((List.replicate 20 (0:Int)).set 0 (sp/256 % 256)).set 1 (sp % 256)).set 2 (dp/256 % 256)).set 3 (dp % 256)):=by rw [←hWD2];exact YD ho 3 _ (by simp)
 have E:=Mv.ext_of E gS (fun q e=>by have:=HB5.out;omega);have rt:=rt.mv gS Om;have hbs:=Xt hbs gS.size;rw [hWD2];clear hWD2;refine QZ hS.2.2.2.2.2 ?_;clear hS hT;go_simp
 go_upto_region 6 with(fail)
 refine wp_region_lit ?_;refine listV (v:= .slice (some ⟨g,0,none⟩) 20 20) (w':=WD2) rfl Kr ?_;refine listV (v:= .pointer (some ⟨b5,3,none⟩)) (w':=WD2) rfl Kr ?_;refine listV (v:= .int .i64 20) (w':=WD2) rfl ((Q0 (C:=fun _=>False) (rt.cell 3 (by show 3<5;omega)) rt.l (fun h=>h) Kr) _ (Mv.refl (fun _=>False) _)) ?_;refine listV (v:= .int .i64 5) (w':=WD2) rfl Kr ?_;refine listV (v:= .int .i64 80) (w':=WD2) rfl Kr ?_;refine listV (v:= .int .u8 80) (w':=WD2) rfl Kr ?_;refine listV (v:= .pointer (some ⟨g,12,none⟩)) (w':=WD2) rfl ((fun w' _=>Zh (m:=20) (c:=20) 12 Om Kr Kr w') _ (Mv.refl (fun _=>False) _)) ?_;refine Zj rfl (Y5 (B:=g) (i:=12) (n:=80) (Zp ho 12 (by simp)).1 (Zp ho 12 (by simp)).2.1 Kr Kr) ?_;obtain⟨WE1,hWE1⟩: ∃WE1,World.setCell WD2 ⟨g,12,none⟩ (.int .u8 (80))=WE1:=⟨_,rfl⟩;have gS:Mv (fun q=>q=g) WD2 WE1:=by rw [←hWE1];exact Mv.st _ (.inl rfl) (Mv.refl _ _)
 have ho:OB WE1 lo (.slice (some ⟨g,0,none⟩) 20 20) ((((((List.replicate 20 (0:Int)).set 0 (sp/256 % 256)).set 1 (sp % 256)).set 2 (dp/256 % 256)).set 3 (dp % 256)).set 12 80):=by rw [←hWE1];exact YD ho 12 _ (by simp)
 have E:=Mv.ext_of E gS (fun q e=>by have:=HB5.out;omega);have rt:=rt.mv gS Om;have hbs:=Xt hbs gS.size;rw [hWE1];clear hWE1;refine wpList_nil ?_;go_simp
 go_upto_region 7 with(fail)
 refine wp_region_lit ?_;refine listV (v:= .slice (some ⟨g,0,none⟩) 20 20) (w':=WE1) rfl Kr ?_;refine listV (v:= .pointer (some ⟨b5,2,none⟩)) (w':=WE1) rfl Kr ?_;refine listV (v:= .int .u8 fl) (w':=WE1) rfl ((Yv (C:=fun _=>False) (rt.cell 2 (by show 2<5;omega)) rt.l (fun h=>h) Kr) _ (Mv.refl (fun _=>False) _)) ?_;refine listV (v:= .pointer (some ⟨g,13,none⟩)) (w':=WE1) rfl ((fun w' _=>Zh (m:=20) (c:=20) 13 Om Kr Kr w') _ (Mv.refl (fun _=>False) _)) ?_;refine Zj rfl (Y5 (B:=g) (i:=13) (n:=fl) (Zp ho 13 (by simp)).1 (Zp ho 13 (by simp)).2.1 Kr Kr) ?_;obtain⟨WF1,hWF1⟩: ∃WF1,World.setCell WE1 ⟨g,13,none⟩ (.int .u8 (fl))=WF1:=⟨_,rfl⟩;have gS:Mv (fun q=>q=g) WE1 WF1:=by rw [←hWF1];exact Mv.st _ (.inl rfl) (Mv.refl _ _)
 have ho:OB WF1 lo (.slice (some ⟨g,0,none⟩) 20 20) (((((((List.replicate 20 (0:Int)).set 0 (sp/256 % 256)).set 1 (sp % 256)).set 2 (dp/256 % 256)).set 3 (dp % 256)).set 12 80).set 13 fl):=by rw [←hWF1];exact YD ho 13 _ (by simp)
 have E:=Mv.ext_of E gS (fun q e=>by have:=HB5.out;omega);have rt:=rt.mv gS Om;have hbs:=Xt hbs gS.size;rw [hWF1];clear hWF1;refine wpList_nil ?_;go_simp;have HE:=Xh E;have HRT:=Xh rt;have HBS:=Xh hbs;obtain⟨LT,eLT⟩: ∃L,QkC sp dp fl=L:=⟨_,rfl⟩;have HLT:=Xh (show LT.length=20 by rw [←eLT];exact QiW sp dp fl);obtain⟨PL,ePL⟩: ∃L,Z4 src dst 20++LT=L:=⟨_,rfl⟩;have HPR:=Xh (show ByR PL by rw [←ePL,←eLT];exact(QfW _ _ _).app HTR.out);have HPN:=Xh (show PL.length=32 by rw [←ePL,List.length_append,Jd,HLT.out]);have HPL:=Xh ePL;have HO:Hid (OB WF1 lo (.slice (some ⟨g,0,none⟩) 20 20) LT):=Xh (by rw [←eLT];exact ho);have HLE:=Xh eLT;have HCK:=Xh (fun W p c (hs:SlB W p PL)=>Qe5 PL p c W hs HPR.out (by have:=HPN.out;omega));have hK:=Qlz PL;obtain⟨K,eK⟩: ∃K,Z5 PL=K:=⟨_,rfl⟩;have HK:=Xh eK;rw [eK]at HCK hK;have c4:WF1.cell? ⟨b5,4,none⟩=some (.slice none 0 0):=rt.cell 4 (by show 4<5;omega);clear E rt hbs ho eLT ePL eK
 go_upto_region 10 with(first|(go_at_call 206;(with_reducible refine(HPS.out _).mono ?_);rintro e wp ⟨vp,rfl,op⟩;have HOP:=Xh op;clear op)|(at_builtin;refine listA (base:=WF1.heap.size) HOP.out.own (QaE.of_ob (HO.out.ext HOP.out.ext)) (by rw [Jd,HLT.out];omega) HOP.out.ext.size rfl rfl ?_;intro va wa ho hm;rw [HPL.out]at ho;have HG:=Xh (Mv.ext_of HOP.out.ext hm (fun k hk=>hk));obtain⟨pp,pc,rfl,-,hs⟩:=ho.slb;have HCC:=Xh (HCK.out _ _ pc hs);clear ho hm hs)|(go_at_call 199;(with_reducible refine(HCC.out).mono ?_);rintro e wc ⟨rfl,gc⟩;have HG:=Xh (HG.out.tr gc);clear gc))
 clear c4;have ho:=HO.out.ext HG.out;have rt:=HRT.out.ext HG.out;have E:=HE.out.tr HG.out;have hbs:=Xt HBS.out HG.out.size;refine wp_region_lit ?_;refine listV (v:= .slice (some ⟨g,0,none⟩) 20 20) (w':=wc) rfl Kr ?_;refine listV (v:= .slice (some ⟨g,0,none⟩) 20 20) (w':=wc) rfl Kr ?_;refine listV (v:= .int .u16 K) (w':=wc) rfl Kr ?_;refine listV (v:= .int .u16 (K/256)) (w':=wc) rfl ((fun w' _=>Qcd Kr Kr w') _ (Mv.refl (fun _=>False) _)) ?_;refine listV (v:= .int .u8 ((K/256) % 256)) (w':=wc) rfl ((fun w' _=>Jy Kr w') _ (Mv.refl (fun _=>False) _)) ?_;refine listV (v:= .int .u16 K) (w':=wc) rfl Kr ?_;refine listV (v:= .int .u8 (K % 256)) (w':=wc) rfl ((fun w' _=>Jy Kr w') _ (Mv.refl (fun _=>False) _)) ?_;refine listV (v:= .pointer (some ⟨g,16,none⟩)) (w':=wc) rfl ((fun w' _=>Zh (m:=20) (c:=20) 16 Om Kr Kr w') _ (Mv.refl (fun _=>False) _)) ?_;refine Zj rfl (Y5 (B:=g) (i:=16) (n:=K/256 % 256) (Zp ho 16 (by rw [HLT.out];omega)).1 (Zp ho 16 (by rw [HLT.out];omega)).2.1 Kr Kr) ?_;obtain⟨WH1,hWH1⟩: ∃WH1,World.setCell wc ⟨g,16,none⟩ (.int .u8 (K/256 % 256))=WH1:=⟨_,rfl⟩;have gS:Mv (fun q=>q=g) wc WH1:=by rw [←hWH1];exact Mv.st _ (.inl rfl) (Mv.refl _ _)
 have ho:OB WH1 lo (.slice (some ⟨g,0,none⟩) 20 20) (LT.set 16 (K/256 % 256)):=by rw [←hWH1];exact YD ho 16 _ HLT.out.symm
 have E:=Mv.ext_of E gS (fun q e=>by have:=HB5.out;omega);have rt:=rt.mv gS Om;have hbs:=Xt hbs gS.size;rw [hWH1];clear hWH1;refine listV (v:= .pointer (some ⟨g,17,none⟩)) (w':=WH1) rfl ((fun w' _=>Zh (m:=20) (c:=20) 17 Om Kr Kr w') _ (Mv.refl (fun _=>False) _)) ?_;refine Zj rfl (Y5 (B:=g) (i:=17) (n:=K % 256) (Zp ho 17 (by rw [List.length_set,HLT.out];omega)).1 (Zp ho 17 (by rw [List.length_set,HLT.out];omega)).2.1 Kr Kr) ?_;obtain⟨WH2,hWH2⟩: ∃WH2,World.setCell WH1 ⟨g,17,none⟩ (.int .u8 (K % 256))=WH2:=⟨_,rfl⟩;have gS:Mv (fun q=>q=g) WH1 WH2:=by rw [←hWH2];exact Mv.st _ (.inl rfl) (Mv.refl _ _)
 have ho:OB WH2 lo (.slice (some ⟨g,0,none⟩) 20 20) ((LT.set 16 (K/256 % 256)).set 17 (K % 256)):=by rw [←hWH2];exact YD ho 17 _ (by rw [List.length_set,HLT.out])
 have E:=Mv.ext_of E gS (fun q e=>by have:=HB5.out;omega);have rt:=rt.mv gS Om;have hbs:=Xt hbs gS.size;rw [hWH2];clear hWH2;refine wpList_nil ?_;go_simp;have HE:=Xh E;have HO:=Xh ho;clear E rt hbs ho;go_wp2;refine bodyPost_ret (v:= .tuple #[.slice (some ⟨g,0,none⟩) 20 20,.bool true]) (by simp [results,Tryz.results164,go_sem]) rfl ?_;refine⟨_,rfl,?_,HE.out⟩;unfold QkD;rw [HLE.out,HPL.out,HK.out,HB5.out];exact HO.out.le Om
theorem Qqw(src dst sp dp fl:Int):(QkD src dst sp dp fl).length=20:=by unfold QkD;rw [List.length_set,List.length_set,QiW]
theorem QvQ(a b:Int)(pl:List Int)(g q:Nat)(w1:World)(HL:pl.length=20)(H0:0≤a∧a<4294967296)(H1:0≤b∧b<4294967296)(s1:SlB w1 (some ⟨g,0,none⟩) pl):Calls Tryz.prog 155 #[.agg #[.int .u8 0,.int .u16 0,.int .u16 0,.int .u8 64,.int .u8 6,.int .u32 a,.int .u32 b,.slice none 0 0,.slice (some ⟨g,0,none⟩) pl.length q]] w1 fun e w'=> ∃v,e= .returned (.tuple #[v,.bool true])∧Z8 w1 w' v (QiT ⟨0,0,0,64,6,a,b,[],pl⟩):=by
 refine Qe7 ⟨0,0,0,64,6,a,b,[],pl⟩ none (some ⟨g,0,none⟩) 0 q w1 (by show hdR 0 0 pl.length=true;rw [HL];decide) (by show(0:Int)≤0∧(0:Int)<256;decide) (by show(0:Int)≤0∧(0:Int)<65536;decide) (by show(0:Int)≤0∧(0:Int)<65536;decide) (by show(0:Int)≤64∧(64:Int)<256;decide) (by show(0:Int)≤6∧(6:Int)<256;decide) H0 H1 (SlB.nil _ _) (fun _=>rfl) s1 (fun e=>by cases e) ByR.nil ?_ ?_
 ·show 0≤40;omega
 ·show pl.length≤2000;omega
theorem Qnw(a b c d fl:Int)(h0:0≤a∧a<4294967296)(h1:0≤b∧b<4294967296)(hf:0≤fl∧fl<256)(w:World):
  Calls Tryz.prog 91 #[.agg #[.int .u32 a,.int .u32 b,.int .u16 c,.int .u16 d],.int .u8 fl,.slice none 0 0] w fun e w'=> ∃v,e= .returned (.tuple #[v,.bool true])∧Z8 w w' v (QiT ⟨0,0,0,64,6,a,b,[],QkD a b c d fl⟩):=by
 have HPU:=Xh (Qnv a b c d fl h0 h1 hf);have hb1: ∀W,(Instr.build 142 #[(0,.int .u16 c),(1,.int .u16 d),(2,.int .u8 fl),(3,.int .i64 20),(4,.slice none 0 0)]).run Tryz.prog W= .ok (.agg #[.int .u16 c,.int .u16 d,.int .u8 fl,.int .i64 20,.slice none 0 0]) W:=fun W=>by kernel_rfl
 have hb2: ∀W (g n q:Nat),(Instr.build 132 #[(3,.int .u8 64),(4,.int .u8 6),(5,.int .u32 a),(6,.int .u32 b),(8,.slice (some ⟨g,0,none⟩) n q)]).run Tryz.prog W= .ok (.agg #[.int .u8 0,.int .u16 0,.int .u16 0,.int .u8 64,.int .u8 6,.int .u32 a,.int .u32 b,.slice none 0 0,.slice (some ⟨g,0,none⟩) n q]) W:=fun W g n q=>by kernel_rfl
 obtain⟨pl,epl⟩: ∃pl,QkD a b c d fl=pl:=⟨_,rfl⟩;have HL:=Xh (show pl.length=20 by rw [←epl];exact Qqw _ _ _ _ _);rw [epl]at HPU⊢;have H0:=Xh h0;have H1:=Xh h1;clear epl h0 h1 hf
 go_enter Tryz.func91,Tryz.ntmps91
 go_wp2_with (first|(go_at_call 164;(with_reducible refine(HPU.out _).mono ?_);rintro e w1 ⟨v1,rfl,o1⟩;obtain⟨g,q,rfl,-,-,-,-,-⟩:=o1.own.at (by have:=HL.out;omega);have s1:SlB w1 (some ⟨g,0,none⟩) pl:=(by obtain⟨p,c,e,-,s⟩:=o1.sl;cases e;exact s);have d0:=(o1.ext.cell (p:=⟨w.heap.size,0,none⟩) (by simp [go_sem,Lt])).trans (show _=some (Value.int .u32 a)by simp [go_sem]);have d1:=(o1.ext.cell (p:=⟨w.heap.size,1,none⟩) (by simp [go_sem,Lt])).trans (show _=some (Value.int .u32 b)by simp [go_sem]);have HE:=Xh (Ea.tr o1.ext);have HP2:=Xh (QvQ a b pl g q w1 HL.out H0.out H1.out s1);clear s1 o1)|(go_at_call 155;(with_reducible refine(HP2.out).mono ?_);rintro e w2 ⟨v2,rfl,o2⟩;have HO:=Xh o2;clear o2))
 refine bodyPost_ret (v:= .tuple #[v2,.bool true]) (by simp [results,Tryz.results91,go_sem]) rfl ?_;exact⟨v2,rfl,HO.out.own.le (by have:=HE.out.size;omega),HE.out.tr HO.out.ext⟩
theorem Zz(o:Opt):ZO o=true↔(1≤o.ki∧o.ki≤5)∧(0≤o.bu∧o.bu≤15)∧((-1)≤o.cu∧o.cu≤5)∧((-1)≤o.pv∧o.pv≤5)∧(0≤o.ge∧o.ge≤2147483647)∧(0≤o.ti∧o.ti≤1099511627776):=by
 unfold ZO J4 QeG;simp only [List.all_cons,List.all_nil,Bool.and_eq_true,decide_eq_true_eq,Bool.and_true];omega
theorem QdQ(o:Opt)(hbu:0≤o.bu)(w:World):Cr 165 #[.agg (opv o)] w (.bool (ZO o)):=by
 unfold opv
 go_enter Tryz.func165,Tryz.ntmps165
 cases e0:decide (1≤o.ki)
 ·have HR:=Xh (show ZO o=false from Bool.eq_false_iff.2 fun h=>of_decide_eq_false e0 (by have:=(Zz o).1 h;omega));clear hbu;go_wp2;go_ret;exact⟨Qm HR.out.symm,Ext.al (Ext.rf _) _⟩
 cases e1:decide (o.ki<6)
 ·have HR:=Xh (show ZO o=false from Bool.eq_false_iff.2 fun h=>of_decide_eq_false e1 (by have:=(Zz o).1 h;omega));clear hbu;go_wp2;go_ret;exact⟨Qm HR.out.symm,Ext.al (Ext.rf _) _⟩
 cases e2:decide (o.bu<16)
 ·have HR:=Xh (show ZO o=false from Bool.eq_false_iff.2 fun h=>of_decide_eq_false e2 (by have:=(Zz o).1 h;omega));clear hbu;go_wp2;go_ret;exact⟨Qm HR.out.symm,Ext.al (Ext.rf _) _⟩
 cases e3:decide ((-1)≤o.cu)
 ·have HR:=Xh (show ZO o=false from Bool.eq_false_iff.2 fun h=>of_decide_eq_false e3 (by have:=(Zz o).1 h;omega));clear hbu;go_wp2;go_ret;exact⟨Qm HR.out.symm,Ext.al (Ext.rf _) _⟩
 cases e4:decide (o.cu<6)
 ·have HR:=Xh (show ZO o=false from Bool.eq_false_iff.2 fun h=>of_decide_eq_false e4 (by have:=(Zz o).1 h;omega));clear hbu;go_wp2;go_ret;exact⟨Qm HR.out.symm,Ext.al (Ext.rf _) _⟩
 cases e5:decide ((-1)≤o.pv)
 ·have HR:=Xh (show ZO o=false from Bool.eq_false_iff.2 fun h=>of_decide_eq_false e5 (by have:=(Zz o).1 h;omega));clear hbu;go_wp2;go_ret;exact⟨Qm HR.out.symm,Ext.al (Ext.rf _) _⟩
 cases e6:decide (o.pv<6)
 ·have HR:=Xh (show ZO o=false from Bool.eq_false_iff.2 fun h=>of_decide_eq_false e6 (by have:=(Zz o).1 h;omega));clear hbu;go_wp2;go_ret;exact⟨Qm HR.out.symm,Ext.al (Ext.rf _) _⟩
 cases e7:decide (0≤o.ge)
 ·have HR:=Xh (show ZO o=false from Bool.eq_false_iff.2 fun h=>of_decide_eq_false e7 (by have:=(Zz o).1 h;omega));clear hbu;go_wp2;go_ret;exact⟨Qm HR.out.symm,Ext.al (Ext.rf _) _⟩
 cases e8:decide (o.ge<2147483648)
 ·have HR:=Xh (show ZO o=false from Bool.eq_false_iff.2 fun h=>of_decide_eq_false e8 (by have:=(Zz o).1 h;omega));clear hbu;go_wp2;go_ret;exact⟨Qm HR.out.symm,Ext.al (Ext.rf _) _⟩
 cases e9:decide (0≤o.ti)
 ·have HR:=Xh (show ZO o=false from Bool.eq_false_iff.2 fun h=>of_decide_eq_false e9 (by have:=(Zz o).1 h;omega));clear hbu;go_wp2;go_ret;exact⟨Qm HR.out.symm,Ext.al (Ext.rf _) _⟩
 cases e10:decide (o.ti≤1099511627776)
 ·have HR:=Xh (show ZO o=false from Bool.eq_false_iff.2 fun h=>of_decide_eq_false e10 (by have:=(Zz o).1 h;omega));clear hbu;go_wp2;go_ret;exact⟨Qm HR.out.symm,Ext.al (Ext.rf _) _⟩
 have HR:=Xh (show ZO o=true from(Zz o).2 (by
  have f0:=of_decide_eq_true e0;have f1:=of_decide_eq_true e1;have f2:=of_decide_eq_true e2;have f3:=of_decide_eq_true e3;have f4:=of_decide_eq_true e4;have f5:=of_decide_eq_true e5;have f6:=of_decide_eq_true e6;have f7:=of_decide_eq_true e7;have f8:=of_decide_eq_true e8;have f9:=of_decide_eq_true e9;have f10:=of_decide_eq_true e10
  omega))
 clear hbu;go_wp2;go_ret;exact⟨Qm HR.out.symm,Ext.al (Ext.rf _) _⟩
theorem Qby(x:Int)(h0:0≤x)(h1:x<281474976710656):bits .and .i64 x 255=x % 256:=by
 have h:=bits_mask .i64 48 Dc (fun n h0 h1=>by rw [IntKind.wrap_i64];omega) 8 Dc x h0 Om;have e:((2:Int)^8- 1)=255:=by decide
 have e2:((2:Int)^8)=256:=by decide
 rw [e,e2]at h;exact h
theorem Y6(x:Int)(h0:0≤x)(h1:x<281474976710656)(k:Int)(hk:1≤k):0≤x/k∧x/k<281474976710656:=by
 refine⟨Int.ediv_nonneg h0 Om,?_⟩;exact Int.lt_of_le_of_lt (Int.ediv_le_self _ h0) h1
theorem QiX(n:Int)(m:Nat)(hm:m≤6)(h0:0≤n)(h1:n<281474976710656)(w:World):
  Calls Tryz.prog 200 #[.int .i64 n,.int .i64 m] w fun e w'=> ∃v,e= .returned v∧w'.ownsRow w.heap.size 5 1 v m ((byN n m).map (Value.int .u8))∧Ext w w':=by
 obtain⟨i0,hi,hz0,hz1,hz2⟩:=info_parts YB;have hwm:IntKind.i64.wrap ((m:Int)- 1)=(m:Int)- 1:=by rw [IntKind.wrap_i64];omega
 go_enter Tryz.func200,Tryz.ntmps200
 go_wp2
 go_loopw [5,6] (fun v a wr=> ∃q:Nat,q≤m∧a= .int .i64 ((q:Int)- 1)∧wr.ownsRow w.heap.size 5 1 v (m- q) (((byN n m).take (m- q)).map (Value.int .u8))∧Ext w wr) (fun _ a _=>(intOf a+1).toNat)
 case atStart=>exact⟨m,Nat.le_refl _,rfl,by rw [Nat.sub_self];exact World.ownsRow_nil _ _ _ _,Ext.rf _⟩
 case round=>
  obtain⟨q,hq,rfl,ho,hE⟩:=hrel
  by_cases hz:q=0
  ·subst hz;have HO:=Xh ho;clear ho;go_wp2;refine bodyPost_ret (v:=u5) (by simp [results,Tryz.results200,go_sem]) rfl ⟨_,rfl,?_,hE⟩;have:=HO.out
   rwa [Nat.sub_zero,List.take_of_length_le (by rw [ZA];omega)]at this
  ·obtain⟨j,rfl⟩: ∃j,q=j+1:=⟨q- 1,Om⟩;have hb0:decide ((0:Int)≤((j+1:Nat):Int)- 1)=true:=decide_eq_true Om;have HT:=Xh (Qcm n m j Om);have HO:=Xh ho;clear ho;rw [show(((j+1:Nat):Int)- 1)=j by omega]at hb0⊢;have hj:j<6:=by omega
   obtain rfl|rfl|rfl|rfl|rfl|rfl:j=0∨j=1∨j=2∨j=3∨j=4∨j=5:=by omega
   ·have HV:=Xh (show bits .and .i64 n 255 % 256=n/256^0 % 256 by
     rw [Qby _ h0 h1,show(256:Int)^0=1 by decide];omega)
    go_wp2_with (at_builtin;go_must (refine wpList_append_own _ rfl _ _ 28 rfl w.heap.size 5 i0 (.int .u8 0) 1 1 Tryz.underlying28 hi hz0 hz1 hz2 rfl Dc _ _ _ rfl (HO.out.alloc _) ⟨wr.heap.size,0,none⟩ 1 1 [.int .u8 (bits .and .i64 n 255 % 256)] rfl rfl (Q1 _ _ _) (by intro u hu;simp at hu;subst hu;rfl) (by unfold maxLen;omega) Om (by have:=hE.size;simp;omega) ?_);intro v' w3 hown hgrow _;have HN:=Xh hown;have HG:=Xh hgrow;clear hown hgrow)
    go_roundw
    case rel=>
     refine⟨0,Om,by go_num,?_,Mv.ext_of (Ext.al hE _) (Mv.of_grown (C:=fun k=>w.heap.size≤k) HG.out fun r e=> .inl (Qi HO.out r e)) (fun k h=>h)⟩;have h:=HN.out;rw [HV.out,show m- (0+1)+1=m- 0 by omega]at h;rw [←HT.out,List.map_append];exact h
    case measure=>first|(simp [intOf];done)|(simp [intOf];omega)
   ·have HV:=Xh (show bits .and .i64 (n/256) 255 % 256=n/256^1 % 256 by
     rw [Qby _ (Y6 n h0 h1 256 Om).1 (Y6 n h0 h1 256 Om).2,show(256:Int)^1=256 by decide];omega)
    go_wp2_with (at_builtin;go_must (refine wpList_append_own _ rfl _ _ 28 rfl w.heap.size 5 i0 (.int .u8 0) 1 1 Tryz.underlying28 hi hz0 hz1 hz2 rfl Dc _ _ _ rfl (HO.out.alloc _) ⟨wr.heap.size,0,none⟩ 1 1 [.int .u8 (bits .and .i64 (n/256) 255 % 256)] rfl rfl (Q1 _ _ _) (by intro u hu;simp at hu;subst hu;rfl) (by unfold maxLen;omega) Om (by have:=hE.size;simp;omega) ?_);intro v' w3 hown hgrow _;have HN:=Xh hown;have HG:=Xh hgrow;clear hown hgrow)
    go_roundw
    case rel=>
     refine⟨1,Om,by go_num,?_,Mv.ext_of (Ext.al hE _) (Mv.of_grown (C:=fun k=>w.heap.size≤k) HG.out fun r e=> .inl (Qi HO.out r e)) (fun k h=>h)⟩;have h:=HN.out;rw [HV.out,show m- (1+1)+1=m- 1 by omega]at h;rw [←HT.out,List.map_append];exact h
    case measure=>first|(simp [intOf];done)|(simp [intOf];omega)
   ·have HV:=Xh (show bits .and .i64 (n/65536) 255 % 256=n/256^2 % 256 by
     rw [Qby _ (Y6 n h0 h1 65536 Om).1 (Y6 n h0 h1 65536 Om).2,show(256:Int)^2=65536 by decide];omega)
    go_wp2_with (at_builtin;go_must (refine wpList_append_own _ rfl _ _ 28 rfl w.heap.size 5 i0 (.int .u8 0) 1 1 Tryz.underlying28 hi hz0 hz1 hz2 rfl Dc _ _ _ rfl (HO.out.alloc _) ⟨wr.heap.size,0,none⟩ 1 1 [.int .u8 (bits .and .i64 (n/65536) 255 % 256)] rfl rfl (Q1 _ _ _) (by intro u hu;simp at hu;subst hu;rfl) (by unfold maxLen;omega) Om (by have:=hE.size;simp;omega) ?_);intro v' w3 hown hgrow _;have HN:=Xh hown;have HG:=Xh hgrow;clear hown hgrow)
    go_roundw
    case rel=>
     refine⟨2,Om,by go_num,?_,Mv.ext_of (Ext.al hE _) (Mv.of_grown (C:=fun k=>w.heap.size≤k) HG.out fun r e=> .inl (Qi HO.out r e)) (fun k h=>h)⟩;have h:=HN.out;rw [HV.out,show m- (2+1)+1=m- 2 by omega]at h;rw [←HT.out,List.map_append];exact h
    case measure=>first|(simp [intOf];done)|(simp [intOf];omega)
   ·have HV:=Xh (show bits .and .i64 (n/16777216) 255 % 256=n/256^3 % 256 by
     rw [Qby _ (Y6 n h0 h1 16777216 Om).1 (Y6 n h0 h1 16777216 Om).2,show(256:Int)^3=16777216 by decide];omega)
    go_wp2_with (at_builtin;go_must (refine wpList_append_own _ rfl _ _ 28 rfl w.heap.size 5 i0 (.int .u8 0) 1 1 Tryz.underlying28 hi hz0 hz1 hz2 rfl Dc _ _ _ rfl (HO.out.alloc _) ⟨wr.heap.size,0,none⟩ 1 1 [.int .u8 (bits .and .i64 (n/16777216) 255 % 256)] rfl rfl (Q1 _ _ _) (by intro u hu;simp at hu;subst hu;rfl) (by unfold maxLen;omega) Om (by have:=hE.size;simp;omega) ?_);intro v' w3 hown hgrow _;have HN:=Xh hown;have HG:=Xh hgrow;clear hown hgrow)
    go_roundw
    case rel=>
     refine⟨3,Om,by go_num,?_,Mv.ext_of (Ext.al hE _) (Mv.of_grown (C:=fun k=>w.heap.size≤k) HG.out fun r e=> .inl (Qi HO.out r e)) (fun k h=>h)⟩;have h:=HN.out;rw [HV.out,show m- (3+1)+1=m- 3 by omega]at h;rw [←HT.out,List.map_append];exact h
    case measure=>first|(simp [intOf];done)|(simp [intOf];omega)
   ·have HV:=Xh (show bits .and .i64 (n/4294967296) 255 % 256=n/256^4 % 256 by
     rw [Qby _ (Y6 n h0 h1 4294967296 Om).1 (Y6 n h0 h1 4294967296 Om).2,show(256:Int)^4=4294967296 by decide];omega)
    go_wp2_with (at_builtin;go_must (refine wpList_append_own _ rfl _ _ 28 rfl w.heap.size 5 i0 (.int .u8 0) 1 1 Tryz.underlying28 hi hz0 hz1 hz2 rfl Dc _ _ _ rfl (HO.out.alloc _) ⟨wr.heap.size,0,none⟩ 1 1 [.int .u8 (bits .and .i64 (n/4294967296) 255 % 256)] rfl rfl (Q1 _ _ _) (by intro u hu;simp at hu;subst hu;rfl) (by unfold maxLen;omega) Om (by have:=hE.size;simp;omega) ?_);intro v' w3 hown hgrow _;have HN:=Xh hown;have HG:=Xh hgrow;clear hown hgrow)
    go_roundw
    case rel=>
     refine⟨4,Om,by go_num,?_,Mv.ext_of (Ext.al hE _) (Mv.of_grown (C:=fun k=>w.heap.size≤k) HG.out fun r e=> .inl (Qi HO.out r e)) (fun k h=>h)⟩;have h:=HN.out;rw [HV.out,show m- (4+1)+1=m- 4 by omega]at h;rw [←HT.out,List.map_append];exact h
    case measure=>first|(simp [intOf];done)|(simp [intOf];omega)
   ·have HV:=Xh (show bits .and .i64 (n/1099511627776) 255 % 256=n/256^5 % 256 by
     rw [Qby _ (Y6 n h0 h1 1099511627776 Om).1 (Y6 n h0 h1 1099511627776 Om).2,show(256:Int)^5=1099511627776 by decide];omega)
    go_wp2_with (at_builtin;go_must (refine wpList_append_own _ rfl _ _ 28 rfl w.heap.size 5 i0 (.int .u8 0) 1 1 Tryz.underlying28 hi hz0 hz1 hz2 rfl Dc _ _ _ rfl (HO.out.alloc _) ⟨wr.heap.size,0,none⟩ 1 1 [.int .u8 (bits .and .i64 (n/1099511627776) 255 % 256)] rfl rfl (Q1 _ _ _) (by intro u hu;simp at hu;subst hu;rfl) (by unfold maxLen;omega) Om (by have:=hE.size;simp;omega) ?_);intro v' w3 hown hgrow _;have HN:=Xh hown;have HG:=Xh hgrow;clear hown hgrow)
    go_roundw
    case rel=>
     refine⟨5,Om,by go_num,?_,Mv.ext_of (Ext.al hE _) (Mv.of_grown (C:=fun k=>w.heap.size≤k) HG.out fun r e=> .inl (Qi HO.out r e)) (fun k h=>h)⟩;have h:=HN.out;rw [HV.out,show m- (5+1)+1=m- 5 by omega]at h;rw [←HT.out,List.map_append];exact h
    case measure=>first|(simp [intOf];done)|(simp [intOf];omega)
theorem Qhm{o:Opt}(h:ZO o=true):Ym o= [158,16,o.ki,o.bu,o.cu % 256,o.pv % 256]++byN o.ge 4++byN o.ti 6:=by
 have h:=(Zz o).1 h;have e: ∀n:Int,byN n 1= [n % 256]:=fun n=>by show [n/256^0 % 256]=_;rw [show(256:Int)^0=1 by decide,Int.ediv_one]
 show byN 158 1++(byN 16 1++(byN o.ki 1++(byN o.bu 1++(byN o.cu 1++(byN o.pv 1++(byN o.ge 4++(byN o.ti 6++ [])))))))=_;rw [e,e,e,e,e,e,show o.ki % 256=o.ki by omega,show o.bu % 256=o.bu by omega];simp
theorem QiY(lo:Nat)(n:Int)(m:Nat)(hm:m≤6)(h:0≤n∧n<281474976710656)(w:World)(hlo:lo≤w.heap.size):Calls Tryz.prog 200 #[.int .i64 n,.int .i64 m] w fun e w'=> ∃v,e= .returned v∧OB w' lo v (byN n m)∧Ext w w':=
 (QiX n m hm h.1 h.2 w).mono fun e w' ⟨v,h1,h2,h3⟩=>⟨v,h1,OB.le (by unfold OB;rw [ZA];exact h2) hlo,h3⟩
theorem Qmd{x:Int}(h:(-1)≤x∧x≤5):bits .and .i64 x 255=x % 256:=by
 obtain rfl|rfl|rfl|rfl|rfl|rfl|rfl:x= -1∨x=0∨x=1∨x=2∨x=3∨x=4∨x=5:=by omega
 all_goals decide
def Qqx(ops:Array Oper):Prop:=Region.noSelect ops=true∧Qo ops 11 [0,1,2,5,6] 0=true∧Rd ops 11 103 [3]∧Rd ops 11 111 [4]∧Rd ops 11 127 [7]∧Rd ops 11 255 [8]∧Qo ops 11 [9,10] 511=true∧Rd ops 11 2047 []
theorem QkG:Qqx ((Tryz.f151.body.bind (Qh 4)).getD #[]):=⟨Kr,Kr,Rk,Rk,Rk,Rk,Kr,Rk⟩
theorem Qnx(o:Opt)(h:ZO o=true)(w:World):Calls Tryz.prog 151 #[.agg (opv o)] w fun e w'=> ∃v,e= .returned (.tuple #[v,.int .i64 0])∧Z8 w w' v (Ym o):=by
 have hr:=(Zz o).1 h;have HR:=Xh (QdQ o Om);have HGE:=Xh (show 0≤o.ge∧o.ge<281474976710656 by omega);have HTI:=Xh (show 0≤o.ti∧o.ti<281474976710656 by omega);have HOB:=Xh (Qhm h);have h1:=Qmd hr.2.2.1;have h2:=Qmd hr.2.2.2.1;have h3:IntKind.u8.wrap (o.cu % 256)=o.cu % 256:=by rw [Ye];omega
 have h4:IntKind.u8.wrap (o.pv % 256)=o.pv % 256:=by rw [Ye];omega
 rw [h]at HR;clear h hr;unfold opv at HR⊢
 go_enter Tryz.func151,Tryz.ntmps151
 go_upto_region 1 with(fail)
 obtain⟨W0,hW⟩: ∃W0,w.alloc (.cells #[.int .u8 o.ki,.int .u8 o.bu,.int .i64 o.cu,.int .i64 o.pv,.int .i64 o.ge,.int .i64 o.ti] 75)=W0:=⟨_,rfl⟩;have g0:Ext w W0:=by rw [←hW];exact Ea
 have rz:RowZ W0 w.heap.size #[.int .u8 o.ki,.int .u8 o.bu,.int .i64 o.cu,.int .i64 o.pv,.int .i64 o.ge,.int .i64 o.ti]:=by rw [←hW];exact RowZ.new _ _ _
 rw [hW];clear hW;obtain⟨b1,e1⟩: ∃b,w.heap.size=b:=⟨_,rfl⟩;rw [e1]at rz⊢;have HB1:=Xh e1;have hR:=rz.r;have HRH:=Xh rz;have HE:=Xh g0;clear rz e1 g0
 go_upto_region 3 with(go_at_call 165;(refine(HR.out _).mono ?_);rintro e w2 ⟨rfl,g2⟩;have HRH:=Xh (HRH.out.ext g2);have HE:=Xh (HE.out.tr g2))
 clear hR;have hR:=HRH.out.r;have c0:w2.cell? ⟨b1,0,none⟩=some (.int .u8 o.ki):=HRH.out.cell 0 (by show 0<6;omega);have c1:w2.cell? ⟨b1,1,none⟩=some (.int .u8 o.bu):=HRH.out.cell 1 (by show 1<6;omega);have c2:w2.cell? ⟨b1,2,none⟩=some (.int .i64 o.cu):=HRH.out.cell 2 (by show 2<6;omega);have c3:w2.cell? ⟨b1,3,none⟩=some (.int .i64 o.pv):=HRH.out.cell 3 (by show 3<6;omega);clear hR
 go_upto_region 4 with(fail)
 clear c0 c1 c2 c3;obtain⟨lo,hlo⟩: ∃lo,b1+1=lo:=⟨_,rfl⟩;have hb2:lo≤w2.heap.size:=by have:=HRH.out.l;unfold Lt at this;omega
 obtain⟨W3,hW⟩: ∃W3,w2.alloc (.cells #[.int .u8 158,.int .u8 16,.int .u8 o.ki,.int .u8 o.bu,.int .u8 (o.cu % 256),.int .u8 (o.pv % 256)] 5)=W3:=⟨_,rfl⟩;have g3:Ext w2 W3:=by rw [←hW];exact Ea
 have ho:OB W3 lo (.slice (some ⟨w2.heap.size,0,none⟩) 6 6) [158,16,o.ki,o.bu,o.cu % 256,o.pv % 256]:=by rw [←hW];exact OB.lit w2 lo [158,16,o.ki,o.bu,o.cu % 256,o.pv % 256] 6 rfl hb2 (by simp)
 rw [hW];clear hW;have rh:=HRH.out.ext g3;have E:=HE.out.tr g3;have hbs:=Xt hb2 g3.size;obtain⟨va,eva⟩: ∃v,Value.slice (some ⟨w2.heap.size,0,none⟩) 6 6=v:=⟨_,rfl⟩;rw [eva]at ho⊢;clear g3 hb2 eva;refine Qy (fun k=>lo≤k) (fun k=>lo≤k) 11 Kr ?_;obtain⟨WA,hW⟩: ∃Wdr,World.drew W3=Wdr:=⟨_,rfl⟩;have gD:Ext W3 WA:=by rw [←hW];exact Ext.dr (Ext.rf _)
 rw [hW];clear hW;have E:=E.tr gD;have rh:=rh.ext gD;have ho:=ho.ext gD;have hbs:=Xt hbs gD.size;refine Zi (N:=11) (R:=Qqx) (E:=((Tryz.f151.body.bind (Qh 4)).getD #[])) Kr QkG Kr fun hS=> ?_;have hT:=hS.2.1;refine tWk 1 va hS.1 hT rfl fun hT=>tWk 3 (.pointer (some ⟨b1,4,none⟩)) hS.1 hT rfl fun hT=>tW 7 (.int .i64 o.ge) hS.1 hT rfl (Q0 (rh.cell 4 (by show 4<6;omega)) rh.l Om Kr) fun hT=>tWk 39 (.pointer (some ⟨b1,5,none⟩)) hS.1 hT rfl fun hT=>tW 103 (.int .i64 o.ti) hS.1 hT rfl (Q0 (rh.cell 5 (by show 5<6;omega)) rh.l Om Kr) fun hT=> ?_;refine sV 111 (fun v w'=>OB w' lo v (byN o.ge 4)) hS.2.2.1 rfl (QiY lo o.ge 4 Om HGE.out WA hbs) ?_;rintro vq WB1 gWB1 oq;have E:=E.tr gWB1;have rh:=rh.ext gWB1;have ho:=ho.ext gWB1;have hbs:=Xt hbs gWB1.size;refine Qr hS.2.2.2.1 (Qma (m':=127) (base:=lo) (b1:= [158,16,o.ki,o.bu,o.cu % 256,o.pv % 256]) rfl rfl Kr Kr ho (QaE.of_ob oq) (by simp [ZA]<;>omega) hbs (fun k hk=>hk) ?_);intro v5 WB2 ho hmv;have rh:=rh.mv (C:=fun k=>lo≤k) hmv Om;have E:=Mv.ext_of (C:=fun k=>lo≤k) E hmv (fun k hk=>by have:=HB1.out;omega);have hbs:=Xt hbs hmv.size;have gWB2:=Ext.rf WB2;have E:=E.tr gWB2;have rh:=rh.ext gWB2;have ho:=ho.ext gWB2;refine sV 255 (fun v w'=>OB w' lo v (byN o.ti 6)) hS.2.2.2.2.1 rfl (QiY lo o.ti 6 Om HTI.out WB2 hbs) ?_;rintro vq WB3 gWB3 oq;have E:=E.tr gWB3;have rh:=rh.ext gWB3;have ho:=ho.ext gWB3;have hbs:=Xt hbs gWB3.size;refine Qr hS.2.2.2.2.2.1 (Qma (m':=511) (base:=lo) (b1:=([158,16,o.ki,o.bu,o.cu % 256,o.pv % 256]++byN o.ge 4)) rfl rfl Kr Kr ho (QaE.of_ob oq) (by simp [ZA]<;>omega) hbs (fun k hk=>hk) ?_);intro v9 WB4 ho hmv;have rh:=rh.mv (C:=fun k=>lo≤k) hmv Om;have E:=Mv.ext_of (C:=fun k=>lo≤k) E hmv (fun k hk=>by have:=HB1.out;omega);have hbs:=Xt hbs hmv.size;have gWB4:=Ext.rf WB4;have E:=E.tr gWB4;have rh:=rh.ext gWB4;have ho:=ho.ext gWB4;have hT:=hS.2.2.2.2.2.2.1;refine tWk 1023 v9 hS.1 hT rfl fun hT=>tWk 2047 (.int .i64 0) hS.1 hT rfl fun hT=> ?_;refine QZ hS.2.2.2.2.2.2.2 ?_;clear hS hT;go_simp;have HE:=Xh E;have HO:=Xh ho;clear E rh hbs ho;go_wp2;refine bodyPost_ret (v:= .tuple #[v9,.int .i64 0]) (by simp [results,Tryz.results151,go_sem]) rfl ?_;refine⟨_,rfl,?_,HE.out⟩;rw [HB1.out,HOB.out];exact HO.out.le Om
section
open Ru
theorem QsV:(Tryz.prog.info? 73).map (fun i=>(i.zero,i.size,i.bytes))=some (some (.agg #[.int .u8 0,.int .i64 0]),2,16):=Kr
def ndN(ps:List (Int×Int)):List Value:=ps.flatMap fun p=> [.int .u8 p.1,.int .i64 p.2]
theorem JZ(w:World)(a b:Value)(t:TypeId): ∀j u,[a,b][j]?=some u→(w.alloc (.cells #[a,b] t)).cell? ((⟨w.heap.size,0,none⟩:Addr).add j)=some u:=by
 intro j u h
 match j,h with
 |0,h=>cases h;simp [go_sem,Addr.add]
 |1,h=>cases h;simp [go_sem,Addr.add]
theorem QAn{q:Nat}(h:q<3):ndN (Qx.take q)++ [.int .u8 1,.int .i64 q]=ndN (Qx.take (q+1)):=by
 obtain rfl|rfl|rfl:q=0∨q=1∨q=2:=by omega
 all_goals rfl
theorem QAo{q:Nat}(h:q<6):ndN (Qx.take (3+q))++ [.int .u8 2,.int .i64 q]=ndN (Qx.take (3+(q+1))):=by
 obtain rfl|rfl|rfl|rfl|rfl|rfl:q=0∨q=1∨q=2∨q=3∨q=4∨q=5:=by omega
 all_goals rfl
theorem QkH(w:World):Calls Tryz.prog 152 #[] w fun e w'=> ∃v,e= .returned v∧w'.ownsRow w.heap.size 73 2 v 10 (ndN Qx)∧Ext w w':=by
 obtain⟨i0,hi,hz0,hz1,hz2⟩:=info_parts QsV
 go_enter Tryz.func152,Tryz.ntmps152
 go_wp2
 go_loopw [1,2] (fun v a wr=> ∃q:Nat,q≤3∧a= .int .i64 q∧wr.ownsRow w.heap.size 73 2 v q (ndN (Qx.take q))∧Ext w wr) (fun _ a _=>3- (intOf a).toNat)
 case atStart=>exact⟨0,Nat.zero_le _,rfl,World.ownsRow_nil _ _ _ _,Ext.rf _⟩
 case round=>
  obtain⟨q,hq,rfl,ho,hE⟩:=hrel;have HO:=Xh ho;have HE:=Xh hE;clear ho hE
  by_cases hlt:q<3
  ·have hlt':(q:Int)<3:=by omega
   have HT:=Xh (QAn hlt)
   go_wp2_with (at_builtin;go_must (refine wpList_append_own _ rfl _ _ 191 rfl w.heap.size 73 i0 (.agg #[.int .u8 0,.int .i64 0]) 2 16 Tryz.underlying191 hi hz0 hz1 hz2 rfl Dc _ _ _ rfl (HO.out.alloc _) ⟨wr.heap.size,0,none⟩ 1 1 [.int .u8 1,.int .i64 (q:Int)] rfl rfl (JZ _ _ _ _) (by intro u hu;simp at hu;rcases hu with rfl|rfl<;>rfl) (by unfold maxLen;omega) Om (by have:=HE.out.size;simp;omega) ?_);intro v' w3 hown hgrow _;have HN:=Xh hown;have HG:=Xh hgrow;clear hown hgrow)
   go_roundw
   case rel=>
    refine⟨q+1,Om,by go_num,?_,Mv.ext_of (Ext.al HE.out _) (Mv.of_grown (C:=fun k=>w.heap.size≤k) HG.out fun r e=> .inl (Qi HO.out r e)) (fun k h=>h)⟩;have h:=HN.out;rw [HT.out]at h;exact h
   case measure=>simp [intOf];omega
  ·obtain rfl:q=3:=by omega
   have HO3:=Xh HO.out;have HE3:=Xh HE.out;generalize wr=w2 at*;clear HO HE hlt hq;rw [show((3:Nat):Int)=3 from rfl];go_wp2
   go_loopw [1,3] (fun v a wr=> ∃q:Nat,q≤6∧a= .int .i64 q∧wr.ownsRow w.heap.size 73 2 v (3+q) (ndN (Qx.take (3+q)))∧Ext w wr) (fun _ a _=>6- (intOf a).toNat)
   case atStart=>exact⟨0,Nat.zero_le _,rfl,HO3.out,HE3.out⟩
   case round=>
    obtain⟨q,hq,rfl,ho,hE⟩:=hrel;have HO:=Xh ho;have HE:=Xh hE;clear ho hE
    by_cases hlt:q<6
    ·have hlt':(q:Int)<6:=by omega
     have HT:=Xh (QAo hlt)
     go_wp2_with (at_builtin;go_must (refine wpList_append_own _ rfl _ _ 191 rfl w.heap.size 73 i0 (.agg #[.int .u8 0,.int .i64 0]) 2 16 Tryz.underlying191 hi hz0 hz1 hz2 rfl Dc _ _ _ rfl (HO.out.alloc _) ⟨wr.heap.size,0,none⟩ 1 1 [.int .u8 2,.int .i64 (q:Int)] rfl rfl (JZ _ _ _ _) (by intro u hu;simp at hu;rcases hu with rfl|rfl<;>rfl) (by unfold maxLen;omega) Om (by have:=HE.out.size;simp;omega) ?_);intro v' w3 hown hgrow _;have HN:=Xh hown;have HG:=Xh hgrow;clear hown hgrow)
     go_roundw
     case rel=>
      refine⟨q+1,Om,by go_num,?_,Mv.ext_of (Ext.al HE.out _) (Mv.of_grown (C:=fun k=>w.heap.size≤k) HG.out fun r e=> .inl (Qi HO.out r e)) (fun k h=>h)⟩;have h:=HN.out;rw [HT.out]at h;exact h
     case measure=>simp [intOf];omega
    ·obtain rfl:q=6:=by omega
     rw [show((6:Nat):Int)=6 from rfl]
     go_wp2_with (at_builtin;go_must (refine wpList_append_own _ rfl _ _ 191 rfl w.heap.size 73 i0 (.agg #[.int .u8 0,.int .i64 0]) 2 16 Tryz.underlying191 hi hz0 hz1 hz2 rfl Dc _ _ _ rfl (HO.out.alloc _) ⟨wr.heap.size,0,none⟩ 1 1 [.int .u8 3,.int .i64 0] rfl rfl (JZ _ _ _ _) (by intro u hu;simp at hu;rcases hu with rfl|rfl<;>rfl) (by unfold maxLen;omega) Om (by have:=HE.out.size;simp;omega) ?_);intro v' w3 hown hgrow _;have HN:=Xh hown;have HG:=Xh hgrow;clear hown hgrow)
     go_ret;exact⟨_,rfl,HN.out,Mv.ext_of (Ext.al HE.out _) (Mv.of_grown (C:=fun k=>w.heap.size≤k) HG.out fun r e=> .inl (Qi HO.out r e)) (fun k h=>h)⟩
theorem Qqy(p:Int×Int)(h:p∈Qx)(w:World):Cr 153 #[.agg #[.int .u8 p.1,.int .i64 p.2]] w (.int .u32 (QD p)):=by
 have hp:(0≤p.1∧p.1<4)∧(0≤p.2∧p.2<6):=by
  have: ∀x∈Qx,(0≤x.1∧x.1<4)∧(0≤x.2∧x.2<6):=by decide
  exact this p h
 have h1:IntKind.u32.wrap p.1=p.1:=by rw [YC];omega
 have h2:IntKind.u32.wrap (p.1*256)=p.1*256:=by rw [YC];omega
 have h3:IntKind.u32.wrap (167772160+p.1*256)=167772160+p.1*256:=by rw [YC];omega
 have h4:IntKind.u32.wrap p.2=p.2:=by rw [YC];omega
 have h5:IntKind.u32.wrap (167772160+p.1*256+p.2)=167772160+p.1*256+p.2:=by rw [YC];omega
 clear h hp
 go_enter Tryz.func153,Tryz.ntmps153
 go_wp2;go_ret;exact⟨rfl,Ext.al (Ext.rf _) _⟩
end
section
open Ru
theorem Qqz{v:Value}(h:w.ownsRow base 73 2 v 10 (ndN Qx)): ∃g cap,v= .slice (some ⟨g,0,none⟩) 10 cap∧g<w.heap.size∧ ∀k (hk:k<10),w.cell? ⟨g,k*2,none⟩=some (.int .u8 (Qx[k]'hk).1)∧w.cell? ⟨g,k*2+1,none⟩=some (.int .i64 (Qx[k]'hk).2):=by
 rcases h.2 with⟨-,h1⟩|⟨g,cap,cur,rfl,hg,hgb,h1,h2,h3,h4⟩
 ·omega
 ·refine⟨g,cap,rfl,(Array.getElem?_eq_some_iff.1 hgb).1,fun k hk=> ?_⟩;have key: ∀j u,(ndN Qx)[j]?=some u→w.cell? ⟨g,j,none⟩=some u:=fun j u hu=>by
   have hj:j<20:=(List.getElem?_eq_some_iff.1 hu).1;rw [←h4,List.getElem?_take,if_pos Om,Array.getElem?_toList]at hu;simp only [World.cell?,hgb];exact hu
  obtain rfl|rfl|rfl|rfl|rfl|rfl|rfl|rfl|rfl|rfl:k=0∨k=1∨k=2∨k=3∨k=4∨k=5∨k=6∨k=7∨k=8∨k=9:=by omega
  all_goals exact⟨key _ _ rfl,key _ _ rfl⟩
theorem QqA{g cap q:Nat}(h:q<10){ty:TypeId}{gd:Option (Nat×Bool)}(hx:ρ x= .slice (some ⟨g,0,none⟩) 10 cap)(hy:ρ y= .int .i64 (q:Int))(w:World):
  (execOp ρ ⟨dst,.indexAddr 191 x y,ty,pos,after,gd⟩).run Tryz.prog w= .ok (.value (.pointer (some ⟨g,q*2,none⟩))) w:=by
 have h':(q:Int)<10:=by omega
 simp only [execOp,hx,hy];go_simp
theorem QsW{a b:Value}(h0:w.cell? ⟨B,i,none⟩=some a)(h1:w.cell? ⟨B,i+1,none⟩=some b)(hl:Lt B w)(hC: ¬C B){ty:TypeId}
  (hx:ρ x= .pointer (some ⟨B,i,none⟩)): ∀w',Mv C w w'→(execOp ρ ⟨dst,.load 73 x,ty,pos,after,g⟩).run Tryz.prog w'= .ok (.value (.agg #[a,b])) w':=by
 intro w' hE;have e:=Qf (hE.same B hl hC);have h0:w'.cell? ⟨B,i,none⟩=some a:=by rw [Qa,e,←Qa];exact h0
 have h1:w'.cell? ⟨B,i+1,none⟩=some b:=by rw [Qa,e,←Qa];exact h1
 simp only [execOp,hx];go_simp
theorem QqB{p q:Int×Int}{bb:Bool}(hn:decide (p=q)=bb){ty:TypeId}(hx:ρ x= .agg #[.int .u8 p.1,.int .i64 p.2])(hy:ρ y= .agg #[.int .u8 q.1,.int .i64 q.2])(w:World):
  (execOp ρ ⟨dst,.binOp .eql 73 x y 73,ty,pos,after,g⟩).run Tryz.prog w= .ok (.value (.bool bb)) w:=by
 obtain⟨p1,p2⟩:=p;obtain⟨q1,q2⟩:=q;simp only [execOp,hx,hy];go_simp
 by_cases h1:p1=q1<;>by_cases h2:p2=q2<;>cases bb<;>simp_all
def QqC(ops:Array Oper):Prop:=Region.noSelect ops=true∧Qo ops 6 [0,1,2,3,4,5] 0=true∧Rd ops 6 63 []
theorem QkI:QqC ((Tryz.f154.body.bind (Qh 5)).getD #[]):=⟨Kr,Kr,Rk⟩
theorem Qny(p:Int×Int)(w:World):Cr 154 #[.agg #[.int .u8 p.1,.int .i64 p.2]] w (.tuple #[.int .u32 (adO p),.bool (isN p)]):=by
 go_enter Tryz.func154,Tryz.ntmps154
 go_upto_region 1 with(fail)
 obtain⟨W0,hW⟩: ∃W0,w.alloc (.cells #[.int .u8 p.1,.int .i64 p.2] 73)=W0:=⟨_,rfl⟩;have g0:Ext w W0:=by rw [←hW];exact Ea
 have rz:RowZ W0 w.heap.size #[.int .u8 p.1,.int .i64 p.2]:=by rw [←hW];exact RowZ.new _ _ _
 rw [hW];clear hW;obtain⟨b1,e1⟩: ∃b,w.heap.size=b:=⟨_,rfl⟩;rw [e1]at rz⊢;clear e1
 go_wp2_with (go_at_call 152;(refine(QkH _).mono ?_);rintro e w1 ⟨v,rfl,ho,g1⟩;have rz:=rz.ext g1;have g1:=g0.tr g1;clear g0;obtain⟨g,cap,rfl,hg,hc⟩:=Qqz ho;clear ho)
 go_loopw [5] (fun a wr=> ∃q:Nat,q≤10∧a= .int .i64 q∧(∀j (hj:j<10),j<q→(Qx[j]'hj)≠p)∧Ext w1 wr) (fun a _=>10- (intOf a).toNat)
 case atStart=>exact⟨0,Nat.zero_le _,rfl,fun j hj h=>by omega,Ext.rf _⟩
 case round=>
  obtain⟨q,hq,rfl,hne,hE⟩:=hrel;have rz:=rz.ext hE;have E:=g1.tr hE;have HNE:=Xh hne;have HE1:=Xh hE
  by_cases hlt:q<10
  ·have hlt':(q:Int)<10:=by omega
   have hq10:=hlt;obtain⟨d0,d1⟩:=hc q hlt;have d0:=(hE.cell (p:=⟨g,q*2,none⟩) hg).trans d0;have d1:=(hE.cell (p:=⟨g,q*2+1,none⟩) hg).trans d1;have lg:Lt g wr:=Xl hg hE.size;obtain⟨x,hx⟩: ∃x,(Qx[q]'hlt)=x:=⟨_,rfl⟩;rw [hx]at d0 d1;have HX:=Xh hx;obtain⟨bb,hbb⟩: ∃bb,decide (x=p)=bb:=⟨_,rfl⟩;clear hne hE hx
   go_upto_region 5 with(fail)
   refine Qy (fun _=>False) (fun _=>False) 6 Kr ?_;obtain⟨WA,hW⟩: ∃Wdr,World.drew wr=Wdr:=⟨_,rfl⟩;have gD:Ext wr WA:=by rw [←hW];exact Ext.dr (Ext.rf _)
   rw [hW];clear hW;have E:=E.tr gD;have rz:=rz.ext gD;have d0:=(gD.cell (p:=⟨g,q*2,none⟩) lg).trans d0;have d1:=(gD.cell (p:=⟨g,q*2+1,none⟩) lg).trans d1;have lg:=Xl lg gD.size;have HE2:=Xh (HE1.out.tr gD);refine Zi (N:=6) (R:=QqC) (E:=((Tryz.f154.body.bind (Qh 5)).getD #[])) Kr QkI Kr fun hS=> ?_;have hT:=hS.2.1;refine tWk 1 (.slice (some ⟨g,0,none⟩) 10 cap) hS.1 hT rfl fun hT=>tWk 3 (.int .i64 (q:Int)) hS.1 hT rfl fun hT=>tW 7 (.pointer (some ⟨g,q*2,none⟩)) hS.1 hT rfl (fun w' _=>QqA (cap:=cap) hq10 Kr Kr w') fun hT=>tW 15 (.agg #[.int .u8 x.1,.int .i64 x.2]) hS.1 hT rfl (QsW (C:=fun _=>False) d0 d1 lg (fun h=>h) Kr) fun hT=>tW 31 (.agg #[.int .u8 p.1,.int .i64 p.2]) hS.1 hT rfl (Qpv rz rfl (fun h=>h) Kr) fun hT=>tW 63 (.bool bb) hS.1 hT rfl (fun w' _=>QqB hbb Kr Kr w') fun hT=> ?_;refine QZ hS.2.2 ?_;clear hS hT d0 d1;go_simp;have HB:=Xh hbb;have HEE:=Xh E;have hR:=rz.r;clear hbb E rz
   cases bb
   ·have HN:=Xh (of_decide_eq_false HB.out);go_wp2
    go_roundw
    case rel=>exact⟨q+1,Om,by go_num,fun j hj h=>by rcases Nat.lt_or_ge j q with h'|h';exact HNE.out j hj h';(obtain rfl:j=q:=by omega);rw [HX.out];exact HN.out,HE2.out⟩
    case measure=>simp [intOf];omega
   ·have HN:=of_decide_eq_true HB.out;have hm:p∈Qx:=by rw [←HN,←HX.out];exact List.getElem_mem hlt
    have HA:=Xh (Qqy p hm);have HM:=Xh hm;clear HN hm HB
    go_wp2_with (go_at_call 153;(refine(HA.out _).mono ?_);rintro e w2 ⟨rfl,g2⟩)
    exact bodyPost_ret (v:= .tuple #[.int .u32 (QD p),.bool true]) (by simp [results,Tryz.results154,go_sem]) rfl ⟨by unfold adO isN;rw [if_pos HM.out,decide_eq_true HM.out],HEE.out.tr g2⟩
  ·obtain rfl:q=10:=by omega
   have HM:=Xh (show p ∉ Qx from fun hm=>by obtain⟨j,hj,e⟩:=List.mem_iff_getElem.1 hm;exact HNE.out j hj hj e);have HEE:=Xh E;clear hne hE E rz;go_wp2;exact bodyPost_ret (v:= .tuple #[.int .u32 0,.bool false]) (by simp [results,Tryz.results154,go_sem]) rfl ⟨by unfold adO isN;rw [if_neg HM.out,decide_eq_false HM.out],HEE.out⟩
end
section
open Ru
theorem QqD(ki bu cu pv ge ti:Int)(hb:0≤bu∧bu<16)(h:ZO ⟨ki,bu,cu,pv,ge,ti⟩=true)(w:World):
  Cr 92 #[.int .u8 ki,.int .i64 bu,.agg #[.int .i64 cu,.int .i64 pv,.int .i64 ge,.int .i64 ti]] w (.tuple #[.agg (opv ⟨ki,bu,cu,pv,ge,ti⟩),.int .i64 0]):=by
 have HR:=Xh (QdQ ⟨ki,bu,cu,pv,ge,ti⟩ hb.1);rw [h]at HR;have h1:decide (bu<0)=false:=decide_eq_false Om;have h2:decide (16≤bu)=false:=decide_eq_false Om;have h3:IntKind.u8.wrap bu=bu:=by rw [Ye];omega
 have hbd: ∀W,(Instr.build 75 #[(0,.int .u8 ki),(1,.int .u8 bu),(2,.int .i64 cu),(3,.int .i64 pv),(4,.int .i64 ge),(5,.int .i64 ti)]).run Tryz.prog W= .ok (.agg #[.int .u8 ki,.int .u8 bu,.int .i64 cu,.int .i64 pv,.int .i64 ge,.int .i64 ti]) W:=fun W=>by kernel_rfl
 clear h hb;unfold opv at HR⊢
 go_enter Tryz.func92,Tryz.ntmps92
 go_upto_region 4 with(fail)
 obtain⟨V,hV⟩: ∃V,(w.alloc (.cells #[.int .i64 cu,.int .i64 pv,.int .i64 ge,.int .i64 ti] 153)).alloc (.cells #[.int .u8 0,.int .u8 0,.int .i64 0,.int .i64 0,.int .i64 0,.int .i64 0] 75)=V:=⟨_,rfl⟩;have gV:Ext w V:=by rw [←hV];exact Ext.al Ea _
 have hz:V.heap.size=w.heap.size+1+1:=by rw [←hV];simp
 have r6:RowZ V (w.heap.size+1) #[.int .u8 0,.int .u8 0,.int .i64 0,.int .i64 0,.int .i64 0,.int .i64 0]:=by rw [←hV];exact⟨by simp [go_sem],by simp [go_sem],by simp [go_sem,Lt]⟩
 rw [hV];obtain⟨W0,hW⟩: ∃W0,Qe (V.alloc (.cells #[.int .u8 0,.int .u8 0,.int .i64 0,.int .i64 0,.int .i64 0,.int .i64 0] 75)) (w.heap.size+1+1) 0 #[.int .u8 ki,.int .u8 bu,.int .i64 cu,.int .i64 pv,.int .i64 ge,.int .i64 ti]=W0:=⟨_,rfl⟩;have r8:RowZ W0 (w.heap.size+1+1) #[.int .u8 ki,.int .u8 bu,.int .i64 cu,.int .i64 pv,.int .i64 ge,.int .i64 ti]:=by rw [←hW,←hz];exact(RowZ.new V _ _).all _ rfl
 have g8:Ext V W0:=by rw [←hW,←hz];exact Ext.sa _ (Nat.le_refl _) Ea
 rw [hW];have r6:=r6.ext g8;have g0:=gV.tr g8;clear hW hV g8 gV hz;obtain⟨b6,e6⟩: ∃b,w.heap.size+1=b:=⟨_,rfl⟩;rw [e6]at r6 r8⊢;have h6:w.heap.size≤b6:=by omega
 clear e6;have hr8:=r8.r;have HR6:=Xh r6;have HR8:=Xh r8;clear r6 r8
 go_wp2_with (go_at_call 165;(refine(HR.out _).mono ?_);rintro e w2 ⟨rfl,g2⟩;have hr8:=(HR8.out.ext g2).r;have hr6:=(HR6.out.ext g2).r;have hz6:=(HR6.out.ext g2).z)
 obtain⟨W5,h5⟩: ∃W5,Qe w2 b6 0 #[.int .u8 ki,.int .u8 bu,.int .i64 cu,.int .i64 pv,.int .i64 ge,.int .i64 ti]=W5:=⟨_,rfl⟩;have hr:Qc W5 b6=#[.int .u8 ki,.int .u8 bu,.int .i64 cu,.int .i64 pv,.int .i64 ge,.int .i64 ti]:=by rw [←h5];exact Qq _ _ _ (by rw [hr6];rfl)
 have hE:Ext w W5:=by rw [←h5];exact Ext.sa _ h6 (g0.tr g2)
 rw [h5]
 refine bodyPost_ret (QL rfl _ _ b6 rfl (by
  rw [Qar (by rw [hr];show 0+6≤6;omega),hr]
  rfl)) rfl ⟨rfl,hE⟩
theorem QqE{p:Int×Int}(h:p∈Qx):0≤QD p∧QD p<4294967296:=by
 have: ∀x∈Qx,0≤QD x∧QD x<4294967296:=by decide
 exact this p h
theorem Qf9{p:Int×Int}(h:p∈Qx)(w:World):Cr 154 #[.agg #[.int .u8 p.1,.int .i64 p.2]] w (.tuple #[.int .u32 (QD p),.bool true]):=by
 have:=Qny p w;unfold adO isN at this;rw [if_pos h,decide_eq_true h]at this;exact this
theorem QsX(x y:Int)(LO pl:List Int)(g q:Nat)(pp:Option Addr)(cp:Nat)(w1:World)(HL:LO.length=16)(H0:0≤x∧x<4294967296)(H1:0≤y∧y<4294967296)(s1:SlB w1 (some ⟨g,0,none⟩) LO)(rl:ByR LO)(sp:SlB w1 pp pl)(hpp:pp=none→cp=0)(hl:pl.length≤2000):
  Calls Tryz.prog 155 #[.agg #[.int .u8 0,.int .u16 0,.int .u16 0,.int .u8 64,.int .u8 4,.int .u32 x,.int .u32 y,.slice (some ⟨g,0,none⟩) LO.length q,.slice pp pl.length cp]] w1 fun e w'=> ∃v,e= .returned (.tuple #[v,.bool true])∧Z8 w1 w' v (QiT ⟨0,0,0,64,4,x,y,LO,pl⟩):=by
 refine Qe7 ⟨0,0,0,64,4,x,y,LO,pl⟩ (some ⟨g,0,none⟩) pp q cp w1 ?_ (by show(0:Int)≤0∧(0:Int)<256;decide) (by show(0:Int)≤0∧(0:Int)<65536;decide) (by show(0:Int)≤0∧(0:Int)<65536;decide) (by show(0:Int)≤64∧(64:Int)<256;decide) (by show(0:Int)≤4∧(4:Int)<256;decide) H0 H1 s1 (fun e=>by cases e) sp hpp rl ?_ ?_
 ·show hdR 0 LO.length pl.length=true;unfold hdR;rw [HL,show decide (20+((16:Nat):Int)+(pl.length:Int)≤65535)=true from decide_eq_true Om];decide
 ·show LO.length≤40;omega
 ·exact hl
theorem Qnz(fr tn:Int×Int)(o:Opt)(pl:List Int)(pp:Option Addr)(cp:Nat)(w:World)(hf:fr∈Qx)(ht:tn∈Qx)(ho:ZO o=true)(sp:SlB w pp pl)(hpp:pp=none→cp=0)(hl:pl.length≤2000):
  Calls Tryz.prog 84 #[.agg (wrV fr tn o (.slice pp pl.length cp))] w fun e w'=> ∃v,e= .returned (.tuple #[v,.int .u8 0])∧Z8 w w' v (QiT ⟨0,0,0,64,4,QD fr,QD tn,Ym o,pl⟩):=by
 have HA1:=Xh (Qf9 hf);have HA2:=Xh (Qf9 ht);have HP6:=Xh (Qnx o ho);have HSP:=Xh (fun W (hE:Ext w W)=>sp.ext hE);have HL16:=Xh (show(Ym o).length=16 by rw [Qhm ho];simp [ZA])
 have HBR:=Xh (show ByR (Ym o)from by
  rw [Qhm ho];have h:=(Zz o).1 ho
  exact((ByR.cons Om (ByR.cons Om (ByR.cons Om (ByR.cons Om (ByR.cons Om (ByR.cons Om ByR.nil)))))).app (QlT _ _)).app (QlT _ _))
 have HX:=Xh (QqE hf);have HY:=Xh (QqE ht);obtain⟨LO,eLO⟩: ∃L,Ym o=L:=⟨_,rfl⟩;rw [eLO]at HP6 HL16 HBR⊢;obtain⟨x,ex⟩: ∃x,QD fr=x:=⟨_,rfl⟩;obtain⟨y,ey⟩: ∃y,QD tn=y:=⟨_,rfl⟩;rw [ex]at HA1 HX⊢;rw [ey]at HA2 HY⊢;have HPP:=Xh (And.intro hpp hl);have hbd: ∀W (g q:Nat),(Instr.build 132 #[(3,.int .u8 64),(4,.int .u8 4),(5,.int .u32 x),(6,.int .u32 y),(7,.slice (some ⟨g,0,none⟩) LO.length q),(8,.slice pp pl.length cp)]).run Tryz.prog W= .ok (.agg #[.int .u8 0,.int .u16 0,.int .u16 0,.int .u8 64,.int .u8 4,.int .u32 x,.int .u32 y,.slice (some ⟨g,0,none⟩) LO.length q,.slice pp pl.length cp]) W:=fun W g q=>by kernel_rfl
 clear hf ht ho sp hpp hl eLO ex ey;unfold opv at HP6;unfold wrV
 go_enter Tryz.func84,Tryz.ntmps84
 go_upto_region 1 with(fail)
 obtain⟨W0,hW⟩: ∃W0,w.alloc (.cells #[.int .u8 fr.1,.int .i64 fr.2,.int .u8 tn.1,.int .i64 tn.2,.int .u8 o.ki,.int .u8 o.bu,.int .i64 o.cu,.int .i64 o.pv,.int .i64 o.ge,.int .i64 o.ti,.slice pp pl.length cp] 77)=W0:=⟨_,rfl⟩;have g0:Ext w W0:=by rw [←hW];exact Ea
 have rz:RowZ W0 w.heap.size #[.int .u8 fr.1,.int .i64 fr.2,.int .u8 tn.1,.int .i64 tn.2,.int .u8 o.ki,.int .u8 o.bu,.int .i64 o.cu,.int .i64 o.pv,.int .i64 o.ge,.int .i64 o.ti,.slice pp pl.length cp]:=by rw [←hW];exact RowZ.new _ _ _
 rw [hW];clear hW;obtain⟨b1,e1⟩: ∃b,w.heap.size=b:=⟨_,rfl⟩;rw [e1]at rz⊢;have HB1:=Xh e1;have HRH:=Xh rz;have HE:=Xh g0;clear rz e1 g0;have c0:W0.cell? ⟨b1,0,none⟩=some (.int .u8 fr.1):=HRH.out.cell 0 (by show 0<11;omega);have c1:W0.cell? ⟨b1,1,none⟩=some (.int .i64 fr.2):=HRH.out.cell 1 (by show 1<11;omega)
 go_wp2_with (first|(go_at_call 154;first|((with_reducible refine(HA1.out _).mono ?_);rintro e wa ⟨rfl,ga⟩;have HRH:=Xh (HRH.out.ext ga);have HE:=Xh (HE.out.tr ga);have c2:wa.cell? ⟨b1,2,none⟩=some (.int .u8 tn.1):=HRH.out.cell 2 (by show 2<11;omega);have c3:wa.cell? ⟨b1,3,none⟩=some (.int .i64 tn.2):=HRH.out.cell 3 (by show 3<11;omega))|((with_reducible refine(HA2.out _).mono ?_);rintro e wb ⟨rfl,gb⟩;have HRH:=Xh (HRH.out.ext gb);have HE:=Xh (HE.out.tr gb);have c4:wb.cell? ⟨b1,4,none⟩=some (.int .u8 o.ki):=HRH.out.cell 4 (by show 4<11;omega);have c5:wb.cell? ⟨b1,5,none⟩=some (.int .u8 o.bu):=HRH.out.cell 5 (by show 5<11;omega);have c6:wb.cell? ⟨b1,6,none⟩=some (.int .i64 o.cu):=HRH.out.cell 6 (by show 6<11;omega);have c7:wb.cell? ⟨b1,7,none⟩=some (.int .i64 o.pv):=HRH.out.cell 7 (by show 7<11;omega);have c8:wb.cell? ⟨b1,8,none⟩=some (.int .i64 o.ge):=HRH.out.cell 8 (by show 8<11;omega);have c9:wb.cell? ⟨b1,9,none⟩=some (.int .i64 o.ti):=HRH.out.cell 9 (by show 9<11;omega)))|(go_at_call 151;(with_reducible refine(HP6.out _).mono ?_);rintro e wp ⟨vo,rfl,oo⟩;obtain⟨g,q,rfl,-,-,-,-,-⟩:=oo.own.at (by have:=HL16.out;omega);have s1:SlB wp (some ⟨g,0,none⟩) LO:=(by obtain⟨p,c,e,-,s⟩:=oo.sl;cases e;exact s);have HRH:=Xh (HRH.out.ext oo.ext);have HE:=Xh (HE.out.tr oo.ext);have HP2:=Xh (QsX x y LO pl g q pp cp wp HL16.out HX.out HY.out s1 HBR.out (HSP.out _ HE.out) HPP.out.1 HPP.out.2);clear s1 oo;have c10:wp.cell? ⟨b1,10,none⟩=some (.slice pp pl.length cp):=HRH.out.cell 10 (by show 10<11;omega))|(go_at_call 155;(with_reducible refine(HP2.out).mono ?_);rintro e w2 ⟨v2,rfl,o2⟩;have HO:=Xh o2;clear o2))
 refine bodyPost_ret (v:= .tuple #[v2,.int .u8 0]) (by simp [results,Tryz.results84,go_sem]) rfl ?_;exact⟨v2,rfl,HO.out.own.le HE.out.size,HE.out.tr HO.out.ext⟩
end
end Go.Proofs.YtpeonbaodnmlnaaGreat
