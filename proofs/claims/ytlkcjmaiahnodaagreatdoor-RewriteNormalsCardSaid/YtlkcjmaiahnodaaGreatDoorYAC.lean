/- The texts TA TL TO TN PP TX TU TQ MQ TR TS TI TY TZ TYK L6 VB US MR UT, one behind the other. -/
import Derived.Test.YtlkcjmaiahnodaaGreatDoorYAB
import Derived.Lib.ItoaNum
import Derived.Laws.IdiomCopy
import Derived.Shelf.SlSortCmp.NoneTotal
import Derived.Lib.Bytealg
import Derived.LaidEqlPtr
set_option linter.unusedVariables false
set_option linter.unusedSimpArgs false
namespace Go.Hw
open Go.RowKit
section
section
variable {P:Program} (w:World)
theorem pX {o:Oper} {a:Act} {K:Act->World->Prop} {Q:Exit->Act->World->Prop} (s x:Operand) (t:TypeId)
  (ho:o.op= .call {callee:= .builtin .append,args:= #[s,x],argTypes:= #[t,t]})
  (base:Nat) (e:TypeId) (i:TypeInfo) (z:Value) (size bytes:Nat) (ht:P.underlying t=some (.slice e)) (hi:P.info? e=some i) (hz:i.zero=some z)
  (hsize:i.size=size) (hby:i.bytes=bytes) (hzs:z.cells.size=size) (hsz:0<size)
  (q:Option Addr) (hs:a.eval s= .slice q 0 0) (hown:w.ownsRow base e size (.slice q 0 0) 0 [])
  (S:Nat->Prop) (sv:Value) (m:Nat) (news:List Value) (hx:a.eval x=sv) (hsl:aG S w size sv m news) (h1: ∀u∈news,u.oneCell'=true)
  (h63:m<=maxLen) (hbytes:m*bytes<=140737488355328) (hbase:base<=w.heap.size)
  (h: ∀v' w',Ext w w'->w'.ownsRow base e size v' m news->K (a.put o.dst v') w'):o.wp P a w K Q:=by
 have hem: ∀v' w',(Builtin.append_ #[t,t] o.type #[.slice q 0 0,sv]).run P w= .ok v' w'->w.grownBy w' (Value.ownBlock (.slice q 0 0))->Ext w w':=by
  intro v' w' hr hgr;refine⟨hgr.os,hgr.tape,hgr.output,hgr.size,fun k hk _=>?_⟩;rcases hown.2 with⟨hq,_⟩|⟨g,cap,cur,hq,hbg,hg,hnc,hcm,hcs,htake⟩
  .injection hq with hq
   subst hq;exact hgr.block k hk (by simp[Value.ownBlock])
  .injection hq with hq h2 h3
   subst hq;subst h3;by_cases hkg:k=g
   .subst hkg;rcases hsl.2 with⟨hv,hm⟩|⟨ad,c,hv,hc,hgg,hj⟩
    .have hr2:=run_append_owned_none (P:=P) w base t o.type e i size ht hi _ 0 [] hown;rw[hv,hr2] at hr;injection hr with _ hr
     rw[hr]
    .have hnews: ∀j u,news[j]?=some u->w.cell? (ad.add j)=some u:=by
      intro j u hu;have hlt:j<m*size:=by rw[<-hsl.1];exact(List.getElem?_eq_some_iff.1 hu).1
      rw[<-hu,<-hj j hlt];obtain⟨g,off,spot⟩:=ad;have hsp:=(hgg (oq hlt)).1;simp only at hsp;subst hsp
      congr 1
      unfold Addr.add;split
      .rename_i h0;simp[h0]
      .rfl
     subst hsize;by_cases hm:m=0
     .subst hm;have hn:news=[]:=List.eq_nil_of_length_eq_zero (by rw[hsl.1];simp);subst hn;rw[hv,run_append_room (P:=P) w t o.type e i ht hi k 0 0 cur hg ad 0 c [] (by simp) hnews h1 (Nat.le_refl _) (by simp)] at hr;injection hr with _ hr
      rw[<-hr,setRow_heap w k cur _ e _ hg,hg];simp
     .rw [hv,run_append_grow (P:=P) w t o.type e i z ht hi hz ⟨k,0,none⟩ 0 0 [] (by simp) (fun j v h=>by simp at h) ad m c news hsl.1 hnews (by omega) (by simp only[maxLen] at h63;omega) (growslice_fits (by omega) (by subst hby;simpa using hbytes))] at hr;injection hr with _ hr
      rw[<-hr];exact Go.heap_alloc_old w.drew _ (by simpa using hk)
   .exact hgr.block k hk (by simp[Value.ownBlock];exact hkg)
 rcases hsl.2 with⟨hv,hm⟩|⟨ad,c,hv,hc,hgg,hj⟩
 .have hr:=run_append_owned_none (P:=P) w base t o.type e i size ht hi _ 0 [] hown;have hn:news=[]:=List.eq_nil_of_length_eq_zero (by rw[hsl.1,hm];simp);subst hn;subst hm;unfold Oper.wp execOp;simp only[ho,resolve,invoke,builtin,Sem.run_bind,Sem.run_pure,Result.andThen_ok,List.map_toArray,List.map_cons,List.map_nil,hs,hx,hv,hr];exact h _ w (aC.refl _ w) hown
 .have hnews: ∀j u,news[j]?=some u->w.cell? (ad.add j)=some u:=by
   intro j u hu;have hlt:j<m*size:=by rw[<-hsl.1];exact(List.getElem?_eq_some_iff.1 hu).1
   rw[<-hu,<-hj j hlt];obtain⟨g,off,spot⟩:=ad;have hsp:=(hgg (oq hlt)).1;simp only at hsp;subst hsp
   congr 1
   unfold Addr.add;split
   .rename_i h0;simp[h0]
   .rfl
  obtain⟨v',w',hr,h2,h3,h4⟩:=run_append_own (P:=P) w base t o.type e i z size bytes ht hi hz hsize hby hzs hsz _ 0 [] hown ad m c news hsl.1 hnews h1 (by omega) (by simpa using hbytes) hbase;have hE:=hem v' w' (by rw[hv];exact hr) h3;unfold Oper.wp execOp;simp only[ho,resolve,invoke,builtin,Sem.run_bind,Sem.run_pure,Result.andThen_ok,List.map_toArray,List.map_cons,List.map_nil,hs,hx,hv,hr];exact h v' w' hE (by simpa using h2)
end
end
section
open Tm
def vH (t:Tm):Prop:= ∀x∈bC t,x.sort≠au->x.kids=[]
theorem vH.kid {t x:Tm} (h:vH t) (hx:x∈t.kids):vH x:=fun y hy=>h y (lq hx hy)
def putAt:Tm->List Nat->Tm->Tm
 |_,[],u=>u
 | .mk n s L,i::p,u=> .mk n s (L.set i (putAt (L.getD i default) p u))
mutual
def iH (σ:By->By->Tm):Tm->Tm
 | .mk n s L=>if s=au then .mk n s (sbs σ L) else σ n s
def sbs (σ:By->By->Tm):List Tm->List Tm
 |[]=>[]
 |a::L=>iH σ a::sbs σ L
end
theorem UF (σ:By->By->Tm): ∀L,sbs σ L=L.map (iH σ)
 |[]=>rfl
 |a::L=>by simp[sbs,UF σ L]
theorem YF (σ:By->By->Tm) {t:Tm} (h:t.sort=au):iH σ t= .mk t.name au (t.kids.map (iH σ)):=by
 obtain⟨n,s,L⟩:=t;have h':s=au:=h;subst h';unfold iH;rw[if_pos rfl,UF];rfl
abbrev Nt:=Tm×List Nat
def akN (b:By):Prop:=(58:UInt8)∉b.data.toList/\(32:UInt8)∉b.data.toList
instance anK (s:By) (l:List By):Decidable (s∈l):=decidable_of_iff (l.any (fun x=>decide (x=s))=true) (by
 rw[List.any_eq_true];exact⟨fun⟨x,hx,h⟩=>of_decide_eq_true h▸hx,fun h=>⟨s,h,dT rfl⟩⟩)
abbrev Rl:=Tm×Tm
theorem aG.Ef {β:Type} {enc:β->Value} {d:β} {S:Nat->Prop} {w:World} {a:Option Addr} {n cap:Nat} {l:List β} (h:aG S w 1 (.slice a n cap) l.length (l.map enc)) (hl:0<l.length):
  ∃g off,a=some ⟨g,off,none⟩/\S g/\∀i,i<l.length->w.cell? ⟨g,off+i,none⟩=some (enc (l.getD i d)):=by
 obtain⟨g,off,c,e,_,hS,hj⟩:=aG.pos h hl;injection e with e1 e2 e3
 refine⟨g,off,e1,hS,fun i hi=>?_⟩;rw[hj i (by omega),List.getElem?_map,List.getElem?_eq_getElem hi,List.getD_eq_getElem?_getD,List.getElem?_eq_getElem hi];rfl
section
variable {β:Type} {enc:β->Value} {S T F:Nat->Prop} {w w':World} {v:Value} {LL:List (List β)}
end
theorem Vt {L:List Tm} {k:Nat} (h:k<L.length):tg L k∈L:=by
 unfold tg;rw[List.getD_eq_getElem?_getD,List.getElem?_eq_getElem h];exact List.getElem_mem h
end
section
open Tm
abbrev rg (L:List Rl) (i:Nat):Rl:=L.getD i (default,default)
def Ht (L:List Rl):List Tm:=L.flatMap fun r=>[r.1,r.2]
theorem UD (L:List Rl):(Ht L).length=2*L.length:=by
 induction L with
 |nil=>rfl
 |cons a L ih=>unfold Ht at ih⊢;rw[List.flatMap_cons,List.length_append,ih];simp;omega
theorem YG: ∀(L:List Rl) (i:Nat),i<L.length->tg (Ht L) (2*i)=(rg L i).1/\tg (Ht L) (2*i+1)=(rg L i).2
 |r::L,0,_=>⟨rfl,rfl⟩
 |r::L,i+1,h=>by
  have ih:=YG L i (by simpa using h);have e:Ht (r::L)=r.1::r.2::Ht L:=rfl;rw[e,show 2*(i+1)=2*i+1+1 by omega];exact ih
theorem tZ {L:List Rl} {i:Nat} (h:i<L.length):rg L i∈L:=by unfold rg;rw[List.getD_eq_getElem?_getD,List.getElem?_eq_getElem h];exact List.getElem_mem h
def jq (S:Nat->Prop) (w:World) (L:List Rl) (v:Value):Prop:= ∃a cap,v= .slice a L.length cap/\aI S w (Ht L) (.slice a (2*L.length) (2*cap))
section
variable {S T F:Nat->Prop} {w w':World} {L:List Rl} {v:Value}
theorem jq.shape (h:jq S w L v): ∃a cap,v= .slice a L.length cap:=by
 obtain⟨a,cap,e,_⟩:=h;exact⟨a,cap,e⟩
theorem jq.kept (h:jq S w L v) (hu:aC F w w') (hF: ∀k,S k->¬F k):jq S w' L v:=by
 obtain⟨a,cap,e,h⟩:=h;exact⟨a,cap,e,h.kept hu hF⟩
theorem jq.ext (h:jq S w L v) (hu:Ext w w'):jq S w' L v:=h.kept hu (fun _ _ h=>h)
theorem jq.weaken (h:jq S w L v) (hs: ∀k,S k->T k):jq T w L v:=by
 obtain⟨a,cap,e,h⟩:=h;exact⟨a,cap,e,h.weaken hs⟩
theorem jq.at_ {a:Option Addr} {n cap:Nat} (h:jq S w L (.slice a n cap)) (hL:0<L.length):
  ∃g off,a=some ⟨g,off,none⟩/\S g/\∀i,i<L.length->∃xa xc ya yc,w.cell? ⟨g,off+i*6,none⟩=some (.string (rg L i).1.name)/\w.cell? ⟨g,off+i*6+1,none⟩=some (.string (rg L i).1.sort)/\w.cell? ⟨g,off+i*6+2,none⟩=some (.slice xa (rg L i).1.kids.length xc)/\
   w.cell? ⟨g,off+i*6+3,none⟩=some (.string (rg L i).2.name)/\w.cell? ⟨g,off+i*6+4,none⟩=some (.string (rg L i).2.sort)/\w.cell? ⟨g,off+i*6+5,none⟩=some (.slice ya (rg L i).2.kids.length yc)/\
   aI S w (rg L i).1.kids (.slice xa (rg L i).1.kids.length xc)/\aI S w (rg L i).2.kids (.slice ya (rg L i).2.kids.length yc):=by
 obtain⟨a',cap',e,h⟩:=h;injection e with e1 e2 e3
 subst e1;have hf:=UD L;obtain⟨g,off,e,hS,hat⟩:=h.at_ (by omega);refine⟨g,off,e,hS,fun i hi=>?_⟩;obtain⟨f1,f2⟩:=YG L i hi;obtain⟨xa,xc,h0,h1,h2,h3⟩:=hat (2*i) (by omega);obtain⟨ya,yc,k0,k1,k2,k3⟩:=hat (2*i+1) (by omega);rw[f1] at h0 h1 h2 h3;rw[f2] at k0 k1 k2 k3;refine⟨xa,xc,ya,yc,?_,?_,?_,?_,?_,?_,h3,k3⟩
 .rw [show off+i*6=off+2*i*3 by omega];exact h0
 .rw [show off+i*6+1=off+(2*i*3+1) by omega];exact h1
 .rw [show off+i*6+2=off+(2*i*3+2) by omega];exact h2
 .rw [show off+i*6+3=off+(2*i+1)*3 by omega];exact k0
 .rw [show off+i*6+4=off+((2*i+1)*3+1) by omega];exact k1
 .rw [show off+i*6+5=off+((2*i+1)*3+2) by omega];exact k2
end
end
section
open Tm
inductive aP (te:TypeId) (w:World):(Nat->Prop)->List Tm->Value->Prop
 |mk (B:Nat->Prop) (L:List Tm) (us:List Value) (v:Value) (Bk:Nat->Nat->Prop)
   (hl:us.length=L.length) (hown:w.ownsRow 0 te 3 v L.length (dI L us))
   (hb: ∀k,v.ownBlock=some k->B k) (hkb: ∀i k,i<L.length->Bk i k->B k)
   (hrow: ∀i k,i<L.length->Bk i k->v.ownBlock≠some k)
   (hdis: ∀i j k,i<L.length->j<L.length->i≠j->Bk i k->¬Bk j k)
   (hk: ∀i,i<L.length->aP te w (Bk i) (tg L i).kids (ug us i)):aP te w B L v
section
variable {te:TypeId} {w w':World} {B B' F S:Nat->Prop} {L:List Tm} {v:Value}
theorem aP.nil (te:TypeId) (w:World) (B:Nat->Prop):aP te w B [] tX:=
 ⟨B,[],[],tX,fun _ _=>False,rfl,⟨rfl,.inl ⟨rfl,rfl⟩⟩,fun k h=>by simp[Value.ownBlock] at h,fun i k h=>absurd h (Nat.not_lt_zero _),fun i k h=>absurd h (Nat.not_lt_zero _),fun i j k h=>absurd h (Nat.not_lt_zero _),fun i h=>absurd h (Nat.not_lt_zero _)⟩
theorem aP.weaken (h:aP te w B L v) (hB: ∀k,B k->B' k):aP te w B' L v:=by
 cases h with
 |mk _ _ us _ Bk hl hown hb hkb hrow hdis hk=>exact⟨B',L,us,v,Bk,hl,hown,fun k h=>hB k (hb k h),fun i k hi h=>hB k (hkb i k hi h),hrow,hdis,hk⟩
theorem aP.kept (h:aP te w B L v) (hu:aC F w w') (hF: ∀k,B k->¬F k):aP te w' B L v:=by
 induction h with
 |mk B L us v Bk hl hown hb hkb hrow hdis hk ih=>
  exact⟨B,L,us,v,Bk,hl,bH hown hu (fun k hk=>hF k (hb k hk)),hb,hkb,hrow,hdis,fun i hi=>ih i hi (fun k hk2=>hF k (hkb i k hi hk2))⟩
theorem aP.read (h:aP te w B L v):aI B w L v:=by
 induction h with
 |mk B L us v Bk hl hown hb hkb hrow hdis hk ih=>
  exact .mk L us v hl ((aG.fM hown).weaken hb) (fun i hi=>(ih i hi).weaken (fun k hk2=>hkb i k hi hk2))
end
def qM:Tm->List Nat->Prop
 |_,[]=>True
 |t,i::p=>i<t.kids.length/\qM (tg t.kids i) p
def vV:Tm->List Nat->Tm
 |t,[]=>t
 |t,i::p=>vV (tg t.kids i) p
def qW (w:World):List Nat->Nat×Nat->Nat×Nat->Prop
 |[],a,a'=>a'=a
 |i::p,a,a'=> ∃g off n c,w.cell? ⟨a.1,a.2+2,none⟩=some (.slice (some ⟨g,off,none⟩) n c)/\qW w p (g,off+i*3) a'
def gK (w:World) (a:Nat×Nat) (n s:By) (u:Value):World:=((w.setCell ⟨a.1,a.2,none⟩ (.string n)).setCell ⟨a.1,a.2+1,none⟩ (.string s)).setCell ⟨a.1,a.2+2,none⟩ u
theorem vX (w:World) (a:Nat×Nat) (n s:By) (u:Value):aC (fun k=>k=a.1) w (gK w a n s u):=
 (((aC.refl (fun k=>k=a.1) w).setCell (p:=⟨a.1,a.2,none⟩) (.inl rfl) _).setCell (p:=⟨a.1,a.2+1,none⟩) (.inl rfl) _).setCell (p:=⟨a.1,a.2+2,none⟩) (.inl rfl) _
theorem wH {w:World} {b:Nat} {e:TypeId} {g cap n size:Nat} {xs:List Value} (h:w.ownsRow b e size (.slice (some ⟨g,0,none⟩) n cap) n xs) (j:Nat) (u:Value):
  (w.setCell ⟨g,j,none⟩ u).ownsRow b e size (.slice (some ⟨g,0,none⟩) n cap) n (xs.set j u):=by
 obtain⟨h1,⟨e0,_⟩|⟨g',cap',cur,e0,h3,h4,h5,h6,h7,h8⟩⟩:=h
 .cases e0
 .injection e0 with e1 e2 e3
  injection e1 with e1
  injection e1 with e1
  subst e1;subst e3;refine⟨by rw[List.length_set];exact h1,.inr ⟨g,cap,_,rfl,h3,setBlock h4 j u,h5,h6,by rw[Array.size_setIfInBounds];exact h7,?_⟩⟩;rw[<-h8,Array.toList_setIfInBounds,List.take_set]
theorem CO: ∀(L:List Tm) (us:List Value) (i:Nat) (y:Tm) (u:Value),us.length=L.length->i<L.length->(((dI L us).set (i*3) (.string y.name)).set (i*3+1) (.string y.sort)).set (i*3+2) u=dI (L.set i y) (us.set i u)
 |t::L,a::us,0,y,u,_,_=>rfl
 |t::L,a::us,i+1,y,u,hl,hi=>by
  have ih:=CO L us i y u (by simpa using hl) (by simpa using hi);rw[show(i+1)*3=i*3+1+1+1 by omega];simp only[dI,List.headD_cons,List.tail_cons,List.set_cons_succ,<-ih]
theorem H_: ∀(L:List Tm) (us:List Value) (i:Nat) (y:Tm),y.name=(tg L i).name->y.sort=(tg L i).sort->dI (L.set i y) us=dI L us
 |[],_,_,_,_,_=>rfl
 |t::L,us,0,y,h1,h2=>by
  simp only[List.set_cons_zero,dI];rw[show y.name=t.name from h1,show y.sort=t.sort from h2]
 |t::L,us,i+1,y,h1,h2=>by
  simp only[List.set_cons_succ,dI];rw[H_ L us.tail i y h1 h2]
theorem QI (L:List Tm) (i j:Nat) (y:Tm) (hi:i<L.length):tg (L.set i y) j=if i=j then y else tg L j:=by
 unfold tg;rw[List.getD_eq_getElem?_getD,List.getElem?_set];by_cases h:i=j
 .subst h;rw[if_pos rfl,if_pos rfl,if_pos hi];rfl
 .rw [if_neg h,if_neg h,List.getD_eq_getElem?_getD]
theorem Yf (us:List Value) (i j:Nat) (u:Value) (hi:i<us.length):ug (us.set i u) j=if i=j then u else ug us j:=by
 unfold ug;rw[List.getD_eq_getElem?_getD,List.getElem?_set];by_cases h:i=j
 .subst h;rw[if_pos rfl,if_pos rfl,if_pos hi];rfl
 .rw [if_neg h,if_neg h,List.getD_eq_getElem?_getD]
theorem qE {w:World} {b:Nat} {e:TypeId} {size n:Nat} {v:Value} {xs:List Value} (h:w.ownsRow b e size v n xs) (hn:0<n): ∃g cap cur,v= .slice (some ⟨g,0,none⟩) n cap/\w.heap[g]?=some (.cells cur e (0,0))/\n*size<=cur.size:=by
 rcases h.2 with⟨_,h2⟩|⟨g,cap,cur,rfl,hb,hg,hc,hm,hs,ht⟩
 .omega
 .exact ⟨g,cap,cur,rfl,hg,by rw[hs];exact Nat.mul_le_mul_right _ hc⟩
theorem RF {te:TypeId} {w:World} (y:Tm) (u:Value) (S:Nat->Prop) (hy:aI S w y.kids u): ∀(p:List Nat) (i:Nat) (L:List Tm) (v:Value) (B:Nat->Prop) (g n c:Nat) (a:Nat×Nat),aP te w B L v->(∀k,S k->¬B k)->v= .slice (some ⟨g,0,none⟩) n c->i<L.length->qM (tg L i) p->qW w p (g,i*3) a->
  B a.1/\(∃cur,w.heap[a.1]?=some (.cells cur te (0,0))/\a.2+2<cur.size)/\aI (fun k=>B k\/S k) (gK w a y.name y.sort u) (L.set i (putAt (tg L i) p y)) v
 |[],i,L,v,B,g,n,c,a,h,hS,hv,hi,hp,ha=>by
  have ha:a=(g,i*3):=ha;subst ha;cases h with
  |mk _ _ us _ Bk hl hown hb hkb hrow hdis hk=>
   obtain⟨g',cap,cur,hv',hg,hsz⟩:=qE hown (by omega);rw[hv] at hv';injection hv' with e1 e2 e3
   injection e1 with e1
   injection e1 with e1
   subst e1;have hBg:B g:=hb g (by rw[hv];rfl);refine⟨hBg,⟨cur,hg,by show i*3+2<_;omega⟩,?_⟩;have hU:=vX w (g,i*3) y.name y.sort u;have hown2:(gK w (g,i*3) y.name y.sort u).ownsRow 0 te 3 v L.length (dI (L.set i y) (us.set i u)):=by
    rw[<-CO L us i y u hl hi];rw[hv,e2] at hown⊢;exact wH (wH (wH hown _ _) _ _) _ _
   have e4:putAt (tg L i) [] y=y:=by cases tg L i;rfl
   rw[e4];refine .mk _ (us.set i u) v (by simp[hl]) (by rw[List.length_set];exact(aG.fM hown2).weaken (fun k hk=> .inl (hb k hk))) (fun j hj=>?_);rw[List.length_set] at hj;rw[QI L i j y hi,Yf us i j u (by omega)];by_cases hij:i=j
   .rw [if_pos hij,if_pos hij];exact(hy.kept hU (fun k hk e=>hS k hk (by rw[show k=g from e];exact hBg))).weaken (fun k hk=> .inr hk)
   .rw [if_neg hij,if_neg hij];exact((hk j hj).kept hU (fun k hk e=>hrow j k hj hk (by rw[hv,show k=g from e];rfl))).read.weaken (fun k hk=> .inl (hkb j k hj hk))
 |i'::p,i,L,v,B,g,n,c,a,h,hS,hv,hi,hp,ha=>by
  cases h with
  |mk _ _ us _ Bk hl hown hb hkb hrow hdis hk=>
   obtain⟨g',cap,cur,hv',hg,hsz⟩:=qE hown (by omega);have hv2:=hv;rw[hv] at hv';injection hv' with e1 e2 e3
   injection e1 with e1
   injection e1 with e1
   subst e1;obtain⟨g2,off2,n2,c2,hc2,ha2⟩:=ha;have hcell:w.cell? ⟨g,i*3+2,none⟩=some (ug us i):=by
    have h1:=aG.cellAt (aG.fM hown) (g:=g) (off:=0) (by rw[hv]) (j:=i*3+2) (by omega);rw[Nat.zero_add] at h1;rw[h1];exact(zS L us i hi).2.2
   rw[hcell] at hc2;injection hc2 with hc2
   have hki:=hk i hi;have hoff:off2=0:=by
    have h0:0< (tg L i).kids.length:=by have:=hp.1;omega
    cases hki with
    |mk _ _ DJ _ _ _ hown2 _ _ _ _ _=>
     obtain⟨g3,c3,al9,hv3,_,_⟩:=qE hown2 h0;rw[hc2] at hv3;injection hv3 with e4 _ _
     injection e4 with e4
     injection e4
   subst hoff;obtain⟨h1,h2,h3⟩:=RF y u S hy p i' (tg L i).kids (ug us i) (Bk i) g2 n2 c2 a hki (fun k hk hb2=>hS k hk (hkb i k hi hb2)) hc2 hp.1 hp.2 (by rw[Nat.zero_add] at ha2;exact ha2);have hU:=vX w a y.name y.sort u;refine⟨hkb i _ hi h1,h2,?_⟩;obtain⟨nm,so,K,hK⟩: ∃nm so K,tg L i= .mk nm so K:=⟨_,_,_,(eta _).symm⟩
   have e5:putAt (tg L i) (i'::p) y= .mk nm so (K.set i' (putAt (tg K i') p y)):=by rw[hK];rfl
   rw[hK] at h3;simp only[Tm.kids] at h3;rw[e5];refine .mk _ us v (by simp[hl]) ?_ (fun j hj=>?_)
   .rw [List.length_set,H_ L us i _ (by rw[hK];rfl) (by rw[hK];rfl)];exact(aG.kept (aG.fM hown) hU (fun k hk e=>hrow i k hi (by rw[show k=a.1 from e];exact h1) hk)).weaken (fun k hk=> .inl (hb k hk))
   .rw [List.length_set] at hj;rw[QI L i j _ hi];by_cases hij:i=j
    .subst hij;rw[if_pos rfl];simp only[Tm.kids];exact h3.weaken (fun k hk=>hk.elim (fun hk=> .inl (hkb i k hi hk)) .inr)
    .rw [if_neg hij];exact((hk j hj).kept hU (fun k hk2 e=>hdis i j k hi hj hij (by rw[show k=a.1 from e];exact h1) hk2)).read.weaken (fun k hk2=> .inl (hkb j k hj hk2))
theorem acP {te:TypeId} {w:World} {b:Nat} {B S:Nat->Prop} {t y:Tm} {u0 u:Value} {p:List Nat} {a:Nat×Nat} (hb:w.heap[b]?=some (.cells #[.string t.name,.string t.sort,u0] te (0,0))) (h:aP te w B t.kids u0) (hbb: ¬B b) (hy:aI S w y.kids u) (hS: ∀k,S k->¬B k/\k≠b) (hp:qM t p) (ha:qW w p (b,0) a):
  (a.1=b\/B a.1)/\(∃cur,w.heap[a.1]?=some (.cells cur te (0,0))/\a.2+2<cur.size)/\∃u',(gK w a y.name y.sort u).heap[b]?=some (.cells #[.string (putAt t p y).name,.string (putAt t p y).sort,u'] te (0,0))/\aI (fun k=>B k\/S k) (gK w a y.name y.sort u) (putAt t p y).kids u':=by
 cases p with
 |nil=>
  have ha:a=(b,0):=ha;subst ha;have e4:putAt t [] y=y:=by cases t;rfl
  rw[e4];refine⟨.inl rfl,⟨_,hb,by simp⟩,u,?_,(hy.kept (vX w (b,0) y.name y.sort u) (fun k hk e=>(hS k hk).2 e)).weaken (fun k hk=> .inr hk)⟩;have:=setBlock (setBlock (setBlock hb 0 (.string y.name)) 1 (.string y.sort)) 2 u;simpa[gK] using this
 |cons i p=>
  obtain⟨g,off,n,c,hc,ha⟩:=ha;have hcell:w.cell? ⟨b,0+2,none⟩=some u0:=aj hb 2 u0 rfl;rw[hcell] at hc;injection hc with hc
  have hoff:off=0:=by
   have h0:0<t.kids.length:=by have:=hp.1;omega
   cases h with
   |mk _ _ DJ _ _ _ hown2 _ _ _ _ _=>
    obtain⟨g3,c3,al9,hv3,_,_⟩:=qE hown2 h0;rw[hc] at hv3;injection hv3 with e4 _ _
    injection e4 with e4
    injection e4
  subst hoff;obtain⟨h1,h2,h3⟩:=RF y u S hy p i t.kids u0 B g n c a h (fun k hk=>(hS k hk).1) hc hp.1 hp.2 (by rw[Nat.zero_add] at ha;exact ha);refine⟨.inr h1,h2,u0,?_,?_⟩
  .have e:(putAt t (i::p) y).name=t.name/\(putAt t (i::p) y).sort=t.sort:=by cases t;exact⟨rfl,rfl⟩
   rw[e.1,e.2];exact(vX w a y.name y.sort u).heap hb (fun e=>hbb (by rw[show b=a.1 from e];exact h1))
  .have e:(putAt t (i::p) y).kids=t.kids.set i (putAt (tg t.kids i) p y):=by cases t;rfl
   rw[e];exact h3
end
section
section
variable {P:Program} {kt et:TypeId} {i:TypeInfo}
end
end
section
open Tm
section
variable {tn to:TypeId} {ops:List By} {R R' B F:Nat->Prop} {base b:Nat} {w w':World} {N:List Nt} {nv nv':Value} {br bk bd:Nat} {us:List Value} {G:Nat->Prop} {rl kl:List (By×Value)} {dl:List ((Nat×Nat)×Value)}
end
end
section
open Tm
abbrev Sb:=By->Option Tm
def Sb.put (σ:Sb) (n:By) (t:Tm):Sb:=fun m=>if m=n then some t else σ m
mutual
def kG:Tm->Tm->Sb->Option Sb
 | .mk n s L,t,σ=>
  if s=au then(if t.sort=au/\t.name=n/\t.kids.length=L.length then oG L t.kids σ else none)
  else match σ n with
   |some x=>if x=t then some σ else none
   |none=>if t.sort≠au/\t.sort≠s then none else some (σ.put n t)
def oG:List Tm->List Tm->Sb->Option Sb
 |[],_,σ=>some σ
 |_::_,[],_=>none
 |a::L,b::M,σ=>match kG a b σ with
  |none=>none
  |some τ=>oG L M τ
end
theorem KC {n:By} {L:List Tm} {t:Tm} {σ:Sb} (h:t.sort=au/\t.name=n/\t.kids.length=L.length):kG (.mk n au L) t σ=oG L t.kids σ:=by
 unfold kG;rw[if_pos rfl,if_pos h]
theorem AQ {n:By} {L:List Tm} {t:Tm} {σ:Sb} (h: ¬(t.sort=au/\t.name=n/\t.kids.length=L.length)):kG (.mk n au L) t σ=none:=by
 unfold kG;rw[if_pos rfl,if_neg h]
theorem Em {n s:By} {L:List Tm} {t x:Tm} {σ:Sb} (hs:s≠au) (h:σ n=some x):kG (.mk n s L) t σ=if x=t then some σ else none:=by
 unfold kG;rw[if_neg hs,h]
theorem BJ {n s:By} {L:List Tm} {t:Tm} {σ:Sb} (hs:s≠au) (h:σ n=none):kG (.mk n s L) t σ=if t.sort≠au/\t.sort≠s then none else some (σ.put n t):=by
 unfold kG;rw[if_neg hs,h]
theorem Y_ {L M:List Tm} {σ:Sb} {k:Nat} (hL:k<L.length) (hM:k<M.length):
  oG (L.drop k) (M.drop k) σ=match kG (tg L k) (tg M k) σ with|none=>none|some τ=>oG (L.drop (k+1)) (M.drop (k+1)) τ:=by
 have e1:L.drop k=tg L k::L.drop (k+1):=by
  rw[List.drop_eq_getElem_cons hL];unfold tg;rw[List.getD_eq_getElem?_getD,List.getElem?_eq_getElem hL];rfl
 have e2:M.drop k=tg M k::M.drop (k+1):=by
  rw[List.drop_eq_getElem_cons hM];unfold tg;rw[List.getD_eq_getElem?_getD,List.getElem?_eq_getElem hM];rfl
 rw[e1,e2];rfl
def kH (σ:Sb) (t:Tm):Tm:=iH (fun n _=>(σ n).getD default) t
theorem SK (σ:Sb) (n:By) (L:List Tm):kH σ (.mk n au L)= .mk n au (L.map (kH σ)):=YF _ rfl
theorem OO (σ:Sb) {n s:By} {L:List Tm} (h:s≠au):kH σ (.mk n s L)=(σ n).getD default:=by
 unfold kH iH;rw[if_neg h]
def sb0:Sb:=fun _=>none
def pG (r:Rl) (t:Tm):Option Tm:=(kG r.1 t sb0).map fun σ=>kH σ r.2
def qX:Nat->List Rl->Tm->Option (Nat×Tm)
 |_,[],_=>none
 |i,r::l,t=>match pG r t with
  |some u=>some (i,u)
  |none=>qX (i+1) l t
mutual
def iw (l:List Rl):Tm->Option (Nat×List Nat×Tm)
 | .mk n s L=>match pI l 0 L with
  |some x=>some x
  |none=>(qX 0 l (.mk n s L)).map fun x=>(x.1,[],x.2)
def pI (l:List Rl):Nat->List Tm->Option (Nat×List Nat×Tm)
 |_,[]=>none
 |i,a::L=>match iw l a with
  |some x=>some (x.1,i::x.2.1,x.2.2)
  |none=>pI l (i+1) L
end
theorem KG (l:List Rl) (n s:By) (L:List Tm):iw l (.mk n s L)=match pI l 0 L with|some x=>some x|none=>(qX 0 l (.mk n s L)).map fun x=>(x.1,[],x.2):=by
 conv=>lhs;unfold iw
theorem KH (l:List Rl) (L:List Tm) (k:Nat) (h:k<L.length):pI l k (L.drop k)=match iw l (tg L k) with|some x=>some (x.1,k::x.2.1,x.2.2)|none=>pI l (k+1) (L.drop (k+1)):=by
 have e1:L.drop k=tg L k::L.drop (k+1):=by
  rw[List.drop_eq_getElem_cons h];unfold tg;rw[List.getD_eq_getElem?_getD,List.getElem?_eq_getElem h];rfl
 rw[e1]
 conv=>lhs;unfold pI
theorem KI (l:List Rl) (t:Tm) (k:Nat) (h:k<l.length):qX k (l.drop k) t=match pG (rg l k) t with|some u=>some (k,u)|none=>qX (k+1) (l.drop (k+1)) t:=by
 have e1:l.drop k=rg l k::l.drop (k+1):=by
  rw[List.drop_eq_getElem_cons h];unfold rg;rw[List.getD_eq_getElem?_getD,List.getElem?_eq_getElem h];rfl
 rw[e1]
 conv=>lhs;unfold qX
theorem adH (l:List Rl) (t:Tm): ∀(m:List Rl) (k i:Nat) (u:Tm),m=l.drop k->k<=l.length->qX k m t=some (i,u)->i<l.length/\pG (rg l i) t=some u:=by
 intro m
 induction m with
 |nil=>intro k i u _ _ h;cases h
 |cons r m ih=>
  intro k i u hm hk h;have hlt:k<l.length:=by
   apply Nat.lt_of_not_le;intro e;rw[List.drop_eq_nil_of_le e] at hm;cases hm
  rw[hm,KI l t k hlt] at h;cases ha:pG (rg l k) t with
  |some y=>
   rw[ha] at h;injection h with h
   injection h with h1 h2
   subst h1;subst h2;exact⟨hlt,ha⟩
  |none=>
   rw[ha] at h;have hm2:m=l.drop (k+1):=by
    have:=congrArg List.tail hm;simpa using this
   rw[<-hm2] at h;exact ih (k+1) i u hm2 hlt h
theorem yh (l:List Rl): ∀(t:Tm) (i:Nat) (p:List Nat) (u:Tm),iw l t=some (i,p,u)->qM t p/\i<l.length/\pG (rg l i) (vV t p)=some u:=by
 refine Tm.ind (fun n s L ih=>?_);intro i p u h;rw[KG] at h;have key: ∀(N k:Nat),L.length-k<=N->k<=L.length->∀(i:Nat) (p:List Nat) (u:Tm),pI l k (L.drop k)=some (i,p,u)->∃j q,p=j::q/\j<L.length/\qM (tg L j) q/\i<l.length/\pG (rg l i) (vV (tg L j) q)=some u:=by
  intro N
  induction N with
  |zero=>
   intro k hN hk i p u h;rw[List.drop_eq_nil_of_le (by omega)] at h;unfold pI at h;cases h
  |succ N ihN=>
   intro k hN hk i p u h;by_cases hlt:k<L.length
   .rw [KH l L k hlt] at h;cases hf:iw l (tg L k) with
    |some x=>
     rw[hf] at h;injection h with h
     obtain⟨x1,x2,x3⟩:=x;injection h with h1 h2
     injection h2 with h2 h3
     subst h1;subst h3;have hmem:tg L k∈L:=by unfold tg;rw[List.getD_eq_getElem?_getD,List.getElem?_eq_getElem hlt];exact List.getElem_mem hlt
     obtain⟨g1,g2,g3⟩:=ih _ hmem _ _ _ hf;exact⟨k,x2,h2.symm,hlt,g1,g2,g3⟩
    |none=>
     rw[hf] at h;exact ihN (k+1) (by omega) hlt i p u h
   .rw [List.drop_eq_nil_of_le (by omega)] at h;unfold pI at h;cases h
 cases hl:pI l 0 L with
 |some x=>
  rw[hl] at h;injection h with h
  subst h;obtain⟨j,q,hp,hj,g1,g2,g3⟩:=key L.length 0 (by omega) (Nat.zero_le _) i p u (by simpa using hl);subst hp;exact⟨⟨hj,g1⟩,g2,g3⟩
 |none=>
  rw[hl] at h;cases hf:qX 0 l (.mk n s L) with
  |none=>rw[hf] at h;cases h
  |some x=>
   rw[hf] at h;injection h with h
   injection h with h1 h2
   injection h2 with h2 h3
   subst h1;subst h2;subst h3;obtain⟨g1,g2⟩:=adH l _ l 0 x.1 x.2 rfl (Nat.zero_le _) hf;exact⟨trivial,g1,g2⟩
theorem Nu: ∀(p:List Nat) (t:Tm),qM t p->∀y∈bC (vV t p),y∈bC t
 |[],t,_=>fun y hy=>hy
 |i::p,t,h=>fun y hy=>lq (Vt h.1) (Nu p _ h.2 y hy)
theorem Wl {x y:Tm}: ∀{t:Tm},x∈bC t->y∈bC x->y∈bC t:=by
 refine fun{t}=>Tm.ind (P:=fun t=>x∈bC t->y∈bC x->y∈bC t) (fun n s L ih=>?_) t;intro hx hy;rw[mg,List.mem_cons] at hx;rcases hx with e|hx
 .subst e;exact hy
 .obtain ⟨k,hk,hx⟩:=List.mem_flatMap.1 hx;exact lq hk (ih k hk hx hy)
end
section
open Go.Sort Go.Proofs Tm
theorem Ia: ∀a b:List UInt8,Go.Lib.compareBytes a b=if a<b then -1 else if b<a then 1 else 0
 |[],[]=>by simp[Go.Lib.compareBytes]
 |[],_::_=>by simp[Go.Lib.compareBytes]
 |_::_,[]=>by simp[Go.Lib.compareBytes]
 |a::al,b::bl=>by
  have ih:=Ia al bl;unfold Go.Lib.compareBytes;rw[ih];have e1:(a::al<b::bl)<->(a<b\/a=b/\al<bl):=List.cons_lt_cons_iff;have e2:(b::bl<a::al)<->(b<a\/b=a/\bl<al):=List.cons_lt_cons_iff;simp only[e1,e2];by_cases h1:a<b
  .rw [if_pos h1,if_pos (.inl h1)]
  .rw [if_neg h1];by_cases h2:b<a
   .rw [if_pos h2];have hne: ¬a=b:=fun e=>h1 (by rw[e] at h2⊢;exact h2);rw[if_neg (fun h=>h.elim h1 (fun h=>hne h.1)),if_pos (.inl h2)]
   .rw [if_neg h2];have he:a=b:=by
     rcases Nat.lt_trichotomy a.toNat b.toNat with h|h|h
     .exact absurd h h1
     .exact UInt8.toNat_inj.1 h
     .exact absurd h h2
    subst he;by_cases h3:al<bl
    .simp [h1,h3]
    .by_cases h4:bl<al
     .simp [h1,h3,h4]
     .simp [h1,h3,h4]
theorem TP (a b:By):Go.Lib.compareBytes a.data.toList b.data.toList=eu a b:=by
 rw[Ia];unfold eu blt;simp only[decide_eq_true_eq]
theorem adI (a b:By):decide (Go.Lib.compareBytes a.data.toList b.data.toList<0)=blt a b:=by
 rw[TP];unfold eu;cases h:blt a b with
 |true=>rfl
 |false=>
  rw[if_neg (by simp)];split<;>rfl
def AscK {β:Type} (key:β->By) (l:List β):Prop:=l.Pairwise fun p q=>blt (key p) (key q)=true
theorem Ih {β:Type} (key:β->By): ∀{l m:List β},AscK key l->AscK key m->(∀f,f∈l<->f∈m)->l=m
 |[],[],_,_,_=>rfl
 |[],y::m,_,_,h=>absurd ((h y).2 (List.mem_cons_self ..)) (by simp)
 |x::l,[],_,_,h=>absurd ((h x).1 (List.mem_cons_self ..)) (by simp)
 |x::l,y::m,hl,hm,h=>by
  obtain⟨l1,l2⟩:=List.pairwise_cons.1 hl;obtain⟨m1,m2⟩:=List.pairwise_cons.1 hm;have hxy:x=y:=by
   rcases List.mem_cons.1 ((h x).1 (List.mem_cons_self ..)) with e|e
   .exact e
   .rcases List.mem_cons.1 ((h y).2 (List.mem_cons_self ..)) with e2|e2
    .exact e2.symm
    .have h3:=oz (m1 x e) (l1 y e2);rw[iD] at h3;cases h3
  subst hxy
  congr 1
  refine Ih key l2 m2 (fun f=>⟨fun hf=>?_,fun hf=>?_⟩)
  .rcases List.mem_cons.1 ((h f).1 (List.mem_cons_of_mem _ hf)) with e|e
   .subst e;have:=l1 f hf;rw[iD] at this;cases this
   .exact e
  .rcases List.mem_cons.1 ((h f).2 (List.mem_cons_of_mem _ hf)) with e|e
   .subst e;have:=m1 f hf;rw[iD] at this;cases this
   .exact e
section
variable {β:Type} [Inhabited β] (key:β->By)
def Eu (x y:β):Int:=Go.Lib.compareBytes (key x).data.toList (key y).data.toList
omit [Inhabited β] in
theorem Df (x y:β):ltOf (Eu key) x y=blt (key x) (key y):=adI _ _
omit [Inhabited β] in
theorem SX:SWO (ltOf (Eu key)) where
 irrefl x:=by rw[Df,iD]
 trans x y z h1 h2:=by rw[Df] at*;exact oz h1 h2
 ntrans x y z h1 h2:=by
  rw[Df] at*;cases h:blt (key x) (key z) with
  |false=>rfl
  |true=>
   by_cases e:key x=key y
   .rw [e,h2] at h;cases h
   .rcases AL _ _ e with h3|h3
    .rw [h1] at h3;cases h3
    .have:=oz h3 h;rw[h2] at this;cases this
theorem OZ {d d':Array β} (hp:PermIn 0 d.size d d') (hs:SortedIn (ltOf (Eu key)) 0 d.size d') (hd:d.toList.Pairwise fun x y=>key x≠key y):AscK key d'.toList/\d'.toList.Perm d.toList:=by
 obtain⟨hsz,_,hperm⟩:=hp;have e1:d'.extract 0 d.size=d':=by rw[<-hsz];exact Array.extract_size
 rw[e1,Array.extract_size] at hperm;refine⟨?_,hperm⟩;have hd':d'.toList.Pairwise fun x y=>key x≠key y:=hperm.symm.pairwise hd (fun{x y} h e=>h e.symm);unfold AscK;rw[List.pairwise_iff_getElem] at hd'⊢;intro i j hi hj hij;have h1:=hd' i j hi hj hij;have hi':i<d'.size:=by simpa using hi
 have hj':j<d'.size:=by simpa using hj
 have h2:=hs i j (Nat.zero_le _) hij (by omega);rw[Df,getElem!_pos d' j hj',getElem!_pos d' i hi'] at h2;rw[Array.getElem_toList,Array.getElem_toList] at h1⊢;rcases AL _ _ h1 with h3|h3
 .exact h3
 .rw [h2] at h3;cases h3
theorem flat_get (enc:β->List Value) (k:Nat) (hk: ∀x,(enc x).length=k): ∀(L:List β) (j:Nat),j<L.length*k->(L.flatMap enc)[j]?=some ((enc (L.getD (j / k) default))[j % k]!)
 |[],j,h=>by simp at h
 |a::L,j,h=>by
  have hk0:0<k:=by
   rcases Nat.eq_zero_or_pos k with h0|h0
   .rw [h0] at h;simp at h
   .exact h0
  rw[List.flatMap_cons];rcases Nat.lt_or_ge j k with hlt|hge
  .rw [List.getElem?_append_left (by rw[hk];exact hlt),Nat.div_eq_of_lt hlt,Nat.mod_eq_of_lt hlt];have hl:j< (enc a).length:=by rw[hk];exact hlt
   rw[List.getElem?_eq_getElem hl];show _=some ((enc a)[j]!);rw[getElem!_pos (enc a) j hl]
  .rw [List.getElem?_append_right (by rw[hk];exact hge),hk];have h1:j-k<L.length*k:=by
    simp only[List.length_cons,Nat.add_mul,Nat.one_mul] at h;omega
   rw[flat_get enc k hk L (j-k) h1];have e1:j / k=(j-k) / k+1:=by
    rw[Nat.div_eq j k,if_pos ⟨hk0,hge⟩]
   have e2:j % k=(j-k) % k:=by rw[Nat.mod_eq j k,if_pos ⟨hk0,hge⟩]
   rw[e1,e2];rfl
theorem Me (enc:β->List Value) (k:Nat) (hk: ∀x,(enc x).length=k) {w:World} {b off:Nat} {L:List β} (h: ∀j,j<L.length*k->w.cell? ⟨b,off+j,none⟩=(L.flatMap enc)[j]?/\w.frozen? ⟨b,off+j,none⟩=false):HoldsK enc k w b off L.toArray:=by
 intro j hj;have hj2:j<L.length*k:=by simpa using hj
 obtain⟨h1,h2⟩:=h j hj2;refine⟨?_,h2⟩;rw[h1,flat_get enc k hk L j hj2,get_flatK _ _ _ _ (by simpa using hj2)]
 congr 1
 have hk0:0<k:=by
  rcases Nat.eq_zero_or_pos k with h0|h0
  .rw [h0] at hj2;simp at hj2
  .exact h0
 have hq:j / k<L.length:=Nat.div_lt_of_lt_mul (by rw[Nat.mul_comm];exact hj2);show _=(enc (L.toArray[j / k]!))[j % k]!;rw[getElem!_pos L.toArray (j / k) (by simpa using hq)];rw[List.getD_eq_getElem?_getD,List.getElem?_eq_getElem hq];rfl
theorem Ew (enc:β->List Value) (k:Nat) (hk: ∀x,(enc x).length=k) {w:World} {b off:Nat} {d:Array β} (h:HoldsK enc k w b off d) (j:Nat) (hj:j<d.size*k):w.cell? ⟨b,off+j,none⟩=(d.toList.flatMap enc)[j]?/\w.frozen? ⟨b,off+j,none⟩=false:=by
 obtain⟨h1,h2⟩:=h j (by simpa using hj);refine⟨?_,h2⟩;rw[flat_get enc k hk d.toList j (by simpa using hj)];rw[h1,get_flatK _ _ _ _ hj];have hk0:0<k:=by
  rcases Nat.eq_zero_or_pos k with h0|h0
  .rw [h0] at hj;simp at hj
  .exact h0
 have hq:j / k<d.size:=Nat.div_lt_of_lt_mul (by rw[Nat.mul_comm];exact hj);show some (enc d[j / k]!)[j % k]! =_;rw[getElem!_pos d (j / k) hq,List.getD_eq_getElem?_getD,List.getElem?_eq_getElem (by simpa using hq)];rfl
theorem MB (enc:β->List Value) (k:Nat) (w:World) (blk off n:Nat) (d:Array β) (os:Array Obj):aC (fun j=>j=blk) w (sortWorldK enc k w blk off n d os):=by
 unfold sortWorldK;refine⟨rfl,rfl,rfl,?_,fun j hj hf=>?_⟩
 .show w.heap.size<=((putRowK enc k (Sort.ahead w n) blk off d).heap++os).size;rw[Array.size_append,size_putRowK];exact Nat.le_add_right _ _
 .show ((putRowK enc k (Sort.ahead w n) blk off d).heap++os)[j]?=_;rw[Array.getElem?_append_left (by rw[size_putRowK];exact hj)];show((Sort.ahead w n).heap.modify blk _)[j]?=_;rw[Array.getElem?_modify,if_neg (fun e=>hf e.symm)];rfl
end
end
section
open Tm
structure Nr where
 nm:By
 so:By
 ks:List Nat
structure Cl where
 up:Option Nat
 nm:By
 so:By
 mx:Bool
 tm:Option Nat
 ma:Nat
 sz:Nat
 dp:Nat
structure St where
 vs:List (By×Nat)
 ns:List (Nat×Nat)
 cs:List Cl
def rQ {κ:Type} [DecidableEq κ] (l:List (κ×Nat)) (k:κ):Option Nat:=(l.find? fun e=>decide (e.1=k)).map (·.2)
def kD (cs:List Cl):Nat->Nat->Option Nat
 |0,_=>none
 |f+1,c=>match cs[c]? with
  |none=>none
  |some x=>match x.up with
   |none=>some c
   |some d=>kD cs f d
def sH (F:Nat) (st:St) (nm so:By):Option (St×Nat):=match rQ st.vs nm with
 |some c=>(kD st.cs F c).map fun r=>(st,r)
 |none=>(kD (st.cs++[⟨none,nm,so,false,none,0,0,0⟩]) F st.cs.length).map fun r=>({st with vs:=st.vs++[(nm,st.cs.length)],cs:=st.cs++[⟨none,nm,so,false,none,0,0,0⟩]},r)
def TJ (F:Nat) (st:St) (i:Nat):Option (St×Nat):=match rQ st.ns i with
 |some c=>(kD st.cs F c).map fun r=>(st,r)
 |none=>(kD (st.cs++[⟨none,au,au,false,some i,0,0,0⟩]) F st.cs.length).map fun r=>({st with ns:=st.ns++[(i,st.cs.length)],cs:=st.cs++[⟨none,au,au,false,some i,0,0,0⟩]},r)
def jQ (T:List Nr) (F:Nat) (st:St) (i:Nat):Option (St×Nat):=match T[i]? with
 |none=>none
 |some r=>if r.so=au then TJ F st i else sH F st r.nm r.so
def b_ (A B:Cl):Cl:=
 {A with
  mx:=A.mx||B.mx||(decide (A.so≠au)&&decide (B.so≠au)&&decide (A.so≠B.so))
  nm:=if A.nm=au\/(B.nm≠au/\blt B.nm A.nm=true) then B.nm else A.nm
  so:=if A.nm=au\/(B.nm≠au/\blt B.nm A.nm=true) then B.so else A.so
  tm:=match A.tm with|none=>B.tm|some x=>some x}
def TY (un:St->Nat->Nat->Option (St×Bool)):St->List Nat->List Nat->Option (St×Bool)
 |st,x::xs,y::ys=>match un st x y with
  |none=>none
  |some (st1,false)=>some (st1,false)
  |some (st1,true)=>TY un st1 xs ys
 |st,_,_=>some (st,true)
def MN (T:List Nr):Nat->St->Nat->Nat->Option (St×Bool)
 |0,_,_,_=>none
 |F+1,st,s,t=>match jQ T F st s with
  |none=>none
  |some (st1,a)=>match jQ T F st1 t with
   |none=>none
   |some (st2,b)=>if a=b then some (st2,true) else
    match st2.cs[a]?,st2.cs[b]? with
    |some A,some B=>
     let gK:St:={st2 with cs:=(st2.cs.set b {B with up:=some a}).set a (b_ A B)}
     match A.tm,B.tm with
     |some x,some y=>match T[x]?,T[y]? with
      |some X,some Y=>if X.nm≠Y.nm\/X.ks.length≠Y.ks.length then some (gK,false) else TY (MN T F) gK X.ks Y.ks
      |_,_=>none
     |_,_=>some (gK,true)
    |_,_=>none
def dZ (st:St) (c:Nat) (x:Cl):St:={st with cs:=st.cs.set c x}
end
section
abbrev jG (p:Nat×Nat):Value:= .pointer (some ⟨p.1,p.2,none⟩)
def Plain (w:World) (b:Nat):Prop:= ∃cs t,w.heap[b]?=some (.cells cs t (0,0))
theorem Plain.ext {w w':World} {b:Nat} (h:Plain w b) (hu:Ext w w'):Plain w' b:=by
 obtain⟨cs,t,h⟩:=h;exact⟨cs,t,hu.heap h (fun h=>h)⟩
section
variable {P:Program} {kt et elem:TypeId} {ie:TypeInfo}
theorem Xo (hk:P.underlying kt=some (.pointer elem)) (hi:P.info? elem=some ie) (hs:ie.size≠0) (d:Nat) (a b:Nat×Nat) (w:World) (ha:Plain w a.1) (hb:Plain w b.1):(Op.equalIn (d+1) kt (jG a) (jG b)).run P w= .ok (decide (a=b)) w:=by
 by_cases hab:a=b
 .subst hab;rw[dT rfl];simp[Op.equalIn,run_underlying hk,sizeOf,typeInfo,hi,hs,run_sameAddr_same]
 .obtain ⟨ca,ta,ha⟩:=ha;obtain⟨cb,tb,hb⟩:=hb;have h1:=run_sameAddr_other (P:=P) (w:=w) (a:=⟨a.1,a.2,none⟩) (b:=⟨b.1,b.2,none⟩) (fun e=>hab (by injection e with e1 e2;exact Prod.ext e1 e2)) ha hb;rw[dF hab];simp[Op.equalIn,run_underlying hk,sizeOf,typeInfo,hi,hs,h1]
theorem acZ (hk:P.underlying kt=some (.pointer elem)) (hi:P.info? elem=some ie) (hs:ie.size≠0) (a b:Nat×Nat) (w:World) (ha:Plain w a.1) (hb:Plain w b.1):(binOp .eql kt (jG a) (jG b)).run P w= .ok (.bool (decide (a=b))) w:=by
 have h:(Op.equal kt (jG a) (jG b)).run P w= .ok (decide (a=b)) w:=Xo hk hi hs 9999 a b w ha hb;simp only[binOp,Sem.run_bind,h,Result.andThen_ok,Sem.run_pure]
theorem MJ (hk:P.underlying kt=some (.pointer elem)) (em:Bool) (a:Nat×Nat) (w:World):(Instr.checkKey em 10000 kt (jG a)).run P w= .ok () w:=by
 show(Instr.checkKey em (9999+1) kt (jG a)).run P w= .ok () w;rw[Instr.checkKey];simp only[Sem.run_bind,run_underlying hk,Result.andThen_ok,Sem.run_pure]
theorem Pn (hk:P.underlying kt=some (.pointer elem)) (hi:P.info? elem=some ie) (hs:ie.size≠0) (x:Nat×Nat) (w:World) (hx:Plain w x.1) (es:List MapEntry) (l:List ((Nat×Nat)×Value)) (hl: ∀p∈l,Plain w p.1.1) (h:es.map (fun e=>(e.key,e.val))=l.map (fun p=>(jG p.1,p.2))):
  (Instr.findKey kt (jG x) es).run P w= .ok ((l.findIdx? fun p=>decide (p.1=x)).map fun i=>(i,((l[i]?).map (·.2)).getD (.bool false))) w:=by
 have hask: ∀(es:List MapEntry) (l:List ((Nat×Nat)×Value)) (i:Nat),(∀p∈l,Plain w p.1.1)->es.map (fun e=>(e.key,e.val))=l.map (fun p=>(jG p.1,p.2))->
   (Instr.findAsking kt (jG x) es i).run P w= .ok ((l.findIdx? fun p=>decide (p.1=x)).map fun j=>(i+j,((l[j]?).map (·.2)).getD (.bool false))) w:=by
  intro es
  induction es with
  |nil=>
   intro l i _ h;have:l=[]:=by cases l;rfl;simp at h
   subst this;rfl
  |cons e es ih=>
   intro l i hl h;cases l with
   |nil=>simp at h
   |cons p l=>
    simp only[List.map_cons,List.cons.injEq,Prod.mk.injEq] at h;obtain⟨⟨h1,h2⟩,h3⟩:=h;have hq:(Op.equal kt (jG x) (jG p.1)).run P w= .ok (decide (x=p.1)) w:=Xo hk hi hs 9999 x p.1 w hx (hl p (List.mem_cons_self ..));unfold Instr.findAsking;rw[h1,List.findIdx?_cons];simp only[Sem.run_bind,hq,Result.andThen_ok];by_cases he:p.1=x
    .rw [dT he,dT he.symm];simp[h2]
    .rw [dF he,dF (fun e=>he e.symm)];have h4:=ih l (i+1) (fun q hq=>hl q (List.mem_cons_of_mem _ hq)) h3;simp only[Bool.false_eq_true,if_false,h4];cases(l.findIdx? fun p=>decide (p.1=x)) with
     |none=>rfl
     |some j=>simp;omega
 have h2:=hask es l 0 hl h;have h3:(Instr.findKey kt (jG x) es).run P w=(Instr.findAsking kt (jG x) es).run P w:=by
  cases es with
  |nil=>simp[Instr.findKey,run_underlying hk,Instr.findNow,Instr.findAsking]
  |cons e es=>simp[Instr.findKey,run_underlying hk,Instr.findNow,Instr.sameNow]
 rw[h3,h2];simp
theorem eF.ak1 (hk:P.underlying kt=some (.pointer elem)) (hi:P.info? elem=some ie) (hs:ie.size≠0) {t:TypeId} (ht:P.underlying t=some (.map kt et)) {w:World} {b:Nat} {l:List ((Nat×Nat)×Value)} {z:Value} (hz:(zeroValue et).run P w= .ok z w) (h:eF jG w b l) (k:Nat×Nat) (hx:Plain w k.1) (hl: ∀p∈l,Plain w p.1.1) (c:Bool):
  (Instr.lookup t (.map (some b)) (jG k) c).run P w= .ok (if c then .tuple #[(jU l k).getD z,.bool (jU l k).isSome] else(jU l k).getD z) w:=by
 obtain⟨es,cl,h1,h2,_⟩:=h;have hf:=Pn hk hi hs k w hx es.toList l hl h2;have hc:=MJ hk es.isEmpty k w;rw[<-Ik];generalize hx:(l.findIdx? fun p=>decide (p.1=k))=x at*;cases x with
 |none=>cases c<;>simp[Instr.lookup,run_underlying ht,MapKept.run_getObj_map h1,hc,hf,hz,Result.andThen]
 |some i=>cases c<;>simp[Instr.lookup,run_underlying ht,MapKept.run_getObj_map h1,hc,hf,hz,Result.andThen]
theorem eF.newP (hk:P.underlying kt=some (.pointer elem)) (hi:P.info? elem=some ie) (hs:ie.size≠0) {t:TypeId} (ht:P.underlying t=some (.map kt et)) {w:World} {b:Nat} {l:List ((Nat×Nat)×Value)} (h:eF jG w b l) (k:Nat×Nat) (v:Value) (hx:Plain w k.1) (hl: ∀p∈l,Plain w p.1.1) (hn:jU l k=none):
  ∃w',(Instr.mapUpdate t (.map (some b)) (jG k) v).run P w= .ok () w'/\eF jG w' b (l++[(k,v)])/\aC (fun j=>j=b) w w':=by
 obtain⟨es,cl,h1,h2,h3,h4⟩:=h;have hf:=Pn hk hi hs k w hx es.toList l hl h2;have hc:=MJ hk false k w;have hblt:=(Array.getElem?_eq_some_iff.1 h1).1;have KO: ∀o,aC (fun j=>j=b) w {w with heap:=w.heap.setIfInBounds b o}:=fun o=>
  ⟨rfl,rfl,rfl,by simp,fun i hi hF=>by simp[Ne.symm (show i≠b from hF)]⟩
 rw[<-Ik] at hn;generalize hx:(l.findIdx? fun p=>decide (p.1=k))=x at*;cases x with
 |none=>
  refine⟨_,by simp[Instr.mapUpdate,run_underlying ht,MapKept.run_getObj_map h1,hc,hf,MapKept.run_setObj_map _ h1,Result.andThen];rfl,⟨es.push {key:=jG k,val:=v,born:=cl},cl+1,by simp[hblt],?_,?_,?_⟩,KO _⟩
  .simp [h2]
  .simp only [Array.toList_push];rw[List.pairwise_append];refine⟨h3,by simp,fun x hx y hy=>?_⟩;rw[List.mem_singleton] at hy;subst hy;exact h4 x hx
  .intro e he;simp only[Array.toList_push,List.mem_append,List.mem_singleton] at he;rcases he with he|he
   .have:=h4 e he;omega
   .subst he;simp
 |some i=>cases hn
end
end
section
open Tm
abbrev gX (b:Nat):Value:= .pointer (some ⟨b,0,none⟩)
def pV:Option (Nat×Nat)->Value
 |none=> .pointer none
 |some p=>jG p
def blk (bk:List Nat) (c:Nat):Nat:=bk.getD c 0
theorem BF {bk:List Nat} {c:Nat} (h:c<bk.length):bk.getD c 0=bk[c]:=by
 rw[List.getD_eq_getElem?_getD,List.getElem?_eq_getElem h];rfl
def dV (ad:Nat->Nat×Nat) (bk:List Nat) (x:Cl):Array Value:=
 #[pV (x.up.map fun c=>(blk bk c,0)),.string x.nm,.string x.so,.bool x.mx,pV (x.tm.map ad),.int .i64 (x.ma:Int),.int .i64 (x.sz:Int),.int .i64 (x.dp:Int)]
structure EM (T:List Nr) (ad:Nat->Nat×Nat) (S:Nat->Prop) (w:World):Prop where
 inj: ∀i j,i<T.length->j<T.length->ad i=ad j->i=j
 low: ∀i,i<T.length->Plain w (ad i).1/\S (ad i).1
 row: ∀i r,T[i]?=some r->w.cell? ⟨(ad i).1,(ad i).2,none⟩=some (.string r.nm)/\w.cell? ⟨(ad i).1,(ad i).2+1,none⟩=some (.string r.so)/\
  ∃a cap,w.cell? ⟨(ad i).1,(ad i).2+2,none⟩=some (.slice a r.ks.length cap)/\(0<r.ks.length->∃g off,a=some ⟨g,off,none⟩/\∀j k,r.ks[j]?=some k->k<T.length/\ad k=(g,off+j*3))
theorem EM.kept {T:List Nr} {ad:Nat->Nat×Nat} {S F:Nat->Prop} {w w':World} (h:EM T ad S w) (hu:aC F w w') (hF: ∀k,S k->¬F k):EM T ad S w':=by
 refine⟨h.inj,fun i hi=>?_,fun i r hr=>?_⟩
 .obtain ⟨⟨cs,t,h1⟩,h2⟩:=h.low i hi;exact⟨⟨cs,t,hu.heap h1 (hF _ h2)⟩,h2⟩
 .obtain ⟨h1,h2,a,cap,h3,h4⟩:=h.row i r hr;have hs:=hF _ (h.low i (List.getElem?_eq_some_iff.1 hr).1).2;exact⟨hu.cell h1 hs,hu.cell h2 hs,a,cap,hu.cell h3 hs,h4⟩
def Fb (bv bn:Nat) (bk:List Nat) (k:Nat):Prop:=k=bv\/k=bn\/k∈bk
structure nU (N:Nat) (ad:Nat->Nat×Nat) (CT:TypeId) (bv bn:Nat) (bk:List Nat) (st:St) (w:World):Prop where
 vs:eF (fun s:ByteArray=>Value.string s) w bv (st.vs.map fun e=>(e.1,gX (blk bk e.2)))
 ns:eF jG w bn (st.ns.map fun e=>(ad e.1,gX (blk bk e.2)))
 len:bk.length=st.cs.length
 nd:(bv::bn::bk).Nodup
 row: ∀c x,st.cs[c]?=some x->w.heap[blk bk c]?=some (.cells (dV ad bk x) CT (0,0))
 UG: ∀e∈st.vs,e.2<st.cs.length
 Hf: ∀e∈st.ns,e.2<st.cs.length/\e.1<N
 vO: ∀x∈st.cs,(∀d,x.up=some d->d<st.cs.length)/\(∀i,x.tm=some i->i<N)
section
variable {N:Nat} {ad:Nat->Nat×Nat} {CT:TypeId} {bv bn:Nat} {bk:List Nat} {st:St} {w w':World}
theorem nU.ext {F:Nat->Prop} (h:nU N ad CT bv bn bk st w) (hu:aC F w w') (hF: ∀k,Fb bv bn bk k->¬F k):nU N ad CT bv bn bk st w':=
 ⟨h.vs.kept hu (hF _ (.inl rfl)),h.ns.kept hu (hF _ (.inr (.inl rfl))),h.len,h.nd,fun c x e=>hu.heap (h.row c x e) (hF _ (.inr (.inr (by
  have hc:=(List.getElem?_eq_some_iff.1 e).1;rw[<-h.len] at hc;show bk.getD c 0∈bk;rw[BF hc];exact List.getElem_mem hc)))),h.UG,h.Hf,h.vO⟩
theorem Ls {c:Nat} (h:c<bk.length):blk bk c∈bk:=by
 show bk.getD c 0∈bk;rw[BF h];exact List.getElem_mem h
theorem TU (h:bk.Nodup) {c d:Nat} (hc:c<bk.length) (hd:d<bk.length) (e:blk bk c=blk bk d):c=d:=by
 have e':bk.getD c 0=bk.getD d 0:=e;rw[BF hc,BF hd] at e';rcases Nat.lt_trichotomy c d with hlt|heq|hlt
 .exact absurd e' ((List.pairwise_iff_getElem.1 h) c d hc hd hlt)
 .exact heq
 .exact absurd e'.symm ((List.pairwise_iff_getElem.1 h) d c hd hc hlt)
theorem IK (b:Nat) {c:Nat} (h:c<bk.length):blk (bk++[b]) c=blk bk c:=by
 show(bk++[b]).getD c 0=bk.getD c 0;rw[List.getD_eq_getElem?_getD,List.getD_eq_getElem?_getD,List.getElem?_append_left h]
theorem BX (b:Nat):blk (bk++[b]) bk.length=b:=by
 show(bk++[b]).getD bk.length 0=b;rw[List.getD_eq_getElem?_getD,List.getElem?_append_right (Nat.le_refl _),Nat.sub_self];rfl
theorem nU.put (h:nU N ad CT bv bn bk st w) {c:Nat} (hc:c<st.cs.length) (x:Cl) (hx:(∀d,x.up=some d->d<st.cs.length)/\(∀i,x.tm=some i->i<N)) (hu:aC (fun k=>k=blk bk c) w w')
  (hrow:w'.heap[blk bk c]?=some (.cells (dV ad bk x) CT (0,0))):nU N ad CT bv bn bk (dZ st c x) w':=by
 have hcb:c<bk.length:=by rw[h.len];exact hc
 have hm:=Ls hcb;have hn:=h.nd;rw[List.nodup_cons,List.nodup_cons] at hn;have hl:(dZ st c x).cs.length=st.cs.length:=by show(st.cs.set c x).length=_;rw[List.length_set]
 refine⟨h.vs.kept hu (fun e=>hn.1 (by rw[e];exact List.mem_cons_of_mem _ hm)),h.ns.kept hu (fun e=>hn.2.1 (by rw[e];exact hm)),by rw[hl];exact h.len,h.nd,fun d y hy=>?_,fun e he=>by rw[hl];exact h.UG e he,fun e he=>by rw[hl];exact h.Hf e he,fun y hy=>?_⟩
 .have hy':(st.cs.set c x)[d]?=some y:=hy;rw[List.getElem?_set] at hy';by_cases e:c=d
  .subst e;rw[if_pos rfl,if_pos hc] at hy';injection hy' with hy'
   rw[<-hy'];exact hrow
  .rw [if_neg e] at hy';have hd:d<bk.length:=by rw[h.len];exact(List.getElem?_eq_some_iff.1 hy').1
   exact hu.heap (h.row d y hy') (fun e2=>e (TU hn.2.2 hd hcb e2).symm)
 .rw [hl];rcases List.mem_or_eq_of_mem_set (show y∈st.cs.set c x from hy) with hy|hy
  .exact h.vO y hy
  .rw [hy];exact hx
theorem RG (h:nU N ad CT bv bn bk st w) (b:Nat) {x:Cl} (hx:x∈st.cs):dV ad (bk++[b]) x=dV ad bk x:=by
 unfold dV;cases hu:x.up with
 |none=>rfl
 |some d=>
  have:=(h.vO x hx).1 d hu;rw[Option.map_some,Option.map_some,IK b (by rw[h.len];exact this)]
theorem nU.made (h:nU N ad CT bv bn bk st w) {b:Nat} {st':St} (x:Cl) (hx:x.up=none/\∀i,x.tm=some i->i<N) (hb:b∉(bv::bn::bk)) (hcs:st'.cs=st.cs++[x])
  (hvs:eF (fun s:ByteArray=>Value.string s) w' bv (st'.vs.map fun e=>(e.1,gX (blk (bk++[b]) e.2)))) (hns:eF jG w' bn (st'.ns.map fun e=>(ad e.1,gX (blk (bk++[b]) e.2))))
  (hvl: ∀e∈st'.vs,e.2<st'.cs.length) (hnl: ∀e∈st'.ns,e.2<st'.cs.length/\e.1<N)
  (hrow:w'.heap[b]?=some (.cells (dV ad (bk++[b]) x) CT (0,0))) (hkeep: ∀k∈bk,∀o,w.heap[k]?=some o->w'.heap[k]?=some o):nU N ad CT bv bn (bk++[b]) st' w':=by
 have hn:=h.nd;refine⟨hvs,hns,by rw[hcs,List.length_append,List.length_append,h.len];rfl,?_,fun c y hy=>?_,hvl,hnl,fun y hy=>?_⟩
 .have:(bv::bn::bk)++[b]=bv::bn::(bk++[b]):=rfl;rw[<-this,List.nodup_append];refine⟨hn,by simp,fun x hx y hy=>?_⟩;rw[List.mem_singleton] at hy;rw[hy];intro e;exact hb (by rw[<-e];exact hx)
 .rw [hcs] at hy;by_cases hc:c<st.cs.length
  .rw [List.getElem?_append_left hc] at hy;have hcb:c<bk.length:=by rw[h.len];exact hc
   rw[IK b hcb,RG h b (List.mem_of_getElem? hy)];exact hkeep _ (Ls hcb) _ (h.row c y hy)
  .rw [List.getElem?_append_right (Nat.le_of_not_lt hc)] at hy;have h0:c-st.cs.length=0:=by
    have:=(List.getElem?_eq_some_iff.1 hy).1;simp at this;omega
   rw[h0] at hy;injection hy with hy
   have hce:c=bk.length:=by rw[h.len];omega
   rw[hce,BX,<-hy];exact hrow
 .rw [hcs] at hy⊢;rw[List.length_append];rcases List.mem_append.1 hy with hy|hy
  .have:=h.vO y hy;exact⟨fun d e=>aF (this.1 d e) (Nat.le_add_right _ _),this.2⟩
  .rw [List.mem_singleton] at hy;rw[hy];exact⟨fun d e=>absurd (hx.1.symm.trans e) (by simp),hx.2⟩
theorem EW {κ κ':Type} [DecidableEq κ] [DecidableEq κ'] (f:κ->κ') (g:Nat->Value) (l:List (κ×Nat)) (k:κ) (hf: ∀e∈l,f e.1=f k->e.1=k):jU (l.map fun e=>(f e.1,g e.2)) (f k)=(rQ l k).map g:=by
 unfold rQ
 induction l with
 |nil=>rfl
 |cons e l ih=>
  rw[List.map_cons,kP,List.find?_cons];by_cases h:e.1=k
  .rw [h,if_pos rfl,dT rfl];rfl
  .rw [if_neg (fun e2=>h (hf e (List.mem_cons_self ..) e2)),dF h];exact ih (fun e he=>hf e (List.mem_cons_of_mem _ he))
theorem nU.lt (h:nU N ad CT bv bn bk st w) (k:Nat) (hk:Fb bv bn bk k):k<w.heap.size:=by
 rcases hk with hk|hk|hk
 .rw [hk];exact h.vs.lt
 .rw [hk];exact h.ns.lt
 .obtain ⟨c,hc,e⟩:=List.getElem_of_mem hk;have hc':c<st.cs.length:=by rw[<-h.len];exact hc
  have h1:=h.row c _ (List.getElem?_eq_getElem hc');have h2:=(Array.getElem?_eq_some_iff.1 h1).1;have h3:blk bk c=k:=by show bk.getD c 0=k;rw[BF hc,e]
  rw[h3] at h2;exact h2
theorem YP {κ:Type} [DecidableEq κ] {l:List (κ×Value)} {k:κ} (h:jU l k=none) (v:Value):pF l k v=l++[(k,v)]:=by
 induction l with
 |nil=>rfl
 |cons p l ih=>
  rw[kP] at h;by_cases e:p.1=k
  .rw [if_pos e] at h;cases h
  .rw [if_neg e] at h;unfold pF;rw[if_neg e,ih h];rfl
theorem IL {κ κ':Type} (f:κ->κ') (b:Nat) (l:List (κ×Nat)) (h: ∀e∈l,e.2<bk.length):(l.map fun e=>(f e.1,gX (blk (bk++[b]) e.2)))=l.map fun e=>(f e.1,gX (blk bk e.2)):=
 List.map_congr_left fun e he=>by rw[IK b (h e he)]
theorem RH {κ κ':Type} (f:κ->κ') (b:Nat) (l:List (κ×Nat)) (k:κ) (h: ∀e∈l,e.2<bk.length):((l++[(k,bk.length)]).map fun e=>(f e.1,gX (blk (bk++[b]) e.2)))=(l.map fun e=>(f e.1,gX (blk bk e.2)))++[(f k,gX b)]:=by
 rw[List.map_append,IL f b l h];show _++[(f k,gX (blk (bk++[b]) bk.length))]=_;rw[BX]
theorem YQ {b:Nat} (h: ¬Fb bv bn bk b):b∉(bv::bn::bk):=fun hm=>h (by
 rcases List.mem_cons.1 hm with e|hm
 .exact .inl e
 .rcases List.mem_cons.1 hm with e|hm
  .exact .inr (.inl e)
  .exact .inr (.inr hm))
theorem nU.vn (h:nU N ad CT bv bn bk st w):bv≠bn/\bv∉bk/\bn∉bk:=by
 have h1:=h.nd;rw[List.nodup_cons,List.nodup_cons,List.mem_cons,not_or] at h1;exact⟨h1.1.1,h1.1.2,h1.2.1⟩
theorem nU.alf (h:nU N ad CT bv bn bk st w) {nm so:By} {b:Nat} (hf:rQ st.vs nm=none) (hb: ¬Fb bv bn bk b) (hrow:w.heap[b]?=some (.cells (dV ad bk ⟨none,nm,so,false,none,0,0,0⟩) CT (0,0)))
  (hmp:eF (fun s:ByteArray=>Value.string s) w' bv (pF (st.vs.map fun e=>(e.1,gX (blk bk e.2))) nm (gX b))) (hu:aC (fun j=>j=bv) w w'):nU N ad CT bv bn (bk++[b]) {st with vs:=st.vs++[(nm,st.cs.length)],cs:=st.cs++[⟨none,nm,so,false,none,0,0,0⟩]} w':=by
 have hvn:=h.vn;have hvl: ∀e∈st.vs,e.2<bk.length:=fun e he=>by rw[h.len];exact h.UG e he
 have hnl: ∀e∈st.ns,e.2<bk.length:=fun e he=>by rw[h.len];exact(h.Hf e he).1
 refine h.made ⟨none,nm,so,false,none,0,0,0⟩ ⟨rfl,fun i e=>by cases e⟩ (YQ hb) rfl ?_ ?_ ?_ ?_ ?_ ?_
 .show eF _ w' bv ((st.vs++[(nm,st.cs.length)]).map fun e=>(e.1,gX (blk (bk++[b]) e.2)));rw[<-h.len,RH (fun s:By=>s) b st.vs nm hvl,<-YP (by
   have:=EW (fun s:By=>s) (fun c=>gX (blk bk c)) st.vs nm (fun e _ h=>h);rw[this,hf];rfl)]
  exact hmp
 .show eF _ w' bn (st.ns.map fun e=>(ad e.1,gX (blk (bk++[b]) e.2)));rw[IL ad b st.ns hnl];exact h.ns.kept hu (fun e=>hvn.1 e.symm)
 .intro e he;show e.2< (st.cs++[_]).length;rw[List.length_append,List.length_singleton];rcases List.mem_append.1 he with he|he
  .exact aF (h.UG e he) (Nat.le_add_right _ _)
  .rw [List.mem_singleton] at he;rw[he];exact Nat.lt_succ_self _
 .intro e he;show e.2< (st.cs++[_]).length/\_;rw[List.length_append,List.length_singleton];exact⟨aF (h.Hf e he).1 (Nat.le_add_right _ _),(h.Hf e he).2⟩
 .exact hu.heap hrow (fun e=>hb (.inl e))
 .intro k hk o ho;exact hu.heap ho (fun e=>hvn.2.1 (by rw[<-e];exact hk))
theorem nU.alj (h:nU N ad CT bv bn bk st w) {i b:Nat} (hi:i<N) (hb: ¬Fb bv bn bk b) (hrow:w.heap[b]?=some (.cells (dV ad bk ⟨none,au,au,false,some i,0,0,0⟩) CT (0,0)))
  (hmp:eF jG w' bn ((st.ns.map fun e=>(ad e.1,gX (blk bk e.2)))++[(ad i,gX b)])) (hu:aC (fun j=>j=bn) w w'):nU N ad CT bv bn (bk++[b]) {st with ns:=st.ns++[(i,st.cs.length)],cs:=st.cs++[⟨none,au,au,false,some i,0,0,0⟩]} w':=by
 have hvn:=h.vn;have hvl: ∀e∈st.vs,e.2<bk.length:=fun e he=>by rw[h.len];exact h.UG e he
 have hnl: ∀e∈st.ns,e.2<bk.length:=fun e he=>by rw[h.len];exact(h.Hf e he).1
 refine h.made ⟨none,au,au,false,some i,0,0,0⟩ ⟨rfl,fun j e=>by injection e with e;rw[<-e];exact hi⟩ (YQ hb) rfl ?_ ?_ ?_ ?_ ?_ ?_
 .show eF _ w' bv (st.vs.map fun e=>(e.1,gX (blk (bk++[b]) e.2)));rw[IL (fun s:By=>s) b st.vs hvl];exact h.vs.kept hu hvn.1
 .show eF _ w' bn ((st.ns++[(i,st.cs.length)]).map fun e=>(ad e.1,gX (blk (bk++[b]) e.2)));rw[<-h.len,RH ad b st.ns i hnl];exact hmp
 .intro e he;show e.2< (st.cs++[_]).length;rw[List.length_append,List.length_singleton];exact aF (h.UG e he) (Nat.le_add_right _ _)
 .intro e he;show e.2< (st.cs++[_]).length/\_;rw[List.length_append,List.length_singleton];rcases List.mem_append.1 he with he|he
  .exact ⟨aF (h.Hf e he).1 (Nat.le_add_right _ _),(h.Hf e he).2⟩
  .rw [List.mem_singleton] at he;rw[he];exact⟨Nat.lt_succ_self _,hi⟩
 .exact hu.heap hrow (fun e=>hb (.inr (.inl e)))
 .intro k hk o ho;exact hu.heap ho (fun e=>hvn.2.2 (by rw[<-e];exact hk))
end
end
end Go.Hw
