/- The texts TA TL TO TN PP TX TU UA UB UC UD UE VB UF BN RX, one behind the other. -/
import Derived.Test.YtlkcjmaiahnodaaGreatDoorYAB
import Derived.Lib.ItoaNum
import Derived.Shelf.SlSortCmp.NoneTotal
import Derived.Lib.Bytealg
set_option linter.unusedVariables false
set_option linter.unusedSimpArgs false
namespace Go.Hw
open Go.RowKit
section
section
variable {P:Program} (w:World)
theorem oC {o:Oper} {a:Act} {K:Act->World->Prop} {Q:Exit->Act->World->Prop} (s x:Operand) (t:TypeId)
  (ho:o.op= .call {callee:= .builtin .append,args:= #[s,x],argTypes:= #[t,t]})
  (base:Nat) (e:TypeId) (i:TypeInfo) (z:Value) (size bytes:Nat) (ht:P.underlying t=some (.slice e)) (hi:P.info? e=some i) (hz:i.zero=some z)
  (hsize:i.size=size) (hby:i.bytes=bytes) (hzs:z.cells.size=size) (hsz:0<size)
  (q:Option Addr) (hs:a.eval s= .slice q 0 0) (hown:w.ownsRow base e size (.slice q 0 0) 0 [])
  (S:Nat->Prop) (sv:Value) (m:Nat) (news:List Value) (hx:a.eval x=sv) (hsl:aA S w size sv m news) (h1: ∀u∈news,u.oneCell'=true)
  (h63:m<=maxLen) (hbytes:m*bytes<=140737488355328) (hbase:base<=w.heap.size)
  (h: ∀v' w',Ext w w'->w'.ownsRow base e size v' m news->K (a.put o.dst v') w'):o.wp P a w K Q:=by
 have hem: ∀v' w',(Builtin.append_ #[t,t] o.type #[.slice q 0 0,sv]).run P w= .ok v' w'->w.grownBy w' (Value.ownBlock (.slice q 0 0))->Ext w w':=by
  intro v' w' hr hgr;refine⟨hgr.os,hgr.tape,hgr.output,hgr.size,fun k hk _=>?_⟩;rcases hown.2 with⟨hq,_⟩|⟨g,cap,cur,hq,hbg,hg,hnc,hcm,hcs,htake⟩
  .injection hq with hq
   subst hq;exact hgr.block k hk (by simp[Value.ownBlock])
  .injection hq with hq h2 h3
   subst hq;subst h3;by_cases hkg:k=g
   .subst hkg;rcases hsl.2 with⟨hv,hm⟩|⟨ad,c,hv,hc,hgg,hj⟩
    .have hr2:=run_append_owned_none (P:=P) w base t o.type e i size ht hi _ 0 [] hown;rw[hv,hr2] at hr;injection hr with _ hr
     rw[hr]
    .have hnews: ∀j u,news[j]?=some u->w.cell? (ad.add j)=some u:=by
      intro j u hu;have hlt:j<m*size:=by rw[<-hsl.1];exact(List.getElem?_eq_some_iff.1 hu).1
      rw[<-hu,<-hj j hlt];obtain⟨g,off,spot⟩:=ad;have hsp:=(hgg (ry hlt)).1;simp only at hsp;subst hsp
      congr 1
      unfold Addr.add;split
      .rename_i h0;simp[h0]
      .rfl
     subst hsize;by_cases hm:m=0
     .subst hm;have hn:news=[]:=List.eq_nil_of_length_eq_zero (by rw[hsl.1];simp);subst hn;rw[hv,run_append_room (P:=P) w t o.type e i ht hi k 0 0 cur hg ad 0 c [] (by simp) hnews h1 (Nat.le_refl _) (by simp)] at hr;injection hr with _ hr
      rw[<-hr,setRow_heap w k cur _ e _ hg,hg];simp
     .rw [hv,run_append_grow (P:=P) w t o.type e i z ht hi hz ⟨k,0,none⟩ 0 0 [] (by simp) (fun j v h=>by simp at h) ad m c news hsl.1 hnews (by omega) (by simp only[maxLen] at h63;omega) (growslice_fits (by omega) (by subst hby;simpa using hbytes))] at hr;injection hr with _ hr
      rw[<-hr];exact Go.heap_alloc_old w.drew _ (by simpa using hk)
   .exact hgr.block k hk (by simp[Value.ownBlock];exact hkg)
 rcases hsl.2 with⟨hv,hm⟩|⟨ad,c,hv,hc,hgg,hj⟩
 .have hr:=run_append_owned_none (P:=P) w base t o.type e i size ht hi _ 0 [] hown;have hn:news=[]:=List.eq_nil_of_length_eq_zero (by rw[hsl.1,hm];simp);subst hn;subst hm;unfold Oper.wp execOp;simp only[ho,resolve,invoke,builtin,Sem.run_bind,Sem.run_pure,Result.andThen_ok,List.map_toArray,List.map_cons,List.map_nil,hs,hx,hv,hr];exact h _ w (au.refl _ w) hown
 .have hnews: ∀j u,news[j]?=some u->w.cell? (ad.add j)=some u:=by
   intro j u hu;have hlt:j<m*size:=by rw[<-hsl.1];exact(List.getElem?_eq_some_iff.1 hu).1
   rw[<-hu,<-hj j hlt];obtain⟨g,off,spot⟩:=ad;have hsp:=(hgg (ry hlt)).1;simp only at hsp;subst hsp
   congr 1
   unfold Addr.add;split
   .rename_i h0;simp[h0]
   .rfl
  obtain⟨v',w',hr,h2,h3,h4⟩:=run_append_own (P:=P) w base t o.type e i z size bytes ht hi hz hsize hby hzs hsz _ 0 [] hown ad m c news hsl.1 hnews h1 (by omega) (by simpa using hbytes) hbase;have hE:=hem v' w' (by rw[hv];exact hr) h3;unfold Oper.wp execOp;simp only[ho,resolve,invoke,builtin,Sem.run_bind,Sem.run_pure,Result.andThen_ok,List.map_toArray,List.map_cons,List.map_nil,hs,hx,hv,hr];exact h v' w' hE (by simpa using h2)
end
end
section
open Tm
def tZ (t:Tm):Prop:= ∀x∈aV t,x.sort≠ah->x.kids=[]
theorem tZ.kid {t x:Tm} (h:tZ t) (hx:x∈t.kids):tZ x:=fun y hy=>h y (kG hx hy)
def putAt:Tm->List Nat->Tm->Tm
 |_,[],u=>u
 | .mk n s L,i::p,u=> .mk n s (L.set i (putAt (L.getD i default) p u))
mutual
def gu (σ:By->By->Tm):Tm->Tm
 | .mk n s L=>if s=ah then .mk n s (sbs σ L) else σ n s
def sbs (σ:By->By->Tm):List Tm->List Tm
 |[]=>[]
 |a::L=>gu σ a::sbs σ L
end
theorem RH (σ:By->By->Tm): ∀L,sbs σ L=L.map (gu σ)
 |[]=>rfl
 |a::L=>by simp[sbs,RH σ L]
theorem WM (σ:By->By->Tm) {t:Tm} (h:t.sort=ah):gu σ t= .mk t.name ah (t.kids.map (gu σ)):=by
 obtain⟨n,s,L⟩:=t;have h':s=ah:=h;subst h';unfold gu;rw[if_pos rfl,RH];rfl
abbrev Nt:=Tm×List Nat
def ai3 (b:By):Prop:=(58:UInt8)∉b.data.toList/\(32:UInt8)∉b.data.toList
instance alY (s:By) (l:List By):Decidable (s∈l):=decidable_of_iff (l.any (fun x=>decide (x=s))=true) (by
 rw[List.any_eq_true];exact⟨fun⟨x,hx,h⟩=>of_decide_eq_true h▸hx,fun h=>⟨s,h,dT rfl⟩⟩)
abbrev Rl:=Tm×Tm
theorem aA.CG {β:Type} {enc:β->Value} {d:β} {S:Nat->Prop} {w:World} {a:Option Addr} {n cap:Nat} {l:List β} (h:aA S w 1 (.slice a n cap) l.length (l.map enc)) (hl:0<l.length):
  ∃g off,a=some ⟨g,off,none⟩/\S g/\∀i,i<l.length->w.cell? ⟨g,off+i,none⟩=some (enc (l.getD i d)):=by
 obtain⟨g,off,c,e,_,hS,hj⟩:=aA.pos h hl;injection e with e1 e2 e3
 refine⟨g,off,e1,hS,fun i hi=>?_⟩;rw[hj i (by omega),List.getElem?_map,List.getElem?_eq_getElem hi,List.getD_eq_getElem?_getD,List.getElem?_eq_getElem hi];rfl
theorem Tj {L:List Tm} {k:Nat} (h:k<L.length):tg L k∈L:=by
 unfold tg;rw[List.getD_eq_getElem?_getD,List.getElem?_eq_getElem h];exact List.getElem_mem h
abbrev rg (L:List Rl) (i:Nat):Rl:=L.getD i (default,default)
def FC (L:List Rl):List Tm:=L.flatMap fun r=>[r.1,r.2]
theorem RF (L:List Rl):(FC L).length=2*L.length:=by
 induction L with
 |nil=>rfl
 |cons a L ih=>unfold FC at ih⊢;rw[List.flatMap_cons,List.length_append,ih];simp;omega
theorem WN: ∀(L:List Rl) (i:Nat),i<L.length->tg (FC L) (2*i)=(rg L i).1/\tg (FC L) (2*i+1)=(rg L i).2
 |r::L,0,_=>⟨rfl,rfl⟩
 |r::L,i+1,h=>by
  have ih:=WN L i (by simpa using h);have e:FC (r::L)=r.1::r.2::FC L:=rfl;rw[e,show 2*(i+1)=2*i+1+1 by omega];exact ih
theorem pX {L:List Rl} {i:Nat} (h:i<L.length):rg L i∈L:=by unfold rg;rw[List.getD_eq_getElem?_getD,List.getElem?_eq_getElem h];exact List.getElem_mem h
def iJ (S:Nat->Prop) (w:World) (L:List Rl) (v:Value):Prop:= ∃a cap,v= .slice a L.length cap/\ay S w (FC L) (.slice a (2*L.length) (2*cap))
section
variable {S T F:Nat->Prop} {w w':World} {L:List Rl} {v:Value}
theorem iJ.shape (h:iJ S w L v): ∃a cap,v= .slice a L.length cap:=by
 obtain⟨a,cap,e,_⟩:=h;exact⟨a,cap,e⟩
theorem iJ.kept (h:iJ S w L v) (hu:au F w w') (hF: ∀k,S k->¬F k):iJ S w' L v:=by
 obtain⟨a,cap,e,h⟩:=h;exact⟨a,cap,e,h.kept hu hF⟩
theorem iJ.ext (h:iJ S w L v) (hu:Ext w w'):iJ S w' L v:=h.kept hu (fun _ _ h=>h)
theorem iJ.weaken (h:iJ S w L v) (hs: ∀k,S k->T k):iJ T w L v:=by
 obtain⟨a,cap,e,h⟩:=h;exact⟨a,cap,e,h.weaken hs⟩
theorem iJ.at_ {a:Option Addr} {n cap:Nat} (h:iJ S w L (.slice a n cap)) (hL:0<L.length):
  ∃g off,a=some ⟨g,off,none⟩/\S g/\∀i,i<L.length->∃xa xc ya yc,w.cell? ⟨g,off+i*6,none⟩=some (.string (rg L i).1.name)/\w.cell? ⟨g,off+i*6+1,none⟩=some (.string (rg L i).1.sort)/\w.cell? ⟨g,off+i*6+2,none⟩=some (.slice xa (rg L i).1.kids.length xc)/\
   w.cell? ⟨g,off+i*6+3,none⟩=some (.string (rg L i).2.name)/\w.cell? ⟨g,off+i*6+4,none⟩=some (.string (rg L i).2.sort)/\w.cell? ⟨g,off+i*6+5,none⟩=some (.slice ya (rg L i).2.kids.length yc)/\
   ay S w (rg L i).1.kids (.slice xa (rg L i).1.kids.length xc)/\ay S w (rg L i).2.kids (.slice ya (rg L i).2.kids.length yc):=by
 obtain⟨a',cap',e,h⟩:=h;injection e with e1 e2 e3
 subst e1;have hf:=RF L;obtain⟨g,off,e,hS,hat⟩:=h.at_ (by omega);refine⟨g,off,e,hS,fun i hi=>?_⟩;obtain⟨f1,f2⟩:=WN L i hi;obtain⟨xa,xc,h0,h1,h2,h3⟩:=hat (2*i) (by omega);obtain⟨ya,yc,k0,k1,k2,k3⟩:=hat (2*i+1) (by omega);rw[f1] at h0 h1 h2 h3;rw[f2] at k0 k1 k2 k3;refine⟨xa,xc,ya,yc,?_,?_,?_,?_,?_,?_,h3,k3⟩
 .rw [show off+i*6=off+2*i*3 by omega];exact h0
 .rw [show off+i*6+1=off+(2*i*3+1) by omega];exact h1
 .rw [show off+i*6+2=off+(2*i*3+2) by omega];exact h2
 .rw [show off+i*6+3=off+(2*i+1)*3 by omega];exact k0
 .rw [show off+i*6+4=off+((2*i+1)*3+1) by omega];exact k1
 .rw [show off+i*6+5=off+((2*i+1)*3+2) by omega];exact k2
end
end
section
open Tm
abbrev Su:=By->By->Tm
abbrev vr (n s:By):Tm:= .mk n s []
def cu (t:Tm):List Vd:=vl (aV t)
theorem sU (n:By) (L:List Tm):cu (.mk n ah L)=L.flatMap cu:=by
 unfold cu;rw[lq];have h1: ∀M:List Tm,vl (M.flatMap aV)=M.flatMap (fun x=>vl (aV x)):=by
  intro M
  induction M with
  |nil=>rfl
  |cons x M ih=>rw[List.flatMap_cons,qW,ih,List.flatMap_cons]
 rw[<-List.singleton_append,qW,h1];rfl
theorem lN {n s:By} (h:s≠ah) (L:List Tm):(n,s)∈cu (.mk n s L):=by
 unfold cu vl;rw[List.mem_filterMap];exact⟨_,iZ _,by simp[Tm.sort,Tm.name,h]⟩
theorem Ib {t:Tm} {f:Vd} (h:f∈cu t):f.2≠ah:=by
 unfold cu vl at h;rw[List.mem_filterMap] at h;obtain⟨x,_,hx⟩:=h;by_cases e:x.sort=ah
 .rw [if_pos e] at hx;cases hx
 .rw [if_neg e] at hx;injection hx with hx
  rw[<-hx];exact e
theorem N7 {n s:By} (h:s≠ah):cu (vr n s)=[(n,s)]:=by
 unfold cu;rw[lq];simp[vl,Tm.sort,Tm.name,Tm.kids,h]
theorem zD {t x:Tm} (h:x∈t.kids) {f:Vd} (hf:f∈cu x):f∈cu t:=by
 unfold cu vl at*;rw[List.mem_filterMap] at*;obtain⟨y,hy,e⟩:=hf;exact⟨y,kG h hy,e⟩
theorem nU (σ:Su) {n s:By} (h:s≠ah) (L:List Tm):gu σ (.mk n s L)=σ n s:=by
 unfold gu;rw[if_neg h]
theorem rD (σ:Su) (n:By) (L:List Tm):gu σ (.mk n ah L)= .mk n ah (L.map (gu σ)):=WM σ rfl
theorem WV {σ τ:Su}: ∀t:Tm,(∀f∈cu t,σ f.1 f.2=τ f.1 f.2)->gu σ t=gu τ t:=by
 refine Tm.ind (fun n s L ih h=>?_);by_cases hs:s=ah
 .subst hs;rw[rD,rD]
  congr 1
  refine List.map_congr_left (fun x hx=>ih x hx (fun f hf=>h f ?_));rw[sU];exact List.mem_flatMap.2 ⟨x,hx,hf⟩
 .rw [nU σ hs,nU τ hs];exact h _ (lN hs L)
abbrev Bd:=By×By×Tm
def bf (s:List Bd) (n:By):Option Tm:=(s.find? fun b=>decide (b.1=n)).map (·.2.2)
theorem vF (b:Bd) (s:List Bd) (n:By):bf (b::s) n=if b.1=n then some b.2.2 else bf s n:=by
 unfold bf;rw[List.find?_cons];by_cases h:b.1=n
 .rw [if_pos h,dT h];rfl
 .rw [if_neg h,dF h]
theorem Eo (s:List Bd) (b:Bd) (n:By):bf (s++[b]) n=(bf s n).or (if b.1=n then some b.2.2 else none):=by
 induction s with
 |nil=>rw[List.nil_append,vF];unfold bf;simp
 |cons a s ih=>
  rw[List.cons_append,vF,vF,ih];by_cases h:a.1=n
  .rw [if_pos h,if_pos h];rfl
  .rw [if_neg h,if_neg h]
theorem rE {s:List Bd} {n:By} {t:Tm} (h:bf s n=some t): ∃b∈s,b.1=n/\b.2.2=t:=by
 induction s with
 |nil=>cases h
 |cons a s ih=>
  rw[vF] at h;by_cases h1:a.1=n
  .rw [if_pos h1] at h;injection h with h
   exact⟨a,List.mem_cons_self ..,h1,h⟩
  .rw [if_neg h1] at h;obtain⟨b,hb,h2⟩:=ih h;exact⟨b,List.mem_cons_of_mem _ hb,h2⟩
theorem WW {s:List Bd} {n:By} (h:bf s n=none): ∀b∈s,b.1≠n:=by
 induction s with
 |nil=>intro b hb;cases hb
 |cons a s ih=>
  rw[vF] at h;by_cases h1:a.1=n
  .rw [if_pos h1] at h;cases h
  .rw [if_neg h1] at h;intro b hb;rcases List.mem_cons.1 hb with e|hb
   .rw [e];exact h1
   .exact ih h b hb
end
section
open Go.Sort Go.Proofs Tm
theorem FM: ∀a b:List UInt8,Go.Lib.compareBytes a b=if a<b then -1 else if b<a then 1 else 0
 |[],[]=>by simp[Go.Lib.compareBytes]
 |[],_::_=>by simp[Go.Lib.compareBytes]
 |_::_,[]=>by simp[Go.Lib.compareBytes]
 |a::al,b::bl=>by
  have ih:=FM al bl;unfold Go.Lib.compareBytes;rw[ih];have e1:(a::al<b::bl)<->(a<b\/a=b/\al<bl):=List.cons_lt_cons_iff;have e2:(b::bl<a::al)<->(b<a\/b=a/\bl<al):=List.cons_lt_cons_iff;simp only[e1,e2];by_cases h1:a<b
  .rw [if_pos h1,if_pos (.inl h1)]
  .rw [if_neg h1];by_cases h2:b<a
   .rw [if_pos h2];have hne: ¬a=b:=fun e=>h1 (by rw[e] at h2⊢;exact h2);rw[if_neg (fun h=>h.elim h1 (fun h=>hne h.1)),if_pos (.inl h2)]
   .rw [if_neg h2];have he:a=b:=by
     rcases Nat.lt_trichotomy a.toNat b.toNat with h|h|h
     .exact absurd h h1
     .exact UInt8.toNat_inj.1 h
     .exact absurd h h2
    subst he;by_cases h3:al<bl
    .simp [h1,h3]
    .by_cases h4:bl<al
     .simp [h1,h3,h4]
     .simp [h1,h3,h4]
theorem QM (a b:By):Go.Lib.compareBytes a.data.toList b.data.toList=dO a b:=by
 rw[FM];unfold dO blt;simp only[decide_eq_true_eq]
theorem abP (a b:By):decide (Go.Lib.compareBytes a.data.toList b.data.toList<0)=blt a b:=by
 rw[QM];unfold dO;cases h:blt a b with
 |true=>rfl
 |false=>
  rw[if_neg (by simp)];split<;>rfl
def AscK {β:Type} (key:β->By) (l:List β):Prop:=l.Pairwise fun p q=>blt (key p) (key q)=true
theorem FU {β:Type} (key:β->By): ∀{l m:List β},AscK key l->AscK key m->(∀f,f∈l<->f∈m)->l=m
 |[],[],_,_,_=>rfl
 |[],y::m,_,_,h=>absurd ((h y).2 (List.mem_cons_self ..)) (by simp)
 |x::l,[],_,_,h=>absurd ((h x).1 (List.mem_cons_self ..)) (by simp)
 |x::l,y::m,hl,hm,h=>by
  obtain⟨l1,l2⟩:=List.pairwise_cons.1 hl;obtain⟨m1,m2⟩:=List.pairwise_cons.1 hm;have hxy:x=y:=by
   rcases List.mem_cons.1 ((h x).1 (List.mem_cons_self ..)) with e|e
   .exact e
   .rcases List.mem_cons.1 ((h y).2 (List.mem_cons_self ..)) with e2|e2
    .exact e2.symm
    .have h3:=mZ (m1 x e) (l1 y e2);rw[f_] at h3;cases h3
  subst hxy
  congr 1
  refine FU key l2 m2 (fun f=>⟨fun hf=>?_,fun hf=>?_⟩)
  .rcases List.mem_cons.1 ((h f).1 (List.mem_cons_of_mem _ hf)) with e|e
   .subst e;have:=l1 f hf;rw[f_] at this;cases this
   .exact e
  .rcases List.mem_cons.1 ((h f).2 (List.mem_cons_of_mem _ hf)) with e|e
   .subst e;have:=m1 f hf;rw[f_] at this;cases this
   .exact e
section
variable {β:Type} [Inhabited β] (key:β->By)
def CY (x y:β):Int:=Go.Lib.compareBytes (key x).data.toList (key y).data.toList
omit [Inhabited β] in
theorem AZ (x y:β):ltOf (CY key) x y=blt (key x) (key y):=abP _ _
omit [Inhabited β] in
theorem Ql:SWO (ltOf (CY key)) where
 irrefl x:=by rw[AZ,f_]
 trans x y z h1 h2:=by rw[AZ] at*;exact mZ h1 h2
 ntrans x y z h1 h2:=by
  rw[AZ] at*;cases h:blt (key x) (key z) with
  |false=>rfl
  |true=>
   by_cases e:key x=key y
   .rw [e,h2] at h;cases h
   .rcases y_ _ _ e with h3|h3
    .rw [h1] at h3;cases h3
    .have:=mZ h3 h;rw[h2] at this;cases this
theorem MS {d d':Array β} (hp:PermIn 0 d.size d d') (hs:SortedIn (ltOf (CY key)) 0 d.size d') (hd:d.toList.Pairwise fun x y=>key x≠key y):AscK key d'.toList/\d'.toList.Perm d.toList:=by
 obtain⟨hsz,_,hperm⟩:=hp;have e1:d'.extract 0 d.size=d':=by rw[<-hsz];exact Array.extract_size
 rw[e1,Array.extract_size] at hperm;refine⟨?_,hperm⟩;have hd':d'.toList.Pairwise fun x y=>key x≠key y:=hperm.symm.pairwise hd (fun{x y} h e=>h e.symm);unfold AscK;rw[List.pairwise_iff_getElem] at hd'⊢;intro i j hi hj hij;have h1:=hd' i j hi hj hij;have hi':i<d'.size:=by simpa using hi
 have hj':j<d'.size:=by simpa using hj
 have h2:=hs i j (Nat.zero_le _) hij (by omega);rw[AZ,getElem!_pos d' j hj',getElem!_pos d' i hi'] at h2;rw[Array.getElem_toList,Array.getElem_toList] at h1⊢;rcases y_ _ _ h1 with h3|h3
 .exact h3
 .rw [h2] at h3;cases h3
theorem flat_get (enc:β->List Value) (k:Nat) (hk: ∀x,(enc x).length=k): ∀(L:List β) (j:Nat),j<L.length*k->(L.flatMap enc)[j]?=some ((enc (L.getD (j / k) default))[j % k]!)
 |[],j,h=>by simp at h
 |a::L,j,h=>by
  have hk0:0<k:=by
   rcases Nat.eq_zero_or_pos k with h0|h0
   .rw [h0] at h;simp at h
   .exact h0
  rw[List.flatMap_cons];rcases Nat.lt_or_ge j k with hlt|hge
  .rw [List.getElem?_append_left (by rw[hk];exact hlt),Nat.div_eq_of_lt hlt,Nat.mod_eq_of_lt hlt];have hl:j< (enc a).length:=by rw[hk];exact hlt
   rw[List.getElem?_eq_getElem hl];show _=some ((enc a)[j]!);rw[getElem!_pos (enc a) j hl]
  .rw [List.getElem?_append_right (by rw[hk];exact hge),hk];have h1:j-k<L.length*k:=by
    simp only[List.length_cons,Nat.add_mul,Nat.one_mul] at h;omega
   rw[flat_get enc k hk L (j-k) h1];have e1:j / k=(j-k) / k+1:=by
    rw[Nat.div_eq j k,if_pos ⟨hk0,hge⟩]
   have e2:j % k=(j-k) % k:=by rw[Nat.mod_eq j k,if_pos ⟨hk0,hge⟩]
   rw[e1,e2];rfl
theorem JQ (enc:β->List Value) (k:Nat) (hk: ∀x,(enc x).length=k) {w:World} {b off:Nat} {L:List β} (h: ∀j,j<L.length*k->w.cell? ⟨b,off+j,none⟩=(L.flatMap enc)[j]?/\w.frozen? ⟨b,off+j,none⟩=false):HoldsK enc k w b off L.toArray:=by
 intro j hj;have hj2:j<L.length*k:=by simpa using hj
 obtain⟨h1,h2⟩:=h j hj2;refine⟨?_,h2⟩;rw[h1,flat_get enc k hk L j hj2,get_flatK _ _ _ _ (by simpa using hj2)]
 congr 1
 have hk0:0<k:=by
  rcases Nat.eq_zero_or_pos k with h0|h0
  .rw [h0] at hj2;simp at hj2
  .exact h0
 have hq:j / k<L.length:=Nat.div_lt_of_lt_mul (by rw[Nat.mul_comm];exact hj2);show _=(enc (L.toArray[j / k]!))[j % k]!;rw[getElem!_pos L.toArray (j / k) (by simpa using hq)];rw[List.getD_eq_getElem?_getD,List.getElem?_eq_getElem hq];rfl
theorem CZ (enc:β->List Value) (k:Nat) (hk: ∀x,(enc x).length=k) {w:World} {b off:Nat} {d:Array β} (h:HoldsK enc k w b off d) (j:Nat) (hj:j<d.size*k):w.cell? ⟨b,off+j,none⟩=(d.toList.flatMap enc)[j]?/\w.frozen? ⟨b,off+j,none⟩=false:=by
 obtain⟨h1,h2⟩:=h j (by simpa using hj);refine⟨?_,h2⟩;rw[flat_get enc k hk d.toList j (by simpa using hj)];rw[h1,get_flatK _ _ _ _ hj];have hk0:0<k:=by
  rcases Nat.eq_zero_or_pos k with h0|h0
  .rw [h0] at hj;simp at hj
  .exact h0
 have hq:j / k<d.size:=Nat.div_lt_of_lt_mul (by rw[Nat.mul_comm];exact hj);show some (enc d[j / k]!)[j % k]! =_;rw[getElem!_pos d (j / k) hq,List.getD_eq_getElem?_getD,List.getElem?_eq_getElem (by simpa using hq)];rfl
theorem JR (enc:β->List Value) (k:Nat) (w:World) (blk off n:Nat) (d:Array β) (os:Array Obj):au (fun j=>j=blk) w (sortWorldK enc k w blk off n d os):=by
 unfold sortWorldK;refine⟨rfl,rfl,rfl,?_,fun j hj hf=>?_⟩
 .show w.heap.size<=((putRowK enc k (Sort.ahead w n) blk off d).heap++os).size;rw[Array.size_append,size_putRowK];exact Nat.le_add_right _ _
 .show ((putRowK enc k (Sort.ahead w n) blk off d).heap++os)[j]?=_;rw[Array.getElem?_append_left (by rw[size_putRowK];exact hj)];show((Sort.ahead w n).heap.modify blk _)[j]?=_;rw[Array.getElem?_modify,if_neg (fun e=>hf e.symm)];rfl
end
end
section
open Tm
abbrev bg (l:List Bd) (i:Nat):Bd:=l.getD i (ah,ah,default)
def gK:List Bd->List Value->List Value
 |[],_=>[]
 |b::l,us=> .string b.1:: .string b.2.1:: .string b.2.2.name:: .string b.2.2.sort::us.headD qF::gK l us.tail
theorem Jz: ∀(l:List Bd) (us:List Value) (i:Nat),i<l.length->
  (gK l us)[i*5]?=some (.string (bg l i).1)/\(gK l us)[i*5+1]?=some (.string (bg l i).2.1)/\(gK l us)[i*5+2]?=some (.string (bg l i).2.2.name)/\(gK l us)[i*5+3]?=some (.string (bg l i).2.2.sort)/\(gK l us)[i*5+4]?=some (ug us i)
 |b::l,us,0,_=>by
  refine⟨rfl,rfl,rfl,rfl,?_⟩;cases us<;>rfl
 |b::l,us,i+1,h=>by
  obtain⟨h0,h1,h2,h3,h4⟩:=Jz l us.tail i (by simpa using h);have e: ∀k,(gK (b::l) us)[(i+1)*5+k]?=(gK l us.tail)[i*5+k]?:=fun k=>by
   rw[show(i+1)*5+k=i*5+k+1+1+1+1+1 by omega];rfl
  refine⟨by rw[<-Nat.add_zero ((i+1)*5),e];exact h0,by rw[e];exact h1,by rw[e];exact h2,by rw[e];exact h3,?_⟩;rw[e,h4];cases us<;>rfl
theorem Gq: ∀(l m:List Bd) (us vs:List Value),us.length=l.length->gK (l++m) (us++vs)=gK l us++gK m vs
 |[],m,[],vs,_=>rfl
 |a::l,m,b::us,vs,h=>by
  have:=Gq l m us vs (by simpa using h);simp only[List.cons_append,gK,List.headD_cons,List.tail_cons,this]
theorem Gs (l:List Bd): ∀(us:List Value),(∀u∈us,u.oneCell'=true)->∀u∈gK l us,u.oneCell'=true:=by
 induction l with
 |nil=>intro us _ u hu;cases hu
 |cons b l ih=>
  intro us hus u hu;simp only[gK,List.mem_cons] at hu;rcases hu with h|h|h|h|h|h
  .subst h;rfl
  .subst h;rfl
  .subst h;rfl
  .subst h;rfl
  .subst h;cases us with
   |nil=>rfl
   |cons a us=>exact hus a (List.mem_cons_self ..)
  .exact ih us.tail (fun v hv=>hus v (List.mem_of_mem_tail hv)) u h
theorem Gt {l:List Bd} {i:Nat} (h:i<l.length):bg l i∈l:=by unfold bg;rw[List.getD_eq_getElem?_getD,List.getElem?_eq_getElem h];exact List.getElem_mem h
def gQ (R S:Nat->Prop) (w:World) (v:Value) (l:List Bd):Prop:= ∃us,us.length=l.length/\aA R w 5 v l.length (gK l us)/\∀i,i<l.length->ay S w (bg l i).2.2.kids (ug us i)
section
variable {R S T Q F:Nat->Prop} {w w':World} {l:List Bd} {v:Value}
theorem gQ.nil (R S:Nat->Prop) (w:World):gQ R S w qF []:=⟨[],rfl,aA.nil _ _ _,fun i h=>by cases h⟩
theorem gQ.shape (h:gQ R S w v l): ∃a cap,v= .slice a l.length cap:=by
 obtain⟨us,_,h,_⟩:=h;exact h.shape
theorem gQ.kept (h:gQ R S w v l) (hu:au F w w') (hR: ∀k,R k->¬F k) (hS: ∀k,S k->¬F k):gQ R S w' v l:=by
 obtain⟨us,h1,h2,h3⟩:=h;exact⟨us,h1,h2.kept hu hR,fun i hi=>(h3 i hi).kept hu hS⟩
theorem gQ.ext (h:gQ R S w v l) (hu:Ext w w'):gQ R S w' v l:=h.kept hu (fun _ _ h=>h) (fun _ _ h=>h)
theorem gQ.weaken (h:gQ R S w v l) (hr: ∀k,R k->Q k) (hs: ∀k,S k->T k):gQ Q T w v l:=by
 obtain⟨us,h1,h2,h3⟩:=h;exact⟨us,h1,h2.weaken hr,fun i hi=>(h3 i hi).weaken hs⟩
theorem gQ.at_ {a:Option Addr} {n cap:Nat} (h:gQ R S w (.slice a n cap) l) (hl:0<l.length):
  ∃g off,a=some ⟨g,off,none⟩/\R g/\∀i,i<l.length->∃ka kc,w.cell? ⟨g,off+i*5,none⟩=some (.string (bg l i).1)/\w.cell? ⟨g,off+i*5+1,none⟩=some (.string (bg l i).2.1)/\
   w.cell? ⟨g,off+i*5+2,none⟩=some (.string (bg l i).2.2.name)/\w.cell? ⟨g,off+i*5+3,none⟩=some (.string (bg l i).2.2.sort)/\w.cell? ⟨g,off+i*5+4,none⟩=some (.slice ka (bg l i).2.2.kids.length kc)/\ay S w (bg l i).2.2.kids (.slice ka (bg l i).2.2.kids.length kc):=by
 obtain⟨us,hl2,h,hk⟩:=h;obtain⟨g,off,cap',e,hc,hS,hj⟩:=h.pos hl;injection e with e1 e2 e3
 refine⟨g,off,e1,hS,fun i hi=>?_⟩;obtain⟨h0,h1,h2,h3,h4⟩:=Jz l us i hi;obtain⟨ka,kc,e'⟩:=(hk i hi).shape;have hk':=hk i hi;rw[e'] at hk' h4;exact⟨ka,kc,by rw[hj _ (by omega),h0],by rw[Nat.add_assoc,hj _ (by omega),h1],by rw[Nat.add_assoc,hj _ (by omega),h2],by rw[Nat.add_assoc,hj _ (by omega),h3],by rw[Nat.add_assoc,hj _ (by omega),h4],hk'⟩
end
end
section
open Tm
abbrev Rx:=Int×List Int
abbrev xg (l:List Rx) (i:Nat):Rx:=l.getD i (0,[])
def tK:List Rx->List Value->List Value
 |[],_=>[]
 |x::l,us=> .int .i64 x.1::us.headD qF::tK l us.tail
theorem KX: ∀(l:List Rx) (us:List Value) (i:Nat),i<l.length->(tK l us)[i*2]?=some (.int .i64 (xg l i).1)/\(tK l us)[i*2+1]?=some (ug us i)
 |x::l,us,0,_=>by
  refine⟨rfl,?_⟩;cases us<;>rfl
 |x::l,us,i+1,h=>by
  obtain⟨h0,h1⟩:=KX l us.tail i (by simpa using h);have e: ∀k,(tK (x::l) us)[(i+1)*2+k]?=(tK l us.tail)[i*2+k]?:=fun k=>by
   rw[show(i+1)*2+k=i*2+k+1+1 by omega];rfl
  refine⟨by rw[<-Nat.add_zero ((i+1)*2),e];exact h0,?_⟩;rw[e,h1];cases us<;>rfl
theorem Pj {l:List Rx} {i:Nat} (h:i<l.length):xg l i=l[i]:=by unfold xg;rw[List.getD_eq_getElem?_getD,List.getElem?_eq_getElem h];rfl
theorem O6 {l:List Rx} {i:Nat} (h:i<l.length):xg l i∈l:=by rw[Pj h];exact List.getElem_mem h
theorem abH (l:List Rx) (k:Nat) (h:k<l.length):l.take (k+1)=l.take k++[xg l k]:=by
 rw[List.take_add_one]
 congr 1
 rw[List.getElem?_eq_getElem h,Pj h];rfl
theorem Ro (l:List Rx) (k:Nat) (h:k<l.length):l.drop k=xg l k::l.drop (k+1):=by
 rw[List.drop_eq_getElem_cons h,Pj h]
abbrev pG (S:Nat->Prop) (w:World) (u:Value) (p:List Int):Prop:=aA S w 1 u p.length (p.map (Value.int .i64))
def l7 (R S:Nat->Prop) (w:World) (v:Value) (l:List Rx):Prop:= ∃us,us.length=l.length/\aA R w 2 v l.length (tK l us)/\∀i,i<l.length->pG S w (ug us i) (xg l i).2
section
variable {R S T Q F:Nat->Prop} {w w':World} {l:List Rx} {v:Value}
theorem l7.nil (R S:Nat->Prop) (w:World):l7 R S w qF []:=⟨[],rfl,aA.nil _ _ _,fun i h=>by cases h⟩
theorem l7.shape (h:l7 R S w v l): ∃a cap,v= .slice a l.length cap:=by
 obtain⟨us,_,h,_⟩:=h;exact h.shape
theorem l7.kept (h:l7 R S w v l) (hu:au F w w') (hR: ∀k,R k->¬F k) (hS: ∀k,S k->¬F k):l7 R S w' v l:=by
 obtain⟨us,h1,h2,h3⟩:=h;exact⟨us,h1,h2.kept hu hR,fun i hi=>(h3 i hi).kept hu hS⟩
theorem l7.ext (h:l7 R S w v l) (hu:Ext w w'):l7 R S w' v l:=h.kept hu (fun _ _ h=>h) (fun _ _ h=>h)
theorem l7.weaken (h:l7 R S w v l) (hr: ∀k,R k->Q k) (hs: ∀k,S k->T k):l7 Q T w v l:=by
 obtain⟨us,h1,h2,h3⟩:=h;exact⟨us,h1,h2.weaken hr,fun i hi=>(h3 i hi).weaken hs⟩
theorem l7.at_ {a:Option Addr} {n cap:Nat} (h:l7 R S w (.slice a n cap) l) (hl:0<l.length):
  ∃g off,a=some ⟨g,off,none⟩/\R g/\∀i,i<l.length->∃ka kc,w.cell? ⟨g,off+i*2,none⟩=some (.int .i64 (xg l i).1)/\w.cell? ⟨g,off+i*2+1,none⟩=some (.slice ka (xg l i).2.length kc)/\pG S w (.slice ka (xg l i).2.length kc) (xg l i).2:=by
 obtain⟨us,hl2,h,hk⟩:=h;obtain⟨g,off,cap',e,hc,hS,hj⟩:=h.pos hl;injection e with e1 e2 e3
 refine⟨g,off,e1,hS,fun i hi=>?_⟩;obtain⟨h0,h1⟩:=KX l us i hi;obtain⟨ka,kc,e'⟩:=(hk i hi).shape;have hk':=hk i hi;rw[e'] at hk' h1;exact⟨ka,kc,by rw[hj _ (by omega),h0],by rw[Nat.add_assoc,hj _ (by omega),h1],hk'⟩
end
abbrev Xe:=Rx×Option Addr×Nat
abbrev D5 (x:Xe):Value:= .slice x.2.1 x.1.2.length x.2.2
abbrev tu (x:Xe):List Value:=[.int .i64 x.1.1,D5 x]
theorem Pm: ∀L:List Xe,tK (L.map (·.1)) (L.map D5)=L.flatMap tu
 |[]=>rfl
 |x::L=>by rw[List.map_cons,List.map_cons,List.flatMap_cons];simp only[tK,List.headD_cons,List.tail_cons,Pm L,tu,List.cons_append,List.nil_append]
theorem ag2 {R S:Nat->Prop} {w:World} {v:Value} {L:List Xe} (h:aA R w 2 v L.length (L.flatMap tu)) (hk: ∀y∈L,pG S w (D5 y) y.1.2):l7 R S w v (L.map (·.1)):=by
 refine⟨L.map D5,by simp,by rw[Pm,List.length_map];exact h,fun i hi=>?_⟩;have hi':i<L.length:=by simpa using hi
 have e1:xg (L.map (·.1)) i=(L[i]).1:=by
  unfold xg;rw[List.getD_eq_getElem?_getD,List.getElem?_map,List.getElem?_eq_getElem hi'];rfl
 have e2:ug (L.map D5) i=D5 L[i]:=by
  unfold ug;rw[List.getD_eq_getElem?_getD,List.getElem?_map,List.getElem?_eq_getElem hi'];rfl
 rw[e1,e2];exact hk _ (List.getElem_mem hi')
structure BJ (te:TypeId) (n0:Nat) (w:World) (v:Value) (L:List Xe):Prop where
 own:w.ownsRow n0 te 2 v L.length (L.flatMap tu)
 tl: ∀x∈L,∃Bx:Nat->Prop,pG Bx w (D5 x) x.1.2/\∀j,Bx j->n0<=j/\j<w.heap.size/\v.ownBlock≠some j
theorem BJ.start (te:TypeId) (n0:Nat) (w:World):BJ te n0 w (.slice none 0 0) []:=⟨⟨rfl,.inl ⟨rfl,rfl⟩⟩,fun x hx=>by cases hx⟩
theorem BJ.kept {te:TypeId} {n0:Nat} {w w':World} {v:Value} {L:List Xe} {F:Nat->Prop} (h:BJ te n0 w v L) (hu:au F w w') (hF: ∀j,n0<=j->j<w.heap.size->¬F j):BJ te n0 w' v L:=
 ⟨bI h.own hu (fun j hj=>hF j (h.own.lt j hj).1 (h.own.lt j hj).2),fun x hx=>by
  obtain⟨Bx,h1,h2⟩:=h.tl x hx;exact⟨Bx,h1.kept hu (fun j hj=>hF j (h2 j hj).1 (h2 j hj).2.1),fun j hj=>⟨(h2 j hj).1,ax (h2 j hj).2.1 hu.size,(h2 j hj).2.2⟩⟩⟩
theorem BJ.grow {te:TypeId} {n0:Nat} {w w6 w6a w7:World} {v v':Value} {L:List Xe} {x:Xe} {Bx F:Nat->Prop} (h:BJ te n0 w v L) (hn:n0<=w.heap.size) (h6:Ext w w6) (hT:pG Bx w6 (D5 x) x.1.2) (hB: ∀j,Bx j->w.heap.size<=j/\j<w6.heap.size)
  (hA:au F w6 w6a) (hF: ∀j,F j->j<n0)
  (hG:Grew n0 te 2 v (L.length+1) (L.flatMap tu++tu x) w6a w7 v'):BJ te n0 w7 v' (L++[x]):=by
 have hU:au (fun j=>F j\/v.ownBlock=some j) w6 w7:=(hA.mono (fun _ _ x=> .inl x)).trans (hG.upd.mono (fun _ _ x=> .inr x));have hbn: ∀j,v'.ownBlock=some j->v.ownBlock=some j\/w6.heap.size<=j:=fun j e=>by
  rcases hG.uT with h|h
  .rw [h] at e;exact .inl e
  .rw [h] at e;injection e with e;exact .inr (by have:=hA.size;omega)
 have hs6:=h6.size;refine⟨?_,fun y hy=>?_⟩
 .have ho:=hG.own;rw[List.length_append,List.flatMap_append];simpa using ho
 .rcases List.mem_append.1 hy with hy|hy
  .obtain ⟨By_,h1,h2⟩:=h.tl y hy;refine⟨By_,((h1.kept h6 (fun _ _ x=>x)).kept hU (fun j hj e=>?_)),fun j hj=>⟨(h2 j hj).1,ax (ax (h2 j hj).2.1 hs6) hU.size,fun e=>?_⟩⟩
   .rcases e with e|e
    .have:=hF j e;have:=(h2 j hj).1;omega
    .exact (h2 j hj).2.2 e
   .rcases hbn j e with e|e
    .exact (h2 j hj).2.2 e
    .have:=(h2 j hj).2.1;omega
  .rw [List.mem_singleton] at hy;subst hy;refine⟨Bx,hT.kept hU (fun j hj e=>?_),fun j hj=>⟨Nat.le_trans hn (hB j hj).1,ax (hB j hj).2 hU.size,fun e=>?_⟩⟩
   .rcases e with e|e
    .have:=hF j e;have:=(hB j hj).1;omega
    .have h3:=(h.own.lt j e).2;have h4:=(hB j hj).1;omega
   .rcases hbn j e with e|e
    .have h3:=(h.own.lt j e).2;have h4:=(hB j hj).1;omega
    .have:=(hB j hj).2;omega
theorem BJ.rx {te:TypeId} {n0:Nat} {w:World} {v:Value} {L:List Xe} (h:BJ te n0 w v L):l7 (fun k=>n0<=k/\k<w.heap.size) (fun k=>n0<=k/\k<w.heap.size) w v (L.map (·.1)):=
 ag2 ((aA.fC h.own).weaken (fun k hk=>h.own.lt k hk)) (fun y hy=>by
  obtain⟨Bx,h1,h2⟩:=h.tl y hy;exact h1.weaken (fun j hj=>⟨(h2 j hj).1,(h2 j hj).2.1⟩))
end
end Go.Hw
