/- The texts TA TL TO TN PP TX TU TG TQ MQ TR TS TI TY TZ TYK L6 VB US MR, one behind the other. -/
import Derived.Test.YtlkcjmaiahnodaaGreatDoorSAB
import Derived.Lib.ItoaNum
import Derived.Laws.IdiomCopy
import Derived.Shelf.SlSortCmp.NoneTotal
import Derived.Lib.Bytealg
import Derived.LaidEqlPtr
set_option linter.unusedVariables false
set_option linter.unusedSimpArgs false
namespace Go.Hw
open Go.RowKit
section
section
variable {P:Program} (w:World)
theorem qG {o:Oper} {a:Act} {K:Act->World->Prop} {Q:Exit->Act->World->Prop} (s x:Operand) (t:TypeId)
  (ho:o.op= .call {callee:= .builtin .append,args:= #[s,x],argTypes:= #[t,t]})
  (base:Nat) (e:TypeId) (i:TypeInfo) (z:Value) (size bytes:Nat) (r:P.underlying t=some (.slice e)) (hi:P.info? e=some i) (I:i.zero=some z)
  (F:i.size=size) (G:i.bytes=bytes) (M:z.cells.size=size) (N:0<size)
  (q:Option Addr) (hs:a.eval s= .slice q 0 0) (hown:w.ownsRow base e size (.slice q 0 0) 0 [])
  (S:Nat->Prop) (sv:Value) (m:Nat) (news:List Value) (hx:a.eval x=sv) (b:aB S w size sv m news) (h1: ∀u∈news,u.oneCell'=true)
  (O:m<=maxLen) (E:m*bytes<=140737488355328) (L:base<=w.heap.size)
  (h: ∀v' w',Ext w w'->w'.ownsRow base e size v' m news->K (a.put o.dst v') w'):o.wp P a w K Q:=by
 have R: ∀v' w',(Builtin.append_ #[t,t] o.type #[.slice q 0 0,sv]).run P w= .ok v' w'->w.grownBy w' (Value.ownBlock (.slice q 0 0))->Ext w w':=by
  intro v' w' hr l;refine⟨l.os,l.tape,l.output,l.size,fun k hk _=>?_⟩;rcases hown.2 with⟨d,_⟩|⟨g,cap,cur,d,W,B,X,Y,hcs,V⟩
  .injection d with d
   subst d;exact l.block k hk (by simp[Value.ownBlock])
  .injection d with d J C
   subst d;subst C;by_cases H:k=g
   .subst H;rcases b.2 with⟨hv,hm⟩|⟨ad,c,hv,hc,A,D⟩
    .have T:=run_append_owned_none (P:=P) w base t o.type e i size r hi _ 0 [] hown;rw[hv,T] at hr;injection hr with _ hr
     rw[hr]
    .have y: ∀j u,news[j]?=some u->w.cell? (ad.add j)=some u:=by
      intro j u hu;have n:j<m*size:=by rw[<-b.1];exact(List.getElem?_eq_some_iff.1 hu).1
      rw[<-hu,<-D j n];obtain⟨g,off,spot⟩:=ad;have p:=(A (oQ n)).1;simp only at p;subst p;congr 1;unfold Addr.add;split
      .rename_i h0;simp[h0]
      .rfl
     subst F;by_cases hm:m=0
     .subst hm;have hn:news=[]:=List.eq_nil_of_length_eq_zero (by rw[b.1];simp);subst hn;rw[hv,run_append_room (P:=P) w t o.type e i r hi k 0 0 cur B ad 0 c [] (by simp) y h1 (Nat.le_refl _) (by simp)] at hr;injection hr with _ hr
      rw[<-hr,setRow_heap w k cur _ e _ B,B];simp
     .rw [hv,run_append_grow (P:=P) w t o.type e i z r hi I ⟨k,0,none⟩ 0 0 [] (by simp) (fun j v h=>by simp at h) ad m c news b.1 y (by omega) (by simp only[maxLen] at O;omega) (growslice_fits (by omega) (by subst G;simpa using E))] at hr;injection hr with _ hr
      rw[<-hr];exact Go.heap_alloc_old w.drew _ (by simpa using hk)
   .exact l.block k hk (by simp[Value.ownBlock];exact H)
 rcases b.2 with⟨hv,hm⟩|⟨ad,c,hv,hc,A,D⟩
 .have hr:=run_append_owned_none (P:=P) w base t o.type e i size r hi _ 0 [] hown;have hn:news=[]:=List.eq_nil_of_length_eq_zero (by rw[b.1,hm];simp);subst hn;subst hm;unfold Oper.wp execOp;simp only[ho,resolve,invoke,builtin,Sem.run_bind,Sem.run_pure,Result.andThen_ok,List.map_toArray,List.map_cons,List.map_nil,hs,hx,hv,hr];exact h _ w (au.refl _ w) hown
 .have y: ∀j u,news[j]?=some u->w.cell? (ad.add j)=some u:=by
   intro j u hu;have n:j<m*size:=by rw[<-b.1];exact(List.getElem?_eq_some_iff.1 hu).1
   rw[<-hu,<-D j n];obtain⟨g,off,spot⟩:=ad;have p:=(A (oQ n)).1;simp only at p;subst p;congr 1;unfold Addr.add;split
   .rename_i h0;simp[h0]
   .rfl
  obtain⟨v',w',hr,J,C,Z⟩:=run_append_own (P:=P) w base t o.type e i z size bytes r hi I F G M N _ 0 [] hown ad m c news b.1 y h1 (by omega) (by simpa using E) L;have U:=R v' w' (by rw[hv];exact hr) C;unfold Oper.wp execOp;simp only[ho,resolve,invoke,builtin,Sem.run_bind,Sem.run_pure,Result.andThen_ok,List.map_toArray,List.map_cons,List.map_nil,hs,hx,hv,hr];exact h v' w' U (by simpa using J)
end
end
section
open Tm
def u_ (t:Tm):Prop:= ∀x∈bu t,x.sort≠ai->x.kids=[]
theorem u_.kid {t x:Tm} (h:u_ t) (hx:x∈t.kids):u_ x:=fun y hy=>h y (lX hx hy)
def putAt:Tm->List Nat->Tm->Tm
 |_,[],u=>u
 | .mk n s L,i::p,u=> .mk n s (L.set i (putAt (L.getD i default) p u))
mutual
def iW (σ:By->By->Tm):Tm->Tm
 | .mk n s L=>if s=ai then .mk n s (sbs σ L) else σ n s
def sbs (σ:By->By->Tm):List Tm->List Tm
 |[]=>[]
 |a::L=>iW σ a::sbs σ L
end
theorem Vq (σ:By->By->Tm): ∀L,sbs σ L=L.map (iW σ)
 |[]=>rfl
 |a::L=>by simp[sbs,Vq σ L]
theorem Zi (σ:By->By->Tm) {t:Tm} (h:t.sort=ai):iW σ t= .mk t.name ai (t.kids.map (iW σ)):=by
 obtain⟨n,s,L⟩:=t;have h':s=ai:=h;subst h';unfold iW;rw[if_pos rfl,Vq];rfl
abbrev Nt:=Tm×List Nat
def amD (b:By):Prop:=(58:UInt8)∉b.data.toList/\(32:UInt8)∉b.data.toList
instance apM (s:By) (l:List By):Decidable (s∈l):=decidable_of_iff (l.any (fun x=>decide (x=s))=true) (by
 rw[List.any_eq_true];exact⟨fun⟨x,hx,h⟩=>of_decide_eq_true h▸hx,fun h=>⟨s,h,dT rfl⟩⟩)
def Ho (l:List By) (s:By):Nat:=l.findIdx fun x=>decide (x=s)
theorem Zc (l:List By) (s:By):Ho l s<=l.length:=List.findIdx_le_length
theorem PR {l:List By} {s:By} (h:s∈l):Ho l s<l.length:=List.findIdx_lt_length_of_exists ⟨s,h,by simp⟩
theorem Vl {l:List By} {s:By} (h:Ho l s<l.length):s∈l:=by
 have:=List.findIdx_getElem (w:=h);rw[decide_eq_true_eq] at this;rw[<-this];exact List.getElem_mem h
theorem Zd {l:List By} {s:By} (h:s∈l):l.getD (Ho l s) ai=s:=by
 have h1:=PR h;have:=List.findIdx_getElem (w:=h1);rw[decide_eq_true_eq] at this;rw[gZ h1];exact this
theorem aeR {l:List By} {s:By} {j:Nat} (h:j<Ho l s):l.getD j ai≠s:=by
 have h1:j<l.length:=aP h (Zc l s);have:=List.not_of_lt_findIdx h;simp only[decide_eq_false_iff_not] at this;rw[gZ h1];simpa using this
theorem afs {l:List By} {s:By} {k:Nat} (hk:k<l.length) (h1: ∀j,j<k->l.getD j ai≠s) (a:l.getD k ai=s):Ho l s=k:=by
 have hm:s∈l:=by
  rw[<-a,List.getD_eq_getElem?_getD,List.getElem?_eq_getElem hk];exact List.getElem_mem hk
 rcases Nat.lt_trichotomy (Ho l s) k with h|h|h
 .exact absurd (Zd hm) (h1 _ h)
 .exact h
 .exact absurd a (aeR h)
theorem ZU {l:List By} {s:By} (h: ∀j,j<l.length->l.getD j ai≠s):Ho l s=l.length:=by
 rcases Nat.lt_or_eq_of_le (Zc l s) with h1|h1
 .exact absurd (Zd (Vl h1)) (h _ h1)
 .exact h1
theorem aft {l:List By} {s:By}:s∈l<->Ho l s<l.length:=⟨PR,Vl⟩
def Dif (l:List By):Prop:=l.Pairwise (· ≠ ·)
def GM (nm:By->Bool) (ops:List By):Bool:=decide (ops.length<=100)&&(List.range ops.length).all fun i=>nm (ops.getD i ai)&&!decide (ops.getD i ai∈ops.take i)
theorem OL (nm:By->Bool) (ops:List By):GM nm ops=true<->ops.length<=100/\(∀s∈ops,nm s=true)/\Dif ops:=by
 unfold GM;rw[Bool.and_eq_true,decide_eq_true_eq,List.all_eq_true];refine and_congr_right fun _=>?_;have a: ∀i,(h:i<ops.length)->ops.getD i ai=ops[i]:=fun i h=>by rw[gZ h];rfl
 constructor
 .intro h;have h': ∀i,(hi:i<ops.length)->nm ops[i]=true/\ops[i]∉ops.take i:=fun i hi=>by
   have:=h i (List.mem_range.2 hi);rw[Bool.and_eq_true,Bool.not_eq_true',decide_eq_false_iff_not,a i hi] at this;exact this
  refine⟨fun s hs=>?_,List.pairwise_iff_getElem.2 fun i j hi b d e=>?_⟩
  .obtain ⟨i,hi,rfl⟩:=List.mem_iff_getElem.1 hs;exact(h' i hi).1
  .refine (h' j b).2 ?_;rw[<-e,List.mem_take_iff_getElem];exact⟨i,by omega,rfl⟩
 .rintro ⟨h1,c⟩ i hi;have hi:=List.mem_range.1 hi;rw[Bool.and_eq_true,Bool.not_eq_true',decide_eq_false_iff_not,a i hi];refine⟨h1 _ (List.getElem_mem hi),fun hm=>?_⟩;obtain⟨j,b,e⟩:=List.mem_take_iff_getElem.1 hm;exact List.pairwise_iff_getElem.1 c j i (by omega) hi (by omega) e
theorem VD {nm:By->Bool} {ops:List By} {k:Nat} (hk:k<ops.length) (h:nm (ops.getD k ai)=false\/ops.getD k ai∈ops.take k):GM nm ops=false:=by
 rw[Bool.eq_false_iff];intro a;obtain⟨_,b,c⟩:=(OL nm ops).1 a;rw[gZ hk] at h;rcases h with h|h
 .rw [Option.getD_some,b _ (List.getElem_mem hk)] at h;cases h
 .obtain ⟨j,d,e⟩:=List.mem_take_iff_getElem.1 h;exact List.pairwise_iff_getElem.1 c j k (by omega) hk (by omega) e
abbrev Rl:=Tm×Tm
theorem aB.ve {β:Type} {enc:β->Value} {d:β} {S:Nat->Prop} {w:World} {a:Option Addr} {n cap:Nat} {l:List β} (h:aB S w 1 (.slice a n cap) l.length (l.map enc)) (hl:0<l.length):
  ∃g off,a=some ⟨g,off,none⟩/\S g/\∀i,i<l.length->w.cell? ⟨g,off+i,none⟩=some (enc (l.getD i d)):=by
 obtain⟨g,off,c,e,_,hS,b⟩:=aB.pos h hl;injection e with j k o
 refine⟨g,off,j,hS,fun i hi=>?_⟩;rw[b i (by omega),List.getElem?_map,List.getElem?_eq_getElem hi,List.getD_eq_getElem?_getD,List.getElem?_eq_getElem hi];rfl
theorem XC {P:Tm->Prop} {L:List Tm} (h: ∀j,j<L.length->P (tg L j)): ∀k∈L,P k:=by
 intro k hk;obtain⟨i,hi,rfl⟩:=List.mem_iff_getElem.1 hk;have a:tg L i=L[i]:=by unfold tg;rw[gZ hi];rfl
 rw[<-a];exact h i hi
theorem Wj {L:List Tm} {k:Nat} (h:k<L.length):tg L k∈L:=by
 unfold tg;rw[gZ h];exact List.getElem_mem h
abbrev rg (L:List Rl) (i:Nat):Rl:=L.getD i (default,default)
def IG (L:List Rl):List Tm:=L.flatMap fun r=>[r.1,r.2]
theorem Vo (L:List Rl):(IG L).length=2*L.length:=by
 induction L with
 |nil=>rfl
 |cons a L b=>unfold IG at b⊢;rw[List.flatMap_cons,List.length_append,b];simp;omega
theorem Zj: ∀(L:List Rl) (i:Nat),i<L.length->tg (IG L) (2*i)=(rg L i).1/\tg (IG L) (2*i+1)=(rg L i).2
 |r::L,0,_=>⟨rfl,rfl⟩
 |r::L,i+1,h=>by
  have a:=Zj L i (by simpa using h);have e:IG (r::L)=r.1::r.2::IG L:=rfl;rw[e,show 2*(i+1)=2*i+1+1 by omega];exact a
theorem nZ {L:List Rl} {i:Nat} (h:i<L.length):rg L i∈L:=by unfold rg;rw[gZ h];exact List.getElem_mem h
def jH (S:Nat->Prop) (w:World) (L:List Rl) (v:Value):Prop:= ∃a cap,v= .slice a L.length cap/\aG S w (IG L) (.slice a (2*L.length) (2*cap))
section
variable {S T F:Nat->Prop} {w w':World} {L:List Rl} {v:Value}
theorem jH.shape (h:jH S w L v): ∃a cap,v= .slice a L.length cap:=by
 obtain⟨a,cap,e,_⟩:=h;exact⟨a,cap,e⟩
theorem jH.kept (h:jH S w L v) (hu:au F w w') (hF: ∀k,S k->¬F k):jH S w' L v:=by
 obtain⟨a,cap,e,h⟩:=h;exact⟨a,cap,e,h.kept hu hF⟩
theorem jH.ext (h:jH S w L v) (hu:Ext w w'):jH S w' L v:=h.kept hu (fun _ _ h=>h)
theorem jH.weaken (h:jH S w L v) (hs: ∀k,S k->T k):jH T w L v:=by
 obtain⟨a,cap,e,h⟩:=h;exact⟨a,cap,e,h.weaken hs⟩
theorem jH.at_ {a:Option Addr} {n cap:Nat} (h:jH S w L (.slice a n cap)) (y:0<L.length):
  ∃g off,a=some ⟨g,off,none⟩/\S g/\∀i,i<L.length->∃b c d j,w.cell? ⟨g,off+i*6,none⟩=some (.string (rg L i).1.name)/\w.cell? ⟨g,off+i*6+1,none⟩=some (.string (rg L i).1.sort)/\w.cell? ⟨g,off+i*6+2,none⟩=some (.slice b (rg L i).1.kids.length c)/\
   w.cell? ⟨g,off+i*6+3,none⟩=some (.string (rg L i).2.name)/\w.cell? ⟨g,off+i*6+4,none⟩=some (.string (rg L i).2.sort)/\w.cell? ⟨g,off+i*6+5,none⟩=some (.slice d (rg L i).2.kids.length j)/\
   aG S w (rg L i).1.kids (.slice b (rg L i).1.kids.length c)/\aG S w (rg L i).2.kids (.slice d (rg L i).2.kids.length j):=by
 obtain⟨a',x,e,h⟩:=h;injection e with u z A
 subst u;have hf:=Vo L;obtain⟨g,off,e,hS,k⟩:=h.at_ (by omega);refine⟨g,off,e,hS,fun i hi=>?_⟩;obtain⟨f1,f2⟩:=Zj L i hi;obtain⟨b,c,h0,h1,l,o⟩:=k (2*i) (by omega);obtain⟨d,j,p,q,r,t⟩:=k (2*i+1) (by omega);rw[f1] at h0 h1 l o;rw[f2] at p q r t;refine⟨b,c,d,j,?_,?_,?_,?_,?_,?_,o,t⟩
 .rw [show off+i*6=off+2*i*3 by omega];exact h0
 .rw [show off+i*6+1=off+(2*i*3+1) by omega];exact h1
 .rw [show off+i*6+2=off+(2*i*3+2) by omega];exact l
 .rw [show off+i*6+3=off+(2*i+1)*3 by omega];exact p
 .rw [show off+i*6+4=off+((2*i+1)*3+1) by omega];exact q
 .rw [show off+i*6+5=off+((2*i+1)*3+2) by omega];exact r
end
end
section
open Tm
abbrev Dc:=By×List By×By
abbrev Sg:=List By×List Dc
abbrev dg (l:List Dc) (i:Nat):Dc:=l.getD i (ai,[],ai)
def cO (l:List Dc) (s:By):Nat:=l.findIdx fun d=>decide (d.1=s)
def mQ (l:List Dc) (s:By):Int:=if cO l s<l.length then(cO l s:Int) else -1
theorem wo {l:List Dc} {i:Nat} (h:i<l.length):dg l i=l[i]:=by unfold dg;rw[gZ h];rfl
theorem Ua {l:List Dc} {s:By} {k:Nat} (hk:k<l.length) (h1: ∀j,j<k->(dg l j).1≠s) (c:(dg l k).1=s):cO l s=k:=by
 unfold cO;rcases Nat.lt_trichotomy (l.findIdx fun d=>decide (d.1=s)) k with h|h|h
 .have b:(l.findIdx fun d=>decide (d.1=s))<l.length:=by omega
  have a:=List.findIdx_getElem (w:=b);rw[decide_eq_true_eq,<-wo b] at a;exact absurd a (h1 _ h)
 .exact h
 .have a:=List.not_of_lt_findIdx h;rw[<-wo hk,decide_eq_false_iff_not] at a;exact absurd c a
theorem XB {l:List Dc} {s:By} (h: ∀j,j<l.length->(dg l j).1≠s): ¬cO l s<l.length:=by
 intro h1;have a:(l.findIdx fun d=>decide (d.1=s))<l.length:=h1;have b:=List.findIdx_getElem (w:=a);rw[decide_eq_true_eq,<-wo a] at b;exact h _ a b
def okD (nm:By->Bool) (g:Sg) (i:Nat):Bool:=nm (dg g.2 i).1&&(decide (cO g.2 (dg g.2 i).1=i)&&(decide ((dg g.2 i).2.1.length<=6)&&(decide ((dg g.2 i).2.2∈g.1)&&(dg g.2 i).2.1.all fun s=>decide (s∈g.1))))
def lh (nm:By->Bool) (g:Sg):Bool:=decide (g.1.length<=40)&&(decide (g.2.length<=100)&&(GM nm g.1&&(List.range g.2.length).all (okD nm g)))
def fZ (g:Sg) (t:Tm):By:=if t.sort≠ai then t.sort else if cO g.2 t.name<g.2.length then(dg g.2 (cO g.2 t.name)).2.2 else ai
def ou (g:Sg) (L:List Tm) (A:List By):Bool:=(List.range L.length).any fun k=>!decide (fZ g (tg L k)=ai)&&!decide (fZ g (tg L k)=A.getD k ai)
mutual
def ed (g:Sg):Tm->Int
 | .mk n s L=>if s≠ai then(if s∈g.1 then 0 else 9) else if ¬cO g.2 n<g.2.length then 9 else if L.length≠(dg g.2 (cO g.2 n)).2.1.length then 3 else if ou g L (dg g.2 (cO g.2 n)).2.1=true then 11 else jf g L
def jf (g:Sg):List Tm->Int
 |[]=>0
 |a::L=>if ed g a≠0 then ed g a else jf g L
end
theorem Nv (g:Sg) (n s:By) (L:List Tm):ed g (.mk n s L)=if s≠ai then(if s∈g.1 then 0 else 9) else if ¬cO g.2 n<g.2.length then 9 else if L.length≠(dg g.2 (cO g.2 n)).2.1.length then 3 else if ou g L (dg g.2 (cO g.2 n)).2.1=true then 11 else jf g L:=by rw[ed]
theorem EG (g:Sg): ∀L:List Tm,jf g L=0<->∀x∈L,ed g x=0
 |[]=>by simp[jf]
 |a::L=>by
  have b:=EG g L;rw[jf];by_cases h:ed g a=0
  .rw [if_neg (by simp[h]),b];simp[h]
  .rw [if_pos h];simp[h]
theorem Ic (g:Sg): ∀(L:List Tm) (k:Nat),k<L.length->(∀j,j<k->ed g (tg L j)=0)->ed g (tg L k)≠0->jf g L=ed g (tg L k)
 |a::L,0,_,_,h=>by rw[jf,if_pos (show ed g a≠0 from h)];rfl
 |a::L,k+1,hk,h1,h=>by
  rw[jf,if_neg (by rw[show ed g a=0 from h1 0 (by omega)];simp)];exact Ic g L k (by simpa using hk) (fun j b=>h1 (j+1) (by omega)) h
def oJ:List Dc->List Value->List Value
 |[],_=>[]
 |d::l,us=> .string d.1::us.headD rW:: .string d.2.2::oJ l us.tail
theorem OO: ∀(l:List Dc) (us:List Value) (i:Nat),i<l.length->
  (oJ l us)[i*3]?=some (.string (dg l i).1)/\(oJ l us)[i*3+1]?=some (ug us i)/\(oJ l us)[i*3+2]?=some (.string (dg l i).2.2)
 |d::l,us,0,_=>by
  refine⟨rfl,?_,rfl⟩;cases us<;>rfl
 |d::l,us,i+1,h=>by
  obtain⟨h0,h1,a⟩:=OO l us.tail i (by simpa using h);have e: ∀k,(oJ (d::l) us)[(i+1)*3+k]?=(oJ l us.tail)[i*3+k]?:=fun k=>by
   rw[show(i+1)*3+k=i*3+k+1+1+1 by omega];rfl
  refine⟨by rw[<-Nat.add_zero ((i+1)*3),e];exact h0,?_,by rw[e];exact a⟩;rw[e,h1];cases us<;>rfl
abbrev yA (S:Nat->Prop) (w:World) (v:Value) (l:List By):Prop:=aB S w 1 v l.length (l.map Value.string)
def tJ (S:Nat->Prop) (w:World) (v:Value) (l:List Dc):Prop:= ∃us,aB S w 3 v l.length (oJ l us)/\∀i,i<l.length->yA S w (ug us i) (dg l i).2.1
section
variable {S T F:Nat->Prop} {w w':World} {v:Value} {l:List Dc}
theorem tJ.shape (h:tJ S w v l): ∃a cap,v= .slice a l.length cap:=by
 obtain⟨us,h,_⟩:=h;exact h.shape
theorem tJ.kept (h:tJ S w v l) (hu:au F w w') (hF: ∀k,S k->¬F k):tJ S w' v l:=by
 obtain⟨us,h,a⟩:=h;exact⟨us,h.kept hu hF,fun i hi=>aB.kept (a i hi) hu hF⟩
theorem tJ.ext (h:tJ S w v l) (hu:Ext w w'):tJ S w' v l:=h.kept hu (fun _ _ h=>h)
theorem tJ.at_ {a:Option Addr} {n cap:Nat} (h:tJ S w (.slice a n cap) l) (hl:0<l.length): ∃g off,a=some ⟨g,off,none⟩/\S g/\∀i,i<l.length->∃b c,w.cell? ⟨g,off+i*3,none⟩=some (.string (dg l i).1)/\
  w.cell? ⟨g,off+i*3+1,none⟩=some (.slice b (dg l i).2.1.length c)/\w.cell? ⟨g,off+i*3+2,none⟩=some (.string (dg l i).2.2)/\yA S w (.slice b (dg l i).2.1.length c) (dg l i).2.1:=by
 obtain⟨us,h,j⟩:=h;obtain⟨g,off,t,e,hc,hS,d⟩:=h.pos hl;injection e with p u x
 refine⟨g,off,p,hS,fun i hi=>?_⟩;obtain⟨q,k,r⟩:=OO l us i hi;obtain⟨b,c,hx⟩:=aB.shape (j i hi);have o:=j i hi;rw[hx] at k o;exact⟨b,c,by rw[d _ (by omega),q],by rw[Nat.add_assoc,d _ (by omega),k],by rw[Nat.add_assoc,d _ (by omega),r],o⟩
end
def xN (S:Nat->Prop) (w:World) (g:Sg) (v:Value):Prop:= ∃a sc b c,v= .agg #[.slice a g.1.length sc,.slice b g.2.length c]/\yA S w (.slice a g.1.length sc) g.1/\tJ S w (.slice b g.2.length c) g.2
theorem xN.ext {S:Nat->Prop} {w w':World} {g:Sg} {v:Value} (h:xN S w g v) (hu:Ext w w'):xN S w' g v:=by
 obtain⟨a,sc,b,c,e,h1,d⟩:=h;exact⟨a,sc,b,c,e,aB.kept h1 hu (fun _ _ h=>h),d.ext hu⟩
end
section
open Tm
inductive aU (te:TypeId) (w:World):(Nat->Prop)->List Tm->Value->Prop
 |mk (B:Nat->Prop) (L:List Tm) (us:List Value) (v:Value) (Bk:Nat->Nat->Prop)
   (hl:us.length=L.length) (hown:w.ownsRow 0 te 3 v L.length (dK L us))
   (hb: ∀k,v.ownBlock=some k->B k) (hkb: ∀i k,i<L.length->Bk i k->B k)
   (hrow: ∀i k,i<L.length->Bk i k->v.ownBlock≠some k)
   (hdis: ∀i j k,i<L.length->j<L.length->i≠j->Bk i k->¬Bk j k)
   (hk: ∀i,i<L.length->aU te w (Bk i) (tg L i).kids (ug us i)):aU te w B L v
section
variable {te:TypeId} {w w':World} {B B' F S:Nat->Prop} {L:List Tm} {v:Value}
theorem aU.nil (te:TypeId) (w:World) (B:Nat->Prop):aU te w B [] rW:=
 ⟨B,[],[],rW,fun _ _=>False,rfl,⟨rfl,.inl ⟨rfl,rfl⟩⟩,fun k h=>by simp[Value.ownBlock] at h,fun i k h=>absurd h (Nat.not_lt_zero _),fun i k h=>absurd h (Nat.not_lt_zero _),fun i j k h=>absurd h (Nat.not_lt_zero _),fun i h=>absurd h (Nat.not_lt_zero _)⟩
theorem aU.weaken (h:aU te w B L v) (a: ∀k,B k->B' k):aU te w B' L v:=by
 cases h with
 |mk _ _ us _ Bk hl hown hb hkb hrow hdis hk=>exact⟨B',L,us,v,Bk,hl,hown,fun k h=>a k (hb k h),fun i k hi h=>a k (hkb i k hi h),hrow,hdis,hk⟩
theorem aU.kept (h:aU te w B L v) (hu:au F w w') (hF: ∀k,B k->¬F k):aU te w' B L v:=by
 induction h with
 |mk B L us v Bk hl hown hb hkb hrow hdis hk b=>
  exact⟨B,L,us,v,Bk,hl,bM hown hu (fun k hk=>hF k (hb k hk)),hb,hkb,hrow,hdis,fun i hi=>b i hi (fun k a=>hF k (hkb i k hi a))⟩
theorem aU.read (h:aU te w B L v):aG B w L v:=by
 induction h with
 |mk B L us v Bk hl hown hb hkb hrow hdis hk b=>
  exact .mk L us v hl ((aB.gG hown).weaken hb) (fun i hi=>(b i hi).weaken (fun k a=>hkb i k hi a))
end
def rM:Tm->List Nat->Prop
 |_,[]=>True
 |t,i::p=>i<t.kids.length/\rM (tg t.kids i) p
def wZ:Tm->List Nat->Tm
 |t,[]=>t
 |t,i::p=>wZ (tg t.kids i) p
def rY (w:World):List Nat->Nat×Nat->Nat×Nat->Prop
 |[],a,a'=>a'=a
 |i::p,a,a'=> ∃g off n c,w.cell? ⟨a.1,a.2+2,none⟩=some (.slice (some ⟨g,off,none⟩) n c)/\rY w p (g,off+i*3) a'
def h_ (w:World) (a:Nat×Nat) (n s:By) (u:Value):World:=((w.setCell ⟨a.1,a.2,none⟩ (.string n)).setCell ⟨a.1,a.2+1,none⟩ (.string s)).setCell ⟨a.1,a.2+2,none⟩ u
theorem xe (w:World) (a:Nat×Nat) (n s:By) (u:Value):au (fun k=>k=a.1) w (h_ w a n s u):=
 (((au.refl (fun k=>k=a.1) w).setCell (p:=⟨a.1,a.2,none⟩) (.inl rfl) _).setCell (p:=⟨a.1,a.2+1,none⟩) (.inl rfl) _).setCell (p:=⟨a.1,a.2+2,none⟩) (.inl rfl) _
theorem xx {w:World} {b:Nat} {e:TypeId} {g cap n size:Nat} {xs:List Value} (h:w.ownsRow b e size (.slice (az g) n cap) n xs) (j:Nat) (u:Value):
  (w.setCell ⟨g,j,none⟩ u).ownsRow b e size (.slice (az g) n cap) n (xs.set j u):=by
 obtain⟨h1,⟨c,_⟩|⟨g',r,cur,c,d,i,k,l,o,p⟩⟩:=h
 .cases c
 .injection c with a t q
  injection a with a
  injection a with a
  subst a;subst q;refine⟨by rw[List.length_set];exact h1,.inr ⟨g,cap,_,rfl,d,setBlock i j u,k,l,by rw[Array.size_setIfInBounds];exact o,?_⟩⟩;rw[<-p,Array.toList_setIfInBounds,List.take_set]
theorem Di: ∀(L:List Tm) (us:List Value) (i:Nat) (y:Tm) (u:Value),us.length=L.length->i<L.length->(((dK L us).set (i*3) (.string y.name)).set (i*3+1) (.string y.sort)).set (i*3+2) u=dK (L.set i y) (us.set i u)
 |t::L,a::us,0,y,u,_,_=>rfl
 |t::L,a::us,i+1,y,u,hl,hi=>by
  have b:=Di L us i y u (by simpa using hl) (by simpa using hi);rw[show(i+1)*3=i*3+1+1+1 by omega];simp only[dK,List.headD_cons,List.tail_cons,List.set_cons_succ,<-b]
theorem IM: ∀(L:List Tm) (us:List Value) (i:Nat) (y:Tm),y.name=(tg L i).name->y.sort=(tg L i).sort->dK (L.set i y) us=dK L us
 |[],_,_,_,_,_=>rfl
 |t::L,us,0,y,h1,a=>by
  simp only[List.set_cons_zero,dK];rw[show y.name=t.name from h1,show y.sort=t.sort from a]
 |t::L,us,i+1,y,h1,a=>by
  simp only[List.set_cons_succ,dK];rw[IM L us.tail i y h1 a]
theorem RI (L:List Tm) (i j:Nat) (y:Tm) (hi:i<L.length):tg (L.set i y) j=if i=j then y else tg L j:=by
 unfold tg;rw[List.getD_eq_getElem?_getD,List.getElem?_set];by_cases h:i=j
 .subst h;rw[if_pos rfl,if_pos rfl,if_pos hi];rfl
 .rw [if_neg h,if_neg h,List.getD_eq_getElem?_getD]
theorem YP (us:List Value) (i j:Nat) (u:Value) (hi:i<us.length):ug (us.set i u) j=if i=j then u else ug us j:=by
 unfold ug;rw[List.getD_eq_getElem?_getD,List.getElem?_set];by_cases h:i=j
 .subst h;rw[if_pos rfl,if_pos rfl,if_pos hi];rfl
 .rw [if_neg h,if_neg h,List.getD_eq_getElem?_getD]
theorem ru {w:World} {b:Nat} {e:TypeId} {size n:Nat} {v:Value} {xs:List Value} (h:w.ownsRow b e size v n xs) (hn:0<n): ∃g cap cur,v= .slice (az g) n cap/\w.heap[g]?=some (.cells cur e (0,0))/\n*size<=cur.size:=by
 rcases h.2 with⟨_,c⟩|⟨g,cap,cur,rfl,hb,a,hc,hm,hs,d⟩
 .omega
 .exact ⟨g,cap,cur,rfl,a,by rw[hs];exact Nat.mul_le_mul_right _ hc⟩
theorem Tn {te:TypeId} {w:World} (y:Tm) (u:Value) (S:Nat->Prop) (hy:aG S w y.kids u): ∀(p:List Nat) (i:Nat) (L:List Tm) (v:Value) (B:Nat->Prop) (g n c:Nat) (a:Nat×Nat),aU te w B L v->(∀k,S k->¬B k)->v= .slice (az g) n c->i<L.length->rM (tg L i) p->rY w p (g,i*3) a->
  B a.1/\(∃cur,w.heap[a.1]?=some (.cells cur te (0,0))/\a.2+2<cur.size)/\aG (fun k=>B k\/S k) (h_ w a y.name y.sort u) (L.set i (putAt (tg L i) p y)) v
 |[],i,L,v,B,g,n,c,a,h,hS,hv,hi,hp,ha=>by
  have ha:a=(g,i*3):=ha;subst ha;cases h with
  |mk _ _ us _ Bk hl hown hb hkb hrow hdis hk=>
   obtain⟨g',cap,cur,o,H,M⟩:=ru hown (by omega);rw[hv] at o;injection o with b I O
   injection b with b
   injection b with b
   subst b;have C:B g:=hb g (by rw[hv];rfl);refine⟨C,⟨cur,H,by show i*3+2<_;omega⟩,?_⟩;have r:=xe w (g,i*3) y.name y.sort u;have x:(h_ w (g,i*3) y.name y.sort u).ownsRow 0 te 3 v L.length (dK (L.set i y) (us.set i u)):=by
    rw[<-Di L us i y u hl hi];rw[hv,I] at hown⊢;exact xx (xx (xx hown _ _) _ _) _ _
   have t:putAt (tg L i) [] y=y:=by cases tg L i;rfl
   rw[t];refine .mk _ (us.set i u) v (by simp[hl]) (by rw[List.length_set];exact(aB.gG x).weaken (fun k hk=> .inl (hb k hk))) (fun j d=>?_);rw[List.length_set] at d;rw[RI L i j y hi,YP us i j u (by omega)];by_cases l:i=j
   .rw [if_pos l,if_pos l];exact(hy.kept r (fun k hk e=>hS k hk (by rw[show k=g from e];exact C))).weaken (fun k hk=> .inr hk)
   .rw [if_neg l,if_neg l];exact((hk j d).kept r (fun k hk e=>hrow j k d hk (by rw[hv,show k=g from e];rfl))).read.weaken (fun k hk=> .inl (hkb j k d hk))
 |i'::p,i,L,v,B,g,n,c,a,h,hS,hv,hi,hp,ha=>by
  cases h with
  |mk _ _ us _ Bk hl hown hb hkb hrow hdis hk=>
   obtain⟨g',cap,cur,o,H,M⟩:=ru hown (by omega);have U:=hv;rw[hv] at o;injection o with b I O
   injection b with b
   injection b with b
   subst b;obtain⟨g2,P,Q,c2,q,D⟩:=ha;have hcell:w.cell? ⟨g,i*3+2,none⟩=some (ug us i):=by
    have h1:=aB.cellAt (aB.gG hown) (g:=g) (off:=0) (by rw[hv]) (j:=i*3+2) (by omega);rw[Nat.zero_add] at h1;rw[h1];exact(Aw L us i hi).2.2
   rw[hcell] at q;injection q with q
   have E:=hk i hi;have J:P=0:=by
    have h0:0< (tg L i).kids.length:=by have:=hp.1;omega
    cases E with
    |mk _ _ W _ _ _ x _ _ _ _ _=>
     obtain⟨g3,c3,V,G,_,_⟩:=ru x h0;rw[q] at G;injection G with t _ _
     injection t with t
     injection t
   subst J;obtain⟨h1,R,A⟩:=Tn y u S hy p i' (tg L i).kids (ug us i) (Bk i) g2 Q c2 a E (fun k hk N=>hS k hk (hkb i k hi N)) q hp.1 hp.2 (by rw[Nat.zero_add] at D;exact D);have r:=xe w a y.name y.sort u;refine⟨hkb i _ hi h1,R,?_⟩;obtain⟨nm,so,K,hK⟩: ∃nm so K,tg L i= .mk nm so K:=⟨_,_,_,(eta _).symm⟩
   have T:putAt (tg L i) (i'::p) y= .mk nm so (K.set i' (putAt (tg K i') p y)):=by rw[hK];rfl
   rw[hK] at A;simp only[Tm.kids] at A;rw[T];refine .mk _ us v (by simp[hl]) ?_ (fun j d=>?_)
   .rw [List.length_set,IM L us i _ (by rw[hK];rfl) (by rw[hK];rfl)];exact(aB.kept (aB.gG hown) r (fun k hk e=>hrow i k hi (by rw[show k=a.1 from e];exact h1) hk)).weaken (fun k hk=> .inl (hb k hk))
   .rw [List.length_set] at d;rw[RI L i j _ hi];by_cases l:i=j
    .subst l;rw[if_pos rfl];simp only[Tm.kids];exact A.weaken (fun k hk=>hk.elim (fun hk=> .inl (hkb i k hi hk)) .inr)
    .rw [if_neg l];exact((hk j d).kept r (fun k z e=>hdis i j k hi d l (by rw[show k=a.1 from e];exact h1) z)).read.weaken (fun k z=> .inl (hkb j k d z))
theorem adX {te:TypeId} {w:World} {b:Nat} {B S:Nat->Prop} {t y:Tm} {u0 u:Value} {p:List Nat} {a:Nat×Nat} (hb:w.heap[b]?=some (.cells #[.string t.name,.string t.sort,u0] te (0,0))) (h:aU te w B t.kids u0) (r: ¬B b) (hy:aG S w y.kids u) (hS: ∀k,S k->¬B k/\k≠b) (hp:rM t p) (ha:rY w p (b,0) a):
  (a.1=b\/B a.1)/\(∃cur,w.heap[a.1]?=some (.cells cur te (0,0))/\a.2+2<cur.size)/\∃l,(h_ w a y.name y.sort u).heap[b]?=some (.cells #[.string (putAt t p y).name,.string (putAt t p y).sort,l] te (0,0))/\aG (fun k=>B k\/S k) (h_ w a y.name y.sort u) (putAt t p y).kids l:=by
 cases p with
 |nil=>
  have ha:a=(b,0):=ha;subst ha;have d:putAt t [] y=y:=by cases t;rfl
  rw[d];refine⟨.inl rfl,⟨_,hb,by simp⟩,u,?_,(hy.kept (xe w (b,0) y.name y.sort u) (fun k hk e=>(hS k hk).2 e)).weaken (fun k hk=> .inr hk)⟩;have:=setBlock (setBlock (setBlock hb 0 (.string y.name)) 1 (.string y.sort)) 2 u;simpa[h_] using this
 |cons i p=>
  obtain⟨g,off,n,c,hc,ha⟩:=ha;have hcell:w.cell? ⟨b,0+2,none⟩=some u0:=ag hb 2 u0 rfl;rw[hcell] at hc;injection hc with hc
  have q:off=0:=by
   have h0:0<t.kids.length:=by have:=hp.1;omega
   cases h with
   |mk _ _ C _ _ _ o _ _ _ _ _=>
    obtain⟨g3,c3,A,j,_,_⟩:=ru o h0;rw[hc] at j;injection j with d _ _
    injection d with d
    injection d
  subst q;obtain⟨h1,x,z⟩:=Tn y u S hy p i t.kids u0 B g n c a h (fun k hk=>(hS k hk).1) hc hp.1 hp.2 (by rw[Nat.zero_add] at ha;exact ha);refine⟨.inr h1,x,u0,?_,?_⟩
  .have e:(putAt t (i::p) y).name=t.name/\(putAt t (i::p) y).sort=t.sort:=by cases t;exact⟨rfl,rfl⟩
   rw[e.1,e.2];exact(xe w a y.name y.sort u).heap hb (fun e=>r (by rw[show b=a.1 from e];exact h1))
  .have e:(putAt t (i::p) y).kids=t.kids.set i (putAt (tg t.kids i) p y):=by cases t;rfl
   rw[e];exact z
end
section
open Tm
abbrev Sb:=By->Option Tm
def Sb.put (σ:Sb) (n:By) (t:Tm):Sb:=fun m=>if m=n then some t else σ m
mutual
def lq:Tm->Tm->Sb->Option Sb
 | .mk n s L,t,σ=>
  if s=ai then(if t.sort=ai/\t.name=n/\t.kids.length=L.length then o6 L t.kids σ else none)
  else match σ n with
   |some x=>if x=t then some σ else none
   |none=>if t.sort≠ai/\t.sort≠s then none else some (σ.put n t)
def o6:List Tm->List Tm->Sb->Option Sb
 |[],_,σ=>some σ
 |_::_,[],_=>none
 |a::L,b::M,σ=>match lq a b σ with
  |none=>none
  |some τ=>o6 L M τ
end
theorem LK {n:By} {L:List Tm} {t:Tm} {σ:Sb} (h:t.sort=ai/\t.name=n/\t.kids.length=L.length):lq (.mk n ai L) t σ=o6 L t.kids σ:=by
 unfold lq;rw[if_pos rfl,if_pos h]
theorem BD {n:By} {L:List Tm} {t:Tm} {σ:Sb} (h: ¬(t.sort=ai/\t.name=n/\t.kids.length=L.length)):lq (.mk n ai L) t σ=none:=by
 unfold lq;rw[if_pos rfl,if_neg h]
theorem EM {n s:By} {L:List Tm} {t x:Tm} {σ:Sb} (hs:s≠ai) (h:σ n=some x):lq (.mk n s L) t σ=if x=t then some σ else none:=by
 unfold lq;rw[if_neg hs,h]
theorem Cj {n s:By} {L:List Tm} {t:Tm} {σ:Sb} (hs:s≠ai) (h:σ n=none):lq (.mk n s L) t σ=if t.sort≠ai/\t.sort≠s then none else some (σ.put n t):=by
 unfold lq;rw[if_neg hs,h]
theorem ZY {L M:List Tm} {σ:Sb} {k:Nat} (a:k<L.length) (b:k<M.length):
  o6 (L.drop k) (M.drop k) σ=match lq (tg L k) (tg M k) σ with|none=>none|some c=>o6 (L.drop (k+1)) (M.drop (k+1)) c:=by
 have d:L.drop k=tg L k::L.drop (k+1):=by
  rw[List.drop_eq_getElem_cons a];unfold tg;rw[gZ a];rfl
 have e:M.drop k=tg M k::M.drop (k+1):=by
  rw[List.drop_eq_getElem_cons b];unfold tg;rw[gZ b];rfl
 rw[d,e];rfl
def lu (σ:Sb) (t:Tm):Tm:=iW (fun n _=>(σ n).getD default) t
theorem Ug (σ:Sb) (n:By) (L:List Tm):lu σ (.mk n ai L)= .mk n ai (L.map (lu σ)):=Zi _ rfl
theorem P_ (σ:Sb) {n s:By} {L:List Tm} (h:s≠ai):lu σ (.mk n s L)=(σ n).getD default:=by
 unfold lu iW;rw[if_neg h]
def sb0:Sb:=fun _=>none
def qm (r:Rl) (t:Tm):Option Tm:=(lq r.1 t sb0).map fun σ=>lu σ r.2
def r_:Nat->List Rl->Tm->Option (Nat×Tm)
 |_,[],_=>none
 |i,r::l,t=>match qm r t with
  |some u=>some (i,u)
  |none=>r_ (i+1) l t
mutual
def jk (l:List Rl):Tm->Option (Nat×List Nat×Tm)
 | .mk n s L=>match qo l 0 L with
  |some x=>some x
  |none=>(r_ 0 l (.mk n s L)).map fun x=>(x.1,[],x.2)
def qo (l:List Rl):Nat->List Tm->Option (Nat×List Nat×Tm)
 |_,[]=>none
 |i,a::L=>match jk l a with
  |some x=>some (x.1,i::x.2.1,x.2.2)
  |none=>qo l (i+1) L
end
theorem LV (l:List Rl) (n s:By) (L:List Tm):jk l (.mk n s L)=match qo l 0 L with|some x=>some x|none=>(r_ 0 l (.mk n s L)).map fun x=>(x.1,[],x.2):=by
 conv=>lhs;unfold jk
theorem LW (l:List Rl) (L:List Tm) (k:Nat) (h:k<L.length):qo l k (L.drop k)=match jk l (tg L k) with|some x=>some (x.1,k::x.2.1,x.2.2)|none=>qo l (k+1) (L.drop (k+1)):=by
 have a:L.drop k=tg L k::L.drop (k+1):=by
  rw[List.drop_eq_getElem_cons h];unfold tg;rw[gZ h];rfl
 rw[a]
 conv=>lhs;unfold qo
theorem LZ (l:List Rl) (t:Tm) (k:Nat) (h:k<l.length):r_ k (l.drop k) t=match qm (rg l k) t with|some u=>some (k,u)|none=>r_ (k+1) (l.drop (k+1)) t:=by
 have a:l.drop k=rg l k::l.drop (k+1):=by
  rw[List.drop_eq_getElem_cons h];unfold rg;rw[gZ h];rfl
 rw[a]
 conv=>lhs;unfold r_
theorem aeT (l:List Rl) (t:Tm): ∀(m:List Rl) (k i:Nat) (u:Tm),m=l.drop k->k<=l.length->r_ k m t=some (i,u)->i<l.length/\qm (rg l i) t=some u:=by
 intro m
 induction m with
 |nil=>intro k i u _ _ h;cases h
 |cons r m c=>
  intro k i u hm hk h;have a:k<l.length:=by
   apply Nat.lt_of_not_le;intro e;rw[List.drop_eq_nil_of_le e] at hm;cases hm
  rw[hm,LZ l t k a] at h;cases ha:qm (rg l k) t with
  |some y=>
   rw[ha] at h;injection h with h
   injection h with h1 d
   subst h1;subst d;exact⟨a,ha⟩
  |none=>
   rw[ha] at h;have b:m=l.drop (k+1):=by
    have:=congrArg List.tail hm;simpa using this
   rw[<-b] at h;exact c (k+1) i u b a h
theorem yP (l:List Rl): ∀(t:Tm) (i:Nat) (p:List Nat) (u:Tm),jk l t=some (i,p,u)->rM t p/\i<l.length/\qm (rg l i) (wZ t p)=some u:=by
 refine Tm.ind (fun n s L g=>?_);intro i p u h;rw[LV] at h;have key: ∀(N k:Nat),L.length-k<=N->k<=L.length->∀(i:Nat) (p:List Nat) (u:Tm),qo l k (L.drop k)=some (i,p,u)->∃j q,p=j::q/\j<L.length/\rM (tg L j) q/\i<l.length/\qm (rg l i) (wZ (tg L j) q)=some u:=by
  intro N
  induction N with
  |zero=>
   intro k o hk i p u h;rw[List.drop_eq_nil_of_le (by omega)] at h;unfold qo at h;cases h
  |succ N e=>
   intro k o hk i p u h;by_cases b:k<L.length
   .rw [LW l L k b] at h;cases hf:jk l (tg L k) with
    |some x=>
     rw[hf] at h;injection h with h
     obtain⟨y,r,z⟩:=x;injection h with h1 a
     injection a with a c
     subst h1;subst c;have d:tg L k∈L:=by unfold tg;rw[gZ b];exact List.getElem_mem b
     obtain⟨g1,g2,g3⟩:=g _ d _ _ _ hf;exact⟨k,r,a.symm,b,g1,g2,g3⟩
    |none=>
     rw[hf] at h;exact e (k+1) (by omega) b i p u h
   .rw [List.drop_eq_nil_of_le (by omega)] at h;unfold qo at h;cases h
 cases hl:qo l 0 L with
 |some x=>
  rw[hl] at h;injection h with h
  subst h;obtain⟨j,q,hp,w,g1,g2,g3⟩:=key L.length 0 (by omega) (Nat.zero_le _) i p u (by simpa using hl);subst hp;exact⟨⟨w,g1⟩,g2,g3⟩
 |none=>
  rw[hl] at h;cases hf:r_ 0 l (.mk n s L) with
  |none=>rw[hf] at h;cases h
  |some x=>
   rw[hf] at h;injection h with h
   injection h with h1 a
   injection a with a c
   subst h1;subst a;subst c;obtain⟨g1,g2⟩:=aeT l _ l 0 x.1 x.2 rfl (Nat.zero_le _) hf;exact⟨trivial,g1,g2⟩
theorem Om: ∀(p:List Nat) (t:Tm),rM t p->∀y∈bu (wZ t p),y∈bu t
 |[],t,_=>fun y hy=>hy
 |i::p,t,h=>fun y hy=>lX (Wj h.1) (Om p _ h.2 y hy)
theorem Xc {x y:Tm}: ∀{t:Tm},x∈bu t->y∈bu x->y∈bu t:=by
 refine fun{t}=>Tm.ind (P:=fun t=>x∈bu t->y∈bu x->y∈bu t) (fun n s L a=>?_) t;intro hx hy;rw[lS,List.mem_cons] at hx;rcases hx with e|hx
 .subst e;exact hy
 .obtain ⟨k,hk,hx⟩:=List.mem_flatMap.1 hx;exact lX hk (a k hk hx hy)
end
section
open Go.Sort Go.Proofs Tm
theorem IP: ∀a b:List UInt8,Go.Lib.compareBytes a b=if a<b then -1 else if b<a then 1 else 0
 |[],[]=>by simp[Go.Lib.compareBytes]
 |[],_::_=>by simp[Go.Lib.compareBytes]
 |_::_,[]=>by simp[Go.Lib.compareBytes]
 |a::al,b::c=>by
  have j:=IP al c;unfold Go.Lib.compareBytes;rw[j];have k:(a::al<b::c)<->(a<b\/a=b/\al<c):=List.cons_lt_cons_iff;have l:(b::c<a::al)<->(b<a\/b=a/\c<al):=List.cons_lt_cons_iff;simp only[k,l];by_cases h1:a<b
  .rw [if_pos h1,if_pos (.inl h1)]
  .rw [if_neg h1];by_cases d:b<a
   .rw [if_pos d];have hne: ¬a=b:=fun e=>h1 (by rw[e] at d⊢;exact d);rw[if_neg (fun h=>h.elim h1 (fun h=>hne h.1)),if_pos (.inl d)]
   .rw [if_neg d];have he:a=b:=by
     rcases Nat.lt_trichotomy a.toNat b.toNat with h|h|h
     .exact absurd h h1
     .exact UInt8.toNat_inj.1 h
     .exact absurd h d
    subst he;by_cases g:al<c
    .simp [h1,g]
    .by_cases i:c<al
     .simp [h1,g,i]
     .simp [h1,g,i]
theorem UO (a b:By):Go.Lib.compareBytes a.data.toList b.data.toList=eU a b:=by
 rw[IP];unfold eU blt;simp only[decide_eq_true_eq]
theorem aeV (a b:By):decide (Go.Lib.compareBytes a.data.toList b.data.toList<0)=blt a b:=by
 rw[UO];unfold eU;cases h:blt a b with
 |true=>rfl
 |false=>
  rw[if_neg (by simp)];split<;>rfl
def AscK {β:Type} (key:β->By) (l:List β):Prop:=l.Pairwise fun p q=>blt (key p) (key q)=true
theorem I5 {β:Type} (key:β->By): ∀{l m:List β},AscK key l->AscK key m->(∀f,f∈l<->f∈m)->l=m
 |[],[],_,_,_=>rfl
 |[],y::m,_,_,h=>absurd ((h y).2 (List.mem_cons_self ..)) (by simp)
 |x::l,[],_,_,h=>absurd ((h x).1 (List.mem_cons_self ..)) (by simp)
 |x::l,y::m,hl,hm,h=>by
  obtain⟨b,g⟩:=List.pairwise_cons.1 hl;obtain⟨m1,m2⟩:=List.pairwise_cons.1 hm;have d:x=y:=by
   rcases List.mem_cons.1 ((h x).1 (List.mem_cons_self ..)) with e|e
   .exact e
   .rcases List.mem_cons.1 ((h y).2 (List.mem_cons_self ..)) with a|a
    .exact a.symm
    .have c:=oV (m1 x e) (b y a);rw[iO] at c;cases c
  subst d;congr 1;refine I5 key g m2 (fun f=>⟨fun hf=>?_,fun hf=>?_⟩)
  .rcases List.mem_cons.1 ((h f).1 (List.mem_cons_of_mem _ hf)) with e|e
   .subst e;have:=b f hf;rw[iO] at this;cases this
   .exact e
  .rcases List.mem_cons.1 ((h f).2 (List.mem_cons_of_mem _ hf)) with e|e
   .subst e;have:=m1 f hf;rw[iO] at this;cases this
   .exact e
section
variable {β:Type} [Inhabited β] (key:β->By)
def ET (x y:β):Int:=Go.Lib.compareBytes (key x).data.toList (key y).data.toList
omit [Inhabited β] in
theorem DD (x y:β):ltOf (ET key) x y=blt (key x) (key y):=aeV _ _
omit [Inhabited β] in
theorem Un:SWO (ltOf (ET key)) where
 irrefl x:=by rw[DD,iO]
 trans x y z h1 a:=by rw[DD] at*;exact oV h1 a
 ntrans x y z h1 a:=by
  rw[DD] at*;cases h:blt (key x) (key z) with
  |false=>rfl
  |true=>
   by_cases e:key x=key y
   .rw [e,a] at h;cases h
   .rcases Bo _ _ e with b|b
    .rw [h1] at b;cases b
    .have:=oV b h;rw[a] at this;cases this
theorem Qi {d d':Array β} (hp:PermIn 0 d.size d d') (hs:SortedIn (ltOf (ET key)) 0 d.size d') (hd:d.toList.Pairwise fun x y=>key x≠key y):AscK key d'.toList/\d'.toList.Perm d.toList:=by
 obtain⟨n,_,b⟩:=hp;have q:d'.extract 0 d.size=d':=by rw[<-n];exact Array.extract_size
 rw[q,Array.extract_size] at b;refine⟨?_,b⟩;have c:d'.toList.Pairwise fun x y=>key x≠key y:=b.symm.pairwise hd (fun{x y} h e=>h e.symm);unfold AscK;rw[List.pairwise_iff_getElem] at c⊢;intro i j hi k g;have h1:=c i j hi k g;have o:i<d'.size:=by simpa using hi
 have p:j<d'.size:=by simpa using k
 have l:=hs i j (Nat.zero_le _) g (by omega);rw[DD,getElem!_pos d' j p,getElem!_pos d' i o] at l;rw[Array.getElem_toList,Array.getElem_toList] at h1⊢;rcases Bo _ _ h1 with a|a
 .exact a
 .rw [l] at a;cases a
theorem flat_get (enc:β->List Value) (k:Nat) (hk: ∀x,(enc x).length=k): ∀(L:List β) (j:Nat),j<L.length*k->(L.flatMap enc)[j]?=some ((enc (L.getD (j / k) default))[j % k]!)
 |[],j,h=>by simp at h
 |a::L,j,h=>by
  have d:0<k:=by
   rcases Nat.eq_zero_or_pos k with h0|h0
   .rw [h0] at h;simp at h
   .exact h0
  rw[List.flatMap_cons];rcases Nat.lt_or_ge j k with b|c
  .rw [List.getElem?_append_left (by rw[hk];exact b),Nat.div_eq_of_lt b,Nat.mod_eq_of_lt b];have hl:j< (enc a).length:=by rw[hk];exact b
   rw[List.getElem?_eq_getElem hl];show _=some ((enc a)[j]!);rw[getElem!_pos (enc a) j hl]
  .rw [List.getElem?_append_right (by rw[hk];exact c),hk];have h1:j-k<L.length*k:=by
    simp only[List.length_cons,Nat.add_mul,Nat.one_mul] at h;omega
   rw[flat_get enc k hk L (j-k) h1];have e:j / k=(j-k) / k+1:=by
    rw[Nat.div_eq j k,if_pos ⟨d,c⟩]
   have g:j % k=(j-k) % k:=by rw[Nat.mod_eq j k,if_pos ⟨d,c⟩]
   rw[e,g];rfl
theorem NI (enc:β->List Value) (k:Nat) (hk: ∀x,(enc x).length=k) {w:World} {b off:Nat} {L:List β} (h: ∀j,j<L.length*k->w.cell? ⟨b,off+j,none⟩=(L.flatMap enc)[j]?/\w.frozen? ⟨b,off+j,none⟩=false):HoldsK enc k w b off L.toArray:=by
 intro j d;have a:j<L.length*k:=by simpa using d
 obtain⟨h1,e⟩:=h j a;refine⟨?_,e⟩;rw[h1,flat_get enc k hk L j a,get_flatK _ _ _ _ (by simpa using a)];congr 1;have g:0<k:=by
  rcases Nat.eq_zero_or_pos k with h0|h0
  .rw [h0] at a;simp at a
  .exact h0
 have c:j / k<L.length:=Nat.div_lt_of_lt_mul (by rw[Nat.mul_comm];exact a);show _=(enc (L.toArray[j / k]!))[j % k]!;rw[getElem!_pos L.toArray (j / k) (by simpa using c)];rw[gZ c];rfl
theorem EU (enc:β->List Value) (k:Nat) (hk: ∀x,(enc x).length=k) {w:World} {b off:Nat} {d:Array β} (h:HoldsK enc k w b off d) (j:Nat) (a:j<d.size*k):w.cell? ⟨b,off+j,none⟩=(d.toList.flatMap enc)[j]?/\w.frozen? ⟨b,off+j,none⟩=false:=by
 obtain⟨h1,e⟩:=h j (by simpa using a);refine⟨?_,e⟩;rw[flat_get enc k hk d.toList j (by simpa using a)];rw[h1,get_flatK _ _ _ _ a];have g:0<k:=by
  rcases Nat.eq_zero_or_pos k with h0|h0
  .rw [h0] at a;simp at a
  .exact h0
 have c:j / k<d.size:=Nat.div_lt_of_lt_mul (by rw[Nat.mul_comm];exact a);show some (enc d[j / k]!)[j % k]! =_;rw[getElem!_pos d (j / k) c,List.getD_eq_getElem?_getD,List.getElem?_eq_getElem (by simpa using c)];rfl
theorem NJ (enc:β->List Value) (k:Nat) (w:World) (blk off n:Nat) (d:Array β) (os:Array Obj):au (fun j=>j=blk) w (sortWorldK enc k w blk off n d os):=by
 unfold sortWorldK;refine⟨rfl,rfl,rfl,?_,fun j a hf=>?_⟩
 .show w.heap.size<=((putRowK enc k (Sort.ahead w n) blk off d).heap++os).size;rw[Array.size_append,size_putRowK];exact Nat.le_add_right _ _
 .show ((putRowK enc k (Sort.ahead w n) blk off d).heap++os)[j]?=_;rw[Array.getElem?_append_left (by rw[size_putRowK];exact a)];show((Sort.ahead w n).heap.modify blk _)[j]?=_;rw[Array.getElem?_modify,if_neg (fun e=>hf e.symm)];rfl
end
end
section
open Tm
structure Nr where
 nm:By
 so:By
 ks:List Nat
structure Cl where
 up:Option Nat
 nm:By
 so:By
 mx:Bool
 tm:Option Nat
 ma:Nat
 sz:Nat
 dp:Nat
structure St where
 vs:List (By×Nat)
 ns:List (Nat×Nat)
 cs:List Cl
def tq {κ:Type} [DecidableEq κ] (l:List (κ×Nat)) (k:κ):Option Nat:=(l.find? fun e=>decide (e.1=k)).map (·.2)
def kZ (cs:List Cl):Nat->Nat->Option Nat
 |0,_=>none
 |f+1,c=>match cs[c]? with
  |none=>none
  |some x=>match x.up with
   |none=>some c
   |some d=>kZ cs f d
def uk (F:Nat) (st:St) (nm so:By):Option (St×Nat):=match tq st.vs nm with
 |some c=>(kZ st.cs F c).map fun r=>(st,r)
 |none=>(kZ (st.cs++[⟨none,nm,so,false,none,0,0,0⟩]) F st.cs.length).map fun r=>({st with vs:=st.vs++[(nm,st.cs.length)],cs:=st.cs++[⟨none,nm,so,false,none,0,0,0⟩]},r)
def UJ (F:Nat) (st:St) (i:Nat):Option (St×Nat):=match tq st.ns i with
 |some c=>(kZ st.cs F c).map fun r=>(st,r)
 |none=>(kZ (st.cs++[⟨none,ai,ai,false,some i,0,0,0⟩]) F st.cs.length).map fun r=>({st with ns:=st.ns++[(i,st.cs.length)],cs:=st.cs++[⟨none,ai,ai,false,some i,0,0,0⟩]},r)
def kF (T:List Nr) (F:Nat) (st:St) (i:Nat):Option (St×Nat):=match T[i]? with
 |none=>none
 |some r=>if r.so=ai then UJ F st i else uk F st r.nm r.so
def df (A B:Cl):Cl:=
 {A with
  mx:=A.mx||B.mx||(decide (A.so≠ai)&&decide (B.so≠ai)&&decide (A.so≠B.so))
  nm:=if A.nm=ai\/(B.nm≠ai/\blt B.nm A.nm=true) then B.nm else A.nm
  so:=if A.nm=ai\/(B.nm≠ai/\blt B.nm A.nm=true) then B.so else A.so
  tm:=match A.tm with|none=>B.tm|some x=>some x}
def UX (un:St->Nat->Nat->Option (St×Bool)):St->List Nat->List Nat->Option (St×Bool)
 |st,x::xs,y::ys=>match un st x y with
  |none=>none
  |some (st1,false)=>some (st1,false)
  |some (st1,true)=>UX un st1 xs ys
 |st,_,_=>some (st,true)
def NU (T:List Nr):Nat->St->Nat->Nat->Option (St×Bool)
 |0,_,_,_=>none
 |F+1,st,s,t=>match kF T F st s with
  |none=>none
  |some (st1,a)=>match kF T F st1 t with
   |none=>none
   |some (st2,b)=>if a=b then some (st2,true) else
    match st2.cs[a]?,st2.cs[b]? with
    |some A,some B=>
     let h_:St:={st2 with cs:=(st2.cs.set b {B with up:=some a}).set a (df A B)}
     match A.tm,B.tm with
     |some x,some y=>match T[x]?,T[y]? with
      |some X,some Y=>if X.nm≠Y.nm\/X.ks.length≠Y.ks.length then some (h_,false) else UX (NU T F) h_ X.ks Y.ks
      |_,_=>none
     |_,_=>some (h_,true)
    |_,_=>none
def eF (st:St) (c:Nat) (x:Cl):St:={st with cs:=st.cs.set c x}
end
section
abbrev jX (p:Nat×Nat):Value:= .pointer (some ⟨p.1,p.2,none⟩)
def Plain (w:World) (b:Nat):Prop:= ∃cs t,w.heap[b]?=some (.cells cs t (0,0))
theorem Plain.ext {w w':World} {b:Nat} (h:Plain w b) (hu:Ext w w'):Plain w' b:=by
 obtain⟨cs,t,h⟩:=h;exact⟨cs,t,hu.heap h id⟩
section
variable {P:Program} {kt et elem:TypeId} {ie:TypeInfo}
theorem Ya (hk:P.underlying kt=some (.pointer elem)) (hi:P.info? elem=some ie) (hs:ie.size≠0) (d:Nat) (a b:Nat×Nat) (w:World) (ha:Plain w a.1) (hb:Plain w b.1):(Op.equalIn (d+1) kt (jX a) (jX b)).run P w= .ok (decide (a=b)) w:=by
 by_cases c:a=b
 .subst c;rw[dT rfl];simp[Op.equalIn,run_underlying hk,sizeOf,typeInfo,hi,hs,run_sameAddr_same]
 .obtain ⟨ca,ta,ha⟩:=ha;obtain⟨i,tb,hb⟩:=hb;have h1:=run_sameAddr_other (P:=P) (w:=w) (a:=⟨a.1,a.2,none⟩) (b:=⟨b.1,b.2,none⟩) (fun e=>c (by injection e with g h;exact Prod.ext g h)) ha hb;rw[dF c];simp[Op.equalIn,run_underlying hk,sizeOf,typeInfo,hi,hs,h1]
theorem ad7 (hk:P.underlying kt=some (.pointer elem)) (hi:P.info? elem=some ie) (hs:ie.size≠0) (a b:Nat×Nat) (w:World) (ha:Plain w a.1) (hb:Plain w b.1):(binOp .eql kt (jX a) (jX b)).run P w= .ok (.bool (decide (a=b))) w:=by
 have h:(Op.equal kt (jX a) (jX b)).run P w= .ok (decide (a=b)) w:=Ya hk hi hs 9999 a b w ha hb;simp only[binOp,Sem.run_bind,h,Result.andThen_ok,Sem.run_pure]
theorem NR (hk:P.underlying kt=some (.pointer elem)) (em:Bool) (a:Nat×Nat) (w:World):(Instr.checkKey em 10000 kt (jX a)).run P w= .ok () w:=by
 show(Instr.checkKey em (9999+1) kt (jX a)).run P w= .ok () w;rw[Instr.checkKey];simp only[Sem.run_bind,run_underlying hk,Result.andThen_ok,Sem.run_pure]
theorem Qy (hk:P.underlying kt=some (.pointer elem)) (hi:P.info? elem=some ie) (hs:ie.size≠0) (x:Nat×Nat) (w:World) (hx:Plain w x.1) (es:List MapEntry) (l:List ((Nat×Nat)×Value)) (hl: ∀p∈l,Plain w p.1.1) (h:es.map (fun e=>(e.key,e.val))=l.map (fun p=>(jX p.1,p.2))):
  (Instr.findKey kt (jX x) es).run P w= .ok ((l.findIdx? fun p=>decide (p.1=x)).map fun i=>(i,((l[i]?).map (·.2)).getD (.bool false))) w:=by
 have d: ∀(es:List MapEntry) (l:List ((Nat×Nat)×Value)) (i:Nat),(∀p∈l,Plain w p.1.1)->es.map (fun e=>(e.key,e.val))=l.map (fun p=>(jX p.1,p.2))->
   (Instr.findAsking kt (jX x) es i).run P w= .ok ((l.findIdx? fun p=>decide (p.1=x)).map fun j=>(i+j,((l[j]?).map (·.2)).getD (.bool false))) w:=by
  intro es
  induction es with
  |nil=>
   intro l i _ h;have:l=[]:=by cases l;rfl;simp at h
   subst this;rfl
  |cons e es g=>
   intro l i hl h;cases l with
   |nil=>simp at h
   |cons p l=>
    simp only[List.map_cons,List.cons.injEq,Prod.mk.injEq] at h;obtain⟨⟨h1,a⟩,b⟩:=h;have c:(Op.equal kt (jX x) (jX p.1)).run P w= .ok (decide (x=p.1)) w:=Ya hk hi hs 9999 x p.1 w hx (hl p (List.mem_cons_self ..));unfold Instr.findAsking;rw[h1,List.findIdx?_cons];simp only[Sem.run_bind,c,Result.andThen_ok];by_cases he:p.1=x
    .rw [dT he,dT he.symm];simp[a]
    .rw [dF he,dF (fun e=>he e.symm)];have k:=g l (i+1) (fun q c=>hl q (List.mem_cons_of_mem _ c)) b;simp only[Bool.false_eq_true,if_false,k];cases(l.findIdx? fun p=>decide (p.1=x)) with
     |none=>rfl
     |some j=>simp;omega
 have a:=d es l 0 hl h;have b:(Instr.findKey kt (jX x) es).run P w=(Instr.findAsking kt (jX x) es).run P w:=by
  cases es with
  |nil=>simp[Instr.findKey,run_underlying hk,Instr.findNow,Instr.findAsking]
  |cons e es=>simp[Instr.findKey,run_underlying hk,Instr.findNow,Instr.sameNow]
 rw[b,a];simp
theorem eX.amT (hk:P.underlying kt=some (.pointer elem)) (hi:P.info? elem=some ie) (hs:ie.size≠0) {t:TypeId} (a:P.underlying t=some (.map kt et)) {w:World} {b:Nat} {l:List ((Nat×Nat)×Value)} {z:Value} (d:(zeroValue et).run P w= .ok z w) (h:eX jX w b l) (k:Nat×Nat) (hx:Plain w k.1) (hl: ∀p∈l,Plain w p.1.1) (c:Bool):
  (Instr.lookup t (.map (some b)) (jX k) c).run P w= .ok (if c then .tuple #[(kK l k).getD z,.bool (kK l k).isSome] else(kK l k).getD z) w:=by
 obtain⟨es,cl,h1,e,_⟩:=h;have hf:=Qy hk hi hs k w hx es.toList l hl e;have hc:=NR hk es.isEmpty k w;rw[<-I_];generalize hx:(l.findIdx? fun p=>decide (p.1=k))=x at*;cases x with
 |none=>cases c<;>simp[Instr.lookup,run_underlying a,MapKept.run_getObj_map h1,hc,hf,d,Result.andThen]
 |some i=>cases c<;>simp[Instr.lookup,run_underlying a,MapKept.run_getObj_map h1,hc,hf,d,Result.andThen]
theorem eX.amU (hk:P.underlying kt=some (.pointer elem)) (hi:P.info? elem=some ie) (hs:ie.size≠0) {t:TypeId} (g:P.underlying t=some (.map kt et)) {w:World} {b:Nat} {l:List ((Nat×Nat)×Value)} (h:eX jX w b l) (k:Nat×Nat) (v:Value) (hx:Plain w k.1) (hl: ∀p∈l,Plain w p.1.1) (hn:kK l k=none):
  ∃w',(Instr.mapUpdate t (.map (some b)) (jX k) v).run P w= .ok () w'/\eX jX w' b (l++[(k,v)])/\au (fun j=>j=b) w w':=by
 obtain⟨es,cl,h1,a,n,c⟩:=h;have hf:=Qy hk hi hs k w hx es.toList l hl a;have hc:=NR hk false k w;have d:=(Array.getElem?_eq_some_iff.1 h1).1;have q: ∀o,au (fun j=>j=b) w {w with heap:=w.heap.setIfInBounds b o}:=fun o=>
  ⟨rfl,rfl,rfl,by simp,fun i hi hF=>by simp[Ne.symm (show i≠b from hF)]⟩
 rw[<-I_] at hn;generalize hx:(l.findIdx? fun p=>decide (p.1=k))=x at*;cases x with
 |none=>
  refine⟨_,by simp[Instr.mapUpdate,run_underlying g,MapKept.run_getObj_map h1,hc,hf,MapKept.run_setObj_map _ h1,Result.andThen];rfl,⟨es.push {key:=jX k,val:=v,born:=cl},cl+1,by simp[d],?_,?_,?_⟩,q _⟩
  .simp [a]
  .simp only [Array.toList_push];rw[List.pairwise_append];refine⟨n,by simp,fun x hx y hy=>?_⟩;rw[List.mem_singleton] at hy;subst hy;exact c x hx
  .intro e he;simp only[Array.toList_push,List.mem_append,List.mem_singleton] at he;rcases he with he|he
   .have:=c e he;omega
   .subst he;simp
 |some i=>cases hn
end
end
end Go.Hw
