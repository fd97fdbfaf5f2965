/- The texts TA TL TO TN PP TX TU TG UA UB UC UD UE VB UF BN, one behind the other. -/
import Derived.Test.YtlkcjmaiahnodaaGreatDoorEAB
import Derived.Lib.ItoaNum
import Derived.Shelf.SlSortCmp.NoneTotal
import Derived.Lib.Bytealg
set_option linter.unusedVariables false
set_option linter.unusedSimpArgs false
namespace Go.Hw
open Go.RowKit
section
section
variable {P:Program} (w:World)
theorem yE {o:Oper} {a:Act} {K:Act->World->Prop} {Q:Exit->Act->World->Prop} (s x:Operand) (t:TypeId)
  (ho:o.op= .call {callee:= .builtin .append,args:= #[s,x],argTypes:= #[t,t]})
  (base:Nat) (e:TypeId) (i:TypeInfo) (z:Value) (size bytes:Nat) (ht:P.underlying t=some (.slice e)) (hi:P.info? e=some i) (hz:i.zero=some z)
  (hsize:i.size=size) (hby:i.bytes=bytes) (hzs:z.cells.size=size) (hsz:0<size)
  (q:Option Addr) (hs:a.eval s= .slice q 0 0) (hown:w.ownsRow base e size (.slice q 0 0) 0 [])
  (S:Nat->Prop) (sv:Value) (m:Nat) (news:List Value) (hx:a.eval x=sv) (hsl:az S w size sv m news) (h1: ∀u∈news,u.oneCell'=true)
  (h63:m<=maxLen) (hbytes:m*bytes<=140737488355328) (hbase:base<=w.heap.size)
  (h: ∀v' w',Ext w w'->w'.ownsRow base e size v' m news->K (a.put o.dst v') w'):o.wp P a w K Q:=by
 have hem: ∀v' w',(Builtin.append_ #[t,t] o.type #[.slice q 0 0,sv]).run P w= .ok v' w'->w.grownBy w' (Value.ownBlock (.slice q 0 0))->Ext w w':=by
  intro v' w' hr hgr;refine⟨hgr.os,hgr.tape,hgr.output,hgr.size,fun k hk _=>?_⟩;rcases hown.2 with⟨hq,_⟩|⟨g,cap,cur,hq,hbg,hg,hnc,hcm,hcs,htake⟩
  .injection hq with hq
   subst hq;exact hgr.block k hk (by simp[Value.ownBlock])
  .injection hq with hq h2 h3
   subst hq;subst h3;by_cases hkg:k=g
   .subst hkg;rcases hsl.2 with⟨hv,hm⟩|⟨ad,c,hv,hc,hgg,hj⟩
    .have hr2:=run_append_owned_none (P:=P) w base t o.type e i size ht hi _ 0 [] hown;rw[hv,hr2] at hr;injection hr with _ hr
     rw[hr]
    .have hnews: ∀j u,news[j]?=some u->w.cell? (ad.add j)=some u:=by
      intro j u hu;have hlt:j<m*size:=by rw[<-hsl.1];exact(List.getElem?_eq_some_iff.1 hu).1
      rw[<-hu,<-hj j hlt];obtain⟨g,off,spot⟩:=ad;have hsp:=(hgg (rE hlt)).1;simp only at hsp;subst hsp
      congr 1
      unfold Addr.add;split
      .rename_i h0;simp[h0]
      .rfl
     subst hsize;by_cases hm:m=0
     .subst hm;have hn:news=[]:=List.eq_nil_of_length_eq_zero (by rw[hsl.1];simp);subst hn;rw[hv,run_append_room (P:=P) w t o.type e i ht hi k 0 0 cur hg ad 0 c [] (by simp) hnews h1 (Nat.le_refl _) (by simp)] at hr;injection hr with _ hr
      rw[<-hr,setRow_heap w k cur _ e _ hg,hg];simp
     .rw [hv,run_append_grow (P:=P) w t o.type e i z ht hi hz ⟨k,0,none⟩ 0 0 [] (by simp) (fun j v h=>by simp at h) ad m c news hsl.1 hnews (by omega) (by simp only[maxLen] at h63;omega) (growslice_fits (by omega) (by subst hby;simpa using hbytes))] at hr;injection hr with _ hr
      rw[<-hr];exact Go.heap_alloc_old w.drew _ (by simpa using hk)
   .exact hgr.block k hk (by simp[Value.ownBlock];exact hkg)
 rcases hsl.2 with⟨hv,hm⟩|⟨ad,c,hv,hc,hgg,hj⟩
 .have hr:=run_append_owned_none (P:=P) w base t o.type e i size ht hi _ 0 [] hown;have hn:news=[]:=List.eq_nil_of_length_eq_zero (by rw[hsl.1,hm];simp);subst hn;subst hm;unfold Oper.wp execOp;simp only[ho,resolve,invoke,builtin,Sem.run_bind,Sem.run_pure,Result.andThen_ok,List.map_toArray,List.map_cons,List.map_nil,hs,hx,hv,hr];exact h _ w (aj.refl _ w) hown
 .have hnews: ∀j u,news[j]?=some u->w.cell? (ad.add j)=some u:=by
   intro j u hu;have hlt:j<m*size:=by rw[<-hsl.1];exact(List.getElem?_eq_some_iff.1 hu).1
   rw[<-hu,<-hj j hlt];obtain⟨g,off,spot⟩:=ad;have hsp:=(hgg (rE hlt)).1;simp only at hsp;subst hsp
   congr 1
   unfold Addr.add;split
   .rename_i h0;simp[h0]
   .rfl
  obtain⟨v',w',hr,h2,h3,h4⟩:=run_append_own (P:=P) w base t o.type e i z size bytes ht hi hz hsize hby hzs hsz _ 0 [] hown ad m c news hsl.1 hnews h1 (by omega) (by simpa using hbytes) hbase;have hE:=hem v' w' (by rw[hv];exact hr) h3;unfold Oper.wp execOp;simp only[ho,resolve,invoke,builtin,Sem.run_bind,Sem.run_pure,Result.andThen_ok,List.map_toArray,List.map_cons,List.map_nil,hs,hx,hv,hr];exact h v' w' hE (by simpa using h2)
end
end
section
open Tm
def uh (t:Tm):Prop:= ∀x∈aV t,x.sort≠ah->x.kids=[]
theorem uh.kid {t x:Tm} (h:uh t) (hx:x∈t.kids):uh x:=fun y hy=>h y (oC hx hy)
def putAt:Tm->List Nat->Tm->Tm
 |_,[],u=>u
 | .mk n s L,i::p,u=> .mk n s (L.set i (putAt (L.getD i default) p u))
mutual
def fA (σ:By->By->Tm):Tm->Tm
 | .mk n s L=>if s=ah then .mk n s (sbs σ L) else σ n s
def sbs (σ:By->By->Tm):List Tm->List Tm
 |[]=>[]
 |a::L=>fA σ a::sbs σ L
end
theorem SX (σ:By->By->Tm): ∀L,sbs σ L=L.map (fA σ)
 |[]=>rfl
 |a::L=>by simp[sbs,SX σ L]
theorem P_ (σ:By->By->Tm) {t:Tm} (h:t.sort=ah):fA σ t= .mk t.name ah (t.kids.map (fA σ)):=by
 obtain⟨n,s,L⟩:=t;have h':s=ah:=h;subst h';unfold fA;rw[if_pos rfl,SX];rfl
abbrev Nt:=Tm×List Nat
def alX (b:By):Prop:=(58:UInt8)∉b.data.toList/\(32:UInt8)∉b.data.toList
instance aoV (s:By) (l:List By):Decidable (s∈l):=decidable_of_iff (l.any (fun x=>decide (x=s))=true) (by
 rw[List.any_eq_true];exact⟨fun⟨x,hx,h⟩=>of_decide_eq_true h▸hx,fun h=>⟨s,h,dT rfl⟩⟩)
def ER (l:List By) (s:By):Nat:=l.findIdx fun x=>decide (x=s)
theorem Xy (l:List By) (s:By):ER l s<=l.length:=List.findIdx_le_length
theorem NC {l:List By} {s:By} (h:s∈l):ER l s<l.length:=List.findIdx_lt_length_of_exists ⟨s,h,by simp⟩
theorem SL {l:List By} {s:By} (h:ER l s<l.length):s∈l:=by
 have:=List.findIdx_getElem (w:=h);rw[decide_eq_true_eq] at this;rw[<-this];exact List.getElem_mem h
theorem Xz {l:List By} {s:By} (h:s∈l):l.getD (ER l s) ah=s:=by
 have h1:=NC h;have:=List.findIdx_getElem (w:=h1);rw[decide_eq_true_eq] at this;rw[List.getD_eq_getElem?_getD,List.getElem?_eq_getElem h1];exact this
theorem ade {l:List By} {s:By} {j:Nat} (h:j<ER l s):l.getD j ah≠s:=by
 have h1:j<l.length:=ay h (Xy l s);have:=List.not_of_lt_findIdx h;simp only[decide_eq_false_iff_not] at this;rw[List.getD_eq_getElem?_getD,List.getElem?_eq_getElem h1];simpa using this
theorem adZ {l:List By} {s:By} {k:Nat} (hk:k<l.length) (h1: ∀j,j<k->l.getD j ah≠s) (h2:l.getD k ah=s):ER l s=k:=by
 have hm:s∈l:=by
  rw[<-h2,List.getD_eq_getElem?_getD,List.getElem?_eq_getElem hk];exact List.getElem_mem hk
 rcases Nat.lt_trichotomy (ER l s) k with h|h|h
 .exact absurd (Xz hm) (h1 _ h)
 .exact h
 .exact absurd h2 (ade h)
theorem Ym {l:List By} {s:By} (h: ∀j,j<l.length->l.getD j ah≠s):ER l s=l.length:=by
 rcases Nat.lt_or_eq_of_le (Xy l s) with h1|h1
 .exact absurd (Xz (SL h1)) (h _ h1)
 .exact h1
theorem ad1 {l:List By} {s:By}:s∈l<->ER l s<l.length:=⟨NC,SL⟩
def Dif (l:List By):Prop:=l.Pairwise (· ≠ ·)
def ED (nm:By->Bool) (ops:List By):Bool:=decide (ops.length<=100)&&(List.range ops.length).all fun i=>nm (ops.getD i ah)&&!decide (ops.getD i ah∈ops.take i)
theorem L8 (nm:By->Bool) (ops:List By):ED nm ops=true<->ops.length<=100/\(∀s∈ops,nm s=true)/\Dif ops:=by
 unfold ED;rw[Bool.and_eq_true,decide_eq_true_eq,List.all_eq_true];refine and_congr_right fun _=>?_;have hget: ∀i,(h:i<ops.length)->ops.getD i ah=ops[i]:=fun i h=>by rw[List.getD_eq_getElem?_getD,List.getElem?_eq_getElem h];rfl
 constructor
 .intro h;have h': ∀i,(hi:i<ops.length)->nm ops[i]=true/\ops[i]∉ops.take i:=fun i hi=>by
   have:=h i (List.mem_range.2 hi);rw[Bool.and_eq_true,Bool.not_eq_true',decide_eq_false_iff_not,hget i hi] at this;exact this
  refine⟨fun s hs=>?_,List.pairwise_iff_getElem.2 fun i j hi hj hij e=>?_⟩
  .obtain ⟨i,hi,rfl⟩:=List.mem_iff_getElem.1 hs;exact(h' i hi).1
  .refine (h' j hj).2 ?_;rw[<-e,List.mem_take_iff_getElem];exact⟨i,by omega,rfl⟩
 .rintro ⟨h1,h2⟩ i hi;have hi:=List.mem_range.1 hi;rw[Bool.and_eq_true,Bool.not_eq_true',decide_eq_false_iff_not,hget i hi];refine⟨h1 _ (List.getElem_mem hi),fun hm=>?_⟩;obtain⟨j,hj,e⟩:=List.mem_take_iff_getElem.1 hm;exact List.pairwise_iff_getElem.1 h2 j i (by omega) hi (by omega) e
theorem Tz {nm:By->Bool} {ops:List By} {k:Nat} (hk:k<ops.length) (h:nm (ops.getD k ah)=false\/ops.getD k ah∈ops.take k):ED nm ops=false:=by
 rw[Bool.eq_false_iff];intro h2;obtain⟨_,h3,h4⟩:=(L8 nm ops).1 h2;rw[List.getD_eq_getElem?_getD,List.getElem?_eq_getElem hk] at h;rcases h with h|h
 .rw [Option.getD_some,h3 _ (List.getElem_mem hk)] at h;cases h
 .obtain ⟨j,hj,e⟩:=List.mem_take_iff_getElem.1 h;exact List.pairwise_iff_getElem.1 h4 j k (by omega) hk (by omega) e
abbrev Rl:=Tm×Tm
theorem az.uZ {β:Type} {enc:β->Value} {d:β} {S:Nat->Prop} {w:World} {a:Option Addr} {n cap:Nat} {l:List β} (h:az S w 1 (.slice a n cap) l.length (l.map enc)) (hl:0<l.length):
  ∃g off,a=some ⟨g,off,none⟩/\S g/\∀i,i<l.length->w.cell? ⟨g,off+i,none⟩=some (enc (l.getD i d)):=by
 obtain⟨g,off,c,e,_,hS,hj⟩:=az.pos h hl;injection e with e1 e2 e3
 refine⟨g,off,e1,hS,fun i hi=>?_⟩;rw[hj i (by omega),List.getElem?_map,List.getElem?_eq_getElem hi,List.getD_eq_getElem?_getD,List.getElem?_eq_getElem hi];rfl
theorem Vt {P:Tm->Prop} {L:List Tm} (h: ∀j,j<L.length->P (tg L j)): ∀k∈L,P k:=by
 intro k hk;obtain⟨i,hi,rfl⟩:=List.mem_iff_getElem.1 hk;have h3:tg L i=L[i]:=by unfold tg;rw[List.getD_eq_getElem?_getD,List.getElem?_eq_getElem hi];rfl
 rw[<-h3];exact h i hi
theorem aiZ {L:List Tm} {k:Nat} (h:k<L.length):tg L k∈L:=by
 unfold tg;rw[List.getD_eq_getElem?_getD,List.getElem?_eq_getElem h];exact List.getElem_mem h
abbrev rg (L:List Rl) (i:Nat):Rl:=L.getD i (default,default)
def FN (L:List Rl):List Tm:=L.flatMap fun r=>[r.1,r.2]
theorem SQ (L:List Rl):(FN L).length=2*L.length:=by
 induction L with
 |nil=>rfl
 |cons a L ih=>unfold FN at ih⊢;rw[List.flatMap_cons,List.length_append,ih];simp;omega
theorem XJ: ∀(L:List Rl) (i:Nat),i<L.length->tg (FN L) (2*i)=(rg L i).1/\tg (FN L) (2*i+1)=(rg L i).2
 |r::L,0,_=>⟨rfl,rfl⟩
 |r::L,i+1,h=>by
  have ih:=XJ L i (by simpa using h);have e:FN (r::L)=r.1::r.2::FN L:=rfl;rw[e,show 2*(i+1)=2*i+1+1 by omega];exact ih
theorem oD {L:List Rl} {i:Nat} (h:i<L.length):rg L i∈L:=by unfold rg;rw[List.getD_eq_getElem?_getD,List.getElem?_eq_getElem h];exact List.getElem_mem h
def jc (S:Nat->Prop) (w:World) (L:List Rl) (v:Value):Prop:= ∃a cap,v= .slice a L.length cap/\aA S w (FN L) (.slice a (2*L.length) (2*cap))
section
variable {S T F:Nat->Prop} {w w':World} {L:List Rl} {v:Value}
theorem jc.shape (h:jc S w L v): ∃a cap,v= .slice a L.length cap:=by
 obtain⟨a,cap,e,_⟩:=h;exact⟨a,cap,e⟩
theorem jc.kept (h:jc S w L v) (hu:aj F w w') (hF: ∀k,S k->¬F k):jc S w' L v:=by
 obtain⟨a,cap,e,h⟩:=h;exact⟨a,cap,e,h.kept hu hF⟩
theorem jc.ext (h:jc S w L v) (hu:Ext w w'):jc S w' L v:=h.kept hu (fun _ _ h=>h)
theorem jc.weaken (h:jc S w L v) (hs: ∀k,S k->T k):jc T w L v:=by
 obtain⟨a,cap,e,h⟩:=h;exact⟨a,cap,e,h.weaken hs⟩
theorem jc.at_ {a:Option Addr} {n cap:Nat} (h:jc S w L (.slice a n cap)) (hL:0<L.length):
  ∃g off,a=some ⟨g,off,none⟩/\S g/\∀i,i<L.length->∃xa xc ya yc,w.cell? ⟨g,off+i*6,none⟩=some (.string (rg L i).1.name)/\w.cell? ⟨g,off+i*6+1,none⟩=some (.string (rg L i).1.sort)/\w.cell? ⟨g,off+i*6+2,none⟩=some (.slice xa (rg L i).1.kids.length xc)/\
   w.cell? ⟨g,off+i*6+3,none⟩=some (.string (rg L i).2.name)/\w.cell? ⟨g,off+i*6+4,none⟩=some (.string (rg L i).2.sort)/\w.cell? ⟨g,off+i*6+5,none⟩=some (.slice ya (rg L i).2.kids.length yc)/\
   aA S w (rg L i).1.kids (.slice xa (rg L i).1.kids.length xc)/\aA S w (rg L i).2.kids (.slice ya (rg L i).2.kids.length yc):=by
 obtain⟨a',cap',e,h⟩:=h;injection e with e1 e2 e3
 subst e1;have hf:=SQ L;obtain⟨g,off,e,hS,hat⟩:=h.at_ (by omega);refine⟨g,off,e,hS,fun i hi=>?_⟩;obtain⟨f1,f2⟩:=XJ L i hi;obtain⟨xa,xc,h0,h1,h2,h3⟩:=hat (2*i) (by omega);obtain⟨ya,yc,k0,k1,k2,k3⟩:=hat (2*i+1) (by omega);rw[f1] at h0 h1 h2 h3;rw[f2] at k0 k1 k2 k3;refine⟨xa,xc,ya,yc,?_,?_,?_,?_,?_,?_,h3,k3⟩
 .rw [show off+i*6=off+2*i*3 by omega];exact h0
 .rw [show off+i*6+1=off+(2*i*3+1) by omega];exact h1
 .rw [show off+i*6+2=off+(2*i*3+2) by omega];exact h2
 .rw [show off+i*6+3=off+(2*i+1)*3 by omega];exact k0
 .rw [show off+i*6+4=off+((2*i+1)*3+1) by omega];exact k1
 .rw [show off+i*6+5=off+((2*i+1)*3+2) by omega];exact k2
end
end
section
open Tm
abbrev Dc:=By×List By×By
abbrev Sg:=List By×List Dc
abbrev dg (l:List Dc) (i:Nat):Dc:=l.getD i (ah,[],ah)
def bD (l:List Dc) (s:By):Nat:=l.findIdx fun d=>decide (d.1=s)
def kL (l:List Dc) (s:By):Int:=if bD l s<l.length then(bD l s:Int) else -1
theorem uX {l:List Dc} {i:Nat} (h:i<l.length):dg l i=l[i]:=by unfold dg;rw[List.getD_eq_getElem?_getD,List.getElem?_eq_getElem h];rfl
theorem QI {l:List Dc} {s:By} {k:Nat} (hk:k<l.length) (h1: ∀j,j<k->(dg l j).1≠s) (h2:(dg l k).1=s):bD l s=k:=by
 unfold bD;rcases Nat.lt_trichotomy (l.findIdx fun d=>decide (d.1=s)) k with h|h|h
 .have h3:(l.findIdx fun d=>decide (d.1=s))<l.length:=by omega
  have h4:=List.findIdx_getElem (w:=h3);rw[decide_eq_true_eq,<-uX h3] at h4;exact absurd h4 (h1 _ h)
 .exact h
 .have h4:=List.not_of_lt_findIdx h;rw[<-uX hk,decide_eq_false_iff_not] at h4;exact absurd h2 h4
theorem Vr {l:List Dc} {s:By} (h: ∀j,j<l.length->(dg l j).1≠s): ¬bD l s<l.length:=by
 intro h1;have h3:(l.findIdx fun d=>decide (d.1=s))<l.length:=h1;have h2:=List.findIdx_getElem (w:=h3);rw[decide_eq_true_eq,<-uX h3] at h2;exact h _ h3 h2
def okD (nm:By->Bool) (g:Sg) (i:Nat):Bool:=nm (dg g.2 i).1&&(decide (bD g.2 (dg g.2 i).1=i)&&(decide ((dg g.2 i).2.1.length<=6)&&(decide ((dg g.2 i).2.2∈g.1)&&(dg g.2 i).2.1.all fun s=>decide (s∈g.1))))
def h_ (nm:By->Bool) (g:Sg):Bool:=decide (g.1.length<=40)&&(decide (g.2.length<=100)&&(ED nm g.1&&(List.range g.2.length).all (okD nm g)))
def eu (g:Sg) (t:Tm):By:=if t.sort≠ah then t.sort else if bD g.2 t.name<g.2.length then(dg g.2 (bD g.2 t.name)).2.2 else ah
def lV (g:Sg) (L:List Tm) (A:List By):Bool:=(List.range L.length).any fun k=>!decide (eu g (tg L k)=ah)&&!decide (eu g (tg L k)=A.getD k ah)
mutual
def b_ (g:Sg):Tm->Int
 | .mk n s L=>if s≠ah then(if s∈g.1 then 0 else 9) else if ¬bD g.2 n<g.2.length then 9 else if L.length≠(dg g.2 (bD g.2 n)).2.1.length then 3 else if lV g L (dg g.2 (bD g.2 n)).2.1=true then 11 else gJ g L
def gJ (g:Sg):List Tm->Int
 |[]=>0
 |a::L=>if b_ g a≠0 then b_ g a else gJ g L
end
theorem Kz (g:Sg) (n s:By) (L:List Tm):b_ g (.mk n s L)=if s≠ah then(if s∈g.1 then 0 else 9) else if ¬bD g.2 n<g.2.length then 9 else if L.length≠(dg g.2 (bD g.2 n)).2.1.length then 3 else if lV g L (dg g.2 (bD g.2 n)).2.1=true then 11 else gJ g L:=by rw[b_]
theorem CY (g:Sg): ∀L:List Tm,gJ g L=0<->∀x∈L,b_ g x=0
 |[]=>by simp[gJ]
 |a::L=>by
  have ih:=CY g L;rw[gJ];by_cases h:b_ g a=0
  .rw [if_neg (by simp[h]),ih];simp[h]
  .rw [if_pos h];simp[h]
theorem EZ (g:Sg): ∀(L:List Tm) (k:Nat),k<L.length->(∀j,j<k->b_ g (tg L j)=0)->b_ g (tg L k)≠0->gJ g L=b_ g (tg L k)
 |a::L,0,_,_,h=>by rw[gJ,if_pos (show b_ g a≠0 from h)];rfl
 |a::L,k+1,hk,h1,h=>by
  rw[gJ,if_neg (by rw[show b_ g a=0 from h1 0 (by omega)];simp)];exact EZ g L k (by simpa using hk) (fun j hj=>h1 (j+1) (by omega)) h
def mf:List Dc->List Value->List Value
 |[],_=>[]
 |d::l,us=> .string d.1::us.headD qG:: .string d.2.2::mf l us.tail
theorem Md: ∀(l:List Dc) (us:List Value) (i:Nat),i<l.length->
  (mf l us)[i*3]?=some (.string (dg l i).1)/\(mf l us)[i*3+1]?=some (ug us i)/\(mf l us)[i*3+2]?=some (.string (dg l i).2.2)
 |d::l,us,0,_=>by
  refine⟨rfl,?_,rfl⟩;cases us<;>rfl
 |d::l,us,i+1,h=>by
  obtain⟨h0,h1,h2⟩:=Md l us.tail i (by simpa using h);have e: ∀k,(mf (d::l) us)[(i+1)*3+k]?=(mf l us.tail)[i*3+k]?:=fun k=>by
   rw[show(i+1)*3+k=i*3+k+1+1+1 by omega];rfl
  refine⟨by rw[<-Nat.add_zero ((i+1)*3),e];exact h0,?_,by rw[e];exact h2⟩;rw[e,h1];cases us<;>rfl
abbrev zB (S:Nat->Prop) (w:World) (v:Value) (l:List By):Prop:=az S w 1 v l.length (l.map Value.string)
def tY (S:Nat->Prop) (w:World) (v:Value) (l:List Dc):Prop:= ∃us,az S w 3 v l.length (mf l us)/\∀i,i<l.length->zB S w (ug us i) (dg l i).2.1
section
variable {S T F:Nat->Prop} {w w':World} {v:Value} {l:List Dc}
theorem tY.shape (h:tY S w v l): ∃a cap,v= .slice a l.length cap:=by
 obtain⟨us,h,_⟩:=h;exact h.shape
theorem tY.kept (h:tY S w v l) (hu:aj F w w') (hF: ∀k,S k->¬F k):tY S w' v l:=by
 obtain⟨us,h,h2⟩:=h;exact⟨us,h.kept hu hF,fun i hi=>az.kept (h2 i hi) hu hF⟩
theorem tY.ext (h:tY S w v l) (hu:Ext w w'):tY S w' v l:=h.kept hu (fun _ _ h=>h)
theorem tY.at_ {a:Option Addr} {n cap:Nat} (h:tY S w (.slice a n cap) l) (hl:0<l.length): ∃g off,a=some ⟨g,off,none⟩/\S g/\∀i,i<l.length->∃xa xc,w.cell? ⟨g,off+i*3,none⟩=some (.string (dg l i).1)/\
  w.cell? ⟨g,off+i*3+1,none⟩=some (.slice xa (dg l i).2.1.length xc)/\w.cell? ⟨g,off+i*3+2,none⟩=some (.string (dg l i).2.2)/\zB S w (.slice xa (dg l i).2.1.length xc) (dg l i).2.1:=by
 obtain⟨us,h,h2⟩:=h;obtain⟨g,off,cap',e,hc,hS,hj⟩:=h.pos hl;injection e with e1 e2 e3
 refine⟨g,off,e1,hS,fun i hi=>?_⟩;obtain⟨k0,k1,k2⟩:=Md l us i hi;obtain⟨xa,xc,hx⟩:=az.shape (h2 i hi);have h3:=h2 i hi;rw[hx] at k1 h3;exact⟨xa,xc,by rw[hj _ (by omega),k0],by rw[Nat.add_assoc,hj _ (by omega),k1],by rw[Nat.add_assoc,hj _ (by omega),k2],h3⟩
end
def u_ (S:Nat->Prop) (w:World) (g:Sg) (v:Value):Prop:= ∃sa sc oa oc,v= .agg #[.slice sa g.1.length sc,.slice oa g.2.length oc]/\zB S w (.slice sa g.1.length sc) g.1/\tY S w (.slice oa g.2.length oc) g.2
theorem u_.ext {S:Nat->Prop} {w w':World} {g:Sg} {v:Value} (h:u_ S w g v) (hu:Ext w w'):u_ S w' g v:=by
 obtain⟨sa,sc,oa,oc,e,h1,h2⟩:=h;exact⟨sa,sc,oa,oc,e,az.kept h1 hu (fun _ _ h=>h),h2.ext hu⟩
end
section
open Tm
abbrev Su:=By->By->Tm
abbrev vr (n s:By):Tm:= .mk n s []
def fD (t:Tm):List Vd:=vl (aV t)
theorem vI (n:By) (L:List Tm):fD (.mk n ah L)=L.flatMap fD:=by
 unfold fD;rw[o6];have h1: ∀M:List Tm,vl (M.flatMap aV)=M.flatMap (fun x=>vl (aV x)):=by
  intro M
  induction M with
  |nil=>rfl
  |cons x M ih=>rw[List.flatMap_cons,qX,ih,List.flatMap_cons]
 rw[<-List.singleton_append,qX,h1];rfl
theorem qQ {n s:By} (h:s≠ah) (L:List Tm):(n,s)∈fD (.mk n s L):=by
 unfold fD vl;rw[List.mem_filterMap];exact⟨_,fO _,by simp[Tm.sort,Tm.name,h]⟩
theorem afB {t:Tm} {f:Vd} (h:f∈fD t):f.2≠ah:=by
 unfold fD vl at h;rw[List.mem_filterMap] at h;obtain⟨x,_,hx⟩:=h;by_cases e:x.sort=ah
 .rw [if_pos e] at hx;cases hx
 .rw [if_neg e] at hx;injection hx with hx
  rw[<-hx];exact e
theorem IC {n s:By} (h:s≠ah):fD (vr n s)=[(n,s)]:=by
 unfold fD;rw[o6];simp[vl,Tm.sort,Tm.name,Tm.kids,h]
theorem adh {t x:Tm} (h:x∈t.kids) {f:Vd} (hf:f∈fD x):f∈fD t:=by
 unfold fD vl at*;rw[List.mem_filterMap] at*;obtain⟨y,hy,e⟩:=hf;exact⟨y,oC h hy,e⟩
theorem o_ (σ:Su) {n s:By} (h:s≠ah) (L:List Tm):fA σ (.mk n s L)=σ n s:=by
 unfold fA;rw[if_neg h]
theorem rG (σ:Su) (n:By) (L:List Tm):fA σ (.mk n ah L)= .mk n ah (L.map (fA σ)):=P_ σ rfl
theorem XQ {σ τ:Su}: ∀t:Tm,(∀f∈fD t,σ f.1 f.2=τ f.1 f.2)->fA σ t=fA τ t:=by
 refine Tm.ind (fun n s L ih h=>?_);by_cases hs:s=ah
 .subst hs;rw[rG,rG]
  congr 1
  refine List.map_congr_left (fun x hx=>ih x hx (fun f hf=>h f ?_));rw[vI];exact List.mem_flatMap.2 ⟨x,hx,hf⟩
 .rw [o_ σ hs,o_ τ hs];exact h _ (qQ hs L)
abbrev Bd:=By×By×Tm
def bK (s:List Bd) (n:By):Option Tm:=(s.find? fun b=>decide (b.1=n)).map (·.2.2)
theorem vN (b:Bd) (s:List Bd) (n:By):bK (b::s) n=if b.1=n then some b.2.2 else bK s n:=by
 unfold bK;rw[List.find?_cons];by_cases h:b.1=n
 .rw [if_pos h,dT h];rfl
 .rw [if_neg h,dF h]
theorem Es (s:List Bd) (b:Bd) (n:By):bK (s++[b]) n=(bK s n).or (if b.1=n then some b.2.2 else none):=by
 induction s with
 |nil=>rw[List.nil_append,vN];unfold bK;simp
 |cons a s ih=>
  rw[List.cons_append,vN,vN,ih];by_cases h:a.1=n
  .rw [if_pos h,if_pos h];rfl
  .rw [if_neg h,if_neg h]
theorem DY {s:List Bd} {n:By} {t:Tm} (h:bK s n=some t): ∃b∈s,b.1=n/\b.2.2=t:=by
 induction s with
 |nil=>cases h
 |cons a s ih=>
  rw[vN] at h;by_cases h1:a.1=n
  .rw [if_pos h1] at h;injection h with h
   exact⟨a,List.mem_cons_self ..,h1,h⟩
  .rw [if_neg h1] at h;obtain⟨b,hb,h2⟩:=ih h;exact⟨b,List.mem_cons_of_mem _ hb,h2⟩
theorem XR {s:List Bd} {n:By} (h:bK s n=none): ∀b∈s,b.1≠n:=by
 induction s with
 |nil=>intro b hb;cases hb
 |cons a s ih=>
  rw[vN] at h;by_cases h1:a.1=n
  .rw [if_pos h1] at h;cases h
  .rw [if_neg h1] at h;intro b hb;rcases List.mem_cons.1 hb with e|hb
   .rw [e];exact h1
   .exact ih h b hb
end
section
open Go.Sort Go.Proofs Tm
theorem FX: ∀a b:List UInt8,Go.Lib.compareBytes a b=if a<b then -1 else if b<a then 1 else 0
 |[],[]=>by simp[Go.Lib.compareBytes]
 |[],_::_=>by simp[Go.Lib.compareBytes]
 |_::_,[]=>by simp[Go.Lib.compareBytes]
 |a::al,b::bl=>by
  have ih:=FX al bl;unfold Go.Lib.compareBytes;rw[ih];have e1:(a::al<b::bl)<->(a<b\/a=b/\al<bl):=List.cons_lt_cons_iff;have e2:(b::bl<a::al)<->(b<a\/b=a/\bl<al):=List.cons_lt_cons_iff;simp only[e1,e2];by_cases h1:a<b
  .rw [if_pos h1,if_pos (.inl h1)]
  .rw [if_neg h1];by_cases h2:b<a
   .rw [if_pos h2];have hne: ¬a=b:=fun e=>h1 (by rw[e] at h2⊢;exact h2);rw[if_neg (fun h=>h.elim h1 (fun h=>hne h.1)),if_pos (.inl h2)]
   .rw [if_neg h2];have he:a=b:=by
     rcases Nat.lt_trichotomy a.toNat b.toNat with h|h|h
     .exact absurd h h1
     .exact UInt8.toNat_inj.1 h
     .exact absurd h h2
    subst he;by_cases h3:al<bl
    .simp [h1,h3]
    .by_cases h4:bl<al
     .simp [h1,h3,h4]
     .simp [h1,h3,h4]
theorem RD (a b:By):Go.Lib.compareBytes a.data.toList b.data.toList=dM a b:=by
 rw[FX];unfold dM blt;simp only[decide_eq_true_eq]
theorem adk (a b:By):decide (Go.Lib.compareBytes a.data.toList b.data.toList<0)=blt a b:=by
 rw[RD];unfold dM;cases h:blt a b with
 |true=>rfl
 |false=>
  rw[if_neg (by simp)];split<;>rfl
def AscK {β:Type} (key:β->By) (l:List β):Prop:=l.Pairwise fun p q=>blt (key p) (key q)=true
theorem Gf {β:Type} (key:β->By): ∀{l m:List β},AscK key l->AscK key m->(∀f,f∈l<->f∈m)->l=m
 |[],[],_,_,_=>rfl
 |[],y::m,_,_,h=>absurd ((h y).2 (List.mem_cons_self ..)) (by simp)
 |x::l,[],_,_,h=>absurd ((h x).1 (List.mem_cons_self ..)) (by simp)
 |x::l,y::m,hl,hm,h=>by
  obtain⟨l1,l2⟩:=List.pairwise_cons.1 hl;obtain⟨m1,m2⟩:=List.pairwise_cons.1 hm;have hxy:x=y:=by
   rcases List.mem_cons.1 ((h x).1 (List.mem_cons_self ..)) with e|e
   .exact e
   .rcases List.mem_cons.1 ((h y).2 (List.mem_cons_self ..)) with e2|e2
    .exact e2.symm
    .have h3:=mP (m1 x e) (l1 y e2);rw[fU] at h3;cases h3
  subst hxy
  congr 1
  refine Gf key l2 m2 (fun f=>⟨fun hf=>?_,fun hf=>?_⟩)
  .rcases List.mem_cons.1 ((h f).1 (List.mem_cons_of_mem _ hf)) with e|e
   .subst e;have:=l1 f hf;rw[fU] at this;cases this
   .exact e
  .rcases List.mem_cons.1 ((h f).2 (List.mem_cons_of_mem _ hf)) with e|e
   .subst e;have:=m1 f hf;rw[fU] at this;cases this
   .exact e
section
variable {β:Type} [Inhabited β] (key:β->By)
def Dp (x y:β):Int:=Go.Lib.compareBytes (key x).data.toList (key y).data.toList
omit [Inhabited β] in
theorem Bq (x y:β):ltOf (Dp key) x y=blt (key x) (key y):=adk _ _
omit [Inhabited β] in
theorem Q3:SWO (ltOf (Dp key)) where
 irrefl x:=by rw[Bq,fU]
 trans x y z h1 h2:=by rw[Bq] at*;exact mP h1 h2
 ntrans x y z h1 h2:=by
  rw[Bq] at*;cases h:blt (key x) (key z) with
  |false=>rfl
  |true=>
   by_cases e:key x=key y
   .rw [e,h2] at h;cases h
   .rcases zK _ _ e with h3|h3
    .rw [h1] at h3;cases h3
    .have:=mP h3 h;rw[h2] at this;cases this
theorem NV {d d':Array β} (hp:PermIn 0 d.size d d') (hs:SortedIn (ltOf (Dp key)) 0 d.size d') (hd:d.toList.Pairwise fun x y=>key x≠key y):AscK key d'.toList/\d'.toList.Perm d.toList:=by
 obtain⟨hsz,_,hperm⟩:=hp;have e1:d'.extract 0 d.size=d':=by rw[<-hsz];exact Array.extract_size
 rw[e1,Array.extract_size] at hperm;refine⟨?_,hperm⟩;have hd':d'.toList.Pairwise fun x y=>key x≠key y:=hperm.symm.pairwise hd (fun{x y} h e=>h e.symm);unfold AscK;rw[List.pairwise_iff_getElem] at hd'⊢;intro i j hi hj hij;have h1:=hd' i j hi hj hij;have hi':i<d'.size:=by simpa using hi
 have hj':j<d'.size:=by simpa using hj
 have h2:=hs i j (Nat.zero_le _) hij (by omega);rw[Bq,getElem!_pos d' j hj',getElem!_pos d' i hi'] at h2;rw[Array.getElem_toList,Array.getElem_toList] at h1⊢;rcases zK _ _ h1 with h3|h3
 .exact h3
 .rw [h2] at h3;cases h3
theorem flat_get (enc:β->List Value) (k:Nat) (hk: ∀x,(enc x).length=k): ∀(L:List β) (j:Nat),j<L.length*k->(L.flatMap enc)[j]?=some ((enc (L.getD (j / k) default))[j % k]!)
 |[],j,h=>by simp at h
 |a::L,j,h=>by
  have hk0:0<k:=by
   rcases Nat.eq_zero_or_pos k with h0|h0
   .rw [h0] at h;simp at h
   .exact h0
  rw[List.flatMap_cons];rcases Nat.lt_or_ge j k with hlt|hge
  .rw [List.getElem?_append_left (by rw[hk];exact hlt),Nat.div_eq_of_lt hlt,Nat.mod_eq_of_lt hlt];have hl:j< (enc a).length:=by rw[hk];exact hlt
   rw[List.getElem?_eq_getElem hl];show _=some ((enc a)[j]!);rw[getElem!_pos (enc a) j hl]
  .rw [List.getElem?_append_right (by rw[hk];exact hge),hk];have h1:j-k<L.length*k:=by
    simp only[List.length_cons,Nat.add_mul,Nat.one_mul] at h;omega
   rw[flat_get enc k hk L (j-k) h1];have e1:j / k=(j-k) / k+1:=by
    rw[Nat.div_eq j k,if_pos ⟨hk0,hge⟩]
   have e2:j % k=(j-k) % k:=by rw[Nat.mod_eq j k,if_pos ⟨hk0,hge⟩]
   rw[e1,e2];rfl
theorem KJ (enc:β->List Value) (k:Nat) (hk: ∀x,(enc x).length=k) {w:World} {b off:Nat} {L:List β} (h: ∀j,j<L.length*k->w.cell? ⟨b,off+j,none⟩=(L.flatMap enc)[j]?/\w.frozen? ⟨b,off+j,none⟩=false):HoldsK enc k w b off L.toArray:=by
 intro j hj;have hj2:j<L.length*k:=by simpa using hj
 obtain⟨h1,h2⟩:=h j hj2;refine⟨?_,h2⟩;rw[h1,flat_get enc k hk L j hj2,get_flatK _ _ _ _ (by simpa using hj2)]
 congr 1
 have hk0:0<k:=by
  rcases Nat.eq_zero_or_pos k with h0|h0
  .rw [h0] at hj2;simp at hj2
  .exact h0
 have hq:j / k<L.length:=Nat.div_lt_of_lt_mul (by rw[Nat.mul_comm];exact hj2);show _=(enc (L.toArray[j / k]!))[j % k]!;rw[getElem!_pos L.toArray (j / k) (by simpa using hq)];rw[List.getD_eq_getElem?_getD,List.getElem?_eq_getElem hq];rfl
theorem Dq (enc:β->List Value) (k:Nat) (hk: ∀x,(enc x).length=k) {w:World} {b off:Nat} {d:Array β} (h:HoldsK enc k w b off d) (j:Nat) (hj:j<d.size*k):w.cell? ⟨b,off+j,none⟩=(d.toList.flatMap enc)[j]?/\w.frozen? ⟨b,off+j,none⟩=false:=by
 obtain⟨h1,h2⟩:=h j (by simpa using hj);refine⟨?_,h2⟩;rw[flat_get enc k hk d.toList j (by simpa using hj)];rw[h1,get_flatK _ _ _ _ hj];have hk0:0<k:=by
  rcases Nat.eq_zero_or_pos k with h0|h0
  .rw [h0] at hj;simp at hj
  .exact h0
 have hq:j / k<d.size:=Nat.div_lt_of_lt_mul (by rw[Nat.mul_comm];exact hj);show some (enc d[j / k]!)[j % k]! =_;rw[getElem!_pos d (j / k) hq,List.getD_eq_getElem?_getD,List.getElem?_eq_getElem (by simpa using hq)];rfl
theorem KN (enc:β->List Value) (k:Nat) (w:World) (blk off n:Nat) (d:Array β) (os:Array Obj):aj (fun j=>j=blk) w (sortWorldK enc k w blk off n d os):=by
 unfold sortWorldK;refine⟨rfl,rfl,rfl,?_,fun j hj hf=>?_⟩
 .show w.heap.size<=((putRowK enc k (Sort.ahead w n) blk off d).heap++os).size;rw[Array.size_append,size_putRowK];exact Nat.le_add_right _ _
 .show ((putRowK enc k (Sort.ahead w n) blk off d).heap++os)[j]?=_;rw[Array.getElem?_append_left (by rw[size_putRowK];exact hj)];show((Sort.ahead w n).heap.modify blk _)[j]?=_;rw[Array.getElem?_modify,if_neg (fun e=>hf e.symm)];rfl
end
end
section
open Tm
abbrev bg (l:List Bd) (i:Nat):Bd:=l.getD i (ah,ah,default)
def ou:List Bd->List Value->List Value
 |[],_=>[]
 |b::l,us=> .string b.1:: .string b.2.1:: .string b.2.2.name:: .string b.2.2.sort::us.headD qG::ou l us.tail
theorem J9: ∀(l:List Bd) (us:List Value) (i:Nat),i<l.length->
  (ou l us)[i*5]?=some (.string (bg l i).1)/\(ou l us)[i*5+1]?=some (.string (bg l i).2.1)/\(ou l us)[i*5+2]?=some (.string (bg l i).2.2.name)/\(ou l us)[i*5+3]?=some (.string (bg l i).2.2.sort)/\(ou l us)[i*5+4]?=some (ug us i)
 |b::l,us,0,_=>by
  refine⟨rfl,rfl,rfl,rfl,?_⟩;cases us<;>rfl
 |b::l,us,i+1,h=>by
  obtain⟨h0,h1,h2,h3,h4⟩:=J9 l us.tail i (by simpa using h);have e: ∀k,(ou (b::l) us)[(i+1)*5+k]?=(ou l us.tail)[i*5+k]?:=fun k=>by
   rw[show(i+1)*5+k=i*5+k+1+1+1+1+1 by omega];rfl
  refine⟨by rw[<-Nat.add_zero ((i+1)*5),e];exact h0,by rw[e];exact h1,by rw[e];exact h2,by rw[e];exact h3,?_⟩;rw[e,h4];cases us<;>rfl
theorem adq {l:List Bd} {i:Nat} (h:i<l.length):bg l i∈l:=by unfold bg;rw[List.getD_eq_getElem?_getD,List.getElem?_eq_getElem h];exact List.getElem_mem h
def lC (R S:Nat->Prop) (w:World) (v:Value) (l:List Bd):Prop:= ∃us,us.length=l.length/\az R w 5 v l.length (ou l us)/\∀i,i<l.length->aA S w (bg l i).2.2.kids (ug us i)
section
variable {R S T Q F:Nat->Prop} {w w':World} {l:List Bd} {v:Value}
theorem lC.shape (h:lC R S w v l): ∃a cap,v= .slice a l.length cap:=by
 obtain⟨us,_,h,_⟩:=h;exact h.shape
theorem lC.kept (h:lC R S w v l) (hu:aj F w w') (hR: ∀k,R k->¬F k) (hS: ∀k,S k->¬F k):lC R S w' v l:=by
 obtain⟨us,h1,h2,h3⟩:=h;exact⟨us,h1,h2.kept hu hR,fun i hi=>(h3 i hi).kept hu hS⟩
theorem lC.ext (h:lC R S w v l) (hu:Ext w w'):lC R S w' v l:=h.kept hu (fun _ _ h=>h) (fun _ _ h=>h)
theorem lC.weaken (h:lC R S w v l) (hr: ∀k,R k->Q k) (hs: ∀k,S k->T k):lC Q T w v l:=by
 obtain⟨us,h1,h2,h3⟩:=h;exact⟨us,h1,h2.weaken hr,fun i hi=>(h3 i hi).weaken hs⟩
theorem lC.at_ {a:Option Addr} {n cap:Nat} (h:lC R S w (.slice a n cap) l) (hl:0<l.length):
  ∃g off,a=some ⟨g,off,none⟩/\R g/\∀i,i<l.length->∃ka kc,w.cell? ⟨g,off+i*5,none⟩=some (.string (bg l i).1)/\w.cell? ⟨g,off+i*5+1,none⟩=some (.string (bg l i).2.1)/\
   w.cell? ⟨g,off+i*5+2,none⟩=some (.string (bg l i).2.2.name)/\w.cell? ⟨g,off+i*5+3,none⟩=some (.string (bg l i).2.2.sort)/\w.cell? ⟨g,off+i*5+4,none⟩=some (.slice ka (bg l i).2.2.kids.length kc)/\aA S w (bg l i).2.2.kids (.slice ka (bg l i).2.2.kids.length kc):=by
 obtain⟨us,hl2,h,hk⟩:=h;obtain⟨g,off,cap',e,hc,hS,hj⟩:=h.pos hl;injection e with e1 e2 e3
 refine⟨g,off,e1,hS,fun i hi=>?_⟩;obtain⟨h0,h1,h2,h3,h4⟩:=J9 l us i hi;obtain⟨ka,kc,e'⟩:=(hk i hi).shape;have hk':=hk i hi;rw[e'] at hk' h4;exact⟨ka,kc,by rw[hj _ (by omega),h0],by rw[Nat.add_assoc,hj _ (by omega),h1],by rw[Nat.add_assoc,hj _ (by omega),h2],by rw[Nat.add_assoc,hj _ (by omega),h3],by rw[Nat.add_assoc,hj _ (by omega),h4],hk'⟩
end
end
end Go.Hw
