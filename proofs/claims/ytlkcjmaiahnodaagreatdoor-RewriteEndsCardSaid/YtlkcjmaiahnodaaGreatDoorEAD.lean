/- The texts RX TQ MQ TR TS TI TY TZ TYK L6 US MR UT UV UY QT UM UP VX, one behind the other. -/
import Derived.Test.YtlkcjmaiahnodaaGreatDoorEAC
import Derived.Test.YtlkcjmaiahnodaaGreatDoorEAB
import Derived.Laws.IdiomCopy
import Derived.LaidEqlPtr
import Derived.StillTail
import Derived.Deep.Quiet
import Derived.Maps.RangeRun
set_option linter.unusedVariables false
set_option linter.unusedSimpArgs false
namespace Go.Hw
open Go.RowKit Tm
section
abbrev Rx:=Int×List Int
abbrev xg (l:List Rx) (i:Nat):Rx:=l.getD i (0,[])
def jC:List Rx->List Value->List Value
 |[],_=>[]
 |x::l,us=> .int .i64 x.1::us.headD qG::jC l us.tail
theorem L_: ∀(l:List Rx) (us:List Value) (i:Nat),i<l.length->(jC l us)[i*2]?=some (.int .i64 (xg l i).1)/\(jC l us)[i*2+1]?=some (ug us i)
 |x::l,us,0,_=>by
  refine⟨rfl,?_⟩;cases us<;>rfl
 |x::l,us,i+1,h=>by
  obtain⟨h0,h1⟩:=L_ l us.tail i (by simpa using h);have e: ∀k,(jC (x::l) us)[(i+1)*2+k]?=(jC l us.tail)[i*2+k]?:=fun k=>by
   rw[show(i+1)*2+k=i*2+k+1+1 by omega];rfl
  refine⟨by rw[<-Nat.add_zero ((i+1)*2),e];exact h0,?_⟩;rw[e,h1];cases us<;>rfl
theorem XA {l:List Rx} {i:Nat} (h:i<l.length):xg l i=l[i]:=by unfold xg;rw[List.getD_eq_getElem?_getD,List.getElem?_eq_getElem h];rfl
theorem ahx {l:List Rx} {i:Nat} (h:i<l.length):xg l i∈l:=by rw[XA h];exact List.getElem_mem h
theorem ac7 (l:List Rx) (k:Nat) (h:k<l.length):l.drop k=xg l k::l.drop (k+1):=by
 rw[List.drop_eq_getElem_cons h,XA h]
abbrev wQ (S:Nat->Prop) (w:World) (u:Value) (p:List Int):Prop:=az S w 1 u p.length (p.map (Value.int .i64))
def lK (R S:Nat->Prop) (w:World) (v:Value) (l:List Rx):Prop:= ∃us,us.length=l.length/\az R w 2 v l.length (jC l us)/\∀i,i<l.length->wQ S w (ug us i) (xg l i).2
section
variable {R S T Q F:Nat->Prop} {w w':World} {l:List Rx} {v:Value}
theorem lK.nil (R S:Nat->Prop) (w:World):lK R S w qG []:=⟨[],rfl,az.nil _ _ _,fun i h=>by cases h⟩
theorem lK.shape (h:lK R S w v l): ∃a cap,v= .slice a l.length cap:=by
 obtain⟨us,_,h,_⟩:=h;exact h.shape
theorem lK.kept (h:lK R S w v l) (hu:aj F w w') (hR: ∀k,R k->¬F k) (hS: ∀k,S k->¬F k):lK R S w' v l:=by
 obtain⟨us,h1,h2,h3⟩:=h;exact⟨us,h1,h2.kept hu hR,fun i hi=>(h3 i hi).kept hu hS⟩
theorem lK.ext (h:lK R S w v l) (hu:Ext w w'):lK R S w' v l:=h.kept hu (fun _ _ h=>h) (fun _ _ h=>h)
theorem lK.weaken (h:lK R S w v l) (hr: ∀k,R k->Q k) (hs: ∀k,S k->T k):lK Q T w v l:=by
 obtain⟨us,h1,h2,h3⟩:=h;exact⟨us,h1,h2.weaken hr,fun i hi=>(h3 i hi).weaken hs⟩
theorem lK.at_ {a:Option Addr} {n cap:Nat} (h:lK R S w (.slice a n cap) l) (hl:0<l.length):
  ∃g off,a=some ⟨g,off,none⟩/\R g/\∀i,i<l.length->∃ka kc,w.cell? ⟨g,off+i*2,none⟩=some (.int .i64 (xg l i).1)/\w.cell? ⟨g,off+i*2+1,none⟩=some (.slice ka (xg l i).2.length kc)/\wQ S w (.slice ka (xg l i).2.length kc) (xg l i).2:=by
 obtain⟨us,hl2,h,hk⟩:=h;obtain⟨g,off,cap',e,hc,hS,hj⟩:=h.pos hl;injection e with e1 e2 e3
 refine⟨g,off,e1,hS,fun i hi=>?_⟩;obtain⟨h0,h1⟩:=L_ l us i hi;obtain⟨ka,kc,e'⟩:=(hk i hi).shape;have hk':=hk i hi;rw[e'] at hk' h1;exact⟨ka,kc,by rw[hj _ (by omega),h0],by rw[Nat.add_assoc,hj _ (by omega),h1],hk'⟩
end
abbrev Xe:=Rx×Option Addr×Nat
abbrev D9 (x:Xe):Value:= .slice x.2.1 x.1.2.length x.2.2
abbrev tK (x:Xe):List Value:=[.int .i64 x.1.1,D9 x]
theorem P7: ∀L:List Xe,jC (L.map (·.1)) (L.map D9)=L.flatMap tK
 |[]=>rfl
 |x::L=>by rw[List.map_cons,List.map_cons,List.flatMap_cons];simp only[jC,List.headD_cons,List.tail_cons,P7 L,tK,List.cons_append,List.nil_append]
theorem ajd {R S:Nat->Prop} {w:World} {v:Value} {L:List Xe} (h:az R w 2 v L.length (L.flatMap tK)) (hk: ∀y∈L,wQ S w (D9 y) y.1.2):lK R S w v (L.map (·.1)):=by
 refine⟨L.map D9,by simp,by rw[P7,List.length_map];exact h,fun i hi=>?_⟩;have hi':i<L.length:=by simpa using hi
 have e1:xg (L.map (·.1)) i=(L[i]).1:=by
  unfold xg;rw[List.getD_eq_getElem?_getD,List.getElem?_map,List.getElem?_eq_getElem hi'];rfl
 have e2:ug (L.map D9) i=D9 L[i]:=by
  unfold ug;rw[List.getD_eq_getElem?_getD,List.getElem?_map,List.getElem?_eq_getElem hi'];rfl
 rw[e1,e2];exact hk _ (List.getElem_mem hi')
structure BU (te:TypeId) (n0:Nat) (w:World) (v:Value) (L:List Xe):Prop where
 own:w.ownsRow n0 te 2 v L.length (L.flatMap tK)
 tl: ∀x∈L,∃Bx:Nat->Prop,wQ Bx w (D9 x) x.1.2/\∀j,Bx j->n0<=j/\j<w.heap.size/\v.ownBlock≠some j
theorem BU.start (te:TypeId) (n0:Nat) (w:World):BU te n0 w (.slice none 0 0) []:=⟨⟨rfl,.inl ⟨rfl,rfl⟩⟩,fun x hx=>by cases hx⟩
theorem BU.kept {te:TypeId} {n0:Nat} {w w':World} {v:Value} {L:List Xe} {F:Nat->Prop} (h:BU te n0 w v L) (hu:aj F w w') (hF: ∀j,n0<=j->j<w.heap.size->¬F j):BU te n0 w' v L:=
 ⟨df h.own hu (fun j hj=>hF j (h.own.lt j hj).1 (h.own.lt j hj).2),fun x hx=>by
  obtain⟨Bx,h1,h2⟩:=h.tl x hx;exact⟨Bx,h1.kept hu (fun j hj=>hF j (h2 j hj).1 (h2 j hj).2.1),fun j hj=>⟨(h2 j hj).1,ay (h2 j hj).2.1 hu.size,(h2 j hj).2.2⟩⟩⟩
theorem BU.grow {te:TypeId} {n0:Nat} {w w6 w6a w7:World} {v v':Value} {L:List Xe} {x:Xe} {Bx F:Nat->Prop} (h:BU te n0 w v L) (hn:n0<=w.heap.size) (h6:Ext w w6) (hT:wQ Bx w6 (D9 x) x.1.2) (hB: ∀j,Bx j->w.heap.size<=j/\j<w6.heap.size)
  (hA:aj F w6 w6a) (hF: ∀j,F j->j<n0)
  (hG:Grew n0 te 2 v (L.length+1) (L.flatMap tK++tK x) w6a w7 v'):BU te n0 w7 v' (L++[x]):=by
 have hU:aj (fun j=>F j\/v.ownBlock=some j) w6 w7:=(hA.mono (fun _ _ x=> .inl x)).trans (hG.upd.mono (fun _ _ x=> .inr x));have hbn: ∀j,v'.ownBlock=some j->v.ownBlock=some j\/w6.heap.size<=j:=fun j e=>by
  rcases hG.xE with h|h
  .rw [h] at e;exact .inl e
  .rw [h] at e;injection e with e;exact .inr (by have:=hA.size;omega)
 have hs6:=h6.size;refine⟨?_,fun y hy=>?_⟩
 .have ho:=hG.own;rw[List.length_append,List.flatMap_append];simpa using ho
 .rcases List.mem_append.1 hy with hy|hy
  .obtain ⟨By_,h1,h2⟩:=h.tl y hy;refine⟨By_,((h1.kept h6 (fun _ _ x=>x)).kept hU (fun j hj e=>?_)),fun j hj=>⟨(h2 j hj).1,ay (ay (h2 j hj).2.1 hs6) hU.size,fun e=>?_⟩⟩
   .rcases e with e|e
    .have:=hF j e;have:=(h2 j hj).1;omega
    .exact (h2 j hj).2.2 e
   .rcases hbn j e with e|e
    .exact (h2 j hj).2.2 e
    .have:=(h2 j hj).2.1;omega
  .rw [List.mem_singleton] at hy;subst hy;refine⟨Bx,hT.kept hU (fun j hj e=>?_),fun j hj=>⟨Nat.le_trans hn (hB j hj).1,ay (hB j hj).2 hU.size,fun e=>?_⟩⟩
   .rcases e with e|e
    .have:=hF j e;have:=(hB j hj).1;omega
    .have h3:=(h.own.lt j e).2;have h4:=(hB j hj).1;omega
   .rcases hbn j e with e|e
    .have h3:=(h.own.lt j e).2;have h4:=(hB j hj).1;omega
    .have:=(hB j hj).2;omega
theorem BU.rx {te:TypeId} {n0:Nat} {w:World} {v:Value} {L:List Xe} (h:BU te n0 w v L):lK (fun k=>n0<=k/\k<w.heap.size) (fun k=>n0<=k/\k<w.heap.size) w v (L.map (·.1)):=
 ajd ((az.iV h.own).weaken (fun k hk=>h.own.lt k hk)) (fun y hy=>by
  obtain⟨Bx,h1,h2⟩:=h.tl y hy;exact h1.weaken (fun j hj=>⟨(h2 j hj).1,(h2 j hj).2.1⟩))
end
section
inductive aG (te:TypeId) (w:World):(Nat->Prop)->List Tm->Value->Prop
 |mk (B:Nat->Prop) (L:List Tm) (us:List Value) (v:Value) (Bk:Nat->Nat->Prop)
   (hl:us.length=L.length) (hown:w.ownsRow 0 te 3 v L.length (dC L us))
   (hb: ∀k,v.ownBlock=some k->B k) (hkb: ∀i k,i<L.length->Bk i k->B k)
   (hrow: ∀i k,i<L.length->Bk i k->v.ownBlock≠some k)
   (hdis: ∀i j k,i<L.length->j<L.length->i≠j->Bk i k->¬Bk j k)
   (hk: ∀i,i<L.length->aG te w (Bk i) (tg L i).kids (ug us i)):aG te w B L v
section
variable {te:TypeId} {w w':World} {B B' F S:Nat->Prop} {L:List Tm} {v:Value}
theorem aG.nil (te:TypeId) (w:World) (B:Nat->Prop):aG te w B [] qG:=
 ⟨B,[],[],qG,fun _ _=>False,rfl,⟨rfl,.inl ⟨rfl,rfl⟩⟩,fun k h=>by simp[Value.ownBlock] at h,fun i k h=>absurd h (Nat.not_lt_zero _),fun i k h=>absurd h (Nat.not_lt_zero _),fun i j k h=>absurd h (Nat.not_lt_zero _),fun i h=>absurd h (Nat.not_lt_zero _)⟩
theorem aG.weaken (h:aG te w B L v) (hB: ∀k,B k->B' k):aG te w B' L v:=by
 cases h with
 |mk _ _ us _ Bk hl hown hb hkb hrow hdis hk=>exact⟨B',L,us,v,Bk,hl,hown,fun k h=>hB k (hb k h),fun i k hi h=>hB k (hkb i k hi h),hrow,hdis,hk⟩
theorem aG.kept (h:aG te w B L v) (hu:aj F w w') (hF: ∀k,B k->¬F k):aG te w' B L v:=by
 induction h with
 |mk B L us v Bk hl hown hb hkb hrow hdis hk ih=>
  exact⟨B,L,us,v,Bk,hl,df hown hu (fun k hk=>hF k (hb k hk)),hb,hkb,hrow,hdis,fun i hi=>ih i hi (fun k hk2=>hF k (hkb i k hi hk2))⟩
theorem aG.read (h:aG te w B L v):aA B w L v:=by
 induction h with
 |mk B L us v Bk hl hown hb hkb hrow hdis hk ih=>
  exact .mk L us v hl ((az.iV hown).weaken hb) (fun i hi=>(ih i hi).weaken (fun k hk2=>hkb i k hi hk2))
end
def uj:Tm->List Nat->Prop
 |_,[]=>True
 |t,i::p=>i<t.kids.length/\uj (tg t.kids i) p
def uJ:Tm->List Nat->Tm
 |t,[]=>t
 |t,i::p=>uJ (tg t.kids i) p
def pR (w:World):List Nat->Nat×Nat->Nat×Nat->Prop
 |[],a,a'=>a'=a
 |i::p,a,a'=> ∃g off n c,w.cell? ⟨a.1,a.2+2,none⟩=some (.slice (some ⟨g,off,none⟩) n c)/\pR w p (g,off+i*3) a'
def f_ (w:World) (a:Nat×Nat) (n s:By) (u:Value):World:=((w.setCell ⟨a.1,a.2,none⟩ (.string n)).setCell ⟨a.1,a.2+1,none⟩ (.string s)).setCell ⟨a.1,a.2+2,none⟩ u
theorem zW (w:World) (a:Nat×Nat) (n s:By) (u:Value):aj (fun k=>k=a.1) w (f_ w a n s u):=
 (((aj.refl (fun k=>k=a.1) w).setCell (p:=⟨a.1,a.2,none⟩) (.inl rfl) _).setCell (p:=⟨a.1,a.2+1,none⟩) (.inl rfl) _).setCell (p:=⟨a.1,a.2+2,none⟩) (.inl rfl) _
theorem GR {w:World} {b:Nat} {e:TypeId} {g cap n size:Nat} {xs:List Value} (h:w.ownsRow b e size (.slice (some ⟨g,0,none⟩) n cap) n xs) (j:Nat) (u:Value):
  (w.setCell ⟨g,j,none⟩ u).ownsRow b e size (.slice (some ⟨g,0,none⟩) n cap) n (xs.set j u):=by
 obtain⟨h1,⟨e0,_⟩|⟨g',cap',cur,e0,h3,h4,h5,h6,h7,h8⟩⟩:=h
 .cases e0
 .injection e0 with e1 e2 e3
  injection e1 with e1
  injection e1 with e1
  subst e1;subst e3;refine⟨by rw[List.length_set];exact h1,.inr ⟨g,cap,_,rfl,h3,setBlock h4 j u,h5,h6,by rw[Array.size_setIfInBounds];exact h7,?_⟩⟩;rw[<-h8,Array.toList_setIfInBounds,List.take_set]
theorem Jh: ∀(L:List Tm) (us:List Value) (i:Nat) (y:Tm) (u:Value),us.length=L.length->i<L.length->(((dC L us).set (i*3) (.string y.name)).set (i*3+1) (.string y.sort)).set (i*3+2) u=dC (L.set i y) (us.set i u)
 |t::L,a::us,0,y,u,_,_=>rfl
 |t::L,a::us,i+1,y,u,hl,hi=>by
  have ih:=Jh L us i y u (by simpa using hl) (by simpa using hi);rw[show(i+1)*3=i*3+1+1+1 by omega];simp only[dC,List.headD_cons,List.tail_cons,List.set_cons_succ,<-ih]
theorem FW: ∀(L:List Tm) (us:List Value) (i:Nat) (y:Tm),y.name=(tg L i).name->y.sort=(tg L i).sort->dC (L.set i y) us=dC L us
 |[],_,_,_,_,_=>rfl
 |t::L,us,0,y,h1,h2=>by
  simp only[List.set_cons_zero,dC];rw[show y.name=t.name from h1,show y.sort=t.sort from h2]
 |t::L,us,i+1,y,h1,h2=>by
  simp only[List.set_cons_succ,dC];rw[FW L us.tail i y h1 h2]
theorem XI (L:List Tm) (i j:Nat) (y:Tm) (hi:i<L.length):tg (L.set i y) j=if i=j then y else tg L j:=by
 unfold tg;rw[List.getD_eq_getElem?_getD,List.getElem?_set];by_cases h:i=j
 .subst h;rw[if_pos rfl,if_pos rfl,if_pos hi];rfl
 .rw [if_neg h,if_neg h,List.getD_eq_getElem?_getD]
theorem aiA (us:List Value) (i j:Nat) (u:Value) (hi:i<us.length):ug (us.set i u) j=if i=j then u else ug us j:=by
 unfold ug;rw[List.getD_eq_getElem?_getD,List.getElem?_set];by_cases h:i=j
 .subst h;rw[if_pos rfl,if_pos rfl,if_pos hi];rfl
 .rw [if_neg h,if_neg h,List.getD_eq_getElem?_getD]
theorem yh {w:World} {b:Nat} {e:TypeId} {size n:Nat} {v:Value} {xs:List Value} (h:w.ownsRow b e size v n xs) (hn:0<n): ∃g cap cur,v= .slice (some ⟨g,0,none⟩) n cap/\w.heap[g]?=some (.cells cur e (0,0))/\n*size<=cur.size:=by
 rcases h.2 with⟨_,h2⟩|⟨g,cap,cur,rfl,hb,hg,hc,hm,hs,ht⟩
 .omega
 .exact ⟨g,cap,cur,rfl,hg,by rw[hs];exact Nat.mul_le_mul_right _ hc⟩
theorem Qa {te:TypeId} {w:World} (y:Tm) (u:Value) (S:Nat->Prop) (hy:aA S w y.kids u): ∀(p:List Nat) (i:Nat) (L:List Tm) (v:Value) (B:Nat->Prop) (g n c:Nat) (a:Nat×Nat),aG te w B L v->(∀k,S k->¬B k)->v= .slice (some ⟨g,0,none⟩) n c->i<L.length->uj (tg L i) p->pR w p (g,i*3) a->
  B a.1/\(∃cur,w.heap[a.1]?=some (.cells cur te (0,0))/\a.2+2<cur.size)/\aA (fun k=>B k\/S k) (f_ w a y.name y.sort u) (L.set i (putAt (tg L i) p y)) v
 |[],i,L,v,B,g,n,c,a,h,hS,hv,hi,hp,ha=>by
  have ha:a=(g,i*3):=ha;subst ha;cases h with
  |mk _ _ us _ Bk hl hown hb hkb hrow hdis hk=>
   obtain⟨g',cap,cur,hv',hg,hsz⟩:=yh hown (by omega);rw[hv] at hv';injection hv' with e1 e2 e3
   injection e1 with e1
   injection e1 with e1
   subst e1;have hBg:B g:=hb g (by rw[hv];rfl);refine⟨hBg,⟨cur,hg,by show i*3+2<_;omega⟩,?_⟩;have hU:=zW w (g,i*3) y.name y.sort u;have hown2:(f_ w (g,i*3) y.name y.sort u).ownsRow 0 te 3 v L.length (dC (L.set i y) (us.set i u)):=by
    rw[<-Jh L us i y u hl hi];rw[hv,e2] at hown⊢;exact GR (GR (GR hown _ _) _ _) _ _
   have e4:putAt (tg L i) [] y=y:=by cases tg L i;rfl
   rw[e4];refine .mk _ (us.set i u) v (by simp[hl]) (by rw[List.length_set];exact(az.iV hown2).weaken (fun k hk=> .inl (hb k hk))) (fun j hj=>?_);rw[List.length_set] at hj;rw[XI L i j y hi,aiA us i j u (by omega)];by_cases hij:i=j
   .rw [if_pos hij,if_pos hij];exact(hy.kept hU (fun k hk e=>hS k hk (by rw[show k=g from e];exact hBg))).weaken (fun k hk=> .inr hk)
   .rw [if_neg hij,if_neg hij];exact((hk j hj).kept hU (fun k hk e=>hrow j k hj hk (by rw[hv,show k=g from e];rfl))).read.weaken (fun k hk=> .inl (hkb j k hj hk))
 |i'::p,i,L,v,B,g,n,c,a,h,hS,hv,hi,hp,ha=>by
  cases h with
  |mk _ _ us _ Bk hl hown hb hkb hrow hdis hk=>
   obtain⟨g',cap,cur,hv',hg,hsz⟩:=yh hown (by omega);have hv2:=hv;rw[hv] at hv';injection hv' with e1 e2 e3
   injection e1 with e1
   injection e1 with e1
   subst e1;obtain⟨g2,lU,n2,c2,hc2,ha2⟩:=ha;have hcell:w.cell? ⟨g,i*3+2,none⟩=some (ug us i):=by
    have h1:=az.cellAt (az.iV hown) (g:=g) (off:=0) (by rw[hv]) (j:=i*3+2) (by omega);rw[Nat.zero_add] at h1;rw[h1];exact(yT L us i hi).2.2
   rw[hcell] at hc2;injection hc2 with hc2
   have hki:=hk i hi;have hoff:lU=0:=by
    have h0:0< (tg L i).kids.length:=by have:=hp.1;omega
    cases hki with
    |mk _ _ BV _ _ _ hown2 _ _ _ _ _=>
     obtain⟨g3,c3,ani,hv3,_,_⟩:=yh hown2 h0;rw[hc2] at hv3;injection hv3 with e4 _ _
     injection e4 with e4
     injection e4
   subst hoff;obtain⟨h1,h2,h3⟩:=Qa y u S hy p i' (tg L i).kids (ug us i) (Bk i) g2 n2 c2 a hki (fun k hk hb2=>hS k hk (hkb i k hi hb2)) hc2 hp.1 hp.2 (by rw[Nat.zero_add] at ha2;exact ha2);have hU:=zW w a y.name y.sort u;refine⟨hkb i _ hi h1,h2,?_⟩;obtain⟨nm,so,K,hK⟩: ∃nm so K,tg L i= .mk nm so K:=⟨_,_,_,(eta _).symm⟩
   have e5:putAt (tg L i) (i'::p) y= .mk nm so (K.set i' (putAt (tg K i') p y)):=by rw[hK];rfl
   rw[hK] at h3;simp only[Tm.kids] at h3;rw[e5];refine .mk _ us v (by simp[hl]) ?_ (fun j hj=>?_)
   .rw [List.length_set,FW L us i _ (by rw[hK];rfl) (by rw[hK];rfl)];exact(az.kept (az.iV hown) hU (fun k hk e=>hrow i k hi (by rw[show k=a.1 from e];exact h1) hk)).weaken (fun k hk=> .inl (hb k hk))
   .rw [List.length_set] at hj;rw[XI L i j _ hi];by_cases hij:i=j
    .subst hij;rw[if_pos rfl];simp only[Tm.kids];exact h3.weaken (fun k hk=>hk.elim (fun hk=> .inl (hkb i k hi hk)) .inr)
    .rw [if_neg hij];exact((hk j hj).kept hU (fun k hk2 e=>hdis i j k hi hj hij (by rw[show k=a.1 from e];exact h1) hk2)).read.weaken (fun k hk2=> .inl (hkb j k hj hk2))
theorem acp {te:TypeId} {w:World} {b:Nat} {B S:Nat->Prop} {t y:Tm} {u0 u:Value} {p:List Nat} {a:Nat×Nat} (hb:w.heap[b]?=some (.cells #[.string t.name,.string t.sort,u0] te (0,0))) (h:aG te w B t.kids u0) (hbb: ¬B b) (hy:aA S w y.kids u) (hS: ∀k,S k->¬B k/\k≠b) (hp:uj t p) (ha:pR w p (b,0) a):
  (a.1=b\/B a.1)/\(∃cur,w.heap[a.1]?=some (.cells cur te (0,0))/\a.2+2<cur.size)/\∃u',(f_ w a y.name y.sort u).heap[b]?=some (.cells #[.string (putAt t p y).name,.string (putAt t p y).sort,u'] te (0,0))/\aA (fun k=>B k\/S k) (f_ w a y.name y.sort u) (putAt t p y).kids u':=by
 cases p with
 |nil=>
  have ha:a=(b,0):=ha;subst ha;have e4:putAt t [] y=y:=by cases t;rfl
  rw[e4];refine⟨.inl rfl,⟨_,hb,by simp⟩,u,?_,(hy.kept (zW w (b,0) y.name y.sort u) (fun k hk e=>(hS k hk).2 e)).weaken (fun k hk=> .inr hk)⟩;have:=setBlock (setBlock (setBlock hb 0 (.string y.name)) 1 (.string y.sort)) 2 u;simpa[f_] using this
 |cons i p=>
  obtain⟨g,off,n,c,hc,ha⟩:=ha;have hcell:w.cell? ⟨b,0+2,none⟩=some u0:=af hb 2 u0 rfl;rw[hcell] at hc;injection hc with hc
  have hoff:off=0:=by
   have h0:0<t.kids.length:=by have:=hp.1;omega
   cases h with
   |mk _ _ BV _ _ _ hown2 _ _ _ _ _=>
    obtain⟨g3,c3,ani,hv3,_,_⟩:=yh hown2 h0;rw[hc] at hv3;injection hv3 with e4 _ _
    injection e4 with e4
    injection e4
  subst hoff;obtain⟨h1,h2,h3⟩:=Qa y u S hy p i t.kids u0 B g n c a h (fun k hk=>(hS k hk).1) hc hp.1 hp.2 (by rw[Nat.zero_add] at ha;exact ha);refine⟨.inr h1,h2,u0,?_,?_⟩
  .have e:(putAt t (i::p) y).name=t.name/\(putAt t (i::p) y).sort=t.sort:=by cases t;exact⟨rfl,rfl⟩
   rw[e.1,e.2];exact(zW w a y.name y.sort u).heap hb (fun e=>hbb (by rw[show b=a.1 from e];exact h1))
  .have e:(putAt t (i::p) y).kids=t.kids.set i (putAt (tg t.kids i) p y):=by cases t;rfl
   rw[e];exact h3
end
abbrev Sb:=By->Option Tm
def Sb.put (σ:Sb) (n:By) (t:Tm):Sb:=fun m=>if m=n then some t else σ m
mutual
def jJ:Tm->Tm->Sb->Option Sb
 | .mk n s L,t,σ=>
  if s=ah then(if t.sort=ah/\t.name=n/\t.kids.length=L.length then mX L t.kids σ else none)
  else match σ n with
   |some x=>if x=t then some σ else none
   |none=>if t.sort≠ah/\t.sort≠s then none else some (σ.put n t)
def mX:List Tm->List Tm->Sb->Option Sb
 |[],_,σ=>some σ
 |_::_,[],_=>none
 |a::L,b::M,σ=>match jJ a b σ with
  |none=>none
  |some τ=>mX L M τ
end
theorem Jv {n:By} {L:List Tm} {t:Tm} {σ:Sb} (h:t.sort=ah/\t.name=n/\t.kids.length=L.length):jJ (.mk n ah L) t σ=mX L t.kids σ:=by
 unfold jJ;rw[if_pos rfl,if_pos h]
theorem zV {n:By} {L:List Tm} {t:Tm} {σ:Sb} (h: ¬(t.sort=ah/\t.name=n/\t.kids.length=L.length)):jJ (.mk n ah L) t σ=none:=by
 unfold jJ;rw[if_pos rfl,if_neg h]
theorem Dk {n s:By} {L:List Tm} {t x:Tm} {σ:Sb} (hs:s≠ah) (h:σ n=some x):jJ (.mk n s L) t σ=if x=t then some σ else none:=by
 unfold jJ;rw[if_neg hs,h]
theorem Aw {n s:By} {L:List Tm} {t:Tm} {σ:Sb} (hs:s≠ah) (h:σ n=none):jJ (.mk n s L) t σ=if t.sort≠ah/\t.sort≠s then none else some (σ.put n t):=by
 unfold jJ;rw[if_neg hs,h]
theorem Yt {L M:List Tm} {σ:Sb} {k:Nat} (hL:k<L.length) (hM:k<M.length):
  mX (L.drop k) (M.drop k) σ=match jJ (tg L k) (tg M k) σ with|none=>none|some τ=>mX (L.drop (k+1)) (M.drop (k+1)) τ:=by
 have e1:L.drop k=tg L k::L.drop (k+1):=by
  rw[List.drop_eq_getElem_cons hL];unfold tg;rw[List.getD_eq_getElem?_getD,List.getElem?_eq_getElem hL];rfl
 have e2:M.drop k=tg M k::M.drop (k+1):=by
  rw[List.drop_eq_getElem_cons hM];unfold tg;rw[List.getD_eq_getElem?_getD,List.getElem?_eq_getElem hM];rfl
 rw[e1,e2];rfl
def jK (σ:Sb) (t:Tm):Tm:=fA (fun n _=>(σ n).getD default) t
theorem QQ (σ:Sb) (n:By) (L:List Tm):jK σ (.mk n ah L)= .mk n ah (L.map (jK σ)):=P_ _ rfl
theorem NK (σ:Sb) {n s:By} {L:List Tm} (h:s≠ah):jK σ (.mk n s L)=(σ n).getD default:=by
 unfold jK fA;rw[if_neg h]
def sb0:Sb:=fun _=>none
def jL (r:Rl) (t:Tm):Option Tm:=(jJ r.1 t sb0).map fun σ=>jK σ r.2
def vX:Nat->List Rl->Tm->Option (Nat×Tm)
 |_,[],_=>none
 |i,r::l,t=>match jL r t with
  |some u=>some (i,u)
  |none=>vX (i+1) l t
mutual
def jy (l:List Rl):Tm->Option (Nat×List Nat×Tm)
 | .mk n s L=>match sK l 0 L with
  |some x=>some x
  |none=>(vX 0 l (.mk n s L)).map fun x=>(x.1,[],x.2)
def sK (l:List Rl):Nat->List Tm->Option (Nat×List Nat×Tm)
 |_,[]=>none
 |i,a::L=>match jy l a with
  |some x=>some (x.1,i::x.2.1,x.2.2)
  |none=>sK l (i+1) L
end
theorem QW (l:List Rl) (n s:By) (L:List Tm):jy l (.mk n s L)=match sK l 0 L with|some x=>some x|none=>(vX 0 l (.mk n s L)).map fun x=>(x.1,[],x.2):=by
 conv=>lhs;unfold jy
theorem QX (l:List Rl) (L:List Tm) (k:Nat) (h:k<L.length):sK l k (L.drop k)=match jy l (tg L k) with|some x=>some (x.1,k::x.2.1,x.2.2)|none=>sK l (k+1) (L.drop (k+1)):=by
 have e1:L.drop k=tg L k::L.drop (k+1):=by
  rw[List.drop_eq_getElem_cons h];unfold tg;rw[List.getD_eq_getElem?_getD,List.getElem?_eq_getElem h];rfl
 rw[e1]
 conv=>lhs;unfold sK
theorem QZ (l:List Rl) (t:Tm) (k:Nat) (h:k<l.length):vX k (l.drop k) t=match jL (rg l k) t with|some u=>some (k,u)|none=>vX (k+1) (l.drop (k+1)) t:=by
 have e1:l.drop k=rg l k::l.drop (k+1):=by
  rw[List.drop_eq_getElem_cons h];unfold rg;rw[List.getD_eq_getElem?_getD,List.getElem?_eq_getElem h];rfl
 rw[e1]
 conv=>lhs;unfold vX
theorem adi (l:List Rl) (t:Tm): ∀(m:List Rl) (k i:Nat) (u:Tm),m=l.drop k->k<=l.length->vX k m t=some (i,u)->i<l.length/\jL (rg l i) t=some u:=by
 intro m
 induction m with
 |nil=>intro k i u _ _ h;cases h
 |cons r m ih=>
  intro k i u hm hk h;have hlt:k<l.length:=by
   apply Nat.lt_of_not_le;intro e;rw[List.drop_eq_nil_of_le e] at hm;cases hm
  rw[hm,QZ l t k hlt] at h;cases ha:jL (rg l k) t with
  |some y=>
   rw[ha] at h;injection h with h
   injection h with h1 h2
   subst h1;subst h2;exact⟨hlt,ha⟩
  |none=>
   rw[ha] at h;have hm2:m=l.drop (k+1):=by
    have:=congrArg List.tail hm;simpa using this
   rw[<-hm2] at h;exact ih (k+1) i u hm2 hlt h
theorem zG (l:List Rl): ∀(t:Tm) (i:Nat) (p:List Nat) (u:Tm),jy l t=some (i,p,u)->uj t p/\i<l.length/\jL (rg l i) (uJ t p)=some u:=by
 refine Tm.ind (fun n s L ih=>?_);intro i p u h;rw[QW] at h;have key: ∀(N k:Nat),L.length-k<=N->k<=L.length->∀(i:Nat) (p:List Nat) (u:Tm),sK l k (L.drop k)=some (i,p,u)->∃j q,p=j::q/\j<L.length/\uj (tg L j) q/\i<l.length/\jL (rg l i) (uJ (tg L j) q)=some u:=by
  intro N
  induction N with
  |zero=>
   intro k hN hk i p u h;rw[List.drop_eq_nil_of_le (by omega)] at h;unfold sK at h;cases h
  |succ N ihN=>
   intro k hN hk i p u h;by_cases hlt:k<L.length
   .rw [QX l L k hlt] at h;cases hf:jy l (tg L k) with
    |some x=>
     rw[hf] at h;injection h with h
     obtain⟨x1,x2,x3⟩:=x;injection h with h1 h2
     injection h2 with h2 h3
     subst h1;subst h3;have hmem:tg L k∈L:=by unfold tg;rw[List.getD_eq_getElem?_getD,List.getElem?_eq_getElem hlt];exact List.getElem_mem hlt
     obtain⟨g1,g2,g3⟩:=ih _ hmem _ _ _ hf;exact⟨k,x2,h2.symm,hlt,g1,g2,g3⟩
    |none=>
     rw[hf] at h;exact ihN (k+1) (by omega) hlt i p u h
   .rw [List.drop_eq_nil_of_le (by omega)] at h;unfold sK at h;cases h
 cases hl:sK l 0 L with
 |some x=>
  rw[hl] at h;injection h with h
  subst h;obtain⟨j,q,hp,hj,g1,g2,g3⟩:=key L.length 0 (by omega) (Nat.zero_le _) i p u (by simpa using hl);subst hp;exact⟨⟨hj,g1⟩,g2,g3⟩
 |none=>
  rw[hl] at h;cases hf:vX 0 l (.mk n s L) with
  |none=>rw[hf] at h;cases h
  |some x=>
   rw[hf] at h;injection h with h
   injection h with h1 h2
   injection h2 with h2 h3
   subst h1;subst h2;subst h3;obtain⟨g1,g2⟩:=adi l _ l 0 x.1 x.2 rfl (Nat.zero_le _) hf;exact⟨trivial,g1,g2⟩
structure Nr where
 nm:By
 so:By
 ks:List Nat
structure Cl where
 up:Option Nat
 nm:By
 so:By
 mx:Bool
 tm:Option Nat
 ma:Nat
 sz:Nat
 dp:Nat
structure St where
 vs:List (By×Nat)
 ns:List (Nat×Nat)
 cs:List Cl
def qp {κ:Type} [DecidableEq κ] (l:List (κ×Nat)) (k:κ):Option Nat:=(l.find? fun e=>decide (e.1=k)).map (·.2)
def jG (cs:List Cl):Nat->Nat->Option Nat
 |0,_=>none
 |f+1,c=>match cs[c]? with
  |none=>none
  |some x=>match x.up with
   |none=>some c
   |some d=>jG cs f d
def qP (F:Nat) (st:St) (nm so:By):Option (St×Nat):=match qp st.vs nm with
 |some c=>(jG st.cs F c).map fun r=>(st,r)
 |none=>(jG (st.cs++[⟨none,nm,so,false,none,0,0,0⟩]) F st.cs.length).map fun r=>({st with vs:=st.vs++[(nm,st.cs.length)],cs:=st.cs++[⟨none,nm,so,false,none,0,0,0⟩]},r)
def Rq (F:Nat) (st:St) (i:Nat):Option (St×Nat):=match qp st.ns i with
 |some c=>(jG st.cs F c).map fun r=>(st,r)
 |none=>(jG (st.cs++[⟨none,ah,ah,false,some i,0,0,0⟩]) F st.cs.length).map fun r=>({st with ns:=st.ns++[(i,st.cs.length)],cs:=st.cs++[⟨none,ah,ah,false,some i,0,0,0⟩]},r)
def jl (T:List Nr) (F:Nat) (st:St) (i:Nat):Option (St×Nat):=match T[i]? with
 |none=>none
 |some r=>if r.so=ah then Rq F st i else qP F st r.nm r.so
def bF (A B:Cl):Cl:=
 {A with
  mx:=A.mx||B.mx||(decide (A.so≠ah)&&decide (B.so≠ah)&&decide (A.so≠B.so))
  nm:=if A.nm=ah\/(B.nm≠ah/\blt B.nm A.nm=true) then B.nm else A.nm
  so:=if A.nm=ah\/(B.nm≠ah/\blt B.nm A.nm=true) then B.so else A.so
  tm:=match A.tm with|none=>B.tm|some x=>some x}
def RJ (un:St->Nat->Nat->Option (St×Bool)):St->List Nat->List Nat->Option (St×Bool)
 |st,x::xs,y::ys=>match un st x y with
  |none=>none
  |some (st1,false)=>some (st1,false)
  |some (st1,true)=>RJ un st1 xs ys
 |st,_,_=>some (st,true)
def KU (T:List Nr):Nat->St->Nat->Nat->Option (St×Bool)
 |0,_,_,_=>none
 |F+1,st,s,t=>match jl T F st s with
  |none=>none
  |some (st1,a)=>match jl T F st1 t with
   |none=>none
   |some (st2,b)=>if a=b then some (st2,true) else
    match st2.cs[a]?,st2.cs[b]? with
    |some A,some B=>
     let f_:St:={st2 with cs:=(st2.cs.set b {B with up:=some a}).set a (bF A B)}
     match A.tm,B.tm with
     |some x,some y=>match T[x]?,T[y]? with
      |some X,some Y=>if X.nm≠Y.nm\/X.ks.length≠Y.ks.length then some (f_,false) else RJ (KU T F) f_ X.ks Y.ks
      |_,_=>none
     |_,_=>some (f_,true)
    |_,_=>none
def dI (st:St) (c:Nat) (x:Cl):St:={st with cs:=st.cs.set c x}
section
abbrev iW (p:Nat×Nat):Value:= .pointer (some ⟨p.1,p.2,none⟩)
def Plain (w:World) (b:Nat):Prop:= ∃cs t,w.heap[b]?=some (.cells cs t (0,0))
theorem Plain.ext {w w':World} {b:Nat} (h:Plain w b) (hu:Ext w w'):Plain w' b:=by
 obtain⟨cs,t,h⟩:=h;exact⟨cs,t,hu.heap h (fun h=>h)⟩
section
variable {P:Program} {kt et elem:TypeId} {ie:TypeInfo}
theorem V7 (hk:P.underlying kt=some (.pointer elem)) (hi:P.info? elem=some ie) (hs:ie.size≠0) (d:Nat) (a b:Nat×Nat) (w:World) (ha:Plain w a.1) (hb:Plain w b.1):(Op.equalIn (d+1) kt (iW a) (iW b)).run P w= .ok (decide (a=b)) w:=by
 by_cases hab:a=b
 .subst hab;rw[dT rfl];simp[Op.equalIn,run_underlying hk,sizeOf,typeInfo,hi,hs,run_sameAddr_same]
 .obtain ⟨ca,ta,ha⟩:=ha;obtain⟨cb,tb,hb⟩:=hb;have h1:=run_sameAddr_other (P:=P) (w:=w) (a:=⟨a.1,a.2,none⟩) (b:=⟨b.1,b.2,none⟩) (fun e=>hab (by injection e with e1 e2;exact Prod.ext e1 e2)) ha hb;rw[dF hab];simp[Op.equalIn,run_underlying hk,sizeOf,typeInfo,hi,hs,h1]
theorem acA (hk:P.underlying kt=some (.pointer elem)) (hi:P.info? elem=some ie) (hs:ie.size≠0) (a b:Nat×Nat) (w:World) (ha:Plain w a.1) (hb:Plain w b.1):(binOp .eql kt (iW a) (iW b)).run P w= .ok (.bool (decide (a=b))) w:=by
 have h:(Op.equal kt (iW a) (iW b)).run P w= .ok (decide (a=b)) w:=V7 hk hi hs 9999 a b w ha hb;simp only[binOp,Sem.run_bind,h,Result.andThen_ok,Sem.run_pure]
theorem KQ (hk:P.underlying kt=some (.pointer elem)) (em:Bool) (a:Nat×Nat) (w:World):(Instr.checkKey em 10000 kt (iW a)).run P w= .ok () w:=by
 show(Instr.checkKey em (9999+1) kt (iW a)).run P w= .ok () w;rw[Instr.checkKey];simp only[Sem.run_bind,run_underlying hk,Result.andThen_ok,Sem.run_pure]
theorem Oc (hk:P.underlying kt=some (.pointer elem)) (hi:P.info? elem=some ie) (hs:ie.size≠0) (x:Nat×Nat) (w:World) (hx:Plain w x.1) (es:List MapEntry) (l:List ((Nat×Nat)×Value)) (hl: ∀p∈l,Plain w p.1.1) (h:es.map (fun e=>(e.key,e.val))=l.map (fun p=>(iW p.1,p.2))):
  (Instr.findKey kt (iW x) es).run P w= .ok ((l.findIdx? fun p=>decide (p.1=x)).map fun i=>(i,((l[i]?).map (·.2)).getD (.bool false))) w:=by
 have hask: ∀(es:List MapEntry) (l:List ((Nat×Nat)×Value)) (i:Nat),(∀p∈l,Plain w p.1.1)->es.map (fun e=>(e.key,e.val))=l.map (fun p=>(iW p.1,p.2))->
   (Instr.findAsking kt (iW x) es i).run P w= .ok ((l.findIdx? fun p=>decide (p.1=x)).map fun j=>(i+j,((l[j]?).map (·.2)).getD (.bool false))) w:=by
  intro es
  induction es with
  |nil=>
   intro l i _ h;have:l=[]:=by cases l;rfl;simp at h
   subst this;rfl
  |cons e es ih=>
   intro l i hl h;cases l with
   |nil=>simp at h
   |cons p l=>
    simp only[List.map_cons,List.cons.injEq,Prod.mk.injEq] at h;obtain⟨⟨h1,h2⟩,h3⟩:=h;have hq:(Op.equal kt (iW x) (iW p.1)).run P w= .ok (decide (x=p.1)) w:=V7 hk hi hs 9999 x p.1 w hx (hl p (List.mem_cons_self ..));unfold Instr.findAsking;rw[h1,List.findIdx?_cons];simp only[Sem.run_bind,hq,Result.andThen_ok];by_cases he:p.1=x
    .rw [dT he,dT he.symm];simp[h2]
    .rw [dF he,dF (fun e=>he e.symm)];have h4:=ih l (i+1) (fun q hq=>hl q (List.mem_cons_of_mem _ hq)) h3;simp only[Bool.false_eq_true,if_false,h4];cases(l.findIdx? fun p=>decide (p.1=x)) with
     |none=>rfl
     |some j=>simp;omega
 have h2:=hask es l 0 hl h;have h3:(Instr.findKey kt (iW x) es).run P w=(Instr.findAsking kt (iW x) es).run P w:=by
  cases es with
  |nil=>simp[Instr.findKey,run_underlying hk,Instr.findNow,Instr.findAsking]
  |cons e es=>simp[Instr.findKey,run_underlying hk,Instr.findNow,Instr.sameNow]
 rw[h3,h2];simp
theorem dN.ame (hk:P.underlying kt=some (.pointer elem)) (hi:P.info? elem=some ie) (hs:ie.size≠0) {t:TypeId} (ht:P.underlying t=some (.map kt et)) {w:World} {b:Nat} {l:List ((Nat×Nat)×Value)} {z:Value} (hz:(zeroValue et).run P w= .ok z w) (h:dN iW w b l) (k:Nat×Nat) (hx:Plain w k.1) (hl: ∀p∈l,Plain w p.1.1) (c:Bool):
  (Instr.lookup t (.map (some b)) (iW k) c).run P w= .ok (if c then .tuple #[(jv l k).getD z,.bool (jv l k).isSome] else(jv l k).getD z) w:=by
 obtain⟨es,cl,h1,h2,_⟩:=h;have hf:=Oc hk hi hs k w hx es.toList l hl h2;have hc:=KQ hk es.isEmpty k w;rw[<-Gl];generalize hx:(l.findIdx? fun p=>decide (p.1=k))=x at*;cases x with
 |none=>cases c<;>simp[Instr.lookup,run_underlying ht,MapKept.run_getObj_map h1,hc,hf,hz,Result.andThen]
 |some i=>cases c<;>simp[Instr.lookup,run_underlying ht,MapKept.run_getObj_map h1,hc,hf,hz,Result.andThen]
theorem dN.amf (hk:P.underlying kt=some (.pointer elem)) (hi:P.info? elem=some ie) (hs:ie.size≠0) {t:TypeId} (ht:P.underlying t=some (.map kt et)) {w:World} {b:Nat} {l:List ((Nat×Nat)×Value)} (h:dN iW w b l) (k:Nat×Nat) (v:Value) (hx:Plain w k.1) (hl: ∀p∈l,Plain w p.1.1) (hn:jv l k=none):
  ∃w',(Instr.mapUpdate t (.map (some b)) (iW k) v).run P w= .ok () w'/\dN iW w' b (l++[(k,v)])/\aj (fun j=>j=b) w w':=by
 obtain⟨es,cl,h1,h2,h3,h4⟩:=h;have hf:=Oc hk hi hs k w hx es.toList l hl h2;have hc:=KQ hk false k w;have hblt:=(Array.getElem?_eq_some_iff.1 h1).1;have JD: ∀o,aj (fun j=>j=b) w {w with heap:=w.heap.setIfInBounds b o}:=fun o=>
  ⟨rfl,rfl,rfl,by simp,fun i hi hF=>by simp[Ne.symm (show i≠b from hF)]⟩
 rw[<-Gl] at hn;generalize hx:(l.findIdx? fun p=>decide (p.1=k))=x at*;cases x with
 |none=>
  refine⟨_,by simp[Instr.mapUpdate,run_underlying ht,MapKept.run_getObj_map h1,hc,hf,MapKept.run_setObj_map _ h1,Result.andThen];rfl,⟨es.push {key:=iW k,val:=v,born:=cl},cl+1,by simp[hblt],?_,?_,?_⟩,JD _⟩
  .simp [h2]
  .simp only [Array.toList_push];rw[List.pairwise_append];refine⟨h3,by simp,fun x hx y hy=>?_⟩;rw[List.mem_singleton] at hy;subst hy;exact h4 x hx
  .intro e he;simp only[Array.toList_push,List.mem_append,List.mem_singleton] at he;rcases he with he|he
   .have:=h4 e he;omega
   .subst he;simp
 |some i=>cases hn
end
end
section
abbrev fH (b:Nat):Value:= .pointer (some ⟨b,0,none⟩)
def pV:Option (Nat×Nat)->Value
 |none=> .pointer none
 |some p=>iW p
def blk (bk:List Nat) (c:Nat):Nat:=bk.getD c 0
theorem Ap {bk:List Nat} {c:Nat} (h:c<bk.length):bk.getD c 0=bk[c]:=by
 rw[List.getD_eq_getElem?_getD,List.getElem?_eq_getElem h];rfl
def dA (ad:Nat->Nat×Nat) (bk:List Nat) (x:Cl):Array Value:=
 #[pV (x.up.map fun c=>(blk bk c,0)),.string x.nm,.string x.so,.bool x.mx,pV (x.tm.map ad),.int .i64 (x.ma:Int),.int .i64 (x.sz:Int),.int .i64 (x.dp:Int)]
structure DL (T:List Nr) (ad:Nat->Nat×Nat) (S:Nat->Prop) (w:World):Prop where
 inj: ∀i j,i<T.length->j<T.length->ad i=ad j->i=j
 low: ∀i,i<T.length->Plain w (ad i).1/\S (ad i).1
 row: ∀i r,T[i]?=some r->w.cell? ⟨(ad i).1,(ad i).2,none⟩=some (.string r.nm)/\w.cell? ⟨(ad i).1,(ad i).2+1,none⟩=some (.string r.so)/\
  ∃a cap,w.cell? ⟨(ad i).1,(ad i).2+2,none⟩=some (.slice a r.ks.length cap)/\(0<r.ks.length->∃g off,a=some ⟨g,off,none⟩/\∀j k,r.ks[j]?=some k->k<T.length/\ad k=(g,off+j*3))
theorem DL.kept {T:List Nr} {ad:Nat->Nat×Nat} {S F:Nat->Prop} {w w':World} (h:DL T ad S w) (hu:aj F w w') (hF: ∀k,S k->¬F k):DL T ad S w':=by
 refine⟨h.inj,fun i hi=>?_,fun i r hr=>?_⟩
 .obtain ⟨⟨cs,t,h1⟩,h2⟩:=h.low i hi;exact⟨⟨cs,t,hu.heap h1 (hF _ h2)⟩,h2⟩
 .obtain ⟨h1,h2,a,cap,h3,h4⟩:=h.row i r hr;have hs:=hF _ (h.low i (List.getElem?_eq_some_iff.1 hr).1).2;exact⟨hu.cell h1 hs,hu.cell h2 hs,a,cap,hu.cell h3 hs,h4⟩
def Fb (bv bn:Nat) (bk:List Nat) (k:Nat):Prop:=k=bv\/k=bn\/k∈bk
structure lZ (N:Nat) (ad:Nat->Nat×Nat) (CT:TypeId) (bv bn:Nat) (bk:List Nat) (st:St) (w:World):Prop where
 vs:dN (fun s:ByteArray=>Value.string s) w bv (st.vs.map fun e=>(e.1,fH (blk bk e.2)))
 ns:dN iW w bn (st.ns.map fun e=>(ad e.1,fH (blk bk e.2)))
 len:bk.length=st.cs.length
 nd:(bv::bn::bk).Nodup
 row: ∀c x,st.cs[c]?=some x->w.heap[blk bk c]?=some (.cells (dA ad bk x) CT (0,0))
 S9: ∀e∈st.vs,e.2<st.cs.length
 FH: ∀e∈st.ns,e.2<st.cs.length/\e.1<N
 uA: ∀x∈st.cs,(∀d,x.up=some d->d<st.cs.length)/\(∀i,x.tm=some i->i<N)
section
variable {N:Nat} {ad:Nat->Nat×Nat} {CT:TypeId} {bv bn:Nat} {bk:List Nat} {st:St} {w w':World}
theorem lZ.ext {F:Nat->Prop} (h:lZ N ad CT bv bn bk st w) (hu:aj F w w') (hF: ∀k,Fb bv bn bk k->¬F k):lZ N ad CT bv bn bk st w':=
 ⟨h.vs.kept hu (hF _ (.inl rfl)),h.ns.kept hu (hF _ (.inr (.inl rfl))),h.len,h.nd,fun c x e=>hu.heap (h.row c x e) (hF _ (.inr (.inr (by
  have hc:=(List.getElem?_eq_some_iff.1 e).1;rw[<-h.len] at hc;show bk.getD c 0∈bk;rw[Ap hc];exact List.getElem_mem hc)))),h.S9,h.FH,h.uA⟩
theorem J7 {c:Nat} (h:c<bk.length):blk bk c∈bk:=by
 show bk.getD c 0∈bk;rw[Ap h];exact List.getElem_mem h
theorem RH (h:bk.Nodup) {c d:Nat} (hc:c<bk.length) (hd:d<bk.length) (e:blk bk c=blk bk d):c=d:=by
 have e':bk.getD c 0=bk.getD d 0:=e;rw[Ap hc,Ap hd] at e';rcases Nat.lt_trichotomy c d with hlt|heq|hlt
 .exact absurd e' ((List.pairwise_iff_getElem.1 h) c d hc hd hlt)
 .exact heq
 .exact absurd e'.symm ((List.pairwise_iff_getElem.1 h) d c hd hc hlt)
theorem GV (b:Nat) {c:Nat} (h:c<bk.length):blk (bk++[b]) c=blk bk c:=by
 show(bk++[b]).getD c 0=bk.getD c 0;rw[List.getD_eq_getElem?_getD,List.getD_eq_getElem?_getD,List.getElem?_append_left h]
theorem AL (b:Nat):blk (bk++[b]) bk.length=b:=by
 show(bk++[b]).getD bk.length 0=b;rw[List.getD_eq_getElem?_getD,List.getElem?_append_right (Nat.le_refl _),Nat.sub_self];rfl
theorem lZ.put (h:lZ N ad CT bv bn bk st w) {c:Nat} (hc:c<st.cs.length) (x:Cl) (hx:(∀d,x.up=some d->d<st.cs.length)/\(∀i,x.tm=some i->i<N)) (hu:aj (fun k=>k=blk bk c) w w')
  (hrow:w'.heap[blk bk c]?=some (.cells (dA ad bk x) CT (0,0))):lZ N ad CT bv bn bk (dI st c x) w':=by
 have hcb:c<bk.length:=by rw[h.len];exact hc
 have hm:=J7 hcb;have hn:=h.nd;rw[List.nodup_cons,List.nodup_cons] at hn;have hl:(dI st c x).cs.length=st.cs.length:=by show(st.cs.set c x).length=_;rw[List.length_set]
 refine⟨h.vs.kept hu (fun e=>hn.1 (by rw[e];exact List.mem_cons_of_mem _ hm)),h.ns.kept hu (fun e=>hn.2.1 (by rw[e];exact hm)),by rw[hl];exact h.len,h.nd,fun d y hy=>?_,fun e he=>by rw[hl];exact h.S9 e he,fun e he=>by rw[hl];exact h.FH e he,fun y hy=>?_⟩
 .have hy':(st.cs.set c x)[d]?=some y:=hy;rw[List.getElem?_set] at hy';by_cases e:c=d
  .subst e;rw[if_pos rfl,if_pos hc] at hy';injection hy' with hy'
   rw[<-hy'];exact hrow
  .rw [if_neg e] at hy';have hd:d<bk.length:=by rw[h.len];exact(List.getElem?_eq_some_iff.1 hy').1
   exact hu.heap (h.row d y hy') (fun e2=>e (RH hn.2.2 hd hcb e2).symm)
 .rw [hl];rcases List.mem_or_eq_of_mem_set (show y∈st.cs.set c x from hy) with hy|hy
  .exact h.uA y hy
  .rw [hy];exact hx
theorem Qc (h:lZ N ad CT bv bn bk st w) (b:Nat) {x:Cl} (hx:x∈st.cs):dA ad (bk++[b]) x=dA ad bk x:=by
 unfold dA;cases hu:x.up with
 |none=>rfl
 |some d=>
  have:=(h.uA x hx).1 d hu;rw[Option.map_some,Option.map_some,GV b (by rw[h.len];exact this)]
theorem lZ.made (h:lZ N ad CT bv bn bk st w) {b:Nat} {st':St} (x:Cl) (hx:x.up=none/\∀i,x.tm=some i->i<N) (hb:b∉(bv::bn::bk)) (hcs:st'.cs=st.cs++[x])
  (hvs:dN (fun s:ByteArray=>Value.string s) w' bv (st'.vs.map fun e=>(e.1,fH (blk (bk++[b]) e.2)))) (hns:dN iW w' bn (st'.ns.map fun e=>(ad e.1,fH (blk (bk++[b]) e.2))))
  (hvl: ∀e∈st'.vs,e.2<st'.cs.length) (hnl: ∀e∈st'.ns,e.2<st'.cs.length/\e.1<N)
  (hrow:w'.heap[b]?=some (.cells (dA ad (bk++[b]) x) CT (0,0))) (hkeep: ∀k∈bk,∀o,w.heap[k]?=some o->w'.heap[k]?=some o):lZ N ad CT bv bn (bk++[b]) st' w':=by
 have hn:=h.nd;refine⟨hvs,hns,by rw[hcs,List.length_append,List.length_append,h.len];rfl,?_,fun c y hy=>?_,hvl,hnl,fun y hy=>?_⟩
 .have:(bv::bn::bk)++[b]=bv::bn::(bk++[b]):=rfl;rw[<-this,List.nodup_append];refine⟨hn,by simp,fun x hx y hy=>?_⟩;rw[List.mem_singleton] at hy;rw[hy];intro e;exact hb (by rw[<-e];exact hx)
 .rw [hcs] at hy;by_cases hc:c<st.cs.length
  .rw [List.getElem?_append_left hc] at hy;have hcb:c<bk.length:=by rw[h.len];exact hc
   rw[GV b hcb,Qc h b (List.mem_of_getElem? hy)];exact hkeep _ (J7 hcb) _ (h.row c y hy)
  .rw [List.getElem?_append_right (Nat.le_of_not_lt hc)] at hy;have h0:c-st.cs.length=0:=by
    have:=(List.getElem?_eq_some_iff.1 hy).1;simp at this;omega
   rw[h0] at hy;injection hy with hy
   have hce:c=bk.length:=by rw[h.len];omega
   rw[hce,AL,<-hy];exact hrow
 .rw [hcs] at hy⊢;rw[List.length_append];rcases List.mem_append.1 hy with hy|hy
  .have:=h.uA y hy;exact⟨fun d e=>ay (this.1 d e) (Nat.le_add_right _ _),this.2⟩
  .rw [List.mem_singleton] at hy;rw[hy];exact⟨fun d e=>absurd (hx.1.symm.trans e) (by simp),hx.2⟩
theorem DV {κ κ':Type} [DecidableEq κ] [DecidableEq κ'] (f:κ->κ') (g:Nat->Value) (l:List (κ×Nat)) (k:κ) (hf: ∀e∈l,f e.1=f k->e.1=k):jv (l.map fun e=>(f e.1,g e.2)) (f k)=(qp l k).map g:=by
 unfold qp
 induction l with
 |nil=>rfl
 |cons e l ih=>
  rw[List.map_cons,jR,List.find?_cons];by_cases h:e.1=k
  .rw [h,if_pos rfl,dT rfl];rfl
  .rw [if_neg (fun e2=>h (hf e (List.mem_cons_self ..) e2)),dF h];exact ih (fun e he=>hf e (List.mem_cons_of_mem _ he))
theorem lZ.lt (h:lZ N ad CT bv bn bk st w) (k:Nat) (hk:Fb bv bn bk k):k<w.heap.size:=by
 rcases hk with hk|hk|hk
 .rw [hk];exact h.vs.lt
 .rw [hk];exact h.ns.lt
 .obtain ⟨c,hc,e⟩:=List.getElem_of_mem hk;have hc':c<st.cs.length:=by rw[<-h.len];exact hc
  have h1:=h.row c _ (List.getElem?_eq_getElem hc');have h2:=(Array.getElem?_eq_some_iff.1 h1).1;have h3:blk bk c=k:=by show bk.getD c 0=k;rw[Ap hc,e]
  rw[h3] at h2;exact h2
theorem XV {κ:Type} [DecidableEq κ] {l:List (κ×Value)} {k:κ} (h:jv l k=none) (v:Value):nO l k v=l++[(k,v)]:=by
 induction l with
 |nil=>rfl
 |cons p l ih=>
  rw[jR] at h;by_cases e:p.1=k
  .rw [if_pos e] at h;cases h
  .rw [if_neg e] at h;unfold nO;rw[if_neg e,ih h];rfl
theorem GX {κ κ':Type} (f:κ->κ') (b:Nat) (l:List (κ×Nat)) (h: ∀e∈l,e.2<bk.length):(l.map fun e=>(f e.1,fH (blk (bk++[b]) e.2)))=l.map fun e=>(f e.1,fH (blk bk e.2)):=
 List.map_congr_left fun e he=>by rw[GV b (h e he)]
theorem Qd {κ κ':Type} (f:κ->κ') (b:Nat) (l:List (κ×Nat)) (k:κ) (h: ∀e∈l,e.2<bk.length):((l++[(k,bk.length)]).map fun e=>(f e.1,fH (blk (bk++[b]) e.2)))=(l.map fun e=>(f e.1,fH (blk bk e.2)))++[(f k,fH b)]:=by
 rw[List.map_append,GX f b l h];show _++[(f k,fH (blk (bk++[b]) bk.length))]=_;rw[AL]
theorem XX {b:Nat} (h: ¬Fb bv bn bk b):b∉(bv::bn::bk):=fun hm=>h (by
 rcases List.mem_cons.1 hm with e|hm
 .exact .inl e
 .rcases List.mem_cons.1 hm with e|hm
  .exact .inr (.inl e)
  .exact .inr (.inr hm))
theorem lZ.vn (h:lZ N ad CT bv bn bk st w):bv≠bn/\bv∉bk/\bn∉bk:=by
 have h1:=h.nd;rw[List.nodup_cons,List.nodup_cons,List.mem_cons,not_or] at h1;exact⟨h1.1.1,h1.1.2,h1.2.1⟩
theorem lZ.amx (h:lZ N ad CT bv bn bk st w) {nm so:By} {b:Nat} (hf:qp st.vs nm=none) (hb: ¬Fb bv bn bk b) (hrow:w.heap[b]?=some (.cells (dA ad bk ⟨none,nm,so,false,none,0,0,0⟩) CT (0,0)))
  (hmp:dN (fun s:ByteArray=>Value.string s) w' bv (nO (st.vs.map fun e=>(e.1,fH (blk bk e.2))) nm (fH b))) (hu:aj (fun j=>j=bv) w w'):lZ N ad CT bv bn (bk++[b]) {st with vs:=st.vs++[(nm,st.cs.length)],cs:=st.cs++[⟨none,nm,so,false,none,0,0,0⟩]} w':=by
 have hvn:=h.vn;have hvl: ∀e∈st.vs,e.2<bk.length:=fun e he=>by rw[h.len];exact h.S9 e he
 have hnl: ∀e∈st.ns,e.2<bk.length:=fun e he=>by rw[h.len];exact(h.FH e he).1
 refine h.made ⟨none,nm,so,false,none,0,0,0⟩ ⟨rfl,fun i e=>by cases e⟩ (XX hb) rfl ?_ ?_ ?_ ?_ ?_ ?_
 .show dN _ w' bv ((st.vs++[(nm,st.cs.length)]).map fun e=>(e.1,fH (blk (bk++[b]) e.2)));rw[<-h.len,Qd (fun s:By=>s) b st.vs nm hvl,<-XV (by
   have:=DV (fun s:By=>s) (fun c=>fH (blk bk c)) st.vs nm (fun e _ h=>h);rw[this,hf];rfl)]
  exact hmp
 .show dN _ w' bn (st.ns.map fun e=>(ad e.1,fH (blk (bk++[b]) e.2)));rw[GX ad b st.ns hnl];exact h.ns.kept hu (fun e=>hvn.1 e.symm)
 .intro e he;show e.2< (st.cs++[_]).length;rw[List.length_append,List.length_singleton];rcases List.mem_append.1 he with he|he
  .exact ay (h.S9 e he) (Nat.le_add_right _ _)
  .rw [List.mem_singleton] at he;rw[he];exact Nat.lt_succ_self _
 .intro e he;show e.2< (st.cs++[_]).length/\_;rw[List.length_append,List.length_singleton];exact⟨ay (h.FH e he).1 (Nat.le_add_right _ _),(h.FH e he).2⟩
 .exact hu.heap hrow (fun e=>hb (.inl e))
 .intro k hk o ho;exact hu.heap ho (fun e=>hvn.2.1 (by rw[<-e];exact hk))
theorem lZ.amz (h:lZ N ad CT bv bn bk st w) {i b:Nat} (hi:i<N) (hb: ¬Fb bv bn bk b) (hrow:w.heap[b]?=some (.cells (dA ad bk ⟨none,ah,ah,false,some i,0,0,0⟩) CT (0,0)))
  (hmp:dN iW w' bn ((st.ns.map fun e=>(ad e.1,fH (blk bk e.2)))++[(ad i,fH b)])) (hu:aj (fun j=>j=bn) w w'):lZ N ad CT bv bn (bk++[b]) {st with ns:=st.ns++[(i,st.cs.length)],cs:=st.cs++[⟨none,ah,ah,false,some i,0,0,0⟩]} w':=by
 have hvn:=h.vn;have hvl: ∀e∈st.vs,e.2<bk.length:=fun e he=>by rw[h.len];exact h.S9 e he
 have hnl: ∀e∈st.ns,e.2<bk.length:=fun e he=>by rw[h.len];exact(h.FH e he).1
 refine h.made ⟨none,ah,ah,false,some i,0,0,0⟩ ⟨rfl,fun j e=>by injection e with e;rw[<-e];exact hi⟩ (XX hb) rfl ?_ ?_ ?_ ?_ ?_ ?_
 .show dN _ w' bv (st.vs.map fun e=>(e.1,fH (blk (bk++[b]) e.2)));rw[GX (fun s:By=>s) b st.vs hvl];exact h.vs.kept hu hvn.1
 .show dN _ w' bn ((st.ns++[(i,st.cs.length)]).map fun e=>(ad e.1,fH (blk (bk++[b]) e.2)));rw[<-h.len,Qd ad b st.ns i hnl];exact hmp
 .intro e he;show e.2< (st.cs++[_]).length;rw[List.length_append,List.length_singleton];exact ay (h.S9 e he) (Nat.le_add_right _ _)
 .intro e he;show e.2< (st.cs++[_]).length/\_;rw[List.length_append,List.length_singleton];rcases List.mem_append.1 he with he|he
  .exact ⟨ay (h.FH e he).1 (Nat.le_add_right _ _),(h.FH e he).2⟩
  .rw [List.mem_singleton] at he;rw[he];exact⟨Nat.lt_succ_self _,hi⟩
 .exact hu.heap hrow (fun e=>hb (.inr (.inl e)))
 .intro k hk o ho;exact hu.heap ho (fun e=>hvn.2.2 (by rw[<-e];exact hk))
end
end
section
theorem t_ {cs:List Cl}: ∀{F c r:Nat},jG cs F c=some r->∃x,cs[r]?=some x/\x.up=none
 |F+1,c,r,h=>by
  unfold jG at h;cases hx:cs[c]? with
  |none=>rw[hx] at h;cases h
  |some x=>
   rw[hx] at h;simp only at h;cases hu:x.up with
   |none=>
    rw[hu] at h;injection h with h
    subst h;exact⟨x,hx,hu⟩
   |some d=>rw[hu] at h;exact t_ h
theorem uV {T:List Nr} {F i r:Nat} {st st':St} (h:jl T F st i=some (st',r)): ∃x,st'.cs[r]?=some x/\x.up=none:=by
 have hv: ∀nm so,qP F st nm so=some (st',r)->∃x,st'.cs[r]?=some x/\x.up=none:=fun nm so h=>by
  unfold qP at h;cases hf:qp st.vs nm with
  |some c=>
   rw[hf] at h;simp only at h;cases hr:jG st.cs F c with
   |none=>rw[hr] at h;cases h
   |some q=>rw[hr] at h;simp only[Option.map_some,Option.some.injEq,Prod.mk.injEq] at h;obtain⟨rfl,rfl⟩:=h;exact t_ hr
  |none=>
   rw[hf] at h;simp only at h;cases hr:jG (st.cs++[⟨none,nm,so,false,none,0,0,0⟩]) F st.cs.length with
   |none=>rw[hr] at h;cases h
   |some q=>rw[hr] at h;simp only[Option.map_some,Option.some.injEq,Prod.mk.injEq] at h;obtain⟨rfl,rfl⟩:=h;exact t_ hr
 unfold jl at h;cases ht:T[i]? with
 |none=>rw[ht] at h;cases h
 |some x=>
  rw[ht] at h;simp only at h;by_cases hs:x.so=ah
  .rw [if_pos hs] at h;unfold Rq at h;cases hf:qp st.ns i with
   |some c=>
    rw[hf] at h;simp only at h;cases hr:jG st.cs F c with
    |none=>rw[hr] at h;cases h
    |some q=>rw[hr] at h;simp only[Option.map_some,Option.some.injEq,Prod.mk.injEq] at h;obtain⟨rfl,rfl⟩:=h;exact t_ hr
   |none=>
    rw[hf] at h;simp only at h;cases hr:jG (st.cs++[⟨none,ah,ah,false,some i,0,0,0⟩]) F st.cs.length with
    |none=>rw[hr] at h;cases h
    |some q=>rw[hr] at h;simp only[Option.map_some,Option.some.injEq,Prod.mk.injEq] at h;obtain⟨rfl,rfl⟩:=h;exact t_ hr
  .rw [if_neg hs] at h;exact hv _ _ h
structure Ur (T:List Nr) (ad:Nat->Nat×Nat) (S:Nat->Prop) (CT UT:TypeId) (bv bn ub:Nat) (bk:List Nat) (st:St) (w:World):Prop where
 us:lZ T.length ad CT bv bn bk st w
 nd:DL T ad S w
 u:w.heap[ub]?=some (.cells #[.map (some bv),.map (some bn)] UT (0,0))
 un: ¬Fb bv bn bk ub
 sn: ∀k,S k->k<w.heap.size/\¬Fb bv bn bk k
structure eH (T:List Nr) (ad:Nat->Nat×Nat) (S:Nat->Prop) (CT UT:TypeId) (bv bn ub:Nat) (bk bk':List Nat) (st':St) (w w':World):Prop where
 ur:Ur T ad S CT UT bv bn ub bk' st' w'
 upd:aj (Fb bv bn bk) w w'
 pre:bk <+:bk'
 new: ∀b∈bk',b∈bk\/w.heap.size<=b
section
variable {T:List Nr} {ad:Nat->Nat×Nat} {S:Nat->Prop} {CT UT:TypeId} {bv bn ub:Nat} {bk bk' aiD:List Nat} {st st' aiE:St} {w w' w'':World}
theorem Ur.step (h:Ur T ad S CT UT bv bn ub bk st w) (hm:lZ T.length ad CT bv bn bk' st' w') (hu:aj (Fb bv bn bk) w w') (hp:bk <+:bk') (hb: ∀b∈bk',b∈bk\/w.heap.size<=b):eH T ad S CT UT bv bn ub bk bk' st' w w':=by
 have hn: ∀k,k<w.heap.size->¬Fb bv bn bk k->¬Fb bv bn bk' k:=fun k hk hF hF'=>by
  rcases hF' with e|e|e
  .exact hF (.inl e)
  .exact hF (.inr (.inl e))
  .rcases hb k e with e|e
   .exact hF (.inr (.inr e))
   .omega
 have hul:ub<w.heap.size:=(Array.getElem?_eq_some_iff.1 h.u).1;exact⟨⟨hm,h.nd.kept hu (fun k hk=>(h.sn k hk).2),hu.heap h.u h.un,hn _ hul h.un,fun k hk=>⟨ay (h.sn k hk).1 hu.size,hn k (h.sn k hk).1 (h.sn k hk).2⟩⟩,hu,hp,hb⟩
theorem Ur.ext (h:Ur T ad S CT UT bv bn ub bk st w) (hu:Ext w w'):Ur T ad S CT UT bv bn ub bk st w':=
 ⟨h.us.ext hu (fun _ _ h=>h),h.nd.kept hu (fun _ _ h=>h),hu.heap h.u (fun h=>h),h.un,fun k hk=>⟨ay (h.sn k hk).1 hu.size,(h.sn k hk).2⟩⟩
theorem eH.refl (h:Ur T ad S CT UT bv bn ub bk st w):eH T ad S CT UT bv bn ub bk bk st w w:=⟨h,aj.refl _ _,List.prefix_refl _,fun b hb=> .inl hb⟩
theorem eH.trans (h:eH T ad S CT UT bv bn ub bk bk' st' w w') (h':eH T ad S CT UT bv bn ub bk' aiD aiE w' w''):eH T ad S CT UT bv bn ub bk aiD aiE w w'':=by
 refine⟨h'.ur,h.upd.trans' h'.upd (fun j hj hF=>?_),h.pre.trans h'.pre,fun b hb=>?_⟩
 .rcases hF with e|e|e
  .exact .inl e
  .exact .inr (.inl e)
  .rcases h.new j e with e|e
   .exact .inr (.inr e)
   .omega
 .rcases h'.new b hb with e|e
  .exact h.new b e
  .exact .inr (Nat.le_trans h.upd.size e)
theorem eH.ext (h:eH T ad S CT UT bv bn ub bk bk' st' w w') (hu:Ext w' w''):eH T ad S CT UT bv bn ub bk bk' st' w w'':=
 ⟨h.ur.ext hu,h.upd.ext hu,h.pre,h.new⟩
theorem EF (h:bk <+:bk') {c:Nat} (hc:c<bk.length):blk bk' c=blk bk c:=by
 obtain⟨t,rfl⟩:=h;show(bk++t).getD c 0=bk.getD c 0;rw[List.getD_eq_getElem?_getD,List.getD_eq_getElem?_getD,List.getElem?_append_left hc]
theorem eH.put (h:eH T ad S CT UT bv bn ub bk bk' st w w') {c:Nat} (hc:c<st.cs.length) (x:Cl) (hx:(∀d,x.up=some d->d<st.cs.length)/\(∀i,x.tm=some i->i<T.length)) (hu:aj (fun k=>k=blk bk' c) w' w'')
  (hrow:w''.heap[blk bk' c]?=some (.cells (dA ad bk' x) CT (0,0))):eH T ad S CT UT bv bn ub bk bk' (dI st c x) w w'':=by
 have hm:=h.ur.us.put hc x hx hu hrow;exact h.trans (h.ur.step hm (hu.mono (fun k _ hk=> .inr (.inr (by rw[hk];exact J7 (by rw[h.ur.us.len];exact hc))))) (List.prefix_refl _) (fun b hb=> .inl hb))
end
end
def RY (T:List Nr) (F:Nat) (ac:St->Nat->Option (St×Bool)) (c x:Nat):St->List Nat->Option (St×Bool)
 |st,[]=>some (st,true)
 |st,k::ks=>if(st.cs[c]?.map (·.tm))=some (some x) then match jl T F st k with
  |none=>none
  |some (st1,y)=>match ac st1 y with
   |none=>none
   |some (st2,false)=>some (st2,false)
   |some (st2,true)=>match st2.cs[c]?,st2.cs[y]? with
    |some C,some Y=>if C.sz<=2000/\Y.sz<=2000/\C.dp<=2000/\Y.dp<=2000 then RY T F ac c x (dI st2 c {C with sz:=min (C.sz+Y.sz) 1001,dp:=min (max C.dp (Y.dp+1)) 61}) ks else none
    |_,_=>none
  else none
def Fq (T:List Nr):Nat->St->Nat->Option (St×Bool)
 |0,_,_=>none
 |F+1,st,c=>match st.cs[c]? with
  |none=>none
  |some C=>if C.ma=1 then some (st,false) else match C.tm with
   |none=>if C.mx=true then some (st,false) else if C.ma=2 then some (st,true) else some (dI st c {C with ma:=2,sz:=1,dp:=1},true)
   |some x=>if C.ma=2 then some (st,true) else match T[x]? with
    |none=>none
    |some X=>match RY T F (Fq T F) c x (dI st c {C with ma:=1,sz:=1,dp:=1}) X.ks with
     |none=>none
     |some (st1,false)=>some (st1,false)
     |some (st1,true)=>match st1.cs[c]? with
      |none=>none
      |some C1=>some (dI st1 c {C1 with ma:=2},true)
def JH (T:List Nr) (st:St) (i:Nat):Bool:=match T[i]? with
 |none=>false
 |some r=>if r.so=ah then(qp st.ns i).isSome else(qp st.vs r.nm).isSome
theorem YZ {F i r:Nat} {st st':St} (hf:(qp st.ns i).isSome=true) (h:Rq F st i=some (st',r)):st'=st:=by
 unfold Rq at h;cases hx:qp st.ns i with
 |none=>rw[hx] at hf;cases hf
 |some c=>
  rw[hx] at h;simp only at h;cases hr:jG st.cs F c with
  |none=>rw[hr] at h;cases h
  |some q=>rw[hr] at h;simp only[Option.map_some,Option.some.injEq,Prod.mk.injEq] at h;exact h.1.symm
theorem DU {F r:Nat} {st st':St} {nm so:By} (hf:(qp st.vs nm).isSome=true) (h:qP F st nm so=some (st',r)):st'=st:=by
 unfold qP at h;cases hx:qp st.vs nm with
 |none=>rw[hx] at hf;cases hf
 |some c=>
  rw[hx] at h;simp only at h;cases hr:jG st.cs F c with
  |none=>rw[hr] at h;cases h
  |some q=>rw[hr] at h;simp only[Option.map_some,Option.some.injEq,Prod.mk.injEq] at h;exact h.1.symm
def FM (T:List Nr) (F:Nat) (st:St) (va:Nat->Option Tm) (c x:Nat):List Nat->Option (List Tm)
 |[]=>some []
 |k::ks=>if JH T st k=true then match jl T F st k with
  |none=>none
  |some (_,y)=>match va y with
   |none=>none
   |some t=>match FM T F st va c x ks with
    |none=>none
    |some L=>some (t::L)
  else none
def Oh (T:List Nr) (st:St):Nat->Nat->Option Tm
 |0,_=>none
 |F+1,c=>match st.cs[c]? with
  |none=>none
  |some C=>match C.tm with
   |none=>some (.mk C.nm C.so [])
   |some x=>match T[x]? with
    |none=>none
    |some X=>(FM T F st (Oh T st F) c x X.ks).map fun L=> .mk X.nm ah L
theorem RZ {T:List Nr} {F:Nat} {st:St} {va:Nat->Option Tm} {c x:Nat}: ∀{ks:List Nat} {L:List Tm},FM T F st va c x ks=some L->L.length=ks.length
 |[],L,h=>by unfold FM at h;injection h with h;rw[<-h];rfl
 |k::ks,L,h=>by
  unfold FM at h;by_cases hf:JH T st k=true
  .rw [if_pos hf] at h;cases hc:jl T F st k with
   |none=>rw[hc] at h;cases h
   |some q=>
    obtain⟨s1,y⟩:=q;rw[hc] at h;simp only at h;cases hv:va y with
    |none=>rw[hv] at h;cases h
    |some t=>
     rw[hv] at h;simp only at h;cases hr:FM T F st va c x ks with
     |none=>rw[hr] at h;cases h
     |some L'=>
      rw[hr] at h;simp only[Option.some.injEq] at h;rw[<-h,List.length_cons,List.length_cons,RZ hr]
  .rw [if_neg hf] at h;cases h
theorem WY {T:List Nr} {F:Nat} {st:St} {va:Nat->Option Tm} {c x:Nat}: ∀{ks:List Nat} {L:List Tm},FM T F st va c x ks=some L->∀k (hk:k<ks.length),JH T st ks[k]=true/\∃s1 y,jl T F st ks[k]=some (s1,y)/\va y=some (tg L k)
 |[],L,h,k,hk=>absurd hk (Nat.not_lt_zero _)
 |j::ks,L,h,k,hk=>by
  unfold FM at h;by_cases hf:JH T st j=true
  .rw [if_pos hf] at h;cases hc:jl T F st j with
   |none=>rw[hc] at h;cases h
   |some q=>
    obtain⟨s1,y⟩:=q;rw[hc] at h;simp only at h;cases hv:va y with
    |none=>rw[hv] at h;cases h
    |some t=>
     rw[hv] at h;simp only at h;cases hr:FM T F st va c x ks with
     |none=>rw[hr] at h;cases h
     |some L'=>
      rw[hr] at h;simp only[Option.some.injEq] at h;rw[<-h];cases k with
      |zero=>
        exact⟨hf,s1,y,hc,hv⟩
        |succ k=>exact WY hr k (by simp at hk;omega)
  .rw [if_neg hf] at h;cases h
theorem D6 (st:St) (c:Nat) (x y:Cl):dI (dI st c x) c y=dI st c y:=by
 show({st with cs:=(st.cs.set c x).set c y}:St)={st with cs:=st.cs.set c y};rw[List.set_set]
theorem RX (st:St) {c:Nat} (h:c<st.cs.length) (x:Cl):(dI st c x).cs[c]?=some x:=by
 show(st.cs.set c x)[c]?=_;rw[List.getElem?_set,if_pos rfl,if_pos h]
theorem Y_ (st:St) (c:Nat) (x:Cl):(dI st c x).cs.length=st.cs.length:=List.length_set ..
section
open Go
theorem uQ {P:Program} {ops:Array Oper} {w:World} {Q:Act->Prop}: ∀(l:List Oper) (a:Act),wpQuiet P ops (fun w'=> ∃_:Unit,w'=w) Q l a->wpStill P ops w Q l a
 |[],_,h=>h
 |o::rest,a,h=>by
  unfold wpQuiet at h;unfold wpStill;split
  .rename_i hw
   rw[if_pos hw] at h;obtain⟨v,hv,hn⟩:=h;have hv:=hv w ⟨(),rfl⟩;have hn:=uQ rest _ hn;unfold Oper.quietAt at hv;unfold Oper.still;generalize (execOp a.eval o).run P w=r at hv;cases r with
   |ok n w'=>
    cases n with
    |value u=>obtain⟨h1,h2⟩:=hv;exact⟨h1,by rw[h2];exact hn⟩
    |skip=>obtain⟨h1,h2⟩:=hv;exact⟨h1,by rw[<-h2];exact hn⟩
    |enter f args=>obtain⟨h1,h2⟩:=hv;exact⟨h1,v,h2.mono (fun e w'' h=>⟨h.1,h.2.elim fun _ h=>h⟩),hn⟩
    |_=>cases hv
   |_=>cases hv
  .rename_i hw
   rw[if_neg hw] at h;exact uQ rest _ h
theorem gu {P:Program} {id:Nat} {Q:Exit->Act->World->Prop} {a:Act} {w:World} {l:List Oper} (n:Nat) (hm:P.follows .mixedOrders=true) (hB:Region.lexTailB .any l.toArray n=true)
  (h:wpQuiet P l.toArray (fun w'=> ∃_:Unit,w'={w with drawn:=w.drawn+1}) (fun a'=>wpList P l.toArray Q (l.drop n) a' {w with drawn:=w.drawn+1}) (l.take n) a):(Code.region id l.toArray true).wp P Q a w:=
 wp_region_still_tail n hm hB (uQ _ _ h)
end
mutual
def rP:Tm->Tm->List Bd->Option (List Bd)
 | .mk n s L,t,B=>
  if s=ah then(if t.sort=ah/\t.name=n/\t.kids.length=L.length then Bo L t.kids B else none)
  else if t.sort≠ah/\t.sort≠s then none
  else match bK B n with
   |some x=>if x=t then some B else none
   |none=>some (B++[(n,s,t)])
def Bo:List Tm->List Tm->List Bd->Option (List Bd)
 |[],_,B=>some B
 |_::_,[],_=>none
 |a::L,b::M,B=>match rP a b B with
  |none=>none
  |some C=>Bo L M C
end
theorem XT {n:By} {L:List Tm} {t:Tm} {B:List Bd} (h:t.sort=ah/\t.name=n/\t.kids.length=L.length):rP (.mk n ah L) t B=Bo L t.kids B:=by
 unfold rP;rw[if_pos rfl,if_pos h]
theorem XU {n:By} {L:List Tm} {t:Tm} {B:List Bd} (h: ¬(t.sort=ah/\t.name=n/\t.kids.length=L.length)):rP (.mk n ah L) t B=none:=by
 unfold rP;rw[if_pos rfl,if_neg h]
theorem GU {n s:By} {L:List Tm} {t:Tm} {B:List Bd} (hs:s≠ah) (h:t.sort≠ah/\t.sort≠s):rP (.mk n s L) t B=none:=by
 unfold rP;rw[if_neg hs,if_pos h]
theorem Qb {n s:By} {L:List Tm} {t x:Tm} {B:List Bd} (hs:s≠ah) (h: ¬(t.sort≠ah/\t.sort≠s)) (hb:bK B n=some x):rP (.mk n s L) t B=if x=t then some B else none:=by
 unfold rP;rw[if_neg hs,if_neg h,hb]
theorem SY {n s:By} {L:List Tm} {t:Tm} {B:List Bd} (hs:s≠ah) (h: ¬(t.sort≠ah/\t.sort≠s)) (hb:bK B n=none):rP (.mk n s L) t B=some (B++[(n,s,t)]):=by
 unfold rP;rw[if_neg hs,if_neg h,hb]
theorem RP (L:List Tm) (k:Nat) (h:k<L.length):L.drop k=tg L k::L.drop (k+1):=by
 rw[List.drop_eq_getElem_cons h];unfold tg;rw[List.getD_eq_getElem?_getD,List.getElem?_eq_getElem h];rfl
def fJ (B:List Bd):Su:=fun n s=>(bK B n).getD (vr n s)
structure yS (X:List Vd) (Y:Tm->Prop) (B:List Bd):Prop where
 inX: ∀b∈B,(b.1,b.2.1)∈X
 JA:B.Pairwise fun a b=>a.1≠b.1
 val: ∀b∈B,Y b.2.2
 srt: ∀b∈B,b.2.2.sort≠ah->b.2.2.sort=b.2.1
theorem yS.nil (X:List Vd) (Y:Tm->Prop):yS X Y []:=⟨fun _ h=>(by cases h),List.Pairwise.nil,fun _ h=>(by cases h),fun _ h=>(by cases h)⟩
theorem P9 {X:List Vd} {Y:Tm->Prop} (hY: ∀t x,Y t->x∈t.kids->Y x): ∀(p t:Tm) (B C:List Bd),rP p t B=some C->uh p->(∀f∈fD p,f∈X)->Y t->yS X Y B->yS X Y C/\(∀n x,bK B n=some x->bK C n=some x)/\(∀f∈fD p,∃x,bK C f.1=some x)/\∀D:List Bd,(∀n x,bK C n=some x->bK D n=some x)->fA (fJ D) p=t:=by
 refine Tm.ind (fun n s L ih=>?_);intro t B C h hp hv ht hI;by_cases hs:s=ah
 .subst hs;by_cases hc:t.sort=ah/\t.name=n/\t.kids.length=L.length
  .rw [XT hc] at h;have key: ∀(L M:List Tm),(∀x∈L,∀(t:Tm) (B C:List Bd),rP x t B=some C->uh x->(∀f∈fD x,f∈X)->Y t->yS X Y B->yS X Y C/\(∀n x,bK B n=some x->bK C n=some x)/\(∀f∈fD x,∃y,bK C f.1=some y)/\∀D:List Bd,(∀n x,bK C n=some x->bK D n=some x)->fA (fJ D) x=t)->
     M.length=L.length->(∀x∈L,uh x)->(∀x∈L,∀f∈fD x,f∈X)->(∀y∈M,Y y)->∀B C,Bo L M B=some C->yS X Y B->yS X Y C/\(∀n x,bK B n=some x->bK C n=some x)/\(∀x∈L,∀f∈fD x,∃y,bK C f.1=some y)/\∀D:List Bd,(∀n x,bK C n=some x->bK D n=some x)->L.map (fA (fJ D))=M:=by
    intro L
    induction L with
    |nil=>
     intro M _ hl _ _ _ B C h hI;have hM:M=[]:=List.eq_nil_of_length_eq_zero hl;subst hM;unfold Bo at h;injection h with h
     subst h;exact⟨hI,fun _ _ e=>e,fun x hx=>(by cases hx),fun _ _=>rfl⟩
    |cons a L ihL=>
     intro M hx hl hn hvv hYM B C h hI
     match M,hl with
     |b::M,hl=>
      unfold Bo at h;cases hm:rP a b B with
      |none=>rw[hm] at h;cases h
      |some E=>
       rw[hm] at h;obtain⟨h1,h2,h3,h4⟩:=hx a (List.mem_cons_self ..) b B E hm (hn a (List.mem_cons_self ..)) (hvv a (List.mem_cons_self ..)) (hYM b (List.mem_cons_self ..)) hI;obtain⟨g1,g2,g3,g4⟩:=ihL M (fun x hx'=>hx x (List.mem_cons_of_mem _ hx')) (by simpa using hl) (fun x hx'=>hn x (List.mem_cons_of_mem _ hx')) (fun x hx'=>hvv x (List.mem_cons_of_mem _ hx')) (fun y hy=>hYM y (List.mem_cons_of_mem _ hy)) E C h h1;refine⟨g1,fun n x e=>g2 n x (h2 n x e),fun x hx' f hf=>?_,fun D hD=>?_⟩
       .rcases List.mem_cons.1 hx' with e|hx'
        .subst e;obtain⟨y,hy⟩:=h3 f hf;exact⟨y,g2 _ _ hy⟩
        .exact g3 x hx' f hf
       .rw [List.map_cons,h4 D (fun n x e=>hD n x (g2 n x e)),g4 D hD]
   obtain⟨h1,h2,h3,h4⟩:=key L t.kids ih hc.2.2 (fun x hx=>hp.kid hx) (fun x hx f hf=>hv f (by rw[vI];exact List.mem_flatMap.2 ⟨x,hx,hf⟩)) (fun y hy=>hY t y ht hy) B C h hI;refine⟨h1,h2,fun f hf=>?_,fun D hD=>?_⟩
   .rw [vI] at hf;obtain⟨x,hx,hf⟩:=List.mem_flatMap.1 hf;exact h3 x hx f hf
   .rw [rG,h4 D hD,<-hc.2.1,<-hc.1];exact eta t
  .rw [XU hc] at h;cases h
 .have hL:L=[]:=hp _ (fO _) hs;subst hL;have hnX:=hv _ (qQ hs []);by_cases hc:t.sort≠ah/\t.sort≠s
  .rw [GU hs hc] at h;cases h
  .cases hx:bK B n with
   |some x=>
    rw[Qb hs hc hx] at h;by_cases e:x=t
    .rw [if_pos e] at h;injection h with h
     subst h;refine⟨hI,fun _ _ e=>e,fun f hf=>?_,fun D hD=>?_⟩
     .rw [IC hs,List.mem_singleton] at hf;rw[hf];exact⟨x,hx⟩
     .rw [o_ _ hs];show(bK D n).getD _=t;rw[hD n x hx,Option.getD_some,e]
    .rw [if_neg e] at h;cases h
   |none=>
    rw[SY hs hc hx] at h;injection h with h
    subst h;have hget: ∀m x,bK B m=some x->bK (B++[(n,s,t)]) m=some x:=fun m x e=>by rw[Es,e];rfl
    have hn2:bK (B++[(n,s,t)]) n=some t:=by rw[Es,hx];show(if n=n then some t else none)=some t;rw[if_pos rfl]
    refine⟨⟨fun b hb=>?_,?_,fun b hb=>?_,fun b hb hsb=>?_⟩,hget,fun f hf=>?_,fun D hD=>?_⟩
    .rcases List.mem_append.1 hb with hb|hb
     .exact hI.inX b hb
     .rw [List.mem_singleton] at hb;rw[hb];exact hnX
    .rw [List.pairwise_append];refine⟨hI.JA,List.pairwise_singleton _ _,fun a ha b hb=>?_⟩;rw[List.mem_singleton] at hb;rw[hb];exact XR hx a ha
    .rcases List.mem_append.1 hb with hb|hb
     .exact hI.val b hb
     .rw [List.mem_singleton] at hb;rw[hb];exact ht
    .rcases List.mem_append.1 hb with hb|hb
     .exact hI.srt b hb hsb
     .rw [List.mem_singleton] at hb;subst hb;by_cases e:t.sort=s
      .exact e
      .exact absurd ⟨hsb,e⟩ hc
    .rw [IC hs,List.mem_singleton] at hf;rw[hf];exact⟨t,hn2⟩
    .rw [o_ _ hs];show(bK D n).getD _=t;rw[hD n t hn2,Option.getD_some]
section
section
variable (nm:By->Bool)
def nD (s:List Bd) (i:Nat):Bool:=
 nm (vO s i).1&&nm (vO s i).2.1&&(decide (i=0)||blt (vO s (i-1)).1 (vO s i).1)&&wf nm (vO s i).2.2&&(decide ((vO s i).2.2.sort=ah)||(decide ((vO s i).2.2.sort=(vO s i).2.1)&&!decide ((vO s i).2.2.name=(vO s i).1)))
where vO (s:List Bd) (i:Nat):Bd:=s.getD i (ah,ah,default)
def pX (s:List Bd):Bool:=decide (s.length<=1000)&&(List.range s.length).all (nD nm s)
def v_ (s:List Bd) (n:By):Option By:=(s.find? fun b=>decide (b.1=n)).map (·.2.1)
def wO (s:List Bd) (t:Tm):Tm:=fA (fJ s) t
def Ug (s:List Bd) (t:Tm):Bool:=(aO t).any fun f=>match v_ s f.1 with|some so=>!decide (so=f.2)|none=>false
def app1 (s:List Bd) (t:Tm):Tm×Int:=
 if Ug s t=true then(.mk ah ah [],11) else if 1000< (wO s t).size\/60< (wO s t).depth then(.mk ah ah [],4) else if wf nm (wO s t)=false then(.mk ah ah [],11) else(wO s t,0)
def D5 (s:List Bd) (t:Tm):Tm×Int:=if(pX nm s&&wf nm t)=true then app1 nm s t else(.mk ah ah [],1)
end
theorem WG {s:List Bd} {n:By}:v_ s n=none<->bK s n=none:=by
 unfold v_ bK;cases s.find? _<;>simp
theorem Ry {s:List Bd} (hd:s.Pairwise fun a b=>a.1≠b.1) {b:Bd} (hb:b∈s):bK s b.1=some b.2.2/\v_ s b.1=some b.2.1:=by
 induction s with
 |nil=>cases hb
 |cons a s ih=>
  obtain⟨h1,h2⟩:=List.pairwise_cons.1 hd;unfold bK v_;rw[List.find?_cons];rcases List.mem_cons.1 hb with e|hb
  .subst e;rw[dT rfl];exact⟨rfl,rfl⟩
  .rw [dF (h1 b hb)];exact ih h2 hb
theorem OD {l:List Bd} (h:AscK (Prod.fst:Bd->By) l):l.Pairwise fun a b=>a.1≠b.1:=h.imp (fun{a b} hab e=>by rw[e,fU] at hab;cases hab)
theorem RF {nm:By->Bool} {s:List Bd} (h:pX nm s=true):s.length<=1000/\∀i,i<s.length->nD nm s i=true:=by
 unfold pX at h;rw[Bool.and_eq_true,decide_eq_true_eq,List.all_eq_true] at h;exact⟨h.1,fun i hi=>h.2 i (List.mem_range.2 hi)⟩
theorem DZ {nm:By->Bool} {s:List Bd} (h:pX nm s=true):s.length<=1000/\AscK (Prod.fst:Bd->By) s/\∀b∈s,nm b.1=true/\nm b.2.1=true/\wf nm b.2.2=true/\(b.2.2.sort≠ah->b.2.2.sort=b.2.1/\b.2.2.name≠b.1):=by
 obtain⟨h1,h2⟩:=RF h;have hg: ∀i (hi:i<s.length),nD.vO s i=s[i]:=fun i hi=>by unfold nD.vO;rw[List.getD_eq_getElem?_getD,List.getElem?_eq_getElem hi];rfl
 have hp: ∀i (hi:i<s.length),nm s[i].1=true/\nm s[i].2.1=true/\(i=0\/blt (nD.vO s (i-1)).1 s[i].1=true)/\wf nm s[i].2.2=true/\(s[i].2.2.sort≠ah->s[i].2.2.sort=s[i].2.1/\s[i].2.2.name≠s[i].1):=fun i hi=>by
  have h3:=h2 i hi;unfold nD at h3;rw[hg i hi] at h3;simp only[Bool.and_eq_true,Bool.or_eq_true,decide_eq_true_eq,Bool.not_eq_true',decide_eq_false_iff_not] at h3;obtain⟨⟨⟨⟨a,b⟩,c⟩,d⟩,e⟩:=h3;exact⟨a,b,c,d,fun hs=>e.resolve_left hs⟩
 refine⟨h1,?_,fun b hb=>?_⟩
 .have hstep: ∀i,i+1<s.length->blt (nD.vO s i).1 (nD.vO s (i+1)).1=true:=fun i hi=>by
   have:=(hp (i+1) hi).2.2.1;rw[hg (i+1) hi];exact this.resolve_left (by omega)
  have hlt: ∀d i,i+d+1<s.length->blt (nD.vO s i).1 (nD.vO s (i+d+1)).1=true:=by
   intro d
   induction d with
   |zero=>intro i hi;exact hstep i hi
   |succ d ih=>
    intro i hi;exact mP (ih i (by omega)) (hstep (i+d+1) (by omega))
  unfold AscK;rw[List.pairwise_iff_getElem];intro i j hi hj hij;have:=hlt (j-i-1) i (by omega);rw[show i+(j-i-1)+1=j by omega,hg i hi,hg j hj] at this;exact this
 .obtain ⟨i,hi,rfl⟩:=List.getElem_of_mem hb;obtain⟨a,b,_,d,e⟩:=hp i hi;exact⟨a,b,d,e⟩
end
section
open Go.ChangeMaps
def uu (es:List MapEntry) (N:List ByteArray):Prop:=es.map (·.key)=N.map Value.string
theorem uu.of {es:List MapEntry} {l:List (ByteArray×Value)} (h:es.map (fun e=>(e.key,e.val))=l.map (fun p=>(Value.string p.1,p.2))):uu es (l.map (·.1)):=by
 have:=congrArg (List.map Prod.fst) h;unfold uu;rw[List.map_map,List.map_map] at this;rw[List.map_map];exact this
theorem uu.name {es:List MapEntry} {N:List ByteArray} (h:uu es N) {e:MapEntry} (he:e∈es): ∃n∈N,e.key= .string n:=by
 have h1:e.key∈N.map Value.string:=by rw[<-h];exact List.mem_map.2 ⟨e,he,rfl⟩
 obtain⟨n,hn,h2⟩:=List.mem_map.1 h1;exact⟨n,hn,h2.symm⟩
theorem uu.ent {es:List MapEntry} {N:List ByteArray} (h:uu es N) {n:ByteArray} (hn:n∈N): ∃e∈es,e.key= .string n:=by
 have h1:Value.string n∈es.map (·.key):=by rw[h];exact List.mem_map.2 ⟨n,hn,rfl⟩
 obtain⟨e,he,h2⟩:=List.mem_map.1 h1;exact⟨e,he,h2⟩
theorem uu.uniq {es:List MapEntry} {N:List ByteArray} (h:uu es N) (hd:N.Nodup) {x y:MapEntry} (hx:x∈es) (hy:y∈es) (hk:x.key=y.key):x=y:=by
 have hnd:(es.map (·.key)).Nodup:=by
  rw[h];exact List.Pairwise.map _ (fun a b hab e=>hab (by injection e)) hd
 obtain⟨i,hi,rfl⟩:=List.getElem_of_mem hx;obtain⟨j,hj,rfl⟩:=List.getElem_of_mem hy;have hij:=(List.pairwise_iff_getElem.1 hnd)
 rcases Nat.lt_trichotomy i j with h2|h2|h2
 .exact absurd (by rw[List.getElem_map,List.getElem_map];exact hk) (hij i j (by simpa using hi) (by simpa using hj) h2)
 .subst h2;rfl
 .exact absurd (by rw[List.getElem_map,List.getElem_map];exact hk.symm) (hij j i (by simpa using hj) (by simpa using hi) h2)
theorem uT (s:Array Nat) (n k:Nat):(s.push n).contains k=(s.contains k||(k==n)):=by
 rw[Array.contains_push]
 try(cases s.contains k<;>cases(k==n)<;>rfl)
structure sW (es:List MapEntry) (seen:Array Nat) (D:List ByteArray):Prop where
 dn:D.Nodup
 sub: ∀n∈D,∃e∈es,e.key= .string n/\seen.contains e.born=true
 all: ∀e∈es,seen.contains e.born=true->∃n∈D,e.key= .string n
theorem sW.start (es:List MapEntry):sW es #[] []:=⟨List.nodup_nil,fun n h=>(by cases h),fun e _ h=>(by simp at h)⟩
theorem sW.next {es:List MapEntry} {seen:Array Nat} {D N:List ByteArray} (hm:uu es N) (hd:N.Nodup) (hn:(es.map (·.born)).Nodup) (h:sW es seen D) {e:MapEntry} (he:e∈es) (hs:seen.contains e.born=false) {n:ByteArray} (hk:e.key= .string n):sW es (seen.push e.born) (D++[n]):=by
 refine⟨?_,fun m hm2=>?_,fun x hx hsx=>?_⟩
 .rw [List.nodup_append];refine⟨h.dn,by simp,fun a ha b hb e2=>?_⟩;rw[List.mem_singleton] at hb;subst hb;subst e2;obtain⟨x,hx,hkx,c⟩:=h.sub a ha;have hxe:x=e:=hm.uniq hd hx he (by rw[hkx,hk]);rw[hxe,hs] at c;cases c
 .rcases List.mem_append.1 hm2 with hm2|hm2
  .obtain ⟨x,hx,a,b⟩:=h.sub m hm2;exact⟨x,hx,a,by rw[uT,b];rfl⟩
  .rw [List.mem_singleton] at hm2;subst hm2;exact⟨e,he,hk,by rw[uT,beq_self_eq_true,Bool.or_true]⟩
 .rw [uT,Bool.or_eq_true,beq_iff_eq] at hsx;rcases hsx with hsx|hsx
  .obtain ⟨m,h1,h2⟩:=h.all x hx hsx;exact⟨m,List.mem_append_left _ h1,h2⟩
  .have hxe:x=e:=born_inj hn hx he hsx;rw[hxe];exact⟨n,List.mem_append_right _ (List.mem_singleton.2 rfl),hk⟩
theorem sW.fin {es:Array MapEntry} {seen:Array Nat} {D N:List ByteArray} (hm:uu es.toList N) (h:sW es.toList seen D) (h0:(leftOf es seen).size=0): ∀n,n∈D<->n∈N:=fun n=>
 ⟨fun hn=>by
  obtain⟨e,he,hk,_⟩:=h.sub n hn;obtain⟨m,hm2,hk2⟩:=hm.name he;rw[hk] at hk2;injection hk2 with hk2
  rw[hk2];exact hm2,fun hn=>by
  obtain⟨e,he,hk⟩:=hm.ent hn;obtain⟨m,hm2,hk2⟩:=h.all e he (all_seen es seen h0 e he);rw[hk] at hk2;injection hk2 with hk2
  rw[hk2];exact hm2⟩
theorem sW.sub' {es:List MapEntry} {seen:Array Nat} {D N:List ByteArray} (hm:uu es N) (h:sW es seen D): ∀n∈D,n∈N:=fun n hn=>by
 obtain⟨e,he,hk,_⟩:=h.sub n hn;obtain⟨m,hm2,hk2⟩:=hm.name he;rw[hk] at hk2;injection hk2 with hk2
 rw[hk2];exact hm2
theorem sW.alike {es es':List MapEntry} {seen:Array Nat} {D:List ByteArray} (h:sW es seen D) (he:es.map (fun e=>(e.key,e.born))=es'.map (fun e=>(e.key,e.born))):sW es' seen D:=by
 have h1: ∀e'∈es',∃e∈es,e.key=e'.key/\e.born=e'.born:=fun e' h'=>by
  have:(e'.key,e'.born)∈es.map (fun e=>(e.key,e.born)):=by rw[he];exact List.mem_map.2 ⟨e',h',rfl⟩
  obtain⟨e,h2,h3⟩:=List.mem_map.1 this;injection h3 with h4 h5
  exact⟨e,h2,h4,h5⟩
 have h2: ∀e∈es,∃e'∈es',e'.key=e.key/\e'.born=e.born:=fun e h'=>by
  have:(e.key,e.born)∈es'.map (fun e=>(e.key,e.born)):=by rw[<-he];exact List.mem_map.2 ⟨e,h',rfl⟩
  obtain⟨e,h2,h3⟩:=List.mem_map.1 this;injection h3 with h4 h5
  exact⟨e,h2,h4,h5⟩
 refine⟨h.dn,fun n hn=>?_,fun e' h' hs=>?_⟩
 .obtain ⟨e,h3,hk,hs⟩:=h.sub n hn;obtain⟨e',h4,h5,h6⟩:=h2 e h3;exact⟨e',h4,h5.trans hk,by rw[h6];exact hs⟩
 .obtain ⟨e,h3,h4,h5⟩:=h1 e' h';obtain⟨n,hn,hk⟩:=h.all e h3 (by rw[h5];exact hs);exact⟨n,hn,h4.symm.trans hk⟩
end
end Go.Hw
