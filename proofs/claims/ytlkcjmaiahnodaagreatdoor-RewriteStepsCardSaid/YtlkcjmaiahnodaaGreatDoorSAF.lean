/- The texts L9, one behind the other. -/
import Derived.Test.YtlkcjmaiahnodaaGreatDoorSAB
set_option linter.unusedVariables false
set_option linter.unusedSimpArgs false
namespace Go.Hw.PH
open Go.RowKit Go.Hw
section
section
variable {P:Program} {ops:Array Oper} {Q:Exit->Act->World->Prop} {α:Type} {w0:World} {Qt:Act->World->Prop} {dp:Nat->List Nat} {n:Nat} {md:Region.Mode} {fl:List Nat} {kD:Nat}
structure dG (α:Type) (n0:Nat) where
 val:α->Value
 R:α->World->Prop
 st: ∀x W W',R x W->Ext W W'->R x W'
 f:α->Nat->Prop
 lt: ∀x W k,R x W->f x k->k<W.heap.size
 Qo:Option Nat
 sta:Bool
 st2:sta=true->∀x W W' (F:Nat->Prop),R x W->au F W W'->(∀k,F k->n0<=k/\¬f x k)->R x W'
variable {aI:Nat->Option (dG α w0.heap.size)}
abbrev qH:=Nat×(Nat->Prop)×(World->Prop)
def vH (G:List qH):Prop:=G.Pairwise fun g h=> ∀k,g.2.1 k->¬h.2.1 k
def TrG (G:List qH) (A:dG α w0.heap.size) (W W':World):Prop:=match A.Qo with
 |none=>Ext W W'
 |some c=> ∃g∈G,g.1=c/\au g.2.1 W W'/\g.2.2 W'
def TrX (aI:Nat->Option (dG α w0.heap.size)) (X:Nat->α) (A:dG α w0.heap.size) (W W':World):Prop:=match A.Qo with
 |none=>Ext W W'
 |some c=> ∃C,aI c=some C/\au (C.f (X c)) W W'/\C.R (X c) W'
def Can (P:Program) (ops:Array Oper) (Qt:Act->World->Prop) (w0:World) (dp:Nat->List Nat) (aI:Nat->Option (dG α w0.heap.size)):List Oper->Nat->List qH->Act->Prop
 |[],_,G,a=> ∀W,Ext w0 W->(∀g∈G,g.2.2 W)->vH G->Qt a W
 |o::r,i,G,a=>match aI i with
  |none=>if Region.wanted o (yielded ops a.tmps) then ∃v,(∀W,Ext w0 W->(∀g∈G,g.1∈dp i->g.2.2 W)->(execOp a.eval o).run P W= .ok (.value v) W)/\Can P ops Qt w0 dp aI r (i+1) G (a.put o.dst v)
    else Can P ops Qt w0 dp aI r (i+1) G (a.put o.dst undef)
  |some A=>Region.wanted o (yielded ops a.tmps)=true/\
    (∀W,Ext w0 W->(∀g∈G,g.1∈dp i->g.2.2 W)->∀K:Act->World->Prop,(∀x W',TrG G A W W'->A.R x W'->(∀k,A.f x k->W.heap.size<=k)->K (a.put o.dst (A.val x)) W')->o.wp P a W K (fun _ _ _=>False))/\
    ∀x,Can P ops Qt w0 dp aI r (i+1) (G++[(i,A.f x,A.R x)]) (a.put o.dst (A.val x))
def gm (P:Program) (ops:Array Oper) (w0:World) (dp:Nat->List Nat) (aI:Nat->Option (dG α w0.heap.size)) (X:Nat->α) (V:Nat->Value) (i:Nat) (o:Oper) (a:Act):Prop:=
 match aI i with
 |none=>(Region.wanted o (yielded ops a.tmps)=true->∀W,Ext w0 W->(∀j A,j<i->j∈dp i->aI j=some A->A.R (X j) W)->(execOp a.eval o).run P W= .ok (.value (V i)) W)/\
   (Region.wanted o (yielded ops a.tmps)=false->V i=undef)
 |some A=>Region.wanted o (yielded ops a.tmps)=true/\V i=A.val (X i)/\
   ∀W,Ext w0 W->(∀j A,j<i->j∈dp i->aI j=some A->A.R (X j) W)->∀K:Act->World->Prop,(∀x W',TrX aI X A W W'->A.R x W'->(∀k,A.f x k->W.heap.size<=k)->K (a.put o.dst (A.val x)) W')->o.wp P a W K (fun _ _ _=>False)
def Good (P:Program) (ops:Array Oper) (Qt:Act->World->Prop) (w0:World) (dp:Nat->List Nat) (aI:Nat->Option (dG α w0.heap.size)) (X:Nat->α) (V:Nat->Value):List Oper->Nat->Act->Prop
 |[],k,a=> ∀W,Ext w0 W->(∀j A,j<k->aI j=some A->A.R (X j) W)->(∀i j A B,i<k->j<k->i≠j->aI i=some A->aI j=some B->∀b,A.f (X i) b->¬B.f (X j) b)->Qt a W
 |o::r,k,a=>gm P ops w0 dp aI X V k o a/\Good P ops Qt w0 dp aI X V r (k+1) (a.put o.dst (V k))
theorem gm.congr {X:Nat->α} {V b:Nat->Value} {i:Nat} {o:Oper} {a:Act} (h:V i=b i) (hf:gm P ops w0 dp aI X V i o a):gm P ops w0 dp aI X b i o a:=by
 unfold gm at*;rw[<-h];exact hf
theorem Good.congr {X:Nat->α} {V b:Nat->Value}: ∀(r:List Oper) (k:Nat) (a:Act),(∀j,k<=j->V j=b j)->Good P ops Qt w0 dp aI X V r k a->Good P ops Qt w0 dp aI X b r k a
 |[],_,_,_,h=>h
 |o::r,k,a,he,h=>⟨h.1.congr (he k (Nat.le_refl _)),by rw[<-he k (Nat.le_refl _)];exact Good.congr r (k+1) _ (fun j c=>he j (by omega)) h.2⟩
theorem jm (X:Nat->α): ∀(r:List Oper) (k:Nat) (G:List qH) (a:Act),Can P ops Qt w0 dp aI r k G a->
  (∀g∈G,∃A,aI g.1=some A/\g.1<k/\g.2=(A.f (X g.1),A.R (X g.1)))->G.Pairwise (fun g h=>g.1≠h.1)->∃V,Good P ops Qt w0 dp aI X V r k a
 |[],k,G,a,h,l,q=>⟨fun _=>undef,fun W hW hR J=>h W hW (fun g d=>by obtain⟨A,h1,p,i⟩:=l g d;rw[i];exact hR _ _ p h1) (by
   unfold vH;refine List.Pairwise.imp_of_mem (fun{g g'} d u hne b z B=>?_) q;obtain⟨A,h1,p,i⟩:=l g d;obtain⟨L,F,H,I⟩:=l g' u;rw[i] at z;rw[I] at B;exact J _ _ A L p H hne h1 F b z B)⟩
 |o::r,k,G,a,h,l,q=>by
  have hH: ∀W,(∀j A,j<k->j∈dp k->aI j=some A->A.R (X j) W)->∀g∈G,g.1∈dp k->g.2.2 W:=fun W hR g d hd=>by
   obtain⟨A,h1,p,i⟩:=l g d;rw[i];exact hR _ _ p hd h1
  unfold Can at h;have w: ∀g∈G,∃A,aI g.1=some A/\g.1<k+1/\g.2=(A.f (X g.1),A.R (X g.1)):=fun g d=>by
   obtain⟨A,h1,p,i⟩:=l g d;exact⟨A,h1,by omega,i⟩
  cases ha:aI k with
  |none=>
   rw[ha] at h;simp only at h;by_cases hw:Region.wanted o (yielded ops a.tmps)=true
   .rw [if_pos hw] at h;obtain⟨v,hv,h⟩:=h;obtain⟨V,hV⟩:=jm X r (k+1) G _ h w q;refine⟨fun j=>if j=k then v else V j,?_,?_⟩
    .unfold gm;rw[ha];simp only[if_true];exact⟨fun _ W hW hR=>hv W hW (hH W hR),fun h=>by rw[hw] at h;cases h⟩
    .rw [show(fun j=>if j=k then v else V j) k=v from if_pos rfl];exact hV.congr _ _ _ (fun j D=>by rw[if_neg (by omega)])
   .rw [if_neg hw] at h;obtain⟨V,hV⟩:=jm X r (k+1) G _ h w q;refine⟨fun j=>if j=k then undef else V j,?_,?_⟩
    .unfold gm;rw[ha];simp only[if_true];exact⟨fun h=>absurd h hw,fun _=>trivial⟩
    .rw [show(fun j=>if j=k then undef else V j) k=undef from if_pos rfl];exact hV.congr _ _ _ (fun j D=>by rw[if_neg (by omega)])
  |some A=>
   rw[ha] at h;simp only at h;obtain⟨hw,hm,h⟩:=h;obtain⟨V,hV⟩:=jm X r (k+1) _ _ (h (X k)) (fun g d=>by
    rcases List.mem_append.1 d with h1|h1
    .exact w g h1
    .simp only [List.mem_singleton] at h1;subst h1;exact⟨A,ha,Nat.lt_succ_self _,rfl⟩) (List.pairwise_append.2 ⟨q,List.pairwise_singleton _ _,fun g d g' u e=>by
    rw[List.mem_singleton] at u;subst u;obtain⟨_,_,p,_⟩:=l g d;simp only at e;omega⟩)
   refine⟨fun j=>if j=k then A.val (X k) else V j,?_,?_⟩
   .unfold gm;rw[ha];simp only[if_true];refine⟨hw,trivial,fun W hW hR K hK=>hm W hW (hH W hR) K (fun x W' t=>hK x W' ?_)⟩;unfold TrG at t;unfold TrX;cases hc:A.Qo with
    |none=>rw[hc] at t;exact t
    |some c=>
     rw[hc] at t;obtain⟨g,d,e,E,y⟩:=t;obtain⟨C,h1,_,i⟩:=l g d;rw[i] at E y;subst e;exact⟨C,h1,E,y⟩
   .rw [show(fun j=>if j=k then A.val (X k) else V j) k=A.val (X k) from if_pos rfl];exact hV.congr _ _ _ (fun j D=>by rw[if_neg (by omega)])
theorem Good.at {X:Nat->α} {V:Nat->Value}: ∀(r:List Oper) (k:Nat) (a:Act),Good P ops Qt w0 dp aI X V r k a->∀i o,r[i]?=some o->gm P ops w0 dp aI X V (k+i) o (mF V (r.take i) k a)
 |[],_,_,_,i,o,h=>by simp at h
 |p::r,k,a,h,0,o,ho=>by simp at ho;subst ho;exact h.1
 |p::r,k,a,h,i+1,o,ho=>by
  rw[List.getElem?_cons_succ] at ho;have:=Good.at r (k+1) _ h.2 i o ho;rw[show k+(i+1)=k+1+i by omega];exact this
theorem Good.fin {X:Nat->α} {V:Nat->Value}: ∀(r:List Oper) (k:Nat) (a:Act),Good P ops Qt w0 dp aI X V r k a->∀W,Ext w0 W->(∀j A,j<k+r.length->aI j=some A->A.R (X j) W)->(∀i j A B,i<k+r.length->j<k+r.length->i≠j->aI i=some A->aI j=some B->∀b,A.f (X i) b->¬B.f (X j) b)->Qt (mF V r k a) W
 |[],_,_,h,W,hW,hR,c=>h W hW hR c
 |p::r,k,a,h,W,hW,hR,c=>Good.fin r (k+1) _ h.2 W hW (fun j A d=>hR j A (by simp only[List.length_cons];omega)) (fun i j A B hi d=>c i j A B (by simp only[List.length_cons];omega) (by simp only[List.length_cons];omega))
theorem Good.same {sz:Nat} {an:Nat->Bool} {tail:List (Nat×Nat)} (hp:vJ ops n sz dp an tail fl kD) {a0:Act} {l:Array Bool} (hd:oC .any ops l) (x:a0.tmps.size=sz) {X C:Nat->α} {V g:Nat->Value}
  (hV:Good P ops Qt w0 dp aI X V (ops.toList.take n) 0 a0) (F:Good P ops Qt w0 dp aI C g (ops.toList.take n) 0 a0) (D: ∀j,j<n->l.getD j false=true->C j=X j)
  {W:World} (hW:Ext w0 W) (hR: ∀j A,j<n->l.getD j false=true->aI j=some A->A.R (X j) W): ∀j,j<n->l.getD j false=true->g j=V j:=by
 intro j
 induction j using Nat.strongRecOn with
 |_ j J=>
  intro h hl;have G:j<ops.size:=aP h hp.le;have ho:ops[j]?=some ops[j]:=Array.getElem?_eq_getElem G;have y:(ops.toList.take n)[j]?=some ops[j]:=by rw[List.getElem?_take_of_lt h];simp
  have w: ∀e∈ops[j].after,Region.binds .any e=true->l.getD e.on false=true:=fun e he hb=>hd.back j _ ho hl e he hb;have f1:=hV.at _ _ _ j _ y;have f2:=F.at _ _ _ j _ y;rw[Nat.zero_add] at f1 f2;rw[List.take_take,Nat.min_eq_left (Nat.le_of_lt h)] at f1 f2;have r:=hp.closed hd j _ ho w;have E: ∀t∈ops[j].looksAt ops,(mF V (ops.toList.take j) 0 a0).tmps[t]?=(mF g (ops.toList.take j) 0 a0).tmps[t]?:=by
   intro t K;by_cases hx: ∃k p,k<j/\ops[k]?=some p/\p.dst=some t
   .obtain ⟨k,p,hk,c,a⟩:=hx;have d:k<n:=by omega
    have H:l.getD k false=true:=by
     obtain⟨e,he,hb,I⟩:=hp.reads j k _ p t h d ho c K a;have:=w e he hb;rw[I] at this;exact this
    have hu: ∀(i:Nat) q,(ops.toList.take j)[i]?=some q->q.dst=some t->i=k:=fun i q u L=>by
     have hi:i<j:=by
      have:=(List.getElem?_eq_some_iff.1 u).1;rw[List.length_take] at this;omega
     rw[List.getElem?_take_of_lt hi] at u;exact hp.uniq k i p q t d (by omega) c (by simpa using u) a L
    have z:(ops.toList.take j)[k]?=some p:=by rw[List.getElem?_take_of_lt hk];simpa using c
    rw[zF V t _ 0 a0 k p z a (by rw[x];exact hp.dst _ _ _ d c a) hu,zF g t _ 0 a0 k p z a (by rw[x];exact hp.dst _ _ _ d c a) hu,Nat.zero_add,J k hk d H]
   .have B: ∀(k:Nat) p,(ops.toList.take j)[k]?=some p->p.dst≠some t:=fun k p c a=>by
     have hk:k<j:=by
      have:=(List.getElem?_eq_some_iff.1 c).1;rw[List.length_take] at this;omega
     rw[List.getElem?_take_of_lt hk] at c;exact hx ⟨k,p,hk,by simpa using c,a⟩
    rw[uJ V t _ 0 a0 B,uJ g t _ 0 a0 B]
  obtain⟨s1,s2⟩:=yQ (ops:=ops) (fun cs b=>Region.noSelect_spec hp.Ae j _ cs b ho) E;unfold gm at f1 f2;cases ha:aI j with
  |none=>
   rw[ha] at f1 f2;simp only at f1 f2;cases hw:Region.wanted ops[j] (yielded ops (mF V (ops.toList.take j) 0 a0).tmps) with
   |true=>
    have r1:=f1.1 hw W hW (fun k A hk a o=>hR k A (by omega) (r k a) o);have r2:=f2.1 (by rw[<-s2];exact hw) W hW (fun k A hk a o=>by rw[D k (by omega) (r k a)];exact hR k A (by omega) (r k a) o);rw[<-s1,r1] at r2;injection r2 with r2
    injection r2 with r2
    exact r2.symm
   |false=>rw[f1.2 hw,f2.2 (by rw[<-s2];exact hw)]
  |some A=>
   rw[ha] at f1 f2;simp only at f1 f2;rw[f1.2.1,f2.2.1,D j h hl]
theorem CE {sz:Nat} {an:Nat->Bool} {tail:List (Nat×Nat)} {c:List Oper} (hp:vJ c.toArray n sz dp an tail fl kD) (I: ∀i,(aI i).isSome=an i) {a0:Act} (r:a0.tmps.size=sz) {W:World} (hW:Ext w0 W) {X:Nat->α} {V:Nat->Value}
  (hV:Good P c.toArray (fun a W=>dA P c.toArray Q (fun _=>True) (fA c tail) a W) w0 dp aI X V (c.take n) 0 a0) (hR: ∀j A,j<n->aI j=some A->A.R (X j) W) (J: ∀i j A B,i<n->j<n->i≠j->aI i=some A->aI j=some B->∀b,A.f (X i) b->¬B.f (X j) b):
  ∀(U:List Nat) (l:Array Bool) (b:Act),oC .any c.toArray l->(∀j∈U,j<n/\fl.contains j=true)->(∀j,j<n->l.getD j false=false->j∈U)->
   qw .any c.toArray kD (U.map (fun k=>(k,0))++tail) l=true->xU c.toArray n a0 l V b->dA P c.toArray Q (fun _=>True) (fA c (U.map (fun k=>(k,0))++tail)) b W:=by
 intro U
 induction U with
 |nil=>
  intro l b hd _ t _ hF;have q: ∀j,j<n->l.getD j false=true:=fun j d=>by
   cases h:l.getD j false with
   |true=>rfl
   |false=>cases t j d h
  have hb:=hF.all hp r q;have y:=hV.fin _ _ _ W hW (fun j A d ha=>hR j A (by simp at d;omega) ha) (fun i j A B hi d=>J i j A B (by simp at hi;omega) (by simp at d;omega));rw[hb];exact y
 |cons i U K=>
  intro l b hd w t p hF;simp only[List.map_cons,List.cons_append] at p⊢;simp only[qw,Bool.and_eq_true,decide_eq_true_eq,Bool.not_eq_true'] at p;obtain⟨⟨⟨⟨hi,_⟩,_⟩,_⟩,p⟩:=p;have hi:i∈Region.ready .any c.toArray l:=by simpa using hi
  obtain⟨g,z⟩:=w i (List.mem_cons_self);obtain⟨L,o,ho,q⟩:=mem_ready.1 hi;have C:c[i]?=some o:=by simpa using ho
  obtain⟨D,E⟩:=hp.flo i o g z ho;have N:=hp.closed hd i o ho q;have F:(c.take n)[i]?=some o:=by rw[List.getElem?_take_of_lt g];simpa using ho
  have fa:=hV.at _ _ _ i _ F;rw[Nat.zero_add,List.take_take,Nat.min_eq_left (Nat.le_of_lt g)] at fa;have x:=hF.look hp r g ho q;obtain⟨s1,s2⟩:=yQ (ops:=c.toArray) (fun cs b=>Region.noSelect_spec hp.Ae i _ cs b ho) x;have s1:execOp (mF V (c.take i) 0 a0).eval o=execOp b.eval o:=s1;have s2:Region.wanted o (yielded c.toArray (mF V (c.take i) 0 a0).tmps)=Region.wanted o (yielded c.toArray b.tmps):=s2;have ha:aI i=none:=by
   have:=I i;rw[E] at this;cases h:aI i with
   |none=>rfl
   |some A=>rw[h] at this;cases this
  unfold gm at fa;rw[ha] at fa;simp only at fa;have u:=K (l.setIfInBounds i true) (b.put o.dst (V i)) (hd.step hi) (fun j d=>w j (List.mem_cons_of_mem _ d)) (fun j d hl=>by
   by_cases e:i=j
   .subst e;exfalso;have G:i<l.size:=by rw[hd.size];exact(Array.getElem?_eq_some_iff.1 ho).1
    simp[G] at hl
   .rw [getD_set_ne false e] at hl;rcases List.mem_cons.1 (t j d hl) with h|h
    .exact absurd h.symm e
    .exact h) p (hF.step hp r g ho (fun _ _ _=>rfl))
  simp only[fA,C,dA];cases hw:Region.wanted o (yielded c.toArray b.tmps) with
  |true=>
   rw[if_pos rfl];have hr:=fa.1 (by rw[s2];exact hw) W hW (fun j A d M H=>hR j A (by omega) H);rw[s1] at hr;exact⟨V i,fun W' _=>NM D hr W',u⟩
  |false=>
   rw[if_neg (by simp)];have hv:=fa.2 (by rw[s2];exact hw);rw[<-hv];exact u
theorem BH {sz:Nat} {an:Nat->Bool} {tail:List (Nat×Nat)} {o:List Oper} (hp:vJ o.toArray n sz dp an tail fl kD) (t: ∀i,(aI i).isSome=an i)
  (hQ: ∀c a d v w,Q (.panic c) (Act.put a d v) w->Q (.panic c) a w) {a0:Act} (z:a0.tmps.size=sz) {f:Nat} {l:Array Bool} {b:Act} {W:World} {X:Nat->α} {V:Nat->Value} (hd:oC .any o.toArray l) (y: ∀j,n<=j->l.getD j false=false) (hW:Ext w0 W)
  (hR: ∀j A,j<n->l.getD j false=true->aI j=some A->A.R (X j) W) (G: ∀i j A B,i<n->j<n->l.getD i false=true->l.getD j false=true->i≠j->aI i=some A->aI j=some B->∀b,A.f (X i) b->¬B.f (X j) b)
  (hV:Good P o.toArray (fun a W=>dA P o.toArray Q (fun _=>True) (fA o tail) a W) w0 dp aI X V (o.take n) 0 a0)
  (hF:xU o.toArray n a0 l V b) (r: ∀j,j<n->fl.contains j=false->l.getD j false=true) (hf:xh n l+tail.length<=f):wpAny P .any o.toArray Q f l b W:=by
 have u: ∀j∈((List.range n).filter fun j=>!l.getD j false),j<n/\fl.contains j=true:=fun j g=>by
  obtain⟨h1,p⟩:=List.mem_filter.1 g;have h1:=List.mem_range.1 h1;refine⟨h1,?_⟩;cases hc:fl.contains j with
  |true=>rfl
  |false=>have:=r j h1 hc;rw[this] at p;cases p
 have C:((List.range n).filter fun j=>!l.getD j false)∈subs ((List.range n).filter fun j=>fl.contains j):=by
  have:=AP (fun j=>!l.getD j false) ((List.range n).filter fun j=>fl.contains j);rw[List.filter_filter] at this;have e:((List.range n).filter fun j=>!l.getD j false)=((List.range n).filter fun j=>(!l.getD j false)&&fl.contains j):=by
   apply List.filter_congr;intro j g;cases hl:l.getD j false with
   |true=>rfl
   |false=>
    have:=u j (List.mem_filter.2 ⟨g,by rw[hl];rfl⟩);rw[this.2];rfl
  rw[e];exact this
 have hm:=hp.mix _ C;have hl:l=Array.ofFn (n:=o.toArray.size) fun j=>decide (j.val<n)&&!((List.range n).filter fun j=>!l.getD j false).contains j.val:=by
  apply Array.ext
  .simp [hd.size]
  .intro j h1 p;rw[Array.getElem_ofFn];have x:l.getD j false=l[j]:=by rw[Array.getD_eq_getD_getElem?,Array.getElem?_eq_getElem h1];rfl
   by_cases g:j<n
   .simp only [g,decide_true,Bool.true_and];rw[<-x];cases h:l.getD j false with
    |true=>simp[h,-Array.getD_eq_getD_getElem?]
    |false=>simp[h,g,-Array.getD_eq_getD_getElem?]
   .have:=y j (by omega);rw[<-x,this];simp[g]
 rw[<-hl] at hm;have hlen:(((List.range n).filter fun j=>!l.getD j false).map (fun k=>(k,0))++tail).length<=f:=by
  rw[List.length_append,List.length_map];exact hf
 have q: ∀j A,j<n->aI j=some A->l.getD j false=true:=fun j A g ha=>by
  refine r j g ?_;cases hc:fl.contains j with
  |false=>rfl
  |true=>
   have D:j<o.toArray.size:=aP g hp.le;have:=(hp.flo j _ g hc (Array.getElem?_eq_getElem D)).2;rw[<-t,ha] at this;cases this
 have E: ∀j A,j<n->aI j=some A->A.R (X j) W:=fun j A g ha=>hR j A g (q j A g ha) ha;have F: ∀i j A B,i<n->j<n->i≠j->aI i=some A->aI j=some B->∀b,A.f (X i) b->¬B.f (X j) b:=fun i j A B hi g hne ha hb=>G i j A B hi g (q i A hi ha) (q j B g hb) hne ha hb;have p:=CE (Q:=Q) hp t z hW hV E F _ l b hd u (fun j g h=>List.mem_filter.2 ⟨List.mem_range.2 g,by rw[h];rfl⟩) hm hF;have H:=yz (P:=P) (S:=fun _=>True) (n:=kD) hp.Ae hp.sink hQ _ l b W hd (.inl trivial) hm p;exact Qk hlen (tY _ _ _ _ H)
def VR (dp:Nat->List Nat) (aI:Nat->Option (dG α w0.heap.size)):Prop:= ∀i A c,aI i=some A->A.Qo=some c->c∈dp i/\c<i/\∀j B,aI j=some B->j≠c->i∉dp j->j≠i->B.sta=true
theorem EY {sz:Nat} {an:Nat->Bool} {tail:List (Nat×Nat)} {q:List Oper} [Inhabited α] (hp:vJ q.toArray n sz dp an tail fl kD) (af: ∀i,(aI i).isSome=an i) (aJ:VR dp aI)
  (hQ: ∀c a d v w,Q (.panic c) (Act.put a d v) w->Q (.panic c) a w) {a0:Act} (u:a0.tmps.size=sz)
  (hC:Can P q.toArray (fun a W=>dA P q.toArray Q (fun _=>True) (fA q tail) a W) w0 dp aI (q.take n) 0 [] a0):
  ∀(f:Nat) (l:Array Bool) (b:Act) (W:World) (X:Nat->α) (V:Nat->Value),oC .any q.toArray l->(∀j,n<=j->l.getD j false=false)->Ext w0 W->
   (∀j A,j<n->l.getD j false=true->aI j=some A->A.R (X j) W)->
   (∀i j A B,i<n->j<n->l.getD i false=true->l.getD j false=true->i≠j->aI i=some A->aI j=some B->∀b,A.f (X i) b->¬B.f (X j) b)->
   (∀j A,j<n->l.getD j false=true->aI j=some A->∀k,A.f (X j) k->w0.heap.size<=k)->
   Good P q.toArray (fun a W=>dA P q.toArray Q (fun _=>True) (fA q tail) a W) w0 dp aI X V (q.take n) 0 a0->
   xU q.toArray n a0 l V b->xh n l+tail.length<=f->wpAny P .any q.toArray Q f l b W:=by
 intro f
 induction f with
 |zero=>
  intro l b W X V hd L hW hR H U hV hF hf;have N:xh n l=0:=by omega
  have M:=NP N;exact BH hp af hQ u hd L hW hR H hV hF (fun j p _=>M j p) hf
 |succ f ag=>
  intro l b W X V hd L hW hR H U hV hF hf;by_cases N: ∀j,j<n->fl.contains j=false->l.getD j false=true
  .exact BH hp af hQ u hd L hW hR H hV hF N hf
  .have aB: ∃j,j<n/\fl.contains j=false/\l.getD j false=false:=by
    by_cases h: ∃j,j<n/\fl.contains j=false/\l.getD j false=false
    .exact h
    .exfalso;apply N;intro j p Z;cases hl:l.getD j false with
     |true=>rfl
     |false=>exact absurd ⟨j,p,Z,hl⟩ h
   refine⟨fun hr=>?_,fun i hi=>?_⟩
   .exfalso;obtain⟨aC,aL,_,aM⟩:=aB;have aK: ∀k,∀j,j<=k->j<n->l.getD j false=false->False:=by
     intro k
     induction k using Nat.strongRecOn with
     |_ k aN=>
      intro j a8 p hl;have O:j<q.toArray.size:=aP p hp.le;have ho:q.toArray[j]?=some q.toArray[j]:=Array.getElem?_eq_getElem O;have aD:j∈Region.ready .any q.toArray l:=by
       rw[mem_ready];refine⟨L6 (by rw[hd.size];exact O) hl,_,ho,fun e he hb=>?_⟩;have ba:=hp.lt j _ p ho e he hb;cases h:l.getD e.on false with
       |true=>rfl
       |false=>exact(aN e.on (by omega) e.on (Nat.le_refl _) (by omega) h).elim
      rw[hr] at aD;cases aD
    exact aK aC aC (Nat.le_refl _) aL aM
   .obtain ⟨S,o,ho,M⟩:=mem_ready.1 hi;have aO:i<q.toArray.size:=(Array.getElem?_eq_some_iff.1 ho).1;have Y:=hp.closed hd i o ho M;have y:i<n:=by
     rcases Nat.lt_or_ge i n with h|h
     .exact h
     .exfalso;obtain⟨j,p,Z,hl⟩:=aB;have:=Y j (hp.rest i j h aO p Z);rw[hl] at this;cases this
    have ao:(q.take n)[i]?=some o:=by rw[List.getElem?_take_of_lt y];simpa using ho
    have fa:=hV.at _ _ _ i _ ao;rw[Nat.zero_add,List.take_take,Nat.min_eq_left (Nat.le_of_lt y)] at fa;have aG:=hF.look hp u y ho M;obtain⟨s1,s2⟩:=yQ (ops:=q.toArray) (fun cs b=>Region.noSelect_spec hp.Ae i _ cs b ho) aG;have s1:execOp (mF V (q.take i) 0 a0).eval o=execOp b.eval o:=s1;have s2:Region.wanted o (yielded q.toArray (mF V (q.take i) 0 a0).tmps)=Region.wanted o (yielded q.toArray b.tmps):=s2;have ah: ∀j,n<=j->(l.setIfInBounds i true).getD j false=false:=fun j p=>by rw[getD_set_ne false (by omega)];exact L j p
    have bb:=NQ y S;unfold wpOp;rw[ho];simp only;unfold gm at fa;cases ha:aI i with
    |none=>
     rw[ha] at fa;simp only at fa;have aq: ∀W',Ext W W'->∀j A,j<n->(l.setIfInBounds i true).getD j false=true->aI j=some A->A.R (X j) W':=fun W' aQ j A p hl r=>by
      by_cases e:j=i
      .subst e;rw[ha] at r;cases r
      .rw [getD_set_ne false (Ne.symm e)] at hl;exact A.st _ _ _ (hR j A p hl r) aQ
     have ar: ∀i' j A B,i'<n->j<n->(l.setIfInBounds i true).getD i' false=true->(l.setIfInBounds i true).getD j false=true->i'≠j->aI i'=some A->aI j=some B->∀b,A.f (X i') b->¬B.f (X j) b:=fun i' j A B T p E F hne h1 t=>by
      have z:i'≠i:=fun e=>by subst e;rw[ha] at h1;cases h1
      have D:j≠i:=fun e=>by subst e;rw[ha] at t;cases t
      rw[getD_set_ne false (Ne.symm z)] at E;rw[getD_set_ne false (Ne.symm D)] at F;exact H i' j A B T p E F hne h1 t
     have av: ∀j A,j<n->(l.setIfInBounds i true).getD j false=true->aI j=some A->∀k,A.f (X j) k->w0.heap.size<=k:=fun j A p hl r=>by
      have e:j≠i:=fun e=>by subst e;rw[ha] at r;cases r
      rw[getD_set_ne false (Ne.symm e)] at hl;exact U j A p hl r
     cases hw:Region.wanted o (yielded q.toArray b.tmps) with
     |true=>
      rw[if_pos rfl];refine .inl ?_;have hr:=fa.1 (by rw[s2];exact hw) W hW (fun j A p aa r=>hR j A (by omega) (Y j aa) r);rw[s1] at hr;unfold Oper.wp;rw[hr];exact ag _ _ _ X V (hd.step hi) ah hW (aq W (au.refl _ _)) ar av hV (hF.step hp u y ho (fun _ _ _=>rfl)) (by omega)
     |false=>
      rw[if_neg (by simp)];have hv:=fa.2 (by rw[s2];exact hw);rw[<-hv];exact ag _ _ _ X V (hd.step hi) ah hW (aq W (au.refl _ _)) ar av hV (hF.step hp u y ho (fun _ _ _=>rfl)) (by omega)
    |some A=>
     rw[ha] at fa;simp only at fa;obtain⟨hw,bc,hm⟩:=fa;rw[s2] at hw;rw[if_pos hw];refine .inl ?_;obtain⟨d,hdd⟩:=hp.some_ i o y ho (by rw[<-af,ha];rfl);have aw:=hp.dst i o d y ho hdd;have ax:=CJ V (q.take i) 0 a0;refine Ih (K:=fun a' W'=>a'.defers=(mF V (q.take i) 0 a0).defers/\∃x,a'.tmps[d]?=some (A.val x)/\TrX aI X A W W'/\A.R x W'/\∀k,A.f x k->W.heap.size<=k) s1 (fun v W' hK=>?_) (fun _ _ h=>h.1) (hm W hW (fun j B p aa r=>hR j B (by omega) (Y j aa) r) _ (fun x W' aW ai I=>⟨sZ _ _ _,x,by rw[hdd];exact put_eq _ _ _ (by rw[ax.1,u];exact aw),aW,ai,I⟩));obtain⟨_,x,hx,G,ai,I⟩:=hK;rw[hdd,put_eq _ _ _ (by rw[ax.1,u];exact aw)] at hx;have aX:v=A.val x:=Option.some.inj hx;obtain⟨aY,ab⟩:=jm (fun j=>if j=i then x else X j) _ _ _ _ hC (fun g aZ=>by cases aZ) List.Pairwise.nil;have aR:Ext w0 W'/\W.heap.size<=W'.heap.size/\∀j B,j<n->l.getD j false=true->aI j=some B->B.R (X j) W':=by
      unfold TrX at G;cases hc:A.Qo with
      |none=>
       rw[hc] at G;exact⟨hW.ext G,G.size,fun j B p hl r=>B.st _ _ _ (hR j B p hl r) G⟩
      |some c=>
       rw[hc] at G;obtain⟨C,ad,aj,aS⟩:=G;obtain⟨aT,bd,aU⟩:=aJ i A c ha hc;have ay:l.getD c false=true:=Y c aT;have al: ∀k,C.f (X c) k->w0.heap.size<=k:=U c C (by omega) ay ad;refine⟨hW.trans' aj (fun j p e=>by have:=al j e;omega),aj.size,fun j B p hl r=>?_⟩;by_cases e:j=c
       .subst e;rw[ad] at r;obtain rfl:=Option.some.inj r;exact aS
       .have ae:i∉dp j:=fun ae=>by
         have O:j<q.toArray.size:=aP p hp.le;have az:q.toArray[j]?=some q.toArray[j]:=Array.getElem?_eq_getElem O;have:=hp.closed hd j _ az (fun e he hb=>hd.back j _ az hl e he hb) i ae;rw[rF S] at this;cases this
        have aV:j≠i:=fun e=>by subst e;rw[rF S] at hl;cases hl
        exact B.st2 (aU j B r e ae aV) _ _ _ _ (hR j B p hl r) aj (fun k hk=>⟨al k hk,fun t=>H j c B C p (by omega) hl ay e r ad k t hk⟩)
     obtain⟨aE,a7,aF⟩:=aR;have hne: ∀j,l.getD j false=true->j≠i:=fun j hl e=>by subst e;rw[rF S] at hl;cases hl
     have aH:=Good.same hp hd u hV ab (fun j p hl=>if_neg (hne j hl)) aE aF;have J:=ab.at _ _ _ i _ ao;rw[Nat.zero_add] at J;unfold gm at J;rw[ha] at J;simp only[if_true] at J;rw[aX,<-J.2.1];refine ag _ _ _ (fun j=>if j=i then x else X j) aY (hd.step hi) ah aE (fun j B p hl r=>?_) (fun i' j ak B T p E F aA h1 t b z D=>?_) (fun j B p hl r k hk=>?_) ab (hF.step hp u y ho aH) (by omega)
     .by_cases e:j=i
      .subst e;rw[ha] at r;obtain rfl:=Option.some.inj r;simp only[if_true];exact ai
      rw[getD_set_ne false (Ne.symm e)] at hl;simp only[if_neg e];exact aF j B p hl r
     by_cases c1:i'=i
     .subst c1;have c2: ¬j=i':=fun e=>aA e.symm;rw[ha] at h1;obtain rfl:=Option.some.inj h1;simp only[if_true] at z;simp only[if_neg c2] at D;rw[getD_set_ne false (fun e=>c2 e.symm)] at F;have a1:=I b z;have a6:=B.lt _ _ b (hR j B p F t) D;omega
     .by_cases c2:j=i
      .subst c2;rw[ha] at t;obtain rfl:=Option.some.inj t;simp only[if_true] at D;simp only[if_neg c1] at z;rw[getD_set_ne false (fun e=>c1 e.symm)] at E;have a1:=I b D;have a6:=ak.lt _ _ b (hR i' ak T E h1) z;omega
      .simp only [if_neg c1] at z;simp only[if_neg c2] at D;rw[getD_set_ne false (fun e=>c1 e.symm)] at E;rw[getD_set_ne false (fun e=>c2 e.symm)] at F;exact H i' j ak B T p E F aA h1 t b z D
     .by_cases e:j=i
      .subst e;rw[ha] at r;obtain rfl:=Option.some.inj r;simp only[if_true] at hk;exact Nat.le_trans hW.size (I k hk)
      .rw [getD_set_ne false (Ne.symm e)] at hl;simp only[if_neg e] at hk;exact U j B p hl r k hk
theorem dw {id:Nat} {a:Act} {w:World} {b:List Oper} [Inhabited α] (n:Nat) (fl:List Nat) (kD:Nat) (tail:List (Nat×Nat)) (k:List (List Nat)) (e:List (Option (dG α w.heap.size))) (l:List Bool) (hm:P.follows .mixedOrders=true)
  (p:GN b.toArray n a.tmps.size (fun i=>k.getD i []) (fun i=>l.getD i false) fl kD tail=true) (q:e.map (·.isSome)=l)
  (hQ: ∀c a d v w,Q (.panic c) (Act.put a d v) w->Q (.panic c) a w) (o:VR (w0:=w) (fun i=>k.getD i []) (fun i=>e.getD i none))
  (h:Can P b.toArray (fun a W=>dA P b.toArray Q (fun _=>True) (fA b tail) a W) w (fun i=>k.getD i []) (fun i=>e.getD i none) (b.take n) 0 [] a):(Code.region id b.toArray true).wp P Q a w:=by
 have hp:=Us p;refine wp_region_any hm ?_;have hW:Ext w {w with drawn:=w.drawn+1}:=⟨rfl,rfl,rfl,Nat.le_refl _,fun _ _ _=>rfl⟩
 obtain⟨V,hV⟩:=jm (fun _=>default) _ _ _ _ h (fun g r=>by cases r) List.Pairwise.nil;have hf: ∀j,(Array.replicate b.toArray.size false).getD j false=false:=fun j=>by
  rcases Nat.lt_or_ge j b.length with h|h<;>simp[h]
 refine EY hp (fun i=>?_) o hQ rfl h _ _ _ _ _ V oC.start (fun j _=>hf j) hW (fun j A _ hl=>by rw[hf] at hl;cases hl) (fun i j A B _ _ hl=>by rw[hf] at hl;cases hl) (fun j A _ hl=>by rw[hf] at hl;cases hl) hV xU.start ?_
 .rw [<-q];simp only[List.getD_eq_getElem?_getD,List.getElem?_map];cases e[i]?<;>rfl
 .have h1:xh n (Array.replicate b.toArray.size false)<=n:=by
   unfold xh;exact Nat.le_trans (List.length_filter_le _ _) (by simp)
  have:=hp.len;omega
theorem o8 {o:Oper} {r:List Oper} {i:Nat} {G:List qH} {a:Act} (ha:aI i=none)
  (h: ∀K:Act->Prop,(∀a,Can P ops Qt w0 dp aI r (i+1) G a->K a)->if Region.wanted o (yielded ops a.tmps) then ∃v,(∀W,Ext w0 W->(∀g∈G,g.1∈dp i->g.2.2 W)->(execOp a.eval o).run P W= .ok (.value v) W)/\K (a.put o.dst v) else K (a.put o.dst undef)):
  Can P ops Qt w0 dp aI (o::r) i G a:=by
 unfold Can;rw[ha];exact h _ (fun _ h=>h)
theorem aQ {o:Oper} {r:List Oper} {i:Nat} {G:List qH} {a:Act} (A:dG α w0.heap.size) (ha:aI i=some A) (hw:Region.wanted o (yielded ops a.tmps)=true)
  (h1: ∀W,Ext w0 W->(∀g∈G,g.1∈dp i->g.2.2 W)->∀K:Act->World->Prop,(∀x W',TrG G A W W'->A.R x W'->(∀k,A.f x k->W.heap.size<=k)->K (a.put o.dst (A.val x)) W')->o.wp P a W K (fun _ _ _=>False))
  (b: ∀K:Act->Prop,∀x,(∀a,Can P ops Qt w0 dp aI r (i+1) (G++[(i,A.f x,A.R x)]) a->K a)->K (a.put o.dst (A.val x))):
  Can P ops Qt w0 dp aI (o::r) i G a:=by
 unfold Can;rw[ha];exact⟨hw,h1,fun x=>b _ x (fun _ h=>h)⟩
theorem jg {i:Nat} {G:List qH} {a:Act} (h: ∀W,Ext w0 W->(∀g∈G,g.2.2 W)->vH G->Qt a W):Can P ops Qt w0 dp aI [] i G a:=h
theorem ad3 {dp:Nat->List Nat} {w0:World} {α:Type} {aI:Nat->Option (dG α w0.heap.size)} (k c:Nat) (h1: ∀i A,aI i=some A->i≠k->A.Qo=none) (g: ∀A,aI k=some A->A.Qo=some c) (b:c∈dp k/\c<k) (h: ∀j B,aI j=some B->j≠c->k∉dp j->j≠k->B.sta=true):VR dp aI:=fun i A d ha hd=>by
 by_cases e:i=k
 .subst e;have a:=g A ha;rw[hd] at a;obtain rfl:=Option.some.inj a;exact⟨b.1,b.2,h⟩
 .have a:=h1 i A ha e;rw[hd] at a;cases a
theorem bf {o:Oper} {r:List Oper} {i:Nat} {G:List qH} {a:Act} (ha:aI i=none)
  (h: ∀K:Act->Prop,(∀a,Can P ops Qt w0 dp aI r (i+1) G a->K a)->if Region.wanted o (yielded ops a.tmps) then ∃v,(∀x:XW w0,(execOp a.eval o).run P x.val= .ok (.value v) x.val)/\K (a.put o.dst v) else K (a.put o.dst undef)):
  Can P ops Qt w0 dp aI (o::r) i G a:=by
 refine o8 ha fun K hK=>?_;have b:=h K hK;by_cases hw:Region.wanted o (yielded ops a.tmps)=true
 .rw [if_pos hw] at b⊢;obtain⟨v,hv,c⟩:=b;exact⟨v,fun W hW _=>hv ⟨W,hW⟩,c⟩
 .rw [if_neg hw] at b⊢;exact b
end
end
end Go.Hw.PH
