/- The texts L7 UX UW TAB TYB L8 TB RX UQ UR TYZ WA SG, one behind the other. -/
import Derived.Test.YtlkcjmaiahnodaaGreatDoorSAB
import Derived.Test.YtlkcjmaiahnodaaGreatDoorSAD
import Derived.Test.YtlkcjmaiahnodaaGreatDoorSAC
set_option linter.unusedVariables false
set_option linter.unusedSimpArgs false
namespace Go.Hw
open Go.RowKit Tm
theorem aU.vZ {te:TypeId} {w:World} {B:Nat->Prop} {L:List Tm} {v:Value} (h:aU te w B L v) (hne:0<L.length): ∃(g cap:Nat) (us:Nat->Value) (Bk:Nat->Nat->Prop),v= .slice (az g) L.length cap/\Plain w g/\B g/\
  (∀i,i<L.length->w.cell? ⟨g,i*3,none⟩=some (.string (tg L i).name)/\w.cell? ⟨g,i*3+1,none⟩=some (.string (tg L i).sort)/\w.cell? ⟨g,i*3+2,none⟩=some (us i))/\
  (∀i,i<L.length->aU te w (Bk i) (tg L i).kids (us i))/\(∀i k,i<L.length->Bk i k->B k/\k≠g)/\∀i j k,i<L.length->j<L.length->i≠j->Bk i k->¬Bk j k:=by
 cases h with
 |mk _ _ us _ Bk hl hown hb hkb hrow hdis hk=>
  have hS:=aB.gG hown;obtain⟨g,off,cap,e,hc,y,a⟩:=hS.pos hne;rcases hown.2 with⟨_,h0⟩|⟨g',x,cur,e',_,o,_⟩
  .omega
  .have p:=e.symm.trans e';injection p with b z A
   injection b with b
   injection b with q r
   subst q r;refine⟨g,cap,fun i=>ug us i,Bk,e,⟨_,_,o⟩,hb g (by rw[e];rfl),fun i hi=>?_,hk,fun i k hi c=>⟨hkb i k hi c,fun t=>hrow i k hi c (by rw[e,t];rfl)⟩,hdis⟩;obtain⟨h0,h1,u⟩:=Aw L us i hi;have d:=a (i*3) (by omega);have l:=a (i*3+1) (by omega);have n:=a (i*3+2) (by omega);rw[Nat.zero_add] at d l n;exact⟨by rw[d,h0],by rw[l,h1],by rw[n,u]⟩
theorem Tv: ∀(t:Tm) (d N:Nat),(∀p∈di d t,p.2<=N)<->d+t.depth<=N+1:=by
 refine Tm.ind (fun n s L b=>?_);intro d N;rw[jF,lg];simp only[Tm.kids];have key: ∀(L:List Tm) (d:Nat),(∀x∈L,∀d N,(∀p∈di d x,p.2<=N)<->d+x.depth<=N+1)->d<=N+1->((∀p∈dh d L,p.2<=N)<->d+depths L<=N+1):=by
  intro L
  induction L with
  |nil=>intro d _ hd;exact⟨fun _=>by simpa[depths] using hd,fun _ p hp=>by cases hp⟩
  |cons a L g=>
   intro d hx hd;have h1:=hx a (List.mem_cons_self ..) d N;have c:=g d (fun x i=>hx x (List.mem_cons_of_mem _ i)) hd;simp only[dh,depths];constructor
   .intro h;have g1:=h1.1 (fun p hp=>h p (List.mem_append_left _ hp));have g2:=c.1 (fun p hp=>h p (List.mem_append_right _ hp));omega
   .intro h p hp;rcases List.mem_append.1 hp with hp|hp
    .exact h1.2 (by omega) p hp
    .exact c.2 (by omega) p hp
 constructor
 .intro h;have h0:d<=N:=h _ (List.mem_cons_self ..);have:=(key L (d+1) b (by omega)).1 (fun p hp=>h p (List.mem_cons_of_mem _ hp));omega
 .intro h p hp;rcases List.mem_cons.1 hp with e|hp
  .rw [e];show d<=N;omega
  .exact (key L (d+1) b (by omega)).2 (by omega) p hp
def Tz (nm:By->Bool) (x:Tm):Prop:=nm x.name=true/\x.kids.length<=6/\(x.sort=ai\/nm x.sort=true/\x.kids=[])
theorem oH {nm:By->Bool} {t:Tm}:wf nm t=true<->t.size<=1000/\t.depth<=60/\(∀x∈bu t,Tz nm x)/\Cons (dL t):=by
 unfold wf;rw[Bool.and_eq_true,uY,Ku];have hm: ∀P:Tm->Prop,(∀x∈bu t,P x)<->∀p∈di 1 t,P p.1:=fun P=>by
  unfold bu;rw[oW t 0 1];constructor
  .intro h p hp;exact h _ (List.mem_map_of_mem hp)
  .intro h x hx;obtain⟨p,hp,rfl⟩:=List.mem_map.1 hx;exact h p hp
 have d: ∀p:Tm×Nat,lZ nm p=true<->p.2<=60/\Tz nm p.1:=fun p=>by
  unfold lZ Tz;simp only[Bool.and_eq_true,Bool.or_eq_true,decide_eq_true_eq];constructor
  .rintro ⟨h1,b,c,a⟩;refine⟨h1,b,c,?_⟩;rcases a with a|⟨a,e⟩
   .exact .inl a
   .exact .inr ⟨a,List.eq_nil_of_length_eq_zero e⟩
  .rintro ⟨h1,b,c,a⟩;refine⟨h1,b,c,?_⟩;rcases a with a|⟨a,e⟩
   .exact .inl a
   .exact .inr ⟨a,by rw[e];rfl⟩
 have hd:=Tv t 1 60;have hn:=hm (Tz nm);constructor
 .rintro ⟨⟨h1,b⟩,c⟩;exact⟨h1,by have:=hd.1 (fun p hp=>((d p).1 (b p hp)).1);omega,hn.2 (fun p hp=>((d p).1 (b p hp)).2),c⟩
 .rintro ⟨h1,b,c,a⟩;exact⟨⟨h1,fun p hp=>(d p).2 ⟨hd.2 (by omega) p hp,hn.1 c p hp⟩⟩,a⟩
theorem ajY {nm:By->Bool} {t:Tm} (h: ∀x∈bu t,Tz nm x):u_ t:=fun x hx hs=>(h x hx).2.2.elim (fun e=>absurd e hs) (fun e=>e.2)
theorem Vs {nm:By->Bool} {t:Tm} (h:wf nm t=true):u_ t:=ajY (oH.1 h).2.2.1
theorem Aj {nm:By->Bool} {t:Tm} (h:wf nm t=true):AscK (Prod.fst:Vd->By) (aY t)/\∀f,f∈aY t<->f∈dL t:=by
 have hs:(kM t).isSome=true:=by
  unfold wf at h;rw[Bool.and_eq_true] at h;exact h.2
 obtain⟨m,hm⟩:=Option.isSome_iff_exists.1 hs;obtain⟨_,h1⟩:=CB (vl (bu t)) [] [] List.Pairwise.nil (fun _=>rfl) (fun _=>Iff.rfl);obtain⟨a,_,b⟩:=h1 m hm;have d:Cons []:=fun f hf=>by cases hf
 obtain⟨e,_⟩:=Cm (vl (bu t)) [] d;obtain⟨_,c,_⟩:=e m hm;refine⟨a,fun f=>?_⟩;show f∈(dO [] (vl (bu t))).1<->f∈vl (bu t);rw[b f,c f];simp
theorem Rz {σ:Su}: ∀t:Tm,∀x∈bu (iW σ t),(∃y∈bu t,y.sort=ai/\x.sort=ai/\x.name=y.name/\x.kids.length=y.kids.length)\/∃f∈dL t,x∈bu (σ f.1 f.2):=by
 refine Tm.ind (fun n s L b=>?_);intro x hx;by_cases hs:s=ai
 .subst hs;rw[uN,lS,List.mem_cons] at hx;rcases hx with e|hx
  .subst e;exact .inl ⟨_,jo _,rfl,rfl,rfl,by simp[Tm.kids]⟩
  .obtain ⟨y,hy,hx⟩:=List.mem_flatMap.1 hx;obtain⟨z,a,rfl⟩:=List.mem_map.1 hy;rcases b z a x hx with⟨y,hy,h⟩|⟨f,hf,h⟩
   .exact .inl ⟨y,lX (t:= .mk n ai L) a hy,h⟩
   .exact .inr ⟨f,by rw[vU];exact List.mem_flatMap.2 ⟨z,a,hf⟩,h⟩
 .rw [qh σ hs] at hx;exact .inr ⟨_,nK hs L,hx⟩
section
section
variable {P:Program} (w:World)
theorem Xb {base e size m:Nat} {news:List Value} {q:Option Addr} {v':Value} {w w':World} (j:0<size) (hown:w.ownsRow base e size (.slice q 0 0) 0 []) (l:Ext w w') (n:w'.ownsRow base e size v' m news) (a:v'.ownBlock=(Value.slice q 0 0).ownBlock\/v'.ownBlock=some w.heap.size):m=0\/v'.ownBlock=some w.heap.size:=by
 rcases a with a|a
 .by_cases hm:m=0
  .exact .inl hm
  .exfalso;rcases n.2 with⟨_,h0⟩|⟨g',i,u,h,x,c,y,z,k,A⟩
   .omega
   .rcases hown.2 with⟨b,_⟩|⟨g,cap,cur,b,B,o,C,D,hcs,t⟩
    .injection b with b
     rw[h,b] at a;cases a
    .injection b with b E p
     rw[h,b] at a;have d:some g'=some g:=a;injection d with d
     subst d;have r:=l.heap o id;rw[r] at c;injection c with c
     injection c with c
     have:0<i*size:=Nat.mul_pos (by omega) j;rw[<-k,<-c,hcs,<-p] at this;simp at this
 .exact .inr a
theorem Jj {o:Oper} {a:Act} {K:Act->World->Prop} {Q:Exit->Act->World->Prop} (s x:Operand) (t:TypeId)
  (ho:o.op= .call {callee:= .builtin .append,args:= #[s,x],argTypes:= #[t,t]})
  (base:Nat) (e:TypeId) (i:TypeInfo) (z:Value) (size bytes:Nat) (B:P.underlying t=some (.slice e)) (hi:P.info? e=some i) (H:i.zero=some z)
  (q:i.size=size) (F:i.bytes=bytes) (N:z.cells.size=size) (O:0<size)
  (v:Value) (n:Nat) (xs:List Value) (hs:a.eval s=v) (hown:w.ownsRow base e size v n xs)
  (ad:Addr) (m c:Nat) (news:List Value) (hx:a.eval x= .slice (some ad) m c) (hl:news.length=m*size) (r: ∀j u,news[j]?=some u->w.cell? (ad.add j)=some u) (h1: ∀u∈news,u.oneCell'=true)
  (G:n+m<=maxLen) (D:(n+m)*bytes<=140737488355328) (I:base<=w.heap.size)
  (h: ∀v' w',(Ext w w'\/au (fun k=>v.ownBlock=some k) w w'/\∃a cap,v= .slice a n cap/\n+m<=cap)->w'.ownsRow base e size v' (n+m) (xs++news)->w'.ownsRow base e size v n xs->K (a.put o.dst v') w'):o.wp P a w K Q:=by
 obtain⟨v',w',hr,C,d,_⟩:=run_append_own (P:=P) w base t o.type e i z size bytes B hi H q F N O v n xs hown ad m c news hl r h1 G D I;have key:(Ext w w'\/au (fun k=>v.ownBlock=some k) w w'/\∃a cap,v= .slice a n cap/\n+m<=cap)/\w'.ownsRow base e size v n xs:=by
  rcases hown.2 with⟨hv,af⟩|⟨g,cap,cur,hv,hb,W,R,S,hcs,Z⟩
  .have l:Ext w w':=(au.jQ d).mono (fun k _ e=>by rw[hv] at e;simp[Value.ownBlock] at e);exact⟨.inl l,bM hown l (fun _ _ h=>h)⟩
  .by_cases y:n+m<=cap
   .subst q;have J:n*i.size+news.length<=cur.size:=by rw[hl,hcs,<-Nat.add_mul];exact Nat.mul_le_mul_right _ y
    have A:=run_append_room (P:=P) w t o.type e i B hi g n cap cur W ad m c news hl r h1 y J;rw[hv,A] at hr;injection hr with T ag
    rw[<-T] at C;refine⟨.inr ⟨(au.jQ d).mono fun k _ e=>e.symm,some ⟨g,0,none⟩,cap,hv,y⟩,?_⟩;rcases C.2 with⟨b,_⟩|⟨g',aa,L,b,ah,U,ab,ae,M,V⟩
    .cases b
    .injection b with b ai X
     injection b with b
     injection b with b
     subst b X;refine⟨hown.1,.inr ⟨g,cap,L,hv,hb,U,R,S,M,?_⟩⟩;have p:=congrArg (List.take (n*i.size)) V;rw[List.take_take,Nat.min_eq_left (by rw[Nat.add_mul];omega)] at p;rw[p,List.take_append_of_le_length (by rw[hown.1];exact Nat.le_refl _),List.take_of_length_le (by rw[hown.1];exact Nat.le_refl _)]
   .subst q;subst F;have hcell: ∀j u,xs[j]?=some u->w.cell? ((⟨g,0,none⟩:Addr).add j)=some u:=fun j u hu=>by
     have Y:j<n*i.size:=by rw[<-hown.1];exact(List.getElem?_eq_some_iff.1 hu).1
     have E:=hown;rw[hv] at E;have p:=World.ownsRow.cellAt E j Y;rw[hu] at p;rw[<-p,Addr.add_lit,Nat.zero_add]
    have A:=run_append_grow (P:=P) w t o.type e i z B hi H ⟨g,0,none⟩ n cap xs hown.1 hcell ad m c news hl r (by omega) (by simp only[maxLen] at G;omega) (growslice_fits (by omega) D);rw[hv,A] at hr;injection hr with _ hr
    have l:Ext w w':=⟨d.os,d.tape,d.output,d.size,fun k hk _=>by rw[<-hr];exact Go.heap_alloc_old w.drew _ (by simpa using hk)⟩
    exact⟨.inl l,bM hown l (fun _ _ h=>h)⟩
 unfold Oper.wp execOp;simp only[ho,resolve,invoke,builtin,Sem.run_bind,Sem.run_pure,Result.andThen_ok,List.map_toArray,List.map_cons,List.map_nil,hs,hx,hr];exact h v' w' key.1 C key.2
end
section
variable {P:Program} (w:World)
theorem Ji {o:Oper} {a:Act} {K:Act->World->Prop} {Q:Exit->Act->World->Prop} (s x:Operand) (t:TypeId)
  (ho:o.op= .call {callee:= .builtin .append,args:= #[s,x],argTypes:= #[t,t]})
  (base:Nat) (e:TypeId) (i:TypeInfo) (z:Value) (size bytes:Nat) (l:P.underlying t=some (.slice e)) (hi:P.info? e=some i) (F:i.zero=some z)
  (C:i.size=size) (D:i.bytes=bytes) (R:z.cells.size=size) (I:0<size)
  (q:Option Addr) (hs:a.eval s= .slice q 0 0) (hown:w.ownsRow base e size (.slice q 0 0) 0 [])
  (S:Nat->Prop) (sv:Value) (m:Nat) (news:List Value) (hx:a.eval x=sv) (d:aB S w size sv m news) (h1: ∀u∈news,u.oneCell'=true)
  (T:m<=maxLen) (B:m*bytes<=140737488355328) (O:base<=w.heap.size)
  (h: ∀v' w',Ext w w'->w'.ownsRow base e size v' m news->(m=0->v'= .slice q 0 0)->(m=0\/v'.ownBlock=some w.heap.size)->K (a.put o.dst v') w'):o.wp P a w K Q:=by
 have U: ∀v' w',(Builtin.append_ #[t,t] o.type #[.slice q 0 0,sv]).run P w= .ok v' w'->w.grownBy w' (Value.ownBlock (.slice q 0 0))->Ext w w':=by
  intro v' w' hr p;refine⟨p.os,p.tape,p.output,p.size,fun k hk _=>?_⟩;rcases hown.2 with⟨b,_⟩|⟨g,cap,cur,b,V,A,W,X,hcs,ab⟩
  .injection b with b
   subst b;exact p.block k hk (by simp[Value.ownBlock])
  .injection b with b M G
   subst b;subst G;by_cases J:k=g
   .subst J;rcases d.2 with⟨hv,hm⟩|⟨ad,c,hv,hc,E,H⟩
    .have Y:=run_append_owned_none (P:=P) w base t o.type e i size l hi _ 0 [] hown;rw[hv,Y] at hr;injection hr with _ hr
     rw[hr]
    .have n: ∀j u,news[j]?=some u->w.cell? (ad.add j)=some u:=by
      intro j u hu;have r:j<m*size:=by rw[<-d.1];exact(List.getElem?_eq_some_iff.1 hu).1
      rw[<-hu,<-H j r];obtain⟨g,off,spot⟩:=ad;have y:=(E (oQ r)).1;simp only at y;subst y;congr 1;unfold Addr.add;split
      .rename_i h0;simp[h0]
      .rfl
     subst C;by_cases hm:m=0
     .subst hm;have hn:news=[]:=List.eq_nil_of_length_eq_zero (by rw[d.1];simp);subst hn;rw[hv,run_append_room (P:=P) w t o.type e i l hi k 0 0 cur A ad 0 c [] (by simp) n h1 (Nat.le_refl _) (by simp)] at hr;injection hr with _ hr
      rw[<-hr,setRow_heap w k cur _ e _ A,A];simp
     .rw [hv,run_append_grow (P:=P) w t o.type e i z l hi F ⟨k,0,none⟩ 0 0 [] (by simp) (fun j v h=>by simp at h) ad m c news d.1 n (by omega) (by simp only[maxLen] at T;omega) (growslice_fits (by omega) (by subst D;simpa using B))] at hr;injection hr with _ hr
      rw[<-hr];exact Go.heap_alloc_old w.drew _ (by simpa using hk)
   .exact p.block k hk (by simp[Value.ownBlock];exact J)
 rcases d.2 with⟨hv,hm⟩|⟨ad,c,hv,hc,E,H⟩
 .have hr:=run_append_owned_none (P:=P) w base t o.type e i size l hi _ 0 [] hown;have hn:news=[]:=List.eq_nil_of_length_eq_zero (by rw[d.1,hm];simp);subst hn;subst hm;unfold Oper.wp execOp;simp only[ho,resolve,invoke,builtin,Sem.run_bind,Sem.run_pure,Result.andThen_ok,List.map_toArray,List.map_cons,List.map_nil,hs,hx,hv,hr];exact h _ w (au.refl _ w) hown (fun _=>rfl) (.inl rfl)
 .have n: ∀j u,news[j]?=some u->w.cell? (ad.add j)=some u:=by
   intro j u hu;have r:j<m*size:=by rw[<-d.1];exact(List.getElem?_eq_some_iff.1 hu).1
   rw[<-hu,<-H j r];obtain⟨g,off,spot⟩:=ad;have y:=(E (oQ r)).1;simp only at y;subst y;congr 1;unfold Addr.add;split
   .rename_i h0;simp[h0]
   .rfl
  obtain⟨v',w',hr,M,G,Z⟩:=run_append_own (P:=P) w base t o.type e i z size bytes l hi F C D R I _ 0 [] hown ad m c news d.1 n h1 (by omega) (by simpa using B) O;have N:=U v' w' (by rw[hv];exact hr) G;unfold Oper.wp execOp;simp only[ho,resolve,invoke,builtin,Sem.run_bind,Sem.run_pure,Result.andThen_ok,List.map_toArray,List.map_cons,List.map_nil,hs,hx,hv,hr];have aa:=zD (P:=P) w base t o.type e i z size bytes l hi F C D _ 0 [] hown ad m c news d.1 n h1 (by omega) (by simpa using B) hr;have L:w'.ownsRow base e size v' m news:=by simpa using M
  refine h v' w' N L (fun hm=>?_) (Xb I hown N L aa);subst hm;have hn:news=[]:=List.eq_nil_of_length_eq_zero (by rw[d.1];simp);subst hn;rcases hown.2 with⟨b,_⟩|⟨g,cap,cur,b,V,A,W,X,hcs,_⟩
  .exact (Z.2 ⟨b,rfl⟩).trans b.symm
  .injection b with b ae af
   subst b;rw[run_append_room (P:=P) w t o.type e i l hi g 0 0 cur A ad 0 c [] (by simp) n h1 (Nat.le_refl _) (by simp)] at hr;injection hr with hr
   exact hr.symm
end
end
def rU (W:World) (k:Nat):Prop:= ∃cs a,W.heap[k]?=some (.cells cs 3 a)
theorem rU.ext {W W':World} {k:Nat} (h:rU W k) (a:Ext W W'):rU W' k:=by
 obtain⟨cs,b,h⟩:=h;exact⟨cs,b,a.heap h id⟩
theorem rU.lt {W:World} {k:Nat} (h:rU W k):k<W.heap.size:=by
 obtain⟨cs,a,h⟩:=h;exact(Array.getElem?_eq_some_iff.1 h).1
theorem U7 {W:World} {b size n:Nat} {v:Value} {xs:List Value} (h:W.ownsRow b 3 size v n xs) {k:Nat} (hk:v.ownBlock=some k):rU W k:=by
 rcases h.2 with⟨e,_⟩|⟨g,cap,cur,e,_,a,_⟩
 .rw [e] at hk;cases hk
 .rw [e] at hk;injection hk with hk
  rw[<-hk];exact⟨_,_,a⟩
end Go.Hw
namespace Go.Hw.PG
open Go.RowKit Go.Hw
section
section
variable {P:Program} {ops:Array Oper} {Q:Exit->Act->World->Prop} {α:Type} {w0:World} {Qt:Act->World->Prop} {dp:Nat->List Nat} {n:Nat} {md:Region.Mode} {fl:List Nat} {kD:Nat}
structure dG (α:Type) where
 val:α->Value
 R:α->World->Prop
 st: ∀x W W',R x W->Ext W W'->R x W'
 f:α->Nat->Prop
 lt: ∀x W k,R x W->f x k->k<W.heap.size
abbrev qH:=PI.qH
abbrev vH:=PI.vH
variable {aI:Nat->Option (dG α)}
def dG.i (A:dG α):PI.dG α:=⟨A.val,A.R,fun _=>False,fun _=>False,fun x W W' _ h a hF=>A.st x W W' h (a.mono fun k _ e=>hF k e),fun _=>True,fun _ _ _ _ _ _=>trivial,A.f,A.lt⟩
def Can (P:Program) (ops:Array Oper) (Qt:Act->World->Prop) (w0:World) (dp:Nat->List Nat) (aI:Nat->Option (dG α)) (r:List Oper) (i:Nat) (G:List qH) (a:Act):Prop:=
 PI.Can P ops Qt w0 (fun _=>False) dp (fun i=>(aI i).map dG.i) r i G a
theorem dw {id:Nat} {a:Act} {w:World} {g:List Oper} [Inhabited α] (n:Nat) (fl:List Nat) (kD:Nat) (tail:List (Nat×Nat)) (l:List (List Nat)) (b:List (Option (dG α))) (o:List Bool) (hm:P.follows .mixedOrders=true)
  (q:GN g.toArray n a.tmps.size (fun i=>l.getD i []) (fun i=>o.getD i false) fl kD tail=true) (r:b.map (·.isSome)=o)
  (hQ: ∀c a d v w,Q (.panic c) (Act.put a d v) w->Q (.panic c) a w)
  (h:Can P g.toArray (fun a W=>dA P g.toArray Q (fun _=>True) (fA g tail) a W) w (fun i=>l.getD i []) (fun i=>b.getD i none) (g.take n) 0 [] a):(Code.region id g.toArray true).wp P Q a w:=by
 have e:(fun i=>(b.map (·.map dG.i)).getD i none)=fun i=>(b.getD i none).map dG.i:=by
  funext i;simp only[List.getD_eq_getElem?_getD,List.getElem?_map];cases b[i]?<;>rfl
 have hA: ∀i A,(b.map (·.map dG.i)).getD i none=some A->∃B:dG α,A=B.i:=fun i A h=>by
  rw[show(b.map (·.map dG.i)).getD i none=(b.getD i none).map dG.i from congrFun e i] at h;cases p:b.getD i none with
  |none=>rw[p] at h;cases h
  |some B=>rw[p] at h;exact⟨B,(Option.some.inj h).symm⟩
 refine PI.dw (fun _=>False) n fl kD tail l (b.map (·.map dG.i)) o hm q (by rw[<-r,List.map_map];refine List.map_congr_left fun x _=>?_;cases x<;>rfl) hQ ⟨fun i A j B h _ _ k hk=>?_,fun i A h k hk=>?_⟩ (fun i A h=>?_) (by rw[e];exact h)
 .obtain ⟨B,rfl⟩:=hA i A h;exact hk.elim
 .obtain ⟨B,rfl⟩:=hA i A h;exact hk
 .obtain ⟨B,rfl⟩:=hA i A h;trivial
theorem o8 {o:Oper} {r:List Oper} {i:Nat} {G:List qH} {a:Act} (ha:aI i=none)
  (h: ∀K:Act->Prop,(∀a,Can P ops Qt w0 dp aI r (i+1) G a->K a)->if Region.wanted o (yielded ops a.tmps) then ∃v,(∀W,Ext w0 W->(∀g∈G,g.1∈dp i->g.2.2 W)->(execOp a.eval o).run P W= .ok (.value v) W)/\K (a.put o.dst v) else K (a.put o.dst undef)):
  Can P ops Qt w0 dp aI (o::r) i G a:=PI.o8 (by simp only[ha];rfl) h
theorem aQ {o:Oper} {r:List Oper} {i:Nat} {G:List qH} {a:Act} (A:dG α) (ha:aI i=some A) (hw:Region.wanted o (yielded ops a.tmps)=true)
  (h1: ∀W,Ext w0 W->(∀g∈G,g.1∈dp i->g.2.2 W)->∀K:Act->World->Prop,(∀x W',Ext W W'->A.R x W'->(∀k,A.f x k->W.heap.size<=k)->K (a.put o.dst (A.val x)) W')->o.wp P a W K (fun _ _ _=>False))
  (b: ∀K:Act->Prop,∀x,(∀a,Can P ops Qt w0 dp aI r (i+1) (G++[(i,A.f x,A.R x)]) a->K a)->K (a.put o.dst (A.val x))):
  Can P ops Qt w0 dp aI (o::r) i G a:=PI.aQ A.i (by simp only[ha];rfl) hw (fun W hW c _ K hK=>h1 W hW c K hK) b
theorem jg {i:Nat} {G:List qH} {a:Act} (h: ∀W,Ext w0 W->(∀g∈G,g.2.2 W)->vH G->Qt a W):Can P ops Qt w0 dp aI [] i G a:=PI.jg h
theorem bf {o:Oper} {r:List Oper} {i:Nat} {G:List qH} {a:Act} (ha:aI i=none)
  (h: ∀K:Act->Prop,(∀a,Can P ops Qt w0 dp aI r (i+1) G a->K a)->if Region.wanted o (yielded ops a.tmps) then ∃v,(∀x:XW w0,(execOp a.eval o).run P x.val= .ok (.value v) x.val)/\K (a.put o.dst v) else K (a.put o.dst undef)):
  Can P ops Qt w0 dp aI (o::r) i G a:=by
 refine o8 ha fun K hK=>?_;have b:=h K hK;by_cases hw:Region.wanted o (yielded ops a.tmps)=true
 .rw [if_pos hw] at b⊢;obtain⟨v,hv,c⟩:=b;exact⟨v,fun W hW _=>hv ⟨W,hW⟩,c⟩
 .rw [if_neg hw] at b⊢;exact b
end
end
end Go.Hw.PG
namespace Go.Hw
open Go.RowKit
section
section
variable {P:Program} (w:World)
theorem zA {o:Oper} {a:Act} {K:Act->World->Prop} {Q:Exit->Act->World->Prop} (s x:Operand) (t:TypeId)
  (ho:o.op= .call {callee:= .builtin .append,args:= #[s,x],argTypes:= #[t,t]})
  (e:TypeId) (i:TypeInfo) (z:Value) (bytes:Nat) (A:P.underlying t=some (.slice e)) (hi:P.info? e=some i) (B:i.zero=some z)
  (d:i.size=1) (p:i.bytes=bytes) (S:Nat->Prop)
  (q:Option Addr) (n:Nat) (xs:List Value) (hs:a.eval s= .slice q n n) (hold:aB S w 1 (.slice q n n) n xs)
  (g c:Nat) (u:Value) (hx:a.eval x= .slice (az g) 1 c) (hu:w.cell? ⟨g,0,none⟩=some u)
  (H:n+1<=maxLen) (F:(n+1)*bytes<=140737488355328)
  (h: ∀C w',Ext w w'->w.heap.size<w'.heap.size->aB (fun k=>k=w.heap.size) w' 1 (.slice (az w.heap.size) (n+1) C) (n+1) (xs++[u])->K (a.put o.dst (.slice (az w.heap.size) (n+1) C)) w'):o.wp P a w K Q:=by
 have b:xs.length=n:=by have:=hold.1;omega
 have l: ∀j v,[u][j]?=some v->w.cell? ((⟨g,0,none⟩:Addr).add j)=some v:=by
  intro j v hv;match j,hv with
  |0,hv=>simp only[List.getElem?_cons_zero,Option.some.injEq] at hv;subst hv;exact hu
 have G:(Builtin.append_ #[t,t] o.type #[.slice q n n,.slice (az g) 1 c]).run P w=
   .ok (.slice (az w.heap.size) (n+1) (grownCap w (n+1) n e)) (w.drew.alloc (.cells (xs.toArray++[u].toArray++Builtin.zeroCells z.cells (grownCap w (n+1) n e- (n+1))) e)):=by
  rcases hold.2 with⟨hv,hm⟩|⟨ad,cap,hv,hc,I,D⟩
  .injection hv with h1 M E
   subst h1;subst hm;have hn:xs=[]:=List.eq_nil_of_length_eq_zero b;subst hn;have:=run_append_nil (P:=P) w t o.type e i z A hi B ⟨g,0,none⟩ 1 c [u] (by simp[d]) l (by omega) (by omega) (by subst p;omega);simpa using this
  .injection hv with h1 M E
   subst h1;subst E;refine run_append_grow (P:=P) w t o.type e i z A hi B ad n n xs (by rw[b,d];omega) (fun j v r=>?_) ⟨g,0,none⟩ 1 c [u] (by simp[d]) l (by omega) (by simp only[maxLen] at H;omega) (growslice_fits (by omega) (by subst p;exact F));have O:j<n:=by rw[<-b];exact(List.getElem?_eq_some_iff.1 r).1
   rw[<-r,<-D j (by omega)];obtain⟨R,off,spot⟩:=ad;have y:=(I (by omega)).1;simp only at y;subst y;congr 1;unfold Addr.add;split
   .rename_i h0;simp[h0]
   .rfl
 unfold Oper.wp execOp;simp only[ho,resolve,invoke,builtin,Sem.run_bind,Sem.run_pure,Result.andThen_ok,List.map_toArray,List.map_cons,List.map_nil,hs,hx,G];have N:Ext w (w.drew.alloc (.cells (xs.toArray++[u].toArray++Builtin.zeroCells z.cells (grownCap w (n+1) n e- (n+1))) e)):=((uR w).drew).alloc _;refine h _ _ N (by show w.heap.size< (w.heap.push _).size;simp) ⟨by rw[List.length_append,b];simp,.inr ⟨_,_,rfl,?_,fun _=>⟨rfl,rfl⟩,fun j D=>?_⟩⟩
 .exact grownCap_ge ..
 .have hb:=aj w.drew (.cells (xs.toArray++[u].toArray++Builtin.zeroCells z.cells (grownCap w (n+1) n e- (n+1))) e);have J:=cell_of_row _ _ j _ _ _ hb;rw[Nat.zero_add];refine J.trans ?_;have L:j< (xs.toArray++[u].toArray).size:=by simp[b];omega
  rw[Array.getElem?_append_left L];simp
theorem aB.clip {S:Nat->Prop} {w:World} {q:Option Addr} {n c size:Nat} {xs:List Value} (h:aB S w size (.slice q n c) n xs):aB S w size (.slice q n n) n xs/\n<=c/\(q=none->n=0/\c=0):=by
 obtain⟨h1,⟨hv,hm⟩|⟨ad,cap,hv,hc,g,i⟩⟩:=h
 .injection hv with a d b
  subst a;subst d;subst b;exact⟨⟨h1,.inl ⟨rfl,rfl⟩⟩,Nat.le_refl _,fun _=>⟨rfl,rfl⟩⟩
 .injection hv with a d b
  subst a;subst b;exact⟨⟨h1,.inr ⟨ad,n,rfl,Nat.le_refl _,g,i⟩⟩,hc,fun e=>by cases e⟩
end
end
section
open Tm
abbrev Rx:=Int×List Int
abbrev xg (l:List Rx) (i:Nat):Rx:=l.getD i (0,[])
def Le:List Rx->List Value->List Value
 |[],_=>[]
 |x::l,us=> .int .i64 x.1::us.headD rW::Le l us.tail
abbrev tC (S:Nat->Prop) (w:World) (u:Value) (p:List Int):Prop:=aB S w 1 u p.length (p.map (Value.int .i64))
def Cc (R S:Nat->Prop) (w:World) (v:Value) (l:List Rx):Prop:= ∃us,us.length=l.length/\aB R w 2 v l.length (Le l us)/\∀i,i<l.length->tC S w (ug us i) (xg l i).2
section
variable {R S T Q F:Nat->Prop} {w w':World} {l:List Rx} {v:Value}
theorem Cc.nil (R S:Nat->Prop) (w:World):Cc R S w rW []:=⟨[],rfl,aB.nil _ _ _,fun i h=>by cases h⟩
theorem Cc.shape (h:Cc R S w v l): ∃a cap,v= .slice a l.length cap:=by
 obtain⟨us,_,h,_⟩:=h;exact h.shape
theorem Cc.weaken (h:Cc R S w v l) (hr: ∀k,R k->Q k) (hs: ∀k,S k->T k):Cc Q T w v l:=by
 obtain⟨us,h1,a,b⟩:=h;exact⟨us,h1,a.weaken hr,fun i hi=>(b i hi).weaken hs⟩
end
abbrev Xe:=Rx×Option Addr×Nat
abbrev FZ (x:Xe):Value:= .slice x.2.1 x.1.2.length x.2.2
abbrev vY (x:Xe):List Value:=[.int .i64 x.1.1,FZ x]
theorem Ti: ∀L:List Xe,Le (L.map (·.1)) (L.map FZ)=L.flatMap vY
 |[]=>rfl
 |x::L=>by rw[List.map_cons,List.map_cons,List.flatMap_cons];simp only[Le,List.headD_cons,List.tail_cons,Ti L,vY,List.cons_append,List.nil_append]
theorem akx {R S:Nat->Prop} {w:World} {v:Value} {L:List Xe} (h:aB R w 2 v L.length (L.flatMap vY)) (hk: ∀y∈L,tC S w (FZ y) y.1.2):Cc R S w v (L.map (·.1)):=by
 refine⟨L.map FZ,by simp,by rw[Ti,List.length_map];exact h,fun i hi=>?_⟩;have a:i<L.length:=by simpa using hi
 have b:xg (L.map (·.1)) i=(L[i]).1:=by
  unfold xg;rw[List.getD_eq_getElem?_getD,List.getElem?_map,List.getElem?_eq_getElem a];rfl
 have c:ug (L.map FZ) i=FZ L[i]:=by
  unfold ug;rw[List.getD_eq_getElem?_getD,List.getElem?_map,List.getElem?_eq_getElem a];rfl
 rw[b,c];exact hk _ (List.getElem_mem a)
structure Eb (te:TypeId) (n0:Nat) (w:World) (v:Value) (L:List Xe):Prop where
 own:w.ownsRow n0 te 2 v L.length (L.flatMap vY)
 tl: ∀x∈L,∃Bx:Nat->Prop,tC Bx w (FZ x) x.1.2/\∀j,Bx j->n0<=j/\j<w.heap.size/\v.ownBlock≠some j
theorem Eb.start (te:TypeId) (n0:Nat) (w:World):Eb te n0 w (.slice none 0 0) []:=⟨⟨rfl,.inl ⟨rfl,rfl⟩⟩,fun x hx=>by cases hx⟩
theorem Eb.kept {te:TypeId} {n0:Nat} {w w':World} {v:Value} {L:List Xe} {F:Nat->Prop} (h:Eb te n0 w v L) (hu:au F w w') (hF: ∀j,n0<=j->j<w.heap.size->¬F j):Eb te n0 w' v L:=
 ⟨bM h.own hu (fun j a=>hF j (h.own.lt j a).1 (h.own.lt j a).2),fun x hx=>by
  obtain⟨Bx,h1,b⟩:=h.tl x hx;exact⟨Bx,h1.kept hu (fun j a=>hF j (b j a).1 (b j a).2.1),fun j a=>⟨(b j a).1,aP (b j a).2.1 hu.size,(b j a).2.2⟩⟩⟩
theorem Eb.grow {te:TypeId} {n0:Nat} {w b n i:World} {v v':Value} {L:List Xe} {x:Xe} {Bx F:Nat->Prop} (h:Eb te n0 w v L) (hn:n0<=w.heap.size) (p:Ext w b) (t:tC Bx b (FZ x) x.1.2) (c: ∀j,Bx j->w.heap.size<=j/\j<b.heap.size)
  (hA:au F b n) (hF: ∀j,F j->j<n0)
  (k:Grew n0 te 2 v (L.length+1) (L.flatMap vY++vY x) n i v'):Eb te n0 i v' (L++[x]):=by
 have g:au (fun j=>F j\/v.ownBlock=some j) b i:=(hA.mono (fun _ _ x=> .inl x)).trans (k.upd.mono (fun _ _ x=> .inr x));have o: ∀j,v'.ownBlock=some j->v.ownBlock=some j\/b.heap.size<=j:=fun j e=>by
  rcases k.xK with h|h
  .rw [h] at e;exact .inl e
  .rw [h] at e;injection e with e;exact .inr (by have:=hA.size;omega)
 have q:=p.size;refine⟨?_,fun y hy=>?_⟩
 .have ho:=k.own;rw[List.length_append,List.flatMap_append];simpa using ho
 .rcases List.mem_append.1 hy with hy|hy
  .obtain ⟨r,h1,d⟩:=h.tl y hy;refine⟨r,((h1.kept p (fun _ _ x=>x)).kept g (fun j a e=>?_)),fun j a=>⟨(d j a).1,aP (aP (d j a).2.1 q) g.size,fun e=>?_⟩⟩
   .rcases e with e|e
    .have:=hF j e;have:=(d j a).1;omega
    .exact (d j a).2.2 e
   .rcases o j e with e|e
    .exact (d j a).2.2 e
    .have:=(d j a).2.1;omega
  .rw [List.mem_singleton] at hy;subst hy;refine⟨Bx,t.kept g (fun j a e=>?_),fun j a=>⟨Nat.le_trans hn (c j a).1,aP (c j a).2 g.size,fun e=>?_⟩⟩
   .rcases e with e|e
    .have:=hF j e;have:=(c j a).1;omega
    .have u:=(h.own.lt j e).2;have z:=(c j a).1;omega
   .rcases o j e with e|e
    .have u:=(h.own.lt j e).2;have z:=(c j a).1;omega
    .have:=(c j a).2;omega
theorem Eb.rx {te:TypeId} {n0:Nat} {w:World} {v:Value} {L:List Xe} (h:Eb te n0 w v L):Cc (fun k=>n0<=k/\k<w.heap.size) (fun k=>n0<=k/\k<w.heap.size) w v (L.map (·.1)):=
 akx ((aB.gG h.own).weaken (fun k hk=>h.own.lt k hk)) (fun y hy=>by
  obtain⟨Bx,h1,a⟩:=h.tl y hy;exact h1.weaken (fun j b=>⟨(a j b).1,(a j b).2.1⟩))
end
section
open Tm
section
variable {nm:By->Bool}
theorem CW {t:Tm} {f:Vd} (h:f∈dL t): ∃x∈bu t,x.name=f.1/\x.sort=f.2:=by
 unfold dL vl at h;rw[List.mem_filterMap] at h;obtain⟨x,hx,e⟩:=h;by_cases hs:x.sort=ai
 .rw [if_pos hs] at e;cases e
 .rw [if_neg hs] at e;injection e with e
  exact⟨x,hx,by rw[<-e],by rw[<-e]⟩
theorem U6 (t:Tm):(dL t).length<=t.size:=by
 have h1:(dL t).length<=(bu t).length:=List.length_filterMap_le _ _;have c:(bu t).length=t.size:=by rw[bu,List.length_map,lH]
 omega
variable {X:List Vd} {a b:Tm} {θ:Su}
end
end
section
open Tm
theorem Zp (N:Nat): ∀(p t:Tm) (σ c:Sb),lq p t σ=some c->t.size<=N->(∀n x,σ n=some x->x.size<=N)->∀n x,c n=some x->x.size<=N:=by
 refine Tm.ind (fun n s L k=>?_);intro t σ c h l d;by_cases hs:s=ai
 .subst hs;by_cases hc:t.sort=ai/\t.name=n/\t.kids.length=L.length
  .rw [LK hc] at h;have key: ∀(L M:List Tm),(∀x∈L,∀(t:Tm) (σ c:Sb),lq x t σ=some c->t.size<=N->(∀n x,σ n=some x->x.size<=N)->∀n x,c n=some x->x.size<=N)->(∀x∈M,x.size<=N)->∀σ c,o6 L M σ=some c->(∀n x,σ n=some x->x.size<=N)->∀n x,c n=some x->x.size<=N:=by
    intro L
    induction L with
    |nil=>
     intro M _ _ σ c h d;unfold o6 at h;injection h with h
     subst h;exact d
    |cons a L j=>
     intro M hx g σ c h d;cases M with
     |nil=>unfold o6 at h;cases h
     |cons b M=>
      unfold o6 at h;cases hm:lq a b σ with
      |none=>rw[hm] at h;cases h
      |some i=>
       rw[hm] at h;exact j M (fun x e=>hx x (List.mem_cons_of_mem _ e)) (fun x e=>g x (List.mem_cons_of_mem _ e)) i c h (hx a (List.mem_cons_self ..) b σ i hm (g b (List.mem_cons_self ..)) d)
   exact key L t.kids k (fun x hx=>by have:=ui hx;omega) σ c h d
  .rw [BD hc] at h;cases h
 .cases hx:σ n with
  |some x=>
   rw[EM hs hx] at h;split at h
   .injection h with h
    subst h;exact d
   .cases h
  |none=>
   rw[Cj hs hx] at h;split at h
   .cases h
   .injection h with h
    subst h;intro m x hm;have hm:(if m=n then some t else σ m)=some x:=hm;split at hm
    .injection hm with hm
     subst hm;exact l
    .exact d m x hm
theorem abM (N:Nat) (h1:1<=N) (σ:Sb) (c: ∀n x,σ n=some x->x.size<=N): ∀t:Tm,(lu σ t).size<=t.size*N:=by
 refine Tm.ind (fun n s L d=>?_);by_cases hs:s=ai
 .subst hs;rw[Ug];have key: ∀M:List Tm,(∀x∈M,(lu σ x).size<=x.size*N)->sizes (M.map (lu σ))<=sizes M*N:=by
   intro M
   induction M with
   |nil=>intro _;simp[sizes]
   |cons a M e=>
    intro h;have g1:=h a (List.mem_cons_self ..);have g2:=e (fun x hx=>h x (List.mem_cons_of_mem _ hx));simp only[List.map_cons,sizes,Nat.add_mul];omega
  have i:=key L d;have g:(Tm.mk n ai (L.map (lu σ))).size=sizes (L.map (lu σ))+1:=rfl;have b:(Tm.mk n ai L).size=sizes L+1:=rfl;rw[g,b,Nat.add_mul];omega
 .rw [P_ σ hs];have b:(Tm.mk n s L).size=sizes L+1:=rfl;rw[b,Nat.add_mul,Nat.one_mul];cases h:σ n with
  |none=>
   have:((none:Option Tm).getD default).size=1:=rfl;omega
  |some x=>
   have:=c n x h;rw[Option.getD_some];omega
theorem abN {r:Rl} {t u:Tm} (h:qm r t=some u):u.size<=r.2.size*t.size:=by
 unfold qm at h;cases hm:lq r.1 t sb0 with
 |none=>rw[hm] at h;cases h
 |some σ=>
  rw[hm] at h;injection h with h
  subst h;exact abM t.size (size_pos t) σ (Zp t.size r.1 t sb0 σ hm (Nat.le_refl _) (fun n x h=>by cases h)) r.2
theorem Dl: ∀(p:List Nat) (t:Tm),rM t p->(wZ t p).size<=t.size
 |[],t,_=>Nat.le_refl _
 |i::p,t,h=>by
  have h1:=Dl p _ h.2;have a:(tg t.kids i).size<t.size:=ui (by unfold tg;rw[List.getD_eq_getElem?_getD,List.getElem?_eq_getElem h.1];exact List.getElem_mem h.1);show(wZ (tg t.kids i) p).size<=_;omega
theorem Pg {l:List Rl} {t:Tm} {i:Nat} {p:List Nat} {u:Tm} {N:Nat} (h:jk l t=some (i,p,u)) (hl: ∀r∈l,r.2.size<=N):u.size<=N*t.size:=by
 obtain⟨h1,a,b⟩:=yP l t i p u h;have c:=abN b;have d:=hl _ (nZ a);have e:=Dl p t h1;exact Nat.le_trans c (Nat.mul_le_mul d e)
theorem Bi: ∀(p:List Nat) (t:Tm),rM t p->p.length<t.size
 |[],t,_=>size_pos t
 |i::p,t,h=>by
  have h1:=Bi p _ h.2;have a:(tg t.kids i).size<t.size:=ui (by unfold tg;rw[List.getD_eq_getElem?_getD,List.getElem?_eq_getElem h.1];exact List.getElem_mem h.1);simp only[List.length_cons];omega
theorem abO {B:List Bd} {n s:By} {t:Tm} (h:bK B n=none):bK (B++[(n,s,t)])=Sb.put (bK B) n t:=by
 funext m;rw[Gz];unfold Sb.put;by_cases e:m=n
 .subst e;rw[h];simp
 .rw [if_neg e,if_neg (fun a=>e a.symm)];cases bK B m<;>rfl
theorem aky {X:List Vd} (r:Cons X): ∀(p t:Tm) (B:List Bd),u_ p->(∀f∈dL p,f∈X)->rQ X (fun _=>True) B->lq p t (bK B)=(kJ p t B).map bK:=by
 refine Tm.ind (fun n s L u=>?_);intro t B hp hv c;by_cases hs:s=ai
 .subst hs;by_cases hc:t.sort=ai/\t.name=n/\t.kids.length=L.length
  .rw [LK hc,QP hc];have key: ∀(L M:List Tm),(∀x∈L,∀(t:Tm) (B:List Bd),u_ x->(∀f∈dL x,f∈X)->rQ X (fun _=>True) B->lq x t (bK B)=(kJ x t B).map bK)->M.length=L.length->(∀x∈L,u_ x)->(∀x∈L,∀f∈dL x,f∈X)->∀B,rQ X (fun _=>True) B->o6 L M (bK B)=(sG L M B).map bK:=by
    intro L
    induction L with
    |nil=>intro M _ _ _ _ B _;unfold o6 sG;rfl
    |cons a L o=>
     intro M hx hl hn i B c;match M,hl with
     |b::M,hl=>
      unfold o6 sG;rw[hx a (List.mem_cons_self ..) b B (hn a (List.mem_cons_self ..)) (i a (List.mem_cons_self ..)) c];cases hm:kJ a b B with
      |none=>rfl
      |some E=>
       have h1:=(BU (X:=X) (Y:=fun _=>True) (fun _ _ _ _=>trivial) a b B E hm (hn a (List.mem_cons_self ..)) (i a (List.mem_cons_self ..)) trivial c).1;exact o M (fun x g=>hx x (List.mem_cons_of_mem _ g)) (by simpa using hl) (fun x g=>hn x (List.mem_cons_of_mem _ g)) (fun x g=>i x (List.mem_cons_of_mem _ g)) E h1
   exact key L t.kids u hc.2.2 (fun x hx=>hp.kid hx) (fun x hx f hf=>hv f (by rw[vU];exact List.mem_flatMap.2 ⟨x,hx,hf⟩)) B c
  .rw [BD hc,FM hc];rfl
 .have q:=hv _ (nK hs L);cases d:bK B n with
  |some x=>
   rw[EM hs d];obtain⟨b,hb,h1,j⟩:=uO d;have l:x.sort≠ai->x.sort=s:=fun h=>by
    have k:=c.srt b hb (by rw[j];exact h);have w:=r _ (c.inX b hb) _ q h1;rw[j] at k;rw[k];exact w
   by_cases hc:t.sort≠ai/\t.sort≠s
   .rw [CU hs hc];have: ¬x=t:=fun e=>by
     have:=l (by rw[e];exact hc.1);rw[e] at this;exact hc.2 this
    rw[if_neg this];rfl
   .rw [CS hs hc d];by_cases e:x=t
    .rw [if_pos e,if_pos e];rfl
    .rw [if_neg e,if_neg e];rfl
  |none=>
   have hm:lq (.mk n s L) t (bK B)=if t.sort≠ai/\t.sort≠s then none else some (Sb.put (bK B) n t):=by
    unfold lq;rw[if_neg hs,d]
   rw[hm];by_cases hc:t.sort≠ai/\t.sort≠s
   .rw [CU hs hc,if_pos hc];rfl
   .rw [GU hs hc d,if_neg hc,Option.map_some,abO d]
theorem abP:bK []=sb0:=by funext n;rfl
theorem YI {nm:By->Bool} {r:Rl} {t:Tm} (h1:wf nm r.1=true) (hv: ∀f∈dL r.2,f∈dL r.1):qm r t=(kJ r.1 t []).map fun B=>bJ B r.2:=by
 unfold qm;have a:=aky (oH.1 h1).2.2.2 r.1 t [] (Vs h1) (fun f hf=>hf) (rQ.nil _ _);rw[abP] at a;rw[a];cases hm:kJ r.1 t [] with
 |none=>rfl
 |some B=>
  have b:=(BU (X:=dL r.1) (Y:=fun _=>True) (fun _ _ _ _=>trivial) r.1 t [] B hm (Vs h1) (fun f hf=>hf) trivial (rQ.nil _ _)).2.2.1;simp only[Option.map_some];congr 1;unfold lu bJ;refine Zq r.2 (fun f hf=>?_);obtain⟨x,hx⟩:=b f (hv f hf);show(bK B f.1).getD default=(bK B f.1).getD (vr f.1 f.2);rw[hx];rfl
theorem OV (t u:Tm):putAt t [] u=u:=by cases t;rfl
theorem Lj (n s:By) (L:List Tm) (i:Nat) (p:List Nat) (u:Tm):putAt (.mk n s L) (i::p) u= .mk n s (L.set i (putAt (tg L i) p u)):=rfl
theorem MZ {L:List Tm} {i:Nat} (h:i<L.length):tg L i∈L:=by unfold tg;rw[gZ h];exact List.getElem_mem h
theorem U2 {x y:Tm} (h:x∈bu y) {f:Vd} (hf:f∈dL x):f∈dL y:=by
 obtain⟨z,c,h1,a⟩:=CW hf;have hs:=Kr hf;have b:=Xc h c;unfold dL vl;refine List.mem_filterMap.2 ⟨z,b,?_⟩;rw[if_neg (by rw[a];exact hs),h1,a]
theorem Ap (u:Tm): ∀(p:List Nat) (t:Tm),rM t p->∀f∈dL (putAt t p u),f∈dL t\/f∈dL u
 |[],t,_,f,hf=>by rw[OV] at hf;exact .inr hf
 |i::p,.mk n s L,h,f,hf=>by
  rw[Lj] at hf;by_cases hs:s=ai
  .subst hs;rw[vU] at hf⊢;obtain⟨x,hx,hf⟩:=List.mem_flatMap.1 hf;rcases List.mem_or_eq_of_mem_set hx with hx|hx
   .exact .inl (List.mem_flatMap.2 ⟨x,hx,hf⟩)
   .subst hx;rcases Ap u p _ h.2 f hf with a|a
    .exact .inl (List.mem_flatMap.2 ⟨_,MZ h.1,a⟩)
    .exact .inr a
  .obtain ⟨x,hx,h1,a⟩:=CW hf;rw[lS,List.mem_cons] at hx;rcases hx with hx|hx
   .subst hx;have:f=(n,s):=Prod.ext h1.symm a.symm;rw[this];exact .inl (nK hs L)
   .obtain ⟨y,hy,d⟩:=List.mem_flatMap.1 hx;have c:f∈dL y:=by
     have g:f∈dL x:=by
      obtain⟨m,r,K⟩:=x;simp only[Tm.name,Tm.sort] at h1 a;have:f=(m,r):=Prod.ext h1.symm a.symm;rw[this];refine nK (fun e=>Kr hf ?_) K;rw[<-a,e]
     exact U2 d g
    rcases List.mem_or_eq_of_mem_set hy with hy|hy
    .exact .inl (BR (t:= .mk n s L) hy c)
    .subst hy;rcases Ap u p _ h.2 f c with b|b
     .exact .inl (BR (t:= .mk n s L) (MZ h.1) b)
     .exact .inr b
theorem RD: ∀(p:List Nat) (t:Tm),rM t p->∀f∈dL (wZ t p),f∈dL t
 |[],t,_,f,hf=>hf
 |i::p,.mk n s L,h,f,hf=>BR (t:= .mk n s L) (MZ h.1) (RD p _ h.2 f hf)
theorem Oh (u:Tm): ∀(p:List Nat) (t:Tm),rM t p->u.size<=(putAt t p u).size/\u.depth<=(putAt t p u).depth
 |[],t,_=>by rw[OV];exact⟨Nat.le_refl _,Nat.le_refl _⟩
 |i::p,.mk n s L,h=>by
  rw[Lj];have h1:u.size<=(putAt (tg L i) p u).size/\u.depth<=(putAt (tg L i) p u).depth:=Oh u p _ h.2;have hm:putAt (tg L i) p u∈L.set i (putAt (tg L i) p u):=List.mem_set (l:=L) h.1 _;have c:=gQ hm;have d:=OQ hm;have a:=size_eq (.mk n s (L.set i (putAt (tg L i) p u)));have b:=lg (.mk n s (L.set i (putAt (tg L i) p u)));simp only[Tm.kids] at a b;omega
def Ze (g:Sg) (n:By):Option Dc:=g.2.find? fun o=>decide (o.1=n)
def MV (g:Sg) (t:Tm):By:=if t.sort≠ai then t.sort else match Ze g t.name with
 |some o=>o.2.2
 |none=>ai
def Jq (g:Sg):List Tm->List By->Bool
 |[],_=>true
 |_::_,[]=>true
 |x::L,a::zs=>(decide (MV g x=ai)||decide (MV g x=a))&&Jq g L zs
def Lh (g:Sg) (t:Tm):Int:=if t.sort≠ai then(if t.sort∈g.1 then 0 else 9) else match Ze g t.name with
 |none=>9
 |some o=>if t.kids.length≠o.2.1.length then 3 else if Jq g t.kids o.2.1=true then 0 else 11
def kV (g:Sg):List Tm->Int
 |[]=>0
 |x::l=>if Lh g x≠0 then Lh g x else kV g l
def Jr (g:Sg) (t:Tm):Int:=kV g (bu t)
theorem Tj {g:Sg}: ∀{L:List Tm} {zs:List By},L.length=zs.length->(Jq g L zs=true<->∀i,i<L.length->MV g (tg L i)=ai\/MV g (tg L i)=zs.getD i ai)
 |[],zs,_=>by simp[Jq]
 |x::L,[],h=>by cases h
 |x::L,a::zs,h=>by
  unfold Jq;rw[Bool.and_eq_true,Bool.or_eq_true,decide_eq_true_eq,decide_eq_true_eq,Tj (L:=L) (zs:=zs) (by simpa using h)];constructor
  .rintro ⟨h1,b⟩ i hi;match i,hi with
   |0,_=>exact h1
   |i+1,hi=>exact b i (by simpa using hi)
  .intro h1;exact⟨h1 0 (by simp),fun i hi=>h1 (i+1) (by simpa using hi)⟩
def O8 (g:Sg):Prop:= ∀o∈g.2,o.2.2≠ai
theorem Zf (g:Sg) (n:By):Ze g n=if cO g.2 n<g.2.length then some (dg g.2 (cO g.2 n)) else none:=by
 unfold Ze cO;generalize g.2=l
 induction l with
 |nil=>rfl
 |cons a l c=>
  rw[List.find?_cons,List.findIdx_cons];by_cases h:a.1=n
  .rw [dT h];simp[dg]
  .rw [dF h];simp only[cond_false,Bool.false_eq_true,if_false];rw[c];by_cases b:(l.findIdx fun d=>decide (d.1=n))<l.length
   .rw [if_pos b,if_pos (by simpa using b)];rfl
   .rw [if_neg b,if_neg (by simpa using b)]
theorem Zg (g:Sg) (t:Tm):MV g t=fZ g t:=by
 unfold MV fZ;rw[Zf];by_cases h:t.sort≠ai
 .rw [if_pos h,if_pos h]
 .rw [if_neg h,if_neg h];by_cases a:cO g.2 t.name<g.2.length
  .rw [if_pos a,if_pos a]
  .rw [if_neg a,if_neg a]
theorem aeS (g:Sg) {L:List Tm} {A:List By} (h:L.length=A.length):Jq g L A=!ou g L A:=by
 rw[Bool.eq_iff_iff,Tj h,Bool.not_eq_true',ou,List.any_eq_false];constructor
 .intro h1 k hk;have:=h1 k (List.mem_range.1 hk);rw[Zg] at this;rcases this with a|a
  .rw [dT a];simp
  .rw [dT a];simp
 .intro h1 k hk;have:=h1 k (List.mem_range.2 hk);rw[Zg];by_cases a:fZ g (tg L k)=ai
  .exact .inl a
  .by_cases b:fZ g (tg L k)=A.getD k ai
   .exact .inr b
   .rw [dF a,dF b] at this;exact absurd rfl this
theorem adD (g:Sg) (n s:By) (L:List Tm):Lh g (.mk n s L)=if s≠ai then(if s∈g.1 then 0 else 9) else if ¬cO g.2 n<g.2.length then 9 else if L.length≠(dg g.2 (cO g.2 n)).2.1.length then 3 else if ou g L (dg g.2 (cO g.2 n)).2.1=true then 11 else 0:=by
 change(if s≠ai then(if s∈g.1 then(0:Int) else 9) else match Ze g n with|none=>9|some o=>if L.length≠o.2.1.length then 3 else if Jq g L o.2.1=true then 0 else 11)=_;by_cases h:s≠ai
 .rw [if_pos h,if_pos h]
 .rw [if_neg h,if_neg h,Zf];by_cases b:cO g.2 n<g.2.length
  .rw [if_pos b,if_neg (by simpa using b)];dsimp only;by_cases a:L.length≠(dg g.2 (cO g.2 n)).2.1.length
   .rw [if_pos a,if_pos a]
   .rw [if_neg a,if_neg a,aeS g (Classical.not_not.1 a)];cases ou g L (dg g.2 (cO g.2 n)).2.1<;>simp
  .rw [if_neg b,if_pos b]
theorem Js (g:Sg) (a b:List Tm):kV g (a++b)=if kV g a≠0 then kV g a else kV g b:=by
 induction a with
 |nil=>simp[kV]
 |cons x a c=>
  rw[List.cons_append,kV,kV];by_cases h:Lh g x≠0
  .rw [if_pos h,if_pos h,if_pos h]
  .rw [if_neg h,if_neg h,c]
theorem ajT (g:Sg): ∀t:Tm,u_ t->Jr g t=ed g t:=by
 refine Tm.ind (fun n s L e hn=>?_);unfold Jr;rw[lS,kV,Nv,adD];have i:kV g ((Tm.mk n s L).kids.flatMap bu)=jf g L:=by
  have key: ∀M:List Tm,(∀x∈M,Jr g x=ed g x)->kV g (M.flatMap bu)=jf g M:=by
   intro M
   induction M with
   |nil=>intro _;simp[kV,jf]
   |cons a M j=>
    intro h;rw[List.flatMap_cons,Js,jf,j (fun x hx=>h x (List.mem_cons_of_mem _ hx))];have:=h a (List.mem_cons_self ..);unfold Jr at this;rw[this]
  exact key L (fun x hx=>e x hx (hn.kid (t:= .mk n s L) hx))
 rw[i];by_cases h1:s≠ai
 .have k:L=[]:=hn (.mk n s L) (jo _) h1;subst k;rw[if_pos h1,if_pos h1];by_cases b:s∈g.1
  .rw [if_pos b];simp[jf]
  .rw [if_neg b];simp
 rw[if_neg h1,if_neg h1];by_cases b: ¬cO g.2 n<g.2.length
 .rw [if_pos b,if_pos b];simp
 rw[if_neg b,if_neg b];by_cases c:L.length≠(dg g.2 (cO g.2 n)).2.1.length
 .rw [if_pos c,if_pos c];simp
 rw[if_neg c,if_neg c];by_cases d:ou g L (dg g.2 (cO g.2 n)).2.1=true
 .rw [if_pos d,if_pos d];simp
 .rw [if_neg d,if_neg d];simp
end
end Go.Hw
