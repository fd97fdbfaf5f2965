/- The texts L7 UX UW TAB TYB L8 TB UQ UR TYZ WA SG L9, one behind the other. -/
import Derived.Test.YtlkcjmaiahnodaaGreatDoorEAB
import Derived.Test.YtlkcjmaiahnodaaGreatDoorEAD
import Derived.Test.YtlkcjmaiahnodaaGreatDoorEAC
set_option linter.unusedVariables false
set_option linter.unusedSimpArgs false
namespace Go.Hw
open Go.RowKit Tm
theorem aG.tN {te:TypeId} {w:World} {B:Nat->Prop} {L:List Tm} {v:Value} (h:aG te w B L v) (hne:0<L.length): ∃(g cap:Nat) (us:Nat->Value) (Bk:Nat->Nat->Prop),v= .slice (some ⟨g,0,none⟩) L.length cap/\Plain w g/\B g/\
  (∀i,i<L.length->w.cell? ⟨g,i*3,none⟩=some (.string (tg L i).name)/\w.cell? ⟨g,i*3+1,none⟩=some (.string (tg L i).sort)/\w.cell? ⟨g,i*3+2,none⟩=some (us i))/\
  (∀i,i<L.length->aG te w (Bk i) (tg L i).kids (us i))/\(∀i k,i<L.length->Bk i k->B k/\k≠g)/\∀i j k,i<L.length->j<L.length->i≠j->Bk i k->¬Bk j k:=by
 cases h with
 |mk _ _ us _ Bk hl hown hb hkb hrow hdis hk=>
  have hS:=az.iV hown;obtain⟨g,off,cap,e,hc,hg,hj⟩:=hS.pos hne;rcases hown.2 with⟨_,h0⟩|⟨g',cap',cur,e',_,h3,_⟩
  .omega
  .have e2:=e.symm.trans e';injection e2 with e3 e4 e5
   injection e3 with e3
   injection e3 with e6 e7
   subst e6 e7;refine⟨g,cap,fun i=>ug us i,Bk,e,⟨_,_,h3⟩,hb g (by rw[e];rfl),fun i hi=>?_,hk,fun i k hi hk2=>⟨hkb i k hi hk2,fun e8=>hrow i k hi hk2 (by rw[e,e8];rfl)⟩,hdis⟩;obtain⟨h0,h1,h2⟩:=yT L us i hi;have j0:=hj (i*3) (by omega);have j1:=hj (i*3+1) (by omega);have j2:=hj (i*3+2) (by omega);rw[Nat.zero_add] at j0 j1 j2;exact⟨by rw[j0,h0],by rw[j1,h1],by rw[j2,h2]⟩
theorem Qe: ∀(t:Tm) (d N:Nat),(∀p∈bH d t,p.2<=N)<->d+t.depth<=N+1:=by
 refine Tm.ind (fun n s L ih=>?_);intro d N;rw[iw,xA];simp only[Tm.kids];have key: ∀(L:List Tm) (d:Nat),(∀x∈L,∀d N,(∀p∈bH d x,p.2<=N)<->d+x.depth<=N+1)->d<=N+1->((∀p∈bG d L,p.2<=N)<->d+depths L<=N+1):=by
  intro L
  induction L with
  |nil=>intro d _ hd;exact⟨fun _=>by simpa[depths] using hd,fun _ p hp=>by cases hp⟩
  |cons a L ihL=>
   intro d hx hd;have h1:=hx a (List.mem_cons_self ..) d N;have h2:=ihL d (fun x hx'=>hx x (List.mem_cons_of_mem _ hx')) hd;simp only[bG,depths];constructor
   .intro h;have g1:=h1.1 (fun p hp=>h p (List.mem_append_left _ hp));have g2:=h2.1 (fun p hp=>h p (List.mem_append_right _ hp));omega
   .intro h p hp;rcases List.mem_append.1 hp with hp|hp
    .exact h1.2 (by omega) p hp
    .exact h2.2 (by omega) p hp
 constructor
 .intro h;have h0:d<=N:=h _ (List.mem_cons_self ..);have:=(key L (d+1) ih (by omega)).1 (fun p hp=>h p (List.mem_cons_of_mem _ hp));omega
 .intro h p hp;rcases List.mem_cons.1 hp with e|hp
  .rw [e];show d<=N;omega
  .exact (key L (d+1) ih (by omega)).2 (by omega) p hp
def Qg (nm:By->Bool) (x:Tm):Prop:=nm x.name=true/\x.kids.length<=6/\(x.sort=ah\/nm x.sort=true/\x.kids=[])
theorem vM {nm:By->Bool} {t:Tm}:wf nm t=true<->t.size<=1000/\t.depth<=60/\(∀x∈aV t,Qg nm x)/\Cons (fD t):=by
 unfold wf;rw[Bool.and_eq_true,rW,U1];have hm: ∀P:Tm->Prop,(∀x∈aV t,P x)<->∀p∈bH 1 t,P p.1:=fun P=>by
  unfold aV;rw[mQ t 0 1];constructor
  .intro h p hp;exact h _ (List.mem_map_of_mem hp)
  .intro h x hx;obtain⟨p,hp,rfl⟩:=List.mem_map.1 hx;exact h p hp
 have hok: ∀p:Tm×Nat,j_ nm p=true<->p.2<=60/\Qg nm p.1:=fun p=>by
  unfold j_ Qg;simp only[Bool.and_eq_true,Bool.or_eq_true,decide_eq_true_eq];constructor
  .rintro ⟨h1,h2,h3,h4⟩;refine⟨h1,h2,h3,?_⟩;rcases h4 with h4|⟨h4,h5⟩
   .exact .inl h4
   .exact .inr ⟨h4,List.eq_nil_of_length_eq_zero h5⟩
  .rintro ⟨h1,h2,h3,h4⟩;refine⟨h1,h2,h3,?_⟩;rcases h4 with h4|⟨h4,h5⟩
   .exact .inl h4
   .exact .inr ⟨h4,by rw[h5];rfl⟩
 have hd:=Qe t 1 60;have hn:=hm (Qg nm);constructor
 .rintro ⟨⟨h1,h2⟩,h3⟩;exact⟨h1,by have:=hd.1 (fun p hp=>((hok p).1 (h2 p hp)).1);omega,hn.2 (fun p hp=>((hok p).1 (h2 p hp)).2),h3⟩
 .rintro ⟨h1,h2,h3,h4⟩;exact⟨⟨h1,fun p hp=>(hok p).2 ⟨hd.2 (by omega) p hp,hn.1 h3 p hp⟩⟩,h4⟩
theorem aiF {nm:By->Bool} {t:Tm} (h: ∀x∈aV t,Qg nm x):uh t:=fun x hx hs=>(h x hx).2.2.elim (fun e=>absurd e hs) (fun e=>e.2)
theorem J5 {nm:By->Bool} {t:Tm} (h:wf nm t=true):uh t:=aiF (vM.1 h).2.2.1
theorem yM {nm:By->Bool} {t:Tm} (h:wf nm t=true):AscK (Prod.fst:Vd->By) (aO t)/\∀f,f∈aO t<->f∈fD t:=by
 have hs:(jO t).isSome=true:=by
  unfold wf at h;rw[Bool.and_eq_true] at h;exact h.2
 obtain⟨m,hm⟩:=Option.isSome_iff_exists.1 hs;obtain⟨_,h1⟩:=AA (vl (aV t)) [] [] List.Pairwise.nil (fun _=>rfl) (fun _=>Iff.rfl);obtain⟨a,_,b⟩:=h1 m hm;have hnil:Cons []:=fun f hf=>by cases hf
 obtain⟨h2,_⟩:=Az (vl (aV t)) [] hnil;obtain⟨_,c,_⟩:=h2 m hm;refine⟨a,fun f=>?_⟩;show f∈(bZ [] (vl (aV t))).1<->f∈vl (aV t);rw[b f,c f];simp
def x_ (W:World) (k:Nat):Prop:= ∃cs fz,W.heap[k]?=some (.cells cs 3 fz)
theorem x_.ext {W W':World} {k:Nat} (h:x_ W k) (hE:Ext W W'):x_ W' k:=by
 obtain⟨cs,fz,h⟩:=h;exact⟨cs,fz,hE.heap h (fun h=>h)⟩
theorem x_.lt {W:World} {k:Nat} (h:x_ W k):k<W.heap.size:=by
 obtain⟨cs,fz,h⟩:=h;exact(Array.getElem?_eq_some_iff.1 h).1
theorem acX {W:World} {b size n:Nat} {v:Value} {xs:List Value} (h:W.ownsRow b 3 size v n xs) {k:Nat} (hk:v.ownBlock=some k):x_ W k:=by
 rcases h.2 with⟨e,_⟩|⟨g,cap,cur,e,_,h3,_⟩
 .rw [e] at hk;cases hk
 .rw [e] at hk;injection hk with hk
  rw[<-hk];exact⟨_,_,h3⟩
end Go.Hw
namespace Go.Hw.PG
open Go.RowKit Go.Hw
section
section
variable {P:Program} {ops:Array Oper} {Q:Exit->Act->World->Prop} {α:Type} {w0:World} {Qt:Act->World->Prop} {dp:Nat->List Nat} {n:Nat} {md:Region.Mode} {fl:List Nat} {kW:Nat}
structure dK (α:Type) where
 val:α->Value
 R:α->World->Prop
 st: ∀x W W',R x W->Ext W W'->R x W'
 f:α->Nat->Prop
 lt: ∀x W k,R x W->f x k->k<W.heap.size
abbrev xQ:=PI.xQ
abbrev vz:=PI.vz
variable {aU:Nat->Option (dK α)}
def dK.i (A:dK α):PI.dK α:=⟨A.val,A.R,fun _=>False,fun _=>False,fun x W W' _ h hU hF=>A.st x W W' h (hU.mono fun k _ e=>hF k e),fun _=>True,fun _ _ _ _ _ _=>trivial,A.f,A.lt⟩
def Can (P:Program) (ops:Array Oper) (Qt:Act->World->Prop) (w0:World) (dp:Nat->List Nat) (aU:Nat->Option (dK α)) (r:List Oper) (i:Nat) (G:List xQ) (a:Act):Prop:=
 PI.Can P ops Qt w0 (fun _=>False) dp (fun i=>(aU i).map dK.i) r i G a
theorem bW {id:Nat} {a:Act} {w:World} {l0:List Oper} [Inhabited α] (n:Nat) (fl:List Nat) (kW:Nat) (tail:List (Nat×Nat)) (Ff:List (List Nat)) (lY:List (Option (dK α))) (Fg:List Bool) (hm:P.follows .mixedOrders=true)
  (hB:Ii l0.toArray n a.tmps.size (fun i=>Ff.getD i []) (fun i=>Fg.getD i false) fl kW tail=true) (yI:lY.map (·.isSome)=Fg)
  (hQ: ∀c a d v w,Q (.panic c) (Act.put a d v) w->Q (.panic c) a w)
  (h:Can P l0.toArray (fun a W=>cu P l0.toArray Q (fun _=>True) (gG l0 tail) a W) w (fun i=>Ff.getD i []) (fun i=>lY.getD i none) (l0.take n) 0 [] a):(Code.region id l0.toArray true).wp P Q a w:=by
 have e:(fun i=>(lY.map (·.map dK.i)).getD i none)=fun i=>(lY.getD i none).map dK.i:=by
  funext i;simp only[List.getD_eq_getElem?_getD,List.getElem?_map];cases lY[i]?<;>rfl
 have hA: ∀i A,(lY.map (·.map dK.i)).getD i none=some A->∃B:dK α,A=B.i:=fun i A h=>by
  rw[show(lY.map (·.map dK.i)).getD i none=(lY.getD i none).map dK.i from congrFun e i] at h;cases hg:lY.getD i none with
  |none=>rw[hg] at h;cases h
  |some B=>rw[hg] at h;exact⟨B,(Option.some.inj h).symm⟩
 refine PI.bW (fun _=>False) n fl kW tail Ff (lY.map (·.map dK.i)) Fg hm hB (by rw[<-yI,List.map_map];refine List.map_congr_left fun x _=>?_;cases x<;>rfl) hQ ⟨fun i A j B h _ _ k hk=>?_,fun i A h k hk=>?_⟩ (fun i A h=>?_) (by rw[e];exact h)
 .obtain ⟨B,rfl⟩:=hA i A h;exact hk.elim
 .obtain ⟨B,rfl⟩:=hA i A h;exact hk
 .obtain ⟨B,rfl⟩:=hA i A h;trivial
theorem qN {o:Oper} {r:List Oper} {i:Nat} {G:List xQ} {a:Act} (ha:aU i=none)
  (h: ∀K:Act->Prop,(∀a,Can P ops Qt w0 dp aU r (i+1) G a->K a)->if Region.wanted o (yielded ops a.tmps) then ∃v,(∀W,Ext w0 W->(∀g∈G,g.1∈dp i->g.2.2 W)->(execOp a.eval o).run P W= .ok (.value v) W)/\K (a.put o.dst v) else K (a.put o.dst undef)):
  Can P ops Qt w0 dp aU (o::r) i G a:=PI.qN (by simp only[ha];rfl) h
theorem aK {o:Oper} {r:List Oper} {i:Nat} {G:List xQ} {a:Act} (A:dK α) (ha:aU i=some A) (hw:Region.wanted o (yielded ops a.tmps)=true)
  (h1: ∀W,Ext w0 W->(∀g∈G,g.1∈dp i->g.2.2 W)->∀K:Act->World->Prop,(∀x W',Ext W W'->A.R x W'->(∀k,A.f x k->W.heap.size<=k)->K (a.put o.dst (A.val x)) W')->o.wp P a W K (fun _ _ _=>False))
  (h2: ∀K:Act->Prop,∀x,(∀a,Can P ops Qt w0 dp aU r (i+1) (G++[(i,A.f x,A.R x)]) a->K a)->K (a.put o.dst (A.val x))):
  Can P ops Qt w0 dp aU (o::r) i G a:=PI.aK A.i (by simp only[ha];rfl) hw (fun W hW hG _ K hK=>h1 W hW hG K hK) h2
theorem jo {i:Nat} {G:List xQ} {a:Act} (h: ∀W,Ext w0 W->(∀g∈G,g.2.2 W)->vz G->Qt a W):Can P ops Qt w0 dp aU [] i G a:=PI.jo h
theorem aX {o:Oper} {r:List Oper} {i:Nat} {G:List xQ} {a:Act} (ha:aU i=none)
  (h: ∀K:Act->Prop,(∀a,Can P ops Qt w0 dp aU r (i+1) G a->K a)->if Region.wanted o (yielded ops a.tmps) then ∃v,(∀x:XW w0,(execOp a.eval o).run P x.val= .ok (.value v) x.val)/\K (a.put o.dst v) else K (a.put o.dst undef)):
  Can P ops Qt w0 dp aU (o::r) i G a:=by
 refine qN ha fun K hK=>?_;have h2:=h K hK;by_cases hw:Region.wanted o (yielded ops a.tmps)=true
 .rw [if_pos hw] at h2⊢;obtain⟨v,hv,h3⟩:=h2;exact⟨v,fun W hW _=>hv ⟨W,hW⟩,h3⟩
 .rw [if_neg hw] at h2⊢;exact h2
end
end
end Go.Hw.PG
namespace Go.Hw
open Go.RowKit
section
section
variable {P:Program} (w:World)
theorem xO {o:Oper} {a:Act} {K:Act->World->Prop} {Q:Exit->Act->World->Prop} (s x:Operand) (t:TypeId)
  (ho:o.op= .call {callee:= .builtin .append,args:= #[s,x],argTypes:= #[t,t]})
  (e:TypeId) (i:TypeInfo) (z:Value) (bytes:Nat) (ht:P.underlying t=some (.slice e)) (hi:P.info? e=some i) (hz:i.zero=some z)
  (hsize:i.size=1) (hby:i.bytes=bytes) (S:Nat->Prop)
  (q:Option Addr) (n:Nat) (xs:List Value) (hs:a.eval s= .slice q n n) (hold:az S w 1 (.slice q n n) n xs)
  (g c:Nat) (u:Value) (hx:a.eval x= .slice (some ⟨g,0,none⟩) 1 c) (hu:w.cell? ⟨g,0,none⟩=some u)
  (h63:n+1<=maxLen) (hbytes:(n+1)*bytes<=140737488355328)
  (h: ∀c' w',Ext w w'->w.heap.size<w'.heap.size->az (fun k=>k=w.heap.size) w' 1 (.slice (some ⟨w.heap.size,0,none⟩) (n+1) c') (n+1) (xs++[u])->K (a.put o.dst (.slice (some ⟨w.heap.size,0,none⟩) (n+1) c')) w'):o.wp P a w K Q:=by
 have hxl:xs.length=n:=by have:=hold.1;omega
 have hnews: ∀j v,[u][j]?=some v->w.cell? ((⟨g,0,none⟩:Addr).add j)=some v:=by
  intro j v hv
  match j,hv with
  |0,hv=>simp only[List.getElem?_cons_zero,Option.some.injEq] at hv;subst hv;exact hu
 have hrun:(Builtin.append_ #[t,t] o.type #[.slice q n n,.slice (some ⟨g,0,none⟩) 1 c]).run P w=
   .ok (.slice (some ⟨w.heap.size,0,none⟩) (n+1) (grownCap w (n+1) n e)) (w.drew.alloc (.cells (xs.toArray++[u].toArray++Builtin.zeroCells z.cells (grownCap w (n+1) n e- (n+1))) e)):=by
  rcases hold.2 with⟨hv,hm⟩|⟨ad,cap,hv,hc,hgg,hj⟩
  .injection hv with h1 h2 h3
   subst h1;subst hm;have hn:xs=[]:=List.eq_nil_of_length_eq_zero hxl;subst hn;have:=run_append_nil (P:=P) w t o.type e i z ht hi hz ⟨g,0,none⟩ 1 c [u] (by simp[hsize]) hnews (by omega) (by omega) (by subst hby;omega);simpa using this
  .injection hv with h1 h2 h3
   subst h1;subst h3;refine run_append_grow (P:=P) w t o.type e i z ht hi hz ad n n xs (by rw[hxl,hsize];omega) (fun j v hjv=>?_) ⟨g,0,none⟩ 1 c [u] (by simp[hsize]) hnews (by omega) (by simp only[maxLen] at h63;omega) (growslice_fits (by omega) (by subst hby;exact hbytes));have hlt:j<n:=by rw[<-hxl];exact(List.getElem?_eq_some_iff.1 hjv).1
   rw[<-hjv,<-hj j (by omega)];obtain⟨gg,off,spot⟩:=ad;have hsp:=(hgg (by omega)).1;simp only at hsp;subst hsp
   congr 1
   unfold Addr.add;split
   .rename_i h0;simp[h0]
   .rfl
 unfold Oper.wp execOp;simp only[ho,resolve,invoke,builtin,Sem.run_bind,Sem.run_pure,Result.andThen_ok,List.map_toArray,List.map_cons,List.map_nil,hs,hx,hrun];have hE:Ext w (w.drew.alloc (.cells (xs.toArray++[u].toArray++Builtin.zeroCells z.cells (grownCap w (n+1) n e- (n+1))) e)):=((uR w).drew).alloc _;refine h _ _ hE (by show w.heap.size< (w.heap.push _).size;simp) ⟨by rw[List.length_append,hxl];simp,.inr ⟨_,_,rfl,?_,fun _=>⟨rfl,rfl⟩,fun j hj=>?_⟩⟩
 .exact grownCap_ge ..
 .have hb:=ai w.drew (.cells (xs.toArray++[u].toArray++Builtin.zeroCells z.cells (grownCap w (n+1) n e- (n+1))) e);have hb2:=cell_of_row _ _ j _ _ _ hb;rw[Nat.zero_add];refine hb2.trans ?_;have hj2:j< (xs.toArray++[u].toArray).size:=by simp[hxl];omega
  rw[Array.getElem?_append_left hj2];simp
theorem az.clip {S:Nat->Prop} {w:World} {q:Option Addr} {n c size:Nat} {xs:List Value} (h:az S w size (.slice q n c) n xs):az S w size (.slice q n n) n xs/\n<=c/\(q=none->n=0/\c=0):=by
 obtain⟨h1,⟨hv,hm⟩|⟨ad,cap,hv,hc,hg,hj⟩⟩:=h
 .injection hv with e1 e2 e3
  subst e1;subst e2;subst e3;exact⟨⟨h1,.inl ⟨rfl,rfl⟩⟩,Nat.le_refl _,fun _=>⟨rfl,rfl⟩⟩
 .injection hv with e1 e2 e3
  subst e1;subst e3;exact⟨⟨h1,.inr ⟨ad,n,rfl,Nat.le_refl _,hg,hj⟩⟩,hc,fun e=>by cases e⟩
end
end
section
open Tm
section
variable {nm:By->Bool}
theorem YW {t:Tm} {f:Vd} (h:f∈fD t): ∃x∈aV t,x.name=f.1/\x.sort=f.2:=by
 unfold fD vl at h;rw[List.mem_filterMap] at h;obtain⟨x,hx,e⟩:=h;by_cases hs:x.sort=ah
 .rw [if_pos hs] at e;cases e
 .rw [if_neg hs] at e;injection e with e
  exact⟨x,hx,by rw[<-e],by rw[<-e]⟩
variable {X:List Vd} {a b:Tm} {θ:Su}
end
end
section
open Tm
theorem XP (N:Nat): ∀(p t:Tm) (σ τ:Sb),jJ p t σ=some τ->t.size<=N->(∀n x,σ n=some x->x.size<=N)->∀n x,τ n=some x->x.size<=N:=by
 refine Tm.ind (fun n s L ih=>?_);intro t σ τ h ht hσ;by_cases hs:s=ah
 .subst hs;by_cases hc:t.sort=ah/\t.name=n/\t.kids.length=L.length
  .rw [Jv hc] at h;have key: ∀(L M:List Tm),(∀x∈L,∀(t:Tm) (σ τ:Sb),jJ x t σ=some τ->t.size<=N->(∀n x,σ n=some x->x.size<=N)->∀n x,τ n=some x->x.size<=N)->(∀x∈M,x.size<=N)->∀σ τ,mX L M σ=some τ->(∀n x,σ n=some x->x.size<=N)->∀n x,τ n=some x->x.size<=N:=by
    intro L
    induction L with
    |nil=>
     intro M _ _ σ τ h hσ;unfold mX at h;injection h with h
     subst h;exact hσ
    |cons a L ihL=>
     intro M hx hM σ τ h hσ;cases M with
     |nil=>unfold mX at h;cases h
     |cons b M=>
      unfold mX at h;cases hm:jJ a b σ with
      |none=>rw[hm] at h;cases h
      |some υ=>
       rw[hm] at h;exact ihL M (fun x hx'=>hx x (List.mem_cons_of_mem _ hx')) (fun x hx'=>hM x (List.mem_cons_of_mem _ hx')) υ τ h (hx a (List.mem_cons_self ..) b σ υ hm (hM b (List.mem_cons_self ..)) hσ)
   exact key L t.kids ih (fun x hx=>by have:=xI hx;omega) σ τ h hσ
  .rw [zV hc] at h;cases h
 .cases hx:σ n with
  |some x=>
   rw[Dk hs hx] at h;split at h
   .injection h with h
    subst h;exact hσ
   .cases h
  |none=>
   rw[Aw hs hx] at h;split at h
   .cases h
   .injection h with h
    subst h;intro m x hm;have hm:(if m=n then some t else σ m)=some x:=hm;split at hm
    .injection hm with hm
     subst hm;exact ht
    .exact hσ m x hm
theorem aah (N:Nat) (h1:1<=N) (σ:Sb) (hσ: ∀n x,σ n=some x->x.size<=N): ∀t:Tm,(jK σ t).size<=t.size*N:=by
 refine Tm.ind (fun n s L ih=>?_);by_cases hs:s=ah
 .subst hs;rw[QQ];have key: ∀M:List Tm,(∀x∈M,(jK σ x).size<=x.size*N)->sizes (M.map (jK σ))<=sizes M*N:=by
   intro M
   induction M with
   |nil=>intro _;simp[sizes]
   |cons a M OW=>
    intro h;have g1:=h a (List.mem_cons_self ..);have g2:=OW (fun x hx=>h x (List.mem_cons_of_mem _ hx));simp only[List.map_cons,sizes,Nat.add_mul];omega
  have h2:=key L ih;have e1:(Tm.mk n ah (L.map (jK σ))).size=sizes (L.map (jK σ))+1:=rfl;have e2:(Tm.mk n ah L).size=sizes L+1:=rfl;rw[e1,e2,Nat.add_mul];omega
 .rw [NK σ hs];have e2:(Tm.mk n s L).size=sizes L+1:=rfl;rw[e2,Nat.add_mul,Nat.one_mul];cases h:σ n with
  |none=>
   have:((none:Option Tm).getD default).size=1:=rfl;omega
  |some x=>
   have:=hσ n x h;rw[Option.getD_some];omega
theorem PQ {r:Rl} {t u:Tm} (h:jL r t=some u):u.size<=r.2.size*t.size:=by
 unfold jL at h;cases hm:jJ r.1 t sb0 with
 |none=>rw[hm] at h;cases h
 |some σ=>
  rw[hm] at h;injection h with h
  subst h;exact aah t.size (size_pos t) σ (XP t.size r.1 t sb0 σ hm (Nat.le_refl _) (fun n x h=>by cases h)) r.2
theorem Bh: ∀(p:List Nat) (t:Tm),uj t p->(uJ t p).size<=t.size
 |[],t,_=>Nat.le_refl _
 |i::p,t,h=>by
  have h1:=Bh p _ h.2;have h2:(tg t.kids i).size<t.size:=xI (by unfold tg;rw[List.getD_eq_getElem?_getD,List.getElem?_eq_getElem h.1];exact List.getElem_mem h.1);show(uJ (tg t.kids i) p).size<=_;omega
theorem MR {l:List Rl} {t:Tm} {i:Nat} {p:List Nat} {u:Tm} {N:Nat} (h:jy l t=some (i,p,u)) (hl: ∀r∈l,r.2.size<=N):u.size<=N*t.size:=by
 obtain⟨h1,h2,h3⟩:=zG l t i p u h;have h4:=PQ h3;have h5:=hl _ (oD h2);have h6:=Bh p t h1;exact Nat.le_trans h4 (Nat.mul_le_mul h5 h6)
theorem zH: ∀(p:List Nat) (t:Tm),uj t p->p.length<t.size
 |[],t,_=>size_pos t
 |i::p,t,h=>by
  have h1:=zH p _ h.2;have h2:(tg t.kids i).size<t.size:=xI (by unfold tg;rw[List.getD_eq_getElem?_getD,List.getElem?_eq_getElem h.1];exact List.getElem_mem h.1);simp only[List.length_cons];omega
theorem aai {B:List Bd} {n s:By} {t:Tm} (h:bK B n=none):bK (B++[(n,s,t)])=Sb.put (bK B) n t:=by
 funext m;rw[Es];unfold Sb.put;by_cases e:m=n
 .subst e;rw[h];simp
 .rw [if_neg e,if_neg (fun e2=>e e2.symm)];cases bK B m<;>rfl
theorem ajf {X:List Vd} (hX:Cons X): ∀(p t:Tm) (B:List Bd),uh p->(∀f∈fD p,f∈X)->yS X (fun _=>True) B->jJ p t (bK B)=(rP p t B).map bK:=by
 refine Tm.ind (fun n s L ih=>?_);intro t B hp hv hI;by_cases hs:s=ah
 .subst hs;by_cases hc:t.sort=ah/\t.name=n/\t.kids.length=L.length
  .rw [Jv hc,XT hc];have key: ∀(L M:List Tm),(∀x∈L,∀(t:Tm) (B:List Bd),uh x->(∀f∈fD x,f∈X)->yS X (fun _=>True) B->jJ x t (bK B)=(rP x t B).map bK)->M.length=L.length->(∀x∈L,uh x)->(∀x∈L,∀f∈fD x,f∈X)->∀B,yS X (fun _=>True) B->mX L M (bK B)=(Bo L M B).map bK:=by
    intro L
    induction L with
    |nil=>intro M _ _ _ _ B _;unfold mX Bo;rfl
    |cons a L ihL=>
     intro M hx hl hn hvv B hI
     match M,hl with
     |b::M,hl=>
      unfold mX Bo;rw[hx a (List.mem_cons_self ..) b B (hn a (List.mem_cons_self ..)) (hvv a (List.mem_cons_self ..)) hI];cases hm:rP a b B with
      |none=>rfl
      |some E=>
       have h1:=(P9 (X:=X) (Y:=fun _=>True) (fun _ _ _ _=>trivial) a b B E hm (hn a (List.mem_cons_self ..)) (hvv a (List.mem_cons_self ..)) trivial hI).1;exact ihL M (fun x hx'=>hx x (List.mem_cons_of_mem _ hx')) (by simpa using hl) (fun x hx'=>hn x (List.mem_cons_of_mem _ hx')) (fun x hx'=>hvv x (List.mem_cons_of_mem _ hx')) E h1
   exact key L t.kids ih hc.2.2 (fun x hx=>hp.kid hx) (fun x hx f hf=>hv f (by rw[vI];exact List.mem_flatMap.2 ⟨x,hx,hf⟩)) B hI
  .rw [zV hc,XU hc];rfl
 .have hnX:=hv _ (qQ hs L);cases hg:bK B n with
  |some x=>
   rw[Dk hs hg];obtain⟨b,hb,h1,h2⟩:=DY hg;have hsrt:x.sort≠ah->x.sort=s:=fun h=>by
    have h3:=hI.srt b hb (by rw[h2];exact h);have h4:=hX _ (hI.inX b hb) _ hnX h1;rw[h2] at h3;rw[h3];exact h4
   by_cases hc:t.sort≠ah/\t.sort≠s
   .rw [GU hs hc];have: ¬x=t:=fun e=>by
     have:=hsrt (by rw[e];exact hc.1);rw[e] at this;exact hc.2 this
    rw[if_neg this];rfl
   .rw [Qb hs hc hg];by_cases e:x=t
    .rw [if_pos e,if_pos e];rfl
    .rw [if_neg e,if_neg e];rfl
  |none=>
   have hm:jJ (.mk n s L) t (bK B)=if t.sort≠ah/\t.sort≠s then none else some (Sb.put (bK B) n t):=by
    unfold jJ;rw[if_neg hs,hg]
   rw[hm];by_cases hc:t.sort≠ah/\t.sort≠s
   .rw [GU hs hc,if_pos hc];rfl
   .rw [SY hs hc hg,if_neg hc,Option.map_some,aai hg]
theorem aaj:bK []=sb0:=by funext n;rfl
theorem aiz {nm:By->Bool} {r:Rl} {t:Tm} (h1:wf nm r.1=true) (hv: ∀f∈fD r.2,f∈fD r.1):jL r t=(rP r.1 t []).map fun B=>wO B r.2:=by
 unfold jL;have h2:=ajf (vM.1 h1).2.2.2 r.1 t [] (J5 h1) (fun f hf=>hf) (yS.nil _ _);rw[aaj] at h2;rw[h2];cases hm:rP r.1 t [] with
 |none=>rfl
 |some B=>
  have h3:=(P9 (X:=fD r.1) (Y:=fun _=>True) (fun _ _ _ _=>trivial) r.1 t [] B hm (J5 h1) (fun f hf=>hf) trivial (yS.nil _ _)).2.2.1;simp only[Option.map_some]
  congr 1
  unfold jK wO;refine XQ r.2 (fun f hf=>?_);obtain⟨x,hx⟩:=h3 f (hv f hf);show(bK B f.1).getD default=(bK B f.1).getD (vr f.1 f.2);rw[hx];rfl
theorem XB (t u:Tm):putAt t [] u=u:=by cases t;rfl
theorem U0 (n s:By) (L:List Tm) (i:Nat) (p:List Nat) (u:Tm):putAt (.mk n s L) (i::p) u= .mk n s (L.set i (putAt (tg L i) p u)):=rfl
theorem EM {L:List Tm} {i:Nat} (h:i<L.length):tg L i∈L:=by unfold tg;rw[List.getD_eq_getElem?_getD,List.getElem?_eq_getElem h];exact List.getElem_mem h
def FV (g:Sg) (n:By):Option Dc:=g.2.find? fun o=>decide (o.1=n)
def dU (g:Sg) (t:Tm):By:=if t.sort≠ah then t.sort else match FV g t.name with
 |some o=>o.2.2
 |none=>ah
def uS (g:Sg):List Tm->List By->Bool
 |[],_=>true
 |_::_,[]=>true
 |x::L,a::zs=>(decide (dU g x=ah)||decide (dU g x=a))&&uS g L zs
def yR (g:Sg) (t:Tm):Int:=if t.sort≠ah then(if t.sort∈g.1 then 0 else 9) else match FV g t.name with
 |none=>9
 |some o=>if t.kids.length≠o.2.1.length then 3 else if uS g t.kids o.2.1=true then 0 else 11
def ja (g:Sg):List Tm->Int
 |[]=>0
 |x::l=>if yR g x≠0 then yR g x else ja g l
def En (g:Sg) (t:Tm):Int:=ja g (aV t)
abbrev WS (g:Sg) (t:Tm):Prop:= ∀x∈aV t,yR g x=0
theorem P8 (g:Sg): ∀l:List Tm,ja g l=0<->∀x∈l,yR g x=0
 |[]=>by simp[ja]
 |x::l=>by
  unfold ja;by_cases h:yR g x=0
  .simp [h,P8 g l]
  .simp [h]
theorem aaf (g:Sg) (t:Tm):En g t=0<->WS g t:=P8 g _
theorem WS.kid {g:Sg} {t x:Tm} (h:WS g t) (hx:x∈t.kids):WS g x:=fun y hy=>h y (oC hx hy)
theorem ab4 {g:Sg} {n:By} {L:List Tm}:yR g (.mk n ah L)=0<->∃o,FV g n=some o/\L.length=o.2.1.length/\uS g L o.2.1=true:=by
 unfold yR;simp only[Tm.sort,Tm.name,Tm.kids,ne_eq,not_true_eq_false,if_false];cases h:FV g n with
 |none=>simp
 |some o=>
  simp only[Option.some.injEq,exists_eq_left'];by_cases h1:L.length=o.2.1.length
  .by_cases h2:uS g L o.2.1=true
   .simp [h1,h2]
   .simp [h1,h2]
  .simp [h1]
theorem Bi {g:Sg} {n:By} {L:List Tm}:WS g (.mk n ah L)<->(∃o,FV g n=some o/\L.length=o.2.1.length/\uS g L o.2.1=true)/\∀x∈L,WS g x:=by
 constructor
 .intro h;exact⟨ab4.1 (h _ (fO _)),fun x hx=>h.kid (t:= .mk n ah L) hx⟩
 .rintro ⟨h1,h2⟩ x hx;rw[o6,List.mem_cons] at hx;rcases hx with rfl|hx
  .exact ab4.2 h1
  .obtain ⟨y,hy,hx⟩:=List.mem_flatMap.1 hx;exact h2 y hy x hx
theorem Bj {g:Sg}: ∀{L:List Tm} {zs:List By},L.length=zs.length->(uS g L zs=true<->∀i,i<L.length->dU g (tg L i)=ah\/dU g (tg L i)=zs.getD i ah)
 |[],zs,_=>by simp[uS]
 |x::L,[],h=>by cases h
 |x::L,a::zs,h=>by
  unfold uS;rw[Bool.and_eq_true,Bool.or_eq_true,decide_eq_true_eq,decide_eq_true_eq,Bj (L:=L) (zs:=zs) (by simpa using h)];constructor
  .rintro ⟨h1,h2⟩ i hi
   match i,hi with
   |0,_=>exact h1
   |i+1,hi=>exact h2 i (by simpa using hi)
  .intro h1;exact⟨h1 0 (by simp),fun i hi=>h1 (i+1) (by simpa using hi)⟩
theorem Bl {g:Sg}: ∀{L M:List Tm} {zs:List By},L.length=M.length->(∀i,i<L.length->dU g (tg L i)=dU g (tg M i))->uS g L zs=uS g M zs
 |[],[],_,_,_=>rfl
 |x::L,y::M,[],_,_=>rfl
 |x::L,y::M,a::zs,h,hk=>by
  have h0:dU g x=dU g y:=hk 0 (by simp);unfold uS;rw[h0,Bl (L:=L) (M:=M) (zs:=zs) (by simpa using h) (fun i hi=>hk (i+1) (by simpa using hi))]
theorem J4 {g:Sg} {n s:By} (h:s≠ah) (L:List Tm):dU g (.mk n s L)=s:=by
 exact if_pos h
theorem own_op {g:Sg} {n:By} {o:Dc} (h:FV g n=some o) (L:List Tm):dU g (.mk n ah L)=o.2.2:=by
 unfold dU;simp only[Tm.sort,Tm.name,ne_eq,not_true_eq_false,if_false];rw[h]
theorem SS {g:Sg} {n:By} (L M:List Tm):dU g (.mk n ah L)=dU g (.mk n ah M):=rfl
def wY (g:Sg):Prop:= ∀o∈g.2,o.2.2≠ah
theorem adf {g:Sg} {n:By} {o:Dc} (h:FV g n=some o):o∈g.2:=List.mem_of_find?_eq_some h
theorem Mc {g:Sg} (hg:wY g) {t:Tm} (h:WS g t):dU g t≠ah:=by
 obtain⟨n,s,L⟩:=t;by_cases hs:s=ah
 .subst hs;obtain⟨⟨o,h1,_⟩,_⟩:=Bi.1 h;rw[own_op h1];exact hg o (adf h1)
 .rw [J4 hs];exact hs
theorem SH {g:Sg}: ∀(p:List Nat) (t:Tm),uj t p->WS g t->WS g (uJ t p)
 |[],t,_,h=>h
 |i::p,t,hp,h=>SH p _ hp.2 (h.kid (EM hp.1))
theorem Xx {g:Sg} {z:Tm} (hz:WS g z): ∀(p:List Nat) (t:Tm),uj t p->uh t->WS g t->dU g z=dU g (uJ t p)->WS g (putAt t p z)/\dU g (putAt t p z)=dU g t
 |[],t,_,_,h,ho=>by rw[XB];exact⟨hz,ho⟩
 |i::p,.mk n s L,hp,hn,h,ho=>by
  have hs:s=ah:=Classical.byContradiction fun hs=>by
   have hL:L=[]:=hn (.mk n s L) (fO _) hs;have:=hp.1;rw[show(Tm.mk n s L).kids=L from rfl,hL] at this;cases this
  subst hs;have hi:i<L.length:=hp.1;rw[U0];obtain⟨⟨o,h1,h2,h3⟩,h4⟩:=Bi.1 h;have hk:=Xx hz p (tg L i) hp.2 (hn.kid (t:= .mk n ah L) (EM hi)) (h4 _ (EM hi)) ho;refine⟨Bi.2 ⟨⟨o,h1,by simpa using h2,?_⟩,fun y hy=>?_⟩,SS _ _⟩
  .rw [<-h3];refine Bl (by simp) (fun j hj=>?_);have hj':j<L.length:=by simpa using hj
   by_cases e:j=i
   .subst e;have:tg (L.set j (putAt (tg L j) p z)) j=putAt (tg L j) p z:=by
     unfold tg;rw[List.getD_eq_getElem?_getD,List.getElem?_set_self hj'];rfl
    rw[this];exact hk.2
   .have:tg (L.set i (putAt (tg L i) p z)) j=tg L j:=by
     unfold tg;rw[List.getD_eq_getElem?_getD,List.getElem?_set_ne (fun h=>e h.symm),<-List.getD_eq_getElem?_getD]
    rw[this]
  .rcases List.mem_or_eq_of_mem_set hy with hy|hy
   .exact h4 y hy
   .rw [hy];exact hk.1
theorem XC (g:Sg) (n:By):FV g n=if bD g.2 n<g.2.length then some (dg g.2 (bD g.2 n)) else none:=by
 unfold FV bD;generalize g.2=l
 induction l with
 |nil=>rfl
 |cons a l ih=>
  rw[List.find?_cons,List.findIdx_cons];by_cases h:a.1=n
  .rw [dT h];simp[dg]
  .rw [dF h];simp only[cond_false,Bool.false_eq_true,if_false];rw[ih];by_cases h2:(l.findIdx fun d=>decide (d.1=n))<l.length
   .rw [if_pos h2,if_pos (by simpa using h2)];rfl
   .rw [if_neg h2,if_neg (by simpa using h2)]
theorem Jd (g:Sg) (t:Tm):dU g t=eu g t:=by
 unfold dU eu;rw[XC];by_cases h:t.sort≠ah
 .rw [if_pos h,if_pos h]
 .rw [if_neg h,if_neg h];by_cases h2:bD g.2 t.name<g.2.length
  .rw [if_pos h2,if_pos h2]
  .rw [if_neg h2,if_neg h2]
theorem adg (g:Sg) {L:List Tm} {A:List By} (h:L.length=A.length):uS g L A=!lV g L A:=by
 rw[Bool.eq_iff_iff,Bj h,Bool.not_eq_true',lV,List.any_eq_false];constructor
 .intro h1 k hk;have:=h1 k (List.mem_range.1 hk);rw[Jd] at this;rcases this with h2|h2
  .rw [dT h2];simp
  .rw [dT h2];simp
 .intro h1 k hk;have:=h1 k (List.mem_range.2 hk);rw[Jd];by_cases h2:eu g (tg L k)=ah
  .exact .inl h2
  .by_cases h3:eu g (tg L k)=A.getD k ah
   .exact .inr h3
   .rw [dF h2,dF h3] at this;exact absurd rfl this
theorem ab5 (g:Sg) (n s:By) (L:List Tm):yR g (.mk n s L)=if s≠ah then(if s∈g.1 then 0 else 9) else if ¬bD g.2 n<g.2.length then 9 else if L.length≠(dg g.2 (bD g.2 n)).2.1.length then 3 else if lV g L (dg g.2 (bD g.2 n)).2.1=true then 11 else 0:=by
 change(if s≠ah then(if s∈g.1 then(0:Int) else 9) else match FV g n with|none=>9|some o=>if L.length≠o.2.1.length then 3 else if uS g L o.2.1=true then 0 else 11)=_;by_cases h:s≠ah
 .rw [if_pos h,if_pos h]
 .rw [if_neg h,if_neg h,XC];by_cases h2:bD g.2 n<g.2.length
  .rw [if_pos h2,if_neg (by simpa using h2)];dsimp only;by_cases h3:L.length≠(dg g.2 (bD g.2 n)).2.1.length
   .rw [if_pos h3,if_pos h3]
   .rw [if_neg h3,if_neg h3,adg g (Classical.not_not.1 h3)];cases lV g L (dg g.2 (bD g.2 n)).2.1<;>simp
  .rw [if_neg h2,if_pos h2]
theorem GN (g:Sg) (a b:List Tm):ja g (a++b)=if ja g a≠0 then ja g a else ja g b:=by
 induction a with
 |nil=>simp[ja]
 |cons x a ih=>
  rw[List.cons_append,ja,ja];by_cases h:yR g x≠0
  .rw [if_pos h,if_pos h,if_pos h]
  .rw [if_neg h,if_neg h,ih]
theorem XE (g:Sg): ∀t:Tm,uh t->En g t=b_ g t:=by
 refine Tm.ind (fun n s L ih hn=>?_);unfold En;rw[o6,ja,Kz,ab5];have hL:ja g ((Tm.mk n s L).kids.flatMap aV)=gJ g L:=by
  have key: ∀M:List Tm,(∀x∈M,En g x=b_ g x)->ja g (M.flatMap aV)=gJ g M:=by
   intro M
   induction M with
   |nil=>intro _;simp[ja,gJ]
   |cons a M OW=>
    intro h;rw[List.flatMap_cons,GN,gJ,OW (fun x hx=>h x (List.mem_cons_of_mem _ hx))];have:=h a (List.mem_cons_self ..);unfold En at this;rw[this]
  exact key L (fun x hx=>ih x hx (hn.kid (t:= .mk n s L) hx))
 rw[hL];by_cases h1:s≠ah
 .have h5:L=[]:=hn (.mk n s L) (fO _) h1;subst h5;rw[if_pos h1,if_pos h1];by_cases h2:s∈g.1
  .rw [if_pos h2];simp[gJ]
  .rw [if_neg h2];simp
 rw[if_neg h1,if_neg h1];by_cases h2: ¬bD g.2 n<g.2.length
 .rw [if_pos h2,if_pos h2];simp
 rw[if_neg h2,if_neg h2];by_cases h3:L.length≠(dg g.2 (bD g.2 n)).2.1.length
 .rw [if_pos h3,if_pos h3];simp
 rw[if_neg h3,if_neg h3];by_cases h4:lV g L (dg g.2 (bD g.2 n)).2.1=true
 .rw [if_pos h4,if_pos h4];simp
 .rw [if_neg h4,if_neg h4];simp
theorem GM {g:Sg} {t:Tm} (hn:uh t):WS g t<->b_ g t=0:=by rw[<-XE g t hn,aaf]
theorem XG {f:Tm->Tm} {L:List Tm} {i:Nat} (h:i<L.length):tg (L.map f) i=f (tg L i):=by
 unfold tg;rw[List.getD_eq_getElem?_getD,List.getD_eq_getElem?_getD,List.getElem?_map,List.getElem?_eq_getElem h];rfl
theorem aje {g:Sg} {σ:Su}: ∀t:Tm,WS g t->(∀f∈fD t,WS g (σ f.1 f.2)/\dU g (σ f.1 f.2)=f.2)->WS g (fA σ t)/\dU g (fA σ t)=dU g t:=by
 refine Tm.ind (fun n s L ih=>?_);intro h hv;by_cases hs:s=ah
 .subst hs;obtain⟨⟨o,h1,h2,h3⟩,h4⟩:=Bi.1 h;rw[rG];have hx: ∀x∈L,WS g (fA σ x)/\dU g (fA σ x)=dU g x:=fun x hx=>ih x hx (h4 x hx) (fun f hf=>hv f (adh (t:= .mk n ah L) hx hf));refine⟨Bi.2 ⟨⟨o,h1,by simpa using h2,?_⟩,fun y hy=>?_⟩,SS _ _⟩
  .rw [<-h3];refine Bl (by simp) (fun i hi=>?_);have hi':i<L.length:=by simpa using hi
   rw[XG hi'];exact(hx _ (EM hi')).2
  .obtain ⟨x,hxm,rfl⟩:=List.mem_map.1 hy;exact(hx x hxm).1
 .rw [o_ σ hs,J4 hs];exact hv (n,s) (qQ hs L)
theorem aiy {g:Sg} (hg:wY g) {σ:Su}: ∀p:Tm,uh p->WS g p->WS g (fA σ p)->dU g (fA σ p)=dU g p->∀f∈fD p,WS g (σ f.1 f.2)/\dU g (σ f.1 f.2)=f.2:=by
 refine Tm.ind (fun n s L ih=>?_);intro hn h ht ho f hf;by_cases hs:s=ah
 .subst hs;obtain⟨⟨o,h1,h2,h3⟩,h4⟩:=Bi.1 h;rw[rG] at ht;obtain⟨⟨o',g1,g2,g3⟩,g4⟩:=Bi.1 ht;rw[h1] at g1;obtain rfl:=Option.some.inj g1;rw[vI] at hf;obtain⟨x,hx,hf⟩:=List.mem_flatMap.1 hf;obtain⟨i,hi,e⟩:=List.getElem_of_mem hx;have e2:tg L i=x:=by
   unfold tg;rw[List.getD_eq_getElem?_getD,List.getElem?_eq_getElem hi];exact e
  have k1:=(Bj h2).1 h3 i hi;have k2:=(Bj g2).1 g3 i (by simpa using hi);rw[XG hi,e2] at k2;rw[e2] at k1;have w1:=h4 x hx;have w2:=g4 _ (List.mem_map.2 ⟨x,hx,rfl⟩);refine ih x hx (hn.kid (t:= .mk n ah L) hx) w1 w2 ?_ f hf;rcases k1 with k1|k1
  .exact absurd k1 (Mc hg w1)
  .rcases k2 with k2|k2
   .exact absurd k2 (Mc hg w2)
   .rw [k1,k2]
 .have hL:L=[]:=hn (.mk n s L) (fO _) hs;subst hL;rw[IC hs,List.mem_singleton] at hf;subst hf;rw[o_ σ hs] at ht ho;rw[J4 hs] at ho;exact⟨ht,ho⟩
theorem aix {nm:By->Bool} {g:Sg} (hg:wY g) {r:Rl} {u z:Tm} (h1:wf nm r.1=true) (hv: ∀f∈fD r.2,f∈fD r.1) (hs:r.1.sort=ah) (w1:WS g r.1) (w2:WS g r.2) (ho:dU g r.1=dU g r.2) (hu:WS g u) (h:jL r u=some z):WS g z/\dU g z=dU g u:=by
 rw[aiz h1 hv] at h;cases hm:rP r.1 u [] with
 |none=>rw[hm] at h;cases h
 |some B=>
  rw[hm] at h;obtain rfl:wO B r.2=z:=Option.some.inj h;have K_:=J5 h1;have hsb:fA (fJ B) r.1=u:=(P9 (X:=fD r.1) (Y:=fun _=>True) (fun _ _ _ _=>trivial) r.1 u [] B hm K_ (fun f hf=>hf) trivial (yS.nil _ _)).2.2.2 B (fun _ _ h=>h);obtain⟨n,s,L⟩: ∃n s L,r.1= .mk n s L:=⟨_,_,_,(Tm.eta _).symm⟩
  have hown:dU g (fA (fJ B) r.1)=dU g r.1:=by
   rw[P_ _ hs]
   conv=>rhs;rw[<-Tm.eta r.1,hs]
   rfl
  have hf:=aiy hg r.1 K_ w1 (by rw[hsb];exact hu) hown;have:=aje (σ:=fJ B) r.2 w2 (fun f hf2=>hf f (hv f hf2));refine⟨this.1,?_⟩;show dU g (fA (fJ B) r.2)=_;rw[this.2,<-ho,<-hown,hsb]
end
end Go.Hw
