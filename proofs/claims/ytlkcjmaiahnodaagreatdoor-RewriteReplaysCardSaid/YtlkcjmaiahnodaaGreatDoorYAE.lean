/- The texts UW TAB TYB L8 TB UQ UR TYZ WA TG SG L9, one behind the other. -/
import Derived.Test.YtlkcjmaiahnodaaGreatDoorYAD
import Derived.Test.YtlkcjmaiahnodaaGreatDoorYAC
import Derived.Test.YtlkcjmaiahnodaaGreatDoorYAB
set_option linter.unusedVariables false
set_option linter.unusedSimpArgs false
namespace Go.Hw
open Tm
theorem Pv: ∀(t:Tm) (d N:Nat),(∀p∈dh d t,p.2<=N)<->d+t.depth<=N+1:=by
 refine Tm.ind (fun n s L ih=>?_);intro d N;rw[jV,jH];simp only[Tm.kids];have key: ∀(L:List Tm) (d:Nat),(∀x∈L,∀d N,(∀p∈dh d x,p.2<=N)<->d+x.depth<=N+1)->d<=N+1->((∀p∈bZ d L,p.2<=N)<->d+depths L<=N+1):=by
  intro L
  induction L with
  |nil=>intro d _ hd;exact⟨fun _=>by simpa[depths] using hd,fun _ p hp=>by cases hp⟩
  |cons a L ihL=>
   intro d hx hd;have h1:=hx a (List.mem_cons_self ..) d N;have h2:=ihL d (fun x hx'=>hx x (List.mem_cons_of_mem _ hx')) hd;simp only[bZ,depths];constructor
   .intro h;have g1:=h1.1 (fun p hp=>h p (List.mem_append_left _ hp));have g2:=h2.1 (fun p hp=>h p (List.mem_append_right _ hp));omega
   .intro h p hp;rcases List.mem_append.1 hp with hp|hp
    .exact h1.2 (by omega) p hp
    .exact h2.2 (by omega) p hp
 constructor
 .intro h;have h0:d<=N:=h _ (List.mem_cons_self ..);have:=(key L (d+1) ih (by omega)).1 (fun p hp=>h p (List.mem_cons_of_mem _ hp));omega
 .intro h p hp;rcases List.mem_cons.1 hp with e|hp
  .rw [e];show d<=N;omega
  .exact (key L (d+1) ih (by omega)).2 (by omega) p hp
def Px (nm:By->Bool) (x:Tm):Prop:=nm x.name=true/\x.kids.length<=6/\(x.sort=ah\/nm x.sort=true/\x.kids=[])
theorem mF {nm:By->Bool} {t:Tm}:wf nm t=true<->t.size<=1000/\t.depth<=60/\(∀x∈aV t,Px nm x)/\Cons (cu t):=by
 unfold wf;rw[Bool.and_eq_true,rO,Ic];have hm: ∀P:Tm->Prop,(∀x∈aV t,P x)<->∀p∈dh 1 t,P p.1:=fun P=>by
  unfold aV;rw[rP t 0 1];constructor
  .intro h p hp;exact h _ (List.mem_map_of_mem hp)
  .intro h x hx;obtain⟨p,hp,rfl⟩:=List.mem_map.1 hx;exact h p hp
 have hok: ∀p:Tm×Nat,kJ nm p=true<->p.2<=60/\Px nm p.1:=fun p=>by
  unfold kJ Px;simp only[Bool.and_eq_true,Bool.or_eq_true,decide_eq_true_eq];constructor
  .rintro ⟨h1,h2,h3,h4⟩;refine⟨h1,h2,h3,?_⟩;rcases h4 with h4|⟨h4,h5⟩
   .exact .inl h4
   .exact .inr ⟨h4,List.eq_nil_of_length_eq_zero h5⟩
  .rintro ⟨h1,h2,h3,h4⟩;refine⟨h1,h2,h3,?_⟩;rcases h4 with h4|⟨h4,h5⟩
   .exact .inl h4
   .exact .inr ⟨h4,by rw[h5];rfl⟩
 have hd:=Pv t 1 60;have hn:=hm (Px nm);constructor
 .rintro ⟨⟨h1,h2⟩,h3⟩;exact⟨h1,by have:=hd.1 (fun p hp=>((hok p).1 (h2 p hp)).1);omega,hn.2 (fun p hp=>((hok p).1 (h2 p hp)).2),h3⟩
 .rintro ⟨h1,h2,h3,h4⟩;exact⟨⟨h1,fun p hp=>(hok p).2 ⟨hd.2 (by omega) p hp,hn.1 h3 p hp⟩⟩,h4⟩
theorem agD {nm:By->Bool} {t:Tm} (h: ∀x∈aV t,Px nm x):tZ t:=fun x hx hs=>(h x hx).2.2.elim (fun e=>absurd e hs) (fun e=>e.2)
theorem RJ {nm:By->Bool} {t:Tm} (h:wf nm t=true):tZ t:=agD (mF.1 h).2.2.1
theorem yt {nm:By->Bool} {t:Tm} (h:wf nm t=true):AscK (Prod.fst:Vd->By) (aO t)/\∀f,f∈aO t<->f∈cu t:=by
 have hs:(jv t).isSome=true:=by
  unfold wf at h;rw[Bool.and_eq_true] at h;exact h.2
 obtain⟨m,hm⟩:=Option.isSome_iff_exists.1 hs;obtain⟨_,h1⟩:=zZ (vl (aV t)) [] [] List.Pairwise.nil (fun _=>rfl) (fun _=>Iff.rfl);obtain⟨a,_,b⟩:=h1 m hm;have hnil:Cons []:=fun f hf=>by cases hf
 obtain⟨h2,_⟩:=zY (vl (aV t)) [] hnil;obtain⟨_,c,_⟩:=h2 m hm;refine⟨a,fun f=>?_⟩;show f∈(dm [] (vl (aV t))).1<->f∈vl (aV t);rw[b f,c f];simp
theorem Oq {σ:Su}: ∀t:Tm,∀x∈aV (gu σ t),(∃y∈aV t,y.sort=ah/\x.sort=ah/\x.name=y.name/\x.kids.length=y.kids.length)\/∃f∈cu t,x∈aV (σ f.1 f.2):=by
 refine Tm.ind (fun n s L ih=>?_);intro x hx;by_cases hs:s=ah
 .subst hs;rw[rD,lq,List.mem_cons] at hx;rcases hx with e|hx
  .subst e;exact .inl ⟨_,iZ _,rfl,rfl,rfl,by simp[Tm.kids]⟩
  .obtain ⟨y,hy,hx⟩:=List.mem_flatMap.1 hx;obtain⟨z,hz,rfl⟩:=List.mem_map.1 hy;rcases ih z hz x hx with⟨y,hy,h⟩|⟨f,hf,h⟩
   .exact .inl ⟨y,kG (t:= .mk n ah L) hz hy,h⟩
   .exact .inr ⟨f,by rw[sU];exact List.mem_flatMap.2 ⟨z,hz,hf⟩,h⟩
 .rw [nU σ hs] at hx;exact .inr ⟨_,lN hs L,hx⟩
section
open Go.RowKit
def xK (W:World) (k:Nat):Prop:= ∃cs fz,W.heap[k]?=some (.cells cs 3 fz)
theorem xK.ext {W W':World} {k:Nat} (h:xK W k) (hE:Ext W W'):xK W' k:=by
 obtain⟨cs,fz,h⟩:=h;exact⟨cs,fz,hE.heap h (fun h=>h)⟩
theorem xK.lt {W:World} {k:Nat} (h:xK W k):k<W.heap.size:=by
 obtain⟨cs,fz,h⟩:=h;exact(Array.getElem?_eq_some_iff.1 h).1
theorem abw {W:World} {b size n:Nat} {v:Value} {xs:List Value} (h:W.ownsRow b 3 size v n xs) {k:Nat} (hk:v.ownBlock=some k):xK W k:=by
 rcases h.2 with⟨e,_⟩|⟨g,cap,cur,e,_,h3,_⟩
 .rw [e] at hk;cases hk
 .rw [e] at hk;injection hk with hk
  rw[<-hk];exact⟨_,_,h3⟩
end
end Go.Hw
namespace Go.Hw.PG
open Go.RowKit Go.Hw
section
section
variable {P:Program} {ops:Array Oper} {Q:Exit->Act->World->Prop} {α:Type} {w0:World} {Qt:Act->World->Prop} {dp:Nat->List Nat} {n:Nat} {md:Region.Mode} {fl:List Nat} {lI:Nat}
structure dN (α:Type) where
 val:α->Value
 R:α->World->Prop
 st: ∀x W W',R x W->Ext W W'->R x W'
 f:α->Nat->Prop
 lt: ∀x W k,R x W->f x k->k<W.heap.size
abbrev xk:=PI.xk
abbrev su:=PI.su
variable {aZ:Nat->Option (dN α)}
def dN.i (A:dN α):PI.dN α:=⟨A.val,A.R,fun _=>False,fun _=>False,fun x W W' _ h hU hF=>A.st x W W' h (hU.mono fun k _ e=>hF k e),fun _=>True,fun _ _ _ _ _ _=>trivial,A.f,A.lt⟩
def Can (P:Program) (ops:Array Oper) (Qt:Act->World->Prop) (w0:World) (dp:Nat->List Nat) (aZ:Nat->Option (dN α)) (r:List Oper) (i:Nat) (G:List xk) (a:Act):Prop:=
 PI.Can P ops Qt w0 (fun _=>False) dp (fun i=>(aZ i).map dN.i) r i G a
theorem bP {id:Nat} {a:Act} {w:World} {l0:List Oper} [Inhabited α] (n:Nat) (fl:List Nat) (lI:Nat) (tail:List (Nat×Nat)) (E5:List (List Nat)) (mi:List (Option (dN α))) (E8:List Bool) (hm:P.follows .mixedOrders=true)
  (hB:G_ l0.toArray n a.tmps.size (fun i=>E5.getD i []) (fun i=>E8.getD i false) fl lI tail=true) (yf:mi.map (·.isSome)=E8)
  (hQ: ∀c a d v w,Q (.panic c) (Act.put a d v) w->Q (.panic c) a w)
  (h:Can P l0.toArray (fun a W=>bW P l0.toArray Q (fun _=>True) (fF l0 tail) a W) w (fun i=>E5.getD i []) (fun i=>mi.getD i none) (l0.take n) 0 [] a):(Code.region id l0.toArray true).wp P Q a w:=by
 have e:(fun i=>(mi.map (·.map dN.i)).getD i none)=fun i=>(mi.getD i none).map dN.i:=by
  funext i;simp only[List.getD_eq_getElem?_getD,List.getElem?_map];cases mi[i]?<;>rfl
 have hA: ∀i A,(mi.map (·.map dN.i)).getD i none=some A->∃B:dN α,A=B.i:=fun i A h=>by
  rw[show(mi.map (·.map dN.i)).getD i none=(mi.getD i none).map dN.i from congrFun e i] at h;cases hg:mi.getD i none with
  |none=>rw[hg] at h;cases h
  |some B=>rw[hg] at h;exact⟨B,(Option.some.inj h).symm⟩
 refine PI.bP (fun _=>False) n fl lI tail E5 (mi.map (·.map dN.i)) E8 hm hB (by rw[<-yf,List.map_map];refine List.map_congr_left fun x _=>?_;cases x<;>rfl) hQ ⟨fun i A j B h _ _ k hk=>?_,fun i A h k hk=>?_⟩ (fun i A h=>?_) (by rw[e];exact h)
 .obtain ⟨B,rfl⟩:=hA i A h;exact hk.elim
 .obtain ⟨B,rfl⟩:=hA i A h;exact hk
 .obtain ⟨B,rfl⟩:=hA i A h;trivial
theorem qM {o:Oper} {r:List Oper} {i:Nat} {G:List xk} {a:Act} (ha:aZ i=none)
  (h: ∀K:Act->Prop,(∀a,Can P ops Qt w0 dp aZ r (i+1) G a->K a)->if Region.wanted o (yielded ops a.tmps) then ∃v,(∀W,Ext w0 W->(∀g∈G,g.1∈dp i->g.2.2 W)->(execOp a.eval o).run P W= .ok (.value v) W)/\K (a.put o.dst v) else K (a.put o.dst undef)):
  Can P ops Qt w0 dp aZ (o::r) i G a:=PI.qM (by simp only[ha];rfl) h
theorem aH {o:Oper} {r:List Oper} {i:Nat} {G:List xk} {a:Act} (A:dN α) (ha:aZ i=some A) (hw:Region.wanted o (yielded ops a.tmps)=true)
  (h1: ∀W,Ext w0 W->(∀g∈G,g.1∈dp i->g.2.2 W)->∀K:Act->World->Prop,(∀x W',Ext W W'->A.R x W'->(∀k,A.f x k->W.heap.size<=k)->K (a.put o.dst (A.val x)) W')->o.wp P a W K (fun _ _ _=>False))
  (h2: ∀K:Act->Prop,∀x,(∀a,Can P ops Qt w0 dp aZ r (i+1) (G++[(i,A.f x,A.R x)]) a->K a)->K (a.put o.dst (A.val x))):
  Can P ops Qt w0 dp aZ (o::r) i G a:=PI.aH A.i (by simp only[ha];rfl) hw (fun W hW hG _ K hK=>h1 W hW hG K hK) h2
theorem gJ {i:Nat} {G:List xk} {a:Act} (h: ∀W,Ext w0 W->(∀g∈G,g.2.2 W)->su G->Qt a W):Can P ops Qt w0 dp aZ [] i G a:=PI.gJ h
theorem aS {o:Oper} {r:List Oper} {i:Nat} {G:List xk} {a:Act} (ha:aZ i=none)
  (h: ∀K:Act->Prop,(∀a,Can P ops Qt w0 dp aZ r (i+1) G a->K a)->if Region.wanted o (yielded ops a.tmps) then ∃v,(∀x:XW w0,(execOp a.eval o).run P x.val= .ok (.value v) x.val)/\K (a.put o.dst v) else K (a.put o.dst undef)):
  Can P ops Qt w0 dp aZ (o::r) i G a:=by
 refine qM ha fun K hK=>?_;have h2:=h K hK;by_cases hw:Region.wanted o (yielded ops a.tmps)=true
 .rw [if_pos hw] at h2⊢;obtain⟨v,hv,h3⟩:=h2;exact⟨v,fun W hW _=>hv ⟨W,hW⟩,h3⟩
 .rw [if_neg hw] at h2⊢;exact h2
end
end
end Go.Hw.PG
namespace Go.Hw
open Go.RowKit
section
section
variable {P:Program} (w:World)
theorem xh {o:Oper} {a:Act} {K:Act->World->Prop} {Q:Exit->Act->World->Prop} (s x:Operand) (t:TypeId)
  (ho:o.op= .call {callee:= .builtin .append,args:= #[s,x],argTypes:= #[t,t]})
  (e:TypeId) (i:TypeInfo) (z:Value) (bytes:Nat) (ht:P.underlying t=some (.slice e)) (hi:P.info? e=some i) (hz:i.zero=some z)
  (hsize:i.size=1) (hby:i.bytes=bytes) (S:Nat->Prop)
  (q:Option Addr) (n:Nat) (xs:List Value) (hs:a.eval s= .slice q n n) (hold:aA S w 1 (.slice q n n) n xs)
  (g c:Nat) (u:Value) (hx:a.eval x= .slice (some ⟨g,0,none⟩) 1 c) (hu:w.cell? ⟨g,0,none⟩=some u)
  (h63:n+1<=maxLen) (hbytes:(n+1)*bytes<=140737488355328)
  (h: ∀c' w',Ext w w'->w.heap.size<w'.heap.size->aA (fun k=>k=w.heap.size) w' 1 (.slice (some ⟨w.heap.size,0,none⟩) (n+1) c') (n+1) (xs++[u])->K (a.put o.dst (.slice (some ⟨w.heap.size,0,none⟩) (n+1) c')) w'):o.wp P a w K Q:=by
 have hxl:xs.length=n:=by have:=hold.1;omega
 have hnews: ∀j v,[u][j]?=some v->w.cell? ((⟨g,0,none⟩:Addr).add j)=some v:=by
  intro j v hv
  match j,hv with
  |0,hv=>simp only[List.getElem?_cons_zero,Option.some.injEq] at hv;subst hv;exact hu
 have hrun:(Builtin.append_ #[t,t] o.type #[.slice q n n,.slice (some ⟨g,0,none⟩) 1 c]).run P w=
   .ok (.slice (some ⟨w.heap.size,0,none⟩) (n+1) (grownCap w (n+1) n e)) (w.drew.alloc (.cells (xs.toArray++[u].toArray++Builtin.zeroCells z.cells (grownCap w (n+1) n e- (n+1))) e)):=by
  rcases hold.2 with⟨hv,hm⟩|⟨ad,cap,hv,hc,hgg,hj⟩
  .injection hv with h1 h2 h3
   subst h1;subst hm;have hn:xs=[]:=List.eq_nil_of_length_eq_zero hxl;subst hn;have:=run_append_nil (P:=P) w t o.type e i z ht hi hz ⟨g,0,none⟩ 1 c [u] (by simp[hsize]) hnews (by omega) (by omega) (by subst hby;omega);simpa using this
  .injection hv with h1 h2 h3
   subst h1;subst h3;refine run_append_grow (P:=P) w t o.type e i z ht hi hz ad n n xs (by rw[hxl,hsize];omega) (fun j v hjv=>?_) ⟨g,0,none⟩ 1 c [u] (by simp[hsize]) hnews (by omega) (by simp only[maxLen] at h63;omega) (growslice_fits (by omega) (by subst hby;exact hbytes));have hlt:j<n:=by rw[<-hxl];exact(List.getElem?_eq_some_iff.1 hjv).1
   rw[<-hjv,<-hj j (by omega)];obtain⟨gg,off,spot⟩:=ad;have hsp:=(hgg (by omega)).1;simp only at hsp;subst hsp
   congr 1
   unfold Addr.add;split
   .rename_i h0;simp[h0]
   .rfl
 unfold Oper.wp execOp;simp only[ho,resolve,invoke,builtin,Sem.run_bind,Sem.run_pure,Result.andThen_ok,List.map_toArray,List.map_cons,List.map_nil,hs,hx,hrun];have hE:Ext w (w.drew.alloc (.cells (xs.toArray++[u].toArray++Builtin.zeroCells z.cells (grownCap w (n+1) n e- (n+1))) e)):=((uR w).drew).alloc _;refine h _ _ hE (by show w.heap.size< (w.heap.push _).size;simp) ⟨by rw[List.length_append,hxl];simp,.inr ⟨_,_,rfl,?_,fun _=>⟨rfl,rfl⟩,fun j hj=>?_⟩⟩
 .exact grownCap_ge ..
 .have hb:=aj w.drew (.cells (xs.toArray++[u].toArray++Builtin.zeroCells z.cells (grownCap w (n+1) n e- (n+1))) e);have hb2:=cell_of_row _ _ j _ _ _ hb;rw[Nat.zero_add];refine hb2.trans ?_;have hj2:j< (xs.toArray++[u].toArray).size:=by simp[hxl];omega
  rw[Array.getElem?_append_left hj2];simp
theorem aA.clip {S:Nat->Prop} {w:World} {q:Option Addr} {n c size:Nat} {xs:List Value} (h:aA S w size (.slice q n c) n xs):aA S w size (.slice q n n) n xs/\n<=c/\(q=none->n=0/\c=0):=by
 obtain⟨h1,⟨hv,hm⟩|⟨ad,cap,hv,hc,hg,hj⟩⟩:=h
 .injection hv with e1 e2 e3
  subst e1;subst e2;subst e3;exact⟨⟨h1,.inl ⟨rfl,rfl⟩⟩,Nat.le_refl _,fun _=>⟨rfl,rfl⟩⟩
 .injection hv with e1 e2 e3
  subst e1;subst e3;exact⟨⟨h1,.inr ⟨ad,n,rfl,Nat.le_refl _,hg,hj⟩⟩,hc,fun e=>by cases e⟩
end
end
section
open Tm
section
variable {nm:By->Bool}
theorem Ah {t:Tm} {f:Vd} (h:f∈cu t): ∃x∈aV t,x.name=f.1/\x.sort=f.2:=by
 unfold cu vl at h;rw[List.mem_filterMap] at h;obtain⟨x,hx,e⟩:=h;by_cases hs:x.sort=ah
 .rw [if_pos hs] at e;cases e
 .rw [if_neg hs] at e;injection e with e
  exact⟨x,hx,by rw[<-e],by rw[<-e]⟩
theorem abo (t:Tm):(cu t).length<=t.size:=by
 have h1:(cu t).length<=(aV t).length:=List.length_filterMap_le _ _;have h2:(aV t).length=t.size:=by rw[aV,List.length_map,jR]
 omega
variable {X:List Vd} {a b:Tm} {θ:Su}
end
end
section
open Tm
theorem WU (N:Nat): ∀(p t:Tm) (σ τ:Sb),jI p t σ=some τ->t.size<=N->(∀n x,σ n=some x->x.size<=N)->∀n x,τ n=some x->x.size<=N:=by
 refine Tm.ind (fun n s L ih=>?_);intro t σ τ h ht hσ;by_cases hs:s=ah
 .subst hs;by_cases hc:t.sort=ah/\t.name=n/\t.kids.length=L.length
  .rw [I4 hc] at h;have key: ∀(L M:List Tm),(∀x∈L,∀(t:Tm) (σ τ:Sb),jI x t σ=some τ->t.size<=N->(∀n x,σ n=some x->x.size<=N)->∀n x,τ n=some x->x.size<=N)->(∀x∈M,x.size<=N)->∀σ τ,ny L M σ=some τ->(∀n x,σ n=some x->x.size<=N)->∀n x,τ n=some x->x.size<=N:=by
    intro L
    induction L with
    |nil=>
     intro M _ _ σ τ h hσ;unfold ny at h;injection h with h
     subst h;exact hσ
    |cons a L ihL=>
     intro M hx hM σ τ h hσ;cases M with
     |nil=>unfold ny at h;cases h
     |cons b M=>
      unfold ny at h;cases hm:jI a b σ with
      |none=>rw[hm] at h;cases h
      |some υ=>
       rw[hm] at h;exact ihL M (fun x hx'=>hx x (List.mem_cons_of_mem _ hx')) (fun x hx'=>hM x (List.mem_cons_of_mem _ hx')) υ τ h (hx a (List.mem_cons_self ..) b σ υ hm (hM b (List.mem_cons_self ..)) hσ)
   exact key L t.kids ih (fun x hx=>by have:=uA hx;omega) σ τ h hσ
  .rw [zh hc] at h;cases h
 .cases hx:σ n with
  |some x=>
   rw[CU hs hx] at h;split at h
   .injection h with h
    subst h;exact hσ
   .cases h
  |none=>
   rw[zX hs hx] at h;split at h
   .cases h
   .injection h with h
    subst h;intro m x hm;have hm:(if m=n then some t else σ m)=some x:=hm;split at hm
    .injection hm with hm
     subst hm;exact ht
    .exact hσ m x hm
theorem Y6 (N:Nat) (h1:1<=N) (σ:Sb) (hσ: ∀n x,σ n=some x->x.size<=N): ∀t:Tm,(jJ σ t).size<=t.size*N:=by
 refine Tm.ind (fun n s L ih=>?_);by_cases hs:s=ah
 .subst hs;rw[Qb];have key: ∀M:List Tm,(∀x∈M,(jJ σ x).size<=x.size*N)->sizes (M.map (jJ σ))<=sizes M*N:=by
   intro M
   induction M with
   |nil=>intro _;simp[sizes]
   |cons a M VI=>
    intro h;have g1:=h a (List.mem_cons_self ..);have g2:=VI (fun x hx=>h x (List.mem_cons_of_mem _ hx));simp only[List.map_cons,sizes,Nat.add_mul];omega
  have h2:=key L ih;have e1:(Tm.mk n ah (L.map (jJ σ))).size=sizes (L.map (jJ σ))+1:=rfl;have e2:(Tm.mk n ah L).size=sizes L+1:=rfl;rw[e1,e2,Nat.add_mul];omega
 .rw [MK σ hs];have e2:(Tm.mk n s L).size=sizes L+1:=rfl;rw[e2,Nat.add_mul,Nat.one_mul];cases h:σ n with
  |none=>
   have:((none:Option Tm).getD default).size=1:=rfl;omega
  |some x=>
   have:=hσ n x h;rw[Option.getD_some];omega
theorem O8 {r:Rl} {t u:Tm} (h:jT r t=some u):u.size<=r.2.size*t.size:=by
 unfold jT at h;cases hm:jI r.1 t sb0 with
 |none=>rw[hm] at h;cases h
 |some σ=>
  rw[hm] at h;injection h with h
  subst h;exact Y6 t.size (size_pos t) σ (WU t.size r.1 t sb0 σ hm (Nat.le_refl _) (fun n x h=>by cases h)) r.2
theorem wI: ∀(p:List Nat) (t:Tm),pF t p->(uz t p).size<=t.size
 |[],t,_=>Nat.le_refl _
 |i::p,t,h=>by
  have h1:=wI p _ h.2;have h2:(tg t.kids i).size<t.size:=uA (by unfold tg;rw[List.getD_eq_getElem?_getD,List.getElem?_eq_getElem h.1];exact List.getElem_mem h.1);show(uz (tg t.kids i) p).size<=_;omega
theorem LC {l:List Rl} {t:Tm} {i:Nat} {p:List Nat} {u:Tm} {N:Nat} (h:oM l t=some (i,p,u)) (hl: ∀r∈l,r.2.size<=N):u.size<=N*t.size:=by
 obtain⟨h1,h2,h3⟩:=IU l t i p u h;have h4:=O8 h3;have h5:=hl _ (pX h2);have h6:=wI p t h1;exact Nat.le_trans h4 (Nat.mul_le_mul h5 h6)
theorem Eu: ∀(p:List Nat) (t:Tm),pF t p->p.length<t.size
 |[],t,_=>size_pos t
 |i::p,t,h=>by
  have h1:=Eu p _ h.2;have h2:(tg t.kids i).size<t.size:=uA (by unfold tg;rw[List.getD_eq_getElem?_getD,List.getElem?_eq_getElem h.1];exact List.getElem_mem h.1);simp only[List.length_cons];omega
theorem Y7 {B:List Bd} {n s:By} {t:Tm} (h:bf B n=none):bf (B++[(n,s,t)])=Sb.put (bf B) n t:=by
 funext m;rw[Eo];unfold Sb.put;by_cases e:m=n
 .subst e;rw[h];simp
 .rw [if_neg e,if_neg (fun e2=>e e2.symm)];cases bf B m<;>rfl
theorem ag3 {X:List Vd} (hX:Cons X): ∀(p t:Tm) (B:List Bd),tZ p->(∀f∈cu p,f∈X)->qm X (fun _=>True) B->jI p t (bf B)=(jG p t B).map bf:=by
 refine Tm.ind (fun n s L ih=>?_);intro t B hp hv hI;by_cases hs:s=ah
 .subst hs;by_cases hc:t.sort=ah/\t.name=n/\t.kids.length=L.length
  .rw [I4 hc,NL hc];have key: ∀(L M:List Tm),(∀x∈L,∀(t:Tm) (B:List Bd),tZ x->(∀f∈cu x,f∈X)->qm X (fun _=>True) B->jI x t (bf B)=(jG x t B).map bf)->M.length=L.length->(∀x∈L,tZ x)->(∀x∈L,∀f∈cu x,f∈X)->∀B,qm X (fun _=>True) B->ny L M (bf B)=(pU L M B).map bf:=by
    intro L
    induction L with
    |nil=>intro M _ _ _ _ B _;unfold ny pU;rfl
    |cons a L ihL=>
     intro M hx hl hn hvv B hI
     match M,hl with
     |b::M,hl=>
      unfold ny pU;rw[hx a (List.mem_cons_self ..) b B (hn a (List.mem_cons_self ..)) (hvv a (List.mem_cons_self ..)) hI];cases hm:jG a b B with
      |none=>rfl
      |some E=>
       have h1:=(zF (X:=X) (Y:=fun _=>True) (fun _ _ _ _=>trivial) a b B E hm (hn a (List.mem_cons_self ..)) (hvv a (List.mem_cons_self ..)) trivial hI).1;exact ihL M (fun x hx'=>hx x (List.mem_cons_of_mem _ hx')) (by simpa using hl) (fun x hx'=>hn x (List.mem_cons_of_mem _ hx')) (fun x hx'=>hvv x (List.mem_cons_of_mem _ hx')) E h1
   exact key L t.kids ih hc.2.2 (fun x hx=>hp.kid hx) (fun x hx f hf=>hv f (by rw[sU];exact List.mem_flatMap.2 ⟨x,hx,hf⟩)) B hI
  .rw [zh hc,DK hc];rfl
 .have hnX:=hv _ (lN hs L);cases hg:bf B n with
  |some x=>
   rw[CU hs hg];obtain⟨b,hb,h1,h2⟩:=rE hg;have hsrt:x.sort≠ah->x.sort=s:=fun h=>by
    have h3:=hI.srt b hb (by rw[h2];exact h);have h4:=hX _ (hI.inX b hb) _ hnX h1;rw[h2] at h3;rw[h3];exact h4
   by_cases hc:t.sort≠ah/\t.sort≠s
   .rw [Af hs hc];have: ¬x=t:=fun e=>by
     have:=hsrt (by rw[e];exact hc.1);rw[e] at this;exact hc.2 this
    rw[if_neg this];rfl
   .rw [Ae hs hc hg];by_cases e:x=t
    .rw [if_pos e,if_pos e];rfl
    .rw [if_neg e,if_neg e];rfl
  |none=>
   have hm:jI (.mk n s L) t (bf B)=if t.sort≠ah/\t.sort≠s then none else some (Sb.put (bf B) n t):=by
    unfold jI;rw[if_neg hs,hg]
   rw[hm];by_cases hc:t.sort≠ah/\t.sort≠s
   .rw [Af hs hc,if_pos hc];rfl
   .rw [EC hs hc hg,if_neg hc,Option.map_some,Y7 hg]
theorem Y8:bf []=sb0:=by funext n;rfl
theorem aem {nm:By->Bool} {r:Rl} {t:Tm} (h1:wf nm r.1=true) (hv: ∀f∈cu r.2,f∈cu r.1):jT r t=(jG r.1 t []).map fun B=>bu B r.2:=by
 unfold jT;have h2:=ag3 (mF.1 h1).2.2.2 r.1 t [] (RJ h1) (fun f hf=>hf) (qm.nil _ _);rw[Y8] at h2;rw[h2];cases hm:jG r.1 t [] with
 |none=>rfl
 |some B=>
  have h3:=(zF (X:=cu r.1) (Y:=fun _=>True) (fun _ _ _ _=>trivial) r.1 t [] B hm (RJ h1) (fun f hf=>hf) trivial (qm.nil _ _)).2.2.1;simp only[Option.map_some]
  congr 1
  unfold jJ bu;refine WV r.2 (fun f hf=>?_);obtain⟨x,hx⟩:=h3 f (hv f hf);show(bf B f.1).getD default=(bf B f.1).getD (vr f.1 f.2);rw[hx];rfl
theorem La (t u:Tm):putAt t [] u=u:=by cases t;rfl
theorem IP (n s:By) (L:List Tm) (i:Nat) (p:List Nat) (u:Tm):putAt (.mk n s L) (i::p) u= .mk n s (L.set i (putAt (tg L i) p u)):=rfl
theorem Jy {L:List Tm} {i:Nat} (h:i<L.length):tg L i∈L:=by unfold tg;rw[List.getD_eq_getElem?_getD,List.getElem?_eq_getElem h];exact List.getElem_mem h
theorem QZ {x y:Tm} (h:x∈aV y) {f:Vd} (hf:f∈cu x):f∈cu y:=by
 obtain⟨z,hz,h1,h2⟩:=Ah hf;have hs:=Ib hf;have hzy:=Ui h hz;unfold cu vl;refine List.mem_filterMap.2 ⟨z,hzy,?_⟩;rw[if_neg (by rw[h2];exact hs),h1,h2]
theorem yx (u:Tm): ∀(p:List Nat) (t:Tm),pF t p->∀f∈cu (putAt t p u),f∈cu t\/f∈cu u
 |[],t,_,f,hf=>by rw[La] at hf;exact .inr hf
 |i::p,.mk n s L,h,f,hf=>by
  rw[IP] at hf;by_cases hs:s=ah
  .subst hs;rw[sU] at hf⊢;obtain⟨x,hx,hf⟩:=List.mem_flatMap.1 hf;rcases List.mem_or_eq_of_mem_set hx with hx|hx
   .exact .inl (List.mem_flatMap.2 ⟨x,hx,hf⟩)
   .subst hx;rcases yx u p _ h.2 f hf with h2|h2
    .exact .inl (List.mem_flatMap.2 ⟨_,Jy h.1,h2⟩)
    .exact .inr h2
  .obtain ⟨x,hx,h1,h2⟩:=Ah hf;rw[lq,List.mem_cons] at hx;rcases hx with hx|hx
   .subst hx;have:f=(n,s):=Prod.ext h1.symm h2.symm;rw[this];exact .inl (lN hs L)
   .obtain ⟨y,hy,hxy⟩:=List.mem_flatMap.1 hx;have hfy:f∈cu y:=by
     have h3:f∈cu x:=by
      obtain⟨m,r,K⟩:=x;simp only[Tm.name,Tm.sort] at h1 h2;have:f=(m,r):=Prod.ext h1.symm h2.symm;rw[this];refine lN (fun e=>Ib hf ?_) K;rw[<-h2,e]
     exact QZ hxy h3
    rcases List.mem_or_eq_of_mem_set hy with hy|hy
    .exact .inl (zD (t:= .mk n s L) hy hfy)
    .subst hy;rcases yx u p _ h.2 f hfy with h4|h4
     .exact .inl (zD (t:= .mk n s L) (Jy h.1) h4)
     .exact .inr h4
theorem Ot: ∀(p:List Nat) (t:Tm),pF t p->∀f∈cu (uz t p),f∈cu t
 |[],t,_,f,hf=>hf
 |i::p,.mk n s L,h,f,hf=>zD (t:= .mk n s L) (Jy h.1) (Ot p _ h.2 f hf)
theorem Ku (u:Tm): ∀(p:List Nat) (t:Tm),pF t p->u.size<=(putAt t p u).size/\u.depth<=(putAt t p u).depth
 |[],t,_=>by rw[La];exact⟨Nat.le_refl _,Nat.le_refl _⟩
 |i::p,.mk n s L,h=>by
  rw[IP];have h1:u.size<=(putAt (tg L i) p u).size/\u.depth<=(putAt (tg L i) p u).depth:=Ku u p _ h.2;have hm:putAt (tg L i) p u∈L.set i (putAt (tg L i) p u):=List.mem_set (l:=L) h.1 _;have h2:=eU hm;have h3:=KY hm;have h4:=size_eq (.mk n s (L.set i (putAt (tg L i) p u)));have h5:=jH (.mk n s (L.set i (putAt (tg L i) p u)));simp only[Tm.kids] at h4 h5;omega
end
end Go.Hw
