/- The texts TAB TYB L8 TB RX UQ UR TYZ WA L9 SG, one behind the other. -/
import Derived.Test.YtlkcjmaiahnodaaGreatDoorYAC
import Derived.Test.YtlkcjmaiahnodaaGreatDoorYAB
import Derived.Test.YtlkcjmaiahnodaaGreatDoorYAD
set_option linter.unusedVariables false
set_option linter.unusedSimpArgs false
namespace Go.Hw
open Go.RowKit
section
section
variable {P:Program} (w:World)
theorem Wj {base e size m:Nat} {news:List Value} {q:Option Addr} {v':Value} {w w':World} (hsz:0<size) (hown:w.ownsRow base e size (.slice q 0 0) 0 []) (hE:Ext w w') (h2:w'.ownsRow base e size v' m news) (h5:v'.ownBlock=(Value.slice q 0 0).ownBlock\/v'.ownBlock=some w.heap.size):m=0\/v'.ownBlock=some w.heap.size:=by
 rcases h5 with h5|h5
 .by_cases hm:m=0
  .exact .inl hm
  .exfalso;rcases h2.2 with⟨_,h0⟩|⟨g',cap',cur',hv',hb',hg',hc',hm',hs',ht'⟩
   .omega
   .rcases hown.2 with⟨hq,_⟩|⟨g,cap,cur,hq,hbg,hg,hnc,hcm,hcs,htake⟩
    .injection hq with hq
     rw[hv',hq] at h5;cases h5
    .injection hq with hq e2 e3
     rw[hv',hq] at h5;have h6:some g'=some g:=h5;injection h6 with h6
     subst h6;have h7:=hE.heap hg (fun h=>h);rw[h7] at hg';injection hg' with hg'
     injection hg' with hg'
     have:0<cap'*size:=Nat.mul_pos (by omega) hsz;rw[<-hs',<-hg',hcs,<-e3] at this;simp at this
 .exact .inr h5
theorem IB {o:Oper} {a:Act} {K:Act->World->Prop} {Q:Exit->Act->World->Prop} (s x:Operand) (t:TypeId)
  (ho:o.op= .call {callee:= .builtin .append,args:= #[s,x],argTypes:= #[t,t]})
  (base:Nat) (e:TypeId) (i:TypeInfo) (z:Value) (size bytes:Nat) (ht:P.underlying t=some (.slice e)) (hi:P.info? e=some i) (hz:i.zero=some z)
  (hsize:i.size=size) (hby:i.bytes=bytes) (hzs:z.cells.size=size) (hsz:0<size)
  (v:Value) (n:Nat) (xs:List Value) (hs:a.eval s=v) (hown:w.ownsRow base e size v n xs)
  (ad:Addr) (m c:Nat) (news:List Value) (hx:a.eval x= .slice (some ad) m c) (hl:news.length=m*size) (hnews: ∀j u,news[j]?=some u->w.cell? (ad.add j)=some u) (h1: ∀u∈news,u.oneCell'=true)
  (h63:n+m<=maxLen) (hbytes:(n+m)*bytes<=140737488355328) (hbase:base<=w.heap.size)
  (h: ∀v' w',(Ext w w'\/aC (fun k=>v.ownBlock=some k) w w'/\∃a cap,v= .slice a n cap/\n+m<=cap)->w'.ownsRow base e size v' (n+m) (xs++news)->w'.ownsRow base e size v n xs->K (a.put o.dst v') w'):o.wp P a w K Q:=by
 obtain⟨v',w',hr,h2,h3,_⟩:=run_append_own (P:=P) w base t o.type e i z size bytes ht hi hz hsize hby hzs hsz v n xs hown ad m c news hl hnews h1 h63 hbytes hbase;have key:(Ext w w'\/aC (fun k=>v.ownBlock=some k) w w'/\∃a cap,v= .slice a n cap/\n+m<=cap)/\w'.ownsRow base e size v n xs:=by
  rcases hown.2 with⟨hv,hn0⟩|⟨g,cap,cur,hv,hb,hg,hnc,hcm,hcs,htake⟩
  .have hE:Ext w w':=(aC.lD h3).mono (fun k _ e=>by rw[hv] at e;simp[Value.ownBlock] at e);exact⟨.inl hE,bH hown hE (fun _ _ h=>h)⟩
  .by_cases hroom:n+m<=cap
   .subst hsize;have hfit:n*i.size+news.length<=cur.size:=by rw[hl,hcs,<-Nat.add_mul];exact Nat.mul_le_mul_right _ hroom
    have hr2:=run_append_room (P:=P) w t o.type e i ht hi g n cap cur hg ad m c news hl hnews h1 hroom hfit;rw[hv,hr2] at hr;injection hr with hr1 hr3
    rw[<-hr1] at h2;refine⟨.inr ⟨(aC.lD h3).mono fun k _ e=>e.symm,some ⟨g,0,none⟩,cap,hv,hroom⟩,?_⟩;rcases h2.2 with⟨e1,_⟩|⟨g',cap',cur',e1,hb',hg',hnc',hcm',hcs',ht'⟩
    .cases e1
    .injection e1 with e1 e2 e3
     injection e1 with e1
     injection e1 with e1
     subst e1 e3;refine⟨hown.1,.inr ⟨g,cap,cur',hv,hb,hg',hnc,hcm,hcs',?_⟩⟩;have h9:=congrArg (List.take (n*i.size)) ht';rw[List.take_take,Nat.min_eq_left (by rw[Nat.add_mul];omega)] at h9;rw[h9,List.take_append_of_le_length (by rw[hown.1];exact Nat.le_refl _),List.take_of_length_le (by rw[hown.1];exact Nat.le_refl _)]
   .subst hsize;subst hby
    have hcell: ∀j u,xs[j]?=some u->w.cell? ((⟨g,0,none⟩:Addr).add j)=some u:=fun j u hu=>by
     have hj:j<n*i.size:=by rw[<-hown.1];exact(List.getElem?_eq_some_iff.1 hu).1
     have hown':=hown;rw[hv] at hown';have h9:=World.ownsRow.cellAt hown' j hj;rw[hu] at h9;rw[<-h9,Addr.add_lit,Nat.zero_add]
    have hr2:=run_append_grow (P:=P) w t o.type e i z ht hi hz ⟨g,0,none⟩ n cap xs hown.1 hcell ad m c news hl hnews (by omega) (by simp only[maxLen] at h63;omega) (growslice_fits (by omega) hbytes);rw[hv,hr2] at hr;injection hr with _ hr
    have hE:Ext w w':=⟨h3.os,h3.tape,h3.output,h3.size,fun k hk _=>by rw[<-hr];exact Go.heap_alloc_old w.drew _ (by simpa using hk)⟩
    exact⟨.inl hE,bH hown hE (fun _ _ h=>h)⟩
 unfold Oper.wp execOp;simp only[ho,resolve,invoke,builtin,Sem.run_bind,Sem.run_pure,Result.andThen_ok,List.map_toArray,List.map_cons,List.map_nil,hs,hx,hr];exact h v' w' key.1 h2 key.2
end
section
variable {P:Program} (w:World)
theorem Iz {o:Oper} {a:Act} {K:Act->World->Prop} {Q:Exit->Act->World->Prop} (s x:Operand) (t:TypeId)
  (ho:o.op= .call {callee:= .builtin .append,args:= #[s,x],argTypes:= #[t,t]})
  (base:Nat) (e:TypeId) (i:TypeInfo) (z:Value) (size bytes:Nat) (ht:P.underlying t=some (.slice e)) (hi:P.info? e=some i) (hz:i.zero=some z)
  (hsize:i.size=size) (hby:i.bytes=bytes) (hzs:z.cells.size=size) (hsz:0<size)
  (q:Option Addr) (hs:a.eval s= .slice q 0 0) (hown:w.ownsRow base e size (.slice q 0 0) 0 [])
  (S:Nat->Prop) (sv:Value) (m:Nat) (news:List Value) (hx:a.eval x=sv) (hsl:aG S w size sv m news) (h1: ∀u∈news,u.oneCell'=true)
  (h63:m<=maxLen) (hbytes:m*bytes<=140737488355328) (hbase:base<=w.heap.size)
  (h: ∀v' w',Ext w w'->w'.ownsRow base e size v' m news->(m=0->v'= .slice q 0 0)->(m=0\/v'.ownBlock=some w.heap.size)->K (a.put o.dst v') w'):o.wp P a w K Q:=by
 have hem: ∀v' w',(Builtin.append_ #[t,t] o.type #[.slice q 0 0,sv]).run P w= .ok v' w'->w.grownBy w' (Value.ownBlock (.slice q 0 0))->Ext w w':=by
  intro v' w' hr hgr;refine⟨hgr.os,hgr.tape,hgr.output,hgr.size,fun k hk _=>?_⟩;rcases hown.2 with⟨hq,_⟩|⟨g,cap,cur,hq,hbg,hg,hnc,hcm,hcs,htake⟩
  .injection hq with hq
   subst hq;exact hgr.block k hk (by simp[Value.ownBlock])
  .injection hq with hq h2 h3
   subst hq;subst h3;by_cases hkg:k=g
   .subst hkg;rcases hsl.2 with⟨hv,hm⟩|⟨ad,c,hv,hc,hgg,hj⟩
    .have hr2:=run_append_owned_none (P:=P) w base t o.type e i size ht hi _ 0 [] hown;rw[hv,hr2] at hr;injection hr with _ hr
     rw[hr]
    .have hnews: ∀j u,news[j]?=some u->w.cell? (ad.add j)=some u:=by
      intro j u hu;have hlt:j<m*size:=by rw[<-hsl.1];exact(List.getElem?_eq_some_iff.1 hu).1
      rw[<-hu,<-hj j hlt];obtain⟨g,off,spot⟩:=ad;have hsp:=(hgg (oq hlt)).1;simp only at hsp;subst hsp
      congr 1
      unfold Addr.add;split
      .rename_i h0;simp[h0]
      .rfl
     subst hsize;by_cases hm:m=0
     .subst hm;have hn:news=[]:=List.eq_nil_of_length_eq_zero (by rw[hsl.1];simp);subst hn;rw[hv,run_append_room (P:=P) w t o.type e i ht hi k 0 0 cur hg ad 0 c [] (by simp) hnews h1 (Nat.le_refl _) (by simp)] at hr;injection hr with _ hr
      rw[<-hr,setRow_heap w k cur _ e _ hg,hg];simp
     .rw [hv,run_append_grow (P:=P) w t o.type e i z ht hi hz ⟨k,0,none⟩ 0 0 [] (by simp) (fun j v h=>by simp at h) ad m c news hsl.1 hnews (by omega) (by simp only[maxLen] at h63;omega) (growslice_fits (by omega) (by subst hby;simpa using hbytes))] at hr;injection hr with _ hr
      rw[<-hr];exact Go.heap_alloc_old w.drew _ (by simpa using hk)
   .exact hgr.block k hk (by simp[Value.ownBlock];exact hkg)
 rcases hsl.2 with⟨hv,hm⟩|⟨ad,c,hv,hc,hgg,hj⟩
 .have hr:=run_append_owned_none (P:=P) w base t o.type e i size ht hi _ 0 [] hown;have hn:news=[]:=List.eq_nil_of_length_eq_zero (by rw[hsl.1,hm];simp);subst hn;subst hm;unfold Oper.wp execOp;simp only[ho,resolve,invoke,builtin,Sem.run_bind,Sem.run_pure,Result.andThen_ok,List.map_toArray,List.map_cons,List.map_nil,hs,hx,hv,hr];exact h _ w (aC.refl _ w) hown (fun _=>rfl) (.inl rfl)
 .have hnews: ∀j u,news[j]?=some u->w.cell? (ad.add j)=some u:=by
   intro j u hu;have hlt:j<m*size:=by rw[<-hsl.1];exact(List.getElem?_eq_some_iff.1 hu).1
   rw[<-hu,<-hj j hlt];obtain⟨g,off,spot⟩:=ad;have hsp:=(hgg (oq hlt)).1;simp only at hsp;subst hsp
   congr 1
   unfold Addr.add;split
   .rename_i h0;simp[h0]
   .rfl
  obtain⟨v',w',hr,h2,h3,h4⟩:=run_append_own (P:=P) w base t o.type e i z size bytes ht hi hz hsize hby hzs hsz _ 0 [] hown ad m c news hsl.1 hnews h1 (by omega) (by simpa using hbytes) hbase;have hE:=hem v' w' (by rw[hv];exact hr) h3;unfold Oper.wp execOp;simp only[ho,resolve,invoke,builtin,Sem.run_bind,Sem.run_pure,Result.andThen_ok,List.map_toArray,List.map_cons,List.map_nil,hs,hx,hv,hr];have h5:=yM (P:=P) w base t o.type e i z size bytes ht hi hz hsize hby _ 0 [] hown ad m c news hsl.1 hnews h1 (by omega) (by simpa using hbytes) hr;have h2':w'.ownsRow base e size v' m news:=by simpa using h2
  refine h v' w' hE h2' (fun hm=>?_) (Wj hsz hown hE h2' h5);subst hm;have hn:news=[]:=List.eq_nil_of_length_eq_zero (by rw[hsl.1];simp);subst hn;rcases hown.2 with⟨hq,_⟩|⟨g,cap,cur,hq,hbg,hg,hnc,hcm,hcs,_⟩
  .exact (h4.2 ⟨hq,rfl⟩).trans hq.symm
  .injection hq with hq e2 e3
   subst hq;rw[run_append_room (P:=P) w t o.type e i ht hi g 0 0 cur hg ad 0 c [] (by simp) hnews h1 (Nat.le_refl _) (by simp)] at hr;injection hr with hr
   exact hr.symm
end
end
def qU (W:World) (k:Nat):Prop:= ∃cs fz,W.heap[k]?=some (.cells cs 3 fz)
theorem qU.ext {W W':World} {k:Nat} (h:qU W k) (hE:Ext W W'):qU W' k:=by
 obtain⟨cs,fz,h⟩:=h;exact⟨cs,fz,hE.heap h (fun h=>h)⟩
theorem qU.lt {W:World} {k:Nat} (h:qU W k):k<W.heap.size:=by
 obtain⟨cs,fz,h⟩:=h;exact(Array.getElem?_eq_some_iff.1 h).1
theorem Ul {W:World} {b size n:Nat} {v:Value} {xs:List Value} (h:W.ownsRow b 3 size v n xs) {k:Nat} (hk:v.ownBlock=some k):qU W k:=by
 rcases h.2 with⟨e,_⟩|⟨g,cap,cur,e,_,h3,_⟩
 .rw [e] at hk;cases hk
 .rw [e] at hk;injection hk with hk
  rw[<-hk];exact⟨_,_,h3⟩
end Go.Hw
namespace Go.Hw.PG
open Go.RowKit Go.Hw
section
section
variable {P:Program} {ops:Array Oper} {Q:Exit->Act->World->Prop} {α:Type} {w0:World} {Qt:Act->World->Prop} {dp:Nat->List Nat} {n:Nat} {md:Region.Mode} {fl:List Nat} {jF:Nat}
structure dD (α:Type) where
 val:α->Value
 R:α->World->Prop
 st: ∀x W W',R x W->Ext W W'->R x W'
 f:α->Nat->Prop
 lt: ∀x W k,R x W->f x k->k<W.heap.size
abbrev pY:=PI.pY
abbrev yJ:=PI.yJ
variable {ann:Nat->Option (dD α)}
def dD.i (A:dD α):PI.dD α:=⟨A.val,A.R,fun _=>False,fun _=>False,fun x W W' _ h hU hF=>A.st x W W' h (hU.mono fun k _ e=>hF k e),fun _=>True,fun _ _ _ _ _ _=>trivial,A.f,A.lt⟩
def Can (P:Program) (ops:Array Oper) (Qt:Act->World->Prop) (w0:World) (dp:Nat->List Nat) (ann:Nat->Option (dD α)) (r:List Oper) (i:Nat) (G:List pY) (a:Act):Prop:=
 PI.Can P ops Qt w0 (fun _=>False) dp (fun i=>(ann i).map dD.i) r i G a
theorem cu {id:Nat} {a:Act} {w:World} {l0:List Oper} [Inhabited α] (n:Nat) (fl:List Nat) (jF:Nat) (tail:List (Nat×Nat)) (zD:List (List Nat)) (kW:List (Option (dD α))) (AY:List Bool) (hm:P.follows .mixedOrders=true)
  (hB:Gl l0.toArray n a.tmps.size (fun i=>zD.getD i []) (fun i=>AY.getD i false) fl jF tail=true) (han:kW.map (·.isSome)=AY)
  (hQ: ∀c a d v w,Q (.panic c) (Act.put a d v) w->Q (.panic c) a w)
  (h:Can P l0.toArray (fun a W=>cO P l0.toArray Q (fun _=>True) (eG l0 tail) a W) w (fun i=>zD.getD i []) (fun i=>kW.getD i none) (l0.take n) 0 [] a):(Code.region id l0.toArray true).wp P Q a w:=by
 have e:(fun i=>(kW.map (·.map dD.i)).getD i none)=fun i=>(kW.getD i none).map dD.i:=by
  funext i;simp only[List.getD_eq_getElem?_getD,List.getElem?_map];cases kW[i]?<;>rfl
 have hA: ∀i A,(kW.map (·.map dD.i)).getD i none=some A->∃B:dD α,A=B.i:=fun i A h=>by
  rw[show(kW.map (·.map dD.i)).getD i none=(kW.getD i none).map dD.i from congrFun e i] at h;cases hg:kW.getD i none with
  |none=>rw[hg] at h;cases h
  |some B=>rw[hg] at h;exact⟨B,(Option.some.inj h).symm⟩
 refine PI.cu (fun _=>False) n fl jF tail zD (kW.map (·.map dD.i)) AY hm hB (by rw[<-han,List.map_map];refine List.map_congr_left fun x _=>?_;cases x<;>rfl) hQ ⟨fun i A j B h _ _ k hk=>?_,fun i A h k hk=>?_⟩ (fun i A h=>?_) (by rw[e];exact h)
 .obtain ⟨B,rfl⟩:=hA i A h;exact hk.elim
 .obtain ⟨B,rfl⟩:=hA i A h;exact hk
 .obtain ⟨B,rfl⟩:=hA i A h;trivial
theorem oI {o:Oper} {r:List Oper} {i:Nat} {G:List pY} {a:Act} (ha:ann i=none)
  (h: ∀K:Act->Prop,(∀a,Can P ops Qt w0 dp ann r (i+1) G a->K a)->if Region.wanted o (yielded ops a.tmps) then ∃v,(∀W,Ext w0 W->(∀g∈G,g.1∈dp i->g.2.2 W)->(execOp a.eval o).run P W= .ok (.value v) W)/\K (a.put o.dst v) else K (a.put o.dst undef)):
  Can P ops Qt w0 dp ann (o::r) i G a:=PI.oI (by simp only[ha];rfl) h
theorem aO {o:Oper} {r:List Oper} {i:Nat} {G:List pY} {a:Act} (A:dD α) (ha:ann i=some A) (hw:Region.wanted o (yielded ops a.tmps)=true)
  (h1: ∀W,Ext w0 W->(∀g∈G,g.1∈dp i->g.2.2 W)->∀K:Act->World->Prop,(∀x W',Ext W W'->A.R x W'->(∀k,A.f x k->W.heap.size<=k)->K (a.put o.dst (A.val x)) W')->o.wp P a W K (fun _ _ _=>False))
  (h2: ∀K:Act->Prop,∀x,(∀a,Can P ops Qt w0 dp ann r (i+1) (G++[(i,A.f x,A.R x)]) a->K a)->K (a.put o.dst (A.val x))):
  Can P ops Qt w0 dp ann (o::r) i G a:=PI.aO A.i (by simp only[ha];rfl) hw (fun W hW hG _ K hK=>h1 W hW hG K hK) h2
theorem iP {i:Nat} {G:List pY} {a:Act} (h: ∀W,Ext w0 W->(∀g∈G,g.2.2 W)->yJ G->Qt a W):Can P ops Qt w0 dp ann [] i G a:=PI.iP h
theorem aX {o:Oper} {r:List Oper} {i:Nat} {G:List pY} {a:Act} (ha:ann i=none)
  (h: ∀K:Act->Prop,(∀a,Can P ops Qt w0 dp ann r (i+1) G a->K a)->if Region.wanted o (yielded ops a.tmps) then ∃v,(∀x:XW w0,(execOp a.eval o).run P x.val= .ok (.value v) x.val)/\K (a.put o.dst v) else K (a.put o.dst undef)):
  Can P ops Qt w0 dp ann (o::r) i G a:=by
 refine oI ha fun K hK=>?_;have h2:=h K hK;by_cases hw:Region.wanted o (yielded ops a.tmps)=true
 .rw [if_pos hw] at h2⊢;obtain⟨v,hv,h3⟩:=h2;exact⟨v,fun W hW _=>hv ⟨W,hW⟩,h3⟩
 .rw [if_neg hw] at h2⊢;exact h2
end
end
end Go.Hw.PG
namespace Go.Hw
open Go.RowKit
section
section
variable {P:Program} (w:World)
theorem yI {o:Oper} {a:Act} {K:Act->World->Prop} {Q:Exit->Act->World->Prop} (s x:Operand) (t:TypeId)
  (ho:o.op= .call {callee:= .builtin .append,args:= #[s,x],argTypes:= #[t,t]})
  (e:TypeId) (i:TypeInfo) (z:Value) (bytes:Nat) (ht:P.underlying t=some (.slice e)) (hi:P.info? e=some i) (hz:i.zero=some z)
  (hsize:i.size=1) (hby:i.bytes=bytes) (S:Nat->Prop)
  (q:Option Addr) (n:Nat) (xs:List Value) (hs:a.eval s= .slice q n n) (hold:aG S w 1 (.slice q n n) n xs)
  (g c:Nat) (u:Value) (hx:a.eval x= .slice (some ⟨g,0,none⟩) 1 c) (hu:w.cell? ⟨g,0,none⟩=some u)
  (h63:n+1<=maxLen) (hbytes:(n+1)*bytes<=140737488355328)
  (h: ∀c' w',Ext w w'->w.heap.size<w'.heap.size->aG (fun k=>k=w.heap.size) w' 1 (.slice (some ⟨w.heap.size,0,none⟩) (n+1) c') (n+1) (xs++[u])->K (a.put o.dst (.slice (some ⟨w.heap.size,0,none⟩) (n+1) c')) w'):o.wp P a w K Q:=by
 have hxl:xs.length=n:=by have:=hold.1;omega
 have hnews: ∀j v,[u][j]?=some v->w.cell? ((⟨g,0,none⟩:Addr).add j)=some v:=by
  intro j v hv
  match j,hv with
  |0,hv=>simp only[List.getElem?_cons_zero,Option.some.injEq] at hv;subst hv;exact hu
 have hrun:(Builtin.append_ #[t,t] o.type #[.slice q n n,.slice (some ⟨g,0,none⟩) 1 c]).run P w=
   .ok (.slice (some ⟨w.heap.size,0,none⟩) (n+1) (grownCap w (n+1) n e)) (w.drew.alloc (.cells (xs.toArray++[u].toArray++Builtin.zeroCells z.cells (grownCap w (n+1) n e- (n+1))) e)):=by
  rcases hold.2 with⟨hv,hm⟩|⟨ad,cap,hv,hc,hgg,hj⟩
  .injection hv with h1 h2 h3
   subst h1;subst hm;have hn:xs=[]:=List.eq_nil_of_length_eq_zero hxl;subst hn;have:=run_append_nil (P:=P) w t o.type e i z ht hi hz ⟨g,0,none⟩ 1 c [u] (by simp[hsize]) hnews (by omega) (by omega) (by subst hby;omega);simpa using this
  .injection hv with h1 h2 h3
   subst h1;subst h3;refine run_append_grow (P:=P) w t o.type e i z ht hi hz ad n n xs (by rw[hxl,hsize];omega) (fun j v hjv=>?_) ⟨g,0,none⟩ 1 c [u] (by simp[hsize]) hnews (by omega) (by simp only[maxLen] at h63;omega) (growslice_fits (by omega) (by subst hby;exact hbytes));have hlt:j<n:=by rw[<-hxl];exact(List.getElem?_eq_some_iff.1 hjv).1
   rw[<-hjv,<-hj j (by omega)];obtain⟨gg,off,spot⟩:=ad;have hsp:=(hgg (by omega)).1;simp only at hsp;subst hsp
   congr 1
   unfold Addr.add;split
   .rename_i h0;simp[h0]
   .rfl
 unfold Oper.wp execOp;simp only[ho,resolve,invoke,builtin,Sem.run_bind,Sem.run_pure,Result.andThen_ok,List.map_toArray,List.map_cons,List.map_nil,hs,hx,hrun];have hE:Ext w (w.drew.alloc (.cells (xs.toArray++[u].toArray++Builtin.zeroCells z.cells (grownCap w (n+1) n e- (n+1))) e)):=((uR w).drew).alloc _;refine h _ _ hE (by show w.heap.size< (w.heap.push _).size;simp) ⟨by rw[List.length_append,hxl];simp,.inr ⟨_,_,rfl,?_,fun _=>⟨rfl,rfl⟩,fun j hj=>?_⟩⟩
 .exact grownCap_ge ..
 .have hb:=ay w.drew (.cells (xs.toArray++[u].toArray++Builtin.zeroCells z.cells (grownCap w (n+1) n e- (n+1))) e);have hb2:=cell_of_row _ _ j _ _ _ hb;rw[Nat.zero_add];refine hb2.trans ?_;have hj2:j< (xs.toArray++[u].toArray).size:=by simp[hxl];omega
  rw[Array.getElem?_append_left hj2];simp
theorem aG.clip {S:Nat->Prop} {w:World} {q:Option Addr} {n c size:Nat} {xs:List Value} (h:aG S w size (.slice q n c) n xs):aG S w size (.slice q n n) n xs/\n<=c/\(q=none->n=0/\c=0):=by
 obtain⟨h1,⟨hv,hm⟩|⟨ad,cap,hv,hc,hg,hj⟩⟩:=h
 .injection hv with e1 e2 e3
  subst e1;subst e2;subst e3;exact⟨⟨h1,.inl ⟨rfl,rfl⟩⟩,Nat.le_refl _,fun _=>⟨rfl,rfl⟩⟩
 .injection hv with e1 e2 e3
  subst e1;subst e3;exact⟨⟨h1,.inr ⟨ad,n,rfl,Nat.le_refl _,hg,hj⟩⟩,hc,fun e=>by cases e⟩
end
end
section
open Tm
abbrev Rx:=Int×List Int
abbrev xg (l:List Rx) (i:Nat):Rx:=l.getD i (0,[])
def xw:List Rx->List Value->List Value
 |[],_=>[]
 |x::l,us=> .int .i64 x.1::us.headD tX::xw l us.tail
theorem NU: ∀(l:List Rx) (us:List Value) (i:Nat),i<l.length->(xw l us)[i*2]?=some (.int .i64 (xg l i).1)/\(xw l us)[i*2+1]?=some (ug us i)
 |x::l,us,0,_=>by
  refine⟨rfl,?_⟩;cases us<;>rfl
 |x::l,us,i+1,h=>by
  obtain⟨h0,h1⟩:=NU l us.tail i (by simpa using h);have e: ∀k,(xw (x::l) us)[(i+1)*2+k]?=(xw l us.tail)[i*2+k]?:=fun k=>by
   rw[show(i+1)*2+k=i*2+k+1+1 by omega];rfl
  refine⟨by rw[<-Nat.add_zero ((i+1)*2),e];exact h0,?_⟩;rw[e,h1];cases us<;>rfl
theorem QF {l:List Rx} {i:Nat} (h:i<l.length):xg l i=l[i]:=by unfold xg;rw[List.getD_eq_getElem?_getD,List.getElem?_eq_getElem h];rfl
theorem agb {l:List Rx} {i:Nat} (h:i<l.length):xg l i∈l:=by rw[QF h];exact List.getElem_mem h
abbrev rV (S:Nat->Prop) (w:World) (u:Value) (p:List Int):Prop:=aG S w 1 u p.length (p.map (Value.int .i64))
def nK (R S:Nat->Prop) (w:World) (v:Value) (l:List Rx):Prop:= ∃us,us.length=l.length/\aG R w 2 v l.length (xw l us)/\∀i,i<l.length->rV S w (ug us i) (xg l i).2
section
variable {R S T Q F:Nat->Prop} {w w':World} {l:List Rx} {v:Value}
theorem nK.nil (R S:Nat->Prop) (w:World):nK R S w tX []:=⟨[],rfl,aG.nil _ _ _,fun i h=>by cases h⟩
theorem nK.shape (h:nK R S w v l): ∃a cap,v= .slice a l.length cap:=by
 obtain⟨us,_,h,_⟩:=h;exact h.shape
theorem nK.kept (h:nK R S w v l) (hu:aC F w w') (hR: ∀k,R k->¬F k) (hS: ∀k,S k->¬F k):nK R S w' v l:=by
 obtain⟨us,h1,h2,h3⟩:=h;exact⟨us,h1,h2.kept hu hR,fun i hi=>(h3 i hi).kept hu hS⟩
theorem nK.ext (h:nK R S w v l) (hu:Ext w w'):nK R S w' v l:=h.kept hu (fun _ _ h=>h) (fun _ _ h=>h)
theorem nK.weaken (h:nK R S w v l) (hr: ∀k,R k->Q k) (hs: ∀k,S k->T k):nK Q T w v l:=by
 obtain⟨us,h1,h2,h3⟩:=h;exact⟨us,h1,h2.weaken hr,fun i hi=>(h3 i hi).weaken hs⟩
theorem nK.at_ {a:Option Addr} {n cap:Nat} (h:nK R S w (.slice a n cap) l) (hl:0<l.length):
  ∃g off,a=some ⟨g,off,none⟩/\R g/\∀i,i<l.length->∃ka kc,w.cell? ⟨g,off+i*2,none⟩=some (.int .i64 (xg l i).1)/\w.cell? ⟨g,off+i*2+1,none⟩=some (.slice ka (xg l i).2.length kc)/\rV S w (.slice ka (xg l i).2.length kc) (xg l i).2:=by
 obtain⟨us,hl2,h,hk⟩:=h;obtain⟨g,off,cap',e,hc,hS,hj⟩:=h.pos hl;injection e with e1 e2 e3
 refine⟨g,off,e1,hS,fun i hi=>?_⟩;obtain⟨h0,h1⟩:=NU l us i hi;obtain⟨ka,kc,e'⟩:=(hk i hi).shape;have hk':=hk i hi;rw[e'] at hk' h1;exact⟨ka,kc,by rw[hj _ (by omega),h0],by rw[Nat.add_assoc,hj _ (by omega),h1],hk'⟩
end
abbrev Xe:=Rx×Option Addr×Nat
abbrev zM (x:Xe):Value:= .slice x.2.1 x.1.2.length x.2.2
abbrev nM (x:Xe):List Value:=[.int .i64 x.1.1,zM x]
theorem RD: ∀L:List Xe,xw (L.map (·.1)) (L.map zM)=L.flatMap nM
 |[]=>rfl
 |x::L=>by rw[List.map_cons,List.map_cons,List.flatMap_cons];simp only[xw,List.headD_cons,List.tail_cons,RD L,nM,List.cons_append,List.nil_append]
theorem aiX {R S:Nat->Prop} {w:World} {v:Value} {L:List Xe} (h:aG R w 2 v L.length (L.flatMap nM)) (hk: ∀y∈L,rV S w (zM y) y.1.2):nK R S w v (L.map (·.1)):=by
 refine⟨L.map zM,by simp,by rw[RD,List.length_map];exact h,fun i hi=>?_⟩;have hi':i<L.length:=by simpa using hi
 have e1:xg (L.map (·.1)) i=(L[i]).1:=by
  unfold xg;rw[List.getD_eq_getElem?_getD,List.getElem?_map,List.getElem?_eq_getElem hi'];rfl
 have e2:ug (L.map zM) i=zM L[i]:=by
  unfold ug;rw[List.getD_eq_getElem?_getD,List.getElem?_map,List.getElem?_eq_getElem hi'];rfl
 rw[e1,e2];exact hk _ (List.getElem_mem hi')
structure zL (te:TypeId) (n0:Nat) (w:World) (v:Value) (L:List Xe):Prop where
 own:w.ownsRow n0 te 2 v L.length (L.flatMap nM)
 tl: ∀x∈L,∃Bx:Nat->Prop,rV Bx w (zM x) x.1.2/\∀j,Bx j->n0<=j/\j<w.heap.size/\v.ownBlock≠some j
theorem zL.start (te:TypeId) (n0:Nat) (w:World):zL te n0 w (.slice none 0 0) []:=⟨⟨rfl,.inl ⟨rfl,rfl⟩⟩,fun x hx=>by cases hx⟩
theorem zL.kept {te:TypeId} {n0:Nat} {w w':World} {v:Value} {L:List Xe} {F:Nat->Prop} (h:zL te n0 w v L) (hu:aC F w w') (hF: ∀j,n0<=j->j<w.heap.size->¬F j):zL te n0 w' v L:=
 ⟨bH h.own hu (fun j hj=>hF j (h.own.lt j hj).1 (h.own.lt j hj).2),fun x hx=>by
  obtain⟨Bx,h1,h2⟩:=h.tl x hx;exact⟨Bx,h1.kept hu (fun j hj=>hF j (h2 j hj).1 (h2 j hj).2.1),fun j hj=>⟨(h2 j hj).1,aF (h2 j hj).2.1 hu.size,(h2 j hj).2.2⟩⟩⟩
theorem zL.grow {te:TypeId} {n0:Nat} {w w6 w6a w7:World} {v v':Value} {L:List Xe} {x:Xe} {Bx F:Nat->Prop} (h:zL te n0 w v L) (hn:n0<=w.heap.size) (h6:Ext w w6) (hT:rV Bx w6 (zM x) x.1.2) (hB: ∀j,Bx j->w.heap.size<=j/\j<w6.heap.size)
  (hA:aC F w6 w6a) (hF: ∀j,F j->j<n0)
  (hG:Grew n0 te 2 v (L.length+1) (L.flatMap nM++nM x) w6a w7 v'):zL te n0 w7 v' (L++[x]):=by
 have hU:aC (fun j=>F j\/v.ownBlock=some j) w6 w7:=(hA.mono (fun _ _ x=> .inl x)).trans (hG.upd.mono (fun _ _ x=> .inr x));have hbn: ∀j,v'.ownBlock=some j->v.ownBlock=some j\/w6.heap.size<=j:=fun j e=>by
  rcases hG.uw with h|h
  .rw [h] at e;exact .inl e
  .rw [h] at e;injection e with e;exact .inr (by have:=hA.size;omega)
 have hs6:=h6.size;refine⟨?_,fun y hy=>?_⟩
 .have ho:=hG.own;rw[List.length_append,List.flatMap_append];simpa using ho
 .rcases List.mem_append.1 hy with hy|hy
  .obtain ⟨By_,h1,h2⟩:=h.tl y hy;refine⟨By_,((h1.kept h6 (fun _ _ x=>x)).kept hU (fun j hj e=>?_)),fun j hj=>⟨(h2 j hj).1,aF (aF (h2 j hj).2.1 hs6) hU.size,fun e=>?_⟩⟩
   .rcases e with e|e
    .have:=hF j e;have:=(h2 j hj).1;omega
    .exact (h2 j hj).2.2 e
   .rcases hbn j e with e|e
    .exact (h2 j hj).2.2 e
    .have:=(h2 j hj).2.1;omega
  .rw [List.mem_singleton] at hy;subst hy;refine⟨Bx,hT.kept hU (fun j hj e=>?_),fun j hj=>⟨Nat.le_trans hn (hB j hj).1,aF (hB j hj).2 hU.size,fun e=>?_⟩⟩
   .rcases e with e|e
    .have:=hF j e;have:=(hB j hj).1;omega
    .have h3:=(h.own.lt j e).2;have h4:=(hB j hj).1;omega
   .rcases hbn j e with e|e
    .have h3:=(h.own.lt j e).2;have h4:=(hB j hj).1;omega
    .have:=(hB j hj).2;omega
theorem zL.rx {te:TypeId} {n0:Nat} {w:World} {v:Value} {L:List Xe} (h:zL te n0 w v L):nK (fun k=>n0<=k/\k<w.heap.size) (fun k=>n0<=k/\k<w.heap.size) w v (L.map (·.1)):=
 aiX ((aG.fM h.own).weaken (fun k hk=>h.own.lt k hk)) (fun y hy=>by
  obtain⟨Bx,h1,h2⟩:=h.tl y hy;exact h1.weaken (fun j hj=>⟨(h2 j hj).1,(h2 j hj).2.1⟩))
end
section
open Tm
section
variable {nm:By->Bool}
end
end
section
open Tm
section
variable {nm:By->Bool}
theorem Cc {t:Tm} {f:Vd} (h:f∈dJ t): ∃x∈bC t,x.name=f.1/\x.sort=f.2:=by
 unfold dJ vl at h;rw[List.mem_filterMap] at h;obtain⟨x,hx,e⟩:=h;by_cases hs:x.sort=au
 .rw [if_pos hs] at e;cases e
 .rw [if_neg hs] at e;injection e with e
  exact⟨x,hx,by rw[<-e],by rw[<-e]⟩
theorem Uj (t:Tm):(dJ t).length<=t.size:=by
 have h1:(dJ t).length<=(bC t).length:=List.length_filterMap_le _ _;have h2:(bC t).length=t.size:=by rw[bC,List.length_map,kN]
 omega
variable {X:List Vd} {a b:Tm} {θ:Su}
end
end
section
open Tm
theorem YM (N:Nat): ∀(p t:Tm) (σ τ:Sb),kG p t σ=some τ->t.size<=N->(∀n x,σ n=some x->x.size<=N)->∀n x,τ n=some x->x.size<=N:=by
 refine Tm.ind (fun n s L ih=>?_);intro t σ τ h ht hσ;by_cases hs:s=au
 .subst hs;by_cases hc:t.sort=au/\t.name=n/\t.kids.length=L.length
  .rw [KC hc] at h;have key: ∀(L M:List Tm),(∀x∈L,∀(t:Tm) (σ τ:Sb),kG x t σ=some τ->t.size<=N->(∀n x,σ n=some x->x.size<=N)->∀n x,τ n=some x->x.size<=N)->(∀x∈M,x.size<=N)->∀σ τ,oG L M σ=some τ->(∀n x,σ n=some x->x.size<=N)->∀n x,τ n=some x->x.size<=N:=by
    intro L
    induction L with
    |nil=>
     intro M _ _ σ τ h hσ;unfold oG at h;injection h with h
     subst h;exact hσ
    |cons a L ihL=>
     intro M hx hM σ τ h hσ;cases M with
     |nil=>unfold oG at h;cases h
     |cons b M=>
      unfold oG at h;cases hm:kG a b σ with
      |none=>rw[hm] at h;cases h
      |some υ=>
       rw[hm] at h;exact ihL M (fun x hx'=>hx x (List.mem_cons_of_mem _ hx')) (fun x hx'=>hM x (List.mem_cons_of_mem _ hx')) υ τ h (hx a (List.mem_cons_self ..) b σ υ hm (hM b (List.mem_cons_self ..)) hσ)
   exact key L t.kids ih (fun x hx=>by have:=vW hx;omega) σ τ h hσ
  .rw [AQ hc] at h;cases h
 .cases hx:σ n with
  |some x=>
   rw[Em hs hx] at h;split at h
   .injection h with h
    subst h;exact hσ
   .cases h
  |none=>
   rw[BJ hs hx] at h;split at h
   .cases h
   .injection h with h
    subst h;intro m x hm;have hm:(if m=n then some t else σ m)=some x:=hm;split at hm
    .injection hm with hm
     subst hm;exact ht
    .exact hσ m x hm
theorem aaO (N:Nat) (h1:1<=N) (σ:Sb) (hσ: ∀n x,σ n=some x->x.size<=N): ∀t:Tm,(kH σ t).size<=t.size*N:=by
 refine Tm.ind (fun n s L ih=>?_);by_cases hs:s=au
 .subst hs;rw[SK];have key: ∀M:List Tm,(∀x∈M,(kH σ x).size<=x.size*N)->sizes (M.map (kH σ))<=sizes M*N:=by
   intro M
   induction M with
   |nil=>intro _;simp[sizes]
   |cons a M XR=>
    intro h;have g1:=h a (List.mem_cons_self ..);have g2:=XR (fun x hx=>h x (List.mem_cons_of_mem _ hx));simp only[List.map_cons,sizes,Nat.add_mul];omega
  have h2:=key L ih;have e1:(Tm.mk n au (L.map (kH σ))).size=sizes (L.map (kH σ))+1:=rfl;have e2:(Tm.mk n au L).size=sizes L+1:=rfl;rw[e1,e2,Nat.add_mul];omega
 .rw [OO σ hs];have e2:(Tm.mk n s L).size=sizes L+1:=rfl;rw[e2,Nat.add_mul,Nat.one_mul];cases h:σ n with
  |none=>
   have:((none:Option Tm).getD default).size=1:=rfl;omega
  |some x=>
   have:=hσ n x h;rw[Option.getD_some];omega
theorem aaP {r:Rl} {t u:Tm} (h:pG r t=some u):u.size<=r.2.size*t.size:=by
 unfold pG at h;cases hm:kG r.1 t sb0 with
 |none=>rw[hm] at h;cases h
 |some σ=>
  rw[hm] at h;injection h with h
  subst h;exact aaO t.size (size_pos t) σ (YM t.size r.1 t sb0 σ hm (Nat.le_refl _) (fun n x h=>by cases h)) r.2
theorem CS: ∀(p:List Nat) (t:Tm),qM t p->(vV t p).size<=t.size
 |[],t,_=>Nat.le_refl _
 |i::p,t,h=>by
  have h1:=CS p _ h.2;have h2:(tg t.kids i).size<t.size:=vW (by unfold tg;rw[List.getD_eq_getElem?_getD,List.getElem?_eq_getElem h.1];exact List.getElem_mem h.1);show(vV (tg t.kids i) p).size<=_;omega
theorem Ol {l:List Rl} {t:Tm} {i:Nat} {p:List Nat} {u:Tm} {N:Nat} (h:iw l t=some (i,p,u)) (hl: ∀r∈l,r.2.size<=N):u.size<=N*t.size:=by
 obtain⟨h1,h2,h3⟩:=yh l t i p u h;have h4:=aaP h3;have h5:=hl _ (tZ h2);have h6:=CS p t h1;exact Nat.le_trans h4 (Nat.mul_le_mul h5 h6)
theorem Aw: ∀(p:List Nat) (t:Tm),qM t p->p.length<t.size
 |[],t,_=>size_pos t
 |i::p,t,h=>by
  have h1:=Aw p _ h.2;have h2:(tg t.kids i).size<t.size:=vW (by unfold tg;rw[List.getD_eq_getElem?_getD,List.getElem?_eq_getElem h.1];exact List.getElem_mem h.1);simp only[List.length_cons];omega
theorem aaQ {B:List Bd} {n s:By} {t:Tm} (h:bJ B n=none):bJ (B++[(n,s,t)])=Sb.put (bJ B) n t:=by
 funext m;rw[Gg];unfold Sb.put;by_cases e:m=n
 .subst e;rw[h];simp
 .rw [if_neg e,if_neg (fun e2=>e e2.symm)];cases bJ B m<;>rfl
theorem aiY {X:List Vd} (hX:Cons X): ∀(p t:Tm) (B:List Bd),vH p->(∀f∈dJ p,f∈X)->qP X (fun _=>True) B->kG p t (bJ B)=(jT p t B).map bJ:=by
 refine Tm.ind (fun n s L ih=>?_);intro t B hp hv hI;by_cases hs:s=au
 .subst hs;by_cases hc:t.sort=au/\t.name=n/\t.kids.length=L.length
  .rw [KC hc,PZ hc];have key: ∀(L M:List Tm),(∀x∈L,∀(t:Tm) (B:List Bd),vH x->(∀f∈dJ x,f∈X)->qP X (fun _=>True) B->kG x t (bJ B)=(jT x t B).map bJ)->M.length=L.length->(∀x∈L,vH x)->(∀x∈L,∀f∈dJ x,f∈X)->∀B,qP X (fun _=>True) B->oG L M (bJ B)=(rC L M B).map bJ:=by
    intro L
    induction L with
    |nil=>intro M _ _ _ _ B _;unfold oG rC;rfl
    |cons a L ihL=>
     intro M hx hl hn hvv B hI
     match M,hl with
     |b::M,hl=>
      unfold oG rC;rw[hx a (List.mem_cons_self ..) b B (hn a (List.mem_cons_self ..)) (hvv a (List.mem_cons_self ..)) hI];cases hm:jT a b B with
      |none=>rfl
      |some E=>
       have h1:=(Bj (X:=X) (Y:=fun _=>True) (fun _ _ _ _=>trivial) a b B E hm (hn a (List.mem_cons_self ..)) (hvv a (List.mem_cons_self ..)) trivial hI).1;exact ihL M (fun x hx'=>hx x (List.mem_cons_of_mem _ hx')) (by simpa using hl) (fun x hx'=>hn x (List.mem_cons_of_mem _ hx')) (fun x hx'=>hvv x (List.mem_cons_of_mem _ hx')) E h1
   exact key L t.kids ih hc.2.2 (fun x hx=>hp.kid hx) (fun x hx f hf=>hv f (by rw[uX];exact List.mem_flatMap.2 ⟨x,hx,hf⟩)) B hI
  .rw [AQ hc,E5 hc];rfl
 .have hnX:=hv _ (m_ hs L);cases hg:bJ B n with
  |some x=>
   rw[Em hs hg];obtain⟨b,hb,h1,h2⟩:=tH hg;have hsrt:x.sort≠au->x.sort=s:=fun h=>by
    have h3:=hI.srt b hb (by rw[h2];exact h);have h4:=hX _ (hI.inX b hb) _ hnX h1;rw[h2] at h3;rw[h3];exact h4
   by_cases hc:t.sort≠au/\t.sort≠s
   .rw [B_ hs hc];have: ¬x=t:=fun e=>by
     have:=hsrt (by rw[e];exact hc.1);rw[e] at this;exact hc.2 this
    rw[if_neg this];rfl
   .rw [BZ hs hc hg];by_cases e:x=t
    .rw [if_pos e,if_pos e];rfl
    .rw [if_neg e,if_neg e];rfl
  |none=>
   have hm:kG (.mk n s L) t (bJ B)=if t.sort≠au/\t.sort≠s then none else some (Sb.put (bJ B) n t):=by
    unfold kG;rw[if_neg hs,hg]
   rw[hm];by_cases hc:t.sort≠au/\t.sort≠s
   .rw [B_ hs hc,if_pos hc];rfl
   .rw [Gn hs hc hg,if_neg hc,Option.map_some,aaQ hg]
theorem aaR:bJ []=sb0:=by funext n;rfl
theorem X5 {nm:By->Bool} {r:Rl} {t:Tm} (h1:wf nm r.1=true) (hv: ∀f∈dJ r.2,f∈dJ r.1):pG r t=(jT r.1 t []).map fun B=>bI B r.2:=by
 unfold pG;have h2:=aiY (nX.1 h1).2.2.2 r.1 t [] (UH h1) (fun f hf=>hf) (qP.nil _ _);rw[aaR] at h2;rw[h2];cases hm:jT r.1 t [] with
 |none=>rfl
 |some B=>
  have h3:=(Bj (X:=dJ r.1) (Y:=fun _=>True) (fun _ _ _ _=>trivial) r.1 t [] B hm (UH h1) (fun f hf=>hf) trivial (qP.nil _ _)).2.2.1;simp only[Option.map_some]
  congr 1
  unfold kH bI;refine YN r.2 (fun f hf=>?_);obtain⟨x,hx⟩:=h3 f (hv f hf);show(bJ B f.1).getD default=(bJ B f.1).getD (vr f.1 f.2);rw[hx];rfl
theorem NZ (t u:Tm):putAt t [] u=u:=by cases t;rfl
theorem Kq (n s:By) (L:List Tm) (i:Nat) (p:List Nat) (u:Tm):putAt (.mk n s L) (i::p) u= .mk n s (L.set i (putAt (tg L i) p u)):=rfl
theorem Lu {L:List Tm} {i:Nat} (h:i<L.length):tg L i∈L:=by unfold tg;rw[List.getD_eq_getElem?_getD,List.getElem?_eq_getElem h];exact List.getElem_mem h
theorem Ud {x y:Tm} (h:x∈bC y) {f:Vd} (hf:f∈dJ x):f∈dJ y:=by
 obtain⟨z,hz,h1,h2⟩:=Cc hf;have hs:=JC hf;have hzy:=Wl h hz;unfold dJ vl;refine List.mem_filterMap.2 ⟨z,hzy,?_⟩;rw[if_neg (by rw[h2];exact hs),h1,h2]
theorem zK (u:Tm): ∀(p:List Nat) (t:Tm),qM t p->∀f∈dJ (putAt t p u),f∈dJ t\/f∈dJ u
 |[],t,_,f,hf=>by rw[NZ] at hf;exact .inr hf
 |i::p,.mk n s L,h,f,hf=>by
  rw[Kq] at hf;by_cases hs:s=au
  .subst hs;rw[uX] at hf⊢;obtain⟨x,hx,hf⟩:=List.mem_flatMap.1 hf;rcases List.mem_or_eq_of_mem_set hx with hx|hx
   .exact .inl (List.mem_flatMap.2 ⟨x,hx,hf⟩)
   .subst hx;rcases zK u p _ h.2 f hf with h2|h2
    .exact .inl (List.mem_flatMap.2 ⟨_,Lu h.1,h2⟩)
    .exact .inr h2
  .obtain ⟨x,hx,h1,h2⟩:=Cc hf;rw[mg,List.mem_cons] at hx;rcases hx with hx|hx
   .subst hx;have:f=(n,s):=Prod.ext h1.symm h2.symm;rw[this];exact .inl (m_ hs L)
   .obtain ⟨y,hy,hxy⟩:=List.mem_flatMap.1 hx;have hfy:f∈dJ y:=by
     have h3:f∈dJ x:=by
      obtain⟨m,r,K⟩:=x;simp only[Tm.name,Tm.sort] at h1 h2;have:f=(m,r):=Prod.ext h1.symm h2.symm;rw[this];refine m_ (fun e=>JC hf ?_) K;rw[<-h2,e]
     exact Ud hxy h3
    rcases List.mem_or_eq_of_mem_set hy with hy|hy
    .exact .inl (Bh (t:= .mk n s L) hy hfy)
    .subst hy;rcases zK u p _ h.2 f hfy with h4|h4
     .exact .inl (Bh (t:= .mk n s L) (Lu h.1) h4)
     .exact .inr h4
theorem QA: ∀(p:List Nat) (t:Tm),qM t p->∀f∈dJ (vV t p),f∈dJ t
 |[],t,_,f,hf=>hf
 |i::p,.mk n s L,h,f,hf=>Bh (t:= .mk n s L) (Lu h.1) (QA p _ h.2 f hf)
theorem Nl (u:Tm): ∀(p:List Nat) (t:Tm),qM t p->u.size<=(putAt t p u).size/\u.depth<=(putAt t p u).depth
 |[],t,_=>by rw[NZ];exact⟨Nat.le_refl _,Nat.le_refl _⟩
 |i::p,.mk n s L,h=>by
  rw[Kq];have h1:u.size<=(putAt (tg L i) p u).size/\u.depth<=(putAt (tg L i) p u).depth:=Nl u p _ h.2;have hm:putAt (tg L i) p u∈L.set i (putAt (tg L i) p u):=List.mem_set (l:=L) h.1 _;have h2:=gq hm;have h3:=NV hm;have h4:=size_eq (.mk n s (L.set i (putAt (tg L i) p u)));have h5:=kE (.mk n s (L.set i (putAt (tg L i) p u)));simp only[Tm.kids] at h4 h5;omega
end
end Go.Hw
namespace Go.Hw.PH
open Go.RowKit Go.Hw
section
section
variable {P:Program} {ops:Array Oper} {Q:Exit->Act->World->Prop} {α:Type} {w0:World} {Qt:Act->World->Prop} {dp:Nat->List Nat} {n:Nat} {md:Region.Mode} {fl:List Nat} {jF:Nat}
structure dD (α:Type) (n0:Nat) where
 val:α->Value
 R:α->World->Prop
 st: ∀x W W',R x W->Ext W W'->R x W'
 f:α->Nat->Prop
 lt: ∀x W k,R x W->f x k->k<W.heap.size
 con:Option Nat
 sta:Bool
 st2:sta=true->∀x W W' (F:Nat->Prop),R x W->aC F W W'->(∀k,F k->n0<=k/\¬f x k)->R x W'
variable {ann:Nat->Option (dD α w0.heap.size)}
abbrev pY:=Nat×(Nat->Prop)×(World->Prop)
def yJ (G:List pY):Prop:=G.Pairwise fun g h=> ∀k,g.2.1 k->¬h.2.1 k
def TrG (G:List pY) (A:dD α w0.heap.size) (W W':World):Prop:=match A.con with
 |none=>Ext W W'
 |some c=> ∃g∈G,g.1=c/\aC g.2.1 W W'/\g.2.2 W'
def TrX (ann:Nat->Option (dD α w0.heap.size)) (X:Nat->α) (A:dD α w0.heap.size) (W W':World):Prop:=match A.con with
 |none=>Ext W W'
 |some c=> ∃C,ann c=some C/\aC (C.f (X c)) W W'/\C.R (X c) W'
def Can (P:Program) (ops:Array Oper) (Qt:Act->World->Prop) (w0:World) (dp:Nat->List Nat) (ann:Nat->Option (dD α w0.heap.size)):List Oper->Nat->List pY->Act->Prop
 |[],_,G,a=> ∀W,Ext w0 W->(∀g∈G,g.2.2 W)->yJ G->Qt a W
 |o::r,i,G,a=>match ann i with
  |none=>if Region.wanted o (yielded ops a.tmps) then ∃v,(∀W,Ext w0 W->(∀g∈G,g.1∈dp i->g.2.2 W)->(execOp a.eval o).run P W= .ok (.value v) W)/\Can P ops Qt w0 dp ann r (i+1) G (a.put o.dst v)
    else Can P ops Qt w0 dp ann r (i+1) G (a.put o.dst undef)
  |some A=>Region.wanted o (yielded ops a.tmps)=true/\
    (∀W,Ext w0 W->(∀g∈G,g.1∈dp i->g.2.2 W)->∀K:Act->World->Prop,(∀x W',TrG G A W W'->A.R x W'->(∀k,A.f x k->W.heap.size<=k)->K (a.put o.dst (A.val x)) W')->o.wp P a W K (fun _ _ _=>False))/\
    ∀x,Can P ops Qt w0 dp ann r (i+1) (G++[(i,A.f x,A.R x)]) (a.put o.dst (A.val x))
def fP (P:Program) (ops:Array Oper) (w0:World) (dp:Nat->List Nat) (ann:Nat->Option (dD α w0.heap.size)) (X:Nat->α) (V:Nat->Value) (i:Nat) (o:Oper) (a:Act):Prop:=
 match ann i with
 |none=>(Region.wanted o (yielded ops a.tmps)=true->∀W,Ext w0 W->(∀j A,j<i->j∈dp i->ann j=some A->A.R (X j) W)->(execOp a.eval o).run P W= .ok (.value (V i)) W)/\
   (Region.wanted o (yielded ops a.tmps)=false->V i=undef)
 |some A=>Region.wanted o (yielded ops a.tmps)=true/\V i=A.val (X i)/\
   ∀W,Ext w0 W->(∀j A,j<i->j∈dp i->ann j=some A->A.R (X j) W)->∀K:Act->World->Prop,(∀x W',TrX ann X A W W'->A.R x W'->(∀k,A.f x k->W.heap.size<=k)->K (a.put o.dst (A.val x)) W')->o.wp P a W K (fun _ _ _=>False)
def Good (P:Program) (ops:Array Oper) (Qt:Act->World->Prop) (w0:World) (dp:Nat->List Nat) (ann:Nat->Option (dD α w0.heap.size)) (X:Nat->α) (V:Nat->Value):List Oper->Nat->Act->Prop
 |[],k,a=> ∀W,Ext w0 W->(∀j A,j<k->ann j=some A->A.R (X j) W)->(∀i j A B,i<k->j<k->i≠j->ann i=some A->ann j=some B->∀b,A.f (X i) b->¬B.f (X j) b)->Qt a W
 |o::r,k,a=>fP P ops w0 dp ann X V k o a/\Good P ops Qt w0 dp ann X V r (k+1) (a.put o.dst (V k))
theorem fP.congr {X:Nat->α} {V V':Nat->Value} {i:Nat} {o:Oper} {a:Act} (h:V i=V' i) (hf:fP P ops w0 dp ann X V i o a):fP P ops w0 dp ann X V' i o a:=by
 unfold fP at*;rw[<-h];exact hf
theorem Good.congr {X:Nat->α} {V V':Nat->Value}: ∀(r:List Oper) (k:Nat) (a:Act),(∀j,k<=j->V j=V' j)->Good P ops Qt w0 dp ann X V r k a->Good P ops Qt w0 dp ann X V' r k a
 |[],_,_,_,h=>h
 |o::r,k,a,he,h=>⟨h.1.congr (he k (Nat.le_refl _)),by rw[<-he k (Nat.le_refl _)];exact Good.congr r (k+1) _ (fun j hj=>he j (by omega)) h.2⟩
theorem iY (X:Nat->α): ∀(r:List Oper) (k:Nat) (G:List pY) (a:Act),Can P ops Qt w0 dp ann r k G a->
  (∀g∈G,∃A,ann g.1=some A/\g.1<k/\g.2=(A.f (X g.1),A.R (X g.1)))->G.Pairwise (fun g h=>g.1≠h.1)->∃V,Good P ops Qt w0 dp ann X V r k a
 |[],k,G,a,h,hG,hN=>⟨fun _=>undef,fun W hW hR hD=>h W hW (fun g hg=>by obtain⟨A,h1,h2,h3⟩:=hG g hg;rw[h3];exact hR _ _ h2 h1) (by
   unfold yJ;refine List.Pairwise.imp_of_mem (fun{g g'} hg hg' hne b e1 e2=>?_) hN;obtain⟨A,h1,h2,h3⟩:=hG g hg;obtain⟨A',h1',h2',h3'⟩:=hG g' hg';rw[h3] at e1;rw[h3'] at e2;exact hD _ _ A A' h2 h2' hne h1 h1' b e1 e2)⟩
 |o::r,k,G,a,h,hG,hN=>by
  have hH: ∀W,(∀j A,j<k->j∈dp k->ann j=some A->A.R (X j) W)->∀g∈G,g.1∈dp k->g.2.2 W:=fun W hR g hg hd=>by
   obtain⟨A,h1,h2,h3⟩:=hG g hg;rw[h3];exact hR _ _ h2 hd h1
  unfold Can at h;have hG': ∀g∈G,∃A,ann g.1=some A/\g.1<k+1/\g.2=(A.f (X g.1),A.R (X g.1)):=fun g hg=>by
   obtain⟨A,h1,h2,h3⟩:=hG g hg;exact⟨A,h1,by omega,h3⟩
  cases ha:ann k with
  |none=>
   rw[ha] at h;simp only at h;by_cases hw:Region.wanted o (yielded ops a.tmps)=true
   .rw [if_pos hw] at h;obtain⟨v,hv,h⟩:=h;obtain⟨V,hV⟩:=iY X r (k+1) G _ h hG' hN;refine⟨fun j=>if j=k then v else V j,?_,?_⟩
    .unfold fP;rw[ha];simp only[if_true];exact⟨fun _ W hW hR=>hv W hW (hH W hR),fun h=>by rw[hw] at h;cases h⟩
    .rw [show(fun j=>if j=k then v else V j) k=v from if_pos rfl];exact hV.congr _ _ _ (fun j hj=>by rw[if_neg (by omega)])
   .rw [if_neg hw] at h;obtain⟨V,hV⟩:=iY X r (k+1) G _ h hG' hN;refine⟨fun j=>if j=k then undef else V j,?_,?_⟩
    .unfold fP;rw[ha];simp only[if_true];exact⟨fun h=>absurd h hw,fun _=>trivial⟩
    .rw [show(fun j=>if j=k then undef else V j) k=undef from if_pos rfl];exact hV.congr _ _ _ (fun j hj=>by rw[if_neg (by omega)])
  |some A=>
   rw[ha] at h;simp only at h;obtain⟨hw,hm,h⟩:=h;obtain⟨V,hV⟩:=iY X r (k+1) _ _ (h (X k)) (fun g hg=>by
    rcases List.mem_append.1 hg with h1|h1
    .exact hG' g h1
    .simp only [List.mem_singleton] at h1;subst h1;exact⟨A,ha,Nat.lt_succ_self _,rfl⟩) (List.pairwise_append.2 ⟨hN,List.pairwise_singleton _ _,fun g hg g' hg' e=>by
    rw[List.mem_singleton] at hg';subst hg';obtain⟨_,_,h2,_⟩:=hG g hg;simp only at e;omega⟩)
   refine⟨fun j=>if j=k then A.val (X k) else V j,?_,?_⟩
   .unfold fP;rw[ha];simp only[if_true];refine⟨hw,trivial,fun W hW hR K hK=>hm W hW (hH W hR) K (fun x W' hT=>hK x W' ?_)⟩;unfold TrG at hT;unfold TrX;cases hc:A.con with
    |none=>rw[hc] at hT;exact hT
    |some c=>
     rw[hc] at hT;obtain⟨g,hg,e,hU,hR'⟩:=hT;obtain⟨C,h1,_,h3⟩:=hG g hg;rw[h3] at hU hR';subst e;exact⟨C,h1,hU,hR'⟩
   .rw [show(fun j=>if j=k then A.val (X k) else V j) k=A.val (X k) from if_pos rfl];exact hV.congr _ _ _ (fun j hj=>by rw[if_neg (by omega)])
theorem Good.at {X:Nat->α} {V:Nat->Value}: ∀(r:List Oper) (k:Nat) (a:Act),Good P ops Qt w0 dp ann X V r k a->∀i o,r[i]?=some o->fP P ops w0 dp ann X V (k+i) o (lQ V (r.take i) k a)
 |[],_,_,_,i,o,h=>by simp at h
 |p::r,k,a,h,0,o,ho=>by simp at ho;subst ho;exact h.1
 |p::r,k,a,h,i+1,o,ho=>by
  rw[List.getElem?_cons_succ] at ho;have:=Good.at r (k+1) _ h.2 i o ho;rw[show k+(i+1)=k+1+i by omega];exact this
theorem Good.fin {X:Nat->α} {V:Nat->Value}: ∀(r:List Oper) (k:Nat) (a:Act),Good P ops Qt w0 dp ann X V r k a->∀W,Ext w0 W->(∀j A,j<k+r.length->ann j=some A->A.R (X j) W)->(∀i j A B,i<k+r.length->j<k+r.length->i≠j->ann i=some A->ann j=some B->∀b,A.f (X i) b->¬B.f (X j) b)->Qt (lQ V r k a) W
 |[],_,_,h,W,hW,hR,hD=>h W hW hR hD
 |p::r,k,a,h,W,hW,hR,hD=>Good.fin r (k+1) _ h.2 W hW (fun j A hj=>hR j A (by simp only[List.length_cons];omega)) (fun i j A B hi hj=>hD i j A B (by simp only[List.length_cons];omega) (by simp only[List.length_cons];omega))
theorem Good.same {sz:Nat} {an:Nat->Bool} {tail:List (Nat×Nat)} (hp:uK ops n sz dp an tail fl jF) {a0:Act} {l:Array Bool} (hd:nT .any ops l) (hsz:a0.tmps.size=sz) {X X':Nat->α} {V V':Nat->Value}
  (hV:Good P ops Qt w0 dp ann X V (ops.toList.take n) 0 a0) (hV':Good P ops Qt w0 dp ann X' V' (ops.toList.take n) 0 a0) (hX: ∀j,j<n->l.getD j false=true->X' j=X j)
  {W:World} (hW:Ext w0 W) (hR: ∀j A,j<n->l.getD j false=true->ann j=some A->A.R (X j) W): ∀j,j<n->l.getD j false=true->V' j=V j:=by
 intro j
 induction j using Nat.strongRecOn with
 |_ j ih=>
  intro hj hl;have hjs:j<ops.size:=aF hj hp.le;have ho:ops[j]?=some ops[j]:=Array.getElem?_eq_getElem hjs;have hot:(ops.toList.take n)[j]?=some ops[j]:=by rw[List.getElem?_take_of_lt hj];simp
  have hall: ∀e∈ops[j].after,Region.binds .any e=true->l.getD e.on false=true:=fun e he hb=>hd.back j _ ho hl e he hb;have f1:=hV.at _ _ _ j _ hot;have f2:=hV'.at _ _ _ j _ hot;rw[Nat.zero_add] at f1 f2;rw[List.take_take,Nat.min_eq_left (Nat.le_of_lt hj)] at f1 f2;have pJ:=hp.closed hd j _ ho hall;have hsame: ∀t∈ops[j].looksAt ops,(lQ V (ops.toList.take j) 0 a0).tmps[t]?=(lQ V' (ops.toList.take j) 0 a0).tmps[t]?:=by
   intro t ht;by_cases hx: ∃k p,k<j/\ops[k]?=some p/\p.dst=some t
   .obtain ⟨k,p,hk,hpk,hdk⟩:=hx;have hkn:k<n:=by omega
    have hkl:l.getD k false=true:=by
     obtain⟨e,he,hb,hon⟩:=hp.reads j k _ p t hj hkn ho hpk ht hdk;have:=hall e he hb;rw[hon] at this;exact this
    have hu: ∀(i:Nat) q,(ops.toList.take j)[i]?=some q->q.dst=some t->i=k:=fun i q hq O0=>by
     have hi:i<j:=by
      have:=(List.getElem?_eq_some_iff.1 hq).1;rw[List.length_take] at this;omega
     rw[List.getElem?_take_of_lt hi] at hq;exact hp.uniq k i p q t hkn (by omega) hpk (by simpa using hq) hdk O0
    have hk2:(ops.toList.take j)[k]?=some p:=by rw[List.getElem?_take_of_lt hk];simpa using hpk
    rw[yN V t _ 0 a0 k p hk2 hdk (by rw[hsz];exact hp.dst _ _ _ hkn hpk hdk) hu,yN V' t _ 0 a0 k p hk2 hdk (by rw[hsz];exact hp.dst _ _ _ hkn hpk hdk) hu,Nat.zero_add,ih k hk hkn hkl]
   .have hno: ∀(k:Nat) p,(ops.toList.take j)[k]?=some p->p.dst≠some t:=fun k p hpk hdk=>by
     have hk:k<j:=by
      have:=(List.getElem?_eq_some_iff.1 hpk).1;rw[List.length_take] at this;omega
     rw[List.getElem?_take_of_lt hk] at hpk;exact hx ⟨k,p,hk,by simpa using hpk,hdk⟩
    rw[tq V t _ 0 a0 hno,tq V' t _ 0 a0 hno]
  obtain⟨s1,s2⟩:=yj (ops:=ops) (fun cs b=>Region.noSelect_spec hp.zC j _ cs b ho) hsame;unfold fP at f1 f2;cases ha:ann j with
  |none=>
   rw[ha] at f1 f2;simp only at f1 f2;cases hw:Region.wanted ops[j] (yielded ops (lQ V (ops.toList.take j) 0 a0).tmps) with
   |true=>
    have r1:=f1.1 hw W hW (fun k A hk hdk hak=>hR k A (by omega) (pJ k hdk) hak);have r2:=f2.1 (by rw[<-s2];exact hw) W hW (fun k A hk hdk hak=>by rw[hX k (by omega) (pJ k hdk)];exact hR k A (by omega) (pJ k hdk) hak);rw[<-s1,r1] at r2;injection r2 with r2
    injection r2 with r2
    exact r2.symm
   |false=>rw[f1.2 hw,f2.2 (by rw[<-s2];exact hw)]
  |some A=>
   rw[ha] at f1 f2;simp only at f1 f2;rw[f1.2.1,f2.2.1,hX j hj hl]
theorem BN {sz:Nat} {an:Nat->Bool} {tail:List (Nat×Nat)} {l0:List Oper} (hp:uK l0.toArray n sz dp an tail fl jF) (han: ∀i,(ann i).isSome=an i) {a0:Act} (hsz:a0.tmps.size=sz) {W:World} (hW:Ext w0 W) {X:Nat->α} {V:Nat->Value}
  (hV:Good P l0.toArray (fun a W=>cO P l0.toArray Q (fun _=>True) (eG l0 tail) a W) w0 dp ann X V (l0.take n) 0 a0) (hR: ∀j A,j<n->ann j=some A->A.R (X j) W) (hD: ∀i j A B,i<n->j<n->i≠j->ann i=some A->ann j=some B->∀b,A.f (X i) b->¬B.f (X j) b):
  ∀(U:List Nat) (l:Array Bool) (b:Act),nT .any l0.toArray l->(∀j∈U,j<n/\fl.contains j=true)->(∀j,j<n->l.getD j false=false->j∈U)->
   pK .any l0.toArray jF (U.map (fun k=>(k,0))++tail) l=true->wV l0.toArray n a0 l V b->cO P l0.toArray Q (fun _=>True) (eG l0 (U.map (fun k=>(k,0))++tail)) b W:=by
 intro U
 induction U with
 |nil=>
  intro l b hd _ hU _ hF;have hall: ∀j,j<n->l.getD j false=true:=fun j hj=>by
   cases h:l.getD j false with
   |true=>rfl
   |false=>cases hU j hj h
  have hb:=hF.all hp hsz hall;have hfin:=hV.fin _ _ _ W hW (fun j A hj ha=>hR j A (by simp at hj;omega) ha) (fun i j A B hi hj=>hD i j A B (by simp at hi;omega) (by simp at hj;omega));rw[hb];exact hfin
 |cons i U ih=>
  intro l b hd Xg hU hB hF;simp only[List.map_cons,List.cons_append] at hB⊢;simp only[pK,Bool.and_eq_true,decide_eq_true_eq,Bool.not_eq_true'] at hB;obtain⟨⟨⟨⟨hi,_⟩,_⟩,_⟩,hB⟩:=hB;have hi:i∈Region.ready .any l0.toArray l:=by simpa using hi
  obtain⟨hin,hfl⟩:=Xg i (List.mem_cons_self);obtain⟨hun,o,ho,hall⟩:=mem_ready.1 hi;have ho':l0[i]?=some o:=by simpa using ho
  obtain⟨hfo,Zk⟩:=hp.flo i o hin hfl ho;have pJ:=hp.closed hd i o ho hall;have hot:(l0.take n)[i]?=some o:=by rw[List.getElem?_take_of_lt hin];simpa using ho
  have fa:=hV.at _ _ _ i _ hot;rw[Nat.zero_add,List.take_take,Nat.min_eq_left (Nat.le_of_lt hin)] at fa;have hlook:=hF.look hp hsz hin ho hall;obtain⟨s1,s2⟩:=yj (ops:=l0.toArray) (fun cs b=>Region.noSelect_spec hp.zC i _ cs b ho) hlook;have s1:execOp (lQ V (l0.take i) 0 a0).eval o=execOp b.eval o:=s1;have s2:Region.wanted o (yielded l0.toArray (lQ V (l0.take i) 0 a0).tmps)=Region.wanted o (yielded l0.toArray b.tmps):=s2;have ha:ann i=none:=by
   have:=han i;rw[Zk] at this;cases h:ann i with
   |none=>rfl
   |some A=>rw[h] at this;cases this
  unfold fP at fa;rw[ha] at fa;simp only at fa;have hnext:=ih (l.setIfInBounds i true) (b.put o.dst (V i)) (hd.step hi) (fun j hj=>Xg j (List.mem_cons_of_mem _ hj)) (fun j hj hl=>by
   by_cases e:i=j
   .subst e;exfalso;have his:i<l.size:=by rw[hd.size];exact(Array.getElem?_eq_some_iff.1 ho).1
    simp[his] at hl
   .rw [getD_set_ne false e] at hl;rcases List.mem_cons.1 (hU j hj hl) with h|h
    .exact absurd h.symm e
    .exact h) hB (hF.step hp hsz hin ho (fun _ _ _=>rfl))
  simp only[eG,ho',cO];cases hw:Region.wanted o (yielded l0.toArray b.tmps) with
  |true=>
   rw[if_pos rfl];have hr:=fa.1 (by rw[s2];exact hw) W hW (fun j A hj hdj haj=>hR j A (by omega) haj);rw[s1] at hr;exact⟨V i,fun W' _=>MG hfo hr W',hnext⟩
  |false=>
   rw[if_neg (by simp)];have hv:=fa.2 (by rw[s2];exact hw);rw[<-hv];exact hnext
theorem AX {sz:Nat} {an:Nat->Bool} {tail:List (Nat×Nat)} {l0:List Oper} (hp:uK l0.toArray n sz dp an tail fl jF) (han: ∀i,(ann i).isSome=an i)
  (hQ: ∀c a d v w,Q (.panic c) (Act.put a d v) w->Q (.panic c) a w) {a0:Act} (hsz:a0.tmps.size=sz) {f:Nat} {l:Array Bool} {b:Act} {W:World} {X:Nat->α} {V:Nat->Value} (hd:nT .any l0.toArray l) (hout: ∀j,n<=j->l.getD j false=false) (hW:Ext w0 W)
  (hR: ∀j A,j<n->l.getD j false=true->ann j=some A->A.R (X j) W) (hD: ∀i j A B,i<n->j<n->l.getD i false=true->l.getD j false=true->i≠j->ann i=some A->ann j=some B->∀b,A.f (X i) b->¬B.f (X j) b)
  (hV:Good P l0.toArray (fun a W=>cO P l0.toArray Q (fun _=>True) (eG l0 tail) a W) w0 dp ann X V (l0.take n) 0 a0)
  (hF:wV l0.toArray n a0 l V b) (hall: ∀j,j<n->fl.contains j=false->l.getD j false=true) (hf:vY n l+tail.length<=f):wpAny P .any l0.toArray Q f l b W:=by
 have Xh: ∀j∈((List.range n).filter fun j=>!l.getD j false),j<n/\fl.contains j=true:=fun j hj=>by
  obtain⟨h1,h2⟩:=List.mem_filter.1 hj;have h1:=List.mem_range.1 h1;refine⟨h1,?_⟩;cases hc:fl.contains j with
  |true=>rfl
  |false=>have:=hall j h1 hc;rw[this] at h2;cases h2
 have hUs:((List.range n).filter fun j=>!l.getD j false)∈subs ((List.range n).filter fun j=>fl.contains j):=by
  have:=zX (fun j=>!l.getD j false) ((List.range n).filter fun j=>fl.contains j);rw[List.filter_filter] at this;have e:((List.range n).filter fun j=>!l.getD j false)=((List.range n).filter fun j=>(!l.getD j false)&&fl.contains j):=by
   apply List.filter_congr;intro j hj;cases hl:l.getD j false with
   |true=>rfl
   |false=>
    have:=Xh j (List.mem_filter.2 ⟨hj,by rw[hl];rfl⟩);rw[this.2];rfl
  rw[e];exact this
 have hm:=hp.mix _ hUs;have hl:l=Array.ofFn (n:=l0.toArray.size) fun j=>decide (j.val<n)&&!((List.range n).filter fun j=>!l.getD j false).contains j.val:=by
  apply Array.ext
  .simp [hd.size]
  .intro j h1 h2;rw[Array.getElem_ofFn];have hg:l.getD j false=l[j]:=by rw[Array.getD_eq_getD_getElem?,Array.getElem?_eq_getElem h1];rfl
   by_cases hj:j<n
   .simp only [hj,decide_true,Bool.true_and];rw[<-hg];cases h:l.getD j false with
    |true=>simp[h,-Array.getD_eq_getD_getElem?]
    |false=>simp[h,hj,-Array.getD_eq_getD_getElem?]
   .have:=hout j (by omega);rw[<-hg,this];simp[hj]
 rw[<-hl] at hm;have hlen:(((List.range n).filter fun j=>!l.getD j false).map (fun k=>(k,0))++tail).length<=f:=by
  rw[List.length_append,List.length_map];exact hf
 have hAl: ∀j A,j<n->ann j=some A->l.getD j false=true:=fun j A hj ha=>by
  refine hall j hj ?_;cases hc:fl.contains j with
  |false=>rfl
  |true=>
   have hjs:j<l0.toArray.size:=aF hj hp.le;have:=(hp.flo j _ hj hc (Array.getElem?_eq_getElem hjs)).2;rw[<-han,ha] at this;cases this
 have hR2: ∀j A,j<n->ann j=some A->A.R (X j) W:=fun j A hj ha=>hR j A hj (hAl j A hj ha) ha;have hD2: ∀i j A B,i<n->j<n->i≠j->ann i=some A->ann j=some B->∀b,A.f (X i) b->¬B.f (X j) b:=fun i j A B hi hj hne ha hb=>hD i j A B hi hj (hAl i A hi ha) (hAl j B hj hb) hne ha hb;have h2:=BN (Q:=Q) hp han hsz hW hV hR2 hD2 _ l b hd Xh (fun j hj h=>List.mem_filter.2 ⟨List.mem_range.2 hj,by rw[h];rfl⟩) hm hF;have h3:=xE (P:=P) (S:=fun _=>True) (n:=jF) hp.zC hp.sink hQ _ l b W hd (.inl trivial) hm h2;exact O1 hlen (r_ _ _ _ _ h3)
def U7 (dp:Nat->List Nat) (ann:Nat->Option (dD α w0.heap.size)):Prop:= ∀i A c,ann i=some A->A.con=some c->c∈dp i/\c<i/\∀j B,ann j=some B->j≠c->i∉dp j->j≠i->B.sta=true
theorem Ez {sz:Nat} {an:Nat->Bool} {tail:List (Nat×Nat)} {l0:List Oper} [Inhabited α] (hp:uK l0.toArray n sz dp an tail fl jF) (han: ∀i,(ann i).isSome=an i) (hcon:U7 dp ann)
  (hQ: ∀c a d v w,Q (.panic c) (Act.put a d v) w->Q (.panic c) a w) {a0:Act} (hsz:a0.tmps.size=sz)
  (hC:Can P l0.toArray (fun a W=>cO P l0.toArray Q (fun _=>True) (eG l0 tail) a W) w0 dp ann (l0.take n) 0 [] a0):
  ∀(f:Nat) (l:Array Bool) (b:Act) (W:World) (X:Nat->α) (V:Nat->Value),nT .any l0.toArray l->(∀j,n<=j->l.getD j false=false)->Ext w0 W->
   (∀j A,j<n->l.getD j false=true->ann j=some A->A.R (X j) W)->
   (∀i j A B,i<n->j<n->l.getD i false=true->l.getD j false=true->i≠j->ann i=some A->ann j=some B->∀b,A.f (X i) b->¬B.f (X j) b)->
   (∀j A,j<n->l.getD j false=true->ann j=some A->∀k,A.f (X j) k->w0.heap.size<=k)->
   Good P l0.toArray (fun a W=>cO P l0.toArray Q (fun _=>True) (eG l0 tail) a W) w0 dp ann X V (l0.take n) 0 a0->
   wV l0.toArray n a0 l V b->vY n l+tail.length<=f->wpAny P .any l0.toArray Q f l b W:=by
 intro f
 induction f with
 |zero=>
  intro l b W X V hd hout hW hR hD hL hV hF hf;have hr0:vY n l=0:=by omega
  have hall:=MH hr0;exact AX hp han hQ hsz hd hout hW hR hD hV hF (fun j hj _=>hall j hj) hf
 |succ f ih=>
  intro l b W X V hd hout hW hR hD hL hV hF hf;by_cases hr0: ∀j,j<n->fl.contains j=false->l.getD j false=true
  .exact AX hp han hQ hsz hd hout hW hR hD hV hF hr0 hf
  .have O3: ∃j,j<n/\fl.contains j=false/\l.getD j false=false:=by
    by_cases h: ∃j,j<n/\fl.contains j=false/\l.getD j false=false
    .exact h
    .exfalso;apply hr0;intro j hj hfl;cases hl:l.getD j false with
     |true=>rfl
     |false=>exact absurd ⟨j,hj,hfl,hl⟩ h
   refine⟨fun hr=>?_,fun i hi=>?_⟩
   .exfalso;obtain⟨j0,hj0,_,hl0⟩:=O3;have hmin: ∀k,∀j,j<=k->j<n->l.getD j false=false->False:=by
     intro k
     induction k using Nat.strongRecOn with
     |_ k ihk=>
      intro j hjk hj hl;have hjs:j<l0.toArray.size:=aF hj hp.le;have ho:l0.toArray[j]?=some l0.toArray[j]:=Array.getElem?_eq_getElem hjs;have EC:j∈Region.ready .any l0.toArray l:=by
       rw[mem_ready];refine⟨KJ (by rw[hd.size];exact hjs) hl,_,ho,fun e he hb=>?_⟩;have hlt:=hp.lt j _ hj ho e he hb;cases h:l.getD e.on false with
       |true=>rfl
       |false=>exact(ihk e.on (by omega) e.on (Nat.le_refl _) (by omega) h).elim
      rw[hr] at EC;cases EC
    exact hmin j0 j0 (Nat.le_refl _) hj0 hl0
   .obtain ⟨hun,o,ho,hall⟩:=mem_ready.1 hi;have his:i<l0.toArray.size:=(Array.getElem?_eq_some_iff.1 ho).1;have pJ:=hp.closed hd i o ho hall;have hin:i<n:=by
     rcases Nat.lt_or_ge i n with h|h
     .exact h
     .exfalso;obtain⟨j,hj,hfl,hl⟩:=O3;have:=pJ j (hp.rest i j h his hj hfl);rw[hl] at this;cases this
    have hot:(l0.take n)[i]?=some o:=by rw[List.getElem?_take_of_lt hin];simpa using ho
    have fa:=hV.at _ _ _ i _ hot;rw[Nat.zero_add,List.take_take,Nat.min_eq_left (Nat.le_of_lt hin)] at fa;have hlook:=hF.look hp hsz hin ho hall;obtain⟨s1,s2⟩:=yj (ops:=l0.toArray) (fun cs b=>Region.noSelect_spec hp.zC i _ cs b ho) hlook;have s1:execOp (lQ V (l0.take i) 0 a0).eval o=execOp b.eval o:=s1;have s2:Region.wanted o (yielded l0.toArray (lQ V (l0.take i) 0 a0).tmps)=Region.wanted o (yielded l0.toArray b.tmps):=s2;have BO: ∀j,n<=j->(l.setIfInBounds i true).getD j false=false:=fun j hj=>by rw[getD_set_ne false (by omega)];exact hout j hj
    have akY:=MI hin hun;unfold wpOp;rw[ho];simp only;unfold fP at fa;cases ha:ann i with
    |none=>
     rw[ha] at fa;simp only at fa;have hR': ∀W',Ext W W'->∀j A,j<n->(l.setIfInBounds i true).getD j false=true->ann j=some A->A.R (X j) W':=fun W' hW' j A hj hl haj=>by
      by_cases e:j=i
      .subst e;rw[ha] at haj;cases haj
      .rw [getD_set_ne false (Ne.symm e)] at hl;exact A.st _ _ _ (hR j A hj hl haj) hW'
     have hD': ∀i' j A B,i'<n->j<n->(l.setIfInBounds i true).getD i' false=true->(l.setIfInBounds i true).getD j false=true->i'≠j->ann i'=some A->ann j=some B->∀b,A.f (X i') b->¬B.f (X j) b:=fun i' j A B hi' hj hl1 hl2 hne h1 h2=>by
      have e1:i'≠i:=fun e=>by subst e;rw[ha] at h1;cases h1
      have e2:j≠i:=fun e=>by subst e;rw[ha] at h2;cases h2
      rw[getD_set_ne false (Ne.symm e1)] at hl1;rw[getD_set_ne false (Ne.symm e2)] at hl2;exact hD i' j A B hi' hj hl1 hl2 hne h1 h2
     have hL': ∀j A,j<n->(l.setIfInBounds i true).getD j false=true->ann j=some A->∀k,A.f (X j) k->w0.heap.size<=k:=fun j A hj hl haj=>by
      have e:j≠i:=fun e=>by subst e;rw[ha] at haj;cases haj
      rw[getD_set_ne false (Ne.symm e)] at hl;exact hL j A hj hl haj
     cases hw:Region.wanted o (yielded l0.toArray b.tmps) with
     |true=>
      rw[if_pos rfl];refine .inl ?_;have hr:=fa.1 (by rw[s2];exact hw) W hW (fun j A hj hdj haj=>hR j A (by omega) (pJ j hdj) haj);rw[s1] at hr;unfold Oper.wp;rw[hr];exact ih _ _ _ X V (hd.step hi) BO hW (hR' W (aC.refl _ _)) hD' hL' hV (hF.step hp hsz hin ho (fun _ _ _=>rfl)) (by omega)
     |false=>
      rw[if_neg (by simp)];have hv:=fa.2 (by rw[s2];exact hw);rw[<-hv];exact ih _ _ _ X V (hd.step hi) BO hW (hR' W (aC.refl _ _)) hD' hL' hV (hF.step hp hsz hin ho (fun _ _ _=>rfl)) (by omega)
    |some A=>
     rw[ha] at fa;simp only at fa;obtain⟨hw,hVi,hm⟩:=fa;rw[s2] at hw;rw[if_pos hw];refine .inl ?_;obtain⟨d,hdd⟩:=hp.some_ i o hin ho (by rw[<-han,ha];rfl);have hds:=hp.dst i o d hin ho hdd;have hfs:=BQ V (l0.take i) 0 a0;refine GU (K:=fun a' W'=>a'.defers=(lQ V (l0.take i) 0 a0).defers/\∃x,a'.tmps[d]?=some (A.val x)/\TrX ann X A W W'/\A.R x W'/\∀k,A.f x k->W.heap.size<=k) s1 (fun v W' hK=>?_) (fun _ _ h=>h.1) (hm W hW (fun j B hj hdj haj=>hR j B (by omega) (pJ j hdj) haj) _ (fun x W' hE vI hfr=>⟨rP _ _ _,x,by rw[hdd];exact put_eq _ _ _ (by rw[hfs.1,hsz];exact hds),hE,vI,hfr⟩));obtain⟨_,x,hx,hT,vI,hfr⟩:=hK;rw[hdd,put_eq _ _ _ (by rw[hfs.1,hsz];exact hds)] at hx;have SY:v=A.val x:=Option.some.inj hx;obtain⟨V',hV'⟩:=iY (fun j=>if j=i then x else X j) _ _ _ _ hC (fun g hg=>by cases hg) List.Pairwise.nil;have aiC:Ext w0 W'/\W.heap.size<=W'.heap.size/\∀j B,j<n->l.getD j false=true->ann j=some B->B.R (X j) W':=by
      unfold TrX at hT;cases hc:A.con with
      |none=>
       rw[hc] at hT;exact⟨hW.ext hT,hT.size,fun j B hj hl haj=>B.st _ _ _ (hR j B hj hl haj) hT⟩
      |some c=>
       rw[hc] at hT;obtain⟨C,hC1,hU,hRc⟩:=hT;obtain⟨hcd,hci,hst⟩:=hcon i A c ha hc;have hcl:l.getD c false=true:=pJ c hcd;have hlow: ∀k,C.f (X c) k->w0.heap.size<=k:=hL c C (by omega) hcl hC1;refine⟨hW.trans' hU (fun j hj e=>by have:=hlow j e;omega),hU.size,fun j B hj hl haj=>?_⟩;by_cases e:j=c
       .subst e;rw[hC1] at haj;obtain rfl:=Option.some.inj haj;exact hRc
       .have hij:i∉dp j:=fun hij=>by
         have hjs:j<l0.toArray.size:=aF hj hp.le;have ho2:l0.toArray[j]?=some l0.toArray[j]:=Array.getElem?_eq_getElem hjs;have:=hp.closed hd j _ ho2 (fun e he hb=>hd.back j _ ho2 hl e he hb) i hij;rw[qH hun] at this;cases this
        have hji:j≠i:=fun e=>by subst e;rw[qH hun] at hl;cases hl
        exact B.st2 (hst j B haj e hij hji) _ _ _ _ (hR j B hj hl haj) hU (fun k hk=>⟨hlow k hk,fun h2=>hD j c B C hj (by omega) hl hcl e haj hC1 k h2 hk⟩)
     obtain⟨Xj,hsz2,Xi⟩:=aiC;have hne: ∀j,l.getD j false=true->j≠i:=fun j hl e=>by subst e;rw[qH hun] at hl;cases hl
     have hsame:=Good.same hp hd hsz hV hV' (fun j hj hl=>if_neg (hne j hl)) Xj Xi;have ED:=hV'.at _ _ _ i _ hot;rw[Nat.zero_add] at ED;unfold fP at ED;rw[ha] at ED;simp only[if_true] at ED;rw[SY,<-ED.2.1];refine ih _ _ _ (fun j=>if j=i then x else X j) V' (hd.step hi) BO Xj (fun j B hj hl haj=>?_) (fun i' j A1 B hi' hj hl1 hl2 hnq h1 h2 b e1 e2=>?_) (fun j B hj hl haj k hk=>?_) hV' (hF.step hp hsz hin ho hsame) (by omega)
     .by_cases e:j=i
      .subst e;rw[ha] at haj;obtain rfl:=Option.some.inj haj;simp only[if_true];exact vI
      rw[getD_set_ne false (Ne.symm e)] at hl;simp only[if_neg e];exact Xi j B hj hl haj
     by_cases c1:i'=i
     .subst c1;have c2: ¬j=i':=fun e=>hnq e.symm;rw[ha] at h1;obtain rfl:=Option.some.inj h1;simp only[if_true] at e1;simp only[if_neg c2] at e2;rw[getD_set_ne false (fun e=>c2 e.symm)] at hl2;have k1:=hfr b e1;have k2:=B.lt _ _ b (hR j B hj hl2 h2) e2;omega
     .by_cases c2:j=i
      .subst c2;rw[ha] at h2;obtain rfl:=Option.some.inj h2;simp only[if_true] at e2;simp only[if_neg c1] at e1;rw[getD_set_ne false (fun e=>c1 e.symm)] at hl1;have k1:=hfr b e2;have k2:=A1.lt _ _ b (hR i' A1 hi' hl1 h1) e1;omega
      .simp only [if_neg c1] at e1;simp only[if_neg c2] at e2;rw[getD_set_ne false (fun e=>c1 e.symm)] at hl1;rw[getD_set_ne false (fun e=>c2 e.symm)] at hl2;exact hD i' j A1 B hi' hj hl1 hl2 hnq h1 h2 b e1 e2
     .by_cases e:j=i
      .subst e;rw[ha] at haj;obtain rfl:=Option.some.inj haj;simp only[if_true] at hk;exact Nat.le_trans hW.size (hfr k hk)
      .rw [getD_set_ne false (Ne.symm e)] at hl;simp only[if_neg e] at hk;exact hL j B hj hl haj k hk
theorem cu {id:Nat} {a:Act} {w:World} {l0:List Oper} [Inhabited α] (n:Nat) (fl:List Nat) (jF:Nat) (tail:List (Nat×Nat)) (zD:List (List Nat)) (kW:List (Option (dD α w.heap.size))) (AY:List Bool) (hm:P.follows .mixedOrders=true)
  (hB:Gl l0.toArray n a.tmps.size (fun i=>zD.getD i []) (fun i=>AY.getD i false) fl jF tail=true) (han:kW.map (·.isSome)=AY)
  (hQ: ∀c a d v w,Q (.panic c) (Act.put a d v) w->Q (.panic c) a w) (hcon:U7 (w0:=w) (fun i=>zD.getD i []) (fun i=>kW.getD i none))
  (h:Can P l0.toArray (fun a W=>cO P l0.toArray Q (fun _=>True) (eG l0 tail) a W) w (fun i=>zD.getD i []) (fun i=>kW.getD i none) (l0.take n) 0 [] a):(Code.region id l0.toArray true).wp P Q a w:=by
 have hp:=S9 hB;refine wp_region_any hm ?_;have hW:Ext w {w with drawn:=w.drawn+1}:=⟨rfl,rfl,rfl,Nat.le_refl _,fun _ _ _=>rfl⟩
 obtain⟨V,hV⟩:=iY (fun _=>default) _ _ _ _ h (fun g hg=>by cases hg) List.Pairwise.nil;have hf: ∀j,(Array.replicate l0.toArray.size false).getD j false=false:=fun j=>by
  rcases Nat.lt_or_ge j l0.length with h|h<;>simp[h]
 refine Ez hp (fun i=>?_) hcon hQ rfl h _ _ _ _ _ V nT.start (fun j _=>hf j) hW (fun j A _ hl=>by rw[hf] at hl;cases hl) (fun i j A B _ _ hl=>by rw[hf] at hl;cases hl) (fun j A _ hl=>by rw[hf] at hl;cases hl) hV wV.start ?_
 .rw [<-han];simp only[List.getD_eq_getElem?_getD,List.getElem?_map];cases kW[i]?<;>rfl
 .have h1:vY n (Array.replicate l0.toArray.size false)<=n:=by
   unfold vY;exact Nat.le_trans (List.length_filter_le _ _) (by simp)
  have:=hp.len;omega
theorem oI {o:Oper} {r:List Oper} {i:Nat} {G:List pY} {a:Act} (ha:ann i=none)
  (h: ∀K:Act->Prop,(∀a,Can P ops Qt w0 dp ann r (i+1) G a->K a)->if Region.wanted o (yielded ops a.tmps) then ∃v,(∀W,Ext w0 W->(∀g∈G,g.1∈dp i->g.2.2 W)->(execOp a.eval o).run P W= .ok (.value v) W)/\K (a.put o.dst v) else K (a.put o.dst undef)):
  Can P ops Qt w0 dp ann (o::r) i G a:=by
 unfold Can;rw[ha];exact h _ (fun _ h=>h)
theorem aO {o:Oper} {r:List Oper} {i:Nat} {G:List pY} {a:Act} (A:dD α w0.heap.size) (ha:ann i=some A) (hw:Region.wanted o (yielded ops a.tmps)=true)
  (h1: ∀W,Ext w0 W->(∀g∈G,g.1∈dp i->g.2.2 W)->∀K:Act->World->Prop,(∀x W',TrG G A W W'->A.R x W'->(∀k,A.f x k->W.heap.size<=k)->K (a.put o.dst (A.val x)) W')->o.wp P a W K (fun _ _ _=>False))
  (h2: ∀K:Act->Prop,∀x,(∀a,Can P ops Qt w0 dp ann r (i+1) (G++[(i,A.f x,A.R x)]) a->K a)->K (a.put o.dst (A.val x))):
  Can P ops Qt w0 dp ann (o::r) i G a:=by
 unfold Can;rw[ha];exact⟨hw,h1,fun x=>h2 _ x (fun _ h=>h)⟩
theorem iP {i:Nat} {G:List pY} {a:Act} (h: ∀W,Ext w0 W->(∀g∈G,g.2.2 W)->yJ G->Qt a W):Can P ops Qt w0 dp ann [] i G a:=h
theorem acU {dp:Nat->List Nat} {w0:World} {α:Type} {ann:Nat->Option (dD α w0.heap.size)} (k c:Nat) (h1: ∀i A,ann i=some A->i≠k->A.con=none) (h2: ∀A,ann k=some A->A.con=some c) (h3:c∈dp k/\c<k) (h4: ∀j B,ann j=some B->j≠c->k∉dp j->j≠k->B.sta=true):U7 dp ann:=fun i A d ha hd=>by
 by_cases e:i=k
 .subst e;have h5:=h2 A ha;rw[hd] at h5;obtain rfl:=Option.some.inj h5;exact⟨h3.1,h3.2,h4⟩
 .have h5:=h1 i A ha e;rw[hd] at h5;cases h5
theorem aX {o:Oper} {r:List Oper} {i:Nat} {G:List pY} {a:Act} (ha:ann i=none)
  (h: ∀K:Act->Prop,(∀a,Can P ops Qt w0 dp ann r (i+1) G a->K a)->if Region.wanted o (yielded ops a.tmps) then ∃v,(∀x:XW w0,(execOp a.eval o).run P x.val= .ok (.value v) x.val)/\K (a.put o.dst v) else K (a.put o.dst undef)):
  Can P ops Qt w0 dp ann (o::r) i G a:=by
 refine oI ha fun K hK=>?_;have h2:=h K hK;by_cases hw:Region.wanted o (yielded ops a.tmps)=true
 .rw [if_pos hw] at h2⊢;obtain⟨v,hv,h3⟩:=h2;exact⟨v,fun W hW _=>hv ⟨W,hW⟩,h3⟩
 .rw [if_neg hw] at h2⊢;exact h2
end
end
end Go.Hw.PH
