/- The texts N76 N77 N78, one behind the other. -/
import Derived.Test.YtlkcjmaiahnodaaGreatDoorSAO
import Derived.Test.YtlkcjmaiahnodaaGreatDoorSAB
import Derived.Test.YtlkcjmaiahnodaaGreatDoorSAQ
set_option maxRecDepth 100000
set_option maxHeartbeats 8000000
set_option linter.unusedVariables false
set_option linter.unusedSimpArgs false
namespace Go.Proofs.YtlkcjmaiahnodaaGreatDoor
open Go.RowKit Go.Hw Go Tm
section
open Go.Sort Go.Proofs Go.ChangeMaps
theorem adm (L:List Re) (i:Nat) (h:i<L.length):(eg L i).1=Go.Hw.rg (L.map (·.1)) i:=by
 unfold Go.Hw.rg;rw[Y6 h,List.getD_eq_getElem?_getD,List.getElem?_map,List.getElem?_eq_getElem h];rfl
theorem G_ {n0:Nat} {W:World} {t:Tm} {u:Value} (h:jZ n0 W t u):aG (fun k=>k<W.heap.size) W t.kids u:=by
 obtain⟨B,h1,a⟩:=h;exact(aU.read h1).weaken (fun k hk=>(a k hk).2.lt)
mutual
theorem Sl: ∀(t:Tm) (P p:List Nat),p∈jK t P->p.length<=P.length+t.size
 | .mk n s L,P,p,h=>by
  unfold jK at h;split at h
  .rcases List.mem_cons.1 h with h|h
   .rw [h];omega
   .have:=Ou L 0 P p h;rw[size_eq];simp only[Tm.kids];omega
  .cases h
theorem Ou: ∀(L:List Tm) (i:Nat) (P p:List Nat),p∈ry L i P->p.length<=P.length+sizes L+1
 |[],_,_,_,h=>by unfold ry at h;cases h
 |x::L,i,P,p,h=>by
  unfold ry at h;have hs:sizes (x::L)=x.size+sizes L:=by rw[sizes]
  rcases List.mem_append.1 h with h|h
  .have:=Sl x (P++[i]) p h;rw[List.length_append] at this;simp at this;omega
  .have:=Ou L (i+1) P p h;omega
end
theorem Sm (l:List Rl) (k:Nat) (h:k<l.length):l.take (k+1)=l.take k++[Go.Hw.rg l k]:=by
 unfold Go.Hw.rg;rw[List.getD_eq_getElem?_getD,List.getElem?_eq_getElem h];rw[List.take_add_one,List.getElem?_eq_getElem h];rfl
theorem Y8:(Tryz.prog.info? 146).map (fun i=>(i.zero,i.size,i.bytes))=some (some (.agg #[.string ⟨#[]⟩,.string ⟨#[]⟩,.slice none 0 0,.string ⟨#[]⟩,.string ⟨#[]⟩,.slice none 0 0]),6,112):=by kernel_rfl
theorem aiC:(Tryz.prog.info? 152).map (fun i=>(i.zero,i.size,i.bytes))=some (some (.agg #[.string ⟨#[]⟩,.string ⟨#[]⟩,.slice none 0 0,.string ⟨#[]⟩,.string ⟨#[]⟩,.slice none 0 0,.string ⟨#[]⟩,.string ⟨#[]⟩,.slice none 0 0,.int .i64 0,.int .i64 0,.slice none 0 0]),12,208):=by kernel_rfl
section
def Jn (F0:Nat->Prop) (c:Obj):PI.dG ((Option Addr×Nat)×Nat×(Nat->Prop)):=⟨fun x=> .slice (az x.2.1) 1 1,fun x W=> ¬F0 x.2.1/\W.heap[x.2.1]?=some c,fun _=>False,F0,fun x W W' F h a hF=>⟨h.1,a.heap h.2 (fun e=>h.1 (hF _ e))⟩,fun _=>True,fun _ _ _ _ _ _=>trivial,fun x k=>k=x.2.1,fun x W k h e=>by rw[e];exact(Array.getElem?_eq_some_iff.1 h.2).1⟩
def Jo (n0:Nat) (c a:Nat->Prop) (v0:Value) (m:Nat) (cs:List Value) (d: ∀k,v0.ownBlock=some k->¬a k) (n:Nat) (xs:List Value):PI.dG ((Option Addr×Nat)×Nat×(Nat->Prop)):=⟨fun x=> .slice x.1.1 n x.1.2,fun x W=>W.ownsRow n0 146 6 (.slice x.1.1 n x.1.2) n xs/\(∀k,(Value.slice x.1.1 n x.1.2).ownBlock=some k->¬a k/\(c k\/x.2.2 k))/\∀k,x.2.2 k->(Value.slice x.1.1 n x.1.2).ownBlock=some k,c,a,fun x W W' F h b hF=>⟨bM h.1 b (fun k hk e=>(h.2.1 k hk).1 (hF k e)),h.2⟩,fun W=>W.ownsRow n0 146 6 v0 m cs,fun W W' F h b hF=>bM h b (fun k hk e=>d k hk (hF k e)),fun x k=>x.2.2 k,fun x W k h e=>(World.ownsRow.lt h.1 k (h.2.2 k e)).2⟩
end
theorem U_ (l fs sn:List Rl) (J:Nat->List Nat->Nat->Option (Tm×Tm×Tm)) (Z:Option Cp) (lv:Value) (w:World) (b6:jH (fun k=>k<w.heap.size) w l lv) (ck:dI w) (hr:dQ l=true) (fe:l.length<=100) (cp: ∀r∈l,r.1.size<=1000/\r.2.size<=1000) (dN: ∀r∈l,(∀f∈dL r.1,f.1.size<=1000)/\∀f∈dL r.2,f.1.size<=1000) (h1:fs.length=l.length) (R:sn.length=l.length) (dO: ∀i,i<l.length->tu ⟨#[95,49]⟩ (Go.Hw.rg l i).1=((Go.Hw.rg fs i).1,0)/\tu ⟨#[95,49]⟩ (Go.Hw.rg l i).2=((Go.Hw.rg fs i).2,0)/\tu ⟨#[95,50]⟩ (Go.Hw.rg l i).1=((Go.Hw.rg sn i).1,0)/\tu ⟨#[95,50]⟩ (Go.Hw.rg l i).2=((Go.Hw.rg sn i).2,0)) (aS: ∀i,i<l.length->(Go.Hw.rg fs i).1.size<=1000) (aM: ∀i k p,i<l.length->k<l.length->p∈jK (Go.Hw.rg fs i).1 []->¬(p.length=0/\k<=i)->KN (Go.Hw.rg fs i) (Go.Hw.rg sn k) p (J i p k)) (eU:KQ J fs l.length l.length 0 none=some Z):
  Calls Tryz.prog 104 #[lv] w fun e w'=> ∃v,e= .returned (.tuple #[v,.int .i64 0])/\Gv w' v Z/\Ext w w':=by
 have cU:=ae (GI l lv w b6 ck (by omega) (fun r hr=>by have:=cp r hr;omega));rw[hr] at cU;have eV:=ae b6;have cV:=ae ck;have b7:=ae cp;have eW:=ae dN;have dP:=ae dO;have eX:=ae aS;have dR:=ae aM;have eZ:=ae eU;have cW:=ae fe;have cX:=ae h1;have cY:=ae R;obtain⟨gC,lc,rfl⟩:=b6.shape;clear b6 ck hr cp dN dO aS aM eU h1 R;go_enter Tryz.func104,Tryz.ntmps104;go_wp2_with fail;refine cU.o.mono ?_;rintro e w1 ⟨rfl,dS⟩;have e0:=ae dS;clear cU dS;go_wp2_with fail;go_loopg [4,5,26] l.length (fun gk a6 a7 a8 wr=> ∃(k:Nat) (b q:List Re) (G a2:Option Addr) (c1 c2:Nat),a6= .slice G b.length c1/\a7= .slice a2 q.length c2/\a8= .int .i64 (k:Int)/\gk=l.length-k/\k<=l.length/\Hid (b.length=k)/\Hid (q.length=k)/\Hid (b.map (·.1)=fs.take k)/\Hid (q.map (·.1)=sn.take k)/\Hid (yM w.heap.size wr (.slice G b.length c1) b)/\Hid (yM w.heap.size wr (.slice a2 q.length c2) q)/\Hid (∀j,(Value.slice G b.length c1).ownBlock=some j->¬(Value.slice a2 q.length c2).ownBlock=some j)/\Hid (Ext w wr));case atStart=>exact⟨0,[],[],none,none,0,0,rfl,rfl,rfl,rfl,Nat.zero_le _,ae rfl,ae rfl,ae rfl,ae rfl,ae (yM.nil _ _),ae (yM.nil _ _),ae (fun j e=>by cases e),e0⟩
 case round=>
  clear e0;obtain⟨k,b,q,G,a2,c1,c2,rfl,rfl,rfl,rfl,hk,bw,bq,cZ,c0,N,P,bU,L⟩:=hrel;by_cases bD:k<l.length
  .obtain ⟨g,off,cq,_,aN⟩:=(eV.o.ext L.o).at_ (by omega);subst cq;obtain⟨ad,af,al,an,av,ba,bb,bc,bd,bg,hx,hy⟩:=aN k bD;obtain⟨z0,c6,z2,br⟩:=bH bD;have cr:=b7.o _ (nZ bD);have bh:=eW.o _ (nZ bD);have aO:=dP.o k bD;obtain⟨⟨x,y⟩,dU⟩: ∃r,Go.Hw.rg l k=r:=⟨_,rfl⟩
   obtain⟨⟨D,z⟩,ct⟩: ∃r,Go.Hw.rg fs k=r:=⟨_,rfl⟩
   obtain⟨⟨E,C⟩,cu⟩: ∃r,Go.Hw.rg sn k=r:=⟨_,rfl⟩
   rw[dU] at av ba bb bc bd bg hx hy cr bh aO;rw[ct,cu] at aO;dsimp only at av ba bb bc bd bg hx hy cr bh aO;have dV:=ae (fun W (hW:Ext wr W)=>RX x y ad al af an ⟨#[95,49]⟩ W (aT cV.o (L.o.trans hW)) ((hx.ext hW).weaken (fun j t=>aP t (L.o.trans hW).size)) ((hy.ext hW).weaken (fun j t=>aP t (L.o.trans hW).size)) (by omega) (by omega) (fun f hf=>by have:=bh.1 f hf;show _+2<=_;omega) (fun f hf=>by have:=bh.2 f hf;show _+2<=_;omega) D z aO.1 aO.2.1);have dW:=ae (fun W (hW:Ext wr W)=>RX x y ad al af an ⟨#[95,50]⟩ W (aT cV.o (L.o.trans hW)) ((hx.ext hW).weaken (fun j t=>aP t (L.o.trans hW).size)) ((hy.ext hW).weaken (fun j t=>aP t (L.o.trans hW).size)) (by omega) (by omega) (fun f hf=>by have:=bh.1 f hf;show _+2<=_;omega) (fun f hf=>by have:=bh.2 f hf;show _+2<=_;omega) E C aO.2.2.1 aO.2.2.2);have fU:=ae ct;have ff:=ae cu;clear aN hx hy dU cr bh aO ct cu;have F:=(uR wr).alloc (aA x.name x.sort ad x.kids.length af y.name y.sort al y.kids.length an);have bx:=ae F;have bV:=ae (aj wr (aA x.name x.sort ad x.kids.length af y.name y.sort al y.kids.length an));clear F;obtain⟨aw,aC,aD,aE,aF,aG⟩:=eY bV.o;go_wp2_with fail;obtain⟨gr,b8⟩:=ay wr.heap.size;have gu:=ae b8;rw[b8] at bV;try rw[b8]
   clear av ba bb bc bd bg b8;generalize wr.alloc (aA x.name x.sort ad x.kids.length af y.name y.sort al y.kids.length an)=w2 at*;refine(dV.o _ bx.o).mono ?_;rintro e w3 ⟨pa,Q,S,T,gD,gv,rfl,bI,bJ,bK,bL,ai⟩;have F:=ai.alloc (aA D.name D.sort pa D.kids.length Q z.name z.sort S z.kids.length T);have bz:=ae (bx.o.trans F);have e1:=ae (F.heap bV.o id);have c7:=ae (aj w3 (aA D.name D.sort pa D.kids.length Q z.name z.sort S z.kids.length T));have bM:Hid (jZ w.heap.size (w3.alloc (aA D.name D.sort pa D.kids.length Q z.name z.sort S z.kids.length T)) D (.slice pa D.kids.length Q)):=ae (jZ.of (bI.kept ((uR w3).alloc _) (fun _ _ h=>h)) (fun j t=>by have:=(bK j t).1;have:=bx.o.size;have:=L.o.size;omega));have bN:Hid (jZ w.heap.size (w3.alloc (aA D.name D.sort pa D.kids.length Q z.name z.sort S z.kids.length T)) z (.slice S z.kids.length T)):=ae (jZ.of (bJ.kept ((uR w3).alloc _) (fun _ _ h=>h)) (fun j t=>by have:=(bL j t).1;have:=bx.o.size;have:=L.o.size;omega));have e2:Hid (wr.heap.size<=w3.heap.size):=ae (bx.o.trans ai).size;clear bI bJ bK bL ai F dV bx bV aw aC aD aE aF aG;obtain⟨aw,aC,aD,aE,aF,aG⟩:=eY e1.o;go_wp2_with fail;obtain⟨fg,cv⟩:=ay w3.heap.size;rw[cv] at c7 e2;try rw[cv]
   clear cv;generalize w3.alloc (aA D.name D.sort pa D.kids.length Q z.name z.sort S z.kids.length T)=gE at*;refine(dW.o _ bz.o).mono ?_;rintro e aH ⟨H,rc,U,sc,gF,gH,rfl,bI,bJ,bK,bL,cw⟩;have F:=cw.alloc (aA E.name E.sort H E.kids.length rc C.name C.sort U C.kids.length sc);have c8:=ae (bz.o.trans F);have bA:=ae (F.heap c7.o id);have bj:=ae (aj aH (aA E.name E.sort H E.kids.length rc C.name C.sort U C.kids.length sc));have fh:=ae (bM.o.ext F);have fi:=ae (bN.o.ext F);have fj:Hid (jZ w.heap.size (aH.alloc (aA E.name E.sort H E.kids.length rc C.name C.sort U C.kids.length sc)) E (.slice H E.kids.length rc)):=ae (jZ.of (bI.kept ((uR aH).alloc _) (fun _ _ h=>h)) (fun j t=>by have:=(bK j t).1;have:=bz.o.size;have:=L.o.size;omega));have fV:Hid (jZ w.heap.size (aH.alloc (aA E.name E.sort H E.kids.length rc C.name C.sort U C.kids.length sc)) C (.slice U C.kids.length sc)):=ae (jZ.of (bJ.kept ((uR aH).alloc _) (fun _ _ h=>h)) (fun j t=>by have:=(bL j t).1;have:=bz.o.size;have:=L.o.size;omega));have e3:Hid (wr.heap.size<=aH.heap.size):=ae (bz.o.trans cw).size;clear bI bJ bK bL cw F dW bz e1 c7 bM bN aw aC aD aE aF aG;go_upto_region 11 with fail;obtain⟨fW,c9⟩:=ay aH.heap.size;rw[c9] at bj e3;try rw[c9]
   clear c9;generalize aH.alloc (aA E.name E.sort H E.kids.length rc C.name C.sort U C.kids.length sc)=O at*;have cx:=ae (L.o.trans c8.o);have dX:=ae (N.o.ext c8.o);have dY:=ae (P.o.ext c8.o);have aU: ¬(fun j=>(Value.slice G b.length c1).ownBlock=some j\/(Value.slice a2 q.length c2).ownBlock=some j) fg:=fun h=>by
    have fX:=e2.o;rcases h with h|h
    .have:=(World.ownsRow.lt N.o.own _ h).2;omega
    .have:=(World.ownsRow.lt P.o.own _ h).2;omega
   have bk: ¬(fun j=>(Value.slice G b.length c1).ownBlock=some j\/(Value.slice a2 q.length c2).ownBlock=some j) fW:=fun h=>by
    have fX:=e3.o;rcases h with h|h
    .have:=(World.ownsRow.lt N.o.own _ h).2;omega
    .have:=(World.ownsRow.lt P.o.own _ h).2;omega
   have aw:=fun x:XF (fun j=>(Value.slice G b.length c1).ownBlock=some j\/(Value.slice a2 q.length c2).ownBlock=some j) O=>x.upd.cell (ag bA.o 0 (.string D.name) rfl) aU;have da:=fun x:XF (fun j=>(Value.slice G b.length c1).ownBlock=some j\/(Value.slice a2 q.length c2).ownBlock=some j) O=>x.upd.cell (ag bj.o 0 (.string E.name) rfl) bk;have aC:=fun x:XF (fun j=>(Value.slice G b.length c1).ownBlock=some j\/(Value.slice a2 q.length c2).ownBlock=some j) O=>x.upd.cell (ag bA.o 1 (.string D.sort) rfl) aU;have db:=fun x:XF (fun j=>(Value.slice G b.length c1).ownBlock=some j\/(Value.slice a2 q.length c2).ownBlock=some j) O=>x.upd.cell (ag bj.o 1 (.string E.sort) rfl) bk;have aD:=fun x:XF (fun j=>(Value.slice G b.length c1).ownBlock=some j\/(Value.slice a2 q.length c2).ownBlock=some j) O=>x.upd.cell (ag bA.o 2 (.slice pa D.kids.length Q) rfl) aU;have dc:=fun x:XF (fun j=>(Value.slice G b.length c1).ownBlock=some j\/(Value.slice a2 q.length c2).ownBlock=some j) O=>x.upd.cell (ag bj.o 2 (.slice H E.kids.length rc) rfl) bk;have aE:=fun x:XF (fun j=>(Value.slice G b.length c1).ownBlock=some j\/(Value.slice a2 q.length c2).ownBlock=some j) O=>x.upd.cell (ag bA.o 3 (.string z.name) rfl) aU;have dd:=fun x:XF (fun j=>(Value.slice G b.length c1).ownBlock=some j\/(Value.slice a2 q.length c2).ownBlock=some j) O=>x.upd.cell (ag bj.o 3 (.string C.name) rfl) bk;have aF:=fun x:XF (fun j=>(Value.slice G b.length c1).ownBlock=some j\/(Value.slice a2 q.length c2).ownBlock=some j) O=>x.upd.cell (ag bA.o 4 (.string z.sort) rfl) aU;have de:=fun x:XF (fun j=>(Value.slice G b.length c1).ownBlock=some j\/(Value.slice a2 q.length c2).ownBlock=some j) O=>x.upd.cell (ag bj.o 4 (.string C.sort) rfl) bk;have aG:=fun x:XF (fun j=>(Value.slice G b.length c1).ownBlock=some j\/(Value.slice a2 q.length c2).ownBlock=some j) O=>x.upd.cell (ag bA.o 5 (.slice S z.kids.length T) rfl) aU;have df:=fun x:XF (fun j=>(Value.slice G b.length c1).ownBlock=some j\/(Value.slice a2 q.length c2).ownBlock=some j) O=>x.upd.cell (ag bj.o 5 (.slice U C.kids.length sc) rfl) bk;have fk:=N;clear N P fk;have N:=dX;have P:=dY;clear dX dY;have hlen:b.length+1<=1000/\q.length+1<=1000:=by have:=cW.o;have:=bw.o;have:=bq.o;omega
   refine PI.dw (α:=(Option Addr×Nat)×Nat×(Nat->Prop)) (fun j=>(Value.slice G b.length c1).ownBlock=some j\/(Value.slice a2 q.length c2).ownBlock=some j) 8 [] 8 [(8,2),(9,2)] [[],[],[1],[0,1,2],[],[],[5],[0,1,2,3,4,5,6],[0,1,2,3,4,5,6,7],[0,1,2,3,4,5,6,7,8]]
    [none,none,some (Jn (fun j=>(Value.slice G b.length c1).ownBlock=some j\/(Value.slice a2 q.length c2).ownBlock=some j) (aA D.name D.sort pa D.kids.length Q z.name z.sort S z.kids.length T)),some (Jo w.heap.size (fun j=>(Value.slice G b.length c1).ownBlock=some j) (fun j=>(Value.slice a2 q.length c2).ownBlock=some j) (.slice G b.length c1) b.length (b.flatMap v_) bU.o (b.length+1) (b.flatMap v_++[.string D.name,.string D.sort,.slice pa D.kids.length Q,.string z.name,.string z.sort,.slice S z.kids.length T])),none,none,some (Jn (fun j=>(Value.slice G b.length c1).ownBlock=some j\/(Value.slice a2 q.length c2).ownBlock=some j) (aA E.name E.sort H E.kids.length rc C.name C.sort U C.kids.length sc)),some (Jo w.heap.size (fun j=>(Value.slice a2 q.length c2).ownBlock=some j) (fun j=>(Value.slice G b.length c1).ownBlock=some j) (.slice a2 q.length c2) q.length (q.flatMap v_) (fun k R h1=>bU.o k h1 R) (q.length+1) (q.flatMap v_++[.string E.name,.string E.sort,.slice H E.kids.length rc,.string C.name,.string C.sort,.slice U C.kids.length sc]))]
    [false,false,true,true,false,false,true,true] (by kernel_rfl) (by kernel_rfl) rfl (fun _ _ d _ _ h=>by cases d<;>exact h)
    ⟨fun i A j B h1 R hne k aR=>by
      have hi:i<8:=by
       refine Nat.lt_of_not_le (fun aV=>?_);change List.getD _ i none=some _ at h1;rw[List.getD_eq_getElem?_getD,List.getElem?_eq_none (by simpa using aV)] at h1;cases h1
      have t:j<8:=by
       refine Nat.lt_of_not_le (fun aV=>?_);change List.getD _ j none=some _ at R;rw[List.getD_eq_getElem?_getD,List.getElem?_eq_none (by simpa using aV)] at R;cases R
      rcases(by omega:i=0\/i=1\/i=2\/i=3\/i=4\/i=5\/i=6\/i=7) with rfl|rfl|rfl|rfl|rfl|rfl|rfl|rfl<;>first|(cases h1;done)|skip
      all_goals (injection h1 with h1;subst h1)
      all_goals (rcases(by omega:j=0\/j=1\/j=2\/j=3\/j=4\/j=5\/j=6\/j=7) with rfl|rfl|rfl|rfl|rfl|rfl|rfl|rfl<;>first|(cases R;done)|exact absurd rfl hne|skip)
      all_goals (injection R with R;subst R)
      all_goals first|exact aR.elim|exact aR|exact .inl aR|exact .inr aR,fun i A h1 k aR=>by
      have hi:i<8:=by
       refine Nat.lt_of_not_le (fun aV=>?_);change List.getD _ i none=some _ at h1;rw[List.getD_eq_getElem?_getD,List.getElem?_eq_none (by simpa using aV)] at h1;cases h1
      rcases(by omega:i=0\/i=1\/i=2\/i=3\/i=4\/i=5\/i=6\/i=7) with rfl|rfl|rfl|rfl|rfl|rfl|rfl|rfl<;>first|(cases h1;done)|skip
      all_goals (injection h1 with h1;subst h1)
      all_goals first|exact aR.elim|exact .inl aR|exact .inr aR⟩ (fun i A h1=>by
      have hi:i<8:=by
       refine Nat.lt_of_not_le (fun aV=>?_);change List.getD _ i none=some _ at h1;rw[List.getD_eq_getElem?_getD,List.getElem?_eq_none (by simpa using aV)] at h1;cases h1
      rcases(by omega:i=0\/i=1\/i=2\/i=3\/i=4\/i=5\/i=6\/i=7) with rfl|rfl|rfl|rfl|rfl|rfl|rfl|rfl<;>first|(cases h1;done)|skip
      all_goals (injection h1 with h1;subst h1)
      all_goals first|exact trivial|exact N.o.own|exact P.o.own) ?_
   simp only[List.take_succ_cons,List.take_zero,fA,List.getElem?_cons_zero,List.getElem?_cons_succ];refine PI.bf rfl (fun K hK=>?_);go_simp;refine hK _ ?_;clear hK K;refine PI.bf rfl (fun K hK=>?_);go_simp;refine hK _ ?_;clear hK K;refine PI.aQ _ rfl (by go_simp) (fun W hW ao bE K hK=>?_) (fun K z2 hK=>?_)
   .go_simp;exact hK ((none,0),W.heap.size,fun _=>False) _ ((uR W).alloc _) ⟨fun h=>by
     have h:(Value.slice G b.length c1).ownBlock=some W.heap.size\/(Value.slice a2 q.length c2).ownBlock=some W.heap.size:=h;have h1:O.heap.size<=W.heap.size:=hW.size;rcases h with h|h
     .have:=(World.ownsRow.lt N.o.own _ h).2;omega
     .have:=(World.ownsRow.lt P.o.own _ h).2;omega,aj _ _⟩ (fun k e=>by rw[e];exact Nat.le_refl _)
   refine hK _ ?_;clear hK K;dsimp only[Jn,Jo];refine PI.aQ _ rfl (by go_simp) (fun W hW ao bE K hK=>?_) (fun K z3 hK=>?_)
   .have gc:=ao _ (List.mem_append_right _ (List.mem_singleton.2 rfl)) (by show(2:Nat)∈_;decide);obtain⟨dh,hi,bs,cy,ab⟩:=info_parts Y8;have hown:W.ownsRow w.heap.size 146 6 (.slice G b.length c1) b.length (b.flatMap v_):=bE;refine d_ _ (.tmp 46) (.tmp 48) 50 rfl w.heap.size 146 dh (.agg #[.string ⟨#[]⟩,.string ⟨#[]⟩,.slice none 0 0,.string ⟨#[]⟩,.string ⟨#[]⟩,.slice none 0 0]) 6 112 Tryz.underlying50 hi bs cy ab rfl (by decide) _ b.length _ rfl hown ⟨z2.2.1,0,none⟩ 1 1 [.string D.name,.string D.sort,.slice pa D.kids.length Q,.string z.name,.string z.sort,.slice S z.kids.length T] rfl rfl (fun j u t=>?_) (by intro u hu;simp at hu;rcases hu with h|h|h|h|h|h<;>(subst h;rfl)) (by have:=hlen;unfold maxLen;omega) (by have:=hlen;omega) (Nat.le_trans cx.o.size hW.size) ?_
    .have fl:j<6:=(List.getElem?_eq_some_iff.1 t).1;rw[show(⟨z2.2.1,0,none⟩:Addr).add j=⟨z2.2.1,j,none⟩ by rw[Addr.add_lit,Nat.zero_add]];rw[cell_of_row _ _ j _ _ _ gc.2];simpa using t
    intro v' w' aI;obtain⟨a',bO,hv⟩:=bF aI.own;subst hv;have cz:=aI.xK;refine hK ((a',bO),0,fun k=>(Value.slice a' (b.length+1) bO).ownBlock=some k/\W.heap.size<=k) w' (aI.upd) ⟨aI.own,fun k hk=>?_,fun k hk=>hk.1⟩ (fun k e=>e.2);rcases cz with h|h
    .rw [h] at hk;exact⟨fun e=>bU.o k hk e,.inl hk⟩
    .have aW:=hk;rw[h] at aW;injection aW with aW
     exact⟨fun e=>by have:=(World.ownsRow.lt P.o.own _ e).2;have:=hW.size;omega,.inr ⟨hk,by omega⟩⟩
   refine hK _ ?_;clear hK K;dsimp only[Jn,Jo];refine PI.bf rfl (fun K hK=>?_);go_simp;refine hK _ ?_;clear hK K;refine PI.bf rfl (fun K hK=>?_);go_simp;refine hK _ ?_;clear hK K;refine PI.aQ _ rfl (by go_simp) (fun W hW ao bE K hK=>?_) (fun K di hK=>?_)
   .go_simp;exact hK ((none,0),W.heap.size,fun _=>False) _ ((uR W).alloc _) ⟨fun h=>by
     have h:(Value.slice G b.length c1).ownBlock=some W.heap.size\/(Value.slice a2 q.length c2).ownBlock=some W.heap.size:=h;have h1:O.heap.size<=W.heap.size:=hW.size;rcases h with h|h
     .have:=(World.ownsRow.lt N.o.own _ h).2;omega
     .have:=(World.ownsRow.lt P.o.own _ h).2;omega,aj _ _⟩ (fun k e=>by rw[e];exact Nat.le_refl _)
   refine hK _ ?_;clear hK K;dsimp only[Jn,Jo];refine PI.aQ _ rfl (by go_simp) (fun W hW ao bE K hK=>?_) (fun K b9 hK=>?_)
   .have gc:=ao _ (List.mem_append_right _ (List.mem_singleton.2 rfl)) (by show(6:Nat)∈_;decide);have g3:=ao _ (List.mem_append_left _ (List.mem_append_right _ (List.mem_singleton.2 rfl))) (by show(3:Nat)∈_;decide);obtain⟨dh,hi,bs,cy,ab⟩:=info_parts Y8;have hown:W.ownsRow w.heap.size 146 6 (.slice a2 q.length c2) q.length (q.flatMap v_):=bE;refine d_ _ (.tmp 50) (.tmp 52) 50 rfl w.heap.size 146 dh (.agg #[.string ⟨#[]⟩,.string ⟨#[]⟩,.slice none 0 0,.string ⟨#[]⟩,.string ⟨#[]⟩,.slice none 0 0]) 6 112 Tryz.underlying50 hi bs cy ab rfl (by decide) _ q.length _ rfl hown ⟨di.2.1,0,none⟩ 1 1 [.string E.name,.string E.sort,.slice H E.kids.length rc,.string C.name,.string C.sort,.slice U C.kids.length sc] rfl rfl (fun j u t=>?_) (by intro u hu;simp at hu;rcases hu with h|h|h|h|h|h<;>(subst h;rfl)) (by have:=hlen;unfold maxLen;omega) (by have:=hlen;omega) (Nat.le_trans cx.o.size hW.size) ?_
    .have fl:j<6:=(List.getElem?_eq_some_iff.1 t).1;rw[show(⟨di.2.1,0,none⟩:Addr).add j=⟨di.2.1,j,none⟩ by rw[Addr.add_lit,Nat.zero_add]];rw[cell_of_row _ _ j _ _ _ gc.2];simpa using t
    intro v' w' aI;obtain⟨a',bO,hv⟩:=bF aI.own;subst hv;have cz:=aI.xK;refine hK ((a',bO),0,fun k=>(Value.slice a' (q.length+1) bO).ownBlock=some k/\W.heap.size<=k) w' (aI.upd) ⟨aI.own,fun k hk=>?_,fun k hk=>hk.1⟩ (fun k e=>e.2);rcases cz with h|h
    .rw [h] at hk;exact⟨fun e=>bU.o k e hk,.inl hk⟩
    .have aW:=hk;rw[h] at aW;injection aW with aW
     exact⟨fun e=>by have:=(World.ownsRow.lt N.o.own _ e).2;have:=hW.size;omega,.inr ⟨hk,by omega⟩⟩
   refine hK _ ?_;clear hK K;dsimp only[Jn,Jo];refine PI.jg (fun V hW ao ca=>?_);have g3:=ao _ (List.mem_append_left _ (List.mem_append_left _ (List.mem_append_right _ (List.mem_singleton.2 rfl))));have g7:=ao _ (List.mem_append_right _ (List.mem_singleton.2 rfl));unfold PI.vH at ca;simp only[List.nil_append,List.singleton_append,List.cons_append,List.pairwise_cons] at ca;have a37:=ca.2.1 _ (List.mem_cons_of_mem _ (List.mem_cons_self ..));dsimp only[Jn,Jo] at g3 g7 a37;have dZ: ∀j,(Value.slice z3.1.1 (b.length+1) z3.1.2).ownBlock=some j->¬(Value.slice b9.1.1 (q.length+1) b9.1.2).ownBlock=some j:=fun j fY dj=>by
    obtain⟨fZ,a6⟩:=g3.2.1 j fY;obtain⟨ga,a7⟩:=g7.2.1 j dj;rcases a6 with a6|a6
    .exact ga a6
    .rcases a7 with a7|a7
     .exact fZ a7
     .exact a37 j a6 a7
   have aK: ∀j,(fun j=>(Value.slice G b.length c1).ownBlock=some j\/(Value.slice a2 q.length c2).ownBlock=some j) j->¬kT O j:=fun j h=>by
    rcases h with h|h
    .exact KJ N.o.own h
    .exact KJ P.o.own h
   have ea:Hid (yM w.heap.size V (.slice z3.1.1 (b.length+1) z3.1.2) (b++[((D,z),.slice pa D.kids.length Q,.slice S z.kids.length T)])):=ae ⟨by rw[List.length_append,List.flatMap_append];exact g3.1,fun x hx=>by
    rcases List.mem_append.1 hx with hx|hx
    .exact ⟨(N.o.tl x hx).1.upd hW aK,(N.o.tl x hx).2.upd hW aK⟩
    .rw [List.mem_singleton] at hx;subst hx;exact⟨fh.o.upd hW aK,fi.o.upd hW aK⟩⟩
   have eb:Hid (yM w.heap.size V (.slice b9.1.1 (q.length+1) b9.1.2) (q++[((E,C),.slice H E.kids.length rc,.slice U C.kids.length sc)])):=ae ⟨by rw[List.length_append,List.flatMap_append];exact g7.1,fun x hx=>by
    rcases List.mem_append.1 hx with hx|hx
    .exact ⟨(P.o.tl x hx).1.upd hW aK,(P.o.tl x hx).2.upd hW aK⟩
    .rw [List.mem_singleton] at hx;subst hx;exact⟨fj.o.upd hW aK,fV.o.upd hW aK⟩⟩
   have cb:Hid (Ext w V):=ae (cx.o.trans' hW (fun j t e=>by
    rcases e with e|e
    .have:=(World.ownsRow.lt N.o.own _ e).1;omega
    .have:=(World.ownsRow.lt P.o.own _ e).1;omega))
   have ec:(b++[(((D,z),.slice pa D.kids.length Q,.slice S z.kids.length T):Re)]).map (·.1)=fs.take (k+1):=by
    rw[List.map_append,cZ.o,Sm fs k (by have:=cX.o;omega),fU.o];rfl
   have ed:(q++[(((E,C),.slice H E.kids.length rc,.slice U C.kids.length sc):Re)]).map (·.1)=sn.take (k+1):=by
    rw[List.map_append,c0.o,Sm sn k (by have:=cY.o;omega),ff.o];rfl
   have fm:=ae ec;have fo:=ae ed;have cA:=ae dZ;have cm:(b++[(((D,z),.slice pa D.kids.length Q,.slice S z.kids.length T):Re)]).length=b.length+1:=by simp
   have cn:(q++[(((E,C),.slice H E.kids.length rc,.slice U C.kids.length sc):Re)]).length=q.length+1:=by simp
   rw[<-cm] at ea cA;rw[<-cn] at eb cA;clear ao ca g3 g7 a37 dZ aK hW ec ed aw aC aD aE aF aG da db dc dd de df aU bk;refine fD ?_;intro K hK;go_simp;refine hK _ _ ?_;clear hK K;refine fD ?_;intro K hK;go_simp;refine hK _ _ ?_;clear hK K;simp only[dA];go_wp2_with fail;go_roundg (l.length- (k+1));case measure=>omega
   case rel=>exact⟨k+1,_,_,_,_,_,_,by rw[cm],by rw[cn],by go_num,rfl,by omega,ae (by rw[cm];have:=bw.o;omega),ae (by rw[cn];have:=bq.o;omega),fm,fo,ea,eb,cA,cb⟩
  .obtain rfl:k=l.length:=by omega
   have z2:decide ((l.length:Int)< (l.length:Int))=false:=dF (by omega);have ee:b.map (·.1)=fs:=by rw[cZ.o,List.take_of_length_le (by have:=cX.o;omega)]
   have ef:q.map (·.1)=sn:=by rw[c0.o,List.take_of_length_le (by have:=cY.o;omega)]
   have fp:=ae ee;have fq:=ae ef;have e4:Hid (Ext wr wr):=ae (au.refl _ _);have dk:=L;clear ee ef cZ c0 dP b7 eW eV L hk;have cB:Hid (KQ J fs l.length (l.length-0) 0 none=some Z):=ae eZ.o;have e5:Hid (Gv wr (.slice none 0 0) none):=ae rfl;clear eZ;go_wp2_with fail;obtain⟨n,hn⟩:=ay l.length;rw[hn] at bw bq cW cX cY cB eX dR;try rw[hn]
   clear z2 hn;generalize fr:wr=gb at*;clear fr;go_loopg [12,57] n (fun gk bP a8 wr=> ∃(i:Nat) (acc:Option Cp),a8= .int .i64 (i:Int)/\gk=n-i/\i<=n/\Hid (Gv wr bP acc)/\Hid (KQ J fs n (n-i) i acc=some Z)/\Hid (Ext gb wr));case atStart=>exact⟨0,none,rfl,rfl,Nat.zero_le _,e5,cB,e4⟩
   case round=>
    clear e5 cB e4;obtain⟨i,acc,rfl,rfl,hi,ah,bW,L⟩:=hrel;have gw:n<=100:=cW.o;by_cases e6:i<n
    .have eh:=ae (N.o.ext L.o);have cC:i<b.length:=by have:=bw.o;omega
     obtain⟨g,off,cq,aN⟩:=eh.o.at_ (by omega);subst cq;obtain⟨ad,af,al,an,ex,dm,bX,bY,av,ba,bb,bc,bd,bg⟩:=aN i cC;have aX:(eg b i).1=Go.Hw.rg fs i:=by rw[<-fp.o];exact adm b i cC
     have aS:=eX.o i e6;have aM:=dR.o i;obtain⟨⟨⟨x,y⟩,gI,gJ⟩,ei⟩: ∃r,eg b i=r:=⟨_,rfl⟩
     rw[ei] at ex dm bX bY av ba bb bc bd bg aX;dsimp only at ex dm bX bY av ba bb bc bd bg aX;have ej:(KP J i n (jK x []) acc).bind (KQ J fs n (n- (i+1)) (i+1))=some Z:=by
      have h:=bW.o;rw[show n-i=(n- (i+1))+1 by omega] at h;unfold KQ at h;rw[<-aX] at h;exact h
     rw[<-aX] at aS;dsimp only at aS;have ek: ∀k p,k<n->p∈jK x []->¬(p.length=0/\k<=i)->KN (x,y) (Go.Hw.rg sn k) p (J i p k):=fun k p hk hp hc=>by
      have h:=aM k p e6 hk (by rw[<-aX];exact hp) hc;rw[<-aX] at h;exact h
     have el:=ae ek;have e7:=ae bX;have en:=ae bY;have cD:=ae ej;have ft:=Jm x [];have bQ:Hid ((jK x []).length<=1000/\x.size<=1000):=ae ⟨by omega,aS⟩;obtain⟨z0,c6,z2,br⟩:=bH cC;have F:=(uR wr).alloc (aA x.name x.sort ad x.kids.length af y.name y.sort al y.kids.length an);have dn:=ae F;have eo:=ae (L.o.trans F);have cc:=ae (aj wr (aA x.name x.sort ad x.kids.length af y.name y.sort al y.kids.length an));have ep:=ae (ah.o.ext F);clear aN ex dm bX bY aX ei aM ek ej aS ft F;obtain⟨aw,aC,aD,aE,aF,aG⟩:=eY cc.o;go_wp2_with fail;obtain⟨gx,cE⟩:=ay wr.heap.size;rw[cE] at cc;try rw[cE]
     clear cE av ba bb bc bd bg;have cF:=ae (e7.o.ext dn.o);have er:=ae (en.o.ext dn.o);generalize wr.alloc (aA x.name x.sort ad x.kids.length af y.name y.sort al y.kids.length an)=w2 at*;have e8:=ae (aeB x (.agg #[.string x.name,.string x.sort,.slice ad x.kids.length af]) (.slice none 0 0) (fun k=>k<w2.heap.size) (fun _=>False) [] w2 ⟨ad,af,rfl,G_ cF.o⟩ (aB.nil _ _ _) (fun k hk=>hk) (fun k hk=>hk.elim) (by have:=bQ.o;omega) (by have:=bQ.o;simp;omega));clear eh e7 en dn L ah bW aw aC aD aE aF aG;refine e8.o.mono ?_;rintro e w3 ⟨pa,Q,rfl,bZ,ai⟩;have e9:=ae (eo.o.trans ai);have fu:=ae (ai.heap cc.o id);have fv:=ae (cF.o.ext ai);have fw:=ae (er.o.ext ai);have et:=ae (ep.o.ext ai);have eu:=ae bZ;have ev:Hid (Ext w3 w3):=ae (au.refl _ _);have ew:=ae (Sl x []);obtain⟨PP,ey⟩:=ay (jK x []);rw[ey] at eu cD bQ ew el⊢;have ez:Hid ((KP J i n (PP.drop 0) acc).bind (KQ J fs n (n- (i+1)) (i+1))=some Z):=ae cD.o;clear bZ ai e8 eo cc cF er ep ey cD;go_wp2_with fail;have eA:=et;clear et;generalize hK:KQ J fs n (n- (i+1)) (i+1)=cd at*;have fx:=ae hK;clear hK;go_loopg [12,66] PP.length (fun gk bP a8 wr=> ∃(j:Nat) (acc:Option Cp),a8= .int .i64 (j:Int)/\gk=PP.length-j/\j<=PP.length/\Hid (Gv wr bP acc)/\Hid ((KP J i n (PP.drop j) acc).bind cd=some Z)/\Hid (Ext w3 wr));case atStart=>exact⟨0,acc,rfl,rfl,Nat.zero_le _,eA,ez,ev⟩
     case round=>
      clear eA ez ev;obtain⟨j,acc,rfl,rfl,t,ah,b0,bl⟩:=hrel;have gy:PP.length<=1000:=bQ.o.1;by_cases bB:j<PP.length
      .have bZ:=eu.o.ext bl.o;obtain⟨us,gd,hown,hint⟩:=bZ;obtain⟨g,off,cap,e,_,_,eB⟩:=aB.pos (aB.gG hown) (by omega);injection e with e dj gf
       subst e;subst gf;have bR:=hint j bB;obtain⟨p,hp⟩:=ay (PP.getD j []);have cG:p∈PP:=by rw[<-hp,List.getD_eq_getElem?_getD,List.getElem?_eq_getElem bB];exact List.getElem_mem bB
       have eC:PP.drop j=p::PP.drop (j+1):=by
        rw[List.drop_eq_getElem_cons bB,<-hp,List.getD_eq_getElem?_getD,List.getElem?_eq_getElem bB];rfl
       rw[hp] at bR;obtain⟨va,vc,hv⟩:=aB.shape bR;rw[hv] at bR;have av:wr.cell? ⟨g,off+j,none⟩=some (.slice va p.length vc):=by
        rw[eB j (by omega),<-hv];unfold ug;rw[List.getD_eq_getElem?_getD,List.getElem?_eq_getElem (by omega)];rfl
       have fy:=ae (bR.weaken (fun k hk=>(rU.lt hk.2:k<wr.heap.size)));have bG:=b0.o;rw[eC] at bG;unfold KP at bG;rw[Option.bind_assoc] at bG;have fz:Hid (∀k,k<n->¬(p.length=0/\k<=i)->KN (x,y) (Go.Hw.rg sn k) p (J i p k)):=ae (fun k hk hc=>el.o k p hk cG hc);have gz:Hid (p.length<=1000):=ae (by have h1:=ew.o p cG;have R:=bQ.o.2;rw[List.length_nil] at h1;omega);obtain⟨z0,c6,z2,br⟩:=bH bB;have cH:=ae (e9.o.trans bl.o);have eD:=ae (bl.o.heap fu.o id);have fB:=ae (fv.o.ext bl.o);have fC:=ae (fw.o.ext bl.o);have eE:Hid (Ext wr wr):=ae (au.refl _ _);have eF:=ah;clear bR hv hp cG eC hint gd hown eB ah b0 dj;obtain⟨bC,cI⟩: ∃K:Option Cp->Option (Option Cp),(fun a=>(KP J i n (PP.drop (j+1)) a).bind cd)=K:=⟨_,rfl⟩
       have fE:=ae cI;have bm:Hid ((KO J i p (n-0) 0 acc).bind bC=some Z):=ae (by rw[<-cI];exact bG);clear bG cI;go_wp2_with fail;clear av;generalize fF:wr=gg at*;clear fF;go_loopg [12,72] n (fun gk bP a8 wr=> ∃(k:Nat) (acc:Option Cp),a8= .int .i64 (k:Int)/\gk=n-k/\k<=n/\Hid (Gv wr bP acc)/\Hid ((KO J i p (n-k) k acc).bind bC=some Z)/\Hid (Ext gg wr));case atStart=>exact⟨0,acc,rfl,rfl,Nat.zero_le _,eF,bm,eE⟩
       case round=>
        clear eF bm eE;obtain⟨k,acc,rfl,rfl,hk,ah,bm,cf⟩:=hrel;by_cases fG:k<n
        .have eG:=ae (P.o.ext ((cH.o).trans cf.o));have cJ:k<q.length:=by have:=bq.o;omega
         obtain⟨g2,gK,gh,aN⟩:=eG.o.at_ (by omega);subst gh;obtain⟨aY,aZ,bn,bo,dp,eq,b1,b2,dq,r1,r2,dr,ds,dt⟩:=aN k cJ;have b3:(eg q k).1=Go.Hw.rg sn k:=by rw[<-fq.o];exact adm q k cJ
         obtain⟨⟨⟨M,q'⟩,up,gL⟩,eH⟩: ∃r,eg q k=r:=⟨_,rfl⟩
         rw[eH] at dp eq b1 b2 dq r1 r2 dr ds dt b3;dsimp only at dp eq b1 b2 dq r1 r2 dr ds dt b3;have bS:=bm.o;rw[show n-k=(n- (k+1))+1 by omega] at bS;unfold KO at bS;rw[Option.bind_assoc] at bS;have cg:=ae bS;have fH:=ae b3;have F:=(uR wr).alloc (aA M.name M.sort aY M.kids.length aZ q'.name q'.sort bn q'.kids.length bo);have fI:=ae F;have aL:=ae (cf.o.trans F);have eI:=ae (aj wr (aA M.name M.sort aY M.kids.length aZ q'.name q'.sort bn q'.kids.length bo));have cK:=ae (ah.o.ext F);have bM:=ae (b1.ext F);have bN:=ae (b2.ext F);have eJ:=ae (aL.o.heap eD.o id);have eK:=ae (fB.o.ext aL.o);have eL:=ae (fC.o.ext aL.o);have cL:=ae ((aB.kept fy.o aL.o (fun _ _ h=>h)).weaken (fun j t=>(aP t aL.o.size:j< (wr.alloc (aA M.name M.sort aY M.kids.length aZ q'.name q'.sort bn q'.kids.length bo)).heap.size)));obtain⟨z0,c6,z2,br⟩:=bH cJ;clear aN dp eq b1 b2 b3 eH bS F eG ah bm;by_cases ak:p.length=0/\k<=i
         .have t1:((p.length:Int)==0)=true:=beq_iff_eq.2 (by omega);have t2:decide ((p.length:Int)=0)=true:=dT (by omega);have t3:decide ((k:Int)<=(i:Int))=true:=dT (by omega);have t4:decide (k<=i)=true:=dT ak.2;have t5:(p.length==0)=true:=beq_iff_eq.2 ak.1;have t6:decide (p.length=0)=true:=dT ak.1;have ab:(KO J i p (n- (k+1)) (k+1) acc).bind bC=some Z:=by
           have h:=cg.o;unfold Y7 at h;rw[if_pos ak] at h;exact h
          have ar:=ae ab;clear ak ab;go_wp2_with fail;go_roundg (n- (k+1));case measure=>omega
          case rel=>exact⟨k+1,acc,by go_num,rfl,by omega,cK,ar,aL⟩
         .have du:=ae ak;have fJ:((p.length:Int)==0)=false/\decide ((p.length:Int)=0)=false/\decide (p.length=0)=false/\(p.length==0)=false\/(((p.length:Int)==0)=true/\decide ((p.length:Int)=0)=true/\decide ((k:Int)<=(i:Int))=false/\decide (p.length=0)=true/\(p.length==0)=true/\decide (k<=i)=false):=by
           by_cases bt:p.length=0
           .exact .inr ⟨beq_iff_eq.2 (by omega),dT (by omega),dF (fun h=>ak ⟨bt,by omega⟩),dT bt,beq_iff_eq.2 bt,dF (fun h=>ak ⟨bt,h⟩)⟩
           .exact .inl ⟨beq_eq_false_iff_ne.2 (by omega),dF (by omega),dF bt,beq_eq_false_iff_ne.2 bt⟩
          have cM:=fz.o k fG ak;rw[<-fH.o] at cM;obtain⟨gi,eM,eN⟩:=bM.o;have dv:=ae (cM ad al aY bn af an aZ bo (.slice va p.length vc) gi _ (aT cV.o (dk.o.trans (cH.o.trans aL.o))) (G_ eK.o) (G_ eL.o) eM (fun j t=>(eN j t).2.lt) (G_ bN.o) (Ky cL.o));clear cM eM eN;obtain⟨fK,ch⟩:=ay wr.heap.size;have gA:=ae ch;obtain⟨gj,cN⟩:=ay (J i p k);have dx:=ae cN;rw[cN] at dv;clear cN ak;have eO:Hid ((wr.alloc (aA M.name M.sort aY M.kids.length aZ q'.name q'.sort bn q'.kids.length bo)).heap[fK]?=some (aA M.name M.sort aY M.kids.length aZ q'.name q'.sort bn q'.kids.length bo)):=ae (by rw[<-ch];exact eI.o);obtain⟨aw,aC,aD,aE,aF,aG⟩:=eY eJ.o;obtain⟨da,db,dc,dd,de,df⟩:=eY eO.o;rcases fJ with⟨t1,t2,t5,t6⟩|⟨t1,t2,t3,t5,t6,t4⟩
          all_goals
           go_upto_region 24 with fail;try rw[ch]
           clear t1 t2 t5 t6;try clear t3 t4
           generalize wr.alloc (aA M.name M.sort aY M.kids.length aZ q'.name q'.sort bn q'.kids.length bo)=aH at*;clear ch dq r1 r2 dr ds dt;go_wp2_with fail;refine dv.o.mono ?_;rintro e bp ⟨aM,bu⟩;have dy:=ae (aL.o.trans bu);have cO:=ae (cK.o.ext bu);clear aw aC aD aE aF aG da db dc dd de df;cases gj with
           |none=>
            obtain rfl:=aM;have F:=(uR bp).alloc (aJ ⟨#[]⟩ ⟨#[]⟩ none 0 0 ⟨#[]⟩ ⟨#[]⟩ none 0 0 ⟨#[]⟩ ⟨#[]⟩ none 0 0 0 0 none 0 0);have gl:=ae (dy.o.trans F);have fL:=ae (cO.o.ext F);have ab:(KO J i p (n- (k+1)) (k+1) acc).bind bC=some Z:=by
             have h:=cg.o;unfold Y7 at h;rw[if_neg du.o,dx.o] at h;exact h
            have ar:=ae ab;clear F ab bu;go_wp2_with fail;go_roundg (n- (k+1));case measure=>omega
            case rel=>exact⟨k+1,acc,by go_num,rfl,by omega,fL,ar,gl⟩
           |some r=>
            obtain⟨X,Y,aa,zc,H,rc,rfl,eP,eQ,eR⟩:=aM;cases acc with
            |some c=>
             exfalso;have h:=cg.o;unfold Y7 at h;rw[if_neg du.o,dx.o] at h;cases h
            |none=>
             have hu:_=Value.slice none 0 0:=cO.o;subst hu;have ab:(KO J i p (n- (k+1)) (k+1) (some (r.1,r.2.1,r.2.2,i,k,p))).bind bC=some Z:=by
              have h:=cg.o;unfold Y7 at h;rw[if_neg du.o,dx.o] at h;exact h
             have ar:=ae ab;have cP:=ae ((aB.kept cL.o bu (fun _ _ h=>h)).weaken (fun j t=>(aP t bu.size:j<bp.heap.size)));have dz:=ae eP;have dB:=ae eQ;have dC:=ae eR;clear ab eP eQ eR bu eJ eI eO cK bM bN eK eL cL dv cf aL fI eD;obtain⟨fM,bT⟩:=ay bp.heap.size;rw[bT] at cP dz dB dC;have F:=(uR bp).alloc (aJ r.1.name r.1.sort X r.1.kids.length Y r.2.1.name r.2.1.sort aa r.2.1.kids.length zc r.2.2.name r.2.2.sort H r.2.2.kids.length rc (i:Int) (k:Int) va p.length vc);have cb:=ae (dy.o.trans F);have fN:=ae (aB.kept cP.o F (fun _ _ h=>h));have gm:=ae (dz.o.ext F);have fO:=ae (dB.o.ext F);have fP:=ae (dC.o.ext F);have b4:=aj bp (aJ r.1.name r.1.sort X r.1.kids.length Y r.2.1.name r.2.1.sort aa r.2.1.kids.length zc r.2.2.name r.2.2.sort H r.2.2.kids.length rc 0 0 va p.length vc);rw[bT] at b4;have a1:=aj bp (aJ r.1.name r.1.sort X r.1.kids.length Y r.2.1.name r.2.1.sort aa r.2.1.kids.length zc r.2.2.name r.2.2.sort H r.2.2.kids.length rc (i:Int) (k:Int) va p.length vc);rw[bT] at a1;have fa:=ae a1;clear F dy cP dz dB dC cO a1;obtain⟨dD,c1,c2,c3,c4,c5,dE,dG,dH,dJ,cQ,cR⟩:=jY b4;have f2:=fun i=>ax b4 i
             go_upto_region 29 with fail;try rw[bT]
             clear bT b4 dD c1 c2 c3 c4 c5 dE dG dH dJ cQ cR f2;generalize bp.alloc (aJ r.1.name r.1.sort X r.1.kids.length Y r.2.1.name r.2.1.sort aa r.2.1.kids.length zc r.2.2.name r.2.2.sort H r.2.2.kids.length rc (i:Int) (k:Int) va p.length vc)=V at*;have a1:=fa.o;have cS:=(uR V).alloc (aJ r.1.name r.1.sort X r.1.kids.length Y r.2.1.name r.2.1.sort aa r.2.1.kids.length zc r.2.2.name r.2.2.sort H r.2.2.kids.length rc (i:Int) (k:Int) va p.length vc);have cj:Hid (fM<V.heap.size):=ae (Array.getElem?_eq_some_iff.1 a1).1;have fQ:Hid (w.heap.size<=(V.alloc (aJ r.1.name r.1.sort X r.1.kids.length Y r.2.1.name r.2.1.sort aa r.2.1.kids.length zc r.2.2.name r.2.2.sort H r.2.2.kids.length rc (i:Int) (k:Int) va p.length vc)).heap.size):=ae (Nat.le_trans dk.o.size (Nat.le_trans cH.o.size (Nat.le_trans cb.o.size cS.size)));have b7:Hid (aB (fun _=>True) (V.alloc (aJ r.1.name r.1.sort X r.1.kids.length Y r.2.1.name r.2.1.sort aa r.2.1.kids.length zc r.2.2.name r.2.2.sort H r.2.2.kids.length rc (i:Int) (k:Int) va p.length vc)) 12 (.slice (az V.heap.size) 1 1) 1 [Value.string r.1.name,.string r.1.sort,.slice X r.1.kids.length Y,.string r.2.1.name,.string r.2.1.sort,.slice aa r.2.1.kids.length zc,.string r.2.2.name,.string r.2.2.sort,.slice H r.2.2.kids.length rc,.int .i64 (i:Int),.int .i64 (k:Int),.slice va p.length vc]):=ae (aB.weaken (aB.gG (World.ownsRow_lit (base:=V.heap.size) (e:=152) (size:=12) V #[.string r.1.name,.string r.1.sort,.slice X r.1.kids.length Y,.string r.2.1.name,.string r.2.1.sort,.slice aa r.2.1.kids.length zc,.string r.2.2.name,.string r.2.2.sort,.slice H r.2.2.kids.length rc,.int .i64 (i:Int),.int .i64 (k:Int),.slice va p.length vc] 1 (Nat.le_refl _) (by unfold maxLen;omega) (by simp))) (fun _ _=>trivial));have gn:Hid (∀u∈[Value.string r.1.name,.string r.1.sort,.slice X r.1.kids.length Y,.string r.2.1.name,.string r.2.1.sort,.slice aa r.2.1.kids.length zc,.string r.2.2.name,.string r.2.2.sort,.slice H r.2.2.kids.length rc,.int .i64 (i:Int),.int .i64 (k:Int),.slice va p.length vc],u.oneCell'=true):=ae (fun u hu=>by simp at hu;rcases hu with h|h|h|h|h|h|h|h|h|h|h|h<;>(subst h;rfl));obtain⟨gp,eS,bs,dK,dM⟩:=info_parts aiC;obtain⟨dD,c1,c2,c3,c4,c5,dE,dG,dH,dJ,cQ,cR⟩:=jY a1;clear fa;go_wp2_with(at_builtin;refine kG _ rfl (.tmp 105) (.tmp 107) 147 rfl w.heap.size 152 gp (.agg #[.string ⟨#[]⟩,.string ⟨#[]⟩,.slice none 0 0,.string ⟨#[]⟩,.string ⟨#[]⟩,.slice none 0 0,.string ⟨#[]⟩,.string ⟨#[]⟩,.slice none 0 0,.int .i64 0,.int .i64 0,.slice none 0 0]) 12 208 Tryz.underlying147 eS bs dK dM rfl (by decide) (.slice none 0 0) 0 [] rfl (World.ownsRow_nil _ _ _ _) (fun _=>True) (.slice (az V.heap.size) 1 1) 1 [Value.string r.1.name,.string r.1.sort,.slice X r.1.kids.length Y,.string r.2.1.name,.string r.2.1.sort,.slice aa r.2.1.kids.length zc,.string r.2.2.name,.string r.2.2.sort,.slice H r.2.2.kids.length rc,.int .i64 (i:Int),.int .i64 (k:Int),.slice va p.length vc] rfl b7.o gn.o ?c3 ?c4 fQ.o ?_)
             case c3=>unfold maxLen;omega
             case c4=>omega
             intro v9 fb b5;obtain⟨g9,eT,gB,fR,_,_⟩:=ru b5.own (by omega);subst fR;have fc:Ext (V.alloc (aJ r.1.name r.1.sort X r.1.kids.length Y r.2.1.name r.2.1.sort aa r.2.1.kids.length zc r.2.2.name r.2.2.sort H r.2.2.kids.length rc (i:Int) (k:Int) va p.length vc)) fb:=b5.upd.mono (fun j _ e=>by cases e);have aq:=cS.trans fc;have gq:=ae (cb.o.trans aq);have fS:Hid (Gv fb (.slice (az g9) (0+1) eT) (some (r.1,r.2.1,r.2.2,i,k,p))):=ae ⟨g9,eT,X,Y,aa,zc,H,rc,va,vc,rfl,fun j u t=>by
              have fT:j< (0+1)*12:=(List.getElem?_eq_some_iff.1 t).1;have h:=World.ownsRow.cellAt b5.own j fT;exact h.trans t,(gm.o.ext aq).weaken (fun j t=>by have:=cj.o;have:=aq.size;omega),(fO.o.ext aq).weaken (fun j t=>by have:=cj.o;have:=aq.size;omega),(fP.o.ext aq).weaken (fun j t=>by have:=cj.o;have:=aq.size;omega),(aB.kept fN.o aq (fun _ _ h=>h)).weaken (fun j t=>by have:=cj.o;have:=aq.size;omega)⟩
             clear a1 cS fc aq b5 dD c1 c2 c3 c4 c5 dE dG dH dJ cQ cR eS bs dK dM;go_wp2_with fail;go_roundg (n- (k+1));case measure=>omega
             case rel=>exact⟨k+1,some (r.1,r.2.1,r.2.2,i,k,p),by go_num,rfl,by omega,fS,ar,gq⟩
        .have z2:decide ((k:Int)< (q.length:Int))=false:=dF (by have:=bq.o;omega);have br:decide (k<q.length)=false:=dF (by have:=bq.o;omega);have I:=bm.o;rw[show n-k=0 by omega] at I;unfold KO at I;have I:bC acc=some Z:=I;rw[<-fE.o] at I;have ar:Hid ((KP J i n (PP.drop (j+1)) acc).bind cd=some Z):=ae I;have cT:=ae (bl.o.trans cf.o);clear I bm;go_wp2_with fail;go_roundg (PP.length- (j+1));case measure=>omega
         case rel=>exact⟨j+1,acc,by go_num,rfl,by omega,ah,ar,cT⟩
      .have z2:decide ((j:Int)< (PP.length:Int))=false:=dF (by omega);have br:decide (j<PP.length)=false:=dF (by omega);have I:=b0.o;rw[List.drop_of_length_le (by omega)] at I;unfold KP at I;have I:cd acc=some Z:=I;rw[<-fx.o] at I;have ar:=ae I;have cT:=ae (e9.o.trans bl.o);clear I b0;go_wp2_with fail;go_roundg (n- (i+1));case measure=>omega
       case rel=>exact⟨i+1,acc,by go_num,rfl,by omega,ah,ar,cT⟩
    .have z2:decide ((i:Int)< (b.length:Int))=false:=dF (by have:=bw.o;omega);have br:decide (i<b.length)=false:=dF (by have:=bw.o;omega);have I:=bW.o;rw[show n-i=0 by omega] at I;unfold KQ at I;injection I with I
     subst I;clear bW;go_wp2_with fail;go_ret2;exact⟨_,rfl,ah.o,dk.o.trans L.o⟩
end
section
open Go.Sort Go.Proofs Go.ChangeMaps
theorem WS (a b rt:Tm) (i k:Int) (p:List Int) (c d g D j l q A:Option Addr) (r t u B x y z C:Nat) (w:World) (h1:aG (fun k=>k<w.heap.size) w a.kids (.slice c a.kids.length r)) (ax:aG (fun k=>k<w.heap.size) w b.kids (.slice d b.kids.length t)) (ay:aG (fun k=>k<w.heap.size) w rt.kids (.slice g rt.kids.length u)) (az:tC (fun k=>k<w.heap.size) w (.slice D p.length B) p) (g1:aG (fun k=>k<w.heap.size) w a.kids (.slice j a.kids.length x)) (g2:aG (fun k=>k<w.heap.size) w b.kids (.slice l b.kids.length y)) (g3:aG (fun k=>k<w.heap.size) w rt.kids (.slice q rt.kids.length z)) (g4:tC (fun k=>k<w.heap.size) w (.slice A p.length C) p) (hs:a.size<=1000/\b.size<=1000/\rt.size<=1000/\p.length<=1000):
  Calls Tryz.prog 105 #[.agg #[.string a.name,.string a.sort,.slice c a.kids.length r,.string b.name,.string b.sort,.slice d b.kids.length t,.string rt.name,.string rt.sort,.slice g rt.kids.length u,.int .i64 i,.int .i64 k,.slice D p.length B],.agg #[.string a.name,.string a.sort,.slice j a.kids.length x,.string b.name,.string b.sort,.slice l b.kids.length y,.string rt.name,.string rt.sort,.slice q rt.kids.length z,.int .i64 i,.int .i64 k,.slice A p.length C]] w fun e w'=>e= .returned (.bool true)/\Ext w w':=by
 have ar:=ae (fun W (hW:Ext w W)=>zo a a (tV a (.slice c a.kids.length r)) (tV a (.slice j a.kids.length x)) _ _ W ⟨c,r,rfl,h1.ext hW⟩ ⟨j,x,rfl,g1.ext hW⟩ (by omega));have af:=ae (fun W (hW:Ext w W)=>zo b b (tV b (.slice d b.kids.length t)) (tV b (.slice l b.kids.length y)) _ _ W ⟨d,t,rfl,ax.ext hW⟩ ⟨l,y,rfl,g2.ext hW⟩ (by omega));have au:=ae (fun W (hW:Ext w W)=>zo rt rt (tV rt (.slice g rt.kids.length u)) (tV rt (.slice q rt.kids.length z)) _ _ W ⟨g,u,rfl,ay.ext hW⟩ ⟨q,z,rfl,g3.ext hW⟩ (by omega));have aF:=ae (fun W (hW:Ext w W)=>ahv p p (.slice D p.length B) (.slice A p.length C) _ _ W (aB.kept az hW (fun _ _ h=>h)) (aB.kept g4 hW (fun _ _ h=>h)) (by omega));have aA:=((uR w).alloc (aJ a.name a.sort c a.kids.length r b.name b.sort d b.kids.length t rt.name rt.sort g rt.kids.length u i k D p.length B)).alloc (aJ a.name a.sort j a.kids.length x b.name b.sort l b.kids.length y rt.name rt.sort q rt.kids.length z i k A p.length C);have av:=ae aA;have ag:=ae (ak (aj w (aJ a.name a.sort c a.kids.length r b.name b.sort d b.kids.length t rt.name rt.sort g rt.kids.length u i k D p.length B)) (aJ a.name a.sort j a.kids.length x b.name b.sort l b.kids.length y rt.name rt.sort q rt.kids.length z i k A p.length C));have ah:=ae (alloc_at (w.alloc (aJ a.name a.sort c a.kids.length r b.name b.sort d b.kids.length t rt.name rt.sort g rt.kids.length u i k D p.length B)) (aJ a.name a.sort j a.kids.length x b.name b.sort l b.kids.length y rt.name rt.sort q rt.kids.length z i k A p.length C) (n:=w.heap.size+1) (by simp));dsimp only[tV] at ar af au;have t1:(i==i)=true:=beq_self_eq_true _;have t2:decide (i=i)=true:=dT rfl;have t3:(k==k)=true:=beq_self_eq_true _;have t4:decide (k=k)=true:=dT rfl;clear aA h1 ax ay az g1 g2 g3 g4 hs;obtain⟨G,H,I,J,K,L,M,N,O,P,E,F⟩:=jY ag.o;obtain⟨Q,R,S,T,U,V,X,Y,Z,aa,ab,ad⟩:=jY ah.o;go_enter Tryz.func105,Tryz.ntmps105;go_wp2_with fail;generalize (w.alloc (aJ a.name a.sort c a.kids.length r b.name b.sort d b.kids.length t rt.name rt.sort g rt.kids.length u i k D p.length B)).alloc (aJ a.name a.sort j a.kids.length x b.name b.sort l b.kids.length y rt.name rt.sort q rt.kids.length z i k A p.length C)=w1 at*;refine(ar.o _ av.o).mono ?_;rintro e w2 ⟨he,hw⟩;obtain rfl:e= .returned (.bool true):=by simpa using he
 have ai:=ae (av.o.trans hw);have al:=ae (hw.heap ag.o id);have an:=ae (hw.heap ah.o id);clear hw ar av ag ah G Q H R I S J T K U L V M X N Y O Z P aa E ab F ad;obtain⟨G,H,I,J,K,L,M,N,O,P,E,F⟩:=jY al.o;obtain⟨Q,R,S,T,U,V,X,Y,Z,aa,ab,ad⟩:=jY an.o;go_wp2_with fail;refine(af.o _ ai.o).mono ?_;rintro e w3 ⟨he,hw⟩;obtain rfl:e= .returned (.bool true):=by simpa using he
 have aw:=ae (ai.o.trans hw);have ao:=ae (hw.heap al.o id);have aq:=ae (hw.heap an.o id);clear hw af ai al an G Q H R I S J T K U L V M X N Y O Z P aa E ab F ad;obtain⟨G,H,I,J,K,L,M,N,O,P,E,F⟩:=jY ao.o;obtain⟨Q,R,S,T,U,V,X,Y,Z,aa,ab,ad⟩:=jY aq.o;go_wp2_with fail;refine(au.o _ aw.o).mono ?_;rintro e aI ⟨he,hw⟩;obtain rfl:e= .returned (.bool true):=by simpa using he
 have aC:=ae (aw.o.trans hw);have aD:=ae (hw.heap ao.o id);have aE:=ae (hw.heap aq.o id);clear hw au aw ao aq G Q H R I S J T K U L V M X N Y O Z P aa E ab F ad;obtain⟨G,H,I,J,K,L,M,N,O,P,E,F⟩:=jY aD.o;obtain⟨Q,R,S,T,U,V,X,Y,Z,aa,ab,ad⟩:=jY aE.o;go_wp2_with fail;refine(aF.o _ aC.o).mono ?_;rintro e aK ⟨he,hw⟩;obtain rfl:e= .returned (.bool true):=by simpa using he
 have aH:=ae (aC.o.trans hw);go_wp2_with fail;go_ret;exact⟨rfl,aH.o⟩
theorem mX (n:By) (a:Option Addr) (m c:Nat) (w:World):Calls Tryz.prog 102 #[.string n,.slice a m c] w fun e w'=>e= .returned (.agg #[.string n,.string ⟨#[]⟩,.slice a m c])/\Ext w w':=by
 have hb:=aj w (af n ⟨#[]⟩ a m c);have b:=(uR w).alloc (af n ⟨#[]⟩ a m c);go_enter Tryz.func102,Tryz.ntmps102;go_wp2_with fail;obtain⟨d,g,h⟩:=ah hb;exact bodyPost_ret (v:= .agg #[.string n,.string ⟨#[]⟩,.slice a m c]) (by simp[results,Tryz.results102,go_sem,d,g,h]) rfl ⟨rfl,b⟩
theorem He (n:By) (w:World):Calls Tryz.prog 103 #[.string n] w fun e w'=>e= .returned (.agg #[.string n,.string ⟨#[110,97,116]⟩,.slice none 0 0])/\Ext w w':=by
 have hb:=aj w (af n ⟨#[110,97,116]⟩ none 0 0);have a:=(uR w).alloc (af n ⟨#[110,97,116]⟩ none 0 0);go_enter Tryz.func103,Tryz.ntmps103;go_wp2_with fail;obtain⟨b,c,d⟩:=ah hb;exact bodyPost_ret (v:= .agg #[.string n,.string ⟨#[110,97,116]⟩,.slice none 0 0]) (by simp[results,Tryz.results103,go_sem,b,c,d]) rfl ⟨rfl,a⟩
theorem mZ {S:Nat->Prop} {W:World} {n te:Nat} {b:Nat×Nat} {a:Tm} {ua:Value} (h:W.heap[n]?=some (.cells #[.string a.name,.string a.sort,ua] te b)) (hn:S n) (ha:aG S W a.kids ua):aG S W [a] (.slice (az n) 1 1):=by
 refine .mk _ [ua] _ rfl ?_ (fun i hi=>?_)
 .refine aB.mk' rfl rfl (Nat.le_refl _) (fun _=>hn) (fun j c=>?_);have d:j<3:=c;rw[Nat.zero_add,cell_of_row W n j _ _ _ h];rcases(by omega:j=0\/j=1\/j=2) with rfl|rfl|rfl<;>rfl
 .obtain rfl:i=0:=by simpa using hi
  exact ha
theorem yV {S:Nat->Prop} {W:World} {n te:Nat} {c:Nat×Nat} {a b:Tm} {ua ub:Value} (h:W.heap[n]?=some (.cells #[.string a.name,.string a.sort,ua,.string b.name,.string b.sort,ub] te c)) (hn:S n) (ha:aG S W a.kids ua) (hb:aG S W b.kids ub):aG S W [a,b] (.slice (az n) 2 2):=by
 refine .mk _ [ua,ub] _ rfl ?_ (fun i hi=>?_)
 .refine aB.mk' rfl rfl (Nat.le_refl _) (fun _=>hn) (fun j d=>?_);have e:j<6:=d;rw[Nat.zero_add,cell_of_row W n j _ _ _ h];rcases(by omega:j=0\/j=1\/j=2\/j=3\/j=4\/j=5) with rfl|rfl|rfl|rfl|rfl|rfl<;>rfl
 .have g:i<2:=hi;rcases(by omega:i=0\/i=1) with rfl|rfl
  .exact ha
  .exact hb
theorem aeH {S:Nat->Prop} {W:World} {n te:Nat} {e:Nat×Nat} {a b c d:Tm} {ua ub uc ud:Value} (h:W.heap[n]?=some (.cells #[.string a.name,.string a.sort,ua,.string b.name,.string b.sort,ub,.string c.name,.string c.sort,uc,.string d.name,.string d.sort,ud] te e)) (hn:S n) (ha:aG S W a.kids ua) (hb:aG S W b.kids ub) (hc:aG S W c.kids uc) (hd:aG S W d.kids ud):aG S W [a,b,c,d] (.slice (az n) 4 4):=by
 refine .mk _ [ua,ub,uc,ud] _ rfl ?_ (fun i hi=>?_)
 .refine aB.mk' rfl rfl (Nat.le_refl _) (fun _=>hn) (fun j g=>?_);have k:j<12:=g;rw[Nat.zero_add,cell_of_row W n j _ _ _ h];rcases(by omega:j=0\/j=1\/j=2\/j=3\/j=4\/j=5\/j=6\/j=7\/j=8\/j=9\/j=10\/j=11) with rfl|rfl|rfl|rfl|rfl|rfl|rfl|rfl|rfl|rfl|rfl|rfl<;>rfl
 .have l:i<4:=hi;rcases(by omega:i=0\/i=1\/i=2\/i=3) with rfl|rfl|rfl|rfl
  .exact ha
  .exact hb
  .exact hc
  .exact hd
abbrev nV:List Rl:=[((.mk ⟨#[112,108,117,115]⟩ ai [(.mk ⟨#[122,101,114,111]⟩ ai []),(.mk ⟨#[78]⟩ ⟨#[110,97,116]⟩ [])]),(.mk ⟨#[78]⟩ ⟨#[110,97,116]⟩ [])),((.mk ⟨#[112,108,117,115]⟩ ai [(.mk ⟨#[115]⟩ ai [(.mk ⟨#[78]⟩ ⟨#[110,97,116]⟩ [])]),(.mk ⟨#[77]⟩ ⟨#[110,97,116]⟩ [])]),(.mk ⟨#[115]⟩ ai [(.mk ⟨#[112,108,117,115]⟩ ai [(.mk ⟨#[78]⟩ ⟨#[110,97,116]⟩ []),(.mk ⟨#[77]⟩ ⟨#[110,97,116]⟩ [])])]))]
abbrev KT:List Rl:=[((.mk ⟨#[112,108,117,115]⟩ ai [(.mk ⟨#[122,101,114,111]⟩ ai []),(.mk ⟨#[78,95,49]⟩ ⟨#[110,97,116]⟩ [])]),(.mk ⟨#[78,95,49]⟩ ⟨#[110,97,116]⟩ [])),((.mk ⟨#[112,108,117,115]⟩ ai [(.mk ⟨#[115]⟩ ai [(.mk ⟨#[78,95,49]⟩ ⟨#[110,97,116]⟩ [])]),(.mk ⟨#[77,95,49]⟩ ⟨#[110,97,116]⟩ [])]),(.mk ⟨#[115]⟩ ai [(.mk ⟨#[112,108,117,115]⟩ ai [(.mk ⟨#[78,95,49]⟩ ⟨#[110,97,116]⟩ []),(.mk ⟨#[77,95,49]⟩ ⟨#[110,97,116]⟩ [])])]))]
abbrev WT:List Rl:=[((.mk ⟨#[112,108,117,115]⟩ ai [(.mk ⟨#[122,101,114,111]⟩ ai []),(.mk ⟨#[78,95,50]⟩ ⟨#[110,97,116]⟩ [])]),(.mk ⟨#[78,95,50]⟩ ⟨#[110,97,116]⟩ [])),((.mk ⟨#[112,108,117,115]⟩ ai [(.mk ⟨#[115]⟩ ai [(.mk ⟨#[78,95,50]⟩ ⟨#[110,97,116]⟩ [])]),(.mk ⟨#[77,95,50]⟩ ⟨#[110,97,116]⟩ [])]),(.mk ⟨#[115]⟩ ai [(.mk ⟨#[112,108,117,115]⟩ ai [(.mk ⟨#[78,95,50]⟩ ⟨#[110,97,116]⟩ []),(.mk ⟨#[77,95,50]⟩ ⟨#[110,97,116]⟩ [])])]))]
abbrev SH:List Rl:=[((.mk ⟨#[102]⟩ ai [(.mk ⟨#[102]⟩ ai [(.mk ⟨#[88]⟩ ⟨#[97]⟩ [])])]),(.mk ⟨#[103]⟩ ai [(.mk ⟨#[88]⟩ ⟨#[97]⟩ [])]))]
abbrev ffF:List Rl:=[((.mk ⟨#[102]⟩ ai [(.mk ⟨#[102]⟩ ai [(.mk ⟨#[88,95,49]⟩ ⟨#[97]⟩ [])])]),(.mk ⟨#[103]⟩ ai [(.mk ⟨#[88,95,49]⟩ ⟨#[97]⟩ [])]))]
abbrev ffS:List Rl:=[((.mk ⟨#[102]⟩ ai [(.mk ⟨#[102]⟩ ai [(.mk ⟨#[88,95,50]⟩ ⟨#[97]⟩ [])])]),(.mk ⟨#[103]⟩ ai [(.mk ⟨#[88,95,50]⟩ ⟨#[97]⟩ [])]))]
abbrev SI:Tm:=(.mk ⟨#[115]⟩ ai [(.mk ⟨#[122,101,114,111]⟩ ai [])])
abbrev sumT:Tm:=(.mk ⟨#[112,108,117,115]⟩ ai [(.mk ⟨#[115]⟩ ai [(.mk ⟨#[122,101,114,111]⟩ ai [])]),(.mk ⟨#[122,101,114,111]⟩ ai [])])
abbrev KU:Tm:=(.mk ⟨#[102]⟩ ai [(.mk ⟨#[102]⟩ ai [(.mk ⟨#[102]⟩ ai [(.mk ⟨#[88,95,50]⟩ ⟨#[97]⟩ [])])])])
abbrev KX:Tm:=(.mk ⟨#[102]⟩ ai [(.mk ⟨#[103]⟩ ai [(.mk ⟨#[88,95,50]⟩ ⟨#[97]⟩ [])])])
abbrev KY:Tm:=(.mk ⟨#[103]⟩ ai [(.mk ⟨#[102]⟩ ai [(.mk ⟨#[88,95,50]⟩ ⟨#[97]⟩ [])])])
theorem WU:dQ nV=true:=by decide+kernel
theorem abm:dQ SH=true:=by decide+kernel
theorem Za:((stepG nV sumT).2==((1,[]),0))=true:=by decide+kernel
theorem abn:((uu nV sumT 9).1==SI&&(uu nV sumT 9).2.1.length==2&&(uu nV sumT 9).2.2==0)=true:=by decide+kernel
theorem SK:jK (Go.Hw.rg KT 0).1 []=[[],[0]]/\jK (Go.Hw.rg KT 1).1 []=[[],[0]]/\jK (Go.Hw.rg ffF 0).1 []=[[],[0]]:=by decide+kernel
theorem abo: ∀i,i<2->tu ⟨#[95,49]⟩ (Go.Hw.rg nV i).1=((Go.Hw.rg KT i).1,0)/\tu ⟨#[95,49]⟩ (Go.Hw.rg nV i).2=((Go.Hw.rg KT i).2,0)/\tu ⟨#[95,50]⟩ (Go.Hw.rg nV i).1=((Go.Hw.rg WT i).1,0)/\tu ⟨#[95,50]⟩ (Go.Hw.rg nV i).2=((Go.Hw.rg WT i).2,0):=fun i hi=>by
 rcases(by omega:i=0\/i=1) with rfl|rfl<;>exact⟨by decide+kernel,by decide+kernel,by decide+kernel,by decide+kernel⟩
theorem ai': ∀i,i<1->tu ⟨#[95,49]⟩ (Go.Hw.rg SH i).1=((Go.Hw.rg ffF i).1,0)/\tu ⟨#[95,49]⟩ (Go.Hw.rg SH i).2=((Go.Hw.rg ffF i).2,0)/\tu ⟨#[95,50]⟩ (Go.Hw.rg SH i).1=((Go.Hw.rg ffS i).1,0)/\tu ⟨#[95,50]⟩ (Go.Hw.rg SH i).2=((Go.Hw.rg ffS i).2,0):=fun i hi=>by
 obtain rfl:i=0:=by omega
 exact⟨by decide+kernel,by decide+kernel,by decide+kernel,by decide+kernel⟩
theorem aja:KN ((.mk ⟨#[112,108,117,115]⟩ ai [(.mk ⟨#[122,101,114,111]⟩ ai []),(.mk ⟨#[78,95,49]⟩ ⟨#[110,97,116]⟩ [])]),(.mk ⟨#[78,95,49]⟩ ⟨#[110,97,116]⟩ [])) ((.mk ⟨#[112,108,117,115]⟩ ai [(.mk ⟨#[115]⟩ ai [(.mk ⟨#[78,95,50]⟩ ⟨#[110,97,116]⟩ [])]),(.mk ⟨#[77,95,50]⟩ ⟨#[110,97,116]⟩ [])]),(.mk ⟨#[115]⟩ ai [(.mk ⟨#[112,108,117,115]⟩ ai [(.mk ⟨#[78,95,50]⟩ ⟨#[110,97,116]⟩ []),(.mk ⟨#[77,95,50]⟩ ⟨#[110,97,116]⟩ [])])])) [] none:=fun d e pa g h i j k pv l W a hx hy hp b n c=>
 Gu (.mk ⟨#[112,108,117,115]⟩ ai [(.mk ⟨#[122,101,114,111]⟩ ai []),(.mk ⟨#[78,95,49]⟩ ⟨#[110,97,116]⟩ [])]) (.mk ⟨#[78,95,49]⟩ ⟨#[110,97,116]⟩ []) (.mk ⟨#[112,108,117,115]⟩ ai [(.mk ⟨#[115]⟩ ai [(.mk ⟨#[78,95,50]⟩ ⟨#[110,97,116]⟩ [])]),(.mk ⟨#[77,95,50]⟩ ⟨#[110,97,116]⟩ [])]) (.mk ⟨#[115]⟩ ai [(.mk ⟨#[112,108,117,115]⟩ ai [(.mk ⟨#[78,95,50]⟩ ⟨#[110,97,116]⟩ []),(.mk ⟨#[77,95,50]⟩ ⟨#[110,97,116]⟩ [])])]) A7 d e pa g h i j k _ pv l W a hx hy hp b n c (by decide) (by decide) (by decide) (by decide) (by decide+kernel) (fun W' hW o p va vb h1 q hd r t u=>akl W' u o p va vb h1 q hd r t)
theorem ajb:KN ((.mk ⟨#[112,108,117,115]⟩ ai [(.mk ⟨#[122,101,114,111]⟩ ai []),(.mk ⟨#[78,95,49]⟩ ⟨#[110,97,116]⟩ [])]),(.mk ⟨#[78,95,49]⟩ ⟨#[110,97,116]⟩ [])) ((.mk ⟨#[112,108,117,115]⟩ ai [(.mk ⟨#[122,101,114,111]⟩ ai []),(.mk ⟨#[78,95,50]⟩ ⟨#[110,97,116]⟩ [])]),(.mk ⟨#[78,95,50]⟩ ⟨#[110,97,116]⟩ [])) [0] none:=fun d e pa g h i j k pv l W a hx hy hp b n c=>
 Gu (.mk ⟨#[112,108,117,115]⟩ ai [(.mk ⟨#[122,101,114,111]⟩ ai []),(.mk ⟨#[78,95,49]⟩ ⟨#[110,97,116]⟩ [])]) (.mk ⟨#[78,95,49]⟩ ⟨#[110,97,116]⟩ []) (.mk ⟨#[112,108,117,115]⟩ ai [(.mk ⟨#[122,101,114,111]⟩ ai []),(.mk ⟨#[78,95,50]⟩ ⟨#[110,97,116]⟩ [])]) (.mk ⟨#[78,95,50]⟩ ⟨#[110,97,116]⟩ []) Gn d e pa g h i j k _ pv l W a hx hy hp b n c (by decide) (by decide) (by decide) (by decide) (by decide+kernel) (fun W' hW o p va vb h1 q hd r t u=>akn W' u o p va vb h1 q hd r t)
theorem ajc:KN ((.mk ⟨#[112,108,117,115]⟩ ai [(.mk ⟨#[122,101,114,111]⟩ ai []),(.mk ⟨#[78,95,49]⟩ ⟨#[110,97,116]⟩ [])]),(.mk ⟨#[78,95,49]⟩ ⟨#[110,97,116]⟩ [])) ((.mk ⟨#[112,108,117,115]⟩ ai [(.mk ⟨#[115]⟩ ai [(.mk ⟨#[78,95,50]⟩ ⟨#[110,97,116]⟩ [])]),(.mk ⟨#[77,95,50]⟩ ⟨#[110,97,116]⟩ [])]),(.mk ⟨#[115]⟩ ai [(.mk ⟨#[112,108,117,115]⟩ ai [(.mk ⟨#[78,95,50]⟩ ⟨#[110,97,116]⟩ []),(.mk ⟨#[77,95,50]⟩ ⟨#[110,97,116]⟩ [])])])) [0] none:=fun d e pa g h i j k pv l W a hx hy hp b n c=>
 Gu (.mk ⟨#[112,108,117,115]⟩ ai [(.mk ⟨#[122,101,114,111]⟩ ai []),(.mk ⟨#[78,95,49]⟩ ⟨#[110,97,116]⟩ [])]) (.mk ⟨#[78,95,49]⟩ ⟨#[110,97,116]⟩ []) (.mk ⟨#[112,108,117,115]⟩ ai [(.mk ⟨#[115]⟩ ai [(.mk ⟨#[78,95,50]⟩ ⟨#[110,97,116]⟩ [])]),(.mk ⟨#[77,95,50]⟩ ⟨#[110,97,116]⟩ [])]) (.mk ⟨#[115]⟩ ai [(.mk ⟨#[112,108,117,115]⟩ ai [(.mk ⟨#[78,95,50]⟩ ⟨#[110,97,116]⟩ []),(.mk ⟨#[77,95,50]⟩ ⟨#[110,97,116]⟩ [])])]) Gp d e pa g h i j k _ pv l W a hx hy hp b n c (by decide) (by decide) (by decide) (by decide) (by decide+kernel) (fun W' hW o p va vb h1 q hd r t u=>akp W' u o p va vb h1 q hd r t)
theorem ajd:KN ((.mk ⟨#[112,108,117,115]⟩ ai [(.mk ⟨#[115]⟩ ai [(.mk ⟨#[78,95,49]⟩ ⟨#[110,97,116]⟩ [])]),(.mk ⟨#[77,95,49]⟩ ⟨#[110,97,116]⟩ [])]),(.mk ⟨#[115]⟩ ai [(.mk ⟨#[112,108,117,115]⟩ ai [(.mk ⟨#[78,95,49]⟩ ⟨#[110,97,116]⟩ []),(.mk ⟨#[77,95,49]⟩ ⟨#[110,97,116]⟩ [])])])) ((.mk ⟨#[112,108,117,115]⟩ ai [(.mk ⟨#[122,101,114,111]⟩ ai []),(.mk ⟨#[78,95,50]⟩ ⟨#[110,97,116]⟩ [])]),(.mk ⟨#[78,95,50]⟩ ⟨#[110,97,116]⟩ [])) [0] none:=fun d e pa g h i j k pv l W a hx hy hp b n c=>
 Gu (.mk ⟨#[112,108,117,115]⟩ ai [(.mk ⟨#[115]⟩ ai [(.mk ⟨#[78,95,49]⟩ ⟨#[110,97,116]⟩ [])]),(.mk ⟨#[77,95,49]⟩ ⟨#[110,97,116]⟩ [])]) (.mk ⟨#[115]⟩ ai [(.mk ⟨#[112,108,117,115]⟩ ai [(.mk ⟨#[78,95,49]⟩ ⟨#[110,97,116]⟩ []),(.mk ⟨#[77,95,49]⟩ ⟨#[110,97,116]⟩ [])])]) (.mk ⟨#[112,108,117,115]⟩ ai [(.mk ⟨#[122,101,114,111]⟩ ai []),(.mk ⟨#[78,95,50]⟩ ⟨#[110,97,116]⟩ [])]) (.mk ⟨#[78,95,50]⟩ ⟨#[110,97,116]⟩ []) A_ d e pa g h i j k _ pv l W a hx hy hp b n c (by decide) (by decide) (by decide) (by decide) (by decide+kernel) (fun W' hW o p va vb h1 q hd r t u=>akr W' u o p va vb h1 q hd r t)
theorem aje:KN ((.mk ⟨#[112,108,117,115]⟩ ai [(.mk ⟨#[115]⟩ ai [(.mk ⟨#[78,95,49]⟩ ⟨#[110,97,116]⟩ [])]),(.mk ⟨#[77,95,49]⟩ ⟨#[110,97,116]⟩ [])]),(.mk ⟨#[115]⟩ ai [(.mk ⟨#[112,108,117,115]⟩ ai [(.mk ⟨#[78,95,49]⟩ ⟨#[110,97,116]⟩ []),(.mk ⟨#[77,95,49]⟩ ⟨#[110,97,116]⟩ [])])])) ((.mk ⟨#[112,108,117,115]⟩ ai [(.mk ⟨#[115]⟩ ai [(.mk ⟨#[78,95,50]⟩ ⟨#[110,97,116]⟩ [])]),(.mk ⟨#[77,95,50]⟩ ⟨#[110,97,116]⟩ [])]),(.mk ⟨#[115]⟩ ai [(.mk ⟨#[112,108,117,115]⟩ ai [(.mk ⟨#[78,95,50]⟩ ⟨#[110,97,116]⟩ []),(.mk ⟨#[77,95,50]⟩ ⟨#[110,97,116]⟩ [])])])) [0] none:=fun d e pa g h i j k pv l W a hx hy hp b n c=>
 Gu (.mk ⟨#[112,108,117,115]⟩ ai [(.mk ⟨#[115]⟩ ai [(.mk ⟨#[78,95,49]⟩ ⟨#[110,97,116]⟩ [])]),(.mk ⟨#[77,95,49]⟩ ⟨#[110,97,116]⟩ [])]) (.mk ⟨#[115]⟩ ai [(.mk ⟨#[112,108,117,115]⟩ ai [(.mk ⟨#[78,95,49]⟩ ⟨#[110,97,116]⟩ []),(.mk ⟨#[77,95,49]⟩ ⟨#[110,97,116]⟩ [])])]) (.mk ⟨#[112,108,117,115]⟩ ai [(.mk ⟨#[115]⟩ ai [(.mk ⟨#[78,95,50]⟩ ⟨#[110,97,116]⟩ [])]),(.mk ⟨#[77,95,50]⟩ ⟨#[110,97,116]⟩ [])]) (.mk ⟨#[115]⟩ ai [(.mk ⟨#[112,108,117,115]⟩ ai [(.mk ⟨#[78,95,50]⟩ ⟨#[110,97,116]⟩ []),(.mk ⟨#[77,95,50]⟩ ⟨#[110,97,116]⟩ [])])]) Bc d e pa g h i j k _ pv l W a hx hy hp b n c (by decide) (by decide) (by decide) (by decide) (by decide+kernel) (fun W' hW o p va vb h1 q hd r t u=>akt W' u o p va vb h1 q hd r t)
theorem ajf:KN ((.mk ⟨#[102]⟩ ai [(.mk ⟨#[102]⟩ ai [(.mk ⟨#[88,95,49]⟩ ⟨#[97]⟩ [])])]),(.mk ⟨#[103]⟩ ai [(.mk ⟨#[88,95,49]⟩ ⟨#[97]⟩ [])])) ((.mk ⟨#[102]⟩ ai [(.mk ⟨#[102]⟩ ai [(.mk ⟨#[88,95,50]⟩ ⟨#[97]⟩ [])])]),(.mk ⟨#[103]⟩ ai [(.mk ⟨#[88,95,50]⟩ ⟨#[97]⟩ [])])) [0] (some (KU,KX,KY)):=fun g h pa i j k l n pv o W b hx hy hp c p d=>
 (aeC (.mk ⟨#[102]⟩ ai [(.mk ⟨#[102]⟩ ai [(.mk ⟨#[88,95,49]⟩ ⟨#[97]⟩ [])])]) (.mk ⟨#[103]⟩ ai [(.mk ⟨#[88,95,49]⟩ ⟨#[97]⟩ [])]) (.mk ⟨#[102]⟩ ai [(.mk ⟨#[102]⟩ ai [(.mk ⟨#[88,95,50]⟩ ⟨#[97]⟩ [])])]) (.mk ⟨#[103]⟩ ai [(.mk ⟨#[88,95,50]⟩ ⟨#[97]⟩ [])]) Bf g h pa i j k l n _ pv o W b hx hy hp c p d (by decide) (by decide) (by decide) (by decide) (by decide+kernel) RV KU KY (.mk ⟨#[103]⟩ ai [(.mk ⟨#[88,95,50]⟩ ⟨#[97]⟩ [])]) KX [0] rfl (by decide+kernel) (by decide+kernel) (by decide+kernel) (by decide+kernel) ⟨by decide,trivial⟩ (by decide) (by decide) (by decide) (by decide) (fun W' hW q r va vb h1 a hd t u w=>akv W' w q r va vb h1 a hd t u)).mono (by
  rintro e w' ⟨x,y,z,zc,A,rc,rfl,h1,a,B,C⟩;exact⟨⟨x,y,z,zc,A,rc,rfl,h1,a,B⟩,C⟩)
theorem WV (lv:Value) (w:World) (c:jH (fun k=>k<w.heap.size) w nV lv) (a:dI w):Calls Tryz.prog 104 #[lv] w fun e w'=>e= .returned (.tuple #[.slice none 0 0,.int .i64 0])/\Ext w w':=by
 refine(U_ nV KT WT (fun _ _ _=>none) none lv w c a WU (by decide) (by decide) (by decide+kernel) rfl rfl abo (by decide) (fun i k p hi hk hp hc=>?_) (by kernel_rfl)).mono ?_
 .have g:i<2:=hi;have h:k<2:=hk;have h0:=SK;rcases(by omega:i=0\/i=1) with rfl|rfl
  .rw [h0.1] at hp;simp only[List.mem_cons,List.not_mem_nil,or_false] at hp;rcases hp with rfl|rfl
   .rcases (by omega:k=0\/k=1) with rfl|rfl
    .exact absurd ⟨rfl,Nat.le_refl _⟩ hc
    .exact aja
   .rcases (by omega:k=0\/k=1) with rfl|rfl
    .exact ajb
    .exact ajc
  .rw [h0.2.1] at hp;simp only[List.mem_cons,List.not_mem_nil,or_false] at hp;rcases hp with rfl|rfl
   .exact absurd ⟨rfl,by omega⟩ hc
   .rcases (by omega:k=0\/k=1) with rfl|rfl
    .exact ajd
    .exact aje
 .rintro e w' ⟨v,rfl,hv,d⟩;have b:v= .slice none 0 0:=hv;subst b;exact⟨rfl,d⟩
theorem abp (lv:Value) (w:World) (b:jH (fun k=>k<w.heap.size) w SH lv) (a:dI w):Calls Tryz.prog 104 #[lv] w fun e w'=> ∃v,e= .returned (.tuple #[v,.int .i64 0])/\Gv w' v (some (KU,KX,KY,0,0,[0]))/\Ext w w':=by
 refine U_ SH ffF ffS (fun _ _ _=>some (KU,KX,KY)) (some (KU,KX,KY,0,0,[0])) lv w b a abm (by decide) (by decide) (by decide+kernel) rfl rfl ai' (by decide) (fun i k p hi hk hp hc=>?_) (by kernel_rfl);have c:i<1:=hi;have d:k<1:=hk;obtain rfl:i=0:=by omega
 obtain rfl:k=0:=by omega
 rw[SK.2.2] at hp;simp only[List.mem_cons,List.not_mem_nil,or_false] at hp;rcases hp with rfl|rfl
 .exact absurd ⟨rfl,Nat.le_refl _⟩ hc
 .exact ajf
end
end Go.Proofs.YtlkcjmaiahnodaaGreatDoor
