/- The texts N76 N77 N78, one behind the other. -/
import Derived.Test.YtlkcjmaiahnodaaGreatDoorEAN
import Derived.Test.YtlkcjmaiahnodaaGreatDoorEAB
import Derived.Test.YtlkcjmaiahnodaaGreatDoorEAP
set_option maxRecDepth 100000
set_option maxHeartbeats 8000000
set_option linter.unusedVariables false
set_option linter.unusedSimpArgs false
namespace Go.Proofs.YtlkcjmaiahnodaaGreatDoor
open Go.RowKit Go.Hw Go Tm
section
open Go.Sort Go.Proofs Go.ChangeMaps
theorem abz (L:List Re) (i:Nat) (h:i<L.length):(eg L i).1=Go.Hw.rg (L.map (·.1)) i:=by
 unfold Go.Hw.rg;rw[Xg h,List.getD_eq_getElem?_getD,List.getElem?_map,List.getElem?_eq_getElem h];rfl
theorem EI {n0:Nat} {W:World} {t:Tm} {u:Value} (h:iZ n0 W t u):aA (fun k=>k<W.heap.size) W t.kids u:=by
 obtain⟨B,h1,h2⟩:=h;exact(aG.read h1).weaken (fun k hk=>(h2 k hk).2.lt)
mutual
theorem O_: ∀(t:Tm) (P p:List Nat),p∈iK t P->p.length<=P.length+t.size
 | .mk n s L,P,p,h=>by
  unfold iK at h;split at h
  .rcases List.mem_cons.1 h with h|h
   .rw [h];omega
   .have:=Lr L 0 P p h;rw[size_eq];simp only[Tm.kids];omega
  .cases h
theorem Lr: ∀(L:List Tm) (i:Nat) (P p:List Nat),p∈oV L i P->p.length<=P.length+sizes L+1
 |[],_,_,_,h=>by unfold oV at h;cases h
 |x::L,i,P,p,h=>by
  unfold oV at h;have hs:sizes (x::L)=x.size+sizes L:=by rw[sizes]
  rcases List.mem_append.1 h with h|h
  .have:=O_ x (P++[i]) p h;rw[List.length_append] at this;simp at this;omega
  .have:=Lr L (i+1) P p h;omega
end
theorem Pg (l:List Rl) (k:Nat) (h:k<l.length):l.take (k+1)=l.take k++[Go.Hw.rg l k]:=by
 unfold Go.Hw.rg;rw[List.getD_eq_getElem?_getD,List.getElem?_eq_getElem h];rw[List.take_add_one,List.getElem?_eq_getElem h];rfl
theorem Xi:(Tryz.prog.info? 146).map (fun i=>(i.zero,i.size,i.bytes))=some (some (.agg #[.string ⟨#[]⟩,.string ⟨#[]⟩,.slice none 0 0,.string ⟨#[]⟩,.string ⟨#[]⟩,.slice none 0 0]),6,112):=by kernel_rfl
theorem agO:(Tryz.prog.info? 152).map (fun i=>(i.zero,i.size,i.bytes))=some (some (.agg #[.string ⟨#[]⟩,.string ⟨#[]⟩,.slice none 0 0,.string ⟨#[]⟩,.string ⟨#[]⟩,.slice none 0 0,.string ⟨#[]⟩,.string ⟨#[]⟩,.slice none 0 0,.int .i64 0,.int .i64 0,.slice none 0 0]),12,208):=by kernel_rfl
section
def GG (F0:Nat->Prop) (c:Obj):PI.dK ((Option Addr×Nat)×Nat×(Nat->Prop)):=⟨fun x=> .slice (some ⟨x.2.1,0,none⟩) 1 1,fun x W=> ¬F0 x.2.1/\W.heap[x.2.1]?=some c,fun _=>False,F0,fun x W W' F h hU hF=>⟨h.1,hU.heap h.2 (fun e=>h.1 (hF _ e))⟩,fun _=>True,fun _ _ _ _ _ _=>trivial,fun x k=>k=x.2.1,fun x W k h e=>by rw[e];exact(Array.getElem?_eq_some_iff.1 h.2).1⟩
def GH (n0:Nat) (agP Zx:Nat->Prop) (v0:Value) (m:Nat) (cs:List Value) (hds: ∀k,v0.ownBlock=some k->¬Zx k) (n:Nat) (xs:List Value):PI.dK ((Option Addr×Nat)×Nat×(Nat->Prop)):=⟨fun x=> .slice x.1.1 n x.1.2,fun x W=>W.ownsRow n0 146 6 (.slice x.1.1 n x.1.2) n xs/\(∀k,(Value.slice x.1.1 n x.1.2).ownBlock=some k->¬Zx k/\(agP k\/x.2.2 k))/\∀k,x.2.2 k->(Value.slice x.1.1 n x.1.2).ownBlock=some k,agP,Zx,fun x W W' F h hU hF=>⟨df h.1 hU (fun k hk e=>(h.2.1 k hk).1 (hF k e)),h.2⟩,fun W=>W.ownsRow n0 146 6 v0 m cs,fun W W' F h hU hF=>df h hU (fun k hk e=>hds k hk (hF k e)),fun x k=>x.2.2 k,fun x W k h e=>(World.ownsRow.lt h.1 k (h.2.2 k e)).2⟩
end
theorem Si (l fs sn:List Rl) (ov:Nat->List Nat->Nat->Option (Tm×Tm×Tm)) (Z:Option Cp) (lv:Value) (w:World) (hL:jc (fun k=>k<w.heap.size) w l lv) (htab:bT w) (hr:bY l=true) (hll:l.length<=100) (hls: ∀r∈l,r.1.size<=1000/\r.2.size<=1000) (hvs: ∀r∈l,(∀f∈fD r.1,f.1.size<=1000)/\∀f∈fD r.2,f.1.size<=1000) (h1:fs.length=l.length) (h2:sn.length=l.length) (agQ: ∀i,i<l.length->qw ⟨#[95,49]⟩ (Go.Hw.rg l i).1=((Go.Hw.rg fs i).1,0)/\qw ⟨#[95,49]⟩ (Go.Hw.rg l i).2=((Go.Hw.rg fs i).2,0)/\qw ⟨#[95,50]⟩ (Go.Hw.rg l i).1=((Go.Hw.rg sn i).1,0)/\qw ⟨#[95,50]⟩ (Go.Hw.rg l i).2=((Go.Hw.rg sn i).2,0)) (hfz: ∀i,i<l.length->(Go.Hw.rg fs i).1.size<=1000) (hov: ∀i k p,i<l.length->k<l.length->p∈iK (Go.Hw.rg fs i).1 []->¬(p.length=0/\k<=i)->IW (Go.Hw.rg fs i) (Go.Hw.rg sn k) p (ov i p k)) (hZ:IZ ov fs l.length l.length 0 none=some Z):
  Calls Tryz.prog 104 #[lv] w fun e w'=> ∃v,e= .returned (.tuple #[v,.int .i64 0])/\Em w' v Z/\Ext w w':=by
 have Ah:=ae (Ew l lv w hL htab (by omega) (fun r hr=>by have:=hls r hr;omega));rw[hr] at Ah;have wR:=ae hL;have fB:=ae htab;have FK:=ae hls;have BG:=ae hvs;have agR:=ae agQ;have Kq:=ae hfz;have HOV:=ae hov;have HZ:=ae hZ;have xM:=ae hll;have lG:=ae h1;have fV:=ae h2;obtain⟨la,lc,rfl⟩:=hL.shape;clear hL htab hr hls hvs agQ hfz hov hZ h1 h2
 go_enter Tryz.func104,Tryz.ntmps104
 go_wp2_with fail
 refine Ah.out.mono ?_;rintro e w1 ⟨rfl,hw1⟩;have oq:=ae hw1;clear Ah hw1
 go_wp2_with fail
 go_loopg [4,5,26] l.length (fun gk o1 o2 iv wr=> ∃(k:Nat) (L1 L2:List Re) (a1 a2:Option Addr) (c1 c2:Nat),o1= .slice a1 L1.length c1/\o2= .slice a2 L2.length c2/\iv= .int .i64 (k:Int)/\gk=l.length-k/\k<=l.length/\Hid (L1.length=k)/\Hid (L2.length=k)/\Hid (L1.map (·.1)=fs.take k)/\Hid (L2.map (·.1)=sn.take k)/\Hid (wU w.heap.size wr (.slice a1 L1.length c1) L1)/\Hid (wU w.heap.size wr (.slice a2 L2.length c2) L2)/\Hid (∀j,(Value.slice a1 L1.length c1).ownBlock=some j->¬(Value.slice a2 L2.length c2).ownBlock=some j)/\Hid (Ext w wr))
 case atStart=>exact⟨0,[],[],none,none,0,0,rfl,rfl,rfl,rfl,Nat.zero_le _,ae rfl,ae rfl,ae rfl,ae rfl,ae (wU.nil _ _),ae (wU.nil _ _),ae (fun j e=>by cases e),oq⟩
 case round=>
  clear oq;obtain⟨k,L1,L2,a1,a2,c1,c2,rfl,rfl,rfl,rfl,hk,Ld,HL2,BO,jr,lI,lS,HDS,HE⟩:=hrel;by_cases hlt:k<l.length
  .obtain ⟨g,off,hga,_,hat⟩:=(wR.out.ext HE.out).at_ (by omega);subst hga;obtain⟨xa,xc,ya,yc,q0,q1,q2,q3,q4,q5,hx,hy⟩:=hat k hlt;obtain⟨z0,z1,z2,z2'⟩:=bz hlt;have hsz:=FK.out _ (oD hlt);have Ph:=BG.out _ (oD hlt);have hrn:=agR.out k hlt;obtain⟨⟨x,y⟩,hxy⟩: ∃r,Go.Hw.rg l k=r:=⟨_,rfl⟩
   obtain⟨⟨p1,q1'⟩,hf1⟩: ∃r,Go.Hw.rg fs k=r:=⟨_,rfl⟩
   obtain⟨⟨p2,q2'⟩,hf2⟩: ∃r,Go.Hw.rg sn k=r:=⟨_,rfl⟩
   rw[hxy] at q0 q1 q2 q3 q4 q5 hx hy hsz Ph hrn;rw[hf1,hf2] at hrn;dsimp only at q0 q1 q2 q3 q4 q5 hx hy hsz Ph hrn;have agS:=ae (fun W (hW:Ext wr W)=>O5 x y xa ya xc yc ⟨#[95,49]⟩ W (aC fB.out (HE.out.trans hW)) ((hx.ext hW).weaken (fun j hj=>ay hj (HE.out.trans hW).size)) ((hy.ext hW).weaken (fun j hj=>ay hj (HE.out.trans hW).size)) (by omega) (by omega) (fun f hf=>by have:=Ph.1 f hf;show _+2<=_;omega) (fun f hf=>by have:=Ph.2 f hf;show _+2<=_;omega) p1 q1' hrn.1 hrn.2.1);have agT:=ae (fun W (hW:Ext wr W)=>O5 x y xa ya xc yc ⟨#[95,50]⟩ W (aC fB.out (HE.out.trans hW)) ((hx.ext hW).weaken (fun j hj=>ay hj (HE.out.trans hW).size)) ((hy.ext hW).weaken (fun j hj=>ay hj (HE.out.trans hW).size)) (by omega) (by omega) (fun f hf=>by have:=Ph.1 f hf;show _+2<=_;omega) (fun f hf=>by have:=Ph.2 f hf;show _+2<=_;omega) p2 q2' hrn.2.2.1 hrn.2.2.2);have nJ:=ae hf1;have HF2:=ae hf2;clear hat hx hy hxy hsz Ph hrn hf1 hf2;have hX:=(uR wr).alloc (.cells #[.string x.name,.string x.sort,.slice xa x.kids.length xc,.string y.name,.string y.sort,.slice ya y.kids.length yc] 146);have BF:=ae hX;have HB2:=ae (ai wr (.cells #[.string x.name,.string x.sort,.slice xa x.kids.length xc,.string y.name,.string y.sort,.slice ya y.kids.length yc] 146));clear hX;obtain⟨x0,x1,x2,x3,x4,x5⟩:=eG HB2.out
   go_wp2_with fail
   obtain⟨nb2,UE⟩: ∃n,wr.heap.size=n:=⟨_,rfl⟩
   have apb:=ae UE;rw[UE] at HB2
   try rw[UE]
   clear q0 q1 q2 q3 q4 q5 UE;generalize wr.alloc (.cells #[.string x.name,.string x.sort,.slice xa x.kids.length xc,.string y.name,.string y.sort,.slice ya y.kids.length yc] 146)=w2 at*;refine(agS.out _ BF.out).mono ?_;rintro e w3 ⟨pa,pc,qa,qc,B1,B1',rfl,IL,IP,IM,IQ,hw3⟩;have hX:=hw3.alloc (.cells #[.string p1.name,.string p1.sort,.slice pa p1.kids.length pc,.string q1'.name,.string q1'.sort,.slice qa q1'.kids.length qc] 146);have IJ:=ae (BF.out.trans hX);have nP:=ae (hX.heap HB2.out (fun h=>h));have uN:=ae (ai w3 (.cells #[.string p1.name,.string p1.sort,.slice pa p1.kids.length pc,.string q1'.name,.string q1'.sort,.slice qa q1'.kids.length qc] 146));have oW:Hid (iZ w.heap.size (w3.alloc (.cells #[.string p1.name,.string p1.sort,.slice pa p1.kids.length pc,.string q1'.name,.string q1'.sort,.slice qa q1'.kids.length qc] 146)) p1 (.slice pa p1.kids.length pc)):=ae (iZ.of (IL.kept ((uR w3).alloc _) (fun _ _ h=>h)) (fun j hj=>by have:=(IM j hj).1;have:=BF.out.size;have:=HE.out.size;omega));have yP:Hid (iZ w.heap.size (w3.alloc (.cells #[.string p1.name,.string p1.sort,.slice pa p1.kids.length pc,.string q1'.name,.string q1'.sort,.slice qa q1'.kids.length qc] 146)) q1' (.slice qa q1'.kids.length qc)):=ae (iZ.of (IP.kept ((uR w3).alloc _) (fun _ _ h=>h)) (fun j hj=>by have:=(IQ j hj).1;have:=BF.out.size;have:=HE.out.size;omega));have gV:Hid (wr.heap.size<=w3.heap.size):=ae (BF.out.trans hw3).size;clear IL IP IM IQ hw3 hX agS BF HB2 x0 x1 x2 x3 x4 x5;obtain⟨x0,x1,x2,x3,x4,x5⟩:=eG nP.out
   go_wp2_with fail
   obtain⟨nb3,Zy⟩: ∃n,w3.heap.size=n:=⟨_,rfl⟩
   rw[Zy] at uN gV
   try rw[Zy]
   clear Zy;generalize w3.alloc (.cells #[.string p1.name,.string p1.sort,.slice pa p1.kids.length pc,.string q1'.name,.string q1'.sort,.slice qa q1'.kids.length qc] 146)=w4 at*;refine(agT.out _ IJ.out).mono ?_;rintro e w5 ⟨ra,rc,sa,sc,B2,BX,rfl,IL,IP,IM,IQ,hw5⟩;have hX:=hw5.alloc (.cells #[.string p2.name,.string p2.sort,.slice ra p2.kids.length rc,.string q2'.name,.string q2'.sort,.slice sa q2'.kids.length sc] 146);have fP:=ae (IJ.out.trans hX);have JW:=ae (hX.heap uN.out (fun h=>h));have zf:=ae (ai w5 (.cells #[.string p2.name,.string p2.sort,.slice ra p2.kids.length rc,.string q2'.name,.string q2'.sort,.slice sa q2'.kids.length sc] 146));have amV:=ae (oW.out.ext hX);have amW:=ae (yP.out.ext hX);have HP2:Hid (iZ w.heap.size (w5.alloc (.cells #[.string p2.name,.string p2.sort,.slice ra p2.kids.length rc,.string q2'.name,.string q2'.sort,.slice sa q2'.kids.length sc] 146)) p2 (.slice ra p2.kids.length rc)):=ae (iZ.of (IL.kept ((uR w5).alloc _) (fun _ _ h=>h)) (fun j hj=>by have:=(IM j hj).1;have:=IJ.out.size;have:=HE.out.size;omega));have Ec:Hid (iZ w.heap.size (w5.alloc (.cells #[.string p2.name,.string p2.sort,.slice ra p2.kids.length rc,.string q2'.name,.string q2'.sort,.slice sa q2'.kids.length sc] 146)) q2' (.slice sa q2'.kids.length sc)):=ae (iZ.of (IP.kept ((uR w5).alloc _) (fun _ _ h=>h)) (fun j hj=>by have:=(IQ j hj).1;have:=IJ.out.size;have:=HE.out.size;omega));have qi:Hid (wr.heap.size<=w5.heap.size):=ae (IJ.out.trans hw5).size;clear IL IP IM IQ hw5 hX agT IJ nP uN oW yP x0 x1 x2 x3 x4 x5
   go_upto_region 11 with fail
   obtain⟨nb5,Gy⟩: ∃n,w5.heap.size=n:=⟨_,rfl⟩
   rw[Gy] at zf qi
   try rw[Gy]
   clear Gy;generalize w5.alloc (.cells #[.string p2.name,.string p2.sort,.slice ra p2.kids.length rc,.string q2'.name,.string q2'.sort,.slice sa q2'.kids.length sc] 146)=wb at*;have Sj:=ae (HE.out.trans fP.out);have agU:=ae (lI.out.ext fP.out);have agV:=ae (lS.out.ext fP.out);have hF3: ¬(fun j=>(Value.slice a1 L1.length c1).ownBlock=some j\/(Value.slice a2 L2.length c2).ownBlock=some j) nb3:=fun h=>by
    have h3:=gV.out;rcases h with h|h
    .have:=(World.ownsRow.lt lI.out.own _ h).2;omega
    .have:=(World.ownsRow.lt lS.out.own _ h).2;omega
   have Pj: ¬(fun j=>(Value.slice a1 L1.length c1).ownBlock=some j\/(Value.slice a2 L2.length c2).ownBlock=some j) nb5:=fun h=>by
    have h3:=qi.out;rcases h with h|h
    .have:=(World.ownsRow.lt lI.out.own _ h).2;omega
    .have:=(World.ownsRow.lt lS.out.own _ h).2;omega
   have x0:=fun x:XF (fun j=>(Value.slice a1 L1.length c1).ownBlock=some j\/(Value.slice a2 L2.length c2).ownBlock=some j) wb=>x.upd.cell (af JW.out 0 (.string p1.name) rfl) hF3;have y0:=fun x:XF (fun j=>(Value.slice a1 L1.length c1).ownBlock=some j\/(Value.slice a2 L2.length c2).ownBlock=some j) wb=>x.upd.cell (af zf.out 0 (.string p2.name) rfl) Pj;have x1:=fun x:XF (fun j=>(Value.slice a1 L1.length c1).ownBlock=some j\/(Value.slice a2 L2.length c2).ownBlock=some j) wb=>x.upd.cell (af JW.out 1 (.string p1.sort) rfl) hF3;have y1:=fun x:XF (fun j=>(Value.slice a1 L1.length c1).ownBlock=some j\/(Value.slice a2 L2.length c2).ownBlock=some j) wb=>x.upd.cell (af zf.out 1 (.string p2.sort) rfl) Pj;have x2:=fun x:XF (fun j=>(Value.slice a1 L1.length c1).ownBlock=some j\/(Value.slice a2 L2.length c2).ownBlock=some j) wb=>x.upd.cell (af JW.out 2 (.slice pa p1.kids.length pc) rfl) hF3;have y2:=fun x:XF (fun j=>(Value.slice a1 L1.length c1).ownBlock=some j\/(Value.slice a2 L2.length c2).ownBlock=some j) wb=>x.upd.cell (af zf.out 2 (.slice ra p2.kids.length rc) rfl) Pj;have x3:=fun x:XF (fun j=>(Value.slice a1 L1.length c1).ownBlock=some j\/(Value.slice a2 L2.length c2).ownBlock=some j) wb=>x.upd.cell (af JW.out 3 (.string q1'.name) rfl) hF3;have y3:=fun x:XF (fun j=>(Value.slice a1 L1.length c1).ownBlock=some j\/(Value.slice a2 L2.length c2).ownBlock=some j) wb=>x.upd.cell (af zf.out 3 (.string q2'.name) rfl) Pj;have x4:=fun x:XF (fun j=>(Value.slice a1 L1.length c1).ownBlock=some j\/(Value.slice a2 L2.length c2).ownBlock=some j) wb=>x.upd.cell (af JW.out 4 (.string q1'.sort) rfl) hF3;have y4:=fun x:XF (fun j=>(Value.slice a1 L1.length c1).ownBlock=some j\/(Value.slice a2 L2.length c2).ownBlock=some j) wb=>x.upd.cell (af zf.out 4 (.string q2'.sort) rfl) Pj;have x5:=fun x:XF (fun j=>(Value.slice a1 L1.length c1).ownBlock=some j\/(Value.slice a2 L2.length c2).ownBlock=some j) wb=>x.upd.cell (af JW.out 5 (.slice qa q1'.kids.length qc) rfl) hF3;have y5:=fun x:XF (fun j=>(Value.slice a1 L1.length c1).ownBlock=some j\/(Value.slice a2 L2.length c2).ownBlock=some j) wb=>x.upd.cell (af zf.out 5 (.slice sa q2'.kids.length sc) rfl) Pj;have HOs:=lI;clear lI lS HOs;have lI:=agU;have lS:=agV;clear agU agV;have hlen:L1.length+1<=1000/\L2.length+1<=1000:=by have:=xM.out;have:=Ld.out;have:=HL2.out;omega
   refine PI.bW (α:=(Option Addr×Nat)×Nat×(Nat->Prop)) (fun j=>(Value.slice a1 L1.length c1).ownBlock=some j\/(Value.slice a2 L2.length c2).ownBlock=some j) 8 [] 8 [(8,2),(9,2)] [[],[],[1],[0,1,2],[],[],[5],[0,1,2,3,4,5,6],[0,1,2,3,4,5,6,7],[0,1,2,3,4,5,6,7,8]]
    [none,none,some (GG (fun j=>(Value.slice a1 L1.length c1).ownBlock=some j\/(Value.slice a2 L2.length c2).ownBlock=some j) (.cells #[.string p1.name,.string p1.sort,.slice pa p1.kids.length pc,.string q1'.name,.string q1'.sort,.slice qa q1'.kids.length qc] 146 (0,0))),some (GH w.heap.size (fun j=>(Value.slice a1 L1.length c1).ownBlock=some j) (fun j=>(Value.slice a2 L2.length c2).ownBlock=some j) (.slice a1 L1.length c1) L1.length (L1.flatMap tX) HDS.out (L1.length+1) (L1.flatMap tX++[.string p1.name,.string p1.sort,.slice pa p1.kids.length pc,.string q1'.name,.string q1'.sort,.slice qa q1'.kids.length qc])),none,none,some (GG (fun j=>(Value.slice a1 L1.length c1).ownBlock=some j\/(Value.slice a2 L2.length c2).ownBlock=some j) (.cells #[.string p2.name,.string p2.sort,.slice ra p2.kids.length rc,.string q2'.name,.string q2'.sort,.slice sa q2'.kids.length sc] 146 (0,0))),some (GH w.heap.size (fun j=>(Value.slice a2 L2.length c2).ownBlock=some j) (fun j=>(Value.slice a1 L1.length c1).ownBlock=some j) (.slice a2 L2.length c2) L2.length (L2.flatMap tX) (fun k h2 h1=>HDS.out k h1 h2) (L2.length+1) (L2.flatMap tX++[.string p2.name,.string p2.sort,.slice ra p2.kids.length rc,.string q2'.name,.string q2'.sort,.slice sa q2'.kids.length sc]))]
    [false,false,true,true,false,false,true,true] (by kernel_rfl) (by kernel_rfl) rfl (fun _ _ d _ _ h=>by cases d<;>exact h)
    ⟨fun i A j B h1 h2 hne k hD=>by
      have hi:i<8:=by
       refine Nat.lt_of_not_le (fun hge=>?_);change List.getD _ i none=some _ at h1;rw[List.getD_eq_getElem?_getD,List.getElem?_eq_none (by simpa using hge)] at h1;cases h1
      have hj:j<8:=by
       refine Nat.lt_of_not_le (fun hge=>?_);change List.getD _ j none=some _ at h2;rw[List.getD_eq_getElem?_getD,List.getElem?_eq_none (by simpa using hge)] at h2;cases h2
      rcases(by omega:i=0\/i=1\/i=2\/i=3\/i=4\/i=5\/i=6\/i=7) with rfl|rfl|rfl|rfl|rfl|rfl|rfl|rfl<;>first|(cases h1;done)|skip
      all_goals (injection h1 with h1;subst h1)
      all_goals (rcases(by omega:j=0\/j=1\/j=2\/j=3\/j=4\/j=5\/j=6\/j=7) with rfl|rfl|rfl|rfl|rfl|rfl|rfl|rfl<;>first|(cases h2;done)|exact absurd rfl hne|skip)
      all_goals (injection h2 with h2;subst h2)
      all_goals first|exact hD.elim|exact hD|exact .inl hD|exact .inr hD,fun i A h1 k hD=>by
      have hi:i<8:=by
       refine Nat.lt_of_not_le (fun hge=>?_);change List.getD _ i none=some _ at h1;rw[List.getD_eq_getElem?_getD,List.getElem?_eq_none (by simpa using hge)] at h1;cases h1
      rcases(by omega:i=0\/i=1\/i=2\/i=3\/i=4\/i=5\/i=6\/i=7) with rfl|rfl|rfl|rfl|rfl|rfl|rfl|rfl<;>first|(cases h1;done)|skip
      all_goals (injection h1 with h1;subst h1)
      all_goals first|exact hD.elim|exact .inl hD|exact .inr hD⟩ (fun i A h1=>by
      have hi:i<8:=by
       refine Nat.lt_of_not_le (fun hge=>?_);change List.getD _ i none=some _ at h1;rw[List.getD_eq_getElem?_getD,List.getElem?_eq_none (by simpa using hge)] at h1;cases h1
      rcases(by omega:i=0\/i=1\/i=2\/i=3\/i=4\/i=5\/i=6\/i=7) with rfl|rfl|rfl|rfl|rfl|rfl|rfl|rfl<;>first|(cases h1;done)|skip
      all_goals (injection h1 with h1;subst h1)
      all_goals first|exact trivial|exact lI.out.own|exact lS.out.own) ?_
   simp only[List.take_succ_cons,List.take_zero,gG,List.getElem?_cons_zero,List.getElem?_cons_succ];refine PI.aX rfl (fun K hK=>?_);go_simp;refine hK _ ?_;clear hK K;refine PI.aX rfl (fun K hK=>?_);go_simp;refine hK _ ?_;clear hK K;refine PI.aK _ rfl (by go_simp) (fun W hW hG hpr K hK=>?_) (fun K z2 hK=>?_)
   .go_simp;exact hK ((none,0),W.heap.size,fun _=>False) _ ((uR W).alloc _) ⟨fun h=>by
     have h:(Value.slice a1 L1.length c1).ownBlock=some W.heap.size\/(Value.slice a2 L2.length c2).ownBlock=some W.heap.size:=h;have h1:wb.heap.size<=W.heap.size:=hW.size;rcases h with h|h
     .have:=(World.ownsRow.lt lI.out.own _ h).2;omega
     .have:=(World.ownsRow.lt lS.out.own _ h).2;omega,ai _ _⟩ (fun k e=>by rw[e];exact Nat.le_refl _)
   refine hK _ ?_;clear hK K;dsimp only[GG,GH];refine PI.aK _ rfl (by go_simp) (fun W hW hG hpr K hK=>?_) (fun K z3 hK=>?_)
   .have gc:=hG _ (List.mem_append_right _ (List.mem_singleton.2 rfl)) (by show(2:Nat)∈_;decide);obtain⟨iR,hi,hz0,hz1,hz2⟩:=info_parts Xi;have hown:W.ownsRow w.heap.size 146 6 (.slice a1 L1.length c1) L1.length (L1.flatMap tX):=hpr;refine dP _ (.tmp 46) (.tmp 48) 50 rfl w.heap.size 146 iR (.agg #[.string ⟨#[]⟩,.string ⟨#[]⟩,.slice none 0 0,.string ⟨#[]⟩,.string ⟨#[]⟩,.slice none 0 0]) 6 112 Tryz.underlying50 hi hz0 hz1 hz2 rfl (by decide) _ L1.length _ rfl hown ⟨z2.2.1,0,none⟩ 1 1 [.string p1.name,.string p1.sort,.slice pa p1.kids.length pc,.string q1'.name,.string q1'.sort,.slice qa q1'.kids.length qc] rfl rfl (fun j u hj=>?_) (by intro u hu;simp at hu;rcases hu with h|h|h|h|h|h<;>(subst h;rfl)) (by have:=hlen;unfold maxLen;omega) (by have:=hlen;omega) (Nat.le_trans Sj.out.size hW.size) ?_
    .have hj6:j<6:=(List.getElem?_eq_some_iff.1 hj).1;rw[show(⟨z2.2.1,0,none⟩:Addr).add j=⟨z2.2.1,j,none⟩ by rw[Addr.add_lit,Nat.zero_add]];rw[cell_of_row _ _ j _ _ _ gc.2];simpa using hj
    intro v' w' I4;obtain⟨a',c',hv⟩:=bJ I4.own;subst hv;have hwh:=I4.xE;refine hK ((a',c'),0,fun k=>(Value.slice a' (L1.length+1) c').ownBlock=some k/\W.heap.size<=k) w' (I4.upd) ⟨I4.own,fun k hk=>?_,fun k hk=>hk.1⟩ (fun k e=>e.2);rcases hwh with h|h
    .rw [h] at hk;exact⟨fun e=>HDS.out k hk e,.inl hk⟩
    .have hk2:=hk;rw[h] at hk2;injection hk2 with hk2
     exact⟨fun e=>by have:=(World.ownsRow.lt lS.out.own _ e).2;have:=hW.size;omega,.inr ⟨hk,by omega⟩⟩
   refine hK _ ?_;clear hK K;dsimp only[GG,GH];refine PI.aX rfl (fun K hK=>?_);go_simp;refine hK _ ?_;clear hK K;refine PI.aX rfl (fun K hK=>?_);go_simp;refine hK _ ?_;clear hK K;refine PI.aK _ rfl (by go_simp) (fun W hW hG hpr K hK=>?_) (fun K z6 hK=>?_)
   .go_simp;exact hK ((none,0),W.heap.size,fun _=>False) _ ((uR W).alloc _) ⟨fun h=>by
     have h:(Value.slice a1 L1.length c1).ownBlock=some W.heap.size\/(Value.slice a2 L2.length c2).ownBlock=some W.heap.size:=h;have h1:wb.heap.size<=W.heap.size:=hW.size;rcases h with h|h
     .have:=(World.ownsRow.lt lI.out.own _ h).2;omega
     .have:=(World.ownsRow.lt lS.out.own _ h).2;omega,ai _ _⟩ (fun k e=>by rw[e];exact Nat.le_refl _)
   refine hK _ ?_;clear hK K;dsimp only[GG,GH];refine PI.aK _ rfl (by go_simp) (fun W hW hG hpr K hK=>?_) (fun K z7 hK=>?_)
   .have gc:=hG _ (List.mem_append_right _ (List.mem_singleton.2 rfl)) (by show(6:Nat)∈_;decide);have g3:=hG _ (List.mem_append_left _ (List.mem_append_right _ (List.mem_singleton.2 rfl))) (by show(3:Nat)∈_;decide);obtain⟨iR,hi,hz0,hz1,hz2⟩:=info_parts Xi;have hown:W.ownsRow w.heap.size 146 6 (.slice a2 L2.length c2) L2.length (L2.flatMap tX):=hpr;refine dP _ (.tmp 50) (.tmp 52) 50 rfl w.heap.size 146 iR (.agg #[.string ⟨#[]⟩,.string ⟨#[]⟩,.slice none 0 0,.string ⟨#[]⟩,.string ⟨#[]⟩,.slice none 0 0]) 6 112 Tryz.underlying50 hi hz0 hz1 hz2 rfl (by decide) _ L2.length _ rfl hown ⟨z6.2.1,0,none⟩ 1 1 [.string p2.name,.string p2.sort,.slice ra p2.kids.length rc,.string q2'.name,.string q2'.sort,.slice sa q2'.kids.length sc] rfl rfl (fun j u hj=>?_) (by intro u hu;simp at hu;rcases hu with h|h|h|h|h|h<;>(subst h;rfl)) (by have:=hlen;unfold maxLen;omega) (by have:=hlen;omega) (Nat.le_trans Sj.out.size hW.size) ?_
    .have hj6:j<6:=(List.getElem?_eq_some_iff.1 hj).1;rw[show(⟨z6.2.1,0,none⟩:Addr).add j=⟨z6.2.1,j,none⟩ by rw[Addr.add_lit,Nat.zero_add]];rw[cell_of_row _ _ j _ _ _ gc.2];simpa using hj
    intro v' w' I4;obtain⟨a',c',hv⟩:=bJ I4.own;subst hv;have hwh:=I4.xE;refine hK ((a',c'),0,fun k=>(Value.slice a' (L2.length+1) c').ownBlock=some k/\W.heap.size<=k) w' (I4.upd) ⟨I4.own,fun k hk=>?_,fun k hk=>hk.1⟩ (fun k e=>e.2);rcases hwh with h|h
    .rw [h] at hk;exact⟨fun e=>HDS.out k e hk,.inl hk⟩
    .have hk2:=hk;rw[h] at hk2;injection hk2 with hk2
     exact⟨fun e=>by have:=(World.ownsRow.lt lI.out.own _ e).2;have:=hW.size;omega,.inr ⟨hk,by omega⟩⟩
   refine hK _ ?_;clear hK K;dsimp only[GG,GH];refine PI.jo (fun w8 hW hG jW=>?_);have g3:=hG _ (List.mem_append_left _ (List.mem_append_left _ (List.mem_append_right _ (List.mem_singleton.2 rfl))));have g7:=hG _ (List.mem_append_right _ (List.mem_singleton.2 rfl));unfold PI.vz at jW;simp only[List.nil_append,List.singleton_append,List.cons_append,List.pairwise_cons] at jW;have a37:=jW.2.1 _ (List.mem_cons_of_mem _ (List.mem_cons_self ..));dsimp only[GG,GH] at g3 g7 a37;have hd8: ∀j,(Value.slice z3.1.1 (L1.length+1) z3.1.2).ownBlock=some j->¬(Value.slice z7.1.1 (L2.length+1) z7.1.2).ownBlock=some j:=fun j e1 e2=>by
    obtain⟨n1,o1⟩:=g3.2.1 j e1;obtain⟨n2,o2⟩:=g7.2.1 j e2;rcases o1 with o1|o1
    .exact n2 o1
    .rcases o2 with o2|o2
     .exact n1 o2
     .exact a37 j o1 o2
   have Aj: ∀j,(fun j=>(Value.slice a1 L1.length c1).ownBlock=some j\/(Value.slice a2 L2.length c2).ownBlock=some j) j->¬vZ wb j:=fun j h=>by
    rcases h with h|h
    .exact IV lI.out.own h
    .exact IV lS.out.own h
   have HR1:Hid (wU w.heap.size w8 (.slice z3.1.1 (L1.length+1) z3.1.2) (L1++[((p1,q1'),.slice pa p1.kids.length pc,.slice qa q1'.kids.length qc)])):=ae ⟨by rw[List.length_append,List.flatMap_append];exact g3.1,fun x hx=>by
    rcases List.mem_append.1 hx with hx|hx
    .exact ⟨(lI.out.tl x hx).1.upd hW Aj,(lI.out.tl x hx).2.upd hW Aj⟩
    .rw [List.mem_singleton] at hx;subst hx;exact⟨amV.out.upd hW Aj,amW.out.upd hW Aj⟩⟩
   have HR2:Hid (wU w.heap.size w8 (.slice z7.1.1 (L2.length+1) z7.1.2) (L2++[((p2,q2'),.slice ra p2.kids.length rc,.slice sa q2'.kids.length sc)])):=ae ⟨by rw[List.length_append,List.flatMap_append];exact g7.1,fun x hx=>by
    rcases List.mem_append.1 hx with hx|hx
    .exact ⟨(lS.out.tl x hx).1.upd hW Aj,(lS.out.tl x hx).2.upd hW Aj⟩
    .rw [List.mem_singleton] at hx;subst hx;exact⟨HP2.out.upd hW Aj,Ec.out.upd hW Aj⟩⟩
   have bV:Hid (Ext w w8):=ae (Sj.out.trans' hW (fun j hj e=>by
    rcases e with e|e
    .have:=(World.ownsRow.lt lI.out.own _ e).1;omega
    .have:=(World.ownsRow.lt lS.out.own _ e).1;omega))
   have hm1:(L1++[(((p1,q1'),.slice pa p1.kids.length pc,.slice qa q1'.kids.length qc):Re)]).map (·.1)=fs.take (k+1):=by
    rw[List.map_append,BO.out,Pg fs k (by have:=lG.out;omega),nJ.out];rfl
   have hm2:(L2++[(((p2,q2'),.slice ra p2.kids.length rc,.slice sa q2'.kids.length sc):Re)]).map (·.1)=sn.take (k+1):=by
    rw[List.map_append,jr.out,Pg sn k (by have:=fV.out;omega),HF2.out];rfl
   have amY:=ae hm1;have amZ:=ae hm2;have HD8:=ae hd8;have hle1:(L1++[(((p1,q1'),.slice pa p1.kids.length pc,.slice qa q1'.kids.length qc):Re)]).length=L1.length+1:=by simp
   have hle2:(L2++[(((p2,q2'),.slice ra p2.kids.length rc,.slice sa q2'.kids.length sc):Re)]).length=L2.length+1:=by simp
   rw[<-hle1] at HR1 HD8;rw[<-hle2] at HR2 HD8;clear hG jW g3 g7 a37 hd8 Aj hW hm1 hm2 x0 x1 x2 x3 x4 x5 y0 y1 y2 y3 y4 y5 hF3 Pj;refine iE ?_;intro K hK;go_simp;refine hK _ _ ?_;clear hK K;refine iE ?_;intro K hK;go_simp;refine hK _ _ ?_;clear hK K;simp only[cu]
   go_wp2_with fail
   go_roundg (l.length- (k+1))
   case measure=>omega
   case rel=>exact⟨k+1,_,_,_,_,_,_,by rw[hle1],by rw[hle2],by go_num,rfl,by omega,ae (by rw[hle1];have:=Ld.out;omega),ae (by rw[hle2];have:=HL2.out;omega),amY,amZ,HR1,HR2,HD8,bV⟩
  .obtain rfl:k=l.length:=by omega
   have z2:decide ((l.length:Int)< (l.length:Int))=false:=dF (by omega);have hmf:L1.map (·.1)=fs:=by rw[BO.out,List.take_of_length_le (by have:=lG.out;omega)]
   have hms:L2.map (·.1)=sn:=by rw[jr.out,List.take_of_length_le (by have:=fV.out;omega)]
   have HMF:=ae hmf;have HMS:=ae hms;have zX:Hid (Ext wr wr):=ae (aj.refl _ _);have kG:=HE;clear hmf hms BO jr agR FK BG wR HE hk;have HZ0:Hid (IZ ov fs l.length (l.length-0) 0 none=some Z):=ae HZ.out;have HA0:Hid (Em wr (.slice none 0 0) none):=ae rfl;clear HZ
   go_wp2_with fail
   obtain⟨n,hn⟩: ∃n,l.length=n:=⟨_,rfl⟩
   rw[hn] at Ld HL2 xM lG fV HZ0 Kq HOV
   try rw[hn]
   clear z2 hn;generalize hwA:wr=wA at*;clear hwA
   go_loopg [12,57] n (fun gk Xj iv wr=> ∃(i:Nat) (acc:Option Cp),iv= .int .i64 (i:Int)/\gk=n-i/\i<=n/\Hid (Em wr Xj acc)/\Hid (IZ ov fs n (n-i) i acc=some Z)/\Hid (Ext wA wr))
   case atStart=>exact⟨0,none,rfl,rfl,Nat.zero_le _,HA0,HZ0,zX⟩
   case round=>
    clear HA0 HZ0 zX;obtain⟨i,acc,rfl,rfl,hi,tC,HZI,HE⟩:=hrel;have hnb:n<=100:=xM.out;by_cases F8:i<n
    .have HRi:=ae (lI.out.ext HE.out);have hLi:i<L1.length:=by have:=Ld.out;omega
     obtain⟨g,off,hga,hat⟩:=HRi.out.at_ (by omega);subst hga;obtain⟨xa,xc,ya,yc,ex,ey,hs1,hs2,q0,q1,q2,q3,q4,q5⟩:=hat i hLi;have hfi:(eg L1 i).1=Go.Hw.rg fs i:=by rw[<-HMF.out];exact abz L1 i hLi
     have hfz:=Kq.out i F8;have hov:=HOV.out i;obtain⟨⟨⟨x,y⟩,ux,uy⟩,hxe⟩: ∃r,eg L1 i=r:=⟨_,rfl⟩
     rw[hxe] at ex ey hs1 hs2 q0 q1 q2 q3 q4 q5 hfi;dsimp only at ex ey hs1 hs2 q0 q1 q2 q3 q4 q5 hfi;have hzi:(IY ov i n (iK x []) acc).bind (IZ ov fs n (n- (i+1)) (i+1))=some Z:=by
      have h:=HZI.out;rw[show n-i=(n- (i+1))+1 by omega] at h;unfold IZ at h;rw[<-hfi] at h;exact h
     rw[<-hfi] at hfz;dsimp only at hfz;have agX: ∀k p,k<n->p∈iK x []->¬(p.length=0/\k<=i)->IW (x,y) (Go.Hw.rg sn k) p (ov i p k):=fun k p hk hp hc=>by
      have h:=hov k p F8 hk (by rw[<-hfi];exact hp) hc;rw[<-hfi] at h;exact h
     have agY:=ae agX;have mG:=ae hs1;have HS2:=ae hs2;have Zz:=ae hzi;have hpl:=Gz x [];have pG:Hid ((iK x []).length<=1000/\x.size<=1000):=ae ⟨by omega,hfz⟩;obtain⟨z0,z1,z2,z2'⟩:=bz hLi;have hX:=(uR wr).alloc (.cells #[.string x.name,.string x.sort,.slice xa x.kids.length xc,.string y.name,.string y.sort,.slice ya y.kids.length yc] 146);have Rj:=ae hX;have HEX:=ae (HE.out.trans hX);have je:=ae (ai wr (.cells #[.string x.name,.string x.sort,.slice xa x.kids.length xc,.string y.name,.string y.sort,.slice ya y.kids.length yc] 146));have agZ:=ae (tC.out.ext hX);clear hat ex ey hs1 hs2 hfi hxe hov agX hzi hfz hpl hX;obtain⟨x0,x1,x2,x3,x4,x5⟩:=eG je.out
     go_wp2_with fail
     obtain⟨nbx,ZA⟩: ∃m,wr.heap.size=m:=⟨_,rfl⟩
     rw[ZA] at je
     try rw[ZA]
     clear ZA q0 q1 q2 q3 q4 q5;have ZB:=ae (mG.out.ext Rj.out);have ag0:=ae (HS2.out.ext Rj.out);generalize wr.alloc (.cells #[.string x.name,.string x.sort,.slice xa x.kids.length xc,.string y.name,.string y.sort,.slice ya y.kids.length yc] 146)=w2 at*;have vH:=ae (acY x (.agg #[.string x.name,.string x.sort,.slice xa x.kids.length xc]) (.slice none 0 0) (fun k=>k<w2.heap.size) (fun _=>False) [] w2 ⟨xa,xc,rfl,EI ZB.out⟩ (az.nil _ _ _) (fun k hk=>hk) (fun k hk=>hk.elim) (by have:=pG.out;omega) (by have:=pG.out;simp;omega));clear HRi mG HS2 Rj HE tC HZI x0 x1 x2 x3 x4 x5;refine vH.out.mono ?_;rintro e w3 ⟨pa,pc,rfl,hPs,hw3⟩;have aS:=ae (HEX.out.trans hw3);have am0:=ae (hw3.heap je.out (fun h=>h));have am1:=ae (ZB.out.ext hw3);have am2:=ae (ag0.out.ext hw3);have ag1:=ae (agZ.out.ext hw3);have ag2:=ae hPs;have ag3:Hid (Ext w3 w3):=ae (aj.refl _ _);have ag4:=ae (O_ x []);obtain⟨PP,hPP⟩: ∃P,iK x []=P:=⟨_,rfl⟩
     rw[hPP] at ag2 Zz pG ag4 agY⊢;have HZP:Hid ((IY ov i n (PP.drop 0) acc).bind (IZ ov fs n (n- (i+1)) (i+1))=some Z):=ae Zz.out;clear hPs hw3 vH HEX je ZB ag0 agZ hPP Zz
     go_wp2_with fail
     have ag5:=ag1;clear ag1;generalize hK:IZ ov fs n (n- (i+1)) (i+1)=Ki at*;have HKI:=ae hK;clear hK
     go_loopg [12,66] PP.length (fun gk Xj iv wr=> ∃(j:Nat) (acc:Option Cp),iv= .int .i64 (j:Int)/\gk=PP.length-j/\j<=PP.length/\Hid (Em wr Xj acc)/\Hid ((IY ov i n (PP.drop j) acc).bind Ki=some Z)/\Hid (Ext w3 wr))
     case atStart=>exact⟨0,acc,rfl,rfl,Nat.zero_le _,ag5,HZP,ag3⟩
     case round=>
      clear ag5 HZP ag3;obtain⟨j,acc,rfl,rfl,hj,tC,HZJ,BZ⟩:=hrel;have hpb:PP.length<=1000:=pG.out.1;by_cases JX:j<PP.length
      .have hPs:=ag2.out.ext BZ.out;obtain⟨us,hul,hown,hint⟩:=hPs;obtain⟨g,off,cap,e,_,_,hjj⟩:=az.pos (az.iV hown) (by omega);injection e with e e2 e3
       subst e;subst e3;have iP:=hint j JX;obtain⟨p,hp⟩: ∃p,PP.getD j []=p:=⟨_,rfl⟩
       have hpm:p∈PP:=by rw[<-hp,List.getD_eq_getElem?_getD,List.getElem?_eq_getElem JX];exact List.getElem_mem JX
       have hdp:PP.drop j=p::PP.drop (j+1):=by
        rw[List.drop_eq_getElem_cons JX,<-hp,List.getD_eq_getElem?_getD,List.getElem?_eq_getElem JX];rfl
       rw[hp] at iP;obtain⟨va,vc,hv⟩:=az.shape iP;rw[hv] at iP;have q0:wr.cell? ⟨g,off+j,none⟩=some (.slice va p.length vc):=by
        rw[hjj j (by omega),<-hv];unfold ug;rw[List.getD_eq_getElem?_getD,List.getElem?_eq_getElem (by omega)];rfl
       have HPJ:=ae (iP.weaken (fun k hk=>(x_.lt hk.2:k<wr.heap.size)));have hzj:=HZJ.out;rw[hdp] at hzj;unfold IY at hzj;rw[Option.bind_assoc] at hzj;have am3:Hid (∀k,k<n->¬(p.length=0/\k<=i)->IW (x,y) (Go.Hw.rg sn k) p (ov i p k)):=ae (fun k hk hc=>agY.out k p hk hpm hc);have apc:Hid (p.length<=1000):=ae (by have h1:=ag4.out p hpm;have h2:=pG.out.2;rw[List.length_nil] at h1;omega);obtain⟨z0,z1,z2,z2'⟩:=bz JX;have ZC:=ae (aS.out.trans BZ.out);have ag7:=ae (BZ.out.heap am0.out (fun h=>h));have am4:=ae (am1.out.ext BZ.out);have am5:=ae (am2.out.ext BZ.out);have ag8:Hid (Ext wr wr):=ae (aj.refl _ _);have ag9:=tC;clear iP hv hp hpm hdp hint hul hown hjj tC HZJ e2;obtain⟨Kj,hKj⟩: ∃K:Option Cp->Option (Option Cp),(fun a=>(IY ov i n (PP.drop (j+1)) a).bind Ki)=K:=⟨_,rfl⟩
       have HKJ:=ae hKj;have Pm:Hid ((IX ov i p (n-0) 0 acc).bind Kj=some Z):=ae (by rw[<-hKj];exact hzj);clear hzj hKj
       go_wp2_with fail
       clear q0;generalize hwj:wr=wj at*;clear hwj
       go_loopg [12,72] n (fun gk Xj iv wr=> ∃(k:Nat) (acc:Option Cp),iv= .int .i64 (k:Int)/\gk=n-k/\k<=n/\Hid (Em wr Xj acc)/\Hid ((IX ov i p (n-k) k acc).bind Kj=some Z)/\Hid (Ext wj wr))
       case atStart=>exact⟨0,acc,rfl,rfl,Nat.zero_le _,ag9,Pm,ag8⟩
       case round=>
        clear ag9 Pm ag8;obtain⟨k,acc,rfl,rfl,hk,tC,Pm,FC⟩:=hrel;by_cases am6:k<n
        .have HRk:=ae (lS.out.ext ((ZC.out).trans FC.out));have hLk:k<L2.length:=by have:=HL2.out;omega
         obtain⟨g2,lU,qJ,hat⟩:=HRk.out.at_ (by omega);subst qJ;obtain⟨pa',pc',Pn,Po,ep,eq,hp1,hq1,r0,r1,r2,r3,r4,r5⟩:=hat k hLk;have hfk:(eg L2 k).1=Go.Hw.rg sn k:=by rw[<-HMS.out];exact abz L2 k hLk
         obtain⟨⟨⟨p',q'⟩,up,uq⟩,hpe⟩: ∃r,eg L2 k=r:=⟨_,rfl⟩
         rw[hpe] at ep eq hp1 hq1 r0 r1 r2 r3 r4 r5 hfk;dsimp only at ep eq hp1 hq1 r0 r1 r2 r3 r4 r5 hfk;have Xk:=Pm.out;rw[show n-k=(n- (k+1))+1 by omega] at Xk;unfold IX at Xk;rw[Option.bind_assoc] at Xk;have UF:=ae Xk;have HFK:=ae hfk;have hX:=(uR wr).alloc (.cells #[.string p'.name,.string p'.sort,.slice pa' p'.kids.length pc',.string q'.name,.string q'.sort,.slice Pn q'.kids.length Po] 146);have HXK:=ae hX;have Bg:=ae (FC.out.trans hX);have HBK:=ae (ai wr (.cells #[.string p'.name,.string p'.sort,.slice pa' p'.kids.length pc',.string q'.name,.string q'.sort,.slice Pn q'.kids.length Po] 146));have ZE:=ae (tC.out.ext hX);have oW:=ae (hp1.ext hX);have yP:=ae (hq1.ext hX);have ag':=ae (Bg.out.heap ag7.out (fun h=>h));have aha:=ae (am4.out.ext Bg.out);have ahb:=ae (am5.out.ext Bg.out);have HPK:=ae ((az.kept HPJ.out Bg.out (fun _ _ h=>h)).weaken (fun j hj=>(ay hj Bg.out.size:j< (wr.alloc (.cells #[.string p'.name,.string p'.sort,.slice pa' p'.kids.length pc',.string q'.name,.string q'.sort,.slice Pn q'.kids.length Po] 146)).heap.size)));obtain⟨z0,z1,z2,z2'⟩:=bz hLk;clear hat ep eq hp1 hq1 hfk hpe Xk hX HRk tC Pm;by_cases hcc:p.length=0/\k<=i
         .have t1:((p.length:Int)==0)=true:=beq_iff_eq.2 (by omega);have t2:decide ((p.length:Int)=0)=true:=dT (by omega);have t3:decide ((k:Int)<=(i:Int))=true:=dT (by omega);have t4:decide (k<=i)=true:=dT hcc.2;have t5:(p.length==0)=true:=beq_iff_eq.2 hcc.1;have t6:decide (p.length=0)=true:=dT hcc.1;have hz2:(IX ov i p (n- (k+1)) (k+1) acc).bind Kj=some Z:=by
           have h:=UF.out;unfold Xh at h;rw[if_pos hcc] at h;exact h
          have HZ2:=ae hz2;clear hcc hz2
          go_wp2_with fail
          go_roundg (n- (k+1))
          case measure=>omega
          case rel=>exact⟨k+1,acc,by go_num,rfl,by omega,ZE,HZ2,Bg⟩
         .have yK:=ae hcc;have hpk:((p.length:Int)==0)=false/\decide ((p.length:Int)=0)=false/\decide (p.length=0)=false/\(p.length==0)=false\/(((p.length:Int)==0)=true/\decide ((p.length:Int)=0)=true/\decide ((k:Int)<=(i:Int))=false/\decide (p.length=0)=true/\(p.length==0)=true/\decide (k<=i)=false):=by
           by_cases hp0:p.length=0
           .exact .inr ⟨beq_iff_eq.2 (by omega),dT (by omega),dF (fun h=>hcc ⟨hp0,by omega⟩),dT hp0,beq_iff_eq.2 hp0,dF (fun h=>hcc ⟨hp0,h⟩)⟩
           .exact .inl ⟨beq_eq_false_iff_ne.2 (by omega),dF (by omega),dF hp0,beq_eq_false_iff_ne.2 hp0⟩
          have ZF:=am3.out k am6 hcc;rw[<-HFK.out] at ZF;obtain⟨BP,ahd,ahe⟩:=oW.out;have UG:=ae (ZF xa ya pa' Pn xc yc pc' Po (.slice va p.length vc) BP _ (aC fB.out (kG.out.trans (ZC.out.trans Bg.out))) (EI aha.out) (EI ahb.out) ahd (fun j hj=>(ahe j hj).2.lt) (EI yP.out) (Ul HPK.out));clear ZF ahd ahe;obtain⟨nbk,UH⟩: ∃m,wr.heap.size=m:=⟨_,rfl⟩
          have ape:=ae UH;obtain⟨oo,hoo⟩: ∃o,ov i p k=o:=⟨_,rfl⟩
          have yD:=ae hoo;rw[hoo] at UG;clear hoo hcc;have ahg:Hid ((wr.alloc (.cells #[.string p'.name,.string p'.sort,.slice pa' p'.kids.length pc',.string q'.name,.string q'.sort,.slice Pn q'.kids.length Po] 146)).heap[nbk]?=some (.cells #[.string p'.name,.string p'.sort,.slice pa' p'.kids.length pc',.string q'.name,.string q'.sort,.slice Pn q'.kids.length Po] 146 (0,0))):=ae (by rw[<-UH];exact HBK.out);obtain⟨x0,x1,x2,x3,x4,x5⟩:=eG ag'.out;obtain⟨y0,y1,y2,y3,y4,y5⟩:=eG ahg.out;rcases hpk with⟨t1,t2,t5,t6⟩|⟨t1,t2,t3,t5,t6,t4⟩
          all_goals
           go_upto_region 24 with fail
           try rw[UH]
           clear t1 t2 t5 t6
           try clear t3 t4
           generalize wr.alloc (.cells #[.string p'.name,.string p'.sort,.slice pa' p'.kids.length pc',.string q'.name,.string q'.sort,.slice Pn q'.kids.length Po] 146)=w5 at*;clear UH r0 r1 r2 r3 r4 r5
           go_wp2_with fail
           refine UG.out.mono ?_;rintro e w6 ⟨hov,hw6⟩;have eQ:=ae (Bg.out.trans hw6);have ZG:=ae (ZE.out.ext hw6);clear x0 x1 x2 x3 x4 x5 y0 y1 y2 y3 y4 y5;cases oo with
           |none=>
            obtain rfl:=hov;have hX:=(uR w6).alloc (.cells #[.string ⟨#[]⟩,.string ⟨#[]⟩,.slice none 0 0,.string ⟨#[]⟩,.string ⟨#[]⟩,.slice none 0 0,.string ⟨#[]⟩,.string ⟨#[]⟩,.slice none 0 0,.int .i64 0,.int .i64 0,.slice none 0 0] 152);have jg:=ae (eQ.out.trans hX);have am7:=ae (ZG.out.ext hX);have hz2:(IX ov i p (n- (k+1)) (k+1) acc).bind Kj=some Z:=by
             have h:=UF.out;unfold Xh at h;rw[if_neg yK.out,yD.out] at h;exact h
            have HZ2:=ae hz2;clear hX hz2 hw6
            go_wp2_with fail
            go_roundg (n- (k+1))
            case measure=>omega
            case rel=>exact⟨k+1,acc,by go_num,rfl,by omega,am7,HZ2,jg⟩
           |some r=>
            obtain⟨ka,kc,za,zc,ra,rc,rfl,htk,htl,htr⟩:=hov;cases acc with
            |some c=>
             exfalso;have h:=UF.out;unfold Xh at h;rw[if_neg yK.out,yD.out] at h;cases h
            |none=>
             have hu:_=Value.slice none 0 0:=ZG.out;subst hu;have hz2:(IX ov i p (n- (k+1)) (k+1) (some (r.1,r.2.1,r.2.2,i,k,p))).bind Kj=some Z:=by
              have h:=UF.out;unfold Xh at h;rw[if_neg yK.out,yD.out] at h;exact h
             have HZ2:=ae hz2;have ZH:=ae ((az.kept HPK.out hw6 (fun _ _ h=>h)).weaken (fun j hj=>(ay hj hw6.size:j<w6.heap.size)));have mF:=ae htk;have cO:=ae htl;have rV:=ae htr;clear hz2 htk htl htr hw6 ag' HBK ahg ZE oW yP aha ahb HPK UG FC Bg HXK ag7;obtain⟨nb7,Pq⟩: ∃m,w6.heap.size=m:=⟨_,rfl⟩
             rw[Pq] at ZH mF cO rV;have hX:=(uR w6).alloc (.cells #[.string r.1.name,.string r.1.sort,.slice ka r.1.kids.length kc,.string r.2.1.name,.string r.2.1.sort,.slice za r.2.1.kids.length zc,.string r.2.2.name,.string r.2.2.sort,.slice ra r.2.2.kids.length rc,.int .i64 (i:Int),.int .i64 (k:Int),.slice va p.length vc] 152);have bV:=ae (eQ.out.trans hX);have am8:=ae (az.kept ZH.out hX (fun _ _ h=>h));have UD:=ae (mF.out.ext hX);have am9:=ae (cO.out.ext hX);have am_:=ae (rV.out.ext hX);have hb7:=ai w6 (.cells #[.string r.1.name,.string r.1.sort,.slice ka r.1.kids.length kc,.string r.2.1.name,.string r.2.1.sort,.slice za r.2.1.kids.length zc,.string r.2.2.name,.string r.2.2.sort,.slice ra r.2.2.kids.length rc,.int .i64 0,.int .i64 0,.slice va p.length vc] 152);rw[Pq] at hb7;have hb8:=ai w6 (.cells #[.string r.1.name,.string r.1.sort,.slice ka r.1.kids.length kc,.string r.2.1.name,.string r.2.1.sort,.slice za r.2.1.kids.length zc,.string r.2.2.name,.string r.2.2.sort,.slice ra r.2.2.kids.length rc,.int .i64 (i:Int),.int .i64 (k:Int),.slice va p.length vc] 152);rw[Pq] at hb8;have kE:=ae hb8;clear hX eQ ZH mF cO rV ZG hb8;obtain⟨c0,c1,c2,c3,c4,c5,c6,c7,c8,c9,c10,c11⟩:=iY hb7;have f2:=fun i=>au hb7 i
             go_upto_region 29 with fail
             try rw[Pq]
             clear Pq hb7 c0 c1 c2 c3 c4 c5 c6 c7 c8 c9 c10 c11 f2;generalize w6.alloc (.cells #[.string r.1.name,.string r.1.sort,.slice ka r.1.kids.length kc,.string r.2.1.name,.string r.2.1.sort,.slice za r.2.1.kids.length zc,.string r.2.2.name,.string r.2.2.sort,.slice ra r.2.2.kids.length rc,.int .i64 (i:Int),.int .i64 (k:Int),.slice va p.length vc] 152)=w8 at*;have hb8:=kE.out;have hA9:=(uR w8).alloc (.cells #[.string r.1.name,.string r.1.sort,.slice ka r.1.kids.length kc,.string r.2.1.name,.string r.2.1.sort,.slice za r.2.1.kids.length zc,.string r.2.2.name,.string r.2.2.sort,.slice ra r.2.2.kids.length rc,.int .i64 (i:Int),.int .i64 (k:Int),.slice va p.length vc] 152);have UI:Hid (nb7<w8.heap.size):=ae (Array.getElem?_eq_some_iff.1 hb8).1;have am':Hid (w.heap.size<=(w8.alloc (.cells #[.string r.1.name,.string r.1.sort,.slice ka r.1.kids.length kc,.string r.2.1.name,.string r.2.1.sort,.slice za r.2.1.kids.length zc,.string r.2.2.name,.string r.2.2.sort,.slice ra r.2.2.kids.length rc,.int .i64 (i:Int),.int .i64 (k:Int),.slice va p.length vc] 152)).heap.size):=ae (Nat.le_trans kG.out.size (Nat.le_trans ZC.out.size (Nat.le_trans bV.out.size hA9.size)));have FK:Hid (az (fun _=>True) (w8.alloc (.cells #[.string r.1.name,.string r.1.sort,.slice ka r.1.kids.length kc,.string r.2.1.name,.string r.2.1.sort,.slice za r.2.1.kids.length zc,.string r.2.2.name,.string r.2.2.sort,.slice ra r.2.2.kids.length rc,.int .i64 (i:Int),.int .i64 (k:Int),.slice va p.length vc] 152)) 12 (.slice (some ⟨w8.heap.size,0,none⟩) 1 1) 1 [Value.string r.1.name,.string r.1.sort,.slice ka r.1.kids.length kc,.string r.2.1.name,.string r.2.1.sort,.slice za r.2.1.kids.length zc,.string r.2.2.name,.string r.2.2.sort,.slice ra r.2.2.kids.length rc,.int .i64 (i:Int),.int .i64 (k:Int),.slice va p.length vc]):=ae (az.weaken (az.iV (World.ownsRow_lit (base:=w8.heap.size) (e:=152) (size:=12) w8 #[.string r.1.name,.string r.1.sort,.slice ka r.1.kids.length kc,.string r.2.1.name,.string r.2.1.sort,.slice za r.2.1.kids.length zc,.string r.2.2.name,.string r.2.2.sort,.slice ra r.2.2.kids.length rc,.int .i64 (i:Int),.int .i64 (k:Int),.slice va p.length vc] 1 (Nat.le_refl _) (by unfold maxLen;omega) (by simp))) (fun _ _=>trivial));have mW:Hid (∀u∈[Value.string r.1.name,.string r.1.sort,.slice ka r.1.kids.length kc,.string r.2.1.name,.string r.2.1.sort,.slice za r.2.1.kids.length zc,.string r.2.2.name,.string r.2.2.sort,.slice ra r.2.2.kids.length rc,.int .i64 (i:Int),.int .i64 (k:Int),.slice va p.length vc],u.oneCell'=true):=ae (fun u hu=>by simp at hu;rcases hu with h|h|h|h|h|h|h|h|h|h|h|h<;>(subst h;rfl));obtain⟨iC,hi0,hz0,hz1',hz2'⟩:=info_parts agO;obtain⟨c0,c1,c2,c3,c4,c5,c6,c7,c8,c9,c10,c11⟩:=iY hb8;clear kE
             go_wp2_with(at_builtin;refine kC _ rfl (.tmp 105) (.tmp 107) 147 rfl w.heap.size 152 iC (.agg #[.string ⟨#[]⟩,.string ⟨#[]⟩,.slice none 0 0,.string ⟨#[]⟩,.string ⟨#[]⟩,.slice none 0 0,.string ⟨#[]⟩,.string ⟨#[]⟩,.slice none 0 0,.int .i64 0,.int .i64 0,.slice none 0 0]) 12 208 Tryz.underlying147 hi0 hz0 hz1' hz2' rfl (by decide) (.slice none 0 0) 0 [] rfl (World.ownsRow_nil _ _ _ _) (fun _=>True) (.slice (some ⟨w8.heap.size,0,none⟩) 1 1) 1 [Value.string r.1.name,.string r.1.sort,.slice ka r.1.kids.length kc,.string r.2.1.name,.string r.2.1.sort,.slice za r.2.1.kids.length zc,.string r.2.2.name,.string r.2.2.sort,.slice ra r.2.2.kids.length rc,.int .i64 (i:Int),.int .i64 (k:Int),.slice va p.length vc] rfl FK.out mW.out ?c3 ?c4 am'.out ?_)
             case c3=>unfold maxLen;omega
             case c4=>omega
             intro v9 w9 hG9;obtain⟨g9,c9',apg,hv9,_,_⟩:=yh hG9.own (by omega);subst hv9;have hE9:Ext (w8.alloc (.cells #[.string r.1.name,.string r.1.sort,.slice ka r.1.kids.length kc,.string r.2.1.name,.string r.2.1.sort,.slice za r.2.1.kids.length zc,.string r.2.2.name,.string r.2.2.sort,.slice ra r.2.2.kids.length rc,.int .i64 (i:Int),.int .i64 (k:Int),.slice va p.length vc] 152)) w9:=hG9.upd.mono (fun j _ e=>by cases e);have zA:=hA9.trans hE9;have kY:=ae (bV.out.trans zA);have ana:Hid (Em w9 (.slice (some ⟨g9,0,none⟩) (0+1) c9') (some (r.1,r.2.1,r.2.2,i,k,p))):=ae ⟨g9,c9',ka,kc,za,zc,ra,rc,va,vc,rfl,fun j u hj=>by
              have anc:j< (0+1)*12:=(List.getElem?_eq_some_iff.1 hj).1;have h:=World.ownsRow.cellAt hG9.own j anc;exact h.trans hj,(UD.out.ext zA).weaken (fun j hj=>by have:=UI.out;have:=zA.size;omega),(am9.out.ext zA).weaken (fun j hj=>by have:=UI.out;have:=zA.size;omega),(am_.out.ext zA).weaken (fun j hj=>by have:=UI.out;have:=zA.size;omega),(az.kept am8.out zA (fun _ _ h=>h)).weaken (fun j hj=>by have:=UI.out;have:=zA.size;omega)⟩
             clear hb8 hA9 hE9 zA hG9 c0 c1 c2 c3 c4 c5 c6 c7 c8 c9 c10 c11 hi0 hz0 hz1' hz2'
             go_wp2_with fail
             go_roundg (n- (k+1))
             case measure=>omega
             case rel=>exact⟨k+1,some (r.1,r.2.1,r.2.2,i,k,p),by go_num,rfl,by omega,ana,HZ2,kY⟩
        .have z2:decide ((k:Int)< (L2.length:Int))=false:=dF (by have:=HL2.out;omega);have z2':decide (k<L2.length)=false:=dF (by have:=HL2.out;omega);have hz:=Pm.out;rw[show n-k=0 by omega] at hz;unfold IX at hz;have hz:Kj acc=some Z:=hz;rw[<-HKJ.out] at hz;have HZ2:Hid ((IY ov i n (PP.drop (j+1)) acc).bind Ki=some Z):=ae hz;have HE2:=ae (BZ.out.trans FC.out);clear hz Pm
         go_wp2_with fail
         go_roundg (PP.length- (j+1))
         case measure=>omega
         case rel=>exact⟨j+1,acc,by go_num,rfl,by omega,tC,HZ2,HE2⟩
      .have z2:decide ((j:Int)< (PP.length:Int))=false:=dF (by omega);have z2':decide (j<PP.length)=false:=dF (by omega);have hz:=HZJ.out;rw[List.drop_of_length_le (by omega)] at hz;unfold IY at hz;have hz:Ki acc=some Z:=hz;rw[<-HKI.out] at hz;have HZ2:=ae hz;have HE2:=ae (aS.out.trans BZ.out);clear hz HZJ
       go_wp2_with fail
       go_roundg (n- (i+1))
       case measure=>omega
       case rel=>exact⟨i+1,acc,by go_num,rfl,by omega,tC,HZ2,HE2⟩
    .have z2:decide ((i:Int)< (L1.length:Int))=false:=dF (by have:=Ld.out;omega);have z2':decide (i<L1.length)=false:=dF (by have:=Ld.out;omega);have hz:=HZI.out;rw[show n-i=0 by omega] at hz;unfold IZ at hz;injection hz with hz
     subst hz;clear HZI
     go_wp2_with fail
     go_ret2
     exact⟨_,rfl,tC.out,kG.out.trans HE.out⟩
end
section
open Go.Sort Go.Proofs Go.ChangeMaps
theorem UJ (pk lf rt:Tm) (i k:Int) (p:List Int) (ka1 Ls Lt Pv Lu LC LD qa2:Option Addr) (LG LH LJ qc1 LK LP LQ qc2:Nat) (w:World) (h1:aA (fun k=>k<w.heap.size) w pk.kids (.slice ka1 pk.kids.length LG)) (h2:aA (fun k=>k<w.heap.size) w lf.kids (.slice Ls lf.kids.length LH)) (h3:aA (fun k=>k<w.heap.size) w rt.kids (.slice Lt rt.kids.length LJ)) (h4:wQ (fun k=>k<w.heap.size) w (.slice Pv p.length qc1) p) (g1:aA (fun k=>k<w.heap.size) w pk.kids (.slice Lu pk.kids.length LK)) (g2:aA (fun k=>k<w.heap.size) w lf.kids (.slice LC lf.kids.length LP)) (g3:aA (fun k=>k<w.heap.size) w rt.kids (.slice LD rt.kids.length LQ)) (g4:wQ (fun k=>k<w.heap.size) w (.slice qa2 p.length qc2) p) (hs:pk.size<=1000/\lf.size<=1000/\rt.size<=1000/\p.length<=1000):
  Calls Tryz.prog 105 #[.agg #[.string pk.name,.string pk.sort,.slice ka1 pk.kids.length LG,.string lf.name,.string lf.sort,.slice Ls lf.kids.length LH,.string rt.name,.string rt.sort,.slice Lt rt.kids.length LJ,.int .i64 i,.int .i64 k,.slice Pv p.length qc1],.agg #[.string pk.name,.string pk.sort,.slice Lu pk.kids.length LK,.string lf.name,.string lf.sort,.slice LC lf.kids.length LP,.string rt.name,.string rt.sort,.slice LD rt.kids.length LQ,.int .i64 i,.int .i64 k,.slice qa2 p.length qc2]] w fun e w'=>e= .returned (.bool true)/\Ext w w':=by
 have mG:=ae (fun W (hW:Ext w W)=>zM pk pk (tV pk (.slice ka1 pk.kids.length LG)) (tV pk (.slice Lu pk.kids.length LK)) _ _ W ⟨ka1,LG,rfl,h1.ext hW⟩ ⟨Lu,LK,rfl,g1.ext hW⟩ (by omega));have HS2:=ae (fun W (hW:Ext w W)=>zM lf lf (tV lf (.slice Ls lf.kids.length LH)) (tV lf (.slice LC lf.kids.length LP)) _ _ W ⟨Ls,LH,rfl,h2.ext hW⟩ ⟨LC,LP,rfl,g2.ext hW⟩ (by omega));have gV:=ae (fun W (hW:Ext w W)=>zM rt rt (tV rt (.slice Lt rt.kids.length LJ)) (tV rt (.slice LD rt.kids.length LQ)) _ _ W ⟨Lt,LJ,rfl,h3.ext hW⟩ ⟨LD,LQ,rfl,g3.ext hW⟩ (by omega));have gQ:=ae (fun W (hW:Ext w W)=>afX p p (.slice Pv p.length qc1) (.slice qa2 p.length qc2) _ _ W (az.kept h4 hW (fun _ _ h=>h)) (az.kept g4 hW (fun _ _ h=>h)) (by omega));have hE:=((uR w).alloc (.cells #[.string pk.name,.string pk.sort,.slice ka1 pk.kids.length LG,.string lf.name,.string lf.sort,.slice Ls lf.kids.length LH,.string rt.name,.string rt.sort,.slice Lt rt.kids.length LJ,.int .i64 i,.int .i64 k,.slice Pv p.length qc1] 152)).alloc (.cells #[.string pk.name,.string pk.sort,.slice Lu pk.kids.length LK,.string lf.name,.string lf.sort,.slice LC lf.kids.length LP,.string rt.name,.string rt.sort,.slice LD rt.kids.length LQ,.int .i64 i,.int .i64 k,.slice qa2 p.length qc2] 152);have oq:=ae hE;have HA1:=ae (ak (ai w (.cells #[.string pk.name,.string pk.sort,.slice ka1 pk.kids.length LG,.string lf.name,.string lf.sort,.slice Ls lf.kids.length LH,.string rt.name,.string rt.sort,.slice Lt rt.kids.length LJ,.int .i64 i,.int .i64 k,.slice Pv p.length qc1] 152)) (.cells #[.string pk.name,.string pk.sort,.slice Lu pk.kids.length LK,.string lf.name,.string lf.sort,.slice LC lf.kids.length LP,.string rt.name,.string rt.sort,.slice LD rt.kids.length LQ,.int .i64 i,.int .i64 k,.slice qa2 p.length qc2] 152));have HB1:=ae (alloc_at (w.alloc (.cells #[.string pk.name,.string pk.sort,.slice ka1 pk.kids.length LG,.string lf.name,.string lf.sort,.slice Ls lf.kids.length LH,.string rt.name,.string rt.sort,.slice Lt rt.kids.length LJ,.int .i64 i,.int .i64 k,.slice Pv p.length qc1] 152)) (.cells #[.string pk.name,.string pk.sort,.slice Lu pk.kids.length LK,.string lf.name,.string lf.sort,.slice LC lf.kids.length LP,.string rt.name,.string rt.sort,.slice LD rt.kids.length LQ,.int .i64 i,.int .i64 k,.slice qa2 p.length qc2] 152) (n:=w.heap.size+1) (by simp));dsimp only[tV] at mG HS2 gV;have t1:(i==i)=true:=beq_self_eq_true _;have t2:decide (i=i)=true:=dT rfl;have t3:(k==k)=true:=beq_self_eq_true _;have t4:decide (k=k)=true:=dT rfl;clear hE h1 h2 h3 h4 g1 g2 g3 g4 hs;obtain⟨x0,x1,x2,x3,x4,x5,x6,x7,x8,x9,x10,x11⟩:=iY HA1.out;obtain⟨y0,y1,y2,y3,y4,y5,y6,y7,y8,y9,Sl,Sm⟩:=iY HB1.out
 go_enter Tryz.func105,Tryz.ntmps105
 go_wp2_with fail
 generalize (w.alloc (.cells #[.string pk.name,.string pk.sort,.slice ka1 pk.kids.length LG,.string lf.name,.string lf.sort,.slice Ls lf.kids.length LH,.string rt.name,.string rt.sort,.slice Lt rt.kids.length LJ,.int .i64 i,.int .i64 k,.slice Pv p.length qc1] 152)).alloc (.cells #[.string pk.name,.string pk.sort,.slice Lu pk.kids.length LK,.string lf.name,.string lf.sort,.slice LC lf.kids.length LP,.string rt.name,.string rt.sort,.slice LD rt.kids.length LQ,.int .i64 i,.int .i64 k,.slice qa2 p.length qc2] 152)=w1 at*;refine(mG.out _ oq.out).mono ?_;rintro e w2 ⟨he,hw⟩;obtain rfl:e= .returned (.bool true):=by simpa using he
 have HE2:=ae (oq.out.trans hw);have HA2:=ae (hw.heap HA1.out (fun h=>h));have HB2:=ae (hw.heap HB1.out (fun h=>h));clear hw mG oq HA1 HB1 x0 y0 x1 y1 x2 y2 x3 y3 x4 y4 x5 y5 x6 y6 x7 y7 x8 y8 x9 y9 x10 Sl x11 Sm;obtain⟨x0,x1,x2,x3,x4,x5,x6,x7,x8,x9,x10,x11⟩:=iY HA2.out;obtain⟨y0,y1,y2,y3,y4,y5,y6,y7,y8,y9,Sl,Sm⟩:=iY HB2.out
 go_wp2_with fail
 refine(HS2.out _ HE2.out).mono ?_;rintro e w3 ⟨he,hw⟩;obtain rfl:e= .returned (.bool true):=by simpa using he
 have aS:=ae (HE2.out.trans hw);have HA3:=ae (hw.heap HA2.out (fun h=>h));have HB3:=ae (hw.heap HB2.out (fun h=>h));clear hw HS2 HE2 HA2 HB2 x0 y0 x1 y1 x2 y2 x3 y3 x4 y4 x5 y5 x6 y6 x7 y7 x8 y8 x9 y9 x10 Sl x11 Sm;obtain⟨x0,x1,x2,x3,x4,x5,x6,x7,x8,x9,x10,x11⟩:=iY HA3.out;obtain⟨y0,y1,y2,y3,y4,y5,y6,y7,y8,y9,Sl,Sm⟩:=iY HB3.out
 go_wp2_with fail
 refine(gV.out _ aS.out).mono ?_;rintro e w4 ⟨he,hw⟩;obtain rfl:e= .returned (.bool true):=by simpa using he
 have bQ:=ae (aS.out.trans hw);have HA4:=ae (hw.heap HA3.out (fun h=>h));have HB4:=ae (hw.heap HB3.out (fun h=>h));clear hw gV aS HA3 HB3 x0 y0 x1 y1 x2 y2 x3 y3 x4 y4 x5 y5 x6 y6 x7 y7 x8 y8 x9 y9 x10 Sl x11 Sm;obtain⟨x0,x1,x2,x3,x4,x5,x6,x7,x8,x9,x10,x11⟩:=iY HA4.out;obtain⟨y0,y1,y2,y3,y4,y5,y6,y7,y8,y9,Sl,Sm⟩:=iY HB4.out
 go_wp2_with fail
 refine(gQ.out _ bQ.out).mono ?_;rintro e w5 ⟨he,hw⟩;obtain rfl:e= .returned (.bool true):=by simpa using he
 have dX:=ae (bQ.out.trans hw)
 go_wp2_with fail
 go_ret;exact⟨rfl,dX.out⟩
theorem kM (n:By) (a:Option Addr) (m c:Nat) (w:World):Calls Tryz.prog 102 #[.string n,.slice a m c] w fun e w'=>e= .returned (.agg #[.string n,.string ⟨#[]⟩,.slice a m c])/\Ext w w':=by
 have hb:=ai w (.cells #[.string n,.string ⟨#[]⟩,.slice a m c] 24);have hE:=(uR w).alloc (.cells #[.string n,.string ⟨#[]⟩,.slice a m c] 24)
 go_enter Tryz.func102,Tryz.ntmps102
 go_wp2_with fail
 obtain⟨e0,e1,e2⟩:=ag hb;exact bodyPost_ret (v:= .agg #[.string n,.string ⟨#[]⟩,.slice a m c]) (by simp[results,Tryz.results102,go_sem,e0,e1,e2]) rfl ⟨rfl,hE⟩
theorem EJ (n:By) (w:World):Calls Tryz.prog 103 #[.string n] w fun e w'=>e= .returned (.agg #[.string n,.string ⟨#[110,97,116]⟩,.slice none 0 0])/\Ext w w':=by
 have hb:=ai w (.cells #[.string n,.string ⟨#[110,97,116]⟩,.slice none 0 0] 24);have hE:=(uR w).alloc (.cells #[.string n,.string ⟨#[110,97,116]⟩,.slice none 0 0] 24)
 go_enter Tryz.func103,Tryz.ntmps103
 go_wp2_with fail
 obtain⟨e0,e1,e2⟩:=ag hb;exact bodyPost_ret (v:= .agg #[.string n,.string ⟨#[110,97,116]⟩,.slice none 0 0]) (by simp[results,Tryz.results103,go_sem,e0,e1,e2]) rfl ⟨rfl,hE⟩
theorem jH {S:Nat->Prop} {W:World} {n te:Nat} {fz:Nat×Nat} {a:Tm} {ua:Value} (h:W.heap[n]?=some (.cells #[.string a.name,.string a.sort,ua] te fz)) (hn:S n) (ha:aA S W a.kids ua):aA S W [a] (.slice (some ⟨n,0,none⟩) 1 1):=by
 refine .mk _ [ua] _ rfl ?_ (fun i hi=>?_)
 .refine az.mk' rfl rfl (Nat.le_refl _) (fun _=>hn) (fun j hj=>?_);have hj3:j<3:=hj;rw[Nat.zero_add,cell_of_row W n j _ _ _ h];rcases(by omega:j=0\/j=1\/j=2) with rfl|rfl|rfl<;>rfl
 .obtain rfl:i=0:=by simpa using hi
  exact ha
theorem xu {S:Nat->Prop} {W:World} {n te:Nat} {fz:Nat×Nat} {a b:Tm} {ua ub:Value} (h:W.heap[n]?=some (.cells #[.string a.name,.string a.sort,ua,.string b.name,.string b.sort,ub] te fz)) (hn:S n) (ha:aA S W a.kids ua) (hb:aA S W b.kids ub):aA S W [a,b] (.slice (some ⟨n,0,none⟩) 2 2):=by
 refine .mk _ [ua,ub] _ rfl ?_ (fun i hi=>?_)
 .refine az.mk' rfl rfl (Nat.le_refl _) (fun _=>hn) (fun j hj=>?_);have hj3:j<6:=hj;rw[Nat.zero_add,cell_of_row W n j _ _ _ h];rcases(by omega:j=0\/j=1\/j=2\/j=3\/j=4\/j=5) with rfl|rfl|rfl|rfl|rfl|rfl<;>rfl
 .have hi2:i<2:=hi;rcases(by omega:i=0\/i=1) with rfl|rfl
  .exact ha
  .exact hb
theorem ac4 {S:Nat->Prop} {W:World} {n te:Nat} {fz:Nat×Nat} {a b c d:Tm} {ua ub uc ud:Value} (h:W.heap[n]?=some (.cells #[.string a.name,.string a.sort,ua,.string b.name,.string b.sort,ub,.string c.name,.string c.sort,uc,.string d.name,.string d.sort,ud] te fz)) (hn:S n) (ha:aA S W a.kids ua) (hb:aA S W b.kids ub) (hc:aA S W c.kids uc) (hd:aA S W d.kids ud):aA S W [a,b,c,d] (.slice (some ⟨n,0,none⟩) 4 4):=by
 refine .mk _ [ua,ub,uc,ud] _ rfl ?_ (fun i hi=>?_)
 .refine az.mk' rfl rfl (Nat.le_refl _) (fun _=>hn) (fun j hj=>?_);have hj3:j<12:=hj;rw[Nat.zero_add,cell_of_row W n j _ _ _ h];rcases(by omega:j=0\/j=1\/j=2\/j=3\/j=4\/j=5\/j=6\/j=7\/j=8\/j=9\/j=10\/j=11) with rfl|rfl|rfl|rfl|rfl|rfl|rfl|rfl|rfl|rfl|rfl|rfl<;>rfl
 .have hi2:i<4:=hi;rcases(by omega:i=0\/i=1\/i=2\/i=3) with rfl|rfl|rfl|rfl
  .exact ha
  .exact hb
  .exact hc
  .exact hd
abbrev lL:List Rl:=[((.mk ⟨#[112,108,117,115]⟩ ah [(.mk ⟨#[122,101,114,111]⟩ ah []),(.mk ⟨#[78]⟩ ⟨#[110,97,116]⟩ [])]),(.mk ⟨#[78]⟩ ⟨#[110,97,116]⟩ [])),((.mk ⟨#[112,108,117,115]⟩ ah [(.mk ⟨#[115]⟩ ah [(.mk ⟨#[78]⟩ ⟨#[110,97,116]⟩ [])]),(.mk ⟨#[77]⟩ ⟨#[110,97,116]⟩ [])]),(.mk ⟨#[115]⟩ ah [(.mk ⟨#[112,108,117,115]⟩ ah [(.mk ⟨#[78]⟩ ⟨#[110,97,116]⟩ []),(.mk ⟨#[77]⟩ ⟨#[110,97,116]⟩ [])])]))]
abbrev I5:List Rl:=[((.mk ⟨#[112,108,117,115]⟩ ah [(.mk ⟨#[122,101,114,111]⟩ ah []),(.mk ⟨#[78,95,49]⟩ ⟨#[110,97,116]⟩ [])]),(.mk ⟨#[78,95,49]⟩ ⟨#[110,97,116]⟩ [])),((.mk ⟨#[112,108,117,115]⟩ ah [(.mk ⟨#[115]⟩ ah [(.mk ⟨#[78,95,49]⟩ ⟨#[110,97,116]⟩ [])]),(.mk ⟨#[77,95,49]⟩ ⟨#[110,97,116]⟩ [])]),(.mk ⟨#[115]⟩ ah [(.mk ⟨#[112,108,117,115]⟩ ah [(.mk ⟨#[78,95,49]⟩ ⟨#[110,97,116]⟩ []),(.mk ⟨#[77,95,49]⟩ ⟨#[110,97,116]⟩ [])])]))]
abbrev UK:List Rl:=[((.mk ⟨#[112,108,117,115]⟩ ah [(.mk ⟨#[122,101,114,111]⟩ ah []),(.mk ⟨#[78,95,50]⟩ ⟨#[110,97,116]⟩ [])]),(.mk ⟨#[78,95,50]⟩ ⟨#[110,97,116]⟩ [])),((.mk ⟨#[112,108,117,115]⟩ ah [(.mk ⟨#[115]⟩ ah [(.mk ⟨#[78,95,50]⟩ ⟨#[110,97,116]⟩ [])]),(.mk ⟨#[77,95,50]⟩ ⟨#[110,97,116]⟩ [])]),(.mk ⟨#[115]⟩ ah [(.mk ⟨#[112,108,117,115]⟩ ah [(.mk ⟨#[78,95,50]⟩ ⟨#[110,97,116]⟩ []),(.mk ⟨#[77,95,50]⟩ ⟨#[110,97,116]⟩ [])])]))]
abbrev Px:List Rl:=[((.mk ⟨#[102]⟩ ah [(.mk ⟨#[102]⟩ ah [(.mk ⟨#[88]⟩ ⟨#[97]⟩ [])])]),(.mk ⟨#[103]⟩ ah [(.mk ⟨#[88]⟩ ⟨#[97]⟩ [])]))]
abbrev ffF:List Rl:=[((.mk ⟨#[102]⟩ ah [(.mk ⟨#[102]⟩ ah [(.mk ⟨#[88,95,49]⟩ ⟨#[97]⟩ [])])]),(.mk ⟨#[103]⟩ ah [(.mk ⟨#[88,95,49]⟩ ⟨#[97]⟩ [])]))]
abbrev ffS:List Rl:=[((.mk ⟨#[102]⟩ ah [(.mk ⟨#[102]⟩ ah [(.mk ⟨#[88,95,50]⟩ ⟨#[97]⟩ [])])]),(.mk ⟨#[103]⟩ ah [(.mk ⟨#[88,95,50]⟩ ⟨#[97]⟩ [])]))]
abbrev Py:Tm:=(.mk ⟨#[115]⟩ ah [(.mk ⟨#[122,101,114,111]⟩ ah [])])
abbrev sumT:Tm:=(.mk ⟨#[112,108,117,115]⟩ ah [(.mk ⟨#[115]⟩ ah [(.mk ⟨#[122,101,114,111]⟩ ah [])]),(.mk ⟨#[122,101,114,111]⟩ ah [])])
abbrev I7:Tm:=(.mk ⟨#[102]⟩ ah [(.mk ⟨#[102]⟩ ah [(.mk ⟨#[102]⟩ ah [(.mk ⟨#[88,95,50]⟩ ⟨#[97]⟩ [])])])])
abbrev I8:Tm:=(.mk ⟨#[102]⟩ ah [(.mk ⟨#[103]⟩ ah [(.mk ⟨#[88,95,50]⟩ ⟨#[97]⟩ [])])])
abbrev I9:Tm:=(.mk ⟨#[103]⟩ ah [(.mk ⟨#[102]⟩ ah [(.mk ⟨#[88,95,50]⟩ ⟨#[97]⟩ [])])])
theorem UL:bY lL=true:=by decide+kernel
theorem ZI:bY Px=true:=by decide+kernel
theorem Xl:((stepG lL sumT).2==((1,[]),0))=true:=by decide+kernel
theorem ZJ:((l_ lL sumT 9).1==Py&&(l_ lL sumT 9).2.1.length==2&&(l_ lL sumT 9).2.2==0)=true:=by decide+kernel
theorem Pz:iK (Go.Hw.rg I5 0).1 []=[[],[0]]/\iK (Go.Hw.rg I5 1).1 []=[[],[0]]/\iK (Go.Hw.rg ffF 0).1 []=[[],[0]]:=by decide+kernel
theorem ZK: ∀i,i<2->qw ⟨#[95,49]⟩ (Go.Hw.rg lL i).1=((Go.Hw.rg I5 i).1,0)/\qw ⟨#[95,49]⟩ (Go.Hw.rg lL i).2=((Go.Hw.rg I5 i).2,0)/\qw ⟨#[95,50]⟩ (Go.Hw.rg lL i).1=((Go.Hw.rg UK i).1,0)/\qw ⟨#[95,50]⟩ (Go.Hw.rg lL i).2=((Go.Hw.rg UK i).2,0):=fun i hi=>by
 rcases(by omega:i=0\/i=1) with rfl|rfl<;>exact⟨by decide+kernel,by decide+kernel,by decide+kernel,by decide+kernel⟩
theorem ahl: ∀i,i<1->qw ⟨#[95,49]⟩ (Go.Hw.rg Px i).1=((Go.Hw.rg ffF i).1,0)/\qw ⟨#[95,49]⟩ (Go.Hw.rg Px i).2=((Go.Hw.rg ffF i).2,0)/\qw ⟨#[95,50]⟩ (Go.Hw.rg Px i).1=((Go.Hw.rg ffS i).1,0)/\qw ⟨#[95,50]⟩ (Go.Hw.rg Px i).2=((Go.Hw.rg ffS i).2,0):=fun i hi=>by
 obtain rfl:i=0:=by omega
 exact⟨by decide+kernel,by decide+kernel,by decide+kernel,by decide+kernel⟩
theorem ahm:IW ((.mk ⟨#[112,108,117,115]⟩ ah [(.mk ⟨#[122,101,114,111]⟩ ah []),(.mk ⟨#[78,95,49]⟩ ⟨#[110,97,116]⟩ [])]),(.mk ⟨#[78,95,49]⟩ ⟨#[110,97,116]⟩ [])) ((.mk ⟨#[112,108,117,115]⟩ ah [(.mk ⟨#[115]⟩ ah [(.mk ⟨#[78,95,50]⟩ ⟨#[110,97,116]⟩ [])]),(.mk ⟨#[77,95,50]⟩ ⟨#[110,97,116]⟩ [])]),(.mk ⟨#[115]⟩ ah [(.mk ⟨#[112,108,117,115]⟩ ah [(.mk ⟨#[78,95,50]⟩ ⟨#[110,97,116]⟩ []),(.mk ⟨#[77,95,50]⟩ ⟨#[110,97,116]⟩ [])])])) [] none:=fun xa ya pa qa xc yc pc qc pv B2 W htab hx hy hp hB2 hq hpv=>
 Ej (.mk ⟨#[112,108,117,115]⟩ ah [(.mk ⟨#[122,101,114,111]⟩ ah []),(.mk ⟨#[78,95,49]⟩ ⟨#[110,97,116]⟩ [])]) (.mk ⟨#[78,95,49]⟩ ⟨#[110,97,116]⟩ []) (.mk ⟨#[112,108,117,115]⟩ ah [(.mk ⟨#[115]⟩ ah [(.mk ⟨#[78,95,50]⟩ ⟨#[110,97,116]⟩ [])]),(.mk ⟨#[77,95,50]⟩ ⟨#[110,97,116]⟩ [])]) (.mk ⟨#[115]⟩ ah [(.mk ⟨#[112,108,117,115]⟩ ah [(.mk ⟨#[78,95,50]⟩ ⟨#[110,97,116]⟩ []),(.mk ⟨#[77,95,50]⟩ ⟨#[110,97,116]⟩ [])])]) zi xa ya pa qa xc yc pc qc _ pv B2 W htab hx hy hp hB2 hq hpv (by decide) (by decide) (by decide) (by decide) (by decide+kernel) (fun W' hW B1 BX va vb h1 h2 hd l1 l2 ht=>ai2 W' ht B1 BX va vb h1 h2 hd l1 l2)
theorem ahn:IW ((.mk ⟨#[112,108,117,115]⟩ ah [(.mk ⟨#[122,101,114,111]⟩ ah []),(.mk ⟨#[78,95,49]⟩ ⟨#[110,97,116]⟩ [])]),(.mk ⟨#[78,95,49]⟩ ⟨#[110,97,116]⟩ [])) ((.mk ⟨#[112,108,117,115]⟩ ah [(.mk ⟨#[122,101,114,111]⟩ ah []),(.mk ⟨#[78,95,50]⟩ ⟨#[110,97,116]⟩ [])]),(.mk ⟨#[78,95,50]⟩ ⟨#[110,97,116]⟩ [])) [0] none:=fun xa ya pa qa xc yc pc qc pv B2 W htab hx hy hp hB2 hq hpv=>
 Ej (.mk ⟨#[112,108,117,115]⟩ ah [(.mk ⟨#[122,101,114,111]⟩ ah []),(.mk ⟨#[78,95,49]⟩ ⟨#[110,97,116]⟩ [])]) (.mk ⟨#[78,95,49]⟩ ⟨#[110,97,116]⟩ []) (.mk ⟨#[112,108,117,115]⟩ ah [(.mk ⟨#[122,101,114,111]⟩ ah []),(.mk ⟨#[78,95,50]⟩ ⟨#[110,97,116]⟩ [])]) (.mk ⟨#[78,95,50]⟩ ⟨#[110,97,116]⟩ []) Ee xa ya pa qa xc yc pc qc _ pv B2 W htab hx hy hp hB2 hq hpv (by decide) (by decide) (by decide) (by decide) (by decide+kernel) (fun W' hW B1 BX va vb h1 h2 hd l1 l2 ht=>ai4 W' ht B1 BX va vb h1 h2 hd l1 l2)
theorem aho:IW ((.mk ⟨#[112,108,117,115]⟩ ah [(.mk ⟨#[122,101,114,111]⟩ ah []),(.mk ⟨#[78,95,49]⟩ ⟨#[110,97,116]⟩ [])]),(.mk ⟨#[78,95,49]⟩ ⟨#[110,97,116]⟩ [])) ((.mk ⟨#[112,108,117,115]⟩ ah [(.mk ⟨#[115]⟩ ah [(.mk ⟨#[78,95,50]⟩ ⟨#[110,97,116]⟩ [])]),(.mk ⟨#[77,95,50]⟩ ⟨#[110,97,116]⟩ [])]),(.mk ⟨#[115]⟩ ah [(.mk ⟨#[112,108,117,115]⟩ ah [(.mk ⟨#[78,95,50]⟩ ⟨#[110,97,116]⟩ []),(.mk ⟨#[77,95,50]⟩ ⟨#[110,97,116]⟩ [])])])) [0] none:=fun xa ya pa qa xc yc pc qc pv B2 W htab hx hy hp hB2 hq hpv=>
 Ej (.mk ⟨#[112,108,117,115]⟩ ah [(.mk ⟨#[122,101,114,111]⟩ ah []),(.mk ⟨#[78,95,49]⟩ ⟨#[110,97,116]⟩ [])]) (.mk ⟨#[78,95,49]⟩ ⟨#[110,97,116]⟩ []) (.mk ⟨#[112,108,117,115]⟩ ah [(.mk ⟨#[115]⟩ ah [(.mk ⟨#[78,95,50]⟩ ⟨#[110,97,116]⟩ [])]),(.mk ⟨#[77,95,50]⟩ ⟨#[110,97,116]⟩ [])]) (.mk ⟨#[115]⟩ ah [(.mk ⟨#[112,108,117,115]⟩ ah [(.mk ⟨#[78,95,50]⟩ ⟨#[110,97,116]⟩ []),(.mk ⟨#[77,95,50]⟩ ⟨#[110,97,116]⟩ [])])]) Ef xa ya pa qa xc yc pc qc _ pv B2 W htab hx hy hp hB2 hq hpv (by decide) (by decide) (by decide) (by decide) (by decide+kernel) (fun W' hW B1 BX va vb h1 h2 hd l1 l2 ht=>ai6 W' ht B1 BX va vb h1 h2 hd l1 l2)
theorem ahp:IW ((.mk ⟨#[112,108,117,115]⟩ ah [(.mk ⟨#[115]⟩ ah [(.mk ⟨#[78,95,49]⟩ ⟨#[110,97,116]⟩ [])]),(.mk ⟨#[77,95,49]⟩ ⟨#[110,97,116]⟩ [])]),(.mk ⟨#[115]⟩ ah [(.mk ⟨#[112,108,117,115]⟩ ah [(.mk ⟨#[78,95,49]⟩ ⟨#[110,97,116]⟩ []),(.mk ⟨#[77,95,49]⟩ ⟨#[110,97,116]⟩ [])])])) ((.mk ⟨#[112,108,117,115]⟩ ah [(.mk ⟨#[122,101,114,111]⟩ ah []),(.mk ⟨#[78,95,50]⟩ ⟨#[110,97,116]⟩ [])]),(.mk ⟨#[78,95,50]⟩ ⟨#[110,97,116]⟩ [])) [0] none:=fun xa ya pa qa xc yc pc qc pv B2 W htab hx hy hp hB2 hq hpv=>
 Ej (.mk ⟨#[112,108,117,115]⟩ ah [(.mk ⟨#[115]⟩ ah [(.mk ⟨#[78,95,49]⟩ ⟨#[110,97,116]⟩ [])]),(.mk ⟨#[77,95,49]⟩ ⟨#[110,97,116]⟩ [])]) (.mk ⟨#[115]⟩ ah [(.mk ⟨#[112,108,117,115]⟩ ah [(.mk ⟨#[78,95,49]⟩ ⟨#[110,97,116]⟩ []),(.mk ⟨#[77,95,49]⟩ ⟨#[110,97,116]⟩ [])])]) (.mk ⟨#[112,108,117,115]⟩ ah [(.mk ⟨#[122,101,114,111]⟩ ah []),(.mk ⟨#[78,95,50]⟩ ⟨#[110,97,116]⟩ [])]) (.mk ⟨#[78,95,50]⟩ ⟨#[110,97,116]⟩ []) zt xa ya pa qa xc yc pc qc _ pv B2 W htab hx hy hp hB2 hq hpv (by decide) (by decide) (by decide) (by decide) (by decide+kernel) (fun W' hW B1 BX va vb h1 h2 hd l1 l2 ht=>ai8 W' ht B1 BX va vb h1 h2 hd l1 l2)
theorem ahq:IW ((.mk ⟨#[112,108,117,115]⟩ ah [(.mk ⟨#[115]⟩ ah [(.mk ⟨#[78,95,49]⟩ ⟨#[110,97,116]⟩ [])]),(.mk ⟨#[77,95,49]⟩ ⟨#[110,97,116]⟩ [])]),(.mk ⟨#[115]⟩ ah [(.mk ⟨#[112,108,117,115]⟩ ah [(.mk ⟨#[78,95,49]⟩ ⟨#[110,97,116]⟩ []),(.mk ⟨#[77,95,49]⟩ ⟨#[110,97,116]⟩ [])])])) ((.mk ⟨#[112,108,117,115]⟩ ah [(.mk ⟨#[115]⟩ ah [(.mk ⟨#[78,95,50]⟩ ⟨#[110,97,116]⟩ [])]),(.mk ⟨#[77,95,50]⟩ ⟨#[110,97,116]⟩ [])]),(.mk ⟨#[115]⟩ ah [(.mk ⟨#[112,108,117,115]⟩ ah [(.mk ⟨#[78,95,50]⟩ ⟨#[110,97,116]⟩ []),(.mk ⟨#[77,95,50]⟩ ⟨#[110,97,116]⟩ [])])])) [0] none:=fun xa ya pa qa xc yc pc qc pv B2 W htab hx hy hp hB2 hq hpv=>
 Ej (.mk ⟨#[112,108,117,115]⟩ ah [(.mk ⟨#[115]⟩ ah [(.mk ⟨#[78,95,49]⟩ ⟨#[110,97,116]⟩ [])]),(.mk ⟨#[77,95,49]⟩ ⟨#[110,97,116]⟩ [])]) (.mk ⟨#[115]⟩ ah [(.mk ⟨#[112,108,117,115]⟩ ah [(.mk ⟨#[78,95,49]⟩ ⟨#[110,97,116]⟩ []),(.mk ⟨#[77,95,49]⟩ ⟨#[110,97,116]⟩ [])])]) (.mk ⟨#[112,108,117,115]⟩ ah [(.mk ⟨#[115]⟩ ah [(.mk ⟨#[78,95,50]⟩ ⟨#[110,97,116]⟩ [])]),(.mk ⟨#[77,95,50]⟩ ⟨#[110,97,116]⟩ [])]) (.mk ⟨#[115]⟩ ah [(.mk ⟨#[112,108,117,115]⟩ ah [(.mk ⟨#[78,95,50]⟩ ⟨#[110,97,116]⟩ []),(.mk ⟨#[77,95,50]⟩ ⟨#[110,97,116]⟩ [])])]) zu xa ya pa qa xc yc pc qc _ pv B2 W htab hx hy hp hB2 hq hpv (by decide) (by decide) (by decide) (by decide) (by decide+kernel) (fun W' hW B1 BX va vb h1 h2 hd l1 l2 ht=>ai_ W' ht B1 BX va vb h1 h2 hd l1 l2)
theorem ahr:IW ((.mk ⟨#[102]⟩ ah [(.mk ⟨#[102]⟩ ah [(.mk ⟨#[88,95,49]⟩ ⟨#[97]⟩ [])])]),(.mk ⟨#[103]⟩ ah [(.mk ⟨#[88,95,49]⟩ ⟨#[97]⟩ [])])) ((.mk ⟨#[102]⟩ ah [(.mk ⟨#[102]⟩ ah [(.mk ⟨#[88,95,50]⟩ ⟨#[97]⟩ [])])]),(.mk ⟨#[103]⟩ ah [(.mk ⟨#[88,95,50]⟩ ⟨#[97]⟩ [])])) [0] (some (I7,I8,I9)):=fun xa ya pa qa xc yc pc qc pv B2 W htab hx hy hp hB2 hq hpv=>
 (acZ (.mk ⟨#[102]⟩ ah [(.mk ⟨#[102]⟩ ah [(.mk ⟨#[88,95,49]⟩ ⟨#[97]⟩ [])])]) (.mk ⟨#[103]⟩ ah [(.mk ⟨#[88,95,49]⟩ ⟨#[97]⟩ [])]) (.mk ⟨#[102]⟩ ah [(.mk ⟨#[102]⟩ ah [(.mk ⟨#[88,95,50]⟩ ⟨#[97]⟩ [])])]) (.mk ⟨#[103]⟩ ah [(.mk ⟨#[88,95,50]⟩ ⟨#[97]⟩ [])]) zx xa ya pa qa xc yc pc qc _ pv B2 W htab hx hy hp hB2 hq hpv (by decide) (by decide) (by decide) (by decide) (by decide+kernel) O4 I7 I9 (.mk ⟨#[103]⟩ ah [(.mk ⟨#[88,95,50]⟩ ⟨#[97]⟩ [])]) I8 [0] rfl (by decide+kernel) (by decide+kernel) (by decide+kernel) (by decide+kernel) ⟨by decide,trivial⟩ (by decide) (by decide) (by decide) (by decide) (fun W' hW B1 BX va vb h1 h2 hd l1 l2 ht=>aja W' ht B1 BX va vb h1 h2 hd l1 l2)).mono (by
  rintro e w' ⟨ka,kc,za,zc,ra,rc,rfl,h1,h2,h3,hE⟩;exact⟨⟨ka,kc,za,zc,ra,rc,rfl,h1,h2,h3⟩,hE⟩)
theorem UM (lv:Value) (w:World) (hL:jc (fun k=>k<w.heap.size) w lL lv) (htab:bT w):Calls Tryz.prog 104 #[lv] w fun e w'=>e= .returned (.tuple #[.slice none 0 0,.int .i64 0])/\Ext w w':=by
 refine(Si lL I5 UK (fun _ _ _=>none) none lv w hL htab UL (by decide) (by decide) (by decide+kernel) rfl rfl ZK (by decide) (fun i k p hi hk hp hc=>?_) (by kernel_rfl)).mono ?_
 .have hi2:i<2:=hi;have hk2:k<2:=hk;have h0:=Pz;rcases(by omega:i=0\/i=1) with rfl|rfl
  .rw [h0.1] at hp;simp only[List.mem_cons,List.not_mem_nil,or_false] at hp;rcases hp with rfl|rfl
   .rcases (by omega:k=0\/k=1) with rfl|rfl
    .exact absurd ⟨rfl,Nat.le_refl _⟩ hc
    .exact ahm
   .rcases (by omega:k=0\/k=1) with rfl|rfl
    .exact ahn
    .exact aho
  .rw [h0.2.1] at hp;simp only[List.mem_cons,List.not_mem_nil,or_false] at hp;rcases hp with rfl|rfl
   .exact absurd ⟨rfl,by omega⟩ hc
   .rcases (by omega:k=0\/k=1) with rfl|rfl
    .exact ahp
    .exact ahq
 .rintro e w' ⟨v,rfl,hv,hE⟩;have hv':v= .slice none 0 0:=hv;subst hv';exact⟨rfl,hE⟩
theorem ZL (lv:Value) (w:World) (hL:jc (fun k=>k<w.heap.size) w Px lv) (htab:bT w):Calls Tryz.prog 104 #[lv] w fun e w'=> ∃v,e= .returned (.tuple #[v,.int .i64 0])/\Em w' v (some (I7,I8,I9,0,0,[0]))/\Ext w w':=by
 refine Si Px ffF ffS (fun _ _ _=>some (I7,I8,I9)) (some (I7,I8,I9,0,0,[0])) lv w hL htab ZI (by decide) (by decide) (by decide+kernel) rfl rfl ahl (by decide) (fun i k p hi hk hp hc=>?_) (by kernel_rfl);have hi2:i<1:=hi;have hk2:k<1:=hk;obtain rfl:i=0:=by omega
 obtain rfl:k=0:=by omega
 rw[Pz.2.2] at hp;simp only[List.mem_cons,List.not_mem_nil,or_false] at hp;rcases hp with rfl|rfl
 .exact absurd ⟨rfl,Nat.le_refl _⟩ hc
 .exact ahr
end
end Go.Proofs.YtlkcjmaiahnodaaGreatDoor
