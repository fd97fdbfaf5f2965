/- The texts N6 N7 N9 N10 N11 N12 N13 N14 N15 N16, one behind the other. -/
import Derived.Test.YtlkcjmaiahnodaaGreatDoorEAI
import Derived.Test.YtlkcjmaiahnodaaGreatDoorEAG
import Derived.Test.YtlkcjmaiahnodaaGreatDoorEAH
import Derived.Lib.AppendZeros
import Derived.Lib.SliceRun
import Derived.Test.YtlkcjmaiahnodaaGreatDoorEAD
import Derived.Test.YtlkcjmaiahnodaaGreatDoorEAC
set_option maxRecDepth 100000
set_option maxHeartbeats 8000000
set_option linter.unusedVariables false
set_option linter.unusedSimpArgs false
namespace Go.Proofs.YtlkcjmaiahnodaaGreatDoor
open Go.RowKit Go.Hw Go Tm
theorem aaW {T:List Nr} {ad:Nat->Nat×Nat} {S:Nat->Prop} {bv bn ub:Nat} (hTB: ∀(i:Nat) (r:Nr),T[i]?=some r->r.ks.length<=1000000) (F:Nat): ∀(bk:List Nat) (st st':St) (w:World) (c:Nat) (ok:Bool),Ur T ad S 121 108 bv bn ub bk st w->Fq T F st c=some (st',ok)->
  Calls Tryz.prog 72 #[fH ub,fH (blk bk c)] w fun e w'=>e= .returned (.bool ok)/\∃bk',eH T ad S 121 108 bv bn ub bk bk' st' w w':=by
 induction F with
 |zero=>intro bk st st' w c ok _ h;cases h
 |succ F ih=>
 intro bk st st' w c ok hm hc;have HIH:=ae ih;unfold Fq at hc;cases hx:st.cs[c]? with
 |none=>rw[hx] at hc;cases hc
 |some C=>
 rw[hx] at hc;simp only at hc;have HM:=ae hm;have HX:=ae hx;have hr:=hm.us.row c C hx;have jP:Hid (c<st.cs.length):=ae (List.getElem?_eq_some_iff.1 hx).1;have c3:=af hr 3 (.bool C.mx) rfl;have c5:=af hr 5 (.int .i64 (C.ma:Int)) rfl;have c6:=af hr 6 (.int .i64 (C.sz:Int)) rfl;have c7:=af hr 7 (.int .i64 (C.dp:Int)) rfl;have fc:=fun i=>au hr i;clear ih hm;by_cases m1:C.ma=1
 .rw [if_pos m1] at hc;have z1:((C.ma:Int)==1)=true:=by rw[m1];rfl
  clear hr hx c6 c7 m1
  go_enter Tryz.func72,Tryz.ntmps72
  simp only[Option.some.injEq,Prod.mk.injEq] at hc;obtain⟨rfl,rfl⟩:=hc
  go_wp2_with fail
  go_ret;exact⟨rfl,bk,eH.refl HM.out⟩
 .rw [if_neg m1] at hc;have z1:((C.ma:Int)==1)=false:=by rw[beq_eq_false_iff_ne];omega
  obtain⟨ot,hot⟩: ∃o,C.tm=o:=⟨_,rfl⟩
  obtain⟨D0,hD0⟩: ∃D,D=({C with ma:=1,sz:=1,dp:=1}:Cl):=⟨_,rfl⟩
  obtain⟨D2,hD2⟩: ∃D,D=({C with ma:=2,sz:=1,dp:=1}:Cl):=⟨_,rfl⟩
  rw[<-hD0,<-hD2,hot] at hc;rw[hD0,hD2] at hc;clear hD0 hD2;cases ot with
  |none=>
   simp only at hc;have c4:=af hr 4 (.pointer none) (by show some (pV (Option.map ad C.tm))=_;rw[hot];rfl);by_cases hmx:C.mx=true
   .rw [if_pos hmx] at hc;rw[hmx] at c3;clear hr hx c6 c7 m1 hot hmx
    go_enter Tryz.func72,Tryz.ntmps72
    simp only[Option.some.injEq,Prod.mk.injEq] at hc;obtain⟨rfl,rfl⟩:=hc
    go_wp2_with fail
    go_ret;exact⟨rfl,bk,eH.refl HM.out⟩
   .rw [if_neg hmx] at hc;have Y9:C.mx=false:=by cases h:C.mx with|true=>exact absurd h hmx|false=>rfl
    rw[Y9] at c3;by_cases m2:C.ma=2
    .rw [if_pos m2] at hc;have z2:((C.ma:Int)==2)=true:=by rw[m2];rfl
     clear hr hx c6 c7 m1 hot m2 hmx Y9
     go_enter Tryz.func72,Tryz.ntmps72
     simp only[Option.some.injEq,Prod.mk.injEq] at hc;obtain⟨rfl,rfl⟩:=hc
     go_wp2_with fail
     go_ret;exact⟨rfl,bk,eH.refl HM.out⟩
    .rw [if_neg m2] at hc;have z2:((C.ma:Int)==2)=false:=by rw[beq_eq_false_iff_ne];omega
     simp only[Option.some.injEq,Prod.mk.injEq] at hc;obtain⟨rfl,rfl⟩:=hc;have xW:Hid (eH T ad S 121 108 bv bn ub bk bk (dI st c {C with ma:=1,sz:=1,dp:=1}) w (((w.setCell ⟨blk bk c,5,none⟩ (.int .i64 1)).setCell ⟨blk bk c,6,none⟩ (.int .i64 1)).setCell ⟨blk bk c,7,none⟩ (.int .i64 1))):=ae ((eH.refl HM.out).put jP.out {C with ma:=1,sz:=1,dp:=1} (HM.out.us.uA C (List.mem_of_getElem? HX.out))
      ((((aj.refl (fun k=>k=blk bk c) w).setCell (p:=⟨blk bk c,5,none⟩) (.inl rfl) (.int .i64 1)).setCell (p:=⟨blk bk c,6,none⟩) (.inl rfl) (.int .i64 1)).setCell (p:=⟨blk bk c,7,none⟩) (.inl rfl) (.int .i64 1)) (by
       have:=setBlock (setBlock (setBlock (HM.out.us.row c C HX.out) 5 (.int .i64 1)) 6 (.int .i64 1)) 7 (.int .i64 1);simpa[dA] using this))
     have HL0:=ae (RX st jP.out {C with ma:=1,sz:=1,dp:=1});have tu:Hid (eH T ad S 121 108 bv bn ub bk bk (dI st c {C with ma:=2,sz:=1,dp:=1}) w ((((w.setCell ⟨blk bk c,5,none⟩ (.int .i64 1)).setCell ⟨blk bk c,6,none⟩ (.int .i64 1)).setCell ⟨blk bk c,7,none⟩ (.int .i64 1)).setCell ⟨blk bk c,5,none⟩ (.int .i64 2))):=ae (by
      have h1:=xW.out.put (by rw[Y_];exact jP.out) {C with ma:=2,sz:=1,dp:=1} (xW.out.ur.us.uA {C with ma:=1,sz:=1,dp:=1} (List.mem_of_getElem? HL0.out))
       ((aj.refl (fun k=>k=blk bk c) _).setCell (p:=⟨blk bk c,5,none⟩) (.inl rfl) (.int .i64 2)) (by
        have:=setBlock (xW.out.ur.us.row c _ HL0.out) 5 (.int .i64 2);simpa[dA] using this)
      rw[D6] at h1;exact h1)
     clear hr hx m1 hot m2 hmx Y9 xW HL0
     go_enter Tryz.func72,Tryz.ntmps72
     go_wp2_with fail
     go_ret;exact⟨rfl,bk,tu.out⟩
  |some x=>
   simp only at hc;have c4:=af hr 4 (.pointer (some ⟨(ad x).1,(ad x).2,none⟩)) (by show some (pV (Option.map ad C.tm))=_;rw[hot];rfl);by_cases m2:C.ma=2
   .rw [if_pos m2] at hc;have z2:((C.ma:Int)==2)=true:=by rw[m2];rfl
    clear hr hx c6 c7 m1 hot m2
    go_enter Tryz.func72,Tryz.ntmps72
    simp only[Option.some.injEq,Prod.mk.injEq] at hc;obtain⟨rfl,rfl⟩:=hc
    go_wp2_with fail
    go_ret;exact⟨rfl,bk,eH.refl HM.out⟩
   .rw [if_neg m2] at hc;have z2:((C.ma:Int)==2)=false:=by rw[beq_eq_false_iff_ne];omega
    cases hX:T[x]? with
    |none=>rw[hX] at hc;cases hc
    |some X=>
    rw[hX] at hc;simp only at hc;cases hK:RY T F (Fq T F) c x (dI st c {C with ma:=1,sz:=1,dp:=1}) X.ks with
    |none=>rw[hK] at hc;cases hc
    |some q=>
    obtain⟨s1,b1⟩:=q;rw[hK] at hc;have Hz:=ae hc;have HK0:=ae hK;have KA:=ae hX;have VD:=hTB x X hX;have xW:Hid (eH T ad S 121 108 bv bn ub bk bk (dI st c {C with ma:=1,sz:=1,dp:=1}) w (((w.setCell ⟨blk bk c,5,none⟩ (.int .i64 1)).setCell ⟨blk bk c,6,none⟩ (.int .i64 1)).setCell ⟨blk bk c,7,none⟩ (.int .i64 1))):=ae ((eH.refl HM.out).put jP.out {C with ma:=1,sz:=1,dp:=1} (HM.out.us.uA C (List.mem_of_getElem? HX.out))
     ((((aj.refl (fun k=>k=blk bk c) w).setCell (p:=⟨blk bk c,5,none⟩) (.inl rfl) (.int .i64 1)).setCell (p:=⟨blk bk c,6,none⟩) (.inl rfl) (.int .i64 1)).setCell (p:=⟨blk bk c,7,none⟩) (.inl rfl) (.int .i64 1)) (by
      have:=setBlock (setBlock (setBlock (HM.out.us.row c C HX.out) 5 (.int .i64 1)) 6 (.int .i64 1)) 7 (.int .i64 1);simpa[dA] using this))
    obtain⟨x0,_,xa,xc,x2,_⟩:=xW.out.ur.nd.row x X hX;have c4':(((w.setCell ⟨blk bk c,5,none⟩ (.int .i64 1)).setCell ⟨blk bk c,6,none⟩ (.int .i64 1)).setCell ⟨blk bk c,7,none⟩ (.int .i64 1)).cell? ⟨blk bk c,4,none⟩=some (.pointer (some ⟨(ad x).1,(ad x).2,none⟩)):=af (xW.out.ur.us.row c _ (RX st jP.out {C with ma:=1,sz:=1,dp:=1})) 4 _ (by show some (pV (Option.map ad C.tm))=_;rw[hot];rfl);clear hr hx m1 hot m2 hX hK hc x0
    go_enter Tryz.func72,Tryz.ntmps72
    go_upto_region 6 with fail
    generalize (((w.setCell ⟨blk bk c,5,none⟩ (.int .i64 1)).setCell ⟨blk bk c,6,none⟩ (.int .i64 1)).setCell ⟨blk bk c,7,none⟩ (.int .i64 1))=w3 at*;clear c3 c4 c5 c6 c7 fc z1 z2
    go_wp2_with fail
    clear c4' x2
    go_loopg [54] X.ks.length (fun gk iv wr=> ∃(k:Nat) (stk:St) (vG:List Nat),iv= .int .i64 (k:Int)/\gk=X.ks.length-k/\k<=X.ks.length/\Hid (eH T ad S 121 108 bv bn ub bk vG stk w wr)/\Hid (RY T F (Fq T F) c x stk (X.ks.drop k)=some (s1,b1)))
    case atStart=>exact⟨0,_,_,rfl,rfl,Nat.zero_le _,xW,HK0⟩
    case round=>
     clear xW HK0;obtain⟨k,stk,vG,rfl,rfl,hk,HU,HCk⟩:=hrel;have hc:=HCk.out;have hcb:c<bk.length:=by rw[HM.out.us.len];exact jP.out
     have hbc:=EF HU.out.pre hcb;by_cases hlt:k<X.ks.length
     .rw [List.drop_eq_getElem_cons hlt] at hc;unfold RY at hc;by_cases hg:(stk.cs[c]?.map (·.tm))=some (some x)
      rotate_left
      .rw [if_neg hg] at hc;cases hc
      rw[if_pos hg] at hc;obtain⟨Ck,hCk,hCt⟩:=Option.map_eq_some_iff.1 hg;cases hcl:jl T F stk X.ks[k] with
      |none=>rw[hcl] at hc;cases hc
      |some q=>
      obtain⟨st1,y⟩:=q;rw[hcl] at hc;simp only at hc;cases hac:Fq T F st1 y with
      |none=>rw[hac] at hc;cases hc
      |some q=>
      obtain⟨st2,b2⟩:=q;rw[hac] at hc;have HC2:=ae hc;have amN:=ae hcl;have tC:=ae hac;have hr:=HU.out.ur.us.row c Ck hCk;rw[hbc] at hr;have c4:=af hr 4 (.pointer (some ⟨(ad x).1,(ad x).2,none⟩)) (by show some (pV (Option.map ad Ck.tm))=_;rw[hCt];rfl);obtain⟨_,_,xa',xc',x2,hxk⟩:=HU.out.ur.nd.row x X KA.out;obtain⟨xg,xo,rfl,D7⟩:=hxk (by omega);have hxa:=(D7 k _ (List.getElem?_eq_getElem hlt)).2;have Gv:=ae (ML F X.ks[k] y HU.out.ur hcl);rw[hxa] at Gv;obtain⟨z0,z1,z2,z2'⟩:=bz hlt;clear hxk D7 hxa hcl hac hc hg hCk hCt hr hbc
      go_wp2_with fail
      refine Gv.out.mono ?_;rintro e w5 ⟨bk5,rfl,WJ⟩;have gY:=ae (HU.out.trans WJ);have HI:=ae (HIH.out bk5 st1 st2 w5 y b2 gY.out.ur tC.out);clear WJ c4 x2 Gv
      go_wp2_with fail
      refine HI.out.mono ?_;rintro e w6 ⟨rfl,WX,IG⟩;have pI:=ae (gY.out.trans IG);have hc:=HC2.out;cases b2 with
      |false=>
       simp only[Option.some.injEq,Prod.mk.injEq] at hc;obtain⟨rfl,rfl⟩:=hc;have hc:=Hz.out;simp only[Option.some.injEq,Prod.mk.injEq] at hc;obtain⟨rfl,rfl⟩:=hc;clear IG HI
       go_wp2_with fail
       go_ret;exact⟨rfl,WX,pI.out⟩
      |true=>
       simp only at hc;cases hq1:st2.cs[c]? with
       |none=>rw[hq1] at hc;cases hc
       |some C2=>
       cases hq2:st2.cs[y]? with
       |none=>rw[hq1,hq2] at hc;cases hc
       |some Y2=>
       rw[hq1,hq2] at hc;simp only at hc;by_cases hg:C2.sz<=2000/\Y2.sz<=2000/\C2.dp<=2000/\Y2.dp<=2000
       rotate_left
       .rw [if_neg hg] at hc;cases hc
       rw[if_pos hg] at hc;obtain⟨g1,g2,g3,g4⟩:=hg;have HC3:=ae hc;have hy5:y<bk5.length:=by
        obtain⟨z,hz,_⟩:=uV amN.out;rw[gY.out.ur.us.len];exact(List.getElem?_eq_some_iff.1 hz).1
       have hby:=EF IG.pre hy5;have hbc:=EF pI.out.pre hcb;have hr:=pI.out.ur.us.row c C2 hq1;have hy:=pI.out.ur.us.row y Y2 hq2;have Fp:=ae hr;rw[hbc] at hr;rw[hby] at hy;have c6:=af hr 6 (.int .i64 (C2.sz:Int)) rfl;have c7:=af hr 7 (.int .i64 (C2.dp:Int)) rfl;have fc:=fun i=>au hr i;have y6:=af hy 6 (.int .i64 (Y2.sz:Int)) rfl;have y7:=af hy 7 (.int .i64 (Y2.dp:Int)) rfl;have e1:((min (C2.sz+Y2.sz) 1001:Nat):Int)=min ((C2.sz:Int)+(Y2.sz:Int)) 1001:=by omega
       have e2:((min (max C2.dp (Y2.dp+1)) 61:Nat):Int)=min (max (C2.dp:Int) ((Y2.dp:Int)+1)) 61:=by omega
       have HP:Hid (∀W,Ext w6 W->eH T ad S 121 108 bv bn ub bk WX (dI st2 c {C2 with sz:=min (C2.sz+Y2.sz) 1001,dp:=min (max C2.dp (Y2.dp+1)) 61}) w ((W.setCell ⟨blk bk c,6,none⟩ (.int .i64 (min ((C2.sz:Int)+(Y2.sz:Int)) 1001))).setCell ⟨blk bk c,7,none⟩ (.int .i64 (min (max (C2.dp:Int) ((Y2.dp:Int)+1)) 61)))):=ae (fun W hW=>by
        rw[<-hbc];exact(pI.out.ext hW).put (List.getElem?_eq_some_iff.1 hq1).1 {C2 with sz:=min (C2.sz+Y2.sz) 1001,dp:=min (max C2.dp (Y2.dp+1)) 61} (pI.out.ur.us.uA C2 (List.mem_of_getElem? hq1))
         (((aj.refl (fun k=>k=blk WX c) W).setCell (p:=⟨blk WX c,6,none⟩) (.inl rfl) (.int .i64 (min ((C2.sz:Int)+(Y2.sz:Int)) 1001))).setCell (p:=⟨blk WX c,7,none⟩) (.inl rfl) (.int .i64 (min (max (C2.dp:Int) ((Y2.dp:Int)+1)) 61))) (by
          have:=setBlock (setBlock (hW.heap Fp.out (fun h=>h)) 6 (.int .i64 (min ((C2.sz:Int)+(Y2.sz:Int)) 1001))) 7 (.int .i64 (min (max (C2.dp:Int) ((Y2.dp:Int)+1)) 61));unfold dA at this⊢;rw[e1,e2];simpa using this))
       clear IG HI hr hy hc hq1 hq2 hy5 hby hbc e1 e2
       go_wp2_with fail
       go_region
       go_wp2_with fail
       go_roundg (X.ks.length- (k+1))
       case measure=>omega
       case rel=>exact⟨k+1,_,_,by go_num,rfl,by omega,ae ((HP.out _ (aj.refl _ w6)).ext (aj.refl _ _).drew),HC3⟩
     .obtain rfl:k=X.ks.length:=by omega
      have z2:decide ((X.ks.length:Int)< (X.ks.length:Int))=false:=dF (by omega);rw[List.drop_length] at hc;unfold RY at hc;simp only[Option.some.injEq,Prod.mk.injEq] at hc;obtain⟨rfl,rfl⟩:=hc;have hc:=Hz.out;simp only at hc;cases hq1:stk.cs[c]? with
      |none=>rw[hq1] at hc;cases hc
      |some C2=>
      rw[hq1] at hc;simp only[Option.some.injEq,Prod.mk.injEq] at hc;obtain⟨rfl,rfl⟩:=hc;have hr:=HU.out.ur.us.row c C2 hq1;have Fp:=ae hr;rw[hbc] at hr;have c5:=af hr 5 (.int .i64 (C2.ma:Int)) rfl;have fc:=fun i=>au hr i;have HP:Hid (eH T ad S 121 108 bv bn ub bk vG (dI stk c {C2 with ma:=2}) w (wr.setCell ⟨blk bk c,5,none⟩ (.int .i64 2))):=ae (by
       rw[<-hbc];exact HU.out.put (List.getElem?_eq_some_iff.1 hq1).1 {C2 with ma:=2} (HU.out.ur.us.uA C2 (List.mem_of_getElem? hq1))
        ((aj.refl (fun k=>k=blk vG c) wr).setCell (p:=⟨blk vG c,5,none⟩) (.inl rfl) (.int .i64 2)) (by
         have:=setBlock Fp.out 5 (.int .i64 2);simpa[dA] using this))
      clear hr hq1 hbc
      go_wp2_with fail
      go_ret;exact⟨rfl,vG,HP.out⟩
theorem aiX {T:List Nr} {ad:Nat->Nat×Nat} {S:Nat->Prop} {bv bn ub:Nat} {st:St} {bk:List Nat} (hTB: ∀(i:Nat) (r:Nr),T[i]?=some r->r.ks.length<=1000000) (F:Nat): ∀(w:World) (c:Nat) (t:Tm),Ur T ad S 121 108 bv bn ub bk st w->Oh T st F c=some t->
  Calls Tryz.prog 74 #[fH ub,fH (blk bk c)] w fun e w'=> ∃r B,e= .returned (tV t r)/\aG 24 w' B t.kids r/\(∀j,B j->w.heap.size<=j/\j<w'.heap.size)/\Ext w w':=by
 induction F with
 |zero=>intro w c t _ h;cases h
 |succ F ih=>
 intro w c t hm hc;have HIH:=ae ih;unfold Oh at hc;cases hx:st.cs[c]? with
 |none=>rw[hx] at hc;cases hc
 |some C=>
 rw[hx] at hc;simp only at hc;have HM:=ae hm;have hm2:=hm;have HX:=ae hx;have hr:=hm.us.row c C hx;obtain⟨ot,hot⟩: ∃o,C.tm=o:=⟨_,rfl⟩
 rw[hot] at hc;have hE0:=((uR w).alloc zO)
 have hb2:=ai w zO;clear ih hm;cases ot with
 |none=>
  simp only[Option.some.injEq] at hc;subst hc;have hr:=hE0.heap hr (fun h=>h);have c1:=af hr 1 (.string C.nm) rfl;have c2:=af hr 2 (.string C.so) rfl;have c4:=af hr 4 (.pointer none) (by show some (pV (Option.map ad C.tm))=_;rw[hot];rfl);obtain⟨d0,d1,d2⟩:=ag hb2;have f2:=fun i=>au hb2 i;have cZ:=ae hE0;have HB2:=ae hb2;clear hr hx hot hE0 hb2 hm2
  go_enter Tryz.func74,Tryz.ntmps74
  go_upto_region 1 with fail
  generalize w.alloc zO=w1 at*
  go_wp2_with fail
  go_region
  go_wp2_with fail
  have hr3:=aJ HB2.out (.string C.nm) (.string C.so) (.slice none 0 0);have hu:=aI w1 w.heap.size (.string C.nm) (.string C.so) (.slice none 0 0);obtain⟨e0,e1,e2⟩:=ag hr3;refine bodyPost_ret (v:= .agg #[.string C.nm,.string C.so,.slice none 0 0]) (by simp[results,Tryz.results74,go_sem,e0,e1,e2]) rfl ⟨.slice none 0 0,fun _=>False,rfl,aG.nil _ _ _,fun j hj=>hj.elim,(cZ.out.trans' hu (fun j hj e=>by omega)).drew⟩
 |some x=>
  simp only at hc;cases hX:T[x]? with
  |none=>rw[hX] at hc;cases hc
  |some X=>
  rw[hX] at hc;simp only at hc;cases hK:FM T F st (Oh T st F) c x X.ks with
  |none=>rw[hK] at hc;cases hc
  |some L=>
  rw[hK] at hc;simp only[Option.map_some,Option.some.injEq] at hc;subst hc;have HK:=ae hK;have KA:=ae hX;have VD:=hTB x X hX;have hLL:=RZ hK;have HCT:=ae hot;have hr:=hE0.heap hr (fun h=>h);obtain⟨x0,_,xa,xc,x2,_⟩:=(hm2.ext hE0).nd.row x X hX;have c4:=af hr 4 (.pointer (some ⟨(ad x).1,(ad x).2,none⟩)) (by show some (pV (Option.map ad C.tm))=_;rw[hot];rfl);have cZ:=ae hE0;have HB2:=ae hb2;clear hr hx hot hE0 hb2 hK hX hm2
  go_enter Tryz.func74,Tryz.ntmps74
  go_upto_region 3 with fail
  generalize hw1:w.alloc zO=w1 at*;obtain⟨n3,hn3⟩: ∃n3,w1.heap.size=n3:=⟨_,rfl⟩
  have gz:Hid (w.heap.size+1=n3):=ae (by rw[<-hn3,<-hw1];simp);have hx3:=(uR w1).alloc (.cells #[.string X.nm,.string ⟨#[]⟩,.slice none 0 0] 24);have hb3:=ai w1 (.cells #[.string X.nm,.string ⟨#[]⟩,.slice none 0 0] 24);have hb2':=ak HB2.out (.cells #[.string X.nm,.string ⟨#[]⟩,.slice none 0 0] 24);have x2':=hx3.cell x2 (fun h=>h);have c4':=hx3.cell c4 (fun h=>h);have IJ:=ae (cZ.out.trans hx3);clear hw1
  go_wp2_with fail
  generalize hW0:w1.alloc (.cells #[.string X.nm,.string ⟨#[]⟩,.slice none 0 0] 24)=W0 at*;have sF:Hid (w.heap.size+2<=W0.heap.size):=ae (by have h1:=gz.out;rw[<-hW0,World.size_alloc];omega);have nX:Hid (ru 24 (w.heap.size+2) W0 L (.slice none 0 0) [] (fun _ _=>False) 0):=ae ⟨rfl,⟨rfl,.inl ⟨rfl,rfl⟩⟩,fun i hi=>absurd hi (Nat.not_lt_zero _),fun i j hi=>absurd hi (Nat.not_lt_zero _),fun i i' j hi=>absurd hi (Nat.not_lt_zero _)⟩;rw[hn3] at hb3;have af0:=ae hb2';have af1:=ae hb3;have xM:=ae hLL;clear hW0 hb3 hb2' x2' c4' hn3 hx3 HB2 cZ x2 c4 hLL x0
  go_loopg [37] X.ks.length (fun gk iv wr=> ∃(k:Nat) (lv:Value) (us:List Value) (Bk:Nat->Nat->Prop),iv= .int .i64 (k:Int)/\gk=X.ks.length-k/\k<=X.ks.length/\Hid (ru 24 (w.heap.size+2) wr L lv us Bk k)/\Hid (wr.heap[w.heap.size]?=some zO)/\Hid (wr.heap[n3]?=some (.cells #[.string X.nm,.string ⟨#[]⟩,lv] 24 (0,0)))/\Hid (Ext w wr)/\Hid (w.heap.size+2<=wr.heap.size))
  case atStart=>exact⟨0,_,_,_,rfl,rfl,Nat.zero_le _,nX,af0,af1,IJ,sF⟩
  case round=>
   clear nX af0 af1 IJ sF;obtain⟨k,lv,us,Bk,rfl,rfl,hk,HJ,HB2,HB3,HE,dw⟩:=hrel;obtain⟨la,lc,hlv⟩:=bJ HJ.out.own;subst hlv;by_cases hlt:k<X.ks.length
   .obtain ⟨hf,s1,y,hcl,hva⟩:=WY HK.out k hlt;have hr:=HE.out.heap (HM.out.us.row c C HX.out) (fun h=>h);have c4:=af hr 4 (.pointer (some ⟨(ad x).1,(ad x).2,none⟩)) (by show some (pV (Option.map ad C.tm))=_;rw[HCT.out];rfl);obtain⟨_,_,xa',xc',x2,hxk⟩:=(HM.out.ext HE.out).nd.row x X KA.out;obtain⟨xg,xo,rfl,D7⟩:=hxk (by omega);have hxa:=(D7 k _ (List.getElem?_eq_getElem hlt)).2;have Gv:=ae (YY F X.ks[k] y (HM.out.ext HE.out.drew) hf hcl).2;rw[hxa] at Gv;have HI:=ae (fun W (hW:Ext wr W)=>HIH.out W y (tg L k) (HM.out.ext (HE.out.trans hW)) hva);obtain⟨z,hz⟩: ∃z,tg L k=z:=⟨_,rfl⟩
    have HZ:=ae hz;rw[hz] at HI;obtain⟨z0,z1,z2,z2'⟩:=bz hlt;have c2:=af HB3.out 2 (.slice la k lc) rfl;have jD:Hid (¬(Value.slice la k lc).ownBlock=some n3):=ae (fun e=>by have h1:=(HJ.out.own.lt n3 e).1;have:=gz.out;omega);have HKB:Hid (k<=1000000):=ae (by omega);have Di:Hid (Ext wr wr):=ae (aj.refl _ _);obtain⟨iT,hi,hz0,hz1,hz2⟩:=info_parts Ar;clear hxk D7 hxa hf hcl hva hr hz
    go_wp2_with fail
    go_region_law (first
     |(refine dP _ (.tmp 41) (.tmp 55) 22 rfl (w.heap.size+2) 24 iT (.agg #[.string ⟨#[]⟩,.string ⟨#[]⟩,.slice none 0 0]) 3 56 Tryz.underlying22 hi hz0 hz1 hz2 rfl (by decide) _ _ _ rfl YJ.out _ 1 1 [.string z.name,.string z.sort,.slice ya z.kids.length yc] rfl rfl oN.out mW.out jA.out.1 jA.out.2.1 jA.out.2.2 ?_;intro v7 w7 dE;obtain⟨a7,c7,hv7⟩:=bJ dE.own;subst hv7;have iL:=dE.upd.heap (ak iG.out (tO z ya yc)) jD.out;have f7:=fun i=>au iL i;have c2:=af iL 2 (.slice la k lc) rfl;have eP:=ae iL;have mD:=ae dE;clear dE iL)
     |(go_simp;refine Gv.out.mono ?_;rintro e w5 ⟨rfl,hw5⟩;have dS:Hid (Ext wr w5):=ae (((uR wr).drewN' 1).trans hw5);have c5:=dS.out.cell c2 (fun h=>h);have HI5:=ae (HI.out w5 dS.out);clear hw5 Gv HI)
     |(go_simp;refine HI5.out.mono ?_;rintro e w6 ⟨r,Bx,rfl,xN,hb6,hw6⟩;obtain⟨ya,yc,jB⟩:=aG.shape xN;subst jB;have wK:Hid (Ext wr w6):=ae (dS.out.trans hw6);have H_:=ae xN;have TV:Hid (∀j,Bx j->wr.heap.size<=j/\j<w6.heap.size):=ae (fun j hj=>⟨Nat.le_trans dS.out.size (hb6 j hj).1,(hb6 j hj).2⟩);have iG:=ae (wK.out.heap HB3.out (fun h=>h));have YJ:Hid ((w6.alloc (tO z ya yc)).ownsRow (w.heap.size+2) 24 3 (.slice la k lc) k (dC (L.take k) us)):=ae ((df HJ.out.own wK.out (fun _ _ h=>h)).alloc _);have oN:Hid (∀(j:Nat) (u:Value),[Value.string z.name,.string z.sort,.slice ya z.kids.length yc][j]?=some u->(w6.alloc (tO z ya yc)).cell? ((⟨w6.heap.size,0,none⟩:Addr).add j)=some u):=ae (F5 w6 _ _ _ 24);have mW:Hid (∀u∈[Value.string z.name,.string z.sort,.slice ya z.kids.length yc],u.oneCell'=true):=ae (fun u hu=>by simp at hu;rcases hu with h|h|h<;>(subst h;rfl));have jA:Hid (k+1<=maxLen/\(k+1)*56<=140737488355328/\w.heap.size+2<=(w6.alloc (tO z ya yc)).heap.size):=ae ⟨by unfold maxLen;have:=HKB.out;omega,by have:=HKB.out;omega,by have h1:=wK.out.size;have h2:=dw.out;simp;omega⟩;have c6:=wK.out.cell c2 (fun h=>h);have c7:=((uR w6).alloc (tO z ya yc)).cell c6 (fun h=>h);clear xN hb6 hw6 HI5))
    all_goals
     go_wp2_with fail
     have ji:=ae ((aj.refl (fun j=>j=n3) w7).setCell (p:=⟨n3,2,none⟩) (.inl rfl) (.slice a7 (k+1) c7));have dG:Hid (aj (fun j=>(Value.slice la k lc).ownBlock=some j\/j=n3) wr (w7.setCell ⟨n3,2,none⟩ (.slice a7 (k+1) c7))):=ae (((((wK.out.alloc (tO z ya yc)).mono (fun _ _ x=>x.elim)).trans (mD.out.upd.mono (fun _ _ e=> .inl e)))).trans (ji.out.mono (fun _ _ e=> .inr e)));have zL:=ae (HJ.out.grow (by rw[xM.out];exact hlt) HZ.out (by have:=gz.out;omega) dw.out Di.out wK.out H_.out TV.out ((uR w6).alloc (tO z ya yc)) mD.out ji.out);have bV:Hid (Ext w (w7.setCell ⟨n3,2,none⟩ (.slice a7 (k+1) c7))):=ae (HE.out.trans' dG.out (fun j hj e=>by
      rcases e with e|e
      .have h1:=(HJ.out.own.lt j e).1;omega
      .have:=gz.out;omega))
     have uH:=ae (dG.out.heap HB2.out (fun e=>by
      rcases e with e|e
      .have h1:=(HJ.out.own.lt _ e).1;omega
      .have:=gz.out;omega))
     have lT:=setBlock eP.out 2 (.slice a7 (k+1) c7);have uI:Hid ((w7.setCell ⟨n3,2,none⟩ (.slice a7 (k+1) c7)).heap[n3]?=some (.cells #[.string X.nm,.string ⟨#[]⟩,.slice a7 (k+1) c7] 24 (0,0))):=ae (by simpa using lT);have pF:Hid (w.heap.size+2<=(w7.setCell ⟨n3,2,none⟩ (.slice a7 (k+1) c7)).heap.size):=ae (Nat.le_trans dw.out dG.out.size);clear lT c2 f7
     go_roundg (X.ks.length- (k+1))
     case measure=>omega
     case rel=>exact⟨k+1,_,_,_,by go_num,rfl,by omega,zL,uH,uI,bV,pF⟩
   .obtain rfl:k=X.ks.length:=by omega
    have z2:decide ((X.ks.length:Int)< (X.ks.length:Int))=false:=dF (by omega);have hfin:=HJ.out;rw[<-xM.out] at hfin;have hfin:=hfin.fin;have tq:=ae hfin;rw[xM.out] at tq;obtain⟨c0,c1,c2⟩:=ag HB3.out;have f2:=fun i=>au HB2.out i;obtain⟨d0,d1,d2⟩:=ag HB2.out;clear hfin
    go_wp2_with fail
    have hr3:=aJ HB2.out (.string X.nm) (.string ⟨#[]⟩) (.slice la X.ks.length lc);have hu:=aI wr w.heap.size (.string X.nm) (.string ⟨#[]⟩) (.slice la X.ks.length lc);obtain⟨e0,e1,e2⟩:=ag hr3;refine bodyPost_ret (v:= .agg #[.string X.nm,.string ⟨#[]⟩,.slice la X.ks.length lc]) (by simp[results,Tryz.results74,go_sem,e0,e1,e2]) rfl ⟨.slice la X.ks.length lc,_,rfl,tq.out.kept hu (fun j hj e=>by have h1:=hj.1;omega),fun j hj=>⟨by have h1:=hj.1;omega,ay hj.2 hu.size⟩,HE.out.trans' hu (fun j hj e=>by omega)⟩
theorem mO {t:Tm} (h:wf ax t=true):(aO t).length<=t.size:=by
 have h2:(jO t).isSome=true:=by
  unfold wf at h;rw[Bool.and_eq_true] at h;exact h.2
 obtain⟨m,hm⟩:=Option.isSome_iff_exists.1 h2;have h1:=yH _ _ _ (show iQ [] (vl (aV t))=some m from hm);have h3:(vl (aV t)).length<=t.size:=by
  have h1:(vl (aV t)).length<=(aV t).length:=List.length_filterMap_le _ _;have h2:(aV t).length=t.size:=by rw[aV,List.length_map,kP]
  omega
 have hv:=Ie hm;have hnd:(aO t).Nodup:=hv.1.imp (fun{a b} hab e=>by rw[e,fU] at hab;cases hab);have:=hnd.length_le_of_subset (fun f hf=>(hv.2 f).1 hf);simp only[List.length_nil] at h1;omega
theorem xk {l:List Vd} {i:Nat} (h:i<l.length):vg l i∈l:=by unfold vg;rw[List.getD_eq_getElem?_getD,List.getElem?_eq_getElem h];exact List.getElem_mem h
theorem oU {t:Tm} (h:wf ax t=true):qy t=(aO t,0):=if_pos h
theorem YL (a b:Tm) (va vb:Value) (w:World) (htab:bT w) (hA:bC (fun k=>k<w.heap.size) w a va) (hB:bC (fun k=>k<w.heap.size) w b vb) (hsa:a.size<=1000000) (hsb:b.size<=1000000) (ha:wf ax a=true) (hb:wf ax b=true) (hc: ∀v∈aO a,∀u∈aO b,v.1=u.1->v.2=u.2):
  Calls Tryz.prog 63 #[va,vb] w fun e w'=>e= .returned (.int .i64 0)/\Ext w w':=by
 have HA:=ae hA;have HB:=ae hB;have HWa:=ae (mO ha);have HWb:=ae (mO hb);have HC:=ae hc;obtain⟨aa,ac,rfl,_⟩:=hA;obtain⟨ba,bc,rfl,_⟩:=hB;have HFa:=ae (fun W (hW:Ext w W)=>xn a _ W (aC htab hW) ((HA.out.ext hW).weaken (fun k hk=>ay hk hW.size)) (by omega));have HFb:=ae (fun W (hW:Ext w W)=>xn b _ W (aC htab hW) ((HB.out.ext hW).weaken (fun k hk=>ay hk hW.size)) (by omega));have HVa:=ae (fun W (hW:Ext w W)=>qY a _ W (aC htab hW) ((HA.out.ext hW).weaken (fun k hk=>ay hk hW.size)) (by omega));have HVb:=ae (fun W (hW:Ext w W)=>qY b _ W (aC htab hW) ((HB.out.ext hW).weaken (fun k hk=>ay hk hW.size)) (by omega));rw[ha] at HFa;rw[hb] at HFb;rw[oU ha] at HVa;rw[oU hb] at HVb;dsimp only[tV] at HFa HFb HVa HVb⊢;have hZ:=((uR w).alloc (tO a aa ac)).alloc (tO b ba bc);have hb2:=ak (ai w (tO a aa ac)) (tO b ba bc);have hb3:=alloc_at (w.alloc (tO a aa ac)) (tO b ba bc) (n:=w.heap.size+1) (by simp);have sH:=ae (And.intro hsa hsb);clear hc ha hb hsa hsb;obtain⟨x0,x1,x2⟩:=ag hb2;have HZ:=ae hZ;have H2:=ae hb2;have H3:=ae hb3;clear hZ hb2 hb3
 go_enter Tryz.func63,Tryz.ntmps63
 go_wp2_with fail
 refine(HFa.out _ HZ.out).mono ?_;rintro e w3 ⟨rfl,hw3⟩;have aS:=ae (HZ.out.trans hw3);have Ad:=ae (hw3.heap H2.out (fun h=>h));have uw:=ae (hw3.heap H3.out (fun h=>h));clear hw3 x0 x1 x2 H2 H3 HZ HFa;obtain⟨y0,y1,y2⟩:=ag uw.out
 go_wp2_with fail
 refine(HFb.out _ aS.out).mono ?_;rintro e w4 ⟨rfl,hw4⟩;have bQ:=ae (aS.out.trans hw4);have Ae:=ae (hw4.heap Ad.out (fun h=>h));have uz:=ae (hw4.heap uw.out (fun h=>h));clear hw4 y0 y1 y2 Ad uw aS HFb;obtain⟨x0,x1,x2⟩:=ag Ae.out
 go_wp2_with fail
 refine(HVa.out _ bQ.out).mono ?_;rintro e w5 ⟨r1,rfl,hr1,hw5⟩;have dX:=ae (bQ.out.trans hw5);have Ir:=ae (hw5.heap uz.out (fun h=>h));have HR1:=ae hr1;clear hw5 x0 x1 x2 Ae uz bQ HVa hr1;obtain⟨y0,y1,y2⟩:=ag Ir.out
 go_wp2_with fail
 refine(HVb.out _ dX.out).mono ?_;rintro e w6 ⟨r2,rfl,hr2,hw6⟩;have eQ:=ae (dX.out.trans hw6);have aiu:=ae (bU.ext HR1.out hw6);have aiv:=ae hr2;obtain⟨a1,c1,rfl⟩:=bU.shape hr2;obtain⟨a0,c0,rfl⟩:=bU.shape HR1.out;clear hw6 y0 y1 y2 Ir dX HVb hr2 HR1 HA HB htab;obtain⟨LA,hLA⟩: ∃L,aO a=L:=⟨_,rfl⟩
 obtain⟨LB,hLB⟩: ∃L,aO b=L:=⟨_,rfl⟩
 rw[hLA] at aiu HC HWa⊢;rw[hLB] at aiv HC HWb⊢;have hla:LA.length<=1000000:=by have h1:=HWa.out;have h2:=sH.out.1;omega
 have hlb:LB.length<=1000000:=by have h1:=HWb.out;have h2:=sH.out.2;omega
 clear hLA hLB sH HWa HWb
 go_wp2_with fail
 go_loopg [33] LA.length (fun gk iv wr=> ∃k:Nat,iv= .int .i64 (k:Int)/\gk=LA.length-k/\k<=LA.length/\Hid (Ext w6 wr))
 case atStart=>exact⟨0,rfl,rfl,Nat.zero_le _,ae (aj.refl _ _)⟩
 case round=>
  obtain⟨k,rfl,rfl,hk,HE⟩:=hrel;by_cases hlt:k<LA.length
  .obtain ⟨g,off,rfl,hat⟩:=bU.at_ (bU.ext aiu.out HE.out) (by omega);obtain⟨q0,q1⟩:=hat k hlt;have hfm:=xk hlt;obtain⟨fa,hfa⟩: ∃f,vg LA k=f:=⟨_,rfl⟩
   rw[hfa] at q0 q1 hfm;have uf:=ae hfm;clear hfa hfm;obtain⟨z0,z1,z2,z2'⟩:=bz hlt;have iL:=ai wr (.cells #[.string fa.1,.string fa.2] 116);have eP:=ae iL;have jg:=ae (HE.out.alloc (.cells #[.string fa.1,.string fa.2] 116));clear hat iL
   go_wp2_with fail
   generalize wr.alloc (.cells #[.string fa.1,.string fa.2] 116)=w7 at*;clear q0 q1 z0 z1 z2 z2'
   go_loopg [39] LB.length (fun gk iv wr2=> ∃j:Nat,iv= .int .i64 (j:Int)/\gk=LB.length-j/\j<=LB.length/\Hid (Ext w7 wr2))
   case atStart=>exact⟨0,rfl,rfl,Nat.zero_le _,ae (aj.refl _ _)⟩
   case round=>
    obtain⟨j,rfl,rfl,hj,BZ⟩:=hrel;by_cases hlj:j<LB.length
    .obtain ⟨g2,lU,rfl,hat⟩:=bU.at_ (bU.ext aiv.out (jg.out.trans BZ.out)) (by omega);obtain⟨q0,q1⟩:=hat j hlj;have hfm:=xk hlj;obtain⟨fb,hfb⟩: ∃f,vg LB j=f:=⟨_,rfl⟩
     rw[hfb] at q0 q1 hfm;have HGM:=ae hfm;clear hfb hfm;obtain⟨z0,z1,z2,z2'⟩:=bz hlj;have kE:=BZ.out.heap eP.out (fun h=>h);have kE:=ak kE (.cells #[.string fb.1,.string fb.2] 116);have l9:=ai wr (.cells #[.string fb.1,.string fb.2] 116);obtain⟨e0,e1⟩:=aP kE;obtain⟨d0,d1⟩:=aP l9;have kY:=ae (BZ.out.alloc (.cells #[.string fb.1,.string fb.2] 116));have s1:=nK fa.1 fb.1;have s2:=nK fa.2 fb.2;have hcc:=HC.out fa uf.out fb HGM.out;clear hat kE l9;by_cases h1:fa.1=fb.1
     .rw [dT h1] at s1;rw[dT (hcc h1)] at s2;clear hcc h1
      go_wp2_with fail
      go_roundg (LB.length- (j+1))
      case measure=>omega
      case rel=>exact⟨j+1,by go_num,rfl,by omega,kY⟩
     .rw [dF h1] at s1;clear hcc h1 s2
      go_wp2_with fail
      go_roundg (LB.length- (j+1))
      case measure=>omega
      case rel=>exact⟨j+1,by go_num,rfl,by omega,kY⟩
    .obtain rfl:j=LB.length:=by omega
     have z2:decide ((LB.length:Int)< (LB.length:Int))=false:=dF (by omega)
     go_wp2_with fail
     go_roundg (LA.length- (k+1))
     case measure=>omega
     case rel=>exact⟨k+1,by go_num,rfl,by omega,ae (jg.out.trans BZ.out)⟩
  .obtain rfl:k=LA.length:=by omega
   have z2:decide ((LA.length:Int)< (LA.length:Int))=false:=dF (by omega)
   go_wp2_with fail
   go_ret;exact⟨rfl,eQ.out.trans HE.out⟩
theorem aeI (n:Nat) (w:World) (hn:n<=10000000):Calls Tryz.prog 142 #[.slice none 0 0,.int .i64 (n:Int)] w fun e w'=> ∃v,e= .returned v/\w'.ownsRow w.heap.size 116 2 v 0 []/\Ext w w':=by
 obtain⟨iF,hi,hz0,hz1,hz2⟩:=info_parts Ht;by_cases h0:0<n
 .have h1: ¬((n:Int)<0):=by omega
  have h2:(0:Int)< (n:Int):=by omega
  have hrz: ∀ty,(Builtin.append_ #[111,3] ty #[.slice none 0 0,.int .i64 (n:Int)]).run Tryz.prog w= .ok (.slice (some ⟨w.heap.size,0,none⟩) n (grownCap w n 0 116)) (w.drew.alloc (.cells (Builtin.zeroCells (Value.agg #[.string ⟨#[]⟩,.string ⟨#[]⟩]).cells n++Builtin.zeroCells (Value.agg #[.string ⟨#[]⟩,.string ⟨#[]⟩]).cells (grownCap w n 0 116-n)) 116)):=fun ty=>
   Lib.run_append_nil_zeros w 111 3 ty 116 iF _ .i64 .i64 Tryz.underlying111 Tryz.underlying3 hi hz0 n h0 (by omega) (by omega) (by rw[hz2];omega)
  have hge:=grownCap_ge w n 0 116;have hle:=grownCap_le_maxLen w n 0 116 (by unfold maxLen;omega);have hown:Hid ((w.drew.alloc (.cells (Builtin.zeroCells (Value.agg #[.string ⟨#[]⟩,.string ⟨#[]⟩]).cells n++Builtin.zeroCells (Value.agg #[.string ⟨#[]⟩,.string ⟨#[]⟩]).cells (grownCap w n 0 116-n)) 116)).ownsRow w.heap.size 116 2 (.slice (some ⟨w.heap.size,0,none⟩) 0 (grownCap w n 0 116)) 0 []):=ae
   (World.ownsRow_made w.drew _ _ (Nat.le_refl _) hle (by rw[Array.size_append,size_zeroCells,size_zeroCells];show n*2+(grownCap w n 0 116-n)*2=grownCap w n 0 116*2;omega))
  have HE:Hid (Ext w (w.drew.alloc (.cells (Builtin.zeroCells (Value.agg #[.string ⟨#[]⟩,.string ⟨#[]⟩]).cells n++Builtin.zeroCells (Value.agg #[.string ⟨#[]⟩,.string ⟨#[]⟩]).cells (grownCap w n 0 116-n)) 116))):=ae ((aj.refl _ w).drew.alloc _);obtain⟨G,hG⟩: ∃G,grownCap w n 0 116=G:=⟨_,rfl⟩
  obtain⟨w2,hw2⟩: ∃x,w.drew.alloc (.cells (Builtin.zeroCells (Value.agg #[.string ⟨#[]⟩,.string ⟨#[]⟩]).cells n++Builtin.zeroCells (Value.agg #[.string ⟨#[]⟩,.string ⟨#[]⟩]).cells (grownCap w n 0 116-n)) 116)=x:=⟨_,rfl⟩
  rw[hw2,hG] at hrz hown;rw[hw2] at HE;rw[hG] at hge hle;have hG2:G<=9223372036854775807:=by unfold maxLen at hle;omega
  clear hw2 hG hi hz0 hz1 hz2
  go_enter Tryz.func142,Tryz.ntmps142
  go_wp2_with(at_builtin;refine Lib.wpList_append_run _ rfl _ _ _ _ rfl _ _ rfl rfl _ _ (hrz _) ?_)
  go_ret;exact⟨_,rfl,hown.out,HE.out⟩
 .obtain rfl:n=0:=by omega
  go_enter Tryz.func142,Tryz.ntmps142
  go_wp2_with fail
  go_ret;exact⟨_,rfl,World.ownsRow_nil ..,aj.refl _ _⟩
abbrev og (L1 L2:List Vd) (k:Nat):List Vd:=if k=0 then[] else if k=1 then L1 else L1++L2
theorem YH (L1 L2:List Vd) (v1 v2:Value) (S:Nat->Prop) (g:Nat) (w:World) (h1:bU S w v1 L1) (h2:bU S w v2 L2) (hv1:w.cell? ⟨g,0,none⟩=some v1) (hv2:w.cell? ⟨g,1,none⟩=some v2) (hl1:L1.length<=1000000) (hl2:L2.length<=1000000):
  Calls Tryz.prog 71 #[.slice (some ⟨g,0,none⟩) 2 2] w fun e w'=> ∃r,e= .returned r/\bU (fun k=>w.heap.size<=k/\k<w'.heap.size) w' r (L1++L2)/\Ext w w':=by
 have H1:=ae h1;have H2:=ae h2;obtain⟨a1,c1,rfl⟩:=bU.shape h1;obtain⟨a2,c2,rfl⟩:=bU.shape h2;have HV:=ae (And.intro hv1 hv2);have V8:=ae (aeI (L1.length+L2.length) w (by omega));clear h1 h2
 go_enter Tryz.func71,Tryz.ntmps71
 go_wp2_with fail
 go_loopg [3,11] 2 (fun gk sv iv wr=> ∃k:Nat,iv= .int .i64 (k:Int)/\sv= .int .i64 ((og L1 L2 k).length:Int)/\gk=2-k/\k<=2/\w=wr)
 case atStart=>exact⟨0,rfl,rfl,rfl,Nat.zero_le _,rfl⟩
 case round=>
  obtain⟨k,rfl,rfl,rfl,hk,rfl⟩:=hrel;rcases(by omega:k=0\/k=1\/k=2) with rfl|rfl|rfl
  .have z3: ¬((L1.length:Int)<0):=by omega
   simp only[og,if_true,List.length_nil] at*
   go_wp2_with fail
   go_roundg 1
   case measure=>omega
   case rel=>exact⟨1,rfl,by simp[og],rfl,by omega,rfl⟩
  .have z3: ¬((L1.length:Int)+(L2.length:Int)<0):=by omega
   simp only[og] at*
   go_wp2_with fail
   go_roundg 0
   case measure=>omega
   case rel=>exact⟨2,rfl,by simp[og],rfl,by omega,rfl⟩
  .have hcc:((og L1 L2 2).length:Int)=((L1.length+L2.length:Nat):Int):=by simp[og]
   rw[hcc];clear hcc
   go_wp2_with fail
   refine V8.out.mono ?_;rintro e w2 ⟨v,rfl,ho2,hw2⟩;have lS:=ae ho2;have HE2:=ae hw2;clear ho2 hw2 V8 hv1 hv2
   go_wp2_with fail
   go_loopg [6,27] 2 (fun gk lv iv wr=> ∃k:Nat,iv= .int .i64 (k:Int)/\Hid (wr.ownsRow w.heap.size 116 2 lv (og L1 L2 k).length (bu (og L1 L2 k)))/\gk=2-k/\k<=2/\Hid (Ext w wr))
   case atStart=>exact⟨0,rfl,lS,rfl,Nat.zero_le _,HE2⟩
   case round=>
    obtain⟨k,rfl,HO,rfl,hk,HE⟩:=hrel;obtain⟨la,lc,hlv⟩:=bJ HO.out;subst hlv;have hlt: ∀j,(Value.slice la (og L1 L2 k).length lc).ownBlock=some j->w.heap.size<=j:=fun j hj=>(HO.out.lt j hj).1;have hv1:=HE.out.cell HV.out.1 (fun h=>h);have hv2:=HE.out.cell HV.out.2 (fun h=>h);obtain⟨iF,hi,hz0,hz1,hz2⟩:=info_parts Ht;have hbs:=HE.out.size;rcases(by omega:k=0\/k=1\/k=2) with rfl|rfl|rfl
    .go_wp2_with (at_builtin;refine kC _ rfl (.tmp 31) (.tmp 32) 111 rfl w.heap.size 116 iF (.agg #[.string ⟨#[]⟩,.string ⟨#[]⟩]) 2 32 Tryz.underlying111 hi hz0 hz1 hz2 rfl (by decide) (.slice la (og L1 L2 0).length lc) _ _ rfl HO.out S (.slice a1 L1.length c1) L1.length (bu L1) rfl (bU.ext H1.out HE.out) (kU _) ?c3 ?c4 hbs ?_)
     case c3=>unfold maxLen;simp[og];omega
     case c4=>simp[og];omega
     intro v7 w7 hG;have Ia:Hid (w7.ownsRow w.heap.size 116 2 v7 (og L1 L2 1).length (bu (og L1 L2 1))):=ae (by
      have h:=hG.own;simp only[og,if_true,List.length_nil,Nat.zero_add] at h;exact h)
     have jg:Hid (Ext w w7):=ae (HE.out.trans' hG.upd (fun j hj e=>by have:=hlt j e;omega));obtain⟨a7,c7,hv7⟩:=bJ Ia.out;subst hv7;clear hG hi hz0 hz1 hz2 hbs hlt hv1 hv2
     go_wp2_with fail
     go_roundg 1
     case measure=>omega
     case rel=>exact⟨1,rfl,Ia,rfl,by omega,jg⟩
    .go_wp2_with (at_builtin;refine kC _ rfl (.tmp 31) (.tmp 32) 111 rfl w.heap.size 116 iF (.agg #[.string ⟨#[]⟩,.string ⟨#[]⟩]) 2 32 Tryz.underlying111 hi hz0 hz1 hz2 rfl (by decide) (.slice la (og L1 L2 1).length lc) _ _ rfl HO.out S (.slice a2 L2.length c2) L2.length (bu L2) rfl (bU.ext H2.out HE.out) (kU _) ?c3 ?c4 hbs ?_)
     case c3=>unfold maxLen;simp[og];omega
     case c4=>simp[og];omega
     intro v7 w7 hG;have Ia:Hid (w7.ownsRow w.heap.size 116 2 v7 (og L1 L2 2).length (bu (og L1 L2 2))):=ae (by
      have h:=hG.own;have e1:og L1 L2 1=L1:=rfl;have e2:og L1 L2 2=L1++L2:=rfl;rw[e1,<-qA] at h;rw[e2,List.length_append];exact h)
     have jg:Hid (Ext w w7):=ae (HE.out.trans' hG.upd (fun j hj e=>by have:=hlt j e;omega));obtain⟨a7,c7,hv7⟩:=bJ Ia.out;subst hv7;clear hG hi hz0 hz1 hz2 hbs hlt hv1 hv2
     go_wp2_with fail
     go_roundg 0
     case measure=>omega
     case rel=>exact⟨2,rfl,Ia,rfl,by omega,jg⟩
    .clear hi hz0 hz1 hz2 hbs hv1 hv2
     go_wp2_with fail
     go_ret;have e2:og L1 L2 2=L1++L2:=rfl;have ho:=HO.out;rw[e2] at ho;exact⟨_,rfl,az.weaken (az.iV ho) (fun j hj=>⟨hlt j hj,(ho.lt j hj).2⟩),HE.out⟩
section
open Go.Sort Go.Proofs Go.ChangeMaps
abbrev Be:=Bd×Option Addr×Nat×Nat
abbrev uo (x:Be):Value:= .slice x.2.1 x.2.2.1 x.2.2.2
abbrev dB (x:Be):List Value:=[.string x.1.1,.string x.1.2.1,.string x.1.2.2.name,.string x.1.2.2.sort,uo x]
abbrev Rf (x:Be):By:=x.1.1
theorem KR: ∀(L:List Be),(L.flatMap dB).length=L.length*5
 |[]=>rfl
 |x::L=>by rw[List.flatMap_cons,List.length_append,KR L,List.length_cons];simp only[dB,List.length_cons,List.length_nil];omega
def V9 (t:Tm) (nm so:By):Bool:=!decide (t.sort=ah)&&decide (t.name=nm)&&decide (t.sort=so)
theorem amg (t:Tm) (a:Option Addr) (cap:Nat) (nm so:By) (w:World):Calls Tryz.prog 93 #[tV t (.slice a t.kids.length cap),.string nm,.string so] w fun e w'=>e= .returned (.bool (V9 t nm so))/\Ext w w':=by
 have hb:=ai w (tO t a cap);have HZ:=ae ((uR w).alloc (tO t a cap));have HV:=ae (fun W=>kX t.name t.sort a t.kids.length cap W);obtain⟨c0,c1,c2⟩:=ag hb;have HB:=ae hb;have s1:=nK t.name nm;have s2:=nK t.sort so;have HI:Hid (V9 t nm so=(!decide (t.sort=ah)&&decide (t.name=nm)&&decide (t.sort=so))):=ae rfl;generalize V9 t nm so=R at*;generalize decide (t.sort=ah)=d0 at*;generalize decide (t.name=nm)=d1 at*;generalize decide (t.sort=so)=d2 at*;clear hb
 go_enter Tryz.func93,Tryz.ntmps93
 go_wp2_with fail
 refine(HV.out _).mono ?_;rintro e w4 ⟨rfl,hw4⟩;have H4:=ae (HZ.out.trans hw4);have HB4:=ae (hw4.heap HB.out (fun h=>h));clear hw4 c0 c1 c2;obtain⟨c0,c1,c2⟩:=ag HB4.out;cases d0 with
 |true=>
  obtain rfl:R=false:=HI.out
  go_wp2_with fail
  go_ret;exact⟨rfl,H4.out⟩
 |false=>
  cases d1 with
  |false=>
   obtain rfl:R=false:=HI.out
   go_wp2_with fail
   go_ret;exact⟨rfl,H4.out⟩
  |true=>
   obtain rfl:R=d2:=HI.out
   go_wp2_with fail
   go_ret;exact⟨rfl,H4.out⟩
theorem V_ (x y:Be) (w:World):Calls Tryz.prog 135 #[.agg (dB x).toArray,.agg (dB y).toArray] w fun e w'=>e= .returned (.int .i64 (Dp Rf x y))/\∃q os',w'=grow (w.drewN q) os':=by
 have hb0:=ak (ai w (.cells #[.string x.1.1,.string x.1.2.1,.string x.1.2.2.name,.string x.1.2.2.sort,uo x] 93)) (.cells #[.string y.1.1,.string y.1.2.1,.string y.1.2.2.name,.string y.1.2.2.sort,uo y] 93);have hb1:=alloc_at (w.alloc (.cells #[.string x.1.1,.string x.1.2.1,.string x.1.2.2.name,.string x.1.2.2.sort,uo x] 93)) (.cells #[.string y.1.1,.string y.1.2.1,.string y.1.2.2.name,.string y.1.2.2.sort,uo y] 93) (n:=w.heap.size+1) (by simp);have c0:=af hb0 0 (.string x.1.1) rfl;have d0:=af hb1 0 (.string y.1.1) rfl;have hc:=fun W=>Tryz.strings_Compare x.1.1 y.1.1 W;change ∀W,Calls _ _ _ W fun e w'=>e= .returned (.int .i64 (Dp Rf x y))/\w'=W at hc;have HC:=ae hc;generalize Dp Rf x y=r at*;clear hb0 hb1 hc
 go_enter Tryz.func135,Tryz.ntmps135
 go_wp2_with fail
 refine(HC.out _).mono ?_;rintro e w4 ⟨rfl,rfl⟩
 go_wp2_with fail
 go_ret;exact⟨rfl,0,_,by rw[alloc_eq_grow,alloc_eq_grow,grow_grow];rfl⟩
theorem TT (L:List Be) (base:Nat) (v:Value) (w:World) (hO:w.ownsRow base 93 5 v L.length (L.flatMap dB)) (hd:L.Pairwise fun x y=>x.1.1≠y.1.1) (hl:L.length<=1000000):
  Calls Tryz.prog 97 #[v,.func (.func 135) #[] #[]] w fun e w'=>e= .returned (.tuple #[])/\∃L':List Be,AscK Rf L'/\L'.Perm L/\az (fun k=>v.ownBlock=some k) w' 5 v L'.length (L'.flatMap dB)/\aj (fun k=>v.ownBlock=some k) w w':=by
 by_cases h0:0<L.length
 .obtain ⟨g,cap,rfl,hb,hgl,hnc,hcell,hfz⟩:=aaP hO h0;have hH:HoldsK dB 5 w g 0 L.toArray:=KJ dB 5 (fun _=>rfl) (fun j hj=>⟨by rw[Nat.zero_add];exact hcell j hj,hfz _⟩);have eg: ∀args w,(callFunc 135 args).run Tryz.prog w= .ok (.enter 135 args) w:=enters_of Tryz.func135 (by kernel_rfl) rfl;have h:=Tryz.slices_SortFunc_f97 5 (fun w=>Tryz.isAgg93 w) (fun w=>Tryz.sizeOf93 w) dB (fun _=>rfl) (fun x u hu=>by simp[dB] at hu;rcases hu with h|h|h|h|h<;>(subst h;rfl)) (Dp Rf) (Q3 _) 135 #[] g 0 cap L.toArray w eg (fun m os dk _ x y=>V_ x y _) hH hgl (by simp;omega);rw[show L.toArray.size=L.length by simp] at h;refine h.mono ?_;rintro e w' ⟨rfl,d',n,os,hp,hs,rfl⟩;have hsz:d'.size=L.length:=by have:=hp.1;simpa using this
  obtain⟨ha,hperm⟩:=NV (d:=L.toArray) Rf (by rw[show L.toArray.size=L.length by simp];exact hp) (by rw[show L.toArray.size=L.length by simp];exact hs) (by simpa using hd);have hl':d'.toList.length=L.length:=by simpa using hsz
  refine⟨rfl,d'.toList,ha,by simpa using hperm,?_,(KN dB 5 w g 0 n d' os).mono (fun k _ e=>by rw[e];rfl)⟩;have hH':=holdsK_sortWorldK_c dB 5 w g 0 L.toArray d' n os hH hgl (by simpa using hsz);rw[hl'];refine az.mk' (by rw[KR,hl']) rfl hnc (fun _=>rfl) (fun j hj=>?_);exact(Dq dB 5 (fun _=>rfl) hH' j (by rw[hsz];exact hj)).1
 .have hl0:L=[]:=List.eq_nil_of_length_eq_zero (by omega);subst hl0;obtain⟨a,cap,rfl⟩:=bJ hO;have h:=Tryz.slices_SortFunc_none_f97 (α:=Be) a cap (.func (.func 135) #[] #[]) w;refine h.mono ?_;rintro e w' ⟨rfl,rfl⟩;exact⟨rfl,[],List.Pairwise.nil,List.Perm.refl _,az.iV hO,aj.refl _ _⟩
theorem aeJ:(Tryz.prog.info? 93).map (fun i=>(i.zero,i.size,i.bytes))=some (some (.agg #[.string ⟨#[]⟩,.string ⟨#[]⟩,.string ⟨#[]⟩,.string ⟨#[]⟩,.slice none 0 0]),5,88):=by kernel_rfl
theorem amh (w:World) (u0 u1 u2 u3 u4:Value) (t:TypeId): ∀(j:Nat) (u:Value),[u0,u1,u2,u3,u4][j]?=some u->(w.alloc (.cells #[u0,u1,u2,u3,u4] t)).cell? ((⟨w.heap.size,0,none⟩:Addr).add j)=some u:=fun j u hj=>by
 match j,hj with
 |0,hj=>simp only[List.getElem?_cons_zero,Option.some.injEq] at hj;subst hj;simp only[Addr.add];exact af (ai _ _) 0 _ rfl
 |1,hj=>simp at hj;subst hj;simp only[Addr.add];exact af (ai _ _) 1 _ rfl
 |2,hj=>simp at hj;subst hj;simp only[Addr.add];exact af (ai _ _) 2 _ rfl
 |3,hj=>simp at hj;subst hj;simp only[Addr.add];exact af (ai _ _) 3 _ rfl
 |4,hj=>simp at hj;subst hj;simp only[Addr.add];exact af (ai _ _) 4 _ rfl
def DF (l:List Be) (n:By):Be:=(l.find? fun x=>decide (x.1.1=n)).getD default
theorem z_: ∀{l:List Be} (hd:(l.map fun x=>x.1.1).Nodup) {x:Be} (hx:x∈l),DF l x.1.1=x
 |y::l,hd,x,hx=>by
  rw[List.map_cons,List.nodup_cons] at hd;unfold DF;rw[List.find?_cons];rcases List.mem_cons.1 hx with e|hx
  .subst e;rw[dT rfl];rfl
  .have hne: ¬y.1.1=x.1.1:=fun e=>hd.1 (by rw[e];exact List.mem_map.2 ⟨x,hx,rfl⟩);rw[dF hne];exact z_ hd.2 hx
def wW (f:Bd):Bool:=V9 f.2.2 f.1 f.2.1
structure TbR (S:Nat->Prop) (w:World) (b:Nat) (l:List Be):Prop where
 mp:dN (fun s:ByteArray=>Value.string s) w b (l.map fun x=>(x.1.1,.agg (dB x).toArray))
 nd:(l.map fun x=>x.1.1).Nodup
 tl: ∀x∈l,aA S w x.1.2.2.kids (uo x)
structure BK (n0:Nat) (w:World) (v:Value) (L:List Be):Prop where
 own:w.ownsRow n0 93 5 v L.length (L.flatMap dB)
 tl: ∀x∈L,∃Bx:Nat->Prop,aA Bx w x.1.2.2.kids (uo x)/\∀j,Bx j->n0<=j/\j<w.heap.size/\v.ownBlock≠some j
theorem BK.start (n0:Nat) (w:World):BK n0 w (.slice none 0 0) []:=⟨⟨rfl,.inl ⟨rfl,rfl⟩⟩,fun x hx=>by cases hx⟩
theorem BK.kept {n0:Nat} {w w':World} {v:Value} {L:List Be} {F:Nat->Prop} (h:BK n0 w v L) (hu:aj F w w') (hF: ∀j,n0<=j->j<w.heap.size->¬F j):BK n0 w' v L:=
 ⟨df h.own hu (fun j hj=>hF j (h.own.lt j hj).1 (h.own.lt j hj).2),fun x hx=>by
  obtain⟨Bx,h1,h2⟩:=h.tl x hx;exact⟨Bx,h1.kept hu (fun j hj=>hF j (h2 j hj).1 (h2 j hj).2.1),fun j hj=>⟨(h2 j hj).1,ay (h2 j hj).2.1 hu.size,(h2 j hj).2.2⟩⟩⟩
theorem BK.grow {n0:Nat} {w w6 w7:World} {v v':Value} {L:List Be} {x:Be} {Bx:Nat->Prop} {o:Obj} (h:BK n0 w v L) (hn:n0<=w.heap.size) (h6:Ext w w6) (hT:aA Bx w6 x.1.2.2.kids (uo x)) (hB: ∀j,Bx j->w.heap.size<=j/\j<w6.heap.size)
  (hG:Grew n0 93 5 v (L.length+1) (L.flatMap dB++dB x) (w6.alloc o) w7 v'):BK n0 w7 v' (L++[x]):=by
 have hA:=(uR w6).alloc o;have hU:aj (fun j=>v.ownBlock=some j) w6 w7:=(hA.mono (fun _ _ x=>x.elim)).trans hG.upd;have hbn: ∀j,v'.ownBlock=some j->v.ownBlock=some j\/w6.heap.size<=j:=fun j e=>by
  rcases hG.xE with h|h
  .rw [h] at e;exact .inl e
  .rw [h] at e;injection e with e;exact .inr (by have:=hA.size;omega)
 have hs6:=h6.size;refine⟨?_,fun y hy=>?_⟩
 .have ho:=hG.own;rw[List.length_append,List.flatMap_append];simpa using ho
 .rcases List.mem_append.1 hy with hy|hy
  .obtain ⟨By_,h1,h2⟩:=h.tl y hy;refine⟨By_,((h1.kept h6 (fun _ _ x=>x)).kept hU (fun j hj=>(h2 j hj).2.2)),fun j hj=>⟨(h2 j hj).1,ay (ay (h2 j hj).2.1 hs6) hU.size,fun e=>?_⟩⟩;rcases hbn j e with e|e
   .exact (h2 j hj).2.2 e
   .have:=(h2 j hj).2.1;omega
  .rw [List.mem_singleton] at hy;subst hy;refine⟨Bx,hT.kept hU (fun j hj e=>by have h3:=(h.own.lt j e).2;have h4:=(hB j hj).1;omega),fun j hj=>⟨Nat.le_trans hn (hB j hj).1,ay (hB j hj).2 hU.size,fun e=>?_⟩⟩;rcases hbn j e with e|e
   .have h3:=(h.own.lt j e).2;have h4:=(hB j hj).1;omega
   .have:=(hB j hj).2;omega
theorem BK.bn {n0:Nat} {w w':World} {v:Value} {L L':List Be} (h:BK n0 w v L) (hp:L'.Perm L) (hs:az (fun k=>v.ownBlock=some k) w' 5 v L'.length (L'.flatMap dB)) (hu:aj (fun k=>v.ownBlock=some k) w w'):
  lC (fun k=>n0<=k/\k<w'.heap.size) (fun k=>n0<=k/\k<w'.heap.size) w' v (L'.map (·.1)):=by
 refine⟨L'.map uo,by simp,?_,fun i hi=>?_⟩
 .have e:ou (L'.map (·.1)) (L'.map uo)=L'.flatMap dB:=by
   clear hs hp
   induction L' with
   |nil=>rfl
   |cons x L' ih=>rw[List.map_cons,List.map_cons,List.flatMap_cons];simp only[ou,List.headD_cons,List.tail_cons,ih,dB,List.cons_append,List.nil_append]
  rw[e,List.length_map];exact az.weaken hs (fun k hk=>⟨(h.own.lt k hk).1,ay (h.own.lt k hk).2 hu.size⟩)
 .have hi':i<L'.length:=by simpa using hi
  have e1:Go.Hw.bg (L'.map (·.1)) i=(L'[i]).1:=by
   unfold Go.Hw.bg;rw[List.getD_eq_getElem?_getD,List.getElem?_map,List.getElem?_eq_getElem hi'];rfl
  have e2:ug (L'.map uo) i=uo L'[i]:=by
   unfold ug;rw[List.getD_eq_getElem?_getD,List.getElem?_map,List.getElem?_eq_getElem hi'];rfl
  rw[e1,e2];obtain⟨Bx,h1,h2⟩:=h.tl _ (hp.mem_iff.1 (List.getElem_mem hi'));exact(h1.kept hu (fun j hj=>(h2 j hj).2.2)).weaken (fun j hj=>⟨(h2 j hj).1,ay (h2 j hj).2.1 hu.size⟩)
theorem TU (l:List Be) (b:Nat) (S:Nat->Prop) (w:World) (hM:TbR S w b l) (hS: ∀k,S k->k<w.heap.size) (hsz: ∀x∈l,x.1.2.2.size<=100000) (hl:l.length<=1000000):
  Calls Tryz.prog 65 #[.map (some b)] w fun e w'=> ∃r L,e= .returned r/\lC (fun k=>w.heap.size<=k/\k<w'.heap.size) (fun k=>w.heap.size<=k/\k<w'.heap.size) w' r L/\AscK (Prod.fst:Bd->By) L/\(∀f,f∈L<->((∃x∈l,x.1=f)/\wW f=false))/\Ext w w':=by
 obtain⟨⟨es,clock,hb,hes,hbp,hbc⟩,hnd,htl⟩:=hM;have Ih:Hid ((es.toList.map (·.born)).Nodup):=ae (by
  rw[List.Nodup,List.pairwise_map];exact hbp.imp (fun h e=>by omega))
 have kQ:=ae hbc;have KO:=ae hes;have zU:Hid (uu es.toList (l.map fun x=>x.1.1)):=ae (by
  have:=uu.of hes;rw[List.map_map] at this;exact this)
 have cO:=ae htl;have xJ:=ae hnd;have jf:=ae hS;have dw:=ae hsz;have HL:=ae hl;have hrg:=run_range_map (P:=Tryz.prog) w 98 9 93 b es clock Tryz.underlying98 hb;have hblt:b<w.heap.size:=(Array.getElem?_eq_some_iff.1 hb).1;have vC:=ae hblt;have HB0:=ae (ak hb (.mapIter (some b) clock #[] clock));have HR0:=ae (ai w (.mapIter (some b) clock #[] clock));have cZ:=ae ((uR w).alloc (.mapIter (some b) clock #[] clock));have HZ0:Hid (w.heap.size+1<=(w.alloc (.mapIter (some b) clock #[] clock)).heap.size):=ae (by simp);clear hes hbp hbc hb hblt hnd htl hS hsz hl
 go_enter Tryz.func65,Tryz.ntmps65
 go_wp2_with fail
 try go_frame
 generalize w.alloc (.mapIter (some b) clock #[] clock)=w7 at*;clear hrg
 go_loopg [3] (leftOf es #[]).size (fun gk ov wr=> ∃(oa:Option Addr) (oc:Nat) (L:List Be) (D:List By) (seen:Array Nat),ov= .slice oa L.length oc/\gk=(leftOf es seen).size/\Hid (BK (w.heap.size+1) wr (.slice oa L.length oc) L)/\Hid (wr.heap[w.heap.size]?=some (.mapIter (some b) clock seen clock))/\Hid (wr.heap[b]?=some (.map es clock))/\Hid (Ext w wr)/\Hid (w.heap.size+1<=wr.heap.size)/\Hid (sW es.toList seen D)/\Hid (L.map (·.1)=(D.map fun n=>(DF l n).1).filter fun f=>!wW f))
 case atStart=>exact⟨none,0,[],[],#[],rfl,rfl,ae (BK.start _ _),HR0,HB0,cZ,HZ0,ae (sW.start _),ae rfl⟩
 case round=>
  clear HR0 HB0 cZ HZ0;obtain⟨oa,oc,L,D,seen,rfl,rfl,HG,HRR,jq,HE,pq,HV,Rh⟩:=hrel;rcases run_next_at (P:=Tryz.prog) wr 0 w.heap.size b clock clock seen es clock HRR.out jq.out (fun x hx=>kQ.out x hx) (Nat.le_refl _) with⟨h0,hrun⟩|⟨e,he,w1,hw1,hrun⟩
  .have hnx: ∀ty,(Instr.next (.pointer (some ⟨w.heap.size,0,none⟩)) false ty).run Tryz.prog wr=_:=fun _=>hrun;have hfin:=HV.out.fin zU.out h0;have hLD:(D.map fun n=>(DF l n).1.1)=D:=by
    have: ∀n∈D,(DF l n).1.1=n:=fun n hn=>by
     obtain⟨x,hx,e⟩:=List.mem_map.1 ((hfin n).1 hn);rw[<-e,z_ xJ.out hx]
    rw[List.map_congr_left this,List.map_id']
   have aaS:L.Pairwise fun x y=>x.1.1≠y.1.1:=by
    have h1:((D.map fun n=>(DF l n).1).filter fun f=>!wW f).Pairwise (fun f g=>f.1≠g.1):=by
     refine List.Pairwise.filter _ ?_;rw[List.pairwise_map];have h2:=HV.out.dn;rw[<-hLD,List.Nodup,List.pairwise_map] at h2;exact h2
    rw[<-Rh.out,List.pairwise_map] at h1;exact h1
   have hll:L.length<=1000000:=by
    have h1:(L.map (·.1)).length<=D.length:=by
     rw[Rh.out];refine Nat.le_trans (List.length_filter_le _ _) ?_;rw[List.length_map];exact Nat.le_refl _
    have h2:=HV.out.dn.length_le_of_subset (fun n hn=>(hfin n).1 hn);rw[List.length_map] at h1 h2;have:=HL.out;omega
   have hmem: ∀f,f∈L.map (·.1)<->((∃x∈l,x.1=f)/\wW f=false):=fun f=>by
    rw[Rh.out,List.mem_filter,List.mem_map];constructor
    .rintro ⟨⟨n,hn,e⟩,h2⟩;obtain⟨x,hx,e2⟩:=List.mem_map.1 ((hfin n).1 hn);refine⟨⟨x,hx,?_⟩,by simpa using h2⟩;rw[<-e,<-e2,z_ xJ.out hx]
    .rintro ⟨⟨x,hx,e⟩,h2⟩;refine⟨⟨x.1.1,(hfin _).2 (List.mem_map.2 ⟨x,hx,rfl⟩),by rw[z_ xJ.out hx,e]⟩,by rw[h2];rfl⟩
   have HST:=ae (fun W (hW:Ext wr W)=>TT L (w.heap.size+1) (.slice oa L.length oc) W (df HG.out.own hW (fun _ _ h=>h)) aaS hll);have nI:=ae hmem;clear hfin hll h0 hLD aaS hmem
   go_wp2_with fail
   refine(HST.out _ (aj.refl _ _)).mono ?_;rintro e w8 ⟨rfl,L',ha,hperm,hF,hu⟩;have rD:=ae (HG.out.bn hperm hF hu);have HAS:Hid (AscK (Prod.fst:Bd->By) (L'.map (·.1))):=ae (by
    unfold AscK at ha⊢;rw[List.pairwise_map];exact ha)
   have HMM:Hid (∀f,f∈L'.map (·.1)<->((∃x∈l,x.1=f)/\wW f=false)):=ae (fun f=>by rw[(hperm.map (·.1)).mem_iff];exact nI.out f);have bV:Hid (Ext w w8):=ae (HE.out.trans' hu (fun j hj e=>by have h1:=(HG.out.own.lt j e).1;omega));clear hnx hrun ha hperm hF hu HST
   go_wp2_with fail
   go_ret;exact⟨_,_,rfl,rD.out.weaken (fun k hk=>⟨by omega,hk.2⟩) (fun k hk=>⟨by omega,hk.2⟩),HAS.out,HMM.out,bV.out⟩
  .have hml:=mem_left he;obtain⟨nm0,ami,hk0⟩:=zU.out.name hml.1;obtain⟨x,hx,hkv⟩: ∃x∈l,(Value.string x.1.1,Value.agg (dB x).toArray)=(e.key,e.val):=by
    have h1:(e.key,e.val)∈es.toList.map (fun e=>(e.key,e.val)):=List.mem_map.2 ⟨e,hml.1,rfl⟩;rw[KO.out,List.map_map] at h1;obtain⟨x,hx,h2⟩:=List.mem_map.1 h1;exact⟨x,hx,h2⟩
   have hk:e.key= .string x.1.1:=by injection hkv with h1 _;exact h1.symm
   have hvv:e.val= .agg (dB x).toArray:=by injection hkv with _ h1;exact h1.symm
   have hxl:=cO.out x hx;have hxz:=dw.out x hx;have hbx:=z_ xJ.out hx;have hrw:w1.heap[w.heap.size]?=some (.mapIter (some b) clock seen clock):=by rcases hw1 with h|h<;>(rw[h];exact HRR.out)
   have hrb:w1.heap[b]?=some (.map es clock):=by rcases hw1 with h|h<;>(rw[h];exact jq.out)
   have hu1:aj (fun j=>j=w.heap.size) wr (Go.ChangeMaps.setBlock w1 w.heap.size (.mapIter (some b) clock (seen.push e.born) clock)):=by
    have:=sN w1 w.heap.size (.mapIter (some b) clock (seen.push e.born) clock);rcases hw1 with h|h
    .rw [h] at this⊢;exact this
    .rw [h] at this⊢;exact this.Dt
   have hr2:=qB (o':= .mapIter (some b) clock (seen.push e.born) clock) hrw;rw[hk,hvv] at hrun;generalize Go.ChangeMaps.setBlock w1 w.heap.size (.mapIter (some b) clock (seen.push e.born) clock)=wN at*;have rD:=ae (hu1.heap jq.out (by have:=vC.out;omega));have jD:=ae hr2;have hen:=run_entry_at (P:=Tryz.prog) wN w.heap.size b clock seen es clock e hr2 rD.out hml.1 Ih.out;rw[hk,hvv] at hen;have hnx: ∀ty,(Instr.next (.pointer (some ⟨w.heap.size,0,none⟩)) false ty).run Tryz.prog wr=_:=fun _=>hrun;have HGN:=ae (HG.out.kept hu1 (fun j hj _ e=>by omega));have KE:Hid (Ext w wN):=ae (HE.out.trans' hu1 (fun j hj e=>by omega));have jE:=ae (HV.out.next zU.out xJ.out Ih.out hml.1 hml.2 hk);have KP:=ae (left_shrinks es seen e he);have gU:Hid (w.heap.size+1<=wN.heap.size):=ae (Nat.le_trans pq.out hu1.size);have hll:L.length<=1000000:=by
    have h1:(L.map (·.1)).length<=D.length:=by
     rw[Rh.out];refine Nat.le_trans (List.length_filter_le _ _) ?_;rw[List.length_map];exact Nat.le_refl _
    have h2:=HV.out.dn.length_le_of_subset (HV.out.sub' zU.out);rw[List.length_map] at h1 h2;have:=HL.out;omega
   have xM:=ae hll;clear hml hk hvv hrw hrb hu1 hr2 he hw1 hkv ami hk0 hll;obtain⟨⟨nm,so,t⟩,xa,xm,xc⟩:=x;obtain rfl:xm=t.kids.length:=by
    obtain⟨a,c,h⟩:=hxl.shape;injection h
   have HXL:=ae hxl;have HXZ:=ae hxz;have je:=ae hbx;clear hxl hxz hbx;simp only[dB,uo] at hrun hen HXL je;have hb5:=ai wN (.cells #[.string nm,.string so,.string t.name,.string t.sort,.slice xa t.kids.length xc] 93);have fE:=ae hb5;have dX:=ae (KE.out.alloc (.cells #[.string nm,.string so,.string t.name,.string t.sort,.slice xa t.kids.length xc] 93));have hIS:=fun W=>amg t xa xc nm so W;dsimp only[tV] at hIS;have HIS:=ae hIS;obtain⟨sf,hsf⟩: ∃b,wW (nm,so,t)=b:=⟨_,rfl⟩
   have CO:=ae hsf;have oK:V9 t nm so=sf:=hsf;rw[oK] at HIS;have HEX:=ae ((uR wN).alloc (.cells #[.string nm,.string so,.string t.name,.string t.sort,.slice xa t.kids.length xc] 93));clear hb5 hIS hsf oK
   go_wp2_with(fail)
   refine(HIS.out _).mono ?_;rintro e2 w5 ⟨rfl,hw5⟩;have eQ:=ae (dX.out.trans hw5);have fP:=ae (HEX.out.trans hw5);have iG:=ae (hw5.heap fE.out (fun h=>h));have Fp:=ae (fP.out.heap jD.out (fun h=>h));have HM6:=ae (fP.out.heap rD.out (fun h=>h));have Oe:=ae (HGN.out.kept fP.out (fun _ _ _ h=>h));have xx:Hid (w.heap.size+1<=w5.heap.size):=ae (Nat.le_trans gU.out fP.out.size);clear hw5 hnx hrun hen HIS HGN rD jD KE dX fE HEX gU;cases sf with
   |true=>
    have YI:Hid (L.map (·.1)=((D++[nm]).map fun n=>(DF l n).1).filter fun f=>!wW f):=ae (by
     rw[List.map_append,List.filter_append,<-Rh.out,List.map_singleton,je.out];simp[CO.out])
    go_wp2_with fail
    have hlt:=KP.out
    go_roundg (leftOf es (seen.push e.born)).size
    case measure=>exact hlt
    case rel=>exact⟨_,_,L,D++[nm],_,rfl,rfl,Oe,Fp,HM6,eQ,xx,jE,YI⟩
   |false=>
    have b0:=af iG.out 0 (.string nm) rfl;have b1:=af iG.out 1 (.string so) rfl;have b2:=af iG.out 2 (.string t.name) rfl;have b3:=af iG.out 3 (.string t.sort) rfl;have b4:=af iG.out 4 (.slice xa t.kids.length xc) rfl;obtain⟨nb,hnb⟩: ∃n,wN.heap.size=n:=⟨_,rfl⟩
    rw[hnb] at b0 b1 b2 b3 b4⊢;clear hnb;have sZ:=ae (fun W (hW:Ext w5 W)=>DI t _ S W ⟨xa,xc,rfl,HXL.out.ext (eQ.out.trans hW)⟩ (fun j hj=>ay (jf.out j hj) (Nat.le_trans eQ.out.size hW.size)) HXZ.out);dsimp only[tV] at sZ;have dS:Hid (Ext w5 w5):=ae (aj.refl _ _);obtain⟨iT,hi,hz0,hz1,hz2⟩:=info_parts aeJ
    go_wp2_with fail
    go_region_law (first
     |(refine dP _ (.tmp 20) (.tmp 29) 27 rfl (w.heap.size+1) 93 iT (.agg #[.string ⟨#[]⟩,.string ⟨#[]⟩,.string ⟨#[]⟩,.string ⟨#[]⟩,.slice none 0 0]) 5 88 Tryz.underlying27 hi hz0 hz1 hz2 rfl (by decide) _ _ _ rfl YJ.out _ 1 1 [Value.string nm,.string so,.string t.name,.string t.sort,.slice ya t.kids.length yc] rfl rfl oN.out mW.out jA.out.1 jA.out.2.1 jA.out.2.2 ?_;intro v7 w7 dE;obtain⟨a7,c7,hv7⟩:=bJ dE.own;subst hv7;have mD:=ae dE;clear dE)
     |(go_simp;refine(sZ.out w5.drew dS.out.drew).mono ?_;rintro e3 w6 ⟨r,Bx,rfl,xN,hb6,hw6⟩;obtain⟨ya,yc,jB⟩:=aG.shape xN;subst jB;have wK:Hid (Ext w5 w6):=ae (((uR w5).drewN' 1).trans hw6);have H_:=ae xN.read;have TV:Hid (∀j,Bx j->w5.heap.size<=j/\j<w6.heap.size):=ae hb6;have YJ:Hid ((w6.alloc (.cells #[.string nm,.string so,.string t.name,.string t.sort,.slice ya t.kids.length yc] 93)).ownsRow (w.heap.size+1) 93 5 (.slice oa L.length oc) L.length (L.flatMap dB)):=ae ((df Oe.out.own wK.out (fun _ _ h=>h)).alloc _);have oN:Hid (∀(j:Nat) (u:Value),[Value.string nm,.string so,.string t.name,.string t.sort,.slice ya t.kids.length yc][j]?=some u->(w6.alloc (.cells #[.string nm,.string so,.string t.name,.string t.sort,.slice ya t.kids.length yc] 93)).cell? ((⟨w6.heap.size,0,none⟩:Addr).add j)=some u):=ae (amh w6 _ _ _ _ _ 93);have mW:Hid (∀u∈[Value.string nm,.string so,.string t.name,.string t.sort,.slice ya t.kids.length yc],u.oneCell'=true):=ae (fun u hu=>by simp at hu;rcases hu with h|h|h|h|h<;>(subst h;rfl));have jA:Hid (L.length+1<=maxLen/\(L.length+1)*88<=140737488355328/\w.heap.size+1<=(w6.alloc (.cells #[.string nm,.string so,.string t.name,.string t.sort,.slice ya t.kids.length yc] 93)).heap.size):=ae ⟨by unfold maxLen;have:=xM.out;omega,by have:=xM.out;omega,by have h1:=wK.out.size;have h2:=xx.out;simp;omega⟩;have d0:=wK.out.cell b0 (fun h=>h);have d1:=wK.out.cell b1 (fun h=>h);have d2:=wK.out.cell b2 (fun h=>h);have d3:=wK.out.cell b3 (fun h=>h);have d4:=wK.out.cell b4 (fun h=>h);clear xN hb6 hw6 sZ))
    all_goals
     go_wp2_with fail
     try go_frame
     have hlen:(L++[(((nm,so,t),ya,t.kids.length,yc):Be)]).length=L.length+1:=by simp
     have HG8:=ae (Oe.out.grow xx.out wK.out (x:=((nm,so,t),ya,t.kids.length,yc)) H_.out TV.out mD.out);have dG:Hid (aj (fun j=>(Value.slice oa L.length oc).ownBlock=some j) w5 w7):=ae (((wK.out.alloc (.cells #[.string nm,.string so,.string t.name,.string t.sort,.slice ya t.kids.length yc] 93)).mono (fun _ _ x=>x.elim)).trans mD.out.upd);have hol: ∀j,(Value.slice oa L.length oc).ownBlock=some j->w.heap.size+1<=j:=fun j e=>(Oe.out.own.lt j e).1;have bV:Hid (Ext w w7):=ae (eQ.out.trans' dG.out (fun j hj e=>by have h1:=hol j e;omega));have HR8:=ae (dG.out.heap Fp.out (fun e=>by have h1:=hol _ e;omega));have HM8:=ae (dG.out.heap HM6.out (fun e=>by have h1:=hol _ e;have:=vC.out;omega));have ji:Hid (w.heap.size+1<=w7.heap.size):=ae (Nat.le_trans xx.out dG.out.size);have YI:Hid ((L++[(((nm,so,t),ya,t.kids.length,yc):Be)]).map (·.1)=((D++[nm]).map fun n=>(DF l n).1).filter fun f=>!wW f):=ae (by
      rw[List.map_append,List.map_append,List.filter_append,<-Rh.out,List.map_singleton,List.map_singleton,je.out];simp[CO.out])
     rw[<-hlen] at HG8⊢;have hlt:=KP.out;clear hol hi hz0 hz1 hz2
     go_roundg (leftOf es (seen.push e.born)).size
     case measure=>exact hlt
     case rel=>exact⟨a7,c7,_,D++[nm],_,rfl,rfl,HG8,HR8,HM8,bV,ji,jE,YI⟩
def oQ:List Be->Be->List Be
 |[],x=>[x]
 |y::l,x=>if y.1.1=x.1.1 then x::l else y::oQ l x
theorem DJ: ∀(l:List Be) (x:Be),(oQ l x).map (fun x=>(x.1.1,Value.agg (dB x).toArray))=nO (l.map fun x=>(x.1.1,Value.agg (dB x).toArray)) x.1.1 (.agg (dB x).toArray)
 |[],x=>rfl
 |y::l,x=>by
  unfold oQ;rw[List.map_cons];unfold nO;by_cases h:y.1.1=x.1.1
  .rw [if_pos h,if_pos h,List.map_cons]
  .rw [if_neg h,if_neg h,List.map_cons,DJ l x]
theorem Gm: ∀{l:List Be} {x:Be} (hd:(l.map fun x=>x.1.1).Nodup) (z:Be),z∈oQ l x<->z=x\/(z∈l/\z.1.1≠x.1.1)
 |[],x,_,z=>by unfold oQ;simp
 |y::l,x,hd,z=>by
  rw[List.map_cons,List.nodup_cons] at hd;unfold oQ;by_cases h:y.1.1=x.1.1
  .rw [if_pos h,List.mem_cons,List.mem_cons];constructor
   .rintro (e|e)
    .exact .inl e
    .exact .inr ⟨.inr e,fun e2=>hd.1 (by rw[h,<-e2];exact List.mem_map.2 ⟨z,e,rfl⟩)⟩
   .rintro (e|⟨e|e,e2⟩)
    .exact .inl e
    .subst e;exact absurd h e2
    .exact .inr e
  .rw [if_neg h,List.mem_cons,List.mem_cons,Gm hd.2 z];constructor
   .rintro (e|e|⟨e,e2⟩)
    .subst e;exact .inr ⟨.inl rfl,h⟩
    .exact .inl e
    .exact .inr ⟨.inr e,e2⟩
   .rintro (e|⟨e|e,e2⟩)
    .exact .inr (.inl e)
    .exact .inl e
    .exact .inr (.inr ⟨e,e2⟩)
theorem qE: ∀{l:List Be} {x:Be},x.1.1∈(l.map fun x=>x.1.1)->(oQ l x).map (fun x=>x.1.1)=l.map fun x=>x.1.1
 |y::l,x,h=>by
  unfold oQ;by_cases e:y.1.1=x.1.1
  .rw [if_pos e,List.map_cons,List.map_cons,e]
  .rw [if_neg e,List.map_cons,List.map_cons,qE (by
    rw[List.map_cons,List.mem_cons] at h;rcases h with h|h
    .exact absurd h.symm e
    .exact h)]
theorem Aa: ∀{l:List Be} {x:Be},x.1.1∉(l.map fun x=>x.1.1)->(oQ l x).map (fun x=>x.1.1)=(l.map fun x=>x.1.1)++[x.1.1]
 |[],x,h=>rfl
 |y::l,x,h=>by
  rw[List.map_cons,List.mem_cons,not_or] at h;unfold oQ;rw[if_neg (fun e=>h.1 e.symm),List.map_cons,List.map_cons,Aa h.2];rfl
theorem TW {l:List Be} {x:Be} (hd:(l.map fun x=>x.1.1).Nodup):((oQ l x).map fun x=>x.1.1).Nodup:=by
 by_cases h:x.1.1∈(l.map fun x=>x.1.1)
 .rw [qE h];exact hd
 .rw [Aa h,List.nodup_append];exact⟨hd,by simp,fun a ha b hb e=>by rw[List.mem_singleton] at hb;subst hb;subst e;exact h ha⟩
def y_ (v:Vd):Be:=((v.1,v.2,.mk v.1 v.2 []),none,0,0)
def lg (vs:List Vd):List Be:=vs.foldl (fun l v=>oQ l (y_ v)) []
theorem KT (vs:List Vd) (v:Vd):lg (vs++[v])=oQ (lg vs) (y_ v):=by unfold lg;rw[List.foldl_append];rfl
theorem We: ∀(vs:List Vd),(∀v∈vs,∀u∈vs,v.1=u.1->v=u)->((lg vs).map fun x=>x.1.1).Nodup/\∀z,z∈lg vs<->∃v∈vs,z=y_ v:=by
 intro vs
 suffices H: ∀n,∀vs:List Vd,vs.length=n->(∀v∈vs,∀u∈vs,v.1=u.1->v=u)->((lg vs).map fun x=>x.1.1).Nodup/\∀z,z∈lg vs<->∃v∈vs,z=y_ v from H _ vs rfl
 intro n
 induction n with
 |zero=>
  intro vs h _;rw[List.eq_nil_of_length_eq_zero h];exact⟨List.nodup_nil,fun z=>by unfold lg;simp⟩
 |succ n ih=>
  intro vs h hc;obtain⟨ws,v,rfl⟩: ∃ws v,vs=ws++[v]:=⟨vs.dropLast,vs.getLast (by intro e;rw[e] at h;cases h),(List.dropLast_concat_getLast _).symm⟩
  obtain⟨h1,h2⟩:=ih ws (by simpa using h) (fun a ha b hb=>hc a (List.mem_append_left _ ha) b (List.mem_append_left _ hb));rw[KT];refine⟨TW h1,fun z=>?_⟩;rw[Gm h1];constructor
  .rintro (e|⟨e,e2⟩)
   .exact ⟨v,List.mem_append_right _ (List.mem_singleton.2 rfl),e⟩
   .obtain ⟨u,hu,e3⟩:=(h2 z).1 e;exact⟨u,List.mem_append_left _ hu,e3⟩
  .rintro ⟨u,hu,e⟩;by_cases he:u.1=v.1
   .have:=hc u hu v (List.mem_append_right _ (List.mem_singleton.2 rfl)) he;rw[this] at e;exact .inl e
   .rcases List.mem_append.1 hu with hu|hu
    .exact .inr ⟨(h2 z).2 ⟨u,hu,e⟩,by rw[e];exact he⟩
    .rw [List.mem_singleton] at hu;rw[hu] at he;exact absurd rfl he
theorem Wh {es es':Array MapEntry} (h:es'.toList.map (·.born)=es.toList.map (·.born)) (seen:Array Nat):(leftOf es' seen).size=(leftOf es seen).size:=by
 have key: ∀es:Array MapEntry,(leftOf es seen).size=((es.toList.map (·.born)).filter fun b=>!seen.contains b).length:=fun es=>by
  unfold leftOf;rw[<-Array.length_toList,Array.toList_filter,List.filter_map,List.length_map];rfl
 rw[key,key,h]
theorem YK {es es':List MapEntry} (h1:es.map (·.key)=es'.map (·.key)) (h2:es.map (·.born)=es'.map (·.born)):es.map (fun e=>(e.key,e.born))=es'.map (fun e=>(e.key,e.born)):=by
 have h: ∀es:List MapEntry,es.map (fun e=>(e.key,e.born))=(es.map (·.key)).zip (es.map (·.born)):=fun es=>by
  induction es with
  |nil=>rfl
  |cons e es ih=>simp only[List.map_cons,List.zip_cons_cons,ih]
 rw[h,h,h1,h2]
theorem dN.upd {P:Program} {et t kt:TypeId} (K:Ip P kt (fun s:ByteArray=>Value.string s)) (ht:P.underlying t=some (.map kt et)) {w:World} {b:Nat} {es:Array MapEntry} {cl:Nat} {l:List (By×Value)} (h1:w.heap[b]?=some (.map es cl)) (h2:es.toList.map (fun e=>(e.key,e.val))=l.map (fun p=>(Value.string p.1,p.2))) (k:By) (v:Value) (hk:k∈l.map (·.1)):
  ∃w' es',(Instr.mapUpdate t (.map (some b)) (.string k) v).run P w= .ok () w'/\w'.heap[b]?=some (.map es' cl)/\es'.toList.map (fun e=>(e.key,e.val))=(nO l k v).map (fun p=>(Value.string p.1,p.2))/\es'.toList.map (·.born)=es.toList.map (·.born)/\aj (fun j=>j=b) w w':=by
 have hf:=K.find k es.toList l w h2;have hc:=K.check false k w;have hblt:=(Array.getElem?_eq_some_iff.1 h1).1;have JD: ∀o,aj (fun j=>j=b) w {w with heap:=w.heap.setIfInBounds b o}:=fun o=>
  ⟨rfl,rfl,rfl,by simp,fun i hi hF=>by simp[Ne.symm (show i≠b from hF)]⟩
 rw[Ob];generalize hx:(l.findIdx? fun p=>decide (p.1=k))=x at*;cases x with
 |none=>
  rw[List.findIdx?_eq_none_iff] at hx;obtain⟨p,hp,e⟩:=List.mem_map.1 hk;have:=hx p hp;rw[e] at this;simp at this
 |some i=>
  have hi:i<l.length:=by
   rw[List.findIdx?_eq_some_iff_getElem] at hx;exact hx.1
  have hlen:es.size=l.length:=by
   have:=congrArg List.length h2;simpa using this
  have hki:(l[i]'hi).1=k:=by
   rw[List.findIdx?_eq_some_iff_getElem] at hx;simpa using hx.2.1
  have hes:(es[i]'(by omega)).key= .string k:=by
   have h5:(es.toList.map (fun e=>(e.key,e.val)))[i]?=(l.map (fun p=>(Value.string p.1,p.2)))[i]?:=by rw[h2]
   rw[List.getElem?_map,List.getElem?_map,Array.getElem?_toList,Array.getElem?_eq_getElem (show i<es.size by omega),List.getElem?_eq_getElem hi] at h5;simp only[Option.map_some] at h5;have h6:=congrArg Prod.fst (Option.some.inj h5);simp only at h6;rw[h6,hki]
  have hst:(Instr.keyThatStays (((es[i]?).map (·.key)).getD (.string k)) (.string k)).run P w= .ok (.string k) w:=by
   rw[Array.getElem?_eq_getElem (show i<es.size by omega)];simp only[Option.map_some,Option.getD_some,hes];unfold Instr.keyThatStays;rw[if_pos (K.same k)];rfl
  refine⟨_,es.modify i fun e=>{e with key:= .string k,val:=v},by simp[Instr.mapUpdate,run_underlying ht,MapKept.run_getObj_map h1,hc,hf,hst,MapKept.run_setObj_map _ h1,Result.andThen];rfl,by simp[hblt],?_,?_,JD _⟩
  .rw [Array.toList_modify];apply List.ext_getElem?;intro j;have h5:(es.toList.map (fun e=>(e.key,e.val)))[j]?=(l.map (fun p=>(Value.string p.1,p.2)))[j]?:=by rw[h2]
   simp only[List.getElem?_map,List.getElem?_modify,List.getElem?_set] at h5⊢;by_cases e:i=j
   .subst e;rw[if_pos rfl,if_pos hi];rw[Array.getElem?_toList,Array.getElem?_eq_getElem (show i<es.size by omega)];simp
   .rw [if_neg e];cases hq:es.toList[j]? with
    |none=>rw[hq] at h5;simpa using h5
    |some u=>rw[hq] at h5;simpa[e] using h5
  .rw [Array.toList_modify];apply List.ext_getElem?;intro j;simp only[List.getElem?_map,List.getElem?_modify];cases es.toList[j]? with
   |none=>rfl
   |some u=>simp only[Option.map_some];split<;>rfl
theorem Ur.kept {T:List Nr} {ad:Nat->Nat×Nat} {S F:Nat->Prop} {CT UT:TypeId} {bv bn ub:Nat} {bk:List Nat} {st:St} {w w':World} (h:Ur T ad S CT UT bv bn ub bk st w) (hu:aj F w w') (hF: ∀k,(Fb bv bn bk k\/S k\/k=ub)->¬F k):Ur T ad S CT UT bv bn ub bk st w':=
 ⟨h.us.ext hu (fun k hk=>hF k (.inl hk)),h.nd.kept hu (fun k hk=>hF k (.inr (.inl hk))),hu.heap h.u (hF _ (.inr (.inr rfl))),h.un,fun k hk=>⟨ay (h.sn k hk).1 hu.size,(h.sn k hk).2⟩⟩
theorem eH.outside {T:List Nr} {ad:Nat->Nat×Nat} {S F:Nat->Prop} {CT UT:TypeId} {bv bn ub:Nat} {bk bk':List Nat} {st':St} {w w' w'':World} (h:eH T ad S CT UT bv bn ub bk bk' st' w w') (hu:aj F w' w'') (hF: ∀k,(Fb bv bn bk' k\/S k\/k=ub)->¬F k) (hl: ∀j,j<w.heap.size->¬F j):eH T ad S CT UT bv bn ub bk bk' st' w w'':=
 ⟨Ur.kept h.ur hu hF,h.upd.trans' hu (fun j hj hf=>absurd hf (hl j hj)),h.pre,h.new⟩
theorem acB (l:List Vd) (k:Nat) (h:k<l.length):l.drop k=vg l k::l.drop (k+1):=by
 rw[List.drop_eq_getElem_cons h];unfold vg;rw[List.getD_eq_getElem?_getD,List.getElem?_eq_getElem h];rfl
theorem EE (l:List Vd) (k:Nat) (h:k<l.length):l.take (k+1)=l.take k++[vg l k]:=by
 rw[List.take_add_one];unfold vg;rw[List.getD_eq_getElem?_getD,List.getElem?_eq_getElem h];rfl
def Og (T:List Nr) (F:Nat):St->List Vd->Option (St×Bool)
 |st,[]=>some (st,true)
 |st,v::vs=>match qP F st v.1 v.2 with
  |none=>none
  |some (st1,c)=>match Fq T F st1 c with
   |none=>none
   |some (st2,false)=>some (st2,false)
   |some (st2,true)=>Og T F st2 vs
def nC (T:List Nr) (F:Nat) (vs:List Vd):Option (Option St):=match KU T F ⟨[],[],[]⟩ 0 1 with
 |none=>none
 |some (_,false)=>some none
 |some (st1,true)=>match Og T F st1 vs with
  |none=>none
  |some (_,false)=>some none
  |some (st2,true)=>match jl T F st2 0 with
   |none=>none
   |some (f_,c)=>match Fq T F f_ c with
    |none=>none
    |some (_,false)=>some none
    |some (DK,true)=>some (some DK)
theorem xh {T:List Nr} {ad:Nat->Nat×Nat} {S:Nat->Prop} (F:Nat) (a b:Tm) (aa ba:Option Addr) (ac bc:Nat) (w:World) (htab:bT w)
  (hA:bC (fun k=>k<w.heap.size) w a (tV a (.slice aa a.kids.length ac))) (hB:bC (fun k=>k<w.heap.size) w b (tV b (.slice ba b.kids.length bc))) (hsa:a.size<=100000) (hsb:b.size<=100000) (ha:wf ax a=true) (hb:wf ax b=true)
  (hc: ∀v∈(aO a++aO b),∀u∈(aO a++aO b),v.1=u.1->v=u) (hso: ∀v∈(aO a++aO b),v.2≠ah) (aeN:ad 0=(w.heap.size,0)) (aeO:ad 1=(w.heap.size+1,0))
  (hN: ∀W,Ext w W->W.heap[w.heap.size]?=some (tO a aa ac)->W.heap[w.heap.size+1]?=some (tO b ba bc)->DL T ad S W) (hS: ∀k,S k->k<w.heap.size+2)
  (hTB: ∀(i:Nat) (r:Nr),T[i]?=some r->r.ks.length<=1000000) (R:Option St) (hR:nC T F (aO a++aO b)=some R)
  (τ:Vd->Tm) (hfin: ∀st,R=some st->∀v∈(aO a++aO b),∃c C,(qp st.vs v.1).isSome=true/\qP F st v.1 v.2=some (st,c)/\st.cs[c]?=some C/\C.sz<=1000/\C.dp<=60/\Oh T st F c=some (τ v)/\(τ v).size<=100000):
  Calls Tryz.prog 17 #[tV a (.slice aa a.kids.length ac),tV b (.slice ba b.kids.length bc)] w fun e w'=>((R=none/\e= .returned (.tuple #[.slice none 0 0,.int .i64 12]))\/(R≠none/\∃r L,e= .returned (.tuple #[r,.int .i64 0])/\lC (fun k=>w.heap.size<=k/\k<w'.heap.size) (fun k=>w.heap.size<=k/\k<w'.heap.size) w' r L/\AscK (Prod.fst:Bd->By) L/\(∀f,f∈L<->((∃v∈(aO a++aO b),f=(v.1,v.2,τ v))/\wW f=false))))/\Ext w w':=by
 have HA:=ae hA;have HB:=ae hB;have HAT:=ae htab;have HC:=ae hc;have yw:=ae hso;have tq:=ae hfin;have HTB:=ae hTB;have sH:=ae (And.intro hsa hsb);have lH:=ae (And.intro ha hb);have jf:=ae hS;have xJ:=ae hN;have HAD:=ae (And.intro aeN aeO);have HRR:=ae hR;have HGV:=ae (fun W (hW:Ext w W)=>YL a b _ _ W (aC htab hW) ((HA.out.ext hW).weaken (fun k hk=>ay hk hW.size)) ((HB.out.ext hW).weaken (fun k hk=>ay hk hW.size)) (by omega) (by omega) ha hb (fun v hv u hu e=>by rw[hc v (List.mem_append_left _ hv) u (List.mem_append_right _ hu) e]));have qj:=ae (fun W (hW:Ext w W)=>qY a _ W (aC htab hW) ((HA.out.ext hW).weaken (fun k hk=>ay hk hW.size)) (by omega));have Ac:=ae (fun W (hW:Ext w W)=>qY b _ W (aC htab hW) ((HB.out.ext hW).weaken (fun k hk=>ay hk hW.size)) (by omega));rw[oU ha] at qj;rw[oU hb] at Ac;dsimp only[tV] at HGV qj Ac⊢;have hZ:=((uR w).alloc (tO a aa ac)).alloc (tO b ba bc);have hb2:=ak (ai w (tO a aa ac)) (tO b ba bc);have hb3:=alloc_at (w.alloc (tO a aa ac)) (tO b ba bc) (n:=w.heap.size+1) (by simp);have hsz:w.heap.size+2<=((w.alloc (tO a aa ac)).alloc (tO b ba bc)).heap.size:=by simp
 clear hA hB htab hc hso hfin hTB hsa hsb ha hb hS hN aeN aeO hR;obtain⟨x0,x1,x2⟩:=ag hb2;obtain⟨y0,y1,y2⟩:=ag hb3;have HZ:=ae hZ;have H2:=ae hb2;have H3:=ae hb3;have Wi:=ae hsz;clear hZ hb2 hb3 hsz
 go_enter Tryz.func17,Tryz.ntmps17
 go_wp2_with fail
 refine(HGV.out _ HZ.out).mono ?_;rintro e w3 ⟨rfl,hw3⟩;have aS:=ae (HZ.out.trans hw3);have gV:Hid (w.heap.size+2<=w3.heap.size):=ae (Nat.le_trans Wi.out hw3.size);have Ad:=ae (hw3.heap H2.out (fun h=>h));have uw:=ae (hw3.heap H3.out (fun h=>h));clear hw3 x0 x1 x2 y0 y1 y2 H2 H3 HZ HGV Wi;obtain⟨bv,hbv⟩: ∃n,w3.heap.size=n:=⟨_,rfl⟩
 obtain⟨bn,hbn⟩: ∃n,bv+1=n:=⟨_,rfl⟩
 obtain⟨ub,hub⟩: ∃n,bn+1=n:=⟨_,rfl⟩
 have hx4:=(((uR w3).alloc (.map #[] 0)).alloc (.map #[] 0)).alloc (.cells #[.map (some bv),.map (some bn)] 108);have hmv:dN (fun s:ByteArray=>Value.string s) (((w3.alloc (.map #[] 0)).alloc (.map #[] 0)).alloc (.cells #[.map (some bv),.map (some bn)] 108)) bv []:=by
  have:=dN.made (fun s:ByteArray=>Value.string s) w3;rw[hbv] at this;exact this.ext (((uR _).alloc _).alloc _)
 have hmn:dN iW (((w3.alloc (.map #[] 0)).alloc (.map #[] 0)).alloc (.cells #[.map (some bv),.map (some bn)] 108)) bn []:=by
  have:=dN.made iW (w3.alloc (.map #[] 0));rw[show(w3.alloc (.map #[] 0)).heap.size=bn by simp;omega] at this;exact this.ext ((uR _).alloc _)
 have aeQ:=alloc_at ((w3.alloc (.map #[] 0)).alloc (.map #[] 0)) (.cells #[.map (some bv),.map (some bn)] 108) (n:=ub) (by simp;omega);have Nb:(((w3.alloc (.map #[] 0)).alloc (.map #[] 0)).alloc (.cells #[.map (some bv),.map (some bn)] 108)).heap.size=bv+3:=by simp;omega
 have hmm:= @run_makeMap Tryz.prog
 go_wp2_with fail
 generalize (((w3.alloc (.map #[] 0)).alloc (.map #[] 0)).alloc (.cells #[.map (some bv),.map (some bn)] 108))=w4 at*;have gQ:Hid (w.heap.size+2<=bv/\bn=bv+1/\ub=bv+2/\w4.heap.size=bv+3):=ae ⟨by rw[<-hbv];exact gV.out,hbn.symm,by omega,Nb⟩;have wL:Hid (Ext w3 w4):=ae hx4;have aeR:Hid (Ext w w4):=ae (aS.out.trans hx4);have Ae:=ae (hx4.heap Ad.out (fun h=>h));have uz:=ae (hx4.heap uw.out (fun h=>h));have uk:Hid (Ur T ad S 121 108 bv bn ub [] ⟨[],[],[]⟩ w4):=ae ⟨⟨hmv,hmn,rfl,by simp;omega,fun c x h=>by simp at h,fun e h=>(by cases h),fun e h=>(by cases h),fun x h=>(by cases h)⟩,
  xJ.out _ aeR.out Ae.out uz.out,aeQ,(by rintro(h|h|h)<;>first|omega|cases h),fun k hk=>⟨by have:=jf.out k hk;have:=gQ.out;omega,by rintro(h|h|h)<;>first|(have:=jf.out k hk;have:=gQ.out;omega)|cases h⟩⟩
 have bI:Hid (∀W,aj (Fb bv bn []) w4 W->Ext w W):=ae (fun W hW=>aeR.out.trans' hW (fun j hj h=>by have:=gQ.out;rcases h with h|h|h<;>first|omega|cases h));clear hmv hmn aeQ Nb hbv hbn hub hx4 hmm Ad uw wL gV aS;have hR:=HRR.out;unfold nC at hR;cases hun:KU T F ⟨[],[],[]⟩ 0 1 with
 |none=>rw[hun] at hR;cases hR
 |some q=>
 obtain⟨st1,ok1⟩:=q;rw[hun] at hR;have tu:=ae (acC HTB.out F [] ⟨[],[],[]⟩ st1 w4 0 1 ok1 uk.out hun);rw[HAD.out.1,HAD.out.2] at tu;have HR1:=ae hR;clear hR hun;refine tu.out.mono ?_;rintro e w5 ⟨rfl,bk1,hu1⟩;have Af:=ae (bI.out _ hu1.upd);have TY:=ae hu1;clear hu1 tu;have hR:=HR1.out;cases ok1 with
 |false=>
  simp only at hR;have Wj:R=none:=by injection hR with h;exact h.symm
  subst Wj
  go_wp2_with fail
  go_ret2
  exact⟨rfl,Af.out⟩
 |true=>
 simp only at hR;have HR2:=ae hR;have hn2: ∀k,k<w.heap.size+2->¬Fb bv bn [] k:=fun k h1 h=>by have:=gQ.out;rcases h with h|h|h<;>first|omega|cases h
 have Oi:=ae (TY.out.upd.heap Ae.out (hn2 _ (by omega)));have Ir:=ae (TY.out.upd.heap uz.out (hn2 _ (by omega)));clear hn2 Ae uz HR1 hR;obtain⟨x0,x1,x2⟩:=ag Oi.out
 go_wp2_with fail
 refine(qj.out _ Af.out).mono ?_;rintro e w6 ⟨r1,rfl,hr1,hw6⟩;have eQ:=ae (Af.out.trans hw6);have Ri:=ae (hw6.heap Oi.out (fun h=>h));have BL:=ae (hw6.heap Ir.out (fun h=>h));have aeS:=ae (TY.out.ext hw6);have nJ:=ae hr1;obtain⟨p1,c1,hp1⟩:=bU.shape hr1;subst hp1;clear hw6 x0 x1 x2 Oi Ir TY hr1 qj;obtain⟨y0,y1,y2⟩:=ag BL.out
 go_wp2_with fail
 refine(Ac.out _ eQ.out).mono ?_;rintro e w7 ⟨r2,rfl,hr2,hw7⟩;have jg:=ae (eQ.out.trans hw7);have H27:=ae (hw7.heap Ri.out (fun h=>h));have Iu:=ae (hw7.heap BL.out (fun h=>h));have T_:=ae (aeS.out.ext hw7);have aeU:=ae (bU.ext nJ.out hw7);have aeV:=ae hr2;obtain⟨p2,c2,hp2⟩:=bU.shape hr2;subst hp2;clear hw7 y0 y1 y2 Ri BL aeS hr2 Ac nJ;have hmm:= @run_makeMap Tryz.prog;have hla:(aO a).length<=100000:=Nat.le_trans (mO lH.out.1) sH.out.1;have hlb:(aO b).length<=100000:=Nat.le_trans (mO lH.out.2) sH.out.2;have hx8:=((uR w7).alloc (.map #[] 0)).alloc (.cells #[.slice p1 (aO a).length c1,.slice p2 (aO b).length c2] 111);have hb8:=alloc_at (w7.alloc (.map #[] 0)) (.cells #[.slice p1 (aO a).length c1,.slice p2 (aO b).length c2] 111) (n:=w7.heap.size+1) (by simp);have hcc:=YH (aO a) (aO b) _ _ (fun _=>True) (w7.heap.size+1) _ (az.weaken (bU.ext aeU.out hx8) (fun _ _=>trivial)) (az.weaken (bU.ext aeV.out hx8) (fun _ _=>trivial)) (af hb8 0 _ rfl) (af hb8 1 _ rfl) (by omega) (by omega);have yK:=ae hcc;have hmt:dN (fun s:ByteArray=>Value.string s) ((w7.alloc (.map #[] 0)).alloc (.cells #[.slice p1 (aO a).length c1,.slice p2 (aO b).length c2] 111)) w7.heap.size []:=(dN.made _ w7).ext ((uR _).alloc _);have hs8:((w7.alloc (.map #[] 0)).alloc (.cells #[.slice p1 (aO a).length c1,.slice p2 (aO b).length c2] 111)).heap.size=w7.heap.size+2:=by simp
 have Wl:=ae hx8;have aeW:=ae hmt;have ji:=ae hs8;have aeX:Hid (∀k,Fb bv bn bk1 k->k<w7.heap.size):=ae (fun k hk=>T_.out.ur.us.lt k hk);have Oj:Hid (w4.heap.size<=w7.heap.size):=ae T_.out.upd.size;obtain⟨VL,DN⟩: ∃L,aO a++aO b=L:=⟨_,rfl⟩
 have hlv:VL.length<=200000:=by rw[<-DN,List.length_append];omega
 clear hla hlb hx8 hb8 hcc hmt hs8
 go_wp2_with fail
 generalize (w7.alloc (.map #[] 0)).alloc (.cells #[.slice p1 (aO a).length c1,.slice p2 (aO b).length c2] 111)=w8 at*;obtain⟨tb,htb⟩: ∃n,w7.heap.size=n:=⟨_,rfl⟩
 refine yK.out.mono ?_;rintro e w9 ⟨r3,rfl,hr3,kF⟩;rw[DN] at hr3 HR2 HC yw tq;have zD:=ae DN;have aeY:=ae (aeW.out.ext kF);have kY:=ae ((jg.out.trans Wl.out).trans kF);have aeZ:=ae ((T_.out.ext Wl.out).ext kF);obtain⟨s9,hs9⟩: ∃n,w9.heap.size=n:=⟨_,rfl⟩
 have YM:Hid (bU (fun j=>tb<j/\j<s9) w9 r3 VL):=ae (az.weaken hr3 (fun k hk=>⟨by have:=ji.out;omega,by rw[<-hs9];exact hk.2⟩));have Ag:Hid (w4.heap.size<=tb/\tb<s9/\s9<=w9.heap.size):=ae ⟨by have:=Oj.out;omega,by have h1:=ji.out;have h2:=kF.size;omega,by omega⟩;have ae0:Hid (∀k,tb<=k->k<s9->¬Fb bv bn bk1 k):=ae (fun k h1 h2 h=>by have:=aeX.out k h;omega);obtain⟨p3,c3,hp3⟩:=bU.shape YM.out;subst hp3;have ae1:Hid (dN (fun s:ByteArray=>Value.string s) w9 tb ((lg (VL.take 0)).map fun x=>(x.1.1,Value.agg (dB x).toArray))):=ae (by rw[<-htb];exact aeY.out);have hR:=HR2.out;cases hav:Og T F st1 VL with
 |none=>rw[hav] at hR;cases hR
 |some q=>
 obtain⟨sa,oka⟩:=q;rw[hav] at hR;have HR3:=ae hR;have ae2:Hid (Og T F st1 (VL.drop 0)=some (sa,oka)):=ae hav;rw[htb];clear kF hs9 htb DN hr3 Wl yK aeW aeY aeU aeV T_ jg HR2 hR hav aeX Oj ji hmm
 go_wp2_with fail
 go_loopg [50] VL.length (fun gk iv wr=> ∃(k:Nat) (stk:St) (vG:List Nat),iv= .int .i64 (k:Int)/\gk=VL.length-k/\k<=VL.length/\Hid (eH T ad S 121 108 bv bn ub [] vG stk w4 wr)/\Hid (Og T F stk (VL.drop k)=some (sa,oka))/\Hid (∀k,tb<=k->k<s9->¬Fb bv bn vG k)/\Hid (bU (fun j=>tb<j/\j<s9) wr (.slice p3 VL.length c3) VL)/\Hid (dN (fun s:ByteArray=>Value.string s) wr tb ((lg (VL.take k)).map fun x=>(x.1.1,Value.agg (dB x).toArray)))/\Hid (s9<=wr.heap.size))
 case atStart=>exact⟨0,_,_,rfl,rfl,Nat.zero_le _,aeZ,ae2,ae0,YM,ae1,ae Ag.out.2.2⟩
 case round=>
  clear aeZ ae2 ae0 YM ae1 kY;obtain⟨k,stk,vG,rfl,rfl,hk,HU,HAV,Fv,HFV,HMT,dw⟩:=hrel;have Af:=ae (bI.out _ HU.out.upd);by_cases hlt:k<VL.length
  .have HUL:Hid (∀k,Fb bv bn vG k->k<wr.heap.size):=ae (fun k hk=>HU.out.ur.us.lt k hk);obtain⟨g,off,hp3,hat⟩:=bU.at_ HFV.out (by omega);subst hp3;obtain⟨q0,q1⟩:=hat k hlt;have hvm:=xk hlt;have htk:=EE VL k hlt;have hav:=HAV.out;rw[acB VL k hlt] at hav;obtain⟨v,hv⟩: ∃v,vg VL k=v:=⟨_,rfl⟩
   rw[hv] at q0 q1 hvm htk hav;obtain⟨nm,so⟩:=v;simp only at q0 q1;have amj:Hid (so≠ah):=ae (yw.out _ hvm);unfold Og at hav;simp only at hav;cases wM:qP F stk nm so with
   |none=>rw[wM] at hav;cases hav
   |some q=>
   obtain⟨st1',c⟩:=q;rw[wM] at hav;simp only at hav;cases hag:Fq T F st1' c with
   |none=>rw[hag] at hav;cases hav
   |some q=>
   obtain⟨st2',b2⟩:=q;rw[hag] at hav;have amk:=ae hav;have HAG:=ae hag;have mF:=ae htk;have hxA:=((uR wr).alloc (.cells #[.string nm,.string so] 116)).alloc (.cells #[.string nm,.string so,.slice none 0 0] 24);have Ol:=ak (ai wr (.cells #[.string nm,.string so] 116)) (.cells #[.string nm,.string so,.slice none 0 0] 24);have DR:=alloc_at (wr.alloc (.cells #[.string nm,.string so] 116)) (.cells #[.string nm,.string so,.slice none 0 0] 24) (n:=wr.heap.size+1) (by simp);have hsA:((wr.alloc (.cells #[.string nm,.string so] 116)).alloc (.cells #[.string nm,.string so,.slice none 0 0] 24)).heap.size=wr.heap.size+2:=by simp
   have Fz:=ae (HU.out.ext hxA);have jP:=ae (ae9 F c (wr.heap.size+1) 0 nm so none 0 0 Fz.out.ur (af DR 0 _ rfl) (af DR 1 _ rfl) (af DR 2 _ rfl) (fun h=>by have:=HUL.out _ h;omega) amj.out wM);have kZ:=ae Ol;have jm:=ae DR;have YN:=ae hsA;have Rj:=ae hxA;obtain⟨z0,z1,z2,z2'⟩:=bz hlt;clear hat hvm htk hav hv wM hag hxA Ol DR hsA
   go_wp2_with fail
   generalize (wr.alloc (.cells #[.string nm,.string so] 116)).alloc (.cells #[.string nm,.string so,.slice none 0 0] 24)=wA at*;clear q0 q1;obtain⟨nA,hnA⟩: ∃n,wr.heap.size=n:=⟨_,rfl⟩
   rw[hnA] at jP kZ jm YN HUL⊢;refine jP.out.mono ?_;rintro e wB ⟨bkB,rfl,huB⟩;have wJ:=ae (Fz.out.trans huB);have tC:=ae (aaW HTB.out F bkB st1' st2' wB c b2 wJ.out.ur HAG.out);have Wn:=ae huB;clear huB jP
   go_wp2_with fail
   refine tC.out.mono ?_;rintro e wC ⟨rfl,BM,Wp⟩;have vH:=ae (Wn.out.trans Wp);have BN:=ae (Fz.out.trans vH.out);clear Wp tC Wn;have hav:=amk.out;have Om:=ae (bI.out _ BN.out.upd);cases b2 with
   |false=>
    simp only[Option.some.injEq,Prod.mk.injEq] at hav;obtain⟨rfl,rfl⟩:=hav;have hR:=HR3.out;simp only at hR;have Wj:R=none:=by injection hR with h;exact h.symm
    subst Wj
    go_wp2_with fail
    go_ret2
    exact⟨rfl,Om.out⟩
   |true=>
   simp only at hav;have aml:=ae hav;have hnf: ∀k,Fb bv bn vG k->k<nA:=HUL.out;have Ol:=vH.out.upd.heap kZ.out (fun h=>by have:=hnf _ h;omega);have DR:=vH.out.upd.heap jm.out (fun h=>by have:=hnf _ h;omega);have Ua:Hid (∀k,tb<=k->k<s9->¬Fb bv bn BM k):=ae (fun k h1 h2 h=>by
    rcases h with h|h|h
    .exact Fv.out k h1 h2 (.inl h)
    .exact Fv.out k h1 h2 (.inr (.inl h))
    .rcases vH.out.new k h with h|h
     .exact Fv.out k h1 h2 (.inr (.inr h))
     .have:=YN.out;have:=dw.out;omega)
   have ae':dN (fun s:ByteArray=>Value.string s) wC tb ((lg (VL.take k)).map fun x=>(x.1.1,Value.agg (dB x).toArray)):=(HMT.out.ext Rj.out).kept vH.out.upd (Fv.out tb (Nat.le_refl _) Ag.out.2.1);have amm:Hid (bU (fun j=>tb<j/\j<s9) wC (.slice (some ⟨g,off,none⟩) VL.length c3) VL):=ae (az.kept (bU.ext HFV.out Rj.out) vH.out.upd (fun j hj=>Fv.out j (by omega) hj.2));have afa:Hid (s9<=wC.heap.size):=ae (by have h1:=vH.out.upd.size;have:=YN.out;have:=dw.out;omega);obtain⟨W2,Iw,uG,hu2⟩:=dN.put (P:=Tryz.prog) (t:=98) (oJ Tryz.underlying9) Tryz.underlying98 ae' nm (.agg #[.string nm,.string so,.string nm,.string so,.slice none 0 0]);have hput:(Instr.mapUpdate 98 (.map (some tb)) (.string nm) (.agg #[.string nm,.string so,.string nm,.string so,.slice none 0 0])).run Tryz.prog wC= .ok () W2:=Iw;have amn:Hid (dN (fun s:ByteArray=>Value.string s) W2 tb ((lg (VL.take (k+1))).map fun x=>(x.1.1,Value.agg (dB x).toArray))):=ae (by
    rw[mF.out,KT,DJ];exact uG)
   have htl:w4.heap.size<=tb:=Ag.out.1;have dY:Hid (eH T ad S 121 108 bv bn ub [] BM st2' w4 W2):=ae (eH.outside BN.out hu2 (fun j hj e=>by
    rcases hj with hj|hj|hj
    .exact Ua.out tb (Nat.le_refl _) Ag.out.2.1 (by rw[<-e];exact hj)
    .have:=jf.out j hj;have:=gQ.out;omega
    .have:=gQ.out;omega) (fun j hj e=>by omega))
   have amo:Hid (bU (fun j=>tb<j/\j<s9) W2 (.slice (some ⟨g,off,none⟩) VL.length c3) VL):=ae (az.kept amm.out hu2 (fun j hj e=>by omega));have uM:Hid (s9<=W2.heap.size):=ae (Nat.le_trans afa.out hu2.size);obtain⟨b0,b1⟩:=aP Ol;obtain⟨d0,d1,d2⟩:=ag DR;clear hav hnf Ol DR ae' Iw uG hu2 Om Fz wJ vH BN
   go_wp2_with fail
   go_roundg (VL.length- (k+1))
   case measure=>omega
   case rel=>exact⟨k+1,_,_,by go_num,rfl,by omega,dY,aml,Ua,amo,amn,uM⟩
  .obtain rfl:k=VL.length:=by omega
   have z2:decide ((VL.length:Int)< (VL.length:Int))=false:=dF (by omega);have hav:=HAV.out;rw[List.drop_length] at hav;unfold Og at hav;simp only[Option.some.injEq,Prod.mk.injEq] at hav;obtain⟨rfl,rfl⟩:=hav;have hR:=HR3.out;simp only at hR;cases hcl:jl T F stk 0 with
   |none=>rw[hcl] at hR;cases hR
   |some q=>
   obtain⟨f_,c⟩:=q;rw[hcl] at hR;simp only at hR;cases hag:Fq T F f_ c with
   |none=>rw[hag] at hR;cases hR
   |some q=>
   obtain⟨DK,b2⟩:=q;rw[hag] at hR;have HR4:=ae hR;have HAG:=ae hag;have jP:=ae (ML F 0 c HU.out.ur hcl);rw[HAD.out.1] at jP;have Oo:Hid (dN (fun s:ByteArray=>Value.string s) wr tb ((lg VL).map fun x=>(x.1.1,Value.agg (dB x).toArray))):=ae (by have:=HMT.out;rw[List.take_length] at this;exact this);clear hR hcl hag HMT
   go_wp2_with fail
   refine jP.out.mono ?_;rintro e wB ⟨bkB,rfl,huB⟩;have wJ:=ae (HU.out.trans huB);have tC:=ae (aaW HTB.out F bkB f_ DK wB c b2 wJ.out.ur HAG.out);have Wn:=ae huB;clear huB jP
   go_wp2_with fail
   refine tC.out.mono ?_;rintro e wC ⟨rfl,BM,Wp⟩;have vH:=ae (Wn.out.trans Wp);have BN:=ae (HU.out.trans vH.out);clear Wp tC Wn wJ;have Om:=ae (bI.out _ BN.out.upd);have hR:=HR4.out;cases b2 with
   |false=>
    simp only at hR;have Wj:R=none:=by injection hR with h;exact h.symm
    subst Wj
    go_wp2_with fail
    go_ret2
    exact⟨rfl,Om.out⟩
   |true=>
   simp only at hR;obtain rfl:R=some DK:=by injection hR with h;exact h.symm
   have HFI:=ae (tq.out DK rfl);have Ua:Hid (∀k,tb<=k->k<s9->¬Fb bv bn BM k):=ae (fun k h1 h2 h=>by
    rcases h with h|h|h
    .exact Fv.out k h1 h2 (.inl h)
    .exact Fv.out k h1 h2 (.inr (.inl h))
    .rcases vH.out.new k h with h|h
     .exact Fv.out k h1 h2 (.inr (.inr h))
     .have:=dw.out;omega)
   have FB:=ae (Oo.out.kept vH.out.upd (Fv.out tb (Nat.le_refl _) Ag.out.2.1));have afa:Hid (s9<=wC.heap.size):=ae (Nat.le_trans dw.out vH.out.upd.size);have HLW:Hid (∀j,w4.heap.size<=j->j<wC.heap.size->w4.heap.size<=j):=ae (fun _ h _=>h);clear hR HR4 vH HU Af Oo Fv dw HAV HFV;obtain⟨es,clock,hb,hes,hbp,hbc⟩:=FB.out;have Oq:=ae (We VL HC.out);have Ih:Hid ((es.toList.map (·.born)).Nodup):=ae (by
    rw[List.Nodup,List.pairwise_map];exact hbp.imp (fun h e=>by omega))
   have Wq:=ae hbp;have kQ:=ae hbc;have KO:=ae hes;have zU:Hid (uu es.toList ((lg VL).map fun x=>x.1.1)):=ae (by
    have:=uu.of hes;rw[List.map_map] at this;exact this)
   have hrg:=run_range_map (P:=Tryz.prog) wC 98 9 93 tb es clock Tryz.underlying98 hb;have hblt:tb<wC.heap.size:=(Array.getElem?_eq_some_iff.1 hb).1;have vC:=ae hblt;have HB0:=ae (ak hb (.mapIter (some tb) clock #[] clock));have HR0:=ae (ai wC (.mapIter (some tb) clock #[] clock));have hE0:=(uR wC).alloc (.mapIter (some tb) clock #[] clock);have xW:=ae (BN.out.ext hE0);have HZ0:Hid (wC.heap.size+1<=(wC.alloc (.mapIter (some tb) clock #[] clock)).heap.size):=ae (by simp);have Ws:Hid (∀j,wC.heap.size<=j->¬(Fb bv bn BM j\/S j\/j=ub)/\w4.heap.size<=j/\tb<j):=ae (fun j hj=>by
    have h1:=BN.out.upd.size;have h2:=gQ.out;refine⟨?_,by omega,by omega⟩;rintro(h|h|h)
    .have:=BN.out.ur.us.lt j h;omega
    .have:=jf.out j h;omega
    .omega)
   clear hes hbp hbc hb hblt hE0 FB BN Om
   go_wp2_with fail
   try go_frame
   generalize wC.alloc (.mapIter (some tb) clock #[] clock)=w7' at*;clear hrg;obtain⟨ri,Rk⟩: ∃n,wC.heap.size=n:=⟨_,rfl⟩
   rw[Rk] at HR0 HZ0 vC Ws⊢;clear Rk
   go_loopg [] (leftOf es #[]).size (fun gk wr=> ∃(D:List By) (seen:Array Nat),gk=(leftOf es seen).size/\Hid (wr.heap[ri]?=some (.mapIter (some tb) clock seen clock))/\Hid (wr.heap[tb]?=some (.map es clock))/\Hid (eH T ad S 121 108 bv bn ub [] BM DK w4 wr)/\Hid (ri+1<=wr.heap.size)/\Hid (sW es.toList seen D))
   case atStart=>exact⟨[],#[],rfl,HR0,HB0,xW,HZ0,ae (sW.start _)⟩
   case round=>
    clear HR0 HB0 xW HZ0;obtain⟨D,seen,rfl,Ah,jq,HU,pq,HV⟩:=hrel;rcases run_next_at (P:=Tryz.prog) wr 0 ri tb clock clock seen es clock Ah.out jq.out (fun x hx=>kQ.out x hx) (Nat.le_refl _) with⟨h0,hrun⟩|⟨e,he,w1,hw1,hrun⟩
    .have hnx: ∀ty,(Instr.next (.pointer (some ⟨ri,0,none⟩)) false ty).run Tryz.prog wr=_:=fun _=>hrun;clear h0 Ah HV;have hrg:=run_range_map (P:=Tryz.prog) wr 98 9 93 tb es clock Tryz.underlying98 jq.out;have HB0:=ae (ak jq.out (.mapIter (some tb) clock #[] clock));have HR0:=ae (ai wr (.mapIter (some tb) clock #[] clock));have hE0:=(uR wr).alloc (.mapIter (some tb) clock #[] clock);have xW:=ae (HU.out.ext hE0);have HZ0:Hid (wr.heap.size+1<=(wr.alloc (.mapIter (some tb) clock #[] clock)).heap.size):=ae (by simp);have ve:Hid (∀j,wr.heap.size<=j->¬(Fb bv bn BM j\/S j\/j=ub)/\w4.heap.size<=j/\tb<j/\w.heap.size<=j):=ae (fun j hj=>by
      have h1:=pq.out;obtain⟨h2,h3,h4⟩:=Ws.out j (by omega);have h5:=gQ.out;exact⟨h2,h3,h4,by omega⟩)
     have nX:Hid (∀x∈lg VL,∃v∈VL,x.1.1=v.1/\((x.1.1∉([]:List By)/\x=y_ v)\/(x.1.1∈([]:List By)/\x.1=(v.1,v.2,τ v)/\aA (fun j=>wr.heap.size+1<=j/\j< (wr.alloc (.mapIter (some tb) clock #[] clock)).heap.size) (wr.alloc (.mapIter (some tb) clock #[] clock)) (τ v).kids (uo x)))):=ae (fun x hx=>by
      obtain⟨v,hv,rfl⟩:=(Oq.out.2 x).1 hx;exact⟨v,hv,rfl,.inl ⟨by simp,rfl⟩⟩)
     have cZ:Hid (es.toList.map (fun e=>(e.key,e.val))=(lg VL).map (fun x=>(Value.string x.1.1,Value.agg (dB x).toArray))):=ae (by
      have:=KO.out;rw[List.map_map] at this;exact this)
     clear hE0 HU jq Ws vC pq hrun
     go_wp2_with fail
     try go_frame
     generalize wr.alloc (.mapIter (some tb) clock #[] clock)=w8' at*;clear hrg hnx;obtain⟨rj,hrj⟩: ∃n,wr.heap.size=n:=⟨_,rfl⟩
     rw[hrj] at HR0 HZ0 ve nX⊢;clear hrj
     go_loopg [] (leftOf es #[]).size (fun gk wr=> ∃(D:List By) (seen:Array Nat) (es':Array MapEntry) (lk:List Be),gk=(leftOf es' seen).size/\Hid (wr.heap[rj]?=some (.mapIter (some tb) clock seen clock))/\Hid (wr.heap[tb]?=some (.map es' clock))/\Hid (eH T ad S 121 108 bv bn ub [] BM DK w4 wr)/\Hid (rj+1<=wr.heap.size)/\Hid (sW es'.toList seen D)/\Hid (es'.toList.map (fun e=>(e.key,e.val))=lk.map (fun x=>(Value.string x.1.1,Value.agg (dB x).toArray)))/\Hid (es'.toList.map (·.born)=es.toList.map (·.born))/\Hid (lk.map (fun x=>x.1.1)=(lg VL).map fun x=>x.1.1)/\Hid (∀x∈lk,∃v∈VL,x.1.1=v.1/\((x.1.1∉D/\x=y_ v)\/(x.1.1∈D/\x.1=(v.1,v.2,τ v)/\aA (fun j=>rj+1<=j/\j<wr.heap.size) wr (τ v).kids (uo x)))))
     case atStart=>exact⟨[],#[],es,lg VL,rfl,HR0,HB0,xW,HZ0,ae (sW.start _),cZ,ae rfl,ae rfl,nX⟩
     case round=>
      clear HR0 HB0 xW HZ0 nX cZ;obtain⟨D,seen,es',lk,rfl,Ah,jq,HU,pq,HV,FC,HBO,HNK,HJ⟩:=hrel;have afc:Hid ((es'.toList.map (·.born)).Nodup):=ae (by rw[HBO.out];exact Ih.out);have afd:Hid (∀x∈es'.toList,x.born<clock):=ae (fun x hx=>by
       have h1:x.born∈es'.toList.map (·.born):=List.mem_map.2 ⟨x,hx,rfl⟩;rw[HBO.out] at h1;obtain⟨y,hy,e⟩:=List.mem_map.1 h1;rw[<-e];exact kQ.out y hy)
      have YO:Hid (uu es'.toList (lk.map fun x=>x.1.1)):=ae (by
       have h1:=congrArg (List.map Prod.fst) FC.out;rw[List.map_map,List.map_map] at h1;unfold uu;rw[List.map_map];exact h1)
      have Ub:Hid ((lk.map fun x=>x.1.1).Nodup):=ae (by rw[HNK.out];exact Oq.out.1);rcases run_next_at (P:=Tryz.prog) wr 0 rj tb clock clock seen es' clock Ah.out jq.out (fun x hx=>afd.out x hx) (Nat.le_refl _) with⟨h0,hrun⟩|⟨e,he,w1,hw1,hrun⟩
      .have hnx: ∀ty,(Instr.next (.pointer (some ⟨rj,0,none⟩)) false ty).run Tryz.prog wr=_:=fun _=>hrun;have hfin:=HV.out.fin YO.out h0;have hall: ∀x∈lk,∃v∈VL,x.1.1=v.1/\x.1=(v.1,v.2,τ v)/\aA (fun j=>rj+1<=j/\j<wr.heap.size) wr (τ v).kids (uo x):=fun x hx=>by
        obtain⟨v,hv,h1,h2⟩:=HJ.out x hx;have hd:x.1.1∈D:=(hfin _).2 (List.mem_map.2 ⟨x,hx,rfl⟩);rcases h2 with⟨h2,_⟩|⟨_,h2,h3⟩
        .exact absurd hd h2
        .exact ⟨v,hv,h1,h2,h3⟩
       have htb:TbR (fun j=>rj+1<=j/\j<wr.heap.size) wr tb lk:=⟨⟨es',clock,jq.out,by rw[FC.out,List.map_map];rfl,by
        have h1:(es'.toList.map (·.born)).Pairwise (· < ·):=by rw[HBO.out];exact List.pairwise_map.2 Wq.out
        exact List.pairwise_map.1 h1,afd.out⟩,Ub.out,fun x hx=>by
        obtain⟨v,hv,h1,h2,h3⟩:=hall x hx;rw[h2];exact h3⟩
       have hkl:lk.length<=1000000:=by
        have h1:=congrArg List.length HNK.out;rw[List.length_map,List.length_map] at h1;have h2:((lg VL).map fun x=>x.1.1).length<=(VL.map (·.1)).length:=Oq.out.1.length_le_of_subset (fun n hn=>by
         obtain⟨x,hx,e⟩:=List.mem_map.1 hn;obtain⟨v,hv,e2⟩:=(Oq.out.2 x).1 hx;rw[<-e,e2];exact List.mem_map.2 ⟨v,hv,rfl⟩)
        rw[List.length_map,List.length_map] at h2;omega
       have Rn:=ae (TU lk tb _ wr htb (fun k hk=>hk.2) (fun x hx=>by
        obtain⟨v,hv,h1,h2,h3⟩:=hall x hx;obtain⟨_,_,_,_,_,_,_,_,hts⟩:=HFI.out v hv;rw[h2];exact hts) hkl)
       have HM:Hid (∀f,(∃x∈lk,x.1=f)<->∃v∈VL,f=(v.1,v.2,τ v)):=ae (fun f=>by
        constructor
        .rintro ⟨x,hx,e⟩;obtain⟨v,hv,h1,h2,_⟩:=hall x hx;exact⟨v,hv,by rw[<-e,h2]⟩
        .rintro ⟨v,hv,e⟩;have h1:v.1∈lk.map fun x=>x.1.1:=by
          rw[HNK.out];exact List.mem_map.2 ⟨y_ v,(Oq.out.2 _).2 ⟨v,hv,rfl⟩,rfl⟩
         obtain⟨x,hx,e2⟩:=List.mem_map.1 h1;obtain⟨u,hu,h3,h4,_⟩:=hall x hx;have:u=v:=HC.out u hu v hv (by rw[<-h3,e2]);rw[this] at h4;exact⟨x,hx,by rw[h4,e]⟩)
       have Ic:=ae (bI.out _ HU.out.upd);clear hfin hall htb hkl h0
       go_wp2_with fail
       refine Rn.out.mono ?_;rintro e w9' ⟨r,L,rfl,hbn,has,hmem,kF⟩;obtain⟨ra,rc,hra⟩:=hbn.shape;subst hra;have amq:=ae (And.intro hbn (And.intro has (And.intro hmem kF)));clear hbn has hmem kF hrun hnx Rn
       go_wp2_with fail
       go_ret2
       have hrs:=amq.out;have hws:=Ic.out.size;refine⟨.inr ⟨(fun h=>by cases h),_,L,rfl,hrs.1.weaken (fun k hk=>⟨by omega,hk.2⟩) (fun k hk=>⟨by omega,hk.2⟩),hrs.2.1,?_⟩,Ic.out.trans hrs.2.2.2⟩;have hl:=fun f=>(hrs.2.2.1 f).trans (and_congr_left (fun _=>HM.out f));rw[<-zD.out] at hl;simpa using hl
      .have hml:=mem_left he;obtain⟨x,hx,hkv⟩: ∃x∈lk,(Value.string x.1.1,Value.agg (dB x).toArray)=(e.key,e.val):=by
        have h1:(e.key,e.val)∈es'.toList.map (fun e=>(e.key,e.val)):=List.mem_map.2 ⟨e,hml.1,rfl⟩;rw[FC.out] at h1;obtain⟨x,hx,h2⟩:=List.mem_map.1 h1;exact⟨x,hx,h2⟩
       have hk0:e.key= .string x.1.1:=by injection hkv with h1 _;exact h1.symm
       have hnd:x.1.1∉D:=fun hd=>by
        obtain⟨e2,he2,hk2,hs2⟩:=HV.out.sub _ hd;have hee:e2=e:=YO.out.uniq Ub.out he2 hml.1 (by rw[hk2,hk0]);rw[hee,hml.2] at hs2;cases hs2
       obtain⟨v,hvm,hxv⟩: ∃v∈VL,x=y_ v:=by
        obtain⟨v,hv,h1,h2⟩:=HJ.out x hx;rcases h2 with⟨_,h2⟩|⟨h2,_⟩
        .exact ⟨v,hv,h2⟩
        .exact absurd h2 hnd
       subst hxv;obtain⟨nm,so⟩:=v;have hk:e.key= .string nm:=hk0;have hvv:e.val= .agg #[.string nm,.string so,.string nm,.string so,.slice none 0 0]:=by injection hkv with _ h1;exact h1.symm
       have Ot:=yw.out _ hvm;obtain⟨c,C,hfd,wM,hcs,hz1,hz2,hvg,hts⟩:=HFI.out _ hvm;have hrw:w1.heap[rj]?=some (.mapIter (some tb) clock seen clock):=by rcases hw1 with h|h<;>(rw[h];exact Ah.out)
       have hu1:aj (fun j=>j=rj) wr (Go.ChangeMaps.setBlock w1 rj (.mapIter (some tb) clock (seen.push e.born) clock)):=by
        have:=sN w1 rj (.mapIter (some tb) clock (seen.push e.born) clock);rcases hw1 with h|h
        .rw [h] at this⊢;exact this
        .rw [h] at this⊢;exact this.Dt
       have hr2:=qB (o':= .mapIter (some tb) clock (seen.push e.born) clock) hrw;rw[hk,hvv] at hrun;generalize Go.ChangeMaps.setBlock w1 rj (.mapIter (some tb) clock (seen.push e.born) clock)=wN at*;have htj:=(ve.out rj (Nat.le_refl _))
       have rD:=ae (hu1.heap jq.out (by have:=htj.2.2.1;omega));have hen:=run_entry_at (P:=Tryz.prog) wN rj tb clock seen es' clock e hr2 rD.out hml.1 afc.out;rw[hk,hvv] at hen;have hnx: ∀ty,(Instr.next (.pointer (some ⟨rj,0,none⟩)) false ty).run Tryz.prog wr=_:=fun _=>hrun;have Iy:Hid (eH T ad S 121 108 bv bn ub [] BM DK w4 wN):=ae (eH.outside HU.out hu1 (fun j hj e=>htj.1 (by rw[<-e];exact hj)) (fun j hj e=>by have:=htj.2.1;omega));have jD:=ae hr2;have jE:=ae (HV.out.next YO.out Ub.out afc.out hml.1 hml.2 hk);have KP:=ae (left_shrinks es' seen e he);have gU:Hid (rj+1<=wN.heap.size):=ae (Nat.le_trans pq.out hu1.size);have HJN:Hid (∀x∈lk,∃v∈VL,x.1.1=v.1/\((x.1.1∉D/\x=y_ v)\/(x.1.1∈D/\x.1=(v.1,v.2,τ v)/\aA (fun j=>rj+1<=j/\j<wN.heap.size) wN (τ v).kids (uo x)))):=ae (fun x hx=>by
        obtain⟨v,hv,h1,h2⟩:=HJ.out x hx;refine⟨v,hv,h1,h2.imp id (fun⟨a,b,c⟩=>⟨a,b,(c.kept hu1 (fun j hj e=>by omega)).weaken (fun j hj=>⟨hj.1,ay hj.2 hu1.size⟩)⟩)⟩)
       have hb5:=ai wN (.cells #[.string nm,.string so,.string nm,.string so,.slice none 0 0] 93);have nM:=(uR wN).alloc (.cells #[.string nm,.string so,.string nm,.string so,.slice none 0 0] 93);have Wu:=ae (Iy.out.ext nM);have jP:=ae (KX F c wN.heap.size 2 nm so none 0 0 Wu.out.ur (af hb5 2 _ rfl) (af hb5 3 _ rfl) (af hb5 4 _ rfl) (fun h=>by have:=Iy.out.ur.us.lt _ h;omega) Ot hfd wM).2;have fP:=ae nM;have fE:=ae hb5;have HVG:=ae hvg;have HXM:=ae hx;have HVM:=ae hvm;have ao4:=ae hnd;clear hml hk hvv hrw hu1 hr2 he hw1 hkv hb5 nM Ot hfd wM hcs hz1 hz2 hvg hts hvm hx hk0 hnd htj
       go_wp2_with fail
       refine jP.out.mono ?_;rintro e2 w5 ⟨rfl,hw5⟩;have gY:=ae (Wu.out.ext hw5);have zQ:=ae (fP.out.trans hw5);have zf:=ae (hw5.heap fE.out (fun h=>h));have jw:=ae (aiX HTB.out F w5 c (τ (nm,so)) gY.out.ur HVG.out);clear hw5 hnx hrun hen jP
       go_wp2_with fail
       refine jw.out.mono ?_;rintro e3 w6 ⟨r5,B5,rfl,jV,hb5,hw6⟩;obtain⟨ya,yc,jB⟩:=aG.shape jV;subst jB;obtain⟨t5,ht5⟩: ∃t,τ (nm,so)=t:=⟨_,rfl⟩
       rw[ht5] at jV;have aff:=ae ht5;have pI:=ae (gY.out.ext hw6);have xK:=ae (zQ.out.trans hw6);have H_:=ae jV.read;have iG:Hid (∀j,B5 j->wN.heap.size<j/\j<w6.heap.size):=ae (fun j hj=>⟨by have h1:=(hb5 j hj).1;have h3:=(Array.getElem?_eq_some_iff.1 zf.out).1;omega,(hb5 j hj).2⟩);have hb6:=hw6.heap zf.out (fun h=>h);have TV:=ae hb6;dsimp only[tV];rw[ht5];have b0:=af hb6 0 (.string nm) rfl;have b1:=af hb6 1 (.string so) rfl;have b2:=af hb6 2 (.string nm) rfl;have b3:=af hb6 3 (.string so) rfl;have b4:=af hb6 4 (.slice none 0 0) rfl;have fb:=fun i=>au hb6 i;have hb7:=setBlock (setBlock (setBlock hb6 2 (.string t5.name)) 3 (.string t5.sort)) 4 (.slice ya t5.kids.length yc);have hu7:aj (fun j=>j=wN.heap.size) w6 (((w6.setCell ⟨wN.heap.size,2,none⟩ (.string t5.name)).setCell ⟨wN.heap.size,3,none⟩ (.string t5.sort)).setCell ⟨wN.heap.size,4,none⟩ (.slice ya t5.kids.length yc)):=
        (((aj.refl (fun j=>j=wN.heap.size) w6).setCell (p:=⟨wN.heap.size,2,none⟩) (.inl rfl) _).setCell (p:=⟨wN.heap.size,3,none⟩) (.inl rfl) _).setCell (p:=⟨wN.heap.size,4,none⟩) (.inl rfl) _
       have eP:Hid ((((w6.setCell ⟨wN.heap.size,2,none⟩ (.string t5.name)).setCell ⟨wN.heap.size,3,none⟩ (.string t5.sort)).setCell ⟨wN.heap.size,4,none⟩ (.slice ya t5.kids.length yc)).heap[wN.heap.size]?=some (.cells #[.string nm,.string so,.string t5.name,.string t5.sort,.slice ya t5.kids.length yc] 93 (0,0))):=ae (by simpa using hb7);have DT:=ae hu7;clear jV hb5 hw6 hb6 hb7 hu7 jw ht5
       go_upto_region 30 with fail
       generalize (((w6.setCell ⟨wN.heap.size,2,none⟩ (.string t5.name)).setCell ⟨wN.heap.size,3,none⟩ (.string t5.sort)).setCell ⟨wN.heap.size,4,none⟩ (.slice ya t5.kids.length yc))=w7x at*;clear b0 b1 b2 b3 b4 fb;obtain⟨nb,hnb⟩: ∃n,wN.heap.size=n:=⟨_,rfl⟩
       rw[hnb] at eP DT iG HJN gU⊢;have Uc:=ve.out nb (by have:=gU.out;omega);have amr:=(ve.out rj (Nat.le_refl _)).2.2.1;have HM7:=DT.out.heap (xK.out.heap rD.out (fun h=>h)) (fun e=>by have:=Uc.2.2.1;omega);have HR7:=DT.out.heap (xK.out.heap jD.out (fun h=>h)) (fun e=>by have:=gU.out;omega);have HU7:Hid (eH T ad S 121 108 bv bn ub [] BM DK w4 w7x):=ae (eH.outside pI.out DT.out (fun j hj e=>Uc.1 (by rw[<-e];exact hj)) (fun j hj e=>by have:=Uc.2.1;omega));have afg:nm∈(lk.map fun x=>(x.1.1,Value.agg (dB x).toArray)).map (·.1):=by
        rw[List.map_map];exact List.mem_map.2 ⟨_,HXM.out,rfl⟩
       obtain⟨W2,es2,Iw,hm2,he2,Ud,hu2⟩:=dN.upd (P:=Tryz.prog) (t:=98) (oJ Tryz.underlying9) Tryz.underlying98 HM7 (l:=lk.map fun x=>(x.1.1,Value.agg (dB x).toArray)) (by rw[FC.out,List.map_map];rfl) nm (.agg #[.string nm,.string so,.string t5.name,.string t5.sort,.slice ya t5.kids.length yc]) afg;have hput:(Instr.mapUpdate 98 (.map (some tb)) (.string nm) (.agg #[.string nm,.string so,.string t5.name,.string t5.sort,.slice ya t5.kids.length yc])).run Tryz.prog w7x= .ok () W2:=Iw;obtain⟨x',hx'⟩: ∃x':Be,x'=((nm,so,t5),ya,t5.kids.length,yc):=⟨_,rfl⟩
       have HE2:Hid (es2.toList.map (fun e=>(e.key,e.val))=(oQ lk x').map (fun x=>(Value.string x.1.1,Value.agg (dB x).toArray))):=ae (by
        have h1:=DJ lk x';have h2:=congrArg (List.map fun p:By×Value=>(Value.string p.1,p.2)) h1;rw[List.map_map] at h2;rw[he2,hx'];rw[hx'] at h2;exact h2.symm)
       have ams:Hid (es2.toList.map (·.born)=es.toList.map (·.born)):=ae (by rw[Ud];exact HBO.out);have YP:x'.1.1∈lk.map fun x=>x.1.1:=by rw[hx'];exact List.mem_map.2 ⟨_,HXM.out,rfl⟩
       have amu:Hid ((oQ lk x').map (fun x=>x.1.1)=(lg VL).map fun x=>x.1.1):=ae (by rw[qE YP];exact HNK.out);have jb:Hid (sW es2.toList (seen.push e.born) (D++[nm])):=ae (jE.out.alike (YK (by
        have h1:=congrArg (List.map Prod.fst) FC.out;have h2:=congrArg (List.map Prod.fst) HE2.out;rw[List.map_map,List.map_map] at h1 h2;have h3:=congrArg (List.map Value.string) (qE YP);rw[List.map_map,List.map_map] at h3;exact h1.trans (h3.symm.trans h2.symm)) (by rw[Ud])))
       have amv:Hid ((leftOf es2 (seen.push e.born)).size< (leftOf es' seen).size):=ae (by rw[Wh Ud];exact KP.out);have dY:Hid (eH T ad S 121 108 bv bn ub [] BM DK w4 W2):=ae (eH.outside HU7.out hu2 (fun j hj e=>by
        rcases hj with hj|hj|hj
        .exact Ua.out tb (Nat.le_refl _) Ag.out.2.1 (by rw[<-e];exact hj)
        .have:=jf.out j hj;have:=gQ.out;have:=Ag.out.1;omega
        .have:=gQ.out;have:=Ag.out.1;omega) (fun j hj e=>by have:=Ag.out.1;omega))
       have amw:Hid (W2.heap[rj]?=some (.mapIter (some tb) clock (seen.push e.born) clock)):=ae (hu2.heap HR7 (fun e=>by omega));have jr:=ae hm2;have hsz:wN.heap.size<=W2.heap.size:=Nat.le_trans xK.out.size (Nat.le_trans DT.out.size hu2.size);have HS2:Hid (rj+1<=W2.heap.size):=ae (Nat.le_trans gU.out (by rw[<-hnb];exact hsz));have HJ2:Hid (∀x∈oQ lk x',∃v∈VL,x.1.1=v.1/\((x.1.1∉D++[nm]/\x=y_ v)\/(x.1.1∈D++[nm]/\x.1=(v.1,v.2,τ v)/\aA (fun j=>rj+1<=j/\j<W2.heap.size) W2 (τ v).kids (uo x)))):=ae (fun z hz=>by
        rcases(Gm Ub.out z).1 hz with e|⟨hz1,hz2⟩
        .subst e;refine⟨(nm,so),HVM.out,by rw[hx'],.inr ⟨by rw[hx'];simp,by rw[hx',aff.out],?_⟩⟩;rw[aff.out,hx'];exact((H_.out.kept DT.out (fun j hj e=>by have:=(iG.out j hj).1;omega)).kept hu2 (fun j hj e=>by have:=(iG.out j hj).1;have:=gU.out;omega)).weaken (fun j hj=>⟨by have:=(iG.out j hj).1;have:=gU.out;omega,ay (iG.out j hj).2 (Nat.le_trans DT.out.size hu2.size)⟩)
        .obtain ⟨v,hv,h1,h2⟩:=HJN.out z hz1;have hzn:z.1.1≠nm:=fun e=>hz2 (by rw[hx'];exact e);refine⟨v,hv,h1,?_⟩;rcases h2 with⟨h2,h3⟩|⟨h2,h3,h4⟩
         .exact .inl ⟨by simp[h2,hzn],h3⟩
         .exact .inr ⟨List.mem_append_left _ h2,h3,(((h4.kept xK.out (fun _ _ h=>h)).kept DT.out (fun j hj e=>by omega)).kept hu2 (fun j hj e=>by omega)).weaken (fun j hj=>⟨hj.1,by omega⟩)⟩)
       have e0:=af eP.out 0 (.string nm) rfl;have e1:=af eP.out 1 (.string so) rfl;have e2:=af eP.out 2 (.string t5.name) rfl;have e3:=af eP.out 3 (.string t5.sort) rfl;have e4:=af eP.out 4 (.slice ya t5.kids.length yc) rfl;clear Iw he2 Ud hm2 hu2 afg YP hsz HM7 HR7 hx' Uc amr hnb
       go_wp2_with fail
       have hlt:=amv.out
       go_roundg (leftOf es2 (seen.push e.born)).size
       case measure=>exact hlt
       case rel=>exact⟨D++[nm],_,es2,oQ lk x',rfl,amw,jr,dY,HS2,jb,HE2,ams,amu,HJ2⟩
    .have hml:=mem_left he;obtain⟨x,hx,hkv⟩: ∃x∈lg VL,(Value.string x.1.1,Value.agg (dB x).toArray)=(e.key,e.val):=by
      have h1:(e.key,e.val)∈es.toList.map (fun e=>(e.key,e.val)):=List.mem_map.2 ⟨e,hml.1,rfl⟩;rw[KO.out,List.map_map] at h1;obtain⟨x,hx,h2⟩:=List.mem_map.1 h1;exact⟨x,hx,h2⟩
     obtain⟨v,hvm,rfl⟩:=(Oq.out.2 x).1 hx;obtain⟨nm,so⟩:=v;have hk:e.key= .string nm:=by injection hkv with h1 _;exact h1.symm
     have hvv:e.val= .agg #[.string nm,.string so,.string nm,.string so,.slice none 0 0]:=by injection hkv with _ h1;exact h1.symm
     have Ot:=yw.out _ hvm;obtain⟨c,C,hfd,wM,hcs,hz1,hz2,hvg,hts⟩:=HFI.out _ hvm;have hrw:w1.heap[ri]?=some (.mapIter (some tb) clock seen clock):=by rcases hw1 with h|h<;>(rw[h];exact Ah.out)
     have hu1:aj (fun j=>j=ri) wr (Go.ChangeMaps.setBlock w1 ri (.mapIter (some tb) clock (seen.push e.born) clock)):=by
      have:=sN w1 ri (.mapIter (some tb) clock (seen.push e.born) clock);rcases hw1 with h|h
      .rw [h] at this⊢;exact this
      .rw [h] at this⊢;exact this.Dt
     have hr2:=qB (o':= .mapIter (some tb) clock (seen.push e.born) clock) hrw;rw[hk,hvv] at hrun;generalize Go.ChangeMaps.setBlock w1 ri (.mapIter (some tb) clock (seen.push e.born) clock)=wN at*;have rD:=ae (hu1.heap jq.out (by have:=vC.out;omega));have hen:=run_entry_at (P:=Tryz.prog) wN ri tb clock seen es clock e hr2 rD.out hml.1 Ih.out;rw[hk,hvv] at hen;have hnx: ∀ty,(Instr.next (.pointer (some ⟨ri,0,none⟩)) false ty).run Tryz.prog wr=_:=fun _=>hrun;have Iy:Hid (eH T ad S 121 108 bv bn ub [] BM DK w4 wN):=ae (eH.outside HU.out hu1 (fun j hj e=>(Ws.out ri (Nat.le_refl _)).1 (by rw[<-e];exact hj)) (fun j hj e=>by have:=(Ws.out ri (Nat.le_refl _)).2.1;omega));have jD:=ae hr2;have jE:=ae (HV.out.next zU.out Oq.out.1 Ih.out hml.1 hml.2 hk);have KP:=ae (left_shrinks es seen e he);have gU:Hid (ri+1<=wN.heap.size):=ae (Nat.le_trans pq.out hu1.size);have hb5:=ai wN (.cells #[.string nm,.string so,.string nm,.string so,.slice none 0 0] 93);have nM:=(uR wN).alloc (.cells #[.string nm,.string so,.string nm,.string so,.slice none 0 0] 93);have Wu:=ae (Iy.out.ext nM);have Wv:=ae hcs;have jP:=ae (KX F c wN.heap.size 2 nm so none 0 0 Wu.out.ur (af hb5 2 _ rfl) (af hb5 3 _ rfl) (af hb5 4 _ rfl) (fun h=>by have:=Iy.out.ur.us.lt _ h;omega) Ot hfd wM).2;have fP:=ae nM;have t1:decide ((1000:Int)< (C.sz:Int))=false:=dF (by omega);have t2:decide ((60:Int)< (C.dp:Int))=false:=dF (by omega);have t3: ¬((1000:Int)< (C.sz:Int)):=by omega
     have t4: ¬((60:Int)< (C.dp:Int)):=by omega
     clear hml hk hvv hrw hu1 hr2 he hw1 hkv hb5 nM Ot hfd wM hcs hz1 hz2 hvg hts hvm hx
     go_wp2_with fail
     refine jP.out.mono ?_;rintro e2 w5 ⟨rfl,hw5⟩;have gY:=ae (Wu.out.ext hw5);have zQ:=ae (fP.out.trans hw5);have Fp:=ae (zQ.out.heap jD.out (fun h=>h));have HM6:=ae (zQ.out.heap rD.out (fun h=>h));have xx:Hid (ri+1<=w5.heap.size):=ae (Nat.le_trans gU.out zQ.out.size);have hcr:=gY.out.ur.us.row c C Wv.out;have c6:=af hcr 6 (.int .i64 (C.sz:Int)) rfl;have c7:=af hcr 7 (.int .i64 (C.dp:Int)) rfl;clear hw5 hnx hrun hen jP hcr
     go_wp2_with fail
     have hlt:=KP.out
     go_roundg (leftOf es (seen.push e.born)).size
     case measure=>exact hlt
     case rel=>exact⟨D++[nm],_,rfl,Fp,HM6,gY,xx,jE⟩
end
theorem Iz {S:Nat->Prop} {W:World} {n:Nat} {a:Tm} {ua:Value} (h:W.heap[n]?=some (.cells #[.string a.name,.string a.sort,ua] 24 (0,0))) (hn:S n) (ha:aA S W a.kids ua):aA S W [a] (.slice (some ⟨n,0,none⟩) 1 1):=by
 refine .mk _ [ua] _ rfl ?_ (fun i hi=>?_)
 .refine az.mk' rfl rfl (Nat.le_refl _) (fun _=>hn) (fun j hj=>?_);have hj3:j<3:=hj;rw[Nat.zero_add,cell_of_row W n j _ _ _ h];have:j=0\/j=1\/j=2:=by omega
  rcases this with rfl|rfl|rfl<;>rfl
 .obtain rfl:i=0:=by simpa using hi
  exact ha
def aa1 (T:List Nr) (F:Nat) (vs:List Vd) (τ:Vd->Tm) (st:St):Bool:=vs.all fun v=>(qp st.vs v.1).isSome&&(match qP F st v.1 v.2 with
 |none=>false
 |some (_,c)=>match st.cs[c]? with
  |none=>false
  |some C=>decide (C.sz<=1000)&&decide (C.dp<=60)&&decide (Oh T st F c=some (τ v))&&decide ((τ v).size<=100000))
theorem Ue {T:List Nr} {F:Nat} {vs:List Vd} {τ:Vd->Tm} {st:St} (h:aa1 T F vs τ st=true): ∀v∈vs,∃c C,(qp st.vs v.1).isSome=true/\qP F st v.1 v.2=some (st,c)/\st.cs[c]?=some C/\C.sz<=1000/\C.dp<=60/\Oh T st F c=some (τ v)/\(τ v).size<=100000:=fun v hv=>by
 have h1:=List.all_eq_true.1 h v hv;rw[Bool.and_eq_true] at h1;obtain⟨h1,h2⟩:=h1;cases hf:qP F st v.1 v.2 with
 |none=>rw[hf] at h2;cases h2
 |some q=>
  obtain⟨s',c⟩:=q;rw[hf] at h2;simp only at h2;cases hc:st.cs[c]? with
  |none=>rw[hc] at h2;cases h2
  |some C=>
   rw[hc] at h2;simp only[Bool.and_eq_true,decide_eq_true_eq] at h2;have hs:=DU h1 hf;subst hs;exact⟨c,C,h1,rfl,hc,h2.1.1.1,h2.1.1.2,h2.1.2,h2.2⟩
end Go.Proofs.YtlkcjmaiahnodaaGreatDoor
