/- The texts N6 N7 N9 N10 N11 N12 N13 N14 N15 N16, one behind the other. -/
import Derived.Test.YtlkcjmaiahnodaaGreatDoorYAI
import Derived.Test.YtlkcjmaiahnodaaGreatDoorYAG
import Derived.Test.YtlkcjmaiahnodaaGreatDoorYAH
import Derived.Lib.AppendZeros
import Derived.Lib.SliceRun
import Derived.Test.YtlkcjmaiahnodaaGreatDoorYAD
set_option maxRecDepth 100000
set_option maxHeartbeats 8000000
set_option linter.unusedVariables false
set_option linter.unusedSimpArgs false
namespace Go.Proofs.YtlkcjmaiahnodaaGreatDoor
open Go.RowKit Go.Hw Go Tm
theorem abk {T:List Nr} {ad:Nat->Nat×Nat} {S:Nat->Prop} {bv bn ub:Nat} (hTB: ∀(i:Nat) (r:Nr),T[i]?=some r->r.ks.length<=1000000) (F:Nat): ∀(bk:List Nat) (st st':St) (w:World) (c:Nat) (ok:Bool),Ur T ad S 121 108 bv bn ub bk st w->GZ T F st c=some (st',ok)->
  Calls Tryz.prog 72 #[gX ub,gX (blk bk c)] w fun e w'=>e= .returned (.bool ok)/\∃bk',fZ T ad S 121 108 bv bn ub bk bk' st' w w':=by
 induction F with
 |zero=>intro bk st st' w c ok _ h;cases h
 |succ F ih=>
 intro bk st st' w c ok hm hc;have HIH:=ah ih;unfold GZ at hc;cases hx:st.cs[c]? with
 |none=>rw[hx] at hc;cases hc
 |some C=>
 rw[hx] at hc;simp only at hc;have HM:=ah hm;have HX:=ah hx;have hr:=hm.us.row c C hx;have kM:Hid (c<st.cs.length):=ah (List.getElem?_eq_some_iff.1 hx).1;have c3:=aj hr 3 (.bool C.mx) rfl;have c5:=aj hr 5 (.int .i64 (C.ma:Int)) rfl;have c6:=aj hr 6 (.int .i64 (C.sz:Int)) rfl;have c7:=aj hr 7 (.int .i64 (C.dp:Int)) rfl;have fc:=fun i=>aA hr i;clear ih hm;by_cases m1:C.ma=1
 .rw [if_pos m1] at hc;have z1:((C.ma:Int)==1)=true:=by rw[m1];rfl
  clear hr hx c6 c7 m1
  go_enter Tryz.func72,Tryz.ntmps72
  simp only[Option.some.injEq,Prod.mk.injEq] at hc;obtain⟨rfl,rfl⟩:=hc
  go_wp2_with fail
  go_ret;exact⟨rfl,bk,fZ.refl HM.out⟩
 .rw [if_neg m1] at hc;have z1:((C.ma:Int)==1)=false:=by rw[beq_eq_false_iff_ne];omega
  obtain⟨ot,hot⟩: ∃o,C.tm=o:=⟨_,rfl⟩
  obtain⟨D0,hD0⟩: ∃D,D=({C with ma:=1,sz:=1,dp:=1}:Cl):=⟨_,rfl⟩
  obtain⟨D2,hD2⟩: ∃D,D=({C with ma:=2,sz:=1,dp:=1}:Cl):=⟨_,rfl⟩
  rw[<-hD0,<-hD2,hot] at hc;rw[hD0,hD2] at hc;clear hD0 hD2;cases ot with
  |none=>
   simp only at hc;have c4:=aj hr 4 (.pointer none) (by show some (pV (Option.map ad C.tm))=_;rw[hot];rfl);by_cases hmx:C.mx=true
   .rw [if_pos hmx] at hc;rw[hmx] at c3;clear hr hx c6 c7 m1 hot hmx
    go_enter Tryz.func72,Tryz.ntmps72
    simp only[Option.some.injEq,Prod.mk.injEq] at hc;obtain⟨rfl,rfl⟩:=hc
    go_wp2_with fail
    go_ret;exact⟨rfl,bk,fZ.refl HM.out⟩
   .rw [if_neg hmx] at hc;have ZP:C.mx=false:=by cases h:C.mx with|true=>exact absurd h hmx|false=>rfl
    rw[ZP] at c3;by_cases m2:C.ma=2
    .rw [if_pos m2] at hc;have z2:((C.ma:Int)==2)=true:=by rw[m2];rfl
     clear hr hx c6 c7 m1 hot m2 hmx ZP
     go_enter Tryz.func72,Tryz.ntmps72
     simp only[Option.some.injEq,Prod.mk.injEq] at hc;obtain⟨rfl,rfl⟩:=hc
     go_wp2_with fail
     go_ret;exact⟨rfl,bk,fZ.refl HM.out⟩
    .rw [if_neg m2] at hc;have z2:((C.ma:Int)==2)=false:=by rw[beq_eq_false_iff_ne];omega
     simp only[Option.some.injEq,Prod.mk.injEq] at hc;obtain⟨rfl,rfl⟩:=hc;have wZ:Hid (fZ T ad S 121 108 bv bn ub bk bk (dZ st c {C with ma:=1,sz:=1,dp:=1}) w (((w.setCell ⟨blk bk c,5,none⟩ (.int .i64 1)).setCell ⟨blk bk c,6,none⟩ (.int .i64 1)).setCell ⟨blk bk c,7,none⟩ (.int .i64 1))):=ah ((fZ.refl HM.out).put kM.out {C with ma:=1,sz:=1,dp:=1} (HM.out.us.vO C (List.mem_of_getElem? HX.out))
      ((((aC.refl (fun k=>k=blk bk c) w).setCell (p:=⟨blk bk c,5,none⟩) (.inl rfl) (.int .i64 1)).setCell (p:=⟨blk bk c,6,none⟩) (.inl rfl) (.int .i64 1)).setCell (p:=⟨blk bk c,7,none⟩) (.inl rfl) (.int .i64 1)) (by
       have:=setBlock (setBlock (setBlock (HM.out.us.row c C HX.out) 5 (.int .i64 1)) 6 (.int .i64 1)) 7 (.int .i64 1);simpa[dV] using this))
     have HL0:=ah (Ug st kM.out {C with ma:=1,sz:=1,dp:=1});have o9:Hid (fZ T ad S 121 108 bv bn ub bk bk (dZ st c {C with ma:=2,sz:=1,dp:=1}) w ((((w.setCell ⟨blk bk c,5,none⟩ (.int .i64 1)).setCell ⟨blk bk c,6,none⟩ (.int .i64 1)).setCell ⟨blk bk c,7,none⟩ (.int .i64 1)).setCell ⟨blk bk c,5,none⟩ (.int .i64 2))):=ah (by
      have h1:=wZ.out.put (by rw[ZQ];exact kM.out) {C with ma:=2,sz:=1,dp:=1} (wZ.out.ur.us.vO {C with ma:=1,sz:=1,dp:=1} (List.mem_of_getElem? HL0.out))
       ((aC.refl (fun k=>k=blk bk c) _).setCell (p:=⟨blk bk c,5,none⟩) (.inl rfl) (.int .i64 2)) (by
        have:=setBlock (wZ.out.ur.us.row c _ HL0.out) 5 (.int .i64 2);simpa[dV] using this)
      rw[Fh] at h1;exact h1)
     clear hr hx m1 hot m2 hmx ZP wZ HL0
     go_enter Tryz.func72,Tryz.ntmps72
     go_wp2_with fail
     go_ret;exact⟨rfl,bk,o9.out⟩
  |some x=>
   simp only at hc;have c4:=aj hr 4 (.pointer (some ⟨(ad x).1,(ad x).2,none⟩)) (by show some (pV (Option.map ad C.tm))=_;rw[hot];rfl);by_cases m2:C.ma=2
   .rw [if_pos m2] at hc;have z2:((C.ma:Int)==2)=true:=by rw[m2];rfl
    clear hr hx c6 c7 m1 hot m2
    go_enter Tryz.func72,Tryz.ntmps72
    simp only[Option.some.injEq,Prod.mk.injEq] at hc;obtain⟨rfl,rfl⟩:=hc
    go_wp2_with fail
    go_ret;exact⟨rfl,bk,fZ.refl HM.out⟩
   .rw [if_neg m2] at hc;have z2:((C.ma:Int)==2)=false:=by rw[beq_eq_false_iff_ne];omega
    cases hX:T[x]? with
    |none=>rw[hX] at hc;cases hc
    |some X=>
    rw[hX] at hc;simp only at hc;cases hK:Uh T F (GZ T F) c x (dZ st c {C with ma:=1,sz:=1,dp:=1}) X.ks with
    |none=>rw[hK] at hc;cases hc
    |some q=>
    obtain⟨s1,b1⟩:=q;rw[hK] at hc;have I_:=ah hc;have HK0:=ah hK;have Eh:=ah hX;have WV:=hTB x X hX;have wZ:Hid (fZ T ad S 121 108 bv bn ub bk bk (dZ st c {C with ma:=1,sz:=1,dp:=1}) w (((w.setCell ⟨blk bk c,5,none⟩ (.int .i64 1)).setCell ⟨blk bk c,6,none⟩ (.int .i64 1)).setCell ⟨blk bk c,7,none⟩ (.int .i64 1))):=ah ((fZ.refl HM.out).put kM.out {C with ma:=1,sz:=1,dp:=1} (HM.out.us.vO C (List.mem_of_getElem? HX.out))
     ((((aC.refl (fun k=>k=blk bk c) w).setCell (p:=⟨blk bk c,5,none⟩) (.inl rfl) (.int .i64 1)).setCell (p:=⟨blk bk c,6,none⟩) (.inl rfl) (.int .i64 1)).setCell (p:=⟨blk bk c,7,none⟩) (.inl rfl) (.int .i64 1)) (by
      have:=setBlock (setBlock (setBlock (HM.out.us.row c C HX.out) 5 (.int .i64 1)) 6 (.int .i64 1)) 7 (.int .i64 1);simpa[dV] using this))
    obtain⟨x0,_,xa,xc,x2,_⟩:=wZ.out.ur.nd.row x X hX;have c4':(((w.setCell ⟨blk bk c,5,none⟩ (.int .i64 1)).setCell ⟨blk bk c,6,none⟩ (.int .i64 1)).setCell ⟨blk bk c,7,none⟩ (.int .i64 1)).cell? ⟨blk bk c,4,none⟩=some (.pointer (some ⟨(ad x).1,(ad x).2,none⟩)):=aj (wZ.out.ur.us.row c _ (Ug st kM.out {C with ma:=1,sz:=1,dp:=1})) 4 _ (by show some (pV (Option.map ad C.tm))=_;rw[hot];rfl);clear hr hx m1 hot m2 hX hK hc x0
    go_enter Tryz.func72,Tryz.ntmps72
    go_upto_region 6 with fail
    generalize (((w.setCell ⟨blk bk c,5,none⟩ (.int .i64 1)).setCell ⟨blk bk c,6,none⟩ (.int .i64 1)).setCell ⟨blk bk c,7,none⟩ (.int .i64 1))=w3 at*;clear c3 c4 c5 c6 c7 fc z1 z2
    go_wp2_with fail
    clear c4' x2
    go_loopg [54] X.ks.length (fun gk iv wr=> ∃(k:Nat) (stk:St) (wX:List Nat),iv= .int .i64 (k:Int)/\gk=X.ks.length-k/\k<=X.ks.length/\Hid (fZ T ad S 121 108 bv bn ub bk wX stk w wr)/\Hid (Uh T F (GZ T F) c x stk (X.ks.drop k)=some (s1,b1)))
    case atStart=>exact⟨0,_,_,rfl,rfl,Nat.zero_le _,wZ,HK0⟩
    case round=>
     clear wZ HK0;obtain⟨k,stk,wX,rfl,rfl,hk,HU,HCk⟩:=hrel;have hc:=HCk.out;have hcb:c<bk.length:=by rw[HM.out.us.len];exact kM.out
     have hbc:=Gq HU.out.pre hcb;by_cases hlt:k<X.ks.length
     .rw [List.drop_eq_getElem_cons hlt] at hc;unfold Uh at hc;by_cases hg:(stk.cs[c]?.map (·.tm))=some (some x)
      rotate_left
      .rw [if_neg hg] at hc;cases hc
      rw[if_pos hg] at hc;obtain⟨Ck,hCk,hCt⟩:=Option.map_eq_some_iff.1 hg;cases hcl:jQ T F stk X.ks[k] with
      |none=>rw[hcl] at hc;cases hc
      |some q=>
      obtain⟨st1,y⟩:=q;rw[hcl] at hc;simp only at hc;cases hac:GZ T F st1 y with
      |none=>rw[hac] at hc;cases hc
      |some q=>
      obtain⟨st2,b2⟩:=q;rw[hac] at hc;have HC2:=ah hc;have alx:=ah hcl;have uT:=ah hac;have hr:=HU.out.ur.us.row c Ck hCk;rw[hbc] at hr;have c4:=aj hr 4 (.pointer (some ⟨(ad x).1,(ad x).2,none⟩)) (by show some (pV (Option.map ad Ck.tm))=_;rw[hCt];rfl);obtain⟨_,_,xa',xc',x2,hxk⟩:=HU.out.ur.nd.row x X Eh.out;obtain⟨xg,xo,rfl,Fj⟩:=hxk (by omega);have hxa:=(Fj k _ (List.getElem?_eq_getElem hlt)).2;have Iw:=ah (Oa F X.ks[k] y HU.out.ur hcl);rw[hxa] at Iw;obtain⟨z0,z1,z2,z2'⟩:=bZ hlt;clear hxk Fj hxa hcl hac hc hg hCk hCt hr hbc
      go_wp2_with fail
      refine Iw.out.mono ?_;rintro e w5 ⟨bk5,rfl,XQ⟩;have kX:=ah (HU.out.trans XQ);have HI:=ah (HIH.out bk5 st1 st2 w5 y b2 kX.out.ur uT.out);clear XQ c4 x2 Iw
      go_wp2_with fail
      refine HI.out.mono ?_;rintro e w6 ⟨rfl,Yd,JH⟩;have uV:=ah (kX.out.trans JH);have hc:=HC2.out;cases b2 with
      |false=>
       simp only[Option.some.injEq,Prod.mk.injEq] at hc;obtain⟨rfl,rfl⟩:=hc;have hc:=I_.out;simp only[Option.some.injEq,Prod.mk.injEq] at hc;obtain⟨rfl,rfl⟩:=hc;clear JH HI
       go_wp2_with fail
       go_ret;exact⟨rfl,Yd,uV.out⟩
      |true=>
       simp only at hc;cases hq1:st2.cs[c]? with
       |none=>rw[hq1] at hc;cases hc
       |some C2=>
       cases hq2:st2.cs[y]? with
       |none=>rw[hq1,hq2] at hc;cases hc
       |some Y2=>
       rw[hq1,hq2] at hc;simp only at hc;by_cases hg:C2.sz<=2000/\Y2.sz<=2000/\C2.dp<=2000/\Y2.dp<=2000
       rotate_left
       .rw [if_neg hg] at hc;cases hc
       rw[if_pos hg] at hc;obtain⟨g1,g2,g3,g4⟩:=hg;have HC3:=ah hc;have hy5:y<bk5.length:=by
        obtain⟨z,hz,_⟩:=wP alx.out;rw[kX.out.ur.us.len];exact(List.getElem?_eq_some_iff.1 hz).1
       have hby:=Gq JH.pre hy5;have hbc:=Gq uV.out.pre hcb;have hr:=uV.out.ur.us.row c C2 hq1;have hy:=uV.out.ur.us.row y Y2 hq2;have GY:=ah hr;rw[hbc] at hr;rw[hby] at hy;have c6:=aj hr 6 (.int .i64 (C2.sz:Int)) rfl;have c7:=aj hr 7 (.int .i64 (C2.dp:Int)) rfl;have fc:=fun i=>aA hr i;have y6:=aj hy 6 (.int .i64 (Y2.sz:Int)) rfl;have y7:=aj hy 7 (.int .i64 (Y2.dp:Int)) rfl;have e1:((min (C2.sz+Y2.sz) 1001:Nat):Int)=min ((C2.sz:Int)+(Y2.sz:Int)) 1001:=by omega
       have e2:((min (max C2.dp (Y2.dp+1)) 61:Nat):Int)=min (max (C2.dp:Int) ((Y2.dp:Int)+1)) 61:=by omega
       have HP:Hid (∀W,Ext w6 W->fZ T ad S 121 108 bv bn ub bk Yd (dZ st2 c {C2 with sz:=min (C2.sz+Y2.sz) 1001,dp:=min (max C2.dp (Y2.dp+1)) 61}) w ((W.setCell ⟨blk bk c,6,none⟩ (.int .i64 (min ((C2.sz:Int)+(Y2.sz:Int)) 1001))).setCell ⟨blk bk c,7,none⟩ (.int .i64 (min (max (C2.dp:Int) ((Y2.dp:Int)+1)) 61)))):=ah (fun W hW=>by
        rw[<-hbc];exact(uV.out.ext hW).put (List.getElem?_eq_some_iff.1 hq1).1 {C2 with sz:=min (C2.sz+Y2.sz) 1001,dp:=min (max C2.dp (Y2.dp+1)) 61} (uV.out.ur.us.vO C2 (List.mem_of_getElem? hq1))
         (((aC.refl (fun k=>k=blk Yd c) W).setCell (p:=⟨blk Yd c,6,none⟩) (.inl rfl) (.int .i64 (min ((C2.sz:Int)+(Y2.sz:Int)) 1001))).setCell (p:=⟨blk Yd c,7,none⟩) (.inl rfl) (.int .i64 (min (max (C2.dp:Int) ((Y2.dp:Int)+1)) 61))) (by
          have:=setBlock (setBlock (hW.heap GY.out (fun h=>h)) 6 (.int .i64 (min ((C2.sz:Int)+(Y2.sz:Int)) 1001))) 7 (.int .i64 (min (max (C2.dp:Int) ((Y2.dp:Int)+1)) 61));unfold dV at this⊢;rw[e1,e2];simpa using this))
       clear JH HI hr hy hc hq1 hq2 hy5 hby hbc e1 e2
       go_wp2_with fail
       go_region
       go_wp2_with fail
       go_roundg (X.ks.length- (k+1))
       case measure=>omega
       case rel=>exact⟨k+1,_,_,by go_num,rfl,by omega,ah ((HP.out _ (aC.refl _ w6)).ext (aC.refl _ _).drew),HC3⟩
     .obtain rfl:k=X.ks.length:=by omega
      have z2:decide ((X.ks.length:Int)< (X.ks.length:Int))=false:=dF (by omega);rw[List.drop_length] at hc;unfold Uh at hc;simp only[Option.some.injEq,Prod.mk.injEq] at hc;obtain⟨rfl,rfl⟩:=hc;have hc:=I_.out;simp only at hc;cases hq1:stk.cs[c]? with
      |none=>rw[hq1] at hc;cases hc
      |some C2=>
      rw[hq1] at hc;simp only[Option.some.injEq,Prod.mk.injEq] at hc;obtain⟨rfl,rfl⟩:=hc;have hr:=HU.out.ur.us.row c C2 hq1;have GY:=ah hr;rw[hbc] at hr;have c5:=aj hr 5 (.int .i64 (C2.ma:Int)) rfl;have fc:=fun i=>aA hr i;have HP:Hid (fZ T ad S 121 108 bv bn ub bk wX (dZ stk c {C2 with ma:=2}) w (wr.setCell ⟨blk bk c,5,none⟩ (.int .i64 2))):=ah (by
       rw[<-hbc];exact HU.out.put (List.getElem?_eq_some_iff.1 hq1).1 {C2 with ma:=2} (HU.out.ur.us.vO C2 (List.mem_of_getElem? hq1))
        ((aC.refl (fun k=>k=blk wX c) wr).setCell (p:=⟨blk wX c,5,none⟩) (.inl rfl) (.int .i64 2)) (by
         have:=setBlock GY.out 5 (.int .i64 2);simpa[dV] using this))
      clear hr hq1 hbc
      go_wp2_with fail
      go_ret;exact⟨rfl,wX,HP.out⟩
theorem aiH {T:List Nr} {ad:Nat->Nat×Nat} {S:Nat->Prop} {bv bn ub:Nat} {st:St} {bk:List Nat} (hTB: ∀(i:Nat) (r:Nr),T[i]?=some r->r.ks.length<=1000000) (F:Nat): ∀(w:World) (c:Nat) (t:Tm),Ur T ad S 121 108 bv bn ub bk st w->Pv T st F c=some t->
  Calls Tryz.prog 74 #[gX ub,gX (blk bk c)] w fun e w'=> ∃r B,e= .returned (tV t r)/\aP 24 w' B t.kids r/\(∀j,B j->w.heap.size<=j/\j<w'.heap.size)/\Ext w w':=by
 induction F with
 |zero=>intro w c t _ h;cases h
 |succ F ih=>
 intro w c t hm hc;have HIH:=ah ih;unfold Pv at hc;cases hx:st.cs[c]? with
 |none=>rw[hx] at hc;cases hc
 |some C=>
 rw[hx] at hc;simp only at hc;have HM:=ah hm;have hm2:=hm;have HX:=ah hx;have hr:=hm.us.row c C hx;obtain⟨ot,hot⟩: ∃o,C.tm=o:=⟨_,rfl⟩
 rw[hot] at hc;have hE0:=((uR w).alloc zO)
 have hb2:=ay w zO;clear ih hm;cases ot with
 |none=>
  simp only[Option.some.injEq] at hc;subst hc;have hr:=hE0.heap hr (fun h=>h);have c1:=aj hr 1 (.string C.nm) rfl;have c2:=aj hr 2 (.string C.so) rfl;have c4:=aj hr 4 (.pointer none) (by show some (pV (Option.map ad C.tm))=_;rw[hot];rfl);obtain⟨d0,d1,d2⟩:=ak hb2;have f2:=fun i=>aA hb2 i;have dP:=ah hE0;have HB2:=ah hb2;clear hr hx hot hE0 hb2 hm2
  go_enter Tryz.func74,Tryz.ntmps74
  go_upto_region 1 with fail
  generalize w.alloc zO=w1 at*
  go_wp2_with fail
  go_region
  go_wp2_with fail
  have hr3:=aN HB2.out (.string C.nm) (.string C.so) (.slice none 0 0);have hu:=aK w1 w.heap.size (.string C.nm) (.string C.so) (.slice none 0 0);obtain⟨e0,e1,e2⟩:=ak hr3;refine bodyPost_ret (v:= .agg #[.string C.nm,.string C.so,.slice none 0 0]) (by simp[results,Tryz.results74,go_sem,e0,e1,e2]) rfl ⟨.slice none 0 0,fun _=>False,rfl,aP.nil _ _ _,fun j hj=>hj.elim,(dP.out.trans' hu (fun j hj e=>by omega)).drew⟩
 |some x=>
  simp only at hc;cases hX:T[x]? with
  |none=>rw[hX] at hc;cases hc
  |some X=>
  rw[hX] at hc;simp only at hc;cases hK:Hr T F st (Pv T st F) c x X.ks with
  |none=>rw[hK] at hc;cases hc
  |some L=>
  rw[hK] at hc;simp only[Option.map_some,Option.some.injEq] at hc;subst hc;have HK:=ah hK;have Eh:=ah hX;have WV:=hTB x X hX;have hLL:=Un hK;have HCT:=ah hot;have hr:=hE0.heap hr (fun h=>h);obtain⟨x0,_,xa,xc,x2,_⟩:=(hm2.ext hE0).nd.row x X hX;have c4:=aj hr 4 (.pointer (some ⟨(ad x).1,(ad x).2,none⟩)) (by show some (pV (Option.map ad C.tm))=_;rw[hot];rfl);have dP:=ah hE0;have HB2:=ah hb2;clear hr hx hot hE0 hb2 hK hX hm2
  go_enter Tryz.func74,Tryz.ntmps74
  go_upto_region 3 with fail
  generalize hw1:w.alloc zO=w1 at*;obtain⟨n3,hn3⟩: ∃n3,w1.heap.size=n3:=⟨_,rfl⟩
  have fH:Hid (w.heap.size+1=n3):=ah (by rw[<-hn3,<-hw1];simp);have hx3:=(uR w1).alloc (.cells #[.string X.nm,.string ⟨#[]⟩,.slice none 0 0] 24);have hb3:=ay w1 (.cells #[.string X.nm,.string ⟨#[]⟩,.slice none 0 0] 24);have hb2':=aB HB2.out (.cells #[.string X.nm,.string ⟨#[]⟩,.slice none 0 0] 24);have x2':=hx3.cell x2 (fun h=>h);have c4':=hx3.cell c4 (fun h=>h);have JK:=ah (dP.out.trans hx3);clear hw1
  go_wp2_with fail
  generalize hW0:w1.alloc (.cells #[.string X.nm,.string ⟨#[]⟩,.slice none 0 0] 24)=W0 at*;have uz:Hid (w.heap.size+2<=W0.heap.size):=ah (by have h1:=fH.out;rw[<-hW0,World.size_alloc];omega);have kL:Hid (n_ 24 (w.heap.size+2) W0 L (.slice none 0 0) [] (fun _ _=>False) 0):=ah ⟨rfl,⟨rfl,.inl ⟨rfl,rfl⟩⟩,fun i hi=>absurd hi (Nat.not_lt_zero _),fun i j hi=>absurd hi (Nat.not_lt_zero _),fun i i' j hi=>absurd hi (Nat.not_lt_zero _)⟩;rw[hn3] at hb3;have agB:=ah hb2';have agC:=ah hb3;have xM:=ah hLL;clear hW0 hb3 hb2' x2' c4' hn3 hx3 HB2 dP x2 c4 hLL x0
  go_loopg [37] X.ks.length (fun gk iv wr=> ∃(k:Nat) (lv:Value) (us:List Value) (Bk:Nat->Nat->Prop),iv= .int .i64 (k:Int)/\gk=X.ks.length-k/\k<=X.ks.length/\Hid (n_ 24 (w.heap.size+2) wr L lv us Bk k)/\Hid (wr.heap[w.heap.size]?=some zO)/\Hid (wr.heap[n3]?=some (.cells #[.string X.nm,.string ⟨#[]⟩,lv] 24 (0,0)))/\Hid (Ext w wr)/\Hid (w.heap.size+2<=wr.heap.size))
  case atStart=>exact⟨0,_,_,_,rfl,rfl,Nat.zero_le _,kL,agB,agC,JK,uz⟩
  case round=>
   clear kL agB agC JK uz;obtain⟨k,lv,us,Bk,rfl,rfl,hk,HJ,HB2,HB3,HE,bU⟩:=hrel;obtain⟨la,lc,hlv⟩:=bF HJ.out.own;subst hlv;by_cases hlt:k<X.ks.length
   .obtain ⟨hf,s1,y,hcl,hva⟩:=Yo HK.out k hlt;have hr:=HE.out.heap (HM.out.us.row c C HX.out) (fun h=>h);have c4:=aj hr 4 (.pointer (some ⟨(ad x).1,(ad x).2,none⟩)) (by show some (pV (Option.map ad C.tm))=_;rw[HCT.out];rfl);obtain⟨_,_,xa',xc',x2,hxk⟩:=(HM.out.ext HE.out).nd.row x X Eh.out;obtain⟨xg,xo,rfl,Fj⟩:=hxk (by omega);have hxa:=(Fj k _ (List.getElem?_eq_getElem hlt)).2;have Iw:=ah (ZE F X.ks[k] y (HM.out.ext HE.out.drew) hf hcl).2;rw[hxa] at Iw;have HI:=ah (fun W (hW:Ext wr W)=>HIH.out W y (tg L k) (HM.out.ext (HE.out.trans hW)) hva);obtain⟨z,hz⟩: ∃z,tg L k=z:=⟨_,rfl⟩
    have HZ:=ah hz;rw[hz] at HI;obtain⟨z0,z1,z2,z2'⟩:=bZ hlt;have c2:=aj HB3.out 2 (.slice la k lc) rfl;have iV:Hid (¬(Value.slice la k lc).ownBlock=some n3):=ah (fun e=>by have h1:=(HJ.out.own.lt n3 e).1;have:=fH.out;omega);have HKB:Hid (k<=1000000):=ah (by omega);have MQ:Hid (Ext wr wr):=ah (aC.refl _ _);obtain⟨iT,hi,hz0,hz1,hz2⟩:=info_parts um;clear hxk Fj hxa hf hcl hva hr hz
    go_wp2_with fail
    go_region_law (first
     |(refine dY _ (.tmp 41) (.tmp 55) 22 rfl (w.heap.size+2) 24 iT (.agg #[.string ⟨#[]⟩,.string ⟨#[]⟩,.slice none 0 0]) 3 56 Tryz.underlying22 hi hz0 hz1 hz2 rfl (by decide) _ _ _ rfl BR.out _ 1 1 [.string z.name,.string z.sort,.slice ya z.kids.length yc] rfl rfl oD.out kF.out iW.out.1 iW.out.2.1 iW.out.2.2 ?_;intro v7 w7 bK;obtain⟨a7,c7,hv7⟩:=bF bK.own;subst hv7;have fK:=bK.upd.heap (aB jE.out (tO z ya yc)) iV.out;have f7:=fun i=>aA fK i;have c2:=aj fK 2 (.slice la k lc) rfl;have eU:=ah fK;have jO:=ah bK;clear bK fK)
     |(go_simp;refine Iw.out.mono ?_;rintro e w5 ⟨rfl,hw5⟩;have dh:Hid (Ext wr w5):=ah (((uR wr).drewN' 1).trans hw5);have c5:=dh.out.cell c2 (fun h=>h);have HI5:=ah (HI.out w5 dh.out);clear hw5 Iw HI)
     |(go_simp;refine HI5.out.mono ?_;rintro e w6 ⟨r,Bx,rfl,uH,hb6,hw6⟩;obtain⟨ya,yc,jP⟩:=aP.shape uH;subst jP;have nV:Hid (Ext wr w6):=ah (dh.out.trans hw6);have wS:=ah uH;have KP:Hid (∀j,Bx j->wr.heap.size<=j/\j<w6.heap.size):=ah (fun j hj=>⟨Nat.le_trans dh.out.size (hb6 j hj).1,(hb6 j hj).2⟩);have jE:=ah (nV.out.heap HB3.out (fun h=>h));have BR:Hid ((w6.alloc (tO z ya yc)).ownsRow (w.heap.size+2) 24 3 (.slice la k lc) k (dI (L.take k) us)):=ah ((bH HJ.out.own nV.out (fun _ _ h=>h)).alloc _);have oD:Hid (∀(j:Nat) (u:Value),[Value.string z.name,.string z.sort,.slice ya z.kids.length yc][j]?=some u->(w6.alloc (tO z ya yc)).cell? ((⟨w6.heap.size,0,none⟩:Addr).add j)=some u):=ah (zU w6 _ _ _ 24);have kF:Hid (∀u∈[Value.string z.name,.string z.sort,.slice ya z.kids.length yc],u.oneCell'=true):=ah (fun u hu=>by simp at hu;rcases hu with h|h|h<;>(subst h;rfl));have iW:Hid (k+1<=maxLen/\(k+1)*56<=140737488355328/\w.heap.size+2<=(w6.alloc (tO z ya yc)).heap.size):=ah ⟨by unfold maxLen;have:=HKB.out;omega,by have:=HKB.out;omega,by have h1:=nV.out.size;have h2:=bU.out;simp;omega⟩;have c6:=nV.out.cell c2 (fun h=>h);have c7:=((uR w6).alloc (tO z ya yc)).cell c6 (fun h=>h);clear uH hb6 hw6 HI5))
    all_goals
     go_wp2_with fail
     have ig:=ah ((aC.refl (fun j=>j=n3) w7).setCell (p:=⟨n3,2,none⟩) (.inl rfl) (.slice a7 (k+1) c7));have dB:Hid (aC (fun j=>(Value.slice la k lc).ownBlock=some j\/j=n3) wr (w7.setCell ⟨n3,2,none⟩ (.slice a7 (k+1) c7))):=ah (((((nV.out.alloc (tO z ya yc)).mono (fun _ _ x=>x.elim)).trans (jO.out.upd.mono (fun _ _ e=> .inl e)))).trans (ig.out.mono (fun _ _ e=> .inr e)));have uF:=ah (HJ.out.grow (by rw[xM.out];exact hlt) HZ.out (by have:=fH.out;omega) bU.out MQ.out nV.out wS.out KP.out ((uR w6).alloc (tO z ya yc)) jO.out ig.out);have dG:Hid (Ext w (w7.setCell ⟨n3,2,none⟩ (.slice a7 (k+1) c7))):=ah (HE.out.trans' dB.out (fun j hj e=>by
      rcases e with e|e
      .have h1:=(HJ.out.own.lt j e).1;omega
      .have:=fH.out;omega))
     have mY:=ah (dB.out.heap HB2.out (fun e=>by
      rcases e with e|e
      .have h1:=(HJ.out.own.lt _ e).1;omega
      .have:=fH.out;omega))
     have jC:=setBlock eU.out 2 (.slice a7 (k+1) c7);have lY:Hid ((w7.setCell ⟨n3,2,none⟩ (.slice a7 (k+1) c7)).heap[n3]?=some (.cells #[.string X.nm,.string ⟨#[]⟩,.slice a7 (k+1) c7] 24 (0,0))):=ah (by simpa using jC);have jX:Hid (w.heap.size+2<=(w7.setCell ⟨n3,2,none⟩ (.slice a7 (k+1) c7)).heap.size):=ah (Nat.le_trans bU.out dB.out.size);clear jC c2 f7
     go_roundg (X.ks.length- (k+1))
     case measure=>omega
     case rel=>exact⟨k+1,_,_,_,by go_num,rfl,by omega,uF,mY,lY,dG,jX⟩
   .obtain rfl:k=X.ks.length:=by omega
    have z2:decide ((X.ks.length:Int)< (X.ks.length:Int))=false:=dF (by omega);have hfin:=HJ.out;rw[<-xM.out] at hfin;have hfin:=hfin.fin;have lZ:=ah hfin;rw[xM.out] at lZ;obtain⟨c0,c1,c2⟩:=ak HB3.out;have f2:=fun i=>aA HB2.out i;obtain⟨d0,d1,d2⟩:=ak HB2.out;clear hfin
    go_wp2_with fail
    have hr3:=aN HB2.out (.string X.nm) (.string ⟨#[]⟩) (.slice la X.ks.length lc);have hu:=aK wr w.heap.size (.string X.nm) (.string ⟨#[]⟩) (.slice la X.ks.length lc);obtain⟨e0,e1,e2⟩:=ak hr3;refine bodyPost_ret (v:= .agg #[.string X.nm,.string ⟨#[]⟩,.slice la X.ks.length lc]) (by simp[results,Tryz.results74,go_sem,e0,e1,e2]) rfl ⟨.slice la X.ks.length lc,_,rfl,lZ.out.kept hu (fun j hj e=>by have h1:=hj.1;omega),fun j hj=>⟨by have h1:=hj.1;omega,aF hj.2 hu.size⟩,HE.out.trans' hu (fun j hj e=>by omega)⟩
theorem ou {t:Tm} (h:wf aJ t=true):(aV t).length<=t.size:=by
 have h2:(jW t).isSome=true:=by
  unfold wf at h;rw[Bool.and_eq_true] at h;exact h.2
 obtain⟨m,hm⟩:=Option.isSome_iff_exists.1 h2;have h1:=zB _ _ _ (show jB [] (vl (bC t))=some m from hm);have h3:(vl (bC t)).length<=t.size:=by
  have h1:(vl (bC t)).length<=(bC t).length:=List.length_filterMap_le _ _;have h2:(bC t).length=t.size:=by rw[bC,List.length_map,kN]
  omega
 have hv:=Jd hm;have hnd:(aV t).Nodup:=hv.1.imp (fun{a b} hab e=>by rw[e,iD] at hab;cases hab);have:=hnd.length_le_of_subset (fun f hf=>(hv.2 f).1 hf);simp only[List.length_nil] at h1;omega
theorem yu {l:List Vd} {i:Nat} (h:i<l.length):vg l i∈l:=by unfold vg;rw[List.getD_eq_getElem?_getD,List.getElem?_eq_getElem h];exact List.getElem_mem h
theorem qA {t:Tm} (h:wf aJ t=true):rW t=(aV t,0):=if_pos h
theorem Zq (a b:Tm) (va vb:Value) (w:World) (htab:dN w) (hA:bQ (fun k=>k<w.heap.size) w a va) (hB:bQ (fun k=>k<w.heap.size) w b vb) (hsa:a.size<=1000000) (hsb:b.size<=1000000) (ha:wf aJ a=true) (hb:wf aJ b=true) (hc: ∀v∈aV a,∀u∈aV b,v.1=u.1->v.2=u.2):
  Calls Tryz.prog 63 #[va,vb] w fun e w'=>e= .returned (.int .i64 0)/\Ext w w':=by
 have HA:=ah hA;have HB:=ah hB;have HWa:=ah (ou ha);have HWb:=ah (ou hb);have HC:=ah hc;obtain⟨aa,ac,rfl,_⟩:=hA;obtain⟨ba,bc,rfl,_⟩:=hB;have HFa:=ah (fun W (hW:Ext w W)=>yw a _ W (aS htab hW) ((HA.out.ext hW).weaken (fun k hk=>aF hk hW.size)) (by omega));have HFb:=ah (fun W (hW:Ext w W)=>yw b _ W (aS htab hW) ((HB.out.ext hW).weaken (fun k hk=>aF hk hW.size)) (by omega));have HVa:=ah (fun W (hW:Ext w W)=>sO a _ W (aS htab hW) ((HA.out.ext hW).weaken (fun k hk=>aF hk hW.size)) (by omega));have HVb:=ah (fun W (hW:Ext w W)=>sO b _ W (aS htab hW) ((HB.out.ext hW).weaken (fun k hk=>aF hk hW.size)) (by omega));rw[ha] at HFa;rw[hb] at HFb;rw[qA ha] at HVa;rw[qA hb] at HVb;dsimp only[tV] at HFa HFb HVa HVb⊢;have hZ:=((uR w).alloc (tO a aa ac)).alloc (tO b ba bc);have hb2:=aB (ay w (tO a aa ac)) (tO b ba bc);have hb3:=alloc_at (w.alloc (tO a aa ac)) (tO b ba bc) (n:=w.heap.size+1) (by simp);have rO:=ah (And.intro hsa hsb);clear hc ha hb hsa hsb;obtain⟨x0,x1,x2⟩:=ak hb2;have HZ:=ah hZ;have H2:=ah hb2;have H3:=ah hb3;clear hZ hb2 hb3
 go_enter Tryz.func63,Tryz.ntmps63
 go_wp2_with fail
 refine(HFa.out _ HZ.out).mono ?_;rintro e w3 ⟨rfl,hw3⟩;have aY:=ah (HZ.out.trans hw3);have A_:=ah (hw3.heap H2.out (fun h=>h));have vM:=ah (hw3.heap H3.out (fun h=>h));clear hw3 x0 x1 x2 H2 H3 HZ HFa;obtain⟨y0,y1,y2⟩:=ak vM.out
 go_wp2_with fail
 refine(HFb.out _ aY.out).mono ?_;rintro e w4 ⟨rfl,hw4⟩;have bW:=ah (aY.out.trans hw4);have Bc:=ah (hw4.heap A_.out (fun h=>h));have vN:=ah (hw4.heap vM.out (fun h=>h));clear hw4 y0 y1 y2 A_ vM aY HFb;obtain⟨x0,x1,x2⟩:=ak Bc.out
 go_wp2_with fail
 refine(HVa.out _ bW.out).mono ?_;rintro e w5 ⟨r1,rfl,hr1,hw5⟩;have dA:=ah (bW.out.trans hw5);have Jq:=ah (hw5.heap vN.out (fun h=>h));have HR1:=ah hr1;clear hw5 x0 x1 x2 Bc vN bW HVa hr1;obtain⟨y0,y1,y2⟩:=ak Jq.out
 go_wp2_with fail
 refine(HVb.out _ dA.out).mono ?_;rintro e w6 ⟨r2,rfl,hr2,hw6⟩;have fV:=ah (dA.out.trans hw6);have ais:=ah (dL.ext HR1.out hw6);have ait:=ah hr2;obtain⟨a1,c1,rfl⟩:=dL.shape hr2;obtain⟨a0,c0,rfl⟩:=dL.shape HR1.out;clear hw6 y0 y1 y2 Jq dA HVb hr2 HR1 HA HB htab;obtain⟨LA,hLA⟩: ∃L,aV a=L:=⟨_,rfl⟩
 obtain⟨LB,hLB⟩: ∃L,aV b=L:=⟨_,rfl⟩
 rw[hLA] at ais HC HWa⊢;rw[hLB] at ait HC HWb⊢;have hla:LA.length<=1000000:=by have h1:=HWa.out;have h2:=rO.out.1;omega
 have hlb:LB.length<=1000000:=by have h1:=HWb.out;have h2:=rO.out.2;omega
 clear hLA hLB rO HWa HWb
 go_wp2_with fail
 go_loopg [33] LA.length (fun gk iv wr=> ∃k:Nat,iv= .int .i64 (k:Int)/\gk=LA.length-k/\k<=LA.length/\Hid (Ext w6 wr))
 case atStart=>exact⟨0,rfl,rfl,Nat.zero_le _,ah (aC.refl _ _)⟩
 case round=>
  obtain⟨k,rfl,rfl,hk,HE⟩:=hrel;by_cases hlt:k<LA.length
  .obtain ⟨g,off,rfl,hat⟩:=dL.at_ (dL.ext ais.out HE.out) (by omega);obtain⟨q0,q1⟩:=hat k hlt;have hfm:=yu hlt;obtain⟨fa,hfa⟩: ∃f,vg LA k=f:=⟨_,rfl⟩
   rw[hfa] at q0 q1 hfm;have zi:=ah hfm;clear hfa hfm;obtain⟨z0,z1,z2,z2'⟩:=bZ hlt;have fK:=ay wr (.cells #[.string fa.1,.string fa.2] 116);have eU:=ah fK;have iG:=ah (HE.out.alloc (.cells #[.string fa.1,.string fa.2] 116));clear hat fK
   go_wp2_with fail
   generalize wr.alloc (.cells #[.string fa.1,.string fa.2] 116)=w7 at*;clear q0 q1 z0 z1 z2 z2'
   go_loopg [39] LB.length (fun gk iv wr2=> ∃j:Nat,iv= .int .i64 (j:Int)/\gk=LB.length-j/\j<=LB.length/\Hid (Ext w7 wr2))
   case atStart=>exact⟨0,rfl,rfl,Nat.zero_le _,ah (aC.refl _ _)⟩
   case round=>
    obtain⟨j,rfl,rfl,hj,DL⟩:=hrel;by_cases hlj:j<LB.length
    .obtain ⟨g2,off2,rfl,hat⟩:=dL.at_ (dL.ext ait.out (iG.out.trans DL.out)) (by omega);obtain⟨q0,q1⟩:=hat j hlj;have hfm:=yu hlj;obtain⟨fb,hfb⟩: ∃f,vg LB j=f:=⟨_,rfl⟩
     rw[hfb] at q0 q1 hfm;have HGM:=ah hfm;clear hfb hfm;obtain⟨z0,z1,z2,z2'⟩:=bZ hlj;have kJ:=DL.out.heap eU.out (fun h=>h);have kJ:=aB kJ (.cells #[.string fb.1,.string fb.2] 116);have lK:=ay wr (.cells #[.string fb.1,.string fb.2] 116);obtain⟨e0,e1⟩:=bT kJ;obtain⟨d0,d1⟩:=bT lK;have jg:=ah (DL.out.alloc (.cells #[.string fb.1,.string fb.2] 116));have s1:=lJ fa.1 fb.1;have s2:=lJ fa.2 fb.2;have hcc:=HC.out fa zi.out fb HGM.out;clear hat kJ lK;by_cases h1:fa.1=fb.1
     .rw [dT h1] at s1;rw[dT (hcc h1)] at s2;clear hcc h1
      go_wp2_with fail
      go_roundg (LB.length- (j+1))
      case measure=>omega
      case rel=>exact⟨j+1,by go_num,rfl,by omega,jg⟩
     .rw [dF h1] at s1;clear hcc h1 s2
      go_wp2_with fail
      go_roundg (LB.length- (j+1))
      case measure=>omega
      case rel=>exact⟨j+1,by go_num,rfl,by omega,jg⟩
    .obtain rfl:j=LB.length:=by omega
     have z2:decide ((LB.length:Int)< (LB.length:Int))=false:=dF (by omega)
     go_wp2_with fail
     go_roundg (LA.length- (k+1))
     case measure=>omega
     case rel=>exact⟨k+1,by go_num,rfl,by omega,ah (iG.out.trans DL.out)⟩
  .obtain rfl:k=LA.length:=by omega
   have z2:decide ((LA.length:Int)< (LA.length:Int))=false:=dF (by omega)
   go_wp2_with fail
   go_ret;exact⟨rfl,fV.out.trans HE.out⟩
theorem aeO (n:Nat) (w:World) (hn:n<=10000000):Calls Tryz.prog 142 #[.slice none 0 0,.int .i64 (n:Int)] w fun e w'=> ∃v,e= .returned v/\w'.ownsRow w.heap.size 116 2 v 0 []/\Ext w w':=by
 obtain⟨iF,hi,hz0,hz1,hz2⟩:=info_parts I7;by_cases h0:0<n
 .have h1: ¬((n:Int)<0):=by omega
  have h2:(0:Int)< (n:Int):=by omega
  have hrz: ∀ty,(Builtin.append_ #[111,3] ty #[.slice none 0 0,.int .i64 (n:Int)]).run Tryz.prog w= .ok (.slice (some ⟨w.heap.size,0,none⟩) n (grownCap w n 0 116)) (w.drew.alloc (.cells (Builtin.zeroCells (Value.agg #[.string ⟨#[]⟩,.string ⟨#[]⟩]).cells n++Builtin.zeroCells (Value.agg #[.string ⟨#[]⟩,.string ⟨#[]⟩]).cells (grownCap w n 0 116-n)) 116)):=fun ty=>
   Lib.run_append_nil_zeros w 111 3 ty 116 iF _ .i64 .i64 Tryz.underlying111 Tryz.underlying3 hi hz0 n h0 (by omega) (by omega) (by rw[hz2];omega)
  have hge:=grownCap_ge w n 0 116;have hle:=grownCap_le_maxLen w n 0 116 (by unfold maxLen;omega);have hown:Hid ((w.drew.alloc (.cells (Builtin.zeroCells (Value.agg #[.string ⟨#[]⟩,.string ⟨#[]⟩]).cells n++Builtin.zeroCells (Value.agg #[.string ⟨#[]⟩,.string ⟨#[]⟩]).cells (grownCap w n 0 116-n)) 116)).ownsRow w.heap.size 116 2 (.slice (some ⟨w.heap.size,0,none⟩) 0 (grownCap w n 0 116)) 0 []):=ah
   (World.ownsRow_made w.drew _ _ (Nat.le_refl _) hle (by rw[Array.size_append,size_zeroCells,size_zeroCells];show n*2+(grownCap w n 0 116-n)*2=grownCap w n 0 116*2;omega))
  have HE:Hid (Ext w (w.drew.alloc (.cells (Builtin.zeroCells (Value.agg #[.string ⟨#[]⟩,.string ⟨#[]⟩]).cells n++Builtin.zeroCells (Value.agg #[.string ⟨#[]⟩,.string ⟨#[]⟩]).cells (grownCap w n 0 116-n)) 116))):=ah ((aC.refl _ w).drew.alloc _);obtain⟨G,hG⟩: ∃G,grownCap w n 0 116=G:=⟨_,rfl⟩
  obtain⟨w2,hw2⟩: ∃x,w.drew.alloc (.cells (Builtin.zeroCells (Value.agg #[.string ⟨#[]⟩,.string ⟨#[]⟩]).cells n++Builtin.zeroCells (Value.agg #[.string ⟨#[]⟩,.string ⟨#[]⟩]).cells (grownCap w n 0 116-n)) 116)=x:=⟨_,rfl⟩
  rw[hw2,hG] at hrz hown;rw[hw2] at HE;rw[hG] at hge hle;have hG2:G<=9223372036854775807:=by unfold maxLen at hle;omega
  clear hw2 hG hi hz0 hz1 hz2
  go_enter Tryz.func142,Tryz.ntmps142
  go_wp2_with(at_builtin;refine Lib.wpList_append_run _ rfl _ _ _ _ rfl _ _ rfl rfl _ _ (hrz _) ?_)
  go_ret;exact⟨_,rfl,hown.out,HE.out⟩
 .obtain rfl:n=0:=by omega
  go_enter Tryz.func142,Tryz.ntmps142
  go_wp2_with fail
  go_ret;exact⟨_,rfl,World.ownsRow_nil ..,aC.refl _ _⟩
abbrev qg (L1 L2:List Vd) (k:Nat):List Vd:=if k=0 then[] else if k=1 then L1 else L1++L2
theorem Zn (L1 L2:List Vd) (v1 v2:Value) (S:Nat->Prop) (g:Nat) (w:World) (h1:dL S w v1 L1) (h2:dL S w v2 L2) (hv1:w.cell? ⟨g,0,none⟩=some v1) (hv2:w.cell? ⟨g,1,none⟩=some v2) (hl1:L1.length<=1000000) (hl2:L2.length<=1000000):
  Calls Tryz.prog 71 #[.slice (some ⟨g,0,none⟩) 2 2] w fun e w'=> ∃r,e= .returned r/\dL (fun k=>w.heap.size<=k/\k<w'.heap.size) w' r (L1++L2)/\Ext w w':=by
 have H1:=ah h1;have H2:=ah h2;obtain⟨a1,c1,rfl⟩:=dL.shape h1;obtain⟨a2,c2,rfl⟩:=dL.shape h2;have HV:=ah (And.intro hv1 hv2);have Xp:=ah (aeO (L1.length+L2.length) w (by omega));clear h1 h2
 go_enter Tryz.func71,Tryz.ntmps71
 go_wp2_with fail
 go_loopg [3,11] 2 (fun gk sv iv wr=> ∃k:Nat,iv= .int .i64 (k:Int)/\sv= .int .i64 ((qg L1 L2 k).length:Int)/\gk=2-k/\k<=2/\w=wr)
 case atStart=>exact⟨0,rfl,rfl,rfl,Nat.zero_le _,rfl⟩
 case round=>
  obtain⟨k,rfl,rfl,rfl,hk,rfl⟩:=hrel;rcases(by omega:k=0\/k=1\/k=2) with rfl|rfl|rfl
  .have z3: ¬((L1.length:Int)<0):=by omega
   simp only[qg,if_true,List.length_nil] at*
   go_wp2_with fail
   go_roundg 1
   case measure=>omega
   case rel=>exact⟨1,rfl,by simp[qg],rfl,by omega,rfl⟩
  .have z3: ¬((L1.length:Int)+(L2.length:Int)<0):=by omega
   simp only[qg] at*
   go_wp2_with fail
   go_roundg 0
   case measure=>omega
   case rel=>exact⟨2,rfl,by simp[qg],rfl,by omega,rfl⟩
  .have hcc:((qg L1 L2 2).length:Int)=((L1.length+L2.length:Nat):Int):=by simp[qg]
   rw[hcc];clear hcc
   go_wp2_with fail
   refine Xp.out.mono ?_;rintro e w2 ⟨v,rfl,ho2,hw2⟩;have nP:=ah ho2;have HE2:=ah hw2;clear ho2 hw2 Xp hv1 hv2
   go_wp2_with fail
   go_loopg [6,27] 2 (fun gk lv iv wr=> ∃k:Nat,iv= .int .i64 (k:Int)/\Hid (wr.ownsRow w.heap.size 116 2 lv (qg L1 L2 k).length (bV (qg L1 L2 k)))/\gk=2-k/\k<=2/\Hid (Ext w wr))
   case atStart=>exact⟨0,rfl,nP,rfl,Nat.zero_le _,HE2⟩
   case round=>
    obtain⟨k,rfl,HO,rfl,hk,HE⟩:=hrel;obtain⟨la,lc,hlv⟩:=bF HO.out;subst hlv;have hlt: ∀j,(Value.slice la (qg L1 L2 k).length lc).ownBlock=some j->w.heap.size<=j:=fun j hj=>(HO.out.lt j hj).1;have hv1:=HE.out.cell HV.out.1 (fun h=>h);have hv2:=HE.out.cell HV.out.2 (fun h=>h);obtain⟨iF,hi,hz0,hz1,hz2⟩:=info_parts I7;have hbs:=HE.out.size;rcases(by omega:k=0\/k=1\/k=2) with rfl|rfl|rfl
    .go_wp2_with (at_builtin;refine ji _ rfl (.tmp 31) (.tmp 32) 111 rfl w.heap.size 116 iF (.agg #[.string ⟨#[]⟩,.string ⟨#[]⟩]) 2 32 Tryz.underlying111 hi hz0 hz1 hz2 rfl (by decide) (.slice la (qg L1 L2 0).length lc) _ _ rfl HO.out S (.slice a1 L1.length c1) L1.length (bV L1) rfl (dL.ext H1.out HE.out) (mP _) ?c3 ?c4 hbs ?_)
     case c3=>unfold maxLen;simp[qg];omega
     case c4=>simp[qg];omega
     intro v7 w7 hG;have Ja:Hid (w7.ownsRow w.heap.size 116 2 v7 (qg L1 L2 1).length (bV (qg L1 L2 1))):=ah (by
      have h:=hG.own;simp only[qg,if_true,List.length_nil,Nat.zero_add] at h;exact h)
     have iG:Hid (Ext w w7):=ah (HE.out.trans' hG.upd (fun j hj e=>by have:=hlt j e;omega));obtain⟨a7,c7,hv7⟩:=bF Ja.out;subst hv7;clear hG hi hz0 hz1 hz2 hbs hlt hv1 hv2
     go_wp2_with fail
     go_roundg 1
     case measure=>omega
     case rel=>exact⟨1,rfl,Ja,rfl,by omega,iG⟩
    .go_wp2_with (at_builtin;refine ji _ rfl (.tmp 31) (.tmp 32) 111 rfl w.heap.size 116 iF (.agg #[.string ⟨#[]⟩,.string ⟨#[]⟩]) 2 32 Tryz.underlying111 hi hz0 hz1 hz2 rfl (by decide) (.slice la (qg L1 L2 1).length lc) _ _ rfl HO.out S (.slice a2 L2.length c2) L2.length (bV L2) rfl (dL.ext H2.out HE.out) (mP _) ?c3 ?c4 hbs ?_)
     case c3=>unfold maxLen;simp[qg];omega
     case c4=>simp[qg];omega
     intro v7 w7 hG;have Ja:Hid (w7.ownsRow w.heap.size 116 2 v7 (qg L1 L2 2).length (bV (qg L1 L2 2))):=ah (by
      have h:=hG.own;have e1:qg L1 L2 1=L1:=rfl;have e2:qg L1 L2 2=L1++L2:=rfl;rw[e1,<-rY] at h;rw[e2,List.length_append];exact h)
     have iG:Hid (Ext w w7):=ah (HE.out.trans' hG.upd (fun j hj e=>by have:=hlt j e;omega));obtain⟨a7,c7,hv7⟩:=bF Ja.out;subst hv7;clear hG hi hz0 hz1 hz2 hbs hlt hv1 hv2
     go_wp2_with fail
     go_roundg 0
     case measure=>omega
     case rel=>exact⟨2,rfl,Ja,rfl,by omega,iG⟩
    .clear hi hz0 hz1 hz2 hbs hv1 hv2
     go_wp2_with fail
     go_ret;have e2:qg L1 L2 2=L1++L2:=rfl;have ho:=HO.out;rw[e2] at ho;exact⟨_,rfl,aG.weaken (aG.fM ho) (fun j hj=>⟨hlt j hj,(ho.lt j hj).2⟩),HE.out⟩
section
open Go.Sort Go.Proofs Go.ChangeMaps
abbrev Be:=Bd×Option Addr×Nat×Nat
abbrev vJ (x:Be):Value:= .slice x.2.1 x.2.2.1 x.2.2.2
abbrev dW (x:Be):List Value:=[.string x.1.1,.string x.1.2.1,.string x.1.2.2.name,.string x.1.2.2.sort,vJ x]
abbrev Ti (x:Be):By:=x.1.1
theorem MK: ∀(L:List Be),(L.flatMap dW).length=L.length*5
 |[]=>rfl
 |x::L=>by rw[List.flatMap_cons,List.length_append,MK L,List.length_cons];simp only[dW,List.length_cons,List.length_nil];omega
def Xq (t:Tm) (nm so:By):Bool:=!decide (t.sort=au)&&decide (t.name=nm)&&decide (t.sort=so)
theorem ak2 (t:Tm) (a:Option Addr) (cap:Nat) (nm so:By) (w:World):Calls Tryz.prog 93 #[tV t (.slice a t.kids.length cap),.string nm,.string so] w fun e w'=>e= .returned (.bool (Xq t nm so))/\Ext w w':=by
 have hb:=ay w (tO t a cap);have HZ:=ah ((uR w).alloc (tO t a cap));have HV:=ah (fun W=>mW t.name t.sort a t.kids.length cap W);obtain⟨c0,c1,c2⟩:=ak hb;have HB:=ah hb;have s1:=lJ t.name nm;have s2:=lJ t.sort so;have HI:Hid (Xq t nm so=(!decide (t.sort=au)&&decide (t.name=nm)&&decide (t.sort=so))):=ah rfl;generalize Xq t nm so=R at*;generalize decide (t.sort=au)=d0 at*;generalize decide (t.name=nm)=d1 at*;generalize decide (t.sort=so)=d2 at*;clear hb
 go_enter Tryz.func93,Tryz.ntmps93
 go_wp2_with fail
 refine(HV.out _).mono ?_;rintro e w4 ⟨rfl,hw4⟩;have H4:=ah (HZ.out.trans hw4);have HB4:=ah (hw4.heap HB.out (fun h=>h));clear hw4 c0 c1 c2;obtain⟨c0,c1,c2⟩:=ak HB4.out;cases d0 with
 |true=>
  obtain rfl:R=false:=HI.out
  go_wp2_with fail
  go_ret;exact⟨rfl,H4.out⟩
 |false=>
  cases d1 with
  |false=>
   obtain rfl:R=false:=HI.out
   go_wp2_with fail
   go_ret;exact⟨rfl,H4.out⟩
  |true=>
   obtain rfl:R=d2:=HI.out
   go_wp2_with fail
   go_ret;exact⟨rfl,H4.out⟩
theorem Xr (x y:Be) (w:World):Calls Tryz.prog 135 #[.agg (dW x).toArray,.agg (dW y).toArray] w fun e w'=>e= .returned (.int .i64 (Eu Ti x y))/\∃q os',w'=grow (w.drewN q) os':=by
 have hb0:=aB (ay w (.cells #[.string x.1.1,.string x.1.2.1,.string x.1.2.2.name,.string x.1.2.2.sort,vJ x] 93)) (.cells #[.string y.1.1,.string y.1.2.1,.string y.1.2.2.name,.string y.1.2.2.sort,vJ y] 93);have hb1:=alloc_at (w.alloc (.cells #[.string x.1.1,.string x.1.2.1,.string x.1.2.2.name,.string x.1.2.2.sort,vJ x] 93)) (.cells #[.string y.1.1,.string y.1.2.1,.string y.1.2.2.name,.string y.1.2.2.sort,vJ y] 93) (n:=w.heap.size+1) (by simp);have c0:=aj hb0 0 (.string x.1.1) rfl;have d0:=aj hb1 0 (.string y.1.1) rfl;have hc:=fun W=>Tryz.strings_Compare x.1.1 y.1.1 W;change ∀W,Calls _ _ _ W fun e w'=>e= .returned (.int .i64 (Eu Ti x y))/\w'=W at hc;have HC:=ah hc;generalize Eu Ti x y=r at*;clear hb0 hb1 hc
 go_enter Tryz.func135,Tryz.ntmps135
 go_wp2_with fail
 refine(HC.out _).mono ?_;rintro e w4 ⟨rfl,rfl⟩
 go_wp2_with fail
 go_ret;exact⟨rfl,0,_,by rw[alloc_eq_grow,alloc_eq_grow,grow_grow];rfl⟩
theorem U_ (L:List Be) (base:Nat) (v:Value) (w:World) (hO:w.ownsRow base 93 5 v L.length (L.flatMap dW)) (hd:L.Pairwise fun x y=>x.1.1≠y.1.1) (hl:L.length<=1000000):
  Calls Tryz.prog 97 #[v,.func (.func 135) #[] #[]] w fun e w'=>e= .returned (.tuple #[])/\∃L':List Be,AscK Ti L'/\L'.Perm L/\aG (fun k=>v.ownBlock=some k) w' 5 v L'.length (L'.flatMap dW)/\aC (fun k=>v.ownBlock=some k) w w':=by
 by_cases h0:0<L.length
 .obtain ⟨g,cap,rfl,hb,hgl,hnc,hcell,hfz⟩:=aa_ hO h0;have hH:HoldsK dW 5 w g 0 L.toArray:=Me dW 5 (fun _=>rfl) (fun j hj=>⟨by rw[Nat.zero_add];exact hcell j hj,hfz _⟩);have eg: ∀args w,(callFunc 135 args).run Tryz.prog w= .ok (.enter 135 args) w:=enters_of Tryz.func135 (by kernel_rfl) rfl;have h:=Tryz.slices_SortFunc_f97 5 (fun w=>Tryz.isAgg93 w) (fun w=>Tryz.sizeOf93 w) dW (fun _=>rfl) (fun x u hu=>by simp[dW] at hu;rcases hu with h|h|h|h|h<;>(subst h;rfl)) (Eu Ti) (SX _) 135 #[] g 0 cap L.toArray w eg (fun m os dk _ x y=>Xr x y _) hH hgl (by simp;omega);rw[show L.toArray.size=L.length by simp] at h;refine h.mono ?_;rintro e w' ⟨rfl,d',n,os,hp,hs,rfl⟩;have hsz:d'.size=L.length:=by have:=hp.1;simpa using this
  obtain⟨ha,hperm⟩:=OZ (d:=L.toArray) Ti (by rw[show L.toArray.size=L.length by simp];exact hp) (by rw[show L.toArray.size=L.length by simp];exact hs) (by simpa using hd);have hl':d'.toList.length=L.length:=by simpa using hsz
  refine⟨rfl,d'.toList,ha,by simpa using hperm,?_,(MB dW 5 w g 0 n d' os).mono (fun k _ e=>by rw[e];rfl)⟩;have hH':=holdsK_sortWorldK_c dW 5 w g 0 L.toArray d' n os hH hgl (by simpa using hsz);rw[hl'];refine aG.mk' (by rw[MK,hl']) rfl hnc (fun _=>rfl) (fun j hj=>?_);exact(Ew dW 5 (fun _=>rfl) hH' j (by rw[hsz];exact hj)).1
 .have hl0:L=[]:=List.eq_nil_of_length_eq_zero (by omega);subst hl0;obtain⟨a,cap,rfl⟩:=bF hO;have h:=Tryz.slices_SortFunc_none_f97 (α:=Be) a cap (.func (.func 135) #[] #[]) w;refine h.mono ?_;rintro e w' ⟨rfl,rfl⟩;exact⟨rfl,[],List.Pairwise.nil,List.Perm.refl _,aG.fM hO,aC.refl _ _⟩
theorem Po:(Tryz.prog.info? 93).map (fun i=>(i.zero,i.size,i.bytes))=some (some (.agg #[.string ⟨#[]⟩,.string ⟨#[]⟩,.string ⟨#[]⟩,.string ⟨#[]⟩,.slice none 0 0]),5,88):=by kernel_rfl
theorem ak3 (w:World) (u0 u1 u2 u3 u4:Value) (t:TypeId): ∀(j:Nat) (u:Value),[u0,u1,u2,u3,u4][j]?=some u->(w.alloc (.cells #[u0,u1,u2,u3,u4] t)).cell? ((⟨w.heap.size,0,none⟩:Addr).add j)=some u:=fun j u hj=>by
 match j,hj with
 |0,hj=>simp only[List.getElem?_cons_zero,Option.some.injEq] at hj;subst hj;simp only[Addr.add];exact aj (ay _ _) 0 _ rfl
 |1,hj=>simp at hj;subst hj;simp only[Addr.add];exact aj (ay _ _) 1 _ rfl
 |2,hj=>simp at hj;subst hj;simp only[Addr.add];exact aj (ay _ _) 2 _ rfl
 |3,hj=>simp at hj;subst hj;simp only[Addr.add];exact aj (ay _ _) 3 _ rfl
 |4,hj=>simp at hj;subst hj;simp only[Addr.add];exact aj (ay _ _) 4 _ rfl
def EI (l:List Be) (n:By):Be:=(l.find? fun x=>decide (x.1.1=n)).getD default
theorem AZ: ∀{l:List Be} (hd:(l.map fun x=>x.1.1).Nodup) {x:Be} (hx:x∈l),EI l x.1.1=x
 |y::l,hd,x,hx=>by
  rw[List.map_cons,List.nodup_cons] at hd;unfold EI;rw[List.find?_cons];rcases List.mem_cons.1 hx with e|hx
  .subst e;rw[dT rfl];rfl
  .have hne: ¬y.1.1=x.1.1:=fun e=>hd.1 (by rw[e];exact List.mem_map.2 ⟨x,hx,rfl⟩);rw[dF hne];exact AZ hd.2 hx
def xY (f:Bd):Bool:=Xq f.2.2 f.1 f.2.1
structure TbR (S:Nat->Prop) (w:World) (b:Nat) (l:List Be):Prop where
 mp:eF (fun s:ByteArray=>Value.string s) w b (l.map fun x=>(x.1.1,.agg (dW x).toArray))
 nd:(l.map fun x=>x.1.1).Nodup
 tl: ∀x∈l,aI S w x.1.2.2.kids (vJ x)
structure Dv (n0:Nat) (w:World) (v:Value) (L:List Be):Prop where
 own:w.ownsRow n0 93 5 v L.length (L.flatMap dW)
 tl: ∀x∈L,∃Bx:Nat->Prop,aI Bx w x.1.2.2.kids (vJ x)/\∀j,Bx j->n0<=j/\j<w.heap.size/\v.ownBlock≠some j
theorem Dv.start (n0:Nat) (w:World):Dv n0 w (.slice none 0 0) []:=⟨⟨rfl,.inl ⟨rfl,rfl⟩⟩,fun x hx=>by cases hx⟩
theorem Dv.kept {n0:Nat} {w w':World} {v:Value} {L:List Be} {F:Nat->Prop} (h:Dv n0 w v L) (hu:aC F w w') (hF: ∀j,n0<=j->j<w.heap.size->¬F j):Dv n0 w' v L:=
 ⟨bH h.own hu (fun j hj=>hF j (h.own.lt j hj).1 (h.own.lt j hj).2),fun x hx=>by
  obtain⟨Bx,h1,h2⟩:=h.tl x hx;exact⟨Bx,h1.kept hu (fun j hj=>hF j (h2 j hj).1 (h2 j hj).2.1),fun j hj=>⟨(h2 j hj).1,aF (h2 j hj).2.1 hu.size,(h2 j hj).2.2⟩⟩⟩
theorem Dv.grow {n0:Nat} {w w6 w7:World} {v v':Value} {L:List Be} {x:Be} {Bx:Nat->Prop} {o:Obj} (h:Dv n0 w v L) (hn:n0<=w.heap.size) (h6:Ext w w6) (hT:aI Bx w6 x.1.2.2.kids (vJ x)) (hB: ∀j,Bx j->w.heap.size<=j/\j<w6.heap.size)
  (hG:Grew n0 93 5 v (L.length+1) (L.flatMap dW++dW x) (w6.alloc o) w7 v'):Dv n0 w7 v' (L++[x]):=by
 have hA:=(uR w6).alloc o;have hU:aC (fun j=>v.ownBlock=some j) w6 w7:=(hA.mono (fun _ _ x=>x.elim)).trans hG.upd;have hbn: ∀j,v'.ownBlock=some j->v.ownBlock=some j\/w6.heap.size<=j:=fun j e=>by
  rcases hG.uw with h|h
  .rw [h] at e;exact .inl e
  .rw [h] at e;injection e with e;exact .inr (by have:=hA.size;omega)
 have hs6:=h6.size;refine⟨?_,fun y hy=>?_⟩
 .have ho:=hG.own;rw[List.length_append,List.flatMap_append];simpa using ho
 .rcases List.mem_append.1 hy with hy|hy
  .obtain ⟨By_,h1,h2⟩:=h.tl y hy;refine⟨By_,((h1.kept h6 (fun _ _ x=>x)).kept hU (fun j hj=>(h2 j hj).2.2)),fun j hj=>⟨(h2 j hj).1,aF (aF (h2 j hj).2.1 hs6) hU.size,fun e=>?_⟩⟩;rcases hbn j e with e|e
   .exact (h2 j hj).2.2 e
   .have:=(h2 j hj).2.1;omega
  .rw [List.mem_singleton] at hy;subst hy;refine⟨Bx,hT.kept hU (fun j hj e=>by have h3:=(h.own.lt j e).2;have h4:=(hB j hj).1;omega),fun j hj=>⟨Nat.le_trans hn (hB j hj).1,aF (hB j hj).2 hU.size,fun e=>?_⟩⟩;rcases hbn j e with e|e
   .have h3:=(h.own.lt j e).2;have h4:=(hB j hj).1;omega
   .have:=(hB j hj).2;omega
theorem Dv.bn {n0:Nat} {w w':World} {v:Value} {L L':List Be} (h:Dv n0 w v L) (hp:L'.Perm L) (hs:aG (fun k=>v.ownBlock=some k) w' 5 v L'.length (L'.flatMap dW)) (hu:aC (fun k=>v.ownBlock=some k) w w'):
  iM (fun k=>n0<=k/\k<w'.heap.size) (fun k=>n0<=k/\k<w'.heap.size) w' v (L'.map (·.1)):=by
 refine⟨L'.map vJ,by simp,?_,fun i hi=>?_⟩
 .have e:iQ (L'.map (·.1)) (L'.map vJ)=L'.flatMap dW:=by
   clear hs hp
   induction L' with
   |nil=>rfl
   |cons x L' ih=>rw[List.map_cons,List.map_cons,List.flatMap_cons];simp only[iQ,List.headD_cons,List.tail_cons,ih,dW,List.cons_append,List.nil_append]
  rw[e,List.length_map];exact aG.weaken hs (fun k hk=>⟨(h.own.lt k hk).1,aF (h.own.lt k hk).2 hu.size⟩)
 .have hi':i<L'.length:=by simpa using hi
  have e1:Go.Hw.bg (L'.map (·.1)) i=(L'[i]).1:=by
   unfold Go.Hw.bg;rw[List.getD_eq_getElem?_getD,List.getElem?_map,List.getElem?_eq_getElem hi'];rfl
  have e2:ug (L'.map vJ) i=vJ L'[i]:=by
   unfold ug;rw[List.getD_eq_getElem?_getD,List.getElem?_map,List.getElem?_eq_getElem hi'];rfl
  rw[e1,e2];obtain⟨Bx,h1,h2⟩:=h.tl _ (hp.mem_iff.1 (List.getElem_mem hi'));exact(h1.kept hu (fun j hj=>(h2 j hj).2.2)).weaken (fun j hj=>⟨(h2 j hj).1,aF (h2 j hj).2.1 hu.size⟩)
theorem Va (l:List Be) (b:Nat) (S:Nat->Prop) (w:World) (hM:TbR S w b l) (hS: ∀k,S k->k<w.heap.size) (hsz: ∀x∈l,x.1.2.2.size<=100000) (hl:l.length<=1000000):
  Calls Tryz.prog 65 #[.map (some b)] w fun e w'=> ∃r L,e= .returned r/\iM (fun k=>w.heap.size<=k/\k<w'.heap.size) (fun k=>w.heap.size<=k/\k<w'.heap.size) w' r L/\AscK (Prod.fst:Bd->By) L/\(∀f,f∈L<->((∃x∈l,x.1=f)/\xY f=false))/\Ext w w':=by
 obtain⟨⟨es,clock,hb,hes,hbp,hbc⟩,hnd,htl⟩:=hM;have Jf:Hid ((es.toList.map (·.born)).Nodup):=ah (by
  rw[List.Nodup,List.pairwise_map];exact hbp.imp (fun h e=>by omega))
 have ku:=ah hbc;have MC:=ah hes;have Ej:Hid (vK es.toList (l.map fun x=>x.1.1)):=ah (by
  have:=vK.of hes;rw[List.map_map] at this;exact this)
 have dH:=ah htl;have Jp:=ah hnd;have iE:=ah hS;have bU:=ah hsz;have HL:=ah hl;have hrg:=run_range_map (P:=Tryz.prog) w 98 9 93 b es clock Tryz.underlying98 hb;have hblt:b<w.heap.size:=(Array.getElem?_eq_some_iff.1 hb).1;have lI:=ah hblt;have HB0:=ah (aB hb (.mapIter (some b) clock #[] clock));have HR0:=ah (ay w (.mapIter (some b) clock #[] clock));have dP:=ah ((uR w).alloc (.mapIter (some b) clock #[] clock));have HZ0:Hid (w.heap.size+1<=(w.alloc (.mapIter (some b) clock #[] clock)).heap.size):=ah (by simp);clear hes hbp hbc hb hblt hnd htl hS hsz hl
 go_enter Tryz.func65,Tryz.ntmps65
 go_wp2_with fail
 try go_frame
 generalize w.alloc (.mapIter (some b) clock #[] clock)=w7 at*;clear hrg
 go_loopg [3] (leftOf es #[]).size (fun gk ov wr=> ∃(oa:Option Addr) (oc:Nat) (L:List Be) (D:List By) (seen:Array Nat),ov= .slice oa L.length oc/\gk=(leftOf es seen).size/\Hid (Dv (w.heap.size+1) wr (.slice oa L.length oc) L)/\Hid (wr.heap[w.heap.size]?=some (.mapIter (some b) clock seen clock))/\Hid (wr.heap[b]?=some (.map es clock))/\Hid (Ext w wr)/\Hid (w.heap.size+1<=wr.heap.size)/\Hid (uS es.toList seen D)/\Hid (L.map (·.1)=(D.map fun n=>(EI l n).1).filter fun f=>!xY f))
 case atStart=>exact⟨none,0,[],[],#[],rfl,rfl,ah (Dv.start _ _),HR0,HB0,dP,HZ0,ah (uS.start _),ah rfl⟩
 case round=>
  clear HR0 HB0 dP HZ0;obtain⟨oa,oc,L,D,seen,rfl,rfl,HG,HRR,jD,HE,yC,HV,Tj⟩:=hrel;rcases run_next_at (P:=Tryz.prog) wr 0 w.heap.size b clock clock seen es clock HRR.out jD.out (fun x hx=>ku.out x hx) (Nat.le_refl _) with⟨h0,hrun⟩|⟨e,he,w1,hw1,hrun⟩
  .have hnx: ∀ty,(Instr.next (.pointer (some ⟨w.heap.size,0,none⟩)) false ty).run Tryz.prog wr=_:=fun _=>hrun;have hfin:=HV.out.fin Ej.out h0;have hLD:(D.map fun n=>(EI l n).1.1)=D:=by
    have: ∀n∈D,(EI l n).1.1=n:=fun n hn=>by
     obtain⟨x,hx,e⟩:=List.mem_map.1 ((hfin n).1 hn);rw[<-e,AZ Jp.out hx]
    rw[List.map_congr_left this,List.map_id']
   have hdist:L.Pairwise fun x y=>x.1.1≠y.1.1:=by
    have h1:((D.map fun n=>(EI l n).1).filter fun f=>!xY f).Pairwise (fun f g=>f.1≠g.1):=by
     refine List.Pairwise.filter _ ?_;rw[List.pairwise_map];have h2:=HV.out.dn;rw[<-hLD,List.Nodup,List.pairwise_map] at h2;exact h2
    rw[<-Tj.out,List.pairwise_map] at h1;exact h1
   have hll:L.length<=1000000:=by
    have h1:(L.map (·.1)).length<=D.length:=by
     rw[Tj.out];refine Nat.le_trans (List.length_filter_le _ _) ?_;rw[List.length_map];exact Nat.le_refl _
    have h2:=HV.out.dn.length_le_of_subset (fun n hn=>(hfin n).1 hn);rw[List.length_map] at h1 h2;have:=HL.out;omega
   have hmem: ∀f,f∈L.map (·.1)<->((∃x∈l,x.1=f)/\xY f=false):=fun f=>by
    rw[Tj.out,List.mem_filter,List.mem_map];constructor
    .rintro ⟨⟨n,hn,e⟩,h2⟩;obtain⟨x,hx,e2⟩:=List.mem_map.1 ((hfin n).1 hn);refine⟨⟨x,hx,?_⟩,by simpa using h2⟩;rw[<-e,<-e2,AZ Jp.out hx]
    .rintro ⟨⟨x,hx,e⟩,h2⟩;refine⟨⟨x.1.1,(hfin _).2 (List.mem_map.2 ⟨x,hx,rfl⟩),by rw[AZ Jp.out hx,e]⟩,by rw[h2];rfl⟩
   have HST:=ah (fun W (hW:Ext wr W)=>U_ L (w.heap.size+1) (.slice oa L.length oc) W (bH HG.out.own hW (fun _ _ h=>h)) hdist hll);have oZ:=ah hmem;clear hfin hll h0 hLD hdist hmem
   go_wp2_with fail
   refine(HST.out _ (aC.refl _ _)).mono ?_;rintro e w8 ⟨rfl,L',ha,hperm,hF,hu⟩;have o8:=ah (HG.out.bn hperm hF hu);have HAS:Hid (AscK (Prod.fst:Bd->By) (L'.map (·.1))):=ah (by
    unfold AscK at ha⊢;rw[List.pairwise_map];exact ha)
   have HMM:Hid (∀f,f∈L'.map (·.1)<->((∃x∈l,x.1=f)/\xY f=false)):=ah (fun f=>by rw[(hperm.map (·.1)).mem_iff];exact oZ.out f);have dG:Hid (Ext w w8):=ah (HE.out.trans' hu (fun j hj e=>by have h1:=(HG.out.own.lt j e).1;omega));clear hnx hrun ha hperm hF hu HST
   go_wp2_with fail
   go_ret;exact⟨_,_,rfl,o8.out.weaken (fun k hk=>⟨by omega,hk.2⟩) (fun k hk=>⟨by omega,hk.2⟩),HAS.out,HMM.out,dG.out⟩
  .have hml:=mem_left he;obtain⟨nm0,ak4,hk0⟩:=Ej.out.name hml.1;obtain⟨x,hx,hkv⟩: ∃x∈l,(Value.string x.1.1,Value.agg (dW x).toArray)=(e.key,e.val):=by
    have h1:(e.key,e.val)∈es.toList.map (fun e=>(e.key,e.val)):=List.mem_map.2 ⟨e,hml.1,rfl⟩;rw[MC.out,List.map_map] at h1;obtain⟨x,hx,h2⟩:=List.mem_map.1 h1;exact⟨x,hx,h2⟩
   have hk:e.key= .string x.1.1:=by injection hkv with h1 _;exact h1.symm
   have hvv:e.val= .agg (dW x).toArray:=by injection hkv with _ h1;exact h1.symm
   have hxl:=dH.out x hx;have hxz:=bU.out x hx;have hbx:=AZ Jp.out hx;have hrw:w1.heap[w.heap.size]?=some (.mapIter (some b) clock seen clock):=by rcases hw1 with h|h<;>(rw[h];exact HRR.out)
   have hrb:w1.heap[b]?=some (.map es clock):=by rcases hw1 with h|h<;>(rw[h];exact jD.out)
   have hu1:aC (fun j=>j=w.heap.size) wr (Go.ChangeMaps.setBlock w1 w.heap.size (.mapIter (some b) clock (seen.push e.born) clock)):=by
    have:=uJ w1 w.heap.size (.mapIter (some b) clock (seen.push e.born) clock);rcases hw1 with h|h
    .rw [h] at this⊢;exact this
    .rw [h] at this⊢;exact this.Ey
   have hr2:=rZ (o':= .mapIter (some b) clock (seen.push e.born) clock) hrw;rw[hk,hvv] at hrun;generalize Go.ChangeMaps.setBlock w1 w.heap.size (.mapIter (some b) clock (seen.push e.born) clock)=wN at*;have o8:=ah (hu1.heap jD.out (by have:=lI.out;omega));have iV:=ah hr2;have hen:=run_entry_at (P:=Tryz.prog) wN w.heap.size b clock seen es clock e hr2 o8.out hml.1 Jf.out;rw[hk,hvv] at hen;have hnx: ∀ty,(Instr.next (.pointer (some ⟨w.heap.size,0,none⟩)) false ty).run Tryz.prog wr=_:=fun _=>hrun;have HGN:=ah (HG.out.kept hu1 (fun j hj _ e=>by omega));have LZ:Hid (Ext w wN):=ah (HE.out.trans' hu1 (fun j hj e=>by omega));have fO:=ah (HV.out.next Ej.out Jp.out Jf.out hml.1 hml.2 hk);have MF:=ah (left_shrinks es seen e he);have jA:Hid (w.heap.size+1<=wN.heap.size):=ah (Nat.le_trans yC.out hu1.size);have hll:L.length<=1000000:=by
    have h1:(L.map (·.1)).length<=D.length:=by
     rw[Tj.out];refine Nat.le_trans (List.length_filter_le _ _) ?_;rw[List.length_map];exact Nat.le_refl _
    have h2:=HV.out.dn.length_le_of_subset (HV.out.sub' Ej.out);rw[List.length_map] at h1 h2;have:=HL.out;omega
   have xM:=ah hll;clear hml hk hvv hrw hrb hu1 hr2 he hw1 hkv ak4 hk0 hll;obtain⟨⟨nm,so,t⟩,xa,xm,xc⟩:=x;obtain rfl:xm=t.kids.length:=by
    obtain⟨a,c,h⟩:=hxl.shape;injection h
   have HXL:=ah hxl;have HXZ:=ah hxz;have jS:=ah hbx;clear hxl hxz hbx;simp only[dW,vJ] at hrun hen HXL jS;have hb5:=ay wN (.cells #[.string nm,.string so,.string t.name,.string t.sort,.slice xa t.kids.length xc] 93);have fC:=ah hb5;have dA:=ah (LZ.out.alloc (.cells #[.string nm,.string so,.string t.name,.string t.sort,.slice xa t.kids.length xc] 93));have hIS:=fun W=>ak2 t xa xc nm so W;dsimp only[tV] at hIS;have HIS:=ah hIS;obtain⟨sf,hsf⟩: ∃b,xY (nm,so,t)=b:=⟨_,rfl⟩
   have D8:=ah hsf;have qw:Xq t nm so=sf:=hsf;rw[qw] at HIS;have HEX:=ah ((uR wN).alloc (.cells #[.string nm,.string so,.string t.name,.string t.sort,.slice xa t.kids.length xc] 93));clear hb5 hIS hsf qw
   go_wp2_with(fail)
   refine(HIS.out _).mono ?_;rintro e2 w5 ⟨rfl,hw5⟩;have fV:=ah (dA.out.trans hw5);have h_:=ah (HEX.out.trans hw5);have jE:=ah (hw5.heap fC.out (fun h=>h));have GY:=ah (h_.out.heap iV.out (fun h=>h));have HM6:=ah (h_.out.heap o8.out (fun h=>h));have HG6:=ah (HGN.out.kept h_.out (fun _ _ _ h=>h));have wQ:Hid (w.heap.size+1<=w5.heap.size):=ah (Nat.le_trans jA.out h_.out.size);clear hw5 hnx hrun hen HIS HGN o8 iV LZ dA fC HEX jA;cases sf with
   |true=>
    have Zo:Hid (L.map (·.1)=((D++[nm]).map fun n=>(EI l n).1).filter fun f=>!xY f):=ah (by
     rw[List.map_append,List.filter_append,<-Tj.out,List.map_singleton,jS.out];simp[D8.out])
    go_wp2_with fail
    have hlt:=MF.out
    go_roundg (leftOf es (seen.push e.born)).size
    case measure=>exact hlt
    case rel=>exact⟨_,_,L,D++[nm],_,rfl,rfl,HG6,GY,HM6,fV,wQ,fO,Zo⟩
   |false=>
    have b0:=aj jE.out 0 (.string nm) rfl;have b1:=aj jE.out 1 (.string so) rfl;have b2:=aj jE.out 2 (.string t.name) rfl;have b3:=aj jE.out 3 (.string t.sort) rfl;have b4:=aj jE.out 4 (.slice xa t.kids.length xc) rfl;obtain⟨nb,hnb⟩: ∃n,wN.heap.size=n:=⟨_,rfl⟩
    rw[hnb] at b0 b1 b2 b3 b4⊢;clear hnb;have tu:=ah (fun W (hW:Ext w5 W)=>EJ t _ S W ⟨xa,xc,rfl,HXL.out.ext (fV.out.trans hW)⟩ (fun j hj=>aF (iE.out j hj) (Nat.le_trans fV.out.size hW.size)) HXZ.out);dsimp only[tV] at tu;have dh:Hid (Ext w5 w5):=ah (aC.refl _ _);obtain⟨iT,hi,hz0,hz1,hz2⟩:=info_parts Po
    go_wp2_with fail
    go_region_law (first
     |(refine dY _ (.tmp 20) (.tmp 29) 27 rfl (w.heap.size+1) 93 iT (.agg #[.string ⟨#[]⟩,.string ⟨#[]⟩,.string ⟨#[]⟩,.string ⟨#[]⟩,.slice none 0 0]) 5 88 Tryz.underlying27 hi hz0 hz1 hz2 rfl (by decide) _ _ _ rfl BR.out _ 1 1 [Value.string nm,.string so,.string t.name,.string t.sort,.slice ya t.kids.length yc] rfl rfl oD.out kF.out iW.out.1 iW.out.2.1 iW.out.2.2 ?_;intro v7 w7 bK;obtain⟨a7,c7,hv7⟩:=bF bK.own;subst hv7;have jO:=ah bK;clear bK)
     |(go_simp;refine(tu.out w5.drew dh.out.drew).mono ?_;rintro e3 w6 ⟨r,Bx,rfl,uH,hb6,hw6⟩;obtain⟨ya,yc,jP⟩:=aP.shape uH;subst jP;have nV:Hid (Ext w5 w6):=ah (((uR w5).drewN' 1).trans hw6);have wS:=ah uH.read;have KP:Hid (∀j,Bx j->w5.heap.size<=j/\j<w6.heap.size):=ah hb6;have BR:Hid ((w6.alloc (.cells #[.string nm,.string so,.string t.name,.string t.sort,.slice ya t.kids.length yc] 93)).ownsRow (w.heap.size+1) 93 5 (.slice oa L.length oc) L.length (L.flatMap dW)):=ah ((bH HG6.out.own nV.out (fun _ _ h=>h)).alloc _);have oD:Hid (∀(j:Nat) (u:Value),[Value.string nm,.string so,.string t.name,.string t.sort,.slice ya t.kids.length yc][j]?=some u->(w6.alloc (.cells #[.string nm,.string so,.string t.name,.string t.sort,.slice ya t.kids.length yc] 93)).cell? ((⟨w6.heap.size,0,none⟩:Addr).add j)=some u):=ah (ak3 w6 _ _ _ _ _ 93);have kF:Hid (∀u∈[Value.string nm,.string so,.string t.name,.string t.sort,.slice ya t.kids.length yc],u.oneCell'=true):=ah (fun u hu=>by simp at hu;rcases hu with h|h|h|h|h<;>(subst h;rfl));have iW:Hid (L.length+1<=maxLen/\(L.length+1)*88<=140737488355328/\w.heap.size+1<=(w6.alloc (.cells #[.string nm,.string so,.string t.name,.string t.sort,.slice ya t.kids.length yc] 93)).heap.size):=ah ⟨by unfold maxLen;have:=xM.out;omega,by have:=xM.out;omega,by have h1:=nV.out.size;have h2:=wQ.out;simp;omega⟩;have d0:=nV.out.cell b0 (fun h=>h);have d1:=nV.out.cell b1 (fun h=>h);have d2:=nV.out.cell b2 (fun h=>h);have d3:=nV.out.cell b3 (fun h=>h);have d4:=nV.out.cell b4 (fun h=>h);clear uH hb6 hw6 tu))
    all_goals
     go_wp2_with fail
     try go_frame
     have hlen:(L++[(((nm,so,t),ya,t.kids.length,yc):Be)]).length=L.length+1:=by simp
     have HG8:=ah (HG6.out.grow wQ.out nV.out (x:=((nm,so,t),ya,t.kids.length,yc)) wS.out KP.out jO.out);have dB:Hid (aC (fun j=>(Value.slice oa L.length oc).ownBlock=some j) w5 w7):=ah (((nV.out.alloc (.cells #[.string nm,.string so,.string t.name,.string t.sort,.slice ya t.kids.length yc] 93)).mono (fun _ _ x=>x.elim)).trans jO.out.upd);have hol: ∀j,(Value.slice oa L.length oc).ownBlock=some j->w.heap.size+1<=j:=fun j e=>(HG6.out.own.lt j e).1;have dG:Hid (Ext w w7):=ah (fV.out.trans' dB.out (fun j hj e=>by have h1:=hol j e;omega));have HR8:=ah (dB.out.heap GY.out (fun e=>by have h1:=hol _ e;omega));have HM8:=ah (dB.out.heap HM6.out (fun e=>by have h1:=hol _ e;have:=lI.out;omega));have ig:Hid (w.heap.size+1<=w7.heap.size):=ah (Nat.le_trans wQ.out dB.out.size);have Zo:Hid ((L++[(((nm,so,t),ya,t.kids.length,yc):Be)]).map (·.1)=((D++[nm]).map fun n=>(EI l n).1).filter fun f=>!xY f):=ah (by
      rw[List.map_append,List.map_append,List.filter_append,<-Tj.out,List.map_singleton,List.map_singleton,jS.out];simp[D8.out])
     rw[<-hlen] at HG8⊢;have hlt:=MF.out;clear hol hi hz0 hz1 hz2
     go_roundg (leftOf es (seen.push e.born)).size
     case measure=>exact hlt
     case rel=>exact⟨a7,c7,_,D++[nm],_,rfl,rfl,HG8,HR8,HM8,dG,ig,fO,Zo⟩
def qy:List Be->Be->List Be
 |[],x=>[x]
 |y::l,x=>if y.1.1=x.1.1 then x::l else y::qy l x
theorem EK: ∀(l:List Be) (x:Be),(qy l x).map (fun x=>(x.1.1,Value.agg (dW x).toArray))=pF (l.map fun x=>(x.1.1,Value.agg (dW x).toArray)) x.1.1 (.agg (dW x).toArray)
 |[],x=>rfl
 |y::l,x=>by
  unfold qy;rw[List.map_cons];unfold pF;by_cases h:y.1.1=x.1.1
  .rw [if_pos h,if_pos h,List.map_cons]
  .rw [if_neg h,if_neg h,List.map_cons,EK l x]
theorem Il: ∀{l:List Be} {x:Be} (hd:(l.map fun x=>x.1.1).Nodup) (z:Be),z∈qy l x<->z=x\/(z∈l/\z.1.1≠x.1.1)
 |[],x,_,z=>by unfold qy;simp
 |y::l,x,hd,z=>by
  rw[List.map_cons,List.nodup_cons] at hd;unfold qy;by_cases h:y.1.1=x.1.1
  .rw [if_pos h,List.mem_cons,List.mem_cons];constructor
   .rintro (e|e)
    .exact .inl e
    .exact .inr ⟨.inr e,fun e2=>hd.1 (by rw[h,<-e2];exact List.mem_map.2 ⟨z,e,rfl⟩)⟩
   .rintro (e|⟨e|e,e2⟩)
    .exact .inl e
    .subst e;exact absurd h e2
    .exact .inr e
  .rw [if_neg h,List.mem_cons,List.mem_cons,Il hd.2 z];constructor
   .rintro (e|e|⟨e,e2⟩)
    .subst e;exact .inr ⟨.inl rfl,h⟩
    .exact .inl e
    .exact .inr ⟨.inr e,e2⟩
   .rintro (e|⟨e|e,e2⟩)
    .exact .inr (.inl e)
    .exact .inl e
    .exact .inr (.inr ⟨e,e2⟩)
theorem su: ∀{l:List Be} {x:Be},x.1.1∈(l.map fun x=>x.1.1)->(qy l x).map (fun x=>x.1.1)=l.map fun x=>x.1.1
 |y::l,x,h=>by
  unfold qy;by_cases e:y.1.1=x.1.1
  .rw [if_pos e,List.map_cons,List.map_cons,e]
  .rw [if_neg e,List.map_cons,List.map_cons,su (by
    rw[List.map_cons,List.mem_cons] at h;rcases h with h|h
    .exact absurd h.symm e
    .exact h)]
theorem A8: ∀{l:List Be} {x:Be},x.1.1∉(l.map fun x=>x.1.1)->(qy l x).map (fun x=>x.1.1)=(l.map fun x=>x.1.1)++[x.1.1]
 |[],x,h=>rfl
 |y::l,x,h=>by
  rw[List.map_cons,List.mem_cons,not_or] at h;unfold qy;rw[if_neg (fun e=>h.1 e.symm),List.map_cons,List.map_cons,A8 h.2];rfl
theorem Vb {l:List Be} {x:Be} (hd:(l.map fun x=>x.1.1).Nodup):((qy l x).map fun x=>x.1.1).Nodup:=by
 by_cases h:x.1.1∈(l.map fun x=>x.1.1)
 .rw [su h];exact hd
 .rw [A8 h,List.nodup_append];exact⟨hd,by simp,fun a ha b hb e=>by rw[List.mem_singleton] at hb;subst hb;subst e;exact h ha⟩
def zY (v:Vd):Be:=((v.1,v.2,.mk v.1 v.2 []),none,0,0)
def mZ (vs:List Vd):List Be:=vs.foldl (fun l v=>qy l (zY v)) []
theorem ML (vs:List Vd) (v:Vd):mZ (vs++[v])=qy (mZ vs) (zY v):=by unfold mZ;rw[List.foldl_append];rfl
theorem Xt: ∀(vs:List Vd),(∀v∈vs,∀u∈vs,v.1=u.1->v=u)->((mZ vs).map fun x=>x.1.1).Nodup/\∀z,z∈mZ vs<->∃v∈vs,z=zY v:=by
 intro vs
 suffices H: ∀n,∀vs:List Vd,vs.length=n->(∀v∈vs,∀u∈vs,v.1=u.1->v=u)->((mZ vs).map fun x=>x.1.1).Nodup/\∀z,z∈mZ vs<->∃v∈vs,z=zY v from H _ vs rfl
 intro n
 induction n with
 |zero=>
  intro vs h _;rw[List.eq_nil_of_length_eq_zero h];exact⟨List.nodup_nil,fun z=>by unfold mZ;simp⟩
 |succ n ih=>
  intro vs h hc;obtain⟨ws,v,rfl⟩: ∃ws v,vs=ws++[v]:=⟨vs.dropLast,vs.getLast (by intro e;rw[e] at h;cases h),(List.dropLast_concat_getLast _).symm⟩
  obtain⟨h1,h2⟩:=ih ws (by simpa using h) (fun a ha b hb=>hc a (List.mem_append_left _ ha) b (List.mem_append_left _ hb));rw[ML];refine⟨Vb h1,fun z=>?_⟩;rw[Il h1];constructor
  .rintro (e|⟨e,e2⟩)
   .exact ⟨v,List.mem_append_right _ (List.mem_singleton.2 rfl),e⟩
   .obtain ⟨u,hu,e3⟩:=(h2 z).1 e;exact⟨u,List.mem_append_left _ hu,e3⟩
  .rintro ⟨u,hu,e⟩;by_cases he:u.1=v.1
   .have:=hc u hu v (List.mem_append_right _ (List.mem_singleton.2 rfl)) he;rw[this] at e;exact .inl e
   .rcases List.mem_append.1 hu with hu|hu
    .exact .inr ⟨(h2 z).2 ⟨u,hu,e⟩,by rw[e];exact he⟩
    .rw [List.mem_singleton] at hu;rw[hu] at he;exact absurd rfl he
theorem Xu {es es':Array MapEntry} (h:es'.toList.map (·.born)=es.toList.map (·.born)) (seen:Array Nat):(leftOf es' seen).size=(leftOf es seen).size:=by
 have key: ∀es:Array MapEntry,(leftOf es seen).size=((es.toList.map (·.born)).filter fun b=>!seen.contains b).length:=fun es=>by
  unfold leftOf;rw[<-Array.length_toList,Array.toList_filter,List.filter_map,List.length_map];rfl
 rw[key,key,h]
theorem Zp {es es':List MapEntry} (h1:es.map (·.key)=es'.map (·.key)) (h2:es.map (·.born)=es'.map (·.born)):es.map (fun e=>(e.key,e.born))=es'.map (fun e=>(e.key,e.born)):=by
 have h: ∀es:List MapEntry,es.map (fun e=>(e.key,e.born))=(es.map (·.key)).zip (es.map (·.born)):=fun es=>by
  induction es with
  |nil=>rfl
  |cons e es ih=>simp only[List.map_cons,List.zip_cons_cons,ih]
 rw[h,h,h1,h2]
theorem eF.upd {P:Program} {et t kt:TypeId} (K:Jm P kt (fun s:ByteArray=>Value.string s)) (ht:P.underlying t=some (.map kt et)) {w:World} {b:Nat} {es:Array MapEntry} {cl:Nat} {l:List (By×Value)} (h1:w.heap[b]?=some (.map es cl)) (h2:es.toList.map (fun e=>(e.key,e.val))=l.map (fun p=>(Value.string p.1,p.2))) (k:By) (v:Value) (hk:k∈l.map (·.1)):
  ∃w' es',(Instr.mapUpdate t (.map (some b)) (.string k) v).run P w= .ok () w'/\w'.heap[b]?=some (.map es' cl)/\es'.toList.map (fun e=>(e.key,e.val))=(pF l k v).map (fun p=>(Value.string p.1,p.2))/\es'.toList.map (·.born)=es.toList.map (·.born)/\aC (fun j=>j=b) w w':=by
 have hf:=K.find k es.toList l w h2;have hc:=K.check false k w;have hblt:=(Array.getElem?_eq_some_iff.1 h1).1;have KO: ∀o,aC (fun j=>j=b) w {w with heap:=w.heap.setIfInBounds b o}:=fun o=>
  ⟨rfl,rfl,rfl,by simp,fun i hi hF=>by simp[Ne.symm (show i≠b from hF)]⟩
 rw[Pm];generalize hx:(l.findIdx? fun p=>decide (p.1=k))=x at*;cases x with
 |none=>
  rw[List.findIdx?_eq_none_iff] at hx;obtain⟨p,hp,e⟩:=List.mem_map.1 hk;have:=hx p hp;rw[e] at this;simp at this
 |some i=>
  have hi:i<l.length:=by
   rw[List.findIdx?_eq_some_iff_getElem] at hx;exact hx.1
  have hlen:es.size=l.length:=by
   have:=congrArg List.length h2;simpa using this
  have hki:(l[i]'hi).1=k:=by
   rw[List.findIdx?_eq_some_iff_getElem] at hx;simpa using hx.2.1
  have hes:(es[i]'(by omega)).key= .string k:=by
   have h5:(es.toList.map (fun e=>(e.key,e.val)))[i]?=(l.map (fun p=>(Value.string p.1,p.2)))[i]?:=by rw[h2]
   rw[List.getElem?_map,List.getElem?_map,Array.getElem?_toList,Array.getElem?_eq_getElem (show i<es.size by omega),List.getElem?_eq_getElem hi] at h5;simp only[Option.map_some] at h5;have h6:=congrArg Prod.fst (Option.some.inj h5);simp only at h6;rw[h6,hki]
  have hst:(Instr.keyThatStays (((es[i]?).map (·.key)).getD (.string k)) (.string k)).run P w= .ok (.string k) w:=by
   rw[Array.getElem?_eq_getElem (show i<es.size by omega)];simp only[Option.map_some,Option.getD_some,hes];unfold Instr.keyThatStays;rw[if_pos (K.same k)];rfl
  refine⟨_,es.modify i fun e=>{e with key:= .string k,val:=v},by simp[Instr.mapUpdate,run_underlying ht,MapKept.run_getObj_map h1,hc,hf,hst,MapKept.run_setObj_map _ h1,Result.andThen];rfl,by simp[hblt],?_,?_,KO _⟩
  .rw [Array.toList_modify];apply List.ext_getElem?;intro j;have h5:(es.toList.map (fun e=>(e.key,e.val)))[j]?=(l.map (fun p=>(Value.string p.1,p.2)))[j]?:=by rw[h2]
   simp only[List.getElem?_map,List.getElem?_modify,List.getElem?_set] at h5⊢;by_cases e:i=j
   .subst e;rw[if_pos rfl,if_pos hi];rw[Array.getElem?_toList,Array.getElem?_eq_getElem (show i<es.size by omega)];simp
   .rw [if_neg e];cases hq:es.toList[j]? with
    |none=>rw[hq] at h5;simpa using h5
    |some u=>rw[hq] at h5;simpa[e] using h5
  .rw [Array.toList_modify];apply List.ext_getElem?;intro j;simp only[List.getElem?_map,List.getElem?_modify];cases es.toList[j]? with
   |none=>rfl
   |some u=>simp only[Option.map_some];split<;>rfl
theorem Ur.kept {T:List Nr} {ad:Nat->Nat×Nat} {S F:Nat->Prop} {CT UT:TypeId} {bv bn ub:Nat} {bk:List Nat} {st:St} {w w':World} (h:Ur T ad S CT UT bv bn ub bk st w) (hu:aC F w w') (hF: ∀k,(Fb bv bn bk k\/S k\/k=ub)->¬F k):Ur T ad S CT UT bv bn ub bk st w':=
 ⟨h.us.ext hu (fun k hk=>hF k (.inl hk)),h.nd.kept hu (fun k hk=>hF k (.inr (.inl hk))),hu.heap h.u (hF _ (.inr (.inr rfl))),h.un,fun k hk=>⟨aF (h.sn k hk).1 hu.size,(h.sn k hk).2⟩⟩
theorem fZ.outside {T:List Nr} {ad:Nat->Nat×Nat} {S F:Nat->Prop} {CT UT:TypeId} {bv bn ub:Nat} {bk bk':List Nat} {st':St} {w w' w'':World} (h:fZ T ad S CT UT bv bn ub bk bk' st' w w') (hu:aC F w' w'') (hF: ∀k,(Fb bv bn bk' k\/S k\/k=ub)->¬F k) (hl: ∀j,j<w.heap.size->¬F j):fZ T ad S CT UT bv bn ub bk bk' st' w w'':=
 ⟨Ur.kept h.ur hu hF,h.upd.trans' hu (fun j hj hf=>absurd hf (hl j hj)),h.pre,h.new⟩
theorem ac0 (l:List Vd) (k:Nat) (h:k<l.length):l.drop k=vg l k::l.drop (k+1):=by
 rw[List.drop_eq_getElem_cons h];unfold vg;rw[List.getD_eq_getElem?_getD,List.getElem?_eq_getElem h];rfl
theorem Gm (l:List Vd) (k:Nat) (h:k<l.length):l.take (k+1)=l.take k++[vg l k]:=by
 rw[List.take_add_one];unfold vg;rw[List.getD_eq_getElem?_getD,List.getElem?_eq_getElem h];rfl
def Pq (T:List Nr) (F:Nat):St->List Vd->Option (St×Bool)
 |st,[]=>some (st,true)
 |st,v::vs=>match sH F st v.1 v.2 with
  |none=>none
  |some (st1,c)=>match GZ T F st1 c with
   |none=>none
   |some (st2,false)=>some (st2,false)
   |some (st2,true)=>Pq T F st2 vs
def oQ (T:List Nr) (F:Nat) (vs:List Vd):Option (Option St):=match MN T F ⟨[],[],[]⟩ 0 1 with
 |none=>none
 |some (_,false)=>some none
 |some (st1,true)=>match Pq T F st1 vs with
  |none=>none
  |some (_,false)=>some none
  |some (st2,true)=>match jQ T F st2 0 with
   |none=>none
   |some (gK,c)=>match GZ T F gK c with
    |none=>none
    |some (_,false)=>some none
    |some (EL,true)=>some (some EL)
theorem yt {T:List Nr} {ad:Nat->Nat×Nat} {S:Nat->Prop} (F:Nat) (a b:Tm) (aa ba:Option Addr) (ac bc:Nat) (w:World) (htab:dN w)
  (hA:bQ (fun k=>k<w.heap.size) w a (tV a (.slice aa a.kids.length ac))) (hB:bQ (fun k=>k<w.heap.size) w b (tV b (.slice ba b.kids.length bc))) (hsa:a.size<=100000) (hsb:b.size<=100000) (ha:wf aJ a=true) (hb:wf aJ b=true)
  (hc: ∀v∈(aV a++aV b),∀u∈(aV a++aV b),v.1=u.1->v=u) (hso: ∀v∈(aV a++aV b),v.2≠au) (aeT:ad 0=(w.heap.size,0)) (aeU:ad 1=(w.heap.size+1,0))
  (hN: ∀W,Ext w W->W.heap[w.heap.size]?=some (tO a aa ac)->W.heap[w.heap.size+1]?=some (tO b ba bc)->EM T ad S W) (hS: ∀k,S k->k<w.heap.size+2)
  (hTB: ∀(i:Nat) (r:Nr),T[i]?=some r->r.ks.length<=1000000) (R:Option St) (hR:oQ T F (aV a++aV b)=some R)
  (τ:Vd->Tm) (hfin: ∀st,R=some st->∀v∈(aV a++aV b),∃c C,(rQ st.vs v.1).isSome=true/\sH F st v.1 v.2=some (st,c)/\st.cs[c]?=some C/\C.sz<=1000/\C.dp<=60/\Pv T st F c=some (τ v)/\(τ v).size<=100000):
  Calls Tryz.prog 17 #[tV a (.slice aa a.kids.length ac),tV b (.slice ba b.kids.length bc)] w fun e w'=>((R=none/\e= .returned (.tuple #[.slice none 0 0,.int .i64 12]))\/(R≠none/\∃r L,e= .returned (.tuple #[r,.int .i64 0])/\iM (fun k=>w.heap.size<=k/\k<w'.heap.size) (fun k=>w.heap.size<=k/\k<w'.heap.size) w' r L/\AscK (Prod.fst:Bd->By) L/\(∀f,f∈L<->((∃v∈(aV a++aV b),f=(v.1,v.2,τ v))/\xY f=false))))/\Ext w w':=by
 have HA:=ah hA;have HB:=ah hB;have HAT:=ah htab;have HC:=ah hc;have Gy:=ah hso;have lZ:=ah hfin;have Tn:=ah hTB;have rO:=ah (And.intro hsa hsb);have sV:=ah (And.intro ha hb);have iE:=ah hS;have Jp:=ah hN;have HAD:=ah (And.intro aeT aeU);have HRR:=ah hR;have HGV:=ah (fun W (hW:Ext w W)=>Zq a b _ _ W (aS htab hW) ((HA.out.ext hW).weaken (fun k hk=>aF hk hW.size)) ((HB.out.ext hW).weaken (fun k hk=>aF hk hW.size)) (by omega) (by omega) ha hb (fun v hv u hu e=>by rw[hc v (List.mem_append_left _ hv) u (List.mem_append_right _ hu) e]));have rH:=ah (fun W (hW:Ext w W)=>sO a _ W (aS htab hW) ((HA.out.ext hW).weaken (fun k hk=>aF hk hW.size)) (by omega));have HVB:=ah (fun W (hW:Ext w W)=>sO b _ W (aS htab hW) ((HB.out.ext hW).weaken (fun k hk=>aF hk hW.size)) (by omega));rw[qA ha] at rH;rw[qA hb] at HVB;dsimp only[tV] at HGV rH HVB⊢;have hZ:=((uR w).alloc (tO a aa ac)).alloc (tO b ba bc);have hb2:=aB (ay w (tO a aa ac)) (tO b ba bc);have hb3:=alloc_at (w.alloc (tO a aa ac)) (tO b ba bc) (n:=w.heap.size+1) (by simp);have hsz:w.heap.size+2<=((w.alloc (tO a aa ac)).alloc (tO b ba bc)).heap.size:=by simp
 clear hA hB htab hc hso hfin hTB hsa hsb ha hb hS hN aeT aeU hR;obtain⟨x0,x1,x2⟩:=ak hb2;obtain⟨y0,y1,y2⟩:=ak hb3;have HZ:=ah hZ;have H2:=ah hb2;have H3:=ah hb3;have HZS:=ah hsz;clear hZ hb2 hb3 hsz
 go_enter Tryz.func17,Tryz.ntmps17
 go_wp2_with fail
 refine(HGV.out _ HZ.out).mono ?_;rintro e w3 ⟨rfl,hw3⟩;have aY:=ah (HZ.out.trans hw3);have fU:Hid (w.heap.size+2<=w3.heap.size):=ah (Nat.le_trans HZS.out hw3.size);have A_:=ah (hw3.heap H2.out (fun h=>h));have vM:=ah (hw3.heap H3.out (fun h=>h));clear hw3 x0 x1 x2 y0 y1 y2 H2 H3 HZ HGV HZS;obtain⟨bv,hbv⟩: ∃n,w3.heap.size=n:=⟨_,rfl⟩
 obtain⟨bn,hbn⟩: ∃n,bv+1=n:=⟨_,rfl⟩
 obtain⟨ub,hub⟩: ∃n,bn+1=n:=⟨_,rfl⟩
 have hx4:=(((uR w3).alloc (.map #[] 0)).alloc (.map #[] 0)).alloc (.cells #[.map (some bv),.map (some bn)] 108);have hmv:eF (fun s:ByteArray=>Value.string s) (((w3.alloc (.map #[] 0)).alloc (.map #[] 0)).alloc (.cells #[.map (some bv),.map (some bn)] 108)) bv []:=by
  have:=eF.made (fun s:ByteArray=>Value.string s) w3;rw[hbv] at this;exact this.ext (((uR _).alloc _).alloc _)
 have hmn:eF jG (((w3.alloc (.map #[] 0)).alloc (.map #[] 0)).alloc (.cells #[.map (some bv),.map (some bn)] 108)) bn []:=by
  have:=eF.made jG (w3.alloc (.map #[] 0));rw[show(w3.alloc (.map #[] 0)).heap.size=bn by simp;omega] at this;exact this.ext ((uR _).alloc _)
 have aeW:=alloc_at ((w3.alloc (.map #[] 0)).alloc (.map #[] 0)) (.cells #[.map (some bv),.map (some bn)] 108) (n:=ub) (by simp;omega);have UW:(((w3.alloc (.map #[] 0)).alloc (.map #[] 0)).alloc (.cells #[.map (some bv),.map (some bn)] 108)).heap.size=bv+3:=by simp;omega
 have hmm:= @run_makeMap Tryz.prog
 go_wp2_with fail
 generalize (((w3.alloc (.map #[] 0)).alloc (.map #[] 0)).alloc (.cells #[.map (some bv),.map (some bn)] 108))=w4 at*;have gW:Hid (w.heap.size+2<=bv/\bn=bv+1/\ub=bv+2/\w4.heap.size=bv+3):=ah ⟨by rw[<-hbv];exact fU.out,hbn.symm,by omega,UW⟩;have xP:Hid (Ext w3 w4):=ah hx4;have aeX:Hid (Ext w w4):=ah (aY.out.trans hx4);have Bc:=ah (hx4.heap A_.out (fun h=>h));have vN:=ah (hx4.heap vM.out (fun h=>h));have Dn:Hid (Ur T ad S 121 108 bv bn ub [] ⟨[],[],[]⟩ w4):=ah ⟨⟨hmv,hmn,rfl,by simp;omega,fun c x h=>by simp at h,fun e h=>(by cases h),fun e h=>(by cases h),fun x h=>(by cases h)⟩,
  Jp.out _ aeX.out Bc.out vN.out,aeW,(by rintro(h|h|h)<;>first|omega|cases h),fun k hk=>⟨by have:=iE.out k hk;have:=gW.out;omega,by rintro(h|h|h)<;>first|(have:=iE.out k hk;have:=gW.out;omega)|cases h⟩⟩
 have gB:Hid (∀W,aC (Fb bv bn []) w4 W->Ext w W):=ah (fun W hW=>aeX.out.trans' hW (fun j hj h=>by have:=gW.out;rcases h with h|h|h<;>first|omega|cases h));clear hmv hmn aeW UW hbv hbn hub hx4 hmm A_ vM xP fU aY;have hR:=HRR.out;unfold oQ at hR;cases hun:MN T F ⟨[],[],[]⟩ 0 1 with
 |none=>rw[hun] at hR;cases hR
 |some q=>
 obtain⟨st1,ok1⟩:=q;rw[hun] at hR;have o9:=ah (ac1 Tn.out F [] ⟨[],[],[]⟩ st1 w4 0 1 ok1 Dn.out hun);rw[HAD.out.1,HAD.out.2] at o9;have HR1:=ah hR;clear hR hun;refine o9.out.mono ?_;rintro e w5 ⟨rfl,bk1,hu1⟩;have Xv:=ah (gB.out _ hu1.upd);have Ve:=ah hu1;clear hu1 o9;have hR:=HR1.out;cases ok1 with
 |false=>
  simp only at hR;have Xw:R=none:=by injection hR with h;exact h.symm
  subst Xw
  go_wp2_with fail
  go_ret2
  exact⟨rfl,Xv.out⟩
 |true=>
 simp only at hR;have HR2:=ah hR;have hn2: ∀k,k<w.heap.size+2->¬Fb bv bn [] k:=fun k h1 h=>by have:=gW.out;rcases h with h|h|h<;>first|omega|cases h
 have Px:=ah (Ve.out.upd.heap Bc.out (hn2 _ (by omega)));have Jq:=ah (Ve.out.upd.heap vN.out (hn2 _ (by omega)));clear hn2 Bc vN HR1 hR;obtain⟨x0,x1,x2⟩:=ak Px.out
 go_wp2_with fail
 refine(rH.out _ Xv.out).mono ?_;rintro e w6 ⟨r1,rfl,hr1,hw6⟩;have fV:=ah (Xv.out.trans hw6);have Tq:=ah (hw6.heap Px.out (fun h=>h));have Dw:=ah (hw6.heap Jq.out (fun h=>h));have aeY:=ah (Ve.out.ext hw6);have qN:=ah hr1;obtain⟨p1,c1,hp1⟩:=dL.shape hr1;subst hp1;clear hw6 x0 x1 x2 Px Jq Ve hr1 rH;obtain⟨y0,y1,y2⟩:=ak Dw.out
 go_wp2_with fail
 refine(HVB.out _ fV.out).mono ?_;rintro e w7 ⟨r2,rfl,hr2,hw7⟩;have iG:=ah (fV.out.trans hw7);have H27:=ah (hw7.heap Tq.out (fun h=>h));have Jr:=ah (hw7.heap Dw.out (fun h=>h));have Vf:=ah (aeY.out.ext hw7);have ae0:=ah (dL.ext qN.out hw7);have ae1:=ah hr2;obtain⟨p2,c2,hp2⟩:=dL.shape hr2;subst hp2;clear hw7 y0 y1 y2 Tq Dw aeY hr2 HVB qN;have hmm:= @run_makeMap Tryz.prog;have hla:(aV a).length<=100000:=Nat.le_trans (ou sV.out.1) rO.out.1;have hlb:(aV b).length<=100000:=Nat.le_trans (ou sV.out.2) rO.out.2;have Tt:=((uR w7).alloc (.map #[] 0)).alloc (.cells #[.slice p1 (aV a).length c1,.slice p2 (aV b).length c2] 111);have hb8:=alloc_at (w7.alloc (.map #[] 0)) (.cells #[.slice p1 (aV a).length c1,.slice p2 (aV b).length c2] 111) (n:=w7.heap.size+1) (by simp);have hcc:=Zn (aV a) (aV b) _ _ (fun _=>True) (w7.heap.size+1) _ (aG.weaken (dL.ext ae0.out Tt) (fun _ _=>trivial)) (aG.weaken (dL.ext ae1.out Tt) (fun _ _=>trivial)) (aj hb8 0 _ rfl) (aj hb8 1 _ rfl) (by omega) (by omega);have zF:=ah hcc;have hmt:eF (fun s:ByteArray=>Value.string s) ((w7.alloc (.map #[] 0)).alloc (.cells #[.slice p1 (aV a).length c1,.slice p2 (aV b).length c2] 111)) w7.heap.size []:=(eF.made _ w7).ext ((uR _).alloc _);have hs8:((w7.alloc (.map #[] 0)).alloc (.cells #[.slice p1 (aV a).length c1,.slice p2 (aV b).length c2] 111)).heap.size=w7.heap.size+2:=by simp
 have Tv:=ah Tt;have ae2:=ah hmt;have ig:=ah hs8;have ae3:Hid (∀k,Fb bv bn bk1 k->k<w7.heap.size):=ah (fun k hk=>Vf.out.ur.us.lt k hk);have G8:Hid (w4.heap.size<=w7.heap.size):=ah Vf.out.upd.size;obtain⟨VL,EN⟩: ∃L,aV a++aV b=L:=⟨_,rfl⟩
 have hlv:VL.length<=200000:=by rw[<-EN,List.length_append];omega
 clear hla hlb Tt hb8 hcc hmt hs8
 go_wp2_with fail
 generalize (w7.alloc (.map #[] 0)).alloc (.cells #[.slice p1 (aV a).length c1,.slice p2 (aV b).length c2] 111)=w8 at*;obtain⟨tb,htb⟩: ∃n,w7.heap.size=n:=⟨_,rfl⟩
 refine zF.out.mono ?_;rintro e w9 ⟨r3,rfl,hr3,jd⟩;rw[EN] at hr3 HR2 HC Gy lZ;have xI:=ah EN;have ae4:=ah (ae2.out.ext jd);have jg:=ah ((iG.out.trans Tv.out).trans jd);have ae5:=ah ((Vf.out.ext Tv.out).ext jd);obtain⟨s9,hs9⟩: ∃n,w9.heap.size=n:=⟨_,rfl⟩
 have Zr:Hid (dL (fun j=>tb<j/\j<s9) w9 r3 VL):=ah (aG.weaken hr3 (fun k hk=>⟨by have:=ig.out;omega,by rw[<-hs9];exact hk.2⟩));have Bf:Hid (w4.heap.size<=tb/\tb<s9/\s9<=w9.heap.size):=ah ⟨by have:=G8.out;omega,by have h1:=ig.out;have h2:=jd.size;omega,by omega⟩;have ae6:Hid (∀k,tb<=k->k<s9->¬Fb bv bn bk1 k):=ah (fun k h1 h2 h=>by have:=ae3.out k h;omega);obtain⟨p3,c3,hp3⟩:=dL.shape Zr.out;subst hp3;have ae7:Hid (eF (fun s:ByteArray=>Value.string s) w9 tb ((mZ (VL.take 0)).map fun x=>(x.1.1,Value.agg (dW x).toArray))):=ah (by rw[<-htb];exact ae4.out);have hR:=HR2.out;cases hav:Pq T F st1 VL with
 |none=>rw[hav] at hR;cases hR
 |some q=>
 obtain⟨sa,oka⟩:=q;rw[hav] at hR;have HR3:=ah hR;have ae8:Hid (Pq T F st1 (VL.drop 0)=some (sa,oka)):=ah hav;rw[htb];clear jd hs9 htb EN hr3 Tv zF ae2 ae4 ae0 ae1 Vf iG HR2 hR hav ae3 G8 ig hmm
 go_wp2_with fail
 go_loopg [50] VL.length (fun gk iv wr=> ∃(k:Nat) (stk:St) (wX:List Nat),iv= .int .i64 (k:Int)/\gk=VL.length-k/\k<=VL.length/\Hid (fZ T ad S 121 108 bv bn ub [] wX stk w4 wr)/\Hid (Pq T F stk (VL.drop k)=some (sa,oka))/\Hid (∀k,tb<=k->k<s9->¬Fb bv bn wX k)/\Hid (dL (fun j=>tb<j/\j<s9) wr (.slice p3 VL.length c3) VL)/\Hid (eF (fun s:ByteArray=>Value.string s) wr tb ((mZ (VL.take k)).map fun x=>(x.1.1,Value.agg (dW x).toArray)))/\Hid (s9<=wr.heap.size))
 case atStart=>exact⟨0,_,_,rfl,rfl,Nat.zero_le _,ae5,ae8,ae6,Zr,ae7,ah Bf.out.2.2⟩
 case round=>
  clear ae5 ae8 ae6 Zr ae7 jg;obtain⟨k,stk,wX,rfl,rfl,hk,HU,HAV,G9,HFV,MO,bU⟩:=hrel;have Xv:=ah (gB.out _ HU.out.upd);by_cases hlt:k<VL.length
  .have Py:Hid (∀k,Fb bv bn wX k->k<wr.heap.size):=ah (fun k hk=>HU.out.ur.us.lt k hk);obtain⟨g,off,hp3,hat⟩:=dL.at_ HFV.out (by omega);subst hp3;obtain⟨q0,q1⟩:=hat k hlt;have hvm:=yu hlt;have htk:=Gm VL k hlt;have hav:=HAV.out;rw[ac0 VL k hlt] at hav;obtain⟨v,hv⟩: ∃v,vg VL k=v:=⟨_,rfl⟩
   rw[hv] at q0 q1 hvm htk hav;obtain⟨nm,so⟩:=v;simp only at q0 q1;have ak5:Hid (so≠au):=ah (Gy.out _ hvm);unfold Pq at hav;simp only at hav;cases hvf:sH F stk nm so with
   |none=>rw[hvf] at hav;cases hav
   |some q=>
   obtain⟨st1',c⟩:=q;rw[hvf] at hav;simp only at hav;cases hag:GZ T F st1' c with
   |none=>rw[hag] at hav;cases hav
   |some q=>
   obtain⟨st2',b2⟩:=q;rw[hag] at hav;have ak6:=ah hav;have HAG:=ah hag;have rJ:=ah htk;have hxA:=((uR wr).alloc (.cells #[.string nm,.string so] 116)).alloc (.cells #[.string nm,.string so,.slice none 0 0] 24);have Pz:=aB (ay wr (.cells #[.string nm,.string so] 116)) (.cells #[.string nm,.string so,.slice none 0 0] 24);have EO:=alloc_at (wr.alloc (.cells #[.string nm,.string so] 116)) (.cells #[.string nm,.string so,.slice none 0 0] 24) (n:=wr.heap.size+1) (by simp);have hsA:((wr.alloc (.cells #[.string nm,.string so] 116)).alloc (.cells #[.string nm,.string so,.slice none 0 0] 24)).heap.size=wr.heap.size+2:=by simp
   have Tz:=ah (HU.out.ext hxA);have kM:=ah (afb F c (wr.heap.size+1) 0 nm so none 0 0 Tz.out.ur (aj EO 0 _ rfl) (aj EO 1 _ rfl) (aj EO 2 _ rfl) (fun h=>by have:=Py.out _ h;omega) ak5.out hvf);have EP:=ah Pz;have eY:=ah EO;have Zt:=ah hsA;have TA:=ah hxA;obtain⟨z0,z1,z2,z2'⟩:=bZ hlt;clear hat hvm htk hav hv hvf hag hxA Pz EO hsA
   go_wp2_with fail
   generalize (wr.alloc (.cells #[.string nm,.string so] 116)).alloc (.cells #[.string nm,.string so,.slice none 0 0] 24)=wA at*;clear q0 q1;obtain⟨nA,hnA⟩: ∃n,wr.heap.size=n:=⟨_,rfl⟩
   rw[hnA] at kM EP eY Zt Py⊢;refine kM.out.mono ?_;rintro e wB ⟨bkB,rfl,huB⟩;have yL:=ah (Tz.out.trans huB);have uT:=ah (abk Tn.out F bkB st1' st2' wB c b2 yL.out.ur HAG.out);have Xx:=ah huB;clear huB kM
   go_wp2_with fail
   refine uT.out.mono ?_;rintro e wC ⟨rfl,Dx,Xy⟩;have wY:=ah (Xx.out.trans Xy);have Js:=ah (Tz.out.trans wY.out);clear Xy uT Xx;have hav:=ak6.out;have PE:=ah (gB.out _ Js.out.upd);cases b2 with
   |false=>
    simp only[Option.some.injEq,Prod.mk.injEq] at hav;obtain⟨rfl,rfl⟩:=hav;have hR:=HR3.out;simp only at hR;have Xw:R=none:=by injection hR with h;exact h.symm
    subst Xw
    go_wp2_with fail
    go_ret2
    exact⟨rfl,PE.out⟩
   |true=>
   simp only at hav;have ak7:=ah hav;have hnf: ∀k,Fb bv bn wX k->k<nA:=Py.out;have Pz:=wY.out.upd.heap EP.out (fun h=>by have:=hnf _ h;omega);have EO:=wY.out.upd.heap eY.out (fun h=>by have:=hnf _ h;omega);have Vg:Hid (∀k,tb<=k->k<s9->¬Fb bv bn Dx k):=ah (fun k h1 h2 h=>by
    rcases h with h|h|h
    .exact G9.out k h1 h2 (.inl h)
    .exact G9.out k h1 h2 (.inr (.inl h))
    .rcases wY.out.new k h with h|h
     .exact G9.out k h1 h2 (.inr (.inr h))
     .have:=Zt.out;have:=bU.out;omega)
   have afd:eF (fun s:ByteArray=>Value.string s) wC tb ((mZ (VL.take k)).map fun x=>(x.1.1,Value.agg (dW x).toArray)):=(MO.out.ext TA.out).kept wY.out.upd (G9.out tb (Nat.le_refl _) Bf.out.2.1);have ak8:Hid (dL (fun j=>tb<j/\j<s9) wC (.slice (some ⟨g,off,none⟩) VL.length c3) VL):=ah (aG.kept (dL.ext HFV.out TA.out) wY.out.upd (fun j hj=>G9.out j (by omega) hj.2));have afe:Hid (s9<=wC.heap.size):=ah (by have h1:=wY.out.upd.size;have:=Zt.out;have:=bU.out;omega);obtain⟨W2,Jt,vU,hu2⟩:=eF.put (P:=Tryz.prog) (t:=98) (qp Tryz.underlying9) Tryz.underlying98 afd nm (.agg #[.string nm,.string so,.string nm,.string so,.slice none 0 0]);have hput:(Instr.mapUpdate 98 (.map (some tb)) (.string nm) (.agg #[.string nm,.string so,.string nm,.string so,.slice none 0 0])).run Tryz.prog wC= .ok () W2:=Jt;have ak9:Hid (eF (fun s:ByteArray=>Value.string s) W2 tb ((mZ (VL.take (k+1))).map fun x=>(x.1.1,Value.agg (dW x).toArray))):=ah (by
    rw[rJ.out,ML,EK];exact vU)
   have htl:w4.heap.size<=tb:=Bf.out.1;have uU:Hid (fZ T ad S 121 108 bv bn ub [] Dx st2' w4 W2):=ah (fZ.outside Js.out hu2 (fun j hj e=>by
    rcases hj with hj|hj|hj
    .exact Vg.out tb (Nat.le_refl _) Bf.out.2.1 (by rw[<-e];exact hj)
    .have:=iE.out j hj;have:=gW.out;omega
    .have:=gW.out;omega) (fun j hj e=>by omega))
   have ak_:Hid (dL (fun j=>tb<j/\j<s9) W2 (.slice (some ⟨g,off,none⟩) VL.length c3) VL):=ah (aG.kept ak8.out hu2 (fun j hj e=>by omega));have vZ:Hid (s9<=W2.heap.size):=ah (Nat.le_trans afe.out hu2.size);obtain⟨b0,b1⟩:=bT Pz;obtain⟨d0,d1,d2⟩:=ak EO;clear hav hnf Pz EO afd Jt vU hu2 PE Tz yL wY Js
   go_wp2_with fail
   go_roundg (VL.length- (k+1))
   case measure=>omega
   case rel=>exact⟨k+1,_,_,by go_num,rfl,by omega,uU,ak7,Vg,ak_,ak9,vZ⟩
  .obtain rfl:k=VL.length:=by omega
   have z2:decide ((VL.length:Int)< (VL.length:Int))=false:=dF (by omega);have hav:=HAV.out;rw[List.drop_length] at hav;unfold Pq at hav;simp only[Option.some.injEq,Prod.mk.injEq] at hav;obtain⟨rfl,rfl⟩:=hav;have hR:=HR3.out;simp only at hR;cases hcl:jQ T F stk 0 with
   |none=>rw[hcl] at hR;cases hR
   |some q=>
   obtain⟨gK,c⟩:=q;rw[hcl] at hR;simp only at hR;cases hag:GZ T F gK c with
   |none=>rw[hag] at hR;cases hR
   |some q=>
   obtain⟨EL,b2⟩:=q;rw[hag] at hR;have HR4:=ah hR;have HAG:=ah hag;have kM:=ah (Oa F 0 c HU.out.ur hcl);rw[HAD.out.1] at kM;have HTV:Hid (eF (fun s:ByteArray=>Value.string s) wr tb ((mZ VL).map fun x=>(x.1.1,Value.agg (dW x).toArray))):=ah (by have:=MO.out;rw[List.take_length] at this;exact this);clear hR hcl hag MO
   go_wp2_with fail
   refine kM.out.mono ?_;rintro e wB ⟨bkB,rfl,huB⟩;have yL:=ah (HU.out.trans huB);have uT:=ah (abk Tn.out F bkB gK EL wB c b2 yL.out.ur HAG.out);have Xx:=ah huB;clear huB kM
   go_wp2_with fail
   refine uT.out.mono ?_;rintro e wC ⟨rfl,Dx,Xy⟩;have wY:=ah (Xx.out.trans Xy);have Js:=ah (HU.out.trans wY.out);clear Xy uT Xx yL;have PE:=ah (gB.out _ Js.out.upd);have hR:=HR4.out;cases b2 with
   |false=>
    simp only at hR;have Xw:R=none:=by injection hR with h;exact h.symm
    subst Xw
    go_wp2_with fail
    go_ret2
    exact⟨rfl,PE.out⟩
   |true=>
   simp only at hR;obtain rfl:R=some EL:=by injection hR with h;exact h.symm
   have ER:=ah (lZ.out EL rfl);have Vg:Hid (∀k,tb<=k->k<s9->¬Fb bv bn Dx k):=ah (fun k h1 h2 h=>by
    rcases h with h|h|h
    .exact G9.out k h1 h2 (.inl h)
    .exact G9.out k h1 h2 (.inr (.inl h))
    .rcases wY.out.new k h with h|h
     .exact G9.out k h1 h2 (.inr (.inr h))
     .have:=bU.out;omega)
   have Ju:=ah (HTV.out.kept wY.out.upd (G9.out tb (Nat.le_refl _) Bf.out.2.1));have afe:Hid (s9<=wC.heap.size):=ah (Nat.le_trans bU.out wY.out.upd.size);have HLW:Hid (∀j,w4.heap.size<=j->j<wC.heap.size->w4.heap.size<=j):=ah (fun _ h _=>h);clear hR HR4 wY HU Xv HTV G9 bU HAV HFV;obtain⟨es,clock,hb,hes,hbp,hbc⟩:=Ju.out;have PK:=ah (Xt VL HC.out);have Jf:Hid ((es.toList.map (·.born)).Nodup):=ah (by
    rw[List.Nodup,List.pairwise_map];exact hbp.imp (fun h e=>by omega))
   have Dy:=ah hbp;have ku:=ah hbc;have MC:=ah hes;have Ej:Hid (vK es.toList ((mZ VL).map fun x=>x.1.1)):=ah (by
    have:=vK.of hes;rw[List.map_map] at this;exact this)
   have hrg:=run_range_map (P:=Tryz.prog) wC 98 9 93 tb es clock Tryz.underlying98 hb;have hblt:tb<wC.heap.size:=(Array.getElem?_eq_some_iff.1 hb).1;have lI:=ah hblt;have HB0:=ah (aB hb (.mapIter (some tb) clock #[] clock));have HR0:=ah (ay wC (.mapIter (some tb) clock #[] clock));have hE0:=(uR wC).alloc (.mapIter (some tb) clock #[] clock);have wZ:=ah (Js.out.ext hE0);have HZ0:Hid (wC.heap.size+1<=(wC.alloc (.mapIter (some tb) clock #[] clock)).heap.size):=ah (by simp);have Xz:Hid (∀j,wC.heap.size<=j->¬(Fb bv bn Dx j\/S j\/j=ub)/\w4.heap.size<=j/\tb<j):=ah (fun j hj=>by
    have h1:=Js.out.upd.size;have h2:=gW.out;refine⟨?_,by omega,by omega⟩;rintro(h|h|h)
    .have:=Js.out.ur.us.lt j h;omega
    .have:=iE.out j h;omega
    .omega)
   clear hes hbp hbc hb hblt hE0 Ju Js PE
   go_wp2_with fail
   try go_frame
   generalize wC.alloc (.mapIter (some tb) clock #[] clock)=w7' at*;clear hrg;obtain⟨ri,hri⟩: ∃n,wC.heap.size=n:=⟨_,rfl⟩
   rw[hri] at HR0 HZ0 lI Xz⊢;clear hri
   go_loopg [] (leftOf es #[]).size (fun gk wr=> ∃(D:List By) (seen:Array Nat),gk=(leftOf es seen).size/\Hid (wr.heap[ri]?=some (.mapIter (some tb) clock seen clock))/\Hid (wr.heap[tb]?=some (.map es clock))/\Hid (fZ T ad S 121 108 bv bn ub [] Dx EL w4 wr)/\Hid (ri+1<=wr.heap.size)/\Hid (uS es.toList seen D))
   case atStart=>exact⟨[],#[],rfl,HR0,HB0,wZ,HZ0,ah (uS.start _)⟩
   case round=>
    clear HR0 HB0 wZ HZ0;obtain⟨D,seen,rfl,ES,jD,HU,yC,HV⟩:=hrel;rcases run_next_at (P:=Tryz.prog) wr 0 ri tb clock clock seen es clock ES.out jD.out (fun x hx=>ku.out x hx) (Nat.le_refl _) with⟨h0,hrun⟩|⟨e,he,w1,hw1,hrun⟩
    .have hnx: ∀ty,(Instr.next (.pointer (some ⟨ri,0,none⟩)) false ty).run Tryz.prog wr=_:=fun _=>hrun;clear h0 ES HV;have hrg:=run_range_map (P:=Tryz.prog) wr 98 9 93 tb es clock Tryz.underlying98 jD.out;have HB0:=ah (aB jD.out (.mapIter (some tb) clock #[] clock));have HR0:=ah (ay wr (.mapIter (some tb) clock #[] clock));have hE0:=(uR wr).alloc (.mapIter (some tb) clock #[] clock);have wZ:=ah (HU.out.ext hE0);have HZ0:Hid (wr.heap.size+1<=(wr.alloc (.mapIter (some tb) clock #[] clock)).heap.size):=ah (by simp);have HFS:Hid (∀j,wr.heap.size<=j->¬(Fb bv bn Dx j\/S j\/j=ub)/\w4.heap.size<=j/\tb<j/\w.heap.size<=j):=ah (fun j hj=>by
      have h1:=yC.out;obtain⟨h2,h3,h4⟩:=Xz.out j (by omega);have h5:=gW.out;exact⟨h2,h3,h4,by omega⟩)
     have kL:Hid (∀x∈mZ VL,∃v∈VL,x.1.1=v.1/\((x.1.1∉([]:List By)/\x=zY v)\/(x.1.1∈([]:List By)/\x.1=(v.1,v.2,τ v)/\aI (fun j=>wr.heap.size+1<=j/\j< (wr.alloc (.mapIter (some tb) clock #[] clock)).heap.size) (wr.alloc (.mapIter (some tb) clock #[] clock)) (τ v).kids (vJ x)))):=ah (fun x hx=>by
      obtain⟨v,hv,rfl⟩:=(PK.out.2 x).1 hx;exact⟨v,hv,rfl,.inl ⟨by simp,rfl⟩⟩)
     have dP:Hid (es.toList.map (fun e=>(e.key,e.val))=(mZ VL).map (fun x=>(Value.string x.1.1,Value.agg (dW x).toArray))):=ah (by
      have:=MC.out;rw[List.map_map] at this;exact this)
     clear hE0 HU jD Xz lI yC hrun
     go_wp2_with fail
     try go_frame
     generalize wr.alloc (.mapIter (some tb) clock #[] clock)=w8' at*;clear hrg hnx;obtain⟨rj,hrj⟩: ∃n,wr.heap.size=n:=⟨_,rfl⟩
     rw[hrj] at HR0 HZ0 HFS kL⊢;clear hrj
     go_loopg [] (leftOf es #[]).size (fun gk wr=> ∃(D:List By) (seen:Array Nat) (es':Array MapEntry) (lk:List Be),gk=(leftOf es' seen).size/\Hid (wr.heap[rj]?=some (.mapIter (some tb) clock seen clock))/\Hid (wr.heap[tb]?=some (.map es' clock))/\Hid (fZ T ad S 121 108 bv bn ub [] Dx EL w4 wr)/\Hid (rj+1<=wr.heap.size)/\Hid (uS es'.toList seen D)/\Hid (es'.toList.map (fun e=>(e.key,e.val))=lk.map (fun x=>(Value.string x.1.1,Value.agg (dW x).toArray)))/\Hid (es'.toList.map (·.born)=es.toList.map (·.born))/\Hid (lk.map (fun x=>x.1.1)=(mZ VL).map fun x=>x.1.1)/\Hid (∀x∈lk,∃v∈VL,x.1.1=v.1/\((x.1.1∉D/\x=zY v)\/(x.1.1∈D/\x.1=(v.1,v.2,τ v)/\aI (fun j=>rj+1<=j/\j<wr.heap.size) wr (τ v).kids (vJ x)))))
     case atStart=>exact⟨[],#[],es,mZ VL,rfl,HR0,HB0,wZ,HZ0,ah (uS.start _),dP,ah rfl,ah rfl,kL⟩
     case round=>
      clear HR0 HB0 wZ HZ0 kL dP;obtain⟨D,seen,es',lk,rfl,ES,jD,HU,yC,HV,G_,HBO,HNK,HJ⟩:=hrel;have aff:Hid ((es'.toList.map (·.born)).Nodup):=ah (by rw[HBO.out];exact Jf.out);have afg:Hid (∀x∈es'.toList,x.born<clock):=ah (fun x hx=>by
       have h1:x.born∈es'.toList.map (·.born):=List.mem_map.2 ⟨x,hx,rfl⟩;rw[HBO.out] at h1;obtain⟨y,hy,e⟩:=List.mem_map.1 h1;rw[<-e];exact ku.out y hy)
      have Zu:Hid (vK es'.toList (lk.map fun x=>x.1.1)):=ah (by
       have h1:=congrArg (List.map Prod.fst) G_.out;rw[List.map_map,List.map_map] at h1;unfold vK;rw[List.map_map];exact h1)
      have Vh:Hid ((lk.map fun x=>x.1.1).Nodup):=ah (by rw[HNK.out];exact PK.out.1);rcases run_next_at (P:=Tryz.prog) wr 0 rj tb clock clock seen es' clock ES.out jD.out (fun x hx=>afg.out x hx) (Nat.le_refl _) with⟨h0,hrun⟩|⟨e,he,w1,hw1,hrun⟩
      .have hnx: ∀ty,(Instr.next (.pointer (some ⟨rj,0,none⟩)) false ty).run Tryz.prog wr=_:=fun _=>hrun;have hfin:=HV.out.fin Zu.out h0;have hall: ∀x∈lk,∃v∈VL,x.1.1=v.1/\x.1=(v.1,v.2,τ v)/\aI (fun j=>rj+1<=j/\j<wr.heap.size) wr (τ v).kids (vJ x):=fun x hx=>by
        obtain⟨v,hv,h1,h2⟩:=HJ.out x hx;have hd:x.1.1∈D:=(hfin _).2 (List.mem_map.2 ⟨x,hx,rfl⟩);rcases h2 with⟨h2,_⟩|⟨_,h2,h3⟩
        .exact absurd hd h2
        .exact ⟨v,hv,h1,h2,h3⟩
       have htb:TbR (fun j=>rj+1<=j/\j<wr.heap.size) wr tb lk:=⟨⟨es',clock,jD.out,by rw[G_.out,List.map_map];rfl,by
        have h1:(es'.toList.map (·.born)).Pairwise (· < ·):=by rw[HBO.out];exact List.pairwise_map.2 Dy.out
        exact List.pairwise_map.1 h1,afg.out⟩,Vh.out,fun x hx=>by
        obtain⟨v,hv,h1,h2,h3⟩:=hall x hx;rw[h2];exact h3⟩
       have hkl:lk.length<=1000000:=by
        have h1:=congrArg List.length HNK.out;rw[List.length_map,List.length_map] at h1;have h2:((mZ VL).map fun x=>x.1.1).length<=(VL.map (·.1)).length:=PK.out.1.length_le_of_subset (fun n hn=>by
         obtain⟨x,hx,e⟩:=List.mem_map.1 hn;obtain⟨v,hv,e2⟩:=(PK.out.2 x).1 hx;rw[<-e,e2];exact List.mem_map.2 ⟨v,hv,rfl⟩)
        rw[List.length_map,List.length_map] at h2;omega
       have TB:=ah (Va lk tb _ wr htb (fun k hk=>hk.2) (fun x hx=>by
        obtain⟨v,hv,h1,h2,h3⟩:=hall x hx;obtain⟨_,_,_,_,_,_,_,_,hts⟩:=ER.out v hv;rw[h2];exact hts) hkl)
       have HM:Hid (∀f,(∃x∈lk,x.1=f)<->∃v∈VL,f=(v.1,v.2,τ v)):=ah (fun f=>by
        constructor
        .rintro ⟨x,hx,e⟩;obtain⟨v,hv,h1,h2,_⟩:=hall x hx;exact⟨v,hv,by rw[<-e,h2]⟩
        .rintro ⟨v,hv,e⟩;have h1:v.1∈lk.map fun x=>x.1.1:=by
          rw[HNK.out];exact List.mem_map.2 ⟨zY v,(PK.out.2 _).2 ⟨v,hv,rfl⟩,rfl⟩
         obtain⟨x,hx,e2⟩:=List.mem_map.1 h1;obtain⟨u,hu,h3,h4,_⟩:=hall x hx;have:u=v:=HC.out u hu v hv (by rw[<-h3,e2]);rw[this] at h4;exact⟨x,hx,by rw[h4,e]⟩)
       have OX:=ah (gB.out _ HU.out.upd);clear hfin hall htb hkl h0
       go_wp2_with fail
       refine TB.out.mono ?_;rintro e w9' ⟨r,L,rfl,hbn,has,hmem,jd⟩;obtain⟨ra,rc,hra⟩:=hbn.shape;subst hra;have ak':=ah (And.intro hbn (And.intro has (And.intro hmem jd)));clear hbn has hmem jd hrun hnx TB
       go_wp2_with fail
       go_ret2
       have hrs:=ak'.out;have hws:=OX.out.size;refine⟨.inr ⟨(fun h=>by cases h),_,L,rfl,hrs.1.weaken (fun k hk=>⟨by omega,hk.2⟩) (fun k hk=>⟨by omega,hk.2⟩),hrs.2.1,?_⟩,OX.out.trans hrs.2.2.2⟩;have hl:=fun f=>(hrs.2.2.1 f).trans (and_congr_left (fun _=>HM.out f));rw[<-xI.out] at hl;simpa using hl
      .have hml:=mem_left he;obtain⟨x,hx,hkv⟩: ∃x∈lk,(Value.string x.1.1,Value.agg (dW x).toArray)=(e.key,e.val):=by
        have h1:(e.key,e.val)∈es'.toList.map (fun e=>(e.key,e.val)):=List.mem_map.2 ⟨e,hml.1,rfl⟩;rw[G_.out] at h1;obtain⟨x,hx,h2⟩:=List.mem_map.1 h1;exact⟨x,hx,h2⟩
       have hk0:e.key= .string x.1.1:=by injection hkv with h1 _;exact h1.symm
       have hnd:x.1.1∉D:=fun hd=>by
        obtain⟨e2,he2,hk2,hs2⟩:=HV.out.sub _ hd;have hee:e2=e:=Zu.out.uniq Vh.out he2 hml.1 (by rw[hk2,hk0]);rw[hee,hml.2] at hs2;cases hs2
       obtain⟨v,hvm,hxv⟩: ∃v∈VL,x=zY v:=by
        obtain⟨v,hv,h1,h2⟩:=HJ.out x hx;rcases h2 with⟨_,h2⟩|⟨h2,_⟩
        .exact ⟨v,hv,h2⟩
        .exact absurd h2 hnd
       subst hxv;obtain⟨nm,so⟩:=v;have hk:e.key= .string nm:=hk0;have hvv:e.val= .agg #[.string nm,.string so,.string nm,.string so,.slice none 0 0]:=by injection hkv with _ h1;exact h1.symm
       have PL:=Gy.out _ hvm;obtain⟨c,C,hfd,hvf,hcs,hz1,hz2,hvg,hts⟩:=ER.out _ hvm;have hrw:w1.heap[rj]?=some (.mapIter (some tb) clock seen clock):=by rcases hw1 with h|h<;>(rw[h];exact ES.out)
       have hu1:aC (fun j=>j=rj) wr (Go.ChangeMaps.setBlock w1 rj (.mapIter (some tb) clock (seen.push e.born) clock)):=by
        have:=uJ w1 rj (.mapIter (some tb) clock (seen.push e.born) clock);rcases hw1 with h|h
        .rw [h] at this⊢;exact this
        .rw [h] at this⊢;exact this.Ey
       have hr2:=rZ (o':= .mapIter (some tb) clock (seen.push e.born) clock) hrw;rw[hk,hvv] at hrun;generalize Go.ChangeMaps.setBlock w1 rj (.mapIter (some tb) clock (seen.push e.born) clock)=wN at*;have htj:=(HFS.out rj (Nat.le_refl _))
       have o8:=ah (hu1.heap jD.out (by have:=htj.2.2.1;omega));have hen:=run_entry_at (P:=Tryz.prog) wN rj tb clock seen es' clock e hr2 o8.out hml.1 aff.out;rw[hk,hvv] at hen;have hnx: ∀ty,(Instr.next (.pointer (some ⟨rj,0,none⟩)) false ty).run Tryz.prog wr=_:=fun _=>hrun;have XA:Hid (fZ T ad S 121 108 bv bn ub [] Dx EL w4 wN):=ah (fZ.outside HU.out hu1 (fun j hj e=>htj.1 (by rw[<-e];exact hj)) (fun j hj e=>by have:=htj.2.1;omega));have iV:=ah hr2;have fO:=ah (HV.out.next Zu.out Vh.out aff.out hml.1 hml.2 hk);have MF:=ah (left_shrinks es' seen e he);have jA:Hid (rj+1<=wN.heap.size):=ah (Nat.le_trans yC.out hu1.size);have HJN:Hid (∀x∈lk,∃v∈VL,x.1.1=v.1/\((x.1.1∉D/\x=zY v)\/(x.1.1∈D/\x.1=(v.1,v.2,τ v)/\aI (fun j=>rj+1<=j/\j<wN.heap.size) wN (τ v).kids (vJ x)))):=ah (fun x hx=>by
        obtain⟨v,hv,h1,h2⟩:=HJ.out x hx;refine⟨v,hv,h1,h2.imp id (fun⟨a,b,c⟩=>⟨a,b,(c.kept hu1 (fun j hj e=>by omega)).weaken (fun j hj=>⟨hj.1,aF hj.2 hu1.size⟩)⟩)⟩)
       have hb5:=ay wN (.cells #[.string nm,.string so,.string nm,.string so,.slice none 0 0] 93);have o_:=(uR wN).alloc (.cells #[.string nm,.string so,.string nm,.string so,.slice none 0 0] 93);have XB:=ah (XA.out.ext o_);have kM:=ah (MP F c wN.heap.size 2 nm so none 0 0 XB.out.ur (aj hb5 2 _ rfl) (aj hb5 3 _ rfl) (aj hb5 4 _ rfl) (fun h=>by have:=XA.out.ur.us.lt _ h;omega) PL hfd hvf).2;have h_:=ah o_;have fC:=ah hb5;have HVG:=ah hvg;have HXM:=ah hx;have HVM:=ah hvm;have anR:=ah hnd;clear hml hk hvv hrw hu1 hr2 he hw1 hkv hb5 o_ PL hfd hvf hcs hz1 hz2 hvg hts hvm hx hk0 hnd htj
       go_wp2_with fail
       refine kM.out.mono ?_;rintro e2 w5 ⟨rfl,hw5⟩;have kX:=ah (XB.out.ext hw5);have yP:=ah (h_.out.trans hw5);have z_:=ah (hw5.heap fC.out (fun h=>h));have iO:=ah (aiH Tn.out F w5 c (τ (nm,so)) kX.out.ur HVG.out);clear hw5 hnx hrun hen kM
       go_wp2_with fail
       refine iO.out.mono ?_;rintro e3 w6 ⟨r5,B5,rfl,kV,hb5,hw6⟩;obtain⟨ya,yc,jP⟩:=aP.shape kV;subst jP;obtain⟨t5,ht5⟩: ∃t,τ (nm,so)=t:=⟨_,rfl⟩
       rw[ht5] at kV;have afi:=ah ht5;have uV:=ah (kX.out.ext hw6);have Bg:=ah (yP.out.trans hw6);have wS:=ah kV.read;have jE:Hid (∀j,B5 j->wN.heap.size<j/\j<w6.heap.size):=ah (fun j hj=>⟨by have h1:=(hb5 j hj).1;have h3:=(Array.getElem?_eq_some_iff.1 z_.out).1;omega,(hb5 j hj).2⟩);have hb6:=hw6.heap z_.out (fun h=>h);have KP:=ah hb6;dsimp only[tV];rw[ht5];have b0:=aj hb6 0 (.string nm) rfl;have b1:=aj hb6 1 (.string so) rfl;have b2:=aj hb6 2 (.string nm) rfl;have b3:=aj hb6 3 (.string so) rfl;have b4:=aj hb6 4 (.slice none 0 0) rfl;have fb:=fun i=>aA hb6 i;have hb7:=setBlock (setBlock (setBlock hb6 2 (.string t5.name)) 3 (.string t5.sort)) 4 (.slice ya t5.kids.length yc);have hu7:aC (fun j=>j=wN.heap.size) w6 (((w6.setCell ⟨wN.heap.size,2,none⟩ (.string t5.name)).setCell ⟨wN.heap.size,3,none⟩ (.string t5.sort)).setCell ⟨wN.heap.size,4,none⟩ (.slice ya t5.kids.length yc)):=
        (((aC.refl (fun j=>j=wN.heap.size) w6).setCell (p:=⟨wN.heap.size,2,none⟩) (.inl rfl) _).setCell (p:=⟨wN.heap.size,3,none⟩) (.inl rfl) _).setCell (p:=⟨wN.heap.size,4,none⟩) (.inl rfl) _
       have eU:Hid ((((w6.setCell ⟨wN.heap.size,2,none⟩ (.string t5.name)).setCell ⟨wN.heap.size,3,none⟩ (.string t5.sort)).setCell ⟨wN.heap.size,4,none⟩ (.slice ya t5.kids.length yc)).heap[wN.heap.size]?=some (.cells #[.string nm,.string so,.string t5.name,.string t5.sort,.slice ya t5.kids.length yc] 93 (0,0))):=ah (by simpa using hb7);have ET:=ah hu7;clear kV hb5 hw6 hb6 hb7 hu7 iO ht5
       go_upto_region 30 with fail
       generalize (((w6.setCell ⟨wN.heap.size,2,none⟩ (.string t5.name)).setCell ⟨wN.heap.size,3,none⟩ (.string t5.sort)).setCell ⟨wN.heap.size,4,none⟩ (.slice ya t5.kids.length yc))=w7x at*;clear b0 b1 b2 b3 b4 fb;obtain⟨nb,hnb⟩: ∃n,wN.heap.size=n:=⟨_,rfl⟩
       rw[hnb] at eU ET jE HJN jA⊢;have Vj:=HFS.out nb (by have:=jA.out;omega);have ala:=(HFS.out rj (Nat.le_refl _)).2.2.1;have HM7:=ET.out.heap (Bg.out.heap o8.out (fun h=>h)) (fun e=>by have:=Vj.2.2.1;omega);have HR7:=ET.out.heap (Bg.out.heap iV.out (fun h=>h)) (fun e=>by have:=jA.out;omega);have HU7:Hid (fZ T ad S 121 108 bv bn ub [] Dx EL w4 w7x):=ah (fZ.outside uV.out ET.out (fun j hj e=>Vj.1 (by rw[<-e];exact hj)) (fun j hj e=>by have:=Vj.2.1;omega));have afj:nm∈(lk.map fun x=>(x.1.1,Value.agg (dW x).toArray)).map (·.1):=by
        rw[List.map_map];exact List.mem_map.2 ⟨_,HXM.out,rfl⟩
       obtain⟨W2,es2,Jt,hm2,he2,Vk,hu2⟩:=eF.upd (P:=Tryz.prog) (t:=98) (qp Tryz.underlying9) Tryz.underlying98 HM7 (l:=lk.map fun x=>(x.1.1,Value.agg (dW x).toArray)) (by rw[G_.out,List.map_map];rfl) nm (.agg #[.string nm,.string so,.string t5.name,.string t5.sort,.slice ya t5.kids.length yc]) afj;have hput:(Instr.mapUpdate 98 (.map (some tb)) (.string nm) (.agg #[.string nm,.string so,.string t5.name,.string t5.sort,.slice ya t5.kids.length yc])).run Tryz.prog w7x= .ok () W2:=Jt;obtain⟨x',hx'⟩: ∃x':Be,x'=((nm,so,t5),ya,t5.kids.length,yc):=⟨_,rfl⟩
       have HE2:Hid (es2.toList.map (fun e=>(e.key,e.val))=(qy lk x').map (fun x=>(Value.string x.1.1,Value.agg (dW x).toArray))):=ah (by
        have h1:=EK lk x';have h2:=congrArg (List.map fun p:By×Value=>(Value.string p.1,p.2)) h1;rw[List.map_map] at h2;rw[he2,hx'];rw[hx'] at h2;exact h2.symm)
       have alb:Hid (es2.toList.map (·.born)=es.toList.map (·.born)):=ah (by rw[Vk];exact HBO.out);have Zv:x'.1.1∈lk.map fun x=>x.1.1:=by rw[hx'];exact List.mem_map.2 ⟨_,HXM.out,rfl⟩
       have alc:Hid ((qy lk x').map (fun x=>x.1.1)=(mZ VL).map fun x=>x.1.1):=ah (by rw[su Zv];exact HNK.out);have nZ:Hid (uS es2.toList (seen.push e.born) (D++[nm])):=ah (fO.out.alike (Zp (by
        have h1:=congrArg (List.map Prod.fst) G_.out;have h2:=congrArg (List.map Prod.fst) HE2.out;rw[List.map_map,List.map_map] at h1 h2;have h3:=congrArg (List.map Value.string) (su Zv);rw[List.map_map,List.map_map] at h3;exact h1.trans (h3.symm.trans h2.symm)) (by rw[Vk])))
       have ald:Hid ((leftOf es2 (seen.push e.born)).size< (leftOf es' seen).size):=ah (by rw[Xu Vk];exact MF.out);have uU:Hid (fZ T ad S 121 108 bv bn ub [] Dx EL w4 W2):=ah (fZ.outside HU7.out hu2 (fun j hj e=>by
        rcases hj with hj|hj|hj
        .exact Vg.out tb (Nat.le_refl _) Bf.out.2.1 (by rw[<-e];exact hj)
        .have:=iE.out j hj;have:=gW.out;have:=Bf.out.1;omega
        .have:=gW.out;have:=Bf.out.1;omega) (fun j hj e=>by have:=Bf.out.1;omega))
       have ale:Hid (W2.heap[rj]?=some (.mapIter (some tb) clock (seen.push e.born) clock)):=ah (hu2.heap HR7 (fun e=>by omega));have nI:=ah hm2;have hsz:wN.heap.size<=W2.heap.size:=Nat.le_trans Bg.out.size (Nat.le_trans ET.out.size hu2.size);have HS2:Hid (rj+1<=W2.heap.size):=ah (Nat.le_trans jA.out (by rw[<-hnb];exact hsz));have HJ2:Hid (∀x∈qy lk x',∃v∈VL,x.1.1=v.1/\((x.1.1∉D++[nm]/\x=zY v)\/(x.1.1∈D++[nm]/\x.1=(v.1,v.2,τ v)/\aI (fun j=>rj+1<=j/\j<W2.heap.size) W2 (τ v).kids (vJ x)))):=ah (fun z hz=>by
        rcases(Il Vh.out z).1 hz with e|⟨hz1,hz2⟩
        .subst e;refine⟨(nm,so),HVM.out,by rw[hx'],.inr ⟨by rw[hx'];simp,by rw[hx',afi.out],?_⟩⟩;rw[afi.out,hx'];exact((wS.out.kept ET.out (fun j hj e=>by have:=(jE.out j hj).1;omega)).kept hu2 (fun j hj e=>by have:=(jE.out j hj).1;have:=jA.out;omega)).weaken (fun j hj=>⟨by have:=(jE.out j hj).1;have:=jA.out;omega,aF (jE.out j hj).2 (Nat.le_trans ET.out.size hu2.size)⟩)
        .obtain ⟨v,hv,h1,h2⟩:=HJN.out z hz1;have hzn:z.1.1≠nm:=fun e=>hz2 (by rw[hx'];exact e);refine⟨v,hv,h1,?_⟩;rcases h2 with⟨h2,h3⟩|⟨h2,h3,h4⟩
         .exact .inl ⟨by simp[h2,hzn],h3⟩
         .exact .inr ⟨List.mem_append_left _ h2,h3,(((h4.kept Bg.out (fun _ _ h=>h)).kept ET.out (fun j hj e=>by omega)).kept hu2 (fun j hj e=>by omega)).weaken (fun j hj=>⟨hj.1,by omega⟩)⟩)
       have e0:=aj eU.out 0 (.string nm) rfl;have e1:=aj eU.out 1 (.string so) rfl;have e2:=aj eU.out 2 (.string t5.name) rfl;have e3:=aj eU.out 3 (.string t5.sort) rfl;have e4:=aj eU.out 4 (.slice ya t5.kids.length yc) rfl;clear Jt he2 Vk hm2 hu2 afj Zv hsz HM7 HR7 hx' Vj ala hnb
       go_wp2_with fail
       have hlt:=ald.out
       go_roundg (leftOf es2 (seen.push e.born)).size
       case measure=>exact hlt
       case rel=>exact⟨D++[nm],_,es2,qy lk x',rfl,ale,nI,uU,HS2,nZ,HE2,alb,alc,HJ2⟩
    .have hml:=mem_left he;obtain⟨x,hx,hkv⟩: ∃x∈mZ VL,(Value.string x.1.1,Value.agg (dW x).toArray)=(e.key,e.val):=by
      have h1:(e.key,e.val)∈es.toList.map (fun e=>(e.key,e.val)):=List.mem_map.2 ⟨e,hml.1,rfl⟩;rw[MC.out,List.map_map] at h1;obtain⟨x,hx,h2⟩:=List.mem_map.1 h1;exact⟨x,hx,h2⟩
     obtain⟨v,hvm,rfl⟩:=(PK.out.2 x).1 hx;obtain⟨nm,so⟩:=v;have hk:e.key= .string nm:=by injection hkv with h1 _;exact h1.symm
     have hvv:e.val= .agg #[.string nm,.string so,.string nm,.string so,.slice none 0 0]:=by injection hkv with _ h1;exact h1.symm
     have PL:=Gy.out _ hvm;obtain⟨c,C,hfd,hvf,hcs,hz1,hz2,hvg,hts⟩:=ER.out _ hvm;have hrw:w1.heap[ri]?=some (.mapIter (some tb) clock seen clock):=by rcases hw1 with h|h<;>(rw[h];exact ES.out)
     have hu1:aC (fun j=>j=ri) wr (Go.ChangeMaps.setBlock w1 ri (.mapIter (some tb) clock (seen.push e.born) clock)):=by
      have:=uJ w1 ri (.mapIter (some tb) clock (seen.push e.born) clock);rcases hw1 with h|h
      .rw [h] at this⊢;exact this
      .rw [h] at this⊢;exact this.Ey
     have hr2:=rZ (o':= .mapIter (some tb) clock (seen.push e.born) clock) hrw;rw[hk,hvv] at hrun;generalize Go.ChangeMaps.setBlock w1 ri (.mapIter (some tb) clock (seen.push e.born) clock)=wN at*;have o8:=ah (hu1.heap jD.out (by have:=lI.out;omega));have hen:=run_entry_at (P:=Tryz.prog) wN ri tb clock seen es clock e hr2 o8.out hml.1 Jf.out;rw[hk,hvv] at hen;have hnx: ∀ty,(Instr.next (.pointer (some ⟨ri,0,none⟩)) false ty).run Tryz.prog wr=_:=fun _=>hrun;have XA:Hid (fZ T ad S 121 108 bv bn ub [] Dx EL w4 wN):=ah (fZ.outside HU.out hu1 (fun j hj e=>(Xz.out ri (Nat.le_refl _)).1 (by rw[<-e];exact hj)) (fun j hj e=>by have:=(Xz.out ri (Nat.le_refl _)).2.1;omega));have iV:=ah hr2;have fO:=ah (HV.out.next Ej.out PK.out.1 Jf.out hml.1 hml.2 hk);have MF:=ah (left_shrinks es seen e he);have jA:Hid (ri+1<=wN.heap.size):=ah (Nat.le_trans yC.out hu1.size);have hb5:=ay wN (.cells #[.string nm,.string so,.string nm,.string so,.slice none 0 0] 93);have o_:=(uR wN).alloc (.cells #[.string nm,.string so,.string nm,.string so,.slice none 0 0] 93);have XB:=ah (XA.out.ext o_);have XC:=ah hcs;have kM:=ah (MP F c wN.heap.size 2 nm so none 0 0 XB.out.ur (aj hb5 2 _ rfl) (aj hb5 3 _ rfl) (aj hb5 4 _ rfl) (fun h=>by have:=XA.out.ur.us.lt _ h;omega) PL hfd hvf).2;have h_:=ah o_;have t1:decide ((1000:Int)< (C.sz:Int))=false:=dF (by omega);have t2:decide ((60:Int)< (C.dp:Int))=false:=dF (by omega);have t3: ¬((1000:Int)< (C.sz:Int)):=by omega
     have t4: ¬((60:Int)< (C.dp:Int)):=by omega
     clear hml hk hvv hrw hu1 hr2 he hw1 hkv hb5 o_ PL hfd hvf hcs hz1 hz2 hvg hts hvm hx
     go_wp2_with fail
     refine kM.out.mono ?_;rintro e2 w5 ⟨rfl,hw5⟩;have kX:=ah (XB.out.ext hw5);have yP:=ah (h_.out.trans hw5);have GY:=ah (yP.out.heap iV.out (fun h=>h));have HM6:=ah (yP.out.heap o8.out (fun h=>h));have wQ:Hid (ri+1<=w5.heap.size):=ah (Nat.le_trans jA.out yP.out.size);have hcr:=kX.out.ur.us.row c C XC.out;have c6:=aj hcr 6 (.int .i64 (C.sz:Int)) rfl;have c7:=aj hcr 7 (.int .i64 (C.dp:Int)) rfl;clear hw5 hnx hrun hen kM hcr
     go_wp2_with fail
     have hlt:=MF.out
     go_roundg (leftOf es (seen.push e.born)).size
     case measure=>exact hlt
     case rel=>exact⟨D++[nm],_,rfl,GY,HM6,kX,wQ,fO⟩
end
theorem Jv {S:Nat->Prop} {W:World} {n:Nat} {a:Tm} {ua:Value} (h:W.heap[n]?=some (.cells #[.string a.name,.string a.sort,ua] 24 (0,0))) (hn:S n) (ha:aI S W a.kids ua):aI S W [a] (.slice (some ⟨n,0,none⟩) 1 1):=by
 refine .mk _ [ua] _ rfl ?_ (fun i hi=>?_)
 .refine aG.mk' rfl rfl (Nat.le_refl _) (fun _=>hn) (fun j hj=>?_);have hj3:j<3:=hj;rw[Nat.zero_add,cell_of_row W n j _ _ _ h];have:j=0\/j=1\/j=2:=by omega
  rcases this with rfl|rfl|rfl<;>rfl
 .obtain rfl:i=0:=by simpa using hi
  exact ha
def abq (T:List Nr) (F:Nat) (vs:List Vd) (τ:Vd->Tm) (st:St):Bool:=vs.all fun v=>(rQ st.vs v.1).isSome&&(match sH F st v.1 v.2 with
 |none=>false
 |some (_,c)=>match st.cs[c]? with
  |none=>false
  |some C=>decide (C.sz<=1000)&&decide (C.dp<=60)&&decide (Pv T st F c=some (τ v))&&decide ((τ v).size<=100000))
theorem Vl {T:List Nr} {F:Nat} {vs:List Vd} {τ:Vd->Tm} {st:St} (h:abq T F vs τ st=true): ∀v∈vs,∃c C,(rQ st.vs v.1).isSome=true/\sH F st v.1 v.2=some (st,c)/\st.cs[c]?=some C/\C.sz<=1000/\C.dp<=60/\Pv T st F c=some (τ v)/\(τ v).size<=100000:=fun v hv=>by
 have h1:=List.all_eq_true.1 h v hv;rw[Bool.and_eq_true] at h1;obtain⟨h1,h2⟩:=h1;cases hf:sH F st v.1 v.2 with
 |none=>rw[hf] at h2;cases h2
 |some q=>
  obtain⟨s',c⟩:=q;rw[hf] at h2;simp only at h2;cases hc:st.cs[c]? with
  |none=>rw[hc] at h2;cases h2
  |some C=>
   rw[hc] at h2;simp only[Bool.and_eq_true,decide_eq_true_eq] at h2;have hs:=EU h1 hf;subst hs;exact⟨c,C,h1,rfl,hc,h2.1.1.1,h2.1.1.2,h2.1.2,h2.2⟩
end Go.Proofs.YtlkcjmaiahnodaaGreatDoor
