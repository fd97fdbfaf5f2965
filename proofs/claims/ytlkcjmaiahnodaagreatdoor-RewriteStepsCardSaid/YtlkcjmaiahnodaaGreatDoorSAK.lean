/- The texts N6 N7 N9 N10 N11 N12 N13 N14 N15 N16, one behind the other. -/
import Derived.Test.YtlkcjmaiahnodaaGreatDoorSAJ
import Derived.Test.YtlkcjmaiahnodaaGreatDoorSAH
import Derived.Test.YtlkcjmaiahnodaaGreatDoorSAI
import Derived.Lib.AppendZeros
import Derived.Lib.SliceRun
import Derived.Test.YtlkcjmaiahnodaaGreatDoorSAD
set_option maxRecDepth 100000
set_option maxHeartbeats 8000000
set_option linter.unusedVariables false
set_option linter.unusedSimpArgs false
namespace Go.Proofs.YtlkcjmaiahnodaaGreatDoor
open Go.RowKit Go.Hw Go Tm
theorem acz {T:List Nr} {ad:Nat->Nat×Nat} {S:Nat->Prop} {bv bn ub:Nat} (aK: ∀(i:Nat) (r:Nr),T[i]?=some r->r.ks.length<=1000000) (F:Nat): ∀(bk:List Nat) (st st':St) (w:World) (c:Nat) (ok:Bool),Ur T ad S 121 108 bv bn ub bk st w->Io T F st c=some (st',ok)->
  Calls Tryz.prog 72 #[iy ub,iy (blk bk c)] w fun e w'=>e= .returned (.bool ok)/\∃bk',gz T ad S 121 108 bv bn ub bk bk' st' w w':=by
 induction F with
 |zero=>intro bk st st' w c ok _ h;cases h
 |succ F aB=>
 intro bk st st' w c ok hm hc;have aL:=ae aB;unfold Io at hc;cases hx:st.cs[c]? with
 |none=>rw[hx] at hc;cases hc
 |some C=>
 rw[hx] at hc;simp only at hc;have g:=ae hm;have O:=ae hx;have hr:=hm.us.row c C hx;have B:Hid (c<st.cs.length):=ae (List.getElem?_eq_some_iff.1 hx).1;have c3:=ag hr 3 (.bool C.mx) rfl;have c5:=ag hr 5 (.int .i64 (C.ma:Int)) rfl;have E:=ag hr 6 (.int .i64 (C.sz:Int)) rfl;have G:=ag hr 7 (.int .i64 (C.dp:Int)) rfl;have Z:=fun i=>ax hr i;clear aB hm;by_cases m1:C.ma=1
 .rw [if_pos m1] at hc;have aa:((C.ma:Int)==1)=true:=by rw[m1];rfl
  clear hr hx E G m1;go_enter Tryz.func72,Tryz.ntmps72;simp only[Option.some.injEq,Prod.mk.injEq] at hc;obtain⟨rfl,rfl⟩:=hc;go_wp2_with fail;go_ret;exact⟨rfl,bk,gz.refl g.o⟩
 .rw [if_neg m1] at hc;have aa:((C.ma:Int)==1)=false:=by rw[beq_eq_false_iff_ne];omega
  obtain⟨aR,j⟩:=ay C.tm;obtain⟨a8,Q⟩: ∃D,D=({C with ma:=1,sz:=1,dp:=1}:Cl):=⟨_,rfl⟩
  obtain⟨ba,R⟩: ∃D,D=({C with ma:=2,sz:=1,dp:=1}:Cl):=⟨_,rfl⟩
  rw[<-Q,<-R,j] at hc;rw[Q,R] at hc;clear Q R;cases aR with
  |none=>
   simp only at hc;have c4:=ag hr 4 (.pointer none) (by show some (pV (Option.map ad C.tm))=_;rw[j];rfl);by_cases hmx:C.mx=true
   .rw [if_pos hmx] at hc;rw[hmx] at c3;clear hr hx E G m1 j hmx;go_enter Tryz.func72,Tryz.ntmps72;simp only[Option.some.injEq,Prod.mk.injEq] at hc;obtain⟨rfl,rfl⟩:=hc;go_wp2_with fail;go_ret;exact⟨rfl,bk,gz.refl g.o⟩
   .rw [if_neg hmx] at hc;have U:C.mx=false:=by cases h:C.mx with|true=>exact absurd h hmx|false=>rfl
    rw[U] at c3;by_cases m2:C.ma=2
    .rw [if_pos m2] at hc;have z2:((C.ma:Int)==2)=true:=by rw[m2];rfl
     clear hr hx E G m1 j m2 hmx U;go_enter Tryz.func72,Tryz.ntmps72;simp only[Option.some.injEq,Prod.mk.injEq] at hc;obtain⟨rfl,rfl⟩:=hc;go_wp2_with fail;go_ret;exact⟨rfl,bk,gz.refl g.o⟩
    .rw [if_neg m2] at hc;have z2:((C.ma:Int)==2)=false:=by rw[beq_eq_false_iff_ne];omega
     simp only[Option.some.injEq,Prod.mk.injEq] at hc;obtain⟨rfl,rfl⟩:=hc;have n:Hid (gz T ad S 121 108 bv bn ub bk bk (eF st c {C with ma:=1,sz:=1,dp:=1}) w (((w.setCell ⟨blk bk c,5,none⟩ (.int .i64 1)).setCell ⟨blk bk c,6,none⟩ (.int .i64 1)).setCell ⟨blk bk c,7,none⟩ (.int .i64 1))):=ae ((gz.refl g.o).put B.o {C with ma:=1,sz:=1,dp:=1} (g.o.us.wQ C (List.mem_of_getElem? O.o))
      ((((au.refl (fun k=>k=blk bk c) w).setCell (p:=⟨blk bk c,5,none⟩) (.inl rfl) (.int .i64 1)).setCell (p:=⟨blk bk c,6,none⟩) (.inl rfl) (.int .i64 1)).setCell (p:=⟨blk bk c,7,none⟩) (.inl rfl) (.int .i64 1)) (by
       have:=setBlock (setBlock (setBlock (g.o.us.row c C O.o) 5 (.int .i64 1)) 6 (.int .i64 1)) 7 (.int .i64 1);simpa[dX] using this))
     have V:=ae (U4 st B.o {C with ma:=1,sz:=1,dp:=1});have aS:Hid (gz T ad S 121 108 bv bn ub bk bk (eF st c {C with ma:=2,sz:=1,dp:=1}) w ((((w.setCell ⟨blk bk c,5,none⟩ (.int .i64 1)).setCell ⟨blk bk c,6,none⟩ (.int .i64 1)).setCell ⟨blk bk c,7,none⟩ (.int .i64 1)).setCell ⟨blk bk c,5,none⟩ (.int .i64 2))):=ae (by
      have h1:=n.o.put (by rw[aaI];exact B.o) {C with ma:=2,sz:=1,dp:=1} (n.o.ur.us.wQ {C with ma:=1,sz:=1,dp:=1} (List.mem_of_getElem? V.o))
       ((au.refl (fun k=>k=blk bk c) _).setCell (p:=⟨blk bk c,5,none⟩) (.inl rfl) (.int .i64 2)) (by
        have:=setBlock (n.o.ur.us.row c _ V.o) 5 (.int .i64 2);simpa[dX] using this)
      rw[FU] at h1;exact h1)
     clear hr hx m1 j m2 hmx U n V;go_enter Tryz.func72,Tryz.ntmps72;go_wp2_with fail;go_ret;exact⟨rfl,bk,aS.o⟩
  |some x=>
   simp only at hc;have c4:=ag hr 4 (.pointer (some ⟨(ad x).1,(ad x).2,none⟩)) (by show some (pV (Option.map ad C.tm))=_;rw[j];rfl);by_cases m2:C.ma=2
   .rw [if_pos m2] at hc;have z2:((C.ma:Int)==2)=true:=by rw[m2];rfl
    clear hr hx E G m1 j m2;go_enter Tryz.func72,Tryz.ntmps72;simp only[Option.some.injEq,Prod.mk.injEq] at hc;obtain⟨rfl,rfl⟩:=hc;go_wp2_with fail;go_ret;exact⟨rfl,bk,gz.refl g.o⟩
   .rw [if_neg m2] at hc;have z2:((C.ma:Int)==2)=false:=by rw[beq_eq_false_iff_ne];omega
    cases H:T[x]? with
    |none=>rw[H] at hc;cases hc
    |some X=>
    rw[H] at hc;simp only at hc;cases hK:U5 T F (Io T F) c x (eF st c {C with ma:=1,sz:=1,dp:=1}) X.ks with
    |none=>rw[hK] at hc;cases hc
    |some q=>
    obtain⟨s1,aT⟩:=q;rw[hK] at hc;have aC:=ae hc;have al:=ae hK;have aU:=ae H;have bb:=aK x X H;have n:Hid (gz T ad S 121 108 bv bn ub bk bk (eF st c {C with ma:=1,sz:=1,dp:=1}) w (((w.setCell ⟨blk bk c,5,none⟩ (.int .i64 1)).setCell ⟨blk bk c,6,none⟩ (.int .i64 1)).setCell ⟨blk bk c,7,none⟩ (.int .i64 1))):=ae ((gz.refl g.o).put B.o {C with ma:=1,sz:=1,dp:=1} (g.o.us.wQ C (List.mem_of_getElem? O.o))
     ((((au.refl (fun k=>k=blk bk c) w).setCell (p:=⟨blk bk c,5,none⟩) (.inl rfl) (.int .i64 1)).setCell (p:=⟨blk bk c,6,none⟩) (.inl rfl) (.int .i64 1)).setCell (p:=⟨blk bk c,7,none⟩) (.inl rfl) (.int .i64 1)) (by
      have:=setBlock (setBlock (setBlock (g.o.us.row c C O.o) 5 (.int .i64 1)) 6 (.int .i64 1)) 7 (.int .i64 1);simpa[dX] using this))
    obtain⟨aV,_,bc,bd,ab,_⟩:=n.o.ur.nd.row x X H;have aM:(((w.setCell ⟨blk bk c,5,none⟩ (.int .i64 1)).setCell ⟨blk bk c,6,none⟩ (.int .i64 1)).setCell ⟨blk bk c,7,none⟩ (.int .i64 1)).cell? ⟨blk bk c,4,none⟩=some (.pointer (some ⟨(ad x).1,(ad x).2,none⟩)):=ag (n.o.ur.us.row c _ (U4 st B.o {C with ma:=1,sz:=1,dp:=1})) 4 _ (by show some (pV (Option.map ad C.tm))=_;rw[j];rfl);clear hr hx m1 j m2 H hK hc aV;go_enter Tryz.func72,Tryz.ntmps72;go_upto_region 6 with fail;generalize (((w.setCell ⟨blk bk c,5,none⟩ (.int .i64 1)).setCell ⟨blk bk c,6,none⟩ (.int .i64 1)).setCell ⟨blk bk c,7,none⟩ (.int .i64 1))=w3 at*;clear c3 c4 c5 E G Z aa z2;go_wp2_with fail;clear aM ab;go_loopg [54] X.ks.length (fun gk aW wr=> ∃(k:Nat) (A:St) (I:List Nat),aW= .int .i64 (k:Int)/\gk=X.ks.length-k/\k<=X.ks.length/\Hid (gz T ad S 121 108 bv bn ub bk I A w wr)/\Hid (U5 T F (Io T F) c x A (X.ks.drop k)=some (s1,aT)));case atStart=>exact⟨0,_,_,rfl,rfl,Nat.zero_le _,n,al⟩
    case round=>
     clear n al;obtain⟨k,A,I,rfl,rfl,hk,t,aN⟩:=hrel;have hc:=aN.o;have an:c<bk.length:=by rw[g.o.us.len];exact B.o
     have l:=GY t.o.pre an;by_cases Y:k<X.ks.length
     .rw [List.drop_eq_getElem_cons Y] at hc;unfold U5 at hc;by_cases u:(A.cs[c]?.map (·.tm))=some (some x);rotate_left
      .rw [if_neg u] at hc;cases hc
      rw[if_pos u] at hc;obtain⟨aD,ao,aq⟩:=Option.map_eq_some_iff.1 u;cases K:kF T F A X.ks[k] with
      |none=>rw[K] at hc;cases hc
      |some q=>
      obtain⟨st1,y⟩:=q;rw[K] at hc;simp only at hc;cases M:Io T F st1 y with
      |none=>rw[M] at hc;cases hc
      |some q=>
      obtain⟨st2,aE⟩:=q;rw[M] at hc;have aO:=ae hc;have aP:=ae K;have aX:=ae M;have hr:=t.o.ur.us.row c aD ao;rw[l] at hr;have c4:=ag hr 4 (.pointer (some ⟨(ad x).1,(ad x).2,none⟩)) (by show some (pV (Option.map ad aD.tm))=_;rw[aq];rfl);obtain⟨_,_,a1,a6,ab,ar⟩:=t.o.ur.nd.row x X aU.o;obtain⟨xg,bf,rfl,aF⟩:=ar (by omega);have av:=(aF k _ (List.getElem?_eq_getElem Y)).2;have af:=ae (O1 F X.ks[k] y t.o.ur K);rw[av] at af;obtain⟨z0,aa,z2,a7⟩:=bH Y;clear ar aF av K M hc u ao aq hr l;go_wp2_with fail;refine af.o.mono ?_;rintro e aY ⟨aw,rfl,aG⟩;have ah:=ae (t.o.trans aG);have ai:=ae (aL.o aw st1 st2 aY y aE ah.o.ur aX.o);clear aG c4 ab af;go_wp2_with fail;refine ai.o.mono ?_;rintro e aH ⟨rfl,L,P⟩;have J:=ae (ah.o.trans P);have hc:=aO.o;cases aE with
      |false=>
       simp only[Option.some.injEq,Prod.mk.injEq] at hc;obtain⟨rfl,rfl⟩:=hc;have hc:=aC.o;simp only[Option.some.injEq,Prod.mk.injEq] at hc;obtain⟨rfl,rfl⟩:=hc;clear P ai;go_wp2_with fail;go_ret;exact⟨rfl,L,J.o⟩
      |true=>
       simp only at hc;cases d:st2.cs[c]? with
       |none=>rw[d] at hc;cases hc
       |some a=>
       cases N:st2.cs[y]? with
       |none=>rw[d,N] at hc;cases hc
       |some b=>
       rw[d,N] at hc;simp only at hc;by_cases u:a.sz<=2000/\b.sz<=2000/\a.dp<=2000/\b.dp<=2000;rotate_left
       .rw [if_neg u] at hc;cases hc
       rw[if_pos u] at hc;obtain⟨g1,g2,g3,g4⟩:=u;have aQ:=ae hc;have az:y<aw.length:=by
        obtain⟨z,aZ,_⟩:=xH aP.o;rw[ah.o.ur.us.len];exact(List.getElem?_eq_some_iff.1 aZ).1
       have aA:=GY P.pre az;have l:=GY J.o.pre an;have hr:=J.o.ur.us.row c a d;have hy:=J.o.ur.us.row y b N;have aj:=ae hr;rw[l] at hr;rw[aA] at hy;have E:=ag hr 6 (.int .i64 (a.sz:Int)) rfl;have G:=ag hr 7 (.int .i64 (a.dp:Int)) rfl;have Z:=fun i=>ax hr i;have bg:=ag hy 6 (.int .i64 (b.sz:Int)) rfl;have bh:=ag hy 7 (.int .i64 (b.dp:Int)) rfl;have aI:((min (a.sz+b.sz) 1001:Nat):Int)=min ((a.sz:Int)+(b.sz:Int)) 1001:=by omega
       have aJ:((min (max a.dp (b.dp+1)) 61:Nat):Int)=min (max (a.dp:Int) ((b.dp:Int)+1)) 61:=by omega
       have ak:Hid (∀W,Ext aH W->gz T ad S 121 108 bv bn ub bk L (eF st2 c {a with sz:=min (a.sz+b.sz) 1001,dp:=min (max a.dp (b.dp+1)) 61}) w ((W.setCell ⟨blk bk c,6,none⟩ (.int .i64 (min ((a.sz:Int)+(b.sz:Int)) 1001))).setCell ⟨blk bk c,7,none⟩ (.int .i64 (min (max (a.dp:Int) ((b.dp:Int)+1)) 61)))):=ae (fun W hW=>by
        rw[<-l];exact(J.o.ext hW).put (List.getElem?_eq_some_iff.1 d).1 {a with sz:=min (a.sz+b.sz) 1001,dp:=min (max a.dp (b.dp+1)) 61} (J.o.ur.us.wQ a (List.mem_of_getElem? d))
         (((au.refl (fun k=>k=blk L c) W).setCell (p:=⟨blk L c,6,none⟩) (.inl rfl) (.int .i64 (min ((a.sz:Int)+(b.sz:Int)) 1001))).setCell (p:=⟨blk L c,7,none⟩) (.inl rfl) (.int .i64 (min (max (a.dp:Int) ((b.dp:Int)+1)) 61))) (by
          have:=setBlock (setBlock (hW.heap aj.o id) 6 (.int .i64 (min ((a.sz:Int)+(b.sz:Int)) 1001))) 7 (.int .i64 (min (max (a.dp:Int) ((b.dp:Int)+1)) 61));unfold dX at this⊢;rw[aI,aJ];simpa using this))
       clear P ai hr hy hc d N az aA l aI aJ;go_wp2_with fail;go_region
       go_wp2_with fail;go_roundg (X.ks.length- (k+1));case measure=>omega
       case rel=>exact⟨k+1,_,_,by go_num,rfl,by omega,ae ((ak.o _ (au.refl _ aH)).ext (au.refl _ _).drew),aQ⟩
     .obtain rfl:k=X.ks.length:=by omega
      have z2:decide ((X.ks.length:Int)< (X.ks.length:Int))=false:=dF (by omega);rw[List.drop_length] at hc;unfold U5 at hc;simp only[Option.some.injEq,Prod.mk.injEq] at hc;obtain⟨rfl,rfl⟩:=hc;have hc:=aC.o;simp only at hc;cases d:A.cs[c]? with
      |none=>rw[d] at hc;cases hc
      |some a=>
      rw[d] at hc;simp only[Option.some.injEq,Prod.mk.injEq] at hc;obtain⟨rfl,rfl⟩:=hc;have hr:=t.o.ur.us.row c a d;have aj:=ae hr;rw[l] at hr;have c5:=ag hr 5 (.int .i64 (a.ma:Int)) rfl;have Z:=fun i=>ax hr i;have ak:Hid (gz T ad S 121 108 bv bn ub bk I (eF A c {a with ma:=2}) w (wr.setCell ⟨blk bk c,5,none⟩ (.int .i64 2))):=ae (by
       rw[<-l];exact t.o.put (List.getElem?_eq_some_iff.1 d).1 {a with ma:=2} (t.o.ur.us.wQ a (List.mem_of_getElem? d))
        ((au.refl (fun k=>k=blk I c) wr).setCell (p:=⟨blk I c,5,none⟩) (.inl rfl) (.int .i64 2)) (by
         have:=setBlock aj.o 5 (.int .i64 2);simpa[dX] using this))
      clear hr d l;go_wp2_with fail;go_ret;exact⟨rfl,I,ak.o⟩
theorem akf {T:List Nr} {ad:Nat->Nat×Nat} {S:Nat->Prop} {bv bn ub:Nat} {st:St} {bk:List Nat} (bj: ∀(i:Nat) (r:Nr),T[i]?=some r->r.ks.length<=1000000) (F:Nat): ∀(w:World) (c:Nat) (t:Tm),Ur T ad S 121 108 bv bn ub bk st w->QB T st F c=some t->
  Calls Tryz.prog 74 #[iy ub,iy (blk bk c)] w fun e w'=> ∃r B,e= .returned (tV t r)/\aU 24 w' B t.kids r/\(∀j,B j->w.heap.size<=j/\j<w'.heap.size)/\Ext w w':=by
 induction F with
 |zero=>intro w c t _ h;cases h
 |succ F a1=>
 intro w c t hm hc;have bl:=ae a1;unfold QB at hc;cases hx:st.cs[c]? with
 |none=>rw[hx] at hc;cases hc
 |some C=>
 rw[hx] at hc;simp only at hc;have U:=ae hm;have ab:=hm;have bw:=ae hx;have hr:=hm.us.row c C hx;obtain⟨bx,H⟩:=ay C.tm;rw[H] at hc;have D:=((uR w).alloc zO)
 have I:=aj w zO;clear a1 hm;cases bx with
 |none=>
  simp only[Option.some.injEq] at hc;subst hc;have hr:=D.heap hr id;have c1:=ag hr 1 (.string C.nm) rfl;have c2:=ag hr 2 (.string C.so) rfl;have c4:=ag hr 4 (.pointer none) (by show some (pV (Option.map ad C.tm))=_;rw[H];rfl);obtain⟨d0,d1,d2⟩:=ah I;have f2:=fun i=>ax I i;have V:=ae D;have l:=ae I;clear hr hx H D I ab
  go_enter Tryz.func74,Tryz.ntmps74;go_upto_region 1 with fail;generalize w.alloc zO=w1 at*;go_wp2_with fail;go_region
  go_wp2_with fail;have ai:=aO l.o (.string C.nm) (.string C.so) (.slice none 0 0);have hu:=aN w1 w.heap.size (.string C.nm) (.string C.so) (.slice none 0 0);obtain⟨ar,av,aw⟩:=ah ai;refine bodyPost_ret (v:= .agg #[.string C.nm,.string C.so,.slice none 0 0]) (by simp[results,Tryz.results74,go_sem,ar,av,aw]) rfl ⟨.slice none 0 0,fun _=>False,rfl,aU.nil _ _ _,fun j a=>a.elim,(V.o.trans' hu (fun j a e=>by omega)).drew⟩
 |some x=>
  simp only at hc;cases J:T[x]? with
  |none=>rw[J] at hc;cases hc
  |some X=>
  rw[J] at hc;simp only at hc;cases hK:IE T F st (QB T st F) c x X.ks with
  |none=>rw[hK] at hc;cases hc
  |some L=>
  rw[hK] at hc;simp only[Option.map_some,Option.some.injEq] at hc;subst hc;have bz:=ae hK;have bA:=ae J;have b1:=bj x X J;have aJ:=U8 hK;have bm:=ae H;have hr:=D.heap hr id;obtain⟨bB,_,b2,b3,az,_⟩:=(ab.ext D).nd.row x X J;have c4:=ag hr 4 (.pointer (some ⟨(ad x).1,(ad x).2,none⟩)) (by show some (pV (Option.map ad C.tm))=_;rw[H];rfl);have V:=ae D;have l:=ae I;clear hr hx H D I hK J ab;go_enter Tryz.func74,Tryz.ntmps74;go_upto_region 3 with fail;generalize aK:w.alloc zO=w1 at*;obtain⟨b,al⟩:=ay w1.heap.size;have O:Hid (w.heap.size+1=b):=ae (by rw[<-al,<-aK];simp);have Q:=(uR w1).alloc (af X.nm ⟨#[]⟩ none 0 0);have an:=aj w1 (af X.nm ⟨#[]⟩ none 0 0);have aI:=ak l.o (af X.nm ⟨#[]⟩ none 0 0);have bo:=Q.cell az id;have bp:=Q.cell c4 id;have a6:=ae (V.o.trans Q);clear aK;go_wp2_with fail;generalize aL:w1.alloc (af X.nm ⟨#[]⟩ none 0 0)=a7 at*;have a8:Hid (w.heap.size+2<=a7.heap.size):=ae (by have h1:=O.o;rw[<-aL,World.size_alloc];omega);have ba:Hid (oN 24 (w.heap.size+2) a7 L (.slice none 0 0) [] (fun _ _=>False) 0):=ae ⟨rfl,⟨rfl,.inl ⟨rfl,rfl⟩⟩,fun i hi=>absurd hi (Nat.not_lt_zero _),fun i j hi=>absurd hi (Nat.not_lt_zero _),fun i i' j hi=>absurd hi (Nat.not_lt_zero _)⟩;rw[al] at an;have aM:=ae aI;have aQ:=ae an;have aA:=ae aJ;clear aL an aI bo bp al Q l V az c4 aJ bB;go_loopg [37] X.ks.length (fun gk bC wr=> ∃(k:Nat) (lv:Value) (us:List Value) (Bk:Nat->Nat->Prop),bC= .int .i64 (k:Int)/\gk=X.ks.length-k/\k<=X.ks.length/\Hid (oN 24 (w.heap.size+2) wr L lv us Bk k)/\Hid (wr.heap[w.heap.size]?=some zO)/\Hid (wr.heap[b]?=some (kW X.nm ⟨#[]⟩ lv))/\Hid (Ext w wr)/\Hid (w.heap.size+2<=wr.heap.size));case atStart=>exact⟨0,_,_,_,rfl,rfl,Nat.zero_le _,ba,aM,aQ,a6,a8⟩
  case round=>
   clear ba aM aQ a6 a8;obtain⟨k,lv,us,Bk,rfl,rfl,hk,E,l,ao,K,aB⟩:=hrel;obtain⟨n,lc,bq⟩:=bF E.o.own;subst bq;by_cases R:k<X.ks.length
   .obtain ⟨hf,s1,y,aR,aS⟩:=YV bz.o k R;have hr:=K.o.heap (U.o.us.row c C bw.o) id;have c4:=ag hr 4 (.pointer (some ⟨(ad x).1,(ad x).2,none⟩)) (by show some (pV (Option.map ad C.tm))=_;rw[bm.o];rfl);obtain⟨_,_,bY,bZ,az,aT⟩:=(U.o.ext K.o).nd.row x X bA.o;obtain⟨xg,b4,rfl,bb⟩:=aT (by omega);have aV:=(bb k _ (List.getElem?_eq_getElem R)).2;have aC:=ae (aaw F X.ks[k] y (U.o.ext K.o.drew) hf aR).2;rw[aV] at aC;have aD:=ae (fun W (hW:Ext wr W)=>bl.o W y (tg L k) (U.o.ext (K.o.trans hW)) aS);obtain⟨z,aE⟩:=ay (tg L k);have bD:=ae aE;rw[aE] at aD;obtain⟨z0,b5,z2,b0⟩:=bH R;have c2:=ag ao.o 2 (.slice n k lc) rfl;have bE:Hid (¬(Value.slice n k lc).ownBlock=some b):=ae (fun e=>by have h1:=(E.o.own.lt b e).1;have:=O.o;omega);have aW:Hid (k<=1000000):=ae (by omega);have bG:Hid (Ext wr wr):=ae (au.refl _ _);obtain⟨bI,hi,br,bs,bt⟩:=info_parts uZ;clear aT bb aV hf aR aS hr aE;go_wp2_with fail;go_region_law (first
     |(refine d_ _ (.tmp 41) (.tmp 55) 22 rfl (w.heap.size+2) 24 bI (.agg #[.string ⟨#[]⟩,.string ⟨#[]⟩,.slice none 0 0]) 3 56 Tryz.underlying22 hi br bs bt rfl (by decide) _ _ _ rfl bJ.o _ 1 1 [.string z.name,.string z.sort,.slice d z.kids.length g] rfl rfl bK.o bL.o aF.o.1 aF.o.2.1 aF.o.2.2 ?_;intro b6 P Y;obtain⟨G,A,bu⟩:=bF Y.own;subst bu;have Z:=Y.upd.heap (ak bN.o (tO z d g)) bE.o;have f7:=fun i=>ax Z i;have c2:=ag Z 2 (.slice n k lc) rfl;have bO:=ae Z;have bc:=ae Y;clear Y Z)
     |(go_simp;refine aC.o.mono ?_;rintro e bd ⟨rfl,aX⟩;have aa:Hid (Ext wr bd):=ae (((uR wr).drewN' 1).trans aX);have c5:=aa.o.cell c2 id;have aY:=ae (aD.o bd aa.o);clear aX aC aD)
     |(go_simp;refine aY.o.mono ?_;rintro e q ⟨r,Bx,rfl,aG,aq,aZ⟩;obtain⟨d,g,bP⟩:=aU.shape aG;subst bP;have M:Hid (Ext wr q):=ae (aa.o.trans aZ);have bQ:=ae aG;have bR:Hid (∀j,Bx j->wr.heap.size<=j/\j<q.heap.size):=ae (fun j a=>⟨Nat.le_trans aa.o.size (aq j a).1,(aq j a).2⟩);have bN:=ae (M.o.heap ao.o id);have bJ:Hid ((q.alloc (tO z d g)).ownsRow (w.heap.size+2) 24 3 (.slice n k lc) k (dK (L.take k) us)):=ae ((bM E.o.own M.o (fun _ _ h=>h)).alloc _);have bK:Hid (∀(j:Nat) (u:Value),[Value.string z.name,.string z.sort,.slice d z.kids.length g][j]?=some u->(q.alloc (tO z d g)).cell? ((⟨q.heap.size,0,none⟩:Addr).add j)=some u):=ae (AA q _ _ _ 24);have bL:Hid (∀u∈[Value.string z.name,.string z.sort,.slice d z.kids.length g],u.oneCell'=true):=ae (fun u hu=>by simp at hu;rcases hu with h|h|h<;>(subst h;rfl));have aF:Hid (k+1<=maxLen/\(k+1)*56<=140737488355328/\w.heap.size+2<=(q.alloc (tO z d g)).heap.size):=ae ⟨by unfold maxLen;have:=aW.o;omega,by have:=aW.o;omega,by have h1:=M.o.size;have b7:=aB.o;simp;omega⟩;have bS:=M.o.cell c2 id;have A:=((uR q).alloc (tO z d g)).cell bS id;clear aG aq aZ aY))
    all_goals
     go_wp2_with fail;have bf:=ae ((au.refl (fun j=>j=b) P).setCell (p:=⟨b,2,none⟩) (.inl rfl) (.slice G (k+1) A));have aH:Hid (au (fun j=>(Value.slice n k lc).ownBlock=some j\/j=b) wr (P.setCell ⟨b,2,none⟩ (.slice G (k+1) A))):=ae (((((M.o.alloc (tO z d g)).mono (fun _ _ x=>x.elim)).trans (bc.o.upd.mono (fun _ _ e=> .inl e)))).trans (bf.o.mono (fun _ _ e=> .inr e)));have bT:=ae (E.o.grow (by rw[aA.o];exact R) bD.o (by have:=O.o;omega) aB.o bG.o M.o bQ.o bR.o ((uR q).alloc (tO z d g)) bc.o bf.o);have bU:Hid (Ext w (P.setCell ⟨b,2,none⟩ (.slice G (k+1) A))):=ae (K.o.trans' aH.o (fun j a e=>by
      rcases e with e|e
      .have h1:=(E.o.own.lt j e).1;omega
      .have:=O.o;omega))
     have bV:=ae (aH.o.heap l.o (fun e=>by
      rcases e with e|e
      .have h1:=(E.o.own.lt _ e).1;omega
      .have:=O.o;omega))
     have bg:=setBlock bO.o 2 (.slice G (k+1) A);have bW:Hid ((P.setCell ⟨b,2,none⟩ (.slice G (k+1) A)).heap[b]?=some (af X.nm ⟨#[]⟩ G (k+1) A)):=ae (by simpa using bg);have bX:Hid (w.heap.size+2<=(P.setCell ⟨b,2,none⟩ (.slice G (k+1) A)).heap.size):=ae (Nat.le_trans aB.o aH.o.size);clear bg c2 f7;go_roundg (X.ks.length- (k+1));case measure=>omega
     case rel=>exact⟨k+1,_,_,_,by go_num,rfl,by omega,bT,bV,bW,bU,bX⟩
   .obtain rfl:k=X.ks.length:=by omega
    have z2:decide ((X.ks.length:Int)< (X.ks.length:Int))=false:=dF (by omega);have N:=E.o;rw[<-aA.o] at N;have N:=N.fin;have bh:=ae N;rw[aA.o] at bh;obtain⟨b8,c1,c2⟩:=ah ao.o;have f2:=fun i=>ax l.o i;obtain⟨d0,d1,d2⟩:=ah l.o;clear N
    go_wp2_with fail;have ai:=aO l.o (.string X.nm) (.string ⟨#[]⟩) (.slice n X.ks.length lc);have hu:=aN wr w.heap.size (.string X.nm) (.string ⟨#[]⟩) (.slice n X.ks.length lc);obtain⟨ar,av,aw⟩:=ah ai;refine bodyPost_ret (v:= .agg #[.string X.nm,.string ⟨#[]⟩,.slice n X.ks.length lc]) (by simp[results,Tryz.results74,go_sem,ar,av,aw]) rfl ⟨.slice n X.ks.length lc,_,rfl,bh.o.kept hu (fun j a e=>by have h1:=a.1;omega),fun j a=>⟨by have h1:=a.1;omega,aP a.2 hu.size⟩,K.o.trans' hu (fun j a e=>by omega)⟩
theorem oU {t:Tm} (h:wf aC t=true):(aY t).length<=t.size:=by
 have d:(kM t).isSome=true:=by
  unfold wf at h;rw[Bool.and_eq_true] at h;exact h.2
 obtain⟨m,hm⟩:=Option.isSome_iff_exists.1 d;have h1:=Ad _ _ _ (show jR [] (vl (bu t))=some m from hm);have i:(vl (bu t)).length<=t.size:=by
  have h1:(vl (bu t)).length<=(bu t).length:=List.length_filterMap_le _ _;have d:(bu t).length=t.size:=by rw[bu,List.length_map,lH]
  omega
 have hv:=JP hm;have g:(aY t).Nodup:=hv.1.imp (fun{a b} c e=>by rw[e,iO] at c;cases c);have:=g.length_le_of_subset (fun f hf=>(hv.2 f).1 hf);simp only[List.length_nil] at h1;omega
theorem yS {l:List Vd} {i:Nat} (h:i<l.length):vg l i∈l:=by unfold vg;rw[gZ h];exact List.getElem_mem h
theorem rq {t:Tm} (h:wf aC t=true):tK t=(aY t,0):=if_pos h
theorem aak (a b:Tm) (va vb:Value) (w:World) (i:dI w) (hA:bQ (fun k=>k<w.heap.size) w a va) (aF:bQ (fun k=>k<w.heap.size) w b vb) (ao:a.size<=1000000) (aq:b.size<=1000000) (ha:wf aC a=true) (hb:wf aC b=true) (hc: ∀v∈aY a,∀u∈aY b,v.1=u.1->v.2=u.2):
  Calls Tryz.prog 63 #[va,vb] w fun e w'=>e= .returned (.int .i64 0)/\Ext w w':=by
 have N:=ae hA;have O:=ae aF;have D:=ae (oU ha);have E:=ae (oU hb);have P:=ae hc;obtain⟨Q,ac,rfl,_⟩:=hA;obtain⟨R,S,rfl,_⟩:=aF;have p:=ae (fun W (hW:Ext w W)=>yT a _ W (aT i hW) ((N.o.ext hW).weaken (bW hW)) (by omega));have q:=ae (fun W (hW:Ext w W)=>yT b _ W (aT i hW) ((O.o.ext hW).weaken (bW hW)) (by omega));have r:=ae (fun W (hW:Ext w W)=>uz a _ W (aT i hW) ((N.o.ext hW).weaken (bW hW)) (by omega));have t:=ae (fun W (hW:Ext w W)=>uz b _ W (aT i hW) ((O.o.ext hW).weaken (bW hW)) (by omega));rw[ha] at p;rw[hb] at q;rw[rq ha] at r;rw[rq hb] at t;dsimp only[tV] at p q r t⊢;have aG:=((uR w).alloc (tO a Q ac)).alloc (tO b R S);have F:=ak (aj w (tO a Q ac)) (tO b R S);have ar:=alloc_at (w.alloc (tO a Q ac)) (tO b R S) (n:=w.heap.size+1) (by simp);have T:=ae (And.intro ao aq);clear hc ha hb ao aq;obtain⟨U,V,X⟩:=ah F;have Y:=ae aG;have aH:=ae F;have aI:=ae ar;clear aG F ar;go_enter Tryz.func63,Tryz.ntmps63;go_wp2_with fail;refine(p.o _ Y.o).mono ?_;rintro e w3 ⟨rfl,x⟩;have Z:=ae (Y.o.trans x);have aJ:=ae (x.heap aH.o id);have aa:=ae (x.heap aI.o id);clear x U V X aH aI Y p;obtain⟨ab,ad,af⟩:=ah aa.o;go_wp2_with fail;refine(q.o _ Z.o).mono ?_;rintro e bb ⟨rfl,y⟩;have ag:=ae (Z.o.trans y);have aK:=ae (y.heap aJ.o id);have aL:=ae (y.heap aa.o id);clear y ab ad af aJ aa Z q;obtain⟨U,V,X⟩:=ah aK.o;go_wp2_with fail;refine(r.o _ ag.o).mono ?_;rintro e bc ⟨r1,rfl,av,G⟩;have ai:=ae (ag.o.trans G);have aM:=ae (G.heap aL.o id);have H:=ae av;clear G U V X aK aL ag r av;obtain⟨ab,ad,af⟩:=ah aM.o;go_wp2_with fail;refine(t.o _ ai.o).mono ?_;rintro e aW ⟨r2,rfl,I,J⟩;have aX:=ae (ai.o.trans J);have aw:=ae (dM.ext H.o J);have ax:=ae I;obtain⟨bd,c1,rfl⟩:=dM.shape I;obtain⟨a0,bf,rfl⟩:=dM.shape H.o;clear J ab ad af aM ai t I H N O i;obtain⟨d,az⟩:=ay (aY a);obtain⟨c,aA⟩:=ay (aY b);rw[az] at aw P D⊢;rw[aA] at ax P E⊢;have a8:d.length<=1000000:=by have h1:=D.o;have aZ:=T.o.1;omega
 have ba:c.length<=1000000:=by have h1:=E.o;have aZ:=T.o.2;omega
 clear az aA T D E;go_wp2_with fail;go_loopg [33] d.length (fun gk al wr=> ∃k:Nat,al= .int .i64 (k:Int)/\gk=d.length-k/\k<=d.length/\Hid (Ext aW wr));case atStart=>exact⟨0,rfl,rfl,Nat.zero_le _,ae (au.refl _ _)⟩
 case round=>
  obtain⟨k,rfl,rfl,hk,an⟩:=hrel;by_cases K:k<d.length
  .obtain ⟨g,off,rfl,l⟩:=dM.at_ (dM.ext aw.o an.o) (by omega);obtain⟨z,A⟩:=l k K;have h:=yS K;obtain⟨fa,aB⟩:=ay (vg d k);rw[aB] at z A h;have a1:=ae h;clear aB h;obtain⟨z0,aN,z2,aD⟩:=bH K;have aO:=aj wr (dC fa.1 fa.2);have a6:=ae aO;have aP:=ae (an.o.alloc (dC fa.1 fa.2));clear l aO;go_wp2_with fail;generalize wr.alloc (dC fa.1 fa.2)=a7 at*;clear z A z0 aN z2 aD;go_loopg [39] c.length (fun gk al aS=> ∃j:Nat,al= .int .i64 (j:Int)/\gk=c.length-j/\j<=c.length/\Hid (Ext a7 aS));case atStart=>exact⟨0,rfl,rfl,Nat.zero_le _,ae (au.refl _ _)⟩
   case round=>
    obtain⟨j,rfl,rfl,bg,B⟩:=hrel;by_cases L:j<c.length
    .obtain ⟨g2,bh,rfl,l⟩:=dM.at_ (dM.ext ax.o (aP.o.trans B.o)) (by omega);obtain⟨z,A⟩:=l j L;have h:=yS L;obtain⟨fb,aE⟩:=ay (vg c j);rw[aE] at z A h;have aU:=ae h;clear aE h;obtain⟨z0,aN,z2,aD⟩:=bH L;have C:=B.o.heap a6.o id;have C:=ak C (dC fb.1 fb.2);have aQ:=aj wr (dC fb.1 fb.2);obtain⟨bj,bk⟩:=aV C;obtain⟨d0,d1⟩:=aV aQ;have aR:=ae (B.o.alloc (dC fb.1 fb.2));have s1:=kR fa.1 fb.1;have s2:=kR fa.2 fb.2;have M:=P.o fa a1.o fb aU.o;clear l C aQ;by_cases h1:fa.1=fb.1
     .rw [dT h1] at s1;rw[dT (M h1)] at s2;clear M h1;go_wp2_with fail;go_roundg (c.length- (j+1));case measure=>omega
      case rel=>exact⟨j+1,by go_num,rfl,by omega,aR⟩
     .rw [dF h1] at s1;clear M h1 s2;go_wp2_with fail;go_roundg (c.length- (j+1));case measure=>omega
      case rel=>exact⟨j+1,by go_num,rfl,by omega,aR⟩
    .obtain rfl:j=c.length:=by omega
     have z2:decide ((c.length:Int)< (c.length:Int))=false:=dF (by omega);go_wp2_with fail;go_roundg (d.length- (k+1));case measure=>omega
     case rel=>exact⟨k+1,by go_num,rfl,by omega,ae (aP.o.trans B.o)⟩
  .obtain rfl:k=d.length:=by omega
   have z2:decide ((d.length:Int)< (d.length:Int))=false:=dF (by omega);go_wp2_with fail;go_ret;exact⟨rfl,aX.o.trans an.o⟩
theorem af9 (n:Nat) (w:World) (hn:n<=10000000):Calls Tryz.prog 142 #[.slice none 0 0,.int .i64 (n:Int)] w fun e w'=> ∃v,e= .returned v/\w'.ownsRow w.heap.size 116 2 v 0 []/\Ext w w':=by
 obtain⟨k,hi,c,i,d⟩:=info_parts JJ;by_cases h0:0<n
 .have h1: ¬((n:Int)<0):=by omega
  have p:(0:Int)< (n:Int):=by omega
  have g: ∀ty,(Builtin.append_ #[111,3] ty #[.slice none 0 0,.int .i64 (n:Int)]).run Tryz.prog w= .ok (.slice (az w.heap.size) n (grownCap w n 0 116)) (w.drew.alloc (.cells (Builtin.zeroCells (Value.agg #[.string ⟨#[]⟩,.string ⟨#[]⟩]).cells n++Builtin.zeroCells (Value.agg #[.string ⟨#[]⟩,.string ⟨#[]⟩]).cells (grownCap w n 0 116-n)) 116)):=fun ty=>
   Lib.run_append_nil_zeros w 111 3 ty 116 k _ .i64 .i64 Tryz.underlying111 Tryz.underlying3 hi c n h0 (by omega) (by omega) (by rw[d];omega)
  have j:=grownCap_ge w n 0 116;have hle:=grownCap_le_maxLen w n 0 116 (by unfold maxLen;omega);have hown:Hid ((w.drew.alloc (.cells (Builtin.zeroCells (Value.agg #[.string ⟨#[]⟩,.string ⟨#[]⟩]).cells n++Builtin.zeroCells (Value.agg #[.string ⟨#[]⟩,.string ⟨#[]⟩]).cells (grownCap w n 0 116-n)) 116)).ownsRow w.heap.size 116 2 (.slice (az w.heap.size) 0 (grownCap w n 0 116)) 0 []):=ae
   (World.ownsRow_made w.drew _ _ (Nat.le_refl _) hle (by rw[Array.size_append,size_zeroCells,size_zeroCells];show n*2+(grownCap w n 0 116-n)*2=grownCap w n 0 116*2;omega))
  have h:Hid (Ext w (w.drew.alloc (.cells (Builtin.zeroCells (Value.agg #[.string ⟨#[]⟩,.string ⟨#[]⟩]).cells n++Builtin.zeroCells (Value.agg #[.string ⟨#[]⟩,.string ⟨#[]⟩]).cells (grownCap w n 0 116-n)) 116))):=ae ((au.refl _ w).drew.alloc _);obtain⟨G,b⟩:=ay (grownCap w n 0 116);obtain⟨w2,a⟩:=ay (w.drew.alloc (.cells (Builtin.zeroCells (Value.agg #[.string ⟨#[]⟩,.string ⟨#[]⟩]).cells n++Builtin.zeroCells (Value.agg #[.string ⟨#[]⟩,.string ⟨#[]⟩]).cells (grownCap w n 0 116-n)) 116));rw[a,b] at g hown;rw[a] at h;rw[b] at j hle;have l:G<=9223372036854775807:=by unfold maxLen at hle;omega
  clear a b hi c i d;go_enter Tryz.func142,Tryz.ntmps142;go_wp2_with(at_builtin;refine Lib.wpList_append_run _ rfl _ _ _ _ rfl _ _ rfl rfl _ _ (g _) ?_)
  go_ret;exact⟨_,rfl,hown.o,h.o⟩
 .obtain rfl:n=0:=by omega
  go_enter Tryz.func142,Tryz.ntmps142;go_wp2_with fail;go_ret;exact⟨_,rfl,World.ownsRow_nil ..,au.refl _ _⟩
abbrev qJ (a b:List Vd) (k:Nat):List Vd:=if k=0 then[] else if k=1 then a else a++b
theorem aah (a b:List Vd) (v1 v2:Value) (S:Nat->Prop) (g:Nat) (w:World) (h1:dM S w v1 a) (C:dM S w v2 b) (i:w.cell? ⟨g,0,none⟩=some v1) (l:w.cell? ⟨g,1,none⟩=some v2) (X:a.length<=1000000) (Y:b.length<=1000000):
  Calls Tryz.prog 71 #[.slice (az g) 2 2] w fun e w'=> ∃r,e= .returned r/\dM (fun k=>w.heap.size<=k/\k<w'.heap.size) w' r (a++b)/\Ext w w':=by
 have H1:=ae h1;have Q:=ae C;obtain⟨R,c1,rfl⟩:=dM.shape h1;obtain⟨a2,c2,rfl⟩:=dM.shape C;have L:=ae (And.intro i l);have M:=ae (af9 (a.length+b.length) w (by omega));clear h1 C;go_enter Tryz.func71,Tryz.ntmps71;go_wp2_with fail;go_loopg [3,11] 2 (fun gk sv D wr=> ∃k:Nat,D= .int .i64 (k:Int)/\sv= .int .i64 ((qJ a b k).length:Int)/\gk=2-k/\k<=2/\w=wr);case atStart=>exact⟨0,rfl,rfl,rfl,Nat.zero_le _,rfl⟩
 case round=>
  obtain⟨k,rfl,rfl,rfl,hk,rfl⟩:=hrel;rcases(by omega:k=0\/k=1\/k=2) with rfl|rfl|rfl
  .have z3: ¬((a.length:Int)<0):=by omega
   simp only[qJ,if_true,List.length_nil] at*;go_wp2_with fail;go_roundg 1;case measure=>omega
   case rel=>exact⟨1,rfl,by simp[qJ],rfl,by omega,rfl⟩
  .have z3: ¬((a.length:Int)+(b.length:Int)<0):=by omega
   simp only[qJ] at*;go_wp2_with fail;go_roundg 0;case measure=>omega
   case rel=>exact⟨2,rfl,by simp[qJ],rfl,by omega,rfl⟩
  .have I:((qJ a b 2).length:Int)=((a.length+b.length:Nat):Int):=by simp[qJ]
   rw[I];clear I;go_wp2_with fail;refine M.o.mono ?_;rintro e w2 ⟨v,rfl,J,K⟩;have T:=ae J;have O:=ae K;clear J K M i l;go_wp2_with fail;go_loopg [6,27] 2 (fun gk lv D wr=> ∃k:Nat,D= .int .i64 (k:Int)/\Hid (wr.ownsRow w.heap.size 116 2 lv (qJ a b k).length (bZ (qJ a b k)))/\gk=2-k/\k<=2/\Hid (Ext w wr));case atStart=>exact⟨0,rfl,T,rfl,Nat.zero_le _,O⟩
   case round=>
    obtain⟨k,rfl,y,rfl,hk,c⟩:=hrel;obtain⟨E,lc,P⟩:=bF y.o;subst P;have p: ∀j,(Value.slice E (qJ a b k).length lc).ownBlock=some j->w.heap.size<=j:=fun j n=>(y.o.lt j n).1;have i:=c.o.cell L.o.1 id;have l:=c.o.cell L.o.2 id;obtain⟨N,hi,q,t,u⟩:=info_parts JJ;have x:=c.o.size;rcases(by omega:k=0\/k=1\/k=2) with rfl|rfl|rfl
    .go_wp2_with (at_builtin;refine kG _ rfl (.tmp 31) (.tmp 32) 111 rfl w.heap.size 116 N (.agg #[.string ⟨#[]⟩,.string ⟨#[]⟩]) 2 32 Tryz.underlying111 hi q t u rfl (by decide) (.slice E (qJ a b 0).length lc) _ _ rfl y.o S (.slice R a.length c1) a.length (bZ a) rfl (dM.ext H1.o c.o) (nz _) ?c3 ?c4 x ?_)
     case c3=>unfold maxLen;simp[qJ];omega
     case c4=>simp[qJ];omega
     intro F z d;have A:Hid (z.ownsRow w.heap.size 116 2 F (qJ a b 1).length (bZ (qJ a b 1))):=ae (by
      have h:=d.own;simp only[qJ,if_true,List.length_nil,Nat.zero_add] at h;exact h)
     have G:Hid (Ext w z):=ae (c.o.trans' d.upd (fun j n e=>by have:=p j e;omega));obtain⟨U,V,B⟩:=bF A.o;subst B;clear d hi q t u x p i l;go_wp2_with fail;go_roundg 1;case measure=>omega
     case rel=>exact⟨1,rfl,A,rfl,by omega,G⟩
    .go_wp2_with (at_builtin;refine kG _ rfl (.tmp 31) (.tmp 32) 111 rfl w.heap.size 116 N (.agg #[.string ⟨#[]⟩,.string ⟨#[]⟩]) 2 32 Tryz.underlying111 hi q t u rfl (by decide) (.slice E (qJ a b 1).length lc) _ _ rfl y.o S (.slice a2 b.length c2) b.length (bZ b) rfl (dM.ext Q.o c.o) (nz _) ?c3 ?c4 x ?_)
     case c3=>unfold maxLen;simp[qJ];omega
     case c4=>simp[qJ];omega
     intro F z d;have A:Hid (z.ownsRow w.heap.size 116 2 F (qJ a b 2).length (bZ (qJ a b 2))):=ae (by
      have h:=d.own;have W:qJ a b 1=a:=rfl;have H:qJ a b 2=a++b:=rfl;rw[W,<-tN] at h;rw[H,List.length_append];exact h)
     have G:Hid (Ext w z):=ae (c.o.trans' d.upd (fun j n e=>by have:=p j e;omega));obtain⟨U,V,B⟩:=bF A.o;subst B;clear d hi q t u x p i l;go_wp2_with fail;go_roundg 0;case measure=>omega
     case rel=>exact⟨2,rfl,A,rfl,by omega,G⟩
    .clear hi q t u x i l;go_wp2_with fail;go_ret;have H:qJ a b 2=a++b:=rfl;have ho:=y.o;rw[H] at ho;exact⟨_,rfl,aB.weaken (aB.gG ho) (fun j n=>⟨p j n,(ho.lt j n).2⟩),c.o⟩
section
open Go.Sort Go.Proofs Go.ChangeMaps
abbrev Be:=Bd×Option Addr×Nat×Nat
abbrev wJ (x:Be):Value:= .slice x.2.1 x.2.2.1 x.2.2.2
abbrev dY (x:Be):List Value:=[.string x.1.1,.string x.1.2.1,.string x.1.2.2.name,.string x.1.2.2.sort,wJ x]
abbrev Uy (x:Be):By:=x.1.1
theorem NS: ∀(L:List Be),(L.flatMap dY).length=L.length*5
 |[]=>rfl
 |x::L=>by rw[List.flatMap_cons,List.length_append,NS L,List.length_cons];simp only[dY,List.length_cons,List.length_nil];omega
def Yc (t:Tm) (nm so:By):Bool:=!decide (t.sort=ai)&&decide (t.name=nm)&&decide (t.sort=so)
theorem amV (t:Tm) (a:Option Addr) (cap:Nat) (nm so:By) (w:World):Calls Tryz.prog 93 #[tV t (.slice a t.kids.length cap),.string nm,.string so] w fun e w'=>e= .returned (.bool (Yc t nm so))/\Ext w w':=by
 have hb:=aj w (tO t a cap);have i:=ae ((uR w).alloc (tO t a cap));have j:=ae (fun W=>nG t.name t.sort a t.kids.length cap W);obtain⟨g,c1,c2⟩:=ah hb;have k:=ae hb;have s1:=kR t.name nm;have s2:=kR t.sort so;have c:Hid (Yc t nm so=(!decide (t.sort=ai)&&decide (t.name=nm)&&decide (t.sort=so))):=ae rfl;generalize Yc t nm so=R at*;generalize decide (t.sort=ai)=d0 at*;generalize decide (t.name=nm)=d1 at*;generalize decide (t.sort=so)=d2 at*;clear hb;go_enter Tryz.func93,Tryz.ntmps93;go_wp2_with fail;refine(j.o _).mono ?_;rintro e l ⟨rfl,b⟩;have d:=ae (i.o.trans b);have h:=ae (b.heap k.o id);clear b g c1 c2;obtain⟨g,c1,c2⟩:=ah h.o;cases d0 with
 |true=>
  obtain rfl:R=false:=c.o;go_wp2_with fail;go_ret;exact⟨rfl,d.o⟩
 |false=>
  cases d1 with
  |false=>
   obtain rfl:R=false:=c.o;go_wp2_with fail;go_ret;exact⟨rfl,d.o⟩
  |true=>
   obtain rfl:R=d2:=c.o;go_wp2_with fail;go_ret;exact⟨rfl,d.o⟩
theorem Yd (x y:Be) (w:World):Calls Tryz.prog 135 #[.agg (dY x).toArray,.agg (dY y).toArray] w fun e w'=>e= .returned (.int .i64 (ET Uy x y))/\∃q os',w'=grow (w.drewN q) os':=by
 have a:=ak (aj w (Ag x.1.1 x.1.2.1 x.1.2.2.name x.1.2.2.sort (wJ x))) (Ag y.1.1 y.1.2.1 y.1.2.2.name y.1.2.2.sort (wJ y));have b:=alloc_at (w.alloc (Ag x.1.1 x.1.2.1 x.1.2.2.name x.1.2.2.sort (wJ x))) (Ag y.1.1 y.1.2.1 y.1.2.2.name y.1.2.2.sort (wJ y)) (n:=w.heap.size+1) (by simp);have d:=ag a 0 (.string x.1.1) rfl;have d0:=ag b 0 (.string y.1.1) rfl;have hc:=fun W=>Tryz.strings_Compare x.1.1 y.1.1 W;change ∀W,Calls _ _ _ W fun e w'=>e= .returned (.int .i64 (ET Uy x y))/\w'=W at hc;have c:=ae hc;generalize ET Uy x y=r at*;clear a b hc
 go_enter Tryz.func135,Tryz.ntmps135;go_wp2_with fail;refine(c.o _).mono ?_;rintro e g ⟨rfl,rfl⟩;go_wp2_with fail;go_ret;exact⟨rfl,0,_,by rw[alloc_eq_grow,alloc_eq_grow,grow_grow];rfl⟩
theorem VU (L:List Be) (base:Nat) (v:Value) (w:World) (hO:w.ownsRow base 93 5 v L.length (L.flatMap dY)) (hd:L.Pairwise fun x y=>x.1.1≠y.1.1) (hl:L.length<=1000000):
  Calls Tryz.prog 97 #[v,.func (.func 135) #[] #[]] w fun e w'=>e= .returned (.tuple #[])/\∃b:List Be,AscK Uy b/\b.Perm L/\aB (fun k=>v.ownBlock=some k) w' 5 v b.length (b.flatMap dY)/\au (fun k=>v.ownBlock=some k) w w':=by
 by_cases h0:0<L.length
 .obtain ⟨g,cap,rfl,hb,l,q,hcell,r⟩:=aco hO h0;have hH:HoldsK dY 5 w g 0 L.toArray:=NI dY 5 (fun _=>rfl) (fun j i=>⟨by rw[Nat.zero_add];exact hcell j i,r _⟩);have eg: ∀args w,(callFunc 135 args).run Tryz.prog w= .ok (.enter 135 args) w:=enters_of Tryz.func135 (by kernel_rfl) rfl;have h:=Tryz.slices_SortFunc_f97 5 (fun w=>Tryz.isAgg93 w) (fun w=>Tryz.sizeOf93 w) dY (fun _=>rfl) (fun x u hu=>by simp[dY] at hu;rcases hu with h|h|h|h|h<;>(subst h;rfl)) (ET Uy) (Un _) 135 #[] g 0 cap L.toArray w eg (fun m os A _ x y=>Yd x y _) hH l (by simp;omega);rw[show L.toArray.size=L.length by simp] at h;refine h.mono ?_;rintro e w' ⟨rfl,d',n,os,hp,hs,rfl⟩;have c:d'.size=L.length:=by have:=hp.1;simpa using this
  obtain⟨ha,p⟩:=Qi (d:=L.toArray) Uy (by rw[show L.toArray.size=L.length by simp];exact hp) (by rw[show L.toArray.size=L.length by simp];exact hs) (by simpa using hd);have o:d'.toList.length=L.length:=by simpa using c
  refine⟨rfl,d'.toList,ha,by simpa using p,?_,(NJ dY 5 w g 0 n d' os).mono (fun k _ e=>by rw[e];rfl)⟩;have t:=holdsK_sortWorldK_c dY 5 w g 0 L.toArray d' n os hH l (by simpa using c);rw[o];refine aB.mk' (by rw[NS,o]) rfl q (fun _=>rfl) (fun j i=>?_);exact(EU dY 5 (fun _=>rfl) t j (by rw[c];exact i)).1
 .have z:L=[]:=List.eq_nil_of_length_eq_zero (by omega);subst z;obtain⟨a,cap,rfl⟩:=bF hO;have h:=Tryz.slices_SortFunc_none_f97 (α:=Be) a cap (.func (.func 135) #[] #[]) w;refine h.mono ?_;rintro e w' ⟨rfl,rfl⟩;exact⟨rfl,[],List.Pairwise.nil,List.Perm.refl _,aB.gG hO,au.refl _ _⟩
theorem Qz:(Tryz.prog.info? 93).map (fun i=>(i.zero,i.size,i.bytes))=some (some (.agg #[.string ⟨#[]⟩,.string ⟨#[]⟩,.string ⟨#[]⟩,.string ⟨#[]⟩,.slice none 0 0]),5,88):=by kernel_rfl
theorem amW (w:World) (u0 u1 u2 u3 u4:Value) (t:TypeId): ∀(j:Nat) (u:Value),[u0,u1,u2,u3,u4][j]?=some u->(w.alloc (.cells #[u0,u1,u2,u3,u4] t)).cell? ((⟨w.heap.size,0,none⟩:Addr).add j)=some u:=fun j u a=>by
 match j,a with
 |0,a=>simp only[List.getElem?_cons_zero,Option.some.injEq] at a;subst a;simp only[Addr.add];exact ag (aj _ _) 0 _ rfl
 |1,a=>simp at a;subst a;simp only[Addr.add];exact ag (aj _ _) 1 _ rfl
 |2,a=>simp at a;subst a;simp only[Addr.add];exact ag (aj _ _) 2 _ rfl
 |3,a=>simp at a;subst a;simp only[Addr.add];exact ag (aj _ _) 3 _ rfl
 |4,a=>simp at a;subst a;simp only[Addr.add];exact ag (aj _ _) 4 _ rfl
def Fe (l:List Be) (n:By):Be:=(l.find? fun x=>decide (x.1.1=n)).getD default
theorem BJ: ∀{l:List Be} (hd:(l.map fun x=>x.1.1).Nodup) {x:Be} (hx:x∈l),Fe l x.1.1=x
 |y::l,hd,x,hx=>by
  rw[List.map_cons,List.nodup_cons] at hd;unfold Fe;rw[List.find?_cons];rcases List.mem_cons.1 hx with e|hx
  .subst e;rw[dT rfl];rfl
  .have hne: ¬y.1.1=x.1.1:=fun e=>hd.1 (by rw[e];exact List.mem_map.2 ⟨x,hx,rfl⟩);rw[dF hne];exact BJ hd.2 hx
def yN (f:Bd):Bool:=Yc f.2.2 f.1 f.2.1
structure TbR (S:Nat->Prop) (w:World) (b:Nat) (l:List Be):Prop where
 mp:eX (fun s:ByteArray=>Value.string s) w b (l.map fun x=>(x.1.1,.agg (dY x).toArray))
 nd:(l.map fun x=>x.1.1).Nodup
 tl: ∀x∈l,aG S w x.1.2.2.kids (wJ x)
structure DZ (n0:Nat) (w:World) (v:Value) (L:List Be):Prop where
 own:w.ownsRow n0 93 5 v L.length (L.flatMap dY)
 tl: ∀x∈L,∃Bx:Nat->Prop,aG Bx w x.1.2.2.kids (wJ x)/\∀j,Bx j->n0<=j/\j<w.heap.size/\v.ownBlock≠some j
theorem DZ.start (n0:Nat) (w:World):DZ n0 w (.slice none 0 0) []:=⟨⟨rfl,.inl ⟨rfl,rfl⟩⟩,fun x hx=>by cases hx⟩
theorem DZ.kept {n0:Nat} {w w':World} {v:Value} {L:List Be} {F:Nat->Prop} (h:DZ n0 w v L) (hu:au F w w') (hF: ∀j,n0<=j->j<w.heap.size->¬F j):DZ n0 w' v L:=
 ⟨bM h.own hu (fun j a=>hF j (h.own.lt j a).1 (h.own.lt j a).2),fun x hx=>by
  obtain⟨Bx,h1,b⟩:=h.tl x hx;exact⟨Bx,h1.kept hu (fun j a=>hF j (b j a).1 (b j a).2.1),fun j a=>⟨(b j a).1,aP (b j a).2.1 hu.size,(b j a).2.2⟩⟩⟩
theorem DZ.grow {n0:Nat} {w b i:World} {v v':Value} {L:List Be} {x:Be} {Bx:Nat->Prop} {o:Obj} (h:DZ n0 w v L) (hn:n0<=w.heap.size) (n:Ext w b) (r:aG Bx b x.1.2.2.kids (wJ x)) (c: ∀j,Bx j->w.heap.size<=j/\j<b.heap.size)
  (k:Grew n0 93 5 v (L.length+1) (L.flatMap dY++dY x) (b.alloc o) i v'):DZ n0 i v' (L++[x]):=by
 have hA:=(uR b).alloc o;have g:au (fun j=>v.ownBlock=some j) b i:=(hA.mono (fun _ _ x=>x.elim)).trans k.upd;have l: ∀j,v'.ownBlock=some j->v.ownBlock=some j\/b.heap.size<=j:=fun j e=>by
  rcases k.xK with h|h
  .rw [h] at e;exact .inl e
  .rw [h] at e;injection e with e;exact .inr (by have:=hA.size;omega)
 have p:=n.size;refine⟨?_,fun y hy=>?_⟩
 .have ho:=k.own;rw[List.length_append,List.flatMap_append];simpa using ho
 .rcases List.mem_append.1 hy with hy|hy
  .obtain ⟨q,h1,d⟩:=h.tl y hy;refine⟨q,((h1.kept n (fun _ _ x=>x)).kept g (fun j a=>(d j a).2.2)),fun j a=>⟨(d j a).1,aP (aP (d j a).2.1 p) g.size,fun e=>?_⟩⟩;rcases l j e with e|e
   .exact (d j a).2.2 e
   .have:=(d j a).2.1;omega
  .rw [List.mem_singleton] at hy;subst hy;refine⟨Bx,r.kept g (fun j a e=>by have t:=(h.own.lt j e).2;have u:=(c j a).1;omega),fun j a=>⟨Nat.le_trans hn (c j a).1,aP (c j a).2 g.size,fun e=>?_⟩⟩;rcases l j e with e|e
   .have t:=(h.own.lt j e).2;have u:=(c j a).1;omega
   .have:=(c j a).2;omega
theorem DZ.bn {n0:Nat} {w w':World} {v:Value} {L a:List Be} (h:DZ n0 w v L) (hp:a.Perm L) (hs:aB (fun k=>v.ownBlock=some k) w' 5 v a.length (a.flatMap dY)) (hu:au (fun k=>v.ownBlock=some k) w w'):
  jb (fun k=>n0<=k/\k<w'.heap.size) (fun k=>n0<=k/\k<w'.heap.size) w' v (a.map (·.1)):=by
 refine⟨a.map wJ,by simp,?_,fun i hi=>?_⟩
 .have e:jh (a.map (·.1)) (a.map wJ)=a.flatMap dY:=by
   clear hs hp
   induction a with
   |nil=>rfl
   |cons x a g=>rw[List.map_cons,List.map_cons,List.flatMap_cons];simp only[jh,List.headD_cons,List.tail_cons,g,dY,List.cons_append,List.nil_append]
  rw[e,List.length_map];exact aB.weaken hs (fun k hk=>⟨(h.own.lt k hk).1,aP (h.own.lt k hk).2 hu.size⟩)
 .have c:i<a.length:=by simpa using hi
  have l:Go.Hw.bg (a.map (·.1)) i=(a[i]).1:=by
   unfold Go.Hw.bg;rw[List.getD_eq_getElem?_getD,List.getElem?_map,List.getElem?_eq_getElem c];rfl
  have n:ug (a.map wJ) i=wJ a[i]:=by
   unfold ug;rw[List.getD_eq_getElem?_getD,List.getElem?_map,List.getElem?_eq_getElem c];rfl
  rw[l,n];obtain⟨Bx,h1,d⟩:=h.tl _ (hp.mem_iff.1 (List.getElem_mem c));exact(h1.kept hu (fun j b=>(d j b).2.2)).weaken (fun j b=>⟨(d j b).1,aP (d j b).2.1 hu.size⟩)
theorem VV (l:List Be) (b:Nat) (S:Nat->Prop) (w:World) (b3:TbR S w b l) (hS: ∀k,S k->k<w.heap.size) (aQ: ∀x∈l,x.1.2.2.size<=100000) (hl:l.length<=1000000):
  Calls Tryz.prog 65 #[.map (some b)] w fun e w'=> ∃r L,e= .returned r/\jb (fun k=>w.heap.size<=k/\k<w'.heap.size) (fun k=>w.heap.size<=k/\k<w'.heap.size) w' r L/\AscK (Prod.fst:Bd->By) L/\(∀f,f∈L<->((∃x∈l,x.1=f)/\yN f=false))/\Ext w w':=by
 obtain⟨⟨es,clock,hb,ao,aR,aS⟩,aT,aV⟩:=b3;have br:Hid ((es.toList.map (·.born)).Nodup):=ae (by
  rw[List.Nodup,List.pairwise_map];exact aR.imp (fun h e=>by omega))
 have b4:=ae aS;have b5:=ae ao;have aa:Hid (wK es.toList (l.map fun x=>x.1.1)):=ae (by
  have:=wK.of ao;rw[List.map_map] at this;exact this)
 have b6:=ae aV;have Q:=ae aT;have b7:=ae hS;have b8:=ae aQ;have bs:=ae hl;have bT:=run_range_map (P:=Tryz.prog) w 98 9 93 b es clock Tryz.underlying98 hb;have aN:b<w.heap.size:=(Array.getElem?_eq_some_iff.1 hb).1;have bt:=ae aN;have aW:=ae (ak hb (.mapIter (some b) clock #[] clock));have aX:=ae (aj w (.mapIter (some b) clock #[] clock));have bu:=ae ((uR w).alloc (.mapIter (some b) clock #[] clock));have aY:Hid (w.heap.size+1<=(w.alloc (.mapIter (some b) clock #[] clock)).heap.size):=ae (by simp);clear ao aR aS hb aN aT aV hS aQ hl;go_enter Tryz.func65,Tryz.ntmps65;go_wp2_with fail;try go_frame
 generalize w.alloc (.mapIter (some b) clock #[] clock)=ab at*;clear bT;go_loopg [3] (leftOf es #[]).size (fun gk b9 wr=> ∃(B:Option Addr) (C:Nat) (L:List Be) (D:List By) (seen:Array Nat),b9= .slice B L.length C/\gk=(leftOf es seen).size/\Hid (DZ (w.heap.size+1) wr (.slice B L.length C) L)/\Hid (wr.heap[w.heap.size]?=some (.mapIter (some b) clock seen clock))/\Hid (wr.heap[b]?=some (.map es clock))/\Hid (Ext w wr)/\Hid (w.heap.size+1<=wr.heap.size)/\Hid (vS es.toList seen D)/\Hid (L.map (·.1)=(D.map fun n=>(Fe l n).1).filter fun f=>!yN f));case atStart=>exact⟨none,0,[],[],#[],rfl,rfl,ae (DZ.start _ _),aX,aW,bu,aY,ae (vS.start _),ae rfl⟩
 case round=>
  clear aX aW bu aY;obtain⟨B,C,L,D,seen,rfl,rfl,ad,aZ,aG,bw,ca,G,H⟩:=hrel;rcases run_next_at (P:=Tryz.prog) wr 0 w.heap.size b clock clock seen es clock aZ.o aG.o (fun x hx=>b4.o x hx) (Nat.le_refl _) with⟨h0,A⟩|⟨e,he,w1,V,A⟩
  .have aq: ∀ty,(Instr.next (.pointer (az w.heap.size)) false ty).run Tryz.prog wr=_:=fun _=>A;have M:=G.o.fin aa.o h0;have a1:(D.map fun n=>(Fe l n).1.1)=D:=by
    have: ∀n∈D,(Fe l n).1.1=n:=fun n hn=>by
     obtain⟨x,hx,e⟩:=List.mem_map.1 ((M n).1 hn);rw[<-e,BJ Q.o hx]
    rw[List.map_congr_left this,List.map_id']
   have a6:L.Pairwise fun x y=>x.1.1≠y.1.1:=by
    have h1:((D.map fun n=>(Fe l n).1).filter fun f=>!yN f).Pairwise (fun f g=>f.1≠g.1):=by
     refine List.Pairwise.filter _ ?_;rw[List.pairwise_map];have d:=G.o.dn;rw[<-a1,List.Nodup,List.pairwise_map] at d;exact d
    rw[<-H.o,List.pairwise_map] at h1;exact h1
   have N:L.length<=1000000:=by
    have h1:(L.map (·.1)).length<=D.length:=by
     rw[H.o];refine Nat.le_trans (List.length_filter_le _ _) ?_;rw[List.length_map];exact Nat.le_refl _
    have d:=G.o.dn.length_le_of_subset (fun n hn=>(M n).1 hn);rw[List.length_map] at h1 d;have:=bs.o;omega
   have aO: ∀f,f∈L.map (·.1)<->((∃x∈l,x.1=f)/\yN f=false):=fun f=>by
    rw[H.o,List.mem_filter,List.mem_map];constructor
    .rintro ⟨⟨n,hn,e⟩,d⟩;obtain⟨x,hx,bx⟩:=List.mem_map.1 ((M n).1 hn);refine⟨⟨x,hx,?_⟩,by simpa using d⟩;rw[<-e,<-bx,BJ Q.o hx]
    .rintro ⟨⟨x,hx,e⟩,d⟩;refine⟨⟨x.1.1,(M _).2 (List.mem_map.2 ⟨x,hx,rfl⟩),by rw[BJ Q.o hx,e]⟩,by rw[d];rfl⟩
   have a7:=ae (fun W (hW:Ext wr W)=>VU L (w.heap.size+1) (.slice B L.length C) W (bM ad.o.own hW (fun _ _ h=>h)) a6 N);have cb:=ae aO;clear M N h0 a1 a6 aO;go_wp2_with fail;refine(a7.o _ (au.refl _ _)).mono ?_;rintro e cc ⟨rfl,bz,ha,an,hF,hu⟩;have R:=ae (ad.o.bn an hF hu);have HAS:Hid (AscK (Prod.fst:Bd->By) (bz.map (·.1))):=ae (by
    unfold AscK at ha⊢;rw[List.pairwise_map];exact ha)
   have bU:Hid (∀f,f∈bz.map (·.1)<->((∃x∈l,x.1=f)/\yN f=false)):=ae (fun f=>by rw[(an.map (·.1)).mem_iff];exact cb.o f);have aH:Hid (Ext w cc):=ae (bw.o.trans' hu (fun j T e=>by have h1:=(ad.o.own.lt j e).1;omega));clear aq A ha an hF hu a7;go_wp2_with fail;go_ret;exact⟨_,_,rfl,R.o.weaken (fun k hk=>⟨by omega,hk.2⟩) (fun k hk=>⟨by omega,hk.2⟩),HAS.o,bU.o,aH.o⟩
  .have F:=mem_left he;obtain⟨cu,bV,bW⟩:=aa.o.name F.1;obtain⟨x,hx,ar⟩: ∃x∈l,(Value.string x.1.1,Value.agg (dY x).toArray)=(e.key,e.val):=by
    have h1:(e.key,e.val)∈es.toList.map (fun e=>(e.key,e.val)):=List.mem_map.2 ⟨e,F.1,rfl⟩;rw[b5.o,List.map_map] at h1;obtain⟨x,hx,d⟩:=List.mem_map.1 h1;exact⟨x,hx,d⟩
   have hk:e.key= .string x.1.1:=by injection ar with h1 _;exact h1.symm
   have av:e.val= .agg (dY x).toArray:=by injection ar with _ h1;exact h1.symm
   have aw:=b6.o x hx;have a8:=b8.o x hx;have ba:=BJ Q.o hx;have bb:w1.heap[w.heap.size]?=some (.mapIter (some b) clock seen clock):=by rcases V with h|h<;>(rw[h];exact aZ.o)
   have bX:w1.heap[b]?=some (.map es clock):=by rcases V with h|h<;>(rw[h];exact aG.o)
   have O:au (fun j=>j=w.heap.size) wr (Go.ChangeMaps.setBlock w1 w.heap.size (.mapIter (some b) clock (seen.push e.born) clock)):=by
    have:=vI w1 w.heap.size (.mapIter (some b) clock (seen.push e.born) clock);rcases V with h|h
    .rw [h] at this⊢;exact this
    .rw [h] at this⊢;exact this.EW
   have ax:=tX (o':= .mapIter (some b) clock (seen.push e.born) clock) bb;rw[hk,av] at A;generalize Go.ChangeMaps.setBlock w1 w.heap.size (.mapIter (some b) clock (seen.push e.born) clock)=I at*;have R:=ae (O.heap aG.o (by have:=bt.o;omega));have bA:=ae ax;have aA:=run_entry_at (P:=Tryz.prog) I w.heap.size b clock seen es clock e ax R.o F.1 br.o;rw[hk,av] at aA;have aq: ∀ty,(Instr.next (.pointer (az w.heap.size)) false ty).run Tryz.prog wr=_:=fun _=>A;have bc:=ae (ad.o.kept O (fun j T _ e=>by omega));have bB:Hid (Ext w I):=ae (bw.o.trans' O (fun j T e=>by omega));have bC:=ae (G.o.next aa.o Q.o br.o F.1 F.2 hk);have bD:=ae (left_shrinks es seen e he);have bE:Hid (w.heap.size+1<=I.heap.size):=ae (Nat.le_trans ca.o O.size);have N:L.length<=1000000:=by
    have h1:(L.map (·.1)).length<=D.length:=by
     rw[H.o];refine Nat.le_trans (List.length_filter_le _ _) ?_;rw[List.length_map];exact Nat.le_refl _
    have d:=G.o.dn.length_le_of_subset (G.o.sub' aa.o);rw[List.length_map] at h1 d;have:=bs.o;omega
   have bG:=ae N;clear F hk av bb bX O ax he V ar bV bW N;obtain⟨⟨nm,so,t⟩,J,cd,K⟩:=x;obtain rfl:cd=t.kids.length:=by
    obtain⟨a,c,h⟩:=aw.shape;injection h
   have bd:=ae aw;have bY:=ae a8;have aI:=ae ba;clear aw a8 ba;simp only[dY,wJ] at A aA bd aI;have bf:=aj I (dR nm so t.name t.sort J t.kids.length K);have bH:=ae bf;have bI:=ae (bB.o.alloc (dR nm so t.name t.sort J t.kids.length K));have aB:=fun W=>amV t J K nm so W;dsimp only[tV] at aB;have aC:=ae aB;obtain⟨bJ,aD⟩:=ay (yN (nm,so,t))
   have bK:=ae aD;have bL:Yc t nm so=bJ:=aD;rw[bL] at aC;have bg:=ae ((uR I).alloc (dR nm so t.name t.sort J t.kids.length K));clear bf aB aD bL;go_wp2_with(fail)
   refine(aC.o _).mono ?_;rintro bx q ⟨rfl,X⟩;have af:=ae (bI.o.trans X);have ah:=ae (bg.o.trans X);have U:=ae (X.heap bH.o id);have bN:=ae (ah.o.heap bA.o id);have bh:=ae (ah.o.heap R.o id);have Y:=ae (bc.o.kept ah.o (fun _ _ _ h=>h));have ai:Hid (w.heap.size+1<=q.heap.size):=ae (Nat.le_trans bE.o ah.o.size);clear X aq A aA aC bc R bA bB bI bH bg bE;cases bJ with
   |true=>
    have aE:Hid (L.map (·.1)=((D++[nm]).map fun n=>(Fe l n).1).filter fun f=>!yN f):=ae (by
     rw[List.map_append,List.filter_append,<-H.o,List.map_singleton,aI.o];simp[bK.o])
    go_wp2_with fail;have aF:=bD.o;go_roundg (leftOf es (seen.push e.born)).size;case measure=>exact aF
    case rel=>exact⟨_,_,L,D++[nm],_,rfl,rfl,Y,bN,bh,af,ai,bC,aE⟩
   |false=>
    have b0:=ag U.o 0 (.string nm) rfl;have bO:=ag U.o 1 (.string so) rfl;have bP:=ag U.o 2 (.string t.name) rfl;have bQ:=ag U.o 3 (.string t.sort) rfl;have bR:=ag U.o 4 (.slice J t.kids.length K) rfl;obtain⟨cv,bj⟩:=ay I.heap.size;rw[bj] at b0 bO bP bQ bR⊢;clear bj;have aJ:=ae (fun W (hW:Ext q W)=>Ff t _ S W ⟨J,K,rfl,bd.o.ext (af.o.trans hW)⟩ (fun j T=>aP (b7.o j T) (Nat.le_trans af.o.size hW.size)) bY.o);dsimp only[tV] at aJ;have cf:Hid (Ext q q):=ae (au.refl _ _);obtain⟨cg,hi,bk,bl,bm⟩:=info_parts Qz;go_wp2_with fail;go_region_law (first
     |(refine d_ _ (.tmp 20) (.tmp 29) 27 rfl (w.heap.size+1) 93 cg (.agg #[.string ⟨#[]⟩,.string ⟨#[]⟩,.string ⟨#[]⟩,.string ⟨#[]⟩,.slice none 0 0]) 5 88 Tryz.underlying27 hi bk bl bm rfl (by decide) _ _ _ rfl ch.o _ 1 1 [Value.string nm,.string so,.string t.name,.string t.sort,.slice i t.kids.length p] rfl rfl cj.o ck.o aK.o.1 aK.o.2.1 aK.o.2.2 ?_;intro cw ab aL;obtain⟨cm,cn,bZ⟩:=bF aL.own;subst bZ;have bS:=ae aL;clear aL)
     |(go_simp;refine(aJ.o q.drew cf.o.drew).mono ?_;rintro cx E ⟨r,Bx,rfl,aM,bo,bp⟩;obtain⟨i,p,cp⟩:=aU.shape aM;subst cp;have z:Hid (Ext q E):=ae (((uR q).drewN' 1).trans bp);have cq:=ae aM.read;have cr:Hid (∀j,Bx j->q.heap.size<=j/\j<E.heap.size):=ae bo;have ch:Hid ((E.alloc (dR nm so t.name t.sort i t.kids.length p)).ownsRow (w.heap.size+1) 93 5 (.slice B L.length C) L.length (L.flatMap dY)):=ae ((bM Y.o.own z.o (fun _ _ h=>h)).alloc _);have cj:Hid (∀(j:Nat) (u:Value),[Value.string nm,.string so,.string t.name,.string t.sort,.slice i t.kids.length p][j]?=some u->(E.alloc (dR nm so t.name t.sort i t.kids.length p)).cell? ((⟨E.heap.size,0,none⟩:Addr).add j)=some u):=ae (amW E _ _ _ _ _ 93);have ck:Hid (∀u∈[Value.string nm,.string so,.string t.name,.string t.sort,.slice i t.kids.length p],u.oneCell'=true):=ae (fun u hu=>by simp at hu;rcases hu with h|h|h|h|h<;>(subst h;rfl));have aK:Hid (L.length+1<=maxLen/\(L.length+1)*88<=140737488355328/\w.heap.size+1<=(E.alloc (dR nm so t.name t.sort i t.kids.length p)).heap.size):=ae ⟨by unfold maxLen;have:=bG.o;omega,by have:=bG.o;omega,by have h1:=z.o.size;have d:=ai.o;simp;omega⟩;have d0:=z.o.cell b0 id;have d1:=z.o.cell bO id;have d2:=z.o.cell bP id;have d3:=z.o.cell bQ id;have d4:=z.o.cell bR id;clear aM bo bp aJ))
    all_goals
     go_wp2_with fail;try go_frame
     have hlen:(L++[(((nm,so,t),i,t.kids.length,p):Be)]).length=L.length+1:=by simp
     have bq:=ae (Y.o.grow ai.o z.o (x:=((nm,so,t),i,t.kids.length,p)) cq.o cr.o bS.o);have al:Hid (au (fun j=>(Value.slice B L.length C).ownBlock=some j) q ab):=ae (((z.o.alloc (dR nm so t.name t.sort i t.kids.length p)).mono (fun _ _ x=>x.elim)).trans bS.o.upd);have Z: ∀j,(Value.slice B L.length C).ownBlock=some j->w.heap.size+1<=j:=fun j e=>(Y.o.own.lt j e).1;have aH:Hid (Ext w ab):=ae (af.o.trans' al.o (fun j T e=>by have h1:=Z j e;omega));have b1:=ae (al.o.heap bN.o (fun e=>by have h1:=Z _ e;omega));have b2:=ae (al.o.heap bh.o (fun e=>by have h1:=Z _ e;have:=bt.o;omega));have ct:Hid (w.heap.size+1<=ab.heap.size):=ae (Nat.le_trans ai.o al.o.size);have aE:Hid ((L++[(((nm,so,t),i,t.kids.length,p):Be)]).map (·.1)=((D++[nm]).map fun n=>(Fe l n).1).filter fun f=>!yN f):=ae (by
      rw[List.map_append,List.map_append,List.filter_append,<-H.o,List.map_singleton,List.map_singleton,aI.o];simp[bK.o])
     rw[<-hlen] at bq⊢;have aF:=bD.o;clear Z hi bk bl bm;go_roundg (leftOf es (seen.push e.born)).size;case measure=>exact aF
     case rel=>exact⟨cm,cn,_,D++[nm],_,rfl,rfl,bq,b1,b2,aH,ct,bC,aE⟩
def rf:List Be->Be->List Be
 |[],x=>[x]
 |y::l,x=>if y.1.1=x.1.1 then x::l else y::rf l x
theorem Fg: ∀(l:List Be) (x:Be),(rf l x).map (fun x=>(x.1.1,Value.agg (dY x).toArray))=qj (l.map fun x=>(x.1.1,Value.agg (dY x).toArray)) x.1.1 (.agg (dY x).toArray)
 |[],x=>rfl
 |y::l,x=>by
  unfold rf;rw[List.map_cons];unfold qj;by_cases h:y.1.1=x.1.1
  .rw [if_pos h,if_pos h,List.map_cons]
  .rw [if_neg h,if_neg h,List.map_cons,Fg l x]
theorem Ja: ∀{l:List Be} {x:Be} (hd:(l.map fun x=>x.1.1).Nodup) (z:Be),z∈rf l x<->z=x\/(z∈l/\z.1.1≠x.1.1)
 |[],x,_,z=>by unfold rf;simp
 |y::l,x,hd,z=>by
  rw[List.map_cons,List.nodup_cons] at hd;unfold rf;by_cases h:y.1.1=x.1.1
  .rw [if_pos h,List.mem_cons,List.mem_cons];constructor
   .rintro (e|e)
    .exact .inl e
    .exact .inr ⟨.inr e,fun a=>hd.1 (by rw[h,<-a];exact List.mem_map.2 ⟨z,e,rfl⟩)⟩
   .rintro (e|⟨e|e,a⟩)
    .exact .inl e
    .subst e;exact absurd h a
    .exact .inr e
  .rw [if_neg h,List.mem_cons,List.mem_cons,Ja hd.2 z];constructor
   .rintro (e|e|⟨e,a⟩)
    .subst e;exact .inr ⟨.inl rfl,h⟩
    .exact .inl e
    .exact .inr ⟨.inr e,a⟩
   .rintro (e|⟨e|e,a⟩)
    .exact .inr (.inl e)
    .exact .inl e
    .exact .inr (.inr ⟨e,a⟩)
theorem tZ: ∀{l:List Be} {x:Be},x.1.1∈(l.map fun x=>x.1.1)->(rf l x).map (fun x=>x.1.1)=l.map fun x=>x.1.1
 |y::l,x,h=>by
  unfold rf;by_cases e:y.1.1=x.1.1
  .rw [if_pos e,List.map_cons,List.map_cons,e]
  .rw [if_neg e,List.map_cons,List.map_cons,tZ (by
    rw[List.map_cons,List.mem_cons] at h;rcases h with h|h
    .exact absurd h.symm e
    .exact h)]
theorem BK: ∀{l:List Be} {x:Be},x.1.1∉(l.map fun x=>x.1.1)->(rf l x).map (fun x=>x.1.1)=(l.map fun x=>x.1.1)++[x.1.1]
 |[],x,h=>rfl
 |y::l,x,h=>by
  rw[List.map_cons,List.mem_cons,not_or] at h;unfold rf;rw[if_neg (fun e=>h.1 e.symm),List.map_cons,List.map_cons,BK h.2];rfl
theorem VW {l:List Be} {x:Be} (hd:(l.map fun x=>x.1.1).Nodup):((rf l x).map fun x=>x.1.1).Nodup:=by
 by_cases h:x.1.1∈(l.map fun x=>x.1.1)
 .rw [tZ h];exact hd
 .rw [BK h,List.nodup_append];exact⟨hd,by simp,fun a ha b hb e=>by rw[List.mem_singleton] at hb;subst hb;subst e;exact h ha⟩
def AQ (v:Vd):Be:=((v.1,v.2,.mk v.1 v.2 []),none,0,0)
def nJ (vs:List Vd):List Be:=vs.foldl (fun l v=>rf l (AQ v)) []
theorem NT (vs:List Vd) (v:Vd):nJ (vs++[v])=rf (nJ vs) (AQ v):=by unfold nJ;rw[List.foldl_append];rfl
theorem Ye: ∀(vs:List Vd),(∀v∈vs,∀u∈vs,v.1=u.1->v=u)->((nJ vs).map fun x=>x.1.1).Nodup/\∀z,z∈nJ vs<->∃v∈vs,z=AQ v:=by
 intro vs
 suffices H: ∀n,∀vs:List Vd,vs.length=n->(∀v∈vs,∀u∈vs,v.1=u.1->v=u)->((nJ vs).map fun x=>x.1.1).Nodup/\∀z,z∈nJ vs<->∃v∈vs,z=AQ v from H _ vs rfl
 intro n
 induction n with
 |zero=>
  intro vs h _;rw[List.eq_nil_of_length_eq_zero h];exact⟨List.nodup_nil,fun z=>by unfold nJ;simp⟩
 |succ n d=>
  intro vs h hc;obtain⟨ws,v,rfl⟩: ∃ws v,vs=ws++[v]:=⟨vs.dropLast,vs.getLast (by intro e;rw[e] at h;cases h),(List.dropLast_concat_getLast _).symm⟩
  obtain⟨h1,c⟩:=d ws (by simpa using h) (fun a ha b hb=>hc a (List.mem_append_left _ ha) b (List.mem_append_left _ hb));rw[NT];refine⟨VW h1,fun z=>?_⟩;rw[Ja h1];constructor
  .rintro (e|⟨e,i⟩)
   .exact ⟨v,List.mem_append_right _ (List.mem_singleton.2 rfl),e⟩
   .obtain ⟨u,hu,g⟩:=(c z).1 e;exact⟨u,List.mem_append_left _ hu,g⟩
  .rintro ⟨u,hu,e⟩;by_cases he:u.1=v.1
   .have:=hc u hu v (List.mem_append_right _ (List.mem_singleton.2 rfl)) he;rw[this] at e;exact .inl e
   .rcases List.mem_append.1 hu with hu|hu
    .exact .inr ⟨(c z).2 ⟨u,hu,e⟩,by rw[e];exact he⟩
    .rw [List.mem_singleton] at hu;rw[hu] at he;exact absurd rfl he
theorem Yf {es a:Array MapEntry} (h:a.toList.map (·.born)=es.toList.map (·.born)) (seen:Array Nat):(leftOf a seen).size=(leftOf es seen).size:=by
 have key: ∀es:Array MapEntry,(leftOf es seen).size=((es.toList.map (·.born)).filter fun b=>!seen.contains b).length:=fun es=>by
  unfold leftOf;rw[<-Array.length_toList,Array.toList_filter,List.filter_map,List.length_map];rfl
 rw[key,key,h]
theorem aaj {es a:List MapEntry} (h1:es.map (·.key)=a.map (·.key)) (b:es.map (·.born)=a.map (·.born)):es.map (fun e=>(e.key,e.born))=a.map (fun e=>(e.key,e.born)):=by
 have h: ∀es:List MapEntry,es.map (fun e=>(e.key,e.born))=(es.map (·.key)).zip (es.map (·.born)):=fun es=>by
  induction es with
  |nil=>rfl
  |cons e es c=>simp only[List.map_cons,List.zip_cons_cons,c]
 rw[h,h,h1,b]
theorem eX.upd {P:Program} {et t kt:TypeId} (K:JX P kt (fun s:ByteArray=>Value.string s)) (z:P.underlying t=some (.map kt et)) {w:World} {b:Nat} {es:Array MapEntry} {cl:Nat} {l:List (By×Value)} (h1:w.heap[b]?=some (.map es cl)) (c:es.toList.map (fun e=>(e.key,e.val))=l.map (fun p=>(Value.string p.1,p.2))) (k:By) (v:Value) (hk:k∈l.map (·.1)):
  ∃w' d,(Instr.mapUpdate t (.map (some b)) (.string k) v).run P w= .ok () w'/\w'.heap[b]?=some (.map d cl)/\d.toList.map (fun e=>(e.key,e.val))=(qj l k v).map (fun p=>(Value.string p.1,p.2))/\d.toList.map (·.born)=es.toList.map (·.born)/\au (fun j=>j=b) w w':=by
 have hf:=K.find k es.toList l w c;have hc:=K.check false k w;have n:=(Array.getElem?_eq_some_iff.1 h1).1;have A: ∀o,au (fun j=>j=b) w {w with heap:=w.heap.setIfInBounds b o}:=fun o=>
  ⟨rfl,rfl,rfl,by simp,fun i hi hF=>by simp[Ne.symm (show i≠b from hF)]⟩
 rw[Qx];generalize hx:(l.findIdx? fun p=>decide (p.1=k))=x at*;cases x with
 |none=>
  rw[List.findIdx?_eq_none_iff] at hx;obtain⟨p,hp,e⟩:=List.mem_map.1 hk;have:=hx p hp;rw[e] at this;simp at this
 |some i=>
  have hi:i<l.length:=by
   rw[List.findIdx?_eq_some_iff_getElem] at hx;exact hx.1
  have hlen:es.size=l.length:=by
   have:=congrArg List.length c;simpa using this
  have q:(l[i]'hi).1=k:=by
   rw[List.findIdx?_eq_some_iff_getElem] at hx;simpa using hx.2.1
  have r:(es[i]'(by omega)).key= .string k:=by
   have a:(es.toList.map (fun e=>(e.key,e.val)))[i]?=(l.map (fun p=>(Value.string p.1,p.2)))[i]?:=by rw[c]
   rw[List.getElem?_map,List.getElem?_map,Array.getElem?_toList,Array.getElem?_eq_getElem (show i<es.size by omega),List.getElem?_eq_getElem hi] at a;simp only[Option.map_some] at a;have g:=congrArg Prod.fst (Option.some.inj a);simp only at g;rw[g,q]
  have y:(Instr.keyThatStays (((es[i]?).map (·.key)).getD (.string k)) (.string k)).run P w= .ok (.string k) w:=by
   rw[Array.getElem?_eq_getElem (show i<es.size by omega)];simp only[Option.map_some,Option.getD_some,r];unfold Instr.keyThatStays;rw[if_pos (K.same k)];rfl
  refine⟨_,es.modify i fun e=>{e with key:= .string k,val:=v},by simp[Instr.mapUpdate,run_underlying z,MapKept.run_getObj_map h1,hc,hf,y,MapKept.run_setObj_map _ h1,Result.andThen];rfl,by simp[n],?_,?_,A _⟩
  .rw [Array.toList_modify];apply List.ext_getElem?;intro j;have a:(es.toList.map (fun e=>(e.key,e.val)))[j]?=(l.map (fun p=>(Value.string p.1,p.2)))[j]?:=by rw[c]
   simp only[List.getElem?_map,List.getElem?_modify,List.getElem?_set] at a⊢;by_cases e:i=j
   .subst e;rw[if_pos rfl,if_pos hi];rw[Array.getElem?_toList,Array.getElem?_eq_getElem (show i<es.size by omega)];simp
   .rw [if_neg e];cases h:es.toList[j]? with
    |none=>rw[h] at a;simpa using a
    |some u=>rw[h] at a;simpa[e] using a
  .rw [Array.toList_modify];apply List.ext_getElem?;intro j;simp only[List.getElem?_map,List.getElem?_modify];cases es.toList[j]? with
   |none=>rfl
   |some u=>simp only[Option.map_some];split<;>rfl
theorem Ur.kept {T:List Nr} {ad:Nat->Nat×Nat} {S F:Nat->Prop} {CT UT:TypeId} {bv bn ub:Nat} {bk:List Nat} {st:St} {w w':World} (h:Ur T ad S CT UT bv bn ub bk st w) (hu:au F w w') (hF: ∀k,(Fb bv bn bk k\/S k\/k=ub)->¬F k):Ur T ad S CT UT bv bn ub bk st w':=
 ⟨h.us.ext hu (fun k hk=>hF k (.inl hk)),h.nd.kept hu (fun k hk=>hF k (.inr (.inl hk))),hu.heap h.u (hF _ (.inr (.inr rfl))),h.un,fun k hk=>⟨aP (h.sn k hk).1 hu.size,(h.sn k hk).2⟩⟩
theorem gz.outside {T:List Nr} {ad:Nat->Nat×Nat} {S F:Nat->Prop} {CT UT:TypeId} {bv bn ub:Nat} {bk bk':List Nat} {st':St} {w w' w'':World} (h:gz T ad S CT UT bv bn ub bk bk' st' w w') (hu:au F w' w'') (hF: ∀k,(Fb bv bn bk' k\/S k\/k=ub)->¬F k) (hl: ∀j,j<w.heap.size->¬F j):gz T ad S CT UT bv bn ub bk bk' st' w w'':=
 ⟨Ur.kept h.ur hu hF,h.upd.trans' hu (fun j a hf=>absurd hf (hl j a)),h.pre,h.new⟩
theorem ad8 (l:List Vd) (k:Nat) (h:k<l.length):l.drop k=vg l k::l.drop (k+1):=by
 rw[List.drop_eq_getElem_cons h];unfold vg;rw[gZ h];rfl
theorem GR (l:List Vd) (k:Nat) (h:k<l.length):l.take (k+1)=l.take k++[vg l k]:=by
 rw[List.take_add_one];unfold vg;rw[List.getD_eq_getElem?_getD,List.getElem?_eq_getElem h];rfl
def QA (T:List Nr) (F:Nat):St->List Vd->Option (St×Bool)
 |st,[]=>some (st,true)
 |st,v::vs=>match uk F st v.1 v.2 with
  |none=>none
  |some (st1,c)=>match Io T F st1 c with
   |none=>none
   |some (st2,false)=>some (st2,false)
   |some (st2,true)=>QA T F st2 vs
def pJ (T:List Nr) (F:Nat) (vs:List Vd):Option (Option St):=match NU T F ⟨[],[],[]⟩ 0 1 with
 |none=>none
 |some (_,false)=>some none
 |some (st1,true)=>match QA T F st1 vs with
  |none=>none
  |some (_,false)=>some none
  |some (st2,true)=>match kF T F st2 0 with
   |none=>none
   |some (h_,c)=>match Io T F h_ c with
    |none=>none
    |some (_,false)=>some none
    |some (a,true)=>some (some a)
theorem yR {T:List Nr} {ad:Nat->Nat×Nat} {S:Nat->Prop} (F:Nat) (a b:Tm) (bd bf:Option Addr) (ac bg:Nat) (w:World) (bw:dI w)
  (hA:bQ (fun k=>k<w.heap.size) w a (tV a (.slice bd a.kids.length ac))) (e8:bQ (fun k=>k<w.heap.size) w b (tV b (.slice bf b.kids.length bg))) (eb:a.size<=100000) (ec:b.size<=100000) (ha:wf aC a=true) (hb:wf aC b=true)
  (hc: ∀v∈(aY a++aY b),∀u∈(aY a++aY b),v.1=u.1->v=u) (ed: ∀v∈(aY a++aY b),v.2≠ai) (ee:ad 0=(w.heap.size,0)) (ef:ad 1=(w.heap.size+1,0))
  (e9: ∀W,Ext w W->W.heap[w.heap.size]?=some (tO a bd ac)->W.heap[w.heap.size+1]?=some (tO b bf bg)->Fj T ad S W) (hS: ∀k,S k->k<w.heap.size+2)
  (eg: ∀(i:Nat) (r:Nr),T[i]?=some r->r.ks.length<=1000000) (R:Option St) (hR:pJ T F (aY a++aY b)=some R)
  (J:Vd->Tm) (bx: ∀st,R=some st->∀v∈(aY a++aY b),∃c C,(tq st.vs v.1).isSome=true/\uk F st v.1 v.2=some (st,c)/\st.cs[c]?=some C/\C.sz<=1000/\C.dp<=60/\QB T st F c=some (J v)/\(J v).size<=100000):
  Calls Tryz.prog 17 #[tV a (.slice bd a.kids.length ac),tV b (.slice bf b.kids.length bg)] w fun e w'=>((R=none/\e= .returned (.tuple #[.slice none 0 0,.int .i64 12]))\/(R≠none/\∃r L,e= .returned (.tuple #[r,.int .i64 0])/\jb (fun k=>w.heap.size<=k/\k<w'.heap.size) (fun k=>w.heap.size<=k/\k<w'.heap.size) w' r L/\AscK (Prod.fst:Bd->By) L/\(∀f,f∈L<->((∃v∈(aY a++aY b),f=(v.1,v.2,J v))/\yN f=false))))/\Ext w w':=by
 have fa:=ae hA;have fc:=ae e8;have hf:=ae bw;have dk:=ae hc;have cu:=ae ed;have fe:=ae bx;have cv:=ae eg;have ff:=ae (And.intro eb ec);have fg:=ae (And.intro ha hb);have bN:=ae hS;have gw:=ae e9;have cM:=ae (And.intro ee ef);have fM:=ae hR;have cN:=ae (fun W (hW:Ext w W)=>aak a b _ _ W (aT bw hW) ((fa.o.ext hW).weaken (bW hW)) ((fc.o.ext hW).weaken (bW hW)) (by omega) (by omega) ha hb (fun v hv u hu e=>by rw[hc v (List.mem_append_left _ hv) u (List.mem_append_right _ hu) e]));have cw:=ae (fun W (hW:Ext w W)=>uz a _ W (aT bw hW) ((fa.o.ext hW).weaken (bW hW)) (by omega));have cx:=ae (fun W (hW:Ext w W)=>uz b _ W (aT bw hW) ((fc.o.ext hW).weaken (bW hW)) (by omega));rw[rq ha] at cw;rw[rq hb] at cx;dsimp only[tV] at cN cw cx⊢;have fh:=((uR w).alloc (tO a bd ac)).alloc (tO b bf bg);have cO:=ak (aj w (tO a bd ac)) (tO b bf bg);have cP:=alloc_at (w.alloc (tO a bd ac)) (tO b bf bg) (n:=w.heap.size+1) (by simp);have bA:w.heap.size+2<=((w.alloc (tO a bd ac)).alloc (tO b bf bg)).heap.size:=by simp
 clear hA e8 bw hc ed bx eg eb ec ha hb hS e9 ee ef hR;obtain⟨dm,dn,dq⟩:=ah cO;obtain⟨dr,ds,dt⟩:=ah cP;have du:=ae fh;have fi:=ae cO;have fj:=ae cP;have eh:=ae bA;clear fh cO cP bA;go_enter Tryz.func17,Tryz.ntmps17;go_wp2_with fail;refine(cN.o _ du.o).mono ?_;rintro e w3 ⟨rfl,bB⟩;have fk:=ae (du.o.trans bB);have fl:Hid (w.heap.size+2<=w3.heap.size):=ae (Nat.le_trans eh.o bB.size);have fm:=ae (bB.heap fi.o id);have fo:=ae (bB.heap fj.o id);clear bB dm dn dq dr ds dt fi fj du cN eh;obtain⟨bv,cQ⟩:=ay w3.heap.size;obtain⟨bn,bm⟩:=ay (bv+1);obtain⟨ub,fN⟩:=ay (bn+1);have bC:=(((uR w3).alloc (.map #[] 0)).alloc (.map #[] 0)).alloc (.cells #[.map (some bv),.map (some bn)] 108);have ei:eX (fun s:ByteArray=>Value.string s) (((w3.alloc (.map #[] 0)).alloc (.map #[] 0)).alloc (.cells #[.map (some bv),.map (some bn)] 108)) bv []:=by
  have:=eX.made (fun s:ByteArray=>Value.string s) w3;rw[cQ] at this;exact this.ext (((uR _).alloc _).alloc _)
 have ej:eX jX (((w3.alloc (.map #[] 0)).alloc (.map #[] 0)).alloc (.cells #[.map (some bv),.map (some bn)] 108)) bn []:=by
  have:=eX.made jX (w3.alloc (.map #[] 0));rw[show(w3.alloc (.map #[] 0)).heap.size=bn by simp;omega] at this;exact this.ext ((uR _).alloc _)
 have ek:=alloc_at ((w3.alloc (.map #[] 0)).alloc (.map #[] 0)) (.cells #[.map (some bv),.map (some bn)] 108) (n:=ub) (by simp;omega);have fp:(((w3.alloc (.map #[] 0)).alloc (.map #[] 0)).alloc (.cells #[.map (some bv),.map (some bn)] 108)).heap.size=bv+3:=by simp;omega
 have cR:= @run_makeMap Tryz.prog;go_wp2_with fail;generalize (((w3.alloc (.map #[] 0)).alloc (.map #[] 0)).alloc (.cells #[.map (some bv),.map (some bn)] 108))=G at*;have aw:Hid (w.heap.size+2<=bv/\bn=bv+1/\ub=bv+2/\G.heap.size=bv+3):=ae ⟨by rw[<-cQ];exact fl.o,bm.symm,by omega,fp⟩;have gx:Hid (Ext w3 G):=ae bC;have el:Hid (Ext w G):=ae (fk.o.trans bC);have dv:=ae (bC.heap fm.o id);have dw:=ae (bC.heap fo.o id);have gy:Hid (Ur T ad S 121 108 bv bn ub [] ⟨[],[],[]⟩ G):=ae ⟨⟨ei,ej,rfl,by simp;omega,fun c x h=>by simp at h,fun e h=>(by cases h),fun e h=>(by cases h),fun x h=>(by cases h)⟩,
  gw.o _ el.o dv.o dw.o,ek,(by rintro(h|h|h)<;>first|omega|cases h),fun k hk=>⟨by have:=bN.o k hk;have:=aw.o;omega,by rintro(h|h|h)<;>first|(have:=bN.o k hk;have:=aw.o;omega)|cases h⟩⟩
 have bO:Hid (∀W,au (Fb bv bn []) G W->Ext w W):=ae (fun W hW=>el.o.trans' hW (fun j A h=>by have:=aw.o;rcases h with h|h|h<;>first|omega|cases h));clear ei ej ek fp cQ bm fN bC cR fm fo gx fl fk;have hR:=fM.o;unfold pJ at hR;cases ch:NU T F ⟨[],[],[]⟩ 0 1 with
 |none=>rw[ch] at hR;cases hR
 |some q=>
 obtain⟨st1,en⟩:=q;rw[ch] at hR;have dx:=ae (ad9 cv.o F [] ⟨[],[],[]⟩ st1 G 0 1 en gy.o ch);rw[cM.o.1,cM.o.2] at dx;have eo:=ae hR;clear hR ch;refine dx.o.mono ?_;rintro e cy ⟨rfl,ep,N⟩;have bP:=ae (bO.o _ N.upd);have cz:=ae N;clear N dx;have hR:=eo.o;cases en with
 |false=>
  simp only at hR;have bR:R=none:=by injection hR with h;exact h.symm
  subst bR;go_wp2_with fail;go_ret2;exact⟨rfl,bP.o⟩
 |true=>
 simp only at hR;have cS:=ae hR;have cT: ∀k,k<w.heap.size+2->¬Fb bv bn [] k:=fun k h1 h=>by have:=aw.o;rcases h with h|h|h<;>first|omega|cases h
 have dy:=ae (cz.o.upd.heap dv.o (cT _ (by omega)));have fq:=ae (cz.o.upd.heap dw.o (cT _ (by omega)));clear cT dv dw eo hR;obtain⟨dm,dn,dq⟩:=ah dy.o;go_wp2_with fail;refine(cw.o _ bP.o).mono ?_;rintro e bh ⟨r1,rfl,cU,av⟩;have fr:=ae (bP.o.trans av);have fs:=ae (av.heap dy.o id);have dz:=ae (av.heap fq.o id);have er:=ae (cz.o.ext av);have ft:=ae cU;obtain⟨bS,c1,fO⟩:=dM.shape cU;subst fO;clear av dm dn dq dy fq cz cU cw;obtain⟨dr,ds,dt⟩:=ah dz.o;go_wp2_with fail;refine(cx.o _ fr.o).mono ?_;rintro e aa ⟨r2,rfl,ar,bo⟩;have fu:=ae (fr.o.trans bo);have hg:=ae (bo.heap fs.o id);have hB:=ae (bo.heap dz.o id);have cA:=ae (er.o.ext bo);have et:=ae (dM.ext ft.o bo);have eu:=ae ar;obtain⟨bT,c2,fP⟩:=dM.shape ar;subst fP;clear bo dr ds dt fs dz er ar cx ft;have cR:= @run_makeMap Tryz.prog;have fQ:(aY a).length<=100000:=Nat.le_trans (oU fg.o.1) ff.o.1;have fR:(aY b).length<=100000:=Nat.le_trans (oU fg.o.2) ff.o.2;have cB:=((uR aa).alloc (.map #[] 0)).alloc (BN bS ((aY a).length) c1 bT ((aY b).length) c2);have cV:=alloc_at (aa.alloc (.map #[] 0)) (BN bS ((aY a).length) c1 bT ((aY b).length) c2) (n:=aa.heap.size+1) (by simp);have ev:=aah (aY a) (aY b) _ _ (fun _=>True) (aa.heap.size+1) _ (aB.weaken (dM.ext et.o cB) (fun _ _=>trivial)) (aB.weaken (dM.ext eu.o cB) (fun _ _=>trivial)) (ag cV 0 _ rfl) (ag cV 1 _ rfl) (by omega) (by omega);have fv:=ae ev;have ew:eX (fun s:ByteArray=>Value.string s) ((aa.alloc (.map #[] 0)).alloc (BN bS ((aY a).length) c1 bT ((aY b).length) c2)) aa.heap.size []:=(eX.made _ aa).ext ((uR _).alloc _);have ey:((aa.alloc (.map #[] 0)).alloc (BN bS ((aY a).length) c1 bT ((aY b).length) c2)).heap.size=aa.heap.size+2:=by simp
 have dA:=ae cB;have ez:=ae ew;have dB:=ae ey;have eA:Hid (∀k,Fb bv bn ep k->k<aa.heap.size):=ae (fun k hk=>cA.o.ur.us.lt k hk);have fw:Hid (G.heap.size<=aa.heap.size):=ae cA.o.upd.size;obtain⟨VL,cC⟩:=ay (aY a++aY b);have hh:VL.length<=200000:=by rw[<-cC,List.length_append];omega
 clear fQ fR cB cV ev ew ey;go_wp2_with fail;generalize (aa.alloc (.map #[] 0)).alloc (BN bS ((aY a).length) c1 bT ((aY b).length) c2)=hD at*;obtain⟨tb,bp⟩:=ay aa.heap.size;refine fv.o.mono ?_;rintro e cD ⟨gA,rfl,cW,aR⟩;rw[cC] at cW cS dk cu fe;have gB:=ae cC;have eB:=ae (ez.o.ext aR);have gC:=ae ((fu.o.trans dA.o).trans aR);have eC:=ae ((cA.o.ext dA.o).ext aR);obtain⟨U,eD⟩:=ay cD.heap.size;have cX:Hid (dM (fun j=>tb<j/\j<U) cD gA VL):=ae (aB.weaken cW (fun k hk=>⟨by have:=dB.o;omega,by rw[<-eD];exact hk.2⟩));have aJ:Hid (G.heap.size<=tb/\tb<U/\U<=cD.heap.size):=ae ⟨by have:=fw.o;omega,by have h1:=dB.o;have d:=aR.size;omega,by omega⟩;have eE:Hid (∀k,tb<=k->k<U->¬Fb bv bn ep k):=ae (fun k h1 d h=>by have:=eA.o k h;omega);obtain⟨gD,c3,cY⟩:=dM.shape cX.o;subst cY;have eF:Hid (eX (fun s:ByteArray=>Value.string s) cD tb ((nJ (VL.take 0)).map fun x=>(x.1.1,Value.agg (dY x).toArray))):=ae (by rw[<-bp];exact eB.o);have hR:=cS.o;cases E:QA T F st1 VL with
 |none=>rw[E] at hR;cases hR
 |some q=>
 obtain⟨fx,eG⟩:=q;rw[E] at hR;have eH:=ae hR;have eI:Hid (QA T F st1 (VL.drop 0)=some (fx,eG)):=ae E;rw[bp];clear aR eD bp cC cW dA fv ez eB et eu cA fu cS hR E eA fw dB cR;go_wp2_with fail;go_loopg [50] VL.length (fun gk gE wr=> ∃(k:Nat) (bD:St) (bU:List Nat),gE= .int .i64 (k:Int)/\gk=VL.length-k/\k<=VL.length/\Hid (gz T ad S 121 108 bv bn ub [] bU bD G wr)/\Hid (QA T F bD (VL.drop k)=some (fx,eG))/\Hid (∀k,tb<=k->k<U->¬Fb bv bn bU k)/\Hid (dM (fun j=>tb<j/\j<U) wr (.slice gD VL.length c3) VL)/\Hid (eX (fun s:ByteArray=>Value.string s) wr tb ((nJ (VL.take k)).map fun x=>(x.1.1,Value.agg (dY x).toArray)))/\Hid (U<=wr.heap.size));case atStart=>exact⟨0,_,_,rfl,rfl,Nat.zero_le _,eC,eI,eE,cX,eF,ae aJ.o.2.2⟩
 case round=>
  clear eC eI eE cX eF gC;obtain⟨k,bD,bU,rfl,rfl,hk,V,cZ,aA,c0,dD,bV⟩:=hrel;have bP:=ae (bO.o _ V.o.upd);by_cases aE:k<VL.length
  .have dE:Hid (∀k,Fb bv bn bU k->k<wr.heap.size):=ae (fun k hk=>V.o.ur.us.lt k hk);obtain⟨g,off,cY,eJ⟩:=dM.at_ c0.o (by omega);subst cY;obtain⟨dG,dH⟩:=eJ k aE;have an:=yS aE;have c4:=GR VL k aE;have E:=cZ.o;rw[ad8 VL k aE] at E;obtain⟨v,hv⟩:=ay (vg VL k);rw[hv] at dG dH an c4 E;obtain⟨nm,so⟩:=v;simp only at dG dH;have fS:Hid (so≠ai):=ae (cu.o _ an);unfold QA at E;simp only at E;cases aD:uk F bD nm so with
   |none=>rw[aD] at E;cases E
   |some q=>
   obtain⟨dW,c⟩:=q;rw[aD] at E;simp only at E;cases aF:Io T F dW c with
   |none=>rw[aF] at E;cases E
   |some q=>
   obtain⟨dX,bj⟩:=q;rw[aF] at E;have fT:=ae E;have c5:=ae aF;have gF:=ae c4;have c6:=((uR wr).alloc (dC nm so)).alloc (af nm so none 0 0);have bX:=ak (aj wr (dC nm so)) (af nm so none 0 0);have aS:=alloc_at (wr.alloc (dC nm so)) (af nm so none 0 0) (n:=wr.heap.size+1) (by simp);have eK:((wr.alloc (dC nm so)).alloc (af nm so none 0 0)).heap.size=wr.heap.size+2:=by simp
   have cE:=ae (V.o.ext c6);have ab:=ae (agx F c (wr.heap.size+1) 0 nm so none 0 0 cE.o.ur (ag aS 0 _ rfl) (ag aS 1 _ rfl) (ag aS 2 _ rfl) (fun h=>by have:=dE.o _ h;omega) fS.o aD);have fy:=ae bX;have fz:=ae aS;have c7:=ae eK;have fA:=ae c6;obtain⟨z0,hE,z2,hi⟩:=bH aE;clear eJ an c4 E hv aD aF c6 bX aS eK;go_wp2_with fail;generalize (wr.alloc (dC nm so)).alloc (af nm so none 0 0)=hF at*;clear dG dH;obtain⟨gG,fU⟩:=ay wr.heap.size;rw[fU] at ab fy fz c7 dE⊢;refine ab.o.mono ?_;rintro e dJ ⟨c8,rfl,a1⟩;have bY:=ae (cE.o.trans a1);have bZ:=ae (acz cv.o F c8 dW dX dJ c bj bY.o.ur c5.o);have b1:=ae a1;clear a1 ab;go_wp2_with fail;refine bZ.o.mono ?_;rintro e K ⟨rfl,aq,b2⟩;have X:=ae (b1.o.trans b2);have aK:=ae (cE.o.trans X.o);clear b2 bZ b1;have E:=fT.o;have b3:=ae (bO.o _ aK.o.upd);cases bj with
   |false=>
    simp only[Option.some.injEq,Prod.mk.injEq] at E;obtain⟨rfl,rfl⟩:=E;have hR:=eH.o;simp only at hR;have bR:R=none:=by injection hR with h;exact h.symm
    subst bR;go_wp2_with fail;go_ret2;exact⟨rfl,b3.o⟩
   |true=>
   simp only at E;have fV:=ae E;have c9: ∀k,Fb bv bn bU k->k<gG:=dE.o;have bX:=X.o.upd.heap fy.o (fun h=>by have:=c9 _ h;omega);have aS:=X.o.upd.heap fz.o (fun h=>by have:=c9 _ h;omega);have cF:Hid (∀k,tb<=k->k<U->¬Fb bv bn aq k):=ae (fun k h1 d h=>by
    rcases h with h|h|h
    .exact aA.o k h1 d (.inl h)
    .exact aA.o k h1 d (.inr (.inl h))
    .rcases X.o.new k h with h|h
     .exact aA.o k h1 d (.inr (.inr h))
     .have:=c7.o;have:=bV.o;omega)
   have eL:eX (fun s:ByteArray=>Value.string s) K tb ((nJ (VL.take k)).map fun x=>(x.1.1,Value.agg (dY x).toArray)):=(dD.o.ext fA.o).kept X.o.upd (aA.o tb (Nat.le_refl _) aJ.o.2.1);have fW:Hid (dM (fun j=>tb<j/\j<U) K (.slice (some ⟨g,off,none⟩) VL.length c3) VL):=ae (aB.kept (dM.ext c0.o fA.o) X.o.upd (fun j A=>aA.o j (by omega) A.2));have eM:Hid (U<=K.heap.size):=ae (by have h1:=X.o.upd.size;have:=c7.o;have:=bV.o;omega);obtain⟨al,b4,fB,ao⟩:=eX.put (P:=Tryz.prog) (t:=98) (qW Tryz.underlying9) Tryz.underlying98 eL nm (.agg #[.string nm,.string so,.string nm,.string so,.slice none 0 0]);have fL:(Instr.mapUpdate 98 (.map (some tb)) (.string nm) (.agg #[.string nm,.string so,.string nm,.string so,.slice none 0 0])).run Tryz.prog K= .ok () al:=b4;have fX:Hid (eX (fun s:ByteArray=>Value.string s) al tb ((nJ (VL.take (k+1))).map fun x=>(x.1.1,Value.agg (dY x).toArray))):=ae (by
    rw[gF.o,NT,Fg];exact fB)
   have hj:G.heap.size<=tb:=aJ.o.1;have dK:Hid (gz T ad S 121 108 bv bn ub [] aq dX G al):=ae (gz.outside aK.o ao (fun j A e=>by
    rcases A with A|A|A
    .exact cF.o tb (Nat.le_refl _) aJ.o.2.1 (by rw[<-e];exact A)
    .have:=bN.o j A;have:=aw.o;omega
    .have:=aw.o;omega) (fun j A e=>by omega))
   have fY:Hid (dM (fun j=>tb<j/\j<U) al (.slice (some ⟨g,off,none⟩) VL.length c3) VL):=ae (aB.kept fW.o ao (fun j A e=>by omega));have gH:Hid (U<=al.heap.size):=ae (Nat.le_trans eM.o ao.size);obtain⟨b0,fC⟩:=aV bX;obtain⟨d0,d1,d2⟩:=ah aS;clear E c9 bX aS eL b4 fB ao b3 cE bY X aK;go_wp2_with fail;go_roundg (VL.length- (k+1));case measure=>omega
   case rel=>exact⟨k+1,_,_,by go_num,rfl,by omega,dK,fV,cF,fY,fX,gH⟩
  .obtain rfl:k=VL.length:=by omega
   have z2:decide ((VL.length:Int)< (VL.length:Int))=false:=dF (by omega);have E:=cZ.o;rw[List.drop_length] at E;unfold QA at E;simp only[Option.some.injEq,Prod.mk.injEq] at E;obtain⟨rfl,rfl⟩:=E;have hR:=eH.o;simp only at hR;cases cj:kF T F bD 0 with
   |none=>rw[cj] at hR;cases hR
   |some q=>
   obtain⟨h_,c⟩:=q;rw[cj] at hR;simp only at hR;cases aF:Io T F h_ c with
   |none=>rw[aF] at hR;cases hR
   |some q=>
   obtain⟨aL,bj⟩:=q;rw[aF] at hR;have eN:=ae hR;have c5:=ae aF;have ab:=ae (O1 F 0 c V.o.ur cj);rw[cM.o.1] at ab;have eO:Hid (eX (fun s:ByteArray=>Value.string s) wr tb ((nJ VL).map fun x=>(x.1.1,Value.agg (dY x).toArray))):=ae (by have:=dD.o;rw[List.take_length] at this;exact this);clear hR cj aF dD;go_wp2_with fail;refine ab.o.mono ?_;rintro e dJ ⟨c8,rfl,a1⟩;have bY:=ae (V.o.trans a1);have bZ:=ae (acz cv.o F c8 h_ aL dJ c bj bY.o.ur c5.o);have b1:=ae a1;clear a1 ab;go_wp2_with fail;refine bZ.o.mono ?_;rintro e K ⟨rfl,aq,b2⟩;have X:=ae (b1.o.trans b2);have aK:=ae (V.o.trans X.o);clear b2 bZ b1 bY;have b3:=ae (bO.o _ aK.o.upd);have hR:=eN.o;cases bj with
   |false=>
    simp only at hR;have bR:R=none:=by injection hR with h;exact h.symm
    subst bR;go_wp2_with fail;go_ret2;exact⟨rfl,b3.o⟩
   |true=>
   simp only at hR;obtain rfl:R=some aL:=by injection hR with h;exact h.symm
   have dL:=ae (fe.o aL rfl);have cF:Hid (∀k,tb<=k->k<U->¬Fb bv bn aq k):=ae (fun k h1 d h=>by
    rcases h with h|h|h
    .exact aA.o k h1 d (.inl h)
    .exact aA.o k h1 d (.inr (.inl h))
    .rcases X.o.new k h with h|h
     .exact aA.o k h1 d (.inr (.inr h))
     .have:=bV.o;omega)
   have fD:=ae (eO.o.kept X.o.upd (aA.o tb (Nat.le_refl _) aJ.o.2.1));have eM:Hid (U<=K.heap.size):=ae (Nat.le_trans bV.o X.o.upd.size);have ho:Hid (∀j,G.heap.size<=j->j<K.heap.size->G.heap.size<=j):=ae (fun _ h _=>h);clear hR eN X V bP eO aA bV cZ c0;obtain⟨es,clock,hb,da,db,eP⟩:=fD.o;have bk:=ae (Ye VL dk.o);have dN:Hid ((es.toList.map (·.born)).Nodup):=ae (by
    rw[List.Nodup,List.pairwise_map];exact db.imp (fun h e=>by omega))
   have gI:=ae db;have fE:=ae eP;have fF:=ae da;have gJ:Hid (wK es.toList ((nJ VL).map fun x=>x.1.1)):=ae (by
    have:=wK.of da;rw[List.map_map] at this;exact this)
   have dc:=run_range_map (P:=Tryz.prog) K 98 9 93 tb es clock Tryz.underlying98 hb;have dZ:tb<K.heap.size:=(Array.getElem?_eq_some_iff.1 hb).1;have dO:=ae dZ;have bE:=ae (ak hb (.mapIter (some tb) clock #[] clock));have a6:=ae (aj K (.mapIter (some tb) clock #[] clock));have bF:=(uR K).alloc (.mapIter (some tb) clock #[] clock);have b5:=ae (aK.o.ext bF);have a7:Hid (K.heap.size+1<=(K.alloc (.mapIter (some tb) clock #[] clock)).heap.size):=ae (by simp);have b6:Hid (∀j,K.heap.size<=j->¬(Fb bv bn aq j\/S j\/j=ub)/\G.heap.size<=j/\tb<j):=ae (fun j A=>by
    have h1:=aK.o.upd.size;have d:=aw.o;refine⟨?_,by omega,by omega⟩;rintro(h|h|h)
    .have:=aK.o.ur.us.lt j h;omega
    .have:=bN.o j h;omega
    .omega)
   clear da db eP hb dZ bF fD aK b3;go_wp2_with fail;try go_frame
   generalize K.alloc (.mapIter (some tb) clock #[] clock)=hq at*;clear dc;obtain⟨O,eQ⟩:=ay K.heap.size;rw[eQ] at a6 a7 dO b6⊢;clear eQ;go_loopg [] (leftOf es #[]).size (fun gk wr=> ∃(D:List By) (seen:Array Nat),gk=(leftOf es seen).size/\Hid (wr.heap[O]?=some (.mapIter (some tb) clock seen clock))/\Hid (wr.heap[tb]?=some (.map es clock))/\Hid (gz T ad S 121 108 bv bn ub [] aq aL G wr)/\Hid (O+1<=wr.heap.size)/\Hid (vS es.toList seen D));case atStart=>exact⟨[],#[],rfl,a6,bE,b5,a7,ae (vS.start _)⟩
   case round=>
    clear a6 bE b5 a7;obtain⟨D,seen,rfl,br,aM,V,b7,bs⟩:=hrel;rcases run_next_at (P:=Tryz.prog) wr 0 O tb clock clock seen es clock br.o aM.o (fun x hx=>fE.o x hx) (Nat.le_refl _) with⟨h0,Y⟩|⟨e,he,w1,a8,Y⟩
    .have ba: ∀ty,(Instr.next (.pointer (az O)) false ty).run Tryz.prog wr=_:=fun _=>Y;clear h0 br bs;have dc:=run_range_map (P:=Tryz.prog) wr 98 9 93 tb es clock Tryz.underlying98 aM.o;have bE:=ae (ak aM.o (.mapIter (some tb) clock #[] clock));have a6:=ae (aj wr (.mapIter (some tb) clock #[] clock));have bF:=(uR wr).alloc (.mapIter (some tb) clock #[] clock);have b5:=ae (V.o.ext bF);have a7:Hid (wr.heap.size+1<=(wr.alloc (.mapIter (some tb) clock #[] clock)).heap.size):=ae (by simp);have cG:Hid (∀j,wr.heap.size<=j->¬(Fb bv bn aq j\/S j\/j=ub)/\G.heap.size<=j/\tb<j/\w.heap.size<=j):=ae (fun j A=>by
      have h1:=b7.o;obtain⟨d,M,bt⟩:=b6.o j (by omega);have hG:=aw.o;exact⟨d,M,bt,by omega⟩)
     have dP:Hid (∀x∈nJ VL,∃v∈VL,x.1.1=v.1/\((x.1.1∉([]:List By)/\x=AQ v)\/(x.1.1∈([]:List By)/\x.1=(v.1,v.2,J v)/\aG (fun j=>wr.heap.size+1<=j/\j< (wr.alloc (.mapIter (some tb) clock #[] clock)).heap.size) (wr.alloc (.mapIter (some tb) clock #[] clock)) (J v).kids (wJ x)))):=ae (fun x hx=>by
      obtain⟨v,hv,rfl⟩:=(bk.o.2 x).1 hx;exact⟨v,hv,rfl,.inl ⟨by simp,rfl⟩⟩)
     have fG:Hid (es.toList.map (fun e=>(e.key,e.val))=(nJ VL).map (fun x=>(Value.string x.1.1,Value.agg (dY x).toArray))):=ae (by
      have:=fF.o;rw[List.map_map] at this;exact this)
     clear bF V aM b6 dO b7 Y;go_wp2_with fail;try go_frame
     generalize wr.alloc (.mapIter (some tb) clock #[] clock)=hr at*;clear dc ba;obtain⟨H,eR⟩:=ay wr.heap.size;rw[eR] at a6 a7 cG dP⊢;clear eR;go_loopg [] (leftOf es #[]).size (fun gk wr=> ∃(D:List By) (seen:Array Nat) (I:Array MapEntry) (lk:List Be),gk=(leftOf I seen).size/\Hid (wr.heap[H]?=some (.mapIter (some tb) clock seen clock))/\Hid (wr.heap[tb]?=some (.map I clock))/\Hid (gz T ad S 121 108 bv bn ub [] aq aL G wr)/\Hid (H+1<=wr.heap.size)/\Hid (vS I.toList seen D)/\Hid (I.toList.map (fun e=>(e.key,e.val))=lk.map (fun x=>(Value.string x.1.1,Value.agg (dY x).toArray)))/\Hid (I.toList.map (·.born)=es.toList.map (·.born))/\Hid (lk.map (fun x=>x.1.1)=(nJ VL).map fun x=>x.1.1)/\Hid (∀x∈lk,∃v∈VL,x.1.1=v.1/\((x.1.1∉D/\x=AQ v)\/(x.1.1∈D/\x.1=(v.1,v.2,J v)/\aG (fun j=>H+1<=j/\j<wr.heap.size) wr (J v).kids (wJ x)))));case atStart=>exact⟨[],#[],es,nJ VL,rfl,a6,bE,b5,a7,ae (vS.start _),fG,ae rfl,ae rfl,dP⟩
     case round=>
      clear a6 bE b5 a7 dP fG;obtain⟨D,seen,I,lk,rfl,br,aM,V,b7,bs,b8,ck,cm,dQ⟩:=hrel;have eS:Hid ((I.toList.map (·.born)).Nodup):=ae (by rw[ck.o];exact dN.o);have eT:Hid (∀x∈I.toList,x.born<clock):=ae (fun x hx=>by
       have h1:x.born∈I.toList.map (·.born):=List.mem_map.2 ⟨x,hx,rfl⟩;rw[ck.o] at h1;obtain⟨y,hy,e⟩:=List.mem_map.1 h1;rw[<-e];exact fE.o y hy)
      have dd:Hid (wK I.toList (lk.map fun x=>x.1.1)):=ae (by
       have h1:=congrArg (List.map Prod.fst) b8.o;rw[List.map_map,List.map_map] at h1;unfold wK;rw[List.map_map];exact h1)
      have cH:Hid ((lk.map fun x=>x.1.1).Nodup):=ae (by rw[cm.o];exact bk.o.1);rcases run_next_at (P:=Tryz.prog) wr 0 H tb clock clock seen I clock br.o aM.o (fun x hx=>eT.o x hx) (Nat.le_refl _) with⟨h0,Y⟩|⟨e,he,w1,a8,Y⟩
      .have ba: ∀ty,(Instr.next (.pointer (az H)) false ty).run Tryz.prog wr=_:=fun _=>Y;have bx:=bs.o.fin dd.o h0;have bz: ∀x∈lk,∃v∈VL,x.1.1=v.1/\x.1=(v.1,v.2,J v)/\aG (fun j=>H+1<=j/\j<wr.heap.size) wr (J v).kids (wJ x):=fun x hx=>by
        obtain⟨v,hv,h1,d⟩:=dQ.o x hx;have hd:x.1.1∈D:=(bx _).2 (List.mem_map.2 ⟨x,hx,rfl⟩);rcases d with⟨d,_⟩|⟨_,d,M⟩
        .exact absurd hd d
        .exact ⟨v,hv,h1,d,M⟩
       have bp:TbR (fun j=>H+1<=j/\j<wr.heap.size) wr tb lk:=⟨⟨I,clock,aM.o,by rw[b8.o,List.map_map];rfl,by
        have h1:(I.toList.map (·.born)).Pairwise (· < ·):=by rw[ck.o];exact List.pairwise_map.2 gI.o
        exact List.pairwise_map.1 h1,eT.o⟩,cH.o,fun x hx=>by
        obtain⟨v,hv,h1,d,M⟩:=bz x hx;rw[d];exact M⟩
       have eU:lk.length<=1000000:=by
        have h1:=congrArg List.length cm.o;rw[List.length_map,List.length_map] at h1;have d:((nJ VL).map fun x=>x.1.1).length<=(VL.map (·.1)).length:=bk.o.1.length_le_of_subset (fun n hn=>by
         obtain⟨x,hx,e⟩:=List.mem_map.1 hn;obtain⟨v,hv,aW⟩:=(bk.o.2 x).1 hx;rw[<-e,aW];exact List.mem_map.2 ⟨v,hv,rfl⟩)
        rw[List.length_map,List.length_map] at d;omega
       have fH:=ae (VV lk tb _ wr bp (fun k hk=>hk.2) (fun x hx=>by
        obtain⟨v,hv,h1,d,M⟩:=bz x hx;obtain⟨_,_,_,_,_,_,_,_,bG⟩:=dL.o v hv;rw[d];exact bG) eU)
       have gK:Hid (∀f,(∃x∈lk,x.1=f)<->∃v∈VL,f=(v.1,v.2,J v)):=ae (fun f=>by
        constructor
        .rintro ⟨x,hx,e⟩;obtain⟨v,hv,h1,d,_⟩:=bz x hx;exact⟨v,hv,by rw[<-e,d]⟩
        .rintro ⟨v,hv,e⟩;have h1:v.1∈lk.map fun x=>x.1.1:=by
          rw[cm.o];exact List.mem_map.2 ⟨AQ v,(bk.o.2 _).2 ⟨v,hv,rfl⟩,rfl⟩
         obtain⟨x,hx,aW⟩:=List.mem_map.1 h1;obtain⟨u,hu,M,bt,_⟩:=bz x hx;have:u=v:=dk.o u hu v hv (by rw[<-M,aW]);rw[this] at bt;exact⟨x,hx,by rw[bt,e]⟩)
       have fI:=ae (bO.o _ V.o.upd);clear bx bz bp eU h0;go_wp2_with fail;refine fH.o.mono ?_;rintro e hs ⟨r,L,rfl,bm,has,ea,aR⟩;obtain⟨hI,rc,fZ⟩:=bm.shape;subst fZ;have ga:=ae (And.intro bm (And.intro has (And.intro ea aR)));clear bm has ea aR Y ba fH;go_wp2_with fail;go_ret2;have cn:=ga.o;have ht:=fI.o.size;refine⟨.inr ⟨(fun h=>by cases h),_,L,rfl,cn.1.weaken (fun k hk=>⟨by omega,hk.2⟩) (fun k hk=>⟨by omega,hk.2⟩),cn.2.1,?_⟩,fI.o.trans cn.2.2.2⟩;have hl:=fun f=>(cn.2.2.1 f).trans (and_congr_left (fun _=>gK.o f));rw[<-gB.o] at hl;simpa using hl
      .have Z:=mem_left he;obtain⟨x,hx,bb⟩: ∃x∈lk,(Value.string x.1.1,Value.agg (dY x).toArray)=(e.key,e.val):=by
        have h1:(e.key,e.val)∈I.toList.map (fun e=>(e.key,e.val)):=List.mem_map.2 ⟨e,Z.1,rfl⟩;rw[b8.o] at h1;obtain⟨x,hx,d⟩:=List.mem_map.1 h1;exact⟨x,hx,d⟩
       have de:e.key= .string x.1.1:=by injection bb with h1 _;exact h1.symm
       have df:x.1.1∉D:=fun hd=>by
        obtain⟨aW,cp,gb,eV⟩:=bs.o.sub _ hd;have gd:aW=e:=dd.o.uniq cH.o cp Z.1 (by rw[gb,de]);rw[gd,Z.2] at eV;cases eV
       obtain⟨v,an,gf⟩: ∃v∈VL,x=AQ v:=by
        obtain⟨v,hv,h1,d⟩:=dQ.o x hx;rcases d with⟨_,d⟩|⟨d,_⟩
        .exact ⟨v,hv,d⟩
        .exact absurd d df
       subst gf;obtain⟨nm,so⟩:=v;have hk:e.key= .string nm:=de;have bc:e.val= .agg #[.string nm,.string so,.string nm,.string so,.slice none 0 0]:=by injection bb with _ h1;exact h1.symm
       have b9:=cu.o _ an;obtain⟨c,C,bI,aD,hcs,bJ,bK,cq,bG⟩:=dL.o _ an;have bL:w1.heap[H]?=some (.mapIter (some tb) clock seen clock):=by rcases a8 with h|h<;>(rw[h];exact br.o)
       have N:au (fun j=>j=H) wr (Go.ChangeMaps.setBlock w1 H (.mapIter (some tb) clock (seen.push e.born) clock)):=by
        have:=vI w1 H (.mapIter (some tb) clock (seen.push e.born) clock);rcases a8 with h|h
        .rw [h] at this⊢;exact this
        .rw [h] at this⊢;exact this.EW
       have ar:=tX (o':= .mapIter (some tb) clock (seen.push e.born) clock) bL;rw[hk,bc] at Y;generalize Go.ChangeMaps.setBlock w1 H (.mapIter (some tb) clock (seen.push e.born) clock)=B at*;have cr:=(cG.o H (Nat.le_refl _))
       have ca:=ae (N.heap aM.o (by have:=cr.2.2.1;omega));have bM:=run_entry_at (P:=Tryz.prog) B H tb clock seen I clock e ar ca.o Z.1 eS.o;rw[hk,bc] at bM;have ba: ∀ty,(Instr.next (.pointer (az H)) false ty).run Tryz.prog wr=_:=fun _=>Y;have cb:Hid (gz T ad S 121 108 bv bn ub [] aq aL G B):=ae (gz.outside V.o N (fun j A e=>cr.1 (by rw[<-e];exact A)) (fun j A e=>by have:=cr.2.1;omega));have dS:=ae ar;have dT:=ae (bs.o.next dd.o cH.o eS.o Z.1 Z.2 hk);have dU:=ae (left_shrinks I seen e he);have aX:Hid (H+1<=B.heap.size):=ae (Nat.le_trans b7.o N.size);have eW:Hid (∀x∈lk,∃v∈VL,x.1.1=v.1/\((x.1.1∉D/\x=AQ v)\/(x.1.1∈D/\x.1=(v.1,v.2,J v)/\aG (fun j=>H+1<=j/\j<B.heap.size) B (J v).kids (wJ x)))):=ae (fun x hx=>by
        obtain⟨v,hv,h1,d⟩:=dQ.o x hx;refine⟨v,hv,h1,d.imp id (fun⟨a,b,c⟩=>⟨a,b,(c.kept N (fun j A e=>by omega)).weaken (fun j A=>⟨A.1,aP A.2 N.size⟩)⟩)⟩)
       have Q:=aj B (dR nm so nm so none 0 0);have bl:=(uR B).alloc (dR nm so nm so none 0 0);have cc:=ae (cb.o.ext bl);have ab:=ae (NY F c B.heap.size 2 nm so none 0 0 cc.o.ur (ag Q 2 _ rfl) (ag Q 3 _ rfl) (ag Q 4 _ rfl) (fun h=>by have:=cb.o.ur.us.lt _ h;omega) b9 bI aD).2;have dV:=ae bl;have gL:=ae Q;have gg:=ae cq;have eY:=ae hx;have gh:=ae an;have hz:=ae df;clear Z hk bc bL N ar he a8 bb Q bl b9 bI aD hcs bJ bK cq bG an hx de df cr;go_wp2_with fail;refine ab.o.mono ?_;rintro aW cy ⟨rfl,aQ⟩;have cd:=ae (cc.o.ext aQ);have cf:=ae (dV.o.trans aQ);have fJ:=ae (aQ.heap gL.o id);have fK:=ae (akf cv.o F cy c (J (nm,so)) cd.o.ur gg.o);clear aQ ba Y bM ab;go_wp2_with fail;refine fK.o.mono ?_;rintro gM bh ⟨hJ,gN,rfl,cI,Q,av⟩;obtain⟨aN,aO,gO⟩:=aU.shape cI;subst gO;obtain⟨t5,ct⟩:=ay (J (nm,so));rw[ct] at cI;have eZ:=ae ct;have gP:=ae (cd.o.ext av);have cJ:=ae (cf.o.trans av);have gQ:=ae cI.read;have cg:Hid (∀j,gN j->B.heap.size<j/\j<bh.heap.size):=ae (fun j A=>⟨by have h1:=(Q j A).1;have M:=(Array.getElem?_eq_some_iff.1 fJ.o).1;omega,(Q j A).2⟩);have aH:=av.heap fJ.o id;have hK:=ae aH;dsimp only[tV];rw[ct];have b0:=ag aH 0 (.string nm) rfl;have fC:=ag aH 1 (.string so) rfl;have bj:=ag aH 2 (.string nm) rfl;have gR:=ag aH 3 (.string so) rfl;have gS:=ag aH 4 (.slice none 0 0) rfl;have fb:=fun i=>ax aH i;have e0:=setBlock (setBlock (setBlock aH 2 (.string t5.name)) 3 (.string t5.sort)) 4 (.slice aN t5.kids.length aO);have e1:au (fun j=>j=B.heap.size) bh (((bh.setCell ⟨B.heap.size,2,none⟩ (.string t5.name)).setCell ⟨B.heap.size,3,none⟩ (.string t5.sort)).setCell ⟨B.heap.size,4,none⟩ (.slice aN t5.kids.length aO)):=
        (((au.refl (fun j=>j=B.heap.size) bh).setCell (p:=⟨B.heap.size,2,none⟩) (.inl rfl) _).setCell (p:=⟨B.heap.size,3,none⟩) (.inl rfl) _).setCell (p:=⟨B.heap.size,4,none⟩) (.inl rfl) _
       have bu:Hid ((((bh.setCell ⟨B.heap.size,2,none⟩ (.string t5.name)).setCell ⟨B.heap.size,3,none⟩ (.string t5.sort)).setCell ⟨B.heap.size,4,none⟩ (.slice aN t5.kids.length aO)).heap[B.heap.size]?=some (dR nm so t5.name t5.sort aN t5.kids.length aO)):=ae (by simpa using e0);have aZ:=ae e1;clear cI Q av aH e0 e1 fK ct;go_upto_region 30 with fail;generalize (((bh.setCell ⟨B.heap.size,2,none⟩ (.string t5.name)).setCell ⟨B.heap.size,3,none⟩ (.string t5.sort)).setCell ⟨B.heap.size,4,none⟩ (.slice aN t5.kids.length aO))=e2 at*;clear b0 fC bj gR gS fb;obtain⟨gT,dh⟩:=ay B.heap.size;rw[dh] at bu aZ cg eW aX⊢;have cK:=cG.o gT (by have:=aX.o;omega);have gi:=(cG.o H (Nat.le_refl _)).2.2.1;have e3:=aZ.o.heap (cJ.o.heap ca.o id) (fun e=>by have:=cK.2.2.1;omega);have e4:=aZ.o.heap (cJ.o.heap dS.o id) (fun e=>by have:=aX.o;omega);have gj:Hid (gz T ad S 121 108 bv bn ub [] aq aL G e2):=ae (gz.outside gP.o aZ.o (fun j A e=>cK.1 (by rw[<-e];exact A)) (fun j A e=>by have:=cK.2.1;omega));have e5:nm∈(lk.map fun x=>(x.1.1,Value.agg (dY x).toArray)).map (·.1):=by
        rw[List.map_map];exact List.mem_map.2 ⟨_,eY.o,rfl⟩
       obtain⟨al,bq,b4,e6,cp,cL,ao⟩:=eX.upd (P:=Tryz.prog) (t:=98) (qW Tryz.underlying9) Tryz.underlying98 e3 (l:=lk.map fun x=>(x.1.1,Value.agg (dY x).toArray)) (by rw[b8.o,List.map_map];rfl) nm (.agg #[.string nm,.string so,.string t5.name,.string t5.sort,.slice aN t5.kids.length aO]) e5;have fL:(Instr.mapUpdate 98 (.map (some tb)) (.string nm) (.agg #[.string nm,.string so,.string t5.name,.string t5.sort,.slice aN t5.kids.length aO])).run Tryz.prog e2= .ok () al:=b4;obtain⟨x',aI⟩: ∃x':Be,x'=((nm,so,t5),aN,t5.kids.length,aO):=⟨_,rfl⟩
       have e7:Hid (bq.toList.map (fun e=>(e.key,e.val))=(rf lk x').map (fun x=>(Value.string x.1.1,Value.agg (dY x).toArray))):=ae (by
        have h1:=Fg lk x';have d:=congrArg (List.map fun p:By×Value=>(Value.string p.1,p.2)) h1;rw[List.map_map] at d;rw[cp,aI];rw[aI] at d;exact d.symm)
       have gl:Hid (bq.toList.map (·.born)=es.toList.map (·.born)):=ae (by rw[cL];exact ck.o);have di:x'.1.1∈lk.map fun x=>x.1.1:=by rw[aI];exact List.mem_map.2 ⟨_,eY.o,rfl⟩
       have gm:Hid ((rf lk x').map (fun x=>x.1.1)=(nJ VL).map fun x=>x.1.1):=ae (by rw[tZ di];exact cm.o);have gU:Hid (vS bq.toList (seen.push e.born) (D++[nm])):=ae (dT.o.alike (aaj (by
        have h1:=congrArg (List.map Prod.fst) b8.o;have d:=congrArg (List.map Prod.fst) e7.o;rw[List.map_map,List.map_map] at h1 d;have M:=congrArg (List.map Value.string) (tZ di);rw[List.map_map,List.map_map] at M;exact h1.trans (M.symm.trans d.symm)) (by rw[cL])))
       have gn:Hid ((leftOf bq (seen.push e.born)).size< (leftOf I seen).size):=ae (by rw[Yf cL];exact dU.o);have dK:Hid (gz T ad S 121 108 bv bn ub [] aq aL G al):=ae (gz.outside gj.o ao (fun j A e=>by
        rcases A with A|A|A
        .exact cF.o tb (Nat.le_refl _) aJ.o.2.1 (by rw[<-e];exact A)
        .have:=bN.o j A;have:=aw.o;have:=aJ.o.1;omega
        .have:=aw.o;have:=aJ.o.1;omega) (fun j A e=>by have:=aJ.o.1;omega))
       have gp:Hid (al.heap[H]?=some (.mapIter (some tb) clock (seen.push e.born) clock)):=ae (ao.heap e4 (fun e=>by omega));have gV:=ae e6;have bA:B.heap.size<=al.heap.size:=Nat.le_trans cJ.o.size (Nat.le_trans aZ.o.size ao.size);have gq:Hid (H+1<=al.heap.size):=ae (Nat.le_trans aX.o (by rw[<-dh];exact bA));have gr:Hid (∀x∈rf lk x',∃v∈VL,x.1.1=v.1/\((x.1.1∉D++[nm]/\x=AQ v)\/(x.1.1∈D++[nm]/\x.1=(v.1,v.2,J v)/\aG (fun j=>H+1<=j/\j<al.heap.size) al (J v).kids (wJ x)))):=ae (fun z gW=>by
        rcases(Ja cH.o z).1 gW with e|⟨bJ,bK⟩
        .subst e;refine⟨(nm,so),gh.o,by rw[aI],.inr ⟨by rw[aI];simp,by rw[aI,eZ.o],?_⟩⟩;rw[eZ.o,aI];exact((gQ.o.kept aZ.o (fun j A e=>by have:=(cg.o j A).1;omega)).kept ao (fun j A e=>by have:=(cg.o j A).1;have:=aX.o;omega)).weaken (fun j A=>⟨by have:=(cg.o j A).1;have:=aX.o;omega,aP (cg.o j A).2 (Nat.le_trans aZ.o.size ao.size)⟩)
        .obtain ⟨v,hv,h1,d⟩:=eW.o z bJ;have gu:z.1.1≠nm:=fun e=>bK (by rw[aI];exact e);refine⟨v,hv,h1,?_⟩;rcases d with⟨d,M⟩|⟨d,M,bt⟩
         .exact .inl ⟨by simp[d,gu],M⟩
         .exact .inr ⟨List.mem_append_left _ d,M,(((bt.kept cJ.o (fun _ _ h=>h)).kept aZ.o (fun j A e=>by omega)).kept ao (fun j A e=>by omega)).weaken (fun j A=>⟨A.1,by omega⟩)⟩)
       have hL:=ag bu.o 0 (.string nm) rfl;have hM:=ag bu.o 1 (.string so) rfl;have aW:=ag bu.o 2 (.string t5.name) rfl;have gM:=ag bu.o 3 (.string t5.sort) rfl;have hN:=ag bu.o 4 (.slice aN t5.kids.length aO) rfl;clear b4 cp cL e6 ao e5 di bA e3 e4 aI cK gi dh;go_wp2_with fail;have aE:=gn.o;go_roundg (leftOf bq (seen.push e.born)).size;case measure=>exact aE
       case rel=>exact⟨D++[nm],_,bq,rf lk x',rfl,gp,gV,dK,gq,gU,e7,gl,gm,gr⟩
    .have Z:=mem_left he;obtain⟨x,hx,bb⟩: ∃x∈nJ VL,(Value.string x.1.1,Value.agg (dY x).toArray)=(e.key,e.val):=by
      have h1:(e.key,e.val)∈es.toList.map (fun e=>(e.key,e.val)):=List.mem_map.2 ⟨e,Z.1,rfl⟩;rw[fF.o,List.map_map] at h1;obtain⟨x,hx,d⟩:=List.mem_map.1 h1;exact⟨x,hx,d⟩
     obtain⟨v,an,rfl⟩:=(bk.o.2 x).1 hx;obtain⟨nm,so⟩:=v;have hk:e.key= .string nm:=by injection bb with h1 _;exact h1.symm
     have bc:e.val= .agg #[.string nm,.string so,.string nm,.string so,.slice none 0 0]:=by injection bb with _ h1;exact h1.symm
     have b9:=cu.o _ an;obtain⟨c,C,bI,aD,hcs,bJ,bK,cq,bG⟩:=dL.o _ an;have bL:w1.heap[O]?=some (.mapIter (some tb) clock seen clock):=by rcases a8 with h|h<;>(rw[h];exact br.o)
     have N:au (fun j=>j=O) wr (Go.ChangeMaps.setBlock w1 O (.mapIter (some tb) clock (seen.push e.born) clock)):=by
      have:=vI w1 O (.mapIter (some tb) clock (seen.push e.born) clock);rcases a8 with h|h
      .rw [h] at this⊢;exact this
      .rw [h] at this⊢;exact this.EW
     have ar:=tX (o':= .mapIter (some tb) clock (seen.push e.born) clock) bL;rw[hk,bc] at Y;generalize Go.ChangeMaps.setBlock w1 O (.mapIter (some tb) clock (seen.push e.born) clock)=B at*;have ca:=ae (N.heap aM.o (by have:=dO.o;omega));have bM:=run_entry_at (P:=Tryz.prog) B O tb clock seen es clock e ar ca.o Z.1 dN.o;rw[hk,bc] at bM;have ba: ∀ty,(Instr.next (.pointer (az O)) false ty).run Tryz.prog wr=_:=fun _=>Y;have cb:Hid (gz T ad S 121 108 bv bn ub [] aq aL G B):=ae (gz.outside V.o N (fun j A e=>(b6.o O (Nat.le_refl _)).1 (by rw[<-e];exact A)) (fun j A e=>by have:=(b6.o O (Nat.le_refl _)).2.1;omega));have dS:=ae ar;have dT:=ae (bs.o.next gJ.o bk.o.1 dN.o Z.1 Z.2 hk);have dU:=ae (left_shrinks es seen e he);have aX:Hid (O+1<=B.heap.size):=ae (Nat.le_trans b7.o N.size);have Q:=aj B (dR nm so nm so none 0 0);have bl:=(uR B).alloc (dR nm so nm so none 0 0);have cc:=ae (cb.o.ext bl);have gX:=ae hcs;have ab:=ae (NY F c B.heap.size 2 nm so none 0 0 cc.o.ur (ag Q 2 _ rfl) (ag Q 3 _ rfl) (ag Q 4 _ rfl) (fun h=>by have:=cb.o.ur.us.lt _ h;omega) b9 bI aD).2;have dV:=ae bl;have t1:decide ((1000:Int)< (C.sz:Int))=false:=dF (by omega);have t2:decide ((60:Int)< (C.dp:Int))=false:=dF (by omega);have t3: ¬((1000:Int)< (C.sz:Int)):=by omega
     have t4: ¬((60:Int)< (C.dp:Int)):=by omega
     clear Z hk bc bL N ar he a8 bb Q bl b9 bI aD hcs bJ bK cq bG an hx;go_wp2_with fail;refine ab.o.mono ?_;rintro aW cy ⟨rfl,aQ⟩;have cd:=ae (cc.o.ext aQ);have cf:=ae (dV.o.trans aQ);have gY:=ae (cf.o.heap dS.o id);have gv:=ae (cf.o.heap ca.o id);have gZ:Hid (O+1<=cy.heap.size):=ae (Nat.le_trans aX.o cf.o.size);have dj:=cd.o.ur.us.row c C gX.o;have hP:=ag dj 6 (.int .i64 (C.sz:Int)) rfl;have hQ:=ag dj 7 (.int .i64 (C.dp:Int)) rfl;clear aQ ba Y bM ab dj;go_wp2_with fail;have aE:=dU.o;go_roundg (leftOf es (seen.push e.born)).size;case measure=>exact aE
     case rel=>exact⟨D++[nm],_,rfl,gY,gv,cd,gZ,dT⟩
end
theorem J7 {S:Nat->Prop} {W:World} {n:Nat} {a:Tm} {ua:Value} (h:W.heap[n]?=some (kW a.name a.sort ua)) (hn:S n) (ha:aG S W a.kids ua):aG S W [a] (.slice (az n) 1 1):=by
 refine .mk _ [ua] _ rfl ?_ (fun i hi=>?_)
 .refine aB.mk' rfl rfl (Nat.le_refl _) (fun _=>hn) (fun j b=>?_);have c:j<3:=b;rw[Nat.zero_add,cell_of_row W n j _ _ _ h];have:j=0\/j=1\/j=2:=by omega
  rcases this with rfl|rfl|rfl<;>rfl
 .obtain rfl:i=0:=by simpa using hi
  exact ha
def acE (T:List Nr) (F:Nat) (vs:List Vd) (a:Vd->Tm) (st:St):Bool:=vs.all fun v=>(tq st.vs v.1).isSome&&(match uk F st v.1 v.2 with
 |none=>false
 |some (_,c)=>match st.cs[c]? with
  |none=>false
  |some C=>decide (C.sz<=1000)&&decide (C.dp<=60)&&decide (QB T st F c=some (a v))&&decide ((a v).size<=100000))
theorem V8 {T:List Nr} {F:Nat} {vs:List Vd} {b:Vd->Tm} {st:St} (h:acE T F vs b st=true): ∀v∈vs,∃c C,(tq st.vs v.1).isSome=true/\uk F st v.1 v.2=some (st,c)/\st.cs[c]?=some C/\C.sz<=1000/\C.dp<=60/\QB T st F c=some (b v)/\(b v).size<=100000:=fun v hv=>by
 have h1:=List.all_eq_true.1 h v hv;rw[Bool.and_eq_true] at h1;obtain⟨h1,a⟩:=h1;cases hf:uk F st v.1 v.2 with
 |none=>rw[hf] at a;cases a
 |some q=>
  obtain⟨s',c⟩:=q;rw[hf] at a;simp only at a;cases hc:st.cs[c]? with
  |none=>rw[hc] at a;cases a
  |some C=>
   rw[hc] at a;simp only[Bool.and_eq_true,decide_eq_true_eq] at a;have hs:=FC h1 hf;subst hs;exact⟨c,C,h1,rfl,hc,a.1.1.1,a.1.1.2,a.1.2,a.2⟩
end Go.Proofs.YtlkcjmaiahnodaaGreatDoor
