/- The texts UV UY QT UA UB UC UD UE UF UM UP VX BN L7 UX UW, one behind the other. -/
import Derived.Test.YtlkcjmaiahnodaaGreatDoorYAC
import Derived.StillTail
import Derived.Deep.Quiet
import Derived.Test.YtlkcjmaiahnodaaGreatDoorYAB
import Derived.Maps.RangeRun
set_option linter.unusedVariables false
set_option linter.unusedSimpArgs false
namespace Go.Hw
open Go.RowKit Tm
section
theorem vF {cs:List Cl}: ∀{F c r:Nat},kD cs F c=some r->∃x,cs[r]?=some x/\x.up=none
 |F+1,c,r,h=>by
  unfold kD at h;cases hx:cs[c]? with
  |none=>rw[hx] at h;cases h
  |some x=>
   rw[hx] at h;simp only at h;cases hu:x.up with
   |none=>
    rw[hu] at h;injection h with h
    subst h;exact⟨x,hx,hu⟩
   |some d=>rw[hu] at h;exact vF h
theorem wP {T:List Nr} {F i r:Nat} {st st':St} (h:jQ T F st i=some (st',r)): ∃x,st'.cs[r]?=some x/\x.up=none:=by
 have hv: ∀nm so,sH F st nm so=some (st',r)->∃x,st'.cs[r]?=some x/\x.up=none:=fun nm so h=>by
  unfold sH at h;cases hf:rQ st.vs nm with
  |some c=>
   rw[hf] at h;simp only at h;cases hr:kD st.cs F c with
   |none=>rw[hr] at h;cases h
   |some q=>rw[hr] at h;simp only[Option.map_some,Option.some.injEq,Prod.mk.injEq] at h;obtain⟨rfl,rfl⟩:=h;exact vF hr
  |none=>
   rw[hf] at h;simp only at h;cases hr:kD (st.cs++[⟨none,nm,so,false,none,0,0,0⟩]) F st.cs.length with
   |none=>rw[hr] at h;cases h
   |some q=>rw[hr] at h;simp only[Option.map_some,Option.some.injEq,Prod.mk.injEq] at h;obtain⟨rfl,rfl⟩:=h;exact vF hr
 unfold jQ at h;cases ht:T[i]? with
 |none=>rw[ht] at h;cases h
 |some x=>
  rw[ht] at h;simp only at h;by_cases hs:x.so=au
  .rw [if_pos hs] at h;unfold TJ at h;cases hf:rQ st.ns i with
   |some c=>
    rw[hf] at h;simp only at h;cases hr:kD st.cs F c with
    |none=>rw[hr] at h;cases h
    |some q=>rw[hr] at h;simp only[Option.map_some,Option.some.injEq,Prod.mk.injEq] at h;obtain⟨rfl,rfl⟩:=h;exact vF hr
   |none=>
    rw[hf] at h;simp only at h;cases hr:kD (st.cs++[⟨none,au,au,false,some i,0,0,0⟩]) F st.cs.length with
    |none=>rw[hr] at h;cases h
    |some q=>rw[hr] at h;simp only[Option.map_some,Option.some.injEq,Prod.mk.injEq] at h;obtain⟨rfl,rfl⟩:=h;exact vF hr
  .rw [if_neg hs] at h;exact hv _ _ h
structure Ur (T:List Nr) (ad:Nat->Nat×Nat) (S:Nat->Prop) (CT UT:TypeId) (bv bn ub:Nat) (bk:List Nat) (st:St) (w:World):Prop where
 us:nU T.length ad CT bv bn bk st w
 nd:EM T ad S w
 u:w.heap[ub]?=some (.cells #[.map (some bv),.map (some bn)] UT (0,0))
 un: ¬Fb bv bn bk ub
 sn: ∀k,S k->k<w.heap.size/\¬Fb bv bn bk k
structure fZ (T:List Nr) (ad:Nat->Nat×Nat) (S:Nat->Prop) (CT UT:TypeId) (bv bn ub:Nat) (bk bk':List Nat) (st':St) (w w':World):Prop where
 ur:Ur T ad S CT UT bv bn ub bk' st' w'
 upd:aC (Fb bv bn bk) w w'
 pre:bk <+:bk'
 new: ∀b∈bk',b∈bk\/w.heap.size<=b
section
variable {T:List Nr} {ad:Nat->Nat×Nat} {S:Nat->Prop} {CT UT:TypeId} {bv bn ub:Nat} {bk bk' aiw:List Nat} {st st' aix:St} {w w' w'':World}
theorem Ur.step (h:Ur T ad S CT UT bv bn ub bk st w) (hm:nU T.length ad CT bv bn bk' st' w') (hu:aC (Fb bv bn bk) w w') (hp:bk <+:bk') (hb: ∀b∈bk',b∈bk\/w.heap.size<=b):fZ T ad S CT UT bv bn ub bk bk' st' w w':=by
 have hn: ∀k,k<w.heap.size->¬Fb bv bn bk k->¬Fb bv bn bk' k:=fun k hk hF hF'=>by
  rcases hF' with e|e|e
  .exact hF (.inl e)
  .exact hF (.inr (.inl e))
  .rcases hb k e with e|e
   .exact hF (.inr (.inr e))
   .omega
 have E8:ub<w.heap.size:=(Array.getElem?_eq_some_iff.1 h.u).1;exact⟨⟨hm,h.nd.kept hu (fun k hk=>(h.sn k hk).2),hu.heap h.u h.un,hn _ E8 h.un,fun k hk=>⟨aF (h.sn k hk).1 hu.size,hn k (h.sn k hk).1 (h.sn k hk).2⟩⟩,hu,hp,hb⟩
theorem Ur.ext (h:Ur T ad S CT UT bv bn ub bk st w) (hu:Ext w w'):Ur T ad S CT UT bv bn ub bk st w':=
 ⟨h.us.ext hu (fun _ _ h=>h),h.nd.kept hu (fun _ _ h=>h),hu.heap h.u (fun h=>h),h.un,fun k hk=>⟨aF (h.sn k hk).1 hu.size,(h.sn k hk).2⟩⟩
theorem fZ.refl (h:Ur T ad S CT UT bv bn ub bk st w):fZ T ad S CT UT bv bn ub bk bk st w w:=⟨h,aC.refl _ _,List.prefix_refl _,fun b hb=> .inl hb⟩
theorem fZ.trans (h:fZ T ad S CT UT bv bn ub bk bk' st' w w') (h':fZ T ad S CT UT bv bn ub bk' aiw aix w' w''):fZ T ad S CT UT bv bn ub bk aiw aix w w'':=by
 refine⟨h'.ur,h.upd.trans' h'.upd (fun j hj hF=>?_),h.pre.trans h'.pre,fun b hb=>?_⟩
 .rcases hF with e|e|e
  .exact .inl e
  .exact .inr (.inl e)
  .rcases h.new j e with e|e
   .exact .inr (.inr e)
   .omega
 .rcases h'.new b hb with e|e
  .exact h.new b e
  .exact .inr (Nat.le_trans h.upd.size e)
theorem fZ.ext (h:fZ T ad S CT UT bv bn ub bk bk' st' w w') (hu:Ext w' w''):fZ T ad S CT UT bv bn ub bk bk' st' w w'':=
 ⟨h.ur.ext hu,h.upd.ext hu,h.pre,h.new⟩
theorem Gq (h:bk <+:bk') {c:Nat} (hc:c<bk.length):blk bk' c=blk bk c:=by
 obtain⟨t,rfl⟩:=h;show(bk++t).getD c 0=bk.getD c 0;rw[List.getD_eq_getElem?_getD,List.getD_eq_getElem?_getD,List.getElem?_append_left hc]
theorem fZ.put (h:fZ T ad S CT UT bv bn ub bk bk' st w w') {c:Nat} (hc:c<st.cs.length) (x:Cl) (hx:(∀d,x.up=some d->d<st.cs.length)/\(∀i,x.tm=some i->i<T.length)) (hu:aC (fun k=>k=blk bk' c) w' w'')
  (hrow:w''.heap[blk bk' c]?=some (.cells (dV ad bk' x) CT (0,0))):fZ T ad S CT UT bv bn ub bk bk' (dZ st c x) w w'':=by
 have hm:=h.ur.us.put hc x hx hu hrow;exact h.trans (h.ur.step hm (hu.mono (fun k _ hk=> .inr (.inr (by rw[hk];exact Ls (by rw[h.ur.us.len];exact hc))))) (List.prefix_refl _) (fun b hb=> .inl hb))
end
end
def Uh (T:List Nr) (F:Nat) (ac:St->Nat->Option (St×Bool)) (c x:Nat):St->List Nat->Option (St×Bool)
 |st,[]=>some (st,true)
 |st,k::ks=>if(st.cs[c]?.map (·.tm))=some (some x) then match jQ T F st k with
  |none=>none
  |some (st1,y)=>match ac st1 y with
   |none=>none
   |some (st2,false)=>some (st2,false)
   |some (st2,true)=>match st2.cs[c]?,st2.cs[y]? with
    |some C,some Y=>if C.sz<=2000/\Y.sz<=2000/\C.dp<=2000/\Y.dp<=2000 then Uh T F ac c x (dZ st2 c {C with sz:=min (C.sz+Y.sz) 1001,dp:=min (max C.dp (Y.dp+1)) 61}) ks else none
    |_,_=>none
  else none
def GZ (T:List Nr):Nat->St->Nat->Option (St×Bool)
 |0,_,_=>none
 |F+1,st,c=>match st.cs[c]? with
  |none=>none
  |some C=>if C.ma=1 then some (st,false) else match C.tm with
   |none=>if C.mx=true then some (st,false) else if C.ma=2 then some (st,true) else some (dZ st c {C with ma:=2,sz:=1,dp:=1},true)
   |some x=>if C.ma=2 then some (st,true) else match T[x]? with
    |none=>none
    |some X=>match Uh T F (GZ T F) c x (dZ st c {C with ma:=1,sz:=1,dp:=1}) X.ks with
     |none=>none
     |some (st1,false)=>some (st1,false)
     |some (st1,true)=>match st1.cs[c]? with
      |none=>none
      |some C1=>some (dZ st1 c {C1 with ma:=2},true)
def KU (T:List Nr) (st:St) (i:Nat):Bool:=match T[i]? with
 |none=>false
 |some r=>if r.so=au then(rQ st.ns i).isSome else(rQ st.vs r.nm).isSome
theorem ZF {F i r:Nat} {st st':St} (hf:(rQ st.ns i).isSome=true) (h:TJ F st i=some (st',r)):st'=st:=by
 unfold TJ at h;cases hx:rQ st.ns i with
 |none=>rw[hx] at hf;cases hf
 |some c=>
  rw[hx] at h;simp only at h;cases hr:kD st.cs F c with
  |none=>rw[hr] at h;cases h
  |some q=>rw[hr] at h;simp only[Option.map_some,Option.some.injEq,Prod.mk.injEq] at h;exact h.1.symm
theorem EU {F r:Nat} {st st':St} {nm so:By} (hf:(rQ st.vs nm).isSome=true) (h:sH F st nm so=some (st',r)):st'=st:=by
 unfold sH at h;cases hx:rQ st.vs nm with
 |none=>rw[hx] at hf;cases hf
 |some c=>
  rw[hx] at h;simp only at h;cases hr:kD st.cs F c with
  |none=>rw[hr] at h;cases h
  |some q=>rw[hr] at h;simp only[Option.map_some,Option.some.injEq,Prod.mk.injEq] at h;exact h.1.symm
def Hr (T:List Nr) (F:Nat) (st:St) (va:Nat->Option Tm) (c x:Nat):List Nat->Option (List Tm)
 |[]=>some []
 |k::ks=>if KU T st k=true then match jQ T F st k with
  |none=>none
  |some (_,y)=>match va y with
   |none=>none
   |some t=>match Hr T F st va c x ks with
    |none=>none
    |some L=>some (t::L)
  else none
def Pv (T:List Nr) (st:St):Nat->Nat->Option Tm
 |0,_=>none
 |F+1,c=>match st.cs[c]? with
  |none=>none
  |some C=>match C.tm with
   |none=>some (.mk C.nm C.so [])
   |some x=>match T[x]? with
    |none=>none
    |some X=>(Hr T F st (Pv T st F) c x X.ks).map fun L=> .mk X.nm au L
theorem Un {T:List Nr} {F:Nat} {st:St} {va:Nat->Option Tm} {c x:Nat}: ∀{ks:List Nat} {L:List Tm},Hr T F st va c x ks=some L->L.length=ks.length
 |[],L,h=>by unfold Hr at h;injection h with h;rw[<-h];rfl
 |k::ks,L,h=>by
  unfold Hr at h;by_cases hf:KU T st k=true
  .rw [if_pos hf] at h;cases hc:jQ T F st k with
   |none=>rw[hc] at h;cases h
   |some q=>
    obtain⟨s1,y⟩:=q;rw[hc] at h;simp only at h;cases hv:va y with
    |none=>rw[hv] at h;cases h
    |some t=>
     rw[hv] at h;simp only at h;cases hr:Hr T F st va c x ks with
     |none=>rw[hr] at h;cases h
     |some L'=>
      rw[hr] at h;simp only[Option.some.injEq] at h;rw[<-h,List.length_cons,List.length_cons,Un hr]
  .rw [if_neg hf] at h;cases h
theorem Yo {T:List Nr} {F:Nat} {st:St} {va:Nat->Option Tm} {c x:Nat}: ∀{ks:List Nat} {L:List Tm},Hr T F st va c x ks=some L->∀k (hk:k<ks.length),KU T st ks[k]=true/\∃s1 y,jQ T F st ks[k]=some (s1,y)/\va y=some (tg L k)
 |[],L,h,k,hk=>absurd hk (Nat.not_lt_zero _)
 |j::ks,L,h,k,hk=>by
  unfold Hr at h;by_cases hf:KU T st j=true
  .rw [if_pos hf] at h;cases hc:jQ T F st j with
   |none=>rw[hc] at h;cases h
   |some q=>
    obtain⟨s1,y⟩:=q;rw[hc] at h;simp only at h;cases hv:va y with
    |none=>rw[hv] at h;cases h
    |some t=>
     rw[hv] at h;simp only at h;cases hr:Hr T F st va c x ks with
     |none=>rw[hr] at h;cases h
     |some L'=>
      rw[hr] at h;simp only[Option.some.injEq] at h;rw[<-h];cases k with
      |zero=>
        exact⟨hf,s1,y,hc,hv⟩
        |succ k=>exact Yo hr k (by simp at hk;omega)
  .rw [if_neg hf] at h;cases h
theorem Fh (st:St) (c:Nat) (x y:Cl):dZ (dZ st c x) c y=dZ st c y:=by
 show({st with cs:=(st.cs.set c x).set c y}:St)={st with cs:=st.cs.set c y};rw[List.set_set]
theorem Ug (st:St) {c:Nat} (h:c<st.cs.length) (x:Cl):(dZ st c x).cs[c]?=some x:=by
 show(st.cs.set c x)[c]?=_;rw[List.getElem?_set,if_pos rfl,if_pos h]
theorem ZQ (st:St) (c:Nat) (x:Cl):(dZ st c x).cs.length=st.cs.length:=List.length_set ..
section
open Go
theorem wK {P:Program} {ops:Array Oper} {w:World} {Q:Act->Prop}: ∀(l:List Oper) (a:Act),wpQuiet P ops (fun w'=> ∃_:Unit,w'=w) Q l a->wpStill P ops w Q l a
 |[],_,h=>h
 |o::rest,a,h=>by
  unfold wpQuiet at h;unfold wpStill;split
  .rename_i hw
   rw[if_pos hw] at h;obtain⟨v,hv,hn⟩:=h;have hv:=hv w ⟨(),rfl⟩;have hn:=wK rest _ hn;unfold Oper.quietAt at hv;unfold Oper.still;generalize (execOp a.eval o).run P w=r at hv;cases r with
   |ok n w'=>
    cases n with
    |value u=>obtain⟨h1,h2⟩:=hv;exact⟨h1,by rw[h2];exact hn⟩
    |skip=>obtain⟨h1,h2⟩:=hv;exact⟨h1,by rw[<-h2];exact hn⟩
    |enter f args=>obtain⟨h1,h2⟩:=hv;exact⟨h1,v,h2.mono (fun e w'' h=>⟨h.1,h.2.elim fun _ h=>h⟩),hn⟩
    |_=>cases hv
   |_=>cases hv
  .rename_i hw
   rw[if_neg hw] at h;exact wK rest _ h
theorem iL {P:Program} {id:Nat} {Q:Exit->Act->World->Prop} {a:Act} {w:World} {l:List Oper} (n:Nat) (hm:P.follows .mixedOrders=true) (hB:Region.lexTailB .any l.toArray n=true)
  (h:wpQuiet P l.toArray (fun w'=> ∃_:Unit,w'={w with drawn:=w.drawn+1}) (fun a'=>wpList P l.toArray Q (l.drop n) a' {w with drawn:=w.drawn+1}) (l.take n) a):(Code.region id l.toArray true).wp P Q a w:=
 wp_region_still_tail n hm hB (wK _ _ h)
end
abbrev Su:=By->By->Tm
abbrev vr (n s:By):Tm:= .mk n s []
def dJ (t:Tm):List Vd:=vl (bC t)
theorem uX (n:By) (L:List Tm):dJ (.mk n au L)=L.flatMap dJ:=by
 unfold dJ;rw[mg];have h1: ∀M:List Tm,vl (M.flatMap bC)=M.flatMap (fun x=>vl (bC x)):=by
  intro M
  induction M with
  |nil=>rfl
  |cons x M ih=>rw[List.flatMap_cons,sN,ih,List.flatMap_cons]
 rw[<-List.singleton_append,sN,h1];rfl
theorem m_ {n s:By} (h:s≠au) (L:List Tm):(n,s)∈dJ (.mk n s L):=by
 unfold dJ vl;rw[List.mem_filterMap];exact⟨_,jJ _,by simp[Tm.sort,Tm.name,h]⟩
theorem JC {t:Tm} {f:Vd} (h:f∈dJ t):f.2≠au:=by
 unfold dJ vl at h;rw[List.mem_filterMap] at h;obtain⟨x,_,hx⟩:=h;by_cases e:x.sort=au
 .rw [if_pos e] at hx;cases hx
 .rw [if_neg e] at hx;injection hx with hx
  rw[<-hx];exact e
theorem Qg {n s:By} (h:s≠au):dJ (vr n s)=[(n,s)]:=by
 unfold dJ;rw[mg];simp[vl,Tm.sort,Tm.name,Tm.kids,h]
theorem Bh {t x:Tm} (h:x∈t.kids) {f:Vd} (hf:f∈dJ x):f∈dJ t:=by
 unfold dJ vl at*;rw[List.mem_filterMap] at*;obtain⟨y,hy,e⟩:=hf;exact⟨y,lq h hy,e⟩
theorem pz (σ:Su) {n s:By} (h:s≠au) (L:List Tm):iH σ (.mk n s L)=σ n s:=by
 unfold iH;rw[if_neg h]
theorem tC (σ:Su) (n:By) (L:List Tm):iH σ (.mk n au L)= .mk n au (L.map (iH σ)):=YF σ rfl
theorem YN {σ τ:Su}: ∀t:Tm,(∀f∈dJ t,σ f.1 f.2=τ f.1 f.2)->iH σ t=iH τ t:=by
 refine Tm.ind (fun n s L ih h=>?_);by_cases hs:s=au
 .subst hs;rw[tC,tC]
  congr 1
  refine List.map_congr_left (fun x hx=>ih x hx (fun f hf=>h f ?_));rw[uX];exact List.mem_flatMap.2 ⟨x,hx,hf⟩
 .rw [pz σ hs,pz τ hs];exact h _ (m_ hs L)
abbrev Bd:=By×By×Tm
def bJ (s:List Bd) (n:By):Option Tm:=(s.find? fun b=>decide (b.1=n)).map (·.2.2)
theorem xA (b:Bd) (s:List Bd) (n:By):bJ (b::s) n=if b.1=n then some b.2.2 else bJ s n:=by
 unfold bJ;rw[List.find?_cons];by_cases h:b.1=n
 .rw [if_pos h,dT h];rfl
 .rw [if_neg h,dF h]
theorem Gg (s:List Bd) (b:Bd) (n:By):bJ (s++[b]) n=(bJ s n).or (if b.1=n then some b.2.2 else none):=by
 induction s with
 |nil=>rw[List.nil_append,xA];unfold bJ;simp
 |cons a s ih=>
  rw[List.cons_append,xA,xA,ih];by_cases h:a.1=n
  .rw [if_pos h,if_pos h];rfl
  .rw [if_neg h,if_neg h]
theorem tH {s:List Bd} {n:By} {t:Tm} (h:bJ s n=some t): ∃b∈s,b.1=n/\b.2.2=t:=by
 induction s with
 |nil=>cases h
 |cons a s ih=>
  rw[xA] at h;by_cases h1:a.1=n
  .rw [if_pos h1] at h;injection h with h
   exact⟨a,List.mem_cons_self ..,h1,h⟩
  .rw [if_neg h1] at h;obtain⟨b,hb,h2⟩:=ih h;exact⟨b,List.mem_cons_of_mem _ hb,h2⟩
theorem YO {s:List Bd} {n:By} (h:bJ s n=none): ∀b∈s,b.1≠n:=by
 induction s with
 |nil=>intro b hb;cases hb
 |cons a s ih=>
  rw[xA] at h;by_cases h1:a.1=n
  .rw [if_pos h1] at h;cases h
  .rw [if_neg h1] at h;intro b hb;rcases List.mem_cons.1 hb with e|hb
   .rw [e];exact h1
   .exact ih h b hb
section
section
variable {X:List Vd} {tm:Nat×Nat->Tm} {kid:Nat×Nat->Nat->Nat×Nat} {Ok:Nat×Nat->Prop}
end
end
section
section
variable {X:List Vd} {tm:Nat×Nat->Tm} {kid:Nat×Nat->Nat->Nat×Nat} {Ok:Nat×Nat->Prop}
end
end
mutual
def jT:Tm->Tm->List Bd->Option (List Bd)
 | .mk n s L,t,B=>
  if s=au then(if t.sort=au/\t.name=n/\t.kids.length=L.length then rC L t.kids B else none)
  else if t.sort≠au/\t.sort≠s then none
  else match bJ B n with
   |some x=>if x=t then some B else none
   |none=>some (B++[(n,s,t)])
def rC:List Tm->List Tm->List Bd->Option (List Bd)
 |[],_,B=>some B
 |_::_,[],_=>none
 |a::L,b::M,B=>match jT a b B with
  |none=>none
  |some C=>rC L M C
end
theorem PZ {n:By} {L:List Tm} {t:Tm} {B:List Bd} (h:t.sort=au/\t.name=n/\t.kids.length=L.length):jT (.mk n au L) t B=rC L t.kids B:=by
 unfold jT;rw[if_pos rfl,if_pos h]
theorem E5 {n:By} {L:List Tm} {t:Tm} {B:List Bd} (h: ¬(t.sort=au/\t.name=n/\t.kids.length=L.length)):jT (.mk n au L) t B=none:=by
 unfold jT;rw[if_pos rfl,if_neg h]
theorem B_ {n s:By} {L:List Tm} {t:Tm} {B:List Bd} (hs:s≠au) (h:t.sort≠au/\t.sort≠s):jT (.mk n s L) t B=none:=by
 unfold jT;rw[if_neg hs,if_pos h]
theorem BZ {n s:By} {L:List Tm} {t x:Tm} {B:List Bd} (hs:s≠au) (h: ¬(t.sort≠au/\t.sort≠s)) (hb:bJ B n=some x):jT (.mk n s L) t B=if x=t then some B else none:=by
 unfold jT;rw[if_neg hs,if_neg h,hb]
theorem Gn {n s:By} {L:List Tm} {t:Tm} {B:List Bd} (hs:s≠au) (h: ¬(t.sort≠au/\t.sort≠s)) (hb:bJ B n=none):jT (.mk n s L) t B=some (B++[(n,s,t)]):=by
 unfold jT;rw[if_neg hs,if_neg h,hb]
theorem Gt (L:List Tm) (k:Nat) (h:k<L.length):L.drop k=tg L k::L.drop (k+1):=by
 rw[List.drop_eq_getElem_cons h];unfold tg;rw[List.getD_eq_getElem?_getD,List.getElem?_eq_getElem h];rfl
theorem ac3 {L M:List Tm} {B:List Bd} {k:Nat} (hL:k<L.length) (hM:k<M.length):
  rC (L.drop k) (M.drop k) B=match jT (tg L k) (tg M k) B with|none=>none|some C=>rC (L.drop (k+1)) (M.drop (k+1)) C:=by
 rw[Gt L k hL,Gt M k hM]
 conv=>lhs;unfold rC
def gG (B:List Bd):Su:=fun n s=>(bJ B n).getD (vr n s)
structure qP (X:List Vd) (Y:Tm->Prop) (B:List Bd):Prop where
 inX: ∀b∈B,(b.1,b.2.1)∈X
 dist:B.Pairwise fun a b=>a.1≠b.1
 val: ∀b∈B,Y b.2.2
 srt: ∀b∈B,b.2.2.sort≠au->b.2.2.sort=b.2.1
theorem qP.nil (X:List Vd) (Y:Tm->Prop):qP X Y []:=⟨fun _ h=>(by cases h),List.Pairwise.nil,fun _ h=>(by cases h),fun _ h=>(by cases h)⟩
theorem Bj {X:List Vd} {Y:Tm->Prop} (hY: ∀t x,Y t->x∈t.kids->Y x): ∀(p t:Tm) (B C:List Bd),jT p t B=some C->vH p->(∀f∈dJ p,f∈X)->Y t->qP X Y B->qP X Y C/\(∀n x,bJ B n=some x->bJ C n=some x)/\(∀f∈dJ p,∃x,bJ C f.1=some x)/\∀D:List Bd,(∀n x,bJ C n=some x->bJ D n=some x)->iH (gG D) p=t:=by
 refine Tm.ind (fun n s L ih=>?_);intro t B C h hp hv ht hI;by_cases hs:s=au
 .subst hs;by_cases hc:t.sort=au/\t.name=n/\t.kids.length=L.length
  .rw [PZ hc] at h;have key: ∀(L M:List Tm),(∀x∈L,∀(t:Tm) (B C:List Bd),jT x t B=some C->vH x->(∀f∈dJ x,f∈X)->Y t->qP X Y B->qP X Y C/\(∀n x,bJ B n=some x->bJ C n=some x)/\(∀f∈dJ x,∃y,bJ C f.1=some y)/\∀D:List Bd,(∀n x,bJ C n=some x->bJ D n=some x)->iH (gG D) x=t)->
     M.length=L.length->(∀x∈L,vH x)->(∀x∈L,∀f∈dJ x,f∈X)->(∀y∈M,Y y)->∀B C,rC L M B=some C->qP X Y B->qP X Y C/\(∀n x,bJ B n=some x->bJ C n=some x)/\(∀x∈L,∀f∈dJ x,∃y,bJ C f.1=some y)/\∀D:List Bd,(∀n x,bJ C n=some x->bJ D n=some x)->L.map (iH (gG D))=M:=by
    intro L
    induction L with
    |nil=>
     intro M _ hl _ _ _ B C h hI;have hM:M=[]:=List.eq_nil_of_length_eq_zero hl;subst hM;unfold rC at h;injection h with h
     subst h;exact⟨hI,fun _ _ e=>e,fun x hx=>(by cases hx),fun _ _=>rfl⟩
    |cons a L ihL=>
     intro M hx hl hn hvv hYM B C h hI
     match M,hl with
     |b::M,hl=>
      unfold rC at h;cases hm:jT a b B with
      |none=>rw[hm] at h;cases h
      |some E=>
       rw[hm] at h;obtain⟨h1,h2,h3,h4⟩:=hx a (List.mem_cons_self ..) b B E hm (hn a (List.mem_cons_self ..)) (hvv a (List.mem_cons_self ..)) (hYM b (List.mem_cons_self ..)) hI;obtain⟨g1,g2,g3,g4⟩:=ihL M (fun x hx'=>hx x (List.mem_cons_of_mem _ hx')) (by simpa using hl) (fun x hx'=>hn x (List.mem_cons_of_mem _ hx')) (fun x hx'=>hvv x (List.mem_cons_of_mem _ hx')) (fun y hy=>hYM y (List.mem_cons_of_mem _ hy)) E C h h1;refine⟨g1,fun n x e=>g2 n x (h2 n x e),fun x hx' f hf=>?_,fun D hD=>?_⟩
       .rcases List.mem_cons.1 hx' with e|hx'
        .subst e;obtain⟨y,hy⟩:=h3 f hf;exact⟨y,g2 _ _ hy⟩
        .exact g3 x hx' f hf
       .rw [List.map_cons,h4 D (fun n x e=>hD n x (g2 n x e)),g4 D hD]
   obtain⟨h1,h2,h3,h4⟩:=key L t.kids ih hc.2.2 (fun x hx=>hp.kid hx) (fun x hx f hf=>hv f (by rw[uX];exact List.mem_flatMap.2 ⟨x,hx,hf⟩)) (fun y hy=>hY t y ht hy) B C h hI;refine⟨h1,h2,fun f hf=>?_,fun D hD=>?_⟩
   .rw [uX] at hf;obtain⟨x,hx,hf⟩:=List.mem_flatMap.1 hf;exact h3 x hx f hf
   .rw [tC,h4 D hD,<-hc.2.1,<-hc.1];exact eta t
  .rw [E5 hc] at h;cases h
 .have hL:L=[]:=hp _ (jJ _) hs;subst hL;have hnX:=hv _ (m_ hs []);by_cases hc:t.sort≠au/\t.sort≠s
  .rw [B_ hs hc] at h;cases h
  .cases hx:bJ B n with
   |some x=>
    rw[BZ hs hc hx] at h;by_cases e:x=t
    .rw [if_pos e] at h;injection h with h
     subst h;refine⟨hI,fun _ _ e=>e,fun f hf=>?_,fun D hD=>?_⟩
     .rw [Qg hs,List.mem_singleton] at hf;rw[hf];exact⟨x,hx⟩
     .rw [pz _ hs];show(bJ D n).getD _=t;rw[hD n x hx,Option.getD_some,e]
    .rw [if_neg e] at h;cases h
   |none=>
    rw[Gn hs hc hx] at h;injection h with h
    subst h;have hget: ∀m x,bJ B m=some x->bJ (B++[(n,s,t)]) m=some x:=fun m x e=>by rw[Gg,e];rfl
    have hn2:bJ (B++[(n,s,t)]) n=some t:=by rw[Gg,hx];show(if n=n then some t else none)=some t;rw[if_pos rfl]
    refine⟨⟨fun b hb=>?_,?_,fun b hb=>?_,fun b hb hsb=>?_⟩,hget,fun f hf=>?_,fun D hD=>?_⟩
    .rcases List.mem_append.1 hb with hb|hb
     .exact hI.inX b hb
     .rw [List.mem_singleton] at hb;rw[hb];exact hnX
    .rw [List.pairwise_append];refine⟨hI.dist,List.pairwise_singleton _ _,fun a ha b hb=>?_⟩;rw[List.mem_singleton] at hb;rw[hb];exact YO hx a ha
    .rcases List.mem_append.1 hb with hb|hb
     .exact hI.val b hb
     .rw [List.mem_singleton] at hb;rw[hb];exact ht
    .rcases List.mem_append.1 hb with hb|hb
     .exact hI.srt b hb hsb
     .rw [List.mem_singleton] at hb;subst hb;by_cases e:t.sort=s
      .exact e
      .exact absurd ⟨hsb,e⟩ hc
    .rw [Qg hs,List.mem_singleton] at hf;rw[hf];exact⟨t,hn2⟩
    .rw [pz _ hs];show(bJ D n).getD _=t;rw[hD n t hn2,Option.getD_some]
section
section
variable (nm:By->Bool)
def oU (s:List Bd) (i:Nat):Bool:=
 nm (xB s i).1&&nm (xB s i).2.1&&(decide (i=0)||blt (xB s (i-1)).1 (xB s i).1)&&wf nm (xB s i).2.2&&(decide ((xB s i).2.2.sort=au)||(decide ((xB s i).2.2.sort=(xB s i).2.1)&&!decide ((xB s i).2.2.name=(xB s i).1)))
where xB (s:List Bd) (i:Nat):Bd:=s.getD i (au,au,default)
def rD (s:List Bd):Bool:=decide (s.length<=1000)&&(List.range s.length).all (oU nm s)
def u_ (s:List Bd) (n:By):Option By:=(s.find? fun b=>decide (b.1=n)).map (·.2.1)
def bI (s:List Bd) (t:Tm):Tm:=iH (gG s) t
def Vp (s:List Bd) (t:Tm):Bool:=(aV t).any fun f=>match u_ s f.1 with|some so=>!decide (so=f.2)|none=>false
def app1 (s:List Bd) (t:Tm):Tm×Int:=
 if Vp s t=true then(.mk au au [],11) else if 1000< (bI s t).size\/60< (bI s t).depth then(.mk au au [],4) else if wf nm (bI s t)=false then(.mk au au [],11) else(bI s t,0)
def Fe (s:List Bd) (t:Tm):Tm×Int:=if(rD nm s&&wf nm t)=true then app1 nm s t else(.mk au au [],1)
end
theorem XL {s:List Bd} {n:By}:u_ s n=none<->bJ s n=none:=by
 unfold u_ bJ;cases s.find? _<;>simp
theorem TM {s:List Bd} (hd:s.Pairwise fun a b=>a.1≠b.1) {b:Bd} (hb:b∈s):bJ s b.1=some b.2.2/\u_ s b.1=some b.2.1:=by
 induction s with
 |nil=>cases hb
 |cons a s ih=>
  obtain⟨h1,h2⟩:=List.pairwise_cons.1 hd;unfold bJ u_;rw[List.find?_cons];rcases List.mem_cons.1 hb with e|hb
  .subst e;rw[dT rfl];exact⟨rfl,rfl⟩
  .rw [dF (h1 b hb)];exact ih h2 hb
theorem Qc {l:List Bd} (h:AscK (Prod.fst:Bd->By) l):l.Pairwise fun a b=>a.1≠b.1:=h.imp (fun{a b} hab e=>by rw[e,iD] at hab;cases hab)
theorem TQ {nm:By->Bool} {s:List Bd} (h:rD nm s=true):s.length<=1000/\∀i,i<s.length->oU nm s i=true:=by
 unfold rD at h;rw[Bool.and_eq_true,decide_eq_true_eq,List.all_eq_true] at h;exact⟨h.1,fun i hi=>h.2 i (List.mem_range.2 hi)⟩
theorem E_ {nm:By->Bool} {s:List Bd} (h:rD nm s=true):s.length<=1000/\AscK (Prod.fst:Bd->By) s/\∀b∈s,nm b.1=true/\nm b.2.1=true/\wf nm b.2.2=true/\(b.2.2.sort≠au->b.2.2.sort=b.2.1/\b.2.2.name≠b.1):=by
 obtain⟨h1,h2⟩:=TQ h;have hg: ∀i (hi:i<s.length),oU.xB s i=s[i]:=fun i hi=>by unfold oU.xB;rw[List.getD_eq_getElem?_getD,List.getElem?_eq_getElem hi];rfl
 have hp: ∀i (hi:i<s.length),nm s[i].1=true/\nm s[i].2.1=true/\(i=0\/blt (oU.xB s (i-1)).1 s[i].1=true)/\wf nm s[i].2.2=true/\(s[i].2.2.sort≠au->s[i].2.2.sort=s[i].2.1/\s[i].2.2.name≠s[i].1):=fun i hi=>by
  have h3:=h2 i hi;unfold oU at h3;rw[hg i hi] at h3;simp only[Bool.and_eq_true,Bool.or_eq_true,decide_eq_true_eq,Bool.not_eq_true',decide_eq_false_iff_not] at h3;obtain⟨⟨⟨⟨a,b⟩,c⟩,d⟩,e⟩:=h3;exact⟨a,b,c,d,fun hs=>e.resolve_left hs⟩
 refine⟨h1,?_,fun b hb=>?_⟩
 .have hstep: ∀i,i+1<s.length->blt (oU.xB s i).1 (oU.xB s (i+1)).1=true:=fun i hi=>by
   have:=(hp (i+1) hi).2.2.1;rw[hg (i+1) hi];exact this.resolve_left (by omega)
  have hlt: ∀d i,i+d+1<s.length->blt (oU.xB s i).1 (oU.xB s (i+d+1)).1=true:=by
   intro d
   induction d with
   |zero=>intro i hi;exact hstep i hi
   |succ d ih=>
    intro i hi;exact oz (ih i (by omega)) (hstep (i+d+1) (by omega))
  unfold AscK;rw[List.pairwise_iff_getElem];intro i j hi hj hij;have:=hlt (j-i-1) i (by omega);rw[show i+(j-i-1)+1=j by omega,hg i hi,hg j hj] at this;exact this
 .obtain ⟨i,hi,rfl⟩:=List.getElem_of_mem hb;obtain⟨a,b,_,d,e⟩:=hp i hi;exact⟨a,b,d,e⟩
end
section
open Go.ChangeMaps
def vK (es:List MapEntry) (N:List ByteArray):Prop:=es.map (·.key)=N.map Value.string
theorem vK.of {es:List MapEntry} {l:List (ByteArray×Value)} (h:es.map (fun e=>(e.key,e.val))=l.map (fun p=>(Value.string p.1,p.2))):vK es (l.map (·.1)):=by
 have:=congrArg (List.map Prod.fst) h;unfold vK;rw[List.map_map,List.map_map] at this;rw[List.map_map];exact this
theorem vK.name {es:List MapEntry} {N:List ByteArray} (h:vK es N) {e:MapEntry} (he:e∈es): ∃n∈N,e.key= .string n:=by
 have h1:e.key∈N.map Value.string:=by rw[<-h];exact List.mem_map.2 ⟨e,he,rfl⟩
 obtain⟨n,hn,h2⟩:=List.mem_map.1 h1;exact⟨n,hn,h2.symm⟩
theorem vK.ent {es:List MapEntry} {N:List ByteArray} (h:vK es N) {n:ByteArray} (hn:n∈N): ∃e∈es,e.key= .string n:=by
 have h1:Value.string n∈es.map (·.key):=by rw[h];exact List.mem_map.2 ⟨n,hn,rfl⟩
 obtain⟨e,he,h2⟩:=List.mem_map.1 h1;exact⟨e,he,h2⟩
theorem vK.uniq {es:List MapEntry} {N:List ByteArray} (h:vK es N) (hd:N.Nodup) {x y:MapEntry} (hx:x∈es) (hy:y∈es) (hk:x.key=y.key):x=y:=by
 have hnd:(es.map (·.key)).Nodup:=by
  rw[h];exact List.Pairwise.map _ (fun a b hab e=>hab (by injection e)) hd
 obtain⟨i,hi,rfl⟩:=List.getElem_of_mem hx;obtain⟨j,hj,rfl⟩:=List.getElem_of_mem hy;have hij:=(List.pairwise_iff_getElem.1 hnd)
 rcases Nat.lt_trichotomy i j with h2|h2|h2
 .exact absurd (by rw[List.getElem_map,List.getElem_map];exact hk) (hij i j (by simpa using hi) (by simpa using hj) h2)
 .subst h2;rfl
 .exact absurd (by rw[List.getElem_map,List.getElem_map];exact hk.symm) (hij j i (by simpa using hj) (by simpa using hi) h2)
theorem wL (s:Array Nat) (n k:Nat):(s.push n).contains k=(s.contains k||(k==n)):=by
 rw[Array.contains_push]
 try(cases s.contains k<;>cases(k==n)<;>rfl)
structure uS (es:List MapEntry) (seen:Array Nat) (D:List ByteArray):Prop where
 dn:D.Nodup
 sub: ∀n∈D,∃e∈es,e.key= .string n/\seen.contains e.born=true
 all: ∀e∈es,seen.contains e.born=true->∃n∈D,e.key= .string n
theorem uS.start (es:List MapEntry):uS es #[] []:=⟨List.nodup_nil,fun n h=>(by cases h),fun e _ h=>(by simp at h)⟩
theorem uS.next {es:List MapEntry} {seen:Array Nat} {D N:List ByteArray} (hm:vK es N) (hd:N.Nodup) (hn:(es.map (·.born)).Nodup) (h:uS es seen D) {e:MapEntry} (he:e∈es) (hs:seen.contains e.born=false) {n:ByteArray} (hk:e.key= .string n):uS es (seen.push e.born) (D++[n]):=by
 refine⟨?_,fun m hm2=>?_,fun x hx hsx=>?_⟩
 .rw [List.nodup_append];refine⟨h.dn,by simp,fun a ha b hb e2=>?_⟩;rw[List.mem_singleton] at hb;subst hb;subst e2;obtain⟨x,hx,hkx,c⟩:=h.sub a ha;have hxe:x=e:=hm.uniq hd hx he (by rw[hkx,hk]);rw[hxe,hs] at c;cases c
 .rcases List.mem_append.1 hm2 with hm2|hm2
  .obtain ⟨x,hx,a,b⟩:=h.sub m hm2;exact⟨x,hx,a,by rw[wL,b];rfl⟩
  .rw [List.mem_singleton] at hm2;subst hm2;exact⟨e,he,hk,by rw[wL,beq_self_eq_true,Bool.or_true]⟩
 .rw [wL,Bool.or_eq_true,beq_iff_eq] at hsx;rcases hsx with hsx|hsx
  .obtain ⟨m,h1,h2⟩:=h.all x hx hsx;exact⟨m,List.mem_append_left _ h1,h2⟩
  .have hxe:x=e:=born_inj hn hx he hsx;rw[hxe];exact⟨n,List.mem_append_right _ (List.mem_singleton.2 rfl),hk⟩
theorem uS.fin {es:Array MapEntry} {seen:Array Nat} {D N:List ByteArray} (hm:vK es.toList N) (h:uS es.toList seen D) (h0:(leftOf es seen).size=0): ∀n,n∈D<->n∈N:=fun n=>
 ⟨fun hn=>by
  obtain⟨e,he,hk,_⟩:=h.sub n hn;obtain⟨m,hm2,hk2⟩:=hm.name he;rw[hk] at hk2;injection hk2 with hk2
  rw[hk2];exact hm2,fun hn=>by
  obtain⟨e,he,hk⟩:=hm.ent hn;obtain⟨m,hm2,hk2⟩:=h.all e he (all_seen es seen h0 e he);rw[hk] at hk2;injection hk2 with hk2
  rw[hk2];exact hm2⟩
theorem uS.sub' {es:List MapEntry} {seen:Array Nat} {D N:List ByteArray} (hm:vK es N) (h:uS es seen D): ∀n∈D,n∈N:=fun n hn=>by
 obtain⟨e,he,hk,_⟩:=h.sub n hn;obtain⟨m,hm2,hk2⟩:=hm.name he;rw[hk] at hk2;injection hk2 with hk2
 rw[hk2];exact hm2
theorem uS.alike {es es':List MapEntry} {seen:Array Nat} {D:List ByteArray} (h:uS es seen D) (he:es.map (fun e=>(e.key,e.born))=es'.map (fun e=>(e.key,e.born))):uS es' seen D:=by
 have h1: ∀e'∈es',∃e∈es,e.key=e'.key/\e.born=e'.born:=fun e' h'=>by
  have:(e'.key,e'.born)∈es.map (fun e=>(e.key,e.born)):=by rw[he];exact List.mem_map.2 ⟨e',h',rfl⟩
  obtain⟨e,h2,h3⟩:=List.mem_map.1 this;injection h3 with h4 h5
  exact⟨e,h2,h4,h5⟩
 have h2: ∀e∈es,∃e'∈es',e'.key=e.key/\e'.born=e.born:=fun e h'=>by
  have:(e.key,e.born)∈es'.map (fun e=>(e.key,e.born)):=by rw[<-he];exact List.mem_map.2 ⟨e,h',rfl⟩
  obtain⟨e,h2,h3⟩:=List.mem_map.1 this;injection h3 with h4 h5
  exact⟨e,h2,h4,h5⟩
 refine⟨h.dn,fun n hn=>?_,fun e' h' hs=>?_⟩
 .obtain ⟨e,h3,hk,hs⟩:=h.sub n hn;obtain⟨e',h4,h5,h6⟩:=h2 e h3;exact⟨e',h4,h5.trans hk,by rw[h6];exact hs⟩
 .obtain ⟨e,h3,h4,h5⟩:=h1 e' h';obtain⟨n,hn,hk⟩:=h.all e h3 (by rw[h5];exact hs);exact⟨n,hn,h4.symm.trans hk⟩
end
section
abbrev bg (l:List Bd) (i:Nat):Bd:=l.getD i (au,au,default)
def iQ:List Bd->List Value->List Value
 |[],_=>[]
 |b::l,us=> .string b.1:: .string b.2.1:: .string b.2.2.name:: .string b.2.2.sort::us.headD tX::iQ l us.tail
theorem LC: ∀(l:List Bd) (us:List Value) (i:Nat),i<l.length->
  (iQ l us)[i*5]?=some (.string (bg l i).1)/\(iQ l us)[i*5+1]?=some (.string (bg l i).2.1)/\(iQ l us)[i*5+2]?=some (.string (bg l i).2.2.name)/\(iQ l us)[i*5+3]?=some (.string (bg l i).2.2.sort)/\(iQ l us)[i*5+4]?=some (ug us i)
 |b::l,us,0,_=>by
  refine⟨rfl,rfl,rfl,rfl,?_⟩;cases us<;>rfl
 |b::l,us,i+1,h=>by
  obtain⟨h0,h1,h2,h3,h4⟩:=LC l us.tail i (by simpa using h);have e: ∀k,(iQ (b::l) us)[(i+1)*5+k]?=(iQ l us.tail)[i*5+k]?:=fun k=>by
   rw[show(i+1)*5+k=i*5+k+1+1+1+1+1 by omega];rfl
  refine⟨by rw[<-Nat.add_zero ((i+1)*5),e];exact h0,by rw[e];exact h1,by rw[e];exact h2,by rw[e];exact h3,?_⟩;rw[e,h4];cases us<;>rfl
theorem IQ: ∀(l m:List Bd) (us vs:List Value),us.length=l.length->iQ (l++m) (us++vs)=iQ l us++iQ m vs
 |[],m,[],vs,_=>rfl
 |a::l,m,b::us,vs,h=>by
  have:=IQ l m us vs (by simpa using h);simp only[List.cons_append,iQ,List.headD_cons,List.tail_cons,this]
theorem IU (l:List Bd): ∀(us:List Value),(∀u∈us,u.oneCell'=true)->∀u∈iQ l us,u.oneCell'=true:=by
 induction l with
 |nil=>intro us _ u hu;cases hu
 |cons b l ih=>
  intro us hus u hu;simp only[iQ,List.mem_cons] at hu;rcases hu with h|h|h|h|h|h
  .subst h;rfl
  .subst h;rfl
  .subst h;rfl
  .subst h;rfl
  .subst h;cases us with
   |nil=>rfl
   |cons a us=>exact hus a (List.mem_cons_self ..)
  .exact ih us.tail (fun v hv=>hus v (List.mem_of_mem_tail hv)) u h
theorem IV {l:List Bd} {i:Nat} (h:i<l.length):bg l i∈l:=by unfold bg;rw[List.getD_eq_getElem?_getD,List.getElem?_eq_getElem h];exact List.getElem_mem h
def iM (R S:Nat->Prop) (w:World) (v:Value) (l:List Bd):Prop:= ∃us,us.length=l.length/\aG R w 5 v l.length (iQ l us)/\∀i,i<l.length->aI S w (bg l i).2.2.kids (ug us i)
section
variable {R S T Q F:Nat->Prop} {w w':World} {l:List Bd} {v:Value}
theorem iM.nil (R S:Nat->Prop) (w:World):iM R S w tX []:=⟨[],rfl,aG.nil _ _ _,fun i h=>by cases h⟩
theorem iM.shape (h:iM R S w v l): ∃a cap,v= .slice a l.length cap:=by
 obtain⟨us,_,h,_⟩:=h;exact h.shape
theorem iM.kept (h:iM R S w v l) (hu:aC F w w') (hR: ∀k,R k->¬F k) (hS: ∀k,S k->¬F k):iM R S w' v l:=by
 obtain⟨us,h1,h2,h3⟩:=h;exact⟨us,h1,h2.kept hu hR,fun i hi=>(h3 i hi).kept hu hS⟩
theorem iM.ext (h:iM R S w v l) (hu:Ext w w'):iM R S w' v l:=h.kept hu (fun _ _ h=>h) (fun _ _ h=>h)
theorem iM.weaken (h:iM R S w v l) (hr: ∀k,R k->Q k) (hs: ∀k,S k->T k):iM Q T w v l:=by
 obtain⟨us,h1,h2,h3⟩:=h;exact⟨us,h1,h2.weaken hr,fun i hi=>(h3 i hi).weaken hs⟩
theorem iM.at_ {a:Option Addr} {n cap:Nat} (h:iM R S w (.slice a n cap) l) (hl:0<l.length):
  ∃g off,a=some ⟨g,off,none⟩/\R g/\∀i,i<l.length->∃ka kc,w.cell? ⟨g,off+i*5,none⟩=some (.string (bg l i).1)/\w.cell? ⟨g,off+i*5+1,none⟩=some (.string (bg l i).2.1)/\
   w.cell? ⟨g,off+i*5+2,none⟩=some (.string (bg l i).2.2.name)/\w.cell? ⟨g,off+i*5+3,none⟩=some (.string (bg l i).2.2.sort)/\w.cell? ⟨g,off+i*5+4,none⟩=some (.slice ka (bg l i).2.2.kids.length kc)/\aI S w (bg l i).2.2.kids (.slice ka (bg l i).2.2.kids.length kc):=by
 obtain⟨us,hl2,h,hk⟩:=h;obtain⟨g,off,cap',e,hc,hS,hj⟩:=h.pos hl;injection e with e1 e2 e3
 refine⟨g,off,e1,hS,fun i hi=>?_⟩;obtain⟨h0,h1,h2,h3,h4⟩:=LC l us i hi;obtain⟨ka,kc,e'⟩:=(hk i hi).shape;have hk':=hk i hi;rw[e'] at hk' h4;exact⟨ka,kc,by rw[hj _ (by omega),h0],by rw[Nat.add_assoc,hj _ (by omega),h1],by rw[Nat.add_assoc,hj _ (by omega),h2],by rw[Nat.add_assoc,hj _ (by omega),h3],by rw[Nat.add_assoc,hj _ (by omega),h4],hk'⟩
end
end
end Go.Hw
namespace Go.Hw.PF
open Go.RowKit Go.Hw
section
section
variable {P:Program} {ops:Array Oper} {Q:Exit->Act->World->Prop} {α:Type} {w0:World} {Qt:Act->World->Prop} {dp:Nat->List Nat} {n:Nat} {md:Region.Mode} {fl:List Nat} {jF:Nat}
variable {ann:Nat->Option (dD α)}
end
end
end Go.Hw.PF
namespace Go.Hw
open Go.RowKit Tm
theorem aP.vk {te:TypeId} {w:World} {B:Nat->Prop} {L:List Tm} {v:Value} (h:aP te w B L v) (hne:0<L.length): ∃(g cap:Nat) (us:Nat->Value) (Bk:Nat->Nat->Prop),v= .slice (some ⟨g,0,none⟩) L.length cap/\Plain w g/\B g/\
  (∀i,i<L.length->w.cell? ⟨g,i*3,none⟩=some (.string (tg L i).name)/\w.cell? ⟨g,i*3+1,none⟩=some (.string (tg L i).sort)/\w.cell? ⟨g,i*3+2,none⟩=some (us i))/\
  (∀i,i<L.length->aP te w (Bk i) (tg L i).kids (us i))/\(∀i k,i<L.length->Bk i k->B k/\k≠g)/\∀i j k,i<L.length->j<L.length->i≠j->Bk i k->¬Bk j k:=by
 cases h with
 |mk _ _ us _ Bk hl hown hb hkb hrow hdis hk=>
  have hS:=aG.fM hown;obtain⟨g,off,cap,e,hc,hg,hj⟩:=hS.pos hne;rcases hown.2 with⟨_,h0⟩|⟨g',cap',cur,e',_,h3,_⟩
  .omega
  .have e2:=e.symm.trans e';injection e2 with e3 e4 e5
   injection e3 with e3
   injection e3 with e6 e7
   subst e6 e7;refine⟨g,cap,fun i=>ug us i,Bk,e,⟨_,_,h3⟩,hb g (by rw[e];rfl),fun i hi=>?_,hk,fun i k hi hk2=>⟨hkb i k hi hk2,fun e8=>hrow i k hi hk2 (by rw[e,e8];rfl)⟩,hdis⟩;obtain⟨h0,h1,h2⟩:=zS L us i hi;have j0:=hj (i*3) (by omega);have j1:=hj (i*3+1) (by omega);have j2:=hj (i*3+2) (by omega);rw[Nat.zero_add] at j0 j1 j2;exact⟨by rw[j0,h0],by rw[j1,h1],by rw[j2,h2]⟩
theorem RI: ∀(t:Tm) (d N:Nat),(∀p∈dM d t,p.2<=N)<->d+t.depth<=N+1:=by
 refine Tm.ind (fun n s L ih=>?_);intro d N;rw[kS,kE];simp only[Tm.kids];have key: ∀(L:List Tm) (d:Nat),(∀x∈L,∀d N,(∀p∈dM d x,p.2<=N)<->d+x.depth<=N+1)->d<=N+1->((∀p∈dK d L,p.2<=N)<->d+depths L<=N+1):=by
  intro L
  induction L with
  |nil=>intro d _ hd;exact⟨fun _=>by simpa[depths] using hd,fun _ p hp=>by cases hp⟩
  |cons a L ihL=>
   intro d hx hd;have h1:=hx a (List.mem_cons_self ..) d N;have h2:=ihL d (fun x hx'=>hx x (List.mem_cons_of_mem _ hx')) hd;simp only[dK,depths];constructor
   .intro h;have g1:=h1.1 (fun p hp=>h p (List.mem_append_left _ hp));have g2:=h2.1 (fun p hp=>h p (List.mem_append_right _ hp));omega
   .intro h p hp;rcases List.mem_append.1 hp with hp|hp
    .exact h1.2 (by omega) p hp
    .exact h2.2 (by omega) p hp
 constructor
 .intro h;have h0:d<=N:=h _ (List.mem_cons_self ..);have:=(key L (d+1) ih (by omega)).1 (fun p hp=>h p (List.mem_cons_of_mem _ hp));omega
 .intro h p hp;rcases List.mem_cons.1 hp with e|hp
  .rw [e];show d<=N;omega
  .exact (key L (d+1) ih (by omega)).2 (by omega) p hp
def RJ (nm:By->Bool) (x:Tm):Prop:=nm x.name=true/\x.kids.length<=6/\(x.sort=au\/nm x.sort=true/\x.kids=[])
theorem nX {nm:By->Bool} {t:Tm}:wf nm t=true<->t.size<=1000/\t.depth<=60/\(∀x∈bC t,RJ nm x)/\Cons (dJ t):=by
 unfold wf;rw[Bool.and_eq_true,uh,JD];have hm: ∀P:Tm->Prop,(∀x∈bC t,P x)<->∀p∈dM 1 t,P p.1:=fun P=>by
  unfold bC;rw[uj t 0 1];constructor
  .intro h p hp;exact h _ (List.mem_map_of_mem hp)
  .intro h x hx;obtain⟨p,hp,rfl⟩:=List.mem_map.1 hx;exact h p hp
 have hok: ∀p:Tm×Nat,lC nm p=true<->p.2<=60/\RJ nm p.1:=fun p=>by
  unfold lC RJ;simp only[Bool.and_eq_true,Bool.or_eq_true,decide_eq_true_eq];constructor
  .rintro ⟨h1,h2,h3,h4⟩;refine⟨h1,h2,h3,?_⟩;rcases h4 with h4|⟨h4,h5⟩
   .exact .inl h4
   .exact .inr ⟨h4,List.eq_nil_of_length_eq_zero h5⟩
  .rintro ⟨h1,h2,h3,h4⟩;refine⟨h1,h2,h3,?_⟩;rcases h4 with h4|⟨h4,h5⟩
   .exact .inl h4
   .exact .inr ⟨h4,by rw[h5];rfl⟩
 have hd:=RI t 1 60;have hn:=hm (RJ nm);constructor
 .rintro ⟨⟨h1,h2⟩,h3⟩;exact⟨h1,by have:=hd.1 (fun p hp=>((hok p).1 (h2 p hp)).1);omega,hn.2 (fun p hp=>((hok p).1 (h2 p hp)).2),h3⟩
 .rintro ⟨h1,h2,h3,h4⟩;exact⟨⟨h1,fun p hp=>(hok p).2 ⟨hd.2 (by omega) p hp,hn.1 h3 p hp⟩⟩,h4⟩
theorem aiy {nm:By->Bool} {t:Tm} (h: ∀x∈bC t,RJ nm x):vH t:=fun x hx hs=>(h x hx).2.2.elim (fun e=>absurd e hs) (fun e=>e.2)
theorem UH {nm:By->Bool} {t:Tm} (h:wf nm t=true):vH t:=aiy (nX.1 h).2.2.1
theorem zH {nm:By->Bool} {t:Tm} (h:wf nm t=true):AscK (Prod.fst:Vd->By) (aV t)/\∀f,f∈aV t<->f∈dJ t:=by
 have hs:(jW t).isSome=true:=by
  unfold wf at h;rw[Bool.and_eq_true] at h;exact h.2
 obtain⟨m,hm⟩:=Option.isSome_iff_exists.1 hs;obtain⟨_,h1⟩:=BL (vl (bC t)) [] [] List.Pairwise.nil (fun _=>rfl) (fun _=>Iff.rfl);obtain⟨a,_,b⟩:=h1 m hm;have hnil:Cons []:=fun f hf=>by cases hf
 obtain⟨h2,_⟩:=BK (vl (bC t)) [] hnil;obtain⟨_,c,_⟩:=h2 m hm;refine⟨a,fun f=>?_⟩;show f∈(dO [] (vl (bC t))).1<->f∈vl (bC t);rw[b f,c f];simp
theorem Qz {σ:Su}: ∀t:Tm,∀x∈bC (iH σ t),(∃y∈bC t,y.sort=au/\x.sort=au/\x.name=y.name/\x.kids.length=y.kids.length)\/∃f∈dJ t,x∈bC (σ f.1 f.2):=by
 refine Tm.ind (fun n s L ih=>?_);intro x hx;by_cases hs:s=au
 .subst hs;rw[tC,mg,List.mem_cons] at hx;rcases hx with e|hx
  .subst e;exact .inl ⟨_,jJ _,rfl,rfl,rfl,by simp[Tm.kids]⟩
  .obtain ⟨y,hy,hx⟩:=List.mem_flatMap.1 hx;obtain⟨z,hz,rfl⟩:=List.mem_map.1 hy;rcases ih z hz x hx with⟨y,hy,h⟩|⟨f,hf,h⟩
   .exact .inl ⟨y,lq (t:= .mk n au L) hz hy,h⟩
   .exact .inr ⟨f,by rw[uX];exact List.mem_flatMap.2 ⟨z,hz,hf⟩,h⟩
 .rw [pz σ hs] at hx;exact .inr ⟨_,m_ hs L,hx⟩
end Go.Hw
