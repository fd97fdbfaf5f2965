/- The texts UT UV UY QT UA UB UC UD UE UF UM UP VX BN, one behind the other. -/
import Derived.Test.YtlkcjmaiahnodaaGreatDoorSAC
import Derived.StillTail
import Derived.Deep.Quiet
import Derived.Test.YtlkcjmaiahnodaaGreatDoorSAB
import Derived.Maps.RangeRun
set_option linter.unusedVariables false
set_option linter.unusedSimpArgs false
namespace Go.Hw
open Go.RowKit Tm
section
abbrev iy (b:Nat):Value:= .pointer (az b)
def pV:Option (Nat×Nat)->Value
 |none=> .pointer none
 |some p=>jX p
def blk (bk:List Nat) (c:Nat):Nat:=bk.getD c 0
theorem Cf {bk:List Nat} {c:Nat} (h:c<bk.length):bk.getD c 0=bk[c]:=by
 rw[gZ h];rfl
def dX (ad:Nat->Nat×Nat) (bk:List Nat) (x:Cl):Array Value:=
 #[pV (x.up.map fun c=>(blk bk c,0)),.string x.nm,.string x.so,.bool x.mx,pV (x.tm.map ad),.int .i64 (x.ma:Int),.int .i64 (x.sz:Int),.int .i64 (x.dp:Int)]
structure Fj (T:List Nr) (ad:Nat->Nat×Nat) (S:Nat->Prop) (w:World):Prop where
 inj: ∀i j,i<T.length->j<T.length->ad i=ad j->i=j
 low: ∀i,i<T.length->Plain w (ad i).1/\S (ad i).1
 row: ∀i r,T[i]?=some r->w.cell? ⟨(ad i).1,(ad i).2,none⟩=some (.string r.nm)/\w.cell? ⟨(ad i).1,(ad i).2+1,none⟩=some (.string r.so)/\
  ∃a cap,w.cell? ⟨(ad i).1,(ad i).2+2,none⟩=some (.slice a r.ks.length cap)/\(0<r.ks.length->∃g off,a=some ⟨g,off,none⟩/\∀j k,r.ks[j]?=some k->k<T.length/\ad k=(g,off+j*3))
theorem Fj.kept {T:List Nr} {ad:Nat->Nat×Nat} {S F:Nat->Prop} {w w':World} (h:Fj T ad S w) (hu:au F w w') (hF: ∀k,S k->¬F k):Fj T ad S w':=by
 refine⟨h.inj,fun i hi=>?_,fun i r hr=>?_⟩
 .obtain ⟨⟨cs,t,h1⟩,b⟩:=h.low i hi;exact⟨⟨cs,t,hu.heap h1 (hF _ b)⟩,b⟩
 .obtain ⟨h1,b,a,cap,c,d⟩:=h.row i r hr;have hs:=hF _ (h.low i (List.getElem?_eq_some_iff.1 hr).1).2;exact⟨hu.cell h1 hs,hu.cell b hs,a,cap,hu.cell c hs,d⟩
def Fb (bv bn:Nat) (bk:List Nat) (k:Nat):Prop:=k=bv\/k=bn\/k∈bk
structure oD (N:Nat) (ad:Nat->Nat×Nat) (CT:TypeId) (bv bn:Nat) (bk:List Nat) (st:St) (w:World):Prop where
 vs:eX (fun s:ByteArray=>Value.string s) w bv (st.vs.map fun e=>(e.1,iy (blk bk e.2)))
 ns:eX jX w bn (st.ns.map fun e=>(ad e.1,iy (blk bk e.2)))
 len:bk.length=st.cs.length
 nd:(bv::bn::bk).Nodup
 row: ∀c x,st.cs[c]?=some x->w.heap[blk bk c]?=some (.cells (dX ad bk x) CT (0,0))
 Vr: ∀e∈st.vs,e.2<st.cs.length
 Iw: ∀e∈st.ns,e.2<st.cs.length/\e.1<N
 wQ: ∀x∈st.cs,(∀d,x.up=some d->d<st.cs.length)/\(∀i,x.tm=some i->i<N)
section
variable {N:Nat} {ad:Nat->Nat×Nat} {CT:TypeId} {bv bn:Nat} {bk:List Nat} {st:St} {w w':World}
theorem oD.ext {F:Nat->Prop} (h:oD N ad CT bv bn bk st w) (hu:au F w w') (hF: ∀k,Fb bv bn bk k->¬F k):oD N ad CT bv bn bk st w':=
 ⟨h.vs.kept hu (hF _ (.inl rfl)),h.ns.kept hu (hF _ (.inr (.inl rfl))),h.len,h.nd,fun c x e=>hu.heap (h.row c x e) (hF _ (.inr (.inr (by
  have hc:=(List.getElem?_eq_some_iff.1 e).1;rw[<-h.len] at hc;show bk.getD c 0∈bk;rw[Cf hc];exact List.getElem_mem hc)))),h.Vr,h.Iw,h.wQ⟩
theorem MX {c:Nat} (h:c<bk.length):blk bk c∈bk:=by
 show bk.getD c 0∈bk;rw[Cf h];exact List.getElem_mem h
theorem UW (h:bk.Nodup) {c d:Nat} (hc:c<bk.length) (hd:d<bk.length) (e:blk bk c=blk bk d):c=d:=by
 have e':bk.getD c 0=bk.getD d 0:=e;rw[Cf hc,Cf hd] at e';rcases Nat.lt_trichotomy c d with a|heq|a
 .exact absurd e' ((List.pairwise_iff_getElem.1 h) c d hc hd a)
 .exact heq
 .exact absurd e'.symm ((List.pairwise_iff_getElem.1 h) d c hd hc a)
theorem Jt (b:Nat) {c:Nat} (h:c<bk.length):blk (bk++[b]) c=blk bk c:=by
 show(bk++[b]).getD c 0=bk.getD c 0;rw[List.getD_eq_getElem?_getD,List.getD_eq_getElem?_getD,List.getElem?_append_left h]
theorem CQ (b:Nat):blk (bk++[b]) bk.length=b:=by
 show(bk++[b]).getD bk.length 0=b;rw[List.getD_eq_getElem?_getD,List.getElem?_append_right (Nat.le_refl _),Nat.sub_self];rfl
theorem oD.put (h:oD N ad CT bv bn bk st w) {c:Nat} (hc:c<st.cs.length) (x:Cl) (hx:(∀d,x.up=some d->d<st.cs.length)/\(∀i,x.tm=some i->i<N)) (hu:au (fun k=>k=blk bk c) w w')
  (hrow:w'.heap[blk bk c]?=some (.cells (dX ad bk x) CT (0,0))):oD N ad CT bv bn bk (eF st c x) w':=by
 have b:c<bk.length:=by rw[h.len];exact hc
 have hm:=MX b;have hn:=h.nd;rw[List.nodup_cons,List.nodup_cons] at hn;have hl:(eF st c x).cs.length=st.cs.length:=by show(st.cs.set c x).length=_;rw[List.length_set]
 refine⟨h.vs.kept hu (fun e=>hn.1 (by rw[e];exact List.mem_cons_of_mem _ hm)),h.ns.kept hu (fun e=>hn.2.1 (by rw[e];exact hm)),by rw[hl];exact h.len,h.nd,fun d y hy=>?_,fun e he=>by rw[hl];exact h.Vr e he,fun e he=>by rw[hl];exact h.Iw e he,fun y hy=>?_⟩
 .have a:(st.cs.set c x)[d]?=some y:=hy;rw[List.getElem?_set] at a;by_cases e:c=d
  .subst e;rw[if_pos rfl,if_pos hc] at a;injection a with a
   rw[<-a];exact hrow
  .rw [if_neg e] at a;have hd:d<bk.length:=by rw[h.len];exact(List.getElem?_eq_some_iff.1 a).1
   exact hu.heap (h.row d y a) (fun g=>e (UW hn.2.2 hd b g).symm)
 .rw [hl];rcases List.mem_or_eq_of_mem_set (show y∈st.cs.set c x from hy) with hy|hy
  .exact h.wQ y hy
  .rw [hy];exact hx
theorem Tq (h:oD N ad CT bv bn bk st w) (b:Nat) {x:Cl} (hx:x∈st.cs):dX ad (bk++[b]) x=dX ad bk x:=by
 unfold dX;cases hu:x.up with
 |none=>rfl
 |some d=>
  have:=(h.wQ x hx).1 d hu;rw[Option.map_some,Option.map_some,Jt b (by rw[h.len];exact this)]
theorem oD.made (h:oD N ad CT bv bn bk st w) {b:Nat} {st':St} (x:Cl) (hx:x.up=none/\∀i,x.tm=some i->i<N) (hb:b∉(bv::bn::bk)) (hcs:st'.cs=st.cs++[x])
  (j:eX (fun s:ByteArray=>Value.string s) w' bv (st'.vs.map fun e=>(e.1,iy (blk (bk++[b]) e.2)))) (l:eX jX w' bn (st'.ns.map fun e=>(ad e.1,iy (blk (bk++[b]) e.2))))
  (n: ∀e∈st'.vs,e.2<st'.cs.length) (p: ∀e∈st'.ns,e.2<st'.cs.length/\e.1<N)
  (hrow:w'.heap[b]?=some (.cells (dX ad (bk++[b]) x) CT (0,0))) (g: ∀k∈bk,∀o,w.heap[k]?=some o->w'.heap[k]?=some o):oD N ad CT bv bn (bk++[b]) st' w':=by
 have hn:=h.nd;refine⟨j,l,by rw[hcs,List.length_append,List.length_append,h.len];rfl,?_,fun c y hy=>?_,n,p,fun y hy=>?_⟩
 .have:(bv::bn::bk)++[b]=bv::bn::(bk++[b]):=rfl;rw[<-this,List.nodup_append];refine⟨hn,by simp,fun x hx y hy=>?_⟩;rw[List.mem_singleton] at hy;rw[hy];intro e;exact hb (by rw[<-e];exact hx)
 .rw [hcs] at hy;by_cases hc:c<st.cs.length
  .rw [List.getElem?_append_left hc] at hy;have a:c<bk.length:=by rw[h.len];exact hc
   rw[Jt b a,Tq h b (List.mem_of_getElem? hy)];exact g _ (MX a) _ (h.row c y hy)
  .rw [List.getElem?_append_right (Nat.le_of_not_lt hc)] at hy;have h0:c-st.cs.length=0:=by
    have:=(List.getElem?_eq_some_iff.1 hy).1;simp at this;omega
   rw[h0] at hy;injection hy with hy
   have hce:c=bk.length:=by rw[h.len];omega
   rw[hce,CQ,<-hy];exact hrow
 .rw [hcs] at hy⊢;rw[List.length_append];rcases List.mem_append.1 hy with hy|hy
  .have:=h.wQ y hy;exact⟨fun d e=>aP (this.1 d e) (Nat.le_add_right _ _),this.2⟩
  .rw [List.mem_singleton] at hy;rw[hy];exact⟨fun d e=>absurd (hx.1.symm.trans e) (by simp),hx.2⟩
theorem FD {κ a:Type} [DecidableEq κ] [DecidableEq a] (f:κ->a) (g:Nat->Value) (l:List (κ×Nat)) (k:κ) (hf: ∀e∈l,f e.1=f k->e.1=k):kK (l.map fun e=>(f e.1,g e.2)) (f k)=(tq l k).map g:=by
 unfold tq
 induction l with
 |nil=>rfl
 |cons e l b=>
  rw[List.map_cons,lI,List.find?_cons];by_cases h:e.1=k
  .rw [h,if_pos rfl,dT rfl];rfl
  .rw [if_neg (fun c=>h (hf e (List.mem_cons_self ..) c)),dF h];exact b (fun e he=>hf e (List.mem_cons_of_mem _ he))
theorem oD.lt (h:oD N ad CT bv bn bk st w) (k:Nat) (hk:Fb bv bn bk k):k<w.heap.size:=by
 rcases hk with hk|hk|hk
 .rw [hk];exact h.vs.lt
 .rw [hk];exact h.ns.lt
 .obtain ⟨c,hc,e⟩:=List.getElem_of_mem hk;have b:c<st.cs.length:=by rw[<-h.len];exact hc
  have h1:=h.row c _ (List.getElem?_eq_getElem b);have a:=(Array.getElem?_eq_some_iff.1 h1).1;have d:blk bk c=k:=by show bk.getD c 0=k;rw[Cf hc,e]
  rw[d] at a;exact a
theorem Zt {κ:Type} [DecidableEq κ] {l:List (κ×Value)} {k:κ} (h:kK l k=none) (v:Value):qj l k v=l++[(k,v)]:=by
 induction l with
 |nil=>rfl
 |cons p l a=>
  rw[lI] at h;by_cases e:p.1=k
  .rw [if_pos e] at h;cases h
  .rw [if_neg e] at h;unfold qj;rw[if_neg e,a h];rfl
theorem Ju {κ a:Type} (f:κ->a) (b:Nat) (l:List (κ×Nat)) (h: ∀e∈l,e.2<bk.length):(l.map fun e=>(f e.1,iy (blk (bk++[b]) e.2)))=l.map fun e=>(f e.1,iy (blk bk e.2)):=
 List.map_congr_left fun e he=>by rw[Jt b (h e he)]
theorem Tt {κ a:Type} (f:κ->a) (b:Nat) (l:List (κ×Nat)) (k:κ) (h: ∀e∈l,e.2<bk.length):((l++[(k,bk.length)]).map fun e=>(f e.1,iy (blk (bk++[b]) e.2)))=(l.map fun e=>(f e.1,iy (blk bk e.2)))++[(f k,iy b)]:=by
 rw[List.map_append,Ju f b l h];show _++[(f k,iy (blk (bk++[b]) bk.length))]=_;rw[CQ]
theorem Zu {b:Nat} (h: ¬Fb bv bn bk b):b∉(bv::bn::bk):=fun hm=>h (by
 rcases List.mem_cons.1 hm with e|hm
 .exact .inl e
 .rcases List.mem_cons.1 hm with e|hm
  .exact .inr (.inl e)
  .exact .inr (.inr hm))
theorem oD.vn (h:oD N ad CT bv bn bk st w):bv≠bn/\bv∉bk/\bn∉bk:=by
 have h1:=h.nd;rw[List.nodup_cons,List.nodup_cons,List.mem_cons,not_or] at h1;exact⟨h1.1.1,h1.1.2,h1.2.1⟩
theorem oD.am_ (h:oD N ad CT bv bn bk st w) {nm so:By} {b:Nat} (hf:tq st.vs nm=none) (hb: ¬Fb bv bn bk b) (hrow:w.heap[b]?=some (.cells (dX ad bk ⟨none,nm,so,false,none,0,0,0⟩) CT (0,0)))
  (d:eX (fun s:ByteArray=>Value.string s) w' bv (qj (st.vs.map fun e=>(e.1,iy (blk bk e.2))) nm (iy b))) (hu:au (fun j=>j=bv) w w'):oD N ad CT bv bn (bk++[b]) {st with vs:=st.vs++[(nm,st.cs.length)],cs:=st.cs++[⟨none,nm,so,false,none,0,0,0⟩]} w':=by
 have a:=h.vn;have g: ∀e∈st.vs,e.2<bk.length:=fun e he=>by rw[h.len];exact h.Vr e he
 have l: ∀e∈st.ns,e.2<bk.length:=fun e he=>by rw[h.len];exact(h.Iw e he).1
 refine h.made ⟨none,nm,so,false,none,0,0,0⟩ ⟨rfl,fun i e=>by cases e⟩ (Zu hb) rfl ?_ ?_ ?_ ?_ ?_ ?_
 .show eX _ w' bv ((st.vs++[(nm,st.cs.length)]).map fun e=>(e.1,iy (blk (bk++[b]) e.2)));rw[<-h.len,Tt (fun s:By=>s) b st.vs nm g,<-Zt (by
   have:=FD (fun s:By=>s) (fun c=>iy (blk bk c)) st.vs nm (fun e _ h=>h);rw[this,hf];rfl)]
  exact d
 .show eX _ w' bn (st.ns.map fun e=>(ad e.1,iy (blk (bk++[b]) e.2)));rw[Ju ad b st.ns l];exact h.ns.kept hu (fun e=>a.1 e.symm)
 .intro e he;show e.2< (st.cs++[_]).length;rw[List.length_append,List.length_singleton];rcases List.mem_append.1 he with he|he
  .exact aP (h.Vr e he) (Nat.le_add_right _ _)
  .rw [List.mem_singleton] at he;rw[he];exact Nat.lt_succ_self _
 .intro e he;show e.2< (st.cs++[_]).length/\_;rw[List.length_append,List.length_singleton];exact⟨aP (h.Iw e he).1 (Nat.le_add_right _ _),(h.Iw e he).2⟩
 .exact hu.heap hrow (fun e=>hb (.inl e))
 .intro k hk o ho;exact hu.heap ho (fun e=>a.2.1 (by rw[<-e];exact hk))
theorem oD.anc (h:oD N ad CT bv bn bk st w) {i b:Nat} (hi:i<N) (hb: ¬Fb bv bn bk b) (hrow:w.heap[b]?=some (.cells (dX ad bk ⟨none,ai,ai,false,some i,0,0,0⟩) CT (0,0)))
  (c:eX jX w' bn ((st.ns.map fun e=>(ad e.1,iy (blk bk e.2)))++[(ad i,iy b)])) (hu:au (fun j=>j=bn) w w'):oD N ad CT bv bn (bk++[b]) {st with ns:=st.ns++[(i,st.cs.length)],cs:=st.cs++[⟨none,ai,ai,false,some i,0,0,0⟩]} w':=by
 have a:=h.vn;have d: ∀e∈st.vs,e.2<bk.length:=fun e he=>by rw[h.len];exact h.Vr e he
 have g: ∀e∈st.ns,e.2<bk.length:=fun e he=>by rw[h.len];exact(h.Iw e he).1
 refine h.made ⟨none,ai,ai,false,some i,0,0,0⟩ ⟨rfl,fun j e=>by injection e with e;rw[<-e];exact hi⟩ (Zu hb) rfl ?_ ?_ ?_ ?_ ?_ ?_
 .show eX _ w' bv (st.vs.map fun e=>(e.1,iy (blk (bk++[b]) e.2)));rw[Ju (fun s:By=>s) b st.vs d];exact h.vs.kept hu a.1
 .show eX _ w' bn ((st.ns++[(i,st.cs.length)]).map fun e=>(ad e.1,iy (blk (bk++[b]) e.2)));rw[<-h.len,Tt ad b st.ns i g];exact c
 .intro e he;show e.2< (st.cs++[_]).length;rw[List.length_append,List.length_singleton];exact aP (h.Vr e he) (Nat.le_add_right _ _)
 .intro e he;show e.2< (st.cs++[_]).length/\_;rw[List.length_append,List.length_singleton];rcases List.mem_append.1 he with he|he
  .exact ⟨aP (h.Iw e he).1 (Nat.le_add_right _ _),(h.Iw e he).2⟩
  .rw [List.mem_singleton] at he;rw[he];exact⟨Nat.lt_succ_self _,hi⟩
 .exact hu.heap hrow (fun e=>hb (.inr (.inl e)))
 .intro k hk o ho;exact hu.heap ho (fun e=>a.2.2 (by rw[<-e];exact hk))
end
end
section
theorem wF {cs:List Cl}: ∀{F c r:Nat},kZ cs F c=some r->∃x,cs[r]?=some x/\x.up=none
 |F+1,c,r,h=>by
  unfold kZ at h;cases hx:cs[c]? with
  |none=>rw[hx] at h;cases h
  |some x=>
   rw[hx] at h;simp only at h;cases hu:x.up with
   |none=>
    rw[hu] at h;injection h with h
    subst h;exact⟨x,hx,hu⟩
   |some d=>rw[hu] at h;exact wF h
theorem xH {T:List Nr} {F i r:Nat} {st st':St} (h:kF T F st i=some (st',r)): ∃x,st'.cs[r]?=some x/\x.up=none:=by
 have hv: ∀nm so,uk F st nm so=some (st',r)->∃x,st'.cs[r]?=some x/\x.up=none:=fun nm so h=>by
  unfold uk at h;cases hf:tq st.vs nm with
  |some c=>
   rw[hf] at h;simp only at h;cases hr:kZ st.cs F c with
   |none=>rw[hr] at h;cases h
   |some q=>rw[hr] at h;simp only[Option.map_some,Option.some.injEq,Prod.mk.injEq] at h;obtain⟨rfl,rfl⟩:=h;exact wF hr
  |none=>
   rw[hf] at h;simp only at h;cases hr:kZ (st.cs++[⟨none,nm,so,false,none,0,0,0⟩]) F st.cs.length with
   |none=>rw[hr] at h;cases h
   |some q=>rw[hr] at h;simp only[Option.map_some,Option.some.injEq,Prod.mk.injEq] at h;obtain⟨rfl,rfl⟩:=h;exact wF hr
 unfold kF at h;cases a:T[i]? with
 |none=>rw[a] at h;cases h
 |some x=>
  rw[a] at h;simp only at h;by_cases hs:x.so=ai
  .rw [if_pos hs] at h;unfold UJ at h;cases hf:tq st.ns i with
   |some c=>
    rw[hf] at h;simp only at h;cases hr:kZ st.cs F c with
    |none=>rw[hr] at h;cases h
    |some q=>rw[hr] at h;simp only[Option.map_some,Option.some.injEq,Prod.mk.injEq] at h;obtain⟨rfl,rfl⟩:=h;exact wF hr
   |none=>
    rw[hf] at h;simp only at h;cases hr:kZ (st.cs++[⟨none,ai,ai,false,some i,0,0,0⟩]) F st.cs.length with
    |none=>rw[hr] at h;cases h
    |some q=>rw[hr] at h;simp only[Option.map_some,Option.some.injEq,Prod.mk.injEq] at h;obtain⟨rfl,rfl⟩:=h;exact wF hr
  .rw [if_neg hs] at h;exact hv _ _ h
structure Ur (T:List Nr) (ad:Nat->Nat×Nat) (S:Nat->Prop) (CT UT:TypeId) (bv bn ub:Nat) (bk:List Nat) (st:St) (w:World):Prop where
 us:oD T.length ad CT bv bn bk st w
 nd:Fj T ad S w
 u:w.heap[ub]?=some (.cells #[.map (some bv),.map (some bn)] UT (0,0))
 un: ¬Fb bv bn bk ub
 sn: ∀k,S k->k<w.heap.size/\¬Fb bv bn bk k
structure gz (T:List Nr) (ad:Nat->Nat×Nat) (S:Nat->Prop) (CT UT:TypeId) (bv bn ub:Nat) (bk bk':List Nat) (st':St) (w w':World):Prop where
 ur:Ur T ad S CT UT bv bn ub bk' st' w'
 upd:au (Fb bv bn bk) w w'
 pre:bk <+:bk'
 new: ∀b∈bk',b∈bk\/w.heap.size<=b
section
variable {T:List Nr} {ad:Nat->Nat×Nat} {S:Nat->Prop} {CT UT:TypeId} {bv bn ub:Nat} {bk bk' ajW:List Nat} {st st' ajX:St} {w w' w'':World}
theorem Ur.step (h:Ur T ad S CT UT bv bn ub bk st w) (hm:oD T.length ad CT bv bn bk' st' w') (hu:au (Fb bv bn bk) w w') (hp:bk <+:bk') (hb: ∀b∈bk',b∈bk\/w.heap.size<=b):gz T ad S CT UT bv bn ub bk bk' st' w w':=by
 have hn: ∀k,k<w.heap.size->¬Fb bv bn bk k->¬Fb bv bn bk' k:=fun k hk hF a=>by
  rcases a with e|e|e
  .exact hF (.inl e)
  .exact hF (.inr (.inl e))
  .rcases hb k e with e|e
   .exact hF (.inr (.inr e))
   .omega
 have c:ub<w.heap.size:=(Array.getElem?_eq_some_iff.1 h.u).1;exact⟨⟨hm,h.nd.kept hu (fun k hk=>(h.sn k hk).2),hu.heap h.u h.un,hn _ c h.un,fun k hk=>⟨aP (h.sn k hk).1 hu.size,hn k (h.sn k hk).1 (h.sn k hk).2⟩⟩,hu,hp,hb⟩
theorem Ur.ext (h:Ur T ad S CT UT bv bn ub bk st w) (hu:Ext w w'):Ur T ad S CT UT bv bn ub bk st w':=
 ⟨h.us.ext hu (fun _ _ h=>h),h.nd.kept hu (fun _ _ h=>h),hu.heap h.u id,h.un,fun k hk=>⟨aP (h.sn k hk).1 hu.size,(h.sn k hk).2⟩⟩
theorem gz.refl (h:Ur T ad S CT UT bv bn ub bk st w):gz T ad S CT UT bv bn ub bk bk st w w:=⟨h,au.refl _ _,List.prefix_refl _,fun b hb=> .inl hb⟩
theorem gz.trans (h:gz T ad S CT UT bv bn ub bk bk' st' w w') (h':gz T ad S CT UT bv bn ub bk' ajW ajX w' w''):gz T ad S CT UT bv bn ub bk ajW ajX w w'':=by
 refine⟨h'.ur,h.upd.trans' h'.upd (fun j a hF=>?_),h.pre.trans h'.pre,fun b hb=>?_⟩
 .rcases hF with e|e|e
  .exact .inl e
  .exact .inr (.inl e)
  .rcases h.new j e with e|e
   .exact .inr (.inr e)
   .omega
 .rcases h'.new b hb with e|e
  .exact h.new b e
  .exact .inr (Nat.le_trans h.upd.size e)
theorem gz.ext (h:gz T ad S CT UT bv bn ub bk bk' st' w w') (hu:Ext w' w''):gz T ad S CT UT bv bn ub bk bk' st' w w'':=
 ⟨h.ur.ext hu,h.upd.ext hu,h.pre,h.new⟩
theorem GY (h:bk <+:bk') {c:Nat} (hc:c<bk.length):blk bk' c=blk bk c:=by
 obtain⟨t,rfl⟩:=h;show(bk++t).getD c 0=bk.getD c 0;rw[List.getD_eq_getElem?_getD,List.getD_eq_getElem?_getD,List.getElem?_append_left hc]
theorem gz.put (h:gz T ad S CT UT bv bn ub bk bk' st w w') {c:Nat} (hc:c<st.cs.length) (x:Cl) (hx:(∀d,x.up=some d->d<st.cs.length)/\(∀i,x.tm=some i->i<T.length)) (hu:au (fun k=>k=blk bk' c) w' w'')
  (hrow:w''.heap[blk bk' c]?=some (.cells (dX ad bk' x) CT (0,0))):gz T ad S CT UT bv bn ub bk bk' (eF st c x) w w'':=by
 have hm:=h.ur.us.put hc x hx hu hrow;exact h.trans (h.ur.step hm (hu.mono (fun k _ hk=> .inr (.inr (by rw[hk];exact MX (by rw[h.ur.us.len];exact hc))))) (List.prefix_refl _) (fun b hb=> .inl hb))
end
end
def U5 (T:List Nr) (F:Nat) (ac:St->Nat->Option (St×Bool)) (c x:Nat):St->List Nat->Option (St×Bool)
 |st,[]=>some (st,true)
 |st,k::ks=>if(st.cs[c]?.map (·.tm))=some (some x) then match kF T F st k with
  |none=>none
  |some (st1,y)=>match ac st1 y with
   |none=>none
   |some (st2,false)=>some (st2,false)
   |some (st2,true)=>match st2.cs[c]?,st2.cs[y]? with
    |some C,some Y=>if C.sz<=2000/\Y.sz<=2000/\C.dp<=2000/\Y.dp<=2000 then U5 T F ac c x (eF st2 c {C with sz:=min (C.sz+Y.sz) 1001,dp:=min (max C.dp (Y.dp+1)) 61}) ks else none
    |_,_=>none
  else none
def Io (T:List Nr):Nat->St->Nat->Option (St×Bool)
 |0,_,_=>none
 |F+1,st,c=>match st.cs[c]? with
  |none=>none
  |some C=>if C.ma=1 then some (st,false) else match C.tm with
   |none=>if C.mx=true then some (st,false) else if C.ma=2 then some (st,true) else some (eF st c {C with ma:=2,sz:=1,dp:=1},true)
   |some x=>if C.ma=2 then some (st,true) else match T[x]? with
    |none=>none
    |some X=>match U5 T F (Io T F) c x (eF st c {C with ma:=1,sz:=1,dp:=1}) X.ks with
     |none=>none
     |some (st1,false)=>some (st1,false)
     |some (st1,true)=>match st1.cs[c]? with
      |none=>none
      |some a=>some (eF st1 c {a with ma:=2},true)
def MB (T:List Nr) (st:St) (i:Nat):Bool:=match T[i]? with
 |none=>false
 |some r=>if r.so=ai then(tq st.ns i).isSome else(tq st.vs r.nm).isSome
theorem aax {F i r:Nat} {st st':St} (hf:(tq st.ns i).isSome=true) (h:UJ F st i=some (st',r)):st'=st:=by
 unfold UJ at h;cases hx:tq st.ns i with
 |none=>rw[hx] at hf;cases hf
 |some c=>
  rw[hx] at h;simp only at h;cases hr:kZ st.cs F c with
  |none=>rw[hr] at h;cases h
  |some q=>rw[hr] at h;simp only[Option.map_some,Option.some.injEq,Prod.mk.injEq] at h;exact h.1.symm
theorem FC {F r:Nat} {st st':St} {nm so:By} (hf:(tq st.vs nm).isSome=true) (h:uk F st nm so=some (st',r)):st'=st:=by
 unfold uk at h;cases hx:tq st.vs nm with
 |none=>rw[hx] at hf;cases hf
 |some c=>
  rw[hx] at h;simp only at h;cases hr:kZ st.cs F c with
  |none=>rw[hr] at h;cases h
  |some q=>rw[hr] at h;simp only[Option.map_some,Option.some.injEq,Prod.mk.injEq] at h;exact h.1.symm
def IE (T:List Nr) (F:Nat) (st:St) (va:Nat->Option Tm) (c x:Nat):List Nat->Option (List Tm)
 |[]=>some []
 |k::ks=>if MB T st k=true then match kF T F st k with
  |none=>none
  |some (_,y)=>match va y with
   |none=>none
   |some t=>match IE T F st va c x ks with
    |none=>none
    |some L=>some (t::L)
  else none
def QB (T:List Nr) (st:St):Nat->Nat->Option Tm
 |0,_=>none
 |F+1,c=>match st.cs[c]? with
  |none=>none
  |some C=>match C.tm with
   |none=>some (.mk C.nm C.so [])
   |some x=>match T[x]? with
    |none=>none
    |some X=>(IE T F st (QB T st F) c x X.ks).map fun L=> .mk X.nm ai L
theorem U8 {T:List Nr} {F:Nat} {st:St} {va:Nat->Option Tm} {c x:Nat}: ∀{ks:List Nat} {L:List Tm},IE T F st va c x ks=some L->L.length=ks.length
 |[],L,h=>by unfold IE at h;injection h with h;rw[<-h];rfl
 |k::ks,L,h=>by
  unfold IE at h;by_cases hf:MB T st k=true
  .rw [if_pos hf] at h;cases hc:kF T F st k with
   |none=>rw[hc] at h;cases h
   |some q=>
    obtain⟨s1,y⟩:=q;rw[hc] at h;simp only at h;cases hv:va y with
    |none=>rw[hv] at h;cases h
    |some t=>
     rw[hv] at h;simp only at h;cases hr:IE T F st va c x ks with
     |none=>rw[hr] at h;cases h
     |some a=>
      rw[hr] at h;simp only[Option.some.injEq] at h;rw[<-h,List.length_cons,List.length_cons,U8 hr]
  .rw [if_neg hf] at h;cases h
theorem YV {T:List Nr} {F:Nat} {st:St} {va:Nat->Option Tm} {c x:Nat}: ∀{ks:List Nat} {L:List Tm},IE T F st va c x ks=some L->∀k (hk:k<ks.length),MB T st ks[k]=true/\∃s1 y,kF T F st ks[k]=some (s1,y)/\va y=some (tg L k)
 |[],L,h,k,hk=>absurd hk (Nat.not_lt_zero _)
 |j::ks,L,h,k,hk=>by
  unfold IE at h;by_cases hf:MB T st j=true
  .rw [if_pos hf] at h;cases hc:kF T F st j with
   |none=>rw[hc] at h;cases h
   |some q=>
    obtain⟨s1,y⟩:=q;rw[hc] at h;simp only at h;cases hv:va y with
    |none=>rw[hv] at h;cases h
    |some t=>
     rw[hv] at h;simp only at h;cases hr:IE T F st va c x ks with
     |none=>rw[hr] at h;cases h
     |some a=>
      rw[hr] at h;simp only[Option.some.injEq] at h;rw[<-h];cases k with
      |zero=>
        exact⟨hf,s1,y,hc,hv⟩
        |succ k=>exact YV hr k (by simp at hk;omega)
  .rw [if_neg hf] at h;cases h
theorem FU (st:St) (c:Nat) (x y:Cl):eF (eF st c x) c y=eF st c y:=by
 show({st with cs:=(st.cs.set c x).set c y}:St)={st with cs:=st.cs.set c y};rw[List.set_set]
theorem U4 (st:St) {c:Nat} (h:c<st.cs.length) (x:Cl):(eF st c x).cs[c]?=some x:=by
 show(st.cs.set c x)[c]?=_;rw[List.getElem?_set,if_pos rfl,if_pos h]
theorem aaI (st:St) (c:Nat) (x:Cl):(eF st c x).cs.length=st.cs.length:=List.length_set ..
section
open Go
theorem xB {P:Program} {ops:Array Oper} {w:World} {Q:Act->Prop}: ∀(l:List Oper) (a:Act),wpQuiet P ops (fun w'=> ∃_:Unit,w'=w) Q l a->wpStill P ops w Q l a
 |[],_,h=>h
 |o::rest,a,h=>by
  unfold wpQuiet at h;unfold wpStill;split
  .rename_i hw
   rw[if_pos hw] at h;obtain⟨v,hv,hn⟩:=h;have hv:=hv w ⟨(),rfl⟩;have hn:=xB rest _ hn;unfold Oper.quietAt at hv;unfold Oper.still;generalize (execOp a.eval o).run P w=r at hv;cases r with
   |ok n w'=>
    cases n with
    |value u=>obtain⟨h1,b⟩:=hv;exact⟨h1,by rw[b];exact hn⟩
    |skip=>obtain⟨h1,b⟩:=hv;exact⟨h1,by rw[<-b];exact hn⟩
    |enter f args=>obtain⟨h1,b⟩:=hv;exact⟨h1,v,b.mono (fun e w'' h=>⟨h.1,h.2.elim fun _ h=>h⟩),hn⟩
    |_=>cases hv
   |_=>cases hv
  .rename_i hw
   rw[if_neg hw] at h;exact xB rest _ h
theorem ja {P:Program} {id:Nat} {Q:Exit->Act->World->Prop} {a:Act} {w:World} {l:List Oper} (n:Nat) (hm:P.follows .mixedOrders=true) (b:Region.lexTailB .any l.toArray n=true)
  (h:wpQuiet P l.toArray (fun w'=> ∃_:Unit,w'={w with drawn:=w.drawn+1}) (fun a'=>wpList P l.toArray Q (l.drop n) a' {w with drawn:=w.drawn+1}) (l.take n) a):(Code.region id l.toArray true).wp P Q a w:=
 wp_region_still_tail n hm b (xB _ _ h)
end
abbrev Su:=By->By->Tm
abbrev vr (n s:By):Tm:= .mk n s []
def dL (t:Tm):List Vd:=vl (bu t)
theorem vU (n:By) (L:List Tm):dL (.mk n ai L)=L.flatMap dL:=by
 unfold dL;rw[lS];have h1: ∀M:List Tm,vl (M.flatMap bu)=M.flatMap (fun x=>vl (bu x)):=by
  intro M
  induction M with
  |nil=>rfl
  |cons x M a=>rw[List.flatMap_cons,uw,a,List.flatMap_cons]
 rw[<-List.singleton_append,uw,h1];rfl
theorem nK {n s:By} (h:s≠ai) (L:List Tm):(n,s)∈dL (.mk n s L):=by
 unfold dL vl;rw[List.mem_filterMap];exact⟨_,jo _,by simp[Tm.sort,Tm.name,h]⟩
theorem Kr {t:Tm} {f:Vd} (h:f∈dL t):f.2≠ai:=by
 unfold dL vl at h;rw[List.mem_filterMap] at h;obtain⟨x,_,hx⟩:=h;by_cases e:x.sort=ai
 .rw [if_pos e] at hx;cases hx
 .rw [if_neg e] at hx;injection hx with hx
  rw[<-hx];exact e
theorem Q3 {n s:By} (h:s≠ai):dL (vr n s)=[(n,s)]:=by
 unfold dL;rw[lS];simp[vl,Tm.sort,Tm.name,Tm.kids,h]
theorem BR {t x:Tm} (h:x∈t.kids) {f:Vd} (hf:f∈dL x):f∈dL t:=by
 unfold dL vl at*;rw[List.mem_filterMap] at*;obtain⟨y,hy,e⟩:=hf;exact⟨y,lX h hy,e⟩
theorem qh (σ:Su) {n s:By} (h:s≠ai) (L:List Tm):iW σ (.mk n s L)=σ n s:=by
 unfold iW;rw[if_neg h]
theorem uN (σ:Su) (n:By) (L:List Tm):iW σ (.mk n ai L)= .mk n ai (L.map (iW σ)):=Zi σ rfl
theorem Zq {σ a:Su}: ∀t:Tm,(∀f∈dL t,σ f.1 f.2=a f.1 f.2)->iW σ t=iW a t:=by
 refine Tm.ind (fun n s L b h=>?_);by_cases hs:s=ai
 .subst hs;rw[uN,uN];congr 1;refine List.map_congr_left (fun x hx=>b x hx (fun f hf=>h f ?_));rw[vU];exact List.mem_flatMap.2 ⟨x,hx,hf⟩
 .rw [qh σ hs,qh a hs];exact h _ (nK hs L)
abbrev Bd:=By×By×Tm
def bK (s:List Bd) (n:By):Option Tm:=(s.find? fun b=>decide (b.1=n)).map (·.2.2)
theorem yt (b:Bd) (s:List Bd) (n:By):bK (b::s) n=if b.1=n then some b.2.2 else bK s n:=by
 unfold bK;rw[List.find?_cons];by_cases h:b.1=n
 .rw [if_pos h,dT h];rfl
 .rw [if_neg h,dF h]
theorem Gz (s:List Bd) (b:Bd) (n:By):bK (s++[b]) n=(bK s n).or (if b.1=n then some b.2.2 else none):=by
 induction s with
 |nil=>rw[List.nil_append,yt];unfold bK;simp
 |cons a s c=>
  rw[List.cons_append,yt,yt,c];by_cases h:a.1=n
  .rw [if_pos h,if_pos h];rfl
  .rw [if_neg h,if_neg h]
theorem uO {s:List Bd} {n:By} {t:Tm} (h:bK s n=some t): ∃b∈s,b.1=n/\b.2.2=t:=by
 induction s with
 |nil=>cases h
 |cons a s c=>
  rw[yt] at h;by_cases h1:a.1=n
  .rw [if_pos h1] at h;injection h with h
   exact⟨a,List.mem_cons_self ..,h1,h⟩
  .rw [if_neg h1] at h;obtain⟨b,hb,d⟩:=c h;exact⟨b,List.mem_cons_of_mem _ hb,d⟩
theorem Zr {s:List Bd} {n:By} (h:bK s n=none): ∀b∈s,b.1≠n:=by
 induction s with
 |nil=>intro b hb;cases hb
 |cons a s c=>
  rw[yt] at h;by_cases h1:a.1=n
  .rw [if_pos h1] at h;cases h
  .rw [if_neg h1] at h;intro b hb;rcases List.mem_cons.1 hb with e|hb
   .rw [e];exact h1
   .exact c h b hb
mutual
def kJ:Tm->Tm->List Bd->Option (List Bd)
 | .mk n s L,t,B=>
  if s=ai then(if t.sort=ai/\t.name=n/\t.kids.length=L.length then sG L t.kids B else none)
  else if t.sort≠ai/\t.sort≠s then none
  else match bK B n with
   |some x=>if x=t then some B else none
   |none=>some (B++[(n,s,t)])
def sG:List Tm->List Tm->List Bd->Option (List Bd)
 |[],_,B=>some B
 |_::_,[],_=>none
 |a::L,b::M,B=>match kJ a b B with
  |none=>none
  |some C=>sG L M C
end
theorem QP {n:By} {L:List Tm} {t:Tm} {B:List Bd} (h:t.sort=ai/\t.name=n/\t.kids.length=L.length):kJ (.mk n ai L) t B=sG L t.kids B:=by
 unfold kJ;rw[if_pos rfl,if_pos h]
theorem FM {n:By} {L:List Tm} {t:Tm} {B:List Bd} (h: ¬(t.sort=ai/\t.name=n/\t.kids.length=L.length)):kJ (.mk n ai L) t B=none:=by
 unfold kJ;rw[if_pos rfl,if_neg h]
theorem CU {n s:By} {L:List Tm} {t:Tm} {B:List Bd} (hs:s≠ai) (h:t.sort≠ai/\t.sort≠s):kJ (.mk n s L) t B=none:=by
 unfold kJ;rw[if_neg hs,if_pos h]
theorem CS {n s:By} {L:List Tm} {t x:Tm} {B:List Bd} (hs:s≠ai) (h: ¬(t.sort≠ai/\t.sort≠s)) (hb:bK B n=some x):kJ (.mk n s L) t B=if x=t then some B else none:=by
 unfold kJ;rw[if_neg hs,if_neg h,hb]
theorem GU {n s:By} {L:List Tm} {t:Tm} {B:List Bd} (hs:s≠ai) (h: ¬(t.sort≠ai/\t.sort≠s)) (hb:bK B n=none):kJ (.mk n s L) t B=some (B++[(n,s,t)]):=by
 unfold kJ;rw[if_neg hs,if_neg h,hb]
theorem G8 (L:List Tm) (k:Nat) (h:k<L.length):L.drop k=tg L k::L.drop (k+1):=by
 rw[List.drop_eq_getElem_cons h];unfold tg;rw[gZ h];rfl
theorem aea {L M:List Tm} {B:List Bd} {k:Nat} (a:k<L.length) (b:k<M.length):
  sG (L.drop k) (M.drop k) B=match kJ (tg L k) (tg M k) B with|none=>none|some C=>sG (L.drop (k+1)) (M.drop (k+1)) C:=by
 rw[G8 L k a,G8 M k b]
 conv=>lhs;unfold sG
def gW (B:List Bd):Su:=fun n s=>(bK B n).getD (vr n s)
structure rQ (X:List Vd) (Y:Tm->Prop) (B:List Bd):Prop where
 inX: ∀b∈B,(b.1,b.2.1)∈X
 I4:B.Pairwise fun a b=>a.1≠b.1
 val: ∀b∈B,Y b.2.2
 srt: ∀b∈B,b.2.2.sort≠ai->b.2.2.sort=b.2.1
theorem rQ.nil (X:List Vd) (Y:Tm->Prop):rQ X Y []:=⟨fun _ h=>(by cases h),List.Pairwise.nil,fun _ h=>(by cases h),fun _ h=>(by cases h)⟩
theorem BU {X:List Vd} {Y:Tm->Prop} (F: ∀t x,Y t->x∈t.kids->Y x): ∀(p t:Tm) (B C:List Bd),kJ p t B=some C->u_ p->(∀f∈dL p,f∈X)->Y t->rQ X Y B->rQ X Y C/\(∀n x,bK B n=some x->bK C n=some x)/\(∀f∈dL p,∃x,bK C f.1=some x)/\∀D:List Bd,(∀n x,bK C n=some x->bK D n=some x)->iW (gW D) p=t:=by
 refine Tm.ind (fun n s L G=>?_);intro t B C h hp hv u c;by_cases hs:s=ai
 .subst hs;by_cases hc:t.sort=ai/\t.name=n/\t.kids.length=L.length
  .rw [QP hc] at h;have key: ∀(L M:List Tm),(∀x∈L,∀(t:Tm) (B C:List Bd),kJ x t B=some C->u_ x->(∀f∈dL x,f∈X)->Y t->rQ X Y B->rQ X Y C/\(∀n x,bK B n=some x->bK C n=some x)/\(∀f∈dL x,∃y,bK C f.1=some y)/\∀D:List Bd,(∀n x,bK C n=some x->bK D n=some x)->iW (gW D) x=t)->
     M.length=L.length->(∀x∈L,u_ x)->(∀x∈L,∀f∈dL x,f∈X)->(∀y∈M,Y y)->∀B C,sG L M B=some C->rQ X Y B->rQ X Y C/\(∀n x,bK B n=some x->bK C n=some x)/\(∀x∈L,∀f∈dL x,∃y,bK C f.1=some y)/\∀D:List Bd,(∀n x,bK C n=some x->bK D n=some x)->L.map (iW (gW D))=M:=by
    intro L
    induction L with
    |nil=>
     intro M _ hl _ _ _ B C h c;have H:M=[]:=List.eq_nil_of_length_eq_zero hl;subst H;unfold sG at h;injection h with h
     subst h;exact⟨c,fun _ _ e=>e,fun x hx=>(by cases hx),fun _ _=>rfl⟩
    |cons a L z=>
     intro M hx hl hn l o B C h c;match M,hl with
     |b::M,hl=>
      unfold sG at h;cases hm:kJ a b B with
      |none=>rw[hm] at h;cases h
      |some E=>
       rw[hm] at h;obtain⟨h1,i,j,k⟩:=hx a (List.mem_cons_self ..) b B E hm (hn a (List.mem_cons_self ..)) (l a (List.mem_cons_self ..)) (o b (List.mem_cons_self ..)) c;obtain⟨g1,g2,g3,g4⟩:=z M (fun x d=>hx x (List.mem_cons_of_mem _ d)) (by simpa using hl) (fun x d=>hn x (List.mem_cons_of_mem _ d)) (fun x d=>l x (List.mem_cons_of_mem _ d)) (fun y hy=>o y (List.mem_cons_of_mem _ hy)) E C h h1;refine⟨g1,fun n x e=>g2 n x (i n x e),fun x d f hf=>?_,fun D g=>?_⟩
       .rcases List.mem_cons.1 d with e|d
        .subst e;obtain⟨y,hy⟩:=j f hf;exact⟨y,g2 _ _ hy⟩
        .exact g3 x d f hf
       .rw [List.map_cons,k D (fun n x e=>g n x (g2 n x e)),g4 D g]
   obtain⟨h1,i,j,k⟩:=key L t.kids G hc.2.2 (fun x hx=>hp.kid hx) (fun x hx f hf=>hv f (by rw[vU];exact List.mem_flatMap.2 ⟨x,hx,hf⟩)) (fun y hy=>F t y u hy) B C h c;refine⟨h1,i,fun f hf=>?_,fun D g=>?_⟩
   .rw [vU] at hf;obtain⟨x,hx,hf⟩:=List.mem_flatMap.1 hf;exact j x hx f hf
   .rw [uN,k D g,<-hc.2.1,<-hc.1];exact eta t
  .rw [FM hc] at h;cases h
 .have I:L=[]:=hp _ (jo _) hs;subst I;have A:=hv _ (nK hs []);by_cases hc:t.sort≠ai/\t.sort≠s
  .rw [CU hs hc] at h;cases h
  .cases hx:bK B n with
   |some x=>
    rw[CS hs hc hx] at h;by_cases e:x=t
    .rw [if_pos e] at h;injection h with h
     subst h;refine⟨c,fun _ _ e=>e,fun f hf=>?_,fun D g=>?_⟩
     .rw [Q3 hs,List.mem_singleton] at hf;rw[hf];exact⟨x,hx⟩
     .rw [qh _ hs];show(bK D n).getD _=t;rw[g n x hx,Option.getD_some,e]
    .rw [if_neg e] at h;cases h
   |none=>
    rw[GU hs hc hx] at h;injection h with h
    subst h;have w: ∀m x,bK B m=some x->bK (B++[(n,s,t)]) m=some x:=fun m x e=>by rw[Gz,e];rfl
    have q:bK (B++[(n,s,t)]) n=some t:=by rw[Gz,hx];show(if n=n then some t else none)=some t;rw[if_pos rfl]
    refine⟨⟨fun b hb=>?_,?_,fun b hb=>?_,fun b hb r=>?_⟩,w,fun f hf=>?_,fun D g=>?_⟩
    .rcases List.mem_append.1 hb with hb|hb
     .exact c.inX b hb
     .rw [List.mem_singleton] at hb;rw[hb];exact A
    .rw [List.pairwise_append];refine⟨c.I4,List.pairwise_singleton _ _,fun a ha b hb=>?_⟩;rw[List.mem_singleton] at hb;rw[hb];exact Zr hx a ha
    .rcases List.mem_append.1 hb with hb|hb
     .exact c.val b hb
     .rw [List.mem_singleton] at hb;rw[hb];exact u
    .rcases List.mem_append.1 hb with hb|hb
     .exact c.srt b hb r
     .rw [List.mem_singleton] at hb;subst hb;by_cases e:t.sort=s
      .exact e
      .exact absurd ⟨r,e⟩ hc
    .rw [Q3 hs,List.mem_singleton] at hf;rw[hf];exact⟨t,q⟩
    .rw [qh _ hs];show(bK D n).getD _=t;rw[g n t q,Option.getD_some]
section
section
variable (nm:By->Bool)
def pK (s:List Bd) (i:Nat):Bool:=
 nm (yu s i).1&&nm (yu s i).2.1&&(decide (i=0)||blt (yu s (i-1)).1 (yu s i).1)&&wf nm (yu s i).2.2&&(decide ((yu s i).2.2.sort=ai)||(decide ((yu s i).2.2.sort=(yu s i).2.1)&&!decide ((yu s i).2.2.name=(yu s i).1)))
where yu (s:List Bd) (i:Nat):Bd:=s.getD i (ai,ai,default)
def sH (s:List Bd):Bool:=decide (s.length<=1000)&&(List.range s.length).all (pK nm s)
def vX (s:List Bd) (n:By):Option By:=(s.find? fun b=>decide (b.1=n)).map (·.2.1)
def bJ (s:List Bd) (t:Tm):Tm:=iW (gW s) t
def We (s:List Bd) (t:Tm):Bool:=(aY t).any fun f=>match vX s f.1 with|some so=>!decide (so=f.2)|none=>false
def app1 (s:List Bd) (t:Tm):Tm×Int:=
 if We s t=true then(.mk ai ai [],11) else if 1000< (bJ s t).size\/60< (bJ s t).depth then(.mk ai ai [],4) else if wf nm (bJ s t)=false then(.mk ai ai [],11) else(bJ s t,0)
def FQ (s:List Bd) (t:Tm):Tm×Int:=if(sH nm s&&wf nm t)=true then app1 nm s t else(.mk ai ai [],1)
end
theorem Yu {s:List Bd} {n:By}:vX s n=none<->bK s n=none:=by
 unfold vX bK;cases s.find? _<;>simp
theorem UM {s:List Bd} (hd:s.Pairwise fun a b=>a.1≠b.1) {b:Bd} (hb:b∈s):bK s b.1=some b.2.2/\vX s b.1=some b.2.1:=by
 induction s with
 |nil=>cases hb
 |cons a s c=>
  obtain⟨h1,d⟩:=List.pairwise_cons.1 hd;unfold bK vX;rw[List.find?_cons];rcases List.mem_cons.1 hb with e|hb
  .subst e;rw[dT rfl];exact⟨rfl,rfl⟩
  .rw [dF (h1 b hb)];exact c d hb
theorem QX {l:List Bd} (h:AscK (Prod.fst:Bd->By) l):l.Pairwise fun a b=>a.1≠b.1:=h.imp (fun{a b} c e=>by rw[e,iO] at c;cases c)
theorem UQ {nm:By->Bool} {s:List Bd} (h:sH nm s=true):s.length<=1000/\∀i,i<s.length->pK nm s i=true:=by
 unfold sH at h;rw[Bool.and_eq_true,decide_eq_true_eq,List.all_eq_true] at h;exact⟨h.1,fun i hi=>h.2 i (List.mem_range.2 hi)⟩
theorem FP {nm:By->Bool} {s:List Bd} (h:sH nm s=true):s.length<=1000/\AscK (Prod.fst:Bd->By) s/\∀b∈s,nm b.1=true/\nm b.2.1=true/\wf nm b.2.2=true/\(b.2.2.sort≠ai->b.2.2.sort=b.2.1/\b.2.2.name≠b.1):=by
 obtain⟨h1,o⟩:=UQ h;have g: ∀i (hi:i<s.length),pK.yu s i=s[i]:=fun i hi=>by unfold pK.yu;rw[gZ hi];rfl
 have hp: ∀i (hi:i<s.length),nm s[i].1=true/\nm s[i].2.1=true/\(i=0\/blt (pK.yu s (i-1)).1 s[i].1=true)/\wf nm s[i].2.2=true/\(s[i].2.2.sort≠ai->s[i].2.2.sort=s[i].2.1/\s[i].2.2.name≠s[i].1):=fun i hi=>by
  have k:=o i hi;unfold pK at k;rw[g i hi] at k;simp only[Bool.and_eq_true,Bool.or_eq_true,decide_eq_true_eq,Bool.not_eq_true',decide_eq_false_iff_not] at k;obtain⟨⟨⟨⟨a,b⟩,c⟩,d⟩,e⟩:=k;exact⟨a,b,c,d,fun hs=>e.resolve_left hs⟩
 refine⟨h1,?_,fun b hb=>?_⟩
 .have l: ∀i,i+1<s.length->blt (pK.yu s i).1 (pK.yu s (i+1)).1=true:=fun i hi=>by
   have:=(hp (i+1) hi).2.2.1;rw[g (i+1) hi];exact this.resolve_left (by omega)
  have n: ∀d i,i+d+1<s.length->blt (pK.yu s i).1 (pK.yu s (i+d+1)).1=true:=by
   intro d
   induction d with
   |zero=>intro i hi;exact l i hi
   |succ d p=>
    intro i hi;exact oV (p i (by omega)) (l (i+d+1) (by omega))
  unfold AscK;rw[List.pairwise_iff_getElem];intro i j hi q r;have:=n (j-i-1) i (by omega);rw[show i+(j-i-1)+1=j by omega,g i hi,g j q] at this;exact this
 .obtain ⟨i,hi,rfl⟩:=List.getElem_of_mem hb;obtain⟨a,b,_,d,e⟩:=hp i hi;exact⟨a,b,d,e⟩
end
section
open Go.ChangeMaps
def wK (es:List MapEntry) (N:List ByteArray):Prop:=es.map (·.key)=N.map Value.string
theorem wK.of {es:List MapEntry} {l:List (ByteArray×Value)} (h:es.map (fun e=>(e.key,e.val))=l.map (fun p=>(Value.string p.1,p.2))):wK es (l.map (·.1)):=by
 have:=congrArg (List.map Prod.fst) h;unfold wK;rw[List.map_map,List.map_map] at this;rw[List.map_map];exact this
theorem wK.name {es:List MapEntry} {N:List ByteArray} (h:wK es N) {e:MapEntry} (he:e∈es): ∃n∈N,e.key= .string n:=by
 have h1:e.key∈N.map Value.string:=by rw[<-h];exact List.mem_map.2 ⟨e,he,rfl⟩
 obtain⟨n,hn,a⟩:=List.mem_map.1 h1;exact⟨n,hn,a.symm⟩
theorem wK.ent {es:List MapEntry} {N:List ByteArray} (h:wK es N) {n:ByteArray} (hn:n∈N): ∃e∈es,e.key= .string n:=by
 have h1:Value.string n∈es.map (·.key):=by rw[h];exact List.mem_map.2 ⟨n,hn,rfl⟩
 obtain⟨e,he,a⟩:=List.mem_map.1 h1;exact⟨e,he,a⟩
theorem wK.uniq {es:List MapEntry} {N:List ByteArray} (h:wK es N) (hd:N.Nodup) {x y:MapEntry} (hx:x∈es) (hy:y∈es) (hk:x.key=y.key):x=y:=by
 have k:(es.map (·.key)).Nodup:=by
  rw[h];exact List.Pairwise.map _ (fun a b l e=>l (by injection e)) hd
 obtain⟨i,hi,rfl⟩:=List.getElem_of_mem hx;obtain⟨j,g,rfl⟩:=List.getElem_of_mem hy;have d:=(List.pairwise_iff_getElem.1 k)
 rcases Nat.lt_trichotomy i j with c|c|c
 .exact absurd (by rw[List.getElem_map,List.getElem_map];exact hk) (d i j (by simpa using hi) (by simpa using g) c)
 .subst c;rfl
 .exact absurd (by rw[List.getElem_map,List.getElem_map];exact hk.symm) (d j i (by simpa using g) (by simpa using hi) c)
theorem xC (s:Array Nat) (n k:Nat):(s.push n).contains k=(s.contains k||(k==n)):=by
 rw[Array.contains_push];try(cases s.contains k<;>cases(k==n)<;>rfl)
structure vS (es:List MapEntry) (seen:Array Nat) (D:List ByteArray):Prop where
 dn:D.Nodup
 sub: ∀n∈D,∃e∈es,e.key= .string n/\seen.contains e.born=true
 all: ∀e∈es,seen.contains e.born=true->∃n∈D,e.key= .string n
theorem vS.start (es:List MapEntry):vS es #[] []:=⟨List.nodup_nil,fun n h=>(by cases h),fun e _ h=>(by simp at h)⟩
theorem vS.next {es:List MapEntry} {seen:Array Nat} {D N:List ByteArray} (hm:wK es N) (hd:N.Nodup) (hn:(es.map (·.born)).Nodup) (h:vS es seen D) {e:MapEntry} (he:e∈es) (hs:seen.contains e.born=false) {n:ByteArray} (hk:e.key= .string n):vS es (seen.push e.born) (D++[n]):=by
 refine⟨?_,fun m d=>?_,fun x hx g=>?_⟩
 .rw [List.nodup_append];refine⟨h.dn,by simp,fun a ha b hb k=>?_⟩;rw[List.mem_singleton] at hb;subst hb;subst k;obtain⟨x,hx,j,c⟩:=h.sub a ha;have i:x=e:=hm.uniq hd hx he (by rw[j,hk]);rw[i,hs] at c;cases c
 .rcases List.mem_append.1 d with d|d
  .obtain ⟨x,hx,a,b⟩:=h.sub m d;exact⟨x,hx,a,by rw[xC,b];rfl⟩
  .rw [List.mem_singleton] at d;subst d;exact⟨e,he,hk,by rw[xC,beq_self_eq_true,Bool.or_true]⟩
 .rw [xC,Bool.or_eq_true,beq_iff_eq] at g;rcases g with g|g
  .obtain ⟨m,h1,l⟩:=h.all x hx g;exact⟨m,List.mem_append_left _ h1,l⟩
  .have i:x=e:=born_inj hn hx he g;rw[i];exact⟨n,List.mem_append_right _ (List.mem_singleton.2 rfl),hk⟩
theorem vS.fin {es:Array MapEntry} {seen:Array Nat} {D N:List ByteArray} (hm:wK es.toList N) (h:vS es.toList seen D) (h0:(leftOf es seen).size=0): ∀n,n∈D<->n∈N:=fun n=>
 ⟨fun hn=>by
  obtain⟨e,he,hk,_⟩:=h.sub n hn;obtain⟨m,b,a⟩:=hm.name he;rw[hk] at a;injection a with a
  rw[a];exact b,fun hn=>by
  obtain⟨e,he,hk⟩:=hm.ent hn;obtain⟨m,b,a⟩:=h.all e he (all_seen es seen h0 e he);rw[hk] at a;injection a with a
  rw[a];exact b⟩
theorem vS.sub' {es:List MapEntry} {seen:Array Nat} {D N:List ByteArray} (hm:wK es N) (h:vS es seen D): ∀n∈D,n∈N:=fun n hn=>by
 obtain⟨e,he,hk,_⟩:=h.sub n hn;obtain⟨m,b,a⟩:=hm.name he;rw[hk] at a;injection a with a
 rw[a];exact b
theorem vS.alike {es d:List MapEntry} {seen:Array Nat} {D:List ByteArray} (h:vS es seen D) (he:es.map (fun e=>(e.key,e.born))=d.map (fun e=>(e.key,e.born))):vS d seen D:=by
 have h1: ∀e'∈d,∃e∈es,e.key=e'.key/\e.born=e'.born:=fun e' h'=>by
  have:(e'.key,e'.born)∈es.map (fun e=>(e.key,e.born)):=by rw[he];exact List.mem_map.2 ⟨e',h',rfl⟩
  obtain⟨e,g,a⟩:=List.mem_map.1 this;injection a with b c
  exact⟨e,g,b,c⟩
 have g: ∀e∈es,∃e'∈d,e'.key=e.key/\e'.born=e.born:=fun e h'=>by
  have:(e.key,e.born)∈d.map (fun e=>(e.key,e.born)):=by rw[<-he];exact List.mem_map.2 ⟨e,h',rfl⟩
  obtain⟨e,g,a⟩:=List.mem_map.1 this;injection a with b c
  exact⟨e,g,b,c⟩
 refine⟨h.dn,fun n hn=>?_,fun e' h' hs=>?_⟩
 .obtain ⟨e,a,hk,hs⟩:=h.sub n hn;obtain⟨e',b,c,i⟩:=g e a;exact⟨e',b,c.trans hk,by rw[i];exact hs⟩
 .obtain ⟨e,a,b,c⟩:=h1 e' h';obtain⟨n,hn,hk⟩:=h.all e a (by rw[c];exact hs);exact⟨n,hn,b.symm.trans hk⟩
end
section
abbrev bg (l:List Bd) (i:Nat):Bd:=l.getD i (ai,ai,default)
def jh:List Bd->List Value->List Value
 |[],_=>[]
 |b::l,us=> .string b.1:: .string b.2.1:: .string b.2.2.name:: .string b.2.2.sort::us.headD rW::jh l us.tail
theorem Na: ∀(l:List Bd) (us:List Value) (i:Nat),i<l.length->
  (jh l us)[i*5]?=some (.string (bg l i).1)/\(jh l us)[i*5+1]?=some (.string (bg l i).2.1)/\(jh l us)[i*5+2]?=some (.string (bg l i).2.2.name)/\(jh l us)[i*5+3]?=some (.string (bg l i).2.2.sort)/\(jh l us)[i*5+4]?=some (ug us i)
 |b::l,us,0,_=>by
  refine⟨rfl,rfl,rfl,rfl,?_⟩;cases us<;>rfl
 |b::l,us,i+1,h=>by
  obtain⟨h0,h1,a,c,d⟩:=Na l us.tail i (by simpa using h);have e: ∀k,(jh (b::l) us)[(i+1)*5+k]?=(jh l us.tail)[i*5+k]?:=fun k=>by
   rw[show(i+1)*5+k=i*5+k+1+1+1+1+1 by omega];rfl
  refine⟨by rw[<-Nat.add_zero ((i+1)*5),e];exact h0,by rw[e];exact h1,by rw[e];exact a,by rw[e];exact c,?_⟩;rw[e,d];cases us<;>rfl
theorem Jy: ∀(l m:List Bd) (us vs:List Value),us.length=l.length->jh (l++m) (us++vs)=jh l us++jh m vs
 |[],m,[],vs,_=>rfl
 |a::l,m,b::us,vs,h=>by
  have:=Jy l m us vs (by simpa using h);simp only[List.cons_append,jh,List.headD_cons,List.tail_cons,this]
theorem Jz (l:List Bd): ∀(us:List Value),(∀u∈us,u.oneCell'=true)->∀u∈jh l us,u.oneCell'=true:=by
 induction l with
 |nil=>intro us _ u hu;cases hu
 |cons b l d=>
  intro us c u hu;simp only[jh,List.mem_cons] at hu;rcases hu with h|h|h|h|h|h
  .subst h;rfl
  .subst h;rfl
  .subst h;rfl
  .subst h;rfl
  .subst h;cases us with
   |nil=>rfl
   |cons a us=>exact c a (List.mem_cons_self ..)
  .exact d us.tail (fun v hv=>c v (List.mem_of_mem_tail hv)) u h
theorem JA {l:List Bd} {i:Nat} (h:i<l.length):bg l i∈l:=by unfold bg;rw[gZ h];exact List.getElem_mem h
def jb (R S:Nat->Prop) (w:World) (v:Value) (l:List Bd):Prop:= ∃us,us.length=l.length/\aB R w 5 v l.length (jh l us)/\∀i,i<l.length->aG S w (bg l i).2.2.kids (ug us i)
section
variable {R S T Q F:Nat->Prop} {w w':World} {l:List Bd} {v:Value}
theorem jb.nil (R S:Nat->Prop) (w:World):jb R S w rW []:=⟨[],rfl,aB.nil _ _ _,fun i h=>by cases h⟩
theorem jb.shape (h:jb R S w v l): ∃a cap,v= .slice a l.length cap:=by
 obtain⟨us,_,h,_⟩:=h;exact h.shape
theorem jb.kept (h:jb R S w v l) (hu:au F w w') (hR: ∀k,R k->¬F k) (hS: ∀k,S k->¬F k):jb R S w' v l:=by
 obtain⟨us,h1,a,b⟩:=h;exact⟨us,h1,a.kept hu hR,fun i hi=>(b i hi).kept hu hS⟩
theorem jb.ext (h:jb R S w v l) (hu:Ext w w'):jb R S w' v l:=h.kept hu (fun _ _ h=>h) (fun _ _ h=>h)
theorem jb.weaken (h:jb R S w v l) (hr: ∀k,R k->Q k) (hs: ∀k,S k->T k):jb Q T w v l:=by
 obtain⟨us,h1,a,b⟩:=h;exact⟨us,h1,a.weaken hr,fun i hi=>(b i hi).weaken hs⟩
theorem jb.at_ {a:Option Addr} {n cap:Nat} (h:jb R S w (.slice a n cap) l) (hl:0<l.length):
  ∃g off,a=some ⟨g,off,none⟩/\R g/\∀i,i<l.length->∃c d,w.cell? ⟨g,off+i*5,none⟩=some (.string (bg l i).1)/\w.cell? ⟨g,off+i*5+1,none⟩=some (.string (bg l i).2.1)/\
   w.cell? ⟨g,off+i*5+2,none⟩=some (.string (bg l i).2.2.name)/\w.cell? ⟨g,off+i*5+3,none⟩=some (.string (bg l i).2.2.sort)/\w.cell? ⟨g,off+i*5+4,none⟩=some (.slice c (bg l i).2.2.kids.length d)/\aG S w (bg l i).2.2.kids (.slice c (bg l i).2.2.kids.length d):=by
 obtain⟨us,t,h,hk⟩:=h;obtain⟨g,off,r,e,hc,hS,b⟩:=h.pos hl;injection e with o u x
 refine⟨g,off,o,hS,fun i hi=>?_⟩;obtain⟨h0,h1,p,q,k⟩:=Na l us i hi;obtain⟨c,d,e'⟩:=(hk i hi).shape;have j:=hk i hi;rw[e'] at j k;exact⟨c,d,by rw[b _ (by omega),h0],by rw[Nat.add_assoc,b _ (by omega),h1],by rw[Nat.add_assoc,b _ (by omega),p],by rw[Nat.add_assoc,b _ (by omega),q],by rw[Nat.add_assoc,b _ (by omega),k],j⟩
end
end
end Go.Hw
