/- The texts L1 TP TM RW TF TV TC TK L2 MP TW L3 L4S L10 L4, one behind the other. -/
import Derived.WalkKit
import Derived.WalkSpells
import Derived.Lib.Hide
import Derived.BigQuiet
import Derived.Deep.QuietTactic
import Derived.Deep.LoopGhost
import Derived.StillTailTactics
import Derived.RangeFuncRecord
import Derived.RangeFuncKeeps
import Derived.MapKept
import Derived.WideKeyRuns
import Derived.OrdersHeld
import Derived.StillTail
set_option linter.unusedVariables false
set_option linter.unusedSimpArgs false
namespace Go.Hw
open Go.RowKit
section
structure au (F:Nat->Prop) (w w':World):Prop where
 os:w'.os=w.os
 tape:w'.tape=w.tape
 output:w'.output=w.output
 size:w.heap.size<=w'.heap.size
 block: ∀k,k<w.heap.size->¬F k->w'.heap[k]?=w.heap[k]?
abbrev Ext (w w':World):Prop:=au (fun _=>False) w w'
theorem au.refl (F:Nat->Prop) (w:World):au F w w:=⟨rfl,rfl,rfl,Nat.le_refl _,fun _ _ _=>rfl⟩
theorem au.trans {F:Nat->Prop} {a b c:World} (h:au F a b) (k:au F b c):au F a c:=
 ⟨k.os.trans h.os,k.tape.trans h.tape,k.output.trans h.output,Nat.le_trans h.size k.size,
  fun i hi hf=>(k.block i (Nat.lt_of_lt_of_le hi h.size) hf).trans (h.block i hi hf)⟩
theorem au.mono {F G:Nat->Prop} {a b:World} (h:au F a b) (c: ∀k,k<a.heap.size->F k->G k):au G a b:=
 ⟨h.os,h.tape,h.output,h.size,fun i hi hf=>h.block i hi (fun x=>hf (c i hi x))⟩
theorem au.trans' {F G:Nat->Prop} {a b c:World} (h:au F a b) (k:au G b c) (hs: ∀i,i<a.heap.size->G i->F i):au F a c:=
 ⟨k.os.trans h.os,k.tape.trans h.tape,k.output.trans h.output,Nat.le_trans h.size k.size,
  fun i hi hf=>(k.block i (Nat.lt_of_lt_of_le hi h.size) (fun g=>hf (hs i hi g))).trans (h.block i hi hf)⟩
theorem au.ext {F:Nat->Prop} {a b c:World} (h:au F a b) (k:Ext b c):au F a c:=h.trans' k (fun _ _ x=>x.elim)
theorem au.drew {F:Nat->Prop} {a w:World} (h:au F a w):au F a w.drew:=⟨h.os,h.tape,h.output,h.size,h.block⟩
theorem au.EW {F:Nat->Prop} {w w':World} (h:au F w.drew w'):au F w w':=⟨h.os,h.tape,h.output,h.size,h.block⟩
theorem au.drewN' {F:Nat->Prop} {a w:World} (h:au F a w) (n:Nat):au F a (w.drewN n):=⟨h.os,h.tape,h.output,h.size,h.block⟩
theorem au.alloc {F:Nat->Prop} {a w:World} (h:au F a w) (o:Obj):au F a (w.alloc o):=
 h.trans ⟨rfl,rfl,rfl,by simp,fun k hk _=>Below.heap_alloc _ _ _ hk⟩
theorem au.setCell {F:Nat->Prop} {a w:World} (h:au F a w) {p:Addr} (hp:F p.block\/a.heap.size<=p.block) (u:Value):au F a (w.setCell p u):=
 ⟨h.os,h.tape,h.output,by simpa[World.setCell] using h.size,fun k hk hf=>by
  rw[Below.heap_setCell _ _ _ _ (by intro e;subst e;rcases hp with hp|hp;exact hf hp;omega)];exact h.block k hk hf⟩
theorem au.jQ {w w':World} {row:Option Nat} (h:w.grownBy w' row):au (fun k=>some k=row) w w':=
 ⟨h.os,h.tape,h.output,h.size,fun k hk hf=>h.block k hk hf⟩
theorem au.cell {F:Nat->Prop} {w w':World} (h:au F w w') {p:Addr} {v:Value} (hc:w.cell? p=some v) (hp: ¬F p.block):w'.cell? p=some v:=
 (World.cell?_of_block (w:=w) (h.block p.block (World.block_lt_of_cell? w p hc) hp)).trans hc
theorem Ext.below {w w':World} (h:Ext w w'):Below w.heap.size w w':=⟨h.os,h.tape,h.output,h.size,fun k hk=>h.block k hk (fun x=>x)⟩
theorem au.heap {F:Nat->Prop} {w w':World} (h:au F w w') {b:Nat} {o:Obj} (hb:w.heap[b]?=some o) (hF: ¬F b):w'.heap[b]?=some o:=
 (h.block b (Array.getElem?_eq_some_iff.1 hb).1 hF).trans hb
theorem ag {w:World} {b:Nat} {cs:Array Value} {t:TypeId} (h:w.heap[b]?=some (.cells cs t (0,0))) (i:Nat) (v:Value) (hv:cs[i]?=some v):w.cell? ⟨b,i,none⟩=some v:=by
 rw[cell_of_row w b i cs t _ h,hv]
theorem ax {w:World} {b:Nat} {cs:Array Value} {t:TypeId} (h:w.heap[b]?=some (.cells cs t (0,0))) (i:Nat):w.frozen? ⟨b,i,none⟩=false:=frozen_of_row w b i cs t h
def Stop (p:Prop):Prop:=p
theorem Stop.go {p:Prop} (h:p):Stop p:=h
theorem BA {P:Program} {ops:Array Oper} {Q:Exit->Act->World->Prop} {rest:List Oper} {a:Act} {w:World} {o:Oper}
  (h:Stop (wpList P ops Q (o::rest) a w)):wpList P ops Q (o::rest) a w:=h
theorem aj (w:World) (o:Obj):(w.alloc o).heap[w.heap.size]?=some o:=by
 show(w.heap.push o)[w.heap.size]?=some o;simp
theorem alloc_at (w:World) (o:Obj) {n:Nat} (h:n=w.heap.size):(w.alloc o).heap[n]?=some o:=by subst h;exact aj w o
theorem ak {w:World} {k:Nat} {x:Obj} (h:w.heap[k]?=some x) (o:Obj):(w.alloc o).heap[k]?=some x:=by
 rw[Below.heap_alloc _ _ _ (Array.getElem?_eq_some_iff.1 h).1];exact h
def aB (S:Nat->Prop) (w:World) (size:Nat) (v:Value) (n:Nat) (cs:List Value):Prop:=
 cs.length=n*size/\
 ((v= .slice none 0 0/\n=0)\/
  ∃ad cap,v= .slice (some ad) n cap/\n<=cap/\(0<n->ad.spot=none/\S ad.block)/\∀j,j<n*size->w.cell? ⟨ad.block,ad.off+j,none⟩=cs[j]?)
section
variable {S T F:Nat->Prop} {w w':World} {size:Nat} {v:Value} {n:Nat} {cs:List Value}
theorem aB.nil (S:Nat->Prop) (w:World) (size:Nat):aB S w size (.slice none 0 0) 0 []:=⟨by simp,.inl ⟨rfl,rfl⟩⟩
theorem aB.mk' {g off cap:Nat} (hl:cs.length=n*size) (hv:v= .slice (some ⟨g,off,none⟩) n cap) (hc:n<=cap) (hS:0<n->S g) (a: ∀j,j<n*size->w.cell? ⟨g,off+j,none⟩=cs[j]?):
  aB S w size v n cs:=⟨hl,.inr ⟨_,cap,hv,hc,fun h=>⟨rfl,hS h⟩,a⟩⟩
theorem aB.weaken (h:aB S w size v n cs) (hs: ∀k,S k->T k):aB T w size v n cs:=by
 refine⟨h.1,?_⟩;rcases h.2 with h|⟨ad,cap,hv,hc,a,b⟩
 .exact .inl h
 .exact .inr ⟨ad,cap,hv,hc,fun h=>⟨(a h).1,hs _ (a h).2⟩,b⟩
theorem oQ {n j size:Nat} (h:j<n*size):0<n:=by
 cases n with
 |zero=>simp at h
 |succ n=>omega
theorem aB.kept (h:aB S w size v n cs) (hu:au F w w') (hF: ∀k,S k->¬F k):aB S w' size v n cs:=by
 refine⟨h.1,?_⟩;rcases h.2 with c|⟨ad,cap,hv,hc,b,d⟩
 .exact .inl c
 .refine .inr ⟨ad,cap,hv,hc,b,fun j a=>?_⟩;have h1:=d j a;rw[List.getElem?_eq_getElem (by rw[h.1];exact a)] at h1⊢;exact hu.cell h1 (hF _ (b (oQ a)).2)
theorem aB.drewN (h:aB S w size v n cs) (k:Nat):aB S (w.drewN k) size v n cs:=h
theorem aB.shape (h:aB S w size v n cs): ∃a cap,v= .slice a n cap:=by
 rcases h.2 with⟨h1,b⟩|⟨ad,cap,hv,_⟩
 .exact ⟨none,0,by rw[h1,b]⟩
 .exact ⟨_,_,hv⟩
theorem aB.pos (h:aB S w size v n cs) (hn:0<n): ∃g off cap,v= .slice (some ⟨g,off,none⟩) n cap/\n<=cap/\S g/\∀j,j<n*size->w.cell? ⟨g,off+j,none⟩=cs[j]?:=by
 rcases h.2 with⟨h1,a⟩|⟨ad,cap,hv,hc,b,c⟩
 .omega
 .obtain ⟨g,off,spot⟩:=ad;obtain⟨h1,a⟩:=b hn;simp only at h1;subst h1;exact⟨g,off,cap,hv,hc,a,c⟩
theorem aB.gG {base e:Nat} (h:w.ownsRow base e size v n cs):aB (fun k=>v.ownBlock=Option.some k) w size v n cs:=by
 refine⟨h.1,?_⟩;rcases h.2 with a|⟨g,cap,cur,rfl,hb,c,hc,hm,hs,d⟩
 .exact .inl a
 .refine .inr ⟨⟨g,0,Option.none⟩,cap,rfl,hc,fun _=>⟨rfl,rfl⟩,fun j b=>?_⟩;rw[Nat.zero_add];exact World.ownsRow.cellAt h j b
theorem bM {base e:Nat} (h:w.ownsRow base e size v n cs) (hu:au F w w') (hF: ∀k,v.ownBlock=Option.some k->¬F k):w'.ownsRow base e size v n cs:=by
 refine⟨h.1,?_⟩;rcases h.2 with a|⟨g,cap,cur,rfl,hb,b,rest⟩
 .exact .inl a
 .exact .inr ⟨g,cap,cur,rfl,hb,hu.heap b (hF g rfl),rest⟩
theorem bF {base e:Nat} (h:w.ownsRow base e size v n cs): ∃a cap,v= .slice a n cap:=(aB.gG h).shape
theorem aB.to (h:aB S w size v n cs) {a:Option Addr} {m cap:Nat} (hv:v= .slice a m cap) (k:Nat) (hk:k<=n):
  aB S w size (.slice a k cap) k (cs.take (k*size)):=by
 have hle:k*size<=n*size:=Nat.mul_le_mul_right _ hk;refine⟨by rw[List.length_take,h.1];omega,?_⟩;rcases h.2 with⟨h1,o⟩|⟨ad,d,h1,hc,g,i⟩
 .rw [h1] at hv;injection hv with b l c
  subst b;subst c;have:k=0:=by omega
  subst this;exact .inl ⟨rfl,rfl⟩
 .rw [h1] at hv;injection hv with b l c
  subst b;subst c;refine .inr ⟨ad,d,rfl,by omega,fun h=>g (by omega),fun j e=>?_⟩;rw[i j (by omega),List.getElem?_take_of_lt e]
theorem aB.from (h:aB S w size v n cs) {a:Option Addr} {m cap:Nat} (hv:v= .slice a m cap) (k:Nat) (hk:k<=n):
  aB S w size (sliced a k n cap size) (n-k) (cs.drop (k*size)):=by
 have hle:k*size<=n*size:=Nat.mul_le_mul_right _ hk;refine⟨by rw[List.length_drop,h.1,Nat.sub_mul],?_⟩;rcases h.2 with⟨h1,c⟩|⟨ad,d,h1,hc,l,o⟩
 .rw [h1] at hv;injection hv with b g i
  subst b;subst i;have:k=0:=by omega
  subst this;subst c;exact .inl ⟨by simp[sliced],rfl⟩
 .rw [h1] at hv;injection hv with b g i
  subst b;subst i;by_cases he:d=k
  .have hn:n=k:=by omega
   refine .inr ⟨ad,d-k,by simp[sliced,he],by omega,fun h=>by omega,fun j e=>?_⟩;simp[hn] at e
  .refine .inr ⟨ad.add (k*size),d-k,?_,by omega,fun h=>?_,fun j e=>?_⟩
   .simp only [sliced,if_neg he,Option.map_some]
   .obtain ⟨h1,c⟩:=l (by omega);unfold Addr.add;split
    .exact ⟨h1,c⟩
    .exact ⟨rfl,c⟩
   .have b:(ad.add (k*size)).block=ad.block:=by unfold Addr.add;split<;>rfl
    have g:(ad.add (k*size)).off=ad.off+k*size:=by
     unfold Addr.add;split
     .rename_i h0;simp[h0]
     .rfl
    rw[b,g,List.getElem?_drop,Nat.add_assoc];exact o _ (by rw[Nat.sub_mul] at e;omega)
theorem aB.cellAt (h:aB S w size v n cs) {g off cap m:Nat} (hv:v= .slice (some ⟨g,off,none⟩) m cap) {j:Nat} (a:j<n*size):w.cell? ⟨g,off+j,none⟩=cs[j]?:=by
 rcases h.2 with⟨h1,d⟩|⟨ad,e,h1,hc,i,c⟩
 .rw [d] at a;simp at a
 .rw [h1] at hv;injection hv with b k l
  injection b with b
  subst b;exact c j a
theorem aB.EH (h:aB S w size v n cs) {a:Option Addr} {m cap:Nat} (hv:v= .slice a m cap):n<=cap:=by
 rcases h.2 with⟨h1,g⟩|⟨ad,e,h1,hc,_⟩
 .rw [h1] at hv;injection hv with b c d;omega
 .rw [h1] at hv;injection hv with b c d;omega
end
section
variable {P:Program} (w:World)
theorem zD (base:Nat) (t ty e:TypeId) (i:TypeInfo) (z:Value) (size bytes:Nat) (d:P.underlying t=some (.slice e)) (hi:P.info? e=some i) (o:i.zero=some z)
  (q:i.size=size) (x:i.bytes=bytes)
  (v:Value) (n:Nat) (xs:List Value) (hown:w.ownsRow base e size v n xs)
  (a:Addr) (m c:Nat) (news:List Value) (hl:news.length=m*size) (h: ∀j u,news[j]?=some u->w.cell? (a.add j)=some u) (h1: ∀u∈news,u.oneCell'=true)
  (y:n+m<=maxLen) (k:(n+m)*bytes<=140737488355328) {v':Value} {w':World}
  (hr:(Builtin.append_ #[t,t] ty #[v,.slice (some a) m c]).run P w= .ok v' w'):v'.ownBlock=v.ownBlock\/v'.ownBlock=some w.heap.size:=by
 subst q;subst x;have B:n+m<=9223372036854775807:=by simp only[maxLen] at y;omega
 rcases hown.2 with⟨rfl,rfl⟩|⟨g,cap,cur,rfl,D,A,E,G,hcs,C⟩
 .by_cases hm:m=0
  .subst hm;simp[Builtin.append_,run_underlying d,sizeOf,typeInfo,hi,Builtin.lenOf,Builtin.firstCells,loadCells,loadCellsFrom] at hr;left;rw[<-hr.1]
  .rw [run_append_nil (P:=P) w t ty e i z d hi o a m c news hl h (by omega) (by omega) (by simp only[Nat.zero_add] at k;omega)] at hr;injection hr with b p
   right;rw[<-b];rfl
 .by_cases l:n+m<=cap
  .have r:n*i.size+news.length<=cur.size:=by rw[hl,hcs,<-Nat.add_mul];exact Nat.mul_le_mul_right _ l
   rw[run_append_room (P:=P) w t ty e i d hi g n cap cur A a m c news hl h h1 l r] at hr;injection hr with b p
   left;rw[<-b];rfl
  .have holds: ∀j u,xs[j]?=some u->w.cell? ((⟨g,0,none⟩:Addr).add j)=some u:=hown.cells (g:=g) rfl;rw[run_append_grow (P:=P) w t ty e i z d hi o ⟨g,0,none⟩ n cap xs hown.1 holds a m c news hl h (by omega) (by omega) (growslice_fits (by omega) k)] at hr;injection hr with b p
   right;rw[<-b];rfl
structure Grew (base e size:Nat) (v:Value) (n:Nat) (xs:List Value) (w w':World) (v':Value):Prop where
 own:w'.ownsRow base e size v' n xs
 grown:w.grownBy w' v.ownBlock
 xK:v'.ownBlock=v.ownBlock\/v'.ownBlock=some w.heap.size
theorem Grew.upd {base e size:Nat} {v:Value} {n:Nat} {xs:List Value} {w w':World} {v':Value} (h:Grew base e size v n xs w w' v'):
  au (fun k=>v.ownBlock=some k) w w':=(au.jQ h.grown).mono fun k _ e=>e.symm
theorem d_ {o:Oper} {a:Act} {K:Act->World->Prop} {Q:Exit->Act->World->Prop} (s x:Operand) (t:TypeId)
  (ho:o.op= .call {callee:= .builtin .append,args:= #[s,x],argTypes:= #[t,t]})
  (base:Nat) (e:TypeId) (i:TypeInfo) (z:Value) (size bytes:Nat) (p:P.underlying t=some (.slice e)) (hi:P.info? e=some i) (q:i.zero=some z)
  (d:i.size=size) (k:i.bytes=bytes) (y:z.cells.size=size) (A:0<size)
  (v:Value) (n:Nat) (xs:List Value) (hs:a.eval s=v) (hown:w.ownsRow base e size v n xs)
  (ad:Addr) (m c:Nat) (news:List Value) (hx:a.eval x= .slice (some ad) m c) (hl:news.length=m*size) (g: ∀j u,news[j]?=some u->w.cell? (ad.add j)=some u) (h1: ∀u∈news,u.oneCell'=true)
  (l:n+m<=maxLen) (b:(n+m)*bytes<=140737488355328) (r:base<=w.heap.size)
  (h: ∀v' w',Grew base e size v (n+m) (xs++news) w w' v'->K (a.put o.dst v') w'):o.wp P a w K Q:=by
 obtain⟨v',w',hr,B,C,E⟩:=run_append_own (P:=P) w base t o.type e i z size bytes p hi q d k y A v n xs hown ad m c news hl g h1 l b r;have D:=zD (P:=P) w base t o.type e i z size bytes p hi q d k v n xs hown ad m c news hl g h1 l b hr;unfold Oper.wp execOp;simp only[ho,resolve,invoke,builtin,Sem.run_bind,Sem.run_pure,Result.andThen_ok,List.map_toArray,List.map_cons,List.map_nil,hs,hx,hr];exact h v' w' ⟨B,C,D⟩
theorem o7 {ops:Array Oper} {rest:List Oper} {o:Oper} {a:Act} {Q:Exit->Act->World->Prop} (y:o.guard=none) (s x:Operand) (t:TypeId)
  (ho:o.op= .call {callee:= .builtin .append,args:= #[s,x],argTypes:= #[t,t]})
  (base:Nat) (e:TypeId) (i:TypeInfo) (z:Value) (size bytes:Nat) (p:P.underlying t=some (.slice e)) (hi:P.info? e=some i) (q:i.zero=some z)
  (d:i.size=size) (k:i.bytes=bytes) (A:z.cells.size=size) (B:0<size)
  (v:Value) (n:Nat) (xs:List Value) (hs:a.eval s=v) (hown:w.ownsRow base e size v n xs)
  (ad:Addr) (m c:Nat) (news:List Value) (hx:a.eval x= .slice (some ad) m c) (hl:news.length=m*size) (g: ∀j u,news[j]?=some u->w.cell? (ad.add j)=some u) (h1: ∀u∈news,u.oneCell'=true)
  (l:n+m<=maxLen) (b:(n+m)*bytes<=140737488355328) (r:base<=w.heap.size)
  (h: ∀v' w',Grew base e size v (n+m) (xs++news) w w' v'->wpList P ops Q rest (a.put o.dst v') w'):wpList P ops Q (o::rest) a w:=by
 obtain⟨v',w',hr,C,D,G⟩:=run_append_own (P:=P) w base t o.type e i z size bytes p hi q d k A B v n xs hown ad m c news hl g h1 l b r;have E:=zD (P:=P) w base t o.type e i z size bytes p hi q d k v n xs hown ad m c news hl g h1 l b hr;refine wpList_plain y fun _ hK=>?_;unfold Oper.wp execOp;simp only[ho,resolve,invoke,builtin,Sem.run_bind,Sem.run_pure,Result.andThen_ok,List.map_toArray,List.map_cons,List.map_nil,hs,hx,hr];exact hK _ _ (h v' w' ⟨C,D,E⟩)
theorem oz {o:Oper} {a:Act} {K:Act->World->Prop} {Q:Exit->Act->World->Prop} (s x:Operand) (t:TypeId)
  (ho:o.op= .call {callee:= .builtin .append,args:= #[s,x],argTypes:= #[t,t]})
  (base:Nat) (e:TypeId) (i:TypeInfo) (z:Value) (size bytes:Nat) (k:P.underlying t=some (.slice e)) (hi:P.info? e=some i) (C:i.zero=some z)
  (p:i.size=size) (r:i.bytes=bytes) (y:z.cells.size=size) (A:0<size)
  (v:Value) (n:Nat) (xs:List Value) (hs:a.eval s=v) (hown:w.ownsRow base e size v n xs)
  (S:Nat->Prop) (sv:Value) (m:Nat) (news:List Value) (hx:a.eval x=sv) (b:aB S w size sv m news) (h1: ∀u∈news,u.oneCell'=true)
  (B:n+m<=maxLen) (l:(n+m)*bytes<=140737488355328) (q:base<=w.heap.size)
  (h: ∀v' w',Grew base e size v (n+m) (xs++news) w w' v'->K (a.put o.dst v') w'):o.wp P a w K Q:=by
 rcases b.2 with⟨hv,hm⟩|⟨ad,cap,hv,hc,D,E⟩
 .have hr:=run_append_owned_none (P:=P) w base t o.type e i size k hi v n xs hown;have hn:news=[]:=List.eq_nil_of_length_eq_zero (by rw[b.1,hm];simp);subst hn;subst hm;unfold Oper.wp execOp;simp only[ho,resolve,invoke,builtin,Sem.run_bind,Sem.run_pure,Result.andThen_ok,List.map_toArray,List.map_cons,List.map_nil,hs,hx,hv,hr];exact(h v w ⟨by simpa using hown,⟨rfl,rfl,rfl,Nat.le_refl _,fun _ _ _=>rfl⟩,.inl rfl⟩)
 .refine d_ w s x t ho base e i z size bytes k hi C p r y A v n xs hs hown ad m cap news (by rw[hx,hv]) b.1 ?_ h1 B l q h;intro j u hu;have c:j<m*size:=by rw[<-b.1];exact(List.getElem?_eq_some_iff.1 hu).1
  rw[<-hu,<-E j c];obtain⟨g,off,spot⟩:=ad;have d:=(D (oQ c)).1;simp only at d;subst d;congr 1;unfold Addr.add;split
  .rename_i h0;simp[h0]
  .rfl
theorem kG {ops:Array Oper} {rest:List Oper} {o:Oper} {a:Act} {Q:Exit->Act->World->Prop} (c:o.guard=none) (s x:Operand) (t:TypeId)
  (ho:o.op= .call {callee:= .builtin .append,args:= #[s,x],argTypes:= #[t,t]})
  (base:Nat) (e:TypeId) (i:TypeInfo) (z:Value) (size bytes:Nat) (l:P.underlying t=some (.slice e)) (hi:P.info? e=some i) (D:i.zero=some z)
  (q:i.size=size) (y:i.bytes=bytes) (A:z.cells.size=size) (B:0<size)
  (v:Value) (n:Nat) (xs:List Value) (hs:a.eval s=v) (hown:w.ownsRow base e size v n xs)
  (S:Nat->Prop) (sv:Value) (m:Nat) (news:List Value) (hx:a.eval x=sv) (b:aB S w size sv m news) (h1: ∀u∈news,u.oneCell'=true)
  (C:n+m<=maxLen) (p:(n+m)*bytes<=140737488355328) (r:base<=w.heap.size)
  (h: ∀v' w',Grew base e size v (n+m) (xs++news) w w' v'->wpList P ops Q rest (a.put o.dst v') w'):wpList P ops Q (o::rest) a w:=by
 rcases b.2 with⟨hv,hm⟩|⟨ad,cap,hv,hc,E,G⟩
 .have hr:=run_append_owned_none (P:=P) w base t o.type e i size l hi v n xs hown;have hn:news=[]:=List.eq_nil_of_length_eq_zero (by rw[b.1,hm];simp);subst hn;subst hm;refine wpList_plain c fun _ hK=>?_;unfold Oper.wp execOp;simp only[ho,resolve,invoke,builtin,Sem.run_bind,Sem.run_pure,Result.andThen_ok,List.map_toArray,List.map_cons,List.map_nil,hs,hx,hv,hr];exact hK _ _ (h v w ⟨by simpa using hown,⟨rfl,rfl,rfl,Nat.le_refl _,fun _ _ _=>rfl⟩,.inl rfl⟩)
 .refine o7 w c s x t ho base e i z size bytes l hi D q y A B v n xs hs hown ad m cap news (by rw[hx,hv]) b.1 ?_ h1 C p r h;intro j u hu;have d:j<m*size:=by rw[<-b.1];exact(List.getElem?_eq_some_iff.1 hu).1
  rw[<-hu,<-G j d];obtain⟨g,off,spot⟩:=ad;have k:=(E (oQ d)).1;simp only at k;subst k;congr 1;unfold Addr.add;split
  .rename_i h0;simp[h0]
  .rfl
theorem yG {ops:Array Oper} {rest:List Oper} {o:Oper} {a:Act} {Q:Exit->Act->World->Prop} (g:o.guard=none) (t:TypeId) (x l:Operand)
  (ho:o.op= .slice t x (some l) none none) (size:Nat) (c:P.underlying t=some (.slice (P.elem t))) (h: ∀w,(sizeOf (P.elem t)).run P w= .ok size w)
  (S:Nat->Prop) (v:Value) (n:Nat) (cs:List Value) (hx:a.eval x=v) (b:aB S w size v n cs) (k:Nat) (d:IntKind) (e:Int) (j:a.eval l= .int d e) (i:e=k) (hk:k<=n)
  (hn: ∀sv,aB S w size sv (n-k) (cs.drop (k*size))->wpList P ops Q rest (a.put o.dst sv) w):wpList P ops Q (o::rest) a w:=by
 obtain⟨ad,cap,hv⟩:=b.shape;refine wpList_plain g fun _ hK=>?_;unfold Oper.wp execOp;subst i;have hr:=run_slice_l (P:=P) w t ad n cap c d (k:Int) (by omega) (by omega);simp only[h,Result.andThen_ok,Int.toNat_natCast] at hr;rw[hv] at hx;simp only[ho,run_sliceAt_slice (P:=P) w t _ _ _ _ c,Sem.run_bind,Sem.run_pure,Result.andThen_ok,Option.map_some,Option.map_none,hx,j,hr];exact hK _ _ (hn _ (b.from hv k hk))
end
end
end Go.Hw
namespace Go.Hw
abbrev By:=ByteArray
def ai:By:=⟨#[]⟩
inductive Tm where
 |mk (name sort:By) (L:List Tm)
namespace Tm
def name:Tm->By| .mk n _ _=>n
def sort:Tm->By| .mk _ s _=>s
def kids:Tm->List Tm| .mk _ _ l=>l
instance:Inhabited Tm:=⟨.mk ai ai []⟩
theorem eta (t:Tm): .mk t.name t.sort t.kids=t:=by cases t;rfl
theorem ind {P:Tm->Prop} (h: ∀n s L,(∀x∈L,P x)->P (.mk n s L)): ∀t,P t:=by
 intro t;refine Tm.rec (motive_1:=P) (motive_2:=fun L=> ∀x∈L,P x) (fun n s L b=>h n s L b) (fun x hx=>by cases hx) (fun a L ha c x hx=>?_) t;rcases List.mem_cons.1 hx with e|hx
 .rw [e];exact ha
 .exact c x hx
mutual
def size:Tm->Nat
 | .mk _ _ L=>sizes L+1
def sizes:List Tm->Nat
 |[]=>0
 |t::L=>size t+sizes L
end
mutual
def depth:Tm->Nat
 | .mk _ _ L=>depths L+1
def depths:List Tm->Nat
 |[]=>0
 |t::L=>max (depth t) (depths L)
end
mutual
def beq:Tm->Tm->Bool
 | .mk n s L,.mk m r M=>decide (n=m)&&(decide (s=r)&&MW L M)
def MW:List Tm->List Tm->Bool
 |[],[]=>true
 |t::L,u::M=>beq t u&&MW L M
 |_,_=>false
end
theorem beq_eq: ∀t u:Tm,beq t u=true<->t=u:=by
 refine ind (fun n s L d u=>?_);obtain⟨m,r,M⟩:=u;unfold beq;have e: ∀(L:List Tm),(∀x∈L,∀u,beq x u=true<->x=u)->∀M,MW L M=true<->L=M:=by
  intro L
  induction L with
  |nil=>intro _ M;cases M<;>simp[MW]
  |cons a L c=>
   intro h M;cases M with
   |nil=>simp[MW]
   |cons b M=>
    unfold MW;rw[Bool.and_eq_true,h a (List.mem_cons_self ..),c (fun x hx=>h x (List.mem_cons_of_mem _ hx)),List.cons.injEq]
 rw[Bool.and_eq_true,Bool.and_eq_true,decide_eq_true_eq,decide_eq_true_eq,e L d M,Tm.mk.injEq]
instance:DecidableEq Tm:=fun t u=>decidable_of_iff _ (beq_eq t u)
theorem size_pos (t:Tm):0<t.size:=by cases t;simp[size]
theorem gQ {x:Tm}: ∀{L:List Tm},x∈L->x.size<=sizes L
 |a::L,h=>by
  rcases List.mem_cons.1 h with e|h
  .rw [e];simp[sizes]
  .have:=gQ h;simp[sizes];omega
theorem ui {t x:Tm} (h:x∈t.kids):x.size<t.size:=by
 obtain⟨n,s,L⟩:=t;have:=gQ (L:=L) h;simp[size];omega
theorem size_eq (t:Tm):t.size=sizes t.kids+1:=by cases t;rfl
theorem lg (t:Tm):t.depth=depths t.kids+1:=by cases t;rfl
theorem OQ {x:Tm}: ∀{L:List Tm},x∈L->x.depth<=depths L
 |a::L,h=>by
  rcases List.mem_cons.1 h with e|h
  .rw [e];simp only[depths];omega
  .have:=OQ h;simp only[depths];omega
theorem nX (L M:List Tm):sizes (L++M)=sizes L+sizes M:=by
 induction L with
 |nil=>simp[sizes]
 |cons a L b=>simp[sizes,b];omega
theorem D_ (L M:List Tm):depths (L++M)=max (depths L) (depths M):=by
 induction L with
 |nil=>simp[depths]
 |cons a L b=>simp only[List.cons_append,depths,b];omega
theorem bz: ∀L:List Tm,L.length<=sizes L
 |[]=>Nat.le_refl _
 |a::L=>by have:=bz L;have:=size_pos a;simp[sizes];omega
end Tm
open Tm
mutual
def di:Nat->Tm->List (Tm×Nat)
 |d,.mk n s L=>(.mk n s L,d)::dh (d+1) L
def dh:Nat->List Tm->List (Tm×Nat)
 |_,[]=>[]
 |d,t::L=>di d t++dh d L
end
theorem jF (d:Nat) (t:Tm):di d t=(t,d)::dh (d+1) t.kids:=by cases t;rfl
theorem rC (d:Nat) (L M:List Tm):dh d (L++M)=dh d L++dh d M:=by
 induction L with
 |nil=>simp[dh]
 |cons a L b=>simp[dh,b]
theorem zT (d:Nat) (L:List Tm):dh d L=L.flatMap (di d):=by
 induction L with
 |nil=>rfl
 |cons a L b=>simp[dh,b]
theorem lH: ∀(t:Tm) (d:Nat),(di d t).length=t.size:=by
 refine ind (fun n s L c d=>?_);rw[jF];have: ∀(L:List Tm) (d:Nat),(∀x∈L,∀d,(di d x).length=x.size)->(dh d L).length=sizes L:=by
  intro L
  induction L with
  |nil=>intro d _;rfl
  |cons a L b=>
   intro d h;simp only[dh,List.length_append,sizes];rw[h a (List.mem_cons_self ..),b d (fun x hx=>h x (List.mem_cons_of_mem _ hx))]
 simp only[kids,List.length_cons,Tm.size];rw[this L (d+1) c]
theorem Hl (L:List Tm) (d:Nat):(dh d L).length=sizes L:=by
 induction L with
 |nil=>rfl
 |cons a L b=>simp only[dh,List.length_append,sizes,lH,b]
def bu (t:Tm):List Tm:=(di 0 t).map (·.1)
theorem oW (t:Tm): ∀d e:Nat,(di d t).map (·.1)=(di e t).map (·.1):=by
 refine ind (P:=fun t=> ∀d e:Nat,(di d t).map (·.1)=(di e t).map (·.1)) (fun n s L b d e=>?_) t;rw[jF,jF,zT,zT];simp only[kids,List.map_cons,List.map_flatMap];congr 1
 induction L with
 |nil=>rfl
 |cons a L c=>
  simp only[List.flatMap_cons];rw[b a (List.mem_cons_self ..) (d+1) (e+1),c (fun x hx=>b x (List.mem_cons_of_mem _ hx))]
theorem lS (t:Tm):bu t=t::t.kids.flatMap bu:=by
 unfold bu;rw[jF,zT];simp only[List.map_cons,List.map_flatMap];congr 1;have: ∀L:List Tm,(L.flatMap fun a=>(di (0+1) a).map (·.1))=L.flatMap fun t=>(di 0 t).map (·.1):=by
  intro L
  induction L with
  |nil=>rfl
  |cons a L b=>simp only[List.flatMap_cons];rw[b,oW a (0+1) 0]
 exact this _
theorem jo (t:Tm):t∈bu t:=by rw[lS];exact List.mem_cons_self ..
theorem lX {t x y:Tm} (h:x∈t.kids) (hy:y∈bu x):y∈bu t:=by
 rw[lS];exact List.mem_cons_of_mem _ (List.mem_flatMap.2 ⟨x,h,hy⟩)
end Go.Hw
namespace Go.Hw
open Go.RowKit Tm
abbrev rW:Value:= .slice none 0 0
def dK:List Tm->List Value->List Value
 |[],_=>[]
 |t::L,us=> .string t.name:: .string t.sort::us.headD rW::dK L us.tail
abbrev tg (L:List Tm) (i:Nat):Tm:=L.getD i default
abbrev ug (us:List Value) (i:Nat):Value:=us.getD i rW
theorem Ld: ∀(L:List Tm) (us:List Value),(dK L us).length=L.length*3
 |[],_=>rfl
 |t::L,us=>by simp[dK,Ld L us.tail];omega
theorem Aw: ∀(L:List Tm) (us:List Value) (i:Nat),i<L.length->
  (dK L us)[i*3]?=some (.string (tg L i).name)/\(dK L us)[i*3+1]?=some (.string (tg L i).sort)/\(dK L us)[i*3+2]?=some (ug us i)
 |t::L,us,0,_=>by
  refine⟨rfl,rfl,?_⟩;cases us<;>rfl
 |t::L,us,i+1,h=>by
  obtain⟨h0,h1,a⟩:=Aw L us.tail i (by simpa using h);have e: ∀k,(dK (t::L) us)[(i+1)*3+k]?=(dK L us.tail)[i*3+k]?:=fun k=>by
   rw[show(i+1)*3+k=i*3+k+1+1+1 by omega];rfl
  refine⟨by rw[<-Nat.add_zero ((i+1)*3),e];exact h0,by rw[e];exact h1,?_⟩;rw[e,a];cases us<;>rfl
theorem H_: ∀(L:List Tm) (us:List Value) (t:Tm) (u:Value),us.length=L.length->dK (L++[t]) (us++[u])=dK L us++[.string t.name,.string t.sort,u]
 |[],[],t,u,_=>rfl
 |a::L,b::us,t,u,h=>by
  have:=H_ L us t u (by simpa using h);simp only[List.cons_append,dK,List.headD_cons,List.tail_cons,this]
inductive aG (S:Nat->Prop) (w:World):List Tm->Value->Prop
 |mk (L:List Tm) (us:List Value) (v:Value) (hl:us.length=L.length) (h:aB S w 3 v L.length (dK L us)) (hk: ∀i,i<L.length->aG S w (tg L i).kids (ug us i)):aG S w L v
theorem aG.nil (S:Nat->Prop) (w:World):aG S w [] rW:=⟨[],[],rW,rfl,aB.nil _ _ _,fun i h=>by cases h⟩
theorem aG.shape {S:Nat->Prop} {w:World} {L:List Tm} {v:Value} (h:aG S w L v): ∃a cap,v= .slice a L.length cap:=by
 cases h with
 |mk _ us _ hl h hk=>exact h.shape
theorem aG.kept {S F:Nat->Prop} {w w':World} {L:List Tm} {v:Value} (h:aG S w L v) (hu:au F w w') (hF: ∀k,S k->¬F k):aG S w' L v:=by
 induction h with
 |mk L us v hl h hk a=>exact⟨L,us,v,hl,h.kept hu hF,a⟩
theorem aG.ext {S:Nat->Prop} {w w':World} {L:List Tm} {v:Value} (h:aG S w L v) (hu:Ext w w'):aG S w' L v:=h.kept hu (fun _ _ h=>h)
theorem aG.weaken {S T:Nat->Prop} {w:World} {L:List Tm} {v:Value} (h:aG S w L v) (hs: ∀k,S k->T k):aG T w L v:=by
 induction h with
 |mk L us v hl h hk a=>exact⟨L,us,v,hl,h.weaken hs,a⟩
theorem aG.at_ {S:Nat->Prop} {w:World} {L:List Tm} {a:Option Addr} {n cap:Nat} (h:aG S w L (.slice a n cap)) (k:0<L.length):
  ∃g off,a=some ⟨g,off,none⟩/\S g/\∀i,i<L.length->∃a' b,w.cell? ⟨g,off+i*3,none⟩=some (.string (tg L i).name)/\w.cell? ⟨g,off+(i*3+1),none⟩=some (.string (tg L i).sort)/\
   w.cell? ⟨g,off+(i*3+2),none⟩=some (.slice a' (tg L i).kids.length b)/\aG S w (tg L i).kids (.slice a' (tg L i).kids.length b):=by
 cases h with
 |mk _ us _ hl h hk=>
  obtain⟨g,off,b,e,hc,hS,c⟩:=h.pos k;injection e with l o p
  refine⟨g,off,l,hS,fun i hi=>?_⟩;obtain⟨h0,h1,j⟩:=Aw L us i hi;obtain⟨a',b,e'⟩:=(hk i hi).shape;have d:=hk i hi;rw[e'] at d j;exact⟨a',b,by rw[c _ (by omega),h0],by rw[c _ (by omega),h1],by rw[c _ (by omega),j],d⟩
abbrev tV (t:Tm) (u:Value):Value:= .agg #[.string t.name,.string t.sort,u]
def bQ (S:Nat->Prop) (w:World) (t:Tm) (v:Value):Prop:= ∃a cap,v=tV t (.slice a t.kids.length cap)/\aG S w t.kids (.slice a t.kids.length cap)
theorem bQ.kept {S F:Nat->Prop} {w w':World} {t:Tm} {v:Value} (h:bQ S w t v) (hu:au F w w') (hF: ∀k,S k->¬F k):bQ S w' t v:=by
 obtain⟨a,cap,e,h⟩:=h;exact⟨a,cap,e,h.kept hu hF⟩
theorem bQ.ext {S:Nat->Prop} {w w':World} {t:Tm} {v:Value} (h:bQ S w t v) (hu:Ext w w'):bQ S w' t v:=h.kept hu (fun _ _ h=>h)
theorem bQ.weaken {S T:Nat->Prop} {w:World} {t:Tm} {v:Value} (h:bQ S w t v) (hs: ∀k,S k->T k):bQ T w t v:=by
 obtain⟨a,cap,e,h⟩:=h;exact⟨a,cap,e,h.weaken hs⟩
theorem bQ.of {S:Nat->Prop} {w:World} {t:Tm} {u:Value} (h:aG S w t.kids u):bQ S w t (tV t u):=by
 obtain⟨a,cap,e⟩:=h.shape;exact⟨a,cap,by rw[e],e▸h⟩
section
section
variable {W:World} {b:Nat} {te:TypeId} {u0 u1 u2 u3 u4 u5 u6 u7 u8 u9 ua ub:Value} {l:List Value}
theorem aV (h:W.heap[b]?=some (.cells (List.toArray (u0::u1::l)) te (0,0))):W.cell? ⟨b,0,none⟩=some u0/\W.cell? ⟨b,1,none⟩=some u1:=⟨ag h 0 _ rfl,ag h 1 _ rfl⟩
theorem ah (h:W.heap[b]?=some (.cells (List.toArray (u0::u1::u2::l)) te (0,0))):W.cell? ⟨b,0,none⟩=some u0/\W.cell? ⟨b,1,none⟩=some u1/\W.cell? ⟨b,2,none⟩=some u2:=⟨ag h 0 _ rfl,ag h 1 _ rfl,ag h 2 _ rfl⟩
theorem eY (h:W.heap[b]?=some (.cells (List.toArray (u0::u1::u2::u3::u4::u5::l)) te (0,0))):W.cell? ⟨b,0,none⟩=some u0/\W.cell? ⟨b,1,none⟩=some u1/\W.cell? ⟨b,2,none⟩=some u2/\W.cell? ⟨b,3,none⟩=some u3/\W.cell? ⟨b,4,none⟩=some u4/\W.cell? ⟨b,5,none⟩=some u5:=⟨ag h 0 _ rfl,ag h 1 _ rfl,ag h 2 _ rfl,ag h 3 _ rfl,ag h 4 _ rfl,ag h 5 _ rfl⟩
theorem jY (h:W.heap[b]?=some (.cells (List.toArray (u0::u1::u2::u3::u4::u5::u6::u7::u8::u9::ua::ub::l)) te (0,0))):W.cell? ⟨b,0,none⟩=some u0/\W.cell? ⟨b,1,none⟩=some u1/\W.cell? ⟨b,2,none⟩=some u2/\W.cell? ⟨b,3,none⟩=some u3/\W.cell? ⟨b,4,none⟩=some u4/\W.cell? ⟨b,5,none⟩=some u5/\W.cell? ⟨b,6,none⟩=some u6/\W.cell? ⟨b,7,none⟩=some u7/\W.cell? ⟨b,8,none⟩=some u8/\W.cell? ⟨b,9,none⟩=some u9/\W.cell? ⟨b,10,none⟩=some ua/\W.cell? ⟨b,11,none⟩=some ub:=⟨ag h 0 _ rfl,ag h 1 _ rfl,ag h 2 _ rfl,ag h 3 _ rfl,ag h 4 _ rfl,ag h 5 _ rfl,ag h 6 _ rfl,ag h 7 _ rfl,ag h 8 _ rfl,ag h 9 _ rfl,ag h 10 _ rfl,ag h 11 _ rfl⟩
end
abbrev tO (t:Tm) (a:Option Addr) (c:Nat):Obj:= .cells #[.string t.name,.string t.sort,.slice a t.kids.length c] 24
abbrev zO:Obj:= .cells #[.string ⟨#[]⟩,.string ⟨#[]⟩,.slice none 0 0] 24
theorem uR (w:World):Ext w w:=au.refl _ w
theorem ae {p:Prop} (h:p):Hid p:=Lib.hid h
theorem aP {a b c:Nat} (h:a<b) (d:b<=c):a<c:=Nat.lt_of_lt_of_le h d
theorem dT {p:Prop} [Decidable p] (h:p):decide p=true:=decide_eq_true h
theorem dF {p:Prop} [Decidable p] (h: ¬p):decide p=false:=decide_eq_false h
theorem bH {k n:Nat} (h:k<n):(0:Int)<=(k:Int)/\(k:Int)< (n:Int)/\decide ((k:Int)< (n:Int))=true/\decide (k<n)=true:=⟨by omega,by omega,decide_eq_true (by omega),decide_eq_true h⟩
theorem _root_.Go.RowKit.Hid.o {p : Prop} (h : Hid p) : p := h.out
theorem ay {α : Sort _} (x : α) : ∃ y, x = y := ⟨x, rfl⟩
theorem bW {w w' : World} (h : Ext w w') (k : Nat) (hk : k < w.heap.size) : k < w'.heap.size := Nat.lt_of_lt_of_le hk h.size
abbrev az (b : Nat) : Option Addr := some ⟨b, 0, none⟩
theorem gZ {α : Type _} {l : List α} {i : Nat} {d : α} (h : i < l.length) : l.getD i d = (some l[i]).getD d := by rw [List.getD_eq_getElem?_getD, List.getElem?_eq_getElem h]
abbrev af (a0 : ByteArray) (a : ByteArray) (a2 : Option Addr) (a3 : Nat) (a4 : Nat) : Obj := .cells #[.string a0, .string a, .slice a2 a3 a4] 24
abbrev aH (a0 : Int) (a : Option Addr) (a2 : Nat) (a3 : Nat) : Obj := .cells #[.int .i64 a0, .slice a a2 a3] 65
abbrev aA (a0 : ByteArray) (a : ByteArray) (a2 : Option Addr) (a3 : Nat) (a4 : Nat) (a5 : ByteArray) (c : ByteArray) (d : Option Addr) (e : Nat) (a9 : Nat) : Obj := .cells #[.string a0, .string a, .slice a2 a3 a4, .string a5, .string c, .slice d e a9] 146
abbrev bU (a0 : Option Addr) (a : Nat) (a2 : Nat) (a3 : Option Addr) (a4 : Nat) (a5 : Nat) : Obj := .cells #[.slice a0 a a2, .slice a3 a4 a5] 74
abbrev dC (a0 : ByteArray) (a : ByteArray) : Obj := .cells #[.string a0, .string a] 116
abbrev iE (a0 : Int) : Obj := .cells #[.int .i64 a0] 3
abbrev aJ (a0 : ByteArray) (k : ByteArray) (a2 : Option Addr) (a3 : Nat) (a4 : Nat) (a5 : ByteArray) (n : ByteArray) (o : Option Addr) (p : Nat) (a9 : Nat) (a : ByteArray) (c : ByteArray) (a12 : Option Addr) (d : Nat) (e : Nat) (g : Int) (h : Int) (a17 : Option Addr) (i : Nat) (j : Nat) : Obj := .cells #[.string a0, .string k, .slice a2 a3 a4, .string a5, .string n, .slice o p a9, .string a, .string c, .slice a12 d e, .int .i64 g, .int .i64 h, .slice a17 i j] 152
abbrev cu (a0 : ByteArray) (a : ByteArray) (a2 : Option Addr) (a3 : Nat) (a4 : Nat) (a5 : ByteArray) (c : ByteArray) (d : Option Addr) (e : Nat) (a9 : Nat) : Obj := .cells #[.string a0, .string a, .slice a2 a3 a4, .string a5, .string c, .slice d e a9] 24
abbrev eP (a0 : ByteArray) (a : Option Addr) (a2 : Nat) (a3 : Nat) (a4 : ByteArray) : Obj := .cells #[.string a0, .slice a a2 a3, .string a4] 77
abbrev dR (a0 : ByteArray) (a : ByteArray) (a2 : ByteArray) (a3 : ByteArray) (a4 : Option Addr) (a5 : Nat) (c : Nat) : Obj := .cells #[.string a0, .string a, .string a2, .string a3, .slice a4 a5 c] 93
abbrev qx (a0 : ByteArray) : Obj := .cells #[.string a0] 9
abbrev kW (a0 : ByteArray) (a : ByteArray) (a2 : Value) : Obj := .cells #[.string a0, .string a, a2] 24
abbrev jq (a0 : Value) (a : ByteArray) (a2 : ByteArray) (a3 : Value) (a4 : Value) (a5 : Int) (c : Int) (d : Int) : Obj := .cells #[a0, .string a, .string a2, a3, a4, .int .i64 a5, .int .i64 c, .int .i64 d] 121
abbrev DC (a0 : Int) : Obj := .cells #[.int .i64 a0] 28
abbrev GX (a0 : Option Addr) (a : Nat) (a2 : Nat) : Obj := .cells #[.slice a0 a a2] 27
abbrev j_ (a0 : ByteArray) (k : ByteArray) (a2 : Option Addr) (a3 : Nat) (a4 : Nat) (a5 : ByteArray) (n : ByteArray) (o : Option Addr) (p : Nat) (a9 : Nat) (a : ByteArray) (c : ByteArray) (a12 : Option Addr) (d : Nat) (e : Nat) (g : ByteArray) (h : ByteArray) (a17 : Option Addr) (i : Nat) (j : Nat) : Obj := .cells #[.string a0, .string k, .slice a2 a3 a4, .string a5, .string n, .slice o p a9, .string a, .string c, .slice a12 d e, .string g, .string h, .slice a17 i j] 146
abbrev BN (a0 : Option Addr) (a : Nat) (a2 : Nat) (a3 : Option Addr) (a4 : Nat) (a5 : Nat) : Obj := .cells #[.slice a0 a a2, .slice a3 a4 a5] 111
abbrev Ag (a0 : ByteArray) (a : ByteArray) (a2 : ByteArray) (a3 : ByteArray) (a4 : Value) : Obj := .cells #[.string a0, .string a, .string a2, .string a3, a4] 93
abbrev O7 (a0 : Option Addr) (a : Nat) (a2 : Nat) : Obj := .cells #[.slice a0 a a2] 63
end
section
section
variable (nm:By->Bool)
def lZ (p:Tm×Nat):Bool:=decide (p.2<=60)&&(nm p.1.name&&(decide (p.1.kids.length<=6)&&(decide (p.1.sort=ai)||(nm p.1.sort&&decide (p.1.kids.length=0)))))
def Vp (l:List (Tm×Nat)):Bool:=decide (l.length<=1000)&&l.all (lZ nm)
def formed (t:Tm):Bool:=Vp nm (di 1 t)
theorem uY (t:Tm):formed nm t=true<->t.size<=1000/\∀p∈di 1 t,lZ nm p=true:=by
 unfold formed Vp;rw[Bool.and_eq_true,decide_eq_true_eq,lH,List.all_eq_true]
mutual
def small:Nat->Int->Tm->Int
 |d,left,.mk n s L=>if left<=0\/lZ nm (.mk n s L,d)=false then -1 else smalls (d+1) (left-1) L
def smalls:Nat->Int->List Tm->Int
 |_,left,[]=>left
 |d,left,t::L=>if small d left t<0 then small d left t else smalls d (small d left t) L
end
theorem oZ (d:Nat) (left:Int) (t:Tm):small nm d left t=if left<=0\/lZ nm (t,d)=false then -1 else smalls nm (d+1) (left-1) t.kids:=by cases t;rfl
theorem JG: ∀(t:Tm) (d:Nat) (left:Int),small nm d left t=if(di d t).all (lZ nm)=true/\(t.size:Int)<=left then left-t.size else -1:=by
 refine ind (fun n s L g d left=>?_);have i: ∀(L:List Tm) (d:Nat) (left:Int),(∀x∈L,∀(d:Nat) (left:Int),small nm d left x=if(di d x).all (lZ nm)=true/\(x.size:Int)<=left then left-x.size else -1)->0<=left->
   smalls nm d left L=if(dh d L).all (lZ nm)=true/\(sizes L:Int)<=left then left-sizes L else -1:=by
  intro L
  induction L with
  |nil=>
   intro d left _ h0;unfold smalls dh sizes;rw[if_pos ⟨rfl,by omega⟩];simp
  |cons a L e=>
   intro d left h h0;unfold smalls dh sizes;rw[h a (List.mem_cons_self ..)];have hp:=size_pos a;by_cases hc:(di d a).all (lZ nm)=true/\(a.size:Int)<=left
   .rw [if_pos hc,if_neg (by omega),e d (left-a.size) (fun x hx=>h x (List.mem_cons_of_mem _ hx)) (by omega)];have j:(di d a++dh d L).all (lZ nm)=(dh d L).all (lZ nm):=by rw[List.all_append,hc.1,Bool.true_and]
    rw[j];by_cases c:(dh d L).all (lZ nm)=true/\(sizes L:Int)<=left-a.size
    .rw [if_pos c,if_pos ⟨c.1,by omega⟩];omega
    .rw [if_neg c,if_neg (fun b=>c ⟨b.1,by omega⟩)]
   .rw [if_neg hc,if_pos (by omega),if_neg];rintro⟨b,k⟩;rw[List.all_append,Bool.and_eq_true] at b;exact hc ⟨b.1,by omega⟩
 rw[oZ,jF,List.all_cons,size_eq];simp only[kids];by_cases hc:left<=0\/lZ nm (.mk n s L,d)=false
 .rw [if_pos hc];refine(if_neg ?_).symm;rintro⟨b,k⟩;rw[Bool.and_eq_true] at b;rcases hc with h|h
  .omega
  .rw [b.1] at h;cases h
 .rw [if_neg hc,i L (d+1) (left-1) g (by omega)];have l:lZ nm (.mk n s L,d)=true:=by
   cases h:lZ nm (.mk n s L,d)
   .exact absurd (.inr h) hc
   .rfl
  simp only[l,Bool.true_and];by_cases c:(dh (d+1) L).all (lZ nm)=true/\(sizes L:Int)<=left-1
  .rw [if_pos c];refine Eq.trans ?_ (if_pos ⟨c.1,by omega⟩).symm;omega
  .rw [if_neg c];exact(if_neg (fun b=>c ⟨b.1,by have:=b.2;omega⟩)).symm
theorem qU (t:Tm):formed nm t=decide (0<=small nm 1 1000 t):=by
 rw[JG,Bool.eq_iff_iff,uY,decide_eq_true_eq,<-List.all_eq_true];by_cases h:(di 1 t).all (lZ nm)=true/\(t.size:Int)<=1000
 .rw [if_pos h];exact⟨fun _=>by omega,fun _=>⟨by omega,h.1⟩⟩
 .rw [if_neg h];exact⟨fun a=>absurd ⟨a.2,by omega⟩ h,fun a=>by omega⟩
end
end
def blt (a b:By):Bool:=decide (a.data.toList<b.data.toList)
theorem ajU {a b:By} (h:a.data.toList=b.data.toList):a=b:=by
 cases a;cases b;simp only[ByteArray.mk.injEq];exact Array.toList_inj.1 h
theorem iO (a:By):blt a a=false:=by unfold blt;simp
theorem oV {a b c:By} (h1:blt a b=true) (d:blt b c=true):blt a c=true:=by
 unfold blt at*;rw[decide_eq_true_eq] at*;exact List.lt_trans h1 d
theorem Bo (a b:By) (h:a≠b):blt a b=true\/blt b a=true:=by
 unfold blt;rw[decide_eq_true_eq,decide_eq_true_eq];by_cases h1:a.data.toList<b.data.toList
 .exact .inl h1
 .refine .inr ?_;have d:=List.not_lt.1 h1;rcases List.le_iff_lt_or_eq.1 d with c|c
  .exact c
  .exact absurd (ajU c.symm) h
theorem Zh {a b:By} (h:blt a b=true):blt b a=false:=by
 rw[Bool.eq_false_iff];intro c;have:=oV h c;rw[iO] at this;cases this
abbrev Vd:=By×By
def iM (m:List Vd) (n:By):Option By:=(m.find? fun p=>decide (p.1=n)).map (·.2)
theorem iG (p:Vd) (m:List Vd) (n:By):iM (p::m) n=if p.1=n then some p.2 else iM m n:=by
 unfold iM;rw[List.find?_cons];by_cases h:p.1=n
 .rw [if_pos h,dT h];rfl
 .rw [if_neg h,dF h]
theorem Zk (m:List Vd) (p:Vd) (n:By):iM (m++[p]) n=(iM m n).or (if p.1=n then some p.2 else none):=by
 induction m with
 |nil=>rw[List.nil_append,iG];unfold iM;simp
 |cons a m b=>
  rw[List.cons_append,iG,iG,b];by_cases h:a.1=n
  .rw [if_pos h,if_pos h];rfl
  .rw [if_neg h,if_neg h]
theorem Gx {m:List Vd} {n s:By} (h:iM m n=some s):(n,s)∈m:=by
 induction m with
 |nil=>cases h
 |cons a m b=>
  rw[iG] at h;by_cases h1:a.1=n
  .rw [if_pos h1] at h;injection h with h
   subst h1 h;exact List.mem_cons_self ..
  .rw [if_neg h1] at h;exact List.mem_cons_of_mem _ (b h)
theorem Zl {m:List Vd} {n:By} (h:iM m n=none): ∀p∈m,p.1≠n:=by
 induction m with
 |nil=>intro p hp;cases hp
 |cons a m b=>
  rw[iG] at h;by_cases h1:a.1=n
  .rw [if_pos h1] at h;cases h
  .rw [if_neg h1] at h;intro p hp;rcases List.mem_cons.1 hp with e|hp
   .rw [e];exact h1
   .exact b h p hp
def vl (l:List Tm):List Vd:=l.filterMap fun x=>if x.sort=ai then none else some (x.name,x.sort)
theorem uw (l m:List Tm):vl (l++m)=vl l++vl m:=List.filterMap_append
def jR:List Vd->List Vd->Option (List Vd)
 |m,[]=>some m
 |m,f::fs=>match iM m f.1 with
  |none=>jR (m++[f]) fs
  |some s=>if s=f.2 then jR m fs else none
theorem EE (fs gs:List Vd): ∀m,jR m (fs++gs)=(jR m fs).bind fun m'=>jR m' gs:=by
 induction fs with
 |nil=>intro m;rfl
 |cons f fs a=>
  intro m;simp only[List.cons_append,jR];cases iM m f.1 with
  |none=>exact a _
  |some s=>
   simp only;split
   .exact a _
   .rfl
def Cons (fs:List Vd):Prop:= ∀f∈fs,∀g∈fs,f.1=g.1->f.2=g.2
theorem Cm (fs:List Vd): ∀(m:List Vd),Cons m->(∀m',jR m fs=some m'->Cons m'/\(∀f,f∈m'<->f∈m\/f∈fs)/\(m.Pairwise (fun p q=>p.1≠q.1)->m'.Pairwise (fun p q=>p.1≠q.1)))/\(jR m fs=none->¬Cons (m++fs)):=by
 induction fs with
 |nil=>
  intro m hm;refine⟨fun m' h=>?_,fun h=>by cases h⟩;injection h with h
  subst h;exact⟨hm,fun f=>by simp,fun h=>h⟩
 |cons f fs j=>
  intro m hm;unfold jR;cases k:iM m f.1 with
  |none=>
   have hn:=Zl k;have l:Cons (m++[f]):=by
    intro x hx y hy e;rw[List.mem_append,List.mem_singleton] at hx hy;rcases hx with hx|hx<;>rcases hy with hy|hy
    .exact hm x hx y hy e
    .subst hy;exact absurd e (hn x hx)
    .subst hx;exact absurd e.symm (hn y hy)
    .rw [hx,hy]
   obtain⟨h1,g⟩:=j (m++[f]) l;refine⟨fun m' h=>?_,fun h=>?_⟩
   .obtain ⟨a,b,c⟩:=h1 m' h;refine⟨a,fun x=>?_,fun hp=>c ?_⟩
    .rw [b x,List.mem_append,List.mem_singleton,List.mem_cons,or_assoc]
    .rw [List.pairwise_append];refine⟨hp,List.pairwise_singleton _ _,fun x hx y hy=>?_⟩;rw[List.mem_singleton] at hy;rw[hy];exact hn x hx
   .have:=g h;rwa [List.append_assoc] at this
  |some s=>
   have hs:=Gx k;simp only;by_cases h:s=f.2
   .rw [if_pos h];obtain⟨h1,g⟩:=j m hm;have n:f∈m:=by
     have:(f.1,s)=f:=by rw[h]
     rwa [this] at hs
    refine⟨fun m' h=>?_,fun o hc=>?_⟩
    .obtain ⟨a,b,c⟩:=h1 m' h;refine⟨a,fun x=>?_,c⟩;rw[b x,List.mem_cons];constructor
     .rintro (h|h)
      .exact .inl h
      .exact .inr (.inr h)
     .rintro (h|h|h)
      .exact .inl h
      .rw [h];exact .inl n
      .exact .inr h
    .refine g o (fun x hx y hy e=>?_);have i: ∀z,z∈m++fs->z∈m++f::fs:=fun z d=>by
      rw[List.mem_append] at d⊢;rcases d with d|d
      .exact .inl d
      .exact .inr (List.mem_cons_of_mem _ d)
     exact hc x (i x hx) y (i y hy) e
   .rw [if_neg h];refine⟨fun m' h=>(by cases h),fun _ hc=>h ?_⟩;exact hc (f.1,s) (List.mem_append_left _ hs) f (List.mem_append_right _ (List.mem_cons_self ..)) rfl
def iY:List Vd->Vd->List Vd×Bool
 |[],f=>([f],true)
 |g::l,f=>if blt g.1 f.1=true then(g::(iY l f).1,(iY l f).2) else if g.1=f.1 then(g::l,decide (g.2=f.2)) else(f::g::l,true)
def dO:List Vd->List Vd->List Vd×Bool
 |l,[]=>(l,true)
 |l,f::fs=>if(iY l f).2=true then dO (iY l f).1 fs else(l,false)
def Asc (l:List Vd):Prop:=l.Pairwise fun p q=>blt p.1 q.1=true
theorem Gy {l:List Vd} {f g:Vd} (h:Asc (g::l)) (h1:blt f.1 g.1=true):iM (g::l) f.1=none:=by
 have b: ∀p∈g::l,p.1≠f.1:=by
  intro p hp e;rcases List.mem_cons.1 hp with a|a
  .rw [a] at e;rw[e,iO] at h1;cases h1
  .have c:=(List.pairwise_cons.1 h).1 p a;have:=oV h1 c;rw[e,iO] at this;cases this
 cases hc:iM (g::l) f.1 with
 |none=>rfl
 |some s=>exact absurd rfl (b (f.1,s) (Gx hc))
theorem OT (f:Vd): ∀(l:List Vd),Asc l->
  (iY l f).2=(match iM l f.1 with|none=>true|some s=>decide (s=f.2))/\
  ((iY l f).2=true->Asc (iY l f).1/\(∀g,g∈(iY l f).1<->g∈l\/g=f)/\∀n,iM (iY l f).1 n=(iM l n).or (if f.1=n then some f.2 else none))/\((iY l f).2=false->(iY l f).1=l)
 |[],_=>by
  refine⟨rfl,fun _=>⟨List.pairwise_singleton _ _,fun g=>by simp[iY],fun n=>?_⟩,fun h=>by cases h⟩;show iM [f] n=_;rw[iG];unfold iM;simp
 |g::l,h=>by
  obtain⟨h1,q⟩:=List.pairwise_cons.1 h;obtain⟨r,t,u⟩:=OT f l q;unfold iY;by_cases d:blt g.1 f.1=true
  .have hne:g.1≠f.1:=fun e=>by rw[e,iO] at d;cases d
   rw[if_pos d,iG,if_neg hne];refine⟨r,fun i=>?_,fun i=>by show g::(iY l f).1=_;rw[u i]⟩;obtain⟨a,b,c⟩:=t i;refine⟨List.pairwise_cons.2 ⟨fun p hp=>?_,a⟩,fun p=>?_,fun n=>?_⟩
   .rcases (b p).1 hp with hp|hp
    .exact h1 p hp
    .rw [hp];exact d
   .show p∈g::(iY l f).1<->_;rw[List.mem_cons,b p,List.mem_cons,or_assoc]
   .show iM (g::(iY l f).1) n=_;rw[iG,iG,c n];by_cases hn:g.1=n
    .rw [if_pos hn,if_pos hn];rfl
    .rw [if_neg hn,if_neg hn]
  .rw [if_neg d];by_cases heq:g.1=f.1
   .rw [if_pos heq,iG,if_pos heq];refine⟨rfl,fun i=>?_,fun _=>rfl⟩;have o:g=f:=by
     have:=of_decide_eq_true i;exact Prod.ext heq this
    refine⟨h,fun p=>?_,fun n=>?_⟩
    .constructor
     .exact fun h=> .inl h
     .rintro (h|h)
      .exact h
      .rw [h,<-o];exact List.mem_cons_self ..
    .show iM (g::l) n=_;rw[iG];by_cases hn:g.1=n
     .rw [if_pos hn];rfl
     .rw [if_neg hn,if_neg (fun e=>hn (by rw[heq,e]))];simp
   .rw [if_neg heq];have j:blt f.1 g.1=true:=by
     rcases Bo g.1 f.1 heq with k|k
     .exact absurd k d
     .exact k
    rw[Gy h j];refine⟨rfl,fun _=>⟨List.pairwise_cons.2 ⟨fun p hp=>?_,h⟩,fun p=>?_,fun n=>?_⟩,fun h=>by cases h⟩
    .rcases List.mem_cons.1 hp with hp|hp
     .rw [hp];exact j
     .exact oV j (h1 p hp)
    .show p∈f::g::l<->_;rw[List.mem_cons];exact or_comm
    .show iM (f::g::l) n=_;rw[iG];by_cases hn:f.1=n
     .rw [if_pos hn];have:=Gy h j;rw[hn] at this;rw[this,if_pos hn];rfl
     .rw [if_neg hn,if_neg hn];cases iM (g::l) n<;>rfl
theorem CB (fs:List Vd): ∀(l m:List Vd),Asc l->(∀n,iM l n=iM m n)->(∀f,f∈l<->f∈m)->
  ((dO l fs).2=(jR m fs).isSome)/\∀m',jR m fs=some m'->Asc (dO l fs).1/\(∀n,iM (dO l fs).1 n=iM m' n)/\∀f,f∈(dO l fs).1<->f∈m':=by
 induction fs with
 |nil=>
  intro l m hl e g;refine⟨rfl,fun m' h=>?_⟩;injection h with h
  subst h;exact⟨hl,e,g⟩
 |cons f fs i=>
  intro l m hl e g;obtain⟨d,j,p⟩:=OT f l hl;unfold dO jR;rw[e] at d;cases hc:iM m f.1 with
  |none=>
   rw[hc] at d;rw[if_pos d];obtain⟨a,b,c⟩:=j d;refine i _ _ a (fun n=>?_) (fun x=>?_)
   .rw [c n,Zk,e]
   .rw [b x,g,List.mem_append,List.mem_singleton]
  |some s=>
   rw[hc] at d;simp only at d⊢;by_cases hs:s=f.2
   .rw [dT hs] at d;rw[if_pos d,if_pos hs];obtain⟨a,b,c⟩:=j d;have o:f∈m:=by
     have k:=Gx hc;rw[hs] at k;exact k
    refine i _ _ a (fun n=>?_) (fun x=>?_)
    .rw [c n,e];by_cases hn:f.1=n
     .rw [<-hn,hc,hs];rfl
     .rw [if_neg hn];simp
    .rw [b x,g];constructor
     .rintro (h|h)
      .exact h
      .rw [h];exact o
     .exact fun h=> .inl h
   .rw [dF hs] at d;rw[if_neg (by rw[d];decide),if_neg hs];exact⟨rfl,fun m' h=>by cases h⟩
def kM (t:Tm):Option (List Vd):=jR [] (vl (bu t))
theorem Ku (t:Tm):(kM t).isSome=true<->Cons (vl (bu t)):=by
 have c:Cons []:=fun f hf=>by cases hf
 obtain⟨h1,d⟩:=Cm (vl (bu t)) [] c;unfold kM;cases hc:jR [] (vl (bu t)) with
 |none=>exact⟨fun h=>(by cases h),fun h=>absurd h (d hc)⟩
 |some m=>
  obtain⟨a,b,_⟩:=h1 m hc;refine⟨fun _ x hx y hy e=>a x ((b x).2 (.inr hx)) y ((b y).2 (.inr hy)) e,fun _=>rfl⟩
def aY (t:Tm):List Vd:=(dO [] (vl (bu t))).1
theorem Pj (t:Tm):(dO [] (vl (bu t))).2=(kM t).isSome:=(CB (vl (bu t)) [] [] List.Pairwise.nil (fun _=>rfl) (fun _=>Iff.rfl)).1
def wf (nm:By->Bool) (t:Tm):Bool:=formed nm t&&(kM t).isSome
def eU (a b:By):Int:=if blt a b=true then -1 else if blt b a=true then 1 else 0
theorem x_ (a b:By):eU a b=0<->a=b:=by
 unfold eU;constructor
 .intro h;by_cases e:a=b
  .exact e
  .rcases Bo a b e with h1|h1
   .rw [if_pos h1] at h;omega
   .rw [if_neg (by rw[Zh h1];decide),if_pos h1] at h;omega
 .intro h;rw[h,iO];rfl
mutual
def gK:Tm->Tm->Int
 | .mk n s L,.mk m r M=>if decide (s≠ai)≠decide (r≠ai) then(if s≠ai then -1 else 1) else if eU n m≠0 then eU n m else if eU s r≠0 then eU s r else if L.length≠M.length then(if L.length<M.length then -1 else 1) else yB L M
def yB:List Tm->List Tm->Int
 |a::L,b::M=>if gK a b≠0 then gK a b else yB L M
 |_,_=>0
end
theorem XA: ∀a b:Tm,gK a b=0<->a=b:=by
 refine ind (fun n s L i b=>?_);obtain⟨m,r,M⟩:=b;have j: ∀(L M:List Tm),(∀x∈L,∀y,gK x y=0<->x=y)->L.length=M.length->(yB L M=0<->L=M):=by
  intro L
  induction L with
  |nil=>intro M _ h;cases M with
   |nil=>simp[yB]
   |cons b M=>simp at h
  |cons a L k=>
   intro M h hl;cases M with
   |nil=>simp at hl
   |cons b M=>
    unfold yB;have h1:=h a (List.mem_cons_self ..) b;by_cases e:gK a b=0
    .rw [if_neg (by simp[e]),k M (fun x hx=>h x (List.mem_cons_of_mem _ hx)) (by simpa using hl),h1.1 e];simp
    .rw [if_pos e];constructor
     .intro c;exact absurd c e
     .intro c;injection c with c d;exact absurd (h1.2 c) e
 unfold gK;constructor
 .intro h;by_cases h1:decide (s≠ai)≠decide (r≠ai)
  .rw [if_pos h1] at h;split at h<;>omega
  rw[if_neg h1] at h;by_cases c:eU n m=0
  .rw [if_neg (by simp[c])] at h;by_cases d:eU s r=0
   .rw [if_neg (by simp[d])] at h;by_cases g:L.length=M.length
    .rw [if_neg (by simp[g])] at h;rw[(x_ n m).1 c,(x_ s r).1 d,(j L M i g).1 h]
    .rw [if_pos g] at h;split at h<;>omega
   .rw [if_pos d] at h;exact absurd h d
  .rw [if_pos c] at h;exact absurd h c
 .intro h;injection h with h1 c d
  subst h1 c d;rw[if_neg (by simp),if_neg (by simp[(x_ n n).2 rfl]),if_neg (by simp[(x_ s s).2 rfl]),if_neg (by simp)];exact(j L L i rfl).2 rfl
theorem Lt: ∀(L M:List Tm) (k:Nat),L.length=M.length->k<L.length->(∀j,j<k->gK (L.getD j default) (M.getD j default)=0)->gK (L.getD k default) (M.getD k default)≠0->yB L M=gK (L.getD k default) (M.getD k default)
 |[],_,k,_,h,_,_=>by simp at h
 |a::L,[],k,h,_,_,_=>by simp at h
 |a::L,b::M,0,_,_,_,h=>by
  unfold yB;exact if_pos h
 |a::L,b::M,k+1,hl,hk,h1,c=>by
  unfold yB;have h0:gK a b=0:=h1 0 (by omega);rw[if_neg (by simp[h0])];exact Lt L M k (by simpa using hl) (by simpa using hk) (fun j d=>h1 (j+1) (by omega)) c
theorem IU: ∀(L M:List Tm),L.length=M.length->(∀j,j<L.length->gK (L.getD j default) (M.getD j default)=0)->yB L M=0
 |[],[],_,_=>by simp[yB]
 |[],b::M,h,_=>by simp at h
 |a::L,[],h,_=>by simp at h
 |a::L,b::M,hl,h1=>by
  unfold yB;have h0:gK a b=0:=h1 0 (by simp);rw[if_neg (by simp[h0])];exact IU L M (by simpa using hl) (fun j c=>h1 (j+1) (by simpa using c))
theorem adP (n s:By) (L:List Tm) (m r:By) (M:List Tm):gK (.mk n s L) (.mk m r M)=if decide (s≠ai)≠decide (r≠ai) then(if s≠ai then -1 else 1) else if eU n m≠0 then eU n m else if eU s r≠0 then eU s r else if L.length≠M.length then(if L.length<M.length then -1 else 1) else yB L M:=by
 unfold gK;rfl
structure fE (G:Nat->Prop) (A B:World):Prop where
 size:A.heap.size<=B.heap.size
 cells: ∀k cs ty m,¬G k->A.heap[k]?=some (.cells cs ty m)->B.heap[k]?=some (.cells cs ty m)
theorem fE.refl (G:Nat->Prop) (A:World):fE G A A:=⟨Nat.le_refl _,fun _ _ _ _ _ h=>h⟩
theorem fE.trans {G:Nat->Prop} {A B C:World} (h:fE G A B) (k:fE G B C):fE G A C:=⟨Nat.le_trans h.size k.size,fun i cs ty m a hc=>k.cells i cs ty m a (h.cells i cs ty m a hc)⟩
theorem fE.Ez {F G:Nat->Prop} {A B:World} (h:au F A B) (hF: ∀k,k<A.heap.size->F k->G k):fE G A B:=
 ⟨h.size,fun k cs ty m a hc=>(h.block k (Array.getElem?_eq_some_iff.1 hc).1 (fun hf=>a (hF k (Array.getElem?_eq_some_iff.1 hc).1 hf))).trans hc⟩
theorem fE.qM {G:Nat->Prop} {A B:World} (h:Ext A B):fE G A B:=fE.Ez h (fun _ _ h=>h.elim)
theorem fE.putObj {G:Nat->Prop} (W:World) (l:Nat) (o o':Obj) (h:W.heap[l]?=some o) (hc:o.isCells=false):fE G W (W.putObj l o'):=by
 refine⟨by simp[World.putObj],fun k cs ty m a hk=>?_⟩;have hne:l≠k:=by
  intro e;rw[e,hk] at h;injection h with h
  rw[<-h] at hc;cases hc
 simp only[World.putObj];rw[Array.getElem?_setIfInBounds_ne hne];exact hk
theorem fE.cell {G:Nat->Prop} {A B:World} (h:fE G A B) {p:Addr} {v:Value} (hp: ¬G p.block) (hs:p.spot=none) (hc:A.cell? p=some v):B.cell? p=some v:=by
 cases hb:A.heap[p.block]? with
 |none=>simp[World.cell?,hb] at hc
 |some o=>
  cases o with
  |cells cs ty m=>
   have a:=h.cells _ _ _ _ hp hb;simp only[World.cell?,hb] at hc;simp only[World.cell?,a];exact hc
  |_=>simp[World.cell?,hb] at hc
theorem aB.OZ {G S:Nat->Prop} {A B:World} {size n:Nat} {v:Value} {cs:List Value} (h:aB S A size v n cs) (hk:fE G A B) (hS: ∀k,S k->¬G k):aB S B size v n cs:=by
 refine⟨h.1,?_⟩;rcases h.2 with d|⟨a,cap,e,hc,hs,g⟩
 .exact .inl d
 .refine .inr ⟨a,cap,e,hc,hs,fun j b=>?_⟩;have hn:0<n:=oQ b;have c:=g j b;have hlen:j<cs.length:=by rw[h.1];exact b
  rw[List.getElem?_eq_getElem hlen] at c⊢;exact hk.cell (hS _ (hs hn).2) (by rfl) c
theorem aG.OZ {G S:Nat->Prop} {A B:World} {L:List Tm} {v:Value} (h:aG S A L v) (hk:fE G A B) (hS: ∀k,S k->¬G k):aG S B L v:=by
 induction h with
 |mk L us v hl h b a=>exact⟨L,us,v,hl,h.OZ hk hS,a⟩
theorem aco {w:World} {base:Nat} {e:TypeId} {size:Nat} {v:Value} {n:Nat} {xs:List Value} (h:w.ownsRow base e size v n xs) (hn:0<n):
  ∃g cap,v= .slice (az g) n cap/\base<=g/\g<w.heap.size/\n<=cap/\(∀j,j<n*size->w.cell? ⟨g,j,none⟩=xs[j]?)/\∀j,w.frozen? ⟨g,j,none⟩=false:=by
 rcases h.2 with⟨_,d⟩|⟨g,cap,cur,rfl,hb,a,hc,hm,hs,b⟩
 .omega
 .refine ⟨g,cap,rfl,hb,(Array.getElem?_eq_some_iff.1 a).1,hc,fun j c=>?_,fun j=>frozen_of_row w g j cur e a⟩;rw[cell_of_row w g j cur e _ a,<-b,List.getElem?_take_of_lt c];simp
theorem setBlock {w:World} {g:Nat} {cs:Array Value} {t:TypeId} (h:w.heap[g]?=some (.cells cs t (0,0))) (j:Nat) (u:Value):
  (w.setCell ⟨g,j,none⟩ u).heap[g]?=some (.cells (cs.setIfInBounds j u) t (0,0)):=by
 simp[World.setCell,Array.getElem?_modify,h]
theorem au.jJ {a w:World} (h:au (fun _=>False) a w) {g j:Nat} (b:a.heap.size<=g) (u:Value):au (fun _=>False) a (w.setCell ⟨g,j,none⟩ u):=h.setCell (.inr b) u
structure XW (w:World) where
 val:World
 ext:au (fun _=>False) w val
instance (w:World):Nonempty (XW w):=⟨⟨w,au.refl _ w⟩⟩
theorem bI {P:Program} {id:Nat} {Q:Exit->Act->World->Prop} {a:Act} {w:World} {l:List Oper} (w0:World) (h0:au (fun _=>False) w0 w)
  (hm:P.follows .mixedOrders=true) (b:Region.lexB .any l.toArray=true)
  (h:wpQuiet P l.toArray (fun w'=> ∃x:XW w0,w'=x.val) (fun a'=> ∀w',(∃x:XW w0,w'=x.val)->Q .normal a' w') l a):(Code.region id l.toArray true).wp P Q a w:=
 wp_region_quiet (C:=fun w'=> ∃x:XW w0,w'=x.val) hm b ⟨⟨{w with drawn:=w.drawn+1},⟨h0.os,h0.tape,h0.output,h0.size,h0.block⟩⟩,rfl⟩ (by simpa using h)
theorem XW.call {P:Program} {f:FuncId} {args:Array Value} {w0:World} {x:XW w0} {v:Value} (h:Calls P f args x.val fun e w'=>e= .returned v/\au (fun _=>False) x.val w'):
  Calls P f args x.val fun e w''=>e= .returned v/\∃y:XW w0,w''=y.val:=
 h.mono fun _ _ ⟨he,hx⟩=>⟨he,⟨_,x.ext.trans hx⟩,rfl⟩
section
section
variable {κ:Type} [DecidableEq κ]
def kK (l:List (κ×Value)) (k:κ):Option Value:=(l.find? fun p=>decide (p.1=k)).map (·.2)
def qj (l:List (κ×Value)) (k:κ) (v:Value):List (κ×Value):=
 match l with
 |[]=>[(k,v)]
 |p::l=>if p.1=k then(k,v)::l else p::qj l k v
theorem lI (p:κ×Value) (l:List (κ×Value)) (k:κ):kK (p::l) k=if p.1=k then some p.2 else kK l k:=by
 unfold kK;rw[List.find?_cons];by_cases h:p.1=k
 .rw [if_pos h,dT h];rfl
 .rw [if_neg h,dF h]
theorem Nz (l:List (κ×Value)) (k j:κ) (v:Value):kK (qj l k v) j=if j=k then some v else kK l j:=by
 induction l with
 |nil=>
  unfold qj;rw[lI];by_cases h:j=k
  .rw [if_pos h,if_pos h.symm]
  .rw [if_neg h,if_neg (fun e=>h e.symm)]
 |cons p l b=>
  unfold qj;by_cases h:p.1=k
  .rw [if_pos h,lI,lI];by_cases a:j=k
   .rw [if_pos a,if_pos a.symm]
   .rw [if_neg a,if_neg (fun e=>a e.symm),if_neg (fun e=>a (by rw[<-e,h]))]
  .rw [if_neg h,lI,lI,b];by_cases a:j=k
   .subst a;rw[if_neg h,if_pos rfl,if_pos rfl]
   .rw [if_neg a,if_neg a]
structure JX (P:Program) (kt:TypeId) (enc:κ->Value):Prop where
 check: ∀b x W,(Instr.checkKey b 10000 kt (enc x)).run P W= .ok () W
 find: ∀x (es:List MapEntry) (l:List (κ×Value)) W,es.map (fun e=>(e.key,e.val))=l.map (fun p=>(enc p.1,p.2))->
  (Instr.findKey kt (enc x) es).run P W= .ok ((l.findIdx? fun p=>decide (p.1=x)).map fun i=>(i,((l[i]?).map (·.2)).getD (.bool false))) W
 same: ∀x,Instr.sameBits 10000 (enc x) (enc x)=true
def eX (enc:κ->Value) (w:World) (b:Nat) (l:List (κ×Value)):Prop:=
 ∃es clock,w.heap[b]?=some (.map es clock)/\es.toList.map (fun e=>(e.key,e.val))=l.map (fun p=>(enc p.1,p.2))/\es.toList.Pairwise (fun x y=>x.born<y.born)/\∀e∈es.toList,e.born<clock
omit [DecidableEq κ] in
theorem eX.made (enc:κ->Value) (w:World):eX enc (w.alloc (.map #[] 0)) w.heap.size []:=⟨#[],0,aj _ _,rfl,List.Pairwise.nil,fun _ h=>by cases h⟩
omit [DecidableEq κ] in
theorem eX.kept {enc:κ->Value} {F:Nat->Prop} {w w':World} {b:Nat} {l:List (κ×Value)} (h:eX enc w b l) (hu:au F w w') (hF: ¬F b):eX enc w' b l:=by
 obtain⟨es,c,h1,a⟩:=h;exact⟨es,c,hu.heap h1 hF,a⟩
omit [DecidableEq κ] in
theorem eX.ext {enc:κ->Value} {w w':World} {b:Nat} {l:List (κ×Value)} (h:eX enc w b l) (hu:Ext w w'):eX enc w' b l:=h.kept hu id
omit [DecidableEq κ] in
theorem eX.lt {enc:κ->Value} {w:World} {b:Nat} {l:List (κ×Value)} (h:eX enc w b l):b<w.heap.size:=by
 obtain⟨es,c,h1,_⟩:=h;exact(Array.getElem?_eq_some_iff.1 h1).1
theorem I_ (l:List (κ×Value)) (k:κ):(l.findIdx? fun p=>decide (p.1=k)).map (fun i=>((l[i]?).map (·.2)).getD (.bool false))=kK l k:=by
 induction l with
 |nil=>rfl
 |cons p l a=>
  rw[List.findIdx?_cons,lI];by_cases h:p.1=k
  .rw [if_pos h,dT h];rfl
  .rw [if_neg h,dF h,<-a];simp only[Bool.false_eq_true,if_false,Option.map_map];rfl
theorem eX.get {P:Program} {enc:κ->Value} {kt et t:TypeId} (K:JX P kt enc) (a:P.underlying t=some (.map kt et)) {w:World} {b:Nat} {l:List (κ×Value)} {z:Value} (d:(zeroValue et).run P w= .ok z w) (h:eX enc w b l) (k:κ) (c:Bool):
  (Instr.lookup t (.map (some b)) (enc k) c).run P w= .ok (if c then .tuple #[(kK l k).getD z,.bool (kK l k).isSome] else(kK l k).getD z) w:=by
 obtain⟨es,cl,h1,e,_⟩:=h;have hf:=K.find k es.toList l w e;have hc:=K.check es.isEmpty k w;rw[<-I_];generalize hx:(l.findIdx? fun p=>decide (p.1=k))=x at*;cases x with
 |none=>cases c<;>simp[Instr.lookup,run_underlying a,MapKept.run_getObj_map h1,hc,hf,d,Result.andThen]
 |some i=>cases c<;>simp[Instr.lookup,run_underlying a,MapKept.run_getObj_map h1,hc,hf,d,Result.andThen]
theorem Qx (l:List (κ×Value)) (k:κ) (v:Value):qj l k v=match l.findIdx? fun p=>decide (p.1=k) with|some i=>l.set i (k,v)|none=>l++[(k,v)]:=by
 induction l with
 |nil=>rfl
 |cons p l a=>
  unfold qj;rw[List.findIdx?_cons];by_cases h:p.1=k
  .rw [if_pos h,dT h];rfl
  .rw [if_neg h,dF h,a];cases(l.findIdx? fun p=>decide (p.1=k))<;>rfl
theorem eX.put {P:Program} {enc:κ->Value} {kt et t:TypeId} (K:JX P kt enc) (q:P.underlying t=some (.map kt et)) {w:World} {b:Nat} {l:List (κ×Value)} (h:eX enc w b l) (k:κ) (v:Value):
  ∃w',(Instr.mapUpdate t (.map (some b)) (enc k) v).run P w= .ok () w'/\eX enc w' b (qj l k v)/\au (fun j=>j=b) w w':=by
 obtain⟨es,cl,h1,c,r,g⟩:=h;have hf:=K.find k es.toList l w c;have hc:=K.check false k w;have n:=(Array.getElem?_eq_some_iff.1 h1).1;have z: ∀o,au (fun j=>j=b) w {w with heap:=w.heap.setIfInBounds b o}:=fun o=>
  ⟨rfl,rfl,rfl,by simp,fun i hi hF=>by simp[Ne.symm (show i≠b from hF)]⟩
 rw[Qx];generalize hx:(l.findIdx? fun p=>decide (p.1=k))=x at*;cases x with
 |none=>
  refine⟨_,by simp[Instr.mapUpdate,run_underlying q,MapKept.run_getObj_map h1,hc,hf,MapKept.run_setObj_map _ h1,Result.andThen];rfl,⟨es.push {key:=enc k,val:=v,born:=cl},cl+1,by simp[n],?_,?_,?_⟩,z _⟩
  .simp [c]
  .simp only [Array.toList_push];rw[List.pairwise_append];refine⟨r,by simp,fun x hx y hy=>?_⟩;rw[List.mem_singleton] at hy;subst hy;exact g x hx
  .intro e he;simp only[Array.toList_push,List.mem_append,List.mem_singleton] at he;rcases he with he|he
   .have:=g e he;omega
   .subst he;simp
 |some i=>
  have hi:i<l.length:=by
   rw[List.findIdx?_eq_some_iff_getElem] at hx;exact hx.1
  have hlen:es.size=l.length:=by
   have:=congrArg List.length c;simpa using this
  have C:(l[i]'hi).1=k:=by
   rw[List.findIdx?_eq_some_iff_getElem] at hx;simpa using hx.2.1
  have D:(es[i]'(by omega)).key=enc k:=by
   have a:(es.toList.map (fun e=>(e.key,e.val)))[i]?=(l.map (fun p=>(enc p.1,p.2)))[i]?:=by rw[c]
   rw[List.getElem?_map,List.getElem?_map,Array.getElem?_toList,Array.getElem?_eq_getElem (show i<es.size by omega),List.getElem?_eq_getElem hi] at a;simp only[Option.map_some] at a;have d:=congrArg Prod.fst (Option.some.inj a);simp only at d;rw[d,C]
  have E:(Instr.keyThatStays (((es[i]?).map (·.key)).getD (enc k)) (enc k)).run P w= .ok (enc k) w:=by
   rw[Array.getElem?_eq_getElem (show i<es.size by omega)];simp only[Option.map_some,Option.getD_some,D];unfold Instr.keyThatStays;rw[if_pos (K.same k)];rfl
  refine⟨_,by simp[Instr.mapUpdate,run_underlying q,MapKept.run_getObj_map h1,hc,hf,E,MapKept.run_setObj_map _ h1,Result.andThen];rfl,⟨es.modify i fun e=>{e with key:=enc k,val:=v},cl,by simp[n],?_,?_,?_⟩,z _⟩
  .rw [Array.toList_modify];apply List.ext_getElem?;intro j;have a:(es.toList.map (fun e=>(e.key,e.val)))[j]?=(l.map (fun p=>(enc p.1,p.2)))[j]?:=by rw[c]
   simp only[List.getElem?_map,List.getElem?_modify,List.getElem?_set] at a⊢;by_cases e:i=j
   .subst e;rw[if_pos rfl,if_pos hi];rw[Array.getElem?_toList,Array.getElem?_eq_getElem (show i<es.size by omega)];simp
   .rw [if_neg e];cases A:es.toList[j]? with
    |none=>rw[A] at a;simpa using a
    |some u=>rw[A] at a;simpa[e] using a
  .rw [Array.toList_modify];have e:(es.toList.modify i fun e=>{e with key:=enc k,val:=v}).map (·.born)=es.toList.map (·.born):=by
    apply List.ext_getElem?;intro j;simp only[List.getElem?_map,List.getElem?_modify];cases es.toList[j]? with
    |none=>rfl
    |some u=>simp only[Option.map_some];split<;>rfl
   have d:(es.toList.map (·.born)).Pairwise (· < ·):=List.pairwise_map.2 r;rw[<-e] at d;exact List.pairwise_map.1 d
  .intro e he;rw[Array.toList_modify] at he;have B:e.born∈(es.toList.modify i fun e=>{e with key:=enc k,val:=v}).map (·.born):=List.mem_map_of_mem he;have G:(es.toList.modify i fun e=>{e with key:=enc k,val:=v}).map (·.born)=es.toList.map (·.born):=by
    apply List.ext_getElem?;intro j;simp only[List.getElem?_map,List.getElem?_modify];cases es.toList[j]? with
    |none=>rfl
    |some u=>simp only[Option.map_some];split<;>rfl
   rw[G] at B;obtain⟨u,hu,F⟩:=List.mem_map.1 B;rw[<-F];exact g u hu
end
theorem qW {P:Program} {kt:TypeId} (hk:P.underlying kt=some .string):JX P kt (fun s:ByteArray=>Value.string s) where
 check b x W:=MapKept.run_checkKey hk (by simp[MapKept.IsKey]) b 9999
 same x:=by
  show(x==x)=true;exact(MapKept.bytes_beq _ _).2 rfl
 find x es l W h:=by
  refine MapKept.run_findKey hk ?_;have: ∀(es:List MapEntry) (l:List (ByteArray×Value)) (i:Nat),es.map (fun e=>(e.key,e.val))=l.map (fun p=>(Value.string p.1,p.2))->
    Instr.findNow .string (.string x) es i=some ((l.findIdx? fun p=>decide (p.1=x)).map fun j=>(i+j,((l[j]?).map (·.2)).getD (.bool false))):=by
   intro es
   induction es with
   |nil=>
    intro l i h;have:l=[]:=by cases l;rfl;simp at h
    subst this;rfl
   |cons e es c=>
    intro l i h;cases l with
    |nil=>simp at h
    |cons p l=>
     simp only[List.map_cons,List.cons.injEq,Prod.mk.injEq] at h;obtain⟨⟨h1,a⟩,d⟩:=h;unfold Instr.findNow;rw[h1];simp only[Instr.sameNow];rw[List.findIdx?_cons];by_cases hx:p.1=x
     .have hb:(x==p.1)=true:=(MapKept.bytes_beq _ _).2 hx.symm;rw[hb,dT hx];simp[a]
     .have hb:(x==p.1)=false:=by
       rw[Bool.eq_false_iff];intro e;exact hx ((MapKept.bytes_beq _ _).1 e).symm
      rw[hb,dF hx];simp only;rw[c l (i+1) d];cases(l.findIdx? fun p=>decide (p.1=x)) with
      |none=>rfl
      |some j=>simp;omega
  have a:=this es l 0 h;simpa using a
end
abbrev vg (l:List Vd) (i:Nat):Vd:=l.getD i (ai,ai)
def oP (l:List Vd) (f:Vd):Nat:=match l with
 |[]=>0
 |g::l=>if blt g.1 f.1=true then oP l f+1 else 0
theorem Zm (f:Vd): ∀l:List Vd,oP l f<=l.length
 |[]=>Nat.le_refl _
 |g::l=>by
  unfold oP;split
  .simpa using Zm f l
  .simp
theorem Zn (f:Vd): ∀(l:List Vd) (j:Nat),j<oP l f->blt (vg l j).1 f.1=true
 |[],j,h=>by simp[oP] at h
 |g::l,j,h=>by
  unfold oP at h;split at h
  .rename_i hb
   cases j with
   |zero=>exact hb
   |succ j=>exact Zn f l j (by omega)
  .simp at h
theorem Zo (f:Vd): ∀(l:List Vd),oP l f<l.length->blt (vg l (oP l f)).1 f.1=false
 |[],h=>by simp at h
 |g::l,h=>by
  unfold oP at h⊢;by_cases hb:blt g.1 f.1=true
  .rw [if_pos hb] at h⊢;exact Zo f l (by simpa using h)
  .rw [if_neg hb];exact Bool.eq_false_iff.2 hb
theorem PZ (l:List Vd) (f:Vd) (k:Nat) (hk:k<=l.length) (h1: ∀j,j<k->blt (vg l j).1 f.1=true) (b:k<l.length->blt (vg l k).1 f.1=false):oP l f=k:=by
 rcases Nat.lt_trichotomy (oP l f) k with h|h|h
 .have a:=Zo f l (by omega);rw[h1 _ h] at a;cases a
 .exact h
 .have a:=Zn f l k h;rw[b (by have:=Zm f l;omega)] at a;cases a
theorem Ue (f:Vd): ∀l:List Vd,iY l f=if oP l f<l.length/\(vg l (oP l f)).1=f.1 then(l,decide ((vg l (oP l f)).2=f.2)) else(l.take (oP l f)++f::l.drop (oP l f),true)
 |[]=>by simp[iY,oP]
 |g::l=>by
  have a:=Ue f l;unfold iY oP;by_cases hb:blt g.1 f.1=true
  .rw [if_pos hb,if_pos hb];have e:vg (g::l) (oP l f+1)=vg l (oP l f):=rfl;by_cases hc:oP l f<l.length/\(vg l (oP l f)).1=f.1
   .rw [if_pos hc] at a;rw[a];exact(if_pos (c:=oP l f+1< (g::l).length/\(vg (g::l) (oP l f+1)).1=f.1) ⟨by simpa using hc.1,hc.2⟩).symm
   .rw [if_neg hc] at a;rw[a,if_neg (fun h=>hc ⟨by simpa using h.1,h.2⟩)];simp
  .rw [if_neg hb,if_neg hb];by_cases hc:g.1=f.1
   .rw [if_pos hc];exact(if_pos (c:=0< (g::l).length/\(vg (g::l) 0).1=f.1) ⟨by simp,hc⟩).symm
   .rw [if_neg hc,if_neg (fun h=>hc h.2)];simp
def bZ (l:List Vd):List Value:=l.flatMap fun f=>[.string f.1,.string f.2]
theorem VQ (l:List Vd):(bZ l).length=l.length*2:=by
 induction l with
 |nil=>rfl
 |cons a l b=>simp only[bZ,List.flatMap_cons,List.length_append,List.length_cons,List.length_nil] at b⊢;omega
theorem tN (l m:List Vd):bZ (l++m)=bZ l++bZ m:=by simp[bZ]
theorem OU: ∀(l:List Vd) (i:Nat),i<l.length->(bZ l)[i*2]?=some (.string (vg l i).1)/\(bZ l)[i*2+1]?=some (.string (vg l i).2)
 |a::l,0,_=>⟨rfl,rfl⟩
 |a::l,i+1,h=>by
  obtain⟨h0,h1⟩:=OU l i (by simpa using h);have e: ∀k,(bZ (a::l))[(i+1)*2+k]?=(bZ l)[i*2+k]?:=fun k=>by
   rw[show(i+1)*2+k=i*2+k+1+1 by omega];rfl
  exact⟨by rw[<-Nat.add_zero ((i+1)*2),e];exact h0,by rw[e];exact h1⟩
theorem Ie (l:List Vd): ∀k,(bZ l).take (k*2)=bZ (l.take k):=by
 induction l with
 |nil=>intro k;simp[bZ]
 |cons a l b=>
  intro k;cases k with
  |zero=>simp[bZ]
  |succ k=>
   have h:=b k;simp only[bZ,List.flatMap_cons,List.take_succ_cons] at h⊢;rw[show(k+1)*2=k*2+1+1 by omega];simp only[List.cons_append,List.nil_append,List.take_succ_cons,h]
theorem Ig (l:List Vd): ∀k,(bZ l).drop (k*2)=bZ (l.drop k):=by
 induction l with
 |nil=>intro k;simp[bZ]
 |cons a l b=>
  intro k;cases k with
  |zero=>simp[bZ]
  |succ k=>
   have h:=b k;simp only[bZ,List.flatMap_cons,List.drop_succ_cons] at h⊢;rw[show(k+1)*2=k*2+1+1 by omega];simp only[List.cons_append,List.nil_append,List.drop_succ_cons,h]
theorem nz (l:List Vd): ∀u∈bZ l,u.oneCell'=true:=by
 intro u hu;unfold bZ at hu;rw[List.mem_flatMap] at hu;obtain⟨f,_,hf⟩:=hu;simp at hf;rcases hf with rfl|rfl<;>rfl
def dM (S:Nat->Prop) (w:World) (v:Value) (l:List Vd):Prop:=aB S w 2 v l.length (bZ l)
theorem dM.shape {S:Nat->Prop} {w:World} {v:Value} {l:List Vd} (h:dM S w v l): ∃a cap,v= .slice a l.length cap:=aB.shape h
theorem dM.ext {S:Nat->Prop} {w w':World} {v:Value} {l:List Vd} (h:dM S w v l) (hu:Ext w w'):dM S w' v l:=aB.kept h hu (fun _ _ h=>h)
theorem dM.at_ {S:Nat->Prop} {w:World} {a:Option Addr} {n cap:Nat} {l:List Vd} (h:dM S w (.slice a n cap) l) (hl:0<l.length):
  ∃g off,a=some ⟨g,off,none⟩/\∀i,i<l.length->w.cell? ⟨g,off+i*2,none⟩=some (.string (vg l i).1)/\w.cell? ⟨g,off+i*2+1,none⟩=some (.string (vg l i).2):=by
 obtain⟨g,off,c,e,_,_,b⟩:=aB.pos h hl;injection e with d j k
 refine⟨g,off,d,fun i hi=>?_⟩;obtain⟨h0,h1⟩:=OU l i hi;exact⟨by rw[b _ (by omega),h0],by rw[Nat.add_assoc,b _ (by omega),h1]⟩
section
section
variable {P:Program} {ops:Array Oper} {Q:Exit->Act->World->Prop} {md:Region.Mode} {S:World->Prop} {n:Nat}
def zG (P:Program) (md:Region.Mode) (ops:Array Oper) (Q:Exit->Act->World->Prop) (S:World->Prop) (n:Nat):Nat->Array Bool->Act->World->Prop
 |0,l,a,w=>Region.ready md ops l=[]/\Q .normal a w
 |f+1,l,a,w=>
  (Region.ready md ops l=[]->Q .normal a w)/\
  ∀i∈Region.ready md ops l,wpOp P ops Q i (fun a' w'=>(S w'\/(l.setIfInBounds i true).getD n false=true)/\zG P md ops Q S n f (l.setIfInBounds i true) a' w') a w
theorem tY: ∀(f:Nat) (l:Array Bool) (a:Act) (w:World),zG P md ops Q S n f l a w->wpAny P md ops Q f l a w
 |0,_,_,_,h=>h
 |f+1,_,_,_,h=>⟨h.1,fun i hi=>wpOp_mono (fun a' w' h'=>tY f _ a' w' h'.2) (h.2 i hi)⟩
structure oC (md:Region.Mode) (ops:Array Oper) (l:Array Bool):Prop where
 size:l.size=ops.size
 back: ∀j o,ops[j]?=some o->l.getD j false=true->∀e∈o.after,Region.binds md e=true->l.getD e.on false=true
theorem rF {l:Array Bool} {i:Nat} (h:l.getD i true=false):l.getD i false=false:=by
 rcases Nat.lt_or_ge i l.size with h'|h'
 .simp [h'] at h⊢;exact h
 .simp [Array.getElem?_eq_none h'] at h
theorem L6 {l:Array Bool} {i:Nat} (hi:i<l.size) (h:l.getD i false=false):l.getD i true=false:=by
 simp[hi] at h⊢;exact h
theorem oC.step {l:Array Bool} {i:Nat} (h:oC md ops l) (hi:i∈Region.ready md ops l):oC md ops (l.setIfInBounds i true):=by
 obtain⟨_,oi,c,b⟩:=mem_ready.1 hi;refine⟨by rw[Array.size_setIfInBounds];exact h.size,fun j o ho hl e he hb=>?_⟩;by_cases a:i=j
 .subst a;obtain rfl:oi=o:=Option.some.inj (c.symm.trans ho);exact getD_set_true (b e he hb)
 .rw [getD_set_ne false a] at hl;exact getD_set_true (h.back j o ho hl e he hb)
theorem oC.start:oC md ops (Array.replicate ops.size false):=
 ⟨by simp,fun j o _ hl=>by
  rcases Nat.lt_or_ge j ops.size with h|h
  .simp [h] at hl
  .simp [h] at hl⟩
theorem L8 {l:Array Bool} (hs:Region.sinkB md ops n=true) (h:oC md ops l): ∀(k i:Nat),n-i<=k->i<n->l.getD i true=false->n∉Region.ready md ops l:=by
 intro k
 induction k with
 |zero=>intro i h1 y;omega
 |succ k t=>
  intro i hd hi b hr;obtain⟨_,u,o,g⟩:=mem_ready.1 hr;obtain⟨j,w,c⟩:=List.any_eq_true.1 (List.all_eq_true.1 hs i (List.mem_range.2 hi));simp only[Bool.and_eq_true,decide_eq_true_eq] at c;have x:=List.mem_range.1 w;obtain⟨oj,a,e,he,hb,d⟩:=Region.waitsFor_spec c.2;have p:l.getD j false=true->False:=fun hl=>by
   have:=h.back j oj a hl e he hb;rw[d,rF b] at this;cases this
  by_cases q:j=n
  .subst q;obtain rfl:oj=u:=Option.some.inj (a.symm.trans o);have:=g e he hb;rw[d,rF b] at this;cases this
  .cases hl:l.getD j false with
   |true=>exact p hl
   |false=>
    have r:j<l.size:=by rw[h.size];exact(Array.getElem?_eq_some_iff.1 a).1
    exact t j (by omega) (by omega) (L6 r hl) hr
theorem E8 {i:Nat} {oi:Oper} {v:Value} (hi:ops[i]?=some oi) (r: ∀(j:Nat) (o:Oper) cs b,ops[j]?=some o->o.op≠ .select cs b)
  (hQ: ∀c a w,Q (.panic c) (a.put oi.dst v) w->Q (.panic c) a w) (hs:Region.sinkB md ops n=true) (E:i<n):
  ∀(f:Nat) (l:Array Bool) (a:Act) (w:World),oC md ops l->l.getD n false=false->
   (∀j oj,ops[j]?=some oj->j≠i->l.getD j true=false->(∀e∈oj.after,Region.binds md e=true->e.on≠i)->oi.apart ops oj=true)->
   i∈Region.ready md ops l->YieldsIf P ops S oi v a->S w->
   zG P md ops Q S n f (l.setIfInBounds i true) (a.put oi.dst v) w->zG P md ops Q S n (f+1) l a w:=by
 intro f
 induction f with
 |zero=>
  intro l a w _ _ _ hr hy hS H;refine⟨fun h=>(by rw[h] at hr;cases hr),fun j g=>?_⟩;by_cases d:j=i
  .subst d;exact hy.wpOp hi hS ⟨.inl hS,H⟩
  .have:=ready_mono g d;rw[H.1] at this;cases this
 |succ f K=>
  intro l a w hd hn q hr hy hS H;have x:=(mem_ready.1 hr).1;refine⟨fun h=>(by rw[h] at hr;cases hr),fun j g=>?_⟩;by_cases d:j=i
  .subst d;exact hy.wpOp hi hS ⟨.inl hS,H⟩
  .have y:j≠n:=fun e=>by subst e;exact L8 hs hd _ i (Nat.le_refl _) E x g
   obtain⟨t,oj,p,C⟩:=mem_ready.1 g;have D: ∀e∈oj.after,Region.binds md e=true->e.on≠i:=fun e he hb heq=>by
    have h1:=C e he hb;rw[heq,rF x] at h1;cases h1
   have L:=wpOp_putIf p (q j oj p d t D) (fun cs b=>r i oi cs b hi) (fun cs b=>r j oj cs b p) hQ hy (H.2 j (ready_mono g d));have F:(l.setIfInBounds j true).getD n false=false:=by rw[getD_set_ne false y];exact hn
   have B: ∀k ok,ops[k]?=some ok->k≠i->(l.setIfInBounds j true).getD k true=false->
     (∀e∈ok.after,Region.binds md e=true->e.on≠i)->oi.apart ops ok=true:=fun k ok hk G u I=>by
    refine q k ok hk G ?_ I;by_cases z:j=k
    .subst z;exact t
    .rw [getD_set_ne true z] at u;exact u
   refine wpOp_mono (fun a' w' M=>?_) L;obtain⟨J,hSw,N⟩:=M;have A:S w':=by
    rcases hSw with h|h
    .exact h
    .rw [getD_set_ne false y,getD_set_ne false (by omega),hn] at h;cases h
   refine⟨.inl A,K (l.setIfInBounds j true) a' w' (hd.step g) F B (ready_mono hr (Ne.symm d)) J A ?_⟩;rw[Array.setIfInBounds_comm _ _ d];exact N
theorem E_ {k f:Nat} {l:Array Bool} {a:Act} {w:World} (hr:Region.ready md ops l=[k])
  (h:wpOp P ops Q k (fun a' w'=>(S w'\/(l.setIfInBounds k true).getD n false=true)/\zG P md ops Q S n f (l.setIfInBounds k true) a' w') a w):zG P md ops Q S n (f+1) l a w:=by
 refine⟨fun h0=>?_,fun i hi=>?_⟩
 .rw [hr] at h0;cases h0
 .rw [hr] at hi;have:i=k:=by simpa using hi
  subst this;exact h
def qw (md:Region.Mode) (ops:Array Oper) (n:Nat):List (Nat×Nat)->Array Bool->Bool
 |[],l=>(Region.ready md ops l).isEmpty
 |(k,0)::r,l=>(Region.ready md ops l).contains k&&Region.free md ops l k&&decide (k<n)&&!l.getD n false&&qw md ops n r (l.setIfInBounds k true)
 |(k,1)::r,l=>decide (Region.ready md ops l=[k])&&qw md ops n r (l.setIfInBounds k true)
 |(k,_+2)::r,l=>decide (Region.ready md ops l=[k])&&(l.setIfInBounds k true).getD n false&&qw md ops n r (l.setIfInBounds k true)
def dA (P:Program) (ops:Array Oper) (Q:Exit->Act->World->Prop) (S:World->Prop):List (Nat×Oper)->Act->World->Prop
 |[],a,w=>Q .normal a w
 |(0,o)::r,a,w=>if Region.wanted o (yielded ops a.tmps) then ∃v,(∀W,S W->(execOp a.eval o).run P W= .ok (.value v) W)/\dA P ops Q S r (a.put o.dst v) w else dA P ops Q S r (a.put o.dst undef) w
 |(1,o)::r,a,w=>if Region.wanted o (yielded ops a.tmps) then o.wp P a w (fun a' w'=>S w'/\dA P ops Q S r a' w') Q else dA P ops Q S r (a.put o.dst undef) w
 |(_+2,o)::r,a,w=>if Region.wanted o (yielded ops a.tmps) then o.wp P a w (dA P ops Q S r) Q else dA P ops Q S r (a.put o.dst undef) w
def fA (l:List Oper):List (Nat×Nat)->List (Nat×Oper)
 |[]=>[]
 |(k,b)::r=>match l[k]? with
  |some o=>(b,o)::fA l r
  |none=>fA l r
theorem yz {l:List Oper} (u:Region.noSelect l.toArray=true) (hs:Region.sinkB md l.toArray n=true) (hQ: ∀c a d v w,Q (.panic c) (Act.put a d v) w->Q (.panic c) a w):
  ∀(ord:List (Nat×Nat)) (t:Array Bool) (a:Act) (w:World),oC md l.toArray t->(S w\/t.getD n false=true)->qw md l.toArray n ord t=true->
   dA P l.toArray Q S (fA l ord) a w->zG P md l.toArray Q S n ord.length t a w:=by
 intro ord
 induction ord with
 |nil=>intro t a w _ _ e h;exact⟨by simpa[qw] using e,h⟩
 |cons p r i=>
  intro t a w hd hS e h;obtain⟨k,b⟩:=p;have j:k∈Region.ready md l.toArray t:=by
   match b,e with
   |0,e=>simp only[qw,Bool.and_eq_true] at e;simpa using e.1.1.1.1
   |1,e=>simp only[qw,Bool.and_eq_true,decide_eq_true_eq] at e;rw[e.1];simp
   |_+2,e=>simp only[qw,Bool.and_eq_true,decide_eq_true_eq] at e;rw[e.1.1];simp
  obtain⟨_,o,ho,_⟩:=mem_ready.1 j;have z:l[k]?=some o:=by simpa using ho
  have g:=hd.step j;simp only[fA,z] at h;match b,e,h with
  |0,e,h=>
   simp only[qw,Bool.and_eq_true,decide_eq_true_eq,Bool.not_eq_true'] at e;obtain⟨⟨⟨⟨_,hf⟩,x⟩,q⟩,e⟩:=e;have hSw:S w:=by
    rcases hS with h|h
    .exact h
    .rw [q] at h;cases h
   simp only[dA] at h;by_cases hw:Region.wanted o (yielded l.toArray a.tmps)=true
   .rw [if_pos hw] at h;obtain⟨v,hv,h⟩:=h;exact E8 ho (Region.noSelect_spec u) (fun c a w=>hQ c a _ v w) hs x _ t a w hd q (Region.free_spec ho hf) j (.inl ⟨hw,hv⟩) hSw (i _ _ _ g (.inl hSw) e h)
   .rw [if_neg hw] at h;exact E8 ho (Region.noSelect_spec u) (fun c a w=>hQ c a _ undef w) hs x _ t a w hd q (Region.free_spec ho hf) j (.inr ⟨by simpa using hw,rfl⟩) hSw (i _ _ _ g (.inl hSw) e h)
  |1,e,h=>
   simp only[qw,Bool.and_eq_true,decide_eq_true_eq] at e;refine E_ e.1 ?_;unfold wpOp;simp only[ho];simp only[dA] at h;by_cases hw:Region.wanted o (yielded l.toArray a.tmps)=true
   .rw [if_pos hw] at h⊢;exact .inl (Oper.wp_mono (fun a' w' h'=>⟨.inl h'.1,i _ _ _ g (.inl h'.1) e.2 h'.2⟩) h)
   .rw [if_neg hw] at h⊢;have y:S w\/(t.setIfInBounds k true).getD n false=true:=hS.imp id getD_set_true;exact⟨y,i _ _ _ g y e.2 h⟩
  |b+2,e,h=>
   simp only[qw,Bool.and_eq_true,decide_eq_true_eq] at e;refine E_ e.1.1 ?_;unfold wpOp;simp only[ho];simp only[dA] at h;by_cases hw:Region.wanted o (yielded l.toArray a.tmps)=true
   .rw [if_pos hw] at h⊢;exact .inl (Oper.wp_mono (fun a' w' h'=>⟨.inr e.1.2,i _ _ _ g (.inr e.1.2) e.2 h'⟩) h)
   .rw [if_neg hw] at h⊢;exact⟨.inr e.1.2,i _ _ _ g (.inr e.1.2) e.2 h⟩
theorem DX {id:Nat} {a:Act} {w:World} {l:List Oper} (ord:List (Nat×Nat)) (n:Nat) (S:World->Prop) (hm:P.follows .mixedOrders=true)
  (b:(Region.noSelect l.toArray&&Region.sinkB .any l.toArray n&&decide (ord.length=l.length)&&qw .any l.toArray n ord (Array.replicate l.toArray.size false))=true)
  (hQ: ∀c a d v w,Q (.panic c) (Act.put a d v) w->Q (.panic c) a w) (hS:S w.drew) (h:dA P l.toArray Q S (fA l ord) a w.drew):(Code.region id l.toArray true).wp P Q a w:=by
 simp only[Bool.and_eq_true,decide_eq_true_eq] at b;obtain⟨⟨⟨h1,e⟩,g⟩,i⟩:=b;refine wp_region_any hm (tY _ _ _ _ (n:=n) (S:=S) ?_);have:=yz (P:=P) (S:=S) h1 e hQ ord _ a w.drew oC.start (.inl hS) i h;rw[g] at this;exact this
theorem Qm {o:Oper} {r:List (Nat×Oper)} {a:Act} {w:World}
  (h: ∀K:Act->Prop,(∀a,dA P ops Q S r a w->K a)->if Region.wanted o (yielded ops a.tmps) then ∃v,(∀W,S W->(execOp a.eval o).run P W= .ok (.value v) W)/\K (a.put o.dst v) else K (a.put o.dst undef)):
  dA P ops Q S ((0,o)::r) a w:=h (fun a=>dA P ops Q S r a w) (fun _ h=>h)
theorem mY {o:Oper} {r:List (Nat×Oper)} {a:Act} {w:World}
  (h: ∀K:Act->World->Prop,(∀a w,S w->dA P ops Q S r a w->K a w)->(S w->if Region.wanted o (yielded ops a.tmps) then o.wp P a w K Q else K (a.put o.dst undef) w)) (hS:S w):
  dA P ops Q S ((1,o)::r) a w:=by
 simp only[dA];have b:=h (fun a' w'=>S w'/\dA P ops Q S r a' w') (fun a w h1 b=>⟨h1,b⟩) hS;by_cases hw:Region.wanted o (yielded ops a.tmps)=true
 .rw [if_pos hw] at b⊢;exact b
 .rw [if_neg hw] at b⊢;exact b.2
theorem fD {o:Oper} {r:List (Nat×Oper)} {a:Act} {w:World} {b:Nat}
  (h: ∀K:Act->World->Prop,(∀a w,dA P ops Q S r a w->K a w)->if Region.wanted o (yielded ops a.tmps) then o.wp P a w K Q else K (a.put o.dst undef) w):
  dA P ops Q S ((b+2,o)::r) a w:=h (dA P ops Q S r) (fun _ _ h=>h)
end
structure XF (F:Nat->Prop) (w:World) where
 val:World
 upd:au F w val
instance (F:Nat->Prop) (w:World):Nonempty (XF F w):=⟨⟨w,au.refl _ w⟩⟩
end
section
section
variable {P:Program} {ops:Array Oper} {Q:Exit->Act->World->Prop} {α:Type} {w0:World} {Qt:Act->World->Prop} {dp:Nat->List Nat} {n:Nat} {md:Region.Mode} {fl:List Nat} {kD:Nat}
def mF (V:Nat->Value):List Oper->Nat->Act->Act
 |[],_,a=>a
 |o::r,k,a=>mF V r (k+1) (a.put o.dst (V k))
theorem I7 (a:Act) (d:Option Tmp) (v:Value):(a.put d v).tmps.size=a.tmps.size:=by cases d<;>simp[Act.put]
theorem sZ (a:Act) (d:Option Tmp) (v:Value):(a.put d v).defers=a.defers:=by cases d<;>rfl
theorem Qn (a:Act) (d:Option Tmp) (v:Value) (t:Nat) (h:d≠some t):(a.put d v).tmps[t]?=a.tmps[t]?:=by
 cases d with
 |none=>rfl
 |some d=>exact Array.getElem?_setIfInBounds_ne (fun e=>h (by rw[e]))
theorem put_eq (a:Act) (v:Value) (t:Nat) (h:t<a.tmps.size):(a.put (some t) v).tmps[t]?=some v:=by
 simp[Act.put,h]
theorem CJ (V:Nat->Value): ∀(r:List Oper) (k:Nat) (a:Act),(mF V r k a).tmps.size=a.tmps.size/\(mF V r k a).defers=a.defers
 |[],_,_=>⟨rfl,rfl⟩
 |o::r,k,a=>by have:=CJ V r (k+1) (a.put o.dst (V k));exact⟨this.1.trans (I7 _ _ _),this.2.trans (sZ _ _ _)⟩
theorem uJ (V:Nat->Value) (t:Nat): ∀(r:List Oper) (k:Nat) (a:Act),(∀(j:Nat) o,r[j]?=some o->o.dst≠some t)->(mF V r k a).tmps[t]?=a.tmps[t]?
 |[],_,_,_=>rfl
 |o::r,k,a,h=>by
  have h1:=uJ V t r (k+1) (a.put o.dst (V k)) (fun j p hp=>h (j+1) p (by simpa using hp));have b:=h 0 o (by simp);exact h1.trans (Qn _ _ _ _ b)
theorem zF (V:Nat->Value) (t:Nat): ∀(r:List Oper) (k:Nat) (a:Act) (j:Nat) (o:Oper),r[j]?=some o->o.dst=some t->t<a.tmps.size->
  (∀(i:Nat) p,r[i]?=some p->p.dst=some t->i=j)->(mF V r k a).tmps[t]?=some (V (k+j))
 |[],_,_,j,o,h,_,_,_=>by simp at h
 |p::r,k,a,0,o,h,hd,b,hu=>by
  simp at h;subst h;have h1:=uJ V t r (k+1) (a.put p.dst (V k)) (fun i q c he=>by have:=hu (i+1) q (by simpa using c) he;omega);refine h1.trans ?_;rw[hd];exact put_eq _ _ _ b
 |p::r,k,a,j+1,o,h,hd,b,hu=>by
  rw[List.getElem?_cons_succ] at h;have h1:=zF V t r (k+1) (a.put p.dst (V k)) j o h hd (by rw[I7];exact b) (fun i q c he=>by have:=hu (i+1) q (by simpa using c) he;omega);rw[show k+(j+1)=k+1+j by omega];exact h1
theorem yQ {o:Oper} (hs: ∀cs b,o.op≠ .select cs b) {a b:Act} (h: ∀t∈o.looksAt ops,a.tmps[t]?=b.tmps[t]?):
  execOp a.eval o=execOp b.eval o/\Region.wanted o (yielded ops a.tmps)=Region.wanted o (yielded ops b.tmps):=by
 constructor
 .refine execOp_congr o hs fun x hx=>?_;cases x with
  |tmp t=>
   have:=h t (List.mem_append_left _ (List.mem_filterMap.2 ⟨.tmp t,by simpa using hx,rfl⟩));simp only[Act.eval,Array.getD_eq_getD_getElem?,this]
  |_=>rfl
 .unfold Region.wanted;cases c:o.guard with
  |none=>rfl
  |some d=>
   obtain⟨g,want⟩:=d;simp only;have:yielded ops a.tmps g=yielded ops b.tmps g:=by
    unfold yielded;cases e:(ops[g]?).bind (·.dst) with
    |none=>rfl
    |some t=>
     have:=h t (List.mem_append_right _ (by simp[c,e]));simp[this]
   rw[this]
def JS:Op->Bool
 | .extract _ _=>true
 | .move _=>true
 | .assign _=>true
 |_=>false
theorem NM {o:Oper} (h:JS o.op=true) {ρ:Operand->Value} {v:Value} {W:World} (hr:(execOp ρ o).run P W= .ok (.value v) W): ∀W',(execOp ρ o).run P W'= .ok (.value v) W':=by
 intro W';unfold execOp at*;cases ho:o.op<;>rw[ho] at h<;>simp only[JS,Bool.false_eq_true] at h
 case extract x ix=>
  rw[ho] at hr;simp only at hr⊢;unfold Instr.extract at*;cases hx:ρ x<;>rw[hx] at hr
  case tuple vs=>
   simp only[Sem.run_bind] at hr⊢;cases hv:vs[ix]? with
   |none=>rw[hv] at hr;exact nomatch hr
   |some u=>
    rw[hv] at hr;simp only[Sem.run_pure,Result.andThen_ok] at hr⊢;injection hr with h1 a
    rw[h1]
  all_goals exact nomatch hr
 case move x=>
  rw[ho] at hr;simp only[Sem.run_pure] at hr⊢;injection hr with h1 a
  rw[h1]
 case assign x=>
  rw[ho] at hr;simp only[Sem.run_pure] at hr⊢;injection hr with h1 a
  rw[h1]
def subs:List Nat->List (List Nat)
 |[]=>[[]]
 |x::r=>subs r++(subs r).map (x:: ·)
theorem AP (p:Nat->Bool): ∀l:List Nat,l.filter p∈subs l
 |[]=>by simp[subs]
 |x::r=>by
  have:=AP p r;unfold subs;rw[List.filter_cons];split
  .exact List.mem_append_right _ (List.mem_map.2 ⟨_,this,rfl⟩)
  .exact List.mem_append_left _ this
def GN (ops:Array Oper) (n sz:Nat) (dp:Nat->List Nat) (aI:Nat->Bool) (fl:List Nat) (kD:Nat) (tail:List (Nat×Nat)):Bool:=
 Region.noSelect ops&&decide (n<=ops.size)&&
 (List.range n).all (fun i=>match ops[i]? with
  |none=>false
  |some o=>
   (match o.dst with
    |none=>!aI i
    |some d=>decide (d<sz)&&(List.range n).all fun j=>j==i||((ops[j]?).bind (·.dst)) !=some d)&&
   (o.looksAt ops).all (fun t=>(List.range n).all fun j=>((ops[j]?).bind (·.dst)) !=some t||o.after.any fun e=>Region.binds .any e&&e.on==j)&&
   o.after.all (fun e=>!Region.binds .any e||decide (e.on<i)))&&
 (List.range ops.size).all (fun i=>match ops[i]? with
  |none=>false
  |some o=>(dp i).all (fun j=>o.after.any fun e=>Region.binds .any e&&(e.on==j||(decide (e.on<i)&&(dp e.on).contains j))))&&
 (List.range ops.size).all (fun m=>decide (m<n)||(List.range n).all fun j=>fl.contains j||(dp m).contains j)&&
 decide (tail.length+n=ops.size)&&(subs ((List.range n).filter fun j=>fl.contains j)).all (fun U=>qw .any ops kD (U.map (fun k=>(k,0))++tail) (Array.ofFn (n:=ops.size) fun j=>decide (j.val<n)&&!U.contains j.val))&&decide (0<n)&&
 Region.sinkB .any ops kD&&(List.range n).all (fun j=>!fl.contains j||(!aI j&&match ops[j]? with|some o=>JS o.op|none=>false))
structure vJ (ops:Array Oper) (n sz:Nat) (dp:Nat->List Nat) (aI:Nat->Bool) (tail:List (Nat×Nat)) (fl:List Nat) (kD:Nat):Prop where
 Ae:Region.noSelect ops=true
 le:n<=ops.size
 pos:0<n
 dst: ∀i o d,i<n->ops[i]?=some o->o.dst=some d->d<sz
 some_: ∀i o,i<n->ops[i]?=some o->aI i=true->∃d,o.dst=some d
 uniq: ∀i j o p d,i<n->j<n->ops[i]?=some o->ops[j]?=some p->o.dst=some d->p.dst=some d->j=i
 reads: ∀i j o p t,i<n->j<n->ops[i]?=some o->ops[j]?=some p->t∈o.looksAt ops->p.dst=some t->∃e∈o.after,Region.binds .any e=true/\e.on=j
 lt: ∀i o,i<n->ops[i]?=some o->∀e∈o.after,Region.binds .any e=true->e.on<i
 dpx: ∀i o j,ops[i]?=some o->j∈dp i->∃e∈o.after,Region.binds .any e=true/\(e.on=j\/(e.on<i/\j∈dp e.on))
 rest: ∀m j,n<=m->m<ops.size->j<n->fl.contains j=false->j∈dp m
 len:tail.length+n=ops.size
 mix: ∀U∈subs ((List.range n).filter fun j=>fl.contains j),qw .any ops kD (U.map (fun k=>(k,0))++tail) (Array.ofFn (n:=ops.size) fun j=>decide (j.val<n)&&!U.contains j.val)=true
 sink:Region.sinkB .any ops kD=true
 flo: ∀j o,j<n->fl.contains j=true->ops[j]?=some o->JS o.op=true/\aI j=false
theorem Us {sz:Nat} {an:Nat->Bool} {tail:List (Nat×Nat)} (h:GN ops n sz dp an fl kD tail=true):vJ ops n sz dp an tail fl kD:=by
 unfold GN at h;simp only[Bool.and_eq_true,decide_eq_true_eq,List.all_eq_true,List.mem_range] at h;obtain⟨⟨⟨⟨⟨⟨⟨⟨⟨h1,q⟩,b⟩,r⟩,u⟩,w⟩,x⟩,y⟩,z⟩,k⟩:=h;refine⟨h1,q,y,?_,?_,?_,?_,?_,?_,?_,w,x,z,?_⟩
 .intro i o d hi ho hd;have:=b i hi;rw[ho] at this;simp only[hd,Bool.and_eq_true,decide_eq_true_eq] at this;exact this.1.1.1
 .intro i o hi ho ha;have:=b i hi;rw[ho] at this;simp only at this;cases hd:o.dst with
  |none=>rw[hd] at this;simp[ha] at this
  |some d=>exact⟨d,rfl⟩
 .intro i j o p d hi a ho hp hd g;have:=b i hi;rw[ho] at this;simp only[hd,Bool.and_eq_true,decide_eq_true_eq,List.all_eq_true,List.mem_range] at this;have:=this.1.1.2 j a;simp only[hp,Option.bind_some,g,Bool.or_eq_true,beq_iff_eq,bne_self_eq_false,Bool.false_eq_true,or_false] at this;exact this
 .intro i j o p t hi a ho hp A g;have:=b i hi;rw[ho] at this;simp only[Bool.and_eq_true,List.all_eq_true,List.mem_range] at this;have:=this.1.2 t A j a;simp only[hp,Option.bind_some,g,bne_self_eq_false,Bool.false_or,Array.any_eq_true',Bool.and_eq_true,beq_iff_eq] at this;obtain⟨e,he,hb,a⟩:=this;exact⟨e,he,hb,a⟩
 .intro i o hi ho e he hb;have:=b i hi;rw[ho] at this;simp only[Bool.and_eq_true] at this;have:=(Array.all_eq_true_iff_forall_mem.1 this.2) e he;simpa[hb] using this
 .intro i o j ho a;have hi:i<ops.size:=(Array.getElem?_eq_some_iff.1 ho).1;have:=r i hi;rw[ho] at this;simp only[List.all_eq_true] at this;have:=this j a;simp only[Array.any_eq_true',Bool.and_eq_true,Bool.or_eq_true,beq_iff_eq,decide_eq_true_eq,List.contains_iff_mem] at this;obtain⟨e,he,hb,hx⟩:=this;exact⟨e,he,hb,hx⟩
 .intro m j hm l a c;have:=u m l;simp only[Bool.or_eq_true,decide_eq_true_eq,List.all_eq_true,List.mem_range] at this;rcases this with h|h
  .omega
  .have:=h j a;rw[c] at this;simpa using this
 .intro j o a c ho;have:=k j a;rw[c,ho] at this;simp only[Bool.not_true,Bool.false_or,Bool.and_eq_true,Bool.not_eq_true'] at this;exact⟨this.2,this.1⟩
theorem vJ.closed {sz:Nat} {an:Nat->Bool} {tail:List (Nat×Nat)} (h:vJ ops n sz dp an tail fl kD) {l:Array Bool} (hd:oC .any ops l):
  ∀(i:Nat) o,ops[i]?=some o->(∀e∈o.after,Region.binds .any e=true->l.getD e.on false=true)->∀j∈dp i,l.getD j false=true:=by
 intro i
 induction i using Nat.strongRecOn with
 |_ i k=>
  intro o ho a j p;obtain⟨e,he,hb,hx⟩:=h.dpx i o j ho p;rcases hx with hx|⟨c,hx⟩
  .rw [<-hx];exact a e he hb
  .have hl:=a e he hb;have b:e.on<ops.size:=by
    rcases Nat.lt_or_ge e.on ops.size with h'|h'
    .exact h'
    .simp [Array.getElem?_eq_none (show l.size<=e.on by rw[hd.size];exact h')] at hl
   exact k e.on c ops[e.on] (Array.getElem?_eq_getElem b) (fun e' d g=>hd.back e.on _ (Array.getElem?_eq_getElem b) hl e' d g) j hx
structure xU (ops:Array Oper) (n:Nat) (a0:Act) (l:Array Bool) (V:Nat->Value) (b:Act):Prop where
 size:b.tmps.size=a0.tmps.size
 defers:b.defers=a0.defers
 out: ∀t,(∀(j:Nat) o,j<n->ops[j]?=some o->o.dst≠some t)->b.tmps[t]?=a0.tmps[t]?
 in_: ∀(j:Nat) o t,j<n->ops[j]?=some o->o.dst=some t->l.getD j false=true->b.tmps[t]?=some (V j)
theorem xU.start {a0:Act} {V:Nat->Value}:xU ops n a0 (Array.replicate ops.size false) V a0:=
 ⟨rfl,rfl,fun _ _=>rfl,fun j o t a ho hd hl=>by
  rcases Nat.lt_or_ge j ops.size with h|h
  .simp [h] at hl
  .simp [h] at hl⟩
theorem xU.step {sz:Nat} {an:Nat->Bool} {tail:List (Nat×Nat)} (hp:vJ ops n sz dp an tail fl kD) {a0 b:Act} {l:Array Bool} {V a:Nat->Value} (h:xU ops n a0 l V b) (k:a0.tmps.size=sz) {i:Nat} {o:Oper} (hi:i<n) (ho:ops[i]?=some o)
  (hV: ∀j,j<n->l.getD j false=true->a j=V j):xU ops n a0 (l.setIfInBounds i true) a (b.put o.dst (a i)):=by
 refine⟨(I7 _ _ _).trans h.size,(sZ _ _ _).trans h.defers,fun t g=>?_,fun j p t c d hd hl=>?_⟩
 .rw [Qn _ _ _ _ (g i o hi ho)];exact h.out t g
 .by_cases e:j=i
  .subst e;obtain rfl:o=p:=Option.some.inj (ho.symm.trans d);rw[hd];exact put_eq _ _ _ (by rw[h.size,k];exact hp.dst _ _ _ hi ho hd)
  .rw [getD_set_ne false (Ne.symm e)] at hl;rw[Qn _ _ _ _ (fun q=>e (hp.uniq i j o p t hi c ho d q hd)),hV j c hl];exact h.in_ j p t c d hd hl
theorem xU.look {sz:Nat} {an:Nat->Bool} {tail:List (Nat×Nat)} (hp:vJ ops n sz dp an tail fl kD) {a0 b:Act} {l:Array Bool} {V:Nat->Value} (h:xU ops n a0 l V b) (x:a0.tmps.size=sz) {i:Nat} {o:Oper} (hi:i<n) (ho:ops[i]?=some o)
  (w: ∀e∈o.after,Region.binds .any e=true->l.getD e.on false=true): ∀t∈o.looksAt ops,(mF V (ops.toList.take i) 0 a0).tmps[t]?=b.tmps[t]?:=by
 intro t y;have hle:i<=ops.toList.length:=by have:=hp.le;simp;omega
 by_cases hx: ∃j p,j<n/\ops[j]?=some p/\p.dst=some t
 .obtain ⟨j,p,c,a,hd⟩:=hx;obtain⟨e,he,hb,g⟩:=hp.reads i j o p t hi c ho a y hd;have r:=hp.lt i o hi ho e he hb;rw[g] at r;have hl:=w e he hb;rw[g] at hl;rw[h.in_ j p t c a hd hl];have:=zF V t (ops.toList.take i) 0 a0 j p (by rw[List.getElem?_take_of_lt r];simpa using a) hd (by rw[x];exact hp.dst _ _ _ c a hd) (fun k q d z=>by
   have hk:k<i:=by
    have:=(List.getElem?_eq_some_iff.1 d).1;rw[List.length_take] at this;omega
   rw[List.getElem?_take_of_lt hk] at d;exact hp.uniq j k p q t c (by omega) a (by simpa using d) hd z)
  rw[Nat.zero_add] at this;exact this
 .have u: ∀(j:Nat) p,j<n->ops[j]?=some p->p.dst≠some t:=fun j p c a hd=>hx ⟨j,p,c,a,hd⟩;rw[h.out t u];refine uJ V t _ 0 a0 fun j p a=>?_;have hk:j<i:=by
   have:=(List.getElem?_eq_some_iff.1 a).1;rw[List.length_take] at this;omega
  rw[List.getElem?_take_of_lt hk] at a;exact u j p (by omega) (by simpa using a)
theorem xU.all {sz:Nat} {an:Nat->Bool} {tail:List (Nat×Nat)} (hp:vJ ops n sz dp an tail fl kD) {a0 b:Act} {l:Array Bool} {V:Nat->Value} (h:xU ops n a0 l V b) (o:a0.tmps.size=sz)
  (i: ∀j,j<n->l.getD j false=true):b=mF V (ops.toList.take n) 0 a0:=by
 have hs:=CJ V (ops.toList.take n) 0 a0;have d:b.tmps=(mF V (ops.toList.take n) 0 a0).tmps:=by
  apply Array.ext_getElem?;intro t;by_cases hx: ∃j p,j<n/\ops[j]?=some p/\p.dst=some t
  .obtain ⟨j,p,c,a,hd⟩:=hx;rw[h.in_ j p t c a hd (i j c)];have:=zF V t (ops.toList.take n) 0 a0 j p (by rw[List.getElem?_take_of_lt c];simpa using a) hd (by rw[o];exact hp.dst _ _ _ c a hd) (fun k q e r=>by
    have hk:k<n:=by
     have:=(List.getElem?_eq_some_iff.1 e).1;rw[List.length_take] at this;omega
    rw[List.getElem?_take_of_lt hk] at e;exact hp.uniq j k p q t c hk a (by simpa using e) hd r)
   rw[Nat.zero_add] at this;exact this.symm
  .have g: ∀(j:Nat) p,j<n->ops[j]?=some p->p.dst≠some t:=fun j p c a hd=>hx ⟨j,p,c,a,hd⟩;rw[h.out t g];refine(uJ V t _ 0 a0 fun j p a=>?_).symm;have hk:j<n:=by
    have:=(List.getElem?_eq_some_iff.1 a).1;rw[List.length_take] at this;omega
   rw[List.getElem?_take_of_lt hk] at a;exact g j p hk (by simpa using a)
 have hd:b.defers=(mF V (ops.toList.take n) 0 a0).defers:=h.defers.trans hs.2.symm;cases b;cases hb:mF V (ops.toList.take n) 0 a0;rw[hb] at d hd;simp only at d hd;rw[d,hd]
theorem Ih {o:Oper} {a b:Act} {w:World} (he:execOp a.eval o=execOp b.eval o) {K g:Act->World->Prop} (hK: ∀v W,K (a.put o.dst v) W->g (b.put o.dst v) W)
  (i: ∀c W,K c W->c.defers=a.defers) (h:o.wp P a w K (fun _ _ _=>False)):o.wp P b w g Q:=by
 unfold Oper.wp at*;rw[he] at h;generalize (execOp b.eval o).run P w=r at*;cases r with
 |ok x w'=>
  cases x<;>simp only[Oper.upon] at h⊢
  case value u=>exact hK _ _ h
  case skip=>exact hK _ _ h
  case defer d=>
   have:=i _ _ h;rw[sZ] at this;have:=congrArg List.length this;simp at this
  case enter f args=>
   refine Calls.mono h fun e w'' he=>?_;cases e with
   |returned u=>exact hK _ _ he
   |panicked c=>exact he.elim
   |outgrown=>obtain⟨_,_,hf⟩:=he;exact hf.elim
  case row row args=>exact Rows.mono h fun u w'' he=>hK _ _ he
 |halt x w'=>cases x<;>simp only[Oper.upon] at h⊢ <;>exact h.elim
theorem JU {md:Region.Mode}: ∀(f:Nat) (l:Array Bool) (a:Act) (w:World),wpAny P md ops Q f l a w->wpAny P md ops Q (f+1) l a w
 |0,l,a,w,h=>⟨fun _=>h.2,fun i hi=>by rw[h.1] at hi;cases hi⟩
 |f+1,l,a,w,h=>⟨h.1,fun i hi=>wpOp_mono (fun a' w' h'=>JU f _ a' w' h') (h.2 i hi)⟩
theorem Qk {md:Region.Mode} {f g:Nat} (c:f<=g) {l:Array Bool} {a:Act} {w:World} (h:wpAny P md ops Q f l a w):wpAny P md ops Q g l a w:=by
 induction g with
 |zero=>
   obtain rfl:f=0:=by omega
   exact h
 |succ g b=>
  by_cases e:f=g+1
  .subst e;exact h
  .exact JU g _ _ _ (b (by omega))
def xh (n:Nat) (l:Array Bool):Nat:=((List.range n).filter fun j=>!l.getD j false).length
theorem Ij (p q:Nat->Bool) (i:Nat) (h: ∀j,q j=true->p j=true) (hi:p i=true) (b:q i=false): ∀(L:List Nat),i∈L->(L.filter q).length+1<=(L.filter p).length
 |[],h=>by cases h
 |x::L,hm=>by
  have hle: ∀(L:List Nat),(L.filter q).length<=(L.filter p).length:=by
   intro L;induction L with
   |nil=>simp
   |cons y L a=>
    rw[List.filter_cons,List.filter_cons];cases hy:q y with
    |true=>rw[if_pos rfl,if_pos (h y hy)];simp;exact a
    |false=>
     rw[if_neg (by simp)];split
     .simp;omega
     .exact a
  rw[List.filter_cons,List.filter_cons];rcases List.mem_cons.1 hm with e|hm
  .subst e;rw[b,hi,if_neg (by simp),if_pos rfl];have:=hle L;simp;omega
  .have a:=Ij p q i h hi b L hm;cases hx:q x with
   |true=>rw[if_pos rfl,if_pos (h x hx)];simp;exact a
   |false=>
    rw[if_neg (by simp)];split
    .simp;omega
    .exact a
theorem NP {l:Array Bool} (h:xh n l=0) (j:Nat) (a:j<n):l.getD j false=true:=by
 have:=List.eq_nil_of_length_eq_zero h;have b:=List.filter_eq_nil_iff.1 this j (List.mem_range.2 a);simpa using b
theorem NQ {l:Array Bool} {i:Nat} (hi:i<n) (hl:l.getD i true=false):xh n (l.setIfInBounds i true)+1<=xh n l:=by
 have hs:i<l.size:=by
  rcases Nat.lt_or_ge i l.size with h|h
  .exact h
  .simp [Array.getElem?_eq_none h] at hl
 refine Ij _ _ i (fun j a=>?_) ?_ ?_ _ (List.mem_range.2 hi)
 .cases h:l.getD j false with
  |false=>rfl
  |true=>rw[getD_set_true h] at a;cases a
 .rw [rF hl];rfl
 .simp [hs]
end
end
end Go.Hw
namespace Go.Hw.PI
open Go.RowKit Go.Hw
section
section
variable {P:Program} {ops:Array Oper} {Q:Exit->Act->World->Prop} {α:Type} {w0:World} {Qt:Act->World->Prop} {dp:Nat->List Nat} {n:Nat} {md:Region.Mode} {fl:List Nat} {kD:Nat} {F0:Nat->Prop}
structure dG (α:Type) where
 val:α->Value
 R:α->World->Prop
 D:Nat->Prop
 N:Nat->Prop
 st: ∀x W W' (F:Nat->Prop),R x W->au F W W'->(∀k,F k->N k)->R x W'
 pre:World->Prop
 pst: ∀W W' (F:Nat->Prop),pre W->au F W W'->(∀k,F k->N k)->pre W'
 f:α->Nat->Prop
 lt: ∀x W k,R x W->f x k->k<W.heap.size
variable {aI:Nat->Option (dG α)}
abbrev qH:=Nat×(Nat->Prop)×(World->Prop)
def vH (G:List qH):Prop:=G.Pairwise fun g h=> ∀k,g.2.1 k->¬h.2.1 k
def Can (P:Program) (ops:Array Oper) (Qt:Act->World->Prop) (w0:World) (F0:Nat->Prop) (dp:Nat->List Nat) (aI:Nat->Option (dG α)):List Oper->Nat->List qH->Act->Prop
 |[],_,G,a=> ∀W,au F0 w0 W->(∀g∈G,g.2.2 W)->vH G->Qt a W
 |o::r,i,G,a=>match aI i with
  |none=>if Region.wanted o (yielded ops a.tmps) then ∃v,(∀W,au F0 w0 W->(∀g∈G,g.1∈dp i->g.2.2 W)->(execOp a.eval o).run P W= .ok (.value v) W)/\Can P ops Qt w0 F0 dp aI r (i+1) G (a.put o.dst v)
    else Can P ops Qt w0 F0 dp aI r (i+1) G (a.put o.dst undef)
  |some A=>Region.wanted o (yielded ops a.tmps)=true/\
    (∀W,au F0 w0 W->(∀g∈G,g.1∈dp i->g.2.2 W)->A.pre W->∀K:Act->World->Prop,(∀x W',au A.D W W'->A.R x W'->(∀k,A.f x k->W.heap.size<=k)->K (a.put o.dst (A.val x)) W')->o.wp P a W K (fun _ _ _=>False))/\
    ∀x,Can P ops Qt w0 F0 dp aI r (i+1) (G++[(i,A.f x,A.R x)]) (a.put o.dst (A.val x))
def gm (P:Program) (ops:Array Oper) (w0:World) (F0:Nat->Prop) (dp:Nat->List Nat) (aI:Nat->Option (dG α)) (X:Nat->α) (V:Nat->Value) (i:Nat) (o:Oper) (a:Act):Prop:=
 match aI i with
 |none=>(Region.wanted o (yielded ops a.tmps)=true->∀W,au F0 w0 W->(∀j A,j<i->j∈dp i->aI j=some A->A.R (X j) W)->(execOp a.eval o).run P W= .ok (.value (V i)) W)/\
   (Region.wanted o (yielded ops a.tmps)=false->V i=undef)
 |some A=>Region.wanted o (yielded ops a.tmps)=true/\V i=A.val (X i)/\
   ∀W,au F0 w0 W->(∀j A,j<i->j∈dp i->aI j=some A->A.R (X j) W)->A.pre W->∀K:Act->World->Prop,(∀x W',au A.D W W'->A.R x W'->(∀k,A.f x k->W.heap.size<=k)->K (a.put o.dst (A.val x)) W')->o.wp P a W K (fun _ _ _=>False)
def Good (P:Program) (ops:Array Oper) (Qt:Act->World->Prop) (w0:World) (F0:Nat->Prop) (dp:Nat->List Nat) (aI:Nat->Option (dG α)) (X:Nat->α) (V:Nat->Value):List Oper->Nat->Act->Prop
 |[],k,a=> ∀W,au F0 w0 W->(∀j A,j<k->aI j=some A->A.R (X j) W)->(∀i j A B,i<k->j<k->i≠j->aI i=some A->aI j=some B->∀b,A.f (X i) b->¬B.f (X j) b)->Qt a W
 |o::r,k,a=>gm P ops w0 F0 dp aI X V k o a/\Good P ops Qt w0 F0 dp aI X V r (k+1) (a.put o.dst (V k))
theorem gm.congr {X:Nat->α} {V b:Nat->Value} {i:Nat} {o:Oper} {a:Act} (h:V i=b i) (hf:gm P ops w0 F0 dp aI X V i o a):gm P ops w0 F0 dp aI X b i o a:=by
 unfold gm at*;rw[<-h];exact hf
theorem Good.congr {X:Nat->α} {V b:Nat->Value}: ∀(r:List Oper) (k:Nat) (a:Act),(∀j,k<=j->V j=b j)->Good P ops Qt w0 F0 dp aI X V r k a->Good P ops Qt w0 F0 dp aI X b r k a
 |[],_,_,_,h=>h
 |o::r,k,a,he,h=>⟨h.1.congr (he k (Nat.le_refl _)),by rw[<-he k (Nat.le_refl _)];exact Good.congr r (k+1) _ (fun j c=>he j (by omega)) h.2⟩
theorem jm (X:Nat->α): ∀(r:List Oper) (k:Nat) (G:List qH) (a:Act),Can P ops Qt w0 F0 dp aI r k G a->
  (∀g∈G,∃A,aI g.1=some A/\g.1<k/\g.2=(A.f (X g.1),A.R (X g.1)))->G.Pairwise (fun g h=>g.1≠h.1)->∃V,Good P ops Qt w0 F0 dp aI X V r k a
 |[],k,G,a,h,d,p=>⟨fun _=>undef,fun W hW hR D=>h W hW (fun g c=>by obtain⟨A,h1,i,l⟩:=d g c;rw[l];exact hR _ _ i h1) (by
   unfold vH;refine List.Pairwise.imp_of_mem (fun{g g'} c q hne b u w=>?_) p;obtain⟨A,h1,i,l⟩:=d g c;obtain⟨E,y,z,B⟩:=d g' q;rw[l] at u;rw[B] at w;exact D _ _ A E i z hne h1 y b u w)⟩
 |o::r,k,G,a,h,d,p=>by
  have hH: ∀W,(∀j A,j<k->j∈dp k->aI j=some A->A.R (X j) W)->∀g∈G,g.1∈dp k->g.2.2 W:=fun W hR g c hd=>by
   obtain⟨A,h1,i,l⟩:=d g c;rw[l];exact hR _ _ i hd h1
  unfold Can at h;have t: ∀g∈G,∃A,aI g.1=some A/\g.1<k+1/\g.2=(A.f (X g.1),A.R (X g.1)):=fun g c=>by
   obtain⟨A,h1,i,l⟩:=d g c;exact⟨A,h1,by omega,l⟩
  cases ha:aI k with
  |none=>
   rw[ha] at h;simp only at h;by_cases hw:Region.wanted o (yielded ops a.tmps)=true
   .rw [if_pos hw] at h;obtain⟨v,hv,h⟩:=h;obtain⟨V,hV⟩:=jm X r (k+1) G _ h t p;refine⟨fun j=>if j=k then v else V j,?_,?_⟩
    .unfold gm;rw[ha];simp only[if_true];exact⟨fun _ W hW hR=>hv W hW (hH W hR),fun h=>by rw[hw] at h;cases h⟩
    .rw [show(fun j=>if j=k then v else V j) k=v from if_pos rfl];exact hV.congr _ _ _ (fun j x=>by rw[if_neg (by omega)])
   .rw [if_neg hw] at h;obtain⟨V,hV⟩:=jm X r (k+1) G _ h t p;refine⟨fun j=>if j=k then undef else V j,?_,?_⟩
    .unfold gm;rw[ha];simp only[if_true];exact⟨fun h=>absurd h hw,fun _=>trivial⟩
    .rw [show(fun j=>if j=k then undef else V j) k=undef from if_pos rfl];exact hV.congr _ _ _ (fun j x=>by rw[if_neg (by omega)])
  |some A=>
   rw[ha] at h;simp only at h;obtain⟨hw,hm,h⟩:=h;obtain⟨V,hV⟩:=jm X r (k+1) _ _ (h (X k)) (fun g c=>by
    rcases List.mem_append.1 c with h1|h1
    .exact t g h1
    .simp only [List.mem_singleton] at h1;subst h1;exact⟨A,ha,Nat.lt_succ_self _,rfl⟩) (List.pairwise_append.2 ⟨p,List.pairwise_singleton _ _,fun g c g' q e=>by
    rw[List.mem_singleton] at q;subst q;obtain⟨_,_,i,_⟩:=d g c;simp only at e;omega⟩)
   refine⟨fun j=>if j=k then A.val (X k) else V j,?_,?_⟩
   .unfold gm;rw[ha];simp only[if_true];exact⟨hw,trivial,fun W hW hR C K hK=>hm W hW (hH W hR) C K hK⟩
   .rw [show(fun j=>if j=k then A.val (X k) else V j) k=A.val (X k) from if_pos rfl];exact hV.congr _ _ _ (fun j x=>by rw[if_neg (by omega)])
theorem Good.at {X:Nat->α} {V:Nat->Value}: ∀(r:List Oper) (k:Nat) (a:Act),Good P ops Qt w0 F0 dp aI X V r k a->∀i o,r[i]?=some o->gm P ops w0 F0 dp aI X V (k+i) o (mF V (r.take i) k a)
 |[],_,_,_,i,o,h=>by simp at h
 |p::r,k,a,h,0,o,ho=>by simp at ho;subst ho;exact h.1
 |p::r,k,a,h,i+1,o,ho=>by
  rw[List.getElem?_cons_succ] at ho;have:=Good.at r (k+1) _ h.2 i o ho;rw[show k+(i+1)=k+1+i by omega];exact this
theorem Good.fin {X:Nat->α} {V:Nat->Value}: ∀(r:List Oper) (k:Nat) (a:Act),Good P ops Qt w0 F0 dp aI X V r k a->∀W,au F0 w0 W->(∀j A,j<k+r.length->aI j=some A->A.R (X j) W)->(∀i j A B,i<k+r.length->j<k+r.length->i≠j->aI i=some A->aI j=some B->∀b,A.f (X i) b->¬B.f (X j) b)->Qt (mF V r k a) W
 |[],_,_,h,W,hW,hR,c=>h W hW hR c
 |p::r,k,a,h,W,hW,hR,c=>Good.fin r (k+1) _ h.2 W hW (fun j A d=>hR j A (by simp only[List.length_cons];omega)) (fun i j A B hi d=>c i j A B (by simp only[List.length_cons];omega) (by simp only[List.length_cons];omega))
theorem Good.same {sz:Nat} {an:Nat->Bool} {tail:List (Nat×Nat)} (hp:vJ ops n sz dp an tail fl kD) {a0:Act} {l:Array Bool} (hd:oC .any ops l) (x:a0.tmps.size=sz) {X C:Nat->α} {V g:Nat->Value}
  (hV:Good P ops Qt w0 F0 dp aI X V (ops.toList.take n) 0 a0) (F:Good P ops Qt w0 F0 dp aI C g (ops.toList.take n) 0 a0) (D: ∀j,j<n->l.getD j false=true->C j=X j)
  {W:World} (hW:au F0 w0 W) (hR: ∀j A,j<n->l.getD j false=true->aI j=some A->A.R (X j) W): ∀j,j<n->l.getD j false=true->g j=V j:=by
 intro j
 induction j using Nat.strongRecOn with
 |_ j J=>
  intro h hl;have G:j<ops.size:=aP h hp.le;have ho:ops[j]?=some ops[j]:=Array.getElem?_eq_getElem G;have y:(ops.toList.take n)[j]?=some ops[j]:=by rw[List.getElem?_take_of_lt h];simp
  have w: ∀e∈ops[j].after,Region.binds .any e=true->l.getD e.on false=true:=fun e he hb=>hd.back j _ ho hl e he hb;have f1:=hV.at _ _ _ j _ y;have f2:=F.at _ _ _ j _ y;rw[Nat.zero_add] at f1 f2;rw[List.take_take,Nat.min_eq_left (Nat.le_of_lt h)] at f1 f2;have r:=hp.closed hd j _ ho w;have E: ∀t∈ops[j].looksAt ops,(mF V (ops.toList.take j) 0 a0).tmps[t]?=(mF g (ops.toList.take j) 0 a0).tmps[t]?:=by
   intro t K;by_cases hx: ∃k p,k<j/\ops[k]?=some p/\p.dst=some t
   .obtain ⟨k,p,hk,c,a⟩:=hx;have d:k<n:=by omega
    have H:l.getD k false=true:=by
     obtain⟨e,he,hb,I⟩:=hp.reads j k _ p t h d ho c K a;have:=w e he hb;rw[I] at this;exact this
    have hu: ∀(i:Nat) q,(ops.toList.take j)[i]?=some q->q.dst=some t->i=k:=fun i q u L=>by
     have hi:i<j:=by
      have:=(List.getElem?_eq_some_iff.1 u).1;rw[List.length_take] at this;omega
     rw[List.getElem?_take_of_lt hi] at u;exact hp.uniq k i p q t d (by omega) c (by simpa using u) a L
    have z:(ops.toList.take j)[k]?=some p:=by rw[List.getElem?_take_of_lt hk];simpa using c
    rw[zF V t _ 0 a0 k p z a (by rw[x];exact hp.dst _ _ _ d c a) hu,zF g t _ 0 a0 k p z a (by rw[x];exact hp.dst _ _ _ d c a) hu,Nat.zero_add,J k hk d H]
   .have B: ∀(k:Nat) p,(ops.toList.take j)[k]?=some p->p.dst≠some t:=fun k p c a=>by
     have hk:k<j:=by
      have:=(List.getElem?_eq_some_iff.1 c).1;rw[List.length_take] at this;omega
     rw[List.getElem?_take_of_lt hk] at c;exact hx ⟨k,p,hk,by simpa using c,a⟩
    rw[uJ V t _ 0 a0 B,uJ g t _ 0 a0 B]
  obtain⟨s1,s2⟩:=yQ (ops:=ops) (fun cs b=>Region.noSelect_spec hp.Ae j _ cs b ho) E;unfold gm at f1 f2;cases ha:aI j with
  |none=>
   rw[ha] at f1 f2;simp only at f1 f2;cases hw:Region.wanted ops[j] (yielded ops (mF V (ops.toList.take j) 0 a0).tmps) with
   |true=>
    have r1:=f1.1 hw W hW (fun k A hk a o=>hR k A (by omega) (r k a) o);have r2:=f2.1 (by rw[<-s2];exact hw) W hW (fun k A hk a o=>by rw[D k (by omega) (r k a)];exact hR k A (by omega) (r k a) o);rw[<-s1,r1] at r2;injection r2 with r2
    injection r2 with r2
    exact r2.symm
   |false=>rw[f1.2 hw,f2.2 (by rw[<-s2];exact hw)]
  |some A=>
   rw[ha] at f1 f2;simp only at f1 f2;rw[f1.2.1,f2.2.1,D j h hl]
theorem CE {sz:Nat} {an:Nat->Bool} {tail:List (Nat×Nat)} {c:List Oper} (hp:vJ c.toArray n sz dp an tail fl kD) (I: ∀i,(aI i).isSome=an i) {a0:Act} (r:a0.tmps.size=sz) {W:World} (hW:au F0 w0 W) {X:Nat->α} {V:Nat->Value}
  (hV:Good P c.toArray (fun a W=>dA P c.toArray Q (fun _=>True) (fA c tail) a W) w0 F0 dp aI X V (c.take n) 0 a0) (hR: ∀j A,j<n->aI j=some A->A.R (X j) W) (J: ∀i j A B,i<n->j<n->i≠j->aI i=some A->aI j=some B->∀b,A.f (X i) b->¬B.f (X j) b):
  ∀(U:List Nat) (l:Array Bool) (b:Act),oC .any c.toArray l->(∀j∈U,j<n/\fl.contains j=true)->(∀j,j<n->l.getD j false=false->j∈U)->
   qw .any c.toArray kD (U.map (fun k=>(k,0))++tail) l=true->xU c.toArray n a0 l V b->dA P c.toArray Q (fun _=>True) (fA c (U.map (fun k=>(k,0))++tail)) b W:=by
 intro U
 induction U with
 |nil=>
  intro l b hd _ t _ hF;have q: ∀j,j<n->l.getD j false=true:=fun j d=>by
   cases h:l.getD j false with
   |true=>rfl
   |false=>cases t j d h
  have hb:=hF.all hp r q;have y:=hV.fin _ _ _ W hW (fun j A d ha=>hR j A (by simp at d;omega) ha) (fun i j A B hi d=>J i j A B (by simp at hi;omega) (by simp at d;omega));rw[hb];exact y
 |cons i U K=>
  intro l b hd w t p hF;simp only[List.map_cons,List.cons_append] at p⊢;simp only[qw,Bool.and_eq_true,decide_eq_true_eq,Bool.not_eq_true'] at p;obtain⟨⟨⟨⟨hi,_⟩,_⟩,_⟩,p⟩:=p;have hi:i∈Region.ready .any c.toArray l:=by simpa using hi
  obtain⟨g,z⟩:=w i (List.mem_cons_self);obtain⟨L,o,ho,q⟩:=mem_ready.1 hi;have C:c[i]?=some o:=by simpa using ho
  obtain⟨D,E⟩:=hp.flo i o g z ho;have N:=hp.closed hd i o ho q;have F:(c.take n)[i]?=some o:=by rw[List.getElem?_take_of_lt g];simpa using ho
  have fa:=hV.at _ _ _ i _ F;rw[Nat.zero_add,List.take_take,Nat.min_eq_left (Nat.le_of_lt g)] at fa;have x:=hF.look hp r g ho q;obtain⟨s1,s2⟩:=yQ (ops:=c.toArray) (fun cs b=>Region.noSelect_spec hp.Ae i _ cs b ho) x;have s1:execOp (mF V (c.take i) 0 a0).eval o=execOp b.eval o:=s1;have s2:Region.wanted o (yielded c.toArray (mF V (c.take i) 0 a0).tmps)=Region.wanted o (yielded c.toArray b.tmps):=s2;have ha:aI i=none:=by
   have:=I i;rw[E] at this;cases h:aI i with
   |none=>rfl
   |some A=>rw[h] at this;cases this
  unfold gm at fa;rw[ha] at fa;simp only at fa;have u:=K (l.setIfInBounds i true) (b.put o.dst (V i)) (hd.step hi) (fun j d=>w j (List.mem_cons_of_mem _ d)) (fun j d hl=>by
   by_cases e:i=j
   .subst e;exfalso;have G:i<l.size:=by rw[hd.size];exact(Array.getElem?_eq_some_iff.1 ho).1
    simp[G] at hl
   .rw [getD_set_ne false e] at hl;rcases List.mem_cons.1 (t j d hl) with h|h
    .exact absurd h.symm e
    .exact h) p (hF.step hp r g ho (fun _ _ _=>rfl))
  simp only[fA,C,dA];cases hw:Region.wanted o (yielded c.toArray b.tmps) with
  |true=>
   rw[if_pos rfl];have hr:=fa.1 (by rw[s2];exact hw) W hW (fun j A d M H=>hR j A (by omega) H);rw[s1] at hr;exact⟨V i,fun W' _=>NM D hr W',u⟩
  |false=>
   rw[if_neg (by simp)];have hv:=fa.2 (by rw[s2];exact hw);rw[<-hv];exact u
theorem BH {sz:Nat} {an:Nat->Bool} {tail:List (Nat×Nat)} {o:List Oper} (hp:vJ o.toArray n sz dp an tail fl kD) (t: ∀i,(aI i).isSome=an i)
  (hQ: ∀c a d v w,Q (.panic c) (Act.put a d v) w->Q (.panic c) a w) {a0:Act} (z:a0.tmps.size=sz) {f:Nat} {l:Array Bool} {b:Act} {W:World} {X:Nat->α} {V:Nat->Value} (hd:oC .any o.toArray l) (y: ∀j,n<=j->l.getD j false=false) (hW:au F0 w0 W)
  (hR: ∀j A,j<n->l.getD j false=true->aI j=some A->A.R (X j) W) (G: ∀i j A B,i<n->j<n->l.getD i false=true->l.getD j false=true->i≠j->aI i=some A->aI j=some B->∀b,A.f (X i) b->¬B.f (X j) b)
  (hV:Good P o.toArray (fun a W=>dA P o.toArray Q (fun _=>True) (fA o tail) a W) w0 F0 dp aI X V (o.take n) 0 a0)
  (hF:xU o.toArray n a0 l V b) (r: ∀j,j<n->fl.contains j=false->l.getD j false=true) (hf:xh n l+tail.length<=f):wpAny P .any o.toArray Q f l b W:=by
 have u: ∀j∈((List.range n).filter fun j=>!l.getD j false),j<n/\fl.contains j=true:=fun j g=>by
  obtain⟨h1,p⟩:=List.mem_filter.1 g;have h1:=List.mem_range.1 h1;refine⟨h1,?_⟩;cases hc:fl.contains j with
  |true=>rfl
  |false=>have:=r j h1 hc;rw[this] at p;cases p
 have C:((List.range n).filter fun j=>!l.getD j false)∈subs ((List.range n).filter fun j=>fl.contains j):=by
  have:=AP (fun j=>!l.getD j false) ((List.range n).filter fun j=>fl.contains j);rw[List.filter_filter] at this;have e:((List.range n).filter fun j=>!l.getD j false)=((List.range n).filter fun j=>(!l.getD j false)&&fl.contains j):=by
   apply List.filter_congr;intro j g;cases hl:l.getD j false with
   |true=>rfl
   |false=>
    have:=u j (List.mem_filter.2 ⟨g,by rw[hl];rfl⟩);rw[this.2];rfl
  rw[e];exact this
 have hm:=hp.mix _ C;have hl:l=Array.ofFn (n:=o.toArray.size) fun j=>decide (j.val<n)&&!((List.range n).filter fun j=>!l.getD j false).contains j.val:=by
  apply Array.ext
  .simp [hd.size]
  .intro j h1 p;rw[Array.getElem_ofFn];have x:l.getD j false=l[j]:=by rw[Array.getD_eq_getD_getElem?,Array.getElem?_eq_getElem h1];rfl
   by_cases g:j<n
   .simp only [g,decide_true,Bool.true_and];rw[<-x];cases h:l.getD j false with
    |true=>simp[h,-Array.getD_eq_getD_getElem?]
    |false=>simp[h,g,-Array.getD_eq_getD_getElem?]
   .have:=y j (by omega);rw[<-x,this];simp[g]
 rw[<-hl] at hm;have hlen:(((List.range n).filter fun j=>!l.getD j false).map (fun k=>(k,0))++tail).length<=f:=by
  rw[List.length_append,List.length_map];exact hf
 have q: ∀j A,j<n->aI j=some A->l.getD j false=true:=fun j A g ha=>by
  refine r j g ?_;cases hc:fl.contains j with
  |false=>rfl
  |true=>
   have D:j<o.toArray.size:=aP g hp.le;have:=(hp.flo j _ g hc (Array.getElem?_eq_getElem D)).2;rw[<-t,ha] at this;cases this
 have E: ∀j A,j<n->aI j=some A->A.R (X j) W:=fun j A g ha=>hR j A g (q j A g ha) ha;have F: ∀i j A B,i<n->j<n->i≠j->aI i=some A->aI j=some B->∀b,A.f (X i) b->¬B.f (X j) b:=fun i j A B hi g hne ha hb=>G i j A B hi g (q i A hi ha) (q j B g hb) hne ha hb;have p:=CE (Q:=Q) hp t z hW hV E F _ l b hd u (fun j g h=>List.mem_filter.2 ⟨List.mem_range.2 g,by rw[h];rfl⟩) hm hF;have H:=yz (P:=P) (S:=fun _=>True) (n:=kD) hp.Ae hp.sink hQ _ l b W hd (.inl trivial) hm p;exact Qk hlen (tY _ _ _ _ H)
def acr (F0:Nat->Prop) (aI:Nat->Option (dG α)):Prop:=(∀i A j B,aI i=some A->aI j=some B->i≠j->∀k,A.D k->B.N k)/\(∀i A,aI i=some A->∀k,A.D k->F0 k)
theorem EY {sz:Nat} {an:Nat->Bool} {tail:List (Nat×Nat)} {q:List Oper} [Inhabited α] (hp:vJ q.toArray n sz dp an tail fl kD) (ab: ∀i,(aI i).isSome=an i) (T:acr F0 aI)
  (hQ: ∀c a d v w,Q (.panic c) (Act.put a d v) w->Q (.panic c) a w) {a0:Act} (u:a0.tmps.size=sz)
  (hC:Can P q.toArray (fun a W=>dA P q.toArray Q (fun _=>True) (fA q tail) a W) w0 F0 dp aI (q.take n) 0 [] a0):
  ∀(f:Nat) (l:Array Bool) (b:Act) (W:World) (X:Nat->α) (V:Nat->Value),oC .any q.toArray l->(∀j,n<=j->l.getD j false=false)->au F0 w0 W->
   (∀j A,j<n->l.getD j false=true->aI j=some A->A.R (X j) W)->
   (∀i j A B,i<n->j<n->l.getD i false=true->l.getD j false=true->i≠j->aI i=some A->aI j=some B->∀b,A.f (X i) b->¬B.f (X j) b)->
   (∀j A,j<n->l.getD j false=false->aI j=some A->A.pre W)->
   Good P q.toArray (fun a W=>dA P q.toArray Q (fun _=>True) (fA q tail) a W) w0 F0 dp aI X V (q.take n) 0 a0->
   xU q.toArray n a0 l V b->xh n l+tail.length<=f->wpAny P .any q.toArray Q f l b W:=by
 intro f
 induction f with
 |zero=>
  intro l b W X V hd J hW hR G M hV hF hf;have N:xh n l=0:=by omega
  have L:=NP N;exact BH hp ab hQ u hd J hW hR G hV hF (fun j p _=>L j p) hf
 |succ f ad=>
  intro l b W X V hd J hW hR G M hV hF hf;by_cases N: ∀j,j<n->fl.contains j=false->l.getD j false=true
  .exact BH hp ab hQ u hd J hW hR G hV hF N hf
  .have ax: ∃j,j<n/\fl.contains j=false/\l.getD j false=false:=by
    by_cases h: ∃j,j<n/\fl.contains j=false/\l.getD j false=false
    .exact h
    .exfalso;apply N;intro j p U;cases hl:l.getD j false with
     |true=>rfl
     |false=>exact absurd ⟨j,p,U,hl⟩ h
   refine⟨fun hr=>?_,fun i hi=>?_⟩
   .exfalso;obtain⟨ay,aF,_,aG⟩:=ax;have aE: ∀k,∀j,j<=k->j<n->l.getD j false=false->False:=by
     intro k
     induction k using Nat.strongRecOn with
     |_ k aH=>
      intro j aR p hl;have ai:j<q.toArray.size:=aP p hp.le;have ho:q.toArray[j]?=some q.toArray[j]:=Array.getElem?_eq_getElem ai;have az:j∈Region.ready .any q.toArray l:=by
       rw[mem_ready];refine⟨L6 (by rw[hd.size];exact ai) hl,_,ho,fun e he hb=>?_⟩;have aS:=hp.lt j _ p ho e he hb;cases h:l.getD e.on false with
       |true=>rfl
       |false=>exact(aH e.on (by omega) e.on (Nat.le_refl _) (by omega) h).elim
      rw[hr] at az;cases az
    exact aE ay ay (Nat.le_refl _) aF aG
   .obtain ⟨Y,o,ho,L⟩:=mem_ready.1 hi;have aj:i<q.toArray.size:=(Array.getElem?_eq_some_iff.1 ho).1;have ae:=hp.closed hd i o ho L;have t:i<n:=by
     rcases Nat.lt_or_ge i n with h|h
     .exact h
     .exfalso;obtain⟨j,p,U,hl⟩:=ax;have:=ae j (hp.rest i j h aj p U);rw[hl] at this;cases this
    have ak:(q.take n)[i]?=some o:=by rw[List.getElem?_take_of_lt t];simpa using ho
    have fa:=hV.at _ _ _ i _ ak;rw[Nat.zero_add,List.take_take,Nat.min_eq_left (Nat.le_of_lt t)] at fa;have aC:=hF.look hp u t ho L;obtain⟨s1,s2⟩:=yQ (ops:=q.toArray) (fun cs b=>Region.noSelect_spec hp.Ae i _ cs b ho) aC;have s1:execOp (mF V (q.take i) 0 a0).eval o=execOp b.eval o:=s1;have s2:Region.wanted o (yielded q.toArray (mF V (q.take i) 0 a0).tmps)=Region.wanted o (yielded q.toArray b.tmps):=s2;have af: ∀j,n<=j->(l.setIfInBounds i true).getD j false=false:=fun j p=>by rw[getD_set_ne false (by omega)];exact J j p
    have aT:=NQ t Y;unfold wpOp;rw[ho];simp only;unfold gm at fa;cases ha:aI i with
    |none=>
     rw[ha] at fa;simp only at fa;have al: ∀W',au (fun _=>False) W W'->∀j A,j<n->(l.setIfInBounds i true).getD j false=true->aI j=some A->A.R (X j) W':=fun W' aJ j A p hl r=>by
      by_cases e:j=i
      .subst e;rw[ha] at r;cases r
      .rw [getD_set_ne false (Ne.symm e)] at hl;exact A.st _ _ _ _ (hR j A p hl r) aJ (fun _ h=>h.elim)
     have ao: ∀i' j A B,i'<n->j<n->(l.setIfInBounds i true).getD i' false=true->(l.setIfInBounds i true).getD j false=true->i'≠j->aI i'=some A->aI j=some B->∀b,A.f (X i') b->¬B.f (X j) b:=fun i' j A B O p E F hne h1 y=>by
      have z:i'≠i:=fun e=>by subst e;rw[ha] at h1;cases h1
      have C:j≠i:=fun e=>by subst e;rw[ha] at y;cases y
      rw[getD_set_ne false (Ne.symm z)] at E;rw[getD_set_ne false (Ne.symm C)] at F;exact G i' j A B O p E F hne h1 y
     have aq: ∀j A,j<n->(l.setIfInBounds i true).getD j false=false->aI j=some A->A.pre W:=fun j A p hl r=>by
      have e:j≠i:=fun e=>by subst e;rw[ha] at r;cases r
      rw[getD_set_ne false (Ne.symm e)] at hl;exact M j A p hl r
     cases hw:Region.wanted o (yielded q.toArray b.tmps) with
     |true=>
      rw[if_pos rfl];refine .inl ?_;have hr:=fa.1 (by rw[s2];exact hw) W hW (fun j A p Z r=>hR j A (by omega) (ae j Z) r);rw[s1] at hr;unfold Oper.wp;rw[hr];exact ad _ _ _ X V (hd.step hi) af hW (al W (au.refl _ _)) ao aq hV (hF.step hp u t ho (fun _ _ _=>rfl)) (by omega)
     |false=>
      rw[if_neg (by simp)];have hv:=fa.2 (by rw[s2];exact hw);rw[<-hv];exact ad _ _ _ X V (hd.step hi) af hW (al W (au.refl _ _)) ao aq hV (hF.step hp u t ho (fun _ _ _=>rfl)) (by omega)
    |some A=>
     rw[ha] at fa;simp only at fa;obtain⟨hw,aU,hm⟩:=fa;rw[s2] at hw;rw[if_pos hw];refine .inl ?_;obtain⟨d,hdd⟩:=hp.some_ i o t ho (by rw[<-ab,ha];rfl);have ar:=hp.dst i o d t ho hdd;have av:=CJ V (q.take i) 0 a0;refine Ih (K:=fun a' W'=>a'.defers=(mF V (q.take i) 0 a0).defers/\∃x,a'.tmps[d]?=some (A.val x)/\au A.D W W'/\A.R x W'/\∀k,A.f x k->W.heap.size<=k) s1 (fun v W' hK=>?_) (fun _ _ h=>h.1) (hm W hW (fun j B p Z r=>hR j B (by omega) (ae j Z) r) (M i A t (rF Y) ha) _ (fun x W' H ag S=>⟨sZ _ _ _,x,by rw[hdd];exact put_eq _ _ _ (by rw[av.1,u];exact ar),H,ag,S⟩));obtain⟨_,x,hx,H,ag,S⟩:=hK;rw[hdd,put_eq _ _ _ (by rw[av.1,u];exact ar)] at hx;have aL:v=A.val x:=Option.some.inj hx;obtain⟨aM,aa⟩:=jm (fun j=>if j=i then x else X j) _ _ _ _ hC (fun g aN=>by cases aN) List.Pairwise.nil;have hne: ∀j,l.getD j false=true->j≠i:=fun j hl e=>by subst e;rw[rF Y] at hl;cases hl
     have aA: ∀j B,j<n->l.getD j false=true->aI j=some B->B.R (X j) W':=fun j B p hl r=>B.st _ _ _ _ (hR j B p hl r) H (T.1 i A j B ha r (fun e=>hne j hl e.symm));have aB:au F0 w0 W':=hW.trans (H.mono (fun k _ h=>T.2 i A ha k h));have aD:=Good.same hp hd u hV aa (fun j p hl=>if_neg (hne j hl)) aB aA;have I:=aa.at _ _ _ i _ ak;rw[Nat.zero_add] at I;unfold gm at I;rw[ha] at I;simp only[if_true] at I;rw[aL,<-I.2.1];refine ad _ _ _ (fun j=>if j=i then x else X j) aM (hd.step hi) af aB (fun j B p hl r=>?_) (fun i' j ah B O p E F aw h1 y b z C=>?_) (fun j B p hl r=>?_) aa (hF.step hp u t ho aD) (by omega)
     .by_cases e:j=i
      .subst e;rw[ha] at r;obtain rfl:=Option.some.inj r;simp only[if_true];exact ag
      rw[getD_set_ne false (Ne.symm e)] at hl;simp only[if_neg e];exact aA j B p hl r
     by_cases c1:i'=i
     .subst c1;have c2: ¬j=i':=fun e=>aw e.symm;rw[ha] at h1;obtain rfl:=Option.some.inj h1;simp only[if_true] at z;simp only[if_neg c2] at C;rw[getD_set_ne false (fun e=>c2 e.symm)] at F;have aO:=S b z;have aQ:=B.lt _ _ b (hR j B p F y) C;omega
     .by_cases c2:j=i
      .subst c2;rw[ha] at y;obtain rfl:=Option.some.inj y;simp only[if_true] at C;simp only[if_neg c1] at z;rw[getD_set_ne false (fun e=>c1 e.symm)] at E;have aO:=S b C;have aQ:=ah.lt _ _ b (hR i' ah O E h1) z;omega
      .simp only [if_neg c1] at z;simp only[if_neg c2] at C;rw[getD_set_ne false (fun e=>c1 e.symm)] at E;rw[getD_set_ne false (fun e=>c2 e.symm)] at F;exact G i' j ah B O p E F aw h1 y b z C
     .have aK:i<l.size:=by rw[hd.size];exact aj
      have e:j≠i:=fun e=>by subst e;simp[aK] at hl
      rw[getD_set_ne false (Ne.symm e)] at hl;exact B.pst _ _ _ (M j B p hl r) H (T.1 i A j B ha r (Ne.symm e))
theorem dw {id:Nat} {a:Act} {w:World} {b:List Oper} [Inhabited α] (F0:Nat->Prop) (n:Nat) (fl:List Nat) (kD:Nat) (tail:List (Nat×Nat)) (k:List (List Nat)) (e:List (Option (dG α))) (l:List Bool) (hm:P.follows .mixedOrders=true)
  (r:GN b.toArray n a.tmps.size (fun i=>k.getD i []) (fun i=>l.getD i false) fl kD tail=true) (t:e.map (·.isSome)=l)
  (hQ: ∀c a d v w,Q (.panic c) (Act.put a d v) w->Q (.panic c) a w) (o:acr F0 (fun i=>e.getD i none)) (p: ∀i A,e.getD i none=some A->A.pre w)
  (h:Can P b.toArray (fun a W=>dA P b.toArray Q (fun _=>True) (fA b tail) a W) w F0 (fun i=>k.getD i []) (fun i=>e.getD i none) (b.take n) 0 [] a):(Code.region id b.toArray true).wp P Q a w:=by
 have hp:=Us r;refine wp_region_any hm ?_;have hW:au F0 w {w with drawn:=w.drawn+1}:=⟨rfl,rfl,rfl,Nat.le_refl _,fun _ _ _=>rfl⟩
 obtain⟨V,hV⟩:=jm (fun _=>default) _ _ _ _ h (fun g u=>by cases u) List.Pairwise.nil;have hf: ∀j,(Array.replicate b.toArray.size false).getD j false=false:=fun j=>by
  rcases Nat.lt_or_ge j b.length with h|h<;>simp[h]
 refine EY hp (fun i=>?_) o hQ rfl h _ _ _ _ _ V oC.start (fun j _=>hf j) hW (fun j A _ hl=>by rw[hf] at hl;cases hl) (fun i j A B _ _ hl=>by rw[hf] at hl;cases hl) (fun j A _ _ q=>A.pst _ _ (fun _=>False) (p j A q) ⟨rfl,rfl,rfl,Nat.le_refl _,fun _ _ _=>rfl⟩ (fun _ h=>h.elim)) hV xU.start ?_
 .rw [<-t];simp only[List.getD_eq_getElem?_getD,List.getElem?_map];cases e[i]?<;>rfl
 .have h1:xh n (Array.replicate b.toArray.size false)<=n:=by
   unfold xh;exact Nat.le_trans (List.length_filter_le _ _) (by simp)
  have:=hp.len;omega
theorem o8 {o:Oper} {r:List Oper} {i:Nat} {G:List qH} {a:Act} (ha:aI i=none)
  (h: ∀K:Act->Prop,(∀a,Can P ops Qt w0 F0 dp aI r (i+1) G a->K a)->if Region.wanted o (yielded ops a.tmps) then ∃v,(∀W,au F0 w0 W->(∀g∈G,g.1∈dp i->g.2.2 W)->(execOp a.eval o).run P W= .ok (.value v) W)/\K (a.put o.dst v) else K (a.put o.dst undef)):
  Can P ops Qt w0 F0 dp aI (o::r) i G a:=by
 unfold Can;rw[ha];exact h _ (fun _ h=>h)
theorem aQ {o:Oper} {r:List Oper} {i:Nat} {G:List qH} {a:Act} (A:dG α) (ha:aI i=some A) (hw:Region.wanted o (yielded ops a.tmps)=true)
  (h1: ∀W,au F0 w0 W->(∀g∈G,g.1∈dp i->g.2.2 W)->A.pre W->∀K:Act->World->Prop,(∀x W',au A.D W W'->A.R x W'->(∀k,A.f x k->W.heap.size<=k)->K (a.put o.dst (A.val x)) W')->o.wp P a W K (fun _ _ _=>False))
  (b: ∀K:Act->Prop,∀x,(∀a,Can P ops Qt w0 F0 dp aI r (i+1) (G++[(i,A.f x,A.R x)]) a->K a)->K (a.put o.dst (A.val x))):
  Can P ops Qt w0 F0 dp aI (o::r) i G a:=by
 unfold Can;rw[ha];exact⟨hw,h1,fun x=>b _ x (fun _ h=>h)⟩
theorem jg {i:Nat} {G:List qH} {a:Act} (h: ∀W,au F0 w0 W->(∀g∈G,g.2.2 W)->vH G->Qt a W):Can P ops Qt w0 F0 dp aI [] i G a:=h
theorem bf {o:Oper} {r:List Oper} {i:Nat} {G:List qH} {a:Act} (ha:aI i=none)
  (h: ∀K:Act->Prop,(∀a,Can P ops Qt w0 F0 dp aI r (i+1) G a->K a)->if Region.wanted o (yielded ops a.tmps) then ∃v,(∀x:XF F0 w0,(execOp a.eval o).run P x.val= .ok (.value v) x.val)/\K (a.put o.dst v) else K (a.put o.dst undef)):
  Can P ops Qt w0 F0 dp aI (o::r) i G a:=by
 refine o8 ha fun K hK=>?_;have b:=h K hK;by_cases hw:Region.wanted o (yielded ops a.tmps)=true
 .rw [if_pos hw] at b⊢;obtain⟨v,hv,c⟩:=b;exact⟨v,fun W hW _=>hv ⟨W,hW⟩,c⟩
 .rw [if_neg hw] at b⊢;exact b
end
end
end Go.Hw.PI
namespace Go.Hw
open Go.RowKit
section
section
variable {P:Program} {ops:Array Oper} {Q:Exit->Act->World->Prop} {α:Type} {w0:World} {Qt:Act->World->Prop} {dp:Nat->List Nat} {n:Nat} {md:Region.Mode} {fl:List Nat} {kD:Nat}
structure dG (α:Type) where
 val:α->Value
 R:α->World->Prop
 st: ∀x W W',R x W->Ext W W'->R x W'
variable {aI:Nat->Option (dG α)}
def dG.i (A:dG α):PI.dG α:=⟨A.val,A.R,fun _=>False,fun _=>False,fun x W W' _ h a hF=>A.st x W W' h (a.mono fun k _ e=>hF k e),fun _=>True,fun _ _ _ _ _ _=>trivial,fun _ _=>False,fun _ _ _ _ h=>h.elim⟩
def gI (G:List (Nat×(World->Prop))):List PI.qH:=G.map fun g=>(g.1,fun _=>False,g.2)
def Can (P:Program) (ops:Array Oper) (Qt:Act->World->Prop) (w0:World) (dp:Nat->List Nat) (aI:Nat->Option (dG α)) (r:List Oper) (i:Nat) (G:List (Nat×(World->Prop))) (a:Act):Prop:=
 PI.Can P ops Qt w0 (fun _=>False) dp (fun i=>(aI i).map dG.i) r i (gI G) a
theorem dw {id:Nat} {a:Act} {w:World} {g:List Oper} [Inhabited α] (n:Nat) (fl:List Nat) (kD:Nat) (tail:List (Nat×Nat)) (l:List (List Nat)) (b:List (Option (dG α))) (o:List Bool) (hm:P.follows .mixedOrders=true)
  (q:GN g.toArray n a.tmps.size (fun i=>l.getD i []) (fun i=>o.getD i false) fl kD tail=true) (r:b.map (·.isSome)=o)
  (hQ: ∀c a d v w,Q (.panic c) (Act.put a d v) w->Q (.panic c) a w)
  (h:Can P g.toArray (fun a W=>dA P g.toArray Q (fun _=>True) (fA g tail) a W) w (fun i=>l.getD i []) (fun i=>b.getD i none) (g.take n) 0 [] a):(Code.region id g.toArray true).wp P Q a w:=by
 have e:(fun i=>(b.map (·.map dG.i)).getD i none)=fun i=>(b.getD i none).map dG.i:=by
  funext i;simp only[List.getD_eq_getElem?_getD,List.getElem?_map];cases b[i]?<;>rfl
 have hA: ∀i A,(b.map (·.map dG.i)).getD i none=some A->∃B:dG α,A=B.i:=fun i A h=>by
  rw[show(b.map (·.map dG.i)).getD i none=(b.getD i none).map dG.i from congrFun e i] at h;cases p:b.getD i none with
  |none=>rw[p] at h;cases h
  |some B=>rw[p] at h;exact⟨B,(Option.some.inj h).symm⟩
 refine PI.dw (fun _=>False) n fl kD tail l (b.map (·.map dG.i)) o hm q (by rw[<-r,List.map_map];refine List.map_congr_left fun x _=>?_;cases x<;>rfl) hQ ⟨fun i A j B h _ _ k hk=>?_,fun i A h k hk=>?_⟩ (fun i A h=>?_) (by rw[e];exact h)
 .obtain ⟨B,rfl⟩:=hA i A h;exact hk.elim
 .obtain ⟨B,rfl⟩:=hA i A h;exact hk
 .obtain ⟨B,rfl⟩:=hA i A h;trivial
theorem o8 {o:Oper} {r:List Oper} {i:Nat} {G:List (Nat×(World->Prop))} {a:Act} (ha:aI i=none)
  (h: ∀K:Act->Prop,(∀a,Can P ops Qt w0 dp aI r (i+1) G a->K a)->if Region.wanted o (yielded ops a.tmps) then ∃v,(∀W,Ext w0 W->(∀g∈G,g.1∈dp i->g.2 W)->(execOp a.eval o).run P W= .ok (.value v) W)/\K (a.put o.dst v) else K (a.put o.dst undef)):
  Can P ops Qt w0 dp aI (o::r) i G a:=by
 refine PI.o8 (by simp only[ha];rfl) fun K hK=>?_;have b:=h K hK;by_cases hw:Region.wanted o (yielded ops a.tmps)=true
 .rw [if_pos hw] at b⊢;obtain⟨v,hv,c⟩:=b;exact⟨v,fun W hW d=>hv W hW (fun g e hd=>d _ (List.mem_map_of_mem e) hd),c⟩
 .rw [if_neg hw] at b⊢;exact b
theorem aQ {o:Oper} {r:List Oper} {i:Nat} {G:List (Nat×(World->Prop))} {a:Act} (A:dG α) (ha:aI i=some A) (hw:Region.wanted o (yielded ops a.tmps)=true)
  (h1: ∀W,Ext w0 W->(∀g∈G,g.1∈dp i->g.2 W)->∀K:Act->World->Prop,(∀x W',Ext W W'->A.R x W'->K (a.put o.dst (A.val x)) W')->o.wp P a W K (fun _ _ _=>False))
  (b: ∀K:Act->Prop,∀x,(∀a,Can P ops Qt w0 dp aI r (i+1) (G++[(i,A.R x)]) a->K a)->K (a.put o.dst (A.val x))):
  Can P ops Qt w0 dp aI (o::r) i G a:=PI.aQ A.i (by simp only[ha];rfl) hw (fun W hW c _ K hK=>h1 W hW (fun g d hd=>c _ (List.mem_map_of_mem d) hd) K (fun x W' e hR=>hK x W' e hR (fun _ h=>h.elim))) (fun K x hK=>b K x (fun a h=>hK a (by have h':PI.Can P ops Qt w0 (fun _=>False) dp (fun i=>(aI i).map dG.i) r (i+1) (gI (G++[(i,A.R x)])) a:=h;unfold gI at h';rw[List.map_append] at h';exact h')))
theorem jg {i:Nat} {G:List (Nat×(World->Prop))} {a:Act} (h: ∀W,Ext w0 W->(∀g∈G,g.2 W)->Qt a W):Can P ops Qt w0 dp aI [] i G a:=PI.jg fun W hW b _=>h W hW fun g c=>b _ (List.mem_map_of_mem c)
theorem bf {o:Oper} {r:List Oper} {i:Nat} {G:List (Nat×(World->Prop))} {a:Act} (ha:aI i=none)
  (h: ∀K:Act->Prop,(∀a,Can P ops Qt w0 dp aI r (i+1) G a->K a)->if Region.wanted o (yielded ops a.tmps) then ∃v,(∀x:XW w0,(execOp a.eval o).run P x.val= .ok (.value v) x.val)/\K (a.put o.dst v) else K (a.put o.dst undef)):
  Can P ops Qt w0 dp aI (o::r) i G a:=by
 refine o8 ha fun K hK=>?_;have b:=h K hK;by_cases hw:Region.wanted o (yielded ops a.tmps)=true
 .rw [if_pos hw] at b⊢;obtain⟨v,hv,c⟩:=b;exact⟨v,fun W hW _=>hv ⟨W,hW⟩,c⟩
 .rw [if_neg hw] at b⊢;exact b
end
end
end Go.Hw
