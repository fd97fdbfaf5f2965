/- The texts L1 TP TM RW TF TV TC TK L2 MP TW L3 L4S L10 L4, one behind the other. -/
import Derived.WalkKit
import Derived.WalkSpells
import Derived.Lib.Hide
import Derived.BigQuiet
import Derived.Deep.QuietTactic
import Derived.Deep.LoopGhost
import Derived.StillTailTactics
import Derived.RangeFuncRecord
import Derived.RangeFuncKeeps
import Derived.MapKept
import Derived.WideKeyRuns
import Derived.OrdersHeld
import Derived.StillTail
set_option linter.unusedVariables false
set_option linter.unusedSimpArgs false
namespace Go.Hw
open Go.RowKit
section
structure aj (F:Nat->Prop) (w w':World):Prop where
 os:w'.os=w.os
 tape:w'.tape=w.tape
 output:w'.output=w.output
 size:w.heap.size<=w'.heap.size
 block: ∀k,k<w.heap.size->¬F k->w'.heap[k]?=w.heap[k]?
abbrev Ext (w w':World):Prop:=aj (fun _=>False) w w'
theorem aj.refl (F:Nat->Prop) (w:World):aj F w w:=⟨rfl,rfl,rfl,Nat.le_refl _,fun _ _ _=>rfl⟩
theorem aj.trans {F:Nat->Prop} {a b c:World} (h:aj F a b) (k:aj F b c):aj F a c:=
 ⟨k.os.trans h.os,k.tape.trans h.tape,k.output.trans h.output,Nat.le_trans h.size k.size,
  fun i hi hf=>(k.block i (Nat.lt_of_lt_of_le hi h.size) hf).trans (h.block i hi hf)⟩
theorem aj.mono {F G:Nat->Prop} {a b:World} (h:aj F a b) (hFG: ∀k,k<a.heap.size->F k->G k):aj G a b:=
 ⟨h.os,h.tape,h.output,h.size,fun i hi hf=>h.block i hi (fun x=>hf (hFG i hi x))⟩
theorem aj.trans' {F G:Nat->Prop} {a b c:World} (h:aj F a b) (k:aj G b c) (hs: ∀i,i<a.heap.size->G i->F i):aj F a c:=
 ⟨k.os.trans h.os,k.tape.trans h.tape,k.output.trans h.output,Nat.le_trans h.size k.size,
  fun i hi hf=>(k.block i (Nat.lt_of_lt_of_le hi h.size) (fun g=>hf (hs i hi g))).trans (h.block i hi hf)⟩
theorem aj.ext {F:Nat->Prop} {a b c:World} (h:aj F a b) (k:Ext b c):aj F a c:=h.trans' k (fun _ _ x=>x.elim)
theorem aj.drew {F:Nat->Prop} {a w:World} (h:aj F a w):aj F a w.drew:=⟨h.os,h.tape,h.output,h.size,h.block⟩
theorem aj.Dt {F:Nat->Prop} {w w':World} (h:aj F w.drew w'):aj F w w':=⟨h.os,h.tape,h.output,h.size,h.block⟩
theorem aj.drewN' {F:Nat->Prop} {a w:World} (h:aj F a w) (n:Nat):aj F a (w.drewN n):=⟨h.os,h.tape,h.output,h.size,h.block⟩
theorem aj.alloc {F:Nat->Prop} {a w:World} (h:aj F a w) (o:Obj):aj F a (w.alloc o):=
 h.trans ⟨rfl,rfl,rfl,by simp,fun k hk _=>Below.heap_alloc _ _ _ hk⟩
theorem aj.setCell {F:Nat->Prop} {a w:World} (h:aj F a w) {p:Addr} (hp:F p.block\/a.heap.size<=p.block) (u:Value):aj F a (w.setCell p u):=
 ⟨h.os,h.tape,h.output,by simpa[World.setCell] using h.size,fun k hk hf=>by
  rw[Below.heap_setCell _ _ _ _ (by intro e;subst e;rcases hp with hp|hp;exact hf hp;omega)];exact h.block k hk hf⟩
theorem aj.jI {w w':World} {row:Option Nat} (h:w.grownBy w' row):aj (fun k=>some k=row) w w':=
 ⟨h.os,h.tape,h.output,h.size,fun k hk hf=>h.block k hk hf⟩
theorem aj.cell {F:Nat->Prop} {w w':World} (h:aj F w w') {p:Addr} {v:Value} (hc:w.cell? p=some v) (hp: ¬F p.block):w'.cell? p=some v:=
 (World.cell?_of_block (w:=w) (h.block p.block (World.block_lt_of_cell? w p hc) hp)).trans hc
theorem Ext.below {w w':World} (h:Ext w w'):Below w.heap.size w w':=⟨h.os,h.tape,h.output,h.size,fun k hk=>h.block k hk (fun x=>x)⟩
theorem aj.heap {F:Nat->Prop} {w w':World} (h:aj F w w') {b:Nat} {o:Obj} (hb:w.heap[b]?=some o) (hF: ¬F b):w'.heap[b]?=some o:=
 (h.block b (Array.getElem?_eq_some_iff.1 hb).1 hF).trans hb
theorem af {w:World} {b:Nat} {cs:Array Value} {t:TypeId} (h:w.heap[b]?=some (.cells cs t (0,0))) (i:Nat) (v:Value) (hv:cs[i]?=some v):w.cell? ⟨b,i,none⟩=some v:=by
 rw[cell_of_row w b i cs t _ h,hv]
theorem au {w:World} {b:Nat} {cs:Array Value} {t:TypeId} (h:w.heap[b]?=some (.cells cs t (0,0))) (i:Nat):w.frozen? ⟨b,i,none⟩=false:=frozen_of_row w b i cs t h
def Stop (p:Prop):Prop:=p
theorem Stop.go {p:Prop} (h:p):Stop p:=h
theorem zT {P:Program} {ops:Array Oper} {Q:Exit->Act->World->Prop} {rest:List Oper} {a:Act} {w:World} {o:Oper}
  (h:Stop (wpList P ops Q (o::rest) a w)):wpList P ops Q (o::rest) a w:=h
theorem ai (w:World) (o:Obj):(w.alloc o).heap[w.heap.size]?=some o:=by
 show(w.heap.push o)[w.heap.size]?=some o;simp
theorem alloc_at (w:World) (o:Obj) {n:Nat} (h:n=w.heap.size):(w.alloc o).heap[n]?=some o:=by subst h;exact ai w o
theorem ak {w:World} {k:Nat} {x:Obj} (h:w.heap[k]?=some x) (o:Obj):(w.alloc o).heap[k]?=some x:=by
 rw[Below.heap_alloc _ _ _ (Array.getElem?_eq_some_iff.1 h).1];exact h
def az (S:Nat->Prop) (w:World) (size:Nat) (v:Value) (n:Nat) (cs:List Value):Prop:=
 cs.length=n*size/\
 ((v= .slice none 0 0/\n=0)\/
  ∃ad cap,v= .slice (some ad) n cap/\n<=cap/\(0<n->ad.spot=none/\S ad.block)/\∀j,j<n*size->w.cell? ⟨ad.block,ad.off+j,none⟩=cs[j]?)
section
variable {S T F:Nat->Prop} {w w':World} {size:Nat} {v:Value} {n:Nat} {cs:List Value}
theorem az.nil (S:Nat->Prop) (w:World) (size:Nat):az S w size (.slice none 0 0) 0 []:=⟨by simp,.inl ⟨rfl,rfl⟩⟩
theorem az.mk' {g off cap:Nat} (hl:cs.length=n*size) (hv:v= .slice (some ⟨g,off,none⟩) n cap) (hc:n<=cap) (hS:0<n->S g) (hj: ∀j,j<n*size->w.cell? ⟨g,off+j,none⟩=cs[j]?):
  az S w size v n cs:=⟨hl,.inr ⟨_,cap,hv,hc,fun h=>⟨rfl,hS h⟩,hj⟩⟩
theorem az.weaken (h:az S w size v n cs) (hs: ∀k,S k->T k):az T w size v n cs:=by
 refine⟨h.1,?_⟩;rcases h.2 with h|⟨ad,cap,hv,hc,hg,hj⟩
 .exact .inl h
 .exact .inr ⟨ad,cap,hv,hc,fun h=>⟨(hg h).1,hs _ (hg h).2⟩,hj⟩
theorem rE {n j size:Nat} (h:j<n*size):0<n:=by
 cases n with
 |zero=>simp at h
 |succ n=>omega
theorem az.kept (h:az S w size v n cs) (hu:aj F w w') (hF: ∀k,S k->¬F k):az S w' size v n cs:=by
 refine⟨h.1,?_⟩;rcases h.2 with h2|⟨ad,cap,hv,hc,hg,hj⟩
 .exact .inl h2
 .refine .inr ⟨ad,cap,hv,hc,hg,fun j hj'=>?_⟩;have h1:=hj j hj';rw[List.getElem?_eq_getElem (by rw[h.1];exact hj')] at h1⊢;exact hu.cell h1 (hF _ (hg (rE hj')).2)
theorem az.drewN (h:az S w size v n cs) (k:Nat):az S (w.drewN k) size v n cs:=h
theorem az.shape (h:az S w size v n cs): ∃a cap,v= .slice a n cap:=by
 rcases h.2 with⟨h1,h2⟩|⟨ad,cap,hv,_⟩
 .exact ⟨none,0,by rw[h1,h2]⟩
 .exact ⟨_,_,hv⟩
theorem az.pos (h:az S w size v n cs) (hn:0<n): ∃g off cap,v= .slice (some ⟨g,off,none⟩) n cap/\n<=cap/\S g/\∀j,j<n*size->w.cell? ⟨g,off+j,none⟩=cs[j]?:=by
 rcases h.2 with⟨h1,h2⟩|⟨ad,cap,hv,hc,hg,hj⟩
 .omega
 .obtain ⟨g,off,spot⟩:=ad;obtain⟨h1,h2⟩:=hg hn;simp only at h1;subst h1;exact⟨g,off,cap,hv,hc,h2,hj⟩
theorem az.iV {base e:Nat} (h:w.ownsRow base e size v n cs):az (fun k=>v.ownBlock=Option.some k) w size v n cs:=by
 refine⟨h.1,?_⟩;rcases h.2 with h2|⟨g,cap,cur,rfl,hb,hg,hc,hm,hs,ht⟩
 .exact .inl h2
 .refine .inr ⟨⟨g,0,Option.none⟩,cap,rfl,hc,fun _=>⟨rfl,rfl⟩,fun j hj=>?_⟩;rw[Nat.zero_add];exact World.ownsRow.cellAt h j hj
theorem df {base e:Nat} (h:w.ownsRow base e size v n cs) (hu:aj F w w') (hF: ∀k,v.ownBlock=Option.some k->¬F k):w'.ownsRow base e size v n cs:=by
 refine⟨h.1,?_⟩;rcases h.2 with h2|⟨g,cap,cur,rfl,hb,hg,rest⟩
 .exact .inl h2
 .exact .inr ⟨g,cap,cur,rfl,hb,hu.heap hg (hF g rfl),rest⟩
theorem bJ {base e:Nat} (h:w.ownsRow base e size v n cs): ∃a cap,v= .slice a n cap:=(az.iV h).shape
theorem az.to (h:az S w size v n cs) {a:Option Addr} {m cap:Nat} (hv:v= .slice a m cap) (k:Nat) (hk:k<=n):
  az S w size (.slice a k cap) k (cs.take (k*size)):=by
 have hle:k*size<=n*size:=Nat.mul_le_mul_right _ hk;refine⟨by rw[List.length_take,h.1];omega,?_⟩;rcases h.2 with⟨h1,h2⟩|⟨ad,cap',h1,hc,hg,hj⟩
 .rw [h1] at hv;injection hv with e1 e2 e3
  subst e1;subst e3;have:k=0:=by omega
  subst this;exact .inl ⟨rfl,rfl⟩
 .rw [h1] at hv;injection hv with e1 e2 e3
  subst e1;subst e3;refine .inr ⟨ad,cap',rfl,by omega,fun h=>hg (by omega),fun j hj'=>?_⟩;rw[hj j (by omega),List.getElem?_take_of_lt hj']
theorem az.from (h:az S w size v n cs) {a:Option Addr} {m cap:Nat} (hv:v= .slice a m cap) (k:Nat) (hk:k<=n):
  az S w size (sliced a k n cap size) (n-k) (cs.drop (k*size)):=by
 have hle:k*size<=n*size:=Nat.mul_le_mul_right _ hk;refine⟨by rw[List.length_drop,h.1,Nat.sub_mul],?_⟩;rcases h.2 with⟨h1,h2⟩|⟨ad,cap',h1,hc,hg,hj⟩
 .rw [h1] at hv;injection hv with e1 e2 e3
  subst e1;subst e3;have:k=0:=by omega
  subst this;subst h2;exact .inl ⟨by simp[sliced],rfl⟩
 .rw [h1] at hv;injection hv with e1 e2 e3
  subst e1;subst e3;by_cases he:cap'=k
  .have hn:n=k:=by omega
   refine .inr ⟨ad,cap'-k,by simp[sliced,he],by omega,fun h=>by omega,fun j hj'=>?_⟩;simp[hn] at hj'
  .refine .inr ⟨ad.add (k*size),cap'-k,?_,by omega,fun h=>?_,fun j hj'=>?_⟩
   .simp only [sliced,if_neg he,Option.map_some]
   .obtain ⟨h1,h2⟩:=hg (by omega);unfold Addr.add;split
    .exact ⟨h1,h2⟩
    .exact ⟨rfl,h2⟩
   .have e1:(ad.add (k*size)).block=ad.block:=by unfold Addr.add;split<;>rfl
    have e2:(ad.add (k*size)).off=ad.off+k*size:=by
     unfold Addr.add;split
     .rename_i h0;simp[h0]
     .rfl
    rw[e1,e2,List.getElem?_drop,Nat.add_assoc];exact hj _ (by rw[Nat.sub_mul] at hj';omega)
theorem az.cellAt (h:az S w size v n cs) {g off cap m:Nat} (hv:v= .slice (some ⟨g,off,none⟩) m cap) {j:Nat} (hj:j<n*size):w.cell? ⟨g,off+j,none⟩=cs[j]?:=by
 rcases h.2 with⟨h1,h2⟩|⟨ad,cap',h1,hc,hg,hj'⟩
 .rw [h2] at hj;simp at hj
 .rw [h1] at hv;injection hv with e1 e2 e3
  injection e1 with e1
  subst e1;exact hj' j hj
theorem az.CZ (h:az S w size v n cs) {a:Option Addr} {m cap:Nat} (hv:v= .slice a m cap):n<=cap:=by
 rcases h.2 with⟨h1,h2⟩|⟨ad,cap',h1,hc,_⟩
 .rw [h1] at hv;injection hv with e1 e2 e3;omega
 .rw [h1] at hv;injection hv with e1 e2 e3;omega
end
section
variable {P:Program} (w:World)
theorem Dv (base:Nat) (t ty e:TypeId) (i:TypeInfo) (z:Value) (size bytes:Nat) (ht:P.underlying t=some (.slice e)) (hi:P.info? e=some i) (hz:i.zero=some z)
  (hsize:i.size=size) (hby:i.bytes=bytes)
  (v:Value) (n:Nat) (xs:List Value) (hown:w.ownsRow base e size v n xs)
  (a:Addr) (m c:Nat) (news:List Value) (hl:news.length=m*size) (hnews: ∀j u,news[j]?=some u->w.cell? (a.add j)=some u) (h1: ∀u∈news,u.oneCell'=true)
  (h63:n+m<=maxLen) (hbytes:(n+m)*bytes<=140737488355328) {v':Value} {w':World}
  (hr:(Builtin.append_ #[t,t] ty #[v,.slice (some a) m c]).run P w= .ok v' w'):v'.ownBlock=v.ownBlock\/v'.ownBlock=some w.heap.size:=by
 subst hsize;subst hby
 have hsmall:n+m<=9223372036854775807:=by simp only[maxLen] at h63;omega
 rcases hown.2 with⟨rfl,rfl⟩|⟨g,cap,cur,rfl,hbg,hg,hnc,hcm,hcs,htake⟩
 .by_cases hm:m=0
  .subst hm;simp[Builtin.append_,run_underlying ht,sizeOf,typeInfo,hi,Builtin.lenOf,Builtin.firstCells,loadCells,loadCellsFrom] at hr;left;rw[<-hr.1]
  .rw [run_append_nil (P:=P) w t ty e i z ht hi hz a m c news hl hnews (by omega) (by omega) (by simp only[Nat.zero_add] at hbytes;omega)] at hr;injection hr with h2 h3
   right;rw[<-h2];rfl
 .by_cases hroom:n+m<=cap
  .have hfit:n*i.size+news.length<=cur.size:=by rw[hl,hcs,<-Nat.add_mul];exact Nat.mul_le_mul_right _ hroom
   rw[run_append_room (P:=P) w t ty e i ht hi g n cap cur hg a m c news hl hnews h1 hroom hfit] at hr;injection hr with h2 h3
   left;rw[<-h2];rfl
  .have holds: ∀j u,xs[j]?=some u->w.cell? ((⟨g,0,none⟩:Addr).add j)=some u:=hown.cells (g:=g) rfl;rw[run_append_grow (P:=P) w t ty e i z ht hi hz ⟨g,0,none⟩ n cap xs hown.1 holds a m c news hl hnews (by omega) (by omega) (growslice_fits (by omega) hbytes)] at hr;injection hr with h2 h3
   right;rw[<-h2];rfl
structure Grew (base e size:Nat) (v:Value) (n:Nat) (xs:List Value) (w w':World) (v':Value):Prop where
 own:w'.ownsRow base e size v' n xs
 grown:w.grownBy w' v.ownBlock
 xE:v'.ownBlock=v.ownBlock\/v'.ownBlock=some w.heap.size
theorem Grew.upd {base e size:Nat} {v:Value} {n:Nat} {xs:List Value} {w w':World} {v':Value} (h:Grew base e size v n xs w w' v'):
  aj (fun k=>v.ownBlock=some k) w w':=(aj.jI h.grown).mono fun k _ e=>e.symm
theorem dP {o:Oper} {a:Act} {K:Act->World->Prop} {Q:Exit->Act->World->Prop} (s x:Operand) (t:TypeId)
  (ho:o.op= .call {callee:= .builtin .append,args:= #[s,x],argTypes:= #[t,t]})
  (base:Nat) (e:TypeId) (i:TypeInfo) (z:Value) (size bytes:Nat) (ht:P.underlying t=some (.slice e)) (hi:P.info? e=some i) (hz:i.zero=some z)
  (hsize:i.size=size) (hby:i.bytes=bytes) (hzs:z.cells.size=size) (hsz:0<size)
  (v:Value) (n:Nat) (xs:List Value) (hs:a.eval s=v) (hown:w.ownsRow base e size v n xs)
  (ad:Addr) (m c:Nat) (news:List Value) (hx:a.eval x= .slice (some ad) m c) (hl:news.length=m*size) (hnews: ∀j u,news[j]?=some u->w.cell? (ad.add j)=some u) (h1: ∀u∈news,u.oneCell'=true)
  (h63:n+m<=maxLen) (hbytes:(n+m)*bytes<=140737488355328) (hbase:base<=w.heap.size)
  (h: ∀v' w',Grew base e size v (n+m) (xs++news) w w' v'->K (a.put o.dst v') w'):o.wp P a w K Q:=by
 obtain⟨v',w',hr,h2,h3,h4⟩:=run_append_own (P:=P) w base t o.type e i z size bytes ht hi hz hsize hby hzs hsz v n xs hown ad m c news hl hnews h1 h63 hbytes hbase;have h5:=Dv (P:=P) w base t o.type e i z size bytes ht hi hz hsize hby v n xs hown ad m c news hl hnews h1 h63 hbytes hr;unfold Oper.wp execOp;simp only[ho,resolve,invoke,builtin,Sem.run_bind,Sem.run_pure,Result.andThen_ok,List.map_toArray,List.map_cons,List.map_nil,hs,hx,hr];exact h v' w' ⟨h2,h3,h5⟩
theorem xP {ops:Array Oper} {rest:List Oper} {o:Oper} {a:Act} {Q:Exit->Act->World->Prop} (hgd:o.guard=none) (s x:Operand) (t:TypeId)
  (ho:o.op= .call {callee:= .builtin .append,args:= #[s,x],argTypes:= #[t,t]})
  (base:Nat) (e:TypeId) (i:TypeInfo) (z:Value) (size bytes:Nat) (ht:P.underlying t=some (.slice e)) (hi:P.info? e=some i) (hz:i.zero=some z)
  (hsize:i.size=size) (hby:i.bytes=bytes) (hzs:z.cells.size=size) (hsz:0<size)
  (v:Value) (n:Nat) (xs:List Value) (hs:a.eval s=v) (hown:w.ownsRow base e size v n xs)
  (ad:Addr) (m c:Nat) (news:List Value) (hx:a.eval x= .slice (some ad) m c) (hl:news.length=m*size) (hnews: ∀j u,news[j]?=some u->w.cell? (ad.add j)=some u) (h1: ∀u∈news,u.oneCell'=true)
  (h63:n+m<=maxLen) (hbytes:(n+m)*bytes<=140737488355328) (hbase:base<=w.heap.size)
  (h: ∀v' w',Grew base e size v (n+m) (xs++news) w w' v'->wpList P ops Q rest (a.put o.dst v') w'):wpList P ops Q (o::rest) a w:=by
 obtain⟨v',w',hr,h2,h3,h4⟩:=run_append_own (P:=P) w base t o.type e i z size bytes ht hi hz hsize hby hzs hsz v n xs hown ad m c news hl hnews h1 h63 hbytes hbase;have h5:=Dv (P:=P) w base t o.type e i z size bytes ht hi hz hsize hby v n xs hown ad m c news hl hnews h1 h63 hbytes hr;refine wpList_plain hgd fun _ hK=>?_;unfold Oper.wp execOp;simp only[ho,resolve,invoke,builtin,Sem.run_bind,Sem.run_pure,Result.andThen_ok,List.map_toArray,List.map_cons,List.map_nil,hs,hx,hr];exact hK _ _ (h v' w' ⟨h2,h3,h5⟩)
theorem uK {o:Oper} {a:Act} {K:Act->World->Prop} {Q:Exit->Act->World->Prop} (s x:Operand) (t:TypeId)
  (ho:o.op= .call {callee:= .builtin .append,args:= #[s,x],argTypes:= #[t,t]})
  (base:Nat) (e:TypeId) (i:TypeInfo) (z:Value) (size bytes:Nat) (ht:P.underlying t=some (.slice e)) (hi:P.info? e=some i) (hz:i.zero=some z)
  (hsize:i.size=size) (hby:i.bytes=bytes) (hzs:z.cells.size=size) (hsz:0<size)
  (v:Value) (n:Nat) (xs:List Value) (hs:a.eval s=v) (hown:w.ownsRow base e size v n xs)
  (S:Nat->Prop) (sv:Value) (m:Nat) (news:List Value) (hx:a.eval x=sv) (hsl:az S w size sv m news) (h1: ∀u∈news,u.oneCell'=true)
  (h63:n+m<=maxLen) (hbytes:(n+m)*bytes<=140737488355328) (hbase:base<=w.heap.size)
  (h: ∀v' w',Grew base e size v (n+m) (xs++news) w w' v'->K (a.put o.dst v') w'):o.wp P a w K Q:=by
 rcases hsl.2 with⟨hv,hm⟩|⟨ad,cap,hv,hc,hg,hj⟩
 .have hr:=run_append_owned_none (P:=P) w base t o.type e i size ht hi v n xs hown;have hn:news=[]:=List.eq_nil_of_length_eq_zero (by rw[hsl.1,hm];simp);subst hn;subst hm;unfold Oper.wp execOp;simp only[ho,resolve,invoke,builtin,Sem.run_bind,Sem.run_pure,Result.andThen_ok,List.map_toArray,List.map_cons,List.map_nil,hs,hx,hv,hr];exact(h v w ⟨by simpa using hown,⟨rfl,rfl,rfl,Nat.le_refl _,fun _ _ _=>rfl⟩,.inl rfl⟩)
 .refine dP w s x t ho base e i z size bytes ht hi hz hsize hby hzs hsz v n xs hs hown ad m cap news (by rw[hx,hv]) hsl.1 ?_ h1 h63 hbytes hbase h;intro j u hu;have hlt:j<m*size:=by rw[<-hsl.1];exact(List.getElem?_eq_some_iff.1 hu).1
  rw[<-hu,<-hj j hlt];obtain⟨g,off,spot⟩:=ad;have hsp:=(hg (rE hlt)).1;simp only at hsp;subst hsp
  congr 1
  unfold Addr.add;split
  .rename_i h0;simp[h0]
  .rfl
theorem kC {ops:Array Oper} {rest:List Oper} {o:Oper} {a:Act} {Q:Exit->Act->World->Prop} (hgd:o.guard=none) (s x:Operand) (t:TypeId)
  (ho:o.op= .call {callee:= .builtin .append,args:= #[s,x],argTypes:= #[t,t]})
  (base:Nat) (e:TypeId) (i:TypeInfo) (z:Value) (size bytes:Nat) (ht:P.underlying t=some (.slice e)) (hi:P.info? e=some i) (hz:i.zero=some z)
  (hsize:i.size=size) (hby:i.bytes=bytes) (hzs:z.cells.size=size) (hsz:0<size)
  (v:Value) (n:Nat) (xs:List Value) (hs:a.eval s=v) (hown:w.ownsRow base e size v n xs)
  (S:Nat->Prop) (sv:Value) (m:Nat) (news:List Value) (hx:a.eval x=sv) (hsl:az S w size sv m news) (h1: ∀u∈news,u.oneCell'=true)
  (h63:n+m<=maxLen) (hbytes:(n+m)*bytes<=140737488355328) (hbase:base<=w.heap.size)
  (h: ∀v' w',Grew base e size v (n+m) (xs++news) w w' v'->wpList P ops Q rest (a.put o.dst v') w'):wpList P ops Q (o::rest) a w:=by
 rcases hsl.2 with⟨hv,hm⟩|⟨ad,cap,hv,hc,hg,hj⟩
 .have hr:=run_append_owned_none (P:=P) w base t o.type e i size ht hi v n xs hown;have hn:news=[]:=List.eq_nil_of_length_eq_zero (by rw[hsl.1,hm];simp);subst hn;subst hm;refine wpList_plain hgd fun _ hK=>?_;unfold Oper.wp execOp;simp only[ho,resolve,invoke,builtin,Sem.run_bind,Sem.run_pure,Result.andThen_ok,List.map_toArray,List.map_cons,List.map_nil,hs,hx,hv,hr];exact hK _ _ (h v w ⟨by simpa using hown,⟨rfl,rfl,rfl,Nat.le_refl _,fun _ _ _=>rfl⟩,.inl rfl⟩)
 .refine xP w hgd s x t ho base e i z size bytes ht hi hz hsize hby hzs hsz v n xs hs hown ad m cap news (by rw[hx,hv]) hsl.1 ?_ h1 h63 hbytes hbase h;intro j u hu;have hlt:j<m*size:=by rw[<-hsl.1];exact(List.getElem?_eq_some_iff.1 hu).1
  rw[<-hu,<-hj j hlt];obtain⟨g,off,spot⟩:=ad;have hsp:=(hg (rE hlt)).1;simp only at hsp;subst hsp
  congr 1
  unfold Addr.add;split
  .rename_i h0;simp[h0]
  .rfl
theorem wI {ops:Array Oper} {rest:List Oper} {o:Oper} {a:Act} {Q:Exit->Act->World->Prop} (hgd:o.guard=none) (t:TypeId) (x l:Operand)
  (ho:o.op= .slice t x (some l) none none) (size:Nat) (ht:P.underlying t=some (.slice (P.elem t))) (hsz: ∀w,(sizeOf (P.elem t)).run P w= .ok size w)
  (S:Nat->Prop) (v:Value) (n:Nat) (cs:List Value) (hx:a.eval x=v) (hsl:az S w size v n cs) (k:Nat) (kh:IntKind) (ki:Int) (hh:a.eval l= .int kh ki) (hki:ki=k) (hk:k<=n)
  (hn: ∀sv,az S w size sv (n-k) (cs.drop (k*size))->wpList P ops Q rest (a.put o.dst sv) w):wpList P ops Q (o::rest) a w:=by
 obtain⟨ad,cap,hv⟩:=hsl.shape;refine wpList_plain hgd fun _ hK=>?_;unfold Oper.wp execOp;subst hki;have hr:=run_slice_l (P:=P) w t ad n cap ht kh (k:Int) (by omega) (by omega);simp only[hsz,Result.andThen_ok,Int.toNat_natCast] at hr;rw[hv] at hx;simp only[ho,run_sliceAt_slice (P:=P) w t _ _ _ _ ht,Sem.run_bind,Sem.run_pure,Result.andThen_ok,Option.map_some,Option.map_none,hx,hh,hr];exact hK _ _ (hn _ (hsl.from hv k hk))
end
end
end Go.Hw
namespace Go.Hw
abbrev By:=ByteArray
def ah:By:=⟨#[]⟩
inductive Tm where
 |mk (name sort:By) (L:List Tm)
namespace Tm
def name:Tm->By| .mk n _ _=>n
def sort:Tm->By| .mk _ s _=>s
def kids:Tm->List Tm| .mk _ _ l=>l
instance:Inhabited Tm:=⟨.mk ah ah []⟩
theorem eta (t:Tm): .mk t.name t.sort t.kids=t:=by cases t;rfl
theorem ind {P:Tm->Prop} (h: ∀n s L,(∀x∈L,P x)->P (.mk n s L)): ∀t,P t:=by
 intro t;refine Tm.rec (motive_1:=P) (motive_2:=fun L=> ∀x∈L,P x) (fun n s L ih=>h n s L ih) (fun x hx=>by cases hx) (fun a L ha hL x hx=>?_) t;rcases List.mem_cons.1 hx with e|hx
 .rw [e];exact ha
 .exact hL x hx
mutual
def size:Tm->Nat
 | .mk _ _ L=>sizes L+1
def sizes:List Tm->Nat
 |[]=>0
 |t::L=>size t+sizes L
end
mutual
def depth:Tm->Nat
 | .mk _ _ L=>depths L+1
def depths:List Tm->Nat
 |[]=>0
 |t::L=>max (depth t) (depths L)
end
mutual
def beq:Tm->Tm->Bool
 | .mk n s L,.mk m r M=>decide (n=m)&&(decide (s=r)&&J6 L M)
def J6:List Tm->List Tm->Bool
 |[],[]=>true
 |t::L,u::M=>beq t u&&J6 L M
 |_,_=>false
end
theorem beq_eq: ∀t u:Tm,beq t u=true<->t=u:=by
 refine ind (fun n s L ih u=>?_);obtain⟨m,r,M⟩:=u;unfold beq;have hL: ∀(L:List Tm),(∀x∈L,∀u,beq x u=true<->x=u)->∀M,J6 L M=true<->L=M:=by
  intro L
  induction L with
  |nil=>intro _ M;cases M<;>simp[J6]
  |cons a L ihL=>
   intro h M;cases M with
   |nil=>simp[J6]
   |cons b M=>
    unfold J6;rw[Bool.and_eq_true,h a (List.mem_cons_self ..),ihL (fun x hx=>h x (List.mem_cons_of_mem _ hx)),List.cons.injEq]
 rw[Bool.and_eq_true,Bool.and_eq_true,decide_eq_true_eq,decide_eq_true_eq,hL L ih M,Tm.mk.injEq]
instance:DecidableEq Tm:=fun t u=>decidable_of_iff _ (beq_eq t u)
theorem size_pos (t:Tm):0<t.size:=by cases t;simp[size]
theorem ku {x:Tm}: ∀{L:List Tm},x∈L->x.size<=sizes L
 |a::L,h=>by
  rcases List.mem_cons.1 h with e|h
  .rw [e];simp[sizes]
  .have:=ku h;simp[sizes];omega
theorem xI {t x:Tm} (h:x∈t.kids):x.size<t.size:=by
 obtain⟨n,s,L⟩:=t;have:=ku (L:=L) h;simp[size];omega
theorem size_eq (t:Tm):t.size=sizes t.kids+1:=by cases t;rfl
theorem xA (t:Tm):t.depth=depths t.kids+1:=by cases t;rfl
theorem lM (L M:List Tm):sizes (L++M)=sizes L+sizes M:=by
 induction L with
 |nil=>simp[sizes]
 |cons a L ih=>simp[sizes,ih];omega
theorem MH (L M:List Tm):depths (L++M)=max (depths L) (depths M):=by
 induction L with
 |nil=>simp[depths]
 |cons a L ih=>simp only[List.cons_append,depths,ih];omega
theorem bf: ∀L:List Tm,L.length<=sizes L
 |[]=>Nat.le_refl _
 |a::L=>by have:=bf L;have:=size_pos a;simp[sizes];omega
end Tm
open Tm
mutual
def bH:Nat->Tm->List (Tm×Nat)
 |d,.mk n s L=>(.mk n s L,d)::bG (d+1) L
def bG:Nat->List Tm->List (Tm×Nat)
 |_,[]=>[]
 |d,t::L=>bH d t++bG d L
end
theorem iw (d:Nat) (t:Tm):bH d t=(t,d)::bG (d+1) t.kids:=by cases t;rfl
theorem o5 (d:Nat) (L M:List Tm):bG d (L++M)=bG d L++bG d M:=by
 induction L with
 |nil=>simp[bG]
 |cons a L ih=>simp[bG,ih]
theorem yl (d:Nat) (L:List Tm):bG d L=L.flatMap (bH d):=by
 induction L with
 |nil=>rfl
 |cons a L ih=>simp[bG,ih]
theorem kP: ∀(t:Tm) (d:Nat),(bH d t).length=t.size:=by
 refine ind (fun n s L ih d=>?_);rw[iw];have: ∀(L:List Tm) (d:Nat),(∀x∈L,∀d,(bH d x).length=x.size)->(bG d L).length=sizes L:=by
  intro L
  induction L with
  |nil=>intro d _;rfl
  |cons a L ihL=>
   intro d h;simp only[bG,List.length_append,sizes];rw[h a (List.mem_cons_self ..),ihL d (fun x hx=>h x (List.mem_cons_of_mem _ hx))]
 simp only[kids,List.length_cons,Tm.size];rw[this L (d+1) ih]
theorem EP (L:List Tm) (d:Nat):(bG d L).length=sizes L:=by
 induction L with
 |nil=>rfl
 |cons a L ih=>simp only[bG,List.length_append,sizes,kP,ih]
def aV (t:Tm):List Tm:=(bH 0 t).map (·.1)
theorem mQ (t:Tm): ∀d e:Nat,(bH d t).map (·.1)=(bH e t).map (·.1):=by
 refine ind (P:=fun t=> ∀d e:Nat,(bH d t).map (·.1)=(bH e t).map (·.1)) (fun n s L ih d e=>?_) t;rw[iw,iw,yl,yl];simp only[kids,List.map_cons,List.map_flatMap]
 congr 1
 induction L with
 |nil=>rfl
 |cons a L ihL=>
  simp only[List.flatMap_cons];rw[ih a (List.mem_cons_self ..) (d+1) (e+1),ihL (fun x hx=>ih x (List.mem_cons_of_mem _ hx))]
theorem o6 (t:Tm):aV t=t::t.kids.flatMap aV:=by
 unfold aV;rw[iw,yl];simp only[List.map_cons,List.map_flatMap]
 congr 1
 have: ∀L:List Tm,(L.flatMap fun a=>(bH (0+1) a).map (·.1))=L.flatMap fun t=>(bH 0 t).map (·.1):=by
  intro L
  induction L with
  |nil=>rfl
  |cons a L ih=>simp only[List.flatMap_cons];rw[ih,mQ a (0+1) 0]
 exact this _
theorem fO (t:Tm):t∈aV t:=by rw[o6];exact List.mem_cons_self ..
theorem oC {t x y:Tm} (h:x∈t.kids) (hy:y∈aV x):y∈aV t:=by
 rw[o6];exact List.mem_cons_of_mem _ (List.mem_flatMap.2 ⟨x,h,hy⟩)
end Go.Hw
namespace Go.Hw
open Go.RowKit Tm
abbrev qG:Value:= .slice none 0 0
def dC:List Tm->List Value->List Value
 |[],_=>[]
 |t::L,us=> .string t.name:: .string t.sort::us.headD qG::dC L us.tail
abbrev tg (L:List Tm) (i:Nat):Tm:=L.getD i default
abbrev ug (us:List Value) (i:Nat):Value:=us.getD i qG
theorem Jg: ∀(L:List Tm) (us:List Value),(dC L us).length=L.length*3
 |[],_=>rfl
 |t::L,us=>by simp[dC,Jg L us.tail];omega
theorem yT: ∀(L:List Tm) (us:List Value) (i:Nat),i<L.length->
  (dC L us)[i*3]?=some (.string (tg L i).name)/\(dC L us)[i*3+1]?=some (.string (tg L i).sort)/\(dC L us)[i*3+2]?=some (ug us i)
 |t::L,us,0,_=>by
  refine⟨rfl,rfl,?_⟩;cases us<;>rfl
 |t::L,us,i+1,h=>by
  obtain⟨h0,h1,h2⟩:=yT L us.tail i (by simpa using h);have e: ∀k,(dC (t::L) us)[(i+1)*3+k]?=(dC L us.tail)[i*3+k]?:=fun k=>by
   rw[show(i+1)*3+k=i*3+k+1+1+1 by omega];rfl
  refine⟨by rw[<-Nat.add_zero ((i+1)*3),e];exact h0,by rw[e];exact h1,?_⟩;rw[e,h2];cases us<;>rfl
theorem EY: ∀(L:List Tm) (us:List Value) (t:Tm) (u:Value),us.length=L.length->dC (L++[t]) (us++[u])=dC L us++[.string t.name,.string t.sort,u]
 |[],[],t,u,_=>rfl
 |a::L,b::us,t,u,h=>by
  have:=EY L us t u (by simpa using h);simp only[List.cons_append,dC,List.headD_cons,List.tail_cons,this]
inductive aA (S:Nat->Prop) (w:World):List Tm->Value->Prop
 |mk (L:List Tm) (us:List Value) (v:Value) (hl:us.length=L.length) (h:az S w 3 v L.length (dC L us)) (hk: ∀i,i<L.length->aA S w (tg L i).kids (ug us i)):aA S w L v
theorem aA.nil (S:Nat->Prop) (w:World):aA S w [] qG:=⟨[],[],qG,rfl,az.nil _ _ _,fun i h=>by cases h⟩
theorem aA.shape {S:Nat->Prop} {w:World} {L:List Tm} {v:Value} (h:aA S w L v): ∃a cap,v= .slice a L.length cap:=by
 cases h with
 |mk _ us _ hl h hk=>exact h.shape
theorem aA.kept {S F:Nat->Prop} {w w':World} {L:List Tm} {v:Value} (h:aA S w L v) (hu:aj F w w') (hF: ∀k,S k->¬F k):aA S w' L v:=by
 induction h with
 |mk L us v hl h hk ih=>exact⟨L,us,v,hl,h.kept hu hF,ih⟩
theorem aA.ext {S:Nat->Prop} {w w':World} {L:List Tm} {v:Value} (h:aA S w L v) (hu:Ext w w'):aA S w' L v:=h.kept hu (fun _ _ h=>h)
theorem aA.weaken {S T:Nat->Prop} {w:World} {L:List Tm} {v:Value} (h:aA S w L v) (hs: ∀k,S k->T k):aA T w L v:=by
 induction h with
 |mk L us v hl h hk ih=>exact⟨L,us,v,hl,h.weaken hs,ih⟩
theorem aA.at_ {S:Nat->Prop} {w:World} {L:List Tm} {a:Option Addr} {n cap:Nat} (h:aA S w L (.slice a n cap)) (hL:0<L.length):
  ∃g off,a=some ⟨g,off,none⟩/\S g/\∀i,i<L.length->∃a' cap',w.cell? ⟨g,off+i*3,none⟩=some (.string (tg L i).name)/\w.cell? ⟨g,off+(i*3+1),none⟩=some (.string (tg L i).sort)/\
   w.cell? ⟨g,off+(i*3+2),none⟩=some (.slice a' (tg L i).kids.length cap')/\aA S w (tg L i).kids (.slice a' (tg L i).kids.length cap'):=by
 cases h with
 |mk _ us _ hl h hk=>
  obtain⟨g,off,cap',e,hc,hS,hj⟩:=h.pos hL;injection e with e1 e2 e3
  refine⟨g,off,e1,hS,fun i hi=>?_⟩;obtain⟨h0,h1,h2⟩:=yT L us i hi;obtain⟨a',cap',e'⟩:=(hk i hi).shape;have hk':=hk i hi;rw[e'] at hk' h2;exact⟨a',cap',by rw[hj _ (by omega),h0],by rw[hj _ (by omega),h1],by rw[hj _ (by omega),h2],hk'⟩
abbrev tV (t:Tm) (u:Value):Value:= .agg #[.string t.name,.string t.sort,u]
def bC (S:Nat->Prop) (w:World) (t:Tm) (v:Value):Prop:= ∃a cap,v=tV t (.slice a t.kids.length cap)/\aA S w t.kids (.slice a t.kids.length cap)
theorem bC.kept {S F:Nat->Prop} {w w':World} {t:Tm} {v:Value} (h:bC S w t v) (hu:aj F w w') (hF: ∀k,S k->¬F k):bC S w' t v:=by
 obtain⟨a,cap,e,h⟩:=h;exact⟨a,cap,e,h.kept hu hF⟩
theorem bC.ext {S:Nat->Prop} {w w':World} {t:Tm} {v:Value} (h:bC S w t v) (hu:Ext w w'):bC S w' t v:=h.kept hu (fun _ _ h=>h)
theorem bC.weaken {S T:Nat->Prop} {w:World} {t:Tm} {v:Value} (h:bC S w t v) (hs: ∀k,S k->T k):bC T w t v:=by
 obtain⟨a,cap,e,h⟩:=h;exact⟨a,cap,e,h.weaken hs⟩
theorem bC.of {S:Nat->Prop} {w:World} {t:Tm} {u:Value} (h:aA S w t.kids u):bC S w t (tV t u):=by
 obtain⟨a,cap,e⟩:=h.shape;exact⟨a,cap,by rw[e],e▸h⟩
section
section
variable {W:World} {b:Nat} {te:TypeId} {u0 u1 u2 u3 u4 u5 u6 u7 u8 u9 ua ub:Value} {l:List Value}
theorem aP (h:W.heap[b]?=some (.cells (List.toArray (u0::u1::l)) te (0,0))):W.cell? ⟨b,0,none⟩=some u0/\W.cell? ⟨b,1,none⟩=some u1:=⟨af h 0 _ rfl,af h 1 _ rfl⟩
theorem ag (h:W.heap[b]?=some (.cells (List.toArray (u0::u1::u2::l)) te (0,0))):W.cell? ⟨b,0,none⟩=some u0/\W.cell? ⟨b,1,none⟩=some u1/\W.cell? ⟨b,2,none⟩=some u2:=⟨af h 0 _ rfl,af h 1 _ rfl,af h 2 _ rfl⟩
theorem eG (h:W.heap[b]?=some (.cells (List.toArray (u0::u1::u2::u3::u4::u5::l)) te (0,0))):W.cell? ⟨b,0,none⟩=some u0/\W.cell? ⟨b,1,none⟩=some u1/\W.cell? ⟨b,2,none⟩=some u2/\W.cell? ⟨b,3,none⟩=some u3/\W.cell? ⟨b,4,none⟩=some u4/\W.cell? ⟨b,5,none⟩=some u5:=⟨af h 0 _ rfl,af h 1 _ rfl,af h 2 _ rfl,af h 3 _ rfl,af h 4 _ rfl,af h 5 _ rfl⟩
theorem iY (h:W.heap[b]?=some (.cells (List.toArray (u0::u1::u2::u3::u4::u5::u6::u7::u8::u9::ua::ub::l)) te (0,0))):W.cell? ⟨b,0,none⟩=some u0/\W.cell? ⟨b,1,none⟩=some u1/\W.cell? ⟨b,2,none⟩=some u2/\W.cell? ⟨b,3,none⟩=some u3/\W.cell? ⟨b,4,none⟩=some u4/\W.cell? ⟨b,5,none⟩=some u5/\W.cell? ⟨b,6,none⟩=some u6/\W.cell? ⟨b,7,none⟩=some u7/\W.cell? ⟨b,8,none⟩=some u8/\W.cell? ⟨b,9,none⟩=some u9/\W.cell? ⟨b,10,none⟩=some ua/\W.cell? ⟨b,11,none⟩=some ub:=⟨af h 0 _ rfl,af h 1 _ rfl,af h 2 _ rfl,af h 3 _ rfl,af h 4 _ rfl,af h 5 _ rfl,af h 6 _ rfl,af h 7 _ rfl,af h 8 _ rfl,af h 9 _ rfl,af h 10 _ rfl,af h 11 _ rfl⟩
end
abbrev tO (t:Tm) (a:Option Addr) (c:Nat):Obj:= .cells #[.string t.name,.string t.sort,.slice a t.kids.length c] 24
abbrev zO:Obj:= .cells #[.string ⟨#[]⟩,.string ⟨#[]⟩,.slice none 0 0] 24
theorem uR (w:World):Ext w w:=aj.refl _ w
theorem ae {p:Prop} (h:p):Hid p:=Lib.hid h
theorem ay {a b c:Nat} (h:a<b) (h2:b<=c):a<c:=Nat.lt_of_lt_of_le h h2
theorem dT {p:Prop} [Decidable p] (h:p):decide p=true:=decide_eq_true h
theorem dF {p:Prop} [Decidable p] (h: ¬p):decide p=false:=decide_eq_false h
theorem bz {k n:Nat} (h:k<n):(0:Int)<=(k:Int)/\(k:Int)< (n:Int)/\decide ((k:Int)< (n:Int))=true/\decide (k<n)=true:=⟨by omega,by omega,decide_eq_true (by omega),decide_eq_true h⟩
end
section
section
variable (nm:By->Bool)
def j_ (p:Tm×Nat):Bool:=decide (p.2<=60)&&(nm p.1.name&&(decide (p.1.kids.length<=6)&&(decide (p.1.sort=ah)||(nm p.1.sort&&decide (p.1.kids.length=0)))))
def SV (l:List (Tm×Nat)):Bool:=decide (l.length<=1000)&&l.all (j_ nm)
def formed (t:Tm):Bool:=SV nm (bH 1 t)
theorem rW (t:Tm):formed nm t=true<->t.size<=1000/\∀p∈bH 1 t,j_ nm p=true:=by
 unfold formed SV;rw[Bool.and_eq_true,decide_eq_true_eq,kP,List.all_eq_true]
mutual
def small:Nat->Int->Tm->Int
 |d,left,.mk n s L=>if left<=0\/j_ nm (.mk n s L,d)=false then -1 else smalls (d+1) (left-1) L
def smalls:Nat->Int->List Tm->Int
 |_,left,[]=>left
 |d,left,t::L=>if small d left t<0 then small d left t else smalls d (small d left t) L
end
theorem mV (d:Nat) (left:Int) (t:Tm):small nm d left t=if left<=0\/j_ nm (t,d)=false then -1 else smalls nm (d+1) (left-1) t.kids:=by cases t;rfl
theorem Hl: ∀(t:Tm) (d:Nat) (left:Int),small nm d left t=if(bH d t).all (j_ nm)=true/\(t.size:Int)<=left then left-t.size else -1:=by
 refine ind (fun n s L ih d left=>?_);have hL: ∀(L:List Tm) (d:Nat) (left:Int),(∀x∈L,∀(d:Nat) (left:Int),small nm d left x=if(bH d x).all (j_ nm)=true/\(x.size:Int)<=left then left-x.size else -1)->0<=left->
   smalls nm d left L=if(bG d L).all (j_ nm)=true/\(sizes L:Int)<=left then left-sizes L else -1:=by
  intro L
  induction L with
  |nil=>
   intro d left _ h0;unfold smalls bG sizes;rw[if_pos ⟨rfl,by omega⟩];simp
  |cons a L ihL=>
   intro d left h h0;unfold smalls bG sizes;rw[h a (List.mem_cons_self ..)];have hp:=size_pos a;by_cases hc:(bH d a).all (j_ nm)=true/\(a.size:Int)<=left
   .rw [if_pos hc,if_neg (by omega),ihL d (left-a.size) (fun x hx=>h x (List.mem_cons_of_mem _ hx)) (by omega)];have e1:(bH d a++bG d L).all (j_ nm)=(bG d L).all (j_ nm):=by rw[List.all_append,hc.1,Bool.true_and]
    rw[e1];by_cases h2:(bG d L).all (j_ nm)=true/\(sizes L:Int)<=left-a.size
    .rw [if_pos h2,if_pos ⟨h2.1,by omega⟩];omega
    .rw [if_neg h2,if_neg (fun h3=>h2 ⟨h3.1,by omega⟩)]
   .rw [if_neg hc,if_pos (by omega),if_neg];rintro⟨h3,h4⟩;rw[List.all_append,Bool.and_eq_true] at h3;exact hc ⟨h3.1,by omega⟩
 rw[mV,iw,List.all_cons,size_eq];simp only[kids];by_cases hc:left<=0\/j_ nm (.mk n s L,d)=false
 .rw [if_pos hc];refine(if_neg ?_).symm;rintro⟨h3,h4⟩;rw[Bool.and_eq_true] at h3;rcases hc with h|h
  .omega
  .rw [h3.1] at h;cases h
 .rw [if_neg hc,hL L (d+1) (left-1) ih (by omega)];have h5:j_ nm (.mk n s L,d)=true:=by
   cases h:j_ nm (.mk n s L,d)
   .exact absurd (.inr h) hc
   .rfl
  simp only[h5,Bool.true_and];by_cases h2:(bG (d+1) L).all (j_ nm)=true/\(sizes L:Int)<=left-1
  .rw [if_pos h2];refine Eq.trans ?_ (if_pos ⟨h2.1,by omega⟩).symm;omega
  .rw [if_neg h2];exact(if_neg (fun h3=>h2 ⟨h3.1,by have:=h3.2;omega⟩)).symm
theorem rY (t:Tm):formed nm t=decide (0<=small nm 1 1000 t):=by
 rw[Hl,Bool.eq_iff_iff,rW,decide_eq_true_eq,<-List.all_eq_true];by_cases h:(bH 1 t).all (j_ nm)=true/\(t.size:Int)<=1000
 .rw [if_pos h];exact⟨fun _=>by omega,fun _=>⟨by omega,h.1⟩⟩
 .rw [if_neg h];exact⟨fun h2=>absurd ⟨h2.2,by omega⟩ h,fun h2=>by omega⟩
end
end
def blt (a b:By):Bool:=decide (a.data.toList<b.data.toList)
theorem aiB {a b:By} (h:a.data.toList=b.data.toList):a=b:=by
 cases a;cases b;simp only[ByteArray.mk.injEq];exact Array.toList_inj.1 h
theorem fU (a:By):blt a a=false:=by unfold blt;simp
theorem mP {a b c:By} (h1:blt a b=true) (h2:blt b c=true):blt a c=true:=by
 unfold blt at*;rw[decide_eq_true_eq] at*;exact List.lt_trans h1 h2
theorem zK (a b:By) (h:a≠b):blt a b=true\/blt b a=true:=by
 unfold blt;rw[decide_eq_true_eq,decide_eq_true_eq];by_cases h1:a.data.toList<b.data.toList
 .exact .inl h1
 .refine .inr ?_;have h2:=List.not_lt.1 h1;rcases List.le_iff_lt_or_eq.1 h2 with h3|h3
  .exact h3
  .exact absurd (aiB h3.symm) h
theorem XH {a b:By} (h:blt a b=true):blt b a=false:=by
 rw[Bool.eq_false_iff];intro h2;have:=mP h h2;rw[fU] at this;cases this
abbrev Vd:=By×By
def fQ (m:List Vd) (n:By):Option By:=(m.find? fun p=>decide (p.1=n)).map (·.2)
theorem fM (p:Vd) (m:List Vd) (n:By):fQ (p::m) n=if p.1=n then some p.2 else fQ m n:=by
 unfold fQ;rw[List.find?_cons];by_cases h:p.1=n
 .rw [if_pos h,dT h];rfl
 .rw [if_neg h,dF h]
theorem XK (m:List Vd) (p:Vd) (n:By):fQ (m++[p]) n=(fQ m n).or (if p.1=n then some p.2 else none):=by
 induction m with
 |nil=>rw[List.nil_append,fM];unfold fQ;simp
 |cons a m ih=>
  rw[List.cons_append,fM,fM,ih];by_cases h:a.1=n
  .rw [if_pos h,if_pos h];rfl
  .rw [if_neg h,if_neg h]
theorem Eo {m:List Vd} {n s:By} (h:fQ m n=some s):(n,s)∈m:=by
 induction m with
 |nil=>cases h
 |cons a m ih=>
  rw[fM] at h;by_cases h1:a.1=n
  .rw [if_pos h1] at h;injection h with h
   subst h1 h;exact List.mem_cons_self ..
  .rw [if_neg h1] at h;exact List.mem_cons_of_mem _ (ih h)
theorem XL {m:List Vd} {n:By} (h:fQ m n=none): ∀p∈m,p.1≠n:=by
 induction m with
 |nil=>intro p hp;cases hp
 |cons a m ih=>
  rw[fM] at h;by_cases h1:a.1=n
  .rw [if_pos h1] at h;cases h
  .rw [if_neg h1] at h;intro p hp;rcases List.mem_cons.1 hp with e|hp
   .rw [e];exact h1
   .exact ih h p hp
def vl (l:List Tm):List Vd:=l.filterMap fun x=>if x.sort=ah then none else some (x.name,x.sort)
theorem qX (l m:List Tm):vl (l++m)=vl l++vl m:=List.filterMap_append
def iQ:List Vd->List Vd->Option (List Vd)
 |m,[]=>some m
 |m,f::fs=>match fQ m f.1 with
  |none=>iQ (m++[f]) fs
  |some s=>if s=f.2 then iQ m fs else none
theorem CU (fs gs:List Vd): ∀m,iQ m (fs++gs)=(iQ m fs).bind fun m'=>iQ m' gs:=by
 induction fs with
 |nil=>intro m;rfl
 |cons f fs ih=>
  intro m;simp only[List.cons_append,iQ];cases fQ m f.1 with
  |none=>exact ih _
  |some s=>
   simp only;split
   .exact ih _
   .rfl
def Cons (fs:List Vd):Prop:= ∀f∈fs,∀g∈fs,f.1=g.1->f.2=g.2
theorem Az (fs:List Vd): ∀(m:List Vd),Cons m->(∀m',iQ m fs=some m'->Cons m'/\(∀f,f∈m'<->f∈m\/f∈fs)/\(m.Pairwise (fun p q=>p.1≠q.1)->m'.Pairwise (fun p q=>p.1≠q.1)))/\(iQ m fs=none->¬Cons (m++fs)):=by
 induction fs with
 |nil=>
  intro m hm;refine⟨fun m' h=>?_,fun h=>by cases h⟩;injection h with h
  subst h;exact⟨hm,fun f=>by simp,fun h=>h⟩
 |cons f fs ih=>
  intro m hm;unfold iQ;cases hg:fQ m f.1 with
  |none=>
   have hn:=XL hg;have hm2:Cons (m++[f]):=by
    intro x hx y hy e;rw[List.mem_append,List.mem_singleton] at hx hy;rcases hx with hx|hx<;>rcases hy with hy|hy
    .exact hm x hx y hy e
    .subst hy;exact absurd e (hn x hx)
    .subst hx;exact absurd e.symm (hn y hy)
    .rw [hx,hy]
   obtain⟨h1,h2⟩:=ih (m++[f]) hm2;refine⟨fun m' h=>?_,fun h=>?_⟩
   .obtain ⟨a,b,c⟩:=h1 m' h;refine⟨a,fun x=>?_,fun hp=>c ?_⟩
    .rw [b x,List.mem_append,List.mem_singleton,List.mem_cons,or_assoc]
    .rw [List.pairwise_append];refine⟨hp,List.pairwise_singleton _ _,fun x hx y hy=>?_⟩;rw[List.mem_singleton] at hy;rw[hy];exact hn x hx
   .have:=h2 h;rwa [List.append_assoc] at this
  |some s=>
   have hs:=Eo hg;simp only;by_cases h:s=f.2
   .rw [if_pos h];obtain⟨h1,h2⟩:=ih m hm;have hfm:f∈m:=by
     have:(f.1,s)=f:=by rw[h]
     rwa [this] at hs
    refine⟨fun m' h=>?_,fun h3 hc=>?_⟩
    .obtain ⟨a,b,c⟩:=h1 m' h;refine⟨a,fun x=>?_,c⟩;rw[b x,List.mem_cons];constructor
     .rintro (h|h)
      .exact .inl h
      .exact .inr (.inr h)
     .rintro (h|h|h)
      .exact .inl h
      .rw [h];exact .inl hfm
      .exact .inr h
    .refine h2 h3 (fun x hx y hy e=>?_);have hin: ∀z,z∈m++fs->z∈m++f::fs:=fun z hz=>by
      rw[List.mem_append] at hz⊢;rcases hz with hz|hz
      .exact .inl hz
      .exact .inr (List.mem_cons_of_mem _ hz)
     exact hc x (hin x hx) y (hin y hy) e
   .rw [if_neg h];refine⟨fun m' h=>(by cases h),fun _ hc=>h ?_⟩;exact hc (f.1,s) (List.mem_append_left _ hs) f (List.mem_append_right _ (List.mem_cons_self ..)) rfl
def gm:List Vd->Vd->List Vd×Bool
 |[],f=>([f],true)
 |g::l,f=>if blt g.1 f.1=true then(g::(gm l f).1,(gm l f).2) else if g.1=f.1 then(g::l,decide (g.2=f.2)) else(f::g::l,true)
def bZ:List Vd->List Vd->List Vd×Bool
 |l,[]=>(l,true)
 |l,f::fs=>if(gm l f).2=true then bZ (gm l f).1 fs else(l,false)
def Asc (l:List Vd):Prop:=l.Pairwise fun p q=>blt p.1 q.1=true
theorem Ep {l:List Vd} {f g:Vd} (h:Asc (g::l)) (h1:blt f.1 g.1=true):fQ (g::l) f.1=none:=by
 have h2: ∀p∈g::l,p.1≠f.1:=by
  intro p hp e;rcases List.mem_cons.1 hp with h3|h3
  .rw [h3] at e;rw[e,fU] at h1;cases h1
  .have h4:=(List.pairwise_cons.1 h).1 p h3;have:=mP h1 h4;rw[e,fU] at this;cases this
 cases hc:fQ (g::l) f.1 with
 |none=>rfl
 |some s=>exact absurd rfl (h2 (f.1,s) (Eo hc))
theorem Me (f:Vd): ∀(l:List Vd),Asc l->
  (gm l f).2=(match fQ l f.1 with|none=>true|some s=>decide (s=f.2))/\
  ((gm l f).2=true->Asc (gm l f).1/\(∀g,g∈(gm l f).1<->g∈l\/g=f)/\∀n,fQ (gm l f).1 n=(fQ l n).or (if f.1=n then some f.2 else none))/\((gm l f).2=false->(gm l f).1=l)
 |[],_=>by
  refine⟨rfl,fun _=>⟨List.pairwise_singleton _ _,fun g=>by simp[gm],fun n=>?_⟩,fun h=>by cases h⟩;show fQ [f] n=_;rw[fM];unfold fQ;simp
 |g::l,h=>by
  obtain⟨h1,h2⟩:=List.pairwise_cons.1 h;obtain⟨e1,e2,e3⟩:=Me f l h2;unfold gm;by_cases hlt:blt g.1 f.1=true
  .have hne:g.1≠f.1:=fun e=>by rw[e,fU] at hlt;cases hlt
   rw[if_pos hlt,fM,if_neg hne];refine⟨e1,fun hq=>?_,fun hq=>by show g::(gm l f).1=_;rw[e3 hq]⟩;obtain⟨a,b,c⟩:=e2 hq;refine⟨List.pairwise_cons.2 ⟨fun p hp=>?_,a⟩,fun p=>?_,fun n=>?_⟩
   .rcases (b p).1 hp with hp|hp
    .exact h1 p hp
    .rw [hp];exact hlt
   .show p∈g::(gm l f).1<->_;rw[List.mem_cons,b p,List.mem_cons,or_assoc]
   .show fQ (g::(gm l f).1) n=_;rw[fM,fM,c n];by_cases hn:g.1=n
    .rw [if_pos hn,if_pos hn];rfl
    .rw [if_neg hn,if_neg hn]
  .rw [if_neg hlt];by_cases heq:g.1=f.1
   .rw [if_pos heq,fM,if_pos heq];refine⟨rfl,fun hq=>?_,fun _=>rfl⟩;have hgf:g=f:=by
     have:=of_decide_eq_true hq;exact Prod.ext heq this
    refine⟨h,fun p=>?_,fun n=>?_⟩
    .constructor
     .exact fun h=> .inl h
     .rintro (h|h)
      .exact h
      .rw [h,<-hgf];exact List.mem_cons_self ..
    .show fQ (g::l) n=_;rw[fM];by_cases hn:g.1=n
     .rw [if_pos hn];rfl
     .rw [if_neg hn,if_neg (fun e=>hn (by rw[heq,e]))];simp
   .rw [if_neg heq];have hfg:blt f.1 g.1=true:=by
     rcases zK g.1 f.1 heq with h3|h3
     .exact absurd h3 hlt
     .exact h3
    rw[Ep h hfg];refine⟨rfl,fun _=>⟨List.pairwise_cons.2 ⟨fun p hp=>?_,h⟩,fun p=>?_,fun n=>?_⟩,fun h=>by cases h⟩
    .rcases List.mem_cons.1 hp with hp|hp
     .rw [hp];exact hfg
     .exact mP hfg (h1 p hp)
    .show p∈f::g::l<->_;rw[List.mem_cons];exact or_comm
    .show fQ (f::g::l) n=_;rw[fM];by_cases hn:f.1=n
     .rw [if_pos hn];have:=Ep h hfg;rw[hn] at this;rw[this,if_pos hn];rfl
     .rw [if_neg hn,if_neg hn];cases fQ (g::l) n<;>rfl
theorem AA (fs:List Vd): ∀(l m:List Vd),Asc l->(∀n,fQ l n=fQ m n)->(∀f,f∈l<->f∈m)->
  ((bZ l fs).2=(iQ m fs).isSome)/\∀m',iQ m fs=some m'->Asc (bZ l fs).1/\(∀n,fQ (bZ l fs).1 n=fQ m' n)/\∀f,f∈(bZ l fs).1<->f∈m':=by
 induction fs with
 |nil=>
  intro l m hl hg hmem;refine⟨rfl,fun m' h=>?_⟩;injection h with h
  subst h;exact⟨hl,hg,hmem⟩
 |cons f fs ih=>
  intro l m hl hg hmem;obtain⟨e1,e2,e3⟩:=Me f l hl;unfold bZ iQ;rw[hg] at e1;cases hc:fQ m f.1 with
  |none=>
   rw[hc] at e1;rw[if_pos e1];obtain⟨a,b,c⟩:=e2 e1;refine ih _ _ a (fun n=>?_) (fun x=>?_)
   .rw [c n,XK,hg]
   .rw [b x,hmem,List.mem_append,List.mem_singleton]
  |some s=>
   rw[hc] at e1;simp only at e1⊢;by_cases hs:s=f.2
   .rw [dT hs] at e1;rw[if_pos e1,if_pos hs];obtain⟨a,b,c⟩:=e2 e1;have hfm:f∈m:=by
     have h4:=Eo hc;rw[hs] at h4;exact h4
    refine ih _ _ a (fun n=>?_) (fun x=>?_)
    .rw [c n,hg];by_cases hn:f.1=n
     .rw [<-hn,hc,hs];rfl
     .rw [if_neg hn];simp
    .rw [b x,hmem];constructor
     .rintro (h|h)
      .exact h
      .rw [h];exact hfm
     .exact fun h=> .inl h
   .rw [dF hs] at e1;rw[if_neg (by rw[e1];decide),if_neg hs];exact⟨rfl,fun m' h=>by cases h⟩
def jO (t:Tm):Option (List Vd):=iQ [] (vl (aV t))
theorem U1 (t:Tm):(jO t).isSome=true<->Cons (vl (aV t)):=by
 have hnil:Cons []:=fun f hf=>by cases hf
 obtain⟨h1,h2⟩:=Az (vl (aV t)) [] hnil;unfold jO;cases hc:iQ [] (vl (aV t)) with
 |none=>exact⟨fun h=>(by cases h),fun h=>absurd h (h2 hc)⟩
 |some m=>
  obtain⟨a,b,_⟩:=h1 m hc;refine⟨fun _ x hx y hy e=>a x ((b x).2 (.inr hx)) y ((b y).2 (.inr hy)) e,fun _=>rfl⟩
def aO (t:Tm):List Vd:=(bZ [] (vl (aV t))).1
theorem MV (t:Tm):(bZ [] (vl (aV t))).2=(jO t).isSome:=(AA (vl (aV t)) [] [] List.Pairwise.nil (fun _=>rfl) (fun _=>Iff.rfl)).1
def wf (nm:By->Bool) (t:Tm):Bool:=formed nm t&&(jO t).isSome
def dM (a b:By):Int:=if blt a b=true then -1 else if blt b a=true then 1 else 0
theorem vJ (a b:By):dM a b=0<->a=b:=by
 unfold dM;constructor
 .intro h;by_cases e:a=b
  .exact e
  .rcases zK a b e with h1|h1
   .rw [if_pos h1] at h;omega
   .rw [if_neg (by rw[XH h1];decide),if_pos h1] at h;omega
 .intro h;rw[h,fU];rfl
mutual
def eX:Tm->Tm->Int
 | .mk n s L,.mk m r M=>if decide (s≠ah)≠decide (r≠ah) then(if s≠ah then -1 else 1) else if dM n m≠0 then dM n m else if dM s r≠0 then dM s r else if L.length≠M.length then(if L.length<M.length then -1 else 1) else wF L M
def wF:List Tm->List Tm->Int
 |a::L,b::M=>if eX a b≠0 then eX a b else wF L M
 |_,_=>0
end
theorem Vq: ∀a b:Tm,eX a b=0<->a=b:=by
 refine ind (fun n s L ih b=>?_);obtain⟨m,r,M⟩:=b;have hL: ∀(L M:List Tm),(∀x∈L,∀y,eX x y=0<->x=y)->L.length=M.length->(wF L M=0<->L=M):=by
  intro L
  induction L with
  |nil=>intro M _ h;cases M with
   |nil=>simp[wF]
   |cons b M=>simp at h
  |cons a L ihL=>
   intro M h hl;cases M with
   |nil=>simp at hl
   |cons b M=>
    unfold wF;have h1:=h a (List.mem_cons_self ..) b;by_cases hz:eX a b=0
    .rw [if_neg (by simp[hz]),ihL M (fun x hx=>h x (List.mem_cons_of_mem _ hx)) (by simpa using hl),h1.1 hz];simp
    .rw [if_pos hz];constructor
     .intro h2;exact absurd h2 hz
     .intro h2;injection h2 with h2 h3;exact absurd (h1.2 h2) hz
 unfold eX;constructor
 .intro h;by_cases h1:decide (s≠ah)≠decide (r≠ah)
  .rw [if_pos h1] at h;split at h<;>omega
  rw[if_neg h1] at h;by_cases h2:dM n m=0
  .rw [if_neg (by simp[h2])] at h;by_cases h3:dM s r=0
   .rw [if_neg (by simp[h3])] at h;by_cases h4:L.length=M.length
    .rw [if_neg (by simp[h4])] at h;rw[(vJ n m).1 h2,(vJ s r).1 h3,(hL L M ih h4).1 h]
    .rw [if_pos h4] at h;split at h<;>omega
   .rw [if_pos h3] at h;exact absurd h h3
  .rw [if_pos h2] at h;exact absurd h h2
 .intro h;injection h with h1 h2 h3
  subst h1 h2 h3;rw[if_neg (by simp),if_neg (by simp[(vJ n n).2 rfl]),if_neg (by simp[(vJ s s).2 rfl]),if_neg (by simp)];exact(hL L L ih rfl).2 rfl
theorem Jn: ∀(L M:List Tm) (k:Nat),L.length=M.length->k<L.length->(∀j,j<k->eX (L.getD j default) (M.getD j default)=0)->eX (L.getD k default) (M.getD k default)≠0->wF L M=eX (L.getD k default) (M.getD k default)
 |[],_,k,_,h,_,_=>by simp at h
 |a::L,[],k,h,_,_,_=>by simp at h
 |a::L,b::M,0,_,_,_,h=>by
  unfold wF;exact if_pos h
 |a::L,b::M,k+1,hl,hk,h1,h2=>by
  unfold wF;have h0:eX a b=0:=h1 0 (by omega);rw[if_neg (by simp[h0])];exact Jn L M k (by simpa using hl) (by simpa using hk) (fun j hj=>h1 (j+1) (by omega)) h2
theorem FZ: ∀(L M:List Tm),L.length=M.length->(∀j,j<L.length->eX (L.getD j default) (M.getD j default)=0)->wF L M=0
 |[],[],_,_=>by simp[wF]
 |[],b::M,h,_=>by simp at h
 |a::L,[],h,_=>by simp at h
 |a::L,b::M,hl,h1=>by
  unfold wF;have h0:eX a b=0:=h1 0 (by simp);rw[if_neg (by simp[h0])];exact FZ L M (by simpa using hl) (fun j hj=>h1 (j+1) (by simpa using hj))
theorem acj (n s:By) (L:List Tm) (m r:By) (M:List Tm):eX (.mk n s L) (.mk m r M)=if decide (s≠ah)≠decide (r≠ah) then(if s≠ah then -1 else 1) else if dM n m≠0 then dM n m else if dM s r≠0 then dM s r else if L.length≠M.length then(if L.length<M.length then -1 else 1) else wF L M:=by
 unfold eX;rfl
structure dQ (G:Nat->Prop) (A B:World):Prop where
 size:A.heap.size<=B.heap.size
 cells: ∀k cs ty m,¬G k->A.heap[k]?=some (.cells cs ty m)->B.heap[k]?=some (.cells cs ty m)
theorem dQ.refl (G:Nat->Prop) (A:World):dQ G A A:=⟨Nat.le_refl _,fun _ _ _ _ _ h=>h⟩
theorem dQ.trans {G:Nat->Prop} {A B C:World} (h:dQ G A B) (k:dQ G B C):dQ G A C:=⟨Nat.le_trans h.size k.size,fun i cs ty m hG hc=>k.cells i cs ty m hG (h.cells i cs ty m hG hc)⟩
theorem dQ.CP {F G:Nat->Prop} {A B:World} (h:aj F A B) (hF: ∀k,k<A.heap.size->F k->G k):dQ G A B:=
 ⟨h.size,fun k cs ty m hG hc=>(h.block k (Array.getElem?_eq_some_iff.1 hc).1 (fun hf=>hG (hF k (Array.getElem?_eq_some_iff.1 hc).1 hf))).trans hc⟩
theorem dQ.oz {G:Nat->Prop} {A B:World} (h:Ext A B):dQ G A B:=dQ.CP h (fun _ _ h=>h.elim)
theorem dQ.putObj {G:Nat->Prop} (W:World) (l:Nat) (o o':Obj) (h:W.heap[l]?=some o) (hc:o.isCells=false):dQ G W (W.putObj l o'):=by
 refine⟨by simp[World.putObj],fun k cs ty m hG hk=>?_⟩;have hne:l≠k:=by
  intro e;rw[e,hk] at h;injection h with h
  rw[<-h] at hc;cases hc
 simp only[World.putObj];rw[Array.getElem?_setIfInBounds_ne hne];exact hk
theorem dQ.cell {G:Nat->Prop} {A B:World} (h:dQ G A B) {p:Addr} {v:Value} (hp: ¬G p.block) (hs:p.spot=none) (hc:A.cell? p=some v):B.cell? p=some v:=by
 cases hb:A.heap[p.block]? with
 |none=>simp[World.cell?,hb] at hc
 |some o=>
  cases o with
  |cells cs ty m=>
   have h2:=h.cells _ _ _ _ hp hb;simp only[World.cell?,hb] at hc;simp only[World.cell?,h2];exact hc
  |_=>simp[World.cell?,hb] at hc
theorem az.MI {G S:Nat->Prop} {A B:World} {size n:Nat} {v:Value} {cs:List Value} (h:az S A size v n cs) (hk:dQ G A B) (hS: ∀k,S k->¬G k):az S B size v n cs:=by
 refine⟨h.1,?_⟩;rcases h.2 with h2|⟨a,cap,e,hc,hs,hj⟩
 .exact .inl h2
 .refine .inr ⟨a,cap,e,hc,hs,fun j hjn=>?_⟩;have hn:0<n:=rE hjn;have h3:=hj j hjn;have hlen:j<cs.length:=by rw[h.1];exact hjn
  rw[List.getElem?_eq_getElem hlen] at h3⊢;exact hk.cell (hS _ (hs hn).2) (by rfl) h3
theorem aA.MI {G S:Nat->Prop} {A B:World} {L:List Tm} {v:Value} (h:aA S A L v) (hk:dQ G A B) (hS: ∀k,S k->¬G k):aA S B L v:=by
 induction h with
 |mk L us v hl h hkk ih=>exact⟨L,us,v,hl,h.MI hk hS,ih⟩
theorem aaP {w:World} {base:Nat} {e:TypeId} {size:Nat} {v:Value} {n:Nat} {xs:List Value} (h:w.ownsRow base e size v n xs) (hn:0<n):
  ∃g cap,v= .slice (some ⟨g,0,none⟩) n cap/\base<=g/\g<w.heap.size/\n<=cap/\(∀j,j<n*size->w.cell? ⟨g,j,none⟩=xs[j]?)/\∀j,w.frozen? ⟨g,j,none⟩=false:=by
 rcases h.2 with⟨_,h2⟩|⟨g,cap,cur,rfl,hb,hg,hc,hm,hs,ht⟩
 .omega
 .refine ⟨g,cap,rfl,hb,(Array.getElem?_eq_some_iff.1 hg).1,hc,fun j hj=>?_,fun j=>frozen_of_row w g j cur e hg⟩;rw[cell_of_row w g j cur e _ hg,<-ht,List.getElem?_take_of_lt hj];simp
theorem setBlock {w:World} {g:Nat} {cs:Array Value} {t:TypeId} (h:w.heap[g]?=some (.cells cs t (0,0))) (j:Nat) (u:Value):
  (w.setCell ⟨g,j,none⟩ u).heap[g]?=some (.cells (cs.setIfInBounds j u) t (0,0)):=by
 simp[World.setCell,Array.getElem?_modify,h]
theorem aj.iD {a w:World} (h:aj (fun _=>False) a w) {g j:Nat} (hg:a.heap.size<=g) (u:Value):aj (fun _=>False) a (w.setCell ⟨g,j,none⟩ u):=h.setCell (.inr hg) u
structure XW (w:World) where
 val:World
 ext:aj (fun _=>False) w val
instance (w:World):Nonempty (XW w):=⟨⟨w,aj.refl _ w⟩⟩
theorem aW {P:Program} {id:Nat} {Q:Exit->Act->World->Prop} {a:Act} {w:World} {l:List Oper} (w0:World) (h0:aj (fun _=>False) w0 w)
  (hm:P.follows .mixedOrders=true) (hB:Region.lexB .any l.toArray=true)
  (h:wpQuiet P l.toArray (fun w'=> ∃x:XW w0,w'=x.val) (fun a'=> ∀w',(∃x:XW w0,w'=x.val)->Q .normal a' w') l a):(Code.region id l.toArray true).wp P Q a w:=
 wp_region_quiet (C:=fun w'=> ∃x:XW w0,w'=x.val) hm hB ⟨⟨{w with drawn:=w.drawn+1},⟨h0.os,h0.tape,h0.output,h0.size,h0.block⟩⟩,rfl⟩ (by simpa using h)
theorem XW.call {P:Program} {f:FuncId} {args:Array Value} {w0:World} {x:XW w0} {v:Value} (h:Calls P f args x.val fun e w'=>e= .returned v/\aj (fun _=>False) x.val w'):
  Calls P f args x.val fun e w''=>e= .returned v/\∃y:XW w0,w''=y.val:=
 h.mono fun _ _ ⟨he,hx⟩=>⟨he,⟨_,x.ext.trans hx⟩,rfl⟩
section
section
variable {κ:Type} [DecidableEq κ]
def jv (l:List (κ×Value)) (k:κ):Option Value:=(l.find? fun p=>decide (p.1=k)).map (·.2)
def nO (l:List (κ×Value)) (k:κ) (v:Value):List (κ×Value):=
 match l with
 |[]=>[(k,v)]
 |p::l=>if p.1=k then(k,v)::l else p::nO l k v
theorem jR (p:κ×Value) (l:List (κ×Value)) (k:κ):jv (p::l) k=if p.1=k then some p.2 else jv l k:=by
 unfold jv;rw[List.find?_cons];by_cases h:p.1=k
 .rw [if_pos h,dT h];rfl
 .rw [if_neg h,dF h]
theorem KF (l:List (κ×Value)) (k j:κ) (v:Value):jv (nO l k v) j=if j=k then some v else jv l j:=by
 induction l with
 |nil=>
  unfold nO;rw[jR];by_cases h:j=k
  .rw [if_pos h,if_pos h.symm]
  .rw [if_neg h,if_neg (fun e=>h e.symm)]
 |cons p l ih=>
  unfold nO;by_cases h:p.1=k
  .rw [if_pos h,jR,jR];by_cases h2:j=k
   .rw [if_pos h2,if_pos h2.symm]
   .rw [if_neg h2,if_neg (fun e=>h2 e.symm),if_neg (fun e=>h2 (by rw[<-e,h]))]
  .rw [if_neg h,jR,jR,ih];by_cases h2:j=k
   .subst h2;rw[if_neg h,if_pos rfl,if_pos rfl]
   .rw [if_neg h2,if_neg h2]
structure Ip (P:Program) (kt:TypeId) (enc:κ->Value):Prop where
 check: ∀b x W,(Instr.checkKey b 10000 kt (enc x)).run P W= .ok () W
 find: ∀x (es:List MapEntry) (l:List (κ×Value)) W,es.map (fun e=>(e.key,e.val))=l.map (fun p=>(enc p.1,p.2))->
  (Instr.findKey kt (enc x) es).run P W= .ok ((l.findIdx? fun p=>decide (p.1=x)).map fun i=>(i,((l[i]?).map (·.2)).getD (.bool false))) W
 same: ∀x,Instr.sameBits 10000 (enc x) (enc x)=true
def dN (enc:κ->Value) (w:World) (b:Nat) (l:List (κ×Value)):Prop:=
 ∃es clock,w.heap[b]?=some (.map es clock)/\es.toList.map (fun e=>(e.key,e.val))=l.map (fun p=>(enc p.1,p.2))/\es.toList.Pairwise (fun x y=>x.born<y.born)/\∀e∈es.toList,e.born<clock
omit [DecidableEq κ] in
theorem dN.made (enc:κ->Value) (w:World):dN enc (w.alloc (.map #[] 0)) w.heap.size []:=⟨#[],0,ai _ _,rfl,List.Pairwise.nil,fun _ h=>by cases h⟩
omit [DecidableEq κ] in
theorem dN.kept {enc:κ->Value} {F:Nat->Prop} {w w':World} {b:Nat} {l:List (κ×Value)} (h:dN enc w b l) (hu:aj F w w') (hF: ¬F b):dN enc w' b l:=by
 obtain⟨es,c,h1,h2⟩:=h;exact⟨es,c,hu.heap h1 hF,h2⟩
omit [DecidableEq κ] in
theorem dN.ext {enc:κ->Value} {w w':World} {b:Nat} {l:List (κ×Value)} (h:dN enc w b l) (hu:Ext w w'):dN enc w' b l:=h.kept hu (fun h=>h)
omit [DecidableEq κ] in
theorem dN.lt {enc:κ->Value} {w:World} {b:Nat} {l:List (κ×Value)} (h:dN enc w b l):b<w.heap.size:=by
 obtain⟨es,c,h1,_⟩:=h;exact(Array.getElem?_eq_some_iff.1 h1).1
theorem Gl (l:List (κ×Value)) (k:κ):(l.findIdx? fun p=>decide (p.1=k)).map (fun i=>((l[i]?).map (·.2)).getD (.bool false))=jv l k:=by
 induction l with
 |nil=>rfl
 |cons p l ih=>
  rw[List.findIdx?_cons,jR];by_cases h:p.1=k
  .rw [if_pos h,dT h];rfl
  .rw [if_neg h,dF h,<-ih];simp only[Bool.false_eq_true,if_false,Option.map_map];rfl
theorem dN.get {P:Program} {enc:κ->Value} {kt et t:TypeId} (K:Ip P kt enc) (ht:P.underlying t=some (.map kt et)) {w:World} {b:Nat} {l:List (κ×Value)} {z:Value} (hz:(zeroValue et).run P w= .ok z w) (h:dN enc w b l) (k:κ) (c:Bool):
  (Instr.lookup t (.map (some b)) (enc k) c).run P w= .ok (if c then .tuple #[(jv l k).getD z,.bool (jv l k).isSome] else(jv l k).getD z) w:=by
 obtain⟨es,cl,h1,h2,_⟩:=h;have hf:=K.find k es.toList l w h2;have hc:=K.check es.isEmpty k w;rw[<-Gl];generalize hx:(l.findIdx? fun p=>decide (p.1=k))=x at*;cases x with
 |none=>cases c<;>simp[Instr.lookup,run_underlying ht,MapKept.run_getObj_map h1,hc,hf,hz,Result.andThen]
 |some i=>cases c<;>simp[Instr.lookup,run_underlying ht,MapKept.run_getObj_map h1,hc,hf,hz,Result.andThen]
theorem Ob (l:List (κ×Value)) (k:κ) (v:Value):nO l k v=match l.findIdx? fun p=>decide (p.1=k) with|some i=>l.set i (k,v)|none=>l++[(k,v)]:=by
 induction l with
 |nil=>rfl
 |cons p l ih=>
  unfold nO;rw[List.findIdx?_cons];by_cases h:p.1=k
  .rw [if_pos h,dT h];rfl
  .rw [if_neg h,dF h,ih];cases(l.findIdx? fun p=>decide (p.1=k))<;>rfl
theorem dN.put {P:Program} {enc:κ->Value} {kt et t:TypeId} (K:Ip P kt enc) (ht:P.underlying t=some (.map kt et)) {w:World} {b:Nat} {l:List (κ×Value)} (h:dN enc w b l) (k:κ) (v:Value):
  ∃w',(Instr.mapUpdate t (.map (some b)) (enc k) v).run P w= .ok () w'/\dN enc w' b (nO l k v)/\aj (fun j=>j=b) w w':=by
 obtain⟨es,cl,h1,h2,h3,h4⟩:=h;have hf:=K.find k es.toList l w h2;have hc:=K.check false k w;have hblt:=(Array.getElem?_eq_some_iff.1 h1).1;have JD: ∀o,aj (fun j=>j=b) w {w with heap:=w.heap.setIfInBounds b o}:=fun o=>
  ⟨rfl,rfl,rfl,by simp,fun i hi hF=>by simp[Ne.symm (show i≠b from hF)]⟩
 rw[Ob];generalize hx:(l.findIdx? fun p=>decide (p.1=k))=x at*;cases x with
 |none=>
  refine⟨_,by simp[Instr.mapUpdate,run_underlying ht,MapKept.run_getObj_map h1,hc,hf,MapKept.run_setObj_map _ h1,Result.andThen];rfl,⟨es.push {key:=enc k,val:=v,born:=cl},cl+1,by simp[hblt],?_,?_,?_⟩,JD _⟩
  .simp [h2]
  .simp only [Array.toList_push];rw[List.pairwise_append];refine⟨h3,by simp,fun x hx y hy=>?_⟩;rw[List.mem_singleton] at hy;subst hy;exact h4 x hx
  .intro e he;simp only[Array.toList_push,List.mem_append,List.mem_singleton] at he;rcases he with he|he
   .have:=h4 e he;omega
   .subst he;simp
 |some i=>
  have hi:i<l.length:=by
   rw[List.findIdx?_eq_some_iff_getElem] at hx;exact hx.1
  have hlen:es.size=l.length:=by
   have:=congrArg List.length h2;simpa using this
  have hki:(l[i]'hi).1=k:=by
   rw[List.findIdx?_eq_some_iff_getElem] at hx;simpa using hx.2.1
  have hes:(es[i]'(by omega)).key=enc k:=by
   have h5:(es.toList.map (fun e=>(e.key,e.val)))[i]?=(l.map (fun p=>(enc p.1,p.2)))[i]?:=by rw[h2]
   rw[List.getElem?_map,List.getElem?_map,Array.getElem?_toList,Array.getElem?_eq_getElem (show i<es.size by omega),List.getElem?_eq_getElem hi] at h5;simp only[Option.map_some] at h5;have h6:=congrArg Prod.fst (Option.some.inj h5);simp only at h6;rw[h6,hki]
  have hst:(Instr.keyThatStays (((es[i]?).map (·.key)).getD (enc k)) (enc k)).run P w= .ok (enc k) w:=by
   rw[Array.getElem?_eq_getElem (show i<es.size by omega)];simp only[Option.map_some,Option.getD_some,hes];unfold Instr.keyThatStays;rw[if_pos (K.same k)];rfl
  refine⟨_,by simp[Instr.mapUpdate,run_underlying ht,MapKept.run_getObj_map h1,hc,hf,hst,MapKept.run_setObj_map _ h1,Result.andThen];rfl,⟨es.modify i fun e=>{e with key:=enc k,val:=v},cl,by simp[hblt],?_,?_,?_⟩,JD _⟩
  .rw [Array.toList_modify];apply List.ext_getElem?;intro j;have h5:(es.toList.map (fun e=>(e.key,e.val)))[j]?=(l.map (fun p=>(enc p.1,p.2)))[j]?:=by rw[h2]
   simp only[List.getElem?_map,List.getElem?_modify,List.getElem?_set] at h5⊢;by_cases e:i=j
   .subst e;rw[if_pos rfl,if_pos hi];rw[Array.getElem?_toList,Array.getElem?_eq_getElem (show i<es.size by omega)];simp
   .rw [if_neg e];cases hq:es.toList[j]? with
    |none=>rw[hq] at h5;simpa using h5
    |some u=>rw[hq] at h5;simpa[e] using h5
  .rw [Array.toList_modify];have e:(es.toList.modify i fun e=>{e with key:=enc k,val:=v}).map (·.born)=es.toList.map (·.born):=by
    apply List.ext_getElem?;intro j;simp only[List.getElem?_map,List.getElem?_modify];cases es.toList[j]? with
    |none=>rfl
    |some u=>simp only[Option.map_some];split<;>rfl
   have h6:(es.toList.map (·.born)).Pairwise (· < ·):=List.pairwise_map.2 h3;rw[<-e] at h6;exact List.pairwise_map.1 h6
  .intro e he;rw[Array.toList_modify] at he;have h7:e.born∈(es.toList.modify i fun e=>{e with key:=enc k,val:=v}).map (·.born):=List.mem_map_of_mem he;have e2:(es.toList.modify i fun e=>{e with key:=enc k,val:=v}).map (·.born)=es.toList.map (·.born):=by
    apply List.ext_getElem?;intro j;simp only[List.getElem?_map,List.getElem?_modify];cases es.toList[j]? with
    |none=>rfl
    |some u=>simp only[Option.map_some];split<;>rfl
   rw[e2] at h7;obtain⟨u,hu,he2⟩:=List.mem_map.1 h7;rw[<-he2];exact h4 u hu
end
theorem oJ {P:Program} {kt:TypeId} (hk:P.underlying kt=some .string):Ip P kt (fun s:ByteArray=>Value.string s) where
 check b x W:=MapKept.run_checkKey hk (by simp[MapKept.IsKey]) b 9999
 same x:=by
  show(x==x)=true;exact(MapKept.bytes_beq _ _).2 rfl
 find x es l W h:=by
  refine MapKept.run_findKey hk ?_;have: ∀(es:List MapEntry) (l:List (ByteArray×Value)) (i:Nat),es.map (fun e=>(e.key,e.val))=l.map (fun p=>(Value.string p.1,p.2))->
    Instr.findNow .string (.string x) es i=some ((l.findIdx? fun p=>decide (p.1=x)).map fun j=>(i+j,((l[j]?).map (·.2)).getD (.bool false))):=by
   intro es
   induction es with
   |nil=>
    intro l i h;have:l=[]:=by cases l;rfl;simp at h
    subst this;rfl
   |cons e es ih=>
    intro l i h;cases l with
    |nil=>simp at h
    |cons p l=>
     simp only[List.map_cons,List.cons.injEq,Prod.mk.injEq] at h;obtain⟨⟨h1,h2⟩,h3⟩:=h;unfold Instr.findNow;rw[h1];simp only[Instr.sameNow];rw[List.findIdx?_cons];by_cases hx:p.1=x
     .have hb:(x==p.1)=true:=(MapKept.bytes_beq _ _).2 hx.symm;rw[hb,dT hx];simp[h2]
     .have hb:(x==p.1)=false:=by
       rw[Bool.eq_false_iff];intro e;exact hx ((MapKept.bytes_beq _ _).1 e).symm
      rw[hb,dF hx];simp only;rw[ih l (i+1) h3];cases(l.findIdx? fun p=>decide (p.1=x)) with
      |none=>rfl
      |some j=>simp;omega
  have h2:=this es l 0 h;simpa using h2
end
abbrev vg (l:List Vd) (i:Nat):Vd:=l.getD i (ah,ah)
def mJ (l:List Vd) (f:Vd):Nat:=match l with
 |[]=>0
 |g::l=>if blt g.1 f.1=true then mJ l f+1 else 0
theorem XM (f:Vd): ∀l:List Vd,mJ l f<=l.length
 |[]=>Nat.le_refl _
 |g::l=>by
  unfold mJ;split
  .simpa using XM f l
  .simp
theorem XN (f:Vd): ∀(l:List Vd) (j:Nat),j<mJ l f->blt (vg l j).1 f.1=true
 |[],j,h=>by simp[mJ] at h
 |g::l,j,h=>by
  unfold mJ at h;split at h
  .rename_i hb
   cases j with
   |zero=>exact hb
   |succ j=>exact XN f l j (by omega)
  .simp at h
theorem XO (f:Vd): ∀(l:List Vd),mJ l f<l.length->blt (vg l (mJ l f)).1 f.1=false
 |[],h=>by simp at h
 |g::l,h=>by
  unfold mJ at h⊢;by_cases hb:blt g.1 f.1=true
  .rw [if_pos hb] at h⊢;exact XO f l (by simpa using h)
  .rw [if_neg hb];exact Bool.eq_false_iff.2 hb
theorem NH (l:List Vd) (f:Vd) (k:Nat) (hk:k<=l.length) (h1: ∀j,j<k->blt (vg l j).1 f.1=true) (h2:k<l.length->blt (vg l k).1 f.1=false):mJ l f=k:=by
 rcases Nat.lt_trichotomy (mJ l f) k with h|h|h
 .have h3:=XO f l (by omega);rw[h1 _ h] at h3;cases h3
 .exact h
 .have h3:=XN f l k h;rw[h2 (by have:=XM f l;omega)] at h3;cases h3
theorem QN (f:Vd): ∀l:List Vd,gm l f=if mJ l f<l.length/\(vg l (mJ l f)).1=f.1 then(l,decide ((vg l (mJ l f)).2=f.2)) else(l.take (mJ l f)++f::l.drop (mJ l f),true)
 |[]=>by simp[gm,mJ]
 |g::l=>by
  have ih:=QN f l;unfold gm mJ;by_cases hb:blt g.1 f.1=true
  .rw [if_pos hb,if_pos hb];have e:vg (g::l) (mJ l f+1)=vg l (mJ l f):=rfl;by_cases hc:mJ l f<l.length/\(vg l (mJ l f)).1=f.1
   .rw [if_pos hc] at ih;rw[ih];exact(if_pos (c:=mJ l f+1< (g::l).length/\(vg (g::l) (mJ l f+1)).1=f.1) ⟨by simpa using hc.1,hc.2⟩).symm
   .rw [if_neg hc] at ih;rw[ih,if_neg (fun h=>hc ⟨by simpa using h.1,h.2⟩)];simp
  .rw [if_neg hb,if_neg hb];by_cases hc:g.1=f.1
   .rw [if_pos hc];exact(if_pos (c:=0< (g::l).length/\(vg (g::l) 0).1=f.1) ⟨by simp,hc⟩).symm
   .rw [if_neg hc,if_neg (fun h=>hc h.2)];simp
def bu (l:List Vd):List Value:=l.flatMap fun f=>[.string f.1,.string f.2]
theorem TM (l:List Vd):(bu l).length=l.length*2:=by
 induction l with
 |nil=>rfl
 |cons a l ih=>simp only[bu,List.flatMap_cons,List.length_append,List.length_cons,List.length_nil] at ih⊢;omega
theorem qA (l m:List Vd):bu (l++m)=bu l++bu m:=by simp[bu]
theorem MB: ∀(l:List Vd) (i:Nat),i<l.length->(bu l)[i*2]?=some (.string (vg l i).1)/\(bu l)[i*2+1]?=some (.string (vg l i).2)
 |a::l,0,_=>⟨rfl,rfl⟩
 |a::l,i+1,h=>by
  obtain⟨h0,h1⟩:=MB l i (by simpa using h);have e: ∀k,(bu (a::l))[(i+1)*2+k]?=(bu l)[i*2+k]?:=fun k=>by
   rw[show(i+1)*2+k=i*2+k+1+1 by omega];rfl
  exact⟨by rw[<-Nat.add_zero ((i+1)*2),e];exact h0,by rw[e];exact h1⟩
theorem E8 (l:List Vd): ∀k,(bu l).take (k*2)=bu (l.take k):=by
 induction l with
 |nil=>intro k;simp[bu]
 |cons a l ih=>
  intro k;cases k with
  |zero=>simp[bu]
  |succ k=>
   have h:=ih k;simp only[bu,List.flatMap_cons,List.take_succ_cons] at h⊢;rw[show(k+1)*2=k*2+1+1 by omega];simp only[List.cons_append,List.nil_append,List.take_succ_cons,h]
theorem E_ (l:List Vd): ∀k,(bu l).drop (k*2)=bu (l.drop k):=by
 induction l with
 |nil=>intro k;simp[bu]
 |cons a l ih=>
  intro k;cases k with
  |zero=>simp[bu]
  |succ k=>
   have h:=ih k;simp only[bu,List.flatMap_cons,List.drop_succ_cons] at h⊢;rw[show(k+1)*2=k*2+1+1 by omega];simp only[List.cons_append,List.nil_append,List.drop_succ_cons,h]
theorem kU (l:List Vd): ∀u∈bu l,u.oneCell'=true:=by
 intro u hu;unfold bu at hu;rw[List.mem_flatMap] at hu;obtain⟨f,_,hf⟩:=hu;simp at hf;rcases hf with rfl|rfl<;>rfl
def bU (S:Nat->Prop) (w:World) (v:Value) (l:List Vd):Prop:=az S w 2 v l.length (bu l)
theorem bU.shape {S:Nat->Prop} {w:World} {v:Value} {l:List Vd} (h:bU S w v l): ∃a cap,v= .slice a l.length cap:=az.shape h
theorem bU.ext {S:Nat->Prop} {w w':World} {v:Value} {l:List Vd} (h:bU S w v l) (hu:Ext w w'):bU S w' v l:=az.kept h hu (fun _ _ h=>h)
theorem bU.at_ {S:Nat->Prop} {w:World} {a:Option Addr} {n cap:Nat} {l:List Vd} (h:bU S w (.slice a n cap) l) (hl:0<l.length):
  ∃g off,a=some ⟨g,off,none⟩/\∀i,i<l.length->w.cell? ⟨g,off+i*2,none⟩=some (.string (vg l i).1)/\w.cell? ⟨g,off+i*2+1,none⟩=some (.string (vg l i).2):=by
 obtain⟨g,off,c,e,_,_,hj⟩:=az.pos h hl;injection e with e1 e2 e3
 refine⟨g,off,e1,fun i hi=>?_⟩;obtain⟨h0,h1⟩:=MB l i hi;exact⟨by rw[hj _ (by omega),h0],by rw[Nat.add_assoc,hj _ (by omega),h1]⟩
section
section
variable {P:Program} {ops:Array Oper} {Q:Exit->Act->World->Prop} {md:Region.Mode} {S:World->Prop} {n:Nat}
def xR (P:Program) (md:Region.Mode) (ops:Array Oper) (Q:Exit->Act->World->Prop) (S:World->Prop) (n:Nat):Nat->Array Bool->Act->World->Prop
 |0,l,a,w=>Region.ready md ops l=[]/\Q .normal a w
 |f+1,l,a,w=>
  (Region.ready md ops l=[]->Q .normal a w)/\
  ∀i∈Region.ready md ops l,wpOp P ops Q i (fun a' w'=>(S w'\/(l.setIfInBounds i true).getD n false=true)/\xR P md ops Q S n f (l.setIfInBounds i true) a' w') a w
theorem vY: ∀(f:Nat) (l:Array Bool) (a:Act) (w:World),xR P md ops Q S n f l a w->wpAny P md ops Q f l a w
 |0,_,_,_,h=>h
 |f+1,_,_,_,h=>⟨h.1,fun i hi=>wpOp_mono (fun a' w' h'=>vY f _ a' w' h'.2) (h.2 i hi)⟩
structure qM (md:Region.Mode) (ops:Array Oper) (l:Array Bool):Prop where
 size:l.size=ops.size
 back: ∀j o,ops[j]?=some o->l.getD j false=true->∀e∈o.after,Region.binds md e=true->l.getD e.on false=true
theorem xe {l:Array Bool} {i:Nat} (h:l.getD i true=false):l.getD i false=false:=by
 rcases Nat.lt_or_ge i l.size with h'|h'
 .simp [h'] at h⊢;exact h
 .simp [Array.getElem?_eq_none h'] at h
theorem Q5 {l:Array Bool} {i:Nat} (hi:i<l.size) (h:l.getD i false=false):l.getD i true=false:=by
 simp[hi] at h⊢;exact h
theorem qM.step {l:Array Bool} {i:Nat} (h:qM md ops l) (hi:i∈Region.ready md ops l):qM md ops (l.setIfInBounds i true):=by
 obtain⟨_,oi,hoi,hall⟩:=mem_ready.1 hi;refine⟨by rw[Array.size_setIfInBounds];exact h.size,fun j o ho hl e he hb=>?_⟩;by_cases hij:i=j
 .subst hij;obtain rfl:oi=o:=Option.some.inj (hoi.symm.trans ho);exact getD_set_true (hall e he hb)
 .rw [getD_set_ne false hij] at hl;exact getD_set_true (h.back j o ho hl e he hb)
theorem qM.start:qM md ops (Array.replicate ops.size false):=
 ⟨by simp,fun j o _ hl=>by
  rcases Nat.lt_or_ge j ops.size with h|h
  .simp [h] at hl
  .simp [h] at hl⟩
theorem JC {l:Array Bool} (hs:Region.sinkB md ops n=true) (h:qM md ops l): ∀(k i:Nat),n-i<=k->i<n->l.getD i true=false->n∉Region.ready md ops l:=by
 intro k
 induction k with
 |zero=>intro i h1 h2;omega
 |succ k ih=>
  intro i hd hi hun hr;obtain⟨_,ot,hot,hall⟩:=mem_ready.1 hr;obtain⟨j,hj,hj2⟩:=List.any_eq_true.1 (List.all_eq_true.1 hs i (List.mem_range.2 hi));simp only[Bool.and_eq_true,decide_eq_true_eq] at hj2;have hjn:=List.mem_range.1 hj;obtain⟨oj,hoj,e,he,hb,hon⟩:=Region.waitsFor_spec hj2.2;have hjl:l.getD j false=true->False:=fun hl=>by
   have:=h.back j oj hoj hl e he hb;rw[hon,xe hun] at this;cases this
  by_cases hjt:j=n
  .subst hjt;obtain rfl:oj=ot:=Option.some.inj (hoj.symm.trans hot);have:=hall e he hb;rw[hon,xe hun] at this;cases this
  .cases hl:l.getD j false with
   |true=>exact hjl hl
   |false=>
    have hjs:j<l.size:=by rw[h.size];exact(Array.getElem?_eq_some_iff.1 hoj).1
    exact ih j (by omega) (by omega) (Q5 hjs hl) hr
theorem Dz {i:Nat} {oi:Oper} {v:Value} (hi:ops[i]?=some oi) (hsel: ∀(j:Nat) (o:Oper) cs b,ops[j]?=some o->o.op≠ .select cs b)
  (hQ: ∀c a w,Q (.panic c) (a.put oi.dst v) w->Q (.panic c) a w) (hs:Region.sinkB md ops n=true) (hin:i<n):
  ∀(f:Nat) (l:Array Bool) (a:Act) (w:World),qM md ops l->l.getD n false=false->
   (∀j oj,ops[j]?=some oj->j≠i->l.getD j true=false->(∀e∈oj.after,Region.binds md e=true->e.on≠i)->oi.apart ops oj=true)->
   i∈Region.ready md ops l->YieldsIf P ops S oi v a->S w->
   xR P md ops Q S n f (l.setIfInBounds i true) (a.put oi.dst v) w->xR P md ops Q S n (f+1) l a w:=by
 intro f
 induction f with
 |zero=>
  intro l a w _ _ _ hr hy hS H;refine⟨fun h=>(by rw[h] at hr;cases hr),fun j hj=>?_⟩;by_cases hji:j=i
  .subst hji;exact hy.wpOp hi hS ⟨.inl hS,H⟩
  .have:=ready_mono hj hji;rw[H.1] at this;cases this
 |succ f ih=>
  intro l a w hd hn hfree hr hy hS H;have hun:=(mem_ready.1 hr).1;refine⟨fun h=>(by rw[h] at hr;cases hr),fun j hj=>?_⟩;by_cases hji:j=i
  .subst hji;exact hy.wpOp hi hS ⟨.inl hS,H⟩
  .have hjn:j≠n:=fun e=>by subst e;exact JC hs hd _ i (Nat.le_refl _) hin hun hj
   obtain⟨hjun,oj,hoj,hall⟩:=mem_ready.1 hj;have hnot: ∀e∈oj.after,Region.binds md e=true->e.on≠i:=fun e he hb heq=>by
    have h1:=hall e he hb;rw[heq,xe hun] at h1;cases h1
   have h2:=wpOp_putIf hoj (hfree j oj hoj hji hjun hnot) (fun cs b=>hsel i oi cs b hi) (fun cs b=>hsel j oj cs b hoj) hQ hy (H.2 j (ready_mono hj hji));have hn':(l.setIfInBounds j true).getD n false=false:=by rw[getD_set_ne false hjn];exact hn
   have hfree': ∀k ok,ops[k]?=some ok->k≠i->(l.setIfInBounds j true).getD k true=false->
     (∀e∈ok.after,Region.binds md e=true->e.on≠i)->oi.apart ops ok=true:=fun k ok hk hki hun' hno=>by
    refine hfree k ok hk hki ?_ hno;by_cases hjk:j=k
    .subst hjk;exact hjun
    .rw [getD_set_ne true hjk] at hun';exact hun'
   refine wpOp_mono (fun a' w' h3=>?_) h2;obtain⟨hy',hSw,ht⟩:=h3;have aeD:S w':=by
    rcases hSw with h|h
    .exact h
    .rw [getD_set_ne false hjn,getD_set_ne false (by omega),hn] at h;cases h
   refine⟨.inl aeD,ih (l.setIfInBounds j true) a' w' (hd.step hj) hn' hfree' (ready_mono hr (Ne.symm hji)) hy' aeD ?_⟩;rw[Array.setIfInBounds_comm _ _ hji];exact ht
theorem DC {k f:Nat} {l:Array Bool} {a:Act} {w:World} (hr:Region.ready md ops l=[k])
  (h:wpOp P ops Q k (fun a' w'=>(S w'\/(l.setIfInBounds k true).getD n false=true)/\xR P md ops Q S n f (l.setIfInBounds k true) a' w') a w):xR P md ops Q S n (f+1) l a w:=by
 refine⟨fun h0=>?_,fun i hi=>?_⟩
 .rw [hr] at h0;cases h0
 .rw [hr] at hi;have:i=k:=by simpa using hi
  subst this;exact h
def pU (md:Region.Mode) (ops:Array Oper) (n:Nat):List (Nat×Nat)->Array Bool->Bool
 |[],l=>(Region.ready md ops l).isEmpty
 |(k,0)::r,l=>(Region.ready md ops l).contains k&&Region.free md ops l k&&decide (k<n)&&!l.getD n false&&pU md ops n r (l.setIfInBounds k true)
 |(k,1)::r,l=>decide (Region.ready md ops l=[k])&&pU md ops n r (l.setIfInBounds k true)
 |(k,_+2)::r,l=>decide (Region.ready md ops l=[k])&&(l.setIfInBounds k true).getD n false&&pU md ops n r (l.setIfInBounds k true)
def cu (P:Program) (ops:Array Oper) (Q:Exit->Act->World->Prop) (S:World->Prop):List (Nat×Oper)->Act->World->Prop
 |[],a,w=>Q .normal a w
 |(0,o)::r,a,w=>if Region.wanted o (yielded ops a.tmps) then ∃v,(∀W,S W->(execOp a.eval o).run P W= .ok (.value v) W)/\cu P ops Q S r (a.put o.dst v) w else cu P ops Q S r (a.put o.dst undef) w
 |(1,o)::r,a,w=>if Region.wanted o (yielded ops a.tmps) then o.wp P a w (fun a' w'=>S w'/\cu P ops Q S r a' w') Q else cu P ops Q S r (a.put o.dst undef) w
 |(_+2,o)::r,a,w=>if Region.wanted o (yielded ops a.tmps) then o.wp P a w (cu P ops Q S r) Q else cu P ops Q S r (a.put o.dst undef) w
def gG (l:List Oper):List (Nat×Nat)->List (Nat×Oper)
 |[]=>[]
 |(k,b)::r=>match l[k]? with
  |some o=>(b,o)::gG l r
  |none=>gG l r
theorem BI {l:List Oper} (hsel:Region.noSelect l.toArray=true) (hs:Region.sinkB md l.toArray n=true) (hQ: ∀c a d v w,Q (.panic c) (Act.put a d v) w->Q (.panic c) a w):
  ∀(ord:List (Nat×Nat)) (t:Array Bool) (a:Act) (w:World),qM md l.toArray t->(S w\/t.getD n false=true)->pU md l.toArray n ord t=true->
   cu P l.toArray Q S (gG l ord) a w->xR P md l.toArray Q S n ord.length t a w:=by
 intro ord
 induction ord with
 |nil=>intro t a w _ _ hB h;exact⟨by simpa[pU] using hB,h⟩
 |cons p r ih=>
  intro t a w hd hS hB h;obtain⟨k,b⟩:=p;have hkr:k∈Region.ready md l.toArray t:=by
   match b,hB with
   |0,hB=>simp only[pU,Bool.and_eq_true] at hB;simpa using hB.1.1.1.1
   |1,hB=>simp only[pU,Bool.and_eq_true,decide_eq_true_eq] at hB;rw[hB.1];simp
   |_+2,hB=>simp only[pU,Bool.and_eq_true,decide_eq_true_eq] at hB;rw[hB.1.1];simp
  obtain⟨_,o,ho,_⟩:=mem_ready.1 hkr;have ho':l[k]?=some o:=by simpa using ho
  have hd':=hd.step hkr;simp only[gG,ho'] at h
  match b,hB,h with
  |0,hB,h=>
   simp only[pU,Bool.and_eq_true,decide_eq_true_eq,Bool.not_eq_true'] at hB;obtain⟨⟨⟨⟨_,hf⟩,hkn⟩,htn⟩,hB⟩:=hB;have hSw:S w:=by
    rcases hS with h|h
    .exact h
    .rw [htn] at h;cases h
   simp only[cu] at h;by_cases hw:Region.wanted o (yielded l.toArray a.tmps)=true
   .rw [if_pos hw] at h;obtain⟨v,hv,h⟩:=h;exact Dz ho (Region.noSelect_spec hsel) (fun c a w=>hQ c a _ v w) hs hkn _ t a w hd htn (Region.free_spec ho hf) hkr (.inl ⟨hw,hv⟩) hSw (ih _ _ _ hd' (.inl hSw) hB h)
   .rw [if_neg hw] at h;exact Dz ho (Region.noSelect_spec hsel) (fun c a w=>hQ c a _ undef w) hs hkn _ t a w hd htn (Region.free_spec ho hf) hkr (.inr ⟨by simpa using hw,rfl⟩) hSw (ih _ _ _ hd' (.inl hSw) hB h)
  |1,hB,h=>
   simp only[pU,Bool.and_eq_true,decide_eq_true_eq] at hB;refine DC hB.1 ?_;unfold wpOp;simp only[ho];simp only[cu] at h;by_cases hw:Region.wanted o (yielded l.toArray a.tmps)=true
   .rw [if_pos hw] at h⊢;exact .inl (Oper.wp_mono (fun a' w' h'=>⟨.inl h'.1,ih _ _ _ hd' (.inl h'.1) hB.2 h'.2⟩) h)
   .rw [if_neg hw] at h⊢;have hS':S w\/(t.setIfInBounds k true).getD n false=true:=hS.imp id getD_set_true;exact⟨hS',ih _ _ _ hd' hS' hB.2 h⟩
  |b+2,hB,h=>
   simp only[pU,Bool.and_eq_true,decide_eq_true_eq] at hB;refine DC hB.1.1 ?_;unfold wpOp;simp only[ho];simp only[cu] at h;by_cases hw:Region.wanted o (yielded l.toArray a.tmps)=true
   .rw [if_pos hw] at h⊢;exact .inl (Oper.wp_mono (fun a' w' h'=>⟨.inr hB.1.2,ih _ _ _ hd' (.inr hB.1.2) hB.2 h'⟩) h)
   .rw [if_neg hw] at h⊢;exact⟨.inr hB.1.2,ih _ _ _ hd' (.inr hB.1.2) hB.2 h⟩
theorem MF {id:Nat} {a:Act} {w:World} {l:List Oper} (ord:List (Nat×Nat)) (n:Nat) (S:World->Prop) (hm:P.follows .mixedOrders=true)
  (hB:(Region.noSelect l.toArray&&Region.sinkB .any l.toArray n&&decide (ord.length=l.length)&&pU .any l.toArray n ord (Array.replicate l.toArray.size false))=true)
  (hQ: ∀c a d v w,Q (.panic c) (Act.put a d v) w->Q (.panic c) a w) (hS:S w.drew) (h:cu P l.toArray Q S (gG l ord) a w.drew):(Code.region id l.toArray true).wp P Q a w:=by
 simp only[Bool.and_eq_true,decide_eq_true_eq] at hB;obtain⟨⟨⟨h1,h2⟩,h3⟩,h4⟩:=hB;refine wp_region_any hm (vY _ _ _ _ (n:=n) (S:=S) ?_);have:=BI (P:=P) (S:=S) h1 h2 hQ ord _ a w.drew qM.start (.inl hS) h4 h;rw[h3] at this;exact this
theorem YE {o:Oper} {r:List (Nat×Oper)} {a:Act} {w:World}
  (h: ∀K:Act->Prop,(∀a,cu P ops Q S r a w->K a)->if Region.wanted o (yielded ops a.tmps) then ∃v,(∀W,S W->(execOp a.eval o).run P W= .ok (.value v) W)/\K (a.put o.dst v) else K (a.put o.dst undef)):
  cu P ops Q S ((0,o)::r) a w:=h (fun a=>cu P ops Q S r a w) (fun _ h=>h)
theorem kN {o:Oper} {r:List (Nat×Oper)} {a:Act} {w:World}
  (h: ∀K:Act->World->Prop,(∀a w,S w->cu P ops Q S r a w->K a w)->(S w->if Region.wanted o (yielded ops a.tmps) then o.wp P a w K Q else K (a.put o.dst undef) w)) (hS:S w):
  cu P ops Q S ((1,o)::r) a w:=by
 simp only[cu];have h2:=h (fun a' w'=>S w'/\cu P ops Q S r a' w') (fun a w h1 h2=>⟨h1,h2⟩) hS;by_cases hw:Region.wanted o (yielded ops a.tmps)=true
 .rw [if_pos hw] at h2⊢;exact h2
 .rw [if_neg hw] at h2⊢;exact h2.2
theorem iE {o:Oper} {r:List (Nat×Oper)} {a:Act} {w:World} {b:Nat}
  (h: ∀K:Act->World->Prop,(∀a w,cu P ops Q S r a w->K a w)->if Region.wanted o (yielded ops a.tmps) then o.wp P a w K Q else K (a.put o.dst undef) w):
  cu P ops Q S ((b+2,o)::r) a w:=h (cu P ops Q S r) (fun _ _ h=>h)
end
structure XF (F:Nat->Prop) (w:World) where
 val:World
 upd:aj F w val
instance (F:Nat->Prop) (w:World):Nonempty (XF F w):=⟨⟨w,aj.refl _ w⟩⟩
end
section
section
variable {P:Program} {ops:Array Oper} {Q:Exit->Act->World->Prop} {α:Type} {w0:World} {Qt:Act->World->Prop} {dp:Nat->List Nat} {n:Nat} {md:Region.Mode} {fl:List Nat} {kW:Nat}
def rF (V:Nat->Value):List Oper->Nat->Act->Act
 |[],_,a=>a
 |o::r,k,a=>rF V r (k+1) (a.put o.dst (V k))
theorem Gh (a:Act) (d:Option Tmp) (v:Value):(a.put d v).tmps.size=a.tmps.size:=by cases d<;>simp[Act.put]
theorem uU (a:Act) (d:Option Tmp) (v:Value):(a.put d v).defers=a.defers:=by cases d<;>rfl
theorem NW (a:Act) (d:Option Tmp) (v:Value) (t:Nat) (h:d≠some t):(a.put d v).tmps[t]?=a.tmps[t]?:=by
 cases d with
 |none=>rfl
 |some d=>exact Array.getElem?_setIfInBounds_ne (fun e=>h (by rw[e]))
theorem put_eq (a:Act) (v:Value) (t:Nat) (h:t<a.tmps.size):(a.put (some t) v).tmps[t]?=some v:=by
 simp[Act.put,h]
theorem Gg (V:Nat->Value): ∀(r:List Oper) (k:Nat) (a:Act),(rF V r k a).tmps.size=a.tmps.size/\(rF V r k a).defers=a.defers
 |[],_,_=>⟨rfl,rfl⟩
 |o::r,k,a=>by have:=Gg V r (k+1) (a.put o.dst (V k));exact⟨this.1.trans (Gh _ _ _),this.2.trans (uU _ _ _)⟩
theorem w_ (V:Nat->Value) (t:Nat): ∀(r:List Oper) (k:Nat) (a:Act),(∀(j:Nat) o,r[j]?=some o->o.dst≠some t)->(rF V r k a).tmps[t]?=a.tmps[t]?
 |[],_,_,_=>rfl
 |o::r,k,a,h=>by
  have h1:=w_ V t r (k+1) (a.put o.dst (V k)) (fun j p hp=>h (j+1) p (by simpa using hp));have h2:=h 0 o (by simp);exact h1.trans (NW _ _ _ _ h2)
theorem Dx (V:Nat->Value) (t:Nat): ∀(r:List Oper) (k:Nat) (a:Act) (j:Nat) (o:Oper),r[j]?=some o->o.dst=some t->t<a.tmps.size->
  (∀(i:Nat) p,r[i]?=some p->p.dst=some t->i=j)->(rF V r k a).tmps[t]?=some (V (k+j))
 |[],_,_,j,o,h,_,_,_=>by simp at h
 |p::r,k,a,0,o,h,hd,ht,hu=>by
  simp at h;subst h;have h1:=w_ V t r (k+1) (a.put p.dst (V k)) (fun i q hq he=>by have:=hu (i+1) q (by simpa using hq) he;omega);refine h1.trans ?_;rw[hd];exact put_eq _ _ _ ht
 |p::r,k,a,j+1,o,h,hd,ht,hu=>by
  rw[List.getElem?_cons_succ] at h;have h1:=Dx V t r (k+1) (a.put p.dst (V k)) j o h hd (by rw[Gh];exact ht) (fun i q hq he=>by have:=hu (i+1) q (by simpa using hq) he;omega);rw[show k+(j+1)=k+1+j by omega];exact h1
theorem JB {o:Oper} (hs: ∀cs b,o.op≠ .select cs b) {a b:Act} (h: ∀t∈o.looksAt ops,a.tmps[t]?=b.tmps[t]?):
  execOp a.eval o=execOp b.eval o/\Region.wanted o (yielded ops a.tmps)=Region.wanted o (yielded ops b.tmps):=by
 constructor
 .refine execOp_congr o hs fun x hx=>?_;cases x with
  |tmp t=>
   have:=h t (List.mem_append_left _ (List.mem_filterMap.2 ⟨.tmp t,by simpa using hx,rfl⟩));simp only[Act.eval,Array.getD_eq_getD_getElem?,this]
  |_=>rfl
 .unfold Region.wanted;cases hg:o.guard with
  |none=>rfl
  |some gw=>
   obtain⟨g,want⟩:=gw;simp only;have:yielded ops a.tmps g=yielded ops b.tmps g:=by
    unfold yielded;cases ht:(ops[g]?).bind (·.dst) with
    |none=>rfl
    |some t=>
     have:=h t (List.mem_append_right _ (by simp[hg,ht]));simp[this]
   rw[this]
def Ij:Op->Bool
 | .extract _ _=>true
 | .move _=>true
 | .assign _=>true
 |_=>false
theorem VS {o:Oper} (h:Ij o.op=true) {ρ:Operand->Value} {v:Value} {W:World} (hr:(execOp ρ o).run P W= .ok (.value v) W): ∀W',(execOp ρ o).run P W'= .ok (.value v) W':=by
 intro W';unfold execOp at*;cases ho:o.op<;>rw[ho] at h<;>simp only[Ij,Bool.false_eq_true] at h
 case extract x ix=>
  rw[ho] at hr;simp only at hr⊢;unfold Instr.extract at*;cases hx:ρ x<;>rw[hx] at hr
  case tuple vs=>
   simp only[Sem.run_bind] at hr⊢;cases hv:vs[ix]? with
   |none=>rw[hv] at hr;exact nomatch hr
   |some u=>
    rw[hv] at hr;simp only[Sem.run_pure,Result.andThen_ok] at hr⊢;injection hr with h1 h2
    rw[h1]
  all_goals exact nomatch hr
 case move x=>
  rw[ho] at hr;simp only[Sem.run_pure] at hr⊢;injection hr with h1 h2
  rw[h1]
 case assign x=>
  rw[ho] at hr;simp only[Sem.run_pure] at hr⊢;injection hr with h1 h2
  rw[h1]
def subs:List Nat->List (List Nat)
 |[]=>[[]]
 |x::r=>subs r++(subs r).map (x:: ·)
theorem Fe (p:Nat->Bool): ∀l:List Nat,l.filter p∈subs l
 |[]=>by simp[subs]
 |x::r=>by
  have:=Fe p r;unfold subs;rw[List.filter_cons];split
  .exact List.mem_append_right _ (List.mem_map.2 ⟨_,this,rfl⟩)
  .exact List.mem_append_left _ this
def Ii (ops:Array Oper) (n sz:Nat) (dp:Nat->List Nat) (aU:Nat->Bool) (fl:List Nat) (kW:Nat) (tail:List (Nat×Nat)):Bool:=
 Region.noSelect ops&&decide (n<=ops.size)&&
 (List.range n).all (fun i=>match ops[i]? with
  |none=>false
  |some o=>
   (match o.dst with
    |none=>!aU i
    |some d=>decide (d<sz)&&(List.range n).all fun j=>j==i||((ops[j]?).bind (·.dst)) !=some d)&&
   (o.looksAt ops).all (fun t=>(List.range n).all fun j=>((ops[j]?).bind (·.dst)) !=some t||o.after.any fun e=>Region.binds .any e&&e.on==j)&&
   o.after.all (fun e=>!Region.binds .any e||decide (e.on<i)))&&
 (List.range ops.size).all (fun i=>match ops[i]? with
  |none=>false
  |some o=>(dp i).all (fun j=>o.after.any fun e=>Region.binds .any e&&(e.on==j||(decide (e.on<i)&&(dp e.on).contains j))))&&
 (List.range ops.size).all (fun m=>decide (m<n)||(List.range n).all fun j=>fl.contains j||(dp m).contains j)&&
 decide (tail.length+n=ops.size)&&(subs ((List.range n).filter fun j=>fl.contains j)).all (fun U=>pU .any ops kW (U.map (fun k=>(k,0))++tail) (Array.ofFn (n:=ops.size) fun j=>decide (j.val<n)&&!U.contains j.val))&&decide (0<n)&&
 Region.sinkB .any ops kW&&(List.range n).all (fun j=>!fl.contains j||(!aU j&&match ops[j]? with|some o=>Ij o.op|none=>false))
structure yZ (ops:Array Oper) (n sz:Nat) (dp:Nat->List Nat) (aU:Nat->Bool) (tail:List (Nat×Nat)) (fl:List Nat) (kW:Nat):Prop where
 MK:Region.noSelect ops=true
 le:n<=ops.size
 pos:0<n
 dst: ∀i o d,i<n->ops[i]?=some o->o.dst=some d->d<sz
 some_: ∀i o,i<n->ops[i]?=some o->aU i=true->∃d,o.dst=some d
 uniq: ∀i j o p d,i<n->j<n->ops[i]?=some o->ops[j]?=some p->o.dst=some d->p.dst=some d->j=i
 reads: ∀i j o p t,i<n->j<n->ops[i]?=some o->ops[j]?=some p->t∈o.looksAt ops->p.dst=some t->∃e∈o.after,Region.binds .any e=true/\e.on=j
 lt: ∀i o,i<n->ops[i]?=some o->∀e∈o.after,Region.binds .any e=true->e.on<i
 dpx: ∀i o j,ops[i]?=some o->j∈dp i->∃e∈o.after,Region.binds .any e=true/\(e.on=j\/(e.on<i/\j∈dp e.on))
 rest: ∀m j,n<=m->m<ops.size->j<n->fl.contains j=false->j∈dp m
 len:tail.length+n=ops.size
 mix: ∀U∈subs ((List.range n).filter fun j=>fl.contains j),pU .any ops kW (U.map (fun k=>(k,0))++tail) (Array.ofFn (n:=ops.size) fun j=>decide (j.val<n)&&!U.contains j.val)=true
 sink:Region.sinkB .any ops kW=true
 flo: ∀j o,j<n->fl.contains j=true->ops[j]?=some o->Ij o.op=true/\aU j=false
theorem acw {sz:Nat} {an:Nat->Bool} {tail:List (Nat×Nat)} (h:Ii ops n sz dp an fl kW tail=true):yZ ops n sz dp an tail fl kW:=by
 unfold Ii at h;simp only[Bool.and_eq_true,decide_eq_true_eq,List.all_eq_true,List.mem_range] at h;obtain⟨⟨⟨⟨⟨⟨⟨⟨⟨h1,h2⟩,h3⟩,h4⟩,h5⟩,h6⟩,h7⟩,h8⟩,h9⟩,h10⟩:=h;refine⟨h1,h2,h8,?_,?_,?_,?_,?_,?_,?_,h6,h7,h9,?_⟩
 .intro i o d hi ho hd;have:=h3 i hi;rw[ho] at this;simp only[hd,Bool.and_eq_true,decide_eq_true_eq] at this;exact this.1.1.1
 .intro i o hi ho ha;have:=h3 i hi;rw[ho] at this;simp only at this;cases hd:o.dst with
  |none=>rw[hd] at this;simp[ha] at this
  |some d=>exact⟨d,rfl⟩
 .intro i j o p d hi hj ho hp hd V3;have:=h3 i hi;rw[ho] at this;simp only[hd,Bool.and_eq_true,decide_eq_true_eq,List.all_eq_true,List.mem_range] at this;have:=this.1.1.2 j hj;simp only[hp,Option.bind_some,V3,Bool.or_eq_true,beq_iff_eq,bne_self_eq_false,Bool.false_eq_true,or_false] at this;exact this
 .intro i j o p t hi hj ho hp ht V3;have:=h3 i hi;rw[ho] at this;simp only[Bool.and_eq_true,List.all_eq_true,List.mem_range] at this;have:=this.1.2 t ht j hj;simp only[hp,Option.bind_some,V3,bne_self_eq_false,Bool.false_or,Array.any_eq_true',Bool.and_eq_true,beq_iff_eq] at this;obtain⟨e,he,hb,hj⟩:=this;exact⟨e,he,hb,hj⟩
 .intro i o hi ho e he hb;have:=h3 i hi;rw[ho] at this;simp only[Bool.and_eq_true] at this;have:=(Array.all_eq_true_iff_forall_mem.1 this.2) e he;simpa[hb] using this
 .intro i o j ho hj;have hi:i<ops.size:=(Array.getElem?_eq_some_iff.1 ho).1;have:=h4 i hi;rw[ho] at this;simp only[List.all_eq_true] at this;have:=this j hj;simp only[Array.any_eq_true',Bool.and_eq_true,Bool.or_eq_true,beq_iff_eq,decide_eq_true_eq,List.contains_iff_mem] at this;obtain⟨e,he,hb,hx⟩:=this;exact⟨e,he,hb,hx⟩
 .intro m j hm hm2 hj hfl;have:=h5 m hm2;simp only[Bool.or_eq_true,decide_eq_true_eq,List.all_eq_true,List.mem_range] at this;rcases this with h|h
  .omega
  .have:=h j hj;rw[hfl] at this;simpa using this
 .intro j o hj hfl ho;have:=h10 j hj;rw[hfl,ho] at this;simp only[Bool.not_true,Bool.false_or,Bool.and_eq_true,Bool.not_eq_true'] at this;exact⟨this.2,this.1⟩
theorem yZ.closed {sz:Nat} {an:Nat->Bool} {tail:List (Nat×Nat)} (h:yZ ops n sz dp an tail fl kW) {l:Array Bool} (hd:qM .any ops l):
  ∀(i:Nat) o,ops[i]?=some o->(∀e∈o.after,Region.binds .any e=true->l.getD e.on false=true)->∀j∈dp i,l.getD j false=true:=by
 intro i
 induction i using Nat.strongRecOn with
 |_ i ih=>
  intro o ho hall j hj;obtain⟨e,he,hb,hx⟩:=h.dpx i o j ho hj;rcases hx with hx|⟨hlt,hx⟩
  .rw [<-hx];exact hall e he hb
  .have hl:=hall e he hb;have hlt2:e.on<ops.size:=by
    rcases Nat.lt_or_ge e.on ops.size with h'|h'
    .exact h'
    .simp [Array.getElem?_eq_none (show l.size<=e.on by rw[hd.size];exact h')] at hl
   exact ih e.on hlt ops[e.on] (Array.getElem?_eq_getElem hlt2) (fun e' he' hb'=>hd.back e.on _ (Array.getElem?_eq_getElem hlt2) hl e' he' hb') j hx
structure zY (ops:Array Oper) (n:Nat) (a0:Act) (l:Array Bool) (V:Nat->Value) (b:Act):Prop where
 size:b.tmps.size=a0.tmps.size
 defers:b.defers=a0.defers
 out: ∀t,(∀(j:Nat) o,j<n->ops[j]?=some o->o.dst≠some t)->b.tmps[t]?=a0.tmps[t]?
 in_: ∀(j:Nat) o t,j<n->ops[j]?=some o->o.dst=some t->l.getD j false=true->b.tmps[t]?=some (V j)
theorem zY.start {a0:Act} {V:Nat->Value}:zY ops n a0 (Array.replicate ops.size false) V a0:=
 ⟨rfl,rfl,fun _ _=>rfl,fun j o t hj ho hd hl=>by
  rcases Nat.lt_or_ge j ops.size with h|h
  .simp [h] at hl
  .simp [h] at hl⟩
theorem zY.step {sz:Nat} {an:Nat->Bool} {tail:List (Nat×Nat)} (hp:yZ ops n sz dp an tail fl kW) {a0 b:Act} {l:Array Bool} {V V':Nat->Value} (h:zY ops n a0 l V b) (hsz:a0.tmps.size=sz) {i:Nat} {o:Oper} (hi:i<n) (ho:ops[i]?=some o)
  (hV: ∀j,j<n->l.getD j false=true->V' j=V j):zY ops n a0 (l.setIfInBounds i true) V' (b.put o.dst (V' i)):=by
 refine⟨(Gh _ _ _).trans h.size,(uU _ _ _).trans h.defers,fun t ht=>?_,fun j p t hj mM hd hl=>?_⟩
 .rw [NW _ _ _ _ (ht i o hi ho)];exact h.out t ht
 .by_cases e:j=i
  .subst e;obtain rfl:o=p:=Option.some.inj (ho.symm.trans mM);rw[hd];exact put_eq _ _ _ (by rw[h.size,hsz];exact hp.dst _ _ _ hi ho hd)
  .rw [getD_set_ne false (Ne.symm e)] at hl;rw[NW _ _ _ _ (fun hd2=>e (hp.uniq i j o p t hi hj ho mM hd2 hd)),hV j hj hl];exact h.in_ j p t hj mM hd hl
theorem zY.look {sz:Nat} {an:Nat->Bool} {tail:List (Nat×Nat)} (hp:yZ ops n sz dp an tail fl kW) {a0 b:Act} {l:Array Bool} {V:Nat->Value} (h:zY ops n a0 l V b) (hsz:a0.tmps.size=sz) {i:Nat} {o:Oper} (hi:i<n) (ho:ops[i]?=some o)
  (hall: ∀e∈o.after,Region.binds .any e=true->l.getD e.on false=true): ∀t∈o.looksAt ops,(rF V (ops.toList.take i) 0 a0).tmps[t]?=b.tmps[t]?:=by
 intro t ht;have hle:i<=ops.toList.length:=by have:=hp.le;simp;omega
 by_cases hx: ∃j p,j<n/\ops[j]?=some p/\p.dst=some t
 .obtain ⟨j,p,hj,mM,hd⟩:=hx;obtain⟨e,he,hb,hon⟩:=hp.reads i j o p t hi hj ho mM ht hd;have hlt:=hp.lt i o hi ho e he hb;rw[hon] at hlt;have hl:=hall e he hb;rw[hon] at hl;rw[h.in_ j p t hj mM hd hl];have:=Dx V t (ops.toList.take i) 0 a0 j p (by rw[List.getElem?_take_of_lt hlt];simpa using mM) hd (by rw[hsz];exact hp.dst _ _ _ hj mM hd) (fun k q hq VQ=>by
   have hk:k<i:=by
    have:=(List.getElem?_eq_some_iff.1 hq).1;rw[List.length_take] at this;omega
   rw[List.getElem?_take_of_lt hk] at hq;exact hp.uniq j k p q t hj (by omega) mM (by simpa using hq) hd VQ)
  rw[Nat.zero_add] at this;exact this
 .have hno: ∀(j:Nat) p,j<n->ops[j]?=some p->p.dst≠some t:=fun j p hj mM hd=>hx ⟨j,p,hj,mM,hd⟩;rw[h.out t hno];refine w_ V t _ 0 a0 fun j p mM=>?_;have hk:j<i:=by
   have:=(List.getElem?_eq_some_iff.1 mM).1;rw[List.length_take] at this;omega
  rw[List.getElem?_take_of_lt hk] at mM;exact hno j p (by omega) (by simpa using mM)
theorem zY.all {sz:Nat} {an:Nat->Bool} {tail:List (Nat×Nat)} (hp:yZ ops n sz dp an tail fl kW) {a0 b:Act} {l:Array Bool} {V:Nat->Value} (h:zY ops n a0 l V b) (hsz:a0.tmps.size=sz)
  (hall: ∀j,j<n->l.getD j false=true):b=rF V (ops.toList.take n) 0 a0:=by
 have hs:=Gg V (ops.toList.take n) 0 a0;have ht:b.tmps=(rF V (ops.toList.take n) 0 a0).tmps:=by
  apply Array.ext_getElem?;intro t;by_cases hx: ∃j p,j<n/\ops[j]?=some p/\p.dst=some t
  .obtain ⟨j,p,hj,mM,hd⟩:=hx;rw[h.in_ j p t hj mM hd (hall j hj)];have:=Dx V t (ops.toList.take n) 0 a0 j p (by rw[List.getElem?_take_of_lt hj];simpa using mM) hd (by rw[hsz];exact hp.dst _ _ _ hj mM hd) (fun k q hq VQ=>by
    have hk:k<n:=by
     have:=(List.getElem?_eq_some_iff.1 hq).1;rw[List.length_take] at this;omega
    rw[List.getElem?_take_of_lt hk] at hq;exact hp.uniq j k p q t hj hk mM (by simpa using hq) hd VQ)
   rw[Nat.zero_add] at this;exact this.symm
  .have hno: ∀(j:Nat) p,j<n->ops[j]?=some p->p.dst≠some t:=fun j p hj mM hd=>hx ⟨j,p,hj,mM,hd⟩;rw[h.out t hno];refine(w_ V t _ 0 a0 fun j p mM=>?_).symm;have hk:j<n:=by
    have:=(List.getElem?_eq_some_iff.1 mM).1;rw[List.length_take] at this;omega
   rw[List.getElem?_take_of_lt hk] at mM;exact hno j p hk (by simpa using mM)
 have hd:b.defers=(rF V (ops.toList.take n) 0 a0).defers:=h.defers.trans hs.2.symm;cases b;cases hb:rF V (ops.toList.take n) 0 a0;rw[hb] at ht hd;simp only at ht hd;rw[ht,hd]
theorem Qo {o:Oper} {a b:Act} {w:World} (he:execOp a.eval o=execOp b.eval o) {K K':Act->World->Prop} (hK: ∀v W,K (a.put o.dst v) W->K' (b.put o.dst v) W)
  (hdf: ∀c W,K c W->c.defers=a.defers) (h:o.wp P a w K (fun _ _ _=>False)):o.wp P b w K' Q:=by
 unfold Oper.wp at*;rw[he] at h;generalize (execOp b.eval o).run P w=r at*;cases r with
 |ok x w'=>
  cases x<;>simp only[Oper.upon] at h⊢
  case value u=>exact hK _ _ h
  case skip=>exact hK _ _ h
  case defer d=>
   have:=hdf _ _ h;rw[uU] at this;have:=congrArg List.length this;simp at this
  case enter f args=>
   refine Calls.mono h fun e w'' he=>?_;cases e with
   |returned u=>exact hK _ _ he
   |panicked c=>exact he.elim
   |outgrown=>obtain⟨_,_,hf⟩:=he;exact hf.elim
  case row row args=>exact Rows.mono h fun u w'' he=>hK _ _ he
 |halt x w'=>cases x<;>simp only[Oper.upon] at h⊢ <;>exact h.elim
theorem Ik {md:Region.Mode}: ∀(f:Nat) (l:Array Bool) (a:Act) (w:World),wpAny P md ops Q f l a w->wpAny P md ops Q (f+1) l a w
 |0,l,a,w,h=>⟨fun _=>h.2,fun i hi=>by rw[h.1] at hi;cases hi⟩
 |f+1,l,a,w,h=>⟨h.1,fun i hi=>wpOp_mono (fun a' w' h'=>Ik f _ a' w' h') (h.2 i hi)⟩
theorem YD {md:Region.Mode} {f g:Nat} (hfg:f<=g) {l:Array Bool} {a:Act} {w:World} (h:wpAny P md ops Q f l a w):wpAny P md ops Q g l a w:=by
 induction g with
 |zero=>
   obtain rfl:f=0:=by omega
   exact h
 |succ g ih=>
  by_cases e:f=g+1
  .subst e;exact h
  .exact Ik g _ _ _ (ih (by omega))
def Dy (n:Nat) (l:Array Bool):Nat:=((List.range n).filter fun j=>!l.getD j false).length
theorem Fh (p q:Nat->Bool) (i:Nat) (h: ∀j,q j=true->p j=true) (hi:p i=true) (hq:q i=false): ∀(L:List Nat),i∈L->(L.filter q).length+1<=(L.filter p).length
 |[],h=>by cases h
 |x::L,hm=>by
  have hle: ∀(L:List Nat),(L.filter q).length<=(L.filter p).length:=by
   intro L;induction L with
   |nil=>simp
   |cons y L ih=>
    rw[List.filter_cons,List.filter_cons];cases hy:q y with
    |true=>rw[if_pos rfl,if_pos (h y hy)];simp;exact ih
    |false=>
     rw[if_neg (by simp)];split
     .simp;omega
     .exact ih
  rw[List.filter_cons,List.filter_cons];rcases List.mem_cons.1 hm with e|hm
  .subst e;rw[hq,hi,if_neg (by simp),if_pos rfl];have:=hle L;simp;omega
  .have ih:=Fh p q i h hi hq L hm;cases hx:q x with
   |true=>rw[if_pos rfl,if_pos (h x hx)];simp;exact ih
   |false=>
    rw[if_neg (by simp)];split
    .simp;omega
    .exact ih
theorem VU {l:Array Bool} (h:Dy n l=0) (j:Nat) (hj:j<n):l.getD j false=true:=by
 have:=List.eq_nil_of_length_eq_zero h;have h2:=List.filter_eq_nil_iff.1 this j (List.mem_range.2 hj);simpa using h2
theorem VW {l:Array Bool} {i:Nat} (hi:i<n) (hl:l.getD i true=false):Dy n (l.setIfInBounds i true)+1<=Dy n l:=by
 have hs:i<l.size:=by
  rcases Nat.lt_or_ge i l.size with h|h
  .exact h
  .simp [Array.getElem?_eq_none h] at hl
 refine Fh _ _ i (fun j hj=>?_) ?_ ?_ _ (List.mem_range.2 hi)
 .cases h:l.getD j false with
  |false=>rfl
  |true=>rw[getD_set_true h] at hj;cases hj
 .rw [xe hl];rfl
 .simp [hs]
end
end
end Go.Hw
namespace Go.Hw.PI
open Go.RowKit Go.Hw
section
section
variable {P:Program} {ops:Array Oper} {Q:Exit->Act->World->Prop} {α:Type} {w0:World} {Qt:Act->World->Prop} {dp:Nat->List Nat} {n:Nat} {md:Region.Mode} {fl:List Nat} {kW:Nat} {F0:Nat->Prop}
structure dK (α:Type) where
 val:α->Value
 R:α->World->Prop
 D:Nat->Prop
 N:Nat->Prop
 st: ∀x W W' (F:Nat->Prop),R x W->aj F W W'->(∀k,F k->N k)->R x W'
 pre:World->Prop
 pst: ∀W W' (F:Nat->Prop),pre W->aj F W W'->(∀k,F k->N k)->pre W'
 f:α->Nat->Prop
 lt: ∀x W k,R x W->f x k->k<W.heap.size
variable {aU:Nat->Option (dK α)}
abbrev xQ:=Nat×(Nat->Prop)×(World->Prop)
def vz (G:List xQ):Prop:=G.Pairwise fun g h=> ∀k,g.2.1 k->¬h.2.1 k
def Can (P:Program) (ops:Array Oper) (Qt:Act->World->Prop) (w0:World) (F0:Nat->Prop) (dp:Nat->List Nat) (aU:Nat->Option (dK α)):List Oper->Nat->List xQ->Act->Prop
 |[],_,G,a=> ∀W,aj F0 w0 W->(∀g∈G,g.2.2 W)->vz G->Qt a W
 |o::r,i,G,a=>match aU i with
  |none=>if Region.wanted o (yielded ops a.tmps) then ∃v,(∀W,aj F0 w0 W->(∀g∈G,g.1∈dp i->g.2.2 W)->(execOp a.eval o).run P W= .ok (.value v) W)/\Can P ops Qt w0 F0 dp aU r (i+1) G (a.put o.dst v)
    else Can P ops Qt w0 F0 dp aU r (i+1) G (a.put o.dst undef)
  |some A=>Region.wanted o (yielded ops a.tmps)=true/\
    (∀W,aj F0 w0 W->(∀g∈G,g.1∈dp i->g.2.2 W)->A.pre W->∀K:Act->World->Prop,(∀x W',aj A.D W W'->A.R x W'->(∀k,A.f x k->W.heap.size<=k)->K (a.put o.dst (A.val x)) W')->o.wp P a W K (fun _ _ _=>False))/\
    ∀x,Can P ops Qt w0 F0 dp aU r (i+1) (G++[(i,A.f x,A.R x)]) (a.put o.dst (A.val x))
def lX (P:Program) (ops:Array Oper) (w0:World) (F0:Nat->Prop) (dp:Nat->List Nat) (aU:Nat->Option (dK α)) (X:Nat->α) (V:Nat->Value) (i:Nat) (o:Oper) (a:Act):Prop:=
 match aU i with
 |none=>(Region.wanted o (yielded ops a.tmps)=true->∀W,aj F0 w0 W->(∀j A,j<i->j∈dp i->aU j=some A->A.R (X j) W)->(execOp a.eval o).run P W= .ok (.value (V i)) W)/\
   (Region.wanted o (yielded ops a.tmps)=false->V i=undef)
 |some A=>Region.wanted o (yielded ops a.tmps)=true/\V i=A.val (X i)/\
   ∀W,aj F0 w0 W->(∀j A,j<i->j∈dp i->aU j=some A->A.R (X j) W)->A.pre W->∀K:Act->World->Prop,(∀x W',aj A.D W W'->A.R x W'->(∀k,A.f x k->W.heap.size<=k)->K (a.put o.dst (A.val x)) W')->o.wp P a W K (fun _ _ _=>False)
def Good (P:Program) (ops:Array Oper) (Qt:Act->World->Prop) (w0:World) (F0:Nat->Prop) (dp:Nat->List Nat) (aU:Nat->Option (dK α)) (X:Nat->α) (V:Nat->Value):List Oper->Nat->Act->Prop
 |[],k,a=> ∀W,aj F0 w0 W->(∀j A,j<k->aU j=some A->A.R (X j) W)->(∀i j A B,i<k->j<k->i≠j->aU i=some A->aU j=some B->∀b,A.f (X i) b->¬B.f (X j) b)->Qt a W
 |o::r,k,a=>lX P ops w0 F0 dp aU X V k o a/\Good P ops Qt w0 F0 dp aU X V r (k+1) (a.put o.dst (V k))
theorem lX.congr {X:Nat->α} {V V':Nat->Value} {i:Nat} {o:Oper} {a:Act} (h:V i=V' i) (hf:lX P ops w0 F0 dp aU X V i o a):lX P ops w0 F0 dp aU X V' i o a:=by
 unfold lX at*;rw[<-h];exact hf
theorem Good.congr {X:Nat->α} {V V':Nat->Value}: ∀(r:List Oper) (k:Nat) (a:Act),(∀j,k<=j->V j=V' j)->Good P ops Qt w0 F0 dp aU X V r k a->Good P ops Qt w0 F0 dp aU X V' r k a
 |[],_,_,_,h=>h
 |o::r,k,a,he,h=>⟨h.1.congr (he k (Nat.le_refl _)),by rw[<-he k (Nat.le_refl _)];exact Good.congr r (k+1) _ (fun j hj=>he j (by omega)) h.2⟩
theorem qo (X:Nat->α): ∀(r:List Oper) (k:Nat) (G:List xQ) (a:Act),Can P ops Qt w0 F0 dp aU r k G a->
  (∀g∈G,∃A,aU g.1=some A/\g.1<k/\g.2=(A.f (X g.1),A.R (X g.1)))->G.Pairwise (fun g h=>g.1≠h.1)->∃V,Good P ops Qt w0 F0 dp aU X V r k a
 |[],k,G,a,h,hG,hN=>⟨fun _=>undef,fun W hW hR hD=>h W hW (fun g hg=>by obtain⟨A,h1,h2,h3⟩:=hG g hg;rw[h3];exact hR _ _ h2 h1) (by
   unfold vz;refine List.Pairwise.imp_of_mem (fun{g g'} hg hg' hne b e1 e2=>?_) hN;obtain⟨A,h1,h2,h3⟩:=hG g hg;obtain⟨A',h1',h2',h3'⟩:=hG g' hg';rw[h3] at e1;rw[h3'] at e2;exact hD _ _ A A' h2 h2' hne h1 h1' b e1 e2)⟩
 |o::r,k,G,a,h,hG,hN=>by
  have hH: ∀W,(∀j A,j<k->j∈dp k->aU j=some A->A.R (X j) W)->∀g∈G,g.1∈dp k->g.2.2 W:=fun W hR g hg hd=>by
   obtain⟨A,h1,h2,h3⟩:=hG g hg;rw[h3];exact hR _ _ h2 hd h1
  unfold Can at h;have hG': ∀g∈G,∃A,aU g.1=some A/\g.1<k+1/\g.2=(A.f (X g.1),A.R (X g.1)):=fun g hg=>by
   obtain⟨A,h1,h2,h3⟩:=hG g hg;exact⟨A,h1,by omega,h3⟩
  cases ha:aU k with
  |none=>
   rw[ha] at h;simp only at h;by_cases hw:Region.wanted o (yielded ops a.tmps)=true
   .rw [if_pos hw] at h;obtain⟨v,hv,h⟩:=h;obtain⟨V,hV⟩:=qo X r (k+1) G _ h hG' hN;refine⟨fun j=>if j=k then v else V j,?_,?_⟩
    .unfold lX;rw[ha];simp only[if_true];exact⟨fun _ W hW hR=>hv W hW (hH W hR),fun h=>by rw[hw] at h;cases h⟩
    .rw [show(fun j=>if j=k then v else V j) k=v from if_pos rfl];exact hV.congr _ _ _ (fun j hj=>by rw[if_neg (by omega)])
   .rw [if_neg hw] at h;obtain⟨V,hV⟩:=qo X r (k+1) G _ h hG' hN;refine⟨fun j=>if j=k then undef else V j,?_,?_⟩
    .unfold lX;rw[ha];simp only[if_true];exact⟨fun h=>absurd h hw,fun _=>trivial⟩
    .rw [show(fun j=>if j=k then undef else V j) k=undef from if_pos rfl];exact hV.congr _ _ _ (fun j hj=>by rw[if_neg (by omega)])
  |some A=>
   rw[ha] at h;simp only at h;obtain⟨hw,hm,h⟩:=h;obtain⟨V,hV⟩:=qo X r (k+1) _ _ (h (X k)) (fun g hg=>by
    rcases List.mem_append.1 hg with h1|h1
    .exact hG' g h1
    .simp only [List.mem_singleton] at h1;subst h1;exact⟨A,ha,Nat.lt_succ_self _,rfl⟩) (List.pairwise_append.2 ⟨hN,List.pairwise_singleton _ _,fun g hg g' hg' e=>by
    rw[List.mem_singleton] at hg';subst hg';obtain⟨_,_,h2,_⟩:=hG g hg;simp only at e;omega⟩)
   refine⟨fun j=>if j=k then A.val (X k) else V j,?_,?_⟩
   .unfold lX;rw[ha];simp only[if_true];exact⟨hw,trivial,fun W hW hR hpr K hK=>hm W hW (hH W hR) hpr K hK⟩
   .rw [show(fun j=>if j=k then A.val (X k) else V j) k=A.val (X k) from if_pos rfl];exact hV.congr _ _ _ (fun j hj=>by rw[if_neg (by omega)])
theorem Good.at {X:Nat->α} {V:Nat->Value}: ∀(r:List Oper) (k:Nat) (a:Act),Good P ops Qt w0 F0 dp aU X V r k a->∀i o,r[i]?=some o->lX P ops w0 F0 dp aU X V (k+i) o (rF V (r.take i) k a)
 |[],_,_,_,i,o,h=>by simp at h
 |p::r,k,a,h,0,o,ho=>by simp at ho;subst ho;exact h.1
 |p::r,k,a,h,i+1,o,ho=>by
  rw[List.getElem?_cons_succ] at ho;have:=Good.at r (k+1) _ h.2 i o ho;rw[show k+(i+1)=k+1+i by omega];exact this
theorem Good.fin {X:Nat->α} {V:Nat->Value}: ∀(r:List Oper) (k:Nat) (a:Act),Good P ops Qt w0 F0 dp aU X V r k a->∀W,aj F0 w0 W->(∀j A,j<k+r.length->aU j=some A->A.R (X j) W)->(∀i j A B,i<k+r.length->j<k+r.length->i≠j->aU i=some A->aU j=some B->∀b,A.f (X i) b->¬B.f (X j) b)->Qt (rF V r k a) W
 |[],_,_,h,W,hW,hR,hD=>h W hW hR hD
 |p::r,k,a,h,W,hW,hR,hD=>Good.fin r (k+1) _ h.2 W hW (fun j A hj=>hR j A (by simp only[List.length_cons];omega)) (fun i j A B hi hj=>hD i j A B (by simp only[List.length_cons];omega) (by simp only[List.length_cons];omega))
theorem Good.same {sz:Nat} {an:Nat->Bool} {tail:List (Nat×Nat)} (hp:yZ ops n sz dp an tail fl kW) {a0:Act} {l:Array Bool} (hd:qM .any ops l) (hsz:a0.tmps.size=sz) {X X':Nat->α} {V V':Nat->Value}
  (hV:Good P ops Qt w0 F0 dp aU X V (ops.toList.take n) 0 a0) (hV':Good P ops Qt w0 F0 dp aU X' V' (ops.toList.take n) 0 a0) (hX: ∀j,j<n->l.getD j false=true->X' j=X j)
  {W:World} (hW:aj F0 w0 W) (hR: ∀j A,j<n->l.getD j false=true->aU j=some A->A.R (X j) W): ∀j,j<n->l.getD j false=true->V' j=V j:=by
 intro j
 induction j using Nat.strongRecOn with
 |_ j ih=>
  intro hj hl;have hjs:j<ops.size:=ay hj hp.le;have ho:ops[j]?=some ops[j]:=Array.getElem?_eq_getElem hjs;have hot:(ops.toList.take n)[j]?=some ops[j]:=by rw[List.getElem?_take_of_lt hj];simp
  have hall: ∀e∈ops[j].after,Region.binds .any e=true->l.getD e.on false=true:=fun e he hb=>hd.back j _ ho hl e he hb;have f1:=hV.at _ _ _ j _ hot;have f2:=hV'.at _ _ _ j _ hot;rw[Nat.zero_add] at f1 f2;rw[List.take_take,Nat.min_eq_left (Nat.le_of_lt hj)] at f1 f2;have Dw:=hp.closed hd j _ ho hall;have hsame: ∀t∈ops[j].looksAt ops,(rF V (ops.toList.take j) 0 a0).tmps[t]?=(rF V' (ops.toList.take j) 0 a0).tmps[t]?:=by
   intro t ht;by_cases hx: ∃k p,k<j/\ops[k]?=some p/\p.dst=some t
   .obtain ⟨k,p,hk,hpk,hdk⟩:=hx;have hkn:k<n:=by omega
    have hkl:l.getD k false=true:=by
     obtain⟨e,he,hb,hon⟩:=hp.reads j k _ p t hj hkn ho hpk ht hdk;have:=hall e he hb;rw[hon] at this;exact this
    have hu: ∀(i:Nat) q,(ops.toList.take j)[i]?=some q->q.dst=some t->i=k:=fun i q hq VQ=>by
     have hi:i<j:=by
      have:=(List.getElem?_eq_some_iff.1 hq).1;rw[List.length_take] at this;omega
     rw[List.getElem?_take_of_lt hi] at hq;exact hp.uniq k i p q t hkn (by omega) hpk (by simpa using hq) hdk VQ
    have hk2:(ops.toList.take j)[k]?=some p:=by rw[List.getElem?_take_of_lt hk];simpa using hpk
    rw[Dx V t _ 0 a0 k p hk2 hdk (by rw[hsz];exact hp.dst _ _ _ hkn hpk hdk) hu,Dx V' t _ 0 a0 k p hk2 hdk (by rw[hsz];exact hp.dst _ _ _ hkn hpk hdk) hu,Nat.zero_add,ih k hk hkn hkl]
   .have hno: ∀(k:Nat) p,(ops.toList.take j)[k]?=some p->p.dst≠some t:=fun k p hpk hdk=>by
     have hk:k<j:=by
      have:=(List.getElem?_eq_some_iff.1 hpk).1;rw[List.length_take] at this;omega
     rw[List.getElem?_take_of_lt hk] at hpk;exact hx ⟨k,p,hk,by simpa using hpk,hdk⟩
    rw[w_ V t _ 0 a0 hno,w_ V' t _ 0 a0 hno]
  obtain⟨s1,s2⟩:=JB (ops:=ops) (fun cs b=>Region.noSelect_spec hp.MK j _ cs b ho) hsame;unfold lX at f1 f2;cases ha:aU j with
  |none=>
   rw[ha] at f1 f2;simp only at f1 f2;cases hw:Region.wanted ops[j] (yielded ops (rF V (ops.toList.take j) 0 a0).tmps) with
   |true=>
    have r1:=f1.1 hw W hW (fun k A hk hdk hak=>hR k A (by omega) (Dw k hdk) hak);have r2:=f2.1 (by rw[<-s2];exact hw) W hW (fun k A hk hdk hak=>by rw[hX k (by omega) (Dw k hdk)];exact hR k A (by omega) (Dw k hdk) hak);rw[<-s1,r1] at r2;injection r2 with r2
    injection r2 with r2
    exact r2.symm
   |false=>rw[f1.2 hw,f2.2 (by rw[<-s2];exact hw)]
  |some A=>
   rw[ha] at f1 f2;simp only at f1 f2;rw[f1.2.1,f2.2.1,hX j hj hl]
theorem TN {sz:Nat} {an:Nat->Bool} {tail:List (Nat×Nat)} {l0:List Oper} (hp:yZ l0.toArray n sz dp an tail fl kW) (yI: ∀i,(aU i).isSome=an i) {a0:Act} (hsz:a0.tmps.size=sz) {W:World} (hW:aj F0 w0 W) {X:Nat->α} {V:Nat->Value}
  (hV:Good P l0.toArray (fun a W=>cu P l0.toArray Q (fun _=>True) (gG l0 tail) a W) w0 F0 dp aU X V (l0.take n) 0 a0) (hR: ∀j A,j<n->aU j=some A->A.R (X j) W) (hD: ∀i j A B,i<n->j<n->i≠j->aU i=some A->aU j=some B->∀b,A.f (X i) b->¬B.f (X j) b):
  ∀(U:List Nat) (l:Array Bool) (b:Act),qM .any l0.toArray l->(∀j∈U,j<n/\fl.contains j=true)->(∀j,j<n->l.getD j false=false->j∈U)->
   pU .any l0.toArray kW (U.map (fun k=>(k,0))++tail) l=true->zY l0.toArray n a0 l V b->cu P l0.toArray Q (fun _=>True) (gG l0 (U.map (fun k=>(k,0))++tail)) b W:=by
 intro U
 induction U with
 |nil=>
  intro l b hd _ hU _ hF;have hall: ∀j,j<n->l.getD j false=true:=fun j hj=>by
   cases h:l.getD j false with
   |true=>rfl
   |false=>cases hU j hj h
  have hb:=hF.all hp hsz hall;have hfin:=hV.fin _ _ _ W hW (fun j A hj ha=>hR j A (by simp at hj;omega) ha) (fun i j A B hi hj=>hD i j A B (by simp at hi;omega) (by simp at hj;omega));rw[hb];exact hfin
 |cons i U ih=>
  intro l b hd hUn hU hB hF;simp only[List.map_cons,List.cons_append] at hB⊢;simp only[pU,Bool.and_eq_true,decide_eq_true_eq,Bool.not_eq_true'] at hB;obtain⟨⟨⟨⟨hi,_⟩,_⟩,_⟩,hB⟩:=hB;have hi:i∈Region.ready .any l0.toArray l:=by simpa using hi
  obtain⟨hin,hfl⟩:=hUn i (List.mem_cons_self);obtain⟨hun,o,ho,hall⟩:=mem_ready.1 hi;have ho':l0[i]?=some o:=by simpa using ho
  obtain⟨hfo,amb⟩:=hp.flo i o hin hfl ho;have Dw:=hp.closed hd i o ho hall;have hot:(l0.take n)[i]?=some o:=by rw[List.getElem?_take_of_lt hin];simpa using ho
  have fa:=hV.at _ _ _ i _ hot;rw[Nat.zero_add,List.take_take,Nat.min_eq_left (Nat.le_of_lt hin)] at fa;have hlook:=hF.look hp hsz hin ho hall;obtain⟨s1,s2⟩:=JB (ops:=l0.toArray) (fun cs b=>Region.noSelect_spec hp.MK i _ cs b ho) hlook;have s1:execOp (rF V (l0.take i) 0 a0).eval o=execOp b.eval o:=s1;have s2:Region.wanted o (yielded l0.toArray (rF V (l0.take i) 0 a0).tmps)=Region.wanted o (yielded l0.toArray b.tmps):=s2;have ha:aU i=none:=by
   have:=yI i;rw[amb] at this;cases h:aU i with
   |none=>rfl
   |some A=>rw[h] at this;cases this
  unfold lX at fa;rw[ha] at fa;simp only at fa;have hnext:=ih (l.setIfInBounds i true) (b.put o.dst (V i)) (hd.step hi) (fun j hj=>hUn j (List.mem_cons_of_mem _ hj)) (fun j hj hl=>by
   by_cases e:i=j
   .subst e;exfalso;have his:i<l.size:=by rw[hd.size];exact(Array.getElem?_eq_some_iff.1 ho).1
    simp[his] at hl
   .rw [getD_set_ne false e] at hl;rcases List.mem_cons.1 (hU j hj hl) with h|h
    .exact absurd h.symm e
    .exact h) hB (hF.step hp hsz hin ho (fun _ _ _=>rfl))
  simp only[gG,ho',cu];cases hw:Region.wanted o (yielded l0.toArray b.tmps) with
  |true=>
   rw[if_pos rfl];have hr:=fa.1 (by rw[s2];exact hw) W hW (fun j A hj hdj haj=>hR j A (by omega) haj);rw[s1] at hr;exact⟨V i,fun W' _=>VS hfo hr W',hnext⟩
  |false=>
   rw[if_neg (by simp)];have hv:=fa.2 (by rw[s2];exact hw);rw[<-hv];exact hnext
theorem Q4 {sz:Nat} {an:Nat->Bool} {tail:List (Nat×Nat)} {l0:List Oper} (hp:yZ l0.toArray n sz dp an tail fl kW) (yI: ∀i,(aU i).isSome=an i)
  (hQ: ∀c a d v w,Q (.panic c) (Act.put a d v) w->Q (.panic c) a w) {a0:Act} (hsz:a0.tmps.size=sz) {f:Nat} {l:Array Bool} {b:Act} {W:World} {X:Nat->α} {V:Nat->Value} (hd:qM .any l0.toArray l) (hout: ∀j,n<=j->l.getD j false=false) (hW:aj F0 w0 W)
  (hR: ∀j A,j<n->l.getD j false=true->aU j=some A->A.R (X j) W) (hD: ∀i j A B,i<n->j<n->l.getD i false=true->l.getD j false=true->i≠j->aU i=some A->aU j=some B->∀b,A.f (X i) b->¬B.f (X j) b)
  (hV:Good P l0.toArray (fun a W=>cu P l0.toArray Q (fun _=>True) (gG l0 tail) a W) w0 F0 dp aU X V (l0.take n) 0 a0)
  (hF:zY l0.toArray n a0 l V b) (hall: ∀j,j<n->fl.contains j=false->l.getD j false=true) (hf:Dy n l+tail.length<=f):wpAny P .any l0.toArray Q f l b W:=by
 have hUf: ∀j∈((List.range n).filter fun j=>!l.getD j false),j<n/\fl.contains j=true:=fun j hj=>by
  obtain⟨h1,h2⟩:=List.mem_filter.1 hj;have h1:=List.mem_range.1 h1;refine⟨h1,?_⟩;cases hc:fl.contains j with
  |true=>rfl
  |false=>have:=hall j h1 hc;rw[this] at h2;cases h2
 have hUs:((List.range n).filter fun j=>!l.getD j false)∈subs ((List.range n).filter fun j=>fl.contains j):=by
  have:=Fe (fun j=>!l.getD j false) ((List.range n).filter fun j=>fl.contains j);rw[List.filter_filter] at this;have e:((List.range n).filter fun j=>!l.getD j false)=((List.range n).filter fun j=>(!l.getD j false)&&fl.contains j):=by
   apply List.filter_congr;intro j hj;cases hl:l.getD j false with
   |true=>rfl
   |false=>
    have:=hUf j (List.mem_filter.2 ⟨hj,by rw[hl];rfl⟩);rw[this.2];rfl
  rw[e];exact this
 have hm:=hp.mix _ hUs;have hl:l=Array.ofFn (n:=l0.toArray.size) fun j=>decide (j.val<n)&&!((List.range n).filter fun j=>!l.getD j false).contains j.val:=by
  apply Array.ext
  .simp [hd.size]
  .intro j h1 h2;rw[Array.getElem_ofFn];have hg:l.getD j false=l[j]:=by rw[Array.getD_eq_getD_getElem?,Array.getElem?_eq_getElem h1];rfl
   by_cases hj:j<n
   .simp only [hj,decide_true,Bool.true_and];rw[<-hg];cases h:l.getD j false with
    |true=>simp[h,-Array.getD_eq_getD_getElem?]
    |false=>simp[h,hj,-Array.getD_eq_getD_getElem?]
   .have:=hout j (by omega);rw[<-hg,this];simp[hj]
 rw[<-hl] at hm;have hlen:(((List.range n).filter fun j=>!l.getD j false).map (fun k=>(k,0))++tail).length<=f:=by
  rw[List.length_append,List.length_map];exact hf
 have hAl: ∀j A,j<n->aU j=some A->l.getD j false=true:=fun j A hj ha=>by
  refine hall j hj ?_;cases hc:fl.contains j with
  |false=>rfl
  |true=>
   have hjs:j<l0.toArray.size:=ay hj hp.le;have:=(hp.flo j _ hj hc (Array.getElem?_eq_getElem hjs)).2;rw[<-yI,ha] at this;cases this
 have hR2: ∀j A,j<n->aU j=some A->A.R (X j) W:=fun j A hj ha=>hR j A hj (hAl j A hj ha) ha;have hD2: ∀i j A B,i<n->j<n->i≠j->aU i=some A->aU j=some B->∀b,A.f (X i) b->¬B.f (X j) b:=fun i j A B hi hj hne ha hb=>hD i j A B hi hj (hAl i A hi ha) (hAl j B hj hb) hne ha hb;have h2:=TN (Q:=Q) hp yI hsz hW hV hR2 hD2 _ l b hd hUf (fun j hj h=>List.mem_filter.2 ⟨List.mem_range.2 hj,by rw[h];rfl⟩) hm hF;have h3:=BI (P:=P) (S:=fun _=>True) (n:=kW) hp.MK hp.sink hQ _ l b W hd (.inl trivial) hm h2;exact YD hlen (vY _ _ _ _ h3)
def aaQ (F0:Nat->Prop) (aU:Nat->Option (dK α)):Prop:=(∀i A j B,aU i=some A->aU j=some B->i≠j->∀k,A.D k->B.N k)/\(∀i A,aU i=some A->∀k,A.D k->F0 k)
theorem VT {sz:Nat} {an:Nat->Bool} {tail:List (Nat×Nat)} {l0:List Oper} [Inhabited α] (hp:yZ l0.toArray n sz dp an tail fl kW) (yI: ∀i,(aU i).isSome=an i) (hcmp:aaQ F0 aU)
  (hQ: ∀c a d v w,Q (.panic c) (Act.put a d v) w->Q (.panic c) a w) {a0:Act} (hsz:a0.tmps.size=sz)
  (hC:Can P l0.toArray (fun a W=>cu P l0.toArray Q (fun _=>True) (gG l0 tail) a W) w0 F0 dp aU (l0.take n) 0 [] a0):
  ∀(f:Nat) (l:Array Bool) (b:Act) (W:World) (X:Nat->α) (V:Nat->Value),qM .any l0.toArray l->(∀j,n<=j->l.getD j false=false)->aj F0 w0 W->
   (∀j A,j<n->l.getD j false=true->aU j=some A->A.R (X j) W)->
   (∀i j A B,i<n->j<n->l.getD i false=true->l.getD j false=true->i≠j->aU i=some A->aU j=some B->∀b,A.f (X i) b->¬B.f (X j) b)->
   (∀j A,j<n->l.getD j false=false->aU j=some A->A.pre W)->
   Good P l0.toArray (fun a W=>cu P l0.toArray Q (fun _=>True) (gG l0 tail) a W) w0 F0 dp aU X V (l0.take n) 0 a0->
   zY l0.toArray n a0 l V b->Dy n l+tail.length<=f->wpAny P .any l0.toArray Q f l b W:=by
 intro f
 induction f with
 |zero=>
  intro l b W X V hd hout hW hR hD hPr hV hF hf;have hr0:Dy n l=0:=by omega
  have hall:=VU hr0;exact Q4 hp yI hQ hsz hd hout hW hR hD hV hF (fun j hj _=>hall j hj) hf
 |succ f ih=>
  intro l b W X V hd hout hW hR hD hPr hV hF hf;by_cases hr0: ∀j,j<n->fl.contains j=false->l.getD j false=true
  .exact Q4 hp yI hQ hsz hd hout hW hR hD hV hF hr0 hf
  .have aeB: ∃j,j<n/\fl.contains j=false/\l.getD j false=false:=by
    by_cases h: ∃j,j<n/\fl.contains j=false/\l.getD j false=false
    .exact h
    .exfalso;apply hr0;intro j hj hfl;cases hl:l.getD j false with
     |true=>rfl
     |false=>exact absurd ⟨j,hj,hfl,hl⟩ h
   refine⟨fun hr=>?_,fun i hi=>?_⟩
   .exfalso;obtain⟨j0,hj0,_,hl0⟩:=aeB;have hmin: ∀k,∀j,j<=k->j<n->l.getD j false=false->False:=by
     intro k
     induction k using Nat.strongRecOn with
     |_ k ihk=>
      intro j hjk hj hl;have hjs:j<l0.toArray.size:=ay hj hp.le;have ho:l0.toArray[j]?=some l0.toArray[j]:=Array.getElem?_eq_getElem hjs;have VV:j∈Region.ready .any l0.toArray l:=by
       rw[mem_ready];refine⟨Q5 (by rw[hd.size];exact hjs) hl,_,ho,fun e he hb=>?_⟩;have hlt:=hp.lt j _ hj ho e he hb;cases h:l.getD e.on false with
       |true=>rfl
       |false=>exact(ihk e.on (by omega) e.on (Nat.le_refl _) (by omega) h).elim
      rw[hr] at VV;cases VV
    exact hmin j0 j0 (Nat.le_refl _) hj0 hl0
   .obtain ⟨hun,o,ho,hall⟩:=mem_ready.1 hi;have his:i<l0.toArray.size:=(Array.getElem?_eq_some_iff.1 ho).1;have Dw:=hp.closed hd i o ho hall;have hin:i<n:=by
     rcases Nat.lt_or_ge i n with h|h
     .exact h
     .exfalso;obtain⟨j,hj,hfl,hl⟩:=aeB;have:=Dw j (hp.rest i j h his hj hfl);rw[hl] at this;cases this
    have hot:(l0.take n)[i]?=some o:=by rw[List.getElem?_take_of_lt hin];simpa using ho
    have fa:=hV.at _ _ _ i _ hot;rw[Nat.zero_add,List.take_take,Nat.min_eq_left (Nat.le_of_lt hin)] at fa;have hlook:=hF.look hp hsz hin ho hall;obtain⟨s1,s2⟩:=JB (ops:=l0.toArray) (fun cs b=>Region.noSelect_spec hp.MK i _ cs b ho) hlook;have s1:execOp (rF V (l0.take i) 0 a0).eval o=execOp b.eval o:=s1;have s2:Region.wanted o (yielded l0.toArray (rF V (l0.take i) 0 a0).tmps)=Region.wanted o (yielded l0.toArray b.tmps):=s2;have TP: ∀j,n<=j->(l.setIfInBounds i true).getD j false=false:=fun j hj=>by rw[getD_set_ne false (by omega)];exact hout j hj
    have ao2:=VW hin hun;unfold wpOp;rw[ho];simp only;unfold lX at fa;cases ha:aU i with
    |none=>
     rw[ha] at fa;simp only at fa;have hR': ∀W',aj (fun _=>False) W W'->∀j A,j<n->(l.setIfInBounds i true).getD j false=true->aU j=some A->A.R (X j) W':=fun W' hW' j A hj hl haj=>by
      by_cases e:j=i
      .subst e;rw[ha] at haj;cases haj
      .rw [getD_set_ne false (Ne.symm e)] at hl;exact A.st _ _ _ _ (hR j A hj hl haj) hW' (fun _ h=>h.elim)
     have hD': ∀i' j A B,i'<n->j<n->(l.setIfInBounds i true).getD i' false=true->(l.setIfInBounds i true).getD j false=true->i'≠j->aU i'=some A->aU j=some B->∀b,A.f (X i') b->¬B.f (X j) b:=fun i' j A B hi' hj hl1 hl2 hne h1 h2=>by
      have e1:i'≠i:=fun e=>by subst e;rw[ha] at h1;cases h1
      have e2:j≠i:=fun e=>by subst e;rw[ha] at h2;cases h2
      rw[getD_set_ne false (Ne.symm e1)] at hl1;rw[getD_set_ne false (Ne.symm e2)] at hl2;exact hD i' j A B hi' hj hl1 hl2 hne h1 h2
     have aeC: ∀j A,j<n->(l.setIfInBounds i true).getD j false=false->aU j=some A->A.pre W:=fun j A hj hl haj=>by
      have e:j≠i:=fun e=>by subst e;rw[ha] at haj;cases haj
      rw[getD_set_ne false (Ne.symm e)] at hl;exact hPr j A hj hl haj
     cases hw:Region.wanted o (yielded l0.toArray b.tmps) with
     |true=>
      rw[if_pos rfl];refine .inl ?_;have hr:=fa.1 (by rw[s2];exact hw) W hW (fun j A hj hdj haj=>hR j A (by omega) (Dw j hdj) haj);rw[s1] at hr;unfold Oper.wp;rw[hr];exact ih _ _ _ X V (hd.step hi) TP hW (hR' W (aj.refl _ _)) hD' aeC hV (hF.step hp hsz hin ho (fun _ _ _=>rfl)) (by omega)
     |false=>
      rw[if_neg (by simp)];have hv:=fa.2 (by rw[s2];exact hw);rw[<-hv];exact ih _ _ _ X V (hd.step hi) TP hW (hR' W (aj.refl _ _)) hD' aeC hV (hF.step hp hsz hin ho (fun _ _ _=>rfl)) (by omega)
    |some A=>
     rw[ha] at fa;simp only at fa;obtain⟨hw,hVi,hm⟩:=fa;rw[s2] at hw;rw[if_pos hw];refine .inl ?_;obtain⟨d,hdd⟩:=hp.some_ i o hin ho (by rw[<-yI,ha];rfl);have hds:=hp.dst i o d hin ho hdd;have hfs:=Gg V (l0.take i) 0 a0;refine Qo (K:=fun a' W'=>a'.defers=(rF V (l0.take i) 0 a0).defers/\∃x,a'.tmps[d]?=some (A.val x)/\aj A.D W W'/\A.R x W'/\∀k,A.f x k->W.heap.size<=k) s1 (fun v W' hK=>?_) (fun _ _ h=>h.1) (hm W hW (fun j B hj hdj haj=>hR j B (by omega) (Dw j hdj) haj) (hPr i A hin (xe hun) ha) _ (fun x W' hE yJ hfr=>⟨uU _ _ _,x,by rw[hdd];exact put_eq _ _ _ (by rw[hfs.1,hsz];exact hds),hE,yJ,hfr⟩));obtain⟨_,x,hx,hE,yJ,hfr⟩:=hK;rw[hdd,put_eq _ _ _ (by rw[hfs.1,hsz];exact hds)] at hx;have hvx:v=A.val x:=Option.some.inj hx;obtain⟨V',hV'⟩:=qo (fun j=>if j=i then x else X j) _ _ _ _ hC (fun g hg=>by cases hg) List.Pairwise.nil;have hne: ∀j,l.getD j false=true->j≠i:=fun j hl e=>by subst e;rw[xe hun] at hl;cases hl
     have hRW: ∀j B,j<n->l.getD j false=true->aU j=some B->B.R (X j) W':=fun j B hj hl haj=>B.st _ _ _ _ (hR j B hj hl haj) hE (hcmp.1 i A j B ha haj (fun e=>hne j hl e.symm));have hWX:aj F0 w0 W':=hW.trans (hE.mono (fun k _ h=>hcmp.2 i A ha k h));have hsame:=Good.same hp hd hsz hV hV' (fun j hj hl=>if_neg (hne j hl)) hWX hRW;have VZ:=hV'.at _ _ _ i _ hot;rw[Nat.zero_add] at VZ;unfold lX at VZ;rw[ha] at VZ;simp only[if_true] at VZ;rw[hvx,<-VZ.2.1];refine ih _ _ _ (fun j=>if j=i then x else X j) V' (hd.step hi) TP hWX (fun j B hj hl haj=>?_) (fun i' j A1 B hi' hj hl1 hl2 hnq h1 h2 b e1 e2=>?_) (fun j B hj hl haj=>?_) hV' (hF.step hp hsz hin ho hsame) (by omega)
     .by_cases e:j=i
      .subst e;rw[ha] at haj;obtain rfl:=Option.some.inj haj;simp only[if_true];exact yJ
      rw[getD_set_ne false (Ne.symm e)] at hl;simp only[if_neg e];exact hRW j B hj hl haj
     by_cases c1:i'=i
     .subst c1;have c2: ¬j=i':=fun e=>hnq e.symm;rw[ha] at h1;obtain rfl:=Option.some.inj h1;simp only[if_true] at e1;simp only[if_neg c2] at e2;rw[getD_set_ne false (fun e=>c2 e.symm)] at hl2;have k1:=hfr b e1;have k2:=B.lt _ _ b (hR j B hj hl2 h2) e2;omega
     .by_cases c2:j=i
      .subst c2;rw[ha] at h2;obtain rfl:=Option.some.inj h2;simp only[if_true] at e2;simp only[if_neg c1] at e1;rw[getD_set_ne false (fun e=>c1 e.symm)] at hl1;have k1:=hfr b e2;have k2:=A1.lt _ _ b (hR i' A1 hi' hl1 h1) e1;omega
      .simp only [if_neg c1] at e1;simp only[if_neg c2] at e2;rw[getD_set_ne false (fun e=>c1 e.symm)] at hl1;rw[getD_set_ne false (fun e=>c2 e.symm)] at hl2;exact hD i' j A1 B hi' hj hl1 hl2 hnq h1 h2 b e1 e2
     .have amc:i<l.size:=by rw[hd.size];exact his
      have e:j≠i:=fun e=>by subst e;simp[amc] at hl
      rw[getD_set_ne false (Ne.symm e)] at hl;exact B.pst _ _ _ (hPr j B hj hl haj) hE (hcmp.1 i A j B ha haj (Ne.symm e))
theorem bW {id:Nat} {a:Act} {w:World} {l0:List Oper} [Inhabited α] (F0:Nat->Prop) (n:Nat) (fl:List Nat) (kW:Nat) (tail:List (Nat×Nat)) (Ff:List (List Nat)) (lY:List (Option (dK α))) (Fg:List Bool) (hm:P.follows .mixedOrders=true)
  (hB:Ii l0.toArray n a.tmps.size (fun i=>Ff.getD i []) (fun i=>Fg.getD i false) fl kW tail=true) (yI:lY.map (·.isSome)=Fg)
  (hQ: ∀c a d v w,Q (.panic c) (Act.put a d v) w->Q (.panic c) a w) (hcmp:aaQ F0 (fun i=>lY.getD i none)) (hpre: ∀i A,lY.getD i none=some A->A.pre w)
  (h:Can P l0.toArray (fun a W=>cu P l0.toArray Q (fun _=>True) (gG l0 tail) a W) w F0 (fun i=>Ff.getD i []) (fun i=>lY.getD i none) (l0.take n) 0 [] a):(Code.region id l0.toArray true).wp P Q a w:=by
 have hp:=acw hB;refine wp_region_any hm ?_;have hW:aj F0 w {w with drawn:=w.drawn+1}:=⟨rfl,rfl,rfl,Nat.le_refl _,fun _ _ _=>rfl⟩
 obtain⟨V,hV⟩:=qo (fun _=>default) _ _ _ _ h (fun g hg=>by cases hg) List.Pairwise.nil;have hf: ∀j,(Array.replicate l0.toArray.size false).getD j false=false:=fun j=>by
  rcases Nat.lt_or_ge j l0.length with h|h<;>simp[h]
 refine VT hp (fun i=>?_) hcmp hQ rfl h _ _ _ _ _ V qM.start (fun j _=>hf j) hW (fun j A _ hl=>by rw[hf] at hl;cases hl) (fun i j A B _ _ hl=>by rw[hf] at hl;cases hl) (fun j A _ _ haj=>A.pst _ _ (fun _=>False) (hpre j A haj) ⟨rfl,rfl,rfl,Nat.le_refl _,fun _ _ _=>rfl⟩ (fun _ h=>h.elim)) hV zY.start ?_
 .rw [<-yI];simp only[List.getD_eq_getElem?_getD,List.getElem?_map];cases lY[i]?<;>rfl
 .have h1:Dy n (Array.replicate l0.toArray.size false)<=n:=by
   unfold Dy;exact Nat.le_trans (List.length_filter_le _ _) (by simp)
  have:=hp.len;omega
theorem qN {o:Oper} {r:List Oper} {i:Nat} {G:List xQ} {a:Act} (ha:aU i=none)
  (h: ∀K:Act->Prop,(∀a,Can P ops Qt w0 F0 dp aU r (i+1) G a->K a)->if Region.wanted o (yielded ops a.tmps) then ∃v,(∀W,aj F0 w0 W->(∀g∈G,g.1∈dp i->g.2.2 W)->(execOp a.eval o).run P W= .ok (.value v) W)/\K (a.put o.dst v) else K (a.put o.dst undef)):
  Can P ops Qt w0 F0 dp aU (o::r) i G a:=by
 unfold Can;rw[ha];exact h _ (fun _ h=>h)
theorem aK {o:Oper} {r:List Oper} {i:Nat} {G:List xQ} {a:Act} (A:dK α) (ha:aU i=some A) (hw:Region.wanted o (yielded ops a.tmps)=true)
  (h1: ∀W,aj F0 w0 W->(∀g∈G,g.1∈dp i->g.2.2 W)->A.pre W->∀K:Act->World->Prop,(∀x W',aj A.D W W'->A.R x W'->(∀k,A.f x k->W.heap.size<=k)->K (a.put o.dst (A.val x)) W')->o.wp P a W K (fun _ _ _=>False))
  (h2: ∀K:Act->Prop,∀x,(∀a,Can P ops Qt w0 F0 dp aU r (i+1) (G++[(i,A.f x,A.R x)]) a->K a)->K (a.put o.dst (A.val x))):
  Can P ops Qt w0 F0 dp aU (o::r) i G a:=by
 unfold Can;rw[ha];exact⟨hw,h1,fun x=>h2 _ x (fun _ h=>h)⟩
theorem jo {i:Nat} {G:List xQ} {a:Act} (h: ∀W,aj F0 w0 W->(∀g∈G,g.2.2 W)->vz G->Qt a W):Can P ops Qt w0 F0 dp aU [] i G a:=h
theorem aX {o:Oper} {r:List Oper} {i:Nat} {G:List xQ} {a:Act} (ha:aU i=none)
  (h: ∀K:Act->Prop,(∀a,Can P ops Qt w0 F0 dp aU r (i+1) G a->K a)->if Region.wanted o (yielded ops a.tmps) then ∃v,(∀x:XF F0 w0,(execOp a.eval o).run P x.val= .ok (.value v) x.val)/\K (a.put o.dst v) else K (a.put o.dst undef)):
  Can P ops Qt w0 F0 dp aU (o::r) i G a:=by
 refine qN ha fun K hK=>?_;have h2:=h K hK;by_cases hw:Region.wanted o (yielded ops a.tmps)=true
 .rw [if_pos hw] at h2⊢;obtain⟨v,hv,h3⟩:=h2;exact⟨v,fun W hW _=>hv ⟨W,hW⟩,h3⟩
 .rw [if_neg hw] at h2⊢;exact h2
end
end
end Go.Hw.PI
namespace Go.Hw
open Go.RowKit
section
section
variable {P:Program} {ops:Array Oper} {Q:Exit->Act->World->Prop} {α:Type} {w0:World} {Qt:Act->World->Prop} {dp:Nat->List Nat} {n:Nat} {md:Region.Mode} {fl:List Nat} {kW:Nat}
structure dK (α:Type) where
 val:α->Value
 R:α->World->Prop
 st: ∀x W W',R x W->Ext W W'->R x W'
variable {aU:Nat->Option (dK α)}
def dK.i (A:dK α):PI.dK α:=⟨A.val,A.R,fun _=>False,fun _=>False,fun x W W' _ h hU hF=>A.st x W W' h (hU.mono fun k _ e=>hF k e),fun _=>True,fun _ _ _ _ _ _=>trivial,fun _ _=>False,fun _ _ _ _ h=>h.elim⟩
def gI (G:List (Nat×(World->Prop))):List PI.xQ:=G.map fun g=>(g.1,fun _=>False,g.2)
def Can (P:Program) (ops:Array Oper) (Qt:Act->World->Prop) (w0:World) (dp:Nat->List Nat) (aU:Nat->Option (dK α)) (r:List Oper) (i:Nat) (G:List (Nat×(World->Prop))) (a:Act):Prop:=
 PI.Can P ops Qt w0 (fun _=>False) dp (fun i=>(aU i).map dK.i) r i (gI G) a
theorem bW {id:Nat} {a:Act} {w:World} {l0:List Oper} [Inhabited α] (n:Nat) (fl:List Nat) (kW:Nat) (tail:List (Nat×Nat)) (Ff:List (List Nat)) (lY:List (Option (dK α))) (Fg:List Bool) (hm:P.follows .mixedOrders=true)
  (hB:Ii l0.toArray n a.tmps.size (fun i=>Ff.getD i []) (fun i=>Fg.getD i false) fl kW tail=true) (yI:lY.map (·.isSome)=Fg)
  (hQ: ∀c a d v w,Q (.panic c) (Act.put a d v) w->Q (.panic c) a w)
  (h:Can P l0.toArray (fun a W=>cu P l0.toArray Q (fun _=>True) (gG l0 tail) a W) w (fun i=>Ff.getD i []) (fun i=>lY.getD i none) (l0.take n) 0 [] a):(Code.region id l0.toArray true).wp P Q a w:=by
 have e:(fun i=>(lY.map (·.map dK.i)).getD i none)=fun i=>(lY.getD i none).map dK.i:=by
  funext i;simp only[List.getD_eq_getElem?_getD,List.getElem?_map];cases lY[i]?<;>rfl
 have hA: ∀i A,(lY.map (·.map dK.i)).getD i none=some A->∃B:dK α,A=B.i:=fun i A h=>by
  rw[show(lY.map (·.map dK.i)).getD i none=(lY.getD i none).map dK.i from congrFun e i] at h;cases hg:lY.getD i none with
  |none=>rw[hg] at h;cases h
  |some B=>rw[hg] at h;exact⟨B,(Option.some.inj h).symm⟩
 refine PI.bW (fun _=>False) n fl kW tail Ff (lY.map (·.map dK.i)) Fg hm hB (by rw[<-yI,List.map_map];refine List.map_congr_left fun x _=>?_;cases x<;>rfl) hQ ⟨fun i A j B h _ _ k hk=>?_,fun i A h k hk=>?_⟩ (fun i A h=>?_) (by rw[e];exact h)
 .obtain ⟨B,rfl⟩:=hA i A h;exact hk.elim
 .obtain ⟨B,rfl⟩:=hA i A h;exact hk
 .obtain ⟨B,rfl⟩:=hA i A h;trivial
theorem qN {o:Oper} {r:List Oper} {i:Nat} {G:List (Nat×(World->Prop))} {a:Act} (ha:aU i=none)
  (h: ∀K:Act->Prop,(∀a,Can P ops Qt w0 dp aU r (i+1) G a->K a)->if Region.wanted o (yielded ops a.tmps) then ∃v,(∀W,Ext w0 W->(∀g∈G,g.1∈dp i->g.2 W)->(execOp a.eval o).run P W= .ok (.value v) W)/\K (a.put o.dst v) else K (a.put o.dst undef)):
  Can P ops Qt w0 dp aU (o::r) i G a:=by
 refine PI.qN (by simp only[ha];rfl) fun K hK=>?_;have h2:=h K hK;by_cases hw:Region.wanted o (yielded ops a.tmps)=true
 .rw [if_pos hw] at h2⊢;obtain⟨v,hv,h3⟩:=h2;exact⟨v,fun W hW hG=>hv W hW (fun g hg hd=>hG _ (List.mem_map_of_mem hg) hd),h3⟩
 .rw [if_neg hw] at h2⊢;exact h2
theorem aK {o:Oper} {r:List Oper} {i:Nat} {G:List (Nat×(World->Prop))} {a:Act} (A:dK α) (ha:aU i=some A) (hw:Region.wanted o (yielded ops a.tmps)=true)
  (h1: ∀W,Ext w0 W->(∀g∈G,g.1∈dp i->g.2 W)->∀K:Act->World->Prop,(∀x W',Ext W W'->A.R x W'->K (a.put o.dst (A.val x)) W')->o.wp P a W K (fun _ _ _=>False))
  (h2: ∀K:Act->Prop,∀x,(∀a,Can P ops Qt w0 dp aU r (i+1) (G++[(i,A.R x)]) a->K a)->K (a.put o.dst (A.val x))):
  Can P ops Qt w0 dp aU (o::r) i G a:=PI.aK A.i (by simp only[ha];rfl) hw (fun W hW hG _ K hK=>h1 W hW (fun g hg hd=>hG _ (List.mem_map_of_mem hg) hd) K (fun x W' hE hR=>hK x W' hE hR (fun _ h=>h.elim))) (fun K x hK=>h2 K x (fun a h=>hK a (by have h':PI.Can P ops Qt w0 (fun _=>False) dp (fun i=>(aU i).map dK.i) r (i+1) (gI (G++[(i,A.R x)])) a:=h;unfold gI at h';rw[List.map_append] at h';exact h')))
theorem jo {i:Nat} {G:List (Nat×(World->Prop))} {a:Act} (h: ∀W,Ext w0 W->(∀g∈G,g.2 W)->Qt a W):Can P ops Qt w0 dp aU [] i G a:=PI.jo fun W hW hG _=>h W hW fun g hg=>hG _ (List.mem_map_of_mem hg)
theorem aX {o:Oper} {r:List Oper} {i:Nat} {G:List (Nat×(World->Prop))} {a:Act} (ha:aU i=none)
  (h: ∀K:Act->Prop,(∀a,Can P ops Qt w0 dp aU r (i+1) G a->K a)->if Region.wanted o (yielded ops a.tmps) then ∃v,(∀x:XW w0,(execOp a.eval o).run P x.val= .ok (.value v) x.val)/\K (a.put o.dst v) else K (a.put o.dst undef)):
  Can P ops Qt w0 dp aU (o::r) i G a:=by
 refine qN ha fun K hK=>?_;have h2:=h K hK;by_cases hw:Region.wanted o (yielded ops a.tmps)=true
 .rw [if_pos hw] at h2⊢;obtain⟨v,hv,h3⟩:=h2;exact⟨v,fun W hW _=>hv ⟨W,hW⟩,h3⟩
 .rw [if_neg hw] at h2⊢;exact h2
end
end
end Go.Hw
