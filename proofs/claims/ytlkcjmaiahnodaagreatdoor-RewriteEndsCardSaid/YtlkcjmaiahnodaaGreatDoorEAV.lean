/- The texts OT CF RI OG OX Ends, one behind the other. -/
import Derived.Test.YtlkcjmaiahnodaaGreatDoorEAB
import Derived.Test.YtlkcjmaiahnodaaGreatDoorRows
import Derived.Lib.SmallJoins
import Derived.OpenShut
import Derived.Deep.SlicePairs
import Derived.ProofKit
import Derived.SizedLaws
import Derived.Test.YtlkcjmaiahnodaaGreatDoorEAG
import Derived.Test.YtlkcjmaiahnodaaGreatDoorTie
import Derived.Test.YtlkcjmaiahnodaaGreatDoorCards
import Derived.WalkKit
import Derived.Handy
import Derived.Lay
import Derived.MakeChecks
import Derived.LaidSub
import Derived.SevenTiedAt
import Derived.Test.YtlkcjmaiahnodaaGreatDoorEAC
import Derived.Test.YtlkcjmaiahnodaaGreatDoorEAD
import Derived.Test.YtlkcjmaiahnodaaGreatDoorEAA
import Derived.Test.YtlkcjmaiahnodaaGreatDoorEAU
set_option linter.unusedVariables false
set_option linter.unusedSimpArgs false
set_option maxRecDepth 100000
set_option maxHeartbeats 8000000
namespace Go.Proofs.YtlkcjmaiahnodaaGreatDoor
open Go.RowKit Go.Hw Go Tm
section
open Go.ChangeShapes Go.WideShapes Go.Deep Go.Joins Go.ChangeAt
theorem Tryz.own:ownKnob Tryz.prog.godebug=none:=by kernel_rfl
theorem Tryz.laidOut:laidOutB Tryz.prog=true:=by kernel_rfl
theorem cells25:Tryz.prog.cellsOf 24=3:=by kernel_rfl
theorem cells9:Tryz.prog.cellsOf 9=1:=by kernel_rfl
theorem cells23:Tryz.prog.cellsOf 22=1:=by kernel_rfl
theorem cells38:Tryz.prog.cellsOf 146=6:=by kernel_rfl
theorem Jf (b o k:Nat):(⟨b,o,none⟩:Addr).add k=⟨b,o+k,none⟩:=by
 unfold Addr.add;split
 .rename_i h;subst h;rfl
 .rfl
theorem P5 {α:Type} (f:α->Value): ∀l:List α,l.flatMap (fun s=>[f s])=l.map f
 |[]=>rfl
 |a::l=>by rw[List.flatMap_cons,P5 f l];rfl
theorem P6 {α:Type} (cells:α->List Value) {k:Nat} (hc: ∀a,(cells a).length=k): ∀l:List α,(l.flatMap cells).length=l.length*k
 |[]=>by simp
 |a::l=>by rw[List.flatMap_cons,List.length_append,hc,P6 cells hc l,List.length_cons,Nat.add_mul,Nat.one_mul,Nat.add_comm]
theorem flat_get {α:Type} [Inhabited α] (cells:α->List Value) {k:Nat} (hc: ∀a,(cells a).length=k): ∀(l:List α) (q r:Nat),q<l.length->r<k->(l.flatMap cells)[q*k+r]?=(cells (l.getD q default))[r]?
 |[],q,r,h,_=>by simp at h
 |a::l,0,r,_,hr=>by
  rw[List.flatMap_cons,Nat.zero_mul,Nat.zero_add,List.getElem?_append_left (by rw[hc];exact hr)];rfl
 |a::l,q+1,r,h,hr=>by
  rw[List.flatMap_cons,List.getElem?_append_right (by rw[hc,Nat.add_mul];omega),hc,show(q+1)*k+r-k=q*k+r by rw[Nat.add_mul];omega];rw[flat_get cells hc l q r (by simpa using h) hr];rfl
section
variable {H:Type} {enc:TypeId×Value->H} {W:World}
noncomputable abbrev SK (enc:TypeId×Value->H) (W:World) (held:Bool) (fuel:Nat) (t:TypeId) (cs:List Value):=DataW.trod enc Tryz.prog W 0 (fun _=>true) held fuel t cs
theorem EL {t e:TypeId} {k:Nat} {α:Type} [Inhabited α] (cells:α->List Value) (R:α->Prop) (ht:Tryz.prog.underlying t=some (.slice e)) (hk:Tryz.prog.cellsOf e=k) (hc: ∀a,(cells a).length=k) (hk0:0<k)
  {held:Bool} {fuel:Nat} {v:Value} {y:DataW H×List MemPlace} (hel: ∀n cs y,n<fuel->SK enc W held n e cs=some y->∃a,cs=cells a/\R a) (h:SK enc W held fuel t [v]=some y):
  ∃l:List α,az (fun b=>b<W.heap.size) W k v l.length (l.flatMap cells)/\l.length<=maxLen/\∀a∈l,R a:=by
 rcases DataW.trod_slice ht h with⟨hcs,_⟩|⟨a,len,cap,elems,rest,n,hfu,hcs,_,_,hl,hm,hlen,hall,_⟩
 .simp only [List.cons.injEq,and_true] at hcs;subst hcs;exact⟨[],az.nil _ _ _,by simp,by simp⟩
 .simp only [List.cons.injEq,and_true] at hcs;subst hcs;rw[hk] at hall;have hA: ∀i,∃f:α,i<len->(∃cs',W.cells? 0 (a.add (i*k)) k=some cs'/\cs'=cells f)/\R f:=fun i=>by
   by_cases hi:i<len
   .have h1:=hall i hi;rw[List.getElem?_eq_getElem (by omega)] at h1;obtain⟨cs',h2,h3⟩:=Option.bind_eq_some_iff.1 h1;obtain⟨f,hf,hr⟩:=hel n cs' _ (by omega) h3;exact⟨f,fun _=>⟨⟨cs',h2,hf⟩,hr⟩⟩
   .exact ⟨default,fun h=>absurd h hi⟩
  obtain⟨A,hA3⟩:=Classical.axiomOfChoice hA;have hlenA:((List.range len).map A).length=len:=by simp
  have hx: ∀i r,i<len->r<k->W.cell? ((a.add (i*k)).add r)=(cells (A i))[r]?:=fun i r hi hr=>by
   obtain⟨⟨cs',h1,h2⟩,_⟩:=hA3 i hi;rw[<-h2];exact(World.cells?_some h1).2.2 r hr
  have hsm:0<len->∃u,W.cell? ((a.add (0*k)).add 0)=some u:=fun h0=>by
   rw[hx 0 0 h0 hk0];exact⟨_,List.getElem?_eq_getElem (by rw[hc];exact hk0)⟩
  have hsp:0<len->a.spot=none:=fun h0=>by
   obtain⟨u,hu⟩:=hsm h0;have:=World.cell?_spot hu;simpa[Addr.add] using this
  have hbk:0<len->a.block<W.heap.size:=fun h0=>by
   obtain⟨u,hu⟩:=hsm h0;have:=World.block_lt_of_cell? W _ hu;simpa[Addr.add] using this
  refine⟨(List.range len).map A,?_,by rw[hlenA];omega,fun p hp=>?_⟩
  .rw [hlenA];refine⟨by rw[P6 cells hc,hlenA],.inr ⟨a,cap,rfl,hl,fun h0=>⟨hsp h0,hbk h0⟩,fun j hj=>?_⟩⟩;have hjq:j / k<len:=Nat.div_lt_of_lt_mul (by rw[Nat.mul_comm];exact hj);have hjr:j % k<k:=Nat.mod_lt _ hk0;have hje:j=j / k*k+j % k:=by rw[Nat.mul_comm];exact(Nat.div_add_mod j k).symm
   generalize j / k=q at hjq hje;generalize j % k=r at hjr hje;subst hje;rw[flat_get cells hc _ q r (by rw[hlenA];exact hjq) hjr];have e:((List.range len).map A).getD q default=A q:=by simp[hjq]
   rw[e,<-hx q r hjq hjr];have h4:=hsp (by omega);obtain⟨ab,ao,asp⟩:=a;simp only at h4;subst h4;rw[Jf,Jf,Nat.add_assoc]
  .simp only [List.mem_map,List.mem_range] at hp;obtain⟨i,hi,rfl⟩:=hp;exact(hA3 i hi).2
abbrev Tu:=Tm×Value
def uP (p:Tu):List Value:=[.string p.1.name,.string p.1.sort,p.2]
def tZ (W:World) (p:Tu):Prop:=aA (fun b=>b<W.heap.size) W p.1.kids p.2
theorem L6: ∀l:List Tu,l.flatMap uP=dC (l.map (·.1)) (l.map (·.2))
 |[]=>rfl
 |p::l=>by
  rw[List.flatMap_cons,L6 l];rfl
theorem ada {l:List Tu} {v:Value} (h:az (fun b=>b<W.heap.size) W 3 v l.length (l.flatMap uP)) (hR: ∀p∈l,tZ W p):aA (fun b=>b<W.heap.size) W (l.map (·.1)) v:=by
 rw[L6] at h;refine .mk _ (l.map (·.2)) v (by simp) (by rw[List.length_map];exact h) (fun i hi=>?_);rw[List.length_map] at hi;have h1:=hR _ (List.getElem_mem hi);unfold tZ at h1;have e1:tg (l.map (·.1)) i=(l[i]).1:=by unfold tg;simp[hi]
 have e2:ug (l.map (·.2)) i=(l[i]).2:=by unfold ug;simp[hi]
 rw[e1,e2];exact h1
theorem J3 (fuel:Nat): ∀{held:Bool} (cs:List Value) (y:DataW H×List MemPlace),SK enc W held fuel 24 cs=some y->∃p:Tu,cs=uP p/\tZ W p:=by
 induction fuel using Nat.strongRecOn with
 |_ fuel ih=>
  intro held cs y h;obtain⟨xs,n,hfu,hx,hcl,hxl,hf⟩:=DataW.trod_struct Tryz.underlying24 h;rw[cells25] at hcl
  match cs,hcl,xs,hxl with
  |[v0,v1,v2],_,[y0,y1,y2],_=>
   have g0:=hf 0 _ rfl;have g1:=hf 1 _ rfl;have g2:=hf 2 _ rfl;simp[cells9,cells23] at g0 g1 g2;obtain⟨s0,e0,_,_⟩:=DataW.trod_string Tryz.underlying9 g0;obtain⟨s1,e1,_,_⟩:=DataW.trod_string Tryz.underlying9 g1;simp only[List.cons.injEq,and_true] at e0 e1;subst e0;subst e1;obtain⟨l,hl,_,hR⟩:=EL (α:=Tu) uP (tZ W) Tryz.underlying22 cells25 (fun _=>rfl) (by decide) (fun n' cs' y' hn h'=>ih n' (by omega) cs' y' h') g2;exact⟨((Tm.mk s0 s1 (l.map fun(x:Tu)=>x.1),v2):Tu),rfl,ada hl hR⟩
theorem U7 {v:Value} {d:DataW H} {ps:List MemPlace} (h:DataW.Trod enc Tryz.prog W 0 (fun _=>true) true 24 v d ps) (hv: ∃a b c,v= .agg #[a,b,c]/\v.cells= #[a,b,c]): ∃t:Tm,bC (fun b=>b<W.heap.size) W t v:=by
 obtain⟨fuel,hf⟩:=h;obtain⟨a,b,c,rfl,hc⟩:=hv;rw[hc] at hf;obtain⟨p,hp,hR⟩:=J3 fuel _ _ hf;unfold uP at hp;simp only[List.cons.injEq,and_true] at hp;obtain⟨rfl,rfl,rfl⟩:=hp;exact⟨p.1,bC.of hR⟩
abbrev Ru:=Tu×Tu
def xw (p:Ru):List Value:=uP p.1++uP p.2
theorem adb (fuel:Nat) {held:Bool} (cs:List Value) (y:DataW H×List MemPlace) (h:SK enc W held fuel 146 cs=some y): ∃p:Ru,cs=xw p/\tZ W p.1/\tZ W p.2:=by
 obtain⟨xs,n,hfu,hx,hcl,hxl,hf⟩:=DataW.trod_struct Tryz.underlying146 h;rw[cells38] at hcl
 match cs,hcl,xs,hxl with
 |[v0,v1,v2,v3,v4,v5],_,[y0,y1],_=>
  have g0:=hf 0 _ rfl;have g1:=hf 1 _ rfl;simp[cells25] at g0 g1;obtain⟨p,hp,h1⟩:=J3 _ _ _ g0;obtain⟨q,hq,h2⟩:=J3 _ _ _ g1;refine⟨(p,q),?_,h1,h2⟩;unfold xw;rw[<-hp,<-hq];rfl
theorem Tc {v:Value} {d:DataW H} {ps:List MemPlace} (h:DataW.Trod enc Tryz.prog W 0 (fun _=>true) true 50 v d ps) (hs: ∃a len cap,v= .slice a len cap): ∃l:List Ru,az (fun b=>b<W.heap.size) W 6 v l.length (l.flatMap xw)/\l.length<=maxLen/\∀p∈l,tZ W p.1/\tZ W p.2:=by
 obtain⟨fuel,hf⟩:=h;obtain⟨a,len,cap,rfl⟩:=hs;exact EL (α:=Ru) xw (fun p=>tZ W p.1/\tZ W p.2) Tryz.underlying50 cells38 (fun _=>rfl) (by decide) (fun n' cs' y' hn h'=>adb n' cs' y' h') hf
end
end
section
open Go.ChangeShapes Go.WideShapes Go.ChangeAt
def Et:List (String×DataW Unit):=[("unicode.White_Space",Rows.laid_unicode_White_Space),("strings.asciiSpace",Rows.laid_strings_asciiSpace)]
open Go.Deep Go.Joins Tm
theorem X6:(Rows.laid_strings_asciiSpace:DataW Unit)=Lib.tabData .u8 Lib.asciiSpaceTab:=by kernel_rfl
theorem U6:(Et.filter fun x=>x.1== "strings.asciiSpace")=[("strings.asciiSpace",Lib.tabData .u8 Lib.asciiSpaceTab)]:=by
 rw[<-X6];kernel_rfl
theorem Ql {W:World} (h:laidMetH Tryz.prog Et W):bT W:=by
 rw[MakeChecks.laidMetH_plain _ _ _ (by kernel_rfl)] at h;have h2:=laidMet.filter (fun x=>x.1== "strings.asciiSpace") h;rw[U6] at h2;exact Lib.tabIs_of_head (g:=(Tryz.prog.globalNamed "strings.asciiSpace").getD 0) (t:=260) (e:=5) (n:=256) (by kernel_rfl) (by kernel_rfl) (by kernel_rfl) (by kernel_rfl) (by kernel_rfl) (by kernel_rfl) h2
theorem ab7 {H:Type} {enc:TypeId×Value->H} {W:World} {r:Reach} {b0:Nat} {v:Value} {d:DataW H} {ps:List MemPlace} (hv:Value.okWide Tryz.prog W r b0 24 v) (h:DataW.Trod enc Tryz.prog W 0 (fun _=>true) true 24 v d ps): ∃t:Tm,bC (fun b=>b<W.heap.size) W t v:=
 U7 h (by
  obtain⟨cs,rfl,hsz⟩:=okWide_struct Tryz.underlying24 hv;obtain⟨c0,c1,c2,rfl⟩:=array3 (hsz.trans (by kernel_rfl));exact⟨c0,c1,c2,rfl,by simp[Value.cells]⟩)
end
def Cf (l:List Ru):List Rl:=l.map fun p=>(p.1.1,p.2.1)
theorem L9: ∀l:List Ru,l.flatMap xw=dC (FN (Cf l)) (l.flatMap fun p=>[p.1.2,p.2.2])
 |[]=>rfl
 |p::l=>by
  rw[List.flatMap_cons,L9 l];rfl
theorem ab3: ∀l:List Ru,(l.flatMap fun p=>[p.1.2,p.2.2]).length=2*l.length
 |[]=>rfl
 |p::l=>by
  rw[List.flatMap_cons,List.length_append,ab3 l,List.length_cons];simp;omega
theorem SN {W:World}: ∀{l:List Ru},(∀p∈l,tZ W p.1/\tZ W p.2)->∀i,i<2*l.length->aA (fun b=>b<W.heap.size) W (tg (FN (Cf l)) i).kids (ug (l.flatMap fun p=>[p.1.2,p.2.2]) i)
 |[],_,i,h=>absurd h (by simp)
 |p::l,hR,0,_=>(hR p (List.mem_cons_self ..)).1
 |p::l,hR,1,_=>(hR p (List.mem_cons_self ..)).2
 |p::l,hR,i+2,h=>SN (l:=l) (fun q hq=>hR q (List.mem_cons_of_mem _ hq)) i (by simp only[List.length_cons] at h;omega)
theorem X7 {W:World} {l:List Ru} {v:Value} (h:az (fun b=>b<W.heap.size) W 6 v l.length (l.flatMap xw)) (hR: ∀p∈l,tZ W p.1/\tZ W p.2):jc (fun b=>b<W.heap.size) W (Cf l) v:=by
 have hlen:(Cf l).length=l.length:=by unfold Cf;simp
 have hfl:=SQ (Cf l);have hus:=ab3 l;have hk:=SN hR;obtain⟨hl,h⟩:=h;rcases h with⟨rfl,h0⟩|⟨ad,cap,rfl,hc,hS,hj⟩
 .have:l=[]:=List.eq_nil_of_length_eq_zero h0;subst this;exact⟨none,0,rfl,aA.nil _ _⟩
 .refine ⟨some ad,cap,by rw[hlen],.mk _ (l.flatMap fun p=>[p.1.2,p.2.2]) _ (by rw[hus,hfl,hlen]) ?_ (fun i hi=>hk i (by omega))⟩;rw[hfl,hlen];refine⟨by rw[Jg,hfl,hlen],.inr ⟨ad,2*cap,rfl,by omega,fun h=>hS (by omega),fun j hjj=>?_⟩⟩;rw[<-L9];exact hj j (by omega)
section
open Go.ChangeShapes Go.WideShapes Go.Deep Go.Joins Go.ChangeAt
theorem PY:Tryz.prog.cellsOf 77=3:=by kernel_rfl
theorem cells22:Tryz.prog.cellsOf 71=1:=by kernel_rfl
theorem cells58:Tryz.prog.cellsOf 74=2:=by kernel_rfl
abbrev Du:=Dc×Value
def EK (p:Du):List Value:=[.string p.1.1,p.2,.string p.1.2.2]
def UY (W:World) (p:Du):Prop:=zB (fun b=>b<W.heap.size) W p.2 p.1.2.1
theorem PZ: ∀l:List Du,l.flatMap EK=mf (l.map (·.1)) (l.map (·.2))
 |[]=>rfl
 |p::l=>by
  rw[List.flatMap_cons,PZ l];rfl
theorem ac_ {W:World} {l:List Du} {v:Value} (h:az (fun b=>b<W.heap.size) W 3 v l.length (l.flatMap EK)) (hR: ∀p∈l,UY W p):tY (fun b=>b<W.heap.size) W v (l.map (·.1)):=by
 rw[PZ] at h;refine⟨l.map (·.2),by rw[List.length_map];exact h,fun i hi=>?_⟩;rw[List.length_map] at hi;have h1:=hR _ (List.getElem_mem hi);unfold UY at h1;have e1:dg (l.map (·.1)) i=(l[i]).1:=by unfold dg;simp[hi]
 have e2:ug (l.map (·.2)) i=(l[i]).2:=by unfold ug;simp[hi]
 rw[e1,e2];exact h1
section
variable {H:Type} {enc:TypeId×Value->H} {W:World}
theorem SI (fuel:Nat) {held:Bool} (v:Value) (y:DataW H×List MemPlace) (h:SK enc W held fuel 71 [v]=some y): ∃l:List By,zB (fun b=>b<W.heap.size) W v l:=by
 haveI:Inhabited By:=⟨ah⟩
 obtain⟨l,hl,hm,hR⟩:=EL (α:=By) (fun s=>[.string s]) (fun _=>True) Tryz.underlying71 cells9 (fun _=>rfl) (by decide) (fun n' cs' y' hn h'=>by
  obtain⟨s0,e0,_,_⟩:=DataW.trod_string Tryz.underlying9 h';exact⟨s0,e0,trivial⟩) h
 refine⟨l,?_⟩;have e:l.flatMap (fun s=>[Value.string s])=l.map Value.string:=P5 _ l;unfold zB;rw[<-e];exact hl
theorem ac' (fuel:Nat) {held:Bool} (cs:List Value) (y:DataW H×List MemPlace) (h:SK enc W held fuel 77 cs=some y): ∃p:Du,cs=EK p/\UY W p:=by
 obtain⟨xs,n,hfu,hx,hcl,hxl,hf⟩:=DataW.trod_struct Tryz.underlying77 h;rw[PY] at hcl
 match cs,hcl,xs,hxl with
 |[v0,v1,v2],_,[y0,y1,y2],_=>
  have g0:=hf 0 _ rfl;have g1:=hf 1 _ rfl;have g2:=hf 2 _ rfl;simp[cells9,cells22] at g0 g1 g2;obtain⟨s0,e0,_,_⟩:=DataW.trod_string Tryz.underlying9 g0;obtain⟨s2,e2,_,_⟩:=DataW.trod_string Tryz.underlying9 g2;simp only[List.cons.injEq,and_true] at e0 e2;subst e0;subst e2;obtain⟨l,hl⟩:=SI _ _ _ g1;exact⟨((s0,l,s2),v1),rfl,hl⟩
theorem ab8 {r:Reach} {b0:Nat} {v:Value} {d:DataW H} {ps:List MemPlace} (hv:Value.okWide Tryz.prog W r b0 74 v) (h:DataW.Trod enc Tryz.prog W 0 (fun _=>true) true 74 v d ps): ∃g:Sg,u_ (fun b=>b<W.heap.size) W g v:=by
 obtain⟨v0,v1,y0,y1,n,rfl,_,_,h0,h1⟩:=open_agg2 Tryz.underlying74 (by kernel_rfl) cells58 hv h;obtain⟨l,hl⟩:=SI _ _ _ h0
 haveI:Inhabited Du:=⟨((ah,[],ah),qG)⟩
 obtain⟨ds,hd,_,hR⟩:=EL (α:=Du) EK (UY W) Tryz.underlying72 PY (fun _=>rfl) (by decide) (fun n' cs' y' hn h'=>ac' n' cs' y' h') h1;have hD:=ac_ hd hR;obtain⟨sa,sc,e0⟩:=az.shape hl;obtain⟨oa,oc,e1⟩:=hD.shape;subst e0;subst e1;exact⟨(l,ds.map (·.1)),sa,sc,oa,oc,rfl,hl,hD⟩
end
end
section
open Go.ChangeShapes Go.WideShapes Go.Deep Go.Joins Go.ChangeAt
theorem EO {n:Int} (h:(Lit.int .u8 n).wf=true):0<=n/\n<=255:=by
 simp[Lit.wf,IntKind.min,IntKind.max,IntKind.signed,IntKind.bits] at h;omega
end
section
open Go.ChangeShapes Go.WideShapes Go.ChangeAt
theorem Ce (os:Os) (started:os.Started) (H:Type) (enc:TypeId×Value->H):
  ReturnsInHanded {} Tryz.checked os 12 .any (fun w args=>(Rows.rewriteEndsSpec.pre enc Tryz.prog Tryz.f12 [] false w args/\laidMetH Tryz.prog Et w)/\sizedMet enc Tryz.prog Tryz.f12 (OpenSpec.ofChange Rows.rewriteEndsSpec) false w args)
   (Rows.rewriteEndsSpec.post enc Tryz.prog Tryz.f12 false true false false):=by
 refine returnsInHanded_of_change_and (C:=Tryz.checked) (X:=fun w _=>laidMetH Tryz.prog Et w) (fun _ _ _ hh h=>h.of_heap hh) Tryz.own started (by kernel_rfl) Tryz.func12
  (ChangeSpec.witness_shaped (enc:=enc) (C:=Tryz.checked) (os:=os) (X:=fun w _=>laidMetH Tryz.prog Et w) false (World.laidAll Tryz.prog os Et) #[.agg #[.slice none 0 0,.slice none 0 0],.slice none 0 0,.agg #[.string ⟨#[]⟩,.string ⟨#[]⟩,.slice none 0 0],.int .u8 0] 8 (World.laidAll_os _ _ _)
   (World.shaped_of_ZipB (by kernel_rfl) (by kernel_rfl)) (by kernel_rfl) (by kernel_rfl) (by kernel_rfl)
   (by rw[MakeChecks.laidMetH_plain _ _ _ (by kernel_rfl)];exact laidMet_laidAll _ (by kernel_rfl) (by kernel_rfl))) ?_
 intro W base args ds gs before hval0 hW hcnd aoW hL _;have hval: ∀(j:Nat) t v,Tryz.f12.params[j]?=some t->args[j]?=some v->Value.okWide Tryz.prog W .any base t v:=hval0;have hW':=hW;obtain⟨p,q,hA0,hV,rfl,hfz,hnd⟩:=hW;have hA:DataW.TrodAll enc Tryz.prog W 0 (fun _=>true) true Tryz.f12.params.toList args.toList ds p:=hA0;rw[Tryz.params12] at hA hval;obtain⟨v0,vs0,d0,ds0,p0,q0,hargs,rfl,rfl,h0,r0⟩:=trodAll_cons hA;obtain⟨v1,vs1,d1,ds1,p1,q1,rfl,rfl,rfl,h1,r1⟩:=trodAll_cons r0;obtain⟨v2,vs2,d2,ds2,p2,q2,rfl,rfl,rfl,h2,r2⟩:=trodAll_cons r1;obtain⟨v3,vs3,d3,ds3,p3,q3,rfl,rfl,rfl,h3,r3⟩:=trodAll_cons r2;obtain⟨rfl,rfl,rfl⟩:=trodAll_nil r3;obtain rfl:args= #[v0,v1,v2,v3]:=by cases args;simp_all
 obtain⟨rfl,rfl⟩:=trodVars_none hV;simp only[List.append_nil] at hW';have hlt: ∀x∈p0++(p1++(p2++p3)),x.block<W.heap.size:=fun x hx=>by simpa using hW'.lt x hx
 have k0: ∀(W':World),Below W.heap.size W W'->DataW.Trod enc Tryz.prog W' 0 (fun b=>decide (b<W.heap.size)) true 74 v0 d0 p0:=
  fun W' hn=>Below.trod Tryz.laidOut (by kernel_rfl) (of_decide_eq_true (by kernel_rfl)) h0 hn (fun x hx=>hlt x (by simp[hx]))
 have k1: ∀(W':World),Below W.heap.size W W'->DataW.Trod enc Tryz.prog W' 0 (fun b=>decide (b<W.heap.size)) true 50 v1 d1 p1:=
  fun W' hn=>Below.trod Tryz.laidOut (by kernel_rfl) (of_decide_eq_true (by kernel_rfl)) h1 hn (fun x hx=>hlt x (by simp[hx]))
 have k2: ∀(W':World),Below W.heap.size W W'->DataW.Trod enc Tryz.prog W' 0 (fun b=>decide (b<W.heap.size)) true 24 v2 d2 p2:=
  fun W' hn=>Below.trod Tryz.laidOut (by kernel_rfl) (of_decide_eq_true (by kernel_rfl)) h2 hn (fun x hx=>hlt x (by simp[hx]))
 have k3: ∀(W':World),Below W.heap.size W W'->DataW.Trod enc Tryz.prog W' 0 (fun b=>decide (b<W.heap.size)) true 5 v3 d3 p3:=
  fun W' hn=>Below.trod Tryz.laidOut (by kernel_rfl) (of_decide_eq_true (by kernel_rfl)) h3 hn (fun x hx=>hlt x (by simp[hx]))
 obtain⟨g0,hg0⟩:=ab8 (hval 0 74 v0 rfl rfl) h0;obtain⟨l1,hl1,hm1,hu1⟩:=Tc h1 (okWide_slice Tryz.underlying50 (hval 1 50 v1 rfl rfl));have hR1:=X7 hl1 hu1;obtain⟨t2,ht2⟩:=ab7 (hval 2 24 v2 rfl rfl) h2;obtain⟨x3,e3,_,_,wx3⟩:=open_int Tryz.underlying5 (hval 3 5 v3 rfl rfl) h3;subst e3;obtain⟨n3,rfl⟩: ∃n:Nat,x3=n:=⟨x3.toNat,by have:=EO wx3;omega⟩
 have hn3:n3<256:=by have:=EO wx3;omega
 have HA:=Ql hL;clear hA0 hval0;refine(ab9 g0 (Cf l1) t2 n3 v0 v1 v2 W hn3 hg0 hR1 (by simp only[Cf,List.length_map];exact hm1) ht2 HA).mono fun e W' ⟨he,hx⟩=>?_;subst he;have hn:=Ext.below hx;refine⟨_,rfl,_,_,_,[],p0++(p1++(p2++(p3++[]))),[],hW',?_,?_,rfl,hn.frame _,fun h=>by cases h⟩
 .exact trodAll_cons_mk (shut_bool Tryz.underlying4 true) trodAll_mk0
 .exact trodAll_cons_mk (k0 _ hn) (trodAll_cons_mk (k1 _ hn) (trodAll_cons_mk (k2 _ hn) (trodAll_cons_mk (k3 _ hn) trodAll_mk0)))
theorem rewriteEnds_row_holds:Rows.RewriteEndsSaid:=
 OpenClaim.holds_of_wide 12 Tryz.f12 rfl rfl rfl rfl rfl rfl rfl ⟨rfl,rfl,rfl,rfl,rfl⟩ rfl rfl rfl rfl rfl (by kernel_rfl) Tryz.func12 EN
  (of_decide_eq_true (by kernel_rfl)) (by unfold Func.isWrapper;first|(rw[if_pos (by decide+kernel)];kernel_rfl)|(rw[if_neg (by decide+kernel)];exact⟨rfl,rfl⟩))
  (fun os started H enc _=>Ce os started H enc)
theorem rewriteEnds_holds:Rows.RewriteEndsCardSaid:=
 Claim7.holds_tied_plain_at .later [] [.listed,.data] true (true, "cc6e0dfd2657a1d5001888bae87d69dd842751b3419e4c067c8fdf9a6138912c") false rewriteEnds_row_holds (fun _ h=>by cases h) (by kernel_rfl) (fun _ h=>by cases h) rewriteEnds_row_tie rfl ⟨rfl,rfl⟩ (by kernel_rfl) rfl
  (fun f fn hf hfn=>by
   obtain rfl:f=12:=Option.some.inj ((show Tryz.prog.funcNamed "heartwood/heartwoodlaw06.RewriteEnds" =some 12 by kernel_rfl).symm.trans hf)|>.symm;obtain rfl:fn=Tryz.f12:=(Option.some.inj (Tryz.func12.symm.trans hfn)).symm;exact⟨by kernel_rfl,fun j t ht=>by
    rw[Tryz.params12] at ht;have hm:t∈[74,50,24,5]:=by simpa using Array.mem_of_getElem? ht
    have hall:([74,50,24,5].all fun u=>!Tryz.prog.wantsStandIn u)=true:=by kernel_rfl
    exact(show Tryz.prog.wantsStandIn t=false by simpa using List.all_eq_true.1 hall t hm)⟩)
  (by kernel_rfl)
#print axioms rewriteEnds_holds
end
end Go.Proofs.YtlkcjmaiahnodaaGreatDoor
