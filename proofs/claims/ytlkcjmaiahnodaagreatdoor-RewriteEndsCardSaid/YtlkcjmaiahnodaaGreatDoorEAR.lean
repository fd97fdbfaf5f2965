/- The texts N79 I80 I81 I82 Y1, one behind the other. -/
import Derived.Test.YtlkcjmaiahnodaaGreatDoorEAQ
import Derived.Test.YtlkcjmaiahnodaaGreatDoorEAH
import Derived.Test.YtlkcjmaiahnodaaGreatDoorEAC
import Derived.Test.YtlkcjmaiahnodaaGreatDoorEAG
set_option maxRecDepth 100000
set_option maxHeartbeats 8000000
set_option linter.unusedVariables false
set_option linter.unusedSimpArgs false
namespace Go.Proofs.YtlkcjmaiahnodaaGreatDoor
open Go.RowKit Go.Hw Go Tm
section
open Go.Sort Go.Proofs Go.ChangeMaps
theorem aN {W W':World} {L:List Tm} {v:Value} (h:aA (fun k=>k<W.heap.size) W L v) (hE:Ext W W'):aA (fun k=>k<W'.heap.size) W' L v:=(h.ext hE).weaken (fun k hk=>ay hk hE.size)
def qC (v:Value):PG.dK (Nat×(Option Addr×Nat)×(Option Addr×Nat)×(Nat->Prop)):=⟨fun _=>v,fun _ _=>True,fun _ _ _ _ _=>trivial,fun _ _=>False,fun _ _ _ _ h=>h.elim⟩
def qL (L:List Tm) (m:Nat):PG.dK (Nat×(Option Addr×Nat)×(Option Addr×Nat)×(Nat->Prop)):=⟨fun x=> .slice (some ⟨x.1,0,none⟩) m m,fun x W=>aA (fun k=>k<W.heap.size) W L (.slice (some ⟨x.1,0,none⟩) m m),fun x W W' h hE=>aN h hE,fun _ _=>False,fun _ _ _ _ h=>h.elim⟩
def qR (L:List Tm) (m:Nat):PG.dK (Nat×(Option Addr×Nat)×(Option Addr×Nat)×(Nat->Prop)):=⟨fun x=> .slice (some ⟨x.1,0,none⟩) m m,fun x W=>aA (fun k=>k<W.heap.size) W L (.slice (some ⟨x.1,0,none⟩) (2*m) (2*m)),fun x W W' h hE=>aN h hE,fun _ _=>False,fun _ _ _ _ h=>h.elim⟩
def qO (n:By) (L:List Tm) (m:Nat):PG.dK (Nat×(Option Addr×Nat)×(Option Addr×Nat)×(Nat->Prop)):=⟨fun x=> .agg #[.string n,.string ⟨#[]⟩,.slice (some ⟨x.1,0,none⟩) m m],fun x W=>aA (fun k=>k<W.heap.size) W L (.slice (some ⟨x.1,0,none⟩) m m),fun x W W' h hE=>aN h hE,fun _ _=>False,fun _ _ _ _ h=>h.elim⟩
def dh (T:Tm):PG.dK (Nat×(Option Addr×Nat)×(Option Addr×Nat)×(Nat->Prop)):=⟨fun x=> .tuple #[.agg #[.string T.name,.string T.sort,.slice x.2.1.1 T.kids.length x.2.1.2],.agg #[.int .i64 1,.slice x.2.2.1.1 0 x.2.2.1.2],.int .i64 0],fun _ _=>True,fun _ _ _ _ _=>trivial,fun _ _=>False,fun _ _ _ _ h=>h.elim⟩
def di (base:Nat):PG.dK (Nat×(Option Addr×Nat)×(Option Addr×Nat)×(Nat->Prop)):=⟨fun x=> .tuple #[.agg #[.string ⟨#[115]⟩,.string ⟨#[]⟩,.slice x.2.1.1 1 x.2.1.2],.int .i64 2,.int .i64 0],fun x W=>aA x.2.2.2 W Py.kids (.slice x.2.1.1 1 x.2.1.2)/\∀j,x.2.2.2 j->base<=j/\j<W.heap.size,fun x W W' h hE=>⟨h.1.ext hE,fun j hj=>⟨(h.2 j hj).1,ay (h.2 j hj).2 hE.size⟩⟩,fun x j=>x.2.2.2 j,fun x W k h e=>(h.2 k e).2⟩
def dZ (base:Nat) (c:Obj):PG.dK (Nat×(Option Addr×Nat)×(Option Addr×Nat)×(Nat->Prop)):=⟨fun x=> .pointer (some ⟨x.1,0,none⟩),fun x W=>base<=x.1/\W.heap[x.1]?=some c,fun x W W' h hE=>⟨h.1,hE.heap h.2 (fun h=>h)⟩,fun x j=>j=x.1,fun x W k h e=>by rw[e];exact(Array.getElem?_eq_some_iff.1 h.2).1⟩
def dm:PG.dK (Nat×(Option Addr×Nat)×(Option Addr×Nat)×(Nat->Prop)):=⟨fun x=> .tuple #[.slice (some ⟨x.1,0,none⟩) 1 x.2.1.2,.int .i64 0],fun x W=>Em W (.slice (some ⟨x.1,0,none⟩) 1 x.2.1.2) (some (I7,I8,I9,0,0,[0])),fun x W W' h hE=>h.ext hE,fun _ _=>False,fun _ _ _ _ h=>h.elim⟩
def qI:PG.dK (Nat×(Option Addr×Nat)×(Option Addr×Nat)×(Nat->Prop)):=⟨fun x=> .slice (some ⟨x.1,0,none⟩) 1 1,fun x W=>W.heap[x.1]?=some (.cells #[.int .i64 0] 3 (0,0)),fun x W W' h hE=>hE.heap h (fun h=>h),fun _ _=>False,fun _ _ _ _ h=>h.elim⟩
theorem abH {S:Nat->Prop} {W:World} {l:List Rl} {b m:Nat} (hm:l.length=m) (h:aA S W (FN l) (.slice (some ⟨b,0,none⟩) (2*m) (2*m))):jc S W l (.slice (some ⟨b,0,none⟩) m m):=⟨some ⟨b,0,none⟩,m,by rw[hm],by rw[hm];exact h⟩
def lW:List Tm:=[(.mk ⟨#[88,95,50]⟩ ⟨#[97]⟩ [])]
theorem PE {S:Nat->Prop} {W:World} {n te:Nat} {fz:Nat×Nat} (h:W.heap[n]?=some (.cells #[.string ⟨#[88,95,50]⟩,.string ⟨#[97]⟩,.slice none 0 0] te fz)) (hn:S n) (_:True):aA S W lW (.slice (some ⟨n,0,none⟩) 1 1):=jH (a:=(.mk ⟨#[88,95,50]⟩ ⟨#[97]⟩ [])) h hn (aA.nil _ _)
def uD:List Tm:=[(.mk ⟨#[102]⟩ ah [(.mk ⟨#[88,95,50]⟩ ⟨#[97]⟩ [])])]
theorem Sr {S:Nat->Prop} {W:World} {n te:Nat} {fz:Nat×Nat} {ua:Value} (h:W.heap[n]?=some (.cells #[.string ⟨#[102]⟩,.string ⟨#[]⟩,ua] te fz)) (hn:S n) (ha:aA S W lW ua):aA S W uD (.slice (some ⟨n,0,none⟩) 1 1):=jH (a:=(.mk ⟨#[102]⟩ ah [(.mk ⟨#[88,95,50]⟩ ⟨#[97]⟩ [])])) h hn ha
def I_:List Tm:=[(.mk ⟨#[102]⟩ ah [(.mk ⟨#[102]⟩ ah [(.mk ⟨#[88,95,50]⟩ ⟨#[97]⟩ [])])])]
theorem ac5 {S:Nat->Prop} {W:World} {n te:Nat} {fz:Nat×Nat} {ua:Value} (h:W.heap[n]?=some (.cells #[.string ⟨#[102]⟩,.string ⟨#[]⟩,ua] te fz)) (hn:S n) (ha:aA S W uD ua):aA S W I_ (.slice (some ⟨n,0,none⟩) 1 1):=jH (a:=(.mk ⟨#[102]⟩ ah [(.mk ⟨#[102]⟩ ah [(.mk ⟨#[88,95,50]⟩ ⟨#[97]⟩ [])])])) h hn ha
def Ja:List Tm:=[(.mk ⟨#[103]⟩ ah [(.mk ⟨#[88,95,50]⟩ ⟨#[97]⟩ [])])]
theorem ac6 {S:Nat->Prop} {W:World} {n te:Nat} {fz:Nat×Nat} {ua:Value} (h:W.heap[n]?=some (.cells #[.string ⟨#[103]⟩,.string ⟨#[]⟩,ua] te fz)) (hn:S n) (ha:aA S W lW ua):aA S W Ja (.slice (some ⟨n,0,none⟩) 1 1):=jH (a:=(.mk ⟨#[103]⟩ ah [(.mk ⟨#[88,95,50]⟩ ⟨#[97]⟩ [])])) h hn ha
theorem UN {W:World} {a b c d:Value} (h1:aA (fun k=>k<W.heap.size) W I_ a) (h2:aA (fun k=>k<W.heap.size) W Ja b) (h3:aA (fun k=>k<W.heap.size) W uD c):aA (fun k=>k<W.heap.size) W I7.kids a/\aA (fun k=>k<W.heap.size) W I8.kids b/\aA (fun k=>k<W.heap.size) W I9.kids c:=⟨h1,h2,h3⟩
def d9:List (List Nat):=[[],[0],[0,1],[0,1,2],[0,1,2,3],[0,1,2,3,4],[0,1,2,3,4,5],[0,1,2,3,4,5,6],[0,1,2,3,4,5,6,7],[0,1,2,3,4,5,6,7,8],[0,1,2,3,4,5,6,7,8,9],[0,1,2,3,4,5,6,7,8,9,10],[0,1,2,3,4,5,6,7,8,9,10,11],[0,1,2,3,4,5,6,7,8,9,10,11,12],[0,1,2,3,4,5,6,7,8,9,10,11,12,13],[0,1,2,3,4,5,6,7,8,9,10,11,12,13,14],[0,1,2,3,4,5,6,7,8,9,10,11,12,13,14,15],[0,1,2,3,4,5,6,7,8,9,10,11,12,13,14,15,16],[0,1,2,3,4,5,6,7,8,9,10,11,12,13,14,15,16,17],[0,1,2,3,4,5,6,7,8,9,10,11,12,13,14,15,16,17,18],[0,1,2,3,4,5,6,7,8,9,10,11,12,13,14,15,16,17,18,19],[0,1,2,3,4,5,6,7,8,9,10,11,12,13,14,15,16,17,18,19,20],[0,1,2,3,4,5,6,7,8,9,10,11,12,13,14,15,16,17,18,19,20,21],[0,1,2,3,4,5,6,7,8,9,10,11,12,13,14,15,16,17,18,19,20,21],[0,1,2,3,4,5,6,7,8,9,10,11,12,13,14,15,16,17,18,19,20,21,22,23],[0,1,2,3,4,5,6,7,8,9,10,11,12,13,14,15,16,17,18,19,20,21,22,23,24],[0,1,2,3,4,5,6,7,8,9,10,11,12,13,14,15,16,17,18,19,20,21,22,23,24,25],[0,1,2,3,4,5,6,7,8,9,10,11,12,13,14,15,16,17,18,19,20,21,22,23,24,25,26],[0,1,2,3,4,5,6,7,8,9,10,11,12,13,14,15,16,17,18,19,20,21,22,23,24,25,26,27],[0,1,2,3,4,5,6,7,8,9,10,11,12,13,14,15,16,17,18,19,20,21,22,23,24,25,26,27,28],[0,1,2,3,4,5,6,7,8,9,10,11,12,13,14,15,16,17,18,19,20,21,22,23,24,25,26,27,28,29],[0,1,2,3,4,5,6,7,8,9,10,11,12,13,14,15,16,17,18,19,20,21,22,23,24,25,26,27,28,29,30],[0,1,2,3,4,5,6,7,8,9,10,11,12,13,14,15,16,17,18,19,20,21,22,23,24,25,26,27,28,29,30,31],[0,1,2,3,4,5,6,7,8,9,10,11,12,13,14,15,16,17,18,19,20,21,22,23,24,25,26,27,28,29,30,31,32],[0,1,2,3,4,5,6,7,8,9,10,11,12,13,14,15,16,17,18,19,20,21,22,23,24,25,26,27,28,29,30,31,32,33],[0,1,2,3,4,5,6,7,8,9,10,11,12,13,14,15,16,17,18,19,20,21,22,23,24,25,26,27,28,29,30,31,32,33,34],[0,1,2,3,4,5,6,7,8,9,10,11,12,13,14,15,16,17,18,19,20,21,22,23,24,25,26,27,28,29,30,31,32,33,34,35],[0,1,2,3,4,5,6,7,8,9,10,11,12,13,14,15,16,17,18,19,20,21,22,23,24,25,26,27,28,29,30,31,32,33,34,35,36],[0,1,2,3,4,5,6,7,8,9,10,11,12,13,14,15,16,17,18,19,20,21,22,23,24,25,26,27,28,29,30,31,32,33,34,35,36,37],[0,1,2,3,4,5,6,7,8,9,10,11,12,13,14,15,16,17,18,19,20,21,22,23,24,25,26,27,28,29,30,31,32,33,34,35,36,37,38],[0,1,2,3,4,5,6,7,8,9,10,11,12,13,14,15,16,17,18,19,20,21,22,23,24,25,26,27,28,29,30,31,32,33,34,35,36,37,38,39],[0,1,2,3,4,5,6,7,8,9,10,11,12,13,14,15,16,17,18,19,20,21,22,23,24,25,26,27,28,29,30,31,32,33,34,35,36,37,38,39,40],[0,1,2,3,4,5,6,7,8,9,10,11,12,13,14,15,16,17,18,19,20,21,22,23,24,25,26,27,28,29,30,31,32,33,34,35,36,37,38,39,40,41],[0,1,2,3,4,5,6,7,8,9,10,11,12,13,14,15,16,17,18,19,20,21,22,23,24,25,26,27,28,29,30,31,32,33,34,35,36,37,38,39,40,41,42],[0,1,2,3,4,5,6,7,8,9,10,11,12,13,14,15,16,17,18,19,20,21,22,23,24,25,26,27,28,29,30,31,32,33,34,35,36,37,38,39,40,41,42,43],[0,1,2,3,4,5,6,7,8,9,10,11,12,13,14,15,16,17,18,19,20,21,22,23,24,25,26,27,28,29,30,31,32,33,34,35,36,37,38,39,40,41,42,43,44],[0,1,2,3,4,5,6,7,8,9,10,11,12,13,14,15,16,17,18,19,20,21,22,23,24,25,26,27,28,29,30,31,32,33,34,35,36,37,38,39,40,41,42,43,44,45],[0,1,2,3,4,5,6,7,8,9,10,11,12,13,14,15,16,17,18,19,20,21,22,23,24,25,26,27,28,29,30,31,32,33,34,35,36,37,38,39,40,41,42,43,44,45,46],[0,1,2,3,4,5,6,7,8,9,10,11,12,13,14,15,16,17,18,19,20,21,22,23,24,25,26,27,28,29,30,31,32,33,34,35,36,37,38,39,40,41,42,43,44],[0,1,2,3,4,5,6,7,8,9,10,11,12,13,14,15,16,17,18,19,20,21,22,23,24,25,26,27,28,29,30,31,32,33,34,35,36,37,38,39,40,41,42,43,44,48],[0,1,2,3,4,5,6,7,8,9,10,11,12,13,14,15,16,17,18,19,20,21,22,23,24,25,26,27,28,29,30,31,32,33,34,35,36,37,38,39,40,41,42,43,44,48,49],[0,1,2,3,4,5,6,7,8,9,10,11,12,13,14,15,16,17,18,19,20,21,22,23,24,25,26,27,28,29,30,31,32,33,34,35,36,37,38,39,40,41,42,43,44,48,49,50],[0,1,2,3,4,5,6,7,8,9,10,11,12,13,14,15,16,17,18,19,20,21,22,23,24,25,26,27,28,29,30,31,32,33,34,35,36,37,38,39,40,41,42,43,44,48,49,50,51],[0,1,2,3,4,5,6,7,8,9,10,11,12,13,14,15,16,17,18,19,20,21,22,23,24,25,26,27,28,29,30,31,32,33,34,35,36,37,38,39,40,41,42,43,44,48,49,50,51,52],[0,1,2,3,4,5,6,7,8,9,10,11,12,13,14,15,16,17,18,19,20,21,22,23,24,25,26,27,28,29,30,31,32,33,34,35,36,37,38,39,40,41,42,43,44,48,49,50,51,52,53],[0,1,2,3,4,5,6,7,8,9,10,11,12,13,14,15,16,17,18,19,20,21,22,23,24,25,26,27,28,29,30,31,32,33,34,35,36,37,38,39,40,41,42,43,44],[0,1,2,3,4,5,6,7,8,9,10,11,12,13,14,15,16,17,18,19,20,21,22,23,24,25,26,27,28,29,30,31,32,33,34,35,36,37,38,39,40,41,42,43,44,55],[0,1,2,3,4,5,6,7,8,9,10,11,12,13,14,15,16,17,18,19,20,21,22,23,24,25,26,27,28,29,30,31,32,33,34,35,36,37,38,39,40,41,42,43,44,48,49,50,51,52,53,54,55,56],[0,1,2,3,4,5,6,7,8,9,10,11,12,13,14,15,16,17,18,19,20,21,22,23,24,25,26,27,28,29,30,31,32,33,34,35,36,37,38,39,40,41,42,43,44,48,49,50,51,52,53,54,55,56,57],[0,1,2,3,4,5,6,7,8,9,10,11,12,13,14,15,16,17,18,19,20,21,22,23,24,25,26,27,28,29,30,31,32,33,34,35,36,37,38,39,40,41,42,43,44,48,49,50,51,52,53,54,55,56,57,58],[0,1,2,3,4,5,6,7,8,9,10,11,12,13,14,15,16,17,18,19,20,21,22,23,24,25,26,27,28,29,30,31,32,33,34,35,36,37,38,39,40,41,42,43,44],[0,1,2,3,4,5,6,7,8,9,10,11,12,13,14,15,16,17,18,19,20,21,22,23,24,25,26,27,28,29,30,31,32,33,34,35,36,37,38,39,40,41,42,43,44,60],[0,1,2,3,4,5,6,7,8,9,10,11,12,13,14,15,16,17,18,19,20,21,22,23,24,25,26,27,28,29,30,31,32,33,34,35,36,37,38,39,40,41,42,43,44,48,49,50,51,52,53,54,55,56,57,58,59,60,61],[0,1,2,3,4,5,6,7,8,9,10,11,12,13,14,15,16,17,18,19,20,21,22,23,24,25,26,27,28,29,30,31,32,33,34,35,36,37,38,39,40,41,42,43,44,48,49,50,51,52,53,54,55,56,57,58,59,60,61,62],[0,1,2,3,4,5,6,7,8,9,10,11,12,13,14,15,16,17,18,19,20,21,22,23,24,25,26,27,28,29,30,31,32,33,34,35,36,37,38,39,40,41,42,43,44,48,49,50,51,52,53,54,55,56,57,58,59,60,61,62,63],[0,1,2,3,4,5,6,7,8,9,10,11,12,13,14,15,16,17,18,19,20,21,22,23,24,25,26,27,28,29,30,31,32,33,34,35,36,37,38,39,40,41,42,43,44],[0,1,2,3,4,5,6,7,8,9,10,11,12,13,14,15,16,17,18,19,20,21,22,23,24,25,26,27,28,29,30,31,32,33,34,35,36,37,38,39,40,41,42,43,44,48,49,50,51,52,53,54,55,56,57,58,59,60,61,62,63,64,65],[0,1,2,3,4,5,6,7,8,9,10,11,12,13,14,15,16,17,18,19,20,21,22,23,24,25,26,27,28,29,30,31,32,33,34,35,36,37,38,39,40,41,42,43,44,45,46,47,48,49,50,51,52,53,54,55,56,57,58,59,60,61,62,63,64,65,66],[0,1,2,3,4,5,6,7,8,9,10,11,12,13,14,15,16,17,18,19,20,21,22,23,24,25,26,27,28,29,30,31,32,33,34,35,36,37,38,39,40,41,42,43,44,45,46,47,48,49,50,51,52,53,54,55,56,57,58,59,60,61,62,63,64,65,66,67],[0,1,2,3,4,5,6,7,8,9,10,11,12,13,14,15,16,17,18,19,20,21,22,23,24,25,26,27,28,29,30,31,32,33,34,35,36,37,38,39,40,41,42,43,44,45,46,47,48,49,50,51,52,53,54,55,56,57,58,59,60,61,62,63,64,65,66,67,68]]
def a9:List (Option (PG.dK (Nat×(Option Addr×Nat)×(Option Addr×Nat)×(Nat->Prop)))):=[none,none,none,none,none,none,none,none,none,none,none,none,none,none,none,none,none,none,none,none,none,none,none,none,some (qC (.bool true)),none,none,none,none,none,none,none,none,none,none,none,none,none,none,none,none,none,none,none,none,none,none,none,none,some (qL lW 1),some (qO ⟨#[102]⟩ lW 1),some (qL uD 1),some (qO ⟨#[102]⟩ uD 1),some (qL I_ 1),some (qO ⟨#[102]⟩ I_ 1),none,some (qL lW 1),some (qO ⟨#[103]⟩ lW 1),some (qL Ja 1),some (qO ⟨#[102]⟩ Ja 1),none,some (qL lW 1),some (qO ⟨#[102]⟩ lW 1),some (qL uD 1),some (qO ⟨#[103]⟩ uD 1),some (qI),none,some (qC (.bool true)),none]
def b9:List Bool:=[false,false,false,false,false,false,false,false,false,false,false,false,false,false,false,false,false,false,false,false,false,false,false,false,true,false,false,false,false,false,false,false,false,false,false,false,false,false,false,false,false,false,false,false,false,false,false,false,false,true,true,true,true,true,true,false,true,true,true,true,false,true,true,true,true,true,false,true,false]
theorem ZM (w:World) (htab:bT w):Calls Tryz.prog 35 #[] w fun e w'=>e= .returned (.bool true)/\Ext w w':=by
 have fB:=ae htab;have HE:Hid (Ext w w):=ae (aj.refl _ _);clear htab
 go_enter Tryz.func35,Tryz.ntmps35
 go_wp2_with fail
 refine(kM ⟨#[122,101,114,111]⟩ none 0 0 _).mono ?_;rintro e w1 ⟨rfl,hw⟩;have HE:=ae (HE.out.trans hw);clear hw
 go_wp2_with fail
 refine(EJ ⟨#[78]⟩ _).mono ?_;rintro e w2 ⟨rfl,hw⟩;have HE:=ae (HE.out.trans hw);clear hw;have hX:=(uR w2).alloc (.cells #[.string ⟨#[122,101,114,111]⟩,.string ⟨#[]⟩,.slice none 0 0,.string ⟨#[78]⟩,.string ⟨#[110,97,116]⟩,.slice none 0 0] 24);obtain⟨uC,ZN⟩: ∃n,w2.heap.size=n:=⟨_,rfl⟩
 have hr:=ai w2 (.cells #[.string ⟨#[122,101,114,111]⟩,.string ⟨#[]⟩,.slice none 0 0,.string ⟨#[78]⟩,.string ⟨#[110,97,116]⟩,.slice none 0 0] 24);rw[ZN] at hr;have hlt:uC< (w2.alloc (.cells #[.string ⟨#[122,101,114,111]⟩,.string ⟨#[]⟩,.slice none 0 0,.string ⟨#[78]⟩,.string ⟨#[110,97,116]⟩,.slice none 0 0] 24)).heap.size:=(Array.getElem?_eq_some_iff.1 hr).1;have HE:=ae (HE.out.trans hX);have T0:Hid (aA (fun k=>k< (w2.alloc (.cells #[.string ⟨#[122,101,114,111]⟩,.string ⟨#[]⟩,.slice none 0 0,.string ⟨#[78]⟩,.string ⟨#[110,97,116]⟩,.slice none 0 0] 24)).heap.size) (w2.alloc (.cells #[.string ⟨#[122,101,114,111]⟩,.string ⟨#[]⟩,.slice none 0 0,.string ⟨#[78]⟩,.string ⟨#[110,97,116]⟩,.slice none 0 0] 24)) [(.mk ⟨#[122,101,114,111]⟩ ah []),(.mk ⟨#[78]⟩ ⟨#[110,97,116]⟩ [])] (.slice (some ⟨uC,0,none⟩) 2 2)):=ae (xu (a:=(.mk ⟨#[122,101,114,111]⟩ ah [])) (b:=(.mk ⟨#[78]⟩ ⟨#[110,97,116]⟩ [])) (ua:= .slice none 0 0) (ub:= .slice none 0 0) hr hlt (aA.nil _ _) (aA.nil _ _));clear hX hr hlt
 go_wp2_with fail
 try rw[ZN]
 generalize w2.alloc (.cells #[.string ⟨#[122,101,114,111]⟩,.string ⟨#[]⟩,.slice none 0 0,.string ⟨#[78]⟩,.string ⟨#[110,97,116]⟩,.slice none 0 0] 24)=w3 at*;clear ZN;refine(kM ⟨#[112,108,117,115]⟩ (some ⟨uC,0,none⟩) 2 2 _).mono ?_;rintro e w4 ⟨rfl,hw⟩;have T0:=ae (aN T0.out hw);have HE:=ae (HE.out.trans hw);clear hw
 go_wp2_with fail
 refine(EJ ⟨#[78]⟩ _).mono ?_;rintro e w5 ⟨rfl,hw⟩;have T0:=ae (aN T0.out hw);have HE:=ae (HE.out.trans hw);clear hw
 go_wp2_with fail
 refine(EJ ⟨#[78]⟩ _).mono ?_;rintro e w6 ⟨rfl,hw⟩;have T0:=ae (aN T0.out hw);have HE:=ae (HE.out.trans hw);clear hw;have hX:=(uR w6).alloc (.cells #[.string ⟨#[78]⟩,.string ⟨#[110,97,116]⟩,.slice none 0 0] 24);obtain⟨FP,ZO⟩: ∃n,w6.heap.size=n:=⟨_,rfl⟩
 have hr:=ai w6 (.cells #[.string ⟨#[78]⟩,.string ⟨#[110,97,116]⟩,.slice none 0 0] 24);rw[ZO] at hr;have hlt:FP< (w6.alloc (.cells #[.string ⟨#[78]⟩,.string ⟨#[110,97,116]⟩,.slice none 0 0] 24)).heap.size:=(Array.getElem?_eq_some_iff.1 hr).1;have T0:=ae (aN T0.out hX);have HE:=ae (HE.out.trans hX);have T1:Hid (aA (fun k=>k< (w6.alloc (.cells #[.string ⟨#[78]⟩,.string ⟨#[110,97,116]⟩,.slice none 0 0] 24)).heap.size) (w6.alloc (.cells #[.string ⟨#[78]⟩,.string ⟨#[110,97,116]⟩,.slice none 0 0] 24)) [(.mk ⟨#[78]⟩ ⟨#[110,97,116]⟩ [])] (.slice (some ⟨FP,0,none⟩) 1 1)):=ae (jH (a:=(.mk ⟨#[78]⟩ ⟨#[110,97,116]⟩ [])) (ua:= .slice none 0 0) hr hlt (aA.nil _ _));clear hX hr hlt
 go_wp2_with fail
 try rw[ZO]
 generalize w6.alloc (.cells #[.string ⟨#[78]⟩,.string ⟨#[110,97,116]⟩,.slice none 0 0] 24)=w7 at*;clear ZO;refine(kM ⟨#[115]⟩ (some ⟨FP,0,none⟩) 1 1 _).mono ?_;rintro e w8 ⟨rfl,hw⟩;have T0:=ae (aN T0.out hw);have T1:=ae (aN T1.out hw);have HE:=ae (HE.out.trans hw);clear hw
 go_wp2_with fail
 refine(EJ ⟨#[77]⟩ _).mono ?_;rintro e w9 ⟨rfl,hw⟩;have T0:=ae (aN T0.out hw);have T1:=ae (aN T1.out hw);have HE:=ae (HE.out.trans hw);clear hw;have hX:=(uR w9).alloc (.cells #[.string ⟨#[115]⟩,.string ⟨#[]⟩,.slice (some ⟨FP,0,none⟩) 1 1,.string ⟨#[77]⟩,.string ⟨#[110,97,116]⟩,.slice none 0 0] 24);obtain⟨kb2,hkb2⟩: ∃n,w9.heap.size=n:=⟨_,rfl⟩
 have hr:=ai w9 (.cells #[.string ⟨#[115]⟩,.string ⟨#[]⟩,.slice (some ⟨FP,0,none⟩) 1 1,.string ⟨#[77]⟩,.string ⟨#[110,97,116]⟩,.slice none 0 0] 24);rw[hkb2] at hr;have hlt:kb2< (w9.alloc (.cells #[.string ⟨#[115]⟩,.string ⟨#[]⟩,.slice (some ⟨FP,0,none⟩) 1 1,.string ⟨#[77]⟩,.string ⟨#[110,97,116]⟩,.slice none 0 0] 24)).heap.size:=(Array.getElem?_eq_some_iff.1 hr).1;have T0:=ae (aN T0.out hX);have T1:=ae (aN T1.out hX);have HE:=ae (HE.out.trans hX);have T2:Hid (aA (fun k=>k< (w9.alloc (.cells #[.string ⟨#[115]⟩,.string ⟨#[]⟩,.slice (some ⟨FP,0,none⟩) 1 1,.string ⟨#[77]⟩,.string ⟨#[110,97,116]⟩,.slice none 0 0] 24)).heap.size) (w9.alloc (.cells #[.string ⟨#[115]⟩,.string ⟨#[]⟩,.slice (some ⟨FP,0,none⟩) 1 1,.string ⟨#[77]⟩,.string ⟨#[110,97,116]⟩,.slice none 0 0] 24)) [(.mk ⟨#[115]⟩ ah [(.mk ⟨#[78]⟩ ⟨#[110,97,116]⟩ [])]),(.mk ⟨#[77]⟩ ⟨#[110,97,116]⟩ [])] (.slice (some ⟨kb2,0,none⟩) 2 2)):=ae (xu (a:=(.mk ⟨#[115]⟩ ah [(.mk ⟨#[78]⟩ ⟨#[110,97,116]⟩ [])])) (b:=(.mk ⟨#[77]⟩ ⟨#[110,97,116]⟩ [])) (ua:= .slice (some ⟨FP,0,none⟩) 1 1) (ub:= .slice none 0 0) hr hlt T1.out (aA.nil _ _));clear hX hr hlt
 go_wp2_with fail
 try rw[hkb2]
 generalize w9.alloc (.cells #[.string ⟨#[115]⟩,.string ⟨#[]⟩,.slice (some ⟨FP,0,none⟩) 1 1,.string ⟨#[77]⟩,.string ⟨#[110,97,116]⟩,.slice none 0 0] 24)=w10 at*;clear hkb2;refine(kM ⟨#[112,108,117,115]⟩ (some ⟨kb2,0,none⟩) 2 2 _).mono ?_;rintro e w11 ⟨rfl,hw⟩;have T0:=ae (aN T0.out hw);have T1:=ae (aN T1.out hw);have T2:=ae (aN T2.out hw);have HE:=ae (HE.out.trans hw);clear hw
 go_wp2_with fail
 refine(EJ ⟨#[78]⟩ _).mono ?_;rintro e w12 ⟨rfl,hw⟩;have T0:=ae (aN T0.out hw);have T1:=ae (aN T1.out hw);have T2:=ae (aN T2.out hw);have HE:=ae (HE.out.trans hw);clear hw
 go_wp2_with fail
 refine(EJ ⟨#[77]⟩ _).mono ?_;rintro e PH ⟨rfl,hw⟩;have T0:=ae (aN T0.out hw);have T1:=ae (aN T1.out hw);have T2:=ae (aN T2.out hw);have HE:=ae (HE.out.trans hw);clear hw;have hX:=(uR PH).alloc (.cells #[.string ⟨#[78]⟩,.string ⟨#[110,97,116]⟩,.slice none 0 0,.string ⟨#[77]⟩,.string ⟨#[110,97,116]⟩,.slice none 0 0] 24);obtain⟨FQ,ZP⟩: ∃n,PH.heap.size=n:=⟨_,rfl⟩
 have hr:=ai PH (.cells #[.string ⟨#[78]⟩,.string ⟨#[110,97,116]⟩,.slice none 0 0,.string ⟨#[77]⟩,.string ⟨#[110,97,116]⟩,.slice none 0 0] 24);rw[ZP] at hr;have hlt:FQ< (PH.alloc (.cells #[.string ⟨#[78]⟩,.string ⟨#[110,97,116]⟩,.slice none 0 0,.string ⟨#[77]⟩,.string ⟨#[110,97,116]⟩,.slice none 0 0] 24)).heap.size:=(Array.getElem?_eq_some_iff.1 hr).1;have T0:=ae (aN T0.out hX);have T1:=ae (aN T1.out hX);have T2:=ae (aN T2.out hX);have HE:=ae (HE.out.trans hX);have T3:Hid (aA (fun k=>k< (PH.alloc (.cells #[.string ⟨#[78]⟩,.string ⟨#[110,97,116]⟩,.slice none 0 0,.string ⟨#[77]⟩,.string ⟨#[110,97,116]⟩,.slice none 0 0] 24)).heap.size) (PH.alloc (.cells #[.string ⟨#[78]⟩,.string ⟨#[110,97,116]⟩,.slice none 0 0,.string ⟨#[77]⟩,.string ⟨#[110,97,116]⟩,.slice none 0 0] 24)) [(.mk ⟨#[78]⟩ ⟨#[110,97,116]⟩ []),(.mk ⟨#[77]⟩ ⟨#[110,97,116]⟩ [])] (.slice (some ⟨FQ,0,none⟩) 2 2)):=ae (xu (a:=(.mk ⟨#[78]⟩ ⟨#[110,97,116]⟩ [])) (b:=(.mk ⟨#[77]⟩ ⟨#[110,97,116]⟩ [])) (ua:= .slice none 0 0) (ub:= .slice none 0 0) hr hlt (aA.nil _ _) (aA.nil _ _));clear hX hr hlt
 go_wp2_with fail
 try rw[ZP]
 generalize PH.alloc (.cells #[.string ⟨#[78]⟩,.string ⟨#[110,97,116]⟩,.slice none 0 0,.string ⟨#[77]⟩,.string ⟨#[110,97,116]⟩,.slice none 0 0] 24)=w14 at*;clear ZP;refine(kM ⟨#[112,108,117,115]⟩ (some ⟨FQ,0,none⟩) 2 2 _).mono ?_;rintro e PK ⟨rfl,hw⟩;have T0:=ae (aN T0.out hw);have T1:=ae (aN T1.out hw);have T2:=ae (aN T2.out hw);have T3:=ae (aN T3.out hw);have HE:=ae (HE.out.trans hw);clear hw;have hX:=(uR PK).alloc (.cells #[.string ⟨#[112,108,117,115]⟩,.string ⟨#[]⟩,.slice (some ⟨FQ,0,none⟩) 2 2] 24);obtain⟨FT,ZQ⟩: ∃n,PK.heap.size=n:=⟨_,rfl⟩
 have hr:=ai PK (.cells #[.string ⟨#[112,108,117,115]⟩,.string ⟨#[]⟩,.slice (some ⟨FQ,0,none⟩) 2 2] 24);rw[ZQ] at hr;have hlt:FT< (PK.alloc (.cells #[.string ⟨#[112,108,117,115]⟩,.string ⟨#[]⟩,.slice (some ⟨FQ,0,none⟩) 2 2] 24)).heap.size:=(Array.getElem?_eq_some_iff.1 hr).1;have T0:=ae (aN T0.out hX);have T1:=ae (aN T1.out hX);have T2:=ae (aN T2.out hX);have T3:=ae (aN T3.out hX);have HE:=ae (HE.out.trans hX);have T4:Hid (aA (fun k=>k< (PK.alloc (.cells #[.string ⟨#[112,108,117,115]⟩,.string ⟨#[]⟩,.slice (some ⟨FQ,0,none⟩) 2 2] 24)).heap.size) (PK.alloc (.cells #[.string ⟨#[112,108,117,115]⟩,.string ⟨#[]⟩,.slice (some ⟨FQ,0,none⟩) 2 2] 24)) [(.mk ⟨#[112,108,117,115]⟩ ah [(.mk ⟨#[78]⟩ ⟨#[110,97,116]⟩ []),(.mk ⟨#[77]⟩ ⟨#[110,97,116]⟩ [])])] (.slice (some ⟨FT,0,none⟩) 1 1)):=ae (jH (a:=(.mk ⟨#[112,108,117,115]⟩ ah [(.mk ⟨#[78]⟩ ⟨#[110,97,116]⟩ []),(.mk ⟨#[77]⟩ ⟨#[110,97,116]⟩ [])])) (ua:= .slice (some ⟨FQ,0,none⟩) 2 2) hr hlt T3.out);clear hX hr hlt
 go_wp2_with fail
 try rw[ZQ]
 generalize PK.alloc (.cells #[.string ⟨#[112,108,117,115]⟩,.string ⟨#[]⟩,.slice (some ⟨FQ,0,none⟩) 2 2] 24)=w16 at*;clear ZQ;refine(kM ⟨#[115]⟩ (some ⟨FT,0,none⟩) 1 1 _).mono ?_;rintro e PL ⟨rfl,hw⟩;have T0:=ae (aN T0.out hw);have T1:=ae (aN T1.out hw);have T2:=ae (aN T2.out hw);have T3:=ae (aN T3.out hw);have T4:=ae (aN T4.out hw);have HE:=ae (HE.out.trans hw);clear hw;have hX:=(uR PL).alloc (.cells #[.string ⟨#[112,108,117,115]⟩,.string ⟨#[]⟩,.slice (some ⟨uC,0,none⟩) 2 2,.string ⟨#[78]⟩,.string ⟨#[110,97,116]⟩,.slice none 0 0,.string ⟨#[112,108,117,115]⟩,.string ⟨#[]⟩,.slice (some ⟨kb2,0,none⟩) 2 2,.string ⟨#[115]⟩,.string ⟨#[]⟩,.slice (some ⟨FT,0,none⟩) 1 1] 146);obtain⟨Sv,ZR⟩: ∃n,PL.heap.size=n:=⟨_,rfl⟩
 have hr:=ai PL (.cells #[.string ⟨#[112,108,117,115]⟩,.string ⟨#[]⟩,.slice (some ⟨uC,0,none⟩) 2 2,.string ⟨#[78]⟩,.string ⟨#[110,97,116]⟩,.slice none 0 0,.string ⟨#[112,108,117,115]⟩,.string ⟨#[]⟩,.slice (some ⟨kb2,0,none⟩) 2 2,.string ⟨#[115]⟩,.string ⟨#[]⟩,.slice (some ⟨FT,0,none⟩) 1 1] 146);rw[ZR] at hr;have hlt:Sv< (PL.alloc (.cells #[.string ⟨#[112,108,117,115]⟩,.string ⟨#[]⟩,.slice (some ⟨uC,0,none⟩) 2 2,.string ⟨#[78]⟩,.string ⟨#[110,97,116]⟩,.slice none 0 0,.string ⟨#[112,108,117,115]⟩,.string ⟨#[]⟩,.slice (some ⟨kb2,0,none⟩) 2 2,.string ⟨#[115]⟩,.string ⟨#[]⟩,.slice (some ⟨FT,0,none⟩) 1 1] 146)).heap.size:=(Array.getElem?_eq_some_iff.1 hr).1;have T0:=ae (aN T0.out hX);have T1:=ae (aN T1.out hX);have T2:=ae (aN T2.out hX);have T3:=ae (aN T3.out hX);have T4:=ae (aN T4.out hX);have HE:=ae (HE.out.trans hX);have T5:Hid (aA (fun k=>k< (PL.alloc (.cells #[.string ⟨#[112,108,117,115]⟩,.string ⟨#[]⟩,.slice (some ⟨uC,0,none⟩) 2 2,.string ⟨#[78]⟩,.string ⟨#[110,97,116]⟩,.slice none 0 0,.string ⟨#[112,108,117,115]⟩,.string ⟨#[]⟩,.slice (some ⟨kb2,0,none⟩) 2 2,.string ⟨#[115]⟩,.string ⟨#[]⟩,.slice (some ⟨FT,0,none⟩) 1 1] 146)).heap.size) (PL.alloc (.cells #[.string ⟨#[112,108,117,115]⟩,.string ⟨#[]⟩,.slice (some ⟨uC,0,none⟩) 2 2,.string ⟨#[78]⟩,.string ⟨#[110,97,116]⟩,.slice none 0 0,.string ⟨#[112,108,117,115]⟩,.string ⟨#[]⟩,.slice (some ⟨kb2,0,none⟩) 2 2,.string ⟨#[115]⟩,.string ⟨#[]⟩,.slice (some ⟨FT,0,none⟩) 1 1] 146)) [(.mk ⟨#[112,108,117,115]⟩ ah [(.mk ⟨#[122,101,114,111]⟩ ah []),(.mk ⟨#[78]⟩ ⟨#[110,97,116]⟩ [])]),(.mk ⟨#[78]⟩ ⟨#[110,97,116]⟩ []),(.mk ⟨#[112,108,117,115]⟩ ah [(.mk ⟨#[115]⟩ ah [(.mk ⟨#[78]⟩ ⟨#[110,97,116]⟩ [])]),(.mk ⟨#[77]⟩ ⟨#[110,97,116]⟩ [])]),(.mk ⟨#[115]⟩ ah [(.mk ⟨#[112,108,117,115]⟩ ah [(.mk ⟨#[78]⟩ ⟨#[110,97,116]⟩ []),(.mk ⟨#[77]⟩ ⟨#[110,97,116]⟩ [])])])] (.slice (some ⟨Sv,0,none⟩) 4 4)):=ae (ac4 (a:=(.mk ⟨#[112,108,117,115]⟩ ah [(.mk ⟨#[122,101,114,111]⟩ ah []),(.mk ⟨#[78]⟩ ⟨#[110,97,116]⟩ [])])) (b:=(.mk ⟨#[78]⟩ ⟨#[110,97,116]⟩ [])) (c:=(.mk ⟨#[112,108,117,115]⟩ ah [(.mk ⟨#[115]⟩ ah [(.mk ⟨#[78]⟩ ⟨#[110,97,116]⟩ [])]),(.mk ⟨#[77]⟩ ⟨#[110,97,116]⟩ [])])) (d:=(.mk ⟨#[115]⟩ ah [(.mk ⟨#[112,108,117,115]⟩ ah [(.mk ⟨#[78]⟩ ⟨#[110,97,116]⟩ []),(.mk ⟨#[77]⟩ ⟨#[110,97,116]⟩ [])])])) (ua:= .slice (some ⟨uC,0,none⟩) 2 2) (ub:= .slice none 0 0) (uc:= .slice (some ⟨kb2,0,none⟩) 2 2) (ud:= .slice (some ⟨FT,0,none⟩) 1 1) hr hlt T0.out (aA.nil _ _) T2.out T4.out);clear hX hr hlt
 go_wp2_with fail
 try rw[ZR]
 generalize PL.alloc (.cells #[.string ⟨#[112,108,117,115]⟩,.string ⟨#[]⟩,.slice (some ⟨uC,0,none⟩) 2 2,.string ⟨#[78]⟩,.string ⟨#[110,97,116]⟩,.slice none 0 0,.string ⟨#[112,108,117,115]⟩,.string ⟨#[]⟩,.slice (some ⟨kb2,0,none⟩) 2 2,.string ⟨#[115]⟩,.string ⟨#[]⟩,.slice (some ⟨FT,0,none⟩) 1 1] 146)=w18 at*;clear ZR;clear T0 T1 T2 T3 T4;have T0:=T5;clear T5;refine(kM ⟨#[122,101,114,111]⟩ none 0 0 _).mono ?_;rintro e PM ⟨rfl,hw⟩;have T0:=ae (aN T0.out hw);have HE:=ae (HE.out.trans hw);clear hw;have hX:=(uR PM).alloc (.cells #[.string ⟨#[122,101,114,111]⟩,.string ⟨#[]⟩,.slice none 0 0] 24);obtain⟨pM,ZT⟩: ∃n,PM.heap.size=n:=⟨_,rfl⟩
 have hr:=ai PM (.cells #[.string ⟨#[122,101,114,111]⟩,.string ⟨#[]⟩,.slice none 0 0] 24);rw[ZT] at hr;have hlt:pM< (PM.alloc (.cells #[.string ⟨#[122,101,114,111]⟩,.string ⟨#[]⟩,.slice none 0 0] 24)).heap.size:=(Array.getElem?_eq_some_iff.1 hr).1;have T0:=ae (aN T0.out hX);have HE:=ae (HE.out.trans hX);have T1:Hid (aA (fun k=>k< (PM.alloc (.cells #[.string ⟨#[122,101,114,111]⟩,.string ⟨#[]⟩,.slice none 0 0] 24)).heap.size) (PM.alloc (.cells #[.string ⟨#[122,101,114,111]⟩,.string ⟨#[]⟩,.slice none 0 0] 24)) [(.mk ⟨#[122,101,114,111]⟩ ah [])] (.slice (some ⟨pM,0,none⟩) 1 1)):=ae (jH (a:=(.mk ⟨#[122,101,114,111]⟩ ah [])) (ua:= .slice none 0 0) hr hlt (aA.nil _ _));clear hX hr hlt
 go_wp2_with fail
 try rw[ZT]
 generalize PM.alloc (.cells #[.string ⟨#[122,101,114,111]⟩,.string ⟨#[]⟩,.slice none 0 0] 24)=w20 at*;clear ZT;refine(kM ⟨#[115]⟩ (some ⟨pM,0,none⟩) 1 1 _).mono ?_;rintro e Sz ⟨rfl,hw⟩;have T0:=ae (aN T0.out hw);have T1:=ae (aN T1.out hw);have HE:=ae (HE.out.trans hw);clear hw;have TZ:=T1;have TR:=T0;clear T0 T1;have B_:Hid (jc (fun k=>k<Sz.heap.size) Sz lL (.slice (some ⟨Sv,0,none⟩) 2 2)):=ae (abH rfl TR.out);clear TR
 go_upto_region 3 with fail
 have hX:=(uR Sz).alloc (.cells #[.string ⟨#[115]⟩,.string ⟨#[]⟩,.slice (some ⟨pM,0,none⟩) 1 1] 24);obtain⟨b2,hb2⟩: ∃n,Sz.heap.size=n:=⟨_,rfl⟩
 have hr:=ai Sz (.cells #[.string ⟨#[115]⟩,.string ⟨#[]⟩,.slice (some ⟨pM,0,none⟩) 1 1] 24);rw[hb2] at hr;have HB2:=ae hr;have HE:=ae (HE.out.trans hX);have TZ:=ae (aN TZ.out hX);have B_:=ae ((B_.out.ext hX).weaken (fun k hk=>ay hk hX.size))
 try rw[hb2]
 clear hX hr hb2;generalize Sz.alloc (.cells #[.string ⟨#[115]⟩,.string ⟨#[]⟩,.slice (some ⟨pM,0,none⟩) 1 1] 24)=w0 at*;obtain⟨T,hT⟩: ∃T,(stepG lL sumT).1=T:=⟨_,rfl⟩
 have HT:Hid (stepG lL sumT=(T,(1,[]),0)):=ae (Prod.ext hT (eq_of_beq Xl));clear hT;have abI:=ae (fun W (hW:Ext w0 W) (b:Nat) (hb:aA (fun k=>k<W.heap.size) W sumT.kids (.slice (some ⟨b,0,none⟩) 2 2))=>adI lL sumT (.slice (some ⟨Sv,0,none⟩) 2 2) (.agg #[.string ⟨#[112,108,117,115]⟩,.string ⟨#[]⟩,.slice (some ⟨b,0,none⟩) 2 2]) W ((B_.out.ext hW).weaken (fun k hk=>ay hk hW.size)) ⟨_,_,rfl,hb⟩ (aC fB.out (HE.out.trans hW)) (by decide) (by decide) (by decide));have eY:=uR w0;have x0:=fun x:XW w0=>(eY.trans x.ext).cell (af HB2.out 0 (.string ⟨#[115]⟩) rfl) (fun h=>h);have x1:=fun x:XW w0=>(eY.trans x.ext).cell (af HB2.out 1 (.string ⟨#[]⟩) rfl) (fun h=>h);have x2:=fun x:XW w0=>(eY.trans x.ext).cell (af HB2.out 2 (.slice (some ⟨pM,0,none⟩) 1 1) rfl) (fun h=>h);clear eY;refine PG.bW (α:=Nat×(Option Addr×Nat)×(Option Addr×Nat)×(Nat->Prop)) 12 [8,9] 14 [(12,1),(13,1),(14,2)] [[],[],[],[1,2],[1,2,3],[0,1,2,3,4],[0,1,2,3,4,5],[0,1,2,3,4,5,6],[0,1,2,3,4,5,6],[0,1,2,3,4,5,6],[],[],[0,1,2,3,4,5,6,7,10,11],[0,1,2,3,4,5,6,7,8,10,11,12],[0,1,2,3,4,5,6,7,8,9,10,11,12,13]]
  [none,none,some (qC (.agg #[.string ⟨#[122,101,114,111]⟩,.string ⟨#[]⟩,.slice none 0 0])),some (qL [(.mk ⟨#[115]⟩ ah [(.mk ⟨#[122,101,114,111]⟩ ah [])]),(.mk ⟨#[122,101,114,111]⟩ ah [])] 2),some (qO ⟨#[112,108,117,115]⟩ [(.mk ⟨#[115]⟩ ah [(.mk ⟨#[122,101,114,111]⟩ ah [])]),(.mk ⟨#[122,101,114,111]⟩ ah [])] 2),some (dh T),none,none,none,none,some (dZ w0.heap.size zO),some (dZ w0.heap.size (.cells #[.int .i64 0,.slice none 0 0] 65 (0,0)))]
  [false,false,true,true,true,true,false,false,false,false,true,true] (by kernel_rfl) (by kernel_rfl) rfl (fun _ _ d _ _ h=>by cases d<;>exact h) ?_
 simp only[List.take_succ_cons,List.take_zero,gG,List.getElem?_cons_zero,List.getElem?_cons_succ];refine PG.aX rfl (fun K hK=>?_);go_simp;refine hK _ ?_;clear hK K;refine PG.aX rfl (fun K hK=>?_);go_simp;refine hK _ ?_;clear hK K;refine PG.aK _ rfl (by go_simp) (fun W hW hG K hK=>?_) (fun K z2 hK=>?_)
 .go_simp;refine(kM ⟨#[122,101,114,111]⟩ none 0 0 W).mono ?_;rintro e w' ⟨rfl,hE⟩;exact hK default _ hE trivial (fun k e=>e.elim)
 dsimp only[qC,qL,qO,qR,dh,di,dZ,dm,qI] at hK⊢;go_simp;refine hK _ ?_;clear hK K;refine PG.aK _ rfl (by go_simp) (fun W hW hG K hK=>?_) (fun K z3 hK=>?_)
 .have hE:=(uR W).alloc (.cells #[.string ⟨#[115]⟩,.string ⟨#[]⟩,.slice (some ⟨pM,0,none⟩) 1 1,.string ⟨#[122,101,114,111]⟩,.string ⟨#[]⟩,.slice none 0 0] 24);have hr:=ai W (.cells #[.string ⟨#[115]⟩,.string ⟨#[]⟩,.slice (some ⟨pM,0,none⟩) 1 1,.string ⟨#[122,101,114,111]⟩,.string ⟨#[]⟩,.slice none 0 0] 24);have hR:(qL [(.mk ⟨#[115]⟩ ah [(.mk ⟨#[122,101,114,111]⟩ ah [])]),(.mk ⟨#[122,101,114,111]⟩ ah [])] 2).R (W.heap.size,default) (W.alloc (.cells #[.string ⟨#[115]⟩,.string ⟨#[]⟩,.slice (some ⟨pM,0,none⟩) 1 1,.string ⟨#[122,101,114,111]⟩,.string ⟨#[]⟩,.slice none 0 0] 24)):=(xu (a:=(.mk ⟨#[115]⟩ ah [(.mk ⟨#[122,101,114,111]⟩ ah [])])) (b:=(.mk ⟨#[122,101,114,111]⟩ ah [])) (ua:= .slice (some ⟨pM,0,none⟩) 1 1) (ub:= .slice none 0 0) hr (Array.getElem?_eq_some_iff.1 hr).1 (aN (aN TZ.out hW) hE) (aA.nil _ _):aA (fun k=>k< (W.alloc (.cells #[.string ⟨#[115]⟩,.string ⟨#[]⟩,.slice (some ⟨pM,0,none⟩) 1 1,.string ⟨#[122,101,114,111]⟩,.string ⟨#[]⟩,.slice none 0 0] 24)).heap.size) (W.alloc (.cells #[.string ⟨#[115]⟩,.string ⟨#[]⟩,.slice (some ⟨pM,0,none⟩) 1 1,.string ⟨#[122,101,114,111]⟩,.string ⟨#[]⟩,.slice none 0 0] 24)) [(.mk ⟨#[115]⟩ ah [(.mk ⟨#[122,101,114,111]⟩ ah [])]),(.mk ⟨#[122,101,114,111]⟩ ah [])] (.slice (some ⟨W.heap.size,0,none⟩) 2 2))
  clear hG hr;go_simp;exact hK (W.heap.size,default) _ hE hR (fun k e=>e.elim)
 dsimp only[qC,qL,qO,qR,dh,di,dZ,dm,qI] at hK⊢;go_simp;refine hK _ ?_;clear hK K;refine PG.aK _ rfl (by go_simp) (fun W hW hG K hK=>?_) (fun K z4 hK=>?_)
 .have f3:=hG _ (List.mem_append_right _ (List.mem_singleton.2 rfl)) (by show(3:Nat)∈_;decide+kernel);have f3:aA (fun k=>k<W.heap.size) W [(.mk ⟨#[115]⟩ ah [(.mk ⟨#[122,101,114,111]⟩ ah [])]),(.mk ⟨#[122,101,114,111]⟩ ah [])] (.slice (some ⟨z3.1,0,none⟩) 2 2):=f3;have hR: ∀W',Ext W W'->(qO ⟨#[112,108,117,115]⟩ [(.mk ⟨#[115]⟩ ah [(.mk ⟨#[122,101,114,111]⟩ ah [])]),(.mk ⟨#[122,101,114,111]⟩ ah [])] 2).R (z3.1,default) W':=fun W' hE=>(aN f3 hE:aA (fun k=>k<W'.heap.size) W' [(.mk ⟨#[115]⟩ ah [(.mk ⟨#[122,101,114,111]⟩ ah [])]),(.mk ⟨#[122,101,114,111]⟩ ah [])] (.slice (some ⟨z3.1,0,none⟩) 2 2))
  clear hG f3;go_simp;refine(kM ⟨#[112,108,117,115]⟩ (some ⟨z3.1,0,none⟩) 2 2 W).mono ?_;rintro e w' ⟨rfl,hE⟩;exact hK (z3.1,default) _ hE (hR _ hE) (fun k e=>e.elim)
 dsimp only[qC,qL,qO,qR,dh,di,dZ,dm,qI] at hK⊢;go_simp;refine hK _ ?_;clear hK K;refine PG.aK _ rfl (by go_simp) (fun W hW hG K hK=>?_) (fun K z5 hK=>?_)
 .have f4:=hG _ (List.mem_append_right _ (List.mem_singleton.2 rfl)) (by show(4:Nat)∈_;decide+kernel);go_simp;refine(abI.out W hW z4.1 f4).mono ?_;rintro e w' ⟨⟨r,pv,he,htl,hsl⟩,hE⟩;rw[HT.out] at he htl hsl;obtain⟨ra,rc,hr⟩:=htl.shape;obtain⟨va,vc,hv⟩:=hsl.shape;subst hr hv;subst he;exact hK (0,(ra,rc),(va,vc),fun _=>False) _ hE trivial (fun k e=>e.elim)
 dsimp only[qC,qL,qO,qR,dh,di,dZ,dm,qI] at hK⊢;go_simp;refine hK _ ?_;clear hK K
 iterate 4(refine PG.aX rfl (fun K hK=>?_);go_simp;refine hK _ ?_;clear hK K)
 refine PG.aK _ rfl (by go_simp) (fun W hW hG K hK=>?_) (fun K z10 hK=>?_)
 .go_simp;exact hK (W.heap.size,default) _ ((uR W).alloc _) ⟨hW.size,ai _ _⟩ (fun k e=>by rw[e];exact Nat.le_refl _)
 dsimp only[qC,qL,qO,qR,dh,di,dZ,dm,qI] at hK⊢;go_simp;refine hK _ ?_;clear hK K;refine PG.aK _ rfl (by go_simp) (fun W hW hG K hK=>?_) (fun K z11 hK=>?_)
 .go_simp;exact hK (W.heap.size,default) _ ((uR W).alloc _) ⟨hW.size,ai _ _⟩ (fun k e=>by rw[e];exact Nat.le_refl _)
 dsimp only[qC,qL,qO,qR,dh,di,dZ,dm,qI] at hK⊢;go_simp;refine hK _ ?_;clear hK K;refine PG.jo (fun w8 hW hG jW=>?_);have g10:=hG _ (List.mem_append_left _ (List.mem_append_right _ (List.mem_singleton.2 rfl)));have g11:=hG _ (List.mem_append_right _ (List.mem_singleton.2 rfl));unfold PG.vz PI.vz at jW;simp only[List.nil_append,List.singleton_append,List.cons_append,List.pairwise_cons] at jW;have UO:=jW.2.2.2.2.1 _ (List.mem_cons_self ..);dsimp only[qC,qL,qO,dh,di,dZ,dm,qI] at g10 g11 UO;have hne:z10.1≠z11.1:=fun e=>UO z10.1 rfl e;clear hG jW UO x0 x1 x2;obtain⟨l0,l1,l2⟩:=ag g10.2;obtain⟨m0,m1⟩:=aP g11.2;have fl:=fun i=>au g10.2 i;have Nw:=aI w8 z10.1 (.string T.name) (.string T.sort) (.slice z5.2.1.1 T.kids.length z5.2.1.2);have m0':=Nw.cell m0 (fun e=>hne e.symm);have m1':=Nw.cell m1 (fun e=>hne e.symm);have fm:=fun i=>au (Nw.heap g11.2 (fun e=>hne e.symm)) i;have wV:=ae g10;have G11:=ae g11;have tu:=ae Nw;have KH:=ae hW;clear g10 g11 Nw hW;refine kN (fun K hK _=>?_) trivial;rw[if_pos (by first|rfl|go_simp)];go_simp;refine hK _ _ trivial ?_;clear hK K;refine kN (fun K hK _=>?_) trivial;rw[if_pos (by first|rfl|go_simp)];go_simp;refine hK _ _ trivial ?_;clear hK K;refine iE ?_;intro K hK;go_simp;refine hK _ _ ?_;clear hK K;simp only[cu]
 go_wp2_with fail
 have kK:=setBlock (setBlock (tu.out.heap G11.out.2 (fun e=>hne e.symm)) 0 (.int .i64 1)) 1 (.slice z5.2.2.1.1 0 z5.2.2.1.2);have WZ:=tu.out;clear l0 l1 l2 m0 m1 m0' m1' fl fm;generalize hS1:((w8.setCell ⟨z10.1,0,none⟩ (.string T.name)).setCell ⟨z10.1,1,none⟩ (.string T.sort)).setCell ⟨z10.1,2,none⟩ (.slice z5.2.1.1 T.kids.length z5.2.1.2)=ws at*;have hU3:aj (fun j=>j=z11.1) ws ((ws.setCell ⟨z11.1,0,none⟩ (.int .i64 1)).setCell ⟨z11.1,1,none⟩ (.slice z5.2.2.1.1 0 z5.2.2.1.2)):=((aj.refl (fun j=>j=z11.1) ws).setCell (p:=⟨z11.1,0,none⟩) (.inl rfl) _).setCell (p:=⟨z11.1,1,none⟩) (.inl rfl) _;have HB4:Hid (((ws.setCell ⟨z11.1,0,none⟩ (.int .i64 1)).setCell ⟨z11.1,1,none⟩ (.slice z5.2.2.1.1 0 z5.2.2.1.2)).heap[z11.1]?=some (.cells #[.int .i64 1,.slice z5.2.2.1.1 0 z5.2.2.1.2] 65 (0,0))):=ae (by simpa using kK);have hE0:Ext w0 ((ws.setCell ⟨z11.1,0,none⟩ (.int .i64 1)).setCell ⟨z11.1,1,none⟩ (.slice z5.2.2.1.1 0 z5.2.2.1.2)):=(KH.out.trans' WZ (fun j hj e=>by have:=wV.out.1;omega)).trans' hU3 (fun j hj e=>by have:=G11.out.1;omega);clear kK WZ hU3 tu wV G11 KH hne hS1;generalize (ws.setCell ⟨z11.1,0,none⟩ (.int .i64 1)).setCell ⟨z11.1,1,none⟩ (.slice z5.2.2.1.1 0 z5.2.2.1.2)=w9 at*;obtain⟨⟨pa,pc⟩,hpv⟩: ∃q,z5.2.2.1=q:=⟨_,rfl⟩
 rw[hpv] at HB4;obtain⟨b4,hb4⟩: ∃b,z11.1=b:=⟨_,rfl⟩
 rw[hb4] at HB4;have HE:=ae (HE.out.trans hE0);have TZ:=ae (aN TZ.out hE0);have B_:=ae ((B_.out.ext hE0).weaken (fun k hk=>ay hk hE0.size));have HB2:=ae (hE0.heap HB2.out (fun h=>h));clear hE0 abI HT
 try rw[hb4]
 clear hb4 hpv;have hpr:=ZJ;simp only[Bool.and_eq_true,beq_iff_eq] at hpr;have HR1:=ae hpr.1.1;have HR2:=ae hpr.1.2;have HR3:=ae hpr.2;clear hpr;have abJ:=ae (fun W (hW:Ext w9 W) (b:Nat) (hb:aA (fun k=>k<W.heap.size) W sumT.kids (.slice (some ⟨b,0,none⟩) 2 2))=>Gu lL sumT 9 (.slice (some ⟨Sv,0,none⟩) 2 2) (.agg #[.string ⟨#[112,108,117,115]⟩,.string ⟨#[]⟩,.slice (some ⟨b,0,none⟩) 2 2]) W ((B_.out.ext hW).weaken (fun k hk=>ay hk hW.size)) ⟨_,_,rfl,hb⟩ (aC fB.out (HE.out.trans hW)) (by decide) (by decide) (fun _=>by decide) (by decide) (by decide))
 go_upto_region 4 with fail
 have eY:=uR w9;have x0:=fun x:XW w9=>(eY.trans x.ext).cell (af HB2.out 0 (.string ⟨#[115]⟩) rfl) (fun h=>h);have x1:=fun x:XW w9=>(eY.trans x.ext).cell (af HB2.out 1 (.string ⟨#[]⟩) rfl) (fun h=>h);have x2:=fun x:XW w9=>(eY.trans x.ext).cell (af HB2.out 2 (.slice (some ⟨pM,0,none⟩) 1 1) rfl) (fun h=>h);clear eY;refine PG.bW (α:=Nat×(Option Addr×Nat)×(Option Addr×Nat)×(Nat->Prop)) 11 [8,9] 13 [(11,1),(12,1),(13,2)] [[],[],[],[1,2],[1,2,3],[0,1,2,3,4],[0,1,2,3,4,5],[0,1,2,3,4,5,6],[0,1,2,3,4,5,6],[0,1,2,3,4,5,6],[],[0,1,2,3,4,5,6,7,10],[0,1,2,3,4,5,6,7,8,10,11],[0,1,2,3,4,5,6,7,8,9,10,11,12]]
  [none,none,some (qC (.agg #[.string ⟨#[122,101,114,111]⟩,.string ⟨#[]⟩,.slice none 0 0])),some (qL [(.mk ⟨#[115]⟩ ah [(.mk ⟨#[122,101,114,111]⟩ ah [])]),(.mk ⟨#[122,101,114,111]⟩ ah [])] 2),some (qO ⟨#[112,108,117,115]⟩ [(.mk ⟨#[115]⟩ ah [(.mk ⟨#[122,101,114,111]⟩ ah [])]),(.mk ⟨#[122,101,114,111]⟩ ah [])] 2),some (di w9.heap.size),none,none,none,none,some (dZ w9.heap.size zO)]
  [false,false,true,true,true,true,false,false,false,false,true] (by kernel_rfl) (by kernel_rfl) rfl (fun _ _ d _ _ h=>by cases d<;>exact h) ?_
 simp only[List.take_succ_cons,List.take_zero,gG,List.getElem?_cons_zero,List.getElem?_cons_succ];refine PG.aX rfl (fun K hK=>?_);go_simp;refine hK _ ?_;clear hK K;refine PG.aX rfl (fun K hK=>?_);go_simp;refine hK _ ?_;clear hK K;refine PG.aK _ rfl (by go_simp) (fun W hW hG K hK=>?_) (fun K z2 hK=>?_)
 .go_simp;refine(kM ⟨#[122,101,114,111]⟩ none 0 0 W).mono ?_;rintro e w' ⟨rfl,hE⟩;exact hK default _ hE trivial (fun k e=>e.elim)
 dsimp only[qC,qL,qO,qR,dh,di,dZ,dm,qI] at hK⊢;go_simp;refine hK _ ?_;clear hK K;refine PG.aK _ rfl (by go_simp) (fun W hW hG K hK=>?_) (fun K z3 hK=>?_)
 .have hE:=(uR W).alloc (.cells #[.string ⟨#[115]⟩,.string ⟨#[]⟩,.slice (some ⟨pM,0,none⟩) 1 1,.string ⟨#[122,101,114,111]⟩,.string ⟨#[]⟩,.slice none 0 0] 24);have hr:=ai W (.cells #[.string ⟨#[115]⟩,.string ⟨#[]⟩,.slice (some ⟨pM,0,none⟩) 1 1,.string ⟨#[122,101,114,111]⟩,.string ⟨#[]⟩,.slice none 0 0] 24);have hR:(qL [(.mk ⟨#[115]⟩ ah [(.mk ⟨#[122,101,114,111]⟩ ah [])]),(.mk ⟨#[122,101,114,111]⟩ ah [])] 2).R (W.heap.size,default) (W.alloc (.cells #[.string ⟨#[115]⟩,.string ⟨#[]⟩,.slice (some ⟨pM,0,none⟩) 1 1,.string ⟨#[122,101,114,111]⟩,.string ⟨#[]⟩,.slice none 0 0] 24)):=(xu (a:=(.mk ⟨#[115]⟩ ah [(.mk ⟨#[122,101,114,111]⟩ ah [])])) (b:=(.mk ⟨#[122,101,114,111]⟩ ah [])) (ua:= .slice (some ⟨pM,0,none⟩) 1 1) (ub:= .slice none 0 0) hr (Array.getElem?_eq_some_iff.1 hr).1 (aN (aN TZ.out hW) hE) (aA.nil _ _):aA (fun k=>k< (W.alloc (.cells #[.string ⟨#[115]⟩,.string ⟨#[]⟩,.slice (some ⟨pM,0,none⟩) 1 1,.string ⟨#[122,101,114,111]⟩,.string ⟨#[]⟩,.slice none 0 0] 24)).heap.size) (W.alloc (.cells #[.string ⟨#[115]⟩,.string ⟨#[]⟩,.slice (some ⟨pM,0,none⟩) 1 1,.string ⟨#[122,101,114,111]⟩,.string ⟨#[]⟩,.slice none 0 0] 24)) [(.mk ⟨#[115]⟩ ah [(.mk ⟨#[122,101,114,111]⟩ ah [])]),(.mk ⟨#[122,101,114,111]⟩ ah [])] (.slice (some ⟨W.heap.size,0,none⟩) 2 2))
  clear hG hr;go_simp;exact hK (W.heap.size,default) _ hE hR (fun k e=>e.elim)
 dsimp only[qC,qL,qO,qR,dh,di,dZ,dm,qI] at hK⊢;go_simp;refine hK _ ?_;clear hK K;refine PG.aK _ rfl (by go_simp) (fun W hW hG K hK=>?_) (fun K z4 hK=>?_)
 .have f3:=hG _ (List.mem_append_right _ (List.mem_singleton.2 rfl)) (by show(3:Nat)∈_;decide+kernel);have f3:aA (fun k=>k<W.heap.size) W [(.mk ⟨#[115]⟩ ah [(.mk ⟨#[122,101,114,111]⟩ ah [])]),(.mk ⟨#[122,101,114,111]⟩ ah [])] (.slice (some ⟨z3.1,0,none⟩) 2 2):=f3;have hR: ∀W',Ext W W'->(qO ⟨#[112,108,117,115]⟩ [(.mk ⟨#[115]⟩ ah [(.mk ⟨#[122,101,114,111]⟩ ah [])]),(.mk ⟨#[122,101,114,111]⟩ ah [])] 2).R (z3.1,default) W':=fun W' hE=>(aN f3 hE:aA (fun k=>k<W'.heap.size) W' [(.mk ⟨#[115]⟩ ah [(.mk ⟨#[122,101,114,111]⟩ ah [])]),(.mk ⟨#[122,101,114,111]⟩ ah [])] (.slice (some ⟨z3.1,0,none⟩) 2 2))
  clear hG f3;go_simp;refine(kM ⟨#[112,108,117,115]⟩ (some ⟨z3.1,0,none⟩) 2 2 W).mono ?_;rintro e w' ⟨rfl,hE⟩;exact hK (z3.1,default) _ hE (hR _ hE) (fun k e=>e.elim)
 dsimp only[qC,qL,qO,qR,dh,di,dZ,dm,qI] at hK⊢;go_simp;refine hK _ ?_;clear hK K;refine PG.aK _ rfl (by go_simp) (fun W hW hG K hK=>?_) (fun K z5 hK=>?_)
 .have f4:=hG _ (List.mem_append_right _ (List.mem_singleton.2 rfl)) (by show(4:Nat)∈_;decide+kernel);go_simp;refine(abJ.out W hW z4.1 f4).mono ?_;rintro e w' ⟨r,he,htl,hE⟩;rw[HR1.out,HR2.out,HR3.out] at he;rw[HR1.out] at htl;obtain⟨ra,rc,hr⟩:=htl.shape;subst hr;subst he;exact hK (0,(ra,rc),default,fun j=>W.heap.size<=j/\j<w'.heap.size) _ hE ⟨htl,fun j hj=>⟨Nat.le_trans hW.size hj.1,hj.2⟩⟩ (fun k e=>e.1)
 dsimp only[qC,qL,qO,qR,dh,di,dZ,dm,qI] at hK⊢;go_simp;refine hK _ ?_;clear hK K
 iterate 4(refine PG.aX rfl (fun K hK=>?_);go_simp;refine hK _ ?_;clear hK K)
 refine PG.aK _ rfl (by go_simp) (fun W hW hG K hK=>?_) (fun K z10 hK=>?_)
 .go_simp;exact hK (W.heap.size,default) _ ((uR W).alloc _) ⟨hW.size,ai _ _⟩ (fun k e=>by rw[e];exact Nat.le_refl _)
 dsimp only[qC,qL,qO,qR,dh,di,dZ,dm,qI] at hK⊢;go_simp;refine hK _ ?_;clear hK K;refine PG.jo (fun w8 hW hG jW=>?_);have g5:=hG _ (List.mem_append_left _ (List.mem_append_right _ (List.mem_singleton.2 rfl)));have g10:=hG _ (List.mem_append_right _ (List.mem_singleton.2 rfl));unfold PG.vz PI.vz at jW;simp only[List.nil_append,List.singleton_append,List.cons_append,List.pairwise_cons] at jW;have ZU:=jW.2.2.2.1 _ (List.mem_cons_self ..);dsimp only[qC,qL,qO,dh,di,dZ,dm,qI] at g5 g10 ZU;clear hG jW x0 x1 x2;obtain⟨l0,l1,l2⟩:=ag g10.2;have fl:=fun i=>au g10.2 i;have G5:=ae g5;have wV:=ae g10;have aht:=ae ZU;have KH:=ae hW;clear g5 g10 ZU hW;refine kN (fun K hK _=>?_) trivial;rw[if_pos (by first|rfl|go_simp)];go_simp;refine hK _ _ trivial ?_;clear hK K;refine kN (fun K hK _=>?_) trivial;rw[if_pos (by first|rfl|go_simp)];go_simp;refine hK _ _ trivial ?_;clear hK K;refine iE ?_;intro K hK;go_simp;refine hK _ _ ?_;clear hK K;simp only[cu]
 go_wp2_with fail
 have hb6:=aJ wV.out.2 (.string ⟨#[115]⟩) (.string ⟨#[]⟩) (.slice z5.2.1.1 1 z5.2.1.2);have IG:=aI w8 z10.1 (.string ⟨#[115]⟩) (.string ⟨#[]⟩) (.slice z5.2.1.1 1 z5.2.1.2);clear l0 l1 l2 fl;generalize ((w8.setCell ⟨z10.1,0,none⟩ (.string ⟨#[115]⟩)).setCell ⟨z10.1,1,none⟩ (.string ⟨#[]⟩)).setCell ⟨z10.1,2,none⟩ (.slice z5.2.1.1 1 z5.2.1.2)=wa at*;have hE0:Ext w9 wa:=KH.out.trans' IG (fun j hj e=>by have:=wV.out.1;omega);have T6:Hid (aA (fun k=>k<wa.heap.size) wa Py.kids (.slice z5.2.1.1 1 z5.2.1.2)):=ae ((G5.out.1.kept IG (fun j hj e=>aht.out j hj e)).weaken (fun j hj=>ay (G5.out.2 j hj).2 IG.size));have iG:=ae hb6;have HE:=ae (HE.out.trans hE0);have TZ:=ae (aN TZ.out hE0);have B_:=ae ((B_.out.ext hE0).weaken (fun k hk=>ay hk hE0.size));have HB2:=ae (hE0.heap HB2.out (fun h=>h));have HB4:=ae (hE0.heap HB4.out (fun h=>h));clear hb6 IG G5 wV aht KH hE0;obtain⟨⟨na,nc⟩,hnv⟩: ∃q,z5.2.1=q:=⟨_,rfl⟩
 obtain⟨b6,hb6⟩: ∃b,z10.1=b:=⟨_,rfl⟩
 rw[hnv] at T6 iG;rw[hb6] at iG;dsimp only at T6 iG
 try rw[hb6]
 clear abJ HR1 HR2 HR3 hb6 hnv
 go_wp2_with fail
 refine(UM (.slice (some ⟨Sv,0,none⟩) 2 2) wa B_.out (aC fB.out HE.out)).mono ?_;rintro e wb ⟨rfl,hwb⟩;have HE:=ae (HE.out.trans hwb);have TZ:=ae (aN TZ.out hwb);have B_:=ae ((B_.out.ext hwb).weaken (fun k hk=>ay hk hwb.size));have HB2:=ae (hwb.heap HB2.out (fun h=>h));have HB4:=ae (hwb.heap HB4.out (fun h=>h));have iG:=ae (hwb.heap iG.out (fun h=>h));have T6:=ae (aN T6.out hwb);have hX:=((uR wb).alloc (.cells #[.string ⟨#[88]⟩,.string ⟨#[97]⟩,.slice none 0 0] 24)).alloc (.cells #[.string ⟨#[88,95,50]⟩,.string ⟨#[97]⟩,.slice none 0 0] 24);have nT:=ae (ak (ai wb (.cells #[.string ⟨#[88]⟩,.string ⟨#[97]⟩,.slice none 0 0] 24)) (.cells #[.string ⟨#[88,95,50]⟩,.string ⟨#[97]⟩,.slice none 0 0] 24));have oP:=ae (alloc_at (wb.alloc (.cells #[.string ⟨#[88]⟩,.string ⟨#[97]⟩,.slice none 0 0] 24)) (.cells #[.string ⟨#[88,95,50]⟩,.string ⟨#[97]⟩,.slice none 0 0] 24) (n:=wb.heap.size+1) (by simp));have HX:=ae hX;clear hX hwb B_;obtain⟨b11,kK⟩: ∃b,wb.heap.size=b:=⟨_,rfl⟩
 rw[kK] at nT oP
 go_upto_region 8 with fail
 try rw[kK]
 have HE:=ae (HE.out.trans HX.out);have TZ:=ae (aN TZ.out HX.out);have T6:=ae (aN T6.out HX.out);have HB2:=ae (HX.out.heap HB2.out (fun h=>h));have HB4:=ae (HX.out.heap HB4.out (fun h=>h));have iG:=ae (HX.out.heap iG.out (fun h=>h));clear HX kK;generalize (wb.alloc (.cells #[.string ⟨#[88]⟩,.string ⟨#[97]⟩,.slice none 0 0] 24)).alloc (.cells #[.string ⟨#[88,95,50]⟩,.string ⟨#[97]⟩,.slice none 0 0] 24)=wc at*;have eY:=uR wc;have x0:=fun x:XW wc=>(eY.trans x.ext).cell (af nT.out 0 (.string ⟨#[88]⟩) rfl) (fun h=>h);have x1:=fun x:XW wc=>(eY.trans x.ext).cell (af nT.out 1 (.string ⟨#[97]⟩) rfl) (fun h=>h);have x2:=fun x:XW wc=>(eY.trans x.ext).cell (af nT.out 2 (.slice none 0 0) rfl) (fun h=>h);clear eY;refine PG.bW (α:=Nat×(Option Addr×Nat)×(Option Addr×Nat)×(Nat->Prop)) 14 [13] 15 [(14,1),(15,2)] [[],[0],[0,1],[0,1,2],[0,1,2,3],[],[5],[0,1,2,3,4,5,6],[0,1,2,3,4,5,6,7],[0,1,2,3,4,5,6,7,8],[0,1,2,3,4,5,6,7,8,9],[0,1,2,3,4,5,6,7,8,9,10],[0,1,2,3,4,5,6,7,8,9,10,11],[0,1,2,3,4,5,6,7,8,9,10,11],[0,1,2,3,4,5,6,7,8,9,10,11,12],[0,1,2,3,4,5,6,7,8,9,10,11,12,13,14]]
  [none,some (qL [(.mk ⟨#[88]⟩ ⟨#[97]⟩ [])] 1),some (qO ⟨#[102]⟩ [(.mk ⟨#[88]⟩ ⟨#[97]⟩ [])] 1),some (qL [(.mk ⟨#[102]⟩ ah [(.mk ⟨#[88]⟩ ⟨#[97]⟩ [])])] 1),some (qO ⟨#[102]⟩ [(.mk ⟨#[102]⟩ ah [(.mk ⟨#[88]⟩ ⟨#[97]⟩ [])])] 1),none,some (qL [(.mk ⟨#[88]⟩ ⟨#[97]⟩ [])] 1),some (qO ⟨#[103]⟩ [(.mk ⟨#[88]⟩ ⟨#[97]⟩ [])] 1),none,some (qR [(.mk ⟨#[102]⟩ ah [(.mk ⟨#[102]⟩ ah [(.mk ⟨#[88]⟩ ⟨#[97]⟩ [])])]),(.mk ⟨#[103]⟩ ah [(.mk ⟨#[88]⟩ ⟨#[97]⟩ [])])] 1),some (dm),none,none,none]
  [false,true,true,true,true,false,true,true,false,true,true,false,false,false] (by kernel_rfl) (by kernel_rfl) rfl (fun _ _ d _ _ h=>by cases d<;>exact h) ?_
 simp only[List.take_succ_cons,List.take_zero,gG,List.getElem?_cons_zero,List.getElem?_cons_succ];refine PG.aX rfl (fun K hK=>?_);go_simp;refine hK _ ?_;clear hK K;refine PG.aK _ rfl (by go_simp) (fun W hW hG K hK=>?_) (fun K z1 hK=>?_)
 .have hE:=(uR W).alloc (.cells #[.string ⟨#[88]⟩,.string ⟨#[97]⟩,.slice none 0 0] 24);have hr:=ai W (.cells #[.string ⟨#[88]⟩,.string ⟨#[97]⟩,.slice none 0 0] 24);have hR:(qL [(.mk ⟨#[88]⟩ ⟨#[97]⟩ [])] 1).R (W.heap.size,default) (W.alloc (.cells #[.string ⟨#[88]⟩,.string ⟨#[97]⟩,.slice none 0 0] 24)):=(jH (a:=(.mk ⟨#[88]⟩ ⟨#[97]⟩ [])) (ua:= .slice none 0 0) hr (Array.getElem?_eq_some_iff.1 hr).1 (aA.nil _ _):aA (fun k=>k< (W.alloc (.cells #[.string ⟨#[88]⟩,.string ⟨#[97]⟩,.slice none 0 0] 24)).heap.size) (W.alloc (.cells #[.string ⟨#[88]⟩,.string ⟨#[97]⟩,.slice none 0 0] 24)) [(.mk ⟨#[88]⟩ ⟨#[97]⟩ [])] (.slice (some ⟨W.heap.size,0,none⟩) 1 1))
  clear hG hr;go_simp;exact hK (W.heap.size,default) _ hE hR (fun k e=>e.elim)
 dsimp only[qC,qL,qO,qR,dh,di,dZ,dm,qI] at hK⊢;go_simp;refine hK _ ?_;clear hK K;refine PG.aK _ rfl (by go_simp) (fun W hW hG K hK=>?_) (fun K z2 hK=>?_)
 .have f1:=hG _ (List.mem_append_right _ (List.mem_singleton.2 rfl)) (by show(1:Nat)∈_;decide+kernel);have f1:aA (fun k=>k<W.heap.size) W [(.mk ⟨#[88]⟩ ⟨#[97]⟩ [])] (.slice (some ⟨z1.1,0,none⟩) 1 1):=f1;have hR: ∀W',Ext W W'->(qO ⟨#[102]⟩ [(.mk ⟨#[88]⟩ ⟨#[97]⟩ [])] 1).R (z1.1,default) W':=fun W' hE=>(aN f1 hE:aA (fun k=>k<W'.heap.size) W' [(.mk ⟨#[88]⟩ ⟨#[97]⟩ [])] (.slice (some ⟨z1.1,0,none⟩) 1 1))
  clear hG f1;go_simp;refine(kM ⟨#[102]⟩ (some ⟨z1.1,0,none⟩) 1 1 W).mono ?_;rintro e w' ⟨rfl,hE⟩;exact hK (z1.1,default) _ hE (hR _ hE) (fun k e=>e.elim)
 dsimp only[qC,qL,qO,qR,dh,di,dZ,dm,qI] at hK⊢;go_simp;refine hK _ ?_;clear hK K;refine PG.aK _ rfl (by go_simp) (fun W hW hG K hK=>?_) (fun K z3 hK=>?_)
 .have f2:=hG _ (List.mem_append_right _ (List.mem_singleton.2 rfl)) (by show(2:Nat)∈_;decide+kernel);have f2:aA (fun k=>k<W.heap.size) W [(.mk ⟨#[88]⟩ ⟨#[97]⟩ [])] (.slice (some ⟨z2.1,0,none⟩) 1 1):=f2;have hE:=(uR W).alloc (.cells #[.string ⟨#[102]⟩,.string ⟨#[]⟩,.slice (some ⟨z2.1,0,none⟩) 1 1] 24);have hr:=ai W (.cells #[.string ⟨#[102]⟩,.string ⟨#[]⟩,.slice (some ⟨z2.1,0,none⟩) 1 1] 24);have hR:(qL [(.mk ⟨#[102]⟩ ah [(.mk ⟨#[88]⟩ ⟨#[97]⟩ [])])] 1).R (W.heap.size,default) (W.alloc (.cells #[.string ⟨#[102]⟩,.string ⟨#[]⟩,.slice (some ⟨z2.1,0,none⟩) 1 1] 24)):=(jH (a:=(.mk ⟨#[102]⟩ ah [(.mk ⟨#[88]⟩ ⟨#[97]⟩ [])])) (ua:= .slice (some ⟨z2.1,0,none⟩) 1 1) hr (Array.getElem?_eq_some_iff.1 hr).1 (aN f2 hE):aA (fun k=>k< (W.alloc (.cells #[.string ⟨#[102]⟩,.string ⟨#[]⟩,.slice (some ⟨z2.1,0,none⟩) 1 1] 24)).heap.size) (W.alloc (.cells #[.string ⟨#[102]⟩,.string ⟨#[]⟩,.slice (some ⟨z2.1,0,none⟩) 1 1] 24)) [(.mk ⟨#[102]⟩ ah [(.mk ⟨#[88]⟩ ⟨#[97]⟩ [])])] (.slice (some ⟨W.heap.size,0,none⟩) 1 1))
  clear hG hr;go_simp;exact hK (W.heap.size,default) _ hE hR (fun k e=>e.elim)
 dsimp only[qC,qL,qO,qR,dh,di,dZ,dm,qI] at hK⊢;go_simp;refine hK _ ?_;clear hK K;refine PG.aK _ rfl (by go_simp) (fun W hW hG K hK=>?_) (fun K z4 hK=>?_)
 .have f3:=hG _ (List.mem_append_right _ (List.mem_singleton.2 rfl)) (by show(3:Nat)∈_;decide+kernel);have f3:aA (fun k=>k<W.heap.size) W [(.mk ⟨#[102]⟩ ah [(.mk ⟨#[88]⟩ ⟨#[97]⟩ [])])] (.slice (some ⟨z3.1,0,none⟩) 1 1):=f3;have hR: ∀W',Ext W W'->(qO ⟨#[102]⟩ [(.mk ⟨#[102]⟩ ah [(.mk ⟨#[88]⟩ ⟨#[97]⟩ [])])] 1).R (z3.1,default) W':=fun W' hE=>(aN f3 hE:aA (fun k=>k<W'.heap.size) W' [(.mk ⟨#[102]⟩ ah [(.mk ⟨#[88]⟩ ⟨#[97]⟩ [])])] (.slice (some ⟨z3.1,0,none⟩) 1 1))
  clear hG f3;go_simp;refine(kM ⟨#[102]⟩ (some ⟨z3.1,0,none⟩) 1 1 W).mono ?_;rintro e w' ⟨rfl,hE⟩;exact hK (z3.1,default) _ hE (hR _ hE) (fun k e=>e.elim)
 dsimp only[qC,qL,qO,qR,dh,di,dZ,dm,qI] at hK⊢;go_simp;refine hK _ ?_;clear hK K;refine PG.aX rfl (fun K hK=>?_);go_simp;refine hK _ ?_;clear hK K;refine PG.aK _ rfl (by go_simp) (fun W hW hG K hK=>?_) (fun K z6 hK=>?_)
 .have hE:=(uR W).alloc (.cells #[.string ⟨#[88]⟩,.string ⟨#[97]⟩,.slice none 0 0] 24);have hr:=ai W (.cells #[.string ⟨#[88]⟩,.string ⟨#[97]⟩,.slice none 0 0] 24);have hR:(qL [(.mk ⟨#[88]⟩ ⟨#[97]⟩ [])] 1).R (W.heap.size,default) (W.alloc (.cells #[.string ⟨#[88]⟩,.string ⟨#[97]⟩,.slice none 0 0] 24)):=(jH (a:=(.mk ⟨#[88]⟩ ⟨#[97]⟩ [])) (ua:= .slice none 0 0) hr (Array.getElem?_eq_some_iff.1 hr).1 (aA.nil _ _):aA (fun k=>k< (W.alloc (.cells #[.string ⟨#[88]⟩,.string ⟨#[97]⟩,.slice none 0 0] 24)).heap.size) (W.alloc (.cells #[.string ⟨#[88]⟩,.string ⟨#[97]⟩,.slice none 0 0] 24)) [(.mk ⟨#[88]⟩ ⟨#[97]⟩ [])] (.slice (some ⟨W.heap.size,0,none⟩) 1 1))
  clear hG hr;go_simp;exact hK (W.heap.size,default) _ hE hR (fun k e=>e.elim)
 dsimp only[qC,qL,qO,qR,dh,di,dZ,dm,qI] at hK⊢;go_simp;refine hK _ ?_;clear hK K;refine PG.aK _ rfl (by go_simp) (fun W hW hG K hK=>?_) (fun K z7 hK=>?_)
 .have f6:=hG _ (List.mem_append_right _ (List.mem_singleton.2 rfl)) (by show(6:Nat)∈_;decide+kernel);have f6:aA (fun k=>k<W.heap.size) W [(.mk ⟨#[88]⟩ ⟨#[97]⟩ [])] (.slice (some ⟨z6.1,0,none⟩) 1 1):=f6;have hR: ∀W',Ext W W'->(qO ⟨#[103]⟩ [(.mk ⟨#[88]⟩ ⟨#[97]⟩ [])] 1).R (z6.1,default) W':=fun W' hE=>(aN f6 hE:aA (fun k=>k<W'.heap.size) W' [(.mk ⟨#[88]⟩ ⟨#[97]⟩ [])] (.slice (some ⟨z6.1,0,none⟩) 1 1))
  clear hG f6;go_simp;refine(kM ⟨#[103]⟩ (some ⟨z6.1,0,none⟩) 1 1 W).mono ?_;rintro e w' ⟨rfl,hE⟩;exact hK (z6.1,default) _ hE (hR _ hE) (fun k e=>e.elim)
 dsimp only[qC,qL,qO,qR,dh,di,dZ,dm,qI] at hK⊢;go_simp;refine hK _ ?_;clear hK K;refine PG.aX rfl (fun K hK=>?_);go_simp;refine hK _ ?_;clear hK K;refine PG.aK _ rfl (by go_simp) (fun W hW hG K hK=>?_) (fun K z9 hK=>?_)
 .have f4:=hG _ (List.mem_append_left _ (List.mem_append_left _ (List.mem_append_right _ (List.mem_singleton.2 rfl)))) (by show(4:Nat)∈_;decide+kernel);have f4:aA (fun k=>k<W.heap.size) W [(.mk ⟨#[102]⟩ ah [(.mk ⟨#[88]⟩ ⟨#[97]⟩ [])])] (.slice (some ⟨z4.1,0,none⟩) 1 1):=f4;have f7:=hG _ (List.mem_append_right _ (List.mem_singleton.2 rfl)) (by show(7:Nat)∈_;decide+kernel);have f7:aA (fun k=>k<W.heap.size) W [(.mk ⟨#[88]⟩ ⟨#[97]⟩ [])] (.slice (some ⟨z7.1,0,none⟩) 1 1):=f7;have hE:=(uR W).alloc (.cells #[.string ⟨#[102]⟩,.string ⟨#[]⟩,.slice (some ⟨z4.1,0,none⟩) 1 1,.string ⟨#[103]⟩,.string ⟨#[]⟩,.slice (some ⟨z7.1,0,none⟩) 1 1] 146);have hr:=ai W (.cells #[.string ⟨#[102]⟩,.string ⟨#[]⟩,.slice (some ⟨z4.1,0,none⟩) 1 1,.string ⟨#[103]⟩,.string ⟨#[]⟩,.slice (some ⟨z7.1,0,none⟩) 1 1] 146);have hR:(qR [(.mk ⟨#[102]⟩ ah [(.mk ⟨#[102]⟩ ah [(.mk ⟨#[88]⟩ ⟨#[97]⟩ [])])]),(.mk ⟨#[103]⟩ ah [(.mk ⟨#[88]⟩ ⟨#[97]⟩ [])])] 1).R (W.heap.size,default) (W.alloc (.cells #[.string ⟨#[102]⟩,.string ⟨#[]⟩,.slice (some ⟨z4.1,0,none⟩) 1 1,.string ⟨#[103]⟩,.string ⟨#[]⟩,.slice (some ⟨z7.1,0,none⟩) 1 1] 146)):=(xu (a:=(.mk ⟨#[102]⟩ ah [(.mk ⟨#[102]⟩ ah [(.mk ⟨#[88]⟩ ⟨#[97]⟩ [])])])) (b:=(.mk ⟨#[103]⟩ ah [(.mk ⟨#[88]⟩ ⟨#[97]⟩ [])])) (ua:= .slice (some ⟨z4.1,0,none⟩) 1 1) (ub:= .slice (some ⟨z7.1,0,none⟩) 1 1) hr (Array.getElem?_eq_some_iff.1 hr).1 (aN f4 hE) (aN f7 hE):aA (fun k=>k< (W.alloc (.cells #[.string ⟨#[102]⟩,.string ⟨#[]⟩,.slice (some ⟨z4.1,0,none⟩) 1 1,.string ⟨#[103]⟩,.string ⟨#[]⟩,.slice (some ⟨z7.1,0,none⟩) 1 1] 146)).heap.size) (W.alloc (.cells #[.string ⟨#[102]⟩,.string ⟨#[]⟩,.slice (some ⟨z4.1,0,none⟩) 1 1,.string ⟨#[103]⟩,.string ⟨#[]⟩,.slice (some ⟨z7.1,0,none⟩) 1 1] 146)) [(.mk ⟨#[102]⟩ ah [(.mk ⟨#[102]⟩ ah [(.mk ⟨#[88]⟩ ⟨#[97]⟩ [])])]),(.mk ⟨#[103]⟩ ah [(.mk ⟨#[88]⟩ ⟨#[97]⟩ [])])] (.slice (some ⟨W.heap.size,0,none⟩) 2 2))
  clear hG hr;go_simp;exact hK (W.heap.size,default) _ hE hR (fun k e=>e.elim)
 dsimp only[qC,qL,qO,qR,dh,di,dZ,dm,qI] at hK⊢;go_simp;refine hK _ ?_;clear hK K;refine PG.aK _ rfl (by go_simp) (fun W hW hG K hK=>?_) (fun K z10 hK=>?_)
 .have f9:=hG _ (List.mem_append_right _ (List.mem_singleton.2 rfl)) (by show(9:Nat)∈_;decide+kernel);go_simp;refine(ZL _ W (abH rfl f9) (aC fB.out (HE.out.trans hW))).mono ?_;rintro e w' ⟨v,rfl,hac,hE⟩;have anf:=hac;obtain⟨g,cap,_,_,_,_,_,_,_,_,hv,_⟩:=anf;subst hv;exact hK (g,(none,cap),default) _ hE hac (fun k e=>e.elim)
 dsimp only[qC,qL,qO,qR,dh,di,dZ,dm,qI] at hK⊢;go_simp;refine hK _ ?_;clear hK K
 iterate 3(refine PG.aX rfl (fun K hK=>?_);go_simp;refine hK _ ?_;clear hK K)
 refine PG.jo (fun w8 hW hG jW=>?_);have g10:=hG _ (List.mem_append_right _ (List.mem_singleton.2 rfl));dsimp only[qC,qL,qO,qR,dh,di,dZ,dm,qI] at g10;clear hG jW x0 x1 x2;refine kN (fun K hK _=>?_) trivial;rw[if_pos (by first|rfl|go_simp)];go_simp;refine hK _ _ trivial ?_;clear hK K;refine iE ?_;intro K hK;go_simp;refine hK _ _ ?_;clear hK K;simp only[cu]
 go_wp2_with fail
 have HE:=ae (HE.out.trans hW);have TZ:=ae (aN TZ.out hW);have T6:=ae (aN T6.out hW);have HB2:=ae (hW.heap HB2.out (fun h=>h));have HB4:=ae (hW.heap HB4.out (fun h=>h));have iG:=ae (hW.heap iG.out (fun h=>h));have oP:=ae (hW.heap oP.out (fun h=>h));obtain⟨gp,cap,ka,kc,za,zc,ra,rc,qa,qc,hv,hcell,hk1,hk2,hk3,hk4⟩:=g10;injection hv with hv1 _ hv2
 injection hv1 with hv1
 injection hv1 with hv1
 have qF:=ae hcell;have HK:=ae (And.intro hk1 (And.intro hk2 (And.intro hk3 hk4)));clear hcell hk1 hk2 hk3 hk4 hW;obtain⟨⟨pn,pp,px⟩,ang⟩: ∃q,z10=q:=⟨_,rfl⟩
 subst ang;dsimp only at hv1 hv2⊢;subst hv1;subst hv2;clear nT;have t1:(((1:Nat):Int)==1)=true:=rfl
 go_upto_region 9 with fail
 have eY:=uR w8;have x0:=fun x:XW w8=>(eY.trans x.ext).cell (af HB2.out 0 (.string ⟨#[115]⟩) rfl) (fun h=>h);have x1:=fun x:XW w8=>(eY.trans x.ext).cell (af HB2.out 1 (.string ⟨#[]⟩) rfl) (fun h=>h);have x2:=fun x:XW w8=>(eY.trans x.ext).cell (af HB2.out 2 (.slice (some ⟨pM,0,none⟩) 1 1) rfl) (fun h=>h);have y0:=fun x:XW w8=>(eY.trans x.ext).cell (af HB4.out 0 (.int .i64 1) rfl) (fun h=>h);have y1:=fun x:XW w8=>(eY.trans x.ext).cell (af HB4.out 1 (.slice pa 0 pc) rfl) (fun h=>h);have v0:=fun x:XW w8=>(eY.trans x.ext).cell (af iG.out 0 (.string ⟨#[115]⟩) rfl) (fun h=>h);have v1:=fun x:XW w8=>(eY.trans x.ext).cell (af iG.out 1 (.string ⟨#[]⟩) rfl) (fun h=>h);have v2:=fun x:XW w8=>(eY.trans x.ext).cell (af iG.out 2 (.slice na 1 nc) rfl) (fun h=>h);have u0:=fun x:XW w8=>(eY.trans x.ext).cell (af oP.out 0 (.string ⟨#[88,95,50]⟩) rfl) (fun h=>h);have u1:=fun x:XW w8=>(eY.trans x.ext).cell (af oP.out 1 (.string ⟨#[97]⟩) rfl) (fun h=>h);have u2:=fun x:XW w8=>(eY.trans x.ext).cell (af oP.out 2 (.slice none 0 0) rfl) (fun h=>h);have c0x:w8.cell? ⟨pn,0,none⟩=some (.string ⟨#[102]⟩):=qF.out 0 _ rfl;have c0:=fun x:XW w8=>(eY.trans x.ext).cell c0x (fun h=>h);clear c0x;have c1x:w8.cell? ⟨pn,1,none⟩=some (.string ⟨#[]⟩):=qF.out 1 _ rfl;have c1:=fun x:XW w8=>(eY.trans x.ext).cell c1x (fun h=>h);clear c1x;have c2x:w8.cell? ⟨pn,2,none⟩=some (.slice ka 1 kc):=qF.out 2 _ rfl;have c2:=fun x:XW w8=>(eY.trans x.ext).cell c2x (fun h=>h);clear c2x;have c3x:w8.cell? ⟨pn,3,none⟩=some (.string ⟨#[102]⟩):=qF.out 3 _ rfl;have c3:=fun x:XW w8=>(eY.trans x.ext).cell c3x (fun h=>h);clear c3x;have c4x:w8.cell? ⟨pn,4,none⟩=some (.string ⟨#[]⟩):=qF.out 4 _ rfl;have c4:=fun x:XW w8=>(eY.trans x.ext).cell c4x (fun h=>h);clear c4x;have c5x:w8.cell? ⟨pn,5,none⟩=some (.slice za 1 zc):=qF.out 5 _ rfl;have c5:=fun x:XW w8=>(eY.trans x.ext).cell c5x (fun h=>h);clear c5x;have c6x:w8.cell? ⟨pn,6,none⟩=some (.string ⟨#[103]⟩):=qF.out 6 _ rfl;have c6:=fun x:XW w8=>(eY.trans x.ext).cell c6x (fun h=>h);clear c6x;have c7x:w8.cell? ⟨pn,7,none⟩=some (.string ⟨#[]⟩):=qF.out 7 _ rfl;have c7:=fun x:XW w8=>(eY.trans x.ext).cell c7x (fun h=>h);clear c7x;have c8x:w8.cell? ⟨pn,8,none⟩=some (.slice ra 1 rc):=qF.out 8 _ rfl;have c8:=fun x:XW w8=>(eY.trans x.ext).cell c8x (fun h=>h);clear c8x;have c9x:w8.cell? ⟨pn,9,none⟩=some (.int .i64 0):=qF.out 9 _ rfl;have c9:=fun x:XW w8=>(eY.trans x.ext).cell c9x (fun h=>h);clear c9x;have ahu:w8.cell? ⟨pn,10,none⟩=some (.int .i64 0):=qF.out 10 _ rfl;have c10:=fun x:XW w8=>(eY.trans x.ext).cell ahu (fun h=>h);clear ahu;have ahv:w8.cell? ⟨pn,11,none⟩=some (.slice qa 1 qc):=qF.out 11 _ rfl;have c11:=fun x:XW w8=>(eY.trans x.ext).cell ahv (fun h=>h);clear ahv;clear eY;refine PG.bW (α:=Nat×(Option Addr×Nat)×(Option Addr×Nat)×(Nat->Prop)) 69 [] 69 [(69,2)] d9 a9 b9 (by kernel_rfl) (by kernel_rfl) rfl (fun _ _ d _ _ h=>by cases d<;>exact h) ?_;simp only[List.take_succ_cons,List.take_zero,gG,List.getElem?_cons_zero,List.getElem?_cons_succ]
 iterate 24(refine PG.aX rfl (fun K hK=>?_);go_simp;refine hK _ ?_;clear hK K)
 refine PG.aK _ rfl (by go_simp) (fun W hW hG K hK=>?_) (fun K z24 hK=>?_)
 .go_simp;refine(zM Py Py (.agg #[.string ⟨#[115]⟩,.string ⟨#[]⟩,.slice na 1 nc]) (.agg #[.string ⟨#[115]⟩,.string ⟨#[]⟩,.slice (some ⟨pM,0,none⟩) 1 1]) _ _ W ⟨na,nc,rfl,(aN T6.out hW)⟩ ⟨_,_,rfl,(aN TZ.out hW)⟩ (by decide)).mono ?_;rintro e w' ⟨he,hE⟩;obtain rfl:e= .returned (.bool true):=by simpa using he
  exact hK default _ hE trivial (fun k e=>e.elim)
 dsimp only[qC,qL,qO,qR,dh,di,dZ,dm,qI] at hK⊢;go_simp;refine hK _ ?_;clear hK K
 iterate 24(refine PG.aX rfl (fun K hK=>?_);go_simp;refine hK _ ?_;clear hK K)
 refine PG.aK _ rfl (by go_simp) (fun W hW hG K hK=>?_) (fun K z49 hK=>?_)
 .have hE:=(uR W).alloc (.cells #[.string ⟨#[88,95,50]⟩,.string ⟨#[97]⟩,.slice none 0 0] 24);have hr:=ai W (.cells #[.string ⟨#[88,95,50]⟩,.string ⟨#[97]⟩,.slice none 0 0] 24);have hR:(qL lW 1).R (W.heap.size,default) (W.alloc (.cells #[.string ⟨#[88,95,50]⟩,.string ⟨#[97]⟩,.slice none 0 0] 24)):=(PE hr (Array.getElem?_eq_some_iff.1 hr).1 trivial:aA (fun k=>k< (W.alloc (.cells #[.string ⟨#[88,95,50]⟩,.string ⟨#[97]⟩,.slice none 0 0] 24)).heap.size) (W.alloc (.cells #[.string ⟨#[88,95,50]⟩,.string ⟨#[97]⟩,.slice none 0 0] 24)) lW (.slice (some ⟨W.heap.size,0,none⟩) 1 1))
  clear hG hr;go_simp;exact hK (W.heap.size,default) _ hE hR (fun k e=>e.elim)
 dsimp only[qC,qL,qO,qR,dh,di,dZ,dm,qI] at hK⊢;go_simp;refine hK _ ?_;clear hK K;refine PG.aK _ rfl (by go_simp) (fun W hW hG K hK=>?_) (fun K z50 hK=>?_)
 .have f49:=hG _ (List.mem_append_right _ (List.mem_singleton.2 rfl)) (by show(49:Nat)∈_;decide+kernel);have f49:aA (fun k=>k<W.heap.size) W lW (.slice (some ⟨z49.1,0,none⟩) 1 1):=f49;have hR: ∀W',Ext W W'->(qO ⟨#[102]⟩ lW 1).R (z49.1,default) W':=fun W' hE=>(aN f49 hE:aA (fun k=>k<W'.heap.size) W' lW (.slice (some ⟨z49.1,0,none⟩) 1 1))
  clear hG f49;go_simp;refine(kM ⟨#[102]⟩ (some ⟨z49.1,0,none⟩) 1 1 W).mono ?_;rintro e w' ⟨rfl,hE⟩;exact hK (z49.1,default) _ hE (hR _ hE) (fun k e=>e.elim)
 dsimp only[qC,qL,qO,qR,dh,di,dZ,dm,qI] at hK⊢;go_simp;refine hK _ ?_;clear hK K;refine PG.aK _ rfl (by go_simp) (fun W hW hG K hK=>?_) (fun K z51 hK=>?_)
 .have f50:=hG _ (List.mem_append_right _ (List.mem_singleton.2 rfl)) (by show(50:Nat)∈_;decide+kernel);have f50:aA (fun k=>k<W.heap.size) W lW (.slice (some ⟨z50.1,0,none⟩) 1 1):=f50;have hE:=(uR W).alloc (.cells #[.string ⟨#[102]⟩,.string ⟨#[]⟩,.slice (some ⟨z50.1,0,none⟩) 1 1] 24);have hr:=ai W (.cells #[.string ⟨#[102]⟩,.string ⟨#[]⟩,.slice (some ⟨z50.1,0,none⟩) 1 1] 24);have hR:(qL uD 1).R (W.heap.size,default) (W.alloc (.cells #[.string ⟨#[102]⟩,.string ⟨#[]⟩,.slice (some ⟨z50.1,0,none⟩) 1 1] 24)):=(Sr hr (Array.getElem?_eq_some_iff.1 hr).1 (aN f50 hE):aA (fun k=>k< (W.alloc (.cells #[.string ⟨#[102]⟩,.string ⟨#[]⟩,.slice (some ⟨z50.1,0,none⟩) 1 1] 24)).heap.size) (W.alloc (.cells #[.string ⟨#[102]⟩,.string ⟨#[]⟩,.slice (some ⟨z50.1,0,none⟩) 1 1] 24)) uD (.slice (some ⟨W.heap.size,0,none⟩) 1 1))
  clear hG hr;go_simp;exact hK (W.heap.size,default) _ hE hR (fun k e=>e.elim)
 dsimp only[qC,qL,qO,qR,dh,di,dZ,dm,qI] at hK⊢;go_simp;refine hK _ ?_;clear hK K;refine PG.aK _ rfl (by go_simp) (fun W hW hG K hK=>?_) (fun K z52 hK=>?_)
 .have f51:=hG _ (List.mem_append_right _ (List.mem_singleton.2 rfl)) (by show(51:Nat)∈_;decide+kernel);have f51:aA (fun k=>k<W.heap.size) W uD (.slice (some ⟨z51.1,0,none⟩) 1 1):=f51;have hR: ∀W',Ext W W'->(qO ⟨#[102]⟩ uD 1).R (z51.1,default) W':=fun W' hE=>(aN f51 hE:aA (fun k=>k<W'.heap.size) W' uD (.slice (some ⟨z51.1,0,none⟩) 1 1))
  clear hG f51;go_simp;refine(kM ⟨#[102]⟩ (some ⟨z51.1,0,none⟩) 1 1 W).mono ?_;rintro e w' ⟨rfl,hE⟩;exact hK (z51.1,default) _ hE (hR _ hE) (fun k e=>e.elim)
 dsimp only[qC,qL,qO,qR,dh,di,dZ,dm,qI] at hK⊢;go_simp;refine hK _ ?_;clear hK K;refine PG.aK _ rfl (by go_simp) (fun W hW hG K hK=>?_) (fun K z53 hK=>?_)
 .have f52:=hG _ (List.mem_append_right _ (List.mem_singleton.2 rfl)) (by show(52:Nat)∈_;decide+kernel);have f52:aA (fun k=>k<W.heap.size) W uD (.slice (some ⟨z52.1,0,none⟩) 1 1):=f52;have hE:=(uR W).alloc (.cells #[.string ⟨#[102]⟩,.string ⟨#[]⟩,.slice (some ⟨z52.1,0,none⟩) 1 1] 24);have hr:=ai W (.cells #[.string ⟨#[102]⟩,.string ⟨#[]⟩,.slice (some ⟨z52.1,0,none⟩) 1 1] 24);have hR:(qL I_ 1).R (W.heap.size,default) (W.alloc (.cells #[.string ⟨#[102]⟩,.string ⟨#[]⟩,.slice (some ⟨z52.1,0,none⟩) 1 1] 24)):=(ac5 hr (Array.getElem?_eq_some_iff.1 hr).1 (aN f52 hE):aA (fun k=>k< (W.alloc (.cells #[.string ⟨#[102]⟩,.string ⟨#[]⟩,.slice (some ⟨z52.1,0,none⟩) 1 1] 24)).heap.size) (W.alloc (.cells #[.string ⟨#[102]⟩,.string ⟨#[]⟩,.slice (some ⟨z52.1,0,none⟩) 1 1] 24)) I_ (.slice (some ⟨W.heap.size,0,none⟩) 1 1))
  clear hG hr;go_simp;exact hK (W.heap.size,default) _ hE hR (fun k e=>e.elim)
 dsimp only[qC,qL,qO,qR,dh,di,dZ,dm,qI] at hK⊢;go_simp;refine hK _ ?_;clear hK K;refine PG.aK _ rfl (by go_simp) (fun W hW hG K hK=>?_) (fun K z54 hK=>?_)
 .have f53:=hG _ (List.mem_append_right _ (List.mem_singleton.2 rfl)) (by show(53:Nat)∈_;decide+kernel);have f53:aA (fun k=>k<W.heap.size) W I_ (.slice (some ⟨z53.1,0,none⟩) 1 1):=f53;have hR: ∀W',Ext W W'->(qO ⟨#[102]⟩ I_ 1).R (z53.1,default) W':=fun W' hE=>(aN f53 hE:aA (fun k=>k<W'.heap.size) W' I_ (.slice (some ⟨z53.1,0,none⟩) 1 1))
  clear hG f53;go_simp;refine(kM ⟨#[102]⟩ (some ⟨z53.1,0,none⟩) 1 1 W).mono ?_;rintro e w' ⟨rfl,hE⟩;exact hK (z53.1,default) _ hE (hR _ hE) (fun k e=>e.elim)
 dsimp only[qC,qL,qO,qR,dh,di,dZ,dm,qI] at hK⊢;go_simp;refine hK _ ?_;clear hK K;refine PG.aX rfl (fun K hK=>?_);go_simp;refine hK _ ?_;clear hK K;refine PG.aK _ rfl (by go_simp) (fun W hW hG K hK=>?_) (fun K z56 hK=>?_)
 .have hE:=(uR W).alloc (.cells #[.string ⟨#[88,95,50]⟩,.string ⟨#[97]⟩,.slice none 0 0] 24);have hr:=ai W (.cells #[.string ⟨#[88,95,50]⟩,.string ⟨#[97]⟩,.slice none 0 0] 24);have hR:(qL lW 1).R (W.heap.size,default) (W.alloc (.cells #[.string ⟨#[88,95,50]⟩,.string ⟨#[97]⟩,.slice none 0 0] 24)):=(PE hr (Array.getElem?_eq_some_iff.1 hr).1 trivial:aA (fun k=>k< (W.alloc (.cells #[.string ⟨#[88,95,50]⟩,.string ⟨#[97]⟩,.slice none 0 0] 24)).heap.size) (W.alloc (.cells #[.string ⟨#[88,95,50]⟩,.string ⟨#[97]⟩,.slice none 0 0] 24)) lW (.slice (some ⟨W.heap.size,0,none⟩) 1 1))
  clear hG hr;go_simp;exact hK (W.heap.size,default) _ hE hR (fun k e=>e.elim)
 dsimp only[qC,qL,qO,qR,dh,di,dZ,dm,qI] at hK⊢;go_simp;refine hK _ ?_;clear hK K;refine PG.aK _ rfl (by go_simp) (fun W hW hG K hK=>?_) (fun K z57 hK=>?_)
 .have f56:=hG _ (List.mem_append_right _ (List.mem_singleton.2 rfl)) (by show(56:Nat)∈_;decide+kernel);have f56:aA (fun k=>k<W.heap.size) W lW (.slice (some ⟨z56.1,0,none⟩) 1 1):=f56;have hR: ∀W',Ext W W'->(qO ⟨#[103]⟩ lW 1).R (z56.1,default) W':=fun W' hE=>(aN f56 hE:aA (fun k=>k<W'.heap.size) W' lW (.slice (some ⟨z56.1,0,none⟩) 1 1))
  clear hG f56;go_simp;refine(kM ⟨#[103]⟩ (some ⟨z56.1,0,none⟩) 1 1 W).mono ?_;rintro e w' ⟨rfl,hE⟩;exact hK (z56.1,default) _ hE (hR _ hE) (fun k e=>e.elim)
 dsimp only[qC,qL,qO,qR,dh,di,dZ,dm,qI] at hK⊢;go_simp;refine hK _ ?_;clear hK K;refine PG.aK _ rfl (by go_simp) (fun W hW hG K hK=>?_) (fun K z58 hK=>?_)
 .have f57:=hG _ (List.mem_append_right _ (List.mem_singleton.2 rfl)) (by show(57:Nat)∈_;decide+kernel);have f57:aA (fun k=>k<W.heap.size) W lW (.slice (some ⟨z57.1,0,none⟩) 1 1):=f57;have hE:=(uR W).alloc (.cells #[.string ⟨#[103]⟩,.string ⟨#[]⟩,.slice (some ⟨z57.1,0,none⟩) 1 1] 24);have hr:=ai W (.cells #[.string ⟨#[103]⟩,.string ⟨#[]⟩,.slice (some ⟨z57.1,0,none⟩) 1 1] 24);have hR:(qL Ja 1).R (W.heap.size,default) (W.alloc (.cells #[.string ⟨#[103]⟩,.string ⟨#[]⟩,.slice (some ⟨z57.1,0,none⟩) 1 1] 24)):=(ac6 hr (Array.getElem?_eq_some_iff.1 hr).1 (aN f57 hE):aA (fun k=>k< (W.alloc (.cells #[.string ⟨#[103]⟩,.string ⟨#[]⟩,.slice (some ⟨z57.1,0,none⟩) 1 1] 24)).heap.size) (W.alloc (.cells #[.string ⟨#[103]⟩,.string ⟨#[]⟩,.slice (some ⟨z57.1,0,none⟩) 1 1] 24)) Ja (.slice (some ⟨W.heap.size,0,none⟩) 1 1))
  clear hG hr;go_simp;exact hK (W.heap.size,default) _ hE hR (fun k e=>e.elim)
 dsimp only[qC,qL,qO,qR,dh,di,dZ,dm,qI] at hK⊢;go_simp;refine hK _ ?_;clear hK K;refine PG.aK _ rfl (by go_simp) (fun W hW hG K hK=>?_) (fun K z59 hK=>?_)
 .have f58:=hG _ (List.mem_append_right _ (List.mem_singleton.2 rfl)) (by show(58:Nat)∈_;decide+kernel);have f58:aA (fun k=>k<W.heap.size) W Ja (.slice (some ⟨z58.1,0,none⟩) 1 1):=f58;have hR: ∀W',Ext W W'->(qO ⟨#[102]⟩ Ja 1).R (z58.1,default) W':=fun W' hE=>(aN f58 hE:aA (fun k=>k<W'.heap.size) W' Ja (.slice (some ⟨z58.1,0,none⟩) 1 1))
  clear hG f58;go_simp;refine(kM ⟨#[102]⟩ (some ⟨z58.1,0,none⟩) 1 1 W).mono ?_;rintro e w' ⟨rfl,hE⟩;exact hK (z58.1,default) _ hE (hR _ hE) (fun k e=>e.elim)
 dsimp only[qC,qL,qO,qR,dh,di,dZ,dm,qI] at hK⊢;go_simp;refine hK _ ?_;clear hK K;refine PG.aX rfl (fun K hK=>?_);go_simp;refine hK _ ?_;clear hK K;refine PG.aK _ rfl (by go_simp) (fun W hW hG K hK=>?_) (fun K z61 hK=>?_)
 .have hE:=(uR W).alloc (.cells #[.string ⟨#[88,95,50]⟩,.string ⟨#[97]⟩,.slice none 0 0] 24);have hr:=ai W (.cells #[.string ⟨#[88,95,50]⟩,.string ⟨#[97]⟩,.slice none 0 0] 24);have hR:(qL lW 1).R (W.heap.size,default) (W.alloc (.cells #[.string ⟨#[88,95,50]⟩,.string ⟨#[97]⟩,.slice none 0 0] 24)):=(PE hr (Array.getElem?_eq_some_iff.1 hr).1 trivial:aA (fun k=>k< (W.alloc (.cells #[.string ⟨#[88,95,50]⟩,.string ⟨#[97]⟩,.slice none 0 0] 24)).heap.size) (W.alloc (.cells #[.string ⟨#[88,95,50]⟩,.string ⟨#[97]⟩,.slice none 0 0] 24)) lW (.slice (some ⟨W.heap.size,0,none⟩) 1 1))
  clear hG hr;go_simp;exact hK (W.heap.size,default) _ hE hR (fun k e=>e.elim)
 dsimp only[qC,qL,qO,qR,dh,di,dZ,dm,qI] at hK⊢;go_simp;refine hK _ ?_;clear hK K;refine PG.aK _ rfl (by go_simp) (fun W hW hG K hK=>?_) (fun K z62 hK=>?_)
 .have f61:=hG _ (List.mem_append_right _ (List.mem_singleton.2 rfl)) (by show(61:Nat)∈_;decide+kernel);have f61:aA (fun k=>k<W.heap.size) W lW (.slice (some ⟨z61.1,0,none⟩) 1 1):=f61;have hR: ∀W',Ext W W'->(qO ⟨#[102]⟩ lW 1).R (z61.1,default) W':=fun W' hE=>(aN f61 hE:aA (fun k=>k<W'.heap.size) W' lW (.slice (some ⟨z61.1,0,none⟩) 1 1))
  clear hG f61;go_simp;refine(kM ⟨#[102]⟩ (some ⟨z61.1,0,none⟩) 1 1 W).mono ?_;rintro e w' ⟨rfl,hE⟩;exact hK (z61.1,default) _ hE (hR _ hE) (fun k e=>e.elim)
 dsimp only[qC,qL,qO,qR,dh,di,dZ,dm,qI] at hK⊢;go_simp;refine hK _ ?_;clear hK K;refine PG.aK _ rfl (by go_simp) (fun W hW hG K hK=>?_) (fun K z63 hK=>?_)
 .have f62:=hG _ (List.mem_append_right _ (List.mem_singleton.2 rfl)) (by show(62:Nat)∈_;decide+kernel);have f62:aA (fun k=>k<W.heap.size) W lW (.slice (some ⟨z62.1,0,none⟩) 1 1):=f62;have hE:=(uR W).alloc (.cells #[.string ⟨#[102]⟩,.string ⟨#[]⟩,.slice (some ⟨z62.1,0,none⟩) 1 1] 24);have hr:=ai W (.cells #[.string ⟨#[102]⟩,.string ⟨#[]⟩,.slice (some ⟨z62.1,0,none⟩) 1 1] 24);have hR:(qL uD 1).R (W.heap.size,default) (W.alloc (.cells #[.string ⟨#[102]⟩,.string ⟨#[]⟩,.slice (some ⟨z62.1,0,none⟩) 1 1] 24)):=(Sr hr (Array.getElem?_eq_some_iff.1 hr).1 (aN f62 hE):aA (fun k=>k< (W.alloc (.cells #[.string ⟨#[102]⟩,.string ⟨#[]⟩,.slice (some ⟨z62.1,0,none⟩) 1 1] 24)).heap.size) (W.alloc (.cells #[.string ⟨#[102]⟩,.string ⟨#[]⟩,.slice (some ⟨z62.1,0,none⟩) 1 1] 24)) uD (.slice (some ⟨W.heap.size,0,none⟩) 1 1))
  clear hG hr;go_simp;exact hK (W.heap.size,default) _ hE hR (fun k e=>e.elim)
 dsimp only[qC,qL,qO,qR,dh,di,dZ,dm,qI] at hK⊢;go_simp;refine hK _ ?_;clear hK K;refine PG.aK _ rfl (by go_simp) (fun W hW hG K hK=>?_) (fun K z64 hK=>?_)
 .have f63:=hG _ (List.mem_append_right _ (List.mem_singleton.2 rfl)) (by show(63:Nat)∈_;decide+kernel);have f63:aA (fun k=>k<W.heap.size) W uD (.slice (some ⟨z63.1,0,none⟩) 1 1):=f63;have hR: ∀W',Ext W W'->(qO ⟨#[103]⟩ uD 1).R (z63.1,default) W':=fun W' hE=>(aN f63 hE:aA (fun k=>k<W'.heap.size) W' uD (.slice (some ⟨z63.1,0,none⟩) 1 1))
  clear hG f63;go_simp;refine(kM ⟨#[103]⟩ (some ⟨z63.1,0,none⟩) 1 1 W).mono ?_;rintro e w' ⟨rfl,hE⟩;exact hK (z63.1,default) _ hE (hR _ hE) (fun k e=>e.elim)
 dsimp only[qC,qL,qO,qR,dh,di,dZ,dm,qI] at hK⊢;go_simp;refine hK _ ?_;clear hK K;refine PG.aK _ rfl (by go_simp) (fun W hW hG K hK=>?_) (fun K z65 hK=>?_)
 .go_simp;exact hK (W.heap.size,default) _ ((uR W).alloc _) (ai _ _) (fun k e=>e.elim)
 dsimp only[qC,qL,qO,qR,dh,di,dZ,dm,qI] at hK⊢;go_simp;refine hK _ ?_;clear hK K;refine PG.aX rfl (fun K hK=>?_);go_simp;refine hK _ ?_;clear hK K;refine PG.aK _ rfl (by go_simp) (fun W hW hG K hK=>?_) (fun K z67 hK=>?_)
 .have fk:=hG _ (List.mem_append_left _ (List.mem_append_left _ (List.mem_append_left _ (List.mem_append_left _ (List.mem_append_left _ (List.mem_append_left _ (List.mem_append_left _ (List.mem_append_left _ (List.mem_append_left _ (List.mem_append_right _ (List.mem_singleton.2 rfl))))))))))) (by show(54:Nat)∈_;decide+kernel);have fl:=hG _ (List.mem_append_left _ (List.mem_append_left _ (List.mem_append_left _ (List.mem_append_left _ (List.mem_append_left _ (List.mem_append_right _ (List.mem_singleton.2 rfl))))))) (by show(59:Nat)∈_;decide+kernel);have fr:=hG _ (List.mem_append_left _ (List.mem_append_right _ (List.mem_singleton.2 rfl))) (by show(64:Nat)∈_;decide+kernel);have fi:=hG _ (List.mem_append_right _ (List.mem_singleton.2 rfl)) (by show(65:Nat)∈_;decide+kernel);have hdec:Hid (I7.size<=1000/\I8.size<=1000/\I9.size<=1000/\[(0:Int)].length<=1000):=ae (by decide);have hil:=(Array.getElem?_eq_some_iff.1 fi).1;have hpa:wQ (fun k=>k<W.heap.size) W (.slice (some ⟨z65.1,0,none⟩) 1 1) [0]:=az.mk' rfl rfl (Nat.le_refl _) (fun _=>hil) (fun j hj=>by
   have hj1:j<1:=hj;obtain rfl:j=0:=by omega
   rw[Nat.zero_add,cell_of_row _ _ 0 _ _ _ fi];rfl)
  have hpq:wQ (fun k=>k<W.heap.size) W (.slice qa 1 qc) [0]:=Ul (p:=[0]) ((az.kept HK.out.2.2.2 hW (fun _ _ h=>h)).weaken (fun k hk=>ay hk hW.size));have hsl:=UN (d:= .slice none 0 0) fk fl fr;clear hG fk fl fr;go_simp;refine(UJ I7 I8 I9 0 0 [0] ka za ra qa (some ⟨z54.1,0,none⟩) (some ⟨z59.1,0,none⟩) (some ⟨z64.1,0,none⟩) (some ⟨z65.1,0,none⟩) kc zc rc qc 1 1 1 1 W (aN HK.out.1 hW) (aN HK.out.2.1 hW) (aN HK.out.2.2.1 hW) hpq hsl.1 hsl.2.1 hsl.2.2 hpa hdec.out).mono ?_;rintro e w' ⟨rfl,hE⟩;exact hK default _ hE trivial (fun k e=>e.elim)
 dsimp only[qC,qL,qO,qR,dh,di,dZ,dm,qI] at hK⊢;go_simp;refine hK _ ?_;clear hK K;refine PG.aX rfl (fun K hK=>?_);go_simp;refine hK _ ?_;clear hK K;refine PG.jo (fun wz hW hG jW=>?_);clear hG jW;refine iE ?_;intro K hK;go_simp;refine hK _ _ ?_;clear hK K;simp only[cu]
 go_wp2_with fail
 go_ret;exact⟨rfl,HE.out.trans hW⟩
end
theorem ack (l:List By) (s:By) (v:Value) (S:Nat->Prop) (w:World) (hR:lD S w v l) (hlc:l.length<=1000000):Calls Tryz.prog 183 #[v,.string s] w fun e w'=>e= .returned (.int .i64 (qZ l s))/\w'=w:=by
 have HR:=ae hR;obtain⟨a,cap,rfl⟩:=az.shape hR;clear hR
 go_enter Tryz.func183,Tryz.ntmps183
 go_wp2_with fail
 go_loopg [5] l.length (fun gk iv wr=> ∃k:Nat,iv= .int .i64 (k:Int)/\gk=l.length-k/\k<=l.length/\Hid (∀j,j<k->bg l j≠s)/\wr=w)
 case atStart=>exact⟨0,rfl,rfl,Nat.zero_le _,ae (fun j h=>absurd h (Nat.not_lt_zero _)),rfl⟩
 case round=>
  obtain⟨k,rfl,rfl,hk,HC,rfl⟩:=hrel;by_cases hlt:k<l.length
  .obtain ⟨g,off,rfl,_,hat⟩:=lD.at_ HR.out (by omega);have q0:=hat k hlt;obtain⟨z0,z1,z2,z2'⟩:=bz hlt;clear hat;obtain⟨x,hx⟩: ∃x,bg l k=x:=⟨_,rfl⟩
   have HX:=ae hx;rw[hx] at q0;clear hx;by_cases he:x=s
   .subst he;have HV:Hid (qZ l x=(k:Int)):=ae (by
     have h1:=adZ hlt (fun j hj=>HC.out j hj) HX.out;unfold qZ;rw[if_pos (ad1.2 (by rw[h1];exact hlt)),h1])
    go_wp2_with fail
    go_ret;rw[HV.out];exact⟨rfl,rfl⟩
   .have t1:=xy he;have HN:Hid (∀j,j<k+1->bg l j≠s):=ae (fun j hj=>by
     rcases Nat.lt_succ_iff_lt_or_eq.1 hj with h5|h5
     .exact HC.out j h5
     .rw [h5,HX.out];exact he)
    clear he
    go_wp2_with fail
    go_roundg (l.length- (k+1))
    case measure=>omega
    case rel=>exact⟨k+1,by go_num,rfl,by omega,HN,rfl⟩
  .obtain rfl:k=l.length:=by omega
   have HV:Hid (qZ l s= -1):=ae (by
    unfold qZ;rw[if_neg (fun h=>by
     have h1:=NC h;rw[Ym (fun j hj=>HC.out j hj)] at h1;exact Nat.lt_irrefl _ h1)])
   have z2:decide ((l.length:Int)< (l.length:Int))=false:=dF (by omega)
   go_wp2_with fail
   go_ret;rw[HV.out];exact⟨rfl,rfl⟩
theorem EC (l:List By) (s:By) (v:Value) (S:Nat->Prop) (w:World) (hR:lD S w v l) (hlc:l.length<=1000000):Calls Tryz.prog 183 #[v,.string s] w fun e w'=>e= .returned (.int .i64 (qZ l s))/\Ext w w':=(ack l s v S w hR hlc).mono fun e w' h=>⟨h.1,h.2▸aj.refl _ _⟩
theorem Jp (g:Sg) (s:By) (v:Value) (S:Nat->Prop) (w:World) (hG:u_ S w g v) (hl:g.2.length<=1000000):Calls Tryz.prog 184 #[v,.string s] w fun e w'=>e= .returned (.int .i64 (kL g.2 s))/\Ext w w':=by
 obtain⟨sa,sc,oa,oc,rfl,_,hD⟩:=hG;have HD:=ae hD;have HZ:=ae ((uR w).alloc (.cells #[.slice sa g.1.length sc,.slice oa g.2.length oc] 74));have HB:=ae (ai w (.cells #[.slice sa g.1.length sc,.slice oa g.2.length oc] 74));have c1:=af HB.out 1 (.slice oa g.2.length oc) rfl;obtain⟨V,hV⟩: ∃V,kL g.2 s=V:=⟨_,rfl⟩
 rw[hV];have HV:=ae hV;clear hD hV
 go_enter Tryz.func184,Tryz.ntmps184
 go_wp2_with fail
 generalize w.alloc (.cells #[.slice sa g.1.length sc,.slice oa g.2.length oc] 74)=w1 at*;clear c1
 go_loopg [5] g.2.length (fun gk iv wr=> ∃k:Nat,iv= .int .i64 (k:Int)/\gk=g.2.length-k/\k<=g.2.length/\Hid (∀j,j<k->(dg g.2 j).1≠s)/\w1=wr)
 case atStart=>exact⟨0,rfl,rfl,Nat.zero_le _,ae (fun j h=>absurd h (Nat.not_lt_zero _)),rfl⟩
 case round=>
  obtain⟨k,rfl,rfl,hk,HC,rfl⟩:=hrel;have c1:=af HB.out 1 (.slice oa g.2.length oc) rfl;by_cases hlt:k<g.2.length
  .obtain ⟨gg,off,hga,_,hat⟩:=(HD.out.ext HZ.out).at_ (by omega);subst hga;obtain⟨xa,xc,q0,q1,q2,_⟩:=hat k hlt;obtain⟨z0,z1,z2,z2'⟩:=bz hlt;clear hat q1 q2;obtain⟨x,hx⟩: ∃x,(dg g.2 k).1=x:=⟨_,rfl⟩
   have HX:=ae hx;rw[hx] at q0;clear hx;by_cases he:x=s
   .subst he;have jb:Hid (V=(k:Int)):=ae (by
     have h1:=QI hlt (fun j hj=>HC.out j hj) HX.out;rw[<-HV.out];unfold kL;rw[h1,if_pos hlt])
    go_wp2_with fail
    go_ret;rw[jb.out];exact⟨rfl,HZ.out⟩
   .have t1:=xy he;have HN:Hid (∀j,j<k+1->(dg g.2 j).1≠s):=ae (fun j hj=>by
     rcases Nat.lt_succ_iff_lt_or_eq.1 hj with h5|h5
     .exact HC.out j h5
     .rw [h5,HX.out];exact he)
    clear he
    go_wp2_with fail
    go_roundg (g.2.length- (k+1))
    case measure=>omega
    case rel=>exact⟨k+1,by go_num,rfl,by omega,HN,rfl⟩
  .obtain rfl:k=g.2.length:=by omega
   have jb:Hid (V= -1):=ae (by
    rw[<-HV.out];unfold kL;rw[if_neg (Vr (fun j hj=>HC.out j hj))])
   have z2:decide ((g.2.length:Int)< (g.2.length:Int))=false:=dF (by omega)
   go_wp2_with fail
   go_ret;rw[jb.out];exact⟨rfl,HZ.out⟩
theorem aaG (g:Sg) (t:Tm) (v u:Value) (S T:Nat->Prop) (w:World) (hG:u_ S w g v) (hT:bC T w t u) (hl:g.2.length<=1000000):Calls Tryz.prog 186 #[v,u] w fun e w'=>e= .returned (.string (eu g t))/\Ext w w':=by
 have zF:=ae (fun s W (hW:Ext w W)=>Jp g s v S W (hG.ext hW) hl);obtain⟨sa,sc,oa,oc,rfl,_,hD⟩:=hG;obtain⟨a,cap,rfl,hT⟩:=hT;obtain⟨nm,so,L⟩:=t;dsimp only[tV,Tm.name,Tm.sort,Tm.kids];have HD:=ae hD;have HZ:=ae (((uR w).alloc (.cells #[.slice sa g.1.length sc,.slice oa g.2.length oc] 74)).alloc (.cells #[.string nm,.string so,.slice a L.length cap] 24));have HB1:=ae (ak (ai w (.cells #[.slice sa g.1.length sc,.slice oa g.2.length oc] 74)) (.cells #[.string nm,.string so,.slice a L.length cap] 24));have HB2:=ae (alloc_at (w.alloc (.cells #[.slice sa g.1.length sc,.slice oa g.2.length oc] 74)) (.cells #[.string nm,.string so,.slice a L.length cap] 24) (n:=w.heap.size+1) (by simp));obtain⟨c0,c1⟩:=aP HB1.out;obtain⟨t0,t1⟩:=aP HB2.out;have HU:Hid (eu g (.mk nm so L)=if so≠ah then so else if bD g.2 nm<g.2.length then(dg g.2 (bD g.2 nm)).2.2 else ah):=ae rfl;obtain⟨V,hV⟩: ∃V,eu g (.mk nm so L)=V:=⟨_,rfl⟩
 rw[hV] at HU⊢;clear hD hT hV;by_cases hs0:so.size=0
 .have hse:=eU _ hs0;subst hse;have dY:Hid (V=if bD g.2 nm<g.2.length then(dg g.2 (bD g.2 nm)).2.2 else ah):=ae (by rw[HU.out,if_neg (by simp[ah])]);have bI:=ae (zF.out nm);clear HU zF hs0;by_cases hd:bD g.2 nm<g.2.length
  .have hdi:kL g.2 nm=(bD g.2 nm:Int):=by unfold kL;rw[if_pos hd]
   have jb:Hid (V=(dg g.2 (bD g.2 nm)).2.2):=ae (by rw[dY.out,if_pos hd]);rw[hdi] at bI;obtain⟨k,hkk⟩: ∃k,bD g.2 nm=k:=⟨_,rfl⟩
   rw[hkk] at hd jb bI;have z0: ¬(k:Int)<0:=by omega
   have z0':(0:Int)<=(k:Int):=by omega
   have z1:(k:Int)< (g.2.length:Int):=by omega
   clear hdi hkk dY
   go_enter Tryz.func186,Tryz.ntmps186
   go_wp2_with fail
   refine(bI.out _ HZ.out).mono ?_;rintro e w4 ⟨rfl,hw4⟩;have H4:=ae (HZ.out.trans hw4);have kZ:=ae (hw4.heap HB1.out (fun h=>h));obtain⟨gg,off,hga,_,hat⟩:=(HD.out.ext H4.out).at_ (by omega);subst hga;obtain⟨xa,xc,q0,q1,q2,_⟩:=hat k hd;clear hw4 c0 c1 t0 t1 bI hat q0 q1 HB1;have c1:=af kZ.out 1 (.slice (some ⟨gg,off,none⟩) g.2.length oc) rfl;obtain⟨y,hy⟩: ∃y,(dg g.2 k).2.2=y:=⟨_,rfl⟩
   rw[hy] at q2 jb;clear hy
   go_wp2_with fail
   go_ret;rw[jb.out];exact⟨rfl,H4.out⟩
  .have hdi:kL g.2 nm= -1:=by unfold kL;rw[if_neg hd]
   have jb:Hid (V=ah):=ae (by rw[dY.out,if_neg hd]);rw[hdi] at bI;clear hdi dY hd
   go_enter Tryz.func186,Tryz.ntmps186
   go_wp2_with fail
   refine(bI.out _ HZ.out).mono ?_;rintro e w4 ⟨rfl,hw4⟩;have H4:=ae (HZ.out.trans hw4);clear hw4 c0 c1 t0 t1 bI
   go_wp2_with fail
   go_ret;rw[jb.out];exact⟨rfl,H4.out⟩
 .obtain ⟨e1,e2,e3,e4⟩:=dJ so (Nat.pos_of_ne_zero hs0);have jb:Hid (V=so):=ae (by
   rw[HU.out,if_pos (fun e=>hs0 (by rw[e];rfl))])
  clear HU
  go_enter Tryz.func186,Tryz.ntmps186
  go_wp2_with fail
  go_ret;rw[jb.out];exact⟨rfl,HZ.out⟩
theorem acm (g:Sg): ∀(t:Tm) (v u:Value) (S T:Nat->Prop) (w:World),u_ S w g v->bC T w t u->g.2.length<=1000000->g.1.length<=1000000->t.size<=100000->Calls Tryz.prog 185 #[v,u] w fun e w'=>e= .returned (.int .i64 (b_ g t))/\Ext w w':=by
 refine Tm.ind (fun nm so L ih=>?_);intro v u S T w hG hT hgl hsl hsz;have HG:=ae hG;have zF:=ae (fun s W (hW:Ext w W)=>Jp g s v S W (hG.ext hW) hgl);obtain⟨sa,sc,oa,oc,rfl,hSS,hD⟩:=hG;obtain⟨a,cap,rfl,hT⟩:=hT;dsimp only[tV,Tm.name,Tm.sort,Tm.kids] at hT⊢;have cO:=ae hT;have HIH:=ae ih;have HD:=ae hD;have ve:=ae (fun W (hW:Ext w W)=>EC g.1 so _ S W (az.kept hSS hW (fun _ _ h=>h)) hsl);have oM:Hid (∀x∈L,x.size<=100000):=ae (fun x hx=>by have h1:=xI (t:= .mk nm so L) hx;omega);have mr:L.length<=100000:=by have h1:=bf L;have h2:=size_eq (.mk nm so L);simp only[Tm.kids] at h2;omega
 have HZ:=ae (((uR w).alloc (.cells #[.slice sa g.1.length sc,.slice oa g.2.length oc] 74)).alloc (.cells #[.string nm,.string so,.slice a L.length cap] 24));have HB1:=ae (ak (ai w (.cells #[.slice sa g.1.length sc,.slice oa g.2.length oc] 74)) (.cells #[.string nm,.string so,.slice a L.length cap] 24));have HB2:=ae (alloc_at (w.alloc (.cells #[.slice sa g.1.length sc,.slice oa g.2.length oc] 74)) (.cells #[.string nm,.string so,.slice a L.length cap] 24) (n:=w.heap.size+1) (by simp));obtain⟨c0,c1⟩:=aP HB1.out;obtain⟨t0,t1,t2⟩:=ag HB2.out;have HU:=ae (Kz g nm so L);obtain⟨V,hV⟩: ∃V,b_ g (.mk nm so L)=V:=⟨_,rfl⟩
 rw[hV] at HU⊢;clear hSS hD hT hV ih hsz;by_cases hs0:so.size=0
 .have hse:=eU _ hs0;subst hse;have dY:Hid (V=if ¬bD g.2 nm<g.2.length then 9 else if L.length≠(dg g.2 (bD g.2 nm)).2.1.length then 3 else if lV g L (dg g.2 (bD g.2 nm)).2.1=true then 11 else gJ g L):=ae (by rw[HU.out,if_neg (by simp[ah])]);have bI:=ae (zF.out nm);clear HU zF hs0 ve;by_cases hd:bD g.2 nm<g.2.length
  .have hdi:kL g.2 nm=(bD g.2 nm:Int):=by unfold kL;rw[if_pos hd]
   have vk:Hid (V=if L.length≠(dg g.2 (bD g.2 nm)).2.1.length then 3 else if lV g L (dg g.2 (bD g.2 nm)).2.1=true then 11 else gJ g L):=ae (by rw[dY.out,if_neg (by simp[hd])]);rw[hdi] at bI;obtain⟨k,hkk⟩: ∃k,bD g.2 nm=k:=⟨_,rfl⟩
   rw[hkk] at hd vk bI;have z0: ¬(k:Int)<0:=by omega
   have z0':(0:Int)<=(k:Int):=by omega
   have z1:(k:Int)< (g.2.length:Int):=by omega
   clear hdi hkk dY
   go_enter Tryz.func185,Tryz.ntmps185
   go_wp2_with fail
   refine(bI.out _ HZ.out).mono ?_;rintro e w4 ⟨rfl,hw4⟩;have H4:=ae (HZ.out.trans hw4);have kZ:=ae (hw4.heap HB1.out (fun h=>h));have dO:=ae (hw4.heap HB2.out (fun h=>h));obtain⟨gg,off,hga,_,hat⟩:=(HD.out.ext H4.out).at_ (by omega);subst hga;obtain⟨xa,xc,q0,q1,q2,_⟩:=hat k hd;clear hw4 c0 c1 t0 t1 t2 bI hat q0 q2 HB1 HB2;have c1:=af kZ.out 1 (.slice (some ⟨gg,off,none⟩) g.2.length oc) rfl;have t2:=af dO.out 2 (.slice a L.length cap) rfl;by_cases hle:L.length=(dg g.2 k).2.1.length
   .have ND:=ae hle;have uk:Hid (V=if lV g L (dg g.2 k).2.1=true then 11 else gJ g L):=ae (by rw[vk.out,if_neg (by simp[hle])]);rw[<-hle] at q1;have y1:((L.length:Int)==(L.length:Int))=true:=by simp
    clear hle vk
    go_wp2_with fail
    go_quiet (fail)
    generalize hwq:w4.drewN nq=w5 at*;have QJ:Hid (Ext w w5):=ae (by rw[<-hwq];exact H4.out.drewN' nq);have jm:Hid (w5.heap[w.heap.size]?=some (.cells #[.slice sa g.1.length sc,.slice (some ⟨gg,off,none⟩) g.2.length oc] 74 (0,0))):=ae (by rw[<-hwq];exact kZ.out);have vV:Hid (w5.heap[w.heap.size+1]?=some (.cells #[.string nm,.string ⟨#[]⟩,.slice a L.length cap] 24 (0,0))):=ae (by rw[<-hwq];exact dO.out);clear hwq c1 t2 q1 y1 z0 H4 kZ dO;have t2:=af vV.out 2 (.slice a L.length cap) rfl
    go_wp2_with fail
    clear t2;obtain⟨wa,lJ⟩: ∃wa,wa=w5:=⟨_,rfl⟩
    have HR0:Hid (Ext wa w5):=ae (by rw[lJ];exact aj.refl _ _);rw[<-lJ] at QJ jm vV;clear lJ
    go_loopg [6] L.length (fun gk iv wr=> ∃i:Nat,iv= .int .i64 (i:Int)/\gk=L.length-i/\i<=L.length/\Hid (∀j,j<i->eu g (tg L j)=ah\/eu g (tg L j)=(dg g.2 k).2.1.getD j ah)/\Hid (Ext wa wr))
    case atStart=>exact⟨0,rfl,rfl,Nat.zero_le _,ae (fun j h=>absurd h (Nat.not_lt_zero _)),HR0⟩
    case round=>
     clear HR0;obtain⟨i,rfl,rfl,hi,HM,HE⟩:=hrel;have nZ:=ae (HE.out.heap jm.out (fun h=>h));have Hr:=ae (HE.out.heap vV.out (fun h=>h));have t2:=af Hr.out 2 (.slice a L.length cap) rfl;by_cases hlt:i<L.length
     .obtain ⟨g1,o1,NF,_,NG⟩:=(cO.out.ext (QJ.out.trans HE.out)).at_ (by omega);subst NF;obtain⟨xa,xc,q0,q1,q2,hx⟩:=NG i hlt;rw[<-Nat.add_assoc] at q1 q2;obtain⟨z0,z1,z2,z2'⟩:=bz hlt;have wH:=ae (fun W (hW:Ext wr W)=>aaG g (tg L i) _ _ S T W (HG.out.ext ((QJ.out.trans HE.out).trans hW)) ⟨xa,xc,rfl,hx.ext hW⟩ hgl);dsimp only[tV] at wH;obtain⟨x,hxx⟩: ∃x,tg L i=x:=⟨_,rfl⟩
      have KA:=ae hxx;rw[hxx] at q0 q1 q2 wH;obtain⟨o,ho⟩: ∃o,eu g x=o:=⟨_,rfl⟩
      have yD:Hid (eu g (tg L i)=o):=ae (by rw[hxx,ho]);rw[ho] at wH;obtain⟨b0,b1⟩:=aP nZ.out;have sD:=uR wr;have Nl:=fun x:XW wr=>x.ext.cell q0 (fun h=>h);have Np:=fun x:XW wr=>x.ext.cell q1 (fun h=>h);have Nq:=fun x:XW wr=>x.ext.cell q2 (fun h=>h);have Vs:=fun x:XW wr=>x.ext.cell b0 (fun h=>h);have KC:=fun x:XW wr=>x.ext.cell b1 (fun h=>h);have xt2:=fun x:XW wr=>x.ext.cell t2 (fun h=>h);clear q0 q1 q2 b0 b1 NG hx hxx ho
      go_wp2_with fail
      refine aW wr (by assumption) (by kernel_rfl) (by kernel_rfl) ?_
      repeat (first|go_big_quiet_skip|(go_big_quiet_want;go_big_quiet_op;first|go_big_quiet_on|(apply Exists.intro;refine⟨fun x=>?_,?_⟩;(go_at_call 186;exact XW.call (wH.out x.val x.ext));go_big_quiet_on)))
      refine wpQuiet_nil ?_;rintro w8 ⟨⟨_,dD⟩,rfl⟩
      try dsimp only
      have H8:=ae (HE.out.trans dD);have Yn:=ae (dD.heap nZ.out (fun h=>h));clear wH Nl Np Nq Vs KC xt2 sD nZ Hr t2;by_cases ho0:o.size=0
      .have hoe:=eU _ ho0;subst hoe;have fV:Hid (∀j,j<i+1->eu g (tg L j)=ah\/eu g (tg L j)=(dg g.2 k).2.1.getD j ah):=ae (fun j hj=>by
        rcases Nat.lt_succ_iff_lt_or_eq.1 hj with h5|h5
        .exact HM.out j h5
        .rw [h5];exact .inl yD.out)
       clear ho0
       go_wp2_with fail
       all_goals
        go_roundg (L.length- (i+1))
        case measure=>omega
        case rel=>exact⟨i+1,by go_num,rfl,by omega,fV,H8⟩
      .obtain ⟨e1,e2,e3,e4⟩:=dJ o (Nat.pos_of_ne_zero ho0);obtain⟨_,_,hga,_,hat⟩:=(HD.out.ext (QJ.out.trans H8.out)).at_ (by omega);injection hga with hga
       injection hga with NF qJ
       subst NF;subst qJ;obtain⟨ya,yc,r0,r1,r2,hy⟩:=hat k hd;have hy1:=hy;rw[<-ND.out] at r1;obtain⟨g2,o2,qJ,_,oO⟩:=az.uZ (d:=ah) hy1 (by rw[<-ND.out];omega);subst qJ;have p0:=oO i (by rw[<-ND.out];exact hlt);have b1:=af Yn.out 1 (.slice (some ⟨gg,off,none⟩) g.2.length oc) rfl;obtain⟨y,hyy⟩: ∃y,(dg g.2 k).2.1.getD i ah=y:=⟨_,rfl⟩
       have HYY:=ae hyy;rw[hyy] at p0;clear hat r0 r2 hy hy1 oO hyy;by_cases hoy:o=y
       .subst hoy;have u1:(o.toList==o.toList)=true:=by simp
        have u2:(o.toList !=o.toList)=false:=by simp
        have fV:Hid (∀j,j<i+1->eu g (tg L j)=ah\/eu g (tg L j)=(dg g.2 k).2.1.getD j ah):=ae (fun j hj=>by
         rcases Nat.lt_succ_iff_lt_or_eq.1 hj with h5|h5
         .exact HM.out j h5
         .rw [h5];exact .inr (by rw[yD.out,HYY.out]))
        go_wp2_with fail
        all_goals
         go_roundg (L.length- (i+1))
         case measure=>omega
         case rel=>exact⟨i+1,by go_num,rfl,by omega,fV,H8⟩
       .have u1:=xy hoy;have HV:Hid (V=11):=ae (by
         have hb:lV g L (dg g.2 k).2.1=true:=by
          unfold lV;refine List.any_eq_true.2 ⟨i,List.mem_range.2 hlt,?_⟩;rw[yD.out,HYY.out,dF (fun e=>ho0 (by rw[e];rfl)),dF hoy];rfl
         rw[uk.out,if_pos hb])
        have H9:=ae (QJ.out.trans H8.out);clear hoy
        go_wp2_with fail
        all_goals go_ret
        all_goals (rw[HV.out];exact⟨rfl,H9.out⟩)
     .obtain rfl:i=L.length:=by omega
      have z2:decide ((L.length:Int)< (L.length:Int))=false:=dF (by omega);have gY:Hid (V=gJ g L):=ae (by
       rw[uk.out,if_neg];unfold lV;intro h;obtain⟨j,hj,h⟩:=List.any_eq_true.1 h;have hj:=List.mem_range.1 hj;rcases HM.out j hj with h2|h2
       .rw [h2] at h;simp at h
       .rw [h2] at h;simp at h)
      have H5:=ae (QJ.out.trans HE.out)
      go_wp2_with fail
      clear z2 t2 jm vV HM;obtain⟨wb,hwb⟩: ∃wb,wb=wr:=⟨_,rfl⟩
      have HR1:Hid (Ext wb wr):=ae (by rw[hwb];exact aj.refl _ _);rw[<-hwb] at H5 nZ Hr;clear hwb HE
      go_loopg [8] L.length (fun gk iv wr=> ∃i:Nat,iv= .int .i64 (i:Int)/\gk=L.length-i/\i<=L.length/\Hid (∀j,j<i->b_ g (tg L j)=0)/\Hid (Ext wb wr))
      case atStart=>exact⟨0,rfl,rfl,Nat.zero_le _,ae (fun j h=>absurd h (Nat.not_lt_zero _)),HR1⟩
      case round=>
       clear HR1;obtain⟨i,rfl,rfl,hi,HM,HE⟩:=hrel;have ad4:=ae (HE.out.heap nZ.out (fun h=>h));have ad5:=ae (HE.out.heap Hr.out (fun h=>h));have t2:=af ad5.out 2 (.slice a L.length cap) rfl;by_cases hlt:i<L.length
       .obtain ⟨g1,o1,NF,_,NG⟩:=(cO.out.ext (H5.out.trans HE.out)).at_ (by omega);subst NF;obtain⟨xa,xc,q0,q1,q2,hx⟩:=NG i hlt;rw[<-Nat.add_assoc] at q1 q2;obtain⟨z0,z1,z2,z2'⟩:=bz hlt;have hmem:=ed L i hlt;have wH:=ae (fun W (hW:Ext wr W)=>HIH.out (tg L i) hmem _ _ S T W (HG.out.ext ((H5.out.trans HE.out).trans hW)) ⟨xa,xc,rfl,hx.ext hW⟩ hgl hsl (by have:=oM.out _ hmem;omega));dsimp only[tV] at wH;have HN:Hid (b_ g (tg L i)=0->∀j,j<i+1->b_ g (tg L j)=0):=ae (fun h j hj=>by
         rcases Nat.lt_succ_iff_lt_or_eq.1 hj with h5|h5
         .exact HM.out j h5
         .rw [h5];exact h)
        have HY:Hid (b_ g (tg L i)≠0->V=b_ g (tg L i)):=ae (fun h=>by rw[gY.out];exact EZ g L i hlt HM.out h);obtain⟨x,hxx⟩: ∃x,tg L i=x:=⟨_,rfl⟩
        rw[hxx] at q0 q1 q2 wH HN HY;obtain⟨o,ho⟩: ∃o,b_ g x=o:=⟨_,rfl⟩
        rw[ho] at wH HN HY;obtain⟨b0,b1⟩:=aP ad4.out;have sD:=uR wr;have Nl:=fun x:XW wr=>x.ext.cell q0 (fun h=>h);have Np:=fun x:XW wr=>x.ext.cell q1 (fun h=>h);have Nq:=fun x:XW wr=>x.ext.cell q2 (fun h=>h);have Vs:=fun x:XW wr=>x.ext.cell b0 (fun h=>h);have KC:=fun x:XW wr=>x.ext.cell b1 (fun h=>h);have xt2:=fun x:XW wr=>x.ext.cell t2 (fun h=>h);clear q0 q1 q2 b0 b1 NG hx hxx ho hmem HM ad4 ad5
        go_wp2_with fail
        refine aW wr (by assumption) (by kernel_rfl) (by kernel_rfl) ?_
        repeat (first|go_big_quiet_skip|(go_big_quiet_want;go_big_quiet_op;first|go_big_quiet_on|(apply Exists.intro;refine⟨fun x=>?_,?_⟩;(go_at_call 185;exact XW.call (wH.out x.val x.ext));go_big_quiet_on)))
        refine wpQuiet_nil ?_;rintro w8 ⟨⟨_,dD⟩,rfl⟩
        try dsimp only
        have H8:=ae (HE.out.trans dD);have H9:=ae (H5.out.trans H8.out);clear wH Nl Np Nq Vs KC xt2 sD t2;by_cases ho0:o=0
        .subst ho0;have fV:=ae (HN.out (by simp));clear HN HY
         go_wp2_with fail
         go_roundg (L.length- (i+1))
         case measure=>omega
         case rel=>exact⟨i+1,by go_num,rfl,by omega,fV,H8⟩
        .have HV:=ae (HY.out ho0);have e0:(o==0)=false:=beq_eq_false_iff_ne.2 ho0;have e1:(o !=0)=true:=by simp[ho0]
         clear HN HY
         go_wp2_with fail
         all_goals go_ret
         all_goals (rw[HV.out];exact⟨rfl,H9.out⟩)
       .obtain rfl:i=L.length:=by omega
        have z2:decide ((L.length:Int)< (L.length:Int))=false:=dF (by omega);have HV:Hid (V=0):=ae (by
         rw[gY.out,CY];exact Vt HM.out)
        have H9:=ae (H5.out.trans HE.out)
        go_wp2_with fail
        all_goals go_ret
        all_goals (rw[HV.out];exact⟨rfl,H9.out⟩)
   .have HV:Hid (V=3):=ae (by rw[vk.out,if_pos hle]);obtain⟨n2,hn2⟩: ∃n2,(dg g.2 k).2.1.length=n2:=⟨_,rfl⟩
    rw[hn2] at q1 hle;have y1:((L.length:Int)==(n2:Int))=false:=beq_eq_false_iff_ne.2 (by omega);have y2: ¬(L.length:Int)=(n2:Int):=by omega
    clear hn2
    go_wp2_with fail
    go_quiet (fail)
    go_wp2_with fail
    all_goals go_ret
    all_goals (rw[HV.out];exact⟨rfl,H4.out.drewN' _⟩)
  .have hdi:kL g.2 nm= -1:=by unfold kL;rw[if_neg hd]
   have HV:Hid (V=9):=ae (by rw[dY.out,if_pos hd]);rw[hdi] at bI;clear hdi dY hd
   go_enter Tryz.func185,Tryz.ntmps185
   go_wp2_with fail
   refine(bI.out _ HZ.out).mono ?_;rintro e w4 ⟨rfl,hw4⟩;have H4:=ae (HZ.out.trans hw4);clear hw4 c0 c1 t0 t1 t2 bI
   go_wp2_with fail
   all_goals go_ret
   all_goals (rw[HV.out];exact⟨rfl,H4.out⟩)
 .obtain ⟨e1,e2,e3,e4⟩:=dJ so (Nat.pos_of_ne_zero hs0);have dY:Hid (V=if so∈g.1 then 0 else 9):=ae (by
   rw[HU.out,if_pos (fun e=>hs0 (by rw[e];rfl))])
  have n_:=Jk g.1 so;clear HU;by_cases hm:so∈g.1
  .have HV:Hid (V=0):=ae (by rw[dY.out,if_pos hm]);rw[dT hm] at n_;have hn:=of_decide_eq_false n_;generalize qZ g.1 so=X at*;clear hm n_ dY
   go_enter Tryz.func185,Tryz.ntmps185
   go_wp2_with fail
   refine(ve.out _ HZ.out).mono ?_;rintro e w4 ⟨rfl,hw4⟩;have H4:=ae (HZ.out.trans hw4);clear hw4 c0 c1 t0 t1 t2
   go_wp2_with fail
   all_goals go_ret
   all_goals (rw[HV.out];exact⟨rfl,H4.out⟩)
  .have HV:Hid (V=9):=ae (by rw[dY.out,if_neg hm]);rw[dF hm] at n_;have hn:=of_decide_eq_true n_;generalize qZ g.1 so=X at*;clear hm n_ dY
   go_enter Tryz.func185,Tryz.ntmps185
   go_wp2_with fail
   refine(ve.out _ HZ.out).mono ?_;rintro e w4 ⟨rfl,hw4⟩;have H4:=ae (HZ.out.trans hw4);clear hw4 c0 c1 t0 t1 t2
   go_wp2_with fail
   all_goals go_ret
   all_goals (rw[HV.out];exact⟨rfl,H4.out⟩)
theorem KD {g:Sg} {k:Nat} (hk:k<g.1.length) (h:ax (g.1.getD k ah)=false\/g.1.getD k ah∈g.1.take k):h_ ax g=false:=by
 unfold h_;rw[Tz hk h];simp
theorem Vu {g:Sg} {k:Nat} (hk:k<g.2.length) (h:okD ax g k=false):h_ ax g=false:=by
 have h1:(List.range g.2.length).all (okD ax g)=false:=by
  rw[Bool.eq_false_iff];intro h2;rw[List.all_eq_true.1 h2 k (List.mem_range.2 hk)] at h;cases h
 unfold h_;rw[h1];simp
theorem QK {g:Sg} (h1:g.1.length<=40) (h2:g.2.length<=100) (h3: ∀j,j<g.1.length->ax (g.1.getD j ah)=true/\g.1.getD j ah∉g.1.take j) (h4: ∀j,j<g.2.length->okD ax g j=true):h_ ax g=true:=by
 unfold h_;have h5:ED ax g.1=true:=by
  unfold ED;rw[dT (by omega),Bool.true_and,List.all_eq_true];intro i hi;have h6:=h3 i (List.mem_range.1 hi);rw[h6.1,dF h6.2];rfl
 rw[dT h1,dT h2,h5,List.all_eq_true.2 (fun i hi=>h4 i (List.mem_range.1 hi))];rfl
theorem Vw (g:Sg) (v:Value) (S:Nat->Prop) (w:World) (hG:u_ S w g v) (hl1:g.1.length<=1000000) (hl2:g.2.length<=1000000):Calls Tryz.prog 124 #[v] w fun e w'=>e= .returned (.bool (h_ ax g))/\Ext w w':=by
 have HG:=ae hG;have zF:=ae (fun s W (hW:Ext w W)=>Jp g s v S W (hG.ext hW) hl2);obtain⟨sa,sc,oa,oc,rfl,hS1,hD⟩:=hG;have mG:=ae hS1;have HD:=ae hD;have HZ:=ae ((uR w).alloc (.cells #[.slice sa g.1.length sc,.slice oa g.2.length oc] 74));have HB:=ae (ai w (.cells #[.slice sa g.1.length sc,.slice oa g.2.length oc] 74));obtain⟨c0,c1⟩:=aP HB.out;have hsc:g.1.length<=sc:=az.CZ hS1 rfl;obtain⟨V,hV⟩: ∃V,h_ ax g=V:=⟨_,rfl⟩
 have HVV:=ae hV.symm;rw[hV];clear hS1 hD hV;by_cases hb1:40<g.1.length
 .have HV:Hid (V=false):=ae (by rw[HVV.out];unfold h_;rw[dF (by omega)];rfl);have z1:(40:Int)< (g.1.length:Int):=by omega
  have z1':decide ((40:Int)< (g.1.length:Int))=true:=dT z1
  go_enter Tryz.func124,Tryz.ntmps124
  go_wp2_with fail
  all_goals go_ret
  all_goals (rw[HV.out];exact⟨rfl,HZ.out⟩)
 have z1: ¬(40:Int)< (g.1.length:Int):=by omega
 have z1':decide ((40:Int)< (g.1.length:Int))=false:=dF z1;by_cases hb2:100<g.2.length
 .have HV:Hid (V=false):=ae (by rw[HVV.out];unfold h_;rw[dF (p:=g.2.length<=100) (by omega)];simp);have z2:(100:Int)< (g.2.length:Int):=by omega
  have z2':decide ((100:Int)< (g.2.length:Int))=true:=dT z2
  go_enter Tryz.func124,Tryz.ntmps124
  go_wp2_with fail
  all_goals go_ret
  all_goals (rw[HV.out];exact⟨rfl,HZ.out⟩)
 have z2: ¬(100:Int)< (g.2.length:Int):=by omega
 have z2':decide ((100:Int)< (g.2.length:Int))=false:=dF z2
 go_enter Tryz.func124,Tryz.ntmps124
 go_wp2_with fail
 clear z1 z1' z2 z2' c0 c1;generalize w.alloc (.cells #[.slice sa g.1.length sc,.slice oa g.2.length oc] 74)=w1 at*
 go_loopg [3] g.1.length (fun gk iv wr=> ∃k:Nat,iv= .int .i64 (k:Int)/\gk=g.1.length-k/\k<=g.1.length/\Hid (∀j,j<k->ax (g.1.getD j ah)=true/\g.1.getD j ah∉g.1.take j)/\Hid (Ext w1 wr))
 case atStart=>exact⟨0,rfl,rfl,Nat.zero_le _,ae (fun j h=>absurd h (Nat.not_lt_zero _)),ae (aj.refl _ _)⟩
 case round=>
  obtain⟨k,rfl,rfl,hk,HC,HE⟩:=hrel;have lQ:=ae (HE.out.heap HB.out (fun h=>h));obtain⟨c0,c1⟩:=aP lQ.out;by_cases hlt:k<g.1.length
  .have HRk:=ae ((lD.ext mG.out (HZ.out.trans HE.out)).to (k:=k) (by omega));have hcap:k<=sc:=Nat.le_trans hk hsc;obtain⟨gg,off,hga,_,hat⟩:=lD.at_ (lD.ext mG.out (HZ.out.trans HE.out)) (by omega);subst hga;have q0:=hat k hlt;obtain⟨z0,z1,z2,z2'⟩:=bz hlt;have z3:(k:Int)<=(g.1.length:Int):=by omega
   clear hat;obtain⟨x,hx⟩: ∃x,bg g.1 k=x:=⟨_,rfl⟩
   have HX:=ae hx;rw[hx] at q0;clear hx;have um:=ae (fun W (hW:Ext wr W)=>yz x W);have Yo:=ae (fun W (hW:Ext wr W)=>EC (g.1.take k) x _ S W (lD.ext HRk.out hW) (by rw[List.length_take];omega));have xJ:=ae (adJ (g.1.take k) x);have q0':=fun X:XW wr=>X.ext.cell q0 (fun h=>h);have c0':=fun X:XW wr=>X.ext.cell c0 (fun h=>h);have sD:=uR wr;have HST:Hid (ax x=false\/x∈g.1.take k->V=false):=ae (fun h=>by rw[HVV.out];exact KD hlt (by rw[show g.1.getD k ah=x from HX.out];exact h));have zN:Hid (ax x=true->x∉g.1.take k->∀j,j<k+1->ax (g.1.getD j ah)=true/\g.1.getD j ah∉g.1.take j):=ae (fun h1 h2 j hj=>by
    rcases Nat.lt_succ_iff_lt_or_eq.1 hj with h5|h5
    .exact HC.out j h5
    .rw [h5,show g.1.getD k ah=x from HX.out];exact⟨h1,h2⟩)
   obtain⟨b1,hb1⟩: ∃b,ax x=b:=⟨_,rfl⟩
   rw[hb1] at um HST zN;obtain⟨b2,hb2⟩: ∃b,decide (x∈g.1.take k)=b:=⟨_,rfl⟩
   rw[hb2] at xJ;have HB2:=ae hb2;clear hb1 hb2;cases b1
   .go_wp2_with fail
    clear q0;refine aW wr (by assumption) (by kernel_rfl) (by kernel_rfl) ?_
    repeat (first|go_big_quiet_skip|(go_big_quiet_want;go_big_quiet_op;first|go_big_quiet_on|(apply Exists.intro;refine⟨fun x=>?_,?_⟩;(first|(go_at_call 92;exact XW.call (um.out x.val x.ext))|(go_at_call 183;exact XW.call (Yo.out x.val x.ext)));go_big_quiet_on)))
    refine wpQuiet_nil ?_;rintro w8 ⟨⟨_,dD⟩,rfl⟩
    try dsimp only
    have HV:=ae (HST.out (.inl (by simp)));have bV:=ae (HZ.out.trans (HE.out.trans dD));clear c0 c1
    go_wp2_with fail
    all_goals go_ret
    all_goals (rw[HV.out];exact⟨rfl,bV.out⟩)
   .cases b2
    .go_wp2_with fail
     clear q0;refine aW wr (by assumption) (by kernel_rfl) (by kernel_rfl) ?_
     repeat (first|go_big_quiet_skip|(go_big_quiet_want;go_big_quiet_op;first|go_big_quiet_on|(apply Exists.intro;refine⟨fun x=>?_,?_⟩;(first|(go_at_call 92;exact XW.call (um.out x.val x.ext))|(go_at_call 183;exact XW.call (Yo.out x.val x.ext)));go_big_quiet_on)))
     refine wpQuiet_nil ?_;rintro w8 ⟨⟨_,dD⟩,rfl⟩
     try dsimp only
     have HN:=ae (zN.out (by simp) (of_decide_eq_false HB2.out));have bV:=ae (HE.out.trans dD);have h9:=of_decide_eq_false xJ.out;have h9':=xJ.out;clear c0 c1
     go_wp2_with fail
     go_roundg (g.1.length- (k+1))
     case measure=>omega
     case rel=>exact⟨k+1,by go_num,rfl,by omega,HN,bV⟩
    .go_wp2_with fail
     clear q0;refine aW wr (by assumption) (by kernel_rfl) (by kernel_rfl) ?_
     repeat (first|go_big_quiet_skip|(go_big_quiet_want;go_big_quiet_op;first|go_big_quiet_on|(apply Exists.intro;refine⟨fun x=>?_,?_⟩;(first|(go_at_call 92;exact XW.call (um.out x.val x.ext))|(go_at_call 183;exact XW.call (Yo.out x.val x.ext)));go_big_quiet_on)))
     refine wpQuiet_nil ?_;rintro w8 ⟨⟨_,dD⟩,rfl⟩
     try dsimp only
     have HV:=ae (HST.out (.inr (of_decide_eq_true HB2.out)));have bV:=ae (HZ.out.trans (HE.out.trans dD));have h9:=of_decide_eq_true xJ.out;have h9':=xJ.out;clear c0 c1
     go_wp2_with fail
     all_goals go_ret
     all_goals (rw[HV.out];exact⟨rfl,bV.out⟩)
  .obtain rfl:k=g.1.length:=by omega
   have z2:decide ((g.1.length:Int)< (g.1.length:Int))=false:=dF (by omega);have yw:=HC;have H1:=ae (HZ.out.trans HE.out);clear HC HE HB
   go_wp2_with fail
   clear z2 c0 c1;obtain⟨wa,lJ⟩: ∃wa,wa=wr:=⟨_,rfl⟩
   have HR0:Hid (Ext wa wr):=ae (by rw[lJ];exact aj.refl _ _);rw[<-lJ] at H1 lQ;clear lJ
   go_loopg [4] g.2.length (fun gk iv wr=> ∃k:Nat,iv= .int .i64 (k:Int)/\gk=g.2.length-k/\k<=g.2.length/\Hid (∀j,j<k->okD ax g j=true)/\Hid (Ext wa wr))
   case atStart=>exact⟨0,rfl,rfl,Nat.zero_le _,ae (fun j h=>absurd h (Nat.not_lt_zero _)),HR0⟩
   case round=>
    clear HR0;obtain⟨k,rfl,rfl,hk,HC,HE⟩:=hrel;have HB2:=ae (HE.out.heap lQ.out (fun h=>h));obtain⟨c0,c1⟩:=aP HB2.out;by_cases hlt:k<g.2.length
    .obtain ⟨gg,off,hga,_,hat⟩:=(HD.out.ext (H1.out.trans HE.out)).at_ (by omega);subst hga;obtain⟨xa,xc,q0,q1,q2,hAr⟩:=hat k hlt;obtain⟨z0,z1,z2,z2'⟩:=bz hlt;have fK:Hid (okD ax g k=(ax (dg g.2 k).1&&(decide (bD g.2 (dg g.2 k).1=k)&&(decide ((dg g.2 k).2.1.length<=6)&&(decide ((dg g.2 k).2.2∈g.1)&&(dg g.2 k).2.1.all fun s=>decide (s∈g.1)))))):=ae rfl;have qK:Hid (okD ax g k=true->∀j,j<k+1->okD ax g j=true):=ae (fun h j hj=>by
      rcases Nat.lt_succ_iff_lt_or_eq.1 hj with h5|h5
      .exact HC.out j h5
      .rw [h5];exact h)
     have vW:Hid (okD ax g k=false->V=false):=ae (fun h=>by rw[HVV.out];exact Vu hlt h);obtain⟨⟨dn,da,dr⟩,hdd⟩: ∃d,dg g.2 k=d:=⟨_,rfl⟩
     rw[hdd] at q0 q1 q2 fK hAr;dsimp only at q0 q1 q2 fK hAr;have Vx:=ae hAr;have hQ:=(uR wr).alloc (.cells #[.string dn,.slice xa da.length xc,.string dr] 77);have HQ:=ae (H1.out.trans (HE.out.trans hQ));have HAQ:=ae (az.kept hAr hQ (fun _ _ h=>h));have dR:=ae (HE.out.trans hQ);have jk:=ae (ai wr (.cells #[.string dn,.slice xa da.length xc,.string dr] 77));have nZ:=ae (hQ.heap HB2.out (fun h=>h));clear hat hdd hAr hQ HC;obtain⟨d0,d1,d2⟩:=ag jk.out;obtain⟨e0,e1⟩:=aP nZ.out;have um:=ae (yz dn (wr.alloc (.cells #[.string dn,.slice xa da.length xc,.string dr] 77)));obtain⟨b1,hb1⟩: ∃b,ax dn=b:=⟨_,rfl⟩
     rw[hb1] at um fK;clear hb1
     go_wp2_with fail
     clear c0 c1 q0 q1 q2;generalize wr.alloc (.cells #[.string dn,.slice xa da.length xc,.string dr] 77)=w4 at*;obtain⟨nd,hnd⟩: ∃nd,wr.heap.size=nd:=⟨_,rfl⟩
     try rw[hnd] at jk d0 d1 d2
     try rw[hnd]
     clear hnd;refine um.out.mono ?_;rintro e w5 ⟨rfl,hw5⟩;have H5:=ae (HQ.out.trans hw5);have fP:=ae hw5;have Jq:=ae (hw5.heap jk.out (fun h=>h));have yV:=ae (hw5.heap nZ.out (fun h=>h));clear hw5 d0 d1 d2 e0 e1;obtain⟨d0,d1,d2⟩:=ag Jq.out;obtain⟨e0,e1⟩:=aP yV.out;cases b1
     .have HV:=ae (vW.out (by rw[fK.out];rfl))
      go_wp2_with fail
      all_goals go_ret
      all_goals (rw[HV.out];exact⟨rfl,H5.out⟩)
     have bI:=ae (zF.out dn w5 H5.out);by_cases C9:bD g.2 dn=k
     case neg=>
      have HV:=ae (vW.out (by rw[fK.out,dF C9];simp));have hne:kL g.2 dn≠(k:Int):=by
       unfold kL;split
       .omega
       .omega
      generalize kL g.2 dn=X at*;have y1:(X==(k:Int))=false:=beq_eq_false_iff_ne.2 hne;have y2:(X !=(k:Int))=true:=by simp[hne]
      go_wp2_with fail
      refine bI.out.mono ?_;rintro e w6 ⟨rfl,hw6⟩;have H6:=ae (H5.out.trans hw6);clear hw6 d0 d1 d2 e0 e1
      go_wp2_with fail
      all_goals go_ret
      all_goals (rw[HV.out];exact⟨rfl,H6.out⟩)
     have hdi:kL g.2 dn=(k:Int):=by
      unfold kL;rw[C9,if_pos hlt]
     rw[hdi] at bI;have C_:Hid (okD ax g k=(decide (da.length<=6)&&(decide (dr∈g.1)&&da.all fun s=>decide (s∈g.1)))):=ae (by rw[fK.out,dT C9];simp);clear hdi C9 fK;have y1:((k:Int)==(k:Int))=true:=by simp
     go_wp2_with fail
     refine bI.out.mono ?_;rintro e w6 ⟨rfl,hw6⟩;have H6:=ae (H5.out.trans hw6);have zQ:=ae hw6;have Jr:=ae (hw6.heap Jq.out (fun h=>h));have Df:=ae (hw6.heap yV.out (fun h=>h));clear hw6 d0 d1 d2 e0 e1;obtain⟨d0,d1,d2⟩:=ag Jr.out;obtain⟨e0,e1⟩:=aP Df.out;clear bI y1;by_cases hd6:6<da.length
     .have HV:=ae (vW.out (by rw[C_.out,dF (by omega)];rfl));have y3:(6:Int)< (da.length:Int):=by omega
      have Vy:decide ((6:Int)< (da.length:Int))=true:=dT y3;clear hd6
      go_wp2_with fail
      all_goals go_ret
      all_goals (rw[HV.out];exact⟨rfl,H6.out⟩)
     have y3: ¬(6:Int)< (da.length:Int):=by omega
     have Vy:decide ((6:Int)< (da.length:Int))=false:=dF y3;have ve:=ae (EC g.1 dr _ S w6 (az.kept mG.out H6.out (fun _ _ h=>h)) (by omega));have n_:=Jk g.1 dr;by_cases hm:dr∈g.1
     case neg=>
      have HV:=ae (vW.out (by rw[C_.out,dF hm];simp));rw[dF hm] at n_;have hn:=of_decide_eq_true n_;have hn':decide (qZ g.1 dr< (0:Int))=true:=n_;generalize qZ g.1 dr=X at*;clear hm n_
      go_wp2_with fail
      refine ve.out.mono ?_;rintro e w7 ⟨rfl,hw7⟩;have H7:=ae (H6.out.trans hw7);clear hw7 d0 d1 d2 e0 e1
      go_wp2_with fail
      all_goals go_ret
      all_goals (rw[HV.out];exact⟨rfl,H7.out⟩)
     have F7:Hid (okD ax g k=da.all fun s=>decide (s∈g.1)):=ae (by rw[C_.out,dT hm,dT (p:=da.length<=6) (by omega)];simp);rw[dT hm] at n_;have hn:=of_decide_eq_false n_;have hn':decide (qZ g.1 dr< (0:Int))=false:=n_;generalize qZ g.1 dr=X at*;clear hm n_ C_
     go_wp2_with fail
     refine ve.out.mono ?_;rintro e w7 ⟨rfl,hw7⟩;have H7:=ae (H6.out.trans hw7);have xK:=ae hw7;have Js:=ae (hw7.heap Jr.out (fun h=>h));have Jt:=ae (hw7.heap Df.out (fun h=>h));clear hw7 d0 d1 d2 e0 e1;obtain⟨d0,d1,d2⟩:=ag Js.out;obtain⟨e0,e1⟩:=aP Jt.out;clear ve y3 Vy;have kG:Hid (Ext wa w7):=ae (dR.out.trans (fP.out.trans (zQ.out.trans xK.out)));have HA7:=ae (az.kept HAQ.out (fP.out.trans (zQ.out.trans xK.out)) (fun _ _ h=>h));clear fP zQ xK dR HAQ Vx
     go_wp2_with fail
     clear d0 d1 d2 e0 e1 hn hn';obtain⟨wb,hwb⟩: ∃wb,wb=w7:=⟨_,rfl⟩
     have HR1:Hid (Ext wb w7):=ae (by rw[hwb];exact aj.refl _ _);rw[<-hwb] at H7 Js Jt kG HA7;clear hwb
     go_loopg [6] da.length (fun gk iv wr=> ∃i:Nat,iv= .int .i64 (i:Int)/\gk=da.length-i/\i<=da.length/\Hid (∀j,j<i->da.getD j ah∈g.1)/\Hid (Ext wb wr))
     case atStart=>exact⟨0,rfl,rfl,Nat.zero_le _,ae (fun j h=>absurd h (Nat.not_lt_zero _)),HR1⟩
     case round=>
      clear HR1;obtain⟨i,rfl,rfl,hi,HM,HE2⟩:=hrel;have al0:=ae (HE2.out.heap Js.out (fun h=>h));have Yn:=ae (HE2.out.heap Jt.out (fun h=>h));have d1:=af al0.out 1 (.slice xa da.length xc) rfl;by_cases F8:i<da.length
      .obtain ⟨g2,o2,qJ,_,oO⟩:=az.uZ (d:=ah) (az.kept HA7.out HE2.out (fun _ _ h=>h)) (by omega);subst qJ;have p0:=oO i F8;obtain⟨z0,z1,z2,z2'⟩:=bz F8;obtain⟨x,hx⟩: ∃x,da.getD i ah=x:=⟨_,rfl⟩
       have HX:=ae hx;rw[hx] at p0;have e0:=af Yn.out 0 (.slice sa g.1.length sc) rfl;have ve:=ae (fun W (hW:Ext wr W)=>EC g.1 x _ S W (az.kept mG.out ((H7.out.trans HE2.out).trans hW) (fun _ _ h=>h)) (by omega));have n_:=Jk g.1 x;have sD:=uR wr;have EX:=fun x:XW wr=>x.ext.cell p0 (fun h=>h);have xe0:=fun x:XW wr=>x.ext.cell e0 (fun h=>h);have xd1:=fun x:XW wr=>x.ext.cell d1 (fun h=>h);clear oO hx p0 e0;by_cases hm:x∈g.1
       .rw [dT hm] at n_;have hn:=of_decide_eq_false n_;have hn':decide (qZ g.1 x< (0:Int))=false:=n_;have HN:Hid (∀j,j<i+1->da.getD j ah∈g.1):=ae (fun j hj=>by
         rcases Nat.lt_succ_iff_lt_or_eq.1 hj with h5|h5
         .exact HM.out j h5
         .rw [h5,HX.out];exact hm)
        generalize qZ g.1 x=X at*;clear hm n_
        go_wp2_with fail
        refine aW wr (by assumption) (by kernel_rfl) (by kernel_rfl) ?_
        repeat (first|go_big_quiet_skip|(go_big_quiet_want;go_big_quiet_op;first|go_big_quiet_on|(apply Exists.intro;refine⟨fun x=>?_,?_⟩;(go_at_call 183;exact XW.call (ve.out x.val x.ext));go_big_quiet_on)))
        refine wpQuiet_nil ?_;rintro w8 ⟨⟨_,dD⟩,rfl⟩
        try dsimp only
        have bV:=ae (HE2.out.trans dD);clear d1 EX xe0 xd1 ve sD
        go_wp2_with fail
        go_roundg (da.length- (i+1))
        case measure=>omega
        case rel=>exact⟨i+1,by go_num,rfl,by omega,HN,bV⟩
       .rw [dF hm] at n_;have hn:=of_decide_eq_true n_;have hn':decide (qZ g.1 x< (0:Int))=true:=n_;have HV:=ae (vW.out (by
         rw[F7.out,Bool.eq_false_iff];intro h;refine hm (of_decide_eq_true (List.all_eq_true.1 h x ?_));rw[<-HX.out,List.getD_eq_getElem?_getD,List.getElem?_eq_getElem F8];exact List.getElem_mem F8))
        generalize qZ g.1 x=X at*;clear hm n_
        go_wp2_with fail
        refine aW wr (by assumption) (by kernel_rfl) (by kernel_rfl) ?_
        repeat (first|go_big_quiet_skip|(go_big_quiet_want;go_big_quiet_op;first|go_big_quiet_on|(apply Exists.intro;refine⟨fun x=>?_,?_⟩;(go_at_call 183;exact XW.call (ve.out x.val x.ext));go_big_quiet_on)))
        refine wpQuiet_nil ?_;rintro w8 ⟨⟨_,dD⟩,rfl⟩
        try dsimp only
        have bV:=ae ((H7.out.trans HE2.out).trans dD);clear d1 EX xe0 xd1 ve sD
        go_wp2_with fail
        all_goals go_ret
        all_goals (rw[HV.out];exact⟨rfl,bV.out⟩)
      .obtain rfl:i=da.length:=by omega
       have z2:decide ((da.length:Int)< (da.length:Int))=false:=dF (by omega);have HN:=ae (qK.out (by
        rw[F7.out,List.all_eq_true];intro s hs;obtain⟨j,hj,rfl⟩:=List.mem_iff_getElem.1 hs;have h1:=HM.out j hj;rw[List.getD_eq_getElem?_getD,List.getElem?_eq_getElem hj] at h1;exact dT h1))
       have bV:=ae (kG.out.trans HE2.out)
       go_wp2_with fail
       go_roundg (g.2.length- (k+1))
       case measure=>omega
       case rel=>exact⟨k+1,by go_num,rfl,by omega,HN,bV⟩
    .obtain rfl:k=g.2.length:=by omega
     have z2:decide ((g.2.length:Int)< (g.2.length:Int))=false:=dF (by omega);have HV:Hid (V=true):=ae (by rw[HVV.out];exact QK (by omega) (by omega) yw.out HC.out);have H9:=ae (H1.out.trans HE.out)
     go_wp2_with fail
     all_goals go_ret
     all_goals (rw[HV.out];exact⟨rfl,H9.out⟩)
def yt {α:Type} (p:α->Bool) (l:List α):Int:=if l.findIdx p<l.length then(l.findIdx p:Int) else -1
theorem Qh {α:Type} {p:α->Bool} {l:List α} {d:α} {k:Nat} (hk:k<l.length) (h1: ∀j,j<k->p (l.getD j d)=false) (h2:p (l.getD k d)=true):yt p l=(k:Int):=by
 have hg: ∀i (h:i<l.length),l.getD i d=l[i]:=fun i h=>by rw[List.getD_eq_getElem?_getD,List.getElem?_eq_getElem h];rfl
 have h3:l.findIdx p=k:=by
  rw[List.findIdx_eq hk];refine⟨by rw[<-hg k hk];exact h2,fun j hj=>?_⟩;rw[<-hg j (by omega)];exact h1 j hj
 unfold yt;rw[h3,if_pos hk]
theorem GY {α:Type} {p:α->Bool} {l:List α} {d:α} (h1: ∀j,j<l.length->p (l.getD j d)=false):yt p l= -1:=by
 unfold yt;rw[if_neg];intro h;have h2:=List.findIdx_getElem (w:=h);have h3:=h1 _ h;rw[List.getD_eq_getElem?_getD,List.getElem?_eq_getElem h] at h3;rw[show(some l[List.findIdx p l]).getD d=l[List.findIdx p l] from rfl,h2] at h3;cases h3
theorem S_ {α:Type} (p:α->Bool) (l:List α):decide (0<=yt p l)=l.any p:=by
 unfold yt;by_cases h:l.findIdx p<l.length
 .rw [if_pos h];have h2:=List.findIdx_getElem (w:=h);rw[List.any_eq_true.2 ⟨_,List.getElem_mem h,h2⟩];exact dT (by omega)
 .rw [if_neg h];have:l.any p=false:=by
   rw[List.any_eq_false];intro x hx hp;exact h (List.findIdx_lt_length_of_exists ⟨x,hx,hp⟩)
  rw[this];rfl
theorem aiG (l:List Dc) (s:By):kL l s=yt (fun d=>decide (d.1=s)) l:=rfl
theorem aak (p:By->Bool) (l:List By) (v:Value) (S:Nat->Prop) (q:Nat) (w:World) (hR:lD S w v l) (hl:l.length<=1000000)
  (hf: ∀s∈l,∀W,Ext w W->Calls Tryz.prog 180 #[.string s,.pointer (some ⟨q,0,none⟩)] W fun e W'=>e= .returned (.bool (p s))/\Ext W W'):
  Calls Tryz.prog 218 #[v,.func (.func 180) #[] #[.pointer (some ⟨q,0,none⟩)]] w fun e w'=>e= .returned (.int .i64 (yt p l))/\Ext w w':=by
 obtain⟨a,cap,rfl⟩:=az.shape hR;have HR:=ae hR;have HF:=ae hf;obtain⟨V,hV⟩: ∃V,yt p l=V:=⟨_,rfl⟩
 rw[hV];have HV:=ae hV;clear hR hf hV
 go_enter Tryz.func218,Tryz.ntmps218
 go_wp2_with fail
 go_loopg [8] l.length (fun gk iv wr=> ∃k:Nat,iv= .int .i64 (k:Int)/\gk=l.length-k/\k<=l.length/\Hid (Ext w wr)/\Hid (∀j,j<k->p (bg l j)=false))
 case atStart=>exact⟨0,rfl,rfl,Nat.zero_le _,ae (aj.refl _ _),ae (fun j h=>absurd h (Nat.not_lt_zero _))⟩
 case round=>
  obtain⟨k,rfl,rfl,hk,HE,HM⟩:=hrel;by_cases hlt:k<l.length
  .obtain ⟨g,off,hga,_,hat⟩:=lD.at_ (lD.ext HR.out HE.out) (by omega);subst hga;have q0:=hat k hlt;obtain⟨z0,z1,z2,z2'⟩:=bz hlt;have bI:=ae (HF.out (bg l k) (by rw[aay l k hlt];exact List.getElem_mem hlt) wr HE.out);have HN:Hid (p (bg l k)=false->∀j,j<k+1->p (bg l j)=false):=ae (fun h j hj=>by
    rcases Nat.lt_succ_iff_lt_or_eq.1 hj with h5|h5
    .exact HM.out j h5
    .rw [h5];exact h)
   have HY:Hid (p (bg l k)=true->V=(k:Int)):=ae (fun h=>by rw[<-HV.out];exact Qh hlt (fun j hj=>HM.out j hj) h);obtain⟨x,hx⟩: ∃x,bg l k=x:=⟨_,rfl⟩
   rw[hx] at q0 bI HN HY;obtain⟨b,hb⟩: ∃b,p x=b:=⟨_,rfl⟩
   rw[hb] at bI HN HY;clear hat hx hb HM
   go_wp2_with fail
   refine bI.out.mono ?_;rintro e w4 ⟨rfl,hw4⟩;have H4:=ae (HE.out.trans hw4);clear hw4 q0 bI HE;cases b
   .have fV:=ae (HN.out rfl);clear HN HY
    go_wp2_with fail
    go_roundg (l.length- (k+1))
    case measure=>omega
    case rel=>exact⟨k+1,by go_num,rfl,by omega,H4,fV⟩
   .have qh:=ae (HY.out rfl);clear HN HY
    go_wp2_with fail
    go_ret;rw[qh.out];exact⟨rfl,H4.out⟩
  .obtain rfl:k=l.length:=by omega
   have z2:decide ((l.length:Int)< (l.length:Int))=false:=dF (by omega);have qh:Hid (V= -1):=ae (by rw[<-HV.out];exact GY (fun j hj=>HM.out j hj))
   go_wp2_with fail
   go_ret;rw[qh.out];exact⟨rfl,HE.out⟩
theorem aal (p:By->Bool) (l:List By) (v:Value) (S:Nat->Prop) (q:Nat) (w:World) (hR:lD S w v l) (hl:l.length<=1000000)
  (hf: ∀s∈l,∀W,Ext w W->Calls Tryz.prog 180 #[.string s,.pointer (some ⟨q,0,none⟩)] W fun e W'=>e= .returned (.bool (p s))/\Ext W W'):
  Calls Tryz.prog 181 #[v,.func (.func 180) #[] #[.pointer (some ⟨q,0,none⟩)]] w fun e w'=>e= .returned (.bool (l.any p))/\Ext w w':=by
 have HI:=ae (aak p l v S q w hR hl hf);have HR:=ae (S_ p l);generalize yt p l=X at*;clear hR hf
 go_enter Tryz.func181,Tryz.ntmps181
 go_wp2_with fail
 refine HI.out.mono ?_;rintro e w4 ⟨rfl,hw4⟩;have H4:=ae hw4;clear hw4
 go_wp2_with fail
 go_ret;rw[<-HR.out];exact⟨rfl,H4.out⟩
theorem aam (p:Dc->Bool) (l:List Dc) (v:Value) (S:Nat->Prop) (q:Nat) (w:World) (hR:tY S w v l) (hl:l.length<=1000000)
  (hf: ∀x∈l,∀xa xc W,Ext w W->zB S W (.slice xa x.2.1.length xc) x.2.1->Calls Tryz.prog 182 #[.agg #[.string x.1,.slice xa x.2.1.length xc,.string x.2.2],.pointer (some ⟨q,0,none⟩)] W fun e W'=>e= .returned (.bool (p x))/\Ext W W'):
  Calls Tryz.prog 122 #[v,.func (.func 182) #[] #[.pointer (some ⟨q,0,none⟩)]] w fun e w'=>e= .returned (.int .i64 (yt p l))/\Ext w w':=by
 obtain⟨a,cap,rfl⟩:=hR.shape;have HR:=ae hR;have HF:=ae hf;obtain⟨V,hV⟩: ∃V,yt p l=V:=⟨_,rfl⟩
 rw[hV];have HV:=ae hV;clear hR hf hV
 go_enter Tryz.func122,Tryz.ntmps122
 go_wp2_with fail
 go_loopg [8] l.length (fun gk iv wr=> ∃k:Nat,iv= .int .i64 (k:Int)/\gk=l.length-k/\k<=l.length/\Hid (Ext w wr)/\Hid (∀j,j<k->p (dg l j)=false))
 case atStart=>exact⟨0,rfl,rfl,Nat.zero_le _,ae (aj.refl _ _),ae (fun j h=>absurd h (Nat.not_lt_zero _))⟩
 case round=>
  obtain⟨k,rfl,rfl,hk,HE,HM⟩:=hrel;by_cases hlt:k<l.length
  .obtain ⟨g,off,hga,_,hat⟩:=(HR.out.ext HE.out).at_ (by omega);subst hga;obtain⟨xa,xc,q0,q1,q2,hAr⟩:=hat k hlt;obtain⟨z0,z1,z2,z2'⟩:=bz hlt;have bI:=ae (HF.out (dg l k) (by rw[uX hlt];exact List.getElem_mem hlt) xa xc wr HE.out hAr);have HN:Hid (p (dg l k)=false->∀j,j<k+1->p (dg l j)=false):=ae (fun h j hj=>by
    rcases Nat.lt_succ_iff_lt_or_eq.1 hj with h5|h5
    .exact HM.out j h5
    .rw [h5];exact h)
   have HY:Hid (p (dg l k)=true->V=(k:Int)):=ae (fun h=>by rw[<-HV.out];exact Qh (d:=(ah,[],ah)) hlt (fun j hj=>HM.out j hj) h);obtain⟨x,hx⟩: ∃x,dg l k=x:=⟨_,rfl⟩
   rw[hx] at q0 q1 q2 bI HN HY;obtain⟨x1,x2,x3⟩:=x;dsimp only at q0 q1 q2 bI;obtain⟨b,hb⟩: ∃b,p (x1,x2,x3)=b:=⟨_,rfl⟩
   rw[hb] at bI HN HY;clear hat hx hb HM hAr
   go_wp2_with fail
   refine bI.out.mono ?_;rintro e w4 ⟨rfl,hw4⟩;have H4:=ae (HE.out.trans hw4);clear hw4 q0 q1 q2 bI HE;cases b
   .have fV:=ae (HN.out rfl);clear HN HY
    go_wp2_with fail
    go_roundg (l.length- (k+1))
    case measure=>omega
    case rel=>exact⟨k+1,by go_num,rfl,by omega,H4,fV⟩
   .have qh:=ae (HY.out rfl);clear HN HY
    go_wp2_with fail
    go_ret;rw[qh.out];exact⟨rfl,H4.out⟩
  .obtain rfl:k=l.length:=by omega
   have z2:decide ((l.length:Int)< (l.length:Int))=false:=dF (by omega);have qh:Hid (V= -1):=ae (by rw[<-HV.out];exact GY (d:=(ah,[],ah)) (fun j hj=>HM.out j hj))
   go_wp2_with fail
   go_ret;rw[qh.out];exact⟨rfl,HE.out⟩
theorem XY (p:Dc->Bool) (l:List Dc) (v:Value) (S:Nat->Prop) (q:Nat) (w:World) (hR:tY S w v l) (hl:l.length<=1000000)
  (hf: ∀x∈l,∀xa xc W,Ext w W->zB S W (.slice xa x.2.1.length xc) x.2.1->Calls Tryz.prog 219 #[.agg #[.string x.1,.slice xa x.2.1.length xc,.string x.2.2],.pointer (some ⟨q,0,none⟩)] W fun e W'=>e= .returned (.bool (p x))/\Ext W W'):
  Calls Tryz.prog 122 #[v,.func (.func 219) #[] #[.pointer (some ⟨q,0,none⟩)]] w fun e w'=>e= .returned (.int .i64 (yt p l))/\Ext w w':=by
 obtain⟨a,cap,rfl⟩:=hR.shape;have HR:=ae hR;have HF:=ae hf;obtain⟨V,hV⟩: ∃V,yt p l=V:=⟨_,rfl⟩
 rw[hV];have HV:=ae hV;clear hR hf hV
 go_enter Tryz.func122,Tryz.ntmps122
 go_wp2_with fail
 go_loopg [8] l.length (fun gk iv wr=> ∃k:Nat,iv= .int .i64 (k:Int)/\gk=l.length-k/\k<=l.length/\Hid (Ext w wr)/\Hid (∀j,j<k->p (dg l j)=false))
 case atStart=>exact⟨0,rfl,rfl,Nat.zero_le _,ae (aj.refl _ _),ae (fun j h=>absurd h (Nat.not_lt_zero _))⟩
 case round=>
  obtain⟨k,rfl,rfl,hk,HE,HM⟩:=hrel;by_cases hlt:k<l.length
  .obtain ⟨g,off,hga,_,hat⟩:=(HR.out.ext HE.out).at_ (by omega);subst hga;obtain⟨xa,xc,q0,q1,q2,hAr⟩:=hat k hlt;obtain⟨z0,z1,z2,z2'⟩:=bz hlt;have bI:=ae (HF.out (dg l k) (by rw[uX hlt];exact List.getElem_mem hlt) xa xc wr HE.out hAr);have HN:Hid (p (dg l k)=false->∀j,j<k+1->p (dg l j)=false):=ae (fun h j hj=>by
    rcases Nat.lt_succ_iff_lt_or_eq.1 hj with h5|h5
    .exact HM.out j h5
    .rw [h5];exact h)
   have HY:Hid (p (dg l k)=true->V=(k:Int)):=ae (fun h=>by rw[<-HV.out];exact Qh (d:=(ah,[],ah)) hlt (fun j hj=>HM.out j hj) h);obtain⟨x,hx⟩: ∃x,dg l k=x:=⟨_,rfl⟩
   rw[hx] at q0 q1 q2 bI HN HY;obtain⟨x1,x2,x3⟩:=x;dsimp only at q0 q1 q2 bI;obtain⟨b,hb⟩: ∃b,p (x1,x2,x3)=b:=⟨_,rfl⟩
   rw[hb] at bI HN HY;clear hat hx hb HM hAr
   go_wp2_with fail
   refine bI.out.mono ?_;rintro e w4 ⟨rfl,hw4⟩;have H4:=ae (HE.out.trans hw4);clear hw4 q0 q1 q2 bI HE;cases b
   .have fV:=ae (HN.out rfl);clear HN HY
    go_wp2_with fail
    go_roundg (l.length- (k+1))
    case measure=>omega
    case rel=>exact⟨k+1,by go_num,rfl,by omega,H4,fV⟩
   .have qh:=ae (HY.out rfl);clear HN HY
    go_wp2_with fail
    go_ret;rw[qh.out];exact⟨rfl,H4.out⟩
  .obtain rfl:k=l.length:=by omega
   have z2:decide ((l.length:Int)< (l.length:Int))=false:=dF (by omega);have qh:Hid (V= -1):=ae (by rw[<-HV.out];exact GY (d:=(ah,[],ah)) (fun j hj=>HM.out j hj))
   go_wp2_with fail
   go_ret;rw[qh.out];exact⟨rfl,HE.out⟩
theorem aan (p:Dc->Bool) (l:List Dc) (v:Value) (S:Nat->Prop) (q:Nat) (w:World) (hR:tY S w v l) (hl:l.length<=1000000)
  (hf: ∀x∈l,∀xa xc W,Ext w W->zB S W (.slice xa x.2.1.length xc) x.2.1->Calls Tryz.prog 182 #[.agg #[.string x.1,.slice xa x.2.1.length xc,.string x.2.2],.pointer (some ⟨q,0,none⟩)] W fun e W'=>e= .returned (.bool (p x))/\Ext W W'):
  Calls Tryz.prog 49 #[v,.func (.func 182) #[] #[.pointer (some ⟨q,0,none⟩)]] w fun e w'=>e= .returned (.bool (l.any p))/\Ext w w':=by
 have HI:=ae (aam p l v S q w hR hl hf);have HR:=ae (S_ p l);generalize yt p l=X at*;clear hR hf
 go_enter Tryz.func49,Tryz.ntmps49
 go_wp2_with fail
 refine HI.out.mono ?_;rintro e w4 ⟨rfl,hw4⟩;have H4:=ae hw4;clear hw4
 go_wp2_with fail
 go_ret;rw[<-HR.out];exact⟨rfl,H4.out⟩
theorem aiH (x:Dc) (n:By) (q:Nat) (xa:Option Addr) (xc:Nat) (w:World) (hc:w.cell? ⟨q,0,none⟩=some (.string n)):
  Calls Tryz.prog 182 #[.agg #[.string x.1,.slice xa x.2.1.length xc,.string x.2.2],.pointer (some ⟨q,0,none⟩)] w fun e w'=>e= .returned (.bool (decide (x.1=n)))/\Ext w w':=by
 obtain⟨x1,x2,x3⟩:=x;dsimp only;have HB:=ae (ai w (.cells #[.string x1,.slice xa x2.length xc,.string x3] 77));have HE:=ae ((uR w).alloc (.cells #[.string x1,.slice xa x2.length xc,.string x3] 77));have c0:=af HB.out 0 (.string x1) rfl;have c1:=HE.out.cell hc (fun h=>h);have e1:=QD x1 n;obtain⟨b,hb⟩: ∃b,decide (x1=n)=b:=⟨_,rfl⟩
 rw[hb] at e1⊢;clear hb hc
 go_enter Tryz.func182,Tryz.ntmps182
 go_wp2_with fail
 go_ret;exact⟨rfl,HE.out⟩
theorem adl (x:Dc) (n:By) (q:Nat) (xa:Option Addr) (xc:Nat) (w:World) (hc:w.cell? ⟨q,0,none⟩=some (.string n)):
  Calls Tryz.prog 219 #[.agg #[.string x.1,.slice xa x.2.1.length xc,.string x.2.2],.pointer (some ⟨q,0,none⟩)] w fun e w'=>e= .returned (.bool (decide (x.1=n)))/\Ext w w':=by
 obtain⟨x1,x2,x3⟩:=x;dsimp only;have HB:=ae (ai w (.cells #[.string x1,.slice xa x2.length xc,.string x3] 77));have HE:=ae ((uR w).alloc (.cells #[.string x1,.slice xa x2.length xc,.string x3] 77));have c0:=af HB.out 0 (.string x1) rfl;have c1:=HE.out.cell hc (fun h=>h);have e1:=QD x1 n;obtain⟨b,hb⟩: ∃b,decide (x1=n)=b:=⟨_,rfl⟩
 rw[hb] at e1⊢;clear hb hc
 go_enter Tryz.func219,Tryz.ntmps219
 go_wp2_with fail
 go_ret;exact⟨rfl,HE.out⟩
theorem ajg (l:List By) (s:By) (q:Nat) (sa oa:Option Addr) (sc n oc:Nat) (S:Nat->Prop) (w:World) (hc:w.heap[q]?=some (.cells #[.slice sa l.length sc,.slice oa n oc] 74 (0,0))) (hR:lD S w (.slice sa l.length sc) l) (hl:l.length<=1000000):
  Calls Tryz.prog 180 #[.string s,.pointer (some ⟨q,0,none⟩)] w fun e w'=>e= .returned (.bool (!decide (s∈l)))/\Ext w w':=by
 have HC:=ae (Tv l s _ S w hR hl);have c0:=af hc 0 (.slice sa l.length sc) rfl;generalize decide (s∈l)=b at*;clear hc hR
 go_enter Tryz.func180,Tryz.ntmps180
 go_wp2_with fail
 refine HC.out.mono ?_;rintro e w4 ⟨rfl,hw4⟩;have H4:=ae hw4;clear hw4 c0
 go_wp2_with fail
 go_ret;exact⟨rfl,H4.out⟩
end Go.Proofs.YtlkcjmaiahnodaaGreatDoor
