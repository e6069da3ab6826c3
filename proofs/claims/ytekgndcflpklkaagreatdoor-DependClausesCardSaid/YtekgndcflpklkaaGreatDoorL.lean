/-
  Part of the proof.
-/
import Derived.Test.YtekgndcflpklkaaGreatDoorK
import Derived.ProofKit
import Derived.Maps.RangeRun
import Derived.Test.YtekgndcflpklkaaGreatDoorProg
import Derived.KernelRfl
import Derived.Sort.WalkA14
import Derived.Sort.EveryDepth
import Derived.LoopN
import Derived.Shelf.SlSortCmp.WholeK
import Derived.Shelf.SlSortCmp.NoneTotal
import Derived.Shelf.SlicesG.Cmp
import Derived.Test.YtekgndcflpklkaaGreatDoorRows
import Derived.Test.YtekgndcflpklkaaGreatDoorTie
import Derived.Test.YtekgndcflpklkaaGreatDoorCards
import Derived.LaidMore
import Derived.Handed
import Derived.JoinedOf
import Derived.SevenTiedAt
import Derived.Lib.LaidTab
import Derived.Shelf.Vars
set_option linter.all false
namespace Go.Proofs.YtekgndcflpklkaaGreatDoor.Dv
section
open Go.Dm Go.Proofs Go.Sort Go.Shelf Go.RowKit
def amV{d a:Array Int}{m:Nat}(h:∀j,j<m->d[j]! =a[j]!):Lib.compactUpTo d m=Lib.compactUpTo a m:=by induction m with|zero=>rfl|succ m b=>
 rw[Lib.compactUpTo_succ,Lib.compactUpTo_succ,b (λj c=>h j (by omega)),h m (by omega)];have:Lib.keeps d m=Lib.keeps a m:=by unfold Lib.keeps<;>grind
 grind
def amW(l:List Int)(z:Int){j:Nat}(h:j<l.length):(l++[z]).toArray[j]! =l.toArray[j]!:=by grind
def amX(l:List Int):Lib.compact l=bZ l:=by suffices h:∀n(l:List Int),l.length=n->Lib.compact l=bZ l from h _ l rfl;intro n;induction n with|zero=>intro l b;obtain rfl:=AAt b;rfl|succ n c=>
 intro l b;obtain⟨k,z,rfl⟩:∃k z,l=k++[z]:=by rcases ABQ l with rfl|⟨k,z,rfl⟩<;>grind
 have d:k.length=n:=by grind
 have e:=c k d;unfold Lib.compact at e⊢;rw[show(k++[z]).length=k.length+1 by simp,Lib.compactUpTo_succ,amV (λj f=>amW k z f),e,TZ];congr 1;have i:(k++[z]).toArray[k.length]! =z:=by grind
 by_cases a:k=[];·subst a;simp[Lib.keeps]
 have g:=V2.2 a;have m:(k++[z]).toArray[k.length-1]! =k.getLast a:=by grind
 by_cases o:k.getLast a=z;·rw[Lib.keeps_neg g (by omega)];grind
 rw[Lib.keeps_pos (by omega)];grind
def Gl:∀{rows:List (List D)}{l:List Int},nX rows=some l->rows=l.map aW
 |[],l,h=>by cases h;rfl|r::rows,l,h=>by
  unfold nX at h;split at h;·grind
  ·rename_i x b e;cases e;split at h;·rename_i c a;cases h;rw[fA,<-Gl a];rfl
   grind
  grind
section
variable{K:Kn}{μ:Mu}{H:ab}{W:World}{a:Nat}{lc:Go.Dm.br}{l:List Int}{cap:Option Nat}{p:Bool}
def T3(hr:HR K μ H W)(d:μ a=some lc)(e:H[a]?=some (.ar 1 (l.map aW) cap p false)):Holds (Value.int .i64) W lc.blk lc.off l.toArray:=by
 obtain⟨n,o,q,b,f,c,r,g⟩:=hr.blk a lc _ d e;intro j s;have h:(l.map aW)[j]?=some (aW l[j]):=by grind
 obtain⟨v,g1,i⟩:=g j _ 0 _ h rfl;have k:v=.int .i64 l[j]:=by have:=i.2;cases p<;>(cases this;rfl)
 refine⟨?_,by simp[World.frozen?,c]⟩;have m:b[lc.off+j]?=some v:=by grind
 rw[cell_of_row W _ _ b f _ c,m,k,K0 _ j (by omega)];simp
def T4(hr:HR K μ H W)(g:μ a=some lc)(h:H[a]?=some (.ar 1 (l.map aW) cap p false)){b:List Int}(u:b.length=l.length)(n:Nat)(os:Array Obj):HR K (μ.upd a lc) (H.set a (.ar 1 (b.map aW) cap p false)) (grow (Go.Sort.putRow (Value.int .i64) (Go.Sort.ahead W n) lc.blk lc.off b.toArray) os)/\Nx K μ H W K (μ.upd a lc) (H.set a (.ar 1 (b.map aW) cap p false)) (grow (Go.Sort.putRow (Value.int .i64) (Go.Sort.ahead W n) lc.blk lc.off b.toArray) os):=by
 obtain⟨v,w,y,o,k,z,A,B⟩:=hr.blk a lc _ g h;have q:(grow (Go.Sort.putRow (Value.int .i64) (Go.Sort.ahead W n) lc.blk lc.off b.toArray) os).heap[lc.blk]?=some (.cells (putCells (Value.int .i64) lc.off b.toArray o) k (0,0)):=by simp[grow,Go.Sort.putRow,mapBlock,Go.Sort.ahead];grind[onCells]
 exact hr.put a lc lc _ _ g h rfl rfl (.ar _ _ _ _ _ _ _ _ _ _ (by grind) (λ_=>⟨rfl,rfl⟩) (λc m=>⟨rfl,m⟩)) rfl rfl rfl (by simp_all) (λr d C=>by grind[grow,Go.Sort.putRow,mapBlock,Go.Sort.ahead]) (.inl rfl) (by grind) (by
 refine⟨?_,λc m=>by grind,by grind,_,k,q,by grind[putCells],?_⟩;·intro i r d;rw[eH]at d;cases e:b[i]? with|none=>grind|some x=>rw[e]at d;cases d;rfl
 intro i r j E f s;rw[eH]at f;cases e:b[i]? with|none=>grind|some x=>
 rw[e]at f;cases f;have t:j=0:=by grind[aw,aW]
 subst t;cases s;refine⟨.int .i64 x,?_,rfl,by cases p<;>exact .i ..⟩;grind[putCells])
end
def Gm{K:Kn}{μ:Mu}{H:ab}:VR K μ H (.tu []) (.tuple #[]):=.tu _ _ [] [] rfl (λj d v x y=>by grind)
variable{x:ab}
def amY{a n f len:Nat}{H:ab}{d:D}(h:rX a n f len H=some (d,x)):H.length<=x.length/\∀(K:Kn)(μ:Mu)(W:World)(v:Value),HR K μ H W->VR K μ H (.mu a n f len) v->Calls Tryz.prog 149 #[v] W (fu K μ H W d x):=by
 unfold rX at h;split at h
 ·rename_i rows cap p k;split at h
  ·rename_i q;obtain⟨rfl,rfl,A,B⟩:=q;split at h;·rename_i l r;cases h;obtain rfl:=Gl r;obtain⟨b,g⟩:=iI k;rw[S2]at g;refine⟨by simp,λK μ W v hr s=>?_⟩;cases s with|mu _ _ _ _ _ _ t blk o lc C E F G I c i J u=>
    rw[b]at i;cases i;obtain⟨L,_,M,_,N,_⟩:=u (by grind);have w:blk=lc.blk/\o=lc.off:=by omega
    obtain⟨rfl,rfl⟩:=w;have j:=Any.slices_Sort_int Tryz.sortL _ _ t l W (T3 hr c b) (hr.lt a lc c) (by omega);rw[g]at j;refine j.mono ?_;rintro e P⟨rfl,m,os,rfl⟩;rw[amS];obtain⟨y,z⟩:=T4 hr c b (nT l) m os;exact⟨_,_,y,z,Gm⟩
   grind
  grind
 grind
def amZ{a n f len:Nat}{H:ab}{d:D}(h:xz a n f len H=some (d,x)):H.length<=x.length/\∀(K:Kn)(μ:Mu)(W:World)(v:Value),HR K μ H W->VR K μ H (.mu a n f len) v->Calls Tryz.prog 305 #[v] W (fu K μ H W d x):=by
 unfold xz at h;split at h
 ·rename_i rows cap p q;split at h
  ·rename_i r;obtain⟨rfl,rfl,F,G⟩:=r;split at h;·rename_i l s;cases h;obtain rfl:=Gl s;obtain⟨b,g⟩:=iI q;rw[S2]at g;refine⟨by simp,λK μ W v hr t=>?_⟩;cases t with|mu _ _ _ _ _ _ i blk o lc I J L M N c j P u=>
    rw[b]at j;cases j;obtain⟨Q,S,U,w,y,z⟩:=u (by grind);have A:blk=lc.blk/\o=lc.off:=by omega
    obtain⟨rfl,rfl⟩:=A;have k:=Any.slices_Compact_int Tryz.compL _ _ i l W (T3 hr c b) (by omega) (by omega);rw[g]at k;refine k.mono ?_;rintro e V⟨rfl,m,rfl⟩;rw[amX];have X:=wV l;have B:(bZ l++List.replicate (len-(bZ l).length) 0).length=l.length:=by grind
    obtain⟨g1,C⟩:=T4 hr c b B m #[];have E:=hr.dom a lc c;refine⟨_,_,g1,C,.mu _ _ a len 0 _ i _ _ lc 1 _ cap p false (by simp[Mu.upd]) (N1 E) (by grind) (λ_=>⟨.inr ⟨rfl,by simp⟩,by omega,by omega,w,y,z⟩)⟩
   grind
  grind
 grind
def am0{K:Kn}{μ:Mu}{H:ab}{W:World}(h:HR K μ H W)(n:Nat):HR K μ H (W.drewN n)where dom:=h.dom;tot:=h.tot;blk:=λid l b a c=>(h.blk id l b a c).ext (.refl _ _ _) (λ_=>rfl);lt:=h.lt;inj:=h.inj;kn:=h.kn;kf:=h.kf
def am1{K:Kn}{μ:Mu}{H:ab}{W:World}(n:Nat):Nx K μ H W K μ H (W.drewN n):=⟨.refl _ _ _,rfl,rfl,rfl,Hk _,λ_ _ _=>rfl,λ_ h=>.inl h,λ_ _ _ h=>.inl h⟩
structure fH(K:Kn)(_W:World):Prop where
 g:∀(g w:Nat)(rows:List (List D)),B0 g=some (w,rows)->sy K g w rows
 mx:∃m,K 2 0=some (.int .i64 m)
def am2{K c:Kn}{g w:Nat}{rows:List (List D)}(h:sy K g w rows)(e:∀b o v,K b o=some v->c b o=some v):sy c g w rows:=λi r hr=>let⟨f,x⟩:=h i r hr;⟨f,λj d a=>e _ _ _ (x.k j d a),x.c,λj d a=>(x.v j d a).ext (aS.zero e)⟩
def T5{K:Kn}{μ:Mu}{H:ab}{W:World}{a:Kn}{c:Mu}{b:World}(h:fH K W)(_:HR K μ H W)(nx:Nx K μ H W a c x b):fH a b:=⟨λg w rows e=>am2 (h.g g w rows e) nx.ext.k,let⟨m,d⟩:=h.mx;⟨m,nx.ext.k _ _ _ d⟩⟩
def am3{s t:List UInt8}{H:ab}{d:D}(h:xB s t H=some (d,x)):H.length<=x.length/\∀(K:Kn)(μ:Mu)(W:World)(f g:Value),fH K W->HR K μ H W->VR K μ H (.s s) f->VR K μ H (.s t) g->Calls Tryz.prog 150 #[f,g] W (fu K μ H W d x):=by
 unfold xB at h;split at h
 ·rename_i hs;cases h;refine⟨Hk _,λK μ W f g i hr k l=>?_⟩;cases k;cases l;obtain⟨m,o⟩:=i.mx;have p:(⟨s.toArray⟩:ByteArray).size<4294967281:=by have:(⟨s.toArray⟩:ByteArray).size=s.length:=rfl;grind[LQ]
  refine(Any.strings_Cut Tryz.cutL ⟨s.toArray⟩ ⟨t.toArray⟩ m W p (hr.kn _ _ _ o)).mono ?_;rintro e q⟨rfl,n,rfl⟩;refine⟨K,μ,am0 hr n,am1 n,.tu _ _ _ [_,_,_] rfl (λj d v a c=>?_)⟩;match j,a,c with|0,a,c=>cases a;cases c;exact .s ..|1,a,c=>cases a;cases c;exact .s ..|2,a,c=>cases a;cases c;exact .b ..
 grind
end
end Go.Proofs.YtekgndcflpklkaaGreatDoor.Dv
namespace Go.Dm
section
open Go.ChangeMaps(setBlock)
section
variable{c:CX}{E:En}{nd:List Deferred}{L:Nat->Option Nat}{K:Kn}{μ:Mu}{sl:List D}{H:ab}{a:Act}{W:World}{o:Oper}{loc:List D}{done:Nat->Prop}
variable{x:Nat}
def AP(rg:dK c)(n:RI c E nd done L K μ loc sl H a W){b:ae}(k:c.ops[x]?=some o)(l:c.vos[x]?=some b)(p:o.guard=none)(q:b.op.isAddr=false)(r:b.op.isBox=false)(s:∀t,o.op≠.defer t){v:Value}{f:World}(u:(execOp a.eval o).run c.P W=.ok (.value v) f){g:Kn}{h:Mu}{i:ab}{d:D}(fs:FS E c.tm c.bs g h L sl i a.tmps f)(e:aS K μ H g h i)(w:VR g h i d v){next:Act->World->Prop}{Q:Exit->Act->World->Prop}{rd:Option Nat}{m:Nat}(y:RI c E nd (λj=>j=x\/done j) L g h (loc.set x d) (dU sl b.keep d) i (a.put o.dst v) f->next (a.put o.dst v) f):wpOpIn (FW rd) m c.P c.ops Q x next a W:=by
 have z:=jO (rg.op x _ b k l).1;unfold wpOpIn;rw[k];have A:Region.wanted o (yielded c.ops a.tmps)=true:=by unfold Region.wanted;rw[p]
 simp[A,if_true];refine oh s ?_;unfold Oper.wp;rw[u,Oper.upon_value];exact y ((n.go fs e).val rg k l z q r w)
end
structure rD(K:Kn)(μ:Mu)(H:ab)(W:World)(x:Nat):Prop where
 own:¬bT μ H x
 kn:∀o v,K x o≠some v
 lt:x<W.heap.size
def rD.nx{K b:Kn}{μ c:Mu}{H d:ab}{W a:World}{x:Nat}(h:rD K μ H W x)(nx:Nx K μ H W b c d a):rD b c d a x/\a.heap[x]?=W.heap[x]?:=by
 refine⟨⟨λo=>?_,λo v e=>?_,em h.lt nx.size⟩,nx.keep x h.lt h.own⟩
 ·rcases nx.og x o with y|y;·exact h.own y
  have:=h.lt;omega
 rcases nx.kg x o v e with y|y|y;·exact h.kn o v y
 ·exact h.own y
 have:=h.lt;omega
variable{y z:List Nat}{x:Nat}
def FS.blk{E:En}{K:Kn}{μ:Mu}{sl:List D}{H:ab}{tmps:Array Value}{W:World}(h:FS E y [] K μ (λ_=>none) sl H tmps W)(a:rD K μ H W x)(f:E.w.heap.size<=x)(o:Obj):FS E y [] K μ (λ_=>none) sl H tmps (setBlock W x o):=⟨h.hr.away a.own a.kn,⟨h.nx.ext,h.nx.os,h.nx.tape,h.nx.output,by have:=h.nx.size;simpa[setBlock]using this,λk c d=>by rw[<-h.nx.keep k c d];exact World.putObj_heap_other (λe=>by omega),h.nx.og,h.nx.kg⟩,h.len,h.val,λk t _ b=>(by grind),λk x e=>(by cases e),λk g x e=>(by cases e)⟩
def FS.drew{E:En}{K:Kn}{μ:Mu}{L:Nat->Option Nat}{sl:List D}{H:ab}{tmps:Array Value}{W:World}(h:FS E y z K μ L sl H tmps W):FS E y z K μ L sl H tmps W.drew:=h.go h.hr.drew (Nx.drew _ _ _ _)
def rE{P:Program}{V:au}{T:Kn->World->Prop}(g:P.follows .mixedOrders=true)(b:cm P V T)(m:nodup y=true)(o:∀t∈y,t<x){E:En}(A:TE T E){nd:List Deferred}{i:Code}{j:aQ}(B:cd P V x y z i j=true){k:St}{Q:Ex->St->Prop}(hr:ak V j k Q){a:Act}{W:World}(C:fW E y z x nd k a W)(F:∀p s,Q p s->p=.nm):i.wpIn (FW none) 0 P (λe r w'=>e=.normal/\∃u,Q .nm u/\fW E y z x nd u r w') a W:=by obtain⟨n,K,l⟩:=hr;have w:=F _ _ l;have G:=sQ V (λf args H d I h=>(b.ext f args H d I h).1) n;refine wpIn_mono (oU b (qh g b n) (Cw g b n) m o (oI g b (qh g b n) (Cw g b n) G m o) E A nd n j i B k _ _ a W rfl (by rw[w];rfl) C) (λe r w' c=>?_);rw[w]at c l;cases e with|normal=>exact⟨rfl,_,l,c.2⟩|exit id=>cases c.1|ret=>cases c.1|panic L=>obtain⟨q,v,J,_⟩:=c;cases J|_=>exact c.elim
variable{b:Array MapEntry}
def al1{seen:Array Nat}(h:(leftOf b seen).size=0):∀e∈b.toList,e.born∈seen.toList:=by
 intro e a;by_cases hs:e.born∈seen.toList;·exact hs
 exfalso;have:e∈(leftOf b seen).toList:=by unfold leftOf<;>grind
 grind
def Tz{seen:Array Nat}{e:MapEntry}(h:e∈(leftOf b seen).toList):e∈b.toList/\e.born∉seen.toList:=by unfold leftOf at h<;>grind
theorem al2{d:Nat}(f:iL b d){x y:MapEntry}(g:x∈b.toList)(k:y∈b.toList)(e:x.born=y.born):x=y:=by
 have:=f.nd;rw[List.nodup_iff_pairwise_ne]at this;rw[ABF]at this;by_cases h:x=y;·exact h
 exfalso;obtain⟨i,hi,rfl⟩:=kh.1 g;obtain⟨j,c,rfl⟩:=kh.1 k;rcases Nat.lt_trichotomy i j with a|a|a;·exact vx.1 this i j hi c a e
 ·grind
 exact vx.1 this j i c hi a e.symm
variable{d:List MapEntry}
def al3{c:Array MapEntry}{f:Nat}(g:iL c f)(i:∀e∈d,e∈c.toList)(j:(d.map (·.born)).Nodup)(m:∀e∈c.toList,e.born∈d.map (·.born)):d.Perm c.toList:=by have k:d.Nodup:=ABc _ (λa b h e=>h (by rw[e])) j;have l:c.toList.Nodup:=ABc _ (λa b h e=>h (by rw[e])) g.nd;refine(List.perm_ext_iff_of_nodup k l).2 λx=>⟨i x,λn=>?_⟩;grind[al2]
def TC{α:Type}:∀{v m:List α},v.Nodup->(∀x∈v,x∈m)->v.length<=m.length|[],m,_,_=>AAs _|x::t,m,c,hs=>by obtain⟨a,b,rfl⟩:=ABk (hs x N2);have d:=yy.1 c;have:=TC (m:=a++b) d.2 (λy e=>by grind);grind
def al4{c:Array MapEntry}(j:iL c x)(f:∀e∈d,e∈c.toList)(g:(d.map (·.born)).Nodup):d.length<=c.size:=by have i:d.Nodup:=ABc _ (λa b h e=>h (by rw[e])) g;have:=TC i f;omega
end
end Go.Dm
namespace Go.Proofs.YtekgndcflpklkaaGreatDoor.Dv
section
open Go.Dm Go.Proofs
def lO:List Nat:=[0,1,2,3,8,22,47,67,76,85,4,21,20,19,11,9,13,12,10,14,74,16]
def mH:List Nat:=[10,14]
def kL(k:Nat):aQ:=match Bj.body with|.seq a (.seq b (.seq c (.seq d (.seq (.seq e _) _))))=>(match k with|0=>a|1=>b|2=>c|3=>d|_=>e)|c=>c
def gU:List Nat:=[4,14,16,74,76,85,8]
def F6:List ae:=[⟨.stk,none,none⟩,⟨.ext (.l 0) 0,some 4,none⟩]
def TD:List ae:=[⟨.stk,none,none⟩,⟨.ext (.l 0) 1,none,none⟩,⟨.mov (.l 1),some 2,none⟩]
def F7:aQ:=.seq (.reg [⟨.fad (.s 0) 3,none,none⟩,⟨.ld (.l 0) 1 false,none,none⟩,⟨.mov (.s 2),none,none⟩,⟨.iad (.l 1) (.l 2) 24,none,none⟩,⟨.fad (.l 3) 5,none,none⟩,⟨.ld (.l 4) 1 false,none,none⟩,⟨.un .not (.l 5),some 5,none⟩] none) (.cond (.s 5) (.reg [⟨.mov (.s 1),none,none⟩,⟨.mov (.s 2),none,none⟩,⟨.bsv 1 1 [(.i .i64 0)] [(0,.l 1)],none,none⟩,⟨.app (.l 0) (.l 2) 1 8 true,none,none⟩,⟨.mov (.l 3),some 1,none⟩] none) .skip)
def F8:aQ:=.reg [⟨.mov (.s 1),none,none⟩,⟨.call 127 [.l 0],none,none⟩] none
def F9:aQ:=.reg [⟨.mov (.s 1),none,none⟩,⟨.mov (.l 0),some 6,none⟩] none
noncomputable def uj:Code:=Tryz.f103.body.getD .skip
def sL:Code->Code|.seq a _=>a|c=>c
def sR:Code->Code|.seq _ b=>b|c=>c
def TF:Code->Code|.block _ c=>c|c=>c
def lpC:Code->Code|.loop c=>c|c=>c
def eS:Code->Array Oper|.region _ ops _=>ops|_=>#[]
noncomputable def q5:Code:=sR (sR (sR (sR uj)))
noncomputable def mI:Code:=sL (sL q5)
noncomputable def TG:Code:=lpC (TF (sR (sL q5)))
noncomputable def lP:Code:=sL TG
noncomputable def TH:Code:=TF (sR (sR TG))
noncomputable def nS:Code:=sL TH
noncomputable def TI:Code:=sR TH
noncomputable def al6:Code:=sL (sR q5)
noncomputable def al7:Code:=sL (sR (sR q5))
def al8:mI=.region 11 (eS mI) false:=by kernel_rfl
def al9:lP=.region 12 (eS lP) false:=by kernel_rfl
def ama:nS=.region 13 (eS nS) false:=by kernel_rfl
def TJ(l:List UInt8):∀m:List (List UInt8×Nat),@List.lookup (List UInt8) Nat instBEqOfDecidableEq l m=jy l m
 |[]=>rfl|(k,i)::m=>by
  unfold jy;by_cases h:l=k;·grind
  have:(@BEq.beq _ instBEqOfDecidableEq l k)=false:=R1 h;rw[E1 h];show(match(@BEq.beq _ instBEqOfDecidableEq l k)with|true=>some i|false=>@List.lookup _ Nat instBEqOfDecidableEq l m)=jy l m;rw[this];exact TJ l m
def TK(l:List UInt8)(i:Nat):∀m:List (List UInt8×Nat),iw l i m=aZ l i m
 |[]=>rfl|(k,j)::m=>by
  unfold iw aZ;by_cases h:l=k;·simp[h]
  simp[TK l i m]
def Ga{r:List D}(h:lX r=true):∃n l f t k o q,r=.s n::.s l::.i .i64 f::.i .i64 t::.i .i64 k::.b o::q/\q.length=18:=by unfold lX at h<;>grind
def Gb(s:List UInt8):D:=.s s
def uk(i:Nat):D:=.i .i64 i
def jZ(m:List (List UInt8×Nat)):List (D×D):=de Gb uk m
def TL(p name:D)(date known:Int):List D:=[p,name,.i .i64 date,.i .i64 known,.u,.u,.u,.u,.u,.u,.u,.u,.u,.u,.u,.u,.u,.u,.u,.u,.u,.u]
section
variable{x0 x1 x2 c:D}{rows:List (List D)}{name:List UInt8}{date known:Int}
def amb:ak V1 (kL 0) ⟨TL (.ag [x0,x1,x2,c]) (.s name) date known,[]⟩ (λa s=>a=.nm/\s=⟨[.ag [x0,x1,x2,c],.s name,.i .i64 date,.i .i64 known,.nil,.u,.u,.u,.u,.u,.bx [x0,x1,x2,c],.u,.u,.u,.u,.u,.u,.u,.u,.u,.u,.u],[]⟩):=by simp[kL,Bk,TL];simp[go_sem]
def amc:ak V1 (kL 1) ⟨[.ag [x0,x1,x2,c],.s name,.i .i64 date,.i .i64 known,.nil,.u,.u,.u,.u,.u,.bx [x0,x1,x2,c],.u,.u,.u,.u,.u,.u,.u,.u,.u,.u,.u],[]⟩ (λa s=>a=.nm/\s=⟨[.ag [x0,x1,x2,c],.s name,.i .i64 date,.i .i64 known,.nil,.u,.u,.u,.u,.u,.bx [x0,x1,x2,c],.u,.u,.u,.u,.mp 0,.u,.u,.u,.u,.u,.u],[.mp []]⟩):=by simp[kL,Bk];simp[go_sem]
structure M1(x0 x1 x2 c:D)(rows:List (List D))(name:List UInt8)(date known:Int)(l:D)(s:St):Prop where e:∃j5 j6 j7 j14 j16 j17 j18,s=⟨[.ag [x0,x1,x2,c],.s name,.i .i64 date,.i .i64 known,.nil,j5,j6,j7,.u,.u,.bx [x0,x1,x2,c],.i .i64 rows.length,.i .i64 rows.length,c,j14,.mp 0,j16,j17,j18,l,.u,.u],[.mp (jZ (cr rows name date known rows.length))]⟩
def amd:∀m,(jZ m).length=m.length:=by grind[jZ,de]
theorem Gc{i:Nat}:cr rows name date known (i+1)=iy rows name date known (cr rows name date known i) i:=rfl
def Gd:∀n,∀q∈cr rows name date known n,q.2<n
 |0,q,h=>by cases h|n+1,q,h=>by
  have cA:∀(l:List UInt8)(m:List _),(∀q∈m,q.2<n)->∀q∈iw l n m,q.2<n+1:=by intro l m;induction m<;>grind[iw]
  have a:=Gd n;grind[Gc,iy,cA]
def TM:∀{m:List (List UInt8×Nat)}{l:List UInt8}{j:Nat},jy l m=some j->(l,j)∈m
 |(k,i)::m,l,j,h=>by
  unfold jy at h;split at h;·grind
  exact K2 _ (TM h)
def TN:jj (.c 2) Gb:=⟨λ_=>rfl,λa b=>yM.eq a b⟩
def rF{l:List UInt8}{m:List (List UInt8×Nat)}:eP (.c 2) (.s l) true (.i .i64 0) (some (.mp (jZ m)))=some (.tu [((jy l m).map uk).getD (.i .i64 0),.b (jy l m).isSome]):=by rw[<-TJ];exact sY TN l m true _
def rG{H:ab}{a:Nat}{l:List UInt8}{i:Nat}{m:List (List UInt8×Nat)}:jN H (.c 2) a (.s l) (.i .i64 i) (some (.mp (jZ m)))=some (H.set a (.mp (jZ (aZ l i m)))):=oJ (ev:=uk) TN a l i m
set_option maxHeartbeats 4000000 in def ame(g:Sl 24 rows c)(I:rows.all lX=true)(hl:rows.length<1099511627776):ak V1 (kL 2) ⟨[.ag [x0,x1,x2,c],.s name,.i .i64 date,.i .i64 known,.nil,.u,.u,.u,.u,.u,.bx [x0,x1,x2,c],.u,.u,.u,.u,.mp 0,.u,.u,.u,.u,.u,.u],[.mp []]⟩ (λex s=>ex=.nm/\M1 x0 x1 x2 c rows name date known .u s):=by
 simp only[kL,Bk];simp(disch:=omega)only[go_sem,simprocAttr,g.len,g.c1];have x:Sl 24 (rows.map (λr=>r)) c:=by simpa using g
 refine ak.up (λi s=>∃J K L M N P Q,s=⟨[.ag [x0,x1,x2,c],.s name,.i .i64 date,.i .i64 known,.nil,J,K,L,.u,.u,.bx [x0,x1,x2,c],.i .i64 i,.i .i64 rows.length,c,M,.mp 0,N,P,Q,.u,.u,.u],[.mp (jZ (cr rows name date known i))]⟩) rows.length ⟨.u,.u,.u,.u,.u,.u,.u,rfl⟩ ?_;rintro i s hi⟨J,K,L,M,N,P,Q,rfl⟩;rcases hM i rows.length with h|h
 ·obtain⟨n,S,f,t,k,o,q,ac,y⟩:=Ga (TA.1 I _ (kv h));have p:rows[i]! =.s n::.s S::.i .i64 f::.i .i64 t::.i .i64 k::.b o::q:=by rw[K0 rows i h];exact ac
  have a:=Gc (rows:=rows) (name:=name) (date:=date) (known:=known) (i:=i);have U:=Gd (rows:=rows) (name:=name) (date:=date) (known:=known) i;generalize cr rows name date known i=m at a U⊢;unfold iy at a;rw[p]at a;simp only[pT,tI,LN,LO,B1,rV,TK]at a;have z:(i:Int)<rows.length:=by omega
  have A:(0:Int)<=i:=by omega
  have B:List.take 18 q=q:=E4 (by omega);have an:18<=q.length:=by omega
  have C:IntKind.i64.wrap ((i:Int)+1)=(i:Int)+1:=wr (by omega) (by omega);by_cases l:n=name
  ·by_cases E:date<f
   ·have e:cr rows name date known (i+1)=m:=by rw[a,E1 (by simp only[D0,U3,Hq];rintro⟨⟨⟨_,g1⟩,v⟩,w⟩;first|omega|(have:=gA g1;have:=gA v;have:=gA w;omega))]
    have d:=True.intro;simp only[pM];simp(disch:=omega)only[go_sem,simprocAttr,x.q,g.under,h,decide_true,decide_false,p,da,z,A,B,y,rF,rG,Hk,d,l,E,C,e]
   by_cases c3:t<=date
   ·have e:cr rows name date known (i+1)=m:=by rw[a,E1 (by simp only[D0,U3,Hq];rintro⟨⟨⟨_,g1⟩,v⟩,w⟩;first|omega|(have:=gA g1;have:=gA v;have:=gA w;omega))]
    have d:=True.intro;simp only[pM];simp(disch:=omega)only[go_sem,simprocAttr,x.q,g.under,h,decide_true,decide_false,p,da,z,A,B,y,rF,rG,Hk,d,l,E,c3,C,e]
   by_cases F:known<k
   ·have e:cr rows name date known (i+1)=m:=by rw[a,E1 (by simp only[D0,U3,Hq];rintro⟨⟨⟨_,g1⟩,v⟩,w⟩;first|omega|(have:=gA g1;have:=gA v;have:=gA w;omega))]
    have d:=True.intro;simp only[pM];simp(disch:=omega)only[go_sem,simprocAttr,x.q,g.under,h,decide_true,decide_false,p,da,z,A,B,y,rF,rG,Hk,d,l,E,c3,F,C,e]
   have v:f<=date:=by omega
   have w:date<t:=by omega
   have V:k<=known:=by omega
   rw[G1 (by simp only[D0,U3,Hq];first|exact⟨⟨⟨l,v⟩,w⟩,V⟩|exact⟨⟨⟨l,R2 v⟩,R2 w⟩,R2 V⟩)]at a;cases d:jy S m with|none=>simp only[d]at a;simp only[pM];simp(disch:=omega)only[go_sem,simprocAttr,x.q,g.under,h,decide_true,decide_false,p,da,z,A,B,y,rF,rG,Hk,d,l,E,c3,F,C,a,vy,sa,oy]|some j=>
   have hj:=U _ (TM d);simp only at hj;have W:j<rows.length:=by omega
   obtain⟨n',af,f',t',X,o',q',al,Y⟩:=Ga (TA.1 I _ (kv W));have H:rows[j]! =.s n'::.s af::.i .i64 f'::.i .i64 t'::.i .i64 X::.b o'::q':=by rw[K0 rows j W];exact al
   have Z:(j:Int)<rows.length:=by omega
   have aa:(0:Int)<=j:=by omega
   simp only[d,H]at a;by_cases G:X<=k;·rw[G1 G]at a;simp only[pM];simp(disch:=omega)only[go_sem,simprocAttr,x.q,g.under,h,decide_true,decide_false,p,da,z,A,B,y,rF,rG,Hk,d,l,E,c3,F,G,C,a,H,Y,Z,aa,ef,eD,ot,uk]
   rw[E1 G]at a;simp only[pM];simp(disch:=omega)only[go_sem,simprocAttr,x.q,g.under,h,decide_true,decide_false,p,da,z,A,B,y,rF,rG,Hk,d,l,E,c3,F,G,C,a,H,Y,Z,aa,ef,eD,ot,uk]
  have e:cr rows name date known (i+1)=m:=by rw[a,E1];simp[l]
  have d:=True.intro;simp only[pM];simp(disch:=omega)only[go_sem,simprocAttr,x.q,g.under,h,decide_true,decide_false,p,da,z,A,B,y,rF,rG,Hk,d,l,C,e]
 have:i=rows.length:=by omega
 subst this;simp only[pM];simp(disch:=omega)only[go_sem,simprocAttr,AAp,qb,decide_false];exact⟨_,_,_,_,_,_,_,rfl⟩
variable{x y z a b d:D}
def amf{e:D}{n:Nat}{H:ab}:ak V1 (kL 3) ⟨[.ag [x0,x1,x2,c],.s name,.i .i64 date,.i .i64 known,.nil,x,y,z,.u,.u,.bx [x0,x1,x2,c],.i .i64 n,.i .i64 n,c,a,.mp 0,b,d,e,.u,.u,.u],H⟩ (λf s=>f=.nm/\s=⟨[.ag [x0,x1,x2,c],.s name,.i .i64 date,.i .i64 known,.nil,x,y,z,.u,.u,.bx [x0,x1,x2,c],.i .i64 n,.i .i64 n,c,a,.mp 0,b,d,e,.nil,.u,.u],H⟩):=by simp[kL,Bk];simp[go_sem]
def hL(l:List Int):ab:=bH [.ar 1 [] (some 0) true true] 1 (l.map aW)
def dL(l:List Int):D:=bD [.ar 1 [] (some 0) true true] .nil (l.map aW)
def amg(u:Sl 24 rows c)(h:rows.all lX=true){l:List Int}(v:l.length<1099511627776){i:Nat}(hi:i<rows.length):ak V1 F7 ⟨[.ip [x0,x1,x2,c],dL l,.i .i64 i,.aa 0,x,y,z],hL l⟩ (λj s=>j=.nm/\s=⟨[.ip [x0,x1,x2,c],dL (if jx rows[i]! then l else l++[(i:Int)]),.i .i64 i,.aa 0,x,.b (!jx rows[i]!),z],hL (if jx rows[i]! then l else l++[(i:Int)])⟩):=by
 obtain⟨n,m,f,t,k,o,q,A,B⟩:=Ga (TA.1 h _ (kv hi));have a:rows[i]! =.s n::.s m::.i .i64 f::.i .i64 t::.i .i64 k::.b o::q:=by grind
 have d:Sl 24 (rows.map (λr=>r)) c:=by simp_all
 have e:(i:Int)<rows.length:=by omega
 have g:(0:Int)<=i:=by omega
 have app:=nz (H0:=[.ar 1 [] (some 0) true true]) (w:=1) (bytes:=8) (l:=l) (enc:=aW) (r:=aW i) (by omega) (by omega);have p:l.map aW++[aW i]=(l++[(i:Int)]).map aW:=by simp
 rw[p]at app;simp only[aW,AAn,AA9,jR,AAo,if_true]at app;simp[F7,a,jx,dL,hL];cases o with|true=>simp[go_sem,simprocAttr,d.q,a,e,g,app]|false=>simp[go_sem,simprocAttr,d.q,a,e,g,app]
end
def TO(l:List Int):dL (cG l)=dL l:=by
 have h:(cG l).length=l.length:=by induction l with|nil=>rfl|cons x l a=>
  have:∀m,(kQ x m).length=m.length+1:=λm=>by induction m<;>grind[kQ]
  grind[cG]
 unfold dL bD<;>grind
def TP:∀l:List Int,nX (l.map aW)=some l|[]=>rfl|x::l=>by rw[fA,aW,nX,TP l]
def amh{l:List Int}(a:l.length<1099511627776):V1.ext 149 [dL l] (hL l)=some (.tu [],hL (cG l)):=by cases l with|nil=>rfl|cons x t=>
 have b:=TO (x::t);have e:V1.ext 149 [dL (x::t)] (hL (x::t))=rX 1 (x::t).length 0 (x::t).length (hL (x::t)):=by simp[V1,Vx,pU,dL,bD]
 rw[e];unfold rX;have h:aK (hL (x::t)) 1 (x::t).length=some (1,(x::t).map aW,none,true,false):=by simp[aK,hL,bH]
 rw[h];simp only[TP];congr 2;unfold hL bH<;>grind[hL,bH,dL,bD,cG]
variable{x y z a b d:D}
def ami{l:List Int}(c:l.length<1099511627776){x0:D}:ak V1 F8 ⟨[x0,dL l,x,y,z,a,b],hL l⟩ (λd s=>d=.nm/\s=⟨[x0,dL (cG l),x,y,z,a,b],hL (cG l)⟩):=by have e:∀{K:CR->Prop},ac V1 149 [dL l] _ K↔K _:=λ{K}=>ac.beside (by kernel_rfl) (by decide) (amh c);rw[TO];simp[F8];simp[go_sem];refine .body (vf:=IF) (by kernel_rfl) rfl rfl ?_;simp only[ao3];simp[go_sem,e]
def amj{l:List Int}{H:ab}{x0:D}:ak V1 F9 ⟨[x0,dL l,x,y,z,a,b],H⟩ (λc s=>c=.nm/\s=⟨[x0,dL l,x,y,z,a,dL l],H⟩):=by simp[F9];simp[go_sem]
end
end Go.Proofs.YtekgndcflpklkaaGreatDoor.Dv
namespace Go.Proofs
section
open Go.RowKit Go.Sort Go.Shelf
set_option maxHeartbeats 4000000
def Tryz.insertion_nil(w:World):Calls Tryz.prog 220 #[.slice none 0 0,.int .i64 0,.int .i64 0] w λe w'=>e=.returned (.tuple #[])/\w'=w:=by go_enter Tryz.func220,Tryz.ntmps220;go_wp2;refine wp_loop_rounds 1 ?_;rw[rounds_succ];go_wp2;go_end0;exact⟨rfl,rfl⟩
set_option maxRecDepth 100000 in def Tryz.pdqsort_nil(w:World):Calls Tryz.prog 178 #[.slice none 0 0,.int .i64 0,.int .i64 0,.int .i64 0] w λe w'=>e=.returned (.tuple #[])/\w'=w:=by go_enter Tryz.func178,Tryz.ntmps178;go_wp2;refine wp_loop_rounds 1 ?_;rw[rounds_succ];go_wp2_with(first|(go_at_call 220;refine(Tryz.insertion_nil _).mono ?_;rintro e w'⟨rfl,rfl⟩));refine bodyPost_ret (results_none rfl _ _ _) rfl ?_;exact⟨rfl,rfl⟩
def Tryz.bitsLen0(w:World):Calls Tryz.prog 101 #[.int .u64 0] w λe w'=>e=.returned (.int .i64 0)/\w'=w:=(calls_of_every_depth λD=>AnyS.bits_LenIn (P:=Tryz.prog) (ρ:=Tryz.sortL_ren) {Tryz.sortL with} D 0 w (by omega) (by omega))
set_option maxRecDepth 100000 in def Tryz.sort_nil(w:World):Calls Tryz.prog 149 #[.slice none 0 0] w λe w'=>e=.returned (.tuple #[])/\w'=w:=by go_enter Tryz.func149,Tryz.ntmps149;go_wp2_with(first|(go_at_call 101;refine(Tryz.bitsLen0 _).mono ?_;rintro e w'⟨rfl,rfl⟩)|(go_at_call 178;refine(Tryz.pdqsort_nil _).mono ?_;rintro e w'⟨rfl,rfl⟩));go_end0;exact⟨rfl,rfl⟩
end
section
open Go.Shelf
def Tryz.sortSp_ren:Go.Shelf.Ren:=⟨λ|6=>88|15=>101|14=>100|28=>124|29=>125|20=>116|21=>117|22=>118|23=>119|24=>120|25=>121|26=>122|27=>123|46=>144|47=>145|48=>146|49=>147|50=>148|57=>177|n=>n,λ|22=>75|24=>80|25=>153|3=>3|39=>176|0=>0|53=>199|55=>201|4=>4|46=>192|45=>191|50=>196|5=>5|9=>9|66=>221|70=>225|76=>257|77=>204|n=>n,λ|n=>n⟩
def Tryz.sortSp:Go.Proofs.SlLaysF0.n6 Tryz.prog Tryz.sortSp_ren:=by
 constructor<;>first|kernel_rfl|(intros;kernel_rfl)|skip
 ·exact⟨Tryz.f88.name,by decide,Tryz.func88.trans (gb some (by kernel_rfl))⟩
 ·exact⟨Tryz.f100.name,by decide,Tryz.func100.trans (gb some (by kernel_rfl))⟩
 ·exact⟨Tryz.f116.name,by decide,Tryz.func116.trans (gb some (by kernel_rfl))⟩
 ·exact⟨Tryz.f117.name,by decide,Tryz.func117.trans (gb some (by kernel_rfl))⟩
 ·exact⟨Tryz.f118.name,by decide,Tryz.func118.trans (gb some (by kernel_rfl))⟩
 ·exact⟨Tryz.f119.name,by decide,Tryz.func119.trans (gb some (by kernel_rfl))⟩
 ·exact⟨Tryz.f120.name,by decide,Tryz.func120.trans (gb some (by kernel_rfl))⟩
 ·exact⟨Tryz.f121.name,by decide,Tryz.func121.trans (gb some (by kernel_rfl))⟩
 ·exact⟨Tryz.f122.name,by decide,Tryz.func122.trans (gb some (by kernel_rfl))⟩
 ·exact⟨Tryz.f123.name,by decide,Tryz.func123.trans (gb some (by kernel_rfl))⟩
 ·exact⟨Tryz.f144.name,by decide,Tryz.func144.trans (gb some (by kernel_rfl))⟩
 ·exact⟨Tryz.f147.name,by decide,Tryz.func147.trans (gb some (by kernel_rfl))⟩
 ·exact⟨Tryz.f148.name,by decide,Tryz.func148.trans (gb some (by kernel_rfl))⟩
 exact⟨Tryz.f177.name,by decide,Tryz.func177.trans (gb some (by kernel_rfl))⟩
def Tryz.cmpInt_ren:Go.Shelf.Ren:=⟨λ|5=>79|7=>97|n=>n,λ|22=>3|3=>3|4=>4|n=>n,λ|n=>n⟩
def Tryz.cmpInt:Go.Proofs.SlLaysC2.n5 Tryz.prog Tryz.cmpInt_ren:=by
 constructor<;>first|kernel_rfl|(intros;kernel_rfl)|skip
 ·exact⟨Tryz.f79.name,by decide,Tryz.func79.trans (gb some (by kernel_rfl))⟩
 exact⟨Tryz.f97.name,by decide,Tryz.func97.trans (gb some (by kernel_rfl))⟩
end
end Go.Proofs
namespace Go.Proofs.YtekgndcflpklkaaGreatDoor.Dv
section
open Go.Dm Go.Shelf Go.RowKit Go.Lib Go.Sort Go.Proofs
def js(x:Int×Int):List Value:=[.int .i64 x.1,.int .i64 x.2]
set_option maxHeartbeats 1000000 in def am4(x y:Int×Int)(W:World):Calls Tryz.prog 89 #[.agg #[.int .i64 x.1,.int .i64 x.2],.agg #[.int .i64 y.1,.int .i64 y.2]] W λe w'=>e=.returned (.int .i64 (Lib.compareInt x.1 y.1))/\∃q c,w'=grow (W.drewN q) c:=by have a:=λb=>AnyG.cmp_Compare_int Tryz.cmpInt x.1 y.1 b;change∀b,Calls Tryz.prog 79 _ _ _ at a;generalize Lib.compareInt x.1 y.1=r at a⊢;go_enter Tryz.func89,Tryz.ntmps89;go_wp2_with(go_at_call 79;refine(a _).mono ?_;rintro e w'⟨rfl,rfl⟩);go_ret;exact⟨rfl,0,_,by rw[alloc_eq_grow,alloc_eq_grow,grow_grow];rfl⟩
def am5(blk a size:Nat)(w:World):CmpLays Tryz.prog 89 #[] js 2 B2 blk a size w:=λ_ _ _ _ x y=>am4 x y _
def T6:∀{rows:List (List D)}{l:List (Int×Int)},je xA rows=some l->rows=l.map bB
 |[],l,h=>by cases h;rfl|r::rows,l,h=>by
  simp[je]at h;split at h
  ·rename_i p a;split at h
   ·rename_i c b;cases h;have:=T6 b;unfold xA at a;split at a;·cases a;rw[this];rfl
    grind
   grind
  grind
def T7(l:List (Int×Int))(i j:Nat)(hi:i<l.length)(a:j<2):(flatK js 2 l.toArray)[i*2+j]! =(js l[i]!)[j]!:=by grind[get_flatK]
def T8{l:List (Int×Int)}{i j:Nat}{r:List D}{d:D}(hr:(l.map bB)[i]?=some r)(a:r[j]?=some d):i<l.length/\j<2/\∀(K:Kn),VR K aG [] d ((js l[i]!)[j]!)/\((js l[i]!)[j]!).oneCell'=true:=by
 rw[eH]at hr;by_cases hi:i<l.length
 ·rw[E2 hi]at hr;cases hr;have b:j<2:=by grind[aw,bB]
  rw[K0 l i hi];refine⟨hi,b,λK=>?_⟩;match j,b,a with|0,_,a=>cases a;exact⟨.i ..,rfl⟩|1,_,a=>cases a;exact⟨.i ..,rfl⟩
 grind
def am6:SWO uB:=⟨λx=>by simp[uC],λx y q a b=>by grind[uC],λx y q a b=>by grind[uC]⟩
def am7{a n M len:Nat}{H F:ab}{d:D}(h:B3 a n M len H=some (d,F)):H.length<=F.length/\∀(K:Kn)(μ:Mu)(W:World)(v q:Value),HR K μ H W->VR K μ H (.mu a n M len) v->VR K μ H (.fn (.func 89) [] []) q->Calls Tryz.prog 88 #[v,q] W (fu K μ H W d F):=by
 unfold B3 at h;split at h
 ·rename_i rows cap aa;split at h
  ·rename_i k;obtain⟨rfl,rfl,a3,a4⟩:=k;split at h
   ·rename_i l hl;cases h;have ad:=T6 hl;subst ad;obtain⟨G,N⟩:=iI aa;rw[S2]at N;refine⟨by simp,λK μ W v1 q hr h1 h2=>?_⟩;have e2:q=.func (.func 89) #[] #[]:=by cases h2<;>grind
    subst e2;cases h1 with|mu _ _ _ _ _ _ cp blk o b w2 a7 a8 p2 ba I P bb ai=>
    rw[G]at P;cases P;obtain⟨bc,_,bd,_,be,_⟩:=ai (by grind);have aj:blk=b.blk/\o=b.off:=by omega
    obtain⟨rfl,rfl⟩:=aj;obtain⟨bf,ak,Q,s,J,L,al,am⟩:=hr.blk a b _ I G;rw[S2]at Q;have S:=hr.lt a b I;have an:HoldsK js 2 W b.blk b.off l.toArray:=by
     intro t ht;have bh:t<l.length*2:=by simp_all
     obtain⟨i,j,rfl,A⟩:∃i j,t=i*2+j/\j<2:=⟨t/2,t%2,by omega,by omega⟩;have hi:i<l.length:=by omega
     have U:(l.map bB)[i]?=some (bB l[i]):=by grind
     obtain⟨p,f⟩:∃p,(bB l[i])[j]?=some p:=⟨(bB l[i])[j]'(by grind[bB]),E2 _⟩;obtain⟨v,g1,g2⟩:=am i _ j p U f;obtain⟨_,_,B⟩:=T8 U f;have C:v=(js l[i]!)[j]!:=by
      have q1:=g2.2;have V:=(B K).1;have aq:∃z,p=.i .i64 z:=by match j,A,f with|0,_,f=>cases f<;>grind|1,_,f=>cases f;exact⟨_,rfl⟩
      obtain⟨z,rfl⟩:=aq;generalize(js l[i]!)[j]! =u at V;cases q1;cases V;rfl
     rw[T7 l i j hi A];refine⟨?_,by simp[World.frozen?,L]⟩;have au:s[b.off+(i*2+j)]?=some v:=g1;rw[cell_of_row W _ _ s J _ L,au,C];rfl
    have eg:∀args w,(callFunc 89 args).run _ w=.ok _ w:=enters_of Tryz.func89 (by kernel_rfl) rfl;have aw:=AnyQ.slices_SortFunc_eq Tryz.sortSp 2 Tryz.isAgg80 Tryz.sizeOf80 js (λ_=>rfl) (λx v C=>by simp[js]at C;rcases C with rfl|rfl<;>rfl) B2 am6 89 #[] _ _ cp _ W eg (am5 _ _ _ W) an S (by simp;omega);have bi:l.toArray.size=l.length:=by simp
    subst N;refine aw.mono ?_;rintro e W'⟨rfl,m,os,rfl⟩;have E:=(B4 l).length_eq;have hW:(sortWorldK js 2 W b.blk b.off m (nY l.toArray) os).heap[b.blk]?=some (.cells (putCells id b.off (flatK js 2 (nY l.toArray)) s) J (0,0)):=by simp only[sortWorldK,grow,putRowK,Go.Sort.putRow,mapBlock];rw[ABr (by simpa using S),ABP,G1 rfl,show(Go.Sort.ahead W m).heap=W.heap from rfl,L];simp[onCells]
    have ay:(nY l.toArray).size=l.length:=by rw[<-E];simp[j8]
    have X:=hr.put a b b _ (.ar 2 ((j8 l).map bB) cap true false) (W':=sortWorldK js 2 W _ _ m _ os) I G rfl rfl (.ar _ _ _ _ _ _ _ _ _ _ (by simp[E]) (λ_=>⟨rfl,rfl⟩) (λc k=>⟨rfl,k⟩)) rfl rfl rfl (by simp[sortWorldK,putRowK,ahead]) (λr g az=>by simp only[sortWorldK,grow,putRowK,Go.Sort.putRow,mapBlock];rw[ABr (by simpa using g),ABP];rw[E1 (AAN az)];rfl) (.inl rfl) (by simp[sortWorldK,putRowK,ahead];omega) (by
 refine⟨?_,λc k=>by rw[S2,E];simpa using ak c k,by rw[S2,E];exact Q,_,J,hW,by simpa[putCells]using al,?_⟩;·intro i r g;rw[eH]at g;cases Y:(j8 l)[i]? with|none=>rw[Y]at g;cases g|some x=>rw[Y]at g;cases g;rfl
 intro i r j p a0 f;obtain⟨hi,A,B⟩:=T8 a0 f;refine⟨(js (j8 l)[i]!)[j]!,?_,?_⟩
 ·have Z:=T7 _ i j hi A;have e4:(j8 l).toArray=nY l.toArray:=by simp[j8]
  rw[e4]at Z;have a2:b.off+(i*2+j)<s.size:=by omega
  simp only[putCells,Array.getElem?_mapIdx,gC a2,ef];rw[G1 ⟨by omega,by rw[size_flatK,ay];omega⟩,show b.off+(i*2+j)-b.off=i*2+j by omega,Z];rfl
 exact⟨(B K).2,(B _).1⟩);exact⟨_,_,X.1,X.2,.tu _ _ [] [] rfl (λj d v x y=>by simp at x)⟩
   grind
  grind
 grind
end
section
open Go.Dm Go.Proofs Go.ChangeMaps
def AQ{K:Kn}{μ:Mu}{H:ab}{x:D}{vs:List Value}(h:aY K μ H [x] vs):∃v,vs=[v]/\VR K μ H x v:=by match vs,h.1 with|[v],_=>exact⟨v,rfl,h.2 0 _ _ rfl rfl⟩
def Ge{K:Kn}{μ:Mu}{H:ab}{x y:D}{vs:List Value}(h:aY K μ H [x,y] vs):∃v w,vs=[v,w]/\VR K μ H x v/\VR K μ H y w:=by match vs,h.1 with|[v,w],_=>exact⟨v,w,rfl,h.2 0 _ _ rfl rfl,h.2 1 _ _ rfl rfl⟩
def amk:mc Tryz.prog 150:=⟨Tryz.f150,Tryz.func150,by kernel_rfl,by decide+kernel⟩
def TQ:mc Tryz.prog 149:=⟨Tryz.f149,Tryz.func149,by kernel_rfl,by decide+kernel⟩
def TR:mc Tryz.prog 305:=⟨Tryz.f305,Tryz.func305,by kernel_rfl,by decide+kernel⟩
def TS:mc Tryz.prog 88:=⟨Tryz.f88,Tryz.func88,by kernel_rfl,by decide+kernel⟩
def TU(f:FuncId)(args:List D)(H:ab)(d:D)(l:ab)(h:pU f args H=some (d,l)):H.length<=l.length/\mc Tryz.prog f/\∀(K:Kn)(μ:Mu)(W:World)(vs:List Value),fH K W->HR K μ H W->aY K μ H args vs->Calls Tryz.prog f vs.toArray W (fu K μ H W d l):=by
 unfold pU at h;split at h
 ·rename_i c;subst c;split at h;·obtain⟨g,i⟩:=am3 h;refine⟨g,amk,λK μ W vs j hr a=>?_⟩;obtain⟨v,w,rfl,b,k⟩:=Ge a;exact i K μ W v w j hr b k
  cases h
 split at h
 ·rename_i c;subst c;split at h;·cases h;refine⟨Hk _,TQ,λK μ W vs j hr a=>?_⟩;obtain⟨v,rfl,b⟩:=AQ a;cases b;refine(Tryz.sort_nil W).mono ?_;rintro e m⟨rfl,rfl⟩;exact⟨K,μ,hr,.refl _ _ _ _,Gm⟩
  ·obtain⟨g,i⟩:=amY h;refine⟨g,TQ,λK μ W vs j hr a=>?_⟩;obtain⟨v,rfl,b⟩:=AQ a;exact i K μ W v hr b
  cases h
 split at h
 ·rename_i c;subst c;split at h;·cases h;refine⟨Hk _,TR,λK μ W vs j hr a=>?_⟩;obtain⟨v,rfl,b⟩:=AQ a;cases b;refine(Any.slices_Compact_int_empty Tryz.compL none 0 W).mono ?_;rintro e m⟨rfl,rfl⟩;exact⟨K,μ,hr,.refl _ _ _ _,.nil ..⟩
  ·obtain⟨g,i⟩:=amZ h;refine⟨g,TR,λK μ W vs j hr a=>?_⟩;obtain⟨v,rfl,b⟩:=AQ a;exact i K μ W v hr b
  cases h
 split at h
 ·rename_i c;subst c;split at h;·cases h;refine⟨Hk _,TS,λK μ W vs j hr a=>?_⟩;obtain⟨v,w,rfl,b,k⟩:=Ge a;cases b;refine(AnyF.slices_SortFunc_none Tryz.sortSp none 0 _ W).mono ?_;rintro e m⟨rfl,rfl⟩;exact⟨K,μ,hr,.refl _ _ _ _,Gm⟩
  ·obtain⟨g,i⟩:=am7 h;refine⟨g,TS,λK μ W vs j hr a=>?_⟩;obtain⟨v,w,rfl,b,k⟩:=Ge a;exact i K μ W v w hr b k
  cases h
 cases h
def jr:Tryz.prog.follows .mixedOrders=true:=by kernel_rfl
def iq:cm Tryz.prog V1 fH:=XO (e:=pU) (p:=λ_ _=>none) T5 TU (λ_ _ _ _ _ h=>by cases h) (λg w rows h K W a=>a.g g w rows h)
set_option maxRecDepth 100000
def vR:List ae:=[⟨.mov (.s 15),none,none⟩,⟨.stk,some 20,none⟩]
def aml:cd Tryz.prog V1 93 lO mH (sL uj) (kL 0)=true:=by kernel_rfl
def amm:cd Tryz.prog V1 93 lO mH (sL (sR uj)) (kL 1)=true:=by kernel_rfl
def amn:cd Tryz.prog V1 93 lO mH (sL (sR (sR uj))) (kL 2)=true:=by kernel_rfl
def amo:cd Tryz.prog V1 93 lO mH (sL (sR (sR (sR uj)))) (kL 3)=true:=by kernel_rfl
def okR:mR Tryz.prog V1 93 lO mH (eS mI) none vR=true:=by kernel_rfl
def okN:mR Tryz.prog V1 93 gU [] (eS lP) none F6=true:=by kernel_rfl
def okE:mR Tryz.prog V1 93 gU [] (eS nS) none TD=true:=by kernel_rfl
def okQ:cd Tryz.prog V1 93 gU [] TI F7=true:=by kernel_rfl
def okS:cd Tryz.prog V1 93 gU [] al6 F8=true:=by kernel_rfl
def okF:cd Tryz.prog V1 93 gU [] al7 F9=true:=by kernel_rfl
def ul:nodup lO=true:=by kernel_rfl
def um:∀t∈lO,t<93:=by decide
def wS:nodup gU=true:=by kernel_rfl
def wT:∀t∈gU,t<93:=by decide
def opR:∃o,(eS mI)[1]?=some o/\o.op=.range 202 (.tmp 73)/\o.dst=some 74/\o.guard=none:=⟨(eS mI)[1]!,by kernel_rfl,by kernel_rfl,by kernel_rfl,by kernel_rfl⟩
def opN:∃o,(eS lP)[0]?=some o/\o.op=.next (.tmp 74) false/\o.dst=some 75/\o.guard=none:=⟨(eS lP)[0]!,by kernel_rfl,by kernel_rfl,by kernel_rfl,by kernel_rfl⟩
def amx:∃o,(eS nS)[0]?=some o/\o.op=.entry (.tmp 74)/\o.dst=some 77/\o.guard=none:=⟨(eS nS)[0]!,by kernel_rfl,by kernel_rfl,by kernel_rfl,by kernel_rfl⟩
def szR:(eS mI).size=2:=by kernel_rfl
def szN:(eS lP).size=2:=by kernel_rfl
def szE:(eS nS).size=3:=by kernel_rfl
def amB:Tryz.f103.body=some uj:=by kernel_rfl
def amC:gj Tryz.prog gU [] Tryz.f103.results.toList [.s 6]=true:=by kernel_rfl
end
section
open Go.Dm Go.Proofs Go.ChangeMaps
def lQ(e:MapEntry):Int:=match e.val with|.int _ n=>n|_=>0
def lR(rows:List (List D))(a:List MapEntry):List Int:=(a.filter λe=>!jx rows[(lQ e).toNat]!).map lQ
structure AR(rows:List (List D))(e:MapEntry):Prop where k:∃s:List UInt8,e.key=.string ⟨s.toArray⟩v:∃i:Nat,i<rows.length/\e.val=.int .i64 i
abbrev AS:an:=.ar 1 [] (some 0) true true
def TV(l:List Int):(hL l)[0]?=some AS:=by unfold hL bH<;>grind
section
variable{E:En}{x0 x1 x2 c:D}{rows:List (List D)}{mes:Array MapEntry}{clock bm r:Nat}
structure LM(mes:Array MapEntry)(clock bm r:Nat)(vis:List MapEntry)(K:Kn)(μ:Mu)(H:ab)(W:World):Prop where
 ar:rD K μ H W r
 am:rD K μ H W bm
 μ0:μ 0=some ⟨r,0,0⟩it:W.heap[r]?=some (.mapIter (some bm) clock (vis.map (·.born)).toArray clock)hm:W.heap[bm]?=some (.map mes clock)
variable{i:List MapEntry}{e f:Mu}{g h:World}
def LM.nx{K d:Kn}{H c:ab}(a:LM mes clock bm r i K e H g)(k:H[0]?=some AS)(m:c[0]?=some AS)(nx:Nx K e H g d f c h):LM mes clock bm r i d f c h:=by
 obtain⟨l,b,g1,j,n⟩:=nx.ext.m 0 _ _ a.μ0 k;rw[m]at j;cases j;have t:l=⟨r,0,0⟩:=by cases n<;>grind
 obtain⟨o,p⟩:=a.ar.nx nx;obtain⟨q,s⟩:=a.am.nx nx;exact⟨o,q,by grind,by rw[p];exact a.it,by rw[s];exact a.hm⟩
structure LI(E:En)(x0 x1 x2 c:D)(l:List Int)(mes:Array MapEntry)(clock bm r:Nat)(vis:List MapEntry)(K:Kn)(μ:Mu)(j2 j4 j5 j6:D)(a:Act)(W:World):Prop where
 fs:FS E gU [] K μ (λ_=>none) [.ip [x0,x1,x2,c],dL l,j2,.aa 0,j4,j5,j6] (hL l) a.tmps W
 lm:LM mes clock bm r vis K μ (hL l) W
 sz:a.tmps.size=93
 df:a.defers=[]
variable{x y z a b d:D}
def LI.ptr{l:List Int}{K:Kn}{a:Act}(h:LI E x0 x1 x2 c l mes clock bm r i K e x y z b a g):a.eval (.tmp 74)=.pointer (some ⟨r,0,none⟩):=by obtain⟨d,v,j,m,k⟩:=h.fs.val 3 74 rfl rfl;cases j;cases k with|aa _ _ _ l w rows c p lk f n=>rw[h.lm.μ0]at f;cases f;show a.tmps.getD 74 undef=_;simp_all
def LI.bool{l:List Int}{K:Kn}{f:D}{x:Bool}{a:Act}(h:LI E x0 x1 x2 c l mes clock bm r i K e y (.b x) z f a g):a.eval (.tmp 76)=.bool x:=by obtain⟨d,v,j,m,k⟩:=h.fs.val 4 76 rfl rfl;cases j;cases k;show a.tmps.getD 76 undef=_;simp_all
def AT{P:Program}{o:Oper}{a:Operand->Value}{v:Value}{s:Sem Value}(b:s.run P g=.ok v h)(c:execOp a o=(do pure (.value (<-s)))):(execOp a o).run P g=.ok (.value v) h:=by simp_all
def amD{e:MapEntry}{a:Nat}(b:e.val=.int .i64 a):lR rows (i++[e])=if jx rows[a]! then lR rows i else lR rows i++[(a:Int)]:=by grind[lQ,lR,jx]
def TW{vis:List MapEntry}:(lR rows vis).length<=vis.length:=by grind[lR]
theorem LI.base{l:List Int}{K:Kn}{a:Act}(h:LI E x0 x1 x2 c l mes clock bm r i K e x y z b a g)(d:TE fH E):TE fH ⟨K,e,hL l,g⟩:=⟨iq.up d.1 d.2 h.fs.nx,h.fs.hr⟩
theorem LI.over{l j:List Int}{K m:Kn}{s:Nat->Option Nat}{n o p:D}{a k:Act}(q:LI E x0 x1 x2 c l mes clock bm r i K e x y z b a g)(fs:FS ⟨K,e,hL l,g⟩ gU [] m f s [.ip [x0,x1,x2,c],dL j,d,.aa 0,n,o,p] (hL j) k.tmps h)(hs:k.tmps.size=93)(t:k.defers=[]):LI E x0 x1 x2 c j mes clock bm r i m f d n o p k h:=⟨q.fs.over fs,q.lm.nx (TV l) (TV j) fs.nx,hs,t⟩
def tu1{K:Kn}{H:ab}{d:D}{v:Value}(h:VR K e H d v):VR K e H (.tu [d]) (.tuple #[v]):=.tu _ _ _ [_] rfl (λj d v a b=>by grind)
def tu2{K:Kn}{H:ab}{d:D}{v w:Value}(h:VR K e H d v)(a:VR K e H x w):VR K e H (.tu [d,x]) (.tuple #[v,w]):=.tu _ _ _ [_,_] rfl (λj d v b c=>by grind)
def tu3{K:Kn}{H:ab}{d f:D}{v w x:Value}(h:VR K e H d v)(a:VR K e H y w)(b:VR K e H f x):VR K e H (.tu [d,y,f]) (.tuple #[v,w,x]):=.tu _ _ _ [_,_,_] rfl (λj d v c g=>by grind)
def amH{Q:Exit->Act->World->Prop}(X:TE fH E){l:List Int}(Y:iL mes clock)(Z:E.w.heap.size<=r)(ab:r≠bm)(ac:∀k∈mes.toList,AR rows k){K:Kn}{m n:D}{a:Act}(h:LI E x0 x1 x2 c l mes clock bm r i K e y z m n a g)(h0:(leftOf mes (i.map (·.born)).toArray).size=0->∀v w p q,LI E x0 x1 x2 c l mes clock bm r i v w y (.b false) m n p q->Q .normal p q)(h1:∀k∈(leftOf mes (i.map (·.born)).toArray).toList,∀v w p q,LI E x0 x1 x2 c l mes clock bm r (i++[k]) v w y (.b true) m n p q->Q .normal p q):lP.wpIn (FW none) 0 Tryz.prog Q a g:=by
 obtain⟨rg,back,hfirst,_⟩:=sT okN wS wT;obtain⟨o,J,H,au,L⟩:=opN;have hit:=h.lm.it;have af:=Y.lt;rw[al9];refine wpIn_region ?_;rw[szN,show List.range 2=[0,1]from rfl];have M:RI (dW Tryz.prog V1 93 gU [] (eS lP) F6) E [] (λj=>j<0) _ K e [.u,.u] [.ip [x0,x1,x2,c],dL l,y,.aa 0,z,m,n] _ a g:=⟨h.fs,λj o vo t hj=>absurd hj (by omega),h.sz,h.df,rfl⟩;have C:=run_next_at (P:=Tryz.prog) g o.type r bm clock clock _ mes clock hit h.lm.hm af (Hk _);have N:execOp a.eval o=(do pure (.value (<-Instr.next (.pointer (some ⟨r,0,none⟩)) false o.type))):=by unfold execOp;rw[H,<-h.ptr]
 have S:∀{x:Bool}{d:D}{I:List _}{F:Act}{A:World}{U:List D},d=.tu (.b x::U)->LI E x0 x1 x2 c l mes clock bm r I K e y z m n F A->RI (dW Tryz.prog V1 93 gU [] (eS lP) F6) E [] (λj=>j=0\/j<0) (λ_=>none) K e [d,.u] [.ip [x0,x1,x2,c],dL l,y,.aa 0,z,m,n] (hL l) F A->(∀v w p q,LI E x0 x1 x2 c l mes clock bm r I v w y (.b x) m n p q->Q .normal p q)->wpOpsIn (FW none) 0 Tryz.prog (eS lP) Q [1] F A:=by rintro x d I F A U rfl hl f hk;have ah:RI _ ⟨K,e,hL l,A⟩ [] _ _ K e [.tu _,.u] [.ip [x0,x1,x2,c],dL l,y,.aa 0,z,m,n] _ F A:=⟨hl.fs.base,f.lr,f.sz,f.df,f.ln⟩;refine qU rg ah iq (hl.base X) (qh jr iq 0) (i:=1) rfl (by decide) (by intro hx;cases hx) (dr:=none) (loc1:=[.tu _,.b x]) (st1:=⟨[.ip [x0,x1,x2,c],dL l,y,.aa 0,.b x,m,n],hL l⟩) rfl (λL' v w p q r2=>?_);exact hk v w p q (hl.over r2.fs r2.sz r2.df)
 rcases C with⟨hz,C⟩|⟨k,V,B,W,C⟩;·refine AP rg M J rfl L rfl rfl (by rw[H];intro cl k;cases k) (AT C N) h.fs (.refl _ _ _) (tu1 (.b ..)) (λf=>?_);exact S rfl ⟨f.fs,h.lm,f.sz,f.df⟩ f (h0 hz)
 obtain⟨al,ax⟩:=Tz V;obtain⟨⟨ks,am⟩,⟨az,hi,an⟩⟩:=ac k al;have G:B.heap=g.heap:=by rcases W with rfl|rfl<;>rfl
 have ao:FS E gU [] K e (λ_=>none) [.ip [x0,x1,x2,c],dL l,y,.aa 0,z,m,n] (hL l) a.tmps B:=by
  rcases W with rfl|rfl;·exact h.fs
  exact h.fs.drew
 have ap:rD K e _ B r:=⟨h.lm.ar.own,h.lm.ar.kn,by rw[G];exact h.lm.ar.lt⟩;have aq:=ao.blk ap Z (.mapIter (some bm) clock ((i.map (·.born)).toArray.push k.born) clock);have ar:LM mes clock bm r (i++[k]) K e (hL l) (setBlock B r (.mapIter (some bm) clock ((i.map (·.born)).toArray.push k.born) clock)):=by
  refine⟨⟨h.lm.ar.own,h.lm.ar.kn,?_⟩,⟨h.lm.am.own,h.lm.am.kn,?_⟩,h.lm.μ0,?_,?_⟩;·simpa[setBlock,G]using h.lm.ar.lt
  ·simpa[setBlock,G]using h.lm.am.lt
  ·rw[show(setBlock B r _).heap[r]?=_ from World.putObj_heap_same (by rw[G];exact h.lm.ar.lt)];simp
  rw[show(setBlock B r _).heap[bm]?=_ from World.putObj_heap_other (AAN ab),G];exact h.lm.hm
 refine AP rg M J rfl L rfl rfl (by rw[H];intro cl k;cases k) (AT C N) aq (.refl _ _ _) (tu3 (.b ..) (by rw[am];exact .s ..) (by rw[an];exact .i ..)) (λf=>?_);exact S rfl ⟨f.fs,ar,f.sz,f.df⟩ f (h1 k V)
def amI{Q:Exit->Act->World->Prop}(p:TE fH E){l:List Int}(w:iL mes clock){f:MapEntry}(A:f∈mes.toList){k:List UInt8}{d:Nat}(B:f.key=.string ⟨k.toArray⟩)(C:f.val=.int .i64 d){K:Kn}{a:Act}(h:LI E x0 x1 x2 c l mes clock bm r (i++[f]) K e x y z b a g)(F:∀q v m n,LI E x0 x1 x2 c l mes clock bm r (i++[f]) q v (.i .i64 d) y z b m n->Q .normal m n):nS.wpIn (FW none) 0 Tryz.prog Q a g:=by
 have hit:g.heap[r]?=some (.mapIter (some bm) clock ((i.map (·.born)).toArray.push f.born) clock):=by rw[h.lm.it];simp
 obtain⟨rg,back,hfirst,_⟩:=sT okE wS wT;obtain⟨o,G,H,Z,I⟩:=amx;rw[ama];refine wpIn_region ?_;rw[szE,show List.range 3=[0,1,2]from rfl];have J:RI (dW Tryz.prog V1 93 gU [] (eS nS) TD) ⟨K,e,hL l,g⟩ [] (λj=>j<0) _ K e [.u,.u,.u] [.ip [x0,x1,x2,c],dL l,x,.aa 0,y,z,b] _ a g:=⟨h.fs.base,λj o vo t L=>absurd L (by omega),h.sz,h.df,rfl⟩;have M:=run_entry_at (P:=Tryz.prog) g r bm clock _ mes clock f hit h.lm.hm A w.nd;have N:execOp a.eval o=(do pure (.value (<-Instr.entry (.pointer (some ⟨r,0,none⟩))))):=by unfold execOp;rw[H,<-h.ptr]
 refine AP rg J G rfl I rfl rfl (by grind) (AT M N) h.fs.base (.refl _ _ _) (tu2 (by rw[B];exact .s ..) (by rw[C];exact .i ..)) (λS=>?_);refine qU rg S iq (h.base p) (qh jr iq 0) (i:=1) rfl (by decide) (by grind) (dr:=none) (loc1:=[.tu [.s k,.i .i64 d],.i .i64 d,.u]) (st1:=⟨[.ip [x0,x1,x2,c],dL l,x,.aa 0,y,z,b],hL l⟩) rfl (λL' q v m n r2=>?_);refine qU rg r2 iq (h.base p) (qh jr iq 0) (i:=2) rfl (by decide) (by intro U;cases U) (dr:=none) (loc1:=[.tu [.s k,.i .i64 d],.i .i64 d,.i .i64 d]) (st1:=⟨[.ip [x0,x1,x2,c],dL l,.i .i64 d,.aa 0,y,z,b],hL l⟩) rfl (λL2 V W X Y r3=>?_);exact F V W X Y (h.over r3.fs r3.sz r3.df)
end
end
section
open Go.Dm Go.Proofs Go.ChangeMaps
section
variable{E:En}{x0 x1 x2 c:D}{rows:List (List D)}{mes:Array MapEntry}{clock bm r:Nat}
variable{i:Exit->Act->World->Prop}{e f:Mu}{x y z a b d:D}{g h:World}
def amJ(u:TE fH E)(L:Sl 24 rows c)(M:rows.all lX=true)(hl:mes.size<1099511627776)(q:iL mes clock)(N:E.w.heap.size<=r)(P:r≠bm)(B:∀j∈mes.toList,AR rows j){K:Kn}{v:D}{a:Act}(h:LI E x0 x1 x2 c [] mes clock bm r [] K e z b d v a g)(Q:∀(f:List MapEntry)s t j2' j4' j5' m n,LI E x0 x1 x2 c (lR rows f) mes clock bm r f s t j2' j4' j5' v m n->f.Perm mes.toList->i .normal m n):(Code.block 2 (.loop (.seq lP (.seq (.cond (.tmp 76) .skip (.exit 2)) (.block 3 (.seq nS TI)))))).wpIn (FW none) 0 Tryz.prog i a g:=by
 refine wpIn_block (wpIn_loop (λa g=>∃f K e z b d,LI E x0 x1 x2 c (lR rows f) mes clock bm r f K e z b d v a g/\(∀j∈f,j∈mes.toList)/\(f.map (·.born)).Nodup) (λ_ g=>match g.heap[r]? with|some (.mapIter _ _ seen _)=>mes.size-seen.size|_=>0) ⟨[],K,e,z,b,d,h,λj l=>(by cases l),by simp⟩ ?_);rintro a g⟨f,K,e,z,b,d,h,C,F⟩;refine wpIn_seq (amH u q N P B h (λS s t m n o=>?_) (λj l s t m n o=>?_));·refine wpIn_seq (wpIn_cond_false o.bool (wpIn_exit ?_));have:=Q f s t _ _ _ m n o (al3 q C F (λj l=>by simpa using al1 S j l));simpa only[Exit.then,Exit.inBlock,if_true]using this
 obtain⟨w,U⟩:=Tz l;obtain⟨⟨ks,V⟩,⟨ak,hi,G⟩⟩:=B j w;have H:∀x∈f++[j],x∈mes.toList:=λx k=>by
  rcases bN.1 k with k|k;·exact C x k
  rw[kz.1 k];exact w
 have I:((f++[j]).map (·.born)).Nodup:=by rw[hI];refine AAL.2 ⟨F,by simp,λx k y J=>?_⟩;simp[fA,y4,kz]at J;subst J;intro W;subst W;exact U (by simpa using k)
 have al:=by have:=al4 q H I;simpa using this
 refine wpIn_seq (wpIn_cond_true o.bool (wpIn_skip ?_));refine wpIn_block (wpIn_seq (amI u q w V G o (λX Y a2 W2 p=>?_)));have Z:(lR rows f).length<1099511627776:=by have:=TW (rows:=rows) (vis:=f);omega
 refine wpIn_mono (rE jr iq wS wT (p.base u) okQ (amg L M Z hi) ⟨λ_=>none,X,Y,p.fs.base,p.sz,p.df⟩ (λ_ _ hq=>hq.1)) ?_;rintro ex a3 W3⟨rfl,st,⟨_,rfl⟩,L3,K3,ac,ad,ae,af⟩;have A:=p.over ad ae af;rw[<-amD G]at A;refine⟨⟨f++[j],K3,ac,_,_,_,A,H,I⟩,?_⟩;have e1:=A.lm.it;have e0:=h.lm.it;simp only[e1,e0];simp;omega
end
variable{e f:Mu}
def Gf{d:D}(h:eW d=true){K c:Kn}{k:Mu}{H l:ab}{v:Value}(m:VR K e H d v)(g:∀b o v,K b o=some v->c b o=some v):VR c k l d v:=by
 cases m<;>first|(cases h;done)|exact .s ..|exact .nil ..|exact .z ..|skip
 rename_i w rows blk u cap f n p q t hr;exact .im _ _ _ _ _ _ _ f n p (λi r j d a b=>g _ _ _ (q i r j d a b)) t (λi r j d a b=>(hr i r j d a b).ext (aS.zero g))
def amK{w:Nat}{rows:List (List D)}{d:D}(h:Sl w rows d):eW d=true:=by cases h<;>rfl
def amL:∃k e,Tryz.prog.underlying 202=some (.map k e):=by simp[]
theorem TX{rows:List (List D)}{name:List UInt8}{date known:Int}:∀n,(cr rows name date known n).length<=n
 |0=>Hk _|n+1=>by
  have cA:∀(l:List UInt8)(m:List _),(iw l n m).length<=m.length+1:=by intro l m;induction m<;>grind[iw]
  have a:=TX (rows:=rows) (name:=name) (date:=date) (known:=known) n;grind[cA,rV,cr,Gc,iy]
variable{g h:World}{x y z a b d:D}
def amM{J K:Kn}{L:Nat->Option Nat}{x0 x1 x2 c p kn M N P Q S U V W X Y:D}{m:List (List UInt8×Nat)}{a:Act}{bm r:Nat}{mes:Array MapEntry}{clock:Nat}(fs:FS ⟨J,aG,[],g⟩ lO mH K e L [p,y,z,kn,.nil,M,N,P,.u,.u,.bx [x0,x1,x2,c],Q,S,U,V,.mp 0,W,X,Y,.nil,.ip [],.u] [.mp (jZ m)] a.tmps h)(hs:a.tmps.size=93)(hd:a.defers=[])(h0:eW x0=true)(h1:eW x1=true)(h2:eW x2=true)(h3:eW c=true)(hp:a.tmps[74]?=some (.pointer (some ⟨r,0,none⟩)))(hr:h.heap[r]?=some (.mapIter (some bm) clock #[] clock))(Z:h.heap[bm]?=some (.map mes clock))(ak:∀o v,K r o≠some v)(al:∀o v,K bm o≠some v)(am:∀k,L k≠some r)(an:∀k,L k≠some bm):∃K',LI ⟨J,aG,[],g⟩ x0 x1 x2 c [] mes clock bm r [] K' (aG.upd 0 ⟨r,0,0⟩) .u .u .u .nil a h:=by
 have ab:∀{x:Nat}{o:Obj},h.heap[x]?=some o->x<h.heap.size:=λ{x o}f=>by grind
 rcases fs.box 10 4 rfl rfl with hbx|⟨w,cs,vs,ty,hL,aq,ar,au,F⟩;·cases hbx
 cases aq;obtain⟨o1,o2,o3,o4⟩:=fs.own 10 w hL;have B:∀b o v,K b o=some v->(if b=w then vs[o]? else K b o)=some v:=λb o v f=>by grind
 have C:∀x,¬bT (aG.upd 0 ⟨r,0,0⟩) [AS] x:=by
  rintro x⟨id,l,b,H,s,E,e4⟩;have:id=0:=by grind
  subst this;cases s;cases E
 have av:r≠w:=λf=>am 10 (by grind);have ax:bm≠w:=λf=>an 10 (by grind);refine⟨λb o=>if b=w then vs[o]? else K b o,⟨⟨⟨?_,?_,?_,?_,?_,?_,?_⟩,⟨⟨?_,?_⟩,fs.nx.os,fs.nx.tape,fs.nx.output,fs.nx.size,fs.nx.keep,?_,?_⟩,rfl,?_,λk t _ b=>(by grind),λk r f=>(by cases f),λk k' r f=>(by cases f)⟩,⟨⟨C _,?_,ab hr⟩,⟨C _,?_,ab Z⟩,rfl,hr,Z⟩,hs,hd⟩⟩
 ·intro id l f;unfold Mu.upd at f;split at f;·rename_i A;subst A;constructor<;>grind
  cases f
 ·intro id A;have:=by simpa[Dv.hL,bH]using A
  subst this;exact⟨_,rfl⟩
 ·intro id l b H s;have G:=aw s;have:=by simpa[Dv.hL,bH]using G
  subst this;cases s;exact⟨rfl,λi r hr=>by grind,λc _=>AAs _,λi r j d f=>by grind⟩
 ·intro id l f;unfold Mu.upd at f;split at f;·grind
  cases f
 ·intro id id' l l' b b' _ _ s _ E;have G:=aw s;have:=by simpa[Dv.hL,bH]using G
  subst this;cases s;cases E
 ·intro b o v f;split at f;·rename_i ay;subst ay;rw[cell_of_row h b _ vs ty _ au];exact f
  exact fs.hr.kn b o v f
 ·intro b o v _;exact C b
 ·intro b o v f;exact B b o v (fs.nx.ext.k b o v f)
 ·grind
 ·intro x A;exact(C x A).elim
 ·intro b o v f;split at f;·omega
  exact fs.nx.kg b o v f
 ·have val:∀{k t:Nat}{d:D},lO[k]?=some t->mH.contains k=false->[p,y,z,kn,.nil,M,N,P,.u,.u,.bx [x0,x1,x2,c],Q,S,U,V,.mp 0,W,X,Y,.nil,.ip [],.u][k]?=some d->∃v,a.tmps[t]?=some v/\VR K e [.mp (jZ m)] d v:=λ{k t d}H s E=>by obtain⟨d',v,g1,q,g3⟩:=fs.val k t H s;grind
  intro k t n _;match k,n with
  |0,n=>
  cases n;refine⟨_,_,rfl,ar,?_⟩;have I:∀(j:Nat)(d:D),[x0,x1,x2,c][j]?=some d->∃v,vs[j]?=some v/\v.oneCell'=true/\VR K e [.mp _] d v:=λj d f=>by
   have hj:=aw f;have ad:j<vs.toList.length:=by rw[<-F.1.1];exact hj
   refine⟨vs.toList[j],by simp,F.2 _ (kv ad),F.1.2 j d _ f (E2 ad)⟩
  refine .ip _ _ _ w 0 (λj=>vs[j]!) (λj d f=>?_) (λj d f=>?_) (λj d f=>?_);·obtain⟨v,g1,_⟩:=I j d f;rw[G1 rfl,i4,getElem!_def,g1]
  ·obtain⟨v,g1,q,_⟩:=I j d f;rw[getElem!_def,g1];exact q
  obtain⟨v,g1,_,g3⟩:=I j d f;rw[getElem!_def,g1];refine Gf ?_ g3 B;match j,f with|0,f=>cases f;exact h0|1,f=>cases f;exact h1|2,f=>cases f;exact h2|3,f=>cases f;exact h3
  |1,n=>cases n;obtain⟨v,g1,q⟩:=val (k:=19) rfl rfl rfl;exact⟨_,v,rfl,g1,Gf rfl q B⟩|2,n=>cases n;obtain⟨v,g1,q⟩:=val (k:=21) rfl rfl rfl;exact⟨_,v,rfl,g1,by cases q;exact .u ..⟩|3,n=>cases n;exact⟨_,_,rfl,hp,.aa _ _ 0 ⟨r,0,0⟩ 1 [] 0 true true rfl rfl⟩|4,n=>cases n;obtain⟨v,g1,q⟩:=val (k:=8) rfl rfl rfl;exact⟨_,v,rfl,g1,by cases q;exact .u ..⟩|5,n=>cases n;obtain⟨v,g1,q⟩:=val (k:=9) rfl rfl rfl;exact⟨_,v,rfl,g1,by cases q;exact .u ..⟩|6,n=>cases n;obtain⟨v,g1,q⟩:=val (k:=4) rfl rfl rfl;exact⟨_,v,rfl,g1,Gf rfl q B⟩
 ·intro o v f;rw[E1 av]at f;exact ak o v f
 intro o v f;rw[E1 ax]at f;exact al o v f
def amN:∃o,(eS mI)[0]?=some o/\o.dst=some 73:=⟨(eS mI)[0]!,by kernel_rfl,by kernel_rfl⟩
def Dp{K:Kn}{H:ab}{m:List (List UInt8×Nat)}{mes:Array MapEntry}{rows:List (List D)}(n:∀q∈m,q.2<rows.length)(g:(jZ m).length=mes.size)(h:∀(j:Nat)(k v:D)(a:MapEntry),(jZ m)[j]?=some (k,v)->mes[j]?=some a->VR K aG [] k a.key/\VR K e H v a.val):(∀a∈mes.toList,AR rows a)/\mes.toList.map lQ=m.map (λq=>(q.2:Int)):=by
 rw[amd]at g;have i:∀(j:Nat)(f:j<m.length)(a:MapEntry),mes[j]?=some a->a.key=.string ⟨(m[j].1).toArray⟩/\a.val=.int .i64 m[j].2:=λj f a d=>by
  obtain⟨b,c⟩:=h j (Gb m[j].1) (uk m[j].2) a (by grind[jZ,de]) d;constructor;·generalize a.key=v at b;cases b;rfl
  generalize a.val=v at c;cases c;rfl
 constructor
 ·intro a d;obtain⟨j,f,rfl⟩:=kh.1 d;have l:j<m.length:=by grind
  obtain⟨b,c⟩:=i j l mes.toList[j] (by grind);constructor<;>grind
 refine ACA (by grind) (λj b c=>?_);grind[lQ]
def amO{Q:Exit->Act->World->Prop}{b:Kn}{a:Act}{z:St}{x0 x1 x2 c:D}{rows:List (List D)}{f:List UInt8}{l n:Int}(M:TE fH ⟨b,aG,[],g⟩)(N:M1 x0 x1 x2 c rows f l n .nil z)(P:fW ⟨b,aG,[],g⟩ lO mH 93 [] z a h)(S:eW x0=true)(U:eW x1=true)(V:eW x2=true)(W:eW c=true)(A:∀mes clock bm r p B C,LI ⟨b,aG,[],g⟩ x0 x1 x2 c [] mes clock bm r [] p (aG.upd 0 ⟨r,0,0⟩) .u .u .u .nil B C->iL mes clock->g.heap.size<=r->r≠bm->(∀e∈mes.toList,AR rows e)->mes.toList.map lQ=(cr rows f l n rows.length).map (λq=>(q.2:Int))->Q .normal B C):mI.wpIn (FW none) 0 Tryz.prog Q a h:=by obtain⟨j5,j6,j7,a4,a5,a6,a7,rfl⟩:=N.e;obtain⟨L,K,μ,fs,hs,X⟩:=P;obtain⟨rg,back,hfirst,_⟩:=sT okR ul um;obtain⟨o,Y,E,Z,hg⟩:=opR;obtain⟨o0,ac,ad⟩:=amN;have F:=Gd (rows:=rows) (name:=f) (date:=l) (known:=n) rows.length;generalize cr rows f l n _=m at fs A F;rw[al8];refine wpIn_region ?_;rw[szR,show List.range 2=[0,1]from rfl];have ri:RI (dW Tryz.prog V1 93 lO mH (eS mI) vR) ⟨b,aG,[],g⟩ [] (λj=>j<0) L K μ [.u,.u] _ _ a h:=⟨fs,λj o vo t hj=>absurd hj (by omega),hs,X,rfl⟩;refine qU rg ri iq M (qh jr iq 0) (i:=0) rfl (by decide) (by omega) (dr:=none) (loc1:=[.mp 0,.u]) rfl (λL1 K1 G s w r1=>?_);obtain⟨x,u,e1,e2,e3⟩:=r1.lr 0 o0 _ 73 (.inl rfl) ac rfl ad rfl;cases e1;have ak:VR K1 G [.mp _] _ u:=e3;cases ak with|mp _ _ _ lm es y hH=>
 cases hH;obtain⟨mes,clock,am,H,an,ao⟩:=r1.fs.hr.blk 0 lm _ y rfl;obtain⟨kt,et,ar⟩:=amL;have au:s.eval (.tmp 73)=.map (some lm.blk):=by show s.tmps.getD 73 undef=_;rw[ABm,e2];rfl
 have av:execOp s.eval o=(do pure (.value (<-Instr.range 202 (.map (some lm.blk))))):=by unfold execOp;rw[E,<-au]
 obtain⟨aw,I⟩:=r1.fs.hr.loc (.mapIter (some lm.blk) clock #[] clock);have J:bT G [.mp (jZ m)] _:=⟨0,lm,_,y,rfl,rfl,rfl⟩;have ax:=r1.fs.hr.lt 0 lm y;obtain⟨ee,ev⟩:=Dp F an ao;refine AP rg r1 Y rfl hg rfl rfl (by rw[E];intro cl e;cases e) (AT (run_range_map w 202 kt et _ mes clock ar H) av) (r1.fs.go aw I) I.ext (.ip _ _ [] _ 0 (λ_=>undef) (λj d e=>by cases e) (λj d e=>by cases e) (λj d e=>by cases e)) (λr2=>?_);obtain⟨p,a0⟩:=amM r2.fs r2.sz r2.df S U V W (by rw[Z];exact tj (by rw[r1.sz];decide)) (heap_alloc_new w _) (by rw[@heap_alloc_old w _ _ ax];exact H) (λo v e=>by have:=r1.fs.hr.klt e;omega) (λo v e=>r1.fs.hr.kf _ _ _ e J) (λk e=>by have:=(r1.fs.own k _ e).2.2.2;omega) (λk e=>(r1.fs.own k _ e).1 J);exact A mes clock _ _ p _ _ a0 am r1.fs.nx.size (by omega) ee ev
end
section
open Go.Dm Go.Proofs Go.ChangeMaps
variable{z:List UInt8}{x y:Int}
def amP{rows:List (List D)}{a:Array MapEntry}{b:List MapEntry}(c:b.Perm a.toList)(d:a.toList.map lQ=(cr rows z x y rows.length).map (λq=>(q.2:Int))):cG (lR rows b)=eV rows z x y:=by
 refine amT ?_;refine((c.filter _).map lQ).trans ?_;have f:(a.toList.filter λe=>!jx rows[(lQ e).toNat]!).map lQ=(a.toList.map lQ).filter λn=>!jx rows[n.toNat]!:=by rw[AAK];rfl
 rw[f,d,AAK];have g:((λn:Int=>!jx rows[n.toNat]!)∘λq:List UInt8×Nat=>q.2)=λq=>!jx rows[q.2]!:=by grind
 rw[g]
def amQ(l:List Int):m7 false (hL l) (dL l)=some (du 1 (l.map aW)):=by show dN _ _=_;unfold hL dL;rw[D2 rfl];unfold iN du<;>grind
def Gg{j k l c:D}{rows:List (List D)}(g:Sl 24 rows c)(m:rows.all lX=true)(u:rows.length<1099511627776)(w:eW j=true)(A:eW k=true)(B:eW l=true){K:Kn}{W:World}{vs:List Value}(C:fH K W)(hr:HR K aG [] W)(o:aY K aG [] [.ag [j,k,l,c],.s z,.i .i64 x,.i .i64 y] vs):Calls Tryz.prog 103 vs.toArray W (sx false K W (du 1 ((eV rows z x y).map aW))):=by
 have a:TE fH ⟨K,aG,[],W⟩:=⟨C,hr⟩;have E:vs.length=4:=by rw[<-o.1];rfl
 have F:=vE (bs:=mH) (npar:=4) (nsl:=22) (by decide) rfl (by decide) um ul (by decide) (by decide) rfl E hr o;refine calls_of_wp Tryz.func103 amB (wpIn_wide (n:=0).1 ?_);refine wpIn_seq (wpIn_mono (rE jr iq ul um a aml amb F (λ_ _ h=>h.1)) ?_);rintro d a1 W1⟨rfl,st1,⟨_,rfl⟩,G⟩;refine wpIn_seq (wpIn_mono (rE jr iq ul um a amm amc G (λ_ _ h=>h.1)) ?_);rintro d a2 W2⟨rfl,a0,⟨_,rfl⟩,H⟩;refine wpIn_seq (wpIn_mono (rE jr iq ul um a amn (ame g m u) H (λ_ _ h=>h.1)) ?_);rintro d a3 W3⟨rfl,a5,⟨_,I⟩,J⟩;obtain⟨L,M,N,P,Q,S,U,rfl⟩:=I.e;refine wpIn_seq (wpIn_mono (rE jr iq ul um a amo amf J (λ_ _ h=>h.1)) ?_);rintro d a4 W4⟨rfl,a8,⟨_,rfl⟩,V⟩;refine wpIn_seq (wpIn_seq (amO a ⟨⟨L,M,N,P,Q,S,U,rfl⟩⟩ V w A B (amK g) (λX a9 bm r K' a' W' Y Z hE ab ac p=>?_)));have ad:X.size<1099511627776:=by have e1:=gb List.length p;grind[TX]
 refine amJ a g m ad Z hE ab ac Y (λq K5 ah k2 k4 k5 bh W5 e t=>?_);have ai:(lR rows q).length<1099511627776:=by have e1:=TW (rows:=rows) (vis:=q);have e2:=t.length_eq;grind
 refine wpIn_seq (wpIn_mono (rE jr iq wS wT (e.base a) okS (ami ai) ⟨λ_=>none,K5,ah,e.fs.base,e.sz,e.df⟩ (λ_ _ h=>h.1)) ?_);rintro d a6 W6⟨rfl,bo,⟨_,rfl⟩,L6,K6,ak,al,am,an⟩;have b:=e.over al am an;rw[amP t p]at b;refine wpIn_seq (wpIn_mono (rE jr iq wS wT (b.base a) okF amj ⟨λ_=>none,K6,ak,b.fs.base,b.sz,b.df⟩ (λ_ _ h=>h.1)) ?_);rintro d a7 W7⟨rfl,bt,⟨_,rfl⟩,L7,K7,ap,aq,ar,au⟩;have f:=b.over aq ar au;refine wpIn_ret ⟨f.df,?_⟩;obtain⟨v,g1,g2⟩:=yG f.fs amC rfl;exact⟨v,g1,K7,ap,_,_,f.fs.hr,f.fs.nx,g2,amQ _⟩
def amR{ds:List D}{d:D}(h:xy ds=some d){K:Kn}{W:World}{vs:List Value}(i:fH K W)(hr:HR K aG [] W)(j:aY K aG [] ds vs):Calls Tryz.prog 103 vs.toArray W (sx false K W d):=by
 have k:∀{rows:List _}{e:List UInt8}{f g:Int}{d:D},rW rows e f g=some d->rows.all lX=true/\rows.length<1099511627776/\d=du 1 ((eV rows e f g).map aW):=λ{rows e f g d}h=>by grind[rW]
 unfold xy at h;split at h
 ·rename_i p q r c e f g;split at h
  ·rename_i hs;simp[D0]at hs;obtain⟨⟨l,m⟩,n⟩:=hs;split at h;·obtain⟨a,b,rfl⟩:=k h;exact Gg (.nil rfl) a b l m n i hr j
   ·obtain⟨a,b,rfl⟩:=k h;exact Gg (.z rfl) a b l m n i hr j
   ·split at h;·rename_i o;subst o;obtain⟨a,b,rfl⟩:=k h;exact Gg .im a b l m n i hr j
    grind
   grind
  grind
 grind
set_option maxRecDepth 100000 in def Gh:cm Tryz.prog VS fH:=XO (e:=pU) (p:=LS) T5 TU (λf ds d b c h K W vs a hr i=>by
 unfold LS at h;split at h
 ·rename_i j;subst j;have:b.own=false:=by cases c;rfl
  rw[this];exact amR h a hr i
 cases h) (λg w rows h K W a=>a.g g w rows h)
end
section
open Go.Dm Go.Proofs
set_option maxRecDepth 10000
def own:ownKnob Tryz.prog.godebug=none:=by kernel_rfl
def F1:laidOutB Tryz.prog=true:=by kernel_rfl
abbrev mG:List (String×DataW Unit):=[("annuitant/calendar.lengths",Rows.laid_annuitant_calendar_lengths),("annuitant/operation.argumentKinds",Rows.laid_annuitant_operation_argumentKinds)]
def F2(os:Os)(args:Array Value):laidMetH Tryz.prog mG ((World.doorLaid Tryz.prog 400 os).forCall (λ_ _=>0) ⟨#[],args,[]⟩).memory:=laidMetH_of_parts3 (fuel:=8) (laidMet_of_run' 8 (by kernel_rfl) (by kernel_rfl)) (by kernel_rfl) (by kernel_rfl)
def g0:Tryz.prog.globalNamed "annuitant/operation.argumentKinds"=some 0:=by kernel_rfl
def g1:Tryz.prog.globalNamed "annuitant/calendar.lengths"=some 1:=by kernel_rfl
def t0:(Tryz.prog.globals[0]?).map (·.type)=some 227:=by kernel_rfl
def t1:(Tryz.prog.globals[1]?).map (·.type)=some 327:=by kernel_rfl
def alS:Tryz.prog.underlying 227=some (.array 27 9):=by kernel_rfl
def alT:Tryz.prog.underlying 327=some (.array 12 3):=by kernel_rfl
def u9:Tryz.prog.underlying 9=some .string:=by kernel_rfl
def u3:Tryz.prog.underlying 3=some (.int .i64):=by kernel_rfl
def c9:Tryz.prog.cellsOf 9=1:=by kernel_rfl
def c3:Tryz.prog.cellsOf 3=1:=by kernel_rfl
def alU:Tryz.prog.cellsOf 227=27:=by kernel_rfl
def alV:Tryz.prog.cellsOf 327=12:=by kernel_rfl
def alW:(Rows.laid_annuitant_calendar_lengths:DataW Unit)=Lib.tabData .i64 LK:=rfl
def alX:(Rows.laid_annuitant_operation_argumentKinds:DataW Unit)=.agg (lW.map λz=>.lit (.string z)):=rfl
variable{y:Nat->Bool}
def alY{H:Type}{enc:TypeId×Value->H}{P:Program}{w:World}{base:Nat}{k:Bool}{fuel:Nat}{t e:TypeId}{n:Nat}{c:List Value}{a:List (List UInt8)}{p:List MemPlace}(l:P.underlying t=some (.array n e))(m:P.underlying e=some .string)(o:P.cellsOf e=1)(q:P.cellsOf t=n)(h:DataW.trod enc P w base y k fuel t c=some (.agg (a.map λz=>.lit (.string z)),p)):c=a.map λz=>Value.string ⟨z.toArray⟩:=by cases fuel with|zero=>simp[DataW.trod]at h|succ fuel=>
 simp only[DataW.trod,l,o,q,AAP]at h;split at h
 ·rename_i B;obtain⟨d,g,r⟩:=ka.1 h;have j:d.map (·.1)=a.map λz=>(DataW.lit (.string z):DataW H):=by have:=gb Prod.fst r;simpa using this
  have C:d.length=n:=by simpa using Lib.mapM_length g
  have E:a.length=n:=by have:=gb List.length j;simp at this;omega
  apply m0;intro i;by_cases hi:i<n
  ·obtain⟨b,s,u⟩:=Lib.mapM_at g i i (by simp[hi]);obtain⟨z,v,rfl,_⟩:=DataW.trod_string m u;have x:c[i]?=some (.string z):=by have:=gb (·[0]?) v;simpa[ACS,AAQ]using this
   have f:(d.map (·.1))[i]?=some (DataW.lit (.string z.data.toList):DataW H):=by simp[s]
   rw[j]at f;simp only[eH,ka,DataW.lit.injEq,Lit.string.injEq]at f;obtain⟨F,A,rfl⟩:=f;rw[eH,A,x];rfl
  rw[AAB (by omega),AAB (by simp;omega)]
 cases h
variable{x:World}
def alZ(h:x.ShapedOpen Tryz.prog):∃m,x.cell? ⟨2,0,none⟩=some (.int .i64 m):=Go.Proofs.cell_of_shapedOpen_int (t:=3) (zero:=#[.int .i64 0]) h (by decide+kernel) (by kernel_rfl) rfl (by kernel_rfl) (by kernel_rfl) u3
def Ty{g:Nat}{vs:List Value}{rows:List (List D)}(f:∀i:Nat,x.cell? ⟨g,i,none⟩=vs[i]?)(hr:∀(i:Nat)(r:List D),rows[i]?=some r->∃(d:D)(v:Value),r=[d]/\vs[i]?=some v/\v.oneCell'=true/\∀K,VR K aG [] d v):sy (fi x) g 1 rows:=by
 intro i r e;obtain⟨d,v,rfl,h,k,l⟩:=hr i r e;refine⟨λ_=>v,λj c a=>?_,λj c a=>k,λj c a=>?_⟩
 ·have b:j=0:=by have:=aw a;simpa using this
  subst b;show x.cell? ⟨g,i*1+0,none⟩=_;rw[AAP,k0,f i,h]
 have b:j=0:=by have:=aw a;simpa using this
 subst b;cases a;exact l _
def al0(h:laidMetH Tryz.prog mG x)(j:x.ShapedOpen Tryz.prog):fH (fi x) x:=by
 rw[MakeChecks.laidMetH_plain _ _ _ (by kernel_rfl)]at h;obtain⟨G,⟨H,I,k,J,L,M,l,m,n,d,⟨N,P,o,Q,S,U,p,q,t,f,_,_⟩,_⟩,_,_⟩:=h;have u:=kb (g1.symm.trans l);subst u;have v:=kb (t1.symm.trans m);subst v;have y:=kb (g0.symm.trans p);subst y;have A:=kb (t0.symm.trans q);subst A;rw[alW]at d;rw[alX]at f;have B:=Lib.cells_of_tab alT u3 c3 alV d;have C:=alY alS u9 c9 alU f;have E:=λi=>World.var?_cell g1 n i;have F:=λi=>World.var?_cell g0 t i;refine⟨λg w rows e=>?_,alZ j⟩;unfold B0 at e;split at e;·rename_i c;subst c;cases e;refine Ty (vs:=o.toList) (λi=>by rw[F i];simp) (λi r a=>?_);rw[eH]at a;cases b:lW[i]? with|none=>rw[b]at a;cases a|some z=>rw[b]at a;cases a;exact⟨_,_,rfl,by rw[C,eH,b];rfl,rfl,λK=>.s ..⟩
 split at e;·rename_i c;subst c;cases e;refine Ty (vs:=k.toList) (λi=>by rw[E i];simp) (λi r a=>?_);rw[eH]at a;cases b:LK[i]? with|none=>rw[b]at a;cases a|some z=>rw[b]at a;cases a;exact⟨_,_,rfl,by rw[B,eH,b];rfl,rfl,λK=>.i ..⟩
 cases e
def wR(P:Program)(a:List TypeId):Bool:=a.all λt=>P.readableRec t&&decide (t<P.types.size)
def F3{P:Program}{a:List TypeId}(h:wR P a=true):∀t∈a,P.readableRec t=true/\t<P.types.size:=λt b=>by simp only[wR,TA,D0,Hq]at h;exact h t b
def F4:Tryz.prog.underlying 4=some .bool:=by kernel_rfl
def AN{H:Type}{enc:TypeId×Value->H}{c:Bool}{base:Nat}:∀{a:List TypeId}{vs:List Value}{ds:List (DataW H)}{b:List MemPlace},DataW.TrodAll enc Tryz.prog x base y c a vs ds b->ds.length=a.length|[],vs,ds,b,h=>by obtain⟨_,rfl,_⟩:=Go.ChangeShapes.trodAll_nil h;rfl|t::a,vs,ds,b,h=>by obtain⟨v,vs,d,ds,p0,q0,rfl,rfl,rfl,_,g2⟩:=Go.ChangeShapes.trodAll_cons h;simp[AN g2]
set_option maxRecDepth 100000 in
def F5 {f:FuncId} {fn:Func} {s:ChangeSpec} {os:Os} {H:Type} {enc:TypeId×Value -> H} (c:os.Started) (d:Tryz.checked.prog.inits.idxOf? f=none) (g:Tryz.checked.prog.funcs[f]?=some fn)
    (h : ∃ (w:World) (tape:Tape) (i:Input),w.os=os /\ (w.forCall tape i).Shaped Tryz.checked.prog /\ i.vars=[] /\ Input.okWide Tryz.checked.prog (w.forCall tape i) .any w.heap.size f i /\
      ((s.pre enc Tryz.checked.prog fn [] false (w.forCall tape i).memory i.args /\ laidMetH Tryz.prog mG (w.forCall tape i).memory) /\ sizedMet enc Tryz.checked.prog fn (OpenSpec.ofChange s) false (w.forCall tape i).memory i.args) /\ ({}:Assume).holds Tryz.checked.prog (lone (Frame.enter Tryz.checked.prog f i.args .normal) [] (w.forCall tape i)))
    (k : ∀ (W:World) (base:Nat) (args:Array Value) (ds gs:List (DataW H)) (a:List MemPlace),
      (∀ (j:Nat) t v,fn.params[j]?=some t -> args[j]?=some v -> Value.okWide Tryz.checked.prog W .any base t v) ->
      DataW.Whole enc Tryz.checked.prog fn.params.toList s.vars false W args.toList ds gs a ->
      (DataW.weightsEach Tryz.checked.prog (fn.params.toList++s.plain.varTypes Tryz.checked.prog) (ds++gs)).all (· <= reachBytes)=true -> fH (fi W) W ->
      Calls Tryz.checked.prog f args W fun e b => ∃ v,e = .returned v /\ s.post enc Tryz.checked.prog fn false true false false W args v b) :
    ReturnsInHanded {} Tryz.checked os f .any (fun w args=>(s.pre enc Tryz.checked.prog fn [] false w args /\ laidMetH Tryz.prog mG w) /\ sizedMet enc Tryz.checked.prog fn (OpenSpec.ofChange s) false w args) (s.post enc Tryz.checked.prog fn false true false false):=by
  refine returnsInHanded_of_calls own c d h ?_
  intro w tape i _ l _ m n y
  obtain⟨_,_,_,o,p,_,_,_,_,q⟩:=m
  have e:o=fn:=kb (p.symm.trans g)
  subst e
  obtain⟨⟨⟨ds,gs,a,hw,hc⟩,hx⟩,hz⟩:=n
  have r:=DataW.Whole.of_heap (w':=w.forCall tape i) (by rfl) hw
  refine(k (w.forCall tape i) w.heap.size i.args ds gs a q r (hz.weights hw) (al0 (laidMetH.of_heap (w':=w.forCall tape i) (by rfl) hx) l)).mono fun e b ⟨v,u,x⟩ => ?_
  subst u
  exact ChangeSpec.post_blind x
end
section
open Go.Dm Go.Proofs
set_option maxRecDepth 100000
def F0:ti Tryz.prog [53]=true:=by kernel_rfl
def AM:fE Tryz.prog [53] 53=some (lM 53):=by kernel_rfl
end
section
open Go.Dm
set_option maxRecDepth 10000
def bA{α:Type}(l:List α)(k:Nat)(a:α):List α:=l.take k++a::l.drop k
def alK{α:Type}{p:α->Bool}{l:List α}{k:Nat}{a:α}(h:p a=false):(bA l k a).filter p=l.filter p:=by unfold bA;rw[k7,od,h,E1 ACU,<-List.filter_append,pu]
def AK{α β:Type}{g:α->β}{l:List α}{k:Nat}{a:α}:(bA l k a).map g=bA (l.map g) k (g a):=by unfold bA;rw[hI,fA,ABM,List.map_drop]
def ui{α:Type}{l:List α}{k:Nat}{a:α}:(bA l k a).length=l.length+1:=by unfold bA;simp;omega
def alL{F:List FN}{f:FN}{k:Nat}{key:Nm}{a d:Int}(h:f.key=key->f.frm<=d->d<f.to->¬f.known<=a):eT (cL F key a) d=eT (cL (bA F k f) key a) d:=by
 have:eo (cL F key a) d=eo (cL (bA F k f) key a) d:=by
  unfold eo cL;rw[wQ,wQ,s4,s4,alK];by_cases c:f.key=key
  ·by_cases b:f.frm<=d/\d<f.to;·have:=h c b.1 b.2;simp[c,this]
   simp[b]
  simp[c]
 unfold eT;rw[this]
def alM{p:Pl}{l:List Fc}{f:Fc}{k:Nat}{M:aj}{a:Int}(hr:eJ l=true)(b:eJ (bA l k f)=true)(h:fT M f a=false):jv (p.bw l a).wd (p.bw (bA l k f) a).wd M:=by
 unfold fT at h;simp only[ACK,ABD,p5,Hq,not_and]at h;refine⟨λx c=>⟨rfl,?_⟩,λx c=>?_,λx c=>rfl⟩;·exact .refl (λq=>⟨rfl,rfl⟩) _
 refine⟨_,_,rfl,rfl,?_,?_,?_,λd j m=>?_⟩;·rw[jq];exact(lN hr _ _).1
 ·rw[jq];exact(lN b _ _).1
 ·rw[jq,jq];exact(AJ hr _ _).trans (AJ b _ _).symm
 rw[jq,jq];rw[(lN hr _ _).2,(lN b _ _).2,AK];refine alL λe g i z=>?_;rcases h with h|h;·exact h z
 exact h x c e.symm (by have:f.frm<=d:=g;have:d<f.to:=i;omega)
end
section
open Go.Dm
set_option maxRecDepth 10000
def Tq{H0:ab}{x0 y:D}{w bytes:Nat}{A B:List (List D)}(f:kF x0=true)(g:∀H,eZ H w y=some B)(h:∀r∈B,∀d∈r,d.flat=true)(c:eI (A.length+B.length) bytes=true):bu (bH H0 w A) (bD H0 x0 A) y w bytes true=some (bD H0 x0 (A++B),bH H0 w (A++B)):=by
 have i:=nj (bH H0 w A) h;have e:∀a,fe H0 x0 a w bytes true=iA H0 x0 a w bytes true:=λa=>by cases x0<;>first|rfl|cases f
 simp only[bu,g,i];cases A with
 |nil=>simp only[bD,bH,W0];rw[e];cases B with|nil=>rfl|cons b B=>simp_all[iA]
 |cons u j=>cases B with|nil=>simp_all[bD,bH,fe,kq,aK]|cons b B=>simp[bD,bH,fe,kq,aK,iB];simp at c;simp[c];omega
def alN(p:Pl){l:List Fc}{x:D}(j:Sl 11 (l.map Fc.c) x)(hd:p.defs.length<1000000000000000)(Y:∀c∈p.cls,LX c.w/\LX c.t){v:Nm}{d a:Int}(ha:a<=9223372036854775807)(f:Fc){t:Nat}(ht:t<256):ai VS 3 [p.d,x,.s v,.i .i64 d,.i .i64 a,.ag f.c,.i .u8 t] (.b true):=by obtain⟨u,J,hU⟩:=AI j hd Y (d:=d);have E:=λ{H K}=>J.c (H:=H) (K:=K) vY rfl (by simp[p.pl,j.pl,aV]) (.inl rfl);have o:=λ{H K}=>FY.c (H:=H) (K:=K) D4 rfl rfl (.inl rfl);refine .body (vf:=v3) fn3 rfl ?_;unfold Pl.d at E⊢;cases u with|false=>simp(disch:=omega)only[go_sem,simprocAttr,w9,Fc.c,E,o]|true=>
 have U:=hU rfl;have hl:=U.f.f;by_cases P:(30:Int)<=l.length;·simp(disch:=omega)only[go_sem,simprocAttr,w9,E,o,j.n,Fc.c,P]
 by_cases Z:(4:Int)<f.v.f.l.length;·simp(disch:=omega)only[go_sem,simprocAttr,w9,E,o,j.n,Fc.c,P,f.v.f.hx.n,Z]
 by_cases c3:(4:Int)<f.v.f.m.length;·simp(disch:=omega)only[go_sem,simprocAttr,w9,E,o,j.n,Fc.c,P,f.v.f.hx.n,Z,f.v.f.hy.n,c3]
 simp(disch:=omega)only[go_sem,simprocAttr,w9,E,o,j.n,Fc.c,P,f.v.f.hx.n,Z,f.v.f.hy.n,c3];have w1:IntKind.i64.wrap ((l.length:Int)+1)=(l.length:Int)+1:=wr (by omega) (by omega);have w2:IntKind.i64.wrap (t:Int)=(t:Int):=wr (by omega) (by omega);obtain⟨k,hk⟩:∃k,k=t%(l.length+1):=⟨_,rfl⟩;have bc:k<=l.length:=by rw[hk];have:=ma t (show 0<l.length+1 by omega);omega
 have w3:((t:Int)).tmod ((l.length:Int)+1)=(k:Int):=by rw[hk];rfl
 have w4:¬((l.length:Int)+1=0):=by omega
 have s1:∀{H:ab},dc H 11 x none (some (.i .i64 (k:Int))) none=some (kW x 0 k):=λ{H}=>j.sD (by grind[db,gM,fw]);have s2:∀{H:ab},dc H 11 x (some (.i .i64 (k:Int))) none none=some (kW x k l.length):=λ{H}=>j.sD (by grind[db,gM,fw]);have a1:bu [] .z (kW x 0 k) 11 128 true=some (bD [] .z ((l.take k).map Fc.c),bH [] 11 ((l.take k).map Fc.c)):=vV rfl (j.slT k) Fc.fl (by simp;omega) (by simp;omega);have a2:bu (bH [] 11 ((l.take k).map Fc.c)) (bD [] .z ((l.take k).map Fc.c)) (.sv 11 [[.s f.key,.i .i64 f.frm,.i .i64 f.to,.i .i64 f.known,.b f.gone,.i .u8 f.v.k,.b f.v.f.s,f.v.f.x,.b f.v.f.t,f.v.f.y,.i .i64 f.v.i]]) 11 128 true=some (bD [] .z ((l.take k).map Fc.c++[f.c]),bH [] 11 ((l.take k).map Fc.c++[f.c])):=D1 rfl f.fl (by simp;omega) (by simp;omega);have Q:bu (bH [] 11 ((l.take k).map Fc.c++[f.c])) (bD [] .z ((l.take k).map Fc.c++[f.c])) (kW x k l.length) 11 128 true=some (.mu 0 (l.length+1) 0 (l.length+1),[.ar 11 ((bA l k f).map Fc.c) none true false]):=by
  have q:=j.slM k l.length;have e:((l.drop k).take (l.length-k))=l.drop k:=E4 (by simp);rw[e]at q;have:=Tq (H0:=[]) (x0:=.z) (w:=11) (bytes:=128) (A:=(l.take k).map Fc.c++[f.c]) (B:=(l.drop k).map Fc.c) (y:=kW x k l.length) rfl (λH=>q.cont) (λr hr=>by obtain⟨g,_,rfl⟩:=f0.1 hr;exact TA.1 g.fl) (vU (by simp;omega) (by simp;omega));rw[this];have F:(l.take k).map Fc.c++[f.c]++(l.drop k).map Fc.c=(bA l k f).map Fc.c:=by rw[AK];simp[bA]
  rw[F];have n:((bA l k f).map Fc.c).length=l.length+1:=by rw[S2,ui]
  cases h:(bA l k f).map Fc.c with|nil=>rw[h]at n;cases n|cons r rs=>rw[h]at n;simp only[bD,bH,n];rfl
 have J:=λb=>j.under b;have hv:∀(L:List Nat)(rows:List (List D)),D.over (0,L) (bD [] .z rows)=true:=λL rows=>by cases rows<;>simp[bD,D.over,Bs.ov]
 have hz:∀(L:List Nat),D.over (0,L) .z=true:=λL=>rfl;obtain⟨R,hR⟩:∃R,R=(bA l k f).map Fc.c:=⟨_,rfl⟩;have ao:R.length=l.length+1:=by rw[hR,S2,ui]
 have bd:∀r∈R,∀d∈r,d.flat=true:=by rw[hR];intro r hr;obtain⟨g,_,rfl⟩:=f0.1 hr;exact TA.1 g.fl
 rw[<-hR]at Q;have hX:Sl 11 ((bA l k f).map Fc.c) (.im 11 R):=by rw[<-hR];cases R with|nil=>cases ao|cons r rs=>exact .im
 have aw:∀(lk:Bool)(m:Nat),Dm.bC (m+3) [.ar 11 R none true lk] (.mu 0 (l.length+1) 0 (l.length+1))=some (.im 11 R,[.ar 11 R none true true]):=λlk m=>by
  have a3:aK [.ar 11 R none true lk] 0 (l.length+1)=some (11,R,none,true,lk):=by simp[Dm.aK,ao]
  rw[gJ];simp[a3,E4,ao]
 have N:∀{K:CR->Prop},ac VS 9 [.mu 0 (l.length+1) 0 (l.length+1)] [.ar 11 R none true false] K↔K (.ret (.b (eJ (bA l k f))) [.ar 11 R none true true]):=λ{K}=>by have S:=fX (K:=K) vZ rfl (Af hX (by rw[ui];omega)) (args:=[.mu 0 (l.length+1) 0 (l.length+1)]) (H:=[.ar 11 R none true false]) (H1:=[.ar 11 R none true true]) (by show aX 12 _ _=_;rw[gK,aw];rfl);exact S
 cases V:eJ (bA l k f)with|false=>rw[V]at N;simp(disch:=omega)only[go_sem,simprocAttr,w1,w2,w3,w4,s1,s2,a1,a2,Q,J,hv,hz,N,o]|true=>
 rw[V]at N;have G:=U.b;have U':AH p (bA l k f) d:=⟨⟨U.f.d,U.f.c,U.f.t,by rw[ui];omega⟩,by unfold iV at G⊢;rw[V];simp only[D0]at G⊢;exact⟨G.1,trivial⟩⟩;obtain⟨r,y,M,t1,C⟩:=uh j (nm:=v) (d:=d) (known:=a) U Y ha;obtain⟨W,y',M',t2,X⟩:=uh hX (nm:=v) (d:=d) (known:=a) U' Y ha;obtain⟨q1,q2,rfl,_⟩:=C.v.h;obtain⟨q3,q4,rfl,_⟩:=X.v.h;have F:=λ{H K}=>t1.c (H:=H) (K:=K) qW rfl (by simp[p.pl,j.pl,aV,nq]) (.inl rfl);have a9:∀{H:ab},aX 12 H [.s v,.i .i64 d,.i .i64 a]=some ([.s v,.i .i64 d,.i .i64 a],H):=λ{H}=>vQ 10 H (by simp[nh,jR]);have n:∀{K:CR->Prop},ac VS 10 [p.d,.mu 0 (l.length+1) 0 (l.length+1),.s v,.i .i64 d,.i .i64 a] [.ar 11 R none true true] K↔K (.ret (.tu [.ag [.i .u8 W.v.k,.b (decide (W.v.n<0)),q3,.b false,q4,.i .i64 W.v.i],cO M',.i .i64 W.e]) [.ar 11 R none true true]):=λ{K}=>by have S:=fX (K:=K) qW rfl t2 (args:=[p.d,.mu 0 (l.length+1) 0 (l.length+1),.s v,.i .i64 d,.i .i64 a]) (H:=[.ar 11 R none true true]) (H1:=[.ar 11 R none true true]) (by show aX 12 _ _=_;rw[gK,Pc p.pl];dsimp only;rw[gK,aw];dsimp only;rw[a9]);simp only[zu,show xb.own=false from rfl]at S;exact S
 have I:=λ{H K}=>(Tf C.m f a).c (H:=H) (K:=K) D5 rfl (by simp[f.pl,mF,aV]) (.inl rfl);unfold Pl.d at F n;unfold cO at F n I;unfold Fc.c at I;cases hn:fT M f a with|true=>rw[hn]at I;simp(disch:=omega)only[go_sem,simprocAttr,w1,w2,w3,w4,s1,s2,a1,a2,Q,J,hv,hz,N,o,F,n,I]|false=>rw[hn]at I;unfold iV at G;simp only[D0]at G;obtain⟨rfl,rfl⟩:=(Gw C.j (alM G.2 V hn)).det X.j;have e5:=λ{H K}=>(FU C.v X.v C.n C.m r.e).c (H:=H) (K:=K) zD rfl (by simp[C.v.pl,X.v.pl,aV,mF]) (.inl rfl);unfold cO at e5;simp(disch:=omega)only[go_sem,simprocAttr,w1,w2,w3,w4,s1,s2,a1,a2,Q,J,hv,hz,N,o,F,n,I,e5]
end
section
open Go.Dm
set_option maxRecDepth 10000
def gT(k i:Nat):Nat:=if i<k then i else i+1
def AL{α:Type}[Inhabited α]{l:List α}{k:Nat}{a:α}(b:k<=l.length)(i:Nat):(bA l k a)[gT k i]! =l[i]!:=by
 unfold bA gT;simp only[ABb];congr 1;by_cases c:i<k;·rw[G1 c,X0 (by simp;omega),List.getElem?_take_of_lt c]
 rw[E1 c,dg (by simp;omega)];have e:i+1-(l.take k).length=(i-k)+1:=by simp;omega
 rw[e,ABA,AAQ];congr 1;omega
def Ts{α:Type}[Inhabited α]{l:List α}{k:Nat}{a:α}(b:k<=l.length):(bA l k a)[k]! =a:=by
 unfold bA;simp only[ABb];rw[dg (by simp;omega)];have e:k-(l.take k).length=0:=by simp;omega
 rw[e];rfl
def Tt{k:Nat}{x:Nm}:∀{m:List (Nm×Nat)},jy x (m.map λq=>(q.1,gT k q.2))=(jy x m).map (gT k)|[]=>rfl|(y,i)::m=>by have a:=Tt (k:=k) (x:=x) (m:=m);simp only[fA,jy,a];split<;>rfl
def FZ{k i:Nat}{x:Nm}:∀{m:List (Nm×Nat)},iw x (gT k i) (m.map λq=>(q.1,gT k q.2))=(iw x i m).map λq=>(q.1,gT k q.2)|[]=>rfl|(y,j)::m=>by have a:=FZ (k:=k) (i:=i) (x:=x) (m:=m);simp only[fA,iw,a];split<;>rfl
def alO{rows:List (List D)}{r:List D}{k:Nat}(b:k<=rows.length){nm:Nm}{d a:Int}(i:Nat)(m:List (Nm×Nat)):iy (bA rows k r) nm d a (m.map λq=>(q.1,gT k q.2)) (gT k i)=(iy rows nm d a m i).map λq=>(q.1,gT k q.2):=by
 unfold iy;rw[AL b,Tt];split;·cases jy (rV rows[i]!) m with|none=>exact FZ|some j=>
  simp only[ef,AL b];split;·exact FZ
  rfl
 rfl
def Tu{rows:List (List D)}{r:List D}{k:Nat}(f:k<=rows.length){nm:Nm}{d a:Int}(h:pT nm d a r=false):∀n,cr (bA rows k r) nm d a (if n<k then n else n+1)=(cr rows nm d a n).map λq=>(q.1,gT k q.2)
 |0=>by
  by_cases c:k=0;·subst c;simp only[AAp,if_false,cr,iy,Ts f,h,y4,zv]
  rw[G1 (by omega)];rfl|n+1=>by
  have b:=Tu f h (nm:=nm) (d:=d) (a:=a) n;have hs:=alO (r:=r) f (nm:=nm) (d:=d) (a:=a) n (cr rows nm d a n);unfold gT at hs b;by_cases c:n<k
  ·rw[G1 c]at b hs;have e:cr (bA rows k r) nm d a (n+1)=(cr rows nm d a (n+1)).map λq=>(q.1,gT k q.2):=by show iy _ nm d a (cr _ nm d a n) n=_;rw[b];exact hs
   by_cases g:n+1<k;·rw[G1 g];exact e
   rw[E1 g];have i:n+1=k:=by omega
   show iy _ nm d a (cr _ nm d a (n+1)) (n+1)=_;rw[e];unfold iy;rw[i,Ts f,h];rfl
  rw[E1 c]at b hs;rw[E1 (by omega)];show iy _ nm d a (cr _ nm d a (n+1)) (n+1)=_;rw[b];exact hs
def kK(k:Nat)(x:Int):Int:=if x<k then x else x+1
def Tv{k:Nat}{x:Int}:∀{l:List Int},kQ (kK k x) (l.map (kK k))=(kQ x l).map (kK k)
 |[]=>rfl|y::l=>by
  have a:=Tv (k:=k) (x:=x) (l:=l);have e:kK k x<=kK k y↔x<=y:=by unfold kK;grind
  simp only[fA,kQ,a,e];split<;>rfl
def Tw{k:Nat}:∀{l:List Int},cG (l.map (kK k))=(cG l).map (kK k)|[]=>rfl|x::l=>by simp only[fA,cG];rw[Tw,Tv]
def alP{rows:List (List D)}{r:List D}{k:Nat}(c:k<=rows.length){b:Nm}{d a:Int}(h:pT b d a r=false):eV (bA rows k r) b d a=(eV rows b d a).map (kK k):=by
 have e:=Tu c h (nm:=b) (d:=d) (a:=a) rows.length;rw[E1 (by omega)]at e;unfold eV;rw[show(bA rows k r).length=rows.length+1 by unfold bA;simp;omega,e,<-Tw,AAK,AAf,AAf];congr 1;have f:((λq:Nm×Nat=>!jx (bA rows k r)[q.2]!)∘λq:Nm×Nat=>(q.1,gT k q.2))=λq=>!jx rows[q.2]!:=by funext q;simp only[Function.comp,AL c]
 rw[f];congr 1;funext q;simp only[Function.comp,gT,kK];grind
def Tx{α β γ:Type}{R:β->γ->Prop}{f:α->β}{g:α->γ}:∀{l:List α},(∀x∈l,R (f x) (g x))->ju R (l.map f) (l.map g)|[],_=>.nil|_::_,h=>.cons (h _ N2) (Tx λx q=>h x (K2 _ q))
def Pl.ins(p:Pl)(k:Nat)(c:Cl)(x:D)(h:Sl 24 ((bA p.cls k c).map Cl.row) x):Pl:=⟨p.name,p.defs,p.tabs,bA p.cls k c,p.dD,p.tD,x,p.hd,p.ht,h⟩
def alQ{p:Pl}{l:List Fc}{c:Cl}{k:Nat}{x:D}{hx:Sl 24 ((bA p.cls k c).map Cl.row) x}{M:aj}{a:Int}(g:k<=p.cls.length)(hr:eJ l=true)(h:cT M c a=false):jv (p.bw l a).wd ((p.ins k c x hx).bw l a).wd M:=by
 unfold cT at h;simp only[ACK,ABD,p5,Hq,not_and]at h;refine⟨λy f=>⟨rfl,?_⟩,λy f=>?_,λy f=>rfl⟩
 ·have j:pT y.1 y.2 a c.row=false:=by
   show(c.nm==y.1&&decide (c.frm<=y.2)&&decide (y.2<c.to)&&decide (c.known<=a))=false;rcases h with h|h;·simp[h]
   have:=h y f;by_cases e:c.nm=y.1
   ·by_cases b:c.frm<=y.2;·have:=this e.symm b;simp[this]
    simp[b]
   simp[e]
  show ju _ (((eV (p.cls.map Cl.row) y.1 y.2 a).map Int.toNat).map λi=>(i,p.cls[i]!.n)) (((eV ((bA p.cls k c).map Cl.row) y.1 y.2 a).map Int.toNat).map λi=>(i,(bA p.cls k c)[i]!.n));rw[AK,alP (by simpa using g) j,AAf,AAf,AAf];refine Tx λz m=>?_;have o:=(Sw rfl m).1;have e:(kK k z).toNat=gT k z.toNat:=by unfold kK gT;grind
  have b:=AL (l:=p.cls) (k:=k) (a:=c) g z.toNat;simp only[Function.comp,e,b];exact⟨trivial,gb (λc=>(Cl.n c).thn) b.symm⟩
 refine⟨_,_,rfl,rfl,?_,?_,rfl,λd q r=>rfl⟩;·rw[jq];exact(lN hr _ _).1
 rw[jq];exact(lN hr _ _).1
end
section
open Go.Dm
set_option maxRecDepth 10000
def Cl.fl(c:Cl):c.row.all D.flat=true:=cE.symm.trans c.pl
def alR(p:Pl){l:List Fc}{x:D}(f:Sl 11 (l.map Fc.c) x)(hd:p.defs.length<1000000000000000)(Y:∀c∈p.cls,LX c.w/\LX c.t)(hb:p.cls.length*320<=140737488351232){C:Nm}{d a:Int}(ha:a<=9223372036854775807)(c:Cl)(hw:LX c.w/\LX c.t){t:Nat}(ht:t<256):ai VS 4 [p.d,x,.s C,.i .i64 d,.i .i64 a,.ag c.row,.i .u8 t] (.b true):=by
 obtain⟨u,hu,hU⟩:=AI f hd Y (d:=d);have L:=λ{H K}=>hu.c (H:=H) (K:=K) vY rfl (by simp[p.pl,f.pl,aV]) (.inl rfl);have N:=λ{H K}=>FY.c (H:=H) (K:=K) D4 rfl rfl (.inl rfl);obtain⟨k,hk⟩:∃k,k=if p.cls.length<16 then t%(p.cls.length+1)else 0:=⟨_,rfl⟩;have a5:k<=p.cls.length:=by
  rw[hk];split;·have:=ma t (show 0<p.cls.length+1 by omega);omega
  omega
 have E:∀{H:ab},dc H 24 p.cD none (some (.i .i64 (k:Int))) none=some (kW p.cD 0 k):=λ{H}=>p.hc.sD (by grind[db,gM,fw]);have F:∀{H:ab},dc H 24 p.cD (some (.i .i64 (k:Int))) none none=some (kW p.cD k p.cls.length):=λ{H}=>p.hc.sD (by grind[db,gM,fw]);have P:bu [] .z (kW p.cD 0 k) 24 320 true=some (bD [] .z ((p.cls.take k).map Cl.row),bH [] 24 ((p.cls.take k).map Cl.row)):=vV rfl (p.hc.slT k) Cl.fl (by simp;omega) (by simp;omega);have o:bu (bH [] 24 ((p.cls.take k).map Cl.row)) (bD [] .z ((p.cls.take k).map Cl.row)) (.sv 24 [c.row]) 24 320 true=some (bD [] .z ((p.cls.take k).map Cl.row++[c.row]),bH [] 24 ((p.cls.take k).map Cl.row++[c.row])):=D1 rfl c.fl (by simp;omega) (by simp;omega);have j:bu (bH [] 24 ((p.cls.take k).map Cl.row++[c.row])) (bD [] .z ((p.cls.take k).map Cl.row++[c.row])) (kW p.cD k p.cls.length) 24 320 true=some (.mu 0 (p.cls.length+1) 0 (p.cls.length+1),[.ar 24 ((bA p.cls k c).map Cl.row) none true false]):=by
  have q:=p.hc.slM k p.cls.length;have e:((p.cls.drop k).take (p.cls.length-k))=p.cls.drop k:=E4 (by simp);rw[e]at q;have:=Tq (H0:=[]) (x0:=.z) (w:=24) (bytes:=320) (A:=(p.cls.take k).map Cl.row++[c.row]) (B:=(p.cls.drop k).map Cl.row) (y:=kW p.cD k p.cls.length) rfl (λH=>q.cont) (λr hr=>by obtain⟨g,_,rfl⟩:=f0.1 hr;exact TA.1 g.fl) (vU (by simp;omega) (by simp;omega));rw[this];have G:(p.cls.take k).map Cl.row++[c.row]++(p.cls.drop k).map Cl.row=(bA p.cls k c).map Cl.row:=by rw[AK];simp[bA]
  rw[G];have n:((bA p.cls k c).map Cl.row).length=p.cls.length+1:=by rw[S2,ui]
  cases h:(bA p.cls k c).map Cl.row with|nil=>rw[h]at n;cases n|cons r rs=>rw[h]at n;simp only[bD,bH,n];rfl
 have Q:=λb=>p.hc.under b;have S:∀(V:List Nat)(rows:List (List D)),D.over (0,V) (bD [] .z rows)=true:=λV rows=>by cases rows<;>simp[bD,D.over,Bs.ov]
 have W:∀(V:List Nat),D.over (0,V) .z=true:=λV=>rfl;obtain⟨R,hR⟩:∃R,R=(bA p.cls k c).map Cl.row:=⟨_,rfl⟩;have an:R.length=p.cls.length+1:=by rw[hR,S2,ui]
 rw[<-hR]at j;have hX:Sl 24 ((bA p.cls k c).map Cl.row) (.im 24 R):=by rw[<-hR];cases R with|nil=>cases an|cons r rs=>exact .im
 obtain⟨q,Z⟩:∃q,q=p.ins k c (.im 24 R) hX:=⟨_,rfl⟩;have w1:IntKind.i64.wrap ((p.cls.length:Int)+1)=(p.cls.length:Int)+1:=wr (by omega) (by omega);have w2:IntKind.i64.wrap (t:Int)=(t:Int):=wr (by omega) (by omega);have w4:¬((p.cls.length:Int)+1=0):=by omega
 have ax:∀e∈q.cls,LX e.w/\LX e.t:=by
  rw[Z];intro e he;rcases bN.1 (show e∈p.cls.take k++c::p.cls.drop k from he)with h|h;·exact Y e (AAW h)
  rcases dA.1 h with rfl|h;·exact hw
  exact Y e (AAX h)
 obtain⟨u',a8,a9⟩:=AI (p:=q) f (by rw[Z];exact hd) ax (d:=d);have ba:∀(lk:Bool)(m:Nat),Dm.bC (m+3) [.ar 24 R none true lk] (.mu 0 (p.cls.length+1) 0 (p.cls.length+1))=some (.im 24 R,[.ar 24 R none true true]):=λlk m=>by
  have bb:aK [.ar 24 R none true lk] 0 (p.cls.length+1)=some (24,R,none,true,lk):=by simp[Dm.aK,an]
  rw[gJ];simp[bb,E4,an]
 have az:∀(lk:Bool),Dm.bC 11 [.ar 24 R none true lk] (.ag [.s p.name,p.dD,p.tD,.mu 0 (p.cls.length+1) 0 (p.cls.length+1)])=some (q.d,[.ar 24 R none true true]):=λlk=>by rw[gJ];dsimp only;rw[gK,ah nh];dsimp only;rw[gK,ah p.hd.flat];dsimp only;rw[gK,ah p.ht.flat];dsimp only;rw[gK,ba];dsimp only;rw[k9,Z];rfl
 have e9:∀{lk:Bool}{K:CR->Prop},ac VS 7 [.ag [.s p.name,p.dD,p.tD,.mu 0 (p.cls.length+1) 0 (p.cls.length+1)],x,.i .i64 d] [.ar 24 R none true lk] K↔K (.ret (.b u') [.ar 24 R none true true]):=λ{lk K}=>by have ec:=fX (K:=K) vY rfl a8 (args:=[.ag [.s p.name,p.dD,p.tD,.mu 0 (p.cls.length+1) 0 (p.cls.length+1)],x,.i .i64 d]) (H:=[.ar 24 R none true lk]) (H1:=[.ar 24 R none true true]) (by show aX 12 _ _=_;rw[gK,az];dsimp only;rw[show aX 12 _ _=_ from nw (ds:=[x,.i .i64 d]) (by simp[f.pl,aV])]);exact ec
 refine .body (vf:=v4) fn4 rfl ?_;unfold Pl.d at L⊢;rw[Cl.row,Ex.row_eq,Ex.row_eq]at o j⊢;simp only[T1,W0]at o j⊢;by_cases X:(p.cls.length:Int)<16
 ·have w3:((t:Int)).tmod ((p.cls.length:Int)+1)=(k:Int):=by rw[hk,G1 (by omega)];rfl
  have I:¬(15:Int)<(p.cls.length:Int):=by omega
  cases u with|false=>simp(disch:=omega)only[go_sem,simprocAttr,xa,p.hc.n,X,I,w1,w2,w3,w4,E,F,P,o,j,Q,S,W,L,N]|true=>cases u' with|false=>simp(disch:=omega)only[go_sem,simprocAttr,xa,p.hc.n,X,I,w1,w2,w3,w4,E,F,P,o,j,Q,S,W,L,e9,N]|true=>
  have U:=hU rfl;obtain⟨r,y,M,t1,v⟩:=uh f (nm:=C) (d:=d) (known:=a) U Y ha;obtain⟨r',y',M',t2,T2⟩:=uh f (nm:=C) (d:=d) (known:=a) (a9 rfl) ax ha;obtain⟨q1,q2,rfl,_⟩:=v.v.h;obtain⟨q3,q4,rfl,_⟩:=T2.v.h;have G:=λ{H K}=>t1.c (H:=H) (K:=K) qW rfl (by simp[p.pl,f.pl,aV,nq]) (.inl rfl);have n:∀{K:CR->Prop},ac VS 10 [.ag [.s p.name,p.dD,p.tD,.mu 0 (p.cls.length+1) 0 (p.cls.length+1)],x,.s C,.i .i64 d,.i .i64 a] [.ar 24 R none true true] K↔K (.ret (.tu [.ag [.i .u8 r'.v.k,.b (decide (r'.v.n<0)),q3,.b false,q4,.i .i64 r'.v.i],cO M',.i .i64 r'.e]) [.ar 24 R none true true]):=λ{K}=>by have ec:=fX (K:=K) qW rfl t2 (args:=[.ag [.s p.name,p.dD,p.tD,.mu 0 (p.cls.length+1) 0 (p.cls.length+1)],x,.s C,.i .i64 d,.i .i64 a]) (H:=[.ar 24 R none true true]) (H1:=[.ar 24 R none true true]) (by show aX 12 _ _=_;rw[gK,az];dsimp only;rw[show aX 12 _ _=_ from nw (ds:=[x,.s C,.i .i64 d,.i .i64 a]) (by simp[f.pl,aV,nq])]);simp only[zu,show xb.own=false from rfl]at ec;exact ec
  have J:=λ{H K}=>(Tg v.m c a).c (H:=H) (K:=K) D6 rfl (by simp[c.pl,mF,aV]) (.inl rfl);unfold Pl.d at G;unfold cO at G n J;simp only[Cl.row,Ex.row_eq,T1,W0]at J;cases hn:cT M c a with|true=>rw[hn]at J;simp(disch:=omega)only[go_sem,simprocAttr,xa,p.hc.n,X,I,w1,w2,w3,w4,E,F,P,o,j,Q,S,W,L,e9,N,G,n,J]|false=>rw[hn]at J;have aq:=U.b;unfold iV at aq;simp only[D0]at aq;have a0:=alQ (x:=.im 24 R) (hx:=hX) a5 aq.2 hn;rw[<-Z]at a0;obtain⟨rfl,rfl⟩:=(Gw v.j a0).det T2.j;have e5:=λ{H K}=>(FU v.v T2.v v.n v.m r.e).c (H:=H) (K:=K) zD rfl (by simp[v.v.pl,T2.v.pl,aV,mF]) (.inl rfl);unfold cO at e5;simp(disch:=omega)only[go_sem,simprocAttr,xa,p.hc.n,X,I,w1,w2,w3,w4,E,F,P,o,j,Q,S,W,L,e9,N,G,n,J,e5]
 have bm:k=0:=by rw[hk,E1 (by omega)]
 have I:(15:Int)<(p.cls.length:Int):=by omega
 have bg:((k:Int))=0:=by omega
 rw[bg]at E F;simp(disch:=omega)only[go_sem,simprocAttr,xa,p.hc.n,X,I,E,F,P,o,j,Q,S,W,N]
end
end Go.Proofs.YtekgndcflpklkaaGreatDoor.Dv
