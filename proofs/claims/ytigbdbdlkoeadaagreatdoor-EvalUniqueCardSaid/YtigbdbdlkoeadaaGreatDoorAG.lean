/-
  Part of the proof.
-/
import Derived.Test.YtigbdbdlkoeadaaGreatDoorAF
import Derived.ProofKit
import Derived.Maps.RangeRun
import Derived.Test.YtigbdbdlkoeadaaGreatDoorProg
import Derived.KernelRfl
import Derived.Sort.WalkA14
import Derived.Sort.EveryDepth
import Derived.LoopN
import Derived.Shelf.SlSortCmp.WholeK
import Derived.Shelf.SlSortCmp.NoneTotal
import Derived.Shelf.SlicesG.Cmp
import Derived.ChangeArms
import Derived.ChangeShapes
import Derived.ChangeSame
import Derived.Carry
import Derived.SizedLaws
import Derived.Test.YtigbdbdlkoeadaaGreatDoorRows
import Derived.Test.YtigbdbdlkoeadaaGreatDoorTie
import Derived.Test.YtigbdbdlkoeadaaGreatDoorCards
import Derived.LaidMore
import Derived.Handed
import Derived.JoinedOf
import Derived.SevenTiedAt
import Derived.Lib.LaidTab
import Derived.Shelf.Vars
set_option linter.all false
namespace Go.Proofs.YtigbdbdlkoeadaaGreatDoor.Dv
section
open Go.Dm Go.Proofs Go.Sort Go.Shelf Go.RowKit
variable{y:Nat}
def arg{d a:Array Int}(h:∀j,j<y->d[j]! =a[j]!):Lib.compactUpTo d y=Lib.compactUpTo a y:=by induction y with|zero=>rfl|succ y b=>
 rw[Lib.compactUpTo_succ,Lib.compactUpTo_succ,b (λj c=>h j (by omega)),h y (by omega)];have:Lib.keeps d y=Lib.keeps a y:=by unfold Lib.keeps<;>grind
 grind
def arh(l:List Int)(z:Int){j:Nat}(h:j<l.length):(l++[z]).toArray[j]! =l.toArray[j]!:=by grind
def ari(l:List Int):Lib.compact l=cC l:=by suffices h:∀n(l:List Int),l.length=n->Lib.compact l=cC l from h _ l rfl;intro n;induction n with|zero=>intro l b;obtain rfl:=ABd b;rfl|succ n c=>
 intro l b;obtain⟨k,z,rfl⟩:∃k z,l=k++[z]:=by rcases ABT l with rfl|⟨k,z,rfl⟩<;>grind
 have d:k.length=n:=by grind
 have e:=c k d;unfold Lib.compact at e⊢;rw[show(k++[z]).length=k.length+1 by simp,Lib.compactUpTo_succ,arg (λj f=>arh k z f),e,Xk];congr 1;have i:(k++[z]).toArray[k.length]! =z:=by grind
 by_cases a:k=[];·subst a;simp[Lib.keeps]
 have g:=V2.2 a;have m:(k++[z]).toArray[k.length-1]! =k.getLast a:=by grind
 by_cases o:k.getLast a=z;·rw[Lib.keeps_neg g (by omega)];grind
 rw[Lib.keeps_pos (by omega)];grind
def IQ:∀{rows:List (List D)}{l:List Int},pf rows=some l->rows=l.map aV
 |[],l,h=>by cases h;rfl|r::rows,l,h=>by
  unfold pf at h;split at h;·grind
  ·rename_i x b e;cases e;split at h;·rename_i c a;cases h;rw[kb,<-IQ a];rfl
   grind
  grind
section
variable{K:Kn}{μ:Mu}{H:ab}{W:World}{a:Nat}{lc:Go.Dm.bI}{l:List Int}{cap:Option Nat}{p:Bool}
def Xm(hr:HR K μ H W)(d:μ a=some lc)(e:H[a]?=some (.ar 1 (l.map aV) cap p false)):Holds (Value.int .i64) W lc.blk lc.off l.toArray:=by
 obtain⟨n,o,q,b,f,c,r,g⟩:=hr.blk a lc _ d e;intro j s;have h:(l.map aV)[j]?=some (aV l[j]):=by grind
 obtain⟨v,g1,i⟩:=g j _ 0 _ h rfl;have k:v=.int .i64 l[j]:=by have:=i.2;cases p<;>(cases this;rfl)
 refine⟨?_,by simp[World.frozen?,c]⟩;have m:b[lc.off+j]?=some v:=by grind
 rw[cell_of_row W _ _ b f _ c,m,k,Hy _ j (by omega)];simp
def Xn(hr:HR K μ H W)(g:μ a=some lc)(h:H[a]?=some (.ar 1 (l.map aV) cap p false)){b:List Int}(u:b.length=l.length)(n:Nat)(os:Array Obj):HR K (μ.upd a lc) (H.set a (.ar 1 (b.map aV) cap p false)) (grow (Go.Sort.putRow (Value.int .i64) (Go.Sort.ahead W n) lc.blk lc.off b.toArray) os)/\Nx K μ H W K (μ.upd a lc) (H.set a (.ar 1 (b.map aV) cap p false)) (grow (Go.Sort.putRow (Value.int .i64) (Go.Sort.ahead W n) lc.blk lc.off b.toArray) os):=by
 obtain⟨v,w,y,o,k,z,A,B⟩:=hr.blk a lc _ g h;have q:(grow (Go.Sort.putRow (Value.int .i64) (Go.Sort.ahead W n) lc.blk lc.off b.toArray) os).heap[lc.blk]?=some (.cells (putCells (Value.int .i64) lc.off b.toArray o) k (0,0)):=by simp[grow,Go.Sort.putRow,mapBlock,Go.Sort.ahead];grind[onCells]
 exact hr.put a lc lc _ _ g h rfl rfl (.ar _ _ _ _ _ _ _ _ _ _ (by grind) (λ_=>⟨rfl,rfl⟩) (λc m=>⟨rfl,m⟩)) rfl rfl rfl (by simp_all) (λr d C=>by grind[grow,Go.Sort.putRow,mapBlock,Go.Sort.ahead]) (.inl rfl) (by grind) (by
 refine⟨?_,λc m=>by grind,by grind,_,k,q,by grind[putCells],?_⟩;·intro i r d;rw[fx]at d;cases e:b[i]? with|none=>grind|some x=>rw[e]at d;cases d;rfl
 intro i r j E f s;rw[fx]at f;cases e:b[i]? with|none=>grind|some x=>
 rw[e]at f;cases f;have t:j=0:=by grind[ay,aV]
 subst t;cases s;refine⟨.int .i64 x,?_,rfl,by cases p<;>exact .i ..⟩;grind[putCells])
end
def IR{K:Kn}{μ:Mu}{H:ab}:VR K μ H (.tu []) (.tuple #[]):=.tu _ _ [] [] rfl (λj d v x y=>by grind)
variable{x:ab}
def arj{a n len:Nat}{H:ab}{d:D}(h:ui a n y len H=some (d,x)):H.length<=x.length/\∀(K:Kn)(μ:Mu)(W:World)(v:Value),HR K μ H W->VR K μ H (.mu a n y len) v->Calls Tryz.prog 65 #[v] W (fW K μ H W d x):=by
 unfold ui at h;split at h
 ·rename_i rows cap p j;split at h
  ·rename_i k;obtain⟨rfl,rfl,A,B⟩:=k;split at h;·rename_i l q;cases h;obtain rfl:=IQ q;obtain⟨b,f⟩:=jg j;rw[T3]at f;refine⟨by simp,λK μ W v hr r=>?_⟩;cases r with|mu _ _ _ _ _ _ s blk o lc C E F G I c g J t=>
    rw[b]at g;cases g;obtain⟨L,_,M,_,N,_⟩:=t (by grind);have u:blk=lc.blk/\o=lc.off:=by omega
    obtain⟨rfl,rfl⟩:=u;have i:=Any.slices_Sort_int Tryz.sortL _ _ s l W (Xm hr c b) (hr.lt a lc c) (by omega);rw[f]at i;refine i.mono ?_;rintro e P⟨rfl,m,os,rfl⟩;rw[ard];obtain⟨w,z⟩:=Xn hr c b (oW l) m os;exact⟨_,_,w,z,IR⟩
   grind
  grind
 grind
def ark{a n len:Nat}{H:ab}{d:D}(h:zP a n y len H=some (d,x)):H.length<=x.length/\∀(K:Kn)(μ:Mu)(W:World)(v:Value),HR K μ H W->VR K μ H (.mu a n y len) v->Calls Tryz.prog 275 #[v] W (fW K μ H W d x):=by
 unfold zP at h;split at h
 ·rename_i rows cap p k;split at h
  ·rename_i q;obtain⟨rfl,rfl,F,G⟩:=q;split at h;·rename_i l r;cases h;obtain rfl:=IQ r;obtain⟨b,f⟩:=jg k;rw[T3]at f;refine⟨by simp,λK μ W v hr s=>?_⟩;cases s with|mu _ _ _ _ _ _ g blk o lc I J L M N c i P t=>
    rw[b]at i;cases i;obtain⟨Q,S,U,u,w,z⟩:=t (by grind);have A:blk=lc.blk/\o=lc.off:=by omega
    obtain⟨rfl,rfl⟩:=A;have j:=Any.slices_Compact_int Tryz.compL _ _ g l W (Xm hr c b) (by omega) (by omega);rw[f]at j;refine j.mono ?_;rintro e V⟨rfl,m,rfl⟩;rw[ari];have X:=zh l;have B:(cC l++List.replicate (len-(cC l).length) 0).length=l.length:=by grind
    obtain⟨g1,C⟩:=Xn hr c b B m #[];have E:=hr.dom a lc c;refine⟨_,_,g1,C,.mu _ _ a len 0 _ g _ _ lc 1 _ cap p false (by simp[Mu.upd]) (K2 E) (by grind) (λ_=>⟨.inr ⟨rfl,by simp⟩,by omega,by omega,u,w,z⟩)⟩
   grind
  grind
 grind
def arl{K:Kn}{μ:Mu}{H:ab}{W:World}(h:HR K μ H W)(n:Nat):HR K μ H (W.drewN n)where dom:=h.dom;tot:=h.tot;blk:=λid l b a c=>(h.blk id l b a c).ext (.refl _ _ _) (λ_=>rfl);lt:=h.lt;inj:=h.inj;kn:=h.kn;kf:=h.kf
def arm{K:Kn}{μ:Mu}{H:ab}{W:World}(n:Nat):Nx K μ H W K μ H (W.drewN n):=⟨.refl _ _ _,rfl,rfl,rfl,G1 _,λ_ _ _=>rfl,λ_ h=>.inl h,λ_ _ _ h=>.inl h⟩
structure fP(K:Kn)(_W:World):Prop where
 g:∀(g w:Nat)(rows:List (List D)),Em g=some (w,rows)->uG K g w rows
 mx:∃m,K 2 0=some (.int .i64 m)
def arn{K c:Kn}{g w:Nat}{rows:List (List D)}(h:uG K g w rows)(e:∀b o v,K b o=some v->c b o=some v):uG c g w rows:=λi r hr=>let⟨f,x⟩:=h i r hr;⟨f,λj d a=>e _ _ _ (x.k j d a),x.c,λj d a=>(x.v j d a).ext (ba.zero e)⟩
def Xo{K:Kn}{μ:Mu}{H:ab}{W:World}{a:Kn}{c:Mu}{b:World}(h:fP K W)(_:HR K μ H W)(nx:Nx K μ H W a c x b):fP a b:=⟨λg w rows e=>arn (h.g g w rows e) nx.ext.k,let⟨m,d⟩:=h.mx;⟨m,nx.ext.k _ _ _ d⟩⟩
def aro{s t:List UInt8}{H:ab}{d:D}(h:zR s t H=some (d,x)):H.length<=x.length/\∀(K:Kn)(μ:Mu)(W:World)(f g:Value),fP K W->HR K μ H W->VR K μ H (.s s) f->VR K μ H (.s t) g->Calls Tryz.prog 109 #[f,g] W (fW K μ H W d x):=by
 unfold zR at h;split at h
 ·rename_i hs;cases h;refine⟨G1 _,λK μ W f g i hr k l=>?_⟩;cases k;cases l;obtain⟨m,o⟩:=i.mx;have p:(⟨s.toArray⟩:ByteArray).size<4294967281:=by have:(⟨s.toArray⟩:ByteArray).size=s.length:=rfl;grind[Pe]
  refine(Any.strings_Cut Tryz.cutL ⟨s.toArray⟩ ⟨t.toArray⟩ m W p (hr.kn _ _ _ o)).mono ?_;rintro e q⟨rfl,n,rfl⟩;refine⟨K,μ,arl hr n,arm n,.tu _ _ _ [_,_,_] rfl (λj d v a c=>?_)⟩;match j,a,c with|0,a,c=>cases a;cases c;exact .s ..|1,a,c=>cases a;cases c;exact .s ..|2,a,c=>cases a;cases c;exact .b ..
 grind
end
end Go.Proofs.YtigbdbdlkoeadaaGreatDoor.Dv
namespace Go.Dm
section
section
variable{V:aw}{Q:Ex->St->Prop}{H:ab}
def oI(a:List D)(y:Nat)(Q:Ex->St->Prop):CR->Prop
 |.ret _ H=>match H[y]? with|some (.yh _ _ _ _ _ _ .rd)=>Q .nm ⟨a,H.set y .no⟩|some (.yh _ _ _ _ _ _ .dr)=>Q .rt ⟨a,H.set y .no⟩|some (.yh _ _ _ _ _ _ (.dx id))=>Q (.ex id) ⟨a,H.set y .no⟩|_=>False
 |_=>False
variable{y:List D}
def yi{j:Nat}{x:O}{r:Rnd}{g:FuncId}{cap:List D}(hr:V.rnd j=some r)(a:x.ev [] y=.fn (.func g) [] cap)(b:g<4294967295):ak V (.rng j x) ⟨y,H⟩ Q↔ac V g (.yl (H.length+1)::cap) (H++[.df,.yh r.f r.path j r.nt r.tm y .rd]) (oI y (H.length+1) Q):=by refine exists_congr λn=>?_;simp only[aC,hr,a,E1 (RU b)];generalize call V n g _ _=c;cases c<;>grind[pY,oI]
variable{z:Nat}{a:List Nat}
def vE{b:List D}{y:Nat}{d:D}{f:Nat}{p:List Bool}{j:Nat}{x:List D}(h:H[y]?=some (.yh f p j z a x .rd)):oI b y Q (.ret d H)↔Q .nm ⟨b,H.set y .no⟩:=by grind[oI]
def Sw{b:List D}{y:Nat}{d:D}{f:Nat}{p:List Bool}{j:Nat}{x:List D}(h:H[y]?=some (.yh f p j z a x .dr)):oI b y Q (.ret d H)↔Q .rt ⟨b,H.set y .no⟩:=by grind[oI]
def yj(y:Nat)(K:CR->Prop):Ex->St->Prop|.nm,a=>∃f p j c d x,a.hp[y]?=some (.yh f p j c d x .bz)/\K (.ret (.b true) (a.hp.set y (.yh f p j c d x .rd)))|.rt,a=>∃f p j c d x,a.hp[y]?=some (.yh f p j c d x .bz)/\K (.ret (.b false) (a.hp.set y (.yh f p j c d x .dr)))|.ex id,a=>∃f p j c d x,a.hp[y]?=some (.yh f p j c d x .bz)/\K (.ret (.b false) (a.hp.set y (.yh f p j c d x (.dx id))))|_,_=>False
@[go_sem]def aDL{y:Nat}{K:CR->Prop}{a:St}:yj y K .nm a↔∃f p j c d x,a.hp[y]?=some (.yh f p j c d x .bz)/\K (.ret (.b true) (a.hp.set y (.yh f p j c d x .rd))):=W0
@[go_sem]def aDM{y:Nat}{K:CR->Prop}{a:St}:yj y K .rt a↔∃f p j c d x,a.hp[y]?=some (.yh f p j c d x .bz)/\K (.ret (.b false) (a.hp.set y (.yh f p j c d x .dr))):=W0
@[go_sem]def aDN{y:Nat}{K:CR->Prop}{a:St}:yj y K (.ex z) a↔∃f p j c d x,a.hp[y]?=some (.yh f p j c d x .bz)/\K (.ret (.b false) (a.hp.set y (.yh f p j c d x (.dx z)))):=W0
def Sx(V:aw)(y:Nat)(b:aR)(K:CR->Prop):Ex->St->Prop|.nm,a=>∃f p j c d x,a.hp[y]?=some (.yh f p j c d x .rd)/\ak V b ⟨a.sl,a.hp.set y (.yh f p j c d x .bz)⟩ (yj y K)|_,_=>False
@[go_sem]def aDO{y:Nat}{b:aR}{K:CR->Prop}{a:St}:Sx V y b K .nm a↔∃f p j c d x,a.hp[y]?=some (.yh f p j c d x .rd)/\ak V b ⟨a.sl,a.hp.set y (.yh f p j c d x .bz)⟩ (yj y K):=W0
def ac.round(l:V.fn yF=none){r:Rnd}{y:Nat}{b:List D}{f:Nat}{p:List Bool}{j:Nat}{x:List D}{K:CR->Prop}(o:H[y]?=some (.yh f p j z a x .rd))(hr:V.rnd j=some r)(t:r.f=f/\r.path=p/\r.nt=z/\r.tm=a/\r.ps.length=b.length)(h:ak V r.a ⟨gP x r.ps b,H⟩ (Sx V y r.b K)):ac V yF (.yl y::b) H K:=by obtain⟨n,u,d⟩:=h;cases v:aC V (call V n) n r.a ⟨gP x r.ps b,H⟩with|mk g st1=>rw[v]at u d;cases g with
 |nm=>
 obtain⟨B,C,E,F,G,I,w,m,i,c⟩:=d;have J:(aC V (call V n) n r.a ⟨gP x r.ps b,H⟩).1≠.bad:=by grind
 have g:aC V (call V (max n m)) (max n m) r.a ⟨gP x r.ps b,H⟩=(.nm,st1):=by grind[x8]
 have A:=x8 (AAL n m) i;refine⟨max n m+1,?_⟩;simp only[call,l,if_true,je,o,hr,E4 t,g,mZ,w,A];generalize aC V _ m r.b _=q at i c;obtain⟨e,s⟩:=q;cases e with|nm=>obtain⟨_,_,_,_,_,_,g1,k⟩:=c;grind[oj]|rt=>obtain⟨_,_,_,_,_,_,g1,k⟩:=c;grind[oj]|ex id=>obtain⟨_,_,_,_,_,_,g1,k⟩:=c;grind[oj]|_=>exact c.elim
 |_=>exact d.elim
def mq(a:List dc)(base:Nat)(K:CR->Prop):Ex->St->Prop|.nm,s|.rt,s=>∃ds,de ⟨s.sl,eA base s.hp⟩ a=some ds/\K (.ret (gm ds) (eA base s.hp))|_,_=>False
variable{x:St}
@[go_sem]def aDP{a:List dc}{base:Nat}{K:CR->Prop}:mq a base K .nm x↔∃ds,de ⟨x.sl,eA base x.hp⟩ a=some ds/\K (.ret (gm ds) (eA base x.hp)):=W0
@[go_sem]def Sy{a:List dc}{base:Nat}{K:CR->Prop}:mq a base K .rt x↔∃ds,de ⟨x.sl,eA base x.hp⟩ a=some ds/\K (.ret (gm ds) (eA base x.hp)):=W0
def Sz{a:aJ}{args:List D}{K:CR->Prop}(c:args.length=a.npar)(h:ak V a.body ⟨args++uu (a.nsl-a.npar),H⟩ (mq a.res H.length K)):∃n,iR V (call V n) n a args H≠.bad/\K (iR V (call V n) n a args H):=by rw[<-xY]at h;obtain⟨n,d,b⟩:=h;refine⟨n,?_⟩;unfold iR;rw[E4 c];generalize aC V _ n _ _=q at d b;obtain⟨e,s⟩:=q;cases e with|nm=>obtain⟨ds,g1,g2⟩:=b;grind|rt=>obtain⟨ds,g1,g2⟩:=b;grind|_=>exact b.elim
def ac.bodyR{f g:FuncId}{vf:aJ}(b:V.fn f=some vf)(c:vf.pure=false){args:List D}{K:CR->Prop}(a:args.length=vf.npar)(d:vf.rg=some g)(h:ak V vf.body ⟨args++uu (vf.nsl-vf.npar),H⟩ (mq vf.res H.length K))(e:V.ext f args H=none:=by first|rfl|assumption)(i:vf.dfr=none:=by first|rfl|assumption):ac V f args H K:=by obtain⟨n,j,k⟩:=Sz a h;exact⟨n+1,by grind[call,cX]⟩
def aH.bodyR{f g:FuncId}{vf:aJ}(a:V.fn f=some vf){ds:List D}{K:PR->Prop}(b:ds.length=vf.npar)(d:vf.rg=some g)(h:ak V vf.body ⟨ds++uu (vf.nsl-vf.npar),[]⟩ (mq vf.res 0 (fE vf.own K)))(c:V.pext f ds=none:=by first|rfl|assumption)(i:vf.dfr=none:=by first|rfl|assumption):aH V f ds K:=by
 obtain⟨n,j,k⟩:=Sz b h;refine⟨n+1,?_⟩;simp only[dh,a,dU,c];have e:cX V (call V n) n vf ds []=iR V (call V n) n vf ds []:=by grind[cX]
 grind[Sn]
end
end
section
open Go.ChangeMaps(setBlock)
section
variable{c:CX}{E:En}{nd:List Deferred}{L:Nat->Option Nat}{K:Kn}{μ:Mu}{sl:List D}{H:ab}{a:Act}{W:World}{o:Oper}{loc:List D}{done:Nat->Prop}
variable{x:Nat}
def CJ(rg:gU c)(n:RI c E nd done L K μ loc sl H a W){i:Nat}{b:aq}(l:c.ops[i]?=some o)(m:c.vos[i]?=some b)(p:o.guard=none)(q:b.op.isAddr=false)(r:b.op.isBox=false)(s:∀t,o.op≠.defer t){v:Value}{f:World}(u:(execOp a.eval o).run c.P W=.ok (.value v) f){g:Kn}{h:Mu}{k:ab}{d:D}(fs:FS E c.tm c.bs g h L sl k a.tmps f)(e:ba K μ H g h k)(w:VR g h k d v){next:Act->World->Prop}{Q:Exit->Act->World->Prop}{rd:Option Nat}(y:RI c E nd (λj=>j=i\/done j) L g h (loc.set i d) (eS sl b.keep d) k (a.put o.dst v) f->next (a.put o.dst v) f):wpOpIn (FW rd) x c.P c.ops Q i next a W:=by
 have z:=ql (rg.op i _ b l m).1;unfold wpOpIn;rw[l];have A:Region.wanted o (yielded c.ops a.tmps)=true:=by unfold Region.wanted;rw[p]
 simp[A,if_true];refine uH s ?_;unfold Oper.wp;rw[u,Oper.upon_value];exact y ((n.go fs e).val rg l m z q r w)
end
structure sW(K:Kn)(μ:Mu)(H:ab)(W:World)(x:Nat):Prop where
 own:¬cd μ H x
 kn:∀o v,K x o≠some v
 lt:x<W.heap.size
def sW.nx{K b:Kn}{μ c:Mu}{H d:ab}{W a:World}{x:Nat}(h:sW K μ H W x)(nx:Nx K μ H W b c d a):sW b c d a x/\a.heap[x]?=W.heap[x]?:=by
 refine⟨⟨λo=>?_,λo v e=>?_,hI h.lt nx.size⟩,nx.keep x h.lt h.own⟩
 ·rcases nx.og x o with y|y;·exact h.own y
  have:=h.lt;omega
 rcases nx.kg x o v e with y|y|y;·exact h.kn o v y
 ·exact h.own y
 have:=h.lt;omega
variable{y z:List Nat}{x:Nat}
def FS.blk{E:En}{K:Kn}{μ:Mu}{sl:List D}{H:ab}{tmps:Array Value}{W:World}(h:FS E y [] K μ (λ_=>none) sl H tmps W)(a:sW K μ H W x)(f:E.w.heap.size<=x)(o:Obj):FS E y [] K μ (λ_=>none) sl H tmps (setBlock W x o):=⟨h.hr.away a.own a.kn,⟨h.nx.ext,h.nx.os,h.nx.tape,h.nx.output,by have:=h.nx.size;simpa[setBlock]using this,λk c d=>by rw[<-h.nx.keep k c d];exact World.putObj_heap_other (λe=>by omega),h.nx.og,h.nx.kg⟩,h.len,h.val,λk t _ b=>(by grind),λk x e=>(by cases e),λk g x e=>(by cases e)⟩
def FS.drew{E:En}{K:Kn}{μ:Mu}{L:Nat->Option Nat}{sl:List D}{H:ab}{tmps:Array Value}{W:World}(h:FS E y z K μ L sl H tmps W):FS E y z K μ L sl H tmps W.drew:=h.go h.hr.drew (Nx.drew _ _ _ _)
def sX{P:Program}{V:aw}{T:Kn->World->Prop}(g:P.follows .mixedOrders=true)(b:dK P V T)(m:nodup y=true)(o:∀t∈y,t<x){E:En}(A:TE T E){nd:List Deferred}{i:Code}{j:aR}(B:cw P V x y z i j=true){k:St}{Q:Ex->St->Prop}(hr:ak V j k Q){a:Act}{W:World}(C:fO E y z x nd k a W)(F:∀p s,Q p s->p=.nm):i.wpIn (FW none) 0 P (λe r w'=>e=.normal/\∃u,Q .nm u/\fO E y z x nd u r w') a W:=by obtain⟨n,K,l⟩:=hr;have w:=F _ _ l;have G:=uV V (λf args H d I h=>(b.ext f args H d I h).1) n;refine wpIn_mono (qm b (rG g b n) (E0 g b n) m o (λ_=>p8 g b (rG g b n) (E0 g b n) G m o) E A nd n j i B k _ _ a W rfl (by rw[w];rfl) C) (λe r w' c=>?_);rw[w]at c l;cases e with|normal=>exact⟨rfl,_,l,c.2⟩|exit id=>cases c.1|ret=>cases c.1|panic L=>obtain⟨q,v,J,_⟩:=c;cases J|_=>exact c.elim
variable{b:Array MapEntry}
def aqn{seen:Array Nat}(h:(leftOf b seen).size=0):∀e∈b.toList,e.born∈seen.toList:=by
 intro e a;by_cases hs:e.born∈seen.toList;·exact hs
 exfalso;have:e∈(leftOf b seen).toList:=by unfold leftOf<;>grind
 grind
def WQ{seen:Array Nat}{e:MapEntry}(h:e∈(leftOf b seen).toList):e∈b.toList/\e.born∉seen.toList:=by unfold leftOf at h<;>grind
theorem aqo{d:Nat}(f:ji b d){x y:MapEntry}(g:x∈b.toList)(k:y∈b.toList)(e:x.born=y.born):x=y:=by
 have:=f.nd;rw[List.nodup_iff_pairwise_ne]at this;rw[AAy]at this;by_cases h:x=y;·exact h
 exfalso;obtain⟨i,hi,rfl⟩:=kz.1 g;obtain⟨j,c,rfl⟩:=kz.1 k;rcases Nat.lt_trichotomy i j with a|a|a;·exact AAB.1 this i j hi c a e
 ·grind
 exact AAB.1 this j i c hi a e.symm
variable{d:List MapEntry}
def aqp{c:Array MapEntry}{f:Nat}(g:ji c f)(i:∀e∈d,e∈c.toList)(j:(d.map (·.born)).Nodup)(m:∀e∈c.toList,e.born∈d.map (·.born)):d.Perm c.toList:=by have k:d.Nodup:=ABc _ (λa b h e=>h (by rw[e])) j;have l:c.toList.Nodup:=ABc _ (λa b h e=>h (by rw[e])) g.nd;refine(List.perm_ext_iff_of_nodup k l).2 λx=>⟨i x,λn=>?_⟩;grind[aqo]
def zc{α:Type}:∀{v m:List α},v.Nodup->(∀x∈v,x∈m)->v.length<=m.length|[],m,_,_=>AAg _|x::t,m,c,hs=>by obtain⟨a,b,rfl⟩:=ACX (hs x N1);have d:=AAI.1 c;have:=zc (m:=a++b) d.2 (λy e=>by grind);grind
def aqq{c:Array MapEntry}(j:ji c x)(f:∀e∈d,e∈c.toList)(g:(d.map (·.born)).Nodup):d.length<=c.size:=by have i:d.Nodup:=ABc _ (λa b h e=>h (by rw[e])) g;have:=zc i f;omega
end
section
structure jQ{κ:Type}[DecidableEq κ](kk:KK)(ek:κ->D):Prop where
 ok:∀a,jc kk (ek a)=true
 eq:∀a b,lE kk (ek a) (ek b)=some (decide (a=b))
section
variable{κ β:Type}[DecidableEq κ]{kk:KK}{ek:κ->D}{ev:β->D}
def dN(ek:κ->D)(ev:β->D)(m:List (κ×β)):List (D×D):=m.map λp=>(ek p.1,ev p.2)
def aS(k:κ)(v:β):List (κ×β)->List (κ×β)|[]=>[(k,v)]|p::m=>if k=p.1 then(k,v)::m else p::aS k v m
def Qh(h:jQ kk ek)(k:κ):∀m:List (κ×β),rQ kk (ek k) (dN ek ev m)=some ((m.lookup k).map ev)|[]=>rfl|(a,v)::m=>by have b:=Qh h k m;simp[dN,kb,rQ,h.eq]at b⊢;grind
def Qi(h:jQ kk ek)(k:κ)(v:β):∀m:List (κ×β),pJ kk (ek k) (ev v) (dN ek ev m)=some (dN ek ev (aS k v m))|[]=>rfl|(a,u)::m=>by have b:=Qi h k v m;simp[dN,kb,pJ,h.eq]at b⊢;grind[aS]
theorem sf(k b:κ)(v:β):∀m:List (κ×β),(aS k v m).lookup b=if b=k then some v else m.lookup b
 |[]=>by grind[aS]|(a,u)::m=>by
  have d:=sf k b v m;by_cases e:k=a
  ·subst e;by_cases c:b=k;·simp[aS,List.lookup,c]
   have:(b==k)=false:=by simpa using c
   simp[aS,List.lookup,this,c]
  rw[aS,E1 (by simpa using e)];by_cases c:b=a;·subst c;have:b≠k:=λx=>e x.symm;simp[List.lookup,this]
  have:(b==a)=false:=by simpa using c
  simp only[List.lookup,this,d]
end
def fj(kk:KK)(k:D)(a:Bool)(zero:D):Option an->Option D
 |some (.mp c)=>match jc kk k with
  |true=>match rQ kk k c with
   |some r=>match a with|true=>some (.tu [r.getD zero,.b r.isSome])|false=>some (r.getD zero)
   |none=>none
  |false=>none
 |_=>none
@[go_sem]def azv{H:ab}{kk:KK}{a:Nat}{k:D}{b:Bool}{zero:D}:mY H kk (.mp a) k b zero=fj kk k b zero H[a]?:=by simp[mY,pP,fj];grind
def sj{κ β:Type}[DecidableEq κ]{kk:KK}{ek:κ->D}{ev:β->D}(h:jQ kk ek)(k:κ)(m:List (κ×β))(a:Bool)(zero:D):fj kk (ek k) a zero (some (.mp (dN ek ev m)))=match a with|true=>some (.tu [((m.lookup k).map ev).getD zero,.b (m.lookup k).isSome])|false=>some (((m.lookup k).map ev).getD zero):=by simp only[fj,h.ok,Qh h];grind
def iS(H:ab)(kk:KK)(a:Nat)(k v:D):Option an->Option ab
 |some (.mp b)=>match jc kk k with
  |true=>match pJ kk k v b with|some c=>some (H.set a (.mp c))|none=>none
  |false=>none
 |_=>none
@[go_sem]def azw{H:ab}{kk:KK}{a:Nat}{k v:D}:oe H kk (.mp a) k v=iS H kk a k v H[a]?:=by simp[oe,iS];grind
theorem om{κ β:Type}[DecidableEq κ]{H:ab}{kk:KK}{ek:κ->D}{ev:β->D}(h:jQ kk ek)(a:Nat)(k:κ)(v:β)(m:List (κ×β)):iS H kk a (ek k) (ev v) (some (.mp (dN ek ev m)))=some (H.set a (.mp (dN ek ev (aS k v m)))):=by simp[iS,h.ok,Qi h]
theorem Ft(x y:List UInt8):fY (.s x) (.s y)=some (decide (x=y)):=by grind[fY]
def Fu(k:IntKind)(x y:Int):fY (.i k x) (.i k y)=some (decide (x=y)):=by grind[fY]
def uX:jQ (.c 2) (λs:List UInt8=>D.s s):=⟨λ_=>rfl,λa b=>by grind[lE,fZ,Ft]⟩
section
variable{H0:ab}{w:Nat}{rows:List (List D)}{b b':an}
end
section
variable{α:Type}[DecidableEq α]
def gT(b:List α)(a:α):List α:=if a∈b then b else b++[a]
def jh(b:List α):List (α×Bool):=b.map λa=>(a,true)
def Fv(a:α):∀b:List α,(jh b).lookup a=if a∈b then some true else none|[]=>rfl|u::b=>by have c:=Fv a b;grind[jh]
def Qj(a:α):∀b:List α,a∉b->aS a true (jh b)=jh (b++[a])|[],_=>rfl|u::b,h=>by have c:=Qj a b (λx=>h (M0 _ x));grind[jh,aS]
def Qk(b:List α)(a:α):(gT b a).length<=b.length+1:=by grind[gT]
end
end
end Go.Dm
namespace Go.Proofs.YtigbdbdlkoeadaaGreatDoor.Dv
section
open Go.Dm Go.Proofs
def mD:List Nat:=[0,1,2,3,8,22,47,67,76,85,4,21,20,19,11,9,13,12,10,14,74,16]
def nJ:List Nat:=[10,14]
def lO(k:Nat):aR:=match Dt.body with|.seq a (.seq b (.seq c (.seq d (.seq (.seq e _) _))))=>(match k with|0=>a|1=>b|2=>c|3=>d|_=>e)|c=>c
def iC:List Nat:=[4,14,16,74,76,85,8]
def IC:List aq:=[⟨.stk,none,none⟩,⟨.ext (.l 0) 0,some 4,none⟩]
def WR:List aq:=[⟨.stk,none,none⟩,⟨.ext (.l 0) 1,none,none⟩,⟨.mov (.l 1),some 2,none⟩]
def ID:aR:=.seq (.reg [⟨.fad (.s 0) 3,none,none⟩,⟨.ld (.l 0) 1 false,none,none⟩,⟨.mov (.s 2),none,none⟩,⟨.iad (.l 1) (.l 2) 24,none,none⟩,⟨.fad (.l 3) 5,none,none⟩,⟨.ld (.l 4) 1 false,none,none⟩,⟨.un .not (.l 5),some 5,none⟩] none) (.cond (.s 5) (.reg [⟨.mov (.s 1),none,none⟩,⟨.mov (.s 2),none,none⟩,⟨.bsv 1 1 [(.i .i64 0)] [(0,.l 1)],none,none⟩,⟨.app (.l 0) (.l 2) 1 8 true,none,none⟩,⟨.mov (.l 3),some 1,none⟩] none) .skip)
def IE:aR:=.reg [⟨.mov (.s 1),none,none⟩,⟨.call 43 [.l 0],none,none⟩] none
def IF:aR:=.reg [⟨.mov (.s 1),none,none⟩,⟨.mov (.l 0),some 6,none⟩] none
noncomputable def wn:Code:=Tryz.f19.body.getD .skip
def sL:Code->Code|.seq a _=>a|c=>c
def sR:Code->Code|.seq _ b=>b|c=>c
def WS:Code->Code|.block _ c=>c|c=>c
def lpC:Code->Code|.loop c=>c|c=>c
def fH:Code->Array Oper|.region _ ops _=>ops|_=>#[]
noncomputable def q5:Code:=sR (sR (sR (sR wn)))
noncomputable def nK:Code:=sL (sL q5)
noncomputable def WU:Code:=lpC (WS (sR (sL q5)))
noncomputable def mF:Code:=sL WU
noncomputable def WV:Code:=WS (sR (sR WU))
noncomputable def oV:Code:=sL WV
noncomputable def WW:Code:=sR WV
noncomputable def aqs:Code:=sL (sR q5)
noncomputable def aqt:Code:=sL (sR (sR q5))
def aqu:nK=.region 11 (fH nK) false:=by kernel_rfl
def aqv:mF=.region 12 (fH mF) false:=by kernel_rfl
def aqw:oV=.region 13 (fH oV) false:=by kernel_rfl
def WX(l:List UInt8):∀m:List (List UInt8×Nat),@List.lookup (List UInt8) Nat instBEqOfDecidableEq l m=km l m
 |[]=>rfl|(k,i)::m=>by
  unfold km;by_cases h:l=k;·grind
  have:(@BEq.beq _ instBEqOfDecidableEq l k)=false:=N2 h;rw[E1 h];show(match(@BEq.beq _ instBEqOfDecidableEq l k)with|true=>some i|false=>@List.lookup _ Nat instBEqOfDecidableEq l m)=km l m;rw[this];exact WX l m
def WY(l:List UInt8)(i:Nat):∀m:List (List UInt8×Nat),ja l i m=aS l i m
 |[]=>rfl|(k,j)::m=>by
  unfold ja aS;by_cases h:l=k;·simp[h]
  simp[WY l i m]
def IG{r:List D}(h:mN r=true):∃n l f t k o q,r=.s n::.s l::.i .i64 f::.i .i64 t::.i .i64 k::.b o::q/\q.length=18:=by unfold mN at h<;>grind
def IH(s:List UInt8):D:=.s s
def wo(i:Nat):D:=.i .i64 i
def kW(m:List (List UInt8×Nat)):List (D×D):=dN IH wo m
def WZ(p name:D)(date known:Int):List D:=[p,name,.i .i64 date,.i .i64 known,.u,.u,.u,.u,.u,.u,.u,.u,.u,.u,.u,.u,.u,.u,.u,.u,.u,.u]
section
variable{x0 x1 x2 c:D}{rows:List (List D)}{name:List UInt8}{date known:Int}
def aqx:ak V1 (lO 0) ⟨WZ (.ag [x0,x1,x2,c]) (.s name) date known,[]⟩ (λa s=>a=.nm/\s=⟨[.ag [x0,x1,x2,c],.s name,.i .i64 date,.i .i64 known,.nil,.u,.u,.u,.u,.u,.bx [x0,x1,x2,c],.u,.u,.u,.u,.u,.u,.u,.u,.u,.u,.u],[]⟩):=by simp[lO,Du,WZ];simp[go_sem]
def aqy:ak V1 (lO 1) ⟨[.ag [x0,x1,x2,c],.s name,.i .i64 date,.i .i64 known,.nil,.u,.u,.u,.u,.u,.bx [x0,x1,x2,c],.u,.u,.u,.u,.u,.u,.u,.u,.u,.u,.u],[]⟩ (λa s=>a=.nm/\s=⟨[.ag [x0,x1,x2,c],.s name,.i .i64 date,.i .i64 known,.nil,.u,.u,.u,.u,.u,.bx [x0,x1,x2,c],.u,.u,.u,.u,.mp 0,.u,.u,.u,.u,.u,.u],[.mp []]⟩):=by simp[lO,Du];simp[go_sem]
structure M1(x0 x1 x2 c:D)(rows:List (List D))(name:List UInt8)(date known:Int)(l:D)(s:St):Prop where e:∃j5 j6 j7 j14 j16 j17 j18,s=⟨[.ag [x0,x1,x2,c],.s name,.i .i64 date,.i .i64 known,.nil,j5,j6,j7,.u,.u,.bx [x0,x1,x2,c],.i .i64 rows.length,.i .i64 rows.length,c,j14,.mp 0,j16,j17,j18,l,.u,.u],[.mp (kW (dQ rows name date known rows.length))]⟩
def aqz:∀m,(kW m).length=m.length:=by grind[kW,dN]
theorem II{i:Nat}:dQ rows name date known (i+1)=jw rows name date known (dQ rows name date known i) i:=rfl
def IJ:∀n,∀q∈dQ rows name date known n,q.2<n
 |0,q,h=>by cases h|n+1,q,h=>by
  have cS:∀(l:List UInt8)(m:List _),(∀q∈m,q.2<n)->∀q∈ja l n m,q.2<n+1:=by intro l m;induction m<;>grind[ja]
  have a:=IJ n;grind[II,jw,cS]
def W8:∀{m:List (List UInt8×Nat)}{l:List UInt8}{j:Nat},km l m=some j->(l,j)∈m
 |(k,i)::m,l,j,h=>by
  unfold km at h;split at h;·grind
  exact M0 _ (W8 h)
def W9:jQ (.c 2) IH:=⟨λ_=>rfl,λa b=>uX.eq a b⟩
variable{e:List (List UInt8×Nat)}
def sY{l:List UInt8}:fj (.c 2) (.s l) true (.i .i64 0) (some (.mp (kW e)))=some (.tu [((km l e).map wo).getD (.i .i64 0),.b (km l e).isSome]):=by rw[<-WX];exact sj W9 l e true _
def sZ{H:ab}{a:Nat}{l:List UInt8}{i:Nat}:iS H (.c 2) a (.s l) (.i .i64 i) (some (.mp (kW e)))=some (H.set a (.mp (kW (aS l i e)))):=om (ev:=wo) W9 a l i e
set_option maxHeartbeats 4000000 in def aqA(g:Sl 24 rows c)(I:rows.all mN=true)(hl:rows.length<1099511627776):ak V1 (lO 2) ⟨[.ag [x0,x1,x2,c],.s name,.i .i64 date,.i .i64 known,.nil,.u,.u,.u,.u,.u,.bx [x0,x1,x2,c],.u,.u,.u,.u,.mp 0,.u,.u,.u,.u,.u,.u],[.mp []]⟩ (λex s=>ex=.nm/\M1 x0 x1 x2 c rows name date known .u s):=by
 simp only[lO,Du];simp(disch:=omega)only[go_sem,simprocAttr,g.len,g.c1];have x:Sl 24 (rows.map (λr=>r)) c:=by simpa using g
 refine ak.up (λi s=>∃J K L M N P Q,s=⟨[.ag [x0,x1,x2,c],.s name,.i .i64 date,.i .i64 known,.nil,J,K,L,.u,.u,.bx [x0,x1,x2,c],.i .i64 i,.i .i64 rows.length,c,M,.mp 0,N,P,Q,.u,.u,.u],[.mp (kW (dQ rows name date known i))]⟩) rows.length ⟨.u,.u,.u,.u,.u,.u,.u,rfl⟩ ?_;rintro i s hi⟨J,K,L,M,N,P,Q,rfl⟩;rcases lu i rows.length with h|h
 ·obtain⟨n,S,f,t,k,o,q,ac,y⟩:=IG (TB.1 I _ (hY h));have p:rows[i]! =.s n::.s S::.i .i64 f::.i .i64 t::.i .i64 k::.b o::q:=by rw[Hy rows i h];exact ac
  have a:=II (rows:=rows) (name:=name) (date:=date) (known:=known) (i:=i);have U:=IJ (rows:=rows) (name:=name) (date:=date) (known:=known) i;generalize dQ rows name date known i=m at a U⊢;unfold jw at a;rw[p]at a;simp only[wY,ya,clF,clT,Eo,ug,WY]at a;have z:(i:Int)<rows.length:=by omega
  have A:(0:Int)<=i:=by omega
  have B:List.take 18 q=q:=E2 (by omega);have an:18<=q.length:=by omega
  have C:IntKind.i64.wrap ((i:Int)+1)=(i:Int)+1:=wr (by omega) (by omega);by_cases l:n=name
  ·by_cases E:date<f
   ·have e:dQ rows name date known (i+1)=m:=by rw[a,E1 (by simp only[D0,X0,Hq];rintro⟨⟨⟨_,g1⟩,v⟩,w⟩;first|omega|(have:=hO g1;have:=hO v;have:=hO w;omega))]
    have d:=True.intro;simp only[qT];simp(disch:=omega)only[go_sem,simprocAttr,x.q,g.under,h,decide_true,decide_false,p,dA,z,A,B,y,sY,sZ,G1,d,l,E,C,e]
   by_cases c3:t<=date
   ·have e:dQ rows name date known (i+1)=m:=by rw[a,E1 (by simp only[D0,X0,Hq];rintro⟨⟨⟨_,g1⟩,v⟩,w⟩;first|omega|(have:=hO g1;have:=hO v;have:=hO w;omega))]
    have d:=True.intro;simp only[qT];simp(disch:=omega)only[go_sem,simprocAttr,x.q,g.under,h,decide_true,decide_false,p,dA,z,A,B,y,sY,sZ,G1,d,l,E,c3,C,e]
   by_cases F:known<k
   ·have e:dQ rows name date known (i+1)=m:=by rw[a,E1 (by simp only[D0,X0,Hq];rintro⟨⟨⟨_,g1⟩,v⟩,w⟩;first|omega|(have:=hO g1;have:=hO v;have:=hO w;omega))]
    have d:=True.intro;simp only[qT];simp(disch:=omega)only[go_sem,simprocAttr,x.q,g.under,h,decide_true,decide_false,p,dA,z,A,B,y,sY,sZ,G1,d,l,E,c3,F,C,e]
   have v:f<=date:=by omega
   have w:date<t:=by omega
   have V:k<=known:=by omega
   rw[E4 (by simp only[D0,X0,Hq];first|exact⟨⟨⟨l,v⟩,w⟩,V⟩|exact⟨⟨⟨l,Rp v⟩,Rp w⟩,Rp V⟩)]at a;cases d:km S m with|none=>simp only[d]at a;simp only[qT];simp(disch:=omega)only[go_sem,simprocAttr,x.q,g.under,h,decide_true,decide_false,p,dA,z,A,B,y,sY,sZ,G1,d,l,E,c3,F,C,a,AAC,uA,pv]|some j=>
   have hj:=U _ (W8 d);simp only at hj;have W:j<rows.length:=by omega
   obtain⟨n',af,f',t',X,o',q',al,Y⟩:=IG (TB.1 I _ (hY W));have H:rows[j]! =.s n'::.s af::.i .i64 f'::.i .i64 t'::.i .i64 X::.b o'::q':=by rw[Hy rows j W];exact al
   have Z:(j:Int)<rows.length:=by omega
   have aa:(0:Int)<=j:=by omega
   simp only[d,H]at a;by_cases G:X<=k;·rw[E4 G]at a;simp only[qT];simp(disch:=omega)only[go_sem,simprocAttr,x.q,g.under,h,decide_true,decide_false,p,dA,z,A,B,y,sY,sZ,G1,d,l,E,c3,F,G,C,a,H,Y,Z,aa,ga,fL,pu,wo]
   rw[E1 G]at a;simp only[qT];simp(disch:=omega)only[go_sem,simprocAttr,x.q,g.under,h,decide_true,decide_false,p,dA,z,A,B,y,sY,sZ,G1,d,l,E,c3,F,G,C,a,H,Y,Z,aa,ga,fL,pu,wo]
  have e:dQ rows name date known (i+1)=m:=by rw[a,E1];simp[l]
  have d:=True.intro;simp only[qT];simp(disch:=omega)only[go_sem,simprocAttr,x.q,g.under,h,decide_true,decide_false,p,dA,z,A,B,y,sY,sZ,G1,d,l,C,e]
 have:i=rows.length:=by omega
 subst this;simp only[qT];simp(disch:=omega)only[go_sem,simprocAttr,AA8,sm,decide_false];exact⟨_,_,_,_,_,_,_,rfl⟩
variable{x y z a b d:D}
def aqB{e:D}{n:Nat}{H:ab}:ak V1 (lO 3) ⟨[.ag [x0,x1,x2,c],.s name,.i .i64 date,.i .i64 known,.nil,x,y,z,.u,.u,.bx [x0,x1,x2,c],.i .i64 n,.i .i64 n,c,a,.mp 0,b,d,e,.u,.u,.u],H⟩ (λf s=>f=.nm/\s=⟨[.ag [x0,x1,x2,c],.s name,.i .i64 date,.i .i64 known,.nil,x,y,z,.u,.u,.bx [x0,x1,x2,c],.i .i64 n,.i .i64 n,c,a,.mp 0,b,d,e,.nil,.u,.u],H⟩):=by simp[lO,Du];simp[go_sem]
def hL(l:List Int):ab:=bH [.ar 1 [] (some 0) true true] 1 (l.map aV)
def dL(l:List Int):D:=bD [.ar 1 [] (some 0) true true] .nil (l.map aV)
def aqC(u:Sl 24 rows c)(h:rows.all mN=true){l:List Int}(v:l.length<1099511627776){i:Nat}(hi:i<rows.length):ak V1 ID ⟨[.ip [x0,x1,x2,c],dL l,.i .i64 i,.aa 0,x,y,z],hL l⟩ (λj s=>j=.nm/\s=⟨[.ip [x0,x1,x2,c],dL (if kj rows[i]! then l else l++[(i:Int)]),.i .i64 i,.aa 0,x,.b (!kj rows[i]!),z],hL (if kj rows[i]! then l else l++[(i:Int)])⟩):=by
 obtain⟨n,m,f,t,k,o,q,A,B⟩:=IG (TB.1 h _ (hY hi));have a:rows[i]! =.s n::.s m::.i .i64 f::.i .i64 t::.i .i64 k::.b o::q:=by grind
 have d:Sl 24 (rows.map (λr=>r)) c:=by simp_all
 have e:(i:Int)<rows.length:=by omega
 have g:(0:Int)<=i:=by omega
 have app:=m9 (H0:=[.ar 1 [] (some 0) true true]) (w:=1) (bytes:=8) (l:=l) (enc:=aV) (r:=aV i) (by omega) (by omega);have p:l.map aV++[aV i]=(l++[(i:Int)]).map aV:=by simp
 rw[p]at app;simp only[aV,AAb,ABG,jj,AAt,if_true]at app;simp[ID,a,kj,dL,hL];cases o with|true=>simp[go_sem,simprocAttr,d.q,a,e,g,app]|false=>simp[go_sem,simprocAttr,d.q,a,e,g,app]
end
def Xa(l:List Int):dL (cV l)=dL l:=by
 have h:(cV l).length=l.length:=by induction l with|nil=>rfl|cons x l a=>
  have:∀m,(lR x m).length=m.length+1:=λm=>by induction m<;>grind[lR]
  grind[cV]
 unfold dL bD<;>grind
def Xb:∀l:List Int,pf (l.map aV)=some l|[]=>rfl|x::l=>by rw[kb,aV,pf,Xb l]
def aqD{l:List Int}(a:l.length<1099511627776):V1.ext 65 [dL l] (hL l)=some (.tu [],hL (cV l)):=by cases l with|nil=>rfl|cons x t=>
 have b:=Xa (x::t);have e:V1.ext 65 [dL (x::t)] (hL (x::t))=ui 1 (x::t).length 0 (x::t).length (hL (x::t)):=by simp[V1,Vx,q9,dL,bD]
 rw[e];unfold ui;have h:aO (hL (x::t)) 1 (x::t).length=some (1,(x::t).map aV,none,true,false):=by simp[aO,hL,bH]
 rw[h];simp only[Xb];congr 2;unfold hL bH<;>grind[hL,bH,dL,bD,cV]
variable{x y z a b d:D}
def aqE{l:List Int}(c:l.length<1099511627776){x0:D}:ak V1 IE ⟨[x0,dL l,x,y,z,a,b],hL l⟩ (λd s=>d=.nm/\s=⟨[x0,dL (cV l),x,y,z,a,b],hL (cV l)⟩):=by have e:∀{K:CR->Prop},ac V1 65 [dL l] _ K↔K _:=λ{K}=>ac.beside (by kernel_rfl) (by decide) (aqD c);rw[Xa];simp[IE];simp[go_sem];refine .body (vf:=Kb) (by kernel_rfl) rfl rfl ?_;simp only[auR];simp[go_sem,e]
def aqF{l:List Int}{H:ab}{x0:D}:ak V1 IF ⟨[x0,dL l,x,y,z,a,b],H⟩ (λc s=>c=.nm/\s=⟨[x0,dL l,x,y,z,a,dL l],H⟩):=by simp[IF];simp[go_sem]
end
end Go.Proofs.YtigbdbdlkoeadaaGreatDoor.Dv
namespace Go.Proofs
section
open Go.RowKit Go.Sort Go.Shelf
set_option maxHeartbeats 4000000
def Tryz.insertion_nil(w:World):Calls Tryz.prog 134 #[.slice none 0 0,.int .i64 0,.int .i64 0] w λe w'=>e=.returned (.tuple #[])/\w'=w:=by go_enter Tryz.func134,Tryz.ntmps134;go_wp2;refine wp_loop_rounds 1 ?_;rw[rounds_succ];go_wp2;go_end0;exact⟨rfl,rfl⟩
set_option maxRecDepth 100000 in def Tryz.pdqsort_nil(w:World):Calls Tryz.prog 96 #[.slice none 0 0,.int .i64 0,.int .i64 0,.int .i64 0] w λe w'=>e=.returned (.tuple #[])/\w'=w:=by go_enter Tryz.func96,Tryz.ntmps96;go_wp2;refine wp_loop_rounds 1 ?_;rw[rounds_succ];go_wp2_with(first|(go_at_call 134;refine(Tryz.insertion_nil _).mono ?_;rintro e w'⟨rfl,rfl⟩));refine bodyPost_ret (results_none rfl _ _ _) rfl ?_;exact⟨rfl,rfl⟩
def Tryz.bitsLen0(w:World):Calls Tryz.prog 97 #[.int .u64 0] w λe w'=>e=.returned (.int .i64 0)/\w'=w:=(calls_of_every_depth λD=>AnyS.bits_LenIn (P:=Tryz.prog) (ρ:=Tryz.sortL_ren) {Tryz.sortL with} D 0 w (by omega) (by omega))
set_option maxRecDepth 100000 in def Tryz.sort_nil(w:World):Calls Tryz.prog 65 #[.slice none 0 0] w λe w'=>e=.returned (.tuple #[])/\w'=w:=by go_enter Tryz.func65,Tryz.ntmps65;go_wp2_with(first|(go_at_call 97;refine(Tryz.bitsLen0 _).mono ?_;rintro e w'⟨rfl,rfl⟩)|(go_at_call 96;refine(Tryz.pdqsort_nil _).mono ?_;rintro e w'⟨rfl,rfl⟩));go_end0;exact⟨rfl,rfl⟩
end
section
open Go.Shelf
def Tryz.sortSp_ren:Go.Shelf.Ren:=⟨λ|6=>294|15=>97|14=>303|28=>143|29=>144|20=>307|21=>308|22=>309|23=>310|24=>311|25=>312|26=>313|27=>314|46=>316|47=>190|48=>191|49=>317|50=>318|57=>319|n=>n,λ|22=>316|24=>230|25=>354|3=>3|39=>156|0=>0|53=>217|55=>123|4=>4|46=>210|45=>209|50=>110|5=>5|9=>9|66=>262|70=>266|76=>299|77=>158|n=>n,λ|n=>n⟩
def Tryz.sortSp:Go.Proofs.SlLaysF0.n6 Tryz.prog Tryz.sortSp_ren:=by
 constructor<;>first|kernel_rfl|(intros;kernel_rfl)|skip
 ·exact⟨Tryz.f294.name,by decide,Tryz.func294.trans (ka some (by kernel_rfl))⟩
 ·exact⟨Tryz.f303.name,by decide,Tryz.func303.trans (ka some (by kernel_rfl))⟩
 ·exact⟨Tryz.f307.name,by decide,Tryz.func307.trans (ka some (by kernel_rfl))⟩
 ·exact⟨Tryz.f308.name,by decide,Tryz.func308.trans (ka some (by kernel_rfl))⟩
 ·exact⟨Tryz.f309.name,by decide,Tryz.func309.trans (ka some (by kernel_rfl))⟩
 ·exact⟨Tryz.f310.name,by decide,Tryz.func310.trans (ka some (by kernel_rfl))⟩
 ·exact⟨Tryz.f311.name,by decide,Tryz.func311.trans (ka some (by kernel_rfl))⟩
 ·exact⟨Tryz.f312.name,by decide,Tryz.func312.trans (ka some (by kernel_rfl))⟩
 ·exact⟨Tryz.f313.name,by decide,Tryz.func313.trans (ka some (by kernel_rfl))⟩
 ·exact⟨Tryz.f314.name,by decide,Tryz.func314.trans (ka some (by kernel_rfl))⟩
 ·exact⟨Tryz.f316.name,by decide,Tryz.func316.trans (ka some (by kernel_rfl))⟩
 ·exact⟨Tryz.f317.name,by decide,Tryz.func317.trans (ka some (by kernel_rfl))⟩
 ·exact⟨Tryz.f318.name,by decide,Tryz.func318.trans (ka some (by kernel_rfl))⟩
 exact⟨Tryz.f319.name,by decide,Tryz.func319.trans (ka some (by kernel_rfl))⟩
def Tryz.cmpInt_ren:Go.Shelf.Ren:=⟨λ|5=>100|7=>145|n=>n,λ|22=>3|3=>3|4=>4|n=>n,λ|n=>n⟩
def Tryz.cmpInt:Go.Proofs.SlLaysC2.n5 Tryz.prog Tryz.cmpInt_ren:=by
 constructor<;>first|kernel_rfl|(intros;kernel_rfl)|skip
 ·exact⟨Tryz.f100.name,by decide,Tryz.func100.trans (ka some (by kernel_rfl))⟩
 exact⟨Tryz.f145.name,by decide,Tryz.func145.trans (ka some (by kernel_rfl))⟩
end
end Go.Proofs
namespace Go.Proofs.YtigbdbdlkoeadaaGreatDoor.Dv
section
open Go.Dm Go.Shelf Go.RowKit Go.Lib Go.Sort Go.Proofs
def jW(x:Int×Int):List Value:=[.int .i64 x.1,.int .i64 x.2]
set_option maxHeartbeats 1000000 in def arp(x y:Int×Int)(W:World):Calls Tryz.prog 295 #[.agg #[.int .i64 x.1,.int .i64 x.2],.agg #[.int .i64 y.1,.int .i64 y.2]] W λe w'=>e=.returned (.int .i64 (Lib.compareInt x.1 y.1))/\∃q c,w'=grow (W.drewN q) c:=by have a:=λb=>AnyG.cmp_Compare_int Tryz.cmpInt x.1 y.1 b;change∀b,Calls Tryz.prog 100 _ _ _ at a;generalize Lib.compareInt x.1 y.1=r at a⊢;go_enter Tryz.func295,Tryz.ntmps295;go_wp2_with(go_at_call 100;refine(a _).mono ?_;rintro e w'⟨rfl,rfl⟩);go_ret;exact⟨rfl,0,_,by rw[alloc_eq_grow,alloc_eq_grow,grow_grow];rfl⟩
def arq(blk a size:Nat)(w:World):CmpLays Tryz.prog 295 #[] jW 2 Ep blk a size w:=λ_ _ _ _ x y=>arp x y _
def Xp:∀{rows:List (List D)}{l:List (Int×Int)},jJ zQ rows=some l->rows=l.map bR
 |[],l,h=>by cases h;rfl|r::rows,l,h=>by
  simp[jJ]at h;split at h
  ·rename_i p a;split at h
   ·rename_i c b;cases h;have:=Xp b;unfold zQ at a;split at a;·cases a;rw[this];rfl
    grind
   grind
  grind
def Xq(l:List (Int×Int))(i j:Nat)(hi:i<l.length)(a:j<2):(flatK jW 2 l.toArray)[i*2+j]! =(jW l[i]!)[j]!:=by grind[get_flatK]
def Xr{l:List (Int×Int)}{i j:Nat}{r:List D}{d:D}(hr:(l.map bR)[i]?=some r)(a:r[j]?=some d):i<l.length/\j<2/\∀(K:Kn),VR K aK [] d ((jW l[i]!)[j]!)/\((jW l[i]!)[j]!).oneCell'=true:=by
 rw[fx]at hr;by_cases hi:i<l.length
 ·rw[Hk hi]at hr;cases hr;have b:j<2:=by grind[ay,bR]
  rw[Hy l i hi];refine⟨hi,b,λK=>?_⟩;match j,b,a with|0,_,a=>cases a;exact⟨.i ..,rfl⟩|1,_,a=>cases a;exact⟨.i ..,rfl⟩
 grind
def ars:SWO wZ:=⟨λx=>by simp[xa],λx y q a b=>by grind[xa],λx y q a b=>by grind[xa]⟩
def art{a n M len:Nat}{H F:ab}{d:D}(h:Eq a n M len H=some (d,F)):H.length<=F.length/\∀(K:Kn)(μ:Mu)(W:World)(v q:Value),HR K μ H W->VR K μ H (.mu a n M len) v->VR K μ H (.fn (.func 295) [] []) q->Calls Tryz.prog 294 #[v,q] W (fW K μ H W d F):=by
 unfold Eq at h;split at h
 ·rename_i rows cap aa;split at h
  ·rename_i k;obtain⟨rfl,rfl,a3,a4⟩:=k;split at h
   ·rename_i l hl;cases h;have ad:=Xp hl;subst ad;obtain⟨G,N⟩:=jg aa;rw[T3]at N;refine⟨by simp,λK μ W v1 q hr h1 h2=>?_⟩;have e2:q=.func (.func 295) #[] #[]:=by cases h2<;>grind
    subst e2;cases h1 with|mu _ _ _ _ _ _ cp blk o b w2 a7 a8 p2 ba I P bb ai=>
    rw[G]at P;cases P;obtain⟨bc,_,bd,_,be,_⟩:=ai (by grind);have aj:blk=b.blk/\o=b.off:=by omega
    obtain⟨rfl,rfl⟩:=aj;obtain⟨bf,ak,Q,s,J,L,al,am⟩:=hr.blk a b _ I G;rw[T3]at Q;have S:=hr.lt a b I;have an:HoldsK jW 2 W b.blk b.off l.toArray:=by
     intro t ht;have bh:t<l.length*2:=by simp_all
     obtain⟨i,j,rfl,A⟩:∃i j,t=i*2+j/\j<2:=⟨t/2,t%2,by omega,by omega⟩;have hi:i<l.length:=by omega
     have U:(l.map bR)[i]?=some (bR l[i]):=by grind
     obtain⟨p,f⟩:∃p,(bR l[i])[j]?=some p:=⟨(bR l[i])[j]'(by grind[bR]),Hk _⟩;obtain⟨v,g1,g2⟩:=am i _ j p U f;obtain⟨_,_,B⟩:=Xr U f;have C:v=(jW l[i]!)[j]!:=by
      have q1:=g2.2;have V:=(B K).1;have aq:∃z,p=.i .i64 z:=by match j,A,f with|0,_,f=>cases f<;>grind|1,_,f=>cases f;exact⟨_,rfl⟩
      obtain⟨z,rfl⟩:=aq;generalize(jW l[i]!)[j]! =u at V;cases q1;cases V;rfl
     rw[Xq l i j hi A];refine⟨?_,by simp[World.frozen?,L]⟩;have au:s[b.off+(i*2+j)]?=some v:=g1;rw[cell_of_row W _ _ s J _ L,au,C];rfl
    have eg:∀args w,(callFunc 295 args).run _ w=.ok _ w:=enters_of Tryz.func295 (by kernel_rfl) rfl;have aw:=AnyQ.slices_SortFunc_eq Tryz.sortSp 2 Tryz.isAgg230 Tryz.sizeOf230 jW (λ_=>rfl) (λx v C=>by simp[jW]at C;rcases C with rfl|rfl<;>rfl) Ep ars 295 #[] _ _ cp _ W eg (arq _ _ _ W) an S (by simp;omega);have bi:l.toArray.size=l.length:=by simp
    subst N;refine aw.mono ?_;rintro e W'⟨rfl,m,os,rfl⟩;have E:=(Er l).length_eq;have hW:(sortWorldK jW 2 W b.blk b.off m (pg l.toArray) os).heap[b.blk]?=some (.cells (putCells id b.off (flatK jW 2 (pg l.toArray)) s) J (0,0)):=by simp only[sortWorldK,grow,putRowK,Go.Sort.putRow,mapBlock];rw[ABu (by simpa using S),ABS,E4 rfl,show(Go.Sort.ahead W m).heap=W.heap from rfl,L];simp[onCells]
    have ay:(pg l.toArray).size=l.length:=by rw[<-E];simp[lg]
    have X:=hr.put a b b _ (.ar 2 ((lg l).map bR) cap true false) (W':=sortWorldK jW 2 W _ _ m _ os) I G rfl rfl (.ar _ _ _ _ _ _ _ _ _ _ (by simp[E]) (λ_=>⟨rfl,rfl⟩) (λc k=>⟨rfl,k⟩)) rfl rfl rfl (by simp[sortWorldK,putRowK,ahead]) (λr g az=>by simp only[sortWorldK,grow,putRowK,Go.Sort.putRow,mapBlock];rw[ABu (by simpa using g),ABS];rw[E1 (AAX az)];rfl) (.inl rfl) (by simp[sortWorldK,putRowK,ahead];omega) (by
 refine⟨?_,λc k=>by rw[T3,E];simpa using ak c k,by rw[T3,E];exact Q,_,J,hW,by simpa[putCells]using al,?_⟩;·intro i r g;rw[fx]at g;cases Y:(lg l)[i]? with|none=>rw[Y]at g;cases g|some x=>rw[Y]at g;cases g;rfl
 intro i r j p a0 f;obtain⟨hi,A,B⟩:=Xr a0 f;refine⟨(jW (lg l)[i]!)[j]!,?_,?_⟩
 ·have Z:=Xq _ i j hi A;have e4:(lg l).toArray=pg l.toArray:=by simp[lg]
  rw[e4]at Z;have a2:b.off+(i*2+j)<s.size:=by omega
  simp only[putCells,Array.getElem?_mapIdx,ma a2,ga];rw[E4 ⟨by omega,by rw[size_flatK,ay];omega⟩,show b.off+(i*2+j)-b.off=i*2+j by omega,Z];rfl
 exact⟨(B K).2,(B _).1⟩);exact⟨_,_,X.1,X.2,.tu _ _ [] [] rfl (λj d v x y=>by simp at x)⟩
   grind
  grind
 grind
end
section
open Go.Dm Go.Proofs Go.ChangeMaps
def CK{K:Kn}{μ:Mu}{H:ab}{x:D}{vs:List Value}(h:bf K μ H [x] vs):∃v,vs=[v]/\VR K μ H x v:=by match vs,h.1 with|[v],_=>exact⟨v,rfl,h.2 0 _ _ rfl rfl⟩
def IK{K:Kn}{μ:Mu}{H:ab}{x y:D}{vs:List Value}(h:bf K μ H [x,y] vs):∃v w,vs=[v,w]/\VR K μ H x v/\VR K μ H y w:=by match vs,h.1 with|[v,w],_=>exact⟨v,w,rfl,h.2 0 _ _ rfl rfl,h.2 1 _ _ rfl rfl⟩
def aqG:mT Tryz.prog 109:=⟨Tryz.f109,Tryz.func109,by kernel_rfl,by decide+kernel⟩
def Xc:mT Tryz.prog 65:=⟨Tryz.f65,Tryz.func65,by kernel_rfl,by decide+kernel⟩
def Xd:mT Tryz.prog 275:=⟨Tryz.f275,Tryz.func275,by kernel_rfl,by decide+kernel⟩
def Xe:mT Tryz.prog 294:=⟨Tryz.f294,Tryz.func294,by kernel_rfl,by decide+kernel⟩
def Xf(f:FuncId)(args:List D)(H:ab)(d:D)(l:ab)(h:q9 f args H=some (d,l)):H.length<=l.length/\mT Tryz.prog f/\∀(K:Kn)(μ:Mu)(W:World)(vs:List Value),fP K W->HR K μ H W->bf K μ H args vs->Calls Tryz.prog f vs.toArray W (fW K μ H W d l):=by
 unfold q9 at h;split at h
 ·rename_i c;subst c;split at h;·obtain⟨g,i⟩:=aro h;refine⟨g,aqG,λK μ W vs j hr a=>?_⟩;obtain⟨v,w,rfl,b,k⟩:=IK a;exact i K μ W v w j hr b k
  cases h
 split at h
 ·rename_i c;subst c;split at h;·cases h;refine⟨G1 _,Xc,λK μ W vs j hr a=>?_⟩;obtain⟨v,rfl,b⟩:=CK a;cases b;refine(Tryz.sort_nil W).mono ?_;rintro e m⟨rfl,rfl⟩;exact⟨K,μ,hr,.refl _ _ _ _,IR⟩
  ·obtain⟨g,i⟩:=arj h;refine⟨g,Xc,λK μ W vs j hr a=>?_⟩;obtain⟨v,rfl,b⟩:=CK a;exact i K μ W v hr b
  cases h
 split at h
 ·rename_i c;subst c;split at h;·cases h;refine⟨G1 _,Xd,λK μ W vs j hr a=>?_⟩;obtain⟨v,rfl,b⟩:=CK a;cases b;refine(Any.slices_Compact_int_empty Tryz.compL none 0 W).mono ?_;rintro e m⟨rfl,rfl⟩;exact⟨K,μ,hr,.refl _ _ _ _,.nil ..⟩
  ·obtain⟨g,i⟩:=ark h;refine⟨g,Xd,λK μ W vs j hr a=>?_⟩;obtain⟨v,rfl,b⟩:=CK a;exact i K μ W v hr b
  cases h
 split at h
 ·rename_i c;subst c;split at h;·cases h;refine⟨G1 _,Xe,λK μ W vs j hr a=>?_⟩;obtain⟨v,w,rfl,b,k⟩:=IK a;cases b;refine(AnyF.slices_SortFunc_none Tryz.sortSp none 0 _ W).mono ?_;rintro e m⟨rfl,rfl⟩;exact⟨K,μ,hr,.refl _ _ _ _,IR⟩
  ·obtain⟨g,i⟩:=art h;refine⟨g,Xe,λK μ W vs j hr a=>?_⟩;obtain⟨v,w,rfl,b,k⟩:=IK a;exact i K μ W v w hr b k
  cases h
 cases h
def jr:Tryz.prog.follows .mixedOrders=true:=by kernel_rfl
def i6:dK Tryz.prog V1 fP:=ab7 (e:=q9) (p:=λ_ _=>none) Xo Xf (λ_ _ _ _ _ h=>by cases h) (λg w rows h K W a=>a.g g w rows h)
set_option maxRecDepth 100000
def vR:List aq:=[⟨.mov (.s 15),none,none⟩,⟨.stk,some 20,none⟩]
def aqH:cw Tryz.prog V1 93 mD nJ (sL wn) (lO 0)=true:=by kernel_rfl
def aqI:cw Tryz.prog V1 93 mD nJ (sL (sR wn)) (lO 1)=true:=by kernel_rfl
def aqJ:cw Tryz.prog V1 93 mD nJ (sL (sR (sR wn))) (lO 2)=true:=by kernel_rfl
def aqK:cw Tryz.prog V1 93 mD nJ (sL (sR (sR (sR wn)))) (lO 3)=true:=by kernel_rfl
def okR:pI Tryz.prog V1 93 mD nJ (fH nK) none vR=true:=by kernel_rfl
def okN:pI Tryz.prog V1 93 iC [] (fH mF) none IC=true:=by kernel_rfl
def okE:pI Tryz.prog V1 93 iC [] (fH oV) none WR=true:=by kernel_rfl
def okQ:cw Tryz.prog V1 93 iC [] WW ID=true:=by kernel_rfl
def okS:cw Tryz.prog V1 93 iC [] aqs IE=true:=by kernel_rfl
def okF:cw Tryz.prog V1 93 iC [] aqt IF=true:=by kernel_rfl
def wq:nodup mD=true:=by kernel_rfl
def wt:∀t∈mD,t<93:=by decide
def zd:nodup iC=true:=by kernel_rfl
def ze:∀t∈iC,t<93:=by decide
def opR:∃o,(fH nK)[1]?=some o/\o.op=.range 60 (.tmp 73)/\o.dst=some 74/\o.guard=none:=⟨(fH nK)[1]!,by kernel_rfl,by kernel_rfl,by kernel_rfl,by kernel_rfl⟩
def opN:∃o,(fH mF)[0]?=some o/\o.op=.next (.tmp 74) false/\o.dst=some 75/\o.guard=none:=⟨(fH mF)[0]!,by kernel_rfl,by kernel_rfl,by kernel_rfl,by kernel_rfl⟩
def aqT:∃o,(fH oV)[0]?=some o/\o.op=.entry (.tmp 74)/\o.dst=some 77/\o.guard=none:=⟨(fH oV)[0]!,by kernel_rfl,by kernel_rfl,by kernel_rfl,by kernel_rfl⟩
def szR:(fH nK).size=2:=by kernel_rfl
def szN:(fH mF).size=2:=by kernel_rfl
def CL:(fH oV).size=3:=by kernel_rfl
def aqW:Tryz.f19.body=some wn:=by kernel_rfl
def aqX:gJ Tryz.prog iC [] Tryz.f19.results.toList [.s 6]=true:=by kernel_rfl
end
section
open Go.Dm Go.Proofs Go.ChangeMaps
def mG(e:MapEntry):Int:=match e.val with|.int _ n=>n|_=>0
def mH(rows:List (List D))(a:List MapEntry):List Int:=(a.filter λe=>!kj rows[(mG e).toNat]!).map mG
structure CM(rows:List (List D))(e:MapEntry):Prop where k:∃s:List UInt8,e.key=.string ⟨s.toArray⟩v:∃i:Nat,i<rows.length/\e.val=.int .i64 i
abbrev CN:an:=.ar 1 [] (some 0) true true
def Xg(l:List Int):(hL l)[0]?=some CN:=by unfold hL bH<;>grind
section
variable{E:En}{x0 x1 x2 c:D}{rows:List (List D)}{mes:Array MapEntry}{clock bm r:Nat}
structure LM(mes:Array MapEntry)(clock bm r:Nat)(vis:List MapEntry)(K:Kn)(μ:Mu)(H:ab)(W:World):Prop where
 ar:sW K μ H W r
 am:sW K μ H W bm
 μ0:μ 0=some ⟨r,0,0⟩it:W.heap[r]?=some (.mapIter (some bm) clock (vis.map (·.born)).toArray clock)hm:W.heap[bm]?=some (.map mes clock)
variable{i:List MapEntry}{e f:Mu}{g h:World}
def LM.nx{K d:Kn}{H c:ab}(a:LM mes clock bm r i K e H g)(k:H[0]?=some CN)(m:c[0]?=some CN)(nx:Nx K e H g d f c h):LM mes clock bm r i d f c h:=by
 obtain⟨l,b,g1,j,n⟩:=nx.ext.m 0 _ _ a.μ0 k;rw[m]at j;cases j;have t:l=⟨r,0,0⟩:=by cases n<;>grind
 obtain⟨o,p⟩:=a.ar.nx nx;obtain⟨q,s⟩:=a.am.nx nx;exact⟨o,q,by grind,by rw[p];exact a.it,by rw[s];exact a.hm⟩
structure LI(E:En)(x0 x1 x2 c:D)(l:List Int)(mes:Array MapEntry)(clock bm r:Nat)(vis:List MapEntry)(K:Kn)(μ:Mu)(j2 j4 j5 j6:D)(a:Act)(W:World):Prop where
 fs:FS E iC [] K μ (λ_=>none) [.ip [x0,x1,x2,c],dL l,j2,.aa 0,j4,j5,j6] (hL l) a.tmps W
 lm:LM mes clock bm r vis K μ (hL l) W
 sz:a.tmps.size=93
 df:a.defers=[]
variable{x y z a b d:D}
def LI.ptr{l:List Int}{K:Kn}{a:Act}(h:LI E x0 x1 x2 c l mes clock bm r i K e x y z b a g):a.eval (.tmp 74)=.pointer (some ⟨r,0,none⟩):=by obtain⟨d,v,j,m,k⟩:=h.fs.val 3 74 rfl rfl;cases j;cases k with|aa _ _ _ l w rows c p lk f n=>rw[h.lm.μ0]at f;cases f;show a.tmps.getD 74 undef=_;simp_all
def LI.bool{l:List Int}{K:Kn}{f:D}{x:Bool}{a:Act}(h:LI E x0 x1 x2 c l mes clock bm r i K e y (.b x) z f a g):a.eval (.tmp 76)=.bool x:=by obtain⟨d,v,j,m,k⟩:=h.fs.val 4 76 rfl rfl;cases j;cases k;show a.tmps.getD 76 undef=_;simp_all
def CO{P:Program}{o:Oper}{a:Operand->Value}{v:Value}{s:Sem Value}(b:s.run P g=.ok v h)(c:execOp a o=(do pure (.value (<-s)))):(execOp a o).run P g=.ok (.value v) h:=by simp_all
def aqY{a:List MapEntry}{e:MapEntry}{i:Nat}(b:e.val=.int .i64 i):mH rows (a++[e])=if kj rows[i]! then mH rows a else mH rows a++[(i:Int)]:=by grind[mG,mH,kj]
def Xh{vis:List MapEntry}:(mH rows vis).length<=vis.length:=by grind[mH]
theorem LI.base{l:List Int}{K:Kn}{a:Act}(h:LI E x0 x1 x2 c l mes clock bm r i K e x y z b a g)(d:TE fP E):TE fP ⟨K,e,hL l,g⟩:=⟨i6.up d.1 d.2 h.fs.nx,h.fs.hr⟩
theorem LI.over{l j:List Int}{K m:Kn}{s:Nat->Option Nat}{n o p:D}{a k:Act}(q:LI E x0 x1 x2 c l mes clock bm r i K e x y z b a g)(fs:FS ⟨K,e,hL l,g⟩ iC [] m f s [.ip [x0,x1,x2,c],dL j,d,.aa 0,n,o,p] (hL j) k.tmps h)(hs:k.tmps.size=93)(t:k.defers=[]):LI E x0 x1 x2 c j mes clock bm r i m f d n o p k h:=⟨q.fs.over fs,q.lm.nx (Xg l) (Xg j) fs.nx,hs,t⟩
def tu1{K:Kn}{H:ab}{d:D}{v:Value}(h:VR K e H d v):VR K e H (.tu [d]) (.tuple #[v]):=.tu _ _ _ [_] rfl (λj d v a b=>by grind)
def tu2{K:Kn}{H:ab}{d:D}{v w:Value}(h:VR K e H d v)(a:VR K e H x w):VR K e H (.tu [d,x]) (.tuple #[v,w]):=.tu _ _ _ [_,_] rfl (λj d v b c=>by grind)
def tu3{K:Kn}{H:ab}{d f:D}{v w x:Value}(h:VR K e H d v)(a:VR K e H y w)(b:VR K e H f x):VR K e H (.tu [d,y,f]) (.tuple #[v,w,x]):=.tu _ _ _ [_,_,_] rfl (λj d v c g=>by grind)
def aq2{Q:Exit->Act->World->Prop}(Y:TE fP E){l:List Int}(Z:ji mes clock)(hE:E.w.heap.size<=r)(ac:r≠bm)(ad:∀k∈mes.toList,CM rows k){v:List MapEntry}{K:Kn}{m n:D}{a:Act}(h:LI E x0 x1 x2 c l mes clock bm r v K e y z m n a g)(h0:(leftOf mes (v.map (·.born)).toArray).size=0->∀w A p q,LI E x0 x1 x2 c l mes clock bm r v w A y (.b false) m n p q->Q .normal p q)(h1:∀k∈(leftOf mes (v.map (·.born)).toArray).toList,∀w A p q,LI E x0 x1 x2 c l mes clock bm r (v++[k]) w A y (.b true) m n p q->Q .normal p q):mF.wpIn (FW none) 0 Tryz.prog Q a g:=by
 obtain⟨rg,back,hfirst,_⟩:=xF okN zd ze;obtain⟨o,L,I,av,M⟩:=opN;have hit:=h.lm.it;have ag:=Z.lt;rw[aqv];refine wpIn_region ?_;rw[szN,show List.range 2=[0,1]from rfl];have N:RI (jO Tryz.prog V1 93 iC [] (fH mF) IC) E [] (λj=>j<0) _ K e [.u,.u] [.ip [x0,x1,x2,c],dL l,y,.aa 0,z,m,n] _ a g:=⟨h.fs,λj o vo t hj=>absurd hj (by omega),h.sz,h.df,rfl⟩;have F:=run_next_at (P:=Tryz.prog) g o.type r bm clock clock _ mes clock hit h.lm.hm ag (G1 _);have S:execOp a.eval o=(do pure (.value (<-Instr.next (.pointer (some ⟨r,0,none⟩)) false o.type))):=by unfold execOp;rw[I,<-h.ptr]
 have U:∀{x:Bool}{d:D}{J:List _}{G:Act}{B:World}{V:List D},d=.tu (.b x::V)->LI E x0 x1 x2 c l mes clock bm r J K e y z m n G B->RI (jO Tryz.prog V1 93 iC [] (fH mF) IC) E [] (λj=>j=0\/j<0) (λ_=>none) K e [d,.u] [.ip [x0,x1,x2,c],dL l,y,.aa 0,z,m,n] (hL l) G B->(∀w A p q,LI E x0 x1 x2 c l mes clock bm r J w A y (.b x) m n p q->Q .normal p q)->wpOpsIn (FW none) 0 Tryz.prog (fH mF) Q [1] G B:=by rintro x d J G B V rfl hl f hk;have ai:RI _ ⟨K,e,hL l,B⟩ [] _ _ K e [.tu _,.u] [.ip [x0,x1,x2,c],dL l,y,.aa 0,z,m,n] _ G B:=⟨hl.fs.base,f.lr,f.sz,f.df,f.ln⟩;refine sw rg ai i6 (hl.base Y) (rG jr i6 0) (i:=1) rfl (by decide) (by intro hx;cases hx) (dr:=none) (loc1:=[.tu _,.b x]) (st1:=⟨[.ip [x0,x1,x2,c],dL l,y,.aa 0,.b x,m,n],hL l⟩) rfl (λL' w A p q r2=>?_);exact hk w A p q (hl.over r2.fs r2.sz r2.df)
 rcases F with⟨hz,F⟩|⟨k,W,C,X,F⟩;·refine CJ rg N L rfl M rfl rfl (by rw[I];intro cl k;cases k) (CO F S) h.fs (.refl _ _ _) (tu1 (.b ..)) (λf=>?_);exact U rfl ⟨f.fs,h.lm,f.sz,f.df⟩ f (h0 hz)
 obtain⟨am,ay⟩:=WQ W;obtain⟨⟨ks,an⟩,⟨i,hi,ao⟩⟩:=ad k am;have H:C.heap=g.heap:=by rcases X with rfl|rfl<;>rfl
 have ap:FS E iC [] K e (λ_=>none) [.ip [x0,x1,x2,c],dL l,y,.aa 0,z,m,n] (hL l) a.tmps C:=by
  rcases X with rfl|rfl;·exact h.fs
  exact h.fs.drew
 have aq:sW K e _ C r:=⟨h.lm.ar.own,h.lm.ar.kn,by rw[H];exact h.lm.ar.lt⟩;have ar:=ap.blk aq hE (.mapIter (some bm) clock ((v.map (·.born)).toArray.push k.born) clock);have au:LM mes clock bm r (v++[k]) K e (hL l) (setBlock C r (.mapIter (some bm) clock ((v.map (·.born)).toArray.push k.born) clock)):=by
  refine⟨⟨h.lm.ar.own,h.lm.ar.kn,?_⟩,⟨h.lm.am.own,h.lm.am.kn,?_⟩,h.lm.μ0,?_,?_⟩;·simpa[setBlock,H]using h.lm.ar.lt
  ·simpa[setBlock,H]using h.lm.am.lt
  ·rw[show(setBlock C r _).heap[r]?=_ from World.putObj_heap_same (by rw[H];exact h.lm.ar.lt)];simp
  rw[show(setBlock C r _).heap[bm]?=_ from World.putObj_heap_other (AAX ac),H];exact h.lm.hm
 refine CJ rg N L rfl M rfl rfl (by rw[I];intro cl k;cases k) (CO F S) ar (.refl _ _ _) (tu3 (.b ..) (by rw[an];exact .s ..) (by rw[ao];exact .i ..)) (λf=>?_);exact U rfl ⟨f.fs,au,f.sz,f.df⟩ f (h1 k W)
def aq3{Q:Exit->Act->World->Prop}(p:TE fP E){l:List Int}(w:ji mes clock){f:List MapEntry}{d:MapEntry}(A:d∈mes.toList){k:List UInt8}{i:Nat}(B:d.key=.string ⟨k.toArray⟩)(C:d.val=.int .i64 i){K:Kn}{a:Act}(h:LI E x0 x1 x2 c l mes clock bm r (f++[d]) K e x y z b a g)(F:∀q v m n,LI E x0 x1 x2 c l mes clock bm r (f++[d]) q v (.i .i64 i) y z b m n->Q .normal m n):oV.wpIn (FW none) 0 Tryz.prog Q a g:=by
 have hit:g.heap[r]?=some (.mapIter (some bm) clock ((f.map (·.born)).toArray.push d.born) clock):=by rw[h.lm.it];simp
 obtain⟨rg,back,hfirst,_⟩:=xF okE zd ze;obtain⟨o,G,H,Z,I⟩:=aqT;rw[aqw];refine wpIn_region ?_;rw[CL,show List.range 3=[0,1,2]from rfl];have J:RI (jO Tryz.prog V1 93 iC [] (fH oV) WR) ⟨K,e,hL l,g⟩ [] (λj=>j<0) _ K e [.u,.u,.u] [.ip [x0,x1,x2,c],dL l,x,.aa 0,y,z,b] _ a g:=⟨h.fs.base,λj o vo t L=>absurd L (by omega),h.sz,h.df,rfl⟩;have M:=run_entry_at (P:=Tryz.prog) g r bm clock _ mes clock d hit h.lm.hm A w.nd;have N:execOp a.eval o=(do pure (.value (<-Instr.entry (.pointer (some ⟨r,0,none⟩))))):=by unfold execOp;rw[H,<-h.ptr]
 refine CJ rg J G rfl I rfl rfl (by grind) (CO M N) h.fs.base (.refl _ _ _) (tu2 (by rw[B];exact .s ..) (by rw[C];exact .i ..)) (λS=>?_);refine sw rg S i6 (h.base p) (rG jr i6 0) (i:=1) rfl (by decide) (by grind) (dr:=none) (loc1:=[.tu [.s k,.i .i64 i],.i .i64 i,.u]) (st1:=⟨[.ip [x0,x1,x2,c],dL l,x,.aa 0,y,z,b],hL l⟩) rfl (λL' q v m n r2=>?_);refine sw rg r2 i6 (h.base p) (rG jr i6 0) (i:=2) rfl (by decide) (by intro U;cases U) (dr:=none) (loc1:=[.tu [.s k,.i .i64 i],.i .i64 i,.i .i64 i]) (st1:=⟨[.ip [x0,x1,x2,c],dL l,.i .i64 i,.aa 0,y,z,b],hL l⟩) rfl (λL2 V W X Y r3=>?_);exact F V W X Y (h.over r3.fs r3.sz r3.df)
end
end
section
open Go.Dm Go.Proofs Go.ChangeMaps
section
variable{E:En}{x0 x1 x2 c:D}{rows:List (List D)}{mes:Array MapEntry}{clock bm r:Nat}
variable{e f:Mu}{x y z a b d:D}{g h:World}
def aq4{Q:Exit->Act->World->Prop}(u:TE fP E)(L:Sl 24 rows c)(M:rows.all mN=true)(hl:mes.size<1099511627776)(q:ji mes clock)(N:E.w.heap.size<=r)(P:r≠bm)(B:∀j∈mes.toList,CM rows j){K:Kn}{v:D}{a:Act}(h:LI E x0 x1 x2 c [] mes clock bm r [] K e z b d v a g)(S:∀(f:List MapEntry)s t j2' j4' j5' m n,LI E x0 x1 x2 c (mH rows f) mes clock bm r f s t j2' j4' j5' v m n->f.Perm mes.toList->Q .normal m n):(Code.block 2 (.loop (.seq mF (.seq (.cond (.tmp 76) .skip (.exit 2)) (.block 3 (.seq oV WW)))))).wpIn (FW none) 0 Tryz.prog Q a g:=by
 refine wpIn_block (wpIn_loop (λa g=>∃f K e z b d,LI E x0 x1 x2 c (mH rows f) mes clock bm r f K e z b d v a g/\(∀j∈f,j∈mes.toList)/\(f.map (·.born)).Nodup) (λ_ g=>match g.heap[r]? with|some (.mapIter _ _ seen _)=>mes.size-seen.size|_=>0) ⟨[],K,e,z,b,d,h,λj l=>(by cases l),by simp⟩ ?_);rintro a g⟨f,K,e,z,b,d,h,C,F⟩;refine wpIn_seq (aq2 u q N P B h (λU s t m n o=>?_) (λj l s t m n o=>?_));·refine wpIn_seq (wpIn_cond_false o.bool (wpIn_exit ?_));have:=S f s t _ _ _ m n o (aqp q C F (λj l=>by simpa using aqn U j l));simpa only[Exit.then,Exit.inBlock,if_true]using this
 obtain⟨w,V⟩:=WQ l;obtain⟨⟨ks,W⟩,⟨i,hi,G⟩⟩:=B j w;have H:∀x∈f++[j],x∈mes.toList:=λx k=>by
  rcases TA.1 k with k|k;·exact C x k
  rw[eD.1 k];exact w
 have I:((f++[j]).map (·.born)).Nodup:=by rw[eH];refine AAH.2 ⟨F,by simp,λx k y J=>?_⟩;simp[kb,AAK,eD]at J;subst J;intro X;subst X;exact V (by simpa using k)
 have al:=by have:=aqq q H I;simpa using this
 refine wpIn_seq (wpIn_cond_true o.bool (wpIn_skip ?_));refine wpIn_block (wpIn_seq (aq3 u q w W G o (λY Z a2 W2 p=>?_)));have aa:(mH rows f).length<1099511627776:=by have:=Xh (rows:=rows) (vis:=f);omega
 refine wpIn_mono (sX jr i6 zd ze (p.base u) okQ (aqC L M aa hi) ⟨λ_=>none,Y,Z,p.fs.base,p.sz,p.df⟩ (λ_ _ hq=>hq.1)) ?_;rintro ex a3 W3⟨rfl,st,⟨_,rfl⟩,L3,K3,ad,ae,af,ag⟩;have A:=p.over ae af ag;rw[<-aqY G]at A;refine⟨⟨f++[j],K3,ad,_,_,_,A,H,I⟩,?_⟩;have e1:=A.lm.it;have e0:=h.lm.it;simp only[e1,e0];simp;omega
end
variable{e f:Mu}
def IL{d:D}(h:fK d=true){K c:Kn}{k:Mu}{H l:ab}{v:Value}(m:VR K e H d v)(g:∀b o v,K b o=some v->c b o=some v):VR c k l d v:=by
 cases m<;>first|(cases h;done)|exact .s ..|exact .nil ..|exact .z ..|skip
 rename_i w rows blk u cap f n p q t hr;exact .im _ _ _ _ _ _ _ f n p (λi r j d a b=>g _ _ _ (q i r j d a b)) t (λi r j d a b=>(hr i r j d a b).ext (ba.zero g))
def aq5{w:Nat}{rows:List (List D)}{d:D}(h:Sl w rows d):fK d=true:=by cases h<;>rfl
def aq6:∃k e,Tryz.prog.underlying 60=some (.map k e):=⟨9,3,by kernel_rfl⟩
theorem Xi{rows:List (List D)}{name:List UInt8}{date known:Int}:∀n,(dQ rows name date known n).length<=n
 |0=>G1 _|n+1=>by
  have cS:∀(l:List UInt8)(m:List _),(ja l n m).length<=m.length+1:=by intro l m;induction m<;>grind[ja]
  have a:=Xi (rows:=rows) (name:=name) (date:=date) (known:=known) n;grind[cS,ug,dQ,II,jw]
variable{g h:World}{x y z a b d:D}
def aq7{J K:Kn}{L:Nat->Option Nat}{x0 x1 x2 c p kn M N P Q S U V W X Y:D}{m:List (List UInt8×Nat)}{a:Act}{bm r:Nat}{mes:Array MapEntry}{clock:Nat}(fs:FS ⟨J,aK,[],g⟩ mD nJ K e L [p,y,z,kn,.nil,M,N,P,.u,.u,.bx [x0,x1,x2,c],Q,S,U,V,.mp 0,W,X,Y,.nil,.ip [],.u] [.mp (kW m)] a.tmps h)(hs:a.tmps.size=93)(hd:a.defers=[])(h0:fK x0=true)(h1:fK x1=true)(h2:fK x2=true)(h3:fK c=true)(hp:a.tmps[74]?=some (.pointer (some ⟨r,0,none⟩)))(hr:h.heap[r]?=some (.mapIter (some bm) clock #[] clock))(Z:h.heap[bm]?=some (.map mes clock))(ak:∀o v,K r o≠some v)(al:∀o v,K bm o≠some v)(am:∀k,L k≠some r)(an:∀k,L k≠some bm):∃K',LI ⟨J,aK,[],g⟩ x0 x1 x2 c [] mes clock bm r [] K' (aK.upd 0 ⟨r,0,0⟩) .u .u .u .nil a h:=by
 have ab:∀{x:Nat}{o:Obj},h.heap[x]?=some o->x<h.heap.size:=λ{x o}f=>by grind
 rcases fs.box 10 4 rfl rfl with hbx|⟨w,cs,vs,ty,hL,aq,ar,au,F⟩;·cases hbx
 cases aq;obtain⟨o1,o2,o3,o4⟩:=fs.own 10 w hL;have B:∀b o v,K b o=some v->(if b=w then vs[o]? else K b o)=some v:=λb o v f=>by grind
 have C:∀x,¬cd (aK.upd 0 ⟨r,0,0⟩) [CN] x:=by
  rintro x⟨id,l,b,H,s,E,e4⟩;have:id=0:=by grind
  subst this;cases s;cases E
 have av:r≠w:=λf=>am 10 (by grind);have aw:bm≠w:=λf=>an 10 (by grind);refine⟨λb o=>if b=w then vs[o]? else K b o,⟨⟨⟨?_,?_,?_,?_,?_,?_,?_⟩,⟨⟨?_,?_⟩,fs.nx.os,fs.nx.tape,fs.nx.output,fs.nx.size,fs.nx.keep,?_,?_⟩,rfl,?_,λk t _ b=>(by grind),λk r f=>(by cases f),λk k' r f=>(by cases f)⟩,⟨⟨C _,?_,ab hr⟩,⟨C _,?_,ab Z⟩,rfl,hr,Z⟩,hs,hd⟩⟩
 ·intro id l f;unfold Mu.upd at f;split at f;·rename_i A;subst A;constructor<;>grind
  cases f
 ·intro id A;have:=by simpa[Dv.hL,bH]using A
  subst this;exact⟨_,rfl⟩
 ·intro id l b H s;have G:=ay s;have:=by simpa[Dv.hL,bH]using G
  subst this;cases s;exact⟨rfl,λi r hr=>by grind,λc _=>AAg _,λi r j d f=>by grind⟩
 ·intro id l f;unfold Mu.upd at f;split at f;·grind
  cases f
 ·intro id id' l l' b b' _ _ s _ E;have G:=ay s;have:=by simpa[Dv.hL,bH]using G
  subst this;cases s;cases E
 ·intro b o v f;split at f;·rename_i ax;subst ax;rw[cell_of_row h b _ vs ty _ au];exact f
  exact fs.hr.kn b o v f
 ·intro b o v _;exact C b
 ·intro b o v f;exact B b o v (fs.nx.ext.k b o v f)
 ·grind
 ·intro x A;exact(C x A).elim
 ·intro b o v f;split at f;·omega
  exact fs.nx.kg b o v f
 ·have val:∀{k t:Nat}{d:D},mD[k]?=some t->nJ.contains k=false->[p,y,z,kn,.nil,M,N,P,.u,.u,.bx [x0,x1,x2,c],Q,S,U,V,.mp 0,W,X,Y,.nil,.ip [],.u][k]?=some d->∃v,a.tmps[t]?=some v/\VR K e [.mp (kW m)] d v:=λ{k t d}H s E=>by obtain⟨d',v,g1,q,g3⟩:=fs.val k t H s;grind
  intro k t n _;match k,n with
  |0,n=>
  cases n;refine⟨_,_,rfl,ar,?_⟩;have I:∀(j:Nat)(d:D),[x0,x1,x2,c][j]?=some d->∃v,vs[j]?=some v/\v.oneCell'=true/\VR K e [.mp _] d v:=λj d f=>by
   have hj:=ay f;have ad:j<vs.toList.length:=by rw[<-F.1.1];exact hj
   refine⟨vs.toList[j],by simp,F.2 _ (hY ad),F.1.2 j d _ f (Hk ad)⟩
  refine .ip _ _ _ w 0 (λj=>vs[j]!) (λj d f=>?_) (λj d f=>?_) (λj d f=>?_);·obtain⟨v,g1,_⟩:=I j d f;rw[E4 rfl,lB,getElem!_def,g1]
  ·obtain⟨v,g1,q,_⟩:=I j d f;rw[getElem!_def,g1];exact q
  obtain⟨v,g1,_,g3⟩:=I j d f;rw[getElem!_def,g1];refine IL ?_ g3 B;match j,f with|0,f=>cases f;exact h0|1,f=>cases f;exact h1|2,f=>cases f;exact h2|3,f=>cases f;exact h3
  |1,n=>cases n;obtain⟨v,g1,q⟩:=val (k:=19) rfl rfl rfl;exact⟨_,v,rfl,g1,IL rfl q B⟩|2,n=>cases n;obtain⟨v,g1,q⟩:=val (k:=21) rfl rfl rfl;exact⟨_,v,rfl,g1,by cases q;exact .u ..⟩|3,n=>cases n;exact⟨_,_,rfl,hp,.aa _ _ 0 ⟨r,0,0⟩ 1 [] 0 true true rfl rfl⟩|4,n=>cases n;obtain⟨v,g1,q⟩:=val (k:=8) rfl rfl rfl;exact⟨_,v,rfl,g1,by cases q;exact .u ..⟩|5,n=>cases n;obtain⟨v,g1,q⟩:=val (k:=9) rfl rfl rfl;exact⟨_,v,rfl,g1,by cases q;exact .u ..⟩|6,n=>cases n;obtain⟨v,g1,q⟩:=val (k:=4) rfl rfl rfl;exact⟨_,v,rfl,g1,IL rfl q B⟩
 ·intro o v f;rw[E1 av]at f;exact ak o v f
 intro o v f;rw[E1 aw]at f;exact al o v f
def aq8:∃o,(fH nK)[0]?=some o/\o.dst=some 73:=⟨(fH nK)[0]!,by kernel_rfl,by kernel_rfl⟩
def FQ{K:Kn}{H:ab}{m:List (List UInt8×Nat)}{mes:Array MapEntry}{rows:List (List D)}(n:∀q∈m,q.2<rows.length)(g:(kW m).length=mes.size)(h:∀(j:Nat)(k v:D)(a:MapEntry),(kW m)[j]?=some (k,v)->mes[j]?=some a->VR K aK [] k a.key/\VR K e H v a.val):(∀a∈mes.toList,CM rows a)/\mes.toList.map mG=m.map (λq=>(q.2:Int)):=by
 rw[aqz]at g;have i:∀(j:Nat)(f:j<m.length)(a:MapEntry),mes[j]?=some a->a.key=.string ⟨(m[j].1).toArray⟩/\a.val=.int .i64 m[j].2:=λj f a d=>by
  obtain⟨b,c⟩:=h j (IH m[j].1) (wo m[j].2) a (by grind[kW,dN]) d;constructor;·generalize a.key=v at b;cases b;rfl
  generalize a.val=v at c;cases c;rfl
 constructor
 ·intro a d;obtain⟨j,f,rfl⟩:=kz.1 d;have l:j<m.length:=by grind
  obtain⟨b,c⟩:=i j l mes.toList[j] (by grind);constructor<;>grind
 refine ACB (by grind) (λj b c=>?_);grind[mG]
def aq9{Q:Exit->Act->World->Prop}{b:Kn}{a:Act}{z:St}{x0 x1 x2 c:D}{rows:List (List D)}{f:List UInt8}{l n:Int}(M:TE fP ⟨b,aK,[],g⟩)(N:M1 x0 x1 x2 c rows f l n .nil z)(P:fO ⟨b,aK,[],g⟩ mD nJ 93 [] z a h)(S:fK x0=true)(U:fK x1=true)(V:fK x2=true)(W:fK c=true)(A:∀mes clock bm r p B C,LI ⟨b,aK,[],g⟩ x0 x1 x2 c [] mes clock bm r [] p (aK.upd 0 ⟨r,0,0⟩) .u .u .u .nil B C->ji mes clock->g.heap.size<=r->r≠bm->(∀e∈mes.toList,CM rows e)->mes.toList.map mG=(dQ rows f l n rows.length).map (λq=>(q.2:Int))->Q .normal B C):nK.wpIn (FW none) 0 Tryz.prog Q a h:=by obtain⟨j5,j6,j7,a4,a5,a6,a7,rfl⟩:=N.e;obtain⟨L,K,μ,fs,hs,X⟩:=P;obtain⟨rg,back,hfirst,_⟩:=xF okR wq wt;obtain⟨o,Y,E,Z,hg⟩:=opR;obtain⟨o0,ac,ad⟩:=aq8;have F:=IJ (rows:=rows) (name:=f) (date:=l) (known:=n) rows.length;generalize dQ rows f l n _=m at fs A F;rw[aqu];refine wpIn_region ?_;rw[szR,show List.range 2=[0,1]from rfl];have ri:RI (jO Tryz.prog V1 93 mD nJ (fH nK) vR) ⟨b,aK,[],g⟩ [] (λj=>j<0) L K μ [.u,.u] _ _ a h:=⟨fs,λj o vo t hj=>absurd hj (by omega),hs,X,rfl⟩;refine sw rg ri i6 M (rG jr i6 0) (i:=0) rfl (by decide) (by omega) (dr:=none) (loc1:=[.mp 0,.u]) rfl (λL1 K1 G s w r1=>?_);obtain⟨x,u,e1,e2,e3⟩:=r1.lr 0 o0 _ 73 (.inl rfl) ac rfl ad rfl;cases e1;have ak:VR K1 G [.mp _] _ u:=e3;cases ak with|mp _ _ _ lm es y hH=>
 cases hH;obtain⟨mes,clock,am,H,an,ao⟩:=r1.fs.hr.blk 0 lm _ y rfl;obtain⟨kt,et,ar⟩:=aq6;have au:s.eval (.tmp 73)=.map (some lm.blk):=by show s.tmps.getD 73 undef=_;rw[ABm,e2];rfl
 have av:execOp s.eval o=(do pure (.value (<-Instr.range 60 (.map (some lm.blk))))):=by unfold execOp;rw[E,<-au]
 obtain⟨aw,I⟩:=r1.fs.hr.loc (.mapIter (some lm.blk) clock #[] clock);have J:cd G [.mp (kW m)] _:=⟨0,lm,_,y,rfl,rfl,rfl⟩;have ax:=r1.fs.hr.lt 0 lm y;obtain⟨ee,ev⟩:=FQ F an ao;refine CJ rg r1 Y rfl hg rfl rfl (by rw[E];intro cl e;cases e) (CO (run_range_map w 60 kt et _ mes clock ar H) av) (r1.fs.go aw I) I.ext (.ip _ _ [] _ 0 (λ_=>undef) (λj d e=>by cases e) (λj d e=>by cases e) (λj d e=>by cases e)) (λr2=>?_);obtain⟨p,a0⟩:=aq7 r2.fs r2.sz r2.df S U V W (by rw[Z];exact xR (by rw[r1.sz];decide)) (heap_alloc_new w _) (by rw[heap_alloc_old w _ ax];exact H) (λo v e=>by have:=r1.fs.hr.klt e;omega) (λo v e=>r1.fs.hr.kf _ _ _ e J) (λk e=>by have:=(r1.fs.own k _ e).2.2.2;omega) (λk e=>(r1.fs.own k _ e).1 J);exact A mes clock _ _ p _ _ a0 am r1.fs.nx.size (by omega) ee ev
end
section
open Go.Dm Go.Proofs Go.ChangeMaps
variable{z:List UInt8}{x y:Int}
def ara{rows:List (List D)}{a:Array MapEntry}{b:List MapEntry}(c:b.Perm a.toList)(d:a.toList.map mG=(dQ rows z x y rows.length).map (λq=>(q.2:Int))):cV (mH rows b)=fJ rows z x y:=by
 refine are ?_;refine((c.filter _).map mG).trans ?_;have f:(a.toList.filter λe=>!kj rows[(mG e).toNat]!).map mG=(a.toList.map mG).filter λn=>!kj rows[n.toNat]!:=by rw[vn];rfl
 rw[f,d,vn];have g:((λn:Int=>!kj rows[n.toNat]!)∘λq:List UInt8×Nat=>q.2)=λq=>!kj rows[q.2]!:=by grind
 rw[g]
def arb(l:List Int):ol false (hL l) (dL l)=some (cO 1 (l.map aV)):=by show eE _ _=_;unfold hL dL;rw[GB rfl];unfold iW cO<;>grind
def IM{j k l c:D}{rows:List (List D)}(g:Sl 24 rows c)(m:rows.all mN=true)(u:rows.length<1099511627776)(w:fK j=true)(A:fK k=true)(B:fK l=true){K:Kn}{W:World}{vs:List Value}(C:fP K W)(hr:HR K aK [] W)(o:bf K aK [] [.ag [j,k,l,c],.s z,.i .i64 x,.i .i64 y] vs):Calls Tryz.prog 19 vs.toArray W (uF false K W (cO 1 ((fJ rows z x y).map aV))):=by
 have a:TE fP ⟨K,aK,[],W⟩:=⟨C,hr⟩;have E:vs.length=4:=by rw[<-o.1];rfl
 have F:=xT (bs:=nJ) (npar:=4) (nsl:=22) (by decide) rfl (by decide) wt wq (by decide) (by decide) rfl E hr o;refine calls_of_wp Tryz.func19 aqW (wpIn_wide (n:=0).1 ?_);refine wpIn_seq (wpIn_mono (sX jr i6 wq wt a aqH aqx F (λ_ _ h=>h.1)) ?_);rintro d a1 W1⟨rfl,st1,⟨_,rfl⟩,G⟩;refine wpIn_seq (wpIn_mono (sX jr i6 wq wt a aqI aqy G (λ_ _ h=>h.1)) ?_);rintro d a2 W2⟨rfl,a0,⟨_,rfl⟩,H⟩;refine wpIn_seq (wpIn_mono (sX jr i6 wq wt a aqJ (aqA g m u) H (λ_ _ h=>h.1)) ?_);rintro d a3 W3⟨rfl,a5,⟨_,I⟩,J⟩;obtain⟨L,M,N,P,Q,S,U,rfl⟩:=I.e;refine wpIn_seq (wpIn_mono (sX jr i6 wq wt a aqK aqB J (λ_ _ h=>h.1)) ?_);rintro d a4 W4⟨rfl,a8,⟨_,rfl⟩,V⟩;refine wpIn_seq (wpIn_seq (aq9 a ⟨⟨L,M,N,P,Q,S,U,rfl⟩⟩ V w A B (aq5 g) (λX a9 bm r K' a' W' Y Z hE ab ac p=>?_)));have ad:X.size<1099511627776:=by have e1:=ka List.length p;grind[Xi]
 refine aq4 a g m ad Z hE ab ac Y (λq K5 ah k2 k4 k5 bi W5 e t=>?_);have ai:(mH rows q).length<1099511627776:=by have e1:=Xh (rows:=rows) (vis:=q);have e2:=t.length_eq;grind
 refine wpIn_seq (wpIn_mono (sX jr i6 zd ze (e.base a) okS (aqE ai) ⟨λ_=>none,K5,ah,e.fs.base,e.sz,e.df⟩ (λ_ _ h=>h.1)) ?_);rintro d a6 W6⟨rfl,bp,⟨_,rfl⟩,L6,K6,ak,al,am,an⟩;have b:=e.over al am an;rw[ara t p]at b;refine wpIn_seq (wpIn_mono (sX jr i6 zd ze (b.base a) okF aqF ⟨λ_=>none,K6,ak,b.fs.base,b.sz,b.df⟩ (λ_ _ h=>h.1)) ?_);rintro d a7 W7⟨rfl,bu,⟨_,rfl⟩,L7,K7,ap,aq,ar,au⟩;have f:=b.over aq ar au;refine wpIn_ret ⟨f.df,?_⟩;obtain⟨v,g1,g2⟩:=AS f.fs aqX rfl;exact⟨v,g1,K7,ap,_,_,f.fs.hr,f.fs.nx,g2,arb _⟩
def arc{ds:List D}{d:D}(h:zO ds=some d){K:Kn}{W:World}{vs:List Value}(i:fP K W)(hr:HR K aK [] W)(j:bf K aK [] ds vs):Calls Tryz.prog 19 vs.toArray W (uF false K W d):=by
 have k:∀{rows:List _}{e:List UInt8}{f g:Int}{d:D},uh rows e f g=some d->rows.all mN=true/\rows.length<1099511627776/\d=cO 1 ((fJ rows e f g).map aV):=λ{rows e f g d}h=>by grind[uh]
 unfold zO at h;split at h
 ·rename_i p q r c e f g;split at h
  ·rename_i hs;simp[D0]at hs;obtain⟨⟨l,m⟩,n⟩:=hs;split at h;·obtain⟨a,b,rfl⟩:=k h;exact IM (.nil rfl) a b l m n i hr j
   ·obtain⟨a,b,rfl⟩:=k h;exact IM (.z rfl) a b l m n i hr j
   ·split at h;·rename_i o;subst o;obtain⟨a,b,rfl⟩:=k h;exact IM .im a b l m n i hr j
    grind
   grind
  grind
 grind
set_option maxRecDepth 100000 in def CP:dK Tryz.prog VS fP:=ab7 (e:=q9) (p:=w9) Xo Xf (λf ds d b c h K W vs a hr i=>by
 unfold w9 at h;split at h
 ·rename_i j;subst j;have:b.own=false:=by cases c;rfl
  rw[this];exact arc h a hr i
 cases h) (λg w rows h K W a=>a.g g w rows h)
end
end Go.Proofs.YtigbdbdlkoeadaaGreatDoor.Dv
namespace Go.Dm
section
open Go.ChangeShapes Go.RowKit
inductive T where|b|i(k:IntKind)|s|sl(b:Nat)(ts:List T)|rc(b:Nat)(t:TypeId)deriving Inhabited
abbrev qj:=TypeId->Option (List T)
mutual inductive cP(env:qj):T->D->Prop|b(x:Bool):cP env .b (.b x)|i(k:IntKind)(n:Int)(h:k.min<=n/\n<=k.max):cP env (.i k) (.i k n)|s(l:List UInt8)(h:l.length<=reachBytes):cP env .s (.s l)|nil(b:Nat)(ts:List T):cP env (.sl b ts) .nil|z(b:Nat)(ts:List T):cP env (.sl b ts) .z|sl(b:Nat)(ts:List T)(rows:List (List D))(h:rows.length<=maxLen/\rows.length*b<=reachBytes)(hr:∀r∈rows,cY env ts r):cP env (.sl b ts) (.im ts.length rows)|rnil(b:Nat)(t:TypeId):cP env (.rc b t) .nil|rz(b:Nat)(t:TypeId):cP env (.rc b t) .z|rc(b:Nat)(t:TypeId)(ts:List T)(he:env t=some ts)(rows:List (List D))(h:rows.length<=maxLen/\rows.length*b<=reachBytes)(hr:∀r∈rows,cY env ts r):cP env (.rc b t) (.im ts.length rows)inductive cY(env:qj):List T->List D->Prop|nil:cY env [] []|cons{t:T}{ts:List T}{d:D}{ds:List D}(h:cP env t d)(hs:cY env ts ds):cY env (t::ts) (d::ds)end
theorem cY.len{b:qj}:∀{a:List T}{ds:List D},cY b a ds->ds.length=a.length|_,_,.nil=>rfl|_,_,.cons _ hs=>by simp[hs.len]
def cY.append{a:qj}:∀{c d:List T}{ds ds':List D},cY a c ds->cY a d ds'->cY a (c++d) (ds++ds')|_,_,_,_,.nil,b=>b|_,_,_,_,.cons h hs,b=>.cons h (hs.append b)
def xQ(P:Program)(g:TypeId->Option (List T)):Nat->List Field->Option (List T)|_,[]=>some []|c,f::fs=>if f.offset=c then match g f.type with|some a=>if P.cellsOf f.type=a.length then match xQ P g (c+a.length) fs with|some b=>some (a++b)|none=>none else none|none=>none else none
def ou(P:Program)(c:List TypeId):Nat->TypeId->Option (List T)|0,_=>none|n+1,t=>match P.underlying t with
 |some .bool=>some [.b]|some (.int k)=>some [.i k]|some .string=>some [.s]|some (.slice e)=>if c.contains e then some [.rc (P.bytesOf e) e]else match ou P c n e with|some a=>if P.cellsOf e=a.length/\0<a.length then some [.sl (P.bytesOf e) a]else none|none=>none
 |some (.struct fs)=>match xQ P (ou P c n) 0 fs.toList with|some a=>if P.cellsOf t=a.length then some a else none|none=>none
 |_=>none
def fo(P:Program)(a:List TypeId):qj:=ou P a 16
def vk(P:Program)(a:List TypeId):Bool:=a.all λe=>match fo P a e with|some b=>decide (P.cellsOf e=b.length/\0<b.length)|none=>false
def fB(W:World):Kn:=λb o=>W.cell? ⟨b,o,none⟩
def ae1(W:World):HR (fB W) aK [] W where
 dom:=λid l e=>by cases e
 tot:=λid h=>by grind
 blk:=λid l b e=>by cases e
 lt:=λid l e=>by cases e
 inj:=λid c l d b a e=>by cases e
 kn:=λb o v e=>e;kf:=λb o v _⟨id,l,a,e,_⟩=>by cases e
section
variable{H:Type}{enc:TypeId×Value->H}{P:Program}{W:World}
variable{x:List Value}
theorem Rb{a:Addr}{n:Nat}(h:W.cells? 0 a n=some x):x.length=n/\∀i,i<n->W.cell? (a.add i)=x[i]?:=by unfold World.cells? at h;refine⟨by simpa using mapM_some_length h,λi hi=>mapM_some_get h i i (by grind)⟩
theorem ae2(a:Addr):a.add 0=a:=by simp[Addr.add]
theorem ae3{a:Addr}{v:Value}(h:W.cell? a=some v):a.spot=none:=by
 unfold World.cell? at h;split at h
 ·split at h;·cases h
  rename_i hs;simpa using hs
 cases h
def Rc{a:Addr}(h:a.spot=none):a=⟨a.block,a.off,none⟩:=by cases a;grind
theorem ae4{a:Addr}(h:a.spot=none)(n:Nat):a.add n=⟨a.block,a.off+n,none⟩:=by rw[Rc h,f8]
theorem CRs.one{d:D}{v:Value}{K:Kn}{μ:Mu}{H:ab}(h:VR K μ H d v)(a:v.oneCell'=true):CRs K μ H [d] [v]:=⟨⟨rfl,λj b c e f=>by grind⟩,λu g=>by grind⟩
def CRs.app{a b:List D}{vs:List Value}{K:Kn}{μ:Mu}{H:ab}(h:CRs K μ H a vs)(c:CRs K μ H b x):CRs K μ H (a++b) (vs++x):=⟨h.1.append c.1,λv d=>(TA.1 d).elim (h.2 v) (c.2 v)⟩
def Rd{e:TypeId}:∀{ds:List (DataW H)}{i:Nat}{d:DataW H},ds[i]?=some d->∀n∈d.weights P e,n∈DataW.weightsAll P e ds|d0::ds,0,d,h,n,a=>by simp[List.getElem?_cons_zero,hF]at h;simp[DataW.weightsAll,TA];grind|d0::ds,i+1,d,h,n,a=>by simp[ACI]at h;simp[DataW.weightsAll,TA];exact Or.inr (Rd h n a)|[],_,_,h,_,_=>by grind
def Re{stop:List TypeId}{n:Nat}{e:TypeId}{c:List T}{t:TypeId}{b:List Value}{x:DataW H×List MemPlace}(o:P.underlying t=some (.slice e))(X:P.cellsOf e=c.length)(Y:0<c.length)(F:∀(m:Nat),m<n->∀(b:List Value)(x:DataW H×List MemPlace),DataW.trod enc P W 0 (λ_=>true) true m e b=some x->(∀n∈x.1.weights P e,n<=reachBytes)->∃ds,cY (fo P stop) c ds/\CRs (fB W) aK [] ds b)(h:DataW.trod enc P W 0 (λ_=>true) true n t b=some x)(w:∀n∈x.1.weights P t,n<=reachBytes):(∃v,b=[v]/\v.oneCell'=true/\(VR (fB W) aK [] .nil v\/VR (fB W) aK [] .z v\/∃rows:List (List D),(rows.length<=maxLen/\rows.length*P.bytesOf e<=reachBytes)/\(∀r∈rows,cY (fo P stop) c r)/\VR (fB W) aK [] (.im c.length rows) v)):=by
 rcases DataW.trod_slice o h with⟨rfl,_⟩|⟨a,len,cap,Z,rest,m,aa,rfl,y,_,ab,ac,ad,G,I,_⟩;·exact⟨_,rfl,rfl,.inl (.nil ..)⟩
 obtain⟨ae,J⟩:=I rfl;by_cases K:cap=0
 ·have:len=0:=by omega
  subst K;subst this;exact⟨_,rfl,rfl,.inr (.inl (.z ..))⟩
 have L:a.spot=none:=by
  have key:∀q,(W.cells? 0 (a.add (0*P.cellsOf e)) (P.cellsOf e)).bind (DataW.trod enc P W 0 (λ_=>true) true m e)=q->q.isSome=true->a.spot=none:=λq hq hs=>by cases p:W.cells? 0 (a.add (0*P.cellsOf e)) (P.cellsOf e)with|none=>grind|some b=>obtain⟨g1,l⟩:=Rb p;grind[ae2,ae3]
  by_cases A:0<len;·grind
  have A:len=0:=by omega
  subst A;exact key _ (by simpa using J 0 (by omega)) (by grind)
 have M:∀i,i<len->∃ds b,cY (fo P stop) c ds/\CRs (fB W) aK [] ds b/\b.length=c.length/\∀j,j<c.length->W.cell? ⟨a.block,a.off+(i*c.length+j),none⟩=b[j]?:=λi hi=>by have:=G i hi;rw[Hk (by omega)]at this;cases p:W.cells? 0 (a.add (i*P.cellsOf e)) (P.cellsOf e)with|none=>grind|some b=>rw[p]at this;obtain⟨ds,g1,l⟩:=F m (by omega) b _ this (λk N=>w k (by rw[y];simp only[DataW.weights,o,S2,TA];exact .inr (.inl (Rd (i:=i) (by grind) k N))));grind[Rb,ae4,f8]
 let g:=λi=>open Classical in if hi:i<len then Classical.choose (M i hi)else[];have s:∀i,i<len->∃b,cY (fo P stop) c (g i)/\CRs (fB W) aK [] (g i) b/\b.length=c.length/\∀j,j<c.length->W.cell? ⟨a.block,a.off+(i*c.length+j),none⟩=b[j]?:=λi hi=>by grind
 have B:∀(i:Nat)(r:List D),((List.range len).map g)[i]?=some r->i<len/\r=g i:=λi r e=>by
  rw[fx]at e;by_cases hi:i<len;·rw[zb hi]at e;exact⟨hi,(kv e).symm⟩
  rw[AA1 (by simp;omega)]at e;cases e
 have Q:len*P.bytesOf e<=reachBytes:=by have S:=w _ (by rw[y];simp only[DataW.weights,o,S2];exact .inl rfl);refine dG (M4 _ ?_) S;simp[T3];omega
 refine⟨_,rfl,rfl,.inr (.inr ⟨(List.range len).map g,⟨by simp;omega,by simpa using Q⟩,λr hr=>?_,?_⟩)⟩;·obtain⟨i,hi,rfl⟩:=fT.1 hr;obtain⟨b,g1,_⟩:=s i (by simpa using hi);exact g1
 have C:VR (fB W) aK [] (.im c.length ((List.range len).map g)) (.slice (some ⟨a.block,a.off,none⟩) ((List.range len).map g).length cap):=by
  have get:∀(i:Nat)(r:List D)(j:Nat)(d:D),((List.range len).map g)[i]?=some r->r[j]?=some d->∃v,W.cell? ⟨a.block,a.off+(i*c.length+j),none⟩=some v/\v.oneCell'=true/\VR _ aK [] d v:=λi r j d e f=>by
   obtain⟨hi,rfl⟩:=B i r e;obtain⟨b,g1,l,E,U⟩:=s i hi;have V:j<c.length:=by rw[<-g1.len];exact ay f
   have u:j<b.length:=by omega
   refine⟨b[j],by rw[U j V,Hk u],l.2 _ (hY u),l.1.2 j d _ f (Hk u)⟩
  refine .im _ _ _ _ _ a.off cap (λi j=>(W.cell? ⟨a.block,a.off+(i*c.length+j),none⟩).getD undef) (by simp;omega) (λi r e=>?_) (λi r j d e f=>?_) (λi r j d e f=>?_) (λi r j d e f=>?_);·obtain⟨hi,rfl⟩:=B i r e;obtain⟨b,g1,_⟩:=s i hi;exact g1.len
  ·obtain⟨v,g1,_⟩:=get i r j d e f;simp[fB,g1,fL]
  ·obtain⟨v,g1,l,_⟩:=get i r j d e f;simp[g1,fL,l]
  obtain⟨v,g1,_,E⟩:=get i r j d e f;simp[g1,fL];exact E
 rw[<-Rc L]at C;simpa using C
variable{y:List TypeId}
def Rf(X:vk P y=true):∀(n m:Nat)(t:TypeId)(o:List Value)(x:DataW H×List MemPlace)(G:List T),DataW.trod enc P W 0 (λ_=>true) true n t o=some x->ou P y m t=some G->(∀k∈x.1.weights P t,k<=reachBytes)->∃ds,cY (fo P y) G ds/\CRs (fB W) aK [] ds o:=by intro n;induction n using Nat.strongRecOn with|ind n M=>intro m t o x G h c I;cases m with|zero=>grind[ou]|succ m=>
 simp only[ou]at c;split at c;·rename_i p;cases c;obtain⟨b,rfl,_⟩:=DataW.trod_bool p h;exact⟨[.b b],.cons (.b b) .nil,CRs.one (.b ..) rfl⟩
 ·rename_i k p;cases c;obtain⟨q,rfl,_,C⟩:=DataW.trod_int p h;exact⟨[.i k q],.cons (.i k q (by simpa[Lit.wf]using C)) .nil,CRs.one (.i ..) rfl⟩
 ·rename_i p;cases c;obtain⟨s,rfl,rfl,hs⟩:=DataW.trod_string p h;refine⟨[.s s.data.toList],.cons (.s _ (I _ (by simp[DataW.weights]))) .nil,CRs.one ?_ rfl⟩;have:VR (fB W) aK [] (.s s.data.toList) _:=.s ..;omega
 ·rename_i e p;split at c
  ·rename_i hc;cases c;simp only[vk,TB]at X;have:=X e (by grind);split at this
   ·rename_i N J;obtain⟨C,Q⟩:=hO this;obtain⟨v,rfl,u,a⟩:=Re (stop:=y) p C Q (λE S o x F U=>M E S 16 e o x N F J U) h I;rcases a with a|a|⟨rows,g1,w,a⟩;·exact⟨[.nil],.cons (.rnil _ _) .nil,CRs.one a u⟩
    ·exact⟨[.z],.cons (.rz _ _) .nil,CRs.one a u⟩
    exact⟨[.im _ rows],.cons (.rc _ _ _ J _ g1 w) .nil,CRs.one a u⟩
   grind
  split at c
  ·rename_i N J;split at c
   ·rename_i Z;obtain⟨C,Q⟩:=Z;cases c;obtain⟨v,rfl,u,a⟩:=Re (stop:=y) p C Q (λE S o x F U=>M E S m e o x N F J U) h I;rcases a with a|a|⟨rows,g1,w,a⟩;·exact⟨[.nil],.cons (.nil _ _) .nil,CRs.one a u⟩
    ·exact⟨[.z],.cons (.z _ _) .nil,CRs.one a u⟩
    exact⟨[.im _ rows],.cons (.sl _ _ _ g1 w) .nil,CRs.one a u⟩
   cases c
  grind
 ·rename_i fs p;split at c
  ·rename_i tf htf;split at c
   ·rename_i an;cases c;obtain⟨xs,E,ao,F,ap,ab,ac⟩:=DataW.trod_struct p h;have:∀(l:List Field)(A:List Field)(r:Nat)(B:List T),fs.toList=A++l->xQ P (ou P y m) r l=some B->r+B.length<=o.length->∃ds,cY (fo P y) B ds/\CRs (fB W) aK [] ds ((o.drop r).take B.length):=by
     intro l;induction l with|nil=>
     intro A r B _ g _;have:=by simp[xQ]at g;exact g
     subst this;exact⟨[],.nil,⟨by simp,λj d v e=>by simp at e⟩,λv a=>by simp at a⟩|cons f l ad=>
     intro A r B K g ae;simp only[xQ]at g;split at g
     ·rename_i af;split at g
      ·rename_i L ag;split at g
       ·rename_i ah;split at g
        ·rename_i V ai;cases g;simp[N3]at ae;have Y:=ac A.length f (by rw[<-Array.getElem?_toList,K];simp);have hi:A.length<xs.length:=by rw[ab,<-Array.length_toList,K];simp
         rw[Hk hi,af,ah]at Y;obtain⟨d1,g1,w⟩:=M E (by omega) m _ _ _ L Y ag (λk hk=>I k (by rw[F];simp only[DataW.weights,p];exact DataW.weights_mem_each (j:=A.length) (by rw[K];simp) (by simp[Hk hi]) k hk));obtain⟨d2,g3,g4⟩:=ad (A++[f]) _ V (by rw[K];simp) ai (by omega);refine⟨d1++d2,g1.append g3,?_⟩;have:(o.drop r).take (L++V).length=(o.drop r).take L.length++(o.drop (r+L.length)).take V.length:=by rw[N3,List.take_add,ABI]
         rw[this];exact w.app g4
        cases g
       cases g
      cases g
     cases g
    obtain⟨ds,g1,w⟩:=this _ [] 0 G rfl htf (by omega);refine⟨ds,g1,?_⟩;rwa[AAN,E2 (by omega)]at w
   cases c
  cases c
 grind
def FX(P:Program)(b:List TypeId)(t:TypeId):Option (Bool×List T):=match P.underlying t with|some (.struct _)=>(ou P b 16 t).map λa=>(true,a)|some .bool|some (.int _)|some .string|some (.slice _)=>(ou P b 16 t).map λa=>(false,a)|_=>none
inductive ox(env:qj):Bool×List T->D->Prop|ag(ts:List T)(ds:List D)(h:cY env ts ds):ox env (true,ts) (.ag ds)|one(ts:List T)(d:D)(h:cY env ts [d]):ox env (false,ts) d
def ae5(i:vk P y=true){t:TypeId}{p:Bool×List T}(b:FX P y t=some p){base:Nat}{v:Value}{d:DataW H}{l:List MemPlace}(e:Value.okWide P W .any base t v)(h:DataW.Trod enc P W 0 (λ_=>true) true t v d l)(j:∀k∈d.weights P t,k<=reachBytes):∃x,ox (fo P y) p x/\VR (fB W) aK [] x v:=by
 obtain⟨n,h⟩:=h;unfold FX at b;split at b;·rename_i fs f;simp[l3]at b;obtain⟨c,g,rfl⟩:=b;simp[Value.okWide,f]at e;obtain⟨m,rfl,_,_⟩:=e;obtain⟨ds,g1,a⟩:=Rf i n 16 t _ _ c h g j;refine⟨.ag ds,.ag c ds g1,?_⟩;have:VR _ aK [] _ (.agg m.toList.toArray):=.ag _ _ _ _ a.1.1 a.2 a.1.2;omega
 all_goals first
 |(cases b;done)
 | (rename_i f;simp only[l3]at b;obtain⟨c,g,rfl⟩:=b;obtain⟨ds,g1,a⟩:=Rf i n 16 t _ _ c h g j;have o:v.cells.toList=[v]:=by cases v<;>first|rfl|(simp[Value.okWide,f,Cell.okWide,Cell.ok]at e)
    rw[o]at a;have q:=a.1.1;match ds,q,g1,a with|[d],_,g1,a=>exact⟨d,.one c d g1,a.1.2 0 d v rfl rfl⟩)
def qk(P:Program)(a:List TypeId):List TypeId->Option (List (Bool×List T))|[]=>some []|t::b=>match FX P a t,qk P a b with|some p,some c=>some (p::c)|_,_=>none
inductive oA(env:qj):List (Bool×List T)->List D->Prop|nil:oA env [] []|cons{p:Bool×List T}{ps:List (Bool×List T)}{d:D}{ds:List D}(h:ox env p d)(hs:oA env ps ds):oA env (p::ps) (d::ds)
def Rg(r:vk P y=true):∀{c:List TypeId}{g:List (Bool×List T)}(_:qk P y c=some g){base:Nat}{vs:List Value}{ds:List (DataW H)}{l:List MemPlace}(_:∀(j:Nat)t v,c[j]?=some t->vs[j]?=some v->Value.okWide P W .any base t v)(_:DataW.TrodAll enc P W 0 (λ_=>true) true c vs ds l)(_:∀k∈DataW.weightsEach P c ds,k<=reachBytes),∃i,oA (fo P y) g i/\bf (fB W) aK [] i vs
 |[],g,f,base,vs,ds,l,m,h,_=>by cases f;obtain⟨rfl,rfl,rfl⟩:=trodAll_nil h;exact⟨[],.nil,rfl,λj d v e=>by grind⟩|t::c,g,f,base,vs,ds,l,m,h,n=>by
  simp[qk]at f;split at f;·rename_i p E u w;cases f;obtain⟨v,vs,d,ds,p0,q0,rfl,rfl,rfl,g1,g2⟩:=trodAll_cons h;simp[DataW.weightsEach,TA]at n;obtain⟨x,z,F⟩:=ae5 r u (m 0 t v rfl rfl) g1 (λk o=>n k (.inl o));obtain⟨i,A,s⟩:=Rg r w (λj B q a b=>m (j+1) B q (by grind) (by grind)) g2 (λk o=>n k (.inr o));refine⟨x::i,.cons z A,by simp[s.1],λj C q a b=>?_⟩;cases j with|zero=>grind|succ j=>exact s.2 j C q (by grind) (by grind)
  grind
theorem FY(e:laidOutB P=true){f:World}(g:Below W.heap.size W f){i:Nat->Bool}:∀{c:List TypeId}{vs:List Value}{ds:List (DataW H)}{b:List MemPlace},(∀t∈c,P.readableRec t=true/\t<P.types.size)->DataW.TrodAll enc P W 0 (λ_=>true) true c vs ds b->(∀x∈b,x.block<W.heap.size)->(∀x∈b,i x.block=true)->DataW.TrodAll enc P f 0 i true c vs ds b|[],vs,ds,b,_,h,_,_=>by obtain⟨rfl,rfl,rfl⟩:=trodAll_nil h;rfl|t::c,vs,ds,b,j,h,k,l=>by obtain⟨v,vs,d,ds,o,p,rfl,rfl,rfl,g1,g2⟩:=trodAll_cons h;obtain⟨m,n⟩:=j t N1;exact⟨o,p,WideElems.Trod_stays e m n g1 (λx a=>g.same (k x (T4 _ a))) (λx a=>l x (T4 _ a)),FY e g (λq r=>j q (M0 _ r)) g2 (λx a=>k x (gA _ a)) (λx a=>l x (gA _ a)),rfl⟩
end
end
section
open Go.ChangeShapes Go.RowKit
section
variable{H:Type}{enc:TypeId×Value->H}{P:Program}
variable{a b:World}
def Nx.below{K:Kn}{d:Kn}{f:Mu}{g:ab}{c:World}(nx:Nx K aK [] a d f g c):Below a.heap.size a c:=⟨nx.os,nx.tape,nx.output,nx.size,λk h=>nx.keep k h (λ⟨id,l,b,e,_⟩=>by cases e)⟩
variable{x y z:Bool}{c:List (DataW H)}{d:List MemPlace}
def adP{f:Func}{s:ChangeSpec}{fw E:Bool}{e:World}{args:Array Value}{ds:List (DataW H)}{m:TypeId}(n:DataW.Whole enc P f.params.toList s.vars fw a args.toList ds c d)(h:s.vars=[])(i:Below a.heap.size a e)(F:laidOutB P=true)(G:∀t∈f.params.toList,P.readableRec t=true/\t<P.types.size)(o:f.resultTypes=#[m])(r:P.underlying m=some .bool)(I:(s.fn H (ds++c)).results=[.lit (.bool true)])(J:(s.fn H (ds++c)).args=ds)(u:(s.fn H (ds++c)).vars=[]):s.post enc P f fw y z E a args (.bool true) e:=by
 have j:=n.lt;obtain⟨p,q,v,k,rfl,l,w⟩:=n;rw[h]at k;have K:c=[]/\q=[]:=by cases c with|nil=>exact⟨rfl,k⟩|cons g c=>exact k.elim
 obtain⟨rfl,rfl⟩:=K;simp[oy]at j l w I J u⊢;have hr:∀(b:Nat)(A:Nat->Bool)(B:Bool),DataW.TrodAll enc P e b A B f.resultTypes.toList ((Value.bool true).resultList f.resultTypes.size) [.lit _] []:=λb A B=>by rw[o];exact⟨[],[],shut_bool r true,rfl,rfl⟩
 refine⟨ds,[],p,[],p,[],⟨p,[],v,by grind,by simp,l,w⟩,?_,?_,?_,i.frame _,λ_=>⟨ok_one o rfl (okWide_bool_mk r true),[.lit (.bool true)]++ds,[],p,⟨[]++p,[],?_,by rw[h];rfl,by simp,?_,?_⟩,λx L _=>L⟩⟩;·grind
 ·grind[FY]
 ·simp[oy];rw[h,u];rfl
 ·exact trodAll_append (FY F i G v j (λ_ _=>rfl)) (hr _ _ _)
 ·intro b M C;rw[i.frozen (j _ C)];exact l b M C
 omega
def AW{V:aw}{Lk:Kn->World->Prop}{stop:List TypeId}(E:vk P stop=true)(F:P.follows .mixedOrders=true)(G:dK P V Lk)(I:laidOutB P=true){f:FuncId}{fn:Func}{s:ChangeSpec}{fw:Bool}{bt:TypeId}{o:List (Bool×List T)}(J:∀t∈fn.params.toList,P.readableRec t=true/\t<P.types.size)(K:qk P stop fn.params.toList=some o)(L:fn.resultTypes=#[bt])(M:P.underlying bt=some .bool)(l:s.vars=[])(N:∀h,oA (fo P stop) o h->∃n,dh V n f h=.ret (.b true)){W:World}{base:Nat}{args:Array Value}{ds:List (DataW H)}(Q:Lk (fB W) W)(S:∀(j:Nat)t v,fn.params[j]?=some t->args[j]?=some v->Value.okWide P W .any base t v)(r:DataW.Whole enc P fn.params.toList s.vars fw W args.toList ds c d)(ae:(DataW.weightsEach P (fn.params.toList++s.plain.varTypes P) (ds++c)).all (·<=reachBytes)=true)(U:(s.fn H (ds++c)).results=[.lit (.bool true)])(X:(s.fn H (ds++c)).args=ds)(m:(s.fn H (ds++c)).vars=[]):Calls P f args W λe u=>∃v,e=.returned v/\s.post enc P fn fw x y z W args v u:=by
 have Y:=r;obtain⟨p,q,Z,w,_⟩:=r;have af:c=[]:=by rw[l]at w;cases c with|nil=>rfl|cons g c=>exact w.elim
 have aa:∀k∈DataW.weightsEach P fn.params.toList ds,k<=reachBytes:=λk hk=>by
  have A:s.plain.varTypes P=[]:=by have:s.plain.vars=[]:=l;unfold DataSpec.varTypes<;>grind
  grind
 obtain⟨h,g1,g2⟩:=Rg E K (λj t v a b=>S j t v (by grind) (by grind)) Z aa;obtain⟨n,hn⟩:=N h g1;obtain⟨own,this⟩:=adb F G hn Q (ae1 W) g2
 refine this.mono (λe u B=>?_);cases e with|returned v=>
 obtain⟨K',ai,H',d0,ad,nx,C,i⟩:=B;have A:v=.bool true:=by cases own with
 |true=>
 simp only[ol]at i;split at i
 · have hd:d0=.b true:=by cases d0<;>simp only[iP,gQ,fN,l3]at i;all_goals grind
   cases C<;>grind
 grind|false=>obtain⟨_,_,_,_,m⟩:=PQ i ad C;cases m<;>grind
 subst A;exact⟨_,rfl,adP Y l nx.below I J L M U X m⟩|_=>exact B.elim
end
end
end Go.Dm
namespace Go.Proofs.YtigbdbdlkoeadaaGreatDoor.Dv
section
open Go.Dm Go.Proofs
set_option maxRecDepth 10000
def own:ownKnob Tryz.prog.godebug=none:=by kernel_rfl
def CE:laidOutB Tryz.prog=true:=by kernel_rfl
abbrev lN:List (String×DataW Unit):=[("annuitant/calendar.lengths",Rows.laid_annuitant_calendar_lengths),("annuitant/operation.argumentKinds",Rows.laid_annuitant_operation_argumentKinds)]
def CF(os:Os)(args:Array Value):laidMetH Tryz.prog lN ((World.doorLaid Tryz.prog 400 os).forCall (λ_ _=>0) ⟨#[],args,[]⟩).memory:=laidMetH_of_parts3 (fuel:=8) (laidMet_of_run' 8 (by kernel_rfl) (by kernel_rfl)) (by kernel_rfl) (by kernel_rfl)
def g0:Tryz.prog.globalNamed "annuitant/operation.argumentKinds"=some 0:=by kernel_rfl
def g1:Tryz.prog.globalNamed "annuitant/calendar.lengths"=some 1:=by kernel_rfl
def t0:(Tryz.prog.globals[0]?).map (·.type)=some 181:=by kernel_rfl
def t1:(Tryz.prog.globals[1]?).map (·.type)=some 287:=by kernel_rfl
def ap8:Tryz.prog.underlying 181=some (.array 27 9):=by kernel_rfl
def ap9:Tryz.prog.underlying 287=some (.array 12 3):=by kernel_rfl
def u9:Tryz.prog.underlying 9=some .string:=by kernel_rfl
def u3:Tryz.prog.underlying 3=some (.int .i64):=by kernel_rfl
def c9:Tryz.prog.cellsOf 9=1:=by kernel_rfl
def c3:Tryz.prog.cellsOf 3=1:=by kernel_rfl
def aqa:Tryz.prog.cellsOf 181=27:=by kernel_rfl
def aqb:Tryz.prog.cellsOf 287=12:=by kernel_rfl
def aqc:(Rows.laid_annuitant_calendar_lengths:DataW Unit)=Lib.tabData .i64 Pc:=rfl
def aqd:(Rows.laid_annuitant_operation_argumentKinds:DataW Unit)=.agg (mM.map λz=>.lit (.string z)):=rfl
variable{y:Nat->Bool}
def aqe{H:Type}{enc:TypeId×Value->H}{P:Program}{w:World}{base:Nat}{k:Bool}{fuel:Nat}{t e:TypeId}{n:Nat}{c:List Value}{a:List (List UInt8)}{p:List MemPlace}(l:P.underlying t=some (.array n e))(m:P.underlying e=some .string)(o:P.cellsOf e=1)(q:P.cellsOf t=n)(h:DataW.trod enc P w base y k fuel t c=some (.agg (a.map λz=>.lit (.string z)),p)):c=a.map λz=>Value.string ⟨z.toArray⟩:=by cases fuel with|zero=>simp[DataW.trod]at h|succ fuel=>
 simp only[DataW.trod,l,o,q,AAQ]at h;split at h
 ·rename_i B;obtain⟨d,g,r⟩:=l3.1 h;have j:d.map (·.1)=a.map λz=>(DataW.lit (.string z):DataW H):=by have:=ka Prod.fst r;simpa using this
  have C:d.length=n:=by simpa using Lib.mapM_length g
  have E:a.length=n:=by have:=ka List.length j;simp at this;omega
  apply sa;intro i;by_cases hi:i<n
  ·obtain⟨b,s,u⟩:=Lib.mapM_at g i i (by simp[hi]);obtain⟨z,v,rfl,_⟩:=DataW.trod_string m u;have x:c[i]?=some (.string z):=by have:=ka (·[0]?) v;simpa[ACY,AAv]using this
   have f:(d.map (·.1))[i]?=some (DataW.lit (.string z.data.toList):DataW H):=by simp[s]
   rw[j]at f;simp only[fx,l3,DataW.lit.injEq,Lit.string.injEq]at f;obtain⟨F,A,rfl⟩:=f;rw[fx,A,x];rfl
  rw[AA1 (by omega),AA1 (by simp;omega)]
 cases h
variable{x:World}
def aqf(h:x.ShapedOpen Tryz.prog):∃m,x.cell? ⟨2,0,none⟩=some (.int .i64 m):=Go.Proofs.cell_of_shapedOpen_int (t:=3) (zero:=#[.int .i64 0]) h (by decide+kernel) (by kernel_rfl) rfl (by kernel_rfl) (by kernel_rfl) u3
def WO{g:Nat}{vs:List Value}{rows:List (List D)}(f:∀i:Nat,x.cell? ⟨g,i,none⟩=vs[i]?)(hr:∀(i:Nat)(r:List D),rows[i]?=some r->∃(d:D)(v:Value),r=[d]/\vs[i]?=some v/\v.oneCell'=true/\∀K,VR K aK [] d v):uG (fB x) g 1 rows:=by
 intro i r e;obtain⟨d,v,rfl,h,k,l⟩:=hr i r e;refine⟨λ_=>v,λj c a=>?_,λj c a=>k,λj c a=>?_⟩
 ·have b:j=0:=by have:=ay a;simpa using this
  subst b;show x.cell? ⟨g,i*1+0,none⟩=_;rw[AAQ,l4,f i,h]
 have b:j=0:=by have:=ay a;simpa using this
 subst b;cases a;exact l _
def aqg(h:laidMetH Tryz.prog lN x)(j:x.ShapedOpen Tryz.prog):fP (fB x) x:=by
 rw[MakeChecks.laidMetH_plain _ _ _ (by kernel_rfl)]at h;obtain⟨G,⟨H,I,k,J,L,M,l,m,n,d,⟨N,P,o,Q,S,U,p,q,t,f,_,_⟩,_⟩,_,_⟩:=h;have u:=kv (g1.symm.trans l);subst u;have v:=kv (t1.symm.trans m);subst v;have y:=kv (g0.symm.trans p);subst y;have A:=kv (t0.symm.trans q);subst A;rw[aqc]at d;rw[aqd]at f;have B:=Lib.cells_of_tab ap9 u3 c3 aqb d;have C:=aqe ap8 u9 c9 aqa f;have E:=λi=>World.var?_cell g1 n i;have F:=λi=>World.var?_cell g0 t i;refine⟨λg w rows e=>?_,aqf j⟩;unfold Em at e;split at e;·rename_i c;subst c;cases e;refine WO (vs:=o.toList) (λi=>by rw[F i];simp) (λi r a=>?_);rw[fx]at a;cases b:mM[i]? with|none=>rw[b]at a;cases a|some z=>rw[b]at a;cases a;exact⟨_,_,rfl,by rw[C,fx,b];rfl,rfl,λK=>.s ..⟩
 split at e;·rename_i c;subst c;cases e;refine WO (vs:=k.toList) (λi=>by rw[E i];simp) (λi r a=>?_);rw[fx]at a;cases b:Pc[i]? with|none=>rw[b]at a;cases a|some z=>rw[b]at a;cases a;exact⟨_,_,rfl,by rw[B,fx,b];rfl,rfl,λK=>.i ..⟩
 cases e
def wm(P:Program)(a:List TypeId):Bool:=a.all λt=>P.readableRec t&&decide (t<P.types.size)
def CG{P:Program}{a:List TypeId}(h:wm P a=true):∀t∈a,P.readableRec t=true/\t<P.types.size:=λt b=>by simp only[wm,TB,D0,Hq]at h;exact h t b
def CH:Tryz.prog.underlying 4=some .bool:=by kernel_rfl
def y8{H:Type}{enc:TypeId×Value->H}{c:Bool}{base:Nat}:∀{a:List TypeId}{vs:List Value}{ds:List (DataW H)}{b:List MemPlace},DataW.TrodAll enc Tryz.prog x base y c a vs ds b->ds.length=a.length|[],vs,ds,b,h=>by obtain⟨_,rfl,_⟩:=Go.ChangeShapes.trodAll_nil h;rfl|t::a,vs,ds,b,h=>by obtain⟨v,vs,d,ds,p0,q0,rfl,rfl,rfl,_,g2⟩:=Go.ChangeShapes.trodAll_cons h;simp[y8 g2]
set_option maxRecDepth 100000 in
def CI {f:FuncId} {fn:Func} {s:ChangeSpec} {os:Os} {H:Type} {enc:TypeId×Value -> H} (c:os.Started) (d:Tryz.checked.prog.inits.idxOf? f=none) (g:Tryz.checked.prog.funcs[f]?=some fn)
    (h : ∃ (w:World) (tape:Tape) (i:Input),w.os=os /\ (w.forCall tape i).Shaped Tryz.checked.prog /\ i.vars=[] /\ Input.okWide Tryz.checked.prog (w.forCall tape i) .any w.heap.size f i /\
      ((s.pre enc Tryz.checked.prog fn [] false (w.forCall tape i).memory i.args /\ laidMetH Tryz.prog lN (w.forCall tape i).memory) /\ sizedMet enc Tryz.checked.prog fn (OpenSpec.ofChange s) false (w.forCall tape i).memory i.args) /\ ({}:Assume).holds Tryz.checked.prog (lone (Frame.enter Tryz.checked.prog f i.args .normal) [] (w.forCall tape i)))
    (k : ∀ (W:World) (base:Nat) (args:Array Value) (ds gs:List (DataW H)) (a:List MemPlace),
      (∀ (j:Nat) t v,fn.params[j]?=some t -> args[j]?=some v -> Value.okWide Tryz.checked.prog W .any base t v) ->
      DataW.Whole enc Tryz.checked.prog fn.params.toList s.vars false W args.toList ds gs a ->
      (DataW.weightsEach Tryz.checked.prog (fn.params.toList++s.plain.varTypes Tryz.checked.prog) (ds++gs)).all (· <= reachBytes)=true -> fP (fB W) W ->
      Calls Tryz.checked.prog f args W fun e b => ∃ v,e = .returned v /\ s.post enc Tryz.checked.prog fn false true false false W args v b) :
    ReturnsInHanded {} Tryz.checked os f .any (fun w args=>(s.pre enc Tryz.checked.prog fn [] false w args /\ laidMetH Tryz.prog lN w) /\ sizedMet enc Tryz.checked.prog fn (OpenSpec.ofChange s) false w args) (s.post enc Tryz.checked.prog fn false true false false):=by
  refine returnsInHanded_of_calls own c d h ?_
  intro w tape i _ l _ m n y
  obtain⟨_,_,_,o,p,_,_,_,_,q⟩:=m
  have e:o=fn:=kv (p.symm.trans g)
  subst e
  obtain⟨⟨⟨ds,gs,a,hw,hc⟩,hx⟩,hz⟩:=n
  have r:=DataW.Whole.of_heap (w':=w.forCall tape i) (by rfl) hw
  refine(k (w.forCall tape i) w.heap.size i.args ds gs a q r (hz.weights hw) (aqg (laidMetH.of_heap (w':=w.forCall tape i) (by rfl) hx) l)).mono fun e b ⟨v,u,x⟩ => ?_
  subst u
  exact ChangeSpec.post_blind x
end
section
open Go.Dm
def fk(n:Nat)(v:aJ)(h:VS.fn n=some v:=by kernel_rfl):VS.fn n=some v:=h
def fn3:=fk 3 v3
def fn4:=fk 4 v4
def fn5:=fk 5 v5
def fn6:=fk 6 v6
def vF:=fk 7 v7
def fn8:=fk 8 v8
def vG:=fk 9 v9
def qz:=fk 10 JC
def GD:=fk 11 JD
def SJ:=fk 12 Ds
def BD:=fk 13 JE
def GE:=fk 14 Zh
def akM:=fk 15 JF
def BF:=fk 16 JG
def SK:=fk 17 JH
def GF:=fk 18 JI
def BG:=fk 19 Dt
def GG:=fk 20 JP
def BH:=fk 21 JQ
def BI:=fk 22 DB
def GH:=fk 23 JU
def akN:=fk 29 JV
def akO:=fk 30 JX
def akP:=fk 31 JY
def GI:=fk 32 JZ
def akQ:=fk 33 J0
def SL:=fk 34 J1
def SM:=fk 36 J2
def akR:=fk 37 J3
def sC:=fk 38 J5
def akS:=fk 39 J7
def akT:=fk 40 J8
def akU:=fk 41 J9
def akV:=fk 42 Ka
def BJ:=fk 44 Kc
def GJ:=fk 45 Kd
def qA:=fk 46 Ke
def yo:=fk 47 Kf
def SN:=fk 48 Kg
def GK:=fk 49 Kh
def akW:=fk 50 Ko
def SO:=fk 52 Kq
def akX:=fk 53 Kr
def GL:=fk 54 Ks
def akY:=fk 56 Kt
def qB:=fk 57 Kv
def SQ:=fk 58 Kw
def SR:=fk 59 Kx
def akZ:=fk 60 Ky
def ak0:=fk 61 Kz
def jT:=fk 62 KA
def ak1:=fk 64 KB
def GM:=fk 66 KD
def GN:=fk 67 KH
def ak2:=fk 68 KJ
def SS:=fk 69 KL
def ak3:=fk 70 ZH
def ak4:=fk 71 KN
def ST:=fk 72 DG
def SU:=fk 73 KP
def SW:=fk 74 qX
def ak5:=fk 75 ZJ
def SX:=fk 76 KQ
def SY:=fk 77 KR
def ak6:=fk 78 KS
def SZ:=fk 79 KU
def BK:=fk 80 qZ
def ak7:=fk 81 ZN
def S0:=fk 82 KX
def ak8:=fk 83 KZ
def S3:=fk 84 K4
def S4:=fk 85 K8
def ak9:=fk 86 K9
def yp:=fk 87 La
def BL:=fk 88 Lb
def oJ:=fk 89 Lc
def sE:=fk 90 Le
def S5:=fk 91 Lg
def BM:=fk 92 Lh
def qC:=fk 93 Li
def S6:=fk 94 Ll
def yq:=fk 95 DJ
def S7:=fk 98 Lm
def S8:=fk 99 Ln
def GO:=fk 100 Lo
def ala:=fk 101 ZX
def S9:=fk 102 Lq
def GP:=fk 103 Ls
def Ta:=fk 104 Lv
def alb:=fk 105 ZZ
def Tc:=fk 106 Lw
def yr:=fk 107 Ly
def Td:=fk 108 Lz
def alc:=fk 110 LA
def Te:=fk 111 LC
def ald:=fk 112 LD
def ale:=fk 113 LE
def Tf:=fk 114 LF
def alf:=fk 115 LH
def alg:=fk 116 LJ
def vH:=fk 117 LK
def vI:=fk 118 LN
def Tg:=fk 119 LO
def BN:=fk 120 wT
def GQ:=fk 121 LS
def Th:=fk 122 LT
def sF:=fk 123 LV
def oK:=fk 124 LW
def yu:=fk 125 DM
def qD:=fk 126 LZ
def sG:=fk 127 L0
def BO:=fk 128 zC
def oL:=fk 129 L5
def GR:=fk 130 L8
def GS:=fk 131 L9
def BP:=fk 132 Ma
def BQ:=fk 133 Mb
def yv:=fk 143 uc
def Ti:=fk 145 Mc
def Tj:=fk 146 Md
def GT:=fk 147 Me
def Tk:=fk 148 Mg
def Tl:=fk 149 Mh
def Tm:=fk 150 Mi
def GU:=fk 151 Mj
def Tn:=fk 153 DO
def To:=fk 154 DP
def yw:=fk 155 DQ
def Tp:=fk 156 Ml
def alh:=fk 157 Mm
def Tq:=fk 158 Mn
def Ts:=fk 159 Mo
def sH:=fk 160 DT
def Tt:=fk 161 Mq
def Tu:=fk 162 Ms
def ali:=fk 163 DU
def alj:=fk 164 Mt
def Tv:=fk 165 DV
def alk:=fk 166 Mv
def GV:=fk 167 Mw
def alm:=fk 168 Mx
def BR:=fk 169 My
def GW:=fk 170 Mz
def vJ:=fk 171 MC
def aln:=fk 172 ME
def oM:=fk 173 MF
def alo:=fk 174 DY
def GX:=fk 175 MG
def GY:=fk 176 MH
def Tw:=fk 177 MJ
def GZ:=fk 178 ML
def iw:=fk 179 MM
def G0:=fk 180 MN
def G4:=fk 181 MO
def vK:=fk 182 MP
def vL:=fk 183 MQ
def alp:=fk 184 MR
def qE:=fk 185 MS
def sI:=fk 186 MT
def G5:=fk 187 MU
def Tx:=fk 188 MV
def G6:=fk 194 MW
def BS:=fk 195 MY
def Ty:=fk 196 M5
def Tz:=fk 197 M6
def TC:=fk 199 D2
def G7:=fk 200 zG
def TD:=fk 201 Nb
def TF:=fk 202 aaB
def TG:=fk 203 Nc
def TH:=fk 204 Nd
def TI:=fk 205 Nf
def TJ:=fk 206 Ng
def TK:=fk 207 Nh
def alq:=fk 208 Ni
def alr:=fk 209 Nj
def als:=fk 210 Nk
def TL:=fk 211 Nl
def alt:=fk 212 No
def TM:=fk 213 Np
def TN:=fk 214 Nr
def alu:=fk 215 Ns
def alv:=fk 216 Nu
def TO:=fk 217 Nv
def alw:=fk 218 aaK
def TP:=fk 219 Nw
def TQ:=fk 220 Ny
def yx:=fk 221 Nz
def mt:=fk 222 NB
def TR:=fk 223 NC
def BT:=fk 224 ND
def TS:=fk 225 NF
def TU:=fk 226 NG
def TW:=fk 227 NH
def TX:=fk 228 NI
def TY:=fk 229 NJ
def TZ:=fk 230 NK
def T6:=fk 231 NM
def BU:=fk 232 NO
def T7:=fk 234 NQ
def T8:=fk 235 NS
def G8:=fk 236 NT
def yz:=fk 237 NU
def T9:=fk 238 NW
def Ua:=fk 239 NY
def alx:=fk 244 NZ
def aly:=fk 245 N0
def Ub:=fk 246 D5
def Uc:=fk 247 N5
def Ud:=fk 248 N6
def Ue:=fk 249 N7
def Uf:=fk 250 aa0
def alz:=fk 251 D6
def Ug:=fk 252 N8
def alA:=fk 253 Oa
def Uh:=fk 254 Ob
def Ui:=fk 255 Oc
def alB:=fk 256 Oe
def alC:=fk 257 Of
def alD:=fk 258 Og
def alE:=fk 259 aa4
def yA:=fk 260 Oh
def Uj:=fk 261 Oi
def BV:=fk 262 Oj
def G9:=fk 263 D8
def BX:=fk 264 Om
def nw:=fk 265 On
def BY:=fk 266 Oo
def Uk:=fk 267 Eb
def BZ:=fk 268 wX
def alF:=fk 271 Ov
def alG:=fk 272 Ed
def Ul:=fk 273 Ow
def Um:=fk 274 Ox
def Ha:=fk 276 Oy
def Un:=fk 277 Oz
def alH:=fk 278 OA
def lJ:=fk 279 OB
def qF:=fk 280 nT
def Uo:=fk 281 OC
def Hb:=fk 282 OD
def Up:=fk 283 Eg
def alI:=fk 284 Eh
def alJ:=fk 285 OG
def Uq:=fk 286 OH
def Ur:=fk 287 OJ
def yB:=fk 288 OK
def Hd:=fk 289 OL
def Us:=fk 290 OM
def Ut:=fk 291 OO
def alK:=fk 292 OP
def Uu:=fk 293 OQ
def Uv:=fk 296 OR
def Uw:=fk 297 OS
def alL:=fk 298 OT
def He:=fk 299 OU
def alM:=fk 300 OV
def Ux:=fk 301 OX
def Hf:=fk 302 zL
def alN:=fk 304 O2
def alO:=fk 305 O3
def alP:=fk 306 O5
def alQ:=fk 315 O6
def alR:=fk 335 O7
def alS:=fk 336 O8
def Uy:VS.rnd 0=some r0:=by kernel_rfl
def Uz:VS.rnd 1=some r1:=by kernel_rfl
def Hg:VS.rnd 2=some r2:=by kernel_rfl
def UA:VS.rnd 3=some r3:=by kernel_rfl
def UB:VS.rnd 4=some r4:=by kernel_rfl
def vM:VS.fn yF=none:=by kernel_rfl
end
section
open Go.Dm
set_option maxRecDepth 10000
structure axs(l:List Nat)(k:Nat)(s:St):Prop where
 le:k<=l.length
 z:vl 4294967296 (l.drop k)=0
 h:∃y a,Sl 1 ((l.take k).map u32) y/\s=⟨[y,.nil,a],[]⟩
def Pf{l:List Nat}{k:Nat}(a:k<l.length)(h:l[k]!≠0):tp (l.take (k+1)):=λ_=>by grind
def mO{l:List Nat}{x:D}(h:Sl 1 (l.map u32) x)(f:lm 4294967296 l)(o:l.length<1099511627776):∃d,ai VS 279 [x] d/\br (vl 4294967296 l) d:=by
 refine aH.ex (.body lJ rfl ?_);simp[go_sem,Ee];refine ak.loop (axs l) _ ⟨G1 _,by rw[T5 (G1 _)];rfl,x,.u,by grind,rfl⟩ ?_;rintro k s⟨g,c,y,a,b,rfl⟩;have i:(l.take k).length=k:=by grind
 rcases k with _|k;·simp[go_sem,simprocAttr,abv,b.n];refine⟨y,iV b.flat,⟨?_⟩⟩;rw[xm aB f (AAg _) c (λe=>absurd rfl e)];exact b
 have j:(l.take (k+1))[k]! =l[k]!:=by rw[Hy _ k (by omega),ABy,<-getElem!_pos l k (by omega)]
 have e:((k:Int)+1-1)=k:=by omega
 have m:(0:Int)<k+1:=by omega
 simp(disch:=omega)only[go_sem,abv,b.n,b.q,b.hi,i,m,e,wr,u32,j];refine⟨⟨by omega,by omega⟩,λn=>⟨⟨by omega,by omega⟩,k,by omega,by omega,?_,_,_,?_,rfl⟩,λn=>⟨y,iV b.flat,⟨?_⟩⟩⟩;·rw[dJ (by omega),c];omega
 ·have:=b.slT k;rwa[List.take_take,AAA (by omega)]at this
 rw[xm aB f g c (Pf (by omega) (by omega))];exact b
structure axt(l m:List Nat)(x y:D)(k:Nat)(s:St):Prop where
 le:k<=l.length
 z:l.drop k=m.drop k
 h:∃a b c,s=⟨[x,y,.i .i64 0,.b false,a,b,c,.u,.i .i64 ((k:Int)-1)],[]⟩
def iH(a b:Nat):Int:=if a<b then-1 else if a=b then 0 else 1
def zS{a b:Nat}(h:a<b):iH a b=-1:=E4 h
theorem zT{a b:Nat}(h:b<a):iH a b=1:=by grind[iH]
theorem Es{a b:Nat}(h:a=b):iH a b=0:=by grind[iH]
def acb{a b:Nat}(h:(ds 4294967296 a).length<(ds 4294967296 b).length):a<b:=by
 rcases lu a b with c|c;·exact c
 have:=fV aB c;omega
def Et{a b:Nat}{x y:D}(n:br a x)(o:br b y)(q:(ds 4294967296 a).length<1099511627776)(r:(ds 4294967296 b).length<1099511627776):ai VS 221 [x,y] (.i .i64 (iH a b)):=by
 have c:=n.sl;have d:=o.sl;refine .body yx rfl ?_;by_cases f:(ds 4294967296 a).length=(ds 4294967296 b).length
 ·simp(disch:=omega)[go_sem,NA,c.n,d.n,f,wr];refine ak.loop (axt (ds 4294967296 a) (ds 4294967296 b) x y) _ ⟨G1 _,?_,.u,.u,.u,?_⟩ ?_;·rw[T5 (G1 _),T5 (by omega)]
  ·rw[f]
  rintro k s⟨t,j,v,w,z,rfl⟩;rcases k with _|k;·have:=uz aB (by simpa using j);simp[go_sem,simprocAttr,aaN,Es this]
  have e:((k:Int)+1-1)=k:=by omega
  simp(disch:=omega)only[go_sem,aaN,c.q,d.q,wr,u32,e,c.under,d.under];have g1:=λh=>by have:=Am aB (co aB a) (by omega) f j h;rwa[bF aB,bF aB]at this
  have p:=λh=>by have:=Am aB (co aB b) (by omega) f.symm j.symm h;rwa[bF aB,bF aB]at this
  refine⟨λ_=>⟨⟨by omega,by omega⟩,⟨by omega,by omega⟩,λA=>⟨⟨by omega,by omega⟩,⟨by omega,by omega⟩,λg=>(zS (g1 (by omega))).symm,λg=>(zT (p (by omega))).symm⟩,λB=>⟨k,by omega,by omega,?_,_,_,_,rfl⟩⟩,λh=>absurd (by omega) h⟩;rw[rB (by omega),rB (i:=k) (by omega),j];congr 1;omega
 have m:((ds 4294967296 a).length:Int)≠((ds 4294967296 b).length):=by omega
 rcases ABl f with g|g
 ·have l:((ds 4294967296 a).length:Int)<((ds 4294967296 b).length):=by omega
  simp[go_sem,NA,c.n,d.n,zS (acb g),m,l]
 have l:¬((ds 4294967296 a).length:Int)<((ds 4294967296 b).length):=by omega
 simp[go_sem,NA,c.n,d.n,zT (acb g),m,l]
end
end Go.Proofs.YtigbdbdlkoeadaaGreatDoor.Dv
namespace Go.Dm
section
section
variable{H:ab}{k:IntKind}{x y:Int}
@[go_sem]def azx:bin .quo (.i k x) (.i k y)=if y=0 then none else some (.i k (k.wrap (x.tdiv y))):=by simp[bin,jD]
@[go_sem]def adQ:bin .rem (.i k x) (.i k y)=if y=0 then none else some (.i k (x.tmod y)):=by simp[bin,jD]
def adR(a b:List UInt8):Option D:=if a.length+b.length<=Fa then some (.s (a++b))else none
@[go_sem]def azy{a b:List UInt8}:bin .add (.s a) (.s b)=adR a b:=rfl
def Fw(H:ab)(b a:Nat)(vs:List D):Option an->Option ab
 |some (.hb t c)=>match cS c a vs with|some d=>some (H.set b (.hb t d))|none=>none
 |_=>none
def Ql(H:ab)(b t:Nat):Option (List D)->Option ab|some a=>some (H.set b (.hb t a))|none=>none
variable{z:Nat}
@[go_sem]def azz{b:Nat}{vs:List D}:gl H (.hp b z) vs=Fw H b z vs H[b]?:=by grind[gl,Fw]
variable{a:List D}
@[go_sem]def azA{b t:Nat}{vs:List D}:Fw H b z vs (some (.hb t a))=Ql H b t (cS a z vs):=by constructor<;>grind
@[go_sem]def azB{b t:Nat}:Ql H b t (some a)=some (H.set b (.hb t a)):=rfl
@[go_sem]def azC{t a:TypeId}{v:D}{zero:D}{c:Bool}:uT (.ifc a v) t c zero=match decide (a=t),c with|true,true=>some (.tu [v,.b true])|true,false=>some v|false,true=>some (.tu [zero,.b false])|false,false=>none:=rfl
@[go_sem]def azD{neg:Bool}{t:TypeId}{v:D}:ej neg .ifc (.ifc t v) .ni=some (.b (false !=neg)):=rfl
@[go_sem]def azE{neg:Bool}:ej neg .ifc .ni .ni=some (.b (true !=neg)):=rfl
def Qm(w:Nat):Option (List (List D)×ab)->Option (D×ab)|some (rows,H)=>some (.im w rows,H)|none=>none
@[go_sem]def azF{w:Nat}{rows:List (List D)}:bS (z+1) H (.sv w rows)=Qm w (io z H rows):=by constructor<;>grind
@[go_sem]def azG{w:Nat}{rows:List (List D)}:Qm w (some (rows,H))=some (.im w rows,H):=rfl
def Qn(m:Nat)(a:List (List D)):Option (List D×ab)->Option (List (List D)×ab)
 |some (b,H')=>match io (m+1) H' a with|some (c,d)=>some (b::c,d)|none=>none
 |none=>none
def Qo(a:List D):Option (List (List D)×ab)->Option (List (List D)×ab)|some (b,c)=>some (a::b,c)|none=>none
@[go_sem]def azH:io z H []=some ([],H):=rO _ _
variable{c:List (List D)}
@[go_sem]def azI:io (z+1) H (a::c)=Qn z c (aW z H a):=by rw[uM];constructor<;>grind
@[go_sem]def azJ:Qn z c (some (a,H))=Qo a (io (z+1) H c):=by constructor<;>grind
@[go_sem]def azK:Qo a (some (c,H))=some (a::c,H):=rfl
@[go_sem]def azL{t:TypeId}{v:D}:(D.ifc t v).cellsN 1=some [.ifc t v]:=rfl
@[go_sem]def azM:D.ni.cellsN 1=some [.ni]:=rfl
end
section
variable{V:aw}{Q:Ex->St->Prop}{dr:Option (Bs×Bool)}{os:List aq}{keep:Option Nat}{loc sl sl':List D}{H H':ab}{l:List UInt8}{k k':IntKind}{x y:Int}
@[go_sem]def azN:aI V dr os keep loc sl Q (aE ⟨sl',H⟩ (rY (.s l) (.i k x)))↔(0<=x/\x<l.length)/\aI V dr os keep loc sl Q (.v (.i .u8 l[x.toNat]!.toNat) ⟨sl',H⟩):=by grind[rY,fh,aE,aI]
@[go_sem]def azO{x:O}:aY V dr os keep loc ⟨sl,H⟩ Q (.pan x)↔aI V dr os keep loc sl Q (rW (x.ev loc sl) H):=by rw[bX rfl];exact W0
@[go_sem]def azP{t:TypeId}{d:D}:aI V dr os keep loc sl Q (rW (.ifc t d) H)↔aI V dr os keep loc sl Q (.p (.ifc t d) H):=W0
end
attribute[go_sem]not_true_eq_false not_false_eq_true
end
def br.pl{n:Nat}{x:D}(h:br n x):x.plain=true:=h.sl.pl
def bc.pl{n:Nat}{x:D}(h:bc n x):x.plain=true:=h.sl.pl
def bc.p1{n:Nat}{x:D}(h:bc n x):[x].all D.plain=true:=by simp[h.pl]
def mS{n:Nat}(h:n<65536):IntKind.wrap .u16 (n:Int)=(n:Int):=by have e:IntKind.wrap .u16 _=n%65536:=rfl;omega
theorem PD{n:Nat}:IntKind.wrap .u16 (n:Int)=((n%65536:Nat):Int):=by have e:IntKind.wrap .u16 _=n%65536:=rfl;omega
def lU{n:Nat}(h:n<4294967296):IntKind.wrap .u32 (n:Int)=(n:Int):=by have e:IntKind.wrap .u32 _=n%4294967296:=rfl;omega
def kw{n:Nat}:IntKind.wrap .u32 (n:Int)=((n%4294967296:Nat):Int):=by have e:IntKind.wrap .u32 _=n%4294967296:=rfl;omega
theorem PE{x:Int}:IntKind.wrap .u32 x=x%4294967296:=rfl
theorem eP{x:Int}:IntKind.wrap .u64 x=x%18446744073709551616:=rfl
def bW{n:Nat}(h:n<18446744073709551616):IntKind.wrap .u64 (n:Int)=(n:Int):=by have e:IntKind.wrap .u64 _=n%18446744073709551616:=rfl;omega
def w8{n:Nat}(h:n<256):IntKind.wrap .u8 (n:Int)=(n:Int):=by have e:IntKind.wrap .u8 _=n%256:=rfl;omega
def EP{a b:Nat}:Int.tdiv (a:Int) (b:Int)=((a/b:Nat):Int):=rfl
def xn{a b:Nat}:Int.tmod (a:Int) (b:Int)=((a%b:Nat):Int):=rfl
def PF{a:Nat}:Int.tdiv (a:Int) 2=((a/2:Nat):Int):=rfl
def PG{a:Nat}:Int.tmod (a:Int) 2=((a%2:Nat):Int):=rfl
def acU{a:Nat}:Int.tdiv ((a:Int)+1) 2=(((a+1)/2:Nat):Int):=rfl
def ff{k b:IntKind}{a s:Nat}(hs:s<k.bits):bin .shr (.i k (a:Int)) (.i b (s:Int))=some (.i k ((a/2^s:Nat):Int)):=by grind[bin,xw]
def uB{k b:IntKind}{a s:Nat}(hs:s<k.bits):bin .shl (.i k (a:Int)) (.i b (s:Int))=some (.i k (k.wrap ((a*2^s:Nat):Int))):=by grind[bin,xw]
def PH{a b:Nat}(c:a<4294967296)(d:b<4294967296):bin .or (.i .u32 (a:Int)) (.i .u32 (b:Int))=some (.i .u32 ((a|||b:Nat):Int)):=by have e:bin .or (.i .u32 a) (.i .u32 b)=some (.i .u32 (IntKind.wrap .u32 (((BitVec.ofInt 32 _|||BitVec.ofInt 32 b).toNat:Nat):Int))):=rfl;rw[e,lU (ABM _),pa,pa,BitVec.toNat_or,ABF,ABF,m0 c,m0 d]
def Ap{a b:Nat}(c:a<18446744073709551616)(d:b<18446744073709551616):bin .or (.i .u64 (a:Int)) (.i .u64 (b:Int))=some (.i .u64 ((a|||b:Nat):Int)):=by have e:bin .or (.i .u64 a) (.i .u64 b)=some (.i .u64 (IntKind.wrap .u64 (((BitVec.ofInt 64 _|||BitVec.ofInt 64 b).toNat:Nat):Int))):=rfl;rw[e,bW (ABM _),pa,pa,BitVec.toNat_or,ABF,ABF,m0 c,m0 d]
theorem ER{a b s:Nat}(h:a<2^s):a|||b*2^s=a+b*2^s:=by have:=Nat.two_pow_add_eq_or_of_lt h b;grind
def Aq{a b s:Nat}(h:a<2^s):b*2^s|||a=a+b*2^s:=by grind[ER]
def gH{l:List Nat}{i v:Nat}:(l.map u32).set i [.i .u32 (v:Int)]=(l.set i v).map u32:=by rw[AAS];rfl
def Ar{l:List Nat}{i v:Nat}:(l.map u16).set i [.i .u16 (v:Int)]=(l.set i v).map u16:=by rw[AAS];rfl
def uC{n:Nat}:List.replicate n [D.i .u32 0]=(List.replicate n 0).map u32:=by rw[ABk];rfl
def ET{n:Nat}:List.replicate n [D.i .u16 0]=(List.replicate n 0).map u16:=by rw[ABk];rfl
end Go.Dm
namespace Go.Proofs.YtigbdbdlkoeadaaGreatDoor.Dv
section
open Go.Dm
set_option maxRecDepth 10000
structure axu(l:List Nat)(x:D)(i:Nat)(s:St):Prop where h:∃ws a2 a7 a8,ws.length=(l.length+1)/2/\lm 4294967296 ws/\vl 4294967296 ws=vl 65536 (l.take i)/\s=⟨[x,.nil,a2,.i .i64 i,.i .i64 l.length,x,.mu 0 ((l.length+1)/2) 0 ((l.length+1)/2),a7,a8],[.ar 1 (ws.map u32) (some ((l.length+1)/2)) true false]⟩
theorem acd(i:Nat):65536^i=4294967296^(i/2)*(if i%2=0 then 1 else 65536):=by
 rw[show 4294967296=65536^2 from rfl,<-Nat.pow_mul];split;·grind
 rw[<-Nat.pow_succ];grind
def nU{n:Nat}{x:D}(h:bc n x)(q:(ds 65536 n).length<1099511627776):∃d,ai VS 222 [x] d/\br n d:=by
 generalize b:ds 65536 n=l at q;have hs:=h.sl;rw[b]at hs;have m:lm 65536 l:=b▸co aM n;have o:=b▸bF aM n;have r:tp l:=b▸uw aM n;refine aH.ex (.body mt rfl ?_);simp(disch:=omega)only[go_sem,simprocAttr,av4,hs.n,wr,acU,uC];refine⟨⟨⟨by omega,by omega⟩,⟨by omega,by omega⟩,by omega⟩,ak.up (axu l x) l.length ⟨_,_,_,_,by simp,nX (by omega),by rw[xk];rfl,rfl⟩ ?_⟩;rintro i s hi⟨a,M,N,P,j,c,f,rfl⟩;by_cases t:i<l.length
 ·have u:(i:Int)<(l.length:Int):=by omega
  have Q:=cF m t;have p:i/2<a.length:=by omega
  have w:vl 4294967296 a<4294967296^(i/2)*(if i%2=0 then 1 else 65536):=by rw[f,<-acd];have:=dR aM (gj m i);grind
  have S:=uv aB w p;have y:a[i/2]!<2^(16*(i%2)):=by grind
  have g:l[i]!*2^(16*(i%2))<4294967296/\a[i/2]!+l[i]!*2^(16*(i%2))<4294967296:=by grind
  have z:bin .shl (.i .u32 l[i]!) (.i .i64 (16*((i%2:Nat))))=some (.i .u32 ((l[i]!*2^(16*(i%2)):Nat))):=by rw[show 16*((i%2:Nat))=((16*(i%2):Nat):Int)by omega,uB (by show 16*(i%2)<32;omega),lU g.1]
  have k:=PH (cF c p) g.1;rw[ER y]at k;obtain⟨v,A⟩:∃v,v=a[i/2]!+l[i]!*2^(16*(i%2)):=⟨_,rfl⟩;rw[<-A]at k g;simp(disch:=omega)only[go_sem,simprocAttr,aaP,hs.q,u,u16,wr,PF,PG,u32,j,lU,z,k,gH];repeat' first|(refine And.intro ?_ ?_)|intro _
  all_goals try omega
  refine⟨a.set _ v,_,_,_,by grind,gG c g.2,?_,rfl⟩;grind[ku,fq,acd]
 have C:i=l.length:=by omega
 subst C;rw[E2 (G1 _),o]at f;have E:(a.map u32).take ((l.length+1)/2)=a.map u32:=E2 (by grind);simp[go_sem,aaP,j,E,sm];refine⟨?_⟩;rw[<-f,xl aB c];·exact .im
 intro F;have U:=V2.2 F;have G:a.length-1<a.length:=by omega
 intro H;have I:l≠[]:=by intro e;rw[e,lA]at j;omega
 have:=r I;have g1:=fe (B:=4294967296) a (a.length-1) (by omega);rw[dJ G,H,T5 (by omega),vl,nu,l4]at g1;have J:=dR aB (gj c (a.length-1));rw[il,AAA (by omega),<-g1,f,<-o]at J;have K:=fe (B:=65536) l (l.length-1) (by omega);have L:l.length-1<l.length:=by omega
 rw[dJ L]at K;have V:4294967296^(a.length-1)<=65536^(l.length-1):=by rw[show 4294967296=65536^2 from rfl,<-Nat.pow_mul];exact m4 (by omega) (by omega)
 have W:65536^(l.length-1)*1<=65536^(l.length-1)*(l[l.length-1]!+65536*vl 65536 (l.drop (l.length-1+1))):=gp _ (by omega);omega
end
section
open Go.Dm
set_option maxRecDepth 10000
structure Wh(z:Int)(d:D):Prop where h:∃y,d=.ag [.b (decide (z<0)),y]/\bc z.natAbs y
structure UnI(l:List Nat)(neg:Bool)(y:D)(i:Nat)(s:St):Prop where h:∃ws a4 a10 a11,ws.length=2*l.length/\lm 65536 ws/\vl 65536 ws=vl 4294967296 (l.take i)/\s=⟨[.b neg,y,.bx [.b false,.nil],.b false,a4,.u,.mu 0 (2*l.length) 0 (2*l.length),.i .i64 i,.i .i64 l.length,y,a10,a11],[.ar 1 (ws.map u16) (some (2*l.length)) true false]⟩
theorem ph{B n:Nat}(a:2<=B)(h:n≠0):0<(ds B n).length:=by grind[lT]
def re{l:List Nat}{x:D}{neg:Bool}(p:Sl 1 (l.map u32) x)(q:lm 4294967296 l)(r:l.length<1099511627776):∃d,ai VS 265 [.b neg,x] d/\Wh (if neg then-(vl 4294967296 l:Int)else vl 4294967296 l) d:=by
 obtain⟨y,I,t⟩:=mO p q r;have u:=λ{H K}=>I.c (H:=H) (K:=K) lJ rfl (by simp[p.pl]) (.inl rfl);have J:=(jB aB).2 (dR aB q);generalize vl 4294967296 l=n at t J;have hs:=t.sl;have w:=co aB n;have z:=bF aB n;have L:=uw aB n;by_cases c:n=0
 ·rw[c,bE]at hs;refine aH.ex (.body nw rfl ?_);simp[go_sem,abi,u,hs.n];subst c;refine⟨⟨.nil,by simp_all,⟨?_⟩⟩⟩;have:(if neg=true then-((0:Nat):Int)else((0:Nat))).natAbs=0:=by omega
  rw[this,bE];exact .nil rfl
 have hp:=ph aB c;have M:=lT aB c;generalize ds 4294967296 n=l at*;refine aH.ex (.body nw rfl ?_);have N:¬((l.length:Int)=0):=by omega
 have P:2*l.length=((2*l.length:Nat):Int):=by omega
 simp(disch:=omega)only[go_sem,abi,u,hs.n,wr,N,P,ET];refine⟨⟨⟨by omega,by omega⟩,⟨by omega,by omega⟩,by omega⟩,ak.up (UnI l neg y) l.length ⟨_,_,_,_,by simp,nX (by omega),by rw[xk];rfl,rfl⟩ ?_⟩;rintro i s hi⟨a,a4,ah,aj,o,g,h,rfl⟩;by_cases A:i<l.length
 ·have Q:(i:Int)<(l.length:Int):=by omega
  have hd:=cF w A;have C:bin .shr _ (.i .u64 16)=some (.i .u32 ((l[i]!/65536:Nat))):=ff (by decide);obtain⟨j,S⟩:∃j,j=2*i:=⟨_,rfl⟩;have U:2*(i:Int)=j:=by omega
  obtain⟨e,am⟩:∃e,e=l[i]!%65536:=⟨_,rfl⟩;obtain⟨f,V⟩:∃f,f=l[i]!/65536:=⟨_,rfl⟩;have W:IntKind.u16.wrap l[i]! =e:=by grind[PD]
  rw[<-V]at C;simp(disch:=omega)only[go_sem,abh,hs.q,Q,U,u32,u16,wr,o,W,mS,C,Ar];have X:65536^j=4294967296^i:=by rw[S,ACf]
  have E:vl 65536 a<65536^j*1:=by have:=dR aB (gj w i);grind
  have z1:=uv aM E (by omega);have z2:=uv aM (k:=j+1) (hI E (M4 _ (m4 (by omega) (by omega)))) (by omega);repeat' first|(refine And.intro ?_ ?_)|intro _
  all_goals try omega
  refine⟨(a.set j e).set _ f,_,_,_,by grind,gG (gG g (by omega)) (by omega),?_,rfl⟩;have g1:=ku (B:=65536) (l:=a) (i:=j) (v:=e) (by omega);have Y:=ku (B:=65536) (l:=a.set j e) (i:=j+1) (v:=f) (by grind);have g3:(a.set j e)[j+1]! =a[j+1]!:=by grind
  rw[fq A,<-h,<-X,show l[i]! =e+65536*f by omega];grind
 have Z:i=l.length:=by omega
 subst Z;rw[E2 (G1 _),z]at h;simp(disch:=omega)only[go_sem,simprocAttr,abh,o,u16,sm,wr];have m:(if neg=true then-(n:Int)else n).natAbs=n:=by omega
 have F:decide ((if neg=true then-(n:Int)else n)<0)=neg:=by grind
 have aa:∀k,k<a.length->65536^k<=n->vl 65536 (a.drop _)=0->a[k]!≠0:=λk hk r m c=>by have g1:=fe (B:=65536) a k (by omega);rw[dJ hk,c,m]at g1;have Y:=dR aM (gj g k);grind
 have ao:vl 65536 (a.drop (2*l.length-1+1))=0:=by rw[T5 (by omega)];rfl
 refine⟨⟨by omega,by omega⟩,by omega,λc=>⟨⟨by omega,by omega⟩,?_⟩,λc=>⟨⟨_,by rw[F],⟨?_⟩⟩⟩⟩
 ·rw[E4 (by omega)];refine⟨_,rfl,⟨_,by rw[F],⟨?_⟩⟩⟩;have G:vl 65536 (a.drop (2*l.length-1))=0:=by grind[dJ]
  have hb:65536^(2*l.length-2)<=n:=by
   have g1:=fe (B:=4294967296) l (l.length-1) (by omega);rw[z,dJ (by omega)]at g1;have:=L M;have g5:4294967296^(l.length-1)*1<=4294967296^(l.length-1)*(l[l.length-1]!+4294967296*vl 4294967296 (l.drop (l.length-1+1))):=gp _ (by omega);have g6:65536^(2*l.length-2)=4294967296^(l.length-1):=by rw[show 4294967296=65536^2 from rfl,<-Nat.pow_mul];congr 1;omega
   omega
  have ad:=aa _ (by omega) hb (by rw[show 2*l.length-2+1=2*l.length-1 by omega];exact G);have:=xm aM g (by omega) G (by have:=Pf (by omega) ad;rwa[show 2*l.length-2+1=2*l.length-1 by omega]at this);rw[m,<-h,this,ABt];exact .im
 have ae:(a.map u16).take (2*l.length)=a.map u16:=E2 (by rw[T3];omega);have:=xl aM g (λ_=>by rw[o];omega);rw[m,<-h,this,ae];exact .im
end
section
open Go.Dm
set_option maxRecDepth 10000
def axw{H:ab}{a n w bytes:Nat}{A:List (List D)}{b r:List D}(c:H[a]?=some (.ar w (A++List.replicate (n-A.length) b) (some n) true false))(d:A.length<n)(e:(A.length+1)*bytes<=140737488355328)(f:A.length<140737488355328)(g:r.all D.flat=true):bY H (.mu a n 0 A.length) (.sv w [r]) w bytes true=some (.mu a n 0 (A.length+1),H.set a (.ar w (A++[r]++List.replicate (n-(A++[r]).length) b) (some n) true false)):=by
 have h:∀H,iL H [r]=some _:=λH=>oE H (λq i=>by grind);have j:aO H a n=some (w,A++List.replicate (n-A.length) b,some n,true,false):=by grind[akf,akg]
 have k:fu (0+A.length+1) bytes=true:=Gz (by grind) (by omega);have l:(A++List.replicate (n-A.length) b).drop (0+A.length+1)=List.replicate (n-(A++[r]).length) b:=by simp_all<;>omega
 have m:(A++[r]++List.replicate (n-(A++[r]).length) b).length=n:=by grind
 have o:0+A.length<=n:=by omega
 have p:0+A.length+1<=n:=by omega
 simp_all[bY,fM,gM,mV,jE]
def uj(A:List Nat)(n:Nat):an:=.ar 1 (A.map u32++List.replicate (n-(A.map u32).length) (u32 0)) (some n) true false
def cHp(A:List Nat)(n c:Nat):ab:=[uj A n,.hb 292 [.mu 0 n 0 (A.map u32).length],.hb 343 [.hp 1 0],.hb 123 [.i .u64 (c:Int)]]
def Pg{A:List Nat}{n s c:Nat}(g:A.length<n)(h:n<1099511627776)(hs:s+c<18446744073709551616):ac VS 298 [.i .u64 (s:Int),.hp 3 0,.hp 2 0] (cHp A n c) (λr=>r=.ret (.tu []) (cHp (A++[(s+c)%4294967296]) n ((s+c)/4294967296))):=by
 obtain⟨v,b⟩:∃v,v=s+c:=⟨_,rfl⟩;have d:s+(c:Int)=v:=by omega
 have e:bin .shr _ (.i .u64 32)=some (.i .u64 ((v/4294967296:Nat))):=ff (by decide);rw[<-b]at hs⊢;have f:bY [uj A n,.hb 292 [.mu 0 n 0 A.length],.hb 343 [.hp 1 0],.hb 123 [.i .u64 c]] (.mu 0 n 0 A.length) (.sv 1 [[.i .u32 ((v%4294967296:Nat))]]) 1 4 true=some (.mu 0 n 0 (A.length+1),[uj (A++[v%4294967296]) n,.hb 292 [.mu 0 n 0 A.length],.hb 343 [.hp 1 0],.hb 123 [.i .u64 c]]):=by have:=axw (H:=[uj A n,.hb 292 [.mu 0 n 0 A.length],.hb 343 [.hp 1 0],.hb 123 [.i .u64 c]]) (a:=0) (bytes:=4) (r:=[.i .u32 ((v%4294967296:Nat))]) rfl (by grind) (by grind) (by grind) rfl;rw[T3]at this;rw[this];simp only[uj,eH,N3,T3];rfl
 refine .body alL rfl rfl ?_;simp(disch:=omega)only[go_sem,simprocAttr,awT,cHp,d,bW,kw,e,f]
def axx{a b:an}:ac VS 285 [.hp 1 0] [a,b] (λr=>r=.ret (.fn (.func 298) [] [.hp 3 0,.hp 2 0]) [a,b,.hb 343 [.hp 1 0],.hb 123 [.i .u64 0]]):=by refine .body alJ rfl rfl ?_;simp[go_sem,awG]
def Eu:aR:=match D8.body with|.seq _ (.seq _ r)=>r|_=>.skip
structure axy(l m:List Nat)(x y:D)(i:Nat)(s:St):Prop where h:∃A c a3 a4 a5 a10 a11 a12,A.length=i/\lm 4294967296 A/\c<=1/\vl 4294967296 A+4294967296^i*c=vl 4294967296 (l.take i)+vl 4294967296 (m.take i)/\s=⟨[x,y,.nil,a3,a4,a5,.hp 1 0,.i .i64 i,.i .i64 l.length,x,a10,a11,a12,.fn (.func 298) [] [.hp 3 0,.hp 2 0]],cHp A (l.length+1) c⟩
def ace{a b:Nat}{x y a3:D}(B:br a x)(C:br b y)(E:(ds 4294967296 b).length<=(ds 4294967296 a).length)(V:(ds 4294967296 a).length<1000000000){P:D->Prop}(F:∀d,br (a+b) d->P d):ak VS Eu ⟨[x,y,.nil,a3,.u,.u,.u,.u,.u,.u,.u,.u,.u,.u],[]⟩ (du [.s 2] (fE false (λr=>∃d,r=.ret d/\P d))):=by
 have h:=B.sl;have n:=C.sl;have G:=co aB a;have H:=co aB b;have I:=bF aB a;have J:=bF aB b;generalize ds 4294967296 a=l at*;generalize ds 4294967296 b=m at*;simp(disch:=omega)[go_sem,simprocAttr,Eu,wW,h.n,wr];refine⟨⟨⟨by omega,by omega⟩,by omega,by omega⟩,axx.mono ?_⟩;rintro r rfl;simp[go_sem,h.n];refine ak.up (axy l m x y) l.length ⟨[],0,_,_,_,_,_,_,rfl,ie,by omega,rfl,rfl⟩ ?_;rintro i s hi⟨A,c,a3,W,X,Y,Z,aa,f,o,hc,p,rfl⟩;by_cases g:i<l.length
 ·have t:(i:Int)<l.length:=by omega
  have hd:=cF G g;by_cases w:i<m.length
  ·have q:(i:Int)<m.length:=by omega
   have j:=cF H w;obtain⟨v,ae⟩:∃v,v=l[i]!+m[i]!:=⟨_,rfl⟩;have K:l[i]!+(m[i]!:Int)=v:=by omega
   simp(disch:=omega)only[go_sem,Ol,h.q,n.n,n.q,t,q,u32,bW,K];refine⟨by omega,by omega,(iu (by decide)).2 ((Pg (by omega) (by omega) (by omega)).mono ?_)⟩;rintro r rfl;simp(disch:=omega)only[go_sem,wr];refine⟨g,_,_,_,_,_,_,_,_,by grind,Aj.2 ⟨o,jA.2 ⟨mm _ (by omega),ie⟩⟩,by omega,?_,rfl⟩;rw[rA,f,fq g,fq w,oa];simp only[vl,nu,l4];have:=zv (v+c) 4294967296;grind
  have q:¬(i:Int)<m.length:=by omega
  simp(disch:=omega)only[go_sem,Ol,h.q,n.n,t,q,u32,bW];refine⟨by omega,(iu (by decide)).2 ((Pg (by omega) (by omega) (by omega)).mono ?_)⟩;rintro r rfl;simp(disch:=omega)only[go_sem,wr];refine⟨g,_,_,_,_,_,_,_,_,by simp[f],Aj.2 ⟨o,jA.2 ⟨mm _ (by omega),ie⟩⟩,by omega,?_,rfl⟩;rw[rA,f,fq g,oa];rw[E2 (l:=m) (by omega)]at p⊢;simp only[vl,nu,l4];have:=zv (l[i]!+c) 4294967296;grind
 have L:i=l.length:=by omega
 subst L;rw[E2 (G1 _),E2 E,I,J]at p;simp(disch:=omega)[go_sem,Ol,sm];refine(iu (by decide)).2 ((Pg (s:=0) (by omega) (by omega) (by omega)).mono ?_);rintro r rfl;obtain⟨e,k⟩:∃e,e=A++[(0+c)%4294967296]:=⟨_,rfl⟩;have z:e.length=l.length+1:=by rw[k];simp[f]
 have M:lm 4294967296 e:=by rw[k];exact Aj.2 ⟨o,jA.2 ⟨mm _ (by omega),ie⟩⟩
 have N:vl 4294967296 e=a+b:=by rw[k,rA,f,<-p,lB,m0 (by omega)];simp[vl]
 rw[<-k];have Q:uj e (l.length+1)=.ar 1 (e.map u32) (some (l.length+1)) true false:=by simp[uj,z]
 have S:(e.map u32).take (l.length+1)=e.map u32:=E2 (by rw[T3];omega);obtain⟨d,U,j⟩:=mO .im M (by omega);rw[N]at j;simp only[go_sem,cHp,Q];refine ac.fzr lJ rfl rfl U ⟨_,by simp only[go_sem,simprocAttr,z,S];rfl⟩ (λH'=>?_);simp[go_sem];exact⟨d,iV j.sl.flat,F d j⟩
def acf{a b:Nat}{x y:D}(c:br a x)(e:br b y)(j:(ds 4294967296 a).length<1000000000)(k:(ds 4294967296 b).length<1000000000):∃d,ai VS 263 [x,y] d/\br (a+b) d:=by
 have f:=c.sl;have g:=e.sl;refine aH.ex (.body G9 rfl ?_);by_cases l:(ds 4294967296 a).length<(ds 4294967296 b).length
 ·have i:((ds 4294967296 a).length:Int)<((ds 4294967296 b).length):=by omega
  have:=ace (a3:=.b true) e c (by omega) k (λd h=>by rwa[Nat.add_comm]at h);simp[go_sem,simprocAttr,Eu,wW,g.n]at this;simp[go_sem,simprocAttr,wW,f.n,g.n,i];exact this
 have i:¬((ds 4294967296 a).length:Int)<((ds 4294967296 b).length):=by omega
 have:=ace (a3:=.b false) c e (by omega) j (λd h=>h);simp[go_sem,simprocAttr,Eu,wW,f.n]at this;simp[go_sem,simprocAttr,wW,f.n,g.n,i];exact this
end
section
open Go.Dm
set_option maxRecDepth 10000
variable{x:BitVec 32}
def axz{v:BitVec 32}:bin .and (.i .u32 (x.toNat:Int)) (.i .u32 (v.toNat:Int))=some (.i .u32 ((x&&&v).toNat:Int)):=by have e:bin .and (.i .u32 _) (.i .u32 _)=some (.i .u32 (IntKind.wrap .u32 (((BitVec.ofInt 32 x.toNat&&&BitVec.ofInt 32 v.toNat).toNat:Nat):Int))):=rfl;rw[e,lU (ABM _),pa,pa,AAO,AAO,AAP,AAP]
def axA{v:BitVec 32}:bin .or (.i .u32 (x.toNat:Int)) (.i .u32 (v.toNat:Int))=some (.i .u32 ((x|||v).toNat:Int)):=by have e:bin .or (.i .u32 _) (.i .u32 _)=some (.i .u32 (IntKind.wrap .u32 (((BitVec.ofInt 32 x.toNat|||BitVec.ofInt 32 v.toNat).toNat:Nat):Int))):=rfl;rw[e,lU (ABM _),pa,pa,AAO,AAO,AAP,AAP]
def axB{v:BitVec 32}:bin .xor (.i .u32 (x.toNat:Int)) (.i .u32 (v.toNat:Int))=some (.i .u32 ((x^^^v).toNat:Int)):=by have e:bin .xor (.i .u32 _) (.i .u32 _)=some (.i .u32 (IntKind.wrap .u32 (((BitVec.ofInt 32 x.toNat^^^BitVec.ofInt 32 v.toNat).toNat:Nat):Int))):=rfl;rw[e,lU (ABM _),pa,pa,AAO,AAO,AAP,AAP]
def axC:un .xor (.i .u32 (x.toNat:Int))=some (.i .u32 ((~~~x).toNat:Int)):=by
 have e:un .xor (.i .u32 _)=some (.i .u32 (IntKind.wrap .u32 (((BitVec.ofInt 32 4294967295^^^BitVec.ofInt 32 x.toNat).toNat:Nat):Int))):=rfl;have a:BitVec.ofInt 32 4294967295=BitVec.allOnes 32:=by decide
 rw[e,lU (ABM _),pa,AAO,AAP,a,BitVec.xor_comm,BitVec.xor_allOnes]
theorem axD{w:BitVec 32}:w.toNat/2147483648=(w.getLsbD 31).toNat:=by
 rw[BitVec.getLsbD,Nat.testBit,Nat.shiftRight_eq_div_pow];have:w.toNat/2^31=0\/w.toNat/2^31=1:=by omega
 rcases this with e|e<;>rw[e]<;>rfl
theorem axE{x:Nat}(h:x<4294967296):(BitVec.ofNat 32 x).getLsbD 31=decide (2147483648<=x):=by grind
def axF{x y b d:Nat}(a:x<4294967296)(c:y<4294967296)(e:b<=1)(f:d=(x+8589934592-y-b)%4294967296):((~~~(BitVec.ofNat 32 x)&&&BitVec.ofNat 32 y)|||(~~~(BitVec.ofNat 32 x^^^BitVec.ofNat 32 y)&&&BitVec.ofNat 32 d)).toNat/2147483648=if x<y+b then 1 else 0:=by grind[axD,axE]
def axG{x y b:Nat}(e:x<4294967296)(f:y<4294967296)(g:b<=1):ai VS 286 [.i .u32 (x:Int),.i .u32 (y:Int),.i .u32 (b:Int)] (.tu [.i .u32 (((x+8589934592-y-b)%4294967296:Nat):Int),.i .u32 ((if x<y+b then 1 else 0:Nat):Int)]):=by
 obtain⟨d,c⟩:∃d,d=(x+8589934592-y-b)%4294967296:=⟨_,rfl⟩;rw[<-axF e f g c,<-c];have a:IntKind.u32.wrap (IntKind.u32.wrap (x-y)-b)=d:=by grind[PE]
 have h:x=((BitVec.ofNat 32 x).toNat:Int):=by grind
 have j:y=((BitVec.ofNat 32 y).toNat:Int):=by grind
 have k:d=((BitVec.ofNat 32 d).toNat:Int):=by grind
 refine .body Uq rfl ?_;rw[h,j]at a⊢;rw[k]at a⊢;generalize BitVec.ofNat 32 x=X at*;generalize BitVec.ofNat 32 y=Y at*;generalize BitVec.ofNat 32 d=Z at*;have l:∀w:BitVec 32,bin .shr _ (.i .u64 31)=some (.i .u32 ((w.toNat/2147483648:Nat))):=λw=>ff (by decide);simp only[awH,go_sem,a,l,axz,axA,axB,axC]
def Ph{x y b:Nat}(a:x<4294967296)(d:y<4294967296)(e:b<=1){H:ab}{K:CR->Prop}:ac VS 286 [.i .u32 (x:Int),.i .u32 (y:Int),.i .u32 (b:Int)] H K↔K (.ret (.tu [.i .u32 (((x+8589934592-y-b)%4294967296:Nat):Int),.i .u32 ((if x<y+b then 1 else 0:Nat):Int)]) H):=(axG a d e).c Uq rfl rfl (.inl rfl)
def acg{l:List Nat}(i:l≠[])(j:l.length<1000000000){H:ab}{K:CR->Prop}:ac VS 280 [.im 1 (l.map u32)] H K↔K (.ret (.mu H.length l.length 0 l.length) (H++[.ar 1 (l.map u32) none true false])):=by
 have c:=BA (enc:=u32) (w:=1) (bytes:=4) (l:=l) (x0:=.z) rfl .im (λ_=>rfl) (by omega) (by omega) (H:=[]);obtain⟨d,e⟩:bD [] .z (l.map u32)=.mu 0 l.length 0 l.length/\bH [] 1 (l.map u32)=[.ar 1 (l.map u32) none true false]:=by cases l with|nil=>grind|cons a l=>exact⟨by simp[bD],rfl⟩
 rw[d,e]at c;have f:(l.map u32).take l.length=l.map u32:=E2 (by grind);have h:ai VS 280 [.im 1 (l.map u32)] (.ow 1 (l.map u32)):=by refine .body qF rfl ?_;have g:ej false .sl (.im 1 (l.map u32)) .nil=some (.b false):=rfl;simp[go_sem,Ef,g,c,fN,f]
 rw[eU qF rfl h (mj (by simp[D.plain,D.flat]))];have:eT nT.own (.ow 1 (l.map u32)) H=(.mu H.length l.length 0 l.length,H++[.ar 1 (l.map u32) none true false]):=by show(D.mu _ _ 0 _,_)=_;grind
 grind
def ach{x:D}(h:Sl 1 [] x):∃d,Sl 1 [] d/\∀(H:ab)(K:CR->Prop),ac VS 280 [x] H K↔K (.ret d H):=by cases h with|nil=>refine⟨.nil,.nil rfl,λH K=>ai.c (vf:=nT) ?_ qF rfl rfl (.inr rfl)⟩;refine .body (vf:=nT) qF rfl ?_;have a:ej false .sl .nil .nil=some (.b true):=rfl;simp(disch:=omega)only[go_sem,simprocAttr,Ef,a]|z=>refine⟨.z,.z rfl,λH K=>ai.c (vf:=nT) ?_ qF rfl rfl (.inr rfl)⟩;refine .body (vf:=nT) qF rfl ?_;have a:ej false .sl .z .nil=some (.b false):=rfl;have c:bY [] .z .z 1 4 true=some (.z,[]):=rfl;simp(disch:=omega)only[go_sem,simprocAttr,Ef,a,c]|im=>refine⟨.z,.z rfl,λH K=>ai.c (vf:=nT) ?_ qF rfl rfl (.inr rfl)⟩;refine .body (vf:=nT) qF rfl ?_;have a:ej false .sl (.im 1 []) .nil=some (.b false):=rfl;have c:bY [] .z (.im 1 []) 1 4 true=some (.z,[]):=rfl;simp(disch:=omega)only[go_sem,simprocAttr,Ef,a,c]
structure axH(l m:List Nat)(x y:D)(i:Nat)(s:St):Prop where h:∃ws b a3 a4 a9 a10,ws.length=l.length/\lm 4294967296 ws/\b<=1/\(∀j,i<=j->j<l.length->ws[j]! =l[j]!)/\vl 4294967296 (ws.take i)+vl 4294967296 (m.take i)=vl 4294967296 (l.take i)+4294967296^i*b/\s=⟨[x,y,.nil,a3,a4,.i .u32 (b:Int),.mu 0 l.length 0 l.length,.i .i64 i,.i .i64 l.length,a9,a10],[.ar 1 (ws.map u32) none true false]⟩
def Pi{a f:Nat}{x y:D}(S:br a x)(U:br f y)(V:f<=a)(W:(ds 4294967296 a).length<1000000000):∃d,ai VS 264 [x,y] d/\br (a-f) d:=by
 have r:=S.sl;have t:=U.sl;refine aH.ex (.body BX rfl ?_);by_cases u:a=0
 ·have G:f=0:=by omega
  rw[u,bE]at r;obtain⟨X,I,Y⟩:=ach r;have J:Sl 1 ([].map u32) X:=I;obtain⟨d,w,g⟩:=mO J ie (by simp);have Z:=λ{H K}=>w.c (H:=H) (K:=K) lJ rfl (by simp[I.pl]) (.inl rfl);simp[go_sem,abf,Y,J.n];rw[bJ];simp[go_sem,simprocAttr,D9,Z];exact⟨d,iV g.sl.flat,by rw[u,Nat.zero_sub];exact g⟩
 have aa:=fV aB V;have A:=lT aB u;have m1:=co aB a;have m2:=co aB f;have q1:=bF aB a;have q2:=bF aB f;generalize ds 4294967296 a=l at*;generalize ds 4294967296 f=m at*;have ag:x=.im 1 (l.map u32):=by cases r with|nil h=>simp at h;exact absurd h A|z h=>simp at h;exact absurd h A|im=>rfl
 subst ag;have e0:((0:Nat):Int)=0:=rfl;simp[go_sem,abf,acg A W];refine ak.up (axH l m _ y) l.length ⟨l,0,_,_,_,_,rfl,m1,by omega,λ_ _ _=>rfl,rfl,rfl⟩ ?_;rintro i s hi⟨c,b,a3,a4,a9,ar,k,o,L,B,q,rfl⟩;by_cases e:i<l.length
 ·have M:(i:Int)<l.length:=by omega
  have N:c[i]!<4294967296:=cF o (by omega);have P:=B i (G1 _) e;by_cases Q:i<m.length
  ·have C:(i:Int)<m.length:=by omega
   have g:=cF m2 Q;have n:=λ{H K}=>Ph (H:=H) (K:=K) N g L;obtain⟨v,E⟩:∃v,v=(c[i]!+8589934592-m[i]!-b)%4294967296:=⟨_,rfl⟩;rw[<-E]at n;simp(disch:=omega)only[go_sem,D9,t.n,t.q,M,C,u32,wr,k,n,gH];refine⟨by omega,by omega,e,by omega,e,e,c.set i v,_,_,_,_,_,by simp[k],gG o (by omega),by split<;>omega,λj h3 F=>?_,?_,rfl⟩;·rw[Hy _ _ (by rw[gb];omega),AAJ (by omega),<-getElem!_pos c j (by omega)];exact B j (by omega) F
   rw[fq (by rw[gb];omega),AAn (G1 _),fq Q,fq e,Hy _ _ (by rw[gb];omega),AAa,<-P,oa];by_cases p:c[i]!<m[i]!+b
   ·rw[E4 p];have:v+m[i]!+b=c[i]!+4294967296:=by omega
    grind
   rw[E1 p];have:v+m[i]!+b=c[i]!:=by omega
   grind
  have C:¬(i:Int)<m.length:=by omega
  have n:=λ{H K}=>Ph (H:=H) (K:=K) N (show 0<4294967296 by omega) L;obtain⟨v,E⟩:∃v,v=(c[i]!+8589934592-0-b)%4294967296:=⟨_,rfl⟩;rw[<-E,lB]at n;simp only[Int.natCast_zero]at n;simp(disch:=omega)only[go_sem,D9,t.n,M,C,u32,wr,k,n,gH];refine⟨by omega,e,by omega,e,e,c.set i v,_,_,_,_,_,by simp[k],gG o (by omega),by split<;>omega,λj h3 F=>?_,?_,rfl⟩;·rw[Hy _ _ (by rw[gb];omega),AAJ (by omega),<-getElem!_pos c j (by omega)];exact B j (by omega) F
  rw[E2 (l:=m) (by omega)]at q⊢;rw[fq (by rw[gb];omega),AAn (G1 _),fq e,Hy _ _ (by rw[gb];omega),AAa,<-P,oa];by_cases p:c[i]!<b
  ·rw[E4 p];have:v+b=c[i]!+4294967296:=by omega
   grind
  rw[E1 p];have:v+b=c[i]!:=by omega
  grind
 have aj:i=l.length:=by omega
 subst aj;rw[E2 (by omega),E2 aa,E2 (G1 _),q1,q2]at q;have al:vl 4294967296 c=a-f:=by
  have e:=dR aB o;rw[k]at e;rcases lu b 1 with G|G;·rw[show b=0 by omega,nu]at q;omega
  rw[show b=1 by omega,AAQ]at q;omega
 obtain⟨d,w,g⟩:=mO .im o (by omega);rw[al]at g;have am:(c.map u32).take l.length=c.map u32:=E2 (by rw[T3];omega);simp[go_sem,D9,sm];refine ac.fzr lJ rfl rfl w ⟨_,by simp only[go_sem,simprocAttr,k,am];rfl⟩ (λH'=>?_);simp[go_sem];exact⟨d,iV g.sl.flat,g⟩
end
section
open Go.Dm
set_option maxRecDepth 10000
structure axI(l m:List Nat)(x y:D)(i:Nat)(s:St):Prop where h:∃ws a3 a4 a8 a9 a10 a11 a12 a13 a15 a16 a17,ws.length=l.length+m.length/\lm 4294967296 ws/\vl 4294967296 ws=vl 4294967296 (l.take i)*vl 4294967296 m/\s=⟨[x,y,.nil,a3,a4,.i .i64 i,.i .i64 l.length,x,a8,a9,a10,a11,a12,a13,.mu 0 (l.length+m.length) 0 (l.length+m.length),a15,a16,a17],[.ar 1 (ws.map u32) (some (l.length+m.length)) true false]⟩
structure axJ(l m:List Nat)(x y:D)(i j:Nat)(s:St):Prop where h:∃ws c a4 a13 a16 a17,ws.length=l.length+m.length/\lm 4294967296 ws/\c<4294967296/\ws[i+m.length]! =0/\vl 4294967296 ws+4294967296^(i+j)*c=vl 4294967296 (l.take i)*vl 4294967296 m+4294967296^i*l[i]!*vl 4294967296 (m.take j)/\s=⟨[x,y,.nil,.b true,a4,.i .i64 i,.i .i64 l.length,x,.i .u64 c,.i .i64 j,.i .i64 m.length,y,.i .u32 l[i]!,a13,.mu 0 (l.length+m.length) 0 (l.length+m.length),.i .i64 i,a16,a17],[.ar 1 (ws.map u32) (some (l.length+m.length)) true false]⟩
def axK{a b:Nat}{x y:D}(C:br a x)(E:br b y)(ha:(ds 4294967296 a).length<1000000000)(hb:(ds 4294967296 b).length<1000000000):∃d,ai VS 261 [x,y] d/\br (a*b) d:=by
 have t:=C.sl;have k:=E.sl;refine aH.ex (.body Uj rfl ?_);have u:=co aB a;have w:=co aB b;have F:=bF aB a;have G:=bF aB b;generalize ds 4294967296 a=l at*;generalize ds 4294967296 b=m at*;have tn:((l.length:Int)+(m.length:Int)).toNat=l.length+m.length:=by omega
 simp(disch:=omega)only[go_sem,awu,t.n,k.n,wr,uC];refine⟨⟨⟨by omega,by omega⟩,⟨by omega,by omega⟩,by omega⟩,ak.up (axI l m x y) l.length ⟨_,_,_,_,_,_,_,_,_,_,_,_,by simp,nX (by omega),by grind[xk,vl],rfl⟩ ?_⟩;rintro i s hi⟨e,a3,H,a8,a9,ah,aj,al,I,am,J,K,f,g,h,rfl⟩;by_cases o:i<l.length
 ·have L:(i:Int)<l.length:=by omega
  have hd:=cF u o;have q:e[i+m.length]! =0:=by
   have g1:=dR aB (gj u i);rw[il,AAA hi]at g1;have z:=dR aB w;have:vl 4294967296 e<4294967296^(i+m.length)*1:=by rw[h,ABN,AAQ];exact Nat.mul_lt_mul'' g1 z
   have:=uv aB this (by omega);omega
  simp only[go_sem,aa8,t.q,k.n,L,u32];refine⟨by omega,ak.up (axJ l m x y i) m.length ⟨e,0,_,_,_,_,f,g,by omega,q,by rw[h];simp[vl],rfl⟩ ?_⟩;rintro j s hj⟨e,c,H,I,J,K,f,g,M,q,h,rfl⟩;by_cases r:j<m.length
  ·have N:(j:Int)<m.length:=by omega
   have n:=cF w r;have A:i+j<e.length:=by omega
   have ap:=cF g A;have aq:l[i]!*m[j]!<=4294967295*4294967295:=p5 (by omega) (by omega);obtain⟨p,P⟩:∃p,p=l[i]!*m[j]!:=⟨_,rfl⟩;obtain⟨s,hs⟩:∃s,s=p+e[i+j]!+c:=⟨_,rfl⟩;have Q:l[i]!*(m[j]!:Int)=p:=by rw[P];simp
   have e2:IntKind.u64.wrap (p:Int)=(p:Int):=bW (by omega);have S:IntKind.u64.wrap (p+(e[i+j]!))=p+(e[i+j]!):=by rw[eP];omega
   have U:IntKind.u64.wrap (p+(e[i+j]!)+c)=s:=by rw[eP];omega
   have V:bin .shr _ (.i .u64 32)=some (.i .u64 ((s/4294967296:Nat))):=ff (by decide);simp(disch:=omega)only[go_sem,aa6,k.q,N,u32,bW,wr,f,Q,S,U,V,kw,gH];refine⟨by omega,⟨by omega,by omega⟩,by omega,⟨by omega,by omega⟩,by omega,r,e.set _ _,s/4294967296,_,_,_,_,by simp[f],gG g (mm _ (by omega)),by omega,?_,?_,rfl⟩;·rw[Hy _ _ (by rw[gb];omega),AAJ (by omega),<-getElem!_pos e _ (by omega)];exact q
   have g1:=ku (B:=4294967296) (v:=s%4294967296) A;rw[fq r,<-Nat.add_assoc,oa];have z:=zv s 4294967296;grind
  have W:j=m.length:=by omega
  subst W;simp(disch:=omega)only[go_sem,aa6,sm,k.n,u32,wr,f,lU,gH];refine⟨⟨by omega,by omega⟩,by omega,o,e.set _ c,_,_,_,_,_,_,_,_,_,_,_,by simp[f],gG g M,?_,rfl⟩;have g1:=ku (B:=4294967296) (v:=c) (l:=e) (i:=i+m.length) (by omega);rw[fq o];grind
 have X:i=l.length:=by omega
 subst X;rw[E2 (G1 _),F,G]at h;obtain⟨d,Y,n⟩:=mO .im g (by omega);rw[h]at n;have Z:(e.map u32).take (l.length+m.length)=e.map u32:=E2 (by rw[T3];omega);simp[go_sem,aa8,sm];refine ac.fzr lJ rfl rfl Y ⟨_,by simp only[go_sem,simprocAttr,f,Z];rfl⟩ (λH'=>?_);simp[go_sem];exact⟨d,iV n.sl.flat,n⟩
def axL{h l y:Nat}(k:h<y)(c:y<4294967296)(m:l<4294967296):ai VS 296 [.i .u32 (h:Int),.i .u32 (l:Int),.i .u32 (y:Int)] (.tu [.i .u32 (((l+4294967296*h)/y:Nat):Int),.i .u32 (((l+4294967296*h)%y:Nat):Int)]):=by
 obtain⟨n,d⟩:∃n,n=l+4294967296*h:=⟨_,rfl⟩;have o:n/y<4294967296:=by rw[AAD (by omega)];omega
 have hr:n%y<4294967296:=Nat.lt_trans (mm _ (by omega)) c;have e:¬((y:Int)=0):=by omega
 have f:¬((y:Int)<=h):=by omega
 have a:bin .shl (.i .u64 h) (.i .u64 32)=some (.i .u64 ((h*4294967296:Nat))):=by rw[show bin .shl _ (.i .u64 32)=some _ from uB (s:=32) (by decide),bW (by omega)]
 obtain⟨g,b⟩:∃g,g=h*4294967296:=⟨_,rfl⟩;have j:bin .or (.i .u64 g) (.i .u64 l)=some (.i .u64 n):=by rw[Ap (by omega) (by omega),b,show h*4294967296=h*2^32 from rfl,Aq (by omega)];grind
 rw[<-d];rw[<-b]at a;refine .body Uv rfl ?_;simp(disch:=omega)only[go_sem,awR,bW,e,f,a,j,EP,xn,lU]
def axM{h l y:Nat}(a:h<y)(b:y<4294967296)(d:l<4294967296){H:ab}{K:CR->Prop}:ac VS 296 [.i .u32 (h:Int),.i .u32 (l:Int),.i .u32 (y:Int)] H K↔K (.ret (.tu [.i .u32 (((l+4294967296*h)/y:Nat):Int),.i .u32 (((l+4294967296*h)%y:Nat):Int)]) H):=(axL a b d).c Uv rfl rfl (.inl rfl)
structure axN(l:List Nat)(v:Nat)(x:D)(k:Nat)(s:St):Prop where h:∃ws r a4,k<=l.length/\ws.length=l.length/\lm 4294967296 ws/\r<v/\vl 4294967296 (l.drop k)=v*vl 4294967296 (ws.drop k)+r/\s=⟨[x,.i .u32 v,.nil,.i .u32 0,a4,.i .u32 r,.i .i64 ((k:Int)-1),.mu 0 l.length 0 l.length],[.ar 1 (ws.map u32) (some l.length) true false]⟩
def axO{a v:Nat}{x:D}(A:br a x)(f:0<v)(B:v<4294967296)(N:(ds 4294967296 a).length<1000000000):∃d,ai VS 281 [x,.i .u32 (v:Int)] (.tu [d,.i .u32 ((a%v:Nat):Int)])/\br (a/v) d:=by
 have p:=A.sl;have C:=co aB a;have E:=bF aB a;generalize ds 4294967296 a=l at*;obtain⟨j,h,d,P,q⟩:∃j,ai VS 281 [x,.i .u32 v] j/\∃d,j=.tu [d,.i .u32 ((a%v:Nat))]/\br (a/v) d:=by
  refine aH.ex (.body Uo rfl ?_);simp(disch:=omega)only[go_sem,awD,p.n,wr,uC];refine⟨⟨⟨by omega,by omega⟩,by omega⟩,ak.loop (axN l v x) _ ⟨_,0,_,G1 _,by simp,nX (by omega),f,by rw[T5 (G1 _),T5 (by simp)];rfl,rfl⟩ ?_⟩;rintro k s⟨b,r,Q,S,n,t,hr,g,rfl⟩;rcases k with _|k
  ·rw[AAN,AAN,E]at g;obtain⟨d,F,G⟩:=mO .im t (by omega);have U:vl 4294967296 b=a/v:=by rw[g,Nat.mul_add_div f,AAW hr,l4]
   have V:a%v=r:=by rw[g,Nat.mul_add_mod,m0 hr]
   have I:(b.map u32).take l.length=b.map u32:=E2 (by grind);simp only[go_sem,simprocAttr,abx];refine ac.fzr lJ rfl rfl F ⟨_,by simp only[go_sem,simprocAttr,n,I];rfl⟩ (λW=>?_);have J:=λm H=>ah G.sl.flat m H;simp only[go_sem,J];grind
  have e:((k:Int)+1-1)=k:=by omega
  have q:l[k]!<4294967296:=cF C (by omega);have L:(0:Int)<=(k:Int):=by omega
  have u:=λ{H K}=>axM (H:=H) (K:=K) hr B q;obtain⟨c,w⟩:∃c,c=(l[k]!+4294967296*r)/v:=⟨_,rfl⟩;obtain⟨o,y⟩:∃o,o=(l[k]!+4294967296*r)%v:=⟨_,rfl⟩;have g1:=zv (l[k]!+4294967296*r) v;have z:=mm (l[k]!+4294967296*r) f;rw[<-w,<-y]at g1 u;rw[<-y]at z;have M:c<4294967296:=by rw[w,AAD f];omega
  simp(disch:=omega)only[go_sem,abx,p.q,u32,wr,n,e,L,u,gH];repeat' first|(refine And.intro ?_ ?_)|intro _
  all_goals try omega
  refine⟨k,by omega,b.set k c,o,_,by omega,by simp[n],gG t M,z,?_,rfl⟩;rw[dJ (by omega),dJ (l:=b.set k c) (by rw[gb];omega),g,ABg (by omega),Hy (b.set k c) k (by rw[gb];omega),AAa];grind
 grind
end
end Go.Proofs.YtigbdbdlkoeadaaGreatDoor.Dv
namespace Go.Dm
section
variable{x y z:Nat}
def PI{v P d:Nat}(a:y<P)(h:x<d*z):x*P+y<d*(z*P+v):=by have b:(x+1)*P<=d*z*P:=M4 _ h;grind
def acV{v P d B:Nat}(a:v<P)(b:d<=B)(c:B<=z)(h:d*z<=x):(d-1)*(z*P+v)<=x*P+y:=by
 rcases d with _|d;·simp
 have e:d*v<=z*P:=p5 (by omega) (by omega);have f:(d+1)*z*P<=x*P:=M4 _ h;grind
structure rD(B U V u2 u1 u0 v1 v2 P:Nat):Prop where
 hu:∃u,u<P/\U=((u2*B+u1)*B+u0)*P+u
 hv:∃v,v<P/\V=(v1*B+v2)*P+v
 n:B<=2*v1
 b1:u1<B
 b0:u0<B
 b2:v2<B
 lt:U<V*B
 pB:2<=B
section
variable{B U V u2 u1 u0 v1 v2 P:Nat}
def rD.head(h:rD B U V u2 u1 u0 v1 v2 P):u2*B+u1<=v1*B+v2:=by
 obtain⟨u,a,b⟩:=h.hu;obtain⟨v,d,e⟩:=h.hv;have f:=h.lt;rcases lu (v1*B+v2) (u2*B+u1)with c|c;·exfalso;have g:(v1*B+v2+1)*B*P<=((u2*B+u1)*B+u0)*P:=M4 _ (by have:(v1*B+v2+1)*B<=(u2*B+u1)*B:=M4 _ c;omega);have i:((v1*B+v2)*P+v)*B<=(v1*B+v2+1)*P*B:=M4 _ (by grind);grind
 omega
structure gI(B U V u2 u1 u0 v1 v2 P d r:Nat):Prop where
 e:d*v1+r=u2*B+u1
 hi:U<(d+1)*V
def gI.start(h:rD B U V u2 u1 u0 v1 v2 P):gI B U V u2 u1 u0 v1 v2 P ((u2*B+u1)/v1) ((u2*B+u1)%v1):=by obtain⟨u,c,d⟩:=h.hu;obtain⟨v,f,e⟩:=h.hv;have g:=h.n;have i:=h.b0;refine⟨by rw[AA0];exact AAT _ _,?_⟩;rw[d,e];refine PI c ?_;have g1:=Nat.lt_div_mul_add (a:=u2*B+u1) (b:=v1) (by omega);have j:(u2*B+u1+1)*B<=((u2*B+u1)/v1*v1+v1)*B:=M4 _ (by omega);grind
def gI.less{d:Nat}(h:rD B U V u2 u1 u0 v1 v2 P)(i:gI B U V u2 u1 u0 v1 v2 P d x)(c:B<=d\/x*B+u0<d*v2):d≠0/\gI B U V u2 u1 u0 v1 v2 P (d-1) (x+v1):=by
 have g:=h.pB;have a:d≠0:=by grind
 refine⟨a,?_,?_⟩
 ·have:=i.e;have j:d*v1=(d-1)*v1+v1:=by rw[<-Nat.succ_mul];grind
  omega
 rw[Nat.sub_add_cancel (by omega)];rcases c with c|c;·refine hI h.lt ?_;rw[AA0 V];exact M4 _ c
 obtain⟨u,b,e⟩:=h.hu;obtain⟨v,k,f⟩:=h.hv;rw[e,f];refine PI b ?_;have:=i.e;have l:(d*v1+x)*B=d*v1*B+x*B:=by grind
 grind
def gI.stop{d:Nat}(h:rD B U V u2 u1 u0 v1 v2 P)(i:gI B U V u2 u1 u0 v1 v2 P d x)(a:d<B)(c:d*v2<=x*B+u0):(d-1)*V<=U:=by
 obtain⟨u,g,b⟩:=h.hu;obtain⟨v,e,f⟩:=h.hv;have j:=h.n;rw[b,f];have k:=i.e;refine acV e (ABV a) ?_ ?_;·have:B*1<=B*v1:=gp _ (by omega);grind
 have l:(d*v1+x)*B=d*v1*B+x*B:=by grind
 grind
def gI.brk{d:Nat}(h:rD B U V u2 u1 u0 v1 v2 P)(i:gI B U V u2 u1 u0 v1 v2 P d x)(hr:B<=x):d<B/\d*v2<=x*B+u0:=by
 have b:=h.head;have e:=h.b2;have f:=i.e;have a:d<B:=by
  rcases lu d B with c|c;·exact c
  have:B*v1<=d*v1:=M4 _ c;grind
 refine⟨a,?_⟩;have g:d*v2<=B*B:=p5 (by omega) (by omega);have j:B*B<=x*B:=M4 _ hr;omega
end
end
end Go.Dm
namespace Go.Proofs.YtigbdbdlkoeadaaGreatDoor.Dv
section
open Go.Dm
set_option maxRecDepth 10000
set_option maxRecDepth 100000
def axP{x y b:Nat}(f:x<4294967296)(g:y<4294967296)(h:b<=1):ai VS 297 [.i .u32 (x:Int),.i .u32 (y:Int),.i .u32 (b:Int)] (.tu [.i .u32 (((x+y+b)%4294967296:Nat):Int),.i .u32 (((x+y+b)/4294967296:Nat):Int)]):=by
 obtain⟨s,hs⟩:∃s,s=x+y+b:=⟨_,rfl⟩;have a:IntKind.u64.wrap (x+y)=x+y:=by grind[eP]
 have c:IntKind.u64.wrap (x+y+b)=s:=by grind[eP]
 have d:bin .shr _ (.i .u64 32)=some (.i .u64 ((s/4294967296:Nat))):=ff (by decide);have e:s/4294967296%4294967296=s/4294967296:=by omega
 rw[<-hs];refine .body Uw rfl ?_;simp(disch:=omega)only[go_sem,awS,bW,a,c,d,e,kw]
def axQ{x y b:Nat}(a:x<4294967296)(d:y<4294967296)(e:b<=1){H:ab}{K:CR->Prop}:ac VS 297 [.i .u32 (x:Int),.i .u32 (y:Int),.i .u32 (b:Int)] H K↔K (.ret (.tu [.i .u32 (((x+y+b)%4294967296:Nat):Int),.i .u32 (((x+y+b)/4294967296:Nat):Int)]) H):=(axP a d e).c Uw rfl rfl (.inl rfl)
structure uk(j n:Nat)(us ws:List Nat):Prop where
 len:ws.length=us.length
 lo:ws.take j=us.take j
 hi:ws.drop (j+n+1)=us.drop (j+n+1)lm:lm 4294967296 ws
variable{e f:List Nat}
def uk.set{j n i v:Nat}(h:uk j n e f)(hi:i<=n)(a:v<4294967296):uk j n e (f.set (j+i) v)where
 len:=by rw[gb,h.len]
 lo:=by rw[AAn (by omega),h.lo]
 hi:=by rw[ABg (by omega),h.hi]
 lm:=gG h.lm a
def dH(a vs:List Nat)(b c:Option Nat)(d:Bool)(e:an):ab:=[.ar 1 (vs.map u32) c true d,.ar 1 (a.map u32) b true false,e]
def Pj{l:List Nat}{i j:Nat}(h:i=j):l[i]! =l[j]!:=by rw[h]
def kn0{vs:List Nat}{j n:Nat}(a:lm 4294967296 e)(b:lm 4294967296 vs)(o:2<=n)(p:vs.length=n+1)(q:j+n+1<=e.length)(r:2147483648<=vs[n-1]!)(s:vl 4294967296 (e.drop (j+1))<vl 4294967296 (vs.take n)):rD 4294967296 (vl 4294967296 (e.drop j)) (vl 4294967296 (vs.take n)) e[j+n]! e[j+n-1]! e[j+n-2]! vs[n-1]! vs[n-2]! (4294967296^(n-2)):=by
 have h:(vs.take n).length=n:=by rw[il];omega
 have k:=dR aB (gj b n);rw[h]at k;have m:vl 4294967296 (e.drop (j+n+1))=0:=by
  have g:=fe (B:=4294967296) (e.drop (j+1)) n (by rw[nr];omega);rw[ABI,show j+1+n=j+n+1 by omega]at g;rcases sn (vl 4294967296 (e.drop (j+n+1)))with c|c;·exact c
  have:=gp (4294967296^n) c;omega
 refine⟨⟨vl 4294967296 ((e.drop j).take (n-2)),?_,?_⟩,⟨vl 4294967296 (vs.take (n-2)),?_,?_⟩,by omega,cF a (by omega),cF a (by omega),cF b (by omega),?_,aB⟩;·have:=dR aB (gj (Ak a j) (n-2));rwa[il,nr,AAA (by omega)]at this
 ·have g:=fe (B:=4294967296) (e.drop j) (n-2) (by rw[nr];omega);rw[ABI]at g;rw[g,dJ (by omega),dJ (by omega),dJ (by omega),show j+(n-2)+1+1+1=j+n+1 by omega,m,Pj (show j+(n-2)=j+n-2 by omega),Pj (show j+(n-2)+1=j+n-1 by omega),Pj (show j+(n-2)+1+1=j+n by omega)];grind
 ·have:=dR aB (gj b (n-2));rwa[il,AAA (by omega)]at this
 ·have d:=fq (B:=4294967296) (l:=vs) (i:=n-1) (by omega);have f:=fq (B:=4294967296) (l:=vs) (i:=n-2) (by omega);rw[show n-1+1=n by omega]at d;rw[show n-2+1=n-1 by omega]at f;rw[d,f,show n-1=n-2+1 by omega,oa];grind
 rw[dJ (by omega)];have:=cF a (i:=j) (by omega);omega
structure axS(us vs:List Nat)(j n N:Nat)(cu cv:Option Nat)(lv:Bool)(bq:an)(d:Nat)(s:St):Prop where h:∃r a3 a4 a9,r<4294967296/\d<8589934592/\gI 4294967296 (vl 4294967296 (us.drop j)) (vl 4294967296 (vs.take n)) us[j+n]! us[j+n-1]! us[j+n-2]! vs[n-1]! vs[n-2]! (4294967296^(n-2)) d r/\s=⟨[.mu 1 N j (n+1),.mu 0 (n+1) 0 n,.i .u32 0,a3,a4,.u,.u,.u,.i .i64 n,a9,.i .u64 (vs[n-1]!:Int),.i .u64 (d:Int),.i .u64 (r:Int),.u,.u,.u,.u,.u,.u,.u,.u,.u,.u,.u,.u,.u,.u,.u,.u],dH us vs cu cv lv bq⟩
def xb{v:Nat}(h:v<4294967296):bin .shl (.i .u64 (v:Int)) (.i .u64 32)=some (.i .u64 ((4294967296*v:Nat):Int)):=by rw[show bin .shl _ (.i .u64 32)=some _ from uB (s:=32) (by decide),bW (by omega),AA0]
def zU{v a:Nat}(h:v<4294967296)(b:a<4294967296):bin .or (.i .u64 ((4294967296*v:Nat):Int)) (.i .u64 (a:Int))=some (.i .u64 ((a+4294967296*v:Nat):Int)):=by rw[Ap (by omega) (by omega),show 4294967296*v=v*2^32 by omega,Aq (by omega)]
def Pk:aR:=match Eh.body with|.seq _ (.seq _ (.seq _ (.seq _ (.seq _ (.seq _ r)))))=>r|_=>.skip
structure axT(us vs:List Nat)(j n N d:Nat)(cu cv:Option Nat)(lv:Bool)(bq:an)(x9 x10 x12:D)(i:Nat)(s:St):Prop where h:∃ws c b a3 a4 a5 a18 a19 a20 a21,uk j n us ws/\c<4294967296/\b<=1/\(∀k,i<=k->k<=n->ws[j+k]! =us[j+k]!)/\vl 4294967296 ws+4294967296^j*(d*vl 4294967296 (vs.take i))=vl 4294967296 us+4294967296^(j+i)*(c+b)/\s=⟨[.mu 1 N j (n+1),.mu 0 (n+1) 0 n,.i .u32 0,a3,a4,a5,.u,.u,.i .i64 n,x9,x10,.i .u64 (d:Int),x12,.i .u64 (c:Int),.i .u64 (b:Int),.i .i64 i,.i .i64 n,.mu 0 (n+1) 0 n,a18,a19,a20,a21,.u,.u,.u,.u,.u,.u,.u],dH ws vs cu cv lv bq⟩
structure axU(us w0 vs:List Nat)(j n N d:Nat)(cu cv:Option Nat)(lv:Bool)(bq:an)(i:Nat)(s:St):Prop where h:∃ws up b3 b4 b5 b6 b7 b9 b10 b12 b13 b14 b15 b16 b17 b18 b19 b20 b21 b22 b27 b28,uk j n us ws/\up<=1/\(∀k,i<=k->k<=n->ws[j+k]! =w0[j+k]!)/\vl 4294967296 ws+4294967296^(j+i)*up=vl 4294967296 w0+4294967296^j*vl 4294967296 (vs.take i)/\s=⟨[.mu 1 N j (n+1),.mu 0 (n+1) 0 n,.i .u32 0,b3,b4,b5,b6,b7,.i .i64 n,b9,b10,.i .u64 (d:Int),b12,b13,b14,b15,b16,b17,b18,b19,b20,b21,b22,.i .u32 (up:Int),.i .i64 i,.i .i64 n,.mu 0 (n+1) 0 n,b27,b28],dH ws vs cu cv lv bq⟩
variable{x y z a b c d:Nat}
def axV{T P B x y up V e d:Nat}(f:z+P*c*x=b+P*c*y)(g:b+P*c*up=a+P*V)(t1:a+P*((d+1)*V)=T+P*c*B)(h:y+B*e=x+up):z+P*c*B*e+P*(d*V)=T+P*c*B:=by grind
def axW{vs:List Nat}{j n:Nat}(a:lm 4294967296 vs)(f:vs.length=n+1)(h:j+n+1<=e.length)(i:vl 4294967296 (e.drop (j+1))<vl 4294967296 (vs.take n)):vl 4294967296 (e.drop (j+n+1))=0:=by
 have b:(vs.take n).length=n:=by grind
 have d:=dR aB (gj a n);rw[b]at d;have g:=fe (B:=4294967296) (e.drop (j+1)) n (by grind);rw[ABI,show j+1+n=j+n+1 by omega]at g;rcases sn (vl 4294967296 (e.drop (j+n+1)))with c|c;·exact c
 have:=gp (4294967296^n) c;omega
theorem uk.val{j n:Nat}(h:uk j n e f)(c:j+n+1<=e.length)(a:vl 4294967296 (e.drop (j+n+1))=0):vl 4294967296 f=vl 4294967296 (e.take j)+4294967296^j*vl 4294967296 (f.drop j)/\vl 4294967296 (f.drop j)<4294967296^(n+1):=by have d:=h.len;have g1:=fe (B:=4294967296) f j (by omega);rw[h.lo]at g1;refine⟨g1,?_⟩;have b:=fe (B:=4294967296) (f.drop j) (n+1) (by grind);rw[ABI,<-Nat.add_assoc,h.hi,a]at b;have g:=dR aB (gj (Ak h.lm j) (n+1));grind
variable{l m:Option Nat}{g h i j k:D}
def Pm{vs:List Nat}{j n d:Nat}{I:Option Nat}{J:Bool}{L:an}{x9 aq ar:D}(a6:lm 4294967296 e)(Y:lm 4294967296 vs)(hn:2<=n)(Z:vs.length=n+1)(hN:e.length=x)(ab:j+n+1<=e.length)(b1:e.length<2000000000)(hU:vl 4294967296 (e.drop (j+1))<vl 4294967296 (vs.take n))(hd:d<4294967296)(h1:vl 4294967296 (e.drop j)<(d+1)*vl 4294967296 (vs.take n))(h2:(d-1)*vl 4294967296 (vs.take n)<=vl 4294967296 (e.drop j)):ak VS Pk ⟨[.mu 1 x j (n+1),.mu 0 (n+1) 0 n,.i .u32 0,g,h,.u,.u,.u,.i .i64 n,x9,aq,.i .u64 (d:Int),ar,.u,.u,.u,.u,.u,.u,.u,.u,.u,.u,.u,.u,.u,.u,.u,.u],dH e vs m I J L⟩ (du [.s 2] (λr=>∃a,a.length=x/\lm 4294967296 a/\vl 4294967296 a+4294967296^j*(vl 4294967296 (e.drop j)/vl 4294967296 (vs.take n)*vl 4294967296 (vs.take n))=vl 4294967296 e/\vl 4294967296 (a.drop j)<vl 4294967296 (vs.take n)/\r=.ret (.i .u32 ((vl 4294967296 (e.drop j)/vl 4294967296 (vs.take n):Nat):Int)) (dH a vs m I J L))):=by
 have hz:=axW Y Z ab hU;simp only[go_sem,Pk,abE,dH];refine ak.up (axT e vs j n x d m I J L x9 aq ar) n ⟨e,0,0,_,_,_,_,_,_,_,⟨rfl,rfl,rfl,a6⟩,by omega,by omega,λ_ _ _=>rfl,by simp[vl],rfl⟩ ?_;rintro i s hi⟨a,c,b,g,h,a5,b4,b5,b6,b7,o,hc,hb,hw,hv,rfl⟩;have q:=o.len;rw[hN]at q;have G:=o.lm;by_cases a7:i<n
 ·have c1:(i:Int)<(n:Int):=by omega
  have ax:vs[i]!<4294967296:=cF Y (by omega);have M:a[j+i]!<4294967296:=cF G (by omega);have cb:d*vs[i]!<=4294967295*4294967295:=p5 (by omega) (by omega);obtain⟨C,a8⟩:∃C,C=d*vs[i]!:=⟨_,rfl⟩;obtain⟨p,hp⟩:∃p,p=C+c:=⟨_,rfl⟩;have e1:d*(vs[i]!:Int)=C:=by rw[a8];simp
  have e2:IntKind.u64.wrap (C:Int)=(C:Int):=bW (by omega);have e3:IntKind.u64.wrap (C+c)=p:=by rw[eP];omega
  have e4:bin .shr _ (.i .u64 32)=some (.i .u64 ((p/4294967296:Nat))):=ff (by decide);obtain⟨lo,bc⟩:∃lo,lo=p%4294967296:=⟨_,rfl⟩;have e5:IntKind.u32.wrap p=lo:=by rw[kw,bc]
  obtain⟨df,be⟩:∃df,df=(a[j+i]!+18446744073709551616-lo-b)%18446744073709551616:=⟨_,rfl⟩;have N:IntKind.u64.wrap (IntKind.u64.wrap ((a[j+i]!)-lo)-b)=df:=by rw[eP,eP];omega
  have w:bin .shr _ (.i .u64 63)=some (.i .u64 ((df/9223372036854775808:Nat))):=ff (by decide);obtain⟨f,af⟩:∃f,f=df/9223372036854775808:=⟨_,rfl⟩;obtain⟨y,hy⟩:∃y,y=df%4294967296:=⟨_,rfl⟩;have P:IntKind.u32.wrap df=y:=by rw[kw,hy]
  rw[<-af]at w;have key:f<=1/\y+lo+b=a[j+i]!+4294967296*f:=by
   rcases lu a[j+i]! (lo+b)with hq|hq
   ·have:df=a[j+i]!+18446744073709551616-lo-b:=by omega
    omega
   have:df=a[j+i]!-lo-b:=by omega
   omega
  have w1:IntKind.u64.wrap (lo:Int)=(lo:Int):=bW (by omega);simp(disch:=omega)only[go_sem,OF,dH,c1,u32,wr,bW,q,Z,e1,e3,e4,e5,N,w,P,gH];repeat' first|(refine And.intro ?_ ?_)|intro _
  all_goals try omega
  refine⟨a.set _ y,p/4294967296,f,_,_,_,_,_,_,_,o.set (by omega) (by omega),by omega,by omega,λk h3 h4=>?_,?_,rfl⟩;·rw[Hy _ _ (by rw[gb];omega),AAJ (by omega),<-getElem!_pos a _ (by omega)];exact hw k (by omega) h4
  have g1:=ku (B:=4294967296) (v:=y) (l:=a) (i:=j+i) (by omega);rw[fq (by omega),<-Nat.add_assoc,oa];have g2:=zv p 4294967296;grind
 have bh:i=n:=by omega
 subst bh;have M:a[j+i]!<4294967296:=cF G (by omega);obtain⟨df,be⟩:∃df,df=(a[j+i]!+18446744073709551616-c-b)%18446744073709551616:=⟨_,rfl⟩;have N:IntKind.u64.wrap (IntKind.u64.wrap ((a[j+i]!)-c)-b)=df:=by rw[eP,eP];omega
 have w:bin .shr _ (.i .u64 63)=some (.i .u64 ((df/9223372036854775808:Nat))):=ff (by decide);obtain⟨f,af⟩:∃f,f=df/9223372036854775808:=⟨_,rfl⟩;obtain⟨y,hy⟩:∃y,y=df%4294967296:=⟨_,rfl⟩;have P:IntKind.u32.wrap df=y:=by rw[kw,hy]
 rw[<-af]at w;have Q:=o.set (v:=y) (by omega) (by omega);obtain⟨q1,q2⟩:=Q.val ab hz;have q3:=fe (B:=4294967296) e j (by omega);have g1:=ku (B:=4294967296) (v:=y) (l:=a) (i:=j+i) (by omega);have g3:4294967296^(j+i)=4294967296^j*4294967296^i:=ABN ..;have S:0<4294967296^j:=yy (by omega);rcases lu a[j+i]! (c+b)with hq|hq
 ·have bj:df=a[j+i]!+18446744073709551616-c-b:=by omega
  have bk:f=1:=by omega
  have cf:¬((1:Int)=0):=by omega
  rw[bk]at w;have key:y+c+b=a[j+i]!+4294967296:=by omega
  have t1:vl 4294967296 (a.set (j+i) y)+4294967296^j*(d*vl 4294967296 (vs.take i))=vl 4294967296 e+4294967296^j*4294967296^i*4294967296:=by grind
  simp(disch:=omega)only[go_sem,simprocAttr,OF,sm,dH,u32,bW,q,N,w,P,gH];obtain⟨E,bl⟩:∃E,E=a.set (j+i) y:=⟨_,rfl⟩;rw[<-bl]at Q t1 q1 q2⊢;refine⟨⟨by omega,by omega⟩,by omega,⟨by omega,by omega⟩,by omega,ak.up (axU e E vs j i x d m I J L) i ⟨E,0,_,_,_,_,_,_,_,_,_,_,_,_,_,_,_,_,_,_,_,_,Q,by omega,λ_ _ _=>rfl,by simp[vl],rfl⟩ ?_⟩;rintro k s hk⟨a,W,b3,ci,cj,ck,cl,b9,cn,co,cp,cq,cr,cs,ct,cu,cv,cw,cx,cy,cz,c0,o,bm,hw,az,rfl⟩;have q:=o.len;rw[hN]at q;have G:=o.lm;by_cases a7:k<i
  ·have c1:(k:Int)<i:=by omega
   have ax:vs[k]!<4294967296:=cF Y (by omega);have M:a[j+k]!<4294967296:=cF G (by omega);have es:=λ{H K}=>axQ (H:=H) (K:=K) M ax bm;obtain⟨s,hs⟩:∃s,s=a[j+k]!+vs[k]!+W:=⟨_,rfl⟩;rw[<-hs]at es;simp(disch:=omega)only[go_sem,abD,dH,c1,u32,wr,q,Z,es,gH];repeat' first|(refine And.intro ?_ ?_)|intro _
   all_goals try omega
   refine⟨a.set _ _,s/4294967296,_,_,_,_,_,_,_,_,_,_,_,_,_,_,_,_,_,_,_,_,o.set (by omega) (by omega),by omega,λbo h3 h4=>?_,?_,rfl⟩;·rw[Hy _ _ (by rw[gb];omega),AAJ (by omega),<-getElem!_pos a _ (by omega)];exact hw bo (by omega) h4
   have g1:=ku (B:=4294967296) (v:=s%4294967296) (l:=a) (i:=j+k) (by omega);rw[fq (by omega),<-Nat.add_assoc,oa];have g2:=zv s 4294967296;have g3:4294967296^(j+k)=4294967296^j*4294967296^k:=ABN ..;grind
  have bp:k=i:=by omega
  subst bp;have M:a[j+k]!<4294967296:=cF G (by omega);obtain⟨s,hs⟩:∃s,s=a[j+k]!+W:=⟨_,rfl⟩;obtain⟨z,c2⟩:∃z,z=s%4294967296:=⟨_,rfl⟩;have e9:IntKind.u32.wrap ((a[j+k]!)+W)=z:=by rw[PE];omega
  have X:=o.set (v:=z) (by omega) (by omega);obtain⟨p1,p2⟩:=X.val ab hz;have f1:=ku (B:=4294967296) (v:=z) (l:=a) (i:=j+k) (by omega);obtain⟨A,he,c4⟩:∃A,z+4294967296*A=s/\A<=1:=⟨s/4294967296,by omega,by omega⟩;obtain⟨F,a2⟩:∃F,F=a.set (j+k) z:=⟨_,rfl⟩;rw[<-a2]at X p1 p2 f1;obtain⟨V,hV⟩:∃V,V=vl 4294967296 (vs.take k):=⟨_,rfl⟩;obtain⟨U,a3⟩:∃U,U=vl 4294967296 (e.drop j):=⟨_,rfl⟩;rw[<-hV]at hU h1 h2 t1;rw[<-a3]at h1 h2 q3;have c5:d≠0:=by rintro rfl;rw[AB7,nu,l4,q1,q3]at t1;have:vl 4294967296 (E.drop j)=U+4294967296^(k+1):=AAe S (by rw[oa];grind);omega
  obtain⟨t,rfl⟩:∃t,d=t+1:=⟨d-1,by omega⟩;rw[ABo]at h2;rw[g3]at f1;rw[g3,<-hV]at az;have t2:=axV f1 az t1 (show z+4294967296*A=a[j+k]!+W by omega);have t3:vl 4294967296 (F.drop j)+4294967296^(k+1)*A+t*V=U+4294967296^(k+1):=AAe S (by rw[oa];grind);have t4:vl 4294967296 (E.drop j)+(t+1)*V=U+4294967296^(k+1):=AAe S (by rw[oa];grind);have bt:A=1:=by
   rcases lu A 1 with c|c;·rw[show A=0 by omega,nu]at t3;omega
   omega
  subst bt;have t5:vl 4294967296 (F.drop j)+t*V=U:=by omega
  have t6:(t+1)*V=t*V+V:=ABW ..;have t7:vl 4294967296 (F.drop j)<V:=by omega
  have t8:=ACW (by omega) (by omega);have bx:IntKind.u64.wrap ((t+1)-1)=t:=by rw[eP];omega
  rw[<-hV,<-a3,t8];simp(disch:=omega)only[go_sem,abD,sm,dH,u32,lU,q,e9,bx,gH];repeat' first|(refine And.intro ?_ ?_)|intro _
  all_goals try omega
  refine⟨F,by rw[X.len,hN],X.lm,?_,t7,by rw[a2]⟩;rw[p1,q3,<-t5];grind
 have bj:df=a[j+i]!-c-b:=by omega
 have bz:f=0:=by omega
 rw[bz]at w;have key:y+c+b=a[j+i]!:=by omega
 have t1:vl 4294967296 (a.set (j+i) y)+4294967296^j*(d*vl 4294967296 (vs.take i))=vl 4294967296 e:=by grind
 have t2:vl 4294967296 ((a.set (j+i) y).drop j)+d*vl 4294967296 (vs.take i)=vl 4294967296 (e.drop j):=AAe S (by grind);have t3:(d+1)*vl 4294967296 _=d*vl 4294967296 (vs.take i)+vl 4294967296 _:=ABW ..;have t4:vl 4294967296 (e.drop j)/vl 4294967296 (vs.take i)=d:=ACW (by omega) (by omega);rw[t4];simp(disch:=omega)only[go_sem,OF,sm,dH,u32,bW,lU,q,N,w,P,gH];exact⟨⟨by omega,by omega⟩,by omega,⟨by omega,by omega⟩,by omega,a.set _ y,by rw[gb,q],Q.lm,t1,by omega,rfl⟩
def axX{vs:List Nat}{j n:Nat}{z:Bool}{A:an}(g:lm 4294967296 e)(h:lm 4294967296 vs)(t:2<=n)(c:vs.length=n+1)(f:e.length=x)(u:j+n+1<=e.length)(B:e.length<2000000000)(S:2147483648<=vs[n-1]!)(v:vl 4294967296 (e.drop (j+1))<vl 4294967296 (vs.take n)):ac VS 284 [.mu 1 x j (n+1),.mu 0 (n+1) 0 n] (dH e vs l m z A) (λr=>∃k,k.length=x/\lm 4294967296 k/\vl 4294967296 k+4294967296^j*(vl 4294967296 (e.drop j)/vl 4294967296 (vs.take n)*vl 4294967296 (vs.take n))=vl 4294967296 e/\vl 4294967296 (k.drop j)<vl 4294967296 (vs.take n)/\r=.ret (.i .u32 ((vl 4294967296 (e.drop j)/vl 4294967296 (vs.take n):Nat):Int)) (dH k vs l m z A)):=by
 have a:=kn0 g h t c u S v;have U:=cF g (i:=j+n) (by omega);have V:=a.b1;have W:=a.b0;have af:=cF h (i:=n-1) (by omega);have ag:=a.b2;have C:=gI.start a;have i1:((n:Int)-1).toNat=n-1:=by omega
 have M:((n:Int)-2).toNat=n-2:=by omega
 have X:j+(n-1)=j+n-1:=by omega
 have N:j+(n-2)=j+n-2:=by omega
 have Y:¬((vs[n-1]!:Int)=0):=by omega
 have Z:e[j+n]!*4294967296+e[j+n-1]! =e[j+n-1]!+4294967296*e[j+n]!:=by omega
 rw[Z]at C;obtain⟨w,P⟩:∃w,w=e[j+n-1]!+4294967296*e[j+n]!:=⟨_,rfl⟩;have Q:=zU U V;rw[<-P]at Q;have E:w/vs[n-1]!<8589934592:=by rw[AAD (by omega)];omega
 have hr:=mm w (show 0<vs[n-1]! by omega);rw[<-P]at C;refine .body alI rfl rfl ?_;rw[abE];show ak VS (.seq _ (.seq _ (.seq _ (.seq _ (.seq _ (.seq _ Pk)))))) _ _;simp(disch:=omega)only[go_sem,dH,c,f,u32,wr,bW,X,xb,Q,EP,xn,Y];refine⟨⟨by omega,by omega⟩,by omega,⟨by omega,by omega⟩,by omega,⟨by omega,by omega⟩,?_⟩;refine ak.loop (axS e vs j n x l m z A) _ ⟨_,_,_,_,by omega,E,C,rfl⟩ ?_;rintro d s⟨r,a3,a4,a9,hr,am,hi,rfl⟩;have F:=zU hr W;by_cases aa:4294967296<=d
 ·have y:(4294967296:Int)<=d:=by omega
  obtain⟨ab,b⟩:=gI.less a hi (.inl aa);have G:IntKind.u64.wrap (d-1)=((d-1:Nat)):=by rw[eP];omega
  have H:IntKind.u64.wrap (r+(vs[n-1]!))=((r+vs[n-1]!:Nat)):=by rw[eP];omega
  obtain⟨o,ad⟩:∃o,o=r+vs[n-1]!:=⟨_,rfl⟩;simp only[go_sem,simprocAttr,OE,dH,y,G,H];refine⟨λI=>?_,λI=>⟨d-1,by omega,_,_,_,_,by omega,by omega,b,rfl⟩⟩;obtain⟨g1,J⟩:=gI.brk a b (by omega);exact Pm g h t c f u B v g1 b.hi (gI.stop a b g1 J)
 have y:¬(4294967296:Int)<=d:=by omega
 have hm:d*vs[n-2]!<=4294967295*4294967295:=p5 (by omega) (by omega);have K:IntKind.u64.wrap (d*(vs[n-2]!))=((d*vs[n-2]!:Nat)):=by exact bW (by omega)
 obtain⟨p,hp⟩:∃p,p=d*vs[n-2]!:=⟨_,rfl⟩;obtain⟨q,E⟩:∃q,q=e[j+n-2]!+4294967296*r:=⟨_,rfl⟩;rw[<-hp]at K;rw[<-E]at F;by_cases ap:q<p
 ·have L:(q:Int)<p:=by omega
  obtain⟨ab,b⟩:=gI.less a hi (.inr (by omega));have G:IntKind.u64.wrap (d-1)=((d-1:Nat)):=by rw[eP];omega
  have H:IntKind.u64.wrap (r+(vs[n-1]!))=((r+vs[n-1]!:Nat)):=by rw[eP];omega
  obtain⟨o,ad⟩:∃o,o=r+vs[n-1]!:=⟨_,rfl⟩;simp(disch:=omega)only[go_sem,simprocAttr,OE,dH,c,f,u32,wr,bW,M,N,xb,y,L,K,G,H,F];refine⟨⟨by omega,by omega⟩,⟨by omega,by omega⟩,by omega,λI=>?_,λI=>⟨d-1,by omega,_,_,_,_,by omega,by omega,b,rfl⟩⟩;obtain⟨g1,J⟩:=gI.brk a b (by omega);exact Pm g h t c f u B v g1 b.hi (gI.stop a b g1 J)
 have L:¬(q:Int)<p:=by omega
 simp(disch:=omega)only[go_sem,OE,dH,c,f,u32,wr,bW,M,N,xb,y,L,K,F];refine⟨⟨by omega,by omega⟩,⟨by omega,by omega⟩,by omega,?_⟩;exact Pm g h t c f u B v (by omega) hi.hi (gI.stop a hi (by omega) (by omega))
end
section
open Go.Dm
set_option maxRecDepth 10000
def pi:List UInt8:=[0,1,2,2,3,3,3,3,4,4,4,4,4,4,4,4,5,5,5,5,5,5,5,5,5,5,5,5,5,5,5,5,6,6,6,6,6,6,6,6,6,6,6,6,6,6,6,6,6,6,6,6,6,6,6,6,6,6,6,6,6,6,6,6,7,7,7,7,7,7,7,7,7,7,7,7,7,7,7,7,7,7,7,7,7,7,7,7,7,7,7,7,7,7,7,7,7,7,7,7,7,7,7,7,7,7,7,7,7,7,7,7,7,7,7,7,7,7,7,7,7,7,7,7,7,7,7,7,8,8,8,8,8,8,8,8,8,8,8,8,8,8,8,8,8,8,8,8,8,8,8,8,8,8,8,8,8,8,8,8,8,8,8,8,8,8,8,8,8,8,8,8,8,8,8,8,8,8,8,8,8,8,8,8,8,8,8,8,8,8,8,8,8,8,8,8,8,8,8,8,8,8,8,8,8,8,8,8,8,8,8,8,8,8,8,8,8,8,8,8,8,8,8,8,8,8,8,8,8,8,8,8,8,8,8,8,8,8,8,8,8,8,8,8,8,8,8,8,8,8,8,8,8,8,8,8]
def Ev:([0,1,2,2,3,3,3,3,4,4,4,4,4,4,4,4,5,5,5,5,5,5,5,5,5,5,5,5,5,5,5,5,6,6,6,6,6,6,6,6,6,6,6,6,6,6,6,6,6,6,6,6,6,6,6,6,6,6,6,6,6,6,6,6,7,7,7,7,7,7,7,7,7,7,7,7,7,7,7,7,7,7,7,7,7,7,7,7,7,7,7,7,7,7,7,7,7,7,7,7,7,7,7,7,7,7,7,7,7,7,7,7,7,7,7,7,7,7,7,7,7,7,7,7,7,7,7,7,8,8,8,8,8,8,8,8,8,8,8,8,8,8,8,8,8,8,8,8,8,8,8,8,8,8,8,8,8,8,8,8,8,8,8,8,8,8,8,8,8,8,8,8,8,8,8,8,8,8,8,8,8,8,8,8,8,8,8,8,8,8,8,8,8,8,8,8,8,8,8,8,8,8,8,8,8,8,8,8,8,8,8,8,8,8,8,8,8,8,8,8,8,8,8,8,8,8,8,8,8,8,8,8,8,8,8,8,8,8,8,8,8,8,8,8,8,8,8,8,8,8,8,8,8,8,8,8]:List UInt8)=pi:=rfl
def axY:∀x:Fin 256,x.val<2^pi[x.val]!.toNat/\(x.val≠0->2^pi[x.val]!.toNat<=2*x.val)/\pi[x.val]!.toNat<=8:=by decide+kernel
def Ew:pi.length=256:=by decide
def axZ{x:Nat}(p:x<4294967296)(q:x≠0):∃n:Nat,ai VS 143 [.i .u32 (x:Int)] (.i .i64 (n:Int))/\x<2^n/\2^n<=2*x/\n<=32:=by
 have e:∀y:Nat,bin .shr (.i .u32 (y:Int)) (.i .u64 16)=some (.i .u32 ((y/65536:Nat):Int)):=λy=>ff (s:=16) (by decide);have f:∀y:Nat,bin .shr (.i .u32 (y:Int)) (.i .u64 8)=some (.i .u32 ((y/256:Nat):Int)):=λy=>ff (s:=8) (by decide);have key:∀(y s:Nat),y<256->y≠0->s<=24->y=x/2^s->x<2^(s+pi[y]!.toNat)/\2^(s+pi[y]!.toNat)<=2*x/\s+pi[y]!.toNat<=32:=λy s g j hs k=>by obtain⟨g1,a,b⟩:=axY ⟨y,g⟩;simp only at g1 a b;have l:0<2^s:=yy (by omega);have m:=AAT x (2^s);have r:=mm x l;rw[<-k]at m;have t:=gp (2^s) (a j);have u:2^s*(y+1)<=2^s*2^pi[y]!.toNat:=gp _ g1;rw[ABN];refine⟨by grind,by grind,by omega⟩
 have d:∀y:Nat,y<256->IntKind.u8.wrap (y:Int)=(y:Int):=λy h=>w8 h;by_cases v:65536<=x
 ·have d1:(65536:Int)<=(x:Int):=by omega
  by_cases o:256<=x/65536
  ·have d2:(256:Int)<=((x/65536:Nat):Int):=by omega
   obtain⟨g1,a,b⟩:=key (x/65536/256) 24 (by omega) (by omega) (by omega) (by omega);refine⟨_,?_,g1,a,b⟩;have c:=d (x/65536/256) (by omega);refine .body (vf:=uc) yv rfl ?_;simp(disch:=omega)only[go_sem,simprocAttr,DN,e,f,d1,d2,c,Ev,Ew];refine⟨⟨by omega,by omega⟩,?_⟩;simp(disch:=omega)only[wr]
  have d2:¬(256:Int)<=((x/65536:Nat):Int):=by omega
  obtain⟨g1,a,b⟩:=key (x/65536) 16 (by omega) (by omega) (by omega) (by omega);refine⟨_,?_,g1,a,b⟩;have c:=d (x/65536) (by omega);refine .body (vf:=uc) yv rfl ?_;simp(disch:=omega)only[go_sem,simprocAttr,DN,e,d1,d2,c,Ev,Ew];refine⟨⟨by omega,by omega⟩,?_⟩;simp(disch:=omega)only[wr]
 have d1:¬(65536:Int)<=(x:Int):=by omega
 by_cases o:256<=x
 ·have d2:(256:Int)<=(x:Int):=by omega
  obtain⟨g1,a,b⟩:=key (x/256) 8 (by omega) (by omega) (by omega) (by omega);refine⟨_,?_,g1,a,b⟩;have c:=d (x/256) (by omega);refine .body (vf:=uc) yv rfl ?_;simp(disch:=omega)only[go_sem,simprocAttr,DN,f,d1,d2,c,Ev,Ew];refine⟨⟨by omega,by omega⟩,?_⟩;simp(disch:=omega)only[wr]
 have d2:¬(256:Int)<=(x:Int):=by omega
 obtain⟨g1,a,b⟩:=key (x) 0 (by omega) (by omega) (by omega) (by omega);refine⟨_,?_,g1,a,b⟩;have c:=d (x) (by omega);refine .body (vf:=uc) yv rfl ?_;simp(disch:=omega)only[go_sem,simprocAttr,DN,d1,d2,c,Ev,Ew];refine⟨⟨by omega,by omega⟩,?_⟩;simp(disch:=omega)only[wr]
def aci{x:Nat}(a:x<4294967296)(b:x≠0):∃s:Nat,ai VS 282 [.i .u32 (x:Int)] (.i .i64 (s:Int))/\s<32/\2147483648<=x*2^s/\x*2^s<4294967296:=by
 obtain⟨n,c,g1,d,h⟩:=axZ a b;have j:1<=n:=by
  rcases n with _|n;·omega
  omega
 have e:2^n*2^(32-n)=4294967296:=by rw[<-Nat.pow_add,show n+(32-n)=32 by omega]
 have k:0<2^(32-n):=yy (by omega);have l:=M4 (2^(32-n)) d;have m:=M4 (2^(32-n)) g1;have o:2*x*2^(32-n)=2*(x*2^(32-n)):=by grind
 have p:x.succ*2^(32-n)=x*2^(32-n)+2^(32-n):=ABW ..;refine⟨32-n,?_,by omega,by omega,by omega⟩;have f:=λ{H K}=>c.c (H:=H) (K:=K) yv rfl rfl (.inl rfl);have g:32-n=((32-n:Nat):Int):=by omega
 refine .body Hb rfl ?_;simp(disch:=omega)[go_sem,awE,f,wr,g]
structure ax0(l:List Nat)(x:D)(s:Nat)(i:Nat)(st:St):Prop where h:∃ws a3 a7 a9 a10,ws.length=l.length+1/\lm 4294967296 ws/\vl 4294967296 ws=vl 4294967296 (l.take i)*2^s/\st=⟨[x,.i .i64 (s:Int),.nil,a3,.i .i64 i,.i .i64 l.length,x,a7,.mu 0 (l.length+1) 0 (l.length+1),a9,a10],[.ar 1 (ws.map u32) (some (l.length+1)) true false]⟩
def acj{l:List Nat}{x:D}{s:Nat}(e:Sl 1 (l.map u32) x)(f:lm 4294967296 l)(F:l.length<1000000000)(hs:s<32):∃a,a.length=l.length+1/\lm 4294967296 a/\vl 4294967296 a=vl 4294967296 l*2^s/\ai VS 283 [x,.i .i64 (s:Int)] (.ow 1 (a.map u32)):=by
 obtain⟨d,G,a,H,I,J,K⟩:∃d,ai VS 283 [x,.i .i64 s] d/\∃a,a.length=l.length+1/\lm 4294967296 a/\vl 4294967296 a=vl 4294967296 l*2^s/\d=.ow 1 (a.map u32):=by
  refine aH.ex (.body Up rfl ?_);simp(disch:=omega)only[go_sem,awF,e.n,wr,uC];refine⟨⟨⟨by omega,by omega⟩,by omega,by omega⟩,ak.up (ax0 l x s) l.length ⟨_,_,_,_,_,by simp,nX (by omega),by grind[xk,vl],rfl⟩ ?_⟩;rintro i L hi⟨a,M,N,P,Q,h,o,p,rfl⟩;by_cases j:i<l.length
  ·have q:(i:Int)<(l.length:Int):=by omega
   have S:=cF f j;have U:0<2^s:=yy (by omega);have r:2^(32-s)*2^s=4294967296:=by rw[<-Nat.pow_add,show 32-s+s=32 by omega]
   have t:2^s<=2^31:=m4 (by omega) (by omega);have k:vl 4294967296 a<4294967296^i*2^s:=by have g:=dR aB (gj f i);simp_all
   have u:=uv aB k (by omega);have V:a[i+1]! =0:=by
    have:vl 4294967296 a<4294967296^(i+1)*1:=by refine hI k ?_;rw[oa,AAQ];exact gp _ (by omega)
    have:=uv aB this (by omega);omega
   have W:l[i]!*2^s<=4294967295*2147483648:=p5 (by omega) t;obtain⟨b,m⟩:∃b,b=l[i]!*2^s:=⟨_,rfl⟩;have w:bin .shl (.i .u64 l[i]!) (.i .i64 s)=some (.i .u64 b):=by rw[uB (by show s<64;omega),bW (by omega),m]
   have y:bin .shr _ (.i .u64 32)=some (.i .u64 ((b/4294967296:Nat))):=ff (by decide);have z:b%4294967296=(l[i]!%2^(32-s))*2^s:=by rw[m,<-r,Nat.mul_mod_mul_right]
   have X:b%4294967296+2^s<=4294967296:=by have:=mm l[i]! (show 0<2^(32-s)from yy (by omega));have:=M4 (2^s) this;grind
   have n:bin .or (.i .u32 a[i]!) (.i .u32 ((b%4294967296:Nat)))=some (.i .u32 ((a[i]!+b%4294967296:Nat))):=by rw[PH (by omega) (by omega),z,ER u]
   obtain⟨c,A⟩:∃c,c=a[i]!+b%4294967296:=⟨_,rfl⟩;rw[<-A]at n;simp(disch:=omega)only[go_sem,abz,e.q,q,u32,wr,h,bW,w,y,n,kw,gH];repeat' first|(refine And.intro ?_ ?_)|intro _
   all_goals try omega
   refine⟨(a.set i c).set _ _,_,_,_,_,by grind,gG (gG o (by omega)) (by omega),?_,rfl⟩;have g1:=ku (B:=4294967296) (l:=a) (i:=i) (v:=c) (by omega);have Y:=ku (B:=4294967296) (l:=a.set i c) (i:=i+1) (v:=b/4294967296%4294967296) (by grind);have Z:(a.set i c)[i+1]! =a[i+1]!:=by grind
   rw[fq j,k6,<-p];have g4:=zv b 4294967296;have g5:b/4294967296%4294967296=b/4294967296:=by omega
   grind
  have C:i=l.length:=by omega
  subst C;have E:(a.map u32).take (l.length+1)=a.map u32:=E2 (by grind);simp only[go_sem,abz,sm,fN,h,E];grind
 grind
end
section
open Go.Dm
set_option maxRecDepth 10000
def ul{l:List Nat}{x:D}(h:Sl 1 (l.map u32) x)(a:l≠[]):x=.im 1 (l.map u32):=by cases h<;>simp_all
def ack{l:List Nat}{s:Nat}{a:List Nat}(h:ai VS 283 [.im 1 (l.map u32),.i .i64 (s:Int)] (.ow 1 (a.map u32))){H:ab}{K:CR->Prop}:ac VS 283 [.im 1 (l.map u32),.i .i64 (s:Int)] H K↔K (.ret (.mu H.length a.length 0 a.length) (H++[.ar 1 (a.map u32) none true false])):=by
 rw[eU Up rfl h (mj (by simp[D.plain,D.flat]))];have:eT Eg.own (.ow 1 (a.map u32)) H=(.mu H.length a.length 0 a.length,H++[.ar 1 (a.map u32) none true false]):=by show(D.mu _ _ 0 _,_)=_;grind
 grind
structure ax1(A V:Nat)(vs:List Nat)(n N Q:Nat)(x y:D)(sh:D)(k:Nat)(s:St):Prop where h:∃us qs a4 a5 a6,k<=Q/\us.length=N/\lm 4294967296 us/\qs.length=Q/\lm 4294967296 qs/\vl 4294967296 (us.drop k)<V/\vl 4294967296 us+4294967296^k*(V*vl 4294967296 (qs.drop k))=A/\s=⟨[x,y,.nil,.nil,a4,a5,a6,.u,.u,.u,.i .i64 n,sh,.mu 2 Q 0 Q,.i .i64 ((k:Int)-1),.mu 1 N 0 N,.mu 0 (n+1) 0 n,.u,.u,.u],dH us vs none none false (.ar 1 (qs.map u32) (some Q) true false)⟩
structure ax2(us vs qs:List Nat)(R:Nat)(n N Q:Nat)(x y:D)(sh:D)(i:Nat)(s:St):Prop where h:∃ws a4 a5 a6 a7 a13 a18,ws.length=N/\lm 4294967296 ws/\vl 4294967296 (ws.take i)=R%4294967296^i/\(∀k,i<=k->k<N->ws[k]! =us[k]!)/\s=⟨[x,y,.nil,.nil,a4,a5,a6,a7,.u,.u,.i .i64 n,sh,.mu 2 Q 0 Q,a13,.mu 1 N 0 N,.mu 0 (n+1) 0 n,.i .i64 i,.i .i64 n,a18],dH ws vs none none false (.ar 1 (qs.map u32) (some Q) true false)⟩
def ax3{a:List Nat}{s i:Nat}(hs:s<32)(c:lm 4294967296 a)(hi:i+1<a.length):((a[i]!+4294967296*a[i+1]!)/2^s)%4294967296=vl 4294967296 a/2^s/4294967296^i%4294967296:=by
 have h:2^s*2^(32-s)=4294967296:=by rw[<-Nat.pow_add,show s+(32-s)=32 by omega]
 have d:0<2^s:=yy (by omega);have g1:=fe (B:=4294967296) a i (by omega);rw[dJ (by omega),dJ hi]at g1;have b:=dR aB (gj c i);rw[il,AAA (by omega)]at b;have e:0<4294967296^i:=yy (by omega);rw[Nat.div_div_eq_div_mul,AA0 (2^s),<-Nat.div_div_eq_div_mul];generalize vl 4294967296 (a.drop _)=X at g1;have f:vl 4294967296 a/4294967296^i=a[i]!+4294967296*(a[i+1]!+4294967296*X):=by rw[g1,AAR _ _ e,AAW b,lB]
 have g:a[i]!+4294967296*(a[i+1]!+4294967296*X)=a[i]!+4294967296*a[i+1]!+2^s*(4294967296*(2^(32-s)*X)):=by grind
 rw[f,g,AAR _ _ d,ABC]
def Pn{a b:Nat}{x y:D}(G:br a x)(S:br b y)(hb:b≠0)(ha:(ds 4294967296 a).length<1000000000)(ci:(ds 4294967296 b).length<1000000000):∃d e,ai VS 262 [x,y] (.tu [d,e])/\br (a/b) d/\br (a%b) e:=by
 obtain⟨U,hD,d,e,rfl,j,h3⟩:∃U,ai VS 262 [x,y] U/\∃d e,U=.tu [d,e]/\br (a/b) d/\br (a%b) e:=by
  have q:=G.sl;have j:=S.sl;have M:=λ{H K}=>(Et G S (by omega) (by omega)).c (H:=H) (K:=K) yx rfl (by simp[G.pl,S.pl]) (.inl rfl);refine aH.ex (.body BV rfl ?_);by_cases o:a<b
  ·simp[go_sem,simprocAttr,Ok,M,zS o];rw[AAW o,m0 o];have w0:br 0 .nil:=⟨by rw[bE];exact .nil rfl⟩;by_cases h0:a=0;·subst h0;rw[bE]at q;obtain⟨z0,hz,hc⟩:=ach q;have I:=λm H=>ah hz.flat m H;simp only[go_sem,hc,I];exact⟨_,_,rfl,w0,⟨by grind[bE]⟩⟩
   have ay:=lT aB h0;rw[ul q ay];have bk:((ds 4294967296 a).map u32).take (ds 4294967296 a).length=(ds 4294967296 a).map u32:=E2 (by grind);simp only[go_sem,acg ay ha,bk];exact⟨_,_,rfl,w0,⟨.im⟩⟩
  have hs:¬iH a b<0:=by grind[zT,Es]
  by_cases bl:(ds 4294967296 b).length=1
  ·have az:b<4294967296:=by have:=(jB aB (n:=b) (k:=1)).1 (by omega);omega
   have W:ds 4294967296 b=[b]:=by simp_all[gF,aB,bE]
   rw[W]at j;obtain⟨d,Y,J⟩:=axO G (show 0<b by omega) az ha;have e2:=λ{H K}=>Y.c (H:=H) (K:=K) Uo rfl (by simp[G.pl,aZ]) (.inl rfl);have hr:a%b<4294967296:=Nat.lt_trans (mm _ (by omega)) az;obtain⟨r,bm⟩:∃r,r=a%b:=⟨_,rfl⟩;rw[<-bm]at hr e2⊢;obtain⟨e,Z,z⟩:=mO (l:=[r]) .im (jA.2 ⟨hr,ie⟩) (by simp);rw[show vl 4294967296 [r]=r by simp[vl]]at z;have e3:=λ{H K}=>eU (args:=[.sv 1 [[.i .u32 r]]]) (H:=H) (K:=K) lJ rfl Z (by constructor<;>grind);have I:=λm H=>ah J.sl.flat m H;have eg:=λm H=>ah z.sl.flat m H;have c0:[b][0]! =b:=rfl;simp only[go_sem,simprocAttr,Ok,M,hs,j.n,j.q,c0,u32,e2,e3,Ee,I,eg];grind
  have a1:¬((ds 4294967296 b).length:Int)=1:=by omega
  have bp:(ds 4294967296 b).length<=(ds 4294967296 a).length:=fV aB (by omega);have N:=lT aB hb;have ad:ds 4294967296 a≠[]:=lT aB (by omega);have ck:=ph aB hb;have m1:=co aB a;have m2:=co aB b;have q1:=bF aB a;have q2:=bF aB b;have tb:=uw aB b N;generalize ds 4294967296 a=l at*;generalize ds 4294967296 b=m at*;obtain⟨n,hn⟩:∃n,n=m.length:=⟨_,rfl⟩;rw[ul q ad,ul j N];rw[ul q ad,ul j N]at M;rw[<-hn]at tb bl a1 bp;have bq:=cF m2 (i:=n-1) (by omega);obtain⟨s,bs,aj,bt,cl⟩:=aci bq tb;have e3:=λ{H K}=>bs.c (H:=H) (K:=K) Hb rfl rfl (.inl rfl);obtain⟨vs,al,a5,a6,a7⟩:=acj j m2 (by omega) aj;obtain⟨f,A,C,a8,a9⟩:=acj q m1 (by omega) aj;rw[ul q ad]at a9;rw[ul j N]at a7;have e4:=λ{H K}=>ack a7 (H:=H) (K:=K);have e5:=λ{H K}=>ack a9 (H:=H) (K:=K);rw[<-hn]at al;rw[A]at e5;rw[q2]at a6;rw[q1]at a8;have t:0<2^s:=yy (by omega);have bv:b<4294967296^(n-1)*(m[n-1]!+1):=by have g1:=fe (B:=4294967296) m (n-1) (by omega);rw[dJ (by omega),T5 (by omega),vl,nu,l4,q2]at g1;have h:=dR aB (gj m2 (n-1));rw[il,AAA (by omega)]at h;rw[ABA,AAQ];omega
  have bw:4294967296^(n-1)*m[n-1]!<=b:=by have g1:=fe (B:=4294967296) m (n-1) (by omega);rw[dJ (by omega),T5 (by omega),vl,nu,l4,q2]at g1;omega
  have cm:4294967296^n=4294967296^(n-1)*4294967296:=by rw[<-Nat.pow_succ];congr 1;omega
  have cn:b*2^s<4294967296^n:=by
   have bx:2^(32-s)*2^s=4294967296:=by rw[<-Nat.pow_add,show 32-s+s=32 by omega]
   have g1:m[n-1]!<2^(32-s):=AA9 (a:=2^s) (by omega);have h:=AA3 bv t;have L:4294967296^(n-1)*(m[n-1]!+1)*2^s<=4294967296^(n-1)*2^(32-s)*2^s:=M4 _ (gp _ g1);rw[xt,xt,bx]at L;rw[xt]at h;omega
  have am:=by
   have g1:=fe (B:=4294967296) vs n (by omega);have h:vl 4294967296 (vs.drop n)=0:=by
    rcases sn (vl 4294967296 (vs.drop n))with c|c;·exact c
    have:=gp (4294967296^n) c;omega
   rw[h,nu,l4,a6]at g1;exact g1.symm
  have bz:2147483648<=vs[n-1]!:=by
   have g1:=fq (B:=4294967296) (l:=vs) (i:=n-1) (by omega);rw[show n-1+1=n by omega,am]at g1;have h:=dR aB (gj a5 (n-1));rw[il,AAA (by omega)]at h;have L:=M4 (2^s) bw;have g4:4294967296^(n-1)*2147483648<=4294967296^(n-1)*(m[n-1]!*2^s):=gp _ bt;rw[xt]at L;have g5:4294967296^(n-1)*2147483648<4294967296^(n-1)*(vs[n-1]!+1):=by rw[ABA,AAQ];omega
   have:=AAd g5;omega
  obtain⟨Q,hQ⟩:∃Q,Q=l.length-n+1:=⟨_,rfl⟩;have b0:vl 4294967296 (f.drop Q)<b*2^s:=by
   have g1:=fe (B:=4294967296) f Q (by omega);have h:a<4294967296^l.length:=by rw[<-q1];exact dR aB m1
   have L:=AA3 h t;have g4:4294967296^l.length=4294967296^Q*4294967296^(n-1):=by rw[<-Nat.pow_add];congr 1;omega
   have g5:4294967296^Q*vl 4294967296 (f.drop Q)<4294967296^Q*(4294967296^(n-1)*2^s):=by rw[g4,xt]at L;omega
   have g6:=AAd g5;have g7:4294967296^(n-1)*1<=4294967296^(n-1)*m[n-1]!:=gp _ (by omega);have g8:4294967296^(n-1)*2^s<=b*2^s:=M4 _ (by omega);omega
  have b1:l.length-(n:Int)+1=Q:=by omega
  have ct:((n:Int)-1).toNat=n-1:=by omega
  have cu:=Sl.im (w:=1) (rows:=l.map u32);have b2:=Sl.im (w:=1) (rows:=m.map u32);simp(disch:=omega)only[go_sem,simprocAttr,Ok,M,hs,b2.q,<-hn,a1,u32,wr,e3,e4,e5,b1,uC,al];refine⟨⟨by omega,by omega⟩,⟨by omega,by omega⟩,⟨⟨by omega,by omega⟩,by omega,by omega⟩,?_⟩;refine ak.loop (ax1 (a*2^s) _ vs n _ Q _ _ _) Q ⟨f,_,_,_,_,G1 _,A,C,by simp,nX (by omega),b0,by rw[T5 (by simp),a8];simp[vl],rfl⟩ ?_;rintro k st⟨f,p,a4,b5,b6,hk,A,C,ao,bc,o,P,rfl⟩;rcases k with _|k
  ·rw[Nat.one_mul,AAN]at P;rw[AAN]at o;have b7:0<b*2^s:=ACL (by omega) t;have hq:vl 4294967296 p=a/b:=by rw[<-Nat.mul_div_mul_right a b t,<-P,AAR _ _ b7,AAW o,lB]
   have hr:vl 4294967296 f/2^s=a%b:=by
    have g1:vl 4294967296 f=(a%b)*2^s:=by rw[<-Nat.mul_mod_mul_right,<-P,ABC,m0 o]
    rw[g1,Nat.mul_div_cancel _ t]
   obtain⟨R,hR⟩:∃R,R=a%b:=⟨_,rfl⟩;have b9:R<4294967296^n:=by have:=mm a (show 0<b by omega);have:b*1<=b*2^s:=gp _ t;omega
   rw[<-hR]at hr⊢;simp[go_sem,simprocAttr,aba];refine ak.up (ax2 f vs p R n _ Q _ _ _) n ⟨f,_,_,_,_,_,_,A,C,by rw[Nat.mod_one];rfl,λ_ _ _=>rfl,rfl⟩ ?_;rintro i st hi⟨g,a4,b5,b6,cw,cx,cy,E,F,u,hw,rfl⟩;by_cases ca:i<n
   ·have c1:(i:Int)<n:=by omega
    have d0:g[i]!<4294967296:=cF F (by omega);have d1:g[i+1]!<4294967296:=cF F (by omega);have o1:=zU d1 d0;obtain⟨w,be⟩:∃w,w=g[i]!+4294967296*g[i+1]!:=⟨_,rfl⟩;rw[<-be]at o1;have e8:bin .shr (.i .u64 w) (.i .i64 _)=some _:=ff (by show s<64;omega);simp(disch:=omega)only[go_sem,abc,dH,wr,c1,E,u32,bW,xb,o1,e8,kw,gH];obtain⟨v,bf⟩:∃v,v=w/2^s%4294967296:=⟨_,rfl⟩;have cc:v=R/4294967296^i%4294967296:=by rw[bf,be,hw i (G1 _) (by omega),hw _ (by omega) (by omega),ax3 aj C (by omega),hr]
    rw[<-bf];refine⟨⟨by omega,by omega⟩,by omega,⟨by omega,by omega⟩,⟨by omega,by omega⟩,ca,g.set i v,_,_,_,_,_,_,by rw[gb,E],gG F (by omega),?_,λk h3 h4=>?_,rfl⟩;·rw[fq (by rw[gb];omega),AAn (G1 _),Hy _ _ (by rw[gb];omega),AAa,u,cc,Nat.mod_pow_succ]
    rw[Hy _ _ (by rw[gb];omega),AAJ (by omega),<-getElem!_pos g _ (by omega)];exact hw k (by omega) h4
   have ce:i=n:=by omega
   subst ce;rw[m0 b9]at u;obtain⟨dq,Y,J⟩:=mO .im bc (by omega);obtain⟨dr,Z,z⟩:=mO .im (gj F i) (by rw[il];omega);rw[hq]at J;rw[u]at z;have cf:(p.map u32).take Q=p.map u32:=E2 (by rw[T3];omega);have I:=λm H=>ah J.sl.flat m H;have eg:=λm H=>ah z.sl.flat m H;have e6:=λ{K}=>eU (args:=[.mu 2 Q 0 Q]) (H:=[.ar 1 (vs.map u32) none true false,.ar 1 (g.map u32) none true false,.ar 1 (p.map u32) (some Q) true false]) (H1:=[.ar 1 (vs.map u32) none true false,.ar 1 (g.map u32) none true false,.ar 1 (p.map u32) (some Q) true true]) (K:=K) lJ rfl Y (by simp[go_sem,ao,cf]);simp only[go_sem,simprocAttr,abc,dH,sm,e6,Ee,E];refine⟨⟨by omega,by omega⟩,ac.fzr lJ rfl rfl Z ⟨_,by simp(disch:=omega)only[go_sem,simprocAttr,E,ABt,E4];rfl⟩ (λH'=>?_)⟩;simp only[go_sem,I,eg];exact⟨_,_,rfl,J,z⟩
  have e:((k:Int)+1-1)=k:=by omega
  have c1:(0:Int)<=k:=by omega
  have tk:((k:Int)+n+1).toNat-k=n+1:=by omega
  simp(disch:=omega)only[go_sem,aba,dH,wr,e,c1,A,tk];refine⟨⟨by omega,by omega⟩,(axX C a5 (by omega) al A (by omega) (by omega) bz (by rw[am];exact o)).mono ?_⟩;rintro r⟨g,E,F,u,bg,rfl⟩;rw[am]at u bg⊢;obtain⟨dg,hdg⟩:∃dg,dg=vl 4294967296 (f.drop k)/(b*2^s):=⟨_,rfl⟩;have W:dg<4294967296:=by rw[hdg,AAD (ACL (by omega) t),dJ (by omega)];have:=cF C (i:=k) (by omega);omega
  rw[<-hdg]at u⊢;simp(disch:=omega)only[go_sem,dH,wr,ao,u32,gH];repeat' first|(refine And.intro ?_ ?_)|intro _
  all_goals try omega
  refine⟨k,by omega,g,p.set k dg,_,_,_,by omega,E,F,by simp[ao],gG bc W,bg,?_,rfl⟩;rw[dJ (by rw[gb];omega),ABg (show k<k+1 by omega),Hy _ k (by rw[gb];omega),AAa];rw[<-P,<-u,oa];generalize vl 4294967296 (p.drop _)=X;generalize b*2^s=V;grind
 grind
end
section
open Go.Dm
set_option maxRecDepth 10000
structure acl(n y c t:Nat)(x:D)(I:Nat->ab->Prop)(k:Nat)(s:St):Prop where
 le:k<=n
 h:∃a2 a3 H',s=⟨[.yl y,.hp c 0,a2,a3,.i .i64 ((k:Int)-1)],H'⟩/\I k H'
def ax4{l:List Nat}{x:D}(f:Sl 1 (l.map u32) x)(p:l.length<1099511627776){y c:Nat}{I:Nat->ab->Prop}(g:∀i H,I i H->H[c]?=some (.hb 292 [x]))(hs:∀i H,i<l.length->I (i+1) H->ac VS yF [.yl y,.i .u32 (l[i]!:Int)] H (λr=>∃a,r=.ret (.b true) a/\I i a)){H:ab}(j:I l.length H):ac VS 305 [.yl y,.hp c 0] H (λr=>∃d a,r=.ret d a/\I 0 a):=by
 refine .body alO rfl rfl ?_;simp[go_sem,awW,g _ _ j,f.n];refine ak.loop (acl _ y c 261 x I) _ ⟨G1 _,.u,.u,H,by grind[wr],j⟩ ?_;rintro k s⟨q,t,v,a,rfl,m⟩;rcases k with _|k;·simp[go_sem,simprocAttr,abY];grind
 have e:(((k+1:Nat):Int)-1)=k:=by omega
 rw[e];simp only[go_sem,abY,g _ _ m,f.q,u32];refine⟨λ_=>⟨⟨by omega,by omega⟩,(hs k a (by omega) m).mono ?_⟩,λh=>absurd (by omega) h⟩;rintro r⟨n,rfl,o⟩;simp(disch:=omega)only[go_sem,wr];exact⟨k,by omega,by omega,_,_,n,rfl,o⟩
def ax5{x:D}{H:ab}{rows:List (List D)}(a:Sl 1 rows x):ac VS 300 [x] H (λr=>r=.ret (.fn (.func 305) [] [.hp H.length 0]) (H++[.hb 292 [x]])):=by refine .body alM rfl rfl ?_;simp[go_sem,awV,a.c1]
def acm{l:List Nat}{x:D}(a:Sl 1 (l.map u32) x)(g:l.length<=2)(b:lm 4294967296 l):ai VS 289 [x] (.i .u64 (vl 4294967296 l:Int)):=by
 refine ai.iff_q.2 (.bodyR Hd rfl rfl ?_);simp[go_sem,awL];refine(ax5 a).mono ?_;rintro r rfl;simp[go_sem];rw[yi UB rfl (by decide)];refine(ax4 a (by omega) (I:=λk H=>H=[.hb 123 [.i .u64 (vl 4294967296 (l.drop k))],.hb 292 [x],.df,.yh r4.f r4.path 4 r4.nt r4.tm [x,.i .u64 0,.fn (.func 305) [] [.hp 1 0],.u,.hp 0 0,.u] .rd]) (λi H h=>by grind) ?_ ?_).mono ?_
 ·rintro i H hi rfl;refine ac.round vM rfl UB ⟨rfl,rfl,rfl,rfl,rfl⟩ ?_;simp only[go_sem,simprocAttr,awK,gP];have j:=cF b hi;have m:vl 4294967296 (l.drop (i+1))<4294967296:=by
   have c:(l.drop (i+1)).length<=1:=by grind
   have:=dR aB (Ak b (i+1));have:4294967296^(l.drop _).length<=4294967296^1:=m4 (by omega) c;omega
  have e:=dJ (B:=4294967296) hi;refine⟨_,_,_,_,_,_,rfl,?_⟩;have f:IntKind.u64.wrap _=l[i]!:=bW (by omega);simp(disch:=omega)only[go_sem,xb,zU,f,e];grind
 ·rw[T5 (G1 _)];rfl
 rintro r⟨d,n,rfl,rfl⟩;rw[vE rfl];simp[go_sem,simprocAttr]
def ax6{v:Nat}(g:v<18446744073709551616):∃d,ai VS 290 [.i .u64 (v:Int)] d/\br v d:=by
 have b:bin .shr _ (.i .u64 32)=some (.i .u64 ((v/4294967296:Nat))):=ff (by decide);obtain⟨d,c,a⟩:=mO (l:=[v%4294967296,v/4294967296]) .im (jA.2 ⟨by omega,jA.2 ⟨by omega,ie⟩⟩) (by simp);rw[show vl 4294967296 [v%4294967296,v/4294967296]=v by grind[vl]]at a;have e:=λ{H K}=>eU (args:=[.sv 1 [[.i .u32 ((v%4294967296:Nat))],[.i .u32 ((v/4294967296:Nat))]]]) (H:=H) (H1:=H) (K:=K) lJ rfl c (by simp[go_sem,u32]);have f:v/4294967296%4294967296=v/4294967296:=by omega
 refine aH.ex (.body Us rfl ?_);simp only[go_sem,simprocAttr,awM,b,kw,f,e,Ee,iV a.sl.flat];omega
end
end Go.Proofs.YtigbdbdlkoeadaaGreatDoor.Dv
namespace Go.Dm
section
def sg(e:Bool):Int:=if e then-1 else 1
theorem acW(e:Bool):sg (!e)=-sg e:=by cases e<;>rfl
def tv(A B:Nat)(e:Bool)(u v:Nat):Int:=sg e*((u:Int)*A-v*B)
def kC(A B:Nat)(e:Bool)(u v:Nat):tv A B (!e) u v=-tv A B e u v:=by grind[tv,acW]
structure kD(A B x y:Nat)(e:Bool)(a1 a2 u1 v1 u2 v2:Nat):Prop where
 t1:(a1:Int)=tv x y e u1 v1
 t2:(a2:Int)=-tv x y e u2 v2
 c1:u2<=v2
 c2:u1+u2<=v1+v2
 c3:v1<=v2
 c4:1<=v2
 xe:x=v2*a1+v1*a2
 le:a2<=a1
 g:Int.gcd (tv A B e u1 v1) (-tv A B e u2 v2)=Nat.gcd A B
 d:v1=0/\-tv A B e u2 v2=B\/v1≠0/\u1<=v1/\tv A B e u1 v1<=B
structure px(A B:Nat)(e:Bool)(u0 v0 u1 v1:Nat):Prop where
 p0:0<=-tv A B e u0 v0
 p1:0<=tv A B e u1 v1
 lt:tv A B e u1 v1<B
 ord:tv A B e u1 v1<=-tv A B e u0 v0
 p2:-tv A B e u0 v0<=B
 g:Int.gcd (-tv A B e u0 v0) (tv A B e u1 v1)=Nat.gcd A B
 b0:u0<4294967296/\v0<4294967296/\u1<4294967296/\v1<4294967296
section
variable{A B x y K ra rb:Nat}{e:Bool}{a1 a2 u1 v1 u2 v2:Nat}
def kD.start(h:y<=x):kD A B x y false x y 1 0 0 1:=by constructor<;>first|omega|(simp[tv,sg];done)|skip
def EU(e:Bool)(A B x y K ra rb u v:Nat)(a:A=x*K+ra)(b:B=y*K+rb):tv A B e u v=tv x y e u v*K+tv ra rb e u v:=by subst a b;grind[tv]
def PJ{ra rb K:Nat}(c:ra<K)(d:rb<K)(e:Bool){u v w:Nat}(a:u<=w)(b:v<=w):-((w:Int)*K)<=tv ra rb e u v/\tv ra rb e u v<=(w:Int)*K:=by
 have f:u*ra<=w*K:=p5 a (by omega);have g:v*rb<=w*K:=p5 b (by omega);have h:u*ra=((u*ra:Nat):Int):=by simp
 have i:v*rb=((v*rb:Nat):Int):=by simp
 have j:w*K=((w*K:Nat):Int):=by simp
 unfold tv;cases e<;>simp[sg,if_false]<;>omega
def acX{ra rb K:Nat}(a:ra<K)(b:rb<K)(e:Bool){u v w:Nat}(d:u<=w)(f:v<=w)(g:1<=w):-((w:Int)*K)<tv ra rb e u v:=by
 have h:u*ra<w*K:=by
  rcases sn u with c|c;·rw[c,AB7];exact ACL g (by omega)
  exact hI (ABr a c) (M4 _ d)
 have i:v*rb<w*K:=by
  rcases sn v with c|c;·grind
  exact hI (ABr b c) (M4 _ f)
 have j:u*ra=((u*ra:Nat):Int):=by simp
 have k:v*rb=((v*rb:Nat):Int):=by simp
 have l:w*K=((w*K:Nat):Int):=by simp
 unfold tv;cases e<;>simp[sg,if_false]<;>omega
def As(A B:Nat)(e:Bool)(u v a b:Nat):tv A B e (u+a) (v+b)=tv A B e u v+tv A B e a b:=by grind[tv]
def PL(A B:Nat)(e:Bool)(u v q:Nat):tv A B e (q*u) (q*v)=q*tv A B e u v:=by grind[tv]
def kD.cond(h:kD A B x y e a1 a2 u1 v1 u2 v2)(a:A=x*K+ra)(b:B=y*K+rb)(c:ra<K)(d:rb<K)(k:v2<=a2)(l:v1+v2<=a1-a2):0<=tv A B e u1 v1/\0<=-tv A B e u2 v2/\-tv A B e u2 v2<tv A B e u1 v1:=by
 have m:=h.c1;have n:=h.c2;have c3:=h.c3;have o:=h.c4;have g:=EU e A B x y K ra rb u1 v1 a b;have i:=EU e A B x y K ra rb u2 v2 a b;have f:=EU e A B x y K ra rb (u1+u2) (v1+v2) a b;have p:=PJ c d e (u:=u1) (v:=v1) (w:=a1) (by omega) (by omega);have q:=PJ c d e (u:=u2) (w:=a2) (by omega) (by omega);have r:=acX c d e (u:=u1+u2) (w:=a1-a2) (by omega) (by omega) (by omega);have t1:=h.t1;have s:=h.t2;rw[As x y,As A B]at f;have j:tv x y e u1 v1+tv x y e u2 v2=((a1-a2:Nat)):=by omega
 rw[j]at f;rw[<-t1]at g;rw[show tv x y e u2 v2=-a2 by omega]at i;refine⟨by omega,?_,by omega⟩;have:-(a2:Int)*K=-(a2*K):=by grind
 omega
def kD.small(h:kD A B x y e a1 a2 u1 v1 u2 v2)(a:x<18446744073709551616)(b:v2<=a2)(d:v1+v2<=a1-a2):v2<4294967296:=by
 have f:=h.xe;rcases lu v2 4294967296 with c|c;·exact c
 have:4294967296*4294967296<=v2*a1:=p5 c (by omega);omega
def kD.sum_small(h:kD A B x y e a1 a2 u1 v1 u2 v2)(a:x<18446744073709551616)(b:v2<=a2):v1+v2<18446744073709551616:=by
 have d:=h.xe;have c3:=h.c3;have le:=h.le;rcases lu v2 4294967296 with c|c;·omega
 have:4294967296*4294967296<=v2*a1:=p5 c (by omega);omega
theorem kD.step(h:kD A B x y e a1 a2 u1 v1 u2 v2)(o:x<18446744073709551616)(p:A=x*K+ra)(s:B=y*K+rb)(t:ra<K)(u:rb<K)(j:v2<=a2)(k:v1+v2<=a1-a2):kD A B x y (!e) a2 (a1%a2) u2 v2 (u1+a1/a2*u2) (v1+a1/a2*v2)/\(v1=0\/px A B (!e) u1 v1 u2 v2)/\v1+a1/a2*v2<18446744073709551616/\u1+a1/a2*u2<18446744073709551616:=by
 obtain⟨E,F,G⟩:=h.cond p s t u j k;have hs:=h.small o j k;have b:=h.c1;have H:=h.c2;have c3:=h.c3;have I:=h.c4;have le:=h.le;have c:0<a2:=by omega
 have l:1<=a1/a2:=ACd le c;have f:=AAT a1 a2;have hr:=mm a1 c;obtain⟨q,g⟩:∃q,q=a1/a2:=⟨_,rfl⟩;obtain⟨r,i⟩:∃r,r=a1%a2:=⟨_,rfl⟩;rw[<-g,<-i]at f;rw[<-i]at hr;rw[<-g]at l;rw[<-g,<-i];have J:q*u2<=q*v2:=gp _ b;have L:v2<=q*v2:=by have:=M4 v2 l;omega
 have v:u1+q*u2<=v1+q*v2:=by obtain⟨a,rfl⟩:∃a,q=a+1:=⟨q-1,by omega⟩;have m:(a+1)*u2=a*u2+u2:=ABW ..;have M:(a+1)*v2=a*v2+v2:=ABW ..;have N:a*u2<=a*v2:=gp _ b;omega
 have w:x=(v1+q*v2)*a2+v2*r:=by rw[h.xe,<-f];grind
 have z:v1+q*v2<18446744073709551616:=by have:(v1+q*v2)*1<=(v1+q*v2)*a2:=gp _ c;omega
 have C:(a1:Int)-q*a2=r:=by
  have:(a1:Int)=((a2*q+r:Nat):Int):=by rw[f]
  rw[this];simp only[Int.natCast_add,Int.natCast_mul];grind
 refine⟨⟨?_,?_,v,by omega,by omega,by omega,w,by omega,?_,.inr ⟨by omega,b,?_⟩⟩,?_,z,by omega⟩;·rw[kC,<-h.t2]
 ·rw[kC,As,PL,<-h.t1,<-C,h.t2];grind
 ·rw[kC,kC,ACe,As,PL];have:=h.g;rw[Int.gcd_comm]at this;rw[<-this];have m:tv A B e u1 v1+q*tv A B e u2 v2=tv A B e u1 v1-q*(-tv A B e u2 v2):=by grind
  rw[m,Int.gcd_sub_mul_right_right]
 ·rw[kC];rcases h.d with⟨_,d⟩|⟨_,_,d⟩<;>omega
 by_cases n:v1=0;·exact .inl n
 right;obtain⟨P,Q⟩:u1<=v1/\tv A B e u1 v1<=B:=by
  rcases h.d with⟨d,_⟩|⟨_,d⟩;·exact absurd d n
  exact d
 refine⟨by rw[kC];omega,by rw[kC];omega,by rw[kC];omega,by rw[kC,kC];omega,by rw[kC];omega,by rw[kC,kC,ACe];exact h.g,by omega,by omega,by omega,by omega⟩
end
section
variable{A B u0 v0 u1 v1:Nat}
def px.odd(h:px A B false u0 v0 u1 v1):u0*A<=v0*B/\v1*B<=u1*A/\u1*A-v1*B<B/\u1*A-v1*B<=v0*B-u0*A/\v0*B-u0*A<=B/\Nat.gcd (v0*B-u0*A) (u1*A-v1*B)=Nat.gcd A B:=by have a:=h.p1;have lt:=h.lt;have b:=h.ord;have c:=h.p2;have g:=h.g;simp only[tv,sg,if_false,AAY,Int.one_mul]at*;refine⟨by omega,by omega,by omega,by omega,by omega,?_⟩;rw[<-g,show-(u0*A-v0*B)=((v0*B-u0*A:Nat):Int)by omega,show u1*A-v1*B=((u1*A-v1*B:Nat):Int)by omega,ACG]
def px.even(h:px A B true u0 v0 u1 v1):v0*B<=u0*A/\u1*A<=v1*B/\v1*B-u1*A<B/\v1*B-u1*A<=u0*A-v0*B/\u0*A-v0*B<=B/\Nat.gcd (u0*A-v0*B) (v1*B-u1*A)=Nat.gcd A B:=by have a:=h.p1;have lt:=h.lt;have b:=h.ord;have c:=h.p2;have g:=h.g;simp only[tv,sg,if_true,Int.neg_mul,Int.one_mul]at*;refine⟨by omega,by omega,by omega,by omega,by omega,?_⟩;rw[<-g,show- -(u0*A-v0*B)=((u0*A-v0*B:Nat):Int)by omega,show-(u1*A-v1*B)=((v1*B-u1*A:Nat):Int)by omega,ACG]
end
end
end Go.Dm
namespace Go.Proofs.YtigbdbdlkoeadaaGreatDoor.Dv
section
open Go.Dm
set_option maxRecDepth 10000
def gd(l:List Nat)(i:Nat):Nat:=if i<l.length then l[i]! else 0
def zV{l:List Nat}(h:lm 4294967296 l)(i:Nat):gd l i<4294967296:=by
 unfold gd;split;·exact cF h (by omega)
 omega
def ax7{l:List Nat}{x:D}{i:Nat}(a:Sl 1 (l.map u32) x)(c:lm 4294967296 l):ac VS 304 [.i .i64 (i:Int),.hp 0 0] [.hb 292 [x]] (·=.ret (.i .u64 (gd l i:Int)) [.hb 292 [x]]):=by
 refine .body alN rfl rfl ?_;by_cases h:i<l.length
 · have b:¬(l.length:Int)<=(i:Int):=by omega
   have d:=cF c h;simp(disch:=omega)only[go_sem,abW,a.n,a.q,b,u32,bW,gd,h];omega
 have b:(l.length:Int)<=i:=by omega
 simp[go_sem,abW,a.n,gd,h]
def zW(l:List Nat)(i:Nat):vl 4294967296 (l.drop i)=gd l i+4294967296*vl 4294967296 (l.drop (i+1)):=by
 unfold gd;split;·grind[dJ]
 rw[T5 (by omega),T5 (by omega)];rfl
def acn(l:List Nat)(i:Nat):vl 4294967296 l=vl 4294967296 (l.take i)+4294967296^i*vl 4294967296 (l.drop i):=by
 rcases lu l.length i with h|h;·rw[E2 (by omega),T5 (by omega)];simp[vl]
 grind[fe]
def ax8{l:List Nat}{n:Nat}(c:3<=n)(d:l.length<=n)(b:lm 4294967296 l):vl 4294967296 l/4294967296^(n-3)=gd l (n-3)+4294967296*(gd l (n-2)+4294967296*gd l (n-1)):=by have a:=acn l (n-3);have e:=dR aB (gj b (n-3));have f:4294967296^(l.take (n-3)).length<=4294967296^(n-3):=m4 (by omega) (by grind);rw[zW,zW l _,zW l _,T5 (by omega),show n-3+1+1=n-1 by omega,show n-3+1=n-2 by omega]at a;rw[a,AAR _ _ (yy (by omega)),AAW (by omega)];simp[vl]
variable{x y:Nat}
def aco{l:List Nat}{x:D}{n:Nat}(j:Sl 1 (l.map u32) x)(d:lm 4294967296 l)(q:3<=n)(r:l.length<=n)(L:n<1000000000)(hs:y<32)(M:vl 4294967296 l*2^y<4294967296^n):ai VS 299 [x,.i .i64 (n:Int),.i .i64 (y:Int)] (.i .u64 ((vl 4294967296 l/(4294967296^(n-3)*2^(32-y)):Nat):Int)):=by
 have e:=λ{i K}=>dO (K:=K) (cz.iff_q.2 (ax7 (i:=i) j d));have g0:=zV d (n-3);have g1:=zV d (n-2);have k:=zV d (n-1);have s:=ax8 q r d;have m:2^y*2^(32-y)=4294967296:=by rw[<-Nat.pow_add,show y+(32-y)=32 by omega]
 rw[<-Nat.div_div_eq_div_mul,s];have f:(gd l (n-2)+4294967296*gd l (n-1))*2^y<18446744073709551616:=by
  have g:=acn l (n-2);rw[zW,zW l _,T5 (by omega),show n-2+1=n-1 by omega,vl,l4]at g;have h:4294967296^(n-2)*(gd l (n-2)+4294967296*gd l (n-1))*2^y<=vl 4294967296 l*2^y:=M4 _ (by omega);have N:4294967296^n=4294967296^(n-2)*18446744073709551616:=by rw[show 18446744073709551616=4294967296^2 from rfl,<-Nat.pow_add];congr 1;omega
  rw[xt]at h;exact AAd (a:=4294967296^(n-2)) (by omega)
 obtain⟨c,o⟩:∃w,w=gd l (n-3):=⟨_,rfl⟩;obtain⟨t,g⟩:∃w,w=gd l (n-2):=⟨_,rfl⟩;obtain⟨u,h⟩:∃w,w=gd l (n-1):=⟨_,rfl⟩;have v:n-3=((n-3:Nat):Int):=by omega
 have z:n-2=((n-2:Nat):Int):=by omega
 have A:n-1=((n-1:Nat):Int):=by omega
 have B:32-y=((32-y:Nat):Int):=by omega
 rw[<-o]at g0⊢;rw[<-g]at g1 f⊢;rw[<-h]at k f⊢;have p:=zU k g1;obtain⟨w,C⟩:∃w,w=t+4294967296*u:=⟨_,rfl⟩;rw[<-C]at f p⊢;have E:bin .shl (.i .u64 w) (.i .i64 y)=some (.i .u64 ((w*2^y:Nat))):=by rw[uB (by show y<64;omega),bW f]
 have F:bin .shr (.i .u64 c) (.i .i64 _)=some _:=ff (by show 32-y<64;omega);have G:c/2^(32-y)<2^y:=by rw[AAD (yy (by omega)),m];exact g0
 have I:bin .or (.i .u64 ((w*2^y:Nat))) (.i .u64 ((c/2^(32-y):Nat)))=some (.i .u64 (((c+4294967296*w)/2^(32-y):Nat))):=by have:2^y<=2^31:=m4 (by omega) (by omega);rw[Ap f (by omega),Aq G];congr 3;rw[<-m,show c+2^y*2^(32-y)*w=c+2^(32-y)*(w*2^y)by grind,AAR _ _ (yy (by omega))]
 refine .body He rfl ?_;have J:∀{args:List D}{H:ab}{K:CR->Prop}{a b:List D},Bn VS args H K _↔ac VS 304 (a++args++b) H K:=iu (by decide);simp(disch:=omega)only[go_sem,awU,j.c1,J,wr,A,z,v,B,e,<-o,<-g,<-h,xb,p,E,F,I]
structure ax9(A B x0 y0:Nat)(x y n sh:D)(k:Nat)(s:St):Prop where h:∃(e:Bool)(a1 u0 v0 u1 v1 u2 v2:Nat)(c r q:D),kD A B x0 y0 e a1 k u1 v1 u2 v2/\(v0=0\/px A B e u0 v0 u1 v1)/\u2<18446744073709551616/\v2<18446744073709551616/\s=⟨[x,y,.bx [.i .u64 0,.i .u64 0,.i .u64 0,.i .u64 0,.b false],c,n,sh,.i .u64 a1,.i .u64 k,.i .u64 u2,.i .u64 v2,.bx [.i .u64 u0,.i .u64 u1,.i .u64 v0,.i .u64 v1,.b e],r,q],[]⟩
def aya{A B:Nat}{x y:D}(hx:br A x)(hy:br B y)(J:B<=A)(v:3<=(ds 4294967296 A).length)(L:(ds 4294967296 A).length<1000000000):∃p g j d:Nat,∃e:Bool,ai VS 287 [x,y] (.ag [.i .u64 p,.i .u64 g,.i .u64 j,.i .u64 d,.b e])/\(j=0\/px A B e p j g d):=by
 obtain⟨M,hD,p,g,j,d,e,rfl,hk⟩:∃M,ai VS 287 [x,y] M/\∃p g j d:Nat,∃e:Bool,M=.ag [.i .u64 p,.i .u64 g,.i .u64 j,.i .u64 d,.b e]/\(j=0\/px A B e p j g d):=by
  have N:=hx.sl;have h2:=hy.sl;have ae:=fV aB J;have P:=co aB A;have m2:=co aB B;have Q:=bF aB A;have q2:=bF aB B;have E:=uw aB A;generalize ds 4294967296 A=l at*;generalize ds 4294967296 B=m at*;obtain⟨n,ah⟩:∃n,n=l.length:=⟨_,rfl⟩;have E:=E (by intro e;rw[e]at v;simp at v);have aj:=cF P (i:=l.length-1) (by omega);obtain⟨s,al,am,ax,ay⟩:=aci aj E;rw[<-ah]at ae v L aj E al ax ay;have hp:0<2^s:=yy (by omega);have F:A*2^s<4294967296^n:=by
   have S:2^(32-s)*2^s=4294967296:=by rw[<-Nat.pow_add,show 32-s+s=32 by omega]
   have g1:=fe (B:=4294967296) l (n-1) (by omega);rw[dJ (by omega),T5 (by omega),vl,l4,Q]at g1;have t:=dR aB (gj P (n-1));rw[il,AAA (by omega)]at t;have g3:A<4294967296^(n-1)*(l[n-1]!+1):=by rw[ABA,AAQ];omega
   have g4:l[n-1]!<2^(32-s):=AA9 (a:=2^s) (by omega);have g5:=AA3 g3 hp;have g6:4294967296^(n-1)*(l[n-1]!+1)*2^s<=4294967296^(n-1)*2^(32-s)*2^s:=M4 _ (gp _ g4);have bt:4294967296^n=4294967296^(n-1)*4294967296:=by rw[<-Nat.pow_succ];congr 1;omega
   rw[xt,xt,S]at g6;rw[xt]at g5;omega
  have hB:=kx (M4 _ J) F;have U:=aco N P v (by omega) L am (by rw[Q];exact F);have V:=aco h2 m2 v ae L am (by rw[q2];exact hB);rw[Q]at U;rw[q2]at V;obtain⟨K,W⟩:∃K,K=4294967296^(n-3)*2^(32-s):=⟨_,rfl⟩;have X:0<K:=by rw[W];exact ACL (yy (by omega)) (yy (by omega))
  rw[<-W]at U V;have an:A/K<18446744073709551616:=by
   rw[AAD X,W];have Y:18446744073709551616*(4294967296^(n-3)*2^(32-s))*2^s=4294967296^n:=by
    have S:2^(32-s)*2^s=4294967296:=by rw[<-Nat.pow_add,show 32-s+s=32 by omega]
    rw[xt,xt,S,show 18446744073709551616*(4294967296^(n-3)*4294967296)=4294967296^(n-3)*4294967296^3 by grind,<-Nat.pow_add];congr 1;omega
   rw[<-Y]at F;exact AA9 F
  have Y:=λ{H K}=>U.c (H:=H) (K:=K) He rfl (by simp[hx.pl,aZ]) (.inl rfl);have e2:=λ{H K}=>V.c (H:=H) (K:=K) He rfl (by simp[hy.pl,aZ]) (.inl rfl);have e3:=λ{H K}=>al.c (H:=H) (K:=K) Hb rfl rfl (.inl rfl);have a7:B/K<=A/K:=Nat.div_le_div_right J;have a8:A=A/K*K+A%K:=by rw[AA0];exact(AAT A K).symm
  have a9:B=B/K*K+B%K:=by rw[AA0];exact(AAT B K).symm
  have ba:=mm A X;have bb:=mm B X;refine aH.ex (.body Ur rfl ?_);simp(disch:=omega)only[go_sem,simprocAttr,awI,N.n,N.q,<-ah,u32,wr,Y,e2,e3];refine⟨⟨by omega,by omega⟩,?_⟩;refine ak.loop (ax9 A B _ _ x y _ _) _ ⟨false,A/K,0,0,1,0,0,1,_,_,_,kD.start a7,.inl rfl,by omega,by omega,rfl⟩ ?_;rintro k st⟨e,f,p,j,g,d,Z,h,c,r,q,hL,ao,hu,hv,rfl⟩;by_cases c1:h<=k
  ·have bx:=hL.sum_small an c1;have bz:=hL.le;have b0:=hL.xe;have b1:f<18446744073709551616:=by have:1*f<=h*f:=M4 _ hL.c4;omega
   have e4:IntKind.u64.wrap (f-k)=((f-k:Nat)):=by rw[eP];omega
   have e5:IntKind.u64.wrap (d+h)=((d+h:Nat)):=by rw[eP];omega
   obtain⟨df,bc⟩:∃df,df=f-k:=⟨_,rfl⟩;obtain⟨w,bd⟩:∃w,w=d+h:=⟨_,rfl⟩;rw[<-bc]at e4;rw[<-bd]at e5;have d1:(h:Int)<=k:=by omega
   by_cases c2:w<=df
   ·have d2:(w:Int)<=df:=by omega
    obtain⟨u,be,g1,t⟩:=hL.step an a8 a9 ba bb c1 (by omega);have bf:¬((k:Int)=0):=by have:=hL.c4;omega
    have bg:=mm f (show 0<k by omega);obtain⟨o,aq⟩:∃o,o=f/k:=⟨_,rfl⟩;rw[<-aq]at u g1 t;obtain⟨z,ar⟩:∃z,z=o*Z:=⟨_,rfl⟩;obtain⟨C,au⟩:∃C,C=o*h:=⟨_,rfl⟩;have f1:IntKind.u64.wrap (o*Z)=z:=by rw[<-Int.natCast_mul,<-ar];exact bW (by omega)
    have f2:IntKind.u64.wrap (o*h)=C:=by rw[<-Int.natCast_mul,<-au];exact bW (by omega)
    rw[<-ar]at u t;rw[<-au]at u g1;obtain⟨G,bj⟩:∃G,G=g+z:=⟨_,rfl⟩;obtain⟨I,bk⟩:∃I,I=d+C:=⟨_,rfl⟩;have f3:IntKind.u64.wrap (g+z)=G:=by rw[eP];omega
    have f4:IntKind.u64.wrap (d+C)=I:=by rw[eP];omega
    rw[<-bj]at u t;rw[<-bk]at u g1;have f5:IntKind.u64.wrap _=o:=bW (by have:=Nat.div_le_self f k;omega);have tq:Int.tdiv (f:Int) (k:Int)=o:=by rw[EP,aq]
    simp only[go_sem,simprocAttr,OI,d1,d2,e4,e5,bf,tq,xn,f1,f2,f3,f4,f5];exact⟨f%k,bg,!e,k,g,d,Z,h,G,I,_,_,_,u,be,t,g1,rfl⟩
   have d2:¬(w:Int)<=df:=by omega
   simp only[go_sem,simprocAttr,OI,d1,d2,e4,e5];exact⟨_,_,_,_,_,⟨rfl,rfl,rfl,rfl,rfl⟩,ao⟩
  have d1:¬(h:Int)<=k:=by omega
  simp only[go_sem,OI,d1];exact⟨_,_,_,_,_,⟨rfl,rfl,rfl,rfl,rfl⟩,ao⟩
 grind
end
section
open Go.Dm
set_option maxRecDepth 10000
set_option maxRecDepth 100000
structure acp(l m:List Nat)(u v N:Nat)(x y:D)(i:Nat)(s:St):Prop where h:∃ws cx cy bw a5 a6 a7 a14,ws.length=N/\lm 4294967296 ws/\cx<4294967296/\cy<4294967296/\bw<=1/\(l.length<i->cx=0)/\(m.length<i->cy=0)/\(∀k,i<=k->k<N->ws[k]! =0)/\vl 4294967296 ws+v*vl 4294967296 (m.take i)+4294967296^i*cx=u*vl 4294967296 (l.take i)+4294967296^i*(cy+bw)/\s=⟨[.i .u64 u,x,.i .u64 v,y,.nil,a5,a6,a7,.i .u64 cx,.i .u64 cy,.i .u32 bw,.mu 0 N 0 N,.i .i64 i,.i .i64 N,a14],[.ar 1 (ws.map u32) (some N) true false]⟩
def acq(l:List Nat)(i:Nat):vl 4294967296 (l.take (i+1))=vl 4294967296 (l.take i)+4294967296^i*gd l i:=by
 unfold gd;split;·grind[fq]
 rw[E2 (by omega),E2 (by omega)];omega
variable{x y z a b c d e:Nat}
def ayb{P v C X f i d g h j:Nat}(k:x+v*C+P*e=a*b+P*(f+i))(l:X=e+a*g)(m:c=f+v*h)(n:y=x+P*d)(o:d+c%z+i=X%z+z*j):y+v*(C+P*h)+P*z*(X/z)=a*(b+P*g)+P*z*(c/z+j):=by have p:=zv X z;have q:=zv c z;grind
def Ey{C v:Nat}{x y:D}(hx:br z x)(hy:br C y)(hu:a<4294967296)(hv:v<4294967296)(ha:(ds 4294967296 z).length<1000000000)(hc:(ds 4294967296 C).length<1000000000)(a8:v*C<=a*z):∃d,ai VS 288 [.i .u64 a,x,.i .u64 v,y] d/\br (a*z-v*C) d:=by
 have f:=hx.sl;have g:=hy.sl;have m1:=co aB z;have m2:=co aB C;have q1:=bF aB z;have q2:=bF aB C;generalize ds 4294967296 z=l at*;generalize ds 4294967296 C=m at*;obtain⟨N,hN⟩:∃N,N=max l.length m.length+1:=⟨_,rfl⟩;refine aH.ex (.body yB rfl ?_);have eN:max (l.length:Int) m.length+1=N:=by omega
 simp(disch:=omega)only[go_sem,awJ,f.n,g.n,wr,uC,eN];refine⟨⟨⟨by omega,by omega⟩,⟨by omega,by omega⟩,by omega⟩,ak.up (acp l m a v N x y) N ⟨_,0,0,0,_,_,_,_,by simp,nX (by omega),by omega,by omega,by omega,λ_=>rfl,λ_=>rfl,λk _ hk=>by rw[Hy _ _ (by simpa using hk)];simp,by rw[xk];simp[vl],rfl⟩ ?_⟩;rintro i s hi⟨h,V,I,o,a5,a6,a7,bd,j,J,be,bf,ap,aq,au,W,r,rfl⟩;by_cases av:i<N
 ·have E:(i:Int)<N:=by omega
  have bg:=zV m1 i;have bh:=zV m2 i;have bi:a*gd l i<=4294967295*4294967295:=p5 (by omega) (by omega);have bj:v*gd m i<=4294967295*4294967295:=p5 (by omega) (by omega);obtain⟨X,t⟩:∃X,X=V+a*gd l i:=⟨_,rfl⟩;obtain⟨Y,e⟩:∃Y,Y=I+v*gd m i:=⟨_,rfl⟩;have u:=λ{H K}=>Ph (H:=H) (K:=K) (x:=X%4294967296) (y:=Y%4294967296) (by omega) (by omega) ap;obtain⟨d,hd⟩:∃d,d=(X%4294967296+8589934592-Y%4294967296-o)%4294967296:=⟨_,rfl⟩;obtain⟨p,Z⟩:∃p,p=(if X%4294967296<Y%4294967296+o then 1 else 0):=⟨_,rfl⟩;have aa:d+Y%4294967296+o=X%4294967296+4294967296*p/\p<=1:=by rw[Z];split<;>omega
  rw[<-hd,<-Z]at u;have F:bin .shr _ (.i .u64 32)=some (.i .u64 ((X/4294967296:Nat))):=ff (by decide);have G:bin .shr _ (.i .u64 32)=some (.i .u64 ((Y/4294967296:Nat))):=ff (by decide);have q:acp l m a v N x y (i+1) ⟨[.i .u64 a,x,.i .u64 v,y,.nil,.b true,.b (decide (i<(l.length:Int))),.b (decide (i<(m.length:Int))),.i .u64 ((X/4294967296:Nat)),.i .u64 ((Y/4294967296:Nat)),.i .u32 p,.mu 0 N 0 N,.i .i64 (i+1),.i .i64 N,.i .i64 i],[.ar 1 ((h.set i d).map u32) (some N) true false]⟩:=by
   refine⟨h.set i d,X/4294967296,Y/4294967296,p,_,_,_,_,by simp[j],gG J (by omega),by omega,by omega,aa.2,λhh=>?_,λhh=>?_,λk h3 h4=>?_,?_,rfl⟩;·rw[t,gd,E1 (by omega),nu,l4];omega
   ·rw[e,gd,E1 (by omega),nu,l4];omega
   ·rw[Hy _ _ (by rw[gb];omega),AAJ (by omega),<-getElem!_pos h k (by omega)];exact W k (by omega) h4
   have g1:=ku (B:=4294967296) (l:=h) (i:=i) (v:=d) (by omega);rw[W i (G1 _) av,nu,l4]at g1;rw[acq,acq,oa];exact ayb r t e g1 aa.1
  by_cases c2:i<l.length
  ·have d2:(i:Int)<l.length:=by omega
   have g1:gd l i=l[i]!:=E4 c2;have L:IntKind.u64.wrap (a*l[i]!)=((a*gd l i:Nat)):=by rw[g1,<-Int.natCast_mul];exact bW (by rw[<-g1];omega)
   obtain⟨M,az⟩:∃M,M=a*gd l i:=⟨_,rfl⟩;rw[<-az]at L t;have e2:IntKind.u64.wrap (V+M)=X:=by rw[eP];omega
   have e0:IntKind.u64.wrap _=l[i]!:=bW (by omega);simp only[d2,decide_true]at q;by_cases c3:i<m.length
   ·have d3:(i:Int)<m.length:=by omega
    have w:gd m i=m[i]!:=E4 c3;have A:IntKind.u64.wrap (v*m[i]!)=((v*gd m i:Nat)):=by rw[w,<-Int.natCast_mul];exact bW (by rw[<-w];omega)
    obtain⟨n,P⟩:∃n,n=v*gd m i:=⟨_,rfl⟩;rw[<-P]at A e;have Q:IntKind.u64.wrap (I+n)=Y:=by rw[eP];omega
    have S:IntKind.u64.wrap _=m[i]!:=bW (by omega);simp only[d3,decide_true]at q;simp(disch:=omega)only[go_sem,zK,f.n,f.q,g.n,g.q,E,d2,d3,u32,wr,e0,L,e2,A,Q,S,kw,u,F,G,j,gH];repeat' first|(refine And.intro ?_ ?_)|intro _
    all_goals first|omega
   have d3:¬(i:Int)<m.length:=by omega
   rw[show gd m i=0 from E1 c3,nu,l4]at e;subst e;simp only[d3,decide_false]at q;simp(disch:=omega)only[go_sem,zK,f.n,f.q,g.n,E,d2,d3,u32,wr,e0,L,e2,kw,u,F,G,j,gH];repeat' first|(refine And.intro ?_ ?_)|intro _
   all_goals first|omega
  have d2:¬(i:Int)<l.length:=by omega
  rw[show gd l i=0 from E1 c2,nu,l4]at t;subst t;simp only[d2,decide_false]at q;by_cases c3:i<m.length
  ·have d3:(i:Int)<m.length:=by omega
   have w:gd m i=m[i]!:=E4 c3;have A:IntKind.u64.wrap (v*m[i]!)=((v*gd m i:Nat)):=by rw[w,<-Int.natCast_mul];exact bW (by rw[<-w];omega)
   obtain⟨n,P⟩:∃n,n=v*gd m i:=⟨_,rfl⟩;rw[<-P]at A e;have Q:IntKind.u64.wrap (I+n)=Y:=by rw[eP];omega
   have S:IntKind.u64.wrap _=m[i]!:=bW (by omega);simp only[d3,decide_true]at q;simp(disch:=omega)only[go_sem,zK,f.n,g.n,g.q,E,d2,d3,u32,wr,A,Q,S,kw,u,F,G,j,gH];repeat' first|(refine And.intro ?_ ?_)|intro _
   all_goals first|omega
  have d3:¬(i:Int)<m.length:=by omega
  rw[show gd m i=0 from E1 c3,nu,l4]at e;subst e;simp only[d3,decide_false]at q;simp(disch:=omega)only[go_sem,zK,f.n,g.n,E,d2,d3,u32,wr,kw,u,F,G,j,gH];repeat' first|(refine And.intro ?_ ?_)|intro _
  all_goals first|omega
 have a0:i=N:=by omega
 subst a0;rw[E2 (by omega),E2 (by omega),q1,q2]at r;have a1:vl 4294967296 h=a*z-v*C:=by
  have g1:=dR aB J;rw[j]at g1;rw[aq (by omega),au (by omega),nu,l4,lB]at r;rcases lu o 1 with c|c;·rw[show o=0 by omega,nu,l4]at r;omega
  rw[show o=1 by omega,AAQ]at r;omega
 obtain⟨d,a2,U⟩:=mO .im J (by omega);rw[a1]at U;have a3:(h.map u32).take i=h.map u32:=E2 (by rw[T3];omega);simp[go_sem,zK,sm];refine ac.fzr lJ rfl rfl a2 ⟨_,by simp only[go_sem,simprocAttr,j,a3];rfl⟩ (λH'=>?_);simp[go_sem];exact⟨d,iV U.sl.flat,U⟩
structure ayc(g:Nat)(B:Nat)(s:St):Prop where h:∃A P Q a3 a4 a5 a6 a10 a11,br A P/\br B Q/\B<=A/\(ds 4294967296 A).length<1000000000/\Nat.gcd A B=g/\s=⟨[P,Q,.nil,a3,a4,a5,a6,.u,.u,.u,a10,a11,.u,.u,.u],[]⟩
def xc:aR:=match Eb.body with|.seq _ (.seq _ (.seq _ r))=>r|_=>.skip
def Pp:aR:=match xc with|.seq _ (.seq _ r)=>r|_=>.skip
structure ayd(g:Nat)(P Q:D)(a3 a4 a5 a6 a7 a8 a10 a11 a12:D)(y:Nat)(s:St):Prop where h:∃x a9,x<18446744073709551616/\y<18446744073709551616/\Nat.gcd x y=g/\s=⟨[P,Q,.nil,a3,a4,a5,a6,a7,a8,a9,a10,a11,a12,.i .u64 (x:Int),.i .u64 (y:Int)],[]⟩
variable{f g h i j k:D}
def acr{P e l m n:D}(o:br z P)(p:br a f)(q:(ds 4294967296 z).length<=2)(t:(ds 4294967296 a).length<=2){K:D->Prop}(B:∀d,br (Nat.gcd z a) d->K d):ak VS Pp ⟨[P,f,.nil,g,h,i,j,k,e,.u,l,m,n,.u,.u],[]⟩ (du [.s 2] (fE false λr=>∃d,r=.ret d/\K d)):=by
 have v:=λ{H K}=>(acm o.sl q (co aB z)).c (H:=H) (K:=K) Hd rfl (by simp[o.pl]) (.inl rfl);have w:=λ{H K}=>(acm p.sl t (co aB a)).c (H:=H) (K:=K) Hd rfl (by simp[p.pl]) (.inl rfl);rw[bF aB]at v w;have C:=(jB aB).1 q;have E:=(jB aB).1 t;simp[go_sem,Pp,xc,abl,v,w];refine ak.loop (ayd _ P f g h i j k e l m n) a ⟨z,.u,C,E,rfl,rfl⟩ ?_;rintro y s⟨x,M,F,N,b,rfl⟩;by_cases G:y=0;·subst G;rw[ABp]at b;subst b;obtain⟨d,I,A⟩:=ax6 F;have J:=λ{H K}=>I.c (H:=H) (K:=K) Us rfl rfl (.inl rfl);simp[go_sem,abk,J];exact⟨d,iV A.sl.flat,B d A⟩
 have L:¬(y:Int)=0:=by omega
 simp only[go_sem,abk,L,xn];have:=mm x (show 0<y by omega);exact⟨x%y,by omega,y,_,by omega,by omega,by rw[<-b,AAZ x,ACM y x,AAZ],rfl⟩
def aye{P t:D}(a:br x P)(b:br y f)(v:(ds 4294967296 x).length<1000000000)(m:(ds 4294967296 y).length<=2){K:D->Prop}(c:∀d,br (Nat.gcd x y) d->K d):ak VS xc ⟨[P,f,.nil,g,h,i,j,.u,.u,.u,k,t,.u,.u,.u],[]⟩ (du [.s 2] (fE false λr=>∃d,r=.ret d/\K d)):=by
 have n:=a.sl;have l:=b.sl;rw[rd xc];show ak VS (.seq _ (.seq _ Pp)) _ _;by_cases o:y=0;·subst o;rw[ABp]at c;rw[bE]at l;simp[go_sem,l.n,lA];exact⟨P,iV n.flat,c P a⟩
 have E:=ph aB o;have q:¬((ds 4294967296 y).length:Int)=0:=by omega
 by_cases w:(ds 4294967296 x).length<=2
 ·have p:¬2<((ds 4294967296 x).length:Int):=by omega
  simp only[go_sem,l.n,n.n,q,p];exact acr a b w m c
 have p:2<((ds 4294967296 x).length:Int):=by omega
 obtain⟨d,e,z,A,B⟩:=Pn a b o v (by omega);have C:=λ{H K}=>z.c (H:=H) (K:=K) BV rfl (by simp[a.pl,b.pl]) (.inl rfl);simp only[go_sem,l.n,n.n,q,p,C];refine acr b B m ?_ (λd A=>c d ?_);·exact dG (fV aB (ABV (mm _ (by omega)))) m
 rwa[AAZ x,ACM y x,AAZ]
def ayf{a b:Nat}{x y:D}(n:br a x)(o:br b y)(ha:(ds 4294967296 a).length<1000000000)(hb:(ds 4294967296 b).length<1000000000):∃d,ai VS 267 [x,y] d/\br (Nat.gcd a b) d:=by
 have U:=λ{H K}=>(Et n o (by omega) (by omega)).c (H:=H) (K:=K) yx rfl (by simp[n.pl,o.pl]) (.inl rfl);refine aH.ex (.body Uk rfl ?_);have key:∀{A B:Nat}{P Q p:D},br A P->br B Q->B<=A->(ds 4294967296 A).length<1000000000->Nat.gcd A B=Nat.gcd a b->ak VS (.loop Ot) ⟨[P,Q,.nil,p,.u,.u,.u,.u,.u,.u,.u,.u,.u,.u,.u],[]⟩ (lG 0 (kK VS xc (du [.s 2] (fE false λr=>∃d,r=.ret d/\br (Nat.gcd a b) d)))):=by
  intro A B P Q p g f i h j;refine ak.loop (ayc _) B ⟨A,P,Q,p,_,_,_,_,_,g,f,i,h,j,rfl⟩ ?_;rintro B s⟨A,P,Q,p,a4,a5,a6,ap,aq,g,f,i,h,j,rfl⟩;have q:=f.sl;have ar:=fV aB i;by_cases v:(ds 4294967296 B).length<=2
  ·have k:¬2<((ds 4294967296 B).length:Int):=by omega
   simp[go_sem,Ea,q.n,k];exact aye g f h v (λd V=>by rwa[j]at V)
  have k:2<((ds 4294967296 B).length:Int):=by omega
  have ae:B≠0:=by rintro rfl;rw[bE]at v;simp at v
  obtain⟨u0,W,w,X,e,hs,l⟩:=aya g f i (by omega) h;have z:=λ{H K}=>hs.c (H:=H) (K:=K) Ur rfl (by simp[g.pl,f.pl]) (.inl rfl);by_cases h0:w=0
  ·have t:(w:Int)=0:=by omega
   obtain⟨d,e',ag,V,he⟩:=Pn g f ae h (by omega);have m:=λ{H K}=>ag.c (H:=H) (K:=K) BV rfl (by simp[g.pl,f.pl]) (.inl rfl);simp[go_sem,simprocAttr,Ea,q.n,k,z,t,m];have hm:=mm A (show 0<B by omega);exact⟨A%B,hm,B,_,_,_,_,_,_,_,_,f,he,by omega,by omega,by rw[<-j,AAZ A,ACM B A,AAZ],rfl⟩
  have t:¬(w:Int)=0:=by omega
  have l:=l.resolve_left h0;obtain⟨Y,Z,b3,b4⟩:=l.b0;cases e with|true=>obtain⟨C,E,F,G,I,J⟩:=l.even;obtain⟨d1,L,g1⟩:=Ey g f Y Z h (by omega) C;obtain⟨d2,M,N⟩:=Ey f g b4 b3 (by omega) h E;have m:=λ{H K}=>L.c (H:=H) (K:=K) yB rfl (by simp[g.pl,f.pl,aZ]) (.inl rfl);have S:=λ{H K}=>M.c (H:=H) (K:=K) yB rfl (by simp[g.pl,f.pl,aZ]) (.inl rfl);simp only[go_sem,simprocAttr,Ea,q.n,k,z,t,m,S];exact⟨X*B-W*A,F,_,_,_,_,_,_,_,_,_,g1,N,G,kx (fV aB (dG I i)) h,by rw[J,j],rfl⟩|false=>obtain⟨C,E,F,G,I,J⟩:=l.odd;obtain⟨d1,L,g1⟩:=Ey f g Z Y (by omega) h C;obtain⟨d2,M,N⟩:=Ey g f b3 b4 h (by omega) E;have m:=λ{H K}=>L.c (H:=H) (K:=K) yB rfl (by simp[g.pl,f.pl,aZ]) (.inl rfl);have S:=λ{H K}=>M.c (H:=H) (K:=K) yB rfl (by simp[g.pl,f.pl,aZ]) (.inl rfl);simp only[go_sem,simprocAttr,Ea,q.n,k,z,t,m,S];exact⟨W*A-X*B,F,_,_,_,_,_,_,_,_,_,g1,N,G,kx (fV aB (dG I i)) h,by rw[J,j],rfl⟩
 rw[abl];show ak VS (.seq _ (.seq _ (.seq _ xc))) _ _;by_cases al:a<b;·simp[go_sem,simprocAttr,U,zS al];exact key o n (by omega) hb (AAZ _ _)
 have hs:¬iH a b<0:=by
  rcases lu b a with c|c;·rw[zT c];omega
  rw[Es (by omega)];omega
 simp[go_sem,U,hs];exact key n o (by omega) ha rfl
end
section
open Go.Dm
set_option maxRecDepth 10000
def cap(k:Nat):Nat:=65536^k
def jx{n k:Nat}:(ds 65536 n).length<=k↔n<cap k:=jB aM
theorem nV{j k:Nat}(h:j<=k):cap j<=cap k:=m4 (by omega) h
def ko{a b j k n:Nat}(c:a<cap j)(d:b<cap k)(e:j+k<=n):a*b<cap n:=by refine hI ?_ (nV e);unfold cap;rw[ABN];exact Nat.mul_lt_mul'' c d
def EA{a b k n:Nat}(d:a<cap k)(f:b<cap k)(c:k+1<=n):a+b<cap n:=by refine hI ?_ (nV c);have e:cap (k+1)=cap k*65536:=oa ..;omega
def aQ{a j k:Nat}(h:a<cap j)(b:j<=k):a<cap k:=hI h (nV b)
def acs{n k:Nat}(h:n<cap (2*k)):(ds 4294967296 n).length<=k:=by rw[jB aB,show 4294967296=65536^2 from rfl,<-Nat.pow_mul];exact h
def iI{n k:Nat}(h:n<cap k)(a:k<=4096):(ds 4294967296 n).length<1000000000:=by have:=acs (k:=2048) (hI h (nV (by omega)));omega
theorem mP{n k:Nat}(h:n<cap k)(a:k<=4096):(ds 65536 n).length<1099511627776:=by have:=jx.2 (hI h (nV a));omega
def mQ{n k:Nat}(h:n<cap k)(a:k<=4096):(ds 65536 n).length<70368744177665:=by grind[mP]
def ia(neg:Bool)(l:List Nat):Bool:=match l with|[]=>!neg|_::_=>decide (l.length<=1024)&&decide (l[l.length-1]!≠0)
def Pq{neg:Bool}{l:List Nat}{x:D}(h:Sl 1 (l.map u16) x)(i:l.length<70368744177665):ai VS 171 [.ag [.b neg,x]] (.b (ia neg l)):=by refine .body vJ rfl ?_;cases l with|nil=>simp[go_sem,simprocAttr,MD,h.n,ia]|cons a l=>
 generalize f:a::l=m at*;have j:m.length≠0:=by grind
 have d:¬(m.length:Int)=0:=by omega
 have g:ia neg m=(decide (m.length<=1024)&&decide (m[m.length-1]!≠0)):=by subst f;rfl
 rw[g];by_cases e:m.length<=1024
 ·have c:(m.length:Int)<=1024:=by omega
  have k:((m.length:Int)-1).toNat=m.length-1:=by omega
  simp(disch:=omega)only[go_sem,MD,h.n,h.q,d,c,e,wr,u16];grind
 have c:¬(m.length:Int)<=1024:=by omega
 simp only[go_sem,MD,h.n,d,c,e]
def zX{neg:Bool}{n:Nat}(g:n<cap 1024)(h:n=0->neg=false):ia neg (ds 65536 n)=true:=by
 by_cases c:n=0;·rw[c,bE,h c];rfl
 have b:=lT aM c;have d:=uw aM n b;have e:=jx.2 g;cases f:ds 65536 n with|nil=>exact absurd f b|cons a l=>rw[f]at d e;simp only[ia,D0,Hq];exact⟨e,d⟩
def lh(neg:Bool)(l:List Nat):Int:=if neg then-(vl 65536 l:Int)else vl 65536 l
def xd{neg:Bool}{l:List Nat}{x:D}(h:Sl 1 (l.map u16) x)(d:lm 65536 l)(e:ia neg l=true):Wh (lh neg l) (.ag [.b neg,x])/\(lh neg l).natAbs<cap 1024/\(lh neg l).natAbs=vl 65536 l/\ds 65536 (vl 65536 l)=l:=by
 have a:(lh neg l).natAbs=vl 65536 l:=by grind[lh]
 have c:=xl aM d (λf=>by cases l<;>grind[ia]);refine⟨⟨x,?_,⟨by grind⟩⟩,?_,a,c⟩;·unfold lh;cases neg with|false=>simp|true=>
  have:vl 65536 l≠0:=by grind[bE,ia]
  simp;omega
 rw[a,<-jx,c];cases l<;>grind[ia]
def Wh.pl{z:Int}{d:D}(h:Wh z d):d.plain=true:=by obtain⟨y,rfl,a⟩:=h.h;simp[bO,cg,a.sl.flat]
def Pr{z:Int}{y:D}(h:bc z.natAbs y)(a:z.natAbs<cap 1024):ai VS 171 [.ag [.b (decide (z<0)),y]] (.b true):=by have:=Pq (neg:=decide (z<0)) h.sl (mQ a (by omega));simp_all[zX]
variable{x y:D}
def ayg{z1 z2:Int}(a:bc z1.natAbs x)(d:bc z2.natAbs y)(e:z1.natAbs<cap 1024)(f:z2.natAbs<cap 1024):ai VS 220 [.im 2 [[.b (decide (z1<0)),x],[.b (decide (z2<0)),y]]] (.b true):=by have g:=λ{H K}=>(Pr a e).c (H:=H) (K:=K) vJ rfl (by simp[bO,cg,a.sl.flat]) (.inl rfl);have h:=λ{H K}=>(Pr d f).c (H:=H) (K:=K) vJ rfl (by simp[bO,cg,d.sl.flat]) (.inl rfl);have j:cG [] (.im 2 [[.b (decide (z1<0)),x],[.b (decide (z2<0)),y]]) (.i .i64 0) 2=some _:=rfl;have k:cG [] (.im 2 [[.b (decide (z1<0)),x],[.b (decide (z2<0)),y]]) (.i .i64 1) 2=some _:=rfl;refine .body TQ rfl ?_;simp[go_sem,av3];rw[bJ];simp[go_sem,simprocAttr,av2,j,g,wr];rw[bJ];simp[go_sem,simprocAttr,k,h,wr];rw[bJ];simp[go_sem,simprocAttr]
def zY{z1 z2:Int}(a:bc z1.natAbs x)(c:bc z2.natAbs y)(d:z1.natAbs<cap 1024)(e:z2.natAbs<cap 1024){H:ab}{K:CR->Prop}:ac VS 220 [.sv 2 [[.b (decide (z1<0)),x],[.b (decide (z2<0)),y]]] H K↔K (.ret (.b true) H):=by have f:=λm H=>ah a.sl.flat m H;have g:=λm H=>ah c.sl.flat m H;rw[eU (H1:=H) TQ rfl (ayg a c d e) (by simp[go_sem,f,g])];exact W0
end
section
open Go.Dm
set_option maxRecDepth 10000
def EB{neg:Bool}{n:Nat}{x:D}(c:br n x)(e:n<cap 1024):∃d,ai VS 260 [.b neg,x] (.tu [d,.i .i64 0])/\Wh (if neg then-(n:Int)else n) d:=by
 have o:=iI e (by omega);obtain⟨d,h,f⟩:=re (neg:=neg) c.sl (co aB n) (by omega);rw[bF aB]at f;have j:=λ{H K}=>h.c (H:=H) (K:=K) nw rfl (by simp[c.pl,jS]) (.inl rfl);obtain⟨y,rfl,a⟩:=f.h;have g:(if neg=true then-(n:Int)else n).natAbs=n:=by cases neg<;>simp
 rw[g]at a;have p:=jx.2 e;have k:¬1024<((ds 65536 n).length:Int):=by omega
 have l:=λm H=>ah a.sl.flat m H;refine⟨_,.body yA rfl ?_,⟨y,rfl,by rw[g];exact a⟩⟩;simp[go_sem,awt,j,a.sl.n,k,l]
def ayh(z1 z2:Int):(if((decide (z1<0)==decide (z2<0))!=true)=true then-((z1.natAbs*z2.natAbs:Nat):Int)else((z1.natAbs*z2.natAbs:Nat):Int))=z1*z2:=by grind
def ayi{z1 z2:Int}{d1 d2:D}(h:Wh z1 d1)(j:Wh z2 d2)(a:z1.natAbs<cap 512)(b:z2.natAbs<cap 512):∃d,ai VS 223 [d1,d2] (.tu [d,.i .i64 0])/\Wh (z1*z2) d:=by obtain⟨x,rfl,g1⟩:=h.h;obtain⟨z,rfl,c⟩:=j.h;have k:=aQ a (show 512<=1024 by omega);have l:=aQ b (show 512<=1024 by omega);have n:=λ{H K}=>zY g1 c k l (H:=H) (K:=K);obtain⟨A,o,f⟩:=nU g1 (mP a (by omega));obtain⟨r1,r2,r3⟩:=nU c (mP b (by omega));have p:=λ{H K}=>o.c (H:=H) (K:=K) mt rfl g1.p1 (.inl rfl);have q:=λ{H K}=>r2.c (H:=H) (K:=K) mt rfl c.p1 (.inl rfl);obtain⟨t1,r,g⟩:=axK f r3 (iI a (by omega)) (iI b (by omega));have s:=λ{H K}=>r.c (H:=H) (K:=K) Uj rfl (by simp[f.pl,r3.pl]) (.inl rfl);obtain⟨B,t,e⟩:=EB (neg:=(decide (z1<0)==decide (z2<0))!=true) g (ko a b (by omega));have u:=λ{H K}=>t.c (H:=H) (K:=K) yA rfl (by simp[g.pl,jS]) (.inl rfl);have hs:=ayh z1 z2;rw[hs]at e;obtain⟨y,rfl,v⟩:=e.h;have w:=λm H=>ah v.sl.flat m H;refine⟨_,.body TR rfl ?_,e⟩;simp only[go_sem,simprocAttr,av5,n,p,q,s,u,w]
def ayj{z1 z2:Int}{v w:D}(g1:br z1.natAbs v)(f:br z2.natAbs w)(s:z1.natAbs<cap 1023)(t:z2.natAbs<cap 1023):∃d,ai VS 266 [.b (decide (z1<0)),v,.b (decide (z2<0)),w] (.tu [d,.i .i64 0])/\Wh (z1+z2) d:=by
 have x:=iI s (by omega);have z:=iI t (by omega);by_cases hs:decide (z1<0)=decide (z2<0)
 ·obtain⟨t1,j,g⟩:=acf g1 f x z;have k:=λ{H K}=>j.c (H:=H) (K:=K) G9 rfl (by simp[g1.pl,f.pl]) (.inl rfl);obtain⟨A,l,e⟩:=EB (neg:=decide (z1<0)) g (EA s t (by omega));have n:=λ{H K}=>l.c (H:=H) (K:=K) yA rfl (by simp[g.pl,jS]) (.inl rfl);have o:(if decide (z1<0)=true then-((z1.natAbs+z2.natAbs:Nat):Int)else((z1.natAbs+z2.natAbs:Nat)))=z1+z2:=by grind
  rw[o]at e;obtain⟨y,rfl,p⟩:=e.h;have q:=λm H=>ah p.sl.flat m H;have r:(decide (z1<0)==decide (z2<0))=true:=by grind
  refine⟨_,.body BY rfl ?_,e⟩;simp[go_sem,Oq,r,k,n,q]
 have r:(decide (z1<0)==decide (z2<0))=false:=by simpa using hs
 have E:¬(z1<0↔z2<0):=λh=>hs (decide_eq_decide.2 h);have B:=λ{H K}=>(Et g1 f (by omega) (by omega)).c (H:=H) (K:=K) yx rfl (by simp[g1.pl,f.pl]) (.inl rfl);by_cases C:z2.natAbs<=z1.natAbs
 ·have u:0<=iH z1.natAbs z2.natAbs:=by
   rcases lu z2.natAbs z1.natAbs with c|c;·rw[zT c];omega
   rw[Es (by omega)];omega
  obtain⟨t1,j,g⟩:=Pi g1 f C x;have k:=λ{H K}=>j.c (H:=H) (K:=K) BX rfl (by simp[g1.pl,f.pl]) (.inl rfl);obtain⟨A,l,e⟩:=EB (neg:=decide (z1<0)) g (kx (ACS _ _) (aQ s (by omega)));have n:=λ{H K}=>l.c (H:=H) (K:=K) yA rfl (by simp[g.pl,jS]) (.inl rfl);have o:(if decide (z1<0)=true then-((z1.natAbs-z2.natAbs:Nat):Int)else((z1.natAbs-z2.natAbs:Nat)))=z1+z2:=by by_cases a:z1<0<;>simp<;>omega
  rw[o]at e;obtain⟨y,rfl,p⟩:=e.h;have q:=λm H=>ah p.sl.flat m H;refine⟨_,.body BY rfl ?_,e⟩;simp[go_sem,Oq,r,B,u,k,n,q]
 have u:¬0<=iH z1.natAbs z2.natAbs:=by rw[zS (by omega)];omega
 obtain⟨t1,j,g⟩:=Pi f g1 (by omega) z;have k:=λ{H K}=>j.c (H:=H) (K:=K) BX rfl (by simp[g1.pl,f.pl]) (.inl rfl);obtain⟨A,l,e⟩:=EB (neg:=decide (z2<0)) g (kx (ACS _ _) (aQ t (by omega)));have n:=λ{H K}=>l.c (H:=H) (K:=K) yA rfl (by simp[g.pl,jS]) (.inl rfl);have o:(if decide (z2<0)=true then-((z2.natAbs-z1.natAbs:Nat):Int)else((z2.natAbs-z1.natAbs:Nat)))=z1+z2:=by by_cases a:z2<0<;>simp<;>omega
 rw[o]at e;obtain⟨y,rfl,p⟩:=e.h;have q:=λm H=>ah p.sl.flat m H;refine⟨_,.body BY rfl ?_,e⟩;simp[go_sem,Oq,r,B,u,k,n,q]
def ayk{z1 z2:Int}{d1 d2:D}(g:Wh z1 d1)(h:Wh z2 d2)(a:z1.natAbs<cap 1023)(b:z2.natAbs<cap 1023):∃d,ai VS 225 [d1,d2] (.tu [d,.i .i64 0])/\Wh (z1+z2) d:=by obtain⟨u,rfl,g1⟩:=g.h;obtain⟨v,rfl,c⟩:=h.h;have j:=aQ a (show 1023<=1024 by omega);have k:=aQ b (show 1023<=1024 by omega);have l:=λ{H K}=>zY g1 c j k (H:=H) (K:=K);obtain⟨w,n,e⟩:=nU g1 (mP a (by omega));obtain⟨r1,r2,r3⟩:=nU c (mP b (by omega));have o:=λ{H K}=>n.c (H:=H) (K:=K) mt rfl g1.p1 (.inl rfl);have p:=λ{H K}=>r2.c (H:=H) (K:=K) mt rfl c.p1 (.inl rfl);obtain⟨x,q,f⟩:=ayj e r3 a b;have r:=λ{H K}=>q.c (H:=H) (K:=K) BY rfl (by simp[e.pl,r3.pl,jS]) (.inl rfl);obtain⟨y,rfl,s⟩:=f.h;have t:=λm H=>ah s.sl.flat m H;refine⟨_,.body TS rfl ?_,f⟩;simp[go_sem,simprocAttr,av6,l,o,p,r,t]
def ayl{z1 z2:Int}{d1 d2:D}(h:Wh z1 d1)(j:Wh z2 d2)(a:z1.natAbs<cap 1024)(b:z2.natAbs<cap 1024):∃d,ai VS 234 [d1,d2] (.tu [d,.i .i64 0])/\Wh (Nat.gcd z1.natAbs z2.natAbs:Nat) d:=by
 obtain⟨w,rfl,g1⟩:=h.h;obtain⟨x,rfl,c⟩:=j.h;have k:=λ{H K}=>zY g1 c a b (H:=H) (K:=K);obtain⟨z,l,f⟩:=nU g1 (mP a (by omega));obtain⟨r1,r2,r3⟩:=nU c (mP b (by omega));have n:=λ{H K}=>l.c (H:=H) (K:=K) mt rfl g1.p1 (.inl rfl);have o:=λ{H K}=>r2.c (H:=H) (K:=K) mt rfl c.p1 (.inl rfl);obtain⟨t1,p,g⟩:=ayf f r3 (iI a (by omega)) (iI b (by omega));have q:=λ{H K}=>p.c (H:=H) (K:=K) Uk rfl (by simp[f.pl,r3.pl]) (.inl rfl);have A:(ds 4294967296 (Nat.gcd z1.natAbs z2.natAbs)).length<1000000000:=by
  by_cases r:z1.natAbs=0;·rw[r,Nat.gcd_zero_left];exact iI b (by omega)
  exact kx (fV aB (Nat.gcd_le_left _ (by omega))) (iI a (by omega))
 obtain⟨B,s,e⟩:=re (neg:=false) g.sl (co aB _) (by omega);rw[bF aB]at e;have t:=λ{H K}=>s.c (H:=H) (K:=K) nw rfl (by simp[g.pl,jS]) (.inl rfl);obtain⟨y,rfl,u⟩:=e.h;have v:=λm H=>ah u.sl.flat m H;refine⟨_,.body T7 rfl ?_,e⟩;simp[go_sem,simprocAttr,awb,k,n,o,q,t,v]
def aym{z1:Int}{a:Nat}{d1 d2:D}(h1:Wh z1 d1)(h2:Wh (a:Int) d2)(h0:a≠0)(o:z1.natAbs<cap 1023)(j:a<cap 1024):∃d e,ai VS 224 [d1,d2] (.tu [d,e,.i .i64 0])/\Wh (z1/a) d/\Wh (z1%a) e:=by
 obtain⟨y1,rfl,g1⟩:=h1.h;obtain⟨y2,rfl,g⟩:=h2.h;have l:=λ{H K}=>zY g1 g (aQ o (by omega)) j (H:=H) (K:=K);obtain⟨p1,p2,U⟩:=nU g1 (mP o (by omega));obtain⟨r1,r2,r3⟩:=nU g (mP j (by omega));have G:=λ{H K}=>p2.c (H:=H) (K:=K) mt rfl g1.p1 (.inl rfl);have I:=λ{H K}=>r2.c (H:=H) (K:=K) mt rfl g.p1 (.inl rfl);have nn:((a:Int)).natAbs=a:=rfl;have F:decide ((a:Int)<0)=false:=by simp
 rw[nn]at r3 g;rw[F]at l;have J:¬((ds 65536 a).length:Int)=0:=by grind[ph]
 obtain⟨q,r,t2,h,hr⟩:=Pn U r3 h0 (iI o (by omega)) (iI j (by omega));have L:=λ{H K}=>t2.c (H:=H) (K:=K) BV rfl (by simp[U.pl,r3.pl]) (.inl rfl);have M:=AAT z1.natAbs a;have V:=mm z1.natAbs (show 0<a by omega);have N:z1.natAbs/a<=z1.natAbs:=Nat.div_le_self _ _;have W:=kx (fV aB N) (iI o (by omega));have al:=kx (fV aB (ABV V)) (iI j (by omega));obtain⟨Q,P⟩:∃Q,Q=z1.natAbs/a:=⟨_,rfl⟩;obtain⟨R,hR⟩:∃R,R=z1.natAbs%a:=⟨_,rfl⟩;rw[<-P,<-hR]at M;rw[<-P]at h W N;rw[<-hR]at hr al V;by_cases X:z1<0
 ·have d1:decide (z1<0)=true:=by simp[X]
  rw[d1]at l;rw[d1];by_cases p:R=0
  ·obtain⟨Y,s,c⟩:=re (neg:=true) h.sl (co aB _) (by omega);obtain⟨t1,t,f⟩:=re (neg:=false) hr.sl (co aB _) (by omega);rw[bF aB]at c f;have u:=λ{H K}=>s.c (H:=H) (K:=K) nw rfl (by simp[h.pl,jS]) (.inl rfl);have v:=λ{H K}=>t.c (H:=H) (K:=K) nw rfl (by simp[hr.pl,jS]) (.inl rfl);have w:(if true=true then-(Q:Int)else Q)=z1/a:=by
    have:z1=a*(-Q):=by
     have:(z1.natAbs:Int)=a*Q:=by rw[<-M,p];simp
     grind
    rw[this,ACE _ (by omega)];simp
   have x:(if false=true then-(R:Int)else R)=z1%a:=by
    have:z1=a*(-Q):=by
     have:(z1.natAbs:Int)=a*Q:=by rw[<-M,p];simp
     grind
    rw[this,Int.mul_emod_right,p];simp
   rw[w]at c;rw[x]at f;obtain⟨Z,rfl,z⟩:=c.h;obtain⟨w2,rfl,A⟩:=f.h;have B:=λm H=>ah z.sl.flat m H;have C:=λm H=>ah A.sl.flat m H;have S:((ds 4294967296 R).length:Int)=0:=by rw[p,bE];rfl
   refine⟨_,_,.body BT rfl ?_,c,f⟩;simp only[go_sem,simprocAttr,NE,l,G,I,L,g.sl.n,hr.sl.n,J,S,F,u,v,B,C]
  obtain⟨a1,a2,a3⟩:=acf h (b:=1) (y:=.im 1 [[.i .u32 1]]) ⟨by rw[gF aB (by omega)];simp only[Nat.reduceMod,Nat.reduceDiv,bE];exact .im⟩ W (by rw[gF aB (by omega)];simp only[Nat.reduceMod,Nat.reduceDiv,bE];simp);have e6:=λ{H K}=>eU (args:=[q,.sv 1 [[.i .u32 1]]]) (H:=H) (H1:=H) (K:=K) G9 rfl a2 (by have eq:=λm H=>ah h.sl.flat m H;simp[go_sem,eq]);obtain⟨m1,m2,m3⟩:=Pi r3 hr (by omega) (iI j (by omega));have e7:=λ{H K}=>m2.c (H:=H) (K:=K) BX rfl (by simp[r3.pl,hr.pl]) (.inl rfl);obtain⟨Y,s,c⟩:=re (neg:=true) a3.sl (co aB _) (by have:=acs (k:=4096) (aQ (EA (n:=1024) (kx N o) (hI (show 1<65536^1 by omega) (nV (show 1<=1023 by omega))) (by omega)) (by omega));omega);obtain⟨t1,t,f⟩:=re (neg:=false) m3.sl (co aB _) (by have:=fV aB (ACS a R);have:=iI j (by omega);omega);rw[bF aB]at c f;have u:=λ{H K}=>s.c (H:=H) (K:=K) nw rfl (by simp[a3.pl,jS]) (.inl rfl);have v:=λ{H K}=>t.c (H:=H) (K:=K) nw rfl (by simp[m3.pl,jS]) (.inl rfl);have E:z1=((a-R:Nat))+a*(-(Q+1)):=by grind
  have w:(if true=true then-((Q+1:Nat):Int)else((Q+1:Nat)))=z1/a:=by rw[E,Int.add_mul_ediv_left _ _ (by omega),Int.ediv_eq_zero_of_lt (by omega) (by omega)];simp
  have x:(if false=true then-((a-R:Nat):Int)else((a-R:Nat)))=z1%a:=by
   conv=>rhs;rw[E]
   rw[Int.add_mul_emod_self_left,Int.emod_eq_of_lt (by omega) (by omega)];simp
  rw[w]at c;rw[x]at f;obtain⟨Z,rfl,z⟩:=c.h;obtain⟨w2,rfl,A⟩:=f.h;have B:=λm H=>ah z.sl.flat m H;have C:=λm H=>ah A.sl.flat m H;have S:0<((ds 4294967296 R).length:Int):=by have:=ph aB p;omega
  refine⟨_,_,.body BT rfl ?_,c,f⟩;simp only[go_sem,simprocAttr,NE,l,G,I,L,g.sl.n,hr.sl.n,J,S,F,wW,e6,e7,u,v,B,C]
 have d1:decide (z1<0)=false:=by simp[X]
 rw[d1]at l;rw[d1];obtain⟨Y,s,c⟩:=re (neg:=false) h.sl (co aB _) (by omega);obtain⟨t1,t,f⟩:=re (neg:=false) hr.sl (co aB _) (by omega);rw[bF aB]at c f;have u:=λ{H K}=>s.c (H:=H) (K:=K) nw rfl (by simp[h.pl,jS]) (.inl rfl);have v:=λ{H K}=>t.c (H:=H) (K:=K) nw rfl (by simp[hr.pl,jS]) (.inl rfl);have E:z1=(z1.natAbs:Int):=by omega
 have w:(if false=true then-(Q:Int)else Q)=z1/a:=by rw[E,P];simp
 have x:(if false=true then-(R:Int)else R)=z1%a:=by rw[E,hR];simp
 rw[w]at c;rw[x]at f;obtain⟨Z,rfl,z⟩:=c.h;obtain⟨w2,rfl,A⟩:=f.h;have B:=λm H=>ah z.sl.flat m H;have C:=λm H=>ah A.sl.flat m H;refine⟨_,_,.body BT rfl ?_,c,f⟩;simp only[go_sem,simprocAttr,NE,l,G,I,L,g.sl.n,J,F,u,v,B,C]
end
section
open Go.Dm
set_option maxRecDepth 10000
def di (a b:Int):Int:=if a<b then -1 else if a=b then 0 else 1
theorem act {z1 z2:Int} {d1 d2:D} (h1:Wh z1 d1) (h2:Wh z2 d2) (b1:z1.natAbs<cap 1024) (b2:z2.natAbs<cap 1024):ai VS 178 [d1,d2] (.i .i64 (di z1 z2)):=by
 obtain⟨y1,rfl,g1⟩:=h1.h
 obtain⟨y2,rfl,g2⟩:=h2.h
 have e0:=fun{H K}=>zY g1 g2 b1 b2 (H:=H) (K:=K)
 obtain⟨p1,p2,p3⟩:=nU g1 (mP b1 (by omega))
 obtain⟨r1,r2,r3⟩:=nU g2 (mP b2 (by omega))
 have e1:=fun{H K}=>p2.c (H:=H) (K:=K) mt rfl g1.p1 (.inl rfl)
 have e2:=fun{H K}=>r2.c (H:=H) (K:=K) mt rfl g2.p1 (.inl rfl)
 have l1:=iI b1 (by omega)
 have l2:=iI b2 (by omega)
 have ec:=fun{H K}=>(Et p3 r3 (by omega) (by omega)).c (H:=H) (K:=K) yx rfl (by simp[p3.pl,r3.pl]) (.inl rfl)
 refine .body GZ rfl ?_
 rcases ACA z1 0 with a|a<;>rcases ACA z2 0 with b|b
 ·have d1:decide (z1<0)=true:=by simp[a]
  have d2:decide (z2<0)=true:=by simp[b]
  rw[d1,d2]at e0
  have hi:di z1 z2 = - iH z1.natAbs z2.natAbs:=by grind[di,iH]
  have hw:IntKind.i64.wrap (0-iH z1.natAbs z2.natAbs) = - iH z1.natAbs z2.natAbs:=by
   grind[iH,wr]
  rw[hi]
  simp  only[go_sem,simprocAttr,DZ,d1,d2,e0,e1,e2,ec,hw]
 ·have d1:decide (z1<0)=true:=by simp[a]
  have d2:decide (z2<0)=false:=by grind
  rw[d1,d2]at e0
  have hi:di z1 z2 = -1:=by grind[di]
  rw[hi]
  simp  [go_sem,simprocAttr,DZ,d1,d2,e0]
 ·have d1:decide (z1<0)=false:=by grind
  have d2:decide (z2<0)=true:=by simp[b]
  rw[d1,d2]at e0
  have hi:di z1 z2=1:=by grind[di]
  rw[hi]
  simp  [go_sem,simprocAttr,DZ,d1,d2,e0]
 ·have d1:decide (z1<0)=false:=by grind
  have d2:decide (z2<0)=false:=by grind
  rw[d1,d2]at e0
  have hi:di z1 z2=iH z1.natAbs z2.natAbs:=by grind[di,iH]
  rw[hi]
  simp  [go_sem,simprocAttr,DZ,d1,d2,e0,e1,e2,ec]
theorem rh {l:List Nat} {x:D} (h:Sl 1 (l.map u16) x) (hn:l.length<70368744177665) : ∃ d,ai VS 173 [x] d /\ Sl 1 (l.map u16) d:=by
 refine aH.ex (.body oM rfl ?_)
 have ea:=BA (bytes:=2) (x0 := .z) rfl h (fun _=>rfl) (by omega) (by omega) (H:=[])
 have hs:Sl 1 (l.map u16) (iW .z 1 _):=oH rfl 1 _
 have hf:eE (bH [] 1 (l.map u16)) _=some (iW .z 1 _):=GB rfl
 by_cases hx:x = .nil
 ·subst hx
  have e1:ej false .sl .nil .nil=some (.b true):=rfl
  simp  [go_sem,aam,e1]
  exact h
 ·have e1:ej false .sl x .nil=some (.b false):=by
   cases h with
   | nil=>grind
   | z=>rfl
   | im=>rfl
  simp  [go_sem,aam,e1,ea,hf]
  exact hs
structure ayn (S:Nat) (n:Int) (a2:D) (i:Nat) (s:St):Prop where
 h : ∃ ws c a3 a4 a8,ws.length=4 /\ lm 65536 ws /\ c <= i /\ i <= 4 /\ vl 65536 ws=S%65536 ^ i /\ (∀ k,c <= k -> k<4 -> ws[k]! = 0) /\ (c≠0 -> ws[c-1]! ≠ 0) /\
  s=⟨[.i .i64 n,.bx [.b false,.nil],a2,a3,a4,.i .u64 (S:Int),.i .i64 (c:Int),.i .i64 (i:Int),a8,.aa 0],[.ar 1 (ws.map u16) (some 4) true false]⟩
theorem ayo {S i:Nat} (hi:i<4):bin .shr (.i .u64 (S:Int)) (.i .i64 (16*(i:Int)))=some (.i .u64 ((S/65536 ^ i:Nat):Int)):=by
 rw[show 16*i=((16*i:Nat):Int)by omega,ff (by show 16*i<64;omega),ACf]
theorem zZ {n:Int} (hn : -9223372036854775808 <= n /\ n<9223372036854775808) : ∃ d,ai VS 123 [.i .i64 n] d /\ Wh n d:=by
  obtain⟨S,hS⟩ : ∃ S,S=n.natAbs:=⟨_,rfl⟩
  have key : ∀ {a2:D},ak VS (.loop LU) ⟨[.i .i64 n,.bx [.b false,.nil],a2,.u,.u,.i .u64 (S:Int),.i .i64 0,.i .i64 0,.u,.aa 0],[.ar 1 [[.i .u16 0],[.i .u16 0],[.i .u16 0],[.i .u16 0]] (some 4) true false]⟩ (lG 0 (kK VS (.seq (.reg [⟨.mov (.s 0),none,none⟩,
 ⟨.bin .lss (.l 0) (.c (.i .i64 0)),none,none⟩,
 ⟨.mov (.s 6),none,none⟩,
 ⟨.sla (.s 9) 4 1 none (some (.l 2)),none,none⟩,
 ⟨.call 173 [(.l 3)],none,none⟩,
 ⟨.agc [(.b false),.nil] [(0,1,(.l 1)),(1,1,(.l 4))],none,none⟩,
 ⟨.lst (.sl 1) (.l 5) 2,none,none⟩] none) .ret) (du [.bx 1 2 true] (fE false fun r => ∃ d,r = .ret d /\ Wh n d)))):=by
    intro a2
    refine ak.up (ayn S n a2) 4 ⟨[0,0,0,0],0,_,_,_,rfl,by intro a ha;grind,by omega,by omega,by rw[Nat.mod_one];rfl,fun k _ hk=>by
      grind,fun h=>absurd rfl h,rfl⟩ ?_
    rintro i s hi ⟨ws,c,a3,a4,a8,hwl,hwm,hc,hi4,hv,hz,ht,rfl⟩
    by_cases hlt:i<4
    · have c1:(i:Int)<4:=by omega
      obtain⟨v,hv'⟩ : ∃ v,v=S/65536 ^ i%65536:=⟨_,rfl⟩
      have e1:=ayo (S:=S) hlt
      have e2:IntKind.u16.wrap ((S/65536 ^ i:Nat))=v:=by grind[PD]
      have hvl:v<65536:=by omega
      have g1:=ku (B:=65536) (l:=ws) (i:=i) (v:=v) (by omega)
      rw[hz i hc hlt,nu,l4]at g1
      have gget:(ws.set i v)[i]! = v:=by grind
      have gne : ∀ k,k≠i -> k<4 -> (ws.set i v)[k]! = ws[k]! := fun k hk hk4=>by
        grind
      have hv2:vl 65536 (ws.set i v)=S%65536 ^ (i+1):=by rw[g1,hv,hv',Nat.mod_pow_succ]
      simp(disch:=omega) only[go_sem,Z6,c1,wr,e1,e2,u16,hwl,Ar,gget]
      by_cases h0:v=0
      · have d1:(v:Int)=0:=by omega
        simp  only[go_sem,d1]
        repeat' first|(refine And.intro ?_ ?_)|intro _
        all_goals try omega
        refine⟨ws.set i v,c,_,_,_,by grind,gG hwm hvl,by omega,by omega,hv2,fun k h3 h4 => ?_,fun hc0 => ?_,by rfl⟩
        · by_cases hk:k=i
          · rw[hk,gget,h0]
          · rw[gne k hk h4];exact hz k h3 h4
        · rw[gne (c-1) (by omega) (by omega)];exact ht hc0
      · have d1 : ¬ (v:Int)=0:=by omega
        simp  only[go_sem,d1]
        repeat' first|(refine And.intro ?_ ?_)|intro _
        all_goals try omega
        refine⟨ws.set i v,i+1,_,_,_,by grind,gG hwm hvl,by omega,by omega,hv2,fun k h3 h4 => ?_,fun hc0 => ?_,rfl⟩
        · rw[gne k (by omega) h4];exact hz k (by omega) h4
        · rw[ABo,gget];exact h0
    · have hi4':i=4:=by omega
      subst hi4'
      have hSb:S<65536 ^ 4:=by omega
      rw[m0 hSb]at hv
      have hds:ds 65536 S=ws.take c:=by
        rw[<- hv]
        refine xm aM hwm (by omega) ?_ ?_
        · grind[acT]
        · by_cases hc0:c=0
          · rw[hc0];exact fun h=>absurd rfl h
          · have:=Pf (by omega) (ht hc0)
            grind
      have hcl:(ws.take c).length=c:=by grind
      obtain⟨d,hd1,hd2⟩:=rh (l:=ws.take c) .im (by omega)
      simp  only[go_sem,simprocAttr,Z6,hwl]
      refine⟨⟨by omega,by omega⟩,ac.fzr oM rfl rfl hd1 ⟨_,by simp  only[go_sem,simprocAttr,hwl,hc,ABt];rfl⟩ (fun H' => ?_)⟩
      have ef:=fun m H=>ah hd2.flat m H
      simp  [go_sem,simprocAttr,hd2.c1,ef]
      exact⟨d,rfl,⟨by grind⟩⟩
  refine aH.ex (.body sF rfl ?_)
  by_cases h0:n<0
  · have e1:IntKind.u64.wrap (0-IntKind.u64.wrap n)=S:=by grind[eP]
    have:=key (a2 := .b true)
    simp  only[go_sem,simprocAttr,Z7,h0,e1]
    omega
  · have e1:IntKind.u64.wrap n=S:=by grind[eP]
    have:=key (a2 := .b false)
    simp  [go_sem,simprocAttr,Z7,h0,e1]
    omega
end
section
open Go.Dm
set_option maxRecDepth 10000
def ayp{l m:List Nat}{x y:D}(a:Sl 1 (l.map u16) x)(c:Sl 1 (m.map u16) y)(r:l.length<70368744177665)(t:m.length<70368744177665):ai VS 197 [x,y] (.b (decide (l=m))):=by
 refine .body Tz rfl ?_;by_cases f:l.length=m.length
 ·have d:(l.length:Int)=m.length:=by omega
  simp[go_sem,aay,a.n,c.n,d];rw[<-d];refine ak.up (λi s=>∃g h j,(∀k,k<i->l[k]! =m[k]!)/\s=⟨[x,y,.b false,.b false,g,h,.i .i64 i,.i .i64 _,j],[]⟩) l.length ⟨_,_,_,λk u=>by omega,rfl⟩ ?_;rintro i s hi⟨g,h,j,v,rfl⟩;by_cases w:i<l.length
  ·have n:(i:Int)<(l.length:Int):=by omega
   simp(disch:=omega)only[go_sem,aax,a.q,c.q,a.under,c.under,u16,wr,n];grind
  have o:i=l.length:=by omega
  subst o;have p:=by refine ACB f λk z A=>?_;grind
  simp[go_sem,aax,sm,p]
 have d:¬(l.length:Int)=m.length:=by omega
 have q:l≠m:=λe=>f (by rw[e]);simp[go_sem,aay,a.n,c.n,d,q]
def acu{n1 n2:Bool}{l m:List Nat}{x y:D}(a:Sl 1 (l.map u16) x)(d:Sl 1 (m.map u16) y)(e:l.length<70368744177665)(f:m.length<70368744177665):ai VS 151 [.ag [.b n1,x],.ag [.b n2,y]] (.b ((n1==n2)&&decide (l=m))):=by have g:=λ{H K}=>(ayp a d e f).c (H:=H) (K:=K) Tz rfl (by simp[a.pl,d.pl]) (.inl rfl);refine .body GU rfl ?_;cases n1<;>cases n2<;>simp[go_sem,avx,g]
def ayq{l:List Nat}{x:D}{t:Nat}(f:Sl 1 (l.map u16) x)(p:l.length<1099511627776){y c:Nat}{I:Nat->ab->Prop}(g:∀i H,I i H->H[c]?=some (.hb t [x]))(hs:∀i H,i<l.length->I (i+1) H->ac VS yF [.yl y,.i .u16 (l[i]!:Int)] H (λr=>∃a,r=.ret (.b true) a/\I i a)){H:ab}(j:I l.length H):ac VS 216 [.yl y,.hp c 0] H (λr=>∃d a,r=.ret d a/\I 0 a):=by
 refine .body alv rfl rfl ?_;simp[go_sem,av0,g _ _ j,f.n];refine ak.loop (acl _ y c 261 x I) _ ⟨G1 _,.u,.u,H,by grind[wr],j⟩ ?_;rintro k s⟨q,v,w,a,rfl,m⟩;rcases k with _|k;·simp[go_sem,simprocAttr,aaJ];grind
 have e:(((k+1:Nat):Int)-1)=k:=by omega
 rw[e];simp only[go_sem,aaJ,g _ _ m,f.q,u16];refine⟨λ_=>⟨⟨by omega,by omega⟩,(hs k a (by omega) m).mono ?_⟩,λh=>absurd (by omega) h⟩;rintro r⟨n,rfl,o⟩;simp(disch:=omega)only[go_sem,wr];exact⟨k,by omega,by omega,_,_,n,rfl,o⟩
def ayr{x:D}{H:ab}{rows:List (List D)}(a:Sl 1 rows x):ac VS 172 [x] H (λr=>r=.ret (.fn (.func 216) [] [.hp H.length 0]) (H++[.hb 30 [x]])):=by refine .body aln rfl rfl ?_;simp[go_sem,avG,a.c1]
def ays{x:Int}:IntKind.wrap .i64 x=if 9223372036854775808<=x%18446744073709551616 then x%18446744073709551616-18446744073709551616 else x%18446744073709551616:=by have e:IntKind.wrap .i64 x=if(true&&decide (x%18446744073709551616>=9223372036854775808))=true then x%18446744073709551616-18446744073709551616 else x%18446744073709551616:=rfl;grind
def ib(z:Int):Bool:=decide (-9223372036854775808<=z/\z<9223372036854775808)
def ayt{l:List Nat}(h:lm 65536 l)(a:l.length<=4):vl 65536 l<18446744073709551616:=by have:=dR aM h;have:65536^l.length<=65536^4:=m4 (by omega) a;omega
def ayu{z:Int}{d:D}(h:Wh z d)(w:z.natAbs<cap 1024):ai VS 122 [d] (.tu [.i .i64 (if ib z then z else 0),.i .i64 (if ib z then 0 else 3)]):=by
 obtain⟨y,rfl,j⟩:=h.h;have hs:=j.sl;have e:=co aM z.natAbs;have m:=bF aM z.natAbs;have n:=λ{H K}=>(Pr j w).c (H:=H) (K:=K) vJ rfl (by simp[bO,cg,hs.flat]) (.inl rfl);refine ai.iff_q.2 (.bodyR Th rfl rfl ?_);by_cases o:(ds 65536 z.natAbs).length<=4
 ·have p:=ayt e o;rw[m]at p;generalize ds 65536 _=l at*;have f:¬(4:Int)<l.length:=by omega
  simp[go_sem,Z5,n,hs.n,f];refine(ayr hs).mono ?_;rintro r rfl;simp[go_sem,simprocAttr];rw[yi Uz rfl (by decide)];refine(ayq hs (by omega) (I:=λk H=>H=[.hb 32 [.b (decide (z<0)),y],.hb 123 [.i .u64 (vl 65536 (l.drop k))],.hb 30 [y],.df,.yh r1.f r1.path 1 r1.nt r1.tm [.ag [.b (decide (z<0)),y],.i .i64 0,.i .i64 0,.b false,.b false,.fn (.func 216) [] [.hp 2 0],.u,.u,.u,.u,.hp 0 0,.hp 1 0,.u] .rd]) (λi H h=>by rw[h];rfl) ?_ ?_).mono ?_
  ·rintro i H hi rfl;refine ac.round vM rfl Uz ⟨rfl,rfl,rfl,rfl,rfl⟩ ?_;simp only[go_sem,simprocAttr,avp,gP];have J:=cF e hi;have L:vl 65536 (l.drop (i+1))<281474976710656:=by have:=dR aM (Ak e (i+1));have:65536^(l.drop (i+1)).length<=65536^3:=m4 (by omega) (by rw[nr];omega);omega
   have x:=dJ (B:=65536) hi;obtain⟨v,A⟩:∃v,v=vl 65536 (l.drop (i+1)):=⟨_,rfl⟩;have C:bin .shl (.i .u64 v) (.i .u64 16)=some (.i .u64 ((v*65536:Nat))):=by rw[show bin .shl _ (.i .u64 16)=some _ from uB (s:=16) (by decide),bW (by omega)]
   have E:bin .or (.i .u64 ((v*65536:Nat))) (.i .u64 l[i]!)=some (.i .u64 ((l[i]!+65536*v:Nat))):=by rw[Ap (by omega) (by omega),show v*65536=v*2^16 from rfl,Aq (by omega)];congr 2;omega
   refine⟨_,_,_,_,_,_,rfl,?_⟩;have F:IntKind.u64.wrap _=l[i]!:=bW (by omega);simp only[go_sem,<-A,C,E,F,x];exact⟨_,_,_,_,_,_,rfl,rfl⟩
  ·rw[T5 (G1 _)];rfl
  rintro r⟨d,M,rfl,rfl⟩;rw[vE rfl];rw[AAN,m];obtain⟨S,G⟩:∃S,S=z.natAbs:=⟨_,rfl⟩;rw[<-G]at p⊢;by_cases q:z<0
  ·have d1:decide (z<0)=true:=by simp[q]
   rw[d1];by_cases t:9223372036854775808<S
   ·have a:(9223372036854775808:Int)<S:=by omega
    have hi:ib z=false:=by simp[ib];omega
    simp[go_sem,simprocAttr,a,hi]
   have a:¬(9223372036854775808:Int)<S:=by omega
   have hi:ib z=true:=by simp[ib];omega
   have g:IntKind.i64.wrap (IntKind.u64.wrap (0-S))=z:=by rw[eP,ays];omega
   simp only[go_sem,simprocAttr,a,hi,g]
  have d1:decide (z<0)=false:=by simp[q]
  rw[d1];by_cases t:9223372036854775808<=S
  ·have a:(9223372036854775808:Int)<=S:=by omega
   have hi:ib z=false:=by simp[ib];omega
   simp[go_sem,simprocAttr,a,hi]
  have a:¬(9223372036854775808:Int)<=S:=by omega
  have hi:ib z=true:=by simp[ib];omega
  have g:IntKind.i64.wrap S=z:=by rw[wr (by omega) (by omega)];omega
  simp[go_sem,simprocAttr,a,hi,g]
 have f:4<((ds 65536 z.natAbs).length:Int):=by omega
 have t:18446744073709551616<=z.natAbs:=by
  rcases lu z.natAbs 18446744073709551616 with c|c;·exact absurd ((jB aM).2 c) o
  exact c
 have hi:ib z=false:=by simp[ib];omega
 simp[go_sem,Z5,n,hs.n,f,hi]
end
section
open Go.Dm
set_option maxRecDepth 10000
def jy{z1 z2:Int}{d1 d2:D}(a:Wh z1 d1)(b:Wh z2 d2)(e:z1.natAbs<cap 512)(f:z2.natAbs<cap 512):∃d,ai VS 179 [d1,d2] d/\Wh (z1*z2) d:=by obtain⟨d,g1,c⟩:=ayi a b e f;have g:=λ{H K}=>g1.c (H:=H) (K:=K) TR rfl (by simp[a.pl,b.pl]) (.inl rfl);obtain⟨j,rfl,k⟩:=a.h;obtain⟨l,rfl,n⟩:=b.h;obtain⟨y,rfl,h⟩:=c.h;have i:=λm H=>ah h.sl.flat m H;refine⟨_,.body iw rfl ?_,c⟩;simp[go_sem,avK,g,i]
def EC{z1 z2:Int}{d1 d2:D}(a:Wh z1 d1)(b:Wh z2 d2)(e:z1.natAbs<cap 1023)(f:z2.natAbs<cap 1023):∃d,ai VS 183 [d1,d2] d/\Wh (z1+z2) d:=by obtain⟨d,g1,c⟩:=ayk a b e f;have g:=λ{H K}=>g1.c (H:=H) (K:=K) TS rfl (by simp[a.pl,b.pl]) (.inl rfl);obtain⟨j,rfl,k⟩:=a.h;obtain⟨l,rfl,n⟩:=b.h;obtain⟨y,rfl,h⟩:=c.h;have i:=λm H=>ah h.sl.flat m H;refine⟨_,.body vL rfl ?_,c⟩;simp[go_sem,avN,g,i]
def Pt{z1 z2:Int}{d1 d2:D}(a:Wh z1 d1)(b:Wh z2 d2)(e:z1.natAbs<cap 1024)(f:z2.natAbs<cap 1024):∃d,ai VS 195 [d1,d2] d/\Wh (Nat.gcd z1.natAbs z2.natAbs:Nat) d:=by obtain⟨d,g1,c⟩:=ayl a b e f;have g:=λ{H K}=>g1.c (H:=H) (K:=K) T7 rfl (by simp[a.pl,b.pl]) (.inl rfl);obtain⟨j,rfl,k⟩:=a.h;obtain⟨l,rfl,n⟩:=b.h;obtain⟨y,rfl,h⟩:=c.h;have i:=λm H=>ah h.sl.flat m H;refine⟨_,.body BS rfl ?_,c⟩;simp[go_sem,avQ,g,i]
def Aa{z1:Int}{a:Nat}{d1 d2:D}(b:Wh z1 d1)(c:Wh (a:Int) d2)(h:a≠0)(i:z1.natAbs<cap 1023)(j:a<cap 1024):∃d e,ai VS 182 [d1,d2] (.tu [d,e])/\Wh (z1/a) d/\Wh (z1%a) e:=by obtain⟨d,e,g1,f,g⟩:=aym b c h i j;have k:=λ{H K}=>g1.c (H:=H) (K:=K) BT rfl (by simp[b.pl,c.pl]) (.inl rfl);obtain⟨q,rfl,r⟩:=b.h;obtain⟨s,rfl,t⟩:=c.h;obtain⟨y,rfl,l⟩:=f.h;obtain⟨w,rfl,n⟩:=g.h;have o:=λm H=>ah l.sl.flat m H;have p:=λm H=>ah n.sl.flat m H;refine⟨_,_,.body vK rfl ?_,f,g⟩;simp[go_sem,avM,k,o,p]
def Pu{z:Int}{d:D}(h:Wh z d)(b:z.natAbs<cap 1024):∃e,ai VS 232 [d] e/\Wh (-z) e:=by
 obtain⟨y,rfl,a⟩:=h.h;have p:=jx.2 b;obtain⟨c,k,f⟩:=rh a.sl (by omega);have g:=λ{H K}=>k.c (H:=H) (K:=K) oM rfl (by simp[a.pl]) (.inl rfl);have i:=λm H=>ah f.flat m H;have l:(-z).natAbs=z.natAbs:=by omega
 refine⟨.ag [.b _,c],.body BU rfl ?_,⟨c,rfl,⟨by rw[l];exact f⟩⟩⟩;rcases ACA z 0 with j|j
 ·have d1:decide (z<0)=true:=by simp[j]
  have d2:decide (-z<0)=false:=by simp;omega
  simp only[go_sem,simprocAttr,NP,d1,d2,g,i,f.c1]
 have d1:decide (z<0)=false:=by simp;omega
 by_cases o:z=0
 ·have d2:decide (-z<0)=false:=by simp;omega
  have c3:¬0<((ds 65536 z.natAbs).length:Int):=by rw[o];simp[bE]
  simp only[go_sem,simprocAttr,NP,d1,d2,a.sl.n,c3,g,i,f.c1]
 have d2:decide (-z<0)=true:=by simp;omega
 have c3:0<((ds 65536 z.natAbs).length:Int):=by have:=ph aM (n:=z.natAbs) (by omega);omega
 simp only[go_sem,simprocAttr,NP,d1,d2,a.sl.n,c3,g,i,f.c1]
def acv{s:Bool}{l:List Nat}{x:D}(h:Sl 1 (l.map u16) x):ai VS 170 [.ag [.b s,x]] (.b (!s&&decide (l=[1]))):=by refine .body GW rfl ?_;cases s with|true=>simp[go_sem,simprocAttr,MA]|false=>
 by_cases c:l.length=1;·match l,c with|[a],_=>have g:([a]:List Nat)[0]! =a:=rfl;simp only[go_sem,simprocAttr,MA,h.n,h.q,u16,g];grind
 have d:¬(l.length:Int)=1:=by omega
 have e:l≠[1]:=by grind
 simp[go_sem,simprocAttr,MA,h.n,d,e]
def acw{s t:Bool}{l m:List Nat}{x y:D}(h:Sl 1 (l.map u16) x)(d:Sl 1 (m.map u16) y):ai VS 194 [.ag [.b s,x,.b t,y]] (.b (decide (256<l.length)||decide (256<m.length))):=by
 refine .body G6 rfl ?_;by_cases e:256<l.length
 ·have a:(256:Int)<l.length:=by omega
  simp[go_sem,simprocAttr,MX,h.n,a,e,ACF]
 have a:¬(256:Int)<l.length:=by omega
 by_cases f:256<m.length
 ·have c:(256:Int)<m.length:=by omega
  simp[go_sem,simprocAttr,MX,h.n,d.n,c,f,ABP]
 have c:¬(256:Int)<m.length:=by omega
 simp[go_sem,simprocAttr,MX,h.n,d.n,a,e,c,f,ABP]
def acx{s t:Bool}{l m:List Nat}{x y:D}(h:Sl 1 (l.map u16) x)(a:Sl 1 (m.map u16) y):ai VS 121 [.ag [.b s,x,.b t,y]] (.b (!t&&decide (m=[1]))):=by have d:=λ{H K}=>(acv (s:=t) a).c (H:=H) (K:=K) GW rfl (by simp[bO,cg,a.flat]) (.inl rfl);refine .body GQ rfl ?_;simp[go_sem,avo,d]
def cW(s:Bool)(l:List Nat)(t:Bool)(m:List Nat):Bool:=decide (l.length<=256)&&decide (m.length<=256)&&ia s l&&ia t m&&!t&&decide (m≠[])&&(Nat.gcd (vl 65536 l) (vl 65536 m)==1)
def ayv{s t:Bool}{l m:List Nat}{x y:D}(h:Sl 1 (l.map u16) x)(d:Sl 1 (m.map u16) y)(C:lm 65536 l)(E:lm 65536 m)(F:l.length<70368744177665)(I:m.length<70368744177665):ai VS 102 [.ag [.b s,x,.b t,y]] (.b (cW s l t m)):=by
 have q:([.ag [.b s,x,.b t,y]]).all D.plain=true:=by simp[bO,cg,h.flat,d.flat]
 have e:=λ{H K}=>(acw h d).c (H:=H) (K:=K) G6 rfl q (.inl rfl);have f:=λ{H K}=>(Pq (neg:=s) h F).c (H:=H) (K:=K) vJ rfl (by grind[bO,cg]) (.inl rfl);have i:=λ{H K}=>(Pq (neg:=t) d I).c (H:=H) (K:=K) vJ rfl (by grind[bO,cg]) (.inl rfl);have j:=λ{H K}=>(acx h d).c (H:=H) (K:=K) GQ rfl q (.inl rfl);have key:ai VS 146 [.ag [.b s,x,.b t,y]] (.b (cW s l t m)):=by
  refine .body Tj rfl ?_;by_cases hL:(decide (256<l.length)||decide (256<m.length))=true
  ·have a:cW s l t m=false:=by grind[cW]
   rw[hL]at e;simp[go_sem,ud,e,a]
  have r:(decide (256<l.length)||decide (256<m.length))=false:=by grind
  rw[r]at e;simp[ABZ,vy,Nat.not_lt]at r
  obtain⟨J,L⟩:=r;cases k:ia s l with|false=>
 have a:cW s l t m=false:=by grind[cW]
 rw[k]at f;simp[go_sem,simprocAttr,ud,e,f,a]|true=>rw[k]at f;cases n:ia t m with
 |false=>
 have a:cW s l t m=false:=by grind[cW]
 rw[n]at i;simp[go_sem,simprocAttr,ud,e,f,i,a]
 |true=>rw[n]at i;cases t with|true=>
  have a:cW s l true m=false:=by grind[cW]
  simp[go_sem,simprocAttr,ud,e,f,i,a]|false=>
  by_cases u:m=[]
  ·have a:cW s l false m=false:=by grind[cW]
   have o:(m.length:Int)=0:=by grind
   simp[go_sem,simprocAttr,ud,e,f,i,d.n,o,a]
  have o:¬(m.length:Int)=0:=by have:=V2.2 u;omega
  obtain⟨M,N,P,Y⟩:=xd h C k;obtain⟨Q,S,u3,Z⟩:=xd d E n;obtain⟨g,g1,v⟩:=Pt M Q N S;rw[P,u3]at v;have w:=λ{H K}=>g1.c (H:=H) (K:=K) BS rfl (by simp[bO,cg,h.flat,d.flat]) (.inl rfl);obtain⟨yg,rfl,z⟩:=v.h;have A:=λ{H K}=>(acv (s:=decide (((Nat.gcd (vl 65536 l) (vl 65536 m)):Int)<0)) z.sl).c (H:=H) (K:=K) GW rfl (by simp[bO,cg,z.sl.flat]) (.inl rfl);obtain⟨G,p⟩:∃G,G=Nat.gcd (vl 65536 l) (vl 65536 m):=⟨_,rfl⟩;have B:decide ((G:Int)<0)=false:=by simp
  have U:((G:Int)).natAbs=G:=rfl;have V:(!false&&decide (ds 65536 G=[1]))=decide (G=1):=by
   have:ds 65536 G=[1]↔G=1:=by
    constructor;·intro h;have:=bF aM G;rw[h]at this;simpa[vl]using this.symm
    intro h;rw[h,gF aM (by omega)];simp[bE]
   simp[this]
  rw[<-p,B,U,V]at A;rw[<-p,B]at w;have a:cW s l false m=decide (G=1):=by unfold cW;rw[k,n,<-p];simp[J,L,u];rfl
  rw[a];by_cases hi:m=[1]
  ·have W:G=1:=by rw[p,hi];simp[vl]
   rw[show(!false&&decide _)=true by simp[hi]]at j;simp only[go_sem,simprocAttr,ud,e,f,i,d.n,o,j,W]
  rw[show(!false&&decide _)=false by simp[hi]]at j;simp only[go_sem,simprocAttr,ud,e,f,i,d.n,o,j,w,A]
 have X:=λ{H K}=>key.c (H:=H) (K:=K) Tj rfl q (.inl rfl);refine .body S9 rfl ?_;simp[go_sem,avf,X]
end
end Go.Proofs.YtigbdbdlkoeadaaGreatDoor.Dv
