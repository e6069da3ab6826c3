/-
  Part of the proof.
-/
import Derived.Test.YtigbdbdlkoeadaaGreatDoorAB
import GoSem.Core.Program
import Derived.Test.YtigbdbdlkoeadaaGreatDoorProg
import Derived.Laws.CopyRow
import Derived.Laws.AppendOwn
import Derived.Control
import Derived.Calls
import Derived.IntWalk
import Derived.Laws.Strings
import Derived.Laws.IdiomStrings
import Derived.Laws.BytesArg
import Derived.Laws.StructEq
import Derived.ChangeKeysEq
import Derived.WideKeyRuns
import Derived.WalkSmall
import Derived.RangeFuncLeaves
import Derived.OrdersIn
import Derived.RangeFuncRecord
set_option linter.all false
namespace Go.Dm
noncomputable def uD:Program:=Go.Proofs.Tryz.prog
def kF:List Bool->Code->Option Code|[],c=>some c|false::p,.seq a _=>kF p a|true::p,.seq _ b=>kF p b|false::p,.block _ c=>kF p c|_::_,_=>none
def uE(P:Program)(f:Nat)(d:List Bool):Option (Array Tmp×Code×Code):=match P.funcs[f]? with
 |some fn=>match fn.body with
  |some c=>match kF d c with|some (.rangeFunc _ e a b)=>some (e,a,b)|_=>none
  |none=>none
 |none=>none
section
structure bI where
 blk:Nat
 off:Nat
 size:Nat
abbrev Mu:=Nat->Option bI
abbrev Kn:=Nat->Nat->Option Value
def aK:Mu:=λ_=>none
def an.isY:an->Bool|.yh ..|.no=>true|_=>false
inductive VR(K:Kn):Mu->ab->D->Value->Prop|b(μ H)(x:Bool):VR K μ H (.b x) (.bool x)|i(μ H)(k:IntKind)(n:Int):VR K μ H (.i k n) (.int k n)|s(μ H)(l:List UInt8):VR K μ H (.s l) (.string ⟨l.toArray⟩)|nil(μ H):VR K μ H .nil (.slice none 0 0)|z(μ H)(ad:Addr):VR K μ H .z (.slice (some ad) 0 0)|im(μ H)(w:Nat)(rows:List (List D))(blk off cap:Nat)(f:Nat->Nat->Value)(hc:rows.length<=cap)(hw:∀(i:Nat)(r:List D),rows[i]?=some r->r.length=w)(hk:∀(i:Nat)(r:List D)(j:Nat)(d:D),rows[i]?=some r->r[j]?=some d->K blk (off+(i*w+j))=some (f i j))(h1:∀(i:Nat)(r:List D)(j:Nat)(d:D),rows[i]?=some r->r[j]?=some d->(f i j).oneCell'=true)(hr:∀(i:Nat)(r:List D)(j:Nat)(d:D),rows[i]?=some r->r[j]?=some d->VR K aK [] d (f i j)):VR K μ H (.im w rows) (.slice (some ⟨blk,off,none⟩) rows.length cap)|sv(μ H)(w:Nat)(rows:List (List D))(blk off cap:Nat)(f:Nat->Nat->Value)(hc:rows.length<=cap)(hw:∀(i:Nat)(r:List D),rows[i]?=some r->r.length=w)(hk:∀(i:Nat)(r:List D)(j:Nat)(d:D),rows[i]?=some r->r[j]?=some d->K blk (off+(i*w+j))=some (f i j))(h1:∀(i:Nat)(r:List D)(j:Nat)(d:D),rows[i]?=some r->r[j]?=some d->(f i j).oneCell'=true)(hr:∀(i:Nat)(r:List D)(j:Nat)(d:D),rows[i]?=some r->r[j]?=some d->VR K μ H d (f i j)):VR K μ H (.sv w rows) (.slice (some ⟨blk,off,none⟩) rows.length cap)|mu(μ H)(a n off len cap blk o:Nat)(l:bI)(w:Nat)(rows:List (List D))(kc:Option Nat)(p lk:Bool)(hm:μ a=some l)(hH:H[a]?=some (.ar w rows kc p lk))(hn:n<=rows.length)(h:rows.length=n->(cap=0\/(blk=l.blk/\o=l.off+off*w))/\off+len<=n/\len<=cap/\n<=off+cap/\l.off+(off+cap)*w<=l.size/\(∀c,kc=some c->off+cap=c)):VR K μ H (.mu a n off len) (.slice (some ⟨blk,o,none⟩) len cap)|np(μ H):VR K μ H .np (.pointer none)|hp(μ H)(b off:Nat)(l:bI)(t:Nat)(cs:List D)(hm:μ b=some l)(hH:H[b]?=some (.hb t cs)):VR K μ H (.hp b off) (.pointer (some ⟨l.blk,off,none⟩))|ap(μ H)(a n i off blk o:Nat)(l:bI)(w:Nat)(rows:List (List D))(kc:Option Nat)(p lk:Bool)(hm:μ a=some l)(hH:H[a]?=some (.ar w rows kc p lk))(hn:n<=rows.length)(h:rows.length=n->blk=l.blk/\o=l.off+i*w+off):VR K μ H (.ap a n i off) (.pointer (some ⟨blk,o,none⟩))|aa(μ H)(a:Nat)(l:bI)(w:Nat)(rows:List (List D))(c:Nat)(p lk:Bool)(hm:μ a=some l)(hH:H[a]?=some (.ar w rows (some c) p lk)):VR K μ H (.aa a) (.pointer (some ⟨l.blk,l.off,none⟩))|ip(μ H)(cs:List D)(blk off:Nat)(f:Nat->Value)(hk:∀(j:Nat)(d:D),cs[j]?=some d->K blk (off+j)=some (f j))(h1:∀(j:Nat)(d:D),cs[j]?=some d->(f j).oneCell'=true)(hr:∀(j:Nat)(d:D),cs[j]?=some d->VR K μ H d (f j)):VR K μ H (.ip cs) (.pointer (some ⟨blk,off,none⟩))|mnil(μ H):VR K μ H .mnil (.map none)|mp(μ H)(m:Nat)(l:bI)(es:List (D×D))(hm:μ m=some l)(hH:H[m]?=some (.mp es)):VR K μ H (.mp m) (.map (some l.blk))|fn(μ H)(f:Fn)(a b:List D)(va vb:List Value)(la:a.length=va.length)(lb:b.length=vb.length)(ha:∀(j:Nat)(d:D)(v:Value),a[j]?=some d->va[j]?=some v->VR K μ H d v)(hb:∀(j:Nat)(d:D)(v:Value),b[j]?=some d->vb[j]?=some v->VR K μ H d v):VR K μ H (.fn f a b) (.func f va.toArray vb.toArray)|nf(μ H):VR K μ H .nf .nilFunc|ni(μ H):VR K μ H .ni .nilIface|ifc(μ H)(t:TypeId)(d:D)(v:Value)(h:VR K μ H d v):VR K μ H (.ifc t d) (.iface t v)|ag(μ H)(cs:List D)(vs:List Value)(hl:cs.length=vs.length)(h1:∀v,v∈vs->v.oneCell'=true)(hr:∀(j:Nat)(d:D)(v:Value),cs[j]?=some d->vs[j]?=some v->VR K μ H d v):VR K μ H (.ag cs) (.agg vs.toArray)|tu(μ H)(ds:List D)(vs:List Value)(hl:ds.length=vs.length)(hr:∀(j:Nat)(d:D)(v:Value),ds[j]?=some d->vs[j]?=some v->VR K μ H d v):VR K μ H (.tu ds) (.tuple vs.toArray)|yb(μ H)(a n cap blk:Nat)(l:bI)(t:Nat)(bs:List UInt8)(lk:Bool)(hm:μ a=some l)(hH:H[a]?=some (.yt t bs lk))(hn:n<=bs.length)(h:bs.length=n->blk=l.blk/\n<=cap/\cap=l.size):VR K μ H (.yb a n) (.slice (some ⟨blk,0,none⟩) n cap)|yl(μ H)(y:Nat)(l:bI)(b:an)(hm:μ y=some l)(hH:H[y]?=some b)(hb:b.isY=true):VR K μ H (.yl y) (.func (.yield l.blk) #[] #[])|u(μ H):VR K μ H .u (.tuple #[])
def bf(K:Kn)(μ:Mu)(H:ab)(ds:List D)(vs:List Value):Prop:=ds.length=vs.length/\∀(j:Nat)(d:D)(v:Value),ds[j]?=some d->vs[j]?=some v->VR K μ H d v
def CRs(K:Kn)(μ:Mu)(H:ab)(ds:List D)(vs:List Value):Prop:=bf K μ H ds vs/\∀v,v∈vs->v.oneCell'=true
inductive BE:bI->an->bI->an->Prop|hb(l:bI)(t:Nat)(cs cs':List D):BE l (.hb t cs) l (.hb t cs')|mp(l:bI)(es es':List (D×D)):BE l (.mp es) l (.mp es')|si(l:bI)(s s':List UInt8)(n n':Nat):BE l (.si s n) l (.si s' n')|no(l:bI):BE l .no l .no|df(l:bI):BE l .df l .df|yh(l:bI)(f:Nat)(p:List Bool)(j nt:Nat)(tm:List Nat)(x:List D)(s s':RS):BE l (.yh f p j nt tm x s) l (.yh f p j nt tm x s')|yn(l:bI)(f:Nat)(p:List Bool)(j nt:Nat)(tm:List Nat)(x:List D)(s:RS):BE l (.yh f p j nt tm x s) l .no|yt(l l':bI)(t:Nat)(bs bs':List UInt8)(lk lk':Bool)(hn:bs.length<=bs'.length)(hs:bs.length=bs'.length->l=l'):BE l (.yt t bs lk) l' (.yt t bs' lk')|ar(l l':bI)(w:Nat)(rows rows':List (List D))(kc kc':Option Nat)(p lk lk':Bool)(hn:rows.length<=rows'.length)(hs:rows.length=rows'.length->l=l'/\kc=kc')(hc:∀c,kc=some c->l=l'/\kc'=some c):BE l (.ar w rows kc p lk) l' (.ar w rows' kc' p lk')
def BE.refl(l:bI)(b:an):BE l b l b:=by cases b with|hb t a=>exact .hb ..|ar w rows c p lk=>exact .ar _ _ _ _ _ _ _ _ _ _ (G1 _) (λ_=>⟨rfl,rfl⟩) (λ_ h=>⟨rfl,h⟩)|mp d=>exact .mp ..|si s n=>exact .si ..|no=>exact .no ..|df=>exact .df ..|yh=>exact .yh ..|yt t e lk=>exact .yt _ _ _ _ _ _ _ (G1 _) (λ_=>rfl)
def BE.trans{m n o:bI}{b d q:an}(h:BE m b n d)(a:BE n d o q):BE m b o q:=by cases h with
 |hb=>cases a;exact .hb ..|mp=>cases a;exact .mp ..|si=>cases a;exact .si ..|no=>omega|df=>omega|yh=>cases a<;>first|exact .yh ..|exact .yn ..
 |yn=>cases a;exact .yn ..|yt r t C s lk f g hs=>cases a with|yt u t s E f v i j=>exact .yt _ _ _ _ _ _ _ (dG g i) (λe=>(hs (by omega)).trans (j (by omega)))
 |ar r w rows x F y p lk f g hs z=>cases a with|ar u w x G y H p f v i j A=>
 refine .ar _ _ _ _ _ _ _ _ _ _ (dG g i) (λe=>?_) (λc B=>?_);·obtain⟨k,l⟩:=hs (by omega);obtain⟨b,d⟩:=j (by omega);exact⟨k.trans b,l.trans d⟩
 obtain⟨k,l⟩:=z c B;obtain⟨b,d⟩:=A c l;exact⟨k.trans b,d⟩
structure ba(K:Kn)(μ:Mu)(H:ab)(K':Kn)(μ':Mu)(H':ab):Prop where
 k:∀b o v,K b o=some v->K' b o=some v
 m:∀id l b,μ id=some l->H[id]?=some b->∃l' b',μ' id=some l'/\H'[id]?=some b'/\BE l b l' b'
def ba.refl(K:Kn)(μ:Mu)(H:ab):ba K μ H K μ H:=⟨λ_ _ _ h=>h,λ_ l b h a=>⟨l,b,h,a,.refl l b⟩⟩
variable{d e:Kn}{x y z:Mu}{f g:ab}
def ba.trans{K:Kn}{H:ab}(h:ba K x H d y f)(c:ba d y f e z g):ba K x H e z g:=⟨λb o v a=>c.k b o v (h.k b o v a),λid l b a i=>by obtain⟨j,k,m,n,p⟩:=h.m id l b a i;obtain⟨q,r,s,t,u⟩:=c.m id j k m n;exact⟨q,r,s,t,p.trans u⟩⟩
def ba.zero{K:Kn}(h:∀b o v,K b o=some v->d b o=some v):ba K aK [] d aK []:=⟨h,λ_ _ _ e=>by cases e⟩
theorem VR.ext{K:Kn}{μ Y:Mu}{H:ab}{d:D}{v:Value}(h:VR K μ H d v)(k:ba K μ H e Y g):VR e Y g d v:=by induction h generalizing Y g with
 |b=>exact .b ..|i=>exact .i ..|s=>exact .s ..|nil=>exact .nil ..|z=>exact .z ..|im μ H w rows blk G cap f J Z Q L hr I=>exact .im _ _ w rows blk G cap f J Z (λi r j d a b=>k.k _ _ _ (Q i r j d a b)) L (λi r j d a b=>I i r j d a b (ba.zero k.k))|sv μ H w rows blk G cap f J Z Q L hr I=>exact .sv _ _ w rows blk G cap f J Z (λi r j d a b=>k.k _ _ _ (Q i r j d a b)) L (λi r j d a b=>I i r j d a b k)|mu μ H a n G len cap blk o l w rows U p lk q A S h=>obtain⟨B,M,C,E,F⟩:=k.m a l _ q A;cases F with|ar B w rows V U W p lk N P hs J=>refine .mu _ _ a n G len cap blk o B w V W p N C E (dG S P) (λhe=>?_);grind
 |np=>exact .np ..|hp μ H b G l t X q A=>obtain⟨B,M,C,E,F⟩:=k.m b l _ q A;cases F;exact .hp _ _ b G l _ _ C E|ap μ H a n i G blk o l w rows U p lk q A S h=>obtain⟨B,M,C,E,F⟩:=k.m a l _ q A;cases F with|ar B w rows V U W p lk N P hs J=>refine .ap _ _ a n i G blk o B w V W p N C E (dG S P) (λhe=>?_);grind
 |aa μ H a l w rows c p lk q A=>obtain⟨B,M,C,E,F⟩:=k.m a l _ q A;cases F with|ar B w rows V U W p lk N P hs J=>obtain⟨rfl,rfl⟩:=J c rfl;exact .aa _ _ a l w _ c p _ C E
 |ip μ H X blk G f Q L hr I=>exact .ip _ _ X blk G f (λj d a=>k.k _ _ _ (Q j d a)) L (λj d a=>I j d a k)|mnil=>exact .mnil ..|mp μ H m l es q A=>obtain⟨B,M,C,E,F⟩:=k.m m l _ q A;cases F;exact .mp _ _ m l _ C E|fn μ H f a b va vb la lb ha hb ak al=>exact .fn _ _ f a b va vb la lb (λj d v x y=>ak j d v x y k) (λj d v x y=>al j d v x y k)|nf=>exact .nf ..|ni=>exact .ni ..|ifc μ H t d v h I=>exact .ifc _ _ t d v (I k)|ag μ H X vs hl L hr I=>exact .ag _ _ X vs hl L (λj d v x y=>I j d v x y k)|tu μ H ds vs hl hr I=>exact .tu _ _ ds vs hl (λj d v x y=>I j d v x y k)|yb μ H a n cap blk l t bs lk q A S h=>obtain⟨B,M,C,E,F⟩:=k.m a l _ q A;cases F with|yt B t bs an lk N P hs=>refine .yb _ _ a n cap blk B t an N C E (dG S P) (λhe=>?_);grind
 |yl μ H y l b q A hb=>obtain⟨B,M,C,E,F⟩:=k.m y l _ q A;cases F<;>first|(cases hb;done)|exact .yl _ _ y _ _ C E rfl
 |u=>exact .u ..
theorem bf.ext{K:Kn}{H:ab}{ds:List D}{vs:List Value}(h:bf K x H ds vs)(c:ba K x H e y f):bf e y f ds vs:=⟨h.1,λj d v a b=>(h.2 j d v a b).ext c⟩
theorem CRs.ext{K:Kn}{H:ab}{ds:List D}{vs:List Value}(h:CRs K x H ds vs)(e:ba K x H d y f):CRs d y f ds vs:=⟨h.1.ext e,h.2⟩
theorem VR.pure{K:Kn}{H:ab}{d:D}{v:Value}(h:VR K aK [] d v):VR K x H d v:=h.ext ⟨λ_ _ _ a=>a,λ_ _ _ a=>by cases a⟩
def an.live:an->Bool|.ar _ _ _ _ true=>false|.yt _ _ true=>false|.no=>false|_=>true
def Cell(K:Kn)(μ:Mu)(H:ab)(p:Bool)(d:D)(v:Value):Prop:=v.oneCell'=true/\match p with|true=>VR K aK [] d v|false=>VR K μ H d v
def Cell.vr{K:Kn}{H:ab}{p:Bool}{d:D}{v:Value}(h:Cell K x H p d v):VR K x H d v:=by obtain⟨_,h⟩:=h;grind[VR.pure]
theorem Cell.ext{K:Kn}{H:ab}{p:Bool}{d:D}{v:Value}(h:Cell K x H p d v)(a:ba K x H e y f):Cell e y f p d v:=by obtain⟨b,h⟩:=h;refine⟨b,?_⟩;cases p with|true=>exact VR.ext h (ba.zero a.k)|false=>grind[VR.ext]
def su(K:Kn)(μ:Mu)(H:ab)(p:Bool)(w:Nat)(rows:List (List D))(a:Nat)(b:Nat->Option Value):Prop:=∀(i:Nat)(r:List D)(j:Nat)(d:D),rows[i]?=some r->r[j]?=some d->∃v,b (a+(i*w+j))=some v/\Cell K μ H p d v
def iq(w:Nat)(rows:List (List D)):Prop:=∀(i:Nat)(r:List D),rows[i]?=some r->r.length=w
def A9:RS->LoopState->Option Code->Prop|.rd,a,b=>a=.ready/\b=none|.bz,a,b=>a=.busy/\b=none|.dr,a,b=>a=.done/\b=some .ret|.dx id,a,b=>a=.done/\b=some (.exit id)
def m8(K:Kn)(μ:Mu)(H:ab)(a:List Nat)(x:List D)(tmps:Array Value):Prop:=x.length=a.length/\∀(k t:Nat),a[k]?=some t->∃d v,x[k]?=some d/\tmps[t]?=some v/\VR K μ H d v
theorem m8.ext{K:Kn}{H:ab}{b:List Nat}{x:List D}{tmps:Array Value}(h:m8 K y H b x tmps)(c:ba K y H e z f):m8 e z f b x tmps:=⟨h.1,λk t a=>let⟨d,v,g,i,j⟩:=h.2 k t a;⟨d,v,g,i,j.ext c⟩⟩
structure ji(mes:Array MapEntry)(clock:Nat):Prop where
 lt:∀e∈mes.toList,e.born<clock
 nd:(mes.toList.map (·.born)).Nodup
variable{i:Array MapEntry}{h:Nat}
def ji.push(d:ji i h){e:MapEntry}(j:e.born=h):ji (i.push e) (h+1)where
 lt:=λx c=>by
  simp only[ABx,TA,eD]at c;rcases c with c|rfl;·have:=d.lt x c;omega
  omega
 nd:=by simp[ABx,eH,kb,AAK];refine AAH.2 ⟨d.nd,by simp,λa f b g=>?_⟩;simp[eD]at g;obtain⟨x,c,rfl⟩:=fT.1 f;have:=d.lt x c;omega
def ji.modify{a:Array MapEntry}(b:ji a h){i:Nat}{f:MapEntry->MapEntry}(l:∀e,(f e).born=e.born):ji (a.modify i f) h:=by
 have e:((a.modify i f).toList.map (·.born))=a.toList.map (·.born):=by refine sa λj=>?_;grind
 refine⟨λx d=>?_,by rw[e];exact b.nd⟩;have c:x.born∈(a.modify i f).toList.map (·.born):=fT.2 ⟨x,d,rfl⟩;rw[e]at c;obtain⟨y,g,k⟩:=fT.1 c;rw[<-k];exact b.lt y g
def lF(K:Kn)(μ:Mu)(H:ab)(W:World)(l:bI):an->Prop|.hb _ m=>l.off=0/\∃vs b,W.heap[l.blk]?=some (.cells vs b (0,0))/\vs.size=l.size/\CRs K μ H m vs.toList|.ar w rows d p false=>iq w rows/\(∀c,d=some c->rows.length<=c)/\l.off+rows.length*w<=l.size/\∃vs b,W.heap[l.blk]?=some (.cells vs b (0,0))/\vs.size=l.size/\su K μ H p w rows l.off (λo=>vs[o]?)|.ar w rows d p true=>p=true/\iq w rows/\(∀c,d=some c->rows.length<=c)/\su K μ H true w rows l.off (λo=>K l.blk o)|.mp g=>∃(a:Array MapEntry)(h:Nat),ji a h/\W.heap[l.blk]?=some (.map a h)/\g.length=a.size/\∀(j:Nat)(k v:D)(e:MapEntry),g[j]?=some (k,v)->a[j]?=some e->VR K aK [] k e.key/\VR K μ H v e.val|.si s n=>W.heap[l.blk]?=some (.stringIter ⟨s.toArray⟩ n)|.yt t i false=>l.off=0/\∃vs,W.heap[l.blk]?=some (.cells vs t (0,0))/\vs.size=l.size/\l.size<=maxLen/\vs.toList.take i.length=i.map λc=>Value.int .u8 c.toNat|.yt _ _ true=>True|.df=>W.heap[l.blk]?=some (.deferred (some []))|.yh f p _ q r x s=>∃rec:Loop,W.heap[l.blk]?=some (.loop rec)/\uE uD f p=some (rec.params,rec.assign,rec.body)/\rec.tmps.size=q/\A9 s rec.state rec.pending/\m8 K μ H r x rec.tmps|.no=>True
variable{a b c:World}
theorem lF.ext{K:Kn}{F:Mu}{H:ab}{G:World}{l:bI}{b:an}(h:lF K z H c l b)(u:ba K z H e F g)(A:b.live=true->G.heap[l.blk]?=c.heap[l.blk]?):lF e F g G l b:=by cases b with
 |hb t P=>obtain⟨m,vs,C,n,o,q⟩:=h;exact⟨m,vs,C,by rw[A rfl];exact n,o,q.ext u⟩|ar w rows Q p lk=>cases lk with|false=>obtain⟨m,B,I,vs,C,n,o,q⟩:=h;refine⟨m,B,I,vs,C,by rw[A rfl];exact n,o,λi r j d a b=>?_⟩;obtain⟨v,E,B⟩:=q i r j d a b;exact⟨v,E,B.ext u⟩|true=>obtain⟨J,m,B,q⟩:=h;refine⟨J,m,B,λi r j d a b=>?_⟩;obtain⟨v,E,B⟩:=q i r j d a b;exact⟨v,u.k _ _ _ E,B.ext u⟩
 |mp S=>obtain⟨L,M,m,n,o,q⟩:=h;refine⟨L,M,m,by rw[A rfl];exact n,o,λj k v N a b=>?_⟩;obtain⟨x,y⟩:=q j k v N a b;exact⟨x.ext (ba.zero u.k),y.ext u⟩|si s U=>show _=_;rw[A rfl];exact h|yt t V lk=>cases lk with|false=>obtain⟨m,vs,n,o⟩:=h;exact⟨m,vs,by rw[A rfl];exact n,o⟩|true=>trivial
 |df=>show _=_;rw[A rfl];exact h|yh f p j W X x s=>obtain⟨rec,n,o,q,h4,h5⟩:=h;exact⟨rec,by rw[A rfl];exact n,o,q,h4,h5.ext u⟩|no=>trivial
def cd(μ:Mu)(H:ab)(r:Nat):Prop:=∃id l b,μ id=some l/\H[id]?=some b/\b.live=true/\l.blk=r
structure HR(K:Kn)(μ:Mu)(H:ab)(W:World):Prop where
 dom:∀id l,μ id=some l->id<H.length
 tot:∀id,id<H.length->∃l,μ id=some l
 blk:∀id l b,μ id=some l->H[id]?=some b->lF K μ H W l b
 lt:∀id l,μ id=some l->l.blk<W.heap.size
 inj:∀id id' l l' b b',μ id=some l->μ id'=some l'->H[id]?=some b->H[id']?=some b'->b.live=true->b'.live=true->l.blk=l'.blk->id=id'
 kn:∀b o v,K b o=some v->W.cell? ⟨b,o,none⟩=some v
 kf:∀b o v,K b o=some v->¬cd μ H b
def HR.klt{K:Kn}{H:ab}(c:HR K x H a){b:Nat}{v:Value}(d:K b h=some v):b<a.heap.size:=World.block_lt_of_cell? a ⟨b,h,none⟩ (c.kn b h v d)
structure Nx(K:Kn)(μ:Mu)(H:ab)(W:World)(K':Kn)(μ':Mu)(H':ab)(W':World):Prop where
 ext:ba K μ H K' μ' H'
 os:W'.os=W.os
 tape:W'.tape=W.tape
 output:W'.output=W.output
 size:W.heap.size<=W'.heap.size
 keep:∀r,r<W.heap.size->¬cd μ H r->W'.heap[r]?=W.heap[r]?
 og:∀r,cd μ' H' r->cd μ H r\/W.heap.size<=r
 kg:∀b o v,K' b o=some v->K b o=some v\/cd μ H b\/W.heap.size<=b
def Nx.refl(K:Kn)(μ:Mu)(H:ab)(W:World):Nx K μ H W K μ H W:=⟨.refl _ _ _,rfl,rfl,rfl,G1 _,λ_ _ _=>rfl,λ_ h=>.inl h,λ_ _ _ h=>.inl h⟩
def Nx.trans{K:Kn}{j k:Mu}{H:ab}{l:World}(h:Nx K z H a d j f c)(i:Nx d j f c e k g l):Nx K z H a e k g l where
 ext:=h.ext.trans i.ext;os:=i.os.trans h.os;tape:=i.tape.trans h.tape;output:=i.output.trans h.output;size:=dG h.size i.size;keep:=λr hr m=>by rw[i.keep r (hI hr h.size) (λo=>(h.og r o).elim m (λx=>by omega)),h.keep r hr m]
 og:=λr o=>by
  rcases i.og r o with x|x;·exact h.og r x
  exact .inr (dG h.size x)
 kg:=λb o v n=>by
  rcases i.kg b o v n with x|x|x;·exact h.kg b o v x
  ·rcases h.og b x with y|y;·exact .inr (.inl y)
   exact .inr (.inr y)
  exact .inr (.inr (dG h.size x))
def Nx.drew(K:Kn)(μ:Mu)(H:ab)(W:World):Nx K μ H W K μ H W.drew:=⟨.refl _ _ _,rfl,rfl,rfl,G1 _,λ_ _ _=>rfl,λ_ h=>.inl h,λ_ _ _ h=>.inl h⟩
def HR.drew{K:Kn}{H:ab}{W:World}(h:HR K x H W):HR K x H W.drew where dom:=h.dom;tot:=h.tot;blk:=λid l b a c=>(h.blk id l b a c).ext (.refl _ _ _) (λ_=>rfl);lt:=h.lt;inj:=h.inj;kn:=h.kn;kf:=h.kf
def Mu.upd(μ:Mu)(id:Nat)(l:bI):Mu:=λj=>if j=id then some l else μ j
def HR.lit{K:Kn}{H:ab}{W:World}(h:HR K x H W)(vs:Array Value)(d:TypeId)(f:Nat×Nat):HR (λb o=>if b=W.heap.size then vs[o]? else K b o) x H (W.alloc (.cells vs d f))/\Nx K x H W (λb o=>if b=W.heap.size then vs[o]? else K b o) x H (W.alloc (.cells vs d f)):=by
 have k:∀b o v,K b o=some v->(if b=W.heap.size then vs[o]? else K b o)=some v:=λb o v e=>by have:=h.klt e;grind
 have g:ba K x H _ x H:=⟨k,λid l b a c=>⟨l,b,a,c,.refl _ _⟩⟩;refine⟨⟨h.dom,h.tot,λid l b a c=>(h.blk id l b a c).ext g (λ_=>@heap_alloc_old W _ _ (h.lt id l a)),λid l a=>?_,h.inj,λb o v e=>?_,λb o v e i=>?_⟩,⟨g,rfl,rfl,rfl,by simp,λr hr _=>@heap_alloc_old W _ r hr,λ_ h=>.inl h,λb o v e=>?_⟩⟩;·have:=h.lt id l a;simp;omega
 ·skip;split at e;·rename_i j;subst j;rw[cell_of_row _ _ _ vs d f (heap_alloc_new W _)];exact e
  rw[World.cell?_alloc_lt _ _ _ (h.klt e)];exact h.kn b o v e
 ·skip;split at e;·rename_i j;obtain⟨id,l,b',a1,a2,a3,a4⟩:=i;have:=h.lt id l a1;omega
  exact h.kf b o v e i
 grind
def HR.loc{K:Kn}{H:ab}{W:World}(h:HR K x H W)(o:Obj):HR K x H (W.alloc o)/\Nx K x H W K x H (W.alloc o):=by
 refine⟨⟨h.dom,h.tot,λid l b a c=>(h.blk id l b a c).ext (.refl _ _ _) (λ_=>@heap_alloc_old W _ _ (h.lt id l a)),λid l a=>?_,h.inj,λb o v e=>?_,h.kf⟩,⟨.refl _ _ _,rfl,rfl,rfl,by simp,λr hr _=>@heap_alloc_old W _ r hr,λ_ h=>.inl h,λ_ _ _ e=>.inl e⟩⟩;·have:=h.lt id l a;simp;omega
 rw[World.cell?_alloc_lt _ _ _ (h.klt e)];exact h.kn b o v e
def ba.push{K:Kn}{H:ab}(g:∀id l,x id=some l->id<H.length)(l:bI)(b:an):ba K x H K (x.upd H.length l) (H++[b]):=⟨λ_ _ _ e=>e,λid d f a c=>⟨d,f,by grind[Mu.upd],by grind,.refl _ _⟩⟩
def HR.takes{K:Kn}{H:ab}{W:World}(h:HR K y H W){l:bI}{b:an}(u:¬cd y H l.blk)(F:∀o v,K l.blk o≠some v)(Y:l.blk<W.heap.size)(G:lF K (y.upd H.length l) (H++[b]) W l b):HR K (y.upd H.length l) (H++[b]) W/\∀r,cd (y.upd H.length l) (H++[b]) r->cd y H r\/r=l.blk:=by
 have I:=ba.push (K:=K) h.dom l b;have j:∀id d g,(y.upd H.length l) id=some d->(H++[b])[id]?=some g->(id=H.length/\d=l/\g=b)\/(id<H.length/\y id=some d/\H[id]?=some g):=by grind[Mu.upd]
 have J:∀id d,(y.upd H.length l) id=some d->(id=H.length/\d=l)\/(id<H.length/\y id=some d):=by
  intro id d a;simp[Mu.upd]at a;split at a;·grind
  exact .inr ⟨h.dom id d a,a⟩
 have og:∀k,cd (y.upd H.length l) (H++[b]) k->cd y H k\/k=l.blk:=by
  rintro k⟨id,d,g,a,c,e,f⟩;rcases j id d g a c with⟨_,rfl,_⟩|⟨_,i,m⟩;·omega
  exact .inl ⟨id,d,g,i,m,e,f⟩
 refine⟨⟨λid d a=>?_,λid hid=>?_,λid d g a c=>?_,λid d a=>?_,λid n p q s t L M N P w z e=>?_,h.kn,λg o' v e Q=>?_⟩,og⟩;·grind
 ·simp[N3,qu]at hid;by_cases hi:id=H.length;·simp_all[Mu.upd]
  obtain⟨d,Z⟩:=h.tot id (by omega);grind[Mu.upd]
 ·rcases j id d g a c with⟨_,rfl,rfl⟩|⟨_,i,m⟩;·exact G
  exact(h.blk id d g i m).ext I (λ_=>rfl)
 ·rcases J id d a with⟨_,rfl⟩|⟨_,i⟩;·omega
  exact h.lt id d i
 ·rcases j id p s L N with⟨S,U,_⟩|⟨S,A,B⟩<;>rcases j n q t M P with⟨V,X,_⟩|⟨V,C,E⟩;·omega
  ·subst U;exact absurd ⟨n,q,t,C,E,z,by omega⟩ u
  ·subst X;exact absurd ⟨id,p,s,A,B,w,by omega⟩ u
  exact h.inj id n p q s t A C B E w z e
 rcases og g Q with x|x;·exact h.kf g o' v e x
 exact F o' v (x▸e)
def HR.push{K:Kn}{H:ab}(h:HR K y H c)(o:Obj)(l:bI)(b:an)(k:l.blk=c.heap.size)(d:lF K (y.upd H.length l) (H++[b]) (c.alloc o) l b):HR K (y.upd H.length l) (H++[b]) (c.alloc o)/\Nx K y H c K (y.upd H.length l) (H++[b]) (c.alloc o):=by obtain⟨g,n⟩:=h.loc o;obtain⟨i,og⟩:=g.takes (λ⟨id,j,m,a,_,_,f⟩=>by have:=h.lt id j a;omega) (λo' v e=>by have:=h.klt e;omega) (by simp;omega) d;exact⟨i,⟨ba.push h.dom l b,n.os,n.tape,n.output,n.size,n.keep,λr x=>(og r x).imp id (by omega),λ_ _ _ e=>.inl e⟩⟩
def HR.put0{K:Kn}{H:ab}{W k:World}(h:HR K y H W)(id:Nat)(l g:bI)(b m:an)(q:y id=some l)(s:H[id]?=some b)(t:b.live=true)(be:BE l b g m)(aa:k.os=W.os)(ac:k.tape=W.tape)(ad:k.output=W.output)(ae:W.heap.size<=k.heap.size)(F:∀r,r<W.heap.size->r≠l.blk->k.heap[r]?=W.heap[r]?)(n:g.blk=l.blk\/W.heap.size<=g.blk)(ar:g.blk<k.heap.size)(au:lF K (y.upd id g) (H.set id m) k g m):HR K (y.upd id g) (H.set id m) k/\Nx K y H W K (y.upd id g) (H.set id m) k:=by
 have hid:=h.dom id l q;have Q:ba K y H K (y.upd id g) (H.set id m):=by
  refine⟨λ_ _ _ e=>e,λj d i a c=>?_⟩;by_cases G:j=id;·grind[Mu.upd]
  exact⟨d,i,by grind[Mu.upd],by grind,.refl _ _⟩
 have z:∀j d i,(y.upd id g) j=some d->(H.set id m)[j]?=some i->(j=id/\d=g/\i=m)\/(j≠id/\y j=some d/\H[j]?=some i):=by grind[Mu.upd]
 have og:∀r,cd (y.upd id g) (H.set id m) r->cd y H r\/W.heap.size<=r:=by
  rintro r⟨j,d,i,a,c,e,f⟩;rcases z j d i a c with⟨rfl,rfl,rfl⟩|⟨_,u,A⟩
  ·rcases n with n|n;·exact .inl ⟨j,l,b,q,s,t,by omega⟩
   omega
  exact .inl ⟨j,d,i,u,A,e,f⟩
 have af:∀r,r<W.heap.size->¬cd y H r->k.heap[r]?=W.heap[r]?:=λr hr I=>F r hr (λe=>I ⟨id,l,b,q,s,t,e.symm⟩);refine⟨⟨λj d a=>?_,λj G=>?_,λj d i a c=>?_,λj d a=>?_,λj B C E J L a1 a2 c1 c2 S U e=>?_,λp o v e=>?_,λp o v e I=>?_⟩,⟨Q,aa,ac,ad,ae,af,og,λ_ _ _ e=>.inl e⟩⟩
 ·simp only[Mu.upd]at a;rw[gb];split at a;·omega
  exact h.dom j d a
 ·rw[gb]at G;by_cases hi:j=id;·grind[Mu.upd]
  obtain⟨d,av⟩:=h.tot j G;grind[Mu.upd]
 ·rcases z j d i a c with⟨rfl,rfl,rfl⟩|⟨M,u,A⟩;·omega
  refine(h.blk j d i u A).ext Q (λak=>F _ (h.lt j d u) (λe=>M (h.inj j id d l i b u q A s ak t e)))
 ·simp only[Mu.upd]at a;split at a;·grind
  have:=h.lt j d a;omega
 ·rcases z j C J a1 c1 with⟨V,y1,z1⟩|⟨V,N,X⟩<;>rcases z B E L a2 c2 with⟨Y,y2,z2⟩|⟨Y,P,Z⟩;·omega
  ·subst y1;have:=h.lt B E P;rcases n with n|n;·exact absurd (h.inj B id E l L b P q Z s U t (by omega)) Y
   omega
  ·subst y2;have:=h.lt j C N;rcases n with n|n;·exact absurd (h.inj j id C l J b N q X s S t (by omega)) V
   omega
  exact h.inj j B C E J L N P X Z S U e
 ·have hc:=h.kn p o v e;have M:p≠l.blk:=λx=>h.kf p o v e ⟨id,l,b,q,s,t,x.symm⟩;have ap:=h.klt e;rw[World.cell?_of_block (w:=W) (w':=k) (a:=⟨p,o,none⟩) (F p ap M)];exact hc
 rcases og p I with x|x;·exact h.kf p o v e x
 have:=h.klt e;omega
def HR.put{K:Kn}{H:ab}{W':World}(h:HR K x H a)(id:Nat)(l c:bI)(b d:an)(e:x id=some l)(f:H[id]?=some b)(g:b.live=true)(i:d.live=true)(j:BE l b c d)(k:W'.os=a.os)(m:W'.tape=a.tape)(n:W'.output=a.output)(o:a.heap.size<=W'.heap.size)(p:∀r,r<a.heap.size->r≠l.blk->W'.heap[r]?=a.heap[r]?)(q:c.blk=l.blk\/a.heap.size<=c.blk)(s:c.blk<W'.heap.size)(t:lF K (x.upd id c) (H.set id d) W' c d):HR K (x.upd id c) (H.set id d) W'/\Nx K x H a K (x.upd id c) (H.set id d) W':=have _:=i;h.put0 id l c b d e f g j k m n o p q s t
end
section
variable{x:Option Nat}
def jg{H:ab}{a n w:Nat}{rows:List (List D)}{p lk:Bool}(h:aO H a n=some (w,rows,x,p,lk)):H[a]?=some (.ar w rows x p lk)/\rows.length=n:=by grind[aO]
def HR.lock{K:Kn}{μ:Mu}{H:ab}{W:World}(h:HR K μ H W){a w:Nat}{rows:List (List D)}{f:Option Nat}{lk:Bool}{l:bI}(g:μ a=some l)(p:H[a]?=some (.ar w rows f true lk)):∃k,HR k μ (H.set a (.ar w rows f true true)) W/\Nx K μ H W k μ (H.set a (.ar w rows f true true)) W/\
 su k aK [] true w rows l.off (λo=>k l.blk o):=by have hid:=h.dom a l g;cases lk with|true=>
 have M:H.set a (.ar w rows f true true)=H:=by
  have:H[a]=.ar w rows f true true:=by grind
  rw[<-this];exact ACN hid
 rw[M];refine⟨K,h,.refl _ _ _ _,λi r j d x y=>?_⟩;obtain⟨v,C,q⟩:=(h.blk a l _ g p).2.2.2 i r j d x y;exact⟨v,C,q⟩|false=>
 obtain⟨N,P,ai,vs,Q,S,aj,U⟩:=h.blk a l _ g p;have V:cd μ H l.blk:=⟨a,l,_,g,p,rfl,rfl⟩;have s:∀b o v,K b o=some v->(if b=l.blk then vs[o]? else K b o)=some v:=λb o v e=>by
  have ak:b≠l.blk:=λx=>by subst x;exact h.kf _ o v e V
  grind
 have E:ba K μ H (λb o=>if b=l.blk then vs[o]? else K b o) μ (H.set a (.ar w rows f true true)):=by
  refine⟨s,λj m c x y=>?_⟩;by_cases n:j=a;·subst n;rw[g]at x;rw[p]at y;cases x;cases y;exact⟨l,.ar w rows f true true,g,by grind,.ar _ _ _ _ _ _ _ _ _ _ (G1 _) (λ_=>⟨rfl,rfl⟩) (λ_ e=>⟨rfl,e⟩)⟩
  exact⟨m,c,x,by grind,.refl _ _⟩
 have F:∀(k:Kn)(t:Mu)(u:ab),ba K aK [] k t u->su k t u true w rows l.off (λo=>(λb o=>if b=l.blk then vs[o]? else K b o) l.blk o):=by intro k t u e i r j d x y;obtain⟨v,C,X,q⟩:=U i r j d x y;exact⟨v,by grind,X,VR.ext q (ba.zero e.k)⟩
 have A:∀j c,(H.set a (.ar w rows f true true))[j]?=some c->c.live=true->j≠a/\H[j]?=some c:=by grind[an.live]
 have og:∀r,cd μ (H.set a (.ar w rows f true true)) r->cd μ H r/\r≠l.blk:=by rintro r⟨j,m,c,x,y,z,e⟩;obtain⟨n,G⟩:=A j c y z;refine⟨⟨j,m,c,x,G,z,e⟩,λe'=>n (h.inj j a m l c _ x g G p z rfl (by omega))⟩
 refine⟨λb o=>if b=l.blk then vs[o]? else K b o,⟨λj m x=>by rw[gb];exact h.dom j m x,λj n=>h.tot j (by grind),λj m c x y=>?_,h.lt,?_,λb o v e=>?_,λb o v e B=>?_⟩,⟨E,rfl,rfl,rfl,G1 _,λ_ _ _=>rfl,λr B=>.inl (og r B).1,λb o v e=>?_⟩,F _ _ _ (ba.zero s)⟩
 ·by_cases n:j=a;·subst n;rw[g]at x;cases x;simp[hid]at y;subst y;exact⟨rfl,N,P,F _ _ _ ⟨s,λ_ _ _ e=>by cases e⟩⟩
  rw[K0 (AAX n)]at y;exact(h.blk j m c x y).ext E (λ_=>rfl)
 ·intro j I Y Z J L x1 x2 y1 y2 z1 z2 e;exact h.inj j I Y Z J L x1 x2 (A j J y1 z1).2 (A I L y2 z2).2 z1 z2 e
 ·split at e;·rename_i af;subst af;rw[cell_of_row W l.blk o vs Q _ S];exact e
  exact h.kn b o v e
 ·obtain⟨o1,o2⟩:=og b B;rw[E1 o2]at e;exact h.kf b o v e o1
 grind
theorem gn{α:Type}(rows:List α)(a len i:Nat)(r:α)(h:((rows.drop a).take len)[i]?=some r):rows[a+i]?=some r/\i<len:=by grind
def sc{α:Type}(rows:List α)(a len n:Nat)(b:rows.length=n)(h:a+len<=n):((rows.drop a).take len).length=len:=by grind
def VR.part{K:Kn}{w:Nat}{rows:List (List D)}{l:bI}(g:iq w rows)(hr:su K aK [] true w rows l.off (λo=>K l.blk o)){b len cap blk o n:Nat}(h:rows.length=n)(k:b+len<=n)(x:len<=cap)(m:cap=0\/(blk=l.blk/\o=l.off+b*w))(μ:Mu)(H:ab):VR K μ H (.im w ((rows.drop b).take len)) (.slice (some ⟨blk,o,none⟩) len cap):=by
 have y:=sc rows b len n h k;have c:∀i j,∃v,∀r d,((rows.drop b).take len)[i]?=some r->r[j]?=some d->K blk (o+(i*w+j))=some v/\Cell K aK [] true d v:=by intro i j;cases p:((rows.drop b).take len)[i]? with|none=>simp_all|some r=>cases f:r[j]? with|none=>exact⟨.tuple #[],λq d e a=>by cases e;rw[f]at a;cases a⟩|some d=>
  obtain⟨s,hi⟩:=gn rows b len i r p;obtain⟨v,t,u⟩:=hr _ r j d s f;refine⟨v,λq z e a=>?_⟩;cases e;rw[f]at a;cases a;rcases m with A|⟨rfl,rfl⟩;·omega
  refine⟨?_,u⟩;rw[show l.off+b*w+(i*w+j)=l.off+((b+i)*w+j)by rw[k6];omega];exact t
 have key:=VR.im μ H w _ blk o cap _ (by omega) (λi r e=>g _ r (gn rows b len i r e).1) (λi r j d e a=>(i4 (c i j) r d e a).1) (λi r j d e a=>(i4 (c i j) r d e a).2.1) (λi r j d e a=>(i4 (c i j) r d e a).2.2);grind
def uW(m:Nat):(∀(H c:ab)(d I:D)(K:Kn)(μ:Mu)(W:World)(v:Value),bS m H d=some (I,c)->HR K μ H W->VR K μ H d v->∃g,HR g μ c W/\Nx K μ H W g μ c W/\VR g aK [] I v)/\(∀(ds:List D)(H c:ab)(C:List D)(K:Kn)(μ:Mu)(W:World)(f:Nat->Value),aW m H ds=some (C,c)->HR K μ H W->(∀(j:Nat)(d:D),ds[j]?=some d->VR K μ H d (f j))->∃g,HR g μ c W/\Nx K μ H W g μ c W/\C.length=ds.length/\∀(j:Nat)(d:D),C[j]?=some d->VR g aK [] d (f j))/\(∀(s:List (List D))(H c:ab)(u:List (List D))(K:Kn)(μ:Mu)(W:World)(f:Nat->Nat->Value),io m H s=some (u,c)->HR K μ H W->(∀(i:Nat)(r:List D)(j:Nat)(d:D),s[i]?=some r->r[j]?=some d->VR K μ H d (f i j))->∃g,HR g μ c W/\Nx K μ H W g μ c W/\u.length=s.length/\(∀(i:Nat)(r J:List D),s[i]?=some r->u[i]?=some J->J.length=r.length)/\∀(i:Nat)(r:List D)(j:Nat)(d:D),u[i]?=some r->r[j]?=some d->VR g aK [] d (f i j)):=by
 induction m with|zero=>
 refine⟨λH c d I K μ W v h=>by grind[AD],λds H c C K μ W f h hr q=>?_,λs H c u K μ W f h hr q=>?_⟩;·cases ds<;>simp[gK,AE]at h;obtain⟨rfl,rfl⟩:=h;exact⟨K,hr,.refl _ _ _ _,rfl,by simp⟩
 cases s<;>simp[rO,Fb]at h;obtain⟨rfl,rfl⟩:=h;exact⟨K,hr,.refl _ _ _ _,rfl,by simp,by simp⟩|succ m ih=>
 obtain⟨aa,ac,ak⟩:=ih;refine⟨λH c d I K μ W v h hr M=>?_,λds=>?_,λs=>?_⟩
 ·cases M<;>simp only[f7,wx]at h;all_goals try(simp at h;done)
  all_goals try(obtain⟨rfl,rfl⟩:=h;refine⟨K,hr,.refl _ _ _ _,?_⟩;constructor<;>assumption)
  case fn f a b va vb la lb ha hb=>cases a<;>cases b<;>simp at h;obtain⟨rfl,rfl⟩:=h;exact⟨K,hr,.refl _ _ _ _,.fn _ _ f [] [] va vb la lb (by simp) (by simp)⟩
  case mu a n ad len cap blk o l w rows kc p lk hn hcond hm hH=>
   split at h<;>try grind
   rename_i ap;obtain⟨ae,af⟩:=jg ap;rw[hH]at ae;cases ae;split at h<;>cases h;rename_i aq;obtain⟨g,z,nx,ar⟩:=hr.lock hm hH;obtain⟨au,h2,h3,h4,h5,h6⟩:=hcond af;exact⟨g,z,nx,VR.part (by have:=hr.blk a l _ hm hH;cases lk with|false=>exact this.1|true=>exact this.2.1) ar af aq h3 au _ _⟩
  case sv w rows blk ad cap f hc hw hk h1 N=>
   split at h<;>cases h;rename_i L ax;obtain⟨g,z,nx,E,P,A⟩:=ak rows H c L K μ W f ax hr N;have get:∀{i r},L[i]?=some r->∃r0,rows[i]?=some r0:=λe=>by have:=(uy.1 e).1;exact⟨_,Hk (by omega)⟩
   have ay:∀{i r j d},L[i]?=some r->r[j]?=some d->∃r0 d0,rows[i]?=some r0/\r0[j]?=some d0:=λe k=>by obtain⟨r0,h0⟩:=get e;have hl:=P _ r0 _ h0 e;have:=(uy.1 k).1;exact⟨r0,_,h0,Hk (by omega)⟩
   refine⟨g,z,nx,?_⟩;rw[<-E];refine .im _ _ w L blk ad cap f (by omega) (λi r e=>?_) (λi r j d e k=>?_) (λi r j d e k=>?_) A;·grind
   ·obtain⟨r0,d0,x,y⟩:=ay e k;exact nx.ext.k _ _ _ (hk i r0 j d0 x y)
   grind
  case ifc t d v M=>split at h<;>cases h;rename_i B;obtain⟨g,z,nx,a0⟩:=aa _ _ _ _ K μ W v B hr M;exact⟨g,z,nx,.ifc _ _ t _ v a0⟩
  case ag cs vs hl h1 N=>
  split at h<;>cases h;rename_i B;obtain⟨g,z,nx,E,A⟩:=ac cs _ _ _ K μ W (λj=>vs.getD j (.tuple #[])) B hr λj d e=>by
   have:j<vs.length:=by have:=(uy.1 e).1;omega
   exact N j d _ e (by simp[this])
  refine⟨g,z,nx,.ag _ _ _ vs (by omega) h1 λj d v e k=>?_⟩;have:=A j d e;rwa[n0,k]at this
 ·induction ds with|nil=>intro H c C K μ W f h hr q;obtain⟨rfl,rfl⟩:=h;exact⟨K,hr,.refl _ _ _ _,rfl,by simp⟩|cons x xs Q=>
  intro H c C K μ W f h hr q;simp[dM]at h;split at h<;>try(cases h;done)
  rename_i B;split at h<;>cases h;rename_i S;obtain⟨U,V,F,X⟩:=aa _ _ x _ K μ W (f 0) B hr (q 0 x rfl);obtain⟨Y,Z,G,E,A⟩:=Q _ _ _ U μ W _ S V λj d e=>(q (j+1) d (by simpa using e)).ext F.ext;refine⟨Y,Z,F.trans G,by simp[E],λj d e=>?_⟩;cases j with|zero=>simp at e;subst e;exact X.ext (ba.zero G.ext.k)|succ j=>exact A j d (by simpa using e)
 induction s with|nil=>intro H c u K μ W f h hr q;obtain⟨rfl,rfl⟩:=h;exact⟨K,hr,.refl _ _ _ _,rfl,by simp,by simp⟩|cons x xs Q=>
 intro H c u K μ W f h hr q;simp[uM]at h;split at h<;>try(cases h;done)
 rename_i B;split at h<;>cases h;rename_i S;obtain⟨U,V,F,a3,X⟩:=ac x _ _ _ K μ W _ B hr λj d e=>q 0 x j d rfl e;obtain⟨Y,Z,G,E,P,A⟩:=Q _ _ _ U μ W _ S V λi r j d e k=>(q (i+1) r j d (by simpa using e) k).ext F.ext;refine⟨Y,Z,F.trans G,by simp[E],λi r J e k=>?_,λi r j d e k=>?_⟩<;>cases i;·simp at e k;subst e;subst k;exact a3
 ·exact P _ r J (by simpa using e) (by simpa using k)
 ·simp at e;subst e;exact(X j d k).ext (ba.zero G.ext.k)
 exact A _ r j d (by simpa using e) k
end
inductive HC where|n|r|a|d|q|h|w deriving DecidableEq
def aj.hc(V:aw)(b:Bool):aj->HC
 |.len 0 _|.len 1 _=>.n|.ld ..|.iad ..|.iar ..|.len ..|.sli ..|.lk ..=>.r|.hal ..|.hbx ..|.haa ..|.mks ..|.mkm|.bsl ..|.sla ..=>.a|.call f _=>match V.fn f with|some c=>if c.pure then .a else .d|none=>.d
 |.app ..=>if b then .a else .w|.st ..|.mup ..=>if b then .a else .d|.calv ..|.inv ..|.pan ..|.callp ..=>.d|.calx ..|.calvx ..=>.a|.ldh ..=>.h|_=>.n
def O.locs:O->List Nat|.l i=>[i]|_=>[]
def O.slots:O->List Nat|.s k=>[k]|_=>[]
def AB.locs:AB->List Nat|.lo i=>[i]|_=>[]
def lZ(a:List (Option Nat)):AB->List Nat|.sl k=>[k]|.lo i=>(a[i]?).join.toList
def aj.args:aj->List O|.mov x|.lbx x _|.hbx _ x _|.fad x _|.ld x _ _|.ldh x _ _|.un _ x|.cvi _ x|.len _ x|.ext x _|.mki _ x|.tas x _ _ _|.nck x|.pan x=>[x]|.pick a b c=>[a,b,c]|.lal _|.hal ..|.haa ..|.lfa ..|.lld ..|.mkm|.stk=>[]|.gia _ e _ _=>[e]|.lst _ x _=>[x]|.iad x y _|.iar x y _ _|.st x y _|.bin _ x y|.eqv _ _ x y|.app x y _ _ _|.mks x y _ _ _ _|.ixs x y|.lk _ x y _ _|.ixa x y _ _ _=>[x,y]|.agc _ d=>d.map λp=>p.2.2|.bsl _ _ _ d _|.bsv _ _ _ d=>d.map λp=>p.2|.sli _ _ x a b c=>[x]++a.toList++b.toList++c.toList|.sla x _ _ a b=>[x]++a.toList++b.toList|.mkf _ a b=>a++b|.mup _ a b c=>[a,b,c]|.mx l|.mn l|.call _ l|.cpl _ l|.calx _ l|.callp _ l=>l|.calv x l|.calvx x l|.inv x _ l=>x::l
def aj.base:aj->List AB|.lfa a _|.lld a _ _|.lst a _ _=>[a]|_=>[]
def aq.locR(o:aq):List Nat:=o.op.args.flatMap O.locs++o.op.base.flatMap AB.locs++(match o.guard with|some (x,_)=>x.locs|none=>[])
def aq.slR(a:List (Option Nat))(o:aq):List Nat:=o.op.args.flatMap O.slots++o.op.base.flatMap (lZ a)++(match o.guard with|some (x,_)=>x.slots|none=>[])
def aq.slW(b:List (Option Nat))(o:aq):List Nat:=o.keep.toList++(match o.op with|.lst a _ _=>lZ b a|_=>[])
def AJ(a b:List Nat):Bool:=a.any b.contains
def HC.free:HC->HC->Bool|.n,_|_,.n|.r,.r|.r,.a|.a,.r|.q,.r|.r,.q|.q,.q|.h,.h|.h,.r|.r,.h|.h,.q|.q,.h|.h,.w|.w,.h=>true|_,_=>false
def Fh(V:aw)(b:Bool)(a:List (Option Nat))(c:List aq)(i j:Nat):Bool:=match c[i]?,c[j]? with|some x,some y=>!y.locR.contains i&&!x.locR.contains j&&!AJ (x.slW a) (y.slR a++y.slW a)&&!AJ (x.slR a) (y.slW a)&&(x.op.hc V b).free (y.op.hc V b)&&!x.op.pans&&!y.op.pans|_,_=>false
def Fi(V:aw)(b:Bool)(c:List (Option Nat))(d:Array Nat)(a:List aq):Bool:=(List.range a.length).all λj=>(List.range j).all λi=>(d.getD j 0).testBit i||Fh V b c a i j
def r6(b:List (Option Nat))(o:aq):Option Nat:=let base:AB->Option Nat:=λ|.sl k=>some k|.lo j=>(b[j]?).join;match o.op with|.lfa a _=>base a|_=>none
def r7(a:List aq):List (Option Nat):=a.foldl (λacc o=>acc++[r6 acc o]) []
structure CX where
 P:Program
 V:aw
 nt:Nat
 tm:List Nat
 bs:List Nat
 ops:Array Oper
 vos:List aq
 rt:List (Option Nat)
def aj.isAddr:aj->Bool|.lfa ..=>true|_=>false
def aj.isBox:aj->Bool|.lal ..|.lbx ..=>true|_=>false
def Ax:D->Value->Bool|.b x,.bool y=>x==y|.i k n,.int a c=>decide (k=a)&&decide (n=c)|.s l,.string s=>l==s.data.toList|.nil,.slice none 0 0=>true|.np,.pointer none=>true|.mnil,.map none=>true|.nf,.nilFunc=>true|.ni,.nilIface=>true|_,_=>false
def rH:List D->List Value->Bool|[],[]=>true|d::ds,v::vs=>Ax d v&&rH ds vs|_,_=>false
def py:D->Value->Bool|.ag a,.agg vs=>rH a vs.toList|.fn (.func f) [] [],.func (.func g) x y=>f==g&&x.isEmpty&&y.isEmpty|.u,.tuple vs=>vs.isEmpty|d,v=>Ax d v
def aX(c:CX)(i:Nat)(x:O)(y:Operand):Bool:=match x,y with|.l j,.tmp t=>decide (j<i)&&(match c.ops[j]?,c.vos[j]? with|some o,some a=>o.dst==some t&&a.keep==none&&!a.op.isAddr&&!a.op.isBox|_,_=>false)|.s k,.tmp t=>c.tm[k]?==some t&&!c.bs.contains k|.c d,.const v=>py d v|.c (.fn (.func f) [] []),.func g=>f==g|_,_=>false
def pz(c:CX)(i:Nat)(x:AB)(y:Operand):Bool:=match x,y with|.sl k,.tmp t=>c.tm[k]?==some t&&c.bs.contains k|.lo j,.tmp t=>decide (j<i)&&(match c.ops[j]?,c.vos[j]? with|some o,some a=>o.dst==some t&&a.keep==none&&a.op.isAddr|_,_=>false)|_,_=>false
def gk(c:CX)(i:Nat):List O->List Operand->Bool|[],[]=>true|x::a,y::b=>aX c i x y&&gk c i a b|_,_=>false
def pG(c:CX)(i:Nat):Option O->Option Operand->Bool|none,none=>true|some x,some y=>aX c i x y|_,_=>false
def ii(P:Program)(t:TypeId)(a:List D):Bool:=match P.info? t with|some i=>(match i.zero with|some z=>rH a z.cells.toList&&a.length==i.size|none=>false)|none=>false
def bu(P:Program)(t:TypeId)(n:Nat):Bool:=match P.info? t with|some i=>i.size==n|none=>false
def xo(P:Program)(t:TypeId)(n:Nat):Bool:=match P.info? t with|some i=>i.bytes==n|none=>false
def lw(P:Program)(t:TypeId)(a:Bool):Bool:=match P.underlying t with|some (.struct _)|some (.array _ _)=>a|some _=>!a|none=>false
def uI(P:Program)(s:TypeId)(f b:Nat):Bool:=match P.underlying s with|some (.struct fs)=>(match fs[f]? with|some a=>a.offset==b&&(match P.info? a.type with|some i=>i.size !=0|none=>false)|none=>false)|_=>false
def rI(P:Program)(t:TypeId):Option TypeId:=match P.underlying t with|some (.slice e)=>some e|_=>none
def rJ(P:Program)(t:TypeId):Option (Nat×TypeId):=match P.underlying t with|some (.array n e)=>some (n,e)|_=>none
def E5(g:TypeId->Option (List Nat)):Nat->List Field->Option (List Nat)|_,[]=>some []|c,f::fs=>if f.offset=c&&f.name !="_"then match g f.type with
 |some a=>match E5 g (c+a.length) fs with|some b=>some (a++b)|none=>none
 |none=>none else none
def xp(P:Program):Nat->(TypeId->Option (List Nat))×(Nat->List Field->Option (List Nat))|0=>(λ_=>none,λ_ fs=>match fs with|[]=>some []|_::_=>none)|n+1=>(λt=>match P.underlying t with
 |some .bool=>if P.cellsOf t=1 then some [0]else none|some (.int _)=>if P.cellsOf t=1 then some [1]else none|some .string=>if P.cellsOf t=1 then some [2]else none|some (.struct fs)=>if P.stoodInHeld t then none else match(xp P n).2 0 fs.toList with|some a=>if P.cellsOf t=a.length then some a else none|none=>none
 |_=>none,E5 (xp P n).1)
def lV(P:Program)(n:Nat)(t:TypeId):Option (List Nat):=(xp P n).1 t
def rK(P:Program)(n a:Nat)(fs:List Field):Option (List Nat):=(xp P n).2 a fs
theorem E6(P:Program)(t:TypeId):lV P 0 t=none:=rfl
def E7(P:Program)(n:Nat)(t:TypeId):lV P (n+1) t=match P.underlying t with
 |some .bool=>if P.cellsOf t=1 then some [0]else none|some (.int _)=>if P.cellsOf t=1 then some [1]else none|some .string=>if P.cellsOf t=1 then some [2]else none|some (.struct fs)=>if P.stoodInHeld t then none else match rK P n 0 fs.toList with|some a=>if P.cellsOf t=a.length then some a else none|none=>none
 |_=>none:=rfl
def adc(P:Program)(n a:Nat):rK P n a []=some []:=by cases n<;>rfl
def PV(P:Program)(a:Nat)(f:Field)(fs:List Field):rK P 0 a (f::fs)=none:=rfl
def PW(P:Program)(n c:Nat)(f:Field)(fs:List Field):rK P (n+1) c (f::fs)=if f.offset=c&&f.name !="_"then match lV P n f.type with
 |some a=>match rK P (n+1) (c+a.length) fs with|some b=>some (a++b)|none=>none
 |none=>none else none:=by simp_all[lV,xp,rK,E5]
def pH(P:Program)(t:TypeId)(k:EK):Bool:=match k,P.underlying t with|.b,some .bool=>true|.st a,some (.struct _)=>lV P 8 t==some a&&!P.eqGuardType P.depth t|.sl,some (.slice _)=>true|.pt,some (.pointer e)=>(P.info? e).isSome|.mp,some (.map _ _)=>true|.fn,some (.func ..)=>true|.ifc,some (.interface _)=>true|_,_=>false
def kH(P:Program)(t:TypeId)(k:KK):Bool:=match k,P.underlying t with|.c 0,some .bool=>true|.c 1,some (.int _)=>true|.c 2,some .string=>true|.st a,some (.struct _)=>lV P 8 t==some a|_,_=>false
def rL(c:CX)(i:Nat)(place:Nat->Option (Nat×Nat)):List (Nat×Nat×O)->List (Nat×Operand)->Bool|[],[]=>true|(a,n,x)::b,(j,y)::d=>place j==some (a,n)&&aX c i x y&&rL c i place b d|_,_=>false
def rM(c:CX)(i:Nat):List (Nat×O)->List (Nat×Operand)->Bool|[],[]=>true|(j,x)::a,(k,y)::b=>j==k&&aX c i x y&&rM c i a b|_,_=>false
def xq(P:Program)(fs:Array Field)(j:Nat):Option (Nat×Nat):=match fs[j]? with
 |some f=>match P.info? f.type with|some i=>some (f.offset,i.size)|none=>none
 |none=>none
def xu(c:CX)(f:FuncId):Bool:=match c.P.funcs[f]? with|some fn=>fn.body.isSome&&fn.name !="runtime.NumGoroutine"|none=>false
def Ay:O->Bool|.c .nil|.c .np|.c .mnil|.c .nf|.c .ni=>true|_=>false
def E8(P:Program)(e w bytes:Nat)(y:O)(a:Operand):Bool:=match y,a with|.c (.im w' rows),.const (.int .i64 n)=>decide (w'=w)&&decide (n=rows.length)&&decide (rows.length*bytes<=140737488355328/\rows.length<=140737488355328)&&rows.all (ii P e)|_,_=>false
def jC(c:CX)(i:Nat)(o:Oper)(vo:aq):Bool:=match vo.op with|.mov x=>(match o.op with|.move y|.assign y=>aX c i x y|_=>false)|.pick a b d=>(match o.op with|.pick L M d'=>aX c i a L&&aX c i b M&&aX c i d d'|_=>false)|.lal h=>(match o.op with|.alloc t=>ii c.P t h|_=>false)|.lbx x n=>(match o.op with|.box t y=>aX c i x y&&bu c.P t n|_=>false)|.hal C h=>(match o.op with|.alloc t=>ii c.P t h&&C==t|_=>false)|.hbx C x n=>(match o.op with|.box t y=>aX c i x y&&bu c.P t n&&C==t|_=>false)|.haa w h _=>(match o.op with|.alloc t=>(match rJ c.P t with|some (n,_)=>n==h.length&&h.all (λr=>r.length==w)&&ii c.P t h.flatten|none=>false)|_=>false)|.lfa a N=>(match o.op with|.fieldAddr s y f=>pz c i a y&&uI c.P s f N|_=>false)|.lld a n E=>(match o.op with|.load t y=>pz c i a y&&bu c.P t n&&lw c.P t E|_=>false)|.lst a x n=>(match o.op with|.store t y z=>pz c i a y&&aX c i x z&&bu c.P t n|_=>false)|.fad x N=>(match o.op with|.fieldAddr s y f=>aX c i x y&&uI c.P s f N|_=>false)|.iad x q w=>(match o.op with|.indexAddr t y k=>aX c i x y&&aX c i q k&&(match rI c.P t with|some e=>bu c.P e w|none=>false)|_=>false)|.iar x q n w=>(match o.op with|.indexAddr t y k=>aX c i x y&&aX c i q k&&(match rJ c.P t with|some (m,e)=>m==n&&bu c.P e w|none=>false)|_=>false)|.ld x n E=>(match o.op with|.load t y=>aX c i x y&&bu c.P t n&&lw c.P t E|_=>false)|.ldh x n E=>(match o.op with|.load t y=>aX c i x y&&bu c.P t n&&lw c.P t E|_=>false)|.st x v n=>(match o.op with|.store t y z=>aX c i x y&&aX c i v z&&bu c.P t n|_=>false)|.bin P x y=>(match o.op with|.binOp J _ K F _=>decide (P=J)&&aX c i x K&&aX c i y F|_=>false)|.eqv neg k x y=>(match o.op with|.binOp J t K F _=>decide (J=(match neg with|true=>.neq|false=>.eql))&&aX c i x K&&aX c i y F&&pH c.P t k&&(match k with|.ifc=>Ay x||Ay y|_=>true)|_=>false)|.un P x=>(match o.op with|.unOp J _ y=>decide (P=J)&&aX c i x y|_=>false)|.cvi k x=>(match o.op with|.convert s t y=>aX c i x y&&(c.P.underlying s).isSome&&(match c.P.underlying t with|some (.int G)=>decide (k=G)|_=>false)|_=>false)|.agc h A=>(match o.op with|.build t H=>ii c.P t h&&(match c.P.underlying t with|some (.struct fs)=>fs.toList.all (λf=>(c.P.info? f.type).isSome)&&rL c i (xq c.P fs) A H.toList|some (.array _ e)=>(match c.P.info? e with|some B=>rL c i (λj=>some (j*B.size,B.size)) A H.toList|none=>false)|_=>false)|_=>false)|.bsl w n h A _=>(match o.op with|.buildSlice t m H=>n==m&&(n !=0||A.isEmpty)&&decide (n*w<=2^24)&&(match rI c.P t with|some e=>bu c.P e w&&ii c.P e h&&decide (0<w)&&rM c i A H.toList|none=>false)|_=>false)|.bsv w n h A=>(match o.op with|.buildSlice t m H=>n==m&&(n !=0||A.isEmpty)&&decide (n*w<=2^24)&&(match rI c.P t with|some e=>bu c.P e w&&ii c.P e h&&decide (0<w)&&rM c i A H.toList|none=>false)|_=>false)|.len k x=>(match o.op with|.call {callee:=.builtin .len,args,argTypes}=>(match args.toList,argTypes[0]? with|[y],some t=>aX c i x y&&(match c.P.underlying t,k with|some .string,0|some (.slice _),1|some (.map _ _),2=>true|_,_=>false)|_,_=>false)|_=>false)|.app x y w bytes _=>(match o.op with|.call {callee:=.builtin .append,args,argTypes}=>(match args.toList,argTypes.toList with|[K,F],[t,u]=>aX c i x K&&(match rI c.P t with|some e=>bu c.P e w&&xo c.P e bytes&&decide (0<w)&&(match c.P.info? e with|some B=>(match B.zero with|some z=>z.cells.size==w|none=>false)|none=>false)&&(match c.P.underlying u with|some (.slice e')=>aX c i y F&&bu c.P e' w|some .string=>aX c i y F&&w==1|some (.int _)=>E8 c.P e w bytes y F|_=>false)|none=>false)|_,_=>false)|_=>false)|.mks l cp w bytes h _=>(match o.op with|.makeSlice t l' af=>aX c i l l'&&aX c i cp af&&(match rI c.P t with|some e=>bu c.P e w&&xo c.P e bytes&&ii c.P e h&&decide (0<w)|none=>false)|_=>false)|.sli ag w x lo hi mx=>(match o.op with|.slice t y Q S ai=>aX c i x y&&pG c i lo Q&&pG c i hi S&&pG c i mx ai&&(match c.P.underlying t,ag with|some .string,true=>true|some (.slice e),false=>bu c.P e w|_,_=>false)|_=>false)|.sla x n w lo hi=>(match o.op with|.slice t y Q S none=>aX c i x y&&pG c i lo Q&&pG c i hi S&&(match rJ c.P t with|some (m,e)=>m==n&&bu c.P e w|none=>false)|_=>false)|.ixs x q=>(match o.op with|.index t y k=>aX c i x y&&aX c i q k&&(match c.P.underlying t with|some .string=>true|_=>false)|_=>false)|.ext x j=>(match o.op with|.extract y k=>aX c i x y&&j==k|_=>false)|.mkf f a b=>(match o.op with|.makeFunc g L M=>decide (f=g)&&gk c i a L.toList&&gk c i b M.toList|_=>false)|.mkm=>(match o.op with|.makeMap _ none=>true|_=>false)|.lk U m k V zero=>(match o.op with|.lookup t I G W=>aX c i m I&&aX c i k G&&V==W&&(match c.P.underlying t with|some (.map C et)=>kH c.P C U&&(match c.P.info? et with|some B=>(match B.zero with|some X=>py zero X|none=>false)|none=>false)|_=>false)|_=>false)|.mup U m k v=>(match o.op with|.mapUpdate t I G Z|.insert t I G Z=>aX c i m I&&aX c i k G&&aX c i v Z&&(match c.P.underlying t with|some (.map C _)=>kH c.P C U|_=>false)|_=>false)|.mki t x=>(match o.op with|.makeInterface Y y=>t==Y&&aX c i x y&&(match c.P.underlying t with|some (.interface _)=>false|some _=>true|none=>false)|_=>false)|.tas x t V zero=>(match o.op with|.typeAssert y _ Y W=>aX c i x y&&t==Y&&V==W&&(match c.P.underlying t with|some (.interface _)=>false|some _=>(match c.P.info? t with|some B=>(match B.zero with|some X=>py zero X|none=>false)|none=>false)|none=>false)|_=>false)|.nck x=>(match o.op with|.nilCheck y=>aX c i x y|_=>false)|.mx p=>(match o.op with|.call {callee:=.builtin .max,args,..}=>gk c i p args.toList|_=>false)|.mn p=>(match o.op with|.call {callee:=.builtin .min,args,..}=>gk c i p args.toList|_=>false)|.call f p=>(match o.op with|.call {callee:=.value (.func g),args,..}=>f==g&&gk c i p args.toList&&xu c f|_=>false)|.calv x p|.calvx x p=>(match o.op with|.call {callee:=.value y,args,..}=>aX c i x y&&gk c i p args.toList|_=>false)|.inv x m p=>(match o.op with|.call {callee:=.invoke y I,args,..}=>aX c i x y&&m==I&&gk c i p args.toList|_=>false)|.pan x=>(match o.op with|.panic y=>aX c i x y|_=>false)|.stk=>true|.gia g q n w=>(match o.op with|.indexAddr t (.global g') k=>g==g'&&aX c i q k&&(match rJ c.P t with|some (m,e)=>m==n&&bu c.P e w|none=>false)|_=>false)|.ixa x q n w E=>(match o.op with|.index t y k=>aX c i x y&&aX c i q k&&(match rJ c.P t with|some (m,e)=>m==n&&bu c.P e w&&lw c.P e E|none=>false)|_=>false)|.cpl f p|.calx f p|.callp f p=>(match o.op with|.call {callee:=.value (.func g),args,..}=>f==g&&gk c i p args.toList&&xu c f|_=>false)
def uJ(c:CX)(i:Nat)(o:Oper)(a:aq):Bool:=jC c i o a&&(match o.dst with|none=>a.keep==none&&!a.op.isAddr&&!a.op.isBox|some t=>(match a.keep with|some k=>c.tm[k]?==some t&&(c.bs.contains k==a.op.isBox)&&!a.op.isAddr|none=>!c.tm.contains t&&!a.op.isBox&&decide (t<c.nt)))&&(match a.guard,o.guard with|none,none=>true|some (x,b),some (j,d)=>b==d&&(match(c.ops[j]?).bind (·.dst)with|some t=>aX c i x (.tmp t)|none=>false)|_,_=>false)
def uK(a:List Nat):List Oper->List Nat->Bool|[],_=>true|o::os,seen=>match o.dst with|none=>uK a os seen|some t=>if a.contains t then uK a os seen else !seen.contains t&&uK a os (t::seen)
def PX(a:List aq)(b:List (Option Nat)):Bool:=(List.range a.length).all λj=>match a[j]? with|some o=>!o.op.isBox||(match o.keep with|some k=>(List.range j).all λi=>b[i]? !=some (some k)|none=>true)|none=>true
def Az(ops:Array Oper):Bool:=(List.range ops.size).all λi=>match ops[i]? with|some o=>o.after.toList.all λe=>!Region.binds .any e||decide (e.on<i)|none=>true
def PY(P:Program)(V:aw)(f:Nat)(e g:List Nat)(ops:Array Oper)(a:List aq):Bool:=let b:=r7 a;let c:CX:=⟨P,V,f,e,g,ops,a,b⟩;ops.size==a.length&&b.length==a.length&&((List.range a.length).all λi=>match ops[i]?,a[i]? with|some o,some d=>uJ c i o d&&(b[i]?==some (r6 b d))&&d.locR.all (λj=>decide (j<i))|_,_=>false)&&uK e ops.toList []&&PX a b
def pI(P:Program)(V:aw)(b:Nat)(c d:List Nat)(ops:Array Oper)(e:Option Bool)(a:List aq):Bool:=PY P V b c d ops a&&(match e with|none=>true|some f=>Fi V f (r7 a) (Region.before ops) a&&Az ops)
def nodup:List Nat->Bool|[]=>true|x::a=>!a.contains x&&nodup a
def cw(P:Program)(V:aw)(f:Nat)(g e:List Nat):Code->aR->Bool|.skip,.skip=>true|.region _ ops h,.reg k l=>h==l.isSome&&pI P V f g e ops l k|.region _ ops h,.hrg k m=>h&&nodup (m++e)&&pI P V f g (m++e) ops (some false) k|.seq a b,.seq x y=>cw P V f g e a x&&cw P V f g e b y|.cond c a b,.cond d x y=>aX ⟨P,V,f,g,e,#[],[],[]⟩ 0 d c&&cw P V f g e a x&&cw P V f g e b y|.block i a,.block j x=>i==j&&cw P V f g e a x|.loop a,.loop x=>cw P V f g e a x|.exit i,.exit j=>i==j|.ret,.ret=>true|_,.stuck=>true|_,_=>false
def PZ(P:Program)(V:aw)(c:Array Tmp)(a b:Code)(r:Rnd):Bool:=r.ps.length==c.size&&((List.range c.size).all λi=>match r.ps[i]?,c[i]? with|some k,some t=>r.tm[k]?==some t|_,_=>false)&&cw P V r.nt r.tm [] a r.a&&cw P V r.nt r.tm [] b r.b
def AA(P:Program)(V:aw)(r:Rnd):Bool:=match uE P r.f r.path with|some (c,a,b)=>PZ P V c a b r&&nodup r.tm&&r.tm.all λt=>decide (t<r.nt)|none=>false
def lW(P:Program)(V:aw)(f d:Nat)(e:List Nat):List Bool->Code->aR->Bool
 |h,.seq a b,.seq x y=>lW P V f d e (h++[false]) a x&&lW P V f d e (h++[true]) b y|h,.block id c,.block i x=>id==i&&lW P V f d e (h++[false]) c x|h,.rangeFunc g k a b,.rng j x=>match V.rnd j with|some r=>r.f==f&&r.path==h&&r.nt==d&&r.tm==e&&aX ⟨P,V,d,e,[],#[],[],[]⟩ 0 x g|none=>false
 |_,c,v=>cw P V d e [] c v
def gJ(P:Program)(b c:List Nat):List ResultVar->List dc->Bool|[],[]=>true|.tmp t::d,.s k::e=>b[k]?==some t&&!c.contains k&&gJ P b c d e|.cell a t::d,.bx k n f::e=>b[k]?==some a&&c.contains k&&bu P t n&&lw P t f&&gJ P b c d e|.cell a t::d,.hb k n f::e=>b[k]?==some a&&!c.contains k&&bu P t n&&lw P t f&&gJ P b c d e|_,_=>false
def P0(P:Program)(V:aw)(c:Nat)(d e:List Nat)(q:ft)(ops:Array Oper):Bool:=match ops.toList with|[a,b]=>(match a.op,a.dst,b.op with|.makeFunc (.func g) fs f,some t,.defer {callee:=.value (.tmp h),args:=i,argTypes:=_}=>g==q.g&&fs.isEmpty&&i.isEmpty&&h==t&&!d.contains t&&decide (t<c)&&gk ⟨P,V,c,d,e,#[],[],[]⟩ 0 (q.caps.map O.s) f.toList|_,_,_=>false)&&a.guard.isNone&&b.guard.isNone&&b.dst.isNone|_=>false
def AC(P:Program)(V:aw)(q:ft):Bool:=match P.funcs[q.g]? with|some a=>(match a.body with|some (.seq (.region _ ops false) e)=>(match ops.toList with|[b,c]=>(match b.op,b.dst,c.op,c.dst with|.call {callee:=.builtin .recover,args:=_,argTypes:=_},some d,.assign (.tmp t),some f=>t==d&&!q.tm.contains d&&decide (d<a.ntmps)&&q.tm[q.rk]?==some f&&!q.bs.contains q.rk|_,_,_,_=>false)&&b.guard.isNone&&c.guard.isNone|_=>false)&&cw P V a.ntmps q.tm q.bs e q.body|_=>false)&&a.results.isEmpty&&a.params.isEmpty&&a.nfree==q.caps.length&&decide (q.caps.length<=q.tm.length)&&q.ns==q.tm.length&&((List.range q.caps.length).all λk=>q.tm[k]?==some k)&&q.tm.all (λt=>decide (t<a.ntmps))&&nodup q.tm&&q.bs.all (λk=>decide (q.caps.length<=k))&&decide (q.caps.length<=a.ntmps)&&decide (q.caps.length<=q.rk)&&a.name !="runtime.NumGoroutine"|none=>false
def lC(P:Program)(V:aw)(fn:Func)(a:aJ)(b d:List Nat):Bool:=(match a.dfr,fn.body with
 |none,some c=>match a.rg with|none=>cw P V fn.ntmps b d c a.body|some f=>d.isEmpty&&lW P V f fn.ntmps b [] c a.body
 |some q,some (.seq e (.seq (.region _ ops false) g))=>cw P V fn.ntmps b d e q.pre&&P0 P V fn.ntmps b d q ops&&cw P V fn.ntmps b d g a.body&&AC P V q|_,_=>false)&&a.npar==fn.params.size+fn.nfree&&decide (a.npar<=b.length)&&a.nsl==b.length&&((List.range a.npar).all λk=>b[k]?==some k)&&b.all (λt=>decide (t<fn.ntmps))&&nodup b&&d.all (λk=>decide (a.npar<=k))&&decide (a.npar<=fn.ntmps)&&gJ P b d fn.results.toList a.res
def E9(P:Program)(V:aw)(g:FuncId)(v:aJ):Prop:=∃(fn:Func)(a b:List Nat),P.funcs[g]?=some fn/\lC P V fn v a b=true/\fn.name≠"runtime.NumGoroutine"/\(v.rg=none\/v.rg=some g)
section
structure En where
 K:Kn
 μ:Mu
 H:ab
 w:World
structure FS(E:En)(tm bs:List Nat)(K:Kn)(μ:Mu)(L:Nat->Option Nat)(sl:List D)(H:ab)(tmps:Array Value)(W:World):Prop where
 hr:HR K μ H W
 nx:Nx E.K E.μ E.H E.w K μ H W
 len:sl.length=tm.length
 val:∀(k t:Nat),tm[k]?=some t->bs.contains k=false->∃d v,sl[k]?=some d/\tmps[t]?=some v/\VR K μ H d v
 box:∀(k t:Nat),tm[k]?=some t->bs.contains k=true->sl[k]?=some .u\/∃r cs vs ty,L k=some r/\sl[k]?=some (.bx cs)/\tmps[t]?=some (.pointer (some ⟨r,0,none⟩))/\W.heap[r]?=some (.cells vs ty (0,0))/\CRs K μ H cs vs.toList
 own:∀(k r:Nat),L k=some r->¬cd μ H r/\(∀o v,K r o≠some v)/\E.w.heap.size<=r/\r<W.heap.size
 inj:∀(k k' r:Nat),L k=some r->L k'=some r->k=k'
def FS.go{E:En}{l m:List Nat}{K c:Kn}{μ f:Mu}{L:Nat->Option Nat}{sl:List D}{H g:ab}{tmps:Array Value}{W i:World}(h:FS E l m K μ L sl H tmps W)(u:HR c f g i)(n:Nx K μ H W c f g i):FS E l m c f L sl g tmps i where
 hr:=u;nx:=h.nx.trans n;len:=h.len;val:=λk t a b=>by obtain⟨d,v,x,y,z⟩:=h.val k t a b;exact⟨d,v,x,y,z.ext n.ext⟩
 box:=λk t a b=>by
  rcases h.box k t a b with x|⟨r,w,vs,A,p,B,C,F,G⟩;·grind
  obtain⟨q,I,s,j⟩:=h.own k r p;exact .inr ⟨r,w,vs,A,p,B,C,by rw[n.keep r j q];exact F,G.ext n.ext⟩
 own:=λk r a=>by
  obtain⟨q,I,s,j⟩:=h.own k r a;refine⟨λx=>?_,λo v e=>?_,s,hI j n.size⟩;·rcases n.og r x with y|y<;>grind
  rcases n.kg r o v e with y|y|y<;>grind
 inj:=h.inj
def Res(K:Kn)(μ:Mu)(H:ab)(a W:World)(L:Nat->Option Nat)(d:D)(v:Value):Prop:=match d with|.bx b=>∃r vs c,v=.pointer (some ⟨r,0,none⟩)/\a.heap.size<=r/\r<W.heap.size/\W.heap[r]?=some (.cells vs c (0,0))/\CRs K μ H b vs.toList/\¬cd μ H r/\∀o u,K r o≠some u|.lp k e=>∃r,L k=some r/\v=.pointer (some ⟨r,e,none⟩)|d=>VR K μ H d v
def iT(c:CX)(done:Nat->Prop)(L:Nat->Option Nat)(K:Kn)(μ:Mu)(H:ab)(loc:List D)(tmps:Array Value):Prop:=∀(i:Nat)(o:Oper)(a:aq)(t:Nat),done i->c.ops[i]?=some o->c.vos[i]?=some a->o.dst=some t->a.keep=none->∃d v,loc[i]?=some d/\tmps[t]?=some v/\match a.op.isAddr with|true=>(d=.u/\v=undef)\/∃k b r,d=.lp k b/\c.rt[i]?=some (some k)/\L k=some r/\v=.pointer (some ⟨r,b,none⟩)|false=>VR K μ H d v
theorem iT.ext{c:CX}{done:Nat->Prop}{L:Nat->Option Nat}{K j:Kn}{μ k:Mu}{H l:ab}{loc:List D}{tmps:Array Value}(h:iT c done L K μ H loc tmps)(e:ba K μ H j k l):iT c done L j k l loc tmps:=λi o m t a b d f g=>by obtain⟨x,v,n,p,q⟩:=h i o m t a b d f g;grind[VR.ext]
def Qp{d:D}{v:Value}(h:Ax d v=true)(K:Kn)(μ:Mu)(H:ab):VR K μ H d v/\v.oneCell'=true:=by
 unfold Ax at h;split at h;·simp[X0]at h;subst h;exact⟨.b ..,rfl⟩
 ·simp[D0,Hq]at h;obtain⟨rfl,rfl⟩:=h;exact⟨.i ..,rfl⟩
 ·simp[X0]at h;subst h;exact⟨.s ..,rfl⟩
 ·exact⟨.nil ..,rfl⟩
 ·exact⟨.np ..,rfl⟩
 ·exact⟨.mnil ..,rfl⟩
 ·exact⟨.nf ..,rfl⟩
 ·exact⟨.ni ..,rfl⟩
 grind
def AX:∀{ds:List D}{vs:List Value},rH ds vs=true->∀(K:Kn)(μ:Mu)(H:ab),CRs K μ H ds vs
 |[],[],_,K,μ,H=>⟨⟨rfl,λj d v e=>by grind⟩,λv e=>by grind⟩|[],_::_,h,_,_,_=>by grind[rH]|_::_,[],h,_,_,_=>by grind[rH]|d::ds,v::vs,h,K,μ,H=>by
  simp[rH,D0]at h;obtain⟨c,f⟩:=Qp h.1 K μ H;obtain⟨⟨k,g⟩,i⟩:=AX h.2 K μ H;refine⟨⟨by grind,λj x y e a=>?_⟩,λx b=>?_⟩;·cases j with|zero=>simp at e a;subst e;subst a;exact c|succ j=>exact g j x y (by simpa using e) (by simpa using a)
  rcases S2.1 b with rfl|b;·exact f
  exact i x b
def Qq{d:D}{v:Value}(h:py d v=true)(K:Kn)(μ:Mu)(H:ab):VR K μ H d v:=by
 unfold py at h;split at h;·rename_i a vs;obtain⟨⟨b,c⟩,f⟩:=AX h K μ H;have:=VR.ag (K:=K) μ H a vs.toList b f c;simpa using this
 ·simp only[D0,X0,ABL]at h;obtain⟨⟨rfl,rfl⟩,rfl⟩:=h;exact .fn _ _ _ [] [] [] [] rfl rfl (λj d v e=>by simp at e) (λj d v e=>by simp at e)
 ·simp only[ABL]at h;subst h;exact .u ..
 exact(Qp h K μ H).1
def oo{α:Type}{a:Array α}{i:Nat}{x d:α}(h:a[i]?=some x):a.getD i d=x:=by simp_all
section
variable{c:CX}{E:En}{L:Nat->Option Nat}{K:Kn}{μ:Mu}{sl:List D}{H:ab}{a:Act}{W:World}{loc:List D}{done:Nat->Prop}
def iU(fs:FS E c.tm c.bs K μ L sl H a.tmps W)(lr:iT c done L K μ H loc a.tmps){i:Nat}{x:O}{y:Operand}(h:aX c i x y=true)(l:∀j∈x.locs,done j):VR K μ H (x.ev loc sl) (a.eval y):=by
 unfold aX at h;split at h
 ·rename_i j t;simp only[D0,Hq]at h;obtain⟨_,h⟩:=h;split at h;·rename_i o m n p;simp only[D0,X0,k7]at h;obtain⟨⟨⟨q,r⟩,s⟩,u⟩:=h;obtain⟨d,v,f,g,b⟩:=lr j o m t (l j (by simp[O.locs])) n p q r;rw[s]at b;simp only[O.ev,Act.eval,n0,f,fL,oo g];exact b
  cases h
 ·rename_i k t;simp only[D0,X0,k7]at h;obtain⟨d,v,f,g,b⟩:=fs.val k t h.1 h.2;simp only[O.ev,Act.eval,n0,f,fL,oo g];exact b
 ·exact Qq h _ _ _
 ·simp only[X0]at h;subst h;exact .fn _ _ _ [] [] [] [] rfl rfl (λj d v e=>by simp at e) (λj d v e=>by simp at e)
 cases h
def xK(fs:FS E c.tm c.bs K μ L sl H a.tmps W)(lr:iT c done L K μ H loc a.tmps){i:Nat}:∀{b:List O}{f:List Operand},gk c i b f=true->(∀j∈b.flatMap O.locs,done j)->bf K μ H (b.map (O.ev loc sl)) (f.map a.eval)|[],[],_,_=>⟨rfl,λj d v e=>by grind⟩|[],_::_,h,_=>by grind[gk]|_::_,[],h,_=>by grind[gk]|x::b,y::f,h,g=>by simp[gk,D0]at h;have l:=iU fs lr h.1 (λj k=>g j (by grind));obtain⟨m,n⟩:=xK fs lr h.2 (λj k=>g j (by grind));constructor<;>grind
theorem Qr(fs:FS E c.tm c.bs K μ L sl H a.tmps W)(lr:iT c done L K μ H loc a.tmps){i:Nat}{x:AB}{y:Operand}(h:pz c i x y=true)(m:∀j∈x.locs,done j){k o:Nat}(b:x.ev loc sl=some (k,o)):∃r,L k=some r/\a.eval y=.pointer (some ⟨r,o,none⟩)/\lZ c.rt x=[k]:=by
 unfold pz at h;split at h
 ·rename_i w t;simp only[D0,X0]at h;simp[AB.ev]at b;split at b
  ·rename_i z A;cases b;rcases fs.box k t h.1 h.2 with x|⟨r,B,vs,C,e,g,f,F,G⟩;·grind
   exact⟨r,e,by simp[Act.eval,oo f],rfl⟩
  grind
 ·rename_i j t;simp only[D0,Hq]at h;obtain⟨_,h⟩:=h;split at h
  ·rename_i o' n p q;simp[D0,X0]at h;obtain⟨⟨e,g⟩,f⟩:=h;obtain⟨d,v,s,u,l⟩:=lr j o' n t (m j (by simp[AB.locs])) p q e g;rw[f]at l;simp[AB.ev,s]at b;rcases l with⟨rfl,_⟩|⟨I,J,r,rfl,M,hL,rfl⟩;·cases b
   cases b;refine⟨r,hL,by simp[Act.eval,oo u],?_⟩;grind[lZ]
  grind
 grind
def Fx(fs:FS E c.tm c.bs K μ L sl H a.tmps W){k r:Nat}{f:List D}(b:eR ⟨sl,H⟩ k=some f)(hL:L k=some r):∃vs g,W.heap[r]?=some (.cells vs g (0,0))/\CRs K μ H f vs.toList:=by
 unfold eR at b;split at b
 ·rename_i j e;cases b;have h:k<c.tm.length:=by rw[<-fs.len];grind
  cases i:c.bs.contains k with|true=>rcases fs.box k _ (Hk h) i with x|⟨n,j,vs,g,o,p,q,s,t⟩<;>grind|false=>obtain⟨d,v,l,u,m⟩:=fs.val k _ (Hk h) i;simp at e;rw[l]at e;cases e;cases m
 grind
def au(c:CX)(E:En)(L:Nat->Option Nat)(o:Oper)(a:Act)(K:Kn)(μ:Mu)(H:ab)(W:World)(d:D)(b:St):Prop:=∃e f g n,(execOp a.eval o).run c.P W=.ok n g/\FS E c.tm c.bs e f L b.sl b.hp a.tmps g/\ba K μ H e f b.hp/\W.heap.size<=g.heap.size/\((∃v,n=.value v/\VR e f b.hp d v)\/(n=.skip/\d=.u))
def AY(c:CX)(E:En)(L:Nat->Option Nat)(o:Oper)(a:Act)(K:Kn)(μ:Mu)(H:ab)(W:World)(d:D)(e:St):Prop:=∃b v,(execOp a.eval o).run c.P W=.ok (.value v) b/\FS E c.tm c.bs K μ L e.sl e.hp a.tmps b/\W.heap.size<=b.heap.size/\e.hp=H/\Res K μ H W b L d v
theorem au.val(fs:FS E c.tm c.bs K μ L sl H a.tmps W){o:Oper}{d:D}{v:Value}(b:(execOp a.eval o).run c.P W=.ok (.value v) W)(h:VR K μ H d v):au c E L o a K μ H W d ⟨sl,H⟩:=⟨K,μ,W,_,b,fs,.refl _ _ _,G1 _,.inl ⟨v,rfl,h⟩⟩
def au.go(fs:FS E c.tm c.bs K μ L sl H a.tmps W){o:Oper}{d:D}{v:Value}{b:Kn}{e:Mu}{f:ab}{g:World}(i:(execOp a.eval o).run c.P W=.ok (.value v) g)(hr:HR b e f g)(nx:Nx K μ H W b e f g)(h:VR b e f d v):au c E L o a K μ H W d ⟨sl,f⟩:=⟨b,e,g,_,i,fs.go hr nx,nx.ext,nx.size,.inl ⟨v,rfl,h⟩⟩
def adT{d:D}{b:List D}{v:Value}(h:d.cells?=some b)(g:VR K μ H d v):CRs K μ H b v.cells.toList:=by
 have one:∀{d:D}{v:Value},VR K μ H d v->v.oneCell'=true->v.cells=#[v]->CRs K μ H [d] v.cells.toList:=λ{d v}a i k=>by
  rw[k];refine⟨⟨rfl,λj x y e c=>?_⟩,λy f=>?_⟩;·cases j with|zero=>simp at e c;subst e;subst c;exact a|succ j=>simp at e
  simp at f;subst f;exact i
 cases g with|ag _ _ m vs l a hr=>simp[D.cells?,hF]at h;subst h;exact⟨⟨by simpa[Value.cells]using l,by simpa[Value.cells]using hr⟩,by simpa[Value.cells]using a⟩|tu=>grind[D.cells?]|u=>grind[D.cells?]|_=>simp[D.cells?,hF]at h;subst h;exact one (by constructor<;>omega) rfl rfl
variable{x:List D}
def sk{d:D}{n:Nat}{v:Value}(h:d.cellsN n=some x)(a:VR K μ H d v):CRs K μ H x v.cells.toList/\v.cells.size=n:=by
 unfold D.cellsN at h;split at h
 ·rename_i c b;split at h;·rename_i e;cases h;have:=adT b a;refine⟨this,?_⟩;have f:=this.1.1;grind
  grind
 grind
def l8{P:Program}{t n:Nat}(h:bu P t n=true)(w:World):(sizeOf t).run P w=.ok n w:=by
 unfold bu at h;split at h;·rename_i i hi;simp[X0]at h;simp[sizeOf,typeInfo,hi,h]
 grind
def AZ{P:Program}{t:Nat}{b:Bool}(h:lw P t b=true)(w:World):(isAgg t).run P w=.ok b w:=by
 unfold lw at h;split at h;·rename_i fs a;subst h;simp[isAgg,run_underlying a]
 ·rename_i n e a;subst h;simp[isAgg,run_underlying a]
 ·rename_i d c f a;simp[k7]at h;subst h;simp only[isAgg,Sem.run_bind,run_underlying a,Result.andThen_ok];rfl
 grind
end
end
section
theorem ay{α:Type}{a:List α}{i:Nat}{x:α}(h:a[i]?=some x):i<a.length:=by grind
variable{d e:List D}{x y z b:Nat}
def p9{r:List D}{n:Nat}(h:eQ e x n=some r):r.length=n/\x+n<=e.length/\r=(e.drop x).take n/\∀(j:Nat)(d:D),r[j]?=some d->e[x+j]?=some d:=by grind[eQ,gn]
def A0{vs:List D}(h:cS d x vs=some e):x+vs.length<=d.length/\e=d.take x++vs++d.drop (x+vs.length):=by grind[cS]
def qc{α:Type}(b vs:List α)(a:Nat)(h:a+vs.length<=b.length)(j:Nat):(b.take a++vs++b.drop (a+vs.length))[j]?=if j<a then b[j]? else if j<a+vs.length then vs[j-a]? else b[j]?:=by grind
def Fy{rows:List (List D)}{w:Nat}:∀{i j:Nat}{r:List D}{d:D},iq w rows->rows[i]?=some r->r[j]?=some d->rows.flatten[i*w+j]?=some d:=by induction rows with|nil=>grind|cons x g f=>intro i j r d b h a;have c:=b 0 x rfl;cases i with|zero=>simp at h;subst h;simp[AB7,lB,AAc];rw[dw (ay a)];exact a|succ i=>simp[AAc];rw[gx (by rw[c,k6];omega),c,show(i+1)*w+j-w=i*w+j by rw[k6];omega];exact f (λk q e=>b (k+1) q (by simpa using e)) (by simpa using h) a
def uY{rows:List (List D)}{w:Nat}(a:iq w rows):rows.flatten.length=rows.length*w:=by induction rows with|nil=>simp|cons x c b=>simp only[AAc,N3,fA,b (λk q e=>a (k+1) q (by grind)),a 0 x rfl,k6];omega
def Fz{rows:List (List D)}{w:Nat}:∀{k:Nat}{d:D},iq w rows->rows.flatten[k]?=some d->∃i j r,rows[i]?=some r/\r[j]?=some d/\k=i*w+j:=by induction rows with|nil=>grind|cons x g b=>
 intro k d a h;have l:=a 0 x rfl;simp[AAc]at h;by_cases c:k<x.length;·rw[dw c]at h;exact⟨0,k,x,rfl,h,by omega⟩
 rw[gx (by omega)]at h;obtain⟨i,j,r,m,f,n⟩:=b (λk q e=>a (k+1) q (by grind)) h;exact⟨i+1,j,r,by grind,f,by grind⟩
theorem f8(b o n:Nat):(⟨b,o,none⟩:Addr).add n=⟨b,o+n,none⟩:=by unfold Addr.add<;>grind
def xL{P:Program}{t:Nat}(h:ii P t d=true):∃z,(∀w,(zeroValue t).run P w=.ok z w)/\(∀K μ H,CRs K μ H d z.cells.toList)/\bu P t d.length=true/\d.length=z.cells.size:=by
 unfold ii at h;split at h
 ·rename_i i hi;split at h;·rename_i z a;simp[D0,X0]at h;refine⟨z,λw=>by simp[zeroValue,typeInfo,hi,a],λK μ H=>AX h.1 K μ H,by grind[bu],?_⟩;simpa using(AX h.1 (λ_ _=>none) aK []).1.1
  grind
 grind
section
variable{c:CX}{E:En}{L:Nat->Option Nat}{K:Kn}{μ:Mu}{sl:List D}{H:ab}{a:Act}{W:World}{o:Oper}
def HR.not_own{K:Kn}{μ:Mu}{H:ab}{W:World}(hr:HR K μ H W)(h:W.heap.size<=x):¬cd μ H x:=by rintro⟨id,l,b,h1,h2,h3,h4⟩;have:=hr.lt id l h1;omega
def HR.not_known{K:Kn}{μ:Mu}{H:ab}{W:World}(hr:HR K μ H W)(h:W.heap.size<=x):∀o u,K x o≠some u:=λo u e=>by have:=hr.klt e;omega
def VR.b_inv{x:Bool}{v:Value}(h:VR K μ H (.b x) v):v=.bool x:=by cases h;rfl
def VR.i_inv{k:IntKind}{n:Int}{v:Value}(h:VR K μ H (.i k n) v):v=.int k n:=by cases h;rfl
def VR.s_inv{l:List UInt8}{v:Value}(h:VR K μ H (.s l) v):v=.string ⟨l.toArray⟩:=by cases h;rfl
def Qs(fs:FS E c.tm c.bs K μ L sl H a.tmps W){y:Operand}{d:D}(b:o.op=.move y\/o.op=.assign y)(e:VR K μ H d (a.eval y)):au c E L o a K μ H W d ⟨sl,H⟩:=by refine au.val fs ?_ e;rcases b with b|b<;>simp[execOp,b]
def adU(fs:FS E c.tm c.bs K μ L sl H a.tmps W){x y z:Operand}{b:Bool}{d e:D}(f:o.op=.pick x y z)(h:VR K μ H (.b b) (a.eval x))(i:VR K μ H d (a.eval y))(j:VR K μ H e (a.eval z)):au c E L o a K μ H W (if b then d else e) ⟨sl,H⟩:=by have g:=h.b_inv;cases b with|true=>exact au.val fs (by simp[execOp,f,g,asBool]) i|false=>exact au.val fs (by simp[execOp,f,g,asBool]) j
theorem Qt(fs:FS E c.tm c.bs K μ L sl H a.tmps W){t:Nat}{vs:Array Value}(b:(execOp a.eval o).run c.P W=.ok (.value (.pointer (some ⟨W.heap.size,0,none⟩))) (W.alloc (.cells vs t)))(e:CRs K μ H d vs.toList):AY c E L o a K μ H W (.bx d) ⟨sl,H⟩:=by
 obtain⟨f,nx⟩:=fs.hr.loc (.cells vs t);refine⟨_,_,b,fs.go f nx,nx.size,rfl,W.heap.size,vs,t,rfl,G1 _,by simp,heap_alloc_new W _,e,?_,?_⟩;·exact fs.hr.not_own (G1 _)
 exact fs.hr.not_known (G1 _)
theorem Qu(fs:FS E c.tm c.bs K μ L sl H a.tmps W){t:Nat}{vs:Array Value}(b:(execOp a.eval o).run c.P W=.ok (.value (.pointer (some ⟨W.heap.size,0,none⟩))) (W.alloc (.cells vs t)))(e:CRs K μ H d vs.toList):au c E L o a K μ H W (.hp H.length 0) ⟨sl,H++[.hb t d]⟩:=by obtain⟨f,nx⟩:=fs.hr.push _ ⟨W.heap.size,0,vs.size⟩ (.hb t d) rfl ⟨rfl,vs,t,heap_alloc_new W _,rfl,e.ext (ba.push fs.hr.dom _ _)⟩;exact au.go fs b f nx (.hp _ _ _ _ ⟨W.heap.size,0,vs.size⟩ t d (by simp[Mu.upd]) (by simp))
def adV(fs:FS E c.tm c.bs K μ L sl H a.tmps W){t w:Nat}{rows:List (List D)}{vs:Array Value}{p:Bool}(e:iq w rows)(k:(execOp a.eval o).run c.P W=.ok (.value (.pointer (some ⟨W.heap.size,0,none⟩))) (W.alloc (.cells vs t)))(b:CRs K aK [] rows.flatten vs.toList):au c E L o a K μ H W (.aa H.length) ⟨sl,H++[.ar w rows (some rows.length) p false]⟩:=by
 have m:rows.length*w=vs.size:=by rw[<-uY e,b.1.1];simp
 obtain⟨l,nx⟩:=fs.hr.push _ ⟨W.heap.size,0,vs.size⟩ (.ar w rows (some rows.length) p false) rfl ⟨e,λc h=>by grind,by grind,vs,t,heap_alloc_new W _,rfl,λi r j d x y=>by
 have f:=Fy e x y;have n:=ay f;have g:i*w+j<vs.toList.length:=by rw[<-b.1.1];omega
 refine⟨vs.toList[i*w+j],by grind,b.2 _ (hY g),?_⟩;have:=b.1.2 _ d _ f (Hk g);grind[VR.pure]⟩;exact au.go fs k l nx (.aa _ _ _ ⟨W.heap.size,0,vs.size⟩ w rows rows.length p false (by simp[Mu.upd]) (by simp))
def FA{P:Program}{t:Nat}(h:ii P t d=true)(b:o.op=.alloc t)(W:World):∃vs,vs.size=d.length/\(∀K μ H,CRs K μ H d vs.toList)/\(execOp a.eval o).run P W=.ok (.value (.pointer (some ⟨W.heap.size,0,none⟩))) (W.alloc (.cells vs t)):=by obtain⟨z,c,e,hs,f⟩:=xL h;refine⟨z.cells,f.symm,e,?_⟩;simp[execOp,b,Instr.alloc,c,newVar,newRow]
def Qv{P:Program}{t:Nat}{y:Operand}(b:o.op=.box t y)(W:World):(execOp a.eval o).run P W=.ok (.value (.pointer (some ⟨W.heap.size,0,none⟩))) (W.alloc (.cells (a.eval y).cells t)):=by simp[execOp,b,Instr.box,newVar,newRow]
def A1{P:Program}{f:Nat}(h:uI P x f z=true){y:Operand}(d:o.op=.fieldAddr x y f){b q:Nat}(e:a.eval y=.pointer (some ⟨b,q,none⟩))(W:World):(execOp a.eval o).run P W=.ok (.value (.pointer (some ⟨b,q+z,none⟩))) W:=by
 unfold uI at h;split at h
 ·rename_i fs g;split at h
  ·rename_i l j;simp[D0,X0]at h;obtain⟨k,c⟩:=h;split at c;·rename_i i hi;simp only[AB2]at c;simp[execOp,d,Instr.fieldAt,run_underlying g,j,e,Instr.sureAddr,fieldPlace,sizeOf,typeInfo,hi,c,f8,k]
   grind
  grind
 grind
def adW(fs:FS E c.tm c.bs K μ L sl H a.tmps W){f k r:Nat}{y:Operand}(d:o.op=.fieldAddr x y f)(e:uI c.P x f z=true)(hL:L k=some r)(g:a.eval y=.pointer (some ⟨r,b,none⟩)):AY c E L o a K μ H W (.lp k (b+z)) ⟨sl,H⟩:=⟨W,_,A1 e d g W,fs,G1 _,rfl,r,hL,rfl⟩
def uZ{d:D}{n j:Nat}{v:Value}(h:fh d n=some j)(a:VR K μ H d v):∃k,v=.int k (j:Int)/\j<n:=by
 unfold fh at h;split at h
 ·rename_i k m;split at h;·rename_i b;cases h;cases a;simp_all<;>omega
  grind
 grind
def so{d:D}{n j:Nat}{v:Value}(h:ij d n=some j)(a:VR K μ H d v):∃k,v=.int k (j:Int)/\j<=n:=by
 unfold ij at h;split at h
 ·rename_i k m;split at h;·rename_i b;cases h;cases a;simp_all<;>omega
  grind
 grind
def xM{P:Program}{t n w:Nat}(c:P.underlying t=some (.array n x))(d:bu P x w=true){y k:Operand}(e:o.op=.indexAddr t y k){b j:Nat}{f:IntKind}(g:a.eval k=.int f (j:Int))(h:j<n)(i:a.eval y=.pointer (some ⟨b,z,none⟩))(W:World):(execOp a.eval o).run P W=.ok (.value (.pointer (some ⟨b,z+j*w,none⟩))) W:=by simp[execOp,e,Instr.indexAt,asIntOf,g,run_underlying c,i,Instr.sureAddr,l8 d,f8,h]
def Qw{P:Program}{t w:Nat}(c:P.underlying t=some (.slice x))(d:bu P x w=true){y k:Operand}(e:o.op=.indexAddr t y k){b j n f:Nat}{g:IntKind}(h:a.eval k=.int g (j:Int))(i:j<n)(l:a.eval y=.slice (some ⟨b,z,none⟩) n f)(W:World):(execOp a.eval o).run P W=.ok (.value (.pointer (some ⟨b,z+j*w,none⟩))) W:=by simp[execOp,e,Instr.indexAt,asIntOf,h,run_underlying c,l,l8 d,f8,i]
def A2{P:Program}{t n:Nat}{c:Bool}{ds:List D}{d:D}{vs:List Value}(hs:bu P t n=true)(f:lw P t c=true)(h:vs.length=n)(b:CRs K μ H ds vs)(a:val c ds=some d)(e:Addr)(g:∀(j:Nat)(v:Value),vs[j]?=some v->W.cell? (e.add j)=some v):∃v,(loadVar t e).run P W=.ok v W/\VR K μ H d v:=by cases c with|true=>simp[val,hF]at a;subst a;refine⟨.agg _,?_,.ag _ _ ds vs b.1.1 b.2 b.1.2⟩;have:=run_loadCells_list (P:=P) W e vs g;rw[h]at this;simp[loadVar,AZ f,l8 hs,this]|false=>
 unfold val at a;split at a;·grind
 split at a;·rename_i x;cases a;obtain⟨⟨i,k⟩,l⟩:=b;match vs,i with|[v],_=>refine⟨v,?_,k 0 _ v rfl rfl⟩;have:=g 0 v rfl;simp[Addr.add,if_true]at this;simp[loadVar,AZ f,this]
 grind
def A3{ds:List D}{vs:List Value}(a:CRs K μ H ds vs){n:Nat}(h:x+n<=ds.length):CRs K μ H ((ds.drop x).take n) ((vs.drop x).take n):=by obtain⟨⟨g,b⟩,c⟩:=a;refine⟨⟨by grind,λj d v e f=>b _ d v (gn _ _ _ _ _ e).1 (gn _ _ _ _ _ f).1⟩,λv i=>c v ?_⟩;grind
theorem adX(fs:FS E c.tm c.bs K μ L sl H a.tmps W){t n k:Nat}{f:Bool}{y:Operand}{ds:List D}{d:D}(g:o.op=.load t y)(hs:bu c.P t n=true)(h:lw c.P t f=true)(hL:L k=some z)(i:a.eval y=.pointer (some ⟨z,x,none⟩))(l:eR ⟨sl,H⟩ k=some e)(m:eQ e x n=some ds)(p:val f ds=some d):au c E L o a K μ H W d ⟨sl,H⟩:=by obtain⟨vs,q,r,s⟩:=Fx fs l hL;obtain⟨u,w,A,_⟩:=p9 m;have b:=A3 s w;rw[<-A]at b;obtain⟨v,B,C⟩:=A2 (W:=W) hs h (b.1.1.symm.trans u) b p ⟨z,x,none⟩ (λj v F=>by rw[f8,cell_of_row W z (x+j) vs q _ r];have:=(gn _ _ _ _ _ F).1;simpa using this);exact au.val fs (by simp[execOp,g,Instr.loadAt,i,Instr.sureAddr,B]) C
end
end
section
section
variable{c:CX}{E:En}{L:Nat->Option Nat}{K:Kn}{μ:Mu}{sl:List D}{H:ab}{a:Act}{W:World}{o:Oper}
def HR.other{a:World}(hr:HR K μ H W)(r:Nat)(d:¬cd μ H r)(h:∀o u,K r o≠some u)(hs:W.heap.size<=a.heap.size)(c:∀b,b<W.heap.size->b≠r->a.heap[b]?=W.heap[b]?):HR K μ H a where
 dom:=hr.dom;tot:=hr.tot;blk:=λid l b x y=>(hr.blk id l b x y).ext (.refl _ _ _) (λf=>c _ (hr.lt id l x) (λe=>d ⟨id,l,b,x,y,f,e⟩));lt:=λid l x=>hI (hr.lt id l x) hs;inj:=hr.inj;kn:=λb o v e=>by
  have g:b≠r:=λx=>by grind
  rw[World.cell?_of_block (c b (hr.klt e) g)];exact hr.kn b o v e
 kf:=hr.kf
variable{d e:List Value}
theorem FB{ds vs:List D}{g:List Value}(l:CRs K μ H ds e)(m:CRs K μ H vs g){f:Nat}(h:f+vs.length<=ds.length):CRs K μ H (ds.take f++vs++ds.drop (f+vs.length)) (e.take f++g++e.drop (f+g.length)):=by
 obtain⟨⟨p,i⟩,k⟩:=l;obtain⟨⟨q,n⟩,o⟩:=m;refine⟨⟨by grind,λj d v b c=>?_⟩,λv a=>?_⟩
 ·rw[qc _ _ _ h]at b;rw[qc _ _ _ (by omega)]at c;by_cases x:j<f;·rw[E4 x]at b c;exact i j d v b c
  rw[E1 x]at b c;by_cases y:j<f+vs.length;·rw[E4 y]at b;rw[E4 (by omega)]at c;exact n _ d v b c
  rw[E1 y]at b;rw[E1 (by omega)]at c;exact i j d v b c
 rcases TA.1 a with a|a
 ·rcases TA.1 a with a|a;·exact k v (AA4 a)
  exact o v a
 exact k v (AA5 a)
variable{x y:Nat}
def Qx{P:Program}{t n:Nat}(hs:bu P t n=true){v:Value}(a:v.cells.size=n)(c:∀x,x∈v.cells.toList->x.oneCell'=true){b off:Nat}{vs:Array Value}(d:W.heap[b]?=some (.cells vs y (0,0)))(f:off+n<=vs.size):(storeVar t ⟨b,off,none⟩ v).run P W=.ok () (W.setRow b (vs.toList.take off++v.cells.toList++vs.toList.drop (off+v.cells.toList.length)).toArray):=by have e:=run_storeCells_at P b off y _ 0 vs W d (by grind) c;simp[storeVar,l8 hs,a]at e⊢;omega
variable{z b:List D}
def adY(fs:FS E c.tm c.bs K μ L sl H a.tmps W){t n k q r:Nat}{y g:Operand}{vs m:List D}{d:D}(X:o.op=.store t y g)(hs:bu c.P t n=true)(hL:L k=some r)(Y:a.eval y=.pointer (some ⟨r,q,none⟩))(f:eR ⟨sl,H⟩ k=some z)(Z:VR K μ H d (a.eval g))(hd:d.cellsN n=some vs)(ab:cS z q vs=some m):au c E L o a K μ H W .u ⟨sl.set k (.bx m),H⟩:=by
 obtain⟨h,G,I,J⟩:=Fx fs f hL;obtain⟨A,hn⟩:=sk hd Z;obtain⟨ad,rfl⟩:=A0 ab;have ap:vs.length=n:=by rw[A.1.1];omega
 have aq:z.length=h.size:=by rw[J.1.1];simp
 obtain⟨o1,o2,o3,o4⟩:=fs.own k r hL;have ag:=Qx hs hn A.2 I (off:=q) (by omega);have B:∀b,b≠r->(W.setRow r (h.toList.take q++(a.eval g).cells.toList++h.toList.drop (q+(a.eval g).cells.toList.length)).toArray).heap[b]?=W.heap[b]?:=λb f=>setRow_other W r b _ f;have ah:=setRow_heap W r h (h.toList.take q++(a.eval g).cells.toList++h.toList.drop (q+(a.eval g).cells.toList.length)).toArray G _ I;have ai:=FB J A ad;have C:sl[k]?=some (.bx z):=by grind[eR]
 generalize s:W.setRow r _=M at*;have aw:M.heap.size=W.heap.size:=by rw[<-s];simp
 have aj:=fs.hr.other r o1 o2 (by omega) (λb _ f=>B b f);refine⟨K,μ,M,.skip,by simp[execOp,X,Instr.storeAt,Y,Instr.sureAddr,ag],?_,.refl _ _ _,by omega,.inr ⟨rfl,rfl⟩⟩;refine⟨aj,?_,by simp[fs.len],λj v x w=>?_,λj v x w=>?_,λj i x=>?_,fs.inj⟩
 ·have nx:=fs.nx;refine⟨nx.ext,?_,?_,?_,by omega,λb f ak=>?_,nx.og,nx.kg⟩;·rw[<-s];exact nx.os
  ·rw[<-s];exact nx.tape
  ·rw[<-s];exact nx.output
  rw[B b (by omega)];exact nx.keep b f ak
 ·obtain⟨d',v',N,e2,e3⟩:=fs.val j v x w;by_cases l:j=k;·subst l;rw[C]at N;cases N;cases e3
  grind
 ·by_cases l:j=k
  ·subst l;rcases fs.box j v x w with e|⟨i,m,P,Q,p,S,F,U,V⟩;·rw[C]at e;cases e
   rw[hL]at p;cases p;exact .inr ⟨r,z.take q++vs++z.drop _,_,G,hL,K2 (ay C),F,ah,by simpa using ai⟩
  rcases fs.box j v x w with e|⟨i,m,P,Q,p,S,F,U,V⟩;·exact .inl (by rw[K0 (AAX l)];exact e)
  refine .inr ⟨i,m,P,Q,p,by rw[K0 (AAX l)];exact S,F,?_,V⟩;rw[B i (λe=>l (fs.inj j k i p (e▸hL)))];exact U
 obtain⟨p1,p2,p3,p4⟩:=fs.own j i x;exact⟨p1,p2,p3,by omega⟩
def FC{a w:Nat}{rows:List (List D)}{s:Option Nat}{p lk:Bool}{l:bI}(hr:HR K μ H W)(n:μ a=some l)(o:H[a]?=some (.ar w rows s p lk)){i:Nat}(hi:rows[i]?=some z):iq w rows/\∃vs:List Value,CRs K μ H z vs/\(∀(j:Nat)(v:Value),vs[j]?=some v->W.cell? ⟨l.blk,l.off+(i*w+j),none⟩=some v):=by
 have t:=by have:=hr.blk a l _ n o;cases lk with|false=>exact this.1|true=>exact this.2.1
 have key:∀j d,z[j]?=some d->∃v,W.cell? ⟨l.blk,l.off+(i*w+j),none⟩=some v/\v.oneCell'=true/\VR K μ H d v:=by intro j d b;cases lk with|false=>obtain⟨u,y,C,vs,A,c,m,f⟩:=hr.blk a l _ n o;obtain⟨v,h,k⟩:=f i z j d hi b;exact⟨v,by rw[cell_of_row W l.blk _ vs A _ c];exact h,k.1,k.vr⟩|true=>obtain⟨E,u,y,f⟩:=hr.blk a l _ n o;obtain⟨v,h,k⟩:=f i z j d hi b;exact⟨v,hr.kn _ _ _ h,k.1,k.vr⟩
 refine⟨t,z.zipIdx.map (λx=>(W.cell? ⟨l.blk,l.off+(i*w+x.2),none⟩).getD undef),⟨⟨by simp,λj d v e q=>?_⟩,λv h=>?_⟩,λj v e=>?_⟩;·obtain⟨r,c,m,f⟩:=key j d e;simp only[fx,td,e,ga,lB,c,fL,hF]at q;subst q;exact f
 ·obtain⟨x,B,rfl⟩:=fT.1 h;obtain⟨j,b⟩:=ABY B;rw[td]at b;cases g:z[j]? with|none=>rw[g]at b;cases b|some d=>rw[g]at b;simp only[ga,lB,hF]at b;subst b;obtain⟨r,c,m,f⟩:=key j d g;simp only[c,fL,m]
 rw[fx,td]at e;cases g:z[j]? with|none=>rw[g]at e;cases e|some d=>rw[g]at e;simp only[ga,lB,hF]at e;obtain⟨r,c,m,f⟩:=key j d g;rw[c,fL]at e;subst e;exact c
def Qy(hr:HR K μ H W){x:D}{n:Nat}{ds:List D}{v:Value}(h:cT H x n=some ds)(y:VR K μ H x v):∃b q vs,v=.pointer (some ⟨b,q,none⟩)/\ds.length=n/\CRs K μ H ds vs/\∀(j:Nat)(u:Value),vs[j]?=some u->W.cell? ⟨b,q+j,none⟩=some u:=by
 unfold cT at h;split at h
 ·rename_i b B;split at h;·rename_i U z;obtain⟨s,t,I,_⟩:=p9 h;cases y with|hp _ _ _ _ l t0 af C E=>obtain⟨h0,vs,ty,V,ai,A⟩:=hr.blk b l _ C z;have F:=A3 A t;rw[<-I]at F;refine⟨l.blk,B,_,rfl,s,F,λj u e=>?_⟩;rw[cell_of_row W l.blk _ vs _ _ V];grind
  grind
 ·rename_i a m i B;split at h
  ·rename_i w rows kc p lk harr;obtain⟨z,J⟩:=jg harr;split at h;·rename_i r hi;obtain⟨s,t,I,_⟩:=p9 h;cases y with|ap _ _ _ _ _ _ blk q l w' X ak Y Z C E al ab=>rw[z]at E;cases E;obtain⟨rfl,rfl⟩:=ab J;obtain⟨L,vs,A,M⟩:=FC hr C z hi;have F:=A3 A t;rw[<-I]at F;refine⟨l.blk,_,_,rfl,s,F,λj u e=>?_⟩;have:=M _ u (gn _ _ _ _ _ e).1;rw[show l.off+i*w+B+j=l.off+(i*w+(B+j))by omega];exact this
   cases h
  cases h
 ·rename_i a;split at h
  ·rename_i w rows c p lk z;split at h;·rename_i J;cases h;cases y with|aa _ _ _ l w' X c' Y Z C E=>
    rw[z]at E;cases E;have L:=by have:=hr.blk a l _ C z;cases lk with|false=>exact this.1|true=>exact this.2.1
    have key:∀k d,rows.flatten[k]?=some d->∃v,W.cell? ⟨l.blk,l.off+k,none⟩=some v/\v.oneCell'=true/\VR K μ H d v:=by
     intro k d N;obtain⟨i,j,r,s,t,rfl⟩:=Fz L N;obtain⟨_,vs,A,M⟩:=FC hr C z s;have g:j<vs.length:=by rw[<-A.1.1];exact ay t
     exact⟨vs[j],M j _ (Hk g),A.2 _ (hY g),A.1.2 j d _ t (Hk g)⟩
    refine⟨l.blk,l.off,rows.flatten.zipIdx.map (λx=>(W.cell? ⟨l.blk,l.off+x.2,none⟩).getD undef),rfl,by rw[uY L,J,AA0],⟨⟨by simp,λj d v e G=>?_⟩,λv P=>?_⟩,λj v e=>?_⟩;·obtain⟨S,s,t,Q⟩:=key j d e;simp[fx,td,e,ga,lB,s,fL,hF]at G;subst G;exact Q
    ·obtain⟨x,y,rfl⟩:=fT.1 P;obtain⟨j,g⟩:=ABY y;rw[td]at g;cases o:rows.flatten[j]? with|none=>rw[o]at g;cases g|some d=>rw[o]at g;simp[ga,lB,hF]at g;subst g;obtain⟨S,s,t,Q⟩:=key j d o;simp[s,fL,t]
    rw[fx,td]at e;cases o:rows.flatten[j]? with|none=>rw[o]at e;cases e|some d=>rw[o]at e;simp[ga,lB,hF]at e;obtain⟨S,s,t,Q⟩:=key j d o;rw[s,fL]at e;subst e;exact s
   cases h
  cases h
 ·rename_i U;obtain⟨s,t,I,_⟩:=p9 h;cases y with|ip _ _ _ blk B f N ac ad=>
  refine⟨blk,B,ds.zipIdx.map (λx=>f x.2),rfl,s,⟨⟨by simp,λj d v e G=>?_⟩,λv P=>?_⟩,λj v e=>?_⟩
  ·have hd:=by have:=(p9 h).2.2.2 j d e;simpa using this
   simp[fx,td,e,ga,lB,hF]at G;subst G;exact ad j d hd
  ·obtain⟨x,y,rfl⟩:=fT.1 P;obtain⟨j,g⟩:=ABY y;rw[td]at g;cases o:ds[j]? with|none=>rw[o]at g;cases g|some d=>rw[o]at g;simp[ga,lB,hF]at g;subst g;exact ac j d (by have:=(p9 h).2.2.2 j d o;simpa using this)
  rw[fx,td]at e;cases o:ds[j]? with|none=>rw[o]at e;cases e|some d=>rw[o]at e;simp[ga,lB,hF]at e;subst e;exact hr.kn _ _ _ (N j d (by have:=(p9 h).2.2.2 j d o;simpa using this))
 grind
def Qz(fs:FS E c.tm c.bs K μ L sl H a.tmps W){t n:Nat}{f:Bool}{y:Operand}{x d:D}{ds:List D}(h:o.op=.load t y)(hs:bu c.P t n=true)(i:lw c.P t f=true)(k:VR K μ H x (a.eval y))(l:cT H x n=some ds)(m:val f ds=some d):au c E L o a K μ H W d ⟨sl,H⟩:=by obtain⟨b,q,vs,p,r,g,w⟩:=Qy fs.hr l k;obtain⟨v,s,u⟩:=A2 (W:=W) hs i (g.1.1.symm.trans r) g m ⟨b,q,none⟩ (λj v e=>by grind[f8]);exact au.val fs (by simp[execOp,h,Instr.loadAt,p,Instr.sureAddr,s]) u
def VR.ip_drop{v:Value}(h:VR K μ H (.ip z) v)(n:Nat):∃b q,v=.pointer (some ⟨b,q,none⟩)/\VR K μ H (.ip (z.drop n)) (.pointer (some ⟨b,q+n,none⟩)):=by cases h with|ip _ _ _ blk a f c g hr=>
 refine⟨blk,a,rfl,.ip _ _ _ blk _ (λj=>f (n+j)) (λj d e=>?_) (λj d e=>?_) (λj d e=>?_)⟩;·rw[AAv]at e;rw[Nat.add_assoc];exact c _ d e
 ·rw[AAv]at e;exact g _ d e
 rw[AAv]at e;exact hr _ d e
def adZ(fs:FS E c.tm c.bs K μ L sl H a.tmps W){s f j:Nat}{y:Operand}{x d:D}(k:o.op=.fieldAddr s y f)(m:uI c.P s f j=true)(h:VR K μ H x (a.eval y))(g:n7 x j=some d):au c E L o a K μ H W d ⟨sl,H⟩:=by
 generalize r:a.eval y=v at h;unfold n7 at g;split at g;·rename_i b q;cases g;cases h with|hp _ _ _ _ l t0 z t u=>exact au.val fs (A1 m k r W) (.hp _ _ _ _ l t0 z t u)
 ·rename_i F n i q;cases g;cases h with|ap _ _ _ _ _ _ blk G l w rows A p lk t u B I=>exact au.val fs (A1 m k r W) (.ap _ _ _ _ _ _ blk _ l w rows A p lk t u B (λe=>by omega))
 ·rename_i z;split at g;·cases g;obtain⟨b,q,rfl,C⟩:=h.ip_drop j;exact au.val fs (A1 m k r W) C
  grind
 grind
end
end
section
section
variable{c:CX}{E:En}{L:Nat->Option Nat}{K:Kn}{μ:Mu}{sl:List D}{H:ab}{a:Act}{W:World}{o:Oper}
variable{d e:List D}
def VR.row_addr{w:Nat}{rows:List (List D)}{v:Value}{x:D}(l:x=.im w rows\/x=.sv w rows)(h:VR K μ H x v){j:Nat}(hr:rows[j]?=some e):∃b q m,v=.slice (some ⟨b,q,none⟩) rows.length m/\VR K μ H (.ip e) (.pointer (some ⟨b,q+j*w,none⟩)):=by
 rcases l with rfl|rfl;·cases h with|im _ _ _ _ blk c cap f n o p g k=>exact⟨blk,c,cap,rfl,.ip _ _ e blk _ _ (λi d a=>by grind) (λi d a=>g j e i d hr a) (λi d a=>VR.pure (k j e i d hr a))⟩
 cases h with|sv _ _ _ _ blk c cap f n o p g k=>exact⟨blk,c,cap,rfl,.ip _ _ e blk _ _ (λi d a=>by grind) (λi d a=>g j e i d hr a) (λi d a=>k j e i d hr a)⟩
variable{x y z:Nat}{f:D}
theorem ad0(fs:FS E c.tm c.bs K μ L sl H a.tmps W){t w j:Nat}{rows:List (List D)}{y e:Operand}{x:D}(g:o.op=.indexAddr t y e)(h:c.P.underlying t=some (.slice z))(i:bu c.P z w=true)(k:x=.im w rows\/x=.sv w rows)(l:VR K μ H x (a.eval y))(m:VR K μ H f (a.eval e))(n:fh f rows.length=some j)(hr:rows[j]?=some d):au c E L o a K μ H W (.ip d) ⟨sl,H⟩:=by obtain⟨v,p,r⟩:=uZ n m;obtain⟨b,q,A,s,u⟩:=l.row_addr k hr;exact au.val fs (Qw h i g p r s W) u
variable{g:Option Nat}{b:Operand}
def ad1(fs:FS E c.tm c.bs K μ L sl H a.tmps W){t w j n len id:Nat}{rows:List (List D)}{p lk:Bool}{y:Operand}(k:o.op=.indexAddr t y b)(m:c.P.underlying t=some (.slice x))(r:bu c.P x w=true)(d:VR K μ H (.mu id n z len) (a.eval y))(s:aO H id n=some (w,rows,g,p,lk))(u:VR K μ H f (a.eval b))(A:fh f len=some j):au c E L o a K μ H W (.ap id n (z+j) 0) ⟨sl,H⟩:=by obtain⟨N,B,C⟩:=uZ A u;obtain⟨e,F⟩:=jg s;generalize G:a.eval y=v at d;cases d with|mu _ _ _ _ _ _ cap blk q l w' P Q S U I h J M=>
 rw[e]at h;cases h;obtain⟨i,V,X,Y,Z,h8⟩:=M F;rcases i with i|⟨rfl,rfl⟩;·omega
 exact au.val fs (Qw m r k B C G W) (.ap _ _ _ _ _ _ l.blk _ l w rows g p lk I e J (λ_=>⟨rfl,by grind⟩))
def ad2(fs:FS E c.tm c.bs K μ L sl H a.tmps W){t w n:Nat}{y F:Operand}{x d:D}(r:o.op=.indexAddr t y F)(s:c.P.underlying t=some (.array n z))(u:bu c.P z w=true)(h:VR K μ H x (a.eval y))(M:VR K μ H f (a.eval F))(e:mX H x f n w=some d):au c E L o a K μ H W d ⟨sl,H⟩:=by unfold mX at e;cases G:fh f n with|none=>grind|some j=>
 rw[G]at e;simp at e;obtain⟨V,A,B⟩:=uZ G M;generalize C:a.eval y=v at h;split at e;·rename_i b q;cases e;cases h with|hp _ _ _ _ l t0 I k g=>exact au.val fs (xM s u r A B C W) (.hp _ _ _ _ l t0 I k g)
 ·rename_i N m i q;cases e;cases h with|ap _ _ _ _ _ _ blk X l w' rows P p lk k g Q Y=>exact au.val fs (xM s u r A B C W) (.ap _ _ _ _ _ _ blk _ l w' rows P p lk k g Q (λz=>by omega))
 ·rename_i I;split at e;·cases e;obtain⟨b,q,rfl,S⟩:=h.ip_drop (j*w);exact au.val fs (xM s u r A B C W) S
  grind
 ·rename_i N;split at e
  ·rename_i w' rows Z p lk g;split at e;·rename_i U;cases e;obtain⟨rfl,hn⟩:=U;cases h with|aa _ _ _ l w2 ad c2 p2 ag k J=>rw[g]at J;cases J;exact au.val fs (xM s u r A B C W) (.ap _ _ _ _ _ _ l.blk _ l _ rows _ p lk k g (by omega) (λ_=>⟨rfl,by omega⟩))
   grind
  grind
 grind
def ad3(fs:FS E c.tm c.bs K μ L sl H a.tmps W){t w:Nat}{y:Operand}{x d:D}(g:o.op=.indexAddr t y b)(h:c.P.underlying t=some (.slice z))(i:bu c.P z w=true)(k:VR K μ H x (a.eval y))(l:VR K μ H f (a.eval b))(e:cG H x f w=some d):au c E L o a K μ H W d ⟨sl,H⟩:=by
 have q:∀w' rows,x=.im w' rows\/x=.sv w' rows->(match fh f rows.length with
 |some j=>match rows[j]? with|some r=>if w'=w then some (.ip r)else none|none=>none
 |none=>none)=some d->au c E L o a K μ H W d ⟨sl,H⟩:=by grind[ad0]
 unfold cG at e;split at e;·grind
 ·grind
 ·split at e
  ·rename_i w' rows s p lk harr;split at e
   ·rename_i j m;split at e;·rename_i n;cases e;subst n;exact ad1 fs g h i k harr l m
    grind
   grind
  grind
 grind
theorem ve{μ:Mu}{l:bI}(h:μ x=some l):μ.upd x l=μ:=by grind[Mu.upd]
def QA(hr:HR K μ H W){w:Nat}{rows a:List (List D)}{p:Bool}{l:bI}(b:μ z=some l)(f:H[z]?=some (.ar w rows g p false))(q:rows.length<=a.length)(F:a.length=rows.length\/∀c,g=some c->a.length<=c)(s:iq w a)(t:l.off+a.length*w<=l.size){vs vs':Array Value}{d:Nat}(h:W.heap[l.blk]?=some (.cells vs d (0,0)))(G:vs'.size=vs.size)(u:∀(i:Kn)(k:Mu)(m:ab),ba K μ H i k m->su i k m p w a l.off (λo=>vs'[o]?)):HR K μ (H.set z (.ar w a g p false)) (W.setRow l.blk vs')/\Nx K μ H W K μ (H.set z (.ar w a g p false)) (W.setRow l.blk vs'):=by
 obtain⟨I,J,L,M,N,n,P,Q⟩:=hr.blk z l _ b f;rw[h]at n;cases n;have v:BE l (.ar w rows g p false) l (.ar w a g p false):=.ar _ _ _ _ _ _ _ _ _ _ q (λ_=>⟨rfl,rfl⟩) (λ_ e=>⟨rfl,e⟩);have A:ba K μ H K (μ.upd z l) (H.set z (.ar w a g p false)):=by
  rw[ve b];refine⟨λ_ _ _ e=>e,λj B C x y=>?_⟩;by_cases S:j=z;·grind
  exact⟨B,C,x,by grind,.refl _ _⟩
 have:=hr.put (W':=W.setRow l.blk vs') z l l _ _ b f rfl rfl v rfl rfl rfl (by simp) (λr _ E=>setRow_other W l.blk r vs' E) (.inl rfl) (by simpa using hr.lt z l b) ⟨s,λc e=>by grind,t,vs',d,setRow_heap W l.blk vs vs' d _ h,by omega,u _ _ _ A⟩;grind[ve]
def FE{P:Program}{t n:Nat}(hs:bu P t n=true){y c:Operand}(d:o.op=.store t y c){b e:Nat}{vs:Array Value}(f:(a.eval c).cells.size=n)(g:∀x,x∈(a.eval c).cells.toList->x.oneCell'=true)(h:a.eval y=.pointer (some ⟨b,z,none⟩))(i:W.heap[b]?=some (.cells vs e (0,0)))(j:z+n<=vs.size):(execOp a.eval o).run P W=.ok .skip (W.setRow b (vs.toList.take z++(a.eval c).cells.toList++vs.toList.drop (z+(a.eval c).cells.toList.length)).toArray):=by have:=Qx hs f g i j;simp[execOp,d,Instr.storeAt,h,Instr.sureAddr]at this⊢;simp_all
theorem au.skip(fs:FS E c.tm c.bs K μ L sl H a.tmps W){d:Kn}{e:Mu}{f:ab}{b:World}(g:(execOp a.eval o).run c.P W=.ok .skip b)(hr:HR d e f b)(nx:Nx K μ H W d e f b):au c E L o a K μ H W .u ⟨sl,f⟩:=⟨d,e,b,_,g,fs.go hr nx,nx.ext,nx.size,.inr ⟨rfl,rfl⟩⟩
theorem ad4(fs:FS E c.tm c.bs K μ L sl H a.tmps W){t n b f:Nat}{y g:Operand}{d:D}{vs m:List D}(B:o.op=.store t y g)(hs:bu c.P t n=true)(p:VR K μ H (.hp b z) (a.eval y))(C:VR K μ H d (a.eval g))(F:d.cellsN n=some vs)(q:H[b]?=some (.hb f e))(G:cS e z vs=some m):au c E L o a K μ H W .u ⟨sl,H.set b (.hb f m)⟩:=by obtain⟨k,I⟩:=sk F C;obtain⟨J,rfl⟩:=A0 G;generalize M:a.eval y=v at p;cases p with|hp _ _ _ _ l t0 Z h aa=>
 obtain⟨N,i,s,w,ab,A⟩:=fs.hr.blk b l _ h q;have ac:vs.length=n:=by rw[k.1.1];omega
 have ad:e.length=i.size:=by rw[A.1.1];simp
 have ae:=FE hs B I k.2 M w (by omega);have P:=FB A k J;have Q:BE l (.hb f e) l (.hb f (e.take z++vs++e.drop (z+vs.length))):=.hb ..;have S:ba K μ H K (μ.upd b l) (H.set b (.hb f (e.take z++vs++e.drop (z+vs.length)))):=by
  rw[ve h];refine⟨λ_ _ _ U=>U,λj V X x y=>?_⟩;by_cases hj:j=b;·grind
  exact⟨V,X,x,by grind,.refl _ _⟩
 have:=fs.hr.put (W':=W.setRow l.blk (i.toList.take z++(a.eval g).cells.toList++i.toList.drop (z+(a.eval g).cells.toList.length)).toArray) b l l _ _ h q rfl rfl Q rfl rfl rfl (by simp) (λr _ Y=>setRow_other W l.blk r _ Y) (.inl rfl) (by simpa using fs.hr.lt b l h) ⟨N,_,s,setRow_heap W l.blk i _ s _ w,by grind,by simpa using P.ext S⟩;grind[ve,au.skip]
end
end
section
section
variable{c:CX}{E:En}{L:Nat->Option Nat}{K:Kn}{μ:Mu}{sl:List D}{H:ab}{a:Act}{W:World}{o:Oper}
def ad5{b:ab}{ds ds':List D}{vs:List Value}(h:aW bG H ds=some (ds',b))(hr:HR K μ H W)(c:bf K μ H ds vs):∃a,HR a μ b W/\Nx K μ H W a μ b W/\bf a aK [] ds' vs:=by obtain⟨a,f,nx,g,k⟩:=(uW bG).2.1 ds H b ds' K μ W (λj=>vs.getD j undef) h hr (λj d e=>by have i:=ay e;rw[c.1]at i;refine c.2 j d _ e ?_;grind);refine⟨a,f,nx,by rw[g,c.1],λj d v e l=>?_⟩;grind
structure bZ(K:Kn)(μ:Mu)(H:ab)(p:Bool)(w:Nat)(rows:List (List D))(vs:List Value):Prop where
 wide:iq w rows
 len:vs.length=rows.length*w
 cell:∀(i:Nat)(r:List D)(j:Nat)(d:D),rows[i]?=some r->r[j]?=some d->∃v,vs[i*w+j]?=some v/\Cell K μ H p d v
 one:∀v,v∈vs->v.oneCell'=true
theorem bZ.ext{a:Kn}{b:Mu}{c:ab}{p:Bool}{w:Nat}{rows:List (List D)}{vs:List Value}(h:bZ K μ H p w rows vs)(e:ba K μ H a b c):bZ a b c p w rows vs:=⟨h.wide,h.len,λi r j d x y=>by obtain⟨v,f,g⟩:=h.cell i r j d x y;exact⟨v,f,g.ext e⟩,h.one⟩
def QB{f:ab}{w:Nat}{rows a:List (List D)}{vs:List Value}{p:Bool}(h:iL H rows=some (a,f))(hr:HR K μ H W)(b:bZ K μ H p w rows vs):∃c,HR c μ f W/\Nx K μ H W c μ f W/\bZ c aK [] true w a vs/\a.length=rows.length:=by
 obtain⟨c,s,nx,o,u,t⟩:=(uW bG).2.2 rows H f a K μ W (λi j=>vs.getD (i*w+j) undef) h hr (λi r j d e g=>by obtain⟨v,k,l⟩:=b.cell i r j d e g;rw[n0,k];exact l.vr);have get:∀(i:Nat)(r:List D),a[i]?=some r->∃r0:List D,rows[i]?=some r0/\r.length=r0.length:=λi r e=>by grind
 refine⟨c,s,nx,⟨λi r e=>?_,by rw[b.len,o],λi r j d e g=>?_,b.one⟩,o⟩;·obtain⟨r0,m,n⟩:=get i r e;rw[n];exact b.wide i r0 m
 obtain⟨r0,m,n⟩:=get i r e;have q:=ay g;rw[n]at q;obtain⟨v,k,l⟩:=b.cell i r0 j _ m (Hk q);have:=t i r j d e g;rw[n0,k,fL]at this;exact⟨v,k,l.1,this⟩
def Cell.weaken{p:Bool}{d:D}{v:Value}(h:Cell K aK [] true d v):Cell K μ H p d v:=by refine⟨h.1,?_⟩;cases p with|true=>exact h.2|false=>exact VR.pure h.2
def bZ.weaken{p:Bool}{w:Nat}{rows:List (List D)}{vs:List Value}(h:bZ K aK [] true w rows vs):bZ K μ H p w rows vs:=⟨h.wide,h.len,λi r j d x y=>by obtain⟨v,a,b⟩:=h.cell i r j d x y;exact⟨v,a,b.weaken⟩,h.one⟩
def ad6(hr:HR K μ H W){x:D}{w:Nat}{rows:List (List D)}{v:Value}(h:fM H w x=some rows)(t:VR K μ H x v):∃vs,bZ K μ H false w rows vs/\((v=.slice none 0 0/\rows=[]/\vs=[])\/(∃(L:Addr)(n V:Nat),v=.slice (some L) n V/\n=rows.length/\∀(j:Nat)(u:Value),vs[j]?=some u->W.cell? (L.add j)=some u)\/(w=1/\∃s:ByteArray,v=.string s/\s.size=rows.length/\vs=s.data.toList.map (λb=>Value.int .u8 b.toNat))):=by
 have ak:bZ K μ H false w [] []:=⟨λi r e=>by grind,by simp,λi r j d e=>by grind,λv e=>by grind⟩;have C:∀(rows:List (List D))(blk g:Nat)(f:Nat->Nat->Value),iq w rows->(∀(i:Nat)(r:List D)(j:Nat)(d:D),rows[i]?=some r->r[j]?=some d->W.cell? ⟨blk,g+(i*w+j),none⟩=some (f i j)/\(f i j).oneCell'=true/\VR K μ H d (f i j))->∃vs,bZ K μ H false w rows vs/\∀(j:Nat)(u:Value),vs[j]?=some u->W.cell? ⟨blk,g+j,none⟩=some u:=by
  intro rows blk g f c X;have key:∀k,k<rows.length*w->∃u,W.cell? ⟨blk,g+k,none⟩=some u/\u.oneCell'=true:=by intro k m;rw[<-uY c]at m;obtain⟨i,j,r,o,E,rfl⟩:=Fz c (Hk m);grind
  refine⟨(List.range (rows.length*w)).map (λk=>(W.cell? ⟨blk,g+k,none⟩).getD undef),⟨c,by simp,λi r j d e a=>?_,λu Y=>?_⟩,λk u e=>?_⟩
  ·obtain⟨B,z,Z⟩:=X i r j d e a;have al:i*w+j<rows.length*w:=by rw[<-uY c];exact ay (Fy c e a)
   exact⟨f i j,by grind,z,Z⟩
  ·obtain⟨k,m,rfl⟩:=fT.1 Y;obtain⟨u',o,E⟩:=key k (by simpa using m);simp only[o,fL,E]
  rw[fx]at e;cases m:(List.range (rows.length*w))[k]? with|none=>rw[m]at e;cases e|some M=>
  rw[m]at e;have F:=ay m;simp only[ABv]at F;have:M=k:=by rw[zb F]at m;exact(kv m).symm
  subst this;obtain⟨u',o,E⟩:=key M F;simp only[ga,o,fL,hF]at e;subst e;exact o
 unfold fM at h;split at h;·cases h;cases t<;>grind
 ·cases h;cases t<;>grind
 ·split at h;·rename_i c;cases h;subst c;cases t with|im _ _ _ _ blk g cap f A c m o G=>obtain⟨vs,B,z⟩:=C rows blk g f c (λi r j d e a=>⟨hr.kn _ _ _ (m i r j d e a),o i r j d e a,VR.pure (G i r j d e a)⟩);grind[f8]
  grind
 ·split at h;·rename_i c;cases h;subst c;cases t with|sv _ _ _ _ blk g cap f A c m o G=>obtain⟨vs,B,z⟩:=C rows blk g f c (λi r j d e a=>⟨hr.kn _ _ _ (m i r j d e a),o i r j d e a,G i r j d e a⟩);grind[f8]
  grind
 ·rename_i id n g len;split at h
  ·rename_i w' N kc p lk harr;obtain⟨I,P⟩:=jg harr;split at h;·rename_i ab;obtain⟨rfl,ac⟩:=ab;cases h;cases t with|mu _ _ _ _ _ _ cap blk q l w2 ao ap p2 ar Q S au ad=>
    rw[I]at S;cases S;obtain⟨U,h4,h5,h6,h7,h8⟩:=ad P;have ae:=by have:=hr.blk id l _ Q I;cases lk with|false=>exact this.1|true=>exact this.2.1
    have af:iq w' ((N.drop g).take len):=λi r e=>ae _ r (gn _ _ _ _ _ e).1;have ag:=sc N g len n P ac;obtain⟨vs,B,z⟩:=C _ blk q (λi j=>(W.cell? ⟨blk,q+(i*w'+j),none⟩).getD undef) af (λi r j d e a=>by
 obtain⟨e1,e2⟩:=gn _ _ _ _ _ e;obtain⟨_,vs,A,ai⟩:=FC hr Q I e1;have J:j<vs.length:=by rw[<-A.1.1];exact ay a
 rcases U with U|⟨rfl,rfl⟩;·omega
 have:=ai j _ (Hk J);rw[show l.off+g*w'+(i*w'+j)=l.off+((g+i)*w'+j)by rw[k6];omega,this];exact⟨rfl,A.2 _ (hY J),A.1.2 j d _ a (Hk J)⟩);exact⟨vs,B,.inr (.inl ⟨⟨blk,q,none⟩,len,cap,rfl,ag.symm,λj u e=>by rw[f8];exact z j u e⟩)⟩
   cases h
  cases h
 ·rename_i l;split at h
  ·rename_i c;cases h;subst c;have:=t.s_inv;subst this;refine⟨l.map (λb=>Value.int .u8 b.toNat),⟨λi r e=>?_,by simp,λi r j d e a=>?_,λv hv=>?_⟩,.inr (.inr ⟨rfl,⟨l.toArray⟩,rfl,by simp[ByteArray.size],by simp⟩)⟩;·rw[fx]at e;cases y:l[i]? with|none=>rw[y]at e;cases e|some b=>rw[y]at e;simp at e;subst e;rfl
   ·rw[fx]at e;cases y:l[i]? with|none=>rw[y]at e;cases e|some b=>rw[y]at e;simp at e;subst e;cases j with|zero=>simp at a;subst a;exact⟨.int .u8 _,by simp[y],rfl,.i ..⟩|succ j=>simp at a
   obtain⟨b,hb,rfl⟩:=fT.1 hv;rfl
  cases h
 grind
end
end
section
section
variable{c:CX}{E:En}{L:Nat->Option Nat}{K:Kn}{μ:Mu}{sl:List D}{H:ab}{a:Act}{W:World}{o:Oper}
def CRs.cell{ds:List D}{vs:List Value}(h:bf K μ H ds vs)(c:∀v,v∈vs->v.oneCell'=true){j:Nat}{d:D}(b:ds[j]?=some d):∃v,vs[j]?=some v/\v.oneCell'=true/\VR K μ H d v:=by have a:=ay b;rw[h.1]at a;exact⟨vs[j],Hk a,c _ (hY a),h.2 j d _ b (Hk a)⟩
variable{x y z:Nat}
def QC(hr:HR K μ H W){m i a:Nat}{vs:List D}{f:List Value}{t:ab}{w:Nat}{rows:List (List D)}{Q:Option Nat}{p lk:Bool}{v:Value}(G:aO H z m=some (w,rows,Q,p,lk))(h:lX H z m i a vs=some t)(S:VR K μ H (.ap z m i a) v)(ae:vs.length=f.length)(U:∀(j:Nat)(d:D),vs[j]?=some d->∃u,f[j]?=some u/\Cell K μ H p d u):∃b q c A,v=.pointer (some ⟨b,q,none⟩)/\W.heap[b]?=some (.cells c A (0,0))/\q+f.length<=c.size/\HR K μ t (W.setRow b (c.toList.take q++f++c.toList.drop (q+f.length)).toArray)/\Nx K μ H W K μ t (W.setRow b (c.toList.take q++f++c.toList.drop (q+f.length)).toArray):=by unfold lX at h;rw[G]at h;obtain⟨B,V⟩:=jg G;cases lk with|true=>cases h|false=>
 simp at h;split at h
 ·rename_i r hi;split at h;·rename_i r' X;cases h;obtain⟨Y,rfl⟩:=A0 X;cases S with|ap _ _ _ _ _ _ blk q l w2 ah ai p2 ak I J al Z=>
   rw[B]at J;cases J;obtain⟨rfl,rfl⟩:=Z V;obtain⟨C,am,hl,c,A,L,an,E⟩:=hr.blk z l _ I B;have ao:=C i r hi;have F:=ay hi;have aq:i*w+w<=rows.length*w:=by have:(i+1)*w<=rows.length*w:=M4 w F;rw[k6]at this;omega
   have ac:iq w (rows.set i (r.take a++vs++r.drop (a+vs.length))):=λk r2 e=>by
    rw[List.getElem?_set]at e;by_cases s:i=k;·subst s;simp[F]at e;subst e;simp[N3,il,nr];omega
    rw[E1 s]at e;exact C k r2 e
   have M:l.off+i*w+a+f.length<=c.size:=by omega
   refine⟨l.blk,_,c,A,rfl,L,M,?_⟩;refine QA hr I B (by simp) (.inl (by simp)) ac (by simpa using hl) L (by simp;omega) ?_;intro K' au t e k r2 j d x y;simp only[ACO];rw[qc _ _ _ (by simpa using M)];by_cases s:i=k
   ·subst s;rw[K2 F]at x;by_cases ad:True
    ·cases x;rw[qc _ _ _ Y]at y;by_cases N:j<a;·rw[E4 N]at y;rw[E4 (by omega)];obtain⟨u,n,o⟩:=E i r j d hi y;exact⟨u,by simpa using n,o.ext e⟩
     rw[E1 N]at y;rw[E1 (by omega)];by_cases P:j<a+vs.length;·rw[E4 P]at y;rw[E4 (by omega)];obtain⟨u,n,o⟩:=U _ d y;exact⟨u,by rw[show l.off+(i*w+j)-(l.off+i*w+a)=j-a by omega];exact n,o.ext e⟩
     rw[E1 P]at y;rw[E1 (by omega)];obtain⟨u,n,o⟩:=E i r j d hi y;exact⟨u,by simpa using n,o.ext e⟩
    exact absurd trivial ad
   rw[K0 s]at x;have hj:j<w:=by rw[<-C k r2 x];exact ay y
   obtain⟨u,n,o⟩:=E k r2 j d x y;refine⟨u,?_,o.ext e⟩;rcases ABl s with g|g;·have:(i+1)*w<=k*w:=M4 w g;rw[k6]at this;rw[E1 (by omega),E1 (by omega)];simpa using n
   have:(k+1)*w<=i*w:=M4 w g;rw[k6]at this;rw[E4 (by omega)];simpa using n
  grind
 grind
def ad7(fs:FS E c.tm c.bs K μ L sl H a.tmps W){t n:Nat}{y z:Operand}{x d:D}{vs:List D}{B:ab}(C:o.op=.store t y z)(hs:bu c.P t n=true)(F:VR K μ H x (a.eval y))(I:VR K μ H d (a.eval z))(J:d.cellsN n=some vs)(h:gl H x vs=some B):au c E L o a K μ H W .u ⟨sl,B⟩:=by
 obtain⟨f,g⟩:=sk J I;unfold gl at h;split at h;·grind[ad4]
 ·rename_i id m i off;split at h
  ·rename_i w rows M lk harr;split at h
   ·rename_i Z H1 N;split at h
    ·rename_i w' ac ad ae P;obtain⟨K',Q,nx,G⟩:=ad5 N fs.hr f.1;obtain⟨b,q,S,U,k,l,V,p,r⟩:=QC Q P h (F.ext nx.ext) G.1 (λj X e=>by obtain⟨u,s,v,A⟩:=CRs.cell G f.2 e;exact⟨u,s,v,A⟩);have Y:(a.eval z).cells.toList.length=n:=by simpa using g
     exact au.skip fs (FE hs C g f.2 k l (by omega)) p (nx.trans r)
    cases h
   cases h
  ·rename_i w rows M lk harr;obtain⟨b,q,S,U,k,l,V,p,r⟩:=QC fs.hr harr h F f.1.1 (λj X e=>by obtain⟨u,s,v,A⟩:=CRs.cell f.1 f.2 e;exact⟨u,s,v,A⟩);have Y:(a.eval z).cells.toList.length=n:=by simpa using g
   exact au.skip fs (FE hs C g f.2 k l (by omega)) p r
  grind
 grind
structure QD(P:Program)(W:World)(size:Nat)(x:Value)(n:Nat)(ws:List Value):Prop where
 len:∀W',(Builtin.lenOf x).run P W'=.ok n W'
 cells:∀W',W'.heap=W.heap->(Builtin.firstCells size n x).run P W'=.ok ws.toArray W'
 num:ws.length=n*size
def ad8(hr:HR K μ H W){P:Program}{x:D}{w:Nat}{rows:List (List D)}{v:Value}(h:fM H w x=some rows)(d:VR K μ H x v):∃c,bZ K μ H false w rows c/\QD P W w v rows.length c:=by
 obtain⟨vs,b,f⟩:=ad6 hr h d;refine⟨vs,b,?_⟩;rcases f with⟨rfl,rfl,rfl⟩|⟨g,n,i,rfl,rfl,k⟩|⟨rfl,s,rfl,hs,rfl⟩;·exact⟨λa=>by simp[Builtin.lenOf],λa _=>by simp[Builtin.firstCells],by simp⟩
 ·refine⟨λa=>by simp[Builtin.lenOf],λa l=>?_,b.len⟩;exact run_firstCells_some a w rows.length g rows.length i vs b.len (λj u e=>by have:=k j u e;unfold World.cell? at this⊢;rw[l];exact this)
 refine⟨λa=>by simp[Builtin.lenOf,hs],λa _=>?_,by rw[T3,<-hs,AAQ];rfl⟩;have m:s.extract 0 rows.length=s:=by rw[<-hs];exact ByteArray.extract_zero_size
 simp only[Builtin.firstCells,m,Sem.run_pure];congr 1;apply AB1;simp
end
end
section
section
variable{c:CX}{E:En}{L:Nat->Option Nat}{K:Kn}{μ:Mu}{sl:List D}{H:ab}{a:Act}{W:World}{o:Oper}
structure qf(P:Program)(t e w bytes:Nat)(z:Value):Prop where
 t:P.underlying t=some (.slice e)info:∃i,P.info? e=some i/\i.size=w/\i.bytes=bytes/\i.zero=some z
 zs:z.cells.size=w
 pos:0<w
structure qg(P:Program)(W:World)(u bytes:Nat)(z:Value)(w:Nat)(x:Value)(n:Nat)(ws:List Value):Prop where how:(((∃e',P.underlying u=some (.slice e'))\/P.underlying u=some .string)/\QD P W w x n ws)\/((∃k,P.underlying u=some (.int k))/\x=.int .i64 n/\n*bytes<=140737488355328/\n<=140737488355328/\ws=(Builtin.zeroCells z.cells n).toList)
variable{k:Array Value}
theorem QE:Builtin.zeroCells k 0=#[]:=by simp[Builtin.zeroCells]
def QF{n:Nat}(h:n<=140737488355328):IntKind.i64.wrap (n:Int)=n:=IntWalk.i64_in _ (by omega)
variable{x y z b d:Nat}{g:Value}
theorem ad9{P:Program}{t w bytes:Nat}{x:Value}(c:qf P t z w bytes g)(hs:qg P W y bytes g w x 0 [])(base:Option Addr)(sLen sCap:Nat)(d:sLen<=sCap):(Builtin.append_ #[t,y] b #[.slice base sLen sCap,x]).run P W=.ok (.slice base sLen sCap) W:=by
 obtain⟨i,hi,e,l,m⟩:=c.info;rcases hs.how with⟨a,hs⟩|⟨⟨k,a⟩,rfl,_,_,_⟩;·have f:=hs.len W;have h:=hs.cells W rfl;rcases a with⟨n,a⟩|a<;>(cases base<;>simp[Builtin.append_,run_underlying c.t,run_underlying a,sizeOf,typeInfo,hi,e,f,h,d,storeCells])
 have j:IntKind.i64.wrap 0=0:=rfl;cases base<;>simp[Builtin.append_,run_underlying c.t,run_underlying a,sizeOf,typeInfo,hi,d,storeCells,asInt,asIntOf,j]
variable{e f:List Value}
def aea{P:Program}{t w bytes n:Nat}{x:Value}(c:qf P t z w bytes g)(hs:qg P W y bytes g w x n e){b q sLen sCap j:Nat}{f:Array Value}(p:W.heap[b]?=some (.cells f j (0,0)))(l:sLen+n<=sCap)(I:q+sLen*w+e.length<=f.size)(r:∀v,v∈e->v.oneCell'=true):(Builtin.append_ #[t,y] d #[.slice (some ⟨b,q,none⟩) sLen sCap,x]).run P W=.ok (.slice (some ⟨b,q,none⟩) (sLen+n) sCap) (W.setRow b (f.toList.take (q+sLen*w)++e++f.toList.drop (q+sLen*w+e.length)).toArray):=by
 obtain⟨i,hi,g1,s,u⟩:=c.info;have h:=run_storeCells_at P b (q+sLen*w) j e 0 f W p (by omega) r;rcases hs.how with⟨a,hs⟩|⟨⟨k,a⟩,rfl,J,A,m⟩;·have B:=hs.len W;have C:=hs.cells W rfl;rcases a with⟨K,a⟩|a<;>simp[Builtin.append_,run_underlying c.t,run_underlying a,sizeOf,typeInfo,hi,g1,B,C,l,f8,h]
 have E:=QF A;have d0:¬((n:Int)<0):=by omega
 have d1:¬(281474976710656<(n:Int)*i.bytes):=by rw[s,<-Int.natCast_mul];omega
 by_cases o:n=0
 ·subst o;have F:e=[]:=by rw[m,QE]
  subst F;simp[Builtin.append_,run_underlying c.t,run_underlying a,sizeOf,typeInfo,hi,g1,asInt,asIntOf,show IntKind.i64.wrap 0=0 from rfl,show sLen<=sCap by omega,f8,h]
 have G:¬(n*w=0):=qq o (by have:=c.pos;omega);have H:=m.symm;simp[Builtin.append_,run_underlying c.t,run_underlying a,sizeOf,typeInfo,zeroValue,hi,g1,u,asInt,asIntOf,E,d0,d1,G,l,f8,H,h]
def QG{P:Program}{t w bytes ty n:Nat}{x:Value}(b:qf P t z w bytes g)(hs:qg P W y bytes g w x n e){base:Option Addr}{sLen sCap:Nat}(q:∀c,c.heap=W.heap->(Builtin.firstCells w sLen (.slice base sLen sCap)).run P c=.ok f.toArray c)(r:sCap<sLen+n)(s:fu (sLen+n) bytes=true):∃d,sLen+n<=d/\(Builtin.append_ #[t,y] ty #[.slice base sLen sCap,x]).run P W=.ok (.slice (some ⟨W.heap.size,0,none⟩) (sLen+n) d) (W.drew.alloc (.cells (f++e++(Builtin.zeroCells g.cells (d-(sLen+n))).toList).toArray z)):=by
 obtain⟨i,hi,g1,H,h⟩:=b.info;have j:=q W.drew rfl;simp[fu,Hq]at s;have m:¬(sLen+n<=sCap):=by omega
 have o:¬(9223372036854775807<((sLen:Int)+n)):=by omega
 have I:=growslice_fits (bytes:=bytes) r (by omega);have l:¬(281474976710656<Builtin.nextslicecap (sLen+n) sCap*i.bytes):=by grind
 refine⟨grownCap W _ sCap z,grownCap_ge W _ _ z,?_⟩;rcases hs.how with⟨a,hs⟩|⟨⟨k,a⟩,rfl,J,u,K⟩;·have v:=hs.len W;have A:=hs.cells W.drew rfl;rcases a with⟨L,a⟩|a<;>(simp[Builtin.append_,run_underlying b.t,run_underlying a,sizeOf,typeInfo,zeroValue,hi,g1,h,v,A,m,o,l,Question.forced,j,newRow,grownCap];congr 2;grind)
 have B:=QF u;have d0:¬((n:Int)<0):=by omega
 have d1:¬(281474976710656<(n:Int)*i.bytes):=by grind
 by_cases p:n=0
 · subst p;have M:e=[]:=by grind[QE]
   have C:¬(sLen<=sCap):=by omega
   have E:¬(9223372036854775807<(sLen:Int)):=by omega
   have F:¬(281474976710656<Builtin.nextslicecap sLen sCap*i.bytes):=l;simp[Builtin.append_,run_underlying b.t,run_underlying a,sizeOf,typeInfo,zeroValue,hi,g1,h,asInt,asIntOf,show IntKind.i64.wrap 0=0 from rfl,C,E,F,Question.forced,j,newRow,grownCap];congr 2;grind
 have G:¬(n*w=0):=qq p (by have:=b.pos;omega);simp[Builtin.append_,run_underlying b.t,run_underlying a,sizeOf,typeInfo,zeroValue,hi,g1,h,asInt,asIntOf,B,d0,d1,G,m,o,l,Question.forced,j,newRow,grownCap];congr 2;grind
variable{h i:List (List D)}
def bZ.append{p:Bool}{w:Nat}{B:List (List D)}(c:bZ K μ H p w h e)(g:bZ K μ H p w B f):bZ K μ H p w (h++B) (e++f)where
 wide:=λi r a=>by
  by_cases b:i<h.length;·rw[dw b]at a;exact c.wide i r a
  rw[gx (by omega)]at a;exact g.wide _ r a
 len:=by rw[N3,N3,c.len,g.len,k6]
 cell:=λi r j d a k=>by
  by_cases b:i<h.length;·rw[dw b]at a;obtain⟨v,l,m⟩:=c.cell i r j d a k;grind
  rw[gx (by omega)]at a;obtain⟨v,l,m⟩:=g.cell _ r j d a k;refine⟨v,?_,m⟩;have o:h.length*w<=i*w:=M4 w (by omega);rw[gx (by rw[c.len];omega),c.len,show i*w+j-h.length*w=(i-h.length)*w+j by rw[Nat.sub_mul];omega];exact l
 one:=λv n=>by
  rcases TA.1 n with b|b;·exact c.one v b
  exact g.one v b
def bZ.at{p:Bool}{w:Nat}{rows:List (List D)}{vs rest:List Value}(h:bZ K μ H p w rows vs):su K μ H p w rows 0 (λo=>(vs++rest).toArray[o]?):=λi r j d e a=>by obtain⟨v,b,c⟩:=h.cell i r j d e a;grind
variable{j:Option Nat}
def aeb(hr:HR K μ H W){w:Nat}{rows:List (List D)}{p lk:Bool}{l:bI}(a:μ x=some l)(b:H[x]?=some (.ar w rows j p lk)):iq w rows:=by have:=hr.blk x l _ a b;cases lk with|false=>exact this.1|true=>exact this.2.1
def aec(hr:HR K μ H W){w len cap blk:Nat}{rows:List (List D)}{F:Option Nat}{p lk:Bool}{l:bI}(n:μ x=some l)(o:H[x]?=some (.ar w rows F p lk))(G:y+len<=rows.length)(S:len<=cap)(I:cap=0\/(blk=l.blk/\z=l.off+y*w)):∃vs,bZ K μ H p w ((rows.drop y).take len) vs/\∀(j:Nat)(u:Value),vs[j]?=some u->W.cell? ⟨blk,z+j,none⟩=some u:=by
 have J:=aeb hr n o;have c:iq w ((rows.drop y).take len):=λi r e=>J _ r (gn _ _ _ _ _ e).1;have q:=sc rows y len _ rfl G;have key:∀i r j d,((rows.drop y).take len)[i]?=some r->r[j]?=some d->∃u,W.cell? ⟨blk,z+(i*w+j),none⟩=some u/\Cell K μ H p d u:=by
  intro i r j d e f;obtain⟨B,U⟩:=gn _ _ _ _ _ e;rcases I with m|⟨rfl,rfl⟩;·omega
  rw[show l.off+y*w+(i*w+j)=l.off+((y+i)*w+j)by rw[k6];omega];cases lk with|false=>obtain⟨L,M,V,vs,N,b,g,m⟩:=hr.blk x l _ n o;obtain⟨u,h,s⟩:=m _ r j d B f;exact⟨u,by rw[cell_of_row W l.blk _ vs N _ b];exact h,s⟩|true=>obtain⟨rfl,L,M,m⟩:=hr.blk x l _ n o;obtain⟨u,h,s⟩:=m _ r j d B f;exact⟨u,hr.kn _ _ _ h,s⟩
 have C:∀k,k<len*w->∃u,W.cell? ⟨blk,z+k,none⟩=some u/\u.oneCell'=true:=by intro k a;rw[<-q,<-uY c]at a;obtain⟨i,j,r,b,g,rfl⟩:=Fz c (Hk a);obtain⟨u,t,v⟩:=key i r j _ b g;exact⟨u,t,v.1⟩
 refine⟨(List.range (len*w)).map (λk=>(W.cell? ⟨blk,z+k,none⟩).getD undef),⟨c,by simp[q],λi r j d e f=>?_,λu h=>?_⟩,λk u e=>?_⟩
 ·obtain⟨u,t,v⟩:=key i r j d e f;have P:i*w+j<len*w:=by rw[<-q,<-uY c];exact ay (Fy c e f)
  exact⟨u,by simp[P,t],v⟩
 ·obtain⟨k,a,rfl⟩:=fT.1 h;obtain⟨Q,b,g⟩:=C k (by simpa using a);simp only[b,fL,g]
 rw[fx]at e;cases a:(List.range (len*w))[k]? with|none=>rw[a]at e;cases e|some E=>
 rw[a]at e;have A:=ay a;simp only[ABv]at A;have:E=k:=by rw[zb A]at a;exact(kv a).symm
 subst this;obtain⟨Q,b,g⟩:=C E A;simp only[ga,b,fL,hF]at e;subst e;exact b
def aed{P:Program}{w len cap b:Nat}{vs:List Value}(c:vs.length=len*w)(d:∀(j:Nat)(u:Value),vs[j]?=some u->W.cell? ⟨b,x+j,none⟩=some u)(a:World)(f:a.heap=W.heap):(Builtin.firstCells w len (.slice (some ⟨b,x,none⟩) len cap)).run P a=.ok vs.toArray a:=run_firstCells_some a w len ⟨b,x,none⟩ len cap vs c (λj u e=>by rw[f8];have:=d j u e;unfold World.cell? at this⊢<;>grind)
def aee(hr:HR K μ H W){w cp e:Nat}{rows:List (List D)}{vs rest:List Value}{p:Bool}(a:bZ K μ H p w rows vs)(d:rows.length<=cp)(f:rest.length=(cp-rows.length)*w):∃b,HR K b (H++[.ar w rows none p false]) (W.drew.alloc (.cells (vs++rest).toArray e))/\Nx K μ H W K b (H++[.ar w rows none p false]) (W.drew.alloc (.cells (vs++rest).toArray e))/\VR K b (H++[.ar w rows none p false]) (.mu H.length rows.length 0 rows.length) (.slice (some ⟨W.heap.size,0,none⟩) rows.length cp):=by
 have j:(vs++rest).length=cp*w:=by rw[N3,a.len,f,<-Nat.add_mul];grind
 obtain⟨g,i⟩:=hr.drew.push _ ⟨W.heap.size,0,cp*w⟩ (.ar w rows none p false) rfl ⟨a.wide,(λc h=>by cases h),(by simp;exact M4 w d),_,e,heap_alloc_new _ _,by omega,(a.ext (ba.push hr.dom _ _)).at⟩;refine⟨_,g,(Nx.drew K μ H W).trans i,.mu _ _ _ _ _ _ _ _ _ ⟨W.heap.size,0,cp*w⟩ w rows none p false (by simp[Mu.upd]) (by simp) (G1 _) (λ_=>⟨.inr ⟨rfl,by simp⟩,by omega,d,by omega,by simp,λc h=>by cases h⟩)⟩
def aef(hr:HR K μ H W){w len n cap v:Nat}{rows:List (List D)}{g:Option Nat}{p:Bool}{l:bI}(A:μ z=some l)(C:H[z]?=some (.ar w rows g p false))(hn:rows.length=n)(ae:b+len<=n)(af:n<=b+cap)(P:l.off+(b+cap)*w<=l.size)(E:∀c,g=some c->b+cap=c)(Q:len+h.length<=cap)(S:v=cap)(k:bZ K μ H p w h e):∃f B,W.heap[l.blk]?=some (.cells f B (0,0))/\l.off+b*w+len*w+e.length<=f.size/\HR K μ (H.set z (.ar w (rows.take (b+len)++h++rows.drop (b+len+h.length)) g p false)) (W.setRow l.blk (f.toList.take (l.off+b*w+len*w)++e++f.toList.drop (l.off+b*w+len*w+e.length)).toArray)/\Nx K μ H W K μ (H.set z (.ar w (rows.take (b+len)++h++rows.drop (b+len+h.length)) g p false)) (W.setRow l.blk (f.toList.take (l.off+b*w+len*w)++e++f.toList.drop (l.off+b*w+len*w+e.length)).toArray)/\VR K μ (H.set z (.ar w (rows.take (b+len)++h++rows.drop (b+len+h.length)) g p false)) (.mu z (rows.take (b+len)++h++rows.drop (b+len+h.length)).length b (len+h.length)) (.slice (some ⟨l.blk,l.off+b*w,none⟩) (len+h.length) v):=by
 subst S;obtain⟨F,ag,hl,f,B,G,ai,I⟩:=hr.blk z l _ A C;have U:(rows.take (b+len)++h++rows.drop (b+len+h.length)).length=max n (b+len+h.length):=by simp only[N3,il,nr];omega
 have e1:(b+len)*w=b*w+len*w:=k6 ..;have e2:(b+len+h.length)*w=b*w+len*w+h.length*w:=by rw[k6,k6]
 have al:(b+len+h.length)*w<=(b+v)*w:=M4 w (by omega);have J:l.off+b*w+len*w+e.length<=f.size:=by rw[k.len];omega
 have V:max n (b+len+h.length)<=b+v:=by omega
 have am:=M4 w V;have L:∀i r,(rows.take (b+len)++h++rows.drop (b+len+h.length))[i]?=some r->(i<b+len/\rows[i]?=some r)\/(b+len<=i/\i<b+len+h.length/\h[i-(b+len)]?=some r)\/(b+len+h.length<=i/\rows[i]?=some r):=by
  intro i r a;have X:(rows.take (b+len)).length=b+len:=by rw[il];omega
  by_cases M:i<b+len;·rw[gC,dw (by omega),ACY,E4 M]at a;exact .inl ⟨M,a⟩
  by_cases Y:i<b+len+h.length;·rw[dw (by simp;omega),gx (by omega),X]at a;exact .inr (.inl ⟨by omega,Y,a⟩)
  rw[gx (by simp;omega),AAv]at a;refine .inr (.inr ⟨by omega,?_⟩);rw[<-a];congr 1;simp;omega
 have N:iq w _:=λi r a=>by
  rcases L i r a with⟨_,m⟩|⟨_,_,m⟩|⟨_,m⟩;·exact F i r m
  ·exact k.wide _ r m
  exact F i r m
 refine⟨f,B,G,J,?_⟩;have key:=QA hr A C (by omega) (.inr (λc a=>by have:=E c a;omega)) N (by rw[U];omega) G (vs':=(f.toList.take (l.off+b*w+len*w)++e++f.toList.drop (l.off+b*w+len*w+e.length)).toArray) (by simp;omega) (λK' ao H' a i r j d x y=>by
 have hj:j<w:=by rw[<-N i r x];exact ay y
 simp only[ACO];rw[qc _ _ _ (by simpa using J)];rcases L i r x with⟨o,q⟩|⟨o,Z,q⟩|⟨o,q⟩;·have:(i+1)*w<=(b+len)*w:=M4 w o;rw[k6]at this;rw[E4 (by omega)];obtain⟨u,s,t⟩:=I i r j d q y;exact⟨u,by simpa using s,t.ext a⟩
 ·have a1:=M4 w o;have a2:(i+1)*w<=(b+len+h.length)*w:=M4 w Z;rw[k6]at a2;have ac:=k.len;rw[E1 (by omega),E4 (by omega)];obtain⟨u,s,t⟩:=k.cell _ r j d q y;refine⟨u,?_,t.ext a⟩;rw[show l.off+(i*w+j)-(l.off+b*w+len*w)=(i-(b+len))*w+j by rw[Nat.sub_mul];omega];exact s
 have a1:=M4 w o;have ac:=k.len;rw[E1 (by omega),E1 (by omega)];obtain⟨u,s,t⟩:=I i r j d q y;exact⟨u,by simpa using s,t.ext a⟩);have hid:=hr.dom z l A;refine⟨key.1,key.2,.mu _ _ _ _ _ _ _ _ _ l w _ g p false A (by simp[hid]) (G1 _) (λ_=>⟨.inr ⟨rfl,rfl⟩,by omega,Q,by omega,P,E⟩)⟩
end
end
section
section
variable {c:CX} {E:En} {L:Nat -> Option Nat} {K:Kn} {μ:Mu} {sl:List D} {H:ab} {a:Act} {W:World} {o:Oper}
theorem QH {P:Program} {t e w bytes:Nat} {z:Value} (ht:qf P t e w bytes z) (n:Nat):(Builtin.zeroCells z.cells n).toList.length=n*w:=by
 simp[Builtin.zeroCells,ht.zs]
theorem vg (hr:HR K μ H W) {P:Program} {t u e w bytes n:Nat} {z x:Value} {ty:Nat} (ht:qf P t e w bytes z) {rows new:List (List D)} {olds ws:List Value} {p:Bool} {base:Option Addr} {sLen sCap:Nat}
  (hs:qg P W u bytes z w x n ws) (hn:n=new.length) (hold:bZ K μ H p w rows olds) (hnew:bZ K μ H p w new ws) (hlen:rows.length=sLen)
  (ho : ∀ W',W'.heap=W.heap -> (Builtin.firstCells w sLen (.slice base sLen sCap)).run P W' = .ok olds.toArray W') (hg:sCap<sLen+n) (hroom:fu (sLen+n) bytes=true) :
  ∃ v μ' W',(Builtin.append_ #[t,u] ty #[.slice base sLen sCap,x]).run P W = .ok v W' /\ HR K μ' (H++[.ar w (rows++new) none p false]) W' /\ Nx K μ H W K μ' (H++[.ar w (rows++new) none p false]) W' /\
   VR K μ' (H++[.ar w (rows++new) none p false]) (.mu H.length (rows++new).length 0 (rows++new).length) v:=by
 obtain⟨cp,hcp,hrun⟩:=QG (ty:=ty) ht hs ho hg hroom
 have hl:(rows++new).length=sLen+n:=by grind
 obtain⟨μ',h1,h2,h3⟩:=aee hr (e:=e) (hold.append hnew) (cp:=cp) (by omega) (rest:=(Builtin.zeroCells z.cells (cp-(sLen+n))).toList) (by grind[QH])
 grind
theorem QI (hr:HR K μ H W) {P:Program} {t u e w bytes:Nat} {z y v:Value} {ty:Nat} (ht:qf P t e w bytes z) {x d:D} {new:List (List D)} {ws:List Value} {p:Bool} {H':ab}
  (hs:qg P W u bytes z w y new.length ws) (hnew:bZ K μ H p w new ws) (h:gM H x new w bytes p=some (d,H')) (hx:VR K μ H x v) :
  ∃ v' μ' W',(Builtin.append_ #[t,u] ty #[v,y]).run P W = .ok v' W' /\ HR K μ' H' W' /\ Nx K μ H W K μ' H' W' /\ VR K μ' H' d v':=by
 have nul:bZ K μ H p w [] []:=⟨fun i r e=>by grind,by simp,fun i r j d e=>by grind,fun v e=>by grind⟩
 have ws0:new=[] -> ws=[]:=fun e=>by
  have:=hnew.len
  simp_all
 have zero : ∀ base sLen sCap,new=[] -> sLen <= sCap -> (Builtin.append_ #[t,u] ty #[.slice base sLen sCap,y]).run P W = .ok (.slice base sLen sCap) W:=fun base sLen sCap e hle=>by
  grind[ad9]
 have emp : ∀ base,v = .slice base 0 0 -> kI H x new w bytes p=some (d,H') ->
   ∃ v' μ' W',(Builtin.append_ #[t,u] ty #[v,y]).run P W = .ok v' W' /\ HR K μ' H' W' /\ Nx K μ H W K μ' H' W' /\ VR K μ' H' d v':=by
  intro base hv h
  subst hv
  cases new with
  | nil =>
   cases h
   exact⟨_,μ,W,zero _ _ _ rfl (G1 _),hr,.refl _ _ _ _,hx⟩
  | cons r rs =>
   simp only[kI]at h
   split at h
   ·rename_i hroom
    cases h
    have:=vg hr (ty:=ty) ht hs rfl nul hnew rfl (base:=base) (sLen:=0) (sCap:=0) (fun W' _=>by
     cases base with
     | none=>simp[Builtin.firstCells]
     | some b=>simp[Builtin.firstCells,loadCells,loadCellsFrom]) (by simp) (by grind)
    grind
   grind
 have lit : ∀ (w':Nat) base sLen sCap,v = .slice base sLen sCap -> sLen <= sCap -> rP H x new w' w=some (d,H') ->
   ∃ v' μ' W',(Builtin.append_ #[t,u] ty #[v,y]).run P W = .ok v' W' /\ HR K μ' H' W' /\ Nx K μ H W K μ' H' W' /\ VR K μ' H' d v':=by
  intro w' base sLen sCap hv hle h
  subst hv
  cases new with
  | nil =>
   simp only[rP]at h
   split at h
   ·cases h
    exact⟨_,μ,W,zero _ _ _ rfl hle,hr,.refl _ _ _ _,hx⟩
   grind
  | cons r rs=>cases h
 unfold gM at h
 split at h
 ·exact emp none (by cases hx;rfl) h
 ·cases hx<;>grind
 ·rename_i id n off len
  unfold mV at h
  split at h
  ·rename_i w' rows kc p' lk harr
   obtain⟨hH,hn⟩:=jg harr
   split at h
   ·rename_i hcd
    obtain⟨rfl,rfl,hfit,hroom⟩:=hcd
    cases hx with
    | mu _ _ _ _ _ _ cap blk q l w2 rows2 kc2 p2 lk2 hm hH' hle hcond =>
     rw[hH]at hH';cases hH'
     obtain⟨h3,h4,h5,h6,h7,h8⟩:=hcond hn
     cases new with
     | nil =>
      cases h
      exact⟨_,μ,W,zero _ _ _ rfl h5,hr,.refl _ _ _ _,.mu _ _ _ _ _ _ _ _ _ l w' rows kc p' lk hm hH hle hcond⟩
     | cons r rs =>
      obtain⟨olds,hov,hoc⟩:=aec hr hm hH (by omega) h5 h3
      have holdlen:=sc rows off len n hn hfit
      have hfc:=fun W' hW'=>aed (P:=P) (cap:=cap) (by rw[hov.len,holdlen]) hoc W' hW'
      have inplace : ∀ kc0,kc=kc0 -> jE H id off len rows (r::rs) w' kc0 p' lk=some (d,H') -> len+(r::rs).length <= cap -> ∃ v' μ' W',(Builtin.append_ #[t,u] ty #[.slice (some ⟨blk,q,none⟩) len cap,y]).run P W = .ok v' W' /\
        HR K μ' H' W' /\ Nx K μ H W K μ' H' W' /\ VR K μ' H' d v':=by
       intro kc0 hkc h hc
       subst hkc
       cases lk with
       | true=>cases h
       | false =>
        cases h
        have hadr:blk=l.blk /\ q=l.off+off*w':=by
         rcases h3 with h3|h3
         ·simp at hc;omega
         ·exact h3
        obtain⟨rfl,rfl⟩:=hadr
        obtain⟨cur,tyb,hW,hq,k1,k2,k3⟩:=aef hr hm hH hn hfit h6 h7 h8 hc rfl hnew
        exact⟨_,μ,_,aea ht hs hW hc hq hnew.one,k1,k2,k3⟩
      cases kc with
      | none =>
       cases off with
       | succ k=>cases h
       | zero =>
        by_cases hc:len+(r::rs).length <= cap
        ·exact inplace none rfl h hc
        ·cases lk with
         | true=>cases h
         | false =>
          have hnn:rows.drop (0+len+(r::rs).length)=[]:=dn (by omega)
          simp only[jE,hnn,oy,hF,wx]at h
          obtain⟨rfl,rfl⟩:=h
          obtain⟨cp,hcp,hrun⟩:=QG (ty:=ty) ht hs hfc (by omega) (by simpa using hroom)
          have hov':bZ K μ H p' w' (rows.take (0+len)++(r::rs)) (olds++ws):=by
           have h1:=hov
           rw[lB]
           exact h1.append hnew
          have hl2:(rows.take (0+len)++(r::rs)).length=len+(r::rs).length:=by
           simp only[N3,il];omega
          have hcells:(olds++ws++(Builtin.zeroCells z.cells (cp-(len+(r::rs).length))).toList).length=cp*w':=by
           rw[N3,hov'.len,QH ht,hl2, <- Nat.add_mul];congr 1;omega
          have hid:=hr.dom id l hm
          have be:BE l (.ar w' rows none p' false) ⟨W.heap.size,0,cp*w'⟩ (.ar w' (rows.take (0+len)++(r::rs)) none p' false) :=
           .ar _ _ _ _ _ _ _ _ _ _ (by omega) (fun e=>by omega) (fun c e=>by cases e)
          have hext:ba K μ H K (μ.upd id ⟨W.heap.size,0,cp*w'⟩) (H.set id (.ar w' (rows.take (0+len)++(r::rs)) none p' false)):=by
           refine⟨fun _ _ _ e=>e,fun j lj bj x y => ?_⟩
           by_cases hj:j=id
           ·subst hj
            rw[hm]at x;rw[hH]at y;cases x;cases y
            exact⟨_,_,by simp[Mu.upd],K2 hid,be⟩
           ·exact⟨lj,bj,by simp[Mu.upd,hj,x],by rw[K0 (AAX hj)];exact y,.refl _ _⟩
          have key:=hr.put (W':=W.drew.alloc (.cells (olds++ws++(Builtin.zeroCells _ (cp-(len+(r::rs).length))).toList).toArray e)) id l ⟨W.heap.size,0,cp*w'⟩ _ _ hm hH rfl rfl be rfl rfl rfl
           (by simp) (fun b hb _=>@heap_alloc_old _ _ b hb) (.inr (G1 _)) (by simp)
           ⟨hov'.wide,(fun c h=>by cases h),(by rw[hl2];simp only[lB];exact M4 w' hcp),_,e,heap_alloc_new _ _,(by simpa using hcells),(hov'.ext hext).at⟩
          refine⟨_,_,_,hrun,key.1,key.2,.mu _ _ _ _ _ _ _ _ _ ⟨W.heap.size,0,cp*w'⟩ w' _ none p' false (by simp[Mu.upd]) (K2 hid) (G1 _) (fun _ => ?_)⟩
          exact⟨.inr ⟨rfl,by simp⟩,by omega,hcp,by omega,by simp,fun c h=>by cases h⟩
      | some k =>
       have hk:=h8 k rfl
       simp only at h
       split at h
       ·rename_i hcap
        exact inplace _ rfl h (by omega)
       ·cases h
        have hgt:cap<len+(r::rs).length:=by omega
        exact vg hr ht hs rfl hov hnew holdlen hfc hgt (by
         simp only[fu,Hq]at hroom ⊢
         obtain⟨g1,g2⟩:=hroom
         refine⟨dG (M4 bytes (by omega)) g1,by omega⟩)
   grind
  grind
 ·cases hx with
  | im _ _ _ _ blk off cap f hc hw hk h1 hrr=>exact lit _ _ _ _ rfl hc h
 ·cases hx with
  | sv _ _ _ _ blk off cap f hc hw hk h1 hrr=>exact lit _ _ _ _ rfl hc h
 grind
theorem FF (fs:FS E c.tm c.bs K μ L sl H a.tmps W) {t u e w bytes:Nat} {z:Value} {p:Bool} {y y':Operand} {x x' d:D} {H':ab} {args:Array Operand} {argTypes:Array TypeId}
  (ho:o.op = .call { callee := .builtin .append,args,argTypes }) (ha:args.toList=[y,y']) (hat:argTypes.toList=[t,u]) (ht:qf c.P t e w bytes z)
  (hx:VR K μ H x (a.eval y)) (hx' : ∀ rows,fM H w x'=some rows -> ∃ ws,bZ K μ H false w rows ws /\ qg c.P W u bytes z w (a.eval y') rows.length ws) (h:bY H x x' w bytes p=some (d,H')):au c E L o a K μ H W d ⟨sl,H'⟩:=by
 have hargs:args = #[y,y']:=by grind
 have hargt:argTypes = #[t,u]:=by grind
 subst hargs;subst hargt
 have fin : ∀ {K':Kn} {μ':Mu} {H':ab} {W':World} {v:Value} {d:D},(Builtin.append_ #[t,u] o.type #[a.eval y,a.eval y']).run c.P W = .ok v W' -> HR K' μ' H' W' -> Nx K μ H W K' μ' H' W' -> VR K' μ' H' d v ->
   au c E L o a K μ H W d ⟨sl,H'⟩:=fun hrun hr nx hv =>
  au.go fs (by simp[execOp,ho,resolve,invoke,builtin,hrun]) hr nx hv
 unfold bY at h
 split at h
 ·rename_i new hnew
  obtain⟨ws,hv,hs⟩:=hx' new hnew
  split at h
  ·split at h
   ·rename_i new' H1 hf
    obtain⟨K',hr',nx,hv',hlen⟩:=QB hf fs.hr hv
    obtain⟨v',μ',W',hrun,k1,k2,k3⟩:=QI hr' (ty:=o.type) ht (by rw[hlen];exact hs) (bZ.weaken hv') h (hx.ext nx.ext)
    exact fin hrun k1 (nx.trans k2) k3
   grind
  ·obtain⟨v',μ',W',hrun,k1,k2,k3⟩:=QI fs.hr (ty:=o.type) ht hs hv h hx
   grind
 grind
theorem QJ (fs:FS E c.tm c.bs K μ L sl H a.tmps W) {u w bytes:Nat} {z:Value} {y':Operand} {x':D} (hu:(∃ e',c.P.underlying u=some (.slice e')) \/ c.P.underlying u=some .string)
  (hx':VR K μ H x' (a.eval y')) : ∀ rows,fM H w x'=some rows -> ∃ ws,bZ K μ H false w rows ws /\ qg c.P W u bytes z w (a.eval y') rows.length ws:=fun _ hr=>by
 obtain⟨ws,hv,hs⟩:=ad8 (P:=c.P) fs.hr hr hx'
 exact⟨ws,hv,⟨.inl ⟨hu,hs⟩⟩⟩
end
end
section
section
variable{c:CX}{E:En}{L:Nat->Option Nat}{K:Kn}{μ:Mu}{sl:List D}{H:ab}{a:Act}{W:World}{o:Oper}
variable{x y:Nat}
def FG(hr:HR K μ H W){w e ln:Nat}{rows:List (List D)}{vs:List Value}{p:Bool}(a:bZ K μ H p w rows vs)(j:ln<=rows.length)(f:x=e):∃b,HR K b (H++[.ar w rows (some rows.length) p false]) (W.alloc (.cells vs.toArray e))/\Nx K μ H W K b (H++[.ar w rows (some rows.length) p false]) (W.alloc (.cells vs.toArray e))/\VR K b (H++[.ar w rows (some rows.length) p false]) (.mu H.length rows.length 0 ln) (.slice (some ⟨W.heap.size,0,none⟩) ln rows.length):=by subst f;have k:=a.len;have d:=(a.ext (ba.push hr.dom ⟨W.heap.size,0,rows.length*w⟩ (.ar w rows (some rows.length) p false))).at (rest:=[]);simp only[oy]at d;obtain⟨g,i⟩:=hr.push _ ⟨W.heap.size,0,rows.length*w⟩ (.ar w rows _ p false) rfl ⟨a.wide,(λc h=>by grind),(by simp),_,x,heap_alloc_new W _,(by omega),d⟩;exact⟨_,g,i,.mu _ _ _ _ _ _ _ _ _ ⟨W.heap.size,0,rows.length*w⟩ w rows (some rows.length) p false (by simp[Mu.upd]) (by simp) (G1 _) (λ_=>⟨.inr ⟨rfl,by simp⟩,by omega,by omega,by omega,by simp,λc h=>by grind⟩)⟩
variable{z:List D}{b:Array Value}
theorem FH{w n:Nat}{p:Bool}(f:∀K μ H,CRs K μ H z b.toList)(t:z.length=w):bZ K μ H p w (List.replicate n z) (List.replicate n b.toList).flatten where
 wide:=λi r e=>by grind
 len:=by have:=(f K μ H).1.1;simp_all
 cell:=λi r j d e g=>by
  rw[AAo]at e;split at e
  ·rename_i hi;cases e;obtain⟨⟨u,m⟩,o⟩:=f K aK [];have x:=ay g;have a:j<b.toList.length:=by omega
   refine⟨b.toList[j],?_,o _ (hY a),?_⟩
   ·have:∀(n i:Nat),i<n->(List.replicate n b.toList).flatten[i*w+j]?=some b.toList[j]:=by intro n;induction n with|zero=>intro i hi;omega|succ n q=>intro i hi;rw[ABB,AAc];cases i with|zero=>rw[AB7,lB,dw a,Hk a]|succ i=>
     have h:b.toList.length=w:=by omega
     rw[gx (by rw[h,k6];omega),h,show(i+1)*w+j-w=i*w+j by rw[k6];omega];exact q i (by omega)
    exact this n i hi
   have c:=m j d _ g (Hk a);cases p with|true=>exact c|false=>exact VR.pure c
  grind
 one:=λv c=>by obtain⟨l,k,s⟩:=List.mem_flatten.1 c;rw[List.mem_replicate]at k;obtain⟨_,rfl⟩:=k;exact(f K μ H).2 v s
theorem FI(z:Array Value)(n:Nat):((Array.range (n*z.size)).map (λi=>z[i%z.size]!)).toList=(List.replicate n z.toList).flatten:=by simp[Array.toList_map,Array.toList_range];apply sa;intro k;induction n generalizing k with|zero=>simp|succ n c=>
 rw[ABB,AAc];by_cases b:k<z.size
 ·rw[dw (by omega)];have a:k<(n+1)*z.size:=by grind
  simp[a,m0 b,b]
 rw[gx (by grind)];have d:=c (k-z.size);simp only[AAl];rw[<-d];simp[fx];by_cases a:k<(n+1)*z.size
 ·have e:k-z.size<n*z.size:=by rw[k6]at a;omega
  rw[zb a,zb e];simp only[ga];congr 1;have:k%z.size=(k-z.size)%z.size:=Nat.mod_eq_sub_mod (by omega);rw[this]
 grind
def QL{w:Nat}{p:Bool}:∀{rows:List (List D)},(∀r∈rows,(∀K μ H,CRs K μ H r b.toList)/\r.length=w)->bZ K μ H p w rows (List.replicate rows.length b.toList).flatten|[],_=>⟨λi r e=>by grind,by simp,λi r j d e=>by grind,λv e=>by grind⟩|r::rows,h=>by have a:=FH (K:=K) (μ:=μ) (H:=H) (p:=p) (n:=1) (h r N1).1 (h r N1).2;have c:=QL (p:=p) λr hr=>h r (M0 _ hr);have f:=a.append c;grind
def aeg{P:Program}{e w bytes:Nat}{b:Value}{y:O}{d:Operand}{f:D}(c:E8 P e w bytes y d=true)(p:f=y.ev z sl)(q:∃k,P.underlying x=some (.int k))(hi:∃i,P.info? e=some i/\i.size=w/\i.zero=some b)(v:b.cells.size=w):∀rows,fM H w f=some rows->∃g,bZ K μ H false w rows g/\qg P W x bytes b w (a.eval d) rows.length g:=λrows hr=>by
 unfold E8 at c;split at c
 ·rename_i w' h n;simp only[D0,Hq]at c;obtain⟨⟨⟨rfl,rfl⟩,j⟩,l⟩:=c;subst p;simp[O.ev,fM,if_true,hF]at hr;subst hr;obtain⟨i,m,A,s⟩:=hi;have t:∀r∈h,(∀K μ H,CRs K μ H r b.cells.toList)/\r.length=w':=λr hr=>by
   obtain⟨B,C,E,F,G⟩:=xL (TB.1 l r hr);have o:=TB.1 l r hr;unfold ii at o;rw[m]at o;have I:(zeroValue e).run P default=.ok b default:=by simp[zeroValue,typeInfo,m,s]
   grind
  have u:(Builtin.zeroCells b.cells h.length).toList=(List.replicate _ _).flatten:=FI _ _;exact⟨_,QL t,⟨.inr ⟨q,rfl,j.1,j.2,u.symm⟩⟩⟩
 grind
def aeh(fs:FS E c.tm c.bs K μ L sl H a.tmps W){t e w bytes:Nat}{p:Bool}{y k:Operand}{x l d:D}{m:ab}(n:o.op=.makeSlice t y k)(q:c.P.underlying t=some (.slice e))(f:xo c.P e bytes=true)(F:ii c.P e z=true)(hs:bu c.P e w=true)(hw:0<w)(G:VR K μ H x (a.eval y))(I:VR K μ H l (a.eval k))(h:oc H x l w bytes z p=some (d,m)):au c E L o a K μ H W d ⟨sl,m⟩:=by
 unfold oc at h;split at h
 ·rename_i b J;split at h
  ·rename_i ln M;split at h
   ·rename_i g;cases h;obtain⟨k1,r,b1⟩:=so J I;obtain⟨k2,s,N⟩:=so M G;simp[fu,Hq]at g;obtain⟨j,P,Q,u,aj⟩:=xL F;have S:z.length=w:=by unfold bu at u hs;split at u<;>grind
    have U:bZ K μ H p w (List.replicate b z) _:=FH Q S;unfold xo at f;split at f
    ·rename_i V v;simp[X0]at f;have X:V.size=w:=by grind[bu]
     have Y:((b*bytes:Nat):Int)<=140737488355328:=Int.ofNat_le.2 g.1;have Z:((ln*bytes:Nat):Int)<=140737488355328:=Int.ofNat_le.2 (dG (M4 _ N) g.1);rw[Int.natCast_mul,Int.mul_comm]at Y Z;have w1:IntKind.i64.wrap _=b:=IntWalk.i64_in _ (by omega);have w2:IntKind.i64.wrap _=ln:=IntWalk.i64_in _ (by omega);obtain⟨ak,g1,A,B⟩:=FG fs.hr (e:=e) U (ln:=ln) (by grind) rfl;simp[List.length_replicate]at g1 A B;have ad:((Array.range (b*w)).map (λi=>j.cells[i%j.cells.size]!))=(List.replicate b j.cells.toList).flatten.toArray:=by grind[FI]
     have d1:¬(281474976710656<(bytes:Int)*b):=by omega
     have d2:¬((b:Int)<ln):=by omega
     have d3:¬((b:Int)<0):=by omega
     have d4:¬((ln:Int)<0):=by omega
     refine au.go fs ?_ g1 A B;by_cases C:b*w=0
     ·have al:b=0:=by rcases Nat.mul_eq_zero.1 C with h|h<;>grind
      have am:ln=0:=by omega
      have w0:IntKind.i64.wrap 0=0:=IntWalk.i64_in 0 (by omega);simp[execOp,n,Instr.makeSlice,r,s,asInt,asIntOf,run_underlying q,typeInfo,v,sizeOf,newRow,w0];grind
     simp[execOp,n,Instr.makeSlice,r,s,asInt,asIntOf,run_underlying q,typeInfo,v,f,w1,w2,d1,d2,d3,d4,sizeOf,X,C,P,newRow,ad]
    grind
   grind
  grind
 grind
def FK{w:Nat}{place:Nat->Option (Nat×Nat)}(z:∀i,place i=some (i*w,w)):∀{o:List (Nat×D)}{vals:List (Nat×Value)}{rows m:List (List D)}{vs:Array Value},bZ K μ H false w rows vs.toList->o.length=vals.length->(∀(j:Nat)(x:Nat×D)(y:Nat×Value),o[j]?=some x->vals[j]?=some y->x.1=y.1/\VR K μ H x.2 y.2)->jG rows w o=some m->∃n:Array Value,Instr.fill place vs vals=some n/\bZ K μ H false w m n.toList/\n.size=vs.size/\m.length=rows.length
 |[],[],rows,m,vs,a,_,_,h=>by cases h;exact⟨vs,rfl,a,rfl,rfl⟩|[],_::_,_,_,_,_,s,_,_=>by grind|_::_,[],_,_,_,_,s,_,_=>by grind|(i,d)::o,(Q,v)::vals,rows,m,vs,a,s,A,h=>by
  obtain⟨rfl,B⟩:=A 0 _ _ rfl rfl;simp at B;simp[jG]at h;split at h
  ·rename_i b E;split at h
   ·rename_i hi;obtain⟨p,S⟩:=sk E B;have F:b.length=w:=by rw[p.1.1];omega
    have U:=a.len;have V:i*w+w<=rows.length*w:=by have:(i+1)*w<=rows.length*w:=M4 w hi;grind
    have W:vs.size=rows.length*w:=by omega
    have C:(v.cells.zipIdx.foldl _ vs).toList=vs.toList.take (i*w)++v.cells.toList++vs.toList.drop _:=fold_set _ _ _ (by omega);have G:bZ K μ H false w (rows.set i b) (v.cells.zipIdx.foldl (λb(c,j)=>b.setIfInBounds (i*w+j) c) vs).toList:=by
     rw[C];have I:i*w+v.cells.toList.length<=vs.toList.length:=by simp[AAl];omega
     refine⟨λk r e=>?_,by simp only[N3,il,nr,gb,AAl];omega,λk r j x e f=>?_,λu J=>?_⟩
     ·by_cases l:i=k;·subst l;rw[K2 hi]at e;cases e;exact F
      rw[K0 l]at e;exact a.wide k r e
     ·rw[qc _ _ _ I];simp only[AAl];by_cases l:i=k;·subst l;rw[K2 hi]at e;cases e;have L:=ay f;rw[E1 (by omega),E4 (by omega)];obtain⟨u,q,t,M⟩:=CRs.cell p.1 p.2 f;exact⟨u,by rw[show i*w+j-i*w=j by omega];exact q,t,M⟩
      rw[K0 l]at e;have L:j<w:=by rw[<-a.wide k r e];exact ay f
      obtain⟨u,q,t⟩:=a.cell k r j x e f;refine⟨u,?_,t⟩;rcases ABl l with g|g;·have:(i+1)*w<=k*w:=M4 w g;rw[k6]at this;rw[E1 (by omega),E1 (by omega)];exact q
      have:(k+1)*w<=i*w:=M4 w g;rw[k6]at this;rw[E4 (by omega)];exact q
     rcases TA.1 J with h|h
     ·rcases TA.1 h with h|h;·exact a.one u (AA4 h)
      exact p.2 u h
     exact a.one u (AA5 h)
    obtain⟨n,X,N,Y,P⟩:=FK z G (by simpa using s) (λj x y e f=>A (j+1) x y (by simpa using e) (by simpa using f)) h;have Z:(v.cells.zipIdx.foldl (λb(c,j)=>b.setIfInBounds (i*w+j) c) vs).size=vs.size:=by rw[<-Array.length_toList,C];simp;omega
    refine⟨n,?_,N,by omega,by simpa using P⟩;simp only[Instr.fill,z];grind
   grind
  grind where
 fold_set(cs:Array Value)(off:Nat)(vs:Array Value)(h:off+cs.size<=vs.size):(cs.zipIdx.foldl (λacc(c,j)=>acc.setIfInBounds (off+j) c) vs).toList=vs.toList.take off++cs.toList++vs.toList.drop (off+cs.toList.length):=by
  have gen:∀(l:List Value)(k:Nat)(xs:Array Value),off+k+l.length<=xs.size->((l.zipIdx k).foldl (λacc x=>acc.setIfInBounds (off+x.2) x.1) xs).toList=xs.toList.take (off+k)++l++xs.toList.drop (off+k+l.length):=by intro l;induction l with|nil=>intro k xs _;simp|cons x l ih=>
   intro k xs hx;simp only[List.zipIdx_cons,ta];rw[ih _ _ (by simpa[Nat.add_assoc,Nat.add_comm 1]using hx)];simp[fA]at hx;simp only[Array.toList_setIfInBounds];apply sa;intro j;have a1:off+(k+1)+l.length<=(xs.toList.set (off+k) x).length:=by simp;omega
   have a2:off+k+(x::l).length<=xs.toList.length:=by omega
   rw[qc _ _ _ a1,qc _ _ _ a2];simp only[fA];by_cases c1:j<off+k;·rw[E4 (by omega),E4 c1,K0 (by omega)]
   rw[E1 c1];by_cases c2:j=off+k;·subst c2;rw[E4 (by omega),E4 (by omega),K2 (by simp;omega)];simp
   rw[E1 (by omega)];by_cases c3:j<off+k+(l.length+1);·rw[E4 (by omega),E4 c3,show j-(off+k)=(j-(off+(k+1)))+1 by omega];simp
   rw[E1 (by omega),E1 c3,K0 (by omega)]
  have:=gen cs.toList 0 vs (by simpa using h);rw[<-Array.foldl_toList,Array.toList_zipIdx];simpa using this
end
end
section
section
variable{c:CX}{E:En}{L:Nat->Option Nat}{K:Kn}{μ:Mu}{sl:List D}{H:ab}{a:Act}{W:World}{o:Oper}
def aei{w n:Nat}{z:Array Value}(a:z.size=w):((Array.range (n*w)).map (λi=>z[i%z.size]!))=(List.replicate n z.toList).flatten.toArray:=by grind[FI]
variable{z:Array (Nat×Operand)}{b:List (Nat×D)}
def A4{P:Program}{t e w n:Nat}{c:List D}{rows:List (List D)}(g:o.op=.buildSlice t n z)(k:P.underlying t=some (.slice e))(hs:bu P e w=true)(p:ii P e c=true)(F:0<w)(G:n*w<=2^24)(I:b.length=z.size)(J:∀(j:Nat)(x:Nat×D)(y:Nat×Operand),b[j]?=some x->z[j]?=some y->x.1=y.1/\VR K μ H x.2 (a.eval y.2))(h:jG (List.replicate n c) w b=some rows):∃vs:Array Value,(execOp a.eval o).run P W=.ok (.value (.slice (some ⟨W.heap.size,0,none⟩) n n)) (W.alloc (.cells vs e))/\bZ K μ H false w rows vs.toList/\rows.length=n:=by
 obtain⟨f,q,L,l,M⟩:=xL p;have N:c.length=w:=by unfold bu at l hs;split at l<;>grind
 have r:f.cells.size=w:=by omega
 have s:bZ K μ H false w (List.replicate n c) (List.replicate n f.cells.toList).flatten.toArray.toList:=by grind[FH]
 obtain⟨m,d,u,Q,S⟩:=FK (λ_=>rfl) (vals:=(z.map λ(i,x)=>(i,a.eval x)).toList) s (by grind) (λj x y U V=>by grind) h;replace d:Instr.fill (λi=>some (i*w,w)) (List.replicate n f.cells.toList).flatten.toArray (List.map (λx=>(x.fst,a.eval x.snd)) z.toList)=some m:=by simp_all
 refine⟨m,?_,u,by grind⟩;by_cases v:n=0
 ·subst v;simp at d;have A:Array.map (λ_=>(default:Value)) (Array.range 0)=#[]:=by grind
  simp[execOp,g,Instr.buildSlice,run_underlying k,l8 hs,newRow,A,d]
 have B:n*w≠0:=by intro e;rcases Nat.mul_eq_zero.1 e with h|h<;>omega
 have C:=aei (n:=n) r;have E:¬(16777216<n*w):=by omega
 simp[execOp,g,Instr.buildSlice,run_underlying k,l8 hs,B,E,q,C,d,newRow]
def aej(fs:FS E c.tm c.bs K μ L sl H a.tmps W){t e w n:Nat}{q:List D}{s:Array (Nat×Operand)}{g:List (Nat×D)}{d:D}(C:o.op=.buildSlice t n s)(F:c.P.underlying t=some (.slice e))(hs:bu c.P e w=true)(G:ii c.P e q=true)(I:0<w)(J:n*w<=2^24)(M:g.length=s.size)(N:∀(j:Nat)(x:Nat×D)(y:Nat×Operand),g[j]?=some x->s[j]?=some y->x.1=y.1/\VR K μ H x.2 (a.eval y.2))(S:n=0->g=[])(h:pU w n q g=some d):au c E L o a K μ H W d ⟨sl,H⟩:=by cases n with|zero=>cases h;obtain⟨vs,v,_,_⟩:=A4 (W:=W) C F hs G I J M N (rows:=[]) (by rw[S rfl];rfl);obtain⟨A,p⟩:=fs.hr.loc (.cells vs e);exact au.go fs v A p (.z ..)|succ m=>simp only[pU]at h;cases P:jG (List.replicate (m+1) q) w g with|none=>grind|some rows=>
 rw[P]at h;cases h;obtain⟨vs,v,Q,U⟩:=A4 (W:=W) C F hs G I J M N P;obtain⟨A,p⟩:=fs.hr.lit vs e (0,0);refine au.go fs v A p ?_;have B:∀i r j x,rows[i]?=some r->r[j]?=some x->∃u,vs[i*w+j]?=some u/\Cell K μ H false x u:=λi r j x e f=>by obtain⟨u,k,l⟩:=Q.cell i r j x e f;grind
 have:=VR.sv (K:=λb o=>if b=W.heap.size then vs[o]? else K b o) μ H w rows W.heap.size 0 _ (λi j=>vs.getD (i*w+j) undef) (G1 _) Q.wide (λi r j x e f=>by obtain⟨u,k,l⟩:=B i r j x e f;simp_all) (λi r j x e f=>by obtain⟨u,k,l⟩:=B i r j x e f;rw[oo k];exact l.1) (λi r j x e f=>by obtain⟨u,k,l⟩:=B i r j x e f;rw[oo k];exact VR.ext l.2 p.ext);grind
def aek(fs:FS E c.tm c.bs K μ L sl H a.tmps W){t e w n:Nat}{k:List D}{l:Array (Nat×Operand)}{p:Bool}{d:D}{q:ab}(r:o.op=.buildSlice t n l)(s:c.P.underlying t=some (.slice e))(hs:bu c.P e w=true)(u:ii c.P e k=true)(v:0<w)(A:n*w<=2^24)(B:b.length=l.size)(C:∀(j:Nat)(x:Nat×D)(y:Nat×Operand),b[j]?=some x->l[j]?=some y->x.1=y.1/\VR K μ H x.2 (a.eval y.2))(J:n=0->b=[])(h:ob H w n k b p=some (d,q)):au c E L o a K μ H W d ⟨sl,q⟩:=by cases n with|zero=>cases h;obtain⟨vs,i,_,_⟩:=A4 (W:=W) r s hs u v A B C (rows:=[]) (by rw[J rfl];rfl);obtain⟨M,N⟩:=fs.hr.loc (.cells vs e);exact au.go fs i M N (.z ..)|succ m=>simp[ob]at h;cases F:jG (List.replicate (m+1) k) w b with|none=>grind|some rows=>rw[F]at h;obtain⟨vs,i,G,I⟩:=A4 (W:=W) r s hs u v A B C F;cases p with
 |true=>
 simp at h;split at h;·rename_i X Y P;cases h;obtain⟨Z,Q,nx,S,U⟩:=QB P fs.hr G;obtain⟨V,g1,f,g⟩:=FG Q (e:=e) (bZ.weaken (p:=true) S) (ln:=m+1) (by omega) rfl;rw[U,I]at g1 f g;exact au.go fs (by simpa using i) g1 (nx.trans f) g
 grind|false=>cases h;obtain⟨V,g1,f,g⟩:=FG fs.hr (e:=e) G (ln:=m+1) (by omega) rfl;rw[I]at g1 f g;exact au.go fs (by simpa using i) g1 f g
end
end
section
section
variable{c:CX}{E:En}{L:Nat->Option Nat}{K:Kn}{μ:Mu}{sl:List D}{H:ab}{a:Act}{W:World}{o:Oper}
def VR.ag_inv{a:List D}{v:Value}(h:VR K μ H (.ag a) v):∃vs:List Value,v=.agg vs.toArray/\CRs K μ H a vs:=by cases h with|ag _ _ _ vs b c hr=>exact⟨vs,rfl,⟨b,hr⟩,c⟩
def VR.tu_inv{ds:List D}{v:Value}(h:VR K μ H (.tu ds) v):∃vs:List Value,v=.tuple vs.toArray/\bf K μ H ds vs:=by cases h with|tu _ _ _ vs a hr=>exact⟨vs,rfl,a,hr⟩
def ael(fs:FS E c.tm c.bs K μ L sl H a.tmps W){s t:Nat}{k:IntKind}{y:Operand}{x d:D}(b:o.op=.convert s t y)(e:c.P.underlying t=some (.int k))(hs:∃ds,c.P.underlying s=some ds)(f:VR K μ H x (a.eval y))(h:uR k x=some d):au c E L o a K μ H W d ⟨sl,H⟩:=by
 unfold uR at h;split at h;·rename_i j n;cases h;obtain⟨ds,hds⟩:=hs;have g:=f.i_inv;exact au.val fs (by simp[execOp,b,convert,run_underlying e,run_underlying hds,g,Conv.intToInt]) (.i ..)
 grind
def aem(fs:FS E c.tm c.bs K μ L sl H a.tmps W){j:Nat}{y:Operand}{x d:D}(e:o.op=.extract y j)(f:VR K μ H x (a.eval y))(h:uS x j=some d):au c E L o a K μ H W d ⟨sl,H⟩:=by
 unfold uS at h;split at h
 ·rename_i ds;obtain⟨vs,g,i,hr⟩:=f.tu_inv;have b:j<vs.length:=by grind
  exact au.val fs (by simp[execOp,e,Instr.extract,g,b]) (hr j d _ h (Hk b))
 grind
def aen(fs:FS E c.tm c.bs K μ L sl H a.tmps W){t:Nat}{y z:Operand}{x e d:D}(g:o.op=.index t y z)(k:c.P.underlying t=some .string)(m:VR K μ H x (a.eval y))(n:VR K μ H e (a.eval z))(h:rY x e=some d):au c E L o a K μ H W d ⟨sl,H⟩:=by
 unfold rY at h;split at h
 ·rename_i l;split at h
  ·rename_i j p;obtain⟨v,q,f⟩:=uZ p n;have r:=m.s_inv;split at h
   ·rename_i b w;cases h;refine au.val fs ?_ (.i ..);have s:(⟨l.toArray⟩:ByteArray)[j]?=some b:=by
     have u:j<(⟨l.toArray⟩:ByteArray).size:=by simpa[ByteArray.size]using f
     rw[getElem?_pos _ j u];have:l[j]'f=b:=by grind
     rw[<-this];rfl
    simp[execOp,g,Instr.index,asIntOf,q,run_underlying k,r,s]
   grind
  grind
 grind
def aeo(fs:FS E c.tm c.bs K μ L sl H a.tmps W){t e n w:Nat}{f:Bool}{y z:Operand}{x g d:D}(i:o.op=.index t y z)(k:c.P.underlying t=some (.array n e))(hs:bu c.P e w=true)(l:lw c.P e f=true)(q:VR K μ H x (a.eval y))(s:VR K μ H g (a.eval z))(h:pT x g n w f=some d):au c E L o a K μ H W d ⟨sl,H⟩:=by
 unfold pT at h;split at h
 ·rename_i I;split at h
  ·rename_i j u;obtain⟨J,g1,m⟩:=uZ u s;split at h;·rename_i r v;obtain⟨vs,p,A⟩:=q.ag_inv;obtain⟨M,B,C,_⟩:=p9 v;have b:=A3 A B;rw[<-C]at b;cases f with|true=>simp[val,hF]at h;subst h;refine au.val fs ?_ (.ag _ _ _ _ b.1.1 b.2 b.1.2);simp[execOp,i,Instr.index,asIntOf,g1,run_underlying k,p,m,part,AZ l,l8 hs]|false=>
    unfold val at h;split at h;·grind
    split at h
    ·rename_i z;cases h;have N:=b.1.1;have F:j*w<vs.length:=by grind
     have G:((vs.drop (j*w)).take w)[0]?=some vs[j*w]:=by grind
     refine au.val fs ?_ (b.1.2 0 _ _ rfl G);simp[execOp,i,Instr.index,asIntOf,g1,run_underlying k,p,m,part,AZ l,l8 hs,F]
    grind
   grind
  grind
 grind
variable{y z:Array Operand}
def aep(fs:FS E c.tm c.bs K μ L sl H a.tmps W){f:Fn}{p q:List D}(e:o.op=.makeFunc f y z)(b:bf K μ H p (y.toList.map a.eval))(d:bf K μ H q (z.toList.map a.eval)):au c E L o a K μ H W (.fn f p q) ⟨sl,H⟩:=by refine au.val fs (v:=.func f (y.map a.eval) (z.map a.eval)) (by simp[execOp,e,Instr.makeFunc]) ?_;have:=VR.fn μ H f p q _ _ b.1 d.1 b.2 d.2;rw[<-Array.toList_map,<-Array.toList_map,ACR,ACR]at this;omega
def aeq(fs:FS E c.tm c.bs K μ L sl H a.tmps W){t:Nat}{y:Operand}{x:D}(b:o.op=.makeInterface t y)(e:∃d,c.P.underlying t=some d/\∀f,d≠.interface f)(g:VR K μ H x (a.eval y)):au c E L o a K μ H W (.ifc t x) ⟨sl,H⟩:=by obtain⟨d,h,i⟩:=e;refine au.val fs ?_ (.ifc _ _ t x _ g);simp[execOp,b,Instr.makeInterface,run_underlying h]
def aer(fs:FS E c.tm c.bs K μ L sl H a.tmps W){y:Operand}{x d:D}(g:o.op=.nilCheck y)(b:VR K μ H x (a.eval y))(h:n8 x=some d):au c E L o a K μ H W d ⟨sl,H⟩:=by
 have j:∀f,a.eval y=.pointer (some f)->d=x->au c E L o a K μ H W d ⟨sl,H⟩:=λf e i=>by subst i;exact au.val fs (by simp[execOp,g,e]) (e▸b)
 unfold n8 at h;generalize k:a.eval y=v at*;split at h;·cases h;cases b;grind
 ·cases h;cases b;grind
 ·cases h;cases b;grind
 ·cases h;cases b;grind
 grind
def FL{f:D->D->Option D}{g:Value->Value->Sem Value}{P:Program}(i:∀x y q v w,f x y=some q->VR K μ H x v->VR K μ H y w->∃r,(g v w).run P W=.ok r W/\VR K μ H q r):∀{ds:List D}{vs:List Value}{x q:D}{v:Value},bf K μ H ds vs->VR K μ H x v->uO f x ds=some q->∃r,(vs.foldlM g v).run P W=.ok r W/\VR K μ H q r
 |[],[],x,q,v,_,k,h=>by cases h;simp_all|[],_::_,_,_,_,c,_,_=>by have:=c.1;grind|_::_,[],_,_,_,c,_,_=>by have:=c.1;grind|d::ds,w::vs,x,q,v,c,k,h=>by
  simp[uO]at h;split at h;·rename_i y l;obtain⟨u,n,m⟩:=i x d y v w l k (c.2 0 d w rfl rfl);obtain⟨o,p,s⟩:=FL i (vs:=vs) ⟨by have:=c.1;grind,λj a b e t=>c.2 (j+1) a b (by grind) (by grind)⟩ m h;simp_all
  grind
def aes(fs:FS E c.tm c.bs K μ L sl H a.tmps W){args:Array Operand}{l:Array TypeId}{ds:List D}{d:D}(r:o.op=.call {callee:=.builtin .max,args,argTypes:=l})(b:bf K μ H ds (args.toList.map a.eval))(h:jI rR ds=some d):au c E L o a K μ H W d ⟨sl,H⟩:=by
 unfold jI at h;split at h;·rename_i x F;match G:args.toList,b with
 |[],b=>have:=b.1;grind|y::f,b=>
  have s:args=(y::f).toArray:=by grind
  subst s;obtain⟨u,t,z⟩:=FL (P:=c.P) (W:=W) (g:=Builtin.max2) (λx y q v w e A B=>by
 unfold rR at e;split at e
 ·rename_i k m I n;split at e;·rename_i C;subst C;cases e;have:=A.i_inv;have:=B.i_inv;subst_vars;exact⟨_,by simp[Builtin.max2],.i ..⟩
  grind
 grind) (vs:=f.map a.eval) ⟨by have:=b.1;grind,λj p q e J=>b.2 (j+1) p q (by grind) (by grind)⟩ (b.2 0 x _ rfl rfl) h;exact au.val fs (by simp[execOp,r,resolve,invoke,builtin,Builtin.max_,t]) z
 grind
def aet(fs:FS E c.tm c.bs K μ L sl H a.tmps W){args:Array Operand}{l:Array TypeId}{ds:List D}{d:D}(r:o.op=.call {callee:=.builtin .min,args,argTypes:=l})(b:bf K μ H ds (args.toList.map a.eval))(h:jI rS ds=some d):au c E L o a K μ H W d ⟨sl,H⟩:=by
 unfold jI at h;split at h;·rename_i x F;match G:args.toList,b with
 |[],b=>have:=b.1;grind|y::f,b=>
  have s:args=(y::f).toArray:=by grind
  subst s;obtain⟨u,t,z⟩:=FL (P:=c.P) (W:=W) (g:=Builtin.min2) (λx y q v w e A B=>by
 unfold rS at e;split at e
 ·rename_i k m I n;split at e;·rename_i C;subst C;cases e;have:=A.i_inv;have:=B.i_inv;subst_vars;exact⟨_,by simp[Builtin.min2],.i ..⟩
  grind
 grind) (vs:=f.map a.eval) ⟨by have:=b.1;grind,λj p q e J=>b.2 (j+1) p q (by grind) (by grind)⟩ (b.2 0 x _ rfl rfl) h;exact au.val fs (by simp[execOp,r,resolve,invoke,builtin,Builtin.min_,t]) z
 grind
def aeu(fs:FS E c.tm c.bs K μ L sl H a.tmps W){args:Array Operand}{p:Array TypeId}{y:Operand}{t k:Nat}{x d:D}(f:o.op=.call {callee:=.builtin .len,args,argTypes:=p})(M:args.toList=[y])(g:p[0]?=some t)(r:(match c.P.underlying t,k with|some .string,0|some (.slice _),1|some (.map _ _),2=>true|_,_=>false)=true)(b:VR K μ H x (a.eval y))(h:dS H k x=some d):au c E L o a K μ H W d ⟨sl,H⟩:=by
 have s:args=#[y]:=by grind
 subst s;generalize j:a.eval y=v at b;unfold dS at h;split at r
 ·rename_i e;simp at h;split at h
  ·rename_i l;cases h;cases b;have u:(⟨l.toArray⟩:ByteArray).size=l.length:=by show l.toArray.size=_;simp
   exact au.val fs (by simp[execOp,f,resolve,invoke,builtin,Builtin.len_,g,j,run_underlying e,goInt,u]) (.i ..)
  grind
 ·rename_i e;simp at h;have N:∀base n q,v=.slice base n q->d=.i .i64 n->au c E L o a K μ H W d ⟨sl,H⟩:=λbase n q w z=>by subst w;subst z;exact au.val fs (by simp[execOp,f,resolve,invoke,builtin,Builtin.len_,g,j,run_underlying e,goInt]) (.i ..)
  split at h;·cases h;cases b;grind
  ·cases h;cases b;grind
  ·cases h;cases b;grind
  ·cases h;cases b;grind
  ·cases h;cases b;grind
  grind
 ·rename_i e;simp at h;split at h;·cases h;cases b;exact au.val fs (by simp[execOp,f,resolve,invoke,builtin,Builtin.len_,g,j,run_underlying e,goInt]) (.i ..)
  ·rename_i m;split at h;·rename_i P A;cases h;cases b with|mp _ _ _ l Q B S=>
    obtain⟨C,F,_,G,I,U⟩:=fs.hr.blk m l _ B A;refine au.val fs ?_ (.i ..);have J:(getObj l.blk).run c.P W=.ok (.map C F) W:=by simp[getObj,Sem.run,G]
    simp[execOp,f,resolve,invoke,builtin,Builtin.len_,g,j,run_underlying e,goInt,J,I]
   grind
  grind
 grind
end
end
section
section
variable{c:CX}{E:En}{L:Nat->Option Nat}{K:Kn}{μ:Mu}{sl:List D}{H:ab}{a:Act}{W:World}{o:Oper}
def QM:∀(x y:List UInt8),Op.bytesLess x y=rN x y|_,[]=>by cases‹List UInt8›<;>rfl|[],_::_=>rfl|p::x,q::y=>by simp[Op.bytesLess,rN,QM x y]
def aev{P:Program}{a:BinOp}{k:IntKind}{x y:Int}{d:D}(h:jD a k x y=some d)(hs:a≠.shl/\a≠.shr)(t:TypeId):∃v,(binOp a t (.int k x) (.int k y)).run P W=.ok v W/\VR K μ H d v:=by cases a<;>simp only[jD]at h<;>first
 |(cases h;exact⟨_,by simp only[binOp,ne_eq,not_true_eq_false,if_false,Op.intArith,Op.intBits,Op.intCmp];rfl,by constructor⟩)
 | (split at h;·cases h
    rename_i b;cases h;exact⟨_,by simp only[binOp,ne_eq,not_true_eq_false,if_false,Op.intDiv,E1 b];rfl,by constructor⟩)|grind|grind
def QN{P:Program}{a:BinOp}{k k':IntKind}{x y:Int}{d:D}(h:xw a k x y=some d)(hs:a=.shl\/a=.shr)(t:TypeId):∃v,(binOp a t (.int k x) (.int k' y)).run P W=.ok v W/\VR K μ H d v:=by
 unfold xw at h;split at h;·cases h
 rename_i b;rcases hs with rfl|rfl;·cases h;exact⟨_,by simp only[binOp,Op.shift,E1 b];rfl,by constructor⟩
 cases h;exact⟨_,by simp only[binOp,Op.shift,E1 b];rfl,by constructor⟩
def QO(l:List UInt8):(⟨l.toArray⟩:ByteArray).size=l.length:=by constructor<;>grind
def A5(l:List UInt8):(⟨l.toArray⟩:ByteArray).toList=l:=by simp_all
def aew{P:Program}{a:BinOp}{x y:List UInt8}{d:D}(h:xx a x y=some d)(t:TypeId):∃v,(binOp a t (.string ⟨x.toArray⟩) (.string ⟨y.toArray⟩)).run P W=.ok v W/\VR K μ H d v:=by cases a<;>simp only[xx]at h<;>first
 |(cases h;exact⟨_,by simp only[binOp,Op.stringOp,A5,QM];rfl,by constructor⟩)
 | (split at h
    · rename_i b;cases h;refine⟨.string ⟨(x++y).toArray⟩,?_,by constructor⟩;simp only[Fa]at b;have c:¬(9223372036854775807<((x.length:Int)+(y.length:Int))):=by omega
      have e:(⟨x.toArray⟩:ByteArray)++⟨y.toArray⟩=⟨(x++y).toArray⟩:=by apply ByteArray.ext;simp
      simp[binOp,Op.stringOp,QO,c,e]
    cases h)|cases h
def QP{P:Program}{op:BinOp}{t:TypeId}{x y:Operand}{v w:Value}(h:∀vs a,v=.agg vs->w=.agg a->P.eqGuardType P.depth t=false)(b:v=.nilIface->w=.nilIface->(x matches .const _)=true\/(y matches .const _)=true):(eqGuard op t x y v w).run P W=.ok () W:=by unfold eqGuard;cases v<;>cases w<;>first
 |(rename_i vs a;have:=h vs a rfl rfl;simp[this])
 | (simp;intro _ c d;rcases b rfl rfl with h|h;·exact absurd (h.symm.trans c) (by simp)
    exact absurd (h.symm.trans d) (by simp))|simp
def aex(fs:FS E c.tm c.bs K μ L sl H a.tmps W){f:BinOp}{t m:TypeId}{y z:Operand}{p q d:D}(n:o.op=.binOp f t y z m)(i:VR K μ H p (a.eval y))(j:VR K μ H q (a.eval z))(h:bin f p q=some d):au c E L o a K μ H W d ⟨sl,H⟩:=by
 have J:∀v,(binOp f t (a.eval y) (a.eval z)).run c.P W=.ok v W->(∀vs g,a.eval y=.agg vs->a.eval z=.agg g->False)->(a.eval y=.nilIface->False)->VR K μ H d v->au c E L o a K μ H W d ⟨sl,H⟩:=λv r s u b=>by have w:=QP (P:=c.P) (W:=W) (op:=f) (t:=t) (x:=y) (y:=z) (λvs g e A=>(s vs g e A).elim) (λe _=>(u e).elim);exact au.val fs (by simp[execOp,n,w,r]) b
 unfold bin at h;split at h
 ·rename_i k x l B;have C:=i.i_inv;have F:=j.i_inv;split at h;·obtain⟨v,hr,b⟩:=QN (P:=c.P) (W:=W) (K:=K) (μ:=μ) (H:=H) (k':=l) h (.inl rfl) t;grind
  ·obtain⟨v,hr,b⟩:=QN (P:=c.P) (W:=W) (K:=K) (μ:=μ) (H:=H) (k':=l) h (.inr rfl) t;grind
  rename_i G I;split at h;·rename_i M;obtain⟨v,hr,b⟩:=aev (P:=c.P) (W:=W) (K:=K) (μ:=μ) (H:=H) h ⟨G,I⟩ t;grind
  grind
 ·rename_i x B;have C:=i.s_inv;have F:=j.s_inv;obtain⟨v,hr,b⟩:=aew (P:=c.P) (W:=W) (K:=K) (μ:=μ) (H:=H) h t;grind
 grind
def aey(fs:FS E c.tm c.bs K μ L sl H a.tmps W){j:UnOp}{t:TypeId}{y:Operand}{p d:D}(f:o.op=.unOp j t y)(g:VR K μ H p (a.eval y))(h:un j p=some d):au c E L o a K μ H W d ⟨sl,H⟩:=by
 unfold un at h;split at h;·cases h;have e:=g.i_inv;exact au.val fs (by simp only[execOp,f,e,Op.unary,Op.intArith];rfl) (.i ..)
 ·cases h;have e:=g.i_inv;exact au.val fs (by simp only[execOp,f,e,Op.unary,Op.intBits];rfl) (.i ..)
 ·cases h;have e:=g.b_inv;exact au.val fs (by simp only[execOp,f,e,Op.unary];rfl) (.b ..)
 grind
variable{y z:Option Operand}
def sq{P:Program}{lo hi:Option D}{b:Option Operand}(l:match lo,z with|none,none=>True|some d,some y=>VR K μ H d (a.eval y)|_,_=>False)(n:match hi,b with|none,none=>True|some d,some y=>VR K μ H d (a.eval y)|_,_=>False){len cap m k h:Nat}(c:eo lo hi len m=some (k,h))(r:m<=cap)(g:Bool):k<=h/\h<=max len m/\(Instr.sliceBounds g len cap (z.map a.eval) (b.map a.eval) none).run P W=.ok (k,h,cap) W:=by
 unfold eo at c;split at c
 ·rename_i s i;split at c
  ·rename_i t j;cases c;have o:h<=max len m/\(match b.map a.eval,(none:Option Value)with|some v,some _=>Instr.sliceBound v cap .slice3B|some v,none=>Instr.sliceBound v cap (if g then .sliceAcap else .sliceAlen)|none,none=>pure len|none,some _=>stuck "Slice: max without high").run P W=.ok h W:=by cases hi with
  |none=>cases b with|none=>simp[jH,hF]at i;simp_all<;>omega|some y=>grind
  |some d=>cases b with|none=>grind|some y=>
    obtain⟨p,f,e⟩:=so i n;refine⟨dG e (AAL _ _),?_⟩;have:h<=cap:=by omega
    simp[Instr.sliceBound,asIntOf,f,this]
   have q:k<=h/\(match z.map a.eval with|some v=>Instr.sliceBound v h .sliceB|none=>pure 0).run P W=.ok k W:=by cases lo with
 |none=>cases z with|none=>simp[jH,hF]at j;simp_all<;>omega|some y=>grind
 |some d=>cases z with|none=>grind|some y=>obtain⟨p,f,e⟩:=so j l;exact⟨e,by simp[Instr.sliceBound,asIntOf,f,e]⟩
   refine⟨q.1,o.1,?_⟩;unfold Instr.sliceBounds;cases u:b.map _ with|none=>split<;>simp_all|some v=>split<;>simp_all
  grind
 grind
end
end
section
section
variable{c:CX}{E:En}{L:Nat->Option Nat}{K:Kn}{μ:Mu}{sl:List D}{H:ab}{a:Act}{W:World}{o:Oper}
def m7(K:Kn)(μ:Mu)(H:ab)(a:Act)(b:Option D)(c:Option Operand):Prop:=match b,c with|none,none=>True|some d,some y=>VR K μ H d (a.eval y)|_,_=>False
def aez(l:List UInt8)(k h:Nat):(⟨l.toArray⟩:ByteArray).extract k h=⟨((l.drop k).take (h-k)).toArray⟩:=by apply ByteArray.ext;simp_all
variable{x y z:Option Operand}
def aeA(fs:FS E c.tm c.bs K μ L sl H a.tmps W){t:TypeId}{y:Operand}{e b:Option Operand}{x d:D}{lo hi f:Option D}(g:o.op=.slice t y z e b)(i:c.P.underlying t=some .string)(j:VR K μ H x (a.eval y))(m:m7 K μ H a lo z)(n:m7 K μ H a hi e)(p:m7 K μ H a f b)(h:Fg x lo hi f=some d):au c E L o a K μ H W d ⟨sl,H⟩:=by
 unfold Fg at h;split at h
 ·rename_i l;split at h
  ·rename_i k w q;cases h;have r:b=none:=by cases b with|none=>rfl|some y=>exact p.elim
   subst r;have u:=j.s_inv;obtain⟨A,B,v⟩:=sq (P:=c.P) (W:=W) m n q (G1 _) false;refine au.val fs ?_ (.s ..);simp[execOp,g,Instr.sliceAt,run_underlying i,Instr.slice,u,QO,v,aez]
  grind
 grind
def xN{P:Program}{t e w:Nat}(b:P.underlying t=some (.slice e))(c:bu P e w=true){y:Operand}(d:o.op=.slice t y x z none){base:Option Addr}{len cap k h:Nat}(f:a.eval y=.slice base len cap)(g:(Instr.sliceBounds true len cap (x.map a.eval) (z.map a.eval) none).run P W=.ok (k,h,cap) W):(execOp a.eval o).run P W=.ok (.value (.slice (if cap=k then base else base.map (·.add (k*w))) (h-k) (cap-k))) W:=by simp[execOp,d,Instr.sliceAt,run_underlying b,Instr.slice,f,g,l8 c]
def aeB(fs:FS E c.tm c.bs K μ L sl H a.tmps W){t e w:TypeId}{y:Operand}{Y N:Option Operand}{x d:D}{lo hi Z:Option D}(I:o.op=.slice t y z Y N)(J:c.P.underlying t=some (.slice e))(M:bu c.P e w=true)(s:VR K μ H x (a.eval y))(C:m7 K μ H a lo z)(F:m7 K μ H a hi Y)(aa:m7 K μ H a Z N)(h:dY H w x lo hi Z=some d):au c E L o a K μ H W d ⟨sl,H⟩:=by generalize u:a.eval y=v at s;cases Z with
 |none=>
 have ar:N=none:=by cases N with|none=>rfl|some y=>exact aa.elim
 subst ar;simp[dY]at h;split at h
 ·split at h
  ·rename_i Q g;obtain⟨k,b⟩:=Q;cases h;cases s;obtain⟨V,X,A⟩:=sq (P:=c.P) (W:=W) (cap:=0) C F g (G1 _) true;have e1:b=0:=by omega
   have e2:k=0:=by omega
   subst e1;exact au.val fs (xN J M I u A) (by grind[VR.nil])
  grind
 ·split at h;·rename_i Q g;obtain⟨k,b⟩:=Q;cases h;cases s with|z _ _ ad=>
   obtain⟨V,X,A⟩:=sq (P:=c.P) (W:=W) (cap:=0) C F g (G1 _) true;have e1:b=0:=by omega
   have e2:k=0:=by omega
   subst e1;exact au.val fs (xN J M I u A) (by grind[VR.z])
  grind
 ·rename_i w' rows;split at h
  ·rename_i k b al g;cases h;have ac:w'=w:=by grind
   cases s with|im _ _ _ _ blk G cap f hc ae hk h1 ah=>
   obtain⟨V,X,A⟩:=sq (P:=c.P) (W:=W) C F g hc true;refine au.val fs (xN J M I u A) ?_;have aw:=sc rows k (b-k) _ rfl (by omega);have key:=VR.im μ H w' ((rows.drop k).take (b-k)) blk (G+k*w') (cap-k) _ (by omega) (λi r e=>ae _ r (gn _ _ _ _ _ e).1) (λi r j x e B=>by grind) (λi r j x e B=>h1 _ r j x (gn _ _ _ _ _ e).1 B) (λi r j x e B=>ah _ r j x (gn _ _ _ _ _ e).1 B);by_cases S:cap=k
   ·rw[E4 S];have h0:b-k=0:=by omega
    rw[h0]at key⊢;have e0:=VR.im (K:=K) μ H w' [] blk G (cap-k) (λ_ _=>undef) (by simp) (λi r e=>by grind) (λi r j x e=>by grind) (λi r j x e=>by grind) (λi r j x e=>by grind);exact e0
   grind[f8]
  grind
 ·rename_i w' rows;split at h
  ·rename_i k b al g;cases h;have ac:w'=w:=by grind
   cases s with|sv _ _ _ _ blk G cap f hc ae hk h1 ah=>
   obtain⟨V,X,A⟩:=sq (P:=c.P) (W:=W) C F g hc true;refine au.val fs (xN J M I u A) ?_;have aw:=sc rows k (b-k) _ rfl (by omega);have key:=VR.sv μ H w' ((rows.drop k).take (b-k)) blk (G+k*w') (cap-k) _ (by omega) (λi r e=>ae _ r (gn _ _ _ _ _ e).1) (λi r j x e B=>by grind) (λi r j x e B=>h1 _ r j x (gn _ _ _ _ _ e).1 B) (λi r j x e B=>ah _ r j x (gn _ _ _ _ _ e).1 B);by_cases S:cap=k
   ·rw[E4 S];have h0:b-k=0:=by omega
    rw[h0]at key⊢;exact VR.sv μ H w' [] blk G _ (λ_ _=>undef) (by simp) (λi r e=>by grind) (λi r j x e=>by grind) (λi r j x e=>by grind) (λi r j x e=>by grind)
   grind[f8]
  grind
 ·rename_i id n G len;split at h
  ·rename_i w' rows kc p lk harr;obtain⟨hH,hn⟩:=jg harr;split at h
   ·rename_i k b al g;cases h;have ac:w'=w:=by grind
    subst ac;cases s with|mu _ _ _ _ _ _ cap blk q l w2 bg bh p2 bj hm an a0 bk=>
    rw[hH]at an;cases an;obtain⟨V,X,A⟩:=sq (P:=c.P) (W:=W) (cap:=cap) C F g (by omega) true;refine au.val fs (xN J M I u A) ?_;have a1:∀bq:Nat×Nat,(cap-k=0\/(bq.1=l.blk/\bq.2=l.off+(G+k)*w'))->VR K μ H (.mu id n _ (b-k)) _:=λbq a2=>.mu _ _ _ _ _ _ _ _ _ l w' rows kc p lk hm hH a0 (λ_=>⟨a2,by omega,by omega,by omega,by grind,λc0 e=>by grind⟩);by_cases S:cap=k;·simp_all
    rw[E1 S];simp[ga,f8];refine a1 (blk,q+k*w') ?_;grind
   grind
  grind
 grind|some m=>cases N with|none=>exact aa.elim|some ym=>
 simp[dY]at h;split at h
 ·rename_i z0 bm a4;split at h
  ·rename_i Q g;obtain⟨k,b⟩:=Q;obtain⟨ik,m1,m2⟩:=so a4 aa;have a5:z0=0:=by omega
   subst a5;cases Y with|none=>exact F.elim|some yh=>
   unfold eo at g;split at g
   ·rename_i h2 hh;split at g
    ·rename_i k2 hk;cases g;obtain⟨bs,n1,n2⟩:=so hh F;have a8:b=0:=by omega
     subst a8;have a9:z.map a.eval=none\/∃ik:IntKind,z.map a.eval=some (.int ik (0:Nat)):=by cases lo with
 |none=>cases z with|none=>grind|some yl=>exact C.elim
 |some dl=>cases z with|none=>grind|some yl=>obtain⟨bb,o1,o2⟩:=so hk C;grind
     have U:∀base len cap,a.eval y=.slice base len cap->(execOp a.eval o).run c.P W=.ok (.value (.slice base 0 0)) W:=λbase len cap e=>by
      have bc:(Instr.sliceBounds true len cap (z.map a.eval) (some (a.eval yh)) (some (a.eval ym))).run c.P W=.ok (0,0,0) W:=by
       unfold Instr.sliceBounds;rcases a9 with hl|⟨bb,hl⟩;·simp[hl,Instr.sliceBound,asIntOf,m1,n1]
       simp[hl,Instr.sliceBound,asIntOf,m1,n1]
      simp[execOp,I,Instr.sliceAt,run_underlying J,Instr.slice,e,bc,l8 M]
     split at h;·cases h;cases s;exact au.val fs (U _ _ _ u) (.nil ..)
     ·cases h;cases s;exact au.val fs (U _ _ _ u) (.z ..)
     ·cases h;cases s;exact au.val fs (U _ _ _ u) (.z ..)
     ·cases h;cases s;exact au.val fs (U _ _ _ u) (.z ..)
     ·cases h;cases s;exact au.val fs (U _ _ _ u) (.z ..)
     grind
    grind
   grind
  grind
 grind
end
end
section
section
variable{c:CX}{E:En}{L:Nat->Option Nat}{K:Kn}{μ:Mu}{sl:List D}{H:ab}{a:Act}{W:World}{o:Oper}
def aeC(fs:FS E c.tm c.bs K μ L sl H a.tmps W){t e w n:TypeId}{y:Operand}{g i:Option Operand}{x d:D}{lo hi:Option D}(u:o.op=.slice t y g i none)(z:c.P.underlying t=some (.array n e))(A:bu c.P e w=true)(j:VR K μ H x (a.eval y))(B:m7 K μ H a lo g)(C:m7 K μ H a hi i)(h:rX H x n w lo hi=some d):au c E L o a K μ H W d ⟨sl,H⟩:=by
 generalize F:a.eval y=v at j;unfold rX at h;split at h
 ·rename_i id;split at h
  ·rename_i w' rows b p f;split at h
   ·rename_i G;obtain⟨rfl,N,rfl⟩:=G;split at h;·rename_i k m I;cases h;cases j with|aa _ _ _ l Q S U V X r s=>rw[f]at s;cases s;obtain⟨Y,Z,hl,ac,ty,hW,af,ag⟩:=fs.hr.blk id l _ r f;obtain⟨b1,b2,J⟩:=sq (P:=c.P) (W:=W) B C I (G1 _) false;refine au.val fs (v:=.slice (some (if b=k then(⟨l.blk,l.off,none⟩)else(⟨l.blk,l.off,none⟩:Addr).add (k*w'))) (m-k) (b-k)) (by simp[execOp,u,Instr.sliceAt,run_underlying z,F,Instr.sureAddr,J,l8 A]) ?_;have aj:∀q,(b-k=0\/q=l.off+k*w')->VR K μ H (.mu id b k (m-k)) _:=λq M=>.mu _ _ _ _ _ _ _ _ _ l w' rows _ p false r f (by omega) (λ_=>⟨M.imp (λe=>e) λe=>⟨rfl,e⟩,by omega,by omega,by omega,by grind,λc0 e=>by grind⟩);grind[f8]
    grind
   grind
  grind
 grind
def QQ{P:Program}{t:Nat}{zero:D}(h:(match P.info? t with|some a=>(match a.zero with|some b=>py zero b|none=>false)|none=>false)=true):∃z,(∀w,(zeroValue t).run P w=.ok z w)/\∀K μ H,VR K μ H zero z:=by
 split at h
 ·rename_i i hi;split at h;·rename_i z c;exact⟨z,λw=>by simp[zeroValue,typeInfo,hi,c],λK μ H=>Qq h K μ H⟩
  grind
 grind
def VR.pair{x y:D}{v w:Value}(h:VR K μ H x v)(a:VR K μ H y w):VR K μ H (.tu [x,y]) (.tuple #[v,w]):=.tu _ _ [x,y] [v,w] rfl (λj d u e b=>by grind)
def aeD(fs:FS E c.tm c.bs K μ L sl H a.tmps W){r t:TypeId}{y:Operand}{x d zero:D}{j:Bool}(C:o.op=.typeAssert y r t j)(s:∃f,c.P.underlying t=some f/\∀u,f≠.interface u)(w:(match c.P.info? t with|some A=>(match A.zero with|some B=>py zero B|none=>false)|none=>false)=true)(k:VR K μ H x (a.eval y))(h:uT x t j zero=some d):au c E L o a K μ H W d ⟨sl,H⟩:=by
 obtain⟨f,g,F⟩:=s;obtain⟨z,G,m⟩:=QQ w;generalize I:a.eval y=v at k;have n:v=.nilIface\/(∃e i,v=.iface e i/\e≠t)->j=true->(execOp a.eval o).run c.P W=.ok (.value (.tuple #[z,.bool false])) W:=by
  rintro(rfl|⟨e,i,rfl,J⟩)rfl;·cases f<;>simp_all[execOp,Instr.typeAssert,run_underlying g]
  cases f<;>simp_all[execOp,Instr.typeAssert,run_underlying g]
 unfold uT at h;split at h;·rename_i e M;cases k with|ifc _ _ _ _ i p=>
  split at h
  ·rename_i _ _ q;cases h;have l:e=t:=by grind
   refine au.val fs ?_ (VR.pair p (.b ..));cases f<;>simp_all[execOp,Instr.typeAssert,run_underlying g]
  ·rename_i _ _ q;cases h;have l:e=t:=by grind
   refine au.val fs ?_ p;cases f<;>simp_all[execOp,Instr.typeAssert,run_underlying g]
  ·rename_i _ _ q;cases h;have l:e≠t:=by grind
   exact au.val fs (n (.inr ⟨e,i,rfl,l⟩) rfl) (VR.pair (m _ _ _) (.b ..))
  grind
 ·split at h;·cases h;cases k;exact au.val fs (n (.inl rfl) rfl) (VR.pair (m _ _ _) (.b ..))
  grind
 grind
def QR{place:Nat->Option (Nat×Nat)}:∀{b:List (Nat×Nat×D)}{vals:List (Nat×Value)}{a f:List D}{vs:Array Value},CRs K μ H a vs.toList->b.length=vals.length->(∀(j:Nat)(x:Nat×Nat×D)(y:Nat×Value),b[j]?=some x->vals[j]?=some y->place y.1=some (x.1,x.2.1)/\VR K μ H x.2.2 y.2)->jF a b=some f->∃g:Array Value,Instr.fill place vs vals=some g/\CRs K μ H f g.toList
 |[],[],a,f,vs,k,_,_,h=>by cases h;exact⟨vs,rfl,k⟩|[],_::_,_,_,_,_,l,_,_=>by grind|_::_,[],_,_,_,_,l,_,_=>by grind|(i,n,d)::b,(z,v)::vals,a,f,vs,k,l,m,h=>by
  obtain⟨o,p⟩:=m 0 _ _ rfl rfl;simp[jF]at h;split at h
  ·rename_i ds hds;split at h
   ·rename_i A q;obtain⟨r,B⟩:=sk hds p;obtain⟨C,rfl⟩:=A0 q;have s:=r.1.1;have t:=k.1.1;simp[AAl]at s t;have E:=FK.fold_set [] [] v.cells i vs (by omega);have u:CRs K μ H (a.take i++ds++a.drop (i+ds.length)) (v.cells.zipIdx.foldl (λa(c,j)=>a.setIfInBounds (i+j) c) vs).toList:=by grind[FB]
    obtain⟨g,F,w⟩:=QR u (by simpa using l) (λj x y e G=>m (j+1) x y (by grind) (by grind)) h;refine⟨g,?_,w⟩;simp only[Instr.fill,o];grind
   grind
  grind
def aeE{P:Program}(a:List Field)(h:∀f∈a,(P.info? f.type).isSome=true):∃b:List (Nat×Nat),(a.mapM (m:=Sem) λf=>do pure (f.offset,<-sizeOf f.type)).run P W=.ok b W/\∀j,b[j]?=xq P a.toArray j:=by induction a with|nil=>simp_all[xq]|cons f a c=>
 obtain⟨b,e,k⟩:=c (λg d=>h g (M0 _ d));obtain⟨i,hi⟩:=AAh.1 (h f (N1 ..));refine⟨(f.offset,i.size)::b,?_,λj=>?_⟩
 ·have hs:(sizeOf f.type).run P W=.ok i.size W:=by simp[sizeOf,typeInfo,hi]
  simp_all
 grind[xq]
def QS(fs:FS E c.tm c.bs K μ L sl H a.tmps W){t:TypeId}{g:Array (Nat×Operand)}{r k:List D}{l:List (Nat×Nat×D)}{place:Nat->Option (Nat×Nat)}(s:o.op=.build t g)(w:ii c.P t r=true)(A:(∃b:Array Field,c.P.underlying t=some (.struct b)/\(∀f∈b.toList,(c.P.info? f.type).isSome=true)/\place=xq c.P b)\/∃n e d,c.P.underlying t=some (.array n e)/\c.P.info? e=some d/\place=λj=>some (j*d.size,d.size))(I:l.length=g.size)(J:∀(j:Nat)(x:Nat×Nat×D)(y:Nat×Operand),l[j]?=some x->g[j]?=some y->place y.1=some (x.1,x.2.1)/\VR K μ H x.2.2 (a.eval y.2))(h:jF r l=some k):au c E L o a K μ H W (.ag k) ⟨sl,H⟩:=by
 obtain⟨z,u,B,_,_⟩:=xL w;obtain⟨M,v,p⟩:=QR (place:=place) (vals:=(g.map λ(i,x)=>(i,a.eval x)).toList) (B K μ H) (by grind) (λj x y N P=>by grind) h;rw[Array.toList_map]at v;refine au.val fs ?_ (by simpa using VR.ag μ H k _ p.1.1 p.2 p.1.2);rcases A with⟨b,q,C,rfl⟩|⟨n,e,d,q,hi,rfl⟩
 ·obtain⟨F,Q,S⟩:=aeE (W:=W) _ C;have G:(b.mapM (m:=Sem) λf=>do pure (f.offset,<-sizeOf f.type)).run c.P W=.ok F.toArray W:=by rw[AB4];simp_all
  simp only[execOp,s,Instr.build,Sem.run_bind,u,Result.andThen_ok,run_underlying q,G];simp_all
 have hs:(sizeOf e).run c.P W=.ok d.size W:=by simp[sizeOf,typeInfo,hi]
 simp[execOp,s,Instr.build,u,run_underlying q,hs,v]
end
end
section
section
variable{c:CX}{E:En}{L:Nat->Option Nat}{K:Kn}{μ:Mu}{sl:List D}{H:ab}{a:Act}{W:World}{o:Oper}
end
end
section
section
variable{c:CX}{E:En}{L:Nat->Option Nat}{K:Kn}{μ:Mu}{sl:List D}{H:ab}{a:Act}{W:World}{o:Oper}
def sr:∀{a:List Nat}{b c:List D}{r:Bool},dj a b c=some r->b.length=a.length/\c.length=a.length
 |[],[],[],_,_=>⟨rfl,rfl⟩|[],[],_::_,_,h=>by grind[dj]|[],_::_,_,_,h=>by grind[dj]|_::_,[],_,_,h=>by grind[dj]|_::_,_::_,[],_,h=>by grind[dj]|n::a,x::b,y::c,r,h=>by
  unfold dj at h;split at h;·have:=sr h;grind
  ·split at h;·simp only[fA];omega
   cases h
  cases h
def CRs.take{ds:List D}{vs:List Value}(h:CRs K μ H ds vs)(n:Nat):CRs K μ H (ds.take n) (vs.take n):=⟨⟨by simp[il,h.1.1],λj d v e b=>h.1.2 j d v (by grind) (by grind)⟩,λv a=>h.2 v (AA4 a)⟩
def CRs.drop{ds:List D}{vs:List Value}(h:CRs K μ H ds vs)(n:Nat):CRs K μ H (ds.drop n) (vs.drop n):=⟨⟨by simp[nr,h.1.1],λj d v e b=>h.1.2 (n+j) d v (by grind) (by grind)⟩,λv a=>h.2 v (AA5 a)⟩
def QT:∀{a d:List Nat}{b c:List D}{r:Bool},dj (a++d) b c=some r->(dj a (b.take a.length) (c.take a.length)=some false/\r=false)\/(dj a (b.take a.length) (c.take a.length)=some true/\dj d (b.drop a.length) (c.drop a.length)=some r)|[],d,b,c,r,h=>by grind[dj]|n::a,d,b,c,r,h=>by have e:=sr h;cases b with|nil=>grind|cons x b=>cases c with|nil=>grind|cons y c=>
 simp only[U3,dj]at h;simp only[fA,List.take_succ_cons,ACV,dj];simp only[fA,N3]at e;split at h;·rename_i f g;exact QT h
 ·rename_i f g;split at h;·cases h;left;refine⟨?_,rfl⟩;rw[E4];simp only[il];omega
  cases h
 cases h
def qh(P:Program)(t:TypeId)(vs:List Value)(v:Value):Prop:=(∃a,P.underlying t=some (.struct a)/\v=.agg vs.toArray)\/((P.underlying t=some .bool\/(∃k,P.underlying t=some (.int k))\/P.underlying t=some .string)/\vs=[v])
def FM{P:Program}{n:Nat}{t:TypeId}{d:List Nat}(h:lV P n t=some d)(b:Array Value)(c:Nat)(l:c+d.length<=b.size):∃v,(part t b c).run P W=.ok v W/\qh P t ((b.toList.drop c).take d.length) v:=by
 have one:P.underlying t=some .bool\/(∃k,P.underlying t=some _)\/P.underlying t=some .string->d.length=1->∃v,(part t b c).run P W=.ok v W/\qh P t ((b.toList.drop c).take d.length) v:=λa m=>by
  have f:c<b.size:=by omega
  refine⟨b[c],?_,.inr ⟨a,?_⟩⟩
  ·have e:(isAgg t).run P W=.ok false W:=by rcases a with a|⟨k,a⟩|a<;>simp[isAgg,run_underlying a]
   simp[part,e,f]
  apply sa;grind
 cases n with|zero=>grind[E6]|succ n=>
 rw[E7]at h;split at h;·grind
 ·rename_i k a;split at h;·cases h;simp_all
  grind
 ·grind
 ·rename_i g a;split at h;·cases h
  split at h
  ·rename_i o p;split at h
   ·rename_i j;cases h;obtain⟨i,hi⟩:=info_of_underlying a;refine⟨.agg _,?_,.inl ⟨g,a,rfl⟩⟩;have e:(isAgg t).run P W=.ok true W:=by simp[isAgg,run_underlying a]
    simp only[part,Sem.run_bind,e,Result.andThen_ok,if_true,run_sizeOf W hi,j,Sem.run_pure];congr 2;grind
   grind
  grind
 grind
def QU{P:Program}:∀(n:Nat)(t:TypeId)(b:List Nat),lV P n t=some b->∀(d:Nat)(q s:List D)(vs e:List Value)(v w:Value)(r:Bool),CRs K μ H q vs->CRs K μ H s e->qh P t vs v->qh P t e w->dj b q s=some r->(Op.equalIn (d+n) t v w).run P W=.ok r W:=by intro n;induction n using Nat.strongRecOn with|ind n ih=>
 intro t b h d q s vs e v w r j l G I g;have o:∀{V:TypeDesc}{vs:List Value}{v:Value},P.underlying t=some V->(∀J,V≠.struct J)->qh P t vs v->vs=[v]:=λa N p=>by
  rcases p with⟨J,X,_⟩|⟨_,h⟩;·rw[a]at X;cases X;exact(N _ rfl).elim
  exact h
 cases n with|zero=>grind[E6]|succ n=>
 have Q:∀m,b=[m]->vs=[v]->e=[w]->∃x y,q=[x]/\s=[y]/\VR K μ H x v/\VR K μ H y w/\fZ m x=true/\fY x y=some r:=λm hs hv hw=>by subst hs;subst hv;subst hw;obtain⟨u,z⟩:=sr g;obtain⟨x,rfl⟩:=AAw.1 u;obtain⟨y,rfl⟩:=AAw.1 z;refine⟨x,y,rfl,rfl,j.1.2 0 _ _ rfl rfl,l.1.2 0 _ _ rfl rfl,?_⟩;grind[dj]
 rw[E7]at h;split at h
 ·rename_i a;split at h;·cases h;obtain⟨x,y,rfl,rfl,A,B,C,c⟩:=Q 0 rfl (o a (by simp) G) (o a (by simp) I);cases x<;>simp[fZ]at C;cases y<;>simp[fY]at c;cases A;cases B;subst c;exact run_equalIn_bool' W _ t _ _ a
  grind
 ·rename_i k a;split at h;·cases h;obtain⟨x,y,rfl,rfl,A,B,C,c⟩:=Q 1 rfl (o a (by simp) G) (o a (by simp) I);cases x<;>simp[fZ]at C;cases y<;>simp[fY]at c;obtain⟨rfl,c⟩:=c;cases A;cases B;subst c;exact run_equalIn_int W _ t _ k _ _ a
  grind
 ·rename_i a;split at h;·cases h;obtain⟨x,y,rfl,rfl,A,B,C,c⟩:=Q 2 rfl (o a (by simp) G) (o a (by simp) I);cases x<;>simp[fZ]at C;cases y<;>simp[fY]at c;cases A;cases B;subst c;rw[show d+(n+1)=d+n+1 from rfl,run_equalIn_string W _ t _ _ a,A5,A5]
  grind
 ·rename_i J a;have ai:v=.agg vs.toArray:=by
   rcases G with⟨_,_,h⟩|⟨h,_⟩;·exact h
   rw[a]at h;rcases h with h|⟨k,h⟩|h<;>cases h
  have aj:w=.agg e.toArray:=by
   rcases I with⟨_,_,h⟩|⟨h,_⟩;·exact h
   rw[a]at h;rcases h with h|⟨k,h⟩|h<;>cases h
  subst ai;subst aj;split at h;·cases h
  rename_i ak;split at h
  ·rename_i a0 al;split at h
   ·cases h;have Y:P.fieldsOf t=J:=by simp[Program.fieldsOf,a]
    rw[show d+(n+1)=d+n+1 from rfl,run_equalIn_struct W _ t _ _ (by rw[Y];exact a) (by simpa using ak),Y];have go:∀(fs:List Field)(i:Nat)(b:List Nat),rK P n i fs=some b->i<=vs.length->i<=e.length->∀(E F:List D),CRs K μ H E (vs.drop i)->CRs K μ H F (e.drop i)->dj b E F=some r->
    (Op.eqFields (d+n) vs.toArray e.toArray fs).run P W=.ok r W:=by intro fs;induction fs with|nil=>
    intro i b hs o1 o2 E F j l g;have:=by cases n<;>simpa[adc]using hs.symm
    subst this;obtain⟨u,z⟩:=sr g;cases E<;>simp at u;cases F<;>simp at z;simp only[dj,hF]at g;subst g;simp[Op.eqFields]|cons f fs ap=>intro i b hs o1 o2 E F j l g;cases n with|zero=>simp[PV]at hs|succ m=>
     rw[PW]at hs;split at hs
     ·rename_i L;simp[D0,Hq,AB2,ne_eq]at L;split at hs
      ·rename_i Z S;split at hs
       ·rename_i sb ar;cases hs;obtain⟨u,z⟩:=sr g;have lx:=j.1.1;have ly:=l.1.1;simp[N3,nr]at u z lx ly;obtain⟨va,p1,q1⟩:=FM (W:=W) S vs.toArray i (by simp[ABw];omega);obtain⟨wa,p2,q2⟩:=FM (W:=W) S e.toArray i (by simp[ABw];omega);have ae:∀M,dj Z _ _=some M->(Op.equalIn (d+(m+1)) _ va wa).run P W=.ok M W:=λM ay=>by rw[show d+(m+1)=d+1+m by omega];exact ih m (by omega) _ Z S _ _ _ _ _ va wa M (j.take _) (l.take _) q1 q2 ay
        rcases QT g with⟨U,rfl⟩|⟨U,e2⟩;·have:=ae _ U;simp[Op.eqFields,L.2,L.1,p1,p2,this]
        have:=ae _ U;have N:=ap _ sb ar (by omega) (by omega) _ _ (by rw[<-List.drop_drop];exact j.drop _) (by rw[<-List.drop_drop];exact l.drop _) e2;simp[Op.eqFields,L.1,p1,p2,this,N]
       cases hs
      cases hs
     cases hs
    exact go _ 0 b al (by omega) (by omega) q s (by simpa using j) (by simpa using l) g
   cases h
  cases h
 grind
def qh.struct{P:Program}{t:TypeId}{a:Array Field}(b:P.underlying t=some (.struct a))(vs:List Value):qh P t vs (.agg vs.toArray):=.inl ⟨a,b,rfl⟩
def l9:EK->Bool->Value->Prop|.sl,true,v=>v=.slice none 0 0|.sl,false,v=>∃b n k,v=.slice (some b) n k|.pt,true,v=>v=.pointer none|.pt,false,v=>∃b,v=.pointer (some b)|.mp,true,v=>v=.map none|.mp,false,v=>∃b,v=.map (some b)|.fn,true,v=>v=.nilFunc|.fn,false,v=>∃f x y,v=.func f x y|.ifc,true,v=>v=.nilIface|.ifc,false,v=>∃t x,v=.iface t x|_,_,_=>False
variable{x y:Bool}
def A6{k:EK}{d:D}{v:Value}(h:xv k d=some x)(a:VR K μ H d v):l9 k x v:=by cases k<;>simp[xv]at h<;>first|(cases h;done)|(split at h;all_goals first|(cases h;cases a<;>simp[l9];done)|(cases h;done))
def aeF(d:Nat){P:Program}{t:TypeId}{k:EK}{v w:Value}(e:pH P t k=true)(a:l9 k x v)(b:l9 k y w)(h:x=true\/y=true):(Op.equalIn (d+1) t v w).run P W=.ok (x&&y) W:=by
 unfold pH at e;split at e;all_goals first|(cases e;done)|(cases x<;>cases y<;>simp_all[l9];done)|skip
 all_goals(rename_i c;revert h;cases x<;>cases y<;>simp[l9]at a b<;>intro h)
 all_goals first|(simp at h;done)|(subst a;obtain⟨_,rfl⟩:=b;simp[Op.equalIn,run_underlying c];done)|(subst a;obtain⟨_,_,rfl⟩:=b;simp[Op.equalIn,run_underlying c];done)|(subst a;obtain⟨_,_,_,rfl⟩:=b;simp[Op.equalIn,run_underlying c];done)|(subst b;obtain⟨_,_,_,rfl⟩:=a;simp[Op.equalIn,run_underlying c];done)
theorem aeG{P:Program}{t:TypeId}{k:EK}{v w:Value}(a:pH P t k=true)(b:l9 k x v)(c:l9 k y w)(h:x=true\/y=true):(Op.equal t v w).run P W=.ok (x&&y) W:=aeF 9999 a b c h
def ss(y:Operand):Bool:=match y with|.const _=>true|_=>false
def aeH{P:Program}{op:BinOp}{t:TypeId}{x y:Operand}{v w:Value}(h:∀vs a,v=.agg vs->w=.agg a->P.eqGuardType P.depth t=false)(b:v=.nilIface->w=.nilIface->ss x=true\/ss y=true):(eqGuard op t x y v w).run P W=.ok () W:=QP h (λe c=>(b e c).imp (λg=>by cases x<;>first|rfl|cases g) (λg=>by cases y<;>first|rfl|cases g))
def xO:Value->Bool|.int ..|.float ..|.complex ..|.string ..=>true|_=>false
def aeI{P:Program}{a:BinOp}{t:TypeId}{v w:Value}(b:a=(match x with|true=>.neq|false=>.eql))(c:xO v=false)(h:(Op.equal t v w).run P W=.ok y W):(binOp a t v w).run P W=.ok (.bool (y !=x)) W:=by subst b;cases x<;>cases v<;>simp[xO]at c<;>(cases w<;>simp[binOp,h])
def VR.hp_inv{K:Kn}{μ:Mu}{H:ab}{b a:Nat}{v:Value}(h:VR K μ H (.hp b a) v):∃l,v=.pointer (some ⟨l.blk,a,none⟩)/\μ b=some l:=by cases h<;>grind
def aeJ(d:Nat){P:Program}(W:World){t e:TypeId}{i:TypeInfo}(b:P.underlying t=some (.pointer e))(hi:P.info? e=some i)(a:Addr):(Op.equalIn (d+1) t (.pointer (some a)) (.pointer (some a))).run P W=.ok true W:=by
 by_cases c:P.cellsOf e=0;·simp[Op.equalIn,run_underlying b,run_sizeOf W hi,c]
 simp[Op.equalIn,run_underlying b,run_sizeOf W hi,sameAddr]
theorem aeK{P:Program}(W:World){t e:TypeId}{i:TypeInfo}(b:P.underlying t=some (.pointer e))(hi:P.info? e=some i)(a:Addr):(Op.equal t (.pointer (some a)) (.pointer (some a))).run P W=.ok true W:=aeJ 9999 W b hi a
def QW(fs:FS E c.tm c.bs K μ L sl H a.tmps W){neg:Bool}{k:EK}{B:BinOp}{t S:TypeId}{y z:Operand}{p q d:D}(U:o.op=.binOp B t y z S)(V:B=(match neg with|true=>.neq|false=>.eql))(j:pH c.P t k=true)(hi:k=.ifc->ss y=true\/ss z=true)(s:VR K μ H p (a.eval y))(u:VR K μ H q (a.eval z))(h:ej neg k p q=some d):au c E L o a K μ H W d ⟨sl,H⟩:=by
 unfold ej at h;split at h
 ·rename_i r hr;cases h;have w:xO (a.eval y)=false->(Op.equal t (a.eval y) (a.eval z)).run c.P W=.ok r W->(∀vs m,a.eval y=.agg vs->a.eval z=.agg m->c.P.eqGuardType _ t=false)->(a.eval y=.nilIface->a.eval z=.nilIface->ss y=true\/ss z=true)->au c E L o a K μ H W _ ⟨sl,H⟩:=λf C I J=>by have X:=aeH (W:=W) (op:=B) I J;exact au.val fs (v:=.bool (r !=neg)) (by simp[execOp,U,X,aeI V f C]) (.b ..)
  have M:∀r1 r2,l9 k r1 (a.eval y)->l9 k r2 (a.eval z)->(r1=true\/r2=true)->r=(r1&&r2)->au c E L o a K μ H W _ ⟨sl,H⟩:=λr1 r2 f C I J=>by
   have F:xO (a.eval y)=false/\(∀vs,a.eval y=.agg vs->False)/\(a.eval y=.nilIface->k=.ifc):=by generalize a.eval y=v at f;cases k<;>cases r1<;>simp[l9]at f;all_goals grind[xO]
   exact w F.1 (by grind[aeG]) (λvs m e _=>(F.2.1 vs e).elim) (λe _=>hi (F.2.2 e))
  unfold uL at hr;split at hr
  ·split at hr
   ·rename_i x y';cases hr;have g:=s.b_inv;have A:=u.b_inv;have n:c.P.underlying t=some .bool:=by unfold pH at j;grind
    refine w (by rw[g];rfl) ?_ (λvs m e=>by grind) (λe=>by grind);rw[g,A];exact run_equal_bool W t _ _ n
   grind
  ·rename_i N;split at hr
   ·rename_i Y Z;obtain⟨vs,g,aa⟩:=s.ag_inv;obtain⟨m,A,ab⟩:=u.ag_inv;obtain⟨P,n,ac,ad⟩:∃P,c.P.underlying t=some (.struct P)/\lV c.P 8 t=some N/\c.P.eqGuardType c.P.depth t=false:=by unfold pH at j;grind
    refine w (by rw[g];rfl) ?_ (λ_ _ _ _=>ad) (λe=>by grind);rw[g,A];exact QU 8 t N ac 9992 Y Z vs m _ _ r aa ab (.struct n _) (.struct n _) hr
   grind
  split at hr
  ·split at hr
   ·rename_i ae;obtain⟨rfl,rfl⟩:=ae;cases hr;obtain⟨l,g,hm⟩:=s.hp_inv;obtain⟨l',A,Q⟩:=u.hp_inv;rw[hm]at Q;cases Q;obtain⟨e,i,n,hi⟩:∃e i,c.P.underlying t=some (.pointer e)/\c.P.info? e=some i:=by
     unfold pH at j;split at j;all_goals first|(cases j;done)|(rename_i f;cases f;done)|(rename_i f C;cases f;done)|skip
     all_goals first|(rename_i e n;obtain⟨i,hi⟩:=AAh.1 j;grind)
    refine w (by rw[g];rfl) ?_ (λvs m e=>by grind) (λe=>by grind);grind[aeK]
   grind
  split at hr;·rename_i G;exact M r true (A6 hr s) (A6 G u) (.inr rfl) (by simp)
  ·rename_i G;split at hr;·rename_i hx;cases hr;exact M true false (A6 hx s) (A6 G u) (.inl rfl) rfl
   grind
  grind
 grind
end
end
section
section
variable{c:CX}{E:En}{L:Nat->Option Nat}{K:Kn}{μ:Mu}{sl:List D}{H:ab}{a:Act}{W:World}{o:Oper}
theorem QX{n:Nat}{x:D}{v:Value}(h:fZ n x=true)(a:VR K μ H x v)(c:Kn)(d:Mu)(e:ab):VR c d e x v:=by
 unfold fZ at h;split at h;·cases a;exact .b ..
 ·cases a;exact .i ..
 ·cases a;exact .s ..
 grind
def FO:∀{b:List Nat}{a:List D},uN b a=true->a.length=b.length/\∀(j:Nat)(x:D),a[j]?=some x->∃n,fZ n x=true|[],[],_=>⟨rfl,λj x e=>by grind⟩|[],_::_,h=>by grind[uN]|_::_,[],h=>by grind[uN]|n::b,x::a,h=>by simp[uN,D0]at h;obtain⟨c,d⟩:=FO h.2;grind
variable{x:KK}
def aeL{k:D}{v:Value}(h:jc x k=true)(a:VR K μ H k v)(b:Kn)(c:Mu)(f:ab):VR b c f k v:=by
 unfold jc at h;split at h;·grind[QX]
 split at h;·rename_i m n;obtain⟨l,o⟩:=FO h;cases a with|ag _ _ _ vs g i hr=>exact .ag _ _ _ vs g i (λj d v e p=>by grind[QX])
 grind
def aeM{P:Program}(o:Bool):∀(n:Nat)(t:TypeId)(b:List Nat),lV P n t=some b->∀(d:Nat)(vs:List Value)(v:Value),qh P t vs v->vs.length=b.length->(Instr.checkKey o (d+n) t v).run P W=.ok () W:=by intro n;induction n using Nat.strongRecOn with|ind n s=>intro t b h d vs v u H;cases n with|zero=>simp[E6]at h|succ n=>
 have g:∀c,P.underlying t=some c->(c=.bool\/(∃k,c=.int k)\/c=.string)->(Instr.checkKey o (d+(n+1)) t v).run P W=.ok () W:=λc a w=>by rw[show d+(n+1)=d+n+1 from rfl];unfold Instr.checkKey;simp only[Sem.run_bind,run_underlying a,Result.andThen_ok];rcases w with rfl|⟨k,rfl⟩|rfl<;>simp
 rw[E7]at h;split at h;·rename_i a;exact g _ a (.inl rfl)
 ·rename_i k a;exact g _ a (.inr (.inl ⟨k,rfl⟩))
 ·rename_i a;exact g _ a (.inr (.inr rfl))
 ·rename_i x a;have y:v=.agg vs.toArray:=by
   rcases u with⟨_,_,h⟩|⟨h,_⟩;·exact h
   rw[a]at h;rcases h with h|⟨k,h⟩|h<;>cases h
  subst y;split at h;·cases h
  split at h
  ·rename_i I i;split at h
   ·cases h;rw[show d+(n+1)=d+n+1 from rfl,Instr.checkKey];simp only[Sem.run_bind,run_underlying a,Result.andThen_ok];rw[<-Array.forIn_toList];generalize x.toList=fs at i;have e:0+b.length<=vs.length:=by omega
    revert e i;generalize 0=j;generalize b=z;induction fs generalizing j z with|nil=>intro i e;simp|cons f fs A=>intro hs e;cases n with|zero=>simp[PV]at hs|succ m=>
    rw[PW]at hs;split at hs
    ·rename_i l;simp only[D0,Hq,AB2,ne_eq]at l;split at hs
     ·rename_i p q;split at hs;·rename_i B C;cases hs;simp only[N3]at e;obtain⟨E,F,G⟩:=FM (W:=W) q vs.toArray j (by simp only[ABw];omega);have r:=s m (by omega) f.type p q (d+1) _ E G (by simp only[il,nr];omega);rw[show d+1+m=d+(m+1)by omega]at r;simp only[List.forIn_cons,Sem.run_bind,l.2,l.1,ne_eq,not_false_eq_true,if_true,Result.andThen_ok,F,r,Sem.run_pure];exact A (j+p.length) B C (by omega)
      cases hs
     cases hs
    cases hs
   cases h
  cases h
 cases h
def qi(K:Kn)(μ:Mu)(H:ab)(a:List (D×D))(b:List MapEntry):Prop:=a.length=b.length/\∀(j:Nat)(k v:D)(e:MapEntry),a[j]?=some (k,v)->b[j]?=some e->VR K aK [] k e.key/\VR K μ H v e.val
def FP{P:Program}{b:TypeId}{I:KK}(t:kH P b I=true){k i:D}{v m:Value}{r:Bool}(u:VR K μ H k v)(V:VR K aK [] i m)(h:lE I k i=some r):∃z,P.underlying b=some z/\((Instr.sameNow z v m=some r/\∀j,z≠.struct j)\/((∃j,z=.struct j)/\(Op.equal b v m).run P W=.ok r W))/\(r=true->Instr.sameBits 10000 m v=true):=by
 have A:VR K μ H i m:=VR.pure V;unfold lE at h;split at h
 ·rename_i n;split at h
  ·rename_i J;unfold fZ at J;split at J
   ·rename_i x;have c:P.underlying b=some .bool:=by unfold kH at t<;>grind
    cases i<;>simp[fY]at h;cases u;cases A;subst h;refine⟨_,c,.inl ⟨by simp[Instr.sameNow],by simp⟩,λe=>?_⟩;simp[X0]at e;subst e;simp[Instr.sameBits]
   ·rename_i q x;obtain⟨L,c⟩:∃L,P.underlying b=some (.int L):=by unfold kH at t<;>grind
    cases i<;>simp[fY]at h;cases u;cases A;obtain⟨rfl,h⟩:=h;subst h;refine⟨_,c,.inl ⟨by simp[Instr.sameNow],by simp⟩,λe=>?_⟩;simp[X0]at e;subst e;simp[Instr.sameBits]
   ·rename_i x;have c:P.underlying b=some .string:=by unfold kH at t<;>grind
    cases i with|s x'=>simp[fY,hF]at h;cases u;cases A;subst h;refine⟨_,c,.inl ⟨by simp[Instr.sameNow,beq_toListBytes,A5],by simp⟩,λe=>?_⟩;simp[X0]at e;subst e;simp[Instr.sameBits,beq_toListBytes,beq_self_eq_true]|_=>grind[fY]
   grind
  grind
 rename_i g;split at h
 ·rename_i d f;obtain⟨j,c,X⟩:∃j,P.underlying b=some (.struct j)/\lV P 8 b=some g:=by unfold kH at t<;>grind
  obtain⟨vs,Y,M⟩:=u.ag_inv;obtain⟨a,Z,N⟩:=A.ag_inv;subst Y;subst Z;refine⟨_,c,.inr ⟨⟨_,rfl⟩,QU 8 b g X 9992 d f vs a _ _ r M N (.struct c _) (.struct c _) h⟩,λe=>?_⟩;subst e;have aa:∀{g:List Nat}{d f:List D}{vs a:List Value},dj g d f=some true->CRs K μ H d vs->CRs K μ H f a->a.length=vs.length/\(a.zip vs).all (λ(x,y)=>Instr.sameBits 9999 x y)=true:=by intro g;induction g with|nil=>intro d f vs a h o p;obtain⟨Q,S⟩:=sr h;have m1:=o.1.1;have U:=p.1.1;simp_all|cons n g ih=>intro d f vs a h o p;obtain⟨Q,S⟩:=sr h;have m1:=o.1.1;have U:=p.1.1;simp[fA]at Q S;cases d with|nil=>grind|cons x d=>cases f with|nil=>grind|cons y f=>cases vs with|nil=>grind|cons v vs=>cases a with|nil=>simp at U|cons w a=>
   have E:=o.1.2 0 _ _ rfl rfl;have F:=p.1.2 0 _ _ rfl rfl;unfold dj at h;split at h
   ·rename_i G l;obtain⟨B,C⟩:=ih h (o.drop 1) (p.drop 1);simp only[ACV,AAN]at B C;refine⟨by simp[B],?_⟩;simp[ACZ,AAb,C,AAt];unfold fZ at G;split at G;·cases y<;>simp[fY]at l;cases E;cases F;subst l;simp[Instr.sameBits]
    ·cases y<;>simp[fY]at l;cases E;cases F;obtain⟨rfl,rfl⟩:=l;simp[Instr.sameBits]
    ·cases y<;>simp[fY]at l;cases E;cases F;subst l;simp[Instr.sameBits,beq_toListBytes,beq_self_eq_true]
    cases G
   ·split at h<;>cases h
   cases h
  obtain⟨B,C⟩:=aa h M N;have ad:(a.toArray.size==vs.toArray.size)=true:=by simpa using B
  rw[show(10000:Nat)=9999+1 from rfl];simp only[Instr.sameBits,ad,wy];exact C
 grind
inductive At(kk:KK)(k:D)(es:List (D×D)):Option Nat->Prop|no(h:∀(j:Nat)(e:D×D),es[j]?=some e->lE kk k e.1=some false):At kk k es none|yes(i:Nat)(k' v:D)(hi:es[i]?=some (k',v))(h1:lE kk k k'=some true)(h:∀(j:Nat)(e:D×D),j<i->es[j]?=some e->lE kk k e.1=some false):At kk k es (some i)
variable{y:List (D×D)}
def At.cons{a:KK}{k:D}{i:Option Nat}(h:At a k y i)(e:D×D)(d:lE a k e.1=some false):At a k (e::y) (i.map (·+1)):=by cases h with|no h=>constructor<;>grind|yes i b v hi c h=>refine .yes (i+1) b v (by grind) c λj f g x=>?_;grind
def QY{n:KK}{k:D}:∀{g:List (D×D)}{r:Option D},rQ n k g=some r->∃i,At n k g i/\(match i with|none=>r=none|some i=>∃f v,g[i]?=some (f,v)/\r=some v)
 |[],r,h=>by cases h;exact⟨none,.no λj e x=>by grind,rfl⟩|(f,l)::g,r,h=>by
  unfold rQ at h;split at h;·rename_i m;cases h;exact⟨some 0,.yes 0 f l rfl m (λj e q=>by omega),f,l,rfl,rfl⟩
  ·rename_i m;obtain⟨i,p,o⟩:=QY h;refine⟨i.map (·+1),p.cons (f,l) m,?_⟩;cases i with|none=>exact o|some i=>obtain⟨a,b,c,d⟩:=o;exact⟨a,b,by simpa using c,d⟩
  cases h
def QZ{c:KK}{k v:D}:∀{a b:List (D×D)},pJ c k v a=some b->∃i,At c k a i/\(match i with|none=>b=a++[(k,v)]|some i=>b=a.set i (k,v))
 |[],b,h=>by cases h;exact⟨none,.no λj e x=>by grind,rfl⟩|(f,g)::a,b,h=>by
  unfold pJ at h;split at h;·rename_i d;cases h;exact⟨some 0,.yes 0 f g rfl d (λj e m=>by omega),rfl⟩
  ·rename_i d;cases hs:pJ c k v a with|none=>grind|some n=>rw[hs]at h;cases h;obtain⟨i,l,o⟩:=QZ hs;refine⟨i.map _,l.cons _ d,?_⟩;grind
  grind
def Q0{P:Program}{w:TypeId}{B:KK}(C:kH P w B=true){k:D}{z:Value}(N:VR K μ H k z){f:List (D×D)}{c:List MapEntry}(g:qi K μ H f c){i:Option Nat}(s:At B k f i):∃q,(Instr.findKey w z c).run P W=.ok q W/\match i with|none=>q=none|some i=>∃e,c[i]?=some e/\q=some (i,e.val):=by
 have Q:∀(t:TypeDesc),(∀l,t≠.struct l)->P.underlying w=some t->∀(f:List (D×D))(c:List MapEntry)(n:Nat)(i:Option Nat),qi K μ H f c->At B k f i->∃q,Instr.findNow t z c n=some q/\match i with|none=>q=none|some i=>∃e,c[i]?=some e/\q=some (n+i,e.val):=by intro t S o f;induction f with
 |nil=>
 intro c n i g s;have:c=[]:=by have:=g.1;simpa using this.symm
 subst this;cases s with|no=>exact⟨none,rfl,rfl⟩|yes i _ _ hi=>simp at hi
 |cons e f E=>intro c n i g s;cases c with|nil=>have:=g.1;simp at this|cons m c=>
  obtain⟨I,_⟩:=g.2 0 e.1 e.2 m rfl rfl;have F:qi K μ H f c:=⟨by have:=g.1;simpa using this,λj k v x a b=>g.2 (j+1) k v x (by simpa using a) (by simpa using b)⟩;have A:∀r,lE B k e.1=some r->Instr.sameNow t z m.key=some r:=λr hr=>by
   obtain⟨U,G,d,_⟩:=FP (W:=W) C N I hr;rw[o]at G;cases G;rcases d with⟨d,_⟩|⟨⟨l,d⟩,_⟩;·exact d
   exact(S l d).elim
  cases s with|no h=>have p:=A _ (h 0 _ rfl);obtain⟨q,d,u⟩:=E c (n+1) none F (.no λj x y=>h (j+1) x (by simpa using y));exact⟨q,by simp[Instr.findNow,p,d],u⟩|yes i J v hi d h=>cases i with|zero=>cases hi;have p:=A _ d;exact⟨some (n,m.val),by simp[Instr.findNow,p],m,rfl,rfl⟩|succ i=>have p:=A _ (h 0 _ (by omega) rfl);obtain⟨q,g1,x,L,M⟩:=E c (n+1) (some i) F (.yes i J v (by simpa using hi) d λj x V y=>h (j+1) x (by omega) (by simpa using y));exact⟨q,by simp[Instr.findNow,p,g1],x,by simpa using L,by rw[M];congr 2;omega⟩
 have ask:∀l,P.underlying w=some (.struct l)->∀(f:List (D×D))(c:List MapEntry)(n:Nat)(i:Option Nat),qi K μ H f c->At B k f i->∃q,(Instr.findAsking w z c n).run P W=.ok q W/\match i with|none=>q=none|some i=>∃e,c[i]?=some e/\q=some (n+i,e.val):=by intro l o f;induction f with
 |nil=>
 intro c n i g s;have:c=[]:=by have:=g.1;simpa using this.symm
 subst this;cases s with|no=>exact⟨none,by simp[Instr.findAsking],rfl⟩|yes i _ _ hi=>simp at hi
 |cons e f E=>intro c n i g s;cases c with|nil=>have:=g.1;simp at this|cons m c=>
  obtain⟨I,_⟩:=g.2 0 e.1 e.2 m rfl rfl;have F:qi K μ H f c:=⟨by have:=g.1;simpa using this,λj k v x a b=>g.2 (j+1) k v x (by simpa using a) (by simpa using b)⟩;have A:∀r,lE B k e.1=some r->(Op.equal w z m.key).run P W=.ok r W:=λr hr=>by
   obtain⟨U,G,d,_⟩:=FP (W:=W) C N I hr;rw[o]at G;cases G;rcases d with⟨_,d⟩|⟨_,d⟩;·exact(d l rfl).elim
   exact d
  cases s with|no h=>have p:=A _ (h 0 _ rfl);obtain⟨q,d,u⟩:=E c (n+1) none F (.no λj x y=>h (j+1) x (by simpa using y));exact⟨q,by simp[Instr.findAsking,p,d],u⟩|yes i J v hi d h=>cases i with|zero=>cases hi;have p:=A _ d;exact⟨some (n,m.val),by simp[Instr.findAsking,p],m,rfl,rfl⟩|succ i=>have p:=A _ (h 0 _ (by omega) rfl);obtain⟨q,g1,x,L,M⟩:=E c (n+1) (some i) F (.yes i J v (by simpa using hi) d λj x V y=>h (j+1) x (by omega) (by simpa using y));exact⟨q,by simp[Instr.findAsking,p,g1],x,by simpa using L,by rw[M];congr 2;omega⟩
 have X:(∃t,P.underlying w=some t/\∀l,t≠.struct l)\/∃l,P.underlying w=some (.struct l):=by unfold kH at C;split at C;all_goals first|(cases C;done)|(rename_i o;exact .inr ⟨_,o⟩)|(rename_i o;exact .inl ⟨_,o,by simp⟩)
 rcases X with⟨t,o,Y⟩|⟨l,o⟩;·obtain⟨q,d,u⟩:=Q t Y o f c 0 i g s;refine⟨q,MapKept.run_findKey o d,?_⟩;cases i with|none=>exact u|some i=>simpa using u
 obtain⟨q,d,u⟩:=ask l o f c 0 i g s;refine⟨q,by rw[run_findKey_eq W (by rw[o]) z c];exact d,?_⟩;cases i with|none=>exact u|some i=>simpa using u
end
end
section
section
variable{c:CX}{E:En}{L:Nat->Option Nat}{K:Kn}{μ:Mu}{sl:List D}{H:ab}{a:Act}{W:World}{o:Oper}
def Q1{P:Program}{a:TypeId}{g:KK}(c:kH P a g=true){k:D}{v:Value}(d:jc g k=true)(h:VR K μ H k v)(e:Bool):(Instr.checkKey e 10000 a v).run P W=.ok () W:=by
 have p:∀b,P.underlying a=some b->(b=.bool\/(∃k,b=.int k)\/b=.string)->(Instr.checkKey e 10000 a v).run P W=.ok () W:=λb f i=>by unfold Instr.checkKey;simp only[Sem.run_bind,run_underlying f,Result.andThen_ok];rcases i with rfl|⟨k,rfl⟩|rfl<;>simp
 unfold kH at c;split at c;·grind
 ·grind
 ·grind
 ·rename_i j q f;simp[X0]at c;unfold jc at d;split at d;·grind
  rename_i r l;cases l;split at d;·rename_i s;obtain⟨vs,m,n⟩:=h.ag_inv;obtain⟨o,_⟩:=FO d;subst m;exact aeM e 8 a j c 9992 vs _ (.struct f _) (by rw[<-o,n.1.1])
  grind
 grind
def aeN(fs:FS E c.tm c.bs K μ L sl H a.tmps W){t:TypeId}(b:o.op=.makeMap t none):au c E L o a K μ H W (.mp H.length) ⟨sl,H++[.mp []]⟩:=by obtain⟨d,f⟩:=fs.hr.push _ ⟨W.heap.size,0,0⟩ (.mp []) rfl ⟨#[],0,⟨λe g=>by grind,by simp⟩,heap_alloc_new W _,rfl,λj k v e x=>by grind⟩;exact au.go fs (by simp[execOp,b,Instr.makeMap]) d f (.mp _ _ _ ⟨W.heap.size,0,0⟩ [] (by simp[Mu.upd]) (by simp))
def FQ(hr:HR K μ H W){m:D}{v:Value}{c:List (D×D)}(h:pP H m=some c)(d:VR K μ H m v){P:Program}:∃a:Array MapEntry,qi K μ H c a.toList/\((v=.map none/\a=#[])\/∃r b,v=.map (some r)/\(getObj r).run P W=.ok (.map a b) W):=by
 unfold pP at h;split at h;·cases h;cases d;exact⟨#[],⟨rfl,λj k v e x=>by grind⟩,.inl ⟨rfl,rfl⟩⟩
 ·split at h;·rename_i o f;cases h;cases d with|mp _ _ _ l _ g p=>obtain⟨a,b,_,i,q,n⟩:=hr.blk _ l _ g f;exact⟨a,⟨by omega,λj k v e x y=>n j k v e x (by grind)⟩,.inr ⟨l.blk,b,rfl,MapKept.run_getObj_map i⟩⟩
  grind
 grind
def aeO(fs:FS E c.tm c.bs K μ L sl H a.tmps W){t x A:TypeId}{B:KK}{y z:Operand}{m k d zero:D}{f:Bool}(l:o.op=.lookup t y z f)(n:c.P.underlying t=some (.map x A))(C:kH c.P x B=true)(M:(match c.P.info? A with|some N=>(match N.zero with|some p=>py zero p|none=>false)|none=>false)=true)(Q:VR K μ H m (a.eval y))(F:VR K μ H k (a.eval z))(h:mY H B m k f zero=some d):au c E L o a K μ H W d ⟨sl,H⟩:=by
 unfold mY at h;split at h
 ·rename_i S;split at h
  ·rename_i es U;split at h
   ·rename_i r hr;obtain⟨p,G,ag⟩:=QQ M;obtain⟨V,I,X⟩:=FQ (P:=c.P) fs.hr U Q;obtain⟨i,Y,hi⟩:=QY hr;obtain⟨q,s,Z⟩:=Q0 (W:=W) C F I Y;have w:=Q1 (W:=W) C S F V.isEmpty;obtain⟨u,aa,ab⟩:∃u,((∃j,q=some (j,u)/\r.isSome=true)\/(q=none/\u=p/\r.isSome=false))/\VR K μ H (r.getD zero) u:=by cases i with|none=>grind|some i=>obtain⟨e,g1,rfl⟩:=Z;obtain⟨k',v,g2,rfl⟩:=hi;exact⟨e.val,.inl ⟨i,rfl,rfl⟩,(I.2 i k' v e g2 g1).2⟩
    have ae:(execOp a.eval o).run c.P W=.ok (.value (if f then .tuple #[u,.bool r.isSome]else u)) W:=by
     rcases X with⟨g,rfl⟩|⟨b,ah,g,J⟩<;>rcases aa with⟨j,rfl,hs⟩|⟨rfl,rfl,hs⟩;·grind
     ·simp only[execOp,l,Instr.lookup,Sem.run_bind,run_underlying n,Result.andThen_ok,g,Sem.run_pure,w,s,hs,G]
     ·simp[execOp,l,Instr.lookup,Sem.run_bind,run_underlying n,Result.andThen_ok,g,Sem.run_pure,J,w,s,hs]
     simp[execOp,l,Instr.lookup,Sem.run_bind,run_underlying n,Result.andThen_ok,g,Sem.run_pure,J,w,s,hs,G]
    cases f with|true=>cases h;exact au.val fs ae (VR.pair ab (.b ..))|false=>grind[au.val]
   grind
  grind
 grind
def vh(hr:HR K μ H W){id:Nat}{a es':List (D×D)}{l:bI}(b:μ id=some l)(g:H[id]?=some (.mp a)){h mes':Array MapEntry}{i clock':Nat}(m:W.heap[l.blk]?=some (.map h i))(n:ji mes' clock')(o:∀(c:Kn)(d:Mu)(f:ab),ba K μ H c d f->qi c d f es' mes'.toList):HR K μ (H.set id (.mp es')) {W with heap:=W.heap.setIfInBounds l.blk (.map mes' clock')}/\Nx K μ H W K μ (H.set id (.mp es')) {W with heap:=W.heap.setIfInBounds l.blk (.map mes' clock')}:=by
 have p:BE l (.mp a) l (.mp es'):=.mp ..;have q:ba K μ H K (μ.upd id l) (H.set id (.mp es')):=by
  rw[ve b];refine⟨λ_ _ _ e=>e,λj s t x y=>?_⟩;by_cases A:j=id;·grind
  exact⟨s,t,x,by grind,.refl _ _⟩
 obtain⟨g1,u⟩:=MapKept.heap_set (o':=.map mes' clock') m;obtain⟨B,w⟩:=o _ _ _ q;have:=hr.put (W':={W with heap:=W.heap.setIfInBounds l.blk _}) id l l _ _ b g rfl rfl p rfl rfl rfl (by simp) (λr _ z=>u r z) (.inl rfl) (by grind) ⟨mes',clock',n,g1,by omega,λj k v e x y=>w j k v e x (by grind)⟩;grind[ve]
def Q2(fs:FS E c.tm c.bs K μ L sl H a.tmps W){t Y et:TypeId}{Z:KK}{y z x:Operand}{m k v:D}{C:ab}(f:o.op=.mapUpdate t y z x\/o.op=.insert t y z x)(ht:c.P.underlying t=some (.map Y et))(N:kH c.P Y Z=true)(hm:VR K μ H m (a.eval y))(F:VR K μ H k (a.eval z))(ad:VR K μ H v (a.eval x))(h:oe H Z m k v=some C):au c E L o a K μ H W .u ⟨sl,C⟩:=by
 unfold oe at h;split at h
 ·rename_i ae;split at h
  ·rename_i m;split at h
   ·rename_i G Q;split at h;·rename_i a5 aq;cases h;generalize hy:a.eval y=vm at hm;cases hm with|mp _ _ _ l _ S a7=>
     obtain⟨g,p,ag,r,h2,h3⟩:=fs.hr.blk _ l _ S Q;have I:qi K μ H G g.toList:=⟨by omega,λj k v e x y=>h3 j k v e x (by grind)⟩;obtain⟨i,ah,hi⟩:=QZ aq;obtain⟨q,ai,aj⟩:=Q0 (W:=W) N F I ah;have ak:=Q1 (W:=W) N ae F false;have al:∀s,VR s aK [] k _:=λ_=>aeL ae F _ _ _;have hg:=MapKept.run_getObj_map (P:=c.P) r
     cases i with|none=>subst aj;subst hi;obtain⟨U,V⟩:=vh fs.hr (es':=G++[(k,v)]) (mes':=g.push {key:=a.eval z,val:=a.eval x,born:=p}) S Q r (ag.push rfl) (λs aw C e=>by
     refine⟨by grind,λj w A J d b=>?_⟩;rcases lu j G.length with n|n
     ·rw[dw n]at d;have ax:g.toList[j]?=some J:=by grind
      obtain⟨B,M⟩:=I.2 j w A J d ax;exact⟨B.ext (ba.zero e.k),M.ext e⟩
     rw[gx n]at d;have az:=by have:=ay d;simp at this;omega
     simp[ABx]at b;rw[gx (by simp;omega)]at b;have a0:j-g.toList.length=0:=by simp;omega
     rw[az]at d;rw[a0]at b;cases d;cases b;exact⟨al s,ad.ext e⟩);refine au.skip fs ?_ U V;have hs:=MapKept.run_setObj_map (P:=c.P) (.map (g.push {key:=a.eval z,val:=a.eval x,born:=p}) (p+1)) r;rcases f with f|f<;>simp[execOp,f,Instr.mapUpdate,run_underlying ht,hy,hg,ak,ai,hs]|some i=>obtain⟨X,g1,rfl⟩:=aj;simp at hi;subst hi;cases ah with|yes _ w A an a1 a8=>
     obtain⟨B,M⟩:=I.2 i w A X an g1;have a2:Instr.sameBits 10000 X.key (a.eval z)=true:=by obtain⟨_,_,_,hs⟩:=FP (W:=W) N F B a1;exact hs rfl
     obtain⟨U,V⟩:=vh fs.hr (es':=G.set i (k,v)) (mes':=g.modify i λe=>{e with key:=a.eval z,val:=a.eval x}) (clock':=p) S Q r (ag.modify λ_=>rfl) (λs aw C e=>by
 refine⟨by simp[h2],λj w A J d b=>?_⟩;rw[ABR,ABS]at b;by_cases n:i=j;·subst n;rw[E4 rfl]at b;rw[K2 (ay an)]at d;cases d;cases ao:g[i]? with|none=>rw[ao]at b;cases b|some e1=>rw[ao]at b;cases b;exact⟨al s,ad.ext e⟩
 rw[E1 n]at b;rw[K0 n]at d;obtain⟨B,M⟩:=I.2 j w A J d (by simpa using b);exact⟨B.ext (ba.zero e.k),M.ext e⟩);refine au.skip fs ?_ U V;have a3:=by simpa using g1
     have hs:=MapKept.run_setObj_map (P:=c.P) (.map (g.modify i λe=>{e with key:=a.eval z,val:=a.eval x}) p) r;have a4:(Instr.keyThatStays X.key (a.eval z)).run c.P W=.ok (a.eval z) W:=by simp[Instr.keyThatStays,a2]
     rcases f with f|f<;>simp[execOp,f,Instr.mapUpdate,run_underlying ht,hy,hg,ak,ai,a3,a4,hs]
    grind
   grind
  grind
 grind
end
end
section
section
variable{c:CX}{E:En}{L:Nat->Option Nat}{K:Kn}{μ:Mu}{sl:List D}{H:ab}{a:Act}{W:World}{o:Oper}{loc:List D}{done:Nat->Prop}
def aj.calls:aj->Bool|.call ..|.calv ..|.calvx ..|.inv ..|.pan ..|.cpl ..|.calx ..|.gia ..|.callp ..=>true|_=>false
def qn{a b:St}{x:Option D}{d:D}(h:aE a x=.v d b):x=some d/\b=a:=by cases x with|none=>cases h|some y=>cases h<;>grind
def qp{b a:St}{x:Option (D×ab)}{d:D}(h:gO b x=.v d a):x=some (d,a.hp)/\a=⟨b.sl,a.hp⟩:=by cases x with|none=>cases h|some y=>cases h<;>grind
def Bf{b a:St}{x:Option ab}{d:D}(h:iO b x=.v d a):x=some a.hp/\d=.u/\a=⟨b.sl,a.hp⟩:=by cases x with|none=>cases h|some y=>cases h<;>grind
def afp(fs:FS E c.tm c.bs K μ L sl H a.tmps W)(lr:iT c done L K μ H loc a.tmps){i:Nat}{x:Option O}{y:Option Operand}(h:pG c i x y=true)(b:∀j∈x.toList.flatMap O.locs,done j):m7 K μ H a (x.map (O.ev loc sl)) y:=by cases x<;>cases y<;>simp[pG]at h<;>first|trivial|exact iU fs lr h (λj d=>b j (by grind))
def xV{P:Program}{t e:Nat}(h:rI P t=some e):P.underlying t=some (.slice e):=by grind[rI]
def Bg{P:Program}{t n e:Nat}(h:rJ P t=some (n,e)):P.underlying t=some (.array n e):=by grind[rJ]
def F8(fs:FS E c.tm c.bs K μ L sl H a.tmps W)(lr:iT c done L K μ H loc a.tmps){i:Nat}:∀{b:List (Nat×O)}{d:List (Nat×Operand)},rM c i b d=true->(∀j∈(b.map λp=>p.2).flatMap O.locs,done j)->b.length=d.length/\∀(j:Nat)(x:Nat×D)(y:Nat×Operand),(b.map λ(k,x)=>(k,x.ev loc sl))[j]?=some x->d[j]?=some y->x.1=y.1/\VR K μ H x.2 (a.eval y.2)|[],[],_,_=>⟨rfl,λj x y e=>by grind⟩|[],_::_,h,_=>by grind[rM]|_::_,[],h,_=>by grind[rM]|(k,x)::b,(l,y)::d,h,f=>by simp[rM,D0,X0]at h;have m:=iU fs lr h.1.2 (λj g=>f j (by grind));obtain⟨n,o⟩:=F8 fs lr h.2 (λj g=>f j (by grind));grind
def F9(fs:FS E c.tm c.bs K μ L sl H a.tmps W)(lr:iT c done L K μ H loc a.tmps){i:Nat}{place:Nat->Option (Nat×Nat)}:∀{b:List (Nat×Nat×O)}{d:List (Nat×Operand)},rL c i place b d=true->(∀j∈(b.map λp=>p.2.2).flatMap O.locs,done j)->b.length=d.length/\∀(j:Nat)(x:Nat×Nat×D)(y:Nat×Operand),(b.map λ(f,n,x)=>(f,n,x.ev loc sl))[j]?=some x->d[j]?=some y->place y.1=some (x.1,x.2.1)/\VR K μ H x.2.2 (a.eval y.2)|[],[],_,_=>⟨rfl,λj x y e=>by grind⟩|[],_::_,h,_=>by grind[rL]|_::_,[],h,_=>by grind[rL]|(f,n,x)::b,(l,y)::d,h,g=>by simp[rL,D0,X0]at h;have m:=iU fs lr h.1.2 (λj k=>g j (by grind));obtain⟨o,q⟩:=F9 fs lr h.2 (λj k=>g j (by grind));grind
def Rs{i:Nat}{x:O}{y:Operand}(h:Ay x=true)(a:aX c i x y=true):ss y=true:=by unfold Ay at h;split at h;all_goals first|(cases h;done)|(unfold aX at a;split at a<;>first|rfl|(rename_i b;cases b;done)|simp_all)
def afq(fs:FS E c.tm c.bs K μ L sl H a.tmps W)(lr:iT c done L K μ H loc a.tmps){i:Nat}{s:aq}(b:jC c i o s=true)(t:∀j∈s.op.args.flatMap O.locs++s.op.base.flatMap AB.locs,done j)(F:s.op.calls=false)(hb:s.op.isBox=false)(ha:s.op.isAddr=false){cl:FuncId->List D->ab->CR}{d:D}{al:St}(h:step c.V cl loc ⟨sl,H⟩ s.op=.v d al):au c E L o a K μ H W d al:=by
 obtain⟨G,keep,guard⟩:=s;simp only at t F hb ha h;have q:∀{x:O}{y:Operand},aX c i x y=true->(_:x∈G.args:=by simp[aj.args])->VR K μ H (x.ev loc sl) (a.eval y):=λB P=>iU fs lr B (λj p=>t j (T4 _ (AAM.2 ⟨_,P,p⟩)));have Q:∀{S:List O}{ys:List Operand},gk c i S ys=true->(_:∀x∈S,x∈G.args:=by simp+contextual[aj.args])->bf K μ H (S.map (O.ev loc sl)) (ys.map a.eval):=λB P=>xK fs lr B λj p=>t j (by grind);have u:∀{x:Option O}{y:Option Operand},pG c i x y=true->(_:∀z∈x.toList,z∈G.args:=by simp+contextual[aj.args])->m7 K μ H a (x.map (O.ev loc sl)) y:=λB P=>afp fs lr B λj p=>t j (by grind);have qa:∀{x:AB}{y:Operand}{k q:Nat},pz c i x y=true->x∈G.base->x.ev loc sl=some (k,q)->∃r,L k=some r/\a.eval y=.pointer (some ⟨r,q,none⟩):=λB P he=>by grind[Qr]
 cases G<;>first|cases hb;done|cases ha;done|cases F;done|simp only[jC,step]at b h
 all_goals try cases h;done
 all_goals split at b<;>first|grind|try simp only[D0,X0,Hq]at b
 all_goals rename_i f
 all_goals repeat split at h<;>try(cases h;done)
 all_goals first|replace h:=qn h;obtain⟨h,rfl⟩:=h|replace h:=qp h;obtain⟨h,I⟩:=h;rw[I];clear I|replace h:=Bf h;obtain⟨h,rfl,I⟩:=h;rw[I];clear I|cases h|skip
 all_goals try(rcases b with⟨b,l⟩;split at l<;>try(cases l;done))
 all_goals try simp only[D0,X0,Hq]at l
 all_goals try(split at b<;>try grind)
 all_goals try(rename_i e;cases e;done)
 ·exact Qs fs (.inl f) (q b)
 ·exact Qs fs (.inr f) (q b)
 ·have m:=q b.1.1;unfold uQ at h;split at h<;>cases h<;>rename_i U<;>rw[U]at m<;>exact adU fs f m (q b.1.2) (q b.2)
 ·obtain⟨b,rfl⟩:=b;obtain⟨vs,_,F,ao⟩:=FA (a:=a) b f W;grind[Qu]
 ·obtain⟨b,rfl⟩:=b;obtain⟨cs,U,V⟩:=l3.1 h;simp only[wx]at V;rw[<-V.1,<-V.2];exact Qu fs (Qv f W) (sk U (q b.1)).1
 ·simp only[D0,X0,TB]at b;obtain⟨vs,_,F,ao⟩:=FA (a:=a) b.2 f W;exact adV fs (λi r e=>b.1.2 r (nG e)) ao (F _ _ _)
 ·grind[aj.base,adX]
 ·obtain⟨r,m,n⟩:=qa b.1.1 (by simp[aj.base]) ‹_›;exact adY fs f b.2 m n ‹_› (q b.1.2) ‹_› ‹_›
 ·exact adZ fs f b.2 (q b.1) h
 ·exact ad3 fs f (xV ‹_›) l (q b.1) (q b.2) h
 ·obtain⟨rfl,l⟩:=l;exact ad2 fs f (Bg ‹_›) l (q b.1) (q b.2) h
 ·exact Qz fs f b.1.2 b.2 (q b.1.1) ‹_› h
 ·exact Qz fs f b.1.2 b.2 (q b.1.1) (P1 ‹_›).1 h
 ·exact ad7 fs f b.2 (q b.1.1) (q b.1.2) ‹_› h
 ·obtain⟨⟨rfl,m⟩,n⟩:=b;exact aex fs f (q m) (q n) h
 iterate 2 simp only[Bool.or_eq_true]at l;obtain⟨⟨⟨w,m⟩,n⟩,J⟩:=b;exact QW fs f (by exact w) J (λ_=>l.imp (λg=>Rs g m) λg=>Rs g n) (q m) (q n) h
 iterate 2 obtain⟨⟨⟨w,m⟩,n⟩,J⟩:=b;exact QW fs f (by exact w) J (λe=>(‹¬_› e).elim) (q m) (q n) h
 ·obtain⟨rfl,m⟩:=b;exact aey fs f (q m) h
 ·subst l;exact ael fs f ‹_› (AAh.1 b.2) (q b.1) h
 ·obtain⟨cs,X,rfl⟩:=l3.1 h;obtain⟨g1,M⟩:=F9 fs lr l.2 λj p=>t j (T4 _ p);exact QS fs f b (.inl ⟨_,‹_›,TB.1 l.1,rfl⟩) (by simpa using g1) (λj x y e A=>M j x y e (by simpa using A)) X
 ·obtain⟨cs,X,rfl⟩:=l3.1 h;split at l<;>try(cases l;done)
  obtain⟨g1,M⟩:=F9 fs lr l λj p=>t j (T4 _ p);exact QS fs f b (.inr ⟨_,_,_,‹_›,‹_›,rfl⟩) (by simpa using g1) (λj x y e A=>M j x y e (by simpa using A)) X
 ·obtain⟨⟨rfl,w⟩,m⟩:=b;obtain⟨Y,Z⟩:=F8 fs lr l.2 λj p=>t j (T4 _ p);exact aek fs f (xV ‹_›) l.1.1.1 l.1.1.2 l.1.2 m (by simpa using Y) (λj x y e A=>Z j x y e (by simpa using A)) (λe=>by subst e;simpa using w) h
 ·obtain⟨⟨rfl,w⟩,m⟩:=b;obtain⟨Y,Z⟩:=F8 fs lr l.2 λj p=>t j (T4 _ p);exact aej fs f (xV ‹_›) l.1.1.1 l.1.1.2 l.1.2 m (by simpa using Y) (λj x y e A=>Z j x y e (by simpa using A)) (λe=>by subst e;simpa using w) h
 ·rw[D0]at b;exact aeu fs f ‹_› ‹_› b.2 (q b.1) h
 ·rename_i aa ac;rw[D0]at b;obtain⟨b,l⟩:=b;split at l<;>try(cases l;done)
  rename_i e he;simp only[D0,Hq]at l;obtain⟨⟨⟨⟨g1,M⟩,g3⟩,C⟩,N⟩:=l;split at C<;>try(cases C;done)
  rename_i ar hi;split at C<;>try(cases C;done)
  rename_i z hz;have ht:qf c.P _ e _ _ z:=⟨xV he,⟨ar,hi,by simpa[bu,hi]using g1,by simpa[xo,hi]using M,hz⟩,by simpa using C,g3⟩;split at N<;>try simp only[D0]at N
  ·exact FF fs f aa ac ht (q b) (QJ fs (.inl ⟨_,‹_›⟩) (q N.1)) h
  ·exact FF fs f aa ac ht (q b) (QJ fs (.inr ‹_›) (q N.1)) h
  ·exact FF fs f aa ac ht (q b) (aeg N rfl ⟨_,‹_›⟩ ⟨ar,hi,by simpa[bu,hi]using g1,hz⟩ (by simpa using C)) h
  grind
 ·exact aeh fs f (xV ‹_›) l.1.1.2 l.1.2 l.1.1.1 l.2 (q b.1) (q b.2) h
 ·exact aeA fs f ‹_› (q b.1.1.1) (u b.1.1.2) (u b.1.2) (u b.2) h
 ·exact aeB fs f ‹_› l (q b.1.1.1) (u b.1.1.2) (u b.1.2) (u b.2) h
 ·obtain⟨rfl,h5⟩:=l;exact aeC fs f (Bg ‹_›) h5 (q b.1.1) (u b.1.2) (u b.2) h
 ·exact aen fs f ‹_› (q b.1) (q b.2) h
 ·obtain⟨m,rfl⟩:=b;exact aem fs f (q m) h
 ·obtain⟨⟨rfl,m⟩,n⟩:=b;exact aep fs f (Q m) (Q n)
 ·exact aeN fs f
 ·obtain⟨⟨m,n⟩,rfl⟩:=b;exact aeO fs f ‹_› l.1 l.2 (q m) (q n) h
 ·exact Q2 fs (.inl f) ‹_› l (q b.1.1) (q b.1.2) (q b.2) h
 ·exact Q2 fs (.inr f) ‹_› l (q b.1.1) (q b.1.2) (q b.2) h
 ·rename_i af hu;obtain⟨rfl,m⟩:=b;exact aeq fs f ⟨_,hu,λms e=>af ms e⟩ (q m)
 ·rename_i af hu;obtain⟨⟨m,rfl⟩,rfl⟩:=b;exact aeD fs f ⟨_,hu,λms e=>af ms e⟩ l (q m) h
 ·exact aer fs f (q b) h
 ·exact aes fs f (Q b) h
 ·exact aet fs f (Q b) h
 obtain⟨⟨rfl,J⟩,h5⟩:=l;exact aeo fs f (Bg ‹_›) J h5 (q b.1) (q b.2) h
end
end
section
section
variable{c:CX}{E:En}{nd:List Deferred}{L:Nat->Option Nat}{K:Kn}{μ:Mu}{sl:List D}{H:ab}{a:Act}{W:World}{o:Oper}{loc:List D}{done:Nat->Prop}
structure gU(c:CX):Prop where
 sz:c.ops.size=c.vos.length
 rtl:c.rt.length=c.vos.length
 op:∀(i:Nat)(o:Oper)(vo:aq),c.ops[i]?=some o->c.vos[i]?=some vo->uJ c i o vo=true/\c.rt[i]?=some (r6 c.rt vo)fresh:∀(i j:Nat)(o o':Oper)(t:Nat),c.ops[i]?=some o->c.ops[j]?=some o'->o.dst=some t->o'.dst=some t->c.tm.contains t=false->i=j
 nodup:∀(k k' t:Nat),c.tm[k]?=some t->c.tm[k']?=some t->k=k'
 tmlt:∀(k t:Nat),c.tm[k]?=some t->t<c.nt
structure RI(c:CX)(E:En)(nd:List Deferred)(done:Nat->Prop)(L:Nat->Option Nat)(K:Kn)(μ:Mu)(loc sl:List D)(H:ab)(a:Act)(W:World):Prop where
 fs:FS E c.tm c.bs K μ L sl H a.tmps W
 lr:iT c done L K μ H loc a.tmps
 sz:a.tmps.size=c.nt
 df:a.defers=nd
 ln:loc.length=c.vos.length
def xR{tmps:Array Value}{t:Nat}{v:Value}(h:t<tmps.size):(tmps.setIfInBounds t v)[t]?=some v:=by simp[h]
variable{y z:Nat}
def oB{tmps:Array Value}{t:Nat}{v u:Value}(a:tmps[y]?=some u)(h:t=y->False):(tmps.setIfInBounds t v)[y]?=some u:=by grind
variable{b d:List Nat}
def FS.tmp{c:List Nat}{tmps:Array Value}(h:FS E b c K μ L sl H tmps W){t:Nat}(v:Value)(f:∀k:Nat,b[k]?≠some t):FS E b c K μ L sl H (tmps.setIfInBounds t v) W where
 hr:=h.hr;nx:=h.nx;len:=h.len;val:=λk a x y=>by obtain⟨d,u,g,i,j⟩:=h.val k a x y;grind
 box:=λk a x y=>by rcases h.box k a x y with e|⟨r,l,vs,m,n,o,p,q,s⟩<;>grind
 own:=h.own;inj:=h.inj
theorem A8{t:Nat}(h:b.contains t=false)(k:Nat):b[k]?≠some t:=by grind
def RI.local(rg:gU c)(b:RI c E nd done L K μ loc sl H a W){i t:Nat}{n:aq}{d:D}{v:Value}(p:c.ops[i]?=some o)(w:c.vos[i]?=some n)(f:o.dst=some t)(q:c.tm.contains t=false)(I:t<c.nt)(y:match n.op.isAddr with|true=>(d=.u/\v=undef)\/∃k s r,d=.lp k s/\c.rt[i]?=some (some k)/\L k=some r/\v=.pointer (some ⟨r,s,none⟩)|false=>VR K μ H d v):RI c E nd (λj=>j=i\/done j) L K μ (loc.set i d) sl H (a.put o.dst v) W where
 fs:=by rw[f];exact b.fs.tmp v (A8 q)
 lr:=λj o' z A B g l h C=>by
  have hi:i<loc.length:=by rw[b.ln];grind
  rw[f];by_cases m:j=i;·subst m;rw[p]at g;rw[w]at l;cases g;cases l;rw[f]at h;cases h;exact⟨d,v,K2 hi,xR (by rw[b.sz];omega),y⟩
  obtain⟨x,u,J,F,G⟩:=b.lr j o' z A (B.resolve_left m) g l h C;refine⟨x,u,by grind,?_,G⟩;exact oB F (λe=>m (rg.fresh j i o' o t g p (e▸h) f q))
 sz:=by rw[f];simpa[Act.put]using b.sz
 df:=by rw[f];exact b.df
 ln:=by simpa using b.ln
def RI.nothing(b:RI c E nd done L K μ loc sl H a W){i:Nat}{d:D}{v:Value}(s:c.ops[i]?=some o)(e:o.dst=none):RI c E nd (λj=>j=i\/done j) L K μ (loc.set i d) sl H (a.put o.dst v) W where
 fs:=by rw[e];exact b.fs
 lr:=λj o' f g h k l m n=>by
  rw[e];by_cases p:j=i;·grind
  obtain⟨x,u,t,q,r⟩:=b.lr j o' f g (h.resolve_left p) k l m n;exact⟨x,u,by grind,q,r⟩
 sz:=by rw[e];exact b.sz
 df:=by rw[e];exact b.df
 ln:=by simpa using b.ln
def iT.slot(rg:gU c)(lr:iT c done L K μ H loc a.tmps){i k t:Nat}{b:aq}{d:D}{v:Value}(s:c.vos[i]?=some b)(w:b.keep=some k)(y:c.tm[k]?=some t):iT c (λj=>j=i\/done j) L K μ H (loc.set i d) (a.tmps.setIfInBounds t v):=λj o' f l m g h n o=>by
 by_cases p:j=i;·grind
 obtain⟨x,u,z,q,r⟩:=lr j o' f l (m.resolve_left p) g h n o;refine⟨x,u,by grind,?_,r⟩;refine oB q (λe=>?_);have:=(rg.op j o' f g h).1;grind[uJ,A8]
def RI.slot(rg:gU c)(b:RI c E nd done L K μ loc sl H a W){i k t:Nat}{n:aq}{d:D}{v:Value}(p:c.vos[i]?=some n)(h:o.dst=some t)(q:n.keep=some k)(g:c.tm[k]?=some t)(N:c.bs.contains k=false)(s:VR K μ H d v):RI c E nd (λj=>j=i\/done j) L K μ (loc.set i d) (sl.set k d) H (a.put o.dst v) W where
 fs:=by
  rw[h];have w:k<sl.length:=by rw[b.fs.len];grind
  refine⟨b.fs.hr,b.fs.nx,by simpa using b.fs.len,λf m x y=>?_,λf m x y=>?_,b.fs.own,b.fs.inj⟩
  ·by_cases l:k=f;·subst l;rw[g]at x;cases x;exact⟨d,v,K2 w,xR (by rw[b.sz];exact rg.tmlt k t g),s⟩
   obtain⟨z,u,P,A,B⟩:=b.fs.val f m x y;refine⟨z,u,by grind,?_,B⟩;exact oB A (λe=>l (rg.nodup k f t g (e▸x)))
  have l:k≠f:=λe=>by grind
  rcases b.fs.box f m x y with e|⟨r,C,vs,F,G,Q,I,J,M⟩;·grind
  refine .inr ⟨r,C,vs,F,G,by grind,?_,J,M⟩;exact oB I (λe=>l (rg.nodup k f t g (e▸x)))
 lr:=by rw[h];exact b.lr.slot rg p q g
 sz:=by rw[h];simpa[Act.put]using b.sz
 df:=by rw[h];exact b.df
 ln:=by simpa using b.ln
def RI.unboxed(rg:gU c)(b:RI c E nd done L K μ loc sl H a W){i k t:Nat}{m:aq}{v:Value}(n:c.vos[i]?=some m)(f:o.dst=some t)(p:m.keep=some k)(g:c.tm[k]?=some t)(I:c.bs.contains k=true):RI c E nd (λj=>j=i\/done j) L K μ (loc.set i .u) (sl.set k .u) H (a.put o.dst v) W where
 fs:=by
  rw[f];have J:k<sl.length:=by rw[b.fs.len];grind
  refine⟨b.fs.hr,b.fs.nx,by simpa using b.fs.len,λd h x y=>?_,λd h x y=>?_,b.fs.own,b.fs.inj⟩
  ·have l:k≠d:=λe=>by grind
   obtain⟨q,u,M,s,w⟩:=b.fs.val d h x y;refine⟨q,u,by grind,?_,w⟩;exact oB s (λe=>l (rg.nodup k d t g (e▸x)))
  by_cases l:k=d;·grind
  rcases b.fs.box d h x y with e|⟨r,z,vs,A,B,N,C,F,G⟩;·grind
  refine .inr ⟨r,z,vs,A,B,by grind,?_,F,G⟩;exact oB C (λe=>l (rg.nodup k d t g (e▸x)))
 lr:=by rw[f];exact b.lr.slot rg n p g
 sz:=by rw[f];simpa[Act.put]using b.sz
 df:=by rw[f];exact b.df
 ln:=by simpa using b.ln
def RI.boxed(rg:gU c)(b:RI c E nd done L K μ loc sl H a W){A:World}{i k t:Nat}{F:aq}{p:List D}{vs:Array Value}{G:Nat}(I:c.vos[i]?=some F)(w:o.dst=some t)(J:F.keep=some k)(q:c.tm[k]?=some t)(hb:c.bs.contains k=true)(M:∀(f g:Nat),L f=some g->g<A.heap.size)(h0:A.heap.size<=z)(hE:E.w.heap.size<=A.heap.size)(U:z<W.heap.size)(V:W.heap[z]?=some (.cells vs G (0,0)))(X:CRs K μ H p vs.toList)(Y:¬cd μ H z)(Z:∀o u,K z o≠some u)(aa:∀j,done j->c.rt[j]?≠some (some k)):RI c E nd (λj=>j=i\/done j) (λj=>if j=k then some z else L j) K μ (loc.set i (.bx p)) (sl.set k (.bx p)) H (a.put o.dst (.pointer (some ⟨z,0,none⟩))) W where
 fs:=by
  rw[w];have hk:k<sl.length:=by rw[b.fs.len];grind
  refine⟨b.fs.hr,b.fs.nx,by simpa using b.fs.len,λf r x y=>?_,λf r x y=>?_,λf g e=>?_,λl N g m h=>?_⟩
  ·have n:k≠f:=λe=>by grind
   obtain⟨d',u,m,h,s⟩:=b.fs.val f r x y;refine⟨d',u,by grind,?_,s⟩;exact oB h (λe=>n (rg.nodup k f t q (e▸x)))
  ·by_cases n:k=f;·subst n;rw[q]at x;cases x;exact .inr ⟨z,p,vs,G,E4 rfl,K2 hk,xR (by rw[b.sz];exact rg.tmlt k t q),V,X⟩
   rcases b.fs.box f r x y with e|⟨g,ad,ae,af,h1,h2,h3,h4,h5⟩;·exact .inl (by rw[K0 n];exact e)
   refine .inr ⟨g,ad,ae,af,by rw[E1 (AAX n)];exact h1,by rw[K0 n];exact h2,?_,h4,h5⟩;exact oB h3 (λe=>n (rg.nodup k f t q (e▸x)))
  ·split at e;·cases e;exact⟨Y,Z,by omega,U⟩
   exact b.fs.own f g e
  split at m<;>split at h;·omega
  ·cases m;have:=M N _ h;omega
  ·cases h;have:=M l _ m;omega
  exact b.fs.inj l N g m h
 lr:=by rw[w];intro j o' P r Q al B am C;obtain⟨x,u,m,h,s⟩:=b.lr.slot rg (d:=.bx p) (v:=.pointer (some ⟨z,0,none⟩)) I J q j o' P r Q al B am C;refine⟨x,u,m,h,?_⟩;revert s;cases P.op.isAddr with|false=>exact id|true=>
  rintro(s|⟨l,an,r1,g1,S,g3,g4⟩);·exact .inl s
  refine .inr ⟨l,an,r1,g1,S,?_,g4⟩;have ar:j≠i:=λe=>by subst e;rw[I]at B;cases B;rw[J]at C;cases C
  have au:l≠k:=λe=>by subst e;exact aa j (Q.resolve_left ar) S
  show(if l=k then some z else L l)=some r1;rw[E1 au];exact g3
 sz:=by rw[w];simpa[Act.put]using b.sz
 df:=by rw[w];exact b.df
 ln:=by simpa using b.ln
end
end
section
section
variable{c:CX}{E:En}{nd:List Deferred}{L:Nat->Option Nat}{K:Kn}{μ:Mu}{sl:List D}{H:ab}{a:Act}{W:World}{o:Oper}{loc:List D}{done:Nat->Prop}
structure xS(c:CX)(i:Nat)(o:Oper)(vo:aq):Prop where
 op:jC c i o vo=true
 none:o.dst=none->vo.keep=none/\vo.op.isAddr=false/\vo.op.isBox=false
 slot:∀t k,o.dst=some t->vo.keep=some k->c.tm[k]?=some t/\c.bs.contains k=vo.op.isBox/\vo.op.isAddr=false
 loc:∀t,o.dst=some t->vo.keep=Option.none->c.tm.contains t=false/\vo.op.isBox=false/\t<c.nt
 keep:∀k,vo.keep=some k->∃t,o.dst=some t
 guard:(vo.guard=Option.none/\o.guard=Option.none)\/∃x b j t,vo.guard=some (x,b)/\o.guard=some (j,b)/\(c.ops[j]?).bind (·.dst)=some t/\aX c i x (.tmp t)=true
def ql{i:Nat}{m:aq}(h:uJ c i o m=true):xS c i o m:=by
 simp only[uJ,D0]at h;obtain⟨⟨n,a⟩,d⟩:=h;refine⟨n,λe=>?_,λt k e f=>?_,λt e f=>?_,λk e=>?_,?_⟩;·grind
 ·rw[e,f]at a;simp only[D0,X0,k7]at a;exact⟨a.1.1,a.1.2,a.2⟩
 ·rw[e,f]at a;simp only[D0,k7,Hq]at a;exact⟨a.1.1,a.1.2,a.2⟩
 ·cases p:o.dst with|some t=>exact⟨t,rfl⟩|none=>rw[p,e]at a;simp at a
 split at d;·rename_i g l;exact .inl ⟨g,l⟩
 ·rename_i x b j r g l;simp only[D0,X0]at d;obtain⟨rfl,d⟩:=d;split at d;·rename_i t q;exact .inr ⟨x,b,j,t,g,l,q,d⟩
  cases d
 cases d
def FZ{i:Nat}{f:aq}(m:xS c i o f)(k:RI c E nd done L K μ loc sl H a W)(n:∀j∈f.locR,done j){r:Bool}(d:f.wants loc sl=some r):Region.wanted o (yielded c.ops a.tmps)=r:=by
 rcases m.guard with⟨g,h⟩|⟨x,b,j,t,g,h,u,p⟩;·simp only[aq.wants,g,hF]at d;simp[Region.wanted,h,<-d]
 have e:=iU k.fs k.lr p (λq w=>n q (by grind[aq.locR]));simp[aq.wants,g]at d;have s:yielded c.ops a.tmps j=match a.tmps[t]? with|some (.bool b)=>some b|_=>none:=by unfold yielded;grind
 simp[Region.wanted,h,s];simp[Act.eval,ABm]at e;generalize x.ev loc sl=y at d e;cases l:a.tmps[t]? with
 |none=>
 rw[l]at e;simp[uA]at e;split at d;·cases e
 ·cases d;rfl
 cases d|some v=>
 rw[l]at e;split at d;·cases e;simp_all
 ·cases e;grind
 grind
def ae6(fs:FS E c.tm c.bs K μ L sl H a.tmps W)(lr:iT c done L K μ H loc a.tmps){i:Nat}{e:aq}(b:jC c i o e=true)(m:∀j∈e.locR,done j)(p:e.op.isBox=true){q:FuncId->List D->ab->CR}{d:D}{f:St}(h:step c.V q loc ⟨sl,H⟩ e.op=.v d f):(∃k,d=.bx k)/\AY c E L o a K μ H W d f/\f=⟨sl,H⟩:=by
 obtain⟨r,keep,guard⟩:=e;cases r<;>simp[aj.isBox]at p<;>first|grind|skip
 ·rename_i u;simp[jC]at b;split at b;·rename_i t g;cases h;obtain⟨vs,_,w,z⟩:=FA (a:=a) b g W;grind[Qt]
  grind
 rename_i x n;simp[jC]at b;split at b;·rename_i t y g;simp[D0]at b;replace h:=qn h;obtain⟨h,rfl⟩:=h;cases l:(x.ev loc sl).cellsN n with|none=>grind|some k=>rw[l]at h;cases h;have s:=iU fs lr b.1 (λj A=>m j (by grind[aq.locR,aj.args]));exact⟨⟨_,rfl⟩,Qt fs (Qv g W) (sk l s).1,rfl⟩
 grind
def ae7(fs:FS E c.tm c.bs K μ L sl H a.tmps W)(lr:iT c done L K μ H loc a.tmps){i:Nat}{b:aq}(g:jC c i o b=true)(n:∀j∈b.locR,done j)(p:b.op.isAddr=true){t:FuncId->List D->ab->CR}{d:D}{l:St}(h:step c.V t loc ⟨sl,H⟩ b.op=.v d l):(∃k m,d=.lp k m/\r6 c.rt b=some k)/\AY c E L o a K μ H W d l/\l=⟨sl,H⟩:=by
 obtain⟨u,keep,guard⟩:=b;have w:∀{x:AB}{k:Nat},lZ c.rt x=[k]->(match x with|.sl k=>some k|.lo j=>(c.rt[j]?).join)=some k:=λ{x k}e=>by cases x<;>simp_all[lZ]
 cases u<;>simp[aj.isAddr]at p<;>first|grind|skip
 rename_i x m;simp[jC]at g;simp[step]at h;split at g
 ·rename_i s y f z;simp only[D0]at g;split at h;·rename_i k q A;cases h;obtain⟨r,B,C,F⟩:=Qr fs lr g.1 (λj G=>n j (by grind[aq.locR,aj.base])) A;exact⟨⟨k,_,rfl,w F⟩,adW fs z g.2 B C,rfl⟩
  grind
 grind
def RI.go{d:Kn}{f:Mu}{g:ab}{h:List D}{i:World}(b:RI c E nd done L K μ loc sl H a W)(fs:FS E c.tm c.bs d f L h g a.tmps i)(e:ba K μ H d f g):RI c E nd done L d f loc h g a i:=⟨fs,b.lr.ext e,b.sz,b.df,b.ln⟩
variable{x:aq}
theorem RI.val(rg:gU c)(f:RI c E nd done L K μ loc sl H a W){i:Nat}{d:D}{v:Value}(l:c.ops[i]?=some o)(m:c.vos[i]?=some x)(g:xS c i o x)(q:x.op.isAddr=false)(r:x.op.isBox=false)(n:VR K μ H d v):RI c E nd (λj=>j=i\/done j) L K μ (loc.set i d) (eS sl x.keep d) H (a.put o.dst v) W:=by cases b:o.dst with|none=>have e:=(g.none b).1;rw[e];have:=f.nothing (d:=d) (v:=v) l b;rwa[b]at this|some t=>cases e:x.keep with|none=>obtain⟨h,_,p⟩:=g.loc t b e;have:=f.local rg (d:=d) (v:=v) l m b h p (by grind);rwa[b]at this|some k=>obtain⟨h,s,_⟩:=g.slot t k b e;have:=f.slot rg m b e h (by grind) n;rwa[b]at this
def RI.skipped(rg:gU c)(g:RI c E nd done L K μ loc sl H a W){i:Nat}(m:c.ops[i]?=some o)(h:c.vos[i]?=some x)(e:xS c i o x):RI c E nd (λj=>j=i\/done j) L K μ (loc.set i .u) (eS sl x.keep .u) H (a.put o.dst undef) W:=by cases n:x.op.isBox with
 |true=>cases b:o.dst with|none=>have:=(e.none b).2.2;grind|some t=>cases f:x.keep with|none=>have:=(e.loc t b f).2.1;grind|some k=>obtain⟨l,r,_⟩:=e.slot t k b f;have:=g.unboxed rg (v:=undef) h b f l (by grind);rwa[b]at this
 |false=>cases p:x.op.isAddr with|false=>exact g.val rg m h e p n (.u ..)|true=>cases b:o.dst with|none=>have:=(e.none b).2.1;grind|some t=>cases f:x.keep with|some k=>have:=(e.slot t k b f).2.2;grind|none=>obtain⟨l,_,q⟩:=e.loc t b f;have:=g.local rg (d:=.u) (v:=undef) m h b l q (by grind);rwa[b]at this
variable{y:FuncId->List D->ab->CR}
def ae8(rg:gU c)(b:RI c E nd done L K μ loc sl H a W){i:Nat}(B:c.ops[i]?=some o)(p:c.vos[i]?=some x)(G:∀j∈x.locR,done j)(X:x.op.calls=false)(Y:x.op.isBox=true->∀k,x.keep=some k->∀j,done j->c.rt[j]?≠some (some k)){d:D}{I:St}(h:step c.V y loc ⟨sl,H⟩ x.op=.v d I){next:Act->World->Prop}{Q:Exit->Act->World->Prop}(C:∀Z N P S q,RI c E nd (λj=>j=i\/done j) Z N P (loc.set i d) (eS I.sl x.keep d) I.hp S q->next S q):o.wp c.P a W next Q:=by obtain⟨aa,ak⟩:=rg.op i o x B p;have f:=ql aa;unfold Oper.wp;cases s:x.op.isBox with
 |true=>obtain⟨⟨cs,rfl⟩,⟨q,v,w,z,U,hH,A⟩,rfl⟩:=ae6 b.fs b.lr f.op G s h;rw[w];obtain⟨r,vs,ty,rfl,h0,J,h2,M,h4,h5⟩:=A;cases g:o.dst with|none=>have:=(f.none g).2.2;grind|some t=>cases l:x.keep with|none=>have:=(f.loc t g l).2.1;grind|some k=>obtain⟨g1,g2,_⟩:=f.slot t k g l;have m:=b.go z (.refl _ _ _);have:=m.boxed rg p g l g1 (by grind) (λk' r' e=>(b.fs.own k' r' e).2.2.2) h0 b.fs.nx.size J h2 M h4 h5 (Y s k l);have:=C _ _ _ _ _ (by rw[l];exact this);simpa[Oper.upon]using this
 |false=>cases F:x.op.isAddr with
 |true=>obtain⟨⟨k,V,rfl,ao⟩,⟨q,v,w,z,U,hH,A⟩,rfl⟩:=ae7 b.fs b.lr f.op G F h;rw[w];obtain⟨r,g1,rfl⟩:=A;have m:=b.go z (.refl _ _ _);cases g:o.dst with|none=>have:=(f.none g).2.1;grind|some t=>cases l:x.keep with|some k=>have:=(f.slot t k g l).2.2;grind|none=>obtain⟨J,_,M⟩:=f.loc t g l;have:=m.local rg (d:=.lp k V) (v:=.pointer (some ⟨r,V,none⟩)) B p g J M (by grind);have:=C _ _ _ _ _ (by rw[l];exact this);simpa[Oper.upon]using this
 |false=>
 obtain⟨N,P,q,n,w,z,ai,U,A⟩:=afq b.fs b.lr f.op (λj hj=>G j (by grind[aq.locR])) X s F h;rw[w];have m:=b.go z ai;rcases A with⟨v,rfl,hv⟩|⟨rfl,rfl⟩;·exact C _ _ _ _ _ (m.val rg B p f F s hv)
 exact C _ _ _ _ _ (m.val rg B p f F s (.u ..))
end
end
section
def FT(a b:List D)(k:Nat):O.ev (a++List.replicate k D.u) b=O.ev a b:=by funext x;cases x<;>grind[O.ev]
def aeP(a b:List D)(k:Nat):AB.ev (a++List.replicate k D.u) b=AB.ev a b:=by funext x;cases x<;>grind[AB.ev]
set_option maxHeartbeats 2000000 in def aeQ(V:aw)(cl:FuncId->List D->ab->CR)(b:List D)(k:Nat)(c:St)(a:aj):step V cl (b++List.replicate k D.u) c a=step V cl b c a:=by cases a<;>simp only[step,FT,aeP]
def aeR(o:aq)(a b:List D)(k:Nat):o.wants (a++List.replicate k D.u) b=o.wants a b:=by simp_all[aq.wants,FT]
def aeS(dr:Option (Bs×Bool))(a:aj)(b c:List D)(k:Nat):a.fits dr (b++List.replicate k D.u) c=a.fits dr b c:=by simp_all[aj.fits,FT]
def eF(V:aw)(cl:FuncId->List D->ab->CR)(dr:Option (Bs×Bool))(vos:List aq):List Nat->List D->St->Ex×St|[],_,a=>(.nm,a)|i::c,b,a=>match vos[i]? with|none=>eF V cl dr vos c b a|some o=>match o.wants b a.sl with
 |some true=>match o.op.fits dr b a.sl with
  |true=>match step V cl b a o.op with
   |.v d e=>eF V cl dr vos c (b.set i d) ⟨eS e.sl o.keep d,e.hp⟩|.p d f=>match dr.isNone||o.op.pans with|true=>(.pn d,⟨a.sl,f⟩)|false=>(.bad,a)
   |.bad=>(.bad,a)
  |false=>(.bad,a)
 |some false=>eF V cl dr vos c (b.set i .u) ⟨eS a.sl o.keep .u,a.hp⟩|none=>(.bad,a)
section
variable{V:aw}{cl:FuncId->List D->ab->CR}{vos:List aq}
def one(V:aw)(cl:FuncId->List D->ab->CR)(dr:Option (Bs×Bool))(vos:List aq)(i:Nat)(a:List D)(b:St):Option (List D×St):=match vos[i]? with|none=>some (a,b)|some o=>match o.wants a b.sl with
 |some true=>match o.op.fits dr a b.sl with
  |true=>match step V cl a b o.op with|.v d c=>some (a.set i d,⟨eS c.sl o.keep d,c.hp⟩)|_=>none
  |false=>none
 |some false=>some (a.set i .u,⟨eS b.sl o.keep .u,b.hp⟩)|none=>none
variable{z:List Nat}{a:List D}{x y:St}
theorem xP{dr:Option (Bs×Bool)}{i:Nat}:eF V cl dr vos (i::z) a x=(.nm,y)↔∃loc1 st1,one V cl dr vos i a x=some (loc1,st1)/\eF V cl dr vos z loc1 st1=(.nm,y):=by unfold one;simp only[eF];cases b:vos[i]? with|none=>exact⟨λh=>⟨_,_,rfl,h⟩,λ⟨_,_,e,h⟩=>by cases e;exact h⟩|some o=>simp only;cases c:o.wants a x.sl with|none=>simp|some r=>cases r with|false=>exact⟨λh=>⟨_,_,rfl,h⟩,λ⟨_,_,e,h⟩=>by cases e;exact h⟩|true=>simp only;cases f:o.op.fits dr a x.sl with|false=>simp|true=>simp only;cases g:step V cl a x o.op with|v d st1=>exact⟨λh=>⟨_,_,rfl,h⟩,λ⟨_,_,e,h⟩=>by cases e;exact h⟩|p d j=>cases dr.isNone||o.op.pans<;>simp|bad=>simp
def aeT{i:Nat}{q:D}(h:eF V cl none vos (i::z) a x=(.pn q,y)):(∃loc1 st1,one V cl none vos i a x=some (loc1,st1)/\eF V cl none vos z loc1 st1=(.pn q,y))\/(∃o b,vos[i]?=some o/\o.wants a x.sl=some true/\step V cl a x o.op=.p q b/\y=⟨x.sl,b⟩):=by unfold one;simp only[eF]at h;cases f:vos[i]? with|none=>rw[f]at h;exact .inl ⟨_,_,rfl,h⟩|some o=>rw[f]at h;simp only at h⊢;cases e:o.wants a x.sl with|none=>rw[e]at h;cases h|some r=>rw[e]at h;cases r with|false=>exact .inl ⟨_,_,rfl,h⟩|true=>cases g:o.op.fits none a x.sl with|false=>rw[g]at h;cases h|true=>cases c:step V cl a x o.op with|v d st1=>rw[c]at h;exact .inl ⟨_,_,rfl,h⟩|p d b=>rw[c]at h;cases h;exact .inr ⟨o,b,rfl,e,c,rfl⟩|bad=>rw[c]at h;cases h
end
def aeU(a:List D)(k:Nat)(d:D):(a++List.replicate (k+1) D.u).set a.length d=(a++[d])++List.replicate k D.u:=by grind
def Q3(V:aw)(cl:FuncId->List D->ab->CR)(dr:Option (Bs×Bool)):∀(os a:List aq)(b:List D)(e:St),b.length=a.length->ops V cl dr os b e=eF V cl dr (a++os) (List.range' a.length os.length) (b++List.replicate os.length .u) e:=by intro os;induction os with|nil=>grind[ops,eF]|cons o os f=>
 intro a b e h;simp only[fA,AB8,eF,aeR,aeS,aeQ];rw[show(a++o::os)[a.length]?=some o by simp];have g:∀d c,ops V cl dr os (b++[d]) c=eF V cl dr (a++o::os) (List.range' (a.length+1) os.length) ((b++List.replicate (os.length+1) D.u).set a.length d) c:=λd c=>by have:=f (a++[o]) (b++[d]) c (by simp[h]);rw[this,<-h,aeU];simp[h]
 grind[ops,step]
section
variable{V:aw}{cl:FuncId->List D->ab->CR}{vos:List aq}
def oq(V:aw)(cl:FuncId->List D->ab->CR)(dr:Option (Bs×Bool))(vos:List aq):List Nat->List D->St->Option (List D×St)|[],a,b=>some (a,b)|i::c,a,b=>match one V cl dr vos i a b with|some (loc1,st1)=>oq V cl dr vos c loc1 st1|none=>none
variable{z:List Nat}{a:List D}{x y:St}
def vi{dr:Option (Bs×Bool)}{i:Nat}{r:List D×St}:oq V cl dr vos (i::z) a x=some r↔∃loc1 st1,one V cl dr vos i a x=some (loc1,st1)/\oq V cl dr vos z loc1 st1=some r:=by grind[oq,one]
def Q4{dr:Option (Bs×Bool)}{q:D}:∀{l:List Nat}{a:List D}{b:St},eF V cl dr vos l a b=(.pn q,x)->∃f i n loc1 st1 o c,l=f++i::n/\oq V cl dr vos f a b=some (loc1,st1)/\vos[i]?=some o/\(dr.isNone||o.op.pans)=true/\o.wants loc1 st1.sl=some true/\step V cl loc1 st1 o.op=.p q c/\x=⟨st1.sl,c⟩
 |[],a,b,h=>by grind[eF]|i::u,a,b,h=>by
  have nx:∀{loc1:List D}{st1:St},one V cl dr vos i a b=some _->eF V cl dr vos u loc1 st1=(.pn q,x)->∃f y n loc1 st1 o c,i::u=f++y::n/\oq V cl dr vos f a b=some (loc1,st1)/\vos[y]?=some o/\(dr.isNone||o.op.pans)=true/\o.wants loc1 st1.sl=some true/\step V cl loc1 st1 o.op=.p q c/\x=⟨st1.sl,c⟩:=λ{loc1 st1}k s=>by obtain⟨f,j,n,z,A,o,c,e,g1,g⟩:=Q4 s;exact⟨i::f,j,n,z,A,o,c,by rw[e];rfl,vi.2 ⟨_,_,k,g1⟩,g⟩
  simp[eF]at h;cases m:vos[i]? with|none=>rw[m]at h;exact nx (by simp[one,m]) h|some o=>rw[m]at h;simp at h;cases k:o.wants a b.sl with|none=>rw[k]at h;cases h|some r=>rw[k]at h;cases r with|false=>exact nx (by simp[one,m,k]) h|true=>cases s:o.op.fits dr a b.sl with|false=>rw[s]at h;cases h|true=>rw[s]at h;cases t:step V cl a b o.op with
 |v d st1=>rw[t]at h;exact nx (by simp[one,m,k,s,t]) h|p d c=>rw[t]at h;cases w:dr.isNone||o.op.pans with|true=>rw[w]at h;cases h;exact⟨[],i,u,a,b,o,c,rfl,rfl,m,w,k,t,rfl⟩|false=>rw[w]at h;cases h
 |bad=>rw[t]at h;cases h
end
end
section
def fW(K:Kn)(μ:Mu)(H:ab)(W:World)(d:D)(a:ab):Ending->World->Prop|.returned v,e=>∃b c,HR b c a e/\Nx K μ H W b c a e/\VR b c a d v|_,_=>False
def uF(own:Bool)(K:Kn)(W:World)(d:D):Ending->World->Prop|.returned v,e=>∃b c a d0,HR b c a e/\Nx K aK [] W b c a e/\VR b c a d0 v/\ol own a d0=some d|_,_=>False
def mT(P:Program)(f:FuncId):Prop:=∃fn:Func,P.funcs[f]?=some fn/\fn.body.isSome=true/\fn.name≠"runtime.NumGoroutine"
def TE(T:Kn->World->Prop)(E:En):Prop:=T E.K E.w/\HR E.K E.μ E.H E.w
structure acY(K:Kn)(g off:Nat)(r:List D)(f:Nat->Value):Prop where
 k:∀(j:Nat)(d:D),r[j]?=some d->K g (off+j)=some (f j)c:∀(j:Nat)(d:D),r[j]?=some d->(f j).oneCell'=true
 v:∀(j:Nat)(d:D),r[j]?=some d->VR K aK [] d (f j)
def uG(K:Kn)(g w:Nat)(rows:List (List D)):Prop:=∀(i:Nat)(r:List D),rows[i]?=some r->∃f,acY K g (i*w) r f
structure dK(P:Program)(V:aw)(T:Kn->World->Prop):Prop where
 up:∀{K:Kn}{μ:Mu}{H:ab}{W:World}{K':Kn}{μ':Mu}{H':ab}{W':World},T K W->HR K μ H W->Nx K μ H W K' μ' H' W'->T K' W'
 fn:∀(f:FuncId)(vf:aJ),V.fn f=some vf->∃(fn:Func)(tm bs:List Nat),P.funcs[f]?=some fn/\lC P V fn vf tm bs=true/\fn.name≠"runtime.NumGoroutine"/\(vf.rg=none\/vf.rg=some f)nyf:P.funcs[yF]?=none
 rnd:∀(j:Nat)(r:Rnd),V.rnd j=some r->P=uD/\AA P V r=true
 meth:∀(t:TypeId)(m:String)(f:FuncId),V.meth t m=some f->f≠yF/\∀(v:Value)(W:World),(Go.method (P.types.size+Made.depth) t v m).run P W=.ok (f,v) W
 ext:∀(f:FuncId)(args:List D)(H:ab)(d:D)(H':ab),V.ext f args H=some (d,H')->H.length<=H'.length/\mT P f/\∀(K:Kn)(μ:Mu)(W:World)(vs:List Value),T K W->HR K μ H W->bf K μ H args vs->Calls P f vs.toArray W (fW K μ H W d H')glob:∀(g w:Nat)(rows:List (List D)),V.glob g=some (w,rows)->∀(K:Kn)(W:World),T K W->uG K g w rows
 pext:∀(f:FuncId)(ds:List D)(d:D)(vf:aJ),V.fn f=some vf->V.pext f ds=some d->∀(K:Kn)(W:World)(vs:List Value),T K W->HR K aK [] W->bf K aK [] ds vs->Calls P f vs.toArray W (uF vf.own K W d)
def Au{P:Program}{f:FuncId}{fn:Func}(c:P.funcs[f]?=some fn)(a:fn.body.isSome=true)(d:fn.name≠"runtime.NumGoroutine")(args:Array Value)(W:World):(callFunc f args).run P W=.ok (.enter f args) W:=by obtain⟨b,a⟩:=AAh.1 a;simp[callFunc,c,d,a]
variable{g h:Array Value}
def Av{P:Program}{o:Oper}{a:Act}{y:Operand}{args:Array Operand}{b:Array TypeId}{f:FuncId}{fn:Func}(c:o.op=.call {callee:=.value y,args,argTypes:=b})(d:a.eval y=.func (.func f) g h)(e:P.funcs[f]?=some fn)(i:fn.body.isSome=true)(j:fn.name≠"runtime.NumGoroutine")(W:World):(execOp a.eval o).run P W=.ok (.enter f (g++args.map a.eval++h)) W:=by simp[execOp,c,resolve,d,Deferred.ofValue,invoke,Au e i j]
def PM{P:Program}{o:Oper}{a:Act}{y:Operand}{m:String}{args:Array Operand}{d:Array TypeId}{f:FuncId}{t:TypeId}{v:Value}{fn:Func}(e:o.op=.call {callee:=.invoke y m,args,argTypes:=d})(c:a.eval y=.iface t v){W:World}(g:(Go.method (P.types.size+Made.depth) t v m).run P W=.ok (f,v) W)(h:P.funcs[f]?=some fn)(i:fn.body.isSome=true)(j:fn.name≠"runtime.NumGoroutine"):(execOp a.eval o).run P W=.ok (.enter f (#[v]++args.map a.eval)) W:=by
 generalize a.eval=b at c⊢;have k:(#[Value.iface t v]++args.map b)[0]?=some (.iface t v):=by grind
 have l:(#[Value.iface t v]++args.map b).extract 1 (#[Value.iface t v]++args.map b).size=args.map b:=by apply AB1;simp;rw[E2 (by simp)]
 have n:(invoke (.fn (.method m) #[]) (#[Value.iface t v]++args.map b)).run P W=.ok (.enter f (#[v]++args.map b)) W:=by unfold invoke;simp only[k,l];unfold callMethod;simp only[Sem.run_bind,run_program,Result.andThen_ok,g,Au h i j]
 simp only[execOp,e,resolve,c];grind
def FW(rd:Option Nat):Fence:={Fence.wide with round:=rd}
def PN(P:Program)(T:Kn->World->Prop)(args:List D)(H:ab)(d:D)(c:ab):Prop:=∃y b,args=.yl y::b/\∀(K:Kn)(μ:Mu)(W:World)(vs:List Value)(l:bI),T K W->HR K μ H W->bf K μ H b vs->μ y=some l->∃rec:Loop,W.heap[l.blk]?=some (.loop rec)/\vs.length=rec.params.size/\∀m,RoundIn Fence.wide m P l.blk rec.fn ((rec.params.zip vs.toArray).foldl (λtmps(t,a)=>tmps.setIfInBounds t a) rec.tmps) rec.assign rec.body W (fW K μ H W d c)
def fX(P:Program)(T:Kn->World->Prop)(b:FuncId->List D->ab->CR):Prop:=∀(f:FuncId)(args:List D)(H:ab)(d:D)(a:ab),b f args H=.ret d a->(f≠yF->mT P f/\∀(K:Kn)(μ:Mu)(W:World)(vs:List Value),T K W->HR K μ H W->bf K μ H args vs->Calls P f vs.toArray W (fW K μ H W d a))/\(f=yF->PN P T args H d a)
variable{z:Act->World->Prop}{b:Exit->Act->World->Prop}{d:Nat}
def acZ{P:Program}{o:Oper}{a:Act}{r:Result Next}{rd:Option Nat}(h:o.upon P a z b r):o.uponIn (FW rd) d P a z b r:=by
 cases r with|ok x w=>
 cases x<;>simp[Oper.upon]at h<;>first|exact h|skip
 ·exact⟨λe=>(by cases e),callsIn_wide.2 h⟩
 exact⟨λe=>(by cases e),λc f _=>let⟨v,w',r,s⟩:=h c f;⟨v,w',r,stepsIn_wide.2 s⟩⟩|halt x w=>cases x<;>simp[Oper.upon]at h<;>first|exact h
def uH{P:Program}{o:Oper}{a:Act}{W:World}{rd:Option Nat}(f:∀c,o.op≠.defer c)(h:o.wp P a W z b):o.wpIn (FW rd) d P a W z b:=by
 refine⟨λ_ _=>trivial,?_⟩;have e:o.semAt (FW rd).round a.eval=execOp a.eval o:=by unfold Oper.semAt<;>grind
 rw[e];exact acZ h
def ac0{o:Oper}{rd:Option Nat}{a:Operand->Value}(c:∀b,o.op≠.defer b):o.semAt rd a=execOp a o:=by unfold Oper.semAt<;>grind
def ac1{rd:Option Nat}{P:Program}{l:Nat}{f:FuncId}{tmps:Array Value}{assign body:Code}{w:World}{R:Ending->World->Prop}(h:RoundIn Fence.wide d P l f tmps assign body w R):RoundIn (FW rd) d P l f tmps assign body w R:=h
variable{f:Array TypeId}
def ac2{P:Program}{o:Oper}{a:Act}{y:Operand}{args:Array Operand}{l:Nat}{rec:Loop}{W:World}(b:o.op=.call {callee:=.value y,args,argTypes:=f})(c:a.eval y=.func (.yield l) #[] #[])(d:W.heap[l]?=some (.loop rec))(hs:(args.map a.eval).size=rec.params.size):(execOp a.eval o).run P W=.ok (.round l rec.fn ((rec.params.zip (args.map a.eval)).foldl (λtmps(t,a)=>tmps.setIfInBounds t a) rec.tmps) rec.assign rec.body) W:=by simp[execOp,b,resolve,c,Deferred.ofValue,invoke,run_yield d hs]
section
variable{c:CX}{E:En}{nd:List Deferred}{L:Nat->Option Nat}{K:Kn}{μ:Mu}{sl:List D}{H:ab}{a:Act}{W:World}{o:Oper}{loc:List D}{done:Nat->Prop}
variable{x:CR}
def kG{sl:List D}{d:D}{a:St}(h:x.toR sl=.v d a):x=.ret d a.hp/\a=⟨sl,a.hp⟩:=by cases x<;>cases h;grind
variable{y:ab}
theorem EW{d:D}(h:Ff x=.ret d y):x=.ret d y:=by cases x<;>cases h;rfl
def EX{H:ab}{d:D}(h:xA H x=.ret d y):x=.ret d y/\rU H y=true:=by cases x<;>grind[xA]
def ac3{H:ab}{d:D}(h:xA H x=.pan d y):False:=by cases x<;>grind[xA]
def EY{H:ab}{d:D}(h:uP H x=.ret d y):x=.ret d y/\rT H y=true:=by cases x<;>grind[uP]
variable{e:D}
def ac4(h:Ff x=.pan e y):False:=by cases x<;>cases h
def ac5{H:ab}(h:uP H x=.pan e y):False:=by cases x<;>grind[uP]
def bf.append{xs c:List D}{vs f:List Value}(h:bf K μ H xs vs)(g:bf K μ H c f):bf K μ H (xs++c) (vs++f):=by
 refine⟨by simp[h.1,g.1],λj d v e b=>?_⟩;rcases lu j xs.length with a|a;·rw[dw a]at e;rw[dw (by rw[<-h.1];exact a)]at b;exact h.2 j d v e b
 rw[gx a]at e;rw[gx (by rw[<-h.1];exact a),<-h.1]at b;exact g.2 _ d v e b
def ac6{P:Program}{V:aw}{fn:Func}{a:aJ}{b c:List Nat}(h:lC P V fn a b c=true):fn.body.isSome=true:=by grind[lC]
def dK.known{P:Program}{V:aw}{T:Kn->World->Prop}(b:dK P V T){f:FuncId}{a:aJ}(h:V.fn f=some a):mT P f:=by obtain⟨fn,e,g,g1,c,d⟩:=b.fn f a h;exact⟨fn,g1,ac6 c,d.1⟩
def ac7{c:CX}{f:FuncId}(a:c.P.funcs[yF]?=none)(h:xu c f=true):f≠yF:=by grind[xu]
def Aw{o:Oper}{a:Call}(h:o.op=.call a):∀d,o.op≠.defer d:=by grind
def ac8(rg:gU c)(n:RI c E nd done L K μ loc sl H a W){T:Kn->World->Prop}(S:dK c.P c.V T)(X:TE T E){i:Nat}{G:aq}(ho:c.ops[i]?=some o)(ag:c.vos[i]?=some G)(hd:∀j∈G.locR,done j)(Y:G.op.calls=true){cl:FuncId->List D->ab->CR}(cs:fX c.P T cl){d:D}{U:St}(h:step c.V cl loc ⟨sl,H⟩ G.op=.v d U){Q:Exit->Act->World->Prop}(hn:∀K' ar v W',RI c E nd (λj=>j=i\/done j) L K' ar (loc.set i d) (eS U.sl G.keep d) U.hp (a.put o.dst v) W'->z (a.put o.dst v) W'){rd:Option Nat}{m:Nat}:o.wpIn (FW rd) m c.P a W z Q:=by
 obtain⟨a3,bo⟩:=rg.op i o G ho ag;have ok:=ql a3;have hb:G.op.isBox=false:=by cases hq:G.op<;>rw[hq]at Y<;>first|rfl|cases Y
 have ha:G.op.isAddr=false:=by cases hq:G.op<;>rw[hq]at Y<;>first|rfl|cases Y
 have av:∀(f:FuncId)(args:List D)(vs:List Value)(A:ab),f≠yF->(∀d,o.op≠.defer d)->cl f args H=.ret d A->U=⟨sl,A⟩->bf K μ H args vs->(∀fn:Func,c.P.funcs[f]?=some fn->fn.body.isSome=true->fn.name≠"runtime.NumGoroutine"->(execOp a.eval o).run c.P W=.ok (.enter f vs.toArray) W)->o.wpIn (FW rd) m c.P a W z Q:=λf args vs A aw a4 k t J B=>by subst t;obtain⟨⟨fn,g1,M,V⟩,a5⟩:=(cs f args H d A k).1 aw;refine uH a4 ?_;unfold Oper.wp;rw[B fn g1 M V,Oper.upon_enter];refine Calls.mono (a5 K μ W vs (S.up X.1 X.2 n.fs.nx) n.fs.hr J) (λe w I=>?_);cases e with|returned v=>obtain⟨K',ar,ax,nx,u⟩:=I;exact hn _ _ _ _ ((n.go (n.fs.go ax nx) nx.ext).val rg ho ag ok ha hb u)|panicked ch=>exact I.elim|outgrown=>exact I.elim
 obtain⟨Z,keep,guard⟩:=G;have hl:∀{x},x∈Z.args->∀j∈x.locs,done j:=λ{x}P j hj=>hd j (by grind[aq.locR]);have am:∀{N:List O}{ys:List _},gk c i N ys=true->(∀x∈N,x∈Z.args)->bf K μ H _ _:=λhk hm=>xK n.fs n.lr hk (λj hj=>by grind);have C:∀{f N args ao A},o.op=.call {callee:=.value (.func f),args,argTypes:=ao}->gk c i N args.toList=true->xu c f=true->(∀x∈N,x∈Z.args)->cl f _ H=.ret d A->U=⟨sl,A⟩->o.wpIn _ m c.P a W z Q:=λs J B P k t=>av _ _ _ _ (ac7 S.nyf B) (Aw s) k t (am J P) λfn g1 M V=>by have:=Av (a:=a) s rfl g1 M V W;rw[this];simp[<-Array.toList_map]
 have F:∀{x N y args ao f p q A},o.op=.call {callee:=.value y,args,argTypes:=ao}->(aX c i x y&&gk c i N _)=true->x∈Z.args->(∀x∈N,x∈Z.args)->x.ev loc sl=.fn _ p q->¬f=yF->cl f _ H=.ret d A->U=⟨sl,A⟩->o.wpIn _ m c.P a W z Q:=λ{x N y args ao f p q A}s r hm P I aw k t=>by rw[D0]at r;have u:=iU n.fs n.lr r.1 (hl hm);rw[I]at u;generalize hy:a.eval y=v at u;cases u with|fn _ _ _ _ _ va vb la lb bd be=>refine av _ _ (va++args.toList.map a.eval++vb) _ aw (Aw s) k t ((bf.append ⟨la,bd⟩ (am r.2 P)).append ⟨lb,be⟩) λfn g1 M V=>?_;rw[Av s hy g1 M V W];simp_all
 have r:=ok.op;simp at h Y hb ha r;cases Z<;>first|(cases Y;done)|simp only[jC,step]at r h
 case pan=>unfold rW at h<;>grind
 all_goals split at r<;>try grind
 all_goals rename_i s
 all_goals repeat split at h<;>try(cases h;done)
 all_goals try(have g:=kG h;obtain⟨k,t⟩:=g)
 all_goals try simp only[D0,X0]at r;obtain⟨⟨rfl,J⟩,B⟩:=r;first|exact C s J B (by simp[aj.args]) k t|exact C s J B (by simp[aj.args]) (EW k) t|exact C s J B (by simp[aj.args]) (EY k).1 t
 ·grind[aj.args]
 ·rename_i P;generalize U.hp=A at k t hn;subst t;rw[D0]at r;have u:=iU n.fs n.lr r.1 (hl (by simp[aj.args]));rw[P]at u;generalize hy:a.eval _=v at u;cases u with|yl _ _ _ l b hm hH bq=>obtain⟨y2,az,e,bg⟩:=(cs yF _ H d A k).2 rfl;obtain⟨e1,rfl⟩:=ABO e;cases e1;obtain⟨rec,hl,hsz,hround⟩:=bg K μ W _ l (S.up X.1 X.2 n.fs.nx) n.fs.hr (am r.2 (by simp+contextual[aj.args])) hm;refine⟨λ_ _=>trivial,?_⟩;rw[ac0 (Aw s),ac2 s hy hl (by simpa using hsz),Oper.uponIn_round];refine⟨λe=>(by cases e),?_⟩;have hr:=hround (m-1);rw[show∀l:Array _,(l.toList.map _).toArray=l.map a.eval fromλl=>by simp[<-Array.toList_map]]at hr;refine RoundIn.mono (ac1 hr) λe w I=>?_;cases e with|returned v=>obtain⟨K',ar,ax,nx,u⟩:=I;exact hn _ _ _ _ ((n.go (n.fs.go ax nx) nx.ext).val rg ho ag ok ha hb u)|panicked ch=>exact I.elim|outgrown=>exact I.elim
 ·rename_i P _ _ hf;simp[D0,X0]at r;obtain⟨⟨bi,rfl⟩,bj⟩:=r;have u:=iU n.fs n.lr bi (hl (by simp[aj.args]));rw[P]at u;generalize hy:a.eval _=v at u;cases u;rename_i w hw;refine av _ _ ([w]++_) _ (S.meth _ _ _ hf).1 (Aw s) k t (bf.append (xs:=[_]) ⟨rfl,λj d v e e'=>by cases j with|zero=>cases e;cases e';exact hw|succ j=>cases e⟩ (am bj (by simp+contextual[aj.args]))) λfn g1 M V=>?_;rw[PM s hy ((S.meth _ _ _ hf).2 w W) g1 M V];congr 2;apply AB1;simp
 ·exact F s r (by simp[aj.args]) (by simp+contextual[aj.args]) ‹_› ‹_› (EX k).1 t
 obtain⟨k,t⟩:=qn h;subst t;simp[D0,X0]at r;obtain⟨⟨rfl,J⟩,B⟩:=r;split at B<;>try(cases B;done)
 rename_i I;simp[D0,X0]at B;obtain⟨rfl,h5⟩:=B;unfold n9 at k;split at k<;>try(cases k;done)
 rename_i bm;split at k<;>try(cases k;done)
 rename_i hj;split at k<;>try(cases k;done)
 rename_i hr;split at k<;>cases k;rename_i hw;subst hw;obtain⟨ik,g1,M⟩:=uZ hj (iU n.fs n.lr J (hl (by simp[aj.args])));obtain⟨f,hf⟩:=S.glob _ _ _ bm K W (S.up X.1 X.2 n.fs.nx) _ _ hr;refine uH (λd e=>by rw[s]at e;cases e) ?_;unfold Oper.wp;rw[xM (Bg I) h5 s g1 M rfl W];exact hn _ _ _ _ (n.val rg ho ag ok ha hb (.ip _ _ _ _ _ f (λj d e=>by rw[lB];exact hf.k j d e) hf.c λj d e=>(hf.v j d e).pure))
end
abbrev rE(v:Value):List PanicEntry:=[{v,recovered:=false}]
def EZ(K:Kn)(μ:Mu)(H:ab)(W:World)(q:D)(a:ab):Ending->World->Prop|.panicked e,d=>∃v b c,e=rE v/\HR b c a d/\Nx K μ H W b c a d/\VR b c a q v|_,_=>False
def ig(P:Program)(T:Kn->World->Prop)(b:FuncId->List D->ab->CR):Prop:=∀(f:FuncId)(args:List D)(H:ab)(q:D)(a:ab),b f args H=.pan q a->f≠yF/\mT P f/\∀(K:Kn)(μ:Mu)(W:World)(vs:List Value),T K W->HR K μ H W->bf K μ H args vs->Calls P f vs.toArray W (EZ K μ H W q a)
section
variable{c:CX}{E:En}{nd:List Deferred}{L:Nat->Option Nat}{K:Kn}{μ:Mu}{sl:List D}{H:ab}{a:Act}{W:World}{o:Oper}{loc:List D}{done:Nat->Prop}
variable{x:CR}{e:D}{y:ab}
def rF{sl:List D}(h:x.toR sl=.p e y):x=.pan e y:=by cases x<;>cases h;rfl
def PO(rg:gU c)(k:RI c E nd done L K μ loc sl H a W){T:Kn->World->Prop}(N:dK c.P c.V T)(P:TE T E){i:Nat}{q:aq}(ho:c.ops[i]?=some o)(ac:c.vos[i]?=some q)(Q:∀j∈q.locR,done j){B:FuncId->List D->ab->CR}(S:ig c.P T B)(h:step c.V B loc ⟨sl,H⟩ q.op=.p e y)(U:∀v s t V,FS E c.tm c.bs s t L sl y a.tmps V->VR s t y e v->b (.panic (rE v)) a V):o.wp c.P a W z b:=by
 obtain⟨ad,ay⟩:=rg.op i o q ho ac;have ok:=ql ad;have C:∀(f:FuncId)(args:List D)(vs:List Value),B f args H=.pan e y->bf K μ H args vs->(∀fn,c.P.funcs[f]?=some fn->fn.body.isSome=true->fn.name≠"runtime.NumGoroutine"->(execOp _ o).run c.P W=.ok _ W)->o.wp c.P a W z b:=λf args vs h1 F X=>by obtain⟨_,⟨fn,g1,m,n⟩,ag⟩:=S f args H e y h1;unfold Oper.wp;rw[X fn g1 m n,Oper.upon_enter];refine Calls.mono (ag K μ W vs (N.up P.1 P.2 k.fs.nx) k.fs.hr F) (λu w G=>?_);cases u with|returned v=>exact G.elim|panicked ch=>obtain⟨v,s,t,rfl,ah,nx,g⟩:=G;exact U v s t w (k.fs.go ah nx) g|outgrown=>exact G.elim
 obtain⟨I,keep,guard⟩:=q;have J:∀{Y:List O}{ys:List _},gk c i Y ys=true->(∀x∈Y,x∈I.args)->bf K μ H _ _:=λhk hm=>xK k.fs k.lr hk (λj hj=>Q j (by grind[aq.locR]));have M:∀{x},x∈I.args->∀j∈x.locs,done j:=λ{x}Z j hj=>Q j (by grind[aq.locR]);have l:=ok.op;simp at h l;cases I<;>simp only[step]at h<;>(repeat' split at h);all_goals try(first|cases h;done|(unfold aE at h;grind)|(unfold gO at h;split at h<;>cases h;done)|(unfold iO at h;split at h<;>cases h;done)|exact((S _ _ _ _ _ (rF h)).1 rfl).elim|exact(ac4 (rF h)).elim|exact(ac5 (rF h)).elim|exact(ac3 (rF h)).elim)
 all_goals simp only[jC]at l
 all_goals split at l<;>try(cases l;done)
 all_goals rename_i A
 all_goals try simp[D0,X0]at l;obtain⟨⟨rfl,F⟩,X⟩:=l;refine C _ _ _ (rF h) (J F (by simp[aj.args])) λfn g1 m n=>?_;have:=Av (a:=a) A rfl g1 m n W;rw[this];simp[<-Array.toList_map];done
 ·rw[D0]at l;have g:=iU k.fs k.lr l.1 (M (by simp[aj.args]));rw[‹O.ev _ _ _=_›]at g;generalize r:a.eval _=v at g;cases g with|fn _ _ _ _ _ va vb la lb ao ap=>refine C _ _ _ (rF h) ((bf.append ⟨la,ao⟩ (J l.2 (by simp+contextual[aj.args]))).append ⟨lb,ap⟩) λfn g1 m n=>?_;rw[Av A r g1 m n W];congr 2;apply AB1;simp
 ·simp[D0,X0]at l;obtain⟨⟨ar,rfl⟩,au⟩:=l;have g:=iU k.fs k.lr ar (M (by simp[aj.args]));rw[‹O.ev _ _ _=_›]at g;generalize r:a.eval _=v at g;cases g;rename_i w hw;refine C _ _ ([w]++_) (rF h) (bf.append (xs:=[_]) ⟨rfl,λj d v u e'=>by cases j with|zero=>cases u;cases e';exact hw|succ j=>cases u⟩ (J au (by simp+contextual[aj.args]))) λfn g1 m n=>?_;rw[PM A r ((N.meth _ _ _ ‹_›).2 w W) g1 m n];congr 2;apply AB1;simp
 have g:=iU k.fs k.lr l (M (by simp[aj.args]));unfold rW at h;split at h<;>cases h;rename_i Z;rw[Z]at g;generalize r:a.eval _=v at g;cases g;rename_i tt dd v g;unfold Oper.wp;rw[show(execOp _ o).run c.P W=.halt (.panic (.iface tt v)) W by simp[execOp,A,r,run_panic_iface]];exact U _ K μ W k.fs (.ifc _ _ _ _ _ g)
end
end
end Go.Dm
