/-
  Part of the proof.
-/
import Derived.Test.YtigbdbdlkoeadaaGreatDoorAD
import Derived.Lib.IndexMore
import Derived.Sort.AssemblyPlain
import Derived.Lib.Small
import Derived.Lib.BitFns
set_option linter.all false
namespace Go.Proofs.YtigbdbdlkoeadaaGreatDoor.Dv
section
open Go.Dm
set_option maxRecDepth 10000
def mN:List D->Bool|.s _::.s _::.i .i64 _::.i .i64 _::.i .i64 _::.b _::r=>r.length==18|_=>false
def ya:List D->List UInt8|.s n::_=>n|_=>[]
def ug:List D->List UInt8|_::.s n::_=>n|_=>[]
def clF:List D->Int|_::_::.i _ n::_=>n|_=>0
def clT:List D->Int|_::_::_::.i _ n::_=>n|_=>0
def Eo:List D->Int|_::_::_::_::.i _ n::_=>n|_=>0
def kj:List D->Bool|_::_::_::_::_::.b x::_=>x|_=>false
def wY(b:List UInt8)(a c:Int)(r:List D):Bool:=ya r==b&&decide (clF r<=a)&&decide (a<clT r)&&decide (Eo r<=c)
def km(l:List UInt8):List (List UInt8×Nat)->Option Nat|[]=>none|(k,i)::m=>if l=k then some i else km l m
def ja(l:List UInt8)(i:Nat):List (List UInt8×Nat)->List (List UInt8×Nat)|[]=>[(l,i)]|(k,j)::m=>if l=k then(l,i)::m else(k,j)::ja l i m
def jw(rows:List (List D))(a:List UInt8)(b c:Int)(m:List (List UInt8×Nat))(i:Nat):List (List UInt8×Nat):=if wY a b c rows[i]! then match km (ug rows[i]!) m with|none=>ja (ug rows[i]!) i m|some j=>if Eo rows[j]!<=Eo rows[i]! then ja (ug rows[i]!) i m else m else m
def dQ(rows:List (List D))(a:List UInt8)(b c:Int):Nat->List (List UInt8×Nat)|0=>[]|n+1=>jw rows a b c (dQ rows a b c n) n
def lR(x:Int):List Int->List Int|[]=>[x]|y::l=>if x<=y then x::y::l else y::lR x l
def cV:List Int->List Int|[]=>[]|x::l=>lR x (cV l)
def aV(x:Int):List D:=[.i .i64 x]
def fJ(rows:List (List D))(a:List UInt8)(b c:Int):List Int:=cV (((dQ rows a b c rows.length).filter λq=>!kj rows[q.2]!).map λq=>(q.2:Int))
def cO(w:Nat)(rows:List (List D)):D:=match rows with|[]=>.nil|r::a=>.im w (r::a)
def uh(rows:List (List D))(a:List UInt8)(b c:Int):Option D:=if rows.all mN=true/\rows.length<1099511627776 then some (cO 1 ((fJ rows a b c).map aV))else none
def fK:D->Bool|.s _=>true|.nil=>true|.z=>true|.im _ _=>true|_=>false
def zO:List D->Option D|[.ag [e,f,g,c],.s a,.i .i64 b,.i .i64 d]=>if fK e&&fK f&&fK g then match c with|.nil=>uh [] a b d|.z=>uh [] a b d|.im w rows=>if w=24 then uh rows a b d else none|_=>none else none|_=>none
def pf:List (List D)->Option (List Int)
 |[]=>some []|[.i .i64 x]::r=>match pf r with|some l=>some (x::l)|none=>none
 |_=>none
def ui(a n b len:Nat)(H:ab):Option (D×ab):=match aO H a n with|some (1,rows,cap,p,false)=>if b=0/\len=n/\0<n/\n<1099511627776 then match pf rows with|some l=>some (.tu [],H.set a (.ar 1 ((cV l).map aV) cap p false))|none=>none else none|_=>none
def cC:List Int->List Int|[]=>[]|x::l=>match cC l with|[]=>[x]|y::r=>if x=y then y::r else x::y::r
def zP(a n b len:Nat)(H:ab):Option (D×ab):=match aO H a n with|some (1,rows,cap,p,false)=>if b=0/\len=n/\0<n/\n<1099511627776 then match pf rows with|some l=>some (.mu a n 0 (cC l).length,H.set a (.ar 1 ((cC l++List.replicate (n-(cC l).length) 0).map aV) cap p false))|none=>none else none|_=>none
def aDU(a n b len:Nat)(H:ab):Option (D×ab):=match aO H a n with|some (11,rows,_,true,true)=>if b=0/\len=n/\0<n/\n<70368744177664 then some (.mu H.length n 0 n,H++[.ar 11 rows (some n) true true])else none|_=>none
def bR(p:Int×Int):List D:=[.i .i64 p.1,.i .i64 p.2]
def zQ:List D->Option (Int×Int)|[.i .i64 a,.i .i64 b]=>some (a,b)|_=>none
def Ep(x y:Int×Int):Int:=Lib.compareInt x.1 y.1
def wZ(x y:Int×Int):Bool:=decide (Ep x y<0)
def pg(d:Array (Int×Int)):Array (Int×Int):=Go.Sort.pdq wZ d 0 d.size (Lib.bitLen d.size) true true
def lg(l:List (Int×Int)):List (Int×Int):=(pg l.toArray).toList
def Eq(a n b len:Nat)(H:ab):Option (D×ab):=match aO H a n with|some (2,rows,cap,true,false)=>if b=0/\len=n/\0<n/\n<4611686018427387904 then match jJ zQ rows with|some l=>some (.tu [],H.set a (.ar 2 ((lg l).map bR) cap true false))|none=>none else none|_=>none
def Pe:Nat:=1000000000
def zR(s t:List UInt8)(H:ab):Option (D×ab):=if s.length<Pe then some (.tu [.s (Lib.cut s t).1,.s (Lib.cut s t).2.1,.b (Lib.cut s t).2.2],H)else none
def q9(f:FuncId)(args:List D)(H:ab):Option (D×ab):=if f=109 then match args with|[.s s,.s t]=>zR s t H|_=>none else if f=65 then match args with|[.nil]=>some (.tu [],H)|[.mu a n b len]=>ui a n b len H|_=>none else if f=275 then match args with|[.nil]=>some (.nil,H)|[.mu a n b len]=>zP a n b len H|_=>none else if f=294 then match args with|[.nil,.fn (.func 295) [] []]=>some (.tu [],H)|[.mu a n b len,.fn (.func 295) [] []]=>Eq a n b len H|_=>none else none
def V1:aw:=Vx q9 (λ_ _=>none)
def w9(f:FuncId)(ds:List D):Option D:=if f=19 then zO ds else none
def VS:aw:=Vx q9 w9
theorem xa(x y:Int×Int):wZ x y=decide (x.1<y.1):=by
 unfold wZ Ep Lib.compareInt;by_cases a:x.1<y.1;·simp[a]
 by_cases b:y.1<x.1<;>simp[a,b]
def axr(d:Array (Int×Int)):Go.Sort.PermIn 0 d.size d (pg d)/\Go.Sort.SortedIn wZ 0 d.size (pg d):=Go.Sort.pdq_sorts wZ ⟨λx=>by simp[xa],λx y q a b=>by simp[xa]at*;omega,λx y q a b=>by simp[xa]at*;omega⟩ d 0 d.size (Lib.bitLen d.size) true true (AAg _) (G1 _) (Or.inl rfl)
def aca:∀l:List (Int×Int),jJ zQ (l.map bR)=some l|[]=>rfl|(a,b)::l=>by have:=aca l;simp only[kb,jJ,bR,zQ]at this⊢;simp only[this]
def Er(l:List (Int×Int)):(lg l).Perm l:=by
 obtain⟨b,_,a⟩:=(axr l.toArray).1;have c:(pg l.toArray).extract 0 l.toArray.size=pg l.toArray:=by rw[<-b];simp
 have d:l.toArray.extract 0 l.toArray.size=l.toArray:=by simp
 rw[c,d]at a;exact a
end
section
open Go.Dm
set_option maxRecDepth 10000
theorem IN(x:Int):∀l:List Int,(lR x l).Perm (x::l)
 |[]=>.refl _|y::l=>by
  unfold lR;split;·grind
  exact((IN x l).cons y).trans (List.Perm.swap x y l)
def tc:∀l:List Int,(cV l).Perm l|[]=>.refl _|x::l=>(IN x (cV l)).trans ((tc l).cons x)
def Xj(x:Int):∀{l:List Int},l.Pairwise (·<=·)->(lR x l).Pairwise (·<=·)
 |[],_=>by simp[lR]|y::l,h=>by
  unfold lR;have a:=hM.1 h;split;·rename_i b;refine hM.2 ⟨λz c=>?_,h⟩;grind
  rename_i b;refine hM.2 ⟨λz c=>?_,Xj x a.2⟩;grind[IN]
def zg:∀l:List Int,(cV l).Pairwise (·<=·)|[]=>.nil|x::l=>Xj x (zg l)
def ard(l:List Int):(l.mergeSort λx y=>decide (x<=y))=cV l:=by refine ACC (le:=λx y=>x<=y) (λa b _ _ d e=>Int.le_antisymm d e) ?_ (zg l) ((List.mergeSort_perm l _).trans (tc l).symm);have:=List.pairwise_mergeSort (le:=λx y=>decide (x<=y)) (λa b c d e=>by grind) (λa b=>by grind) l;grind
theorem oW(l:List Int):(cV l).length=l.length:=(tc l).length_eq
def are{l m:List Int}(h:l.Perm m):cV l=cV m:=ACC (λa b _ _ c d=>Int.le_antisymm c d) (zg l) (zg m) ((tc l).trans (h.trans (tc m).symm))
def arf(x:Int)(l:List Int):cC (x::l)≠[]:=by grind[cC]
def Xk:∀(l:List Int)(z:Int),cC (l++[z])=cC l++(if l.getLast?=some z then[]else[z])|[],z=>by simp[cC]|[x],z=>by grind[cC]|x::y::t,z=>by have b:=Xk (y::t) z;have c:cC (x::y::t++[z])=match cC (y::t++[z])with|[]=>[x]|a::r=>if x=a then a::r else x::a::r:=rfl;have d:cC (x::y::t)=match cC _ with|[]=>[x]|a::r=>if x=a then a::r else x::a::r:=rfl;rw[c,d,b,show(x::y::t).getLast?=(y::t).getLast? from by simp];cases e:cC _ with|nil=>exact absurd e (arf y t)|cons a r=>simp[U3];split<;>simp
theorem zh:∀l:List Int,(cC l).length<=l.length|[]=>G1 _|x::l=>by have:=zh l;grind[cC]
def IO{x:Int}:∀{l:List Int},x∈cC l↔x∈l|[]=>W0|y::l=>by have a:=IO (x:=x) (l:=l);grind[cC]
def Xl:∀{l:List Int},l.Pairwise (·<=·)->(cC l).Pairwise (·<·)|[],_=>.nil|y::l,h=>by obtain⟨d,f⟩:=hM.1 h;have b:=Xl f;have e:cC (y::l)=match cC l with|[]=>[y]|a::r=>if y=a then a::r else y::a::r:=rfl;rw[e];cases g:cC l with|nil=>grind|cons a r=>
 rw[g]at b;simp;split;·exact b
 rename_i j;refine hM.2 ⟨λz c=>?_,b⟩;have i:a∈l:=IO.1 (by grind);have k:=d a i;rcases S2.1 c with rfl|c;·omega
 have:=(hM.1 b).1 z c;omega
def CQ(l:List Int):(cC (cV l)).Pairwise (·<·):=Xl (zg l)
def IP{x:Int}{l:List Int}:x∈cC (cV l)↔x∈l:=IO.trans (tc l).mem_iff
end
end Go.Proofs.YtigbdbdlkoeadaaGreatDoor.Dv
namespace Go.Dm
section
variable{z a:Mu}{x y:World}
def PP{K:Kn}{H:ab}(h:HR K z H x):HR K aK [] x where
 dom:=λid l e=>by cases e
 tot:=λid h=>by grind
 blk:=λid l b e=>by cases e
 lt:=λid l e=>by cases e
 inj:=λid c l d b a e=>by cases e
 kn:=h.kn;kf:=λb o v _⟨id,l,a,e,_⟩=>by cases e
def PQ{K:Kn}{H:ab}{d g:D}{v:Value}(h:eE H d=some g)(hr:HR K z H x)(k:VR K z H d v):∃f i,HR f z i x/\Nx K z H x f z i x/\VR f aK [] g v:=by
 have one:∀{d g:D},VR K z H d v->rZ H d=some g->∃f i,HR f z i x/\Nx K z H x f z i x/\VR f aK [] g v:=λ{d g}k h=>by
  unfold rZ at h;split at h;·rename_i d1 l m;cases h;obtain⟨f,a,b,c⟩:=(uW bG).1 H l d g K z x v m hr k;grind
  grind
 cases d with
 |tu ds=>
 simp[eE]at h;split at h;·rename_i n l m;cases h;obtain⟨vs,rfl,p,q⟩:=k.tu_inv;obtain⟨f,a,b,c,e⟩:=(uW bG).2.1 ds H l n K z x (λj=>vs.getD j (.tuple #[])) m hr (λj d o=>by grind);refine⟨f,l,a,b,.tu _ _ n vs (by omega) (λj d v o r=>?_)⟩;grind
 grind|_=>exact one k h
def VR.bare{K c:Kn}{H e:ab}{d:D}{v:Value}(h:VR K z H d v)(f:d.bare=true):VR c a e d v:=by cases h<;>first|exact .b ..|exact .i ..|exact .s ..|(cases f;done)
def HR.back{K f g:Kn}{i:Mu}{H j:ab}(hr:HR K z H x)(nx:Nx f aK [] x g i j y):HR K z H y/\Nx K z H x K z H y:=by
 have d:∀r,¬cd aK [] r:=λr⟨id,l,b,a,_⟩=>by cases a
 refine⟨⟨hr.dom,hr.tot,λid l b a c=>(hr.blk id l b a c).ext (.refl _ _ _) (λ_=>nx.keep _ (hr.lt id l a) (d _)),λid l a=>hI (hr.lt id l a) nx.size,hr.inj,λb o v e=>?_,hr.kf⟩,⟨.refl _ _ _,nx.os,nx.tape,nx.output,nx.size,λr h _=>nx.keep r h (d _),λr h=>.inl h,λb o v e=>.inl e⟩⟩;rw[<-hr.kn b o v e];exact World.cell?_of_block (nx.keep b (hr.klt e) (d _))
def ac9(K:Kn)(W:World)(q:D):Ending->World->Prop|.panicked e,b=>∃v a c d,e=rE v/\HR a c d b/\Nx K aK [] W a c d b/\VR a aK [] q v|_,_=>False
def PT{P:Program}{V:aw}{T:Kn->World->Prop}(l:P.follows .mixedOrders=true)(b:dK P V T){n:Nat}(m:fX P T (call V n))(o:ig P T (call V n)){f:FuncId}{a:aJ}(c:V.fn f=some a){ds:List D}{d:D}(h:dU V (call V n) n f a ds=.ret d){K:Kn}{vs:List Value}(g:T K x)(hr:HR K aK [] x)(i:bf K aK [] ds vs):Calls P f vs.toArray x (uF a.own K x d):=by
 obtain⟨fn,E,F,p,r,_,s⟩:=b.fn f a c;unfold dU at h;split at h;·rename_i d1 t;cases h;exact b.pext f ds _ a c t K x vs g hr i
 unfold gS at h;cases j:cX V (call V n) n a ds []with|bad=>grind|pan q G=>grind|ret d0 u=>
 rw[j]at h;simp at h;split at h;·rename_i d2 w;cases h;refine((AP l b m o (uV V (λf args H d y h=>(b.ext f args H d y h).1) n) p r s g hr i).1 _ _ j).mono (λe I k=>?_);cases e with|returned v=>obtain⟨z,A,B,nx,C⟩:=k;exact⟨z,A,u,d0,B,nx,C,w⟩|_=>exact k.elim
 grind
def ada{P:Program}{V:aw}{T:Kn->World->Prop}(o:P.follows .mixedOrders=true)(i:dK P V T){n:Nat}(p:fX P T (call V n))(r:ig P T (call V n)){f:FuncId}{g:aJ}(s:V.fn f=some g){ds:List D}{q:D}(h:dU V (call V n) n f g ds=.pan q){K:Kn}{vs:List Value}(t:T K x)(hr:HR K aK [] x)(u:bf K aK [] ds vs):Calls P f vs.toArray x (ac9 K x q):=by
 obtain⟨fn,M,N,w,y,_,z⟩:=i.fn f g s;unfold dU at h;split at h;·cases h
 unfold gS at h;cases j:cX V (call V n) n g ds []with|bad=>grind|ret d0 Q=>grind|pan A B=>
 rw[j]at h;simp at h;split at h;·rename_i d2 k C;cases h;refine((AP o i p r (uV V (λf args H d E h=>(i.ext f args H d E h).1) n) w y z t hr u).2 _ _ j).mono (λe F l=>?_);cases e with|panicked S=>obtain⟨v,G,m,rfl,I,nx,J⟩:=l;obtain⟨L,a,b,c⟩:=(uW bG).1 B k A q G m F v C I J;exact⟨v,L,m,k,rfl,a,nx.trans b,c⟩|_=>exact l.elim
 grind
theorem PU{P:Program}{V:aw}{T:Kn->World->Prop}(w:P.follows .mixedOrders=true)(a:dK P V T):∀n,fX P T (call V n)/\ig P T (call V n):=by intro n;induction n with|zero=>exact⟨λf args H d k h=>(by cases h),λf args H d k h=>(by cases h)⟩|succ n o=>
 obtain⟨o,x⟩:=o;have aa:∀{args ds:List D}{H g:ab}{K:Kn}{μ:Mu}{W:World}{vs:List Value},aW bG H args=some _->HR K μ H W->bf K μ H args vs->∃p,HR p μ g W/\Nx K μ H W p μ g W/\bf p aK [] ds vs:=λ{args ds H g K μ W vs}y hr i=>by
  have hg:∀(j:Nat)(d:D),args[j]?=some d->VR K μ H d (vs.getD j (.tuple #[])):=λj d e=>by
   have au:j<vs.length:=by rw[<-i.1];grind
   exact i.2 j d _ e (by grind)
  obtain⟨p,l,m,ah,av⟩:=(uW bG).2.1 args H g ds K μ W _ y hr hg;exact⟨p,l,m,by rw[ah,i.1],λj d v e e'=>by grind⟩
 refine⟨λf args H d k h=>?_,λf args H q k h=>?_⟩;·cases b:V.fn f with
 |none=>
  simp[call,b]at h;split at h;·rename_i G;exact⟨λhn=>absurd G hn,λ_=>afd w a o x (uV V (λf args H d k h=>(a.ext f args H d k h).1) n) h⟩
  rename_i G;refine⟨λ_=>?_,λe=>absurd e G⟩;split at h;·rename_i r;cases h;exact(a.ext _ _ _ _ _ r).2
  grind|some c=>
  obtain⟨fn,tm,bs,s,I,_,J⟩:=a.fn f c b;refine⟨λ_=>⟨a.known b,λK μ W vs t hr i=>?_⟩,λe=>(by rw[e,a.nyf]at s;cases s)⟩
  cases z:c.pure with|false=>
  simp[call,b,z]at h;split at h;·rename_i d1 g r;cases h;exact(a.ext f args H _ _ r).2.2 K μ W vs t hr i
  exact(AP w a o x (uV V (λf args H d k h=>(a.ext f args H d k h).1) n) s I J t hr i).1 _ _ h|true=>
  simp[call,b,z]at h;split at h;·cases h
  rename_i ds g y;obtain⟨p,l,m,L⟩:=aa y hr i;split at h;·rename_i d1 r;cases h;refine(PT w a o x b r (a.up t hr m) (PP l) L).mono (λe M A=>?_);cases e with
 |returned v=>
 obtain⟨N,al,Hc,d0,E,nx,F,u⟩:=A;have ac:∃B Q,HR B Q (eT c.own d1 g).2 M/\Nx K μ H W B Q (eT c.own d1 g).2 M/\VR B Q (eT c.own d1 g).2 (eT c.own d1 g).1 v:=by cases ad:c.own with
 |true=>
 rw[ad]at u;simp only[ol]at u;split at u;·rename_i an;obtain⟨ao,S,U,X⟩:=aeW E nx l d0 d1 v F u an;exact⟨N,ao,S,m.trans U,X⟩
 grind|false=>rw[ad]at u;obtain⟨B,H2,S,U,X⟩:=PQ u E F;have C:=PS.start l S (nx.trans U);exact⟨B,μ,C.hr,m.trans C.nx,X.pure⟩
 cases Y:(c.fre&&d1.bare)with|false=>simp[jN,Y];exact ac|true=>
 obtain⟨_,_,_,_,m3⟩:=ac;have hb:=(D0 _ _▸Y).2;have ap:∀Z,eT c.own d1 Z=(d1,Z):=λZ=>by cases c.own with|false=>rfl|true=>cases d1<;>first|rfl|(cases hb;done)
 simp[jN,Y,ap]at m3⊢;obtain⟨b1,b2⟩:=hr.back nx;exact⟨K,μ,b1,b2,m3.bare hb⟩
 |_=>exact A.elim
  ·cases h
  cases h
 cases b:V.fn f with|none=>
 simp[call,b]at h;split at h;·exact(afj h).elim
 split at h<;>cases h|some c=>
 obtain⟨fn,tm,bs,s,I,_,J⟩:=a.fn f c b;refine⟨λe=>(by rw[e,a.nyf]at s;cases s),a.known b,λK μ W vs t hr i=>?_⟩
 cases z:c.pure with|false=>
 simp[call,b,z]at h;split at h;·cases h
 exact(AP w a o x (uV V (λf args H d k h=>(a.ext f args H d k h).1) n) s I J t hr i).2 _ _ h|true=>
 simp[call,b,z]at h;split at h;·cases h
 rename_i ds g y;obtain⟨p,l,m,L⟩:=aa y hr i;split at h;·cases h
 ·rename_i q1 r;cases h;refine(ada w a o x b r (a.up t hr m) (PP l) L).mono (λe M A=>?_);cases e with|panicked ch=>obtain⟨v,N,al,Hc,rfl,E,nx,F⟩:=A;have C:=PS.start l E nx;exact⟨v,N,μ,rfl,C.hr,m.trans C.nx,F.pure⟩|_=>exact A.elim
 cases h
def rG{P:Program}{V:aw}{T:Kn->World->Prop}(a:P.follows .mixedOrders=true)(b:dK P V T)(n:Nat):fX P T (call V n):=by grind[PU]
def E0{P:Program}{V:aw}{T:Kn->World->Prop}(a:P.follows .mixedOrders=true)(b:dK P V T)(n:Nat):ig P T (call V n):=(PU a b n).2
def adb{P:Program}{V:aw}{T:Kn->World->Prop}(a:P.follows .mixedOrders=true)(b:dK P V T){n:Nat}{f:FuncId}{ds:List D}{d:D}(h:dh V n f ds=.ret d){K:Kn}{vs:List Value}(e:T K x)(hr:HR K aK [] x)(g:bf K aK [] ds vs):∃own,Calls P f vs.toArray x (uF own K x d):=by cases n with|zero=>cases h|succ n=>unfold dh at h;cases c:V.fn f with|none=>grind|some i=>simp[c]at h;exact⟨_,PT a b (rG a b n) (E0 a b n) c h e hr g⟩
end
end Go.Dm
