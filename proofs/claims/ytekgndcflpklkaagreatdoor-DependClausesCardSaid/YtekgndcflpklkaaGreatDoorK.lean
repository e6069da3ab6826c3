/-
  Part of the proof.
-/
import Derived.Test.YtekgndcflpklkaaGreatDoorJ
import Derived.Test.YtekgndcflpklkaaGreatDoorProg
import Derived.KernelRfl
set_option linter.all false
namespace Go.Proofs.YtekgndcflpklkaaGreatDoor.Dv
section
open Go.Dm Go.Proofs
set_option maxRecDepth 10000
def LL(P:Program)(V:au)(g:FuncId)(v:aH)(a b:List Nat):Bool:=match P.funcs[g]? with|some fn=>km P V fn v a b&&(!decide (fn.name="runtime.NumGoroutine")&&(match v.rg with|none=>true|some f=>f==g))|none=>false
def aqy{P:Program}{V:au}{g:FuncId}{v:aH}{a b:List Nat}(h:LL P V g v a b=true):CI P V g v:=by
 unfold LL at h;split at h
 ·rename_i fn e;simp only[D0,hY,p5]at h;refine⟨fn,a,b,e,h.1,h.2.1,?_⟩;have:=h.2.2;split at this;·exact .inl ‹_›
  rename_i f q;exact .inr (by rw[q,eq_of_beq this])
 cases h
def xx(P:Program)(V:au):List (FuncId×aH)->List (List Nat×List Nat)->Bool|[],_=>true|(g,v)::l,(a,b)::m=>LL P V g v a b&&xx P V l m|_,_=>false
def XL{P:Program}{V:au}:∀{l:List (FuncId×aH)}{m:List (List Nat×List Nat)},xx P V l m=true->∀q∈l,CI P V q.1 q.2
 |[],_,_,_,h=>by cases h|(g,v)::l,[],h,_,_=>by cases h|(g,v)::l,(a,b)::m,h,q,c=>by
  unfold xx at h;rw[D0]at h;rcases dA.1 c with rfl|c;·exact aqy h.1
  exact XL h.2 q c
def XM:∀(l:List (FuncId×aH))(f:FuncId)(v:aH),BZ l f=some v->(f,v)∈l
 |[],_,_,h=>by cases h|(g,u)::r,f,v,h=>by
  simp only[BZ]at h;split at h;·rename_i e;cases h;subst e;exact N2
  exact K2 _ (XM r f v h)
def XN:∀(l:List (Nat×Rnd))(f:Nat)(v:Rnd),BY l f=some v->(f,v)∈l
 |[],_,_,h=>by cases h|(g,u)::r,f,v,h=>by
  simp only[BY]at h;split at h;·rename_i e;cases h;subst e;exact N2
  exact K2 _ (XN r f v h)
def aqz{P:Program}{V:au}{l:List (FuncId×aH)}{m:List (List Nat×List Nat)}{g n:Nat}(h:∀k<n,xx P V ((l.drop (g*k)).take g) ((m.drop (g*k)).take g)=true)(d:l.length<=g*n)(a:0<g):∀q∈l,CI P V q.1 q.2:=by intro q b;obtain⟨i,hi,rfl⟩:=kh.1 b;refine XL (h (i/g) (Nat.div_lt_of_lt_mul (by omega))) _ ?_;have c:=AAR i g;have e:=ma i a;refine kh.2 ⟨i%g,by simp;omega,?_⟩;simp[c]
section
variable(e:FuncId->List D->ab->Option (D×ab))(p:FuncId->List D->Option D)
noncomputable def gG(k:Nat):Bool:=xx Tryz.prog (Vx e p) ((LG.drop (16*k)).take 16) ((tbs.drop (16*k)).take 16)
def ok0:gG e p 0=true:=by kernel_rfl
def ok1:gG e p 1=true:=by kernel_rfl
def ok2:gG e p 2=true:=by kernel_rfl
def ok3:gG e p 3=true:=by kernel_rfl
def ok4:gG e p 4=true:=by kernel_rfl
def ok5:gG e p 5=true:=by kernel_rfl
def ok6:gG e p 6=true:=by kernel_rfl
def ok7:gG e p 7=true:=by kernel_rfl
def ok8:gG e p 8=true:=by kernel_rfl
def ok9:gG e p 9=true:=by kernel_rfl
def aqK:gG e p 10=true:=by kernel_rfl
def aqL:gG e p 11=true:=by kernel_rfl
def aqM:gG e p 12=true:=by kernel_rfl
def aqN:gG e p 13=true:=by kernel_rfl
def aqO:gG e p 14=true:=by kernel_rfl
def aqP:gG e p 15=true:=by kernel_rfl
def aqQ:gG e p 16=true:=by kernel_rfl
def aqR:∀k<17,gG e p k=true|0,_=>ok0 e p|1,_=>ok1 e p|2,_=>ok2 e p|3,_=>ok3 e p|4,_=>ok4 e p|5,_=>ok5 e p|6,_=>ok6 e p|7,_=>ok7 e p|8,_=>ok8 e p|9,_=>ok9 e p|10,_=>aqK e p|11,_=>aqL e p|12,_=>aqM e p|13,_=>aqN e p|14,_=>aqO e p|15,_=>aqP e p|16,_=>aqQ e p|n+17,h=>by omega
def aqS:(LH.all λq=>yq Tryz.prog (Vx e p) q.2)=true:=by kernel_rfl
end
def noY:Tryz.prog.funcs[yF]?=none:=by kernel_rfl
def aqU:∀(t:TypeId)(m:String)(f:FuncId),LJ t m=some f->f≠yF/\∀(v:Value)(W:World),(Go.method (Tryz.prog.types.size+Made.depth) t v m).run Tryz.prog W=.ok (f,v) W:=by
 intro t m f h;unfold LJ at h;split at h;·rename_i a;obtain⟨rfl,rfl⟩:=a;cases h;exact⟨by decide,λv W=>by kernel_rfl⟩
 split at h;·rename_i a;obtain⟨rfl,rfl⟩:=a;cases h;exact⟨by decide,λv W=>by kernel_rfl⟩
 split at h;·rename_i a;obtain⟨rfl,rfl⟩:=a;cases h;exact⟨by decide,λv W=>by kernel_rfl⟩
 cases h
def XO{e:FuncId->List D->ab->Option (D×ab)}{p:FuncId->List D->Option D}{T:Kn->World->Prop}(k:∀{K:Kn}{μ:Mu}{H:ab}{W:World}{c:Kn}{l:Mu}{a:ab}{i:World},T K W->HR K μ H W->Nx K μ H W c l a i->T c i)(ext:∀(f:FuncId)(args:List D)(H:ab)(d:D)(a:ab),e f args H=some (d,a)->H.length<=a.length/\mc Tryz.prog f/\∀(K:Kn)(μ:Mu)(W:World)(vs:List Value),T K W->HR K μ H W->aY K μ H args vs->Calls Tryz.prog f vs.toArray W (fu K μ H W d a))(m:∀(f:FuncId)(ds:List D)(d:D)(b:aH),(Vx e p).fn f=some b->p f ds=some d->∀(K:Kn)(W:World)(vs:List Value),T K W->HR K aG [] W->aY K aG [] ds vs->Calls Tryz.prog f vs.toArray W (sx b.own K W d))(n:∀(g w:Nat)(rows:List (List D)),B0 g=some (w,rows)->∀(K:Kn)(W:World),T K W->sy K g w rows):cm Tryz.prog (Vx e p) T:=⟨k,λf b h=>aqz (aqR e p) (by decide) (by decide) (f,b) (XM LG f b h),noY,λj r h=>⟨rfl,TA.1 (aqS e p) (j,r) (XN LH j r h)⟩,aqU,ext,n,m⟩
end
end Go.Proofs.YtekgndcflpklkaaGreatDoor.Dv
