/-
  Part of the proof.
-/
import GoSem.Dispatch
import Derived.Attr
set_option linter.all false
def D0:=@Bool.and_eq_true
def E1:=@if_neg
def E2:=@List.getElem?_eq_getElem
def E4:=@List.take_of_length_le
def G1:=@if_pos
def Hk:=@Nat.le_refl
def Hq:=@decide_eq_true_eq
def Hy:=@List.getElem?_set_ne
def K0:=@getElem!_pos
def K2:=@List.mem_cons_of_mem
def N1:=@List.getElem?_set_self
def N2:=@List.mem_cons_self
def N3:=@Nat.mul_le_mul_right
def Rp:=@List.length_append
def R1:=@decide_eq_false
def R2:=@decide_eq_true
def S2:=@List.length_map
def TA:=@List.all_eq_true
def TB:=@List.mem_append_left
def T1:=@List.cons_append
def U3:=@beq_iff_eq
def V2:=@List.length_pos_iff
def W0:=@List.nil_append
def X0:=@List.getElem?_append_left
def bN:=@List.mem_append
def dA:=@List.mem_cons
def dG:=@Iff.rfl
def da:=@Int.toNat_natCast
def dg:=@List.getElem?_append_right
def dm:=@List.drop_eq_nil_of_le
def dn:=@List.append_assoc
def eD:=@Option.getD_some
def eH:=@List.getElem?_map
def ef:=@Option.map_some
def eh:=@List.length_set
def em:=@Nat.lt_of_lt_of_le
def ep:=@Option.some.injEq
def eu:=@Nat.mul_le_mul_left
def ey:=@List.pairwise_cons
def ez:=@List.drop_of_length_le
def fA:=@List.map_cons
def fD:=@List.length_cons
def fL:=@List.length_take
def fa:=@List.mem_range
def fd:=@List.mem_append_right
def fx:=@Classical.choose_spec
def f0:=@List.mem_map
def gA:=@of_decide_eq_true
def gC:=@Array.getElem?_eq_getElem
def ga:=@Classical.byContradiction
def gb:=@congrArg
def gp:=@Nat.le_trans
def gx:=@List.pairwise_append
def hI:=@List.map_append
def hM:=@Nat.lt_or_ge
def hO:=@Nat.lt_of_le_of_lt
def hY:=@Bool.not_eq_true'
def il:=@Nat.add_mul
def i4:=@Nat.zero_add
def ka:=@Option.map_eq_some_iff
def kb:=@Option.some.inj
def kh:=@List.mem_iff_getElem
def kv:=@List.getElem_mem
def kx:=@List.length_nil
def kz:=@List.mem_singleton
def k0:=@Nat.add_zero
def k6:=@List.length_eq_zero_iff
def k7:=@List.filter_append
def lA:=@Int.cast_ofNat_Int
def lB:=@List.mem_of_getElem?
def l3:=@List.length_drop
def l4:=@List.getD_eq_getElem?_getD
def ma:=@Nat.mod_lt
def me:=@Nat.pow_succ
def mm:=@List.drop_eq_getElem_cons
def m0:=@List.ext_getElem?
def nG:=@Nat.pow_le_pow_right
def nr:=@BitVec.ofInt_natCast
def nu:=@Nat.mul_zero
def n0:=@List.mem_filter
def n3:=@List.length_singleton
def n4:=@List.mem_map_of_mem
def oa:=@Nat.mod_eq_of_lt
def od:=@List.filter_cons
def ot:=@Option.isSome_some
def oy:=@Option.isSome_none
def oz:=@Nat.mul_le_mul
def pa:=@Nat.mul_ne_zero
def pb:=@List.mem_flatMap
def ph:=@List.take_length
def pu:=@List.take_append_drop
def pv:=@List.take_add_one
def p5:=@decide_eq_false_iff_not
def qb:=@Int.lt_irrefl
def qo:=@List.cons.injEq
def qq:=@List.append_nil
def qu:=@List.getElem?_zipIdx
def rr:=@List.filter_eq_nil_iff
def sa:=@Option.getD_none
def sd:=@Int.le_refl
def sm:=@Nat.pow_add
def sn:=@List.filter_eq_self
def s0:=@List.set_set
def s4:=@List.filter_filter
def ta:=@List.getElem!_cons_zero
def td:=@Nat.pow_pos
def uA:=@Int.natAbs_mul
def ux:=@Array.length_toList
def uy:=@List.getElem?_range
def vd:=@Nat.mod_add_div
def vn:=@Nat.min_eq_left
def vx:=@List.pairwise_iff_getElem
def vy:=@Option.map_none
def wN:=@Nat.eq_zero_or_pos
def wv:=@List.getElem_map
def wx:=@Prod.mk.injEq
def wy:=@Nat.mul_assoc
def xt:=@Int.eq_ofNat_of_zero_le
def x3:=@List.filter_congr
def x4:=@Int.natCast_mul
def x6:=@List.foldl_cons
def yy:=@List.nodup_cons
def y3:=@List.getElem_set_ne
def y4:=@List.map_nil
def y5:=@Bool.true_and
def za:=@List.take_succ_eq_append_getElem
def zb:=@Array.toList_map
def zv:=@Bool.false_eq_true
def AAA:=@Array.getElem?_toList
def AAB:=@List.getElem?_eq_none
def AAC:=@BitVec.ofNat_toNat
def AAD:=@BitVec.setWidth_eq
def AAE:=@Nat.div_lt_iff_lt_mul
def AAF:=@List.getElem?_eq_some_iff
def AAG:=@Nat.add_mul_div_left
def AAH:=@List.map_set
def AAI:=@Option.isSome_iff_exists
def AAJ:=@Array.size_setIfInBounds
def AAK:=@List.filter_map
def AAL:=@List.nodup_append
def AAM:=@List.filterMap_cons
def AAN:=@Ne.symm
def AAO:=@List.not_mem_nil
def AAP:=@Nat.mul_one
def AAQ:=@List.getElem?_drop
def AAR:=@Nat.div_add_mod
def AAS:=@List.getElem_set_self
def AAT:=@Array.getElem?_eq_some_iff
def AAU:=@Bool.false_or
def AAV:=@List.flatten_cons
def AAW:=@List.mem_of_mem_take
def AAX:=@List.mem_of_mem_drop
def AAY:=@Nat.lt_of_mul_lt_mul_left
def AAZ:=@List.rel_of_pairwise_cons
def AAa:=@Bool.or_eq_false_iff
def AAb:=@Nat.eq_of_mul_eq_mul_left
def AAc:=@List.drop_drop
def AAd:=@List.drop_zero
def AAe:=@Nat.div_eq_of_lt
def AAf:=@List.map_map
def AAg:=@List.map_congr_left
def AAh:=@List.take_set_of_le
def AAi:=@List.getElem?_replicate
def AAj:=@List.filter_cons_of_pos
def AAk:=@List.filter_cons_of_neg
def AAl:=@List.getElem!_cons_succ
def AAm:=@List.getLast?_singleton
def AAn:=@List.all_cons
def AAo:=@Bool.and_true
def AAp:=@Nat.lt_irrefl
def AAq:=@Bool.or_eq_true
def AAr:=@List.length_eq_one_iff
def AAs:=@Nat.zero_le
def AAt:=@List.eq_nil_of_length_eq_zero
def AAu:=@List.flatMap_cons
def AAv:=@Nat.mul_comm
def AAw:=@Nat.gcd_comm
def AAx:=@Nat.mul_lt_mul_of_pos_right
def AAy:=@List.Pairwise.filter
def AAz:=@Nat.le_max_right
def AA0:=@List.getLast?_append
def AA1:=@Nat.add_assoc
def AA2:=@Nat.lt_of_mul_lt_mul_right
def AA3:=@List.replicate_succ
def AA4:=@Nat.add_mul_mod_self_left
def AA5:=@Option.isNone_iff_eq_none
def AA6:=@BitVec.toNat_ofNat
def AA7:=@Nat.succ_mul
def AA8:=@Array.foldl_toList
def AA9:=@List.all_nil
def ABA:=@List.getElem?_cons_succ
def ABB:=@List.pairwise_singleton
def ABC:=@Array.isEmpty_iff
def ABD:=@List.any_eq_false
def ABE:=@List.foldl_append
def ABF:=@List.pairwise_map
def ABG:=@List.Sublist.refl
def ABH:=@List.set_eq_take_append_cons_drop
def ABI:=@BitVec.isLt
def ABJ:=@List.pairwise_lt_range
def ABK:=@Nat.pow_mul
def ABL:=@Nat.div_div_eq_div_mul
def ABM:=@List.map_take
def ABN:=@Nat.eq_zero_of_gcd_eq_zero_right
def ABO:=@Array.mem_of_getElem?
def ABP:=@Array.getElem?_modify
def ABQ:=@List.eq_nil_or_concat
def ABR:=@List.length_filter_le
def ABS:=@Nat.div_lt_self
def ABT:=@Array.getElem_setIfInBounds_ne
def ABU:=@List.eq_nil_iff_forall_not_mem
def ABV:=@List.range_eq_range'
def ABW:=@List.getElem?_of_mem
def ABX:=@List.dropLast_subset
def ABY:=@Int.le_of_lt
def ABZ:=@Nat.sub_self
def ABa:=@Int.not_lt
def ABb:=@List.getElem!_eq_getElem?_getD
def ABc:=@List.Pairwise.of_map
def ABd:=@List.getD_cons_succ
def ABe:=@List.getD_cons_zero
def ABf:=@List.drop_set_of_lt
def ABg:=@Array.getInternal_eq_getElem
def ABh:=@Bool.and_false
def ABi:=@Int.natAbs_neg
def ABj:=@List.map_replicate
def ABk:=@List.append_of_mem
def ABl:=@Nat.lt_or_gt_of_ne
def ABm:=@Array.getD_eq_getD_getElem?
def ABn:=@Nat.add_sub_cancel
def ABo:=@Nat.mul_lt_mul_of_pos_left
def ABp:=@List.cons.inj
def ABq:=@List.exists_cons_of_ne_nil
def ABr:=@Array.getElem?_append_left
def ABs:=@List.getElem?_set
def ABt:=@List.length_range
def ABu:=@List.size_toArray
def ABv:=@Array.toList_push
def ABw:=@List.getElem_take
def ABx:=@List.getElem_drop
def ABy:=@Array.ext'
def ABz:=@bne_iff_ne
def AB0:=@Array.mapM_eq_mapM_toList
def AB1:=@List.getLast?_eq_none_iff
def AB2:=@Int.natAbs_ediv_le_natAbs
def AB3:=@Nat.le_of_lt
def AB4:=@Nat.zero_mul
def AB5:=@Bool.or_true
def AB6:=@List.range'_succ
def AB7:=@List.flatMap_nil
def AB8:=@Int.lt_or_le
def AB9:=@Int.le_trans
def ACA:=@List.ext_getElem
def ACB:=@List.Perm.eq_of_pairwise
def ACC:=@Int.mul_ediv_cancel_left
def ACD:=@Bool.true_or
def ACE:=@Int.gcd_natCast_natCast
def ACF:=@List.mem_singleton_self
def ACG:=@Nat.mul_pos
def ACH:=@List.set_getElem_self
def ACI:=@List.getElem?_toArray
def ACJ:=@Bool.false_and
def ACK:=@Bool.and_eq_false_iff
def ACL:=@Nat.mul_mod_mul_right
def ACM:=@Array.toArray_toList
def ACN:=@Nat.sub_le
def ACO:=@List.dropLast_concat
def ACP:=@List.drop_succ_cons
def ACQ:=@Nat.div_eq_of_lt_le
def ACR:=@List.contains_cons
def ACS:=@List.getElem?_take
def ACT:=@List.zip_cons_cons
def ACU:=@Bool.false_ne_true
def ACV:=@Nat.gcd_zero_right
def ACW:=@Nat.div_pos
def ACX:=@Int.neg_neg
def ACY:=@Nat.mul_add
def ACZ:=@Nat.gcd_rec
namespace Go.Dm
inductive D where|b(x:Bool)|i(k:IntKind)(n:Int)|s(l:List UInt8)|nil|z|im(w:Nat)(rows:List (List D))|sv(w:Nat)(rows:List (List D))|mu(a n off len:Nat)|ow(w:Nat)(rows:List (List D))|np|lp(k off:Nat)|hp(b off:Nat)|ap(a n i off:Nat)|aa(a:Nat)|ip(cells:List D)|mnil|mp(m:Nat)|fn(f:Fn)(first captured:List D)|nf|ni|ifc(t:TypeId)(v:D)|it(r:Nat)|ag(cells:List D)|tu(vs:List D)|bx(cells:List D)|yb(a n:Nat)|yl(y:Nat)|u deriving Inhabited
inductive RS where|rd|bz|dr|dx(id:Nat)deriving Inhabited,DecidableEq
inductive an where|hb(t:Nat)(cells:List D)|ar(w:Nat)(rows:List (List D))(cap:Option Nat)(pure lock:Bool)|mp(es:List (D×D))|si(l:List UInt8)(pos:Nat)|yt(t:Nat)(l:List UInt8)(lock:Bool)|df|yh(f:Nat)(path:List Bool)(j nt:Nat)(tm:List Nat)(x:List D)(s:RS)|no deriving Inhabited
abbrev ab:=List an
inductive O where|l(i:Nat)|s(k:Nat)|c(d:D)deriving Inhabited
inductive AB where|sl(k:Nat)|lo(i:Nat)deriving Inhabited
inductive EK where|b|st(sh:List Nat)|sl|pt|mp|fn|ifc deriving Inhabited
inductive KK where|c(n:Nat)|st(sh:List Nat)deriving Inhabited
inductive af where|mov(x:O)|pick(c a b:O)|lal(zs:List D)|lbx(x:O)(n:Nat)|hal(t:Nat)(zs:List D)|hbx(t:Nat)(x:O)(n:Nat)|haa(w:Nat)(zs:List (List D))(pure:Bool)|lfa(a:AB)(off:Nat)|lld(a:AB)(n:Nat)(agg:Bool)|lst(a:AB)(x:O)(n:Nat)|fad(x:O)(off:Nat)|iad(x ix:O)(w:Nat)|iar(x ix:O)(n w:Nat)|ld(x:O)(n:Nat)(agg:Bool)|ldh(x:O)(n:Nat)(agg:Bool)|st(x v:O)(n:Nat)|bin(op:BinOp)(x y:O)|eqv(neg:Bool)(k:EK)(x y:O)|un(op:UnOp)(x:O)|cvi(k:IntKind)(x:O)|agc(zs:List D)(parts:List (Nat×Nat×O))|bsl(w len:Nat)(zs:List D)(parts:List (Nat×O))(pure:Bool)|bsv(w len:Nat)(zs:List D)(parts:List (Nat×O))|len(k:Nat)(x:O)|app(x y:O)(w bytes:Nat)(pure:Bool)|mks(l c:O)(w bytes:Nat)(zs:List D)(pure:Bool)|sli(str:Bool)(w:Nat)(x:O)(lo hi mx:Option O)|sla(x:O)(n w:Nat)(lo hi:Option O)|ixs(x ix:O)|ext(x:O)(j:Nat)|mkf(f:Fn)(first captured:List O)|mkm|lk(kk:KK)(m k:O)(ok:Bool)(zero:D)|mup(kk:KK)(m k v:O)|mki(t:TypeId)(x:O)|tas(x:O)(t:TypeId)(ok:Bool)(zero:D)|nck(x:O)|mx(xs:List O)|mn(xs:List O)|call(f:FuncId)(args:List O)|calv(x:O)(args:List O)|inv(x:O)(m:String)(args:List O)|pan(x:O)|stk|ixa(x ix:O)(n w:Nat)(agg:Bool)|cpl(f:FuncId)(args:List O)|calx(f:FuncId)(args:List O)|calvx(x:O)(args:List O)|gia(g:Nat)(ix:O)(n w:Nat)|callp(f:FuncId)(args:List O)deriving Inhabited
def af.pans:af->Bool|.callp ..=>true|_=>false
structure ae where
 op:af
 keep:Option Nat:=none
 guard:Option (O×Bool):=none deriving Inhabited
inductive aQ where|skip|reg(ops:List ae)(draw:Option Bool)|seq(a b:aQ)|cond(c:O)(t e:aQ)|block(id:Nat)(c:aQ)|loop(c:aQ)|exit(id:Nat)|ret|stuck|rng(j:Nat)(x:O)deriving Inhabited
inductive cU where|s(k:Nat)|bx(k n:Nat)(agg:Bool)|hb(k n:Nat)(agg:Bool)deriving Inhabited
structure eY where
 pre:aQ
 caps:List Nat
 g:FuncId
 ns:Nat
 rk:Nat
 body:aQ
 tm:List Nat
 bs:List Nat deriving Inhabited
structure aH where
 npar:Nat
 nsl:Nat
 res:List cU
 body:aQ
 pure:Bool
 own:Bool
 dfr:Option eY
 fre:Bool:=false
 rg:Option FuncId:=none deriving Inhabited
structure Rnd where
 f:Nat
 path:List Bool
 nt:Nat
 tm:List Nat
 ps:List Nat
 a:aQ
 b:aQ deriving Inhabited
structure au where
 fn:FuncId->Option aH
 meth:TypeId->String->Option FuncId
 ext:FuncId->List D->ab->Option (D×ab)pext:FuncId->List D->Option D
 glob:Nat->Option (Nat×List (List D)):=λ_=>none
 rnd:Nat->Option Rnd:=λ_=>none
structure St where
 sl:List D
 hp:ab deriving Inhabited
def D.cells?:D->Option (List D)|.ag a=>some a|.tu _|.u|.bx _|.lp _ _|.ow _ _=>none|d=>some [d]
def D.cellsN(d:D)(n:Nat):Option (List D):=match d.cells? with|some a=>if a.length=n then some a else none|none=>none
def val(b:Bool)(a:List D):Option D:=match b with|true=>some (.ag a)|false=>match a with|[d]=>some d|_=>none
def dS(a:List D)(b n:Nat):Option (List D):=if b+n<=a.length then some ((a.drop b).take n)else none
def cA(a:List D)(b:Nat)(vs:List D):Option (List D):=if b+vs.length<=a.length then some (a.take b++vs++a.drop (b+vs.length))else none
def fP:D->D->Option Bool|.b x,.b y=>some (x==y)|.i k x,.i a y=>if k=a then some (x==y)else none|.s x,.s y=>some (x==y)|_,_=>none
def fQ:Nat->D->Bool|0,.b _=>true|1,.i _ _=>true|2,.s _=>true|_,_=>false
def cV:List Nat->List D->List D->Option Bool
 |[],[],[]=>some true|n::a,x::b,y::c=>match fQ n x,fP x y with|true,some true=>cV a b c|true,some false=>if b.length=a.length/\c.length=a.length then some false else none|_,_=>none
 |_,_,_=>none
def uS:EK->D->Option Bool
 |.sl,d=>match d with|.nil=>some true|.z|.im ..|.mu ..|.sv ..=>some false|_=>none
 |.pt,d=>match d with|.np=>some true|.hp ..|.ap ..|.ip ..|.aa ..=>some false|_=>none
 |.mp,d=>match d with|.mnil=>some true|.mp _=>some false|_=>none
 |.fn,d=>match d with|.nf=>some true|.fn ..=>some false|_=>none
 |.ifc,d=>match d with|.ni=>some true|.ifc ..=>some false|_=>none
 |_,_=>none
def uT(k:EK)(x y:D):Option Bool:=match k with
 |.b=>match x,y with|.b x,.b y=>some (x==y)|_,_=>none
 |.st c=>match x,y with|.ag d,.ag e=>cV c d e|_,_=>none
 |k=>match k,x,y with|.pt,.hp a i,.hp b j=>if a=b/\i=j then some true else none|k,x,y=>match uS k y with
 |some true=>uS k x|some false=>match uS k x with|some true=>some false|_=>none
 |none=>none
def eF(neg:Bool)(k:EK)(x y:D):Option D:=match uT k x y with|some e=>some (.b (e !=neg))|none=>none
def qp:List UInt8->List UInt8->Bool|_,[]=>false|[],_::_=>true|a::x,b::y=>a<b||(a==b&&qp x y)
def i9(a:BinOp)(k:IntKind)(x y:Int):Option D:=match a with|.add=>some (.i k (k.wrap (x+y)))|.sub=>some (.i k (k.wrap (x-y)))|.mul=>some (.i k (k.wrap (x*y)))|.quo=>if y=0 then none else some (.i k (k.wrap (x.tdiv y)))|.rem=>if y=0 then none else some (.i k (x.tmod y))|.and=>some (.i k (k.wrap (BitVec.ofInt k.bits x&&&BitVec.ofInt k.bits y).toNat))|.or=>some (.i k (k.wrap (BitVec.ofInt k.bits x|||BitVec.ofInt k.bits y).toNat))|.xor=>some (.i k (k.wrap (BitVec.ofInt k.bits x^^^BitVec.ofInt k.bits y).toNat))|.andNot=>some (.i k (k.wrap (BitVec.ofInt k.bits x&&&~~~(BitVec.ofInt k.bits y)).toNat))|.eql=>some (.b (x==y))|.neq=>some (.b (x !=y))|.lss=>some (.b (decide (x<y)))|.leq=>some (.b (decide (x<=y)))|.gtr=>some (.b (decide (x>y)))|.geq=>some (.b (decide (x>=y)))|_=>none
def uU(a:BinOp)(k:IntKind)(x y:Int):Option D:=if y<0 then none else match a with|.shl=>some (.i k (k.wrap (x*2^(min y.toNat k.bits))))|.shr=>some (.i k (x.fdiv (2^(min y.toNat k.bits))))|_=>none
def CJ:Nat:=4611686018427387904
def uV(a:BinOp)(x y:List UInt8):Option D:=match a with|.add=>if x.length+y.length<=CJ then some (.s (x++y))else none|.eql=>some (.b (x==y))|.neq=>some (.b (!(x==y)))|.lss=>some (.b (qp x y))|.leq=>some (.b (qp x y||x==y))|.gtr=>some (.b (!(qp x y||x==y)))|.geq=>some (.b (!(qp x y)))|_=>none
def bin(b:BinOp)(x y:D):Option D:=match x,y with
 |.i k a,.i d c=>match b with|.shl|.shr=>uU b k a c|_=>if k=d then i9 b k a c else none
 |.s a,.s c=>uV b a c|_,_=>none
def un(a:UnOp)(x:D):Option D:=match a,x with|.neg,.i k n=>some (.i k (k.wrap (0-n)))|.xor,.i k n=>some (.i k (k.wrap (BitVec.ofInt k.bits (if k.signed then-1 else k.max)^^^BitVec.ofInt k.bits n).toNat))|.not,.b x=>some (.b (!x))|_,_=>none
def eG(d:D)(len:Nat):Option Nat:=match d with|.i _ j=>if 0<=j/\j<len then some j.toNat else none|_=>none
def fw(d:D)(a:Nat):Option Nat:=match d with|.i _ j=>if 0<=j/\j<=a then some j.toNat else none|_=>none
def aK(H:ab)(a n:Nat):Option (Nat×List (List D)×Option Nat×Bool×Bool):=match H[a]? with|some (.ar w rows cap p lk)=>if rows.length=n then some (w,rows,cap,p,lk)else none|_=>none
def cN(H:ab)(x:D)(n:Nat):Option (List D):=match x with
 |.hp b c=>match H[b]? with|some (.hb _ d)=>dS d c n|_=>none
 |.ap a m i c=>match aK H a m with
  |some (_,rows,_,_,_)=>match rows[i]? with|some r=>dS r c n|none=>none
  |none=>none
 |.aa a=>match H[a]? with|some (.ar w rows (some _) _ _)=>if n=w*rows.length then some rows.flatten else none|_=>none
 |.ip d=>dS d 0 n|_=>none
def ko(H:ab)(x:D)(n:Nat):Option (List D):=match x with|.hp b a=>cN H (.hp b a) n|_=>none
def MJ{H:ab}{x:D}{n:Nat}{r:List D}(h:ko H x n=some r):cN H x n=some r/\∃b a,x=.hp b a:=by cases x<;>first|exact⟨h,_,_,rfl⟩|cases h
def mS{α:Type}(f:ab->α->Option (α×ab)):ab->List α->Option (List α×ab)|H,[]=>some ([],H)|H,d::ds=>match f H d with
 |some (a,b)=>match mS f b ds with|some (c,e)=>some (a::c,e)|none=>none
 |none=>none
def YY(f:ab->D->Option (D×ab))(g:ab->List D->Option (List D×ab))(h:ab->List (List D)->Option (List (List D)×ab))(H:ab)(d:D):Option (D×ab):=match d with
 |.b _|.i _ _|.s _|.nil|.z|.im _ _|.np|.mnil|.nf|.ni=>some (d,H)|.fn _ [] []=>some (d,H)|.mu a n e len=>match aK H a n with|some (w,rows,cap,true,_)=>if e+len<=n then some (.im w ((rows.drop e).take len),H.set a (.ar w rows cap true true))else none|_=>none
 |.sv w rows=>match h H rows with|some (j,c)=>some (.im w j,c)|none=>none
 |.ifc t v=>match f H v with|some (k,c)=>some (.ifc t k,c)|none=>none
 |.ag l=>match g H l with|some (m,c)=>some (.ag m,c)|none=>none
 |_=>none
def mf:Nat->(ab->D->Option (D×ab))×(ab->List D->Option (List D×ab))×(ab->List (List D)->Option (List (List D)×ab))|0=>(λ_ _=>none,λH ds=>match ds with|[]=>some ([],H)|_::_=>none,λH a=>match a with|[]=>some ([],H)|_::_=>none)|m+1=>(YY (mf m).1 (mf m).2.1 (mf m).2.2,mS (mf m).1,mS (mf m).2.1)
def bC(m:Nat)(H:ab)(d:D):Option (D×ab):=(mf m).1 H d
def aX(m:Nat)(H:ab)(ds:List D):Option (List D×ab):=(mf m).2.1 H ds
def g9(m:Nat)(H:ab)(a:List (List D)):Option (List (List D)×ab):=(mf m).2.2 H a
theorem yu(H:ab)(d:D):bC 0 H d=none:=rfl
theorem gJ(m:Nat)(H:ab)(d:D):bC (m+1) H d=match d with
 |.b _|.i _ _|.s _|.nil|.z|.im _ _|.np|.mnil|.nf|.ni=>some (d,H)|.fn _ [] []=>some (d,H)|.mu a n e len=>match aK H a n with|some (w,rows,cap,true,_)=>if e+len<=n then some (.im w ((rows.drop e).take len),H.set a (.ar w rows cap true true))else none|_=>none
 |.sv w rows=>match g9 m H rows with|some (f,c)=>some (.im w f,c)|none=>none
 |.ifc t v=>match bC m H v with|some (g,c)=>some (.ifc t g,c)|none=>none
 |.ag h=>match aX m H h with|some (j,c)=>some (.ag j,c)|none=>none
 |_=>none:=rfl
theorem k9(m:Nat)(H:ab):aX m H []=some ([],H):=by cases m<;>rfl
theorem yv(H:ab)(d:D)(ds:List D):aX 0 H (d::ds)=none:=rfl
theorem gK(m:Nat)(H:ab)(d:D)(ds:List D):aX (m+1) H (d::ds)=match bC m H d with
 |some (b,a)=>match aX (m+1) a ds with|some (c,e)=>some (b::c,e)|none=>none
 |none=>none:=by have f:bC m H d=(mf m).1 H d:=rfl;have g:∀a,aX (m+1) a ds=mS _ a ds:=λ_=>rfl;show mS _ H _=_;grind[mS]
theorem sF(m:Nat)(H:ab):g9 m H []=some ([],H):=by cases m<;>rfl
def CK(H:ab)(d:List D)(ds:List (List D)):g9 0 H (d::ds)=none:=rfl
theorem uW(m:Nat)(H:ab)(r:List D)(a:List (List D)):g9 (m+1) H (r::a)=match aX m H r with
 |some (c,b)=>match g9 (m+1) b a with|some (d,e)=>some (c::d,e)|none=>none
 |none=>none:=by have f:aX m H r=(mf m).2.1 H r:=rfl;have g:∀b,g9 (m+1) b a=mS _ b a:=λ_=>rfl;show mS _ H _=_;grind[mS]
def bE:Nat:=12
def ja(H:ab)(rows:List (List D)):Option (List (List D)×ab):=g9 bE H rows
def lf(H:ab)(a m i b:Nat)(vs:List D):Option ab:=match aK H a m with
 |some (w,rows,cap,p,false)=>match rows[i]? with
  |some r=>match cA r b vs with|some c=>some (H.set a (.ar w (rows.set i c) cap p false))|none=>none
  |none=>none
 |_=>none
def fR(H:ab)(x:D)(vs:List D):Option ab:=match x with
 |.hp b c=>match H[b]? with
  |some (.hb t e)=>match cA e c vs with|some f=>some (H.set b (.hb t f))|none=>none
  |_=>none
 |.ap a m i c=>match aK H a m with
  |some (_,_,_,true,_)=>match aX bE H vs with
   |some (g,d)=>match aK d a m with|some (_,_,_,true,_)=>lf d a m i c g|_=>none
   |none=>none
  |some (_,_,_,false,_)=>lf H a m i c vs|none=>none
 |_=>none
def eZ(H:ab)(w:Nat)(x:D):Option (List (List D)):=match x with
 |.nil|.z=>some []|.im w' rows|.sv w' rows=>if w'=w then some rows else none|.mu a n b len=>match aK H a n with|some (w',rows,_,_,_)=>if w'=w/\b+len<=n then some ((rows.drop b).take len)else none|none=>none
 |.s l=>if w=1 then some (l.map λc=>[.i .u8 c.toNat])else none|_=>none
def eI(n bytes:Nat):Bool:=decide (n*bytes<=140737488355328/\n<=140737488355328)
def iA(H:ab)(x:D)(a:List (List D))(w bytes:Nat)(p:Bool):Option (D×ab):=match a with|[]=>some (x,H)|_::_=>if eI a.length bytes then some (.mu H.length a.length 0 a.length,H++[.ar w a none p false])else none
def qr(H:ab)(x:D)(a:List (List D))(w' w:Nat):Option (D×ab):=match a with|[]=>if w'=w then some (x,H)else none|_::_=>none
def iB(H:ab)(a b len:Nat)(rows c:List (List D))(w:Nat)(cap:Option Nat)(p lk:Bool):Option (D×ab):=match lk with|true=>none|false=>let d:=rows.take (b+len)++c++rows.drop (b+len+c.length);some (.mu a d.length b (len+c.length),H.set a (.ar w d cap p false))
def kq(H:ab)(a n b len:Nat)(d:List (List D))(w bytes:Nat)(p:Bool):Option (D×ab):=match aK H a n with|some (w',rows,cap,f,lk)=>if w'=w/\f=p/\b+len<=n/\eI (b+len+d.length) bytes then match d with|[]=>some (.mu a n b len,H)|_::_=>match cap with
 |none=>match b with|0=>iB H a 0 len rows d w none p lk|_+1=>none
 |some c=>if b+len+d.length<=c then iB H a b len rows d w (some c) p lk else let e:=(rows.drop b).take len++d;some (.mu H.length e.length 0 e.length,H++[.ar w e none p false])else none|none=>none
def fe(H:ab)(x:D)(b:List (List D))(w bytes:Nat)(p:Bool):Option (D×ab):=match x with|.nil|.z=>iA H x b w bytes p|.mu a n c len=>kq H a n c len b w bytes p|.im w' _|.sv w' _=>qr H x b w' w|_=>none
def kr(a:KK)(x y:D):Option Bool:=match a with
 |.c n=>match fQ n x with|true=>fP x y|false=>none
 |.st b=>match x,y with|.ag d,.ag e=>cV b d e|_,_=>none
def sG:List Nat->List D->Bool|[],[]=>true|n::a,x::b=>fQ n x&&sG a b|_,_=>false
def iC(a:KK)(x:D):Bool:=match a with|.c n=>fQ n x|.st b=>match x with|.ag d=>sG b d|_=>false
def qt(a:KK)(k:D):List (D×D)->Option (Option D)|[]=>some none|(b,v)::c=>match kr a k b with|some true=>some (some v)|some false=>qt a k c|none=>none
def oo(a:KK)(k v:D):List (D×D)->Option (List (D×D))|[]=>some [(k,v)]|(b,d)::c=>match kr a k b with|some true=>some ((k,v)::c)|some false=>(oo a k v c).map ((b,d)::·)|none=>none
def MK:List (List D)->Option (List UInt8)|[]=>some []|[.i .u8 n]::a=>(MK a).map (UInt8.ofNat n.toNat::·)|_=>none
def qw:D->D->Option D|.i k x,.i a y=>if k=a then some (.i k (if y>x then y else x))else none|_,_=>none
def qx:D->D->Option D|.i k x,.i a y=>if k=a then some (.i k (if y<x then y else x))else none|_,_=>none
def sH(f:D->D->Option D):D->List D->Option D|d,[]=>some d|d,e::a=>match f d e with|some x=>sH f x a|none=>none
def jb:List D->List (Nat×Nat×D)->Option (List D)|a,[]=>some a|a,(b,n,v)::c=>match v.cellsN n with
 |some vs=>match cA a b vs with|some d=>jb d c|none=>none
 |none=>none
def jc:List (List D)->Nat->List (Nat×D)->Option (List (List D))|a,_,[]=>some a|a,w,(i,v)::b=>match v.cellsN w with|some vs=>if i<a.length then jc (a.set i vs) w b else none|none=>none
mutual def cQ:D->D->Bool|.b x,.b y=>x==y|.i k n,.i j e=>decide (k=j)&&decide (n=e)|.s l,.s p=>l==p|.nil,.nil=>true|.z,.z=>true|.im w r,.im w' g=>w==w'&&oq r g|.sv w r,.sv w' g=>w==w'&&oq r g|.ow w r,.ow w' g=>w==w'&&oq r g|.mu a n o l,.mu d e o' p=>a==d&&n==e&&o==o'&&l==p|.np,.np=>true|.lp k o,.lp j o'=>k==j&&o==o'|.hp k o,.hp j o'=>k==j&&o==o'|.ap a n i o,.ap d e q o'=>a==d&&n==e&&i==q&&o==o'|.aa a,.aa d=>a==d|.ip c,.ip h=>iD c h|.mnil,.mnil=>true|.mp m,.mp A=>m==A|.fn f a b,.fn B d C=>decide (f=B)&&iD a d&&iD b C|.nf,.nf=>true|.ni,.ni=>true|.ifc t v,.ifc E F=>t==E&&cQ v F|.it r,.it g=>r==g|.ag c,.ag h=>iD c h|.tu c,.tu h=>iD c h|.bx c,.bx h=>iD c h|.yb a n,.yb d e=>a==d&&n==e|.yl a,.yl d=>a==d|.u,.u=>true|_,_=>false termination_by structural x=>x def iD:List D->List D->Bool|[],[]=>true|x::a,y::b=>cQ x y&&iD a b|_,_=>false termination_by structural x=>x def oq:List (List D)->List (List D)->Bool|[],[]=>true|x::a,y::b=>iD x y&&oq a b|_,_=>false termination_by structural x=>x end
mutual def ML:∀(x y:D),cQ x y=true↔x=y|.b x,y=>by cases y<;>simp[cQ]|.i k n,y=>by cases y<;>simp[cQ]|.s l,y=>by cases y<;>simp[cQ]|.nil,y=>by cases y<;>simp[cQ]|.z,y=>by cases y<;>simp[cQ]|.im w r,y=>by cases y<;>simp[cQ,uX r]|.sv w r,y=>by cases y<;>simp[cQ,uX r]|.ow w r,y=>by cases y<;>simp[cQ,uX r]|.mu a n o l,y=>by cases y<;>simp[cQ,and_assoc]|.np,y=>by cases y<;>simp[cQ]|.lp k o,y=>by cases y<;>simp[cQ]|.hp k o,y=>by cases y<;>simp[cQ]|.ap a n i o,y=>by cases y<;>simp[cQ,and_assoc]|.aa a,y=>by cases y<;>simp[cQ]|.ip c,y=>by cases y<;>simp[cQ,mT c]|.mnil,y=>by cases y<;>simp[cQ]|.mp m,y=>by cases y<;>simp[cQ]|.fn f a b,y=>by cases y<;>simp[cQ,mT a,mT b,and_assoc]|.nf,y=>by cases y<;>simp[cQ]|.ni,y=>by cases y<;>simp[cQ]|.ifc t v,y=>by cases y<;>simp[cQ,ML v]|.it r,y=>by cases y<;>simp[cQ]|.ag c,y=>by cases y<;>simp[cQ,mT c]|.tu c,y=>by cases y<;>simp[cQ,mT c]|.bx c,y=>by cases y<;>simp[cQ,mT c]|.yb a n,y=>by cases y<;>simp[cQ]|.yl a,y=>by cases y<;>simp[cQ]|.u,y=>by cases y<;>simp[cQ]def mT:∀(x y:List D),iD x y=true↔x=y|[],y=>by cases y<;>simp[iD]|x::a,y=>by cases y<;>simp[iD,ML x,mT a]def uX:∀(x y:List (List D)),oq x y=true↔x=y|[],y=>by cases y<;>simp[oq]|x::a,y=>by cases y<;>simp[oq,mT x,uX a]end
def uY:an->an->Bool|.hb t c,.hb a e=>t==a&&iD c e|.ar w r c p l,.ar w' i e b d=>w==w'&&oq r i&&c==e&&p==b&&l==d|.mp g,.mp h=>iD (g.map (·.1)) (h.map (·.1))&&iD (g.map (·.2)) (h.map (·.2))|.si l p,.si d b=>l==d&&p==b|.yt t l k,.yt a d m=>t==a&&l==d&&k==m|.df,.df=>true|.yh f p j n t x s,.yh o b q u a v s'=>f==o&&p==b&&j==q&&n==u&&t==a&&iD x v&&decide (s=s')|.no,.no=>true|_,_=>false
theorem MM{α β:Type}:∀(x y:List (α×β)),x.map (·.1)=y.map (·.1)->x.map (·.2)=y.map (·.2)->x=y|[],[],_,_=>rfl|[],_::_,h,_=>by grind|_::_,[],h,_=>by grind|(a,b)::x,(c,d)::y,h,e=>by simp[fA,qo]at h e;rw[h.1,e.1,MM x y h.2 e.2]
def CL(x y:an):uY x y=true↔x=y:=by cases x<;>cases y<;>simp[uY,mT,uX,and_assoc];grind[MM]
def qy:ab->ab->Bool|[],_=>true|b::a,c::d=>uY b c&&qy a d|_::_,[]=>false
def CM(b a:an):Bool:=match b,a with|.ar w r c p _,.ar w' d e f _=>uY (.ar w r c p true) (.ar w' d e f true)|b,a=>uY b a
def qz:ab->ab->Bool|[],_=>true|b::a,c::d=>CM b c&&qz a d|_::_,[]=>false
def yw:∀(H a:ab),qy H a=true↔∃t,a=H++t|[],a=>⟨λ_=>⟨a,rfl⟩,λ_=>rfl⟩|b::c,[]=>by simp[qy]|b::c,e::d=>by simp only[qy,D0,CL,yw c d,T1,qo];grind
mutual def qA:D->Bool|.b _|.i _ _|.s _|.nil|.z|.im _ _|.np|.mnil|.nf|.ni=>true|.fn _ [] []=>true|.ifc _ v=>qA v|.ag a=>mU a|_=>false termination_by structural x=>x def mU:List D->Bool|[]=>true|d::ds=>qA d&&mU ds termination_by structural x=>x end
def O.ev(a b:List D):O->D|.l i=>a.getD i .u|.s k=>b.getD k .u|.c d=>d
def AB.ev(a b:List D):AB->Option (Nat×Nat)
 |.sl k=>match b[k]? with|some (.bx _)=>some (k,0)|_=>none
 |.lo i=>match a[i]? with|some (.lp k c)=>some (k,c)|_=>none
inductive R where|v(d:D)(st:St)|p(d:D)(hp:ab)|bad deriving Inhabited
inductive CR where|ret(d:D)(hp:ab)|pan(d:D)(hp:ab)|bad deriving Inhabited
def CR.toR(b:List D):CR->R|.ret d a=>.v d ⟨b,a⟩|.pan d a=>.p d a|.bad=>.bad
def qB:D->ab->R|.ifc t d,H=>.p (.ifc t d) H|_,_=>.bad
def sI(H:ab):CR->CR|.ret d a=>if qy H a then .ret d a else .bad|_=>.bad
def uZ(H:ab):CR->CR|.ret d a=>if qz H a then .ret d a else .bad|_=>.bad
def CN:CR->CR|.ret d H=>.ret d H|_=>.bad
def aA(a:St):Option D->R|some d=>.v d a|none=>.bad
def fB(a:St)(k:Nat):Option (List D):=match a.sl[k]? with|some (.bx b)=>some b|_=>none
def gM(o:Option D)(a b:Nat):Option Nat:=match o with|none=>some a|some d=>fw d b
def db(lo hi:Option D)(len cap:Nat):Option (Nat×Nat):=match gM hi len cap with
 |some h=>match gM lo 0 h with|some k=>some (k,h)|none=>none
 |none=>none
def CO(x:D)(lo hi a:Option D):Option D:=match x,a with
 |.s l,none=>match db lo hi l.length l.length with|some (k,h)=>some (.s ((l.drop k).take (h-k)))|none=>none
 |_,_=>none
def dc(H:ab)(w:Nat)(x:D)(lo hi c:Option D):Option D:=match c with
 |none=>match x with
  |.nil=>match db lo hi 0 0 with|some _=>some .nil|none=>none
  |.z=>match db lo hi 0 0 with|some _=>some .z|none=>none
  |.im w' rows=>match decide (w'=w),db lo hi rows.length rows.length with|true,some (k,h)=>some (.im w' ((rows.drop k).take (h-k)))|_,_=>none
  |.sv w' rows=>match decide (w'=w),db lo hi rows.length rows.length with|true,some (k,h)=>some (.sv w' ((rows.drop k).take (h-k)))|_,_=>none
  |.mu a n b len=>match aK H a n with
   |some (w',_,_,_,_)=>match decide (w'=w),db lo hi len (n-b)with|true,some (k,h)=>some (.mu a n (b+k) (h-k))|_,_=>none
   |none=>none
  |_=>none
 |some m=>match fw m 0,hi with
 |some _,some hi=>match db lo (some hi) 0 0 with
  |some _=>match x with|.nil=>some .nil|.z|.im ..|.sv ..|.mu ..=>some .z|_=>none
  |none=>none
 |_,_=>none
def qC(H:ab)(x:D)(n w:Nat)(lo hi:Option D):Option D:=match x with
 |.aa a=>match H[a]? with|some (.ar w' rows (some c) _ false)=>if w'=w/\rows.length=n/\c=n then match db lo hi n n with|some (k,h)=>some (.mu a n k (h-k))|none=>none else none|_=>none
 |_=>none
abbrev Bs:=Nat×List Nat
def Bs.un(base:Bs)(a:Nat):Bool:=decide (a<base.1)&&!base.2.contains a
def Bs.ov(base:Bs)(a:Nat):Bool:=decide (base.1<=a)||base.2.contains a
def D.under(base:Bs):D->Bool|.mu a _ _ _|.hp a _|.ap a _ _ _|.aa a|.mp a=>base.un a|_=>true
def D.over(base:Bs):D->Bool|.mu a _ _ _|.hp a _|.ap a _ _ _|.aa a|.mp a=>base.ov a|_=>true
def D.blk:D->List Nat|.mu a _ _ _|.hp a _|.ap a _ _ _|.aa a|.mp a=>[a]|_=>[]
def mV(x:D)(c:Nat):Option D:=match x with|.hp b o=>some (.hp b (o+c))|.ap a n i o=>some (.ap a n i (o+c))|.ip d=>if c<=d.length then some (.ip (d.drop c))else none|_=>none
def cJ(H:ab)(x b:D)(w:Nat):Option D:=match x with
 |.im w' rows|.sv w' rows=>match eG b rows.length with
  |some j=>match rows[j]? with|some r=>if w'=w then some (.ip r)else none|none=>none
  |none=>none
 |.mu a n c len=>match aK H a n with
  |some (w',_,_,_,_)=>match eG b len with|some j=>if w'=w then some (.ap a n (c+j) 0)else none|none=>none
  |none=>none
 |_=>none
def mg(H:ab)(x d:D)(n w:Nat):Option D:=match eG d n with
 |some j=>match x with
  |.hp b o=>some (.hp b (o+j*w))|.ap a m i o=>some (.ap a m i (o+j*w))|.ip c=>if j*w<=c.length then some (.ip (c.drop (j*w)))else none|.aa a=>match H[a]? with|some (.ar w' rows (some _) _ _)=>if w'=w/\rows.length=n then some (.ap a n j 0)else none|_=>none
  |_=>none
 |none=>none
def dj(H:ab)(k:Nat)(x:D):Option D:=match k with
 |0=>match x with|.s l=>some (.i .i64 l.length)|_=>none
 |1=>match x with|.nil|.z=>some (.i .i64 0)|.im _ rows|.sv _ rows=>some (.i .i64 rows.length)|.mu _ _ _ len=>some (.i .i64 len)|_=>none
 |_=>match x with
 |.mnil=>some (.i .i64 0)|.mp m=>match H[m]? with|some (.mp a)=>some (.i .i64 a.length)|_=>none
 |_=>none
def yx(H:ab)(x:D):Option D:=match x with
 |.nil|.z=>some (.i .i64 0)|.mu a n b _=>match aK H a n with|some (_,_,some c,_,_)=>some (.i .i64 (c-b:Nat))|_=>none
 |_=>none
def sJ(c a b:D):Option D:=match c with|.b true=>some a|.b false=>some b|_=>none
def sK(k:IntKind)(x:D):Option D:=match x with|.i _ n=>some (.i k (k.wrap n))|_=>none
def YZ(x:D):Option D:=match x with|.s l=>some (.s l)|_=>none
def as2(H:ab)(x:D):Option D:=match x with|.s _=>none|x=>match eZ H 1 x with
 |some rows=>match MK rows with|some l=>some (.s l)|none=>none
 |none=>none
def qD(x a:D):Option D:=match x with
 |.s l=>match eG a l.length with
  |some j=>match l[j]? with|some c=>some (.i .u8 c.toNat)|none=>none
  |none=>none
 |_=>none
def sM(x:D)(j:Nat):Option D:=match x with|.tu vs=>vs[j]?|_=>none
def ou(H:ab)(m:D):Option (List (D×D)):=match m with
 |.mnil=>some []|.mp m=>match H[m]? with|some (.mp a)=>some a|_=>none
 |_=>none
def mh(H:ab)(a:KK)(m k:D)(c:Bool)(zero:D):Option D:=match iC a k with
 |true=>match ou H m with
  |some d=>match qt a k d with
   |some r=>match c with|true=>some (.tu [r.getD zero,.b r.isSome])|false=>some (r.getD zero)
   |none=>none
  |none=>none
 |false=>none
def sO(x:D)(t:TypeId)(a:Bool)(zero:D):Option D:=match x with
 |.ifc c v=>match decide (c=t),a with|true,true=>some (.tu [v,.b true])|true,false=>some v|false,true=>some (.tu [zero,.b false])|false,false=>none
 |.ni=>match a with|true=>some (.tu [zero,.b false])|false=>none
 |_=>none
def mW(x:D):Option D:=match x with|.hp b o=>some (.hp b o)|.ap a n i o=>some (.ap a n i o)|.aa a=>some (.aa a)|.ip c=>some (.ip c)|_=>none
def mX(q:Option (Nat×List (List D)))(a:D)(n w:Nat):Option D:=match q with
 |some (w',rows)=>match eG a n with
  |some j=>match rows[j]? with|some r=>if w'=w then some (.ip r)else none|none=>none
  |none=>none
 |none=>none
def ox(x a:D)(n w:Nat)(b:Bool):Option D:=match x with
 |.ag c=>match eG a n with
  |some j=>match dS c (j*w) w with|some r=>val b r|none=>none
  |none=>none
 |_=>none
def jd(f:D->D->Option D):List D->Option D|d::ds=>sH f d ds|[]=>none
def oA(w len:Nat)(a:List D)(b:List (Nat×D)):Option D:=match len with|0=>some .z|_+1=>(jc (List.replicate len a) w b).map λrows=>.sv w rows
def mY(H:ab)(w len:Nat)(b:List D)(c:List (Nat×D))(p:Bool):Option (D×ab):=match len with|0=>some (.z,H)|_+1=>match jc (List.replicate len b) w c with
 |some rows=>match p with
  |true=>match ja H rows with|some (d,a)=>some (.mu a.length len 0 len,a++[.ar w d (some len) true false])|none=>none
  |false=>some (.mu H.length len 0 len,H++[.ar w rows (some len) false false])
 |none=>none
def bu(H:ab)(x y:D)(w bytes:Nat)(p:Bool):Option (D×ab):=match eZ H w y with
 |some a=>match p with
  |true=>match ja H a with|some (b,c)=>fe c x b w bytes true|none=>none
  |false=>fe H x a w bytes false
 |none=>none
def mZ(H:ab)(l c:D)(w bytes:Nat)(b:List D)(p:Bool):Option (D×ab):=match fw c 140737488355328 with
 |some a=>match fw l a with|some ln=>if eI a bytes then some (.mu H.length a 0 ln,H++[.ar w (List.replicate a b) (some a) p false])else none|none=>none
 |none=>none
def m4(H:ab)(a:KK)(m k v:D):Option ab:=match iC a k with
 |true=>match m with
  |.mp m=>match H[m]? with
   |some (.mp b)=>match oo a k v b with|some c=>some (H.set m (.mp c))|none=>none
   |_=>none
  |_=>none
 |false=>none
def gk(a:St):Option (D×ab)->R|some (d,H)=>.v d ⟨a.sl,H⟩|none=>.bad
def hZ(a:St):Option ab->R|some H=>.v .u ⟨a.sl,H⟩|none=>.bad
def yF:FuncId:=4294967295
def step(V:au)(s:FuncId->List D->ab->CR)(F:List D)(d:St):af->R:=let e:=O.ev F d.sl;λ
 |.mov x=>.v (e x) d|.pick c a b=>aA d (sJ (e c) (e a) (e b))|.lal h=>.v (.bx h) d|.lbx x n=>aA d (((e x).cellsN n).map .bx)|.hal t h=>.v (.hp d.hp.length 0) ⟨d.sl,d.hp++[.hb t h]⟩|.hbx t x n=>gk d (((e x).cellsN n).map λA=>(.hp d.hp.length 0,d.hp++[.hb t A]))|.haa w h p=>.v (.aa d.hp.length) ⟨d.sl,d.hp++[.ar w h (some h.length) p false]⟩|.lfa a B=>match a.ev F d.sl with|some (k,o)=>.v (.lp k (o+B)) d|none=>.bad
 |.lld a n z=>match a.ev F d.sl with
  |some (k,o)=>match fB d k with
   |some A=>match dS A o n with|some r=>aA d (val z r)|none=>.bad
   |none=>.bad
  |none=>.bad
 |.lst a x n=>match a.ev F d.sl with
  |some (k,o)=>match fB d k with
   |some A=>match(e x).cellsN n with
    |some vs=>match cA A o vs with|some M=>.v .u ⟨d.sl.set k (.bx M),d.hp⟩|none=>.bad
    |none=>.bad
   |none=>.bad
  |none=>.bad
 |.fad x B=>aA d (mV (e x) B)|.iad x q w=>aA d (cJ d.hp (e x) (e q) w)|.iar x q n w=>aA d (mg d.hp (e x) (e q) n w)|.ld x n z=>match cN d.hp (e x) n with|some r=>aA d (val z r)|none=>.bad
 |.ldh x n z=>match ko d.hp (e x) n with|some r=>aA d (val z r)|none=>.bad
 |.st x v n=>match(e v).cellsN n with|some vs=>hZ d (fR d.hp (e x) vs)|none=>.bad
 |.bin G x y=>aA d (bin G (e x) (e y))|.eqv neg k x y=>aA d (eF neg k (e x) (e y))|.un G x=>aA d (un G (e x))|.cvi k x=>aA d (sK k (e x))|.agc h C=>aA d ((jb h (C.map λ(B,n,x)=>(B,n,e x))).map .ag)|.bsl w len h C p=>gk d (mY d.hp w len h (C.map λ(i,x)=>(i,e x)) p)|.bsv w len h C=>aA d (oA w len h (C.map λ(i,x)=>(i,e x)))|.len k x=>aA d (dj d.hp k (e x))|.app x y w bytes p=>gk d (bu d.hp (e x) (e y) w bytes p)|.mks l c w bytes h p=>gk d (mZ d.hp (e l) (e c) w bytes h p)|.sli N w x lo hi K=>aA d (match N with|true=>CO (e x) (lo.map e) (hi.map e) (K.map e)|false=>dc d.hp w (e x) (lo.map e) (hi.map e) (K.map e))|.sla x n w lo hi=>aA d (qC d.hp (e x) n w (lo.map e) (hi.map e))|.ixs x q=>aA d (qD (e x) (e q))|.ext x j=>aA d (sM (e x) j)|.mkf f first E=>.v (.fn f (first.map e) (E.map e)) d|.mkm=>.v (.mp d.hp.length) ⟨d.sl,d.hp++[.mp []]⟩|.lk H m k I zero=>aA d (mh d.hp H (e m) (e k) I zero)|.mup H m k v=>hZ d (m4 d.hp H (e m) (e k) (e v))|.mki t x=>.v (.ifc t (e x)) d|.tas x t I zero=>aA d (sO (e x) t I zero)|.nck x=>aA d (mW (e x))|.mx J=>aA d (jd qw (J.map e))|.mn J=>aA d (jd qx (J.map e))|.call f args=>(s f (args.map e) d.hp).toR d.sl|.calv x args=>match e x with|.fn (.func f) first E=>if f=yF then .bad else(s f (first++args.map e++E) d.hp).toR d.sl|.yl y=>(s yF (.yl y::args.map e) d.hp).toR d.sl|_=>.bad
 |.inv x m args=>match e x with
  |.ifc t v=>match V.meth t m with|some f=>(s f (v::args.map e) d.hp).toR d.sl|none=>.bad
  |_=>.bad
 |.pan x=>qB (e x) d.hp|.stk=>.bad|.ixa x q n w z=>aA d (ox (e x) (e q) n w z)|.cpl f args=>match V.fn f with
  |some L=>match L.pure&&!L.own&&mU (args.map e)with|true=>(CN (s f (args.map e) d.hp)).toR d.sl|false=>.bad
  |none=>.bad
 |.gia g q n w=>aA d (mX (V.glob g) (e q) n w)|.calx f args=>(sI d.hp (s f (args.map e) d.hp)).toR d.sl|.calvx x args=>match e x with|.fn (.func f) first E=>if f=yF then .bad else(uZ d.hp (s f (first++args.map e++E) d.hp)).toR d.sl|_=>.bad
 |.callp f args=>(s f (args.map e) d.hp).toR d.sl
def dU(a:List D)(keep:Option Nat)(d:D):List D:=match keep with|none=>a|some k=>a.set k d
def ae.wants(o:ae)(a c:List D):Option Bool:=match o.guard with|none=>some true|some (x,d)=>match x.ev a c with|.b y=>some (y==d)|.u=>some false|_=>none
inductive Ex where|nm|ex(id:Nat)|rt|pn(d:D)|bad deriving Inhabited
def af.reads:af->List O|.len 0 _|.len 1 _=>[]|.ld x _ _|.iad x _ _|.iar x _ _ _|.len _ x|.sli _ _ x _ _ _|.sla x _ _ _ _|.lk _ x _ _ _=>[x]|_=>[]
def af.writes:af->List O|.st x _ _|.app x _ _ _ _|.mup _ x _ _=>[x]|_=>[]
def af.fits(dr:Option (Bs×Bool))(a:af)(b c:List D):Bool:=match dr with|none=>true|some (base,false)=>a.reads.all λx=>(x.ev b c).under base|some (base,true)=>(a.reads.all λx=>(x.ev b c).under base)&&a.writes.all λx=>(x.ev b c).over base
def ve(os:List ae)(a:List D):List Nat:=os.flatMap λo=>o.op.writes.flatMap λ|.s k=>(a.getD k .u).blk|_=>[]
def yz(b:Bool)(os:List ae)(a:List D)(H:ab):Bs:=(H.length,match b with|true=>ve os a|false=>[])
def ops(V:au)(c:FuncId->List D->ab->CR)(dr:Option (Bs×Bool)):List ae->List D->St->Ex×St|[],_,a=>(.nm,a)|o::os,b,a=>match o.wants b a.sl with
 |some true=>match o.op.fits dr b a.sl with
  |true=>match step V c b a o.op with
   |.v d e=>ops V c dr os (b++[d]) ⟨dU e.sl o.keep d,e.hp⟩|.p d f=>match dr.isNone||o.op.pans with|true=>(.pn d,⟨a.sl,f⟩)|false=>(.bad,a)
   |.bad=>(.bad,a)
  |false=>(.bad,a)
 |some false=>ops V c dr os (b++[.u]) ⟨dU a.sl o.keep .u,a.hp⟩|none=>(.bad,a)
def iE(body:St->Ex×St):Nat->St->Ex×St|0,a=>(.bad,a)|n+1,a=>match body a with|(.nm,b)=>iE body n b|r=>r
def oB(a:List D)(y:Nat)(b:St):CR->Ex×St
 |.ret _ H=>match H[y]? with|some (.yh _ _ _ _ _ _ .rd)=>(.nm,⟨a,H.set y .no⟩)|some (.yh _ _ _ _ _ _ .dr)=>(.rt,⟨a,H.set y .no⟩)|some (.yh _ _ _ _ _ _ (.dx id))=>(.ex id,⟨a,H.set y .no⟩)|_=>(.bad,b)
 |_=>(.bad,b)
def aC(V:au)(f:FuncId->List D->ab->CR)(n:Nat):aQ->St->Ex×St
 |.skip,d=>(.nm,d)|.reg os k,d=>ops V f (match k with|some b=>some (yz b os d.sl d.hp,b)|none=>none) os [] d|.seq a b,d=>match aC V f n a d with|(.nm,h)=>aC V f n b h|r=>r
 |.cond c t e,d=>match c.ev [] d.sl with|.b true=>aC V f n t d|.b false=>aC V f n e d|_=>(.bad,d)
 |.block id c,d=>match aC V f n c d with|(.ex i,h)=>if i=id then(.nm,h)else(.ex i,h)|r=>r
 |.loop c,d=>iE (aC V f n c) n d|.exit id,d=>(.ex id,d)|.ret,d=>(.rt,d)|.stuck,d=>(.bad,d)|.rng j x,d=>match V.rnd j with
 |some r=>match x.ev [] d.sl with|.fn (.func g) [] cap=>if g=yF then(.bad,d)else oB d.sl (d.hp.length+1) d (f g (.yl (d.hp.length+1)::cap) (d.hp++[.df,.yh r.f r.path j r.nt r.tm d.sl .rd]))|_=>(.bad,d)
 |none=>(.bad,d)
def gl:List D->List Nat->List D->List D|a,k::b,d::ds=>gl (a.set k d) b ds|a,_,_=>a
def m5(y:Nat):Ex×St->CR
 |(.nm,a)=>match a.hp[y]? with|some (.yh f p j c d x .bz)=>.ret (.b true) (a.hp.set y (.yh f p j c d x .rd))|_=>.bad
 |(.rt,a)=>match a.hp[y]? with|some (.yh f p j c d x .bz)=>.ret (.b false) (a.hp.set y (.yh f p j c d x .dr))|_=>.bad
 |(.ex id,a)=>match a.hp[y]? with|some (.yh f p j c d x .bz)=>.ret (.b false) (a.hp.set y (.yh f p j c d x (.dx id)))|_=>.bad
 |_=>.bad
def m6(V:au)(c:FuncId->List D->ab->CR)(n:Nat)(y:Nat)(b:aQ):Ex×St->CR
 |(.nm,a)=>match a.hp[y]? with|some (.yh f p j d e x .rd)=>m5 y (aC V c n b ⟨a.sl,a.hp.set y (.yh f p j d e x .bz)⟩)|_=>.bad
 |_=>.bad
def ku(V:au)(a:FuncId->List D->ab->CR)(n:Nat)(args:List D)(H:ab):CR:=match args with
 |.yl y::b=>match H[y]? with
  |some (.yh f p j c d x .rd)=>match V.rnd j with|some r=>if r.f=f/\r.path=p/\r.nt=c/\r.tm=d/\r.ps.length=b.length then m6 V a n y r.b (aC V a n r.a ⟨gl x r.ps b,H⟩)else .bad|none=>.bad
  |_=>.bad
 |_=>.bad
def cU.ev(a:St):cU->Option D
 |.s k=>a.sl[k]?|.bx k n c=>match fB a k with|some b=>if b.length=n then val c b else none|none=>none
 |.hb k n c=>match a.sl[k]? with
 |some d=>match cN a.hp d n with|some b=>val c b|none=>none
 |none=>none
def cW(a:St):List cU->Option (List D)|[]=>some []|r::b=>match r.ev a with
 |some d=>match cW a b with|some ds=>some (d::ds)|none=>none
 |none=>none
def fS:List D->D|[d]=>d|ds=>.tu ds
def ff(H:ab):D->Option D
 |.mu a n c len=>match aK H a n with|some (w,rows,_,true,lk)=>if c+len<=n then some (match lk with|false=>.ow w ((rows.drop c).take len)|true=>.im w ((rows.drop c).take len))else none|_=>none
 |.b x=>some (.b x)|.i k n=>some (.i k n)|.s l=>some (.s l)|.nil=>some .nil|.z=>some .z|.im w rows=>some (.im w rows)|.np=>some .np|.mnil=>some .mnil|.fn f [] []=>some (.fn f [] [])|.nf=>some .nf|.ni=>some .ni|_=>none
def je{α β:Type}(f:α->Option β):List α->Option (List β)|[]=>some []|x::a=>match f x with
 |some y=>match je f a with|some b=>some (y::b)|none=>none
 |none=>none
def gm(H:ab):D->Option D|.ag a=>(je (ff H) a).map .ag|d=>ff H d
def ia(H:ab):D->Option D|.tu ds=>(je (gm H) ds).map .tu|d=>gm H d
def ib:D->List Nat|.mu a _ _ _=>[a]|_=>[]
def gn:D->List Nat|.ag a=>a.flatMap ib|d=>ib d
def jf:D->List Nat|.tu ds=>ds.flatMap gn|d=>gn d
def eM:List Nat->Bool|[]=>true|x::a=>!a.contains x&&eM a
def jg:D->ab->D×ab|.ow w rows,H=>(.mu H.length rows.length 0 rows.length,H++[.ar w rows none true false])|d,H=>(d,H)
def vg:List D->ab->List D×ab|[],H=>([],H)|d::ds,H=>let r:=jg d H;let q:=vg ds r.2;(r.1::q.1,q.2)
def lg:D->ab->D×ab|.ag a,H=>((.ag (vg a H).1),(vg a H).2)|d,H=>jg d H
def vh:List D->ab->List D×ab|[],H=>([],H)|d::ds,H=>let r:=lg d H;let q:=vh ds r.2;(r.1::q.1,q.2)
def place:D->ab->D×ab|.tu ds,H=>((.tu (vh ds H).1),(vh ds H).2)|d,H=>lg d H
def qE(H:ab)(d:D):Option D:=match bC bE H d with|some (a,_)=>some a|none=>none
def dN(H:ab):D->Option D
 |.tu ds=>match aX bE H ds with|some (a,_)=>some (.tu a)|none=>none
 |d=>qE H d
def m7(own:Bool)(H:ab)(d:D):Option D:=match own with|true=>if eM (jf d)then ia H d else none|false=>dN H d
def dV(own:Bool)(d:D)(H:ab):D×ab:=match own with|true=>place d H|false=>(d,H)
inductive PR where|ret(d:D)|pan(d:D)|bad deriving Inhabited
def eO(V:au)(c:FuncId->List D->ab->CR)(n:Nat)(a:aH)(args:List D)(H:ab):CR:=if args.length=a.npar then match aC V c n a.body ⟨args++List.replicate (a.nsl-a.npar) .u,H⟩with
 |(.nm,b)|(.rt,b)=>match cW b a.res with|some ds=>.ret (fS ds) b.hp|none=>.bad
 |(.pn d,b)=>.pan d b.hp|_=>.bad else .bad
def dJ(base:Nat)(H:ab):ab:=H.take base++(H.drop base).map λ|.df=>.no|b=>b
def iF(V:au)(c:FuncId->List D->ab->CR)(n:Nat)(a:aH)(args:List D)(H:ab):CR:=if args.length=a.npar then match aC V c n a.body ⟨args++List.replicate (a.nsl-a.npar) .u,H⟩with
 |(.nm,b)|(.rt,b)=>match cW ⟨b.sl,dJ H.length b.hp⟩ a.res with|some ds=>.ret (fS ds) (dJ H.length b.hp)|none=>.bad
 |_=>.bad else .bad
def jh(V:au)(d:FuncId->List D->ab->CR)(n:Nat)(e:aH)(q:eY)(base:Nat)(b:List D)(x:D)(c:St):CR:=match aC V d n q.body ⟨(b++List.replicate (q.ns-b.length) D.u).set q.rk x,c.hp⟩with|(.nm,a)|(.rt,a)=>if base<=a.hp.length then(match cW ⟨c.sl,a.hp⟩ e.res with|some ds=>.ret (fS ds) a.hp|none=>.bad)else .bad|_=>.bad
def D.noBx:D->Bool|.bx _=>false|_=>true
def jK(V:au)(b:FuncId->List D->ab->CR)(n:Nat)(a:aH)(q:eY)(args:List D)(H:ab):CR:=if args.length=a.npar then match aC V b n q.pre ⟨args++List.replicate (a.nsl-a.npar) .u,H⟩with
 |(.nm,st1)=>if st1.sl.all D.noBx=false then .bad else match aC V b n a.body st1 with|(.nm,c)=>jh V b n a q H.length ((q.caps.map O.s).map (O.ev [] st1.sl)) .ni c|(.rt,c)=>jh V b n a q H.length ((q.caps.map O.s).map (O.ev [] st1.sl)) .ni c|(.pn x,c)=>jh V b n a q H.length ((q.caps.map O.s).map (O.ev [] st1.sl)) x c|_=>.bad
 |_=>.bad else .bad
def cX(V:au)(b:FuncId->List D->ab->CR)(n:Nat)(a:aH)(args:List D)(H:ab):CR:=match a.dfr with
 |none=>match a.rg with|none=>eO V b n a args H|some _=>iF V b n a args H
 |some q=>jK V b n a q args H
def mi(V:au)(c:FuncId->List D->ab->CR)(n:Nat)(b:aH)(args:List D):PR:=match cX V c n b args []with
 |.ret d H=>match m7 b.own H d with|some a=>.ret a|none=>.bad
 |.pan d H=>match bC bE H d with|some (a,_)=>.pan a|none=>.bad
 |.bad=>.bad
def iG(V:au)(a:FuncId->List D->ab->CR)(n:Nat)(f:FuncId)(b:aH)(ds:List D):PR:=match V.pext f ds with|some d=>.ret d|none=>mi V a n b ds
def D.bare:D->Bool|.b _|.i _ _|.s _=>true|_=>false
def ji(a:Bool)(d:D)(H b:ab):ab:=match a&&d.bare with|true=>H|false=>b
def call(V:au):Nat->FuncId->List D->ab->CR|0,_,_,_=>.bad|n+1,f,args,H=>match V.fn f with
 |none=>if f=yF then ku V (call V n) n args H else match V.ext f args H with|some (d,a)=>.ret d a|none=>.bad
 |some b=>match b.pure with
 |false=>match V.ext f args H with|some (d,a)=>.ret d a|none=>cX V (call V n) n b args H
 |true=>match aX bE H args with|none=>.bad|some (ds,a)=>match iG V (call V n) n f b ds with|.ret d=>.ret (dV b.own d (ji b.fre d H a)).1 (dV b.own d (ji b.fre d H a)).2|.pan d=>.pan d a|.bad=>.bad
def iH(V:au)(n:Nat)(f:FuncId)(ds:List D):PR:=match n with|0=>.bad|n+1=>match V.fn f with|some a=>iG V (call V n) n f a ds|none=>.bad
section
@[irreducible]def lk{c:aQ}:aQ:=c
@[irreducible]def zk{z:List D}:List D:=z
@[irreducible]def dk{d:D}:D:=d
@[irreducible]def iK(k:IntKind)(n:Nat):D:=.i k n
@[irreducible]def iM(n:Nat):D:=.i .i64 (-n:Int)
@[go_sem]def as3{c:aQ}:@lk c=c:=by unfold lk;rfl
@[go_sem]def as4{z:List D}:@zk z=z:=by unfold zk;rfl
@[go_sem]def as5{d:D}:@dk d=d:=by unfold dk;rfl
@[go_sem]def CS{k:IntKind}{n:Nat}:iK k n=.i k n:=by unfold iK;rfl
@[go_sem]def as6{n:Nat}:iM n=.i .i64 (-n:Int):=by unfold iM;rfl
def rd{α:Type}(x:α){y:α}(h:x=y:=by conv=>lhs;reduce):x=y:=h
def MQ:Nat->IntKind|0=>.i8|1=>.i16|2=>.i32|3=>.i64|4=>.u8|5=>.u16|6=>.u32|_=>.u64
def Y4:Nat->BinOp|0=>.add|1=>.sub|2=>.mul|3=>.quo|4=>.rem|5=>.and|6=>.or|7=>.xor|8=>.shl|9=>.shr|10=>.andNot|11=>.eql|12=>.neq|13=>.lss|14=>.leq|15=>.gtr|_=>.geq
def Y5:Nat->UnOp|0=>.neg|1=>.xor|2=>.not|_=>.plus
def Y6:Nat->EK|0=>.b|1=>.sl|2=>.pt|3=>.mp|4=>.fn|_=>.ifc
structure yA where
 z:List (List D)d:List D
 m:List String
 h:List Nat
section
variable{β:Type}(T:yA)
def fc{α:Type}:Nat->(Nat->α)->α|0,k=>k 0|n+1,k=>k (n+1)
def nb:Nat->Nat->List Nat|f+1,n+1=>fc (Nat.mod (n+1) 16) λd=>d::nb f (Nat.div (n+1) 16)|_,_=>[]
abbrev Ps(α β:Type):=(α->List Nat->β)->List Nat->β
def pF:Nat->Ps Nat β|f+1,k,a::r=>bif Nat.ble a 11 then k a r else bif Nat.ble a 14 then(match r with|b::r=>fc (16*a+b-180) λn=>k n r|[]=>k 0 [])else pF f (λx r=>match r with|b::r=>fc (16*x+b+60) λn=>k n r|[]=>k 0 []) r|_,k,_=>k 0 []
def pN:Ps Nat β:=pF 20
def pL{α:Type}(p:Ps α β):Nat->Ps (List α) β|0,k=>k []|n+1,k=>p λx=>pL p n λa=>k (x::a)
def pS{α:Type}(p:Ps α β):Ps (List α) β:=λk=>pN λn=>pL p n k
def pB:Ps Bool β:=λk=>pN λn=>k (n==1)
def pZ:Ps (List D) β:=λk=>pN λn=>k (T.z.getD n [])
def Y7:Nat->D|0=>.nil|1=>.np|2=>.mnil|3=>.nf|4=>.ni|5=>.u|6=>.b false|7=>.b true|8=>.s []|_=>.z
def pD:Ps D β:=λk=>pN λn=>if n<10 then k (Y7 n)else if n<18 then pN λv=>k (iK (MQ (n-10)) v)else if n=18 then pN λf=>k (.fn (.func f) [] [])else if n=19 then pN λv=>k (iM v)else k (T.d.getD (n-20) .u)
def pO(i:Nat):Ps O β:=λk=>pN λn=>match n%4 with|0=>k (.l (i-n/4))|1=>k (.s (n/4))|2=>k (.c (iK .i64 (n/4)))|_=>pD T λd=>k (.c d)
def lq(i:Nat):Ps (List O) β:=pS (pO T i)
def pQ(i:Nat):Ps (Option O) β:=λk=>pN λn=>if n=0 then k none else pO T i λx=>k (some x)
def pA:Ps AB β:=λk=>pN λn=>k (if n%2=0 then .sl (n/2)else .lo (n/2))
def pE:Ps EK β:=λk=>pN λn=>if n=9 then pS pN λl=>k (.st l)else k (Y6 n)
def pK:Ps KK β:=λk=>pN λn=>if n=9 then pS pN λl=>k (.st l)else k (.c n)
def Y8(i:Nat):Ps (Nat×Nat×O) β:=λk=>pN λa=>pN λb=>pO T i λx=>k (a,b,x)
def MR(i:Nat):Ps (Nat×O) β:=λk=>pN λa=>pO T i λx=>k (a,x)
def yB(i o:Nat):Ps af β:=λk=>match o with|0=>pO T i λx=>k (.mov x)|1=>pO T i λc=>pO T i λa=>pO T i λb=>k (.pick c a b)|2=>pZ T λz=>k (.lal z)|3=>pO T i λx=>pN λn=>k (.lbx x n)|4=>pN λt=>pZ T λz=>k (.hal t z)|5=>pN λt=>pO T i λx=>pN λn=>k (.hbx t x n)|6=>pN λw=>pS (pZ T) λz=>pB λp=>k (.haa w z p)|7=>pA λa=>pN λn=>k (.lfa a n)|9=>pA λa=>pN λn=>pB λg=>k (.lld a n g)|10=>pA λa=>pO T i λx=>pN λn=>k (.lst a x n)|11=>pO T i λx=>pN λn=>k (.fad x n)|12=>pO T i λx=>pO T i λj=>pN λw=>k (.iad x j w)|13=>pO T i λx=>pO T i λj=>pN λn=>pN λw=>k (.iar x j n w)|14=>pO T i λx=>pN λn=>pB λg=>k (.ld x n g)|16=>pO T i λx=>pN λn=>pB λg=>k (.ldh x n g)|17=>pO T i λx=>pO T i λv=>pN λn=>k (.st x v n)|18=>pN λb=>pO T i λx=>pO T i λy=>k (.bin (Y4 b) x y)|19=>pB λg=>pE λe=>pO T i λx=>pO T i λy=>k (.eqv g e x y)|20=>pN λb=>pO T i λx=>k (.un (Y5 b) x)|21=>pN λb=>pO T i λx=>k (.cvi (MQ b) x)|25=>pZ T λz=>pS (Y8 T i) λp=>k (.agc z p)|26=>pN λw=>pN λn=>pZ T λz=>pS (MR T i) λp=>pB λg=>k (.bsl w n z p g)|27=>pN λw=>pN λn=>pZ T λz=>pS (MR T i) λp=>k (.bsv w n z p)|28=>pN λn=>pO T i λx=>k (.len n x)|30=>pO T i λx=>pO T i λy=>pN λw=>pN λb=>pB λp=>k (.app x y w b p)|32=>pO T i λx=>pO T i λy=>pN λw=>pN λb=>pZ T λz=>pB λp=>k (.mks x y w b z p)|33=>pB λs=>pN λw=>pO T i λx=>pQ T i λa=>pQ T i λb=>pQ T i λc=>k (.sli s w x a b c)|34=>pO T i λx=>pN λn=>pN λw=>pQ T i λa=>pQ T i λb=>k (.sla x n w a b)|35=>pO T i λx=>pO T i λj=>k (.ixs x j)|37=>pO T i λx=>pN λj=>k (.ext x j)|38=>pN λf=>lq T i λa=>lq T i λb=>k (.mkf (.func f) a b)|39=>k .mkm|40=>pK λq=>pO T i λm=>pO T i λx=>pB λg=>pD T λz=>k (.lk q m x g z)|41=>pK λq=>pO T i λm=>pO T i λx=>pO T i λv=>k (.mup q m x v)|42=>pN λt=>pO T i λx=>k (.mki t x)|43=>pO T i λx=>pN λt=>pB λg=>pD T λz=>k (.tas x t g z)|44=>pO T i λx=>k (.nck x)|45=>lq T i λx=>k (.mx x)|46=>lq T i λx=>k (.mn x)|47=>pN λf=>lq T i λa=>k (.call f a)|48=>pO T i λx=>lq T i λa=>k (.calv x a)|49=>pO T i λx=>pN λm=>lq T i λa=>k (.inv x (T.m.getD m "") a)|50=>pO T i λx=>k (.pan x)|51=>pO T i λx=>pO T i λj=>pN λn=>pN λw=>pB λg=>k (.ixa x j n w g)|52=>pN λf=>lq T i λa=>k (.cpl f a)|53=>pN λf=>lq T i λa=>k (.calx f a)|54=>pO T i λx=>lq T i λa=>k (.calvx x a)|55=>pN λg=>pO T i λj=>pN λn=>pN λw=>k (.gia g j n w)|56=>pN λf=>lq T i λa=>k (.callp f a)|_=>k .stk
def pV(i:Nat):Ps ae β:=λk=>pN λh=>(λh=>match h%4 with|0=>yB T i (h/4) λo=>k ⟨o,none,none⟩|1=>pN λq=>yB T i (h/4) λo=>k ⟨o,some q,none⟩|2=>pN λg=>yB T i (h/4) λo=>k ⟨o,none,some (.l (i-g/2),g%2==1)⟩|_=>pN λq=>pN λg=>yB T i (h/4) λo=>k ⟨o,some q,some (.l (i-g/2),g%2==1)⟩) (T.h.getD h 0)
def pW:Nat->Nat->Ps (List ae) β|0,_,k=>k []|n+1,i,k=>pV T i λx=>pW n (i+1) λa=>k (x::a)
def pX:Ps (List ae) β:=λk=>pN λn=>pW T n 0 k
def pC:Nat->List aQ->(aQ->List aQ->List Nat->β)->List Nat->β|0,L,k=>k .skip L|f+1,L,k=>pN λn=>match n with
 |0=>k .skip L|1=>pX T λl=>k (.reg l none) L|2=>pC f L λa L=>pC f L λb=>k (.seq a b)|3=>pO T 0 λx=>pC f L λa L=>pC f L λb=>k (.cond x a b)|4=>pN λi=>pC f L λa=>k (.block i a)|5=>match L with|l::L=>k (.loop l) L|[]=>k .skip []
 |6=>pN λi=>k (.exit i) L|7=>k .ret L|8=>pB λd=>pX T λl=>k (.reg l (some d)) L|9=>pN λj=>pO T 0 λx=>k (.rng j x) L|10=>pX T λl=>pC f L λb=>k (.seq (.reg l none) b)|_=>k .stuck L
def pR:Ps cU β:=λk=>pN λn=>match n with|0=>pN λa=>k (.s a)|1=>pN λa=>pN λn=>pB λg=>k (.bx a n g)|_=>pN λa=>pN λn=>pB λg=>k (.hb a n g)
end
def dB(T:yA)(L:List aQ)(n:Nat):aQ:=pC T 99 L (λc _ _=>c) (nb 9999 n)
def dF(T:yA)(L:List aQ)(g n:Nat):aH:=have s:=nb 9999 n;have f:=pN (λ_=>pN λ_=>pN λc _=>c) s;⟨pN (λa _=>a) s,pN (λ_=>pN λb _=>b) s,pN (λ_=>pN λ_=>pN λ_=>pS pR λr _=>r) s,pN (λ_=>pN λ_=>pN λ_=>pS pR λ_=>pC T 99 L λc _ _=>c) s,f%2==1,f/2%2==1,none,f/4%2==1,if f/8%2=1 then some g else none⟩
def dT(n c:Nat):List (List Nat×List Nat):=pL (λk=>pS pN λa=>pS pN λb=>k (a,b)) n (λl _=>l) (nb 9999 c)
end
end Go.Dm
