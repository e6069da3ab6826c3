/-
  Part of the proof.
-/
import Derived.Test.YtigbdbdlkoeadaaGreatDoorProg
import Derived.Shelf.Strings.Cut
import Derived.Shelf.Sort.Plain
import Derived.Shelf.Slices.CompactI
import GoSem.Dispatch
import Derived.Attr
set_option linter.all false
def D0:=@Bool.and_eq_true
def E1:=@if_neg
def E2:=@List.take_of_length_le
def E4:=@if_pos
def G1:=@Nat.le_refl
def Hk:=@List.getElem?_eq_getElem
def Hq:=@decide_eq_true_eq
def Hy:=@getElem!_pos
def K0:=@List.getElem?_set_ne
def K2:=@List.getElem?_set_self
def M0:=@List.mem_cons_of_mem
def M4:=@Nat.mul_le_mul_right
def N1:=@List.mem_cons_self
def N2:=@decide_eq_false
def N3:=@List.length_append
def Rp:=@decide_eq_true
def S2:=@List.mem_cons
def TA:=@List.mem_append
def TB:=@List.all_eq_true
def T3:=@List.length_map
def T4:=@List.mem_append_left
def T5:=@List.drop_of_length_le
def U3:=@List.cons_append
def V2:=@List.length_pos_iff
def W0:=@Iff.rfl
def X0:=@beq_iff_eq
def bN:=@List.nil_append
def dA:=@Int.toNat_natCast
def dG:=@Nat.le_trans
def dn:=@List.drop_eq_nil_of_le
def dw:=@List.getElem?_append_left
def eD:=@List.mem_singleton
def eH:=@List.map_append
def fA:=@List.length_cons
def fD:=@List.take_succ_eq_append_getElem
def fL:=@Option.getD_some
def fT:=@List.mem_map
def fx:=@List.getElem?_map
def gA:=@List.mem_append_right
def gC:=@List.append_assoc
def ga:=@Option.map_some
def gb:=@List.length_set
def gp:=@Nat.mul_le_mul_left
def gx:=@List.getElem?_append_right
def hF:=@Option.some.injEq
def hI:=@Nat.lt_of_lt_of_le
def hM:=@List.pairwise_cons
def hO:=@of_decide_eq_true
def hY:=@List.getElem_mem
def il:=@List.length_take
def i4:=@Classical.choose_spec
def ka:=@congrArg
def kb:=@List.map_cons
def kh:=@List.length_eq_zero_iff
def kv:=@Option.some.inj
def kx:=@Nat.lt_of_le_of_lt
def kz:=@List.mem_iff_getElem
def k6:=@Nat.add_mul
def k7:=@Bool.not_eq_true'
def lA:=@List.length_nil
def lB:=@Nat.zero_add
def lu:=@Nat.lt_or_ge
def l3:=@Option.map_eq_some_iff
def l4:=@Nat.add_zero
def ma:=@Array.getElem?_eq_getElem
def me:=@Int.cast_ofNat_Int
def mm:=@Nat.mod_lt
def m0:=@Nat.mod_eq_of_lt
def m4:=@Nat.pow_le_pow_right
def m6:=@List.pairwise_append
def nG:=@List.mem_of_getElem?
def nr:=@List.length_drop
def nu:=@Nat.mul_zero
def n0:=@List.getD_eq_getElem?_getD
def n4:=@List.length_filter_le
def oa:=@Nat.pow_succ
def od:=@List.mem_map_of_mem
def ot:=@Classical.byContradiction
def oy:=@List.append_nil
def oz:=@List.drop_eq_getElem_cons
def o5:=@List.take_length
def pa:=@BitVec.ofInt_natCast
def pb:=@List.filter_cons
def pu:=@Option.isSome_some
def pv:=@Option.isSome_none
def p5:=@Nat.mul_le_mul
def qb:=@List.mem_range
def qo:=@List.mem_filter
def qq:=@Nat.mul_ne_zero
def qu:=@List.length_singleton
def rr:=@List.take_append_drop
def sa:=@List.ext_getElem?
def sd:=@List.take_add_one
def sm:=@Int.lt_irrefl
def sn:=@Nat.eq_zero_or_pos
def s0:=@List.cons.injEq
def ta:=@List.foldl_cons
def td:=@List.getElem?_zipIdx
def uA:=@Option.getD_none
def ux:=@Int.le_refl
def uy:=@List.getElem?_eq_some_iff
def vd:=@List.set_set
def vn:=@List.filter_map
def vx:=@List.filter_append
def vy:=@decide_eq_false_iff_not
def wN:=@List.getElem!_cons_zero
def wv:=@List.getElem_map
def wx:=@Prod.mk.injEq
def wy:=@Bool.true_and
def xt:=@Nat.mul_assoc
def x6:=@List.filter_eq_nil_iff
def yy:=@Nat.pow_pos
def za:=@Int.natAbs_mul
def zb:=@List.getElem?_range
def zv:=@Nat.mod_add_div
def AAA:=@Nat.min_eq_left
def AAB:=@List.pairwise_iff_getElem
def AAC:=@Option.map_none
def AAD:=@Nat.div_lt_iff_lt_mul
def AAE:=@List.not_mem_nil
def AAF:=@Bool.false_and
def AAG:=@Int.eq_ofNat_of_zero_le
def AAH:=@List.nodup_append
def AAI:=@List.nodup_cons
def AAJ:=@List.getElem_set_ne
def AAK:=@List.map_nil
def AAL:=@Nat.le_max_right
def AAM:=@List.mem_flatMap
def AAN:=@List.drop_zero
def AAO:=@BitVec.ofNat_toNat
def AAP:=@BitVec.setWidth_eq
def AAQ:=@Nat.mul_one
def AAR:=@Nat.add_mul_div_left
def AAS:=@List.map_set
def AAT:=@Nat.div_add_mod
def AAU:=@Array.size_setIfInBounds
def AAV:=@List.filterMap_cons
def AAW:=@Nat.div_eq_of_lt
def AAX:=@Ne.symm
def AAY:=@Bool.false_eq_true
def AAZ:=@Nat.gcd_comm
def AAa:=@List.getElem_set_self
def AAb:=@List.all_cons
def AAc:=@List.flatten_cons
def AAd:=@Nat.lt_of_mul_lt_mul_left
def AAe:=@Nat.eq_of_mul_eq_mul_left
def AAf:=@List.set_eq_take_append_cons_drop
def AAg:=@Nat.zero_le
def AAh:=@Option.isSome_iff_exists
def AAi:=@List.map_map
def AAj:=@List.lookup_cons
def AAk:=@List.filter_eq_self
def AAl:=@Array.length_toList
def AAm:=@List.map_congr_left
def AAn:=@List.take_set_of_le
def AAo:=@List.getElem?_replicate
def AAp:=@List.filter_cons_of_pos
def AAq:=@List.filter_cons_of_neg
def AAr:=@List.getElem!_cons_succ
def AAs:=@List.getLast?_singleton
def AAt:=@Bool.and_true
def AAu:=@List.filter_filter
def AAv:=@List.getElem?_drop
def AAw:=@List.length_eq_one_iff
def AAx:=@List.foldl_append
def AAy:=@List.pairwise_map
def AAz:=@List.Sublist.refl
def AA0:=@Nat.mul_comm
def AA1:=@List.getElem?_eq_none
def AA2:=@Array.mem_of_getElem?
def AA3:=@Nat.mul_lt_mul_of_pos_right
def AA4:=@List.mem_of_mem_take
def AA5:=@List.mem_of_mem_drop
def AA6:=@List.getLast?_append
def AA7:=@Array.getElem?_eq_some_iff
def AA8:=@Nat.lt_irrefl
def AA9:=@Nat.lt_of_mul_lt_mul_right
def ABA:=@Nat.mul_add
def ABB:=@List.replicate_succ
def ABC:=@Nat.add_mul_mod_self_left
def ABD:=@List.rel_of_pairwise_cons
def ABE:=@Nat.le_max_left
def ABF:=@BitVec.toNat_ofNat
def ABG:=@List.all_nil
def ABH:=@Nat.sub_self
def ABI:=@List.drop_drop
def ABJ:=@List.pairwise_singleton
def ABK:=@List.filter_congr
def ABL:=@Array.isEmpty_iff
def ABM:=@BitVec.isLt
def ABN:=@Nat.pow_add
def ABO:=@List.cons.inj
def ABP:=@Bool.false_or
def ABQ:=@Nat.eq_zero_of_gcd_eq_zero_right
def ABR:=@Array.getElem?_toList
def ABS:=@Array.getElem?_modify
def ABT:=@List.eq_nil_or_concat
def ABU:=@Nat.div_lt_self
def ABV:=@Nat.le_of_lt
def ABW:=@Nat.succ_mul
def ABX:=@List.eq_nil_iff_forall_not_mem
def ABY:=@List.getElem?_of_mem
def ABZ:=@Bool.or_eq_false_iff
def ABa:=@List.dropLast_subset
def ABb:=@Int.le_of_lt
def ABc:=@List.Pairwise.of_map
def ABd:=@List.eq_nil_of_length_eq_zero
def ABe:=@List.getD_cons_succ
def ABf:=@List.getD_cons_zero
def ABg:=@List.drop_set_of_lt
def ABh:=@Array.getInternal_eq_getElem
def ABi:=@Bool.and_false
def ABj:=@Int.natAbs_neg
def ABk:=@List.map_replicate
def ABl:=@Nat.lt_or_gt_of_ne
def ABm:=@Array.getD_eq_getD_getElem?
def ABn:=@List.contains_cons
def ABo:=@Nat.add_sub_cancel
def ABp:=@Nat.gcd_zero_right
def ABq:=@List.perm_append_comm_assoc
def ABr:=@Nat.mul_lt_mul_of_pos_left
def ABs:=@List.exists_cons_of_ne_nil
def ABt:=@List.map_take
def ABu:=@Array.getElem?_append_left
def ABv:=@List.length_range
def ABw:=@List.size_toArray
def ABx:=@Array.toList_push
def ABy:=@List.getElem_take
def ABz:=@List.getElem_drop
def AB0:=@List.flatMap_cons
def AB1:=@Array.ext'
def AB2:=@bne_iff_ne
def AB3:=@Option.isNone_iff_eq_none
def AB4:=@Array.mapM_eq_mapM_toList
def AB5:=@List.getLast?_eq_none_iff
def AB6:=@Int.natAbs_ediv_le_natAbs
def AB7:=@Nat.zero_mul
def AB8:=@List.range'_succ
def AB9:=@List.flatMap_nil
def ACA:=@Int.lt_or_le
def ACB:=@List.ext_getElem
def ACC:=@List.Perm.eq_of_pairwise
def ACD:=@Nat.gcd_le_right
def ACE:=@Int.mul_ediv_cancel_left
def ACF:=@Bool.true_or
def ACG:=@Int.gcd_natCast_natCast
def ACH:=@List.mem_singleton_self
def ACI:=@List.getElem?_cons_succ
def ACJ:=@Nat.le_mul_of_pos_right
def ACK:=@Nat.not_lt_zero
def ACL:=@Nat.mul_pos
def ACM:=@Nat.gcd_rec
def ACN:=@List.set_getElem_self
def ACO:=@List.getElem?_toArray
def ACP:=@List.nodup_nil
def ACQ:=@List.perm_append_comm
def ACR:=@Array.toArray_toList
def ACS:=@Nat.sub_le
def ACT:=@List.dropLast_concat
def ACU:=@Int.not_lt
def ACV:=@List.drop_succ_cons
def ACW:=@Nat.div_eq_of_lt_le
def ACX:=@List.append_of_mem
def ACY:=@List.getElem?_take
def ACZ:=@List.zip_cons_cons
def ACa:=@Bool.false_ne_true
def ACb:=@of_decide_eq_false
def ACc:=@Nat.one_le_two_pow
def ACd:=@Nat.div_pos
def ACe:=@Int.neg_neg
def ACf:=@Nat.pow_mul
namespace Go.Proofs
section
open Go.Shelf
def Tryz.cutL_ren:Go.Shelf.Ren:=⟨λ|145=>109|220=>152|219=>198|217=>240|225=>241|224=>242|267=>243|266=>269|314=>270|n=>n,λ|9=>9|4=>4|59=>182|3=>3|5=>5|46=>156|146=>327|51=>217|n=>n,λ|1=>2|n=>n⟩
def Tryz.cutL:Go.Proofs.Lays.n145 Tryz.prog Tryz.cutL_ren:=by constructor<;>first|kernel_rfl|(intros;kernel_rfl)
def Tryz.sortL_ren:Go.Shelf.Ren:=⟨λ|189=>65|125=>97|257=>96|128=>143|129=>144|294=>134|295=>135|296=>136|297=>137|298=>138|299=>139|216=>140|300=>141|301=>142|328=>189|329=>190|330=>191|331=>192|332=>193|215=>145|343=>233|n=>n,λ|28=>76|3=>3|46=>156|0=>0|51=>217|53=>123|4=>4|183=>210|182=>209|131=>110|5=>5|9=>9|218=>262|222=>266|228=>299|229=>158|n=>n,λ|n=>n⟩
def Tryz.sortL:Go.Proofs.Lays.n189 Tryz.prog Tryz.sortL_ren:=by constructor<;>first|kernel_rfl|(intros;kernel_rfl)
def Tryz.compL_ren:Go.Shelf.Ren:=⟨λ|20=>275|n=>n,λ|22=>76|3=>3|4=>4|0=>0|n=>n,λ|n=>n⟩
def Tryz.compL:Go.Proofs.Lays2.n20 Tryz.prog Tryz.compL_ren:=by constructor<;>first|kernel_rfl|(intros;kernel_rfl)
end
end Go.Proofs
namespace Go.Dm
inductive D where|b(x:Bool)|i(k:IntKind)(n:Int)|s(l:List UInt8)|nil|z|im(w:Nat)(rows:List (List D))|sv(w:Nat)(rows:List (List D))|mu(a n off len:Nat)|ow(w:Nat)(rows:List (List D))|np|lp(k off:Nat)|hp(b off:Nat)|ap(a n i off:Nat)|aa(a:Nat)|ip(cells:List D)|mnil|mp(m:Nat)|fn(f:Fn)(first captured:List D)|nf|ni|ifc(t:TypeId)(v:D)|it(r:Nat)|ag(cells:List D)|tu(vs:List D)|bx(cells:List D)|yb(a n:Nat)|yl(y:Nat)|u deriving Inhabited
inductive RS where|rd|bz|dr|dx(id:Nat)deriving Inhabited,DecidableEq
inductive an where|hb(t:Nat)(cells:List D)|ar(w:Nat)(rows:List (List D))(cap:Option Nat)(pure lock:Bool)|mp(es:List (D×D))|si(l:List UInt8)(pos:Nat)|yt(t:Nat)(l:List UInt8)(lock:Bool)|df|yh(f:Nat)(path:List Bool)(j nt:Nat)(tm:List Nat)(x:List D)(s:RS)|no deriving Inhabited
abbrev ab:=List an
inductive O where|l(i:Nat)|s(k:Nat)|c(d:D)deriving Inhabited
inductive AB where|sl(k:Nat)|lo(i:Nat)deriving Inhabited
inductive EK where|b|st(sh:List Nat)|sl|pt|mp|fn|ifc deriving Inhabited
inductive KK where|c(n:Nat)|st(sh:List Nat)deriving Inhabited
inductive aj where|mov(x:O)|pick(c a b:O)|lal(zs:List D)|lbx(x:O)(n:Nat)|hal(t:Nat)(zs:List D)|hbx(t:Nat)(x:O)(n:Nat)|haa(w:Nat)(zs:List (List D))(pure:Bool)|lfa(a:AB)(off:Nat)|lld(a:AB)(n:Nat)(agg:Bool)|lst(a:AB)(x:O)(n:Nat)|fad(x:O)(off:Nat)|iad(x ix:O)(w:Nat)|iar(x ix:O)(n w:Nat)|ld(x:O)(n:Nat)(agg:Bool)|ldh(x:O)(n:Nat)(agg:Bool)|st(x v:O)(n:Nat)|bin(op:BinOp)(x y:O)|eqv(neg:Bool)(k:EK)(x y:O)|un(op:UnOp)(x:O)|cvi(k:IntKind)(x:O)|agc(zs:List D)(parts:List (Nat×Nat×O))|bsl(w len:Nat)(zs:List D)(parts:List (Nat×O))(pure:Bool)|bsv(w len:Nat)(zs:List D)(parts:List (Nat×O))|len(k:Nat)(x:O)|app(x y:O)(w bytes:Nat)(pure:Bool)|mks(l c:O)(w bytes:Nat)(zs:List D)(pure:Bool)|sli(str:Bool)(w:Nat)(x:O)(lo hi mx:Option O)|sla(x:O)(n w:Nat)(lo hi:Option O)|ixs(x ix:O)|ext(x:O)(j:Nat)|mkf(f:Fn)(first captured:List O)|mkm|lk(kk:KK)(m k:O)(ok:Bool)(zero:D)|mup(kk:KK)(m k v:O)|mki(t:TypeId)(x:O)|tas(x:O)(t:TypeId)(ok:Bool)(zero:D)|nck(x:O)|mx(xs:List O)|mn(xs:List O)|call(f:FuncId)(args:List O)|calv(x:O)(args:List O)|inv(x:O)(m:String)(args:List O)|pan(x:O)|stk|ixa(x ix:O)(n w:Nat)(agg:Bool)|cpl(f:FuncId)(args:List O)|calx(f:FuncId)(args:List O)|calvx(x:O)(args:List O)|gia(g:Nat)(ix:O)(n w:Nat)|callp(f:FuncId)(args:List O)deriving Inhabited
def aj.pans:aj->Bool|.callp ..=>true|_=>false
structure aq where
 op:aj
 keep:Option Nat:=none
 guard:Option (O×Bool):=none deriving Inhabited
inductive aR where|skip|reg(ops:List aq)(draw:Option Bool)|seq(a b:aR)|cond(c:O)(t e:aR)|block(id:Nat)(c:aR)|loop(c:aR)|exit(id:Nat)|ret|stuck|rng(j:Nat)(x:O)|hrg(ops:List aq)(ks:List Nat)deriving Inhabited
inductive dc where|s(k:Nat)|bx(k n:Nat)(agg:Bool)|hb(k n:Nat)(agg:Bool)deriving Inhabited
structure ft where
 pre:aR
 caps:List Nat
 g:FuncId
 ns:Nat
 rk:Nat
 body:aR
 tm:List Nat
 bs:List Nat deriving Inhabited
structure aJ where
 npar:Nat
 nsl:Nat
 res:List dc
 body:aR
 pure:Bool
 own:Bool
 dfr:Option ft
 fre:Bool:=false
 rg:Option FuncId:=none deriving Inhabited
structure Rnd where
 f:Nat
 path:List Bool
 nt:Nat
 tm:List Nat
 ps:List Nat
 a:aR
 b:aR deriving Inhabited
structure aw where
 fn:FuncId->Option aJ
 meth:TypeId->String->Option FuncId
 ext:FuncId->List D->ab->Option (D×ab)pext:FuncId->List D->Option D
 glob:Nat->Option (Nat×List (List D)):=λ_=>none
 rnd:Nat->Option Rnd:=λ_=>none
structure St where
 sl:List D
 hp:ab deriving Inhabited
def D.cells?:D->Option (List D)|.ag a=>some a|.tu _|.u|.bx _|.lp _ _|.ow _ _=>none|d=>some [d]
def D.cellsN(d:D)(n:Nat):Option (List D):=match d.cells? with|some a=>if a.length=n then some a else none|none=>none
def val(b:Bool)(a:List D):Option D:=match b with|true=>some (.ag a)|false=>match a with|[d]=>some d|_=>none
def eQ(a:List D)(b n:Nat):Option (List D):=if b+n<=a.length then some ((a.drop b).take n)else none
def cS(a:List D)(b:Nat)(vs:List D):Option (List D):=if b+vs.length<=a.length then some (a.take b++vs++a.drop (b+vs.length))else none
def fY:D->D->Option Bool|.b x,.b y=>some (x==y)|.i k x,.i a y=>if k=a then some (x==y)else none|.s x,.s y=>some (x==y)|_,_=>none
def fZ:Nat->D->Bool|0,.b _=>true|1,.i _ _=>true|2,.s _=>true|_,_=>false
def dj:List Nat->List D->List D->Option Bool
 |[],[],[]=>some true|n::a,x::b,y::c=>match fZ n x,fY x y with|true,some true=>dj a b c|true,some false=>if b.length=a.length/\c.length=a.length then some false else none|_,_=>none
 |_,_,_=>none
def xv:EK->D->Option Bool
 |.sl,d=>match d with|.nil=>some true|.z|.im ..|.mu ..|.sv ..=>some false|_=>none
 |.pt,d=>match d with|.np=>some true|.hp ..|.ap ..|.ip ..|.aa ..=>some false|_=>none
 |.mp,d=>match d with|.mnil=>some true|.mp _=>some false|_=>none
 |.fn,d=>match d with|.nf=>some true|.fn ..=>some false|_=>none
 |.ifc,d=>match d with|.ni=>some true|.ifc ..=>some false|_=>none
 |_,_=>none
def uL(k:EK)(x y:D):Option Bool:=match k with
 |.b=>match x,y with|.b x,.b y=>some (x==y)|_,_=>none
 |.st c=>match x,y with|.ag d,.ag e=>dj c d e|_,_=>none
 |k=>match k,x,y with|.pt,.hp a i,.hp b j=>if a=b/\i=j then some true else none|k,x,y=>match xv k y with
 |some true=>xv k x|some false=>match xv k x with|some true=>some false|_=>none
 |none=>none
def ej(neg:Bool)(k:EK)(x y:D):Option D:=match uL k x y with|some e=>some (.b (e !=neg))|none=>none
def rN:List UInt8->List UInt8->Bool|_,[]=>false|[],_::_=>true|a::x,b::y=>a<b||(a==b&&rN x y)
def jD(a:BinOp)(k:IntKind)(x y:Int):Option D:=match a with|.add=>some (.i k (k.wrap (x+y)))|.sub=>some (.i k (k.wrap (x-y)))|.mul=>some (.i k (k.wrap (x*y)))|.quo=>if y=0 then none else some (.i k (k.wrap (x.tdiv y)))|.rem=>if y=0 then none else some (.i k (x.tmod y))|.and=>some (.i k (k.wrap (BitVec.ofInt k.bits x&&&BitVec.ofInt k.bits y).toNat))|.or=>some (.i k (k.wrap (BitVec.ofInt k.bits x|||BitVec.ofInt k.bits y).toNat))|.xor=>some (.i k (k.wrap (BitVec.ofInt k.bits x^^^BitVec.ofInt k.bits y).toNat))|.andNot=>some (.i k (k.wrap (BitVec.ofInt k.bits x&&&~~~(BitVec.ofInt k.bits y)).toNat))|.eql=>some (.b (x==y))|.neq=>some (.b (x !=y))|.lss=>some (.b (decide (x<y)))|.leq=>some (.b (decide (x<=y)))|.gtr=>some (.b (decide (x>y)))|.geq=>some (.b (decide (x>=y)))|_=>none
def xw(a:BinOp)(k:IntKind)(x y:Int):Option D:=if y<0 then none else match a with|.shl=>some (.i k (k.wrap (x*2^(min y.toNat k.bits))))|.shr=>some (.i k (x.fdiv (2^(min y.toNat k.bits))))|_=>none
def Fa:Nat:=4611686018427387904
def xx(a:BinOp)(x y:List UInt8):Option D:=match a with|.add=>if x.length+y.length<=Fa then some (.s (x++y))else none|.eql=>some (.b (x==y))|.neq=>some (.b (!(x==y)))|.lss=>some (.b (rN x y))|.leq=>some (.b (rN x y||x==y))|.gtr=>some (.b (!(rN x y||x==y)))|.geq=>some (.b (!(rN x y)))|_=>none
def bin(b:BinOp)(x y:D):Option D:=match x,y with
 |.i k a,.i d c=>match b with|.shl|.shr=>xw b k a c|_=>if k=d then jD b k a c else none
 |.s a,.s c=>xx b a c|_,_=>none
def un(a:UnOp)(x:D):Option D:=match a,x with|.neg,.i k n=>some (.i k (k.wrap (0-n)))|.xor,.i k n=>some (.i k (k.wrap (BitVec.ofInt k.bits (if k.signed then-1 else k.max)^^^BitVec.ofInt k.bits n).toNat))|.not,.b x=>some (.b (!x))|_,_=>none
def fh(d:D)(len:Nat):Option Nat:=match d with|.i _ j=>if 0<=j/\j<len then some j.toNat else none|_=>none
def ij(d:D)(a:Nat):Option Nat:=match d with|.i _ j=>if 0<=j/\j<=a then some j.toNat else none|_=>none
def aO(H:ab)(a n:Nat):Option (Nat×List (List D)×Option Nat×Bool×Bool):=match H[a]? with|some (.ar w rows cap p lk)=>if rows.length=n then some (w,rows,cap,p,lk)else none|_=>none
def cT(H:ab)(x:D)(n:Nat):Option (List D):=match x with
 |.hp b c=>match H[b]? with|some (.hb _ d)=>eQ d c n|_=>none
 |.ap a m i c=>match aO H a m with
  |some (_,rows,_,_,_)=>match rows[i]? with|some r=>eQ r c n|none=>none
  |none=>none
 |.aa a=>match H[a]? with|some (.ar w rows (some _) _ _)=>if n=w*rows.length then some rows.flatten else none|_=>none
 |.ip d=>eQ d 0 n|_=>none
def lD(H:ab)(x:D)(n:Nat):Option (List D):=match x with|.hp b a=>cT H (.hp b a) n|_=>none
def P1{H:ab}{x:D}{n:Nat}{r:List D}(h:lD H x n=some r):cT H x n=some r/\∃b a,x=.hp b a:=by cases x<;>first|exact⟨h,_,_,rfl⟩|cases h
def nY{α:Type}(f:ab->α->Option (α×ab)):ab->List α->Option (List α×ab)|H,[]=>some ([],H)|H,d::ds=>match f H d with
 |some (a,b)=>match nY f b ds with|some (c,e)=>some (a::c,e)|none=>none
 |none=>none
def ade(f:ab->D->Option (D×ab))(g:ab->List D->Option (List D×ab))(h:ab->List (List D)->Option (List (List D)×ab))(H:ab)(d:D):Option (D×ab):=match d with
 |.b _|.i _ _|.s _|.nil|.z|.im _ _|.np|.mnil|.nf|.ni=>some (d,H)|.fn _ [] []=>some (d,H)|.mu a n e len=>match aO H a n with|some (w,rows,cap,true,_)=>if e+len<=n then some (.im w ((rows.drop e).take len),H.set a (.ar w rows cap true true))else none|_=>none
 |.sv w rows=>match h H rows with|some (j,c)=>some (.im w j,c)|none=>none
 |.ifc t v=>match f H v with|some (k,c)=>some (.ifc t k,c)|none=>none
 |.ag l=>match g H l with|some (m,c)=>some (.ag m,c)|none=>none
 |_=>none
def mU:Nat->(ab->D->Option (D×ab))×(ab->List D->Option (List D×ab))×(ab->List (List D)->Option (List (List D)×ab))|0=>(λ_ _=>none,λH ds=>match ds with|[]=>some ([],H)|_::_=>none,λH a=>match a with|[]=>some ([],H)|_::_=>none)|m+1=>(ade (mU m).1 (mU m).2.1 (mU m).2.2,nY (mU m).1,nY (mU m).2.1)
def bS(m:Nat)(H:ab)(d:D):Option (D×ab):=(mU m).1 H d
def aW(m:Nat)(H:ab)(ds:List D):Option (List D×ab):=(mU m).2.1 H ds
def io(m:Nat)(H:ab)(a:List (List D)):Option (List (List D)×ab):=(mU m).2.2 H a
theorem AD(H:ab)(d:D):bS 0 H d=none:=rfl
theorem f7(m:Nat)(H:ab)(d:D):bS (m+1) H d=match d with
 |.b _|.i _ _|.s _|.nil|.z|.im _ _|.np|.mnil|.nf|.ni=>some (d,H)|.fn _ [] []=>some (d,H)|.mu a n e len=>match aO H a n with|some (w,rows,cap,true,_)=>if e+len<=n then some (.im w ((rows.drop e).take len),H.set a (.ar w rows cap true true))else none|_=>none
 |.sv w rows=>match io m H rows with|some (f,c)=>some (.im w f,c)|none=>none
 |.ifc t v=>match bS m H v with|some (g,c)=>some (.ifc t g,c)|none=>none
 |.ag h=>match aW m H h with|some (j,c)=>some (.ag j,c)|none=>none
 |_=>none:=rfl
theorem gK(m:Nat)(H:ab):aW m H []=some ([],H):=by cases m<;>rfl
theorem AE(H:ab)(d:D)(ds:List D):aW 0 H (d::ds)=none:=rfl
theorem dM(m:Nat)(H:ab)(d:D)(ds:List D):aW (m+1) H (d::ds)=match bS m H d with
 |some (b,a)=>match aW (m+1) a ds with|some (c,e)=>some (b::c,e)|none=>none
 |none=>none:=by have f:bS m H d=(mU m).1 H d:=rfl;have g:∀a,aW (m+1) a ds=nY _ a ds:=λ_=>rfl;show nY _ H _=_;grind[nY]
theorem rO(m:Nat)(H:ab):io m H []=some ([],H):=by cases m<;>rfl
def Fb(H:ab)(d:List D)(ds:List (List D)):io 0 H (d::ds)=none:=rfl
theorem uM(m:Nat)(H:ab)(r:List D)(a:List (List D)):io (m+1) H (r::a)=match aW m H r with
 |some (c,b)=>match io (m+1) b a with|some (d,e)=>some (c::d,e)|none=>none
 |none=>none:=by have f:aW m H r=(mU m).2.1 H r:=rfl;have g:∀b,io (m+1) b a=nY _ b a:=λ_=>rfl;show nY _ H _=_;grind[nY]
def bG:Nat:=12
def iL(H:ab)(rows:List (List D)):Option (List (List D)×ab):=io bG H rows
def lX(H:ab)(a m i b:Nat)(vs:List D):Option ab:=match aO H a m with
 |some (w,rows,cap,p,false)=>match rows[i]? with
  |some r=>match cS r b vs with|some c=>some (H.set a (.ar w (rows.set i c) cap p false))|none=>none
  |none=>none
 |_=>none
def gl(H:ab)(x:D)(vs:List D):Option ab:=match x with
 |.hp b c=>match H[b]? with
  |some (.hb t e)=>match cS e c vs with|some f=>some (H.set b (.hb t f))|none=>none
  |_=>none
 |.ap a m i c=>match aO H a m with
  |some (_,_,_,true,_)=>match aW bG H vs with
   |some (g,d)=>match aO d a m with|some (_,_,_,true,_)=>lX d a m i c g|_=>none
   |none=>none
  |some (_,_,_,false,_)=>lX H a m i c vs|none=>none
 |_=>none
def fM(H:ab)(w:Nat)(x:D):Option (List (List D)):=match x with
 |.nil|.z=>some []|.im w' rows|.sv w' rows=>if w'=w then some rows else none|.mu a n b len=>match aO H a n with|some (w',rows,_,_,_)=>if w'=w/\b+len<=n then some ((rows.drop b).take len)else none|none=>none
 |.s l=>if w=1 then some (l.map λc=>[.i .u8 c.toNat])else none|_=>none
def fu(n bytes:Nat):Bool:=decide (n*bytes<=140737488355328/\n<=140737488355328)
def kI(H:ab)(x:D)(a:List (List D))(w bytes:Nat)(p:Bool):Option (D×ab):=match a with|[]=>some (x,H)|_::_=>if fu a.length bytes then some (.mu H.length a.length 0 a.length,H++[.ar w a none p false])else none
def rP(H:ab)(x:D)(a:List (List D))(w' w:Nat):Option (D×ab):=match a with|[]=>if w'=w then some (x,H)else none|_::_=>none
def jE(H:ab)(a b len:Nat)(rows c:List (List D))(w:Nat)(cap:Option Nat)(p lk:Bool):Option (D×ab):=match lk with|true=>none|false=>let d:=rows.take (b+len)++c++rows.drop (b+len+c.length);some (.mu a d.length b (len+c.length),H.set a (.ar w d cap p false))
def mV(H:ab)(a n b len:Nat)(d:List (List D))(w bytes:Nat)(p:Bool):Option (D×ab):=match aO H a n with|some (w',rows,cap,f,lk)=>if w'=w/\f=p/\b+len<=n/\fu (b+len+d.length) bytes then match d with|[]=>some (.mu a n b len,H)|_::_=>match cap with
 |none=>match b with|0=>jE H a 0 len rows d w none p lk|_+1=>none
 |some c=>if b+len+d.length<=c then jE H a b len rows d w (some c) p lk else let e:=(rows.drop b).take len++d;some (.mu H.length e.length 0 e.length,H++[.ar w e none p false])else none|none=>none
def gM(H:ab)(x:D)(b:List (List D))(w bytes:Nat)(p:Bool):Option (D×ab):=match x with|.nil|.z=>kI H x b w bytes p|.mu a n c len=>mV H a n c len b w bytes p|.im w' _|.sv w' _=>rP H x b w' w|_=>none
def lE(a:KK)(x y:D):Option Bool:=match a with
 |.c n=>match fZ n x with|true=>fY x y|false=>none
 |.st b=>match x,y with|.ag d,.ag e=>dj b d e|_,_=>none
def uN:List Nat->List D->Bool|[],[]=>true|n::a,x::b=>fZ n x&&uN a b|_,_=>false
def jc(a:KK)(x:D):Bool:=match a with|.c n=>fZ n x|.st b=>match x with|.ag d=>uN b d|_=>false
def rQ(a:KK)(k:D):List (D×D)->Option (Option D)|[]=>some none|(b,v)::c=>match lE a k b with|some true=>some (some v)|some false=>rQ a k c|none=>none
def pJ(a:KK)(k v:D):List (D×D)->Option (List (D×D))|[]=>some [(k,v)]|(b,d)::c=>match lE a k b with|some true=>some ((k,v)::c)|some false=>(pJ a k v c).map ((b,d)::·)|none=>none
def P2:List (List D)->Option (List UInt8)|[]=>some []|[.i .u8 n]::a=>(P2 a).map (UInt8.ofNat n.toNat::·)|_=>none
def rR:D->D->Option D|.i k x,.i a y=>if k=a then some (.i k (if y>x then y else x))else none|_,_=>none
def rS:D->D->Option D|.i k x,.i a y=>if k=a then some (.i k (if y<x then y else x))else none|_,_=>none
def uO(f:D->D->Option D):D->List D->Option D|d,[]=>some d|d,e::a=>match f d e with|some x=>uO f x a|none=>none
def jF:List D->List (Nat×Nat×D)->Option (List D)|a,[]=>some a|a,(b,n,v)::c=>match v.cellsN n with
 |some vs=>match cS a b vs with|some d=>jF d c|none=>none
 |none=>none
def jG:List (List D)->Nat->List (Nat×D)->Option (List (List D))|a,_,[]=>some a|a,w,(i,v)::b=>match v.cellsN w with|some vs=>if i<a.length then jG (a.set i vs) w b else none|none=>none
mutual def dp:D->D->Bool|.b x,.b y=>x==y|.i k n,.i j e=>decide (k=j)&&decide (n=e)|.s l,.s p=>l==p|.nil,.nil=>true|.z,.z=>true|.im w r,.im w' g=>w==w'&&pM r g|.sv w r,.sv w' g=>w==w'&&pM r g|.ow w r,.ow w' g=>w==w'&&pM r g|.mu a n o l,.mu d e o' p=>a==d&&n==e&&o==o'&&l==p|.np,.np=>true|.lp k o,.lp j o'=>k==j&&o==o'|.hp k o,.hp j o'=>k==j&&o==o'|.ap a n i o,.ap d e q o'=>a==d&&n==e&&i==q&&o==o'|.aa a,.aa d=>a==d|.ip c,.ip h=>iN c h|.mnil,.mnil=>true|.mp m,.mp A=>m==A|.fn f a b,.fn B d C=>decide (f=B)&&iN a d&&iN b C|.nf,.nf=>true|.ni,.ni=>true|.ifc t v,.ifc E F=>t==E&&dp v F|.it r,.it g=>r==g|.ag c,.ag h=>iN c h|.tu c,.tu h=>iN c h|.bx c,.bx h=>iN c h|.yb a n,.yb d e=>a==d&&n==e|.yl a,.yl d=>a==d|.u,.u=>true|_,_=>false termination_by structural x=>x def iN:List D->List D->Bool|[],[]=>true|x::a,y::b=>dp x y&&iN a b|_,_=>false termination_by structural x=>x def pM:List (List D)->List (List D)->Bool|[],[]=>true|x::a,y::b=>iN x y&&pM a b|_,_=>false termination_by structural x=>x end
mutual def P3:∀(x y:D),dp x y=true↔x=y|.b x,y=>by cases y<;>simp[dp]|.i k n,y=>by cases y<;>simp[dp]|.s l,y=>by cases y<;>simp[dp]|.nil,y=>by cases y<;>simp[dp]|.z,y=>by cases y<;>simp[dp]|.im w r,y=>by cases y<;>simp[dp,xy r]|.sv w r,y=>by cases y<;>simp[dp,xy r]|.ow w r,y=>by cases y<;>simp[dp,xy r]|.mu a n o l,y=>by cases y<;>simp[dp,and_assoc]|.np,y=>by cases y<;>simp[dp]|.lp k o,y=>by cases y<;>simp[dp]|.hp k o,y=>by cases y<;>simp[dp]|.ap a n i o,y=>by cases y<;>simp[dp,and_assoc]|.aa a,y=>by cases y<;>simp[dp]|.ip c,y=>by cases y<;>simp[dp,mW c]|.mnil,y=>by cases y<;>simp[dp]|.mp m,y=>by cases y<;>simp[dp]|.fn f a b,y=>by cases y<;>simp[dp,mW a,mW b,and_assoc]|.nf,y=>by cases y<;>simp[dp]|.ni,y=>by cases y<;>simp[dp]|.ifc t v,y=>by cases y<;>simp[dp,P3 v]|.it r,y=>by cases y<;>simp[dp]|.ag c,y=>by cases y<;>simp[dp,mW c]|.tu c,y=>by cases y<;>simp[dp,mW c]|.bx c,y=>by cases y<;>simp[dp,mW c]|.yb a n,y=>by cases y<;>simp[dp]|.yl a,y=>by cases y<;>simp[dp]|.u,y=>by cases y<;>simp[dp]def mW:∀(x y:List D),iN x y=true↔x=y|[],y=>by cases y<;>simp[iN]|x::a,y=>by cases y<;>simp[iN,P3 x,mW a]def xy:∀(x y:List (List D)),pM x y=true↔x=y|[],y=>by cases y<;>simp[pM]|x::a,y=>by cases y<;>simp[pM,mW x,xy a]end
def xz:an->an->Bool|.hb t c,.hb a e=>t==a&&iN c e|.ar w r c p l,.ar w' i e b d=>w==w'&&pM r i&&c==e&&p==b&&l==d|.mp g,.mp h=>iN (g.map (·.1)) (h.map (·.1))&&iN (g.map (·.2)) (h.map (·.2))|.si l p,.si d b=>l==d&&p==b|.yt t l k,.yt a d m=>t==a&&l==d&&k==m|.df,.df=>true|.yh f p j n t x s,.yh o b q u a v s'=>f==o&&p==b&&j==q&&n==u&&t==a&&iN x v&&decide (s=s')|.no,.no=>true|_,_=>false
theorem P4{α β:Type}:∀(x y:List (α×β)),x.map (·.1)=y.map (·.1)->x.map (·.2)=y.map (·.2)->x=y|[],[],_,_=>rfl|[],_::_,h,_=>by grind|_::_,[],h,_=>by grind|(a,b)::x,(c,d)::y,h,e=>by simp[kb,s0]at h e;rw[h.1,e.1,P4 x y h.2 e.2]
def Fd(x y:an):xz x y=true↔x=y:=by cases x<;>cases y<;>simp[xz,mW,xy,and_assoc];grind[P4]
def rT:ab->ab->Bool|[],_=>true|b::a,c::d=>xz b c&&rT a d|_::_,[]=>false
def Fe(b a:an):Bool:=match b,a with|.ar w r c p _,.ar w' d e f _=>xz (.ar w r c p true) (.ar w' d e f true)|b,a=>xz b a
def rU:ab->ab->Bool|[],_=>true|b::a,c::d=>Fe b c&&rU a d|_::_,[]=>false
def AF:∀(H a:ab),rT H a=true↔∃t,a=H++t|[],a=>⟨λ_=>⟨a,rfl⟩,λ_=>rfl⟩|b::c,[]=>by simp[rT]|b::c,e::d=>by simp only[rT,D0,Fd,AF c d,U3,s0];grind
mutual def rV:D->Bool|.b _|.i _ _|.s _|.nil|.z|.im _ _|.np|.mnil|.nf|.ni=>true|.fn _ [] []=>true|.ifc _ v=>rV v|.ag a=>nZ a|_=>false termination_by structural x=>x def nZ:List D->Bool|[]=>true|d::ds=>rV d&&nZ ds termination_by structural x=>x end
def O.ev(a b:List D):O->D|.l i=>a.getD i .u|.s k=>b.getD k .u|.c d=>d
def AB.ev(a b:List D):AB->Option (Nat×Nat)
 |.sl k=>match b[k]? with|some (.bx _)=>some (k,0)|_=>none
 |.lo i=>match a[i]? with|some (.lp k c)=>some (k,c)|_=>none
inductive R where|v(d:D)(st:St)|p(d:D)(hp:ab)|bad deriving Inhabited
inductive CR where|ret(d:D)(hp:ab)|pan(d:D)(hp:ab)|bad deriving Inhabited
def CR.toR(b:List D):CR->R|.ret d a=>.v d ⟨b,a⟩|.pan d a=>.p d a|.bad=>.bad
def rW:D->ab->R|.ifc t d,H=>.p (.ifc t d) H|_,_=>.bad
def uP(H:ab):CR->CR|.ret d a=>if rT H a then .ret d a else .bad|_=>.bad
def xA(H:ab):CR->CR|.ret d a=>if rU H a then .ret d a else .bad|_=>.bad
def Ff:CR->CR|.ret d H=>.ret d H|_=>.bad
def aE(a:St):Option D->R|some d=>.v d a|none=>.bad
def eR(a:St)(k:Nat):Option (List D):=match a.sl[k]? with|some (.bx b)=>some b|_=>none
def jH(o:Option D)(a b:Nat):Option Nat:=match o with|none=>some a|some d=>ij d b
def eo(lo hi:Option D)(len cap:Nat):Option (Nat×Nat):=match jH hi len cap with
 |some h=>match jH lo 0 h with|some k=>some (k,h)|none=>none
 |none=>none
def Fg(x:D)(lo hi a:Option D):Option D:=match x,a with
 |.s l,none=>match eo lo hi l.length l.length with|some (k,h)=>some (.s ((l.drop k).take (h-k)))|none=>none
 |_,_=>none
def dY(H:ab)(w:Nat)(x:D)(lo hi c:Option D):Option D:=match c with
 |none=>match x with
  |.nil=>match eo lo hi 0 0 with|some _=>some .nil|none=>none
  |.z=>match eo lo hi 0 0 with|some _=>some .z|none=>none
  |.im w' rows=>match decide (w'=w),eo lo hi rows.length rows.length with|true,some (k,h)=>some (.im w' ((rows.drop k).take (h-k)))|_,_=>none
  |.sv w' rows=>match decide (w'=w),eo lo hi rows.length rows.length with|true,some (k,h)=>some (.sv w' ((rows.drop k).take (h-k)))|_,_=>none
  |.mu a n b len=>match aO H a n with
   |some (w',_,_,_,_)=>match decide (w'=w),eo lo hi len (n-b)with|true,some (k,h)=>some (.mu a n (b+k) (h-k))|_,_=>none
   |none=>none
  |_=>none
 |some m=>match ij m 0,hi with
 |some _,some hi=>match eo lo (some hi) 0 0 with
  |some _=>match x with|.nil=>some .nil|.z|.im ..|.sv ..|.mu ..=>some .z|_=>none
  |none=>none
 |_,_=>none
def rX(H:ab)(x:D)(n w:Nat)(lo hi:Option D):Option D:=match x with
 |.aa a=>match H[a]? with|some (.ar w' rows (some c) _ false)=>if w'=w/\rows.length=n/\c=n then match eo lo hi n n with|some (k,h)=>some (.mu a n k (h-k))|none=>none else none|_=>none
 |_=>none
abbrev Bs:=Nat×List Nat
def Bs.un(base:Bs)(a:Nat):Bool:=decide (a<base.1)&&!base.2.contains a
def Bs.ov(base:Bs)(a:Nat):Bool:=decide (base.1<=a)||base.2.contains a
def D.under(base:Bs):D->Bool|.mu a _ _ _|.hp a _|.ap a _ _ _|.aa a|.mp a=>base.un a|_=>true
def D.over(base:Bs):D->Bool|.mu a _ _ _|.hp a _|.ap a _ _ _|.aa a|.mp a=>base.ov a|_=>true
def D.blk:D->List Nat|.mu a _ _ _|.hp a _|.ap a _ _ _|.aa a|.mp a=>[a]|_=>[]
def n7(x:D)(c:Nat):Option D:=match x with|.hp b o=>some (.hp b (o+c))|.ap a n i o=>some (.ap a n i (o+c))|.ip d=>if c<=d.length then some (.ip (d.drop c))else none|_=>none
def cG(H:ab)(x b:D)(w:Nat):Option D:=match x with
 |.im w' rows|.sv w' rows=>match fh b rows.length with
  |some j=>match rows[j]? with|some r=>if w'=w then some (.ip r)else none|none=>none
  |none=>none
 |.mu a n c len=>match aO H a n with
  |some (w',_,_,_,_)=>match fh b len with|some j=>if w'=w then some (.ap a n (c+j) 0)else none|none=>none
  |none=>none
 |_=>none
def mX(H:ab)(x d:D)(n w:Nat):Option D:=match fh d n with
 |some j=>match x with
  |.hp b o=>some (.hp b (o+j*w))|.ap a m i o=>some (.ap a m i (o+j*w))|.ip c=>if j*w<=c.length then some (.ip (c.drop (j*w)))else none|.aa a=>match H[a]? with|some (.ar w' rows (some _) _ _)=>if w'=w/\rows.length=n then some (.ap a n j 0)else none|_=>none
  |_=>none
 |none=>none
def dS(H:ab)(k:Nat)(x:D):Option D:=match k with
 |0=>match x with|.s l=>some (.i .i64 l.length)|_=>none
 |1=>match x with|.nil|.z=>some (.i .i64 0)|.im _ rows|.sv _ rows=>some (.i .i64 rows.length)|.mu _ _ _ len=>some (.i .i64 len)|_=>none
 |_=>match x with
 |.mnil=>some (.i .i64 0)|.mp m=>match H[m]? with|some (.mp a)=>some (.i .i64 a.length)|_=>none
 |_=>none
def AG(H:ab)(x:D):Option D:=match x with
 |.nil|.z=>some (.i .i64 0)|.mu a n b _=>match aO H a n with|some (_,_,some c,_,_)=>some (.i .i64 (c-b:Nat))|_=>none
 |_=>none
def uQ(c a b:D):Option D:=match c with|.b true=>some a|.b false=>some b|_=>none
def uR(k:IntKind)(x:D):Option D:=match x with|.i _ n=>some (.i k (k.wrap n))|_=>none
def adf(x:D):Option D:=match x with|.s l=>some (.s l)|_=>none
def azq(H:ab)(x:D):Option D:=match x with|.s _=>none|x=>match fM H 1 x with
 |some rows=>match P2 rows with|some l=>some (.s l)|none=>none
 |none=>none
def rY(x a:D):Option D:=match x with
 |.s l=>match fh a l.length with
  |some j=>match l[j]? with|some c=>some (.i .u8 c.toNat)|none=>none
  |none=>none
 |_=>none
def uS(x:D)(j:Nat):Option D:=match x with|.tu vs=>vs[j]?|_=>none
def pP(H:ab)(m:D):Option (List (D×D)):=match m with
 |.mnil=>some []|.mp m=>match H[m]? with|some (.mp a)=>some a|_=>none
 |_=>none
def mY(H:ab)(a:KK)(m k:D)(c:Bool)(zero:D):Option D:=match jc a k with
 |true=>match pP H m with
  |some d=>match rQ a k d with
   |some r=>match c with|true=>some (.tu [r.getD zero,.b r.isSome])|false=>some (r.getD zero)
   |none=>none
  |none=>none
 |false=>none
def uT(x:D)(t:TypeId)(a:Bool)(zero:D):Option D:=match x with
 |.ifc c v=>match decide (c=t),a with|true,true=>some (.tu [v,.b true])|true,false=>some v|false,true=>some (.tu [zero,.b false])|false,false=>none
 |.ni=>match a with|true=>some (.tu [zero,.b false])|false=>none
 |_=>none
def n8(x:D):Option D:=match x with|.hp b o=>some (.hp b o)|.ap a n i o=>some (.ap a n i o)|.aa a=>some (.aa a)|.ip c=>some (.ip c)|_=>none
def n9(q:Option (Nat×List (List D)))(a:D)(n w:Nat):Option D:=match q with
 |some (w',rows)=>match fh a n with
  |some j=>match rows[j]? with|some r=>if w'=w then some (.ip r)else none|none=>none
  |none=>none
 |none=>none
def pT(x a:D)(n w:Nat)(b:Bool):Option D:=match x with
 |.ag c=>match fh a n with
  |some j=>match eQ c (j*w) w with|some r=>val b r|none=>none
  |none=>none
 |_=>none
def jI(f:D->D->Option D):List D->Option D|d::ds=>uO f d ds|[]=>none
def pU(w len:Nat)(a:List D)(b:List (Nat×D)):Option D:=match len with|0=>some .z|_+1=>(jG (List.replicate len a) w b).map λrows=>.sv w rows
def ob(H:ab)(w len:Nat)(b:List D)(c:List (Nat×D))(p:Bool):Option (D×ab):=match len with|0=>some (.z,H)|_+1=>match jG (List.replicate len b) w c with
 |some rows=>match p with
  |true=>match iL H rows with|some (d,a)=>some (.mu a.length len 0 len,a++[.ar w d (some len) true false])|none=>none
  |false=>some (.mu H.length len 0 len,H++[.ar w rows (some len) false false])
 |none=>none
def bY(H:ab)(x y:D)(w bytes:Nat)(p:Bool):Option (D×ab):=match fM H w y with
 |some a=>match p with
  |true=>match iL H a with|some (b,c)=>gM c x b w bytes true|none=>none
  |false=>gM H x a w bytes false
 |none=>none
def oc(H:ab)(l c:D)(w bytes:Nat)(b:List D)(p:Bool):Option (D×ab):=match ij c 140737488355328 with
 |some a=>match ij l a with|some ln=>if fu a bytes then some (.mu H.length a 0 ln,H++[.ar w (List.replicate a b) (some a) p false])else none|none=>none
 |none=>none
def oe(H:ab)(a:KK)(m k v:D):Option ab:=match jc a k with
 |true=>match m with
  |.mp m=>match H[m]? with
   |some (.mp b)=>match pJ a k v b with|some c=>some (H.set m (.mp c))|none=>none
   |_=>none
  |_=>none
 |false=>none
def gO(a:St):Option (D×ab)->R|some (d,H)=>.v d ⟨a.sl,H⟩|none=>.bad
def iO(a:St):Option ab->R|some H=>.v .u ⟨a.sl,H⟩|none=>.bad
def yF:FuncId:=4294967295
def step(V:aw)(s:FuncId->List D->ab->CR)(F:List D)(d:St):aj->R:=let e:=O.ev F d.sl;λ
 |.mov x=>.v (e x) d|.pick c a b=>aE d (uQ (e c) (e a) (e b))|.lal h=>.v (.bx h) d|.lbx x n=>aE d (((e x).cellsN n).map .bx)|.hal t h=>.v (.hp d.hp.length 0) ⟨d.sl,d.hp++[.hb t h]⟩|.hbx t x n=>gO d (((e x).cellsN n).map λA=>(.hp d.hp.length 0,d.hp++[.hb t A]))|.haa w h p=>.v (.aa d.hp.length) ⟨d.sl,d.hp++[.ar w h (some h.length) p false]⟩|.lfa a B=>match a.ev F d.sl with|some (k,o)=>.v (.lp k (o+B)) d|none=>.bad
 |.lld a n z=>match a.ev F d.sl with
  |some (k,o)=>match eR d k with
   |some A=>match eQ A o n with|some r=>aE d (val z r)|none=>.bad
   |none=>.bad
  |none=>.bad
 |.lst a x n=>match a.ev F d.sl with
  |some (k,o)=>match eR d k with
   |some A=>match(e x).cellsN n with
    |some vs=>match cS A o vs with|some M=>.v .u ⟨d.sl.set k (.bx M),d.hp⟩|none=>.bad
    |none=>.bad
   |none=>.bad
  |none=>.bad
 |.fad x B=>aE d (n7 (e x) B)|.iad x q w=>aE d (cG d.hp (e x) (e q) w)|.iar x q n w=>aE d (mX d.hp (e x) (e q) n w)|.ld x n z=>match cT d.hp (e x) n with|some r=>aE d (val z r)|none=>.bad
 |.ldh x n z=>match lD d.hp (e x) n with|some r=>aE d (val z r)|none=>.bad
 |.st x v n=>match(e v).cellsN n with|some vs=>iO d (gl d.hp (e x) vs)|none=>.bad
 |.bin G x y=>aE d (bin G (e x) (e y))|.eqv neg k x y=>aE d (ej neg k (e x) (e y))|.un G x=>aE d (un G (e x))|.cvi k x=>aE d (uR k (e x))|.agc h C=>aE d ((jF h (C.map λ(B,n,x)=>(B,n,e x))).map .ag)|.bsl w len h C p=>gO d (ob d.hp w len h (C.map λ(i,x)=>(i,e x)) p)|.bsv w len h C=>aE d (pU w len h (C.map λ(i,x)=>(i,e x)))|.len k x=>aE d (dS d.hp k (e x))|.app x y w bytes p=>gO d (bY d.hp (e x) (e y) w bytes p)|.mks l c w bytes h p=>gO d (oc d.hp (e l) (e c) w bytes h p)|.sli N w x lo hi K=>aE d (match N with|true=>Fg (e x) (lo.map e) (hi.map e) (K.map e)|false=>dY d.hp w (e x) (lo.map e) (hi.map e) (K.map e))|.sla x n w lo hi=>aE d (rX d.hp (e x) n w (lo.map e) (hi.map e))|.ixs x q=>aE d (rY (e x) (e q))|.ext x j=>aE d (uS (e x) j)|.mkf f first E=>.v (.fn f (first.map e) (E.map e)) d|.mkm=>.v (.mp d.hp.length) ⟨d.sl,d.hp++[.mp []]⟩|.lk H m k I zero=>aE d (mY d.hp H (e m) (e k) I zero)|.mup H m k v=>iO d (oe d.hp H (e m) (e k) (e v))|.mki t x=>.v (.ifc t (e x)) d|.tas x t I zero=>aE d (uT (e x) t I zero)|.nck x=>aE d (n8 (e x))|.mx J=>aE d (jI rR (J.map e))|.mn J=>aE d (jI rS (J.map e))|.call f args=>(s f (args.map e) d.hp).toR d.sl|.calv x args=>match e x with|.fn (.func f) first E=>if f=yF then .bad else(s f (first++args.map e++E) d.hp).toR d.sl|.yl y=>(s yF (.yl y::args.map e) d.hp).toR d.sl|_=>.bad
 |.inv x m args=>match e x with
  |.ifc t v=>match V.meth t m with|some f=>(s f (v::args.map e) d.hp).toR d.sl|none=>.bad
  |_=>.bad
 |.pan x=>rW (e x) d.hp|.stk=>.bad|.ixa x q n w z=>aE d (pT (e x) (e q) n w z)|.cpl f args=>match V.fn f with
  |some L=>match L.pure&&!L.own&&nZ (args.map e)with|true=>(Ff (s f (args.map e) d.hp)).toR d.sl|false=>.bad
  |none=>.bad
 |.gia g q n w=>aE d (n9 (V.glob g) (e q) n w)|.calx f args=>(uP d.hp (s f (args.map e) d.hp)).toR d.sl|.calvx x args=>match e x with|.fn (.func f) first E=>if f=yF then .bad else(xA d.hp (s f (first++args.map e++E) d.hp)).toR d.sl|_=>.bad
 |.callp f args=>(s f (args.map e) d.hp).toR d.sl
def eS(a:List D)(keep:Option Nat)(d:D):List D:=match keep with|none=>a|some k=>a.set k d
def aq.wants(o:aq)(a c:List D):Option Bool:=match o.guard with|none=>some true|some (x,d)=>match x.ev a c with|.b y=>some (y==d)|.u=>some false|_=>none
inductive Ex where|nm|ex(id:Nat)|rt|pn(d:D)|bad deriving Inhabited
def aj.reads:aj->List O|.len 0 _|.len 1 _=>[]|.ld x _ _|.iad x _ _|.iar x _ _ _|.len _ x|.sli _ _ x _ _ _|.sla x _ _ _ _|.lk _ x _ _ _=>[x]|_=>[]
def aj.writes:aj->List O|.st x _ _|.app x _ _ _ _|.mup _ x _ _=>[x]|_=>[]
def aj.fits(dr:Option (Bs×Bool))(a:aj)(b c:List D):Bool:=match dr with|none=>true|some (base,false)=>a.reads.all λx=>(x.ev b c).under base|some (base,true)=>(a.reads.all λx=>(x.ev b c).under base)&&a.writes.all λx=>(x.ev b c).over base
def xB(os:List aq)(a:List D):List Nat:=os.flatMap λo=>o.op.writes.flatMap λ|.s k=>(a.getD k .u).blk|_=>[]
def AH(b:Bool)(os:List aq)(a:List D)(H:ab):Bs:=(H.length,match b with|true=>xB os a|false=>[])
def ops(V:aw)(c:FuncId->List D->ab->CR)(dr:Option (Bs×Bool)):List aq->List D->St->Ex×St|[],_,a=>(.nm,a)|o::os,b,a=>match o.wants b a.sl with
 |some true=>match o.op.fits dr b a.sl with
  |true=>match step V c b a o.op with
   |.v d e=>ops V c dr os (b++[d]) ⟨eS e.sl o.keep d,e.hp⟩|.p d f=>match dr.isNone||o.op.pans with|true=>(.pn d,⟨a.sl,f⟩)|false=>(.bad,a)
   |.bad=>(.bad,a)
  |false=>(.bad,a)
 |some false=>ops V c dr os (b++[.u]) ⟨eS a.sl o.keep .u,a.hp⟩|none=>(.bad,a)
def jd(body:St->Ex×St):Nat->St->Ex×St|0,a=>(.bad,a)|n+1,a=>match body a with|(.nm,b)=>jd body n b|r=>r
def pY(a:List D)(y:Nat)(b:St):CR->Ex×St
 |.ret _ H=>match H[y]? with|some (.yh _ _ _ _ _ _ .rd)=>(.nm,⟨a,H.set y .no⟩)|some (.yh _ _ _ _ _ _ .dr)=>(.rt,⟨a,H.set y .no⟩)|some (.yh _ _ _ _ _ _ (.dx id))=>(.ex id,⟨a,H.set y .no⟩)|_=>(.bad,b)
 |_=>(.bad,b)
def oh:List Nat->List D->List D|[],a=>a|k::b,a=>(oh b a).set k .u
def oi:List Nat->St->Ex×St|[],a=>(.nm,a)|k::b,a=>match eR a k with|some c=>oi b ⟨a.sl.set k (.hp a.hp.length 0),a.hp++[.hb 0 c]⟩|none=>(.bad,a)
def AI(b:List Nat):Ex×St->Ex×St|(.nm,a)=>oi b a|(_,a)=>(.bad,a)
def aC(V:aw)(f:FuncId->List D->ab->CR)(n:Nat):aR->St->Ex×St
 |.skip,d=>(.nm,d)|.reg os l,d=>ops V f (match l with|some b=>some (AH b os d.sl d.hp,b)|none=>none) os [] d|.seq a b,d=>match aC V f n a d with|(.nm,h)=>aC V f n b h|r=>r
 |.cond c t e,d=>match c.ev [] d.sl with|.b true=>aC V f n t d|.b false=>aC V f n e d|_=>(.bad,d)
 |.block id c,d=>match aC V f n c d with|(.ex i,h)=>if i=id then(.nm,h)else(.ex i,h)|r=>r
 |.loop c,d=>jd (aC V f n c) n d|.exit id,d=>(.ex id,d)|.ret,d=>(.rt,d)|.stuck,d=>(.bad,d)|.hrg os k,d=>AI k (ops V f (some ((d.hp.length,[]),false)) os [] ⟨oh k d.sl,d.hp⟩)|.rng j x,d=>match V.rnd j with
 |some r=>match x.ev [] d.sl with|.fn (.func g) [] cap=>if g=yF then(.bad,d)else pY d.sl (d.hp.length+1) d (f g (.yl (d.hp.length+1)::cap) (d.hp++[.df,.yh r.f r.path j r.nt r.tm d.sl .rd]))|_=>(.bad,d)
 |none=>(.bad,d)
def gP:List D->List Nat->List D->List D|a,k::b,d::ds=>gP (a.set k d) b ds|a,_,_=>a
def oj(y:Nat):Ex×St->CR
 |(.nm,a)=>match a.hp[y]? with|some (.yh f p j c d x .bz)=>.ret (.b true) (a.hp.set y (.yh f p j c d x .rd))|_=>.bad
 |(.rt,a)=>match a.hp[y]? with|some (.yh f p j c d x .bz)=>.ret (.b false) (a.hp.set y (.yh f p j c d x .dr))|_=>.bad
 |(.ex id,a)=>match a.hp[y]? with|some (.yh f p j c d x .bz)=>.ret (.b false) (a.hp.set y (.yh f p j c d x (.dx id)))|_=>.bad
 |_=>.bad
def mZ(V:aw)(c:FuncId->List D->ab->CR)(n:Nat)(y:Nat)(b:aR):Ex×St->CR
 |(.nm,a)=>match a.hp[y]? with|some (.yh f p j d e x .rd)=>oj y (aC V c n b ⟨a.sl,a.hp.set y (.yh f p j d e x .bz)⟩)|_=>.bad
 |_=>.bad
def je(V:aw)(a:FuncId->List D->ab->CR)(n:Nat)(args:List D)(H:ab):CR:=match args with
 |.yl y::b=>match H[y]? with
  |some (.yh f p j c d x .rd)=>match V.rnd j with|some r=>if r.f=f/\r.path=p/\r.nt=c/\r.tm=d/\r.ps.length=b.length then mZ V a n y r.b (aC V a n r.a ⟨gP x r.ps b,H⟩)else .bad|none=>.bad
  |_=>.bad
 |_=>.bad
def dc.ev(a:St):dc->Option D
 |.s k=>a.sl[k]?|.bx k n c=>match eR a k with|some b=>if b.length=n then val c b else none|none=>none
 |.hb k n c=>match a.sl[k]? with
 |some d=>match cT a.hp d n with|some b=>val c b|none=>none
 |none=>none
def de(a:St):List dc->Option (List D)|[]=>some []|r::b=>match r.ev a with
 |some d=>match de a b with|some ds=>some (d::ds)|none=>none
 |none=>none
def gm:List D->D|[d]=>d|ds=>.tu ds
def fN(H:ab):D->Option D
 |.mu a n c len=>match aO H a n with|some (w,rows,_,true,lk)=>if c+len<=n then some (match lk with|false=>.ow w ((rows.drop c).take len)|true=>.im w ((rows.drop c).take len))else none|_=>none
 |.b x=>some (.b x)|.i k n=>some (.i k n)|.s l=>some (.s l)|.nil=>some .nil|.z=>some .z|.im w rows=>some (.im w rows)|.np=>some .np|.mnil=>some .mnil|.fn f [] []=>some (.fn f [] [])|.nf=>some .nf|.ni=>some .ni|_=>none
def jJ{α β:Type}(f:α->Option β):List α->Option (List β)|[]=>some []|x::a=>match f x with
 |some y=>match jJ f a with|some b=>some (y::b)|none=>none
 |none=>none
def gQ(H:ab):D->Option D|.ag a=>(jJ (fN H) a).map .ag|d=>fN H d
def iP(H:ab):D->Option D|.tu ds=>(jJ (gQ H) ds).map .tu|d=>gQ H d
def iQ:D->List Nat|.mu a _ _ _=>[a]|_=>[]
def gR:D->List Nat|.ag a=>a.flatMap iQ|d=>iQ d
def jK:D->List Nat|.tu ds=>ds.flatMap gR|d=>gR d
def fw:List Nat->Bool|[]=>true|x::a=>!a.contains x&&fw a
def jL:D->ab->D×ab|.ow w rows,H=>(.mu H.length rows.length 0 rows.length,H++[.ar w rows none true false])|d,H=>(d,H)
def xC:List D->ab->List D×ab|[],H=>([],H)|d::ds,H=>let r:=jL d H;let q:=xC ds r.2;(r.1::q.1,q.2)
def lY:D->ab->D×ab|.ag a,H=>((.ag (xC a H).1),(xC a H).2)|d,H=>jL d H
def xD:List D->ab->List D×ab|[],H=>([],H)|d::ds,H=>let r:=lY d H;let q:=xD ds r.2;(r.1::q.1,q.2)
def place:D->ab->D×ab|.tu ds,H=>((.tu (xD ds H).1),(xD ds H).2)|d,H=>lY d H
def rZ(H:ab)(d:D):Option D:=match bS bG H d with|some (a,_)=>some a|none=>none
def eE(H:ab):D->Option D
 |.tu ds=>match aW bG H ds with|some (a,_)=>some (.tu a)|none=>none
 |d=>rZ H d
def ol(own:Bool)(H:ab)(d:D):Option D:=match own with|true=>if fw (jK d)then iP H d else none|false=>eE H d
def eT(own:Bool)(d:D)(H:ab):D×ab:=match own with|true=>place d H|false=>(d,H)
inductive PR where|ret(d:D)|pan(d:D)|bad deriving Inhabited
def fi(V:aw)(c:FuncId->List D->ab->CR)(n:Nat)(a:aJ)(args:List D)(H:ab):CR:=if args.length=a.npar then match aC V c n a.body ⟨args++List.replicate (a.nsl-a.npar) .u,H⟩with
 |(.nm,b)|(.rt,b)=>match de b a.res with|some ds=>.ret (gm ds) b.hp|none=>.bad
 |(.pn d,b)=>.pan d b.hp|_=>.bad else .bad
def eA(base:Nat)(H:ab):ab:=H.take base++(H.drop base).map λ|.df=>.no|b=>b
def iR(V:aw)(c:FuncId->List D->ab->CR)(n:Nat)(a:aJ)(args:List D)(H:ab):CR:=if args.length=a.npar then match aC V c n a.body ⟨args++List.replicate (a.nsl-a.npar) .u,H⟩with
 |(.nm,b)|(.rt,b)=>match de ⟨b.sl,eA H.length b.hp⟩ a.res with|some ds=>.ret (gm ds) (eA H.length b.hp)|none=>.bad
 |_=>.bad else .bad
def jf(V:aw)(d:FuncId->List D->ab->CR)(n:Nat)(e:aJ)(q:ft)(base:Nat)(b:List D)(x:D)(c:St):CR:=match aC V d n q.body ⟨(b++List.replicate (q.ns-b.length) D.u).set q.rk x,c.hp⟩with|(.nm,a)|(.rt,a)=>if base<=a.hp.length then(match de ⟨c.sl,a.hp⟩ e.res with|some ds=>.ret (gm ds) a.hp|none=>.bad)else .bad|_=>.bad
def D.noBx:D->Bool|.bx _=>false|_=>true
def jM(V:aw)(b:FuncId->List D->ab->CR)(n:Nat)(a:aJ)(q:ft)(args:List D)(H:ab):CR:=if args.length=a.npar then match aC V b n q.pre ⟨args++List.replicate (a.nsl-a.npar) .u,H⟩with
 |(.nm,st1)=>if st1.sl.all D.noBx=false then .bad else match aC V b n a.body st1 with|(.nm,c)=>jf V b n a q H.length ((q.caps.map O.s).map (O.ev [] st1.sl)) .ni c|(.rt,c)=>jf V b n a q H.length ((q.caps.map O.s).map (O.ev [] st1.sl)) .ni c|(.pn x,c)=>jf V b n a q H.length ((q.caps.map O.s).map (O.ev [] st1.sl)) x c|_=>.bad
 |_=>.bad else .bad
def cX(V:aw)(b:FuncId->List D->ab->CR)(n:Nat)(a:aJ)(args:List D)(H:ab):CR:=match a.dfr with
 |none=>match a.rg with|none=>fi V b n a args H|some _=>iR V b n a args H
 |some q=>jM V b n a q args H
def gS(V:aw)(c:FuncId->List D->ab->CR)(n:Nat)(b:aJ)(args:List D):PR:=match cX V c n b args []with
 |.ret d H=>match ol b.own H d with|some a=>.ret a|none=>.bad
 |.pan d H=>match bS bG H d with|some (a,_)=>.pan a|none=>.bad
 |.bad=>.bad
def dU(V:aw)(a:FuncId->List D->ab->CR)(n:Nat)(f:FuncId)(b:aJ)(ds:List D):PR:=match V.pext f ds with|some d=>.ret d|none=>gS V a n b ds
def D.bare:D->Bool|.b _|.i _ _|.s _=>true|_=>false
def jN(a:Bool)(d:D)(H b:ab):ab:=match a&&d.bare with|true=>H|false=>b
def call(V:aw):Nat->FuncId->List D->ab->CR|0,_,_,_=>.bad|n+1,f,args,H=>match V.fn f with
 |none=>if f=yF then je V (call V n) n args H else match V.ext f args H with|some (d,a)=>.ret d a|none=>.bad
 |some b=>match b.pure with
 |false=>match V.ext f args H with|some (d,a)=>.ret d a|none=>cX V (call V n) n b args H
 |true=>match aW bG H args with|none=>.bad|some (ds,a)=>match dU V (call V n) n f b ds with|.ret d=>.ret (eT b.own d (jN b.fre d H a)).1 (eT b.own d (jN b.fre d H a)).2|.pan d=>.pan d a|.bad=>.bad
def dh(V:aw)(n:Nat)(f:FuncId)(ds:List D):PR:=match n with|0=>.bad|n+1=>match V.fn f with|some a=>dU V (call V n) n f a ds|none=>.bad
section
@[irreducible]def lk{c:aR}:aR:=c
@[irreducible]def zk{z:List D}:List D:=z
@[irreducible]def dk{d:D}:D:=d
@[irreducible]def iK(k:IntKind)(n:Nat):D:=.i k n
@[irreducible]def iM(n:Nat):D:=.i .i64 (-n:Int)
@[go_sem]def azr{c:aR}:@lk c=c:=by unfold lk;rfl
@[go_sem]def azs{z:List D}:@zk z=z:=by unfold zk;rfl
@[go_sem]def azt{d:D}:@dk d=d:=by unfold dk;rfl
@[go_sem]def Fm{k:IntKind}{n:Nat}:iK k n=.i k n:=by unfold iK;rfl
@[go_sem]def azu{n:Nat}:iM n=.i .i64 (-n:Int):=by unfold iM;rfl
def rd{α:Type}(x:α){y:α}(h:x=y:=by conv=>lhs;reduce):x=y:=h
def P6:Nat->IntKind|0=>.i8|1=>.i16|2=>.i32|3=>.i64|4=>.u8|5=>.u16|6=>.u32|_=>.u64
def bop:Nat->BinOp|0=>.add|1=>.sub|2=>.mul|3=>.quo|4=>.rem|5=>.and|6=>.or|7=>.xor|8=>.shl|9=>.shr|10=>.andNot|11=>.eql|12=>.neq|13=>.lss|14=>.leq|15=>.gtr|_=>.geq
def uop:Nat->UnOp|0=>.neg|1=>.xor|2=>.not|_=>.plus
def ekd:Nat->EK|0=>.b|1=>.sl|2=>.pt|3=>.mp|4=>.fn|_=>.ifc
structure AL where
 z:List (List D)d:List D
 m:List String
 h:List Nat
section
variable{β:Type}(T:AL)
def fc{α:Type}:Nat->(Nat->α)->α|0,k=>k 0|n+1,k=>k (n+1)
def nb:Nat->Nat->List Nat|f+1,n+1=>fc (Nat.mod (n+1) 16) λd=>d::nb f (Nat.div (n+1) 16)|_,_=>[]
def dg:List Char->Nat->Nat|[],n=>n|c::l,n=>fc (79*n+(c.toNat-40-c.toNat/46-c.toNat/65-c.toNat/97)) (dg l)
def ns(l:List Char):List Nat:=nb 9999 (dg l 0)
abbrev Ps(α β:Type):=(α->List Nat->β)->List Nat->β
def pF:Nat->Ps Nat β|f+1,k,a::r=>bif Nat.ble a 11 then k a r else bif Nat.ble a 14 then(match r with|b::r=>fc (16*a+b-180) λn=>k n r|[]=>k 0 [])else pF f (λx r=>match r with|b::r=>fc (16*x+b+60) λn=>k n r|[]=>k 0 []) r|_,k,_=>k 0 []
def pN:Ps Nat β:=pF 20
def pL{α:Type}(p:Ps α β):Nat->Ps (List α) β|0,k=>k []|n+1,k=>p λx=>pL p n λa=>k (x::a)
def pS{α:Type}(p:Ps α β):Ps (List α) β:=λk=>pN λn=>pL p n k
def pB:Ps Bool β:=λk=>pN λn=>k (n==1)
def pZ:Ps (List D) β:=λk=>pN λn=>k (T.z.getD n [])
def cst:Nat->D|0=>.nil|1=>.np|2=>.mnil|3=>.nf|4=>.ni|5=>.u|6=>.b false|7=>.b true|8=>.s []|_=>.z
def pD:Ps D β:=λk=>pN λn=>if n<10 then k (cst n)else if n<18 then pN λv=>k (iK (P6 (n-10)) v)else if n=18 then pN λf=>k (.fn (.func f) [] [])else if n=19 then pN λv=>k (iM v)else k (T.d.getD (n-20) .u)
def pO(i:Nat):Ps O β:=λk=>pN λn=>match n%4 with|0=>k (.l (i-n/4))|1=>k (.s (n/4))|2=>k (.c (iK .i64 (n/4)))|_=>pD T λd=>k (.c d)
def l7(i:Nat):Ps (List O) β:=pS (pO T i)
def pQ(i:Nat):Ps (Option O) β:=λk=>pN λn=>if n=0 then k none else pO T i λx=>k (some x)
def pA:Ps AB β:=λk=>pN λn=>k (if n%2=0 then .sl (n/2)else .lo (n/2))
def pE:Ps EK β:=λk=>pN λn=>if n=9 then pS pN λl=>k (.st l)else k (ekd n)
def pK:Ps KK β:=λk=>pN λn=>if n=9 then pS pN λl=>k (.st l)else k (.c n)
def pP3(i:Nat):Ps (Nat×Nat×O) β:=λk=>pN λa=>pN λb=>pO T i λx=>k (a,b,x)
def P7(i:Nat):Ps (Nat×O) β:=λk=>pN λa=>pO T i λx=>k (a,x)
def AM(i o:Nat):Ps aj β:=λk=>match o with|0=>pO T i λx=>k (.mov x)|1=>pO T i λc=>pO T i λa=>pO T i λb=>k (.pick c a b)|2=>pZ T λz=>k (.lal z)|3=>pO T i λx=>pN λn=>k (.lbx x n)|4=>pN λt=>pZ T λz=>k (.hal t z)|5=>pN λt=>pO T i λx=>pN λn=>k (.hbx t x n)|6=>pN λw=>pS (pZ T) λz=>pB λp=>k (.haa w z p)|7=>pA λa=>pN λn=>k (.lfa a n)|9=>pA λa=>pN λn=>pB λg=>k (.lld a n g)|10=>pA λa=>pO T i λx=>pN λn=>k (.lst a x n)|11=>pO T i λx=>pN λn=>k (.fad x n)|12=>pO T i λx=>pO T i λj=>pN λw=>k (.iad x j w)|13=>pO T i λx=>pO T i λj=>pN λn=>pN λw=>k (.iar x j n w)|14=>pO T i λx=>pN λn=>pB λg=>k (.ld x n g)|16=>pO T i λx=>pN λn=>pB λg=>k (.ldh x n g)|17=>pO T i λx=>pO T i λv=>pN λn=>k (.st x v n)|18=>pN λb=>pO T i λx=>pO T i λy=>k (.bin (bop b) x y)|19=>pB λg=>pE λe=>pO T i λx=>pO T i λy=>k (.eqv g e x y)|20=>pN λb=>pO T i λx=>k (.un (uop b) x)|21=>pN λb=>pO T i λx=>k (.cvi (P6 b) x)|25=>pZ T λz=>pS (pP3 T i) λp=>k (.agc z p)|26=>pN λw=>pN λn=>pZ T λz=>pS (P7 T i) λp=>pB λg=>k (.bsl w n z p g)|27=>pN λw=>pN λn=>pZ T λz=>pS (P7 T i) λp=>k (.bsv w n z p)|28=>pN λn=>pO T i λx=>k (.len n x)|30=>pO T i λx=>pO T i λy=>pN λw=>pN λb=>pB λp=>k (.app x y w b p)|32=>pO T i λx=>pO T i λy=>pN λw=>pN λb=>pZ T λz=>pB λp=>k (.mks x y w b z p)|33=>pB λs=>pN λw=>pO T i λx=>pQ T i λa=>pQ T i λb=>pQ T i λc=>k (.sli s w x a b c)|34=>pO T i λx=>pN λn=>pN λw=>pQ T i λa=>pQ T i λb=>k (.sla x n w a b)|35=>pO T i λx=>pO T i λj=>k (.ixs x j)|37=>pO T i λx=>pN λj=>k (.ext x j)|38=>pN λf=>l7 T i λa=>l7 T i λb=>k (.mkf (.func f) a b)|39=>k .mkm|40=>pK λq=>pO T i λm=>pO T i λx=>pB λg=>pD T λz=>k (.lk q m x g z)|41=>pK λq=>pO T i λm=>pO T i λx=>pO T i λv=>k (.mup q m x v)|42=>pN λt=>pO T i λx=>k (.mki t x)|43=>pO T i λx=>pN λt=>pB λg=>pD T λz=>k (.tas x t g z)|44=>pO T i λx=>k (.nck x)|45=>l7 T i λx=>k (.mx x)|46=>l7 T i λx=>k (.mn x)|47=>pN λf=>l7 T i λa=>k (.call f a)|48=>pO T i λx=>l7 T i λa=>k (.calv x a)|49=>pO T i λx=>pN λm=>l7 T i λa=>k (.inv x (T.m.getD m "") a)|50=>pO T i λx=>k (.pan x)|51=>pO T i λx=>pO T i λj=>pN λn=>pN λw=>pB λg=>k (.ixa x j n w g)|52=>pN λf=>l7 T i λa=>k (.cpl f a)|53=>pN λf=>l7 T i λa=>k (.calx f a)|54=>pO T i λx=>l7 T i λa=>k (.calvx x a)|55=>pN λg=>pO T i λj=>pN λn=>pN λw=>k (.gia g j n w)|56=>pN λf=>l7 T i λa=>k (.callp f a)|_=>k .stk
def pV(i:Nat):Ps aq β:=λk=>pN λh=>(λh=>match h%4 with|0=>AM T i (h/4) λo=>k ⟨o,none,none⟩|1=>pN λq=>AM T i (h/4) λo=>k ⟨o,some q,none⟩|2=>pN λg=>AM T i (h/4) λo=>k ⟨o,none,some (.l (i-g/2),g%2==1)⟩|_=>pN λq=>pN λg=>AM T i (h/4) λo=>k ⟨o,some q,some (.l (i-g/2),g%2==1)⟩) (T.h.getD h 0)
def pW:Nat->Nat->Ps (List aq) β|0,_,k=>k []|n+1,i,k=>pV T i λx=>pW n (i+1) λa=>k (x::a)
def pX:Ps (List aq) β:=λk=>pN λn=>pW T n 0 k
def pC:Nat->List aR->(aR->List aR->List Nat->β)->List Nat->β|0,L,k=>k .skip L|f+1,L,k=>pN λn=>match n with
 |0=>k .skip L|1=>pX T λl=>k (.reg l none) L|2=>pC f L λa L=>pC f L λb=>k (.seq a b)|3=>pO T 0 λx=>pC f L λa L=>pC f L λb=>k (.cond x a b)|4=>pN λi=>pC f L λa=>k (.block i a)|5=>match L with|l::L=>k (.loop l) L|[]=>k .skip []
 |6=>pN λi=>k (.exit i) L|7=>k .ret L|8=>pB λd=>pX T λl=>k (.reg l (some d)) L|9=>pN λj=>pO T 0 λx=>k (.rng j x) L|10=>pX T λl=>pC f L λb=>k (.seq (.reg l none) b)|12=>pX T λl=>pS pN λc=>k (.hrg l c) L|_=>k .stuck L
def pR:Ps dc β:=λk=>pN λn=>match n with|0=>pN λa=>k (.s a)|1=>pN λa=>pN λn=>pB λg=>k (.bx a n g)|_=>pN λa=>pN λn=>pB λg=>k (.hb a n g)
end
def dB(T:AL)(L:List aR)(n:String){l:List Char}(_:n=String.ofList l:=by rfl):aR:=pC T 99 L (λc _ _=>c) (ns l)
def dF(T:AL)(L:List aR)(g:Nat)(n:String){l:List Char}(_:n=String.ofList l:=by rfl):aJ:=have s:=ns l;have f:=pN (λ_=>pN λ_=>pN λc _=>c) s;⟨pN (λa _=>a) s,pN (λ_=>pN λb _=>b) s,pN (λ_=>pN λ_=>pN λ_=>pS pR λr _=>r) s,pN (λ_=>pN λ_=>pN λ_=>pS pR λ_=>pC T 99 L λc _ _=>c) s,f%2==1,f/2%2==1,none,f/4%2==1,if f/8%2=1 then some g else none⟩
def dT(n:Nat)(c:String){l:List Char}(_:c=String.ofList l:=by rfl):List (List Nat×List Nat):=pL (λk=>pS pN λa=>pS pN λb=>k (a,b)) n (λl _=>l) (ns l)
end
end Go.Dm
