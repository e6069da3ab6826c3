/-
  Part of the proof.
-/
import Derived.Test.YtigbdbdlkoeadaaGreatDoorAE
import Derived.Test.YtigbdbdlkoeadaaGreatDoorProg
import Derived.KernelRfl
set_option linter.all false
namespace Go.Proofs.YtigbdbdlkoeadaaGreatDoor.Dv
section
open Go.Dm Go.Proofs
set_option maxRecDepth 10000
def Pd(P:Program)(V:aw)(g:FuncId)(v:aJ)(a b:List Nat):Bool:=match P.funcs[g]? with|some fn=>lC P V fn v a b&&(!decide (fn.name="runtime.NumGoroutine")&&(match v.rg with|none=>true|some f=>f==g))|none=>false
def aw3{P:Program}{V:aw}{g:FuncId}{v:aJ}{a b:List Nat}(h:Pd P V g v a b=true):E9 P V g v:=by
 unfold Pd at h;split at h
 ·rename_i fn e;simp only[D0,k7,vy]at h;refine⟨fn,a,b,e,h.1,h.2.1,?_⟩;have:=h.2.2;split at this;·exact .inl ‹_›
  rename_i f q;exact .inr (by rw[q,eq_of_beq this])
 cases h
def zN(P:Program)(V:aw):List (FuncId×aJ)->List (List Nat×List Nat)->Bool|[],_=>true|(g,v)::l,(a,b)::m=>Pd P V g v a b&&zN P V l m|_,_=>false
def ab4{P:Program}{V:aw}:∀{l:List (FuncId×aJ)}{m:List (List Nat×List Nat)},zN P V l m=true->∀q∈l,E9 P V q.1 q.2
 |[],_,_,_,h=>by cases h|(g,v)::l,[],h,_,_=>by cases h|(g,v)::l,(a,b)::m,h,q,c=>by
  unfold zN at h;rw[D0]at h;rcases S2.1 c with rfl|c;·exact aw3 h.1
  exact ab4 h.2 q c
def ab5:∀(l:List (FuncId×aJ))(f:FuncId)(v:aJ),El l f=some v->(f,v)∈l
 |[],_,_,h=>by cases h|(g,u)::r,f,v,h=>by
  simp only[El]at h;split at h;·rename_i e;cases h;subst e;exact N1
  exact M0 _ (ab5 r f v h)
def ab6:∀(l:List (Nat×Rnd))(f:Nat)(v:Rnd),Ek l f=some v->(f,v)∈l
 |[],_,_,h=>by cases h|(g,u)::r,f,v,h=>by
  simp only[Ek]at h;split at h;·rename_i e;cases h;subst e;exact N1
  exact M0 _ (ab6 r f v h)
def aw4{P:Program}{V:aw}{l:List (FuncId×aJ)}{m:List (List Nat×List Nat)}{g n:Nat}(h:∀k<n,zN P V ((l.drop (g*k)).take g) ((m.drop (g*k)).take g)=true)(d:l.length<=g*n)(a:0<g):∀q∈l,E9 P V q.1 q.2:=by intro q b;obtain⟨i,hi,rfl⟩:=kz.1 b;refine ab4 (h (i/g) (Nat.div_lt_of_lt_mul (by omega))) _ ?_;have c:=AAT i g;have e:=mm i a;refine kz.2 ⟨i%g,by simp;omega,?_⟩;simp[c]
def tbs:List (List Nat×List Nat):=dT 276 "*S9Cg5bRYLW8Q)5sGsvS(2dMH3AtWc3fQHuPgLlkkqXWR*6GOW5SE:3qTqcVitQuRL[1g31bW7;i.S(<ID)*^lruMAB3fhU*0:;Nrx<JzV0r([bknbZbLbb1g>:03(EVdPT_AAaa0dqSsLdU5qm86]HmKpXT7JYa0Dm>ZVvL07LR0Xp,Kb:Tq9L]GOZg+*V],N6_f.Ph.rjISeS[ebTqbCAm4j<C:[S;0C/=^VBC??x==u0Gp]/Xw:Ka6Po*GMgKU5VOJ1_BwS?v5KlLyQ+56^YRA,B1?b:J_c,E7[3WO=syG*a9cZg[GRV</F*1GtvCr]9]>TZ3P9()magH7LSldhRu4p4pRx4iR_2P1*([N9479ub2A;rXdoqJX3^*rMxjKt*y=m^drP4r<0_KQ03.]KGem:I?1[Sj[xejJA5;d=,TGjsV[iwmRwttml/xU?+UV?<;N0sgp:q_;RBSdQR.^e1>/>M0RYH9TQelU,E;mfyNsSpJwtHj*Z2dS,0rH:>]DtB(5p12^[a>lZ1sf8L2(HtFs2w2Pc:pV4KYdk+Z)1:Upg7+mTAuEL2O.ka=uoex4Js)N?e>?EUmo=L.L)ZYpxtQB5Gl3jUH<;nI>K+o:)JBWyknj]yb[w9eDa7Bw4LxuhfVi_X]GF*902Ksn)pTX(?(O==?dQYcYPW2sOpEz?4tC/Y*OSk)bsw^/tlST30ew*nAj::YtakLPPDG0jByCHr:6f:t]7XSga5/+Fzr+:)+CD3OatXrQEGtcQsz:,AIe.WgcS;l4*RM?acQJs5NC(ndj?VfHglxN^6p)f5ykog:OYuZ:ngmp2*:hm<H)X;hZHts,+5Vd8icPtaWZb8PRxXiVitYBfd;w^Se;kR>aV;fHsi>Jkk6=:KIszB]_jn:uwISi:<>>zZ*E^YO0]4_mx:dmAK0fMsu_*]1WR01)8u_<z.s]LAs^l_KT^D5e44UAIC+by9>YkW4;[P<9_??iH7h2[aZyL>ozk?Cq[gp/so8.OJ9X(/ACMdL2PKt56o[Lb3mWE97oy:jLf[([TI[PtSNBR7_KEaki7Xi>bnv6=6,WiV;mr:wYn12dqRR+NAKGj:y][P^dn9NlRj>mLcF5r6fmj*<pY<?KAgmzm1]mX>97ZF2][,][3MuMduz*.JYf,I7v,U*gw<ku)=J46h[56.OJL]Pn+QK_rViHF9XZGv+y?3mAuQK^t<fllVX9n?11C:forwMsHagL.rDtrEQY37cCGV+?t6zzUHZ2=r(5EkX.,E[82AvBB+cf53OjZ/3=9AsDmvWkuMFj7R9L]h9+^zSG^CKYv=st^;UcR;PIU8pLFB0l5fA)*7N>Vm>=GP1W*;=yVdM8h9yL7kZSMWcD,s*A=Ipm]Tmwk<gL?X?S_uZUunAQj<]*B>:>l(U7ltHx[Vf)PEA5LCCt(f?])?P<DbFU+MFr1oQ^dBK.E7qj3T_X;WW*r9zmG3u6*?^..C;rC3ejMDyqof/M=>2Bt/*atUN;,yiAqQ,>AQMSJJh_=*+zAhViOOaUt:v0HVSE/pOBfYhzC,(C<0,;dMATGm2sZw?M(tm2(tkq)v;M)_AiQ>L0my4hn(louiJfbh,jF8:**6>qHAKZp6X[By8i7w8:G96g)Htz]8H3;2GDK^<?18G*CqBLJA<.R7mRC3*T(RIZz[k6q*BH5IW;Qv0JT]SPb90=7tSmN+gn5/Vk4oc0lO[dEKN=Gr*Rr3+vKY7_,B)Qu?:T4trOUW4r4Kc_YZ0sG4,/?1Epv;Lze:Af5rsG48CYoXm<>w/EBd^xiSkZnepgGW^hNH><[BNN7TbsUVV73ZRB0IqmN0w*iVQjWsw_9UJ>yfxg;F^x,JliaOb2_i1o94[X_pq3Vinj[^nt)ALGDgg[Rm,jAGwu0)bF3gb3:/guD8T0demELmh;c5ABSteT[>Hs4f:>v)J=O*nGe6=nEBddf.vTUBXU:LsLB6t,C5nY.+lR^iAK:1Be03zmbZ[WLm98a>O.TesV<9Z<^5aY9<<sD/T2kzu7_28)Ud^q)QX7LIKV3Im]<0cmJ6x]w:vYJUy+c:iC5^ghfJYQr3n3j:kWOGe24G+0s:8Iy=8rN4R4)m_]6eeWeLV<z0w;(n;jMlCZ,5fzMYRVbp9)oRfrrq]II_Eu<uB,[90b<*Nr]kka4iT^zoDp><D_G1eAY9K:4[(X+_QK3;n0?6G7JeBgU<LD(fO9A)R_lirVxVKm;t/TgVP]?BLg[0uqx2xocYy^;9o57zDBkyQ(thf8UgX_hw66P4OtrTJFIc(*+6x+t1fT0hM+gLWWpC8k)<q1:oe17_+WzzlCRZ^qND?:V5CpD<ng<?TRiLfrX1Dl*DvxmyTaZp)*+9xgV2ygzwe.[vY,vmXA]Qy(G52ybu(>a8=AHfKueGG2hb^fmrNLj.?=*,V9P(=PL4gnEWIx]GREHvr0)X0_X;9aYom=hAx1Z7wRz:vHn7>weQy_=J.cy4._ntCiL_Q*X]lzEDy=jaWW=u7Cqm<h(RRV<Thh0[SDBYwRpJC(fxstaVIgJU;tm4JKZ>iLVSwqVu/j/nXPhCRwa^;>PI1mX3xuxIY5ic/Ef4s7fBR"
section
variable(e:FuncId->List D->ab->Option (D×ab))(p:FuncId->List D->Option D)
noncomputable def gB(k:Nat):Bool:=zN Tryz.prog (Vx e p) ((O9.drop (16*k)).take 16) ((tbs.drop (16*k)).take 16)
def ok0:gB e p 0=true:=by kernel_rfl
def ok1:gB e p 1=true:=by kernel_rfl
def ok2:gB e p 2=true:=by kernel_rfl
def ok3:gB e p 3=true:=by kernel_rfl
def ok4:gB e p 4=true:=by kernel_rfl
def ok5:gB e p 5=true:=by kernel_rfl
def ok6:gB e p 6=true:=by kernel_rfl
def ok7:gB e p 7=true:=by kernel_rfl
def ok8:gB e p 8=true:=by kernel_rfl
def ok9:gB e p 9=true:=by kernel_rfl
def axf:gB e p 10=true:=by kernel_rfl
def axg:gB e p 11=true:=by kernel_rfl
def axh:gB e p 12=true:=by kernel_rfl
def axi:gB e p 13=true:=by kernel_rfl
def axj:gB e p 14=true:=by kernel_rfl
def axk:gB e p 15=true:=by kernel_rfl
def axl:gB e p 16=true:=by kernel_rfl
def axm:gB e p 17=true:=by kernel_rfl
def axn:∀k<18,gB e p k=true|0,_=>ok0 e p|1,_=>ok1 e p|2,_=>ok2 e p|3,_=>ok3 e p|4,_=>ok4 e p|5,_=>ok5 e p|6,_=>ok6 e p|7,_=>ok7 e p|8,_=>ok8 e p|9,_=>ok9 e p|10,_=>axf e p|11,_=>axg e p|12,_=>axh e p|13,_=>axi e p|14,_=>axj e p|15,_=>axk e p|16,_=>axl e p|17,_=>axm e p|n+18,h=>by omega
def axo:(Pa.all λq=>AA Tryz.prog (Vx e p) q.2)=true:=by kernel_rfl
end
def noY:Tryz.prog.funcs[yF]?=none:=by kernel_rfl
def axq:∀(t:TypeId)(m:String)(f:FuncId),Pb t m=some f->f≠yF/\∀(v:Value)(W:World),(Go.method (Tryz.prog.types.size+Made.depth) t v m).run Tryz.prog W=.ok (f,v) W:=by
 intro t m f h;unfold Pb at h;split at h;·rename_i a;obtain⟨rfl,rfl⟩:=a;cases h;exact⟨by decide,λv W=>by kernel_rfl⟩
 split at h;·rename_i a;obtain⟨rfl,rfl⟩:=a;cases h;exact⟨by decide,λv W=>by kernel_rfl⟩
 split at h;·rename_i a;obtain⟨rfl,rfl⟩:=a;cases h;exact⟨by decide,λv W=>by kernel_rfl⟩
 cases h
def ab7{e:FuncId->List D->ab->Option (D×ab)}{p:FuncId->List D->Option D}{T:Kn->World->Prop}(k:∀{K:Kn}{μ:Mu}{H:ab}{W:World}{c:Kn}{l:Mu}{a:ab}{i:World},T K W->HR K μ H W->Nx K μ H W c l a i->T c i)(ext:∀(f:FuncId)(args:List D)(H:ab)(d:D)(a:ab),e f args H=some (d,a)->H.length<=a.length/\mT Tryz.prog f/\∀(K:Kn)(μ:Mu)(W:World)(vs:List Value),T K W->HR K μ H W->bf K μ H args vs->Calls Tryz.prog f vs.toArray W (fW K μ H W d a))(pext:∀(f:FuncId)(ds:List D)(d:D)(b:aJ),(Vx e p).fn f=some b->p f ds=some d->∀(K:Kn)(W:World)(vs:List Value),T K W->HR K aK [] W->bf K aK [] ds vs->Calls Tryz.prog f vs.toArray W (uF b.own K W d))(m:∀(g w:Nat)(rows:List (List D)),Em g=some (w,rows)->∀(K:Kn)(W:World),T K W->uG K g w rows):dK Tryz.prog (Vx e p) T:=⟨k,λf b h=>aw4 (axn e p) (by decide) (by decide) (f,b) (ab5 O9 f b h),noY,λj r h=>⟨rfl,TB.1 (axo e p) (j,r) (ab6 Pa j r h)⟩,axq,ext,m,pext⟩
end
end Go.Proofs.YtigbdbdlkoeadaaGreatDoor.Dv
