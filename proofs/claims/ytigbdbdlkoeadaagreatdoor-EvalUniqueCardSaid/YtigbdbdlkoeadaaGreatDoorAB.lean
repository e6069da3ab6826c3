/-
  Part of the proof.
-/
import Derived.Test.YtigbdbdlkoeadaaGreatDoorAA
set_option linter.all false
namespace Go.Proofs.YtigbdbdlkoeadaaGreatDoor.Dv
section
open Go.Dm
set_option maxRecDepth 100000
set_option linter.defProp false
def z0:List D:=[(.b false),.nil,(.b false),.nil]
def z1:List D:=[(.i .u8 0),(.b false),.nil,(.b false),.nil,(.i .i64 0)]
def z2:List D:=[(.b false),.nil]
def z3:List D:=[(.i .u8 0),(.s []),(.i .u8 0),(.b false),.nil,(.b false),.nil,(.i .i64 0),.nil]
def z4:List D:=[(.s []),(.i .i64 0),(.i .i64 0),(.i .i64 0),(.b false),(.i .u8 0),(.b false),.nil,(.b false),.nil,(.i .i64 0)]
def z5:List D:=[(.s []),(.b false),.nil]
def z6:List D:=[(.s []),(.s []),(.i .i64 0),(.i .i64 0),(.i .i64 0),(.b false),(.i .u8 0),(.s []),(.i .u8 0),(.b false),.nil,(.b false),.nil,(.i .i64 0),.nil,(.i .u8 0),(.s []),(.i .u8 0),(.b false),.nil,(.b false),.nil,(.i .i64 0),.nil]
def z7:List D:=[(.i .u16 0)]
def z8:List D:=[(.i .i64 0)]
def z9:List D:=[(.i .i64 0),(.i .i64 0),(.i .u8 0),(.b false),.nil,(.b false),.nil,(.i .i64 0)]
def tH:List D:=[(.i .u32 0)]
def tI:List D:=[(.i .i64 0),(.i .i64 0)]
def tJ:List D:=[(.s []),(.i .i64 0)]
def tK:List D:=[.nil,.nil,.nil]
def tL:List D:=[(.i .i64 0),(.i .i64 0),(.i .i64 0)]
def tM:List D:=[(.s []),.nil,.nil,.nil]
def tN:List D:=[(.s []),(.i .i64 0),(.i .i64 0)]
def tO:List D:=[(.s []),(.i .u8 0),(.b false)]
def tP:List D:=[(.i .i64 0),(.i .i64 0),(.i .i64 0),(.b false),.nil,(.b false),.nil]
def tQ:List D:=[.np]
def tR:List D:=[(.i .u64 0),(.i .u64 0),(.i .u64 0),(.i .u64 0),(.b false)]
def tS:List D:=[.nil]
def tT:List D:=[(.i .i64 0),(.i .i64 0),.nil]
def tU:List D:=[(.i .u64 0)]
def tV:List D:=[.nf]
def tW:List D:=[(.b false),(.b false),(.i .i64 0)]
def tX:List D:=[.nf,.nf,.nf,.nf,.nf,.nf]
def tY:List D:=[.np,.mnil,.mnil,.mnil,.mnil,.nil,.nil,.nil]
def YQ:List D:=[(.s []),.nil,.nil,.nil,(.i .i64 0),.mnil,.mnil,.mnil,.mnil,.mnil]
def tZ:List D:=[(.b false)]
def ua:List D:=[(.s [])]
def d0:D:=(.s [112,101,110,115,105,111,110])
def d1:D:=(.s [114,97,116,101])
def d2:D:=(.s [97,103,101])
def d3:D:=(.s [112,97,121])
def d4:D:=(.s [97,108,108])
def d5:D:=(.s [102,97,99,116])
def d6:D:=(.s [121,111,117,110,103])
def d7:D:=(.s [111,108,100])
def d8:D:=(.ag [(.i .u8 0),(.b false),.nil,(.b false),.nil,(.i .i64 0)])
def d9:D:=(.ag [(.s []),(.b false),.nil])
def YR:D:=(.ag [(.i .i64 0)])
def YS:D:=(.s [32])
def Dr:D:=(.s [0,1,2,2,3,3,3,3,4,4,4,4,4,4,4,4,5,5,5,5,5,5,5,5,5,5,5,5,5,5,5,5,6,6,6,6,6,6,6,6,6,6,6,6,6,6,6,6,6,6,6,6,6,6,6,6,6,6,6,6,6,6,6,6,7,7,7,7,7,7,7,7,7,7,7,7,7,7,7,7,7,7,7,7,7,7,7,7,7,7,7,7,7,7,7,7,7,7,7,7,7,7,7,7,7,7,7,7,7,7,7,7,7,7,7,7,7,7,7,7,7,7,7,7,7,7,7,7,8,8,8,8,8,8,8,8,8,8,8,8,8,8,8,8,8,8,8,8,8,8,8,8,8,8,8,8,8,8,8,8,8,8,8,8,8,8,8,8,8,8,8,8,8,8,8,8,8,8,8,8,8,8,8,8,8,8,8,8,8,8,8,8,8,8,8,8,8,8,8,8,8,8,8,8,8,8,8,8,8,8,8,8,8,8,8,8,8,8,8,8,8,8,8,8,8,8,8,8,8,8,8,8,8,8,8,8,8,8,8,8,8,8,8,8,8,8,8,8,8,8,8,8,8,8,8,8])
attribute[go_sem]z0 z1 z2 z3 z4 z5 z6 z7 z8 z9 tH tI tJ tK tL tM tN tO tP tQ tR tS tT tU tV tW tX tY YQ tZ ua d0 d1 d2 d3 d4 d5 d6 d7 d8 d9 YR YS Dr
def TT:AL:=⟨[@zk z0,@zk z1,@zk z2,@zk z3,@zk z4,@zk z5,@zk z6,@zk z7,@zk z8,@zk z9,@zk tH,@zk tI,@zk tJ,@zk tK,@zk tL,@zk tM,@zk tN,@zk tO,@zk tP,@zk tQ,@zk tR,@zk tS,@zk tT,@zk tU,@zk tV,@zk tW,@zk tX,@zk tY,@zk YQ,@zk tZ,@zk ua],[@dk d0,@dk d1,@dk d2,@dk d3,@dk d4,@dk d5,@dk d6,@dk d7,@dk d8,@dk d9,@dk YR,@dk YS,@dk Dr],["Pair","Fact","Table"],[0,1,72,36,188,28,56,40,148,73,48,74,9,30,2,38,4,13,112,100,44,5,84,68,113,58,190,108,81,114,176,21,50,80,120,37,46,82,17,152,192,160,164,156,128,6,189,132,77,78,224,102,104,76,228,196,180,193,168,64,220,178,109,20,200,204,140,184,57,52,194,86,149,229,161,154,172,101,222,208,162,25,136,212]⟩
def YT:=dB TT [] "4A*.TDHs_RZZi6rpchOE.VpK,hl*c)Xxod;aqoX:4H8.KRq_Wr^DLArNxRsPd3fH=xgplgU[4iwjg+Ts2J"
def Jt:=rd YT
def YU:=dB TT [] "/(D?7.<8t*^zYgLMB?F0*_Xvp64Igt=V^*tNrpuZwX(hE<Sk3SBmy+K:vafo7he66uXvuS8zBfH(h:I"
def Ju:=rd YU
def YV:=dB TT [@lk YU] ")DA,mawTz6Bum)hYfE8N9IMw,c<)=N+<o=)o,(qcK8Qw1Rg0^eCwy.mV5gg0?T)Ey[pSk.,Pq7]_lI?iNhJQgt[,oxq<;U3V4fS"
def YW:=rd YV
def YX:=dB TT [] "*K^z5_L])YucU75ZQ:I3_>1df_]nNXmaqTxeAd7,+bHEtbQDL6yzWy(3c40WMgfgCz70Ac5cTQZ7"
def Jv:=rd YX
def v3:=dF TT [@lk YT,@lk YV,@lk YX] 3 "6OdKY05Xm9(xm9vRd/P]TP]+NPZ<sp:bKgC:7Y,*jAP3v_wLoe6qY0s3izU4]ys,jMarY*D_VAH:uk>jD(TBw)9vL:+pQWcqxY0[I)r*0EhbmfX:SQkZLF6A)PvZeAU9OzjV[9<xkl6WFU3;mt2Lmfe[3pmkRSus[n__>JGO:M<w_uS.?8gdV^QcKp(pw4Ff[A[Qi:c60=/9l8Zr(CNWs_TQ9<8w^3D[H62H=P)8TlS^L64Yq)1:4G2]Eza+l2en1IBD:5?/y4SU"
def YY:=rd v3
def YZ:=dB TT [] "wb78rKmyB,gd,Fg71y6TXf>6ZuqyxD[92vo2S=T89E=Em([4](i7I*lV^ZL_"
def Y0:=rd YZ
def Y1:=dB TT [] ".SFTO2ciGxyHwpFirz35<_1MS[mBki0a85r7v/3F*aFfZ.Fn[H2VZ"
def Y2:=rd Y1
def Y3:=dB TT [] "/Y8K)].2__c<P<kRC9e*ig7Tmp,QkfH=bNRnt^W)B3[IhcxDR=4R<:?.lLXM:cqx5zThVuiol:l>>E6AR2X*kBW8m0D"
def Jw:=rd Y3
def Y4:=dB TT [] "7plCCXVkxNa)c*Lsn8Md^KHxKo?,SHEWx0F;w=.f:ZsE5B8MztAuwgw5_Tbw)JywmyoF(]H5>b5=)n[=gVv3Qs^pxo_7eA"
def Jx:=rd Y4
def Y5:=dB TT [] "+,PNJFNxBLbR+qY>Hf3T<[tGjuZ_.CN,ct1/jZf2cP2urL?=8V?jR_s7T;S*bViWhAqSc6o2(G*IxIpFk_s8VO146taWA0b8eSjHMQ)rfF:N4Zm.dE^t<A8;T]2i;PD^9GS/cp?"
def wO:=rd Y5
def Y6:=dB TT [@lk Y5] "0PI=GlMNiQ[ev19z*=geH;g?HmXf9BR_V>Q1e3RuQHE7*YeoQo4W06M9DHkt3f+cUZsS3t>/Te+<oE=;AH.dKA/=cEX"
def Y7:=rd Y6
def v4:=dF TT [@lk YZ,@lk Y1,@lk Y3,@lk Y4,@lk Y6] 4 ",[U(s(0pJtVcMzmng)T)?5AgxSsG=U1E/.k,V>wV[To[8TdQxJ2VTVirK4z]K>VqW7EwVvqON;bBQCok(JXAo:o:gVxZt6Y1yrq6st^MS(4AjCsScnrBpt0e8r6MIe)/c:[4;o;V;TST(hLNpr+^wnoswgL:S1>UwGTBp_gq4Uovo.5Y1qZOxZO/2*);lq2FhbYBWp=3C59)fp:9X.K(CgD)7PF+>aoNec5dtDLJ+sjlmK^3y7Dvm+R<W6+kQYFvS?2Z>=2XJbmSQT*oGe0dOAl;]Vp4l]6)BlG5K,3/i341,<kGnpBRtkAYR:AXLEVUhA=br3x+51Gajc1kDwUabilVLA20+PjbTH.*/;3)HE+AYfn=jKq[)EcOkw8F59hV)"
def Y8:=rd v4
def Jy:=dB TT [] "Idt7D:d7w3Cu2MJLHHD=O1BT]1O]*N[T^L6uB]<21Fzr>C(aeH0jlBm/B?k>+x5V"
def o9:=rd Jy
def v5:=dF TT [@lk Jy] 5 ").=243kKzhR:HYp9ZKKEPvN.GcK<UG]?ANUP6O<+jHt(2gCip_iM7H?/1q?L13P>cCUA/kUl)F9_NX44xs)eOJdh6_QA_R3b^(2g5CGNE0K4QAIJj9U.wT/bRr*mV)x6HU7)[MdHn1fE0R]50c2S9jipJ[.)/s<,F(wxTr+oQx.>EPM9H6Qj:SL.r2fuoWr=OzqmHGATdvj[HWV25DDjQtTQxCln0ddv^OVoGgvMx8vn7jr=gPU35xnbE:[1C>YF+;7*u1<sC(^KJi1BTh)FSwlJgj/olg]rYzw/dQDGM5afO<uX?1jz7oX8ZOk+,).7d>_.sNZ*DWHFmi]Q2ttNfjz_jI8H>SmPka,ce*2bbT*;T.^ob5C1Atm28VS0]sig6:t;j9yo9n4dLWZ4Dx5N9_qjCaMfl?G4u^:x4R^Xru:CC_]CXW[Dx0g4fUVfc;EzNeDqc4pKKx0daGS*.A0.95*r53cgn5w4pnpCt[+x1<p/;gl=)38:>,(SFs9Ncc/<],/JiqUe=5(.FgpcbLjl7TSkGw.;33k72[O<o0LY>0OWv<BADfMSOWgN<VMbQWI7w=e7+i?c7H>x5[5k]qvnD[U9/ZYteTiib;w3x,>c;1Qb,p+L1CkZXV<>R81^Oc0/NihO2M(W]toA(xZ+y7ZxDKuVMmyXpoK[.V^faZuqK?9]^?2CZX_AaWfSG3Hf;dQHFg.wzKkO[/o8tMj+eEseE?c1CrzN:_B(C/U3.fiP_9?y?+YNmvUV]EudMJwhF(a_^8sbrMpMH5O]I.cQo:dZM.l+MgKbkKy)G8EQ[(Rrm:fzl?/9DCLZEMM:mUmCo:D663aBp+yWvrYrj_msf<J]C,U6;.BTT)n>i2[GsBHENLqM>eWqMO?uM,>psA7jF>=ei_2Rpgg/HMm33*w;.>/UL=Alraf9tz5Do]/yM)sz:+vi9NaK*"
def Jz:=rd v5
def Y9:=dB TT [] "R4KB>4AKL;zY)/[a*xv6nmlD*XyR^;PLC?AU.Rdflo1z]8LBI3PyPf8uBkjp;+0ozA[5])zShDt]I7N+_NQDOdO0VlzdVj0nqKyWpuyy6+pMHggIOleB8oHNm/F_Wq^(;Ea1b^^R1,m,6+EaFwrT(<+H^gCbROqJPVE(Rn(c]DtOGGn"
def zq:=rd Y9
def Za:=dB TT [] ")kuF5Gw^CKFgWF4/CN>Lp=J;jcj>V>=NJNAdoUoUDb=_7lO+(b[GiV8>__WXGGV_*x.GbE+49*UlZi4qT*y>>)cbKQ5.A:)bY"
def JA:=rd Za
def v6:=dF TT [@lk Y9,@lk Za] 6 "Q?XHPI>D_GE)RGZ>)TI:Gf9,5CU.x37UF:5^Yu7c>LI7kkhWwmAz[vDwVV[ROU/UIKg>F_;9qQur=wikEB55kYm?=j>Fzl?+OkJ0eWDswHgbS>Jq0)WGbQJ0,vFhPWM4*ImGL+MNu.cm4/eI(3R9HvwZQw(wb;>6k3qzaMC9KC5IeNg+DT9:wu1jFnVWss>zQ]?+D*]ZuZRnqsOlv_w.eC>9xFSAC?PSRpD_3LD?;xg,vAk^5V)?^mqj6SvhDIy,Hg(4pa=8?C?*AgB?43RT19]PnZ,czGIJFc.;=FrRv^4:xo><wKq3C>_<;V5/(jp,4rW[T9bmdO.9VWi0RP[,*p"
def JB:=rd v6
def v7:=dF TT [] 7 "0SmNOx0:S=4v^haZNzYJLN)sazB0THhnI?LWt.<vf<hQ(K37QHf)Sg/[ocv*uC<rjJ(aUH>Kj1ia]ofaf(h<LIt(EwF21"
def ki:=rd v7
def v8:=dF TT [] 8 ":WpCE<0KzT)QrtqxT9u9dT7CGZCB)1c,WlU[V)tdz?T5TIQn?]mY09Y<v^S_6<eJGk>?atoX,stI8JNqgTmr8w](x*Avb0avVKsmKhJWS(.cEX1_q4J4aLqU6;WuQHUvixqLeq?Hr6sku[Dqxs(.smha4^lZINoPUww1TwCogUyLptyHmgk4K(+HeC3e7GzW<++[p.P_81Go[jIoM;cpqE)0/8ESf?zPek_wt=ErI^]o7tERUfd,^ZGZ.mXR^Qkl+J^E/2TU1/+w=WQklHk*;>yKV2[dy6Lv^KMLxl__^rd3gppA=h9,StJhpW^G,mXhkB6p=^Sa7?ilb13Pqtao:1svVjRn2Rxy,)hz/lC;9jNdVaXKNzuG,43k/JhX5VWUKKFa:kE]XMkbw7RhseLb.jz<)cZa8ou6z,Z:_f_qjic(Q?Dk]r)4gP[)V[m*H)M]+w^A1:;g]Jm.T^S[WoLPYywD1zyI?qThG,]SG5i1sx1J_CAzv]K+q2xrioaVd+72QQdZaZ0Q9VAawlW9bw?D/X1GtsdG4Epoz[)gV(f,<P0UU<n7?QUjgt(]NQ1k<V5R>SMLY[M_T?VqoA*PI;9Qm66u(gIWh31<X_>LtA2HH;HG18+L9m]^,AVwaYvuHF60XLED.>q+B9;pyXwW*cnn<ul4MfB7cBZ:]13E+r7i_E)dt5m5i0[F9/hi7VeRHY41QD+l>[ew4SyU]QN0D"
def v9:=dF TT [] 9 "ezH8)f]uMVaSRUOF+p9FURpg/8NKNwLhTUbBfmhe:*XTkfm3]cQGelSunRGc[)cfvR]uOwQRd62r0NpvjuY;,Ji^UQr1W]o+v2f_IYKoBvPSe<bQw6VUCJbyzB3P.hJ+<M5b4I3E/W/msk3^NS4L^"
def cd9:=rd v9
def JC:=dF TT [] 10 "<._Oor.]3LD+Z>93<7*cW<uwzMS/K*U2iq6juPSh:o*l9uF;bMU]YXAjQTY/HsQgfhOyMpy=ULaW_cy;.S"
def aus:=rd JC
def Zb:=dB TT [] "<BHiYfXw<,SaYZ]ZSzs60uQ^HidxxBlrTIMtD57z/]sqK4Hao8tAL*Ocxe.2uD;tH?"
def Zc:=rd Zb
def Zd:=dB TT [] ")h;a/cYome;+Y[0A+_7YTRh*4_gUJf*i9pBmIn6Dbwx,6nVLFNJlSn;N4vPIapPC1BK[oAL"
def Ze:=rd Zd
def Zf:=dB TT [] "pG+^laxwk7;i49YcMPuf7kqrqY44_cj*HkO2403)9PnBMw0Z]MBtM3B_*<rXCfH>NVQ"
def Zg:=rd Zf
def JD:=dF TT [@lk Zb,@lk Zd,@lk Zf] 11 "+9x<<6Rw6Xp+0DNK[9.P=W,T21CC4gGqL0>?ev/;kHE5P?VK(*<tyboYL5Vtbx?4pqvLTE+aZ3[lzd/6+Y3/Eh3Cev>Zp(uMODmtD36UO[3SB6t]wFWDsx8Ty;=(FRGC=QJY)PolM9f0XY)[MZrYMCXt:z>kalBY6Gs"
def aut:=rd JD
def Ds:=dF TT [] 12 ")7:l3a)>04+dWIVDrbw]ex9"
def auu:=rd Ds
def JE:=dF TT [] 13 ")^26S(WVZjZWeQjsn7eiI1b.+V?R"
def auv:=rd JE
def Zh:=dF TT [] 14 "CcZxXqVW_5+;:6*9mMRKZT,NPSY0"
def JF:=dF TT [] 15 "/9BB76e*?=Ge9sP/hvlqJTElQI^KAniek_*cE7Ehu5.A2;CZ"
def auw:=rd JF
def JG:=dF TT [] 16 "Op*<S^E8;JX[lW<2nUT0xx9zOgU[SVm]Z:v,?8D=CwPvP6_XCwyUbJ)I(DSdWGQZG.CktN8f4=Df*3rP4ommujLLwaf:mIiyiILGmKnwi3mYxwfiKvffs<]05<cVq"
def Zi:=rd JG
def JH:=dF TT [] 17 ",huFy6Vs^05>Sl)41)Qwp0Uf1T]77[9h6Px>fE)_),A8*ZUOh7uYtWe9[<1X;w4RvDO7S"
def aux:=rd JH
def JI:=dF TT [] 18 ")*tFV6n5zBigct0tX7:>zLiVNaNqnTIQg<fXfs(SBC(6La03bge]2bnV7Cwb^bbue0*Oa:<Xt.*213+c>m0U/TxzCly>9L;N"
def auy:=rd JI
def Zj:=dB TT [] "0UtpTG_27RG:UZOm/n7qaB_2SwcbAjRj.nG[[ijuVYLB(Nr?>v3n9a_eHw?1mpqoux^m<6(G1uJ12>*4(:>jS(sK?OxWyH.y]JXxQ]TJG1>VF:FMK[cu?ySnvkPzrl,mg]DCb(C(Mv(4S>ko^PC.*F<5X9:9M)<0l9)FAaI0:rO;U4]yUahf)coa/QiCBcHmakia^]h;Jw2SRn])9)VGlAiK"
def qT:=rd Zj
def auz:=dB TT [] "wb/p>u8iS,yqVTG>RcUQ/(u;>zq8EXbRfzuCO+Lj5x>;/w4Y]:H5[c*IK9zg"
def Dt:=dF TT [@lk Zj,@lk auz] 19 "Bmw>WqVNAeOFy5>Mt53a/J_kxtKO_olpd30Y1zxL.6DUQQ?Lqol<lcn7uBo.N"
def Du:=rd Dt
def JJ:=dB TT [] ">*RYVm]CYg9(=AS>MY.;Ln:<fx_,Hh]O](uf:2C.m[2H=z):yb(?4rLodTnHec*fguaB7?2Y=>u.<hc/4/w^gSawGSfSGyinCKs"
def JL:=rd JJ
def JM:=dB TT [@lk JJ] "TxKxg340iqPqLdR?nI(ry2YUDS>xc=sPPMrVyO0t*oUV_,bIkuZ7Z3aXeAxouyc7ADF=Q"
def Zk:=rd JM
def JN:=dB TT [] "6Z>qv4w49ZfUyb3x=t8yZO<qDaA/nVcIkEeQh0n)3)oFBHc9(y9+MTw^ECyzmhdf(/oknS,h7N5R>r1ka8B=X.>RzBK::<"
def Dx:=rd JN
def Dy:=dB TT [@lk JN] "VXXlUv(OD9C=)a/hELZsX.+6A*KXJMEuPnt;JL2x6At]lkV]uNDz.=z_*<M25;i5okB+r6(;t+o<"
def JO:=rd Dy
def zr:=dB TT [] "mFf8xx2*3Wjhz=[smVgz=u7EUkfxy1ochi6*pzlURg.4^;aJ[1Ydkwxk;=[rZYE,,3SZQ*M[eLroXWy0z?k9N5cT10u)f0/<lZ:D"
def Dz:=rd zr
def JP:=dF TT [@lk JM,@lk Dy,@lk zr] 20 ")+,e?tpbceoGcAwWgWHMh9anoam*?EG)rhLj>Zli2Wzl*LvnC=95Q8Tr.9UcDnU^ZI*FrvUyF,]DdxRiL1Hvxf6UW+PJM.2*U1dx1>1v<o3=ze?1j8F2;jZc;=/BujLX6iku;muET^PnGauq,EF4^66d4qK[o>0klI77]CO8Jh/:BoNVrLHzj_1XCBzTdg7LiVFZ>PZD[e[Tn9lzE>YN<mSy.tQ2fwr1Yno5WtbPV^3>Ta<RXHfU.J?X0;3"
def auA:=rd JP
def Zl:=dB TT [] "/0u7iNYHWnIHV404(k48H3I>a6_rvG1e/>^9]X^Rxi.gE?0j)RF^.oo:q_VA(rAPN3oB]q.q4JS<p5"
def qU:=rd Zl
def JQ:=dF TT [@lk Zl] 21 "+M(SD^BUjk3Kx3jtKUfUXzk[6ULc7c8"
def Zm:=rd JQ
def Zn:=dB TT [] "*Zi(k0bncF*Ktd9SmhXKYVd]kgyyYNiee;?xm2=[>N3OGV(D1dRdi+VnXMoF3kvCdE]ImxjiEHGK"
def DA:=rd Zn
def Zo:=dB TT [] ")LYoedHXXHvJK,bKzVPyIll+B*4wpKZ)Bls_u^>zi];Gts;d=eA/"
def JR:=rd Zo
def DB:=dF TT [@lk Zn,@lk Zo] 22 "5[[Fo29Nt;0lMa.*^xrPA1?[hPG3GUR9,Q^z5Y=RHT?Z:xW)]CsS/(btv0WCZY)L3c<VZ]q?V+xTP2yvy^yb)AnH5J19qSU=+43n5Jg[m;<[38kZilJJ:"
def DC:=rd DB
def Zp:=dB TT [] "=JohoPvOdE6>o+<=_TFHeof1K9U4V:AEiz?0c;Yg51wVEy>yB9ww8xJCyHr)>fdP1RYEh/[lQgJ,.NCc8ml3*gVKcYxT94M*UH)oi,3RExs?0OtRO7dIC9+rUQaW=rw5qXx=Nls1X4DFBVxuRBA>1hcna?E95ZqpuZU[,"
def wP:=rd Zp
def Zq:=dB TT [@lk Zp] "9WYY+h5)WuEjh,C6BzW(:fuwfssx6wpv,f_RhiBdl>F2pf<FpX0RZU"
def JS:=rd Zq
def JU:=dF TT [@lk Zq] 23 "8WByatBp[R?>AmLa+W3OSYaK;:MQ6XGs.Evah"
def Zr:=rd JU
def v24:=dF TT [] 24 "Dc.+c,jQqY,VBYWAvbKx+Xk(QY[7FD0O0y_8)ph1WrLJ85/mV=sIE/N2jrpk[hs+ZMNsuMxo7UMz]VCHnqc2MX>DO:h5VzekjoltHS*^=VFPUTE/(t0*ItWXWf=(lp^c?O;U]j]Ihj9Ay735^azAHFrE87?miN_dw*Y1*l.gLq31_Uk29kuAtwf;xbJw]aS<g?^s*zo^*/.lkckaH7?Sa^G0=CFXrQALHx1Jq]f<Yiq4gW55peSq="
def v25:=dF TT [] 25 "*5qU6sx9323v7JsYfvP50xno.n=9]7a^uFivkJ(_(s/>xsUiv4h?sA6PHQa>S2eqhr"
def v26:=dF TT [] 26 "=ng9]CVZt22fQ]:LodHPQ0zL:dB6[986v<6unnMZ]qwV8jyA2"
def v27:=dF TT [] 27 "5Hm+uE.aI,w:<V0n/UBdzFbCE"
def v28:=dF TT [] 28 "+9Rq28YBrAzz7bv+7wBN5kY+Nc6a6f[T(W,Ejl"
def JV:=dF TT [] 29 "40SKy0lG>Zi?w:Z8qE)TG+9H)f_v*oP>3zXS;tznzAEs3mZd9GZJylr88hTlw3EeA67ZFMX:3MF2f;[VqV;n5FRL.Ymz.nEeQ7E3N^8.o*DjR;.11,FrW]S.2xnc"
def zt:=rd JV
def JW:ft:=⟨(.reg [⟨.hal 36 [(.i .u8 0),(.b false),.nil,(.b false),.nil,(.i .i64 0)],some 1,none⟩,⟨.hal 54 [(.i .i64 0)],some 2,none⟩] none),[1,2],51,5,3,(.seq (.reg [⟨.mov (.s 3),none,none⟩,⟨.eqv true .ifc (.l 0) (.c .ni),some 2,none⟩] none) (.cond (.s 2) (.seq (.reg [⟨.lal [(.i .u8 0),(.b false),.nil,(.b false),.nil,(.i .i64 0)],some 4,none⟩] none) (.reg [⟨.lld (.sl 4) 6 true,none,none⟩,⟨.mov (.s 3),none,none⟩,⟨.call 52 [(.l 1)],none,none⟩,⟨.st (.s 0) (.l 0) 6,none,none⟩,⟨.st (.s 1) (.l 2) 1,none,none⟩] (some false))) .skip)),[0,1,6,2,3],[4]⟩
def JX:aJ:=⟨1,3,[.hb 1 6 true,.hb 2 1 false],(.seq (.reg [⟨.mov (.s 0),none,none⟩,⟨.calv (.l 0) [],none,none⟩,⟨.st (.s 1) (.l 1) 6,none,none⟩,⟨.st (.s 2) (.c (.i .i64 0)) 1,none,none⟩] none) .ret),false,false,(some JW),false,none⟩
def e30:JX=⟨1,3,[.hb 1 6 true,.hb 2 1 false],(.seq (.reg [⟨.mov (.s 0),none,none⟩,⟨.calv (.l 0) [],none,none⟩,⟨.st (.s 1) (.l 1) 6,none,none⟩,⟨.st (.s 2) (.c (.i .i64 0)) 1,none,none⟩] none) .ret),false,false,(some JW),false,none⟩:=rfl
def JY:=dF TT [] 31 "),A;a?9nOE6BgH+_)BSO16KyMt.VfQ"
def auH:=rd JY
def JZ:=dF TT [] 32 ",b?eA0CgHc1>TZBp2iW>_xZ6p[HNehOB>ThW60n]U.W/:xtxZV)VUSy8XAj8md5UEO1l."
def auI:=rd JZ
def J0:=dF TT [] 33 ")]ENs99k*hu(>rD6bY(Fp3ecFcs,LqzSRoX.jLAV1=[2tzFM1=Bcx*a/0SIm]2X3=iE8H/fd:TPLIRb16h9Oo8LF2+_Pve7dqm[1KhzXk8uQ,cQ9CT/wJ7:SwIf=mpJyn7D*w<NlH*:1]7l6PSZ4V_mVI"
def Zt:=rd J0
def J1:=dF TT [] 34 "*F]J8ydpnC>ZRQbgkN7hV8Jz/3[PTjJNVwwx9oAOw?R6/ZK[lQPPRW/D2]o"
def auJ:=rd J1
def auK:=dB TT [] ")93;Pz3wG;R.)G32e4*u0MKus7u];D"
def v35:=dF TT [@lk auK] 35 ")j93gBE4Cjzy:Nl:CcaRV_iWD4rVYGMFBvh/GM20081AJnsRR*Xb?^c;0_0og83[2J]sl(LCk3tWCyUo:PqvC>T*>v<h3/>y+[I[h7+fb7aOd<X7d"
def J2:=dF TT [] 36 "<Hu2O?d0:>72eRJw]7/HbjF5hSR^k_UcdNgE[8HRtxv(6tNQ?"
def auM:=rd J2
def J3:=dF TT [] 37 "H1UtQw0J8Opdy]W6hOkcwFb_^[s)m+[Vx+JD]+V9v0FDrG^"
def auN:=rd J3
def J4:=dB TT [] "V;[yw77FB2ec82CGbn<AuEFT/cVTX,_?Rpfn(2yvwNdrafVk7GiFJ3pb9s5Iw:?C6MU35"
def Zu:=rd J4
def J5:=dF TT [@lk J4] 38 ",U6mQY;OJ?t*1JSux*8TL)TQyQjJBr_zJ=)_S4:mKFuGRA<GA*DBK.YYJhzlQ[iI_Ts]/)tW;8_6D47/q(ssfqvj76Pv8LAR)HxSyPWD]V6eCf^8(OS;WiHKAJdJaY=;tz6>G44fL+YRGWls*M0/x0)gM4^Tro][bC1khNJ]0^eh>v>k/J=aHhA.mVG]Es6Rxy3oIHd+6Jty<Nd/tnbNl0BO]t7m?pa=TSGWN89c_AxIR<2vUq)]fGxz568ZJ+4jUon<N8rUdFW>kMu7x=zC=J?RGX]Rkn),^,KAo=27UFW[0?L=Td6?UhYRvZut1:ho6.g+z=3s(/B:FsnQr5qCX5rbWWDSTO>hWroCMx*bJQT(aY5DRlt9q5g19hfwn9c_mzd<R?0c*QRlmUUBqGqjiPIj<[qYR/B+Cf.riXcV=[p7Q^Od+nk_H)F>lai_NiZYv=D"
def ub:=rd J5
def J6:ft:=⟨(.reg [⟨.hal 3 [(.i .i64 0)],some 1,none⟩,⟨.hal 54 [(.i .i64 0)],some 2,none⟩] none),[1,2],63,5,3,(.seq (.reg [⟨.mov (.s 3),none,none⟩,⟨.eqv true .ifc (.l 0) (.c .ni),some 2,none⟩] none) (.cond (.s 2) (.seq (.reg [⟨.mov (.c (.i .i64 0)),some 4,none⟩] none) (.reg [⟨.mov (.s 4),none,none⟩,⟨.mov (.s 3),none,none⟩,⟨.call 52 [(.l 1)],none,none⟩,⟨.st (.s 0) (.l 0) 1,none,none⟩,⟨.st (.s 1) (.l 2) 1,none,none⟩] none)) .skip)),[0,1,6,2,3],[]⟩
def J7:aJ:=⟨1,3,[.hb 1 1 false,.hb 2 1 false],(.seq (.reg [⟨.mov (.s 0),none,none⟩,⟨.calv (.l 0) [],none,none⟩,⟨.st (.s 1) (.l 1) 1,none,none⟩,⟨.st (.s 2) (.c (.i .i64 0)) 1,none,none⟩] none) .ret),false,false,(some J6),false,none⟩
def e39:J7=⟨1,3,[.hb 1 1 false,.hb 2 1 false],(.seq (.reg [⟨.mov (.s 0),none,none⟩,⟨.calv (.l 0) [],none,none⟩,⟨.st (.s 1) (.l 1) 1,none,none⟩,⟨.st (.s 2) (.c (.i .i64 0)) 1,none,none⟩] none) .ret),false,false,(some J6),false,none⟩:=rfl
def J8:=dF TT [] 40 "Blsrz=vZhGc78HgHuzm/Bwu4,+QPp=F_rj8K?9^35cQ/SJx;os8iQnOx>CMmG"
def auP:=rd J8
def J9:=dF TT [] 41 "1r:>*_]WCdve=U<6D;OCT0t+IrbO6yEtY0lR]nWCB^q:Ltbz;7:Q_cpx*_zN2zW.,P_9fbq^zBy9;BZ<h?/LTgDK2Q^Ilzt<og*].a/;3IhgxSNnj;nc(GpOC03B7n0=YMh0Noj?+iUhicOE1/M)P64Q(7H/l:n*Idng5c.O"
def Zv:=rd J9
def Zw:=dB TT [] ";jBowt(r?f,B_Jmm7AdcpV]LH,]9()L<.pzV/T=;SWDf8gFj3J[PLJ[]kbYduGfEzPdVs9IXEEzE9zGN"
def DD:=rd Zw
def Ka:=dF TT [@lk Zw] 42 ")STMRqD]ExLxB2M[yk(sH0w=UHc/^l[o.hMZRKuZJQanUsZ]jah2yR1BjXaaY.okI.sEh)q2Gu9=YKlYSwDH6A7y7nShYb"
def auQ:=rd Ka
def Kb:=dF TT [] 43 "52Eey6Ivs"
def auR:=rd Kb
def Kc:=dF TT [] 44 "fXkyr(kLO6S1GfA0DfUKH;W;"
def auS:=rd Kc
def Kd:=dF TT [] 45 ")CWA[eYr64r4ReAX(e5C5bRxa/;gYGV;ViUUz]0Dok"
def Zx:=rd Kd
def DE:=dB TT [] "Ovd?I.wU7m;6*?MRC0XepwHAMJRm5lw*ql=LBLFTUMHim,xZK*"
def wQ:=rd DE
def Ke:=dF TT [@lk DE] 46 ",]oS)+a+nc=LGU^vcJCE7bj3Fl[bHkzijIT?o3.GzY=2umsEytvz_A4eSMJ=H9bg;x?Akq3)<Oy<H[:3Y6B7NOc)MaYw>x2q:3jd(w"
def qV:=rd Ke
def Kf:=dF TT [] 47 "4=vfnOmLhVpIyb(uNK8,G,pK4pVE19G62j4s;Szm0J<q[6/HC[X1B8o)w(mz9U/JNgD1yt]KL<EwfHoWFZ/6S.oL)UUXf2h9;XbI5sWc^u9du[Zs;Vf5mrmH/YXO"
def zu:=rd Kf
def Kg:=dF TT [] 48 ",bI0alRupA9z6*,o(To;[CTX_IN<iR8Q6t7RkFtU[OALd*/jdvL;AVj_06eCjR?ArRpTsAx]T?3SSapF__vPPxc28<=/1X]IhV9(qCd]=YL.y4wjtafH]/55eb<TuWED:dCzvMFWaFzqbu0My0O2[iMH/dsHwhh?ces./4SZpj/NY_LQ6j]mdY8kgX1YNJbRk^"
def pc:=rd Kg
def Kh:=dF TT [] 49 "_eqSCW>zbedY5guNqCVkx(V:UTYs*H76YrmDT].a0YOuQA0lFLkQD.>bh,2hR5)l"
def Ki:=rd Kh
def Kj:=dB TT [] ".4z3?/(j]M]=YnF<K(rbhr:r/Ih[*aIal5>Kb1etl0L,fAyk[nU7MuKM]z=eW2<kh6C*[Dr[Hj*pljf0enI9Lii0Mw:TgoG(c3:U,xX.8Q3ICRB;1pTWfSt"
def DF:=rd Kj
def Kk:=dB TT [] "7LY5=6MCDhB.f*o2nI)/nfT>odLuR6k7T(o^uR0eD7>Kw<VoBr_?L]4fnkKWHfd]GkY?BUipuw[>X]hf>tOHY=U,3Uf7gq"
def Zy:=rd Kk
def Kl:=dB TT [] "5lp:CRQYY^P=HS5R2.owA2^bEX9l5p(IF]m=nWu:)oL+.uJ)H(dIOE45JOpdMT6_/6HMc<02)oWuMQz<w7E+(:2c2twLQDCvI+aIs7dfOD5?"
def Km:=rd Kl
def Ko:=dF TT [@lk Kj,@lk Kk,@lk Kl] 50 ")w+JvI1AVKJqNzN>n*r3W<=7y4ibCsFNI.cz:l?WCkzj_c5Lt<Q9/oaqSzn00oho/d<)=JBhUG1fi7Ud?K[vW(i7/>.uq7IJIZPddWPp?w"
def auT:=rd Ko
def v51:=dF TT [] 51 "+7L5PtYaY[^Eb(xJt9A)FD,<rwr[+Bg7L*o3O"
def Kq:=dF TT [] 52 "/A6s,nHf*[9vZ)LqT/aqQ,oN_x:*M1eR]zXg:m^2wqRzaKVS"
def auV:=rd Kq
def Kr:=dF TT [] 53 "L_WbH9x[Tm]MfHEQdp8F9mtNiZU(8pa(8K_yzve2e;x5r.oENtl<YqBWlZfR/<EHYxd6i1.>CU=qupoSWbuffqkWK3ZIFVJhaYUclZ(qD<1=MLR6NxgtT,V3n/1c;wtouv.C"
def auW:=rd Kr
def Ks:=dF TT [] 54 "Ok9S;fRvL.5CZ7apc+4)?_7pIk7=AJ*hz.elXLED(jN)8o,NWEAPn9EFx:F"
def auX:=rd Ks
def auY:=dB TT [] "0Nf7RS]F84R1R,IH_A9Re_T)a.hTI^.E_VC[ZEvZR2OX2OClMqf"
def v55:=dF TT [@lk auY] 55 "d_eb5pAw6]ri<m3aO(VBpV.yy7/YIbc2uhXAZni20KjxFc:BAk0ZtyAbX"
def Zz:=dB TT [] ",l]ZB(2iZh?vaU?wCkXH0/fDXO5XzE=^aaxhr,]JtjH>,Kw1v5r9H/VU.45k"
def ZA:=rd Zz
def Kt:=dF TT [@lk Zz] 56 "3+k/kmK)P/Xame?VjB9y2T.ZTAEDr<AET.R?5;v;ZRNY4q?O)[W8k<eH,w3JXht9C;(uf=Pb"
def Ku:=rd Kt
def Kv:=dF TT [] 57 "=Mn4AHGsKxVXGFWcx5lZo/W?Vy.cbP6ukb;+PdrXH9u,YRvtebCmhFHC(=UOWj6G+dneW6NEL_sEZz<VX/=GeWBKM^=UhaUFJ.4Cc49EtqaC"
def zw:=rd Kv
def Kw:=dF TT [] 58 "4VnO6*[^)WISU_el"
def au0:=rd Kw
def Kx:=dF TT [] 59 "Jp2sdNI7UQZv+Wmxe3Ctbmme]Yj_+QPo_G^9G^?x"
def au1:=rd Kx
def Ky:=dF TT [] 60 "3c0I1XRerb>c/;6PPE):0d5ogE^urVKWD8UZ[i=cjxFBX81ME(Armu2d1bq7z6TQC"
def au2:=rd Ky
def Kz:=dF TT [] 61 "l*ZuWu>zIpK?m.[dlqjF(lT6GkY_EHAbJlJ>FRdRg6D0zFi7O."
def ZB:=rd Kz
def KA:=dF TT [] 62 ")esd+OT7D5Rj,Yxr0BlUq(Lkx?G10.=c,=0Tj*,KZOV;IUmA2Q+Ww.IVVPcQv7.T>dAvGEvuovJe.:,<?MoHAk<GZBj/bukPQd<pej_dAOMFTPxd2A_s[ww6RF7W5gI<]Gx(L2I9C*7hg>?D)teZDZ+;J823a(T/uLl*5Urpj_;_xUn8*L_L)NIXaB5(s0SteM.n;jdsyeuGT<ub;ZVVs6[N8BHl,gN+vFTEcWO9g6d?jImLRfVS<d^x4a]PUcVPj5j^ZIm7xiPq^2y(1YG)g5cO]o?DsUZVOwq:^(I(*Xv1S*sWT)>wb4x,k_f=bWOwQ[E:Q<m6ImvbrqQr;ihLX.?R2^8=C^>S0w<?GolT*0miWP)G1/8Ds7PIgrAEK0oJtSHfbdG<1dg_faCZFlAJ(=MNcT_pDRyuf1g5*9YJzwvUe<;IUl,Q;)U.4UNrYCKp0(i+,z_4mfcAh.ukIYyk>Uy.r0LUnN3[:8:A51j:J,ix[FrBoV:dJ8*AgQl.ZeXhE_jx^0kJ^WC=ydP,"
def fS:=rd KA
def v63:=dF TT [] 63 ",o1*elRiht8mKp2yHxB0;WSw_X.Gd4mX6)x"
def KB:=dF TT [] 64 "/8U0rnpPp0=EwfqWVH+eOcw(Pd/TTM+*XpLu)EqZh<3so=5P"
def au4:=rd KB
def ZC:=dB TT [] "HK30+)V=qSm0dy[SkiY5vk>rTs5PDUDe)k+Q:Z)DbyC;jCw?9gntE:UNN96BKfooz)C3=FU"
def KC:=rd ZC
def KD:=dF TT [@lk ZC] 66 "S?RqXo3hid=F?WxHZ1wsG7AlRKF[tm*IbCK;:(oz1KTH+DZr55eO"
def ZD:=rd KD
def ZE:=dB TT [] "0b3ITA9Ag(9a]NU86/jc,G1h:WZHQ;Xs5F4yvitAkgjGxbHWt7G"
def KG:=rd ZE
def KH:=dF TT [@lk ZE] 67 "lSlRJK>J6H[kfDFxzsHT<kd+^ovU^>h</fZavpYrA0Kt/OfGZx"
def ZF:=rd KH
def ZG:=dB TT [] "7gv8AuY^VwbMTN(<iY^Vf.>w2ACUU/^>Eh)397+S<lex9gmmzvNNGS]H0BXl5"
def KI:=rd ZG
def KJ:=dF TT [@lk ZG] 68 "h3yc93GFqFMB0?:SM)=bUhC?"
def au5:=rd KJ
def KL:=dF TT [] 69 ",:1,k61vAxB(I9fhHaN9xzZ(N3fhjufsG[7.nFpOeFAsnc9Em]tA+4gU0Ev?D]^jZ,PF,W3?jXwh"
def au6:=rd KL
def ZH:=dF TT [] 70 ".Wk.tbq<,ff*MwJ4l8hVck"
def KN:=dF TT [] 71 ")*iqiQ>k^d_gnwbFloz0PeR0ILUlTH"
def au7:=rd KN
def ZI:=dB TT [] "5V]YaRwsPH3SjXw:b4LlIH/9Q1aTI7[pb<Msy,D4e,R3ff,Kwh8+RSrPDj,Hv_1;:jdt(6:[QsF"
def KO:=rd ZI
def DG:=dF TT [@lk ZI] 72 "FVYsRG(AuL32[YJRYJBu[X>6MnohPGq021(Mx7r47_4xz?z*MHE_gL(u3v=0t?4iGgc<oIxn6R;[4hAtLABL/PneXd;(+,).bRMhvZ23l<E;.0,fz"
def qW:=rd DG
def KP:=dF TT [] 73 ",oTU:de^]0lG.V.3ef3M^<g].+tuh,8dZ/A/Cr(Ak9f7[)DQ<HN+p>ZBTrwY;wzlIA(x3]rK61qO7V_]MI,cK7ugda;vENvg5=f6aRcYLVAPf6[o).2yh;ELJs?hH?LL"
def DH:=rd KP
def qX:=dF TT [] 74 "/:SJ5Srq6t94qGM]ugB0FhkUEDDZTtosso8_XYn(DKjhOgrg?);O_Gb7DE(PcBy4KkDOTh_dPSrej2BJ>X:/kf8,2x/03)2CrTJI8dHO5jMLZ<M3ov4IGAziS7Q50]Cgi=G?0jS?^PIgUcvjm//XYRhHqju6ZM3cYYA_vkJ>iriGyKA)BUgcsAVms17RqL6wr9sK[lEU4VWNA]ZJnDsl/p5t;;yz2ulAj*6V_Zv1DW*q7IP4Jrv.bt<KJ138jz9H96])rfuv9Z7RWX:*^Be4[xtRJCi/e_yQXKDi^):Y70?2]8ODkB)zlKy*s1rQQo6*FdbPYHYW=u9"
def lf:=rd qX
def ZJ:=dF TT [] 75 ".Wk.tbq<>C/HmffEsbKDC+"
def KQ:=dF TT [] 76 "+_4Ef8XLcrLPW,.V42NBR?*B"
def au8:=rd KQ
def KR:=dF TT [] 77 "l+ICcP2?Ej=:qiUv5;M6aMs*[QCp*jxph1hQ5_>xM2/26vGpHNbwCO0koxA^(RzQWmrfh(5*]I2t:5XWUyu_l0dob5>R;9eU4qoGYm86ntXdZG_hyc?5_Nm3XxF31I_Zw.HaHewJT55K5?^64Sg+dsEzHEMqIU^ZXs3*U)bDbDzI<YJ"
def qY:=rd KR
def ZK:=dB TT [] ")f7TZp_PaPgl3yIlkgRn)AExgmOyS.4npr.MmXXqXNbWTqI+iibKOd?/:Be+J.6*c5_EJB,L[Yuh0fiUd482UtkGHIp1N*Wu,?N6PbcZ8+rJq(NDQRaT[1l8[NqDwQfbcFBN/=N+j"
def zx:=rd ZK
def KS:=dF TT [@lk ZK] 78 ",kagiGuMBpTQUn^UsQ8lqdGSF^KIId28G4(F"
def au9:=rd KS
def ZL:=dB TT [] "3eJ;)8bq6LD2zu/sVSMP0X)?I,qLst6k_bN[mJ,j)<pecWPXIPG1T/Rl"
def KT:=rd ZL
def KU:=dF TT [@lk ZL] 79 "3:P^PsYi2Y/h1,yKp<s.]WvECoiQHQhnB,1_Xw]"
def ZM:=rd KU
def qZ:=dF TT [] 80 "/snib*f?NnZw?v/y3(CMXRHK^B6.VEsXzDXGa>j>0Ew?q.PkAgDRyP1+5pt+KfWIB+Ov[0<W)VoVdfUR*t^sw3Qft9Q1=Z[OW0k.XQ8o/zL)/[ga/Z<JC.W,7c2VAX8s7uWwbUh_h[zir*ibG)QWZP0EiSBaBwQ5xy4b70H3)Skey(gBERUf^rCSfN]NvB,Dpfp5c(PSr;5lj.u_Pth5scO5kT2KQN9jhVCLoksi5]Y*)h>X0A3mXwZ;gkbxt=zhw:(7V?v1sMVsPM([b+A*IkAk2iSdYT]0gA1"
def lP:=rd qZ
def ZN:=dF TT [] 81 "=1L8A3W*H;+E;uLNYI]8P1vV5T[[SJ6rZW[cxFXyCJVXXa(^=u.UriTAL:hId.xXM2s[hNyD2Ej6u^Vl22S;N+/+Z+KPTE75,_SuxMRzYJ)/aSrPF[Ni3^8/xR7L5]>4=1^XN;T40pujuhYG:Iu1_KRNTegR[,lm9llA5]?G(0Xy(9;Fsydg_>xU8Eqi0^qNWNBt>dJoRw[Zvd_"
def KV:=dB TT [] ",ON<HB7C:LGZo0R4M1M;===*x.goI5=<UCFYW]t:C;n[H)S]8]<JAHY,V1XeuQK2TVY"
def KW:=rd KV
def ZO:=dB TT [@lk KV] "wXQ;0EcK>zgdGup4FKLkV3iAV0iAr_T4,tPwQ*O<?uZK5SLlM.g<^.<R/Zs6()J4S<_Mx"
def ZP:=rd ZO
def KX:=dF TT [@lk ZO] 82 "POBfptu:hzLfCi*8eLvWVICpb/LMGTL/x<b2fzjxrYgNU<gvUFBTYjYfBnn"
def KY:=rd KX
def KZ:=dF TT [] 83 "1aHnnb3XaLBM9ef*+nsSWkIg,G*VftddI,2[_ZkvbP3ToVc7g1G8Az2?1sK7C:Qy^q*.n4/H[mO_Z)gD>PN>d9H)C6MN6v2OIsE?Jd[E^O;[2j;w.us9t8yjVbt]73K1xR:x.7yF9e^<M]1h(SvrlyqVL1,RzpFN_Yha^DSHa5TBCYwL>e"
def ava:=rd KZ
def K4:=dF TT [] 84 "QBWMUGE6s3fhrnJurhcv=GwXWn7)laS^<iBNNlF,X?fn6cNAlQ4oz+1hva8h0BQKl>rezWrXi5>RR+O>z5U.6V*tjPy9vBO<dq^rXTULkRX:ZHw/JMa?cvrU;Um^K<0QjBE5s?g>4*v7W=?NRArhyoOL(et8I?(AMQq>iqhQD(qcl+^9_MrFKo8kaB>Dw]b(*so>cN4y1>N*M6JwViq,9YsAccUH.f]1CphOAHWS8;N*X>;;)>,p]=HEvY:t;oup,AkqiYlZAiyj_FO8^b>3*RBeT7Kh]iC_hqMstYM9TNWTc9IEJ96PvyALCpZ69yM,oV^iZBQROmlb2Im/5kNf?5"
def ZQ:=rd K4
def K8:=dF TT [] 85 "9D=Su_Cw[39.S9J*Q3dTFhdO/ki<3IMHaKkZPWCAV2kLZcw9+:cruPLVp;PHs:f7oo7,>pJSnflqp(mz1gSdP*N1H);KfL=K>bONxl*RpjQS^G4_,9/mNT:f,R/?C.<83/tqXsn<9m*+LpYl4BYVohdun]0?U;:Ks.d_]1(x<*5]*]>i:nziF?)G3[b7ZL_RIqnMqPTwmCQVk6uh0trSwusvWAUBiqaJ^2crYhL]O)_/OCrBo6JXd[o=.yc1vZ"
def DI:=rd K8
def K9:=dF TT [] 86 "*Cbna<WV8SHx.vvkd^oa_LOLyr8xrlrC6odB0Vfdo/zI5*xC,x4OLsa6S]JJVY;oxxRfeKA)S,?XT+4=a]cWFYfH7mPMn2p=+DH5XM2Aj2GtY9,=U,sU+mn7C8cA_"
def avb:=rd K9
def La:=dF TT [] 87 "qj<sQAKXPzaeY.=RpA;oJP>lvp)>Li)I^M9=k9VWxSwEZww0TLek=S/uNt9N0+I(K>U?hA908?6."
def ZR:=rd La
def Lb:=dF TT [] 88 "49=,tI(EJ8c<n:[m"
def ZS:=rd Lb
def Lc:=dF TT [] 89 "9Wv1qpk3XKOJRO29T1O][pw:ujpmeD4qTnZNr0(Ry_ojY.8Gxe^IsZk,Z]GBaI^"
def Ld:=rd Lc
def Le:=dF TT [] 90 ".2=;6OGs(?,E[k_1Z4[_z/XYZNbXQ"
def avc:=rd Le
def Lg:=dF TT [] 91 ")yXg:2XTnCJ)Jiw>;6v9;?]Q)t)ixm<hCcu0FYBo"
def ZT:=rd Lg
def Lh:=dF TT [] 92 "*T:x7/Z(0Zq,DFO.i)Rf__/VfZxorC,hKu]hLnKMb/b>L5QiU1.i"
def zy:=rd Lh
def Li:=dF TT [] 93 ".X<ABcqD8?0<1(iDeVyaPofvW,[i?[VHOzR)b.y^=bd<UGF^9e1EeiY"
def Lj:=rd Li
def Ll:=dF TT [] 94 "tOJfgIWwa?wP.u?8OdrK]UJi<HVJ<*bpLNT^,,bJf*5n.GV5vze<B8lmLM7t*mrBEq?(*o53>ZL.L1G/K4_yssP]_T6BUwBjbtkoF?D4nh+upD)7;>v]8zdKD6N30pKm9JJtcH_"
def zA:=rd Ll
def DJ:=dF TT [] 95 ".CbQ(>RopTUukQ53e)[pBynv0cnBsuOl;RTEc:^[]l[ZKb<]t(cPiZy1he4mth,Cd]nUX/kRKWo761n]5QPQxuFkKPC=ji]AhZp;tn7AAZ13B4XHSd.1wV[o_55wTJ3lO/=t6k2OZUA,DZU+0,:B2OoW]yD6)mW3zE;,ieNy00IFVOIqa5cQr<WZT,*Zk4xw=XkV>y3b]3qvtULEr.I*6Ul4:4ej=xQ2IMyo2ojqCJ3=haLJjajlAHl0DSgN0fc>+c8UlB]m[nDikWW>Q:mma+wy^fk/iq_1P)k:Qvx(rQK3VP/VtN_v6_p=Pb+mGGc<,xebnCp0qf3twx2zOnZN)M1SMW5A3sNlPPSCI7c0aBdbY?^F]LQ[L;Q]Fh51a:zKw0N+T4_QRtaM9RC;15WJ:fx1BAfk6x<BhpEz2vl5NT8O:pIKiBa3NJv[wC;N+1(:2g4KzWxJxP^>fW0z>CjUJz"
def jv:=rd DJ
def Lm:=dF TT [] 98 "OiYUw.(8FYqyzPm:^GqyEe5euub^li^3V7h79MY[<Q<J2[sRHaF)SHYI1KV"
def ZU:=rd Lm
def ZV:=dB TT [] "DJC*3Jw,5?yURlOmZoZeU4:Vosn>6jc);]k5791Wr>hjL"
def ZW:=rd ZV
def Ln:=dF TT [@lk ZV] 99 ")WU.78ezZuYvNess,kyT*_3[f0q+"
def avd:=rd Ln
def Lo:=dF TT [] 100 "0I=qXOW/*3,=Q+:lumiBXK]N](3yv?Z98cFR;N+QbdTMw.R9PivB/7hWj?b742G2rHKJv1NlTi(X]TR8M:B1JLu/XQ9It"
def Lp:=rd Lo
def ave:=dB TT [] "+VI<Dq26x<BRMbHES;1^]e.O7Ka>xObtGUJQGWB9B:_TeCew"
def ZX:=dF TT [@lk ave] 101 ":_qq9VWo,UnOo+919PM6K9t"
def Lq:=dF TT [] 102 "*IhUH9eh;Mis?35G94K.ltuuWP"
def avf:=rd Lq
def ZY:=dB TT [] "q^a6XBp^aR=81kOfObfT.Ihtv,,Q_vyTpL.8WpI7,VNMftGpm[06kw8Olo*cIa[Bau6"
def avg:=rd ZY
def Ls:=dF TT [@lk ZY] 103 "kL:L.uTNtynT4v5TOGzJh0Sn1jGvBJBri;3T.YDn4W^qma.?r/SkJ9aDlxSJqn>KH<bYvg8UixQ;tSo))mZ"
def Lu:=rd Ls
def Lv:=dF TT [] 104 "7Iu][C^R[J:^*2AB3TLMJxzeegbuE9,:V9po;Vrg]xl0E)P9kmh3UyFno/BXsvoR?.q:5:D>HvQl3?TP3f=mM.s9/xHE[UqS>9W;fRN^toS?Hd8OqqE/[sXEC3E/mOX)o*yw:k*/"
def wR:=rd Lv
def avh:=dB TT [] "+VI<Dq26x<BRMbHES;1^l]31S<?.vgi5Q6FSya+OwJpUov2+"
def ZZ:=dF TT [@lk avh] 105 ":_qq9VWo,UnOo+919PM6K9t"
def Lw:=dF TT [] 106 "M9MaLX0btL=LfQc=ewQo7DAViMkMjxptd"
def Lx:=rd Lw
def Ly:=dF TT [] 107 "+p4[_g845(EusmQv1RWJiY7+IHsz<d?_Ng55udqgKw1z3XuX<4xIQlFMpZCq*dGDQx8yCyWtx1y<r;YED<j"
def wS:=rd Ly
def Lz:=dF TT [] 108 "0^kEEjoA.svwlCy)rVve.HHsMJ);d[WhpB8esx)10+LPn/RSF*Y*wWNe3vrG"
def avi:=rd Lz
def LA:=dF TT [] 110 ")Z(5bImI[qLcAU9g+t7[9oHw0c)Up+GijMmS(t?=[wg<Z;:wkDj)(ETW?94r.wHzF<3.RVJ46Cpz+Q;Kpx(JKMAxkpO+1/>=e;DxxXWJ0w7XOFQ3_Ji=31<Nu/LCLX):g4NFC:yHjj?XQ4w;.zQQDOQvC"
def LB:=rd LA
def Z0:=dB TT [] "?kj>DF[g>V/CVvJb?(]x[0DMQmMNr*3Xd^br/S,+rtMuhBI/FRK:^P9J)4g"
def DK:=rd Z0
def LC:=dF TT [@lk Z0] 111 ".Wk[8;.4c9A6Mt4(HhwdCN"
def Z1:=rd LC
def LD:=dF TT [] 112 "9W;ntGUa>M)wPJgfJmqN6zJ[ZeEKMR"
def avj:=rd LD
def LE:=dF TT [] 113 "NSMXSo>Xi:Pkr=i.]5Ttcgb)0kks,:I<(5W[sXKtV(L;I9OJ>o8a8iflujV;_t+sX*<d24Lax;PkBMYH^dfQ_Bs4aU,ePBf8DBnpwpu((q8[zC<o/6tqC4qYqqFac"
def Z2:=rd LE
def LF:=dF TT [] 114 ",G7>cKH4_i9Up7ys6f5wNfyi6LRQQn:OVk[f=h/xKiMw+=BfjOjIpLsOsa^THXEzgtDDJ*Y_^bZK0<LdD;rFP_:2Yr+kwu^fHc6U>c(ShEJ^z:h7M9*_3t+snU+sdmmMAkqaqW*ppoTLZ/x1b_6_duR8XU.[>Yqy2>]S?*7_"
def LG:=rd LF
def LH:=dF TT [] 115 "9W;ntGUa>M)qcR?op93xBEXQAQ(KkU"
def avl:=rd LH
def LJ:=dF TT [] 116 "3RcsPv*kF33^K*ZRxhTS_OIAeU>hdWo]t:pq8Ae,WdPuYIdLoMvtjcm<;uKb2;JEpiBuJYP>w.yUS[hmfMWu(Jab5Fvq01=Ih="
def DL:=rd LJ
def Z3:=dB TT [] "PFc*kJwPbty4ZF>kT:DMp)j^gFc?pBi2lpf3[Ib:mCOgm^bvqv?/3iRv5qgp4q4R/gLmmwqc2Vq3GVQwA;C"
def Z4:=rd Z3
def LK:=dF TT [@lk Z3] 117 "I9SRrr?euD)ooCRRfm39UI9>e;BNVL5i_8Crm95t<Tgm4WM83<KpvNVg?d?5ifBpzMM]Eux>l"
def LL:=rd LK
def LN:=dF TT [] 118 "+<:VvF8/Sp_JEk?2C7s7[c]j>Lq+WfLgSGgIHfJdiu]UlkW,P)O^(=ogaHk;cl4dex6;8I3pY2f<U+)B(IHuS[*zM.:Voy6=);(y.kW*UpFv9(8(N1rheKdvuOcA/qduqBc(8>h0iLM0MZ^DGGNMG+*ji1xLc_(=tz3"
def zB:=rd LN
def LO:=dF TT [] 119 ".9<LPVAE/m;isN8a)rp>O3qo5Hnzx3O4^d*R8vNqDxSOR84o3IBn:fFnEvrv(s"
def avm:=rd LO
def r0:Rnd:=⟨120,[true,true,true,true,false,true,false],56,[0,1,2,3,8,9,30,36,37,51,4,12,7,10,11,13,14,15,17,16],[8],dB TT [] ",+lfaSM7C",dB TT [] "Cl/Iy+xLkj*.2gJV8b4M.t:Pq/TG+Gh]hvkSSkPng;R2^LIA5;<<I](hrY7*]Z(b(DD[mRi0r>Hb8pFq2^]nA>G/XH2W9[2*0e*J1AtLsBJaTKr"⟩
def avn:=rd r0
def wT:=dF TT [] 120 "/+qr7(7kdXuY9r*Uk;hpl=*jA_g]BA;^X4zLQlz7^Q0v/AF=ro.J,v[qF8kw4Wt5<_3lKSmE:A(FLqsd2D=QonLdwBRFa+tMUWSwT71]x*cCjQmRb*jYpGFHqlDU7XT/bFuh0k8vfjwA"
def LQ:=rd wT
def LS:=dF TT [] 121 "4oxiSSGftO0JdlMgJ+Q/2XP5f"
def avo:=rd LS
def r1:Rnd:=⟨122,[true,true,true,true,false,true,false],33,[0,2,3,8,12,15,16,23,25,30,1,4,5],[6],dB TT [] ".tz)c",dB TT [] "8NuXduU^SCS?,yIUlYF1Kq"⟩
def avp:=rd r1
def LT:=dF TT [] 122 "*hxj=>opI8:E5VT./96YL>nL6gdpd^+9VFDnJkHJvS/U(RK4ZH?ZWw>ve8ayVbys3rD6boOmIma72*/L;O4P<.A:Kqg6zY3krno)A0FQCvgI4Ie+[vN.2>XY8hPX*/I.ux/MW(4f0OG5o<SpG^a(rAA:qFJD.;iVDF5WhEv:<WOkc?vNaIh^(:NjD*I)>dg)(tv2^tJyN4>"
def Z5:=rd LT
def LU:=dB TT [] "SAK)J(Aw6enxq[l:+F?.U70)^Hai<L;_2e+q*_u1b9PNm9w2IA:8B2Z[nOnqS7kztn0gBjJ1Q7N^"
def Z6:=rd LU
def LV:=dF TT [@lk LU] 123 "*e0UtedA_.]dyApokNdcREhw5sBrOOAnrkFLEIRs3ZPle,P.3)Pv9sxM(s82i6tbpGLt6Z]uxJ?/C_"
def Z7:=rd LV
def LW:=dF TT [] 124 "M9MaLX0btL=LfQc=ewQnc3QnqQQjOPG7^"
def LY:=rd LW
def DM:=dF TT [] 125 ")WU+d3BS6).NnoyKYxY1<leAU(0o"
def avq:=rd DM
def Z8:=dB TT [] "5YHJ5kN)/G6a)EiC?;Woxg5*,,_DjB^+Wd3yQQ*KLb"
def Z9:=rd Z8
def LZ:=dF TT [@lk Z8] 126 ",YKWZjzq*+JVDh8)VkCnUrsVF)?f2SQj,S2t7lWN9A2ntkazi>dSa(h3N0UyR7T6KC[e0"
def avr:=rd LZ
def L0:=dF TT [] 127 ")lOpg<0ey5a9SXxVq?AABKXI];[=_PA:gU52?kkk8BjED:SZkrzp.1p/X(Uzm:T[OyG)T[yBg:CA[1^+"
def avs:=rd L0
def zC:=dF TT [] 128 "];NbK4J[[(=8(Nq,=EDmSS5hnBZw6sm8JnDv_1TAwt/8J+?U:fRKoCvl2,5l<q41fwSN_zkL=J<1<7[gqJmOy8A_oL]y:o1vx/i)81,r0MsK9cjmI93(D(f1NBE_Z:Yb5if4.5B/1bWw_ZlEN6x1G;Y:fko(DvCVzQ^hCJ0U/85nNOrZoo(mmToBepp+SHZxcOm/=+I/U8j55LuQg83IdLzEr<aWZauXiAu1]:ND/,0X.T3QaqMzov>AMW^P7KLuuqs?rZRCIgaT/x9eAz*ZvOE.7T;_WjFw+mmXiN<y96txjJDMy_214LwN[^ff*d)ZfpqmOREs^11Hrs2NQq,c^F+DN^lZz>JZJEo4bDM?XCf[_cHeWl+r6yp6UAk(.QdP+=5"
def L4:=rd zC
def L5:=dF TT [] 129 "41pkX6TYooeBbd)7zqPoXHk*fJUA[VV.7oFhu.lnz8Ux00k<24:4?lm*)vlN*tZfU/a5/mG8;,:.Yn^s?E9YR4kYx<_zC5o+gW(,e</K?q>AxEPvFP9)0B*>:Ok1f^DxOgAqxJj9<ZvG/jKSae4978QG0Rh.>uxjD02Bm4V]jDUgMi];C>k(6Nky9atypfP/UPf_sZX3i1/bn]9dx]y,V]=?J=23uIeV>)ZkS]TxXJx7g/o1t;P1z:v]vQGVy:fOAczNPjB?ggb9MN]zppB9(y17F8hONrvR+Y9YPF7Vy9:*/]HXW?A9R,JlkM<ts0=/opB1KH:lF+;gM(iQII<dax94x9Nw"
def lQ:=rd L5
def L8:=dF TT [] 130 ",auptU^3jwGPhel,o6(*zO/ijXo]gE,ARB?8xU3gnMCZV(0H^0Qb7658zBnw6xD2L,8<ixzJv*)?RLBY^9S7w0HH5l]iurAO[u_[Qh"
def avt:=rd L8
def L9:=dF TT [] 131 "3b:sqHN+T;5Nlg=7A=?sUnjI(+byivC6rQ>boK;v6ol)W)e*b+STf3PF,qYrm[UknMv]nCyK5g9JgBn]a_.E<fNANBVk22[xwNm+<iJ8x17MaXFA7;z8:udAr4aoK8o(RL5"
def avu:=rd L9
def Ma:=dF TT [] 132 ")Yy(,9LXM(TE60dxXOBqYTolHl3inp99n76:]xGos<DTh7fISXF)v=qOfM0BuHTXxLoQhDVg[S7WPW/s6;WoD=XY,VU.dOyhG_Ak5AGgis_2U1(UE2A7=d_;"
def zD:=rd Ma
def Mb:=dF TT [] 133 "*9B[nkM],TS81^qzwhdnkWnEezSJCvXoScuQ8qm2;[blNti;Ila1jBh:gyhL9haYyW2+YSdd;ySMXv2C7zqqGw.(BipHkB<9ieIEns2ZN[,(PL,]qG/s6IN4a[Eus+e,*6:UlKuJLA6cV.SeCB(O:3;^mo),g="
def q8:=rd Mb
def uc:=dF TT [] 143 "RTWeB<E4B1y3b[JJR7co4FBLCh8wWJRi[TU)maGh>py1udS6Ca;tv^iUn,mb;c9AQOLRzg3wP5FN_O[xk<Nli"
def DN:=rd uc
def Mc:=dF TT [] 145 "ku4My0RjaqJa7:x.p"
def avv:=rd Mc
def Md:=dF TT [] 146 "*[T)SS(P(=/CV.IBDxOicIT>9Djk3mW7jAwKZ3rYdA.tj1JEEP=Yy;J:q9nfvbQaX]kTpMIyP0aRkqOueop2bn+xnD_A(t?tq[ep;++7.drk(C59ZxAnb_[qw_il)>vZ/u.0*>7pEYcX<<i]hRH[mN=2::.XTi[wIL2Gh)R.XUOo46Ck6"
def ud:=rd Md
def Me:=dF TT [] 147 "+;v5Cv*R]R[B9F[nW=MC.CPs[HT:pk([0pw,KYgRkOj;:ec5yx8Bh/NC*7t^[wH)I+F75U_RaX;[1[:,[C6[Gmy,BreQNvkCB"
def Mf:=rd Me
def Mg:=dF TT [] 148 "+Y:bc6F_pN6Yl45R8C)1f5eVl;_gRp_HTisExyVcJBb*vG_Ac)K..D/YA"
def aaa:=rd Mg
def Mh:=dF TT [] 149 "2wAi?HAwXmAz2flGQU9e)Ca.w3tL4?/t>rln?RW"
def aab:=rd Mh
def aac:=dB TT [] "+_GehPM4wWaFGax,FUfBRlM,3WBV.G</6D2[lVp[("
def aad:=rd aac
def Mi:=dF TT [@lk aac] 150 ");Ms23KFjnwSK7J;"
def avw:=rd Mi
def Mj:=dF TT [] 151 "Ok9S;fRvL1]^iXSM?6>,^mqT+jMZeDdV8RNbyoStzm6QWFWj+iDC[2GHz^w"
def avx:=rd Mj
def DO:=dF TT [] 153 "*hl,P34wxBq9XoCuGG<ue8>T.*gsHHzU<iCuBX.8awN48"
def avy:=rd DO
def aae:=dB TT [] "+IxSrh^XY^bHaqiV>6dokN,WDJt/9/Q0pl(?[Q9H?tJxQ4VQr77Ysfu"
def aaf:=rd aae
def DP:=dF TT [@lk aae] 154 ").m.ZuZ>BnF^,kaXG(:)n4LVF=Uc]s8caAQD.)t+<YmVCKNl2j(l6qcvi52BW<j1+.EziTxjL]EdUqyMLOKfuCiQl"
def avz:=rd DP
def aag:=dB TT [] "?Np]+vMJoVM5VARw2w47g7JlBfaP;zHd;8o[lw;K54e9tHv2hs^1[/9H7bC1MLdNhosHX*y2eD8(C9?LpjjdoFSGPv>F<d5i)^]D^eJyw46qRBLC4hG[M2xv8C2e/q,j0XVZT_UoKcjKSjAL_SrDsmqZFw4ZcU[Hw8rJuvZfkS43_snDCL1vrjb[xR0yxv7V5[WFCw^YX0OZYTXGBte(/TIoJi(E3cO1B?o_rWuJmlsd?04CjvpL>r2GAv"
def nS:=rd aag
def DQ:=dF TT [@lk aag] 155 "A1OFQRCalokj,o=qsW,AfPMWox7^N,fZ;O7"
def avA:=rd DQ
def Ml:=dF TT [] 156 ")9jwJQYOKsm.9K/s<t]WPGX1Vob2RY?d>EH3^9wl/*l,fp>,t"
def DR:=rd Ml
def aah:=dB TT [] "Is=]e0sZws*BwkE=^.VV)2lhPv?[Mr8q1?.x]_3T;g58/P]e2RI?TQWQ6>ep6GN03mvjdx9_A6JB(KJ:N3+9*p2v2]z*FAg[EzIK55+yW=pEcM13hNDTpSnFy4v<*c,^cO/r**6aA+^;AH)>99b)+*i<fyLfMB*wtNPYO2mGgJG(,DC9+8NVRD+Y2)m0^<w)fVXgYumcBa76vrzyLSBSZ8W?o>oTJ4"
def zE:=rd aah
def Mm:=dF TT [@lk aah] 157 "fXh(]ABUQ<e]h5cOxkCP<>P^"
def avB:=rd Mm
def Mn:=dF TT [] 158 "J?mhgEe?<Dk.eXt0ko<NErQ*NN2?+0CSKel.?xv:]Ap*m?UtrRLPUBT.o>,?cj]YDHNLyJa>7MGz+nQM?uK7AKRYW:U^y;qaj0yte,,6f6"
def wU:=rd Mn
def Mo:=dF TT [] 159 "a^*E_HCzTAUC1u6?a(L6lvI:d_]QfAh"
def avC:=rd Mo
def Mp:=dB TT [] "1*pNSVIX[N5h1hbv;N30OOVhIC_?iokHuB961;zV5osd^KrXlf(786(>a_McSUFJib2aI=8()8TkSeLF?0<ESF1P:oGT(lMuaPIlp=LB(JD//f.C8,8U3y_)m2mk1GEdQy:2fd+B"
def DS:=rd Mp
def DT:=dF TT [@lk Mp] 160 ">;e6QFfmscjv:Vqf=aSbvI<:NJ<P>^?f([qFt]AmbWtZ1+FI<ZlliS:.qohxDd5CDurCrKGD^[CgXCox0*PLFusJc6pRAWR0zbF(e:J?:lZ(h^CgIhh3p;XlbkTB5Cr;OZ5GdYImAYNPbzegi/O=u2?PZ?5HGWn:luqZSh^"
def pd:=rd DT
def Mq:=dF TT [] 161 "fzTn<;ls<6dd<<;qgVrAX_W>z4]b7hAh8gDhNbJ<x]f>Js=A8SVpv;hpJZMQ2kW5+GIyW<*7eUenqKy7PrqZ1SuPdU_CuzGX(UkZhQ?gn/lt_zf2(YJk"
def Mr:=rd Mq
def Ms:=dF TT [] 162 "9?>;lhUza7;u:gEpHVF1)C.SW6>,P<em<BoI4/B7dr:botgy33Z])VTV:m/E0d*"
def zF:=rd Ms
def DU:=dF TT [] 163 "PMsjQ/y9pKRMFd[CODwe2lCeoC"
def avD:=rd DU
def Mt:=dF TT [] 164 "*0/LOVQ+Gl(2T/5TwUvHcrz6oy+5Et^_*Bim,N+l"
def aai:=rd Mt
def DV:=dF TT [] 165 ")OM<SWsVqtSJ*WU5m0([s/[=(,ExT.Rrs;^lP_3HF=MP4,17NWw_]0<lt/h,_,jPZ^NnD=;=;2N)1l4,Fgaj=KeSaYZPWRTHzV2mo/8BUDAS9[7x_v2fET1_th*,ar_"
def avE:=rd DV
def Mv:=dF TT [] 166 "AuEf0+iian1bQ>R8rjzJhbsa(kT[rWrffJd"
def aaj:=rd Mv
def Mw:=dF TT [] 167 "+YHs)z9=1+Xm>671;xLAkl<?TIf4N]kG1YiY;Tda1JJqP99E7awdD67xI>PnCiv41JC=]6)n9haqv9z)dtpp+d[6RKpWYKN<iE<gVOomuHMeX,7kt7VG_qRMmK+"
def avF:=rd Mw
def Mx:=dF TT [] 168 "AuEf0+iian162od*BIIFsrA9)2X>M6gy[[x"
def aak:=rd Mx
def aal:=dB TT [] "4a>3CH)M61mqTYT]n47ZSVxRlQj(BOs]:mA006Nn5CBJg^6UAjeJQUHPn>HO2X=N.i?_?NMyOO[af9=a*7"
def DW:=rd aal
def My:=dF TT [@lk aal] 169 "G.MVS^6<T4k?Ke2>=(Mo]=Cc0)uwjj=7X?WrC5YZ*MSx:tm"
def DX:=rd My
def Mz:=dF TT [] 170 ")K4t4WOwY3yXq323TYybEqEP8,WfBhCDVWgSj[WO<?thy;Z4kRksJi;<^fsNkpdC76=E"
def MA:=rd Mz
def MC:=dF TT [] 171 ".Hc)E1]60?3Y)_j((D2bXNTsz2kU3JnLq:tvjFAR:I1,3^*14u/JT^jbQ_mfDVPhq;G1:gAADpGHnn:gjND177Dt"
def MD:=rd MC
def ME:=dF TT [] 172 "ETAoIcOY1YYcbtdyxBX13"
def avG:=rd ME
def MF:=dF TT [] 173 "vqK0zaZ9SW4Zrt0T1,lTuhTqEsBjx^ub_=kl"
def aam:=rd MF
def DY:=dF TT [] 174 "PMs5y]Li;C9oaqcL).gv(Aa0RA"
def avH:=rd DY
def MG:=dF TT [] 175 "03D)q8k.(WN3glzXFH1jbo.r>wr*KhbJ;_"
def avI:=rd MG
def MH:=dF TT [] 176 ",:0n>Bw9wm.8;R>gic]c+/j2[KSNxjO:6D/iUbX>CAk9+=Ex:(qEQVphT;jf^o.]RDZf]Pb[I7Ao"
def MI:=rd MH
def MJ:=dF TT [] 177 ";.^1Wa4zfrQToF4JS5iDnwv"
def avJ:=rd MJ
def ML:=dF TT [] 178 ")GKWfzt)1Sei)T;JETt(gaID<,J(9rK<AQR]+fqLJ06n^o?<Ooe88Gv<ET;jd6IU,J>t4BdnsMZE+2IPQVwjORrvSM.TD/JF))jLX9>xDNGGeqk,3yYa.PMUstm+R+?JhgKk*:"
def DZ:=rd ML
def MM:=dF TT [] 179 "1y3_]j]rhO4,HhPwdyx;0l>,2+sxCWvo>+eyG:4E2[g=ph"
def avK:=rd MM
def MN:=dF TT [] 180 "C:cqkSsX8eLO=Rsa2x>yeVJQX?Zz"
def aan:=rd MN
def MO:=dF TT [] 181 ";.]4HoQJ9u_*43_Bb<<I0bG"
def avL:=rd MO
def MP:=dF TT [] 182 "*D,YIiG:gAySdf1Ww]:F:ZABy3GCigNw9h?:8_[ScGU>NxYkAYE6uNhj>^s"
def avM:=rd MP
def MQ:=dF TT [] 183 "1y3_]j]rhO4,HhPwdyx;0lO8XrwDzG[H47vE4f1w[4V7_I"
def avN:=rd MQ
def MR:=dF TT [] 184 "/0]HpC]9S^,3I<0fAcla5kKs^Vyt(w;XDAXWVAgpqrynlG^9"
def avO:=rd MR
def MS:=dF TT [] 185 ".B6Oly.nRf),,S_iIy6PvW[p,r>[SUwo]07PV.82FgN1GC=4dgpx^vW)W27g[Bxjh[_WuGQ1U6oX(k?N88M.Yn8,8DPl]Sylph06x<H/;<spxfIv^*,rw:t6o"
def aao:=rd MS
def MT:=dF TT [] 186 ".qo0<sWgaQgy.Ojx(T3Qs5wbOxnOWZAGVxy.xxERS;ZT)Nym"
def aap:=rd MT
def MU:=dF TT [] 187 "<M/+A:I9+17O87pXeH:n/ShjZv(of0b*zPZQl+Ok_acJp;8URF]fC0L=_R)AZ+TM5;,ujiYjquJiEp<L6e<TV*HaFXZj.z8lB>?.7V(AI)IjX[=toNXiV8c0^95T4,mk;U4xYplag,?UYJIgPjpX5v>,Iq*m6AcvTn*zZ>zxD)TV_V"
def D1:=rd MU
def MV:=dF TT [] 188 ")UQBRAJnSlMR_ji_5<gV6DZ<Q.Ld*?=e2<[rgpc9vFTceRQW)?L2n?iNQv)/:,]4LM59MLHKC*i<<0EpCGnNYOofkA,gA>1_Pxh0ih[Yyu>1dMq55P;5[XshjEKQWFr"
def avP:=rd MV
def MW:=dF TT [] 194 "9>W6oxBvAztkDL*6]YW:>X=+8_<jsnF2<]:/x>ZQgNhuyxTL^AQWT6))OpAwr3d"
def MX:=rd MW
def MY:=dF TT [] 195 "1y3_]j]rhO4,HhPwdyx;0mHo<d^*QM6hWmGP5.OdpxcD;<"
def avQ:=rd MY
def aaq:=dB TT [] ")uj]sg^i*RV]GIbLQ:HJ>;f5lfQjiH056=ZijP"
def aar:=rd aaq
def aas:=dB TT [] "5rMnC25tn5]g>MzPDD?)yl)qpMDSD_P+b=q"
def aat:=rd aas
def aau:=dB TT [] "K*Q_s.^V)I4_^0*M9U,[P1/<WnxPb)h64h(ry_n8g]AyGDn*v7ik(uAavHVg+[*pMbN]EaeXZ.2I>TrI)gv;EPyCSm"
def MZ:=rd aau
def M5:=dF TT [@lk aaq,@lk aas,@lk aau] 196 "+.jW>=]f7ooKq;7;yNZO11]2I<bTMHvRfnPiy3QUY>ZUu^Tz_fx+G:Zdfrf[*XZ3wyN4LsB2=^CsV/bmamzRt0XEzfs3GGjb2ij1[,:s"
def aav:=rd M5
def aaw:=dB TT [] "+BRWkiI^KZFdpp.YlWzgVr[3Syk)];X)4/zKKfE8mqUCPP)EmIQMr]z"
def aax:=rd aaw
def M6:=dF TT [@lk aaw] 197 "rM+4)/wl,kT>=c34Ki8zQM=ODb87r9wAvAAlgC_fyK;"
def aay:=rd M6
def M7:=dB TT [] "D?4WH(/FEKC]lbuJ,iJLQ?At]xYgwMKZTk;^Wv2Mgv+uj"
def M8:=rd M7
def M9:=dB TT [@lk M7] ",w+_zYdnvTZSg4.v+Ed4h(s:6rw,j(?QthpwZ5iidrx6fUu9o^pEAW]bc0kw"
def aaz:=rd M9
def Na:=dB TT [] ")z51*=Ze*I>V/=:WG:MVD1]Bl>^?E6JqgokKS?<sQRL=bQ8e^ZDyUUbrJ7Y8tt1ovTwsJ/Pz0n:vb:a1X^05=M[_H27dHvL8PUak+L:UEbg>>AB<e5p7:^WO3qSbS5(atRhsdiVV+F:*YhIcd[]6BgIHRyi^L=[_bBir,r*]n))P6fS5FMj+7b4hiRkn,hmbuNx;bW>:Bl3.QJT<FgxC)e;w+y0_x.io+_gE^4Cr2_MsTN+yRWLPY/hT:_E;qWC:+NEp>xUHsk/=]Gk)A_nwRYy30T7fG6jDJ?,u[r"
def ue:=rd Na
def D2:=dF TT [@lk M9,@lk Na] 199 "RX/e_9<o2>kO0NW9zh<Ssm((f<1qm<,z<^HFKe+4.p^YDJ0V7rJSg(pO]Zn<N59ZXMy+gG>U8J26wA<R<RdGY"
def avR:=rd D2
def aaA:=dB TT [] "8xGZQXx)Re7.[:Ls/SC?v2QQ0iVT0=ONrJeBpPOW]b9.Rs7SCnZFirBP;>D[?bPgT7Mmt.]n+UUI6z7Sd>RA?vUWbFh;SxCZaR:GQI<Nh[s*x;Waix_l?hQ:aSc[MJi5+TT^xb.M:ZF?7Gw>BRrU>nq:a"
def uf:=rd aaA
def zG:=dF TT [@lk aaA] 200 "86f7IlO<5oz)q(X?m*q?XLKoM.:1^,.nUc(t+"
def avS:=rd zG
def Nb:=dF TT [] 201 ":ja3g1u=uxU>LuUF,a78>gNFeDyD_]<W?Kv*w.y:U:R[]_?:FAVQIwN)"
def avT:=rd Nb
def aaB:=dF TT [] 202 ".Wk.tbq<EjTzvsy;4_;zHB"
def Nc:=dF TT [] 203 "*IhUT0KK49M(>>]Yue>,Nm[4AT"
def avU:=rd Nc
def Nd:=dF TT [] 204 "M=fNOjE<6UJW>ICG_p113UOo9yWmN7^I840h.Kt)JdGgj?<ffL=MM3o3oLx2)sCuDX"
def avV:=rd Nd
def Nf:=dF TT [] 205 ".P.3Ck4cIU(2<N?g6S6Czx2Zqs<1D,BRngJz5P?n)5_)fTQV)Os+Dr1"
def aaC:=rd Nf
def Ng:=dF TT [] 206 "oQSLvv?ATsKes,KD^u7ynhOY/x5KE:p5,lVk*6dG0uYAq)FTNzVb9]_)NEkIfYuu2R_:Z3CXarOk"
def zH:=rd Ng
def Nh:=dF TT [] 207 "a^+bbSY8G?;a+,)Iuq*)lS)5jqNl3.W"
def aaD:=rd Nh
def r2:Rnd:=⟨208,[true,true,true,true,false,true,false],43,[0,1,4,5,6,14,15,23,34,38,3,11,13,7,10,12,9,8],[6],dB TT [] "0S/IK82q(z_",dB TT [] "CohItC7oNo]IfGW0(7=1rQfuDVQtKvBsS:AiABj^xGQaY583Tc>d?4jh[rO(tXT?J,1BfmK,M^?u(Gt2qb<k[<44Dzr>S/x;Pl*X4Q52Ki;*<4as4l/>)S]"⟩
def aaE:=rd r2
def Ni:=dF TT [] 208 "PnqJqF?iY(t;Puxp]aFAp,35*Fk7K.ukreeOpTs4*lCLoH(.XI7=3I5.CABLCTqLEA_m)MmrGX9jvcit.J93s?a_g=0:s3wXEYKYN8Xgb+e2g?5cPWP9o4"
def avW:=rd Ni
def Nj:=dF TT [] 209 "2xW.eQ0x/g(B]Zjf]^GUN[DudRJn0NYfSsks*0e"
def avX:=rd Nj
def Nk:=dF TT [] 210 "s*X7KVxXG*evp6s1LS,(vR[Nt^LF[q*t;C)0pbYx(Hs"
def aaF:=rd Nk
def Nl:=dF TT [] 211 "*35]t2=^(VwGEdkdiPSl(;??uN*O9GzvnA1>Nfw0EBvGJzngCoT4X.sDx_aSbI)B)DkjEIiE_8RPXsw9z8>/MoE]HyyeNXWU3;aYFUO?YWx:43a+H^XD7L6Atptz0a;qP1gJM/OF)97v;PCiHud2s,Z9im]LN>S0:Gbde"
def Nn:=rd Nl
def aaG:=dB TT [] ",r/F:R:vskb>m7h7Pjmnm,0x()CJzc/?IL(W^>W_A,,T1gky4b41BZL)po_kmfisb:5oRp/yyMw<v*nW?=zFzO"
def D3:=rd aaG
def No:=dF TT [@lk aaG] 212 "2i:db=>9k;D"
def avY:=rd No
def Np:=dF TT [] 213 "*ppYKZ9xZ8qOUx>xHSD:v^WdYiWC+6m,I[8p1Rs+x/54D]Pk:/5YF5Mo_xahkz5DMRGUjm<F+LPWYdB]PmntE2rE0JTEqOqNnQ:Q)j3RXBrBTT0])]zB*I=vfJcV/^JM1H?:Xoe=x"
def Nq:=rd Np
def Nr:=dF TT [] 214 "5ev8ak[6eAaGRCEqb_iBMPFD7iiBB,z9z9(w,Y<<ApgL4r:RXW3"
def aaH:=rd Nr
def Ns:=dF TT [] 215 "4pOc;ItgswPIZ_pe7LrdpP7g1"
def avZ:=rd Ns
def aaI:=dB TT [] "*Ra]Kyof28XN4vk==hxUWAsTO_[donlWE>5Xi_nGZPL"
def aaJ:=rd aaI
def Nu:=dF TT [@lk aaI] 216 "oFF;+0IUKKS3IQD"
def av0:=rd Nu
def Nv:=dF TT [] 217 ":hF1G,mH6.9/[aQ_YtWmhHweIGOd;2lKPY7Bcf:gHBmjrm41AmwY:N)*"
def D4:=rd Nv
def aaK:=dF TT [] 218 ")3>i8e2)n6JvVCjWnWuQUk+"
def Nw:=dF TT [] 219 "+_4Ef8YMVrnIJOx=y4lmfR>E"
def av1:=rd Nw
def aaL:=dB TT [] "Np0+0z:ljm6fNM7bZz;*5Pp[Lnj9fCv/T5JWn34*l;SAz=MoFs"
def av2:=rd aaL
def Ny:=dF TT [@lk aaL] 220 "+gu9iad_([)<wfU6tI9vvxLS"
def av3:=rd Ny
def aaM:=dB TT [] "PFa[=IU4G4<Tuy_QRB]9EA(Z08T7_CVp;y646[5t_VTNy9;HNdEJJ)8ZI0r<9*1ZocmK9_;H_T:,9pYP+S("
def aaN:=rd aaM
def Nz:=dF TT [@lk aaM] 221 "*3*9WpL/2^lXv/>L3nW0^beBkoXmmnLZm_oK]3NSlRz1<WN<2,v)3QgoJZMMr.kklc"
def NA:=rd Nz
def aaO:=dB TT [] ";C_efCJgpKNpT*man_ANuCnd,Q*Q7itQV=>]8*L3aA98Sh]XDCBo9Vbv?alOwOOQYeBeU>BTa"
def aaP:=rd aaO
def NB:=dF TT [@lk aaO] 222 ">6Afnkd(T9VlO;rD<=kYe/K=A^cN<ABmwX+THzzqNL"
def av4:=rd NB
def NC:=dF TT [] 223 "J>Q[9B4SS_TRFPZNY^bZZiupRKg0bGIS4Q5y<z4,AYc6d_5l09=,CHlb0,HC5<PDC:u6nU?5R11FdEE<8^;X61ZWZ2;W4l10KfH4Bm1nBC"
def av5:=rd NC
def ND:=dF TT [] 224 "5D]ao?rC:3khBBssfXR79FC*9e,bPQ>/sSP3AZnDw6iNHBE1hzU2IMdi_,FZHXG_Qm/n:barGuPRnj*usO:FjV5>kk=37i;4YL_a];f1ShtlaGkiq?^Ki_A//3N]:Us3*aIb;qy3ei/3rU_2QCijFR80ASz1PDF^U=E>8MwaJU1;[cU**,lww0:?(EO<Mb9M2=1?HmK1ulNu5G4>wQQ/(y>TdarSP:B41V1^AC9m+.Q+Wr9oUh"
def NE:=rd ND
def NF:=dF TT [] 225 "*8vLbox,W<bXm2AQ5lvaeiKcp)QJQ^2SRkodb6QvKlbW8J?U;/JA04K34ZO*twy^I:l<k6>E4ED;aQk^[hw;2e2f/A.VHQpys<;"
def av6:=rd NF
def NG:=dF TT [] 226 "SwIyuvPuhD)MQ[VYN,]"
def av7:=rd NG
def NH:=dF TT [] 227 ".WVO9MtL?M<s0b6u0M76ZF"
def av8:=rd NH
def NI:=dF TT [] 228 ")=7]Dx3rje[a8p9d"
def av9:=rd NI
def NJ:=dF TT [] 229 ")>)ueI^,2U([lu^a"
def awa:=rd NJ
def NK:=dF TT [] 230 "4_*.*W4DCy4e0[Ttdwd5Q.JzYak5cMu9mnDcR9;j=T8DfcZudGL.a1hdIs"
def NL:=rd NK
def NM:=dF TT [] 231 ".P.5+dM1osEy=I^JJ*=G3,F37>Kqhrf+WBbQI2p>M)BVF3PR5M>;A)C"
def NN:=rd NM
def NO:=dF TT [] 232 "BJA(J<fMiom]]^NtIHgpw9p8xRD1PZCX6?:c4lwUxmNaaDjhU=bSb7bTfoa48"
def NP:=rd NO
def NQ:=dF TT [] 234 "D6sLJd.WaGT8F.9NlCH*J+1gdN+u0BBftIGG(yA+U<AjD1e;A4*I?v+luqFZxH^8ofCTm/^mmfkM=muI59:,_9b"
def awb:=rd NQ
def aaQ:=dB TT [] "1<Mj^5*yAm;c<yqM)uDgLcr7q/F]S^D3fWQgpTJD5wU=VGbzEWTBV/6*[>E?W]PyI+f_L/*bAoIVE"
def aaR:=rd aaQ
def NS:=dF TT [@lk aaQ] 235 "*;wT+YvEeTQ^Bj=tj3x=z)fI8txs.:r<,uAneJyT[,eQeKZb4xzmQy(QzEj;OUEUJ4"
def awc:=rd NS
def aaS:=dB TT [] ")8SV;UWsX5KXSt5bb9^qdM1mmITa]SuLUeD;)[Vb,+Ii53FliJ/2sw:X2yh[:;8wlQyED,BMC"
def aaT:=rd aaS
def NT:=dF TT [@lk aaS] 236 ";0/I*=J*xgpi7Lz5*TpeOib*80pV[?lQEkxf(YWK;ferrQ7;D:HrMLS."
def aaU:=rd NT
def aaV:=dB TT [] "=JohoPvPvWdjfPV:/Vf>^OG8RzvJ>;uz7]KpDwD=F_n8yWFer<<u7cDxM=15+s6SrC=8[TqpiOKKYJU1m)J370;5QXFQ_c]feW/>8,Iyvu:uAg2rY7yOBkyjbBP/uiVp:LAqbfoP*xf8IhfGTMM_LABrfNkv<WtMt_RjC"
def zI:=rd aaV
def NU:=dF TT [@lk aaV] 237 "PMwm29]0i1SepH2j*wr0Pns?j*"
def awd:=rd NU
def aaW:=dB TT [] "*c8(e0JcZzSt6rR3iMOaUbMrDAU_azU^RGkb*j]KGbin[p3FABL;wKZxD0T<veBaNEdBb"
def aaX:=rd aaW
def NW:=dF TT [@lk aaW] 238 "W)RE^[>tE+P:dGU37Kw[>S3wI=;(zDoyQxuUFrk31]g*,"
def awe:=rd NW
def aaY:=dB TT [] "*xi=d>BnwNPoEq^u0Mv*8skXN;Tfi>3a.=IVdn<fLJ1MdnSn8i4Ts.8E3wj.:FaxvMK.duK^_.zV>GVmM054ufxn60j)d:wbacsm^O1a<s,h^ZPa9)IIEfVvV*wLl^ZP"
def NX:=rd aaY
def NY:=dF TT [@lk aaY] 239 "+F)SlyCWdB]NV0mJJ2mjoJBOFk>O>MK"
def awf:=rd NY
def NZ:=dF TT [] 244 "*[5(j5_CA9Q3_hQ7)VW"
def awg:=rd NZ
def N0:=dF TT [] 245 "*9*Kckjmvd1Uq7t;C3Rb7^nKse+da3Wn^"
def awh:=rd N0
def aaZ:=dB TT [] "?5lPq5aazeWI*]6L5JmgwdiV;3JH7BFPTaOE?39Mh6>pHJM+[;UPf.FbRkq"
def N4:=rd aaZ
def D5:=dF TT [@lk aaZ] 246 "J=(4ngP,N/.r?6O3l/:)^DA5ntXR3aG0W)2AD:.K"
def awi:=rd D5
def N5:=dF TT [] 247 ",.h_VCLE1uv[uMfu/)3rfiFuDmtJwu81wWjBK8piu[*yi/z"
def awj:=rd N5
def N6:=dF TT [] 248 "M=fNOjE<6UJW>ICG_p113UOo9yWmN7^I840h.Kt)JdGgj?<ffL=MM3o3oLx2)sCuDX"
def awk:=rd N6
def N7:=dF TT [] 249 "*63MZ5lQNWBJyK/qET4RM5Ypg2g+CN,5Y"
def awl:=rd N7
def awm:=dB TT [] "+VI<Dq26x<BRMbHES;1^b8mqRqWOdANeIwIR*0fSO)dU(eWe"
def aa0:=dF TT [@lk awm] 250 ":_qq9VWo,UnOo+919PM6K9t"
def D6:=dF TT [] 251 "<._+3AL_m,GN:/,iQjZD_78+c?rQxb_JIO2CxBAoKX:nbaP*q.1_ckCM3>>:G;>bY<h6>qPrV5/GF+<)OA"
def D7:=rd D6
def N8:=dF TT [] 252 "))ET:63H</25EgAnYqr+?f,1/u.l0hyHF^Uh=B,rcr+R>dnpQaQLili7tA8sqHp"
def N9:=rd N8
def aa1:=dB TT [] "/qC)P*<JJ3Ui.L4/saE1Zi+,[8YOGvA5<GnXjCs^u94Uf7QbdF^1XKSOfdq6l[CmYX8YvK/>?hO9;tOBwv3larguEkFX^]An;W2[e[GJT2kHvJvu3zIlt3>./NcH+TKa(7O)V]].X?1*2yhY*^SgnsRkNSmb^"
def wV:=rd aa1
def Oa:=dF TT [@lk aa1] 253 "5AdZp,n=Sxe3*;=]4NRI3B"
def awn:=rd Oa
def aa2:=dB TT [] ",1n)56,u4YjmCK5gIYQ8P=0XxMdIL2pdsBu[wpakJa;Zc]j/aTT]Y,?DN?>3A9;4mkb"
def aa3:=rd aa2
def Ob:=dF TT [@lk aa2] 254 "7scHO8ow,e,<EM];zjQr;NrGf8G0]8Wurv3UR+]mroTA8bX3g*C^+d=M1AB:]_K8<?+2m]"
def awo:=rd Ob
def Oc:=dF TT [] 255 ").nL=ny8JKhe[[ki=?lkc=ixUM4j)gh<k9)U7?hqoi?HE^<tcPBhtq4MV?:6QD)]wK3>YR2x_L)pdW=POEz6lP[esInciy/..DGIX1+y9TqqSM3ih>L?d]o,vS"
def Od:=rd Oc
def Oe:=dF TT [] 256 "9W;ntGUa>M)wPJgfJmqN6zJ[ZeEKMR"
def awp:=rd Oe
def Of:=dF TT [] 257 "9W;nya1=NNT(CGUv[:N:3W7gw<;c:9"
def awq:=rd Of
def Og:=dF TT [] 258 "C<p)],=4c2P_^roYcg9ogpgYPl17"
def awr:=rd Og
def aws:=dB TT [] "+VI<Dq26x<BRMbHES;1^R?i<7,xaf)HP?DMOK((<lmRSq28]"
def aa4:=dF TT [@lk aws] 259 ":_qq9VWo,UnOo+919PM6K9t"
def Oh:=dF TT [] 260 "9(k.;=[htQ=gZBj/ujR_I.UFM9^5v,)0CP6Pk=4JPO<*v54x3XtHLG].[eNWArn"
def awt:=rd Oh
def aa5:=dB TT [] "1MjCqRXWX(eW5kq:gwY4g?)xM,P9z^b^cnnt7_MJqc9BmH.MRuqs=Hag+i=3JJvfSJ4v<rNdA0Cn3JIL5bT++GFXi<fU4^[e:c;73kYn><_zpk"
def aa6:=rd aa5
def aa7:=dB TT [@lk aa5] "5HNa2:>?KuD[MWN<y:8rS]IPsadPiBH?Sy;R4V07xp,Dr=f4FY<8O3hQepqHNsISnUQTTA>ZmYe"
def aa8:=rd aa7
def Oi:=dF TT [@lk aa7] 261 "+uKrmMMX81Xj=Cun*zdZIo=)6PPkT=tni;Q.)ph[5*2ePx.>YJ"
def awu:=rd Oi
def aa9:=dB TT [] "WS+4y60jU?u3R9^eMSt:?>ujh7>60Q9bTdT+x.vJTrmj?mcsGi=rIDr:E:4GJJ"
def aba:=rd aa9
def abb:=dB TT [] ",p;)agC]<MueZaL/pUsA9CTL5QoLyc:7A5SQPY4m^(NIdy0Y[1YZ?:xdeI*MdFaH[9EjMz7)DMV.py+[_c5;Oo"
def abc:=rd abb
def Oj:=dF TT [@lk aa9,@lk abb] 262 "bcsE/tPxFZ^F_Xl=1DElR0?nbKb^b+X/k<^dni6XU)5JSPbf6b?+*z]Dp7gIKnVe7kvxNTzJEvBFj/vrP1H=89ZroE,9?l3DRm/X7_pExCSYtJz?tOVejMSMM^nJ[W7dYpOg[DK9oRjuwW:Au?wckcN(3VR/HU(K(D11GpP0Up<)1/o)S_hM2R/kBwpvk+M[no>54EYmg93(Q0/YHJ<e4t89zalGUg"
def Ok:=rd Oj
def abd:=dB TT [] "OmZOM<>Btqv3Vdgv]Ls;=NDeer3p/58=+6>^QT0e[kuf,xJHF0m9Ifs/n.fL/BgTOae/c4.E;Ni1A_z?TPe"
def Ol:=rd abd
def D8:=dF TT [@lk abd] 263 ",v7(j0Oi7GoR8k10oV2l3ATT/6L>xr*1wCRYLWCP*dXG+wvJCac)BbFJvRnC4qgXhF5Xy=iuO)l+5<lHYY5At6eCZ?UKX_3"
def wW:=rd D8
def abe:=dB TT [] "ZGJq[mL4:4s]U+?qM/[qy^x>qPALb5Pnyj6.fNICjWqEV,czdE31mEqJzx,.l7TBwan5dhtA/XRc+97c/8p4(;Y9b,:v[2G"
def D9:=rd abe
def Om:=dF TT [@lk abe] 264 ",?pa<MBM(q2ZPGxB+bBnqK.Qc[J9kTT?>P>1zvm^v)p"
def abf:=rd Om
def abg:=dB TT [] ".P^=lU]gGKyJ=/WUGnTTrdvCb7F_h<((DOLBDT0.:7SGij[]1W3MOlTu+]m(6Xxwb)w2eeL*51;Nt:h"
def abh:=rd abg
def On:=dF TT [@lk abg] 265 ")Z33rCJ/vbgnrhLH7DYP](AE;3Dk>QKQZaI72[3u[i_jE=Re?cbZd_5qP(Sg[CFPYN?,Nws^b[:y78F14xoe0F,GR2Ffxm/ek99]rp8^uhCP]_+DX)qO)Ye/"
def abi:=rd On
def Oo:=dF TT [] 266 "+uh[jQ1gVc(X,f]NwKjG[>FBcF)[6v+iTGO/7yIKSI_++SOUo1CIfuKq>4FO_Rcz)Dc2_SP1QxiWw4Kspla)uEnjT,faDc^Y5GXDWK<C6YpRwhKIeVI5"
def Oq:=rd Oo
def Ot:=dB TT [] "7KWjMsjlERP9qY2:5DoscQb9X46/0z2,t^:c3PBLHM:q3AguPy)1uFZ3f:q)rMUISQ_6*dI)n5Oe4JJj1fbo+;F7E2bN<:ejuV_>yc9vkcw1hzN;9R9t>o.llI]fUT1qbHeRtws6aOEnLe))QQqwaCDs(rnMT?0eQs7a7h6sNyi5KiI4"
def Ea:=rd Ot
def abj:=dB TT [] "y^mc[:8Y2xec2^.L:Za/Ve<uLZ2FHPa<9"
def abk:=rd abj
def Eb:=dF TT [@lk Ot,@lk abj] 267 ")]8n/q.^hbM_?5_CFmhprJ,I,s^k)eIs*9O9jgtRC<MA6<lMY3.[:t23=51+:LTIE8i*S[bHlDlIki:4UXFIvrNbF_rrOL[^Xpa>JO*Aw]fg^9u1wBiSCToa"
def abl:=rd Eb
def abm:=dB TT [] "cDs?(UYFDL2FT[S5OMzJWB+S>UyF947gm[Eq+Keb1VF9V4=W"
def Ou:=rd abm
def wX:=dF TT [@lk abm] 268 "9Ul^M)2dXUD??so)/f5lqCB_2]^API"
def awv:=rd wX
def r3:Rnd:=⟨271,[true,false,true,false],13,[0,1,4,6,7,2,5],[4],dB TT [] "/mbbYkQYVD",dB TT [] "3IW][wNs]^I>uldH^lmpK8nG"⟩
def aww:=rd r3
def Ov:=dF TT [] 271 "0j=wzf^uxT4?*pS:e/RMhfQIn[n"
def awx:=rd Ov
def abn:=dB TT [] "3z^xBgApdTx.f1elyVq)>buY(^j_E>5_=Jh.)_gtIQqk/*Dk[TMPETLLROno+l8+=ZyP)WuK5IXRc]h,[r7Dp2.eu"
def Ec:=rd abn
def abo:=dB TT [] "*:i)5RTEeu3MzanaLZDz8*)KiZofusf+A6>:rFrF7<8wFP+^>6"
def abp:=rd abo
def Ed:=dF TT [@lk abn,@lk abo] 272 "=v<2ejWdJc4Iz:gwlJdYOSW>q)Wh:;xdjbF/W(y;adxW3iD"
def awy:=rd Ed
def Ow:=dF TT [] 273 "*PYswQcmwe0xiKnN6"
def abq:=rd Ow
def Ox:=dF TT [] 274 "aaBNAfI=C>91w6IN49sor^beJgL=jCT"
def awz:=rd Ox
def Oy:=dF TT [] 276 "+.iJOg/sciEk(:qU6kWpY99yr_rp3<]*1kTlR="
def awA:=rd Oy
def abr:=dB TT [] "AHKgsS2D7n4W9a9+T>e=Xoaiz*Yo)d,H]zbfaoYHTERmO0ksNC9iylEWMIHf1AxvA?uRLOWoT7/_H>c]bu4vN11bF>)t"
def abs:=rd abr
def abt:=dB TT [] "UrQ)M1QTcqd98:GP^Sjr17>oMULaiLx:]AZ=w;V2=Uy4mu,Os6O]x?OcY<57)1g7XG=eG]UhD6IS1Z[qT47>3/MQ[k]_8B>(E1X3x9ni(P6s=LkeYYFb3*bU1?S+tJs9p6+1*:sN8?YfJcjpz6s4kR>=SLa2Mno^B"
def zJ:=rd abt
def Oz:=dF TT [@lk abr,@lk abt] 277 "*3*?)Orkns]n,.82nA:FnlXo5Wx9?L==7g,jz9(JAfE4kHo:ZqMTcW):OqQ2cXfcUH"
def awB:=rd Oz
def OA:=dF TT [] 278 "9W;ntGUa>M)wPGMaOvDC0>az=oWB5i"
def awC:=rd OA
def abu:=dB TT [] ")ld4i?qU]^MLefQFIZH7PcUjX<TCTBfEF/P6oqe<9gZ6Y3aGXy6u=O5ZL*ExB[o_"
def abv:=rd abu
def OB:=dF TT [@lk abu] 279 ");IgiTmJx+IVudsh"
def Ee:=rd OB
def nT:=dF TT [] 280 "vqK:cSYPSM?ke5imUm0zE:T?P4:<JgjBpa?y"
def Ef:=rd nT
def abw:=dB TT [] ",[(g<CKfKC_)^hMUGr7Qs)i3FYwR733L9(pZlqYumd,B,Tz[/LiFZzRp)+_b"
def abx:=rd abw
def OC:=dF TT [@lk abw] 281 ";I;^B+YZP1My4L.oGt):reMPPJU)4xoHxhXWy7QRRn6?i3<UW6FYB1N;"
def awD:=rd OC
def OD:=dF TT [] 282 "1Q>wtIc+:HpwN3l//pAn"
def awE:=rd OD
def aby:=dB TT [] "rXxqQs)sU+7zdw2)FA<?8JbD1aEAJF<85FnxoH8y.9zizZC0=Z=w3q_XLVfZizwbJ_,(V4)9z;ydJn)Lv.UR=N_/dv8m0"
def abz:=rd aby
def Eg:=dF TT [@lk aby] 283 "*)DWiFifYmad8A9PYLoLV0UPm4kRb5CFlPUP]([Y"
def awF:=rd Eg
def abA:=dB TT [] ")(eiU2,>nXl_xU/y(CkQhcLM>QKN_gha+:e>K;I7i6y_yZvA149^rymn(;Rv^x1:mPJLnwMD>Ndv[EjVyw+PnAh0,>w(cL7vXrit+]d[A//rp.jS+gn(6he5]xxK3f9y(R[SF3O[1Ew*oHl0t/Az"
def OE:=rd abA
def abB:=dB TT [] "273ig+K*cL(<P6dTj(C[Aw,JVpWeq2.:^.RIXd/:t*zZelAzxSWu((WlBai:9v+[B^c>4Ge;UFsgsM+egpMPk03k4_mklh=^Z*3j<HxL)IoxJNJ>;W[NLmTqZ/^K65D<j"
def OF:=rd abB
def abC:=dB TT [] "+rAv9u>(1HrQ>l5k8Cd*8t<?M*jqq>__y/rT<hAjU^.]DtY:VXzmFXKPBUDis0^LW*+PVtF,dXJA]ztWF"
def abD:=rd abC
def Eh:=dF TT [@lk abA,@lk abB,@lk abC] 284 ".rk(l]<PQMJR2*qzeeH9dwNO.6Q(5Xmtv7aoxJ[^,Zx+B]9<3HWRB/[>ae]ko,sA;[rb*7:RZRP9_6e;u+Oh)(O;BGUnJ?2yMFr9X4U;Z.7.V[u2twl0QwxrG:ZCjEBOjHOH_XD4QEpPH^:0M:DUWdD_86s[fC3eO^rbYLJU<1eak4]3BNZr,62(4F>m__.gBij=s21hB>y0MtBPQ4;<tYUUWiy,8<pMmG4OW44Ng65]29F"
def abE:=rd Eh
def OG:=dF TT [] 285 ",adKB<I]VVIWTM[i,mb9gu)QT4AP:O<VqxQj"
def awG:=rd OG
def OH:=dF TT [] 286 "*Fn96:AWN)Q;B=P6Qbbrbv5E2B4OJN2J^xshIcI6]DZ>VT4j(.G*q,8RKw="
def awH:=rd OH
def abF:=dB TT [] "/EMvcHflk;?6vtG8g.TkDJbxuLN6e6/W6:ZsTvDb/a=OyPdA/K0_pFaKB/1KY*s^Cw(t2dV.bW?:Hh+uTcVf7a>8Br8qY9hyzkXr=bykSnmG38aQU_:AUISgjixt+X<i5e)*oBSkA>g>XNoNi1X0+X2lqmrJd/NnX*OR[QeQqwKj"
def OI:=rd abF
def OJ:=dF TT [@lk abF] 287 "*4d.2j5=Gsn?xUeu>1PU]rML_Eq6XzQwBMPPeBo/_OiaNu[0GJu^5:d7Wf2Kxhvg.x0;Zquqjc<XlnQ]S5;xC2]vzww+ve.TE6M"
def awI:=rd OJ
def abG:=dB TT [] "TWYQeEvE3*DHM[.y(CVg].^[57(L)+?IE?I_(oWqy^^*_PqRFYwd/LVfNR<^Y<GXs+GESLKJ3l6Br+tvWgf<aJUNHLLa,(_?WOM,8ro]zgo5on[;>O28E[y[+,,l(<^DoWDjc7x]5ifBE6w/)CPsN4(XG[4yBXS(Z"
def zK:=rd abG
def OK:=dF TT [@lk abG] 288 "L_RxA0bU0xeye94D*NsQ.4>(?5Pen.0ogzJ=u/esT=+,Q/b_UR8hu,3O5,l5o9rVc."
def awJ:=rd OK
def r4:Rnd:=⟨289,[true,true,false,true,false],14,[0,2,6,7,3,4],[3],dB TT [] "+hE^",dB TT [] "8^]V_iR;Uq[IGcM8Tk/Qu1"⟩
def awK:=rd r4
def OL:=dF TT [] 289 "J<yMq*^SoOPaztC,B<Ohi[nVBFfo12eBoe:fSSZ^"
def awL:=rd OL
def OM:=dF TT [] 290 ",adVVqzq)EhV6QzUSjkz1,EwAYM><XelHapV"
def awM:=rd OM
def abH:=dB TT [] "1g*h79yadf(BZAv<D=e4uNM18zCJDGjQC2_(,vBOc^Pj"
def ON:=rd abH
def abI:=dB TT [] "+M_[A_1/nZSn9b2,2vEsS99P6qkRvS4tAF_h3SKYpyK2H0lS*=J[>AE"
def awN:=rd abI
def abJ:=dB TT [@lk abI] ")9ri0f0;gWLc?Qz?*TzdRXC=JY8?HPG?UyxgOt.(_=[)ts;O?bKA?51k39gJx0M?aArDmgYmI"
def Ei:=rd abJ
def OO:=dF TT [@lk abH,@lk abJ] 291 "BwNGrel3QRV_bz,<795ssg<sjO9w.[IZ9"
def abK:=rd OO
def OP:=dF TT [] 292 ")Wa]65]CKTmLWPAo,0;L2?tKs4ld"
def awO:=rd OP
def OQ:=dF TT [] 293 "7sarn7IouQjUsA[XMg3N(Yi)4Wo?Vht4+<Sz;lBykk57pqqP(*rA/v3:r*8y_1I=xj)8rE"
def awP:=rd OQ
def awQ:=dF TT [] 295 "aaBNAfI=C>,eFDj.0RNlB4)Pmr^uxd1"
def OR:=dF TT [] 296 ")*mcBljNqJ:q4go/AYCpBaTD^<Ai9_fK]NjRmlP/4T1DNsR*>;,,:*BrgvQ>Uc_(rG)1XWfG)ZiK7Qf^^w[,N6c5G1gIwe1X"
def awR:=rd OR
def OS:=dF TT [] 297 ":jZiv^yDpxIVlkiO)M)OHrCR4_SotD:cX:8pr_0hLSbKRTJbPy:IlQWw"
def awS:=rd OS
def OT:=dF TT [] 298 "+24rJUuY>7ZqXAIINfcb]gj(OcbXx4GqweAk6Rf)Hr+4UTJJE00DEsi="
def awT:=rd OT
def OU:=dF TT [] 299 "+pBQy^.2sWYQ^l(8,*reGz*B,,l5C[L3D=UrF6I+mSGV>vn))V__n7qF6Xro*dFvT0ojlxhKgghJ[JsLO9L"
def awU:=rd OU
def OV:=dF TT [] 300 ";._>cwjT_3j9m?>(RO+S4[b"
def awV:=rd OV
def abM:=dB TT [] ")IHs*a]29fF0aFhG:iiX]X_qwumzMFwAOsxHoK^p,JaXO?1Va<Zb+<XjSB[dOj3SI]Dlly;cEPC;9OEKIkEnJGAgxt:PLP,Qj:9kmyMQoyBInQf6Tde2>Xyf?CmQg"
def OW:=rd abM
def abN:=dB TT [@lk abM] "[F?DWMiIld8b(Efn^X]M>46Ns5tj8"
def Ej:=rd abN
def OX:=dF TT [@lk abN] 301 ")yH6Dq>avSe1"
def abO:=rd OX
def abP:=dB TT [] "0nR).gK6]1B_6<H14buIlrZftOz06V7r?yaXw(MW9W>)t1/M,Fi[;N0Q8tyD;M:USdVL1M9O/f1KwO4X7wR,"
def OY:=rd abP
def abQ:=dB TT [] ")ieTta9:yK>^D]E4GnP54EkiA3HIK^wNoKgx2y82YOfFK=tSIU0O;O^hsiQrj.Mp5.](adanGlie_s"
def abR:=rd abQ
def abT:=dB TT [] ":XyAZJxhn4jZyn.Uny1V9XUQpP]Tk4*?upH<yY8_V[z0iHy/[t.Yvo<wm3gflRwL+_szpP/dTkOUm_ugZez/Mbf"
def OZ:=rd abT
def abU:=dB TT [] "72GZNB,5O,z>]Xi=eMov07:_rt,<eZQqDfEAw+Xq.VB+17^BHIwpbVX24T*/5d4u946HfgyjCY3"
def abV:=rd abU
def O0:=dB TT [] "2.Xy1O<?)MoL_T;LVu]oQgpnTlMjT^XFnWLnuJAcu*/5rJ4z(c,6D+;BrN)lLBBKg_^ao_G=Pw(TcXpwO203jJ:+7MOD6N)N"
def O1:=rd O0
def zL:=dF TT [@lk abP,@lk abQ,@lk abT,@lk abU,@lk O0] 302 "*xCxf2PR5uj2F?ZeKb^5vSrjI*P*:1HE0.:+WzVqwqLnTp_cWB1ygRBYHI/wyCTpzPLO>F8xuEmh*9F<lAWtCCxjzNGE=+_tefiUo8jD]79b>11CNs<:+X1(z.>B6_;R/0Dck8I32clymSTAo9e++xnxmF04YHzdPc]RY4to;E2Ot[,,7wQb<HqL;oi,(I)LWzZwyLQ.j7>GSb2Flm8BTIu9fQMD)NJCh4,<(3moXl4bEd7]]o)vcfemWCkDqTl[1]T5]pL*o>N^AAyG6++t[7^l(?HYP]GQJ7dI*36ow<Q3GM)0RzuC*kz^mqdNI(e"
def zM:=rd zL
def O2:=dF TT [] 304 "W+KrBBkL(8A+0raK;hTqK)xS_e1gaYwIS0OoC0+1J9lL8"
def abW:=rd O2
def abX:=dB TT [] "*Ra]Kyof28XN4vk==hxUWAsTO_[donlWE>5Xi_nGZPL"
def abY:=rd abX
def O3:=dF TT [@lk abX] 305 "oFF;+0IUKKS3IQD"
def awW:=rd O3
def abZ:=dB TT [] ")CBo+0IuV==:qXJA^*p?V1J:x_Q(mahUmnf^H/QSdFf1[*XB+:6:p;GDSlJd+IdhQ,mttz+^Qsaest.h1hjtCWYk]I(7Fx>jpDS"
def O4:=rd abZ
def O5:=dF TT [@lk abZ] 306 ")fyJy:sQbBq?f7AA0_*KZIzX^I3M4Muo(TvTQwFX[eLf7"
def awX:=rd O5
def ab0:=dB TT [] "*D5kqjBjq,0R7KeWy9iMu_+itFb_(.eX9x]81GH1vxc*()<=rl;SL3fW;8bd_M1JAZivG05Rxe:h=4Hw17p"
def ab1:=rd ab0
def O6:=dF TT [@lk ab0] 315 ",Y)dWe(s"
def awY:=rd O6
def O7:=dF TT [] 335 "4otlN,j6>ZuD*.Y3]Q8:ZXAoeZxNZEJhe2_Hjmp:MQgpw,yriwMMYIL=q*gffVCf6d;hrmPN+;I4BCG5_.qnO(F4iC/j,P46JM1cpqyUDu>yG"
def ab2:=rd O7
def O8:=dF TT [] 336 "gW4Q.U?wTc=JT,]:fh?I:,l,L+E^Yb3*a?Nv,yj:7]EHDSSlwpmo<XI)BVsUb5k?gaphZ^J+I?o"
def ab3:=rd O8
def awZ:List (FuncId×aJ):=[(3,v3),(7,v7),(11,JD),(15,JF),(19,Dt),(23,JU),(27,v27),(31,JY),(35,v35),(39,J7),(43,Kb),(47,Kf),(51,v51),(55,v55),(59,Kx),(63,v63),(68,KJ),(72,DG),(76,KQ),(80,qZ),(84,K4),(88,Lb),(92,Lh),(98,Lm),(102,Lq),(106,Lw),(111,LC),(115,LH),(119,LO),(123,LV),(127,L0),(131,L9),(145,Mc),(149,Mh),(154,DP),(158,Mn),(162,Ms),(166,Mv),(170,Mz),(174,DY),(178,ML),(182,MP),(186,MT),(195,MY),(200,zG),(204,Nd),(208,Ni),(212,No),(216,Nu),(220,Ny),(224,ND),(228,NI),(232,NO),(237,NU),(245,N0),(249,N7),(253,Oa),(257,Of),(261,Oi),(265,On),(271,Ov),(276,Oy),(280,nT),(284,Eh),(288,OK),(292,OP),(297,OS),(301,OX),(306,O5)]
def aw0:List (FuncId×aJ):=[(4,v4),(8,v8),(12,Ds),(16,JG),(20,JP),(24,v24),(28,v28),(32,JZ),(36,J2),(40,J8),(44,Kc),(48,Kg),(52,Kq),(56,Kt),(60,Ky),(64,KB),(69,KL),(73,KP),(77,KR),(81,ZN),(85,K8),(89,Lc),(93,Li),(99,Ln),(103,Ls),(107,Ly),(112,LD),(116,LJ),(120,wT),(124,LW),(128,zC),(132,Ma),(146,Md),(150,Mi),(155,DQ),(159,Mo),(163,DU),(167,Mw),(171,MC),(175,MG),(179,MM),(183,MQ),(187,MU),(196,M5),(201,Nb),(205,Nf),(209,Nj),(213,Np),(217,Nv),(221,Nz),(225,NF),(229,NJ),(234,NQ),(238,NW),(246,D5),(250,aa0),(254,Ob),(258,Og),(262,Oj),(266,Oo),(272,Ed),(277,Oz),(281,OC),(285,OG),(289,OL),(293,OQ),(298,OT),(302,zL),(315,O6)]
def aw1:List (FuncId×aJ):=[(5,v5),(9,v9),(13,JE),(17,JH),(21,JQ),(25,v25),(29,JV),(33,J0),(37,J3),(41,J9),(45,Kd),(49,Kh),(53,Kr),(57,Kv),(61,Kz),(66,KD),(70,ZH),(74,qX),(78,KS),(82,KX),(86,K9),(90,Le),(94,Ll),(100,Lo),(104,Lv),(108,Lz),(113,LE),(117,LK),(121,LS),(125,DM),(129,L5),(133,Mb),(147,Me),(151,Mj),(156,Ml),(160,DT),(164,Mt),(168,Mx),(172,ME),(176,MH),(180,MN),(184,MR),(188,MV),(197,M6),(202,aaB),(206,Ng),(210,Nk),(214,Nr),(218,aaK),(222,NB),(226,NG),(230,NK),(235,NS),(239,NY),(247,N5),(251,D6),(255,Oc),(259,aa4),(263,D8),(267,Eb),(273,Ow),(278,OA),(282,OD),(286,OH),(290,OM),(295,awQ),(299,OU),(304,O2),(335,O7)]
def aw2:List (FuncId×aJ):=[(6,v6),(10,JC),(14,Zh),(18,JI),(22,DB),(26,v26),(30,JX),(34,J1),(38,J5),(42,Ka),(46,Ke),(50,Ko),(54,Ks),(58,Kw),(62,KA),(67,KH),(71,KN),(75,ZJ),(79,KU),(83,KZ),(87,La),(91,Lg),(95,DJ),(101,ZX),(105,ZZ),(110,LA),(114,LF),(118,LN),(122,LT),(126,LZ),(130,L8),(143,uc),(148,Mg),(153,DO),(157,Mm),(161,Mq),(165,DV),(169,My),(173,MF),(177,MJ),(181,MO),(185,MS),(194,MW),(199,D2),(203,Nc),(207,Nh),(211,Nl),(215,Ns),(219,Nw),(223,NC),(227,NH),(231,NM),(236,NT),(244,NZ),(248,N6),(252,N8),(256,Oe),(260,Oh),(264,Om),(268,wX),(274,Ox),(279,OB),(283,Eg),(287,OJ),(291,OO),(296,OR),(300,OV),(305,O3),(336,O8)]
def O9:List (FuncId×aJ):=awZ++(aw0++(aw1++aw2))
def Pa:List (Nat×Rnd):=[(0,r0),(1,r1),(2,r2),(3,r3),(4,r4)]
def Ek:List (Nat×Rnd)->Nat->Option Rnd|[],_=>none|(g,v)::r,f=>if g=f then some v else Ek r f
def El:List (FuncId×aJ)->FuncId->Option aJ|[],_=>none|(g,v)::r,f=>if g=f then some v else El r f
def Pb:TypeId->String->Option FuncId:=λt m=>if t=88/\m="Pair"then some 33 else if t=88/\m="Fact"then some 335 else if t=88/\m="Table"then some 336 else none
def mM:List (List UInt8):=[[],[],[],[52],[52],[],[50,32,50,50],[50,50,32,51,51,32,53,53,32,54,54,32,52,53,32,52,54],[50,50,32,51,51,32,53,53,32,54,54,32,52,52,32,52,53,32,52,54],[50,50,32,51,50,32,50,51],[50,50,32,51,51,32,51,50],[50,50,32,51,51,32,52,52,32,53,53,32,54,54],[50,50,32,51,51,32,52,52,32,53,53,32,54,54],[50,50,32,51,51,32,52,52,32,53,53,32,54,54],[49,49,32,50,50,32,51,51,32,52,52,32,53,53,32,54,54],[],[],[49],[],[50,50,32,51,51],[52,52],[52,52],[52,52,54],[52,52],[50],[50,32,51,32,53,32,54],[52]]
def Pc:List Int:=[31,28,31,30,31,30,31,31,30,31,30,31]
def Em:Nat->Option (Nat×List (List D)):=λg=>if g=0 then some (1,mM.map λs=>[.s s])else if g=1 then some (1,Pc.map λn=>[.i .i64 n])else none
def Vx(e:FuncId->List D->ab->Option (D×ab))(p:FuncId->List D->Option D):aw:=⟨El O9,Pb,e,p,Em,Ek Pa⟩
def V:aw:=Vx (λ_ _ _=>none) (λ_ _=>none)
end
end Go.Proofs.YtigbdbdlkoeadaaGreatDoor.Dv
