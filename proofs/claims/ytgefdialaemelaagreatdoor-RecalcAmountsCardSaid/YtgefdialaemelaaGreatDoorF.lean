/-
  Whole numbers: the division;Lehmer's condition.
-/
import Derived.Test.YtgefdialaemelaaGreatDoorE
import Derived.Test.YtgefdialaemelaaGreatDoorDi
import Derived.Test.YtgefdialaemelaaGreatDoorB
namespace Go.Proofs.YtgefdialaemelaaGreatDoor.Dv
open Go.Dm
theorem im_of {l:List Nat} {x:D} (h:Sl 1 (l.map u32) x) (hl:l≠[]):x = .im 1 (l.map u32):=by
 cases h with
 | nil h=>simp at h;exact absurd h hl
 | z h=>simp at h;exact absurd h hl
 | im=>rfl
theorem shifted_c {l:List Nat} {s:Nat} {ws:List Nat} (h:PRet VS 133 [.im 1 (l.map u32),.i .i64 (s:Int)] (.ow 1 (ws.map u32))) {H:Heap} {K:CR -> Prop}:CallQ VS 133 [.im 1 (l.map u32),.i .i64 (s:Int)] H K↔K (.ret (.mu H.length ws.length 0 ws.length) (H++[.ar 1 (ws.map u32) none true false])):=by
 rw[CallQ_p fn133 rfl h (plain_freezeL (by simp[D.plain,D.flat]))]
 have:placeO v133.own (.ow 1 (ws.map u32)) H=(.mu H.length ws.length 0 ws.length,H++[.ar 1 (ws.map u32) none true false]):=by
  show(D.mu H.length (ws.map u32).length 0 (ws.map u32).length,_)=_
  rw[List.length_map]
 rw[this]
structure DivI (A V:Nat) (vs:List Nat) (n N Q:Nat) (x y:D) (sh:D) (k:Nat) (s:St):Prop where
 h : ∃ us qs a4 a5 a6,k <= Q /\ us.length=N /\ lm 4294967296 us /\ qs.length=Q /\ lm 4294967296 qs /\ vl 4294967296 (us.drop k)<V /\ vl 4294967296 us+4294967296 ^ k*(V*vl 4294967296 (qs.drop k))=A /\
  s=⟨[x,y,.nil,.nil,a4,a5,a6,.u,.u,.u,.i .i64 n,sh,.mu 2 Q 0 Q,.i .i64 ((k:Int)-1),.mu 1 N 0 N,.mu 0 (n+1) 0 n,.u,.u,.u],dH us vs none none false (.ar 1 (qs.map u32) (some Q) true false)⟩
structure UnsI (us vs qs:List Nat) (R:Nat) (n N Q:Nat) (x y:D) (sh:D) (i:Nat) (s:St):Prop where
 h : ∃ ws a4 a5 a6 a7 a13 a18,ws.length=N /\ lm 4294967296 ws /\ vl 4294967296 (ws.take i)=R%4294967296 ^ i /\ (∀ k,i <= k -> k<N -> ws[k]! = us[k]!) /\
  s=⟨[x,y,.nil,.nil,a4,a5,a6,a7,.u,.u,.i .i64 n,sh,.mu 2 Q 0 Q,a13,.mu 1 N 0 N,.mu 0 (n+1) 0 n,.i .i64 i,.i .i64 n,a18],dH ws vs none none false (.ar 1 (qs.map u32) (some Q) true false)⟩
theorem unshift {us:List Nat} {s i:Nat} (hs:s<32) (hm:lm 4294967296 us) (hi:i+1<us.length):((us[i]! + 4294967296*us[i+1]!)/2 ^ s)%4294967296=vl 4294967296 us/2 ^ s/4294967296 ^ i%4294967296:=by
 have hp2:2 ^ s*2 ^ (32-s)=4294967296:=by rw[<- Nat.pow_add,show s+(32-s)=32 by omega]
 have hp:0<2 ^ s:=Nat.pow_pos (by omega)
 have g1:=vl_split (B:=4294967296) us i (by omega)
 rw[vl_drop (by omega),vl_drop (i:=i+1) hi]at g1
 have g2:=vl_lt h32 (lm_take hm i)
 rw[List.length_take,Nat.min_eq_left (by omega)]at g2
 have hpi:0<4294967296 ^ i:=Nat.pow_pos (by omega)
 rw[Nat.div_div_eq_div_mul,Nat.mul_comm (2 ^ s), <- Nat.div_div_eq_div_mul]
 generalize vl 4294967296 (us.drop (i+1+1))=X at g1
 have e1:vl 4294967296 us/4294967296 ^ i=us[i]! + 4294967296*(us[i+1]! + 4294967296*X):=by
  rw[g1,Nat.add_mul_div_left _ _ hpi,Nat.div_eq_of_lt g2,Nat.zero_add]
 have e2:us[i]! + 4294967296*(us[i+1]! + 4294967296*X)=us[i]! + 4294967296*us[i+1]! + 2 ^ s*(4294967296*(2 ^ (32-s)*X)):=by
  have:4294967296*(4294967296*X)=2 ^ s*(4294967296*(2 ^ (32-s)*X)):=by
   generalize 2 ^ s=p at hp2
   generalize 2 ^ (32-s)=q at hp2
   rw[show 4294967296*(4294967296*X)=4294967296*(p*q*X)by rw[hp2]]
   grind
  grind
 rw[e1,e2,Nat.add_mul_div_left _ _ hp,Nat.add_mul_mod_self_left]
theorem divide_q {a b:Nat} {x y:D} (hx:W32 a x) (hy:W32 b y) (hb:b≠0) (ha:(ds 4294967296 a).length<1000000000) (hb':(ds 4294967296 b).length<1000000000) : ∃ d e,PRet VS 102 [x,y] (.tu [d,e]) /\ W32 (a/b) d /\ W32 (a%b) e:=by
 obtain ⟨D0,hD,d,e,rfl,h2,h3⟩ : ∃ D0,PRet VS 102 [x,y] D0 /\ ∃ d e,D0 = .tu [d,e] /\ W32 (a/b) d /\ W32 (a%b) e:=by
  have h1:=hx.sl
  have h2:=hy.sl
  have ec:=fun{H K}=>(compare_q hx hy (by omega) (by omega)).c (H:=H) (K:=K) fn61 rfl (by simp[hx.pl,hy.pl]) (.inl rfl)
  refine PurQ.ex (.body (vf:=v102) fn102 rfl ?_)
  by_cases hlt:a<b
  ·simp (disch:=omega) only[go_sem,Nat.reduceSub,Int.reduceLT,Int.reduceNeg,v102,ec,sgn_lt hlt]
   rw[Nat.div_eq_of_lt hlt,Nat.mod_eq_of_lt hlt]
   have w0:W32 0 .nil:=⟨by rw[ds_zero];exact .nil rfl⟩
   by_cases h0:a=0
   ·subst h0
    rw[ds_zero]at h1
    obtain⟨z0,hz,hc⟩:=clone_e h1
    have ef:=fun m H=>flat_freeze hz.flat m H
    simp(disch:=omega) only[go_sem,Nat.reduceAdd,hc,ef]
    exact⟨_,_,rfl,w0,⟨by rw[ds_zero];exact hz⟩⟩
   ·have hne:=ds_ne h32 h0
    rw[im_of h1 hne]
    have htk:((ds 4294967296 a).map u32).take (ds 4294967296 a).length=(ds 4294967296 a).map u32:=List.take_of_length_le (by rw[List.length_map];omega)
    simp(disch:=omega) only[go_sem,Nat.reduceAdd,clone_q hne ha,htk]
    exact⟨_,_,rfl,w0,⟨.im⟩⟩
  ·have hs : ¬ sgn a b<0:=by
    rcases Nat.lt_or_ge b a with c|c
    ·rw[sgn_gt c];omega
    ·rw[sgn_eq (by omega)];omega
   by_cases hl1:(ds 4294967296 b).length=1
   ·have hb1:b<4294967296:=by
     have:=(ds_len h32 (n:=b) (k:=1)).1 (by omega)
     rwa [Nat.pow_one]at this
    have hdb:ds 4294967296 b=[b]:=by rw[ds_step h32 hb,Nat.mod_eq_of_lt hb1,Nat.div_eq_of_lt hb1,ds_zero]
    rw[hdb]at h2
    obtain⟨d,hd1,hd2⟩:=dshort_q hx (show 0<b by omega) hb1 ha
    have e2:=fun{H K}=>hd1.c (H:=H) (K:=K) fn131 rfl (by simp[hx.pl,plain_i]) (.inl rfl)
    have hr:a%b<4294967296:=Nat.lt_trans (Nat.mod_lt _ (by omega)) hb1
    obtain⟨r,hrr⟩ : ∃ r,r=a%b:=⟨_,rfl⟩
    rw[<- hrr]at hr e2 ⊢
    obtain⟨e,he1,he2⟩:=trim_q (l:=[r]) (x := .im 1 ([r].map u32)) .im (lm_cons.2 ⟨hr,lm_nil⟩) (by simp)
    rw[show vl 4294967296 [r]=r by simp[vl]]at he2
    have e3:=fun{H K}=>CallQ_p (V:=VS) (vf:=v129) (args:=[.sv 1 [[.i .u32 (r:Int)]]]) (H:=H) (H1:=H) (K:=K) fn129 rfl he1 (by simp only[go_sem,Nat.reduceAdd,u32])
    have ef:=fun m H=>flat_freeze hd2.sl.flat m H
    have eg:=fun m H=>flat_freeze he2.sl.flat m H
    have c0:([b]:List Nat)[0]! = b:=rfl
    have h2q:=h2
    have c00:(([b]:List Nat).length:Int)=1:=rfl
    simp(disch:=omega) only[go_sem,Nat.reduceAdd,Nat.reduceSub,Nat.reduceLT,Int.reduceLE,Int.reduceLT,v102,ec,hs,h2.n,h2.q,c0,u32,e2,e3,v129,ef,eg]
    exact⟨_,_,rfl,hd2,he2⟩
   ·have hl2 : ¬ ((ds 4294967296 b).length:Int)=1:=by omega
    have hml:(ds 4294967296 b).length <= (ds 4294967296 a).length:=ds_mono h32 (by omega)
    have hnb:=ds_ne h32 hb
    have hna:ds 4294967296 a≠[]:=ds_ne h32 (by omega)
    have hpb:=ds_pos h32 hb
    have m1:=lm_ds h32 a
    have m2:=lm_ds h32 b
    have q1:=vl_ds h32 a
    have q2:=vl_ds h32 b
    have tb:=tp_ds h32 b hnb
    generalize ds 4294967296 a=l at *
    generalize ds 4294967296 b=m at *
    obtain⟨n,hn⟩ : ∃ n,n=m.length:=⟨_,rfl⟩
    rw[im_of h1 hna,im_of h2 hnb]
    rw[im_of h1 hna,im_of h2 hnb]at ec
    rw[<- hn]at tb hl1 hl2 hml
    have hmt:=lm_get m2 (i:=n-1) (by omega)
    obtain⟨s,hlz,hs32,hs1,hs2⟩:=lz_q hmt tb
    have e3:=fun{H K}=>hlz.c (H:=H) (K:=K) fn132 rfl rfl (.inl rfl)
    obtain⟨vs,hvl,hvm,hvv,hvp⟩:=shifted_q (s:=s) h2 m2 (by omega) hs32
    obtain⟨us,hul,hum,huv,hup⟩:=shifted_q (s:=s) h1 m1 (by omega) hs32
    rw[im_of h1 hna]at hup
    rw[im_of h2 hnb]at hvp
    have e4:=fun{H K}=>shifted_c hvp (H:=H) (K:=K)
    have e5:=fun{H K}=>shifted_c hup (H:=H) (K:=K)
    rw[<- hn]at hvl
    rw[hvl]at e4
    rw[hul]at e5
    rw[q2]at hvv
    rw[q1]at huv
    have hp:0<2 ^ s:=Nat.pow_pos (by omega)
    have hbn:b<4294967296 ^ (n-1)*(m[n-1]! + 1):=by
     have g1:=vl_split (B:=4294967296) m (n-1) (by omega)
     rw[vl_drop (by omega),List.drop_of_length_le (by omega),vl,Nat.mul_zero,Nat.add_zero,q2]at g1
     have g2:=vl_lt h32 (lm_take m2 (n-1))
     rw[List.length_take,Nat.min_eq_left (by omega)]at g2
     rw[Nat.mul_add,Nat.mul_one];omega
    have hbl:4294967296 ^ (n-1)*m[n-1]! <= b:=by
     have g1:=vl_split (B:=4294967296) m (n-1) (by omega)
     rw[vl_drop (by omega),List.drop_of_length_le (by omega),vl,Nat.mul_zero,Nat.add_zero,q2]at g1
     omega
    have hnp:4294967296 ^ n=4294967296 ^ (n-1)*4294967296:=by rw[<- Nat.pow_succ];congr 1;omega
    have hVn:b*2 ^ s<4294967296 ^ n:=by
     have hp2:2 ^ (32-s)*2 ^ s=4294967296:=by rw[<- Nat.pow_add,show 32-s+s=32 by omega]
     have g1:m[n-1]! < 2 ^ (32-s):=Nat.lt_of_mul_lt_mul_right (a:=2 ^ s) (by omega)
     have g2:=Nat.mul_lt_mul_of_pos_right hbn hp
     have g3:4294967296 ^ (n-1)*(m[n-1]! + 1)*2 ^ s <= 4294967296 ^ (n-1)*2 ^ (32-s)*2 ^ s:=Nat.mul_le_mul_right _ (Nat.mul_le_mul_left _ g1)
     rw[Nat.mul_assoc,Nat.mul_assoc,hp2]at g3
     rw[hnp]
     rw[Nat.mul_assoc]at g2
     omega
    have hVt:vl 4294967296 (vs.take n)=b*2 ^ s:=by
     have g1:=vl_split (B:=4294967296) vs n (by omega)
     have g2:vl 4294967296 (vs.drop n)=0:=by
      rcases Nat.eq_zero_or_pos (vl 4294967296 (vs.drop n))with c|c
      ·exact c
      ·have:=Nat.mul_le_mul_left (4294967296 ^ n) c;omega
     rw[g2,Nat.mul_zero,Nat.add_zero,hvv]at g1
     exact g1.symm
    have htop:2147483648 <= vs[n-1]! := by
     have g1:=vl_take_succ (B:=4294967296) (l:=vs) (i:=n-1) (by omega)
     rw[show n-1+1=n by omega,hVt]at g1
     have g2:=vl_lt h32 (lm_take hvm (n-1))
     rw[List.length_take,Nat.min_eq_left (by omega)]at g2
     have g3:=Nat.mul_le_mul_right (2 ^ s) hbl
     have g4:4294967296 ^ (n-1)*2147483648 <= 4294967296 ^ (n-1)*(m[n-1]! * 2 ^ s):=Nat.mul_le_mul_left _ hs1
     rw[Nat.mul_assoc]at g3
     have g5:4294967296 ^ (n-1)*2147483648<4294967296 ^ (n-1)*(vs[n-1]! + 1):=by rw[Nat.mul_add,Nat.mul_one];omega
     have:=Nat.lt_of_mul_lt_mul_left g5
     omega
    obtain⟨Q,hQ⟩ : ∃ Q,Q=l.length-n+1:=⟨_,rfl⟩
    have hst:vl 4294967296 (us.drop Q)<b*2 ^ s:=by
     have g1:=vl_split (B:=4294967296) us Q (by omega)
     rw[huv]at g1
     have g2:a<4294967296 ^ l.length:=by rw[<- q1];exact vl_lt h32 m1
     have g3:=Nat.mul_lt_mul_of_pos_right g2 hp
     have g4:4294967296 ^ l.length=4294967296 ^ Q*4294967296 ^ (n-1):=by rw[<- Nat.pow_add];congr 1;omega
     have g5:4294967296 ^ Q*vl 4294967296 (us.drop Q)<4294967296 ^ Q*(4294967296 ^ (n-1)*2 ^ s):=by
      rw[g4,Nat.mul_assoc]at g3;omega
     have g6:=Nat.lt_of_mul_lt_mul_left g5
     have g7:4294967296 ^ (n-1)*1 <= 4294967296 ^ (n-1)*m[n-1]! := Nat.mul_le_mul_left _ (by omega)
     have g8:4294967296 ^ (n-1)*2 ^ s <= b*2 ^ s:=Nat.mul_le_mul_right _ (by omega)
     omega
    have tq:((l.length:Int)-(n:Int)+1).toNat=l.length-n+1:=by omega
    have tq2:(l.length:Int)-(n:Int)+1=(Q:Int):=by omega
    have iln:((n:Int)-1).toNat=n-1:=by omega
    have h1i:=Sl.im (w:=1) (rows:=l.map u32)
    have h2i:=Sl.im (w:=1) (rows:=m.map u32)
    have hcn:lenD [] 1 (.im 1 (m.map u32))=some (.i .i64 (n:Int)):=by rw[h2i.n,hn]
    simp(disch:=omega) only[go_sem,Nat.reduceAdd,Nat.reduceSub,v102,ec,hs,h1i.n,h2i.n,h2i.q, <- hn,hl2,u32,wr,iln,e3,e4,e5,tq2,rep32,hvl]
    refine⟨⟨by omega,by omega⟩,⟨by omega,by omega⟩,⟨⟨by omega,by omega⟩,by omega,by omega⟩, ?_⟩
    refine Run.loop (DivI (a*2 ^ s) (b*2 ^ s) vs n (l.length+1) Q (.im 1 (l.map u32)) (.im 1 (m.map u32)) (.i .i64 (s:Int))) Q ⟨us,_,_,_,_,Nat.le_refl _,hul,hum,by simp,lm_rep (by omega),hst,by rw[List.drop_of_length_le (by simp),huv];simp[vl],rfl⟩ ?_
    rintro k st ⟨us,qs,a4,a5,a6,hk,hul,hum,hql,hqm,hlt,hv,rfl⟩
    rcases k with _|k
    ·rw [Nat.pow_zero,Nat.one_mul,List.drop_zero]at hv
     rw[List.drop_zero]at hlt
     have hV0:0<b*2 ^ s:=Nat.mul_pos (by omega) hp
     have hq:vl 4294967296 qs=a/b:=by
      rw[<- Nat.mul_div_mul_right a b hp, <- hv,Nat.add_mul_div_left _ _ hV0,Nat.div_eq_of_lt hlt,Nat.zero_add]
     have hr:vl 4294967296 us/2 ^ s=a%b:=by
      have g1:vl 4294967296 us=(a%b)*2 ^ s:=by
       rw[<- Nat.mul_mod_mul_right, <- hv,Nat.add_mul_mod_self_left,Nat.mod_eq_of_lt hlt]
      rw[g1,Nat.mul_div_cancel _ hp]
     obtain⟨R,hR⟩ : ∃ R,R=a%b:=⟨_,rfl⟩
     have hRn:R<4294967296 ^ n:=by
      have:=Nat.mod_lt a (show 0<b by omega)
      have:b*1 <= b*2 ^ s:=Nat.mul_le_mul_left _ hp
      omega
     rw[<- hR]at hr ⊢
     simp(disch:=omega) only[go_sem,Int.reduceLE,Int.reduceNeg,Int.reduceSub,v102l0,Int.natCast_zero]
     refine Run.up (UnsI us vs qs R n (l.length+1) Q (.im 1 (l.map u32)) (.im 1 (m.map u32)) (.i .i64 (s:Int))) n ⟨us,_,_,_,_,_,_,hul,hum,by rw[Nat.pow_zero,Nat.mod_one];rfl,fun _ _ _=>rfl,rfl⟩ ?_
     rintro i st hi ⟨ws,a4,a5,a6,a7,a13,a18,hwl,hwm,hwv,hw,rfl⟩
     by_cases hin:i<n
     ·have c1:(i:Int)<(n:Int):=by omega
      have d0:ws[i]! < 4294967296:=lm_get hwm (by omega)
      have d1:ws[i+1]! < 4294967296:=lm_get hwm (by omega)
      have o1:=or32 d1 d0
      obtain⟨w,hw'⟩ : ∃ w,w=ws[i]! + 4294967296*ws[i+1]! := ⟨_,rfl⟩
      rw[<- hw']at o1
      have e8:bin .shr (.i .u64 (w:Int)) (.i .i64 (s:Int))=some (.i .u64 ((w/2 ^ s:Nat):Int)):=bin_shrN (by show s<64;omega)
      simp(disch:=omega) only[go_sem,Nat.reduceAdd,v102l1,dH,wr,c1,hwl,u32,w64,shl32,o1,e8,w32m,set32]
      obtain⟨v,hv'⟩ : ∃ v,v=w/2 ^ s%4294967296:=⟨_,rfl⟩
      have hvR:v=R/4294967296 ^ i%4294967296:=by
       rw[hv',hw',hw i (Nat.le_refl _) (by omega),hw (i+1) (by omega) (by omega),unshift hs32 hum (by omega),hr]
      rw[<- hv']
      refine⟨⟨by omega,by omega⟩,by omega,⟨by omega,by omega⟩,⟨by omega,by omega⟩,hin,ws.set i v,_,_,_,_,_,_,by rw[List.length_set,hwl],lm_set hwm (by omega), ?_,fun k h3 h4 => ?_,rfl⟩
      ·rw[vl_take_succ (l:=ws.set i v) (by rw[List.length_set];omega),List.take_set_of_le (Nat.le_refl _),getElem!_pos _ _ (by rw[List.length_set];omega),List.getElem_set_self,hwv,hvR,Nat.mod_pow_succ]
      ·rw[getElem!_pos _ _ (by rw[List.length_set];omega),List.getElem_set_ne (by omega), <- getElem!_pos ws _ (by omega)]
       exact hw k (by omega) h4
     ·have hil:i=n:=by omega
      subst hil
      rw[Nat.mod_eq_of_lt hRn]at hwv
      obtain⟨dq,hd1,hd2⟩:=trim_q (l:=qs) (x := .im 1 (qs.map u32)) .im hqm (by omega)
      obtain⟨dr,he1,he2⟩:=trim_q (l:=ws.take i) (x := .im 1 ((ws.take i).map u32)) .im (lm_take hwm i) (by rw[List.length_take];omega)
      rw[hq]at hd2
      rw[hwv]at he2
      have htq:(qs.map u32).take Q=qs.map u32:=List.take_of_length_le (by rw[List.length_map];omega)
      have ef:=fun m H=>flat_freeze hd2.sl.flat m H
      have eg:=fun m H=>flat_freeze he2.sl.flat m H
      have e6:=fun{K}=>CallQ_p (V:=VS) (vf:=v129) (args:=[.mu 2 Q 0 Q]) (H:=[.ar 1 (vs.map u32) none true false,.ar 1 (ws.map u32) none true false,.ar 1 (qs.map u32) (some Q) true false]) (H1:=[.ar 1 (vs.map u32) none true false,.ar 1 (ws.map u32) none true false,.ar 1 (qs.map u32) (some Q) true true]) (K:=K) fn129 rfl hd1 (by simp only[go_sem,Nat.reduceAdd,hql,htq])
      simp(disch:=omega) only[go_sem,Nat.reduceAdd,v102l1,dH,Int.lt_irrefl,e6,v129,hwl]
      refine⟨⟨by omega,by omega⟩,CallQ.fzr (vf:=v129) fn129 rfl rfl he1 ⟨_,by simp(disch:=omega) only[go_sem,Nat.reduceAdd,hwl,List.map_take,if_pos];rfl⟩ (fun H' => ?_)⟩
      simp(disch:=omega) only[go_sem,Nat.reduceAdd,ef,eg]
      exact⟨_,_,rfl,hd2,he2⟩
    ·have e:((k:Int)+1-1)=(k:Int):=by omega
     have c1:(0:Int) <= (k:Int):=by omega
     have tk:((k:Int)+(n:Int)+1).toNat-k=n+1:=by omega
     simp(disch:=omega) only[go_sem,v102l0,dH,wr,e,c1,hul,tk]
     refine⟨⟨by omega,by omega⟩,(dstep_q (j:=k) (n:=n) (N:=l.length+1) (cu:=none) (cv:=none) (lv:=false) (bq := .ar 1 (qs.map u32) (some Q) true false) hum hvm (by omega) hvl hul (by omega) (by omega) htop (by rw[hVt];exact hlt)).mono ?_⟩
     rintro r ⟨ws,hwl,hwm,hwv,hwt,rfl⟩
     rw[hVt]at hwv hwt ⊢
     obtain⟨dg,hdg⟩ : ∃ dg,dg=vl 4294967296 (us.drop k)/(b*2 ^ s):=⟨_,rfl⟩
     have hdb:dg<4294967296:=by
      rw[hdg,Nat.div_lt_iff_lt_mul (Nat.mul_pos (by omega) hp),vl_drop (by omega)]
      have:=lm_get hum (i:=k) (by omega)
      have:=Nat.mul_le_mul_left 4294967296 hlt
      omega
     rw[<- hdg]at hwv ⊢
     simp(disch:=omega) only[go_sem,dH,wr,hql,u32,set32]
     repeat' first|(refine And.intro ?_ ?_)|intro _
     all_goals try omega
     refine⟨k,by omega,ws,qs.set k dg,_,_,_,by omega,hwl,hwm,by simp[hql],lm_set hqm hdb,hwt, ?_,rfl⟩
     rw[vl_drop (l:=qs.set k dg) (by rw[List.length_set];omega),List.drop_set_of_lt (show k<k+1 by omega),getElem!_pos (qs.set k dg) k (by rw[List.length_set];omega),List.getElem_set_self]
     rw[<- hv, <- hwv,Nat.pow_succ]
     generalize vl 4294967296 (qs.drop (k+1))=X
     generalize b*2 ^ s=V
     grind
 exact⟨d,e,hD,h2,h3⟩
open Go.Dm
structure BackI (n y c t:Nat) (x:D) (I:Nat -> Heap -> Prop) (k:Nat) (s:St):Prop where
 le:k <= n
 h : ∃ a2 a3 H',s=⟨[.yl y,.hp c 0,a2,a3,.i .i64 ((k:Int)-1)],H'⟩ /\ I k H'
theorem back_q {l:List Nat} {x:D} (hx:Sl 1 (l.map u32) x) (hl:l.length<1099511627776) {y c:Nat} {I:Nat -> Heap -> Prop} (hbox : ∀ i H,I i H -> H[c]?=some (.hb 126 [x]))
  (hs : ∀ i H,i<l.length -> I (i+1) H -> CallQ VS yF [.yl y,.i .u32 (l[i]! : Int)] H (fun r => ∃ H',r = .ret (.b true) H' /\ I i H')) {H:Heap} (h0:I l.length H):CallQ VS 180 [.yl y,.hp c 0] H (fun r => ∃ d H',r = .ret d H' /\ I 0 H'):=by
 refine .body (vf:=v180) fn180 rfl rfl ?_
 simp(disch:=omega) only[go_sem,Nat.reduceSub,v180,hbox _ _ h0,hx.n]
 refine Run.loop (BackI l.length y c 261 x I) l.length ⟨Nat.le_refl _,.u,.u,H,by rw[wr (by omega) (by omega)],h0⟩ ?_
 rintro k s ⟨hk,a2,a3,H',rfl,hI⟩
 rcases k with _|k
 ·simp(disch:=omega) only[go_sem,Int.reduceLE,Int.reduceNeg,Int.reduceSub,v180l0,Int.natCast_zero]
  exact⟨_,_,⟨rfl,rfl⟩,hI⟩
 ·have e:(((k+1:Nat):Int)-1)=(k:Int):=by omega
  rw[e]
  simp(disch:=omega) only[go_sem,v180l0,hbox _ _ hI,hx.q,u32]
  refine⟨fun _=>⟨⟨by omega,by omega⟩,(hs k H' (by omega) hI).mono ?_⟩,fun h=>absurd (by omega) h⟩
  rintro r ⟨H2,rfl,hI2⟩
  simp(disch:=omega) only[go_sem,wr]
  exact⟨k,by omega,by omega,_,_,H2,rfl,hI2⟩
theorem back_fn {x:D} {H:Heap} {rows:List (List D)} (hx:Sl 1 rows x):CallQ VS 170 [x] H (fun r=>r = .ret (.fn (.func 180) [] [.hp H.length 0]) (H++[.hb 126 [x]])):=by
 refine .body (vf:=v170) fn170 rfl rfl ?_
 simp(disch:=omega) only[go_sem,Nat.reduceSub,v170,hx.c1]
theorem st0 {t:Nat} {c d:D} {H:Heap}:stAt (Blk.hb t [c]::H) (.hp 0 0) [d]=some (Blk.hb t [d]::H):=rfl
theorem long_q {l:List Nat} {x:D} (hx:Sl 1 (l.map u32) x) (hl:l.length <= 2) (hb:lm 4294967296 l):PRet VS 155 [x] (.i .u64 (vl 4294967296 l:Int)):=by
 refine PRet.iff_q.2 (.bodyR (vf:=v155) fn155 rfl rfl ?_)
 have e1:stAt [.hb 22 [.i .u64 0]] (.hp 0 0) [.i .u64 0]=some [.hb 22 [.i .u64 0]]:=rfl
 simp(disch:=omega) only[go_sem,Nat.reduceSub,v155,e1]
 refine(back_fn hx).mono ?_
 rintro r rfl
 simp(disch:=omega) only[go_sem]
 rw[Run_rng rn1 rfl (by decide)]
 refine(back_q (l:=l) hx (by omega) (I:=fun k H=>H=[.hb 22 [.i .u64 (vl 4294967296 (l.drop k):Int)],.hb 126 [x],.df,.yh r1.f r1.path 1 r1.nt r1.tm [x,.i .u64 0,.fn (.func 180) [] [.hp 1 0],.u,.hp 0 0,.u] .rd]) (fun i H h=>by rw[h];rfl) ?_ ?_).mono ?_
 ·rintro i H hi rfl
  refine CallQ.round fnY rfl rn1 ⟨rfl,rfl,rfl,rfl,rfl⟩ ?_
  simp(disch:=omega) only[go_sem,Nat.reduceAdd,r1,setPs]
  have ha:l[i]! < 4294967296:=lm_get hb hi
  have hv:vl 4294967296 (l.drop (i+1))<4294967296:=by
   have hn:(l.drop (i+1)).length <= 1:=by rw[List.length_drop];omega
   have:=vl_lt h32 (lm_drop hb (i+1))
   have:4294967296 ^ (l.drop (i+1)).length <= 4294967296 ^ 1:=Nat.pow_le_pow_right (by omega) hn
   rw[Nat.pow_one]at this
   omega
  have e5:=vl_drop (B:=4294967296) hi
  refine⟨_,_,_,_,_,_,rfl, ?_⟩
  have e6:IntKind.u64.wrap (l[i]! : Int)=(l[i]! : Int):=w64 (by omega)
  simp(disch:=omega) only[go_sem,shl32,or32,e6,st0,e5]
  exact⟨_,_,_,_,_,_,rfl,rfl⟩
 ·rw[List.drop_of_length_le (Nat.le_refl _)];rfl
 ·rintro r ⟨d,H',rfl,rfl⟩
  rw[RngQ_rd rfl]
  simp(disch:=omega) only[go_sem,Nat.reduceAdd,List.drop_zero]
theorem short_q {v:Nat} (hv:v<18446744073709551616) : ∃ d,PRet VS 156 [.i .u64 (v:Int)] d /\ W32 v d:=by
 have e1:bin .shr (.i .u64 (v:Int)) (.i .u64 32)=some (.i .u64 ((v/4294967296:Nat):Int)):=bin_shrN (s:=32) (by decide)
 obtain⟨d,hd1,hd2⟩:=trim_q (l:=[v%4294967296,v/4294967296]) (x := .im 1 ([v%4294967296,v/4294967296].map u32)) .im (lm_cons.2 ⟨by omega,lm_cons.2 ⟨by omega,lm_nil⟩⟩) (by simp)
 rw[show vl 4294967296 [v%4294967296,v/4294967296]=v by simp[vl];omega]at hd2
 have e3:=fun{H K}=>CallQ_p (V:=VS) (vf:=v129) (args:=[.sv 1 [[.i .u32 ((v%4294967296:Nat):Int)],[.i .u32 ((v/4294967296:Nat):Int)]]]) (H:=H) (H1:=H) (K:=K) fn129 rfl hd1 (by simp only[go_sem,Nat.reduceAdd,u32])
 have em:v/4294967296%4294967296=v/4294967296:=by omega
 refine PurQ.ex (.body (vf:=v156) fn156 rfl ?_)
 simp(disch:=omega) only[go_sem,Nat.reduceAdd,Nat.reduceSub,Nat.reduceLT,v156,e1,w32m,em,e3,v129,frzR_flat hd2.sl.flat]
 exact hd2
end Go.Proofs.YtgefdialaemelaaGreatDoor.Dv
namespace Go.Dm
def sg (e:Bool):Int:=if e then -1 else 1
theorem sg_not (e:Bool):sg (!e) = - sg e:=by cases e<;>rfl
def tv (A B:Nat) (e:Bool) (u v:Nat):Int:=sg e*((u:Int)*A-v*B)
theorem tv_not (A B:Nat) (e:Bool) (u v:Nat):tv A B (!e) u v = - tv A B e u v:=by
 unfold tv;rw[sg_not];grind
structure Leh (A B x y:Nat) (e:Bool) (a1 a2 u1 v1 u2 v2:Nat):Prop where
 t1:(a1:Int)=tv x y e u1 v1
 t2:(a2:Int) = - tv x y e u2 v2
 c1:u2 <= v2
 c2:u1+u2 <= v1+v2
 c3:v1 <= v2
 c4:1 <= v2
 xe:x=v2*a1+v1*a2
 le:a2 <= a1
 g:Int.gcd (tv A B e u1 v1) (- tv A B e u2 v2)=Nat.gcd A B
 d:v1=0 /\ - tv A B e u2 v2=B \/ v1≠0 /\ u1 <= v1 /\ tv A B e u1 v1 <= B
structure Kept (A B:Nat) (e:Bool) (u0 v0 u1 v1:Nat):Prop where
 p0:0 <= - tv A B e u0 v0
 p1:0 <= tv A B e u1 v1
 lt:tv A B e u1 v1<B
 ord:tv A B e u1 v1 <= - tv A B e u0 v0
 p2 : - tv A B e u0 v0 <= B
 g:Int.gcd (- tv A B e u0 v0) (tv A B e u1 v1)=Nat.gcd A B
 b0:u0<4294967296 /\ v0<4294967296 /\ u1<4294967296 /\ v1<4294967296
section
variable {A B x y K ra rb:Nat} {e:Bool} {a1 a2 u1 v1 u2 v2:Nat}
theorem Leh.start (h:y <= x):Leh A B x y false x y 1 0 0 1:=by
 constructor<;>first|omega|(simp[tv,sg];done)|skip
theorem lin (e:Bool) (A B x y K ra rb u v:Nat) (hA:A=x*K+ra) (hB:B=y*K+rb):tv A B e u v=tv x y e u v*K+tv ra rb e u v:=by
 subst hA hB
 unfold tv
 simp only[Int.natCast_add,Int.natCast_mul]
 grind
theorem tv_lo {ra rb K:Nat} (hra:ra<K) (hrb:rb<K) (e:Bool) {u v w:Nat} (hu:u <= w) (hv:v <= w) : - ((w:Int)*K) <= tv ra rb e u v /\ tv ra rb e u v <= (w:Int)*K:=by
 have h1:u*ra <= w*K:=Nat.mul_le_mul hu (by omega)
 have h2:v*rb <= w*K:=Nat.mul_le_mul hv (by omega)
 have e1:(u:Int)*ra=((u*ra:Nat):Int):=by simp
 have e2:(v:Int)*rb=((v*rb:Nat):Int):=by simp
 have e3:(w:Int)*K=((w*K:Nat):Int):=by simp
 unfold tv
 rw[e1,e2,e3]
 cases e<;>simp only[sg,if_true,if_false,Bool.false_eq_true]<;>omega
theorem tv_lt {ra rb K:Nat} (hra:ra<K) (hrb:rb<K) (e:Bool) {u v w:Nat} (hu:u <= w) (hv:v <= w) (hw:1 <= w) : - ((w:Int)*K)<tv ra rb e u v:=by
 have h1:u*ra<w*K:=by
  rcases Nat.eq_zero_or_pos u with c|c
  ·rw[c,Nat.zero_mul];exact Nat.mul_pos hw (by omega)
  ·exact Nat.lt_of_lt_of_le (Nat.mul_lt_mul_of_pos_left hra c) (Nat.mul_le_mul_right _ hu)
 have h2:v*rb<w*K:=by
  rcases Nat.eq_zero_or_pos v with c|c
  ·rw[c,Nat.zero_mul];exact Nat.mul_pos hw (by omega)
  ·exact Nat.lt_of_lt_of_le (Nat.mul_lt_mul_of_pos_left hrb c) (Nat.mul_le_mul_right _ hv)
 have e1:(u:Int)*ra=((u*ra:Nat):Int):=by simp
 have e2:(v:Int)*rb=((v*rb:Nat):Int):=by simp
 have e3:(w:Int)*K=((w*K:Nat):Int):=by simp
 unfold tv
 rw[e1,e2,e3]
 cases e<;>simp only[sg,if_true,if_false,Bool.false_eq_true]<;>omega
theorem tv_add (A B:Nat) (e:Bool) (u v u' v':Nat):tv A B e (u+u') (v+v')=tv A B e u v+tv A B e u' v':=by
 unfold tv;simp only[Int.natCast_add];grind
theorem tv_mul (A B:Nat) (e:Bool) (u v q:Nat):tv A B e (q*u) (q*v)=q*tv A B e u v:=by
 unfold tv;simp only[Int.natCast_mul];grind
theorem Leh.cond (h:Leh A B x y e a1 a2 u1 v1 u2 v2) (hA:A=x*K+ra) (hB:B=y*K+rb) (hra:ra<K) (hrb:rb<K) (k1:v2 <= a2) (k2:v1+v2 <= a1-a2) :
  0 <= tv A B e u1 v1 /\ 0 <= - tv A B e u2 v2 /\ - tv A B e u2 v2<tv A B e u1 v1:=by
 have c1:=h.c1
 have c2:=h.c2
 have c3:=h.c3
 have c4:=h.c4
 have l1:=lin e A B x y K ra rb u1 v1 hA hB
 have l2:=lin e A B x y K ra rb u2 v2 hA hB
 have l3:=lin e A B x y K ra rb (u1+u2) (v1+v2) hA hB
 have s1:=tv_lo hra hrb e (u:=u1) (v:=v1) (w:=a1) (by omega) (by omega)
 have s2:=tv_lo hra hrb e (u:=u2) (v:=v2) (w:=a2) (by omega) (by omega)
 have s3:=tv_lt hra hrb e (u:=u1+u2) (v:=v1+v2) (w:=a1-a2) (by omega) (by omega) (by omega)
 have t1:=h.t1
 have t2:=h.t2
 rw[tv_add x y,tv_add A B]at l3
 have t3:tv x y e u1 v1+tv x y e u2 v2=((a1-a2:Nat):Int):=by omega
 rw[t3]at l3
 rw[<- t1]at l1
 rw[show tv x y e u2 v2 = -(a2:Int)by omega]at l2
 refine⟨by omega, ?_,by omega⟩
 have : -(a2:Int)*K = - ((a2:Int)*K):=by grind
 omega
theorem Leh.small (h:Leh A B x y e a1 a2 u1 v1 u2 v2) (hx:x<18446744073709551616) (k1:v2 <= a2) (k2:v1+v2 <= a1-a2):v2<4294967296:=by
 have xe:=h.xe
 have c4:=h.c4
 rcases Nat.lt_or_ge v2 4294967296 with c|c
 ·exact c
 ·have:4294967296*4294967296 <= v2*a1:=Nat.mul_le_mul c (by omega)
  omega
theorem Leh.sum_small (h:Leh A B x y e a1 a2 u1 v1 u2 v2) (hx:x<18446744073709551616) (k1:v2 <= a2):v1+v2<18446744073709551616:=by
 have xe:=h.xe
 have c3:=h.c3
 have le:=h.le
 rcases Nat.lt_or_ge v2 4294967296 with c|c
 ·omega
 ·have:4294967296*4294967296 <= v2*a1:=Nat.mul_le_mul c (by omega)
  omega
theorem Leh.step (h:Leh A B x y e a1 a2 u1 v1 u2 v2) (hx:x<18446744073709551616) (hA:A=x*K+ra) (hB:B=y*K+rb) (hra:ra<K) (hrb:rb<K) (k1:v2 <= a2) (k2:v1+v2 <= a1-a2) :
  Leh A B x y (!e) a2 (a1%a2) u2 v2 (u1+a1/a2*u2) (v1+a1/a2*v2) /\ (v1=0 \/ Kept A B (!e) u1 v1 u2 v2) /\ v1+a1/a2*v2<18446744073709551616 /\ u1+a1/a2*u2<18446744073709551616:=by
 obtain⟨p1,p2,p3⟩:=h.cond hA hB hra hrb k1 k2
 have hs:=h.small hx k1 k2
 have c1:=h.c1
 have c2:=h.c2
 have c3:=h.c3
 have c4:=h.c4
 have le:=h.le
 have ha2:0<a2:=by omega
 have hq:1 <= a1/a2:=Nat.div_pos le ha2
 have hdm:=Nat.div_add_mod a1 a2
 have hr:=Nat.mod_lt a1 ha2
 obtain⟨q,hq'⟩ : ∃ q,q=a1/a2:=⟨_,rfl⟩
 obtain⟨r,hr'⟩ : ∃ r,r=a1%a2:=⟨_,rfl⟩
 rw[<- hq', <- hr']at hdm
 rw[<- hr']at hr
 rw[<- hq']at hq
 rw[<- hq', <- hr']
 have hqu:q*u2 <= q*v2:=Nat.mul_le_mul_left _ c1
 have hqv:v2 <= q*v2:=by have:=Nat.mul_le_mul_right v2 hq;omega
 have hc:u1+q*u2 <= v1+q*v2:=by
  obtain⟨q',rfl⟩ : ∃ q',q=q'+1:=⟨q-1,by omega⟩
  have e1:(q'+1)*u2=q'*u2+u2:=Nat.succ_mul ..
  have e2:(q'+1)*v2=q'*v2+v2:=Nat.succ_mul ..
  have e3:q'*u2 <= q'*v2:=Nat.mul_le_mul_left _ c1
  omega
 have xe:x=(v1+q*v2)*a2+v2*r:=by
  rw[h.xe, <- hdm];grind
 have hv:v1+q*v2<18446744073709551616:=by
  have:(v1+q*v2)*1 <= (v1+q*v2)*a2:=Nat.mul_le_mul_left _ ha2
  omega
 have ta:(a1:Int)-q*a2=r:=by
  have:(a1:Int)=((a2*q+r:Nat):Int):=by rw[hdm]
  rw[this];simp only[Int.natCast_add,Int.natCast_mul];grind
 refine⟨⟨?_, ?_,hc,by omega,by omega,by omega,xe,by omega, ?_,.inr ⟨by omega,c1, ?_⟩⟩, ?_,hv,by omega⟩
 ·rw[tv_not, <- h.t2]
 ·rw[tv_not,tv_add,tv_mul, <- h.t1, <- ta,h.t2];grind
 ·rw[tv_not,tv_not,Int.neg_neg,tv_add,tv_mul]
  have:=h.g
  rw[Int.gcd_comm]at this
  rw[<- this]
  have e1:tv A B e u1 v1+q*tv A B e u2 v2=tv A B e u1 v1-q*(-tv A B e u2 v2):=by grind
  rw[e1,Int.gcd_sub_mul_right_right]
 ·rw[tv_not]
  rcases h.d with⟨_,d⟩|⟨_,_,d⟩<;>omega
 ·by_cases hv0:v1=0
  ·exact .inl hv0
  ·right
   obtain ⟨hd0,hd⟩:u1 <= v1 /\ tv A B e u1 v1 <= B:=by
    rcases h.d with⟨d,_⟩|⟨_,d⟩
    ·exact absurd d hv0
    ·exact d
   refine⟨by rw[tv_not];omega,by rw[tv_not];omega,by rw[tv_not];omega,by rw[tv_not,tv_not];omega,by rw[tv_not];omega,by rw[tv_not,tv_not,Int.neg_neg];exact h.g,by omega,by omega,by omega,by omega⟩
end
section
variable {A B u0 v0 u1 v1:Nat}
theorem Kept.odd (h:Kept A B false u0 v0 u1 v1):u0*A <= v0*B /\ v1*B <= u1*A /\ u1*A-v1*B<B /\ u1*A-v1*B <= v0*B-u0*A /\ v0*B-u0*A <= B /\ Nat.gcd (v0*B-u0*A) (u1*A-v1*B)=Nat.gcd A B:=by
 have p0:=h.p0
 have p1:=h.p1
 have lt:=h.lt
 have od:=h.ord
 have p2:=h.p2
 have g:=h.g
 simp only[tv,sg,if_false,Bool.false_eq_true,Int.one_mul]at *
 have e1:(u0:Int)*A=((u0*A:Nat):Int):=by simp
 have e2:(v0:Int)*B=((v0*B:Nat):Int):=by simp
 have e3:(u1:Int)*A=((u1*A:Nat):Int):=by simp
 have e4:(v1:Int)*B=((v1*B:Nat):Int):=by simp
 refine⟨by omega,by omega,by omega,by omega,by omega, ?_⟩
 rw[<- g,show -((u0:Int)*A-v0*B)=((v0*B-u0*A:Nat):Int)by omega,show(u1:Int)*A-v1*B=((u1*A-v1*B:Nat):Int)by omega,Int.gcd_natCast_natCast]
theorem Kept.even (h:Kept A B true u0 v0 u1 v1):v0*B <= u0*A /\ u1*A <= v1*B /\ v1*B-u1*A<B /\ v1*B-u1*A <= u0*A-v0*B /\ u0*A-v0*B <= B /\ Nat.gcd (u0*A-v0*B) (v1*B-u1*A)=Nat.gcd A B:=by
 have p0:=h.p0
 have p1:=h.p1
 have lt:=h.lt
 have od:=h.ord
 have p2:=h.p2
 have g:=h.g
 simp only[tv,sg,if_true,Int.neg_mul,Int.one_mul]at *
 have e1:(u0:Int)*A=((u0*A:Nat):Int):=by simp
 have e2:(v0:Int)*B=((v0*B:Nat):Int):=by simp
 have e3:(u1:Int)*A=((u1*A:Nat):Int):=by simp
 have e4:(v1:Int)*B=((v1*B:Nat):Int):=by simp
 refine⟨by omega,by omega,by omega,by omega,by omega, ?_⟩
 rw[<- g,show - -((u0:Int)*A-v0*B)=((u0*A-v0*B:Nat):Int)by omega,show -((u1:Int)*A-v1*B)=((v1*B-u1*A:Nat):Int)by omega,Int.gcd_natCast_natCast]
end
end Go.Dm
