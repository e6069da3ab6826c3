/-
  Whole numbers: a step of the division;lengths,shifts.
-/
import Derived.Test.YtgefdialaemelaaGreatDoorC
namespace Go.Proofs.YtgefdialaemelaaGreatDoor.Dv
open Go.Dm
theorem add32_q {x y b:Nat} (hx:x<4294967296) (hy:y<4294967296) (hb:b <= 1):PRet VS 159 [.i .u32 (x:Int),.i .u32 (y:Int),.i .u32 (b:Int)] (.tu [.i .u32 (((x+y+b)%4294967296:Nat):Int),.i .u32 (((x+y+b)/4294967296:Nat):Int)]):=by
 obtain⟨s,hs⟩ : ∃ s,s=x+y+b:=⟨_,rfl⟩
 have e1:IntKind.u64.wrap ((x:Int)+(y:Int))=(x:Int)+(y:Int):=by rw[w64i];omega
 have e2:IntKind.u64.wrap ((x:Int)+(y:Int)+(b:Int))=(s:Int):=by rw[w64i];omega
 have e3:bin .shr (.i .u64 (s:Int)) (.i .u64 32)=some (.i .u64 ((s/4294967296:Nat):Int)):=bin_shrN (s:=32) (by decide)
 have e4:s/4294967296%4294967296=s/4294967296:=by omega
 rw[<- hs]
 refine .body (vf:=v159) fn159 rfl ?_
 simp(disch:=omega) only[go_sem,Nat.reduceAdd,Nat.reduceSub,v159,w64,e1,e2,e3,e4,w32m]
theorem add32_c {x y b:Nat} (hx:x<4294967296) (hy:y<4294967296) (hb:b <= 1) {H:Heap} {K:CR -> Prop}:CallQ VS 159 [.i .u32 (x:Int),.i .u32 (y:Int),.i .u32 (b:Int)] H K↔K (.ret (.tu [.i .u32 (((x+y+b)%4294967296:Nat):Int),.i .u32 (((x+y+b)/4294967296:Nat):Int)]) H) :=
 (add32_q hx hy hb).c (vf:=v159) fn159 rfl rfl (.inl rfl)
structure Mid (j n:Nat) (us ws:List Nat):Prop where
 len:ws.length=us.length
 lo:ws.take j=us.take j
 hi:ws.drop (j+n+1)=us.drop (j+n+1)
 lm:lm 4294967296 ws
theorem Mid.set {j n i v:Nat} {us ws:List Nat} (h:Mid j n us ws) (hi:i <= n) (hv:v<4294967296):Mid j n us (ws.set (j+i) v) where
 len:=by rw[List.length_set,h.len]
 lo:=by rw[List.take_set_of_le (by omega),h.lo]
 hi:=by rw[List.drop_set_of_lt (by omega),h.hi]
 lm:=lm_set h.lm hv
def dH (us vs:List Nat) (cu cv:Option Nat) (lv:Bool) (bq:Blk):Heap:=[.ar 1 (vs.map u32) cv true lv,.ar 1 (us.map u32) cu true false,bq]
theorem get_at {l:List Nat} {i j:Nat} (h:i=j):l[i]! = l[j]! := by rw[h]
theorem kn0 {us vs:List Nat} {j n:Nat} (hus:lm 4294967296 us) (hvs:lm 4294967296 vs) (hn:2 <= n) (hvl:vs.length=n+1) (hul:j+n+1 <= us.length) (htop:2147483648 <= vs[n-1]!) (hU:vl 4294967296 (us.drop (j+1))<vl 4294967296 (vs.take n)) :
  Kn0 4294967296 (vl 4294967296 (us.drop j)) (vl 4294967296 (vs.take n)) us[j+n]! us[j+n-1]! us[j+n-2]! vs[n-1]! vs[n-2]! (4294967296 ^ (n-2)):=by
 have vn:(vs.take n).length=n:=by rw[List.length_take];omega
 have hVlt:=vl_lt h32 (lm_take hvs n)
 rw[vn]at hVlt
 have hz:vl 4294967296 (us.drop (j+n+1))=0:=by
  have g:=vl_split (B:=4294967296) (us.drop (j+1)) n (by rw[List.length_drop];omega)
  rw[List.drop_drop,show j+1+n=j+n+1 by omega]at g
  rcases Nat.eq_zero_or_pos (vl 4294967296 (us.drop (j+n+1)))with c|c
  ·exact c
  ·have:=Nat.mul_le_mul_left (4294967296 ^ n) c
   omega
 refine⟨⟨vl 4294967296 ((us.drop j).take (n-2)), ?_, ?_⟩,⟨vl 4294967296 (vs.take (n-2)), ?_, ?_⟩,by omega,lm_get hus (by omega),lm_get hus (by omega),lm_get hvs (by omega), ?_,h32⟩
 ·have:=vl_lt h32 (lm_take (lm_drop hus j) (n-2))
  rwa [List.length_take,List.length_drop,Nat.min_eq_left (by omega)]at this
 ·have g:=vl_split (B:=4294967296) (us.drop j) (n-2) (by rw[List.length_drop];omega)
  rw[List.drop_drop]at g
  rw[g,vl_drop (i:=j+(n-2)) (by omega),vl_drop (i:=j+(n-2)+1) (by omega),vl_drop (i:=j+(n-2)+1+1) (by omega),show j+(n-2)+1+1+1=j+n+1 by omega,hz,get_at (l:=us) (show j+(n-2)=j+n-2 by omega),get_at (l:=us) (show j+(n-2)+1=j+n-1 by omega),get_at (l:=us) (show j+(n-2)+1+1=j+n by omega)]
  grind
 ·have:=vl_lt h32 (lm_take hvs (n-2))
  rwa [List.length_take,Nat.min_eq_left (by omega)]at this
 ·have e1:=vl_take_succ (B:=4294967296) (l:=vs) (i:=n-1) (by omega)
  have e2:=vl_take_succ (B:=4294967296) (l:=vs) (i:=n-2) (by omega)
  rw[show n-1+1=n by omega]at e1
  rw[show n-2+1=n-1 by omega]at e2
  rw[e1,e2,show n-1=n-2+1 by omega,Nat.pow_succ]
  grind
 ·rw[vl_drop (by omega)]
  have:=lm_get hus (i:=j) (by omega)
  omega
structure GuessI (us vs:List Nat) (j n N:Nat) (cu cv:Option Nat) (lv:Bool) (bq:Blk) (d:Nat) (s:St):Prop where
 h : ∃ r a3 a4 a9,r<4294967296 /\ d<8589934592 /\ KnI 4294967296 (vl 4294967296 (us.drop j)) (vl 4294967296 (vs.take n)) us[j+n]! us[j+n-1]! us[j+n-2]! vs[n-1]! vs[n-2]! (4294967296 ^ (n-2)) d r /\
  s=⟨[.mu 1 N j (n+1),.mu 0 (n+1) 0 n,.i .u32 0,a3,a4,.u,.u,.u,.i .i64 n,a9,.i .u64 (vs[n-1]! : Int),.i .u64 (d:Int),.i .u64 (r:Int),.u,.u,.u,.u,.u,.u,.u,.u,.u,.u,.u,.u,.u,.u,.u,.u],dH us vs cu cv lv bq⟩
theorem shl32 {v:Nat} (h:v<4294967296):bin .shl (.i .u64 (v:Int)) (.i .u64 32)=some (.i .u64 ((4294967296*v:Nat):Int)):=by
 rw[show bin .shl (.i .u64 (v:Int)) (.i .u64 32)=some (.i .u64 (IntKind.u64.wrap ((v*2 ^ 32:Nat):Int)))from bin_shlN (s:=32) (by decide),w64 (by omega),Nat.mul_comm]
theorem or32 {v a:Nat} (h:v<4294967296) (ha:a<4294967296):bin .or (.i .u64 ((4294967296*v:Nat):Int)) (.i .u64 (a:Int))=some (.i .u64 ((a+4294967296*v:Nat):Int)):=by
 rw[bin_or64 (by omega) (by omega),show 4294967296*v=v*2 ^ 32 by omega,shl_or (by omega)]
def v134r:VCode:=match v134.body with
 | .seq _ (.seq _ (.seq _ (.seq _ (.seq _ (.seq _ r)))))=>r
 | _ => .skip
structure MulI (us vs:List Nat) (j n N d:Nat) (cu cv:Option Nat) (lv:Bool) (bq:Blk) (x9 x10 x12:D) (i:Nat) (s:St):Prop where
 h : ∃ ws c b a3 a4 a5 a18 a19 a20 a21,Mid j n us ws /\ c<4294967296 /\ b <= 1 /\ (∀ k,i <= k -> k <= n -> ws[j+k]! = us[j+k]!) /\ vl 4294967296 ws+4294967296 ^ j*(d*vl 4294967296 (vs.take i))=vl 4294967296 us+4294967296 ^ (j+i)*(c+b) /\
  s=⟨[.mu 1 N j (n+1),.mu 0 (n+1) 0 n,.i .u32 0,a3,a4,a5,.u,.u,.i .i64 n,x9,x10,.i .u64 (d:Int),x12,.i .u64 (c:Int),.i .u64 (b:Int),.i .i64 i,.i .i64 n,.mu 0 (n+1) 0 n,a18,a19,a20,a21,.u,.u,.u,.u,.u,.u,.u],dH ws vs cu cv lv bq⟩
structure AddI (us w0 vs:List Nat) (j n N d:Nat) (cu cv:Option Nat) (lv:Bool) (bq:Blk) (i:Nat) (s:St):Prop where
 h : ∃ ws up b3 b4 b5 b6 b7 b9 b10 b12 b13 b14 b15 b16 b17 b18 b19 b20 b21 b22 b27 b28,Mid j n us ws /\ up <= 1 /\ (∀ k,i <= k -> k <= n -> ws[j+k]! = w0[j+k]!) /\ vl 4294967296 ws+4294967296 ^ (j+i)*up=vl 4294967296 w0+4294967296 ^ j*vl 4294967296 (vs.take i) /\
  s=⟨[.mu 1 N j (n+1),.mu 0 (n+1) 0 n,.i .u32 0,b3,b4,b5,b6,b7,.i .i64 n,b9,b10,.i .u64 (d:Int),b12,b13,b14,b15,b16,b17,b18,b19,b20,b21,b22,.i .u32 (up:Int),.i .i64 i,.i .i64 n,.mu 0 (n+1) 0 n,b27,b28],dH ws vs cu cv lv bq⟩
theorem addback {W4 W2 W T P E B x y up V e d:Nat} (f1:W4+P*E*x=W+P*E*y) (hv:W+P*E*up=W2+P*V) (t1:W2+P*((d+1)*V)=T+P*E*B) (he:y+B*e=x+up):W4+P*E*B*e+P*(d*V)=T+P*E*B:=by grind
theorem tail0 {us vs:List Nat} {j n:Nat} (hvs:lm 4294967296 vs) (hvl:vs.length=n+1) (hul:j+n+1 <= us.length) (hU:vl 4294967296 (us.drop (j+1))<vl 4294967296 (vs.take n)):vl 4294967296 (us.drop (j+n+1))=0:=by
 have vn:(vs.take n).length=n:=by rw[List.length_take];omega
 have hVlt:=vl_lt h32 (lm_take hvs n)
 rw[vn]at hVlt
 have g:=vl_split (B:=4294967296) (us.drop (j+1)) n (by rw[List.length_drop];omega)
 rw[List.drop_drop,show j+1+n=j+n+1 by omega]at g
 rcases Nat.eq_zero_or_pos (vl 4294967296 (us.drop (j+n+1)))with c|c
 ·exact c
 ·have:=Nat.mul_le_mul_left (4294967296 ^ n) c
  omega
theorem Mid.val {us ws:List Nat} {j n:Nat} (h:Mid j n us ws) (hul:j+n+1 <= us.length) (hz:vl 4294967296 (us.drop (j+n+1))=0):vl 4294967296 ws=vl 4294967296 (us.take j)+4294967296 ^ j*vl 4294967296 (ws.drop j) /\ vl 4294967296 (ws.drop j)<4294967296 ^ (n+1):=by
 have hl:=h.len
 have g1:=vl_split (B:=4294967296) ws j (by omega)
 rw[h.lo]at g1
 refine⟨g1, ?_⟩
 have g2:=vl_split (B:=4294967296) (ws.drop j) (n+1) (by rw[List.length_drop];omega)
 rw[List.drop_drop, <- Nat.add_assoc,h.hi,hz]at g2
 have g3:=vl_lt h32 (lm_take (lm_drop h.lm j) (n+1))
 rw[List.length_take,List.length_drop,Nat.min_eq_left (by omega)]at g3
 omega
theorem drest_q {us vs:List Nat} {j n N d:Nat} {cu cv:Option Nat} {lv:Bool} {bq:Blk} {a3 a4 x9 x10 x12:D} (hus:lm 4294967296 us) (hvs:lm 4294967296 vs) (hn:2 <= n) (hvl:vs.length=n+1) (hN:us.length=N) (hul:j+n+1 <= us.length) (hbig:us.length<2000000000) (hU:vl 4294967296 (us.drop (j+1))<vl 4294967296 (vs.take n))
  (hd:d<4294967296) (h1:vl 4294967296 (us.drop j)<(d+1)*vl 4294967296 (vs.take n)) (h2:(d-1)*vl 4294967296 (vs.take n) <= vl 4294967296 (us.drop j)) :
  Run VS v134r ⟨[.mu 1 N j (n+1),.mu 0 (n+1) 0 n,.i .u32 0,a3,a4,.u,.u,.u,.i .i64 n,x9,x10,.i .u64 (d:Int),x12,.u,.u,.u,.u,.u,.u,.u,.u,.u,.u,.u,.u,.u,.u,.u,.u],dH us vs cu cv lv bq⟩ (ResQ [.s 2] (fun r => ∃ ws,ws.length=N /\ lm 4294967296 ws /\ vl 4294967296 ws+4294967296 ^ j*(vl 4294967296 (us.drop j)/vl 4294967296 (vs.take n)*vl 4294967296 (vs.take n))=vl 4294967296 us /\ vl 4294967296 (ws.drop j)<vl 4294967296 (vs.take n) /\
   r = .ret (.i .u32 ((vl 4294967296 (us.drop j)/vl 4294967296 (vs.take n):Nat):Int)) (dH ws vs cu cv lv bq))):=by
 have hz:=tail0 hvs hvl hul hU
 simp(disch:=omega) only[go_sem,v134r,v134,dH]
 refine Run.up (MulI us vs j n N d cu cv lv bq x9 x10 x12) n ⟨us,0,0,_,_,_,_,_,_,_,⟨rfl,rfl,rfl,hus⟩,by omega,by omega,fun _ _ _=>rfl,by simp[vl],rfl⟩ ?_
 rintro i s hi ⟨ws,c,b,a3,a4,a5,a18,a19,a20,a21,hm,hc,hb,hw,hv,rfl⟩
 have hwl:=hm.len
 rw[hN]at hwl
 have hwm:=hm.lm
 by_cases hlt:i<n
 ·have c1:(i:Int)<(n:Int):=by omega
  have hd2:vs[i]! < 4294967296:=lm_get hvs (by omega)
  have hx:ws[j+i]! < 4294967296:=lm_get hwm (by omega)
  have hxy:d*vs[i]! <= 4294967295*4294967295:=Nat.mul_le_mul (by omega) (by omega)
  obtain⟨p0,hp0⟩ : ∃ p0,p0=d*vs[i]! := ⟨_,rfl⟩
  rw[<- hp0]at hxy
  obtain⟨p,hp⟩ : ∃ p,p=p0+c:=⟨_,rfl⟩
  have e1:(d:Int)*(vs[i]! : Int)=(p0:Int):=by rw[hp0];simp
  have e2:IntKind.u64.wrap (p0:Int)=(p0:Int):=w64 (by omega)
  have e3:IntKind.u64.wrap ((p0:Int)+(c:Int))=(p:Int):=by rw[w64i];omega
  have e4:bin .shr (.i .u64 (p:Int)) (.i .u64 32)=some (.i .u64 ((p/4294967296:Nat):Int)):=bin_shrN (s:=32) (by decide)
  obtain⟨lo,hlo⟩ : ∃ lo,lo=p%4294967296:=⟨_,rfl⟩
  have e5:IntKind.u32.wrap (p:Int)=(lo:Int):=by rw[w32m,hlo]
  obtain⟨df,hdf⟩ : ∃ df,df=(ws[j+i]! + 18446744073709551616-lo-b)%18446744073709551616:=⟨_,rfl⟩
  have e6:IntKind.u64.wrap (IntKind.u64.wrap ((ws[j+i]! : Int)-(lo:Int))-(b:Int))=(df:Int):=by rw[w64i,w64i];omega
  have e7:bin .shr (.i .u64 (df:Int)) (.i .u64 63)=some (.i .u64 ((df/9223372036854775808:Nat):Int)):=bin_shrN (s:=63) (by decide)
  obtain⟨b',hb'⟩ : ∃ b',b'=df/9223372036854775808:=⟨_,rfl⟩
  obtain⟨y,hy⟩ : ∃ y,y=df%4294967296:=⟨_,rfl⟩
  have e8:IntKind.u32.wrap (df:Int)=(y:Int):=by rw[w32m,hy]
  rw[<- hb']at e7
  have key:b' <= 1 /\ y+lo+b=ws[j+i]! + 4294967296*b':=by
   rcases Nat.lt_or_ge ws[j+i]! (lo+b)with hq|hq
   ·have:df=ws[j+i]! + 18446744073709551616-lo-b:=by omega
    omega
   ·have:df=ws[j+i]! - lo-b:=by omega
    omega
  have w1:IntKind.u64.wrap (lo:Int)=(lo:Int):=w64 (by omega)
  simp(disch:=omega) only[go_sem,v134l1,dH,c1,u32,wr,w64,hwl,hvl,e1,e2,e3,e4,e5,e6,e7,e8,w1,set32]
  repeat' first|(refine And.intro ?_ ?_)|intro _
  all_goals try omega
  refine⟨ws.set (j+i) y,p/4294967296,b',_,_,_,_,_,_,_,hm.set (by omega) (by omega),by omega,by omega,fun k h3 h4 => ?_, ?_,rfl⟩
  ·rw[getElem!_pos _ _ (by rw[List.length_set];omega),List.getElem_set_ne (by omega), <- getElem!_pos ws _ (by omega)]
   exact hw k (by omega) h4
  ·have g1:=vl_set (B:=4294967296) (v:=y) (l:=ws) (i:=j+i) (by omega)
   rw[vl_take_succ (by omega), <- Nat.add_assoc,Nat.pow_succ]
   have g2:=Nat.mod_add_div p 4294967296
   rw[<- hlo]at g2
   have g3:4294967296 ^ (j+i)=4294967296 ^ j*4294967296 ^ i:=Nat.pow_add ..
   have g4:=key.2
   grind
 ·have hil:i=n:=by omega
  subst hil
  have hx:ws[j+i]! < 4294967296:=lm_get hwm (by omega)
  obtain⟨df,hdf⟩ : ∃ df,df=(ws[j+i]! + 18446744073709551616-c-b)%18446744073709551616:=⟨_,rfl⟩
  have e6:IntKind.u64.wrap (IntKind.u64.wrap ((ws[j+i]! : Int)-(c:Int))-(b:Int))=(df:Int):=by rw[w64i,w64i];omega
  have e7:bin .shr (.i .u64 (df:Int)) (.i .u64 63)=some (.i .u64 ((df/9223372036854775808:Nat):Int)):=bin_shrN (s:=63) (by decide)
  obtain⟨b',hb'⟩ : ∃ b',b'=df/9223372036854775808:=⟨_,rfl⟩
  obtain⟨y,hy⟩ : ∃ y,y=df%4294967296:=⟨_,rfl⟩
  have e8:IntKind.u32.wrap (df:Int)=(y:Int):=by rw[w32m,hy]
  rw[<- hb']at e7
  have hm2:=hm.set (i:=i) (v:=y) (by omega) (by omega)
  obtain⟨q1,q2⟩:=hm2.val hul hz
  have q3:=vl_split (B:=4294967296) us j (by omega)
  have g1:=vl_set (B:=4294967296) (v:=y) (l:=ws) (i:=j+i) (by omega)
  have g3:4294967296 ^ (j+i)=4294967296 ^ j*4294967296 ^ i:=Nat.pow_add ..
  have hpj:0<4294967296 ^ j:=Nat.pow_pos (by omega)
  rcases Nat.lt_or_ge ws[j+i]! (c+b)with hq|hq
  ·have hdf':df=ws[j+i]! + 18446744073709551616-c-b:=by omega
   have hb1:b'=1:=by omega
   have hb1' : ¬ ((1:Int)=0):=by omega
   rw[hb1]at e7
   have key:y+c+b=ws[j+i]! + 4294967296:=by omega
   have t1:vl 4294967296 (ws.set (j+i) y)+4294967296 ^ j*(d*vl 4294967296 (vs.take i))=vl 4294967296 us+4294967296 ^ j*4294967296 ^ i*4294967296:=by grind
   simp(disch:=omega) only[go_sem,Int.reduceEq,v134l1,Int.lt_irrefl,dH,u32,w64,hwl,e6,e7,e8,set32,Int.natCast_one]
   obtain⟨w2,hw2⟩ : ∃ w2,w2=ws.set (j+i) y:=⟨_,rfl⟩
   rw[<- hw2]at hm2 t1 q1 q2 ⊢
   refine⟨⟨by omega,by omega⟩,by omega,⟨by omega,by omega⟩,by omega,Run.up (AddI us w2 vs j i N d cu cv lv bq) i ⟨w2,0,_,_,_,_,_,_,_,_,_,_,_,_,_,_,_,_,_,_,_,_,hm2,by omega,fun _ _ _=>rfl,by simp[vl],rfl⟩ ?_⟩
   rintro k s hk ⟨ws,up,b3,b4,b5,b6,b7,b9,b10,b12,b13,b14,b15,b16,b17,b18,b19,b20,b21,b22,b27,b28,hm,hup,hw,hv',rfl⟩
   have hwl:=hm.len
   rw[hN]at hwl
   have hwm:=hm.lm
   by_cases hlt:k<i
   ·have c1:(k:Int)<(i:Int):=by omega
    have hd2:vs[k]! < 4294967296:=lm_get hvs (by omega)
    have hx:ws[j+k]! < 4294967296:=lm_get hwm (by omega)
    have es:=fun{H K}=>add32_c (H:=H) (K:=K) hx hd2 hup
    obtain⟨s,hs⟩ : ∃ s,s=ws[j+k]! + vs[k]! + up:=⟨_,rfl⟩
    rw[<- hs]at es
    simp(disch:=omega) only[go_sem,v134l2,dH,c1,u32,wr,hwl,hvl,es,set32]
    repeat' first|(refine And.intro ?_ ?_)|intro _
    all_goals try omega
    refine⟨ws.set (j+k) (s%4294967296),s/4294967296,_,_,_,_,_,_,_,_,_,_,_,_,_,_,_,_,_,_,_,_,hm.set (by omega) (by omega),by omega,fun m h3 h4 => ?_, ?_,rfl⟩
    ·rw[getElem!_pos _ _ (by rw[List.length_set];omega),List.getElem_set_ne (by omega), <- getElem!_pos ws _ (by omega)]
     exact hw m (by omega) h4
    ·have g1:=vl_set (B:=4294967296) (v:=s%4294967296) (l:=ws) (i:=j+k) (by omega)
     rw[vl_take_succ (by omega), <- Nat.add_assoc,Nat.pow_succ]
     have g2:=Nat.mod_add_div s 4294967296
     have g3:4294967296 ^ (j+k)=4294967296 ^ j*4294967296 ^ k:=Nat.pow_add ..
     grind
   ·have hki:k=i:=by omega
    subst hki
    have hx:ws[j+k]! < 4294967296:=lm_get hwm (by omega)
    obtain⟨s,hs⟩ : ∃ s,s=ws[j+k]! + up:=⟨_,rfl⟩
    obtain⟨z',hz'⟩ : ∃ z',z'=s%4294967296:=⟨_,rfl⟩
    have e9:IntKind.u32.wrap ((ws[j+k]! : Int)+(up:Int))=(z':Int):=by rw[w32i];omega
    have hm4:=hm.set (i:=k) (v:=z') (by omega) (by omega)
    obtain⟨p1,p2⟩:=hm4.val hul hz
    have f1:=vl_set (B:=4294967296) (v:=z') (l:=ws) (i:=j+k) (by omega)
    obtain⟨e,he,he1⟩ : ∃ e,z'+4294967296*e=s /\ e <= 1:=⟨s/4294967296,by omega,by omega⟩
    obtain⟨w4,hw4⟩ : ∃ w4,w4=ws.set (j+k) z':=⟨_,rfl⟩
    rw[<- hw4]at hm4 p1 p2 f1
    obtain⟨V,hV⟩ : ∃ V,V=vl 4294967296 (vs.take k):=⟨_,rfl⟩
    obtain⟨U,hU'⟩ : ∃ U,U=vl 4294967296 (us.drop j):=⟨_,rfl⟩
    rw[<- hV]at hU h1 h2 t1
    rw[<- hU']at h1 h2 q3
    have hd1:d≠0:=by
     rintro rfl
     rw[Nat.zero_mul,Nat.mul_zero,Nat.add_zero,q1,q3]at t1
     have:vl 4294967296 (w2.drop j)=U+4294967296 ^ (k+1):=Nat.eq_of_mul_eq_mul_left hpj (by rw[Nat.pow_succ];grind)
     omega
    obtain⟨d',rfl⟩ : ∃ d',d=d'+1:=⟨d-1,by omega⟩
    rw[Nat.add_sub_cancel]at h2
    rw[g3]at f1
    rw[g3, <- hV]at hv'
    have t2:=addback f1 hv' t1 (show z'+4294967296*e=ws[j+k]! + up by omega)
    have t3:vl 4294967296 (w4.drop j)+4294967296 ^ (k+1)*e+d'*V=U+4294967296 ^ (k+1):=Nat.eq_of_mul_eq_mul_left hpj (by rw[Nat.pow_succ];grind)
    have t4:vl 4294967296 (w2.drop j)+(d'+1)*V=U+4294967296 ^ (k+1):=Nat.eq_of_mul_eq_mul_left hpj (by rw[Nat.pow_succ];grind)
    have he0:e=1:=by
     rcases Nat.lt_or_ge e 1 with c|c
     ·rw[show e=0 by omega,Nat.mul_zero]at t3
      omega
     ·omega
    subst he0
    have t5:vl 4294967296 (w4.drop j)+d'*V=U:=by omega
    have t6:(d'+1)*V=d'*V+V:=Nat.succ_mul ..
    have t7:vl 4294967296 (w4.drop j)<V:=by omega
    have t8:U/V=d':=Nat.div_eq_of_lt_le (by omega) (by omega)
    have e10:IntKind.u64.wrap (((d':Int)+1)-1)=(d':Int):=by rw[w64i];omega
    rw[<- hV, <- hU',t8]
    simp(disch:=omega) only[go_sem,v134l2,Int.lt_irrefl,dH,u32,w32,hwl,e9,e10,set32]
    repeat' first|(refine And.intro ?_ ?_)|intro _
    all_goals try omega
    refine⟨w4,by rw[hm4.len,hN],hm4.lm, ?_,t7,by rw[hw4]⟩
    rw[p1,q3, <- t5]
    grind
  ·have hdf':df=ws[j+i]! - c-b:=by omega
   have hb0:b'=0:=by omega
   rw[hb0]at e7
   have key:y+c+b=ws[j+i]! := by omega
   have t1:vl 4294967296 (ws.set (j+i) y)+4294967296 ^ j*(d*vl 4294967296 (vs.take i))=vl 4294967296 us:=by grind
   have t2:vl 4294967296 ((ws.set (j+i) y).drop j)+d*vl 4294967296 (vs.take i)=vl 4294967296 (us.drop j):=Nat.eq_of_mul_eq_mul_left hpj (by grind)
   have t3:(d+1)*vl 4294967296 (vs.take i)=d*vl 4294967296 (vs.take i)+vl 4294967296 (vs.take i):=Nat.succ_mul ..
   have t4:vl 4294967296 (us.drop j)/vl 4294967296 (vs.take i)=d:=Nat.div_eq_of_lt_le (by omega) (by omega)
   rw[t4]
   simp(disch:=omega) only[go_sem,v134l1,Int.lt_irrefl,dH,u32,w64,w32,hwl,e6,e7,e8,set32,Int.natCast_zero]
   exact⟨⟨by omega,by omega⟩,by omega,⟨by omega,by omega⟩,by omega,ws.set (j+i) y,by rw[List.length_set,hwl],hm2.lm,t1,by omega,rfl⟩
theorem dstep_q {us vs:List Nat} {j n N:Nat} {cu cv:Option Nat} {lv:Bool} {bq:Blk} (hus:lm 4294967296 us) (hvs:lm 4294967296 vs) (hn:2 <= n) (hvl:vs.length=n+1) (hN:us.length=N) (hul:j+n+1 <= us.length) (hbig:us.length<2000000000) (htop:2147483648 <= vs[n-1]!) (hU:vl 4294967296 (us.drop (j+1))<vl 4294967296 (vs.take n)) :
  CallQ VS 134 [.mu 1 N j (n+1),.mu 0 (n+1) 0 n] (dH us vs cu cv lv bq) (fun r => ∃ ws,ws.length=N /\ lm 4294967296 ws /\ vl 4294967296 ws+4294967296 ^ j*(vl 4294967296 (us.drop j)/vl 4294967296 (vs.take n)*vl 4294967296 (vs.take n))=vl 4294967296 us /\ vl 4294967296 (ws.drop j)<vl 4294967296 (vs.take n) /\
   r = .ret (.i .u32 ((vl 4294967296 (us.drop j)/vl 4294967296 (vs.take n):Nat):Int)) (dH ws vs cu cv lv bq)):=by
 have hk:=kn0 hus hvs hn hvl hul htop hU
 have b2:=lm_get hus (i:=j+n) (by omega)
 have b1:=hk.b1
 have b0:=hk.b0
 have bv1:=lm_get hvs (i:=n-1) (by omega)
 have bv2:=hk.b2
 have hst:=KnI.start hk
 have i1:((n:Int)-1).toNat=n-1:=by omega
 have i2:((n:Int)-2).toNat=n-2:=by omega
 have i3:j+(n-1)=j+n-1:=by omega
 have i4:j+(n-2)=j+n-2:=by omega
 have hvn : ¬ ((vs[n-1]! : Int)=0):=by omega
 have eh:us[j+n]! * 4294967296+us[j+n-1]! = us[j+n-1]! + 4294967296*us[j+n]! := by omega
 rw[eh]at hst
 obtain⟨hd,hhd⟩ : ∃ hd,hd=us[j+n-1]! + 4294967296*us[j+n]! := ⟨_,rfl⟩
 have o1:=or32 b2 b1
 rw[<- hhd]at o1
 have hq:hd/vs[n-1]! < 8589934592:=by
  rw[Nat.div_lt_iff_lt_mul (by omega)]
  have:8589934592*2147483648 <= 8589934592*vs[n-1]! := Nat.mul_le_mul_left _ htop
  omega
 have hr:=Nat.mod_lt hd (show 0<vs[n-1]! by omega)
 rw[<- hhd]at hst
 refine .body (vf:=v134) fn134 rfl rfl ?_
 show Run VS (.seq _ (.seq _ (.seq _ (.seq _ (.seq _ (.seq _ v134r)))))) _ _
 simp(disch:=omega) only[go_sem,Nat.reduceAdd,Nat.reduceSub,v134,dH,hvl,hN,u32,wr,w64,i1,i3,shl32,o1,tdivN,tmodN,hvn]
 refine⟨⟨by omega,by omega⟩,by omega,⟨by omega,by omega⟩,by omega,⟨by omega,by omega⟩, ?_⟩
 refine Run.loop (GuessI us vs j n N cu cv lv bq) (hd/vs[n-1]!) ⟨_,_,_,_,by omega,hq,hst,rfl⟩ ?_
 rintro d s ⟨r,a3,a4,a9,hr,hdb,hi,rfl⟩
 have o2:=or32 hr b0
 by_cases hdB:4294967296 <= d
 ·have c1:(4294967296:Int) <= (d:Int):=by omega
  obtain⟨hd0,hi2⟩:=KnI.less hk hi (.inl hdB)
  have e1:IntKind.u64.wrap ((d:Int)-1)=((d-1:Nat):Int):=by rw[w64i];omega
  have e2:IntKind.u64.wrap ((r:Int)+(vs[n-1]! : Int))=((r+vs[n-1]! : Nat):Int):=by rw[w64i];omega
  obtain⟨r',hr'⟩ : ∃ r',r'=r+vs[n-1]! := ⟨_,rfl⟩
  rw[<- hr']at hi2 e2
  simp(disch:=omega) only[go_sem,Nat.reduceAdd,reduceCtorEq,v134l0,dH,c1,e1,e2]
  refine⟨fun hb => ?_,fun hb=>⟨d-1,by omega,_,_,_,_,by omega,by omega,hi2,rfl⟩⟩
  obtain⟨g1,g2⟩:=KnI.brk hk hi2 (by omega)
  exact drest_q hus hvs hn hvl hN hul hbig hU g1 hi2.hi (KnI.stop hk hi2 g1 g2)
 ·have c1 : ¬ (4294967296:Int) <= (d:Int):=by omega
  have hm:d*vs[n-2]! <= 4294967295*4294967295:=Nat.mul_le_mul (by omega) (by omega)
  have e0:IntKind.u64.wrap ((d:Int)*(vs[n-2]! : Int))=((d*vs[n-2]! : Nat):Int):=by
   rw[<- Int.natCast_mul];exact w64 (by omega)
  obtain⟨p,hp⟩ : ∃ p,p=d*vs[n-2]! := ⟨_,rfl⟩
  obtain⟨q,hq⟩ : ∃ q,q=us[j+n-2]! + 4294967296*r:=⟨_,rfl⟩
  rw[<- hp]at e0
  rw[<- hq]at o2
  by_cases hgt:q<p
  ·have c2:(q:Int)<(p:Int):=by omega
   obtain⟨hd0,hi2⟩:=KnI.less hk hi (.inr (by omega))
   have e1:IntKind.u64.wrap ((d:Int)-1)=((d-1:Nat):Int):=by rw[w64i];omega
   have e2:IntKind.u64.wrap ((r:Int)+(vs[n-1]! : Int))=((r+vs[n-1]! : Nat):Int):=by rw[w64i];omega
   obtain⟨r',hr'⟩ : ∃ r',r'=r+vs[n-1]! := ⟨_,rfl⟩
   rw[<- hr']at hi2 e2
   simp(disch:=omega) only[go_sem,Nat.reduceAdd,reduceCtorEq,v134l0,dH,hvl,hN,u32,wr,w64,i2,i4,shl32,c1,c2,e0,e1,e2,o2]
   refine⟨⟨by omega,by omega⟩,⟨by omega,by omega⟩,by omega,fun hb => ?_,fun hb=>⟨d-1,by omega,_,_,_,_,by omega,by omega,hi2,rfl⟩⟩
   obtain⟨g1,g2⟩:=KnI.brk hk hi2 (by omega)
   exact drest_q hus hvs hn hvl hN hul hbig hU g1 hi2.hi (KnI.stop hk hi2 g1 g2)
  ·have c2 : ¬ (q:Int)<(p:Int):=by omega
   simp(disch:=omega) only[go_sem,Nat.reduceAdd,v134l0,dH,hvl,hN,u32,wr,w64,i2,i4,shl32,c1,c2,e0,o2]
   refine⟨⟨by omega,by omega⟩,⟨by omega,by omega⟩,by omega, ?_⟩
   exact drest_q hus hvs hn hvl hN hul hbig hU (by omega) hi.hi (KnI.stop hk hi (by omega) (by omega))
open Go.Dm
def len8:List UInt8:=[0,1,2,2,3,3,3,3,4,4,4,4,4,4,4,4,5,5,5,5,5,5,5,5,5,5,5,5,5,5,5,5,6,6,6,6,6,6,6,6,6,6,6,6,6,6,6,6,6,6,6,6,6,6,6,6,6,6,6,6,6,6,6,6,7,7,7,7,7,7,7,7,7,7,7,7,7,7,7,7,7,7,7,7,7,7,7,7,7,7,7,7,7,7,7,7,7,7,7,7,7,7,7,7,7,7,7,7,7,7,7,7,7,7,7,7,7,7,7,7,7,7,7,7,7,7,7,7,8,8,8,8,8,8,8,8,8,8,8,8,8,8,8,8,8,8,8,8,8,8,8,8,8,8,8,8,8,8,8,8,8,8,8,8,8,8,8,8,8,8,8,8,8,8,8,8,8,8,8,8,8,8,8,8,8,8,8,8,8,8,8,8,8,8,8,8,8,8,8,8,8,8,8,8,8,8,8,8,8,8,8,8,8,8,8,8,8,8,8,8,8,8,8,8,8,8,8,8,8,8,8,8,8,8,8,8,8,8,8,8,8,8,8,8,8,8,8,8,8,8,8,8,8,8,8,8]
theorem len8_eq:([0,1,2,2,3,3,3,3,4,4,4,4,4,4,4,4,5,5,5,5,5,5,5,5,5,5,5,5,5,5,5,5,6,6,6,6,6,6,6,6,6,6,6,6,6,6,6,6,6,6,6,6,6,6,6,6,6,6,6,6,6,6,6,6,7,7,7,7,7,7,7,7,7,7,7,7,7,7,7,7,7,7,7,7,7,7,7,7,7,7,7,7,7,7,7,7,7,7,7,7,7,7,7,7,7,7,7,7,7,7,7,7,7,7,7,7,7,7,7,7,7,7,7,7,7,7,7,7,8,8,8,8,8,8,8,8,8,8,8,8,8,8,8,8,8,8,8,8,8,8,8,8,8,8,8,8,8,8,8,8,8,8,8,8,8,8,8,8,8,8,8,8,8,8,8,8,8,8,8,8,8,8,8,8,8,8,8,8,8,8,8,8,8,8,8,8,8,8,8,8,8,8,8,8,8,8,8,8,8,8,8,8,8,8,8,8,8,8,8,8,8,8,8,8,8,8,8,8,8,8,8,8,8,8,8,8,8,8,8,8,8,8,8,8,8,8,8,8,8,8,8,8,8,8,8,8]:List UInt8)=len8:=rfl
theorem len8_ok : ∀ x:Fin 256,x.val<2 ^ len8[x.val]!.toNat /\ (x.val≠0 -> 2 ^ len8[x.val]!.toNat <= 2*x.val) /\ len8[x.val]!.toNat <= 8:=by decide +kernel
theorem len8_l:len8.length=256:=by decide +kernel
set_option maxRecDepth 100000 in
theorem len32_q {x:Nat} (hx:x<4294967296) (h0:x≠0) : ∃ n:Nat,PRet VS 158 [.i .u32 (x:Int)] (.i .i64 (n:Int)) /\ x<2 ^ n /\ 2 ^ n <= 2*x /\ n <= 32:=by
 have b1 : ∀ y:Nat,bin .shr (.i .u32 (y:Int)) (.i .u64 16)=some (.i .u32 ((y/65536:Nat):Int)):=fun y=>bin_shrN (s:=16) (by decide)
 have b2 : ∀ y:Nat,bin .shr (.i .u32 (y:Int)) (.i .u64 8)=some (.i .u32 ((y/256:Nat):Int)):=fun y=>bin_shrN (s:=8) (by decide)
 have key : ∀ (y s:Nat),y<256 -> y≠0 -> s <= 24 -> y=x/2 ^ s -> x<2 ^ (s+len8[y]!.toNat) /\ 2 ^ (s+len8[y]!.toNat) <= 2*x /\ s+len8[y]!.toNat <= 32:=fun y s hy h1 hs he=>by
  obtain⟨g1,g2,g3⟩:=len8_ok ⟨y,hy⟩
  simp only at g1 g2 g3
  have hp:0<2 ^ s:=Nat.pow_pos (by omega)
  have e1:=Nat.div_add_mod x (2 ^ s)
  have e2:=Nat.mod_lt x hp
  rw[<- he]at e1
  have e3:=Nat.mul_le_mul_left (2 ^ s) (g2 h1)
  have e4:2 ^ s*(y+1) <= 2 ^ s*2 ^ len8[y]!.toNat:=Nat.mul_le_mul_left _ g1
  rw[Nat.pow_add]
  refine⟨by grind,by grind,by omega⟩
 have e8 : ∀ y:Nat,y<256 -> IntKind.u8.wrap (y:Int)=(y:Int):=fun y h=>w8 h
 by_cases c1:65536 <= x
 ·have d1:(65536:Int) <= (x:Int):=by omega
  by_cases c2:256 <= x/65536
  ·have d2:(256:Int) <= ((x/65536:Nat):Int):=by omega
   obtain⟨g1,g2,g3⟩:=key (x/65536/256) 24 (by omega) (by omega) (by omega) (by omega)
   refine⟨_, ?_,g1,g2,g3⟩
   have e9:=e8 (x/65536/256) (by omega)
   refine .body (vf:=v158) fn158 rfl ?_
   simp(disch:=omega) only[go_sem,Nat.reduceSub,Int.reduceAdd,v158,b1,b2,d1,d2,e9,len8_eq,len8_l]
   refine⟨⟨by omega,by omega⟩, ?_⟩
   simp(disch:=omega) only[wr]
  ·have d2 : ¬ (256:Int) <= ((x/65536:Nat):Int):=by omega
   obtain⟨g1,g2,g3⟩:=key (x/65536) 16 (by omega) (by omega) (by omega) (by omega)
   refine⟨_, ?_,g1,g2,g3⟩
   have e9:=e8 (x/65536) (by omega)
   refine .body (vf:=v158) fn158 rfl ?_
   simp(disch:=omega) only[go_sem,Nat.reduceSub,v158,b1,d1,d2,e9,len8_eq,len8_l]
   refine⟨⟨by omega,by omega⟩, ?_⟩
   simp(disch:=omega) only[wr]
 ·have d1 : ¬ (65536:Int) <= (x:Int):=by omega
  by_cases c2:256 <= x
  ·have d2:(256:Int) <= (x:Int):=by omega
   obtain⟨g1,g2,g3⟩:=key (x/256) 8 (by omega) (by omega) (by omega) (by omega)
   refine⟨_, ?_,g1,g2,g3⟩
   have e9:=e8 (x/256) (by omega)
   refine .body (vf:=v158) fn158 rfl ?_
   simp(disch:=omega) only[go_sem,Nat.reduceSub,v158,b2,d1,d2,e9,len8_eq,len8_l]
   refine⟨⟨by omega,by omega⟩, ?_⟩
   simp(disch:=omega) only[wr]
  ·have d2 : ¬ (256:Int) <= (x:Int):=by omega
   obtain⟨g1,g2,g3⟩:=key (x) 0 (by omega) (by omega) (by omega) (by omega)
   refine⟨_, ?_,g1,g2,g3⟩
   have e9:=e8 (x) (by omega)
   refine .body (vf:=v158) fn158 rfl ?_
   simp(disch:=omega) only[go_sem,Nat.reduceSub,v158,d1,d2,e9,len8_eq,len8_l]
   refine⟨⟨by omega,by omega⟩, ?_⟩
   simp(disch:=omega) only[wr]
theorem lz_q {x:Nat} (hx:x<4294967296) (h0:x≠0) : ∃ s:Nat,PRet VS 132 [.i .u32 (x:Int)] (.i .i64 (s:Int)) /\ s<32 /\ 2147483648 <= x*2 ^ s /\ x*2 ^ s<4294967296:=by
 obtain⟨n,hn,g1,g2,g3⟩:=len32_q hx h0
 have hn1:1 <= n:=by
  rcases n with _|n
  ·rw[Nat.pow_zero]at g1;omega
  ·omega
 have e:(2:Nat) ^ n*2 ^ (32-n)=4294967296:=by rw[<- Nat.pow_add,show n+(32-n)=32 by omega]
 have hp:0<2 ^ (32-n):=Nat.pow_pos (by omega)
 have e1:=Nat.mul_le_mul_right (2 ^ (32-n)) g2
 have e2:=Nat.mul_le_mul_right (2 ^ (32-n)) g1
 have e3:2*x*2 ^ (32-n)=2*(x*2 ^ (32-n)):=by grind
 have e4:x.succ*2 ^ (32-n)=x*2 ^ (32-n)+2 ^ (32-n):=Nat.succ_mul ..
 refine⟨32-n, ?_,by omega,by omega,by omega⟩
 have ec:=fun{H K}=>hn.c (H:=H) (K:=K) fn158 rfl rfl (.inl rfl)
 have e5:(32:Int)-(n:Int)=((32-n:Nat):Int):=by omega
 refine .body (vf:=v132) fn132 rfl ?_
 simp(disch:=omega) only[go_sem,Nat.reduceSub,v132,ec,wr,e5]
structure ShfI (l:List Nat) (x:D) (s:Nat) (i:Nat) (st:St):Prop where
 h : ∃ ws a3 a7 a9 a10,ws.length=l.length+1 /\ lm 4294967296 ws /\ vl 4294967296 ws=vl 4294967296 (l.take i)*2 ^ s /\
  st=⟨[x,.i .i64 (s:Int),.nil,a3,.i .i64 i,.i .i64 l.length,x,a7,.mu 0 (l.length+1) 0 (l.length+1),a9,a10],[.ar 1 (ws.map u32) (some (l.length+1)) true false]⟩
theorem shifted_q {l:List Nat} {x:D} {s:Nat} (h1:Sl 1 (l.map u32) x) (hm:lm 4294967296 l) (hn:l.length<1000000000) (hs:s<32) : ∃ ws,ws.length=l.length+1 /\ lm 4294967296 ws /\ vl 4294967296 ws=vl 4294967296 l*2 ^ s /\ PRet VS 133 [x,.i .i64 (s:Int)] (.ow 1 (ws.map u32)):=by
 obtain⟨D0,hD,ws,h2,h3,h4,h5⟩ : ∃ D0,PRet VS 133 [x,.i .i64 (s:Int)] D0 /\ ∃ ws,ws.length=l.length+1 /\ lm 4294967296 ws /\ vl 4294967296 ws=vl 4294967296 l*2 ^ s /\ D0 = .ow 1 (ws.map u32):=by
  refine PurQ.ex (.body (vf:=v133) fn133 rfl ?_)
  simp(disch:=omega) only[go_sem,Nat.reduceSub,v133,h1.n,wr,rep32]
  refine⟨⟨⟨by omega,by omega⟩,by omega,by omega⟩,Run.up (ShfI l x s) l.length ⟨_,_,_,_,_,by simp,lm_rep (by omega),by rw[vl_rep];simp[vl],rfl⟩ ?_⟩
  rintro i st hi ⟨ws,a3,a7,a9,a10,hwl,hwm,hv,rfl⟩
  by_cases hlt:i<l.length
  ·have c1:(i:Int)<(l.length:Int):=by omega
   have hd:l[i]! < 4294967296:=lm_get hm hlt
   have hp:0<2 ^ s:=Nat.pow_pos (by omega)
   have hp2:2 ^ (32-s)*2 ^ s=4294967296:=by rw[<- Nat.pow_add,show 32-s+s=32 by omega]
   have hps:2 ^ s <= 2 ^ 31:=Nat.pow_le_pow_right (by omega) (by omega)
   have hw0:vl 4294967296 ws<4294967296 ^ i*2 ^ s:=by
    rw[hv]
    have g:=vl_lt h32 (lm_take hm i)
    rw[List.length_take,Nat.min_eq_left hi]at g
    exact Nat.mul_lt_mul_of_pos_right g hp
   have za:=vl_dig h32 hw0 (by omega)
   have zb:ws[i+1]! = 0:=by
    have:vl 4294967296 ws<4294967296 ^ (i+1)*1:=by
     refine Nat.lt_of_lt_of_le hw0 ?_
     rw[Nat.pow_succ,Nat.mul_one]
     exact Nat.mul_le_mul_left _ (by omega)
    have:=vl_dig h32 this (by omega)
    omega
   have hwd:l[i]! * 2 ^ s <= 4294967295*2147483648:=Nat.mul_le_mul (by omega) hps
   obtain⟨wd,hwd'⟩ : ∃ wd,wd=l[i]! * 2 ^ s:=⟨_,rfl⟩
   have e1:bin .shl (.i .u64 (l[i]! : Int)) (.i .i64 (s:Int))=some (.i .u64 (wd:Int)):=by
    rw[bin_shlN (by show s<64;omega),w64 (by omega),hwd']
   have e2:bin .shr (.i .u64 (wd:Int)) (.i .u64 32)=some (.i .u64 ((wd/4294967296:Nat):Int)):=bin_shrN (s:=32) (by decide)
   have hlo:wd%4294967296=(l[i]! % 2 ^ (32-s))*2 ^ s:=by rw[hwd', <- hp2,Nat.mul_mod_mul_right]
   have hlo2:wd%4294967296+2 ^ s <= 4294967296:=by
    have:=Nat.mod_lt l[i]! (show 0<2 ^ (32-s)from Nat.pow_pos (by omega))
    have:=Nat.mul_le_mul_right (2 ^ s) this
    rw[Nat.succ_mul,hp2]at this
    omega
   have e3:bin .or (.i .u32 (ws[i]! : Int)) (.i .u32 ((wd%4294967296:Nat):Int))=some (.i .u32 ((ws[i]! + wd%4294967296:Nat):Int)):=by
    rw[bin_or32 (by omega) (by omega),hlo,or_shl za]
   obtain⟨v1,hv1⟩ : ∃ v1,v1=ws[i]! + wd%4294967296:=⟨_,rfl⟩
   rw[<- hv1]at e3
   simp(disch:=omega) only[go_sem,v133l0,h1.q,c1,u32,wr,hwl,w64,e1,e2,e3,w32m,set32]
   repeat' first|(refine And.intro ?_ ?_)|intro _
   all_goals try omega
   refine⟨(ws.set i v1).set (i+1) (wd/4294967296%4294967296),_,_,_,_,by simp[hwl],lm_set (lm_set hwm (by omega)) (by omega), ?_,rfl⟩
   have g1:=vl_set (B:=4294967296) (l:=ws) (i:=i) (v:=v1) (by omega)
   have g2:=vl_set (B:=4294967296) (l:=ws.set i v1) (i:=i+1) (v:=wd/4294967296%4294967296) (by rw[List.length_set];omega)
   have g3:(ws.set i v1)[i+1]! = ws[i+1]! := by
    rw[getElem!_pos _ _ (by rw[List.length_set];omega),getElem!_pos _ _ (by omega),List.getElem_set_ne (by omega)]
   rw[g3,zb,Nat.pow_succ]at g2
   rw[vl_take_succ hlt,Nat.add_mul, <- hv]
   have g4:=Nat.mod_add_div wd 4294967296
   have g5:wd/4294967296%4294967296=wd/4294967296:=by omega
   rw[g5]at g2 ⊢
   grind
  ·have hil:i=l.length:=by omega
   subst hil
   rw[List.take_of_length_le (Nat.le_refl _)]at hv
   have htk:(ws.map u32).take (l.length+1)=ws.map u32:=List.take_of_length_le (by rw[List.length_map];omega)
   simp(disch:=omega) only[go_sem,v133l0,Int.lt_irrefl,settleC,hwl,htk]
   exact⟨ws,hwl,hwm,hv,rfl⟩
 exact⟨ws,h2,h3,h4,h5▸hD⟩
end Go.Proofs.YtgefdialaemelaaGreatDoor.Dv
