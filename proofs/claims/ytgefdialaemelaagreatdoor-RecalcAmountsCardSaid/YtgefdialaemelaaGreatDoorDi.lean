/-
  Slices,strings,maps,loops over functions in runs.
-/
import Derived.Test.YtgefdialaemelaaGreatDoorDh
import Derived.Test.YtgefdialaemelaaGreatDoorDf
import Derived.IntWalk
namespace Go.Dm
@[go_sem] theorem flat_b {x:Bool}:(D.b x).flat=true:=rfl
@[go_sem] theorem flat_i {k:IntKind} {x:Int}:(D.i k x).flat=true:=rfl
@[go_sem] theorem flat_s {x:List UInt8}:(D.s x).flat=true:=rfl
@[go_sem] theorem flat_nil:D.nil.flat=true:=rfl
@[go_sem] theorem flat_z:D.z.flat=true:=rfl
@[go_sem] theorem flat_im {w:Nat} {r:List (List D)}:(D.im w r).flat=true:=rfl
@[go_sem] theorem flat_np:D.np.flat=true:=rfl
@[go_sem] theorem flat_mnil:D.mnil.flat=true:=rfl
@[go_sem] theorem flat_nf:D.nf.flat=true:=rfl
@[go_sem] theorem flat_ni:D.ni.flat=true:=rfl
theorem Sl.flat {w:Nat} {rows:List (List D)} {x:D} (h:Sl w rows x):x.flat=true:=by cases h<;>rfl
theorem flat_freeze {d:D} (h:d.flat=true) (m:Nat) (H:Heap):freeze (m+1) H d=some (d,H):=by
 cases d<;>first|rfl|(cases h;done)|skip
 rename_i f a b
 cases a with
 | cons=>cases h
 | nil =>
  cases b with
  | cons=>cases h
  | nil=>rfl
theorem flat_freezeL (m:Nat) (H:Heap) : ∀ {ds:List D},(∀ d∈ds,d.flat=true) -> freezeL (m+2) H ds=some (ds,H)
 | [],_=>freezeL_nil _ _
 | d::ds,h=>by rw[freezeL_cons,flat_freeze (h d List.mem_cons_self)];simp only;rw[flat_freezeL m H (fun e he=>h e (List.mem_cons_of_mem _ he))]
theorem flat_freezeLL (m:Nat) (H:Heap) : ∀ {rs:List (List D)},(∀ r∈rs, ∀ d∈r,d.flat=true) -> freezeLL (m+3) H rs=some (rs,H)
 | [],_=>freezeLL_nil _ _
 | r::rs,h=>by rw[freezeLL_cons,flat_freezeL m H (h r List.mem_cons_self)];simp only;rw[flat_freezeLL m H (fun e he=>h e (List.mem_cons_of_mem _ he))]
theorem flat_freezeRows (H:Heap) {rs:List (List D)} (h : ∀ r∈rs, ∀ d∈r,d.flat=true):freezeRows H rs=some (rs,H):=flat_freezeLL 9 H h
def fzA (m:Nat) (ds:List D):Option (D×Heap) -> Option (List D×Heap)
 | some (d',H')=>match freezeL (m+1) H' ds with
   | some (ds',H'')=>some (d'::ds',H'')
   | none=>none
 | none=>none
def fzB (d':D):Option (List D×Heap) -> Option (List D×Heap)
 | some (ds',H'')=>some (d'::ds',H'')
 | none=>none
section
variable {H:Heap}
@[go_sem] theorem deep_eq:deep=12:=rfl
@[go_sem] theorem fz_nil {m:Nat}:freezeL m H []=some ([],H):=freezeL_nil _ _
@[go_sem] theorem fz_cons {m:Nat} {d:D} {ds:List D}:freezeL (m+1) H (d::ds)=fzA m ds (freeze m H d):=by
 rw[freezeL_cons]
 cases freeze m H d with
 | none=>rfl
 | some q=>rfl
@[go_sem] theorem fzA_s {m:Nat} {d':D} {ds:List D}:fzA m ds (some (d',H))=fzB d' (freezeL (m+1) H ds):=by
 simp only[fzA]
 cases freezeL (m+1) H ds<;>rfl
@[go_sem] theorem fzB_s {d':D} {ds:List D}:fzB d' (some (ds,H))=some (d'::ds,H):=rfl
@[go_sem] theorem fz_b {m:Nat} {x:Bool}:freeze (m+1) H (.b x)=some ((.b x),H):=rfl
@[go_sem] theorem fz_i {m:Nat} {k:IntKind} {x:Int}:freeze (m+1) H (.i k x)=some ((.i k x),H):=rfl
@[go_sem] theorem fz_s {m:Nat} {x:List UInt8}:freeze (m+1) H (.s x)=some ((.s x),H):=rfl
@[go_sem] theorem fz_nl {m:Nat}  : freeze (m+1) H .nil=some (.nil,H):=rfl
@[go_sem] theorem fz_z {m:Nat}  : freeze (m+1) H .z=some (.z,H):=rfl
@[go_sem] theorem fz_im {m:Nat} {w:Nat} {r:List (List D)}:freeze (m+1) H (.im w r)=some ((.im w r),H):=rfl
@[go_sem] theorem fz_np {m:Nat}  : freeze (m+1) H .np=some (.np,H):=rfl
@[go_sem] theorem fz_mnil {m:Nat}  : freeze (m+1) H .mnil=some (.mnil,H):=rfl
@[go_sem] theorem fz_nf {m:Nat}  : freeze (m+1) H .nf=some (.nf,H):=rfl
@[go_sem] theorem fz_ni {m:Nat}  : freeze (m+1) H .ni=some (.ni,H):=rfl
@[go_sem] theorem fz_fn {m:Nat} {f:Fn}:freeze (m+1) H (.fn f [] [])=some (.fn f [] [],H):=rfl
def fzG:Option (List D×Heap) -> Option (D×Heap)
 | some (ds,H)=>some (.ag ds,H)
 | none=>none
@[go_sem] theorem fz_ag {m:Nat} {cs:List D}:freeze (m+1) H (.ag cs)=fzG (freezeL m H cs):=by
 rw[freeze_succ];simp only;cases freezeL m H cs<;>rfl
@[go_sem] theorem fzG_s {ds:List D}:fzG (some (ds,H))=some (.ag ds,H):=rfl
def fzM (H:Heap) (a off len:Nat):Option (Nat×List (List D)×Option Nat×Bool×Bool) -> Option (D×Heap)
 | some (w,rows,cap,true,_)=>if off+len <= rows.length then some (.im w ((rows.drop off).take len),H.set a (.ar w rows cap true true))else none
 | _=>none
@[go_sem] theorem fz_mu {m a n off len:Nat}:freeze (m+1) H (.mu a n off len)=fzM H a off len (arr H a n):=by
 rw[freeze_succ];simp only
 cases h:arr H a n with
 | none=>rfl
 | some q =>
  obtain⟨w,rows,cap,p,lk⟩:=q
  have:=(arr_eq h).2
  cases p<;>simp[fzM,this]
@[go_sem] theorem fzM_s {a off len w:Nat} {rows:List (List D)} {cap:Option Nat} {lk:Bool}:fzM H a off len (some (w,rows,cap,true,lk))=if off+len <= rows.length then some (.im w ((rows.drop off).take len),H.set a (.ar w rows cap true true))else none:=rfl
def frzO:Option (D×Heap) -> Option D
 | some (d,_)=>some d
 | none=>none
def frzT:Option (List D×Heap) -> Option D
 | some (ds,_)=>some (.tu ds)
 | none=>none
theorem frz1_eq {d:D}:frz1 H d=frzO (freeze 12 H d):=by
 show frz1 H d=frzO (freeze deep H d)
 unfold frz1;cases freeze deep H d<;>rfl
@[go_sem] theorem frzO_s {d:D}:frzO (some (d,H))=some d:=rfl
@[go_sem] theorem frzT_s {d:List D}:frzT (some (d,H))=some (.tu d):=rfl
@[go_sem] theorem frzR_tu {ds:List D}:frzR H (.tu ds)=frzT (freezeL 12 H ds):=by
 show frzR H (.tu ds)=frzT (freezeL deep H ds)
 simp only[frzR];cases freezeL deep H ds<;>rfl
theorem frzR_flat {d:D} (h:d.flat=true):frzR H d=some d:=by
 have:frzR H d=frz1 H d:=by cases d<;>first|rfl|cases h
 rw[this,frz1_eq,flat_freeze h];rfl
@[go_sem] theorem frzR_b {x:Bool}:frzR H (.b x)=some (.b x):=rfl
@[go_sem] theorem frzR_i {k:IntKind} {x:Int}:frzR H (.i k x)=some (.i k x):=rfl
@[go_sem] theorem frzR_s {x:List UInt8}:frzR H (.s x)=some (.s x):=rfl
@[go_sem] theorem frzR_nil  : frzR H .nil=some .nil:=rfl
@[go_sem] theorem frzR_z  : frzR H .z=some .z:=rfl
@[go_sem] theorem frzR_im {w:Nat} {r:List (List D)}:frzR H (.im w r)=some (.im w r):=rfl
@[go_sem] theorem frzR_np  : frzR H .np=some .np:=rfl
@[go_sem] theorem frzR_mnil  : frzR H .mnil=some .mnil:=rfl
@[go_sem] theorem frzR_nf  : frzR H .nf=some .nf:=rfl
@[go_sem] theorem frzR_ni  : frzR H .ni=some .ni:=rfl
@[go_sem] theorem frzR_ag {cs:List D}:frzR H (.ag cs)=frzO (freeze 12 H (.ag cs)):=frz1_eq
@[go_sem] theorem frzR_mu {a n off len:Nat}:frzR H (.mu a n off len)=frzO (freeze 12 H (.mu a n off len)):=frz1_eq
def fzI (t:TypeId):Option (D×Heap) -> Option (D×Heap)
 | some (d,H)=>some (.ifc t d,H)
 | none=>none
@[go_sem] theorem fzI_s {t:TypeId} {d:D}:fzI t (some (d,H))=some (.ifc t d,H):=rfl
@[go_sem] theorem settleO_f {d:D}:settleO false H d=frzR H d:=rfl
@[go_sem] theorem settleO_t {d:D}:settleO true H d=if apart (mus d)then settle H d else none:=rfl
@[go_sem] theorem placeO_f {d:D}:placeO false d H=(d,H):=rfl
@[go_sem] theorem placeO_t {d:D}:placeO true d H=place d H:=rfl
theorem place_flat {d:D} (h:d.flat=true):place d H=(d,H):=by
 cases d<;>first|rfl|(cases h;done)
end
section
variable {V:VProg} {H:Heap} {f:FuncId} {vf:VFunc} {K:CR -> Prop}
theorem CallQ_p (hf:V.fn f=some vf) (hp:vf.pure=true) {args ds:List D} {H1:Heap} {d:D} (h:PRet V f ds d) (hfr:freezeL deep H args=some (ds,H1)) (hq:vf.fre=false:=by first|rfl|assumption):CallQ V f args H K↔K (.ret (placeO vf.own d H1).1 (placeO vf.own d H1).2) :=
 CallQ_ret (Ret.pure hf hp hfr h hq)
def D.plain:D -> Bool
 | .ag ds=>ds.all D.flat
 | d=>d.flat
theorem Sl.pl {w:Nat} {rows:List (List D)} {x:D} (h:Sl w rows x):x.plain=true:=by cases h<;>rfl
@[go_sem] theorem plain_b {x:Bool}:(D.b x).plain=true:=rfl
@[go_sem] theorem plain_i {k:IntKind} {x:Int}:(D.i k x).plain=true:=rfl
@[go_sem] theorem plain_s {x:List UInt8}:(D.s x).plain=true:=rfl
@[go_sem] theorem plain_nil:D.nil.plain=true:=rfl
@[go_sem] theorem plain_ag {l:List D}:(D.ag l).plain=l.all D.flat:=rfl
theorem plain_freeze {d:D} (h:d.plain=true) (m:Nat) (H:Heap):freeze (m+6) H d=some (d,H):=by
 cases d
 case ag ds =>
  have hh : ∀ d∈ds,d.flat=true:=by simpa [D.plain]using h
  rw[freeze_succ]
  simp only[flat_freezeL (m+3) H hh]
 all_goals exact flat_freeze (by simpa only[D.plain]using h) (m+5) H
theorem plain_freezeL {H:Heap} : ∀ {ds:List D},(∀ d∈ds,d.plain=true) -> freezeL deep H ds=some (ds,H)
 | [],_=>freezeL_nil _ _
 | d::ds,h=>by
  have e1:freeze 11 H d=some (d,H):=plain_freeze (h d List.mem_cons_self) 5 H
  have e2:freezeL 12 H ds=some (ds,H):=plain_freezeL fun e he=>h e (List.mem_cons_of_mem _ he)
  show freezeL 12 H (d::ds)=_
  rw[freezeL_cons,e1];simp only;rw[e2]
theorem PRet.c {ds:List D} {d:D} (h:PRet V f ds d) (hf:V.fn f=some vf) (hp:vf.pure=true) (ha:ds.all D.plain=true) (ho:vf.own=false \/ d.flat=true):CallQ V f ds H K↔K (.ret d H):=by
 rw[CallQ_ret (Ret.pure0 hf hp (plain_freezeL (by simpa using ha)) h),backH_same]
 rcases ho with ho|ho
 ·rw[ho];rfl
 ·cases hw:vf.own with
  | false=>rfl
  | true=>simp only[placeO,place_flat ho]
end
theorem wr {x:Int} (h1 : -9223372036854775808 <= x) (h2:x<9223372036854775808):IntKind.i64.wrap x=x:=IntWalk.i64_in _ (by omega)
@[go_sem] theorem tn_sub1 {i:Nat}:((i:Int)-1).toNat=i-1:=by omega
@[go_sem] theorem tn_add1 {i:Nat}:((i:Int)+1).toNat=i+1:=by omega
@[go_sem] theorem tn_add {i j:Nat}:((i:Int)+j).toNat=i+j:=by omega
attribute [go_sem] Int.toNat_natCast Int.toNat_zero Int.toNat_one Int.natCast_add List.length_map List.length_append List.length_set List.length_replicate List.length_singleton Int.sub_zero Int.add_zero Int.zero_add Nat.sub_zero St.mk.injEq List.cons.injEq D.i.injEq D.b.injEq D.s.injEq D.ag.injEq D.bx.injEq D.mu.injEq D.im.injEq CR.ret.injEq PR.ret.injEq true_and and_true exists_eq_left exists_eq_right exists_eq_left' exists_eq_right' exists_eq exists_eq' exists_and_left exists_and_right
section
variable {V:VProg} {Q:Ex -> St -> Prop} {dr:Option (Bs×Bool)} {os:List VOper} {keep:Option Nat} {loc sl sl':List D} {H H':Heap} {w:Nat} {α:Type} [Inhabited α] {enc:α -> List D} {l:List α} {d:D} {k:IntKind} {x:Int}
theorem Sl.q (h:Sl w (l.map enc) d):AfterQ V dr os keep loc sl Q (ofO ⟨sl',H⟩ (iadD H' d (.i k x) w))↔(0 <= x /\ x<l.length) /\ AfterQ V dr os keep loc sl Q (.v (.ip (enc l[x.toNat]!)) ⟨sl',H⟩):=by
 have hno : ∀ {d},iadD H' d (.i k x) w=none -> ¬ (0 <= x /\ x<l.length) -> (AfterQ V dr os keep loc sl Q (ofO ⟨sl',H⟩ (iadD H' d (.i k x) w))↔(0 <= x /\ x<l.length) /\ AfterQ V dr os keep loc sl Q (.v (.ip (enc l[x.toNat]!)) ⟨sl',H⟩)):=fun{d} e hn=>by
  rw[e]
  exact⟨fun h=>h.elim,fun h=>(hn h.1).elim⟩
 cases h with
 | nil h =>
  have:l=[]:=by simpa using h
  subst this
  exact hno rfl (by simp)
 | z h =>
  have:l=[]:=by simpa using h
  subst this
  exact hno rfl (by simp)
 | im =>
  by_cases hx:0 <= x /\ x<l.length
  ·have hlt:x.toNat<l.length:=by omega
   have e:iadD H' (.im w (l.map enc)) (.i k x) w=some (.ip (enc l[x.toNat]!)):=by
    simp only[iadD,ixOf,List.length_map,hx,and_self,if_true]
    simp[hlt,getElem!_pos]
   rw[e,ofO_some]
   exact⟨fun h=>⟨hx,h⟩,fun h=>h.2⟩
  ·refine hno ?_ hx
   simp only[iadD,ixOf,List.length_map,hx,if_false]
omit [Inhabited α]in
theorem Sl.n (h:Sl w (l.map enc) d):lenD H 1 d=some (.i .i64 l.length):=by rw[h.len,List.length_map]
theorem Sl.c1 {rows:List (List D)} (h:Sl w rows d):d.cellsN 1=some [d]:=by cases h<;>rfl
end
def arrB (n:Nat):Option Blk -> Option (Nat×List (List D)×Option Nat×Bool×Bool)
 | some (.ar w rows cap p lk)=>if rows.length=n then some (w,rows,cap,p,lk)else none
 | _=>none
@[go_sem] theorem arr_g {H:Heap} {a n:Nat}:arr H a n=arrB n H[a]?:=by
 simp only[arr,arrB];rfl
@[go_sem] theorem arrB_s {n w:Nat} {rows:List (List D)} {cap:Option Nat} {p lk:Bool}:arrB n (some (.ar w rows cap p lk))=if rows.length=n then some (w,rows,cap,p,lk)else none:=rfl
def iadM (a n off len w:Nat) (ix:D):Option (Nat×List (List D)×Option Nat×Bool×Bool) -> Option D
 | some (w',_,_,_,_)=>match ixOf ix len with
   | some j=>if w'=w then some (.ap a n (off+j) 0)else none
   | none=>none
 | none=>none
@[go_sem] theorem iad_mu {H:Heap} {a n off len w:Nat} {ix:D}:iadD H (.mu a n off len) ix w=iadM a n off len w ix (arr H a n):=by
 simp only[iadD,iadM]
 cases arr H a n with
 | none=>rfl
 | some q=>rfl
def ldM (off k:Nat) (i:Nat):Option (Nat×List (List D)×Option Nat×Bool×Bool) -> Option (List D)
 | some (_,rows,_,_,_)=>match rows[i]? with
   | some r=>cut r off k
   | none=>none
 | none=>none
def rowL (off k:Nat):Option (List D) -> Option (List D)
 | some r=>cut r off k
 | none=>none
@[go_sem] theorem ld_ap {H:Heap} {a n i off k:Nat}:ldAt H (.ap a n i off) k=ldM off k i (arr H a n):=by
 simp only[ldAt,ldM]
 cases arr H a n with
 | none=>rfl
 | some q=>rfl
@[go_sem] theorem ldM_s {off k i w:Nat} {rows:List (List D)} {cap:Option Nat} {p lk:Bool}:ldM off k i (some (w,rows,cap,p,lk))=rowL off k rows[i]?:=by
 simp only[ldM];cases rows[i]?<;>rfl
@[go_sem] theorem rowL_s {off k:Nat} {r:List D}:rowL off k (some r)=cut r off k:=rfl
def stM (H:Heap) (a n i off:Nat) (vs:List D):Option (Nat×List (List D)×Option Nat×Bool×Bool) -> Option Heap
 | some (w,rows,cap,true,lk)=>match freezeL deep H vs with
   | some (vs',H')=>match arr H' a n with
    | some (_,_,_,true,_)=>putRow H' a n i off vs'
    | _=>none
   | none=>none
 | some (_,_,_,false,_)=>putRow H a n i off vs
 | none=>none
theorem st_ap {H:Heap} {a n i off:Nat} {vs:List D}:stAt H (.ap a n i off) vs=stM H a n i off vs (arr H a n):=by
 simp only[stAt,stM]
 cases arr H a n with
 | none=>rfl
 | some q =>
  obtain⟨w,rows,cap,p,lk⟩:=q
  cases p<;>rfl
def putM (H:Heap) (a w:Nat) (rows:List (List D)) (i off:Nat) (vs:List D) (cap:Option Nat) (p:Bool):Option (List D) -> Option Heap
 | some r=>match put r off vs with
   | some r'=>some (H.set a (.ar w (rows.set i r') cap p false))
   | none=>none
 | none=>none
def putN (H:Heap) (a w:Nat) (rows:List (List D)) (i:Nat) (cap:Option Nat) (p:Bool):Option (List D) -> Option Heap
 | some r'=>some (H.set a (.ar w (rows.set i r') cap p false))
 | none=>none
theorem putRow_eq {H:Heap} {a n i off w:Nat} {rows:List (List D)} {cap:Option Nat} {p:Bool} {vs:List D} (h:arr H a n=some (w,rows,cap,p,false)):putRow H a n i off vs=putM H a w rows i off vs cap p rows[i]?:=by
 simp only[putRow,h,putM]
 cases rows[i]? with
 | none=>rfl
 | some r=>rfl
@[go_sem] theorem putM_s {H:Heap} {a w:Nat} {rows:List (List D)} {i off:Nat} {vs r:List D} {cap:Option Nat} {p:Bool}:putM H a w rows i off vs cap p (some r)=putN H a w rows i cap p (put r off vs):=by
 simp only[putM];cases put r off vs<;>rfl
@[go_sem] theorem putN_s {H:Heap} {a w:Nat} {rows:List (List D)} {i:Nat} {r:List D} {cap:Option Nat} {p:Bool}:putN H a w rows i cap p (some r)=some (H.set a (.ar w (rows.set i r) cap p false)):=rfl
theorem set_arr {H:Heap} {a n i off:Nat} {vs:List D} {w:Nat} {rows:List (List D)} {cap:Option Nat} {p:Bool} (hv:vs.all D.flat=true) (h:arr H a n=some (w,rows,cap,p,false)):stAt H (.ap a n i off) vs=putM H a w rows i off vs cap p rows[i]?:=by
 rw[st_ap,h]
 cases p with
 | false=>simp only[stM];exact putRow_eq h
 | true =>
  have hf:freezeL deep H vs=some (vs,H):=flat_freezeL 10 H (by simpa using hv)
  simp only[stM,hf,h]
  exact putRow_eq h
def stX:=stAt
def stA (H:Heap) (a n i off:Nat) (vs:List D):Option Blk -> Option Heap
 | some (.ar w rows cap p false)=>if rows.length=n then(if vs.all D.flat then putM H a w rows i off vs cap p rows[i]? else stX H (.ap a n i off) vs)else none
 | _=>stX H (.ap a n i off) vs
@[go_sem] theorem st_g {H:Heap} {a n i off:Nat} {vs:List D}:stAt H (.ap a n i off) vs=stA H a n i off vs H[a]?:=by
 cases h:H[a]? with
 | none=>rfl
 | some b =>
  cases b with
  | ar w rows cap p lk =>
   cases lk with
   | true=>rfl
   | false =>
    simp only[stA]
    split
    ·rename_i hn
     split
     ·rename_i hv
      exact set_arr hv (by simp[arr,h,hn])
     ·rfl
    ·rename_i hn
     simp[stAt,arr,h,hn]
  | _=>rfl
@[go_sem] theorem stA_s {H:Heap} {a n i off w:Nat} {vs:List D} {rows:List (List D)} {cap:Option Nat} {p:Bool}:stA H a n i off vs (some (.ar w rows cap p false))=if rows.length=n then(if vs.all D.flat then putM H a w rows i off vs cap p rows[i]? else stX H (.ap a n i off) vs)else none:=rfl
section
variable {V:VProg} {Q:Ex -> St -> Prop} {dr:Option (Bs×Bool)} {os:List VOper} {keep:Option Nat} {loc sl sl':List D} {H H':Heap} {w w':Nat} {α:Type} [Inhabited α] {enc:α -> List D} {l:List α} {d:D} {k:IntKind} {x:Int}
@[go_sem] theorem q_iadM {a n off len:Nat} {rows:List (List D)} {cap:Option Nat} {p lk:Bool}:AfterQ V dr os keep loc sl Q (ofO ⟨sl',H⟩ (iadM a n off len w (.i k x) (some (w,rows,cap,p,lk))))↔(0 <= x /\ x<len) /\ AfterQ V dr os keep loc sl Q (.v (.ap a n (off+x.toNat) 0) ⟨sl',H⟩):=by
 simp only[iadM,ixOf]
 by_cases hx:0 <= x /\ x<len
 ·simp[hx,ofO]
 ·simp[hx,ofO,AfterQ]
@[go_sem] theorem q_row {agg:Bool} {i off n:Nat}:AfterQ V dr os keep loc sl Q (ldR ⟨sl',H⟩ agg (rowL off n (l.map enc)[i]?))↔i<l.length /\ AfterQ V dr os keep loc sl Q (ldR ⟨sl',H⟩ agg (cut (enc l[i]!) off n)):=by
 by_cases hi:i<l.length
 ·simp[hi,rowL,getElem!_pos]
 ·simp[hi,rowL,ldR,AfterQ]
@[go_sem] theorem q_put {a i off:Nat} {vs:List D} {cap:Option Nat} {p:Bool}:AfterQ V dr os keep loc sl Q (ofH ⟨sl',H⟩ (putM H' a w (l.map enc) i off vs cap p (l.map enc)[i]?))↔i<l.length /\ AfterQ V dr os keep loc sl Q (ofH ⟨sl',H⟩ (putN H' a w (l.map enc) i cap p (put (enc l[i]!) off vs))):=by
 by_cases hi:i<l.length
 ·simp[hi,putM_s,getElem!_pos]
 ·simp[hi,putM,ofH,AfterQ]
end
def fillRK (rs:List (List D)) (w i:Nat) (ps:List (Nat×D)):Option (List D) -> Option (List (List D))
 | some vs=>if i<rs.length then fillR (rs.set i vs) w ps else none
 | none=>none
@[go_sem] theorem fr_nil {rs:List (List D)} {w:Nat}:fillR rs w []=some rs:=rfl
@[go_sem] theorem fr_cons {rs:List (List D)} {w i:Nat} {v:D} {ps:List (Nat×D)}:fillR rs w ((i,v)::ps)=fillRK rs w i ps (v.cellsN w):=by
 rw[fillR];cases v.cellsN w<;>rfl
@[go_sem] theorem frK_s {rs:List (List D)} {w i:Nat} {ps:List (Nat×D)} {vs:List D}:fillRK rs w i ps (some vs)=if i<rs.length then fillR (rs.set i vs) w ps else none:=rfl
def zz (zs:List D):Nat -> List (List D)
 | 0=>[]
 | n+1=>zs::zz zs n
theorem zz_eq (zs:List D) : ∀ n,List.replicate n zs=zz zs n
 | 0=>rfl
 | n+1=>by rw[List.replicate_succ,zz_eq zs n];rfl
@[go_sem] theorem zz_zero {zs:List D}:zz zs 0=[]:=rfl
@[go_sem] theorem zz_succ {zs:List D} {n:Nat}:zz zs (n+1)=zs::zz zs n:=rfl
@[go_sem] theorem bsv_zero {w:Nat} {zs:List D} {ps:List (Nat×D)}:bsvD w 0 zs ps=some .z:=rfl
@[go_sem] theorem bsv_succ {w n:Nat} {zs:List D} {ps:List (Nat×D)}:bsvD w (n+1) zs ps=(fillR (zz zs (n+1)) w ps).map fun rows => .sv w rows:=by rw[<- zz_eq];rfl
@[go_sem] theorem bsl_zero {H:Heap} {w:Nat} {zs:List D} {ps:List (Nat×D)} {p:Bool}:bslD H w 0 zs ps p=some (.z,H):=rfl
section
variable {V:VProg} {Q:Ex -> St -> Prop} {dr:Option (Bs×Bool)} {os:List VOper} {keep:Option Nat} {loc sl sl':List D} {H H':Heap}
@[go_sem] theorem q_mks {k k':IntKind} {x c:Int} {w bytes:Nat} {zs:List D} {p:Bool}:AfterQ V dr os keep loc sl Q (ofP ⟨sl',H'⟩ (mksD H (.i k x) (.i k' c) w bytes zs p))↔((0 <= c /\ c <= 140737488355328) /\ (0 <= x /\ x <= c) /\ c.toNat*bytes <= 140737488355328) /\ AfterQ V dr os keep loc sl Q (.v (.mu H.length c.toNat 0 x.toNat) ⟨sl',H++[.ar w (List.replicate c.toNat zs) (some c.toNat) p false]⟩):=by
 simp only[mksD,bdOf]
 by_cases hc:0 <= c /\ c <= 140737488355328
 ·rw [if_pos (by omega)]
  simp only
  by_cases hx:0 <= x /\ x <= c
  ·rw [if_pos (by omega)]
   simp only[room]
   by_cases hr:c.toNat*bytes <= 140737488355328
   ·have:c.toNat <= 140737488355328:=by omega
    simp only[hr,this,and_self,decide_true,if_true,ofP,hc,hx,true_and]
   ·simp[hr,ofP,AfterQ]
  ·rw[if_neg (by omega)]
   simp[ofP,AfterQ,hx]
 ·rw[if_neg (by omega)]
  simp[ofP,AfterQ,hc]
end
def bD (H0:Heap) (x0:D) (rows:List (List D)):D :=
 match rows with
 | []=>x0
 | _::_ => .mu H0.length rows.length 0 rows.length
def bH (H0:Heap) (w:Nat) (rows:List (List D)):Heap :=
 match rows with
 | []=>H0
 | _::_=>H0++[.ar w rows none true false]
def imD (x0:D) (w:Nat) (rows:List (List D)):D :=
 match rows with
 | []=>x0
 | _::_ => .im w rows
def x0ok (x0:D):Bool:=match x0 with
 | .nil | .z=>true
 | _=>false
@[go_sem] theorem x0ok_nil:x0ok .nil=true:=rfl
@[go_sem] theorem x0ok_z:x0ok .z=true:=rfl
theorem imD_sl {x0:D} (h0:x0ok x0=true) (w:Nat) (rows:List (List D)):Sl w rows (imD x0 w rows):=by
 cases rows with
 | nil=>cases x0<;>first|exact .nil rfl|exact .z rfl|cases h0
 | cons r rows=>exact .im
theorem room_ok {n b:Nat} (h:n*b <= 140737488355328) (hb:n <= 140737488355328):room n b=true:=by
 simp only[room,decide_eq_true_eq]
 exact⟨h,hb⟩
section
variable {H0:Heap} {x0:D} {w bytes:Nat} {rows:List (List D)} {r:List D}
theorem app_b (h0:x0ok x0=true) (hf:r.all D.flat=true) (hroom:room (rows.length+1) bytes=true) :
  appD (bH H0 w rows) (bD H0 x0 rows) (.sv w [r]) w bytes true=some (bD H0 x0 (rows++[r]),bH H0 w (rows++[r])):=by
 have hfr : ∀ H,freezeRows H [r]=some ([r],H):=fun H=>flat_freezeRows H (fun q hq=>by rw[List.mem_singleton.1 hq];simpa using hf)
 cases rows with
 | nil =>
  have e:appTo H0 x0 [r] w bytes true=appEmp H0 x0 [r] w bytes true:=by cases x0<;>first|rfl|cases h0
  simp only[List.length_nil,Nat.zero_add]at hroom
  simp[bH,bD,appD,rowsOf,hfr,e,appEmp,hroom]
 | cons u us =>
  have hl:arr (bH H0 w (u::us)) H0.length (u::us).length=some (w,u::us,none,true,false):=by simp[Dm.arr,bH]
  have e0:(bH H0 w (u::us))=H0++[.ar w (u::us) none true false]:=rfl
  simp only[appD,bD,rowsOf,if_true,hfr,appTo,appMu,hl,Nat.zero_add,Nat.le_refl,and_self,List.length_singleton,hroom,appIn]
  simp[bH,List.take_of_length_le,List.drop_eq_nil_of_le]
theorem app_t {α:Type} {enc:α -> List D} {l:List α} (h0:x0ok x0=true) (hf:r.all D.flat=true) (hl:(l.length+1)*bytes <= 140737488355328) (hb:l.length<140737488355328) :
  appD (bH H0 w (l.map enc)) (bD H0 x0 (l.map enc)) (.sv w [r]) w bytes true=some (bD H0 x0 (l.map enc++[r]),bH H0 w (l.map enc++[r])) :=
 app_b h0 hf (room_ok (by rw[List.length_map];exact hl) (by rw[List.length_map];omega))
def appX:=appD
theorem app_all {α:Type} {enc:α -> List D} {l:List α} {y x0:D} (h0:x0ok x0=true) (hy:Sl w (l.map enc) y) (hf : ∀ a,(enc a).all D.flat=true) (hl:l.length*bytes <= 140737488355328) (hb:l.length <= 140737488355328) {H:Heap}:appD H x0 y w bytes true=some (bD H x0 (l.map enc),bH H w (l.map enc)):=by
 have hfr:freezeRows H (l.map enc)=some (l.map enc,H):=flat_freezeRows H (fun q hq=>by
  obtain⟨a,_,rfl⟩:=List.mem_map.1 hq
  simpa using hf a)
 have e : ∀ new,appTo H x0 new w bytes true=appEmp H x0 new w bytes true:=fun new=>by cases x0<;>first|rfl|cases h0
 simp only[appD,hy.cont,hfr,e]
 cases l with
 | nil=>rfl
 | cons a l =>
  have hroom:room ((a::l).map enc).length bytes=true:=room_ok (by rw[List.length_map];exact hl) (by rw[List.length_map];exact hb)
  simp only[List.map_cons]at hroom ⊢
  simp only[appEmp,hroom,if_true,bD,bH]
theorem app_n {α:Type} {enc:α -> List D} {l:List α} (hl:(l.length+1)*bytes <= 140737488355328) (hb:l.length<140737488355328) :
  appD (bH H0 w (l.map enc)) (bD H0 .nil (l.map enc)) (.sv w [r]) w bytes true=if r.all D.flat then some (bD H0 .nil (l.map enc++[r]),bH H0 w (l.map enc++[r]))else appX (bH H0 w (l.map enc)) (bD H0 .nil (l.map enc)) (.sv w [r]) w bytes true:=by
 split
 ·rename_i hf;exact app_t rfl hf hl hb
 ·rfl
theorem bD_c1 (h0:x0ok x0=true):(bD H0 x0 rows).cellsN 1=some [bD H0 x0 rows]:=by
 cases rows with
 | nil=>cases x0<;>first|rfl|cases h0
 | cons r rows=>rfl
theorem bD_fz (h0:x0ok x0=true) (m:Nat) : ∃ H',freeze (m+1) (bH H0 w rows) (bD H0 x0 rows)=some (imD x0 w rows,H') /\ H'.length=(bH H0 w rows).length /\ ∀ b,b<H0.length -> H'[b]?=H0[b]?:=by
 cases rows with
 | nil=>cases x0<;>first|exact⟨H0,rfl,rfl,fun _ _=>rfl⟩|cases h0
 | cons r rows =>
  refine⟨H0++[.ar w (r::rows) none true true], ?_,by simp[bH],fun b hb=>by rw[List.getElem?_append_left hb]⟩
  simp[fz_mu,bD,bH,arr,fzM,imD,List.take_of_length_le]
theorem bD_frz (h0:x0ok x0=true):frzR (bH H0 w rows) (bD H0 x0 rows)=some (imD x0 w rows):=by
 obtain⟨H',e,_⟩:=bD_fz (H0:=H0) (w:=w) (rows:=rows) h0 11
 have:frzR (bH H0 w rows) (bD H0 x0 rows)=frz1 (bH H0 w rows) (bD H0 x0 rows):=by
  cases rows with
  | nil=>cases x0<;>first|rfl|cases h0
  | cons r rows=>rfl
 rw[this,frz1_eq,e];rfl
end
def bP (H0:Heap) (n i off:Nat):D := .ap H0.length n i off
def bPut (H0:Heap) (w:Nat) (rows:List (List D)) (i:Nat):Option (List D) -> Option Heap
 | some r=>some (bH H0 w (rows.set i r))
 | none=>none
section
variable {V:VProg} {Q:Ex -> St -> Prop} {dr:Option (Bs×Bool)} {os:List VOper} {keep:Option Nat} {loc sl sl':List D} {H0 H H':Heap} {w n i o off:Nat} {α:Type} {enc:α -> List D} {l:List α} {k:IntKind} {x:Int} {rows:List (List D)}
@[go_sem] theorem bP_fad:fadD (bP H0 n i o) off=some (bP H0 n i (o+off)):=rfl
@[go_sem] theorem bPut_s {r:List D}:bPut H0 w rows i (some r)=some (bH H0 w (rows.set i r)):=rfl
def bL (H0:Heap) (w:Nat) (rows:List (List D)):Heap :=
 match rows with
 | []=>H0
 | _::_=>H0++[.ar w rows none true true]
@[go_sem] theorem bD_fe {m:Nat}:freeze (m+1) (bH H0 w rows) (bD H0 .nil rows)=some (imD .nil w rows,bL H0 w rows):=by
 cases rows with
 | nil=>rfl
 | cons r rows=>simp[fz_mu,bD,bH,arr,fzM,imD,bL,List.take_of_length_le]
end
section
variable {V:VProg} {H:Heap} {f:FuncId} {vf:VFunc} {K:CR -> Prop}
def AnyK (K:CR -> Prop):PR -> Prop
 | .ret d => ∀ H,K (.ret d H)
 | .pan d => ∀ H,K (.pan d H)
 | .bad=>False
theorem CallQ.fz (hf:V.fn f=some vf) (hp:vf.pure=true) (ho:vf.own=false) {args ds:List D} (hfr : ∃ H1,freezeL deep H args=some (ds,H1)) (h:PurQ V f ds (AnyK K)):CallQ V f args H K:=by
 obtain⟨H1,hfr⟩:=hfr
 refine CallQ.pure0 hf hp hfr (h.mono fun r hr => ?_)
 cases r with
 | ret d=>simp only[PlaceB,ho];exact hr _
 | pan d=>exact hr H1
 | bad=>exact hr
end
section
variable {α:Type} [Inhabited α] {p:α -> Bool} {l:List α} {i:Nat}
structure noneTo (p:α -> Bool) (l:List α) (i:Nat):Prop where
 h : ∀ k,k<i -> p l[k]! = false
theorem nt_zero:noneTo p l 0:=⟨fun k hk=>by omega⟩
theorem nt_succ:noneTo p l (i+1)↔noneTo p l i /\ p l[i]! = false:=by
 refine⟨fun h=>⟨⟨fun k hk=>h.h k (by omega)⟩,h.h i (by omega)⟩,fun h=>⟨fun k hk => ?_⟩⟩
 by_cases e:k=i
 ·subst e;exact h.2
 ·exact h.1.h k (by omega)
theorem nt_hit (hi:i<l.length) (h:p l[i]! = true):l.any p=true:=by
 rw[List.any_eq_true]
 exact⟨l[i],List.getElem_mem hi,by rwa [getElem!_pos l i hi]at h⟩
theorem nt_end (h:noneTo p l l.length):l.any p=false:=by
 rw[List.any_eq_false]
 intro x hx
 obtain⟨k,hk,rfl⟩:=List.mem_iff_getElem.1 hx
 have:=h.h k hk
 rw[getElem!_pos l k hk]at this
 simp[this]
end
section
variable {α β:Type} [Inhabited α]
end
def idxL (w:Nat) (agg:Bool):VCode :=
  (.seq (.reg [⟨.bin .lss (.s 5) (.s 6),some 3,none⟩] none)
  (.seq (.cond (.s 3) .skip
  (.exit 0))
  (.seq (.block 1 (.seq (.reg [⟨.mov (.s 5),none,none⟩,
     ⟨.mov (.l 0),some 7,none⟩] none)
   (.seq (.reg [⟨.mov (.s 1),none,none⟩,
     ⟨.mov (.s 0),none,none⟩,
     ⟨.mov (.s 7),none,none⟩,
     ⟨.iad (.l 1) (.l 2) w,none,none⟩,
     ⟨.ld (.l 3) w agg,none,none⟩,
     ⟨.calv (.l 0) [(.l 4)],some 4,none⟩] none)
   (.cond (.s 4) (.seq (.reg [⟨.mov (.s 7),none,none⟩,
      ⟨.mov (.l 0),some 2,none⟩] none)
    .ret)
   .skip))))
  (.reg [⟨.bin .add (.s 5) (.c (.i .i64 1)),none,none⟩,
    ⟨.mov (.l 0),some 5,none⟩] none))))
def idxF (w:Nat) (agg:Bool):VFunc :=
 ⟨2,8,[.s 2],
 (.seq (.reg [⟨.mov (.c (.i .i64 0)),some 2,none⟩] none)
 (.seq (.seq (.reg [⟨.mov (.s 0),none,none⟩,
  ⟨.len 1 (.l 0),some 6,none⟩,
  ⟨.mov (.c (.i .i64 0)),some 5,none⟩] none)
 (.block 0 (.loop (idxL w agg))))
 (.seq (.reg [⟨.mov (.c (.i .i64 (-1))),some 2,none⟩] none)
 .ret))),false,false,none,false,none⟩
def cfF (g:FuncId):VFunc :=
 ⟨2,3,[.s 2],
 (.seq (.reg [⟨.mov (.c (.b false)),some 2,none⟩] none)
 (.seq (.reg [⟨.mov (.s 0),none,none⟩,
  ⟨.mov (.s 1),none,none⟩,
  ⟨.call g [(.l 0),(.l 1)],none,none⟩,
  ⟨.bin .geq (.l 2) (.c (.i .i64 0)),none,none⟩,
  ⟨.mov (.l 3),some 2,none⟩] none)
 .ret)),false,false,none,false,none⟩
section
variable {α:Type} [Inhabited α] {V:VProg} {f h g:FuncId} {w:Nat} {agg:Bool} {enc:α -> List D} {key:α -> D} {l:List α} {x:D} {H:Heap} {cp:List D} {p:α -> Bool}
theorem idx_q (hf:V.fn f=some (idxF w agg)) (hx:Sl w (l.map enc) x) (hl:l.length<1099511627776) (hw : ∀ a,(enc a).length=w) (hv : ∀ a,val agg (enc a)=some (key a))
  (hy:g<4294967295) (hg : ∀ a K,CallQ V g (key a::cp) H K↔K (.ret (.b (p a)) H)) (he:V.ext f [x,.fn (.func g) [] cp] H=none:=by first|rfl|assumption) :
  CallQ V f [x,.fn (.func g) [] cp] H (fun r => ∃ i:Int,r = .ret (.i .i64 i) H /\ decide (0 <= i)=l.any p):=by
 refine .body hf rfl rfl ?_ he
 simp only[go_sem,Nat.reduceSub,Int.reduceNeg,idxF,hx.n]
 refine Run.up (fun i s=>noneTo p l i /\ ∃ a3 a4 a7,s=⟨[x,.fn (.func g) [] cp,.i .i64 0,a3,a4,.i .i64 i,.i .i64 l.length,a7],H⟩) l.length ⟨nt_zero,.u,.u,.u,rfl⟩ ?_
 rintro i s hi ⟨hv',a3,a4,a7,rfl⟩
 have ht : ∀ a,(enc a).take w=enc a:=fun a=>List.take_of_length_le (by rw[hw];omega)
 simp(disch:=omega) only[go_sem,Int.reduceLE,Int.reduceNeg,idxL,hx.q,hw,ht,hv,hg,wr,nt_succ,hv']
 have e1 := @nt_end _ _ p l
 have e2:i<l.length -> p l[i]! = true -> l.any p=true:=nt_hit
 repeat' first|(refine And.intro ?_ ?_)|intro _
 all_goals first|omega|grind
theorem cf_q (hf:V.fn f=some (cfF h)) (hh:V.fn h=some (idxF w agg)) (hx:Sl w (l.map enc) x) (hl:l.length<1099511627776) (hw : ∀ a,(enc a).length=w) (hv : ∀ a,val agg (enc a)=some (key a))
  (hy:g<4294967295) (hg : ∀ a K,CallQ V g (key a::cp) H K↔K (.ret (.b (p a)) H)) (he:V.ext f [x,.fn (.func g) [] cp] H=none:=by first|rfl|assumption) (he':V.ext h [x,.fn (.func g) [] cp] H=none:=by first|rfl|assumption) {K:CR -> Prop} :
  CallQ V f [x,.fn (.func g) [] cp] H K↔K (.ret (.b (l.any p)) H):=by
 refine CallQ_ret (Ret.iff_q.2 (.body hf rfl rfl ?_ he))
 simp only[go_sem,Nat.reduceSub,cfF]
 refine(idx_q hh hx hl hw hv hy hg he').mono ?_
 rintro r ⟨i,rfl,hi⟩
 simp only[go_sem,hi]
end
structure KOk {κ:Type} [DecidableEq κ] (kk:KK) (ek:κ -> D):Prop where
 ok : ∀ a,keyOk kk (ek a)=true
 eq : ∀ a b,keyEq kk (ek a) (ek b)=some (decide (a=b))
section
variable {κ β:Type} [DecidableEq κ] {kk:KK} {ek:κ -> D} {ev:β -> D}
def entsM (ek:κ -> D) (ev:β -> D) (m:List (κ×β)):List (D×D):=m.map fun p=>(ek p.1,ev p.2)
def putA (k:κ) (v:β):List (κ×β) -> List (κ×β)
 | []=>[(k,v)]
 | p::m=>if k=p.1 then(k,v)::m else p::putA k v m
theorem find_a (h:KOk kk ek) (k:κ) : ∀ m:List (κ×β),findKey kk (ek k) (entsM ek ev m)=some ((m.lookup k).map ev)
 | []=>rfl
 | (a,v)::m=>by
  have ih:=find_a h k m
  simp only[entsM,List.map_cons,findKey,h.eq]at ih ⊢
  by_cases e:k=a
  ·subst e;simp
  ·have:(k==a)=false:=by simpa using e
   simp[e,List.lookup,this,ih]
theorem set_a (h:KOk kk ek) (k:κ) (v:β) : ∀ m:List (κ×β),setKey kk (ek k) (ev v) (entsM ek ev m)=some (entsM ek ev (putA k v m))
 | []=>rfl
 | (a,u)::m=>by
  have ih:=set_a h k v m
  simp only[entsM,List.map_cons,setKey,h.eq]at ih ⊢
  by_cases e:k=a
  ·subst e;simp[putA]
  ·simp[e,putA,ih]
end
def lkM (kk:KK) (k:D) (ok:Bool) (zero:D):Option Blk -> Option D
 | some (.mp es)=>match keyOk kk k with
  | true=>match findKey kk k es with
   | some r=>match ok with
    | true=>some (.tu [r.getD zero,.b r.isSome])
    | false=>some (r.getD zero)
   | none=>none
  | false=>none
 | _=>none
@[go_sem] theorem lk_mp {H:Heap} {kk:KK} {a:Nat} {k:D} {ok:Bool} {zero:D}:lkD H kk (.mp a) k ok zero=lkM kk k ok zero H[a]?:=by
 simp only[lkD,entsD,lkM]
 cases keyOk kk k with
 | true =>
  cases H[a]? with
  | none=>rfl
  | some b=>cases b<;>rfl
 | false =>
  cases H[a]? with
  | none=>rfl
  | some b=>cases b<;>rfl
theorem lkM_a {κ β:Type} [DecidableEq κ] {kk:KK} {ek:κ -> D} {ev:β -> D} (h:KOk kk ek) (k:κ) (m:List (κ×β)) (ok:Bool) (zero:D):lkM kk (ek k) ok zero (some (.mp (entsM ek ev m)))=match ok with
  | true=>some (.tu [((m.lookup k).map ev).getD zero,.b (m.lookup k).isSome])
  | false=>some (((m.lookup k).map ev).getD zero):=by
 simp only[lkM,h.ok,find_a h]
 cases ok<;>simp
def mupM (H:Heap) (kk:KK) (a:Nat) (k v:D):Option Blk -> Option Heap
 | some (.mp es)=>match keyOk kk k with
  | true=>match setKey kk k v es with
   | some es'=>some (H.set a (.mp es'))
   | none=>none
  | false=>none
 | _=>none
@[go_sem] theorem mup_mp {H:Heap} {kk:KK} {a:Nat} {k v:D}:mupD H kk (.mp a) k v=mupM H kk a k v H[a]?:=by
 simp only[mupD,mupM]
 cases keyOk kk k with
 | true =>
  cases H[a]? with
  | none=>rfl
  | some b=>cases b<;>rfl
 | false =>
  cases H[a]? with
  | none=>rfl
  | some b=>cases b<;>rfl
theorem mupM_a {κ β:Type} [DecidableEq κ] {H:Heap} {kk:KK} {ek:κ -> D} {ev:β -> D} (h:KOk kk ek) (a:Nat) (k:κ) (v:β) (m:List (κ×β)):mupM H kk a (ek k) (ev v) (some (.mp (entsM ek ev m)))=some (H.set a (.mp (entsM ek ev (putA k v m)))):=by
 simp only[mupM,h.ok,set_a h]
theorem cellEq_s (x y:List UInt8):cellEq (.s x) (.s y)=some (decide (x=y)):=by
 simp only[cellEq,Option.some.injEq]
 by_cases h:x=y<;>simp[h]
theorem kok_s:KOk (.c 2) (fun s:List UInt8=>D.s s):=⟨fun _=>rfl,fun a b=>by simp only[keyEq,kindIs,cellEq_s]⟩
section
variable {H0:Heap} {w:Nat} {rows:List (List D)} {b b':Blk}
end
section
variable {α:Type} [DecidableEq α]
end
section
variable {H:Heap} {k:IntKind} {x y:Int}
@[go_sem] theorem bin_quo:bin .quo (.i k x) (.i k y)=if y=0 then none else some (.i k (k.wrap (x.tdiv y))):=by simp[bin,binI]
@[go_sem] theorem bin_rem:bin .rem (.i k x) (.i k y)=if y=0 then none else some (.i k (x.tmod y)):=by simp[bin,binI]
def catS (a b:List UInt8):Option D:=if a.length+b.length <= maxCat then some (.s (a++b))else none
@[go_sem] theorem bins_add {a b:List UInt8}:bin .add (.s a) (.s b)=catS a b:=rfl
def hpS (H:Heap) (b off:Nat) (vs:List D):Option Blk -> Option Heap
 | some (.hb t cs)=>match put cs off vs with
  | some cs'=>some (H.set b (.hb t cs'))
  | none=>none
 | _=>none
def hpT (H:Heap) (b t:Nat):Option (List D) -> Option Heap
 | some cs'=>some (H.set b (.hb t cs'))
 | none=>none
@[go_sem] theorem st_hp {b off:Nat} {vs:List D}:stAt H (.hp b off) vs=hpS H b off vs H[b]?:=by
 simp only[stAt,hpS]
 cases H[b]? with
 | none=>rfl
 | some q=>cases q<;>rfl
@[go_sem] theorem hpS_s {b off t:Nat} {vs cs:List D}:hpS H b off vs (some (.hb t cs))=hpT H b t (put cs off vs):=by
 simp only[hpS]
 cases put cs off vs<;>rfl
@[go_sem] theorem hpT_s {b t:Nat} {cs:List D}:hpT H b t (some cs)=some (H.set b (.hb t cs)):=rfl
@[go_sem] theorem tas_ifc {t t':TypeId} {v:D} {zero:D} {ok:Bool}:tasD (.ifc t' v) t ok zero=match decide (t'=t),ok with
  | true,true=>some (.tu [v,.b true])
  | true,false=>some v
  | false,true=>some (.tu [zero,.b false])
  | false,false=>none:=rfl
@[go_sem] theorem eqv_ifc {neg:Bool} {t:TypeId} {v:D}:eqvD neg .ifc (.ifc t v) .ni=some (.b (false != neg)):=rfl
@[go_sem] theorem eqv_ni {neg:Bool}:eqvD neg .ifc .ni .ni=some (.b (true != neg)):=rfl
def fzS (w:Nat):Option (List (List D)×Heap) -> Option (D×Heap)
 | some (rows,H)=>some (.im w rows,H)
 | none=>none
@[go_sem] theorem fz_sv {m w:Nat} {rows:List (List D)}:freeze (m+1) H (.sv w rows)=fzS w (freezeLL m H rows):=by
 rw[freeze_succ];simp only;cases freezeLL m H rows<;>rfl
@[go_sem] theorem fzS_s {w:Nat} {rows:List (List D)}:fzS w (some (rows,H))=some (.im w rows,H):=rfl
def fzRA (m:Nat) (rs:List (List D)):Option (List D×Heap) -> Option (List (List D)×Heap)
 | some (r',H')=>match freezeLL (m+1) H' rs with
   | some (rs',H'')=>some (r'::rs',H'')
   | none=>none
 | none=>none
def fzRB (r':List D):Option (List (List D)×Heap) -> Option (List (List D)×Heap)
 | some (rs',H'')=>some (r'::rs',H'')
 | none=>none
@[go_sem] theorem fzl_nil {m:Nat}:freezeLL m H []=some ([],H):=freezeLL_nil _ _
@[go_sem] theorem fzl_cons {m:Nat} {r:List D} {rs:List (List D)}:freezeLL (m+1) H (r::rs)=fzRA m rs (freezeL m H r):=by
 rw[freezeLL_cons]
 cases freezeL m H r with
 | none=>rfl
 | some q=>rfl
@[go_sem] theorem fzRA_s {m:Nat} {r':List D} {rs:List (List D)}:fzRA m rs (some (r',H))=fzRB r' (freezeLL (m+1) H rs):=by
 simp only[fzRA]
 cases freezeLL (m+1) H rs<;>rfl
@[go_sem] theorem fzRB_s {r':List D} {rs:List (List D)}:fzRB r' (some (rs,H))=some (r'::rs,H):=rfl
@[go_sem] theorem cells_ifc {t:TypeId} {v:D}:(D.ifc t v).cellsN 1=some [.ifc t v]:=rfl
@[go_sem] theorem cells_ni:D.ni.cellsN 1=some [.ni]:=rfl
end
section
variable {V:VProg} {Q:Ex -> St -> Prop} {dr:Option (Bs×Bool)} {os:List VOper} {keep:Option Nat} {loc sl sl':List D} {H H':Heap} {l:List UInt8} {k k':IntKind} {x y:Int}
@[go_sem] theorem q_ixs:AfterQ V dr os keep loc sl Q (ofO ⟨sl',H⟩ (ixsD (.s l) (.i k x)))↔(0 <= x /\ x<l.length) /\ AfterQ V dr os keep loc sl Q (.v (.i .u8 l[x.toNat]!.toNat) ⟨sl',H⟩):=by
 simp only[ixsD,ixOf]
 by_cases hx:0 <= x /\ x<l.length
 ·have hlt:x.toNat<l.length:=by omega
  simp[hx,ofO]
 ·simp[hx,ofO,AfterQ]
@[go_sem] theorem q_pan {t:TypeId} {d:D}:AfterQ V dr os keep loc sl Q (panD (.ifc t d) H)↔AfterQ V dr os keep loc sl Q (.p (.ifc t d) H):=Iff.rfl
end
attribute [go_sem] not_true_eq_false not_false_eq_true
section
variable {V:VProg} {Q:Ex -> St -> Prop} {H:Heap}
def RngQ (sl:List D) (y:Nat) (Q:Ex -> St -> Prop):CR -> Prop
 | .ret _ H=>match H[y]? with
  | some (.yh _ _ _ _ _ _ .rd)=>Q .nm ⟨sl,H.set y .no⟩
  | some (.yh _ _ _ _ _ _ .dr)=>Q .rt ⟨sl,H.set y .no⟩
  | some (.yh _ _ _ _ _ _ (.dx id))=>Q (.ex id) ⟨sl,H.set y .no⟩
  | _=>False
 | _=>False
theorem Run_rng {j:Nat} {x:O} {r:Rnd} {sl:List D} {g:FuncId} {cap:List D} (hr:V.rnd j=some r) (hx:x.ev [] sl = .fn (.func g) [] cap) (hg:g<4294967295) :
  Run V (.rng j x) ⟨sl,H⟩ Q↔CallQ V g (.yl (H.length+1)::cap) (H++[.df,.yh r.f r.path j r.nt r.tm sl .rd]) (RngQ sl (H.length+1) Q):=by
 unfold Run CallQ
 refine exists_congr fun n => ?_
 simp only[exec,hr,hx,if_neg (lt_yF hg)]
 generalize call V n g _ _=c
 cases c with
 | ret d H' =>
  simp only[rngK,RngQ]
  cases H'[H.length+1]? with
  | none=>simp
  | some b =>
   cases b with
   | yh f p j nt tm x s=>cases s<;>simp
   | _=>simp
 | pan d H'=>simp[rngK,RngQ]
 | bad=>simp[rngK]
theorem RngQ_rd {sl:List D} {y:Nat} {d:D} {f:Nat} {p:List Bool} {j nt:Nat} {tm:List Nat} {x:List D} (h:H[y]?=some (.yh f p j nt tm x .rd)):RngQ sl y Q (.ret d H)↔Q .nm ⟨sl,H.set y .no⟩:=by simp only[RngQ,h]
def EndQ (y:Nat) (K:CR -> Prop):Ex -> St -> Prop
 | .nm,st => ∃ f p j nt tm x,st.hp[y]?=some (.yh f p j nt tm x .bz) /\ K (.ret (.b true) (st.hp.set y (.yh f p j nt tm x .rd)))
 | .rt,st => ∃ f p j nt tm x,st.hp[y]?=some (.yh f p j nt tm x .bz) /\ K (.ret (.b false) (st.hp.set y (.yh f p j nt tm x .dr)))
 | .ex id,st => ∃ f p j nt tm x,st.hp[y]?=some (.yh f p j nt tm x .bz) /\ K (.ret (.b false) (st.hp.set y (.yh f p j nt tm x (.dx id))))
 | _,_=>False
@[go_sem] theorem EndQ_nm {y:Nat} {K:CR -> Prop} {st:St}:EndQ y K .nm st ↔ ∃ f p j nt tm x,st.hp[y]?=some (.yh f p j nt tm x .bz) /\ K (.ret (.b true) (st.hp.set y (.yh f p j nt tm x .rd))):=Iff.rfl
@[go_sem] theorem EndQ_rt {y:Nat} {K:CR -> Prop} {st:St}:EndQ y K .rt st ↔ ∃ f p j nt tm x,st.hp[y]?=some (.yh f p j nt tm x .bz) /\ K (.ret (.b false) (st.hp.set y (.yh f p j nt tm x .dr))):=Iff.rfl
@[go_sem] theorem EndQ_ex {y id:Nat} {K:CR -> Prop} {st:St}:EndQ y K (.ex id) st ↔ ∃ f p j nt tm x,st.hp[y]?=some (.yh f p j nt tm x .bz) /\ K (.ret (.b false) (st.hp.set y (.yh f p j nt tm x (.dx id)))):=Iff.rfl
def BegQ (V:VProg) (y:Nat) (b:VCode) (K:CR -> Prop):Ex -> St -> Prop
 | .nm,st => ∃ f p j nt tm x,st.hp[y]?=some (.yh f p j nt tm x .rd) /\ Run V b ⟨st.sl,st.hp.set y (.yh f p j nt tm x .bz)⟩ (EndQ y K)
 | _,_=>False
@[go_sem] theorem BegQ_nm {y:Nat} {b:VCode} {K:CR -> Prop} {st:St}:BegQ V y b K .nm st ↔ ∃ f p j nt tm x,st.hp[y]?=some (.yh f p j nt tm x .rd) /\ Run V b ⟨st.sl,st.hp.set y (.yh f p j nt tm x .bz)⟩ (EndQ y K):=Iff.rfl
theorem CallQ.round (hV:V.fn yF=none) {r:Rnd} {y:Nat} {az:List D} {f:Nat} {p:List Bool} {j nt:Nat} {tm:List Nat} {x:List D} {K:CR -> Prop} (hH:H[y]?=some (.yh f p j nt tm x .rd)) (hr:V.rnd j=some r) (hc:r.f=f /\ r.path=p /\ r.nt=nt /\ r.tm=tm /\ r.ps.length=az.length)
  (h:Run V r.a ⟨setPs x r.ps az,H⟩ (BegQ V y r.b K)):CallQ V yF (.yl y::az) H K:=by
 obtain⟨n,h1,h2⟩:=h
 cases hx:exec V (call V n) n r.a ⟨setPs x r.ps az,H⟩with
 | mk e1 st1 =>
  rw[hx]at h1 h2
  cases e1 with
  | nm =>
   obtain⟨f1,p1,j1,nt1,tm1,x1,hy,m,h3,h4⟩:=h2
   have hne:(exec V (call V n) n r.a ⟨setPs x r.ps az,H⟩).1 ≠ .bad:=by rw[hx];nofun
   have e1:exec V (call V (max n m)) (max n m) r.a ⟨setPs x r.ps az,H⟩=(.nm,st1):=by rw[exec_up (Nat.le_max_left n m) hne,hx]
   have e2:=exec_up (V:=V) (Nat.le_max_right n m) h3
   refine⟨max n m+1, ?_⟩
   simp only[call,hV,if_true,roundR,hH,hr,if_pos hc,e1,roundB,hy,e2]
   generalize exec V (call V m) m r.b _=q at h3 h4
   obtain⟨e,s⟩:=q
   cases e with
   | nm=>obtain⟨_,_,_,_,_,_,g1,g2⟩:=h4;simp only[rndEnd,g1];exact⟨nofun,g2⟩
   | rt=>obtain⟨_,_,_,_,_,_,g1,g2⟩:=h4;simp only[rndEnd,g1];exact⟨nofun,g2⟩
   | ex id=>obtain⟨_,_,_,_,_,_,g1,g2⟩:=h4;simp only[rndEnd,g1];exact⟨nofun,g2⟩
   | _=>exact h4.elim
  | _=>exact h2.elim
def ResR (rs:List RSpec) (base:Nat) (K:CR -> Prop):Ex -> St -> Prop
 | .nm,s | .rt,s => ∃ ds,resAll ⟨s.sl,unmark base s.hp⟩ rs=some ds /\ K (.ret (oneOr ds) (unmark base s.hp))
 | _,_=>False
@[go_sem] theorem ResR_nm {rs:List RSpec} {base:Nat} {K:CR -> Prop} {s:St}:ResR rs base K .nm s ↔ ∃ ds,resAll ⟨s.sl,unmark base s.hp⟩ rs=some ds /\ K (.ret (oneOr ds) (unmark base s.hp)):=Iff.rfl
@[go_sem] theorem ResR_rt {rs:List RSpec} {base:Nat} {K:CR -> Prop} {s:St}:ResR rs base K .rt s ↔ ∃ ds,resAll ⟨s.sl,unmark base s.hp⟩ rs=some ds /\ K (.ret (oneOr ds) (unmark base s.hp)):=Iff.rfl
theorem enterR_q {vf:VFunc} {args:List D} {K:CR -> Prop} (hl:args.length=vf.npar) (h:Run V vf.body ⟨args++uu (vf.nsl-vf.npar),H⟩ (ResR vf.res H.length K)) : ∃ n,enterR V (call V n) n vf args H ≠ .bad /\ K (enterR V (call V n) n vf args H):=by
 rw[<- uu_eq]at h
 obtain⟨n,h1,h2⟩:=h
 refine⟨n, ?_⟩
 unfold enterR
 rw[if_pos hl]
 generalize exec V (call V n) n vf.body _=q at h1 h2
 obtain⟨ex,s⟩:=q
 cases ex with
 | nm=>obtain⟨ds,g1,g2⟩:=h2;simp only[g1];exact⟨nofun,g2⟩
 | rt=>obtain⟨ds,g1,g2⟩:=h2;simp only[g1];exact⟨nofun,g2⟩
 | _=>exact h2.elim
theorem PurQ.bodyR {f g:FuncId} {vf:VFunc} (hf:V.fn f=some vf) {ds:List D} {K:PR -> Prop} (hl:ds.length=vf.npar) (hg:vf.rg=some g) (h:Run V vf.body ⟨ds++uu (vf.nsl-vf.npar),[]⟩ (ResR vf.res 0 (PurK vf.own K))) (hx:V.pext f ds=none:=by first|rfl|assumption) (hd:vf.dfr=none:=by first|rfl|assumption):PurQ V f ds K:=by
 obtain⟨n,h1,h2⟩:=enterR_q (H:=[]) hl h
 refine⟨n+1, ?_⟩
 simp only[pcall,hf,pureR,hx]
 have e:enterF V (call V n) n vf ds []=enterR V (call V n) n vf ds []:=by simp only[enterF,hd,hg]
 exact pureRun_q (by rw[e];exact h1) (by rw[e];exact h2)
end
end Go.Dm
