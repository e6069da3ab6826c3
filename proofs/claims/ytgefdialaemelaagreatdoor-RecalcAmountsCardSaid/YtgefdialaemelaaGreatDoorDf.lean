/-
  Loops over functions,calls: the machine is sound.
-/
import Derived.Test.YtgefdialaemelaaGreatDoorDe
import Derived.Test.YtgefdialaemelaaGreatDoorDd
import Derived.RangeFuncLeaves
import Derived.RangeFuncRecord
import Derived.Recover
namespace Go.Dm
def umB:Blk -> Blk
 | .df => .no
 | b=>b
theorem umB_not {b:Blk} (h:b ≠ .df):umB b=b:=by cases b<;>first|rfl|exact absurd rfl h
section
variable {base:Nat} {H:Heap}
theorem unmark_eq:unmark base H=H.take base++(H.drop base).map umB:=by
 rfl
theorem unmark_len:(unmark base H).length=H.length:=by
 rw[unmark_eq]
 simp only[List.length_append,List.length_take,List.length_map,List.length_drop]
 omega
theorem unmark_lt {m:Nat} (h:m<base):(unmark base H)[m]?=H[m]?:=by
 rw[unmark_eq]
 rcases Nat.lt_or_ge m H.length with hm|hm
 ·rw[List.getElem?_append_left (by simp;omega),List.getElem?_take,if_pos h]
 ·rw[List.getElem?_eq_none hm,List.getElem?_eq_none]
  simp only[List.length_append,List.length_take,List.length_map,List.length_drop]
  omega
theorem unmark_ge {m:Nat} (h:base <= m):(unmark base H)[m]?=(H[m]?).map umB:=by
 rw[unmark_eq]
 rcases Nat.lt_or_ge base H.length with hb|hb
 ·have e:(H.take base).length=base:=by simp;omega
  rw[List.getElem?_append_right (by omega),e,List.getElem?_map,List.getElem?_drop]
  congr 2
  omega
 ·rw [List.getElem?_eq_none (l:=H) (by omega),List.getElem?_eq_none]
  ·rfl
  ·simp only[List.length_append,List.length_take,List.length_map,List.length_drop]
   omega
theorem unmark_same {m:Nat} {b:Blk} (h:H[m]?=some b) (hb:b ≠ .df):(unmark base H)[m]?=some b:=by
 rcases Nat.lt_or_ge m base with x|x
 ·rw[unmark_lt x,h]
 ·rw[unmark_ge x,h,Option.map_some,umB_not hb]
theorem unmark_inv {m:Nat} {b:Blk} (h:(unmark base H)[m]?=some b):H[m]?=some b \/ (base <= m /\ H[m]?=some .df /\ b = .no):=by
 rcases Nat.lt_or_ge m base with x|x
 ·rw[unmark_lt x]at h;exact .inl h
 ·rw[unmark_ge x]at h
  obtain⟨b0,h1,h2⟩:=Option.map_eq_some_iff.1 h
  by_cases hb:b0 = .df
  ·subst hb;exact .inr ⟨x,h1,h2.symm⟩
  ·rw[umB_not hb]at h2;subst h2;exact .inl h1
end
section
variable {K:Kn} {μ:Mu} {H H':Heap} {W:World}
theorem VR.same {d:D} {v:Value} (h:VR K μ H d v) (e : ∀ (m:Nat) (b:Blk),H[m]?=some b -> b ≠ .df -> H'[m]?=some b):VR K μ H' d v:=by
 induction h generalizing H' with
 | b=>exact .b ..
 | i=>exact .i ..
 | s=>exact .s ..
 | nil=>exact .nil ..
 | z=>exact .z ..
 | im μ H w rows blk off cap f hc hw hk h1 hr ih=>exact .im _ _ w rows blk off cap f hc hw hk h1 hr
 | sv μ H w rows blk off cap f hc hw hk h1 hr ih=>exact .sv _ _ w rows blk off cap f hc hw hk h1 (fun i r j d a b=>ih i r j d a b e)
 | mu μ H a n off len cap blk o l w rows kc p lk hm hH hn h=>exact .mu _ _ a n off len cap blk o l w rows kc p lk hm (e _ _ hH (by intro x;cases x)) hn h
 | np=>exact .np ..
 | hp μ H b off l t cs hm hH=>exact .hp _ _ b off l t cs hm (e _ _ hH (by intro x;cases x))
 | ap μ H a n i off blk o l w rows kc p lk hm hH hn h=>exact .ap _ _ a n i off blk o l w rows kc p lk hm (e _ _ hH (by intro x;cases x)) hn h
 | aa μ H a l w rows c p lk hm hH=>exact .aa _ _ a l w rows c p lk hm (e _ _ hH (by intro x;cases x))
 | ip μ H cs blk off f hk h1 hr ih=>exact .ip _ _ cs blk off f hk h1 (fun j d a=>ih j d a e)
 | mnil=>exact .mnil ..
 | mp μ H m l es hm hH=>exact .mp _ _ m l es hm (e _ _ hH (by intro x;cases x))
 | fn μ H f a b va vb la lb ha hb iha ihb=>exact .fn _ _ f a b va vb la lb (fun j d v x y=>iha j d v x y e) (fun j d v x y=>ihb j d v x y e)
 | nf=>exact .nf ..
 | ni=>exact .ni ..
 | ifc μ H t d v h ih=>exact .ifc _ _ t d v (ih e)
 | ag μ H cs vs hl h1 hr ih=>exact .ag _ _ cs vs hl h1 (fun j d v x y=>ih j d v x y e)
 | tu μ H ds vs hl hr ih=>exact .tu _ _ ds vs hl (fun j d v x y=>ih j d v x y e)
 | yb μ H a n cap blk l t bs lk hm hH hn h=>exact .yb _ _ a n cap blk l t bs lk hm (e _ _ hH (by intro x;cases x)) hn h
 | yl μ H y l b hm hH hb=>exact .yl _ _ y l b hm (e _ _ hH (by rintro rfl;cases hb)) hb
 | u=>exact .u ..
theorem BlkR.same {l:Loc} {b:Blk} (h:BlkR K μ H W l b) (e : ∀ (m:Nat) (b:Blk),H[m]?=some b -> b ≠ .df -> H'[m]?=some b):BlkR K μ H' W l b:=by
 cases b with
 | hb t cs=>obtain⟨h0,vs,h1,h2,h3⟩:=h;exact⟨h0,vs,h1,h2,⟨h3.1.1,fun j d v a b=>(h3.1.2 j d v a b).same e⟩,h3.2⟩
 | ar w rows kc p lk =>
  cases lk with
  | false =>
   obtain⟨h0,hc,hl,vs,ty,h1,h2,h3⟩:=h
   refine⟨h0,hc,hl,vs,ty,h1,h2,fun i r j d a b => ?_⟩
   obtain⟨v,x,y,z⟩:=h3 i r j d a b
   refine⟨v,x,y, ?_⟩
   cases p with
   | true=>exact z
   | false=>exact VR.same z e
  | true=>exact h
 | mp es=>obtain⟨mes,clock,h0,h1,h2,h3⟩:=h;exact⟨mes,clock,h0,h1,h2,fun j k v en a b=>⟨(h3 j k v en a b).1,(h3 j k v en a b).2.same e⟩⟩
 | yh f p j nt tm x s=>obtain⟨rec,h1,h2,h3,h4,h5⟩:=h;exact⟨rec,h1,h2,h3,h4,h5.1,fun k t a=>let ⟨d,v,x,y,z⟩:=h5.2 k t a;⟨d,v,x,y,z.same e⟩⟩
 | yt t bs lk=>cases lk<;>exact h
 | _=>exact h
theorem own_unmark {base r:Nat} (h:Own μ (unmark base H) r):Own μ H r:=by
 obtain⟨id,l,b,h1,h2,h3,h4⟩:=h
 rcases unmark_inv h2 with x|⟨_,x,rfl⟩
 ·exact⟨id,l,b,h1,x,h3,h4⟩
 ·cases h3
theorem HR.unmark (h:HR K μ H W) (base:Nat):HR K μ (unmark base H) W where
 dom:=fun id l a=>by rw[unmark_len];exact h.dom id l a
 tot:=fun id a=>h.tot id (by rw[unmark_len]at a;exact a)
 blk:=fun id l b a c=>by
  rcases unmark_inv c with x|⟨_,_,rfl⟩
  ·exact(h.blk id l b a x).same (fun m b e hb=>unmark_same e hb)
  ·trivial
 lt:=h.lt
 inj:=fun id id' l l' b b' a a' c c' e e' g=>by
  have key : ∀ {i:Nat} {b:Blk},(Dm.unmark base H)[i]?=some b -> b.live=true -> H[i]?=some b:=fun{i b} c e=>by
   rcases unmark_inv c with x|⟨_,_,rfl⟩
   ·exact x
   ·cases e
  exact h.inj id id' l l' b b' a a' (key c e) (key c' e') e e' g
 kn:=h.kn
 kf:=fun b o v e ho=>h.kf b o v e (own_unmark ho)
theorem HR.away {r:Nat} {o:Obj} (h:HR K μ H W) (ho : ¬ Own μ H r) (hk : ∀ q v,K r q≠some v):HR K μ H (W.putObj r o) where
 dom:=h.dom
 tot:=h.tot
 blk:=fun id l b a c=>(h.blk id l b a c).ext (.refl _ _ _) (fun hl=>World.putObj_heap_other (fun e=>ho ⟨id,l,b,a,c,hl,e⟩))
 lt:=fun id l a=>by rw[World.putObj_size];exact h.lt id l a
 inj:=h.inj
 kn:=fun b q v e=>by
  have hne:b≠r:=fun x=>hk q v (x▸e)
  rw[World.cell?_of_block (w:=W) (w':=W.putObj r o) (a:=⟨b,q,none⟩) (World.putObj_heap_other hne)]
  exact h.kn b q v e
 kf:=h.kf
end
def markOf (r:Nat):Deferred:={ target := .collected r,args := #[] }
def shut:List Nat -> World -> World
 | [],W=>W
 | r::rs,W=>shut rs (W.putObj r (.deferred none))
theorem shut_size : ∀ (rs:List Nat) (W:World),(shut rs W).heap.size=W.heap.size
 | [],_=>rfl
 | r::rs,W=>by rw[shut,shut_size,World.putObj_size]
theorem shut_os : ∀ (rs:List Nat) (W:World),(shut rs W).os=W.os /\ (shut rs W).tape=W.tape /\ (shut rs W).output=W.output
 | [],_=>⟨rfl,rfl,rfl⟩
 | r::rs,W=>shut_os rs (W.putObj r (.deferred none))
theorem shut_other : ∀ (rs:List Nat) (W:World) (k:Nat),k∉rs -> (shut rs W).heap[k]?=W.heap[k]?
 | [],_,_,_=>rfl
 | r::rs,W,k,h=>by
  rw[shut,shut_other rs _ k (fun x=>h (List.mem_cons_of_mem _ x)),World.putObj_heap_other (fun e=>h (by rw[e];exact List.mem_cons_self))]
theorem HR.shut {K:Kn} {μ:Mu} {H:Heap} : ∀ (rs:List Nat) {W:World},HR K μ H W -> (∀ r∈rs,¬ Own μ H r /\ ∀ q v,K r q≠some v) -> HR K μ H (shut rs W)
 | [],_,h,_=>h
 | r::rs,_,h,hr=>HR.shut rs (h.away (hr r List.mem_cons_self).1 (hr r List.mem_cons_self).2) (fun x hx=>hr x (List.mem_cons_of_mem _ hx))
theorem leave_marks {F:Fence} {n:Nat} {P:Program} {fn:Func} {tmps:Array Value} {R:Ending -> World -> Prop} : ∀ (rs:List Nat) (W:World),rs.Nodup -> (∀ r∈rs,W.heap[r]?=some (.deferred (some []))) ->
  (∃ v,(results fn tmps).run P (shut rs W) = .ok v (shut rs W) /\ R (.returned v) (shut rs W)) -> LeavesInM F n P fn tmps R (rs.map markOf) .returning W
 | [],_,_,_,h=>h
 | r::rs,W,hn,hr,h=>by
  refine⟨by simp,.inl ⟨r,W.putObj r (.deferred none),rfl,run_takeDeferred (hr r List.mem_cons_self), ?_⟩⟩
  refine leave_marks rs _ (List.nodup_cons.1 hn).2 (fun x hx => ?_) h
  rw[World.putObj_heap_other (fun e=>(List.nodup_cons.1 hn).1 (by rw[<- e];exact hx))]
  exact hr x (List.mem_cons_of_mem _ hx)
theorem start_after {tm bs:List Nat} {npar nsl nt:Nat} (hle:npar <= tm.length) (hnsl:nsl=tm.length) (htm : ∀ k,k<npar -> tm[k]?=some k) (hlt : ∀ t∈tm,t<nt) (hnd:nodup tm=true) (hbs : ∀ k∈bs,npar <= k) (hnt:npar <= nt)
  {args:List D} {vs:List Value} {K:Kn} {μ:Mu} {H:Heap} {W:World} (hlen:args.length=npar) (hvl:vs.length=npar) (hr:HR K μ H W) (hv:VRs K μ H args vs) :
  After ⟨K,μ,H,W⟩ tm bs nt [] ⟨args++List.replicate (nsl-npar) .u,H⟩ { tmps:=vs.toArray++Array.replicate (nt-vs.toArray.size) undef,defers:=[] } W:=by
 refine⟨fun _=>none,K,μ,⟨hr,.refl _ _ _ _,by simp;omega,fun k t htk hbk => ?_,fun k t htk hbk => ?_,fun k r e=>(by cases e),fun k k' r e=>(by cases e)⟩,by simp;omega,rfl⟩
 ·by_cases hk:k<npar
  ·have:=htm k hk
   rw[htk]at this
   cases this
   have h1:k<args.length:=by omega
   have h2:k<vs.length:=by omega
   refine⟨args[k],vs[k],by rw[List.getElem?_append_left h1,List.getElem?_eq_getElem h1],by rw[Array.getElem?_append_left (by simpa using h2)];simp[h2],hv.2 k _ _ (List.getElem?_eq_getElem h1) (List.getElem?_eq_getElem h2)⟩
  ·have hkl:k<tm.length:=lt_of_get htk
   have ht:t<nt:=hlt t (List.mem_of_getElem? htk)
   have htn:npar <= t:=by
    rcases Nat.lt_or_ge t npar with hx|hx
    ·have:=nodup_spec hnd t k t (htm t hx) htk;omega
    ·exact hx
   refine⟨.u,undef, ?_, ?_,.u ..⟩
   ·rw[List.getElem?_append_right (by omega),List.getElem?_replicate,if_pos (by omega)]
   ·rw[Array.getElem?_append_right (by simp;omega),Array.getElem?_replicate,if_pos (by simp;omega)]
 ·left
  have hk:=hbs k (by simpa using hbk)
  have hkl:k<tm.length:=lt_of_get htk
  rw[List.getElem?_append_right (by omega),List.getElem?_replicate,if_pos (by omega)]
theorem FS.noL {E:En} {tm:List Nat} {K:Kn} {μ:Mu} {L:Nat -> Option Nat} {sl:List D} {H:Heap} {tmps:Array Value} {W:World} (h:FS E tm [] K μ L sl H tmps W):FS E tm [] K μ (fun _=>none) sl H tmps W :=
 ⟨h.hr,h.nx,h.len,h.val,fun k t _ b=>(by simp at b),fun k r e=>(by cases e),fun k k' r e=>(by cases e)⟩
theorem FS.base {E:En} {tm:List Nat} {K:Kn} {μ:Mu} {L:Nat -> Option Nat} {sl:List D} {H:Heap} {tmps:Array Value} {W:World} (h:FS E tm [] K μ L sl H tmps W):FS ⟨K,μ,H,W⟩ tm [] K μ (fun _=>none) sl H tmps W :=
 ⟨h.hr,.refl _ _ _ _,h.len,h.val,fun k t _ b=>(by simp at b),fun k r e=>(by cases e),fun k k' r e=>(by cases e)⟩
theorem FS.over {E:En} {tm:List Nat} {K K':Kn} {μ μ':Mu} {L L':Nat -> Option Nat} {sl sl':List D} {H H':Heap} {tmps tmps':Array Value} {W W':World} (h:FS E tm [] K μ L sl H tmps W) (h':FS ⟨K,μ,H,W⟩ tm [] K' μ' L' sl' H' tmps' W'):FS E tm [] K' μ' (fun _=>none) sl' H' tmps' W' :=
 ⟨h'.hr,h.nx.trans h'.nx,h'.len,h'.val,fun k t _ b=>(by simp at b),fun k r e=>(by cases e),fun k k' r e=>(by cases e)⟩
def Mk (E:En) (μ:Mu) (H:Heap) (rs:List Nat):Prop:=rs.Nodup /\ ∀ r∈rs,E.w.heap.size <= r /\ ∃ m l,E.H.length <= m /\ μ m=some l /\ H[m]?=some .df /\ l.blk=r
theorem Mk.go {E:En} {K K':Kn} {μ μ':Mu} {H H':Heap} {rs:List Nat} (h:Mk E μ H rs) (e:Ext K μ H K' μ' H'):Mk E μ' H' rs :=
 ⟨h.1,fun r hr=>by
  obtain⟨h1,m,l,h2,h3,h4,h5⟩:=h.2 r hr
  obtain⟨l',b',g1,g2,be⟩:=e.m m l _ h3 h4
  cases be
  exact⟨h1,m,l,h2,g1,g2,h5⟩⟩
def SP (E:En) (tm:List Nat) (nt:Nat) (st:St) (a:Act) (W:World):Prop :=
 ∃ rs K μ,FS E tm [] K μ (fun _=>none) st.sl st.hp a.tmps W /\ a.tmps.size=nt /\ a.defers=rs.map markOf /\ Mk E μ st.hp rs
theorem run_range {P:Program} {a:Act} {g:Operand} {l:Nat} {f:FuncId} {va vb:Array Value} {fn:Func} (hy:a.eval g = .func (.func f) va vb) (hf:P.funcs[f]?=some fn) (hb:fn.body.isSome=true) (hn:fn.name≠"runtime.NumGoroutine") (W:World) :
  ∃ d,(resolve a.eval (rangeCall g l) 0).run P W = .ok d W /\ (invoke d.target d.args).run P W = .ok (.enter f (va ++ #[.func (.yield l) #[] #[]]++vb)) W:=by
 refine⟨{ target := .fn (.func f) vb,args:=va ++ #[.func (.yield l) #[] #[]] }, ?_, ?_⟩
 ·have hc : ∀ v,a.eval (.const v)=v:=fun _=>rfl
  simp[resolve,hy,Deferred.ofValue,hc]
 ·simp[invoke,run_callFunc hf hb hn]
theorem tmr_set {K:Kn} {μ:Mu} {H:Heap} {tm:List Nat} (hnd:nodup tm=true) : ∀ {ks:List Nat} {ts:List Tmp} {x:List D} {tmps:Array Value} {ds:List D} {vs:List Value},TmR K μ H tm x tmps -> (∀ t∈tm,t<tmps.size) -> ks.length=ts.length -> (∀ (i k t:Nat),ks[i]?=some k -> ts[i]?=some t -> tm[k]?=some t) ->
  VRs K μ H ds vs -> TmR K μ H tm (setPs x ks ds) ((ts.zip vs).foldl (fun tmps (q:Tmp×Value)=>tmps.setIfInBounds q.1 q.2) tmps)
 | [],[],x,tmps,ds,vs,h,_,_,_,_=>by cases ds<;>exact h
 | [],_::_,_,_,_,_,_,_,hl,_,_=>by cases hl
 | _::_,[],_,_,_,_,_,_,hl,_,_=>by cases hl
 | k::ks,t::ts,x,tmps,[],vs,h,_,_,_,hv=>by
  have:vs=[]:=by have:=hv.1;simpa using this.symm
  subst this
  exact h
 | k::ks,t::ts,x,tmps,d::ds,[],_,_,_,_,hv=>by have:=hv.1;cases this
 | k::ks,t::ts,x,tmps,d::ds,v::vs,h,hs,hl,hk,hv=>by
  simp only[setPs,List.zip_cons_cons,List.foldl_cons]
  have h0:=hk 0 k t rfl rfl
  refine tmr_set hnd ⟨by simpa using h.1,fun k' t' e => ?_⟩ (fun q hq=>by simpa using hs q hq) (by simpa using hl) (fun i k' t' e e'=>hk (i+1) k' t' (by simpa using e) (by simpa using e')) ⟨by have:=hv.1;simpa using this,fun j d' v' e e'=>hv.2 (j+1) d' v' (by simpa using e) (by simpa using e')⟩
  obtain⟨d',v',e1,e2,e3⟩:=h.2 k' t' e
  by_cases hkk:k=k'
  ·subst hkk
   rw[h0]at e;cases e
   exact⟨d,v,List.getElem?_set_self (lt_of_get e1),put_same (hs t (List.mem_of_getElem? h0)),hv.2 0 d v rfl rfl⟩
  ·exact⟨d',v',by rw[List.getElem?_set_ne hkk];exact e1,put_other e2 (fun e'=>hkk (nodup_spec hnd k k' t h0 (e'▸e))),e3⟩
section
variable {P:Program} {V:VProg} {T:Kn -> World -> Prop} {cl:FuncId -> List D -> Heap -> CR}
theorem fold_size (ts:List (Tmp×Value)) : ∀ (tmps:Array Value),(ts.foldl (fun tmps (q:Tmp×Value)=>tmps.setIfInBounds q.1 q.2) tmps).size=tmps.size:=by
 induction ts with
 | nil=>intro tmps;rfl
 | cons t ts ih=>intro tmps;rw[List.foldl_cons,ih];simp
theorem rec_go {K:Kn} {μ:Mu} {H:Heap} {W:World} (hr:HR K μ H W) {y:Nat} {l:Loc} {f:Nat} {p:List Bool} {j nt:Nat} {tm:List Nat} {x:List D} {s s':RS} (hm:μ y=some l) (hH:H[y]?=some (.yh f p j nt tm x s)) {rec rec':Loop} (hl:W.heap[l.blk]?=some (.loop rec))
  (h2:loopAt thisP f p=some (rec.params,rec.assign,rec.body)) (h3:rec.tmps.size=nt) (h5:TmR K μ H tm x rec.tmps) (e1:rec'.params=rec.params) (e2:rec'.assign=rec.assign) (e3:rec'.body=rec.body) (e4:rec'.tmps=rec.tmps) (hs:LoopSt s' rec'.state rec'.pending) :
  ∃ μ',μ' y=some l /\ HR K μ' (H.set y (.yh f p j nt tm x s')) (W.putObj l.blk (.loop rec')) /\ Nx K μ H W K μ' (H.set y (.yh f p j nt tm x s')) (W.putObj l.blk (.loop rec')):=by
 have hlt:=hr.lt y l hm
 have hy:=lt_of_get hH
 have he:Ext K μ H K (μ.upd y l) (H.set y (.yh f p j nt tm x s')):=⟨fun _ _ _ e=>e,fun i li bi a c=>by
  by_cases hi:i=y
  ·subst hi
   rw[hm]at a;rw[hH]at c;cases a;cases c
   exact⟨l,_,by simp[Mu.upd],List.getElem?_set_self hy,.yh ..⟩
  ·exact⟨li,bi,by simp[Mu.upd,hi,a],by rw[List.getElem?_set_ne (Ne.symm hi)];exact c,.refl _ _⟩⟩
 refine⟨μ.upd y l,by simp[Mu.upd],hr.put0 y l l _ _ hm hH rfl (.yh ..) rfl rfl rfl (by rw[World.putObj_size];exact Nat.le_refl _) (fun r _ hne=>World.putObj_heap_other hne) (.inl rfl) (by rw[World.putObj_size];exact hlt) ?_⟩
 exact⟨rec',World.putObj_heap_same hlt,by rw[e1,e2,e3];exact h2,by rw[e4];exact h3,hs,by rw[e4];exact h5.ext he⟩
theorem rec_end {K:Kn} {μ:Mu} {H:Heap} {W:World} (hr:HR K μ H W) {y:Nat} {l:Loc} {f:Nat} {p:List Bool} {j nt:Nat} {tm:List Nat} {x:List D} {s:RS} (hm:μ y=some l) (hH:H[y]?=some (.yh f p j nt tm x s)) (o:Obj) :
  ∃ μ',HR K μ' (H.set y .no) (W.putObj l.blk o) /\ Nx K μ H W K μ' (H.set y .no) (W.putObj l.blk o):=by
 have hlt:=hr.lt y l hm
 exact⟨μ.upd y l,hr.put0 y l l _ _ hm hH rfl (.yn ..) rfl rfl rfl (by rw[World.putObj_size];exact Nat.le_refl _) (fun r _ hne=>World.putObj_heap_other hne) (.inl rfl) (by rw[World.putObj_size];exact hlt) trivial⟩
theorem rnd_spec {r:Rnd} (hP:P=thisP) (h:okRndP P V r=true) {params:Array Tmp} {az bd:Code} (hl:loopAt thisP r.f r.path=some (params,az,bd)) :
  r.ps.length=params.size /\ (∀ (i k t:Nat),r.ps[i]?=some k -> params.toList[i]?=some t -> r.tm[k]?=some t) /\ okCode P V r.nt r.tm [] az r.a=true /\ okCode P V r.nt r.tm [] bd r.b=true /\ nodup r.tm=true /\ ∀ t∈r.tm,t<r.nt:=by
 subst hP
 unfold okRndP at h
 rw[hl]at h
 simp only[okRnd,Bool.and_eq_true,beq_iff_eq,List.all_eq_true,List.mem_range,decide_eq_true_eq]at h
 obtain⟨⟨⟨⟨⟨h1,h2⟩,h3⟩,h4⟩,h5⟩,h6⟩:=h
 refine⟨h1,fun i k t e e' => ?_,h3,h4,h5,h6⟩
 have hi:i<params.size:=by have:=lt_of_get e';simpa using this
 have:=h2 i hi
 rw[e, <- Array.getElem?_toList,e']at this
 simpa using this
theorem round_end {K:Kn} {μ:Mu} {H:Heap} {W:World} {y:Nat} {l:Loc} {f:Nat} {p:List Bool} {j nt:Nat} {tm:List Nat} {x:List D} {s:RS} (hm:μ y=some l) (hH:H[y]?=some (.yh f p j nt tm x s)) {bs tm':List Nat} {nt':Nat} {nd:List Deferred} {st:St} {a:Act} {w:World} (hA:After ⟨K,μ,H,W⟩ tm' bs nt' nd st a w)
  {f':Nat} {p':List Bool} {j' nt2:Nat} {tm2:List Nat} {x':List D} (hy:st.hp[y]?=some (.yh f' p' j' nt2 tm2 x' .bz)) {jump:Option Code} {s':RS} (hs:LoopSt s' (if jump.isNone then .ready else .done) jump) :
  ∃ v w',(Instr.endRound l.blk jump).run P w = .ok v w' /\ Gives K μ H W (.b jump.isNone) (st.hp.set y (.yh f' p' j' nt2 tm2 x' s')) (.returned v) w':=by
 obtain⟨L,K',μ',fs,_,_⟩:=hA
 obtain⟨l',b',g1,g2,be⟩:=fs.nx.ext.m y l _ hm hH
 rw[hy]at g2
 cases g2
 cases be
 obtain⟨rec,c1,c2,c3,c4,c5⟩:=fs.hr.blk y l _ g1 hy
 obtain⟨μ2,_,hr2,nx2⟩:=rec_go fs.hr g1 hy c1 c2 c3 c5 (rec':={ rec with state:=if jump.isNone then .ready else .done,pending:=jump }) rfl rfl rfl rfl hs
 exact⟨_,_,run_endRound jump c1,K',μ2,hr2,fs.nx.trans nx2,.b ..⟩
theorem round_sim (hmx:P.follows .mixedOrders=true) (vok:VOK P V T) (cs:CallSim P T cl) (csp:CallSimP P T cl) (hcl:CallFit V cl) {n:Nat} {args:List D} {H:Heap} {d:D} {H':Heap} (h:roundR V cl n args H = .ret d H'):YldOk P T args H d H':=by
 unfold roundR at h
 split at h
 ·rename_i y az
  split at h
  ·rename_i f p j nt tm x hH
   split at h
   ·rename_i r hrnd
    split at h
    ·rename_i hc
     obtain⟨rfl,rfl,rfl,rfl,hlen⟩:=hc
     refine⟨y,az,rfl,fun K μ W vs l hT hr hv hm => ?_⟩
     obtain⟨rec,b1,b2,b3,b4,b5⟩:=hr.blk y l _ hm hH
     obtain⟨hP,hrok⟩:=vok.rnd j r hrnd
     obtain⟨q1,q2,q3,q4,q5,q6⟩:=rnd_spec hP hrok b2
     refine⟨rec,b1,by rw[<- hv.1, <- hlen];exact q1,fun m => ?_⟩
     cases hx:exec V cl n r.a ⟨setPs x r.ps az,H⟩with
     | mk e1 st1 =>
      rw[hx]at h
      cases e1 with
      | nm =>
       simp only[roundB]at h
       split at h
       ·rename_i f1 p1 j1 nt1 tm1 x1 hy1
        cases hx2:exec V cl n r.b ⟨st1.sl,st1.hp.set y (.yh f1 p1 j1 nt1 tm1 x1 .bz)⟩with
        | mk e2 st2 =>
         rw[hx2]at h
         have hg2:e2.fin=true:=by cases e2<;>first|rfl|cases h
         have hg2':e2.good=true:=by cases e2<;>first|rfl|cases h
         have hsz : ∀ t∈r.tm,t<rec.tmps.size:=fun t ht=>by rw[b3];exact q6 t ht
         have htr:=tmr_set q5 b5 hsz (by simpa using q1) q2 hv
         have hfz:=fold_size (rec.params.toList.zip vs) rec.tmps
         have hfe:(rec.params.zip vs.toArray).foldl (fun tmps (t,a)=>tmps.setIfInBounds t a) rec.tmps=(rec.params.toList.zip vs).foldl (fun tmps (q:Tmp×Value)=>tmps.setIfInBounds q.1 q.2) rec.tmps:=by
          rw[<- Array.foldl_toList,Array.toList_zip]
         rw[hfe]
         generalize (rec.params.toList.zip vs).foldl (fun tmps (q:Tmp×Value)=>tmps.setIfInBounds q.1 q.2) rec.tmps=tmps' at htr hfz
         have hA:After ⟨K,μ,H,W⟩ r.tm [] r.nt [] ⟨setPs x r.ps az,H⟩ { tmps:=tmps',defers:=[] } W :=
          ⟨fun _=>none,K,μ,⟨hr,.refl _ _ _ _,htr.1,fun k t a _=>htr.2 k t a,fun k t _ b=>(by simp at b),fun k r e=>(by cases e),fun k k' r e=>(by cases e)⟩,hfz.trans b3,rfl⟩
         refine roundIn_of_wpIn trivial ?_
         refine wpIn_mono (exec_sim (rd:=some l.blk) (m:=m) vok cs csp q5 q6 (drawn_of hmx vok cs csp hcl q5 q6) ⟨K,μ,H,W⟩ ⟨hT,hr⟩ [] n r.a rec.assign q3 _ st1 .nm _ W hx rfl hA) (fun e a1 w1 hq => ?_)
         cases e with
         | normal =>
          obtain⟨_,L1,K1,μ1,fs1,hs1,hd1⟩:=hq
          obtain⟨l',b',g1,g2,be⟩:=fs1.nx.ext.m y l _ hm hH
          rw[hy1]at g2
          cases g2
          cases be
          obtain⟨rec1,c1,c2,c3,c4,c5⟩:=fs1.hr.blk y l _ g1 hy1
          obtain⟨μ2,_,hr2,nx2⟩:=rec_go fs1.hr g1 hy1 c1 c2 c3 c5 (rec':={ rec1 with state := .busy }) rfl rfl rfl rfl (s' := .bz) ⟨rfl,c4.2⟩
          refine⟨_,run_beginRound c1 c4.1, ?_⟩
          refine wpIn_mono (exec_sim (rd:=some l.blk) (m:=m) vok cs csp q5 q6 (drawn_of hmx vok cs csp hcl q5 q6) ⟨K,μ,H,W⟩ ⟨hT,hr⟩ [] n r.b rec.body q4 _ st2 e2 a1 _ hx2 hg2' ⟨L1,K1,μ2,fs1.go hr2 nx2,hs1,hd1⟩) (fun e a3 w3 hq => ?_)
          cases e with
          | normal =>
           obtain⟨rfl,hq⟩:=hq
           simp only[rndEnd]at h
           split at h
           ·rename_i hy2
            cases h
            exact round_end hm hH hq hy2 (jump:=none) (s' := .rd) ⟨rfl,rfl⟩
           ·cases h
          | ret =>
           obtain⟨rfl,hq⟩:=hq
           simp only[rndEnd]at h
           split at h
           ·rename_i hy2
            cases h
            exact round_end hm hH hq hy2 (jump:=some .ret) (s' := .dr) ⟨rfl,rfl⟩
           ·cases h
          | exit id =>
           obtain⟨rfl,hq⟩:=hq
           simp only[rndEnd]at h
           split at h
           ·rename_i hy2
            cases h
            exact round_end hm hH hq hy2 (jump:=some (.exit id)) (s' := .dx id) ⟨rfl,rfl⟩
           ·cases h
          | panic ch=>obtain⟨q,v,rfl,_⟩:=hq;cases hg2
          | _=>exact hq.elim
         | panic ch=>obtain⟨q,v,e,_⟩:=hq;cases e
         | ret=>cases hq.1
         | exit id=>cases hq.1
         | _=>exact hq.elim
       ·cases h
      | _=>cases h
    ·cases h
   ·cases h
  ·cases h
 ·cases h
theorem codeAt_app : ∀ {p:List Bool} {c c1:Code} (q:List Bool),codeAt p c=some c1 -> codeAt (p++q) c=codeAt q c1
 | [],c,c1,q,h=>by cases h;rfl
 | b::p,c,c1,q,h=>by
  cases b<;>cases c<;>simp only[codeAt]at h<;>first|(cases h;done)|exact codeAt_app (p:=p) q h
theorem plain_sim (hmx:P.follows .mixedOrders=true) (vok:VOK P V T) (cs:CallSim P T cl) (csp:CallSimP P T cl) (hcl:CallFit V cl) {nt:Nat} {tm:List Nat} (hnd:nodup tm=true) (hlt : ∀ t∈tm,t<nt) {E:En} (hT:TE T E) (n m:Nat) {vc:VCode} {code:Code} (hok:okCode P V nt tm [] code vc=true)
  {st st':St} {ex:Ex} {a:Act} {W:World} (h:exec V cl n vc st=(ex,st')) (hg:ex.fin=true) (hA:SP E tm nt st a W):code.wpIn (FW none) m P (PostOf ex (SP E tm nt st')) a W:=by
 obtain⟨rs,K,μ,fs,hs,hd,hmk⟩:=hA
 have go : ∀ a' w',After ⟨K,μ,st.hp,W⟩ tm [] nt (rs.map markOf) st' a' w' -> SP E tm nt st' a' w':=fun a' w' ⟨L',K',μ',fs',hs',hd'⟩=>⟨rs,K',μ',fs.over fs',hs',hd',hmk.go fs'.nx.ext⟩
 refine wpIn_mono (exec_sim (rd:=none) (m:=m) vok cs csp hnd hlt (drawn_of hmx vok cs csp hcl hnd hlt) ⟨K,μ,st.hp,W⟩ ⟨vok.up hT.1 hT.2 fs.nx,fs.hr⟩ (rs.map markOf) n vc code hok st st' ex a W h (by cases ex<;>first|rfl|cases hg) ⟨fun _=>none,K,μ,fs.base,hs,hd⟩) (fun e a' w' hq => ?_)
 cases e with
 | normal=>exact⟨hq.1,go _ _ hq.2⟩
 | ret=>exact⟨hq.1,go _ _ hq.2⟩
 | exit id=>exact⟨hq.1,go _ _ hq.2⟩
 | panic ch=>obtain⟨q,v,rfl,_⟩:=hq;cases hg
 | _=>exact hq.elim
theorem rng_sim (vok:VOK P V T) (cs:CallSim P T cl) {nt:Nat} {tm:List Nat} (hlt : ∀ t∈tm,t<nt) {f:FuncId} {fn:Func} {body:Code} (hf:P.funcs[f]?=some fn) (hb:fn.body=some body) {E:En} (hT:TE T E) (n m:Nat) {j:Nat} {x:O} {path:List Bool} {g:Operand} {ps:Array Tmp} {ca cb:Code}
  (hok:okSpine P V f nt tm path (.rangeFunc g ps ca cb) (.rng j x)=true) (hp:codeAt path body=some (.rangeFunc g ps ca cb))
  {st st':St} {ex:Ex} {a:Act} {W:World} (h:exec V cl n (.rng j x) st=(ex,st')) (hg:ex.fin=true) (hA:SP E tm nt st a W):(Code.rangeFunc g ps ca cb).wpIn (FW none) m P (PostOf ex (SP E tm nt st')) a W:=by
 simp only[okSpine]at hok
 simp only[exec]at h
 split at h
 ·rename_i r hr
  rw[hr]at hok
  simp only[Bool.and_eq_true,beq_iff_eq]at hok
  obtain⟨⟨⟨⟨rfl,rfl⟩,rfl⟩,rfl⟩,hox⟩:=hok
  obtain⟨hP,_⟩:=vok.rnd j r hr
  split at h
  ·rename_i g' cap hx
   split at h
   ·cases h;cases hg
   rename_i hny
   obtain⟨rs,K,μ,fs,hs,hd,hmk⟩:=hA
   have hv:=okO_sound (c:={ P,V,nt:=r.nt,tm:=r.tm,bs:=[],ops := #[],vos:=[],rt:=[] }) (loc:=[]) (done:=fun _=>True) fs (fun i o vo t _ e=>by simp at e) hox (fun _ _=>trivial)
   rw[hx]at hv
   generalize hy:a.eval g=v at hv
   cases hv with
   | fn _ _ _ _ _ va vb la lb hva hvb =>
    have hva0:va=[]:=by simpa using la.symm
    subst hva0
    have hl:loopAt thisP r.f r.path=some (ps,ca,cb):=by
     rw[<- hP];simp only[loopAt,hf,hb,hp]
    cases hcall:cl g' (.yl (st.hp.length+1)::cap) (st.hp++[.df,.yh r.f r.path j r.nt r.tm st.sl .rd])with
    | ret dd H3 =>
     rw[hcall]at h
     obtain⟨⟨fg,hfg,hbg,hng⟩,hcalls⟩:=(cs g' _ _ dd H3 hcall).1 hny
     have hfr : ∀ fr,(Instr.enterLoop fr a.tmps ps ca cb (FW none).round).run P W=_:=fun fr=>run_enterLoop_outer fr a.tmps ps ca cb
     refine wpIn_rangeFunc (fun fr _ => ?_)
     obtain⟨p1,n1⟩:=fs.hr.push (.deferred (some [])) ⟨W.heap.size,0,0⟩ .df rfl (heap_alloc_new W _)
     have hx1:TmR K (μ.upd st.hp.length ⟨W.heap.size,0,0⟩) (st.hp++[.df]) r.tm st.sl a.tmps:=⟨fs.len,fun k t e=>by
      obtain⟨d,v,e1,e2,e3⟩:=fs.val k t e rfl
      exact⟨d,v,e1,e2,e3.ext n1.ext⟩⟩
     obtain ⟨p2,n2⟩:=p1.push (.loop { state := .ready,pending:=none,fn:=fr,tmps:=a.tmps,params:=ps,assign:=ca,body:=cb,defers:=W.heap.size }) ⟨W.heap.size+1,0,0⟩ (.yh r.f r.path j r.nt r.tm st.sl .rd) (by simp)
      ⟨_,by have:=heap_alloc_new (W.alloc (.deferred (some []))) (.loop { state := .ready,pending:=none,fn:=fr,tmps:=a.tmps,params:=ps,assign:=ca,body:=cb,defers:=W.heap.size });simpa using this,hl,hs,⟨rfl,rfl⟩,hx1.ext (Ext.push p1.dom _ _)⟩
     obtain⟨d,hres,hinv⟩:=run_range (P:=P) (l:=W.heap.size+1) hy hfg hbg hng ((W.alloc (.deferred (some []))).alloc (.loop { state := .ready,pending:=none,fn:=fr,tmps:=a.tmps,params:=ps,assign:=ca,body:=cb,defers:=W.heap.size }))
     refine⟨_,_,_,d,_,g',_,_,hfr fr,hres,fun _ _=>trivial,hinv,fun e=>(by cases e), ?_⟩
     have hE:E.H.length <= st.hp.length:=by
      rcases Nat.eq_zero_or_pos E.H.length with hz|hz
      ·omega
      ·obtain⟨l0,hl0⟩:=hT.2.tot (E.H.length-1) (by omega)
       obtain⟨_,_,_,g2,_⟩:=fs.nx.ext.m _ l0 _ hl0 (List.getElem?_eq_getElem (show E.H.length-1<E.H.length by omega))
       have:=lt_of_get g2
       omega
     have hmk1:Mk E (μ.upd st.hp.length ⟨W.heap.size,0,0⟩) (st.hp++[.df]) (W.heap.size::rs):=by
      have h1:=hmk.go n1.ext
      refine⟨List.nodup_cons.2 ⟨fun hin => ?_,h1.1⟩,fun r' hr' => ?_⟩
      ·obtain⟨_,m',l',_,g1,_,g3⟩:=hmk.2 _ hin
       have:=fs.hr.lt m' l' g1
       omega
      ·rcases List.mem_cons.1 hr' with rfl|hr'
       ·exact⟨fs.nx.size,st.hp.length,⟨W.heap.size,0,0⟩,hE,by simp[Mu.upd],by simp,rfl⟩
       ·exact h1.2 r' hr'
     have hHH:(st.hp++[.df])++[.yh r.f r.path j r.nt r.tm st.sl .rd]=st.hp++[.df,.yh r.f r.path j r.nt r.tm st.sl .rd]:=by simp
     rw[hHH]at p2 n2
     have hyat:(st.hp++[.df,.yh r.f r.path j r.nt r.tm st.sl .rd])[st.hp.length+1]?=some (.yh r.f r.path j r.nt r.tm st.sl .rd):=by
      rw[List.getElem?_append_right (by omega)];simp
     generalize hμ:(μ.upd st.hp.length ⟨W.heap.size,0,0⟩).upd (st.hp++[Blk.df]).length ⟨W.heap.size+1,0,0⟩=μ2 at p2 n2
     have hμy:μ2 (st.hp.length+1)=some ⟨W.heap.size+1,0,0⟩:=by rw[<- hμ];unfold Mu.upd;rw[if_pos (by simp)]
     have nx2:=n1.trans n2
     have hargs:VRs K μ2 (st.hp++[.df,.yh r.f r.path j r.nt r.tm st.sl .rd]) (.yl (st.hp.length+1)::cap) (.func (.yield (W.heap.size+1)) #[] #[]::vb):=by
      refine⟨by simp[lb],fun i d v e e' => ?_⟩
      cases i with
      | zero=>cases e;cases e';exact .yl _ _ _ _ _ hμy hyat rfl
      | succ i=>exact(hvb i d v e e').ext nx2.ext
     have hc:=hcalls K μ2 _ _ (vok.up hT.1 hT.2 (fs.nx.trans nx2)) p2 hargs
     rw[show(([]:List Value).toArray ++ #[.func (.yield (W.heap.size+1)) #[] #[]]++vb.toArray:Array Value)=(Value.func (.yield (W.heap.size+1)) #[] #[]::vb).toArray by simp]
     refine CallsIn.mono (callsIn_wide (n:=m-1).2 hc) (fun e w3 he => ?_)
     cases e with
     | panicked ch=>exact he.elim
     | outgrown=>exact he.elim
     | returned v =>
      obtain⟨K',μ',hr',nx',_⟩:=he
      obtain⟨l',b',g1,g2,be⟩:=nx'.ext.m _ _ _ hμy hyat
      have key : ∀ {f':Nat} {p':List Bool} {j' nt':Nat} {tm':List Nat} {x':List D} {s:RS} {pe:Option Code},H3[st.hp.length+1]?=some (.yh f' p' j' nt' tm' x' s) -> (∀ stt p,LoopSt s stt p -> stt ≠ .busy /\ p=pe) ->
        ∃ w4,(Instr.endLoop (W.heap.size+1)).run P w3 = .ok pe w4 /\ SP E r.tm r.nt ⟨st.sl,H3.set (st.hp.length+1) .no⟩ { a with defers:=markOf W.heap.size::a.defers } w4:=fun{f' p' j' nt' tm' x' s pe} hy3 hst=>by
       rw[hy3]at g2
       cases g2
       cases be
       obtain⟨rec,c1,c2,c3,c4,c5⟩:=hr'.blk _ _ _ g1 hy3
       obtain⟨k1,k2⟩:=hst _ _ c4
       obtain⟨μ4,hr4,nx4⟩:=rec_end hr' g1 hy3 (.loop { rec with state := .exhausted })
       have nxx:=n2.trans (nx'.trans nx4)
       exact⟨_,by rw[run_endLoop c1 k1,k2],W.heap.size::rs,K',μ4,fs.go hr4 (n1.trans nxx),hs,by simp[hd],hmk1.go nxx.ext⟩
      simp only[rngK]at h
      split at h
      ·rename_i hy3
       cases h
       obtain⟨w4,e1,e2⟩:=key hy3 (pe:=none) (fun stt p hh=>⟨by rw[hh.1];simp,hh.2⟩)
       exact⟨none,w4,e1,rfl,e2⟩
      ·rename_i hy3
       cases h
       obtain⟨w4,e1,e2⟩:=key hy3 (pe:=some .ret) (fun stt p hh=>⟨by rw[hh.1];simp,hh.2⟩)
       exact⟨some .ret,w4,e1,wpIn_ret ⟨rfl,e2⟩⟩
      ·rename_i id hy3
       cases h
       obtain⟨w4,e1,e2⟩:=key hy3 (pe:=some (.exit id)) (fun stt p hh=>⟨by rw[hh.1];simp,hh.2⟩)
       exact⟨some (.exit id),w4,e1,wpIn_exit ⟨rfl,e2⟩⟩
      ·cases h;cases hg
    | pan dd H3=>rw[hcall]at h;simp only[rngK]at h;cases h;cases hg
    | bad=>rw[hcall]at h;simp only[rngK]at h;cases h;cases hg
  ·cases h;cases hg
 ·cases h;cases hg
theorem spine_sim (hmx:P.follows .mixedOrders=true) (vok:VOK P V T) (cs:CallSim P T cl) (csp:CallSimP P T cl) (hcl:CallFit V cl) {nt:Nat} {tm:List Nat} (hnd:nodup tm=true) (hlt : ∀ t∈tm,t<nt) {f:FuncId} {fn:Func} {body:Code} (hf:P.funcs[f]?=some fn) (hb:fn.body=some body) {E:En} (hT:TE T E) (n m:Nat) :
    ∀ (vc:VCode) (path:List Bool) (code:Code),okSpine P V f nt tm path code vc=true -> codeAt path body=some code -> ∀ (st st':St) (ex:Ex) (a:Act) (W:World),exec V cl n vc st=(ex,st') -> ex.fin=true -> SP E tm nt st a W -> code.wpIn (FW none) m P (PostOf ex (SP E tm nt st')) a W:=by
  intro vc
  induction vc with
  | seq x y ihx ihy =>
    intro path code hok hp st st' ex a W h hg hA
    cases code<;>simp only[okSpine,okCode,Bool.false_eq_true]at hok
    rename_i c1 c2
    simp only[Bool.and_eq_true]at hok
    simp only[exec]at h
    have p1:codeAt (path++[false]) body=some c1:=by rw[codeAt_app _ hp];rfl
    have p2:codeAt (path++[true]) body=some c2:=by rw[codeAt_app _ hp];rfl
    cases hx:exec V cl n x st with
    | mk ex1 st1 =>
      rw[hx]at h
      cases hn:ex1 with
      | nm =>
        subst hn
        simp only at h
        refine wpIn_seq (wpIn_mono (ihx _ _ hok.1 p1 st st1 .nm a W hx rfl hA) (fun e a' w' hq => ?_))
        cases e<;>first|(exact ihy _ _ hok.2 p2 st1 st' ex a' w' h hg hq.2)|(exact(show False from hq).elim)|(cases hq.1;done)
      | _ =>
        subst hn
        simp only[Prod.mk.injEq]at h
        obtain⟨rfl,rfl⟩:=h
        first
          | (cases hg;done)
          | (refine wpIn_seq (wpIn_mono (ihx _ _ hok.1 p1 st st1 _ a W hx rfl hA) (fun e a' w' hq => ?_))
             cases e<;>first|(exact(show False from hq).elim)|(cases hq.1;done)|(exact hq))
  | block id x ih =>
    intro path code hok hp st st' ex a W h hg hA
    cases code<;>simp only[okSpine,okCode,Bool.false_eq_true]at hok
    rename_i id' c1
    simp only[Bool.and_eq_true,beq_iff_eq]at hok
    obtain⟨rfl,hok⟩:=hok
    simp only[exec]at h
    have p1:codeAt (path++[false]) body=some c1:=by rw[codeAt_app _ hp];rfl
    cases hx:exec V cl n x st with
    | mk ex1 st1 =>
      rw[hx]at h
      have hg1:ex1.fin=true:=by
        cases ex1<;>simp only at h<;>first|rfl|(cases h;exact hg)
      refine wpIn_block (wpIn_mono (ih _ _ hok p1 st st1 ex1 a W hx hg1 hA) (fun e a' w' hq => ?_))
      cases e with
      | normal=>obtain⟨rfl,hq⟩:=hq;cases h;exact⟨rfl,hq⟩
      | ret=>obtain⟨rfl,hq⟩:=hq;cases h;exact⟨rfl,hq⟩
      | exit id' =>
        obtain⟨rfl,hq⟩:=hq
        simp only[Exit.inBlock]
        simp only at h
        split at h
        · rename_i he;subst he;cases h;rw[if_pos rfl];exact⟨rfl,hq⟩
        · rename_i he;cases h;rw[if_neg he];exact⟨rfl,hq⟩
      | _=>exact(show False from hq).elim
  | rng j x =>
    intro path code hok hp st st' ex a W h hg hA
    cases code with
    | rangeFunc g ps ca cb=>exact rng_sim vok cs hlt hf hb hT n m hok hp h hg hA
    | _=>simp only[okSpine,okCode,Bool.false_eq_true]at hok
  | _ =>
    intro path code hok hp st st' ex a W h hg hA
    refine plain_sim hmx vok cs csp hcl hnd hlt hT n m ?_ h hg hA
    simpa only[okSpine]using hok
theorem enterR_sim (hmx:P.follows .mixedOrders=true) (vok:VOK P V T) (cs:CallSim P T cl) (csp:CallSimP P T cl) (hcl:CallFit V cl) {f:FuncId} {fn:Func} {vf:VFunc} {tm bs:List Nat} (hf:P.funcs[f]?=some fn) (hok:okFn P V fn vf tm bs=true) (hd:vf.dfr=none) (hrg:vf.rg=some f)
  {n:Nat} {args:List D} {H:Heap} {d:D} {H':Heap} (h:enterR V cl n vf args H = .ret d H') {K:Kn} {μ:Mu} {W:World} {vs:List Value} (hT:T K W) (hr:HR K μ H W) (hv:VRs K μ H args vs):Calls P f vs.toArray W (Gives K μ H W d H'):=by
 unfold okFn at hok
 rw[hd,hrg]at hok
 simp only[Bool.and_eq_true,beq_iff_eq,decide_eq_true_eq,List.all_eq_true,List.mem_range]at hok
 obtain⟨⟨⟨⟨⟨⟨⟨⟨⟨hcode,hnpar⟩,hle⟩,hnsl⟩,htm⟩,hlt⟩,hnd⟩,hbs⟩,hnt⟩,hres⟩:=hok
 cases hb:fn.body with
 | none=>rw[hb]at hcode;cases hcode
 | some code =>
  rw[hb]at hcode
  simp only[Bool.and_eq_true,List.isEmpty_iff]at hcode
  obtain⟨rfl,hcode⟩:=hcode
  unfold enterR at h
  split at h
  ·rename_i hlen
   have hvl:vs.length=vf.npar:=by rw[<- hv.1];exact hlen
   obtain⟨L,K1,μ1,fs,hs,hdf⟩:=start_after (bs:=[]) hle hnsl htm hlt hnd (fun k hk=>by cases hk) hnt hlen hvl hr hv
   have hA:SP ⟨K,μ,H,W⟩ tm fn.ntmps ⟨args++List.replicate (vf.nsl-vf.npar) .u,H⟩ { tmps:=vs.toArray++Array.replicate (fn.ntmps-vs.toArray.size) undef,defers:=[] } W :=
    ⟨[],K1,μ1,fs.noL,hs,rfl,List.nodup_nil,fun r hr=>by cases hr⟩
   have go : ∀ ex st,exec V cl n vf.body ⟨args++List.replicate (vf.nsl-vf.npar) .u,H⟩=(ex,st) -> (ex = .nm \/ ex = .rt) -> ∀ ds,resAll ⟨st.sl,unmark H.length st.hp⟩ vf.res=some ds -> Calls P f vs.toArray W (Gives K μ H W (oneOr ds) (unmark H.length st.hp)):=by
    intro ex st hex hgood ds hds
    refine(callsIn_wide (n:=0)).1 (callsIn_of_wp_marks hf hb trivial ?_)
    refine wpIn_mono (spine_sim hmx vok cs csp hcl hnd hlt hf hb (E:=⟨K,μ,H,W⟩) ⟨hT,hr⟩ n 0 vf.body [] code hcode rfl _ st ex _ W hex (by rcases hgood with rfl|rfl<;>rfl) hA) (fun e a w hq => ?_)
    have fin:SP ⟨K,μ,H,W⟩ tm fn.ntmps st a w -> LeavesInM Fence.wide 0 P fn a.tmps (Gives K μ H W (oneOr ds) (unmark H.length st.hp)) a.defers .returning w:=fun⟨rs,K',μ',fs',_,hdf',hmk⟩=>by
     rw[hdf']
     have own : ∀ r∈rs,Own μ' st.hp r:=fun r hr'=>by
      obtain⟨_,m',l,_,g1,g2,g3⟩:=hmk.2 r hr'
      exact⟨m',l,_,g1,g2,rfl,g3⟩
     have nown : ∀ r∈rs,¬ Own μ' (unmark H.length st.hp) r:=fun r hr' ⟨id,l,b,k1,k2,k3,k4⟩=>by
      obtain⟨_,m',l',g0,g1,g2,g3⟩:=hmk.2 r hr'
      rcases unmark_inv k2 with hx|⟨_,_,rfl⟩
      ·have:=fs'.hr.inj id m' l l' b .df k1 g1 hx g2 k3 rfl (by omega)
       subst this
       rw[unmark_ge g0,g2]at k2
       cases k2
       cases k3
      ·cases k3
     have hr1:=(fs'.hr.unmark H.length).shut rs (fun r hr'=>⟨nown r hr',fun q v hk=>fs'.hr.kf r q v hk (own r hr')⟩)
     have hge : ∀ r∈rs,W.heap.size <= r:=fun r hr'=>(hmk.2 r hr').1
     have nx1:Nx K μ H W K' μ' (unmark H.length st.hp) (shut rs w):=by
      obtain⟨o1,o2,o3⟩:=shut_os rs w
      refine⟨⟨fs'.nx.ext.k,fun id l b k1 k2 => ?_⟩,o1.trans fs'.nx.os,o2.trans fs'.nx.tape,o3.trans fs'.nx.output,by rw[shut_size];exact fs'.nx.size,fun r k1 k2 => ?_,fun r k=>fs'.nx.og r (own_unmark k),fs'.nx.kg⟩
      ·obtain⟨l',b',g1,g2,be⟩:=fs'.nx.ext.m id l b k1 k2
       exact⟨l',b',g1,by rw[unmark_lt (lt_of_get k2)];exact g2,be⟩
      ·rw[shut_other rs w r (fun hin=>by have:=hge r hin;omega)]
       exact fs'.nx.keep r k1 k2
     have fs2:FS ⟨K,μ,H,W⟩ tm [] K' μ' (fun _=>none) st.sl (unmark H.length st.hp) a.tmps (shut rs w) :=
      ⟨hr1,nx1,fs'.len,fun k t e e'=>by
       obtain⟨d,v,g1,g2,g3⟩:=fs'.val k t e e'
       exact⟨d,v,g1,g2,g3.same (fun m b e hb=>unmark_same e hb)⟩,fun k t _ b=>(by simp at b),fun k r e=>(by cases e),fun k k' r e=>(by cases e)⟩
     obtain⟨v,h1,h2⟩:=res_sound (P:=P) fs2 hres hds
     exact leave_marks rs w hmk.1 (fun r hr'=>by
      obtain⟨_,m',l,_,g1,g2,rfl⟩:=hmk.2 r hr'
      exact fs'.hr.blk m' l _ g1 g2) ⟨v,h1,K',μ',hr1,nx1,h2⟩
    cases e with
    | normal=>exact fin hq.2
    | ret=>exact fin hq.2
    | exit id=>rcases hgood with rfl|rfl<;>cases hq.1
    | _=>exact hq.elim
   split at h
   ·rename_i st hex
    split at h
    ·rename_i ds hds
     cases h
     exact go _ _ hex (.inl rfl) ds hds
    ·cases h
   ·rename_i st hex
    split at h
    ·rename_i ds hds
     cases h
     exact go _ _ hex (.inr rfl) ds hds
    ·cases h
   ·cases h
  ·cases h
theorem enterR_nopan {n:Nat} {vf:VFunc} {args:List D} {H:Heap} {q:D} {H':Heap} (h:enterR V cl n vf args H = .pan q H'):False:=by
 unfold enterR at h
 repeat' split at h
 all_goals cases h
theorem roundR_nopan {n:Nat} {args:List D} {H:Heap} {q:D} {H':Heap} (h:roundR V cl n args H = .pan q H'):False:=by
 unfold roundR roundB rndEnd at h
 repeat' split at h
 all_goals cases h
end
theorem enter_all {P:Program} {V:VProg} {T:Kn -> World -> Prop} {cl:FuncId -> List D -> Heap -> CR} (hm:P.follows .mixedOrders=true) (vok:VOK P V T) (cs:CallSim P T cl) (csp:CallSimP P T cl) (hcl:CallFit V cl) {f:FuncId} {fn:Func} {vf:VFunc} {tm bs:List Nat} (hf:P.funcs[f]?=some fn) (hok:okFn P V fn vf tm bs=true) (hd:vf.dfr=none) (hrg:vf.rg=none)
  {n:Nat} {args:List D} {H:Heap} {K:Kn} {μ:Mu} {W:World} {vs:List Value} (hT:T K W) (hr:HR K μ H W) (hv:VRs K μ H args vs):(∀ d H',enter V cl n vf args H = .ret d H' -> Calls P f vs.toArray W (Gives K μ H W d H')) /\ ∀ q H',enter V cl n vf args H = .pan q H' -> Calls P f vs.toArray W (Pans K μ H W q H'):=by
 unfold okFn at hok
 rw[hd,hrg]at hok
 simp only[Bool.and_eq_true,beq_iff_eq,decide_eq_true_eq,List.all_eq_true,List.mem_range]at hok
 obtain⟨⟨⟨⟨⟨⟨⟨⟨⟨hcode,hnpar⟩,hle⟩,hnsl⟩,htm⟩,hlt⟩,hnd⟩,hbs⟩,hnt⟩,hres⟩:=hok
 cases hb:fn.body with
 | none=>rw[hb]at hcode;cases hcode
 | some code =>
  rw[hb]at hcode
  unfold enter
  by_cases hlen:args.length=vf.npar
  ·rw [if_pos hlen]
   have hvl:vs.length=vf.npar:=by rw[<- hv.1];exact hlen
   have hA:=start_after hle hnsl htm hlt hnd hbs hnt hlen hvl hr hv
   have wp:=fun ex st hex hg=>exec_sim (rd:=none) (m:=0) vok cs csp hnd hlt (drawn_of hm vok cs csp hcl hnd hlt) ⟨K,μ,H,W⟩ ⟨hT,hr⟩ [] n vf.body code hcode ⟨args++List.replicate (vf.nsl-vf.npar) .u,H⟩ st ex _ W hex hg hA
   have go : ∀ ex st,exec V cl n vf.body ⟨args++List.replicate (vf.nsl-vf.npar) .u,H⟩=(ex,st) -> (ex = .nm \/ ex = .rt) -> ∀ ds,resAll st vf.res=some ds -> Calls P f vs.toArray W (Gives K μ H W (oneOr ds) st.hp):=by
    intro ex st hex hgood ds hds
    refine calls_of_wp hf hb (wp_mono (wpIn_wide.1 (wp ex st hex (by rcases hgood with rfl|rfl<;>rfl))) (fun e a w hq => ?_))
    have fin:After ⟨K,μ,H,W⟩ tm bs fn.ntmps [] st a w -> a.defers=[] /\ ∃ v,(results fn a.tmps).run P w = .ok v w /\ Gives K μ H W (oneOr ds) st.hp (.returned v) w:=fun hq=>by
     obtain⟨L,K',μ',fs,_,hdf⟩:=hq
     obtain⟨v,h1,h2⟩:=res_sound (P:=P) fs hres hds
     exact⟨hdf,v,h1,K',μ',fs.hr,fs.nx,h2⟩
    cases e with
    | normal=>exact fin hq.2
    | ret=>exact fin hq.2
    | exit id=>rcases hgood with rfl|rfl<;>cases hq.1
    | panic ch=>obtain⟨_,_,hx,_⟩:=hq;rcases hgood with rfl|rfl<;>cases hx
    | _=>exact hq.elim
   refine⟨fun d H' h => ?_,fun q H' h => ?_⟩
   ·split at h
    ·rename_i st hex
     split at h
     ·rename_i ds hds
      cases h
      exact go _ _ hex (.inl rfl) ds hds
     ·cases h
    ·rename_i st hex
     split at h
     ·rename_i ds hds
      cases h
      exact go _ _ hex (.inr rfl) ds hds
     ·cases h
    ·cases h
    ·cases h
   ·split at h
    ·split at h<;>cases h
    ·split at h<;>cases h
    ·rename_i q' st hex
     cases h
     refine calls_of_wp hf hb (wp_mono (wpIn_wide.1 (wp _ st hex rfl)) (fun e a w hq => ?_))
     cases e with
     | panic ch =>
      obtain⟨q2,v,e1,rfl,L,K',μ',fs,_,hdf,hv'⟩:=hq
      cases e1
      exact⟨hdf,v,K',μ',rfl,fs.hr,fs.nx,hv'⟩
     | normal=>cases hq.1
     | ret=>cases hq.1
     | exit id=>cases hq.1
     | _=>exact hq.elim
    ·cases h
  ·rw[if_neg hlen]
   exact⟨fun _ _ h=>(by cases h),fun _ _ h=>(by cases h)⟩
theorem FS.slot {E:En} {tm bs:List Nat} {K:Kn} {μ:Mu} {L:Nat -> Option Nat} {sl:List D} {H:Heap} {tmps:Array Value} {W:World} (h:FS E tm bs K μ L sl H tmps W) (hnd:nodup tm=true) {k t:Nat} (htm:tm[k]?=some t) (hb:bs.contains k=false) (ht:t<tmps.size) {d:D} {v:Value} (hv:VR K μ H d v) :
  FS E tm bs K μ L (sl.set k d) H (tmps.setIfInBounds t v) W:=by
 have hk:k<sl.length:=by rw[h.len];exact lt_of_get htm
 refine⟨h.hr,h.nx,by simpa using h.len,fun k' t' x y => ?_,fun k' t' x y => ?_,h.own,h.inj⟩
 ·by_cases hkk:k=k'
  ·subst hkk
   rw[htm]at x;cases x
   exact⟨d,v,List.getElem?_set_self hk,put_same ht,hv⟩
  ·obtain⟨d',u,e1,e2,e3⟩:=h.val k' t' x y
   refine⟨d',u,by rw[List.getElem?_set_ne hkk];exact e1, ?_,e3⟩
   exact put_other e2 (fun e=>hkk (nodup_spec hnd k k' t htm (e▸x)))
 ·have hkk:k≠k':=fun e=>by subst e;rw[hb]at y;cases y
  rcases h.box k' t' x y with e|⟨r,cs,vs,ty,h1,h2,h3,h4,h5⟩
  ·exact .inl (by rw[List.getElem?_set_ne hkk];exact e)
  ·refine .inr ⟨r,cs,vs,ty,h1,by rw[List.getElem?_set_ne hkk];exact h2, ?_,h4,h5⟩
   exact put_other h3 (fun e=>hkk (nodup_spec hnd k k' t htm (e▸x)))
def CloQ (K:Kn) (μ:Mu) (H:Heap) (W:World) (H':Heap) (u':FrameMode):Ending -> FrameMode -> World -> Prop
 | .returned _,u,W'=>u=u' /\ ∃ K' μ',HR K' μ' H' W' /\ Nx K μ H W K' μ' H' W'
 | _,_,_=>False
inductive Rcv:FrameMode -> FrameMode -> D -> Value -> Prop
 | ret:Rcv .returning .returning .ni .nilIface
 | pan (x:D) (v:Value):Rcv (.panicking (PanE v)) (.panicking [{ v,recovered:=true }]) x v
theorem clo_sim {P:Program} {V:VProg} {T:Kn -> World -> Prop} {cl:FuncId -> List D -> Heap -> CR} (hm:P.follows .mixedOrders=true) (vok:VOK P V T) (cs:CallSim P T cl) (csp:CallSimP P T cl) (hcl:CallFit V cl) {q:Dfr} (hok:okClo P V q=true) {n:Nat} {args:List D} {x:D} {st3:St} {ex:Ex}
  {H:Heap} (hlen:args.length=q.caps.length) (hx:exec V cl n q.body ⟨(args++List.replicate (q.ns-args.length) D.u).set q.rk x,H⟩=(ex,st3)) (hex:ex = .nm \/ ex = .rt) {K:Kn} {μ:Mu} {W:World} {vs:List Value} (hT:T K W) (hr:HR K μ H W) (hv:VRs K μ H args vs) {v:Value} (hxv:VR K μ H x v) {u u':FrameMode} (hu:Rcv u u' x v) :
  CallsD P q.g vs.toArray u W (CloQ K μ H W st3.hp u'):=by
 unfold okClo at hok
 split at hok
 ·rename_i fg hfg
  simp only[Bool.and_eq_true,beq_iff_eq,decide_eq_true_eq,List.all_eq_true,List.mem_range,bne_iff_ne,Array.isEmpty_iff]at hok
  obtain⟨⟨⟨⟨⟨⟨⟨⟨⟨⟨⟨⟨hcode,hres⟩,hpar⟩,hfree⟩,hle⟩,hns⟩,htm⟩,hlt⟩,hnd⟩,hbs⟩,hnt⟩,hrk⟩,hname⟩:=hok
  split at hcode
  ·rename_i id ops c2 hb
   simp only[Bool.and_eq_true]at hcode
   obtain⟨hop,hc2⟩:=hcode
   split at hop
   ·rename_i o1 o2 hol
    simp only[Bool.and_eq_true,Option.isNone_iff_eq_none]at hop
    obtain⟨⟨hop,hg1⟩,hg2⟩:=hop
    split at hop
    ·rename_i az ats t3 t t2 ho1 hd1 ho2 hd2
     simp only[Bool.and_eq_true,beq_iff_eq,Bool.not_eq_true',decide_eq_true_eq]at hop
     obtain⟨⟨⟨⟨rfl,ht3⟩,ht3lt⟩,htk⟩,hbk⟩:=hop
     have hvl:vs.length=q.caps.length:=by rw[<- hv.1];exact hlen
     have hA:=start_after (bs:=q.bs) hle hns htm hlt hnd hbs hnt hlen hvl hr hv
     refine callsD_of_wpS hfg hb (fun c₀ cs0 hmode=>wpS_seq ?_)
     refine wpS_region ?_
     have hsz:ops.size=2:=by rw[<- Array.length_toList,hol];rfl
     have hg0:ops[0]?=some o1:=by rw[<- Array.getElem?_toList,hol];rfl
     have hg1':ops[1]?=some o2:=by rw[<- Array.getElem?_toList,hol];rfl
     have w1 : ∀ y,Region.wanted o1 y=true:=fun y=>by simp[Region.wanted,hg1]
     have w2 : ∀ y,Region.wanted o2 y=true:=fun y=>by simp[Region.wanted,hg2]
     have e1 : ∀ ρ W,(execOp ρ o1).run P W = .ok .recover W:=fun ρ W=>by simp[execOp,ho1,resolve,invoke,builtin]
     have e2 : ∀ ρ W,(execOp ρ o2).run P W = .ok (.value (ρ (.tmp t))) W:=fun ρ W=>by simp[execOp,ho2]
     rw[hsz]
     obtain⟨L,K1,μ1,fs,hs,hdf⟩:=hA
     simp only at hs hdf
     have hts:t<(vs.toArray++Array.replicate (fg.ntmps-vs.toArray.size) undef).size:=by rw[hs];exact ht3lt
     have fin:wpOpsS P ops (Exit.thenS (c2.wpS P (bodyPostS P fg c₀ cs0 (CloQ K μ H W st3.hp u'))) (bodyPostS P fg c₀ cs0 (CloQ K μ H W st3.hp u'))) [1] (({ tmps:=vs.toArray++Array.replicate (fg.ntmps-vs.toArray.size) undef,defers:=[] }:Act).put o1.dst v) ({ c₀ with mode:=u' }::cs0) W:=by
      simp only[wpOpsS,hg1',w2,if_true,e2,Oper.upon,Exit.thenS]
      rw[hd1,hd2]
      have hev:(({ tmps:=vs.toArray++Array.replicate (fg.ntmps-vs.toArray.size) undef,defers:=[] }:Act).put (some t) v).eval (.tmp t)=v:=by
       simp only[Act.put,Act.eval]
       exact getD_eq (put_same hts)
      rw[hev]
      refine wpS_of_wp ?_
      have hA2:After ⟨K,μ,H,W⟩ q.tm q.bs fg.ntmps [] ⟨(args++List.replicate (q.ns-args.length) D.u).set q.rk x,H⟩ ((({ tmps:=vs.toArray++Array.replicate (fg.ntmps-vs.toArray.size) undef,defers:=[] }:Act).put (some t) v).put (some t2) v) W :=
       ⟨L,K1,μ1,by rw[hlen];exact(fs.tmp v (not_tm ht3)).slot hnd htk hbk (by simp only[Array.size_setIfInBounds];rw[hs];exact hlt _ (List.mem_of_getElem? htk)) (hxv.ext fs.nx.ext),by simp only[Act.put,Array.size_setIfInBounds];exact hs,rfl⟩
      refine wp_mono (wpIn_wide.1 (exec_sim (rd:=none) (m:=0) vok cs csp hnd hlt (drawn_of hm vok cs csp hcl hnd hlt) ⟨K,μ,H,W⟩ ⟨hT,hr⟩ [] n q.body c2 hc2 _ st3 ex _ W hx (by rcases hex with rfl|rfl<;>rfl) hA2)) (fun e a' w' hq => ?_)
      have done:After ⟨K,μ,H,W⟩ q.tm q.bs fg.ntmps [] st3 a' w' -> a'.defers=[] /\ ∃ u'',({ c₀ with mode:=u' }::cs0:List Frame)={ c₀ with mode:=u'' }::cs0 /\ ∃ v,(results fg a'.tmps).run P w' = .ok v w' /\ CloQ K μ H W st3.hp u' (.returned v) u'' w':=fun hq=>by
       obtain⟨L',K',μ',fs',_,hdf'⟩:=hq
       exact⟨hdf',u',rfl,.tuple #[],by simp[results,hres],rfl,K',μ',fs'.hr,fs'.nx⟩
      cases e with
      | normal=>exact done hq.2
      | ret=>exact done hq.2
      | exit id=>rcases hex with rfl|rfl<;>cases hq.1
      | panic ch=>obtain⟨_,_,hx',_⟩:=hq;rcases hex with rfl|rfl<;>cases hx'
      | _=>exact hq.elim
     show wpOpsS P ops _ [0,1] _ _ _
     cases hu with
     | ret =>
      have hrd:recoverD (c₀::cs0)=none:=by simp[recoverD,hmode]
      have hc:({ c₀ with mode := .returning }:Frame)=c₀:=by rw[<- hmode]
      rw[hc]at fin
      unfold wpOpsS
      simp only[hg0,w1,if_true,e1,hrd]
      exact fin
     | pan x v =>
      have hrd:recoverD (c₀::cs0)=some (v,{ c₀ with mode := .panicking [{ v,recovered:=true }] }::cs0):=by simp[recoverD,hmode]
      unfold wpOpsS
      simp only[hg0,w1,if_true,e1,hrd]
      exact fin
    ·cases hop
   ·cases hop
  ·cases hcode
 ·cases hok
theorem enterD_sim {P:Program} {V:VProg} {T:Kn -> World -> Prop} {cl:FuncId -> List D -> Heap -> CR} (hm:P.follows .mixedOrders=true) (vok:VOK P V T) (cs:CallSim P T cl) (csp:CallSimP P T cl) (hcl:CallFit V cl) {f:FuncId} {fn:Func} {vf:VFunc} {tm bs:List Nat} {q:Dfr} (hf:P.funcs[f]?=some fn) (hok:okFn P V fn vf tm bs=true) (hd:vf.dfr=some q)
  {n:Nat} {args:List D} {H:Heap} {d:D} {H':Heap} (h:enterD V cl n vf q args H = .ret d H') {K:Kn} {μ:Mu} {W:World} {vs:List Value} (hT:T K W) (hr:HR K μ H W) (hv:VRs K μ H args vs):Calls P f vs.toArray W (Gives K μ H W d H'):=by
 unfold okFn at hok
 rw[hd]at hok
 simp only[Bool.and_eq_true,beq_iff_eq,decide_eq_true_eq,List.all_eq_true,List.mem_range]at hok
 obtain⟨⟨⟨⟨⟨⟨⟨⟨⟨hcode,hnpar⟩,hle⟩,hnsl⟩,htm⟩,hlt⟩,hnd⟩,hbs⟩,hnt⟩,hres⟩:=hok
 split at hcode
 ·rename_i h1 h2;cases h1
 ·rename_i q' c0 id ops c1 hq hb
  cases hq
  simp only[Bool.and_eq_true]at hcode
  obtain⟨⟨⟨h0,hop⟩,h1⟩,hclo⟩:=hcode
  unfold okDfr at hop
  split at hop
  ·rename_i o1 o2 hol
   simp only[Bool.and_eq_true,Option.isNone_iff_eq_none]at hop
   obtain⟨⟨⟨hop,hg1⟩,hg2⟩,hd2⟩:=hop
   split at hop
   ·rename_i g fs0 cvs t0 t az ats ho1 hd1 ho2
    simp only[Bool.and_eq_true,beq_iff_eq,Bool.not_eq_true',decide_eq_true_eq,Array.isEmpty_iff]at hop
    obtain⟨⟨⟨⟨⟨⟨rfl,rfl⟩,rfl⟩,rfl⟩,ht⟩,htlt⟩,hcv⟩:=hop
    unfold enterD at h
    split at h
    ·rename_i hlen
     have hvl:vs.length=vf.npar:=by rw[<- hv.1];exact hlen
     have hA:=start_after hle hnsl htm hlt hnd hbs hnt hlen hvl hr hv
     split at h
     ·rename_i st1 hpre
      split at h
      ·cases h
      ·rename_i hno
       have hno:st1.sl.all D.noBx=true:=by simpa using hno
       have core : ∀ ex2 st2 x,exec V cl n vf.body st1=(ex2,st2) -> ((ex2 = .nm \/ ex2 = .rt) /\ x = .ni \/ ex2 = .pn x) -> leaveD V cl n vf q H.length ((q.caps.map O.s).map (O.ev [] st1.sl)) x st2 = .ret d H' -> Calls P f vs.toArray W (Gives K μ H W d H'):=by
        intro ex2 st2 x hbody hxx hl
        unfold leaveD at hl
        have hl' : ∃ ex3 st3 ds,exec V cl n q.body ⟨((q.caps.map O.s).map (O.ev [] st1.sl)++List.replicate (q.ns-((q.caps.map O.s).map (O.ev [] st1.sl)).length) D.u).set q.rk x,st2.hp⟩=(ex3,st3) /\ (ex3 = .nm \/ ex3 = .rt) /\ resAll ⟨st2.sl,st3.hp⟩ vf.res=some ds /\ d=oneOr ds /\ H'=st3.hp:=by
         split at hl
         ·rename_i st3 he
          split at hl
          ·split at hl
           ·rename_i ds hds;cases hl;exact⟨_,_,_,he,.inl rfl,hds,rfl,rfl⟩
           ·cases hl
          ·cases hl
         ·rename_i st3 he
          split at hl
          ·split at hl
           ·rename_i ds hds;cases hl;exact⟨_,_,_,he,.inr rfl,hds,rfl,rfl⟩
           ·cases hl
          ·cases hl
         ·cases hl
        obtain⟨ex3,st3,ds,he3,hex3,hds,rfl,rfl⟩:=hl'
        refine calls_of_wp_defers hf hb (wp_seq (wp_mono (wpIn_wide.1 (exec_sim (rd:=none) (m:=0) vok cs csp hnd hlt (drawn_of hm vok cs csp hcl hnd hlt) ⟨K,μ,H,W⟩ ⟨hT,hr⟩ [] n q.pre c0 h0 _ st1 .nm _ W hpre rfl hA)) (fun e a w hq => ?_)))
        cases e with
        | ret=>cases hq.1
        | exit id=>cases hq.1
        | panic ch=>obtain⟨_,_,hx',_⟩:=hq;cases hx'
        | goto l=>exact hq.elim
        | outgrown=>exact hq.elim
        | normal =>
         obtain⟨-,L1,K1,μ1,fs1,hs1,hdf1⟩:=hq
         have hT1:=vok.up hT hr fs1.nx
         have fs1':FS ⟨K1,μ1,st1.hp,w⟩ tm bs K1 μ1 (fun _=>none) st1.sl st1.hp a.tmps w:=by
          refine⟨fs1.hr,.refl _ _ _ _,fs1.len,fs1.val,fun k t' x y => ?_,fun k r e=>(by cases e),fun k k' r e=>(by cases e)⟩
          rcases fs1.box k t' x y with e|⟨r,cs',vs',ty,g1,g2,g3,g4,g5⟩
          ·exact .inl e
          ·have:=List.all_eq_true.1 hno _ (List.mem_of_getElem? g2)
           cases this
         have hcaps:=okOs_sound (c:={ P,V,nt:=fn.ntmps,tm,bs,ops := #[],vos:=[],rt:=[] }) (done:=fun _=>True) (loc:=[]) fs1 (fun i o vo t' _ e=>by simp at e) hcv (fun _ _=>trivial)
         refine wp_seq (wp_region_list ?_)
         rw[hol]
         have w1 : ∀ y,Region.wanted o1 y=true:=fun y=>by simp[Region.wanted,hg1]
         have w2 : ∀ y,Region.wanted o2 y=true:=fun y=>by simp[Region.wanted,hg2]
         have e1:(execOp a.eval o1).run P w = .ok (.value (.func (.func q.g) #[] (cvs.map a.eval))) w:=by simp[execOp,ho1,Instr.makeFunc]
         have hts:t<a.tmps.size:=by rw[hs1];exact htlt
         have hev:(a.put (some t) (.func (.func q.g) #[] (cvs.map a.eval))).eval (.tmp t) = .func (.func q.g) #[] (cvs.map a.eval):=by
          simp only[Act.put,Act.eval]
          exact getD_eq (put_same hts)
         have e2:(execOp (a.put (some t) (.func (.func q.g) #[] (cvs.map a.eval))).eval o2).run P w = .ok (.defer { target := .fn (.func q.g) (cvs.map a.eval),args := #[] }) w:=by
          simp[execOp,ho2,resolve,hev,Deferred.ofValue]
         simp only[wpList,w1,w2,if_true]
         left
         unfold Oper.wp
         rw[e1,Oper.upon_value,hd1]
         left
         rw[e2,Oper.upon_defer,hd2]
         show Code.wp P c1 _ _ _
         have hA2:After ⟨K1,μ1,st1.hp,w⟩ tm bs fn.ntmps [{ target := .fn (.func q.g) (cvs.map a.eval),args := #[] }] st1 (({ a.put (some t) (.func (.func q.g) #[] (cvs.map a.eval))with defers:={ target := .fn (.func q.g) (cvs.map a.eval),args := #[] }::(a.put (some t) (.func (.func q.g) #[] (cvs.map a.eval))).defers }:Act).put none undef) w :=
          ⟨fun _=>none,K1,μ1,fs1'.tmp _ (not_tm ht),by simp only[Act.put,Array.size_setIfInBounds];exact hs1,by simp only[Act.put];rw[hdf1]⟩
         have hgood:ex2.good=true:=by rcases hxx with⟨rfl|rfl,_⟩|rfl<;>rfl
         refine wp_mono (wpIn_wide.1 (exec_sim (rd:=none) (m:=0) vok cs csp hnd hlt (drawn_of hm vok cs csp hcl hnd hlt) ⟨K1,μ1,st1.hp,w⟩ ⟨hT1,fs1.hr⟩ _ n vf.body c1 h1 st1 st2 ex2 _ w hbody hgood hA2)) (fun e a2 w2 hq => ?_)
         have last : ∀ L2 K2 μ2 (v:Value) (u u':FrameMode),FS ⟨K1,μ1,st1.hp,w⟩ tm bs K2 μ2 L2 st2.sl st2.hp a2.tmps w2 -> VR K2 μ2 st2.hp x v -> Rcv u u' x v -> u ≠ .run -> Go.settle u' = .returning -> a2.defers=[{ target := .fn (.func q.g) (cvs.map a.eval),args := #[] }] -> Leaves P fn a2.tmps (Gives K μ H W (oneOr ds) st3.hp) a2.defers u w2:=by
          intro L2 K2 μ2 v u u' fs2 hxv hu hur hset hdf2
          rw[hdf2]
          have hvc:VRs K2 μ2 st2.hp ((q.caps.map O.s).map (O.ev [] st1.sl)) (cvs.toList.map a.eval):=⟨hcaps.1,fun j d v e e'=>(hcaps.2 j d v e e').ext fs2.nx.ext⟩
          have hclo':=clo_sim hm vok cs csp hcl hclo (by simp) he3 hex3 (vok.up hT1 fs1.hr fs2.nx) fs2.hr hvc hxv hu
          obtain ⟨fg,hfg,hfgb,hfgn⟩ : ∃ fg,P.funcs[q.g]?=some fg /\ fg.body.isSome=true /\ fg.name≠"runtime.NumGoroutine":=by
           unfold okClo at hclo
           split at hclo
           ·rename_i fg hfg
            simp only[Bool.and_eq_true,bne_iff_ne]at hclo
            refine⟨fg,hfg, ?_,hclo.2⟩
            have:=hclo.1.1.1.1.1.1.1.1.1.1.1.1
            cases hbg:fg.body with
            | none=>rw[hbg]at this;simp at this
            | some b=>rfl
           ·cases hclo
          refine leaves_cons (f:=q.g) (args:=(cvs.toList.map a.eval).toArray) hur ?_ ?_
          ·simp only[invoke]
           rw[run_callFunc hfg hfgb hfgn]
           simp[<- Array.toList_map]
          ·refine hclo'.mono (fun e u2 w3 hq2 => ?_)
           cases e with
           | returned _ =>
            obtain⟨rfl,K3,μ3,hr3,nx3⟩:=hq2
            show Leaves P fn a2.tmps _ [] (Go.settle _) w3
            rw[hset]
            obtain⟨rv,g1,g2⟩:=res_sound (P:=P) (fs2.go hr3 nx3) hres hds
            exact⟨rv,g1,K3,μ3,hr3,(fs1.nx.trans fs2.nx).trans nx3,g2⟩
           | _=>exact hq2.elim
         have nml:After ⟨K1,μ1,st1.hp,w⟩ tm bs fn.ntmps [{ target := .fn (.func q.g) (cvs.map a.eval),args := #[] }] st2 a2 w2 -> x = .ni -> Leaves P fn a2.tmps (Gives K μ H W (oneOr ds) st3.hp) a2.defers .returning w2:=fun hq hx=>by
          obtain⟨L2,K2,μ2,fs2,_,hdf2⟩:=hq
          subst hx
          exact last L2 K2 μ2 .nilIface _ _ fs2 (.ni ..) .ret (by simp) rfl hdf2
         cases e with
         | normal=>exact nml hq.2 (by rcases hxx with⟨_,hx⟩|hx<;>first|exact hx|(rw[hx]at hq;cases hq.1))
         | ret=>exact nml hq.2 (by rcases hxx with⟨_,hx⟩|hx<;>first|exact hx|(rw[hx]at hq;cases hq.1))
         | exit id=>rcases hxx with⟨rfl|rfl,_⟩|rfl<;>cases hq.1
         | panic ch =>
          obtain⟨x',v,hx',rfl,L2,K2,μ2,fs2,_,hdf2,hxv⟩:=hq
          rcases hxx with⟨rfl|rfl,_⟩|rfl
          ·cases hx'
          ·cases hx'
          ·cases hx'
           exact last L2 K2 μ2 v _ _ fs2 hxv (.pan x v) (by simp) rfl hdf2
         | goto l=>exact hq.elim
         | outgrown=>exact hq.elim
       split at h
       ·rename_i st2 hbody;exact core _ st2 _ hbody (.inl ⟨.inl rfl,rfl⟩) h
       ·rename_i st2 hbody;exact core _ st2 _ hbody (.inl ⟨.inr rfl,rfl⟩) h
       ·rename_i x st2 hbody;exact core _ st2 x hbody (.inr rfl) h
       ·cases h
     ·cases h
    ·cases h
   ·cases hop
  ·cases hop
 ·cases hcode
theorem enterD_nopan {V:VProg} {cl:FuncId -> List D -> Heap -> CR} {vf:VFunc} {q:Dfr} {n:Nat} {args:List D} {H:Heap} {x:D} {H':Heap} (h:enterD V cl n vf q args H = .pan x H'):False:=by
 unfold enterD leaveD at h
 repeat' split at h
 all_goals cases h
theorem enterF_all {P:Program} {V:VProg} {T:Kn -> World -> Prop} {cl:FuncId -> List D -> Heap -> CR} (hm:P.follows .mixedOrders=true) (vok:VOK P V T) (cs:CallSim P T cl) (csp:CallSimP P T cl) (hcl:CallFit V cl) {f:FuncId} {fn:Func} {vf:VFunc} {tm bs:List Nat} (hf:P.funcs[f]?=some fn) (hok:okFn P V fn vf tm bs=true) (hrg:vf.rg=none \/ vf.rg=some f)
  {n:Nat} {args:List D} {H:Heap} {K:Kn} {μ:Mu} {W:World} {vs:List Value} (hT:T K W) (hr:HR K μ H W) (hv:VRs K μ H args vs):(∀ d H',enterF V cl n vf args H = .ret d H' -> Calls P f vs.toArray W (Gives K μ H W d H')) /\ ∀ q H',enterF V cl n vf args H = .pan q H' -> Calls P f vs.toArray W (Pans K μ H W q H'):=by
 unfold enterF
 cases hd:vf.dfr with
 | none =>
  rcases hrg with hg|hg<;>rw[hg]
  ·exact enter_all hm vok cs csp hcl hf hok hd hg hT hr hv
  ·exact⟨fun d H' h=>enterR_sim hm vok cs csp hcl hf hok hd hg h hT hr hv,fun x H' h=>(enterR_nopan h).elim⟩
 | some q=>exact⟨fun d H' h=>enterD_sim hm vok cs csp hcl hf hok hd h hT hr hv,fun x H' h=>(enterD_nopan h).elim⟩
section
variable {V:VProg} {cl:FuncId -> List D -> Heap -> CR}
theorem step_le (hcl : ∀ (f:FuncId) (args:List D) (H:Heap) (d:D) (H':Heap),cl f args H = .ret d H' -> H.length <= H'.length) {op:VOp} {loc:List D} {st st1:St} {d:D} (h:step V cl loc st op = .v d st1):st.hp.length <= st1.hp.length:=by
 obtain⟨sl,H⟩:=st
 cases op with
 | hal zs=>cases h;simp
 | hbx x n =>
  obtain⟨h1,_⟩:=ofP_inv h
  simp only[Option.map_eq_some_iff]at h1
  obtain⟨cs,_,h1⟩:=h1
  simp only[Prod.mk.injEq]at h1
  rw[<- h1.2];simp
 | haa w zs p=>cases h;simp
 | mkm=>cases h;simp
 | st x v n =>
  simp only[step]at h
  split at h
  ·obtain⟨h1,_⟩:=ofH_inv h;exact(stAt_wr (base:=bn 0) h1).1
  ·cases h
 | bsl w len zs parts p=>obtain⟨h1,_⟩:=ofP_inv h;exact(bslD_gr h1).1
 | app x y w bytes p=>obtain⟨h1,_⟩:=ofP_inv h;exact(appD_wr (base:=bn 0) h1).1
 | cpy x y w=>obtain⟨h1,_⟩:=ofP_inv h;exact(cpyD_wr (base:=bn 0) h1).1
 | mks l c w bytes zs p=>obtain⟨h1,_⟩:=ofP_inv h;exact(mksD_gr h1).1
 | mup kk m k v=>obtain⟨h1,_⟩:=ofH_inv h;exact(mupD_wr (base:=bn 0) h1).1
 | call f xs=>simp only[step]at h;obtain⟨h1,_⟩:=toR_inv h;exact hcl _ _ _ _ _ h1
 | calv x xs =>
  simp only[step]at h
  split at h
  ·split at h
   ·cases h
   ·obtain⟨h1,_⟩:=toR_inv h;exact hcl _ _ _ _ _ h1
  ·obtain⟨h1,_⟩:=toR_inv h;exact hcl _ _ _ _ _ h1
  ·cases h
 | inv x m xs =>
  simp only[step]at h
  split at h
  ·split at h
   ·obtain⟨h1,_⟩:=toR_inv h;exact hcl _ _ _ _ _ h1
   ·cases h
  ·cases h
 | pan x=>simp only[step,panD]at h;split at h<;>cases h
 | cpl f xs =>
  simp only[step]at h
  split at h
  ·split at h
   ·obtain⟨h1,_⟩:=toR_inv h;exact hcl _ _ _ _ _ (rets_inv h1)
   ·cases h
  ·cases h
 | callp f xs=>simp only[step]at h;obtain⟨h1,_⟩:=toR_inv h;exact hcl _ _ _ _ _ h1
 | calx f xs=>simp only[step]at h;obtain⟨h1,_⟩:=toR_inv h;exact hcl _ _ _ _ _ (adds_inv h1).1
 | calvx x xs =>
  simp only[step]at h
  split at h
  ·split at h
   ·cases h
   ·obtain⟨h1,_⟩:=toR_inv h;exact hcl _ _ _ _ _ (gros_inv h1).1
  ·cases h
 | sli str w x lo hi mx=>cases str<;>(obtain⟨_,h2⟩:=ofO_inv h;rw[h2];exact Nat.le_refl _)
 | _ =>
  simp only[step]at h
  repeat' split at h
  all_goals first
   | (cases h;exact Nat.le_refl _)
   | (obtain⟨_,h2⟩:=ofO_inv h;rw[h2];exact Nat.le_refl _)
   | (cases h;done)
theorem ops_le (hcl : ∀ (f:FuncId) (args:List D) (H:Heap) (d:D) (H':Heap),cl f args H = .ret d H' -> H.length <= H'.length) {dr:Option (Bs×Bool)} : ∀ {os:List VOper} {loc:List D} {st st':St},ops V cl dr os loc st=(.nm,st') -> st.hp.length <= st'.hp.length
 | [],_,_,_,h=>by cases h;exact Nat.le_refl _
 | o :: os,loc,st,st',h=>by
  unfold ops at h
  split at h
  ·split at h
   ·split at h
    ·rename_i hs
     have:=ops_le hcl h
     have:=step_le hcl hs
     simp only at *
     omega
    ·split at h<;>cases h
    ·cases h
   ·cases h
  ·have:=ops_le hcl h;exact this
  ·cases h
theorem exec_le (hcl : ∀ (f:FuncId) (args:List D) (H:Heap) (d:D) (H':Heap),cl f args H = .ret d H' -> H.length <= H'.length) (n:Nat) : ∀ (c:VCode) (st st':St) (ex:Ex),exec V cl n c st=(ex,st') -> ex.fin=true -> st.hp.length <= st'.hp.length:=by
 intro c
 induction c with
 | skip=>intro st st' ex h _;cases h;exact Nat.le_refl _
 | ret=>intro st st' ex h _;cases h;exact Nat.le_refl _
 | stuck=>intro st st' ex h _;cases h;exact Nat.le_refl _
 | exit id=>intro st st' ex h _;cases h;exact Nat.le_refl _
 | rng j x =>
  intro st st' ex h hg
  simp only[exec]at h
  split at h
  ·split at h
   ·split at h
    ·cases h;cases hg
    ·rename_i g cap _ _
     cases hq:cl g (.yl (st.hp.length+1)::cap) _ with
     | ret d H3 =>
      rw[hq]at h
      have:=hcl _ _ _ _ _ hq
      simp only[rngK]at h
      simp only[List.length_append,List.length_cons,List.length_nil]at this
      split at h<;>first|(cases h;cases hg;done)|(cases h;simp only[List.length_set];omega)
     | pan d H3=>rw[hq]at h;simp only[rngK]at h;cases h;cases hg
     | bad=>rw[hq]at h;simp only[rngK]at h;cases h;cases hg
   ·cases h;cases hg
  ·cases h;cases hg
 | reg os draw =>
  intro st st' ex h hg
  simp only[exec]at h
  have:=ops_fin h hg
  subst this
  exact ops_le hcl h
 | seq a b iha ihb =>
  intro st st' ex h hg
  simp only[exec]at h
  cases ha:exec V cl n a st with
  | mk e1 st1 =>
   rw[ha]at h
   cases e1 with
   | nm=>exact Nat.le_trans (iha _ _ _ ha rfl) (ihb _ _ _ h hg)
   | _=>simp only[Prod.mk.injEq]at h;obtain⟨rfl,rfl⟩:=h;exact iha _ _ _ ha hg
 | cond c a b iha ihb =>
  intro st st' ex h hg
  simp only[exec]at h
  split at h
  ·exact iha _ _ _ h hg
  ·exact ihb _ _ _ h hg
  ·cases h;cases hg
 | block id c ih =>
  intro st st' ex h hg
  simp only[exec]at h
  cases ha:exec V cl n c st with
  | mk e1 st1 =>
   rw[ha]at h
   cases e1 with
   | ex id' =>
    simp only at h
    split at h<;>(cases h;exact ih _ _ _ ha rfl)
   | _=>simp only[Prod.mk.injEq]at h;obtain⟨rfl,rfl⟩:=h;exact ih _ _ _ ha hg
 | loop c ih =>
  intro st st' ex h hg
  simp only[exec]at h
  have : ∀ (m:Nat) (st:St),iter (exec V cl n c) m st=(ex,st') -> st.hp.length <= st'.hp.length:=by
   intro m
   induction m with
   | zero=>intro st h;cases h;cases hg
   | succ m ihm =>
    intro st h
    simp only[iter]at h
    cases ha:exec V cl n c st with
    | mk e1 st1 =>
     rw[ha]at h
     cases e1 with
     | nm=>exact Nat.le_trans (ih _ _ _ ha rfl) (ihm _ h)
     | _=>simp only[Prod.mk.injEq]at h;obtain⟨rfl,rfl⟩:=h;exact ih _ _ _ ha hg
  exact this n st h
theorem enter_le (hcl : ∀ (f:FuncId) (args:List D) (H:Heap) (d:D) (H':Heap),cl f args H = .ret d H' -> H.length <= H'.length) {n:Nat} {vf:VFunc} {args:List D} {H H':Heap} {d:D} (h:enter V cl n vf args H = .ret d H'):H.length <= H'.length:=by
 unfold enter at h
 split at h
 ·split at h
  ·rename_i st hex
   split at h
   ·cases h;exact exec_le hcl n _ _ _ _ hex rfl
   ·cases h
  ·rename_i st hex
   split at h
   ·cases h;exact exec_le hcl n _ _ _ _ hex rfl
   ·cases h
  ·cases h
  ·cases h
 ·cases h
theorem enterR_le (hcl : ∀ (f:FuncId) (args:List D) (H:Heap) (d:D) (H':Heap),cl f args H = .ret d H' -> H.length <= H'.length) {n:Nat} {vf:VFunc} {args:List D} {H H':Heap} {d:D} (h:enterR V cl n vf args H = .ret d H'):H.length <= H'.length:=by
 unfold enterR at h
 split at h
 ·split at h
  ·rename_i st hex
   split at h
   ·cases h;rw[unmark_len];exact exec_le hcl n _ _ _ _ hex rfl
   ·cases h
  ·rename_i st hex
   split at h
   ·cases h;rw[unmark_len];exact exec_le hcl n _ _ _ _ hex rfl
   ·cases h
  ·cases h
 ·cases h
theorem roundR_le (hcl : ∀ (f:FuncId) (args:List D) (H:Heap) (d:D) (H':Heap),cl f args H = .ret d H' -> H.length <= H'.length) {n:Nat} {args:List D} {H H':Heap} {d:D} (h:roundR V cl n args H = .ret d H'):H.length <= H'.length:=by
 unfold roundR at h
 split at h
 ·rename_i y az
  split at h
  ·rename_i f p j nt tm x hH
   split at h
   ·rename_i r hrnd
    split at h
    ·cases hx:exec V cl n r.a ⟨setPs x r.ps az,H⟩with
     | mk e1 st1 =>
      rw[hx]at h
      cases e1 with
      | nm =>
       have l1:=exec_le hcl n _ _ _ _ hx rfl
       simp only[roundB]at h
       split at h
       ·rename_i f1 p1 j1 nt1 tm1 x1 hy1
        cases hx2:exec V cl n r.b ⟨st1.sl,st1.hp.set y (.yh f1 p1 j1 nt1 tm1 x1 .bz)⟩with
        | mk e2 st2 =>
         rw[hx2]at h
         have hg2:e2.fin=true:=by cases e2<;>first|rfl|cases h
         have l2:=exec_le hcl n _ _ _ _ hx2 hg2
         simp only[List.length_set]at l1 l2
         cases e2<;>simp only[rndEnd]at h<;>first
          | (cases h;done)
          | (split at h<;>first|(cases h;done)|(cases h;simp only[List.length_set];omega))
       ·cases h
      | _=>cases h
    ·cases h
   ·cases h
  ·cases h
 ·cases h
theorem enterF_le (hcl : ∀ (f:FuncId) (args:List D) (H:Heap) (d:D) (H':Heap),cl f args H = .ret d H' -> H.length <= H'.length) {n:Nat} {vf:VFunc} {args:List D} {H H':Heap} {d:D} (h:enterF V cl n vf args H = .ret d H'):H.length <= H'.length:=by
 unfold enterF at h
 split at h
 ·split at h
  ·exact enter_le hcl h
  ·exact enterR_le hcl h
 ·unfold enterD leaveD at h
  repeat' split at h
  all_goals first|(cases h;done)|(rename_i hb _ _ _;cases h;assumption)|(cases h;assumption)
theorem placeC_gr (d:D) (H:Heap):Gr H (placeC d H).2:=by
 cases d<;>first|exact .push _ _|exact .refl _
theorem placeL_gr : ∀ (ds:List D) (H:Heap),Gr H (placeL ds H).2
 | [],_ => .refl _
 | d::ds,H=>(placeC_gr d H).trans (placeL_gr ds _)
theorem place1_gr (d:D) (H:Heap):Gr H (place1 d H).2:=by
 cases d<;>first|exact placeL_gr _ _|exact placeC_gr _ _
theorem placeL1_gr : ∀ (ds:List D) (H:Heap),Gr H (placeL1 ds H).2
 | [],_ => .refl _
 | d::ds,H=>(place1_gr d H).trans (placeL1_gr ds _)
theorem place_gr (d:D) (H:Heap):Gr H (place d H).2:=by
 cases d<;>first|exact placeL1_gr _ _|exact place1_gr _ _
theorem call_fit (V:VProg) (hx : ∀ (f:FuncId) (args:List D) (H:Heap) (d:D) (H':Heap),V.ext f args H=some (d,H') -> H.length <= H'.length) : ∀ n,CallFit V (call V n):=by
 intro n
 induction n with
 | zero=>exact⟨fun f args H d H' h=>(by cases h),fun f args H d H' vf _ _ h=>(by cases h),fun f args H d H' vf _ _ _ _ h=>(by cases h)⟩
 | succ n ih =>
  have gr : ∀ (f:FuncId) (args:List D) (H:Heap) (d:D) (H':Heap) (vf:VFunc),V.fn f=some vf -> vf.pure=true -> call V (n+1) f args H = .ret d H' -> Gr H H':=by
   intro f args H d H' vf hf hp h
   simp only[call,hf,hp]at h
   split at h
   ·cases h
   ·rename_i ds H1 hfr
    split at h
    ·rename_i d1 _
     cases h
     have hb:Gr H (backH vf.fre d1 H H1):=by
      unfold backH
      split
      ·exact .refl _
      ·exact freezeL_gr hfr
     cases hw:vf.own with
     | true=>simp only[placeO];exact hb.trans (place_gr _ _)
     | false=>exact hb
    ·cases h
    ·cases h
  refine⟨fun f args H d H' h => ?_,gr,fun f args H d H' vf hf hp ho ha h => ?_⟩
  rotate_left
  ·simp only[call,hf,hp]at h
   split at h
   ·cases h
   ·rename_i ds H1 hfr
    obtain⟨rfl,h2⟩:=(free_frz deep).2 _ _ _ _ ha hfr
    split at h
    ·rename_i d1 hq
     cases h
     have hb : ∀ H,backH vf.fre d1 H H=H:=fun H=>by unfold backH;split<;>rfl
     rw[ho]
     refine⟨hb _,fun H2 => ?_⟩
     simp only[call,hf,hp,h2 H2,hq,ho]
     exact congrArg _ (hb H2)
    ·cases h
    ·cases h
  cases hf:V.fn f with
  | none =>
   simp only[call,hf]at h
   split at h
   ·exact roundR_le ih.le h
   ·split at h
    ·rename_i heq;cases h;exact hx _ _ _ _ _ heq
    ·cases h
  | some vf =>
   cases hp:vf.pure with
   | true=>exact(gr f args H d H' vf hf hp h).1
   | false =>
    simp only[call,hf,hp]at h
    split at h
    ·rename_i heq;cases h;exact hx _ _ _ _ _ heq
    ·exact enterF_le ih.le h
end
theorem HR.adopt {K:Kn} {μ:Mu} {H:Heap} {W:World} (h:HR K μ H W) (l:Loc) (b:Blk) (hl:l.blk<W.heap.size) (hno : ¬ Own μ H l.blk) (hk : ∀ o v,K l.blk o≠some v)
  (hb:BlkR K (μ.upd H.length l) (H++[b]) W l b) :
  HR K (μ.upd H.length l) (H++[b]) W /\ Ext K μ H K (μ.upd H.length l) (H++[b]) /\ ∀ r,Own (μ.upd H.length l) (H++[b]) r -> Own μ H r \/ r=l.blk:=by
 have he:=Ext.push (K:=K) h.dom l b
 have cas : ∀ id l' b',(μ.upd H.length l) id=some l' -> (H++[b])[id]?=some b' -> (id=H.length /\ l'=l /\ b'=b) \/ (id<H.length /\ μ id=some l' /\ H[id]?=some b'):=by
  intro id l' b' a c
  simp only[Mu.upd]at a
  split at a
  ·rename_i hid;subst hid
   left
   have:b=b':=by simpa using c
   exact⟨rfl,by simpa using a.symm,this.symm⟩
  ·have hlt:=h.dom id l' a
   rw[List.getElem?_append_left hlt]at c
   exact .inr ⟨hlt,a,c⟩
 have lt' : ∀ id l',(μ.upd H.length l) id=some l' -> (id=H.length /\ l'=l) \/ (id<H.length /\ μ id=some l'):=by
  intro id l' a
  simp only[Mu.upd]at a
  split at a
  ·rename_i hid;exact .inl ⟨hid,by simpa using a.symm⟩
  ·exact .inr ⟨h.dom id l' a,a⟩
 have og : ∀ r,Own (μ.upd H.length l) (H++[b]) r -> Own μ H r \/ r=l.blk:=by
  rintro r ⟨id,l',b',a,c,e,f⟩
  rcases cas id l' b' a c with⟨_,rfl,_⟩|⟨_,a',c'⟩
  ·exact .inr f.symm
  ·exact .inl ⟨id,l',b',a',c',e,f⟩
 refine⟨⟨fun id l' a => ?_,fun id hid => ?_,fun id l' b' a c => ?_,fun id l' a => ?_,fun id id' l1 l2 b1 b2 a1 a2 c1 c2 e1 e2 e => ?_,fun b' o' v e => ?_,fun b' o' v e ho => ?_⟩,he,og⟩
 ·rcases lt' id l' a with⟨rfl,_⟩|⟨x,_⟩<;>simp<;>omega
 ·simp only[List.length_append,List.length_singleton]at hid
  by_cases hi:id=H.length
  ·exact⟨l,by simp[Mu.upd,hi]⟩
  ·obtain⟨l',hl'⟩:=h.tot id (by omega)
   exact⟨l',by simp[Mu.upd,hi,hl']⟩
 ·rcases cas id l' b' a c with⟨_,rfl,rfl⟩|⟨_,a',c'⟩
  ·exact hb
  ·exact(h.blk id l' b' a' c').ext he (fun _=>rfl)
 ·rcases lt' id l' a with⟨_,rfl⟩|⟨_,a'⟩
  ·exact hl
  ·exact h.lt id l' a'
 ·rcases cas id l1 b1 a1 c1 with⟨x1,y1,z1⟩|⟨x1,a1',c1'⟩<;>rcases cas id' l2 b2 a2 c2 with⟨x2,y2,z2⟩|⟨x2,a2',c2'⟩
  ·omega
  ·subst y1;exact(hno ⟨id',l2,b2,a2',c2',e2,e.symm⟩).elim
  ·subst y2;exact(hno ⟨id,l1,b1,a1',c1',e1,e⟩).elim
  ·exact h.inj id id' l1 l2 b1 b2 a1' a2' c1' c2' e1 e2 e
 ·exact h.kn b' o' v e
 ·rcases og b' ho with x|x
  ·exact h.kf b' o' v e x
  ·subst x;exact hk _ _ e
section
variable {K1:Kn} {μ:Mu} {H1:Heap} {W:World} {K':Kn} {μ':Mu} {Hc:Heap} {W':World}
structure PS (K1:Kn) (μ:Mu) (H1:Heap) (W:World) (K':Kn) (μ':Mu) (W':World) (used:List Nat) (μx:Mu) (Hx:Heap):Prop where
 hr:HR K' μx Hx W'
 nx:Nx K1 μ H1 W K' μx Hx W'
 own : ∀ r,Own μx Hx r -> r<W.heap.size \/ ∃ a∈used, ∃ l,μ' a=some l /\ l.blk=r
theorem PS.start (hr1:HR K1 μ H1 W) (hr':HR K' μ' Hc W') (nx:Nx K1 mu0 [] W K' μ' Hc W'):PS K1 μ H1 W K' μ' W' [] μ H1:=by
 have no : ∀ r,¬ Own mu0 [] r:=fun r ⟨id,l,b,a,_⟩=>by cases a
 have old : ∀ r,Own μ H1 r -> r<W.heap.size:=fun r ⟨id,l,b,a,_,_,e⟩=>e▸hr1.lt id l a
 have kg : ∀ b o v,K' b o=some v -> K1 b o=some v \/ W.heap.size <= b:=fun b o v e=>by
  rcases nx.kg b o v e with x|x|x
  ·exact .inl x
  ·exact(no _ x).elim
  ·exact .inr x
 have ext:Ext K1 μ H1 K' μ H1:=⟨nx.ext.k,fun id l b a c=>⟨l,b,a,c,.refl _ _⟩⟩
 refine ⟨⟨hr1.dom,hr1.tot,fun id l b a c=>(hr1.blk id l b a c).ext ext (fun _=>nx.keep _ (hr1.lt id l a) (no _)),fun id l a=>Nat.lt_of_lt_of_le (hr1.lt id l a) nx.size,hr1.inj,hr'.kn,fun b o v e ho => ?_⟩,
  ⟨ext,nx.os,nx.tape,nx.output,nx.size,fun r hr _=>nx.keep r hr (no _),fun r h => .inl h,fun b o v e=>(kg b o v e).imp id .inr⟩,fun r h => .inl (old r h)⟩
 rcases kg b o v e with x|x
 ·exact hr1.kf b o v x ho
 ·have:=old b ho;omega
def D.flat:D -> Bool
 | .b _ | .i _ _ | .s _ | .nil | .z | .im _ _ | .np | .mnil | .fn _ [] [] | .nf | .ni=>true
 | _=>false
theorem VR.any {K:Kn} {μ μ':Mu} {H H':Heap} {d:D} {v:Value} (h:VR K μ H d v) (hd:d.flat=true):VR K μ' H' d v:=by
 cases h<;>first|exact .b .. | exact .i .. | exact .s .. | exact .nil .. | exact .z .. | exact .np .. | exact .mnil .. | exact .nf .. | exact .ni .. | (cases hd;done)|skip
 ·exact .im _ _ _ _ _ _ _ _ (by assumption) (by assumption) (by assumption) (by assumption) (by assumption)
 ·rename_i a b va vb la lb ha hb
  cases a with
  | cons=>cases hd
  | nil =>
   cases b with
   | cons=>cases hd
   | nil=>exact .fn _ _ _ [] [] va vb la lb (fun j d v e=>by simp at e) (fun j d v e=>by simp at e)
theorem place_cell {used:List Nat} {μx:Mu} {Hx:Heap} (hrc:HR K' μ' Hc W') (nx:Nx K1 mu0 [] W K' μ' Hc W') (ps:PS K1 μ H1 W K' μ' W' used μx Hx) {d d':D} {v:Value} (hv:VR K' μ' Hc d v) (hs:settleC Hc d=some d') (hu : ∀ a∈muOf d,a∉used) (hlive : ∀ a∈used, ∃ b,Hc[a]?=some b /\ b.live=true) :
  ∃ μy u,PS K1 μ H1 W K' μ' W' (u++used) μy (placeC d' Hx).2 /\ Ext K' μx Hx K' μy (placeC d' Hx).2 /\ VR K' μy (placeC d' Hx).2 (placeC d' Hx).1 v /\ (∀ a∈u,a∈muOf d) /\ ∀ a∈u, ∃ b,Hc[a]?=some b /\ b.live=true:=by
 have keep : ∀ (e:D),placeC e Hx=(e,Hx) -> e.flat=true -> VR K' μ' Hc e v -> ∃ μy u,PS K1 μ H1 W K' μ' W' (u++used) μy (placeC e Hx).2 /\ Ext K' μx Hx K' μy (placeC e Hx).2 /\ VR K' μy (placeC e Hx).2 (placeC e Hx).1 v /\ (∀ a∈u,a∈muOf d) /\ ∀ a∈u, ∃ b,Hc[a]?=some b /\ b.live=true:=fun e he hk hve=>by
  rw[he]
  exact⟨μx,[],ps,.refl _ _ _,hve.any hk,fun a h=>(by cases h),fun a h=>(by cases h)⟩
 unfold settleC at hs
 split at hs<;>first|(cases hs;done)|(cases hs;exact keep _ rfl rfl hv)|skip
 rename_i a n off len
 split at hs
 ·rename_i w rows kc lk harr
  split at hs
  ·rename_i hfit
   obtain⟨hH,hn⟩:=arr_eq harr
   cases hv with
   | mu _ _ _ _ _ _ cap blk o l w2 rows2 kc2 p2 lk2 hm hH2 hnn hcond =>
    rw[hH]at hH2;cases hH2
    obtain⟨hadr,g2,g3,g4,g5,g6⟩:=hcond hn
    have hblk:=hrc.blk a l _ hm hH
    cases lk with
    | true =>
     cases hs
     obtain⟨_,hwd,_,hrows⟩:=hblk
     exact keep _ rfl rfl (VR.part hwd hrows hn hfit g3 hadr _ _)
    | false =>
     cases hs
     obtain⟨hwd,hkc,hll,vs,ty,hW,hsz,hrows⟩:=hblk
     let l':Loc:=⟨l.blk,l.off+off*w,l.size⟩
     have howc:Own μ' Hc l.blk:=⟨a,l,_,hm,hH,rfl,rfl⟩
     have hge:W.heap.size <= l.blk:=by
      rcases nx.og _ howc with⟨id,_,_,e,_⟩|x
      ·cases e
      ·exact x
     have hpl:((rows.drop off).take len).length=len:=part_length rows off len n hn hfit
     have hwd':Wide w ((rows.drop off).take len):=fun i r e=>by
      obtain⟨e1,_⟩:=part_get rows off len i r e
      exact hwd _ r e1
     have hsum:l.off+off*w+len*w <= l.size:=by
      have:len*w <= cap*w:=Nat.mul_le_mul_right w g3
      have e2:(off+cap)*w=off*w+cap*w:=Nat.add_mul ..
      omega
     have hadopt:=ps.hr.adopt l' (.ar w ((rows.drop off).take len) none true false) (hrc.lt a l hm) (fun ho => ?_) (fun o v e=>hrc.kf _ _ _ e howc) ?_
     ·obtain ⟨hr2,ex2,og2⟩:=hadopt
      refine⟨_,[a],⟨hr2, ?_,fun r ho => ?_⟩,ex2, ?_,fun b hb=>hb,fun b hb => ?_⟩
      ·refine⟨ps.nx.ext.trans ex2,ps.nx.os,ps.nx.tape,ps.nx.output,ps.nx.size,ps.nx.keep,fun r ho => ?_,ps.nx.kg⟩
       rcases og2 r ho with x|rfl
       ·exact ps.nx.og r x
       ·exact .inr hge
      ·rcases og2 r ho with x|rfl
       ·rcases ps.own r x with y|⟨b,hb,y⟩
        ·exact .inl y
        ·exact .inr ⟨b,List.mem_append_right _ hb,y⟩
       ·exact .inr ⟨a,List.mem_append_left _ (List.mem_singleton_self a),l,hm,rfl⟩
      ·show VR K' _ _ (.mu Hx.length ((rows.drop off).take len).length 0 ((rows.drop off).take len).length) _
       rw[hpl]
       refine .mu _ _ _ _ _ _ cap blk o l' w ((rows.drop off).take len) none true false (by simp[Mu.upd]) (by simp[placeC]) (by omega) (fun _=>⟨?_,by omega,g3,by omega, ?_,fun c e=>by cases e⟩)
       ·rcases hadr with x|⟨x,y⟩
        ·exact .inl x
        ·exact .inr ⟨x,by simp[l',y]⟩
       ·simp only[Nat.zero_add,l']
        have e2:(off+cap)*w=off*w+cap*w:=Nat.add_mul ..
        omega
      ·obtain rfl:=List.mem_singleton.1 hb;exact⟨_,hH,rfl⟩
     ·rcases ps.own _ ho with x|⟨b,hb,lb,x,y⟩
      ·have:l'.blk=l.blk:=rfl
       omega
      ·obtain⟨bb,z1,z2⟩:=hlive b hb
       have:=hrc.inj b a lb l bb _ x hm z1 hH z2 rfl y
       subst this
       exact hu b (List.mem_singleton_self b) hb
     ·refine⟨hwd',fun c e=>(by cases e),by rw[hpl];exact hsum,vs,ty,hW,hsz,fun i r j d e1 e2 => ?_⟩
      obtain⟨e3,hi⟩:=part_get rows off len i r e1
      obtain⟨v,h1,h2⟩:=hrows (off+i) r j d e3 e2
      refine⟨v, ?_,h2.1,h2.2⟩
      rw[<- h1]
      congr 1
      simp only[l',Nat.add_mul]
      omega
  ·cases hs
 ·cases hs
theorem apart_cons {x:Nat} {xs:List Nat} (h:apart (x::xs)=true):x∉xs /\ apart xs=true:=by
 simp only[apart,Bool.and_eq_true,Bool.not_eq_true']at h
 exact⟨by simpa using h.1,h.2⟩
theorem apart_append : ∀ {xs ys:List Nat},apart (xs++ys)=true -> apart xs=true /\ apart ys=true /\ ∀ a∈xs,a∉ys
 | [],ys,h=>⟨rfl,h,fun a e=>by cases e⟩
 | x::xs,ys,h=>by
  obtain⟨h1,h2⟩:=apart_cons h
  obtain⟨h3,h4,h5⟩:=apart_append h2
  refine⟨?_,h4,fun a ha => ?_⟩
  ·simp only[apart,Bool.and_eq_true,Bool.not_eq_true']
   refine⟨?_,h3⟩
   have:x∉xs:=fun e=>h1 (List.mem_append_left _ e)
   simpa using this
  ·rcases List.mem_cons.1 ha with rfl|ha
   ·exact fun e=>h1 (List.mem_append_right _ e)
   ·exact h5 a ha
def Laid (K1:Kn) (μ:Mu) (H1:Heap) (W:World) (K':Kn) (μ':Mu) (Hc:Heap) (W':World) (used ms:List Nat) (μx:Mu) (Hx Hy:Heap) (R:Mu -> Prop):Prop :=
 ∃ μy u,PS K1 μ H1 W K' μ' W' (u++used) μy Hy /\ Ext K' μx Hx K' μy Hy /\ R μy /\ (∀ a∈u,a∈ms) /\ ∀ a∈u, ∃ b,Hc[a]?=some b /\ b.live=true
theorem place_list (settleF:Heap -> D -> Option D) (placeF:D -> Heap -> D×Heap) (musF:D -> List Nat)
  (hF : ∀ (used:List Nat) (μx:Mu) (Hx:Heap) (d d':D) (v:Value),PS K1 μ H1 W K' μ' W' used μx Hx -> VR K' μ' Hc d v -> settleF Hc d=some d' -> (∀ a∈musF d,a∉used) -> apart (musF d)=true -> (∀ a∈used, ∃ b,Hc[a]?=some b /\ b.live=true) ->
   Laid K1 μ H1 W K' μ' Hc W' used (musF d) μx Hx (placeF d' Hx).2 (fun μy=>VR K' μy (placeF d' Hx).2 (placeF d' Hx).1 v))
  (placeLs:List D -> Heap -> List D×Heap) (hnil : ∀ H,placeLs [] H=([],H)) (hcons : ∀ d ds H,placeLs (d::ds) H=((placeF d H).1::(placeLs ds (placeF d H).2).1,(placeLs ds (placeF d H).2).2)) :
  ∀ (ds ds':List D) (vs:List Value) (used:List Nat) (μx:Mu) (Hx:Heap),PS K1 μ H1 W K' μ' W' used μx Hx -> VRs K' μ' Hc ds vs -> mapO (settleF Hc) ds=some ds' -> (∀ a∈ds.flatMap musF,a∉used) -> apart (ds.flatMap musF)=true -> (∀ a∈used, ∃ b,Hc[a]?=some b /\ b.live=true) ->
   Laid K1 μ H1 W K' μ' Hc W' used (ds.flatMap musF) μx Hx (placeLs ds' Hx).2 (fun μy=>VRs K' μy (placeLs ds' Hx).2 (placeLs ds' Hx).1 vs):=by
 intro ds
 induction ds with
 | nil =>
  intro ds' vs used μx Hx ps hv hs hu ha hl
  cases hs
  have:vs=[]:=by have:=hv.1;simpa using this.symm
  subst this
  rw[hnil]
  exact⟨μx,[],ps,.refl _ _ _,⟨rfl,fun j d v e=>by simp at e⟩,fun a h=>(by cases h),fun a h=>(by cases h)⟩
 | cons d ds ih =>
  intro ds' vs used μx Hx ps hv hs hu ha hl
  simp only[mapO]at hs
  split at hs
  ·rename_i d1 hd1
   split at hs
   ·rename_i ds1 hds1
    cases hs
    cases vs with
    | nil=>have:=hv.1;simp at this
    | cons v vs =>
     simp only[List.flatMap_cons]at hu ha ⊢
     obtain⟨a1,a2,a3⟩:=apart_append ha
     obtain⟨μy,u,ps1,ex1,hv1,hu1,hl1⟩:=hF used μx Hx d d1 v ps (hv.2 0 d v rfl rfl) hd1 (fun a h=>hu a (List.mem_append_left _ h)) a1 hl
     obtain ⟨μz,u2,ps2,ex2,hv2,hu2,hl2⟩:=ih ds1 vs (u++used) μy _ ps1 ⟨by have:=hv.1;simpa using this,fun j d' v' e e'=>hv.2 (j+1) d' v' (by simpa using e) (by simpa using e')⟩ hds1
      (fun a h hm=>by
       rcases List.mem_append.1 hm with x|x
       ·exact a3 a (hu1 a x) h
       ·exact hu a (List.mem_append_right _ h) x) a2 (fun a h=>(List.mem_append.1 h).elim (hl1 a) (hl a))
     refine⟨μz,u2++u,by rw[List.append_assoc,hcons];exact ps2,by rw[hcons];exact ex1.trans ex2, ?_,fun a h => ?_,fun a h=>(List.mem_append.1 h).elim (hl2 a) (hl1 a)⟩
     ·rw[hcons]
      refine⟨by simp[hv2.1],fun j d' v' e e' => ?_⟩
      cases j with
      | zero=>cases e;cases e';exact hv1.ext ex2
      | succ j=>exact hv2.2 j d' v' (by simpa using e) (by simpa using e')
     ·rcases List.mem_append.1 h with x|x
      ·exact List.mem_append_right _ (hu2 a x)
      ·exact List.mem_append_left _ (hu1 a x)
   ·cases hs
  ·cases hs
theorem place_one (hrc:HR K' μ' Hc W') (nx:Nx K1 mu0 [] W K' μ' Hc W') (used:List Nat) (μx:Mu) (Hx:Heap) (d d':D) (v:Value) (ps:PS K1 μ H1 W K' μ' W' used μx Hx) (hv:VR K' μ' Hc d v) (hs:settle1 Hc d=some d') (hu : ∀ a∈mus1 d,a∉used) (ha:apart (mus1 d)=true) (hl : ∀ a∈used, ∃ b,Hc[a]?=some b /\ b.live=true) :
  Laid K1 μ H1 W K' μ' Hc W' used (mus1 d) μx Hx (place1 d' Hx).2 (fun μy=>VR K' μy (place1 d' Hx).2 (place1 d' Hx).1 v):=by
 have plain : ∀ {e:D},settleC Hc d=some e -> mus1 d=muOf d -> (∀ cs,e ≠ .ag cs) -> Laid K1 μ H1 W K' μ' Hc W' used (mus1 d) μx Hx (place1 e Hx).2 (fun μy=>VR K' μy (place1 e Hx).2 (place1 e Hx).1 v):=fun{e} he hm hag=>by
  have:place1 e Hx=placeC e Hx:=by cases e<;>first|rfl|exact(hag _ rfl).elim
  rw[this,hm]
  obtain⟨μy,u,h1,h2,h3,h4,h5⟩:=place_cell hrc nx ps hv he (by rw[<- hm];exact hu) hl
  exact⟨μy,u,h1,h2,h3,h4,h5⟩
 cases d with
 | ag cs =>
  simp only[settle1,Option.map_eq_some_iff]at hs
  obtain⟨cs',hcs,rfl⟩:=hs
  obtain⟨vs,rfl,hc⟩:=hv.ag_inv
  obtain ⟨μy,u,h1,h2,h3,h4,h5⟩:=place_list settleC placeC muOf (fun used μx Hx d d' v ps hv hs hu _ hl=>by
   obtain⟨μy,u,h1,h2,h3,h4,h5⟩:=place_cell hrc nx ps hv hs hu hl
   exact⟨μy,u,h1,h2,h3,h4,h5⟩) placeL (fun _=>rfl) (fun _ _ _=>rfl) cs cs' vs used μx Hx ps hc.1 hcs hu ha hl
  exact⟨μy,u,h1,h2,.ag _ _ _ _ h3.1 hc.2 h3.2,h4,h5⟩
 | _ =>
  refine plain hs rfl (fun cs hcs => ?_)
  subst hcs
  simp only[settle1,settleC]at hs
  repeat' split at hs
  all_goals first|(cases hs;done)|skip
  all_goals (repeat' split at hs)<;>cases hs
theorem place_all (hrc:HR K' μ' Hc W') (nx:Nx K1 mu0 [] W K' μ' Hc W') (hr1:HR K1 μ H1 W) (d d':D) (v:Value) (hv:VR K' μ' Hc d v) (hs:settle Hc d=some d') (ha:apart (mus d)=true) :
  ∃ μy,HR K' μy (place d' H1).2 W' /\ Nx K1 μ H1 W K' μy (place d' H1).2 W' /\ VR K' μy (place d' H1).2 (place d' H1).1 v:=by
 have ps:=PS.start hr1 hrc nx
 have plain : ∀ {e:D},settle1 Hc d=some e -> mus d=mus1 d -> (∀ cs,e ≠ .tu cs) -> ∃ μy,HR K' μy (place e H1).2 W' /\ Nx K1 μ H1 W K' μy (place e H1).2 W' /\ VR K' μy (place e H1).2 (place e H1).1 v:=fun{e} he hm hag=>by
  have:place e H1=place1 e H1:=by cases e<;>first|rfl|exact(hag _ rfl).elim
  rw[this]
  obtain⟨μy,u,h1,h2,h3,h4,h5⟩:=place_one hrc nx [] μ H1 d e v ps hv he (fun a _ h=>by cases h) (by rw[<- hm];exact ha) (fun a h=>by cases h)
  exact⟨μy,h1.hr,h1.nx,h3⟩
 cases d with
 | tu ds =>
  simp only[settle,Option.map_eq_some_iff]at hs
  obtain⟨ds',hds,rfl⟩:=hs
  obtain⟨vs,rfl,hc⟩:=hv.tu_inv
  obtain⟨μy,u,h1,h2,h3,h4,h5⟩:=place_list settle1 place1 mus1 (fun used μx Hx d d' v ps hv hs hu ha hl=>place_one hrc nx used μx Hx d d' v ps hv hs hu ha hl) placeL1 (fun _=>rfl) (fun _ _ _=>rfl) ds ds' vs [] μ H1 ps hc hds (fun a _ h=>by cases h) ha (fun a h=>by cases h)
  exact⟨μy,h1.hr,h1.nx,.tu _ _ _ _ h3.1 h3.2⟩
 | ag cs =>
  refine plain hs rfl (fun ts hts => ?_)
  subst hts
  simp only[settle,settle1,Option.map_eq_some_iff]at hs
  obtain⟨_,_,hs⟩:=hs
  cases hs
 | _ =>
  refine plain hs rfl (fun cs hcs => ?_)
  subst hcs
  simp only[settle,settle1,settleC]at hs
  repeat' split at hs
  all_goals first|(cases hs;done)|skip
  all_goals (repeat' split at hs)<;>cases hs
end
theorem fill_mu0 {K:Kn} {μ:Mu} {H:Heap} {W:World} (h:HR K μ H W):HR K mu0 [] W where
 dom:=fun id l e=>by cases e
 tot:=fun id h=>by simp at h
 blk:=fun id l b e=>by cases e
 lt:=fun id l e=>by cases e
 inj:=fun id id' l l' b b' e=>by cases e
 kn:=h.kn
 kf:=fun b o v _ ⟨id,l,b',e,_⟩=>by cases e
theorem frzR_sound {K:Kn} {μ:Mu} {H:Heap} {W:World} {d d':D} {v:Value} (h:frzR H d=some d') (hr:HR K μ H W) (hv:VR K μ H d v) : ∃ K' H',HR K' μ H' W /\ Nx K μ H W K' μ H' W /\ VR K' mu0 [] d' v:=by
 have one : ∀ {d d':D},VR K μ H d v -> frz1 H d=some d' -> ∃ K' H',HR K' μ H' W /\ Nx K μ H W K' μ H' W /\ VR K' mu0 [] d' v:=fun{d d'} hv h=>by
  unfold frz1 at h
  split at h
  ·rename_i d1 H1 hf
   cases h
   obtain⟨K',a,b,c⟩:=(freeze_all deep).1 H H1 d d' K μ W v hf hr hv
   exact⟨K',H1,a,b,c⟩
  ·cases h
 cases d with
 | tu ds =>
  simp only[frzR]at h
  split at h
  ·rename_i ds' H1 hf
   cases h
   obtain⟨vs,rfl,hl,hvs⟩:=hv.tu_inv
   obtain ⟨K',a,b,c,e⟩:=(freeze_all deep).2.1 ds H H1 ds' K μ W (fun j=>vs.getD j (.tuple #[])) hf hr (fun j d ed=>by
    have hlt:j<vs.length:=by rw[<- hl];exact lt_of_get ed
    exact hvs j d _ ed (by rw[List.getD_eq_getElem?_getD,List.getElem?_eq_getElem hlt];rfl))
   refine⟨K',H1,a,b,.tu _ _ ds' vs (by rw[c,hl]) (fun j d v ed ev => ?_)⟩
   have:=e j d ed
   rwa [List.getD_eq_getElem?_getD,ev,Option.getD_some]at this
  ·cases h
 | _=>exact one hv h
theorem VR.bare {K K2:Kn} {μ μ2:Mu} {H H2:Heap} {d:D} {v:Value} (h:VR K μ H d v) (hd:d.bare=true):VR K2 μ2 H2 d v:=by
 cases h<;>first|exact .b .. | exact .i .. | exact .s .. | (cases hd;done)
theorem HR.back {K K1 K':Kn} {μ μ':Mu} {H Hc:Heap} {W W':World} (hr:HR K μ H W) (nx:Nx K1 mu0 [] W K' μ' Hc W'):HR K μ H W' /\ Nx K μ H W K μ H W':=by
 have no : ∀ r,¬ Own mu0 [] r:=fun r ⟨id,l,b,a,_⟩=>by cases a
 refine ⟨⟨hr.dom,hr.tot,fun id l b a c=>(hr.blk id l b a c).ext (.refl _ _ _) (fun _=>nx.keep _ (hr.lt id l a) (no _)),fun id l a=>Nat.lt_of_lt_of_le (hr.lt id l a) nx.size,hr.inj,fun b o v e => ?_,hr.kf⟩,
  ⟨.refl _ _ _,nx.os,nx.tape,nx.output,nx.size,fun r h _=>nx.keep r h (no _),fun r h => .inl h,fun b o v e => .inl e⟩⟩
 rw[<- hr.kn b o v e]
 exact World.cell?_of_block (nx.keep b (hr.klt e) (no _))
def SettlesP (K:Kn) (W:World) (q:D):Ending -> World -> Prop
 | .panicked ch,W' => ∃ v K' μ' H',ch=PanE v /\ HR K' μ' H' W' /\ Nx K mu0 [] W K' μ' H' W' /\ VR K' mu0 [] q v
 | _,_=>False
theorem pureR_sim {P:Program} {V:VProg} {T:Kn -> World -> Prop} (hm:P.follows .mixedOrders=true) (vok:VOK P V T) {n:Nat} (ih:CallSim P T (call V n)) (ihp:CallSimP P T (call V n)) {f:FuncId} {vf:VFunc} (hf:V.fn f=some vf) {ds:List D} {d:D} (h:pureR V (call V n) n f vf ds = .ret d) {K:Kn} {W:World} {vs:List Value} (hT:T K W) (hr:HR K mu0 [] W) (hv:VRs K mu0 [] ds vs) :
  Calls P f vs.toArray W (Settles vf.own K W d):=by
 obtain⟨fn,tm,bs,hP,hok,_,hrg⟩:=vok.fn f vf hf
 unfold pureR at h
 split at h
 ·rename_i d1 heq
  cases h
  exact vok.pext f ds _ vf hf heq K W vs hT hr hv
 ·unfold pureRun at h
  cases hent:enterF V (call V n) n vf ds []with
  | bad=>rw[hent]at h;cases h
  | pan q Hq=>rw[hent]at h;simp only at h;split at h<;>cases h
  | ret d0 Hc =>
   rw[hent]at h
   simp only at h
   split at h
   ·rename_i d2 hset
    cases h
    refine((enterF_all hm vok ih ihp (call_fit V (fun f args H d H' h=>(vok.ext f args H d H' h).1) n) hP hok hrg hT hr hv).1 _ _ hent).mono (fun e W' hgv => ?_)
    cases e with
    | returned v =>
     obtain⟨K',μ',hrc,nx,hvr⟩:=hgv
     exact⟨K',μ',Hc,d0,hrc,nx,hvr,hset⟩
    | _=>exact hgv.elim
   ·cases h
theorem pureR_simP {P:Program} {V:VProg} {T:Kn -> World -> Prop} (hm:P.follows .mixedOrders=true) (vok:VOK P V T) {n:Nat} (ih:CallSim P T (call V n)) (ihp:CallSimP P T (call V n)) {f:FuncId} {vf:VFunc} (hf:V.fn f=some vf) {ds:List D} {q:D} (h:pureR V (call V n) n f vf ds = .pan q) {K:Kn} {W:World} {vs:List Value} (hT:T K W) (hr:HR K mu0 [] W) (hv:VRs K mu0 [] ds vs) :
  Calls P f vs.toArray W (SettlesP K W q):=by
 obtain⟨fn,tm,bs,hP,hok,_,hrg⟩:=vok.fn f vf hf
 unfold pureR at h
 split at h
 ·cases h
 ·unfold pureRun at h
  cases hent:enterF V (call V n) n vf ds []with
  | bad=>rw[hent]at h;cases h
  | ret d0 Hc=>rw[hent]at h;simp only at h;split at h<;>cases h
  | pan q0 Hq =>
   rw[hent]at h
   simp only at h
   split at h
   ·rename_i d2 H2 hfr
    cases h
    refine((enterF_all hm vok ih ihp (call_fit V (fun f args H d H' h=>(vok.ext f args H d H' h).1) n) hP hok hrg hT hr hv).2 _ _ hent).mono (fun e W' hgv => ?_)
    cases e with
    | panicked ch =>
     obtain⟨v,K',μ',rfl,hrc,nx,hvr⟩:=hgv
     obtain⟨K2,a,b,c⟩:=(freeze_all deep).1 Hq H2 q0 q K' μ' W' v hfr hrc hvr
     exact⟨v,K2,μ',H2,rfl,a,nx.trans b,c⟩
    | _=>exact hgv.elim
   ·cases h
theorem call_both {P:Program} {V:VProg} {T:Kn -> World -> Prop} (hm:P.follows .mixedOrders=true) (vok:VOK P V T) : ∀ n,CallSim P T (call V n) /\ CallSimP P T (call V n):=by
 intro n
 induction n with
 | zero=>exact⟨fun f args H d H' h=>(by cases h),fun f args H d H' h=>(by cases h)⟩
 | succ n ih =>
  obtain⟨ih,ihp⟩:=ih
  have args_frozen : ∀ {args ds:List D} {H H1:Heap} {K:Kn} {μ:Mu} {W:World} {vs:List Value},freezeL deep H args=some (ds,H1) -> HR K μ H W -> VRs K μ H args vs -> ∃ K1,HR K1 μ H1 W /\ Nx K μ H W K1 μ H1 W /\ VRs K1 mu0 [] ds vs:=fun{args ds H H1 K μ W vs} hfr hr hv=>by
   have hg : ∀ (j:Nat) (d:D),args[j]?=some d -> VR K μ H d (vs.getD j (.tuple #[])):=fun j d e=>by
    have hlt:j<vs.length:=by rw[<- hv.1];exact lt_of_get e
    exact hv.2 j d _ e (by rw[List.getD_eq_getElem?_getD,List.getElem?_eq_getElem hlt];rfl)
   obtain⟨K1,hr1,nx1,hlen,hpt⟩:=(freeze_all deep).2.1 args H H1 ds K μ W (fun j=>vs.getD j (.tuple #[])) hfr hr hg
   exact ⟨K1,hr1,nx1,by rw[hlen,hv.1],fun j d v e e'=>by
    have:=hpt j d e
    rwa [List.getD_eq_getElem?_getD,e',Option.getD_some]at this⟩
  refine⟨fun f args H d H' h => ?_,fun f args H q H' h => ?_⟩
  ·cases hf : V.fn f with
   | none =>
    simp only[call,hf]at h
    split at h
    ·rename_i hy
     exact⟨fun hn=>absurd hy hn,fun _=>round_sim hm vok ih ihp (call_fit V (fun f args H d H' h=>(vok.ext f args H d H' h).1) n) h⟩
    ·rename_i hy
     refine⟨fun _ => ?_,fun e=>absurd e hy⟩
     split at h
     ·rename_i heq;cases h;exact(vok.ext _ _ _ _ _ heq).2
     ·cases h
   | some vf =>
    obtain⟨fn,tm,bs,hP,hok,_,hrg⟩:=vok.fn f vf hf
    refine⟨fun _=>⟨vok.known hf,fun K μ W vs hT hr hv => ?_⟩,fun e=>(by rw[e,vok.nyf]at hP;cases hP)⟩
    cases hp:vf.pure with
    | false =>
     simp only[call,hf,hp]at h
     split at h
     ·rename_i d1 H1 heq
      cases h
      exact(vok.ext f args H _ _ heq).2.2 K μ W vs hT hr hv
     ·exact(enterF_all hm vok ih ihp (call_fit V (fun f args H d H' h=>(vok.ext f args H d H' h).1) n) hP hok hrg hT hr hv).1 _ _ h
    | true =>
     simp only[call,hf,hp]at h
     split at h
     ·cases h
     ·rename_i ds H1 hfr
      obtain⟨K1,hr1,nx1,hvs⟩:=args_frozen hfr hr hv
      split at h
      ·rename_i d1 heq
       cases h
       refine(pureR_sim hm vok ih ihp hf heq (vok.up hT hr nx1) (fill_mu0 hr1) hvs).mono (fun e W' hgv => ?_)
       cases e with
       | returned v =>
        obtain⟨K',μ',Hc,d0,hrc,nx,hvr,hset⟩:=hgv
        have main : ∃ K2 μ2,HR K2 μ2 (placeO vf.own d1 H1).2 W' /\ Nx K μ H W K2 μ2 (placeO vf.own d1 H1).2 W' /\ VR K2 μ2 (placeO vf.own d1 H1).2 (placeO vf.own d1 H1).1 v:=by
         cases how:vf.own with
         | true =>
          rw[how]at hset
          simp only[settleO]at hset
          split at hset
          ·rename_i hap
           obtain⟨μy,h1,h2,h3⟩:=place_all hrc nx hr1 d0 d1 v hvr hset hap
           exact⟨K',μy,h1,nx1.trans h2,h3⟩
          ·cases hset
         | false =>
          rw[how]at hset
          obtain⟨K2,H2,h1,h2,h3⟩:=frzR_sound hset hrc hvr
          have ps:=PS.start hr1 h1 (nx.trans h2)
          exact⟨K2,μ,ps.hr,nx1.trans ps.nx,h3.pure⟩
        cases hbk:(vf.fre&&d1.bare)with
        | false =>
         simp only[backH,hbk]
         exact main
        | true =>
         obtain⟨_,_,_,_,m3⟩:=main
         have hb:d1.bare=true:=(Bool.and_eq_true _ _▸hbk).2
         have hp1 : ∀ Hx,placeO vf.own d1 Hx=(d1,Hx):=fun Hx=>by
          cases vf.own with
          | false=>rfl
          | true=>cases d1<;>first|rfl|(cases hb;done)
         simp only[backH,hbk,hp1]at m3 ⊢
         obtain⟨b1,b2⟩:=hr.back nx
         exact⟨K,μ,b1,b2,m3.bare hb⟩
       | _=>exact hgv.elim
      ·cases h
      ·cases h
  ·cases hf:V.fn f with
   | none =>
    simp only[call,hf]at h
    split at h
    ·exact(roundR_nopan h).elim
    ·split at h<;>cases h
   | some vf =>
    obtain⟨fn,tm,bs,hP,hok,_,hrg⟩:=vok.fn f vf hf
    refine⟨fun e=>(by rw[e,vok.nyf]at hP;cases hP),vok.known hf,fun K μ W vs hT hr hv => ?_⟩
    cases hp:vf.pure with
    | false =>
     simp only[call,hf,hp]at h
     split at h
     ·cases h
     ·exact(enterF_all hm vok ih ihp (call_fit V (fun f args H d H' h=>(vok.ext f args H d H' h).1) n) hP hok hrg hT hr hv).2 _ _ h
    | true =>
     simp only[call,hf,hp]at h
     split at h
     ·cases h
     ·rename_i ds H1 hfr
      obtain⟨K1,hr1,nx1,hvs⟩:=args_frozen hfr hr hv
      split at h
      ·cases h
      ·rename_i q1 heq
       cases h
       refine(pureR_simP hm vok ih ihp hf heq (vok.up hT hr nx1) (fill_mu0 hr1) hvs).mono (fun e W' hgv => ?_)
       cases e with
       | panicked ch =>
        obtain⟨v,K',μ',Hc,rfl,hrc,nx,hvr⟩:=hgv
        have ps:=PS.start hr1 hrc nx
        exact⟨v,K',μ,rfl,ps.hr,nx1.trans ps.nx,hvr.pure⟩
       | _=>exact hgv.elim
      ·cases h
theorem call_sim {P:Program} {V:VProg} {T:Kn -> World -> Prop} (hm:P.follows .mixedOrders=true) (vok:VOK P V T) (n:Nat):CallSim P T (call V n):=(call_both hm vok n).1
theorem call_simP {P:Program} {V:VProg} {T:Kn -> World -> Prop} (hm:P.follows .mixedOrders=true) (vok:VOK P V T) (n:Nat):CallSimP P T (call V n):=(call_both hm vok n).2
theorem pcall_sim {P:Program} {V:VProg} {T:Kn -> World -> Prop} (hm:P.follows .mixedOrders=true) (vok:VOK P V T) {n:Nat} {f:FuncId} {ds:List D} {d:D} (h:pcall V n f ds = .ret d) {K:Kn} {W:World} {vs:List Value} (hT:T K W) (hr:HR K mu0 [] W) (hv:VRs K mu0 [] ds vs) :
  ∃ own,Calls P f vs.toArray W (Settles own K W d):=by
 cases n with
 | zero=>cases h
 | succ n =>
  unfold pcall at h
  cases hf:V.fn f with
  | none=>simp only[hf]at h;cases h
  | some vf =>
   simp only[hf]at h
   exact⟨_,pureR_sim hm vok (call_sim hm vok n) (call_simP hm vok n) hf h hT hr hv⟩
end Go.Dm
