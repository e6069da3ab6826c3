/-
  Numbers and truth values as arguments;how a law closes its row.
-/
import Derived.Test.YtgefdialaemelaaGreatDoorDf
import Derived.ChangeArms
import Derived.ChangeShapes
import Derived.ChangeSame
import Derived.Carry
import Derived.SizedLaws
namespace Go.Dm
open Go.ChangeShapes Go.RowKit
def knAll (W:World):Kn:=fun b o=>W.cell? ⟨b,o,none⟩
theorem hr_all (W:World):HR (knAll W) mu0 [] W where
 dom:=fun id l e=>by cases e
 tot:=fun id h=>by simp at h
 blk:=fun id l b e=>by cases e
 lt:=fun id l e=>by cases e
 inj:=fun id id' l l' b b' e=>by cases e
 kn:=fun b o v e=>e
 kf:=fun b o v _ ⟨id,l,b',e,_⟩=>by cases e
inductive FT
 | i (k:IntKind)
 | b
def flatT (P:Program) (t:TypeId):Option FT:=match P.underlying t with
 | some (.int k)=>some (.i k)
 | some .bool=>some .b
 | _=>none
def flatTs (P:Program):List TypeId -> Option (List FT)
 | []=>some []
 | t::ts=>match flatT P t,flatTs P ts with
  | some x,some xs=>some (x::xs)
  | _,_=>none
inductive HasF:FT -> D -> Prop
 | i (k:IntKind) (n:Int) (h:k.min <= n /\ n <= k.max):HasF (.i k) (.i k n)
 | b (x:Bool):HasF .b (.b x)
inductive HasFs:List FT -> List D -> Prop
 | nil:HasFs [] []
 | cons {t:FT} {d:D} {ts:List FT} {ds:List D} (h:HasF t d) (hs:HasFs ts ds):HasFs (t::ts) (d::ds)
section
variable {H:Type} {enc:TypeId×Value -> H} {P:Program} {W:World}
theorem read_flat {t:TypeId} {p:FT} (hp:flatT P t=some p) {base:Nat} {v:Value} {d:DataW H} {ps:List MemPlace} (hval:Value.okWide P W .any base t v) (h:DataW.Trod enc P W 0 (fun _=>true) true t v d ps) :
  ∃ x,HasF p x /\ VR (knAll W) mu0 [] x v:=by
 obtain⟨n,h⟩:=h
 unfold flatT at hp
 split at hp
 ·rename_i k hu
  cases hp
  have hone:v.cells.toList=[v]:=by
   cases v<;>first|rfl|(simp[Value.okWide,hu,Cell.okWide,Cell.ok]at hval)
  obtain⟨z,hc,_,hz⟩:=DataW.trod_int hu h
  rw[hone]at hc
  cases hc
  exact⟨.i k z,.i k z (by simpa [Lit.wf]using hz),.i ..⟩
 ·rename_i hu
  cases hp
  have hone:v.cells.toList=[v]:=by
   cases v<;>first|rfl|(simp[Value.okWide,hu,Cell.okWide,Cell.ok]at hval)
  obtain⟨z,hc,_⟩:=DataW.trod_bool hu h
  rw[hone]at hc
  cases hc
  exact⟨.b z,.b z,.b ..⟩
 ·cases hp
theorem read_flats : ∀ {ts:List TypeId} {ps:List FT} (_:flatTs P ts=some ps) {base:Nat} {vs:List Value} {ds:List (DataW H)} {pl:List MemPlace},(∀ (j:Nat) t v,ts[j]?=some t -> vs[j]?=some v -> Value.okWide P W .any base t v) ->
  DataW.TrodAll enc P W 0 (fun _=>true) true ts vs ds pl -> ∃ xs,HasFs ps xs /\ VRs (knAll W) mu0 [] xs vs
 | [],ps,hp,base,vs,ds,pl,hval,h=>by
  obtain⟨rfl,rfl,rfl⟩:=trodAll_nil h
  cases hp
  exact⟨[],.nil,rfl,fun j d v e=>by cases e⟩
 | t::ts,ps,hp,base,vs,ds,pl,hval,h=>by
  simp only[flatTs]at hp
  split at hp
  ·rename_i p ps' h1 h2
   cases hp
   obtain⟨v,vs,d,ds,p0,q0,rfl,rfl,rfl,g1,g2⟩:=trodAll_cons h
   obtain⟨x,e1,e2⟩:=read_flat h1 (hval 0 t v rfl rfl) g1
   obtain⟨xs,e3,e4⟩:=read_flats h2 (fun j t' v' a b=>hval (j+1) t' v' (by simpa using a) (by simpa using b)) g2
   refine⟨x::xs,.cons e1 e3,by simp[e4.1],fun j d' v' a b => ?_⟩
   cases j with
   | zero=>cases a;cases b;exact e2
   | succ j=>exact e4.2 j d' v' (by simpa using a) (by simpa using b)
  ·cases hp
theorem stays_all (hl:laidOutB P=true) {W':World} (hb:Below W.heap.size W W') {sp:Nat -> Bool} : ∀ {ts:List TypeId} {vs:List Value} {ds:List (DataW H)} {pl:List MemPlace},(∀ t∈ts,P.readableRec t=true /\ t<P.types.size) ->
  DataW.TrodAll enc P W 0 (fun _=>true) true ts vs ds pl -> (∀ x∈pl,x.block<W.heap.size) -> (∀ x∈pl,sp x.block=true) -> DataW.TrodAll enc P W' 0 sp true ts vs ds pl
 | [],vs,ds,pl,_,h,_,_=>by
  obtain⟨rfl,rfl,rfl⟩:=trodAll_nil h
  rfl
 | t::ts,vs,ds,pl,hts,h,hlt,hsp=>by
  obtain⟨v,vs,d,ds,p0,q0,rfl,rfl,rfl,g1,g2⟩:=trodAll_cons h
  obtain⟨h1,h2⟩:=hts t List.mem_cons_self
  exact ⟨p0,q0,WideElems.Trod_stays hl h1 h2 g1 (fun x hx=>hb.same (hlt x (List.mem_append_left _ hx))) (fun x hx=>hsp x (List.mem_append_left _ hx)),
   stays_all hl hb (fun t' ht'=>hts t' (List.mem_cons_of_mem _ ht')) g2 (fun x hx=>hlt x (List.mem_append_right _ hx)) (fun x hx=>hsp x (List.mem_append_right _ hx)),rfl⟩
theorem Nx.below {K:Kn} {W:World} {K':Kn} {μ':Mu} {H':Heap} {W':World} (nx:Nx K mu0 [] W K' μ' H' W'):Below W.heap.size W W' :=
 ⟨nx.os,nx.tape,nx.output,nx.size,fun k hk=>nx.keep k hk (fun⟨id,l,b,e,_⟩=>by cases e)⟩
theorem law_post {f:Func} {s:ChangeSpec} {apart fresh handsOn again:Bool} {W W':World} {args:Array Value} {ds gs:List (DataW H)} {before:List MemPlace} {bt:TypeId}
  (hW:DataW.Whole enc P f.params.toList s.vars apart W args.toList ds gs before) (hv:s.vars=[]) (hb:Below W.heap.size W W') (hl:laidOutB P=true)
  (hts : ∀ t∈f.params.toList,P.readableRec t=true /\ t<P.types.size) (hres:f.resultTypes = #[bt]) (hbt:P.underlying bt=some .bool)
  (h1:(s.fn H (ds++gs)).results=[.lit (.bool true)]) (h2:(s.fn H (ds++gs)).args=ds) (h3:(s.fn H (ds++gs)).vars=[]) :
  s.post enc P f apart fresh handsOn again W args (.bool true) W':=by
 have hlt:=hW.lt
 obtain⟨p,q,hA,hV,rfl,hfz,hnd⟩:=hW
 rw[hv]at hV
 have hV0:gs=[] /\ q=[]:=by
  cases gs with
  | nil=>exact⟨rfl,hV⟩
  | cons g gs=>exact hV.elim
 obtain⟨rfl,rfl⟩:=hV0
 simp only[List.append_nil]at hlt hfz hnd h1 h2 h3 ⊢
 have hr : ∀ (b:Nat) (sp:Nat -> Bool) (hd:Bool),DataW.TrodAll enc P W' b sp hd f.resultTypes.toList ((Value.bool true).resultList f.resultTypes.size) [.lit (.bool true)] []:=fun b sp hd=>by
  rw[hres]
  exact⟨[],[],shut_bool hbt true,rfl,rfl⟩
 refine⟨ds,[],p,[],p,[],⟨p,[],hA,by rw[hv];rfl,by simp,hfz,hnd⟩, ?_, ?_, ?_,hb.frame _,fun _=>⟨ok_one hres rfl (okWide_bool_mk hbt true),[.lit (.bool true)]++ds,[],p,⟨[]++p,[], ?_,by rw[hv];rfl,by simp, ?_, ?_⟩,fun x hx _=>hx⟩⟩
 ·simp only[List.append_nil];rw[h1];exact hr _ _ _
 ·simp only[List.append_nil];rw[h2]
  exact stays_all hl hb hts hA hlt (fun x hx=>by simpa using hlt x hx)
 ·simp only[List.append_nil];rw[hv,h3];rfl
 ·exact trodAll_append (stays_all hl hb hts hA hlt (fun _ _=>rfl)) (hr _ _ _)
 ·intro b off hp
  rw[hb.frozen (p:=⟨b,off,none⟩) (hlt _ hp)]
  exact hfz b off hp
 ·intro ha
  simpa using hnd ha
theorem law_flat {V:VProg} {Lk:Kn -> World -> Prop} (hm:P.follows .mixedOrders=true) (vok:VOK P V Lk) (hl:laidOutB P=true) {f:FuncId} {fn:Func} {s:ChangeSpec} {apart fresh handsOn again:Bool} {bt:TypeId} {pts:List FT}
  (hts : ∀ t∈fn.params.toList,P.readableRec t=true /\ t<P.types.size) (hps:flatTs P fn.params.toList=some pts) (hres:fn.resultTypes = #[bt]) (hbt:P.underlying bt=some .bool) (hv:s.vars=[])
  (law : ∀ xs,HasFs pts xs -> ∃ n,pcall V n f xs = .ret (.b true)) {W:World} {base:Nat} {args:Array Value} {ds gs:List (DataW H)} {before:List MemPlace} (hT:Lk (knAll W) W)
  (hval : ∀ (j:Nat) t v,fn.params[j]?=some t -> args[j]?=some v -> Value.okWide P W .any base t v) (hW:DataW.Whole enc P fn.params.toList s.vars apart W args.toList ds gs before)
  (h1:(s.fn H (ds++gs)).results=[.lit (.bool true)]) (h2:(s.fn H (ds++gs)).args=ds) (h3:(s.fn H (ds++gs)).vars=[]) :
  Calls P f args W fun e W' => ∃ v,e = .returned v /\ s.post enc P fn apart fresh handsOn again W args v W':=by
 have hW':=hW
 obtain⟨p,q,hA,hV,_⟩:=hW
 have hgs:gs=[]:=by
  rw[hv]at hV
  cases gs with
  | nil=>rfl
  | cons g gs=>exact hV.elim
 obtain⟨xs,g1,g2⟩:=read_flats hps (fun j t v a b=>hval j t v (by rw[<- Array.getElem?_toList];exact a) (by rw[<- Array.getElem?_toList];exact b)) hA
 obtain⟨n,hn⟩:=law xs g1
 obtain⟨own,this⟩:=pcall_sim hm vok hn hT (hr_all W) g2
 rw[Array.toArray_toList]at this
 refine this.mono (fun e W' he => ?_)
 cases e with
 | returned v =>
  obtain⟨K',μ',H',d0,hr0,nx,hv0,hset⟩:=he
  have hvt:v = .bool true:=by
   cases own with
   | true =>
    simp only[settleO]at hset
    split at hset
    ·have hd:d0 = .b true:=by
      cases d0<;>simp only[settle,settle1,settleC,Option.map_eq_some_iff]at hset
      all_goals first
       | (cases hset;rfl)
       | (cases hset;done)
       | (obtain⟨_,_,hset⟩:=hset;cases hset;done)
       | (repeat' split at hset)<;>first|(cases hset;done)|(simp_all;done)
     subst hd
     cases hv0
     rfl
    ·cases hset
   | false =>
    obtain⟨_,_,_,_,h3⟩:=frzR_sound hset hr0 hv0
    cases h3
    rfl
  subst hvt
  exact⟨_,rfl,law_post hW' hv nx.below hl hts hres hbt h1 h2 h3⟩
 | _=>exact he.elim
end
end Go.Dm
