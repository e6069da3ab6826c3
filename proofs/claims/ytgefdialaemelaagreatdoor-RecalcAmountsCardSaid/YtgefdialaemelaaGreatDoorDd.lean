/-
  Regions,statements and bodies of the machine beside the model's.
-/
import Derived.Test.YtgefdialaemelaaGreatDoorDc
import Derived.WalkSmall
import Derived.RangeFuncLeaves
import Derived.OrdersIn
import Derived.RangeFuncRecord
namespace Go.Dm
section
variable {c:CX} {E:En} {L:Nat -> Option Nat} {K:Kn} {μ:Mu} {sl:List D} {H:Heap} {a:Act} {W:World} {o:Oper} {loc:List D} {done:Nat -> Prop}
def VOp.calls:VOp -> Bool
 | .call .. | .calv .. | .calvx .. | .inv .. | .pan .. | .cpl .. | .calx .. | .gia .. | .callp .. => true
 | _=>false
theorem ofO_inv {st st':St} {x:Option D} {d:D} (h:ofO st x = .v d st'):x=some d /\ st'=st:=by
 cases x with
 | none=>cases h
 | some y=>cases h;exact⟨rfl,rfl⟩
theorem ofP_inv {st st':St} {x:Option (D×Heap)} {d:D} (h:ofP st x = .v d st'):x=some (d,st'.hp) /\ st'=⟨st.sl,st'.hp⟩:=by
 cases x with
 | none=>cases h
 | some y=>cases h;exact⟨rfl,rfl⟩
theorem ofH_inv {st st':St} {x:Option Heap} {d:D} (h:ofH st x = .v d st'):x=some st'.hp /\ d = .u /\ st'=⟨st.sl,st'.hp⟩:=by
 cases x with
 | none=>cases h
 | some y=>cases h;exact⟨rfl,rfl,rfl⟩
theorem okOo_sound (fs:FS E c.tm c.bs K μ L sl H a.tmps W) (lr:LRs c done L K μ H loc a.tmps) {i:Nat} {x:Option O} {y:Option Operand} (h:okOo c i x y=true) (hd : ∀ j∈x.toList.flatMap O.locs,done j) :
  VRo K μ H a (x.map (O.ev loc sl)) y:=by
 cases x<;>cases y<;>simp only[okOo]at h<;>first
  | (cases h;done)
  | trivial
  | exact okO_sound fs lr h (fun j hj=>hd j (by simpa using hj))
theorem sliceElem_eq {P:Program} {t e:Nat} (h:sliceElem P t=some e):P.underlying t=some (.slice e):=by
 unfold sliceElem at h
 split at h<;>simp_all
theorem arrayElem_eq {P:Program} {t n e:Nat} (h:arrayElem P t=some (n,e)):P.underlying t=some (.array n e):=by
 unfold arrayElem at h
 split at h<;>simp_all
theorem bsl_parts (fs:FS E c.tm c.bs K μ L sl H a.tmps W) (lr:LRs c done L K μ H loc a.tmps) {i:Nat} : ∀ {ps:List (Nat×O)} {qs:List (Nat×Operand)},bslOk c i ps qs=true -> (∀ j∈(ps.map fun p=>p.2).flatMap O.locs,done j) ->
  ps.length=qs.length /\ ∀ (j:Nat) (x:Nat×D) (y:Nat×Operand),(ps.map fun(k,x)=>(k,x.ev loc sl))[j]?=some x -> qs[j]?=some y -> x.1=y.1 /\ VR K μ H x.2 (a.eval y.2)
 | [],[],_,_=>⟨rfl,fun j x y e=>by simp at e⟩
 | [],_::_,h,_=>by simp[bslOk]at h
 | _::_,[],h,_=>by simp[bslOk]at h
 | (k,x)::ps,(k',y)::qs,h,hd=>by
  simp only[bslOk,Bool.and_eq_true,beq_iff_eq]at h
  have h1:=okO_sound fs lr h.1.2 (fun j hj=>hd j (by simp[hj]))
  obtain⟨h2,h3⟩:=bsl_parts fs lr h.2 (fun j hj=>hd j (by simp only[List.map_cons,List.flatMap_cons,List.mem_append];exact .inr hj))
  refine⟨by simp[h2],fun j u v e e' => ?_⟩
  cases j with
  | zero=>cases e;cases e';exact⟨h.1.1,h1⟩
  | succ j=>exact h3 j u v (by simpa using e) (by simpa using e')
theorem agc_parts (fs:FS E c.tm c.bs K μ L sl H a.tmps W) (lr:LRs c done L K μ H loc a.tmps) {i:Nat} {place:Nat -> Option (Nat×Nat)} : ∀ {ps:List (Nat×Nat×O)} {qs:List (Nat×Operand)},agcOk c i place ps qs=true -> (∀ j∈(ps.map fun p=>p.2.2).flatMap O.locs,done j) ->
  ps.length=qs.length /\ ∀ (j:Nat) (x:Nat×Nat×D) (y:Nat×Operand),(ps.map fun(off,n,x)=>(off,n,x.ev loc sl))[j]?=some x -> qs[j]?=some y -> place y.1=some (x.1,x.2.1) /\ VR K μ H x.2.2 (a.eval y.2)
 | [],[],_,_=>⟨rfl,fun j x y e=>by simp at e⟩
 | [],_::_,h,_=>by simp[agcOk]at h
 | _::_,[],h,_=>by simp[agcOk]at h
 | (off,n,x)::ps,(k',y)::qs,h,hd=>by
  simp only[agcOk,Bool.and_eq_true,beq_iff_eq]at h
  have h1:=okO_sound fs lr h.1.2 (fun j hj=>hd j (by simp[hj]))
  obtain⟨h2,h3⟩:=agc_parts fs lr h.2 (fun j hj=>hd j (by simp only[List.map_cons,List.flatMap_cons,List.mem_append];exact .inr hj))
  refine⟨by simp[h2],fun j u v e e' => ?_⟩
  cases j with
  | zero=>cases e;cases e';exact⟨h.1.1,h1⟩
  | succ j=>exact h3 j u v (by simpa using e) (by simpa using e')
theorem isNilC_lit {i:Nat} {x:O} {y:Operand} (h:isNilC x=true) (hk:okO c i x y=true):isLit y=true:=by
  unfold isNilC at h
  split at h
  all_goals first
    | (cases h;done)
    | (unfold okO at hk
       split at hk<;>first
         | rfl
         | (rename_i he;cases he;done)
         | simp_all)
theorem op_sound (fs:FS E c.tm c.bs K μ L sl H a.tmps W) (lr:LRs c done L K μ H loc a.tmps) {i:Nat} {vo:VOper} (hok:okOp c i o vo=true) (hd : ∀ j∈vo.op.args.flatMap O.locs++vo.op.base.flatMap AB.locs,done j)
  (hc:vo.op.calls=false) (hb:vo.op.isBox=false) (ha:vo.op.isAddr=false) {cl:FuncId -> List D -> Heap -> CR} {d:D} {st':St} (h:step c.V cl loc ⟨sl,H⟩ vo.op = .v d st'):Sim c E L o a K μ H W d st':=by
 obtain⟨op,keep,guard⟩:=vo
 simp only at hd hc hb ha h
 have ev : ∀ {x:O} {y:Operand},okO c i x y=true -> x∈op.args -> VR K μ H (x.ev loc sl) (a.eval y):=fun hk hm=>okO_sound fs lr hk (fun j hj=>hd j (List.mem_append_left _ (List.mem_flatMap.2 ⟨_,hm,hj⟩)))
 have evs : ∀ {xs:List O} {ys:List Operand},okOs c i xs ys=true -> (∀ x∈xs,x∈op.args) -> VRs K μ H (xs.map (O.ev loc sl)) (ys.map a.eval):=fun hk hm=>okOs_sound fs lr hk (fun j hj=>hd j (List.mem_append_left _ (by
  obtain⟨x,h1,h2⟩:=List.mem_flatMap.1 hj
  exact List.mem_flatMap.2 ⟨x,hm x h1,h2⟩)))
 have evo : ∀ {x:Option O} {y:Option Operand},okOo c i x y=true -> (∀ z∈x.toList,z∈op.args) -> VRo K μ H a (x.map (O.ev loc sl)) y:=fun hk hm=>okOo_sound fs lr hk (fun j hj=>hd j (List.mem_append_left _ (by
  obtain⟨x,h1,h2⟩:=List.mem_flatMap.1 hj
  exact List.mem_flatMap.2 ⟨x,hm x h1,h2⟩)))
 have eva : ∀ {x:AB} {y:Operand} {k q:Nat},okA c i x y=true -> x∈op.base -> x.ev loc sl=some (k,q) -> ∃ r,L k=some r /\ a.eval y = .pointer (some ⟨r,q,none⟩):=fun hk hm he=>by
  obtain⟨r,h1,h2,_⟩:=okA_sound fs lr hk (fun j hj=>hd j (List.mem_append_right _ (List.mem_flatMap.2 ⟨_,hm,hj⟩))) he
  exact⟨r,h1,h2⟩
 cases op with
 | lal zs=>cases hb
 | lbx x n=>cases hb
 | lfa x off=>cases ha
 | lia x ix n w=>cases ha
 | call f xs=>cases hc
 | cpl f xs=>cases hc
 | calx f xs=>cases hc
 | callp f xs=>cases hc
 | gia g ix n w=>cases hc
 | stk=>simp only[step]at h;cases h
 | calv x xs=>cases hc
 | calvx x xs=>cases hc
 | inv x m xs=>cases hc
 | pan x=>cases hc
 | mov x =>
  simp only[okOp]at hok
  simp only[step]at h
  split at hok
  ·rename_i y ho
   cases h
   exact sim_mov fs (.inl ho) (ev hok (by simp[VOp.args]))
  ·rename_i y ho
   cases h
   exact sim_mov fs (.inr ho) (ev hok (by simp[VOp.args]))
  ·cases hok
 | pick x y z =>
  simp only[okOp]at hok
  simp only[step]at h
  split at hok
  ·rename_i x' y' z' ho
   simp only[Bool.and_eq_true]at hok
   replace h:=ofO_inv h
   obtain⟨h,rfl⟩:=h
   have h1:=ev hok.1.1 (by simp[VOp.args])
   have h2:=ev hok.1.2 (by simp[VOp.args])
   have h3:=ev hok.2 (by simp[VOp.args])
   unfold pickD at h
   split at h
   ·rename_i hx;cases h;rw[hx]at h1;exact sim_pick fs (b:=true) ho h1 h2 h3
   ·rename_i hx;cases h;rw[hx]at h1;exact sim_pick fs (b:=false) ho h1 h2 h3
   ·cases h
  ·cases hok
 | hal kt zs =>
  simp only[okOp]at hok
  simp only[step]at h
  split at hok
  ·rename_i t ho
   simp only[Bool.and_eq_true,beq_iff_eq]at hok
   obtain⟨hok,rfl⟩:=hok
   cases h
   obtain⟨vs,_,hc,hrun⟩:=run_alloc (a:=a) hok ho W
   exact sim_heap fs hrun (hc _ _ _)
  ·cases hok
 | hbx kt x n =>
  simp only[okOp]at hok
  simp only[step]at h
  split at hok
  ·rename_i t y ho
   simp only[Bool.and_eq_true,beq_iff_eq]at hok
   obtain⟨hok,rfl⟩:=hok
   replace h:=ofP_inv h
   obtain⟨h,hst⟩:=h;rw[hst]
   cases hx:(x.ev loc sl).cellsN n with
   | none=>rw[hx]at h;cases h
   | some cs =>
    rw[hx]at h
    have h':some (D.hp H.length 0,H++[.hb kt cs])=some (d,st'.hp):=h
    simp only[Option.some.injEq,Prod.mk.injEq]at h'
    rw[<- h'.1, <- h'.2]
    exact sim_heap fs (run_box ho W) (cellsN_of hx (ev hok.1 (by simp[VOp.args]))).1
  ·cases hok
 | haa w zs p =>
  simp only[okOp]at hok
  simp only[step]at h
  split at hok
  ·rename_i t ho
   split at hok
   ·rename_i n e hae
    simp only[Bool.and_eq_true,beq_iff_eq,List.all_eq_true]at hok
    cases h
    obtain⟨vs,_,hc,hrun⟩:=run_alloc (a:=a) hok.2 ho W
    exact sim_array fs (fun i r e=>hok.1.2 r (List.mem_of_getElem? e)) hrun (hc _ _ _)
   ·cases hok
  ·cases hok
 | lld x n agg =>
  simp only[okOp]at hok
  simp only[step]at h
  split at hok
  ·rename_i t y ho
   simp only[Bool.and_eq_true]at hok
   split at h
   ·rename_i k q he
    obtain⟨r,h1,h2⟩:=eva hok.1.1 (by simp[VOp.base]) he
    split at h
    ·rename_i cs hbx
     split at h
     ·rename_i ds hcut
      replace h:=ofO_inv h
      obtain⟨h,rfl⟩:=h
      exact sim_lld fs ho hok.1.2 hok.2 h1 h2 hbx hcut h
     ·cases h
    ·cases h
   ·cases h
  ·cases hok
 | lst x v n =>
  simp only[okOp]at hok
  simp only[step]at h
  split at hok
  ·rename_i t y z ho
   simp only[Bool.and_eq_true]at hok
   split at h
   ·rename_i k q he
    obtain⟨r,h1,h2⟩:=eva hok.1.1 (by simp[VOp.base]) he
    split at h
    ·rename_i cs hbx
     split at h
     ·rename_i vs hvs
      split at h
      ·rename_i cs' hput
       cases h
       exact sim_lst fs ho hok.2 h1 h2 hbx (ev hok.1.2 (by simp[VOp.args])) hvs hput
      ·cases h
     ·cases h
    ·cases h
   ·cases h
  ·cases hok
 | fad x off =>
  simp only[okOp]at hok
  simp only[step]at h
  split at hok
  ·rename_i s y f ho
   simp only[Bool.and_eq_true]at hok
   replace h:=ofO_inv h
   obtain⟨h,rfl⟩:=h
   exact sim_fad fs ho hok.2 (ev hok.1 (by simp[VOp.args])) h
  ·cases hok
 | iad x ix w =>
  simp only[okOp]at hok
  simp only[step]at h
  split at hok
  ·rename_i t y k ho
   simp only[Bool.and_eq_true]at hok
   replace h:=ofO_inv h
   obtain⟨h,rfl⟩:=h
   obtain⟨hok,h3⟩:=hok
   split at h3
   ·rename_i e he
    exact sim_iad fs ho (sliceElem_eq he) h3 (ev hok.1 (by simp[VOp.args])) (ev hok.2 (by simp[VOp.args])) h
   ·cases h3
  ·cases hok
 | iar x ix n w =>
  simp only[okOp]at hok
  simp only[step]at h
  split at hok
  ·rename_i t y k ho
   simp only[Bool.and_eq_true]at hok
   replace h:=ofO_inv h
   obtain⟨h,rfl⟩:=h
   obtain⟨hok,h3⟩:=hok
   split at h3
   ·rename_i m e he
    simp only[Bool.and_eq_true,beq_iff_eq]at h3
    obtain⟨rfl,h3⟩:=h3
    exact sim_iar fs ho (arrayElem_eq he) h3 (ev hok.1 (by simp[VOp.args])) (ev hok.2 (by simp[VOp.args])) h
   ·cases h3
  ·cases hok
 | ld x n agg =>
  simp only[okOp]at hok
  simp only[step]at h
  split at hok
  ·rename_i t y ho
   simp only[Bool.and_eq_true]at hok
   split at h
   ·rename_i r hl
    replace h:=ofO_inv h
    obtain⟨h,rfl⟩:=h
    exact sim_ld fs ho hok.1.2 hok.2 (ev hok.1.1 (by simp[VOp.args])) hl h
   ·cases h
  ·cases hok
 | ldh x n agg =>
  simp only[okOp]at hok
  simp only[step]at h
  split at hok
  ·rename_i t y ho
   simp only[Bool.and_eq_true]at hok
   split at h
   ·rename_i r hl
    replace h:=ofO_inv h
    obtain⟨h,rfl⟩:=h
    exact sim_ld fs ho hok.1.2 hok.2 (ev hok.1.1 (by simp[VOp.args])) (ldhD_inv hl).1 h
   ·cases h
  ·cases hok
 | ldq x n agg =>
  simp only[okOp]at hok
  simp only[step]at h
  split at hok
  ·rename_i t y ho
   simp only[Bool.and_eq_true]at hok
   split at h
   ·rename_i r hl
    replace h:=ofO_inv h
    obtain⟨h,rfl⟩:=h
    exact sim_ld fs ho hok.1.2 hok.2 (ev hok.1.1 (by simp[VOp.args])) hl h
   ·cases h
  ·cases hok
 | st x v n =>
  simp only[okOp]at hok
  simp only[step]at h
  split at hok
  ·rename_i t y z ho
   simp only[Bool.and_eq_true]at hok
   split at h
   ·rename_i vs hvs
    replace h:=ofH_inv h
    obtain⟨h,rfl,hst⟩:=h
    rw[hst]
    exact sim_st fs ho hok.2 (ev hok.1.1 (by simp[VOp.args])) (ev hok.1.2 (by simp[VOp.args])) hvs h
   ·cases h
  ·cases hok
 | bin op x y =>
  simp only[okOp]at hok
  simp only[step]at h
  split at hok
  ·rename_i op' t x' y' t' ho
   simp only[Bool.and_eq_true,decide_eq_true_eq]at hok
   replace h:=ofO_inv h
   obtain⟨h,rfl⟩:=h
   obtain⟨⟨rfl,h1⟩,h2⟩:=hok
   exact sim_bin fs ho (ev h1 (by simp[VOp.args])) (ev h2 (by simp[VOp.args])) h
  ·cases hok
 | eqv neg k x y =>
  simp only[okOp]at hok
  simp only[step]at h
  split at hok
  ·rename_i op' t x' y' t' ho
   simp only[Bool.and_eq_true,decide_eq_true_eq]at hok
   replace h:=ofO_inv h
   obtain⟨h,rfl⟩:=h
   obtain⟨⟨⟨⟨h0,h1⟩,h2⟩,h3⟩,h4⟩:=hok
   refine sim_eqv fs ho h0 h3 (fun e => ?_) (ev h1 (by simp[VOp.args])) (ev h2 (by simp[VOp.args])) h
   subst e
   simp only[Bool.or_eq_true]at h4
   exact h4.imp (fun g=>isNilC_lit g h1) (fun g=>isNilC_lit g h2)
  ·cases hok
 | un op x =>
  simp only[okOp]at hok
  simp only[step]at h
  split at hok
  ·rename_i op' t y ho
   simp only[Bool.and_eq_true,decide_eq_true_eq]at hok
   replace h:=ofO_inv h
   obtain⟨h,rfl⟩:=h
   obtain⟨rfl,h1⟩:=hok
   exact sim_un fs ho (ev h1 (by simp[VOp.args])) h
  ·cases hok
 | cvi k x =>
  simp only[okOp]at hok
  simp only[step]at h
  split at hok
  ·rename_i s t y ho
   simp only[Bool.and_eq_true]at hok
   replace h:=ofO_inv h
   obtain⟨h,rfl⟩:=h
   obtain⟨⟨h1,h2⟩,h3⟩:=hok
   split at h3
   ·rename_i k' hu
    simp only[decide_eq_true_eq]at h3
    subst h3
    exact sim_cvi fs ho hu (Option.isSome_iff_exists.1 h2) (ev h1 (by simp[VOp.args])) h
   ·cases h3
  ·cases hok
 | cvs x =>
  simp only[okOp]at hok
  simp only[step]at h
  split at hok
  ·rename_i s t y ho
   simp only[Bool.and_eq_true]at hok
   replace h:=ofO_inv h
   obtain⟨h,rfl⟩:=h
   obtain⟨h1,h3⟩:=hok
   split at h3
   ·rename_i hu1 hu2
    exact sim_cvs fs ho hu2 hu1 (ev h1 (by simp[VOp.args])) h
   ·cases h3
  ·cases hok
 | cbs x =>
  simp only[okOp]at hok
  simp only[step]at h
  split at hok
  ·rename_i s t y ho
   simp only[Bool.and_eq_true]at hok
   replace h:=ofO_inv h
   obtain⟨h,rfl⟩:=h
   obtain⟨h1,h3⟩:=hok
   split at h3
   ·rename_i e he hu
    split at h3
    ·rename_i hu8
     exact sim_cbs fs ho hu (sliceElem_eq he) hu8 (ev h1 (by simp[VOp.args])) h
    ·cases h3
   ·cases h3
  ·cases hok
 | csb x =>
  simp only[okOp]at hok
  simp only[step]at h
  split at hok
  ·rename_i s t y ho
   simp only[Bool.and_eq_true]at hok
   replace h:=ofO_inv h
   obtain⟨h,rfl⟩:=h
   obtain⟨h1,h3⟩:=hok
   split at h3
   ·rename_i e hu he
    split at h3
    ·rename_i hu8
     exact sim_csb fs ho hu (sliceElem_eq he) hu8 (ev h1 (by simp[VOp.args])) h
    ·cases h3
   ·cases h3
  ·cases hok
 | agc zs ps =>
  simp only[okOp]at hok
  simp only[step]at h
  split at hok
  ·rename_i t qs ho
   simp only[Bool.and_eq_true]at hok
   replace h:=ofO_inv h
   obtain⟨h,rfl⟩:=h
   obtain⟨h1,h3⟩:=hok
   cases hf:fillC zs (ps.map fun(off,n,x)=>(off,n,x.ev loc sl))with
   | none=>rw[hf]at h;cases h
   | some cs =>
    rw[hf]at h
    cases h
    have fin : ∀ place,agcOk c i place ps qs.toList=true -> _ -> Sim c E L o a K μ H W (.ag cs) ⟨sl,H⟩:=fun place h4 ht=>by
     obtain⟨g1,g2⟩:=agc_parts fs lr h4 (fun j hj=>hd j (List.mem_append_left _ hj))
     exact sim_agc fs (place:=place) ho h1 ht (by simpa using g1) (fun j x y e e'=>g2 j x y e (by simpa using e')) hf
    split at h3
    ·rename_i fds hu
     simp only[Bool.and_eq_true,List.all_eq_true]at h3
     exact fin _ h3.2 (.inl ⟨fds,hu,h3.1,rfl⟩)
    ·rename_i n e hu
     split at h3
     ·rename_i inf hi
      exact fin _ h3 (.inr ⟨n,e,inf,hu,hi,rfl⟩)
     ·cases h3
    ·cases h3
  ·cases hok
 | bsl w n zs ps p =>
  simp only[okOp]at hok
  simp only[step]at h
  split at hok
  ·rename_i t m qs ho
   simp only[Bool.and_eq_true,beq_iff_eq,decide_eq_true_eq]at hok
   replace h:=ofP_inv h
   obtain⟨h,hst⟩:=h;rw[hst]
   obtain⟨⟨⟨rfl,h0⟩,h1⟩,h3⟩:=hok
   split at h3
   ·rename_i e he
    simp only[Bool.and_eq_true,decide_eq_true_eq]at h3
    obtain⟨⟨⟨g1,g2⟩,g3⟩,g4⟩:=h3
    obtain⟨k1,k2⟩:=bsl_parts fs lr g4 (fun j hj=>hd j (List.mem_append_left _ hj))
    exact sim_bsl fs ho (sliceElem_eq he) g1 g2 g3 h1 (by simpa using k1) (fun j x y e e'=>k2 j x y e (by simpa using e')) (fun e=>by subst e;simpa using h0) h
   ·cases h3
  ·cases hok
 | bsv w n zs ps =>
  simp only[okOp]at hok
  simp only[step]at h
  split at hok
  ·rename_i t m qs ho
   simp only[Bool.and_eq_true,beq_iff_eq,decide_eq_true_eq]at hok
   replace h:=ofO_inv h
   obtain⟨h,rfl⟩:=h
   obtain⟨⟨⟨rfl,h0⟩,h1⟩,h3⟩:=hok
   split at h3
   ·rename_i e he
    simp only[Bool.and_eq_true,decide_eq_true_eq]at h3
    obtain⟨⟨⟨g1,g2⟩,g3⟩,g4⟩:=h3
    obtain⟨k1,k2⟩:=bsl_parts fs lr g4 (fun j hj=>hd j (List.mem_append_left _ hj))
    exact sim_bsv fs ho (sliceElem_eq he) g1 g2 g3 h1 (by simpa using k1) (fun j x y e e'=>k2 j x y e (by simpa using e')) (fun e=>by subst e;simpa using h0) h
   ·cases h3
  ·cases hok
 | len k x =>
  simp only[okOp]at hok
  simp only[step]at h
  split at hok
  ·rename_i args ats ho
   replace h:=ofO_inv h
   obtain⟨h,rfl⟩:=h
   split at hok
   ·rename_i y t hargs hat
    simp only[Bool.and_eq_true]at hok
    exact sim_len fs ho hargs hat hok.2 (ev hok.1 (by simp[VOp.args])) h
   ·cases hok
  ·cases hok
 | cap x =>
  simp only[okOp]at hok
  simp only[step]at h
  split at hok
  ·rename_i args ats ho
   replace h:=ofO_inv h
   obtain⟨h,rfl⟩:=h
   split at hok
   ·rename_i y t hargs hat
    simp only[Bool.and_eq_true]at hok
    obtain⟨e,he⟩:=Option.isSome_iff_exists.1 hok.2
    exact sim_cap fs ho hargs hat ⟨e,sliceElem_eq he⟩ (ev hok.1 (by simp[VOp.args])) h
   ·cases hok
  ·cases hok
 | app x y w bytes p =>
  simp only[okOp]at hok
  simp only[step]at h
  split at hok
  ·rename_i args ats ho
   replace h:=ofP_inv h
   obtain⟨h,hst⟩:=h;rw[hst]
   split at hok
   ·rename_i x' y' t u hargs hat
    simp only[Bool.and_eq_true]at hok
    obtain⟨hok,h3⟩:=hok
    split at h3
    ·rename_i e he
     simp only[Bool.and_eq_true,decide_eq_true_eq]at h3
     obtain⟨⟨⟨⟨g1,g2⟩,g3⟩,g4⟩,g5⟩:=h3
     split at g4
     ·rename_i inf hi
      split at g4
      ·rename_i z hz
       have ht:AppT c.P t e w bytes z:=⟨sliceElem_eq he,⟨inf,hi,by simpa [sizeIs,hi]using g1,by simpa [bytesIs,hi]using g2,hz⟩,by simpa using g4,g3⟩
       have ex:=ev hok (by simp[VOp.args])
       split at g5
       ·rename_i e' hu
        simp only[Bool.and_eq_true]at g5
        exact sim_app fs ho hargs hat ht ex (app_plain fs (.inl ⟨e',hu⟩) (ev g5.1 (by simp[VOp.args]))) h
       ·rename_i hu
        simp only[Bool.and_eq_true]at g5
        exact sim_app fs ho hargs hat ht ex (app_plain fs (.inr hu) (ev g5.1 (by simp[VOp.args]))) h
       ·rename_i k hu
        exact sim_app fs ho hargs hat ht ex (app_zeros g5 rfl ⟨k,hu⟩ ⟨inf,hi,by simpa [sizeIs,hi]using g1,hz⟩ (by simpa using g4)) h
       ·cases g5
      ·cases g4
     ·cases g4
    ·cases h3
   ·cases hok
  ·cases hok
 | cpy x y w =>
  simp only[okOp]at hok
  simp only[step]at h
  split at hok
  ·rename_i args ats ho
   replace h:=ofP_inv h
   obtain⟨h,hst⟩:=h;rw[hst]
   split at hok
   ·rename_i x' y' t u hargs hat
    simp only[Bool.and_eq_true]at hok
    obtain⟨hok,h3⟩:=hok
    split at h3
    ·rename_i e he
     simp only[Bool.and_eq_true,decide_eq_true_eq]at h3
     exact sim_cpy fs ho hargs hat (sliceElem_eq he) h3.1 (ev hok.1 (by simp[VOp.args])) (ev hok.2 (by simp[VOp.args])) h
    ·cases h3
   ·cases hok
  ·cases hok
 | mks l cp w bytes zs p =>
  simp only[okOp]at hok
  simp only[step]at h
  split at hok
  ·rename_i t l' cp' ho
   simp only[Bool.and_eq_true]at hok
   replace h:=ofP_inv h
   obtain⟨h,hst⟩:=h;rw[hst]
   obtain⟨hok,h3⟩:=hok
   split at h3
   ·rename_i e he
    simp only[Bool.and_eq_true,decide_eq_true_eq]at h3
    obtain⟨⟨⟨g1,g2⟩,g3⟩,g4⟩:=h3
    exact sim_mks fs ho (sliceElem_eq he) g2 g3 g1 g4 (ev hok.1 (by simp[VOp.args])) (ev hok.2 (by simp[VOp.args])) h
   ·cases h3
  ·cases hok
 | sli str w x lo hi mx =>
  simp only[okOp]at hok
  simp only[step]at h
  split at hok
  ·rename_i t y lo' hi' mx' ho
   simp only[Bool.and_eq_true]at hok
   replace h:=ofO_inv h
   obtain⟨h,rfl⟩:=h
   obtain⟨⟨⟨⟨h1,h2⟩,h3⟩,h4⟩,h5⟩:=hok
   have e1:=ev h1 (by simp[VOp.args])
   have e2:=evo h2 (by simp +contextual [VOp.args])
   have e3:=evo h3 (by simp +contextual [VOp.args])
   have e4:=evo h4 (by simp +contextual [VOp.args])
   cases str with
   | true =>
    split at h5
    ·rename_i hu _
     exact sim_sliS fs ho hu e1 e2 e3 e4 h
    ·rename_i e hu he;cases he
    ·cases h5
   | false =>
    split at h5
    ·rename_i hu he;cases he
    ·rename_i e hu _
     exact sim_sliD fs ho hu h5 e1 e2 e3 e4 h
    ·cases h5
  ·cases hok
 | sla x n w lo hi =>
  simp only[okOp]at hok
  simp only[step]at h
  split at hok
  ·rename_i t y lo' hi' ho
   simp only[Bool.and_eq_true]at hok
   replace h:=ofO_inv h
   obtain⟨h,rfl⟩:=h
   obtain⟨⟨⟨h1,h2⟩,h3⟩,h5⟩:=hok
   have e1:=ev h1 (by simp[VOp.args])
   have e2:=evo h2 (by simp +contextual [VOp.args])
   have e3:=evo h3 (by simp +contextual [VOp.args])
   split at h5
   ·rename_i m e he
    simp only[Bool.and_eq_true,beq_iff_eq]at h5
    obtain⟨rfl,h5⟩:=h5
    exact sim_sla fs ho (arrayElem_eq he) h5 e1 e2 e3 h
   ·cases h5
  ·cases hok
 | ixs x ix =>
  simp only[okOp]at hok
  simp only[step]at h
  split at hok
  ·rename_i t y k ho
   simp only[Bool.and_eq_true]at hok
   replace h:=ofO_inv h
   obtain⟨h,rfl⟩:=h
   obtain⟨hok,h3⟩:=hok
   split at h3
   ·rename_i hu
    exact sim_ixs fs ho hu (ev hok.1 (by simp[VOp.args])) (ev hok.2 (by simp[VOp.args])) h
   ·cases h3
  ·cases hok
 | fld x off n agg =>
  simp only[okOp]at hok
  simp only[step]at h
  split at hok
  ·rename_i t y f ho
   simp only[Bool.and_eq_true]at hok
   replace h:=ofO_inv h
   obtain⟨h,rfl⟩:=h
   obtain⟨hok,h3⟩:=hok
   split at h3
   ·rename_i fds hu
    split at h3
    ·rename_i fd hf
     simp only[Bool.and_eq_true,beq_iff_eq]at h3
     exact sim_fld fs ho hu hf h3.1.1 h3.1.2 h3.2 (ev hok (by simp[VOp.args])) h
    ·cases h3
   ·cases h3
  ·cases hok
 | ext x j =>
  simp only[okOp]at hok
  simp only[step]at h
  split at hok
  ·rename_i y k ho
   simp only[Bool.and_eq_true,beq_iff_eq]at hok
   replace h:=ofO_inv h
   obtain⟨h,rfl⟩:=h
   obtain⟨h1,rfl⟩:=hok
   exact sim_ext fs ho (ev h1 (by simp[VOp.args])) h
  ·cases hok
 | mkf f xs ys =>
  simp only[okOp]at hok
  simp only[step]at h
  split at hok
  ·rename_i g xs' ys' ho
   simp only[Bool.and_eq_true,decide_eq_true_eq]at hok
   obtain⟨⟨rfl,h1⟩,h2⟩:=hok
   cases h
   exact sim_mkf fs ho (evs h1 (by simp +contextual [VOp.args])) (evs h2 (by simp +contextual [VOp.args]))
  ·cases hok
 | mkm =>
  simp only[okOp]at hok
  simp only[step]at h
  split at hok
  ·rename_i t ho
   cases h
   exact sim_mkm fs ho
  ·cases hok
 | lk kk m k ok zero =>
  simp only[okOp]at hok
  simp only[step]at h
  split at hok
  ·rename_i t m' k' ok' ho
   simp only[Bool.and_eq_true,beq_iff_eq]at hok
   replace h:=ofO_inv h
   obtain⟨h,rfl⟩:=h
   obtain⟨⟨⟨h1,h2⟩,rfl⟩,h3⟩:=hok
   split at h3
   ·rename_i kt et hu
    simp only[Bool.and_eq_true]at h3
    exact sim_lk fs ho hu h3.1 h3.2 (ev h1 (by simp[VOp.args])) (ev h2 (by simp[VOp.args])) h
   ·cases h3
  ·cases hok
 | mup kk m k v =>
  simp only[okOp]at hok
  simp only[step]at h
  split at hok
  ·rename_i t m' k' v' ho
   simp only[Bool.and_eq_true]at hok
   replace h:=ofH_inv h
   obtain⟨h,rfl,hst⟩:=h;rw[hst]
   obtain⟨⟨⟨h1,h2⟩,h4⟩,h3⟩:=hok
   split at h3
   ·rename_i kt et hu
    exact sim_mup fs (.inl ho) hu h3 (ev h1 (by simp[VOp.args])) (ev h2 (by simp[VOp.args])) (ev h4 (by simp[VOp.args])) h
   ·cases h3
  ·rename_i t m' k' v' ho
   simp only[Bool.and_eq_true]at hok
   replace h:=ofH_inv h
   obtain⟨h,rfl,hst⟩:=h;rw[hst]
   obtain⟨⟨⟨h1,h2⟩,h4⟩,h3⟩:=hok
   split at h3
   ·rename_i kt et hu
    exact sim_mup fs (.inr ho) hu h3 (ev h1 (by simp[VOp.args])) (ev h2 (by simp[VOp.args])) (ev h4 (by simp[VOp.args])) h
   ·cases h3
  ·cases hok
 | ixa x ix n w agg =>
  simp only[okOp]at hok
  simp only[step]at h
  split at hok
  ·rename_i t y k ho
   simp only[Bool.and_eq_true]at hok
   obtain⟨⟨h1,h2⟩,h3⟩:=hok
   replace h:=ofO_inv h
   obtain⟨h,rfl⟩:=h
   split at h3
   ·rename_i m e he
    simp only[Bool.and_eq_true,beq_iff_eq]at h3
    obtain⟨⟨rfl,h4⟩,h5⟩:=h3
    exact sim_ixa fs ho (arrayElem_eq he) h4 h5 (ev h1 (by simp[VOp.args])) (ev h2 (by simp[VOp.args])) h
   ·cases h3
  ·cases hok
 | mki t x =>
  simp only[okOp]at hok
  simp only[step]at h
  split at hok
  ·rename_i t' y ho
   simp only[Bool.and_eq_true,beq_iff_eq]at hok
   obtain⟨⟨rfl,h1⟩,h3⟩:=hok
   cases h
   refine sim_mki fs ho ?_ (ev h1 (by simp[VOp.args]))
   split at h3
   ·cases h3
   ·rename_i td hni hu;exact⟨td,hu,fun ms e=>hni ms e⟩
   ·cases h3
  ·cases hok
 | tas x t ok zero =>
  simp only[okOp]at hok
  simp only[step]at h
  split at hok
  ·rename_i y xt t' ok' ho
   simp only[Bool.and_eq_true,beq_iff_eq]at hok
   replace h:=ofO_inv h
   obtain⟨h,rfl⟩:=h
   obtain⟨⟨⟨h1,rfl⟩,rfl⟩,h3⟩:=hok
   split at h3
   ·cases h3
   ·rename_i td hni hu;exact sim_tas fs ho ⟨td,hu,fun ms e=>hni ms e⟩ h3 (ev h1 (by simp[VOp.args])) h
   ·cases h3
  ·cases hok
 | nck x =>
  simp only[okOp]at hok
  simp only[step]at h
  split at hok
  ·rename_i y ho
   replace h:=ofO_inv h
   obtain⟨h,rfl⟩:=h
   exact sim_nck fs ho (ev hok (by simp[VOp.args])) h
  ·cases hok
 | mx xs =>
  simp only[okOp]at hok
  simp only[step]at h
  split at hok
  ·rename_i args ats ho
   replace h:=ofO_inv h
   obtain⟨h,rfl⟩:=h
   exact sim_mx fs ho (evs hok (by simp[VOp.args])) h
  ·cases hok
 | mn xs =>
  simp only[okOp]at hok
  simp only[step]at h
  split at hok
  ·rename_i args ats ho
   replace h:=ofO_inv h
   obtain⟨h,rfl⟩:=h
   exact sim_mn fs ho (evs hok (by simp[VOp.args])) h
  ·cases hok
end
section
variable {c:CX} {E:En} {nd:List Deferred} {L:Nat -> Option Nat} {K:Kn} {μ:Mu} {sl:List D} {H:Heap} {a:Act} {W:World} {o:Oper} {loc:List D} {done:Nat -> Prop}
structure Reg (c:CX):Prop where
 sz:c.ops.size=c.vos.length
 rtl:c.rt.length=c.vos.length
 op : ∀ (i:Nat) (o:Oper) (vo:VOper),c.ops[i]?=some o -> c.vos[i]?=some vo -> okOper c i o vo=true /\ c.rt[i]?=some (rootStep c.rt vo)
 fresh : ∀ (i j:Nat) (o o':Oper) (t:Nat),c.ops[i]?=some o -> c.ops[j]?=some o' -> o.dst=some t -> o'.dst=some t -> c.tm.contains t=false -> i=j
 nodup : ∀ (k k' t:Nat),c.tm[k]?=some t -> c.tm[k']?=some t -> k=k'
 tmlt : ∀ (k t:Nat),c.tm[k]?=some t -> t<c.nt
structure RI (c:CX) (E:En) (nd:List Deferred) (done:Nat -> Prop) (L:Nat -> Option Nat) (K:Kn) (μ:Mu) (loc sl:List D) (H:Heap) (a:Act) (W:World):Prop where
 fs:FS E c.tm c.bs K μ L sl H a.tmps W
 lr:LRs c done L K μ H loc a.tmps
 sz:a.tmps.size=c.nt
 df:a.defers=nd
 ln:loc.length=c.vos.length
theorem put_same {tmps:Array Value} {t:Nat} {v:Value} (h:t<tmps.size):(tmps.setIfInBounds t v)[t]?=some v:=by
 simp[h]
theorem put_other {tmps:Array Value} {t t':Nat} {v u:Value} (hu:tmps[t']?=some u) (h:t=t' -> False):(tmps.setIfInBounds t v)[t']?=some u:=by
 rw[Array.getElem?_setIfInBounds_ne h];exact hu
theorem FS.tmp {tm bs:List Nat} {tmps:Array Value} (h:FS E tm bs K μ L sl H tmps W) {t:Nat} (v:Value) (ht : ∀ k:Nat,tm[k]?≠some t):FS E tm bs K μ L sl H (tmps.setIfInBounds t v) W where
 hr:=h.hr
 nx:=h.nx
 len:=h.len
 val:=fun k t' x y=>by
  obtain⟨d,u,e1,e2,e3⟩:=h.val k t' x y
  exact⟨d,u,e1,put_other e2 (fun e=>ht k (e▸x)),e3⟩
 box:=fun k t' x y=>by
  rcases h.box k t' x y with e|⟨r,cs,vs,ty,h1,h2,h3,h4,h5⟩
  ·exact .inl e
  ·exact .inr ⟨r,cs,vs,ty,h1,h2,put_other h3 (fun e=>ht k (e▸x)),h4,h5⟩
 own:=h.own
 inj:=h.inj
theorem not_tm {tm:List Nat} {t:Nat} (h:tm.contains t=false) (k:Nat):tm[k]?≠some t:=fun e=>by
 have:=List.mem_of_getElem? e
 simp_all
theorem RI.local (rg:Reg c) (ri:RI c E nd done L K μ loc sl H a W) {i t:Nat} {vo:VOper} {d:D} {v:Value} (ho:c.ops[i]?=some o) (hvo:c.vos[i]?=some vo) (hdst:o.dst=some t) (ht:c.tm.contains t=false) (hlt:t<c.nt)
  (hres:match vo.op.isAddr with
   | true=>(d = .u /\ v=undef) \/ ∃ k off r,d = .lp k off /\ c.rt[i]?=some (some k) /\ L k=some r /\ v = .pointer (some ⟨r,off,none⟩)
   | false=>VR K μ H d v):RI c E nd (fun j=>j=i \/ done j) L K μ (loc.set i d) sl H (a.put o.dst v) W where
 fs:=by rw[hdst];exact ri.fs.tmp v (not_tm ht)
 lr := fun j o' vo' t' hj ho' hvo' hd' hk'=>by
  have hi:i<loc.length:=by rw[ri.ln];exact lt_of_get hvo
  rw[hdst]
  by_cases hij:j=i
  ·subst hij
   rw[ho]at ho';rw[hvo]at hvo';cases ho';cases hvo'
   rw[hdst]at hd';cases hd'
   exact⟨d,v,List.getElem?_set_self hi,put_same (by rw[ri.sz];exact hlt),hres⟩
  ·obtain⟨x,u,e1,e2,e3⟩:=ri.lr j o' vo' t' (hj.resolve_left hij) ho' hvo' hd' hk'
   refine⟨x,u,by rw[List.getElem?_set_ne (Ne.symm hij)];exact e1, ?_,e3⟩
   exact put_other e2 (fun e=>hij (rg.fresh j i o' o t ho' ho (e▸hd') hdst ht))
 sz:=by rw[hdst];simpa [Act.put]using ri.sz
 df:=by rw[hdst];exact ri.df
 ln:=by simpa using ri.ln
theorem RI.nothing (ri:RI c E nd done L K μ loc sl H a W) {i:Nat} {d:D} {v:Value} (ho:c.ops[i]?=some o) (hdst:o.dst=none):RI c E nd (fun j=>j=i \/ done j) L K μ (loc.set i d) sl H (a.put o.dst v) W where
 fs:=by rw[hdst];exact ri.fs
 lr := fun j o' vo' t' hj ho' hvo' hd' hk'=>by
  rw[hdst]
  by_cases hij:j=i
  ·subst hij
   rw[ho]at ho';cases ho'
   rw[hdst]at hd';cases hd'
  ·obtain⟨x,u,e1,e2,e3⟩:=ri.lr j o' vo' t' (hj.resolve_left hij) ho' hvo' hd' hk'
   exact⟨x,u,by rw[List.getElem?_set_ne (Ne.symm hij)];exact e1,e2,e3⟩
 sz:=by rw[hdst];exact ri.sz
 df:=by rw[hdst];exact ri.df
 ln:=by simpa using ri.ln
theorem LRs.slot (rg:Reg c) (lr:LRs c done L K μ H loc a.tmps) {i k t:Nat} {vo:VOper} {d:D} {v:Value} (hvo:c.vos[i]?=some vo) (hkeep:vo.keep=some k) (htm:c.tm[k]?=some t) :
  LRs c (fun j=>j=i \/ done j) L K μ H (loc.set i d) (a.tmps.setIfInBounds t v):=fun j o' vo' t' hj ho' hvo' hd' hk'=>by
 by_cases hij:j=i
 ·subst hij
  rw[hvo]at hvo';cases hvo'
  rw[hkeep]at hk';cases hk'
 ·obtain⟨x,u,e1,e2,e3⟩:=lr j o' vo' t' (hj.resolve_left hij) ho' hvo' hd' hk'
  refine⟨x,u,by rw[List.getElem?_set_ne (Ne.symm hij)];exact e1, ?_,e3⟩
  refine put_other e2 (fun e => ?_)
  subst e
  have:=(rg.op j o' vo' ho' hvo').1
  simp only[okOper,hd',hk',Bool.and_eq_true,Bool.not_eq_true',decide_eq_true_eq]at this
  exact not_tm this.1.2.1.1 k htm
theorem RI.slot (rg:Reg c) (ri:RI c E nd done L K μ loc sl H a W) {i k t:Nat} {vo:VOper} {d:D} {v:Value} (hvo:c.vos[i]?=some vo) (hdst:o.dst=some t) (hkeep:vo.keep=some k) (htm:c.tm[k]?=some t) (hb:c.bs.contains k=false)
  (hres:VR K μ H d v):RI c E nd (fun j=>j=i \/ done j) L K μ (loc.set i d) (sl.set k d) H (a.put o.dst v) W where
 fs := by
  rw[hdst]
  have hk:k<sl.length:=by rw[ri.fs.len];exact lt_of_get htm
  refine⟨ri.fs.hr,ri.fs.nx,by simpa using ri.fs.len,fun k' t' x y => ?_,fun k' t' x y => ?_,ri.fs.own,ri.fs.inj⟩
  ·by_cases hkk:k=k'
   ·subst hkk
    rw[htm]at x;cases x
    exact⟨d,v,List.getElem?_set_self hk,put_same (by rw[ri.sz];exact rg.tmlt k t htm),hres⟩
   ·obtain⟨d',u,e1,e2,e3⟩:=ri.fs.val k' t' x y
    refine⟨d',u,by rw[List.getElem?_set_ne hkk];exact e1, ?_,e3⟩
    exact put_other e2 (fun e=>hkk (rg.nodup k k' t htm (e▸x)))
  ·have hkk:k≠k':=fun e=>by subst e;rw[hb]at y;cases y
   rcases ri.fs.box k' t' x y with e|⟨r,cs,vs,ty,h1,h2,h3,h4,h5⟩
   ·exact .inl (by rw[List.getElem?_set_ne hkk];exact e)
   ·refine .inr ⟨r,cs,vs,ty,h1,by rw[List.getElem?_set_ne hkk];exact h2, ?_,h4,h5⟩
    exact put_other h3 (fun e=>hkk (rg.nodup k k' t htm (e▸x)))
 lr:=by rw[hdst];exact ri.lr.slot rg hvo hkeep htm
 sz:=by rw[hdst];simpa [Act.put]using ri.sz
 df:=by rw[hdst];exact ri.df
 ln:=by simpa using ri.ln
theorem RI.unboxed (rg:Reg c) (ri:RI c E nd done L K μ loc sl H a W) {i k t:Nat} {vo:VOper} {v:Value} (hvo:c.vos[i]?=some vo) (hdst:o.dst=some t) (hkeep:vo.keep=some k) (htm:c.tm[k]?=some t) (hb:c.bs.contains k=true) :
  RI c E nd (fun j=>j=i \/ done j) L K μ (loc.set i .u) (sl.set k .u) H (a.put o.dst v) W where
 fs := by
  rw[hdst]
  have hk:k<sl.length:=by rw[ri.fs.len];exact lt_of_get htm
  refine⟨ri.fs.hr,ri.fs.nx,by simpa using ri.fs.len,fun k' t' x y => ?_,fun k' t' x y => ?_,ri.fs.own,ri.fs.inj⟩
  ·have hkk:k≠k':=fun e=>by subst e;rw[hb]at y;cases y
   obtain⟨d',u,e1,e2,e3⟩:=ri.fs.val k' t' x y
   refine⟨d',u,by rw[List.getElem?_set_ne hkk];exact e1, ?_,e3⟩
   exact put_other e2 (fun e=>hkk (rg.nodup k k' t htm (e▸x)))
  ·by_cases hkk:k=k'
   ·subst hkk;exact .inl (List.getElem?_set_self hk)
   ·rcases ri.fs.box k' t' x y with e|⟨r,cs,vs,ty,h1,h2,h3,h4,h5⟩
    ·exact .inl (by rw[List.getElem?_set_ne hkk];exact e)
    ·refine .inr ⟨r,cs,vs,ty,h1,by rw[List.getElem?_set_ne hkk];exact h2, ?_,h4,h5⟩
     exact put_other h3 (fun e=>hkk (rg.nodup k k' t htm (e▸x)))
 lr:=by rw[hdst];exact ri.lr.slot rg hvo hkeep htm
 sz:=by rw[hdst];simpa [Act.put]using ri.sz
 df:=by rw[hdst];exact ri.df
 ln:=by simpa using ri.ln
theorem RI.boxed (rg:Reg c) (ri:RI c E nd done L K μ loc sl H a W) {W0:World} {i k t r:Nat} {vo:VOper} {cs:List D} {vs:Array Value} {ty:Nat} (hvo:c.vos[i]?=some vo) (hdst:o.dst=some t) (hkeep:vo.keep=some k) (htm:c.tm[k]?=some t) (hb:c.bs.contains k=true)
  (hnew : ∀ (k' r':Nat),L k'=some r' -> r'<W0.heap.size) (h0:W0.heap.size <= r) (hE:E.w.heap.size <= W0.heap.size) (hlt:r<W.heap.size) (hW:W.heap[r]?=some (.cells vs ty (0,0))) (hc:CRs K μ H cs vs.toList) (hno : ¬ Own μ H r) (hnk : ∀ o u,K r o≠some u)
  (hfirst : ∀ j,done j -> c.rt[j]?≠some (some k)) :
  RI c E nd (fun j=>j=i \/ done j) (fun j=>if j=k then some r else L j) K μ (loc.set i (.bx cs)) (sl.set k (.bx cs)) H (a.put o.dst (.pointer (some ⟨r,0,none⟩))) W where
 fs := by
  rw[hdst]
  have hk:k<sl.length:=by rw[ri.fs.len];exact lt_of_get htm
  refine⟨ri.fs.hr,ri.fs.nx,by simpa using ri.fs.len,fun k' t' x y => ?_,fun k' t' x y => ?_,fun k' r' e => ?_,fun k1 k2 r' e1 e2 => ?_⟩
  ·have hkk:k≠k':=fun e=>by subst e;rw[hb]at y;cases y
   obtain⟨d',u,e1,e2,e3⟩:=ri.fs.val k' t' x y
   refine⟨d',u,by rw[List.getElem?_set_ne hkk];exact e1, ?_,e3⟩
   exact put_other e2 (fun e=>hkk (rg.nodup k k' t htm (e▸x)))
  ·by_cases hkk:k=k'
   ·subst hkk
    rw[htm]at x;cases x
    exact .inr ⟨r,cs,vs,ty,if_pos rfl,List.getElem?_set_self hk,put_same (by rw[ri.sz];exact rg.tmlt k t htm),hW,hc⟩
   ·rcases ri.fs.box k' t' x y with e|⟨r',cs',vs',ty',h1,h2,h3,h4,h5⟩
    ·exact .inl (by rw[List.getElem?_set_ne hkk];exact e)
    ·refine .inr ⟨r',cs',vs',ty',by rw[if_neg (Ne.symm hkk)];exact h1,by rw[List.getElem?_set_ne hkk];exact h2, ?_,h4,h5⟩
     exact put_other h3 (fun e=>hkk (rg.nodup k k' t htm (e▸x)))
  ·split at e
   ·cases e;exact⟨hno,hnk,by omega,hlt⟩
   ·exact ri.fs.own k' r' e
  ·split at e1<;>split at e2
   ·omega
   ·cases e1;have:=hnew k2 _ e2;omega
   ·cases e2;have:=hnew k1 _ e1;omega
   ·exact ri.fs.inj k1 k2 r' e1 e2
 lr := by
  rw[hdst]
  intro j o' vo' t' hj ho' hvo' hd' hk'
  obtain⟨x,u,e1,e2,e3⟩:=ri.lr.slot rg (d := .bx cs) (v := .pointer (some ⟨r,0,none⟩)) hvo hkeep htm j o' vo' t' hj ho' hvo' hd' hk'
  refine⟨x,u,e1,e2, ?_⟩
  revert e3
  cases vo'.op.isAddr with
  | false=>exact id
  | true =>
   rintro(e3|⟨k1,off,r1,g1,g2,g3,g4⟩)
   ·exact .inl e3
   ·refine .inr ⟨k1,off,r1,g1,g2, ?_,g4⟩
    have hji:j≠i:=fun e=>by subst e;rw[hvo]at hvo';cases hvo';rw[hkeep]at hk';cases hk'
    have hk1:k1≠k:=fun e=>by subst e;exact hfirst j (hj.resolve_left hji) g2
    show(if k1=k then some r else L k1)=some r1
    rw[if_neg hk1];exact g3
 sz:=by rw[hdst];simpa [Act.put]using ri.sz
 df:=by rw[hdst];exact ri.df
 ln:=by simpa using ri.ln
end
section
variable {c:CX} {E:En} {nd:List Deferred} {L:Nat -> Option Nat} {K:Kn} {μ:Mu} {sl:List D} {H:Heap} {a:Act} {W:World} {o:Oper} {loc:List D} {done:Nat -> Prop}
structure OpOk (c:CX) (i:Nat) (o:Oper) (vo:VOper):Prop where
 op:okOp c i o vo=true
 none:o.dst=none -> vo.keep=none /\ vo.op.isAddr=false /\ vo.op.isBox=false
 slot : ∀ t k,o.dst=some t -> vo.keep=some k -> c.tm[k]?=some t /\ c.bs.contains k=vo.op.isBox /\ vo.op.isAddr=false
 loc : ∀ t,o.dst=some t -> vo.keep=Option.none -> c.tm.contains t=false /\ vo.op.isBox=false /\ t<c.nt
 keep : ∀ k,vo.keep=some k -> ∃ t,o.dst=some t
 guard:(vo.guard=Option.none /\ o.guard=Option.none) \/ ∃ x b j t,vo.guard=some (x,b) /\ o.guard=some (j,b) /\ (c.ops[j]?).bind (·.dst)=some t /\ okO c i x (.tmp t)=true
theorem okOper_spec {i:Nat} {vo:VOper} (h:okOper c i o vo=true):OpOk c i o vo:=by
 simp only[okOper,Bool.and_eq_true]at h
 obtain⟨⟨h1,h2⟩,h3⟩:=h
 refine⟨h1,fun e => ?_,fun t k e e' => ?_,fun t e e' => ?_,fun k e => ?_, ?_⟩
 ·rw[e]at h2
  simp only[Bool.and_eq_true,beq_iff_eq,Bool.not_eq_true']at h2
  exact⟨h2.1.1,h2.1.2,h2.2⟩
 ·rw[e,e']at h2
  simp only[Bool.and_eq_true,beq_iff_eq,Bool.not_eq_true']at h2
  exact⟨h2.1.1,h2.1.2,h2.2⟩
 ·rw[e,e']at h2
  simp only[Bool.and_eq_true,Bool.not_eq_true',decide_eq_true_eq]at h2
  exact⟨h2.1.1,h2.1.2,h2.2⟩
 ·cases hd:o.dst with
  | some t=>exact⟨t,rfl⟩
  | none =>
   rw[hd,e]at h2
   simp at h2
 ·split at h3
  ·rename_i e1 e2;exact .inl ⟨e1,e2⟩
  ·rename_i x b j b' e1 e2
   simp only[Bool.and_eq_true,beq_iff_eq]at h3
   obtain⟨rfl,h3⟩:=h3
   split at h3
   ·rename_i t ht
    exact .inr ⟨x,b,j,t,e1,e2,ht,h3⟩
   ·cases h3
  ·cases h3
theorem wants_sound {i:Nat} {vo:VOper} (ok:OpOk c i o vo) (ri:RI c E nd done L K μ loc sl H a W) (hd : ∀ j∈vo.locR,done j) {r:Bool} (hw:vo.wants loc sl=some r) :
  Region.wanted o (yielded c.ops a.tmps)=r:=by
 rcases ok.guard with⟨e1,e2⟩|⟨x,b,j,t,e1,e2,e3,e4⟩
 ·simp only[VOper.wants,e1,Option.some.injEq]at hw
  simp[Region.wanted,e2, <- hw]
 ·have hv:=okO_sound ri.fs ri.lr e4 (fun q hq=>hd q (by simp only[VOper.locR,e1,List.mem_append];exact .inr hq))
  simp only[VOper.wants,e1]at hw
  have hy:yielded c.ops a.tmps j=match a.tmps[t]? with
    | some (.bool b)=>some b
    | _=>none:=by unfold yielded;rw[e3];rfl
  simp only[Region.wanted,e2,hy]
  simp only[Act.eval,Array.getD_eq_getD_getElem?]at hv
  generalize x.ev loc sl=dx at hw hv
  cases ht:a.tmps[t]? with
  | none =>
   rw[ht]at hv
   simp only[Option.getD_none]at hv
   split at hw
   ·cases hv
   ·cases hw;rfl
   ·cases hw
  | some v =>
   rw[ht]at hv
   simp only[Option.getD_some]at hv
   split at hw
   ·cases hv;cases hw;simp
   ·cases hv;cases hw;rfl
   ·cases hw
theorem box_sound (fs:FS E c.tm c.bs K μ L sl H a.tmps W) (lr:LRs c done L K μ H loc a.tmps) {i:Nat} {vo:VOper} (hok:okOp c i o vo=true) (hd : ∀ j∈vo.locR,done j)
  (hb:vo.op.isBox=true) {cl:FuncId -> List D -> Heap -> CR} {d:D} {st':St} (h:step c.V cl loc ⟨sl,H⟩ vo.op = .v d st'):(∃ cs,d = .bx cs) /\ SimL c E L o a K μ H W d st' /\ st'=⟨sl,H⟩:=by
 obtain⟨op,keep,guard⟩:=vo
 simp only at hb h
 cases op<;>simp only[VOp.isBox]at hb<;>first|(cases hb;done)|skip
 ·rename_i zs
  simp only[okOp]at hok
  split at hok
  ·rename_i t ho
   cases h
   obtain⟨vs,_,hc,hrun⟩:=run_alloc (a:=a) hok ho W
   exact⟨⟨_,rfl⟩,sim_local fs hrun (hc _ _ _),rfl⟩
  ·cases hok
 ·rename_i x n
  simp only[okOp]at hok
  simp only[step]at h
  split at hok
  ·rename_i t y ho
   simp only[Bool.and_eq_true]at hok
   replace h:=ofO_inv h
   obtain⟨h,rfl⟩:=h
   cases hx:(x.ev loc sl).cellsN n with
   | none=>rw[hx]at h;cases h
   | some cs =>
    rw[hx]at h
    cases h
    have hv:=okO_sound fs lr hok.1 (fun j hj=>hd j (by simp[VOper.locR,VOp.args,hj]))
    exact⟨⟨_,rfl⟩,sim_local fs (run_box ho W) (cellsN_of hx hv).1,rfl⟩
  ·cases hok
theorem addr_sound (fs:FS E c.tm c.bs K μ L sl H a.tmps W) (lr:LRs c done L K μ H loc a.tmps) {i:Nat} {vo:VOper} (hok:okOp c i o vo=true) (hd : ∀ j∈vo.locR,done j)
  (hb:vo.op.isAddr=true) {cl:FuncId -> List D -> Heap -> CR} {d:D} {st':St} (h:step c.V cl loc ⟨sl,H⟩ vo.op = .v d st'):(∃ k off,d = .lp k off /\ rootStep c.rt vo=some k) /\ SimL c E L o a K μ H W d st' /\ st'=⟨sl,H⟩:=by
 obtain⟨op,keep,guard⟩:=vo
 simp only at hb h
 have root : ∀ {x:AB} {k:Nat},rootOf c.rt x=[k] -> (match x with
   | .sl k=>some k
   | .lo j=>(c.rt[j]?).join)=some k:=fun{x k} e=>by
  cases x with
  | sl k'=>simp only[rootOf,List.cons.injEq,and_true]at e;simp[e]
  | lo j =>
   simp only[rootOf]at e
   cases hj:(c.rt[j]?).join with
   | none=>rw[hj]at e;simp at e
   | some q=>rw[hj]at e;simp at e;simp[hj,e]
 cases op<;>simp only[VOp.isAddr]at hb<;>first|(cases hb;done)|skip
 ·rename_i x off
  simp only[okOp]at hok
  simp only[step]at h
  split at hok
  ·rename_i s y f ho
   simp only[Bool.and_eq_true]at hok
   split at h
   ·rename_i k q he
    cases h
    obtain⟨r,h1,h2,h3⟩:=okA_sound fs lr hok.1 (fun j hj=>hd j (by simp[VOper.locR,VOp.base,hj])) he
    exact⟨⟨k,_,rfl,root h3⟩,sim_lfa fs ho hok.2 h1 h2,rfl⟩
   ·cases h
  ·cases hok
 ·rename_i x ix n w
  simp only[okOp]at hok
  simp only[step]at h
  split at hok
  ·rename_i t y z ho
   simp only[Bool.and_eq_true]at hok
   obtain⟨hok,h5⟩:=hok
   split at h5
   ·rename_i m e hae
    simp only[Bool.and_eq_true,beq_iff_eq]at h5
    obtain⟨rfl,h5⟩:=h5
    split at h
    ·rename_i k q he
     split at h
     ·rename_i j hj
      cases h
      obtain⟨r,h1,h2,h3⟩:=okA_sound fs lr hok.1 (fun j hj=>hd j (by simp[VOper.locR,VOp.base,hj])) he
      have hv:=okO_sound fs lr hok.2 (fun j hj=>hd j (by simp[VOper.locR,VOp.args,hj]))
      exact⟨⟨k,_,rfl,root h3⟩,sim_lia fs ho (arrayElem_eq hae) h5 h1 h2 hv hj,rfl⟩
     ·cases h
    ·cases h
   ·cases h5
  ·cases hok
theorem RI.go {K':Kn} {μ':Mu} {H':Heap} {sl':List D} {W':World} (ri:RI c E nd done L K μ loc sl H a W) (fs:FS E c.tm c.bs K' μ' L sl' H' a.tmps W') (e:Ext K μ H K' μ' H'):RI c E nd done L K' μ' loc sl' H' a W' :=
 ⟨fs,ri.lr.ext e,ri.sz,ri.df,ri.ln⟩
theorem RI.val (rg:Reg c) (ri:RI c E nd done L K μ loc sl H a W) {i:Nat} {vo:VOper} {d:D} {v:Value} (ho:c.ops[i]?=some o) (hvo:c.vos[i]?=some vo) (ok:OpOk c i o vo) (ha:vo.op.isAddr=false) (hb:vo.op.isBox=false)
  (hres:VR K μ H d v):RI c E nd (fun j=>j=i \/ done j) L K μ (loc.set i d) (setSl sl vo.keep d) H (a.put o.dst v) W:=by
 cases hdst:o.dst with
 | none =>
  have hk:=(ok.none hdst).1
  rw[hk]
  have:=ri.nothing (d:=d) (v:=v) ho hdst
  rwa [hdst]at this
 | some t =>
  cases hk:vo.keep with
  | none =>
   obtain⟨h1,_,h3⟩:=ok.loc t hdst hk
   have:=ri.local rg (d:=d) (v:=v) ho hvo hdst h1 h3 (by rw[ha];exact hres)
   rwa [hdst]at this
  | some k =>
   obtain⟨h1,h2,_⟩:=ok.slot t k hdst hk
   have:=ri.slot rg (d:=d) (v:=v) hvo hdst hk h1 (by rw[h2,hb]) hres
   rwa [hdst]at this
theorem RI.skipped (rg:Reg c) (ri:RI c E nd done L K μ loc sl H a W) {i:Nat} {vo:VOper} (ho:c.ops[i]?=some o) (hvo:c.vos[i]?=some vo) (ok:OpOk c i o vo) :
  RI c E nd (fun j=>j=i \/ done j) L K μ (loc.set i .u) (setSl sl vo.keep .u) H (a.put o.dst undef) W:=by
 cases hb:vo.op.isBox with
 | true =>
  cases hdst:o.dst with
  | none=>have:=(ok.none hdst).2.2;rw[hb]at this;cases this
  | some t =>
   cases hk:vo.keep with
   | none=>have:=(ok.loc t hdst hk).2.1;rw[hb]at this;cases this
   | some k =>
    obtain⟨h1,h2,_⟩:=ok.slot t k hdst hk
    have:=ri.unboxed rg (v:=undef) hvo hdst hk h1 (by rw[h2,hb])
    rwa [hdst]at this
 | false =>
  cases ha:vo.op.isAddr with
  | false=>exact ri.val rg ho hvo ok ha hb (.u ..)
  | true =>
   cases hdst:o.dst with
   | none=>have:=(ok.none hdst).2.1;rw[ha]at this;cases this
   | some t =>
    cases hk:vo.keep with
    | some k=>have:=(ok.slot t k hdst hk).2.2;rw[ha]at this;cases this
    | none =>
     obtain⟨h1,_,h3⟩:=ok.loc t hdst hk
     have:=ri.local rg (d := .u) (v:=undef) ho hvo hdst h1 h3 (by rw[ha];exact .inl ⟨rfl,rfl⟩)
     rwa [hdst]at this
theorem oper_step (rg:Reg c) (ri:RI c E nd done L K μ loc sl H a W) {i:Nat} {vo:VOper} (ho:c.ops[i]?=some o) (hvo:c.vos[i]?=some vo) (hd : ∀ j∈vo.locR,done j) (hc:vo.op.calls=false)
  (hfirst:vo.op.isBox=true -> ∀ k,vo.keep=some k -> ∀ j,done j -> c.rt[j]?≠some (some k)) {cl:FuncId -> List D -> Heap -> CR} {d:D} {st':St} (h:step c.V cl loc ⟨sl,H⟩ vo.op = .v d st')
  {next:Act -> World -> Prop} {Q:Exit -> Act -> World -> Prop}
  (hn : ∀ L' K' μ' a' W',RI c E nd (fun j=>j=i \/ done j) L' K' μ' (loc.set i d) (setSl st'.sl vo.keep d) st'.hp a' W' -> next a' W'):o.wp c.P a W next Q:=by
 obtain⟨hok,hrt⟩:=rg.op i o vo ho hvo
 have ok:=okOper_spec hok
 unfold Oper.wp
 cases hb:vo.op.isBox with
 | true =>
  obtain⟨⟨cs,rfl⟩,⟨W',v,hrun,fs',hsz,hH,hres⟩,rfl⟩:=box_sound ri.fs ri.lr ok.op hd hb h
  rw[hrun]
  obtain⟨r,vs,ty,rfl,h0,h1,h2,h3,h4,h5⟩:=hres
  cases hdst:o.dst with
  | none=>have:=(ok.none hdst).2.2;rw[hb]at this;cases this
  | some t =>
   cases hk:vo.keep with
   | none=>have:=(ok.loc t hdst hk).2.1;rw[hb]at this;cases this
   | some k =>
    obtain⟨g1,g2,_⟩:=ok.slot t k hdst hk
    have ri':=ri.go fs' (.refl _ _ _)
    have:=ri'.boxed rg (W0:=W) hvo hdst hk g1 (by rw[g2,hb]) (fun k' r' e=>(ri.fs.own k' r' e).2.2.2) h0 ri.fs.nx.size h1 h2 h3 h4 h5 (hfirst hb k hk)
    have:=hn _ _ _ _ _ (by rw[hk];exact this)
    simpa [Oper.upon]using this
 | false =>
  cases ha:vo.op.isAddr with
  | true =>
   obtain⟨⟨k,off,rfl,hroot⟩,⟨W',v,hrun,fs',hsz,hH,hres⟩,rfl⟩:=addr_sound ri.fs ri.lr ok.op hd ha h
   rw[hrun]
   obtain⟨r,g1,rfl⟩:=hres
   have ri':=ri.go fs' (.refl _ _ _)
   cases hdst:o.dst with
   | none=>have:=(ok.none hdst).2.1;rw[ha]at this;cases this
   | some t =>
    cases hk:vo.keep with
    | some k=>have:=(ok.slot t k hdst hk).2.2;rw[ha]at this;cases this
    | none =>
     obtain⟨h1,_,h3⟩:=ok.loc t hdst hk
     have:=ri'.local rg (d := .lp k off) (v := .pointer (some ⟨r,off,none⟩)) ho hvo hdst h1 h3 (by rw[ha];exact .inr ⟨k,off,r,rfl,by rw[hrt,hroot],g1,rfl⟩)
     have:=hn _ _ _ _ _ (by rw[hk];exact this)
     simpa [Oper.upon]using this
  | false =>
   obtain⟨K',μ',W',n,hrun,fs',hext,hsz,hres⟩:=op_sound ri.fs ri.lr ok.op (fun j hj=>hd j (by simp only[VOper.locR];exact List.mem_append_left _ hj)) hc hb ha h
   rw[hrun]
   have ri':=ri.go fs' hext
   rcases hres with⟨v,rfl,hv⟩|⟨rfl,rfl⟩
   ·exact hn _ _ _ _ _ (ri'.val rg ho hvo ok ha hb hv)
   ·exact hn _ _ _ _ _ (ri'.val rg ho hvo ok ha hb (.u ..))
end
theorem ev_pad (loc sl:List D) (k:Nat):O.ev (loc++List.replicate k D.u) sl=O.ev loc sl:=by
 funext x
 cases x with
 | l i =>
  simp only[O.ev,List.getD_eq_getElem?_getD]
  rcases Nat.lt_or_ge i loc.length with h|h
  ·rw[List.getElem?_append_left h]
  ·rw[List.getElem?_append_right h,List.getElem?_eq_none h]
   rw[List.getElem?_replicate]
   split<;>rfl
 | s k=>rfl
 | c d=>rfl
theorem ab_pad (loc sl:List D) (k:Nat):AB.ev (loc++List.replicate k D.u) sl=AB.ev loc sl:=by
 funext x
 cases x with
 | sl k=>rfl
 | lo i =>
  simp only[AB.ev]
  rcases Nat.lt_or_ge i loc.length with h|h
  ·rw[List.getElem?_append_left h]
  ·rw[List.getElem?_append_right h,List.getElem?_eq_none h]
   rw[List.getElem?_replicate]
   by_cases hk:i-loc.length<k
   ·rw[if_pos hk]
   ·rw[if_neg hk]
set_option maxHeartbeats 2000000 in
theorem step_pad (V:VProg) (cl:FuncId -> List D -> Heap -> CR) (loc:List D) (k:Nat) (st:St) (op:VOp):step V cl (loc++List.replicate k D.u) st op=step V cl loc st op:=by
 cases op<;>simp only[step,ev_pad,ab_pad]
theorem wants_pad (o:VOper) (loc sl:List D) (k:Nat):o.wants (loc++List.replicate k D.u) sl=o.wants loc sl:=by
 simp only[VOper.wants,ev_pad]
theorem fits_pad (dr:Option (Bs×Bool)) (op:VOp) (loc sl:List D) (k:Nat):op.fits dr (loc++List.replicate k D.u) sl=op.fits dr loc sl:=by
 cases dr with
 | none=>rfl
 | some b =>
  obtain⟨base,s⟩:=b
  cases s<;>simp only[VOp.fits,ev_pad]
def opsL (V:VProg) (cl:FuncId -> List D -> Heap -> CR) (dr:Option (Bs×Bool)) (vos:List VOper):List Nat -> List D -> St -> Ex×St
 | [],_,st=>(.nm,st)
 | i :: is,loc,st=>match vos[i]? with
  | none=>opsL V cl dr vos is loc st
  | some o=>match o.wants loc st.sl with
   | some true=>match o.op.fits dr loc st.sl with
    | true=>match step V cl loc st o.op with
     | .v d st'=>opsL V cl dr vos is (loc.set i d) ⟨setSl st'.sl o.keep d,st'.hp⟩
     | .p d hp=>match dr.isNone||o.op.pans with
      | true=>(.pn d,⟨st.sl,hp⟩)
      | false=>(.bad,st)
     | .bad=>(.bad,st)
    | false=>(.bad,st)
   | some false=>opsL V cl dr vos is (loc.set i .u) ⟨setSl st.sl o.keep .u,st.hp⟩
   | none=>(.bad,st)
section
variable {V:VProg} {cl:FuncId -> List D -> Heap -> CR} {vos:List VOper}
def one (V:VProg) (cl:FuncId -> List D -> Heap -> CR) (dr:Option (Bs×Bool)) (vos:List VOper) (i:Nat) (loc:List D) (st:St):Option (List D×St) :=
 match vos[i]? with
 | none=>some (loc,st)
 | some o=>match o.wants loc st.sl with
  | some true=>match o.op.fits dr loc st.sl with
   | true=>match step V cl loc st o.op with
    | .v d st'=>some (loc.set i d,⟨setSl st'.sl o.keep d,st'.hp⟩)
    | _=>none
   | false=>none
  | some false=>some (loc.set i .u,⟨setSl st.sl o.keep .u,st.hp⟩)
  | none=>none
theorem opsL_cons {dr:Option (Bs×Bool)} {i:Nat} {is:List Nat} {loc:List D} {st st':St}:opsL V cl dr vos (i::is) loc st=(.nm,st') ↔ ∃ loc1 st1,one V cl dr vos i loc st=some (loc1,st1) /\ opsL V cl dr vos is loc1 st1=(.nm,st'):=by
 unfold one
 simp only[opsL]
 cases h0:vos[i]? with
 | none=>exact⟨fun h=>⟨_,_,rfl,h⟩,fun⟨_,_,e,h⟩=>by cases e;exact h⟩
 | some o =>
  simp only
  cases h1:o.wants loc st.sl with
  | none=>simp
  | some r =>
   cases r with
   | false=>exact⟨fun h=>⟨_,_,rfl,h⟩,fun⟨_,_,e,h⟩=>by cases e;exact h⟩
   | true =>
    simp only
    cases h2:o.op.fits dr loc st.sl with
    | false=>simp
    | true =>
     simp only
     cases h3:step V cl loc st o.op with
     | v d st1=>exact⟨fun h=>⟨_,_,rfl,h⟩,fun⟨_,_,e,h⟩=>by cases e;exact h⟩
     | p d hp=>cases dr.isNone||o.op.pans<;>simp
     | bad=>simp
theorem opsL_pn {i:Nat} {is:List Nat} {loc:List D} {st st':St} {q:D} (h:opsL V cl none vos (i::is) loc st=(.pn q,st')):(∃ loc1 st1,one V cl none vos i loc st=some (loc1,st1) /\ opsL V cl none vos is loc1 st1=(.pn q,st')) \/
  (∃ o hp,vos[i]?=some o /\ o.wants loc st.sl=some true /\ step V cl loc st o.op = .p q hp /\ st'=⟨st.sl,hp⟩):=by
 unfold one
 simp only[opsL]at h
 cases h0:vos[i]? with
 | none=>rw[h0]at h;exact .inl ⟨_,_,rfl,h⟩
 | some o =>
  rw[h0]at h
  simp only at h ⊢
  cases h1:o.wants loc st.sl with
  | none=>rw[h1]at h;cases h
  | some r =>
   rw[h1]at h
   cases r with
   | false=>exact .inl ⟨_,_,rfl,h⟩
   | true =>
    simp only at h ⊢
    cases h2:o.op.fits none loc st.sl with
    | false=>rw[h2]at h;cases h
    | true =>
     rw[h2]at h
     simp only at h ⊢
     cases h3:step V cl loc st o.op with
     | v d st1=>rw[h3]at h;exact .inl ⟨_,_,rfl,h⟩
     | p d hp =>
      rw[h3]at h
      cases h
      exact .inr ⟨o,hp,rfl,h1,h3,rfl⟩
     | bad=>rw[h3]at h;cases h
end
theorem set_pad (loc:List D) (k:Nat) (d:D):(loc++List.replicate (k+1) D.u).set loc.length d=(loc++[d])++List.replicate k D.u:=by
 rw[List.set_append_right _ _ (Nat.le_refl _)]
 simp[List.replicate_succ]
theorem ops_list (V:VProg) (cl:FuncId -> List D -> Heap -> CR) (dr:Option (Bs×Bool)) : ∀ (os pre:List VOper) (loc:List D) (st:St),loc.length=pre.length ->
  ops V cl dr os loc st=opsL V cl dr (pre++os) (List.range' pre.length os.length) (loc++List.replicate os.length .u) st:=by
 intro os
 induction os with
 | nil=>intro pre loc st h;simp[ops,opsL]
 | cons o os ih =>
  intro pre loc st h
  simp only[List.length_cons,List.range'_succ,opsL,wants_pad,fits_pad,step_pad]
  rw[show(pre++o::os)[pre.length]?=some o by simp]
  have again : ∀ d st',ops V cl dr os (loc++[d]) st'=opsL V cl dr (pre++o::os) (List.range' (pre.length+1) os.length) ((loc++List.replicate (os.length+1) D.u).set pre.length d) st':=fun d st'=>by
   have:=ih (pre++[o]) (loc++[d]) st' (by simp[h])
   rw[this, <- h,set_pad]
   simp[h]
  simp only[ops]
  cases h1:o.wants loc st.sl with
  | none=>rfl
  | some r =>
   cases r with
   | false=>exact again .u _
   | true =>
    simp only
    cases h2:o.op.fits dr loc st.sl with
    | false=>rfl
    | true =>
     simp only
     cases h3:step V cl loc st o.op with
     | v d st'=>exact again d _
     | p d hp=>rfl
     | bad=>rfl
section
variable {V:VProg} {cl:FuncId -> List D -> Heap -> CR} {vos:List VOper}
def chain (V:VProg) (cl:FuncId -> List D -> Heap -> CR) (dr:Option (Bs×Bool)) (vos:List VOper):List Nat -> List D -> St -> Option (List D×St)
 | [],loc,st=>some (loc,st)
 | i::is,loc,st=>match one V cl dr vos i loc st with
  | some (loc1,st1)=>chain V cl dr vos is loc1 st1
  | none=>none
theorem chain_cons {dr:Option (Bs×Bool)} {i:Nat} {is:List Nat} {loc:List D} {st:St} {r:List D×St}:chain V cl dr vos (i::is) loc st=some r ↔ ∃ loc1 st1,one V cl dr vos i loc st=some (loc1,st1) /\ chain V cl dr vos is loc1 st1=some r:=by
 simp only[chain]
 cases one V cl dr vos i loc st with
 | none=>simp
 | some q =>
  obtain⟨l,s⟩:=q
  exact⟨fun h=>⟨l,s,rfl,h⟩,fun⟨_,_,e,h⟩=>by cases e;exact h⟩
theorem opsL_pd {dr:Option (Bs×Bool)} {q:D} {st':St} : ∀ {l:List Nat} {loc:List D} {st:St},opsL V cl dr vos l loc st=(.pn q,st') -> ∃ l1 i l2 loc1 st1 o hp,l=l1++i::l2 /\ chain V cl dr vos l1 loc st=some (loc1,st1) /\ vos[i]?=some o /\ (dr.isNone||o.op.pans)=true /\ o.wants loc1 st1.sl=some true /\ step V cl loc1 st1 o.op = .p q hp /\ st'=⟨st1.sl,hp⟩
 | [],loc,st,h=>by simp only[opsL,Prod.mk.injEq,reduceCtorEq,false_and]at h
 | i :: is,loc,st,h=>by
  have nx : ∀ {loc1:List D} {st1:St},one V cl dr vos i loc st=some (loc1,st1) -> opsL V cl dr vos is loc1 st1=(.pn q,st') -> ∃ l1 i' l2 loc1 st1 o hp,i::is=l1++i'::l2 /\ chain V cl dr vos l1 loc st=some (loc1,st1) /\ vos[i']?=some o /\ (dr.isNone||o.op.pans)=true /\ o.wants loc1 st1.sl=some true /\ step V cl loc1 st1 o.op = .p q hp /\ st'=⟨st1.sl,hp⟩:=fun{loc1 st1} h1 h2=>by
   obtain⟨l1,j,l2,loc2,st2,o,hp,e,g1,g⟩:=opsL_pd h2
   exact⟨i::l1,j,l2,loc2,st2,o,hp,by rw[e];rfl,chain_cons.2 ⟨_,_,h1,g1⟩,g⟩
  simp only[opsL]at h
  cases h0:vos[i]? with
  | none=>rw[h0]at h;exact nx (by simp only[one,h0]) h
  | some o =>
   rw[h0]at h
   simp only at h
   cases h1:o.wants loc st.sl with
   | none=>rw[h1]at h;cases h
   | some r =>
    rw[h1]at h
    cases r with
    | false=>exact nx (by simp only[one,h0,h1]) h
    | true =>
     simp only at h
     cases h2:o.op.fits dr loc st.sl with
     | false=>rw[h2]at h;cases h
     | true =>
      rw[h2]at h
      simp only at h
      cases h3:step V cl loc st o.op with
      | v d st1=>rw[h3]at h;exact nx (by simp only[one,h0,h1,h2,h3]) h
      | p d hp =>
       rw[h3]at h
       simp only at h
       cases h4:dr.isNone||o.op.pans with
       | true =>
        rw[h4]at h
        cases h
        exact⟨[],i,is,loc,st,o,hp,rfl,rfl,h0,h4,h1,h3,rfl⟩
       | false=>rw[h4]at h;cases h
      | bad=>rw[h3]at h;cases h
end
def Gives (K:Kn) (μ:Mu) (H:Heap) (W:World) (d:D) (H':Heap):Ending -> World -> Prop
 | .returned v,W' => ∃ K' μ',HR K' μ' H' W' /\ Nx K μ H W K' μ' H' W' /\ VR K' μ' H' d v
 | _,_=>False
def Settles (own:Bool) (K:Kn) (W:World) (d:D):Ending -> World -> Prop
 | .returned v,W' => ∃ K' μ' H' d0,HR K' μ' H' W' /\ Nx K mu0 [] W K' μ' H' W' /\ VR K' μ' H' d0 v /\ settleO own H' d0=some d
 | _,_=>False
def Known (P:Program) (f:FuncId):Prop := ∃ fn:Func,P.funcs[f]?=some fn /\ fn.body.isSome=true /\ fn.name≠"runtime.NumGoroutine"
def TE (T:Kn -> World -> Prop) (E:En):Prop:=T E.K E.w /\ HR E.K E.μ E.H E.w
structure RowK (K:Kn) (g off:Nat) (r:List D) (f:Nat -> Value):Prop where
 k : ∀ (j:Nat) (d:D),r[j]?=some d -> K g (off+j)=some (f j)
 c : ∀ (j:Nat) (d:D),r[j]?=some d -> (f j).oneCell'=true
 v : ∀ (j:Nat) (d:D),r[j]?=some d -> VR K mu0 [] d (f j)
def GlobK (K:Kn) (g w:Nat) (rows:List (List D)):Prop := ∀ (i:Nat) (r:List D),rows[i]?=some r -> ∃ f,RowK K g (i*w) r f
structure VOK (P:Program) (V:VProg) (T:Kn -> World -> Prop):Prop where
 up : ∀ {K:Kn} {μ:Mu} {H:Heap} {W:World} {K':Kn} {μ':Mu} {H':Heap} {W':World},T K W -> HR K μ H W -> Nx K μ H W K' μ' H' W' -> T K' W'
 fn : ∀ (f:FuncId) (vf:VFunc),V.fn f=some vf -> ∃ (fn:Func) (tm bs:List Nat),P.funcs[f]?=some fn /\ okFn P V fn vf tm bs=true /\ fn.name≠"runtime.NumGoroutine" /\ (vf.rg=none \/ vf.rg=some f)
 nyf:P.funcs[yF]?=none
 rnd : ∀ (j:Nat) (r:Rnd),V.rnd j=some r -> P=thisP /\ okRndP P V r=true
 meth : ∀ (t:TypeId) (m:String) (f:FuncId),V.meth t m=some f -> f≠yF /\ ∀ (v:Value) (W:World),(Go.method (P.types.size+Made.depth) t v m).run P W = .ok (f,v) W
 ext : ∀ (f:FuncId) (args:List D) (H:Heap) (d:D) (H':Heap),V.ext f args H=some (d,H') -> H.length <= H'.length /\ Known P f /\ ∀ (K:Kn) (μ:Mu) (W:World) (vs:List Value),T K W -> HR K μ H W -> VRs K μ H args vs -> Calls P f vs.toArray W (Gives K μ H W d H')
 glob : ∀ (g w:Nat) (rows:List (List D)),V.glob g=some (w,rows) -> ∀ (K:Kn) (W:World),T K W -> GlobK K g w rows
 pext : ∀ (f:FuncId) (ds:List D) (d:D) (vf:VFunc),V.fn f=some vf -> V.pext f ds=some d -> ∀ (K:Kn) (W:World) (vs:List Value),T K W -> HR K mu0 [] W -> VRs K mu0 [] ds vs -> Calls P f vs.toArray W (Settles vf.own K W d)
theorem run_callFunc {P:Program} {f:FuncId} {fn:Func} (hf:P.funcs[f]?=some fn) (hb:fn.body.isSome=true) (hn:fn.name≠"runtime.NumGoroutine") (args:Array Value) (W:World) :
  (callFunc f args).run P W = .ok (.enter f args) W:=by
 obtain⟨b,hb⟩:=Option.isSome_iff_exists.1 hb
 simp[callFunc,hf,hn,hb]
theorem run_call {P:Program} {o:Oper} {a:Act} {y:Operand} {args:Array Operand} {ats:Array TypeId} {f:FuncId} {va vb:Array Value} {fn:Func} (ho:o.op = .call { callee := .value y,args,argTypes:=ats })
  (hy:a.eval y = .func (.func f) va vb) (hf:P.funcs[f]?=some fn) (hb:fn.body.isSome=true) (hn:fn.name≠"runtime.NumGoroutine") (W:World) :
  (execOp a.eval o).run P W = .ok (.enter f (va++args.map a.eval++vb)) W:=by
 simp[execOp,ho,resolve,hy,Deferred.ofValue,invoke,run_callFunc hf hb hn]
theorem run_inv {P:Program} {o:Oper} {a:Act} {y:Operand} {m:String} {args:Array Operand} {ats:Array TypeId} {f:FuncId} {t:TypeId} {v:Value} {fn:Func} (ho:o.op = .call { callee := .invoke y m,args,argTypes:=ats })
  (hy:a.eval y = .iface t v) {W:World} (hm:(Go.method (P.types.size+Made.depth) t v m).run P W = .ok (f,v) W) (hf:P.funcs[f]?=some fn) (hb:fn.body.isSome=true) (hn:fn.name≠"runtime.NumGoroutine") :
  (execOp a.eval o).run P W = .ok (.enter f (#[v]++args.map a.eval)) W:=by
 generalize a.eval=ev at hy ⊢
 have e1:(#[Value.iface t v]++args.map ev)[0]?=some (.iface t v):=by
  rw[Array.getElem?_append_left (show 0<1 from Nat.one_pos)];rfl
 have e2:(#[Value.iface t v]++args.map ev).extract 1 (#[Value.iface t v]++args.map ev).size=args.map ev:=by
  apply Array.ext'
  simp
  rw[List.take_of_length_le (by simp)]
 have e3:(invoke (.fn (.method m) #[]) (#[Value.iface t v]++args.map ev)).run P W = .ok (.enter f (#[v]++args.map ev)) W:=by
  unfold invoke
  simp only[e1,e2]
  unfold callMethod
  simp only[Sem.run_bind,run_program,Result.andThen_ok,hm,run_callFunc hf hb hn]
 simp only[execOp,ho,resolve,hy]
 simpa only[Sem.run_bind,Sem.run_pure,Result.andThen_ok]using e3
def FW (rd:Option Nat):Fence:={ Fence.wide with round:=rd }
def YldOk (P:Program) (T:Kn -> World -> Prop) (args:List D) (H:Heap) (d:D) (H':Heap):Prop :=
 ∃ y az,args = .yl y::az /\ ∀ (K:Kn) (μ:Mu) (W:World) (vs:List Value) (l:Loc),T K W -> HR K μ H W -> VRs K μ H az vs -> μ y=some l ->
  ∃ rec:Loop,W.heap[l.blk]?=some (.loop rec) /\ vs.length=rec.params.size /\ ∀ m,RoundIn Fence.wide m P l.blk rec.fn ((rec.params.zip vs.toArray).foldl (fun tmps (t,a)=>tmps.setIfInBounds t a) rec.tmps) rec.assign rec.body W (Gives K μ H W d H')
def CallSim (P:Program) (T:Kn -> World -> Prop) (cl:FuncId -> List D -> Heap -> CR):Prop :=
 ∀ (f:FuncId) (args:List D) (H:Heap) (d:D) (H':Heap),cl f args H = .ret d H' -> (f≠yF -> Known P f /\
  ∀ (K:Kn) (μ:Mu) (W:World) (vs:List Value),T K W -> HR K μ H W -> VRs K μ H args vs -> Calls P f vs.toArray W (Gives K μ H W d H')) /\ (f=yF -> YldOk P T args H d H')
theorem upon_in {P:Program} {o:Oper} {a:Act} {next:Act -> World -> Prop} {Q:Exit -> Act -> World -> Prop} {r:Result Next} {rd:Option Nat} {m:Nat} (h:o.upon P a next Q r):o.uponIn (FW rd) m P a next Q r:=by
 cases r with
 | ok x w =>
  cases x<;>simp only[Oper.upon]at h<;>first|exact h|exact h.elim|skip
  ·exact⟨fun e=>(by cases e),callsIn_wide (n:=m-1).2 h⟩
  ·exact⟨fun e=>(by cases e),fun c cs _=>let ⟨v,w',r,s⟩:=h c cs;⟨v,w',r,stepsIn_wide.2 s⟩⟩
 | halt x w=>cases x<;>simp only[Oper.upon]at h<;>first|exact h|exact h.elim
theorem wp_in {P:Program} {o:Oper} {a:Act} {W:World} {next:Act -> World -> Prop} {Q:Exit -> Act -> World -> Prop} {rd:Option Nat} {m:Nat} (hd : ∀ cl,o.op ≠ .defer cl) (h:o.wp P a W next Q):o.wpIn (FW rd) m P a W next Q:=by
 refine⟨fun _ _=>trivial, ?_⟩
 have e:o.semAt (FW rd).round a.eval=execOp a.eval o:=by
  unfold Oper.semAt
  split
  ·rename_i cl _ ho;exact absurd ho (hd cl)
  ·rfl
 rw[e]
 exact upon_in h
theorem semAt_nd {o:Oper} {rd:Option Nat} {ev:Operand -> Value} (hd : ∀ cl,o.op ≠ .defer cl):o.semAt rd ev=execOp ev o:=by
 unfold Oper.semAt
 split
 ·exact absurd ‹_› (hd _)
 ·rfl
theorem roundIn_fw {rd:Option Nat} {m:Nat} {P:Program} {l:Nat} {f:FuncId} {tmps:Array Value} {assign body:Code} {w:World} {R:Ending -> World -> Prop} (h:RoundIn Fence.wide m P l f tmps assign body w R):RoundIn (FW rd) m P l f tmps assign body w R:=h
theorem run_callY {P:Program} {o:Oper} {a:Act} {y:Operand} {args:Array Operand} {ats:Array TypeId} {l:Nat} {rec:Loop} {W:World} (ho:o.op = .call { callee := .value y,args,argTypes:=ats })
  (hy:a.eval y = .func (.yield l) #[] #[]) (hl:W.heap[l]?=some (.loop rec)) (hs:(args.map a.eval).size=rec.params.size) :
  (execOp a.eval o).run P W = .ok (.round l rec.fn ((rec.params.zip (args.map a.eval)).foldl (fun tmps (t,a)=>tmps.setIfInBounds t a) rec.tmps) rec.assign rec.body) W:=by
 simp[execOp,ho,resolve,hy,Deferred.ofValue,invoke,run_yield hl hs]
section
variable {c:CX} {E:En} {nd:List Deferred} {L:Nat -> Option Nat} {K:Kn} {μ:Mu} {sl:List D} {H:Heap} {a:Act} {W:World} {o:Oper} {loc:List D} {done:Nat -> Prop}
theorem toR_inv {sl:List D} {r:CR} {d:D} {st':St} (h:r.toR sl = .v d st'):r = .ret d st'.hp /\ st'=⟨sl,st'.hp⟩:=by
 cases r<;>cases h
 exact⟨rfl,rfl⟩
theorem rets_inv {r:CR} {d:D} {H':Heap} (h:rets r = .ret d H'):r = .ret d H':=by
 cases r<;>cases h
 rfl
theorem gros_inv {H:Heap} {r:CR} {d:D} {H':Heap} (h:gros H r = .ret d H'):r = .ret d H' /\ growH H H'=true:=by
 cases r with
 | ret d' H2 =>
  simp only[gros]at h
  split at h
  ·rename_i hc;cases h;exact⟨rfl,hc⟩
  ·cases h
 | pan=>cases h
 | bad=>cases h
theorem gros_pan {H:Heap} {r:CR} {d:D} {H':Heap} (h:gros H r = .pan d H'):False:=by
 cases r with
 | ret d' H2 =>
  simp only[gros]at h
  split at h<;>cases h
 | pan=>cases h
 | bad=>cases h
theorem adds_inv {H:Heap} {r:CR} {d:D} {H':Heap} (h:adds H r = .ret d H'):r = .ret d H' /\ extH H H'=true:=by
 cases r with
 | ret e G =>
  simp only[adds]at h
  split at h
  ·rename_i g;cases h;exact⟨rfl,g⟩
  ·cases h
 | pan e G=>cases h
 | bad=>cases h
theorem rets_pan {r:CR} {q:D} {H':Heap} (h:rets r = .pan q H'):False:=by cases r<;>cases h
theorem adds_pan {H:Heap} {r:CR} {q:D} {H':Heap} (h:adds H r = .pan q H'):False:=by
 cases r with
 | ret e G=>simp only[adds]at h;split at h<;>cases h
 | pan e G=>cases h
 | bad=>cases h
theorem VRs.append {xs ys:List D} {vs ws:List Value} (h:VRs K μ H xs vs) (h':VRs K μ H ys ws):VRs K μ H (xs++ys) (vs++ws):=by
 refine⟨by simp[h.1,h'.1],fun j d v e e' => ?_⟩
 rcases Nat.lt_or_ge j xs.length with hj|hj
 ·rw[List.getElem?_append_left hj]at e
  rw[List.getElem?_append_left (by rw[<- h.1];exact hj)]at e'
  exact h.2 j d v e e'
 ·rw[List.getElem?_append_right hj]at e
  rw[List.getElem?_append_right (by rw[<- h.1];exact hj), <- h.1]at e'
  exact h'.2 _ d v e e'
theorem okFn_body {P:Program} {V:VProg} {fn:Func} {vf:VFunc} {tm bs:List Nat} (h:okFn P V fn vf tm bs=true):fn.body.isSome=true:=by
 unfold okFn at h
 cases hb:fn.body with
 | none=>rw[hb]at h;cases hd:vf.dfr<;>rw[hd]at h<;>simp at h
 | some b=>rfl
theorem VOK.known {P:Program} {V:VProg} {T:Kn -> World -> Prop} (vok:VOK P V T) {f:FuncId} {vf:VFunc} (h:V.fn f=some vf):Known P f:=by
 obtain⟨fn,tm,bs,g1,g2,g3⟩:=vok.fn f vf h
 exact⟨fn,g1,okFn_body g2,g3.1⟩
theorem callOk_ny {c:CX} {f:FuncId} (hn:c.P.funcs[yF]?=none) (h:callOk c f=true):f≠yF:=by
 rintro rfl
 unfold callOk at h
 rw[hn]at h
 cases h
theorem no_defer {o:Oper} {cl:Call} (h:o.op = .call cl) : ∀ d,o.op ≠ .defer d:=fun d e=>by rw[h]at e;cases e
theorem call_step (rg:Reg c) (ri:RI c E nd done L K μ loc sl H a W) {T:Kn -> World -> Prop} (vok:VOK c.P c.V T) (hT:TE T E) {i:Nat} {vo:VOper} (ho:c.ops[i]?=some o) (hvo:c.vos[i]?=some vo) (hd : ∀ j∈vo.locR,done j) (hc:vo.op.calls=true)
  {cl:FuncId -> List D -> Heap -> CR} (cs:CallSim c.P T cl) {d:D} {st':St} (h:step c.V cl loc ⟨sl,H⟩ vo.op = .v d st')
  {next:Act -> World -> Prop} {Q:Exit -> Act -> World -> Prop}
  (hn : ∀ K' μ' v W',RI c E nd (fun j=>j=i \/ done j) L K' μ' (loc.set i d) (setSl st'.sl vo.keep d) st'.hp (a.put o.dst v) W' -> next (a.put o.dst v) W') {rd:Option Nat} {m:Nat}:o.wpIn (FW rd) m c.P a W next Q:=by
 obtain⟨hok,hrt⟩:=rg.op i o vo ho hvo
 have ok:=okOper_spec hok
 have hb:vo.op.isBox=false:=by cases hq:vo.op<;>rw[hq]at hc<;>first|rfl|cases hc
 have ha:vo.op.isAddr=false:=by cases hq:vo.op<;>rw[hq]at hc<;>first|rfl|cases hc
 have fin : ∀ (f:FuncId) (args:List D) (vs:List Value) (H':Heap),f≠yF -> (∀ d,o.op ≠ .defer d) -> cl f args H = .ret d H' -> st'=⟨sl,H'⟩ -> VRs K μ H args vs ->
   (∀ fn:Func,c.P.funcs[f]?=some fn -> fn.body.isSome=true -> fn.name≠"runtime.NumGoroutine" -> (execOp a.eval o).run c.P W = .ok (.enter f vs.toArray) W) -> o.wpIn (FW rd) m c.P a W next Q:=fun f args vs H' hny hnd h1 h2 h3 h4=>by
  subst h2
  obtain⟨⟨fn,g1,g2,g3⟩,hcall⟩:=(cs f args H d H' h1).1 hny
  refine wp_in hnd ?_
  unfold Oper.wp
  rw[h4 fn g1 g2 g3,Oper.upon_enter]
  refine Calls.mono (hcall K μ W vs (vok.up hT.1 hT.2 ri.fs.nx) ri.fs.hr h3) (fun e w he => ?_)
  cases e with
  | returned v =>
   obtain⟨K',μ',hr',nx,hv⟩:=he
   exact hn _ _ _ _ ((ri.go (ri.fs.go hr' nx) nx.ext).val rg ho hvo ok ha hb hv)
  | panicked ch=>exact he.elim
  | outgrown=>exact he.elim
 obtain⟨op,keep,guard⟩:=vo
 have evs : ∀ {xs:List O} {ys:List Operand},okOs c i xs ys=true -> (∀ x∈xs,x∈op.args) -> VRs K μ H (xs.map (O.ev loc sl)) (ys.map a.eval):=fun hk hm=>okOs_sound ri.fs ri.lr hk (fun j hj=>hd j (by
  obtain⟨x,h1,h2⟩:=List.mem_flatMap.1 hj
  simp only[VOper.locR,List.mem_append]
  exact .inl (.inl (List.mem_flatMap.2 ⟨x,hm x h1,h2⟩))))
 have hop:=ok.op
 simp only at h hc hb ha hop
 cases op<;>first|(cases hc;done)|skip
 ·rename_i f xs
  simp only[okOp]at hop
  simp only[step]at h
  obtain⟨h1,h2⟩:=toR_inv h
  split at hop
  ·rename_i g args ats hoo
   simp only[Bool.and_eq_true,beq_iff_eq]at hop
   obtain⟨⟨rfl,h3⟩,h4⟩:=hop
   refine fin _ _ _ _ (callOk_ny vok.nyf h4) (no_defer hoo) h1 h2 (evs h3 (by simp[VOp.args])) (fun fn g1 g2 g3 => ?_)
   have:=run_call (a:=a) (va := #[]) (vb := #[]) hoo rfl g1 g2 g3 W
   rw[this]
   simp[<- Array.toList_map]
  ·cases hop
 ·rename_i x xs
  simp only[okOp]at hop
  simp only[step]at h
  split at h
  ·rename_i f first captured hx
   split at h
   ·cases h
   rename_i hny
   obtain⟨h1,h2⟩:=toR_inv h
   split at hop
   ·rename_i y args ats hoo
    simp only[Bool.and_eq_true]at hop
    have hv:=okO_sound ri.fs ri.lr hop.1 (fun j hj=>hd j (by simp[VOper.locR,VOp.args,hj]))
    rw[hx]at hv
    generalize hy:a.eval y=v at hv
    cases hv with
    | fn _ _ _ _ _ va vb la lb hva hvb =>
     refine fin _ _ (va++args.toList.map a.eval++vb) _ hny (no_defer hoo) h1 h2 ((VRs.append ⟨la,hva⟩ (evs hop.2 (by simp +contextual [VOp.args]))).append ⟨lb,hvb⟩) (fun fn g1 g2 g3 => ?_)
     rw[run_call (a:=a) hoo hy g1 g2 g3 W]
     congr 2
     apply Array.ext'
     simp
   ·cases hop
  ·rename_i y hx
   obtain⟨h1,h2⟩:=toR_inv h
   generalize st'.hp=H' at h1 h2 hn
   subst h2
   split at hop
   ·rename_i y' args ats hoo
    simp only[Bool.and_eq_true]at hop
    have hv:=okO_sound ri.fs ri.lr hop.1 (fun j hj=>hd j (by simp[VOper.locR,VOp.args,hj]))
    rw[hx]at hv
    generalize hy:a.eval y'=v at hv
    cases hv with
    | yl _ _ _ l b hm hH hb' =>
     obtain⟨y2,az,e,hyl⟩:=(cs yF _ H d H' h1).2 rfl
     obtain⟨e1,rfl⟩:=List.cons.inj e
     cases e1
     obtain⟨rec,hl,hsz,hround⟩:=hyl K μ W (args.toList.map a.eval) l (vok.up hT.1 hT.2 ri.fs.nx) ri.fs.hr (evs hop.2 (by simp +contextual [VOp.args])) hm
     have hrun:=run_callY (P:=c.P) (a:=a) hoo hy hl (by simpa using hsz)
     refine⟨fun _ _=>trivial, ?_⟩
     rw[semAt_nd (no_defer hoo),hrun,Oper.uponIn_round]
     refine⟨fun e=>(by cases e), ?_⟩
     have hr:=hround (m-1)
     rw[show(args.toList.map a.eval).toArray=args.map a.eval by simp[<- Array.toList_map]]at hr
     refine RoundIn.mono (roundIn_fw hr) (fun e w he => ?_)
     cases e with
     | returned v =>
      obtain⟨K',μ',hr',nx,hv⟩:=he
      exact hn _ _ _ _ ((ri.go (ri.fs.go hr' nx) nx.ext).val rg ho hvo ok ha hb hv)
     | panicked ch=>exact he.elim
     | outgrown=>exact he.elim
   ·cases hop
  ·cases h
 ·rename_i x m xs
  simp only[okOp]at hop
  simp only[step]at h
  split at h
  ·rename_i t q hx
   split at h
   ·rename_i f hf
    obtain⟨h1,h2⟩:=toR_inv h
    split at hop
    ·rename_i y m' args ats hoo
     simp only[Bool.and_eq_true,beq_iff_eq]at hop
     obtain⟨⟨hop1,rfl⟩,hop2⟩:=hop
     have hv:=okO_sound ri.fs ri.lr hop1 (fun j hj=>hd j (by simp[VOper.locR,VOp.args,hj]))
     rw[hx]at hv
     generalize hy:a.eval y=v at hv
     cases hv
     rename_i w hw
     refine fin _ _ ([w]++args.toList.map a.eval) _ (vok.meth _ _ _ hf).1 (no_defer hoo) h1 h2 (VRs.append (xs:=[q]) ⟨rfl,fun j d v e e'=>by
      cases j with
      | zero=>cases e;cases e';exact hw
      | succ j=>cases e⟩ (evs hop2 (by simp +contextual [VOp.args]))) (fun fn g1 g2 g3 => ?_)
     rw[run_inv (a:=a) hoo hy ((vok.meth _ _ _ hf).2 w W) g1 g2 g3]
     congr 2
     apply Array.ext'
     simp
    ·cases hop
   ·cases h
  ·cases h
 ·simp only[step,panD]at h;split at h<;>cases h
 ·rename_i f xs
  simp only[okOp]at hop
  simp only[step]at h
  split at h
  ·split at h
   ·obtain ⟨h1,h2⟩:=toR_inv h
    have h1':=rets_inv h1
    split at hop
    ·rename_i g args ats hoo
     simp only[Bool.and_eq_true,beq_iff_eq]at hop
     obtain⟨⟨rfl,h3⟩,h4⟩:=hop
     refine fin _ _ _ _ (callOk_ny vok.nyf h4) (no_defer hoo) h1' h2 (evs h3 (by simp[VOp.args])) (fun fn g1 g2 g3 => ?_)
     have:=run_call (a:=a) (va := #[]) (vb := #[]) hoo rfl g1 g2 g3 W
     rw[this]
     simp[<- Array.toList_map]
    ·cases hop
   ·cases h
  ·cases h
 ·rename_i f xs
  simp only[okOp]at hop
  simp only[step]at h
  obtain⟨h1,h2⟩:=toR_inv h
  have h1':=adds_inv h1
  split at hop
  ·rename_i g args ats hoo
   simp only[Bool.and_eq_true,beq_iff_eq]at hop
   obtain⟨⟨rfl,h3⟩,h4⟩:=hop
   refine fin _ _ _ _ (callOk_ny vok.nyf h4) (no_defer hoo) h1'.1 h2 (evs h3 (by simp[VOp.args])) (fun fn g1 g2 g3 => ?_)
   have:=run_call (a:=a) (va := #[]) (vb := #[]) hoo rfl g1 g2 g3 W
   rw[this]
   simp[<- Array.toList_map]
  ·cases hop
 ·rename_i x xs
  simp only[okOp]at hop
  simp only[step]at h
  split at h
  ·rename_i f first captured hx
   split at h
   ·cases h
   rename_i hny
   obtain⟨h1,h2⟩:=toR_inv h
   have h1':=gros_inv h1
   split at hop
   ·rename_i y args ats hoo
    simp only[Bool.and_eq_true]at hop
    have hv:=okO_sound ri.fs ri.lr hop.1 (fun j hj=>hd j (by simp[VOper.locR,VOp.args,hj]))
    rw[hx]at hv
    generalize hy:a.eval y=v at hv
    cases hv with
    | fn _ _ _ _ _ va vb la lb hva hvb =>
     refine fin _ _ (va++args.toList.map a.eval++vb) _ hny (no_defer hoo) h1'.1 h2 ((VRs.append ⟨la,hva⟩ (evs hop.2 (by simp +contextual [VOp.args]))).append ⟨lb,hvb⟩) (fun fn g1 g2 g3 => ?_)
     rw[run_call (a:=a) hoo hy g1 g2 g3 W]
     congr 2
     apply Array.ext'
     simp
   ·cases hop
  ·cases h
 ·rename_i g ix n w
  simp only[okOp]at hop
  simp only[step]at h
  obtain⟨h1,h2⟩:=ofO_inv h
  subst h2
  split at hop
  ·rename_i t g' k hoo
   simp only[Bool.and_eq_true,beq_iff_eq]at hop
   obtain⟨⟨rfl,h3⟩,h4⟩:=hop
   split at h4
   ·rename_i m e he
    simp only[Bool.and_eq_true,beq_iff_eq]at h4
    obtain⟨rfl,h5⟩:=h4
    unfold giaD at h1
    split at h1
    ·rename_i w' rows hgl
     split at h1
     ·rename_i j hj
      split at h1
      ·rename_i r hr
       split at h1
       ·rename_i hw
        subst hw
        cases h1
        obtain⟨ik,g1,g2⟩:=ixOf_eq hj (okO_sound ri.fs ri.lr h3 (fun j hj=>hd j (by simp[VOper.locR,VOp.args,hj])))
        obtain⟨f,hf⟩:=vok.glob _ _ _ hgl K W (vok.up hT.1 hT.2 ri.fs.nx) j r hr
        have hrun:=run_indexArr (arrayElem_eq he) h5 hoo g1 g2 (b:=g) (q:=0) rfl W
        refine wp_in (fun d e=>by rw[hoo]at e;cases e) ?_
        unfold Oper.wp
        rw[hrun]
        exact hn _ _ _ _ (ri.val rg ho hvo ok ha hb (.ip _ _ _ _ _ f (fun j d e=>by rw[Nat.zero_add];exact hf.k j d e) hf.c (fun j d e=>(hf.v j d e).pure)))
       ·cases h1
      ·cases h1
     ·cases h1
    ·cases h1
   ·cases h4
  ·cases hop
 ·rename_i f xs
  simp only[okOp]at hop
  simp only[step]at h
  obtain⟨h1,h2⟩:=toR_inv h
  split at hop
  ·rename_i g args ats hoo
   simp only[Bool.and_eq_true,beq_iff_eq]at hop
   obtain⟨⟨rfl,h3⟩,h4⟩:=hop
   refine fin _ _ _ _ (callOk_ny vok.nyf h4) (no_defer hoo) h1 h2 (evs h3 (by simp[VOp.args])) (fun fn g1 g2 g3 => ?_)
   have:=run_call (a:=a) (va := #[]) (vb := #[]) hoo rfl g1 g2 g3 W
   rw[this]
   simp[<- Array.toList_map]
  ·cases hop
end
abbrev PanE (v:Value):List PanicEntry:=[{ v,recovered:=false }]
def Pans (K:Kn) (μ:Mu) (H:Heap) (W:World) (q:D) (H':Heap):Ending -> World -> Prop
 | .panicked ch,W' => ∃ v K' μ',ch=PanE v /\ HR K' μ' H' W' /\ Nx K μ H W K' μ' H' W' /\ VR K' μ' H' q v
 | _,_=>False
def CallSimP (P:Program) (T:Kn -> World -> Prop) (cl:FuncId -> List D -> Heap -> CR):Prop :=
 ∀ (f:FuncId) (args:List D) (H:Heap) (q:D) (H':Heap),cl f args H = .pan q H' -> f≠yF /\ Known P f /\
  ∀ (K:Kn) (μ:Mu) (W:World) (vs:List Value),T K W -> HR K μ H W -> VRs K μ H args vs -> Calls P f vs.toArray W (Pans K μ H W q H')
section
variable {c:CX} {E:En} {nd:List Deferred} {L:Nat -> Option Nat} {K:Kn} {μ:Mu} {sl:List D} {H:Heap} {a:Act} {W:World} {o:Oper} {loc:List D} {done:Nat -> Prop}
theorem toR_invP {sl:List D} {r:CR} {q:D} {hp:Heap} (h:r.toR sl = .p q hp):r = .pan q hp:=by
 cases r<;>cases h
 rfl
theorem pan_step (rg:Reg c) (ri:RI c E nd done L K μ loc sl H a W) {T:Kn -> World -> Prop} (vok:VOK c.P c.V T) (hT:TE T E) {i:Nat} {vo:VOper} (ho:c.ops[i]?=some o) (hvo:c.vos[i]?=some vo) (hd : ∀ j∈vo.locR,done j)
  {cl:FuncId -> List D -> Heap -> CR} (csp:CallSimP c.P T cl) {q:D} {hp:Heap} (h:step c.V cl loc ⟨sl,H⟩ vo.op = .p q hp)
  {next:Act -> World -> Prop} {Q:Exit -> Act -> World -> Prop}
  (hq : ∀ v K' μ' W',FS E c.tm c.bs K' μ' L sl hp a.tmps W' -> VR K' μ' hp q v -> Q (.panic (PanE v)) a W'):o.wp c.P a W next Q:=by
 obtain⟨hok,hrt⟩:=rg.op i o vo ho hvo
 have ok:=okOper_spec hok
 have fin : ∀ (f:FuncId) (args:List D) (vs:List Value),cl f args H = .pan q hp -> VRs K μ H args vs ->
   (∀ fn:Func,c.P.funcs[f]?=some fn -> fn.body.isSome=true -> fn.name≠"runtime.NumGoroutine" -> (execOp a.eval o).run c.P W = .ok (.enter f vs.toArray) W) -> o.wp c.P a W next Q:=fun f args vs h1 h3 h4=>by
  obtain⟨_,⟨fn,g1,g2,g3⟩,hcall⟩:=csp f args H q hp h1
  unfold Oper.wp
  rw[h4 fn g1 g2 g3,Oper.upon_enter]
  refine Calls.mono (hcall K μ W vs (vok.up hT.1 hT.2 ri.fs.nx) ri.fs.hr h3) (fun e w he => ?_)
  cases e with
  | returned v=>exact he.elim
  | panicked ch =>
   obtain⟨v,K',μ',rfl,hr',nx,hv⟩:=he
   exact hq v K' μ' w (ri.fs.go hr' nx) hv
  | outgrown=>exact he.elim
 obtain⟨op,keep,guard⟩:=vo
 have evs : ∀ {xs:List O} {ys:List Operand},okOs c i xs ys=true -> (∀ x∈xs,x∈op.args) -> VRs K μ H (xs.map (O.ev loc sl)) (ys.map a.eval):=fun hk hm=>okOs_sound ri.fs ri.lr hk (fun j hj=>hd j (by
  obtain⟨x,h1,h2⟩:=List.mem_flatMap.1 hj
  simp only[VOper.locR,List.mem_append]
  exact .inl (.inl (List.mem_flatMap.2 ⟨x,hm x h1,h2⟩))))
 have hop:=ok.op
 simp only at h hop
 cases op
 case call f xs =>
  simp only[okOp]at hop
  simp only[step]at h
  have h1:=toR_invP h
  split at hop
  ·rename_i g args ats hoo
   simp only[Bool.and_eq_true,beq_iff_eq]at hop
   obtain⟨⟨rfl,h3⟩,h4⟩:=hop
   refine fin _ _ _ h1 (evs h3 (by simp[VOp.args])) (fun fn g1 g2 g3 => ?_)
   have:=run_call (a:=a) (va := #[]) (vb := #[]) hoo rfl g1 g2 g3 W
   rw[this]
   simp[<- Array.toList_map]
  ·cases hop
 case callp f xs =>
  simp only[okOp]at hop
  simp only[step]at h
  have h1:=toR_invP h
  split at hop
  ·rename_i g args ats hoo
   simp only[Bool.and_eq_true,beq_iff_eq]at hop
   obtain⟨⟨rfl,h3⟩,h4⟩:=hop
   refine fin _ _ _ h1 (evs h3 (by simp[VOp.args])) (fun fn g1 g2 g3 => ?_)
   have:=run_call (a:=a) (va := #[]) (vb := #[]) hoo rfl g1 g2 g3 W
   rw[this]
   simp[<- Array.toList_map]
  ·cases hop
 case calv x xs =>
  simp only[okOp]at hop
  simp only[step]at h
  split at h
  ·rename_i f first captured hx
   split at h
   ·cases h
   have h1:=toR_invP h
   split at hop
   ·rename_i y args ats hoo
    simp only[Bool.and_eq_true]at hop
    have hv:=okO_sound ri.fs ri.lr hop.1 (fun j hj=>hd j (by simp[VOper.locR,VOp.args,hj]))
    rw[hx]at hv
    generalize hy:a.eval y=v at hv
    cases hv with
    | fn _ _ _ _ _ va vb la lb hva hvb =>
     refine fin _ _ (va++args.toList.map a.eval++vb) h1 ((VRs.append ⟨la,hva⟩ (evs hop.2 (by simp +contextual [VOp.args]))).append ⟨lb,hvb⟩) (fun fn g1 g2 g3 => ?_)
     rw[run_call (a:=a) hoo hy g1 g2 g3 W]
     congr 2
     apply Array.ext'
     simp
   ·cases hop
  ·exact((csp _ _ _ _ _ (toR_invP h)).1 rfl).elim
  ·cases h
 case inv x m xs =>
  simp only[okOp]at hop
  simp only[step]at h
  split at h
  ·rename_i t q' hx
   split at h
   ·rename_i f hf
    have h1:=toR_invP h
    split at hop
    ·rename_i y m' args ats hoo
     simp only[Bool.and_eq_true,beq_iff_eq]at hop
     obtain⟨⟨hop1,rfl⟩,hop2⟩:=hop
     have hv:=okO_sound ri.fs ri.lr hop1 (fun j hj=>hd j (by simp[VOper.locR,VOp.args,hj]))
     rw[hx]at hv
     generalize hy:a.eval y=v at hv
     cases hv
     rename_i w hw
     refine fin _ _ ([w]++args.toList.map a.eval) h1 (VRs.append (xs:=[q']) ⟨rfl,fun j d v e e'=>by
      cases j with
      | zero=>cases e;cases e';exact hw
      | succ j=>cases e⟩ (evs hop2 (by simp +contextual [VOp.args]))) (fun fn g1 g2 g3 => ?_)
     rw[run_inv (a:=a) hoo hy ((vok.meth _ _ _ hf).2 w W) g1 g2 g3]
     congr 2
     apply Array.ext'
     simp
    ·cases hop
   ·cases h
  ·cases h
 case pan x =>
  simp only[okOp]at hop
  split at hop
  ·rename_i y hoo
   have hv:=okO_sound ri.fs ri.lr hop (fun j hj=>hd j (by simp[VOper.locR,VOp.args,hj]))
   simp only[step]at h
   generalize x.ev loc sl=dx at h hv
   unfold panD at h
   split at h
   ·cases h
    generalize hy:a.eval y=v at hv
    cases hv
    rename_i tt dd v hv
    have hrun:(execOp a.eval o).run c.P W = .halt (.panic (.iface tt v)) W:=by
     simp[execOp,hoo,hy,run_panic_iface]
    unfold Oper.wp
    rw[hrun]
    exact hq _ K μ W ri.fs (.ifc _ _ _ _ _ hv)
   ·cases h
  ·cases hop
 case cpl f xs =>
  simp only[step]at h
  split at h
  ·split at h
   ·exact(rets_pan (toR_invP h)).elim
   ·cases h
  ·cases h
 case calx f xs =>
  simp only[step]at h
  exact(adds_pan (toR_invP h)).elim
 case calvx x xs =>
  simp only[step]at h
  split at h
  ·split at h
   ·cases h
   ·exact(gros_pan (toR_invP h)).elim
  ·cases h
 all_goals
  exfalso
  simp only[step]at h
  repeat' split at h
  all_goals first
   | (cases h;done)
   | (unfold ofO at h;split at h<;>cases h;done)
   | (unfold ofP at h;split at h<;>cases h;done)
   | (unfold ofH at h;split at h<;>cases h;done)
end
section
variable {c:CX} {E:En} {nd:List Deferred} {L:Nat -> Option Nat} {K:Kn} {μ:Mu} {sl:List D} {H:Heap} {a:Act} {W:World} {o:Oper} {loc:List D} {done:Nat -> Prop}
theorem okOp_defer {c:CX} {i:Nat} {vo:VOper} {cl:Call} (ho:o.op = .defer cl) (h:okOp c i o vo=true):vo.op = .stk:=by
 obtain⟨op,keep,guard⟩:=vo
 cases op<;>first|rfl|(exfalso;simp only[okOp,ho]at h;first|(cases h;done)|(simp at h;done))
theorem not_defer {i:Nat} {vo:VOper} (ok:OpOk c i o vo) {cl:FuncId -> List D -> Heap -> CR} {st:St} (hs:step c.V cl loc st vo.op ≠ .bad) : ∀ q,o.op ≠ .defer q:=fun q e=>hs (by rw[okOp_defer e ok.op];rfl)
theorem one_step (rg:Reg c) (ri:RI c E nd done L K μ loc sl H a W) {T:Kn -> World -> Prop} (vok:VOK c.P c.V T) (hT:TE T E) {cl:FuncId -> List D -> Heap -> CR} (cs:CallSim c.P T cl) {i:Nat} {vo:VOper} (hvo:c.vos[i]?=some vo) (hd : ∀ j∈vo.locR,done j)
  (hfirst:vo.op.isBox=true -> ∀ k,vo.keep=some k -> ∀ j,done j -> c.rt[j]?≠some (some k)) {dr:Option (Bs×Bool)} {loc1:List D} {st1:St} (h:one c.V cl dr c.vos i loc ⟨sl,H⟩=some (loc1,st1))
  {next:Act -> World -> Prop} {Q:Exit -> Act -> World -> Prop} {rd:Option Nat} {m:Nat}
  (hn : ∀ L' K' μ' a' W',RI c E nd (fun j=>j=i \/ done j) L' K' μ' loc1 st1.sl st1.hp a' W' -> next a' W'):wpOpIn (FW rd) m c.P c.ops Q i next a W:=by
 have hi:i<c.ops.size:=by rw[rg.sz];exact lt_of_get hvo
 have ho:c.ops[i]?=some c.ops[i]:=Array.getElem?_eq_getElem hi
 have ok:=okOper_spec (rg.op i _ vo ho hvo).1
 unfold wpOpIn
 rw[ho]
 simp only[one,hvo]at h
 cases hw:vo.wants loc sl with
 | none=>rw[hw]at h;cases h
 | some r =>
  have hwant:=wants_sound ok ri hd hw
  simp only[hwant]
  cases r with
  | false =>
   rw[hw]at h
   cases h
   simp only[Bool.false_eq_true,if_false]
   exact⟨fun _ _=>trivial,hn _ _ _ _ _ (ri.skipped rg ho hvo ok)⟩
  | true =>
   rw[hw]at h
   simp only[if_true]
   cases hf:vo.op.fits dr loc sl with
   | false=>simp only[hf]at h;cases h
   | true =>
    simp only[hf]at h
    cases hs:step c.V cl loc ⟨sl,H⟩ vo.op with
    | v d st1 =>
     simp only[hs]at h
     cases h
     cases hc:vo.op.calls with
     | true=>exact call_step rg ri vok hT ho hvo hd hc cs hs (fun K' μ' v W' r=>hn _ _ _ _ _ r)
     | false=>exact wp_in (not_defer ok (by rw[hs];exact fun e=>by cases e))<|oper_step rg ri ho hvo hd hc hfirst hs (fun L' K' μ' a' W' r=>hn _ _ _ _ _ r)
    | p d hp =>
     simp only[hs]at h
     cases h
    | bad=>simp only[hs]at h;cases h
theorem one_step2 (rg:Reg c) (ri:RI c E nd done L K μ loc sl H a W) {T:Kn -> World -> Prop} (vok:VOK c.P c.V T) (hT:TE T E) {cl:FuncId -> List D -> Heap -> CR} (cs:CallSim c.P T cl) {i:Nat} {o:Oper} {vo:VOper} (ho:c.ops[i]?=some o) (hvo:c.vos[i]?=some vo) (hd : ∀ j∈vo.locR,done j)
  (hb:vo.op.isBox=false) (ha:vo.op.isAddr=false) {dr:Option (Bs×Bool)} {loc1:List D} {st1:St} (h:one c.V cl dr c.vos i loc ⟨sl,H⟩=some (loc1,st1))
  {next:Act -> World -> Prop} {Q:Exit -> Act -> World -> Prop} {rd:Option Nat} {m:Nat}
  (hn : ∀ K' μ' a' W',(∃ v,a'=a.put o.dst v) -> RI c E nd (fun j=>j=i \/ done j) L K' μ' loc1 st1.sl st1.hp a' W' -> next a' W'):wpOpIn (FW rd) m c.P c.ops Q i next a W:=by
 have ok:=okOper_spec (rg.op i _ vo ho hvo).1
 unfold wpOpIn
 rw[ho]
 simp only[one,hvo]at h
 cases hw:vo.wants loc sl with
 | none=>rw[hw]at h;cases h
 | some r =>
  have hwant:=wants_sound ok ri hd hw
  simp only[hwant]
  cases r with
  | false =>
   rw[hw]at h
   cases h
   simp only[Bool.false_eq_true,if_false]
   refine⟨fun _ _=>trivial, ?_⟩
   exact hn _ _ _ _ ⟨_,rfl⟩ (ri.skipped rg ho hvo ok)
  | true =>
   rw[hw]at h
   simp only[if_true]
   cases hf:vo.op.fits dr loc sl with
   | false=>simp only[hf]at h;cases h
   | true =>
    simp only[hf]at h
    cases hs:step c.V cl loc ⟨sl,H⟩ vo.op with
    | v d st1 =>
     simp only[hs]at h
     cases h
     cases hc:vo.op.calls with
     | true=>exact call_step rg ri vok hT ho hvo hd hc cs hs (fun K' μ' v W' r=>hn _ _ _ _ ⟨v,rfl⟩ r)
     | false =>
      refine wp_in (not_defer ok (by rw[hs];exact fun e=>by cases e)) ?_
      unfold Oper.wp
      obtain⟨K',μ',W',n,hrun,fs',hext,hsz,hres⟩:=op_sound ri.fs ri.lr ok.op (fun j hj=>hd j (by simp only[VOper.locR];exact List.mem_append_left _ hj)) hc hb ha hs
      rw[hrun]
      have ri':=ri.go fs' hext
      rcases hres with⟨v,rfl,hv⟩|⟨rfl,rfl⟩
      ·exact hn _ _ _ _ ⟨_,rfl⟩ (ri'.val rg ho hvo ok ha hb hv)
      ·exact hn _ _ _ _ ⟨_,rfl⟩ (ri'.val rg ho hvo ok ha hb (.u ..))
    | p d hp =>
     simp only[hs]at h
     cases h
    | bad=>simp only[hs]at h;cases h
theorem text_order (rg:Reg c) {T:Kn -> World -> Prop} (vok:VOK c.P c.V T) (hT:TE T E) {cl:FuncId -> List D -> Heap -> CR} (cs:CallSim c.P T cl) (back : ∀ (i:Nat) (vo:VOper),c.vos[i]?=some vo -> ∀ j∈vo.locR,j<i)
  (hfirst : ∀ (i:Nat) (vo:VOper),c.vos[i]?=some vo -> vo.op.isBox=true -> ∀ k,vo.keep=some k -> ∀ j,j<i -> c.rt[j]?≠some (some k)) {st':St} {Q:Exit -> Act -> World -> Prop} {rd:Option Nat} {m:Nat}
  (hQ : ∀ L' K' μ' a' W',FS E c.tm c.bs K' μ' L' st'.sl st'.hp a'.tmps W' -> a'.tmps.size=c.nt -> a'.defers=nd -> Q .normal a' W') :
  ∀ (n i:Nat) (L:Nat -> Option Nat) (K:Kn) (μ:Mu) (loc sl:List D) (H:Heap) (a:Act) (W:World),i+n=c.vos.length -> RI c E nd (fun j=>j<i) L K μ loc sl H a W -> opsL c.V cl none c.vos (List.range' i n) loc ⟨sl,H⟩=(.nm,st') ->
   wpOpsIn (FW rd) m c.P c.ops Q (List.range' i n) a W:=by
 intro n
 induction n with
 | zero =>
  intro i L K μ loc sl H a W _ ri h
  simp only[List.range'_zero,opsL,Prod.mk.injEq,true_and]at h
  subst h
  exact hQ _ _ _ _ _ ri.fs ri.sz ri.df
 | succ n ih =>
  intro i L K μ loc sl H a W hin ri h
  rw[List.range'_succ]at h ⊢
  rw[wpOpsIn_cons]
  have hi:i<c.vos.length:=by omega
  have hvo:c.vos[i]?=some c.vos[i]:=List.getElem?_eq_getElem hi
  rw[opsL_cons]at h
  obtain⟨loc1,st1,h1,h2⟩:=h
  refine one_step rg ri vok hT cs hvo (back i _ hvo) (fun hb k hk j hj=>hfirst i _ hvo hb k hk j hj) h1 (fun L' K' μ' a' W' r => ?_)
  refine ih (i+1) L' K' μ' loc1 st1.sl st1.hp a' W' (by omega) ?_ h2
  exact⟨r.fs,fun j o' vo' t' hj=>r.lr j o' vo' t' (by omega),r.sz,r.df,r.ln⟩
theorem text_order_p (rg:Reg c) {T:Kn -> World -> Prop} (vok:VOK c.P c.V T) (hT:TE T E) {cl:FuncId -> List D -> Heap -> CR} (cs:CallSim c.P T cl) (csp:CallSimP c.P T cl) (back : ∀ (i:Nat) (vo:VOper),c.vos[i]?=some vo -> ∀ j∈vo.locR,j<i)
  (hfirst : ∀ (i:Nat) (vo:VOper),c.vos[i]?=some vo -> vo.op.isBox=true -> ∀ k,vo.keep=some k -> ∀ j,j<i -> c.rt[j]?≠some (some k)) {q:D} {st':St} {Q:Exit -> Act -> World -> Prop} {rd:Option Nat} {m:Nat}
  (hQ : ∀ v L' K' μ' a' W',FS E c.tm c.bs K' μ' L' st'.sl st'.hp a'.tmps W' -> a'.tmps.size=c.nt -> a'.defers=nd -> VR K' μ' st'.hp q v -> Q (.panic (PanE v)) a' W') :
  ∀ (n i:Nat) (L:Nat -> Option Nat) (K:Kn) (μ:Mu) (loc sl:List D) (H:Heap) (a:Act) (W:World),i+n=c.vos.length -> RI c E nd (fun j=>j<i) L K μ loc sl H a W -> opsL c.V cl none c.vos (List.range' i n) loc ⟨sl,H⟩=(.pn q,st') ->
   wpOpsIn (FW rd) m c.P c.ops Q (List.range' i n) a W:=by
 intro n
 induction n with
 | zero =>
  intro i L K μ loc sl H a W _ ri h
  simp only[List.range'_zero,opsL,Prod.mk.injEq,reduceCtorEq,false_and]at h
 | succ n ih =>
  intro i L K μ loc sl H a W hin ri h
  rw[List.range'_succ]at h ⊢
  rw[wpOpsIn_cons]
  have hi:i<c.vos.length:=by omega
  have hvo:c.vos[i]?=some c.vos[i]:=List.getElem?_eq_getElem hi
  rcases opsL_pn h with⟨loc1,st1,h1,h2⟩|⟨vo,hp,h1,h2,h3,rfl⟩
  ·refine one_step rg ri vok hT cs hvo (back i _ hvo) (fun hb k hk j hj=>hfirst i _ hvo hb k hk j hj) h1 (fun L' K' μ' a' W' r => ?_)
   refine ih (i+1) L' K' μ' loc1 st1.sl st1.hp a' W' (by omega) ?_ h2
   exact⟨r.fs,fun j o' vo' t' hj=>r.lr j o' vo' t' (by omega),r.sz,r.df,r.ln⟩
  ·rw[hvo]at h1
   cases h1
   have hic:i<c.ops.size:=by rw[rg.sz];exact hi
   have ho:c.ops[i]?=some c.ops[i]:=Array.getElem?_eq_getElem hic
   have ok:=okOper_spec (rg.op i _ _ ho hvo).1
   have hwant:=wants_sound ok ri (back i _ hvo) h2
   unfold wpOpIn
   rw[ho]
   simp only[hwant,if_true]
   exact wp_in (not_defer ok (by rw[h3];exact fun e=>by cases e))<|pan_step rg ri vok hT ho hvo (back i _ hvo) csp h3 (fun v K' μ' W' fs hv=>hQ v L K' μ' a W' fs ri.sz ri.df hv)
end
theorem nodup_spec : ∀ {xs:List Nat},nodup xs=true -> ∀ (k k' t:Nat),xs[k]?=some t -> xs[k']?=some t -> k=k'
  | [],_,k,k',t,h,_=>by simp at h
  | x :: xs,h,k,k',t,e,e'=>by
    simp only[nodup,Bool.and_eq_true,Bool.not_eq_true']at h
    have hx : ∀ j:Nat,xs[j]?≠some x:=fun j=>not_tm h.1 j
    cases k with
    | zero =>
      cases k' with
      | zero=>rfl
      | succ k'=>cases e;exact(hx k' (by simpa using e')).elim
    | succ k =>
      cases k' with
      | zero=>cases e';exact(hx k (by simpa using e)).elim
      | succ k'=>exact congrArg (· + 1) (nodup_spec h.2 k k' t (by simpa using e) (by simpa using e'))
theorem freshDsts_spec {tm:List Nat} : ∀ {os:List Oper} {seen:List Nat},freshDsts tm os seen=true ->
    (∀ (i:Nat) (o:Oper) (t:Nat),os[i]?=some o -> o.dst=some t -> tm.contains t=false -> seen.contains t=false) /\
    ∀ (i j:Nat) (o o':Oper) (t:Nat),os[i]?=some o -> os[j]?=some o' -> o.dst=some t -> o'.dst=some t -> tm.contains t=false -> i=j
  | [],_,_=>⟨fun i o t e=>by simp at e,fun i j o o' t e=>by simp at e⟩
  | o :: os, seen,h=>by
    unfold freshDsts at h
    split at h
    · rename_i hd
      obtain⟨h1,h2⟩:=freshDsts_spec h
      refine⟨fun i o' t e e' => ?_,fun i j o1 o2 t e1 e2 d1 d2 ht => ?_⟩
      · cases i with
        | zero=>cases e;rw[hd]at e';cases e'
        | succ i=>exact h1 i o' t (by simpa using e) e'
      · cases i with
        | zero=>cases e1;rw[hd]at d1;cases d1
        | succ i =>
          cases j with
          | zero=>cases e2;rw[hd]at d2;cases d2
          | succ j=>exact congrArg (· + 1) (h2 i j o1 o2 t (by simpa using e1) (by simpa using e2) d1 d2 ht)
    · rename_i t0 hd
      split at h
      · rename_i hin
        obtain⟨h1,h2⟩:=freshDsts_spec h
        refine⟨fun i o' t e e' ht => ?_,fun i j o1 o2 t e1 e2 d1 d2 ht => ?_⟩
        · cases i with
          | zero=>cases e;rw[hd]at e';cases e';rw[hin]at ht;cases ht
          | succ i=>exact h1 i o' t (by simpa using e) e' ht
        · cases i with
          | zero=>cases e1;rw[hd]at d1;cases d1;rw[hin]at ht;cases ht
          | succ i =>
            cases j with
            | zero=>cases e2;rw[hd]at d2;cases d2;rw[hin]at ht;cases ht
            | succ j=>exact congrArg (· + 1) (h2 i j o1 o2 t (by simpa using e1) (by simpa using e2) d1 d2 ht)
      · simp only[Bool.and_eq_true,Bool.not_eq_true']at h
        obtain⟨h1,h2⟩:=freshDsts_spec h.2
        have hno : ∀ (i:Nat) (o':Oper),os[i]?=some o' -> o'.dst=some t0 -> tm.contains t0=false -> False:=fun i o' e e' ht=>by
          have:=h1 i o' t0 e e' ht
          simp at this
        refine⟨fun i o' t e e' ht => ?_,fun i j o1 o2 t e1 e2 d1 d2 ht => ?_⟩
        · cases i with
          | zero=>cases e;rw[hd]at e';cases e';exact h.1
          | succ i =>
            have:=h1 i o' t (by simpa using e) e' ht
            simp only[List.contains_cons,Bool.or_eq_false_iff]at this
            exact this.2
        · cases i with
          | zero =>
            cases e1;rw[hd]at d1;cases d1
            cases j with
            | zero=>rfl
            | succ j=>exact(hno j o2 (by simpa using e2) d2 ht).elim
          | succ i =>
            cases j with
            | zero=>cases e2;rw[hd]at d2;cases d2;exact(hno i o1 (by simpa using e1) d1 ht).elim
            | succ j=>exact congrArg (· + 1) (h2 i j o1 o2 t (by simpa using e1) (by simpa using e2) d1 d2 ht)
def cxOf (P:Program) (V:VProg) (nt:Nat) (tm bs:List Nat) (ops:Array Oper) (vos:List VOper):CX:={ P,V,nt,tm,bs,ops,vos,rt:=rootsOf vos }
theorem reg_of {P:Program} {V:VProg} {nt:Nat} {tm bs:List Nat} {ops:Array Oper} {draw:Option Bool} {vos:List VOper} (h:okRegion P V nt tm bs ops draw vos=true) (htm:nodup tm=true) (hlt : ∀ t∈tm,t<nt) :
  Reg (cxOf P V nt tm bs ops vos) /\ (∀ (i:Nat) (vo:VOper),vos[i]?=some vo -> ∀ j∈vo.locR,j<i) /\
  (∀ (i:Nat) (vo:VOper),vos[i]?=some vo -> vo.op.isBox=true -> ∀ k,vo.keep=some k -> ∀ j,j<i -> (rootsOf vos)[j]?≠some (some k)) /\
  (∀ s,draw=some s -> (drawOk V s (rootsOf vos) (Region.before ops) vos=true /\ edgesBack ops=true) \/ halOk P V nt tm bs ops s vos=true):=by
 simp only[okRegion,okReg0,Bool.and_eq_true,beq_iff_eq,List.all_eq_true,List.mem_range]at h
 obtain⟨⟨⟨⟨⟨h1,h2⟩,h3⟩,h4⟩,h5⟩,h6⟩:=h
 have hop : ∀ (i:Nat) (o:Oper) (vo:VOper),ops[i]?=some o -> vos[i]?=some vo -> okOper (cxOf P V nt tm bs ops vos) i o vo=true /\ (rootsOf vos)[i]?=some (rootStep (rootsOf vos) vo) /\ ∀ j∈vo.locR,j<i:=fun i o vo ho hvo=>by
  have:=h3 i (lt_of_get hvo)
  rw[ho,hvo]at this
  simp only[Bool.and_eq_true,beq_iff_eq,List.all_eq_true,decide_eq_true_eq]at this
  exact⟨this.1.1,this.1.2,this.2⟩
 have hop' : ∀ (i:Nat) (vo:VOper),vos[i]?=some vo -> ∃ o,ops[i]?=some o:=fun i vo hvo=>⟨_,Array.getElem?_eq_getElem (by rw[h1];exact lt_of_get hvo)⟩
 refine ⟨⟨h1,h2,fun i o vo ho hvo=>⟨(hop i o vo ho hvo).1,(hop i o vo ho hvo).2.1⟩,fun i j o o' t e1 e2=>(freshDsts_spec h4).2 i j o o' t (by rw[Array.getElem?_toList];exact e1) (by rw[Array.getElem?_toList];exact e2),nodup_spec htm,fun k t e=>hlt t (List.mem_of_getElem? e)⟩,
  fun i vo hvo=>by obtain⟨o,ho⟩:=hop' i vo hvo;exact(hop i o vo ho hvo).2.2,fun i vo hvo hb k hk j hj => ?_,fun s hs=>by subst hs;simpa using h6⟩
 simp only[boxesFirst,List.all_eq_true,List.mem_range]at h5
 have:=h5 i (lt_of_get hvo)
 rw[hvo]at this
 simp only[hb,hk,Bool.not_true,Bool.false_or,List.all_eq_true,List.mem_range,bne_iff_ne]at this
 exact this j hj
def After (E:En) (tm bs:List Nat) (nt:Nat) (nd:List Deferred) (st:St) (a:Act) (W:World):Prop :=
 ∃ L K μ,FS E tm bs K μ L st.sl st.hp a.tmps W /\ a.tmps.size=nt /\ a.defers=nd
def PostOf (ex:Ex) (R:Act -> World -> Prop):Exit -> Act -> World -> Prop
 | .normal,a,w=>ex = .nm /\ R a w
 | .exit id,a,w=>ex = .ex id /\ R a w
 | .ret,a,w=>ex = .rt /\ R a w
 | _,_,_=>False
def AfterP (E:En) (tm bs:List Nat) (nt:Nat) (nd:List Deferred) (st:St) (q:D) (v:Value) (a:Act) (W:World):Prop :=
 ∃ L K μ,FS E tm bs K μ L st.sl st.hp a.tmps W /\ a.tmps.size=nt /\ a.defers=nd /\ VR K μ st.hp q v
def PostP (ex:Ex) (R:Act -> World -> Prop) (Rp:D -> Value -> Act -> World -> Prop):Exit -> Act -> World -> Prop
 | .normal,a,w=>ex = .nm /\ R a w
 | .exit id,a,w=>ex = .ex id /\ R a w
 | .ret,a,w=>ex = .rt /\ R a w
 | .panic ch,a,w => ∃ q v,ex = .pn q /\ ch=PanE v /\ Rp q v a w
 | _,_,_=>False
theorem least {p:Nat -> Prop} (h : ∃ n,p n) : ∃ n,p n /\ ∀ k,k<n -> ¬ p k:=by
 obtain⟨n,hn⟩:=h
 induction n using Nat.strongRecOn with
 | ind n ih =>
  by_cases hk : ∃ k,k<n /\ p k
  ·obtain⟨k,h1,h2⟩:=hk
   exact ih k h1 h2
  ·exact⟨n,hn,fun k h1 h2=>hk ⟨k,h1,h2⟩⟩
def Ex.good:Ex -> Bool
 | .nm | .ex _ | .rt | .pn _=>true
 | _=>false
def Drawn (P:Program) (V:VProg) (T:Kn -> World -> Prop) (cl:FuncId -> List D -> Heap -> CR) (nt:Nat) (tm bs:List Nat) (rd:Option Nat):Prop :=
 ∀ (E:En) (nd:List Deferred) (id:Nat) (ops:Array Oper) (strict:Bool) (vos:List VOper) (sl:List D) (H:Heap) (ex:Ex) (st':St) (a:Act) (W:World),TE T E -> okRegion P V nt tm bs ops (some strict) vos=true ->
  Dm.ops V cl (some (bsOf strict vos sl H,strict)) vos [] ⟨sl,H⟩=(ex,st') -> ex.good=true -> After E tm bs nt nd ⟨sl,H⟩ a W -> ∀ m,(Code.region id ops true).wpIn (FW rd) m P (PostP ex (After E tm bs nt nd st') (AfterP E tm bs nt nd st')) a W
theorem ops_good {V:VProg} {cl:FuncId -> List D -> Heap -> CR} {dr:Option (Bs×Bool)} : ∀ {os:List VOper} {loc:List D} {st st':St} {ex:Ex},ops V cl dr os loc st=(ex,st') -> ex.good=true -> ex = .nm \/ (∃ q,ex = .pn q)
 | [],_,_,_,_,h,_=>by cases h;exact .inl rfl
 | o :: os,loc,st,st',ex,h,hg=>by
  unfold ops at h
  split at h
  ·split at h
   ·split at h
    ·exact ops_good h hg
    ·split at h
     ·cases h;exact .inr ⟨_,rfl⟩
     ·cases h;cases hg
    ·cases h;cases hg
   ·cases h;cases hg
  ·exact ops_good h hg
  ·cases h;cases hg
def Ex.fin:Ex -> Bool
 | .nm | .ex _ | .rt=>true
 | _=>false
theorem ops_fin {V:VProg} {cl:FuncId -> List D -> Heap -> CR} {dr:Option (Bs×Bool)} {os:List VOper} {loc:List D} {st st':St} {ex:Ex} (h:ops V cl dr os loc st=(ex,st')) (hg:ex.fin=true):ex = .nm:=by
 rcases ops_good h (by cases ex<;>first|rfl|cases hg)with rfl|⟨q,rfl⟩
 ·rfl
 ·cases hg
theorem exec_sim {P:Program} {V:VProg} {T:Kn -> World -> Prop} {cl:FuncId -> List D -> Heap -> CR} {nt:Nat} {tm bs:List Nat} (vok:VOK P V T) (cs:CallSim P T cl) (csp:CallSimP P T cl) (htm:nodup tm=true) (hlt : ∀ t∈tm,t<nt) {rd:Option Nat} {m:Nat} (dr:Drawn P V T cl nt tm bs rd) (E:En) (hT:TE T E) (nd:List Deferred) (n:Nat) :
    ∀ (vc:VCode) (code:Code),okCode P V nt tm bs code vc=true -> ∀ (st st':St) (ex:Ex) (a:Act) (W:World),exec V cl n vc st=(ex,st') -> ex.good=true -> After E tm bs nt nd st a W -> code.wpIn (FW rd) m P (PostP ex (After E tm bs nt nd st') (AfterP E tm bs nt nd st')) a W:=by
  intro vc
  induction vc with
  | skip =>
    intro code hok st st' ex a W h hg hA
    cases code<;>simp only[okCode]at hok<;>first|(cases hok;done)|skip
    cases h
    exact wpIn_skip ⟨rfl,hA⟩
  | rng j x =>
    intro code hok st st' ex a W h hg hA
    cases code<;>simp only[okCode]at hok<;>cases hok
  | stuck =>
    intro code hok st st' ex a W h hg hA
    cases h
    cases hg
  | ret =>
    intro code hok st st' ex a W h hg hA
    cases code<;>simp only[okCode]at hok<;>first|(cases hok;done)|skip
    cases h
    exact wpIn_ret ⟨rfl,hA⟩
  | exit id =>
    intro code hok st st' ex a W h hg hA
    cases code<;>simp only[okCode]at hok<;>first|(cases hok;done)|skip
    simp only[beq_iff_eq]at hok
    subst hok
    cases h
    exact wpIn_exit ⟨rfl,hA⟩
  | reg os draw =>
    intro code hok st st' ex a W h hg hA
    cases code<;>simp only[okCode]at hok<;>first|(cases hok;done)|skip
    rename_i id opers drw
    simp only[Bool.and_eq_true,beq_iff_eq]at hok
    obtain⟨hd,hok⟩:=hok
    simp only[exec]at h
    have hex:=ops_good h hg
    cases draw with
    | some s =>
      simp only[Option.isSome_some]at hd
      subst hd
      obtain⟨sl,H⟩:=st
      exact dr E nd id opers s os sl H ex st' a W hT hok h hg hA m
    | none =>
      simp only[Option.isSome_none]at hd
      subst hd
      obtain⟨rg,back,hfirst,_⟩:=reg_of hok htm hlt
      obtain⟨L,K,μ,fs,hs,hdf⟩:=hA
      obtain⟨sl,H⟩:=st
      refine wpIn_region ?_
      have hl:=ops_list V cl none os [] [] ⟨sl,H⟩ rfl
      simp only[List.nil_append,List.length_nil]at hl
      rw[hl]at h
      rcases hex with rfl|⟨q,rfl⟩
      case inr =>
        have:=text_order_p (rd:=rd) (m:=m) (nd:=nd) (E:=E) rg vok hT cs csp back hfirst (q:=q) (st':=st') (Q:=PostP (.pn q) (After E tm bs nt nd st') (AfterP E tm bs nt nd st')) (fun v L' K' μ' a' W' f1 f2 f3 f4=>⟨q,v,rfl,rfl,L',K',μ',f1,f2,f3,f4⟩)
          os.length 0 L K μ (List.replicate os.length .u) sl H a W (by simp[cxOf]) ⟨fs,fun j o vo t hj=>absurd hj (by omega),hs,hdf,by simp[cxOf]⟩ h
        rw[<- List.range_eq_range',show os.length=opers.size from rg.sz.symm]at this
        exact this
      have:=text_order (rd:=rd) (m:=m) (nd:=nd) (E:=E) rg vok hT cs back hfirst (st':=st') (Q:=PostP .nm (After E tm bs nt nd st') (AfterP E tm bs nt nd st')) (fun L' K' μ' a' W' f1 f2 f3=>⟨rfl,L',K',μ',f1,f2,f3⟩)
        os.length 0 L K μ (List.replicate os.length .u) sl H a W (by simp[cxOf]) ⟨fs,fun j o vo t hj=>absurd hj (by omega),hs,hdf,by simp[cxOf]⟩ h
      rw[<- List.range_eq_range',show os.length=opers.size from rg.sz.symm]at this
      exact this
  | seq x y ihx ihy =>
    intro code hok st st' ex a W h hg hA
    cases code<;>simp only[okCode]at hok<;>first|(cases hok;done)|skip
    simp only[Bool.and_eq_true]at hok
    simp only[exec]at h
    cases hx:exec V cl n x st with
    | mk ex1 st1 =>
      rw[hx]at h
      cases hn:ex1 with
      | nm =>
        subst hn
        simp only at h
        refine wpIn_seq (wpIn_mono (ihx _ hok.1 st st1 .nm a W hx rfl hA) (fun e a' w' hq => ?_))
        cases e<;>simp only[PostP]at hq<;>first|(exact ihy _ hok.2 st1 st' ex a' w' h hg hq.2)|(exact hq.elim)|(cases hq.1;done)|(obtain⟨_,_,hx,_⟩:=hq;cases hx)
      | _ =>
        subst hn
        simp only[Prod.mk.injEq]at h
        obtain⟨rfl,rfl⟩:=h
        first
          | (cases hg;done)
          | (refine wpIn_seq (wpIn_mono (ihx _ hok.1 st st1 _ a W hx rfl hA) (fun e a' w' hq => ?_))
             cases e<;>first|(exact(show False from hq).elim)|(cases hq.1;done)|(exact hq))
  | cond cnd t e iht ihe =>
    intro code hok st st' ex a W h hg hA
    cases code<;>simp only[okCode]at hok<;>first|(cases hok;done)|skip
    simp only[Bool.and_eq_true]at hok
    obtain⟨⟨h0,h1⟩,h2⟩:=hok
    simp only[exec]at h
    have hv : ∃ K μ,VR K μ st.hp (cnd.ev [] st.sl) (a.eval ‹Operand›):=by
      obtain⟨L,K,μ,fs,hs,hdf⟩:=hA
      exact⟨K,μ,okO_sound (c:={ P,V,nt,tm,bs,ops := #[],vos:=[],rt:=[] }) (done:=fun _=>True) fs (fun i o vo t _ e=>by simp at e) h0 (fun _ _=>trivial)⟩
    obtain⟨K,μ,hv⟩:=hv
    split at h
    · rename_i hc
      rw[hc]at hv
      exact wpIn_cond_true hv.b_inv (iht _ h1 st st' ex a W h hg hA)
    · rename_i hc
      rw[hc]at hv
      exact wpIn_cond_false hv.b_inv (ihe _ h2 st st' ex a W h hg hA)
    · cases h;cases hg
  | block id x ih =>
    intro code hok st st' ex a W h hg hA
    cases code<;>simp only[okCode]at hok<;>first|(cases hok;done)|skip
    simp only[Bool.and_eq_true,beq_iff_eq]at hok
    obtain⟨rfl,hok⟩:=hok
    simp only[exec]at h
    cases hx:exec V cl n x st with
    | mk ex1 st1 =>
      rw[hx]at h
      have hg1:ex1.good=true:=by
        cases ex1<;>simp only at h<;>first|rfl|(cases h;exact hg)
      refine wpIn_block (wpIn_mono (ih _ hok st st1 ex1 a W hx hg1 hA) (fun e a' w' hq => ?_))
      cases e with
      | normal=>obtain⟨rfl,hq⟩:=hq;cases h;exact⟨rfl,hq⟩
      | ret=>obtain⟨rfl,hq⟩:=hq;cases h;exact⟨rfl,hq⟩
      | exit id' =>
        obtain⟨rfl,hq⟩:=hq
        simp only[Exit.inBlock]
        simp only at h
        split at h
        · rename_i he;subst he;cases h;rw[if_pos rfl];exact⟨rfl,hq⟩
        · rename_i he;cases h;rw[if_neg he];exact⟨rfl,hq⟩
      | panic ch=>obtain⟨q,v,rfl,rfl,hq⟩:=hq;cases h;exact⟨q,v,rfl,rfl,hq⟩
      | _=>exact hq.elim
  | loop x ih =>
    intro code hok st st' ex a W h hg hA
    cases code<;>simp only[okCode]at hok<;>first|(cases hok;done)|skip
    rename_i cx
    simp only[exec]at h
    let p:Act -> World -> Nat -> Prop:=fun a w m => ∃ s,After E tm bs nt nd s a w /\ iter (exec V cl n x) m s=(ex,st')
    let f:Act -> World -> Nat:=fun a w=>open Classical in if hp : ∃ m,p a w m then Classical.choose (least hp)else 0
    have hf : ∀ a w m,p a w m -> p a w (f a w) /\ f a w <= m:=fun a w m hm=>by
      have hp : ∃ m,p a w m:=⟨m,hm⟩
      have hs:=Classical.choose_spec (least hp)
      have he:f a w=Classical.choose (least hp):=dif_pos hp
      rw[he]
      exact⟨hs.1,Nat.le_of_not_lt fun hlt=>hs.2 m hlt hm⟩
    refine wpIn_loop (fun a w => ∃ m,p a w m) f ⟨n,st,hA,h⟩ (fun a w ⟨m,hm⟩ => ?_)
    obtain⟨⟨s,hAs,hit⟩,hle⟩:=hf a w m hm
    generalize hfm:f a w=q at hit
    cases q with
    | zero=>simp only[iter]at hit;cases hit;cases hg
    | succ q =>
      simp only[iter]at hit
      cases hx:exec V cl n x s with
      | mk ex1 s1 =>
        rw[hx]at hit
        cases hn:ex1 with
        | nm =>
          subst hn
          simp only at hit
          refine wpIn_mono (ih _ hok s s1 .nm a w hx rfl hAs) (fun e a' w' hq => ?_)
          cases e<;>simp only[PostP]at hq<;>first
            | (exact⟨⟨q,s1,hq.2,hit⟩,by have:=(hf a' w' q ⟨s1,hq.2,hit⟩).2;omega⟩)
            | (exact hq.elim)
            | (cases hq.1;done)
            | (obtain⟨_,_,hx,_⟩:=hq;cases hx)
        | _ =>
          subst hn
          simp only[Prod.mk.injEq]at hit
          obtain⟨rfl,rfl⟩:=hit
          first
            | (cases hg;done)
            | (refine wpIn_mono (ih _ hok s s1 _ a w hx rfl hAs) (fun e a' w' hq => ?_)
               cases e<;>first|(exact(show False from hq).elim)|(cases hq.1;done)|(exact hq))
section
variable {E:En} {tm bs:List Nat} {L:Nat -> Option Nat} {K:Kn} {μ:Mu} {sl:List D} {H:Heap} {a:Act} {W:World}
def resVar (tmps:Array Value):ResultVar -> Sem Value
 | .tmp t=>pure (tmps.getD t undef)
 | .cell b t=>do loadVar t (<- asAddr (tmps.getD b undef))
theorem res_one {P:Program} (fs:FS E tm bs K μ L sl H a.tmps W) {r:ResultVar} {q:RSpec} (h:okRes P tm bs [r] [q]=true) {d:D} (hd:q.ev ⟨sl,H⟩=some d) :
  ∃ v,(resVar a.tmps r).run P W = .ok v W /\ VR K μ H d v:=by
 cases r with
 | tmp t =>
  cases q with
  | s k =>
   simp only[okRes,Bool.and_eq_true,beq_iff_eq,Bool.not_eq_true',and_true]at h
   obtain⟨d',v,e1,e2,e3⟩:=fs.val k t h.1 h.2
   simp only[RSpec.ev]at hd
   rw[e1]at hd;cases hd
   exact⟨v,by simp[resVar,getD_eq e2],e3⟩
  | _=>simp[okRes]at h
 | cell b t =>
  cases q with
  | s k=>simp[okRes]at h
  | bx k n agg =>
   simp only[okRes,Bool.and_eq_true,beq_iff_eq,and_true]at h
   obtain⟨⟨⟨h1,h2⟩,h3⟩,h4⟩:=h
   simp only[RSpec.ev]at hd
   split at hd
   ·rename_i cs hb
    split at hd
    ·rename_i hn
     have hL : ∃ r,L k=some r /\ a.tmps[b]?=some (.pointer (some ⟨r,0,none⟩)):=by
      rcases fs.box k b h1 h2 with x|⟨r,cs',vs,ty,g1,g2,g3,g4,g5⟩
      ·simp only[boxAt]at hb;rw[x]at hb;cases hb
      ·exact⟨r,g1,g3⟩
     obtain⟨r,hL,hp⟩:=hL
     obtain⟨vs,ty,hW,hc⟩:=boxAt_sound (c:={ P,V:=⟨fun _=>none,fun _ _=>none,fun _ _ _=>none,fun _ _=>none,fun _=>none,fun _=>none⟩,nt:=0,tm,bs,ops := #[],vos:=[],rt:=[] }) fs hb hL
     obtain ⟨v,hrun,hv⟩:=run_loadVar (P:=P) (W:=W) h3 h4 (hc.1.1.symm.trans hn) hc hd ⟨r,0,none⟩ (fun j v e=>by
      rw[add_none,cell_of_row W r _ vs ty _ hW]
      simpa using e)
     exact⟨v,by simp[resVar,getD_eq hp,asAddr,hrun],hv⟩
    ·cases hd
   ·cases hd
  | hb k n agg =>
   simp only[okRes,Bool.and_eq_true,beq_iff_eq,Bool.not_eq_true',and_true]at h
   obtain⟨⟨⟨h1,h2⟩,h3⟩,h4⟩:=h
   simp only[RSpec.ev]at hd
   split at hd
   ·rename_i d' hk
    split at hd
    ·rename_i cs hl
     obtain⟨d2,v,e1,e2,e3⟩:=fs.val k b h1 h2
     rw[e1]at hk;cases hk
     obtain⟨bb,q,vs,hp,hn,hc,hcell⟩:=ldAt_sound fs.hr hl e3
     obtain⟨u,hrun,hv⟩:=run_loadVar (P:=P) (W:=W) h3 h4 (hc.1.1.symm.trans hn) hc hd ⟨bb,q,none⟩ (fun j v e=>by rw[add_none];exact hcell j v e)
     exact⟨u,by simp[resVar,getD_eq e2,hp,asAddr,hrun],hv⟩
    ·cases hd
   ·cases hd
theorem res_all {P:Program} (fs:FS E tm bs K μ L sl H a.tmps W) : ∀ {rs:List ResultVar} {qs:List RSpec},okRes P tm bs rs qs=true -> ∀ {ds:List D},resAll ⟨sl,H⟩ qs=some ds ->
  ∃ vs,(rs.mapM (resVar a.tmps)).run P W = .ok vs W /\ VRs K μ H ds vs
 | [],[],_,ds,h=>by
  cases h
  exact⟨[],by simp,rfl,fun j d v e=>by simp at e⟩
 | [],_::_,h,_,_=>by simp[okRes]at h
 | r::_,[],h,_,_=>by cases r<;>simp[okRes]at h
 | r :: rs,q::qs,h,ds,hd=>by
  have h1:okRes P tm bs [r] [q]=true /\ okRes P tm bs rs qs=true:=by
   cases r<;>cases q<;>simp_all[okRes]
  unfold resAll at hd
  split at hd
  ·rename_i d hq
   split at hd
   ·rename_i ds' hqs
    cases hd
    obtain⟨v,g1,g2⟩:=res_one fs h1.1 hq
    obtain⟨vs,g3,g4⟩:=res_all fs h1.2 hqs
    refine⟨v::vs,by simp only[List.mapM_cons,Sem.run_bind,g1,g3,Result.andThen_ok,Sem.run_pure],by simp[g4.1],fun j d' v' e e' => ?_⟩
    cases j with
    | zero=>cases e;cases e';exact g2
    | succ j=>exact g4.2 j d' v' (by simpa using e) (by simpa using e')
   ·cases hd
  ·cases hd
theorem res_sound {P:Program} (fs:FS E tm bs K μ L sl H a.tmps W) {fn:Func} {qs:List RSpec} (h:okRes P tm bs fn.results.toList qs=true) {ds:List D} (hd:resAll ⟨sl,H⟩ qs=some ds) :
  ∃ v,(results fn a.tmps).run P W = .ok v W /\ VR K μ H (oneOr ds) v:=by
 obtain⟨vs,h1,h2⟩:=res_all fs h hd
 have h1':(fn.results.mapM (resVar a.tmps)).run P W = .ok vs.toArray W:=by
  rw[Array.mapM_eq_mapM_toList]
  simp only[Sem.run_map,h1,Result.andThen_ok]
 have hrun:(results fn a.tmps).run P W = .ok (if h:vs.toArray.size=1 then vs.toArray[0]else .tuple vs.toArray) W:=by
  have:results fn a.tmps=(do
   let vs <- fn.results.mapM (resVar a.tmps)
   pure (if h:vs.size=1 then vs[0]else .tuple vs)):=by
   unfold results
   congr 1
  rw[this,Sem.run_bind,h1']
  rfl
 refine⟨_,hrun, ?_⟩
 cases ds with
 | nil =>
  have:vs=[]:=by have:=h2.1;simpa using this.symm
  subst this
  exact .tu _ _ [] [] rfl h2.2
 | cons d ds =>
  cases ds with
  | nil =>
   have hl:=h2.1
   match vs,hl,h2 with
   | [v],_,h2=>exact h2.2 0 d v rfl rfl
  | cons d2 ds =>
   have hl:=h2.1
   rw[dif_neg (by simp only[List.size_toArray];simp only[List.length_cons]at hl;omega)]
   exact .tu _ _ _ _ h2.1 h2.2
end
end Go.Dm
