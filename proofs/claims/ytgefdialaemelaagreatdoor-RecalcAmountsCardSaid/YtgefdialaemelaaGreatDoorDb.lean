/-
  Operations of the machine are those of the model,first part.
-/
import Derived.Test.YtgefdialaemelaaGreatDoorDa
import Derived.IntWalk
namespace Go.Dm
structure En where
 K:Kn
 μ:Mu
 H:Heap
 w:World
structure FS (E:En) (tm bs:List Nat) (K:Kn) (μ:Mu) (L:Nat -> Option Nat) (sl:List D) (H:Heap) (tmps:Array Value) (W:World):Prop where
 hr:HR K μ H W
 nx:Nx E.K E.μ E.H E.w K μ H W
 len:sl.length=tm.length
 val : ∀ (k t:Nat),tm[k]?=some t -> bs.contains k=false -> ∃ d v,sl[k]?=some d /\ tmps[t]?=some v /\ VR K μ H d v
 box : ∀ (k t:Nat),tm[k]?=some t -> bs.contains k=true -> sl[k]?=some .u \/ ∃ r cs vs ty,L k=some r /\ sl[k]?=some (.bx cs) /\ tmps[t]?=some (.pointer (some ⟨r,0,none⟩)) /\
  W.heap[r]?=some (.cells vs ty (0,0)) /\ CRs K μ H cs vs.toList
 own : ∀ (k r:Nat),L k=some r -> ¬ Own μ H r /\ (∀ o v,K r o≠some v) /\ E.w.heap.size <= r /\ r<W.heap.size
 inj : ∀ (k k' r:Nat),L k=some r -> L k'=some r -> k=k'
theorem FS.go {E:En} {tm bs:List Nat} {K K':Kn} {μ μ':Mu} {L:Nat -> Option Nat} {sl:List D} {H H':Heap} {tmps:Array Value} {W W':World}
  (h:FS E tm bs K μ L sl H tmps W) (hr':HR K' μ' H' W') (n:Nx K μ H W K' μ' H' W'):FS E tm bs K' μ' L sl H' tmps W' where
 hr:=hr'
 nx:=h.nx.trans n
 len:=h.len
 val:=fun k t a b=>by
  obtain⟨d,v,x,y,z⟩:=h.val k t a b
  exact⟨d,v,x,y,z.ext n.ext⟩
 box:=fun k t a b=>by
  rcases h.box k t a b with x|⟨r,cs,vs,ty,h1,h2,h3,h4,h5⟩
  ·exact .inl x
  ·obtain⟨o1,o2,o3,o4⟩:=h.own k r h1
   exact .inr ⟨r,cs,vs,ty,h1,h2,h3,by rw[n.keep r o4 o1];exact h4,h5.ext n.ext⟩
 own:=fun k r a=>by
  obtain⟨o1,o2,o3,o4⟩:=h.own k r a
  refine⟨fun x => ?_,fun o v e => ?_,o3,Nat.lt_of_lt_of_le o4 n.size⟩
  ·rcases n.og r x with y|y
   ·exact o1 y
   ·omega
  ·rcases n.kg r o v e with y|y|y
   ·exact o2 o v y
   ·exact o1 y
   ·omega
 inj:=h.inj
def Res (K:Kn) (μ:Mu) (H:Heap) (W0 W:World) (L:Nat -> Option Nat) (d:D) (v:Value):Prop :=
 match d with
 | .bx cs => ∃ r vs ty,v = .pointer (some ⟨r,0,none⟩) /\ W0.heap.size <= r /\ r<W.heap.size /\ W.heap[r]?=some (.cells vs ty (0,0)) /\ CRs K μ H cs vs.toList /\ ¬ Own μ H r /\ ∀ o u,K r o≠some u
 | .lp k off => ∃ r,L k=some r /\ v = .pointer (some ⟨r,off,none⟩)
 | d=>VR K μ H d v
def LRs (c:CX) (done:Nat -> Prop) (L:Nat -> Option Nat) (K:Kn) (μ:Mu) (H:Heap) (loc:List D) (tmps:Array Value):Prop :=
 ∀ (i:Nat) (o:Oper) (vo:VOper) (t:Nat),done i -> c.ops[i]?=some o -> c.vos[i]?=some vo -> o.dst=some t -> vo.keep=none -> ∃ d v,loc[i]?=some d /\ tmps[t]?=some v /\
  match vo.op.isAddr with
  | true=>(d = .u /\ v=undef) \/ ∃ k off r,d = .lp k off /\ c.rt[i]?=some (some k) /\ L k=some r /\ v = .pointer (some ⟨r,off,none⟩)
  | false=>VR K μ H d v
theorem LRs.ext {c:CX} {done:Nat -> Prop} {L:Nat -> Option Nat} {K K':Kn} {μ μ':Mu} {H H':Heap} {loc:List D} {tmps:Array Value} (h:LRs c done L K μ H loc tmps)
  (e:Ext K μ H K' μ' H'):LRs c done L K' μ' H' loc tmps:=fun i o vo t a b d f g=>by
 obtain⟨x,v,h1,h2,h3⟩:=h i o vo t a b d f g
 refine⟨x,v,h1,h2, ?_⟩
 revert h3
 cases vo.op.isAddr with
 | true=>exact id
 | false=>exact fun h3=>VR.ext h3 e
theorem cellOk_sound {d:D} {v:Value} (h:cellOk d v=true) (K:Kn) (μ:Mu) (H:Heap):VR K μ H d v /\ v.oneCell'=true:=by
 unfold cellOk at h
 split at h
 ·simp only[beq_iff_eq]at h;subst h;exact⟨.b ..,rfl⟩
 ·simp only[Bool.and_eq_true,decide_eq_true_eq]at h;obtain⟨rfl,rfl⟩:=h;exact⟨.i ..,rfl⟩
 ·simp only[beq_iff_eq]at h;subst h;exact⟨.s ..,rfl⟩
 ·exact⟨.nil ..,rfl⟩
 ·exact⟨.np ..,rfl⟩
 ·exact⟨.mnil ..,rfl⟩
 ·exact⟨.nf ..,rfl⟩
 ·exact⟨.ni ..,rfl⟩
 ·cases h
theorem cellsOk_sound : ∀ {ds:List D} {vs:List Value},cellsOk ds vs=true -> ∀ (K:Kn) (μ:Mu) (H:Heap),CRs K μ H ds vs
 | [],[],_,K,μ,H=>⟨⟨rfl,fun j d v e=>by simp at e⟩,fun v e=>by simp at e⟩
 | [],_::_,h,_,_,_=>by simp[cellsOk]at h
 | _::_,[],h,_,_,_=>by simp[cellsOk]at h
 | d::ds,v::vs,h,K,μ,H=>by
  simp only[cellsOk,Bool.and_eq_true]at h
  obtain⟨h1,h2⟩:=cellOk_sound h.1 K μ H
  obtain⟨⟨h3,h4⟩,h5⟩:=cellsOk_sound h.2 K μ H
  refine⟨⟨by simp[h3],fun j x y e e' => ?_⟩,fun x hx => ?_⟩
  ·cases j with
   | zero=>simp at e e';subst e;subst e';exact h1
   | succ j=>exact h4 j x y (by simpa using e) (by simpa using e')
  ·rcases List.mem_cons.1 hx with rfl|hx
   ·exact h2
   ·exact h5 x hx
theorem constOk_sound {d:D} {v:Value} (h:constOk d v=true) (K:Kn) (μ:Mu) (H:Heap):VR K μ H d v:=by
 unfold constOk at h
 split at h
 ·rename_i cs vs
  obtain⟨⟨h1,h2⟩,h3⟩:=cellsOk_sound h K μ H
  have:=VR.ag (K:=K) μ H cs vs.toList h1 h3 h2
  simpa using this
 ·simp only[Bool.and_eq_true,beq_iff_eq,Array.isEmpty_iff]at h;obtain⟨⟨rfl,rfl⟩,rfl⟩:=h
  exact .fn _ _ _ [] [] [] [] rfl rfl (fun j d v e=>by simp at e) (fun j d v e=>by simp at e)
 ·simp only[Array.isEmpty_iff]at h;subst h;exact .u ..
 ·exact(cellOk_sound h K μ H).1
theorem getD_eq {α:Type} {xs:Array α} {i:Nat} {x d:α} (h:xs[i]?=some x):xs.getD i d=x:=by
 simp[Array.getD_eq_getD_getElem?,h]
section
variable {c:CX} {E:En} {L:Nat -> Option Nat} {K:Kn} {μ:Mu} {sl:List D} {H:Heap} {a:Act} {W:World} {loc:List D} {done:Nat -> Prop}
theorem okO_sound (fs:FS E c.tm c.bs K μ L sl H a.tmps W) (lr:LRs c done L K μ H loc a.tmps) {i:Nat} {x:O} {y:Operand} (h:okO c i x y=true) (hd : ∀ j∈x.locs,done j) :
  VR K μ H (x.ev loc sl) (a.eval y):=by
 unfold okO at h
 split at h
 ·rename_i j t
  simp only[Bool.and_eq_true,decide_eq_true_eq]at h
  obtain⟨_,h⟩:=h
  split at h
  ·rename_i o vo ho hvo
   simp only[Bool.and_eq_true,beq_iff_eq,Bool.not_eq_true']at h
   obtain⟨⟨⟨h1,h2⟩,h3⟩,h4⟩:=h
   obtain⟨d,v,e1,e2,e3⟩:=lr j o vo t (hd j (by simp[O.locs])) ho hvo h1 h2
   rw[h3]at e3
   simp only[O.ev,Act.eval,List.getD_eq_getElem?_getD,e1,Option.getD_some,getD_eq e2]
   exact e3
  ·cases h
 ·rename_i k t
  simp only[Bool.and_eq_true,beq_iff_eq,Bool.not_eq_true']at h
  obtain⟨d,v,e1,e2,e3⟩:=fs.val k t h.1 h.2
  simp only[O.ev,Act.eval,List.getD_eq_getElem?_getD,e1,Option.getD_some,getD_eq e2]
  exact e3
 ·exact constOk_sound h _ _ _
 ·simp only[beq_iff_eq]at h;subst h
  exact .fn _ _ _ [] [] [] [] rfl rfl (fun j d v e=>by simp at e) (fun j d v e=>by simp at e)
 ·cases h
theorem okOs_sound (fs:FS E c.tm c.bs K μ L sl H a.tmps W) (lr:LRs c done L K μ H loc a.tmps) {i:Nat} : ∀ {xs:List O} {ys:List Operand},okOs c i xs ys=true -> (∀ j∈xs.flatMap O.locs,done j) ->
  VRs K μ H (xs.map (O.ev loc sl)) (ys.map a.eval)
 | [],[],_,_=>⟨rfl,fun j d v e=>by simp at e⟩
 | [],_::_,h,_=>by simp[okOs]at h
 | _::_,[],h,_=>by simp[okOs]at h
 | x::xs,y::ys,h,hd=>by
  simp only[okOs,Bool.and_eq_true]at h
  have h1:=okO_sound fs lr h.1 (fun j hj=>hd j (by simp only[List.flatMap_cons,List.mem_append];exact .inl hj))
  obtain⟨h2,h3⟩:=okOs_sound fs lr h.2 (fun j hj=>hd j (by simp only[List.flatMap_cons,List.mem_append];exact .inr hj))
  refine⟨by simpa using h2,fun j d v e e' => ?_⟩
  cases j with
  | zero=>simp at e e';subst e;subst e';exact h1
  | succ j=>exact h3 j d v (by simpa using e) (by simpa using e')
theorem okA_sound (fs:FS E c.tm c.bs K μ L sl H a.tmps W) (lr:LRs c done L K μ H loc a.tmps) {i:Nat} {x:AB} {y:Operand} (h:okA c i x y=true) (hd : ∀ j∈x.locs,done j)
  {k o:Nat} (he:x.ev loc sl=some (k,o)) : ∃ r,L k=some r /\ a.eval y = .pointer (some ⟨r,o,none⟩) /\ rootOf c.rt x=[k]:=by
 unfold okA at h
 split at h
 ·rename_i k' t
  simp only[Bool.and_eq_true,beq_iff_eq]at h
  simp only[AB.ev]at he
  split at he
  ·rename_i cs hk
   cases he
   rcases fs.box k t h.1 h.2 with x|⟨r,cs',vs,ty,h1,h2,h3,h4,h5⟩
   ·rw[x]at hk;cases hk
   ·exact⟨r,h1,by simp only[Act.eval,getD_eq h3],rfl⟩
  ·cases he
 ·rename_i j t
  simp only[Bool.and_eq_true,decide_eq_true_eq]at h
  obtain⟨_,h⟩:=h
  split at h
  ·rename_i o' vo ho hvo
   simp only[Bool.and_eq_true,beq_iff_eq]at h
   obtain⟨⟨h1,h2⟩,h3⟩:=h
   obtain⟨d,v,e1,e2,e3⟩:=lr j o' vo t (hd j (by simp[AB.locs])) ho hvo h1 h2
   rw[h3]at e3
   simp only[AB.ev,e1]at he
   rcases e3 with⟨rfl,_⟩|⟨k1,off,r,rfl,hrt,hL,rfl⟩
   ·cases he
   ·cases he
    refine⟨r,hL,by simp only[Act.eval,getD_eq e2], ?_⟩
    simp[rootOf,hrt]
  ·cases h
 ·cases h
theorem boxAt_sound (fs:FS E c.tm c.bs K μ L sl H a.tmps W) {k r:Nat} {cs:List D} (hb:boxAt ⟨sl,H⟩ k=some cs) (hL:L k=some r) :
  ∃ vs ty,W.heap[r]?=some (.cells vs ty (0,0)) /\ CRs K μ H cs vs.toList:=by
 unfold boxAt at hb
 split at hb
 ·rename_i cs' hk
  cases hb
  have hlt:k<c.tm.length:=by
   rw[<- fs.len]
   rcases Nat.lt_or_ge k sl.length with x|x
   ·exact x
   ·simp only at hk;rw[List.getElem?_eq_none x]at hk;cases hk
  cases hcb:c.bs.contains k with
  | true =>
   rcases fs.box k _ (List.getElem?_eq_getElem hlt) hcb with x|⟨r',cs',vs,ty,h1,h2,h3,h4,h5⟩
   ·simp only at hk;rw[x]at hk;cases hk
   ·simp only at hk;rw[h2]at hk;cases hk
    rw[hL]at h1;cases h1
    exact⟨vs,ty,h4,h5⟩
  | false =>
   obtain⟨d,v,e1,e2,e3⟩:=fs.val k _ (List.getElem?_eq_getElem hlt) hcb
   simp only at hk;rw[e1]at hk;cases hk
   cases e3
 ·cases hb
def Sim (c:CX) (E:En) (L:Nat -> Option Nat) (o:Oper) (a:Act) (K:Kn) (μ:Mu) (H:Heap) (W:World) (d:D) (st':St):Prop :=
 ∃ K' μ' W' n,(execOp a.eval o).run c.P W = .ok n W' /\ FS E c.tm c.bs K' μ' L st'.sl st'.hp a.tmps W' /\ Ext K μ H K' μ' st'.hp /\ W.heap.size <= W'.heap.size /\
  ((∃ v,n = .value v /\ VR K' μ' st'.hp d v) \/ (n = .skip /\ d = .u))
def SimL (c:CX) (E:En) (L:Nat -> Option Nat) (o:Oper) (a:Act) (K:Kn) (μ:Mu) (H:Heap) (W:World) (d:D) (st':St):Prop :=
 ∃ W' v,(execOp a.eval o).run c.P W = .ok (.value v) W' /\ FS E c.tm c.bs K μ L st'.sl st'.hp a.tmps W' /\ W.heap.size <= W'.heap.size /\ st'.hp=H /\ Res K μ H W W' L d v
theorem Sim.val (fs:FS E c.tm c.bs K μ L sl H a.tmps W) {o:Oper} {d:D} {v:Value} (hrun:(execOp a.eval o).run c.P W = .ok (.value v) W) (h:VR K μ H d v) :
  Sim c E L o a K μ H W d ⟨sl,H⟩ :=
 ⟨K,μ,W,_,hrun,fs,.refl _ _ _,Nat.le_refl _,.inl ⟨v,rfl,h⟩⟩
theorem Sim.go (fs:FS E c.tm c.bs K μ L sl H a.tmps W) {o:Oper} {d:D} {v:Value} {K':Kn} {μ':Mu} {H':Heap} {W':World}
  (hrun:(execOp a.eval o).run c.P W = .ok (.value v) W') (hr:HR K' μ' H' W') (nx:Nx K μ H W K' μ' H' W') (h:VR K' μ' H' d v) :
  Sim c E L o a K μ H W d ⟨sl,H'⟩ :=
 ⟨K',μ',W',_,hrun,fs.go hr nx,nx.ext,nx.size,.inl ⟨v,rfl,h⟩⟩
theorem cells_of {d:D} {cs:List D} {v:Value} (h:d.cells?=some cs) (hv:VR K μ H d v):CRs K μ H cs v.cells.toList:=by
 have one : ∀ {d:D} {v:Value},VR K μ H d v -> v.oneCell'=true -> v.cells = #[v] -> CRs K μ H [d] v.cells.toList:=fun{d v} h1 h2 h3=>by
  rw[h3]
  refine⟨⟨rfl,fun j x y e e' => ?_⟩,fun y hy => ?_⟩
  ·cases j with
   | zero=>simp at e e';subst e;subst e';exact h1
   | succ j=>simp at e
  ·simp at hy;subst hy;exact h2
 cases hv with
 | ag _ _ cs' vs hl h1 hr=>simp only[D.cells?,Option.some.injEq]at h;subst h;exact⟨⟨by simpa [Value.cells]using hl,by simpa [Value.cells]using hr⟩,by simpa [Value.cells]using h1⟩
 | tu=>simp[D.cells?]at h
 | u=>simp[D.cells?]at h
 | _=>simp only[D.cells?,Option.some.injEq]at h;subst h;exact one (by constructor<;>assumption) rfl rfl
theorem cellsN_of {d:D} {n:Nat} {cs:List D} {v:Value} (h:d.cellsN n=some cs) (hv:VR K μ H d v):CRs K μ H cs v.cells.toList /\ v.cells.size=n:=by
 unfold D.cellsN at h
 split at h
 ·rename_i cs' h'
  split at h
  ·rename_i hl
   cases h
   have:=cells_of h' hv
   refine⟨this, ?_⟩
   have h2:=this.1.1
   simp only[Array.length_toList]at h2
   omega
  ·cases h
 ·cases h
theorem sizeIs_run {P:Program} {t n:Nat} (h:sizeIs P t n=true) (w:World):(sizeOf t).run P w = .ok n w:=by
 unfold sizeIs at h
 split at h
 ·rename_i i hi
  simp only[beq_iff_eq]at h
  simp[sizeOf,typeInfo,hi,h]
 ·cases h
theorem isAgg_run {P:Program} {t:Nat} {agg:Bool} (h:aggIs P t agg=true) (w:World):(isAgg t).run P w = .ok agg w:=by
 unfold aggIs at h
 split at h
 ·rename_i fs hd;subst h;simp[isAgg,run_underlying hd]
 ·rename_i n e hd;subst h;simp[isAgg,run_underlying hd]
 ·rename_i d h1 h2 hd
  simp only[Bool.not_eq_true']at h;subst h
  simp only[isAgg,Sem.run_bind,run_underlying hd,Result.andThen_ok]
  rfl
 ·cases h
end
theorem lt_of_get {α:Type} {xs:List α} {i:Nat} {x:α} (h:xs[i]?=some x):i<xs.length:=by
 rcases Nat.lt_or_ge i xs.length with y|y
 ·exact y
 ·rw[List.getElem?_eq_none y]at h;cases h
theorem cut_eq {cs r:List D} {off n:Nat} (h:cut cs off n=some r):r.length=n /\ off+n <= cs.length /\ r=(cs.drop off).take n /\ ∀ (j:Nat) (d:D),r[j]?=some d -> cs[off+j]?=some d:=by
 unfold cut at h
 split at h
 ·rename_i hle
  cases h
  refine⟨by rw[List.length_take,List.length_drop];omega,hle,rfl,fun j d e=>(part_get cs off n j d e).1⟩
 ·cases h
theorem put_eq {cs r vs:List D} {off:Nat} (h:put cs off vs=some r):off+vs.length <= cs.length /\ r=cs.take off++vs++cs.drop (off+vs.length):=by
 unfold put at h
 split at h
 ·rename_i hle;cases h;exact⟨hle,rfl⟩
 ·cases h
theorem splice_get {α:Type} (xs vs:List α) (off:Nat) (h:off+vs.length <= xs.length) (j:Nat) :
  (xs.take off++vs++xs.drop (off+vs.length))[j]?=if j<off then xs[j]? else if j<off+vs.length then vs[j-off]? else xs[j]?:=by
 have h1:(xs.take off).length=off:=by rw[List.length_take];omega
 by_cases a:j<off
 ·rw[if_pos a,List.append_assoc,List.getElem?_append_left (by omega),List.getElem?_take,if_pos a]
 ·rw [if_neg a]
  by_cases b:j<off+vs.length
  ·rw[if_pos b,List.getElem?_append_left (by simp;omega),List.getElem?_append_right (by omega),h1]
  ·rw[if_neg b,List.getElem?_append_right (by simp;omega),List.getElem?_drop]
   congr 1
   simp
   omega
theorem flatten_get {rows:List (List D)} {w:Nat} : ∀ {i j:Nat} {r:List D} {d:D},Wide w rows -> rows[i]?=some r -> r[j]?=some d -> rows.flatten[i*w+j]?=some d:=by
 induction rows with
 | nil=>intro i j r d _ h;simp at h
 | cons x xs ih =>
  intro i j r d hw h h'
  have hx:x.length=w:=hw 0 x rfl
  cases i with
  | zero =>
   simp at h;subst h
   simp only[Nat.zero_mul,Nat.zero_add,List.flatten_cons]
   rw[List.getElem?_append_left (lt_of_get h')];exact h'
  | succ i =>
   simp only[List.flatten_cons]
   rw[List.getElem?_append_right (by rw[hx,Nat.add_mul];omega),hx,show(i+1)*w+j-w=i*w+j by rw[Nat.add_mul];omega]
   exact ih (fun k q e=>hw (k+1) q (by simpa using e)) (by simpa using h) h'
theorem flatten_length {rows:List (List D)} {w:Nat} (hw:Wide w rows):rows.flatten.length=rows.length*w:=by
 induction rows with
 | nil=>simp
 | cons x xs ih =>
  simp only[List.flatten_cons,List.length_append,List.length_cons,ih (fun k q e=>hw (k+1) q (by simpa using e)),hw 0 x rfl,Nat.add_mul]
  omega
theorem flatten_split {rows:List (List D)} {w:Nat} : ∀ {k:Nat} {d:D},Wide w rows -> rows.flatten[k]?=some d -> ∃ i j r,rows[i]?=some r /\ r[j]?=some d /\ k=i*w+j:=by
 induction rows with
 | nil=>intro k d _ h;simp at h
 | cons x xs ih =>
  intro k d hw h
  have hx:x.length=w:=hw 0 x rfl
  simp only[List.flatten_cons]at h
  by_cases hk:k<x.length
  ·rw[List.getElem?_append_left hk]at h
   exact⟨0,k,x,rfl,h,by omega⟩
  ·rw[List.getElem?_append_right (by omega)]at h
   obtain⟨i,j,r,h1,h2,h3⟩:=ih (fun k q e=>hw (k+1) q (by simpa using e)) h
   exact⟨i+1,j,r,by simpa using h1,h2,by rw[Nat.add_mul];omega⟩
theorem add_none (b o n:Nat):(⟨b,o,none⟩:Addr).add n=⟨b,o+n,none⟩:=by
 unfold Addr.add
 split
 ·rename_i h;subst h;rfl
 ·rfl
theorem zeroOk_run {P:Program} {t:Nat} {zs:List D} (h:zeroOk P t zs=true) : ∃ z,(∀ w,(zeroValue t).run P w = .ok z w) /\ (∀ K μ H,CRs K μ H zs z.cells.toList) /\ sizeIs P t zs.length=true /\ zs.length=z.cells.size:=by
 unfold zeroOk at h
 split at h
 ·rename_i i hi
  split at h
  ·rename_i z hz
   simp only[Bool.and_eq_true,beq_iff_eq]at h
   refine⟨z,fun w=>by simp[zeroValue,typeInfo,hi,hz],fun K μ H=>cellsOk_sound h.1 K μ H,by simp[sizeIs,hi,h.2], ?_⟩
   simpa using(cellsOk_sound h.1 (fun _ _=>none) mu0 []).1.1
  ·cases h
 ·cases h
section
variable {c:CX} {E:En} {L:Nat -> Option Nat} {K:Kn} {μ:Mu} {sl:List D} {H:Heap} {a:Act} {W:World} {o:Oper}
theorem HR.not_own {K:Kn} {μ:Mu} {H:Heap} {W:World} (hr:HR K μ H W) {r:Nat} (h:W.heap.size <= r) : ¬ Own μ H r:=by
 rintro⟨id,l,b,h1,h2,h3,h4⟩
 have:=hr.lt id l h1
 omega
theorem HR.not_known {K:Kn} {μ:Mu} {H:Heap} {W:World} (hr:HR K μ H W) {r:Nat} (h:W.heap.size <= r) : ∀ o u,K r o≠some u:=fun o u e=>by
 have:=hr.klt e
 omega
theorem VR.b_inv {x:Bool} {v:Value} (h:VR K μ H (.b x) v):v = .bool x:=by cases h;rfl
theorem VR.i_inv {k:IntKind} {n:Int} {v:Value} (h:VR K μ H (.i k n) v):v = .int k n:=by cases h;rfl
theorem VR.s_inv {l:List UInt8} {v:Value} (h:VR K μ H (.s l) v):v = .string ⟨l.toArray⟩:=by cases h;rfl
theorem sim_mov (fs:FS E c.tm c.bs K μ L sl H a.tmps W) {y:Operand} {d:D} (ho:o.op = .move y \/ o.op = .assign y) (hx:VR K μ H d (a.eval y)) :
  Sim c E L o a K μ H W d ⟨sl,H⟩:=by
 refine Sim.val fs (v:=a.eval y) ?_ hx
 rcases ho with ho|ho<;>simp[execOp,ho]
theorem sim_pick (fs:FS E c.tm c.bs K μ L sl H a.tmps W) {x y z:Operand} {b:Bool} {d e:D} (ho:o.op = .pick x y z) (hx:VR K μ H (.b b) (a.eval x)) (hy:VR K μ H d (a.eval y)) (hz:VR K μ H e (a.eval z)) :
  Sim c E L o a K μ H W (if b then d else e) ⟨sl,H⟩:=by
 have hb:a.eval x = .bool b:=hx.b_inv
 cases b with
 | true=>exact Sim.val fs (v:=a.eval y) (by simp[execOp,ho,hb,asBool]) hy
 | false=>exact Sim.val fs (v:=a.eval z) (by simp[execOp,ho,hb,asBool]) hz
theorem sim_local (fs:FS E c.tm c.bs K μ L sl H a.tmps W) {t:Nat} {cs:List D} {vs:Array Value}
  (hrun:(execOp a.eval o).run c.P W = .ok (.value (.pointer (some ⟨W.heap.size,0,none⟩))) (W.alloc (.cells vs t))) (hc:CRs K μ H cs vs.toList) :
  SimL c E L o a K μ H W (.bx cs) ⟨sl,H⟩:=by
 obtain⟨hr',nx⟩:=fs.hr.loc (.cells vs t)
 refine⟨_,_,hrun,fs.go hr' nx,nx.size,rfl,W.heap.size,vs,t,rfl,Nat.le_refl _,by simp,heap_alloc_new W _,hc, ?_, ?_⟩
 ·exact fs.hr.not_own (Nat.le_refl _)
 ·exact fs.hr.not_known (Nat.le_refl _)
theorem sim_heap (fs:FS E c.tm c.bs K μ L sl H a.tmps W) {t:Nat} {cs:List D} {vs:Array Value}
  (hrun:(execOp a.eval o).run c.P W = .ok (.value (.pointer (some ⟨W.heap.size,0,none⟩))) (W.alloc (.cells vs t))) (hc:CRs K μ H cs vs.toList) :
  Sim c E L o a K μ H W (.hp H.length 0) ⟨sl,H++[.hb t cs]⟩:=by
 obtain ⟨hr',nx⟩:=fs.hr.push (.cells vs t) ⟨W.heap.size,0,vs.size⟩ (.hb t cs) rfl
  ⟨rfl,vs,heap_alloc_new W _,rfl,hc.ext (Ext.push fs.hr.dom _ _)⟩
 exact Sim.go fs hrun hr' nx (.hp _ _ _ _ ⟨W.heap.size,0,vs.size⟩ t cs (by simp[Mu.upd]) (by simp))
theorem sim_array (fs:FS E c.tm c.bs K μ L sl H a.tmps W) {t w:Nat} {rows:List (List D)} {vs:Array Value} {p:Bool} (hwd:Wide w rows)
  (hrun:(execOp a.eval o).run c.P W = .ok (.value (.pointer (some ⟨W.heap.size,0,none⟩))) (W.alloc (.cells vs t))) (hc:CRs K mu0 [] rows.flatten vs.toList) :
  Sim c E L o a K μ H W (.aa H.length) ⟨sl,H++[.ar w rows (some rows.length) p false]⟩:=by
 have hlen:rows.length*w=vs.size:=by rw[<- flatten_length hwd,hc.1.1];simp
 obtain ⟨hr',nx⟩:=fs.hr.push (.cells vs t) ⟨W.heap.size,0,vs.size⟩ (.ar w rows (some rows.length) p false) rfl
  ⟨hwd,fun c h=>by cases h;exact Nat.le_refl _,by simp[hlen],vs,t,heap_alloc_new W _,rfl,fun i r j d x y=>by
   have hg:=flatten_get hwd x y
   have hlt:=lt_of_get hg
   have hlt':i*w+j<vs.toList.length:=by rw[<- hc.1.1];exact hlt
   refine⟨vs.toList[i*w+j],by simp at hlt';simp[hlt'],hc.2 _ (List.getElem_mem hlt'), ?_⟩
   have:=hc.1.2 (i*w+j) d _ hg (List.getElem?_eq_getElem hlt')
   cases p with
   | true=>exact this
   | false=>exact VR.pure this⟩
 exact Sim.go fs hrun hr' nx (.aa _ _ _ ⟨W.heap.size,0,vs.size⟩ w rows rows.length p false (by simp[Mu.upd]) (by simp))
theorem run_alloc {P:Program} {t:Nat} {zs:List D} (h:zeroOk P t zs=true) (ho:o.op = .alloc t) (W:World) : ∃ vs,vs.size=zs.length /\ (∀ K μ H,CRs K μ H zs vs.toList) /\
  (execOp a.eval o).run P W = .ok (.value (.pointer (some ⟨W.heap.size,0,none⟩))) (W.alloc (.cells vs t)):=by
 obtain⟨z,hz,hc,hs,hsz⟩:=zeroOk_run h
 refine⟨z.cells,hsz.symm,hc, ?_⟩
 simp[execOp,ho,Instr.alloc,hz,newVar,newRow]
theorem run_box {P:Program} {t:Nat} {y:Operand} (ho:o.op = .box t y) (W:World) :
  (execOp a.eval o).run P W = .ok (.value (.pointer (some ⟨W.heap.size,0,none⟩))) (W.alloc (.cells (a.eval y).cells t)):=by
 simp[execOp,ho,Instr.box,newVar,newRow]
theorem run_field {P:Program} {s f off:Nat} (h:fieldOk P s f off=true) {y:Operand} (ho:o.op = .fieldAddr s y f) {b q:Nat} (hy:a.eval y = .pointer (some ⟨b,q,none⟩)) (W:World) :
  (execOp a.eval o).run P W = .ok (.value (.pointer (some ⟨b,q+off,none⟩))) W:=by
 unfold fieldOk at h
 split at h
 ·rename_i fs hd
  split at h
  ·rename_i fd hf
   simp only[Bool.and_eq_true,beq_iff_eq]at h
   obtain⟨h1,h2⟩:=h
   split at h2
   ·rename_i i hi
    simp only[bne_iff_ne]at h2
    simp[execOp,ho,Instr.fieldAt,run_underlying hd,hf,hy,Instr.sureAddr,fieldPlace,sizeOf,typeInfo,hi,h2,add_none,h1]
   ·cases h2
  ·cases h
 ·cases h
theorem sim_lfa (fs:FS E c.tm c.bs K μ L sl H a.tmps W) {s f off k q r:Nat} {y:Operand} (ho:o.op = .fieldAddr s y f) (hf:fieldOk c.P s f off=true) (hL:L k=some r)
  (hy:a.eval y = .pointer (some ⟨r,q,none⟩)):SimL c E L o a K μ H W (.lp k (q+off)) ⟨sl,H⟩ :=
 ⟨W,_,run_field hf ho hy W,fs,Nat.le_refl _,rfl,r,hL,rfl⟩
theorem ixOf_eq {d:D} {n j:Nat} {v:Value} (h:ixOf d n=some j) (hv:VR K μ H d v) : ∃ k,v = .int k (j:Int) /\ j<n:=by
 unfold ixOf at h
 split at h
 ·rename_i k m
  split at h
  ·rename_i hm
   cases h
   cases hv
   exact⟨k,by rw[Int.toNat_of_nonneg hm.1],by omega⟩
  ·cases h
 ·cases h
theorem bdOf_eq {d:D} {n j:Nat} {v:Value} (h:bdOf d n=some j) (hv:VR K μ H d v) : ∃ k,v = .int k (j:Int) /\ j <= n:=by
 unfold bdOf at h
 split at h
 ·rename_i k m
  split at h
  ·rename_i hm
   cases h
   cases hv
   exact⟨k,by rw[Int.toNat_of_nonneg hm.1],by omega⟩
  ·cases h
 ·cases h
theorem run_indexArr {P:Program} {t n e w:Nat} (hd:P.underlying t=some (.array n e)) (hw:sizeIs P e w=true) {y k:Operand} (ho:o.op = .indexAddr t y k) {b q j:Nat}
  {ik:IntKind} (hk:a.eval k = .int ik (j:Int)) (hj:j<n) (hy:a.eval y = .pointer (some ⟨b,q,none⟩)) (W:World) :
  (execOp a.eval o).run P W = .ok (.value (.pointer (some ⟨b,q+j*w,none⟩))) W:=by
 simp[execOp,ho,Instr.indexAt,asIntOf,hk,run_underlying hd,hy,Instr.sureAddr,sizeIs_run hw,add_none,hj]
theorem run_indexSl {P:Program} {t e w:Nat} (hd:P.underlying t=some (.slice e)) (hw:sizeIs P e w=true) {y k:Operand} (ho:o.op = .indexAddr t y k) {b q j n cp:Nat}
  {ik:IntKind} (hk:a.eval k = .int ik (j:Int)) (hj:j<n) (hy:a.eval y = .slice (some ⟨b,q,none⟩) n cp) (W:World) :
  (execOp a.eval o).run P W = .ok (.value (.pointer (some ⟨b,q+j*w,none⟩))) W:=by
 simp[execOp,ho,Instr.indexAt,asIntOf,hk,run_underlying hd,hy,sizeIs_run hw,add_none,hj]
theorem sim_lia (fs:FS E c.tm c.bs K μ L sl H a.tmps W) {t n e w k q r j:Nat} {y x:Operand} {ix:D} (ho:o.op = .indexAddr t y x) (hd:c.P.underlying t=some (.array n e)) (hw:sizeIs c.P e w=true)
  (hL:L k=some r) (hy:a.eval y = .pointer (some ⟨r,q,none⟩)) (hx:VR K μ H ix (a.eval x)) (hj:ixOf ix n=some j):SimL c E L o a K μ H W (.lp k (q+j*w)) ⟨sl,H⟩:=by
 obtain⟨ik,h1,h2⟩:=ixOf_eq hj hx
 exact⟨W,_,run_indexArr hd hw ho h1 h2 hy W,fs,Nat.le_refl _,rfl,r,hL,rfl⟩
theorem run_loadVar {P:Program} {t n:Nat} {agg:Bool} {ds:List D} {d:D} {vs:List Value} (hs:sizeIs P t n=true) (ha:aggIs P t agg=true) (hn:vs.length=n)
  (hc:CRs K μ H ds vs) (hv:val agg ds=some d) (ad:Addr) (hcell : ∀ (j:Nat) (v:Value),vs[j]?=some v -> W.cell? (ad.add j)=some v) :
  ∃ v,(loadVar t ad).run P W = .ok v W /\ VR K μ H d v:=by
 cases agg with
 | true =>
  simp only[val,Option.some.injEq]at hv
  subst hv
  refine⟨.agg vs.toArray, ?_,.ag _ _ ds vs hc.1.1 hc.2 hc.1.2⟩
  have:=run_loadCells_list (P:=P) W ad vs hcell
  rw[hn]at this
  simp[loadVar,isAgg_run ha,sizeIs_run hs,this]
 | false =>
  unfold val at hv
  split at hv
  ·contradiction
  ·split at hv
   ·rename_i x
    cases hv
    obtain⟨⟨h1,h2⟩,h3⟩:=hc
    match vs,h1 with
    | [v],_ =>
     refine⟨v, ?_,h2 0 _ v rfl rfl⟩
     have:=hcell 0 v rfl
     simp only[Addr.add,if_true]at this
     simp[loadVar,isAgg_run ha,run_load,this]
   ·cases hv
theorem cells_slice {ds:List D} {vs:List Value} (hc:CRs K μ H ds vs) {off n:Nat} (h:off+n <= ds.length):CRs K μ H ((ds.drop off).take n) ((vs.drop off).take n):=by
 obtain⟨⟨h1,h2⟩,h3⟩:=hc
 refine⟨⟨by simp only[List.length_take,List.length_drop,h1],fun j d v e e'=>h2 (off+j) d v (part_get _ _ _ _ _ e).1 (part_get _ _ _ _ _ e').1⟩,fun v hv=>h3 v ?_⟩
 exact List.mem_of_mem_drop (List.mem_of_mem_take hv)
theorem sim_lld (fs:FS E c.tm c.bs K μ L sl H a.tmps W) {t n k q r:Nat} {agg:Bool} {y:Operand} {cs ds:List D} {d:D} (ho:o.op = .load t y) (hs:sizeIs c.P t n=true) (ha:aggIs c.P t agg=true)
  (hL:L k=some r) (hy:a.eval y = .pointer (some ⟨r,q,none⟩)) (hb:boxAt ⟨sl,H⟩ k=some cs) (hcut:cut cs q n=some ds) (hv:val agg ds=some d):Sim c E L o a K μ H W d ⟨sl,H⟩:=by
 obtain⟨vs,ty,hW,hc⟩:=boxAt_sound fs hb hL
 obtain⟨h1,h2,hds,_⟩:=cut_eq hcut
 have hc':=cells_slice hc h2
 rw[<- hds]at hc'
 obtain ⟨v,hrun,hvr⟩:=run_loadVar (P:=c.P) (W:=W) hs ha (hc'.1.1.symm.trans h1) hc' hv ⟨r,q,none⟩ (fun j v e=>by
  rw[add_none,cell_of_row W r (q+j) vs ty _ hW]
  have:=(part_get _ _ _ _ _ e).1
  simpa using this)
 exact Sim.val fs (v:=v) (by simp[execOp,ho,Instr.loadAt,hy,Instr.sureAddr,hrun]) hvr
end
section
variable {c:CX} {E:En} {L:Nat -> Option Nat} {K:Kn} {μ:Mu} {sl:List D} {H:Heap} {a:Act} {W:World} {o:Oper}
theorem HR.other {W':World} (hr:HR K μ H W) (r:Nat) (ho : ¬ Own μ H r) (hk : ∀ o u,K r o≠some u) (hs:W.heap.size <= W'.heap.size)
  (hkeep : ∀ b,b<W.heap.size -> b≠r -> W'.heap[b]?=W.heap[b]?):HR K μ H W' where
 dom:=hr.dom
 tot:=hr.tot
 blk:=fun id l b x y=>(hr.blk id l b x y).ext (.refl _ _ _) (fun hl=>hkeep _ (hr.lt id l x) (fun e=>ho ⟨id,l,b,x,y,hl,e⟩))
 lt:=fun id l x=>Nat.lt_of_lt_of_le (hr.lt id l x) hs
 inj:=hr.inj
 kn:=fun b o v e=>by
  have hne:b≠r:=fun x=>by subst x;exact hk o v e
  rw[World.cell?_of_block (w:=W) (w':=W') (a:=⟨b,o,none⟩) (hkeep b (hr.klt e) hne)]
  exact hr.kn b o v e
 kf:=hr.kf
theorem splice_crs {ds vs:List D} {xs ys:List Value} (h1:CRs K μ H ds xs) (h2:CRs K μ H vs ys) {off:Nat} (h:off+vs.length <= ds.length) :
  CRs K μ H (ds.take off++vs++ds.drop (off+vs.length)) (xs.take off++ys++xs.drop (off+ys.length)):=by
 obtain⟨⟨a1,a2⟩,a3⟩:=h1
 obtain⟨⟨b1,b2⟩,b3⟩:=h2
 refine⟨⟨by simp only[List.length_append,List.length_take,List.length_drop];omega,fun j d v e e' => ?_⟩,fun v hv => ?_⟩
 ·rw [splice_get _ _ _ h]at e
  rw[splice_get _ _ _ (by omega)]at e'
  by_cases x:j<off
  ·rw[if_pos x]at e e';exact a2 j d v e e'
  ·rw[if_neg x]at e e'
   by_cases y:j<off+vs.length
   ·rw[if_pos y]at e;rw[if_pos (by omega)]at e';exact b2 _ d v e e'
   ·rw[if_neg y]at e;rw[if_neg (by omega)]at e';exact a2 j d v e e'
 ·rcases List.mem_append.1 hv with hv|hv
  ·rcases List.mem_append.1 hv with hv|hv
   ·exact a3 v (List.mem_of_mem_take hv)
   ·exact b3 v hv
  ·exact a3 v (List.mem_of_mem_drop hv)
theorem run_storeVar {P:Program} {t n:Nat} (hs:sizeIs P t n=true) {v:Value} (hn:v.cells.size=n) (h1 : ∀ x,x∈v.cells.toList -> x.oneCell'=true) {b off ty:Nat} {vs:Array Value}
  (hW:W.heap[b]?=some (.cells vs ty (0,0))) (hfit:off+n <= vs.size) :
  (storeVar t ⟨b,off,none⟩ v).run P W = .ok () (W.setRow b (vs.toList.take off++v.cells.toList++vs.toList.drop (off+v.cells.toList.length)).toArray):=by
 have hst:=run_storeCells_at P b off ty v.cells.toList 0 vs W hW (by simpa [hn]using hfit) h1
 simp only[Nat.add_zero]at hst
 simp[storeVar,sizeIs_run hs,hn]at hst ⊢
 exact hst
theorem sim_lst (fs:FS E c.tm c.bs K μ L sl H a.tmps W) {t n k q r:Nat} {y z:Operand} {cs vs cs':List D} {d:D} (ho:o.op = .store t y z) (hs:sizeIs c.P t n=true)
  (hL:L k=some r) (hy:a.eval y = .pointer (some ⟨r,q,none⟩)) (hb:boxAt ⟨sl,H⟩ k=some cs) (hz:VR K μ H d (a.eval z)) (hd:d.cellsN n=some vs) (hput:put cs q vs=some cs') :
  Sim c E L o a K μ H W .u ⟨sl.set k (.bx cs'),H⟩:=by
 obtain⟨ws,ty,hW,hc⟩:=boxAt_sound fs hb hL
 obtain⟨hcv,hn⟩:=cellsN_of hd hz
 obtain⟨hfit,rfl⟩:=put_eq hput
 have hvl:vs.length=n:=by rw[hcv.1.1];simpa using hn
 have hwl:cs.length=ws.size:=by rw[hc.1.1];simp
 obtain⟨o1,o2,o3,o4⟩:=fs.own k r hL
 have hrun:=run_storeVar (P:=c.P) (W:=W) hs hn hcv.2 hW (off:=q) (by omega)
 have hoth : ∀ b,b≠r -> (W.setRow r (ws.toList.take q++(a.eval z).cells.toList++ws.toList.drop (q+(a.eval z).cells.toList.length)).toArray).heap[b]?=W.heap[b]?:=fun b hb=>setRow_other W r b _ hb
 have hrow:=setRow_heap W r ws (ws.toList.take q++(a.eval z).cells.toList++ws.toList.drop (q+(a.eval z).cells.toList.length)).toArray ty (0,0) hW
 have hcr:=splice_crs hc hcv hfit
 have hk':sl[k]?=some (.bx cs):=by
  unfold boxAt at hb
  split at hb
  ·rename_i h;cases hb;exact h
  ·cases hb
 generalize hW':W.setRow r (ws.toList.take q++(a.eval z).cells.toList++ws.toList.drop (q+(a.eval z).cells.toList.length)).toArray=W' at *
 have hsz:W'.heap.size=W.heap.size:=by rw[<- hW'];simp
 have hr':HR K μ H W':=fs.hr.other r o1 o2 (by omega) (fun b _ hb=>hoth b hb)
 refine⟨K,μ,W',.skip,by simp[execOp,ho,Instr.storeAt,hy,Instr.sureAddr,hrun], ?_,.refl _ _ _,by omega,.inr ⟨rfl,rfl⟩⟩
 refine⟨hr', ?_,by simp[fs.len],fun j t' x y' => ?_,fun j t' x y' => ?_,fun j r' x => ?_,fs.inj⟩
 ·have nx:=fs.nx
  refine⟨nx.ext, ?_, ?_, ?_,by rw[hsz];exact nx.size,fun b hb hno => ?_,nx.og,nx.kg⟩
  ·rw[<- hW'];exact nx.os
  ·rw[<- hW'];exact nx.tape
  ·rw[<- hW'];exact nx.output
  ·rw[hoth b (by omega)];exact nx.keep b hb hno
 ·obtain⟨d',v',e1,e2,e3⟩:=fs.val j t' x y'
  by_cases hj:j=k
  ·subst hj;rw[hk']at e1;cases e1;cases e3
  ·exact⟨d',v',by rw[List.getElem?_set_ne (Ne.symm hj)];exact e1,e2,e3⟩
 ·by_cases hj:j=k
  ·subst hj
   rcases fs.box j t' x y' with e|⟨r',cs',vs',ty',h1,h2,h3,h4,h5⟩
   ·rw[hk']at e;cases e
   ·rw[hL]at h1;cases h1
    exact .inr ⟨r,cs.take q++vs++cs.drop (q+vs.length),_,ty,hL,List.getElem?_set_self (lt_of_get hk'),h3,hrow,by simpa using hcr⟩
  ·rcases fs.box j t' x y' with e|⟨r',cs',vs',ty',h1,h2,h3,h4,h5⟩
   ·exact .inl (by rw[List.getElem?_set_ne (Ne.symm hj)];exact e)
   ·refine .inr ⟨r',cs',vs',ty',h1,by rw[List.getElem?_set_ne (Ne.symm hj)];exact h2,h3, ?_,h5⟩
    rw[hoth r' (fun e=>hj (fs.inj j k r' h1 (e▸hL)))];exact h4
 ·obtain⟨p1,p2,p3,p4⟩:=fs.own j r' x
  exact⟨p1,p2,p3,by omega⟩
theorem arr_get {a w:Nat} {rows:List (List D)} {kc:Option Nat} {p lk:Bool} {l:Loc} (hr:HR K μ H W) (hm:μ a=some l) (hH:H[a]?=some (.ar w rows kc p lk)) {i:Nat} {r:List D} (hi:rows[i]?=some r) :
  Wide w rows /\ ∃ vs:List Value,CRs K μ H r vs /\ (∀ (j:Nat) (v:Value),vs[j]?=some v -> W.cell? ⟨l.blk,l.off+(i*w+j),none⟩=some v):=by
 have hwd:Wide w rows:=by
  have:=hr.blk a l _ hm hH
  cases lk with
  | false=>exact this.1
  | true=>exact this.2.1
 have key : ∀ j d,r[j]?=some d -> ∃ v,W.cell? ⟨l.blk,l.off+(i*w+j),none⟩=some v /\ v.oneCell'=true /\ VR K μ H d v:=by
  intro j d hj
  cases lk with
  | false =>
   obtain⟨h0,hc,hl,vs,ty,h1,h2,h3⟩:=hr.blk a l _ hm hH
   obtain⟨v,hv,hcell⟩:=h3 i r j d hi hj
   exact⟨v,by rw[cell_of_row W l.blk _ vs ty _ h1];exact hv,hcell.1,hcell.vr⟩
  | true =>
   obtain⟨hp,h0,hc,h3⟩:=hr.blk a l _ hm hH
   obtain⟨v,hv,hcell⟩:=h3 i r j d hi hj
   exact⟨v,hr.kn _ _ _ hv,hcell.1,hcell.vr⟩
 refine⟨hwd,r.zipIdx.map (fun x=>(W.cell? ⟨l.blk,l.off+(i*w+x.2),none⟩).getD undef),⟨⟨by simp,fun j d v e e' => ?_⟩,fun v hv => ?_⟩,fun j v e => ?_⟩
 ·obtain⟨v',h1,h2,h3⟩:=key j d e
  simp only[List.getElem?_map,List.getElem?_zipIdx,e,Option.map_some,Nat.zero_add,h1,Option.getD_some,Option.some.injEq]at e'
  subst e';exact h3
 ·obtain ⟨x,hx,rfl⟩:=List.mem_map.1 hv
  obtain⟨j,hj⟩:=List.getElem?_of_mem hx
  rw[List.getElem?_zipIdx]at hj
  cases hrj:r[j]? with
  | none=>rw[hrj]at hj;cases hj
  | some d =>
   rw[hrj]at hj
   simp only[Option.map_some,Nat.zero_add,Option.some.injEq]at hj
   subst hj
   obtain⟨v',h1,h2,h3⟩:=key j d hrj
   simp only[h1,Option.getD_some,h2]
 ·rw [List.getElem?_map,List.getElem?_zipIdx]at e
  cases hrj:r[j]? with
  | none=>rw[hrj]at e;cases e
  | some d =>
   rw[hrj]at e
   simp only[Option.map_some,Nat.zero_add,Option.some.injEq]at e
   obtain⟨v',h1,h2,h3⟩:=key j d hrj
   rw[h1,Option.getD_some]at e
   subst e;exact h1
theorem ldAt_sound (hr:HR K μ H W) {x:D} {n:Nat} {ds:List D} {v:Value} (h:ldAt H x n=some ds) (hx:VR K μ H x v) :
  ∃ b q vs,v = .pointer (some ⟨b,q,none⟩) /\ ds.length=n /\ CRs K μ H ds vs /\ ∀ (j:Nat) (u:Value),vs[j]?=some u -> W.cell? ⟨b,q+j,none⟩=some u:=by
 unfold ldAt at h
 split at h
 ·rename_i b off
  split at h
  ·rename_i cs hH
   obtain⟨h1,h2,hds,_⟩:=cut_eq h
   cases hx with
   | hp _ _ _ _ l t0 cs' hm hH' =>
    obtain⟨h0,vs,hW,hsz,hc⟩:=hr.blk b l _ hm hH
    have hc':=cells_slice hc h2
    rw[<- hds]at hc'
    refine⟨l.blk,off,_,rfl,h1,hc',fun j u e => ?_⟩
    rw[cell_of_row W l.blk _ vs _ _ hW]
    have:=(part_get _ _ _ _ _ e).1
    simpa using this
  ·cases h
 ·rename_i a m i off
  split at h
  ·rename_i w rows kc p lk harr
   obtain⟨hH,hn⟩:=arr_eq harr
   split at h
   ·rename_i r hi
    obtain⟨h1,h2,hds,_⟩:=cut_eq h
    cases hx with
    | ap _ _ _ _ _ _ blk q l w' rows' kc' p' lk' hm hH' hle hcond =>
     rw[hH]at hH';cases hH'
     obtain⟨rfl,rfl⟩:=hcond hn
     obtain⟨hwd,vs,hc,hcell⟩:=arr_get hr hm hH hi
     have hc':=cells_slice hc h2
     rw[<- hds]at hc'
     refine⟨l.blk,_,_,rfl,h1,hc',fun j u e => ?_⟩
     have:=hcell (off+j) u (part_get _ _ _ _ _ e).1
     rw[show l.off+i*w+off+j=l.off+(i*w+(off+j))by omega]
     exact this
   ·cases h
  ·cases h
 ·rename_i a
  split at h
  ·rename_i w rows c p lk hH
   split at h
   ·rename_i hn
    cases h
    cases hx with
    | aa _ _ _ l w' rows' c' p' lk' hm hH' =>
     rw[hH]at hH';cases hH'
     have hwd:Wide w rows:=by
      have:=hr.blk a l _ hm hH
      cases lk with
      | false=>exact this.1
      | true=>exact this.2.1
     have key : ∀ k d,rows.flatten[k]?=some d -> ∃ v,W.cell? ⟨l.blk,l.off+k,none⟩=some v /\ v.oneCell'=true /\ VR K μ H d v:=by
      intro k d hk
      obtain⟨i,j,r,h1,h2,rfl⟩:=flatten_split hwd hk
      obtain⟨_,vs,hc,hcell⟩:=arr_get hr hm hH h1
      have hj:j<vs.length:=by rw[<- hc.1.1];exact lt_of_get h2
      exact⟨vs[j],hcell j _ (List.getElem?_eq_getElem hj),hc.2 _ (List.getElem_mem hj),hc.1.2 j d _ h2 (List.getElem?_eq_getElem hj)⟩
     refine⟨l.blk,l.off,rows.flatten.zipIdx.map (fun x=>(W.cell? ⟨l.blk,l.off+x.2,none⟩).getD undef),rfl,by rw[flatten_length hwd,hn,Nat.mul_comm],⟨⟨by simp,fun j d v e e' => ?_⟩,fun v hv => ?_⟩,fun j v e => ?_⟩
     ·obtain⟨v',h1,h2,h3⟩:=key j d e
      simp only[List.getElem?_map,List.getElem?_zipIdx,e,Option.map_some,Nat.zero_add,h1,Option.getD_some,Option.some.injEq]at e'
      subst e';exact h3
     ·obtain ⟨x,hx,rfl⟩:=List.mem_map.1 hv
      obtain⟨j,hj⟩:=List.getElem?_of_mem hx
      rw[List.getElem?_zipIdx]at hj
      cases hrj:rows.flatten[j]? with
      | none=>rw[hrj]at hj;cases hj
      | some d =>
       rw[hrj]at hj
       simp only[Option.map_some,Nat.zero_add,Option.some.injEq]at hj
       subst hj
       obtain⟨v',h1,h2,h3⟩:=key j d hrj
       simp only[h1,Option.getD_some,h2]
     ·rw [List.getElem?_map,List.getElem?_zipIdx]at e
      cases hrj:rows.flatten[j]? with
      | none=>rw[hrj]at e;cases e
      | some d =>
       rw[hrj]at e
       simp only[Option.map_some,Nat.zero_add,Option.some.injEq]at e
       obtain⟨v',h1,h2,h3⟩:=key j d hrj
       rw[h1,Option.getD_some]at e
       subst e;exact h1
   ·cases h
  ·cases h
 ·rename_i cs
  obtain⟨h1,h2,hds,_⟩:=cut_eq h
  cases hx with
  | ip _ _ _ blk off f hk h1' hrr =>
   refine⟨blk,off,ds.zipIdx.map (fun x=>f x.2),rfl,h1,⟨⟨by simp,fun j d v e e' => ?_⟩,fun v hv => ?_⟩,fun j v e => ?_⟩
   ·have hd:cs[j]?=some d:=by have:=(cut_eq h).2.2.2 j d e;simpa using this
    simp only[List.getElem?_map,List.getElem?_zipIdx,e,Option.map_some,Nat.zero_add,Option.some.injEq]at e'
    subst e';exact hrr j d hd
   ·obtain ⟨x,hx,rfl⟩:=List.mem_map.1 hv
    obtain⟨j,hj⟩:=List.getElem?_of_mem hx
    rw[List.getElem?_zipIdx]at hj
    cases hrj:ds[j]? with
    | none=>rw[hrj]at hj;cases hj
    | some d =>
     rw[hrj]at hj
     simp only[Option.map_some,Nat.zero_add,Option.some.injEq]at hj
     subst hj
     exact h1' j d (by have:=(cut_eq h).2.2.2 j d hrj;simpa using this)
   ·rw [List.getElem?_map,List.getElem?_zipIdx]at e
    cases hrj:ds[j]? with
    | none=>rw[hrj]at e;cases e
    | some d =>
     rw[hrj]at e
     simp only[Option.map_some,Nat.zero_add,Option.some.injEq]at e
     subst e
     exact hr.kn _ _ _ (hk j d (by have:=(cut_eq h).2.2.2 j d hrj;simpa using this))
 ·cases h
theorem sim_ld (fs:FS E c.tm c.bs K μ L sl H a.tmps W) {t n:Nat} {agg:Bool} {y:Operand} {x d:D} {ds:List D} (ho:o.op = .load t y) (hs:sizeIs c.P t n=true) (ha:aggIs c.P t agg=true)
  (hx:VR K μ H x (a.eval y)) (hl:ldAt H x n=some ds) (hv:val agg ds=some d):Sim c E L o a K μ H W d ⟨sl,H⟩:=by
 obtain⟨b,q,vs,hp,hn,hc,hcell⟩:=ldAt_sound fs.hr hl hx
 obtain⟨v,hrun,hvr⟩:=run_loadVar (P:=c.P) (W:=W) hs ha (hc.1.1.symm.trans hn) hc hv ⟨b,q,none⟩ (fun j v e=>by rw[add_none];exact hcell j v e)
 exact Sim.val fs (v:=v) (by simp[execOp,ho,Instr.loadAt,hp,Instr.sureAddr,hrun]) hvr
theorem VR.ip_drop {cs:List D} {v:Value} (h:VR K μ H (.ip cs) v) (n:Nat) : ∃ b q,v = .pointer (some ⟨b,q,none⟩) /\ VR K μ H (.ip (cs.drop n)) (.pointer (some ⟨b,q+n,none⟩)):=by
 cases h with
 | ip _ _ _ blk off f hk h1 hr =>
  refine⟨blk,off,rfl,.ip _ _ _ blk (off+n) (fun j=>f (n+j)) (fun j d e => ?_) (fun j d e => ?_) (fun j d e => ?_)⟩
  ·rw[List.getElem?_drop]at e;rw[Nat.add_assoc];exact hk _ d e
  ·rw[List.getElem?_drop]at e;exact h1 _ d e
  ·rw[List.getElem?_drop]at e;exact hr _ d e
theorem sim_fad (fs:FS E c.tm c.bs K μ L sl H a.tmps W) {s f off:Nat} {y:Operand} {x d:D} (ho:o.op = .fieldAddr s y f) (hf:fieldOk c.P s f off=true) (hx:VR K μ H x (a.eval y))
  (hd:fadD x off=some d):Sim c E L o a K μ H W d ⟨sl,H⟩:=by
 generalize hy:a.eval y=v at hx
 unfold fadD at hd
 split at hd
 ·rename_i b q
  cases hd
  cases hx with
  | hp _ _ _ _ l t0 cs hm hH=>exact Sim.val fs (run_field hf ho hy W) (.hp _ _ _ _ l t0 cs hm hH)
 ·rename_i a' n i q
  cases hd
  cases hx with
  | ap _ _ _ _ _ _ blk q' l w rows kc p lk hm hH hle hcond =>
   exact Sim.val fs (run_field hf ho hy W) (.ap _ _ _ _ _ _ blk _ l w rows kc p lk hm hH hle (fun e=>by obtain⟨h1,h2⟩:=hcond e;exact⟨h1,by omega⟩))
 ·rename_i cs
  split at hd
  ·cases hd
   obtain⟨b,q,rfl,h2⟩:=hx.ip_drop off
   exact Sim.val fs (run_field hf ho hy W) h2
  ·cases hd
 ·cases hd
end
section
variable {c:CX} {E:En} {L:Nat -> Option Nat} {K:Kn} {μ:Mu} {sl:List D} {H:Heap} {a:Act} {W:World} {o:Oper}
theorem VR.row_addr {w:Nat} {rows:List (List D)} {v:Value} {x:D} (hx:x = .im w rows \/ x = .sv w rows) (h:VR K μ H x v) {j:Nat} {r:List D} (hr:rows[j]?=some r) :
  ∃ b q cp,v = .slice (some ⟨b,q,none⟩) rows.length cp /\ VR K μ H (.ip r) (.pointer (some ⟨b,q+j*w,none⟩)):=by
 rcases hx with rfl|rfl
 ·cases h with
  | im _ _ _ _ blk off cap f hc hw hk h1 hrr =>
   exact⟨blk,off,cap,rfl,.ip _ _ r blk _ (fun i=>f j i) (fun i d e=>by rw[Nat.add_assoc];exact hk j r i d hr e) (fun i d e=>h1 j r i d hr e) (fun i d e=>VR.pure (hrr j r i d hr e))⟩
 ·cases h with
  | sv _ _ _ _ blk off cap f hc hw hk h1 hrr =>
   exact⟨blk,off,cap,rfl,.ip _ _ r blk _ (fun i=>f j i) (fun i d e=>by rw[Nat.add_assoc];exact hk j r i d hr e) (fun i d e=>h1 j r i d hr e) (fun i d e=>hrr j r i d hr e)⟩
theorem sim_iad_row (fs:FS E c.tm c.bs K μ L sl H a.tmps W) {t e w j:Nat} {rows:List (List D)} {r:List D} {y z:Operand} {x ix:D} (ho:o.op = .indexAddr t y z) (hd:c.P.underlying t=some (.slice e)) (hw:sizeIs c.P e w=true)
  (hx':x = .im w rows \/ x = .sv w rows) (hx:VR K μ H x (a.eval y)) (hz:VR K μ H ix (a.eval z)) (hj:ixOf ix rows.length=some j) (hr:rows[j]?=some r):Sim c E L o a K μ H W (.ip r) ⟨sl,H⟩:=by
 obtain⟨ik,h1,h2⟩:=ixOf_eq hj hz
 obtain⟨b,q,cp,h3,h4⟩:=hx.row_addr hx' hr
 exact Sim.val fs (run_indexSl hd hw ho h1 h2 h3 W) h4
theorem sim_iad_mu (fs:FS E c.tm c.bs K μ L sl H a.tmps W) {t e w j n off len id:Nat} {rows:List (List D)} {kc:Option Nat} {p lk:Bool} {y z:Operand} {ix:D} (ho:o.op = .indexAddr t y z) (hd:c.P.underlying t=some (.slice e)) (hw:sizeIs c.P e w=true)
  (hx:VR K μ H (.mu id n off len) (a.eval y)) (harr:arr H id n=some (w,rows,kc,p,lk)) (hz:VR K μ H ix (a.eval z)) (hj:ixOf ix len=some j) :
  Sim c E L o a K μ H W (.ap id n (off+j) 0) ⟨sl,H⟩:=by
 obtain⟨ik,h1,h2⟩:=ixOf_eq hj hz
 obtain⟨hH,hn⟩:=arr_eq harr
 generalize hy:a.eval y=v at hx
 cases hx with
 | mu _ _ _ _ _ _ cap blk q l w' rows' kc' p' lk' hm hH' hle hcond =>
  rw[hH]at hH';cases hH'
  obtain⟨h3,h4,h5,h6,h7,h8⟩:=hcond hn
  rcases h3 with h3|⟨rfl,rfl⟩
  ·omega
  ·exact Sim.val fs (run_indexSl hd hw ho h1 h2 hy W) (.ap _ _ _ _ _ _ l.blk _ l w rows kc p lk hm hH hle (fun _=>⟨rfl,by rw[Nat.add_mul];omega⟩))
theorem sim_iar (fs:FS E c.tm c.bs K μ L sl H a.tmps W) {t e w n:Nat} {y z:Operand} {x ix d:D} (ho:o.op = .indexAddr t y z) (hd:c.P.underlying t=some (.array n e)) (hw:sizeIs c.P e w=true)
  (hx:VR K μ H x (a.eval y)) (hz:VR K μ H ix (a.eval z)) (hres:iarD H x ix n w=some d):Sim c E L o a K μ H W d ⟨sl,H⟩:=by
 unfold iarD at hres
 cases hj:ixOf ix n with
 | none=>rw[hj]at hres;cases hres
 | some j =>
 rw[hj]at hres
 simp only at hres
 obtain⟨ik,h1,h2⟩:=ixOf_eq hj hz
 generalize hy:a.eval y=v at hx
 split at hres
 ·rename_i b q
  cases hres
  cases hx with
  | hp _ _ _ _ l t0 cs hm hH=>exact Sim.val fs (run_indexArr hd hw ho h1 h2 hy W) (.hp _ _ _ _ l t0 cs hm hH)
 ·rename_i a' m i q
  cases hres
  cases hx with
  | ap _ _ _ _ _ _ blk q' l w' rows kc p lk hm hH hle hcond =>
   exact Sim.val fs (run_indexArr hd hw ho h1 h2 hy W) (.ap _ _ _ _ _ _ blk _ l w' rows kc p lk hm hH hle (fun e=>by obtain⟨h1,h2⟩:=hcond e;exact⟨h1,by omega⟩))
 ·rename_i cs
  split at hres
  ·cases hres
   obtain⟨b,q,rfl,h2'⟩:=hx.ip_drop (j*w)
   exact Sim.val fs (run_indexArr hd hw ho h1 h2 hy W) h2'
  ·cases hres
 ·rename_i a'
  split at hres
  ·rename_i w' rows c' p lk hH
   split at hres
   ·rename_i hcd
    cases hres
    obtain⟨rfl,hn⟩:=hcd
    cases hx with
    | aa _ _ _ l w2 rows2 c2 p2 lk2 hm hH' =>
     rw[hH]at hH';cases hH'
     exact Sim.val fs (run_indexArr hd hw ho h1 h2 hy W) (.ap _ _ _ _ _ _ l.blk _ l _ rows (some c') p lk hm hH (by omega) (fun _=>⟨rfl,by omega⟩))
   ·cases hres
  ·cases hres
 ·cases hres
theorem sim_iad (fs:FS E c.tm c.bs K μ L sl H a.tmps W) {t e w:Nat} {y z:Operand} {x ix d:D} (ho:o.op = .indexAddr t y z) (hd:c.P.underlying t=some (.slice e)) (hw:sizeIs c.P e w=true)
  (hx:VR K μ H x (a.eval y)) (hz:VR K μ H ix (a.eval z)) (hres:iadD H x ix w=some d):Sim c E L o a K μ H W d ⟨sl,H⟩:=by
 have row : ∀ w' rows,x = .im w' rows \/ x = .sv w' rows -> (match ixOf ix rows.length with
   | some j=>match rows[j]? with
    | some r=>if w'=w then some (.ip r)else none
    | none=>none
   | none=>none)=some d -> Sim c E L o a K μ H W d ⟨sl,H⟩:=by
  intro w' rows hx' h
  split at h
  ·rename_i j hj
   split at h
   ·rename_i r hr
    split at h
    ·rename_i hww
     cases h;subst hww
     exact sim_iad_row fs ho hd hw hx' hx hz hj hr
    ·cases h
   ·cases h
  ·cases h
 unfold iadD at hres
 split at hres
 ·exact row _ _ (.inl rfl) hres
 ·exact row _ _ (.inr rfl) hres
 ·split at hres
  ·rename_i w' rows kc p lk harr
   split at hres
   ·rename_i j hj
    split at hres
    ·rename_i hww
     cases hres;subst hww
     exact sim_iad_mu fs ho hd hw hx harr hz hj
    ·cases hres
   ·cases hres
  ·cases hres
 ·cases hres
theorem mu_upd_same {μ:Mu} {id:Nat} {l:Loc} (h:μ id=some l):μ.upd id l=μ:=by
 funext j
 simp only[Mu.upd]
 split
 ·rename_i hj;subst hj;exact h.symm
 ·rfl
theorem put_array (hr : HR K μ H W) {id w:Nat} {rows rows':List (List D)} {kc:Option Nat} {p:Bool} {l:Loc} (hm:μ id=some l) (hH:H[id]?=some (.ar w rows kc p false))
    (hlen:rows.length <= rows'.length) (hgrow:rows'.length=rows.length \/ ∀ c,kc=some c -> rows'.length <= c) (hwd:Wide w rows') (hfit:l.off+rows'.length*w <= l.size)
    {vs vs':Array Value} {ty:Nat} (hW:W.heap[l.blk]?=some (.cells vs ty (0,0))) (hsz:vs'.size=vs.size)
    (hrows : ∀ (K':Kn) (μ':Mu) (H':Heap),Ext K μ H K' μ' H' -> RowsAt K' μ' H' p w rows' l.off (fun o=>vs'[o]?)) :
    HR K μ (H.set id (.ar w rows' kc p false)) (W.setRow l.blk vs') /\ Nx K μ H W K μ (H.set id (.ar w rows' kc p false)) (W.setRow l.blk vs'):=by
  obtain⟨h0,hc,hl,vs0,ty0,h1,h2,h3⟩:=hr.blk id l _ hm hH
  rw[hW]at h1;cases h1
  have be:BE l (.ar w rows kc p false) l (.ar w rows' kc p false) := .ar _ _ _ _ _ _ _ _ _ _ hlen (fun _=>⟨rfl,rfl⟩) (fun _ e=>⟨rfl,e⟩)
  have hid:=hr.dom id l hm
  have hext:Ext K μ H K (μ.upd id l) (H.set id (.ar w rows' kc p false)):=by
    rw[mu_upd_same hm]
    refine⟨fun _ _ _ e=>e,fun j lj bj x y => ?_⟩
    by_cases hj:j=id
    · subst hj
      rw[hm]at x;rw[hH]at y;cases x;cases y
      exact⟨l,.ar w rows' kc p false,hm,by simp[hid],be⟩
    · exact⟨lj,bj,x,by rw[List.getElem?_set_ne (Ne.symm hj)];exact y,.refl _ _⟩
  have := hr.put (W' := W.setRow l.blk vs') id l l (.ar w rows kc p false) (.ar w rows' kc p false) hm hH rfl rfl be rfl rfl rfl (by simp) (fun r _ hne=>setRow_other W l.blk r vs' hne) (.inl rfl)
    (by simpa using hr.lt id l hm)
    ⟨hwd, fun c e => by rcases hgrow with g|g;· have:=hc c e;omega
                        · exact g c e,hfit,vs',ty,setRow_heap W l.blk vs vs' ty (0,0) hW,by omega,hrows _ _ _ hext⟩
  rwa [mu_upd_same hm]at this
theorem run_store {P:Program} {t n:Nat} (hs:sizeIs P t n=true) {y z:Operand} (ho:o.op = .store t y z) {b off ty:Nat} {vs:Array Value} (hn:(a.eval z).cells.size=n)
  (h1 : ∀ x,x∈(a.eval z).cells.toList -> x.oneCell'=true) (hy:a.eval y = .pointer (some ⟨b,off,none⟩)) (hW:W.heap[b]?=some (.cells vs ty (0,0))) (hfit:off+n <= vs.size) :
  (execOp a.eval o).run P W = .ok .skip (W.setRow b (vs.toList.take off++(a.eval z).cells.toList++vs.toList.drop (off+(a.eval z).cells.toList.length)).toArray):=by
 have:=run_storeVar (P:=P) (W:=W) hs hn h1 hW (off:=off) hfit
 simp[execOp,ho,Instr.storeAt,hy,Instr.sureAddr]at this ⊢
 rw[this]
 simp
theorem Sim.skip (fs:FS E c.tm c.bs K μ L sl H a.tmps W) {K':Kn} {μ':Mu} {H':Heap} {W':World}
  (hrun:(execOp a.eval o).run c.P W = .ok .skip W') (hr:HR K' μ' H' W') (nx:Nx K μ H W K' μ' H' W'):Sim c E L o a K μ H W .u ⟨sl,H'⟩ :=
 ⟨K',μ',W',_,hrun,fs.go hr nx,nx.ext,nx.size,.inr ⟨rfl,rfl⟩⟩
theorem sim_st_hp (fs:FS E c.tm c.bs K μ L sl H a.tmps W) {t n b off bt:Nat} {y z:Operand} {d:D} {cs vs cs':List D} (ho:o.op = .store t y z) (hs:sizeIs c.P t n=true)
  (hx:VR K μ H (.hp b off) (a.eval y)) (hz:VR K μ H d (a.eval z)) (hd:d.cellsN n=some vs) (hH:H[b]?=some (.hb bt cs)) (hput:put cs off vs=some cs') :
  Sim c E L o a K μ H W .u ⟨sl,H.set b (.hb bt cs')⟩:=by
 obtain⟨hcv,hn⟩:=cellsN_of hd hz
 obtain⟨hfit,rfl⟩:=put_eq hput
 generalize hy:a.eval y=v at hx
 cases hx with
 | hp _ _ _ _ l t0 cs0 hm hH' =>
  obtain⟨h0,ws,hW,hsz,hc⟩:=fs.hr.blk b l _ hm hH
  have hvl:vs.length=n:=by rw[hcv.1.1];simpa using hn
  have hwl:cs.length=ws.size:=by rw[hc.1.1];simp
  have hrun:=run_store (o:=o) (a:=a) (W:=W) hs ho hn hcv.2 hy hW (by omega)
  have hcr:=splice_crs hc hcv hfit
  have hid:=fs.hr.dom b l hm
  have be:BE l (.hb bt cs) l (.hb bt (cs.take off++vs++cs.drop (off+vs.length))) := .hb ..
  have hext:Ext K μ H K (μ.upd b l) (H.set b (.hb bt (cs.take off++vs++cs.drop (off+vs.length)))):=by
   rw[mu_upd_same hm]
   refine⟨fun _ _ _ e=>e,fun j lj bj x y => ?_⟩
   by_cases hj:j=b
   ·subst hj
    rw[hm]at x;rw[hH]at y;cases x;cases y
    exact⟨l,_,hm,List.getElem?_set_self hid,be⟩
   ·exact⟨lj,bj,x,by rw[List.getElem?_set_ne (Ne.symm hj)];exact y,.refl _ _⟩
  have:=fs.hr.put (W':=W.setRow l.blk (ws.toList.take off++(a.eval z).cells.toList++ws.toList.drop (off+(a.eval z).cells.toList.length)).toArray) b l l (.hb bt cs) (.hb bt (cs.take off++vs++cs.drop (off+vs.length))) hm hH rfl rfl be rfl rfl rfl (by simp) (fun r _ hne=>setRow_other W l.blk r _ hne) (.inl rfl)
   (by simpa using fs.hr.lt b l hm)
   ⟨h0,_,setRow_heap W l.blk ws _ bt (0,0) hW,by
    have:=hcv.1.1
    simp only[List.size_toArray,List.length_append,List.length_take,List.length_drop,Array.length_toList]at this ⊢
    omega,by simpa using hcr.ext hext⟩
  rw[mu_upd_same hm]at this
  exact Sim.skip fs hrun this.1 this.2
end
section
variable {c:CX} {E:En} {L:Nat -> Option Nat} {K:Kn} {μ:Mu} {sl:List D} {H:Heap} {a:Act} {W:World} {o:Oper}
theorem freezeL_sound {H':Heap} {ds ds':List D} {vs:List Value} (h:freezeL deep H ds=some (ds',H')) (hr:HR K μ H W) (hc:VRs K μ H ds vs) :
  ∃ K',HR K' μ H' W /\ Nx K μ H W K' μ H' W /\ VRs K' mu0 [] ds' vs:=by
 obtain ⟨K',hr',nx,hlen,hpt⟩:=(freeze_all deep).2.1 ds H H' ds' K μ W (fun j=>vs.getD j undef) h hr (fun j d e=>by
  have hj:=lt_of_get e
  rw[hc.1]at hj
  refine hc.2 j d _ e ?_
  rw[List.getD_eq_getElem?_getD,List.getElem?_eq_getElem hj];rfl)
 refine⟨K',hr',nx,by rw[hlen,hc.1],fun j d v e e' => ?_⟩
 have:=hpt j d e
 rwa [List.getD_eq_getElem?_getD,e',Option.getD_some]at this
structure RowsV (K:Kn) (μ:Mu) (H:Heap) (p:Bool) (w:Nat) (rows:List (List D)) (vs:List Value):Prop where
 wide:Wide w rows
 len:vs.length=rows.length*w
 cell : ∀ (i:Nat) (r:List D) (j:Nat) (d:D),rows[i]?=some r -> r[j]?=some d -> ∃ v,vs[i*w+j]?=some v /\ Cell K μ H p d v
 one : ∀ v,v∈vs -> v.oneCell'=true
theorem RowsV.ext {K':Kn} {μ':Mu} {H':Heap} {p:Bool} {w:Nat} {rows:List (List D)} {vs:List Value} (h:RowsV K μ H p w rows vs) (e:Ext K μ H K' μ' H'):RowsV K' μ' H' p w rows vs :=
 ⟨h.wide,h.len,fun i r j d x y=>by obtain⟨v,h1,h2⟩:=h.cell i r j d x y;exact⟨v,h1,h2.ext e⟩,h.one⟩
theorem freezeRows_sound {H':Heap} {w:Nat} {rows rows':List (List D)} {vs:List Value} {p:Bool} (h:freezeRows H rows=some (rows',H')) (hr:HR K μ H W) (hc:RowsV K μ H p w rows vs) :
  ∃ K',HR K' μ H' W /\ Nx K μ H W K' μ H' W /\ RowsV K' mu0 [] true w rows' vs /\ rows'.length=rows.length:=by
 obtain ⟨K',hr',nx,hlen,hwid,hpt⟩:=(freeze_all deep).2.2 rows H H' rows' K μ W (fun i j=>vs.getD (i*w+j) undef) h hr (fun i r j d e e'=>by
  obtain⟨v,h1,h2⟩:=hc.cell i r j d e e'
  rw[List.getD_eq_getElem?_getD,h1];exact h2.vr)
 have get : ∀ (i:Nat) (r:List D),rows'[i]?=some r -> ∃ r0:List D,rows[i]?=some r0 /\ r.length=r0.length:=fun i r e=>by
  have hi:=lt_of_get e
  have h0:rows[i]?=some (rows[i]'(by omega)):=List.getElem?_eq_getElem (by omega)
  exact⟨_,h0,hwid i _ r h0 e⟩
 refine⟨K',hr',nx,⟨fun i r e => ?_,by rw[hc.len,hlen],fun i r j d e e' => ?_,hc.one⟩,hlen⟩
 ·obtain⟨r0,h0,hl⟩:=get i r e
  rw[hl];exact hc.wide i r0 h0
 ·obtain⟨r0,h0,hl⟩:=get i r e
  have hj:=lt_of_get e'
  rw[hl]at hj
  obtain⟨v,h1,h2⟩:=hc.cell i r0 j _ h0 (List.getElem?_eq_getElem hj)
  have:=hpt i r j d e e'
  rw[List.getD_eq_getElem?_getD,h1,Option.getD_some]at this
  exact⟨v,h1,h2.1,this⟩
theorem Cell.weaken {p:Bool} {d:D} {v:Value} (h:Cell K mu0 [] true d v):Cell K μ H p d v:=by
 refine⟨h.1, ?_⟩
 cases p with
 | true=>exact h.2
 | false=>exact VR.pure h.2
theorem RowsV.weaken {p:Bool} {w:Nat} {rows:List (List D)} {vs:List Value} (h:RowsV K mu0 [] true w rows vs):RowsV K μ H p w rows vs :=
 ⟨h.wide,h.len,fun i r j d x y=>by obtain⟨v,h1,h2⟩:=h.cell i r j d x y;exact⟨v,h1,h2.weaken⟩,h.one⟩
theorem rowsOf_sound (hr:HR K μ H W) {x:D} {w:Nat} {rows:List (List D)} {v:Value} (h:rowsOf H w x=some rows) (hx:VR K μ H x v) :
  ∃ vs,RowsV K μ H false w rows vs /\ ((v = .slice none 0 0 /\ rows=[] /\ vs=[]) \/
   (∃ (ad:Addr) (n cp:Nat),v = .slice (some ad) n cp /\ n=rows.length /\ ∀ (j:Nat) (u:Value),vs[j]?=some u -> W.cell? (ad.add j)=some u) \/
   (w=1 /\ ∃ s:ByteArray,v = .string s /\ s.size=rows.length /\ vs=s.data.toList.map (fun b=>Value.int .u8 b.toNat))):=by
 have nul:RowsV K μ H false w [] []:=⟨fun i r e=>by simp at e,by simp,fun i r j d e=>by simp at e,fun v e=>by simp at e⟩
 have known : ∀ (rows:List (List D)) (blk off:Nat) (f:Nat -> Nat -> Value),Wide w rows -> (∀ (i:Nat) (r:List D) (j:Nat) (d:D),rows[i]?=some r -> r[j]?=some d -> W.cell? ⟨blk,off+(i*w+j),none⟩=some (f i j) /\ (f i j).oneCell'=true /\ VR K μ H d (f i j)) ->
   ∃ vs,RowsV K μ H false w rows vs /\ ∀ (j:Nat) (u:Value),vs[j]?=some u -> W.cell? ⟨blk,off+j,none⟩=some u:=by
  intro rows blk off f hw hf
  have key : ∀ k,k<rows.length*w -> ∃ u,W.cell? ⟨blk,off+k,none⟩=some u /\ u.oneCell'=true:=by
   intro k hk
   rw[<- flatten_length hw]at hk
   obtain⟨i,j,r,h1,h2,rfl⟩:=flatten_split hw (List.getElem?_eq_getElem hk)
   obtain⟨a1,a2,a3⟩:=hf i r j _ h1 h2
   exact⟨_,a1,a2⟩
  refine⟨(List.range (rows.length*w)).map (fun k=>(W.cell? ⟨blk,off+k,none⟩).getD undef),⟨hw,by simp,fun i r j d e e' => ?_,fun u hu => ?_⟩,fun k u e => ?_⟩
  ·obtain⟨a1,a2,a3⟩:=hf i r j d e e'
   have hlt:i*w+j<rows.length*w:=by rw[<- flatten_length hw];exact lt_of_get (flatten_get hw e e')
   exact⟨f i j,by simp[hlt,a1],a2,a3⟩
  ·obtain⟨k,hk,rfl⟩:=List.mem_map.1 hu
   obtain⟨u',h1,h2⟩:=key k (by simpa using hk)
   simp only[h1,Option.getD_some,h2]
  ·rw [List.getElem?_map]at e
   cases hk:(List.range (rows.length*w))[k]? with
   | none=>rw[hk]at e;cases e
   | some k' =>
    rw[hk]at e
    have hk':=lt_of_get hk
    simp only[List.length_range]at hk'
    have:k'=k:=by rw[List.getElem?_range hk']at hk;exact(Option.some.inj hk).symm
    subst this
    obtain⟨u',h1,h2⟩:=key k' hk'
    simp only[Option.map_some,h1,Option.getD_some,Option.some.injEq]at e
    subst e;exact h1
 unfold rowsOf at h
 split at h
 ·cases h;cases hx;exact⟨[],nul,.inl ⟨rfl,rfl,rfl⟩⟩
 ·cases h
  cases hx with
  | z _ _ ad=>exact⟨[],nul,.inr (.inl ⟨ad,0,0,rfl,rfl,fun j u e=>by simp at e⟩)⟩
 ·split at h
  ·rename_i hw
   cases h;subst hw
   cases hx with
   | im _ _ _ _ blk off cap f hc hw hk h1 hrr =>
    obtain⟨vs,a1,a2⟩:=known rows blk off f hw (fun i r j d e e'=>⟨hr.kn _ _ _ (hk i r j d e e'),h1 i r j d e e',VR.pure (hrr i r j d e e')⟩)
    exact⟨vs,a1,.inr (.inl ⟨⟨blk,off,none⟩,_,cap,rfl,rfl,fun j u e=>by rw[add_none];exact a2 j u e⟩)⟩
  ·cases h
 ·split at h
  ·rename_i hw
   cases h;subst hw
   cases hx with
   | sv _ _ _ _ blk off cap f hc hw hk h1 hrr =>
    obtain⟨vs,a1,a2⟩:=known rows blk off f hw (fun i r j d e e'=>⟨hr.kn _ _ _ (hk i r j d e e'),h1 i r j d e e',hrr i r j d e e'⟩)
    exact⟨vs,a1,.inr (.inl ⟨⟨blk,off,none⟩,_,cap,rfl,rfl,fun j u e=>by rw[add_none];exact a2 j u e⟩)⟩
  ·cases h
 ·rename_i id n off len
  split at h
  ·rename_i w' rows0 kc p lk harr
   obtain⟨hH,hn⟩:=arr_eq harr
   split at h
   ·rename_i hcd
    obtain⟨rfl,hfit⟩:=hcd
    cases h
    cases hx with
    | mu _ _ _ _ _ _ cap blk q l w2 rows2 kc2 p2 lk2 hm hH' hle hcond =>
     rw[hH]at hH';cases hH'
     obtain⟨h3,h4,h5,h6,h7,h8⟩:=hcond hn
     have hwd:Wide w' rows0:=by
      have:=hr.blk id l _ hm hH
      cases lk with
      | false=>exact this.1
      | true=>exact this.2.1
     have hwd':Wide w' ((rows0.drop off).take len):=fun i r e=>hwd _ r (part_get _ _ _ _ _ e).1
     have hlen:=part_length rows0 off len n hn hfit
     obtain ⟨vs,a1,a2⟩:=known ((rows0.drop off).take len) blk q (fun i j=>(W.cell? ⟨blk,q+(i*w'+j),none⟩).getD undef) hwd' (fun i r j d e e'=>by
      obtain⟨e1,e2⟩:=part_get _ _ _ _ _ e
      obtain⟨_,vs,hc,hcell⟩:=arr_get hr hm hH e1
      have hj:j<vs.length:=by rw[<- hc.1.1];exact lt_of_get e'
      rcases h3 with h3|⟨rfl,rfl⟩
      ·omega
      ·have:=hcell j _ (List.getElem?_eq_getElem hj)
       rw[show l.off+off*w'+(i*w'+j)=l.off+((off+i)*w'+j)by rw[Nat.add_mul];omega,this]
       exact⟨rfl,hc.2 _ (List.getElem_mem hj),hc.1.2 j d _ e' (List.getElem?_eq_getElem hj)⟩)
     exact⟨vs,a1,.inr (.inl ⟨⟨blk,q,none⟩,len,cap,rfl,hlen.symm,fun j u e=>by rw[add_none];exact a2 j u e⟩)⟩
   ·cases h
  ·cases h
 ·rename_i l
  split at h
  ·rename_i hw
   cases h;subst hw
   have:=hx.s_inv
   subst this
   refine⟨l.map (fun b=>Value.int .u8 b.toNat),⟨fun i r e => ?_,by simp,fun i r j d e e' => ?_,fun v hv => ?_⟩,.inr (.inr ⟨rfl,⟨l.toArray⟩,rfl,by simp[ByteArray.size],by simp⟩)⟩
   ·rw[List.getElem?_map]at e
    cases hl:l[i]? with
    | none=>rw[hl]at e;cases e
    | some b=>rw[hl]at e;simp at e;subst e;rfl
   ·rw [List.getElem?_map]at e
    cases hl:l[i]? with
    | none=>rw[hl]at e;cases e
    | some b =>
     rw[hl]at e;simp at e;subst e
     cases j with
     | zero =>
      simp at e';subst e'
      exact⟨.int .u8 b.toNat,by simp[hl],rfl,.i ..⟩
     | succ j=>simp at e'
   ·obtain⟨b,hb,rfl⟩:=List.mem_map.1 hv;rfl
  ·cases h
 ·cases h
end
section
variable {c:CX} {E:En} {L:Nat -> Option Nat} {K:Kn} {μ:Mu} {sl:List D} {H:Heap} {a:Act} {W:World} {o:Oper}
theorem CRs.cell {ds:List D} {vs:List Value} (h:VRs K μ H ds vs) (h1 : ∀ v,v∈vs -> v.oneCell'=true) {j:Nat} {d:D} (hj:ds[j]?=some d) :
  ∃ v,vs[j]?=some v /\ v.oneCell'=true /\ VR K μ H d v:=by
 have hlt:=lt_of_get hj
 rw[h.1]at hlt
 exact⟨vs[j],List.getElem?_eq_getElem hlt,h1 _ (List.getElem_mem hlt),h.2 j d _ hj (List.getElem?_eq_getElem hlt)⟩
theorem putRow_sound (hr:HR K μ H W) {id m i off:Nat} {vs:List D} {ws:List Value} {H':Heap} {w:Nat} {rows:List (List D)} {kc:Option Nat} {p lk:Bool} {v:Value} (harr:arr H id m=some (w,rows,kc,p,lk))
  (h:putRow H id m i off vs=some H') (hx:VR K μ H (.ap id m i off) v) (hlen:vs.length=ws.length)
  (hc : ∀ (j:Nat) (d:D),vs[j]?=some d -> ∃ u,ws[j]?=some u /\ Cell K μ H p d u) :
  ∃ b q cur ty,v = .pointer (some ⟨b,q,none⟩) /\ W.heap[b]?=some (.cells cur ty (0,0)) /\ q+ws.length <= cur.size /\
   HR K μ H' (W.setRow b (cur.toList.take q++ws++cur.toList.drop (q+ws.length)).toArray) /\ Nx K μ H W K μ H' (W.setRow b (cur.toList.take q++ws++cur.toList.drop (q+ws.length)).toArray):=by
 unfold putRow at h
 rw[harr]at h
 obtain⟨hH,hn⟩:=arr_eq harr
 cases lk with
 | true=>cases h
 | false =>
 simp only at h
 split at h
 ·rename_i r hi
  split at h
  ·rename_i r' hput
   cases h
   obtain⟨hfit,rfl⟩:=put_eq hput
   cases hx with
   | ap _ _ _ _ _ _ blk q l w2 rows2 kc2 p2 lk2 hm hH' hle hcond =>
    rw[hH]at hH';cases hH'
    obtain⟨rfl,rfl⟩:=hcond hn
    obtain⟨hwd,hcap,hl,cur,ty,hW,hsz,hrows⟩:=hr.blk id l _ hm hH
    have hrw:r.length=w:=hwd i r hi
    have hilt:=lt_of_get hi
    have hmul:i*w+w <= rows.length*w:=by
     have:(i+1)*w <= rows.length*w:=Nat.mul_le_mul_right w hilt
     rw[Nat.add_mul]at this;omega
    have hwd':Wide w (rows.set i (r.take off++vs++r.drop (off+vs.length))):=fun i' r2 e=>by
     rw[List.getElem?_set]at e
     by_cases hii:i=i'
     ·subst hii
      simp[hilt]at e
      subst e;simp only[List.length_append,List.length_take,List.length_drop];omega
     ·rw[if_neg hii]at e
      exact hwd i' r2 e
    have hq:l.off+i*w+off+ws.length <= cur.size:=by omega
    refine⟨l.blk,_,cur,ty,rfl,hW,hq, ?_⟩
    refine put_array hr hm hH (by simp) (.inl (by simp)) hwd' (by simpa using hl) hW (by simp;omega) ?_
    intro K' μ' H' e i' r2 j d x y
    simp only[List.getElem?_toArray]
    rw[splice_get _ _ _ (by simpa using hq)]
    by_cases hii:i=i'
    ·subst hii
     rw[List.getElem?_set_self hilt]at x
     by_cases triv:True
     ·cases x
      rw[splice_get _ _ _ hfit]at y
      have hj:j<w:=by
       have:=lt_of_get (α:=D) (xs:=r.take off++vs++r.drop (off+vs.length)) (i:=j) (x:=d) (by rw[splice_get _ _ _ hfit];exact y)
       simp only[List.length_append,List.length_take,List.length_drop]at this;omega
      by_cases c1:j<off
      ·rw[if_pos c1]at y
       rw[if_pos (by omega)]
       obtain⟨u,hu,hcu⟩:=hrows i r j d hi y
       exact⟨u,by simpa using hu,hcu.ext e⟩
      ·rw [if_neg c1]at y
       rw[if_neg (by omega)]
       by_cases c2:j<off+vs.length
       ·rw[if_pos c2]at y
        rw[if_pos (by omega)]
        obtain⟨u,hu,hcu⟩:=hc _ d y
        exact⟨u,by rw[show l.off+(i*w+j)-(l.off+i*w+off)=j-off by omega];exact hu,hcu.ext e⟩
       ·rw[if_neg c2]at y
        rw[if_neg (by omega)]
        obtain⟨u,hu,hcu⟩:=hrows i r j d hi y
        exact⟨u,by simpa using hu,hcu.ext e⟩
     ·exact absurd trivial triv
    ·rw [List.getElem?_set_ne hii]at x
     have hj:j<w:=by rw[<- hwd i' r2 x];exact lt_of_get y
     obtain⟨u,hu,hcu⟩:=hrows i' r2 j d x y
     refine⟨u, ?_,hcu.ext e⟩
     rcases Nat.lt_or_gt_of_ne hii with g|g
     ·have:(i+1)*w <= i'*w:=Nat.mul_le_mul_right w g
      rw[Nat.add_mul]at this
      rw[if_neg (by omega),if_neg (by omega)]
      simpa using hu
     ·have:(i'+1)*w <= i*w:=Nat.mul_le_mul_right w g
      rw[Nat.add_mul]at this
      rw[if_pos (by omega)]
      simpa using hu
  ·cases h
 ·cases h
theorem sim_st (fs:FS E c.tm c.bs K μ L sl H a.tmps W) {t n:Nat} {y z:Operand} {x d:D} {vs:List D} {H':Heap} (ho:o.op = .store t y z) (hs:sizeIs c.P t n=true)
  (hx:VR K μ H x (a.eval y)) (hz:VR K μ H d (a.eval z)) (hd:d.cellsN n=some vs) (h:stAt H x vs=some H'):Sim c E L o a K μ H W .u ⟨sl,H'⟩:=by
 obtain⟨hcv,hn⟩:=cellsN_of hd hz
 unfold stAt at h
 split at h
 ·rename_i b off
  split at h
  ·rename_i cs hH
   split at h
   ·rename_i cs' hput
    cases h
    exact sim_st_hp fs ho hs hx hz hd hH hput
   ·cases h
  ·cases h
 ·rename_i id m i off
  split at h
  ·rename_i w rows kc lk harr
   split at h
   ·rename_i vs' H1 hf
    split at h
    ·rename_i w' rows' kc' lk' harr'
     obtain⟨K',hr',nx,hvs⟩:=freezeL_sound hf fs.hr hcv.1
     obtain ⟨b,q,cur,ty,hp,hW,hfit,hr2,nx2⟩:=putRow_sound hr' harr' h (hx.ext nx.ext) hvs.1 (fun j d' e=>by
      obtain⟨u,h1,h2,h3⟩:=CRs.cell hvs hcv.2 e
      exact⟨u,h1,h2,h3⟩)
     have hsz:(a.eval z).cells.toList.length=n:=by simpa using hn
     exact Sim.skip fs (run_store (o:=o) (a:=a) hs ho hn hcv.2 hp hW (by omega)) hr2 (nx.trans nx2)
    ·cases h
   ·cases h
  ·rename_i w rows kc lk harr
   obtain ⟨b,q,cur,ty,hp,hW,hfit,hr2,nx2⟩:=putRow_sound fs.hr harr h hx hcv.1.1 (fun j d' e=>by
    obtain⟨u,h1,h2,h3⟩:=CRs.cell hcv.1 hcv.2 e
    exact⟨u,h1,h2,h3⟩)
   have hsz:(a.eval z).cells.toList.length=n:=by simpa using hn
   exact Sim.skip fs (run_store (o:=o) (a:=a) hs ho hn hcv.2 hp hW (by omega)) hr2 nx2
  ·cases h
 ·cases h
structure Src (P:Program) (W:World) (size:Nat) (x:Value) (n:Nat) (ws:List Value):Prop where
 len : ∀ W',(Builtin.lenOf x).run P W' = .ok n W'
 cells : ∀ W',W'.heap=W.heap -> (Builtin.firstCells size n x).run P W' = .ok ws.toArray W'
 num:ws.length=n*size
theorem src_of (hr:HR K μ H W) {P:Program} {x:D} {w:Nat} {rows:List (List D)} {v:Value} (h:rowsOf H w x=some rows) (hx:VR K μ H x v) :
  ∃ ws,RowsV K μ H false w rows ws /\ Src P W w v rows.length ws:=by
 obtain⟨vs,hv,hc⟩:=rowsOf_sound hr h hx
 refine⟨vs,hv, ?_⟩
 rcases hc with⟨rfl,rfl,rfl⟩|⟨ad,n,cp,rfl,rfl,hcell⟩|⟨rfl,s,rfl,hs,rfl⟩
 ·exact⟨fun W'=>by simp[Builtin.lenOf],fun W' _=>by simp[Builtin.firstCells],by simp⟩
 ·refine ⟨fun W'=>by simp[Builtin.lenOf],fun W' hW' => ?_,hv.len⟩
  exact run_firstCells_some W' w rows.length ad rows.length cp vs hv.len (fun j u e=>by
   have:=hcell j u e
   unfold World.cell? at this ⊢
   rw[hW'];exact this)
 ·refine ⟨fun W'=>by simp[Builtin.lenOf,hs],fun W' _ => ?_,by rw[List.length_map, <- hs,Nat.mul_one];rfl⟩
  have hex:s.extract 0 rows.length=s:=by
   rw[<- hs]
   exact ByteArray.extract_zero_size
  simp only[Builtin.firstCells,hex,Sem.run_pure]
  congr 1
  apply Array.ext'
  simp
end
section
variable {c:CX} {E:En} {L:Nat -> Option Nat} {K:Kn} {μ:Mu} {sl:List D} {H:Heap} {a:Act} {W:World} {o:Oper}
structure AppT (P:Program) (t e w bytes:Nat) (z:Value):Prop where
 t:P.underlying t=some (.slice e)
 info : ∃ i,P.info? e=some i /\ i.size=w /\ i.bytes=bytes /\ i.zero=some z
 zs:z.cells.size=w
 pos:0<w
structure SrcT (P:Program) (W:World) (u bytes:Nat) (z:Value) (w:Nat) (x:Value) (n:Nat) (ws:List Value):Prop where
 how:(((∃ e',P.underlying u=some (.slice e')) \/ P.underlying u=some .string) /\ Src P W w x n ws) \/ ((∃ k,P.underlying u=some (.int k)) /\ x = .int .i64 n /\ n*bytes <= 140737488355328 /\ n <= 140737488355328 /\ ws=(Builtin.zeroCells z.cells n).toList)
theorem zc_zero {z:Array Value}:Builtin.zeroCells z 0 = #[]:=by simp[Builtin.zeroCells]
theorem wrap_n {n:Nat} (h:n <= 140737488355328):IntKind.i64.wrap (n:Int)=n:=IntWalk.i64_in _ (by omega)
theorem run_app_zero {P:Program} {t u e w bytes ty:Nat} {z x:Value} (ht:AppT P t e w bytes z) (hs:SrcT P W u bytes z w x 0 []) (base:Option Addr) (sLen sCap:Nat) (hle:sLen <= sCap) :
  (Builtin.append_ #[t,u] ty #[.slice base sLen sCap,x]).run P W = .ok (.slice base sLen sCap) W:=by
 obtain⟨i,hi,h1,h2,h3⟩:=ht.info
 rcases hs.how with⟨hu,hs⟩|⟨⟨k,hu⟩,rfl,_,_,_⟩
 ·have hl:=hs.len W
  have hc:=hs.cells W rfl
  rcases hu with⟨e',hu⟩|hu <;>
   (cases base<;>simp[Builtin.append_,run_underlying ht.t,run_underlying hu,sizeOf,typeInfo,hi,h1,hl,hc,hle,storeCells])
 ·have w0:IntKind.i64.wrap 0=0:=rfl
  cases base<;>simp[Builtin.append_,run_underlying ht.t,run_underlying hu,sizeOf,typeInfo,hi,hle,storeCells,asInt,asIntOf,w0]
theorem run_app_room {P:Program} {t u e w bytes ty n:Nat} {z x:Value} {ws:List Value} (ht:AppT P t e w bytes z) (hs:SrcT P W u bytes z w x n ws) {b q sLen sCap el:Nat} {cur:Array Value}
  (hW:W.heap[b]?=some (.cells cur el (0,0))) (hroom:sLen+n <= sCap) (hfit:q+sLen*w+ws.length <= cur.size) (h1 : ∀ v,v∈ws -> v.oneCell'=true) :
  (Builtin.append_ #[t,u] ty #[.slice (some ⟨b,q,none⟩) sLen sCap,x]).run P W =
   .ok (.slice (some ⟨b,q,none⟩) (sLen+n) sCap) (W.setRow b (cur.toList.take (q+sLen*w)++ws++cur.toList.drop (q+sLen*w+ws.length)).toArray):=by
 obtain⟨i,hi,g1,g2,g3⟩:=ht.info
 have hst:=run_storeCells_at P b (q+sLen*w) el ws 0 cur W hW (by simpa using hfit) h1
 simp only[Nat.add_zero]at hst
 rcases hs.how with⟨hu,hs⟩|⟨⟨k,hu⟩,rfl,hb,hn,hws⟩
 ·have hl:=hs.len W
  have hc:=hs.cells W rfl
  rcases hu with⟨e',hu⟩|hu <;>
   simp[Builtin.append_,run_underlying ht.t,run_underlying hu,sizeOf,typeInfo,hi,g1,hl,hc,hroom,add_none,hst]
 ·have w1:=wrap_n hn
  have d0 : ¬ ((n:Int)<0):=by omega
  have hb':((n*bytes:Nat):Int) <= 140737488355328:=Int.ofNat_le.2 hb
  have d1 : ¬ (281474976710656<(n:Int)*(i.bytes:Int)):=by rw[g2, <- Int.natCast_mul];omega
  by_cases h0:n=0
  ·subst h0
   have hws0:ws=[]:=by rw[hws,zc_zero]
   subst hws0
   simp[Builtin.append_,run_underlying ht.t,run_underlying hu,sizeOf,typeInfo,hi,g1,asInt,asIntOf,show IntKind.i64.wrap 0=0 from rfl,show sLen <= sCap by omega,add_none,hst]
  ·have hp : ¬ (n*w=0):=Nat.mul_ne_zero h0 (by have:=ht.pos;omega)
   have ea:(Builtin.zeroCells z.cells n).toList=ws:=hws.symm
   simp[Builtin.append_,run_underlying ht.t,run_underlying hu,sizeOf,typeInfo,zeroValue,hi,g1,g3,asInt,asIntOf,w1,d0,d1,hp,hroom,add_none,ea,hst]
theorem run_app_grow {P:Program} {t u e w bytes ty n:Nat} {z x:Value} {ws olds:List Value} (ht:AppT P t e w bytes z) (hs:SrcT P W u bytes z w x n ws) {base:Option Addr} {sLen sCap:Nat}
    (ho : ∀ W',W'.heap=W.heap -> (Builtin.firstCells w sLen (.slice base sLen sCap)).run P W' = .ok olds.toArray W') (hg:sCap<sLen+n)
    (hroom:room (sLen+n) bytes=true) :
    ∃ cp,sLen+n <= cp /\ (Builtin.append_ #[t,u] ty #[.slice base sLen sCap,x]).run P W =
      .ok (.slice (some ⟨W.heap.size,0,none⟩) (sLen+n) cp) (W.drew.alloc (.cells (olds++ws++(Builtin.zeroCells z.cells (cp-(sLen+n))).toList).toArray e)):=by
  obtain⟨i,hi,g1,g2,g3⟩:=ht.info
  have hold:=ho W.drew rfl
  simp only[room,decide_eq_true_eq]at hroom
  obtain⟨hb,hn44⟩:=hroom
  have hnn : ¬ (sLen+n <= sCap):=by omega
  have h63 : ¬ (9223372036854775807<((sLen:Int)+(n:Int))):=by omega
  have hfit:=growslice_fits (bytes:=bytes) hg (by omega)
  have h48 : ¬ (281474976710656<Builtin.nextslicecap (sLen+n) sCap*i.bytes):=by rw[g2];omega
  refine⟨grownCap W (sLen+n) sCap e,grownCap_ge W _ _ e, ?_⟩
  rcases hs.how with⟨hu,hs⟩|⟨⟨k,hu⟩,rfl,hb2,hn,hws⟩
  · have hl:=hs.len W
    have hc:=hs.cells W.drew rfl
    rcases hu with⟨e',hu⟩|hu <;>
      (simp[Builtin.append_,run_underlying ht.t,run_underlying hu,sizeOf,typeInfo,zeroValue,hi,g1,g3,hl,hc,hnn,h63,h48,Question.forced,hold,newRow,grownCap]
       congr 2
       apply Array.ext'
       simp)
  · have w1:=wrap_n hn
    have d0 : ¬ ((n:Int)<0):=by omega
    have hb':((n*bytes:Nat):Int) <= 140737488355328:=Int.ofNat_le.2 hb2
    have d1 : ¬ (281474976710656<(n:Int)*(i.bytes:Int)):=by rw[g2, <- Int.natCast_mul];omega
    by_cases h0:n=0
    · subst h0
      have hws0:ws=[]:=by rw[hws,zc_zero]
      subst hws0
      have k1 : ¬ (sLen <= sCap):=by omega
      have k2 : ¬ (9223372036854775807<(sLen:Int)):=by omega
      have k3 : ¬ (281474976710656<Builtin.nextslicecap sLen sCap*i.bytes):=h48
      simp[Builtin.append_,run_underlying ht.t,run_underlying hu,sizeOf,typeInfo,zeroValue,hi,g1,g3,asInt,asIntOf,show IntKind.i64.wrap 0=0 from rfl,k1,k2,k3,Question.forced,hold,newRow,grownCap]
      congr 2
      apply Array.ext'
      simp
    · have hp : ¬ (n*w=0):=Nat.mul_ne_zero h0 (by have:=ht.pos;omega)
      subst hws
      simp[Builtin.append_,run_underlying ht.t,run_underlying hu,sizeOf,typeInfo,zeroValue,hi,g1,g3,asInt,asIntOf,w1,d0,d1,hp,hnn,h63,h48,Question.forced,hold,newRow,grownCap]
      congr 2
      apply Array.ext'
      simp
theorem RowsV.append {p:Bool} {w:Nat} {A B:List (List D)} {az bs:List Value} (ha:RowsV K μ H p w A az) (hb:RowsV K μ H p w B bs):RowsV K μ H p w (A++B) (az++bs) where
 wide:=fun i r e=>by
  by_cases h:i<A.length
  ·rw[List.getElem?_append_left h]at e;exact ha.wide i r e
  ·rw[List.getElem?_append_right (by omega)]at e;exact hb.wide _ r e
 len:=by rw[List.length_append,List.length_append,ha.len,hb.len,Nat.add_mul]
 cell:=fun i r j d e e'=>by
  by_cases h:i<A.length
  ·rw[List.getElem?_append_left h]at e
   obtain⟨v,h1,h2⟩:=ha.cell i r j d e e'
   exact⟨v,by rw[List.getElem?_append_left (lt_of_get h1)];exact h1,h2⟩
  ·rw[List.getElem?_append_right (by omega)]at e
   obtain⟨v,h1,h2⟩:=hb.cell _ r j d e e'
   refine⟨v, ?_,h2⟩
   have hm:A.length*w <= i*w:=Nat.mul_le_mul_right w (by omega)
   rw[List.getElem?_append_right (by rw[ha.len];omega),ha.len,show i*w+j-A.length*w=(i-A.length)*w+j by rw[Nat.sub_mul];omega]
   exact h1
 one:=fun v hv=>by
  rcases List.mem_append.1 hv with h|h
  ·exact ha.one v h
  ·exact hb.one v h
theorem RowsV.at {p:Bool} {w:Nat} {rows:List (List D)} {vs rest:List Value} (h:RowsV K μ H p w rows vs):RowsAt K μ H p w rows 0 (fun o=>(vs++rest).toArray[o]?):=fun i r j d e e'=>by
 obtain⟨v,h1,h2⟩:=h.cell i r j d e e'
 exact⟨v,by simp only[List.getElem?_toArray,Nat.zero_add];rw[List.getElem?_append_left (lt_of_get h1)];exact h1,h2⟩
theorem arr_wide (hr:HR K μ H W) {id w:Nat} {rows:List (List D)} {kc:Option Nat} {p lk:Bool} {l:Loc} (hm:μ id=some l) (hH:H[id]?=some (.ar w rows kc p lk)):Wide w rows:=by
 have:=hr.blk id l _ hm hH
 cases lk with
 | false=>exact this.1
 | true=>exact this.2.1
theorem arr_part (hr:HR K μ H W) {id w off len cap blk q:Nat} {rows:List (List D)} {kc:Option Nat} {p lk:Bool} {l:Loc} (hm:μ id=some l) (hH:H[id]?=some (.ar w rows kc p lk))
  (hfit:off+len <= rows.length) (hcap:len <= cap) (hadr:cap=0 \/ (blk=l.blk /\ q=l.off+off*w)) :
  ∃ vs,RowsV K μ H p w ((rows.drop off).take len) vs /\ ∀ (j:Nat) (u:Value),vs[j]?=some u -> W.cell? ⟨blk,q+j,none⟩=some u:=by
 have hwd:=arr_wide hr hm hH
 have hwd':Wide w ((rows.drop off).take len):=fun i r e=>hwd _ r (part_get _ _ _ _ _ e).1
 have hlen:=part_length rows off len rows.length rfl hfit
 have key : ∀ i r j d,((rows.drop off).take len)[i]?=some r -> r[j]?=some d -> ∃ u,W.cell? ⟨blk,q+(i*w+j),none⟩=some u /\ Cell K μ H p d u:=by
  intro i r j d e e'
  obtain⟨e1,e2⟩:=part_get _ _ _ _ _ e
  rcases hadr with h3|⟨rfl,rfl⟩
  ·omega
  ·rw [show l.off+off*w+(i*w+j)=l.off+((off+i)*w+j)by rw[Nat.add_mul];omega]
   cases lk with
   | false =>
    obtain⟨h0,hc,hl,vs,ty,h1,h2,h3⟩:=hr.blk id l _ hm hH
    obtain⟨u,hu,hcu⟩:=h3 (off+i) r j d e1 e'
    exact⟨u,by rw[cell_of_row W l.blk _ vs ty _ h1];exact hu,hcu⟩
   | true =>
    obtain⟨rfl,h0,hc,h3⟩:=hr.blk id l _ hm hH
    obtain⟨u,hu,hcu⟩:=h3 (off+i) r j d e1 e'
    exact⟨u,hr.kn _ _ _ hu,hcu⟩
 have flat : ∀ k,k<len*w -> ∃ u,W.cell? ⟨blk,q+k,none⟩=some u /\ u.oneCell'=true:=by
  intro k hk
  rw[<- hlen, <- flatten_length hwd']at hk
  obtain⟨i,j,r,h1,h2,rfl⟩:=flatten_split hwd' (List.getElem?_eq_getElem hk)
  obtain⟨u,a1,a2⟩:=key i r j _ h1 h2
  exact⟨u,a1,a2.1⟩
 refine⟨(List.range (len*w)).map (fun k=>(W.cell? ⟨blk,q+k,none⟩).getD undef),⟨hwd',by simp[hlen],fun i r j d e e' => ?_,fun u hu => ?_⟩,fun k u e => ?_⟩
 ·obtain⟨u,a1,a2⟩:=key i r j d e e'
  have hlt:i*w+j<len*w:=by rw[<- hlen, <- flatten_length hwd'];exact lt_of_get (flatten_get hwd' e e')
  exact⟨u,by simp[hlt,a1],a2⟩
 ·obtain⟨k,hk,rfl⟩:=List.mem_map.1 hu
  obtain⟨u',h1,h2⟩:=flat k (by simpa using hk)
  simp only[h1,Option.getD_some,h2]
 ·rw [List.getElem?_map]at e
  cases hk:(List.range (len*w))[k]? with
  | none=>rw[hk]at e;cases e
  | some k' =>
   rw[hk]at e
   have hk':=lt_of_get hk
   simp only[List.length_range]at hk'
   have:k'=k:=by rw[List.getElem?_range hk']at hk;exact(Option.some.inj hk).symm
   subst this
   obtain⟨u',h1,h2⟩:=flat k' hk'
   simp only[Option.map_some,h1,Option.getD_some,Option.some.injEq]at e
   subst e;exact h1
theorem run_old {P:Program} {w len cap b q:Nat} {vs:List Value} (hl:vs.length=len*w) (hc : ∀ (j:Nat) (u:Value),vs[j]?=some u -> W.cell? ⟨b,q+j,none⟩=some u) (W':World) (hW':W'.heap=W.heap) :
  (Builtin.firstCells w len (.slice (some ⟨b,q,none⟩) len cap)).run P W' = .ok vs.toArray W' :=
 run_firstCells_some W' w len ⟨b,q,none⟩ len cap vs hl (fun j u e=>by
  rw[add_none]
  have:=hc j u e
  unfold World.cell? at this ⊢
  rw[hW'];exact this)
theorem push_rows (hr:HR K μ H W) {w cp e:Nat} {rows:List (List D)} {vs rest:List Value} {p:Bool} (hv:RowsV K μ H p w rows vs) (hcp:rows.length <= cp) (hrest:rest.length=(cp-rows.length)*w) :
  ∃ μ',HR K μ' (H++[.ar w rows none p false]) (W.drew.alloc (.cells (vs++rest).toArray e)) /\ Nx K μ H W K μ' (H++[.ar w rows none p false]) (W.drew.alloc (.cells (vs++rest).toArray e)) /\
   VR K μ' (H++[.ar w rows none p false]) (.mu H.length rows.length 0 rows.length) (.slice (some ⟨W.heap.size,0,none⟩) rows.length cp):=by
 have hsize:(vs++rest).length=cp*w:=by
  rw[List.length_append,hv.len,hrest, <- Nat.add_mul]
  congr 1;omega
 obtain ⟨h1,h2⟩:=hr.drew.push (.cells (vs++rest).toArray e) ⟨W.heap.size,0,cp*w⟩ (.ar w rows none p false) rfl
  ⟨hv.wide,(fun c h=>by cases h),(by simp;exact Nat.mul_le_mul_right w hcp),_,e,heap_alloc_new W.drew _,by simpa using hsize,(hv.ext (Ext.push hr.dom _ _)).at⟩
 refine⟨_,h1,(Nx.drew K μ H W).trans h2,.mu _ _ _ _ _ _ _ _ _ ⟨W.heap.size,0,cp*w⟩ w rows none p false (by simp[Mu.upd]) (by simp) (Nat.le_refl _) (fun _=>⟨.inr ⟨rfl,by simp⟩,by omega,hcp,by omega,by simp,fun c h=>by cases h⟩)⟩
theorem grow_room (hr:HR K μ H W) {id w off len n cap cap':Nat} {rows new:List (List D)} {ws:List Value} {kc:Option Nat} {p:Bool} {l:Loc} (hm:μ id=some l) (hH:H[id]?=some (.ar w rows kc p false))
  (hn:rows.length=n) (hfit:off+len <= n) (hncap:n <= off+cap) (hsize:l.off+(off+cap)*w <= l.size) (hkc : ∀ c,kc=some c -> off+cap=c) (hroom:len+new.length <= cap) (hcap':cap'=cap)
  (hv:RowsV K μ H p w new ws) :
  ∃ cur ty,W.heap[l.blk]?=some (.cells cur ty (0,0)) /\ l.off+off*w+len*w+ws.length <= cur.size /\
   HR K μ (H.set id (.ar w (rows.take (off+len)++new++rows.drop (off+len+new.length)) kc p false)) (W.setRow l.blk (cur.toList.take (l.off+off*w+len*w)++ws++cur.toList.drop (l.off+off*w+len*w+ws.length)).toArray) /\
   Nx K μ H W K μ (H.set id (.ar w (rows.take (off+len)++new++rows.drop (off+len+new.length)) kc p false)) (W.setRow l.blk (cur.toList.take (l.off+off*w+len*w)++ws++cur.toList.drop (l.off+off*w+len*w+ws.length)).toArray) /\
   VR K μ (H.set id (.ar w (rows.take (off+len)++new++rows.drop (off+len+new.length)) kc p false)) (.mu id (rows.take (off+len)++new++rows.drop (off+len+new.length)).length off (len+new.length)) (.slice (some ⟨l.blk,l.off+off*w,none⟩) (len+new.length) cap'):=by
 subst hcap'
 obtain⟨hwd,hcap,hl,cur,ty,hW,hsz,hrows⟩:=hr.blk id l _ hm hH
 have hlen':(rows.take (off+len)++new++rows.drop (off+len+new.length)).length=max n (off+len+new.length):=by
  simp only[List.length_append,List.length_take,List.length_drop];omega
 have e1:(off+len)*w=off*w+len*w:=Nat.add_mul ..
 have e2:(off+len+new.length)*w=off*w+len*w+new.length*w:=by rw[Nat.add_mul,Nat.add_mul]
 have hle:(off+len+new.length)*w <= (off+cap')*w:=Nat.mul_le_mul_right w (by omega)
 have hq:l.off+off*w+len*w+ws.length <= cur.size:=by rw[hv.len];omega
 have hmax:max n (off+len+new.length) <= off+cap':=by omega
 have hmaxw:max n (off+len+new.length)*w <= (off+cap')*w:=Nat.mul_le_mul_right w hmax
 have cas : ∀ i r,(rows.take (off+len)++new++rows.drop (off+len+new.length))[i]?=some r -> (i<off+len /\ rows[i]?=some r) \/ (off+len <= i /\ i<off+len+new.length /\ new[i-(off+len)]?=some r) \/ (off+len+new.length <= i /\ rows[i]?=some r):=by
  intro i r e
  have ht:(rows.take (off+len)).length=off+len:=by rw[List.length_take];omega
  by_cases c1:i<off+len
  ·rw[List.append_assoc,List.getElem?_append_left (by omega),List.getElem?_take,if_pos c1]at e
   exact .inl ⟨c1,e⟩
  ·by_cases c2:i<off+len+new.length
   ·rw[List.getElem?_append_left (by simp;omega),List.getElem?_append_right (by omega),ht]at e
    exact .inr (.inl ⟨by omega,c2,e⟩)
   ·rw[List.getElem?_append_right (by simp;omega),List.getElem?_drop]at e
    refine .inr (.inr ⟨by omega, ?_⟩)
    rw[<- e];congr 1;simp;omega
 have hwd':Wide w (rows.take (off+len)++new++rows.drop (off+len+new.length)):=fun i r e=>by
  rcases cas i r e with⟨_,h⟩|⟨_,_,h⟩|⟨_,h⟩
  ·exact hwd i r h
  ·exact hv.wide _ r h
  ·exact hwd i r h
 refine⟨cur,ty,hW,hq, ?_⟩
 have key:=put_array hr hm hH (rows':=rows.take (off+len)++new++rows.drop (off+len+new.length)) (by omega) (.inr (fun c e=>by have:=hkc c e;omega)) hwd' (by rw[hlen'];omega) hW
  (vs':=(cur.toList.take (l.off+off*w+len*w)++ws++cur.toList.drop (l.off+off*w+len*w+ws.length)).toArray) (by simp;omega) (fun K' μ' H' e i r j d x y=>by
   have hj:j<w:=by rw[<- hwd' i r x];exact lt_of_get y
   simp only[List.getElem?_toArray]
   rw[splice_get _ _ _ (by simpa using hq)]
   rcases cas i r x with⟨h1,h2⟩|⟨h1,h1',h2⟩|⟨h1,h2⟩
   ·have:(i+1)*w <= (off+len)*w:=Nat.mul_le_mul_right w h1
    rw[Nat.add_mul]at this
    rw[if_pos (by omega)]
    obtain⟨u,hu,hcu⟩:=hrows i r j d h2 y
    exact⟨u,by simpa using hu,hcu.ext e⟩
   ·have a1:(off+len)*w <= i*w:=Nat.mul_le_mul_right w h1
    have a2:(i+1)*w <= (off+len+new.length)*w:=Nat.mul_le_mul_right w h1'
    rw[Nat.add_mul]at a2
    have hvl:=hv.len
    rw[if_neg (by omega),if_pos (by omega)]
    obtain⟨u,hu,hcu⟩:=hv.cell _ r j d h2 y
    refine⟨u, ?_,hcu.ext e⟩
    rw[show l.off+(i*w+j)-(l.off+off*w+len*w)=(i-(off+len))*w+j by rw[Nat.sub_mul];omega]
    exact hu
   ·have a1:(off+len+new.length)*w <= i*w:=Nat.mul_le_mul_right w h1
    have hvl:=hv.len
    rw[if_neg (by omega),if_neg (by omega)]
    obtain⟨u,hu,hcu⟩:=hrows i r j d h2 y
    exact⟨u,by simpa using hu,hcu.ext e⟩)
 have hid:=hr.dom id l hm
 refine⟨key.1,key.2,.mu _ _ _ _ _ _ _ _ _ l w _ kc p false hm (by simp[hid]) (Nat.le_refl _) (fun _=>⟨.inr ⟨rfl,rfl⟩,by omega,hroom,by omega,hsize,hkc⟩)⟩
end
section
variable {c:CX} {E:En} {L:Nat -> Option Nat} {K:Kn} {μ:Mu} {sl:List D} {H:Heap} {a:Act} {W:World} {o:Oper}
theorem zeros_len {P:Program} {t e w bytes:Nat} {z:Value} (ht:AppT P t e w bytes z) (n:Nat):(Builtin.zeroCells z.cells n).toList.length=n*w:=by
 simp[Builtin.zeroCells,ht.zs]
theorem app_new (hr:HR K μ H W) {P:Program} {t u e w bytes n:Nat} {z x:Value} {ty:Nat} (ht:AppT P t e w bytes z) {rows new:List (List D)} {olds ws:List Value} {p:Bool} {base:Option Addr} {sLen sCap:Nat}
  (hs:SrcT P W u bytes z w x n ws) (hn:n=new.length) (hold:RowsV K μ H p w rows olds) (hnew:RowsV K μ H p w new ws) (hlen:rows.length=sLen)
  (ho : ∀ W',W'.heap=W.heap -> (Builtin.firstCells w sLen (.slice base sLen sCap)).run P W' = .ok olds.toArray W') (hg:sCap<sLen+n) (hroom:room (sLen+n) bytes=true) :
  ∃ v μ' W',(Builtin.append_ #[t,u] ty #[.slice base sLen sCap,x]).run P W = .ok v W' /\ HR K μ' (H++[.ar w (rows++new) none p false]) W' /\ Nx K μ H W K μ' (H++[.ar w (rows++new) none p false]) W' /\
   VR K μ' (H++[.ar w (rows++new) none p false]) (.mu H.length (rows++new).length 0 (rows++new).length) v:=by
 obtain⟨cp,hcp,hrun⟩:=run_app_grow (ty:=ty) ht hs ho hg hroom
 have hl:(rows++new).length=sLen+n:=by rw[List.length_append,hlen,hn]
 obtain⟨μ',h1,h2,h3⟩:=push_rows hr (e:=e) (hold.append hnew) (cp:=cp) (by omega) (rest:=(Builtin.zeroCells z.cells (cp-(sLen+n))).toList) (by rw[zeros_len ht,hl])
 exact⟨_,μ',_,hrun,h1,h2,by rw[hl]at h3 ⊢;exact h3⟩
theorem appTo_sound (hr:HR K μ H W) {P:Program} {t u e w bytes:Nat} {z y v:Value} {ty:Nat} (ht:AppT P t e w bytes z) {x d:D} {new:List (List D)} {ws:List Value} {p:Bool} {H':Heap}
  (hs:SrcT P W u bytes z w y new.length ws) (hnew:RowsV K μ H p w new ws) (h:appTo H x new w bytes p=some (d,H')) (hx:VR K μ H x v) :
  ∃ v' μ' W',(Builtin.append_ #[t,u] ty #[v,y]).run P W = .ok v' W' /\ HR K μ' H' W' /\ Nx K μ H W K μ' H' W' /\ VR K μ' H' d v':=by
 have nul:RowsV K μ H p w [] []:=⟨fun i r e=>by simp at e,by simp,fun i r j d e=>by simp at e,fun v e=>by simp at e⟩
 have ws0:new=[] -> ws=[]:=fun e=>by
  have:=hnew.len
  subst e
  simpa using this
 have zero : ∀ base sLen sCap,new=[] -> sLen <= sCap -> (Builtin.append_ #[t,u] ty #[.slice base sLen sCap,y]).run P W = .ok (.slice base sLen sCap) W:=fun base sLen sCap e hle=>by
  have h0:=ws0 e
  subst e;subst h0
  exact run_app_zero ht hs base sLen sCap hle
 have emp : ∀ base,v = .slice base 0 0 -> appEmp H x new w bytes p=some (d,H') ->
   ∃ v' μ' W',(Builtin.append_ #[t,u] ty #[v,y]).run P W = .ok v' W' /\ HR K μ' H' W' /\ Nx K μ H W K μ' H' W' /\ VR K μ' H' d v':=by
  intro base hv h
  subst hv
  cases new with
  | nil =>
   cases h
   exact⟨_,μ,W,zero _ _ _ rfl (Nat.le_refl _),hr,.refl _ _ _ _,hx⟩
  | cons r rs =>
   simp only[appEmp]at h
   split at h
   ·rename_i hroom
    cases h
    have:=app_new hr (ty:=ty) ht hs rfl nul hnew rfl (base:=base) (sLen:=0) (sCap:=0) (fun W' _=>by
     cases base with
     | none=>simp[Builtin.firstCells]
     | some b=>simp[Builtin.firstCells,loadCells,loadCellsFrom]) (by simp) (by simpa using hroom)
    simpa using this
   ·cases h
 have lit : ∀ (w':Nat) base sLen sCap,v = .slice base sLen sCap -> sLen <= sCap -> appLit H x new w' w=some (d,H') ->
   ∃ v' μ' W',(Builtin.append_ #[t,u] ty #[v,y]).run P W = .ok v' W' /\ HR K μ' H' W' /\ Nx K μ H W K μ' H' W' /\ VR K μ' H' d v':=by
  intro w' base sLen sCap hv hle h
  subst hv
  cases new with
  | nil =>
   simp only[appLit]at h
   split at h
   ·cases h
    exact⟨_,μ,W,zero _ _ _ rfl hle,hr,.refl _ _ _ _,hx⟩
   ·cases h
  | cons r rs=>cases h
 unfold appTo at h
 split at h
 ·exact emp none (by cases hx;rfl) h
 ·cases hx with
  | z _ _ ad=>exact emp _ rfl h
 ·rename_i id n off len
  unfold appMu at h
  split at h
  ·rename_i w' rows kc p' lk harr
   obtain⟨hH,hn⟩:=arr_eq harr
   split at h
   ·rename_i hcd
    obtain⟨rfl,rfl,hfit,hroom⟩:=hcd
    cases hx with
    | mu _ _ _ _ _ _ cap blk q l w2 rows2 kc2 p2 lk2 hm hH' hle hcond =>
     rw[hH]at hH';cases hH'
     obtain⟨h3,h4,h5,h6,h7,h8⟩:=hcond hn
     cases new with
     | nil =>
      cases h
      exact⟨_,μ,W,zero _ _ _ rfl h5,hr,.refl _ _ _ _,.mu _ _ _ _ _ _ _ _ _ l w' rows kc p' lk hm hH hle hcond⟩
     | cons r rs =>
      simp only at h
      obtain⟨olds,hov,hoc⟩:=arr_part hr hm hH (by omega) h5 h3
      have holdlen:=part_length rows off len n hn hfit
      have hfc:=fun W' hW'=>run_old (P:=P) (W:=W) (w:=w') (len:=len) (cap:=cap) (b:=blk) (q:=q) (by rw[hov.len,holdlen]) hoc W' hW'
      have inplace : ∀ kc0,kc=kc0 -> appIn H id off len rows (r::rs) w' kc0 p' lk=some (d,H') -> len+(r::rs).length <= cap -> ∃ v' μ' W',(Builtin.append_ #[t,u] ty #[.slice (some ⟨blk,q,none⟩) len cap,y]).run P W = .ok v' W' /\
        HR K μ' H' W' /\ Nx K μ H W K μ' H' W' /\ VR K μ' H' d v':=by
       intro kc0 hkc h hc
       subst hkc
       cases lk with
       | true=>cases h
       | false =>
        cases h
        have hadr:blk=l.blk /\ q=l.off+off*w':=by
         rcases h3 with h3|h3
         ·simp at hc;omega
         ·exact h3
        obtain⟨rfl,rfl⟩:=hadr
        obtain⟨cur,tyb,hW,hq,k1,k2,k3⟩:=grow_room hr hm hH hn hfit h6 h7 h8 hc rfl hnew
        exact⟨_,μ,_,run_app_room ht hs hW hc hq hnew.one,k1,k2,k3⟩
      cases kc with
      | none =>
       cases off with
       | succ k=>cases h
       | zero =>
        simp only at h
        by_cases hc:len+(r::rs).length <= cap
        ·exact inplace none rfl h hc
        ·cases lk with
         | true=>cases h
         | false =>
          have hn':n <= len+(r::rs).length:=by omega
          have hnn:rows.drop (0+len+(r::rs).length)=[]:=List.drop_eq_nil_of_le (by omega)
          simp only[appIn,hnn,List.append_nil,Option.some.injEq,Prod.mk.injEq]at h
          obtain⟨rfl,rfl⟩:=h
          obtain⟨cp,hcp,hrun⟩:=run_app_grow (ty:=ty) ht hs hfc (by omega) (by simpa using hroom)
          have hov':RowsV K μ H p' w' (rows.take (0+len)++(r::rs)) (olds++ws):=by
           have h1:=hov
           simp only[List.drop_zero]at h1
           rw[Nat.zero_add]
           exact h1.append hnew
          have hl2:(rows.take (0+len)++(r::rs)).length=len+(r::rs).length:=by
           simp only[List.length_append,List.length_take];omega
          have hcells:(olds++ws++(Builtin.zeroCells z.cells (cp-(len+(r::rs).length))).toList).length=cp*w':=by
           rw[List.length_append,hov'.len,zeros_len ht,hl2, <- Nat.add_mul];congr 1;omega
          have hid:=hr.dom id l hm
          have be:BE l (.ar w' rows none p' false) ⟨W.heap.size,0,cp*w'⟩ (.ar w' (rows.take (0+len)++(r::rs)) none p' false) :=
           .ar _ _ _ _ _ _ _ _ _ _ (by omega) (fun e=>by omega) (fun c e=>by cases e)
          have hext:Ext K μ H K (μ.upd id ⟨W.heap.size,0,cp*w'⟩) (H.set id (.ar w' (rows.take (0+len)++(r::rs)) none p' false)):=by
           refine⟨fun _ _ _ e=>e,fun j lj bj x y => ?_⟩
           by_cases hj:j=id
           ·subst hj
            rw[hm]at x;rw[hH]at y;cases x;cases y
            exact⟨_,_,by simp[Mu.upd],List.getElem?_set_self hid,be⟩
           ·exact⟨lj,bj,by simp[Mu.upd,hj,x],by rw[List.getElem?_set_ne (Ne.symm hj)];exact y,.refl _ _⟩
          have key:=hr.put (W':=W.drew.alloc (.cells (olds++ws++(Builtin.zeroCells z.cells (cp-(len+(r::rs).length))).toList).toArray e)) id l ⟨W.heap.size,0,cp*w'⟩ _ (.ar w' (rows.take (0+len)++(r::rs)) none p' false) hm hH rfl rfl be rfl rfl rfl
           (by simp) (fun b hb _=>heap_alloc_old W.drew _ b hb) (.inr (Nat.le_refl _)) (by simp)
           ⟨hov'.wide,(fun c h=>by cases h),(by rw[hl2];simp only[Nat.zero_add];exact Nat.mul_le_mul_right w' hcp),_,e,heap_alloc_new W.drew _,(by simpa using hcells),(hov'.ext hext).at⟩
          refine⟨_,_,_,hrun,key.1,key.2,.mu _ _ _ _ _ _ _ _ _ ⟨W.heap.size,0,cp*w'⟩ w' (rows.take (0+len)++(r::rs)) none p' false (by simp[Mu.upd]) (List.getElem?_set_self hid) (Nat.le_refl _) (fun _ => ?_)⟩
          exact⟨.inr ⟨rfl,by simp⟩,by omega,hcp,by omega,by simp,fun c h=>by cases h⟩
      | some k =>
       have hk:=h8 k rfl
       simp only at h
       split at h
       ·rename_i hcap
        exact inplace (some k) rfl h (by omega)
       ·cases h
        have hgt:cap<len+(r::rs).length:=by omega
        exact app_new hr (ty:=ty) ht hs rfl hov hnew holdlen hfc hgt (by
         simp only[room,decide_eq_true_eq]at hroom ⊢
         obtain⟨g1,g2⟩:=hroom
         refine⟨Nat.le_trans (Nat.mul_le_mul_right bytes (by omega)) g1,by omega⟩)
   ·cases h
  ·cases h
 ·cases hx with
  | im _ _ _ _ blk off cap f hc hw hk h1 hrr=>exact lit _ _ _ _ rfl hc h
 ·cases hx with
  | sv _ _ _ _ blk off cap f hc hw hk h1 hrr=>exact lit _ _ _ _ rfl hc h
 ·cases h
theorem sim_app (fs:FS E c.tm c.bs K μ L sl H a.tmps W) {t u e w bytes:Nat} {z:Value} {p:Bool} {y y':Operand} {x x' d:D} {H':Heap} {args:Array Operand} {argTypes:Array TypeId}
  (ho:o.op = .call { callee := .builtin .append,args,argTypes }) (ha:args.toList=[y,y']) (hat:argTypes.toList=[t,u]) (ht:AppT c.P t e w bytes z)
  (hx:VR K μ H x (a.eval y)) (hx' : ∀ rows,rowsOf H w x'=some rows -> ∃ ws,RowsV K μ H false w rows ws /\ SrcT c.P W u bytes z w (a.eval y') rows.length ws) (h:appD H x x' w bytes p=some (d,H')):Sim c E L o a K μ H W d ⟨sl,H'⟩:=by
 have hargs:args = #[y,y']:=by rw[<- Array.toArray_toList (xs:=args),ha]
 have hargt:argTypes = #[t,u]:=by rw[<- Array.toArray_toList (xs:=argTypes),hat]
 subst hargs;subst hargt
 have fin : ∀ {K':Kn} {μ':Mu} {H':Heap} {W':World} {v:Value} {d:D},(Builtin.append_ #[t,u] o.type #[a.eval y,a.eval y']).run c.P W = .ok v W' -> HR K' μ' H' W' -> Nx K μ H W K' μ' H' W' -> VR K' μ' H' d v ->
   Sim c E L o a K μ H W d ⟨sl,H'⟩:=fun hrun hr nx hv =>
  Sim.go fs (by simp[execOp,ho,resolve,invoke,builtin,hrun]) hr nx hv
 unfold appD at h
 split at h
 ·rename_i new hnew
  obtain⟨ws,hv,hs⟩:=hx' new hnew
  split at h
  ·split at h
   ·rename_i new' H1 hf
    obtain⟨K',hr',nx,hv',hlen⟩:=freezeRows_sound hf fs.hr hv
    obtain⟨v',μ',W',hrun,k1,k2,k3⟩:=appTo_sound hr' (ty:=o.type) ht (x:=x) (by rw[hlen];exact hs) (RowsV.weaken hv') h (hx.ext nx.ext)
    exact fin hrun k1 (nx.trans k2) k3
   ·cases h
  ·obtain⟨v',μ',W',hrun,k1,k2,k3⟩:=appTo_sound fs.hr (ty:=o.type) ht (x:=x) hs hv h hx
   exact fin hrun k1 k2 k3
 ·cases h
theorem app_plain (fs:FS E c.tm c.bs K μ L sl H a.tmps W) {u w bytes:Nat} {z:Value} {y':Operand} {x':D} (hu:(∃ e',c.P.underlying u=some (.slice e')) \/ c.P.underlying u=some .string)
  (hx':VR K μ H x' (a.eval y')) : ∀ rows,rowsOf H w x'=some rows -> ∃ ws,RowsV K μ H false w rows ws /\ SrcT c.P W u bytes z w (a.eval y') rows.length ws:=fun _ hr=>by
 obtain⟨ws,hv,hs⟩:=src_of (P:=c.P) fs.hr hr hx'
 exact⟨ws,hv,⟨.inl ⟨hu,hs⟩⟩⟩
end
section
variable {c:CX} {E:En} {L:Nat -> Option Nat} {K:Kn} {μ:Mu} {sl:List D} {H:Heap} {a:Act} {W:World} {o:Oper}
theorem push_exact (hr:HR K μ H W) {w e ty' ln:Nat} {rows:List (List D)} {vs:List Value} {p:Bool} (hv:RowsV K μ H p w rows vs) (hln:ln <= rows.length) (hty:ty'=e) :
  ∃ μ',HR K μ' (H++[.ar w rows (some rows.length) p false]) (W.alloc (.cells vs.toArray e)) /\ Nx K μ H W K μ' (H++[.ar w rows (some rows.length) p false]) (W.alloc (.cells vs.toArray e)) /\
   VR K μ' (H++[.ar w rows (some rows.length) p false]) (.mu H.length rows.length 0 ln) (.slice (some ⟨W.heap.size,0,none⟩) ln rows.length):=by
 subst hty
 have hsize:vs.length=rows.length*w:=hv.len
 have hat:=(hv.ext (Ext.push hr.dom ⟨W.heap.size,0,rows.length*w⟩ (.ar w rows (some rows.length) p false))).at (rest:=[])
 simp only[List.append_nil]at hat
 obtain ⟨h1,h2⟩:=hr.push (.cells vs.toArray ty') ⟨W.heap.size,0,rows.length*w⟩ (.ar w rows (some rows.length) p false) rfl
  ⟨hv.wide,(fun c h=>by cases h;exact Nat.le_refl _),(by simp),_,ty',heap_alloc_new W _,(by simpa using hsize),hat⟩
 exact⟨_,h1,h2,.mu _ _ _ _ _ _ _ _ _ ⟨W.heap.size,0,rows.length*w⟩ w rows (some rows.length) p false (by simp[Mu.upd]) (by simp) (Nat.le_refl _) (fun _=>⟨.inr ⟨rfl,by simp⟩,by omega,by omega,by omega,by simp,fun c h=>by cases h;simp⟩)⟩
theorem replicate_rows {w n:Nat} {zs:List D} {z:Array Value} {p:Bool} (hz : ∀ K μ H,CRs K μ H zs z.toList) (hw:zs.length=w):RowsV K μ H p w (List.replicate n zs) (List.replicate n z.toList).flatten where
 wide:=fun i r e=>by
  rw[List.getElem?_replicate]at e
  split at e
  ·cases e;exact hw
  ·cases e
 len:=by
  have:=(hz K μ H).1.1
  simp only[List.length_flatten,List.map_replicate,List.sum_replicate_nat,List.length_replicate]
  rw[<- this,hw]
 cell := fun i r j d e e'=>by
  rw[List.getElem?_replicate]at e
  split at e
  ·rename_i hi
   cases e
   obtain⟨⟨h1,h2⟩,h3⟩:=hz K mu0 []
   have hj:=lt_of_get e'
   have hj':j<z.toList.length:=by omega
   refine⟨z.toList[j], ?_,h3 _ (List.getElem_mem hj'), ?_⟩
   ·have : ∀ (n i:Nat),i<n -> (List.replicate n z.toList).flatten[i*w+j]?=some z.toList[j]:=by
     intro n
     induction n with
     | zero=>intro i hi;omega
     | succ n ih =>
      intro i hi
      rw[List.replicate_succ,List.flatten_cons]
      cases i with
      | zero=>rw[Nat.zero_mul,Nat.zero_add,List.getElem?_append_left hj',List.getElem?_eq_getElem hj']
      | succ i =>
       have hzl:z.toList.length=w:=by omega
       rw[List.getElem?_append_right (by rw[hzl,Nat.add_mul];omega),hzl,show(i+1)*w+j-w=i*w+j by rw[Nat.add_mul];omega]
       exact ih i (by omega)
    exact this n i hi
   ·have hv:=h2 j d _ e' (List.getElem?_eq_getElem hj')
    cases p with
    | true=>exact hv
    | false=>exact VR.pure hv
  ·cases e
 one:=fun v hv=>by
  obtain⟨l,hl,hvl⟩:=List.mem_flatten.1 hv
  rw[List.mem_replicate]at hl
  obtain⟨_,rfl⟩:=hl
  exact(hz K μ H).2 v hvl
theorem cyc_eq (z:Array Value) (n:Nat):((Array.range (n*z.size)).map (fun i=>z[i%z.size]!)).toList=(List.replicate n z.toList).flatten:=by
 simp only[Array.toList_map,Array.toList_range]
 apply List.ext_getElem?
 intro k
 induction n generalizing k with
 | zero=>simp
 | succ n ih =>
  rw[List.replicate_succ,List.flatten_cons]
  by_cases hk:k<z.size
  ·rw[List.getElem?_append_left (by simpa using hk)]
   have hlt:k<(n+1)*z.size:=by rw[Nat.add_mul];omega
   simp[hlt,Nat.mod_eq_of_lt hk,hk]
  ·rw [List.getElem?_append_right (by simpa using hk)]
   have h2:=ih (k-z.size)
   simp only[Array.length_toList]
   rw[<- h2]
   simp only[List.getElem?_map]
   by_cases hlt:k<(n+1)*z.size
   ·have hlt2:k-z.size<n*z.size:=by rw[Nat.add_mul]at hlt;omega
    rw[List.getElem?_range hlt,List.getElem?_range hlt2]
    simp only[Option.map_some]
    congr 1
    have:k%z.size=(k-z.size)%z.size:=Nat.mod_eq_sub_mod (by omega)
    rw[this]
   ·have hlt2 : ¬ k-z.size<n*z.size:=by rw[Nat.add_mul]at hlt;omega
    rw[List.getElem?_eq_none (by simp;omega),List.getElem?_eq_none (by simp;omega)]
theorem zero_rows {z:Array Value} {w:Nat} {p:Bool} : ∀ {rows:List (List D)},(∀ r∈rows,(∀ K μ H,CRs K μ H r z.toList) /\ r.length=w) -> RowsV K μ H p w rows (List.replicate rows.length z.toList).flatten
 | [],_=>⟨fun i r e=>by simp at e,by simp,fun i r j d e=>by simp at e,fun v e=>by simp at e⟩
 | r::rows,h=>by
  have h1:=replicate_rows (K:=K) (μ:=μ) (H:=H) (p:=p) (n:=1) (h r List.mem_cons_self).1 (h r List.mem_cons_self).2
  have h2:=zero_rows (p:=p) (rows:=rows) fun r hr=>h r (List.mem_cons_of_mem _ hr)
  have h3:=h1.append h2
  simpa [List.replicate_succ]using h3
theorem app_zeros {P:Program} {loc:List D} {u e w bytes:Nat} {z:Value} {y:O} {y':Operand} {x':D} (hz:okZ P e w bytes y y'=true) (hx:x'=y.ev loc sl) (hu : ∃ k,P.underlying u=some (.int k)) (hi : ∃ i,P.info? e=some i /\ i.size=w /\ i.zero=some z) (hzs:z.cells.size=w) :
  ∀ rows,rowsOf H w x'=some rows -> ∃ ws,RowsV K μ H false w rows ws /\ SrcT P W u bytes z w (a.eval y') rows.length ws:=fun rows hr=>by
 unfold okZ at hz
 split at hz
 ·rename_i w' rs n
  simp only[Bool.and_eq_true,decide_eq_true_eq]at hz
  obtain⟨⟨⟨rfl,rfl⟩,hb⟩,ha⟩:=hz
  subst hx
  simp only[O.ev,rowsOf,if_true,Option.some.injEq]at hr
  subst hr
  obtain⟨i,h1,h2,h3⟩:=hi
  have hrows : ∀ r∈rs,(∀ K μ H,CRs K μ H r z.cells.toList) /\ r.length=w':=fun r hr=>by
   obtain⟨z',q1,q2,q3,q4⟩:=zeroOk_run (List.all_eq_true.1 ha r hr)
   have hzz:=List.all_eq_true.1 ha r hr
   unfold zeroOk at hzz
   rw[h1]at hzz
   simp only[h3,Bool.and_eq_true,beq_iff_eq]at hzz
   have hw0:(zeroValue e).run P default = .ok z default:=by simp[zeroValue,typeInfo,h1,h3]
   have:z'=z:=by
    have:=(q1 default).symm.trans hw0
    cases this;rfl
   subst this
   exact⟨q2,by omega⟩
  have hc:(Builtin.zeroCells z.cells rs.length).toList=(List.replicate rs.length z.cells.toList).flatten:=cyc_eq _ _
  exact⟨_,zero_rows hrows,⟨.inr ⟨hu,rfl,hb.1,hb.2,hc.symm⟩⟩⟩
 ·cases hz
theorem sim_mks (fs:FS E c.tm c.bs K μ L sl H a.tmps W) {t e w bytes:Nat} {zs:List D} {p:Bool} {y y':Operand} {x x' d:D} {H':Heap} (ho:o.op = .makeSlice t y y') (ht:c.P.underlying t=some (.slice e))
  (hb:bytesIs c.P e bytes=true) (hz:zeroOk c.P e zs=true) (hs:sizeIs c.P e w=true) (hw:0<w) (hx:VR K μ H x (a.eval y)) (hx':VR K μ H x' (a.eval y')) (h:mksD H x x' w bytes zs p=some (d,H')) :
  Sim c E L o a K μ H W d ⟨sl,H'⟩:=by
 unfold mksD at h
 split at h
 ·rename_i cn hcn
  split at h
  ·rename_i ln hln
   split at h
   ·rename_i hroom
    cases h
    obtain⟨k1,e1,b1⟩:=bdOf_eq hcn hx'
    obtain⟨k2,e2,b2⟩:=bdOf_eq hln hx
    simp only[room,decide_eq_true_eq]at hroom
    obtain⟨z,hzr,hzc,hzs,hzl⟩:=zeroOk_run hz
    have hw':zs.length=w:=by
     unfold sizeIs at hzs hs
     split at hzs
     ·rename_i i hi;simp only[hi,beq_iff_eq]at hzs hs;omega
     ·cases hzs
    have hzsz:z.cells.size=w:=by omega
    have hv:RowsV K μ H p w (List.replicate cn zs) (List.replicate cn z.cells.toList).flatten:=replicate_rows hzc hw'
    unfold bytesIs at hb
    split at hb
    ·rename_i inf hinf
     simp only[beq_iff_eq]at hb
     have hsi:inf.size=w:=by simpa [sizeIs,hinf]using hs
     have c1:((cn*bytes:Nat):Int) <= 140737488355328:=Int.ofNat_le.2 hroom.1
     have c2:((ln*bytes:Nat):Int) <= 140737488355328:=Int.ofNat_le.2 (Nat.le_trans (Nat.mul_le_mul_right _ b2) hroom.1)
     rw[Int.natCast_mul,Int.mul_comm]at c1 c2
     have w1:IntKind.i64.wrap (cn:Int)=cn:=IntWalk.i64_in _ (by omega)
     have w2:IntKind.i64.wrap (ln:Int)=ln:=IntWalk.i64_in _ (by omega)
     obtain⟨μ',g1,g2,g3⟩:=push_exact fs.hr (e:=e) hv (ln:=ln) (by simpa using b2) rfl
     simp only[List.length_replicate]at g1 g2 g3
     have hcells:((Array.range (cn*w)).map (fun i=>z.cells[i%z.cells.size]!))=(List.replicate cn z.cells.toList).flatten.toArray:=by
      rw[<- hzsz, <- cyc_eq]
     have d1 : ¬ (281474976710656<(bytes:Int)*(cn:Int)):=by omega
     have d2 : ¬ ((cn:Int)<(ln:Int)):=by omega
     have d3 : ¬ ((cn:Int)<0):=by omega
     have d4 : ¬ ((ln:Int)<0):=by omega
     refine Sim.go fs ?_ g1 g2 g3
     by_cases h0:cn*w=0
     ·have hc0:cn=0:=by
       rcases Nat.mul_eq_zero.1 h0 with h|h
       ·exact h
       ·omega
      subst hc0
      have hl0:ln=0:=by omega
      subst hl0
      have w0:IntKind.i64.wrap 0=0:=IntWalk.i64_in 0 (by omega)
      simp[execOp,ho,Instr.makeSlice,e1,e2,asInt,asIntOf,run_underlying ht,typeInfo,hinf,sizeOf,newRow,w0]
      rw[show Array.range 0 = #[]from by decide]
      simp
     ·simp[execOp,ho,Instr.makeSlice,e1,e2,asInt,asIntOf,run_underlying ht,typeInfo,hinf,hb,w1,w2,d1,d2,d3,d4,sizeOf,hsi,h0,hzr,newRow,hcells]
    ·cases hb
   ·cases h
  ·cases h
 ·cases h
theorem fillR_sound {w:Nat} {place:Nat -> Option (Nat×Nat)} (hp : ∀ i,place i=some (i*w,w)) : ∀ {parts:List (Nat×D)} {vals:List (Nat×Value)} {rows rows':List (List D)} {vs:Array Value},
  RowsV K μ H false w rows vs.toList -> parts.length=vals.length -> (∀ (j:Nat) (x:Nat×D) (y:Nat×Value),parts[j]?=some x -> vals[j]?=some y -> x.1=y.1 /\ VR K μ H x.2 y.2) ->
  fillR rows w parts=some rows' -> ∃ vs':Array Value,Instr.fill place vs vals=some vs' /\ RowsV K μ H false w rows' vs'.toList /\ vs'.size=vs.size /\ rows'.length=rows.length
 | [],[],rows,rows',vs,hv,_,_,h=>by
  cases h
  exact⟨vs,rfl,hv,rfl,rfl⟩
 | [],_::_,_,_,_,_,hl,_,_=>by simp at hl
 | _::_,[],_,_,_,_,hl,_,_=>by simp at hl
 | (i, d)::parts,(i',v)::vals,rows,rows',vs,hv,hl,hpt,h=>by
  obtain⟨rfl,hdv⟩:=hpt 0 _ _ rfl rfl
  simp only at hdv
  simp only[fillR]at h
  split at h
  ·rename_i cs hcs
   split at h
   ·rename_i hi
    obtain⟨hc,hn⟩:=cellsN_of hcs hdv
    have hcl:cs.length=w:=by rw[hc.1.1];simpa using hn
    have hvl:=hv.len
    have hmul:i*w+w <= rows.length*w:=by
     have:(i+1)*w <= rows.length*w:=Nat.mul_le_mul_right w hi
     rw[Nat.add_mul]at this;omega
    have hsz:vs.size=rows.length*w:=by simpa using hvl
    have hfold:(v.cells.zipIdx.foldl (fun cs (c,j)=>cs.setIfInBounds (i*w+j) c) vs).toList=vs.toList.take (i*w)++v.cells.toList++vs.toList.drop (i*w+v.cells.toList.length):=fold_set _ _ _ (by omega)
    have hnew:RowsV K μ H false w (rows.set i cs) (v.cells.zipIdx.foldl (fun cs (c,j)=>cs.setIfInBounds (i*w+j) c) vs).toList:=by
     rw[hfold]
     have hq:i*w+v.cells.toList.length <= vs.toList.length:=by simp only[Array.length_toList];omega
     refine⟨fun k r e => ?_,by simp only[List.length_append,List.length_take,List.length_drop,List.length_set,Array.length_toList];omega,fun k r j x e e' => ?_,fun u hu => ?_⟩
     ·by_cases hk:i=k
      ·subst hk;rw[List.getElem?_set_self hi]at e;cases e;exact hcl
      ·rw[List.getElem?_set_ne hk]at e;exact hv.wide k r e
     ·rw [splice_get _ _ _ hq]
      simp only[Array.length_toList]
      by_cases hk:i=k
      ·subst hk
       rw[List.getElem?_set_self hi]at e;cases e
       have hj:=lt_of_get e'
       rw[if_neg (by omega),if_pos (by omega)]
       obtain⟨u,a1,a2,a3⟩:=CRs.cell hc.1 hc.2 e'
       exact⟨u,by rw[show i*w+j-i*w=j by omega];exact a1,a2,a3⟩
      ·rw [List.getElem?_set_ne hk]at e
       have hj:j<w:=by rw[<- hv.wide k r e];exact lt_of_get e'
       obtain⟨u,a1,a2⟩:=hv.cell k r j x e e'
       refine⟨u, ?_,a2⟩
       rcases Nat.lt_or_gt_of_ne hk with g|g
       ·have:(i+1)*w <= k*w:=Nat.mul_le_mul_right w g
        rw[Nat.add_mul]at this
        rw[if_neg (by omega),if_neg (by omega)];exact a1
       ·have:(k+1)*w <= i*w:=Nat.mul_le_mul_right w g
        rw[Nat.add_mul]at this
        rw[if_pos (by omega)];exact a1
     ·rcases List.mem_append.1 hu with h|h
      ·rcases List.mem_append.1 h with h|h
       ·exact hv.one u (List.mem_of_mem_take h)
       ·exact hc.2 u h
      ·exact hv.one u (List.mem_of_mem_drop h)
    obtain⟨vs',e1,e2,e3,e4⟩:=fillR_sound hp hnew (by simpa using hl) (fun j x y e e'=>hpt (j+1) x y (by simpa using e) (by simpa using e')) h
    have hfs:(v.cells.zipIdx.foldl (fun cs (c,j)=>cs.setIfInBounds (i*w+j) c) vs).size=vs.size:=by
     rw[<- Array.length_toList,hfold];simp;omega
    refine⟨vs', ?_,e2,by omega,by simpa using e4⟩
    simp only[Instr.fill,hp]
    rw[if_neg (by simp only[Bool.or_eq_true,decide_eq_true_eq,not_or];omega)]
    exact e1
   ·cases h
  ·cases h
where
 fold_set (cs:Array Value) (off:Nat) (vs:Array Value) (h:off+cs.size <= vs.size):(cs.zipIdx.foldl (fun acc (c,j)=>acc.setIfInBounds (off+j) c) vs).toList=vs.toList.take off++cs.toList++vs.toList.drop (off+cs.toList.length):=by
  have gen : ∀ (l:List Value) (k:Nat) (xs:Array Value),off+k+l.length <= xs.size -> ((l.zipIdx k).foldl (fun acc (x:Value×Nat)=>acc.setIfInBounds (off+x.2) x.1) xs).toList=xs.toList.take (off+k)++l++xs.toList.drop (off+k+l.length):=by
   intro l
   induction l with
   | nil=>intro k xs _;simp
   | cons x l ih =>
    intro k xs hx
    simp only[List.zipIdx_cons,List.foldl_cons]
    rw[ih (k+1) _ (by simpa [Nat.add_assoc,Nat.add_comm 1]using hx)]
    simp only[List.length_cons]at hx
    simp only[Array.toList_setIfInBounds]
    apply List.ext_getElem?
    intro j
    have a1:off+(k+1)+l.length <= (xs.toList.set (off+k) x).length:=by simp;omega
    have a2:off+k+(x::l).length <= xs.toList.length:=by simp;omega
    rw[splice_get _ _ _ a1,splice_get _ _ _ a2]
    simp only[List.length_cons]
    by_cases c1:j<off+k
    ·rw[if_pos (by omega),if_pos c1,List.getElem?_set_ne (by omega)]
    ·rw [if_neg c1]
     by_cases c2:j=off+k
     ·subst c2
      rw[if_pos (by omega),if_pos (by omega),List.getElem?_set_self (by simp;omega)]
      simp
     ·rw [if_neg (by omega)]
      by_cases c3:j<off+k+(l.length+1)
      ·rw[if_pos (by omega),if_pos c3,show j-(off+k)=(j-(off+(k+1)))+1 by omega]
       simp
      ·rw[if_neg (by omega),if_neg c3,List.getElem?_set_ne (by omega)]
  have:=gen cs.toList 0 vs (by simpa using h)
  rw[<- Array.foldl_toList,Array.toList_zipIdx]
  simpa using this
end
end Go.Dm
