/-
  Operations of the machine are those of the model,second part.
-/
import Derived.Test.YtgefdialaemelaaGreatDoorDb
import Derived.Laws.Strings
import Derived.Laws.IdiomStrings
import Derived.Laws.BytesArg
import Derived.Laws.StructEq
import Derived.ChangeKeysEq
import Derived.WideKeyRuns
namespace Go.Dm
section
variable {c:CX} {E:En} {L:Nat -> Option Nat} {K:Kn} {μ:Mu} {sl:List D} {H:Heap} {a:Act} {W:World} {o:Oper}
theorem lit_cells {w n:Nat} {z:Array Value} (hw:z.size=w):((Array.range (n*w)).map (fun i=>z[i%z.size]!))=(List.replicate n z.toList).flatten.toArray:=by
 rw[<- hw, <- cyc_eq]
theorem run_lit {P:Program} {t e w n:Nat} {zs:List D} {qs:Array (Nat×Operand)} {parts:List (Nat×D)} {rows:List (List D)} (ho:o.op = .buildSlice t n qs) (ht:P.underlying t=some (.slice e)) (hs:sizeIs P e w=true)
  (hz:zeroOk P e zs=true) (hw:0<w) (h24:n*w <= 2 ^ 24) (hl:parts.length=qs.size)
  (hpt : ∀ (j:Nat) (x:Nat×D) (y:Nat×Operand),parts[j]?=some x -> qs[j]?=some y -> x.1=y.1 /\ VR K μ H x.2 (a.eval y.2))
  (h:fillR (List.replicate n zs) w parts=some rows) :
  ∃ vs:Array Value,(execOp a.eval o).run P W = .ok (.value (.slice (some ⟨W.heap.size,0,none⟩) n n)) (W.alloc (.cells vs e)) /\ RowsV K μ H false w rows vs.toList /\ rows.length=n:=by
 obtain⟨z,hzr,hzc,hzs,hzl⟩:=zeroOk_run hz
 have hw':zs.length=w:=by
  unfold sizeIs at hzs hs
  split at hzs
  ·rename_i i hi;simp only[hi,beq_iff_eq]at hzs hs;omega
  ·cases hzs
 have hzsz:z.cells.size=w:=by omega
 have hv:RowsV K μ H false w (List.replicate n zs) (List.replicate n z.cells.toList).flatten.toArray.toList:=by
  simpa using replicate_rows (K:=K) (μ:=μ) (H:=H) (p:=false) (n:=n) hzc hw'
 obtain ⟨vs',e1,e2,e3,e4⟩:=fillR_sound (K:=K) (μ:=μ) (H:=H) (place:=fun i=>some (i*w,w)) (fun _=>rfl) (vals:=(qs.map fun(i,x)=>(i,a.eval x)).toList) hv (by simpa using hl)
  (fun j x y ex ey=>by
   simp only[Array.toList_map,List.getElem?_map,Array.getElem?_toList]at ey
   cases hq:qs[j]? with
   | none=>rw[hq]at ey;cases ey
   | some q =>
    rw[hq]at ey
    cases ey
    exact hpt j x q ex hq) h
 replace e1:Instr.fill (fun i=>some (i*w,w)) (List.replicate n z.cells.toList).flatten.toArray (List.map (fun x=>(x.fst,a.eval x.snd)) qs.toList)=some vs':=by
  rw[<- e1,Array.toList_map]
 refine⟨vs', ?_,e2,by simpa using e4⟩
 by_cases h0:n=0
 ·subst h0
  simp at e1
  have hr0:Array.map (fun _=>(default:Value)) (Array.range 0) = #[]:=by
   rw[show Array.range 0 = #[]from by decide];simp
  simp[execOp,ho,Instr.buildSlice,run_underlying ht,sizeIs_run hs,newRow,hr0,e1]
 ·have hnw:n*w≠0:=by
   intro e
   rcases Nat.mul_eq_zero.1 e with h|h<;>omega
  have hcells:=lit_cells (n:=n) hzsz
  have h24'' : ¬ (16777216<n*w):=by omega
  simp[execOp,ho,Instr.buildSlice,run_underlying ht,sizeIs_run hs,hnw,h24'',hzr,hcells,e1,newRow]
theorem sim_bsv (fs:FS E c.tm c.bs K μ L sl H a.tmps W) {t e w n:Nat} {zs:List D} {qs:Array (Nat×Operand)} {parts:List (Nat×D)} {d:D} (ho:o.op = .buildSlice t n qs) (ht:c.P.underlying t=some (.slice e)) (hs:sizeIs c.P e w=true)
  (hz:zeroOk c.P e zs=true) (hw:0<w) (h24:n*w <= 2 ^ 24) (hl:parts.length=qs.size)
  (hpt : ∀ (j:Nat) (x:Nat×D) (y:Nat×Operand),parts[j]?=some x -> qs[j]?=some y -> x.1=y.1 /\ VR K μ H x.2 (a.eval y.2))
  (hpl:n=0 -> parts=[]) (h:bsvD w n zs parts=some d):Sim c E L o a K μ H W d ⟨sl,H⟩:=by
 cases n with
 | zero =>
  cases h
  obtain⟨vs,hrun,_,_⟩:=run_lit (P:=c.P) (W:=W) (K:=K) (μ:=μ) (H:=H) ho ht hs hz hw h24 hl hpt (rows:=[]) (by rw[hpl rfl];rfl)
  obtain⟨h1,h2⟩:=fs.hr.loc (.cells vs e)
  exact Sim.go fs hrun h1 h2 (.z ..)
 | succ m =>
  simp only[bsvD]at h
  cases hf:fillR (List.replicate (m+1) zs) w parts with
  | none=>rw[hf]at h;cases h
  | some rows =>
   rw[hf]at h;cases h
   obtain⟨vs,hrun,hv,hlen⟩:=run_lit (P:=c.P) (W:=W) ho ht hs hz hw h24 hl hpt hf
   obtain⟨h1,h2⟩:=fs.hr.lit vs e (0,0)
   refine Sim.go fs hrun h1 h2 ?_
   have hget : ∀ i r j x,rows[i]?=some r -> r[j]?=some x -> ∃ u,vs[i*w+j]?=some u /\ Cell K μ H false x u:=fun i r j x e e'=>by
    obtain⟨u,a1,a2⟩:=hv.cell i r j x e e'
    exact⟨u,by simpa using a1,a2⟩
   have:=VR.sv (K:=fun b o=>if b=W.heap.size then vs[o]? else K b o) μ H w rows W.heap.size 0 rows.length (fun i j=>vs.getD (i*w+j) undef) (Nat.le_refl _) hv.wide
    (fun i r j x e e'=>by
     obtain⟨u,a1,a2⟩:=hget i r j x e e'
     simp only[if_true,Nat.zero_add,a1,getD_eq a1])
    (fun i r j x e e'=>by
     obtain⟨u,a1,a2⟩:=hget i r j x e e'
     rw[getD_eq a1];exact a2.1)
    (fun i r j x e e'=>by
     obtain⟨u,a1,a2⟩:=hget i r j x e e'
     rw[getD_eq a1];exact VR.ext a2.2 h2.ext)
   rw[hlen]at this
   exact this
theorem sim_bsl (fs:FS E c.tm c.bs K μ L sl H a.tmps W) {t e w n:Nat} {zs:List D} {qs:Array (Nat×Operand)} {parts:List (Nat×D)} {p:Bool} {d:D} {H':Heap} (ho:o.op = .buildSlice t n qs) (ht:c.P.underlying t=some (.slice e)) (hs:sizeIs c.P e w=true)
  (hz:zeroOk c.P e zs=true) (hw:0<w) (h24:n*w <= 2 ^ 24) (hl:parts.length=qs.size)
  (hpt : ∀ (j:Nat) (x:Nat×D) (y:Nat×Operand),parts[j]?=some x -> qs[j]?=some y -> x.1=y.1 /\ VR K μ H x.2 (a.eval y.2))
  (hpl:n=0 -> parts=[]) (h:bslD H w n zs parts p=some (d,H')):Sim c E L o a K μ H W d ⟨sl,H'⟩:=by
 cases n with
 | zero =>
  cases h
  obtain⟨vs,hrun,_,_⟩:=run_lit (P:=c.P) (W:=W) (K:=K) (μ:=μ) (H:=H) ho ht hs hz hw h24 hl hpt (rows:=[]) (by rw[hpl rfl];rfl)
  obtain⟨h1,h2⟩:=fs.hr.loc (.cells vs e)
  exact Sim.go fs hrun h1 h2 (.z ..)
 | succ m =>
  simp only[bslD]at h
  cases hf:fillR (List.replicate (m+1) zs) w parts with
  | none=>rw[hf]at h;cases h
  | some rows =>
   rw[hf]at h
   obtain⟨vs,hrun,hv,hlen⟩:=run_lit (P:=c.P) (W:=W) ho ht hs hz hw h24 hl hpt hf
   cases p with
   | true =>
    simp only at h
    split at h
    ·rename_i rows' H1 hfr
     cases h
     obtain⟨K',hr',nx,hv',hlen'⟩:=freezeRows_sound hfr fs.hr hv
     obtain⟨μ',g1,g2,g3⟩:=push_exact hr' (e:=e) (RowsV.weaken (p:=true) hv') (ln:=m+1) (by omega) rfl
     rw[hlen',hlen]at g1 g2 g3
     exact Sim.go fs (by simpa using hrun) g1 (nx.trans g2) g3
    ·cases h
   | false =>
    cases h
    obtain⟨μ',g1,g2,g3⟩:=push_exact fs.hr (e:=e) hv (ln:=m+1) (by omega) rfl
    rw[hlen]at g1 g2 g3
    exact Sim.go fs (by simpa using hrun) g1 g2 g3
end
section
variable {c:CX} {E:En} {L:Nat -> Option Nat} {K:Kn} {μ:Mu} {sl:List D} {H:Heap} {a:Act} {W:World} {o:Oper}
theorem VR.ag_inv {cs:List D} {v:Value} (h:VR K μ H (.ag cs) v) : ∃ vs:List Value,v = .agg vs.toArray /\ CRs K μ H cs vs:=by
 cases h with
 | ag _ _ _ vs hl h1 hr=>exact⟨vs,rfl,⟨hl,hr⟩,h1⟩
theorem VR.tu_inv {ds:List D} {v:Value} (h:VR K μ H (.tu ds) v) : ∃ vs:List Value,v = .tuple vs.toArray /\ VRs K μ H ds vs:=by
 cases h with
 | tu _ _ _ vs hl hr=>exact⟨vs,rfl,hl,hr⟩
theorem sim_cvi (fs:FS E c.tm c.bs K μ L sl H a.tmps W) {s t:Nat} {k:IntKind} {y:Operand} {x d:D} (ho:o.op = .convert s t y) (ht:c.P.underlying t=some (.int k)) (hs : ∃ ds,c.P.underlying s=some ds)
  (hx:VR K μ H x (a.eval y)) (h:cviD k x=some d):Sim c E L o a K μ H W d ⟨sl,H⟩:=by
 unfold cviD at h
 split at h
 ·rename_i k' n
  cases h
  obtain⟨ds,hds⟩:=hs
  have hv:=hx.i_inv
  exact Sim.val fs (v := .int k (k.wrap n)) (by simp[execOp,ho,convert,run_underlying ht,run_underlying hds,hv,Conv.intToInt]) (.i ..)
 ·cases h
theorem sim_cvs (fs:FS E c.tm c.bs K μ L sl H a.tmps W) {s t:Nat} {y:Operand} {x d:D} (ho:o.op = .convert s t y) (ht:c.P.underlying t=some .string) (hs:c.P.underlying s=some .string)
  (hx:VR K μ H x (a.eval y)) (h:cvsD x=some d):Sim c E L o a K μ H W d ⟨sl,H⟩:=by
 unfold cvsD at h
 split at h
 ·rename_i l
  cases h
  have hv:=hx.s_inv
  exact Sim.val fs (v := .string ⟨l.toArray⟩) (by simp[execOp,ho,convert,run_underlying ht,run_underlying hs,hv]) (.s ..)
 ·cases h
theorem sim_ext (fs:FS E c.tm c.bs K μ L sl H a.tmps W) {j:Nat} {y:Operand} {x d:D} (ho:o.op = .extract y j) (hx:VR K μ H x (a.eval y)) (h:extD x j=some d):Sim c E L o a K μ H W d ⟨sl,H⟩:=by
 unfold extD at h
 split at h
 ·rename_i ds
  obtain⟨vs,hv,hl,hr⟩:=hx.tu_inv
  have hj:j<vs.length:=by rw[<- hl];exact lt_of_get h
  exact Sim.val fs (v:=vs[j]) (by simp[execOp,ho,Instr.extract,hv,hj]) (hr j d _ h (List.getElem?_eq_getElem hj))
 ·cases h
theorem sim_fld (fs:FS E c.tm c.bs K μ L sl H a.tmps W) {t f off n:Nat} {agg:Bool} {y:Operand} {x d:D} {fs':Array Field} {fd:Field} (ho:o.op = .field t y f) (ht:c.P.underlying t=some (.struct fs')) (hf:fs'[f]?=some fd)
  (hoff:fd.offset=off) (hs:sizeIs c.P fd.type n=true) (ha:aggIs c.P fd.type agg=true) (hx:VR K μ H x (a.eval y)) (h:fldD x off n agg=some d):Sim c E L o a K μ H W d ⟨sl,H⟩:=by
 unfold fldD at h
 split at h
 ·rename_i cs
  split at h
  ·rename_i r hcut
   obtain⟨vs,hv,hc⟩:=hx.ag_inv
   obtain⟨h1,h2,hds,_⟩:=cut_eq hcut
   have hc':=cells_slice hc h2
   rw[<- hds]at hc'
   cases agg with
   | true =>
    simp only[val,Option.some.injEq]at h;subst h
    refine Sim.val fs (v := .agg ((vs.drop off).take n).toArray) ?_ (.ag _ _ _ _ hc'.1.1 hc'.2 hc'.1.2)
    simp[execOp,ho,Instr.field,run_underlying ht,hf,hv,asAgg,part,isAgg_run ha,sizeIs_run hs,hoff]
   | false =>
    unfold val at h
    split at h
    ·contradiction
    ·split at h
     ·rename_i z
      cases h
      have hlen:=hc'.1.1
      simp only[List.length_singleton]at hlen
      have hoffl:off<vs.length:=by
       simp only[List.length_take,List.length_drop]at hlen;omega
      have hget:((vs.drop off).take n)[0]?=some vs[off]:=by
       rw[List.getElem?_take,if_pos (by simp only[List.length_singleton]at h1;omega),List.getElem?_drop];simp[hoffl]
      refine Sim.val fs (v:=vs[off]) ?_ (hc'.1.2 0 _ _ rfl hget)
      simp[execOp,ho,Instr.field,run_underlying ht,hf,hv,asAgg,part,isAgg_run ha,hoff,hoffl]
     ·cases h
  ·cases h
 ·cases h
theorem sim_ixs (fs:FS E c.tm c.bs K μ L sl H a.tmps W) {t:Nat} {y z:Operand} {x ix d:D} (ho:o.op = .index t y z) (ht:c.P.underlying t=some .string) (hx:VR K μ H x (a.eval y)) (hz:VR K μ H ix (a.eval z))
  (h:ixsD x ix=some d):Sim c E L o a K μ H W d ⟨sl,H⟩:=by
 unfold ixsD at h
 split at h
 ·rename_i l
  split at h
  ·rename_i j hj
   obtain⟨ik,h1,h2⟩:=ixOf_eq hj hz
   have hv:=hx.s_inv
   split at h
   ·rename_i b hb
    cases h
    refine Sim.val fs (v := .int .u8 b.toNat) ?_ (.i ..)
    have hget:(⟨l.toArray⟩:ByteArray)[j]?=some b:=by
     have hsz:j<(⟨l.toArray⟩:ByteArray).size:=by simpa [ByteArray.size]using h2
     rw[getElem?_pos _ j hsz]
     have:l[j]'h2=b:=by rw[List.getElem?_eq_getElem h2]at hb;exact Option.some.inj hb
     rw[<- this];rfl
    simp[execOp,ho,Instr.index,asIntOf,h1,run_underlying ht,hv,hget]
   ·cases h
  ·cases h
 ·cases h
theorem sim_ixa (fs:FS E c.tm c.bs K μ L sl H a.tmps W) {t e n w:Nat} {agg:Bool} {y z:Operand} {x ix d:D} (ho:o.op = .index t y z) (ht:c.P.underlying t=some (.array n e)) (hs:sizeIs c.P e w=true) (ha:aggIs c.P e agg=true)
  (hx:VR K μ H x (a.eval y)) (hz:VR K μ H ix (a.eval z)) (h:ixaD x ix n w agg=some d):Sim c E L o a K μ H W d ⟨sl,H⟩:=by
 unfold ixaD at h
 split at h
 ·rename_i cs
  split at h
  ·rename_i j hj
   obtain⟨ik,g1,g2⟩:=ixOf_eq hj hz
   split at h
   ·rename_i r hcut
    obtain⟨vs,hv,hc⟩:=hx.ag_inv
    obtain⟨h1,h2,hds,_⟩:=cut_eq hcut
    have hc':=cells_slice hc h2
    rw[<- hds]at hc'
    cases agg with
    | true =>
     simp only[val,Option.some.injEq]at h;subst h
     refine Sim.val fs (v := .agg ((vs.drop (j*w)).take w).toArray) ?_ (.ag _ _ _ _ hc'.1.1 hc'.2 hc'.1.2)
     simp[execOp,ho,Instr.index,asIntOf,g1,run_underlying ht,hv,g2,part,isAgg_run ha,sizeIs_run hs]
    | false =>
     unfold val at h
     split at h
     ·contradiction
     ·split at h
      ·rename_i z
       cases h
       have hlen:=hc'.1.1
       simp only[List.length_singleton]at hlen
       have hoffl:j*w<vs.length:=by
        simp only[List.length_take,List.length_drop]at hlen;omega
       have hget:((vs.drop (j*w)).take w)[0]?=some vs[j*w]:=by
        rw[List.getElem?_take,if_pos (by simp only[List.length_singleton]at h1;omega),List.getElem?_drop];simp[hoffl]
       refine Sim.val fs (v:=vs[j*w]) ?_ (hc'.1.2 0 _ _ rfl hget)
       simp[execOp,ho,Instr.index,asIntOf,g1,run_underlying ht,hv,g2,part,isAgg_run ha,sizeIs_run hs,hoffl]
      ·cases h
   ·cases h
  ·cases h
 ·cases h
theorem sim_mkf (fs:FS E c.tm c.bs K μ L sl H a.tmps W) {f:Fn} {xs ys:Array Operand} {p q:List D} (ho:o.op = .makeFunc f xs ys) (hp:VRs K μ H p (xs.toList.map a.eval)) (hq:VRs K μ H q (ys.toList.map a.eval)) :
  Sim c E L o a K μ H W (.fn f p q) ⟨sl,H⟩:=by
 refine Sim.val fs (v := .func f (xs.map a.eval) (ys.map a.eval)) (by simp[execOp,ho,Instr.makeFunc]) ?_
 have:=VR.fn (K:=K) μ H f p q _ _ hp.1 hq.1 hp.2 hq.2
 rw[<- Array.toList_map, <- Array.toList_map,Array.toArray_toList,Array.toArray_toList]at this
 exact this
theorem sim_mki (fs:FS E c.tm c.bs K μ L sl H a.tmps W) {t:Nat} {y:Operand} {x:D} (ho:o.op = .makeInterface t y) (ht : ∃ d,c.P.underlying t=some d /\ ∀ ms,d ≠ .interface ms) (hx:VR K μ H x (a.eval y)) :
  Sim c E L o a K μ H W (.ifc t x) ⟨sl,H⟩:=by
 obtain⟨d,hd,hne⟩:=ht
 refine Sim.val fs (v := .iface t (a.eval y)) ?_ (.ifc _ _ t x _ hx)
 simp[execOp,ho,Instr.makeInterface,run_underlying hd]
theorem sim_nck (fs:FS E c.tm c.bs K μ L sl H a.tmps W) {y:Operand} {x d:D} (ho:o.op = .nilCheck y) (hx:VR K μ H x (a.eval y)) (h:nckD x=some d):Sim c E L o a K μ H W d ⟨sl,H⟩:=by
 have fin : ∀ ad,a.eval y = .pointer (some ad) -> d=x -> Sim c E L o a K μ H W d ⟨sl,H⟩:=fun ad e e'=>by
  subst e'
  exact Sim.val fs (v := .pointer (some ad)) (by simp[execOp,ho,e]) (e▸hx)
 unfold nckD at h
 generalize hy:a.eval y=v at *
 split at h
 ·cases h;cases hx;exact fin _ rfl rfl
 ·cases h;cases hx;exact fin _ rfl rfl
 ·cases h;cases hx;exact fin _ rfl rfl
 ·cases h;cases hx;exact fin _ rfl rfl
 ·cases h
theorem foldO_sound {f:D -> D -> Option D} {g:Value -> Value -> Sem Value} {P:Program} (hf : ∀ x y q v w,f x y=some q -> VR K μ H x v -> VR K μ H y w -> ∃ r,(g v w).run P W = .ok r W /\ VR K μ H q r) :
  ∀ {ds:List D} {vs:List Value} {x q:D} {v:Value},VRs K μ H ds vs -> VR K μ H x v -> foldO f x ds=some q -> ∃ r,(vs.foldlM g v).run P W = .ok r W /\ VR K μ H q r
 | [],[],x,q,v,_,hv,h=>by
  cases h
  exact⟨v,by simp,hv⟩
 | [],_::_,_,_,_,hl,_,_=>by have:=hl.1;simp at this
 | _::_,[],_,_,_,hl,_,_=>by have:=hl.1;simp at this
 | d::ds,w::vs,x,q,v,hl,hv,h=>by
  simp only[foldO]at h
  split at h
  ·rename_i y hy
   obtain⟨u,h1,h2⟩:=hf x d y v w hy hv (hl.2 0 d w rfl rfl)
   obtain⟨u',h3,h4⟩:=foldO_sound hf (ds:=ds) (vs:=vs) ⟨by have:=hl.1;simpa using this,fun j a b e e'=>hl.2 (j+1) a b (by simpa using e) (by simpa using e')⟩ h2 h
   exact⟨u',by simp[List.foldlM_cons,h1,h3],h4⟩
  ·cases h
theorem sim_mx (fs:FS E c.tm c.bs K μ L sl H a.tmps W) {args:Array Operand} {ats:Array TypeId} {ds:List D} {d:D} (ho:o.op = .call { callee := .builtin .max,args,argTypes:=ats }) (hx:VRs K μ H ds (args.toList.map a.eval))
  (h:foldD max2 ds=some d):Sim c E L o a K μ H W d ⟨sl,H⟩:=by
 unfold foldD at h
 split at h
 ·rename_i x xs
  match hl:args.toList,hx with
  | [],hx=>have:=hx.1;simp at this
  | y :: ys,hx =>
   have hargs:args=(y::ys).toArray:=by rw[<- hl]
   subst hargs
   simp only[List.map_cons]at hx
   obtain ⟨u,h1,h2⟩:=foldO_sound (P:=c.P) (W:=W) (g:=Builtin.max2) (f:=max2) (fun x y q v w e hv hw=>by
    unfold max2 at e
    split at e
    ·rename_i k m k' n
     split at e
     ·rename_i hk;subst hk;cases e
      have:=hv.i_inv;have:=hw.i_inv
      subst_vars
      exact⟨_,by simp[Builtin.max2],.i ..⟩
     ·cases e
    ·cases e) (ds:=xs) (vs:=ys.map a.eval) ⟨by have:=hx.1;simpa using this,fun j p q e e'=>hx.2 (j+1) p q (by simpa using e) (by simpa using e')⟩ (hx.2 0 x _ rfl rfl) h
   exact Sim.val fs (v:=u) (by simp[execOp,ho,resolve,invoke,builtin,Builtin.max_,h1]) h2
 ·cases h
theorem sim_mn (fs:FS E c.tm c.bs K μ L sl H a.tmps W) {args:Array Operand} {ats:Array TypeId} {ds:List D} {d:D} (ho:o.op = .call { callee := .builtin .min,args,argTypes:=ats }) (hx:VRs K μ H ds (args.toList.map a.eval))
  (h:foldD min2 ds=some d):Sim c E L o a K μ H W d ⟨sl,H⟩:=by
 unfold foldD at h
 split at h
 ·rename_i x xs
  match hl:args.toList,hx with
  | [],hx=>have:=hx.1;simp at this
  | y :: ys,hx =>
   have hargs:args=(y::ys).toArray:=by rw[<- hl]
   subst hargs
   simp only[List.map_cons]at hx
   obtain ⟨u,h1,h2⟩:=foldO_sound (P:=c.P) (W:=W) (g:=Builtin.min2) (f:=min2) (fun x y q v w e hv hw=>by
    unfold min2 at e
    split at e
    ·rename_i k m k' n
     split at e
     ·rename_i hk;subst hk;cases e
      have:=hv.i_inv;have:=hw.i_inv
      subst_vars
      exact⟨_,by simp[Builtin.min2],.i ..⟩
     ·cases e
    ·cases e) (ds:=xs) (vs:=ys.map a.eval) ⟨by have:=hx.1;simpa using this,fun j p q e e'=>hx.2 (j+1) p q (by simpa using e) (by simpa using e')⟩ (hx.2 0 x _ rfl rfl) h
   exact Sim.val fs (v:=u) (by simp[execOp,ho,resolve,invoke,builtin,Builtin.min_,h1]) h2
 ·cases h
theorem sim_len (fs:FS E c.tm c.bs K μ L sl H a.tmps W) {args:Array Operand} {ats:Array TypeId} {y:Operand} {t k:Nat} {x d:D} (ho:o.op = .call { callee := .builtin .len,args,argTypes:=ats }) (ha:args.toList=[y]) (hat:ats[0]?=some t)
  (ht:(match c.P.underlying t,k with
   | some .string,0|some (.slice _),1|some (.map _ _),2=>true
   | _,_=>false)=true) (hx:VR K μ H x (a.eval y)) (h:lenD H k x=some d):Sim c E L o a K μ H W d ⟨sl,H⟩:=by
 have hargs:args = #[y]:=by rw[<- Array.toArray_toList (xs:=args),ha]
 subst hargs
 generalize hv:a.eval y=v at hx
 unfold lenD at h
 split at ht
 ·rename_i hu
  simp only at h
  split at h
  ·rename_i l
   cases h;cases hx
   have hsz:(⟨l.toArray⟩:ByteArray).size=l.length:=by show l.toArray.size=_;simp
   exact Sim.val fs (v := .int .i64 l.length) (by simp[execOp,ho,resolve,invoke,builtin,Builtin.len_,hat,hv,run_underlying hu,goInt,hsz]) (.i ..)
  ·cases h
 ·rename_i hu
  simp only at h
  have fin : ∀ base n cp,v = .slice base n cp -> d = .i .i64 n -> Sim c E L o a K μ H W d ⟨sl,H⟩:=fun base n cp e1 e2=>by
   subst e1;subst e2
   exact Sim.val fs (v := .int .i64 n) (by simp[execOp,ho,resolve,invoke,builtin,Builtin.len_,hat,hv,run_underlying hu,goInt]) (.i ..)
  split at h
  ·cases h;cases hx;exact fin _ 0 _ rfl rfl
  ·cases h;cases hx;exact fin _ 0 _ rfl rfl
  ·cases h;cases hx;exact fin _ _ _ rfl rfl
  ·cases h;cases hx;exact fin _ _ _ rfl rfl
  ·cases h;cases hx;exact fin _ _ _ rfl rfl
  ·cases h
 ·rename_i hu
  simp only at h
  split at h
  ·cases h;cases hx
   exact Sim.val fs (v := .int .i64 0) (by simp[execOp,ho,resolve,invoke,builtin,Builtin.len_,hat,hv,run_underlying hu,goInt]) (.i ..)
  ·rename_i m
   split at h
   ·rename_i es hH
    cases h
    cases hx with
    | mp _ _ _ l es' hm hH' =>
     obtain⟨mes,clock,_,h1,h2,h3⟩:=fs.hr.blk m l _ hm hH
     refine Sim.val fs (v := .int .i64 es.length) ?_ (.i ..)
     have hg:(getObj l.blk).run c.P W = .ok (.map mes clock) W:=by simp[getObj,Sem.run,h1]
     simp[execOp,ho,resolve,invoke,builtin,Builtin.len_,hat,hv,run_underlying hu,goInt,hg,h2]
   ·cases h
  ·cases h
 ·cases ht
end
section
variable {c:CX} {E:En} {L:Nat -> Option Nat} {K:Kn} {μ:Mu} {sl:List D} {H:Heap} {a:Act} {W:World} {o:Oper}
theorem bytesLess_eq : ∀ (x y:List UInt8),Op.bytesLess x y=bytesLess x y
 | _,[]=>by cases ‹List UInt8› <;> rfl
 | [],_::_=>rfl
 | p::x,q::y=>by simp only[Op.bytesLess,bytesLess,bytesLess_eq x y]
theorem run_binI {P:Program} {op:BinOp} {k:IntKind} {x y:Int} {d:D} (h:binI op k x y=some d) (hs:op ≠ .shl /\ op ≠ .shr) (t:TypeId) : ∃ v,(binOp op t (.int k x) (.int k y)).run P W = .ok v W /\ VR K μ H d v:=by
  cases op<;>simp only[binI]at h<;>first
    | (cases h;exact⟨_,by simp only[binOp,ne_eq,not_true_eq_false,if_false,Op.intArith,Op.intBits,Op.intCmp];rfl,by constructor⟩)
    | (split at h
       · cases h
       · rename_i h0
         cases h;exact⟨_,by simp only[binOp,ne_eq,not_true_eq_false,if_false,Op.intDiv,if_neg h0];rfl,by constructor⟩)
    | (exact absurd rfl hs.1)
    | (exact absurd rfl hs.2)
theorem run_shiftI {P:Program} {op:BinOp} {k k':IntKind} {x y:Int} {d:D} (h:shiftI op k x y=some d) (hs:op = .shl \/ op = .shr) (t:TypeId) : ∃ v,(binOp op t (.int k x) (.int k' y)).run P W = .ok v W /\ VR K μ H d v:=by
 unfold shiftI at h
 split at h
 ·cases h
 ·rename_i h0
  rcases hs with rfl|rfl
  ·cases h;exact⟨_,by simp only[binOp,Op.shift,if_neg h0];rfl,by constructor⟩
  ·cases h;exact⟨_,by simp only[binOp,Op.shift,if_neg h0];rfl,by constructor⟩
theorem size_mk (l:List UInt8):(⟨l.toArray⟩:ByteArray).size=l.length:=by show l.toArray.size=_;simp
theorem toList_mk (l:List UInt8):(⟨l.toArray⟩:ByteArray).toList=l:=by rw[ByteArray.toList_eq]
theorem run_binS {P:Program} {op:BinOp} {x y:List UInt8} {d:D} (h:binS op x y=some d) (t:TypeId) : ∃ v,(binOp op t (.string ⟨x.toArray⟩) (.string ⟨y.toArray⟩)).run P W = .ok v W /\ VR K μ H d v:=by
  cases op <;> simp only[binS]at h<;>first
    | (cases h;exact⟨_,by simp only[binOp,Op.stringOp,toList_mk,bytesLess_eq];rfl,by constructor⟩)
    | (split at h
       · rename_i h0
         cases h
         refine⟨.string ⟨(x++y).toArray⟩, ?_,by constructor⟩
         simp only[maxCat]at h0
         have h1 : ¬ (9223372036854775807<((x.length:Int)+(y.length:Int))):=by omega
         have h2:(⟨x.toArray⟩:ByteArray)++⟨y.toArray⟩=⟨(x++y).toArray⟩:=by
           apply ByteArray.ext
           simp
         simp[binOp,Op.stringOp,size_mk,h1,h2]
       · cases h)
    | cases h
theorem guard_free {P:Program} {op:BinOp} {t:TypeId} {x y:Operand} {v w:Value} (h : ∀ vs ws,v = .agg vs -> w = .agg ws -> P.eqGuardType P.depth t=false) (h':v = .nilIface -> w = .nilIface -> (x matches .const _)=true \/ (y matches .const _)=true) :
    (eqGuard op t x y v w).run P W = .ok () W:=by
  unfold eqGuard
  cases v<;>cases w<;>first
    | (rename_i vs ws
       have:=h vs ws rfl rfl
       simp[this])
    | (simp
       intro _ hx hy
       rcases h' rfl rfl with h|h
       · exact absurd (h.symm.trans hx) (by simp)
       · exact absurd (h.symm.trans hy) (by simp))
    | simp
theorem sim_bin (fs:FS E c.tm c.bs K μ L sl H a.tmps W) {op:BinOp} {t t':TypeId} {y z:Operand} {p q d:D} (ho:o.op = .binOp op t y z t') (hp:VR K μ H p (a.eval y)) (hq:VR K μ H q (a.eval z)) (h:bin op p q=some d) :
  Sim c E L o a K μ H W d ⟨sl,H⟩:=by
 have fin : ∀ v,(binOp op t (a.eval y) (a.eval z)).run c.P W = .ok v W -> (∀ vs ws,a.eval y = .agg vs -> a.eval z = .agg ws -> False) -> (a.eval y = .nilIface -> False) -> VR K μ H d v -> Sim c E L o a K μ H W d ⟨sl,H⟩:=fun v hrun h1 h2 hv=>by
  have hg:=guard_free (P:=c.P) (W:=W) (op:=op) (t:=t) (x:=y) (y:=z) (fun vs ws e e'=>(h1 vs ws e e').elim) (fun e _=>(h2 e).elim)
  exact Sim.val fs (v:=v) (by simp[execOp,ho,hg,hrun]) hv
 unfold bin at h
 split at h
 ·rename_i k x k' y'
  have e1:=hp.i_inv
  have e2:=hq.i_inv
  rw[e1,e2]at fin
  have ne1 : ∀ vs ws,Value.int k x = .agg vs -> Value.int k' y' = .agg ws -> False:=fun vs ws e=>by cases e
  have ne2:Value.int k x = .nilIface -> False:=fun e=>by cases e
  split at h
  ·obtain⟨v,hr,hv⟩:=run_shiftI (P:=c.P) (W:=W) (K:=K) (μ:=μ) (H:=H) (k':=k') h (.inl rfl) t
   exact fin v hr ne1 ne2 hv
  ·obtain⟨v,hr,hv⟩:=run_shiftI (P:=c.P) (W:=W) (K:=K) (μ:=μ) (H:=H) (k':=k') h (.inr rfl) t
   exact fin v hr ne1 ne2 hv
  ·rename_i n1 n2
   split at h
   ·rename_i hk;subst hk
    obtain⟨v,hr,hv⟩:=run_binI (P:=c.P) (W:=W) (K:=K) (μ:=μ) (H:=H) h ⟨n1,n2⟩ t
    exact fin v hr ne1 ne2 hv
   ·cases h
 ·rename_i x y'
  have e1:=hp.s_inv
  have e2:=hq.s_inv
  rw[e1,e2]at fin
  obtain⟨v,hr,hv⟩:=run_binS (P:=c.P) (W:=W) (K:=K) (μ:=μ) (H:=H) h t
  exact fin v hr (fun vs ws e=>by cases e) (fun e=>by cases e) hv
 ·cases h
theorem sim_un (fs:FS E c.tm c.bs K μ L sl H a.tmps W) {op:UnOp} {t:TypeId} {y:Operand} {p d:D} (ho:o.op = .unOp op t y) (hp:VR K μ H p (a.eval y)) (h:un op p=some d):Sim c E L o a K μ H W d ⟨sl,H⟩:=by
 unfold un at h
 split at h
 ·cases h
  have e:=hp.i_inv
  exact Sim.val fs (v:=_) (by simp only[execOp,ho,e,Op.unary,Op.intArith];rfl) (.i ..)
 ·cases h
  have e:=hp.i_inv
  exact Sim.val fs (v:=_) (by simp only[execOp,ho,e,Op.unary,Op.intBits];rfl) (.i ..)
 ·cases h
  have e:=hp.b_inv
  exact Sim.val fs (v:=_) (by simp only[execOp,ho,e,Op.unary];rfl) (.b ..)
 ·cases h
theorem bounds_run {P:Program} {lo hi:Option D} {ylo yhi:Option Operand} (hlo:match lo,ylo with|none,none=>True|some d,some y=>VR K μ H d (a.eval y)|_,_=>False)
  (hhi:match hi,yhi with|none,none=>True|some d,some y=>VR K μ H d (a.eval y)|_,_=>False) {len cap m k h:Nat} (hb:bounds lo hi len m=some (k,h)) (hm:m <= cap) (isSlice:Bool) :
  k <= h /\ h <= max len m /\ (Instr.sliceBounds isSlice len cap (ylo.map a.eval) (yhi.map a.eval) none).run P W = .ok (k,h,cap) W:=by
 unfold bounds at hb
 split at hb
 ·rename_i h' hh
  split at hb
  ·rename_i k' hk
   cases hb
   have H1:h <= max len m /\ (match yhi.map a.eval,(none:Option Value)with
     | some v,some _=>Instr.sliceBound v cap .slice3B
     | some v,none=>Instr.sliceBound v cap (if isSlice then .sliceAcap else .sliceAlen)
     | none,none=>pure len
     | none,some _=>stuck "Slice: max without high").run P W = .ok h W:=by
    cases hi with
    | none =>
     cases yhi with
     | none=>simp only[bound,Option.some.injEq]at hh;subst hh;exact⟨Nat.le_max_left _ _,by simp⟩
     | some y=>exact hhi.elim
    | some d =>
     cases yhi with
     | none=>exact hhi.elim
     | some y =>
      simp only[bound]at hh
      obtain⟨ik,e1,e2⟩:=bdOf_eq hh hhi
      refine⟨Nat.le_trans e2 (Nat.le_max_right _ _), ?_⟩
      have:h <= cap:=by omega
      simp[Instr.sliceBound,asIntOf,e1,this]
   have H2:k <= h /\ (match ylo.map a.eval with
     | some v=>Instr.sliceBound v h .sliceB
     | none=>pure 0).run P W = .ok k W:=by
    cases lo with
    | none =>
     cases ylo with
     | none=>simp only[bound,Option.some.injEq]at hk;subst hk;exact⟨Nat.zero_le _,by simp⟩
     | some y=>exact hlo.elim
    | some d =>
     cases ylo with
     | none=>exact hlo.elim
     | some y =>
      simp only[bound]at hk
      obtain⟨ik,e1,e2⟩:=bdOf_eq hk hlo
      exact⟨e2,by simp[Instr.sliceBound,asIntOf,e1,e2]⟩
   refine⟨H2.1,H1.1, ?_⟩
   have h1:=H1.2
   have h2:=H2.2
   unfold Instr.sliceBounds
   cases hy:yhi.map a.eval with
   | none =>
    rw[hy]at h1
    simp at h1
    subst h1
    cases hl:ylo.map a.eval with
    | none=>rw[hl]at h2;simp at h2;subst h2;simp
    | some v=>rw[hl]at h2;simp at h2;simp[h2]
   | some v =>
    rw[hy]at h1
    simp at h1
    cases hl:ylo.map a.eval with
    | none=>rw[hl]at h2;simp at h2;subst h2;simp[h1]
    | some u=>rw[hl]at h2;simp at h2;simp[h1,h2]
  ·cases hb
 ·cases hb
end
section
variable {c:CX} {E:En} {L:Nat -> Option Nat} {K:Kn} {μ:Mu} {sl:List D} {H:Heap} {a:Act} {W:World} {o:Oper}
def VRo (K:Kn) (μ:Mu) (H:Heap) (a:Act) (od:Option D) (oy:Option Operand):Prop :=
 match od,oy with
 | none,none=>True
 | some d,some y=>VR K μ H d (a.eval y)
 | _,_=>False
theorem extract_mk (l:List UInt8) (k h:Nat):(⟨l.toArray⟩:ByteArray).extract k h=⟨((l.drop k).take (h-k)).toArray⟩:=by
 apply ByteArray.ext
 simp[List.extract_eq_take_drop]
theorem sim_sliS (fs:FS E c.tm c.bs K μ L sl H a.tmps W) {t:TypeId} {y:Operand} {ylo yhi ymx:Option Operand} {x d:D} {lo hi mx:Option D} (ho:o.op = .slice t y ylo yhi ymx) (ht:c.P.underlying t=some .string)
  (hx:VR K μ H x (a.eval y)) (hlo:VRo K μ H a lo ylo) (hhi:VRo K μ H a hi yhi) (hmx:VRo K μ H a mx ymx) (h:sliceS x lo hi mx=some d):Sim c E L o a K μ H W d ⟨sl,H⟩:=by
 unfold sliceS at h
 split at h
 ·rename_i l
  split at h
  ·rename_i k h' hb
   cases h
   have hmx':ymx=none:=by cases ymx with|none=>rfl|some y=>exact hmx.elim
   subst hmx'
   have hv:=hx.s_inv
   obtain⟨b1,b2,b3⟩:=bounds_run (P:=c.P) (W:=W) hlo hhi hb (Nat.le_refl _) false
   refine Sim.val fs (v := .string ⟨((l.drop k).take (h'-k)).toArray⟩) ?_ (.s ..)
   simp[execOp,ho,Instr.sliceAt,run_underlying ht,Instr.slice,hv,size_mk,b3,extract_mk]
  ·cases h
 ·cases h
theorem run_sliceAt {P:Program} {t e w:Nat} (ht:P.underlying t=some (.slice e)) (hw:sizeIs P e w=true) {ylo yhi:Option Operand} {y:Operand} (ho:o.op = .slice t y ylo yhi none) {base:Option Addr} {len cap k h:Nat}
  (hy:a.eval y = .slice base len cap) (hb:(Instr.sliceBounds true len cap (ylo.map a.eval) (yhi.map a.eval) none).run P W = .ok (k,h,cap) W) :
  (execOp a.eval o).run P W = .ok (.value (.slice (if cap=k then base else base.map (·.add (k*w))) (h-k) (cap-k))) W:=by
 simp[execOp,ho,Instr.sliceAt,run_underlying ht,Instr.slice,hy,hb,sizeIs_run hw]
theorem sim_sliD (fs:FS E c.tm c.bs K μ L sl H a.tmps W) {t e w:TypeId} {y:Operand} {ylo yhi ymx:Option Operand} {x d:D} {lo hi mx:Option D} (ho:o.op = .slice t y ylo yhi ymx) (ht:c.P.underlying t=some (.slice e)) (hw:sizeIs c.P e w=true)
  (hx:VR K μ H x (a.eval y)) (hlo:VRo K μ H a lo ylo) (hhi:VRo K μ H a hi yhi) (hmx:VRo K μ H a mx ymx) (h:sliceD H w x lo hi mx=some d):Sim c E L o a K μ H W d ⟨sl,H⟩:=by
 generalize hv:a.eval y=v at hx
 cases mx with
 | none =>
  have hmx':ymx=none:=by cases ymx with|none=>rfl|some y=>exact hmx.elim
  subst hmx'
  simp only[sliceD]at h
  split at h
  ·split at h
   ·rename_i kh hb
    obtain⟨k,h'⟩:=kh
    cases h;cases hx
    obtain⟨b1,b2,b3⟩:=bounds_run (P:=c.P) (W:=W) (cap:=0) hlo hhi hb (Nat.le_refl _) true
    have e1:h'=0:=by simp at b2;exact b2
    have e2:k=0:=by omega
    subst e1;subst e2
    exact Sim.val fs (run_sliceAt ht hw ho hv b3) (by simpa using VR.nil (K:=K) μ H)
   ·cases h
  ·split at h
   ·rename_i kh hb
    obtain⟨k,h'⟩:=kh
    cases h
    cases hx with
    | z _ _ ad =>
     obtain⟨b1,b2,b3⟩:=bounds_run (P:=c.P) (W:=W) (cap:=0) hlo hhi hb (Nat.le_refl _) true
     have e1:h'=0:=by simp at b2;exact b2
     have e2:k=0:=by omega
     subst e1;subst e2
     exact Sim.val fs (run_sliceAt ht hw ho hv b3) (by simpa using VR.z (K:=K) μ H ad)
   ·cases h
  ·rename_i w' rows
   split at h
   ·rename_i k h' hww hb
    cases h
    have hww':w'=w:=by simpa using hww
    subst hww'
    cases hx with
    | im _ _ _ _ blk off cap f hc hwd hk h1 hrr =>
     obtain⟨b1,b2,b3⟩:=bounds_run (P:=c.P) (W:=W) hlo hhi hb hc true
     simp only[Nat.max_self]at b2
     refine Sim.val fs (run_sliceAt ht hw ho hv b3) ?_
     have hlen:=part_length rows k (h'-k) rows.length rfl (by omega)
     have key:=VR.im (K:=K) μ H w' ((rows.drop k).take (h'-k)) blk (off+k*w') (cap-k) (fun i j=>f (k+i) j) (by omega) (fun i r e=>hwd _ r (part_get _ _ _ _ _ e).1)
      (fun i r j x e e'=>by rw[show off+k*w'+(i*w'+j)=off+((k+i)*w'+j)by rw[Nat.add_mul];omega];exact hk _ r j x (part_get _ _ _ _ _ e).1 e')
      (fun i r j x e e'=>h1 _ r j x (part_get _ _ _ _ _ e).1 e') (fun i r j x e e'=>hrr _ r j x (part_get _ _ _ _ _ e).1 e')
     rw[hlen]at key
     by_cases hck:cap=k
     ·rw[if_pos hck]
      have h0:h'-k=0:=by omega
      rw[h0]at key ⊢
      simp only[List.take_zero]at key ⊢
      have e0:=VR.im (K:=K) μ H w' [] blk off (cap-k) (fun _ _=>undef) (by simp) (fun i r e=>by simp at e) (fun i r j x e=>by simp at e) (fun i r j x e=>by simp at e) (fun i r j x e=>by simp at e)
      exact e0
     ·rw[if_neg hck]
      simpa [add_none]using key
   ·cases h
  ·rename_i w' rows
   split at h
   ·rename_i k h' hww hb
    cases h
    have hww':w'=w:=by simpa using hww
    subst hww'
    cases hx with
    | sv _ _ _ _ blk off cap f hc hwd hk h1 hrr =>
     obtain⟨b1,b2,b3⟩:=bounds_run (P:=c.P) (W:=W) hlo hhi hb hc true
     simp only[Nat.max_self]at b2
     refine Sim.val fs (run_sliceAt ht hw ho hv b3) ?_
     have hlen:=part_length rows k (h'-k) rows.length rfl (by omega)
     have key:=VR.sv (K:=K) μ H w' ((rows.drop k).take (h'-k)) blk (off+k*w') (cap-k) (fun i j=>f (k+i) j) (by omega) (fun i r e=>hwd _ r (part_get _ _ _ _ _ e).1)
      (fun i r j x e e'=>by rw[show off+k*w'+(i*w'+j)=off+((k+i)*w'+j)by rw[Nat.add_mul];omega];exact hk _ r j x (part_get _ _ _ _ _ e).1 e')
      (fun i r j x e e'=>h1 _ r j x (part_get _ _ _ _ _ e).1 e') (fun i r j x e e'=>hrr _ r j x (part_get _ _ _ _ _ e).1 e')
     rw[hlen]at key
     by_cases hck:cap=k
     ·rw[if_pos hck]
      have h0:h'-k=0:=by omega
      rw[h0]at key ⊢
      simp only[List.take_zero]at key ⊢
      exact VR.sv (K:=K) μ H w' [] blk off (cap-k) (fun _ _=>undef) (by simp) (fun i r e=>by simp at e) (fun i r j x e=>by simp at e) (fun i r j x e=>by simp at e) (fun i r j x e=>by simp at e)
     ·rw[if_neg hck]
      simpa [add_none]using key
   ·cases h
  ·rename_i id n off len
   split at h
   ·rename_i w' rows kc p lk harr
    obtain⟨hH,hn⟩:=arr_eq harr
    split at h
    ·rename_i k h' hww hb
     cases h
     have hww':w'=w:=by simpa using hww
     subst hww'
     cases hx with
     | mu _ _ _ _ _ _ cap blk q l w2 rows2 kc2 p2 lk2 hm hH' hle hcond =>
      rw[hH]at hH';cases hH'
      obtain⟨h3,h4,h5,h6,h7,h8⟩:=hcond hn
      obtain⟨b1,b2,b3⟩:=bounds_run (P:=c.P) (W:=W) (cap:=cap) hlo hhi hb (by omega) true
      have b2':h' <= n-off:=by omega
      have b2'':h' <= cap:=by omega
      refine Sim.val fs (run_sliceAt ht hw ho hv b3) ?_
      have hfin : ∀ bq:Nat×Nat,(cap-k=0 \/ (bq.1=l.blk /\ bq.2=l.off+(off+k)*w')) -> VR K μ H (.mu id n (off+k) (h'-k)) (.slice (some ⟨bq.1,bq.2,none⟩) (h'-k) (cap-k)):=fun bq hbq =>
       .mu _ _ _ _ _ _ _ _ _ l w' rows kc p lk hm hH hle (fun _=>⟨hbq,by omega,by omega,by omega,by rw[show off+k+(cap-k)=off+cap by omega];exact h7,fun c0 e=>by have:=h8 c0 e;omega⟩)
      by_cases hck:cap=k
      ·rw[if_pos hck];exact hfin (blk,q) (.inl (by omega))
      ·rw[if_neg hck]
       simp only[Option.map_some,add_none]
       refine hfin (blk,q+k*w') ?_
       rcases h3 with h3|⟨rfl,rfl⟩
       ·omega
       ·exact .inr ⟨rfl,by rw[Nat.add_mul];omega⟩
    ·cases h
   ·cases h
  ·cases h
 | some m =>
  cases ymx with
  | none=>exact hmx.elim
  | some ym =>
  simp only[sliceD]at h
  split at h
  ·rename_i z0 hi' hm0
   split at h
   ·rename_i kh hb
    obtain⟨k,h'⟩:=kh
    obtain⟨ik,m1,m2⟩:=bdOf_eq hm0 hmx
    have z00:z0=0:=by omega
    subst z00
    cases yhi with
    | none=>exact hhi.elim
    | some yh =>
    unfold bounds at hb
    split at hb
    ·rename_i h2 hh
     split at hb
     ·rename_i k2 hk
      cases hb
      simp only[bound]at hh
      obtain⟨ik2,n1,n2⟩:=bdOf_eq hh hhi
      have h00:h'=0:=by omega
      subst h00
      have hlo0:ylo.map a.eval=none \/ ∃ ik:IntKind,ylo.map a.eval=some (.int ik (0:Nat)):=by
       cases lo with
       | none =>
        cases ylo with
        | none=>exact .inl rfl
        | some yl=>exact hlo.elim
       | some dl =>
        cases ylo with
        | none=>exact hlo.elim
        | some yl =>
         simp only[bound]at hk
         obtain⟨ik3,o1,o2⟩:=bdOf_eq hk hlo
         have:k=0:=by omega
         subst this
         exact .inr ⟨ik3,by simp[o1]⟩
      have hrun : ∀ base len cap,a.eval y = .slice base len cap -> (execOp a.eval o).run c.P W = .ok (.value (.slice base 0 0)) W:=fun base len cap e=>by
       have hbb:(Instr.sliceBounds true len cap (ylo.map a.eval) (some (a.eval yh)) (some (a.eval ym))).run c.P W = .ok (0,0,0) W:=by
        unfold Instr.sliceBounds
        rcases hlo0 with hl|⟨ik3,hl⟩
        ·simp[hl,Instr.sliceBound,asIntOf,m1,n1]
        ·simp[hl,Instr.sliceBound,asIntOf,m1,n1]
       simp[execOp,ho,Instr.sliceAt,run_underlying ht,Instr.slice,e,hbb,sizeIs_run hw]
      split at h
      ·cases h;cases hx;exact Sim.val fs (hrun _ _ _ hv) (.nil ..)
      ·cases h;cases hx;exact Sim.val fs (hrun _ _ _ hv) (.z ..)
      ·cases h;cases hx;exact Sim.val fs (hrun _ _ _ hv) (.z ..)
      ·cases h;cases hx;exact Sim.val fs (hrun _ _ _ hv) (.z ..)
      ·cases h;cases hx;exact Sim.val fs (hrun _ _ _ hv) (.z ..)
      ·cases h
     ·cases hb
    ·cases hb
   ·cases h
  ·cases h
end
section
variable {c:CX} {E:En} {L:Nat -> Option Nat} {K:Kn} {μ:Mu} {sl:List D} {H:Heap} {a:Act} {W:World} {o:Oper}
theorem sim_cap (fs:FS E c.tm c.bs K μ L sl H a.tmps W) {args:Array Operand} {ats:Array TypeId} {y:Operand} {t:Nat} {x d:D} (ho:o.op = .call { callee := .builtin .cap,args,argTypes:=ats }) (ha:args.toList=[y]) (hat:ats[0]?=some t)
  (ht : ∃ e,c.P.underlying t=some (.slice e)) (hx:VR K μ H x (a.eval y)) (h:capD H x=some d):Sim c E L o a K μ H W d ⟨sl,H⟩:=by
 have hargs:args = #[y]:=by rw[<- Array.toArray_toList (xs:=args),ha]
 subst hargs
 obtain⟨e,hu⟩:=ht
 generalize hv:a.eval y=v at hx
 have fin : ∀ base n cp,v = .slice base n cp -> d = .i .i64 cp -> Sim c E L o a K μ H W d ⟨sl,H⟩:=fun base n cp e1 e2=>by
  subst e1;subst e2
  exact Sim.val fs (v := .int .i64 cp) (by simp[execOp,ho,resolve,invoke,builtin,Builtin.cap_,hat,hv,run_underlying hu,goInt]) (.i ..)
 unfold capD at h
 split at h
 ·cases h;cases hx;exact fin _ _ 0 rfl rfl
 ·cases h;cases hx;exact fin _ _ 0 rfl rfl
 ·rename_i id n off len
  split at h
  ·rename_i w rows cc p lk harr
   cases h
   obtain⟨hH,hn⟩:=arr_eq harr
   cases hx with
   | mu _ _ _ _ _ _ cap blk q l w2 rows2 kc2 p2 lk2 hm hH' hle hcond =>
    rw[hH]at hH';cases hH'
    obtain⟨h3,h4,h5,h6,h7,h8⟩:=hcond hn
    have:=h8 cc rfl
    exact fin _ _ cap rfl (by congr 2;omega)
  ·cases h
 ·cases h
theorem sim_sla (fs:FS E c.tm c.bs K μ L sl H a.tmps W) {t e w n:TypeId} {y:Operand} {ylo yhi:Option Operand} {x d:D} {lo hi:Option D} (ho:o.op = .slice t y ylo yhi none) (ht:c.P.underlying t=some (.array n e)) (hw:sizeIs c.P e w=true)
  (hx:VR K μ H x (a.eval y)) (hlo:VRo K μ H a lo ylo) (hhi:VRo K μ H a hi yhi) (h:sliceA H x n w lo hi=some d):Sim c E L o a K μ H W d ⟨sl,H⟩:=by
 generalize hv:a.eval y=v at hx
 unfold sliceA at h
 split at h
 ·rename_i id
  split at h
  ·rename_i w' rows cc p hH
   split at h
   ·rename_i hcd
    obtain⟨rfl,hrn,rfl⟩:=hcd
    split at h
    ·rename_i k h' hb
     cases h
     cases hx with
     | aa _ _ _ l w2 rows2 c2 p2 lk2 hm hH' =>
      rw[hH]at hH';cases hH'
      obtain⟨hwd,hcap,hl,cur,ty,hW,hsz,hrows⟩:=fs.hr.blk id l _ hm hH
      obtain⟨b1,b2,b3⟩:=bounds_run (P:=c.P) (W:=W) hlo hhi hb (Nat.le_refl _) false
      simp only[Nat.max_self]at b2
      refine Sim.val fs (v := .slice (some (if cc=k then(⟨l.blk,l.off,none⟩:Addr)else(⟨l.blk,l.off,none⟩:Addr).add (k*w'))) (h'-k) (cc-k))
       (by simp[execOp,ho,Instr.sliceAt,run_underlying ht,hv,Instr.sureAddr,b3,sizeIs_run hw]) ?_
      have hfin : ∀ q,(cc-k=0 \/ q=l.off+k*w') -> VR K μ H (.mu id cc k (h'-k)) (.slice (some ⟨l.blk,q,none⟩) (h'-k) (cc-k)):=fun q hq =>
       .mu _ _ _ _ _ _ _ _ _ l w' rows (some cc) p false hm hH (by omega) (fun _=>⟨hq.imp (fun e=>e) fun e=>⟨rfl,e⟩,by omega,by omega,by omega,by rw[show k+(cc-k)=cc by omega, <- hrn];exact hl,fun c0 e=>by cases e;omega⟩)
      by_cases hck:cc=k
      ·rw[if_pos hck];exact hfin _ (.inl (by omega))
      ·rw[if_neg hck,add_none];exact hfin _ (.inr rfl)
    ·cases h
   ·cases h
  ·cases h
 ·cases h
theorem zero_run {P:Program} {t:Nat} {zero:D} (h:(match P.info? t with
    | some inf=>(match inf.zero with
     | some zv=>constOk zero zv
     | none=>false)
    | none=>false)=true) : ∃ z,(∀ w,(zeroValue t).run P w = .ok z w) /\ ∀ K μ H,VR K μ H zero z:=by
 split at h
 ·rename_i i hi
  split at h
  ·rename_i z hz
   exact⟨z,fun w=>by simp[zeroValue,typeInfo,hi,hz],fun K μ H=>constOk_sound h K μ H⟩
  ·cases h
 ·cases h
theorem VR.pair {x y:D} {v w:Value} (h:VR K μ H x v) (h':VR K μ H y w):VR K μ H (.tu [x,y]) (.tuple #[v,w]) :=
 .tu _ _ [x,y] [v,w] rfl (fun j d u e e'=>by
  match j with
  | 0=>cases e;cases e';exact h
  | 1=>cases e;cases e';exact h'
  | _+2=>cases e)
theorem sim_tas (fs:FS E c.tm c.bs K μ L sl H a.tmps W) {xt t:TypeId} {y:Operand} {x d zero:D} {ok:Bool} (ho:o.op = .typeAssert y xt t ok) (ht : ∃ td,c.P.underlying t=some td /\ ∀ ms,td ≠ .interface ms)
  (hz : (match c.P.info? t with
    | some inf=>(match inf.zero with
     | some zv=>constOk zero zv
     | none=>false)
    | none=>false)=true) (hx:VR K μ H x (a.eval y)) (h:tasD x t ok zero=some d):Sim c E L o a K μ H W d ⟨sl,H⟩:=by
 obtain⟨td,hu,hni⟩:=ht
 obtain⟨z,hz1,hz2⟩:=zero_run hz
 generalize hv:a.eval y=v at hx
 have fails:v = .nilIface \/ (∃ t' v',v = .iface t' v' /\ t'≠t) -> ok=true -> (execOp a.eval o).run c.P W = .ok (.value (.tuple #[z,.bool false])) W:=by
  rintro(rfl|⟨t',v',rfl,hne⟩) rfl
  ·cases td<;>simp_all[execOp,Instr.typeAssert,run_underlying hu]
  ·cases td<;>simp_all[execOp,Instr.typeAssert,run_underlying hu]
 unfold tasD at h
 split at h
 ·rename_i t' d'
  cases hx with
  | ifc _ _ _ _ v' hv' =>
   split at h
   ·rename_i _ _ ht'
    cases h
    have htt:t'=t:=by simpa using ht'
    subst htt
    refine Sim.val fs (v := .tuple #[v',.bool true]) ?_ (VR.pair hv' (.b ..))
    cases td<;>simp_all[execOp,Instr.typeAssert,run_underlying hu]
   ·rename_i _ _ ht'
    cases h
    have htt:t'=t:=by simpa using ht'
    subst htt
    refine Sim.val fs (v:=v') ?_ hv'
    cases td<;>simp_all[execOp,Instr.typeAssert,run_underlying hu]
   ·rename_i _ _ ht'
    cases h
    have htt:t'≠t:=by simpa using ht'
    exact Sim.val fs (fails (.inr ⟨t',v',rfl,htt⟩) rfl) (VR.pair (hz2 _ _ _) (.b ..))
   ·cases h
 ·split at h
  ·cases h;cases hx
   exact Sim.val fs (fails (.inl rfl) rfl) (VR.pair (hz2 _ _ _) (.b ..))
  ·cases h
 ·cases h
theorem fillC_sound {place:Nat -> Option (Nat×Nat)} : ∀ {parts:List (Nat×Nat×D)} {vals:List (Nat×Value)} {cs cs':List D} {vs:Array Value},
  CRs K μ H cs vs.toList -> parts.length=vals.length -> (∀ (j:Nat) (x:Nat×Nat×D) (y:Nat×Value),parts[j]?=some x -> vals[j]?=some y -> place y.1=some (x.1,x.2.1) /\ VR K μ H x.2.2 y.2) ->
  fillC cs parts=some cs' -> ∃ vs':Array Value,Instr.fill place vs vals=some vs' /\ CRs K μ H cs' vs'.toList
 | [],[],cs,cs',vs,hv,_,_,h=>by
  cases h
  exact⟨vs,rfl,hv⟩
 | [],_::_,_,_,_,_,hl,_,_=>by simp at hl
 | _::_,[],_,_,_,_,hl,_,_=>by simp at hl
 | (off,n,d)::parts,(i',v)::vals,cs,cs',vs,hv,hl,hpt,h=>by
  obtain⟨hpl,hdv⟩:=hpt 0 _ _ rfl rfl
  simp only at hdv hpl
  simp only[fillC]at h
  split at h
  ·rename_i ds hds
   split at h
   ·rename_i cs1 hput
    obtain⟨hc,hn⟩:=cellsN_of hds hdv
    obtain⟨hfit,rfl⟩:=put_eq hput
    have hcl:=hc.1.1
    have hvl:=hv.1.1
    simp only[Array.length_toList]at hcl hvl
    have hfold:=fillR_sound.fold_set [] [] v.cells off vs (by omega)
    have hnew:CRs K μ H (cs.take off++ds++cs.drop (off+ds.length)) (v.cells.zipIdx.foldl (fun cs (c,j)=>cs.setIfInBounds (off+j) c) vs).toList:=by
     rw[hfold];exact splice_crs hv hc hfit
    obtain⟨vs',e1,e2⟩:=fillC_sound hnew (by simpa using hl) (fun j x y e e'=>hpt (j+1) x y (by simpa using e) (by simpa using e')) h
    refine⟨vs', ?_,e2⟩
    simp only[Instr.fill,hpl]
    rw[if_neg (by simp only[Bool.or_eq_true,decide_eq_true_eq,not_or];omega)]
    exact e1
   ·cases h
  ·cases h
theorem run_places {P:Program} (fds:List Field) (h : ∀ f∈fds,(P.info? f.type).isSome=true) :
  ∃ ps:List (Nat×Nat),(fds.mapM (m:=Sem) fun f=>do pure (f.offset, <- sizeOf f.type)).run P W = .ok ps W /\ ∀ j,ps[j]?=placesOf P fds.toArray j:=by
 induction fds with
 | nil=>exact⟨[],by simp,fun j=>by simp[placesOf]⟩
 | cons f fds ih =>
  obtain⟨ps,h1,h2⟩:=ih (fun g hg=>h g (List.mem_cons_of_mem _ hg))
  obtain⟨i,hi⟩:=Option.isSome_iff_exists.1 (h f (List.mem_cons_self ..))
  refine⟨(f.offset,i.size)::ps, ?_,fun j => ?_⟩
  ·have hs:(sizeOf f.type).run P W = .ok i.size W:=by simp[sizeOf,typeInfo,hi]
   simp only[List.mapM_cons,Sem.run_bind,hs,Result.andThen_ok,Sem.run_pure,h1]
  ·cases j with
   | zero=>simp[placesOf,hi]
   | succ j=>simpa [placesOf]using h2 j
theorem sim_agc (fs:FS E c.tm c.bs K μ L sl H a.tmps W) {t:TypeId} {qs:Array (Nat×Operand)} {zs cs:List D} {parts:List (Nat×Nat×D)} {place:Nat -> Option (Nat×Nat)} (ho:o.op = .build t qs) (hz:zeroOk c.P t zs=true)
  (ht:(∃ fds:Array Field,c.P.underlying t=some (.struct fds) /\ (∀ f∈fds.toList,(c.P.info? f.type).isSome=true) /\ place=placesOf c.P fds) \/
   ∃ n e inf,c.P.underlying t=some (.array n e) /\ c.P.info? e=some inf /\ place=fun j=>some (j*inf.size,inf.size))
  (hl:parts.length=qs.size) (hpt : ∀ (j:Nat) (x:Nat×Nat×D) (y:Nat×Operand),parts[j]?=some x -> qs[j]?=some y -> place y.1=some (x.1,x.2.1) /\ VR K μ H x.2.2 (a.eval y.2))
  (h:fillC zs parts=some cs):Sim c E L o a K μ H W (.ag cs) ⟨sl,H⟩:=by
 obtain⟨z,hzr,hzc,_,_⟩:=zeroOk_run hz
 obtain ⟨vs',e1,e2⟩:=fillC_sound (place:=place) (vals:=(qs.map fun(i,x)=>(i,a.eval x)).toList) (hzc K μ H) (by simpa using hl)
  (fun j x y ex ey=>by
   simp only[Array.toList_map,List.getElem?_map,Array.getElem?_toList]at ey
   cases hq:qs[j]? with
   | none=>rw[hq]at ey;cases ey
   | some q =>
    rw[hq]at ey
    cases ey
    exact hpt j x q ex hq) h
 rw[Array.toList_map]at e1
 refine Sim.val fs (v := .agg vs') ?_ (by simpa using VR.ag (K:=K) μ H cs vs'.toList e2.1.1 e2.2 e2.1.2)
 rcases ht with⟨fds,hu,hf,rfl⟩|⟨n,e,inf,hu,hi,rfl⟩
 ·obtain ⟨ps,p1,p2⟩:=run_places (W:=W) (P:=c.P) fds.toList hf
  have p3:(fun j=>ps.toArray[j]?)=placesOf c.P fds:=funext fun j=>by simpa using p2 j
  have p4:(fds.mapM (m:=Sem) fun f=>do pure (f.offset, <- sizeOf f.type)).run c.P W = .ok ps.toArray W:=by
   rw[Array.mapM_eq_mapM_toList]
   simp only[Sem.run_map,p1]
   rfl
  simp only[execOp,ho,Instr.build,Sem.run_bind,hzr,Result.andThen_ok,run_underlying hu,p4]
  have e1':Instr.fill (fun j=>ps.toArray[j]?) z.cells (qs.map fun(i,x)=>(i,a.eval x)).toList=some vs':=by rw[p3,Array.toList_map];exact e1
  simp only[e1',Sem.run_pure,Result.andThen_ok]
 ·have hs:(sizeOf e).run c.P W = .ok inf.size W:=by simp[sizeOf,typeInfo,hi]
  simp[execOp,ho,Instr.build,hzr,run_underlying hu,hs,e1]
end
section
variable {c:CX} {E:En} {L:Nat -> Option Nat} {K:Kn} {μ:Mu} {sl:List D} {H:Heap} {a:Act} {W:World} {o:Oper}
theorem bytesOf_eq : ∀ {rows:List (List D)} {l:List UInt8},bytesOf rows=some l -> ∃ ns:List Int,rows=ns.map (fun n=>[.i .u8 n]) /\ l=ns.map fun n=>UInt8.ofNat n.toNat
 | [],l,h=>by cases h;exact⟨[],rfl,rfl⟩
 | r :: rs,l,h=>by
  unfold bytesOf at h
  split at h
  ·contradiction
  ·rename_i n rs' he
   cases he
   cases hb:bytesOf rs with
   | none=>rw[hb]at h;cases h
   | some l' =>
    rw[hb]at h;cases h
    obtain⟨ns,h1,h2⟩:=bytesOf_eq hb
    exact⟨n::ns,by rw[h1];rfl,by rw[h2];rfl⟩
  ·cases h
theorem rows_bytes {ns:List Int} {vs:List Value} (h:RowsV K μ H false 1 (ns.map (fun n=>[.i .u8 n])) vs):vs=ns.map (Value.int .u8):=by
 have hl:=h.len
 simp only[List.length_map,Nat.mul_one]at hl
 apply List.ext_getElem?
 intro j
 by_cases hj:j<ns.length
 ·obtain⟨v,h1,h2⟩:=h.cell j [.i .u8 ns[j]] 0 (.i .u8 ns[j]) (by simp[hj]) rfl
  have:=h2.2
  cases this
  rw[show j*1+0=j by omega]at h1
  rw[h1];simp[hj]
 ·rw[List.getElem?_eq_none (by omega),List.getElem?_eq_none (by simp;omega)]
theorem sim_cbs (fs:FS E c.tm c.bs K μ L sl H a.tmps W) {s t e:TypeId} {y:Operand} {x d:D} (ho:o.op = .convert s t y) (ht:c.P.underlying t=some .string) (hs:c.P.underlying s=some (.slice e)) (he:c.P.underlying e=some (.int .u8))
  (hx:VR K μ H x (a.eval y)) (h:cbsD H x=some d):Sim c E L o a K μ H W d ⟨sl,H⟩:=by
 unfold cbsD at h
 split at h
 ·cases h
 ·rename_i hns
  split at h
  ·rename_i rows hrows
   split at h
   ·rename_i l hl
    cases h
    obtain⟨vs,hv,hc⟩:=rowsOf_sound fs.hr hrows hx
    obtain⟨ns,rfl,rfl⟩:=bytesOf_eq hl
    have hvs:=rows_bytes hv
    subst hvs
    rcases hc with⟨hv0,hn,_⟩|⟨ad,n,cp,hv0,rfl,hcell⟩|⟨_,s',hv0,_⟩
    ·have hn0:ns=[]:=by simpa using hn
     subst hn0
     refine Sim.val fs (v := .string ByteArray.empty) ?_ (.s _ _ [])
     simp only[execOp,ho,hv0,Sem.run_bind,run_convert_bytes_nil W s e hs he 0 0 t ht,Result.andThen_ok,Sem.run_pure]
    ·have hload:(loadCells ad (ns.map (fun n=>[D.i .u8 n])).length).run c.P W = .ok (ns.map (Value.int .u8)).toArray W:=by
      have:=run_loadCells_list (P:=c.P) W ad (ns.map (Value.int .u8)) (fun j v e=>hcell j v e)
      simpa using this
     refine Sim.val fs (v := .string ⟨(ns.map fun n=>UInt8.ofNat n.toNat).toArray⟩) ?_ (.s _ _ _)
     have key:(convert s t (.slice (some ad) (ns.map (fun n=>[D.i .u8 n])).length cp)).run c.P W = .ok (.string ⟨(ns.map fun n=>UInt8.ofNat n.toNat).toArray⟩) W:=by
      rw[run_convert_bytes_string W s t e _ _ cp hs he ht,run_bytesToString W _ _ cp ns hload,foldl_push_bytes]
      congr 3
      simp[ByteArray.empty,ByteArray.emptyWithCapacity]
      rfl
     simp only[execOp,ho,hv0,Sem.run_bind,key,Result.andThen_ok,Sem.run_pure]
    ·rw[hv0]at hx
     cases hx
     exact(hns _ rfl).elim
   ·cases h
  ·cases h
theorem sim_csb (fs:FS E c.tm c.bs K μ L sl H a.tmps W) {s t e:TypeId} {y:Operand} {x d:D} (ho:o.op = .convert s t y) (hs:c.P.underlying s=some .string) (ht:c.P.underlying t=some (.slice e)) (he:c.P.underlying e=some (.int .u8))
  (hx:VR K μ H x (a.eval y)) (h:csbD x=some d):Sim c E L o a K μ H W d ⟨sl,H⟩:=by
 unfold csbD at h
 split at h
 ·rename_i l
  split at h
  ·cases h
   have hv:=hx.s_inv
   have key:=run_bytes_of_string (P:=c.P) W s t e ⟨l.toArray⟩ hs ht he
   rw[size_mk]at key
   generalize hcp:grownCap W l.length 0 e=cp at key
   have hge:l.length <= cp:=by rw[<- hcp];exact grownCap_ge W _ _ _
   generalize hfr:((bytesRow ⟨l.toArray⟩ cp).size,(bytesRow ⟨l.toArray⟩ cp).size+1)=fr at key
   obtain⟨h1,h2⟩:=fs.hr.drew.lit (bytesRow ⟨l.toArray⟩ cp) e fr
   have nx:=(Nx.drew K μ H W).trans h2
   have hget : ∀ (i:Nat) (b:UInt8),l[i]?=some b -> (bytesRow ⟨l.toArray⟩ cp)[i]?=some (.int .u8 b.toNat):=fun i b e=>by
    have hi:=lt_of_get e
    rw[List.getElem?_eq_getElem hi]at e
    cases e
    simp[bytesRow,Array.getElem?_append,hi]
   have rowat : ∀ (i:Nat) (r:List D),(l.map fun c=>[D.i .u8 c.toNat])[i]?=some r -> ∃ b,l[i]?=some b /\ r=[D.i .u8 b.toNat]:=fun i r e=>by
    rw[List.getElem?_map]at e
    cases hb:l[i]? with
    | none=>rw[hb]at e;cases e
    | some b=>rw[hb]at e;cases e;exact⟨b,rfl,rfl⟩
   have cellat : ∀ (i:Nat) (r:List D) (j:Nat) (x:D),(l.map fun c=>[D.i .u8 c.toNat])[i]?=some r -> r[j]?=some x -> ∃ b,l[i]?=some b /\ j=0 /\ x = .i .u8 b.toNat:=fun i r j x e e'=>by
    obtain⟨b,hb,rfl⟩:=rowat i r e
    cases j with
    | zero=>cases e';exact⟨b,hb,rfl,rfl⟩
    | succ j=>simp at e'
   have hr:=VR.im (K:=fun b o=>if b=W.heap.size then(bytesRow ⟨l.toArray⟩ cp)[o]? else K b o) μ H 1 (l.map fun c=>[.i .u8 c.toNat]) W.heap.size 0 cp (fun i j=>((bytesRow ⟨l.toArray⟩ cp)[i]?).getD undef) (by simpa using hge)
    (fun i r e=>by obtain⟨b,_,rfl⟩:=rowat i r e;rfl)
    (fun i r j x e e'=>by obtain⟨b,hb,rfl,rfl⟩:=cellat i r j x e e';simp[hget i b hb])
    (fun i r j x e e'=>by obtain⟨b,hb,rfl,rfl⟩:=cellat i r j x e e';simp[hget i b hb,Value.oneCell'])
    (fun i r j x e e'=>by obtain⟨b,hb,rfl,rfl⟩:=cellat i r j x e e';simp only[hget i b hb,Option.getD_some];exact .i ..)
   rw[List.length_map]at hr
   exact Sim.go fs (v := .slice (some ⟨W.heap.size,0,none⟩) l.length cp) (by simp only[execOp,ho,hv,Sem.run_bind,key,Result.andThen_ok,Sem.run_pure]) h1 nx hr
  ·cases h
 ·cases h
theorem take_rows {p:Bool} {w:Nat} {rows:List (List D)} {vs:List Value} (h:RowsV K μ H p w rows vs) (n:Nat):RowsV K μ H p w (rows.take n) (vs.take ((rows.take n).length*w)) where
 wide:=fun i r e=>h.wide i r (by rw[List.getElem?_take]at e;split at e<;>simp_all)
 len:=by
  rw[List.length_take,h.len]
  have:(rows.take n).length*w <= rows.length*w:=Nat.mul_le_mul_right w (by rw[List.length_take];omega)
  omega
 cell:=fun i r j d e e'=>by
  have hi:=lt_of_get e
  have e0:rows[i]?=some r:=by rw[List.getElem?_take]at e;split at e<;>simp_all
  have hj:j<w:=by rw[<- h.wide i r e0];exact lt_of_get e'
  obtain⟨v,h1,h2⟩:=h.cell i r j d e0 e'
  refine⟨v, ?_,h2⟩
  have:(i+1)*w <= (rows.take n).length*w:=Nat.mul_le_mul_right w hi
  rw[Nat.add_mul]at this
  rw[List.getElem?_take,if_pos (by omega)];exact h1
 one:=fun v hv=>h.one v (List.mem_of_mem_take hv)
theorem first_of (hr:HR K μ H W) {P:Program} {x:D} {w n:Nat} {rows:List (List D)} {v:Value} (h:rowsOf H w x=some rows) (hx:VR K μ H x v) :
  ∃ ws,RowsV K μ H false w (rows.take n) ws /\ (Builtin.lenOf v).run P W = .ok rows.length W /\ (Builtin.firstCells w (min rows.length n) v).run P W = .ok ws.toArray W:=by
 obtain⟨vs,hv,hc⟩:=rowsOf_sound hr h hx
 refine⟨_,take_rows hv n, ?_⟩
 have hln:(rows.take n).length=min rows.length n:=by rw[List.length_take];omega
 rw[hln]
 have hle:min rows.length n*w <= rows.length*w:=Nat.mul_le_mul_right w (by omega)
 rcases hc with⟨rfl,rfl,rfl⟩|⟨ad,n',cp,rfl,rfl,hcell⟩|⟨rfl,s,rfl,hs,rfl⟩
 ·exact⟨by simp[Builtin.lenOf],by simp[Builtin.firstCells]⟩
 ·refine ⟨by simp[Builtin.lenOf], ?_⟩
  exact run_firstCells_some W w _ ad rows.length cp _ (by rw[List.length_take,hv.len];omega) (fun j u e=>by
   exact hcell j u (by rw[List.getElem?_take]at e;split at e<;>simp_all))
 ·refine⟨by simp[Builtin.lenOf,hs], ?_⟩
  simp only[Builtin.firstCells,Sem.run_pure,Nat.mul_one]
  congr 1
  apply Array.ext'
  simp[List.extract_eq_take_drop]
theorem sim_cpy (fs:FS E c.tm c.bs K μ L sl H a.tmps W) {t e w u:Nat} {y y':Operand} {x x' d:D} {H':Heap} {args:Array Operand} {argTypes:Array TypeId}
  (ho:o.op = .call { callee := .builtin .copy,args,argTypes }) (ha:args.toList=[y,y']) (hat:argTypes.toList=[t,u]) (ht:c.P.underlying t=some (.slice e)) (hs:sizeIs c.P e w=true)
  (hx:VR K μ H x (a.eval y)) (hx':VR K μ H x' (a.eval y')) (h:cpyD H x x' w=some (d,H')):Sim c E L o a K μ H W d ⟨sl,H'⟩:=by
 have hargs:args = #[y,y']:=by rw[<- Array.toArray_toList (xs:=args),ha]
 have hargt:argTypes = #[t,u]:=by rw[<- Array.toArray_toList (xs:=argTypes),hat]
 subst hargs;subst hargt
 generalize hv:a.eval y=v at hx
 have run0 : ∀ (base:Option Addr) (len cap m:Nat) (ws:List Value) (W':World),v = .slice base len cap -> (Builtin.lenOf (a.eval y')).run c.P W = .ok m W -> (Builtin.firstCells w (min m len) (a.eval y')).run c.P W = .ok ws.toArray W ->
   (match base with|some b=>(storeCells b ws).run c.P W|none => .ok () W) = .ok () W' -> (execOp a.eval o).run c.P W = .ok (.value (.int .i64 ((min m len:Nat):Int))) W':=by
  intro base len cap m ws W' e1 e2 e3 e4
  have e3':(Builtin.firstCells w (Nat.min m len) (a.eval y')).run c.P W = .ok ws.toArray W:=e3
  cases base with
  | none =>
   cases e4
   simp[execOp,ho,resolve,invoke,builtin,Builtin.copy_,hv,e1,run_underlying ht,sizeIs_run hs,e2,e3',goInt]
  | some b =>
   simp only at e4
   simp[execOp,ho,resolve,invoke,builtin,Builtin.copy_,hv,e1,run_underlying ht,sizeIs_run hs,e2,e3',goInt,e4]
 have emp : ∀ (base:Option Addr),v = .slice base 0 0 -> (match rowsOf H w x' with
  | some _=>some (D.i .i64 0,H)
  | none=>none)=some (d,H') -> Sim c E L o a K μ H W d ⟨sl,H'⟩:=fun base e1 h=>by
  split at h
  ·rename_i rows hrows
   cases h
   obtain⟨ws,hv',hl,hf⟩:=first_of (P:=c.P) (n:=0) fs.hr hrows hx'
   have hws:ws=[]:=by have:=hv'.len;simpa using this
   subst hws
   have:=run0 base 0 0 rows.length [] W e1 hl hf (by cases base<;>simp[storeCells])
   exact Sim.val fs (v := .int .i64 0) (by simpa using this) (.i ..)
  ·cases h
 unfold cpyD at h
 split at h
 ·rename_i id n off len
  split at h
  ·rename_i src hsrc
   split at h
   ·rename_i new H1 hfz
    split at h
    ·rename_i w' rows kc p harr
     split at h
     ·rename_i hcd
      obtain⟨rfl,hfit⟩:=hcd
      cases h
      obtain⟨ws,hv',hl,hf⟩:=first_of (P:=c.P) (n:=len) fs.hr hsrc hx'
      obtain⟨K',hr',nx,hv2,hlen⟩:=freezeRows_sound hfz fs.hr hv'
      obtain⟨hH,hn⟩:=arr_eq harr
      have hlen':new.length=min src.length len:=by rw[hlen,List.length_take];omega
      have hx1:=hx.ext nx.ext
      cases hx1 with
      | mu _ _ _ _ _ _ cap blk q l w2 rows2 kc2 p2 lk2 hm hH' hle hcond =>
       rw[hH]at hH';cases hH'
       obtain⟨h3,h4,h5,h6,h7,h8⟩:=hcond hn
       by_cases hz:new.length=0
       ·have hnew:new=[]:=List.eq_nil_of_length_eq_zero hz
        subst hnew
        have hws:ws=[]:=by have:=hv2.len;simpa using this
        subst hws
        have hrun:=run0 _ len cap src.length [] W rfl hl hf (by simp[storeCells])
        have hset:H1.set id (.ar w' (rows.take off++[]++rows.drop (off+([]:List (List D)).length)) kc p false)=H1:=by
         apply List.ext_getElem?
         intro j
         rw[List.getElem?_set]
         split
         ·rename_i hj;subst hj
          split
          ·simp[hH]
          ·rename_i hlt;rw[List.getElem?_eq_none (by omega)]
         ·rfl
        rw[hset]
        rw[<- hlen']at hrun
        exact Sim.go fs hrun hr' nx (.i ..)
       ·have hadr:blk=l.blk /\ q=l.off+off*w':=h3.resolve_left (by omega)
        obtain⟨rfl,rfl⟩:=hadr
        obtain⟨cur,ty,g1,g2,g3,g4,g5⟩:=grow_room hr' (len:=0) (cap:=cap) (cap':=cap) hm hH hn (by omega) h6 h7 h8 (by omega) rfl (RowsV.weaken (p:=p) hv2)
        have hst:=run_storeCells_at l.blk (l.off+off*w') ty ws 0 cur W g1 (by simp at g2 ⊢;omega) hv2.one (P:=c.P)
        simp only[Nat.zero_mul,Nat.add_zero]at hst g3 g4
        have hrun:=run0 _ len cap src.length ws _ rfl hl hf hst
        rw[<- hlen']at hrun
        exact Sim.go fs hrun g3 (nx.trans g4) (.i ..)
     ·cases h
    ·cases h
   ·cases h
  ·cases h
 ·cases hx;exact emp _ rfl h
 ·cases hx;exact emp _ rfl h
 ·cases h
end
section
variable {c:CX} {E:En} {L:Nat -> Option Nat} {K:Kn} {μ:Mu} {sl:List D} {H:Heap} {a:Act} {W:World} {o:Oper}
theorem cellsEq_len : ∀ {sh:List Nat} {xs ys:List D} {r:Bool},cellsEq sh xs ys=some r -> xs.length=sh.length /\ ys.length=sh.length
 | [],[],[],_,_=>⟨rfl,rfl⟩
 | [],[],_::_,_,h=>by simp[cellsEq]at h
 | [],_::_,_,_,h=>by simp[cellsEq]at h
 | _::_,[],_,_,h=>by simp[cellsEq]at h
 | _::_,_::_,[],_,h=>by simp[cellsEq]at h
 | n::sh,x::xs,y::ys,r,h=>by
  unfold cellsEq at h
  split at h
  ·have:=cellsEq_len h
   simp only[List.length_cons];omega
  ·split at h
   ·simp only[List.length_cons];omega
   ·cases h
  ·cases h
theorem CRs.take {ds:List D} {vs:List Value} (h:CRs K μ H ds vs) (n:Nat):CRs K μ H (ds.take n) (vs.take n) :=
 ⟨⟨by simp only[List.length_take,h.1.1],fun j d v e e'=>h.1.2 j d v (by rw[List.getElem?_take]at e;split at e<;>simp_all) (by rw[List.getElem?_take]at e';split at e'<;>simp_all)⟩,fun v hv=>h.2 v (List.mem_of_mem_take hv)⟩
theorem CRs.drop {ds:List D} {vs:List Value} (h:CRs K μ H ds vs) (n:Nat):CRs K μ H (ds.drop n) (vs.drop n) :=
 ⟨⟨by simp only[List.length_drop,h.1.1],fun j d v e e'=>h.1.2 (n+j) d v (by rw[List.getElem?_drop]at e;exact e) (by rw[List.getElem?_drop]at e';exact e')⟩,fun v hv=>h.2 v (List.mem_of_mem_drop hv)⟩
theorem cellsEq_app : ∀ {sa sb:List Nat} {xs ys:List D} {r:Bool},cellsEq (sa++sb) xs ys=some r ->
  (cellsEq sa (xs.take sa.length) (ys.take sa.length)=some false /\ r=false) \/ (cellsEq sa (xs.take sa.length) (ys.take sa.length)=some true /\ cellsEq sb (xs.drop sa.length) (ys.drop sa.length)=some r)
 | [],sb,xs,ys,r,h=>by
  right
  exact⟨by simp[cellsEq],by simpa using h⟩
 | n :: sa,sb,xs,ys,r,h=>by
  have hl:=cellsEq_len h
  cases xs with
  | nil=>simp at hl
  | cons x xs =>
   cases ys with
   | nil=>simp at hl
   | cons y ys =>
    simp only[List.cons_append,cellsEq]at h
    simp only[List.length_cons,List.take_succ_cons,List.drop_succ_cons,cellsEq]
    simp only[List.length_cons,List.length_append]at hl
    split at h
    ·rename_i h1 h2
     exact cellsEq_app h
    ·rename_i h1 h2
     split at h
     ·cases h
      left
      refine⟨?_,rfl⟩
      rw[if_pos]
      simp only[List.length_take]
      omega
     ·cases h
    ·cases h
def Plain (P:Program) (t:TypeId) (vs:List Value) (v:Value):Prop :=
 (∃ fds,P.underlying t=some (.struct fds) /\ v = .agg vs.toArray) \/ ((P.underlying t=some .bool \/ (∃ k,P.underlying t=some (.int k)) \/ P.underlying t=some .string) /\ vs=[v])
theorem run_part_plain {P:Program} {n:Nat} {t:TypeId} {sh:List Nat} (h:shapeOf P n t=some sh) (cs:Array Value) (off:Nat) (hle:off+sh.length <= cs.size) :
  ∃ v,(part t cs off).run P W = .ok v W /\ Plain P t ((cs.toList.drop off).take sh.length) v:=by
 have one:P.underlying t=some .bool \/ (∃ k,P.underlying t=some (.int k)) \/ P.underlying t=some .string -> sh.length=1 ->
   ∃ v,(part t cs off).run P W = .ok v W /\ Plain P t ((cs.toList.drop off).take sh.length) v:=fun hu hl=>by
  have hlt:off<cs.size:=by omega
  refine⟨cs[off], ?_,.inr ⟨hu, ?_⟩⟩
  ·have ha:(isAgg t).run P W = .ok false W:=by
    rcases hu with hu|⟨k,hu⟩|hu<;>simp[isAgg,run_underlying hu]
   simp[part,ha,hlt]
  ·rw[hl]
   apply List.ext_getElem?
   intro j
   rw[List.getElem?_take,List.getElem?_drop]
   cases j with
   | zero=>simp[hlt]
   | succ j=>simp
 cases n with
 | zero=>simp[shapeOf_zero]at h
 | succ n =>
  rw[shapeOf_succ]at h
  split at h
  ·rename_i hu;split at h
   ·cases h;exact one (.inl hu) rfl
   ·cases h
  ·rename_i k hu;split at h
   ·cases h;exact one (.inr (.inl ⟨k,hu⟩)) rfl
   ·cases h
  ·rename_i hu;split at h
   ·cases h;exact one (.inr (.inr hu)) rfl
   ·cases h
  ·rename_i fds hu
   split at h
   ·cases h
   ·split at h
    ·rename_i sh' hsh
     split at h
     ·rename_i hcs
      cases h
      obtain⟨i,hi⟩:=info_of_underlying hu
      refine⟨.agg ((cs.toList.drop off).take sh.length).toArray, ?_,.inl ⟨fds,hu,rfl⟩⟩
      have ha:(isAgg t).run P W = .ok true W:=by simp[isAgg,run_underlying hu]
      simp only[part,Sem.run_bind,ha,Result.andThen_ok,if_true,run_sizeOf W hi,hcs,Sem.run_pure]
      congr 2
      apply Array.ext'
      simp[List.extract_eq_take_drop]
     ·cases h
    ·cases h
  ·cases h
theorem eq_plain {P:Program} : ∀ (n:Nat) (t:TypeId) (sh:List Nat),shapeOf P n t=some sh -> ∀ (d:Nat) (xs ys:List D) (vs ws:List Value) (v w:Value) (r:Bool),
  CRs K μ H xs vs -> CRs K μ H ys ws -> Plain P t vs v -> Plain P t ws w -> cellsEq sh xs ys=some r -> (Op.equalIn (d+n) t v w).run P W = .ok r W:=by
 intro n
 induction n using Nat.strongRecOn with
 | ind n ih =>
 intro t sh h d xs ys vs ws v w r hx hy pv pw he
 have nost : ∀ {td:TypeDesc} {vs:List Value} {v:Value},P.underlying t=some td -> (∀ fds,td ≠ .struct fds) -> Plain P t vs v -> vs=[v]:=fun hu hn p=>by
  rcases p with⟨fds,hu',_⟩|⟨_,h⟩
  ·rw[hu]at hu';cases hu';exact(hn _ rfl).elim
  ·exact h
 cases n with
 | zero=>simp[shapeOf_zero]at h
 | succ n =>
  have single : ∀ m,sh=[m] -> vs=[v] -> ws=[w] -> ∃ x y,xs=[x] /\ ys=[y] /\ VR K μ H x v /\ VR K μ H y w /\ kindIs m x=true /\ cellEq x y=some r:=fun m hs hv hw=>by
   subst hs;subst hv;subst hw
   obtain⟨l1,l2⟩:=cellsEq_len he
   obtain⟨x,rfl⟩:=List.length_eq_one_iff.1 l1
   obtain⟨y,rfl⟩:=List.length_eq_one_iff.1 l2
   refine⟨x,y,rfl,rfl,hx.1.2 0 _ _ rfl rfl,hy.1.2 0 _ _ rfl rfl, ?_⟩
   unfold cellsEq at he
   split at he
   ·rename_i h1 h2
    simp only[cellsEq,Option.some.injEq]at he;subst he
    exact⟨h1,h2⟩
   ·rename_i h1 h2
    simp only[List.length_nil,and_self,if_true,Option.some.injEq]at he;subst he
    exact⟨h1,h2⟩
   ·cases he
  rw[shapeOf_succ]at h
  split at h
  ·rename_i hu;split at h
   ·cases h
    obtain⟨x,y,rfl,rfl,a1,a2,a3,a4⟩:=single 0 rfl (nost hu (by simp) pv) (nost hu (by simp) pw)
    cases x<;>simp[kindIs]at a3
    cases y<;>simp[cellEq]at a4
    cases a1;cases a2;subst a4
    exact run_equalIn_bool' W (d+n) t _ _ hu
   ·cases h
  ·rename_i k hu;split at h
   ·cases h
    obtain⟨x,y,rfl,rfl,a1,a2,a3,a4⟩:=single 1 rfl (nost hu (by simp) pv) (nost hu (by simp) pw)
    cases x<;>simp[kindIs]at a3
    cases y<;>simp[cellEq]at a4
    obtain⟨rfl,a4⟩:=a4
    cases a1;cases a2;subst a4
    exact run_equalIn_int W (d+n) t _ k _ _ hu
   ·cases h
  ·rename_i hu;split at h
   ·cases h
    obtain⟨x,y,rfl,rfl,a1,a2,a3,a4⟩:=single 2 rfl (nost hu (by simp) pv) (nost hu (by simp) pw)
    cases x<;>simp[kindIs]at a3
    cases y<;>simp[cellEq]at a4
    cases a1;cases a2;subst a4
    rw[show d+(n+1)=d+n+1 from rfl,run_equalIn_string W (d+n) t _ _ hu,toList_mk,toList_mk]
   ·cases h
  ·rename_i fds hu
   have pv':v = .agg vs.toArray:=by
    rcases pv with⟨_,_,h⟩|⟨h,_⟩
    ·exact h
    ·rw[hu]at h;rcases h with h|⟨k,h⟩|h<;>cases h
   have pw':w = .agg ws.toArray:=by
    rcases pw with⟨_,_,h⟩|⟨h,_⟩
    ·exact h
    ·rw[hu]at h;rcases h with h|⟨k,h⟩|h<;>cases h
   subst pv';subst pw'
   split at h
   ·cases h
   ·rename_i hst
    split at h
    ·rename_i sh' hsh
     split at h
     ·cases h
      have hfs:P.fieldsOf t=fds:=by simp[Program.fieldsOf,hu]
      rw[show d+(n+1)=d+n+1 from rfl,run_equalIn_struct W (d+n) t _ _ (by rw[hfs];exact hu) (by simpa using hst),hfs]
      have go : ∀ (fs:List Field) (off:Nat) (sh:List Nat),shapesOf P n off fs=some sh -> off <= vs.length -> off <= ws.length -> ∀ (xs' ys':List D),CRs K μ H xs' (vs.drop off) -> CRs K μ H ys' (ws.drop off) -> cellsEq sh xs' ys'=some r ->
        (Op.eqFields (d+n) vs.toArray ws.toArray fs).run P W = .ok r W:=by
       intro fs
       induction fs with
       | nil =>
        intro off sh hs o1 o2 xs' ys' hx hy he
        have:sh=[]:=by cases n<;>simpa [shapesOf_nil]using hs.symm
        subst this
        obtain⟨l1,l2⟩:=cellsEq_len he
        cases xs'<;>simp at l1
        cases ys'<;>simp at l2
        simp only[cellsEq,Option.some.injEq]at he;subst he
        simp[Op.eqFields]
       | cons f fs ihf =>
        intro off sh hs o1 o2 xs' ys' hx hy he
        cases n with
        | zero=>simp[shapesOf_zero]at hs
        | succ m =>
         rw[shapesOf_cons]at hs
         split at hs
         ·rename_i hcd
          simp only[Bool.and_eq_true,decide_eq_true_eq,bne_iff_ne,ne_eq]at hcd
          split at hs
          ·rename_i sa hsa
           split at hs
           ·rename_i sb hsb
            cases hs
            obtain⟨l1,l2⟩:=cellsEq_len he
            have lx:=hx.1.1
            have ly:=hy.1.1
            simp only[List.length_append,List.length_drop]at l1 l2 lx ly
            obtain⟨va,p1,q1⟩:=run_part_plain (W:=W) hsa vs.toArray off (by simp only[List.size_toArray];omega)
            obtain⟨wa,p2,q2⟩:=run_part_plain (W:=W) hsa ws.toArray off (by simp only[List.size_toArray];omega)
            have hrec : ∀ r',cellsEq sa (xs'.take sa.length) (ys'.take sa.length)=some r' -> (Op.equalIn (d+(m+1)) f.type va wa).run P W = .ok r' W:=fun r' he'=>by
             rw[show d+(m+1)=d+1+m by omega]
             exact ih m (by omega) f.type sa hsa (d+1) _ _ _ _ va wa r' (hx.take _) (hy.take _) q1 q2 he'
            rcases cellsEq_app he with⟨e1,rfl⟩|⟨e1,e2⟩
            ·have:=hrec _ e1
             simp[Op.eqFields,hcd.2,hcd.1,p1,p2,this]
            ·have:=hrec _ e1
             have hn:=ihf (off+sa.length) sb hsb (by omega) (by omega) (xs'.drop sa.length) (ys'.drop sa.length) (by rw[<- List.drop_drop];exact hx.drop _) (by rw[<- List.drop_drop];exact hy.drop _) e2
             simp[Op.eqFields,hcd.2,hcd.1,p1,p2,this,hn]
           ·cases hs
          ·cases hs
         ·cases hs
      exact go fds.toList 0 sh hsh (by omega) (by omega) xs ys (by simpa using hx) (by simpa using hy) he
     ·cases h
    ·cases h
  ·cases h
theorem Plain.struct {P:Program} {t:TypeId} {fds:Array Field} (hu:P.underlying t=some (.struct fds)) (vs:List Value):Plain P t vs (.agg vs.toArray) := .inl ⟨fds,hu,rfl⟩
def NilV:EK -> Bool -> Value -> Prop
 | .sl,true,v=>v = .slice none 0 0
 | .sl,false,v => ∃ b n k,v = .slice (some b) n k
 | .pt,true,v=>v = .pointer none
 | .pt,false,v => ∃ b,v = .pointer (some b)
 | .mp,true,v=>v = .map none
 | .mp,false,v => ∃ b,v = .map (some b)
 | .fn,true,v=>v = .nilFunc
 | .fn,false,v => ∃ f x y,v = .func f x y
 | .ifc,true,v=>v = .nilIface
 | .ifc,false,v => ∃ t x,v = .iface t x
 | _,_,_=>False
theorem eqNil_inv {k:EK} {d:D} {r:Bool} {v:Value} (h:eqNil k d=some r) (hv:VR K μ H d v):NilV k r v:=by
  cases k <;> simp only[eqNil]at h<;>first
    | (cases h;done)
    | (split at h
       all_goals first
         | (cases h;cases hv<;>simp[NilV];done)
         | (cases h;done))
theorem run_eq_nil' (d:Nat) {P:Program} {t:TypeId} {k:EK} {r r':Bool} {v w:Value} (hk:eqKindOk P t k=true) (hv:NilV k r v) (hw:NilV k r' w) (h:r=true \/ r'=true):(Op.equalIn (d+1) t v w).run P W = .ok (r&&r') W:=by
 unfold eqKindOk at hk
 split at hk
 all_goals first
  | (cases hk;done)
  | (cases r<;>cases r'<;>simp_all[NilV];done)
  | skip
 all_goals (rename_i hu;revert h;cases r<;>cases r'<;>simp only[NilV]at hv hw<;>intro h)
 all_goals first
  | (simp at h;done)
  | (subst hv;subst hw;simp[Op.equalIn,run_underlying hu];done)
  | (subst hv;obtain⟨_,rfl⟩:=hw;simp[Op.equalIn,run_underlying hu];done)
  | (subst hv;obtain⟨_,_,rfl⟩:=hw;simp[Op.equalIn,run_underlying hu];done)
  | (subst hv;obtain⟨_,_,_,rfl⟩:=hw;simp[Op.equalIn,run_underlying hu];done)
  | (subst hw;obtain⟨_,rfl⟩:=hv;simp[Op.equalIn,run_underlying hu];done)
  | (subst hw;obtain⟨_,_,rfl⟩:=hv;simp[Op.equalIn,run_underlying hu];done)
  | (subst hw;obtain⟨_,_,_,rfl⟩:=hv;simp[Op.equalIn,run_underlying hu];done)
theorem run_eq_nil {P:Program} {t:TypeId} {k:EK} {r r':Bool} {v w:Value} (hk:eqKindOk P t k=true) (hv:NilV k r v) (hw:NilV k r' w) (h:r=true \/ r'=true):(Op.equal t v w).run P W = .ok (r&&r') W :=
 run_eq_nil' 9999 hk hv hw h
def isLit (y:Operand):Bool :=
 match y with
 | .const _=>true
 | _=>false
theorem guard_free' {P:Program} {op:BinOp} {t:TypeId} {x y:Operand} {v w:Value} (h : ∀ vs ws,v = .agg vs -> w = .agg ws -> P.eqGuardType P.depth t=false) (h':v = .nilIface -> w = .nilIface -> isLit x=true \/ isLit y=true) :
  (eqGuard op t x y v w).run P W = .ok () W :=
 guard_free h (fun e e'=>(h' e e').imp (fun g=>by cases x<;>first|rfl|cases g) (fun g=>by cases y<;>first|rfl|cases g))
def Odd:Value -> Bool
 | .int .. | .float .. | .complex .. | .string .. => true
 | _=>false
theorem run_cmp {P:Program} {neg:Bool} {op:BinOp} {t:TypeId} {v w:Value} {r:Bool} (hop:op=(match neg with|true => .neq|false => .eql)) (hv:Odd v=false) (h:(Op.equal t v w).run P W = .ok r W) :
  (binOp op t v w).run P W = .ok (.bool (r != neg)) W:=by
 subst hop
 cases neg<;>cases v<;>simp[Odd]at hv<;>(cases w<;>simp[binOp,h])
theorem VR.hp_inv {K:Kn} {μ:Mu} {H:Heap} {b off:Nat} {v:Value} (h:VR K μ H (.hp b off) v) : ∃ l,v = .pointer (some ⟨l.blk,off,none⟩) /\ μ b=some l:=by
 cases h with
 | hp _ _ _ _ l t cs hm hH=>exact⟨l,rfl,hm⟩
theorem run_equal_ptr' (d:Nat) {P:Program} (W:World) {t e:TypeId} {i:TypeInfo} (hu:P.underlying t=some (.pointer e)) (hi:P.info? e=some i) (a:Addr):(Op.equalIn (d+1) t (.pointer (some a)) (.pointer (some a))).run P W = .ok true W:=by
 by_cases h0:P.cellsOf e=0
 ·simp[Op.equalIn,run_underlying hu,run_sizeOf W hi,h0]
 ·simp[Op.equalIn,run_underlying hu,run_sizeOf W hi,sameAddr]
theorem run_equal_ptr {P:Program} (W:World) {t e:TypeId} {i:TypeInfo} (hu:P.underlying t=some (.pointer e)) (hi:P.info? e=some i) (a:Addr):(Op.equal t (.pointer (some a)) (.pointer (some a))).run P W = .ok true W :=
 run_equal_ptr' 9999 W hu hi a
theorem sim_eqv (fs:FS E c.tm c.bs K μ L sl H a.tmps W) {neg:Bool} {k:EK} {op:BinOp} {t t':TypeId} {y z:Operand} {p q d:D} (ho:o.op = .binOp op t y z t') (hop:op=(match neg with|true => .neq|false => .eql))
  (hk:eqKindOk c.P t k=true) (hi:k = .ifc -> isLit y=true \/ isLit z=true) (hp:VR K μ H p (a.eval y)) (hq:VR K μ H q (a.eval z)) (h:eqvD neg k p q=some d) :
  Sim c E L o a K μ H W d ⟨sl,H⟩:=by
 unfold eqvD at h
 split at h
 ·rename_i r hr
  cases h
  have fin:Odd (a.eval y)=false -> (Op.equal t (a.eval y) (a.eval z)).run c.P W = .ok r W -> (∀ vs ws,a.eval y = .agg vs -> a.eval z = .agg ws -> c.P.eqGuardType c.P.depth t=false) ->
    (a.eval y = .nilIface -> a.eval z = .nilIface -> isLit y=true \/ isLit z=true) -> Sim c E L o a K μ H W (.b (r != neg)) ⟨sl,H⟩:=fun h1 h2 h3 h4=>by
   have hg:=guard_free' (P:=c.P) (W:=W) (op:=op) (t:=t) (x:=y) (y:=z) h3 h4
   exact Sim.val fs (v := .bool (r != neg)) (by simp[execOp,ho,hg,run_cmp hop h1 h2]) (.b ..)
  have nilly : ∀ r1 r2,NilV k r1 (a.eval y) -> NilV k r2 (a.eval z) -> (r1=true \/ r2=true) -> r=(r1&&r2) -> Sim c E L o a K μ H W (.b (r != neg)) ⟨sl,H⟩:=fun r1 r2 h1 h2 h3 h4=>by
   have hodd:Odd (a.eval y)=false /\ (∀ vs,a.eval y = .agg vs -> False) /\ (a.eval y = .nilIface -> k = .ifc):=by
    generalize a.eval y=v at h1
    cases k<;>cases r1<;>simp only[NilV]at h1
    all_goals first
     | (subst h1;simp[Odd];done)
     | (obtain⟨_,rfl⟩:=h1;simp[Odd];done)
     | (obtain⟨_,_,rfl⟩:=h1;simp[Odd];done)
     | (obtain⟨_,_,_,rfl⟩:=h1;simp[Odd];done)
   exact fin hodd.1 (by rw[h4];exact run_eq_nil hk h1 h2 h3) (fun vs ws e _=>(hodd.2.1 vs e).elim) (fun e _=>hi (hodd.2.2 e))
  unfold deq at hr
  split at hr
  ·split at hr
   ·rename_i x y'
    cases hr
    have e1:=hp.b_inv
    have e2:=hq.b_inv
    have hu:c.P.underlying t=some .bool:=by
     unfold eqKindOk at hk
     split at hk<;>first|assumption|(cases hk;done)|simp_all
    refine fin (by rw[e1];rfl) ?_ (fun vs ws e=>by rw[e1]at e;cases e) (fun e=>by rw[e1]at e;cases e)
    rw[e1,e2]
    exact run_equal_bool W t _ _ hu
   ·cases hr
  ·rename_i sh
   split at hr
   ·rename_i xs ys
    obtain⟨vs,e1,hc1⟩:=hp.ag_inv
    obtain⟨ws,e2,hc2⟩:=hq.ag_inv
    obtain ⟨fds,hu,hsh,hgd⟩ : ∃ fds,c.P.underlying t=some (.struct fds) /\ shapeOf c.P 8 t=some sh /\ c.P.eqGuardType c.P.depth t=false:=by
     unfold eqKindOk at hk
     split at hk
     all_goals first
      | (cases hk;done)
      | (rename_i h1 h2;cases h1;done)
      | skip
     all_goals (rename_i h1 h2;first|(cases h1;done)|skip)
     simp only[Bool.and_eq_true,beq_iff_eq,Bool.not_eq_true']at hk
     simp_all
    refine fin (by rw[e1];rfl) ?_ (fun _ _ _ _=>hgd) (fun e=>by rw[e1]at e;cases e)
    rw[e1,e2]
    exact eq_plain 8 t sh hsh 9992 xs ys vs ws _ _ r hc1 hc2 (.struct hu _) (.struct hu _) hr
   ·cases hr
  ·split at hr
   ·split at hr
    ·rename_i hab
     obtain⟨rfl,rfl⟩:=hab
     cases hr
     obtain⟨l,e1,hm⟩:=hp.hp_inv
     obtain⟨l',e2,hm'⟩:=hq.hp_inv
     rw[hm]at hm'
     cases hm'
     obtain ⟨e,i,hu,hi⟩ : ∃ e i,c.P.underlying t=some (.pointer e) /\ c.P.info? e=some i:=by
      unfold eqKindOk at hk
      split at hk
      all_goals first
       | (cases hk;done)
       | (rename_i h1;cases h1;done)
       | (rename_i h1 h2;cases h1;done)
       | skip
      all_goals first
       | (rename_i e hu;obtain⟨i,hi⟩:=Option.isSome_iff_exists.1 hk;exact⟨e,i,hu,hi⟩)
       | (simp_all;exact Option.isSome_iff_exists.1 hk)
     refine fin (by rw[e1];rfl) ?_ (fun vs ws e=>by rw[e1]at e;cases e) (fun e=>by rw[e1]at e;cases e)
     rw[e1,e2]
     exact run_equal_ptr W hu hi _
    ·cases hr
   split at hr
   ·rename_i hy
    exact nilly r true (eqNil_inv hr hp) (eqNil_inv hy hq) (.inr rfl) (by simp)
   ·rename_i hy
    split at hr
    ·rename_i hx
     cases hr
     exact nilly true false (eqNil_inv hx hp) (eqNil_inv hy hq) (.inl rfl) rfl
    ·cases hr
   ·cases hr
 ·cases h
end
section
variable {c:CX} {E:En} {L:Nat -> Option Nat} {K:Kn} {μ:Mu} {sl:List D} {H:Heap} {a:Act} {W:World} {o:Oper}
theorem cell_pure {n:Nat} {x:D} {v:Value} (h:kindIs n x=true) (hv:VR K μ H x v) (K':Kn) (μ':Mu) (H':Heap):VR K' μ' H' x v:=by
 unfold kindIs at h
 split at h
 ·cases hv;exact .b ..
 ·cases hv;exact .i ..
 ·cases hv;exact .s ..
 ·cases h
theorem shapeIs_get : ∀ {sh:List Nat} {xs:List D},shapeIs sh xs=true -> xs.length=sh.length /\ ∀ (j:Nat) (x:D),xs[j]?=some x -> ∃ n,kindIs n x=true
 | [],[],_=>⟨rfl,fun j x e=>by simp at e⟩
 | [],_::_,h=>by simp[shapeIs]at h
 | _::_,[],h=>by simp[shapeIs]at h
 | n::sh,x::xs,h=>by
  simp only[shapeIs,Bool.and_eq_true]at h
  obtain⟨h1,h2⟩:=shapeIs_get h.2
  refine⟨by simp[h1],fun j y e => ?_⟩
  cases j with
  | zero=>cases e;exact⟨n,h.1⟩
  | succ j=>exact h2 j y (by simpa using e)
theorem key_pure {kk:KK} {k:D} {v:Value} (h:keyOk kk k=true) (hv:VR K μ H k v) (K':Kn) (μ':Mu) (H':Heap):VR K' μ' H' k v:=by
 unfold keyOk at h
 split at h
 ·exact cell_pure h hv _ _ _
 ·split at h
  ·rename_i sh xs
   obtain⟨l,hg⟩:=shapeIs_get h
   cases hv with
   | ag _ _ _ vs hl h1 hr=>exact .ag _ _ _ vs hl h1 (fun j d v e e'=>by
     obtain⟨n,hn⟩:=hg j d e
     exact cell_pure hn (hr j d v e e') _ _ _)
  ·cases h
theorem chk_plain {P:Program} (em:Bool) : ∀ (n:Nat) (t:TypeId) (sh:List Nat),shapeOf P n t=some sh -> ∀ (d:Nat) (vs:List Value) (v:Value),Plain P t vs v -> vs.length=sh.length ->
  (Instr.checkKey em (d+n) t v).run P W = .ok () W:=by
 intro n
 induction n using Nat.strongRecOn with
 | ind n ih =>
 intro t sh h d vs v pv hl
 cases n with
 | zero=>simp[shapeOf_zero]at h
 | succ n =>
  have simple : ∀ td,P.underlying t=some td -> (td = .bool \/ (∃ k,td = .int k) \/ td = .string) -> (Instr.checkKey em (d+(n+1)) t v).run P W = .ok () W:=fun td hu ht=>by
   rw[show d+(n+1)=d+n+1 from rfl]
   unfold Instr.checkKey
   simp only[Sem.run_bind,run_underlying hu,Result.andThen_ok]
   rcases ht with rfl|⟨k,rfl⟩|rfl<;>simp
  rw[shapeOf_succ]at h
  split at h
  ·rename_i hu;exact simple _ hu (.inl rfl)
  ·rename_i k hu;exact simple _ hu (.inr (.inl ⟨k,rfl⟩))
  ·rename_i hu;exact simple _ hu (.inr (.inr rfl))
  ·rename_i fds hu
   have pv':v = .agg vs.toArray:=by
    rcases pv with⟨_,_,h⟩|⟨h,_⟩
    ·exact h
    ·rw[hu]at h;rcases h with h|⟨k,h⟩|h<;>cases h
   subst pv'
   split at h
   ·cases h
   ·split at h
    ·rename_i sh' hsh
     split at h
     ·cases h
      rw[show d+(n+1)=d+n+1 from rfl,Instr.checkKey]
      simp only[Sem.run_bind,run_underlying hu,Result.andThen_ok]
      rw[<- Array.forIn_toList]
      generalize fds.toList=fs at hsh
      have hl':0+sh.length <= vs.length:=by omega
      revert hl' hsh
      generalize 0=off
      generalize sh=shh
      induction fs generalizing off shh with
      | nil=>intro hsh hl';simp
      | cons f fs ihf =>
       intro hs hl'
       cases n with
       | zero=>simp[shapesOf_zero]at hs
       | succ m =>
        rw[shapesOf_cons]at hs
        split at hs
        ·rename_i hcd
         simp only[Bool.and_eq_true,decide_eq_true_eq,bne_iff_ne,ne_eq]at hcd
         split at hs
         ·rename_i sa hsa
          split at hs
          ·rename_i sb hsb
           cases hs
           simp only[List.length_append]at hl'
           obtain⟨va,p1,q1⟩:=run_part_plain (W:=W) hsa vs.toArray off (by simp only[List.size_toArray];omega)
           have p2:=ih m (by omega) f.type sa hsa (d+1) _ va q1 (by simp only[List.length_take,List.length_drop];omega)
           rw[show d+1+m=d+(m+1)by omega]at p2
           simp only[List.forIn_cons,Sem.run_bind,hcd.2,hcd.1,ne_eq,not_false_eq_true,if_true,Result.andThen_ok,p1,p2,Sem.run_pure]
           exact ihf (off+sa.length) sb hsb (by omega)
          ·cases hs
         ·cases hs
        ·cases hs
     ·cases h
    ·cases h
  ·cases h
def Ents (K:Kn) (μ:Mu) (H:Heap) (es:List (D×D)) (mes:List MapEntry):Prop :=
 es.length=mes.length /\ ∀ (j:Nat) (k v:D) (e:MapEntry),es[j]?=some (k,v) -> mes[j]?=some e -> VR K mu0 [] k e.key /\ VR K μ H v e.val
theorem key_eq {P:Program} {kt:TypeId} {kk:KK} (hk:keyKindOk P kt kk=true) {k k':D} {v v':Value} {r:Bool} (hv:VR K μ H k v) (hv':VR K mu0 [] k' v') (h:keyEq kk k k'=some r) :
  ∃ td,P.underlying kt=some td /\ ((Instr.sameNow td v v'=some r /\ ∀ fds,td ≠ .struct fds) \/ ((∃ fds,td = .struct fds) /\ (Op.equal kt v v').run P W = .ok r W)) /\ (r=true -> Instr.sameBits 10000 v' v=true):=by
 have hv2:VR K μ H k' v':=VR.pure hv'
 unfold keyEq at h
 split at h
 ·rename_i n
  split at h
  ·rename_i hn
   unfold kindIs at hn
   split at hn
   ·rename_i x
    have hu:P.underlying kt=some .bool:=by
     unfold keyKindOk at hk;split at hk<;>first|(cases hk;done)|simp_all
    cases k'<;>simp[cellEq]at h
    cases hv;cases hv2
    subst h
    refine⟨_,hu,.inl ⟨by simp[Instr.sameNow],by simp⟩,fun e => ?_⟩
    simp only[beq_iff_eq]at e;subst e
    simp[Instr.sameBits]
   ·rename_i q x
    obtain ⟨q',hu⟩ : ∃ q',P.underlying kt=some (.int q'):=by
     unfold keyKindOk at hk;split at hk<;>first|(cases hk;done)|simp_all
    cases k'<;>simp[cellEq]at h
    cases hv;cases hv2
    obtain⟨rfl,h⟩:=h
    subst h
    refine⟨_,hu,.inl ⟨by simp[Instr.sameNow],by simp⟩,fun e => ?_⟩
    simp only[beq_iff_eq]at e;subst e
    simp[Instr.sameBits]
   ·rename_i x
    have hu:P.underlying kt=some .string:=by
     unfold keyKindOk at hk;split at hk<;>first|(cases hk;done)|simp_all
    cases k' with
    | s x' =>
     simp only[cellEq,Option.some.injEq]at h
     cases hv;cases hv2
     subst h
     refine⟨_,hu,.inl ⟨by simp only[Instr.sameNow,beq_toListBytes,toList_mk],by simp⟩,fun e => ?_⟩
     simp only[beq_iff_eq]at e;subst e
     simp only[Instr.sameBits,beq_toListBytes,beq_self_eq_true]
    | _=>simp[cellEq]at h
   ·cases hn
  ·cases h
 ·rename_i sh
  split at h
  ·rename_i xs ys
   obtain ⟨fds,hu,hsh⟩ : ∃ fds,P.underlying kt=some (.struct fds) /\ shapeOf P 8 kt=some sh:=by
    unfold keyKindOk at hk;split at hk<;>first|(cases hk;done)|simp_all
   obtain⟨vs,e1,hc1⟩:=hv.ag_inv
   obtain⟨ws,e2,hc2⟩:=hv2.ag_inv
   subst e1;subst e2
   refine⟨_,hu,.inr ⟨⟨_,rfl⟩,eq_plain 8 kt sh hsh 9992 xs ys vs ws _ _ r hc1 hc2 (.struct hu _) (.struct hu _) h⟩,fun e => ?_⟩
   subst e
   have hall : ∀ {sh:List Nat} {xs ys:List D} {vs ws:List Value},cellsEq sh xs ys=some true -> CRs K μ H xs vs -> CRs K μ H ys ws -> ws.length=vs.length /\ (ws.zip vs).all (fun(x,y)=>Instr.sameBits 9999 x y)=true:=by
    intro sh
    induction sh with
    | nil =>
     intro xs ys vs ws h hx hy
     obtain⟨l1,l2⟩:=cellsEq_len h
     have m1:=hx.1.1
     have m2:=hy.1.1
     simp only[List.length_nil]at l1 l2
     have:vs=[]:=List.eq_nil_of_length_eq_zero (by omega)
     have:ws=[]:=List.eq_nil_of_length_eq_zero (by omega)
     simp_all
    | cons n sh ih =>
     intro xs ys vs ws h hx hy
     obtain⟨l1,l2⟩:=cellsEq_len h
     have m1:=hx.1.1
     have m2:=hy.1.1
     simp only[List.length_cons]at l1 l2
     cases xs with
     | nil=>simp at l1
     | cons x xs =>
     cases ys with
     | nil=>simp at l2
     | cons y ys =>
     cases vs with
     | nil=>simp at m1
     | cons v vs =>
     cases ws with
     | nil=>simp at m2
     | cons w ws =>
     have hxv:=hx.1.2 0 _ _ rfl rfl
     have hyw:=hy.1.2 0 _ _ rfl rfl
     unfold cellsEq at h
     split at h
     ·rename_i h1 h2
      obtain⟨b1,b2⟩:=ih h (hx.drop 1) (hy.drop 1)
      simp only[List.drop_succ_cons,List.drop_zero]at b1 b2
      refine⟨by simp[b1], ?_⟩
      simp only[List.zip_cons_cons,List.all_cons,b2,Bool.and_true]
      unfold kindIs at h1
      split at h1
      ·cases y<;>simp[cellEq]at h2
       cases hxv;cases hyw;subst h2;simp[Instr.sameBits]
      ·cases y<;>simp[cellEq]at h2
       cases hxv;cases hyw;obtain⟨rfl,rfl⟩:=h2;simp[Instr.sameBits]
      ·cases y<;>simp[cellEq]at h2
       cases hxv;cases hyw;subst h2;simp only[Instr.sameBits,beq_toListBytes,beq_self_eq_true]
      ·cases h1
     ·split at h<;>cases h
     ·cases h
   obtain⟨b1,b2⟩:=hall h hc1 hc2
   have b1':(ws.toArray.size==vs.toArray.size)=true:=by simpa using b1
   rw[show(10000:Nat)=9999+1 from rfl]
   simp only[Instr.sameBits,b1',Bool.true_and]
   exact b2
  ·cases h
inductive At (kk:KK) (k:D) (es:List (D×D)):Option Nat -> Prop
 | no (h : ∀ (j:Nat) (e:D×D),es[j]?=some e -> keyEq kk k e.1=some false):At kk k es none
 | yes (i:Nat) (k' v:D) (hi:es[i]?=some (k',v)) (h1:keyEq kk k k'=some true) (h : ∀ (j:Nat) (e:D×D),j<i -> es[j]?=some e -> keyEq kk k e.1=some false):At kk k es (some i)
theorem At.cons {kk:KK} {k:D} {es:List (D×D)} {i:Option Nat} (h:At kk k es i) (e:D×D) (he:keyEq kk k e.1=some false):At kk k (e::es) (i.map (· + 1)):=by
  cases h with
  | no h =>
    refine .no fun j e' x => ?_
    cases j with
    | zero=>cases x;exact he
    | succ j=>exact h j e' (by simpa using x)
  | yes i k' v hi h1 h =>
    refine .yes (i+1) k' v (by simpa using hi) h1 fun j e' hj x => ?_
    cases j with
    | zero=>cases x;exact he
    | succ j=>exact h j e' (by omega) (by simpa using x)
theorem findKey_at {kk:KK} {k:D} : ∀ {es:List (D×D)} {r:Option D},findKey kk k es=some r -> ∃ i,At kk k es i /\ (match i with
    | none=>r=none
    | some i => ∃ k' v,es[i]?=some (k',v) /\ r=some v)
  | [],r,h=>by
    cases h
    exact⟨none,.no fun j e x=>by simp at x,rfl⟩
  | (k',v')::es,r,h=>by
    unfold findKey at h
    split at h
    · rename_i he
      cases h
      exact⟨some 0,.yes 0 k' v' rfl he (fun j e hj=>by omega),k',v',rfl,rfl⟩
    · rename_i he
      obtain⟨i,h1,h2⟩:=findKey_at h
      refine⟨i.map (· + 1),h1.cons (k',v') he, ?_⟩
      cases i with
      | none=>exact h2
      | some i=>obtain⟨a,b,c,d⟩:=h2;exact⟨a,b,by simpa using c,d⟩
    · cases h
theorem setKey_at {kk:KK} {k v:D} : ∀ {es es':List (D×D)},setKey kk k v es=some es' -> ∃ i,At kk k es i /\ (match i with
    | none=>es'=es++[(k,v)]
    | some i=>es'=es.set i (k,v))
  | [],es',h=>by
    cases h
    exact⟨none,.no fun j e x=>by simp at x,rfl⟩
  | (k', v')::es,es',h=>by
    unfold setKey at h
    split at h
    · rename_i he
      cases h
      exact⟨some 0,.yes 0 k' v' rfl he (fun j e hj=>by omega),rfl⟩
    · rename_i he
      cases hs:setKey kk k v es with
      | none=>rw[hs]at h;cases h
      | some es1 =>
        rw[hs]at h;cases h
        obtain⟨i,h1,h2⟩:=setKey_at hs
        refine⟨i.map (· + 1),h1.cons (k',v') he, ?_⟩
        cases i with
        | none=>simp only at h2;subst h2;rfl
        | some i=>simp only at h2;subst h2;rfl
    · cases h
theorem run_find {P:Program} {kt:TypeId} {kk:KK} (hk:keyKindOk P kt kk=true) {k:D} {kv:Value} (hkv:VR K μ H k kv) {es:List (D×D)} {mes:List MapEntry} (hes:Ents K μ H es mes) {i:Option Nat} (hat:At kk k es i) :
  ∃ q,(Instr.findKey kt kv mes).run P W = .ok q W /\ match i with
   | none=>q=none
   | some i => ∃ e,mes[i]?=some e /\ q=some (i,e.val):=by
 have now : ∀ (td:TypeDesc),(∀ fds,td ≠ .struct fds) -> P.underlying kt=some td -> ∀ (es:List (D×D)) (mes:List MapEntry) (n:Nat) (i:Option Nat),Ents K μ H es mes -> At kk k es i ->
   ∃ q,Instr.findNow td kv mes n=some q /\ match i with
    | none=>q=none
    | some i => ∃ e,mes[i]?=some e /\ q=some (n+i,e.val):=by
  intro td htd hu es
  induction es with
  | nil =>
   intro mes n i hes hat
   have:mes=[]:=by have:=hes.1;simpa using this.symm
   subst this
   cases hat with
   | no=>exact⟨none,rfl,rfl⟩
   | yes i _ _ hi=>simp at hi
  | cons e es ih =>
   intro mes n i hes hat
   cases mes with
   | nil=>have:=hes.1;simp at this
   | cons m mes =>
    obtain⟨hv1,_⟩:=hes.2 0 e.1 e.2 m rfl rfl
    have hes':Ents K μ H es mes:=⟨by have:=hes.1;simpa using this,fun j k v x a b=>hes.2 (j+1) k v x (by simpa using a) (by simpa using b)⟩
    have same : ∀ r,keyEq kk k e.1=some r -> Instr.sameNow td kv m.key=some r:=fun r hr=>by
     obtain⟨td',hu',h1,_⟩:=key_eq (W:=W) hk hkv hv1 hr
     rw[hu]at hu';cases hu'
     rcases h1 with⟨h1,_⟩|⟨⟨fds,h1⟩,_⟩
     ·exact h1
     ·exact(htd fds h1).elim
    cases hat with
    | no h =>
     have h0:=same _ (h 0 _ rfl)
     obtain⟨q,h1,h2⟩:=ih mes (n+1) none hes' (.no fun j x y=>h (j+1) x (by simpa using y))
     exact⟨q,by simp[Instr.findNow,h0,h1],h2⟩
    | yes i k' v hi h1 h =>
     cases i with
     | zero =>
      cases hi
      have h0:=same _ h1
      exact⟨some (n,m.val),by simp[Instr.findNow,h0],m,rfl,rfl⟩
     | succ i =>
      have h0:=same _ (h 0 _ (by omega) rfl)
      obtain⟨q,g1,x,g2,g3⟩:=ih mes (n+1) (some i) hes' (.yes i k' v (by simpa using hi) h1 fun j x hj y=>h (j+1) x (by omega) (by simpa using y))
      exact⟨q,by simp[Instr.findNow,h0,g1],x,by simpa using g2,by rw[g3];congr 2;omega⟩
 have ask : ∀ fds,P.underlying kt=some (.struct fds) -> ∀ (es:List (D×D)) (mes:List MapEntry) (n:Nat) (i:Option Nat),Ents K μ H es mes -> At kk k es i ->
   ∃ q,(Instr.findAsking kt kv mes n).run P W = .ok q W /\ match i with
    | none=>q=none
    | some i => ∃ e,mes[i]?=some e /\ q=some (n+i,e.val):=by
  intro fds hu es
  induction es with
  | nil =>
   intro mes n i hes hat
   have:mes=[]:=by have:=hes.1;simpa using this.symm
   subst this
   cases hat with
   | no=>exact⟨none,by simp[Instr.findAsking],rfl⟩
   | yes i _ _ hi=>simp at hi
  | cons e es ih =>
   intro mes n i hes hat
   cases mes with
   | nil=>have:=hes.1;simp at this
   | cons m mes =>
    obtain⟨hv1,_⟩:=hes.2 0 e.1 e.2 m rfl rfl
    have hes':Ents K μ H es mes:=⟨by have:=hes.1;simpa using this,fun j k v x a b=>hes.2 (j+1) k v x (by simpa using a) (by simpa using b)⟩
    have same : ∀ r,keyEq kk k e.1=some r -> (Op.equal kt kv m.key).run P W = .ok r W:=fun r hr=>by
     obtain⟨td',hu',h1,_⟩:=key_eq (W:=W) hk hkv hv1 hr
     rw[hu]at hu';cases hu'
     rcases h1 with⟨_,h1⟩|⟨_,h1⟩
     ·exact(h1 fds rfl).elim
     ·exact h1
    cases hat with
    | no h =>
     have h0:=same _ (h 0 _ rfl)
     obtain⟨q,h1,h2⟩:=ih mes (n+1) none hes' (.no fun j x y=>h (j+1) x (by simpa using y))
     exact⟨q,by simp[Instr.findAsking,h0,h1],h2⟩
    | yes i k' v hi h1 h =>
     cases i with
     | zero =>
      cases hi
      have h0:=same _ h1
      exact⟨some (n,m.val),by simp[Instr.findAsking,h0],m,rfl,rfl⟩
     | succ i =>
      have h0:=same _ (h 0 _ (by omega) rfl)
      obtain⟨q,g1,x,g2,g3⟩:=ih mes (n+1) (some i) hes' (.yes i k' v (by simpa using hi) h1 fun j x hj y=>h (j+1) x (by omega) (by simpa using y))
      exact⟨q,by simp[Instr.findAsking,h0,g1],x,by simpa using g2,by rw[g3];congr 2;omega⟩
 have hcase:(∃ td,P.underlying kt=some td /\ ∀ fds,td ≠ .struct fds) \/ ∃ fds,P.underlying kt=some (.struct fds):=by
  unfold keyKindOk at hk
  split at hk
  all_goals first
   | (cases hk;done)
   | (rename_i hu;exact .inr ⟨_,hu⟩)
   | (rename_i hu;exact .inl ⟨_,hu,by simp⟩)
 rcases hcase with⟨td,hu,hn⟩|⟨fds,hu⟩
 ·obtain⟨q,h1,h2⟩:=now td hn hu es mes 0 i hes hat
  refine⟨q,MapKept.run_findKey hu h1, ?_⟩
  cases i with
  | none=>exact h2
  | some i=>simpa using h2
 ·obtain⟨q,h1,h2⟩:=ask fds hu es mes 0 i hes hat
  refine⟨q,by rw[run_findKey_eq W (by rw[hu]) kv mes];exact h1, ?_⟩
  cases i with
  | none=>exact h2
  | some i=>simpa using h2
end
section
variable {c:CX} {E:En} {L:Nat -> Option Nat} {K:Kn} {μ:Mu} {sl:List D} {H:Heap} {a:Act} {W:World} {o:Oper}
theorem chk_key {P:Program} {kt:TypeId} {kk:KK} (hk:keyKindOk P kt kk=true) {k:D} {v:Value} (ho:keyOk kk k=true) (hv:VR K μ H k v) (em:Bool):(Instr.checkKey em 10000 kt v).run P W = .ok () W:=by
 have simple : ∀ td,P.underlying kt=some td -> (td = .bool \/ (∃ k,td = .int k) \/ td = .string) -> (Instr.checkKey em 10000 kt v).run P W = .ok () W:=fun td hu ht=>by
  rw[show(10000:Nat)=9999+1 from rfl]
  unfold Instr.checkKey
  simp only[Sem.run_bind,run_underlying hu,Result.andThen_ok]
  rcases ht with rfl|⟨k,rfl⟩|rfl<;>simp
 unfold keyKindOk at hk
 split at hk
 ·rename_i hu;exact simple _ hu (.inl rfl)
 ·rename_i q hu;exact simple _ hu (.inr (.inl ⟨q,rfl⟩))
 ·rename_i hu;exact simple _ hu (.inr (.inr rfl))
 ·rename_i sh fds hu
  simp only[beq_iff_eq]at hk
  unfold keyOk at ho
  split at ho
  ·rename_i he;cases he
  ·rename_i sh' he
   cases he
   split at ho
   ·rename_i xs
    obtain⟨vs,e1,hc⟩:=hv.ag_inv
    obtain⟨hl,_⟩:=shapeIs_get ho
    subst e1
    exact chk_plain em 8 kt sh hk 9992 vs _ (.struct hu _) (by rw[<- hl,hc.1.1])
   ·cases ho
 ·cases hk
theorem sim_mkm (fs:FS E c.tm c.bs K μ L sl H a.tmps W) {t:TypeId} (ho:o.op = .makeMap t none):Sim c E L o a K μ H W (.mp H.length) ⟨sl,H++[.mp []]⟩:=by
 obtain⟨h1,h2⟩:=fs.hr.push (.map #[] 0) ⟨W.heap.size,0,0⟩ (.mp []) rfl ⟨#[],0,⟨fun e he=>by simp at he,by simp⟩,heap_alloc_new W _,rfl,fun j k v e x=>by simp at x⟩
 exact Sim.go fs (v := .map (some W.heap.size)) (by simp[execOp,ho,Instr.makeMap]) h1 h2 (.mp _ _ _ ⟨W.heap.size,0,0⟩ [] (by simp[Mu.upd]) (by simp))
theorem ents_of (hr:HR K μ H W) {m:D} {v:Value} {es:List (D×D)} (h:entsD H m=some es) (hv:VR K μ H m v) {P:Program} :
  ∃ mes:Array MapEntry,Ents K μ H es mes.toList /\ ((v = .map none /\ mes = #[]) \/ ∃ r clock,v = .map (some r) /\ (getObj r).run P W = .ok (.map mes clock) W):=by
 unfold entsD at h
 split at h
 ·cases h;cases hv
  exact⟨#[],⟨rfl,fun j k v e x=>by simp at x⟩,.inl ⟨rfl,rfl⟩⟩
 ·split at h
  ·rename_i es' hH
   cases h
   cases hv with
   | mp _ _ _ l _ hm hH' =>
    obtain⟨mes,clock,_,h1,h2,h3⟩:=hr.blk _ l _ hm hH
    exact⟨mes,⟨by simpa using h2,fun j k v e x y=>h3 j k v e x (by simpa using y)⟩,.inr ⟨l.blk,clock,rfl,MapKept.run_getObj_map h1⟩⟩
  ·cases h
 ·cases h
theorem sim_lk (fs:FS E c.tm c.bs K μ L sl H a.tmps W) {t kt et:TypeId} {kk:KK} {y z:Operand} {m k d zero:D} {ok:Bool} (ho:o.op = .lookup t y z ok) (ht:c.P.underlying t=some (.map kt et)) (hk:keyKindOk c.P kt kk=true)
  (hz : (match c.P.info? et with
    | some inf=>(match inf.zero with
     | some zv=>constOk zero zv
     | none=>false)
    | none=>false)=true) (hm:VR K μ H m (a.eval y)) (hkv:VR K μ H k (a.eval z)) (h:lkD H kk m k ok zero=some d):Sim c E L o a K μ H W d ⟨sl,H⟩:=by
 unfold lkD at h
 split at h
 ·rename_i hko
  split at h
  ·rename_i es hes
   split at h
   ·rename_i r hr
    obtain⟨zv,hz1,hz2⟩:=zero_run hz
    obtain⟨mes,hen,hcase⟩:=ents_of (P:=c.P) fs.hr hes hm
    obtain⟨i,hat,hi⟩:=findKey_at hr
    obtain⟨q,hq1,hq2⟩:=run_find (W:=W) hk hkv hen hat
    have hck:=chk_key (P:=c.P) (W:=W) hk hko hkv mes.isEmpty
    obtain ⟨u,hu1,hu2⟩ : ∃ u,((∃ j,q=some (j,u) /\ r.isSome=true) \/ (q=none /\ u=zv /\ r.isSome=false)) /\ VR K μ H (r.getD zero) u:=by
     cases i with
     | none =>
      simp only at hq2 hi
      subst hq2;subst hi
      exact⟨zv,.inr ⟨rfl,rfl,rfl⟩,hz2 _ _ _⟩
     | some i =>
      obtain⟨e,g1,rfl⟩:=hq2
      obtain⟨k',v,g2,rfl⟩:=hi
      exact⟨e.val,.inl ⟨i,rfl,rfl⟩,(hen.2 i k' v e g2 g1).2⟩
    have hrun:(execOp a.eval o).run c.P W = .ok (.value (if ok then .tuple #[u,.bool r.isSome]else u)) W:=by
     rcases hcase with⟨hv,rfl⟩|⟨b,clock,hv,hg⟩<;>rcases hu1 with⟨j,rfl,hs⟩|⟨rfl,rfl,hs⟩
     ·simp only[execOp,ho,Instr.lookup,Sem.run_bind,run_underlying ht,Result.andThen_ok,hv,Sem.run_pure,hck,hq1,hs]
     ·simp only[execOp,ho,Instr.lookup,Sem.run_bind,run_underlying ht,Result.andThen_ok,hv,Sem.run_pure,hck,hq1,hs,hz1]
     ·simp only[execOp,ho,Instr.lookup,Sem.run_bind,run_underlying ht,Result.andThen_ok,hv,Sem.run_pure,hg,hck,hq1,hs]
     ·simp only[execOp,ho,Instr.lookup,Sem.run_bind,run_underlying ht,Result.andThen_ok,hv,Sem.run_pure,hg,hck,hq1,hs,hz1]
    cases ok with
    | true=>cases h;exact Sim.val fs hrun (VR.pair hu2 (.b ..))
    | false=>cases h;exact Sim.val fs hrun hu2
   ·cases h
  ·cases h
 ·cases h
theorem put_map (hr:HR K μ H W) {id:Nat} {es es':List (D×D)} {l:Loc} (hm:μ id=some l) (hH:H[id]?=some (.mp es)) {mes mes':Array MapEntry} {clock clock':Nat} (hW:W.heap[l.blk]?=some (.map mes clock))
  (hb:Born mes' clock') (hen : ∀ (K':Kn) (μ':Mu) (H':Heap),Ext K μ H K' μ' H' -> Ents K' μ' H' es' mes'.toList) :
  HR K μ (H.set id (.mp es')) { W with heap:=W.heap.setIfInBounds l.blk (.map mes' clock') } /\ Nx K μ H W K μ (H.set id (.mp es')) { W with heap:=W.heap.setIfInBounds l.blk (.map mes' clock') }:=by
 have be:BE l (.mp es) l (.mp es') := .mp ..
 have hid:=hr.dom id l hm
 have hext:Ext K μ H K (μ.upd id l) (H.set id (.mp es')):=by
  rw[mu_upd_same hm]
  refine⟨fun _ _ _ e=>e,fun j lj bj x y => ?_⟩
  by_cases hj:j=id
  ·subst hj
   rw[hm]at x;rw[hH]at y;cases x;cases y
   exact⟨l,.mp es',hm,by simp[hid],be⟩
  ·exact⟨lj,bj,x,by rw[List.getElem?_set_ne (Ne.symm hj)];exact y,.refl _ _⟩
 obtain⟨g1,g2⟩:=MapKept.heap_set (o' := .map mes' clock') hW
 obtain⟨e1,e2⟩:=hen _ _ _ hext
 have:=hr.put (W':={ W with heap:=W.heap.setIfInBounds l.blk (.map mes' clock') }) id l l (.mp es) (.mp es') hm hH rfl rfl be rfl rfl rfl (by simp) (fun r _ hne=>g2 r hne) (.inl rfl)
  (by simpa using hr.lt id l hm) ⟨mes',clock',hb,g1,by simpa using e1,fun j k v e x y=>e2 j k v e x (by simpa using y)⟩
 rwa [mu_upd_same hm]at this
theorem sim_mup (fs:FS E c.tm c.bs K μ L sl H a.tmps W) {t kt et:TypeId} {kk:KK} {y z x:Operand} {m k v:D} {H':Heap} (ho:o.op = .mapUpdate t y z x \/ o.op = .insert t y z x) (ht:c.P.underlying t=some (.map kt et)) (hk:keyKindOk c.P kt kk=true)
  (hm:VR K μ H m (a.eval y)) (hkv:VR K μ H k (a.eval z)) (hvv:VR K μ H v (a.eval x)) (h:mupD H kk m k v=some H'):Sim c E L o a K μ H W .u ⟨sl,H'⟩:=by
 unfold mupD at h
 split at h
 ·rename_i hko
  split at h
  ·rename_i m
   split at h
   ·rename_i es hH
    split at h
    ·rename_i es' hset
     cases h
     generalize hy:a.eval y=vm at hm
     cases hm with
     | mp _ _ _ l _ hm' hH' =>
      obtain⟨mes,clock,hbn,h1,h2,h3⟩:=fs.hr.blk _ l _ hm' hH
      have hen:Ents K μ H es mes.toList:=⟨by simpa using h2,fun j k v e x y=>h3 j k v e x (by simpa using y)⟩
      obtain⟨i,hat,hi⟩:=setKey_at hset
      obtain⟨q,hq1,hq2⟩:=run_find (W:=W) hk hkv hen hat
      have hck:=chk_key (P:=c.P) (W:=W) hk hko hkv false
      have hkp : ∀ K':Kn,VR K' mu0 [] k (a.eval z):=fun _=>key_pure hko hkv _ _ _
      have hg:=MapKept.run_getObj_map (P:=c.P) h1
      cases i with
      | none =>
       simp only at hq2 hi
       subst hq2;subst hi
       obtain ⟨p1,p2⟩:=put_map fs.hr (es':=es++[(k,v)]) (mes':=mes.push { key:=a.eval z,val:=a.eval x,born:=clock }) (clock':=clock+1) hm' hH h1 (hbn.push rfl) (fun K' μ' H' e=>by
        refine⟨by simp[h2],fun j k' v' e' ha hb => ?_⟩
        rcases Nat.lt_or_ge j es.length with hj|hj
        ·rw [List.getElem?_append_left hj]at ha
         have hb':mes.toList[j]?=some e':=by
          simp only[Array.toList_push]at hb
          rwa [List.getElem?_append_left (by simp;omega)]at hb
         obtain⟨b1,b2⟩:=hen.2 j k' v' e' ha hb'
         exact⟨b1.ext (Ext.zero e.k),b2.ext e⟩
        ·rw[List.getElem?_append_right hj]at ha
         have hj0:j-es.length=0:=by have:=lt_of_get ha;simp at this;omega
         simp only[Array.toList_push]at hb
         rw[List.getElem?_append_right (by simp;omega)]at hb
         have hj1:j-mes.toList.length=0:=by simp;omega
         rw[hj0]at ha;rw[hj1]at hb
         cases ha;cases hb
         exact⟨hkp K',hvv.ext e⟩)
       refine Sim.skip fs ?_ p1 p2
       have hs:=MapKept.run_setObj_map (P:=c.P) (.map (mes.push { key:=a.eval z,val:=a.eval x,born:=clock }) (clock+1)) h1
       rcases ho with ho|ho<;>simp only[execOp,ho,Instr.mapUpdate,Sem.run_bind,run_underlying ht,Result.andThen_ok,hy,hg,hck,hq1,hs,Sem.run_pure]
      | some i =>
       obtain⟨e0,g1,rfl⟩:=hq2
       simp only at hi;subst hi
       cases hat with
       | yes _ k' v' hi1 hi2 hi3 =>
        obtain⟨b1,b2⟩:=hen.2 i k' v' e0 hi1 g1
        have hsb:Instr.sameBits 10000 e0.key (a.eval z)=true:=by
         obtain⟨_,_,_,hs⟩:=key_eq (W:=W) hk hkv b1 hi2
         exact hs rfl
        obtain ⟨p1,p2⟩:=put_map fs.hr (es':=es.set i (k,v)) (mes':=mes.modify i fun e=>{ e with key:=a.eval z,val:=a.eval x }) (clock':=clock) hm' hH h1 (hbn.modify fun _=>rfl) (fun K' μ' H' e=>by
         refine⟨by simp[h2],fun j k' v' e' ha hb => ?_⟩
         rw[Array.getElem?_toList,Array.getElem?_modify]at hb
         by_cases hj:i=j
         ·subst hj
          rw[if_pos rfl]at hb
          rw[List.getElem?_set_self (lt_of_get hi1)]at ha
          cases ha
          cases hmj:mes[i]? with
          | none=>rw[hmj]at hb;cases hb
          | some e1=>rw[hmj]at hb;cases hb;exact⟨hkp K',hvv.ext e⟩
         ·rw[if_neg hj]at hb
          rw[List.getElem?_set_ne hj]at ha
          obtain⟨b1,b2⟩:=hen.2 j k' v' e' ha (by simpa using hb)
          exact⟨b1.ext (Ext.zero e.k),b2.ext e⟩)
        refine Sim.skip fs ?_ p1 p2
        have g1':mes[i]?=some e0:=by simpa using g1
        have hs:=MapKept.run_setObj_map (P:=c.P) (.map (mes.modify i fun e=>{ e with key:=a.eval z,val:=a.eval x }) clock) h1
        have hst:(Instr.keyThatStays e0.key (a.eval z)).run c.P W = .ok (a.eval z) W:=by simp[Instr.keyThatStays,hsb]
        rcases ho with ho|ho<;>simp only[execOp,ho,Instr.mapUpdate,Sem.run_bind,run_underlying ht,Result.andThen_ok,hy,hg,hck,hq1,g1',Option.map_some,Option.getD_some,hst,hs,Sem.run_pure]
    ·cases h
   ·cases h
  ·cases h
 ·cases h
end
end Go.Dm
