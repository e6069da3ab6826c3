/-
  What the cards' laws share: the laid tables,plain arguments.
-/
import Derived.Test.YtgefdialaemelaaGreatDoorL
import Derived.Test.YtgefdialaemelaaGreatDoorRows
import Derived.Test.YtgefdialaemelaaGreatDoorTie
import Derived.Test.YtgefdialaemelaaGreatDoorCards
import Derived.Test.YtgefdialaemelaaGreatDoorDg
import Derived.ProofKit
import Derived.LaidMore
import Derived.Handed
import Derived.JoinedOf
import Derived.SevenTiedAt
import Derived.Lib.LaidTab
import Derived.Shelf.Vars
namespace Go.Proofs.YtgefdialaemelaaGreatDoor.Dv
open Go.Dm Go.Proofs
theorem own:ownKnob Tryz.prog.godebug=none:=by kernel_rfl
theorem laidOut:laidOutB Tryz.prog=true:=by kernel_rfl
abbrev laid2:List (String×DataW Unit):=[("annuitant/calendar.lengths",Rows.laid_annuitant_calendar_lengths),("annuitant/operation.argumentKinds",Rows.laid_annuitant_operation_argumentKinds)]
theorem door_met (os:Os) (args:Array Value):laidMetH Tryz.prog laid2 ((World.doorLaid Tryz.prog 400 os).forCall (fun _ _=>0) ⟨#[],args,[]⟩).memory :=
 laidMetH_of_parts3 (fuel:=8) (laidMet_of_run' 8 (by kernel_rfl) (by kernel_rfl)) (by kernel_rfl) (by kernel_rfl)
theorem g0:Tryz.prog.globalNamed "annuitant/operation.argumentKinds"=some 2:=by kernel_rfl
theorem g1:Tryz.prog.globalNamed "annuitant/calendar.lengths"=some 0:=by kernel_rfl
theorem t0:(Tryz.prog.globals[2]?).map (·.type)=some 286:=by kernel_rfl
theorem t1:(Tryz.prog.globals[0]?).map (·.type)=some 239:=by kernel_rfl
theorem u161:Tryz.prog.underlying 286=some (.array 27 9):=by kernel_rfl
theorem u256:Tryz.prog.underlying 239=some (.array 12 3):=by kernel_rfl
theorem u9:Tryz.prog.underlying 9=some .string:=by kernel_rfl
theorem u3:Tryz.prog.underlying 3=some (.int .i64):=by kernel_rfl
theorem c9:Tryz.prog.cellsOf 9=1:=by kernel_rfl
theorem c3:Tryz.prog.cellsOf 3=1:=by kernel_rfl
theorem c161:Tryz.prog.cellsOf 286=27:=by kernel_rfl
theorem c256:Tryz.prog.cellsOf 239=12:=by kernel_rfl
theorem lensD:(Rows.laid_annuitant_calendar_lengths:DataW Unit)=Lib.tabData .i64 lensT:=rfl
theorem kindsD:(Rows.laid_annuitant_operation_argumentKinds:DataW Unit) = .agg (kindsT.map fun z => .lit (.string z)):=rfl
theorem cells_of_strs {H:Type} {enc:TypeId×Value -> H} {P:Program} {w:World} {base:Nat} {sp:Nat -> Bool} {held:Bool} {fuel:Nat} {t e:TypeId} {n:Nat} {cs:List Value} {zs:List (List UInt8)} {p:List MemPlace}
  (ht:P.underlying t=some (.array n e)) (he:P.underlying e=some .string) (hce:P.cellsOf e=1) (hct:P.cellsOf t=n)
  (h:DataW.trod enc P w base sp held fuel t cs=some (.agg (zs.map fun z => .lit (.string z)),p)):cs=zs.map fun z=>Value.string ⟨z.toArray⟩:=by
 cases fuel with
 | zero=>simp[DataW.trod]at h
 | succ fuel =>
  simp only[DataW.trod,ht,hce,hct,Nat.mul_one]at h
  split at h
  ·rename_i hl
   obtain⟨xs,hm,hx⟩:=Option.map_eq_some_iff.1 h
   have hxs:xs.map (·.1)=zs.map fun z=>(DataW.lit (.string z):DataW H):=by
    have:=congrArg Prod.fst hx
    simpa using this
   have hxl:xs.length=n:=by simpa using Lib.mapM_length hm
   have hzl:zs.length=n:=by
    have:=congrArg List.length hxs
    simp at this
    omega
   apply List.ext_getElem?
   intro i
   by_cases hi:i<n
   ·obtain ⟨b,hb,hf⟩:=Lib.mapM_at hm i i (by simp[hi])
    obtain⟨z,hc,rfl,_⟩:=DataW.trod_string he hf
    have h1:cs[i]?=some (.string z):=by
     have:=congrArg (·[0]?) hc
     simpa [List.getElem?_take,List.getElem?_drop]using this
    have h2:(xs.map (·.1))[i]?=some (DataW.lit (.string z.data.toList):DataW H):=by simp[hb]
    rw[hxs]at h2
    simp only[List.getElem?_map,Option.map_eq_some_iff,DataW.lit.injEq,Lit.string.injEq]at h2
    obtain⟨z',hz',rfl⟩:=h2
    rw[List.getElem?_map,hz',h1]
    rfl
   ·rw[List.getElem?_eq_none (by omega),List.getElem?_eq_none (by simp;omega)]
  ·cases h
theorem maxLen_cell {W:World} (h:W.ShapedOpen Tryz.prog) : ∃ m,W.cell? ⟨3,0,none⟩=some (.int .i64 m) :=
 Go.Proofs.cell_of_shapedOpen_int (t:=3) (zero := #[.int .i64 0]) h (by decide +kernel) (by kernel_rfl) rfl (by kernel_rfl) (by kernel_rfl) u3
theorem globK_one {W:World} {g:Nat} {vs:List Value} {rows:List (List D)} (hv : ∀ i:Nat,W.cell? ⟨g,i,none⟩=vs[i]?) (hr : ∀ (i:Nat) (r:List D),rows[i]?=some r -> ∃ (d:D) (v:Value),r=[d] /\ vs[i]?=some v /\ v.oneCell'=true /\ ∀ K,VR K mu0 [] d v):GlobK (knAll W) g 1 rows:=by
 intro i r e
 obtain⟨d,v,rfl,h1,h2,h3⟩:=hr i r e
 refine⟨fun _=>v,fun j d' ed => ?_,fun j d' ed=>h2,fun j d' ed => ?_⟩
 ·have hj:j=0:=by
   have:=lt_of_get ed
   simpa using this
  subst hj
  show W.cell? ⟨g,i*1+0,none⟩=_
  rw[Nat.mul_one,Nat.add_zero,hv i,h1]
 ·have hj:j=0:=by
   have:=lt_of_get ed
   simpa using this
  subst hj
  cases ed
  exact h3 _
theorem laid_T {W:World} (h:laidMetH Tryz.prog laid2 W) (hsh:W.ShapedOpen Tryz.prog):GlobT (knAll W) W:=by
 rw[MakeChecks.laidMetH_plain _ _ _ (by kernel_rfl)]at h
 obtain⟨ps,⟨ga,ta,csa,fa,pa,qa,hga,hta,hva,hda,⟨gb,tb,csb,fb,pb,qb,hgb,htb,hvb,hdb,_,_⟩,_⟩,_,_⟩:=h
 have ea:=Option.some.inj (g1.symm.trans hga)
 subst ea
 have ea2:=Option.some.inj (t1.symm.trans hta)
 subst ea2
 have eb:=Option.some.inj (g0.symm.trans hgb)
 subst eb
 have eb2:=Option.some.inj (t0.symm.trans htb)
 subst eb2
 rw[lensD]at hda
 rw[kindsD]at hdb
 have hca:=Lib.cells_of_tab u256 u3 c3 c256 hda
 have hcb:=cells_of_strs u161 u9 c9 c161 hdb
 have hva':=fun i=>World.var?_cell g1 hva i
 have hvb':=fun i=>World.var?_cell g0 hvb i
 refine⟨fun g w rows e => ?_,maxLen_cell hsh⟩
 unfold globs at e
 split at e
 ·rename_i hg
  subst hg
  cases e
  refine globK_one (vs:=csb.toList) (fun i=>by rw[hvb' i];simp) (fun i r er => ?_)
  rw[List.getElem?_map]at er
  cases hz:kindsT[i]? with
  | none=>rw[hz]at er;cases er
  | some z =>
   rw[hz]at er
   cases er
   exact⟨_,_,rfl,by rw[hcb,List.getElem?_map,hz];rfl,rfl,fun K => .s ..⟩
 ·split at e
  ·rename_i hg
   subst hg
   cases e
   refine globK_one (vs:=csa.toList) (fun i=>by rw[hva' i];simp) (fun i r er => ?_)
   rw[List.getElem?_map]at er
   cases hz:lensT[i]? with
   | none=>rw[hz]at er;cases er
   | some z =>
    rw[hz]at er
    cases er
    exact⟨_,_,rfl,by rw[hca,List.getElem?_map,hz];rfl,rfl,fun K => .i ..⟩
  ·cases e
def parOk (P:Program) (ts:List TypeId):Bool:=ts.all fun t=>P.readableRec t&&decide (t<P.types.size)
theorem par_of {P:Program} {ts:List TypeId} (h:parOk P ts=true) : ∀ t∈ts,P.readableRec t=true /\ t<P.types.size:=fun t ht=>by
 simp only[parOk,List.all_eq_true,Bool.and_eq_true,decide_eq_true_eq]at h
 exact h t ht
theorem bool4:Tryz.prog.underlying 4=some .bool:=by kernel_rfl
theorem is_int {k:IntKind} {d:D} (h:HasF (.i k) d) : ∃ n,d = .i k n /\ k.min <= n /\ n <= k.max:=by
 cases h with
 | i k n h=>exact⟨n,rfl,h⟩
theorem trod_len {H:Type} {enc:TypeId×Value -> H} {W:World} {sp:Nat -> Bool} {held:Bool} {base:Nat} : ∀ {ts:List TypeId} {vs:List Value} {ds:List (DataW H)} {pl:List MemPlace},DataW.TrodAll enc Tryz.prog W base sp held ts vs ds pl -> ds.length=ts.length
 | [],vs,ds,pl,h=>by obtain⟨_,rfl,_⟩:=Go.ChangeShapes.trodAll_nil h;rfl
 | t::ts,vs,ds,pl,h=>by
  obtain⟨v,vs,d,ds,p0,q0,rfl,rfl,rfl,_,g2⟩:=Go.ChangeShapes.trodAll_cons h
  simp[trod_len g2]
set_option maxRecDepth 100000 in
theorem handed_of {f:FuncId} {fn:Func} {s:ChangeSpec} {os:Os} {H:Type} {enc:TypeId×Value -> H} (started:os.Started) (noInit:Tryz.checked.prog.inits.idxOf? f=none) (hfn:Tryz.checked.prog.funcs[f]?=some fn)
    (witness : ∃ (w:World) (tape:Tape) (i:Input),w.os=os /\ (w.forCall tape i).Shaped Tryz.checked.prog /\ i.vars=[] /\ Input.okWide Tryz.checked.prog (w.forCall tape i) .any w.heap.size f i /\
      ((s.pre enc Tryz.checked.prog fn [] false (w.forCall tape i).memory i.args /\ laidMetH Tryz.prog laid2 (w.forCall tape i).memory) /\ sizedMet enc Tryz.checked.prog fn (OpenSpec.ofChange s) false (w.forCall tape i).memory i.args) /\ ({}:Assume).holds Tryz.checked.prog (lone (Frame.enter Tryz.checked.prog f i.args .normal) [] (w.forCall tape i)))
    (contract : ∀ (W:World) (base:Nat) (args:Array Value) (ds gs:List (DataW H)) (before:List MemPlace),
      (∀ (j:Nat) t v,fn.params[j]?=some t -> args[j]?=some v -> Value.okWide Tryz.checked.prog W .any base t v) ->
      DataW.Whole enc Tryz.checked.prog fn.params.toList s.vars false W args.toList ds gs before ->
      (DataW.weightsEach Tryz.checked.prog (fn.params.toList++s.plain.varTypes Tryz.checked.prog) (ds++gs)).all (· <= reachBytes)=true -> GlobT (knAll W) W ->
      Calls Tryz.checked.prog f args W fun e W' => ∃ v,e = .returned v /\ s.post enc Tryz.checked.prog fn false true false false W args v W') :
    ReturnsInHanded {} Tryz.checked os f .any (fun w args=>(s.pre enc Tryz.checked.prog fn [] false w args /\ laidMetH Tryz.prog laid2 w) /\ sizedMet enc Tryz.checked.prog fn (OpenSpec.ofChange s) false w args) (s.post enc Tryz.checked.prog fn false true false false):=by
  refine returnsInHanded_of_calls own started noInit witness ?_
  intro w tape i _ hsh _ hok hpre hholds
  obtain⟨_,_,_,fn',hfn',_,_,_,_,hval⟩:=hok
  have e:fn'=fn:=Option.some.inj (hfn'.symm.trans hfn)
  subst e
  obtain⟨⟨⟨ds,gs,before,hw,hc⟩,hx⟩,hz⟩:=hpre
  have hw':=DataW.Whole.of_heap (w':=w.forCall tape i) (by rfl) hw
  refine(contract (w.forCall tape i) w.heap.size i.args ds gs before hval hw' (hz.weights hw) (laid_T (laidMetH.of_heap (w':=w.forCall tape i) (by rfl) hx) hsh)).mono fun e W' ⟨v,he,hp⟩ => ?_
  subst he
  exact ChangeSpec.post_blind hp
end Go.Proofs.YtgefdialaemelaaGreatDoor.Dv
