/-
  The machine's runs by rules;closed runs.
-/
import Derived.Test.YtgefdialaemelaaGreatDoorDa
import Derived.Attr
namespace Go.Dm
section
variable {V:VProg} {cl cl':FuncId -> List D -> Heap -> CR}
def CLe (cl cl':FuncId -> List D -> Heap -> CR):Prop := ∀ f args H,cl f args H ≠ .bad -> cl' f args H=cl f args H
theorem toR_bad {sl:List D} : ∀ {r:CR},r.toR sl ≠ .bad -> r ≠ .bad
 | .ret _ _,_=>nofun
 | .pan _ _,_=>nofun
 | .bad,h=>absurd rfl h
theorem step_ge (hc:CLe cl cl') {op:VOp} {loc:List D} {st:St} (h:step V cl loc st op ≠ .bad):step V cl' loc st op=step V cl loc st op:=by
 cases op with
 | call f xs =>
  simp only[step]at h ⊢
  rw[hc _ _ _ (toR_bad h)]
 | callp f xs =>
  simp only[step]at h ⊢
  rw[hc _ _ _ (toR_bad h)]
 | cpl f xs =>
  simp only[step]at h ⊢
  cases hv:V.fn f with
  | none=>rfl
  | some vf =>
   rw[hv]at h
   simp only at h ⊢
   split at h
   ·have:cl f (xs.map (O.ev loc st.sl)) st.hp ≠ .bad:=fun e=>by rw[e]at h;exact h rfl
    rw[hc _ _ _ this]
   ·exact absurd rfl h
 | calx f xs =>
  simp only[step]at h ⊢
  have:cl f (xs.map (O.ev loc st.sl)) st.hp ≠ .bad:=fun e=>by rw[e]at h;exact h rfl
  rw[hc _ _ _ this]
 | calvx x xs =>
  simp only[step]at h ⊢
  generalize x.ev loc st.sl=q at h ⊢
  split
  ·rename_i f first captured
   simp only at h
   split
   ·rfl
   ·rename_i hf
    rw[if_neg hf]at h
    have:cl f (first++xs.map (O.ev loc st.sl)++captured) st.hp ≠ .bad:=fun e=>by rw[e]at h;exact h rfl
    rw[hc _ _ _ this]
  ·rfl
 | calv x xs =>
  simp only[step]at h ⊢
  generalize x.ev loc st.sl=q at h ⊢
  split
  ·simp only at h
   split
   ·rfl
   ·rename_i hf;rw[if_neg hf]at h;rw[hc _ _ _ (toR_bad h)]
  ·rw[hc _ _ _ (toR_bad h)]
  ·rfl
 | inv x m xs =>
  simp only[step]at h ⊢
  generalize x.ev loc st.sl=q at h ⊢
  split
  ·rename_i t v
   simp only at h ⊢
   cases hf:V.meth t m with
   | none=>rfl
   | some f=>rw[hf]at h;simp only at h ⊢;rw[hc _ _ _ (toR_bad h)]
  ·rfl
 | _=>rfl
theorem ops_ge (hc:CLe cl cl') {dr:Option (Bs×Bool)} : ∀ {os:List VOper} {loc:List D} {st:St},(ops V cl dr os loc st).1 ≠ .bad -> ops V cl' dr os loc st=ops V cl dr os loc st
 | [],_,_,_=>rfl
 | o :: os,loc,st,h=>by
  unfold ops at h ⊢
  cases hw:o.wants loc st.sl with
  | none=>rfl
  | some r =>
   rw[hw]at h
   cases r with
   | false=>exact ops_ge hc h
   | true =>
    simp only at h ⊢
    cases hf:o.op.fits dr loc st.sl with
    | false=>rfl
    | true =>
     rw[hf]at h
     simp only at h ⊢
     cases hs:step V cl loc st o.op with
     | v d st1 =>
      rw[hs]at h
      rw[step_ge hc (by rw[hs];nofun),hs]
      exact ops_ge hc h
     | p d hp=>rw[step_ge hc (by rw[hs];nofun),hs]
     | bad=>rw[hs]at h;exact absurd rfl h
theorem iter_ge {b b':St -> Ex×St} (hb : ∀ st,(b st).1 ≠ .bad -> b' st=b st) : ∀ (n n':Nat) (st:St),n <= n' -> (iter b n st).1 ≠ .bad -> iter b' n' st=iter b n st
 | 0,_,_,_,h=>absurd rfl h
 | n+1,0,_,hle,_=>by omega
 | n + 1,n'+1,st,hle,h=>by
  simp only[iter]at h ⊢
  cases hx:b st with
  | mk e1 s1 =>
   rw[hx]at h
   have hne:(b st).1 ≠ .bad:=by
    rw[hx]
    intro e
    simp only at e
    subst e
    exact h rfl
   rw[hb st hne,hx]
   cases e1 with
   | nm=>exact iter_ge hb n n' s1 (by omega) h
   | _=>rfl
theorem exec_ge (hc:CLe cl cl') {n n':Nat} (hn:n <= n') : ∀ (c:VCode) (st:St),(exec V cl n c st).1 ≠ .bad -> exec V cl' n' c st=exec V cl n c st:=by
 intro c
 induction c with
 | skip=>intro st _;rfl
 | ret=>intro st _;rfl
 | stuck=>intro st _;rfl
 | rng j x =>
  intro st h
  simp only[exec]at h ⊢
  cases hr:V.rnd j with
  | none=>rfl
  | some r =>
   rw[hr]at h
   simp only at h ⊢
   split
   ·rename_i g cap he
    rw[he]at h
    simp only at h
    by_cases hy:g=yF
    ·rw[if_pos hy,if_pos hy]
    ·rw[if_neg hy]at h ⊢
     rw[if_neg hy]
     rw[hc _ _ _ (fun e=>by rw[e]at h;exact h rfl)]
   ·rfl
 | exit id=>intro st _;rfl
 | reg os draw=>intro st h;exact ops_ge hc h
 | seq a b iha ihb =>
  intro st h
  simp only[exec]at h ⊢
  cases ha:exec V cl n a st with
  | mk e1 st1 =>
   rw[ha]at h
   have hne:(exec V cl n a st).1 ≠ .bad:=by
    rw[ha]
    intro e
    simp only at e
    subst e
    exact h rfl
   rw[iha st hne,ha]
   cases e1 with
   | nm=>exact ihb _ h
   | _=>rfl
 | cond c a b iha ihb =>
  intro st h
  simp only[exec]at h ⊢
  generalize c.ev [] st.sl=q at h ⊢
  split
  ·exact iha _ h
  ·exact ihb _ h
  ·rfl
 | block id c ih =>
  intro st h
  simp only[exec]at h ⊢
  have hne:(exec V cl n c st).1 ≠ .bad:=by
   intro e
   cases ha:exec V cl n c st with
   | mk e1 st1 =>
    rw[ha]at e h
    simp only at e
    subst e
    exact h rfl
  rw[ih st hne]
 | loop c ih =>
  intro st h
  exact iter_ge (fun st h=>ih st h) n n' st hn h
theorem enter_ge (hc:CLe cl cl') {n n':Nat} (hn:n <= n') {vf:VFunc} {args:List D} {H:Heap} (h:enter V cl n vf args H ≠ .bad):enter V cl' n' vf args H=enter V cl n vf args H:=by
 unfold enter at h ⊢
 split
 ·rename_i hl
  rw[if_pos hl]at h
  rw[exec_ge hc hn]
  intro e
  cases hx:exec V cl n vf.body ⟨args++List.replicate (vf.nsl-vf.npar) .u,H⟩with
  | mk e1 st1 =>
   rw[hx]at e h
   simp only at e
   subst e
   exact h rfl
 ·rfl
theorem enterR_ge (hc:CLe cl cl') {n n':Nat} (hn:n <= n') {vf:VFunc} {args:List D} {H:Heap} (h:enterR V cl n vf args H ≠ .bad):enterR V cl' n' vf args H=enterR V cl n vf args H:=by
 unfold enterR at h ⊢
 split
 ·rename_i hl
  rw[if_pos hl]at h
  rw[exec_ge hc hn]
  intro e
  cases hx:exec V cl n vf.body ⟨args++List.replicate (vf.nsl-vf.npar) .u,H⟩with
  | mk e1 st1 =>
   rw[hx]at e h
   simp only at e
   subst e
   exact h rfl
 ·rfl
theorem roundB_ge (hc:CLe cl cl') {n n':Nat} (hn:n <= n') {y:Nat} {b:VCode} {r:Ex×St} (h:roundB V cl n y b r ≠ .bad):roundB V cl' n' y b r=roundB V cl n y b r:=by
 obtain⟨ex,st⟩:=r
 cases ex with
 | nm =>
  simp only[roundB]at h ⊢
  split
  ·rename_i he
   rw[he]at h
   simp only at h
   rw[exec_ge hc hn]
   intro e
   generalize exec V cl n b _=q at e h
   obtain⟨e1,s1⟩:=q
   simp only at e
   subst e
   exact h rfl
  ·rfl
 | _=>rfl
theorem roundR_ge (hc:CLe cl cl') {n n':Nat} (hn:n <= n') {args:List D} {H:Heap} (h:roundR V cl n args H ≠ .bad):roundR V cl' n' args H=roundR V cl n args H:=by
 unfold roundR at h ⊢
 split
 ·rename_i y az
  simp only at h
  split
  ·rename_i f p j nt tm x he
   rw[he]at h
   simp only at h
   cases hr:V.rnd j with
   | none=>rfl
   | some r =>
    rw[hr]at h
    simp only at h ⊢
    split
    ·rename_i hq
     rw[if_pos hq]at h
     have h1:(exec V cl n r.a ⟨setPs x r.ps az,H⟩).1 ≠ .bad:=by
      intro e
      generalize exec V cl n r.a _=q at e h
      obtain⟨e1,s1⟩:=q
      simp only at e
      subst e
      exact h rfl
     rw[exec_ge hc hn _ _ h1]
     exact roundB_ge hc hn h
    ·rfl
  ·rfl
 ·rfl
theorem leaveD_ge (hc:CLe cl cl') {n n':Nat} (hn:n <= n') {vf:VFunc} {q:Dfr} {base:Nat} {cs:List D} {x:D} {st:St} (h:leaveD V cl n vf q base cs x st ≠ .bad):leaveD V cl' n' vf q base cs x st=leaveD V cl n vf q base cs x st:=by
 unfold leaveD at h ⊢
 rw[exec_ge hc hn]
 intro e
 generalize exec V cl n q.body _=r at e h
 obtain⟨e1,st1⟩:=r
 simp only at e
 subst e
 exact h rfl
theorem enterD_ge (hc:CLe cl cl') {n n':Nat} (hn:n <= n') {vf:VFunc} {q:Dfr} {args:List D} {H:Heap} (h:enterD V cl n vf q args H ≠ .bad):enterD V cl' n' vf q args H=enterD V cl n vf q args H:=by
 unfold enterD at h ⊢
 split
 ·rename_i hl
  rw[if_pos hl]at h
  have h1:(exec V cl n q.pre ⟨args++List.replicate (vf.nsl-vf.npar) .u,H⟩).1 ≠ .bad:=by
   intro e
   generalize exec V cl n q.pre _=r at e h
   obtain⟨e1,st1⟩:=r
   simp only at e
   subst e
   exact h rfl
  rw[exec_ge hc hn _ _ h1]
  generalize exec V cl n q.pre _=r at h
  obtain⟨e1,st1⟩:=r
  cases e1 with
  | nm =>
   simp only at h ⊢
   split
   ·rfl
   ·rename_i hb
    rw[if_neg hb]at h
    have h2:(exec V cl n vf.body st1).1 ≠ .bad:=by
     intro e
     generalize exec V cl n vf.body st1=r at e h
     obtain⟨e1,st2⟩:=r
     simp only at e
     subst e
     exact h rfl
    rw[exec_ge hc hn _ _ h2]
    generalize exec V cl n vf.body st1=r at h
    obtain⟨e2,st2⟩:=r
    cases e2 with
    | nm=>exact leaveD_ge hc hn h
    | rt=>exact leaveD_ge hc hn h
    | pn x=>exact leaveD_ge hc hn h
    | _=>rfl
  | _=>rfl
 ·rfl
theorem enterF_ge (hc:CLe cl cl') {n n':Nat} (hn:n <= n') {vf:VFunc} {args:List D} {H:Heap} (h:enterF V cl n vf args H ≠ .bad):enterF V cl' n' vf args H=enterF V cl n vf args H:=by
 unfold enterF at h ⊢
 split
 ·rename_i hd
  rw[hd]at h
  simp only at h
  split
  ·rename_i hg;rw[hg]at h;exact enter_ge hc hn h
  ·rename_i g hg;rw[hg]at h;exact enterR_ge hc hn h
 ·rename_i q hd;rw[hd]at h;exact enterD_ge hc hn h
theorem pureRun_ge (hc:CLe cl cl') {n n':Nat} (hn:n <= n') {vf:VFunc} {args:List D} (h:pureRun V cl n vf args ≠ .bad):pureRun V cl' n' vf args=pureRun V cl n vf args:=by
 unfold pureRun at h ⊢
 rw[enterF_ge hc hn]
 intro e
 rw[e]at h
 exact h rfl
theorem pureR_ge (hc:CLe cl cl') {n n':Nat} (hn:n <= n') {f:FuncId} {vf:VFunc} {args:List D} (h:pureR V cl n f vf args ≠ .bad):pureR V cl' n' f vf args=pureR V cl n f vf args:=by
 unfold pureR at h ⊢
 split
 ·rfl
 ·rename_i heq;rw[heq]at h;exact pureRun_ge hc hn h
theorem call_ge (V:VProg) : ∀ n n',n <= n' -> CLe (call V n) (call V n'):=by
 intro n
 induction n with
 | zero=>intro n' _ f args H h;exact absurd rfl h
 | succ n ih =>
  intro n' hn f args H h
  cases n' with
  | zero=>omega
  | succ n' =>
   have hc:=ih n' (by omega)
   simp only[call]at h ⊢
   cases hf:V.fn f with
   | none =>
    rw[hf]at h
    simp only at h ⊢
    split
    ·rename_i hq;rw[if_pos hq]at h;exact roundR_ge hc (by omega) h
    ·rfl
   | some vf =>
    rw[hf]at h
    simp only at h ⊢
    cases hp:vf.pure with
    | false =>
     rw[hp]at h
     simp only at h ⊢
     cases hx:V.ext f args H with
     | some q=>rfl
     | none=>rw[hx]at h;exact enterF_ge hc (by omega) h
    | true =>
     rw[hp]at h
     simp only at h ⊢
     cases hfr:freezeL deep H args with
     | none=>rfl
     | some q =>
      obtain⟨ds,H1⟩:=q
      rw[hfr]at h
      simp only at h ⊢
      have hne:pureR V (call V n) n f vf ds ≠ .bad:=by
       intro e;rw[e]at h;exact h rfl
      rw[pureR_ge hc (by omega) hne]
end
theorem call_mono (V:VProg) (n n':Nat) (hn:n <= n') (f:FuncId) (args:List D) (H:Heap) (d:D) (H':Heap) (h:call V n f args H = .ret d H'):call V n' f args H = .ret d H':=by
 rw[call_ge V n n' hn f args H (by rw[h];nofun),h]
def Ret (V:VProg) (f:FuncId) (args:List D) (H:Heap) (d:D) (H':Heap):Prop := ∃ N, ∀ n,N <= n -> call V n f args H = .ret d H'
theorem Ret.of {V:VProg} {n:Nat} {f:FuncId} {args:List D} {H:Heap} {d:D} {H':Heap} (h:call V n f args H = .ret d H'):Ret V f args H d H' :=
 ⟨n,fun m hm=>call_mono V n m hm _ _ _ _ _ h⟩
def PRet (V:VProg) (f:FuncId) (ds:List D) (d:D):Prop := ∃ n,pcall V n f ds = .ret d
theorem backH_same (b:Bool) (d:D) (H:Heap):backH b d H H=H:=by unfold backH;split<;>rfl
theorem Ret.pure0 {V:VProg} {f:FuncId} {vf:VFunc} {args ds:List D} {H H1:Heap} {d:D} (hf:V.fn f=some vf) (hp:vf.pure=true) (hfr:freezeL deep H args=some (ds,H1)) (h:PRet V f ds d):Ret V f args H (placeO vf.own d (backH vf.fre d H H1)).1 (placeO vf.own d (backH vf.fre d H H1)).2:=by
 obtain⟨n,h⟩:=h
 cases n with
 | zero=>cases h
 | succ n =>
  refine .of (n:=n+1) ?_
  simp only[pcall,hf]at h
  simp only[call,hf,hp,hfr,h]
theorem Ret.pure {V:VProg} {f:FuncId} {vf:VFunc} {args ds:List D} {H H1:Heap} {d:D} (hf:V.fn f=some vf) (hp:vf.pure=true) (hfr:freezeL deep H args=some (ds,H1)) (h:PRet V f ds d) (hq:vf.fre=false:=by first|rfl|assumption):Ret V f args H (placeO vf.own d H1).1 (placeO vf.own d H1).2:=by
 have:=Ret.pure0 hf hp hfr h
 rwa [hq]at this
inductive Sl (w:Nat) (rows:List (List D)):D -> Prop
 | nil (h:rows=[]):Sl w rows .nil
 | z (h:rows=[]):Sl w rows .z
 | im:Sl w rows (.im w rows)
section
variable {w:Nat} {rows:List (List D)} {x:D} {H:Heap}
theorem Sl.len (h:Sl w rows x):lenD H 1 x=some (.i .i64 rows.length):=by
 cases h with
 | nil h=>subst h;rfl
 | z h=>subst h;rfl
 | im=>rfl
theorem Sl.cont (h:Sl w rows x):rowsOf H w x=some rows:=by
 cases h with
 | nil h=>subst h;rfl
 | z h=>subst h;rfl
 | im=>simp[rowsOf]
end
section
variable {V:VProg} {cl:FuncId -> List D -> Heap -> CR} {dr:Option (Bs×Bool)} {n:Nat}
def wantK (want:Bool):D -> Option Bool
 | .b y=>some (y==want)
 | .u=>some false
 | _=>none
theorem wants_some (op:VOp) (keep:Option Nat) (x:O) (w:Bool) (loc sl:List D):(⟨op,keep,some (x,w)⟩:VOper).wants loc sl=wantK w (x.ev loc sl):=by
 simp only[VOper.wants]
 cases x.ev loc sl<;>rfl
theorem fits_none (op:VOp) (loc sl:List D):op.fits none loc sl=true:=rfl
def entK (vf:VFunc):Ex×St -> CR
 | (.nm,st)|(.rt,st)=>match resAll st vf.res with
   | some ds => .ret (oneOr ds) st.hp
   | none => .bad
 | (.pn d,st) => .pan d st.hp
 | _ => .bad
theorem enter_eq (vf:VFunc) (args:List D) (H:Heap) (h:args.length=vf.npar):enter V cl n vf args H=entK vf (exec V cl n vf.body ⟨args++List.replicate (vf.nsl-vf.npar) .u,H⟩):=by
 unfold enter
 rw[if_pos h]
 generalize exec V cl n vf.body _=r
 obtain⟨e,s⟩:=r
 cases e<;>rfl
def calK (cl:FuncId -> List D -> Heap -> CR) (args:List D) (st:St):D -> R
 | .fn (.func f) first captured=>if f=yF then .bad else(cl f (first++args++captured) st.hp).toR st.sl
 | .yl y=>(cl yF (.yl y::args) st.hp).toR st.sl
 | _ => .bad
theorem step_calv (x:O) (xs:List O) (loc:List D) (st:St):step V cl loc st (.calv x xs)=calK cl (xs.map (O.ev loc st.sl)) st (x.ev loc st.sl):=by
 simp only[step]
 cases x.ev loc st.sl with
 | fn f a b=>cases f<;>rfl
 | _=>rfl
theorem lt_yF {f:Nat} (h:f<4294967295):f≠yF:=fun e=>by subst e;exact absurd h (Nat.lt_irrefl _)
section
variable (loc sl:List D) (H:Heap)
theorem ev_l (i:Nat):(O.l i).ev loc sl=loc.getD i .u:=rfl
theorem ev_s (i:Nat):(O.s i).ev loc sl=sl.getD i .u:=rfl
theorem ev_c (d:D):(O.c d).ev loc sl=d:=rfl
def abS (k:Nat):Option D -> Option (Nat×Nat)
 | some (.bx _)=>some (k,0)
 | _=>none
def abL:Option D -> Option (Nat×Nat)
 | some (.lp k off)=>some (k,off)
 | _=>none
theorem ab_sl (k:Nat):(AB.sl k).ev loc sl=abS k sl[k]?:=by
 simp only[AB.ev]
 cases sl[k]? with
 | none=>rfl
 | some d=>cases d<;>rfl
theorem ab_lo (i:Nat):(AB.lo i).ev loc sl=abL loc[i]?:=by
 simp only[AB.ev]
 cases loc[i]? with
 | none=>rfl
 | some d=>cases d<;>rfl
theorem abS_bx (k:Nat) (cs:List D):abS k (some (.bx cs))=some (k,0):=rfl
theorem abL_lp (k off:Nat):abL (some (.lp k off))=some (k,off):=rfl
theorem ofO_some (st:St) (d:D):ofO st (some d) = .v d st:=rfl
theorem ofP_some (sl:List D) (H H':Heap) (d:D):ofP ⟨sl,H⟩ (some (d,H')) = .v d ⟨sl,H'⟩:=rfl
theorem ofH_some (sl:List D) (H H':Heap):ofH ⟨sl,H⟩ (some H') = .v .u ⟨sl,H'⟩:=rfl
variable {V:VProg} {cl:FuncId -> List D -> Heap -> CR}
theorem step_mov (x:O):step V cl loc ⟨sl,H⟩ (.mov x) = .v (x.ev loc sl) ⟨sl,H⟩:=rfl
theorem step_pick (c a b:O):step V cl loc ⟨sl,H⟩ (.pick c a b)=ofO ⟨sl,H⟩ (pickD (c.ev loc sl) (a.ev loc sl) (b.ev loc sl)):=rfl
theorem pick_t (a b:D):pickD (.b true) a b=some a:=rfl
theorem pick_f (a b:D):pickD (.b false) a b=some b:=rfl
theorem step_lal (zs:List D):step V cl loc ⟨sl,H⟩ (.lal zs) = .v (.bx zs) ⟨sl,H⟩:=rfl
theorem step_lbx (x:O) (n:Nat):step V cl loc ⟨sl,H⟩ (.lbx x n)=ofO ⟨sl,H⟩ (((x.ev loc sl).cellsN n).map .bx):=rfl
theorem step_hal (t:Nat) (zs:List D):step V cl loc ⟨sl,H⟩ (.hal t zs) = .v (.hp H.length 0) ⟨sl,H++[.hb t zs]⟩:=rfl
theorem step_hbx (t:Nat) (x:O) (n:Nat):step V cl loc ⟨sl,H⟩ (.hbx t x n)=ofP ⟨sl,H⟩ (((x.ev loc sl).cellsN n).map fun cs=>(.hp H.length 0,H++[.hb t cs])):=rfl
theorem step_haa (w:Nat) (zs:List (List D)) (p:Bool):step V cl loc ⟨sl,H⟩ (.haa w zs p) = .v (.aa H.length) ⟨sl,H++[.ar w zs (some zs.length) p false]⟩:=rfl
def lfaR (st:St) (off:Nat):Option (Nat×Nat) -> R
 | some (k,o) => .v (.lp k (o+off)) st
 | none => .bad
theorem step_lfa (a:AB) (off:Nat):step V cl loc ⟨sl,H⟩ (.lfa a off)=lfaR ⟨sl,H⟩ off (a.ev loc sl):=by
 simp only[step];cases a.ev loc sl<;>rfl
theorem lfaR_s (st:St) (off k o:Nat):lfaR st off (some (k,o)) = .v (.lp k (o+off)) st:=rfl
def liaR (st:St) (w:Nat):Option (Nat×Nat) -> Option Nat -> R
 | some (k,o),some j => .v (.lp k (o+j*w)) st
 | _,_ => .bad
theorem liaR_s (st:St) (w k o j:Nat):liaR st w (some (k,o)) (some j) = .v (.lp k (o+j*w)) st:=rfl
def lldR (st:St) (n:Nat) (agg:Bool):Option (Nat×Nat) -> R
 | some (k,o)=>match boxAt st k with
   | some cs=>match cut cs o n with
    | some r=>ofO st (val agg r)
    | none => .bad
   | none => .bad
 | none => .bad
def lldB (st:St) (o n:Nat) (agg:Bool):Option D -> R
 | some (.bx cs)=>match cut cs o n with
    | some r=>ofO st (val agg r)
    | none => .bad
 | _ => .bad
def lldC (st:St) (agg:Bool):Option (List D) -> R
 | some r=>ofO st (val agg r)
 | none => .bad
theorem step_lld (a:AB) (n:Nat) (agg:Bool):step V cl loc ⟨sl,H⟩ (.lld a n agg)=lldR ⟨sl,H⟩ n agg (a.ev loc sl):=by
 simp only[step];cases a.ev loc sl<;>rfl
theorem lldR_s (n:Nat) (agg:Bool) (k o:Nat):lldR ⟨sl,H⟩ n agg (some (k,o))=lldB ⟨sl,H⟩ o n agg sl[k]?:=by
 simp only[lldR,boxAt]
 cases sl[k]? with
 | none=>rfl
 | some d=>cases d<;>rfl
theorem lldB_bx (st:St) (o n:Nat) (agg:Bool) (cs:List D):lldB st o n agg (some (.bx cs))=lldC st agg (cut cs o n):=by
 simp only[lldB];cases cut cs o n<;>rfl
theorem lldC_s (st:St) (agg:Bool) (r:List D):lldC st agg (some r)=ofO st (val agg r):=rfl
def lstR (sl:List D) (H:Heap):Option (Nat×Nat) -> Option (List D) -> R
 | some (k,o),some vs=>match boxAt ⟨sl,H⟩ k with
   | some cs=>match put cs o vs with
     | some cs' => .v .u ⟨sl.set k (.bx cs'),H⟩
     | none => .bad
   | none => .bad
 | _,_ => .bad
def lstB (sl:List D) (H:Heap) (k o:Nat) (vs:List D):Option D -> R
 | some (.bx cs)=>match put cs o vs with
     | some cs' => .v .u ⟨sl.set k (.bx cs'),H⟩
     | none => .bad
 | _ => .bad
def lstC (sl:List D) (H:Heap) (k:Nat):Option (List D) -> R
 | some cs' => .v .u ⟨sl.set k (.bx cs'),H⟩
 | none => .bad
theorem step_lst (a:AB) (x:O) (n:Nat):step V cl loc ⟨sl,H⟩ (.lst a x n)=lstR sl H (a.ev loc sl) ((x.ev loc sl).cellsN n):=by
 simp only[step]
 cases a.ev loc sl with
 | none=>cases(x.ev loc sl).cellsN n<;>rfl
 | some q =>
  obtain⟨k,o⟩:=q
  cases(x.ev loc sl).cellsN n with
  | none =>
   simp only[lstR]
   cases boxAt ⟨sl,H⟩ k<;>rfl
  | some vs =>
   simp only[lstR]
   cases boxAt ⟨sl,H⟩ k with
   | none=>rfl
   | some cs=>rfl
theorem lstR_s (k o:Nat) (vs:List D):lstR sl H (some (k,o)) (some vs)=lstB sl H k o vs sl[k]?:=by
 simp only[lstR,boxAt]
 cases sl[k]? with
 | none=>rfl
 | some d=>cases d<;>rfl
theorem lstB_bx (k o:Nat) (vs cs:List D):lstB sl H k o vs (some (.bx cs))=lstC sl H k (put cs o vs):=by
 simp only[lstB];cases put cs o vs<;>rfl
theorem lstC_s (k:Nat) (cs:List D):lstC sl H k (some cs) = .v .u ⟨sl.set k (.bx cs),H⟩:=rfl
theorem step_fad (x:O) (off:Nat):step V cl loc ⟨sl,H⟩ (.fad x off)=ofO ⟨sl,H⟩ (fadD (x.ev loc sl) off):=rfl
theorem fad_hp (b o off:Nat):fadD (.hp b o) off=some (.hp b (o+off)):=rfl
theorem fad_ap (a n i o off:Nat):fadD (.ap a n i o) off=some (.ap a n i (o+off)):=rfl
theorem fad_ip (cs:List D) (off:Nat):fadD (.ip cs) off=if off <= cs.length then some (.ip (cs.drop off))else none:=rfl
theorem step_iad (x ix:O) (w:Nat):step V cl loc ⟨sl,H⟩ (.iad x ix w)=ofO ⟨sl,H⟩ (iadD H (x.ev loc sl) (ix.ev loc sl) w):=rfl
theorem step_iar (x ix:O) (n w:Nat):step V cl loc ⟨sl,H⟩ (.iar x ix n w)=ofO ⟨sl,H⟩ (iarD H (x.ev loc sl) (ix.ev loc sl) n w):=rfl
def ldR (st:St) (agg:Bool):Option (List D) -> R
 | some r=>ofO st (val agg r)
 | none => .bad
theorem step_ld (x:O) (n:Nat) (agg:Bool):step V cl loc ⟨sl,H⟩ (.ld x n agg)=ldR ⟨sl,H⟩ agg (ldAt H (x.ev loc sl) n):=by
 simp only[step];cases ldAt H (x.ev loc sl) n<;>rfl
theorem step_ldh (x:O) (n:Nat) (agg:Bool):step V cl loc ⟨sl,H⟩ (.ldh x n agg)=ldR ⟨sl,H⟩ agg (ldhD H (x.ev loc sl) n):=by
 simp only[step];cases ldhD H (x.ev loc sl) n<;>rfl
theorem ldh_hp (b off n:Nat):ldhD H (.hp b off) n=ldAt H (.hp b off) n:=rfl
theorem ldR_s (st:St) (agg:Bool) (r:List D):ldR st agg (some r)=ofO st (val agg r):=rfl
theorem ld_ip (cs:List D) (n:Nat):ldAt H (.ip cs) n=cut cs 0 n:=rfl
def hpL (off n:Nat):Option Blk -> Option (List D)
 | some (.hb _ cs)=>cut cs off n
 | _=>none
theorem ld_hp (b off n:Nat):ldAt H (.hp b off) n=hpL off n H[b]?:=by
 simp only[ldAt]
 cases H[b]? with
 | none=>rfl
 | some d=>cases d<;>rfl
theorem hpL_bx (off n t:Nat) (cs:List D):hpL off n (some (.hb t cs))=cut cs off n:=rfl
theorem val_t (cs:List D):val true cs=some (.ag cs):=rfl
theorem val_f (d:D):val false [d]=some d:=rfl
def stR (sl:List D) (H:Heap) (x:D):Option (List D) -> R
 | some vs=>ofH ⟨sl,H⟩ (stAt H x vs)
 | none => .bad
theorem step_st (x v:O) (n:Nat):step V cl loc ⟨sl,H⟩ (.st x v n)=stR sl H (x.ev loc sl) ((v.ev loc sl).cellsN n):=by
 simp only[step];cases(v.ev loc sl).cellsN n<;>rfl
theorem stR_s (x:D) (vs:List D):stR sl H x (some vs)=ofH ⟨sl,H⟩ (stAt H x vs):=rfl
theorem step_bin (op:BinOp) (x y:O):step V cl loc ⟨sl,H⟩ (.bin op x y)=ofO ⟨sl,H⟩ (bin op (x.ev loc sl) (y.ev loc sl)):=rfl
theorem bin_add (k:IntKind) (x y:Int):bin .add (.i k x) (.i k y)=some (.i k (k.wrap (x+y))):=by simp[bin,binI]
theorem bin_sub (k:IntKind) (x y:Int):bin .sub (.i k x) (.i k y)=some (.i k (k.wrap (x-y))):=by simp[bin,binI]
theorem bin_mul (k:IntKind) (x y:Int):bin .mul (.i k x) (.i k y)=some (.i k (k.wrap (x*y))):=by simp[bin,binI]
theorem bin_lss (k:IntKind) (x y:Int):bin .lss (.i k x) (.i k y)=some (.b (decide (x<y))):=by simp[bin,binI]
theorem bin_leq (k:IntKind) (x y:Int):bin .leq (.i k x) (.i k y)=some (.b (decide (x <= y))):=by simp[bin,binI]
theorem bin_gtr (k:IntKind) (x y:Int):bin .gtr (.i k x) (.i k y)=some (.b (decide (y<x))):=by simp[bin,binI]
theorem bin_geq (k:IntKind) (x y:Int):bin .geq (.i k x) (.i k y)=some (.b (decide (y <= x))):=by simp[bin,binI]
theorem bin_eql (k:IntKind) (x y:Int):bin .eql (.i k x) (.i k y)=some (.b (decide (x=y))):=by
 simp only[bin,binI,if_true,Option.some.injEq,D.b.injEq]
 by_cases h:x=y<;>simp[h]
theorem bin_neq (k:IntKind) (x y:Int):bin .neq (.i k x) (.i k y)=some (.b (!decide (x=y))):=by
 simp only[bin,binI,if_true,Option.some.injEq,D.b.injEq]
 by_cases h:x=y<;>simp[h]
theorem bins_neq (x y:List UInt8):bin .neq (.s x) (.s y)=some (.b (!decide (x=y))):=by
 simp only[bin,binS,Option.some.injEq,D.b.injEq]
 by_cases h:x=y<;>simp[h]
theorem step_eqv (neg:Bool) (k:EK) (x y:O):step V cl loc ⟨sl,H⟩ (.eqv neg k x y)=ofO ⟨sl,H⟩ (eqvD neg k (x.ev loc sl) (y.ev loc sl)):=rfl
theorem eqv_b (neg x y:Bool):eqvD neg .b (.b x) (.b y)=some (.b ((x==y) != neg)):=rfl
theorem step_un (op:UnOp) (x:O):step V cl loc ⟨sl,H⟩ (.un op x)=ofO ⟨sl,H⟩ (un op (x.ev loc sl)):=rfl
theorem un_not (x:Bool):un .not (.b x)=some (.b (!x)):=rfl
theorem un_neg (k:IntKind) (n:Int):un .neg (.i k n)=some (.i k (k.wrap (0-n))):=rfl
theorem step_cvi (k:IntKind) (x:O):step V cl loc ⟨sl,H⟩ (.cvi k x)=ofO ⟨sl,H⟩ (cviD k (x.ev loc sl)):=rfl
theorem cvi_i (k k':IntKind) (n:Int):cviD k (.i k' n)=some (.i k (k.wrap n)):=rfl
theorem cvs_s (l:List UInt8):cvsD (.s l)=some (.s l):=rfl
theorem step_agc (zs:List D) (ps:List (Nat×Nat×O)):step V cl loc ⟨sl,H⟩ (.agc zs ps)=ofO ⟨sl,H⟩ ((fillC zs (ps.map fun p=>(p.1,p.2.1,p.2.2.ev loc sl))).map .ag):=rfl
def fillK (off:Nat) (cs:List D) (ps:List (Nat×Nat×D)):Option (List D) -> Option (List D)
 | some vs=>match put cs off vs with
   | some cs'=>fillC cs' ps
   | none=>none
 | none=>none
def fillP (ps:List (Nat×Nat×D)):Option (List D) -> Option (List D)
 | some cs'=>fillC cs' ps
 | none=>none
theorem fill_nil (cs:List D):fillC cs []=some cs:=rfl
theorem fill_cons (cs:List D) (off n:Nat) (v:D) (ps:List (Nat×Nat×D)):fillC cs ((off,n,v)::ps)=fillK off cs ps (v.cellsN n):=by
 rw[fillC];cases v.cellsN n<;>rfl
theorem fillK_s (off:Nat) (cs vs:List D) (ps:List (Nat×Nat×D)):fillK off cs ps (some vs)=fillP ps (put cs off vs):=by
 simp only[fillK];cases put cs off vs<;>rfl
theorem fillP_s (cs:List D) (ps:List (Nat×Nat×D)):fillP ps (some cs)=fillC cs ps:=rfl
theorem step_bsl (w n:Nat) (zs:List D) (ps:List (Nat×O)) (p:Bool):step V cl loc ⟨sl,H⟩ (.bsl w n zs ps p)=ofP ⟨sl,H⟩ (bslD H w n zs (ps.map fun q=>(q.1,q.2.ev loc sl)) p):=rfl
theorem step_bsv (w n:Nat) (zs:List D) (ps:List (Nat×O)):step V cl loc ⟨sl,H⟩ (.bsv w n zs ps)=ofO ⟨sl,H⟩ (bsvD w n zs (ps.map fun q=>(q.1,q.2.ev loc sl))):=rfl
theorem step_len (k:Nat) (x:O):step V cl loc ⟨sl,H⟩ (.len k x)=ofO ⟨sl,H⟩ (lenD H k (x.ev loc sl)):=rfl
theorem len_s (l:List UInt8):lenD H 0 (.s l)=some (.i .i64 l.length):=rfl
theorem len_nil:lenD H 1 .nil=some (.i .i64 0):=rfl
theorem len_z:lenD H 1 .z=some (.i .i64 0):=rfl
theorem len_im (w:Nat) (rows:List (List D)):lenD H 1 (.im w rows)=some (.i .i64 rows.length):=rfl
theorem len_sv (w:Nat) (rows:List (List D)):lenD H 1 (.sv w rows)=some (.i .i64 rows.length):=rfl
theorem len_mu (a n off len:Nat):lenD H 1 (.mu a n off len)=some (.i .i64 len):=rfl
theorem step_app (x y:O) (w bytes:Nat) (p:Bool):step V cl loc ⟨sl,H⟩ (.app x y w bytes p)=ofP ⟨sl,H⟩ (appD H (x.ev loc sl) (y.ev loc sl) w bytes p):=rfl
theorem step_mks (l c:O) (w bytes:Nat) (zs:List D) (p:Bool):step V cl loc ⟨sl,H⟩ (.mks l c w bytes zs p)=ofP ⟨sl,H⟩ (mksD H (l.ev loc sl) (c.ev loc sl) w bytes zs p):=rfl
theorem step_sliD (w:Nat) (x:O) (lo hi mx:Option O):step V cl loc ⟨sl,H⟩ (.sli false w x lo hi mx)=ofO ⟨sl,H⟩ (sliceD H w (x.ev loc sl) (lo.map (O.ev loc sl)) (hi.map (O.ev loc sl)) (mx.map (O.ev loc sl))):=rfl
theorem step_sla (x:O) (n w:Nat) (lo hi:Option O):step V cl loc ⟨sl,H⟩ (.sla x n w lo hi)=ofO ⟨sl,H⟩ (sliceA H (x.ev loc sl) n w (lo.map (O.ev loc sl)) (hi.map (O.ev loc sl))):=rfl
theorem step_ixs (x ix:O):step V cl loc ⟨sl,H⟩ (.ixs x ix)=ofO ⟨sl,H⟩ (ixsD (x.ev loc sl) (ix.ev loc sl)):=rfl
def fldK (agg:Bool):Option (List D) -> Option D
 | some r=>val agg r
 | none=>none
theorem fldK_s (agg:Bool) (r:List D):fldK agg (some r)=val agg r:=rfl
theorem rd_gia {g ix n w}:(VOp.gia g ix n w).reads=[]:=rfl
theorem wr_gia {g ix n w}:(VOp.gia g ix n w).writes=[]:=rfl
theorem step_ixa (x:O) (ix:O) (n:Nat) (w:Nat) (agg:Bool):step V cl loc ⟨sl,H⟩ (.ixa x ix n w agg)=ofO ⟨sl,H⟩ (ixaD (x.ev loc sl) (ix.ev loc sl) n w agg):=rfl
def ixaK (cs:List D) (w:Nat) (agg:Bool):Option Nat -> Option D
 | some j=>fldK agg (cut cs (j*w) w)
 | none=>none
theorem ixaK_s (cs:List D) (w j:Nat) (agg:Bool):ixaK cs w agg (some j)=fldK agg (cut cs (j*w) w):=rfl
theorem step_ext (x:O) (j:Nat):step V cl loc ⟨sl,H⟩ (.ext x j)=ofO ⟨sl,H⟩ (extD (x.ev loc sl) j):=rfl
theorem ext_tu (vs:List D) (j:Nat):extD (.tu vs) j=vs[j]?:=rfl
theorem step_mkf (f:Fn) (a b:List O):step V cl loc ⟨sl,H⟩ (.mkf f a b) = .v (.fn f (a.map (O.ev loc sl)) (b.map (O.ev loc sl))) ⟨sl,H⟩:=rfl
theorem step_mkm:step V cl loc ⟨sl,H⟩ .mkm = .v (.mp H.length) ⟨sl,H++[.mp []]⟩:=rfl
theorem step_lk (kk:KK) (m k:O) (ok:Bool) (zero:D):step V cl loc ⟨sl,H⟩ (.lk kk m k ok zero)=ofO ⟨sl,H⟩ (lkD H kk (m.ev loc sl) (k.ev loc sl) ok zero):=rfl
theorem step_mup (kk:KK) (m k v:O):step V cl loc ⟨sl,H⟩ (.mup kk m k v)=ofH ⟨sl,H⟩ (mupD H kk (m.ev loc sl) (k.ev loc sl) (v.ev loc sl)):=rfl
theorem step_nck (x:O):step V cl loc ⟨sl,H⟩ (.nck x)=ofO ⟨sl,H⟩ (nckD (x.ev loc sl)):=rfl
theorem nck_hp (b o:Nat):nckD (.hp b o)=some (.hp b o):=rfl
theorem nck_aa (a:Nat):nckD (.aa a)=some (.aa a):=rfl
theorem nck_ip (cs:List D):nckD (.ip cs)=some (.ip cs):=rfl
theorem nck_ap (a n i o:Nat):nckD (.ap a n i o)=some (.ap a n i o):=rfl
theorem step_mx (xs:List O):step V cl loc ⟨sl,H⟩ (.mx xs)=ofO ⟨sl,H⟩ (foldD max2 (xs.map (O.ev loc sl))):=rfl
theorem mx_two (k:IntKind) (x y:Int):foldD max2 [.i k x,.i k y]=some (.i k (max x y)):=by
 simp only[foldD,foldO,max2,if_true]
 congr 2
 by_cases h:y>x<;>simp[h]<;>omega
theorem cells_ag (cs:List D) (n:Nat):(D.ag cs).cellsN n=if cs.length=n then some cs else none:=rfl
theorem cells_s (l:List UInt8):(D.s l).cellsN 1=some [.s l]:=rfl
theorem cells_i (k:IntKind) (n:Int):(D.i k n).cellsN 1=some [.i k n]:=rfl
theorem cells_b (x:Bool):(D.b x).cellsN 1=some [.b x]:=rfl
theorem cells_nil:D.nil.cellsN 1=some [.nil]:=rfl
theorem cells_z:D.z.cellsN 1=some [.z]:=rfl
theorem cells_im (w:Nat) (rows:List (List D)):(D.im w rows).cellsN 1=some [.im w rows]:=rfl
theorem cells_sv (w:Nat) (rows:List (List D)):(D.sv w rows).cellsN 1=some [.sv w rows]:=rfl
theorem cells_mu (a n off len:Nat):(D.mu a n off len).cellsN 1=some [.mu a n off len]:=rfl
theorem cells_hp (b off:Nat):(D.hp b off).cellsN 1=some [.hp b off]:=rfl
theorem cells_mp (m:Nat):(D.mp m).cellsN 1=some [.mp m]:=rfl
theorem cells_fn (f:Fn) (a b:List D):(D.fn f a b).cellsN 1=some [.fn f a b]:=rfl
theorem cells_np:D.np.cellsN 1=some [.np]:=rfl
def resK (rs:List RSpec) (st:St):Option D -> Option (List D)
 | some d=>match resAll st rs with
  | some ds=>some (d::ds)
  | none=>none
 | none=>none
def resL (d:D):Option (List D) -> Option (List D)
 | some ds=>some (d::ds)
 | none=>none
theorem res_nil (st:St):resAll st []=some []:=rfl
theorem res_cons (st:St) (r:RSpec) (rs:List RSpec):resAll st (r::rs)=resK rs st (r.ev st):=by
 rw[resAll];cases r.ev st<;>rfl
theorem resK_s (rs:List RSpec) (st:St) (d:D):resK rs st (some d)=resL d (resAll st rs):=by
 simp only[resK];cases resAll st rs<;>rfl
theorem resL_s (d:D) (ds:List D):resL d (some ds)=some (d::ds):=rfl
theorem rs_s (k:Nat):RSpec.ev ⟨sl,H⟩ (.s k)=sl[k]?:=rfl
def rsB (n:Nat) (agg:Bool):Option D -> Option D
 | some (.bx cs)=>if cs.length=n then val agg cs else none
 | _=>none
theorem rs_bx (k n:Nat) (agg:Bool):RSpec.ev ⟨sl,H⟩ (.bx k n agg)=rsB n agg sl[k]?:=by
 simp only[RSpec.ev,boxAt]
 cases sl[k]? with
 | none=>rfl
 | some d=>cases d<;>rfl
theorem rsB_bx (n:Nat) (agg:Bool) (cs:List D):rsB n agg (some (.bx cs))=if cs.length=n then val agg cs else none:=rfl
theorem one_one (d:D):oneOr [d]=d:=rfl
theorem one_two (d e:D) (ds:List D):oneOr (d::e::ds) = .tu (d::e::ds):=rfl
end
end
section
variable (loc sl:List D)
theorem fits_f (op:VOp) (b:Bs):op.fits (some (b,false)) loc sl=op.reads.all fun x=>(x.ev loc sl).under b:=rfl
theorem fits_t (op:VOp) (b:Bs):op.fits (some (b,true)) loc sl=((op.reads.all fun x=>(x.ev loc sl).under b)&&op.writes.all fun x=>(x.ev loc sl).over b):=rfl
theorem rd_mov {x}:(VOp.mov x).reads=[]:=rfl
theorem wr_mov {x}:(VOp.mov x).writes=[]:=rfl
theorem rd_pick {c} {a} {b}:(VOp.pick c a b).reads=[]:=rfl
theorem wr_pick {c} {a} {b}:(VOp.pick c a b).writes=[]:=rfl
theorem rd_lal {zs}:(VOp.lal zs).reads=[]:=rfl
theorem wr_lal {zs}:(VOp.lal zs).writes=[]:=rfl
theorem rd_lbx {x} {n}:(VOp.lbx x n).reads=[]:=rfl
theorem wr_lbx {x} {n}:(VOp.lbx x n).writes=[]:=rfl
theorem rd_hal {t} {zs}:(VOp.hal t zs).reads=[]:=rfl
theorem wr_hal {t} {zs}:(VOp.hal t zs).writes=[]:=rfl
theorem rd_hbx {t} {x} {n}:(VOp.hbx t x n).reads=[]:=rfl
theorem wr_hbx {t} {x} {n}:(VOp.hbx t x n).writes=[]:=rfl
theorem rd_haa {w} {zs} {p}:(VOp.haa w zs p).reads=[]:=rfl
theorem wr_haa {w} {zs} {p}:(VOp.haa w zs p).writes=[]:=rfl
theorem rd_lfa {a} {o}:(VOp.lfa a o).reads=[]:=rfl
theorem wr_lfa {a} {o}:(VOp.lfa a o).writes=[]:=rfl
theorem rd_lia {a} {x} {n} {w}:(VOp.lia a x n w).reads=[]:=rfl
theorem wr_lia {a} {x} {n} {w}:(VOp.lia a x n w).writes=[]:=rfl
theorem rd_lld {a} {n} {g}:(VOp.lld a n g).reads=[]:=rfl
theorem wr_lld {a} {n} {g}:(VOp.lld a n g).writes=[]:=rfl
theorem rd_lst {a} {x} {n}:(VOp.lst a x n).reads=[]:=rfl
theorem wr_lst {a} {x} {n}:(VOp.lst a x n).writes=[]:=rfl
theorem rd_fad {x} {o}:(VOp.fad x o).reads=[]:=rfl
theorem wr_fad {x} {o}:(VOp.fad x o).writes=[]:=rfl
theorem rd_bin {o} {x} {y}:(VOp.bin o x y).reads=[]:=rfl
theorem wr_bin {o} {x} {y}:(VOp.bin o x y).writes=[]:=rfl
theorem rd_eqv {n} {k} {x} {y}:(VOp.eqv n k x y).reads=[]:=rfl
theorem wr_eqv {n} {k} {x} {y}:(VOp.eqv n k x y).writes=[]:=rfl
theorem rd_un {o} {x}:(VOp.un o x).reads=[]:=rfl
theorem wr_un {o} {x}:(VOp.un o x).writes=[]:=rfl
theorem rd_cvi {k} {x}:(VOp.cvi k x).reads=[]:=rfl
theorem wr_cvi {k} {x}:(VOp.cvi k x).writes=[]:=rfl
theorem rd_cvs {x}:(VOp.cvs x).reads=[]:=rfl
theorem wr_cvs {x}:(VOp.cvs x).writes=[]:=rfl
theorem rd_csb {x}:(VOp.csb x).reads=[]:=rfl
theorem wr_csb {x}:(VOp.csb x).writes=[]:=rfl
theorem rd_agc {zs} {ps}:(VOp.agc zs ps).reads=[]:=rfl
theorem wr_agc {zs} {ps}:(VOp.agc zs ps).writes=[]:=rfl
theorem rd_bsl {w} {n} {zs} {ps} {p}:(VOp.bsl w n zs ps p).reads=[]:=rfl
theorem wr_bsl {w} {n} {zs} {ps} {p}:(VOp.bsl w n zs ps p).writes=[]:=rfl
theorem rd_bsv {w} {n} {zs} {ps}:(VOp.bsv w n zs ps).reads=[]:=rfl
theorem wr_bsv {w} {n} {zs} {ps}:(VOp.bsv w n zs ps).writes=[]:=rfl
theorem rd_mks {l} {c} {w} {b} {zs} {p}:(VOp.mks l c w b zs p).reads=[]:=rfl
theorem wr_mks {l} {c} {w} {b} {zs} {p}:(VOp.mks l c w b zs p).writes=[]:=rfl
theorem rd_ixs {x} {i}:(VOp.ixs x i).reads=[]:=rfl
theorem wr_ixs {x} {i}:(VOp.ixs x i).writes=[]:=rfl
theorem rd_stk:VOp.stk.reads=[]:=rfl
theorem wr_stk:VOp.stk.writes=[]:=rfl
theorem rd_ixa {x ix} {n} {w} {g}:(VOp.ixa x ix n w g).reads=[]:=rfl
theorem wr_ixa {x ix} {n} {w} {g}:(VOp.ixa x ix n w g).writes=[]:=rfl
theorem rd_cpl {f} {l}:(VOp.cpl f l).reads=[]:=rfl
theorem wr_cpl {f} {l}:(VOp.cpl f l).writes=[]:=rfl
theorem rd_calx {f} {l}:(VOp.calx f l).reads=[]:=rfl
theorem wr_calx {f} {l}:(VOp.calx f l).writes=[]:=rfl
theorem rd_calvx {x} {l}:(VOp.calvx x l).reads=[]:=rfl
theorem wr_calvx {x} {l}:(VOp.calvx x l).writes=[]:=rfl
theorem rd_callp {f} {l}:(VOp.callp f l).reads=[]:=rfl
theorem wr_callp {f} {l}:(VOp.callp f l).writes=[]:=rfl
theorem rd_fld {x} {o} {n} {g}:(VOp.fld x o n g).reads=[]:=rfl
theorem wr_fld {x} {o} {n} {g}:(VOp.fld x o n g).writes=[]:=rfl
theorem rd_ext {x} {j}:(VOp.ext x j).reads=[]:=rfl
theorem wr_ext {x} {j}:(VOp.ext x j).writes=[]:=rfl
theorem rd_mkf {f} {a} {b}:(VOp.mkf f a b).reads=[]:=rfl
theorem wr_mkf {f} {a} {b}:(VOp.mkf f a b).writes=[]:=rfl
theorem rd_mkm:(VOp.mkm).reads=[]:=rfl
theorem wr_mkm:(VOp.mkm).writes=[]:=rfl
theorem rd_mki {t} {x}:(VOp.mki t x).reads=[]:=rfl
theorem wr_mki {t} {x}:(VOp.mki t x).writes=[]:=rfl
theorem rd_tas {x} {t} {o} {q}:(VOp.tas x t o q).reads=[]:=rfl
theorem wr_tas {x} {t} {o} {q}:(VOp.tas x t o q).writes=[]:=rfl
theorem rd_nck {x}:(VOp.nck x).reads=[]:=rfl
theorem wr_nck {x}:(VOp.nck x).writes=[]:=rfl
theorem rd_mx {l}:(VOp.mx l).reads=[]:=rfl
theorem wr_mx {l}:(VOp.mx l).writes=[]:=rfl
theorem rd_mn {l}:(VOp.mn l).reads=[]:=rfl
theorem wr_mn {l}:(VOp.mn l).writes=[]:=rfl
theorem rd_call {f} {l}:(VOp.call f l).reads=[]:=rfl
theorem wr_call {f} {l}:(VOp.call f l).writes=[]:=rfl
theorem rd_calv {x} {l}:(VOp.calv x l).reads=[]:=rfl
theorem wr_calv {x} {l}:(VOp.calv x l).writes=[]:=rfl
theorem rd_inv {x} {m} {l}:(VOp.inv x m l).reads=[]:=rfl
theorem wr_inv {x} {m} {l}:(VOp.inv x m l).writes=[]:=rfl
theorem rd_pan {x}:(VOp.pan x).reads=[]:=rfl
theorem wr_pan {x}:(VOp.pan x).writes=[]:=rfl
theorem rd_ld {x} {n} {g}:(VOp.ld x n g).reads=[x]:=rfl
theorem rd_ldh {x} {n} {g}:(VOp.ldh x n g).reads=[]:=rfl
theorem wr_ldh {x} {n} {g}:(VOp.ldh x n g).writes=[]:=rfl
theorem rd_ldq {x} {n} {g}:(VOp.ldq x n g).reads=[]:=rfl
theorem wr_ldq {x} {n} {g}:(VOp.ldq x n g).writes=[]:=rfl
theorem wr_ld {x} {n} {g}:(VOp.ld x n g).writes=[]:=rfl
theorem rd_iad {x} {i} {w}:(VOp.iad x i w).reads=[x]:=rfl
theorem wr_iad {x} {i} {w}:(VOp.iad x i w).writes=[]:=rfl
theorem rd_iar {x} {i} {n} {w}:(VOp.iar x i n w).reads=[x]:=rfl
theorem wr_iar {x} {i} {n} {w}:(VOp.iar x i n w).writes=[]:=rfl
theorem rd_cap {x}:(VOp.cap x).reads=[x]:=rfl
theorem wr_cap {x}:(VOp.cap x).writes=[]:=rfl
theorem rd_sli {s} {w} {x} {a} {b} {c}:(VOp.sli s w x a b c).reads=[x]:=rfl
theorem wr_sli {s} {w} {x} {a} {b} {c}:(VOp.sli s w x a b c).writes=[]:=rfl
theorem rd_sla {x} {n} {w} {a} {b}:(VOp.sla x n w a b).reads=[x]:=rfl
theorem wr_sla {x} {n} {w} {a} {b}:(VOp.sla x n w a b).writes=[]:=rfl
theorem rd_lk {kk} {x} {k} {o} {q}:(VOp.lk kk x k o q).reads=[x]:=rfl
theorem wr_lk {kk} {x} {k} {o} {q}:(VOp.lk kk x k o q).writes=[]:=rfl
theorem rd_cbs {x}:(VOp.cbs x).reads=[]:=rfl
theorem wr_cbs {x}:(VOp.cbs x).writes=[]:=rfl
theorem rd_st {x} {v} {n}:(VOp.st x v n).reads=[]:=rfl
theorem wr_st {x} {v} {n}:(VOp.st x v n).writes=[x]:=rfl
theorem rd_app {x} {y} {w} {b} {p}:(VOp.app x y w b p).reads=[]:=rfl
theorem wr_app {x} {y} {w} {b} {p}:(VOp.app x y w b p).writes=[x]:=rfl
theorem rd_cpy {x} {y} {w}:(VOp.cpy x y w).reads=[]:=rfl
theorem wr_cpy {x} {y} {w}:(VOp.cpy x y w).writes=[x]:=rfl
theorem rd_mup {kk} {x} {k} {v}:(VOp.mup kk x k v).reads=[]:=rfl
theorem wr_mup {kk} {x} {k} {v}:(VOp.mup kk x k v).writes=[x]:=rfl
theorem rd_len0 {x}:(VOp.len 0 x).reads=[]:=rfl
theorem rd_len1 {x}:(VOp.len 1 x).reads=[]:=rfl
theorem rd_len2 {x}:(VOp.len 2 x).reads=[x]:=rfl
theorem wr_len {k x}:(VOp.len k x).writes=[]:=rfl
theorem un_nil (b:Bs):D.under b .nil=true:=rfl
theorem un_z (b:Bs):D.under b .z=true:=rfl
theorem un_np (b:Bs):D.under b .np=true:=rfl
theorem un_mnil (b:Bs):D.under b .mnil=true:=rfl
theorem un_nf (b:Bs):D.under b .nf=true:=rfl
theorem un_ni (b:Bs):D.under b .ni=true:=rfl
theorem un_u (b:Bs):D.under b .u=true:=rfl
theorem un_im (b:Bs) (w:Nat) (r):D.under b (.im w r)=true:=rfl
theorem un_sv (b:Bs) (w:Nat) (r):D.under b (.sv w r)=true:=rfl
theorem un_ip (b:Bs) (r):D.under b (.ip r)=true:=rfl
theorem un_s (b:Bs) (r):D.under b (.s r)=true:=rfl
theorem un_hp (b a o:Nat):D.under (b,[]) (.hp a o)=decide (a<b):=by simp[D.under,Bs.un]
theorem un_mu (b a n o l:Nat):D.under (b,[]) (.mu a n o l)=decide (a<b):=by simp[D.under,Bs.un]
theorem un_ap (b a n o l:Nat):D.under (b,[]) (.ap a n o l)=decide (a<b):=by simp[D.under,Bs.un]
theorem ov_nil (b:Bs):D.over b .nil=true:=rfl
theorem Sl.under {w:Nat} {rows:List (List D)} {x:D} (h:Sl w rows x) (b:Bs):x.under b=true:=by cases h<;>rfl
end
def uu:Nat -> List D
 | 0=>[]
 | n+1 => .u::uu n
@[go_sem] theorem uu_zero:uu 0=[]:=rfl
@[go_sem] theorem uu_succ {n:Nat}:uu (n+1) = .u::uu n:=rfl
theorem uu_eq : ∀ n,List.replicate n D.u=uu n
 | 0=>rfl
 | n+1=>by rw[List.replicate_succ,uu_eq n];rfl
def Run (V:VProg) (c:VCode) (st:St) (Q:Ex -> St -> Prop):Prop := ∃ n,(exec V (call V n) n c st).1 ≠ .bad /\ Q (exec V (call V n) n c st).1 (exec V (call V n) n c st).2
def RunO (V:VProg) (dr:Option (Bs×Bool)) (os:List VOper) (loc:List D) (st:St) (Q:Ex -> St -> Prop):Prop := ∃ n,(ops V (call V n) dr os loc st).1 ≠ .bad /\ Q (ops V (call V n) dr os loc st).1 (ops V (call V n) dr os loc st).2
def CallQ (V:VProg) (f:FuncId) (args:List D) (H:Heap) (K:CR -> Prop):Prop := ∃ n,call V n f args H ≠ .bad /\ K (call V n f args H)
def SeqQ (V:VProg) (b:VCode) (Q:Ex -> St -> Prop):Ex -> St -> Prop
 | .nm,s=>Run V b s Q
 | .ex id,s=>Q (.ex id) s
 | .rt,s=>Q .rt s
 | .pn d,s=>Q (.pn d) s
 | .bad,_=>False
def BlockQ (id:Nat) (Q:Ex -> St -> Prop):Ex -> St -> Prop
 | .ex id',s=>if id'=id then Q .nm s else Q (.ex id') s
 | .nm,s=>Q .nm s
 | .rt,s=>Q .rt s
 | .pn d,s=>Q (.pn d) s
 | .bad,_=>False
def LoopQ (V:VProg) (c:VCode) (Q:Ex -> St -> Prop):Ex -> St -> Prop
 | .nm,s=>Run V (.loop c) s Q
 | .ex id,s=>Q (.ex id) s
 | .rt,s=>Q .rt s
 | .pn d,s=>Q (.pn d) s
 | .bad,_=>False
def CondQ (V:VProg) (a b:VCode) (st:St) (Q:Ex -> St -> Prop):D -> Prop
 | .b true=>Run V a st Q
 | .b false=>Run V b st Q
 | _=>False
def GuardQ:Option Bool -> Prop -> Prop -> Prop
 | some true,A,_=>A
 | some false,_,B=>B
 | none,_,_=>False
def PanQ (dr:Option (Bs×Bool)) (sl:List D) (Q:Ex -> St -> Prop) (d:D) (H:Heap):Prop:=match dr with
 | none=>Q (.pn d) ⟨sl,H⟩
 | some _=>False
def AfterQ (V:VProg) (dr:Option (Bs×Bool)) (os:List VOper) (keep:Option Nat) (loc sl:List D) (Q:Ex -> St -> Prop):R -> Prop
 | .v d st'=>RunO V dr os (loc++[d]) ⟨setSl st'.sl keep d,st'.hp⟩ Q
 | .p d hp=>PanQ dr sl Q d hp
 | .bad=>False
def CallK (V:VProg) (dr:Option (Bs×Bool)) (os:List VOper) (keep:Option Nat) (loc sl:List D) (Q:Ex -> St -> Prop):CR -> Prop
 | .ret d hp=>RunO V dr os (loc++[d]) ⟨setSl sl keep d,hp⟩ Q
 | .pan d hp=>PanQ dr sl Q d hp
 | .bad=>False
def AftP (V:VProg) (dr:Option (Bs×Bool)) (os:List VOper) (keep:Option Nat) (loc sl:List D) (Q:Ex -> St -> Prop):R -> Prop
 | .v d st'=>RunO V dr os (loc++[d]) ⟨setSl st'.sl keep d,st'.hp⟩ Q
 | .p d hp=>Q (.pn d) ⟨sl,hp⟩
 | .bad=>False
def CallP (V:VProg) (dr:Option (Bs×Bool)) (os:List VOper) (keep:Option Nat) (loc sl:List D) (Q:Ex -> St -> Prop):CR -> Prop
 | .ret d hp=>RunO V dr os (loc++[d]) ⟨setSl sl keep d,hp⟩ Q
 | .pan d hp=>Q (.pn d) ⟨sl,hp⟩
 | .bad=>False
def AftO (V:VProg) (dr:Option (Bs×Bool)) (os:List VOper) (keep:Option Nat) (loc sl:List D) (Q:Ex -> St -> Prop):VOp -> R -> Prop
 | .callp _ _=>AftP V dr os keep loc sl Q
 | _=>AfterQ V dr os keep loc sl Q
theorem AftO_of {V:VProg} {dr:Option (Bs×Bool)} {os:List VOper} {keep:Option Nat} {loc sl:List D} {Q:Ex -> St -> Prop} {op:VOp} (h:op.pans=false):AftO V dr os keep loc sl Q op=AfterQ V dr os keep loc sl Q:=by cases op<;>first|rfl|cases h
theorem AftO_v {V:VProg} {dr:Option (Bs×Bool)} {os:List VOper} {keep:Option Nat} {loc sl:List D} {Q:Ex -> St -> Prop} {op:VOp} {d:D} {st':St}:AftO V dr os keep loc sl Q op (.v d st')↔RunO V dr os (loc++[d]) ⟨setSl st'.sl keep d,st'.hp⟩ Q:=by cases op<;>rfl
theorem AftO_bad {V:VProg} {dr:Option (Bs×Bool)} {os:List VOper} {keep:Option Nat} {loc sl:List D} {Q:Ex -> St -> Prop} {op:VOp} : ¬ AftO V dr os keep loc sl Q op .bad:=by cases op<;>exact id
theorem AftO_p {V:VProg} {dr:Option (Bs×Bool)} {os:List VOper} {keep:Option Nat} {loc sl:List D} {Q:Ex -> St -> Prop} {op:VOp} {d:D} {hp:Heap}:AftO V dr os keep loc sl Q op (.p d hp)↔(dr.isNone||op.pans)=true /\ Q (.pn d) ⟨sl,hp⟩:=by
 cases op<;>cases dr<;>simp[AftO,AfterQ,AftP,PanQ,VOp.pans]
def OpQ (V:VProg) (dr:Option (Bs×Bool)) (os:List VOper) (keep:Option Nat) (loc:List D) (st:St) (Q:Ex -> St -> Prop) (op:VOp):Prop := ∃ n,AftO V dr os keep loc st.sl Q op (step V (call V n) loc st op)
section
variable {V:VProg} {Q:Ex -> St -> Prop}
theorem exec_up {n n':Nat} {c:VCode} {st:St} (hn:n <= n') (h:(exec V (call V n) n c st).1 ≠ .bad):exec V (call V n') n' c st=exec V (call V n) n c st:=exec_ge (call_ge V n n' hn) hn c st h
theorem ops_up {n n':Nat} {dr:Option (Bs×Bool)} {os:List VOper} {loc:List D} {st:St} (hn:n <= n') (h:(ops V (call V n) dr os loc st).1 ≠ .bad):ops V (call V n') dr os loc st=ops V (call V n) dr os loc st:=ops_ge (call_ge V n n' hn) h
theorem call_up {n n':Nat} {f:FuncId} {args:List D} {H:Heap} (hn:n <= n') (h:call V n f args H ≠ .bad):call V n' f args H=call V n f args H:=call_ge V n n' hn _ _ _ h
theorem Run.mono {c:VCode} {st:St} {Q':Ex -> St -> Prop} (h:Run V c st Q) (hq : ∀ ex s,Q ex s -> Q' ex s):Run V c st Q':=let ⟨n,h1,h2⟩:=h;⟨n,h1,hq _ _ h2⟩
theorem CallQ.mono {f:FuncId} {args:List D} {H:Heap} {K K':CR -> Prop} (h:CallQ V f args H K) (hq : ∀ r,K r -> K' r):CallQ V f args H K':=let ⟨n,h1,h2⟩:=h;⟨n,h1,hq _ h2⟩
@[go_sem] theorem Run_skip {st:St}:Run V .skip st Q↔Q .nm st:=⟨fun⟨_,_,h⟩=>h,fun h=>⟨0,nofun,h⟩⟩
@[go_sem] theorem Run_ret {st:St}:Run V .ret st Q↔Q .rt st:=⟨fun⟨_,_,h⟩=>h,fun h=>⟨0,nofun,h⟩⟩
@[go_sem] theorem Run_exit {st:St} {id:Nat}:Run V (.exit id) st Q↔Q (.ex id) st:=⟨fun⟨_,_,h⟩=>h,fun h=>⟨0,nofun,h⟩⟩
@[go_sem] theorem Run_reg {st:St} {os:List VOper}:Run V (.reg os none) st Q↔RunO V none os [] st Q:=Iff.rfl
@[go_sem] theorem Run_drawn {sl:List D} {H:Heap} {os:List VOper}:Run V (.reg os (some false)) ⟨sl,H⟩ Q↔RunO V (some ((H.length,[]),false)) os [] ⟨sl,H⟩ Q:=Iff.rfl
@[go_sem] theorem Run_drawnT {sl:List D} {H:Heap} {os:List VOper}:Run V (.reg os (some true)) ⟨sl,H⟩ Q↔RunO V (some ((H.length,ownIds os sl),true)) os [] ⟨sl,H⟩ Q:=Iff.rfl
@[go_sem] theorem Run_seq {st:St} {a b:VCode}:Run V (.seq a b) st Q↔Run V a st (SeqQ V b Q):=by
 constructor
 ·rintro⟨n,h1,h2⟩
  simp only[exec]at h1 h2
  refine⟨n, ?_⟩
  cases hx:exec V (call V n) n a st with
  | mk ex s =>
   rw[hx]at h1 h2
   cases ex with
   | nm=>exact⟨nofun,n,h1,h2⟩
   | bad=>exact absurd rfl h1
   | _=>exact⟨nofun,h2⟩
 ·rintro ⟨n,h1,h2⟩
  cases hx:exec V (call V n) n a st with
  | mk ex s =>
   rw[hx]at h1 h2
   have hne:(exec V (call V n) n a st).1 ≠ .bad:=by rw[hx];exact h1
   cases ex with
   | nm =>
    obtain⟨m,h3,h4⟩:=h2
    refine⟨max n m, ?_⟩
    simp only[exec]
    rw[exec_up (Nat.le_max_left n m) hne,hx]
    simp only
    rw[exec_up (Nat.le_max_right n m) h3]
    exact⟨h3,h4⟩
   | bad=>exact absurd rfl h1
   | _ =>
    refine⟨n, ?_⟩
    simp only[exec]
    rw[hx]
    exact⟨nofun,h2⟩
@[go_sem] theorem Run_cond {st:St} {c:O} {a b:VCode}:Run V (.cond c a b) st Q↔CondQ V a b st Q (c.ev [] st.sl):=by
 unfold Run
 simp only[exec]
 generalize c.ev [] st.sl=q
 cases q with
 | b x=>cases x<;>exact Iff.rfl
 | _=>exact⟨fun⟨_,h,_⟩=>absurd rfl h,fun h=>h.elim⟩
@[go_sem] theorem Run_block {st:St} {id:Nat} {c:VCode}:Run V (.block id c) st Q↔Run V c st (BlockQ id Q):=by
 unfold Run
 simp only[exec]
 refine exists_congr fun n => ?_
 generalize exec V (call V n) n c st=q
 obtain⟨ex,s⟩:=q
 cases ex with
 | ex id' =>
  simp only[BlockQ]
  by_cases h:id'=id<;>simp[h]
 | bad=>simp[BlockQ]
 | _=>simp[BlockQ]
theorem Run_loop {st:St} {c:VCode}:Run V (.loop c) st Q↔Run V c st (LoopQ V c Q):=by
 constructor
 ·rintro ⟨n,h1,h2⟩
  simp only[exec]at h1 h2
  cases n with
  | zero=>exact absurd rfl h1
  | succ m =>
   simp only[iter]at h1 h2
   refine⟨m+1, ?_⟩
   cases hx:exec V (call V (m+1)) (m+1) c st with
   | mk ex s =>
    rw[hx]at h1 h2
    cases ex with
    | nm =>
     have h3:iter (exec V (call V (m+1)) (m+1) c) (m+1) s=iter (exec V (call V (m+1)) (m+1) c) m s:=iter_ge (fun _ _=>rfl) _ _ _ (Nat.le_succ m) h1
     refine⟨nofun,m+1, ?_⟩
     simp only[exec]
     rw[h3]
     exact⟨h1,h2⟩
    | bad=>exact absurd rfl h1
    | _=>exact⟨nofun,h2⟩
 ·rintro ⟨n,h1,h2⟩
  cases hx:exec V (call V n) n c st with
  | mk ex s =>
   rw[hx]at h1 h2
   have hne:(exec V (call V n) n c st).1 ≠ .bad:=by rw[hx];exact h1
   cases ex with
   | nm =>
    obtain⟨m,h3,h4⟩:=h2
    refine⟨max n m+1, ?_⟩
    have hup:exec V (call V (max n m+1)) (max n m+1) (.loop c) s=exec V (call V m) m (.loop c) s:=exec_up (by omega) h3
    have hb:exec V (call V (max n m+1)) (max n m+1) c st=(.nm,s):=by rw[exec_up (by omega) hne,hx]
    have hit:iter (exec V (call V (max n m+1)) (max n m+1) c) (max n m) s=exec V (call V m) m (.loop c) s:=by
     simp only[exec]at h3 ⊢
     refine iter_ge (fun st h=>exec_up (by omega) h) _ _ _ (Nat.le_max_right n m) h3
    simp only[exec,iter,hb]
    simp only[exec]at hit h3 h4
    rw[hit]
    exact⟨h3,h4⟩
   | bad=>exact absurd rfl h1
   | _ =>
    refine⟨n+1, ?_⟩
    have hb:exec V (call V (n+1)) (n+1) c st=_:=exec_up (by omega) hne
    simp only[exec,iter,hb,hx]
    exact⟨nofun,h2⟩
@[go_sem] theorem SeqQ_nm {b:VCode} {s:St}:SeqQ V b Q .nm s↔Run V b s Q:=Iff.rfl
@[go_sem] theorem SeqQ_ex {b:VCode} {id:Nat} {s:St}:SeqQ V b Q (.ex id) s↔Q (.ex id) s:=Iff.rfl
@[go_sem] theorem SeqQ_rt {b:VCode} {s:St}:SeqQ V b Q .rt s↔Q .rt s:=Iff.rfl
@[go_sem] theorem SeqQ_pn {b:VCode} {d:D} {s:St}:SeqQ V b Q (.pn d) s↔Q (.pn d) s:=Iff.rfl
@[go_sem] theorem BlockQ_nm {id:Nat} {s:St}:BlockQ id Q .nm s↔Q .nm s:=Iff.rfl
@[go_sem] theorem BlockQ_ex {id id':Nat} {s:St}:BlockQ id Q (.ex id') s↔if id'=id then Q .nm s else Q (.ex id') s:=Iff.rfl
@[go_sem] theorem BlockQ_rt {id:Nat} {s:St}:BlockQ id Q .rt s↔Q .rt s:=Iff.rfl
@[go_sem] theorem BlockQ_pn {id:Nat} {d:D} {s:St}:BlockQ id Q (.pn d) s↔Q (.pn d) s:=Iff.rfl
@[go_sem] theorem LoopQ_nm {c:VCode} {s:St}:LoopQ V c Q .nm s↔Run V (.loop c) s Q:=Iff.rfl
@[go_sem] theorem LoopQ_ex {c:VCode} {id:Nat} {s:St}:LoopQ V c Q (.ex id) s↔Q (.ex id) s:=Iff.rfl
@[go_sem] theorem LoopQ_rt {c:VCode} {s:St}:LoopQ V c Q .rt s↔Q .rt s:=Iff.rfl
@[go_sem] theorem LoopQ_pn {c:VCode} {d:D} {s:St}:LoopQ V c Q (.pn d) s↔Q (.pn d) s:=Iff.rfl
@[go_sem low] theorem CondQ_b {a b:VCode} {st:St} {x:Bool}:CondQ V a b st Q (.b x)↔(x=true -> Run V a st Q) /\ (x=false -> Run V b st Q):=by
 cases x<;>simp[CondQ]
@[go_sem] theorem AfterQ_v {dr:Option (Bs×Bool)} {os:List VOper} {keep:Option Nat} {loc sl sl':List D} {H:Heap} {d:D}:AfterQ V dr os keep loc sl Q (.v d ⟨sl',H⟩)↔RunO V dr os (loc++[d]) ⟨setSl sl' keep d,H⟩ Q:=Iff.rfl
@[go_sem] theorem AfterQ_p {os:List VOper} {keep:Option Nat} {loc sl:List D} {H:Heap} {d:D}:AfterQ V none os keep loc sl Q (.p d H)↔Q (.pn d) ⟨sl,H⟩:=Iff.rfl
@[go_sem] theorem CallK_ret {dr:Option (Bs×Bool)} {os:List VOper} {keep:Option Nat} {loc sl:List D} {H:Heap} {d:D}:CallK V dr os keep loc sl Q (.ret d H)↔RunO V dr os (loc++[d]) ⟨setSl sl keep d,H⟩ Q:=Iff.rfl
@[go_sem] theorem CallK_pan {os:List VOper} {keep:Option Nat} {loc sl:List D} {H:Heap} {d:D}:CallK V none os keep loc sl Q (.pan d H)↔Q (.pn d) ⟨sl,H⟩:=Iff.rfl
@[go_sem] theorem RunO_nil {dr:Option (Bs×Bool)} {loc:List D} {st:St}:RunO V dr [] loc st Q↔Q .nm st:=⟨fun⟨_,_,h⟩=>h,fun h=>⟨0,nofun,h⟩⟩
theorem RunO_cons {dr:Option (Bs×Bool)} {o:VOper} {os:List VOper} {loc:List D} {st:St} :
  RunO V dr (o::os) loc st Q↔GuardQ (o.wants loc st.sl) (o.op.fits dr loc st.sl=true /\ OpQ V dr os o.keep loc st Q o.op) (RunO V dr os (loc++[.u]) ⟨setSl st.sl o.keep .u,st.hp⟩ Q):=by
 unfold RunO
 cases hw:o.wants loc st.sl with
 | none =>
  simp only[GuardQ,iff_false]
  rintro⟨n,h1,_⟩
  unfold ops at h1
  rw[hw]at h1
  exact h1 rfl
 | some r =>
  cases r with
  | false =>
   simp only[GuardQ]
   refine exists_congr fun n => ?_
   rw[ops,hw]
  | true =>
   simp only[GuardQ]
   cases hf:o.op.fits dr loc st.sl with
   | false =>
    simp only[Bool.false_eq_true,false_and,iff_false]
    rintro⟨n,h1,_⟩
    unfold ops at h1
    rw[hw]at h1
    simp only[hf]at h1
    exact h1 rfl
   | true =>
    simp only[true_and]
    unfold OpQ
    constructor
    ·rintro⟨n,h⟩
     refine⟨n, ?_⟩
     rw[ops,hw]at h
     simp only[hf]at h
     cases hs:step V (call V n) loc st o.op with
     | v d st1=>rw[hs]at h;exact AftO_v.2 ⟨n,h⟩
     | p d hp =>
      rw[hs]at h
      simp only at h
      refine AftO_p.2 ?_
      cases hc:dr.isNone||o.op.pans with
      | true=>rw[hc]at h;exact⟨rfl,h.2⟩
      | false=>rw[hc]at h;exact absurd rfl h.1
     | bad=>rw[hs]at h;exact absurd rfl h.1
    ·rintro⟨n,h⟩
     cases hs:step V (call V n) loc st o.op with
     | v d st1 =>
      rw[hs]at h
      obtain⟨m,h1,h2⟩:=AftO_v.1 h
      refine⟨max n m, ?_⟩
      rw[ops,hw]
      simp only[hf]
      rw[step_ge (call_ge V n (max n m) (Nat.le_max_left n m)) (by rw[hs];nofun),hs]
      simp only
      rw[ops_up (Nat.le_max_right n m) h1]
      exact⟨h1,h2⟩
     | p d hp =>
      rw[hs]at h
      obtain⟨h1,h2⟩:=AftO_p.1 h
      refine⟨n, ?_⟩
      rw[ops,hw]
      simp only[hf,hs,h1]
      exact⟨nofun,h2⟩
     | bad=>rw[hs]at h;exact(AftO_bad h).elim
def GdQ (V:VProg) (dr:Option (Bs×Bool)) (op:VOp) (keep:Option Nat) (os:List VOper) (loc sl:List D) (H:Heap) (Q:Ex -> St -> Prop):Bool -> Prop
 | true=>op.fits dr loc sl=true /\ OpQ V dr os keep loc ⟨sl,H⟩ Q op
 | false=>RunO V dr os (loc++[.u]) ⟨setSl sl keep .u,H⟩ Q
def SplitL (V:VProg) (dr:Option (Bs×Bool)) (op:VOp) (keep:Option Nat) (w:Bool) (os:List VOper) (loc:List D) (j:Nat) (sl:List D) (H:Heap) (Q:Ex -> St -> Prop):D -> Prop
 | .b x=>(x=true -> GdQ V dr op keep os (loc.set j (.b true)) sl H Q w) /\ (x=false -> GdQ V dr op keep os (loc.set j (.b false)) sl H Q (!w))
 | .u=>GdQ V dr op keep os loc sl H Q false
 | _=>False
def SplitS (V:VProg) (dr:Option (Bs×Bool)) (op:VOp) (keep:Option Nat) (w:Bool) (os:List VOper) (loc:List D) (k:Nat) (sl:List D) (H:Heap) (Q:Ex -> St -> Prop):D -> Prop
 | .b x=>(x=true -> GdQ V dr op keep os loc (sl.set k (.b true)) H Q w) /\ (x=false -> GdQ V dr op keep os loc (sl.set k (.b false)) H Q (!w))
 | .u=>GdQ V dr op keep os loc sl H Q false
 | _=>False
theorem set_getD {l:List D} {j:Nat} {d:D} (h:l.getD j .u=d) (hd:d ≠ .u):l.set j d=l:=by
 subst h
 by_cases hj:j<l.length
 ·rw[List.getD_eq_getElem?_getD,List.getElem?_eq_getElem hj]
  simp
 ·exfalso;apply hd;rw[List.getD_eq_getElem?_getD,List.getElem?_eq_none (by omega)];rfl
section
variable {dr:Option (Bs×Bool)} {op:VOp} {keep:Option Nat} {w:Bool} {os:List VOper} {loc:List D} {j:Nat} {sl:List D} {H:Heap}
@[go_sem] theorem GdQ_t:GdQ V dr op keep os loc sl H Q true↔op.fits dr loc sl=true /\ OpQ V dr os keep loc ⟨sl,H⟩ Q op:=Iff.rfl
@[go_sem] theorem GdQ_f:GdQ V dr op keep os loc sl H Q false↔RunO V dr os (loc++[.u]) ⟨setSl sl keep .u,H⟩ Q:=Iff.rfl
@[go_sem] theorem RunO_plain:RunO V dr (⟨op,keep,none⟩::os) loc ⟨sl,H⟩ Q↔op.fits dr loc sl=true /\ OpQ V dr os keep loc ⟨sl,H⟩ Q op:=by
 rw[RunO_cons];exact Iff.rfl
theorem guard_q {x:O}:RunO V dr (⟨op,keep,some (x,w)⟩::os) loc ⟨sl,H⟩ Q↔GuardQ (wantK w (x.ev loc sl)) (GdQ V dr op keep os loc sl H Q true) (GdQ V dr op keep os loc sl H Q false):=by
 rw[RunO_cons,wants_some];exact Iff.rfl
@[go_sem] theorem RunO_gl:RunO V dr (⟨op,keep,some (.l j,w)⟩::os) loc ⟨sl,H⟩ Q↔SplitL V dr op keep w os loc j sl H Q (loc.getD j .u):=by
 rw[guard_q,ev_l]
 generalize hd:loc.getD j .u=d
 cases d with
 | b x =>
  have hs:=set_getD hd nofun
  cases x<;>cases w<;>simp[SplitL,wantK,GuardQ,hs]
 | u=>exact Iff.rfl
 | _=>exact Iff.rfl
@[go_sem high] theorem SplitL_t:SplitL V dr op keep w os loc j sl H Q (.b true)↔GdQ V dr op keep os (loc.set j (.b true)) sl H Q w:=by simp[SplitL]
@[go_sem high] theorem SplitL_f:SplitL V dr op keep w os loc j sl H Q (.b false)↔GdQ V dr op keep os (loc.set j (.b false)) sl H Q (!w):=by simp[SplitL]
@[go_sem] theorem SplitL_u:SplitL V dr op keep w os loc j sl H Q .u↔GdQ V dr op keep os loc sl H Q false:=Iff.rfl
@[go_sem low] theorem SplitL_b {x:Bool}:SplitL V dr op keep w os loc j sl H Q (.b x)↔(x=true -> GdQ V dr op keep os (loc.set j (.b true)) sl H Q w) /\ (x=false -> GdQ V dr op keep os (loc.set j (.b false)) sl H Q (!w)):=Iff.rfl
@[go_sem] theorem SplitS_u:SplitS V dr op keep w os loc j sl H Q .u↔GdQ V dr op keep os loc sl H Q false:=Iff.rfl
@[go_sem low] theorem SplitS_b {x:Bool}:SplitS V dr op keep w os loc j sl H Q (.b x)↔(x=true -> GdQ V dr op keep os loc (sl.set j (.b true)) H Q w) /\ (x=false -> GdQ V dr op keep os loc (sl.set j (.b false)) H Q (!w)):=Iff.rfl
@[go_sem high] theorem CondQ_t {a b:VCode} {st:St}:CondQ V a b st Q (.b true)↔Run V a st Q:=Iff.rfl
@[go_sem high] theorem CondQ_f {a b:VCode} {st:St}:CondQ V a b st Q (.b false)↔Run V b st Q:=Iff.rfl
end
end
def clN:FuncId -> List D -> Heap -> CR:=fun _ _ _ => .bad
def VOp.isCall:VOp -> Bool
 | .call _ _ | .calv _ _ | .inv _ _ _ | .cpl _ _ | .calx _ _ | .calvx _ _ | .callp _ _=>true
 | _=>false
section
variable {V:VProg} {Q:Ex -> St -> Prop} {dr:Option (Bs×Bool)} {os:List VOper} {keep:Option Nat} {loc sl:List D} {H:Heap}
theorem OpQ_nc {st:St} {op:VOp} (h:op.isCall=false):OpQ V dr os keep loc st Q op↔AfterQ V dr os keep loc st.sl Q (step V clN loc st op):=by
 have hs : ∀ cl,step V cl loc st op=step V clN loc st op:=fun cl=>by
  cases op<;>first|rfl|cases h
 unfold OpQ
 rw[AftO_of (by cases op<;>first|rfl|cases h)]
 simp only[hs,exists_const]
@[go_sem] theorem q_step_mov {x:O}:OpQ V dr os keep loc ⟨sl,H⟩ Q (.mov x)↔AfterQ V dr os keep loc sl Q (.v (x.ev loc sl) ⟨sl,H⟩):=by
 rw[OpQ_nc rfl,step_mov]
@[go_sem] theorem q_step_pick {c a b:O}:OpQ V dr os keep loc ⟨sl,H⟩ Q (.pick c a b)↔AfterQ V dr os keep loc sl Q (ofO ⟨sl,H⟩ (pickD (c.ev loc sl) (a.ev loc sl) (b.ev loc sl))):=by
 rw[OpQ_nc rfl,step_pick]
@[go_sem] theorem q_step_lal {zs:List D}:OpQ V dr os keep loc ⟨sl,H⟩ Q (.lal zs)↔AfterQ V dr os keep loc sl Q (.v (.bx zs) ⟨sl,H⟩):=by
 rw[OpQ_nc rfl,step_lal]
@[go_sem] theorem q_step_lbx {x:O} {n:Nat}:OpQ V dr os keep loc ⟨sl,H⟩ Q (.lbx x n)↔AfterQ V dr os keep loc sl Q (ofO ⟨sl,H⟩ (((x.ev loc sl).cellsN n).map .bx)):=by
 rw[OpQ_nc rfl,step_lbx]
@[go_sem] theorem q_step_hal {t:Nat} {zs:List D}:OpQ V dr os keep loc ⟨sl,H⟩ Q (.hal t zs)↔AfterQ V dr os keep loc sl Q (.v (.hp H.length 0) ⟨sl,H++[.hb t zs]⟩):=by
 rw[OpQ_nc rfl,step_hal]
@[go_sem] theorem q_step_hbx {t:Nat} {x:O} {n:Nat}:OpQ V dr os keep loc ⟨sl,H⟩ Q (.hbx t x n)↔AfterQ V dr os keep loc sl Q (ofP ⟨sl,H⟩ (((x.ev loc sl).cellsN n).map fun cs=>(.hp H.length 0,H++[.hb t cs]))):=by
 rw[OpQ_nc rfl,step_hbx]
@[go_sem] theorem q_step_haa {w:Nat} {zs:List (List D)} {p:Bool}:OpQ V dr os keep loc ⟨sl,H⟩ Q (.haa w zs p)↔AfterQ V dr os keep loc sl Q (.v (.aa H.length) ⟨sl,H++[.ar w zs (some zs.length) p false]⟩):=by
 rw[OpQ_nc rfl,step_haa]
@[go_sem] theorem q_step_lfa {a:AB} {off:Nat}:OpQ V dr os keep loc ⟨sl,H⟩ Q (.lfa a off)↔AfterQ V dr os keep loc sl Q (lfaR ⟨sl,H⟩ off (a.ev loc sl)):=by
 rw[OpQ_nc rfl,step_lfa]
@[go_sem] theorem q_step_lld {a:AB} {n:Nat} {agg:Bool}:OpQ V dr os keep loc ⟨sl,H⟩ Q (.lld a n agg)↔AfterQ V dr os keep loc sl Q (lldR ⟨sl,H⟩ n agg (a.ev loc sl)):=by
 rw[OpQ_nc rfl,step_lld]
@[go_sem] theorem q_step_lst {a:AB} {x:O} {n:Nat}:OpQ V dr os keep loc ⟨sl,H⟩ Q (.lst a x n)↔AfterQ V dr os keep loc sl Q (lstR sl H (a.ev loc sl) ((x.ev loc sl).cellsN n)):=by
 rw[OpQ_nc rfl,step_lst]
@[go_sem] theorem q_step_fad {x:O} {off:Nat}:OpQ V dr os keep loc ⟨sl,H⟩ Q (.fad x off)↔AfterQ V dr os keep loc sl Q (ofO ⟨sl,H⟩ (fadD (x.ev loc sl) off)):=by
 rw[OpQ_nc rfl,step_fad]
@[go_sem] theorem q_step_iad {x ix:O} {w:Nat}:OpQ V dr os keep loc ⟨sl,H⟩ Q (.iad x ix w)↔AfterQ V dr os keep loc sl Q (ofO ⟨sl,H⟩ (iadD H (x.ev loc sl) (ix.ev loc sl) w)):=by
 rw[OpQ_nc rfl,step_iad]
@[go_sem] theorem q_step_iar {x ix:O} {n w:Nat}:OpQ V dr os keep loc ⟨sl,H⟩ Q (.iar x ix n w)↔AfterQ V dr os keep loc sl Q (ofO ⟨sl,H⟩ (iarD H (x.ev loc sl) (ix.ev loc sl) n w)):=by
 rw[OpQ_nc rfl,step_iar]
@[go_sem] theorem q_step_ld {x:O} {n:Nat} {agg:Bool}:OpQ V dr os keep loc ⟨sl,H⟩ Q (.ld x n agg)↔AfterQ V dr os keep loc sl Q (ldR ⟨sl,H⟩ agg (ldAt H (x.ev loc sl) n)):=by
 rw[OpQ_nc rfl,step_ld]
@[go_sem] theorem q_step_ldh {x:O} {n:Nat} {agg:Bool}:OpQ V dr os keep loc ⟨sl,H⟩ Q (.ldh x n agg)↔AfterQ V dr os keep loc sl Q (ldR ⟨sl,H⟩ agg (ldhD H (x.ev loc sl) n)):=by
 rw[OpQ_nc rfl,step_ldh]
@[go_sem] theorem q_step_st {x v:O} {n:Nat}:OpQ V dr os keep loc ⟨sl,H⟩ Q (.st x v n)↔AfterQ V dr os keep loc sl Q (stR sl H (x.ev loc sl) ((v.ev loc sl).cellsN n)):=by
 rw[OpQ_nc rfl,step_st]
@[go_sem] theorem q_step_bin {op:BinOp} {x y:O}:OpQ V dr os keep loc ⟨sl,H⟩ Q (.bin op x y)↔AfterQ V dr os keep loc sl Q (ofO ⟨sl,H⟩ (bin op (x.ev loc sl) (y.ev loc sl))):=by
 rw[OpQ_nc rfl,step_bin]
@[go_sem] theorem q_step_eqv {neg:Bool} {k:EK} {x y:O}:OpQ V dr os keep loc ⟨sl,H⟩ Q (.eqv neg k x y)↔AfterQ V dr os keep loc sl Q (ofO ⟨sl,H⟩ (eqvD neg k (x.ev loc sl) (y.ev loc sl))):=by
 rw[OpQ_nc rfl,step_eqv]
@[go_sem] theorem q_step_un {op:UnOp} {x:O}:OpQ V dr os keep loc ⟨sl,H⟩ Q (.un op x)↔AfterQ V dr os keep loc sl Q (ofO ⟨sl,H⟩ (un op (x.ev loc sl))):=by
 rw[OpQ_nc rfl,step_un]
@[go_sem] theorem q_step_cvi {k:IntKind} {x:O}:OpQ V dr os keep loc ⟨sl,H⟩ Q (.cvi k x)↔AfterQ V dr os keep loc sl Q (ofO ⟨sl,H⟩ (cviD k (x.ev loc sl))):=by
 rw[OpQ_nc rfl,step_cvi]
@[go_sem] theorem q_step_agc {zs:List D} {ps:List (Nat×Nat×O)}:OpQ V dr os keep loc ⟨sl,H⟩ Q (.agc zs ps)↔AfterQ V dr os keep loc sl Q (ofO ⟨sl,H⟩ ((fillC zs (ps.map fun p=>(p.1,p.2.1,p.2.2.ev loc sl))).map .ag)):=by
 rw[OpQ_nc rfl,step_agc]
@[go_sem] theorem q_step_bsl {w n:Nat} {zs:List D} {ps:List (Nat×O)} {p:Bool}:OpQ V dr os keep loc ⟨sl,H⟩ Q (.bsl w n zs ps p)↔AfterQ V dr os keep loc sl Q (ofP ⟨sl,H⟩ (bslD H w n zs (ps.map fun q=>(q.1,q.2.ev loc sl)) p)):=by
 rw[OpQ_nc rfl,step_bsl]
@[go_sem] theorem q_step_bsv {w n:Nat} {zs:List D} {ps:List (Nat×O)}:OpQ V dr os keep loc ⟨sl,H⟩ Q (.bsv w n zs ps)↔AfterQ V dr os keep loc sl Q (ofO ⟨sl,H⟩ (bsvD w n zs (ps.map fun q=>(q.1,q.2.ev loc sl)))):=by
 rw[OpQ_nc rfl,step_bsv]
@[go_sem] theorem q_step_len {k:Nat} {x:O}:OpQ V dr os keep loc ⟨sl,H⟩ Q (.len k x)↔AfterQ V dr os keep loc sl Q (ofO ⟨sl,H⟩ (lenD H k (x.ev loc sl))):=by
 rw[OpQ_nc rfl,step_len]
@[go_sem] theorem q_step_app {x y:O} {w bytes:Nat} {p:Bool}:OpQ V dr os keep loc ⟨sl,H⟩ Q (.app x y w bytes p)↔AfterQ V dr os keep loc sl Q (ofP ⟨sl,H⟩ (appD H (x.ev loc sl) (y.ev loc sl) w bytes p)):=by
 rw[OpQ_nc rfl,step_app]
@[go_sem] theorem q_step_mks {l c:O} {w bytes:Nat} {zs:List D} {p:Bool}:OpQ V dr os keep loc ⟨sl,H⟩ Q (.mks l c w bytes zs p)↔AfterQ V dr os keep loc sl Q (ofP ⟨sl,H⟩ (mksD H (l.ev loc sl) (c.ev loc sl) w bytes zs p)):=by
 rw[OpQ_nc rfl,step_mks]
@[go_sem] theorem q_step_sliD {w:Nat} {x:O} {lo hi mx:Option O}:OpQ V dr os keep loc ⟨sl,H⟩ Q (.sli false w x lo hi mx)↔AfterQ V dr os keep loc sl Q (ofO ⟨sl,H⟩ (sliceD H w (x.ev loc sl) (lo.map (O.ev loc sl)) (hi.map (O.ev loc sl)) (mx.map (O.ev loc sl)))):=by
 rw[OpQ_nc rfl,step_sliD]
@[go_sem] theorem q_step_sla {x:O} {n w:Nat} {lo hi:Option O}:OpQ V dr os keep loc ⟨sl,H⟩ Q (.sla x n w lo hi)↔AfterQ V dr os keep loc sl Q (ofO ⟨sl,H⟩ (sliceA H (x.ev loc sl) n w (lo.map (O.ev loc sl)) (hi.map (O.ev loc sl)))):=by
 rw[OpQ_nc rfl,step_sla]
@[go_sem] theorem q_step_ixs {x ix:O}:OpQ V dr os keep loc ⟨sl,H⟩ Q (.ixs x ix)↔AfterQ V dr os keep loc sl Q (ofO ⟨sl,H⟩ (ixsD (x.ev loc sl) (ix.ev loc sl))):=by
 rw[OpQ_nc rfl,step_ixs]
@[go_sem] theorem q_step_ixa {x:O} {ix:O} {n:Nat} {w:Nat} {agg:Bool}:OpQ V dr os keep loc ⟨sl,H⟩ Q (.ixa x ix n w agg)↔AfterQ V dr os keep loc sl Q (ofO ⟨sl,H⟩ (ixaD (x.ev loc sl) (ix.ev loc sl) n w agg)):=by
 rw[OpQ_nc rfl,step_ixa]
@[go_sem] theorem q_step_ext {x:O} {j:Nat}:OpQ V dr os keep loc ⟨sl,H⟩ Q (.ext x j)↔AfterQ V dr os keep loc sl Q (ofO ⟨sl,H⟩ (extD (x.ev loc sl) j)):=by
 rw[OpQ_nc rfl,step_ext]
@[go_sem] theorem q_step_mkf {f:Fn} {a b:List O}:OpQ V dr os keep loc ⟨sl,H⟩ Q (.mkf f a b)↔AfterQ V dr os keep loc sl Q (.v (.fn f (a.map (O.ev loc sl)) (b.map (O.ev loc sl))) ⟨sl,H⟩):=by
 rw[OpQ_nc rfl,step_mkf]
@[go_sem] theorem q_step_mkm  : OpQ V dr os keep loc ⟨sl,H⟩ Q .mkm↔AfterQ V dr os keep loc sl Q (.v (.mp H.length) ⟨sl,H++[.mp []]⟩):=by
 rw[OpQ_nc rfl,step_mkm]
@[go_sem] theorem q_step_lk {kk:KK} {m k:O} {ok:Bool} {zero:D}:OpQ V dr os keep loc ⟨sl,H⟩ Q (.lk kk m k ok zero)↔AfterQ V dr os keep loc sl Q (ofO ⟨sl,H⟩ (lkD H kk (m.ev loc sl) (k.ev loc sl) ok zero)):=by
 rw[OpQ_nc rfl,step_lk]
@[go_sem] theorem q_step_mup {kk:KK} {m k v:O}:OpQ V dr os keep loc ⟨sl,H⟩ Q (.mup kk m k v)↔AfterQ V dr os keep loc sl Q (ofH ⟨sl,H⟩ (mupD H kk (m.ev loc sl) (k.ev loc sl) (v.ev loc sl))):=by
 rw[OpQ_nc rfl,step_mup]
@[go_sem] theorem q_step_nck {x:O}:OpQ V dr os keep loc ⟨sl,H⟩ Q (.nck x)↔AfterQ V dr os keep loc sl Q (ofO ⟨sl,H⟩ (nckD (x.ev loc sl))):=by
 rw[OpQ_nc rfl,step_nck]
@[go_sem] theorem q_step_mx {xs:List O}:OpQ V dr os keep loc ⟨sl,H⟩ Q (.mx xs)↔AfterQ V dr os keep loc sl Q (ofO ⟨sl,H⟩ (foldD max2 (xs.map (O.ev loc sl)))):=by
 rw[OpQ_nc rfl,step_mx]
def CalQ (V:VProg) (args:List D) (H:Heap) (K:CR -> Prop):D -> Prop
 | .fn (.func f) a b=>f≠yF /\ CallQ V f (a++args++b) H K
 | .yl y=>CallQ V yF (.yl y::args) H K
 | _=>False
@[go_sem] theorem CalQ_f {args:List D} {K:CR -> Prop} {f:FuncId} {a b:List D} (h:f<4294967295):CalQ V args H K (.fn (.func f) a b)↔CallQ V f (a++args++b) H K:=⟨fun h=>h.2,fun g=>⟨lt_yF h,g⟩⟩
@[go_sem] theorem CalQ_y {args:List D} {K:CR -> Prop} {y:Nat}:CalQ V args H K (.yl y)↔CallQ V yF (.yl y::args) H K:=Iff.rfl
theorem after_call {r:CR}:AfterQ V dr os keep loc sl Q (r.toR sl)↔r ≠ .bad /\ CallK V dr os keep loc sl Q r:=by
 cases r with
 | ret d hp=>exact⟨fun h=>⟨nofun,h⟩,fun h=>h.2⟩
 | pan d hp=>exact⟨fun h=>⟨nofun,h⟩,fun h=>h.2⟩
 | bad=>exact⟨fun h=>h.elim,fun h=>absurd rfl h.1⟩
@[go_sem] theorem OpQ_call {f:FuncId} {xs:List O}:OpQ V dr os keep loc ⟨sl,H⟩ Q (.call f xs)↔CallQ V f (xs.map (O.ev loc sl)) H (CallK V dr os keep loc sl Q):=exists_congr fun _=>after_call
def MetQ (V:VProg) (args:List D) (H:Heap) (K:CR -> Prop):Option FuncId -> Prop
 | some f=>CallQ V f args H K
 | none=>False
def MthQ (V:VProg) (m:String) (args:List D) (H:Heap) (K:CR -> Prop):D -> Prop
 | .ifc t v=>MetQ V (v::args) H K (V.meth t m)
 | _=>False
@[go_sem] theorem MetQ_s {args:List D} {K:CR -> Prop} {f:FuncId}:MetQ V args H K (some f)↔CallQ V f args H K:=Iff.rfl
@[go_sem] theorem MthQ_i {m:String} {args:List D} {K:CR -> Prop} {t:TypeId} {v:D}:MthQ V m args H K (.ifc t v)↔MetQ V (v::args) H K (V.meth t m):=Iff.rfl
def RetK (K:CR -> Prop):CR -> Prop
 | .ret d H=>K (.ret d H)
 | _=>False
def AddK (H0:Heap) (K:CR -> Prop):CR -> Prop
 | .ret d H=>(∃ t,H=H0++t) /\ K (.ret d H)
 | _=>False
@[go_sem] theorem RetK_r {K:CR -> Prop} {d:D}:RetK K (.ret d H)↔K (.ret d H):=Iff.rfl
@[go_sem] theorem AddK_r {H0:Heap} {K:CR -> Prop} {d:D}:AddK H0 K (.ret d H)↔(∃ t,H=H0++t) /\ K (.ret d H):=Iff.rfl
@[go_sem] theorem CallP_ret {d:D}:CallP V dr os keep loc sl Q (.ret d H)↔RunO V dr os (loc++[d]) ⟨setSl sl keep d,H⟩ Q:=Iff.rfl
@[go_sem] theorem CallP_pan {d:D}:CallP V dr os keep loc sl Q (.pan d H)↔Q (.pn d) ⟨sl,H⟩:=Iff.rfl
def GroK (H0:Heap) (K:CR -> Prop):CR -> Prop
 | .ret d H=>growH H0 H=true /\ K (.ret d H)
 | _=>False
@[go_sem] theorem GroK_r {H0:Heap} {K:CR -> Prop} {d:D}:GroK H0 K (.ret d H)↔growH H0 H=true /\ K (.ret d H):=Iff.rfl
@[go_sem] theorem OpQ_calv {x:O} {xs:List O}:OpQ V dr os keep loc ⟨sl,H⟩ Q (.calv x xs)↔CalQ V (xs.map (O.ev loc sl)) H (CallK V dr os keep loc sl Q) (x.ev loc sl):=by
 unfold OpQ
 simp only[step_calv]
 generalize x.ev loc sl=q
 cases q with
 | fn f a b =>
  cases f with
  | func f =>
   by_cases hy:f=yF
   ·simp only[calK,if_pos hy]
    exact⟨fun⟨_,h⟩=>h.elim,fun h=>absurd hy h.1⟩
   ·simp only[calK,if_neg hy]
    exact(exists_congr fun _=>after_call).trans ⟨fun h=>⟨hy,h⟩,fun h=>h.2⟩
  | _=>exact⟨fun⟨_,h⟩=>h.elim,fun h=>h.elim⟩
 | yl y=>exact exists_congr fun _=>after_call
 | _=>exact⟨fun⟨_,h⟩=>h.elim,fun h=>h.elim⟩
theorem CallQ_ret {f:FuncId} {args:List D} {d:D} {H':Heap} (h:Ret V f args H d H') {K:CR -> Prop}:CallQ V f args H K↔K (.ret d H'):=by
 obtain⟨N,h⟩:=h
 constructor
 ·rintro⟨n,h1,h2⟩
  have:=h (max n N) (Nat.le_max_right _ _)
  rw[call_up (Nat.le_max_left n N) h1]at this
  rwa [this]at h2
 ·intro hk
  exact⟨N,by rw[h N (Nat.le_refl _)];nofun,by rw[h N (Nat.le_refl _)];exact hk⟩
theorem Ret.iff_q {f:FuncId} {args:List D} {d:D} {H':Heap}:Ret V f args H d H'↔CallQ V f args H (· = .ret d H'):=by
  constructor
  · intro h;rw[CallQ_ret h]
  · rintro⟨n,h1,h2⟩
    exact .of h2
def ResQ (rs:List RSpec) (K:CR -> Prop):Ex -> St -> Prop
 | .nm,s | .rt,s => ∃ ds,resAll s rs=some ds /\ K (.ret (oneOr ds) s.hp)
 | .pn d,s=>K (.pan d s.hp)
 | _,_=>False
@[go_sem] theorem ResQ_nm {rs:List RSpec} {K:CR -> Prop} {s:St}:ResQ rs K .nm s ↔ ∃ ds,resAll s rs=some ds /\ K (.ret (oneOr ds) s.hp):=Iff.rfl
@[go_sem] theorem ResQ_rt {rs:List RSpec} {K:CR -> Prop} {s:St}:ResQ rs K .rt s ↔ ∃ ds,resAll s rs=some ds /\ K (.ret (oneOr ds) s.hp):=Iff.rfl
@[go_sem] theorem ResQ_pn {rs:List RSpec} {K:CR -> Prop} {d:D} {s:St}:ResQ rs K (.pn d) s↔K (.pan d s.hp):=Iff.rfl
theorem enter_q {vf:VFunc} {args:List D} {K:CR -> Prop} (hl:args.length=vf.npar):(∃ n,enter V (call V n) n vf args H ≠ .bad /\ K (enter V (call V n) n vf args H))↔Run V vf.body ⟨args++uu (vf.nsl-vf.npar),H⟩ (ResQ vf.res K):=by
 rw[<- uu_eq]
 unfold Run
 refine exists_congr fun n => ?_
 rw[enter_eq vf args H hl]
 generalize exec V (call V n) n vf.body _=q
 obtain⟨ex,s⟩:=q
 cases ex with
 | nm=>simp only[entK,ResQ];cases resAll s vf.res<;>simp
 | rt=>simp only[entK,ResQ];cases resAll s vf.res<;>simp
 | pn d=>simp[entK,ResQ]
 | ex id=>simp[entK,ResQ]
 | bad=>simp[entK,ResQ]
theorem call_enter {f:FuncId} {vf:VFunc} (hf:V.fn f=some vf) (hp:vf.pure=false) (hd:vf.dfr=none) (hg:vf.rg=none) {args:List D} (hx:V.ext f args H=none) {n:Nat}:call V (n+1) f args H=enter V (call V n) n vf args H:=by
 simp only[call,hf,hp,hx,enterF,hd,hg]
theorem CallQ.body {f:FuncId} {vf:VFunc} (hf:V.fn f=some vf) (hp:vf.pure=false) {args:List D} {K:CR -> Prop} (hl:args.length=vf.npar) (h:Run V vf.body ⟨args++uu (vf.nsl-vf.npar),H⟩ (ResQ vf.res K)) (hx:V.ext f args H=none:=by first|rfl|assumption) (hd:vf.dfr=none:=by first|rfl|assumption) (hg:vf.rg=none:=by first|rfl|assumption):CallQ V f args H K:=by
 obtain⟨n,h1,h2⟩:=(enter_q hl).2 h
 exact⟨n+1,by rw[call_enter hf hp hd hg hx];exact h1,by rw[call_enter hf hp hd hg hx];exact h2⟩
theorem CallQ.beside {f:FuncId} (hf:V.fn f=none) (hy:f≠yF) {args:List D} {H':Heap} {d:D} (hx:V.ext f args H=some (d,H')) {K:CR -> Prop}:CallQ V f args H K↔K (.ret d H') :=
 CallQ_ret (.of (n:=1) (by simp only[call,hf,hx,if_neg hy]))
def PurQ (V:VProg) (f:FuncId) (ds:List D) (K:PR -> Prop):Prop := ∃ n,pcall V n f ds ≠ .bad /\ K (pcall V n f ds)
theorem PurQ.mono {f:FuncId} {ds:List D} {K K':PR -> Prop} (h:PurQ V f ds K) (hq : ∀ r,K r -> K' r):PurQ V f ds K':=let ⟨n,h1,h2⟩:=h;⟨n,h1,hq _ h2⟩
theorem PRet.iff_q {f:FuncId} {ds:List D} {d:D}:PRet V f ds d↔PurQ V f ds (· = .ret d):=by
  constructor
  · rintro⟨n,h⟩;exact⟨n,by rw[h];nofun,h⟩
  · rintro⟨n,_,h⟩;exact⟨n,h⟩
def PurK (own:Bool) (K:PR -> Prop):CR -> Prop
 | .ret d H => ∃ d',settleO own H d=some d' /\ K (.ret d')
 | .pan d H => ∃ d' H',freeze deep H d=some (d',H') /\ K (.pan d')
 | .bad=>False
@[go_sem] theorem PurK_ret {own:Bool} {K:PR -> Prop} {d:D}:PurK own K (.ret d H) ↔ ∃ d',settleO own H d=some d' /\ K (.ret d'):=Iff.rfl
@[go_sem] theorem PurK_pan {own:Bool} {K:PR -> Prop} {d:D}:PurK own K (.pan d H) ↔ ∃ d' H',freeze deep H d=some (d',H') /\ K (.pan d'):=Iff.rfl
theorem pureRun_q {n:Nat} {vf:VFunc} {ds:List D} {K:PR -> Prop} (h:enterF V (call V n) n vf ds [] ≠ .bad) (hk:PurK vf.own K (enterF V (call V n) n vf ds [])):pureRun V (call V n) n vf ds ≠ .bad /\ K (pureRun V (call V n) n vf ds):=by
 unfold pureRun
 generalize enterF V (call V n) n vf ds []=r at h hk
 cases r with
 | bad=>exact absurd rfl h
 | ret d H =>
  obtain⟨d',h2,h3⟩:=hk
  simp only[h2]
  exact⟨nofun,h3⟩
 | pan d H =>
  obtain⟨d',H',h2,h3⟩:=hk
  simp only[h2]
  exact⟨nofun,h3⟩
theorem PurQ.body {f:FuncId} {vf:VFunc} (hf:V.fn f=some vf) {ds:List D} {K:PR -> Prop} (hl:ds.length=vf.npar) (h:Run V vf.body ⟨ds++uu (vf.nsl-vf.npar),[]⟩ (ResQ vf.res (PurK vf.own K))) (hx:V.pext f ds=none:=by first|rfl|assumption) (hd:vf.dfr=none:=by first|rfl|assumption) (hg:vf.rg=none:=by first|rfl|assumption):PurQ V f ds K:=by
 obtain⟨n,h1,h2⟩:=(enter_q hl).2 h
 refine⟨n+1, ?_⟩
 simp only[pcall,hf,pureR,hx]
 have e:enterF V (call V n) n vf ds []=enter V (call V n) n vf ds []:=by simp only[enterF,hd,hg]
 exact pureRun_q (by rw[e];exact h1) (by rw[e];exact h2)
theorem PRet.body {f:FuncId} {vf:VFunc} (hf:V.fn f=some vf) {ds:List D} {d:D} (hl:ds.length=vf.npar) (h:Run V vf.body ⟨ds++uu (vf.nsl-vf.npar),[]⟩ (ResQ vf.res (PurK vf.own (· = .ret d)))) (hx:V.pext f ds=none:=by first|rfl|assumption) (hd:vf.dfr=none:=by first|rfl|assumption) (hg:vf.rg=none:=by first|rfl|assumption):PRet V f ds d :=
  PRet.iff_q.2 (.body hf hl h hx hd hg)
def PlaceK (own:Bool) (H1:Heap) (K:CR -> Prop):PR -> Prop
 | .ret d=>K (.ret (placeO own d H1).1 (placeO own d H1).2)
 | .pan d=>K (.pan d H1)
 | .bad=>False
def PlaceB (vf:VFunc) (H H1:Heap) (K:CR -> Prop):PR -> Prop
 | .ret d=>K (.ret (placeO vf.own d (backH vf.fre d H H1)).1 (placeO vf.own d (backH vf.fre d H H1)).2)
 | .pan d=>K (.pan d H1)
 | .bad=>False
theorem CallQ.pure0 {f:FuncId} {vf:VFunc} (hf:V.fn f=some vf) (hp:vf.pure=true) {args ds:List D} {H1:Heap} (hfr:freezeL deep H args=some (ds,H1)) {K:CR -> Prop} (h:PurQ V f ds (PlaceB vf H H1 K)):CallQ V f args H K:=by
 obtain⟨n,h1,h2⟩:=h
 cases n with
 | zero=>exact absurd rfl h1
 | succ n =>
  refine⟨n+1, ?_⟩
  simp only[pcall,hf]at h1 h2
  simp only[call,hf,hp,hfr]
  generalize pureR V (call V n) n f vf ds=r at h1 h2
  cases r with
  | ret d=>exact⟨nofun,h2⟩
  | pan d=>exact⟨nofun,h2⟩
  | bad=>exact absurd rfl h1
def LeaveQ (V:VProg) (vf:VFunc) (q:Dfr) (base:Nat) (cs:List D) (K:CR -> Prop) (x:D) (s2:St):Prop :=
 Run V q.body ⟨(cs++uu (q.ns-cs.length)).set q.rk x,s2.hp⟩ fun ex s3=>(ex = .nm \/ ex = .rt) /\ base <= s3.hp.length /\ ∃ ds,resAll ⟨s2.sl,s3.hp⟩ vf.res=some ds /\ K (.ret (oneOr ds) s3.hp)
def MidQ (V:VProg) (vf:VFunc) (q:Dfr) (base:Nat) (cs:List D) (K:CR -> Prop):Ex -> St -> Prop
 | .nm,s2 | .rt,s2=>LeaveQ V vf q base cs K .ni s2
 | .pn x,s2=>LeaveQ V vf q base cs K x s2
 | _,_=>False
def PreQ (V:VProg) (vf:VFunc) (q:Dfr) (base:Nat) (K:CR -> Prop):Ex -> St -> Prop
 | .nm,s1=>s1.sl.all D.noBx=true /\ Run V vf.body s1 (MidQ V vf q base ((q.caps.map O.s).map (O.ev [] s1.sl)) K)
 | _,_=>False
@[go_sem] theorem MidQ_nm {vf:VFunc} {q:Dfr} {base:Nat} {cs:List D} {K:CR -> Prop} {s:St}:MidQ V vf q base cs K .nm s↔LeaveQ V vf q base cs K .ni s:=Iff.rfl
@[go_sem] theorem MidQ_rt {vf:VFunc} {q:Dfr} {base:Nat} {cs:List D} {K:CR -> Prop} {s:St}:MidQ V vf q base cs K .rt s↔LeaveQ V vf q base cs K .ni s:=Iff.rfl
@[go_sem] theorem MidQ_pn {vf:VFunc} {q:Dfr} {base:Nat} {cs:List D} {K:CR -> Prop} {x:D} {s:St}:MidQ V vf q base cs K (.pn x) s↔LeaveQ V vf q base cs K x s:=Iff.rfl
@[go_sem] theorem PreQ_nm {vf:VFunc} {q:Dfr} {base:Nat} {K:CR -> Prop} {s:St}:PreQ V vf q base K .nm s↔s.sl.all D.noBx=true /\ Run V vf.body s (MidQ V vf q base ((q.caps.map O.s).map (O.ev [] s.sl)) K):=Iff.rfl
def InvQ (P:St -> Prop) (Q:Ex -> St -> Prop):Ex -> St -> Prop
 | .nm,s=>P s
 | .ex id,s=>Q (.ex id) s
 | .rt,s=>Q .rt s
 | .pn d,s=>Q (.pn d) s
 | .bad,_=>False
@[go_sem] theorem InvQ_nm {P:St -> Prop} {s:St}:InvQ P Q .nm s↔P s:=Iff.rfl
@[go_sem] theorem InvQ_ex {P:St -> Prop} {id:Nat} {s:St}:InvQ P Q (.ex id) s↔Q (.ex id) s:=Iff.rfl
@[go_sem] theorem InvQ_rt {P:St -> Prop} {s:St}:InvQ P Q .rt s↔Q .rt s:=Iff.rfl
@[go_sem] theorem InvQ_pn {P:St -> Prop} {d:D} {s:St}:InvQ P Q (.pn d) s↔Q (.pn d) s:=Iff.rfl
theorem Run.loop {c:VCode} {st:St} (I:Nat -> St -> Prop) (k:Nat) (h0:I k st) (h : ∀ i s,I i s -> Run V c s (InvQ (fun s' => ∃ j,j<i /\ I j s') Q)):Run V (.loop c) st Q:=by
 induction k using Nat.strongRecOn generalizing st with
 | ind k ih =>
  rw[Run_loop]
  refine(h k st h0).mono fun ex s hq => ?_
  cases ex with
  | nm=>obtain⟨j,hj,hI⟩:=hq;exact ih j hj hI
  | bad=>exact hq.elim
  | _=>exact hq
theorem Run.up {c:VCode} {st:St} (I:Nat -> St -> Prop) (n:Nat) (h0:I 0 st) (h : ∀ i s,i <= n -> I i s -> Run V c s (InvQ (fun s'=>i<n /\ I (i+1) s') Q)):Run V (.loop c) st Q:=by
 refine Run.loop (fun j s=>j <= n /\ I (n-j) s) n ⟨Nat.le_refl _,by rwa [Nat.sub_self]⟩ (fun j s ⟨hj,hI⟩=>(h _ s (Nat.sub_le _ _) hI).mono fun ex s' hq => ?_)
 cases ex with
 | nm =>
  obtain⟨hlt,hI'⟩:=hq
  refine⟨j-1,by omega,by omega, ?_⟩
  have:n-(j-1)=n-j+1:=by omega
  rw[this];exact hI'
 | bad=>exact hq.elim
 | _=>exact hq
end
section
variable {H:Heap}
@[go_sem] theorem apart_nil:apart []=true:=rfl
@[go_sem] theorem mus_b {x:Bool}:mus (.b x)=[]:=rfl
@[go_sem] theorem mus_i {k:IntKind} {x:Int}:mus (.i k x)=[]:=rfl
@[go_sem] theorem mus_s {x:List UInt8}:mus (.s x)=[]:=rfl
@[go_sem] theorem mus_nil:mus .nil=[]:=rfl
@[go_sem] theorem mus_z:mus .z=[]:=rfl
@[go_sem] theorem mus_im {w:Nat} {r:List (List D)}:mus (.im w r)=[]:=rfl
@[go_sem] theorem mus_ow {w:Nat} {r:List (List D)}:mus (.ow w r)=[]:=rfl
@[go_sem] theorem mus_mu {a n o l:Nat}:mus (.mu a n o l)=[a]:=rfl
@[go_sem] theorem mus_ag {l:List D}:mus (.ag l)=l.flatMap muOf:=rfl
@[go_sem] theorem mus_tu {l:List D}:mus (.tu l)=l.flatMap mus1:=rfl
@[go_sem] theorem mus1_b {x:Bool}:mus1 (.b x)=[]:=rfl
@[go_sem] theorem mus1_i {k:IntKind} {x:Int}:mus1 (.i k x)=[]:=rfl
@[go_sem] theorem mus1_s {x:List UInt8}:mus1 (.s x)=[]:=rfl
@[go_sem] theorem mus1_nil:mus1 .nil=[]:=rfl
@[go_sem] theorem mus1_z:mus1 .z=[]:=rfl
@[go_sem] theorem mus1_im {w:Nat} {r:List (List D)}:mus1 (.im w r)=[]:=rfl
@[go_sem] theorem mus1_mu {a n o l:Nat}:mus1 (.mu a n o l)=[a]:=rfl
@[go_sem] theorem mus1_ag {l:List D}:mus1 (.ag l)=l.flatMap muOf:=rfl
@[go_sem] theorem muOf_b {x:Bool}:muOf (.b x)=[]:=rfl
@[go_sem] theorem muOf_i {k:IntKind} {x:Int}:muOf (.i k x)=[]:=rfl
@[go_sem] theorem muOf_s {x:List UInt8}:muOf (.s x)=[]:=rfl
@[go_sem] theorem muOf_nil:muOf .nil=[]:=rfl
@[go_sem] theorem muOf_z:muOf .z=[]:=rfl
@[go_sem] theorem muOf_im {w:Nat} {r:List (List D)}:muOf (.im w r)=[]:=rfl
@[go_sem] theorem muOf_mu {a n o l:Nat}:muOf (.mu a n o l)=[a]:=rfl
@[go_sem] theorem settle_tu {l:List D}:settle H (.tu l)=(mapO (settle1 H) l).map .tu:=rfl
@[go_sem] theorem settle_ag {l:List D}:settle H (.ag l)=(mapO (settleC H) l).map .ag:=rfl
@[go_sem] theorem settle1_ag {l:List D}:settle1 H (.ag l)=(mapO (settleC H) l).map .ag:=rfl
@[go_sem] theorem settle_b {x:Bool}:settle H (.b x)=some (.b x):=rfl
@[go_sem] theorem settle_i {k:IntKind} {x:Int}:settle H (.i k x)=some (.i k x):=rfl
@[go_sem] theorem settle_s {x:List UInt8}:settle H (.s x)=some (.s x):=rfl
@[go_sem] theorem settle_nil:settle H .nil=some .nil:=rfl
@[go_sem] theorem settle_z:settle H .z=some .z:=rfl
@[go_sem] theorem settle_im {w:Nat} {r:List (List D)}:settle H (.im w r)=some (.im w r):=rfl
@[go_sem] theorem settle_mu {a n o l:Nat}:settle H (.mu a n o l)=settleC H (.mu a n o l):=rfl
@[go_sem] theorem settle1_b {x:Bool}:settle1 H (.b x)=some (.b x):=rfl
@[go_sem] theorem settle1_i {k:IntKind} {x:Int}:settle1 H (.i k x)=some (.i k x):=rfl
@[go_sem] theorem settle1_s {x:List UInt8}:settle1 H (.s x)=some (.s x):=rfl
@[go_sem] theorem settle1_nil:settle1 H .nil=some .nil:=rfl
@[go_sem] theorem settle1_z:settle1 H .z=some .z:=rfl
@[go_sem] theorem settle1_im {w:Nat} {r:List (List D)}:settle1 H (.im w r)=some (.im w r):=rfl
@[go_sem] theorem settle1_mu {a n o l:Nat}:settle1 H (.mu a n o l)=settleC H (.mu a n o l):=rfl
@[go_sem] theorem settleC_b {x:Bool}:settleC H (.b x)=some (.b x):=rfl
@[go_sem] theorem settleC_i {k:IntKind} {x:Int}:settleC H (.i k x)=some (.i k x):=rfl
@[go_sem] theorem settleC_s {x:List UInt8}:settleC H (.s x)=some (.s x):=rfl
@[go_sem] theorem settleC_nil:settleC H .nil=some .nil:=rfl
@[go_sem] theorem settleC_z:settleC H .z=some .z:=rfl
@[go_sem] theorem settleC_im {w:Nat} {r:List (List D)}:settleC H (.im w r)=some (.im w r):=rfl
@[go_sem] theorem mapO_nil {α β:Type} {f:α -> Option β}:mapO f []=some []:=rfl
def mapOK {β:Type} (r:Option (List β)):Option β -> Option (List β)
 | some y=>r.map (y :: ·)
 | none=>none
@[go_sem] theorem mapOK_s {β:Type} {y:β} {ys:List β}:mapOK (some ys) (some y)=some (y::ys):=rfl
attribute [go_sem] List.flatMap_cons List.flatMap_nil
@[go_sem] theorem ex_eq {α:Type} {a:α} {p:α -> Prop}:(∃ x,a=x /\ p x)↔p a:=⟨fun⟨_,e,h⟩=>by cases e;exact h,fun h=>⟨a,rfl,h⟩⟩
end
theorem beqt (x:Bool):(x==true)=x:=by cases x<;>rfl
theorem beqf (x:Bool):(x==false) = !x:=by cases x<;>rfl
attribute [go_sem] ixaK_s rd_ixa wr_ixa rd_cpl wr_cpl rd_calx wr_calx rd_calvx wr_calvx rd_callp wr_callp rd_stk wr_stk rd_gia wr_gia
attribute [go_sem] fits_none fits_f fits_t ldh_hp rd_ldh wr_ldh rd_mov wr_mov rd_pick wr_pick rd_lal wr_lal rd_lbx wr_lbx rd_hal wr_hal rd_hbx wr_hbx rd_haa wr_haa rd_lfa wr_lfa rd_lia wr_lia rd_lld wr_lld rd_lst wr_lst rd_fad wr_fad rd_bin wr_bin rd_eqv wr_eqv rd_un wr_un rd_cvi wr_cvi rd_cvs wr_cvs rd_csb wr_csb rd_agc wr_agc rd_bsl wr_bsl rd_bsv wr_bsv rd_mks wr_mks rd_ixs wr_ixs rd_fld wr_fld rd_ext wr_ext rd_mkf wr_mkf rd_mkm wr_mkm rd_mki wr_mki rd_tas wr_tas rd_nck wr_nck rd_mx wr_mx rd_mn wr_mn rd_call wr_call rd_calv wr_calv rd_inv wr_inv rd_pan wr_pan rd_ld wr_ld rd_ldq wr_ldq rd_iad wr_iad rd_iar wr_iar rd_cap wr_cap rd_sli wr_sli rd_sla wr_sla rd_lk wr_lk rd_cbs wr_cbs rd_st wr_st rd_app wr_app rd_cpy wr_cpy rd_mup wr_mup rd_len0 rd_len1 rd_len2 wr_len un_nil un_z un_np un_mnil un_nf un_ni un_u un_im un_sv un_ip un_s un_hp un_mu un_ap ov_nil
attribute [go_sem] ev_l ev_s ev_c ab_sl ab_lo abS_bx abL_lp ofO_some ofP_some ofH_some pick_t pick_f lfaR_s liaR_s lldR_s lldB_bx lldC_s lstR_s lstB_bx lstC_s fad_hp fad_ap fad_ip ldR_s ld_ip ld_hp hpL_bx val_t val_f stR_s bin_add bin_sub bin_mul bin_lss bin_leq bin_gtr bin_geq bin_eql bin_neq bins_neq eqv_b un_not un_neg cvi_i cvs_s fill_nil fill_cons fillK_s fillP_s len_s len_nil len_z len_im len_sv len_mu fldK_s ext_tu nck_hp nck_aa nck_ip nck_ap mx_two cells_ag cells_s cells_i cells_b cells_nil cells_z cells_im cells_sv cells_mu cells_hp cells_mp cells_fn cells_np res_nil res_cons resK_s resL_s rs_s rs_bx rsB_bx one_one one_two setSl cut put
attribute [go_sem] List.getD_cons_zero List.getD_cons_succ List.getD_nil List.getElem?_cons_zero List.getElem?_cons_succ List.getElem?_nil List.set_cons_zero List.set_cons_succ List.nil_append List.cons_append List.append_assoc List.append_nil List.length_cons List.length_nil List.drop_succ_cons List.drop_zero List.drop_nil List.take_succ_cons List.take_zero List.take_nil List.map_cons List.map_nil List.all_cons List.all_nil Bool.and_true Bool.true_and Bool.and_false Bool.false_and Nat.le_refl Nat.zero_add if_true if_false decide_true decide_false Bool.not_true Bool.not_false Bool.false_eq_true Bool.true_eq_false Nat.add_zero Int.cast_ofNat_Int Option.map_some Option.map_none Nat.zero_mul Option.some.injEq beq_self_eq_true beqt beqf Bool.not_eq_eq_eq_not decide_eq_true_eq decide_eq_false_iff_not true_implies false_implies true_and and_true forall_const
abbrev Cl:=FuncId -> List D -> Heap -> CR
def kK_mov (x:O) (_:VProg) (_:Cl) (loc:List D) (st:St):R :=
 let ev:=O.ev loc st.sl
 .v (ev x) st
def kK_pick (c:O) (a:O) (b:O) (_:VProg) (_:Cl) (loc:List D) (st:St):R :=
 let ev:=O.ev loc st.sl
 ofO st (pickD (ev c) (ev a) (ev b))
def kK_lal (zs:List D) (_:VProg) (_:Cl) (_:List D) (st:St):R :=
 .v (.bx zs) st
def kK_lbx (x:O) (n:Nat) (_:VProg) (_:Cl) (loc:List D) (st:St):R :=
 let ev:=O.ev loc st.sl
 ofO st (((ev x).cellsN n).map .bx)
def kK_hal (t:Nat) (zs:List D) (_:VProg) (_:Cl) (_:List D) (st:St):R :=
 .v (.hp st.hp.length 0) ⟨st.sl,st.hp++[.hb t zs]⟩
def kK_hbx (t:Nat) (x:O) (n:Nat) (_:VProg) (_:Cl) (loc:List D) (st:St):R :=
 let ev:=O.ev loc st.sl
 ofP st (((ev x).cellsN n).map fun cs=>(.hp st.hp.length 0,st.hp++[.hb t cs]))
def kK_haa (w:Nat) (zs:List (List D)) (p:Bool) (_:VProg) (_:Cl) (_:List D) (st:St):R :=
 .v (.aa st.hp.length) ⟨st.sl,st.hp++[.ar w zs (some zs.length) p false]⟩
def kK_lfa (a:AB) (off:Nat) (_:VProg) (_:Cl) (loc:List D) (st:St):R :=
 match a.ev loc st.sl with
  | some (k,o) => .v (.lp k (o+off)) st
  | none => .bad
def kK_lia (a:AB) (ix:O) (n:Nat) (w:Nat) (_:VProg) (_:Cl) (loc:List D) (st:St):R :=
 let ev:=O.ev loc st.sl
 match a.ev loc st.sl with
  | some (k,o)=>match ixOf (ev ix) n with
   | some j => .v (.lp k (o+j*w)) st
   | none => .bad
  | none => .bad
def kK_lld (a:AB) (n:Nat) (agg:Bool) (_:VProg) (_:Cl) (loc:List D) (st:St):R :=
 match a.ev loc st.sl with
  | some (k,o)=>match boxAt st k with
   | some cs=>match cut cs o n with
    | some r=>ofO st (val agg r)
    | none => .bad
   | none => .bad
  | none => .bad
def kK_lst (a:AB) (x:O) (n:Nat) (_:VProg) (_:Cl) (loc:List D) (st:St):R :=
 let ev:=O.ev loc st.sl
 match a.ev loc st.sl with
  | some (k,o)=>match boxAt st k with
   | some cs=>match (ev x).cellsN n with
    | some vs=>match put cs o vs with
     | some cs' => .v .u ⟨st.sl.set k (.bx cs'),st.hp⟩
     | none => .bad
    | none => .bad
   | none => .bad
  | none => .bad
def kK_fad (x:O) (off:Nat) (_:VProg) (_:Cl) (loc:List D) (st:St):R :=
 let ev:=O.ev loc st.sl
 ofO st (fadD (ev x) off)
def kK_iad (x:O) (ix:O) (w:Nat) (_:VProg) (_:Cl) (loc:List D) (st:St):R :=
 let ev:=O.ev loc st.sl
 ofO st (iadD st.hp (ev x) (ev ix) w)
def kK_iar (x:O) (ix:O) (n:Nat) (w:Nat) (_:VProg) (_:Cl) (loc:List D) (st:St):R :=
 let ev:=O.ev loc st.sl
 ofO st (iarD st.hp (ev x) (ev ix) n w)
def kK_ld (x:O) (n:Nat) (agg:Bool) (_:VProg) (_:Cl) (loc:List D) (st:St):R :=
 let ev:=O.ev loc st.sl
 match ldAt st.hp (ev x) n with
  | some r=>ofO st (val agg r)
  | none => .bad
def kK_ldq (x:O) (n:Nat) (agg:Bool) (_:VProg) (_:Cl) (loc:List D) (st:St):R :=
 let ev:=O.ev loc st.sl
 match ldAt st.hp (ev x) n with
  | some r=>ofO st (val agg r)
  | none => .bad
def kK_ldh (x:O) (n:Nat) (agg:Bool) (_:VProg) (_:Cl) (loc:List D) (st:St):R :=
 let ev:=O.ev loc st.sl
 match ldhD st.hp (ev x) n with
  | some r=>ofO st (val agg r)
  | none => .bad
def kK_st (x:O) (v:O) (n:Nat) (_:VProg) (_:Cl) (loc:List D) (st:St):R :=
 let ev:=O.ev loc st.sl
 match (ev v).cellsN n with
  | some vs=>ofH st (stAt st.hp (ev x) vs)
  | none => .bad
def kK_bin (op:BinOp) (x:O) (y:O) (_:VProg) (_:Cl) (loc:List D) (st:St):R :=
 let ev:=O.ev loc st.sl
 ofO st (bin op (ev x) (ev y))
def kK_eqv (neg:Bool) (k:EK) (x:O) (y:O) (_:VProg) (_:Cl) (loc:List D) (st:St):R :=
 let ev:=O.ev loc st.sl
 ofO st (eqvD neg k (ev x) (ev y))
def kK_un (op:UnOp) (x:O) (_:VProg) (_:Cl) (loc:List D) (st:St):R :=
 let ev:=O.ev loc st.sl
 ofO st (un op (ev x))
def kK_cvi (k:IntKind) (x:O) (_:VProg) (_:Cl) (loc:List D) (st:St):R :=
 let ev:=O.ev loc st.sl
 ofO st (cviD k (ev x))
def kK_cvs (x:O) (_:VProg) (_:Cl) (loc:List D) (st:St):R :=
 let ev:=O.ev loc st.sl
 ofO st (cvsD (ev x))
def kK_cbs (x:O) (_:VProg) (_:Cl) (loc:List D) (st:St):R :=
 let ev:=O.ev loc st.sl
 ofO st (cbsD st.hp (ev x))
def kK_csb (x:O) (_:VProg) (_:Cl) (loc:List D) (st:St):R :=
 let ev:=O.ev loc st.sl
 ofO st (csbD (ev x))
def kK_agc (zs:List D) (parts:List (Nat×Nat×O)) (_:VProg) (_:Cl) (loc:List D) (st:St):R :=
 let ev:=O.ev loc st.sl
 ofO st ((fillC zs (parts.map fun(off,n,x)=>(off,n,ev x))).map .ag)
def kK_bsl (w:Nat) (len:Nat) (zs:List D) (parts:List (Nat×O)) (p:Bool) (_:VProg) (_:Cl) (loc:List D) (st:St):R :=
 let ev:=O.ev loc st.sl
 ofP st (bslD st.hp w len zs (parts.map fun(i,x)=>(i,ev x)) p)
def kK_bsv (w:Nat) (len:Nat) (zs:List D) (parts:List (Nat×O)) (_:VProg) (_:Cl) (loc:List D) (st:St):R :=
 let ev:=O.ev loc st.sl
 ofO st (bsvD w len zs (parts.map fun(i,x)=>(i,ev x)))
def kK_len (k:Nat) (x:O) (_:VProg) (_:Cl) (loc:List D) (st:St):R :=
 let ev:=O.ev loc st.sl
 ofO st (lenD st.hp k (ev x))
def kK_cap (x:O) (_:VProg) (_:Cl) (loc:List D) (st:St):R :=
 let ev:=O.ev loc st.sl
 ofO st (capD st.hp (ev x))
def kK_app (x:O) (y:O) (w:Nat) (bytes:Nat) (p:Bool) (_:VProg) (_:Cl) (loc:List D) (st:St):R :=
 let ev:=O.ev loc st.sl
 ofP st (appD st.hp (ev x) (ev y) w bytes p)
def kK_cpy (x:O) (y:O) (w:Nat) (_:VProg) (_:Cl) (loc:List D) (st:St):R :=
 let ev:=O.ev loc st.sl
 ofP st (cpyD st.hp (ev x) (ev y) w)
def kK_mks (l:O) (c:O) (w:Nat) (bytes:Nat) (zs:List D) (p:Bool) (_:VProg) (_:Cl) (loc:List D) (st:St):R :=
 let ev:=O.ev loc st.sl
 ofP st (mksD st.hp (ev l) (ev c) w bytes zs p)
def kK_sli (str:Bool) (w:Nat) (x:O) (lo:Option O) (hi:Option O) (mx:Option O) (_:VProg) (_:Cl) (loc:List D) (st:St):R :=
 let ev:=O.ev loc st.sl
 ofO st (match str with
  | true=>sliceS (ev x) (lo.map ev) (hi.map ev) (mx.map ev)
  | false=>sliceD st.hp w (ev x) (lo.map ev) (hi.map ev) (mx.map ev))
def kK_sla (x:O) (n:Nat) (w:Nat) (lo:Option O) (hi:Option O) (_:VProg) (_:Cl) (loc:List D) (st:St):R :=
 let ev:=O.ev loc st.sl
 ofO st (sliceA st.hp (ev x) n w (lo.map ev) (hi.map ev))
def kK_ixs (x:O) (ix:O) (_:VProg) (_:Cl) (loc:List D) (st:St):R :=
 let ev:=O.ev loc st.sl
 ofO st (ixsD (ev x) (ev ix))
def kK_fld (x:O) (off:Nat) (n:Nat) (agg:Bool) (_:VProg) (_:Cl) (loc:List D) (st:St):R :=
 let ev:=O.ev loc st.sl
 ofO st (fldD (ev x) off n agg)
def kK_ext (x:O) (j:Nat) (_:VProg) (_:Cl) (loc:List D) (st:St):R :=
 let ev:=O.ev loc st.sl
 ofO st (extD (ev x) j)
def kK_mkf (f:Fn) (first:List O) (captured:List O) (_:VProg) (_:Cl) (loc:List D) (st:St):R :=
 let ev:=O.ev loc st.sl
 .v (.fn f (first.map ev) (captured.map ev)) st
def kK_mkm  (_:VProg) (_:Cl) (_:List D) (st:St):R :=
 .v (.mp st.hp.length) ⟨st.sl,st.hp++[.mp []]⟩
def kK_lk (kk:KK) (m:O) (k:O) (ok:Bool) (zero:D) (_:VProg) (_:Cl) (loc:List D) (st:St):R :=
 let ev:=O.ev loc st.sl
 ofO st (lkD st.hp kk (ev m) (ev k) ok zero)
def kK_mup (kk:KK) (m:O) (k:O) (v:O) (_:VProg) (_:Cl) (loc:List D) (st:St):R :=
 let ev:=O.ev loc st.sl
 ofH st (mupD st.hp kk (ev m) (ev k) (ev v))
def kK_mki (t:TypeId) (x:O) (_:VProg) (_:Cl) (loc:List D) (st:St):R :=
 let ev:=O.ev loc st.sl
 .v (.ifc t (ev x)) st
def kK_tas (x:O) (t:TypeId) (ok:Bool) (zero:D) (_:VProg) (_:Cl) (loc:List D) (st:St):R :=
 let ev:=O.ev loc st.sl
 ofO st (tasD (ev x) t ok zero)
def kK_nck (x:O) (_:VProg) (_:Cl) (loc:List D) (st:St):R :=
 let ev:=O.ev loc st.sl
 ofO st (nckD (ev x))
def kK_mx (xs:List O) (_:VProg) (_:Cl) (loc:List D) (st:St):R :=
 let ev:=O.ev loc st.sl
 ofO st (foldD max2 (xs.map ev))
def kK_mn (xs:List O) (_:VProg) (_:Cl) (loc:List D) (st:St):R :=
 let ev:=O.ev loc st.sl
 ofO st (foldD min2 (xs.map ev))
def kK_call (f:FuncId) (args:List O) (_:VProg) (cl:Cl) (loc:List D) (st:St):R :=
 let ev:=O.ev loc st.sl
 (cl f (args.map ev) st.hp).toR st.sl
def kK_calv (x:O) (args:List O) (_:VProg) (cl:Cl) (loc:List D) (st:St):R :=
 let ev:=O.ev loc st.sl
 match ev x with
  | .fn (.func f) first captured=>if f=yF then .bad else(cl f (first++args.map ev++captured) st.hp).toR st.sl
  | .yl y=>(cl yF (.yl y::args.map ev) st.hp).toR st.sl
  | _ => .bad
def kK_inv (x:O) (m:String) (args:List O) (V:VProg) (cl:Cl) (loc:List D) (st:St):R :=
 let ev:=O.ev loc st.sl
 match ev x with
  | .ifc t v=>match V.meth t m with
   | some f=>(cl f (v::args.map ev) st.hp).toR st.sl
   | none => .bad
  | _ => .bad
def kK_pan (x:O) (_:VProg) (_:Cl) (loc:List D) (st:St):R :=
 let ev:=O.ev loc st.sl
 panD (ev x) st.hp
def kK_stk  (_:VProg) (_:Cl) (_:List D) (_:St):R :=
 .bad
def kK_ixa (x:O) (ix:O) (n:Nat) (w:Nat) (agg:Bool) (_:VProg) (_:Cl) (loc:List D) (st:St):R :=
 let ev:=O.ev loc st.sl
 ofO st (ixaD (ev x) (ev ix) n w agg)
def kK_cpl (f:FuncId) (args:List O) (V:VProg) (cl:Cl) (loc:List D) (st:St):R :=
 let ev:=O.ev loc st.sl
 match V.fn f with
  | some vf=>match vf.pure && !vf.own&&freeL (args.map ev)with
   | true=>(rets (cl f (args.map ev) st.hp)).toR st.sl
   | false => .bad
  | none => .bad
def kK_calx (f:FuncId) (args:List O) (_:VProg) (cl:Cl) (loc:List D) (st:St):R :=
 let ev:=O.ev loc st.sl
 (adds st.hp (cl f (args.map ev) st.hp)).toR st.sl
def kK_calvx (x:O) (args:List O) (_:VProg) (cl:Cl) (loc:List D) (st:St):R :=
 let ev:=O.ev loc st.sl
 match ev x with
  | .fn (.func f) first captured=>if f=yF then .bad else(gros st.hp (cl f (first++args.map ev++captured) st.hp)).toR st.sl
  | _ => .bad
def kK_gia (g:Nat) (ix:O) (n:Nat) (w:Nat) (V:VProg) (_:Cl) (loc:List D) (st:St):R :=
 let ev:=O.ev loc st.sl
 ofO st (giaD (V.glob g) (ev ix) n w)
def kK_callp (f:FuncId) (args:List O) (_:VProg) (cl:Cl) (loc:List D) (st:St):R :=
 let ev:=O.ev loc st.sl
 (cl f (args.map ev) st.hp).toR st.sl
def stepK (op:VOp):VProg -> Cl -> List D -> St -> R:=VOp.casesOn (motive:=fun _=>VProg -> Cl -> List D -> St -> R) op kK_mov kK_pick kK_lal kK_lbx kK_hal kK_hbx kK_haa kK_lfa kK_lia kK_lld kK_lst kK_fad kK_iad kK_iar kK_ld kK_ldq kK_ldh kK_st kK_bin kK_eqv kK_un kK_cvi kK_cvs kK_cbs kK_csb kK_agc kK_bsl kK_bsv kK_len kK_cap kK_app kK_cpy kK_mks kK_sli kK_sla kK_ixs kK_fld kK_ext kK_mkf kK_mkm kK_lk kK_mup kK_mki kK_tas kK_nck kK_mx kK_mn kK_call kK_calv kK_inv kK_pan kK_stk kK_ixa kK_cpl kK_calx kK_calvx kK_gia kK_callp
theorem stepK_eq (V:VProg) (cl:Cl) (loc:List D) (st:St) (op:VOp):stepK op V cl loc st=step V cl loc st op:=by cases op<;>rfl
def fK_n {α β:Type} (k:List α -> β):β:=k []
def fK_c {α β:Type} (a:α) (_:List α) (ih:(List α -> β) -> β) (k:List α -> β):β:=ih fun r=>k (a::r)
noncomputable def forceK {α β:Type} (l:List α):(List α -> β) -> β:=List.rec (motive:=fun _=>(List α -> β) -> β) fK_n fK_c l
theorem forceK_eq {α β:Type} : ∀ (l:List α) (k:List α -> β),forceK l k=k l:=by
 intro l
 induction l with
 | nil=>intro k;rfl
 | cons a l ih=>intro k;exact ih fun r=>k (a::r)
noncomputable def forceS {β:Type} (st:St) (k:St -> β):β:=forceK st.sl fun sl=>forceK st.hp fun hp=>k ⟨sl,hp⟩
theorem forceS_eq {β:Type} (st:St) (k:St -> β):forceS st k=k st:=by
 unfold forceS
 rw[forceK_eq,forceK_eq]
def nK_n {α β:Type} (d:α) (k:List α -> β):β:=k [d]
def nK_c {α β:Type} (a:α) (_:List α) (ih:α -> (List α -> β) -> β) (d:α) (k:List α -> β):β:=ih d fun r=>k (a::r)
noncomputable def snocK {α β:Type} (l:List α):α -> (List α -> β) -> β:=List.rec (motive:=fun _=>α -> (List α -> β) -> β) nK_n nK_c l
theorem snocK_eq {α β:Type} (d:α) : ∀ (l:List α) (k:List α -> β),snocK l d k=k (l++[d]):=by
 intro l
 induction l with
 | nil=>intro k;rfl
 | cons a l ih=>intro k;exact ih fun r=>k (a::r)
noncomputable def keepK {β:Type} (sl:List D) (keep:Option Nat) (d:D) (k:List D -> β):β:=match keep with
 | none=>k sl
 | some i=>forceK (sl.set i d) k
theorem keepK_eq {β:Type} (sl:List D) (keep:Option Nat) (d:D) (k:List D -> β):keepK sl keep d k=k (setSl sl keep d):=by
 unfold keepK setSl
 cases keep with
 | none=>rfl
 | some i=>exact forceK_eq _ _
def oK_nil (_:VProg) (_:Cl) (_:Option (Bs×Bool)) (_:List D) (st:St):Ex×St:=(.nm,st)
noncomputable def oK_v (o:VOper) (ih:VProg -> Cl -> Option (Bs×Bool) -> List D -> St -> Ex×St) (V:VProg) (cl:Cl) (dr:Option (Bs×Bool)) (loc:List D) (st:St):R -> Ex×St
 | .v d st'=>snocK loc d fun loc'=>keepK st'.sl o.keep d fun sl'=>ih V cl dr loc' ⟨sl',st'.hp⟩
 | .p d hp=>match dr.isNone||o.op.pans with
  | true=>(.pn d,⟨st.sl,hp⟩)
  | false=>(.bad,st)
 | .bad=>(.bad,st)
noncomputable def oK_f (o:VOper) (ih:VProg -> Cl -> Option (Bs×Bool) -> List D -> St -> Ex×St) (V:VProg) (cl:Cl) (dr:Option (Bs×Bool)) (loc:List D) (st:St):Bool -> Ex×St
 | true=>oK_v o ih V cl dr loc st (stepK o.op V cl loc st)
 | false=>(.bad,st)
noncomputable def oK_w (o:VOper) (ih:VProg -> Cl -> Option (Bs×Bool) -> List D -> St -> Ex×St) (V:VProg) (cl:Cl) (dr:Option (Bs×Bool)) (loc:List D) (st:St):Option Bool -> Ex×St
 | some true=>oK_f o ih V cl dr loc st (o.op.fits dr loc st.sl)
 | some false=>snocK loc .u fun loc'=>keepK st.sl o.keep .u fun sl'=>ih V cl dr loc' ⟨sl',st.hp⟩
 | none=>(.bad,st)
noncomputable def oK_cons (o:VOper) (_:List VOper) (ih:VProg -> Cl -> Option (Bs×Bool) -> List D -> St -> Ex×St) (V:VProg) (cl:Cl) (dr:Option (Bs×Bool)) (loc:List D) (st:St):Ex×St:=oK_w o ih V cl dr loc st (o.wants loc st.sl)
noncomputable def opsKk (os:List VOper):VProg -> Cl -> Option (Bs×Bool) -> List D -> St -> Ex×St:=List.rec (motive:=fun _=>VProg -> Cl -> Option (Bs×Bool) -> List D -> St -> Ex×St) oK_nil oK_cons os
theorem opsKk_eq (V:VProg) (cl:Cl) (dr:Option (Bs×Bool)) : ∀ (os:List VOper) (loc:List D) (st:St),opsKk os V cl dr loc st=ops V cl dr os loc st:=by
 intro os
 induction os with
 | nil=>intro loc st;rfl
 | cons o os ih =>
  intro loc st
  show oK_w o (opsKk os) V cl dr loc st (o.wants loc st.sl)=_
  unfold ops
  cases o.wants loc st.sl with
  | none=>rfl
  | some b =>
   cases b with
   | false =>
    show snocK loc .u (fun loc'=>keepK st.sl o.keep .u fun sl'=>opsKk os V cl dr loc' ⟨sl',st.hp⟩)=_
    rw[snocK_eq,keepK_eq]
    exact ih _ _
   | true =>
    show oK_f o (opsKk os) V cl dr loc st (o.op.fits dr loc st.sl)=_
    cases o.op.fits dr loc st.sl with
    | false=>rfl
    | true =>
     show oK_v o (opsKk os) V cl dr loc st (stepK o.op V cl loc st)=_
     rw[stepK_eq]
     simp only
     cases step V cl loc st o.op with
     | v d st' =>
      show snocK loc d (fun loc'=>keepK st'.sl o.keep d fun sl'=>opsKk os V cl dr loc' ⟨sl',st'.hp⟩)=_
      rw[snocK_eq,keepK_eq]
      exact ih _ _
     | p d hp=>rfl
     | bad=>rfl
abbrev EX:=VProg -> Cl -> Nat -> St -> Ex×St
def eK_skip (_:VProg) (_:Cl) (_:Nat) (st:St):Ex×St:=(.nm,st)
noncomputable def eK_reg (os:List VOper) (draw:Option Bool) (V:VProg) (cl:Cl) (_:Nat) (st:St):Ex×St:=opsKk os V cl (match draw with|some b=>some (bsOf b os st.sl st.hp,b)|none=>none) [] st
def eK_sq (ihb:EX) (V:VProg) (cl:Cl) (n:Nat):Ex×St -> Ex×St
 | (.nm,st')=>ihb V cl n st'
 | r=>r
def eK_seq (_ _:VCode) (iha ihb:EX) (V:VProg) (cl:Cl) (n:Nat) (st:St):Ex×St:=eK_sq ihb V cl n (iha V cl n st)
def eK_cnd (iht ihe:EX) (V:VProg) (cl:Cl) (n:Nat) (st:St):D -> Ex×St
 | .b true=>iht V cl n st
 | .b false=>ihe V cl n st
 | _=>(.bad,st)
def eK_cond (c:O) (_ _:VCode) (iht ihe:EX) (V:VProg) (cl:Cl) (n:Nat) (st:St):Ex×St:=eK_cnd iht ihe V cl n st (c.ev [] st.sl)
def eK_blk (id:Nat):Ex×St -> Ex×St
 | (.ex id',st')=>if id'=id then(.nm,st')else(.ex id',st')
 | r=>r
def eK_block (id:Nat) (_:VCode) (ih:EX) (V:VProg) (cl:Cl) (n:Nat) (st:St):Ex×St:=eK_blk id (ih V cl n st)
def iK_z (_:St -> Ex×St) (st:St):Ex×St:=(.bad,st)
noncomputable def iK_n (ih:(St -> Ex×St) -> St -> Ex×St) (body:St -> Ex×St):Ex×St -> Ex×St
 | (.nm,st')=>forceS st' (ih body)
 | r=>r
noncomputable def iK_s (_:Nat) (ih:(St -> Ex×St) -> St -> Ex×St) (body:St -> Ex×St) (st:St):Ex×St:=iK_n ih body (body st)
noncomputable def iterK (n:Nat):(St -> Ex×St) -> St -> Ex×St:=Nat.rec (motive:=fun _=>(St -> Ex×St) -> St -> Ex×St) iK_z iK_s n
noncomputable def eK_loop (_:VCode) (ih:EX) (V:VProg) (cl:Cl) (n:Nat) (st:St):Ex×St:=iterK n (ih V cl n) st
def eK_exit (id:Nat) (_:VProg) (_:Cl) (_:Nat) (st:St):Ex×St:=(.ex id,st)
def eK_ret (_:VProg) (_:Cl) (_:Nat) (st:St):Ex×St:=(.rt,st)
def eK_stuck (_:VProg) (_:Cl) (_:Nat) (st:St):Ex×St:=(.bad,st)
def eK_rng (j:Nat) (x:O) (V:VProg) (cl:Cl) (_:Nat) (st:St):Ex×St:=match V.rnd j with
  | some r=>match x.ev [] st.sl with
   | .fn (.func g) [] cap=>if g=yF then(.bad,st)else rngK st.sl (st.hp.length+1) st (cl g (.yl (st.hp.length+1)::cap) (st.hp++[.df,.yh r.f r.path j r.nt r.tm st.sl .rd]))
   | _=>(.bad,st)
  | none=>(.bad,st)
noncomputable def execK (c:VCode):EX:=VCode.rec (motive:=fun _=>EX) eK_skip eK_reg eK_seq eK_cond eK_block eK_loop eK_exit eK_ret eK_stuck eK_rng c
theorem iterK_eq (body:St -> Ex×St) : ∀ (n:Nat) (st:St),iterK n body st=iter body n st:=by
 intro n
 induction n with
 | zero=>intro st;rfl
 | succ n ih =>
  intro st
  show iK_n (iterK n) body (body st)=_
  unfold iter
  generalize body st=r
  obtain⟨ex,s⟩:=r
  cases ex<;>first|rfl|exact(forceS_eq _ _).trans (ih _)
theorem execK_eq (V:VProg) (cl:Cl) (n:Nat) : ∀ (c:VCode) (st:St),execK c V cl n st=exec V cl n c st:=by
 intro c
 induction c with
 | skip|exit|ret|stuck|rng=>intro st;rfl
 | reg os draw=>intro st;exact opsKk_eq ..
 | seq a b iha ihb =>
  intro st
  show eK_sq (execK b) V cl n (execK a V cl n st)=_
  rw[iha]
  simp only[exec]
  generalize exec V cl n a st=r
  obtain⟨ex,s⟩:=r
  cases ex<;>first|rfl|exact ihb _
 | cond c t e iht ihe =>
  intro st
  show eK_cnd (execK t) (execK e) V cl n st (c.ev [] st.sl)=_
  simp only[exec]
  generalize c.ev [] st.sl=q
  cases q with
  | b x=>cases x<;>first|exact iht _|exact ihe _
  | _=>rfl
 | block id c ih =>
  intro st
  show eK_blk id (execK c V cl n st)=_
  rw[ih]
  simp only[exec]
  generalize exec V cl n c st=r
  obtain⟨ex,s⟩:=r
  cases ex<;>rfl
 | loop c ih =>
  intro st
  show iterK n (execK c V cl n) st=_
  rw[iterK_eq,show execK c V cl n=exec V cl n c from funext ih]
  rfl
noncomputable def enterK (V:VProg) (cl:Cl) (n:Nat) (vf:VFunc) (args:List D) (H:Heap):CR :=
 if args.length=vf.npar then
  match execK vf.body V cl n ⟨args++List.replicate (vf.nsl-vf.npar) .u,H⟩with
  | (.nm,st)|(.rt,st)=>match resAll st vf.res with
   | some ds => .ret (oneOr ds) st.hp
   | none => .bad
  | (.pn d,st) => .pan d st.hp
  | _ => .bad
 else .bad
noncomputable def enterRK (V:VProg) (cl:Cl) (n:Nat) (vf:VFunc) (args:List D) (H:Heap):CR :=
 if args.length=vf.npar then
  match execK vf.body V cl n ⟨args++List.replicate (vf.nsl-vf.npar) .u,H⟩with
  | (.nm,st)|(.rt,st)=>match resAll ⟨st.sl,unmark H.length st.hp⟩ vf.res with
   | some ds => .ret (oneOr ds) (unmark H.length st.hp)
   | none => .bad
  | _ => .bad
 else .bad
noncomputable def roundBK (V:VProg) (cl:Cl) (n:Nat) (y:Nat) (b:VCode):Ex×St -> CR
 | (.nm,st)=>match st.hp[y]? with
  | some (.yh f p j nt tm x .rd)=>rndEnd y (execK b V cl n ⟨st.sl,st.hp.set y (.yh f p j nt tm x .bz)⟩)
  | _ => .bad
 | _ => .bad
noncomputable def roundRK (V:VProg) (cl:Cl) (n:Nat) (args:List D) (H:Heap):CR :=
 match args with
 | .yl y::az=>match H[y]? with
  | some (.yh f p j nt tm x .rd)=>match V.rnd j with
   | some r=>if r.f=f /\ r.path=p /\ r.nt=nt /\ r.tm=tm /\ r.ps.length=az.length then roundBK V cl n y r.b (execK r.a V cl n ⟨setPs x r.ps az,H⟩)else .bad
   | none => .bad
  | _ => .bad
 | _ => .bad
theorem roundRK_eq (V:VProg) (cl:Cl) (n:Nat) (args:List D) (H:Heap):roundRK V cl n args H=roundR V cl n args H:=by
 have hb : ∀ (y:Nat) (b:VCode) (r:Ex×St),roundBK V cl n y b r=roundB V cl n y b r:=fun y b r=>by
  unfold roundBK roundB
  simp only[execK_eq]
  rfl
 unfold roundRK roundR
 simp only[hb,execK_eq]
 rfl
noncomputable def leaveK (V:VProg) (cl:Cl) (n:Nat) (vf:VFunc) (q:Dfr) (base:Nat) (cs:List D) (x:D) (st:St):CR :=
 match execK q.body V cl n ⟨(cs++List.replicate (q.ns-cs.length) D.u).set q.rk x,st.hp⟩with
 | (.nm,st3)|(.rt,st3)=>if base <= st3.hp.length then(match resAll ⟨st.sl,st3.hp⟩ vf.res with
  | some ds => .ret (oneOr ds) st3.hp
  | none => .bad)else .bad
 | _ => .bad
noncomputable def enterDK (V:VProg) (cl:Cl) (n:Nat) (vf:VFunc) (q:Dfr) (args:List D) (H:Heap):CR :=
 if args.length=vf.npar then
  match execK q.pre V cl n ⟨args++List.replicate (vf.nsl-vf.npar) .u,H⟩with
  | (.nm,st1)=>if st1.sl.all D.noBx=false then .bad else match execK vf.body V cl n st1 with
   | (.nm,st2)=>leaveK V cl n vf q H.length ((q.caps.map O.s).map (O.ev [] st1.sl)) .ni st2
   | (.rt,st2)=>leaveK V cl n vf q H.length ((q.caps.map O.s).map (O.ev [] st1.sl)) .ni st2
   | (.pn x,st2)=>leaveK V cl n vf q H.length ((q.caps.map O.s).map (O.ev [] st1.sl)) x st2
   | _ => .bad
  | _ => .bad
 else .bad
noncomputable def enterFK (V:VProg) (cl:Cl) (n:Nat) (vf:VFunc) (args:List D) (H:Heap):CR :=
 match vf.dfr with
 | none=>match vf.rg with
  | none=>enterK V cl n vf args H
  | some _=>enterRK V cl n vf args H
 | some q=>enterDK V cl n vf q args H
theorem enterFK_eq (V:VProg) (cl:Cl) (n:Nat) (vf:VFunc) (args:List D) (H:Heap):enterFK V cl n vf args H=enterF V cl n vf args H:=by
 unfold enterFK enterF
 cases vf.dfr with
 | none =>
  cases vf.rg with
  | none=>simp only[enterK,enter,execK_eq];rfl
  | some g=>simp only[enterRK,enterR,execK_eq];rfl
 | some q=>simp only[enterDK,enterD,leaveK,leaveD,execK_eq];rfl
noncomputable def pureRunK (V:VProg) (cl:Cl) (n:Nat) (vf:VFunc) (args:List D):PR :=
 match enterFK V cl n vf args []with
 | .ret d H=>match settleO vf.own H d with
   | some d' => .ret d'
   | none => .bad
 | .pan d H=>match freeze deep H d with
  | some (d',_) => .pan d'
  | none => .bad
 | .bad => .bad
noncomputable def pureRK (V:VProg) (cl:Cl) (n:Nat) (f:FuncId) (vf:VFunc) (ds:List D):PR :=
 match V.pext f ds with
 | some d => .ret d
 | none=>pureRunK V cl n vf ds
theorem pureRK_eq (V:VProg) (cl:Cl) (n:Nat) (f:FuncId) (vf:VFunc) (ds:List D):pureRK V cl n f vf ds=pureR V cl n f vf ds:=by
 unfold pureRK pureR pureRunK pureRun
 rw[enterFK_eq]
 rfl
noncomputable def cK (V:VProg) (cl:Cl) (n:Nat):Cl:=fun f args H=>match V.fn f with
  | none=>if f=yF then roundRK V cl n args H else match V.ext f args H with
   | some (d,H') => .ret d H'
   | none => .bad
  | some vf=>match vf.pure with
   | false=>match V.ext f args H with
    | some (d,H') => .ret d H'
    | none=>enterFK V cl n vf args H
   | true=>match freezeL deep H args with
    | none => .bad
    | some (ds,H')=>match pureRK V cl n f vf ds with
     | .ret d => .ret (placeO vf.own d (backH vf.fre d H H')).1 (placeO vf.own d (backH vf.fre d H H')).2
     | .pan d => .pan d H'
     | .bad => .bad
def cK_z (_:VProg):Cl:=fun _ _ _ => .bad
noncomputable def cK_s (n:Nat) (ih:VProg -> Cl) (V:VProg):Cl:=cK V (ih V) n
noncomputable def callKk (n:Nat):VProg -> Cl:=Nat.rec (motive:=fun _=>VProg -> Cl) cK_z cK_s n
theorem callKk_eq (V:VProg) : ∀ n,callKk n V=call V n:=by
 intro n
 induction n with
 | zero=>rfl
 | succ n ih =>
  funext f args H
  show cK V (callKk n V) n f args H=_
  rw[ih]
  unfold cK
  simp only[call,pureRK_eq,enterFK_eq,roundRK_eq]
  rfl
noncomputable def pcallK (V:VProg) (n:Nat) (f:FuncId) (ds:List D):PR :=
 match n with
 | 0 => .bad
 | n+1=>match V.fn f with
  | some vf=>pureRK V (callKk n V) n f vf ds
  | none => .bad
theorem pcall_k {V:VProg} {n:Nat} {f:FuncId} {ds:List D} {r:PR} (h:pcallK V n f ds=r):pcall V n f ds=r:=by
 rw[<- h]
 unfold pcallK pcall
 cases n with
 | zero=>rfl
 | succ n=>simp only[pureRK_eq,callKk_eq];rfl
def VProg.withP (V:VProg) (p:FuncId -> List D -> Option D):VProg:={ V with pext:=p }
section
variable {V:VProg} {p:FuncId -> List D -> Option D} {cl:FuncId -> List D -> Heap -> CR}
theorem step_P {op:VOp} {loc:List D} {st:St}:step (V.withP p) cl loc st op=step V cl loc st op:=by cases op<;>rfl
theorem ops_P {dr:Option (Bs×Bool)} {os:List VOper} : ∀ {loc:List D} {st:St},ops (V.withP p) cl dr os loc st=ops V cl dr os loc st:=by
 induction os with
 | nil=>intro loc st;rfl
 | cons o os ih=>intro loc st;simp only[ops,step_P,ih]
theorem exec_P {n:Nat} : ∀ (c:VCode) (st:St),exec (V.withP p) cl n c st=exec V cl n c st:=by
 intro c
 induction c with
 | reg os dr=>intro st;simp only[exec,ops_P]
 | seq a b iha ihb=>intro st;simp only[exec,iha,ihb]
 | cond x a b iha ihb=>intro st;simp only[exec,iha,ihb]
 | block id a ih=>intro st;simp only[exec,ih]
 | loop a ih =>
  intro st
  have:exec (V.withP p) cl n a=exec V cl n a:=funext ih
  simp only[exec,this]
 | _=>intro st;rfl
theorem enterF_P {n:Nat} {vf:VFunc} {args:List D} {H:Heap}:enterF (V.withP p) cl n vf args H=enterF V cl n vf args H:=by
 simp only[enterF,enterD,leaveD,enter,enterR,exec_P]
theorem roundR_P {n:Nat} {args:List D} {H:Heap}:roundR (V.withP p) cl n args H=roundR V cl n args H:=by
 simp only[roundR,roundB,exec_P];rfl
theorem call_P {M:Nat} (hp : ∀ f ds d,p f ds=some d -> pcall V M f ds = .ret d) (hV : ∀ f ds,p f ds=none -> V.pext f ds=none) : ∀ n,CLe (call (V.withP p) n) (call V (n+M)):=by
 intro n
 induction n with
 | zero=>intro f args H h;exact absurd rfl h
 | succ n ih =>
  intro f args H h
  rw[show n+1+M=(n+M)+1 by omega]
  simp only[call]at h ⊢
  have hf':(V.withP p).fn f=V.fn f:=rfl
  have hx':(V.withP p).ext f args H=V.ext f args H:=rfl
  rw[hf',hx']at h ⊢
  cases hf:V.fn f with
  | none =>
   rw[hf]at h
   simp only at h ⊢
   split
   ·rename_i hq;rw[if_pos hq]at h;rw[roundR_P]at h ⊢;exact roundR_ge ih (by omega) h
   ·rfl
  | some vf =>
   rw[hf]at h
   simp only at h ⊢
   cases hpu:vf.pure with
   | false =>
    rw[hpu]at h
    simp only at h ⊢
    cases hx:V.ext f args H with
    | some q=>rfl
    | none=>rw[hx]at h;simp only at h ⊢;rw[enterF_P]at h ⊢;exact enterF_ge ih (by omega) h
   | true =>
    rw[hpu]at h
    simp only at h ⊢
    cases hfr:freezeL deep H args with
    | none=>rfl
    | some q =>
     obtain⟨ds,H1⟩:=q
     rw[hfr]at h
     simp only at h ⊢
     have key:pureR V (call V (n+M)) (n+M) f vf ds=pureR (V.withP p) (call (V.withP p) n) n f vf ds:=by
      cases hq:p f ds with
      | none =>
       have hx:=hV f ds hq
       have hne:pureRun (V.withP p) (call (V.withP p) n) n vf ds ≠ .bad:=by
        intro e
        have:pureR (V.withP p) (call (V.withP p) n) n f vf ds = .bad:=by
         unfold pureR
         show(match p f ds with|some d=>PR.ret d|none=>_)=_
         rw[hq];exact e
        rw[this]at h;exact h rfl
       have e:pureRun (V.withP p) (call (V.withP p) n) n vf ds=pureRun V (call (V.withP p) n) n vf ds:=by simp only[pureRun,enterF_P]
       rw[e]at hne
       have e2:pureR (V.withP p) (call (V.withP p) n) n f vf ds=pureRun V (call (V.withP p) n) n vf ds:=by
        unfold pureR
        show(match p f ds with|some d=>PR.ret d|none=>_)=_
        rw[hq];exact e
       rw[e2]
       unfold pureR
       rw[hx]
       exact pureRun_ge ih (by omega) hne
      | some d =>
       have h1:=hp f ds d hq
       have e2:pureR (V.withP p) (call (V.withP p) n) n f vf ds = .ret d:=by
        unfold pureR
        show(match p f ds with|some d=>PR.ret d|none=>_)=_
        rw[hq]
       rw[e2]
       cases M with
       | zero=>cases h1
       | succ M =>
        simp only[pcall,hf,pureR]at h1 ⊢
        cases hx:V.pext f ds with
        | some d'=>rw[hx]at h1;exact h1
        | none =>
         rw[hx]at h1
         simp only at h1 ⊢
         have h2:=pureRun_ge (call_ge V M (n+(M+1)) (by omega)) (show M <= n+(M+1)by omega) (vf:=vf) (args:=ds) (by rw[h1];nofun)
         rw[h2,h1]
     rw[key]
theorem pcall_P {M:Nat} (hp : ∀ f ds d,p f ds=some d -> pcall V M f ds = .ret d) (hV : ∀ f ds,p f ds=none -> V.pext f ds=none) {n:Nat} {f:FuncId} {ds:List D} {d:D} (h:pcall (V.withP p) n f ds = .ret d):PRet V f ds d:=by
 cases n with
 | zero=>cases h
 | succ n =>
  simp only[pcall]at h
  rw[show(V.withP p).fn f=V.fn f from rfl]at h
  cases hf:V.fn f with
  | none=>rw[hf]at h;cases h
  | some vf =>
   rw[hf]at h
   simp only[pureR]at h
   rw[show(V.withP p).pext f ds=p f ds from rfl]at h
   cases hq:p f ds with
   | some d' =>
    rw[hq]at h
    cases h
    exact⟨M,hp _ _ _ hq⟩
   | none =>
    rw[hq]at h
    simp only at h
    refine⟨n+M+1, ?_⟩
    simp only[pcall,hf,pureR,hV f ds hq]
    have e:pureRun (V.withP p) (call (V.withP p) n) n vf ds=pureRun V (call (V.withP p) n) n vf ds:=by simp only[pureRun,enterF_P]
    rw[e]at h
    have h2:=pureRun_ge (call_P hp hV n) (show n <= n+M by omega) (vf:=vf) (args:=ds) (by rw[h];nofun)
    rw[h2,h]
end
end Go.Dm
