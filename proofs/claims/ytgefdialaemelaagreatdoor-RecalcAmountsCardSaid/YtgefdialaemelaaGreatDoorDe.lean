/-
  Regions whose order is drawn.
-/
import Derived.Test.YtgefdialaemelaaGreatDoorDd
namespace Go.Dm
inductive Lk:Option Blk -> Option Blk -> Prop
 | same (b:Option Blk):Lk b b
 | lock (w:Nat) (rows:List (List D)) (c:Option Nat) (p l l':Bool):Lk (some (.ar w rows c p l)) (some (.ar w rows c p l'))
theorem Lk.symm {x y:Option Blk} (h:Lk x y):Lk y x:=by
 cases h with
 | same=>exact .same _
 | lock=>exact .lock ..
theorem Lk.trans {x y z:Option Blk} (h:Lk x y) (h':Lk y z):Lk x z:=by
 cases h with
 | same=>exact h'
 | lock w rows c p l l' =>
  cases h' with
  | same=>exact .lock ..
  | lock=>exact .lock ..
def Sb (base:Bs) (H H':Heap):Prop := ∀ b,base.un b=true -> Lk H[b]? H'[b]?
def bn (n:Nat):Bs:=(n,[])
theorem bn_un {n b:Nat}:(bn n).un b=true↔b<n:=by
 simp only[bn,Bs.un,List.contains_nil,Bool.not_false,Bool.and_true]
 exact decide_eq_true_iff
theorem un_lt {base:Bs} {b:Nat} (h:base.un b=true):b<base.1:=by simp[Bs.un]at h;exact h.1
theorem ov_un {base:Bs} {a b:Nat} (h:base.ov a=true) (h':base.un b=true):a≠b:=fun e=>by
 subst e
 simp[Bs.ov]at h;simp[Bs.un]at h'
 rcases h with h|h
 ·omega
 ·exact h'.2 h
theorem Sb.refl (base:Bs) (H:Heap):Sb base H H:=fun _ _ => .same _
theorem Sb.symm {base:Bs} {H H':Heap} (h:Sb base H H'):Sb base H' H:=fun b hb=>(h b hb).symm
theorem Sb.trans {base:Bs} {H H' H'':Heap} (h:Sb base H H') (h':Sb base H' H''):Sb base H H'':=fun b hb=>(h b hb).trans (h' b hb)
theorem Sb.mono {n:Nat} {base':Bs} {H H':Heap} (h:Sb (bn n) H H') (hb:base'.1 <= n):Sb base' H H':=fun b hlt=>h b (bn_un.2 (by have:=un_lt hlt;omega))
theorem Sb.push (H t:Heap):Sb (bn H.length) H (H++t):=fun b hb=>by rw[bn_un]at hb;rw[List.getElem?_append_left hb];exact .same _
theorem Sb.set {base:Bs} {id:Nat} {H:Heap} {b:Blk} (h:base.ov id=true):Sb base H (H.set id b):=fun i hi=>by rw[List.getElem?_set_ne (ov_un h hi)];exact .same _
def Gr (H H':Heap):Prop:=H.length <= H'.length /\ Sb (bn H.length) H H'
theorem Gr.refl (H:Heap):Gr H H:=⟨Nat.le_refl _,.refl _ _⟩
theorem Gr.trans {H H' H'':Heap} (h:Gr H H') (h':Gr H' H''):Gr H H'':=⟨Nat.le_trans h.1 h'.1,h.2.trans (h'.2.mono h.1)⟩
theorem Gr.push (H t:Heap):Gr H (H++t):=⟨by simp,.push H t⟩
theorem Gr.lock {H:Heap} {a n w:Nat} {rows:List (List D)} {c:Option Nat} {p l:Bool} (h:arr H a n=some (w,rows,c,p,l)) (l':Bool):Gr H (H.set a (.ar w rows c p l')):=by
 refine⟨by simp,fun b hb => ?_⟩
 rw[bn_un]at hb
 by_cases hab:a=b
 ·subst hab
  have:=(arr_eq h).1
  rw[this,List.getElem?_set_self hb]
  exact .lock ..
 ·rw[List.getElem?_set_ne hab];exact .same _
theorem freeze_gr (m:Nat):(∀ (d:D) (H:Heap) (d':D) (H':Heap),freeze m H d=some (d',H') -> Gr H H') /\
  (∀ (ds:List D) (H:Heap) (ds':List D) (H':Heap),freezeL m H ds=some (ds',H') -> Gr H H') /\
  (∀ (rs:List (List D)) (H:Heap) (rs':List (List D)) (H':Heap),freezeLL m H rs=some (rs',H') -> Gr H H'):=by
 induction m with
 | zero =>
  refine⟨fun d H d' H' h=>by simp[freeze_zero]at h,fun ds H ds' H' h => ?_,fun rs H rs' H' h => ?_⟩
  ·cases ds<;>simp[freezeL_nil,freezeL_zero]at h
   obtain⟨_,rfl⟩:=h;exact .refl _
  ·cases rs<;>simp[freezeLL_nil,freezeLL_zero]at h
   obtain⟨_,rfl⟩:=h;exact .refl _
 | succ m ih =>
  obtain⟨ih1,ih2,ih3⟩:=ih
  have h2 : ∀ (ds:List D) (H:Heap) (ds':List D) (H':Heap),freezeL (m+1) H ds=some (ds',H') -> Gr H H':=by
   intro ds
   induction ds with
   | nil=>intro H ds' H' h;simp[freezeL_nil]at h;obtain⟨_,rfl⟩:=h;exact .refl _
   | cons x xs ihl =>
    intro H ds' H' h
    simp only[freezeL_cons]at h
    split at h
    ·rename_i d1 H1 hf
     split at h
     ·rename_i ds1 H2 hf2
      cases h
      exact(ih1 _ _ _ _ hf).trans (ihl _ _ _ hf2)
     ·cases h
    ·cases h
  refine⟨fun d H d' H' h => ?_,h2, ?_⟩
  ·rw [freeze_succ]at h
   split at h<;>first|(cases h;done)|(cases h;exact .refl _)|skip
   ·split at h
    ·rename_i harr
     split at h
     ·cases h;exact .lock harr _
     ·cases h
    ·cases h
   ·split at h
    ·rename_i hf;cases h;exact ih3 _ _ _ _ hf
    ·cases h
   ·split at h
    ·rename_i hf;cases h;exact ih1 _ _ _ _ hf
    ·cases h
   ·split at h
    ·rename_i hf;cases h;exact ih2 _ _ _ _ hf
    ·cases h
  ·intro rs
   induction rs with
   | nil=>intro H rs' H' h;simp[freezeLL_nil]at h;obtain⟨_,rfl⟩:=h;exact .refl _
   | cons x xs ihl =>
    intro H rs' H' h
    simp only[freezeLL_cons]at h
    split at h
    ·rename_i d1 H1 hf
     split at h
     ·rename_i ds1 H2 hf2
      cases h
      exact(ih2 _ _ _ _ hf).trans (ihl _ _ _ hf2)
     ·cases h
    ·cases h
theorem lkB_lk {b b':Blk} (h:lkB b b'=true):Lk (some b) (some b'):=by
 unfold lkB at h
 split at h
 ·have:=(eqB_eq _ _).1 h
  cases this
  exact .lock ..
 ·rw[(eqB_eq _ _).1 h];exact .same _
theorem growH_gr : ∀ {H H':Heap},growH H H'=true -> Gr H H'
 | [],H',_=>⟨Nat.zero_le _,fun b hb=>by rw[bn_un]at hb;exact absurd hb (Nat.not_lt_zero _)⟩
 | b::bs,[],h=>by cases h
 | b::bs,b'::bs',h=>by
  simp only[growH,Bool.and_eq_true]at h
  obtain⟨h1,h2⟩:=growH_gr h.2
  refine⟨by simp only[List.length_cons];omega,fun i hi => ?_⟩
  rw[bn_un]at hi
  cases i with
  | zero=>exact lkB_lk h.1
  | succ i=>exact h2 i (by rw[bn_un];simp only[List.length_cons]at hi;omega)
theorem free_frz (m:Nat):(∀ (d:D) (H:Heap) (d':D) (H':Heap),freeD d=true -> freeze m H d=some (d',H') -> H'=H /\ ∀ H2,freeze m H2 d=some (d',H2)) /\
  ∀ (ds:List D) (H:Heap) (ds':List D) (H':Heap),freeL ds=true -> freezeL m H ds=some (ds',H') -> H'=H /\ ∀ H2,freezeL m H2 ds=some (ds',H2):=by
 induction m with
 | zero =>
  refine⟨fun d H d' H' _ h=>(by rw[freeze_zero]at h;cases h),fun ds H ds' H' _ h => ?_⟩
  cases ds with
  | nil=>rw[freezeL_nil]at h;cases h;exact⟨rfl,fun H2=>freezeL_nil _ _⟩
  | cons d ds=>rw[freezeL_zero]at h;cases h
 | succ m ih =>
  refine⟨fun d H d' H' hd h => ?_,fun ds => ?_⟩
  ·rw [freeze_succ]at h
   cases d with
   | ag cs =>
    simp only at h
    cases hq:freezeL m H cs with
    | none=>rw[hq]at h;cases h
    | some p =>
     obtain⟨cs',H1⟩:=p
     rw[hq]at h
     cases h
     obtain⟨h1,h2⟩:=ih.2 cs H cs' _ (by simpa only[freeD]using hd) hq
     exact⟨h1,fun H2=>by rw[freeze_succ];simp only[h2 H2]⟩
   | ifc t v =>
    simp only at h
    cases hq:freeze m H v with
    | none=>rw[hq]at h;cases h
    | some p =>
     obtain⟨v',H1⟩:=p
     rw[hq]at h
     cases h
     obtain⟨h1,h2⟩:=ih.1 v H v' _ (by simpa only[freeD]using hd) hq
     exact⟨h1,fun H2=>by rw[freeze_succ];simp only[h2 H2]⟩
   | fn f a b =>
    cases a<;>cases b<;>first
     | (simp only[freeD]at hd;cases hd;done)
     | (cases h;exact⟨rfl,fun H2=>by rw[freeze_succ]⟩)
   | _=>first
    | (simp only[freeD]at hd;cases hd;done)
    | (cases h;exact⟨rfl,fun H2=>by rw[freeze_succ]⟩)
  ·induction ds with
   | nil=>intro H ds' H' _ h;rw[freezeL_nil]at h;cases h;exact⟨rfl,fun H2=>freezeL_nil _ _⟩
   | cons d ds ihl =>
    intro H ds' H' hd h
    simp only[freeL,Bool.and_eq_true]at hd
    rw[freezeL_cons]at h
    cases hq:freeze m H d with
    | none=>rw[hq]at h;cases h
    | some p =>
     obtain⟨d1,H1⟩:=p
     rw[hq]at h
     simp only at h
     cases hp:freezeL (m+1) H1 ds with
     | none=>rw[hp]at h;cases h
     | some q =>
      obtain⟨ds1,H2⟩:=q
      rw[hp]at h
      cases h
      obtain⟨h1,h2⟩:=ih.1 d H d1 H1 hd.1 hq
      subst h1
      obtain⟨h3,h4⟩:=ihl _ ds1 _ hd.2 hp
      exact⟨h3,fun H2=>by rw[freezeL_cons,h2 H2];simp only[h4 H2]⟩
theorem freezeL_gr {m:Nat} {H:Heap} {ds:List D} {r:List D×Heap} (h:freezeL m H ds=some r):Gr H r.2:=(freeze_gr m).2.1 _ _ r.1 _ h
theorem freezeRows_gr {H:Heap} {rs:List (List D)} {r:List (List D)×Heap} (h:freezeRows H rs=some r):Gr H r.2:=(freeze_gr deep).2.2 _ _ r.1 _ h
theorem arr_sb {base:Bs} {H H':Heap} (h:Sb base H H') {a n w:Nat} {rows:List (List D)} {c:Option Nat} {p l:Bool} (ha:base.un a=true) (e:arr H a n=some (w,rows,c,p,l)) :
  ∃ l',arr H' a n=some (w,rows,c,p,l'):=by
 obtain⟨h1,h2⟩:=arr_eq e
 have:=h a ha
 rw[h1]at this
 generalize hy:H'[a]?=y at this
 cases this with
 | same=>exact⟨l,by simp[arr,hy,h2]⟩
 | lock _ _ _ _ _ l'=>exact⟨l',by simp[arr,hy,h2]⟩
theorem bx_sb {base:Bs} {H H':Heap} (h:Sb base H H') {a t:Nat} {cs:List D} (ha:base.un a=true) (e:H[a]?=some (.hb t cs)):H'[a]?=some (.hb t cs):=by
 have:=h a ha
 rw[e]at this
 generalize H'[a]?=y at this
 cases this;rfl
theorem mp_sb {base:Bs} {H H':Heap} (h:Sb base H H') {a:Nat} {es:List (D×D)} (ha:base.un a=true) (e:H[a]?=some (.mp es)):H'[a]?=some (.mp es):=by
 have:=h a ha
 rw[e]at this
 generalize H'[a]?=y at this
 cases this;rfl
theorem ar_sb {base:Bs} {H H':Heap} (h:Sb base H H') {a w:Nat} {rows:List (List D)} {c:Option Nat} {p l:Bool} (ha:base.un a=true) (e:H[a]?=some (.ar w rows c p l)) : ∃ l',H'[a]?=some (.ar w rows c p l'):=by
 have:=h a ha
 rw[e]at this
 generalize H'[a]?=y at this
 cases this with
 | same=>exact⟨_,rfl⟩
 | lock=>exact⟨_,rfl⟩
section
variable {base:Bs} {H H':Heap}
theorem ldAt_sb (h:Sb base H H') {x:D} {n:Nat} {r:List D} (hx:x.under base=true) (e:ldAt H x n=some r):ldAt H' x n=some r:=by
 unfold ldAt at *
 split at e
 ·simp only[D.under]at hx
  split at e
  ·rename_i hb;simp only[bx_sb h hx hb];exact e
  ·cases e
 ·simp only[D.under]at hx
  split at e
  ·rename_i hb;obtain⟨l',hl⟩:=arr_sb h hx hb;simp only[hl];exact e
  ·cases e
 ·simp only[D.under]at hx
  split at e
  ·rename_i hb;obtain⟨l',hl⟩:=ar_sb h hx hb;simp only[hl];exact e
  ·cases e
 ·exact e
 ·cases e
theorem iadD_sb (h:Sb base H H') {x ix:D} {w:Nat} {r:D} (hx:x.under base=true) (e:iadD H x ix w=some r):iadD H' x ix w=some r:=by
 unfold iadD at *
 split at e
 ·exact e
 ·exact e
 ·simp only[D.under]at hx
  split at e
  ·rename_i hb;obtain⟨l',hl⟩:=arr_sb h hx hb;simp only[hl];exact e
  ·cases e
 ·cases e
theorem iarD_sb (h:Sb base H H') {x ix:D} {n w:Nat} {r:D} (hx:x.under base=true) (e:iarD H x ix n w=some r):iarD H' x ix n w=some r:=by
 unfold iarD at *
 split at e
 ·split at e
  ·exact e
  ·exact e
  ·exact e
  ·simp only[D.under]at hx
   split at e
   ·rename_i hb;obtain⟨l',hl⟩:=ar_sb h hx hb;simp only[hl];exact e
   ·cases e
  ·cases e
 ·cases e
theorem lenD_sb (h:Sb base H H') {x:D} {k:Nat} {r:D} (hx:x.under base=true) (e:lenD H k x=some r):lenD H' k x=some r:=by
 unfold lenD at *
 split at e
 ·exact e
 ·exact e
 ·split at e
  ·exact e
  ·simp only[D.under]at hx
   split at e
   ·rename_i hb;simp only[mp_sb h hx hb];exact e
   ·cases e
  ·cases e
theorem capD_sb (h:Sb base H H') {x:D} {r:D} (hx:x.under base=true) (e:capD H x=some r):capD H' x=some r:=by
 unfold capD at *
 split at e
 ·exact e
 ·exact e
 ·simp only[D.under]at hx
  split at e
  ·rename_i hb;obtain⟨l',hl⟩:=arr_sb h hx hb;simp only[hl];exact e
  ·cases e
 ·cases e
theorem sliceD_sb (h:Sb base H H') {w:Nat} {x:D} {lo hi mx:Option D} {r:D} (hx:x.under base=true) (e:sliceD H w x lo hi mx=some r):sliceD H' w x lo hi mx=some r:=by
 unfold sliceD at *
 split at e
 ·split at e
  ·exact e
  ·exact e
  ·exact e
  ·exact e
  ·simp only[D.under]at hx
   split at e
   ·rename_i hb;obtain⟨l',hl⟩:=arr_sb h hx hb;simp only[hl];exact e
   ·cases e
  ·cases e
 ·exact e
theorem entsD_sb (h:Sb base H H') {x:D} {r:List (D×D)} (hx:x.under base=true) (e:entsD H x=some r):entsD H' x=some r:=by
 unfold entsD at *
 split at e
 ·exact e
 ·simp only[D.under]at hx
  split at e
  ·rename_i hb;simp only[mp_sb h hx hb];exact e
  ·cases e
 ·cases e
theorem lkD_sb (h:Sb base H H') {kk:KK} {m k:D} {ok:Bool} {zero r:D} (hx:m.under base=true) (e:lkD H kk m k ok zero=some r):lkD H' kk m k ok zero=some r:=by
 unfold lkD at *
 split at e
 ·split at e
  ·rename_i hb;simp only[entsD_sb h hx hb];exact e
  ·cases e
 ·cases e
end
section
variable {base:Bs} {H H':Heap}
def Wr (base:Bs) (ov:Bool) (H H':Heap):Prop:=H.length <= H'.length /\ (base.1 <= H.length -> ov=true -> Sb base H H')
theorem Wr.of_gr (ov:Bool) (h:Gr H H'):Wr base ov H H':=⟨h.1,fun hb _=>h.2.mono hb⟩
theorem Wr.set {ov:Bool} {id:Nat} {b:Blk} (h:ov=true -> base.ov id=true):Wr base ov H (H.set id b):=⟨by simp,fun _ ho => .set (h ho)⟩
theorem Wr.trans {ov:Bool} {H'':Heap} (h:Wr base ov H H') (h':Wr base ov H' H''):Wr base ov H H'' :=
 ⟨Nat.le_trans h.1 h'.1,fun hb ho=>(h.2 hb ho).trans (h'.2 (Nat.le_trans hb h.1) ho)⟩
theorem putRow_wr {a m i off:Nat} {vs:List D} (e:putRow H a m i off vs=some H'):Wr base (base.ov a) H H':=by
 unfold putRow at e
 split at e
 ·split at e
  ·split at e
   ·cases e;exact .set (fun h=>by simpa using h)
   ·cases e
  ·cases e
 ·cases e
theorem stAt_wr {x:D} {vs:List D} (e:stAt H x vs=some H'):Wr base (x.over base) H H':=by
 unfold stAt at e
 split at e
 ·split at e
  ·split at e
   ·cases e;exact .set (fun h=>by simpa [D.over]using h)
   ·cases e
  ·cases e
 ·split at e
  ·split at e
   ·rename_i hf
    split at e
    ·exact(Wr.of_gr _ (freezeL_gr hf)).trans (putRow_wr e)
    ·cases e
   ·cases e
  ·exact putRow_wr e
  ·cases e
 ·cases e
theorem appTo_wr {x d:D} {new:List (List D)} {w bytes:Nat} {p:Bool} (e:appTo H x new w bytes p=some (d,H')):Wr base (x.over base) H H':=by
 have emp : ∀ x,appEmp H x new w bytes p=some (d,H') -> Gr H H':=fun x e=>by
  unfold appEmp at e
  split at e
  ·cases e;exact .refl _
  ·split at e
   ·cases e;exact .push _ _
   ·cases e
 have inn : ∀ {a off len:Nat} {rows:List (List D)} {c:Option Nat} {lk:Bool},appIn H a off len rows new w c p lk=some (d,H') -> Wr base (base.ov a) H H':=fun e=>by
  unfold appIn at e
  split at e
  ·cases e
  ·cases e;exact .set (fun h=>by simpa using h)
 have lit : ∀ x w',appLit H x new w' w=some (d,H') -> Gr H H':=fun x w' e=>by
  unfold appLit at e
  split at e
  ·split at e
   ·cases e;exact .refl _
   ·cases e
  ·cases e
 unfold appTo at e
 split at e
 ·exact .of_gr _ (emp _ e)
 ·exact .of_gr _ (emp _ e)
 ·unfold appMu at e
  split at e
  ·split at e
   ·split at e
    ·cases e;exact .of_gr _ (.refl _)
    ·split at e
     ·split at e
      ·exact inn e
      ·cases e
     ·split at e
      ·exact inn e
      ·cases e;exact .of_gr _ (.push _ _)
   ·cases e
  ·cases e
 ·exact .of_gr _ (lit _ _ e)
 ·exact .of_gr _ (lit _ _ e)
 ·cases e
theorem appD_wr {x y d:D} {w bytes:Nat} {p:Bool} (e:appD H x y w bytes p=some (d,H')):Wr base (x.over base) H H':=by
 unfold appD at e
 split at e
 ·split at e
  ·split at e
   ·rename_i hf;exact(Wr.of_gr _ (freezeRows_gr hf)).trans (appTo_wr e)
   ·cases e
  ·exact appTo_wr e
 ·cases e
theorem cpyD_wr {x y d:D} {w:Nat} (e:cpyD H x y w=some (d,H')):Wr base (x.over base) H H':=by
 unfold cpyD at e
 split at e
 ·split at e
  ·split at e
   ·rename_i hf
    split at e
    ·split at e
     ·cases e;exact(Wr.of_gr _ (freezeRows_gr hf)).trans (.set (fun h=>by simpa [D.over]using h))
     ·cases e
    ·cases e
   ·cases e
  ·cases e
 ·split at e
  ·cases e;exact .of_gr _ (.refl _)
  ·cases e
 ·split at e
  ·cases e;exact .of_gr _ (.refl _)
  ·cases e
 ·cases e
theorem mupD_wr {kk:KK} {m k v:D} (e:mupD H kk m k v=some H'):Wr base (m.over base) H H':=by
 unfold mupD at e
 split at e
 ·split at e
  ·split at e
   ·split at e
    ·cases e;exact .set (fun h=>by simpa [D.over]using h)
    ·cases e
   ·cases e
  ·cases e
 ·cases e
theorem mksD_gr {l c d:D} {w bytes:Nat} {zs:List D} {p:Bool} (e:mksD H l c w bytes zs p=some (d,H')):Gr H H':=by
 unfold mksD at e
 split at e
 ·split at e
  ·split at e
   ·cases e;exact .push _ _
   ·cases e
  ·cases e
 ·cases e
theorem bslD_gr {w len:Nat} {zs:List D} {parts:List (Nat×D)} {p:Bool} {d:D} (e:bslD H w len zs parts p=some (d,H')):Gr H H':=by
 unfold bslD at e
 split at e
 ·cases e;exact .refl _
 ·split at e
  ·split at e
   ·split at e
    ·rename_i hf;cases e;exact(freezeRows_gr hf).trans (.push _ _)
    ·cases e
   ·cases e;exact .push _ _
  ·cases e
end
structure CallFit (V:VProg) (cl:FuncId -> List D -> Heap -> CR):Prop where
 le : ∀ (f:FuncId) (args:List D) (H:Heap) (d:D) (H':Heap),cl f args H = .ret d H' -> H.length <= H'.length
 gr : ∀ (f:FuncId) (args:List D) (H:Heap) (d:D) (H':Heap) (vf:VFunc),V.fn f=some vf -> vf.pure=true -> cl f args H = .ret d H' -> Gr H H'
 pl : ∀ (f:FuncId) (args:List D) (H:Heap) (d:D) (H':Heap) (vf:VFunc),V.fn f=some vf -> vf.pure=true -> vf.own=false -> freeL args=true -> cl f args H = .ret d H' -> H'=H /\ ∀ H2,cl f args H2 = .ret d H2
def appU (u:Option (Nat×D)) (sl:List D):List D :=
 match u with
 | none=>sl
 | some (k,e)=>sl.set k e
def Like (op:VOp) (loc sl loc' sl':List D):Prop :=
 (∀ x∈op.args,x.ev loc' sl'=x.ev loc sl) /\ ∀ a∈op.base,a.ev loc' sl'=a.ev loc sl /\ ∀ k o,a.ev loc sl=some (k,o) -> sl'[k]?=sl[k]?
def HB (H H':Heap):Prop := ∀ (b t:Nat) (cs:List D),H[b]?=some (Blk.hb t cs)↔H'[b]?=some (Blk.hb t cs)
theorem HB.refl (H:Heap):HB H H:=fun _ _ _=>Iff.rfl
theorem HB.symm {H H':Heap} (h:HB H H'):HB H' H:=fun b t cs=>(h b t cs).symm
theorem HB.trans {H H' H'':Heap} (h:HB H H') (h':HB H' H''):HB H H'':=fun b t cs=>(h b t cs).trans (h' b t cs)
theorem HB.push (H:Heap) {b:Blk} (hb : ∀ (t:Nat) (cs:List D),b≠Blk.hb t cs):HB H (H++[b]):=fun i t cs=>by
 rcases Nat.lt_or_ge i H.length with hi|hi
 ·rw[List.getElem?_append_left hi]
 ·rw[List.getElem?_append_right hi,List.getElem?_eq_none hi]
  rcases Nat.eq_zero_or_pos (i-H.length)with e|e
  ·rw[e];simpa using hb t cs
  ·rw[List.getElem?_eq_none (by simp only[List.length_singleton];omega)]
theorem HB.set {H:Heap} {a w w':Nat} {rows rows':List (List D)} {c c':Option Nat} {p p' l l':Bool} (h:H[a]?=some (.ar w rows c p l)):HB H (H.set a (.ar w' rows' c' p' l')):=fun i t cs=>by
 by_cases hia:a=i
 ·subst hia
  rw[h,List.getElem?_set_self (List.getElem?_eq_some_iff.1 h).1]
  simp
 ·rw[List.getElem?_set_ne hia]
theorem Gr.hb {H H':Heap} (h:Gr H H') (he:H'.length=H.length):HB H H':=fun i t cs=>by
 rcases Nat.lt_or_ge i H.length with hi|hi
 ·have:=h.2 i (bn_un.2 hi)
  generalize H[i]?=x at this
  generalize H'[i]?=y at this
  cases this with
  | same=>rfl
  | lock=>simp
 ·rw[List.getElem?_eq_none hi,List.getElem?_eq_none (by omega)]
theorem ldhD_hb {H H':Heap} (h:HB H H') {x:D} {n:Nat} {r:List D} (e:ldhD H x n=some r):ldhD H' x n=some r:=by
 obtain⟨e',b,off,rfl⟩:=ldhD_inv e
 simp only[ldhD,ldAt]at e ⊢
 cases hb:H[b]? with
 | none=>rw[hb]at e;cases e
 | some y =>
  rw[hb]at e
  cases y with
  | hb t cs=>rw[(h b t cs).1 hb];exact e
  | _=>cases e
theorem appTo_hb {H H':Heap} {x d:D} {new:List (List D)} {w bytes:Nat} {p:Bool} (e:appTo H x new w bytes p=some (d,H')):HB H H':=by
 have emp : ∀ x,appEmp H x new w bytes p=some (d,H') -> HB H H':=fun x e=>by
  unfold appEmp at e
  split at e
  ·cases e;exact .refl _
  ·split at e
   ·cases e;exact .push _ (by nofun)
   ·cases e
 have inn : ∀ {a off len w0:Nat} {rows rows0:List (List D)} {c c0:Option Nat} {lk p0 lk0:Bool},H[a]?=some (.ar w0 rows0 c0 p0 lk0) -> appIn H a off len rows new w c p lk=some (d,H') -> HB H H':=fun ha e=>by
  unfold appIn at e
  split at e
  ·cases e
  ·simp only[Option.some.injEq,Prod.mk.injEq]at e
   obtain⟨_,rfl⟩:=e
   exact .set ha
 have lit : ∀ x w',appLit H x new w' w=some (d,H') -> HB H H':=fun x w' e=>by
  unfold appLit at e
  split at e
  ·split at e
   ·cases e;exact .refl _
   ·cases e
  ·cases e
 unfold appTo at e
 split at e
 ·exact emp _ e
 ·exact emp _ e
 ·unfold appMu at e
  split at e
  ·rename_i ha
   split at e
   ·split at e
    ·cases e;exact .refl _
    ·split at e
     ·split at e
      ·exact inn (arr_eq ha).1 e
      ·cases e
     ·split at e
      ·exact inn (arr_eq ha).1 e
      ·cases e;exact .push _ (by nofun)
   ·cases e
  ·cases e
 ·exact lit _ _ e
 ·exact lit _ _ e
 ·cases e
theorem freeze_hb (m:Nat):(∀ (d:D) (H:Heap) (d':D) (H':Heap),freeze m H d=some (d',H') -> H'.length=H.length) /\
  (∀ (ds:List D) (H:Heap) (ds':List D) (H':Heap),freezeL m H ds=some (ds',H') -> H'.length=H.length) /\
  (∀ (rs:List (List D)) (H:Heap) (rs':List (List D)) (H':Heap),freezeLL m H rs=some (rs',H') -> H'.length=H.length):=by
 induction m with
 | zero =>
  refine⟨fun d H d' H' h=>by simp[freeze_zero]at h,fun ds H ds' H' h => ?_,fun rs H rs' H' h => ?_⟩
  ·cases ds<;>simp[freezeL_nil,freezeL_zero]at h
   obtain⟨_,rfl⟩:=h;rfl
  ·cases rs<;>simp[freezeLL_nil,freezeLL_zero]at h
   obtain⟨_,rfl⟩:=h;rfl
 | succ m ih =>
  obtain⟨ih1,ih2,ih3⟩:=ih
  have h2 : ∀ (ds:List D) (H:Heap) (ds':List D) (H':Heap),freezeL (m+1) H ds=some (ds',H') -> H'.length=H.length:=by
   intro ds
   induction ds with
   | nil=>intro H ds' H' h;simp[freezeL_nil]at h;obtain⟨_,rfl⟩:=h;rfl
   | cons x xs ihl =>
    intro H ds' H' h
    simp only[freezeL_cons]at h
    split at h
    ·rename_i d1 H1 hf
     split at h
     ·rename_i ds1 H2 hf2
      cases h
      exact(ihl _ _ _ hf2).trans (ih1 _ _ _ _ hf)
     ·cases h
    ·cases h
  refine⟨fun d H d' H' h => ?_,h2, ?_⟩
  ·rw [freeze_succ]at h
   split at h<;>first|(cases h;done)|(cases h;rfl)|skip
   ·split at h
    ·split at h
     ·cases h;simp
     ·cases h
    ·cases h
   ·split at h
    ·rename_i hf;cases h;exact ih3 _ _ _ _ hf
    ·cases h
   ·split at h
    ·rename_i hf;cases h;exact ih1 _ _ _ _ hf
    ·cases h
   ·split at h
    ·rename_i hf;cases h;exact ih2 _ _ _ _ hf
    ·cases h
  ·intro rs
   induction rs with
   | nil=>intro H rs' H' h;simp[freezeLL_nil]at h;obtain⟨_,rfl⟩:=h;rfl
   | cons x xs ihl =>
    intro H rs' H' h
    simp only[freezeLL_cons]at h
    split at h
    ·rename_i d1 H1 hf
     split at h
     ·rename_i ds1 H2 hf2
      cases h
      exact(ihl _ _ _ hf2).trans (ih2 _ _ _ _ hf)
     ·cases h
    ·cases h
theorem freezeRows_hb {H:Heap} {rs:List (List D)} {r:List (List D)×Heap} (h:freezeRows H rs=some r):HB H r.2:=(freezeRows_gr h).hb ((freeze_hb deep).2.2 _ _ r.1 _ h)
theorem appD_hb {H H':Heap} {x y d:D} {w bytes:Nat} {p:Bool} (e:appD H x y w bytes p=some (d,H')):HB H H':=by
 unfold appD at e
 split at e
 ·split at e
  ·split at e
   ·rename_i hf;exact(freezeRows_hb hf).trans (appTo_hb e)
   ·cases e
  ·exact appTo_hb e
 ·cases e
def HcOk (base:Bs) (H H1:Heap):HC -> Prop
 | .n | .r | .q | .h=>H1=H
 | .w=>HB H H1
 | .a=>Sb base H H1
 | .d=>True
def HcIn (base:Bs) (H H':Heap):HC -> Prop
 | .n=>True
 | .r=>Sb base H H'
 | .a | .d | .q | .w=>H'=H
 | .h=>HB H H'
def HcOut (H' H1:Heap):HC -> Heap
 | .n | .r | .q | .h=>H'
 | .a | .d | .w=>H1
structure Eff (V:VProg) (cl:FuncId -> List D -> Heap -> CR) (base:Bs) (hc:HC) (op:VOp) (loc sl:List D) (H:Heap) (d:D) (st1:St) (u:Option (Nat×D)):Prop where
 slot:st1.sl=appU u sl
 le:H.length <= st1.hp.length
 ok:HcOk base H st1.hp hc
 us : ∀ k e,u=some (k,e) -> ∃ a x n o,op = .lst a x n /\ a.ev loc sl=some (k,o)
 same : ∀ (loc' sl':List D) (H':Heap),Like op loc sl loc' sl' -> HcIn base H H' hc -> step V cl loc' ⟨sl',H'⟩ op = .v d ⟨appU u sl',HcOut H' st1.hp hc⟩
section
variable {V:VProg} {cl:FuncId -> List D -> Heap -> CR} {base:Bs} {strict:Bool} {op:VOp} {loc sl:List D} {H:Heap} {d:D} {st1:St}
theorem Eff.n {hc:HC} (hcn:hc = .n) {X:Option D} (hX:X=some d) (hst:st1=⟨sl,H⟩)
  (h : ∀ (loc' sl':List D) (H':Heap),Like op loc sl loc' sl' -> step V cl loc' ⟨sl',H'⟩ op=ofO ⟨sl',H'⟩ X):Eff V cl base hc op loc sl H d st1 none:=by
 subst hst;subst hcn
 exact⟨rfl,Nat.le_refl _,rfl,fun k e h=>(by cases h),fun loc' sl' H' hl _=>by rw[h loc' sl' H' hl,hX];rfl⟩
theorem Eff.r {hc:HC} (hcn:hc = .r) {X:Heap -> Option D} (_hX:X H=some d) (hst:st1=⟨sl,H⟩) (hsb : ∀ H',Sb base H H' -> X H'=some d)
  (h : ∀ (loc' sl':List D) (H':Heap),Like op loc sl loc' sl' -> step V cl loc' ⟨sl',H'⟩ op=ofO ⟨sl',H'⟩ (X H')):Eff V cl base hc op loc sl H d st1 none:=by
 subst hst;subst hcn
 exact⟨rfl,Nat.le_refl _,rfl,fun k e h=>(by cases h),fun loc' sl' H' hl hs=>by rw[h loc' sl' H' hl,hsb H' hs];rfl⟩
theorem Eff.q {hc:HC} (hcn:hc = .q) {X:Heap -> Option D} (hX:X H=some d) (hst:st1=⟨sl,H⟩)
  (h : ∀ (loc' sl':List D) (H':Heap),Like op loc sl loc' sl' -> step V cl loc' ⟨sl',H'⟩ op=ofO ⟨sl',H'⟩ (X H')):Eff V cl base hc op loc sl H d st1 none:=by
 subst hst;subst hcn
 exact⟨rfl,Nat.le_refl _,rfl,fun k e h=>(by cases h),fun loc' sl' H' hl hs=>by cases hs;rw[h loc' sl' H hl,hX];rfl⟩
theorem Eff.w {hc:HC} (hcn:hc = .a \/ hc = .d) {ov:Bool} (hsl:st1.sl=sl) (hw:Wr base ov H st1.hp) (hb:base.1 <= H.length) (hov:hc = .a -> ov=true)
  (h : ∀ (loc' sl':List D),Like op loc sl loc' sl' -> step V cl loc' ⟨sl',H⟩ op = .v d ⟨sl',st1.hp⟩):Eff V cl base hc op loc sl H d st1 none:=by
 refine⟨hsl,hw.1, ?_,fun k e h=>(by cases h),fun loc' sl' H' hl hs => ?_⟩
 ·rcases hcn with rfl|rfl
  ·exact hw.2 hb (hov rfl)
  ·trivial
 ·rcases hcn with rfl|rfl
  ·cases hs;exact h loc' sl' hl
  ·cases hs;exact h loc' sl' hl
theorem Eff.h {hc:HC} (hcn:hc = .h) {X:Heap -> Option D} (hst:st1=⟨sl,H⟩) (hsb : ∀ H',HB H H' -> X H'=some d)
  (h : ∀ (loc' sl':List D) (H':Heap),Like op loc sl loc' sl' -> step V cl loc' ⟨sl',H'⟩ op=ofO ⟨sl',H'⟩ (X H')):Eff V cl base hc op loc sl H d st1 none:=by
 subst hst;subst hcn
 exact⟨rfl,Nat.le_refl _,rfl,fun k e h=>(by cases h),fun loc' sl' H' hl hs=>by rw[h loc' sl' H' hl,hsb H' hs];rfl⟩
theorem Eff.wa {hc:HC} (hcn:hc = .a \/ hc = .w) {ov:Bool} (hsl:st1.sl=sl) (hw:Wr base ov H st1.hp) (hhb:HB H st1.hp) (hb:base.1 <= H.length) (hov:hc = .a -> ov=true)
  (h : ∀ (loc' sl':List D),Like op loc sl loc' sl' -> step V cl loc' ⟨sl',H⟩ op = .v d ⟨sl',st1.hp⟩):Eff V cl base hc op loc sl H d st1 none:=by
 refine⟨hsl,hw.1, ?_,fun k e h=>(by cases h),fun loc' sl' H' hl hs => ?_⟩
 ·rcases hcn with rfl|rfl
  ·exact hw.2 hb (hov rfl)
  ·exact hhb
 ·rcases hcn with rfl|rfl
  ·cases hs;exact h loc' sl' hl
  ·cases hs;exact h loc' sl' hl
theorem Like.one {x:O} {loc' sl':List D} (h:Like op loc sl loc' sl') (hx:x∈op.args):x.ev loc' sl'=x.ev loc sl:=h.1 x hx
theorem Like.all {xs:List O} {loc' sl':List D} (h:Like op loc sl loc' sl') (hx : ∀ x∈xs,x∈op.args):xs.map (O.ev loc' sl')=xs.map (O.ev loc sl) :=
 List.map_congr_left fun x hm=>h.1 x (hx x hm)
theorem Like.opt {x:Option O} {loc' sl':List D} (h:Like op loc sl loc' sl') (hx : ∀ y,x=some y -> y∈op.args):x.map (O.ev loc' sl')=x.map (O.ev loc sl):=by
 cases x with
 | none=>rfl
 | some y=>exact congrArg some (h.1 y (hx y rfl))
theorem fits_reads (h:op.fits (some (base,strict)) loc sl=true) {x:O} (hx:x∈op.reads):(x.ev loc sl).under base=true:=by
 cases strict<;>simp only[VOp.fits,Bool.and_eq_true,List.all_eq_true]at h
 ·exact h x hx
 ·exact h.1 x hx
theorem fits_writes (h:op.fits (some (base,true)) loc sl=true) {x:O} (hx:x∈op.writes):(x.ev loc sl).over base=true:=by
 simp only[VOp.fits,Bool.and_eq_true,List.all_eq_true]at h
 exact h.2 x hx
set_option maxHeartbeats 1000000 in
theorem step_eff (hcl:CallFit V cl) (hb:base.1 <= H.length) (hfit:op.fits (some (base,strict)) loc sl=true) (h:step V cl loc ⟨sl,H⟩ op = .v d st1) :
  ∃ u,Eff V cl base (op.hc V strict) op loc sl H d st1 u:=by
 have wr : ∀ {x:O},x∈op.writes -> ((if strict then HC.a else .d) = .a -> (x.ev loc sl).over base=true):=fun{x} hx he=>by
  cases strict with
  | true=>exact fits_writes hfit hx
  | false=>cases he
 have sd:(if strict then HC.a else .d)=HC.a \/ (if strict then HC.a else .d)=HC.d:=by cases strict<;>simp
 cases op with
 | mov x => 
  simp only[step]at h
  cases h
  exact⟨none,.n rfl (X:=some (x.ev loc sl)) rfl rfl (fun loc' sl' H' hl=>by simp only[step,hl.one (x:=x) (by simp[VOp.args])];rfl)⟩
 | pick a b c => 
  obtain⟨h1,h2⟩:=ofO_inv h
  exact⟨none,.n rfl h1 h2 (fun loc' sl' H' hl=>by simp only[step,hl.one (x:=a) (by simp[VOp.args]),hl.one (x:=b) (by simp[VOp.args]),hl.one (x:=c) (by simp[VOp.args])])⟩
 | lal zs => 
  simp only[step]at h
  cases h
  exact⟨none,.n rfl (X:=some (.bx zs)) rfl rfl (fun loc' sl' H' hl=>rfl)⟩
 | lbx x n => 
  obtain⟨h1,h2⟩:=ofO_inv h
  exact⟨none,.n rfl h1 h2 (fun loc' sl' H' hl=>by simp only[step,hl.one (x:=x) (by simp[VOp.args])])⟩
 | hal t zs => 
  simp only[step]at h
  cases h
  exact⟨none,.w (ov:=true) (.inl rfl) rfl (.of_gr _ (.push _ _)) hb (fun _=>rfl) (fun loc' sl' hl=>rfl)⟩
 | hbx t x n => 
  obtain⟨h1,h2⟩:=ofP_inv h
  refine⟨none,.w (ov:=true) (.inl rfl) (by rw[h2]) (.of_gr _ ?_) hb (fun _=>rfl) (fun loc' sl' hl => ?_)⟩
  ·simp only[Option.map_eq_some_iff]at h1
   obtain⟨cs,_,h1⟩:=h1
   simp only[Prod.mk.injEq]at h1
   rw[<- h1.2];exact .push _ _
  ·simp only[step,hl.one (x:=x) (by simp[VOp.args])]
   rw[h1];rfl
 | haa w zs p => 
  simp only[step]at h
  cases h
  exact⟨none,.w (ov:=true) (.inl rfl) rfl (.of_gr _ (.push _ _)) hb (fun _=>rfl) (fun loc' sl' hl=>rfl)⟩
 | lfa a off => 
  simp only[step]at h
  split at h
  ·rename_i k o ha
   cases h
   exact⟨none,.n rfl (X:=some (.lp k (o+off))) rfl rfl (fun loc' sl' H' hl=>by simp only[step,(hl.2 a (by simp[VOp.base])).1,ha];rfl)⟩
  ·cases h
 | lia a ix n w => 
  simp only[step]at h
  split at h
  ·rename_i k o ha
   split at h
   ·rename_i j hj
    cases h
    exact⟨none,.n rfl (X:=some (.lp k (o+j*w))) rfl rfl (fun loc' sl' H' hl=>by simp only[step,(hl.2 a (by simp[VOp.base])).1,ha,hl.one (x:=ix) (by simp[VOp.args]),hj];rfl)⟩
   ·cases h
  ·cases h
 | lld a n agg => 
  simp only[step]at h
  split at h
  ·rename_i k o ha
   split at h
   ·rename_i cs hcs
    split at h
    ·rename_i r hr
     obtain⟨h1,h2⟩:=ofO_inv h
     exact ⟨none,.n rfl h1 h2 (fun loc' sl' H' hl=>by
      have e1:=(hl.2 a (by simp[VOp.base])).1
      have e2:=(hl.2 a (by simp[VOp.base])).2 k o ha
      simp only[boxAt]at hcs
      simp only[step,e1,ha,boxAt,e2,hcs,hr])⟩
    ·cases h
   ·cases h
  ·cases h
 | lst a x n => 
  simp only[step]at h
  split at h
  ·rename_i k o ha
   split at h
   ·rename_i cs hcs
    split at h
    ·rename_i vs hvs
     split at h
     ·rename_i cs' hput
      cases h
      refine⟨some (k,.bx cs'),rfl,Nat.le_refl _,rfl,fun k' e he => ?_,fun loc' sl' H' hl _ => ?_⟩
      ·cases he;exact⟨a,x,n,o,rfl,ha⟩
      ·have e1:=(hl.2 a (by simp[VOp.base])).1
       have e2:=(hl.2 a (by simp[VOp.base])).2 k o ha
       simp only[boxAt]at hcs
       simp only[step,e1,ha,boxAt,e2,hcs,hl.one (x:=x) (by simp[VOp.args]),hvs,hput]
       rfl
     ·cases h
    ·cases h
   ·cases h
  ·cases h
 | fad x off => 
  obtain⟨h1,h2⟩:=ofO_inv h
  exact⟨none,.n rfl h1 h2 (fun loc' sl' H' hl=>by simp only[step,hl.one (x:=x) (by simp[VOp.args])])⟩
 | iad x ix w => 
  obtain⟨h1,h2⟩:=ofO_inv h
  exact ⟨none,.r rfl (X:=fun H=>iadD H (x.ev loc sl) (ix.ev loc sl) w) h1 h2 (fun H' hs=>iadD_sb hs (fits_reads hfit (by simp[VOp.reads])) h1)
   (fun loc' sl' H' hl=>by simp only[step,hl.one (x:=x) (by simp[VOp.args]),hl.one (x:=ix) (by simp[VOp.args])])⟩
 | iar x ix n w => 
  obtain⟨h1,h2⟩:=ofO_inv h
  exact ⟨none,.r rfl (X:=fun H=>iarD H (x.ev loc sl) (ix.ev loc sl) n w) h1 h2 (fun H' hs=>iarD_sb hs (fits_reads hfit (by simp[VOp.reads])) h1)
   (fun loc' sl' H' hl=>by simp only[step,hl.one (x:=x) (by simp[VOp.args]),hl.one (x:=ix) (by simp[VOp.args])])⟩
 | ld x n agg => 
  simp only[step]at h
  split at h
  ·rename_i r hr
   obtain⟨h1,h2⟩:=ofO_inv h
   exact ⟨none,.r rfl (X:=fun H=>match ldAt H (x.ev loc sl) n with|some r=>val agg r|none=>none) (by simp only[hr];exact h1) h2
    (fun H' hs=>by simp only[ldAt_sb hs (fits_reads hfit (by simp[VOp.reads])) hr];exact h1)
    (fun loc' sl' H' hl=>by
     simp only[step,hl.one (x:=x) (by simp[VOp.args])]
     cases ldAt H' (x.ev loc sl) n<;>rfl)⟩
  ·cases h
 | ldq x n agg => 
  simp only[step]at h
  split at h
  ·rename_i r hr
   obtain⟨h1,h2⟩:=ofO_inv h
   exact ⟨none,.q rfl (X:=fun H=>match ldAt H (x.ev loc sl) n with|some r=>val agg r|none=>none) (by simp only[hr];exact h1) h2
    (fun loc' sl' H' hl=>by
     simp only[step,hl.one (x:=x) (by simp[VOp.args])]
     cases ldAt H' (x.ev loc sl) n<;>rfl)⟩
  ·cases h
 | ldh x n agg => 
  simp only[step]at h
  split at h
  ·rename_i r hr
   obtain⟨h1,h2⟩:=ofO_inv h
   exact ⟨none,.h rfl (X:=fun H=>match ldhD H (x.ev loc sl) n with|some r=>val agg r|none=>none) h2
    (fun H' hs=>by simp only[ldhD_hb hs hr];exact h1)
    (fun loc' sl' H' hl=>by
     simp only[step,hl.one (x:=x) (by simp[VOp.args])]
     cases ldhD H' (x.ev loc sl) n<;>rfl)⟩
  ·cases h
 | st x v n => 
  simp only[step]at h
  split at h
  ·rename_i vs hvs
   obtain⟨h1,h2,h3⟩:=ofH_inv h
   exact ⟨none,.w sd (by rw[h3]) (stAt_wr h1) hb (wr (by simp[VOp.writes])) (fun loc' sl' hl=>by
    simp only[step,hl.one (x:=x) (by simp[VOp.args]),hl.one (x:=v) (by simp[VOp.args]),hvs,h1,ofH,h2])⟩
  ·cases h
 | bin o x y => 
  obtain⟨h1,h2⟩:=ofO_inv h
  exact⟨none,.n rfl h1 h2 (fun loc' sl' H' hl=>by simp only[step,hl.one (x:=x) (by simp[VOp.args]),hl.one (x:=y) (by simp[VOp.args])])⟩
 | eqv neg k x y => 
  obtain⟨h1,h2⟩:=ofO_inv h
  exact⟨none,.n rfl h1 h2 (fun loc' sl' H' hl=>by simp only[step,hl.one (x:=x) (by simp[VOp.args]),hl.one (x:=y) (by simp[VOp.args])])⟩
 | un o x => 
  obtain⟨h1,h2⟩:=ofO_inv h
  exact⟨none,.n rfl h1 h2 (fun loc' sl' H' hl=>by simp only[step,hl.one (x:=x) (by simp[VOp.args])])⟩
 | cvi k x => 
  obtain⟨h1,h2⟩:=ofO_inv h
  exact⟨none,.n rfl h1 h2 (fun loc' sl' H' hl=>by simp only[step,hl.one (x:=x) (by simp[VOp.args])])⟩
 | cvs x => 
  obtain⟨h1,h2⟩:=ofO_inv h
  exact⟨none,.n rfl h1 h2 (fun loc' sl' H' hl=>by simp only[step,hl.one (x:=x) (by simp[VOp.args])])⟩
 | cbs x => 
  obtain⟨h1,h2⟩:=ofO_inv h
  exact ⟨none,.q rfl (X:=fun H=>cbsD H (x.ev loc sl)) h1 h2
   (fun loc' sl' H' hl=>by simp only[step,hl.one (x:=x) (by simp[VOp.args])])⟩
 | csb x => 
  obtain⟨h1,h2⟩:=ofO_inv h
  exact⟨none,.n rfl h1 h2 (fun loc' sl' H' hl=>by simp only[step,hl.one (x:=x) (by simp[VOp.args])])⟩
 | agc zs parts => 
  obtain⟨h1,h2⟩:=ofO_inv h
  exact ⟨none,.n rfl h1 h2 (fun loc' sl' H' hl=>by
   have e:(parts.map fun p=>(p.1,p.2.1,O.ev loc' sl' p.2.2))=parts.map fun p=>(p.1,p.2.1,O.ev loc sl p.2.2):=List.map_congr_left fun p hp=>by
    rw[hl.one (x:=p.2.2) (by simp only[VOp.args,List.mem_map];exact⟨p,hp,rfl⟩)]
   show ofO _ (Option.map D.ag (fillC zs (parts.map fun p=>(p.1,p.2.1,O.ev loc' sl' p.2.2))))=_
   rw[e])⟩
 | bsl w len zs parts p => 
  obtain⟨h1,h2⟩:=ofP_inv h
  exact ⟨none,.w (ov:=true) (.inl rfl) (by rw[h2]) (.of_gr _ (bslD_gr h1)) hb (fun _=>rfl) (fun loc' sl' hl=>by
   have e:(parts.map fun p=>(p.1,O.ev loc' sl' p.2))=parts.map fun p=>(p.1,O.ev loc sl p.2):=List.map_congr_left fun p hp=>by
    rw[hl.one (x:=p.2) (by simp only[VOp.args,List.mem_map];exact⟨p,hp,rfl⟩)]
   show ofP _ (bslD H w len zs (parts.map fun p=>(p.1,O.ev loc' sl' p.2)) p)=_
   rw[e]
   have h1':bslD H w len zs (parts.map fun p=>(p.1,O.ev loc sl p.2)) p=some (d,st1.hp):=h1
   rw[h1'];rfl)⟩
 | bsv w len zs parts => 
  obtain⟨h1,h2⟩:=ofO_inv h
  exact ⟨none,.n rfl h1 h2 (fun loc' sl' H' hl=>by
   have e:(parts.map fun p=>(p.1,O.ev loc' sl' p.2))=parts.map fun p=>(p.1,O.ev loc sl p.2):=List.map_congr_left fun p hp=>by
    rw[hl.one (x:=p.2) (by simp only[VOp.args,List.mem_map];exact⟨p,hp,rfl⟩)]
   show ofO _ (bsvD w len zs (parts.map fun p=>(p.1,O.ev loc' sl' p.2)))=_
   rw[e])⟩
 | len k x =>
  obtain⟨h1,h2⟩:=ofO_inv h
  clear wr
  match k,hfit,h,h1 with
  | 0,hfit,h,h1=>exact⟨none,.n rfl h1 h2 (fun loc' sl' H' hl=>by simp only[step,hl.one (x:=x) (by simp[VOp.args])];rfl)⟩
  | 1,hfit,h,h1=>exact⟨none,.n rfl h1 h2 (fun loc' sl' H' hl=>by simp only[step,hl.one (x:=x) (by simp[VOp.args])];rfl)⟩
  | k+2,hfit,h,h1 =>
   exact ⟨none,.r rfl (X:=fun H=>lenD H (k+2) (x.ev loc sl)) h1 h2 (fun H' hs=>lenD_sb hs (fits_reads hfit (by simp[VOp.reads])) h1)
    (fun loc' sl' H' hl=>by simp only[step,hl.one (x:=x) (by simp[VOp.args])])⟩
 | cap x => 
  obtain⟨h1,h2⟩:=ofO_inv h
  exact ⟨none,.r rfl (X:=fun H=>capD H (x.ev loc sl)) h1 h2 (fun H' hs=>capD_sb hs (fits_reads hfit (by simp[VOp.reads])) h1)
   (fun loc' sl' H' hl=>by simp only[step,hl.one (x:=x) (by simp[VOp.args])])⟩
 | app x y w bytes p => 
  obtain⟨h1,h2⟩:=ofP_inv h
  exact ⟨none,.wa (by simp only[VOp.hc];cases strict<;>simp) (by rw[h2]) (appD_wr h1) (appD_hb h1) hb (fun he=>by
   simp only[VOp.hc]at he
   cases strict with
   | true=>exact fits_writes hfit (by simp[VOp.writes])
   | false=>cases he) (fun loc' sl' hl=>by
   try simp only at h1
   simp only[step,hl.one (x:=x) (by simp[VOp.args]),hl.one (x:=y) (by simp[VOp.args]),h1,ofP])⟩
 | cpy x y w => 
  obtain⟨h1,h2⟩:=ofP_inv h
  exact ⟨none,.w sd (by rw[h2]) (cpyD_wr h1) hb (wr (by simp[VOp.writes])) (fun loc' sl' hl=>by
   try simp only at h1
   simp only[step,hl.one (x:=x) (by simp[VOp.args]),hl.one (x:=y) (by simp[VOp.args]),h1,ofP])⟩
 | mks l c w bytes zs p => 
  obtain⟨h1,h2⟩:=ofP_inv h
  exact ⟨none,.w (ov:=true) (.inl rfl) (by rw[h2]) (.of_gr _ (mksD_gr h1)) hb (fun _=>rfl) (fun loc' sl' hl=>by
   try simp only at h1
   simp only[step,hl.one (x:=l) (by simp[VOp.args]),hl.one (x:=c) (by simp[VOp.args]),h1,ofP])⟩
 | sli str w x lo hi mx => 
  have eo : ∀ {loc' sl':List D},Like (.sli str w x lo hi mx) loc sl loc' sl' -> lo.map (O.ev loc' sl')=lo.map (O.ev loc sl) /\ hi.map (O.ev loc' sl')=hi.map (O.ev loc sl) /\ mx.map (O.ev loc' sl')=mx.map (O.ev loc sl):=fun hl =>
   ⟨hl.opt (x:=lo) (by simp +contextual [VOp.args]),hl.opt (x:=hi) (by simp +contextual [VOp.args]),hl.opt (x:=mx) (by simp +contextual [VOp.args])⟩
  cases str with
  | true =>
   obtain⟨h1,h2⟩:=ofO_inv h
   exact ⟨none,.r rfl (X:=fun _=>sliceS (x.ev loc sl) (lo.map (O.ev loc sl)) (hi.map (O.ev loc sl)) (mx.map (O.ev loc sl))) h1 h2 (fun H' hs=>h1)
    (fun loc' sl' H' hl=>by
     obtain⟨e1,e2,e3⟩:=eo hl
     simp only[step,hl.one (x:=x) (by simp[VOp.args]),e1,e2,e3])⟩
  | false =>
   obtain⟨h1,h2⟩:=ofO_inv h
   exact ⟨none,.r rfl (X:=fun H=>sliceD H w (x.ev loc sl) (lo.map (O.ev loc sl)) (hi.map (O.ev loc sl)) (mx.map (O.ev loc sl))) h1 h2 (fun H' hs=>sliceD_sb hs (fits_reads hfit (by simp[VOp.reads])) h1)
    (fun loc' sl' H' hl=>by
     obtain⟨e1,e2,e3⟩:=eo hl
     simp only[step,hl.one (x:=x) (by simp[VOp.args]),e1,e2,e3])⟩
 | sla x n w lo hi => 
  obtain⟨h1,h2⟩:=ofO_inv h
  exact ⟨none,.w (ov:=true) (.inl rfl) (by rw[h2]) (by rw[h2];exact .of_gr _ (.refl _)) hb (fun _=>rfl) (fun loc' sl' hl=>by
   simp only[step,hl.one (x:=x) (by simp[VOp.args])]
   rw[hl.opt (x:=lo) (by simp +contextual [VOp.args]),hl.opt (x:=hi) (by simp +contextual [VOp.args])]
   try simp only at h1
   rw[h1,h2];rfl)⟩
 | ixs x ix => 
  obtain⟨h1,h2⟩:=ofO_inv h
  exact⟨none,.n rfl h1 h2 (fun loc' sl' H' hl=>by simp only[step,hl.one (x:=x) (by simp[VOp.args]),hl.one (x:=ix) (by simp[VOp.args])])⟩
 | fld x off n agg => 
  obtain⟨h1,h2⟩:=ofO_inv h
  exact⟨none,.n rfl h1 h2 (fun loc' sl' H' hl=>by simp only[step,hl.one (x:=x) (by simp[VOp.args])])⟩
 | ext x j => 
  obtain⟨h1,h2⟩:=ofO_inv h
  exact⟨none,.n rfl h1 h2 (fun loc' sl' H' hl=>by simp only[step,hl.one (x:=x) (by simp[VOp.args])])⟩
 | mkf f xs ys => 
  simp only[step]at h
  cases h
  exact ⟨none,.n rfl (X:=some (.fn f (xs.map (O.ev loc sl)) (ys.map (O.ev loc sl)))) rfl rfl (fun loc' sl' H' hl=>by
   simp only[step]
   rw[hl.all (xs:=xs) (by simp +contextual [VOp.args]),hl.all (xs:=ys) (by simp +contextual [VOp.args])];rfl)⟩
 | mkm => 
  simp only[step]at h
  cases h
  exact⟨none,.w (ov:=true) (.inl rfl) rfl (.of_gr _ (.push _ _)) hb (fun _=>rfl) (fun loc' sl' hl=>rfl)⟩
 | lk kk m k ok zero => 
  obtain⟨h1,h2⟩:=ofO_inv h
  exact ⟨none,.r rfl (X:=fun H=>lkD H kk (m.ev loc sl) (k.ev loc sl) ok zero) h1 h2 (fun H' hs=>lkD_sb hs (fits_reads hfit (by simp[VOp.reads])) h1)
   (fun loc' sl' H' hl=>by simp only[step,hl.one (x:=m) (by simp[VOp.args]),hl.one (x:=k) (by simp[VOp.args])])⟩
 | mup kk m k v => 
  obtain⟨h1,h2,h3⟩:=ofH_inv h
  exact ⟨none,.w sd (by rw[h3]) (mupD_wr h1) hb (wr (by simp[VOp.writes])) (fun loc' sl' hl=>by
   try simp only at h1
   simp only[step,hl.one (x:=m) (by simp[VOp.args]),hl.one (x:=k) (by simp[VOp.args]),hl.one (x:=v) (by simp[VOp.args]),h1,ofH,h2])⟩
 | mki t x => 
  simp only[step]at h
  cases h
  exact⟨none,.n rfl (X:=some (.ifc t (x.ev loc sl))) rfl rfl (fun loc' sl' H' hl=>by simp only[step,hl.one (x:=x) (by simp[VOp.args])];rfl)⟩
 | tas x t ok zero => 
  obtain⟨h1,h2⟩:=ofO_inv h
  exact⟨none,.n rfl h1 h2 (fun loc' sl' H' hl=>by simp only[step,hl.one (x:=x) (by simp[VOp.args])])⟩
 | nck x => 
  obtain⟨h1,h2⟩:=ofO_inv h
  exact⟨none,.n rfl h1 h2 (fun loc' sl' H' hl=>by simp only[step,hl.one (x:=x) (by simp[VOp.args])])⟩
 | mx xs => 
  obtain⟨h1,h2⟩:=ofO_inv h
  exact⟨none,.n rfl h1 h2 (fun loc' sl' H' hl=>by simp only[step];rw[hl.all (xs:=xs) (by simp[VOp.args])])⟩
 | mn xs => 
  obtain⟨h1,h2⟩:=ofO_inv h
  exact⟨none,.n rfl h1 h2 (fun loc' sl' H' hl=>by simp only[step];rw[hl.all (xs:=xs) (by simp[VOp.args])])⟩
 | call f xs => 
  simp only[step]at h
  obtain⟨h1,h2⟩:=toR_inv h
  refine ⟨none,.w (ov:=match V.fn f with|some vf=>vf.pure|none=>false) ?_ (by rw[h2]) ⟨hcl.le _ _ _ _ _ h1,fun hb ho => ?_⟩ hb ?_ (fun loc' sl' hl=>by
   simp only[step]
   rw[hl.all (xs:=xs) (by simp[VOp.args]),h1]
   rfl)⟩
  ·simp only[VOp.hc]
   split
   ·split<;>simp
   ·simp
  ·split at ho
   ·rename_i vf hvf;exact(hcl.gr _ _ _ _ _ vf hvf ho h1).2.mono hb
   ·cases ho
  ·simp only[VOp.hc]
   cases hv:V.fn f with
   | none=>simp
   | some vf=>cases hp:vf.pure<;>simp[hp]
 | calv x xs => 
  simp only[step]at h
  split at h
  ·rename_i f first captured hx
   split at h
   ·cases h
   rename_i hny
   obtain⟨h1,h2⟩:=toR_inv h
   exact ⟨none,.w (ov:=false) (.inr rfl) (by rw[h2]) ⟨hcl.le _ _ _ _ _ h1,fun _ ho=>by cases ho⟩ hb (fun hh=>by cases hh) (fun loc' sl' hl=>by
    simp only[step,hl.one (x:=x) (by simp[VOp.args]),hx,if_neg hny]
    rw[hl.all (xs:=xs) (by simp +contextual [VOp.args]),h1]
    rfl)⟩
  ·rename_i y hx
   obtain⟨h1,h2⟩:=toR_inv h
   exact ⟨none,.w (ov:=false) (.inr rfl) (by rw[h2]) ⟨hcl.le _ _ _ _ _ h1,fun _ ho=>by cases ho⟩ hb (fun hh=>by cases hh) (fun loc' sl' hl=>by
    simp only[step,hl.one (x:=x) (by simp[VOp.args]),hx]
    rw[hl.all (xs:=xs) (by simp +contextual [VOp.args]),h1]
    rfl)⟩
  ·cases h
 | inv x m xs => 
  simp only[step]at h
  split at h
  ·rename_i t v hx
   split at h
   ·rename_i f hf
    obtain⟨h1,h2⟩:=toR_inv h
    exact ⟨none,.w (ov:=false) (.inr rfl) (by rw[h2]) ⟨hcl.le _ _ _ _ _ h1,fun _ ho=>by cases ho⟩ hb (fun hh=>by cases hh) (fun loc' sl' hl=>by
     simp only[step,hl.one (x:=x) (by simp[VOp.args]),hx,hf]
     rw[hl.all (xs:=xs) (by simp +contextual [VOp.args]),h1]
     rfl)⟩
   ·cases h
  ·cases h
 | pan x=>simp only[step,panD]at h;split at h<;>cases h
 | stk=>simp only[step]at h;cases h
 | ixa x ix n w agg => 
  obtain⟨h1,h2⟩:=ofO_inv h
  exact⟨none,.n rfl h1 h2 (fun loc' sl' H' hl=>by simp only[step,hl.one (x:=x) (by simp[VOp.args]),hl.one (x:=ix) (by simp[VOp.args])])⟩
 | calvx x xs => 
  simp only[step]at h
  split at h
  ·rename_i f first captured hx
   split at h
   ·cases h
   rename_i hny
   obtain⟨h1,h2⟩:=toR_inv h
   have h1':=gros_inv h1
   refine⟨none,.w (ov:=true) (.inl rfl) (by rw[h2]) (.of_gr _ (growH_gr h1'.2)) hb (fun _=>rfl) (fun loc' sl' hl => ?_)⟩
   simp only[step,hl.one (x:=x) (by simp[VOp.args]),hx,if_neg hny]
   rw[hl.all (xs:=xs) (by simp +contextual [VOp.args]),h1]
   rfl
  ·cases h
 | cpl f xs => 
  simp only[step]at h
  cases hv:V.fn f with
  | none=>rw[hv]at h;cases h
  | some vf =>
   rw[hv]at h
   simp only at h
   split at h
   ·rename_i hc
    obtain⟨h1,h2⟩:=toR_inv h
    have h1':=rets_inv h1
    simp only[Bool.and_eq_true,Bool.not_eq_true']at hc
    obtain⟨g1,g2⟩:=hcl.pl _ _ _ _ _ vf hv hc.1.1 hc.1.2 hc.2 h1'
    refine⟨none,.n rfl (X:=some d) rfl (by rw[h2,g1]) (fun loc' sl' H' hl => ?_)⟩
    simp only[step,hv]
    rw[hl.all (xs:=xs) (by simp[VOp.args]),g2 H']
    simp only[hc.1.1,hc.1.2,hc.2]
    rfl
   ·cases h
 | callp f xs => 
  simp only[step]at h
  obtain⟨h1,h2⟩:=toR_inv h
  exact ⟨none,.w (ov:=false) (.inr rfl) (by rw[h2]) ⟨hcl.le _ _ _ _ _ h1,fun _ ho=>by cases ho⟩ hb (fun hh=>by cases hh) (fun loc' sl' hl=>by
   simp only[step]
   rw[hl.all (xs:=xs) (by simp[VOp.args]),h1]
   rfl)⟩
 | gia g ix n w => 
  obtain⟨h1,h2⟩:=ofO_inv h
  exact⟨none,.n rfl h1 h2 (fun loc' sl' H' hl=>by simp only[step,hl.one (x:=ix) (by simp[VOp.args])])⟩
 | calx f xs => 
  simp only[step]at h
  obtain⟨h1,h2⟩:=toR_inv h
  have h1':=adds_inv h1
  obtain⟨t,ht⟩:=(extH_iff _ _).1 h1'.2
  refine⟨none,.w (ov:=true) (.inl rfl) (by rw[h2]) (.of_gr _ (by rw[ht];exact .push _ _)) hb (fun _=>rfl) (fun loc' sl' hl => ?_)⟩
  simp only[step]
  rw[hl.all (xs:=xs) (by simp[VOp.args]),h1]
  rfl
end
section
variable {V:VProg} {cl:FuncId -> List D -> Heap -> CR} {base:Bs} {strict:Bool} {vos:List VOper} {rt:List (Option Nat)}
def upds (us:List (Nat×D)) (sl:List D):List D:=us.foldl (fun s u=>s.set u.1 u.2) sl
theorem upds_get : ∀ (us:List (Nat×D)) (sl:List D) (k:Nat),(∀ u∈us,u.1≠k) -> (upds us sl)[k]?=sl[k]?
 | [],_,_,_=>rfl
 | u::us,sl,k,h=>by
  have:=upds_get us (sl.set u.1 u.2) k (fun v hv=>h v (List.mem_cons_of_mem _ hv))
  unfold upds at *
  rw[List.foldl_cons,this,List.getElem?_set_ne (h u List.mem_cons_self)]
theorem upds_set : ∀ (us:List (Nat×D)) (sl:List D) (k:Nat) (d:D),(∀ u∈us,u.1≠k) -> upds us (sl.set k d)=(upds us sl).set k d
 | [],_,_,_,_=>rfl
 | u::us,sl,k,d,h=>by
  have:=upds_set us (sl.set u.1 u.2) k d (fun v hv=>h v (List.mem_cons_of_mem _ hv))
  unfold upds at *
  rw[List.foldl_cons,List.foldl_cons, <- this,List.set_comm _ _ (h u List.mem_cons_self).symm]
theorem upds_comm : ∀ (vs us:List (Nat×D)) (sl:List D),(∀ u∈us, ∀ v∈vs,u.1≠v.1) -> upds vs (upds us sl)=upds us (upds vs sl)
 | [],_,_,_=>rfl
 | v::vs,us,sl,h=>by
  have:=upds_comm vs us (sl.set v.1 v.2) (fun u hu w hw=>h u hu w (List.mem_cons_of_mem _ hw))
  show upds vs ((upds us sl).set v.1 v.2)=upds us (upds vs (sl.set v.1 v.2))
  rw[<- upds_set us sl v.1 v.2 (fun u hu=>h u hu v List.mem_cons_self)]
  exact this
def keepU (keep:Option Nat) (d:D):List (Nat×D) :=
 match keep with
 | none=>[]
 | some k=>[(k,d)]
theorem upds_step (u:Option (Nat×D)) (keep:Option Nat) (d:D) (sl:List D):setSl (appU u sl) keep d=upds (u.toList++keepU keep d) sl:=by
 cases u<;>cases keep<;>rfl
def LP (vos:List VOper) (rt:List (Option Nat)) (loc:List D):Prop :=
 ∀ (i:Nat) (vo:VOper) (k o:Nat),vos[i]?=some vo -> vo.op.isAddr=true -> loc[i]?=some (.lp k o) -> rt[i]?=some (some k)
structure BaseOk (vos:List VOper) (rt:List (Option Nat)):Prop where
 addr : ∀ (i:Nat) (vo:VOper) (j:Nat),vos[i]?=some vo -> AB.lo j∈vo.op.base -> ∃ vj,vos[j]?=some vj /\ vj.op.isAddr=true
 step : ∀ (i:Nat) (vo:VOper),vos[i]?=some vo -> rt[i]?=some (rootStep rt vo)
structure Inv (base:Bs) (vos:List VOper) (rt:List (Option Nat)) (loc:List D) (st:St):Prop where
 len:loc.length=vos.length
 b:base.1 <= st.hp.length
 lp:LP vos rt loc
def LikeR (rt:List (Option Nat)) (o:VOper) (loc sl loc' sl':List D):Prop :=
 (∀ j∈o.locR,loc'[j]?=loc[j]?) /\ ∀ k∈o.slR rt,sl'[k]?=sl[k]?
theorem LikeR.ev {o:VOper} {loc sl loc' sl':List D} (h:LikeR rt o loc sl loc' sl') {x:O} (h1 : ∀ j∈x.locs,j∈o.locR) (h2 : ∀ k∈x.slots,k∈o.slR rt):x.ev loc' sl'=x.ev loc sl:=by
 cases x with
 | l i=>simp only[O.ev,List.getD_eq_getElem?_getD,h.1 i (h1 i (by simp[O.locs]))]
 | s k=>simp only[O.ev,List.getD_eq_getElem?_getD,h.2 k (h2 k (by simp[O.slots]))]
 | c d=>rfl
theorem LikeR.wants {o:VOper} {loc sl loc' sl':List D} (h:LikeR rt o loc sl loc' sl'):o.wants loc' sl'=o.wants loc sl:=by
 unfold VOper.wants
 cases hg:o.guard with
 | none=>rfl
 | some p =>
  obtain⟨x,w⟩:=p
  simp only
  rw[h.ev (x:=x) (fun j hj=>by simp only[VOper.locR,hg];exact List.mem_append_right _ hj) (fun k hk=>by simp only[VOper.slR,hg];exact List.mem_append_right _ hk)]
theorem LikeR.args {o:VOper} {loc sl loc' sl':List D} (h:LikeR rt o loc sl loc' sl') {x:O} (hx:x∈o.op.args):x.ev loc' sl'=x.ev loc sl :=
 h.ev (fun j hj=>List.mem_append_left _ (List.mem_append_left _ (List.mem_flatMap.2 ⟨x,hx,hj⟩))) (fun k hk=>List.mem_append_left _ (List.mem_append_left _ (List.mem_flatMap.2 ⟨x,hx,hk⟩)))
theorem LikeR.like {o:VOper} {i:Nat} {loc sl loc' sl':List D} (bo:BaseOk vos rt) (ho:vos[i]?=some o) (hlp:LP vos rt loc) (h:LikeR rt o loc sl loc' sl'):Like o.op loc sl loc' sl':=by
 refine⟨fun x hx=>h.args hx,fun a ha => ?_⟩
 have hl : ∀ j∈a.locs,loc'[j]?=loc[j]?:=fun j hj=>h.1 j (List.mem_append_left _ (List.mem_append_right _ (List.mem_flatMap.2 ⟨a,ha,hj⟩)))
 have hs : ∀ k∈rootOf rt a,sl'[k]?=sl[k]?:=fun k hk=>h.2 k (List.mem_append_left _ (List.mem_append_right _ (List.mem_flatMap.2 ⟨a,ha,hk⟩)))
 cases a with
 | sl k =>
  have hk:=hs k (by simp[rootOf])
  refine⟨by simp only[AB.ev,hk],fun k' o' e => ?_⟩
  simp only[AB.ev]at e
  split at e
  ·cases e;exact hk
  ·cases e
 | lo j =>
  have hj:=hl j (by simp[AB.locs])
  refine⟨by simp only[AB.ev,hj],fun k' o' e => ?_⟩
  simp only[AB.ev]at e
  split at e
  ·rename_i hlj
   cases e
   obtain⟨vj,h1,h2⟩:=bo.addr i o j ho ha
   exact hs k' (by simp[rootOf,hlp j vj k' _ h1 h2 hlj])
  ·cases e
theorem reads_args (op:VOp) : ∀ x∈op.reads,x∈op.args:=by
 cases op with
 | len k x=>match k with
  | 0=>simp[VOp.reads]
  | 1=>simp[VOp.reads]
  | k+2=>simp[VOp.reads,VOp.args]
 | _=>simp[VOp.reads,VOp.args]
theorem writes_args (op:VOp) : ∀ x∈op.writes,x∈op.args:=by
 cases op<;>simp[VOp.writes,VOp.args]
theorem all_ext {α:Type} {xs:List α} {f g:α -> Bool} (h : ∀ x∈xs,f x=g x):xs.all f=xs.all g:=by
 induction xs with
 | nil=>rfl
 | cons x xs ih=>rw[List.all_cons,List.all_cons,h x List.mem_cons_self,ih (fun y hy=>h y (List.mem_cons_of_mem _ hy))]
theorem LikeR.fits {o:VOper} {loc sl loc' sl':List D} (h:LikeR rt o loc sl loc' sl'):o.op.fits (some (base,strict)) loc' sl'=o.op.fits (some (base,strict)) loc sl:=by
 have h1:(o.op.reads.all fun x=>(x.ev loc' sl').under base)=o.op.reads.all fun x=>(x.ev loc sl).under base :=
  all_ext fun x hx=>by rw[h.args (reads_args _ x hx)]
 have h2:(o.op.writes.all fun x=>(x.ev loc' sl').over base)=o.op.writes.all fun x=>(x.ev loc sl).over base :=
  all_ext fun x hx=>by rw[h.args (writes_args _ x hx)]
 cases strict<;>simp only[VOp.fits,h1,h2]
structure EffR (V:VProg) (cl:FuncId -> List D -> Heap -> CR) (base:Bs) (strict:Bool) (vos:List VOper) (rt:List (Option Nat)) (i:Nat) (o:VOper) (loc:List D) (st:St) (loc1:List D) (st1:St) (d:D) (us:List (Nat×D)):Prop where
 at_:loc1=loc.set i d
 slot:st1.sl=upds us st.sl
 ks : ∀ u∈us,u.1∈o.slW rt
 le:st.hp.length <= st1.hp.length
 ok:HcOk base st.hp st1.hp (o.op.hc V strict)
 same : ∀ (loc' sl':List D) (H':Heap),LikeR rt o loc st.sl loc' sl' -> HcIn base st.hp H' (o.op.hc V strict) ->
  one V cl (some (base,strict)) vos i loc' ⟨sl',H'⟩=some (loc'.set i d,⟨upds us sl',HcOut H' st1.hp (o.op.hc V strict)⟩)
theorem HcOk.refl (base:Bs) (H:Heap) (c:HC):HcOk base H H c:=by
 cases c<;>first|rfl|trivial|exact Sb.refl _ _|exact HB.refl _
theorem one_eff (hcl:CallFit V cl) (bo:BaseOk vos rt) {i:Nat} {o:VOper} {loc loc1:List D} {st st1:St} (inv:Inv base vos rt loc st) (ho:vos[i]?=some o) (h:one V cl (some (base,strict)) vos i loc st=some (loc1,st1)) :
  ∃ d us,EffR V cl base strict vos rt i o loc st loc1 st1 d us:=by
 obtain⟨sl,H⟩:=st
 unfold one at h
 simp only[ho]at h
 split at h
 ·rename_i hw
  split at h
  ·rename_i hf
   split at h
   ·rename_i d st2 hs
    cases h
    obtain⟨u,e⟩:=step_eff hcl inv.b hf hs
    refine⟨d,u.toList++keepU o.keep d,rfl, ?_,fun v hv => ?_,e.le,e.ok,fun loc' sl' H' hl hin => ?_⟩
    ·show setSl st2.sl o.keep d=_
     rw[e.slot,upds_step]
    ·rcases List.mem_append.1 hv with hv|hv
     ·cases u with
      | none=>cases hv
      | some q =>
       obtain⟨k,x⟩:=q
       simp only[Option.toList_some,List.mem_singleton]at hv
       subst hv
       obtain⟨a,x',n,off,hop,hev⟩:=e.us k x rfl
       simp only[VOper.slW,hop]
       refine List.mem_append_right _ ?_
       cases a with
       | sl k' =>
        simp only[AB.ev]at hev
        split at hev
        ·cases hev;simp[rootOf]
        ·cases hev
       | lo j =>
        simp only[AB.ev]at hev
        split at hev
        ·rename_i hlj
         cases hev
         obtain⟨vj,h1,h2⟩:=bo.addr i o j ho (by rw[hop];simp[VOp.base])
         simp[rootOf,inv.lp j vj _ _ h1 h2 hlj]
        ·cases hev
     ·cases hk:o.keep with
      | none=>rw[hk]at hv;cases hv
      | some k =>
       rw[hk]at hv
       simp only[keepU,List.mem_singleton]at hv
       subst hv
       simp[VOper.slW,hk]
    ·unfold one
     simp only[ho,hl.wants]
     simp only[hw,hl.fits,hf,e.same loc' sl' H' (hl.like bo ho inv.lp) hin,upds_step]
   ·cases h
  ·cases h
 ·rename_i hw
  cases h
  refine⟨.u,keepU o.keep .u,rfl,upds_step none o.keep .u sl,fun v hv => ?_,Nat.le_refl _,.refl _ _ _,fun loc' sl' H' hl hin => ?_⟩
  ·cases hk:o.keep with
   | none=>rw[hk]at hv;cases hv
   | some k =>
    rw[hk]at hv
    simp only[keepU,List.mem_singleton]at hv
    subst hv
    simp[VOper.slW,hk]
  ·unfold one
   simp only[ho,hl.wants,hw,Option.some.injEq,Prod.mk.injEq,St.mk.injEq,true_and]
   refine⟨upds_step none o.keep .u sl', ?_⟩
   cases hc:o.op.hc V strict<;>rw[hc]at hin<;>first|rfl|exact hin
 ·cases h
theorem one_inv (hcl:CallFit V cl) (bo:BaseOk vos rt) {i:Nat} {loc loc1:List D} {st st1:St} (inv:Inv base vos rt loc st) (h:one V cl (some (base,strict)) vos i loc st=some (loc1,st1)):Inv base vos rt loc1 st1:=by
 cases ho:vos[i]? with
 | none=>unfold one at h;simp only[ho]at h;cases h;exact inv
 | some o =>
  obtain⟨d,us,e⟩:=one_eff hcl bo inv ho h
  refine⟨by rw[e.at_];simpa using inv.len,Nat.le_trans inv.b e.le,fun j vo k off hj ha hl => ?_⟩
  by_cases hij:i=j
  ·subst hij
   rw[ho]at hj;cases hj
   have hi:i<loc.length:=by rw[inv.len];exact lt_of_get ho
   rw[e.at_,List.getElem?_set_self hi]at hl
   cases hl
   have hrt:=bo.step i o ho
   rw[hrt]
   obtain⟨sl,H⟩:=st
   unfold one at h
   simp only[ho]at h
   split at h
   ·split at h
    ·split at h
     ·rename_i d' st2 hs
      have hd:d' = .lp k off:=by
       cases h
       have:=e.at_
       have h2:=congrArg (·[i]?) this
       simp only[List.getElem?_set_self hi]at h2
       exact Option.some.inj h2
      subst hd
      have ax : ∀ (a:AB) (o':Nat),a∈o.op.base -> a.ev loc sl=some (k,o') -> (match a with | .sl k=>some k | .lo j=>(rt[j]?).join)=some k:=fun a o' hm hev=>by
       cases a with
       | sl k' =>
        simp only[AB.ev]at hev
        split at hev
        ·cases hev;rfl
        ·cases hev
       | lo j =>
        simp only[AB.ev]at hev
        split at hev
        ·rename_i hlj
         cases hev
         obtain⟨vj,h1,h2⟩:=bo.addr i o j ho hm
         simp[inv.lp j vj _ _ h1 h2 hlj]
        ·cases hev
      cases hop:o.op<;>rw[hop]at ha<;>first|(cases ha;done)|skip
      ·rename_i a off'
       rw[hop]at hs
       simp only[step]at hs
       split at hs
       ·rename_i k' o' hev
        cases hs
        have:=ax a o' (by rw[hop];simp[VOp.base]) hev
        simp only[rootStep,hop]
        exact congrArg some this
       ·cases hs
      ·rename_i a ix n w
       rw[hop]at hs
       simp only[step]at hs
       split at hs
       ·rename_i k' o' hev
        split at hs
        ·cases hs
         have:=ax a o' (by rw[hop];simp[VOp.base]) hev
         simp only[rootStep,hop]
         exact congrArg some this
        ·cases hs
       ·cases hs
     ·cases h
    ·cases h
   ·cases h
    have:=e.at_
    have h2:=congrArg (·[i]?) this
    simp only[List.getElem?_set_self hi]at h2
    cases h2
   ·cases h
  ·rw[e.at_,List.getElem?_set_ne hij]at hl
   exact inv.lp j vo k off hj ha hl
theorem meet_spec {a b:List Nat} (h:meet a b=false) : ∀ x∈a,x∉b:=fun x hx hb=>by
 have:meet a b=true:=by
  simp only[meet,List.any_eq_true]
  exact⟨x,hx,by simpa using hb⟩
 rw[h]at this;cases this
structure Indep (V:VProg) (strict:Bool) (rt:List (Option Nat)) (i j:Nat) (x y:VOper):Prop where
 l1:i∉y.locR
 l2:j∉x.locR
 s1 : ∀ k∈x.slW rt,k∉y.slR rt
 s2 : ∀ k∈x.slW rt,k∉y.slW rt
 s3 : ∀ k∈x.slR rt,k∉y.slW rt
 h:(x.op.hc V strict).free (y.op.hc V strict)=true
 p:x.op.pans=false
 q:y.op.pans=false
theorem indep_spec {i j:Nat} {x y:VOper} (hx:vos[i]?=some x) (hy:vos[j]?=some y) (h:indep V strict rt vos i j=true):Indep V strict rt i j x y:=by
 simp only[indep,hx,hy,Bool.and_eq_true,Bool.not_eq_true']at h
 obtain⟨⟨⟨⟨⟨⟨h1,h2⟩,h3⟩,h4⟩,h5⟩,h6⟩,h7⟩:=h
 exact⟨by simpa using h1,by simpa using h2,fun k hk hm=>meet_spec h3 k hk (List.mem_append_left _ hm),fun k hk hm=>meet_spec h3 k hk (List.mem_append_right _ hm),meet_spec h4,h5,h6,h7⟩
theorem swap (hcl:CallFit V cl) (bo:BaseOk vos rt) {i j:Nat} (hij:i≠j) {x y:VOper} (hx:vos[i]?=some x) (hy:vos[j]?=some y) (hi:Indep V strict rt i j x y) {loc loc1 loc2:List D} {st st1 st2:St} (inv:Inv base vos rt loc st)
  (h1:one V cl (some (base,strict)) vos i loc st=some (loc1,st1)) (h2:one V cl (some (base,strict)) vos j loc1 st1=some (loc2,st2)) :
  ∃ loc3 st3,one V cl (some (base,strict)) vos j loc st=some (loc3,st3) /\ one V cl (some (base,strict)) vos i loc3 st3=some (loc2,st2):=by
 obtain⟨d,us,e1⟩:=one_eff hcl bo inv hx h1
 obtain⟨e,vs,e2⟩:=one_eff hcl bo (one_inv hcl bo inv h1) hy h2
 obtain⟨sl,H⟩:=st
 obtain⟨sl1,H1⟩:=st1
 obtain⟨sl2,H2⟩:=st2
 have g1:=e1.at_
 have g2:=e2.at_
 have g3:sl1=upds us sl:=e1.slot
 have g4:sl2=upds vs sl1:=e2.slot
 have o1:HcOk base H H1 (x.op.hc V strict):=e1.ok
 have o2:HcOk base H1 H2 (y.op.hc V strict):=e2.ok
 have hf:=hi.h
 have k1:=e2.same loc sl H ⟨fun q hq => ?_,fun k hk => ?_⟩ ?_
 ·have k2:=e1.same (loc.set j e) (upds vs sl) (HcOut H H2 (y.op.hc V strict)) ⟨fun q hq => ?_,fun k hk => ?_⟩ ?_
  ·refine ⟨_,_,k1, ?_⟩
   rw[k2]
   refine congrArg some (Prod.ext ?_ ?_)
   ·simp only[g1,g2]
    exact List.set_comm _ _ (Ne.symm hij)
   ·simp only[St.mk.injEq]
    refine⟨?_, ?_⟩
    ·rw[g4,g3]
     exact(upds_comm vs us sl (fun u hu v hv he=>hi.s2 _ (e1.ks u hu) (he▸e2.ks v hv))).symm
    ·revert hf o1 o2
     cases x.op.hc V strict<;>cases y.op.hc V strict<;>simp[HC.free,HcOk,HcOut]<;>intros<;>simp_all
  ·rw[List.getElem?_set_ne (fun hh:j=q=>hi.l2 (by rw[hh];exact hq))]
  ·exact upds_get vs sl k (fun v hv hh=>hi.s3 k hk (hh▸e2.ks v hv))
  ·revert hf o1 o2
   cases x.op.hc V strict<;>cases y.op.hc V strict<;>simp[HC.free,HcOk,HcOut,HcIn]<;>intros<;>simp_all
   all_goals first|exact Sb.refl _ _|exact HB.refl _|exact Sb.symm (by assumption)|exact HB.symm (by assumption)|assumption
 ·rw[g1,List.getElem?_set_ne (fun hh:i=q=>hi.l1 (by rw[hh];exact hq))]
 ·show sl[k]?=sl1[k]?
  rw[g3];exact(upds_get us sl k (fun u hu hh=>hi.s1 _ (e1.ks u hu) (hh▸hk))).symm
 ·show HcIn base H1 H _
  revert hf o1 o2
  cases x.op.hc V strict<;>cases y.op.hc V strict<;>simp[HC.free,HcOk,HcIn]<;>intros<;>simp_all
  all_goals first|exact Sb.refl _ _|exact HB.refl _|exact Sb.symm (by assumption)|exact HB.symm (by assumption)|assumption
theorem to_front (hcl:CallFit V cl) (bo:BaseOk vos rt) {j:Nat} {y:VOper} (hy:vos[j]?=some y) {post:List Nat} {st':St} : ∀ (pre:List Nat) (loc:List D) (st:St),Inv base vos rt loc st ->
  (∀ i∈pre,i≠j /\ ∃ x,vos[i]?=some x /\ Indep V strict rt i j x y) -> opsL V cl (some (base,strict)) vos (pre++j::post) loc st=(.nm,st') -> opsL V cl (some (base,strict)) vos (j::(pre++post)) loc st=(.nm,st'):=by
 intro pre
 induction pre with
 | nil=>intro loc st _ _ h;exact h
 | cons i pre ih =>
  intro loc st inv hp h
  rw[List.cons_append,opsL_cons]at h
  obtain⟨loc1,st1,h1,h2⟩:=h
  have inv1:=one_inv hcl bo inv h1
  have h3:=ih loc1 st1 inv1 (fun q hq=>hp q (List.mem_cons_of_mem _ hq)) h2
  rw[opsL_cons]at h3
  obtain⟨loc2,st2,h4,h5⟩:=h3
  obtain⟨hne,x,hx,hi⟩:=hp i List.mem_cons_self
  obtain⟨loc3,st3,h6,h7⟩:=swap hcl bo hne hx hy hi inv h1 h4
  rw[opsL_cons]
  refine⟨loc3,st3,h6, ?_⟩
  rw[List.cons_append,opsL_cons]
  exact⟨loc2,st2,h7,h5⟩
theorem to_front_c (hcl:CallFit V cl) (bo:BaseOk vos rt) {j:Nat} {y:VOper} (hy:vos[j]?=some y) {post:List Nat} {r:List D×St} : ∀ (pre:List Nat) (loc:List D) (st:St),Inv base vos rt loc st ->
  (∀ i∈pre,i≠j /\ ∃ x,vos[i]?=some x /\ Indep V strict rt i j x y) -> chain V cl (some (base,strict)) vos (pre++j::post) loc st=some r -> chain V cl (some (base,strict)) vos (j::(pre++post)) loc st=some r:=by
 intro pre
 induction pre with
 | nil=>intro loc st _ _ h;exact h
 | cons i pre ih =>
  intro loc st inv hp h
  rw[List.cons_append,chain_cons]at h
  obtain⟨loc1,st1,h1,h2⟩:=h
  have inv1:=one_inv hcl bo inv h1
  have h3:=ih loc1 st1 inv1 (fun q hq=>hp q (List.mem_cons_of_mem _ hq)) h2
  rw[chain_cons]at h3
  obtain⟨loc2,st2,h4,h5⟩:=h3
  obtain⟨hne,x,hx,hi⟩:=hp i List.mem_cons_self
  obtain⟨loc3,st3,h6,h7⟩:=swap hcl bo hne hx hy hi inv h1 h4
  rw[chain_cons]
  refine⟨loc3,st3,h6, ?_⟩
  rw[List.cons_append,chain_cons]
  exact⟨loc2,st2,h7,h5⟩
end
def bval (acc:Array Nat) (o:Oper):Nat:=o.after.foldl (fun s e=>if Region.binds .any e then s ||| 2 ^ e.on ||| acc.getD e.on 0 else s) 0
theorem before_eq (ops:Array Oper):Region.before ops=ops.toList.foldl (fun acc o=>acc.push (bval acc o)) #[]:=by
 unfold Region.before
 rw[<- Array.foldl_toList]
 rfl
theorem fold_old : ∀ (l:List Oper) (acc:Array Nat) (j:Nat),j<acc.size -> (l.foldl (fun acc o=>acc.push (bval acc o)) acc).getD j 0=acc.getD j 0
 | [],_,_,_=>rfl
 | o::l,acc,j,h=>by
  rw[List.foldl_cons,fold_old l _ j (by simp;omega)]
  simp[Array.getD,h,Array.getElem_push,Nat.lt_succ_of_lt h]
theorem fold_new : ∀ (l:List Oper) (acc:Array Nat) (i:Nat) (o:Oper),l[i]?=some o -> ∃ acc':Array Nat,acc'.size=acc.size+i /\
  (∀ q,q<acc'.size -> acc'.getD q 0=(l.foldl (fun acc o=>acc.push (bval acc o)) acc).getD q 0) /\ (l.foldl (fun acc o=>acc.push (bval acc o)) acc).getD (acc.size+i) 0=bval acc' o
 | [],_,_,_,h=>by simp at h
 | o::l,acc,i,o',h=>by
  cases i with
  | zero =>
   cases h
   refine⟨acc,by simp,fun q hq=>(fold_old (o::l) acc q hq).symm, ?_⟩
   rw[List.foldl_cons,Nat.add_zero,fold_old l _ acc.size (by simp)]
   simp[Array.getD]
  | succ i =>
   obtain⟨acc',h1,h2,h3⟩:=fold_new l (acc.push (bval acc o)) i o' (by simpa using h)
   refine⟨acc',by rw[h1];simp;omega,fun q hq => ?_, ?_⟩
   ·rw[h2 q hq];rfl
   ·rw[List.foldl_cons,show acc.size+(i+1)=(acc.push (bval acc o)).size+i by simp;omega];exact h3
theorem bval_bit {acc:Array Nat} {o:Oper} {i:Nat} (h:(bval acc o).testBit i=true) : ∃ e∈o.after.toList,Region.binds .any e=true /\ (i=e.on \/ (acc.getD e.on 0).testBit i=true):=by
 unfold bval at h
 rw[<- Array.foldl_toList]at h
 have : ∀ (l:List Edge) (s:Nat),(l.foldl (fun s e=>if Region.binds .any e then s ||| 2 ^ e.on ||| acc.getD e.on 0 else s) s).testBit i=true ->
   s.testBit i=true \/ ∃ e∈l,Region.binds .any e=true /\ (i=e.on \/ (acc.getD e.on 0).testBit i=true):=by
  intro l
  induction l with
  | nil=>intro s h;exact .inl h
  | cons e l ih =>
   intro s h
   rw[List.foldl_cons]at h
   rcases ih _ h with h|⟨e',h1,h2⟩
   ·split at h
    ·rename_i hb
     simp only[Nat.testBit_or,Nat.testBit_two_pow,Bool.or_eq_true,decide_eq_true_eq]at h
     rcases h with(h|h)|h
     ·exact .inl h
     ·exact .inr ⟨e,List.mem_cons_self,hb,.inl h.symm⟩
     ·exact .inr ⟨e,List.mem_cons_self,hb,.inr h⟩
    ·exact .inl h
   ·exact .inr ⟨e',List.mem_cons_of_mem _ h1,h2⟩
 rcases this _ _ h with h|h
 ·simp at h
 ·exact h
theorem before_bit {ops:Array Oper} {j i:Nat} {o:Oper} (ho:ops[j]?=some o) (h:((Region.before ops).getD j 0).testBit i=true) :
  ∃ e∈o.after.toList,Region.binds .any e=true /\ (i=e.on \/ (e.on<j /\ ((Region.before ops).getD e.on 0).testBit i=true)):=by
 obtain⟨acc',h1,h2,h3⟩:=fold_new ops.toList #[] j o (by rw[Array.getElem?_toList];exact ho)
 simp only[Nat.zero_add, <- before_eq,List.size_toArray,List.length_nil]at h1 h2 h3
 rw[h3]at h
 obtain⟨e,he,hb,hc⟩:=bval_bit h
 refine⟨e,he,hb,hc.imp id (fun hc => ?_)⟩
 by_cases hlt:e.on<acc'.size
 ·rw[h2 _ hlt]at hc;exact⟨by omega,hc⟩
 ·rw[Array.getD,dif_neg hlt]at hc
  simp at hc
section
variable {c:CX} {E:En} {nd:List Deferred}
def Listed (listed:Array Bool) (i:Nat):Prop:=listed.getD i false=true
theorem listed_set {listed:Array Bool} {i j:Nat} (h:Listed (listed.setIfInBounds i true) j):j=i \/ Listed listed j:=by
 unfold Listed at *
 by_cases hij:j=i
 ·exact .inl hij
 ·right
  simp only[Array.getD,Array.size_setIfInBounds]at *
  split at h
  ·rename_i hlt
   rw[dif_pos hlt]
   rw[<- h]
   simp only[Array.getInternal_eq_getElem]
   rw[Array.getElem_setIfInBounds_ne hlt (Ne.symm hij)]
  ·cases h
theorem listed_same {listed:Array Bool} {i j:Nat} (h:Listed listed j):Listed (listed.setIfInBounds i true) j:=by
 unfold Listed at *
 simp only[Array.getD,Array.size_setIfInBounds]at *
 split at h
 ·rename_i hlt
  rw[dif_pos hlt]
  simp only[Array.getInternal_eq_getElem]at *
  rw[Array.getElem_setIfInBounds hlt]
  split
  ·rfl
  ·exact h
 ·cases h
theorem listed_new {listed:Array Bool} {i:Nat} (h:i<listed.size):Listed (listed.setIfInBounds i true) i:=by
 unfold Listed
 simp[Array.getD,h]
theorem not_listed {listed:Array Bool} {i:Nat} (h:i<listed.size):(!listed.getD i true)=true ↔ ¬ Listed listed i:=by
 unfold Listed
 simp[Array.getD,h]
theorem any_order (rg:Reg c) {T:Kn -> World -> Prop} (vok:VOK c.P c.V T) (hT:TE T E) {cl:FuncId -> List D -> Heap -> CR} (cs:CallSim c.P T cl) (hcl:CallFit c.V cl) (bo:BaseOk c.vos c.rt) (back : ∀ (i:Nat) (vo:VOper),c.vos[i]?=some vo -> ∀ j∈vo.locR,j<i)
    (hfirst : ∀ (i:Nat) (vo:VOper),c.vos[i]?=some vo -> vo.op.isBox=true -> ∀ k,vo.keep=some k -> ∀ j,j<i -> c.rt[j]?≠some (some k)) {base:Bs} {strict:Bool}
    {X:Nat -> Prop} (hdraw : ∀ (i j:Nat) (x y:VOper),i<j -> ¬ X i -> c.vos[i]?=some x -> c.vos[j]?=some y -> ((Region.before c.ops).getD j 0).testBit i=true \/ Indep c.V strict c.rt i j x y)
    (hedge : ∀ (i:Nat) (o:Oper),c.ops[i]?=some o -> ∀ e∈o.after.toList,Region.binds .any e=true -> e.on<i) {st':St} {Q:Exit -> Act -> World -> Prop} {rd:Option Nat} {m:Nat}
    (hQ : ∀ L' K' μ' a' W',FS E c.tm c.bs K' μ' L' st'.sl st'.hp a'.tmps W' -> a'.tmps.size=c.nt -> a'.defers=nd -> Q .normal a' W') :
    ∀ (fuel:Nat) (listed:Array Bool) (L:Nat -> Option Nat) (K:Kn) (μ:Mu) (loc:List D) (st:St) (a:Act) (W:World) (l:List Nat),listed.size=c.vos.length -> l=(List.range c.vos.length).filter (fun i => !listed.getD i true) -> l.length <= fuel ->
      (∀ i,X i -> Listed listed i) ->
      (∀ i j,Listed listed j -> ((Region.before c.ops).getD j 0).testBit i=true -> Listed listed i) ->
      (∀ (i j:Nat) (x y:VOper),i<j -> Listed listed j -> ¬ Listed listed i -> c.vos[i]?=some x -> c.vos[j]?=some y -> Indep c.V strict c.rt i j x y) ->
      RI c E nd (Listed listed) L K μ loc st.sl st.hp a W -> Inv base c.vos c.rt loc st -> opsL c.V cl (some (base,strict)) c.vos l loc st=(.nm,st') -> wpAnyIn (FW rd) m c.P .any c.ops Q fuel listed a W:=by
  have fin : ∀ (listed:Array Bool) (L:Nat -> Option Nat) (K:Kn) (μ:Mu) (loc:List D) (st:St) (a:Act) (W:World),RI c E nd (Listed listed) L K μ loc st.sl st.hp a W -> opsL c.V cl (some (base,strict)) c.vos [] loc st=(.nm,st') -> Q .normal a W:=fun listed L K μ loc st a W ri h=>by
    simp only[opsL,Prod.mk.injEq,true_and]at h
    subst h
    exact hQ _ _ _ _ _ ri.fs ri.sz ri.df
  have rdy : ∀ (listed:Array Bool) (i:Nat),listed.size=c.vos.length -> i∈Region.ready .any c.ops listed -> i<c.vos.length /\ ¬ Listed listed i /\ ∃ o,c.ops[i]?=some o /\ ∀ e∈o.after.toList,Region.binds .any e=true -> Listed listed e.on:=fun listed i hsz hi=>by
    simp only[Region.ready,List.mem_filter,List.mem_range,Bool.and_eq_true]at hi
    obtain⟨h1,h2,h3⟩:=hi
    have hlt:i<c.vos.length:=by rw[<- rg.sz];exact h1
    refine⟨hlt,(not_listed (by omega)).1 h2,c.ops[i],Array.getElem?_eq_getElem h1,fun e he hb => ?_⟩
    rw[Array.getElem?_eq_getElem h1]at h3
    simp only[Option.map_some,Option.getD_some,Array.all_eq_true']at h3
    have:=h3 e (by simpa using he)
    simp only[hb,Bool.not_true,Bool.false_or]at this
    exact this
  intro fuel
  induction fuel with
  | zero =>
    intro listed L K μ loc st a W l hsz hl hfuel _ _ _ ri inv h
    have:l=[]:=List.length_eq_zero_iff.1 (by omega)
    subst this
    refine⟨?_,fin listed L K μ loc st a W ri h⟩
    cases hr:Region.ready .any c.ops listed with
    | nil=>rfl
    | cons i is =>
      obtain⟨h1,h2,_⟩:=rdy listed i hsz (by rw[hr];exact List.mem_cons_self)
      have:i∈(List.range c.vos.length).filter (fun i => !listed.getD i true):=List.mem_filter.2 ⟨by simpa using h1,(not_listed (by omega)).2 h2⟩
      rw[<- hl]at this;cases this
  | succ fuel ih =>
    intro listed L K μ loc st a W l hsz hl hfuel hq0 hclosed hind ri inv h
    have meml : ∀ i,i∈l↔i<c.vos.length /\ ¬ Listed listed i:=fun i=>by
      rw[hl,List.mem_filter,List.mem_range]
      exact⟨fun⟨x,y⟩=>⟨x,(not_listed (by omega)).1 y⟩,fun⟨x,y⟩=>⟨x,(not_listed (by omega)).2 y⟩⟩
    have sorted:l.Pairwise (· < ·):=by rw[hl];exact List.Pairwise.filter _ (List.pairwise_lt_range)
    refine⟨fun hr => ?_,fun i hi => ?_⟩
    · cases l with
      | nil=>exact fin listed L K μ loc st a W ri h
      | cons i l =>
        exfalso
        obtain⟨h1,h2⟩:=(meml i).1 List.mem_cons_self
        have : i∈Region.ready .any c.ops listed:=by
          have hi:i<c.ops.size:=by rw[rg.sz];exact h1
          simp only[Region.ready,List.mem_filter,List.mem_range,Bool.and_eq_true]
          refine⟨hi,(not_listed (by omega)).2 h2, ?_⟩
          rw[Array.getElem?_eq_getElem hi]
          simp only[Option.map_some,Option.getD_some,Array.all_eq_true']
          intro e he
          cases hb:Region.binds .any e with
          | false=>rfl
          | true =>
            simp only[Bool.not_true,Bool.false_or]
            have hlt:=hedge i _ (Array.getElem?_eq_getElem hi) e (by simpa using he) hb
            by_cases hlis:Listed listed e.on
            · exact hlis
            · have:=(meml e.on).2 ⟨by omega,hlis⟩
              rcases List.mem_cons.1 this with h|h
              · omega
              · have:=List.rel_of_pairwise_cons sorted h;omega
        rw[hr]at this;cases this
    · obtain ⟨h1,h2,o,ho,hafter⟩:=rdy listed i hsz hi
      have hbef : ∀ j,((Region.before c.ops).getD i 0).testBit j=true -> Listed listed j:=fun j hj=>by
        obtain⟨e,he,hb,hc⟩:=before_bit ho hj
        rcases hc with rfl|⟨_,hc⟩
        · exact hafter e he hb
        · exact hclosed j e.on (hafter e he hb) hc
      have hvo:c.vos[i]?=some c.vos[i]:=List.getElem?_eq_getElem h1
      have hpre : ∀ j (x:VOper),j<i -> ¬ Listed listed j -> c.vos[j]?=some x -> Indep c.V strict c.rt j i x c.vos[i]:=fun j x hj hn hx=>by
        rcases hdraw j i x _ hj (fun hx=>hn (hq0 j hx)) hx hvo with hb|hb
        · exact(hn (hbef j hb)).elim
        · exact hb
      obtain⟨pre,post,hsplit⟩:=List.append_of_mem ((meml i).2 ⟨h1,h2⟩)
      have hlt : ∀ j∈pre,j<i:=fun j hj=>by
        rw[hsplit]at sorted
        exact(List.pairwise_append.1 sorted).2.2 j hj i List.mem_cons_self
      have hgt : ∀ j∈post,i<j:=fun j hj=>by
        rw[hsplit]at sorted
        exact List.rel_of_pairwise_cons (List.pairwise_append.1 sorted).2.1 hj
      rw[hsplit]at h
      have h':=to_front hcl bo hvo pre loc st inv (fun j hj=>by
        obtain⟨j1,j2⟩:=(meml j).1 (by rw[hsplit];exact List.mem_append_left _ hj)
        exact⟨by have:=hlt j hj;omega,c.vos[j],List.getElem?_eq_getElem j1,hpre j _ (hlt j hj) j2 (List.getElem?_eq_getElem j1)⟩) h
      rw[opsL_cons]at h'
      obtain⟨loc1,st1,g1,g2⟩:=h'
      refine one_step rg ri vok hT cs hvo (fun j hj => ?_) (fun hb k hk j hj => ?_) g1 (fun L' K' μ' a' W' r => ?_)
      · have:=back i _ hvo j hj
        by_cases hn:Listed listed j
        · exact hn
        · exact((hpre j _ this hn (List.getElem?_eq_getElem (by omega))).l1 hj).elim
      · rcases Nat.lt_or_ge j i with hji|hji
        · exact hfirst i _ hvo hb k hk j hji
        · intro hrt
          have hne:i≠j:=fun e=>h2 (e▸hj)
          have hjl:j<c.vos.length:=by rw[<- rg.rtl];exact lt_of_get hrt
          have hvj:c.vos[j]?=some c.vos[j]:=List.getElem?_eq_getElem hjl
          have hI:=hind i j _ _ (by omega) hj h2 hvo hvj
          refine hI.s1 k (by simp[VOper.slW,hk]) ?_
          have hst:=bo.step j _ hvj
          rw[hst]at hrt
          have hrt:=Option.some.inj hrt
          simp only[VOper.slR]
          refine List.mem_append_left _ (List.mem_append_right _ ?_)
          unfold rootStep at hrt
          split at hrt
          · rename_i a off hop
            rw[hop]
            cases a with
            | sl k'=>cases hrt;simp[VOp.base,rootOf]
            | lo q=>simp[VOp.base,rootOf,hrt]
          · rename_i a ix n w hop
            rw[hop]
            cases a with
            | sl k'=>cases hrt;simp[VOp.base,rootOf]
            | lo q=>simp[VOp.base,rootOf,hrt]
          · cases hrt
      · refine ih (listed.setIfInBounds i true) L' K' μ' loc1 st1 a' W' (pre++post) (by simpa using hsz) ?_ (by have:=congrArg List.length hsplit;simp at this ⊢;omega) (fun p hp=>listed_same (hq0 p hp)) (fun p q hq hb => ?_) (fun p q x y hpq hq hp hx hy => ?_) ?_ (one_inv hcl bo inv g1) g2
        · have:(List.range c.vos.length).filter (fun j => !(listed.setIfInBounds i true).getD j true)=l.filter (fun j=>j != i):=by
            rw[hl,List.filter_filter]
            refine List.filter_congr (fun j hj => ?_)
            have hj:j<listed.size:=by rw[hsz];simpa using hj
            by_cases hji:j=i
            · subst hji;simp[Array.getD,hj]
            · simp[Array.getD,hj,hji,Array.getElem_setIfInBounds_ne hj (Ne.symm hji)]
          rw[this,hsplit,List.filter_append,List.filter_cons]
          simp only[bne_self_eq_false,Bool.false_eq_true,if_false]
          rw[List.filter_eq_self.2 (fun j hj=>by have:=hlt j hj;simp;omega),List.filter_eq_self.2 (fun j hj=>by have:=hgt j hj;simp;omega)]
        · rcases listed_set hq with rfl|hq
          · exact listed_same (hbef p hb)
          · exact listed_same (hclosed p q hq hb)
        · have hp' : ¬ Listed listed p:=fun hh=>hp (listed_same hh)
          rcases listed_set hq with rfl|hq
          · rw[hvo]at hy;cases hy
            exact hpre p x hpq hp' hx
          · exact hind p q x y hpq hq hp' hx hy
        · exact⟨r.fs,fun j o' vo' t' hj=>r.lr j o' vo' t' (listed_set hj),r.sz,r.df,r.ln⟩
theorem any_order_p (rg:Reg c) {T:Kn -> World -> Prop} (vok:VOK c.P c.V T) (hT:TE T E) {cl:FuncId -> List D -> Heap -> CR} (cs:CallSim c.P T cl) (csp:CallSimP c.P T cl) (hcl:CallFit c.V cl) (bo:BaseOk c.vos c.rt) (back : ∀ (i:Nat) (vo:VOper),c.vos[i]?=some vo -> ∀ j∈vo.locR,j<i)
    (hfirst : ∀ (i:Nat) (vo:VOper),c.vos[i]?=some vo -> vo.op.isBox=true -> ∀ k,vo.keep=some k -> ∀ j,j<i -> c.rt[j]?≠some (some k)) {base:Bs} {strict:Bool}
    (hdraw : ∀ (i j:Nat) (x y:VOper),i<j -> c.vos[i]?=some x -> c.vos[j]?=some y -> ((Region.before c.ops).getD j 0).testBit i=true \/ Indep c.V strict c.rt i j x y)
    (hedge : ∀ (i:Nat) (o:Oper),c.ops[i]?=some o -> ∀ e∈o.after.toList,Region.binds .any e=true -> e.on<i) {p:Nat} {vp:VOper} (hvp:c.vos[p]?=some vp) (hpp:vp.op.pans=true) {q:D} {loc1:List D} {st1:St} {hp:Heap} (hw:vp.wants loc1 st1.sl=some true) (hs:step c.V cl loc1 st1 vp.op = .p q hp) {Q:Exit -> Act -> World -> Prop} {rd:Option Nat} {m:Nat}
    (hQ : ∀ v L' K' μ' a' W',FS E c.tm c.bs K' μ' L' st1.sl hp a'.tmps W' -> a'.tmps.size=c.nt -> a'.defers=nd -> VR K' μ' hp q v -> Q (.panic (PanE v)) a' W') :
    ∀ (fuel:Nat) (listed:Array Bool) (L:Nat -> Option Nat) (K:Kn) (μ:Mu) (loc:List D) (st:St) (a:Act) (W:World) (l:List Nat),listed.size=c.vos.length -> l=(List.range p).filter (fun i => !listed.getD i true) -> l.length<fuel ->
      (∀ j,p <= j -> ¬ Listed listed j) ->
      (∀ i j,Listed listed j -> ((Region.before c.ops).getD j 0).testBit i=true -> Listed listed i) ->
      (∀ (i j:Nat) (x y:VOper),i<j -> Listed listed j -> ¬ Listed listed i -> c.vos[i]?=some x -> c.vos[j]?=some y -> Indep c.V strict c.rt i j x y) ->
      RI c E nd (Listed listed) L K μ loc st.sl st.hp a W -> Inv base c.vos c.rt loc st -> chain c.V cl (some (base,strict)) c.vos l loc st=some (loc1,st1) -> wpAnyIn (FW rd) m c.P .any c.ops Q fuel listed a W:=by
  have hplt:p<c.vos.length:=lt_of_get hvp
  have rdy : ∀ (listed:Array Bool) (i:Nat),listed.size=c.vos.length -> i∈Region.ready .any c.ops listed -> i<c.vos.length /\ ¬ Listed listed i /\ ∃ o,c.ops[i]?=some o /\ ∀ e∈o.after.toList,Region.binds .any e=true -> Listed listed e.on:=fun listed i hsz hi=>by
    simp only[Region.ready,List.mem_filter,List.mem_range,Bool.and_eq_true]at hi
    obtain⟨h1,h2,h3⟩:=hi
    have hlt:i<c.vos.length:=by rw[<- rg.sz];exact h1
    refine⟨hlt,(not_listed (by omega)).1 h2,c.ops[i],Array.getElem?_eq_getElem h1,fun e he hb => ?_⟩
    rw[Array.getElem?_eq_getElem h1]at h3
    simp only[Option.map_some,Option.getD_some,Array.all_eq_true']at h3
    have:=h3 e (by simpa using he)
    simp only[hb,Bool.not_true,Bool.false_or]at this
    exact this
  intro fuel
  induction fuel with
  | zero=>intro listed L K μ loc st a W l _ _ hfuel;omega
  | succ fuel ih =>
    intro listed L K μ loc st a W l hsz hl hfuel hge hclosed hind ri inv h
    have meml : ∀ i,i∈l↔i<p /\ ¬ Listed listed i:=fun i=>by
      rw[hl,List.mem_filter,List.mem_range]
      exact⟨fun⟨x,y⟩=>⟨x,(not_listed (by omega)).1 y⟩,fun⟨x,y⟩=>⟨x,(not_listed (by omega)).2 y⟩⟩
    have sorted:l.Pairwise (· < ·):=by rw[hl];exact List.Pairwise.filter _ (List.pairwise_lt_range)
    refine⟨fun hr => ?_,fun i hi => ?_⟩
    · exfalso
      have key : ∀ i,i <= p -> ¬ Listed listed i -> (∀ j,j<i -> Listed listed j) -> False:=fun i hip hn hall=>by
        have : i∈Region.ready .any c.ops listed:=by
          have hi:i<c.ops.size:=by rw[rg.sz];omega
          simp only[Region.ready,List.mem_filter,List.mem_range,Bool.and_eq_true]
          refine⟨hi,(not_listed (by omega)).2 hn, ?_⟩
          rw[Array.getElem?_eq_getElem hi]
          simp only[Option.map_some,Option.getD_some,Array.all_eq_true']
          intro e he
          cases hb:Region.binds .any e with
          | false=>rfl
          | true =>
            simp only[Bool.not_true,Bool.false_or]
            exact hall _ (hedge i _ (Array.getElem?_eq_getElem hi) e (by simpa using he) hb)
        rw[hr]at this;cases this
      cases l with
      | nil=>exact key p (Nat.le_refl _) (hge p (Nat.le_refl _)) (fun j hj=>Classical.byContradiction fun hn=>by have:=(meml j).2 ⟨hj,hn⟩;cases this)
      | cons i l =>
        obtain⟨h1,h2⟩:=(meml i).1 List.mem_cons_self
        refine key i (by omega) h2 (fun j hj=>Classical.byContradiction fun hn => ?_)
        have:=(meml j).2 ⟨by omega,hn⟩
        rcases List.mem_cons.1 this with h|h
        · omega
        · have:=List.rel_of_pairwise_cons sorted h;omega
    · obtain ⟨h1,h2,o,ho,hafter⟩:=rdy listed i hsz hi
      have hbef : ∀ j,((Region.before c.ops).getD i 0).testBit j=true -> Listed listed j:=fun j hj=>by
        obtain⟨e,he,hb,hc⟩:=before_bit ho hj
        rcases hc with rfl|⟨_,hc⟩
        · exact hafter e he hb
        · exact hclosed j e.on (hafter e he hb) hc
      have hvo:c.vos[i]?=some c.vos[i]:=List.getElem?_eq_getElem h1
      have hpre : ∀ j (x:VOper),j<i -> ¬ Listed listed j -> c.vos[j]?=some x -> Indep c.V strict c.rt j i x c.vos[i]:=fun j x hj hn hx=>by
        rcases hdraw j i x _ hj hx hvo with hb|hb
        · exact(hn (hbef j hb)).elim
        · exact hb
      have hip:i <= p:=Nat.le_of_not_lt fun hlt=>by
        have:=(hpre p vp hlt (hge p (Nat.le_refl _)) hvp).p
        rw[hpp]at this;cases this
      by_cases hie:i=p
      · subst hie
        have hnil:l=[]:=by
          cases l with
          | nil=>rfl
          | cons j l =>
            obtain⟨g1,g2⟩:=(meml j).1 List.mem_cons_self
            have:=(hpre j _ g1 g2 (List.getElem?_eq_getElem (by omega))).q
            rw[hvo]at hvp;cases hvp
            rw[hpp]at this;cases this
        subst hnil
        simp only[chain,Option.some.injEq,Prod.mk.injEq]at h
        obtain⟨rfl,rfl⟩:=h
        have ok:=okOper_spec (rg.op i _ _ ho hvp).1
        have hd : ∀ j∈vp.locR,Listed listed j:=fun j hj=>Classical.byContradiction fun hn=>by
          have hlt:=back i _ hvp j hj
          have:=(meml j).2 ⟨hlt,hn⟩
          cases this
        have hwant:=wants_sound ok ri hd hw
        unfold wpOpIn
        rw[ho]
        simp only[hwant,if_true]
        exact wp_in (not_defer ok (by rw[hs];exact fun e=>by cases e))<|pan_step rg ri vok hT ho hvp hd csp hs (fun v K' μ' W' fs hv=>hQ v L K' μ' a W' fs ri.sz ri.df hv)
      have hilt:i<p:=by omega
      obtain⟨pre,post,hsplit⟩:=List.append_of_mem ((meml i).2 ⟨hilt,h2⟩)
      have hlt : ∀ j∈pre,j<i:=fun j hj=>by
        rw[hsplit]at sorted
        exact(List.pairwise_append.1 sorted).2.2 j hj i List.mem_cons_self
      have hgt : ∀ j∈post,i<j:=fun j hj=>by
        rw[hsplit]at sorted
        exact List.rel_of_pairwise_cons (List.pairwise_append.1 sorted).2.1 hj
      rw[hsplit]at h
      have h':=to_front_c hcl bo hvo pre loc st inv (fun j hj=>by
        obtain⟨j1,j2⟩:=(meml j).1 (by rw[hsplit];exact List.mem_append_left _ hj)
        exact⟨by have:=hlt j hj;omega,c.vos[j],List.getElem?_eq_getElem (by omega),hpre j _ (hlt j hj) j2 (List.getElem?_eq_getElem (by omega))⟩) h
      rw[chain_cons]at h'
      obtain⟨loc2,st2,g1,g2⟩:=h'
      refine one_step rg ri vok hT cs hvo (fun j hj => ?_) (fun hb k hk j hj => ?_) g1 (fun L' K' μ' a' W' r => ?_)
      · have:=back i _ hvo j hj
        by_cases hn:Listed listed j
        · exact hn
        · exact((hpre j _ this hn (List.getElem?_eq_getElem (by omega))).l1 hj).elim
      · rcases Nat.lt_or_ge j i with hji|hji
        · exact hfirst i _ hvo hb k hk j hji
        · intro hrt
          have hne:i≠j:=fun e=>h2 (e▸hj)
          have hjl:j<c.vos.length:=by rw[<- rg.rtl];exact lt_of_get hrt
          have hvj:c.vos[j]?=some c.vos[j]:=List.getElem?_eq_getElem hjl
          have hI:=hind i j _ _ (by omega) hj h2 hvo hvj
          refine hI.s1 k (by simp[VOper.slW,hk]) ?_
          have hst:=bo.step j _ hvj
          rw[hst]at hrt
          have hrt:=Option.some.inj hrt
          simp only[VOper.slR]
          refine List.mem_append_left _ (List.mem_append_right _ ?_)
          unfold rootStep at hrt
          split at hrt
          · rename_i a off hop
            rw[hop]
            cases a with
            | sl k'=>cases hrt;simp[VOp.base,rootOf]
            | lo q=>simp[VOp.base,rootOf,hrt]
          · rename_i a ix n w hop
            rw[hop]
            cases a with
            | sl k'=>cases hrt;simp[VOp.base,rootOf]
            | lo q=>simp[VOp.base,rootOf,hrt]
          · cases hrt
      · refine ih (listed.setIfInBounds i true) L' K' μ' loc2 st2 a' W' (pre++post) (by simpa using hsz) ?_ (by have:=congrArg List.length hsplit;simp at this ⊢;omega) (fun j hj hjl => ?_) (fun p q hq hb => ?_) (fun p q x y hpq hq hp hx hy => ?_) ?_ (one_inv hcl bo inv g1) g2
        · have:(List.range p).filter (fun j => !(listed.setIfInBounds i true).getD j true)=l.filter (fun j=>j != i):=by
            rw[hl,List.filter_filter]
            refine List.filter_congr (fun j hj => ?_)
            have hj:j<listed.size:=by rw[hsz];have:=List.mem_range.1 hj;omega
            by_cases hji:j=i
            · subst hji;simp[Array.getD,hj]
            · simp[Array.getD,hj,hji,Array.getElem_setIfInBounds_ne hj (Ne.symm hji)]
          rw[this,hsplit,List.filter_append,List.filter_cons]
          simp only[bne_self_eq_false,Bool.false_eq_true,if_false]
          rw[List.filter_eq_self.2 (fun j hj=>by have:=hlt j hj;simp;omega),List.filter_eq_self.2 (fun j hj=>by have:=hgt j hj;simp;omega)]
        · rcases listed_set hjl with rfl|hjl
          · omega
          · exact hge j hj hjl
        · rcases listed_set hq with rfl|hq
          · exact listed_same (hbef p hb)
          · exact listed_same (hclosed p q hq hb)
        · have hp' : ¬ Listed listed p:=fun hh=>hp (listed_same hh)
          rcases listed_set hq with rfl|hq
          · rw[hvo]at hy;cases hy
            exact hpre p x hpq hp' hx
          · exact hind p q x y hpq hq hp' hx hy
        · exact⟨r.fs,fun j o' vo' t' hj=>r.lr j o' vo' t' (listed_set hj),r.sz,r.df,r.ln⟩
end
theorem HR.takes {E:En} {K:Kn} {μ:Mu} {H:Heap} {W:World} (h:HR K μ H W) (nx:Nx E.K E.μ E.H E.w K μ H W) {r t:Nat} {cs:List D} {vs:Array Value} (hno : ¬ Own μ H r) (hnk : ∀ o v,K r o≠some v) (hE:E.w.heap.size <= r) (hlt:r<W.heap.size)
  (hW:W.heap[r]?=some (.cells vs t (0,0))) (hc:CRs K μ H cs vs.toList) :
  HR K (μ.upd H.length ⟨r,0,vs.size⟩) (H++[.hb t cs]) W /\ Nx E.K E.μ E.H E.w K (μ.upd H.length ⟨r,0,vs.size⟩) (H++[.hb t cs]) W:=by
 obtain⟨l,hl⟩ : ∃ l:Loc,l=⟨r,0,vs.size⟩:=⟨_,rfl⟩
 obtain⟨b,hb⟩ : ∃ b:Blk,b = .hb t cs:=⟨_,rfl⟩
 rw[<- hl, <- hb]
 have he:=Ext.push (K:=K) h.dom l b
 have hbk:BlkR K (μ.upd H.length l) (H++[b]) W l b:=by
  subst hb hl
  exact⟨rfl,vs,hW,rfl,hc.ext he⟩
 have hlb:l.blk=r:=by rw[hl]
 have cas : ∀ id l' b',(μ.upd H.length l) id=some l' -> (H++[b])[id]?=some b' -> (id=H.length /\ l'=l /\ b'=b) \/ (id<H.length /\ μ id=some l' /\ H[id]?=some b'):=by
  intro id l' b' a c
  simp only[Mu.upd]at a
  split at a
  ·rename_i hid;subst hid
   left
   have:b=b':=by simpa using c
   exact⟨rfl,by simpa using a.symm,this.symm⟩
  ·have hlt:=h.dom id l' a
   rw[List.getElem?_append_left hlt]at c
   exact .inr ⟨hlt,a,c⟩
 have lt' : ∀ id l',(μ.upd H.length l) id=some l' -> (id=H.length /\ l'=l) \/ (id<H.length /\ μ id=some l'):=by
  intro id l' a
  simp only[Mu.upd]at a
  split at a
  ·rename_i hid;exact .inl ⟨hid,by simpa using a.symm⟩
  ·exact .inr ⟨h.dom id l' a,a⟩
 have og : ∀ r',Own (μ.upd H.length l) (H++[b]) r' -> Own μ H r' \/ r'=r:=by
  rintro r' ⟨id,l',b',a,c,e,f⟩
  rcases cas id l' b' a c with⟨_,rfl,_⟩|⟨_,a',c'⟩
  ·right;omega
  ·exact .inl ⟨id,l',b',a',c',e,f⟩
 refine ⟨⟨fun id l' a => ?_,fun id hid => ?_,fun id l' b' a c => ?_,fun id l' a => ?_,fun id id' l1 l2 b1 b2 a1 a2 c1 c2 e1 e2 e => ?_,h.kn,fun b' o' v e ho => ?_⟩,
  ⟨nx.ext.trans he,nx.os,nx.tape,nx.output,nx.size,nx.keep,fun r' ho => ?_,nx.kg⟩⟩
 ·rcases lt' id l' a with⟨rfl,_⟩|⟨x,_⟩<;>simp<;>omega
 ·simp only[List.length_append,List.length_singleton]at hid
  by_cases hi:id=H.length
  ·exact⟨l,by simp[Mu.upd,hi]⟩
  ·obtain⟨l',hl'⟩:=h.tot id (by omega)
   exact⟨l',by simp[Mu.upd,hi,hl']⟩
 ·rcases cas id l' b' a c with⟨_,rfl,rfl⟩|⟨_,a',c'⟩
  ·exact hbk
  ·exact(h.blk id l' b' a' c').ext he (fun _=>rfl)
 ·rcases lt' id l' a with⟨_,rfl⟩|⟨_,a'⟩
  ·omega
  ·exact h.lt id l' a'
 ·rcases cas id l1 b1 a1 c1 with⟨x1,y1,_⟩|⟨x1,a1',c1'⟩<;>rcases cas id' l2 b2 a2 c2 with⟨x2,y2,_⟩|⟨x2,a2',c2'⟩
  ·omega
  ·subst y1;exact absurd ⟨id',l2,b2,a2',c2',e2,by omega⟩ hno
  ·subst y2;exact absurd ⟨id,l1,b1,a1',c1',e1,by omega⟩ hno
  ·exact h.inj id id' l1 l2 b1 b2 a1' a2' c1' c2' e1 e2 e
 ·rcases og b' ho with x|x
  ·exact h.kf b' o' v e x
  ·subst x;exact hnk o' v e
 ·rcases og r' ho with x|x
  ·exact nx.og r' x
  ·right;omega
section
variable {E:En} {tm bs:List Nat} {K K':Kn} {μ μ':Mu} {L:Nat -> Option Nat} {sl:List D} {H:Heap} {tmps:Array Value} {W:World}
theorem FS.base0 (h:FS E tm bs K μ (fun _=>none) sl H tmps W):FS ⟨K,μ,H,W⟩ tm bs K μ (fun _=>none) sl H tmps W :=
 ⟨h.hr,.refl _ _ _ _,h.len,h.val,h.box,fun _ _ e=>(by cases e),fun _ _ _ e=>(by cases e)⟩
theorem FS.adopt {k t ty:Nat} {zs:List D} {r:Nat} {vs:Array Value} (h:FS E tm (k::bs) K μ L sl H tmps W) (hk:tm[k]?=some t) (hkb:bs.contains k=false) (hL:L k=some r) (hp:tmps[t]?=some (.pointer (some ⟨r,0,none⟩))) (hW:W.heap[r]?=some (.cells vs ty (0,0))) (hz:CRs K μ H zs vs.toList)
  (hnd : ∀ (j j' u:Nat),tm[j]?=some u -> tm[j']?=some u -> j=j') :
  FS E tm bs K (μ.upd H.length ⟨r,0,vs.size⟩) (fun j=>if j=k then none else L j) (sl.set k (.hp H.length 0)) (H++[.hb ty zs]) tmps W:=by
 obtain⟨o1,o2,o3,o4⟩:=h.own k r hL
 obtain⟨hr,nx⟩:=h.hr.takes h.nx o1 o2 o3 o4 hW hz
 have he:=Ext.push (K:=K) h.hr.dom ⟨r,0,vs.size⟩ (.hb ty zs)
 have hkl:k<sl.length:=by rw[h.len];exact lt_of_get hk
 refine⟨hr,nx,by rw[List.length_set];exact h.len,fun j u hj hb => ?_,fun j u hj hb => ?_,fun j r' e => ?_,fun j j' r' e e' => ?_⟩
 ·by_cases hjk:j=k
  ·subst hjk
   rw[hk]at hj;cases hj
   exact⟨_,_,List.getElem?_set_self hkl,hp,.hp _ _ _ _ ⟨r,0,vs.size⟩ ty zs (by simp[Mu.upd]) (by simp)⟩
  ·obtain⟨d,v,e1,e2,e3⟩:=h.val j u hj (by simp only[List.contains_cons,Bool.or_eq_false_iff];exact⟨by simpa using hjk,hb⟩)
   exact⟨d,v,by rw[List.getElem?_set_ne (Ne.symm hjk)];exact e1,e2,e3.ext he⟩
 ·have hjk:j≠k:=fun e=>by subst e;rw[hkb]at hb;cases hb
  rcases h.box j u hj (by simp only[List.contains_cons,hb,Bool.or_true])with e|⟨r',cs,vs',ty',e1,e2,e3,e4,e5⟩
  ·exact .inl (by rw[List.getElem?_set_ne (Ne.symm hjk)];exact e)
  ·exact .inr ⟨r',cs,vs',ty',by simp only[hjk,if_false];exact e1,by rw[List.getElem?_set_ne (Ne.symm hjk)];exact e2,e3,e4,e5.ext he⟩
 ·split at e
  ·cases e
  ·rename_i hjk
   obtain⟨p1,p2,p3,p4⟩:=h.own j r' e
   refine⟨fun ho => ?_,p2,p3,p4⟩
   obtain⟨id,l',b',a,c,f,g⟩:=ho
   simp only[Mu.upd]at a
   split at a
   ·cases a
    have:r=r':=g
    subst this
    exact hjk (h.inj j k r e hL)
   ·have hlt:=h.hr.dom id l' a
    rw[List.getElem?_append_left hlt]at c
    exact p1 ⟨id,l',b',a,c,f,g⟩
 ·split at e
  ·cases e
  ·split at e'
   ·cases e'
   ·exact h.inj j j' r' e e'
end
def blank (bs:List Nat) (sl:List D):List D:=sl.mapIdx fun k d=>if bs.contains k then .u else d
theorem blank_len {bs:List Nat} {sl:List D}:(blank bs sl).length=sl.length:=by simp[blank]
theorem blank_out {bs:List Nat} {sl:List D} {k:Nat} (h:bs.contains k=false):(blank bs sl)[k]?=sl[k]?:=by
 simp only[blank,List.getElem?_mapIdx,h,Bool.false_eq_true,if_false]
 cases sl[k]?<;>rfl
theorem blank_in {bs:List Nat} {sl:List D} {k:Nat} (h:bs.contains k=true) (hl:k<sl.length):(blank bs sl)[k]?=some .u:=by
 simp only[blank,List.getElem?_mapIdx,h,if_true,List.getElem?_eq_getElem hl,Option.map_some]
theorem upds_len : ∀ (us:List (Nat×D)) (sl:List D),(upds us sl).length=sl.length
 | [],_=>rfl
 | u::us,sl=>by
  have:=upds_len us (sl.set u.1 u.2)
  unfold upds at *
  rw[List.foldl_cons,this,List.length_set]
theorem upds_same : ∀ (us:List (Nat×D)) (sl sl':List D) (k:Nat),sl.length=sl'.length -> sl[k]?=sl'[k]? -> (upds us sl)[k]?=(upds us sl')[k]?
 | [],_,_,_,_,h=>h
 | u :: us,sl,sl',k,hl,h=>by
  have:=upds_same us (sl.set u.1 u.2) (sl'.set u.1 u.2) k (by simp[hl]) (by
   by_cases hk:u.1=k
   ·subst hk
    simp only[List.getElem?_set,if_true,hl]
   ·rw[List.getElem?_set_ne hk,List.getElem?_set_ne hk];exact h)
  unfold upds at *
  rw[List.foldl_cons,List.foldl_cons];exact this
theorem blank_upds {bs:List Nat} {us:List (Nat×D)} {sl:List D} (h : ∀ u∈us,bs.contains u.1=false):upds us (blank bs sl)=blank bs (upds us sl):=by
 refine List.ext_getElem? fun k => ?_
 cases hk:bs.contains k with
 | false =>
  rw[blank_out hk]
  exact upds_same us _ _ k blank_len (blank_out hk)
 | true =>
  rw[upds_get us _ k (fun u hu e=>by subst e;rw[h u hu]at hk;cases hk)]
  by_cases hl:k<sl.length
  ·rw[blank_in hk hl,blank_in hk (by rw[upds_len];exact hl)]
  ·rw[List.getElem?_eq_none (by rw[blank_len];omega),List.getElem?_eq_none (by rw[blank_len,upds_len];omega)]
structure HalR (V:VProg) (bs:List Nat) (ops:Array Oper) (strict:Bool) (vos:List VOper) (F:Nat -> Bool):Prop where
 eb:edgesBack ops=true
 rt : ∀ x∈rootsOf vos,x=none
 pan : ∀ (j:Nat) (y:VOper),vos[j]?=some y -> y.op.pans=false
 fh : ∀ (j:Nat) (y:VOper),vos[j]?=some y -> y.op.isHal=true -> F j=true
 fin : ∀ (j:Nat),j<vos.length -> F j=false -> ∀ i,isHalAt vos i=true -> ((Region.before ops).getD j 0).testBit i=true
 hal : ∀ (j:Nat) (y:VOper),vos[j]?=some y -> y.op.isHal=true -> y.guard=none /\ ∃ k,y.keep=some k
 non : ∀ (j:Nat) (y:VOper),vos[j]?=some y -> F j=true -> y.op.isHal=false -> (y.op.hc V strict = .n \/ y.op.hc V strict = .r) /\ y.op.isBox=false /\ y.op.isAddr=false /\ ∀ k,k∈y.slR (rootsOf vos) \/ k∈y.slW (rootsOf vos) -> (halSlots vos++bs).contains k=false
 hh : ∀ (i j:Nat) (x y:VOper),i<j -> vos[i]?=some x -> vos[j]?=some y -> x.op.isHal=true -> y.op.isHal=true -> ∀ k,k∈x.slW (rootsOf vos) -> k∉y.slW (rootsOf vos)
 hn : ∀ (i j:Nat) (x y:VOper),i<j -> F j=true -> vos[i]?=some x -> vos[j]?=some y -> x.op.isHal≠y.op.isHal -> Indep V strict (rootsOf vos) i j x y
 nn : ∀ (i j:Nat) (x y:VOper),i<j -> vos[i]?=some x -> vos[j]?=some y -> x.op.isHal=false -> y.op.isHal=false -> ((Region.before ops).getD j 0).testBit i=true \/ Indep V strict (rootsOf vos) i j x y
theorem halAt_at {vos:List VOper} {i:Nat} {y:VOper} (h:vos[i]?=some y):isHalAt vos i=y.op.isHal:=by unfold isHalAt;rw[h]
theorem halOrd_spec {V:VProg} {bs:List Nat} {ops:Array Oper} {strict:Bool} {vos:List VOper} (h:halOrd V ops strict vos bs=true):HalR V bs ops strict vos (fstOf (Region.before ops) vos):=by
 unfold halOrd at h
 simp only[Bool.and_eq_true,List.all_eq_true,List.mem_range]at h
 obtain⟨⟨h3,h4⟩,h5⟩:=h
 have go : ∀ (j:Nat) (y:VOper),vos[j]?=some y -> _:=fun j y hy=>by
  have:=h5 j (lt_of_get hy)
  rw[hy]at this
  simp only[Bool.and_eq_true,Bool.not_eq_true']at this
  exact this
 have fh : ∀ (j:Nat) (y:VOper),vos[j]?=some y -> y.op.isHal=true -> fstOf (Region.before ops) vos j=true:=fun j y hy hh=>by
  unfold fstOf;rw[halAt_at hy,hh];rfl
 have pre : ∀ (j:Nat) (y:VOper),vos[j]?=some y -> fstOf (Region.before ops) vos j=true -> halOp V strict (rootsOf vos) (halSlots vos++bs) y=true /\ ∀ i,i<j -> halPair V strict (rootsOf vos) (Region.before ops) vos j y i=true:=fun j y hy hp=>by
  have:=(go j y hy).2
  rw[hp]at this
  simp only[Bool.and_eq_true,List.all_eq_true,List.mem_range]at this
  exact this
 have late : ∀ (j:Nat) (y:VOper),vos[j]?=some y -> fstOf (Region.before ops) vos j=false -> ∀ i,i<j -> halLate V strict (rootsOf vos) (Region.before ops) vos j i=true:=fun j y hy hp=>by
  have:=(go j y hy).2
  rw[hp]at this
  simp only[List.all_eq_true,List.mem_range]at this
  exact this
 have pair : ∀ (i j:Nat) (x y:VOper),i<j -> fstOf (Region.before ops) vos j=true -> vos[i]?=some x -> vos[j]?=some y -> (match x.op.isHal,y.op.isHal with
  | true,true => !meet (x.slW (rootsOf vos)) (y.slW (rootsOf vos))
  | false,false=>((Region.before ops).getD j 0).testBit i||indep V strict (rootsOf vos) vos i j
  | _,_=>indep V strict (rootsOf vos) vos i j)=true:=fun i j x y hij hj hx hy=>by
  have:=(pre j y hy hj).2 i hij
  unfold halPair at this
  rw[hx]at this
  exact this
 refine⟨h3,fun x hx=>by simpa using h4 x hx,fun j y hy=>(go j y hy).1,fh,fun j hj hf i hi => ?_,fun j y hy hh => ?_,fun j y hy hj hh => ?_,fun i j x y hij hx hy e1 e2 => ?_,fun i j x y hij hj hx hy e => ?_,fun i j x y hij hx hy e1 e2 => ?_⟩
 ·unfold fstOf at hf
  simp only[Bool.or_eq_false_iff,Bool.not_eq_false']at hf
  have:=hf.2
  unfold allHal at this
  simp only[List.all_eq_true,List.mem_range]at this
  have hl:i<vos.length:=by
   rcases Nat.lt_or_ge i vos.length with h|h
   ·exact h
   ·unfold isHalAt at hi;rw[List.getElem?_eq_none h]at hi;cases hi
  have:=this i hl
  rw[hi]at this
  simpa using this
 ·have:=(pre j y hy (fh j y hy hh)).1
  unfold halOp at this
  rw[hh]at this
  simp only[Bool.and_eq_true,Option.isNone_iff_eq_none,Option.isSome_iff_exists]at this
  exact this
 ·have:=(pre j y hy hj).1
  unfold halOp at this
  rw[hh]at this
  simp only[Bool.and_eq_true,Bool.or_eq_true,beq_iff_eq,Bool.not_eq_true']at this
  obtain⟨⟨⟨a1,a2⟩,a3⟩,a4⟩:=this
  refine⟨a1,a2,a3,fun k hk => ?_⟩
  have:=meet_spec a4 k (List.mem_append.2 hk)
  simpa using this
 ·have:=pair i j x y hij (fh j y hy e2) hx hy
  rw[e1,e2]at this
  simp only[Bool.not_eq_true']at this
  exact meet_spec this
 ·have:=pair i j x y hij hj hx hy
  cases hq:x.op.isHal<;>cases hr:y.op.isHal<;>rw[hq,hr]at this e<;>first|exact absurd rfl e|exact indep_spec hx hy this
 ·cases hf:fstOf (Region.before ops) vos j with
  | true =>
   have:=pair i j x y hij hf hx hy
   rw[e1,e2]at this
   simp only[Bool.or_eq_true]at this
   exact this.imp id (indep_spec hx hy)
  | false =>
   have:=late j y hy hf i hij
   unfold halLate at this
   rw[halAt_at hx,e1]at this
   simp only[Bool.false_or,Bool.or_eq_true]at this
   exact this.imp id (indep_spec hx hy)
theorem turn_at {F:Nat -> Bool} {i:Nat} {vos:List VOper} {y:VOper} (h:vos[i]?=some y):(halTurn F vos)[i]?=some (halOne (F i) y):=by
 simp[halTurn,List.getElem?_map,List.getElem?_zipIdx,h]
theorem turn_len {F:Nat -> Bool} {vos:List VOper}:(halTurn F vos).length=vos.length:=by simp[halTurn]
theorem turn_non {F:Nat -> Bool} {i:Nat} {vos:List VOper} {y:VOper} (h:vos[i]?=some y) (hp:F i=true) (hh:y.op.isHal=false):(halTurn F vos)[i]?=some y:=by
 rw[turn_at h]
 unfold halOne
 rw[hp]
 simp only
 split
 ·rename_i e;rw[e]at hh;cases hh
 ·rfl
theorem hal_slot {i k:Nat} {vos:List VOper} {y:VOper} (h:vos[i]?=some y) (hh:y.op.isHal=true) (hk:y.keep=some k):(halSlots vos).contains k=true:=by
 have:k∈halSlots vos:=List.mem_flatMap.2 ⟨y,List.mem_of_getElem? h,by simp[hh,hk]⟩
 simpa using this
theorem con_app {a b:List Nat} {k:Nat}:(a++b).contains k=(a.contains k||b.contains k):=by
 rw[Bool.eq_iff_iff]
 simp
section
variable {P:Program} {V:VProg} {nt:Nat} {tm bs:List Nat} {ops:Array Oper} {strict:Bool} {vos:List VOper} {F:Nat -> Bool} {E:En} {nd:List Deferred}
structure Ph (P:Program) (V:VProg) (nt:Nat) (tm bs:List Nat) (ops:Array Oper) (vos:List VOper) (F:Nat -> Bool) (E:En) (nd:List Deferred) (listed:Nat -> Prop) (L:Nat -> Option Nat) (K:Kn) (μ:Mu) (loc sl:List D) (H:Heap) (a:Act) (W:World):Prop where
 ri:RI (cxOf P V nt tm (halSlots vos++bs) ops (halTurn F vos)) ⟨K,μ,H,W⟩ nd (fun j=>listed j /\ ∃ y,vos[j]?=some y /\ y.op.isHal=false) (fun _=>none) K μ loc (blank (halSlots vos++bs) sl) H a W
 fs:FS E tm (halSlots vos++bs) K μ L (blank (halSlots vos) sl) H a.tmps W
 hb : ∀ (i:Nat) (y:VOper) (k:Nat),vos[i]?=some y -> y.op.isHal=true -> y.keep=some k -> listed i -> ∃ ty zs r vs t,y.op = .hal ty zs /\ tm[k]?=some t /\ L k=some r /\ a.tmps[t]?=some (.pointer (some ⟨r,0,none⟩)) /\ W.heap[r]?=some (.cells vs ty (0,0)) /\ (∀ K μ H,CRs K μ H zs vs.toList)
 nl : ∀ (i:Nat) (y:VOper) (k:Nat),vos[i]?=some y -> y.op.isHal=true -> y.keep=some k -> ¬ listed i -> L k=none
 lt : ∀ j,listed j -> j<vos.length /\ F j=true
theorem FS.rest {E:En} {tm bs:List Nat} {K:Kn} {μ:Mu} {sl:List D} {H:Heap} {tmps:Array Value} {W:World} (h:FS E tm bs K μ (fun _=>none) sl H tmps W) {t k:Nat} (hk:tm[k]?=some t) (hb:bs.contains k=true) (v:Value) (hnd : ∀ (j j' u:Nat),tm[j]?=some u -> tm[j']?=some u -> j=j') (hu : ∀ j,bs.contains j=true -> j<sl.length -> sl[j]?=some .u):FS E tm bs K μ (fun _=>none) sl H (tmps.setIfInBounds t v) W:=by
 refine⟨h.hr,h.nx,h.len,fun j u hj hbj => ?_,fun j u hj hbj => .inl (hu j hbj (by rw[h.len];exact lt_of_get hj)),h.own,h.inj⟩
 obtain⟨d,w,e1,e2,e3⟩:=h.val j u hj hbj
 refine⟨d,w,e1,put_other e2 (fun e => ?_),e3⟩
 subst e
 have:=hnd j k t hj hk
 subst this
 rw[hb]at hbj;cases hbj
theorem Nx.te {T:Kn -> World -> Prop} (up : ∀ {K:Kn} {μ:Mu} {H:Heap} {W:World} {K':Kn} {μ':Mu} {H':Heap} {W':World},T K W -> HR K μ H W -> Nx K μ H W K' μ' H' W' -> T K' W') (hT:TE T E) {K:Kn} {μ:Mu} {H:Heap} {W:World} (hr:HR K μ H W) (nx:Nx E.K E.μ E.H E.w K μ H W):TE T ⟨K,μ,H,W⟩:=⟨up hT.1 hT.2 nx,hr⟩
theorem bsfl {k:Nat} (h:(halSlots vos++bs).contains k=false):(halSlots vos).contains k=false /\ bs.contains k=false:=by
 rw[con_app,Bool.or_eq_false_iff]at h;exact h
theorem ph_non {T:Kn -> World -> Prop} (vok:VOK P V T) (hT:TE T E) {cl:FuncId -> List D -> Heap -> CR} (cs:CallSim P T cl) (hr:HalR V bs ops strict vos F) (rg:Reg (cxOf P V nt tm (halSlots vos++bs) ops (halTurn F vos))) {listed:Nat -> Prop} {L:Nat -> Option Nat} {K:Kn} {μ:Mu} {loc sl:List D} {H:Heap} {a:Act} {W:World}
  (ph:Ph P V nt tm bs ops vos F E nd listed L K μ loc sl H a W) {i:Nat} {o:Oper} {y:VOper} (ho:ops[i]?=some o) (hy:vos[i]?=some y) (hp:F i=true) (hh:y.op.isHal=false) (hd : ∀ j∈y.locR,listed j /\ ∃ y,vos[j]?=some y /\ y.op.isHal=false) {base:Bs} {loc1:List D} {st1:St} {d:D} {us:List (Nat×D)}
  (hs:EffR V cl base strict vos (rootsOf vos) i y loc ⟨sl,H⟩ loc1 st1 d us) {next:Act -> World -> Prop} {Q:Exit -> Act -> World -> Prop} {rd:Option Nat} {m:Nat}
  (hn : ∀ K' μ' a' W',Ph P V nt tm bs ops vos F E nd (fun j=>j=i \/ listed j) L K' μ' loc1 st1.sl st1.hp a' W' -> next a' W'):wpOpIn (FW rd) m P ops Q i next a W:=by
 obtain⟨hc,hb,ha,hsl⟩:=hr.non i y hy hp hh
 obtain⟨bb,hbb⟩ : ∃ bb,bb=halSlots vos++bs:=⟨_,rfl⟩
 rw[<- hbb]at hsl rg
 have hus : ∀ u∈us,bb.contains u.1=false:=fun u hu=>hsl u.1 (.inr (hs.ks u hu))
 have hH:st1.hp=H:=by
  have:=hs.ok
  rcases hc with h|h<;>(rw[h]at this;exact this)
 have h1:one V cl (some (base,strict)) vos i loc ⟨blank bb sl,H⟩=some (loc1,⟨upds us (blank bb sl),H⟩):=by
  have:=hs.same loc (blank bb sl) H ⟨fun _ _=>rfl,fun k hk=>blank_out (hsl k (.inl hk))⟩ (by rcases hc with h|h<;>rw[h];exact .intro;exact Sb.refl _ _)
  rw[this,hs.at_]
  have e:HcOut H st1.hp (y.op.hc V strict)=H:=by rcases hc with h|h<;>rw[h]<;>rfl
  rw[e]
 have hyt:=turn_non hy hp hh
 have h2:one V cl (some (base,strict)) (halTurn F vos) i loc ⟨blank bb sl,H⟩=some (loc1,⟨upds us (blank bb sl),H⟩):=by
  rw[<- h1]
  simp only[one,hyt,hy]
 have ri:=ph.ri
 rw[<- hbb]at ri
 have hte:TE T ⟨K,μ,H,W⟩:=Nx.te vok.up hT ph.fs.hr ph.fs.nx
 refine one_step2 rg ri vok hte cs (o:=o) ho hyt hd hb ha h2 (fun K' μ' a' W' hput r=>hn K' μ' a' W' ?_)
 obtain⟨v,rfl⟩:=hput
 have hsl1:st1.sl=upds us sl:=hs.slot
 have ok:=okOper_spec (rg.op i o y ho hyt).1
 have htmp : ∀ (k t:Nat) (u:Value),tm[k]?=some t -> bb.contains k=true -> a.tmps[t]?=some u -> (a.put o.dst v).tmps[t]?=some u:=fun k t u hk hkb hu=>by
  cases hdst:o.dst with
  | none=>exact hu
  | some t' =>
   refine put_other hu (fun e => ?_)
   subst e
   cases hkp:y.keep with
   | none =>
    have:=(ok.loc t' hdst hkp).1
    exact not_tm this k hk
   | some k' =>
    obtain⟨g1,g2,_⟩:=ok.slot t' k' hdst hkp
    have:=rg.nodup k k' t' hk g1
    subst this
    have g2:bb.contains k=y.op.isBox:=g2
    rw[hb,hkb]at g2;cases g2
 have nx:=r.fs.nx
 have keep : ∀ (k r:Nat),L k=some r -> W'.heap[r]?=W.heap[r]?:=fun k r hk=>nx.keep r (ph.fs.own k r hk).2.2.2 (ph.fs.own k r hk).1
 refine⟨?_, ?_,fun j x k hx hxh hk hl => ?_,fun j x k hx hxh hk hl => ?_,fun j hj=>hj.elim (fun e=>e▸⟨lt_of_get hy,hp⟩) (ph.lt j)⟩
 ·rw [<- hbb,hsl1,hH, <- blank_upds hus]
  exact ⟨r.fs.base0,fun j o' vo' t' hj=>r.lr j o' vo' t' (by
   rcases hj with⟨hj|hj,hx⟩
   ·exact .inl hj
   ·exact .inr ⟨hj,hx⟩),r.sz,r.df,r.ln⟩
 ·rw [hsl1,hH]
  have hsub : ∀ u∈us,(halSlots vos).contains u.1=false:=fun u hu=>(bsfl (hbb▸hus u hu)).1
  refine⟨r.fs.hr,ph.fs.nx.trans nx,by rw[blank_len,upds_len];have:=ph.fs.len;rwa [blank_len]at this,fun k t hk hkb => ?_,fun k t hk hkb => ?_,fun k r' hk => ?_,ph.fs.inj⟩
  ·obtain⟨d',v',e1,e2,e3⟩:=r.fs.val k t hk (by rw[hbb];exact hkb)
   refine⟨d',v', ?_,e2,e3⟩
   rw[blank_upds hus,blank_out (by rw[hbb];exact hkb)]at e1
   rw[blank_out (bsfl hkb).1];exact e1
  ·have e0:(blank (halSlots vos) (upds us sl))[k]?=(blank (halSlots vos) sl)[k]?:=by
    rw[<- blank_upds hsub]
    exact upds_get us _ k (fun u hu e=>by subst e;rw[hbb]at hus;rw[hus u hu]at hkb;cases hkb)
   rw[e0]
   rcases ph.fs.box k t hk hkb with e|⟨r',cs',vs',ty',e1,e2,e3,e4,e5⟩
   ·exact .inl e
   ·exact .inr ⟨r',cs',vs',ty',e1,e2,htmp k t _ hk (by rw[hbb];exact hkb) e3,by rw[keep k r' e1];exact e4,e5.ext nx.ext⟩
  ·obtain ⟨p1,p2,p3,p4⟩:=ph.fs.own k r' hk
   refine⟨fun ho => ?_,fun o' v' e => ?_,p3,Nat.lt_of_lt_of_le p4 nx.size⟩
   ·rcases nx.og r' ho with x|x
    ·exact p1 x
    ·have:W.heap.size <= r':=x
     omega
   ·rcases nx.kg r' o' v' e with x|x|x
    ·exact p2 o' v' x
    ·exact p1 x
    ·have:W.heap.size <= r':=x
     omega
 ·rcases hl with rfl|hl
  ·rw[hy]at hx;cases hx;rw[hh]at hxh;cases hxh
  ·obtain⟨ty,zs,r',vs,t,e1,e2,e3,e4,e5,e6⟩:=ph.hb j x k hx hxh hk hl
   exact⟨ty,zs,r',vs,t,e1,e2,e3,htmp k t _ e2 (by rw[hbb,con_app,hal_slot hx hxh hk];rfl) e4,by rw[keep k r' e3];exact e5,e6⟩
 ·exact ph.nl j x k hx hxh hk (fun h=>hl (.inr h))
theorem ph_hal (hr:HalR V bs ops strict vos F) (rg:Reg (cxOf P V nt tm bs ops vos)) {listed:Nat -> Prop} {L:Nat -> Option Nat} {K:Kn} {μ:Mu} {loc sl:List D} {H:Heap} {a:Act} {W:World}
  (ph:Ph P V nt tm bs ops vos F E nd listed L K μ loc sl H a W) {i:Nat} {o:Oper} {y:VOper} (ho:ops[i]?=some o) (hy:vos[i]?=some y) (hp:F i=true) (hh:y.op.isHal=true) (hl : ¬ listed i) {next:Act -> World -> Prop} {Q:Exit -> Act -> World -> Prop} {rd:Option Nat} {m:Nat}
  (hn : ∀ L' a' W',Ph P V nt tm bs ops vos F E nd (fun j=>j=i \/ listed j) L' K μ loc sl H a' W' -> next a' W'):wpOpIn (FW rd) m P ops Q i next a W:=by
 obtain⟨hg,k,hk⟩:=hr.hal i y hy hh
 have ok:=okOper_spec (rg.op i o y ho hy).1
 obtain ⟨ty,zs,hop⟩ : ∃ ty zs,y.op = .hal ty zs:=by
  cases hq:y.op<;>rw[hq]at hh<;>first|(cases hh;done)|exact⟨_,_,rfl⟩
 obtain⟨t,hdst⟩:=ok.keep k hk
 obtain⟨htk,hkb,_⟩:=ok.slot t k hdst hk
 have hkb:bs.contains k=false:=by rw[show bs.contains k=y.op.isBox from hkb,hop];rfl
 have htk:tm[k]?=some t:=htk
 have hsl:=hal_slot hy hh hk
 have hsl2:(halSlots vos++bs).contains k=true:=by rw[con_app,hsl];rfl
 have hok:(match o.op with
  | .alloc t=>zeroOk P t zs&&ty==t
  | _=>false)=true:=by
  have:=ok.op
  obtain⟨yop,yk,yg⟩:=y
  cases hop
  exact this
 have hog:o.guard=none:=by
  rcases ok.guard with⟨_,e⟩|⟨x,b,j,t',e1,_⟩
  ·exact e
  ·rw[hg]at e1;cases e1
 split at hok
 ·rename_i t0 hoo
  simp only[Bool.and_eq_true,beq_iff_eq]at hok
  obtain⟨hok,rfl⟩:=hok
  obtain⟨vs,hvs,hc,hrun⟩:=run_alloc (a:=a) hok hoo W
  have hrun:(execOp a.eval o).run P W = .ok (.value (.pointer (some ⟨W.heap.size,0,none⟩))) (W.alloc (.cells vs ty)):=hrun
  unfold wpOpIn
  rw[ho]
  have hw:Region.wanted o (yielded ops a.tmps)=true:=by unfold Region.wanted;rw[hog]
  simp only[hw,if_true]
  refine wp_in (fun c e=>by rw[hoo]at e;cases e) ?_
  unfold Oper.wp
  rw[hrun,Oper.upon_value]
  have nodup:=rg.nodup
  have hsz:a.tmps.size=nt:=ph.ri.sz
  have htl:t<a.tmps.size:=by rw[hsz];exact rg.tmlt k t htk
  have hL:L k=none:=ph.nl i y k hy hh hk hl
  obtain⟨hr1,nx1⟩:=ph.fs.hr.loc (.cells vs ty)
  have hnew:(W.alloc (.cells vs ty)).heap[W.heap.size]?=some (.cells vs ty (0,0)):=heap_alloc_new W _
  have other : ∀ (k' t':Nat) (u:Value),k'≠k -> tm[k']?=some t' -> a.tmps[t']?=some u -> (a.tmps.setIfInBounds t (.pointer (some ⟨W.heap.size,0,none⟩)))[t']?=some u:=fun k' t' u hne hk' hu=>put_other hu (fun e=>hne (by subst e;exact nodup k' k t hk' htk))
  refine hn (fun j=>if j=k then some W.heap.size else L j) _ _ ?_
  have old : ∀ (j r:Nat),L j=some r -> (W.alloc (.cells vs ty)).heap[r]?=W.heap[r]?:=fun j r e=>heap_alloc_old W _ (ph.fs.own j r e).2.2.2
  refine⟨⟨?_,fun j o' vo' t' hj ho' hvo' hd' hk' => ?_, ?_, ?_,ph.ri.ln⟩,⟨hr1,ph.fs.nx.trans nx1,ph.fs.len,fun k' t' hk' hb' => ?_,fun k' t' hk' hb' => ?_,fun k' r' e => ?_,fun k1 k2 r' e1 e2 => ?_⟩,fun j x k' hx hxh hk' hlj => ?_,fun j x k' hx hxh hk' hlj => ?_,fun j hj=>hj.elim (fun e=>e▸⟨lt_of_get hy,hp⟩) (ph.lt j)⟩
  ·rw [hdst]
   have f1:=(ph.ri.fs.go hr1 nx1).base0
   exact f1.rest htk hsl2 _ nodup (fun j hj hjl=>by
    have hj':(halSlots vos++bs).contains j=true:=hj
    rw[blank_in hj' (by rw[blank_len]at hjl;exact hjl)])
  ·obtain ⟨x,u,e1,e2,e3⟩:=ph.ri.lr j o' vo' t' (by
    obtain⟨hj,z,hz,hzh⟩:=hj
    rcases hj with rfl|hj
    ·rw[hy]at hz;cases hz;rw[hh]at hzh;cases hzh
    ·exact⟨hj,z,hz,hzh⟩) ho' hvo' hd' hk'
   rw[hdst]
   refine⟨x,u,e1, ?_, ?_⟩
   ·refine put_other e2 (fun e => ?_)
    subst e
    obtain⟨hj,z,hz,hzh⟩:=hj
    have hzt:vos[j]?=some z:=hz
    have okz:=okOper_spec (rg.op j o' z ho' hzt).1
    have hjp:F j=true:=hj.elim (fun e=>e▸hp) (fun h=>(ph.lt j h).2)
    have hzk:z.keep=none:=by
     have:=turn_non hz hjp hzh
     have hvo':(halTurn F vos)[j]?=some vo':=hvo'
     rw[this]at hvo';cases hvo';exact hk'
    exact not_tm (okz.loc t hd' hzk).1 k htk
   ·revert e3
    cases vo'.op.isAddr with
    | true=>exact id
    | false=>exact fun e3=>e3.ext nx1.ext
  ·rw[hdst];simpa [Act.put]using ph.ri.sz
  ·rw[hdst];exact ph.ri.df
  ·have hne:k'≠k:=fun e=>by subst e;rw[hsl2]at hb';cases hb'
   obtain⟨d,v,e1,e2,e3⟩:=ph.fs.val k' t' hk' hb'
   rw[hdst]
   exact⟨d,v,e1,other k' t' v hne hk' e2,e3.ext nx1.ext⟩
  ·by_cases hne:k'=k
   ·subst hne
    refine .inl (blank_in hsl ?_)
    have:=ph.fs.len
    rw[blank_len]at this
    rw[this];exact lt_of_get htk
   ·rcases ph.fs.box k' t' hk' hb' with e|⟨r',cs',vs',ty',e1,e2,e3,e4,e5⟩
    ·exact .inl e
    ·refine .inr ⟨r',cs',vs',ty',by rw[if_neg hne];exact e1,e2, ?_,by rw[old k' r' e1];exact e4,e5.ext nx1.ext⟩
     rw[hdst];exact other k' t' _ hne hk' e3
  ·split at e
   ·cases e
    refine⟨fun ho => ?_,fun o' v' e => ?_,ph.fs.nx.size,by simp⟩
    ·obtain⟨id,l,b,q1,q2,q3,q4⟩:=ho
     have:=ph.fs.hr.lt id l q1
     omega
    ·have:=ph.fs.hr.klt e
     omega
   ·obtain⟨p1,p2,p3,p4⟩:=ph.fs.own k' r' e
    exact⟨p1,p2,p3,by simp;omega⟩
  ·split at e1<;>split at e2
   ·omega
   ·cases e1;have:=(ph.fs.own k2 _ e2).2.2.2;omega
   ·cases e2;have:=(ph.fs.own k1 _ e1).2.2.2;omega
   ·exact ph.fs.inj k1 k2 r' e1 e2
  ·by_cases hji:j=i
   ·subst hji
    rw[hy]at hx;cases hx
    rw[hk]at hk';cases hk'
    refine⟨ty,zs,W.heap.size,vs,t,hop,htk,if_pos rfl, ?_,hnew,hc⟩
    rw[hdst];exact put_same htl
   ·obtain ⟨ty',zs',r',vs',t',e1,e2,e3,e4,e5,e6⟩:=ph.hb j x k' hx hxh hk' (hlj.resolve_left hji)
    have hne:k'≠k:=fun e=>by
     subst e;rw[hL]at e3;cases e3
    exact⟨ty',zs',r',vs',t',e1,e2,by simp only[hne,if_false];exact e3,by rw[hdst];exact other k' t' _ hne e2 e4,by rw[old k' r' e3];exact e5,e6⟩
  ·have hne:k'≠k:=fun e=>by
    subst e
    have hji:j≠i:=fun e=>hlj (.inl e)
    rcases Nat.lt_or_ge j i with h|h
    ·exact hr.hh j i x y h hx hy hxh hh k' (by simp[VOper.slW,hk']) (by simp[VOper.slW,hk])
    ·exact hr.hh i j y x (by omega) hy hx hh hxh k' (by simp[VOper.slW,hk]) (by simp[VOper.slW,hk'])
   show(if k'=k then _ else L k')=none
   rw[if_neg hne]
   exact ph.nl j x k' hx hxh hk' (fun h=>hlj (.inr h))
 ·cases hok
theorem FS.bs_congr {bs bs':List Nat} {K:Kn} {μ:Mu} {L:Nat -> Option Nat} {sl:List D} {H:Heap} {tmps:Array Value} {W:World} (h:FS E tm bs K μ L sl H tmps W) (e : ∀ k,bs.contains k=bs'.contains k):FS E tm bs' K μ L sl H tmps W :=
 ⟨h.hr,h.nx,h.len,fun k t a b=>h.val k t a (by rw[e];exact b),fun k t a b=>h.box k t a (by rw[e];exact b),h.own,h.inj⟩
def keepAt (vos:List VOper) (i:Nat):List Nat:=match vos[i]? with
 | some y=>y.keep.toList
 | none=>[]
structure HvB (vos:List VOper) (tm:List Nat) (L:Nat -> Option Nat) (a:Act) (W:World) (i:Nat):Prop where
 h : ∃ y k ty zs r vs t,vos[i]?=some y /\ y.guard=none /\ y.keep=some k /\ y.op = .hal ty zs /\ tm[k]?=some t /\ L k=some r /\ a.tmps[t]?=some (.pointer (some ⟨r,0,none⟩)) /\ W.heap[r]?=some (.cells vs ty (0,0)) /\ (∀ K μ H,CRs K μ H zs vs.toList)
theorem adopt_all {cl:FuncId -> List D -> Heap -> CR} (hcl:CallFit V cl) (bo:BaseOk vos (rootsOf vos)) {base:Bs} {a:Act} {W:World} {K:Kn} (hnd : ∀ (j j' u:Nat),tm[j]?=some u -> tm[j']?=some u -> j=j') {st':St} : ∀ (hl mix:List Nat) (L:Nat -> Option Nat) (μ:Mu) (loc sl slr:List D) (H:Heap),hl.Nodup -> mix.filter (isHalAt vos)=hl -> mix.Pairwise (fun j i=>isHalAt vos i=true -> isHalAt vos j=false -> j≠i /\ ∃ x y,vos[j]?=some x /\ vos[i]?=some y /\ Indep V strict (rootsOf vos) j i x y) -> (∀ i∈hl,HvB vos tm L a W i) ->
  (∀ i∈hl, ∀ j∈hl,i≠j -> ∀ k∈keepAt vos i,k∉keepAt vos j) -> (∀ i∈hl, ∀ k∈keepAt vos i,bs.contains k=false) ->
  FS E tm (hl.flatMap (keepAt vos)++bs) K μ L slr H a.tmps W -> slr.length=sl.length -> (∀ k,(hl.flatMap (keepAt vos)).contains k=false -> slr[k]?=sl[k]?) -> Inv base vos (rootsOf vos) loc ⟨sl,H⟩ -> opsL V cl (some (base,strict)) vos mix loc ⟨sl,H⟩=(.nm,st') ->
  ∃ L' μ' loc' sl' H',FS E tm bs K μ' L' sl' H' a.tmps W /\ Ext K μ H K μ' H' /\ opsL V cl (some (base,strict)) vos (mix.filter fun i => !isHalAt vos i) loc' ⟨sl',H'⟩=(.nm,st') /\ (∀ j,j∉hl -> loc'[j]?=loc[j]?) /\ Inv base vos (rootsOf vos) loc' ⟨sl',H'⟩:=by
 intro hl
 induction hl with
 | nil =>
  intro mix L μ loc sl slr H _ hmx _ _ _ _ fs hlen heq inv h
  obtain rfl:slr=sl:=List.ext_getElem? fun k=>heq k rfl
  have hm:mix.filter (fun i => !isHalAt vos i)=mix:=List.filter_eq_self.2 fun i hi=>by
   have:=List.filter_eq_nil_iff.1 hmx i hi
   simpa using this
  exact⟨L,μ,loc,slr,H,fs,.refl _ _ _,by rw[hm];exact h,fun _ _=>rfl,inv⟩
 | cons i hl ih =>
  intro mix L μ loc sl slr H hn hmx hpw hb hd hbs fs hlen heq inv h
  obtain⟨hni,hn'⟩:=List.nodup_cons.1 hn
  obtain⟨y,k,ty,zs,r,vs,t,e1,e2,e3,e4,e5,e6,e7,e8,e9⟩:=(hb i List.mem_cons_self).h
  have hki:keepAt vos i=[k]:=by simp[keepAt,e1,e3]
  have hkn:(hl.flatMap (keepAt vos)++bs).contains k=false:=by
   rw[con_app,Bool.or_eq_false_iff]
   refine⟨?_,hbs i List.mem_cons_self k (by rw[hki];simp)⟩
   have:k∉hl.flatMap (keepAt vos):=fun hm=>by
    obtain⟨j,hj,hkj⟩:=List.mem_flatMap.1 hm
    exact hd i List.mem_cons_self j (List.mem_cons_of_mem _ hj) (fun e=>hni (e▸hj)) k (by rw[hki];simp) hkj
   simpa using this
  obtain ⟨pre,post,rfl,hpre,hih,hpost⟩ : ∃ pre post,mix=pre++i::post /\ (∀ j∈pre,isHalAt vos j=false) /\ isHalAt vos i=true /\ post.filter (isHalAt vos)=hl:=by
   obtain⟨pre,post,e1,e2,e3,e4⟩:=List.filter_eq_cons_iff.1 hmx
   exact⟨pre,post,e1,fun j hj=>by simpa using e2 j hj,e3,e4⟩
  have hpp:=List.pairwise_append.1 hpw
  have h:=to_front hcl bo e1 pre loc ⟨sl,H⟩ inv (fun j hj=>by
   obtain⟨hne,x,y',hx,hy',hi⟩:=hpp.2.2 j hj i List.mem_cons_self hih (hpre j hj)
   rw[e1]at hy';cases hy'
   exact⟨hne,x,hx,hi⟩) h
  rw[opsL_cons]at h
  obtain⟨loc1,st1,g1,g2⟩:=h
  have inv1:=one_inv hcl bo inv g1
  have g3:loc1=loc.set i (.hp H.length 0) /\ st1=⟨sl.set k (.hp H.length 0),H++[.hb ty zs]⟩:=by
   unfold one at g1
   rw[e1]at g1
   simp only[VOper.wants,e2]at g1
   split at g1
   ·rw[e4]at g1
    simp only[step]at g1
    rw[e3]at g1
    cases g1
    exact⟨rfl,rfl⟩
   ·cases g1
  obtain⟨rfl,rfl⟩:=g3
  have fs1:FS E tm (k::(hl.flatMap (keepAt vos)++bs)) K μ L slr H a.tmps W:=fs.bs_congr (fun q=>by rw[List.flatMap_cons,hki];rfl)
  have fs2:=fs1.adopt e5 hkn e6 e7 e8 (e9 K μ H) hnd
  obtain ⟨L',μ',loc',sl',H',r1,r2,r3,r4,r5⟩:=ih (pre++post) (fun j=>if j=k then none else L j) _ _ (sl.set k (.hp H.length 0)) _ _ hn' (by
   rw[List.filter_append,hpost,List.filter_eq_nil_iff.2 (fun j hj=>by rw[hpre j hj];decide),List.nil_append]) (List.pairwise_append.2 ⟨hpp.1,(List.pairwise_cons.1 hpp.2.1).2,fun a ha b hb=>hpp.2.2 a ha b (List.mem_cons_of_mem _ hb)⟩) (fun j hj=>by
   obtain⟨y',k',ty',zs',r',vs',t',f1,f2,f3,f4,f5,f6,f7,f8,f9⟩:=(hb j (List.mem_cons_of_mem _ hj)).h
   have hne:k'≠k:=fun e=>by
    subst e
    exact hd i List.mem_cons_self j (List.mem_cons_of_mem _ hj) (fun e=>hni (e▸hj)) k' (by rw[hki];simp) (by simp[keepAt,f1,f3])
   exact⟨y',k',ty',zs',r',vs',t',f1,f2,f3,f4,f5,by simp only[hne,if_false];exact f6,f7,f8,f9⟩)
   (fun p hp q hq=>hd p (List.mem_cons_of_mem _ hp) q (List.mem_cons_of_mem _ hq)) (fun p hp=>hbs p (List.mem_cons_of_mem _ hp)) fs2 (by simp[hlen]) (fun q hq=>by
    by_cases hqk:k=q
    ·subst hqk;simp only[List.getElem?_set,if_true,hlen]
    ·rw[List.getElem?_set_ne hqk,List.getElem?_set_ne hqk]
     refine heq q ?_
     rw[List.flatMap_cons,hki,con_app,hq,Bool.or_false]
     simpa using Ne.symm hqk) inv1 g2
  have e0:(pre++i::post).filter (fun i => !isHalAt vos i)=(pre++post).filter (fun i => !isHalAt vos i):=by
   rw[List.filter_append,List.filter_append,List.filter_cons,hih];rfl
  refine⟨L',μ',loc',sl',H',r1,(Ext.push fs.hr.dom _ _).trans r2,by rw[e0];exact r3,fun j hj => ?_,r5⟩
  rw[r4 j (fun h=>hj (List.mem_cons_of_mem _ h)),List.getElem?_set_ne (fun e=>hj (by rw[e];exact List.mem_cons_self))]
theorem hal_end {T:Kn -> World -> Prop} (vok:VOK P V T) (hT:TE T E) {cl:FuncId -> List D -> Heap -> CR} (cs:CallSim P T cl) (hcl:CallFit V cl) (bo:BaseOk vos (rootsOf vos)) (hr:HalR V bs ops strict vos F) (rg:Reg (cxOf P V nt tm bs ops vos)) (back : ∀ (i:Nat) (vo:VOper),vos[i]?=some vo -> ∀ j∈vo.locR,j<i)
    (hfirst : ∀ (i:Nat) (vo:VOper),vos[i]?=some vo -> vo.op.isBox=true -> ∀ k,vo.keep=some k -> ∀ j,j<i -> (rootsOf vos)[j]?≠some (some k)) (hedge : ∀ (i:Nat) (o:Oper),ops[i]?=some o -> ∀ e∈o.after.toList,Region.binds .any e=true -> e.on<i) {base:Bs} {st':St} {Q:Exit -> Act -> World -> Prop} {rd:Option Nat} {m:Nat}
    (hQ : ∀ L' K' μ' a' W',FS E tm bs K' μ' L' st'.sl st'.hp a'.tmps W' -> a'.tmps.size=nt -> a'.defers=nd -> Q .normal a' W')
    {fuel:Nat} {listed:Array Bool} {L:Nat -> Option Nat} {K:Kn} {μ:Mu} {loc sl:List D} {H:Heap} {a:Act} {W:World} (hsz:listed.size=vos.length) (hfuel:((List.range vos.length).filter (fun i => !listed.getD i true)).length <= fuel) (hall : ∀ i,isHalAt vos i=true -> Listed listed i)
    (hclosed : ∀ i j,Listed listed j -> ((Region.before ops).getD j 0).testBit i=true -> Listed listed i)
    (hind : ∀ (i j:Nat) (x y:VOper),i<j -> Listed listed j -> ¬ Listed listed i -> vos[i]?=some x -> vos[j]?=some y -> y.op.isHal=false -> Indep V strict (rootsOf vos) i j x y)
    (ph:Ph P V nt tm bs ops vos F E nd (Listed listed) L K μ loc sl H a W) (inv:Inv base vos (rootsOf vos) loc ⟨sl,H⟩)
    (h:opsL V cl (some (base,strict)) vos ((List.range vos.length).filter fun i => !listed.getD i true||isHalAt vos i) loc ⟨sl,H⟩=(.nm,st')):wpAnyIn (FW rd) m P .any ops Q fuel listed a W:=by
  have osz:ops.size=vos.length:=rg.sz
  have hlv : ∀ i,isHalAt vos i=true -> ∃ y,vos[i]?=some y /\ y.op.isHal=true:=fun i hi=>by
    unfold isHalAt at hi
    split at hi
    · rename_i y hy;exact⟨y,hy,hi⟩
    · cases hi
  obtain⟨mix,hmix⟩ : ∃ mix,mix=(List.range vos.length).filter fun i => !listed.getD i true||isHalAt vos i:=⟨_,rfl⟩
  obtain⟨hl,hhl⟩ : ∃ hl,hl=mix.filter (isHalAt vos):=⟨_,rfl⟩
  have hmem : ∀ i,i∈hl↔isHalAt vos i=true:=fun i=>by
    rw[hhl,List.mem_filter,hmix,List.mem_filter,List.mem_range]
    exact⟨fun h=>h.2,fun h=>⟨⟨by obtain⟨y,hy,_⟩:=hlv i h;exact lt_of_get hy,by rw[h,Bool.or_true]⟩,h⟩⟩
  have hrest:mix.filter (fun i => !isHalAt vos i)=(List.range vos.length).filter fun i => !listed.getD i true:=by
    rw[hmix,List.filter_filter]
    refine List.filter_congr fun i hi => ?_
    have hi:=List.mem_range.1 hi
    cases hh:isHalAt vos i with
    | false=>simp
    | true =>
      have:(!listed.getD i true)=false:=by
        cases hq : !listed.getD i true with
        | false=>rfl
        | true=>exact absurd (hall i hh) ((not_listed (by omega)).1 hq)
      rw[this];rfl
  rw[<- hmix]at h
  have hbd : ∀ i∈hl,HvB vos tm L a W i:=fun i hi=>by
    obtain⟨y,hy,hh⟩:=hlv i ((hmem i).1 hi)
    obtain⟨hg,k,hk⟩:=hr.hal i y hy hh
    obtain⟨ty,zs,r,vs,t,f1,f2,f3,f4,f5,f6⟩:=ph.hb i y k hy hh hk (hall i ((hmem i).1 hi))
    exact⟨y,k,ty,zs,r,vs,t,hy,hg,hk,f1,f2,f3,f4,f5,f6⟩
  have hkc : ∀ i∈hl, ∀ k∈keepAt vos i, ∃ y,vos[i]?=some y /\ y.op.isHal=true /\ y.keep=some k:=fun i hi k hk=>by
    obtain⟨y,hy,hh⟩:=hlv i ((hmem i).1 hi)
    unfold keepAt at hk
    rw[hy]at hk
    exact⟨y,hy,hh,by simpa using hk⟩
  have hcon : ∀ k,(halSlots vos).contains k=(hl.flatMap (keepAt vos)).contains k:=fun k=>by
    rw[Bool.eq_iff_iff]
    simp only[List.contains_iff_mem]
    constructor
    · intro hk
      obtain⟨y,hy,hk⟩:=List.mem_flatMap.1 hk
      split at hk
      · rename_i hh
        obtain⟨i,hi,e⟩:=List.mem_iff_getElem.1 hy
        have hiy:vos[i]?=some y:=by rw[<- e];exact List.getElem?_eq_getElem _
        exact List.mem_flatMap.2 ⟨i,(hmem i).2 (by rw[halAt_at hiy];exact hh),by simpa [keepAt,hiy]using hk⟩
      · cases hk
    · intro hk
      obtain⟨i,hi,hk⟩:=List.mem_flatMap.1 hk
      obtain⟨y,hy,hh,hk⟩:=hkc i hi k hk
      have:=hal_slot hy hh hk
      simpa using this
  have sorted:mix.Pairwise (· < ·):=by rw[hmix];exact List.Pairwise.filter _ List.pairwise_lt_range
  have hpw:mix.Pairwise (fun j i=>isHalAt vos i=true -> isHalAt vos j=false -> j≠i /\ ∃ x y,vos[j]?=some x /\ vos[i]?=some y /\ Indep V strict (rootsOf vos) j i x y):=by
    refine List.Pairwise.imp_of_mem (fun{j i} hj _ hji hi hnj => ?_) sorted
    obtain⟨y,hy,hh⟩:=hlv i hi
    have hjl:j<vos.length:=by rw[hmix]at hj;exact List.mem_range.1 (List.mem_filter.1 hj).1
    have hx:vos[j]?=some vos[j]:=List.getElem?_eq_getElem hjl
    rw[halAt_at hx]at hnj
    exact⟨by omega,_,y,hx,hy,hr.hn j i _ y hji (hr.fh i y hy hh) hx hy (by rw[hnj,hh];decide)⟩
  obtain⟨L',μ',loc',sl',H',r1,r2,r3,r4,r5⟩:=adopt_all (E:=E) (bs:=bs) (strict:=strict) hcl bo (K:=K) rg.nodup hl mix L μ loc sl (blank (halSlots vos) sl) H (by rw[hhl,hmix];exact List.Pairwise.filter _ (List.Pairwise.filter _ List.nodup_range)) hhl.symm hpw hbd
    (fun i hi j hj hij k hk hk'=>by
      obtain⟨y,hy,hh,hk⟩:=hkc i hi k hk
      obtain⟨z,hz,hh',hk'⟩:=hkc j hj k hk'
      rcases Nat.lt_or_ge i j with h|h
      · exact hr.hh i j y z h hy hz hh hh' k (by simp[VOper.slW,hk]) (by simp[VOper.slW,hk'])
      · exact hr.hh j i z y (by omega) hz hy hh' hh k (by simp[VOper.slW,hk']) (by simp[VOper.slW,hk]))
    (fun i hi k hk=>by
      obtain⟨y,hy,hh,hk⟩:=hkc i hi k hk
      obtain⟨o,ho⟩ : ∃ o,ops[i]?=some o:=⟨_,Array.getElem?_eq_getElem (by rw[osz];exact lt_of_get hy)⟩
      have ok:=okOper_spec (rg.op i o y ho hy).1
      obtain⟨t,hdst⟩:=ok.keep k hk
      have:=(ok.slot t k hdst hk).2.1
      rw[show bs.contains k=y.op.isBox from this]
      cases hq:y.op<;>rw[hq]at hh<;>first|(cases hh;done)|rfl)
    (ph.fs.bs_congr fun k=>by rw[con_app,con_app,hcon]) blank_len (fun k hk=>blank_out (by rw[hcon];exact hk)) inv h
  rw[hrest]at r3
  have nx : ∀ j o' vo' t',Listed listed j -> ops[j]?=some o' -> vos[j]?=some vo' -> o'.dst=some t' -> vo'.keep=none -> ∃ d v,loc'[j]?=some d /\ a.tmps[t']?=some v /\ vo'.op.isAddr=false /\ VR K μ' H' d v:=fun j o' vo' t' hj ho' hvo' hd' hk'=>by
    have hjp:=(ph.lt j hj).2
    have hnh:vo'.op.isHal=false:=by
      cases hq:vo'.op.isHal with
      | false=>rfl
      | true=>obtain⟨_,k,hk⟩:=hr.hal j vo' hvo' hq;rw[hk']at hk;cases hk
    obtain⟨d,v,e1,e2,e3⟩:=ph.ri.lr j o' vo' t' ⟨hj,vo',hvo',hnh⟩ ho' (turn_non hvo' hjp hnh) hd' hk'
    have ha:=(hr.non j vo' hvo' hjp hnh).2.2.1
    rw[ha]at e3
    refine⟨d,v, ?_,e2,ha,e3.ext r2⟩
    rw [r4 j (fun hm=>by
      have:=(hmem j).1 hm
      rw[halAt_at hvo',hnh]at this;cases this)]
    exact e1
  refine any_order (c:=cxOf P V nt tm bs ops vos) (E:=E) (nd:=nd) (strict:=strict) (base:=base) (X:=fun i=>isHalAt vos i=true) rg vok hT cs hcl bo back hfirst (fun i j x y hij hX hx hy => ?_) hedge hQ fuel listed L' K μ' loc' ⟨sl',H'⟩ a W _ hsz rfl hfuel hall hclosed (fun i j x y hij hj hn hx hy => ?_) ⟨r1,fun j o' vo' t' hj ho' hvo' hd' hk' => ?_,ph.ri.sz,ph.ri.df,r5.len⟩ r5 r3
  · have hx':vos[i]?=some x:=hx
    have hy':vos[j]?=some y:=hy
    rw[halAt_at hx']at hX
    have hX:x.op.isHal=false:=by simpa using hX
    cases hh:y.op.isHal with
    | false=>exact hr.nn i j x y hij hx hy hX hh
    | true=>exact .inr (hr.hn i j x y hij (hr.fh j y hy hh) hx hy (by rw[hX,hh];decide))
  · have hx':vos[i]?=some x:=hx
    have hX:x.op.isHal=false:=by
      cases hq:x.op.isHal with
      | false=>rfl
      | true=>exact absurd (hall i (by rw[halAt_at hx',hq])) hn
    cases hh:y.op.isHal with
    | false=>exact hind i j x y hij hj hn hx hy hh
    | true=>exact hr.hn i j x y hij (hr.fh j y hy hh) hx hy (by rw[hX,hh];decide)
  · obtain⟨d,v,e1,e2,e3,e4⟩:=nx j o' vo' t' hj ho' hvo' hd' hk'
    exact⟨d,v,e1,e2,by rw[e3];exact e4⟩
theorem hal_any {T : Kn -> World -> Prop} (vok:VOK P V T) (hT:TE T E) {cl:FuncId -> List D -> Heap -> CR} (cs:CallSim P T cl) (hcl:CallFit V cl) (bo:BaseOk vos (rootsOf vos)) (hr:HalR V bs ops strict vos F) (rg:Reg (cxOf P V nt tm bs ops vos)) (rg2:Reg (cxOf P V nt tm (halSlots vos++bs) ops (halTurn F vos))) (back : ∀ (i:Nat) (vo:VOper),vos[i]?=some vo -> ∀ j∈vo.locR,j<i)
    (hfirst : ∀ (i:Nat) (vo:VOper),vos[i]?=some vo -> vo.op.isBox=true -> ∀ k,vo.keep=some k -> ∀ j,j<i -> (rootsOf vos)[j]?≠some (some k)) (hedge : ∀ (i:Nat) (o:Oper),ops[i]?=some o -> ∀ e∈o.after.toList,Region.binds .any e=true -> e.on<i) {base:Bs} {st':St} {Q:Exit -> Act -> World -> Prop} {rd:Option Nat} {m:Nat}
    (hQ : ∀ L' K' μ' a' W',FS E tm bs K' μ' L' st'.sl st'.hp a'.tmps W' -> a'.tmps.size=nt -> a'.defers=nd -> Q .normal a' W') :
    ∀ (fuel:Nat) (listed:Array Bool) (L:Nat -> Option Nat) (K:Kn) (μ:Mu) (loc sl:List D) (H:Heap) (a:Act) (W:World),listed.size=vos.length -> ((List.range vos.length).filter (fun i => !listed.getD i true)).length <= fuel ->
      (∀ i j,Listed listed j -> ((Region.before ops).getD j 0).testBit i=true -> Listed listed i) -> (∀ (i j:Nat) (x y:VOper),i<j -> Listed listed j -> ¬ Listed listed i -> vos[i]?=some x -> vos[j]?=some y -> y.op.isHal=false -> Indep V strict (rootsOf vos) i j x y) ->
      Ph P V nt tm bs ops vos F E nd (Listed listed) L K μ loc sl H a W -> Inv base vos (rootsOf vos) loc ⟨sl,H⟩ ->
      opsL V cl (some (base,strict)) vos ((List.range vos.length).filter fun i => !listed.getD i true||isHalAt vos i) loc ⟨sl,H⟩=(.nm,st') -> wpAnyIn (FW rd) m P .any ops Q fuel listed a W:=by
  have osz:ops.size=vos.length:=rg.sz
  have hlv : ∀ i,isHalAt vos i=true -> i<vos.length:=fun i hi=>by
    rcases Nat.lt_or_ge i vos.length with h|h
    · exact h
    · unfold isHalAt at hi;rw[List.getElem?_eq_none h]at hi;cases hi
  intro fuel
  induction fuel with
  | zero =>
    intro listed L K μ loc sl H a W hsz hfuel hclosed hind ph inv h
    refine hal_end vok hT cs hcl bo hr rg back hfirst hedge hQ hsz hfuel (fun i hi=>Classical.byContradiction fun hn => ?_) hclosed hind ph inv h
    have hi:=hlv i hi
    have:i∈(List.range vos.length).filter (fun i => !listed.getD i true):=List.mem_filter.2 ⟨List.mem_range.2 hi,(not_listed (by omega)).2 hn⟩
    have hz:(List.range vos.length).filter (fun i => !listed.getD i true)=[]:=List.eq_nil_of_length_eq_zero (by omega)
    rw[hz]at this
    cases this
  | succ fuel ih =>
    intro listed L K μ loc sl H a W hsz hfuel hclosed hind ph inv h
    by_cases hall : ∀ i,isHalAt vos i=true -> Listed listed i
    · exact hal_end vok hT cs hcl bo hr rg back hfirst hedge hQ hsz hfuel hall hclosed hind ph inv h
    obtain⟨q,hqh,hqn⟩ : ∃ i,isHalAt vos i=true /\ ¬ Listed listed i:=Classical.byContradiction fun hn=>hall fun i hi=>Classical.byContradiction fun h=>hn ⟨i,hi,h⟩
    have hlow : ∃ i,i<vos.length /\ ¬ Listed listed i:=⟨q,hlv q hqh,hqn⟩
    obtain⟨i0,⟨hi0,hn0⟩,hmin⟩:=least hlow
    refine⟨fun hr0 => ?_,fun i hi => ?_⟩
    · exfalso
      have : i0∈Region.ready .any ops listed:=by
        have hi:i0<ops.size:=by omega
        simp only[Region.ready,List.mem_filter,List.mem_range,Bool.and_eq_true]
        refine⟨hi,(not_listed (by omega)).2 hn0, ?_⟩
        rw[Array.getElem?_eq_getElem hi]
        simp only[Option.map_some,Option.getD_some,Array.all_eq_true']
        intro e he
        cases hb:Region.binds .any e with
        | false=>rfl
        | true =>
          simp only[Bool.not_true,Bool.false_or]
          have hlt:=hedge i0 _ (Array.getElem?_eq_getElem hi) e (by simpa using he) hb
          exact Classical.byContradiction fun hne=>hmin e.on hlt ⟨by omega,hne⟩
      rw[hr0]at this;cases this
    · simp only [Region.ready,List.mem_filter,List.mem_range,Bool.and_eq_true]at hi
      obtain⟨h1,h2,h3⟩:=hi
      have hlt:i<vos.length:=by omega
      have h2:=(not_listed (by omega)).1 h2
      have ho:ops[i]?=some ops[i]:=Array.getElem?_eq_getElem h1
      rw[ho]at h3
      simp only[Option.map_some,Option.getD_some,Array.all_eq_true']at h3
      have hafter : ∀ e∈ops[i].after.toList,Region.binds .any e=true -> Listed listed e.on:=fun e he hb=>by
        have:=h3 e (by simpa using he)
        simp only[hb,Bool.not_true,Bool.false_or]at this
        exact this
      have hbef : ∀ j,((Region.before ops).getD i 0).testBit j=true -> Listed listed j:=fun j hj=>by
        obtain⟨e,he,hb,hc⟩:=before_bit ho hj
        rcases hc with rfl|⟨_,hc⟩
        · exact hafter e he hb
        · exact hclosed j e.on (hafter e he hb) hc
      have hy:vos[i]?=some vos[i]:=List.getElem?_eq_getElem hlt
      have hp:F i=true:=by
        cases hF:F i with
        | true=>rfl
        | false=>exact absurd (hbef q (hr.fin i hlt hF q hqh)) hqn
      have hsz':(listed.setIfInBounds i true).size=vos.length:=by simpa using hsz
      have hcl' : ∀ q j,Listed (listed.setIfInBounds i true) j -> ((Region.before ops).getD j 0).testBit q=true -> Listed (listed.setIfInBounds i true) q:=fun q j hj hb=>by
        rcases listed_set hj with rfl|hj
        · exact listed_same (hbef q hb)
        · exact listed_same (hclosed q j hj hb)
      have hset : ∀ j,Listed (listed.setIfInBounds i true) j↔(j=i \/ Listed listed j):=fun j=>⟨listed_set,fun h=>h.elim (fun e=>e▸listed_new (by omega)) listed_same⟩
      have getD' : ∀ j,j<vos.length -> j≠i -> (listed.setIfInBounds i true).getD j true=listed.getD j true:=fun j hj hji=>by
        have hj:j<listed.size:=by omega
        simp[Array.getD,hj,Array.getElem_setIfInBounds_ne hj (Ne.symm hji)]
      have getDi:(listed.setIfInBounds i true).getD i true=true:=by
        simp[Array.getD,show i<listed.size by omega]
      have hfl:((List.range vos.length).filter (fun j => !(listed.setIfInBounds i true).getD j true)).length <= fuel:=by
        have e:(List.range vos.length).filter (fun j => !(listed.setIfInBounds i true).getD j true)=((List.range vos.length).filter (fun j => !listed.getD j true)).filter (fun j=>j != i):=by
          rw[List.filter_filter]
          refine List.filter_congr fun j hj => ?_
          have hj:=List.mem_range.1 hj
          by_cases hji:j=i
          · subst hji;rw[getDi];simp
          · rw[getD' j hj hji];simp[hji]
        rw[e]
        have hm:i∈(List.range vos.length).filter (fun j => !listed.getD j true):=List.mem_filter.2 ⟨List.mem_range.2 hlt,(not_listed (by omega)).2 h2⟩
        have:(((List.range vos.length).filter (fun j => !listed.getD j true)).filter (fun j=>j != i)).length<((List.range vos.length).filter (fun j => !listed.getD j true)).length:=by
          refine List.length_filter_lt_length_iff_exists.2 ⟨i,hm,by simp⟩
        omega
      have hindi : ∀ j,j<i -> (¬ Listed listed j \/ isHalAt vos j=true) -> vos[i].op.isHal=false -> Indep V strict (rootsOf vos) j i vos[j]! vos[i]:=fun j hj hjn hh=>by
        have hjl:j<vos.length:=by omega
        have hx:vos[j]?=some vos[j]! := by rw[getElem!_pos vos j hjl];exact List.getElem?_eq_getElem hjl
        cases hjh:(vos[j]!).op.isHal with
        | true=>exact hr.hn j i _ _ hj hp hx hy (by rw[hjh,hh];decide)
        | false =>
          rcases hr.nn j i _ _ hj hx hy hjh hh with hb|hb
          · rcases hjn with hjn|hjn
            · exact(hjn (hbef j hb)).elim
            · rw[halAt_at hx,hjh]at hjn;cases hjn
          · exact hb
      have hind' : ∀ (q j:Nat) (x y:VOper),q<j -> Listed (listed.setIfInBounds i true) j -> ¬ Listed (listed.setIfInBounds i true) q -> vos[q]?=some x -> vos[j]?=some y -> y.op.isHal=false -> Indep V strict (rootsOf vos) q j x y:=fun q j x y hqj hj hn hx hy' hh=>by
        have hn' : ¬ Listed listed q:=fun h=>hn (listed_same h)
        rcases listed_set hj with rfl|hj
        · rw[hy]at hy';cases hy'
          have:=hindi q hqj (.inl hn') hh
          rw[show vos[q]! = x by rw[getElem!_pos vos q (by omega)];rw[List.getElem?_eq_getElem (by omega)]at hx;exact Option.some.inj hx]at this
          exact this
        · exact hind q j x y hqj hj hn' hx hy' hh
      cases hh:vos[i].op.isHal with
      | true =>
        refine ph_hal hr rg ph ho hy hp hh h2 (fun L' a' W' ph' => ?_)
        refine ih (listed.setIfInBounds i true) L' K μ loc sl H a' W' hsz' hfl hcl' hind' ?_ inv ?_
        · exact⟨⟨ph'.ri.fs,fun j o' vo' t' hj=>ph'.ri.lr j o' vo' t' ⟨(hset j).1 hj.1,hj.2⟩,ph'.ri.sz,ph'.ri.df,ph'.ri.ln⟩,ph'.fs,fun j y k hy hyh hk hl=>ph'.hb j y k hy hyh hk ((hset j).1 hl),fun j y k hy hyh hk hl=>ph'.nl j y k hy hyh hk (fun h=>hl ((hset j).2 h)),fun j hj=>ph'.lt j ((hset j).1 hj)⟩
        · rw [<- h]
          congr 1
          refine List.filter_congr fun j hj => ?_
          have hj:=List.mem_range.1 hj
          by_cases hji:j=i
          · subst hji
            have:isHalAt vos j=true:=by rw[halAt_at hy,hh]
            rw[this,Bool.or_true,Bool.or_true]
          · rw[getD' j hj hji]
      | false =>
        obtain⟨l,hl⟩ : ∃ l,l=(List.range vos.length).filter fun i => !listed.getD i true||isHalAt vos i:=⟨_,rfl⟩
        rw[<- hl]at h
        have meml : ∀ j,j∈l↔j<vos.length /\ (¬ Listed listed j \/ isHalAt vos j=true):=fun j=>by
          rw[hl,List.mem_filter,List.mem_range,Bool.or_eq_true]
          exact⟨fun⟨x,y⟩=>⟨x,y.imp (not_listed (by omega)).1 id⟩,fun⟨x,y⟩=>⟨x,y.imp (not_listed (by omega)).2 id⟩⟩
        have sorted:l.Pairwise (· < ·):=by rw[hl];exact List.Pairwise.filter _ List.pairwise_lt_range
        have hind2 : ∀ j,j<i -> (¬ Listed listed j \/ isHalAt vos j=true) -> Indep V strict (rootsOf vos) j i vos[j]! vos[i]:=fun j hj hjn=>hindi j hj hjn hh
        obtain⟨pre,post,hsplit⟩:=List.append_of_mem ((meml i).2 ⟨hlt,.inl h2⟩)
        have hltp : ∀ j∈pre,j<i:=fun j hj=>by
          rw[hsplit]at sorted
          exact(List.pairwise_append.1 sorted).2.2 j hj i List.mem_cons_self
        have hgtp : ∀ j∈post,i<j:=fun j hj=>by
          rw[hsplit]at sorted
          exact List.rel_of_pairwise_cons (List.pairwise_append.1 sorted).2.1 hj
        rw[hsplit]at h
        have h':=to_front hcl bo hy pre loc ⟨sl,H⟩ inv (fun j hj=>by
          obtain⟨j1,j2⟩:=(meml j).1 (by rw[hsplit];exact List.mem_append_left _ hj)
          have:=hltp j hj
          exact⟨by omega,vos[j]!,by rw[getElem!_pos vos j j1];exact List.getElem?_eq_getElem j1,hind2 j this j2⟩) h
        rw[opsL_cons]at h'
        obtain⟨loc1,st1,g1,g2⟩:=h'
        obtain⟨d,us,eff⟩:=one_eff hcl bo inv hy g1
        refine ph_non vok hT cs hr rg2 ph ho hy hp hh (fun j hj => ?_) eff (fun K' μ' a' W' ph' => ?_)
        · have hji:=back i _ hy j hj
          have hjl:j<vos.length:=by omega
          have hx:vos[j]?=some vos[j]! := by rw[getElem!_pos vos j hjl];exact List.getElem?_eq_getElem hjl
          refine⟨Classical.byContradiction fun hn=>(hind2 j hji (.inl hn)).l1 hj,vos[j]!,hx, ?_⟩
          cases hjh:(vos[j]!).op.isHal with
          | false=>rfl
          | true=>exact((hind2 j hji (.inr (by rw[halAt_at hx,hjh]))).l1 hj).elim
        · refine ih (listed.setIfInBounds i true) L K' μ' loc1 st1.sl st1.hp a' W' hsz' hfl hcl' hind' ?_ (one_inv hcl bo inv g1) ?_
          · exact⟨⟨ph'.ri.fs,fun j o' vo' t' hj=>ph'.ri.lr j o' vo' t' ⟨(hset j).1 hj.1,hj.2⟩,ph'.ri.sz,ph'.ri.df,ph'.ri.ln⟩,ph'.fs,fun j y k hy hyh hk hl=>ph'.hb j y k hy hyh hk ((hset j).1 hl),fun j y k hy hyh hk hl=>ph'.nl j y k hy hyh hk (fun h=>hl ((hset j).2 h)),fun j hj=>ph'.lt j ((hset j).1 hj)⟩
          · have : (List.range vos.length).filter (fun j => !(listed.setIfInBounds i true).getD j true||isHalAt vos j)=pre++post:=by
              have e:(List.range vos.length).filter (fun j => !(listed.setIfInBounds i true).getD j true||isHalAt vos j)=l.filter (fun j=>j != i):=by
                rw[hl,List.filter_filter]
                refine List.filter_congr fun j hj => ?_
                have hj:=List.mem_range.1 hj
                by_cases hji:j=i
                · subst hji
                  have:isHalAt vos j=false:=by rw[halAt_at hy,hh]
                  rw[getDi,this];simp
                · rw[getD' j hj hji];simp[hji]
              rw[e,hsplit,List.filter_append,List.filter_cons]
              simp only[bne_self_eq_false,Bool.false_eq_true,if_false]
              rw[List.filter_eq_self.2 (fun j hj=>by have:=hltp j hj;simp;omega),List.filter_eq_self.2 (fun j hj=>by have:=hgtp j hj;simp;omega)]
            rw[this];exact g2
end
theorem baseOk_of {P:Program} {V:VProg} {nt:Nat} {tm bs:List Nat} {ops:Array Oper} {vos:List VOper} (rg:Reg (cxOf P V nt tm bs ops vos)):BaseOk vos (rootsOf vos):=by
 have hsz:ops.size=vos.length:=rg.sz
 refine⟨fun i vo j hvo hb => ?bo1,fun i vo hvo => ?bo2⟩
 case bo1 =>
  obtain⟨o,ho⟩ : ∃ o,ops[i]?=some o:=⟨_,Array.getElem?_eq_getElem (by rw[hsz];exact lt_of_get hvo)⟩
  have hop:=(okOper_spec (rg.op i o vo ho hvo).1).op
  have key : ∀ {y:Operand},okA (cxOf P V nt tm bs ops vos) i (.lo j) y=true -> ∃ vj,vos[j]?=some vj /\ vj.op.isAddr=true:=fun{y} hk=>by
   cases y<;>simp only[okA]at hk<;>first|(cases hk;done)|skip
   simp only[Bool.and_eq_true]at hk
   obtain⟨_,hk⟩:=hk
   split at hk
   ·rename_i o' vj e1 e2
    simp only[Bool.and_eq_true]at hk
    exact⟨vj,e2,hk.2⟩
   ·cases hk
  obtain⟨op,keep,guard⟩:=vo
  simp only at hb hop
  cases op<;>simp only[VOp.base,List.not_mem_nil,List.mem_singleton]at hb
  all_goals
   subst hb
   simp only[okOp]at hop
   split at hop
   ·simp only[Bool.and_eq_true]at hop
    first|exact key hop.1|exact key hop.1.1|exact key hop.1.1.1
   ·cases hop
 case bo2 =>
  obtain⟨o,ho⟩ : ∃ o,ops[i]?=some o:=⟨_,Array.getElem?_eq_getElem (by rw[hsz];exact lt_of_get hvo)⟩
  exact(rg.op i o vo ho hvo).2
theorem edges_of {ops:Array Oper} (he:edgesBack ops=true) : ∀ (i:Nat) (o:Oper),ops[i]?=some o -> ∀ e∈o.after.toList,Region.binds .any e=true -> e.on<i:=fun i o ho e hmem hb=>by
  simp only[edgesBack,List.all_eq_true,List.mem_range]at he
  have:=he i (by
   rcases Nat.lt_or_ge i ops.size with x|x
   ·exact x
   ·rw[show ops[i]?=none from Array.getElem?_eq_none x]at ho;cases ho)
  rw[show ops[i]?=some o from ho]at this
  simp only[List.all_eq_true]at this
  have:=this e hmem
  simpa [hb]using this
theorem drawn_of {P:Program} {V:VProg} {T:Kn -> World -> Prop} {cl:FuncId -> List D -> Heap -> CR} {nt:Nat} {tm bs:List Nat} (hm:P.follows .mixedOrders=true) (vok:VOK P V T) (cs:CallSim P T cl) (csp:CallSimP P T cl) (hcl:CallFit V cl) (htm:nodup tm=true) (hlt : ∀ t∈tm,t<nt) {rd:Option Nat}:Drawn P V T cl nt tm bs rd:=by
 intro E nd id ops strict vos sl H ex st' a W hT hok h hg hA m
 obtain⟨rg,back,hfirst,hdr⟩:=reg_of hok htm hlt
 obtain⟨L,K,μ,fs,hs,hdf⟩:=hA
 refine wpIn_region_any hm ?_
 have hl:=ops_list V cl (some (bsOf strict vos sl H,strict)) vos [] [] ⟨sl,H⟩ rfl
 simp only[List.nil_append,List.length_nil, <- List.range_eq_range']at hl
 rw[hl]at h
 have hsz:ops.size=vos.length:=rg.sz
 have g0 : ∀ j,¬ Listed (Array.replicate ops.size false) j:=fun j hj=>by
  unfold Listed at hj
  simp only[Array.getD]at hj
  split at hj
  ·simp at hj
  ·cases hj
 have bo:=baseOk_of rg
 have fs':FS E tm bs K μ L sl H a.tmps W.drew:=⟨fs.hr.drew,fs.nx.trans (.drew _ _ _ _),fs.len,fs.val,fs.box,fs.own,fs.inj⟩
 have inv:Inv (bsOf strict vos sl H) vos (rootsOf vos) (List.replicate vos.length .u) ⟨sl,H⟩:=⟨by simp,Nat.le_refl _,fun i vo k o h1 h2 h3=>by simp[List.getElem?_replicate]at h3⟩
 have ri:RI (cxOf P V nt tm bs ops vos) E nd (Listed (Array.replicate ops.size false)) L K μ (List.replicate vos.length .u) sl H a W.drew:=⟨fs',fun j o vo t hj=>(g0 j hj).elim,hs,hdf,by simp[cxOf]⟩
 have hall : ∀ p,p <= ops.size -> (List.range p).filter (fun i => !(Array.replicate ops.size false).getD i true)=List.range p:=fun p hp=>List.filter_eq_self.2 (fun j hj=>by
  have:j<ops.size:=by have:=List.mem_range.1 hj;omega
  simp[Array.getD,this])
 rcases hdr strict rfl with⟨hd,he⟩|hd
 case inr =>
  simp only[halOk,Bool.and_eq_true]at hd
  obtain⟨hd0,hd⟩:=hd
  have hr:=halOrd_spec hd
  obtain⟨F,hF⟩ : ∃ F,F=fstOf (Region.before ops) vos:=⟨_,rfl⟩
  rw[<- hF]at hr hd0
  have ex0:ex = .nm:=by
   rcases ops_good (by rw[hl];exact h) hg with e|⟨q,e⟩
   ·exact e
   ·exfalso
    subst e
    obtain⟨l1,p,l2,loc1,st1,vp,hp,e0,e1,e2,e3,e4,e5,_⟩:=opsL_pd h
    have:=hr.pan p vp e2
    simp[this]at e3
  subst ex0
  have hk2:okRegion P V nt tm (halSlots vos++bs) ops none (halTurn F vos)=true:=by
   unfold okRegion;rw[hd0];rfl
  obtain⟨rg2,_,_,_⟩:=reg_of hk2 htm hlt
  have rb:RI (cxOf P V nt tm (halSlots vos++bs) ops (halTurn F vos)) ⟨K,μ,H,W.drew⟩ nd (fun j=>Listed (Array.replicate ops.size false) j /\ ∃ y,vos[j]?=some y /\ y.op.isHal=false) (fun _=>none) K μ (List.replicate vos.length .u) (blank (halSlots vos++bs) sl) H a W.drew:=by
   refine⟨⟨fs'.hr,.refl _ _ _ _,by rw[blank_len];exact fs.len,fun k t hk hb => ?_,fun k t hk hb => .inl (blank_in hb (by rw[fs.len];exact lt_of_get hk)),fun _ _ e=>(by cases e),fun _ _ _ e=>(by cases e)⟩,fun j o vo t hj=>(g0 j hj.1).elim,hs,hdf,by simp[cxOf,turn_len]⟩
   have hb':(halSlots vos++bs).contains k=false:=hb
   obtain⟨d,v,e1,e2,e3⟩:=fs'.val k t hk (bsfl hb').2
   exact⟨d,v,by rw[show(cxOf P V nt tm (halSlots vos++bs) ops (halTurn F vos)).bs=halSlots vos++bs from rfl]at hb;exact(blank_out hb').trans e1,e2,e3⟩
  have fb:FS E tm (halSlots vos++bs) K μ (fun k=>if(halSlots vos).contains k then none else L k) (blank (halSlots vos) sl) H a.tmps W.drew:=by
   refine⟨fs'.hr,fs'.nx,by rw[blank_len];exact fs.len,fun k t hk hb => ?_,fun k t hk hb => ?_,fun k r e => ?_,fun k k' r e e' => ?_⟩
   ·obtain⟨d,v,e1,e2,e3⟩:=fs'.val k t hk (bsfl hb).2
    exact⟨d,v,(blank_out (bsfl hb).1).trans e1,e2,e3⟩
   ·cases hc:(halSlots vos).contains k with
    | true=>exact .inl (blank_in hc (by rw[fs.len];exact lt_of_get hk))
    | false =>
     have hb2:bs.contains k=true:=by rw[con_app,hc,Bool.false_or]at hb;exact hb
     rcases fs'.box k t hk hb2 with e|⟨r,cs',vs',ty',e1,e2,e3,e4,e5⟩
     ·exact .inl ((blank_out hc).trans e)
     ·exact .inr ⟨r,cs',vs',ty',by simpa using e1,(blank_out hc).trans e2,e3,e4,e5⟩
   ·split at e
    ·cases e
    ·exact fs'.own k r e
   ·split at e
    ·cases e
    ·split at e'
     ·cases e'
     ·exact fs'.inj k k' r e e'
  refine hal_any (E:=E) (nd:=nd) (strict:=strict) (base:=bsOf strict vos sl H) vok hT cs hcl bo hr rg rg2 back hfirst (edges_of hr.eb) (Q:=PostP .nm (After E tm bs nt nd st') (AfterP E tm bs nt nd st')) (fun L' K' μ' a' W' f1 f2 f3=>⟨rfl,L',K',μ',f1,f2,f3⟩)
   ops.size _ _ K μ (List.replicate vos.length .u) sl H a W.drew (by simp[hsz]) ?_ (fun i j hj=>(g0 j hj).elim) (fun i j x y _ hj=>(g0 j hj).elim) ⟨rb,fb,fun i y k _ _ _ hl=>(g0 i hl).elim,fun i y k hy hh hk _=>by rw[hal_slot hy hh hk];rfl,fun j hj=>(g0 j hj).elim⟩ inv ?_
  ·have:=hall ops.size (Nat.le_refl _)
   rw[hsz]at this
   rw[hsz,this];simp
  ·have e:(List.range vos.length).filter (fun i => !(Array.replicate ops.size false).getD i true||isHalAt vos i)=List.range vos.length:=List.filter_eq_self.2 fun j hj=>by
    have:j<ops.size:=by have:=List.mem_range.1 hj;omega
    simp[Array.getD,this]
   rw[e];exact h
 have hedge:=edges_of he
 have hdraw : ∀ (i j:Nat) (x y:VOper),i<j -> vos[i]?=some x -> vos[j]?=some y -> ((Region.before ops).getD j 0).testBit i=true \/ Indep V strict (rootsOf vos) i j x y:=fun i j x y hij hx hy=>by
  simp only[drawOk,List.all_eq_true,List.mem_range,Bool.or_eq_true]at hd
  rcases hd j (lt_of_get hy) i hij with hb|hb
  ·exact .inl hb
  ·exact .inr (indep_spec hx hy hb)
 rcases ops_good (by rw[hl];exact h) hg with rfl|⟨q,rfl⟩
 ·exact any_order (rd:=rd) (m:=m) (nd:=nd) (E:=E) (base:=bsOf strict vos sl H) (strict:=strict) (st':=st') rg vok hT cs hcl bo back hfirst (X:=fun _=>False) (fun i j x y h _=>hdraw i j x y h) hedge (Q:=PostP .nm (After E tm bs nt nd st') (AfterP E tm bs nt nd st')) (fun L' K' μ' a' W' f1 f2 f3=>⟨rfl,L',K',μ',f1,f2,f3⟩)
   ops.size _ L K μ (List.replicate vos.length .u) ⟨sl,H⟩ a W.drew (List.range vos.length) (by simp[hsz,cxOf]) (by show _=List.filter _ (List.range vos.length);rw[<- hsz];exact(hall _ (Nat.le_refl _)).symm) (by simp[hsz]) (fun i hi=>hi.elim) (fun i j hj=>(g0 j hj).elim) (fun i j x y _ hj=>(g0 j hj).elim) ri inv h
 ·obtain ⟨l1,p,l2,loc1,st1,vp,hp,e0,e1,e2,e3,e4,e5,rfl⟩:=opsL_pd h
  have hpl:p<vos.length:=lt_of_get e2
  have el:l1=List.range p:=by
   have h1:(List.range vos.length)[l1.length]?=some p:=by rw[e0];simp
   have h2:=(List.getElem?_eq_some_iff.1 h1).2
   rw[List.getElem_range]at h2
   have h3:(List.range vos.length).take l1.length=l1:=by rw[e0];simp
   rw[List.take_range]at h3
   rw[<- h3,h2];congr 1;omega
  subst el
  exact any_order_p (rd:=rd) (m:=m) (nd:=nd) (E:=E) (base:=bsOf strict vos sl H) (strict:=strict) rg vok hT cs csp hcl bo back hfirst hdraw hedge e2 e3 e4 e5 (Q:=PostP (.pn q) (After E tm bs nt nd ⟨st1.sl,hp⟩) (AfterP E tm bs nt nd ⟨st1.sl,hp⟩)) (fun v L' K' μ' a' W' f1 f2 f3 f4=>⟨q,v,rfl,rfl,L',K',μ',f1,f2,f3,f4⟩)
   ops.size _ L K μ (List.replicate vos.length .u) ⟨sl,H⟩ a W.drew (List.range p) (by simp[hsz,cxOf]) (hall _ (by omega)).symm (by simp;omega) (fun j _ hj=>(g0 j hj).elim) (fun i j hj=>(g0 j hj).elim) (fun i j x y _ hj=>(g0 j hj).elim) ri inv e1
end Go.Dm
