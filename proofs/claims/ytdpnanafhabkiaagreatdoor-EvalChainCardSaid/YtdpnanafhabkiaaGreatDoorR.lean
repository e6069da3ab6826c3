/-
  A name that counts days: terms, the memory, clauses.
-/
import Derived.Test.YtdpnanafhabkiaaGreatDoorO
import Derived.Test.YtdpnanafhabkiaaGreatDoorDi
namespace Go.Proofs.YtdpnanafhabkiaaGreatDoor.Dv
open Go.Dm
inductive TD (date : Int) : Ex -> NV -> Prop where
 | con {e : Ex} : e.op = 1 -> e.v.valid = true -> e.args = [] -> TD date e e.v.nv
 | today {e : Ex} : e.op = 2 -> e.args = [] -> 0 <= date /\ date < 65536 -> TD date e ⟨4, 0, 0, date⟩
 | bin {e a b : Ex} {x y z : NV} : e.op = 7 \/ e.op = 13 -> e.args = [a, b] -> TD date a x -> TD date b y -> BinK e.op x y -> binN e.op x y = .ok z -> TD date e z
 | not {e a : Ex} {b : Bool} : e.op = 17 -> e.args = [a] -> TD date a (truthN b) -> TD date e (truthN (!b))
structure RetG (v : NV) (H : Heap) (r : CR) : Prop where
 e : ∃ t a, r = .ret (.ag (AV.c a)) (H ++ t) /\ a.v = v /\ a.ok
structure PD (vv : List NV) (H : Heap) (k : Nat) (vs : List AV) (H' : Heap) : Prop where
 n : vs.length = k
 v : vs.map AV.v = vv.take k
 o : ∀ a ∈ vs, a.ok
 h : ∃ t, H' = H ++ [argBk vs false] ++ t
theorem fits17 {a : AV} (hk : a.v.k = 1) {x : D} (h : Sl 6 ([a].map AV.c) x) : PRet VS 53 [.i .u8 17, x] (.b true) := by
 have := fits_q (enc := AV.c) (kd := fun a : AV => a.v.k) (fun a => ⟨_, rfl, rfl⟩) h (op := 17) (by omega) (by simp)
 rw [show ([a].map fun a : AV => a.v.k) = [1] by simp [hk], show fitsN 17 [1] = true by decide +kernel] at this
 exact this
theorem not_q {a : AV} {x : Bool} (ha : a.ok) (hv : a.v = truthN x) {H : Heap} {i : Nat} (hi : H[i]? = some (argBk [a] false)) {bs w : D} {nm : List UInt8} {md : Int} :
  CallQ VS 42 [bs, .i .u8 17, .s nm, .i .i64 md, .mu i 3 0 1, w] H (fun r => ∃ b : AV, r = .ret (.ag b.c) (H.set i (argBk [a] true)) /\ b.v = truthN (!x) /\ b.ok) := by
 have hlt := lt_of_get hi
 have hk : a.v.k = 1 := by rw [hv]; rfl
 have hiv : a.v.i = if x then 1 else 0 := by rw [hv]; rfl
 have e0 : argBk [a] false = .ar 6 [a.c, zrow, zrow] (some 3) true false := rfl
 have e1 : argBk [a] true = .ar 6 [a.c, zrow, zrow] (some 3) true true := rfl
 rw [e0] at hi
 have har : arr H i 3 = some (6, [a.c, zrow, zrow], some 3, true, false) := by simp [Dm.arr, hi]
 have hf := fits17 hk (x := .im 6 [a.c]) .im
 have hfz : freezeL deep H [.i .u8 17, .mu i 3 0 1] = some ([.i .u8 17, .im 6 [a.c]], H.set i (argBk [a] true)) := by
  simp only [go_sem, Nat.reduceAdd, Nat.reduceLeDiff, har]
  simp [e1]
 have ec := fun {K} => CallQ_p (V := VS) (K := K) fn53 rfl hf hfz
 simp only [placeO_f, show v53.own = false from rfl] at ec
 have hi2 : (H.set i (argBk [a] true))[i]? = some (.ar 6 [a.c, zrow, zrow] (some 3) true true) := by rw [List.getElem?_set_self hlt]; rfl
 obtain ⟨H2, hH2⟩ : ∃ H2, H2 = H.set i (argBk [a] true) := ⟨_, rfl⟩
 rw [<- hH2] at ec hi2 ⊢
 have har2 : arr H2 i 3 = some (6, [a.c, zrow, zrow], some 3, true, true) := by simp [Dm.arr, hi2]
 have hl2 : i < H2.length := by rw [hH2, List.length_set]; exact hlt
 obtain ⟨t1, t2⟩ := truth_vd (!x)
 obtain ⟨b, b1, b2, b3⟩ := t1.av t2
 have et := fun {H K} => truth_c (b := !x) (H := H) (K := K)
 rw [b2] at et
 simp only [AV.c] at et
 refine .body (vf := v42) fn42 rfl rfl ?_
 cases x with
 | true =>
  have hiv' : a.v.i = 1 := hiv
  simp only [Bool.not_true] at et b1
  simp (disch := omega) only [go_sem, Nat.reduceAdd, Nat.reduceSub, Int.reduceLE, Int.reduceLT, Int.reduceEq, v42, ec, har2, AV.c, hk, hiv', et]
  exact ⟨b, ⟨rfl, rfl, rfl, rfl, rfl, rfl⟩, b1, b3⟩
 | false =>
  have hiv' : a.v.i = 0 := hiv
  simp only [Bool.not_false] at et b1
  simp (disch := omega) only [go_sem, Nat.reduceAdd, Nat.reduceSub, Int.reduceLE, Int.reduceLT, Int.reduceEq, v42, ec, har2, AV.c, hk, hiv', et]
  exact ⟨b, ⟨rfl, rfl, rfl, rfl, rfl, rfl⟩, b1, b3⟩
theorem RetG.q {v : NV} {H : Heap} {f : FuncId} {xs : List D} (h : CallQ VS f xs H (AnsG (.ok v) H)) : CallQ VS f xs H (RetG v H) := h.mono fun r hr => by
 cases r with
 | ret d H' => obtain ⟨⟨t, rfl⟩, a, e, rfl, ho⟩ := hr; cases e; exact ⟨t, a, rfl, rfl, ho⟩
 | pan d H' => obtain ⟨_, _, e, _⟩ := hr; cases e
 | bad => exact hr.elim
theorem term_args2 {bs w ed sl : D} {date : Int} {l : List Ex} {vv : List NV} (hl : l.length <= 3) (hsl : Sl 9 (l.map Ex.row) sl) (hv : vv.length = l.length) (hq : ∀ k, k < l.length -> ∀ {H : Heap}, CallQ VS 26 [bs, (l[k]!).d, .i .i64 date, w] H (RetG vv[k]! H)) {H : Heap} {c4 c5 c6 c7 c8 c9 c10 c11 c13 c14 c15 d12 d20 : D} {Q : Dm.Ex -> St -> Prop}
  (fin : ∀ vs H' c12 c20, PD vv H l.length vs H' -> Q (.ex 1) ⟨tSl bs ed w c4 c5 c6 c7 c8 c9 c10 c11 c12 c13 c14 c15 sl c20 date H.length l.length l.length, H'⟩) :
  Run VS (.loop v26l0) ⟨tSl bs ed w c4 c5 c6 c7 c8 c9 c10 c11 d12 c13 c14 c15 sl d20 date H.length l.length 0, H ++ [argBk [] false]⟩ Q := by
 refine term_args (l := l) hl hsl (PD vv H) ⟨rfl, by simp, fun _ h => (by cases h), ⟨[], by simp⟩⟩ (fun k vs H' h => h.n) (fun k vs H' hk hp => ?_) (fun vs H' c12 c20 hp => fin vs H' c12 c20 hp)
 obtain ⟨t, rfl⟩ := hp.h
 refine (hq k hk).mono fun r hr => ?_
 obtain ⟨t', a, rfl, ha, ho⟩ := hr.e
 rw [List.append_assoc _ t t']
 refine ⟨a, rfl, ho, get_mid, ⟨by simp [hp.n], ?_, fun a' h' => ?_, ⟨t ++ t', set_mid⟩⟩⟩
 ·rw [List.map_append, hp.v, List.take_add_one, List.getElem?_eq_getElem (by omega)]
  simp [ha, hv, hk]
 ·rcases List.mem_append.1 h' with h' | h'
  ·exact hp.o a' h'
  ·rw [List.mem_singleton.1 h']; exact ho
theorem term_d {date : Int} {e : Ex} {v : NV} (h : TD date e v) : ∀ {bs w : D} {H : Heap}, CallQ VS 26 [bs, e.d, .i .i64 date, w] H (RetG v H) := by
 induction h with
 | @con e h1 h2 h3 => intro bs w H; exact RetG.q (term_s h1 h2 h3)
 | @today e h1 h2 hd =>
  intro bs w H
  have hfo : e.formed = true := by unfold Ex.formed; rw [if_neg (by omega), h1, h2]; rfl
  have e1 := fun {H K} => (formed_q e (by omega)).c (H := H) (K := K) fn37 rfl (by simp [e.pl]) (.inl rfl)
  rw [hfo] at e1
  obtain ⟨p1, p2⟩ := NV.plain_ok (k := 4) (n := date) (.inl rfl) (fun _ => hd) (fun h => (h rfl).elim)
  obtain ⟨a, a1, a2, a3⟩ := p1.av p2
  have d1 : (e.op : Int) = 2 := by omega
  refine .body (vf := v26) fn26 rfl rfl ?_
  simp only [Ex.d, Ex.row_eq] at e1 ⊢
  simp only [d1] at e1
  simp (disch := omega) only [go_sem, Nat.reduceAdd, Nat.reduceSub, Nat.reduceLeDiff, Int.reduceEq, v26, e1, d1]
  refine ⟨[], a, ?_, a1, a3⟩
  rw [<- a2, List.append_nil]
  rfl
 | @bin e a b x y z h1 h2 ha hb hm hz iha ihb =>
  intro bs w H
  have hfo : e.formed = true := by
   unfold Ex.formed
   rw [if_neg (by omega), h2]
   have : argN e.op = (2, 2) := by
    rcases h1 with h | h <;> (rw [h]; rfl)
   rw [this]; rfl
  have e1 := fun {H K} => (formed_q e (by omega)).c (H := H) (K := K) fn37 rfl (by simp [e.pl]) (.inl rfl)
  rw [hfo] at e1
  have n1 : ¬ (e.op : Int) = 1 := by omega
  have n2 : ¬ (e.op : Int) = 2 := by omega
  have n5 : ¬ (e.op : Int) = 5 := by omega
  have n15 : ¬ (e.op : Int) = 15 := by omega
  have n16 : ¬ (e.op : Int) = 16 := by omega
  have n18 : ¬ (e.op : Int) = 18 := by omega
  have hsl : Sl 9 ([a, b].map Ex.row) e.sl := h2 ▸ e.hsl
  refine .body (vf := v26) fn26 rfl rfl ?_
  simp only [Ex.d, Ex.row_eq] at e1 ⊢
  simp (disch := omega) only [go_sem, Nat.reduceAdd, Nat.reduceSub, Nat.reduceMul, Nat.reduceLeDiff, Int.reduceLE, Int.reduceToNat, v26, e1, n1, n2, n15, n16, n18, hsl.n]
  refine term_args2 (l := [a, b]) (vv := [x, y]) (by simp) hsl rfl (fun k hk => ?_) (fun vs H' c12 c20 hp => ?_)
  ·intro H
   have : k = 0 \/ k = 1 := by simp at hk; omega
   rcases this with rfl | rfl
   ·exact iha
   ·exact ihb
  ·obtain ⟨t, rfl⟩ := hp.h
   obtain ⟨ax, ay, rfl⟩ : ∃ ax ay, vs = [ax, ay] := by
    match vs, hp.n with
    | [ax, ay], _ => exact ⟨_, _, rfl⟩
   have hv := hp.v
   simp only [List.map_cons, List.map_nil, List.length_cons, List.length_nil, List.take, List.cons.injEq, and_true] at hv
   obtain ⟨rfl, rfl⟩ := hv
   have oa := hp.o ax (by simp)
   have ob := hp.o ay (by simp)
   unfold tSl
   have hd := fun nm md => do_q h1 oa ob hm (H := H ++ [argBk [ax, ay] false] ++ t) (i := H.length) get_mid (bs := bs) (w := w) (nm := nm) (md := md)
   rw [hz, show argB ax ay true = argBk [ax, ay] true from rfl, set_mid] at hd
   simp (disch := omega) only [go_sem, Nat.reduceAdd, Nat.reduceLeDiff, n5]
   have hd := hd e.name e.v.i
   rw [List.append_assoc, List.singleton_append] at hd
   refine hd.mono fun r hr => ?_
   cases r with
   | ret d H' =>
    obtain ⟨rfl, a', ea, rfl, ho⟩ := hr
    cases ea
    simp only [AV.c]
    simp (disch := omega) only [go_sem, Nat.reduceAdd]
    exact ⟨_, a', rfl, rfl, ho⟩
   | pan d H' => obtain ⟨_, _, ec, _⟩ := hr; cases ec
   | bad => exact hr.elim
 | @not e a x h1 h2 ha iha =>
  intro bs w H
  have hfo : e.formed = true := by
   unfold Ex.formed
   rw [if_neg (by omega), h2, h1]; rfl
  have e1 := fun {H K} => (formed_q e (by omega)).c (H := H) (K := K) fn37 rfl (by simp [e.pl]) (.inl rfl)
  rw [hfo] at e1
  have d1 : (e.op : Int) = 17 := by omega
  have hsl : Sl 9 ([a].map Ex.row) e.sl := h2 ▸ e.hsl
  refine .body (vf := v26) fn26 rfl rfl ?_
  simp only [Ex.d, Ex.row_eq] at e1 ⊢
  simp only [d1] at e1
  simp (disch := omega) only [go_sem, Nat.reduceAdd, Nat.reduceSub, Nat.reduceMul, Nat.reduceLeDiff, Int.reduceLE, Int.reduceEq, Int.reduceToNat, v26, e1, d1, hsl.n]
  refine term_args2 (l := [a]) (vv := [truthN x]) (by simp) hsl rfl (fun k hk => ?_) (fun vs H' c12 c20 hp => ?_)
  ·intro H
   have : k = 0 := by simp at hk; omega
   subst this
   exact iha
  ·obtain ⟨t, rfl⟩ := hp.h
   obtain ⟨ax, rfl⟩ : ∃ ax, vs = [ax] := by
    match vs, hp.n with
    | [ax], _ => exact ⟨_, rfl⟩
   have hv := hp.v
   simp only [List.map_cons, List.map_nil, List.length_cons, List.length_nil, List.take, List.cons.injEq, and_true] at hv
   have oa := hp.o ax (by simp)
   unfold tSl
   have hd := fun nm md => not_q oa hv (H := H ++ [argBk [ax] false] ++ t) (i := H.length) get_mid (bs := bs) (w := w) (nm := nm) (md := md)
   rw [set_mid] at hd
   simp (disch := omega) only [go_sem, Nat.reduceAdd, Nat.reduceLeDiff, Int.reduceEq]
   have hd := hd e.name e.v.i
   rw [List.append_assoc, List.singleton_append] at hd
   refine hd.mono fun r hr => ?_
   obtain ⟨b, rfl, hb, ho⟩ := hr
   simp only [AV.c]
   simp (disch := omega) only [go_sem, Nat.reduceAdd]
   exact ⟨_, b, rfl, hb, ho⟩
open Go.Dm
def chN : List UInt8 := [110]
def chM : List UInt8 := [109]
abbrev PK : Type := List UInt8 × Int
def kPr (p : PK) : D := .ag [.s p.1, .i .i64 p.2]
theorem kok_pr : KOk (.st [2, 1]) kPr := by
 refine ⟨fun a => rfl, fun a b => ?_⟩
 obtain ⟨n, d⟩ := a
 obtain ⟨m, e⟩ := b
 show cellsEq [2, 1] [.s n, .i .i64 d] [.s m, .i .i64 e] = _
 simp only [cellsEq, kindIs, cellEq_s, cellEq_i, Prod.mk.injEq]
 by_cases h1 : n = m
 ·by_cases h2 : d = e
  ·simp [h1, h2]
  ·simp [h1, h2]
 ·by_cases h2 : d = e
  ·simp [h1, h2]
  ·simp [h1, h2]
structure Ids where
 b : Nat
 v : Nat
 kd : Nat
 mb : Nat
 mv : Nat
 a : Nat
structure Ids.ok (I : Ids) : Prop where
 bv : I.b ≠ I.v
 bk : I.b ≠ I.kd
 bb : I.b ≠ I.mb
 bm : I.b ≠ I.mv
 ba : I.b ≠ I.a
 vk : I.v ≠ I.kd
 vb : I.v ≠ I.mb
 vm : I.v ≠ I.mv
 va : I.v ≠ I.a
 kb : I.kd ≠ I.mb
 km : I.kd ≠ I.mv
 ka : I.kd ≠ I.a
 bvm : I.mb ≠ I.mv
 mba : I.mb ≠ I.a
 mva : I.mv ≠ I.a
def kU (n : Nat) : D := .i .u8 n
def kB (x : Bool) : D := .b x
def kA (a : AV) : D := .ag a.c
def bgE (bg : List PK) : List (D × D) := entsM kPr kB (bg.map fun p => (p, true))
def vsE (vs : List (PK × AV)) : List (D × D) := entsM kPr kA vs
def kdE : List (D × D) := entsM (fun s : List UInt8 => D.s s) kU [(chN, 2), (chM, 2)]
def prR (p : PK) : List D := [.s p.1, .i .i64 p.2]
structure CH (I : Ids) (defs cls m1 m2 m3 m4 m5 m6 : D) (bg : List PK) (vs : List (PK × AV)) (H : Heap) : Prop where
 hb : H[I.b]? = some (.hb 127 [.s [], defs, .nil, cls, .i .i64 0, .mp I.kd, m1, m2, m3, m4])
 hv : H[I.v]? = some (.hb 85 [.hp I.b 0, .mp I.mb, .mp I.mv, m5, m6, .mu I.a bg.length 0 bg.length, .nil, .nil])
 hk : H[I.kd]? = some (.mp kdE)
 hB : H[I.mb]? = some (.mp (bgE bg))
 hV : H[I.mv]? = some (.mp (vsE vs))
 ha : H[I.a]? = some (.ar 2 (bg.map prR) none true false)
structure Keep (I : Ids) (H H' : Heap) : Prop where
 len : H.length <= H'.length
 at_ : ∀ j, j < H.length -> j ≠ I.v -> j ≠ I.mb -> j ≠ I.mv -> j ≠ I.a -> H'[j]? = H[j]?
theorem Keep.refl {I : Ids} {H : Heap} : Keep I H H := ⟨Nat.le_refl _, fun _ _ _ _ _ _ => rfl⟩
theorem Keep.trans {I : Ids} {H H' H'' : Heap} (h : Keep I H H') (h' : Keep I H' H'') : Keep I H H'' :=
 ⟨Nat.le_trans h.len h'.len, fun j hj a b c d => by rw [h'.at_ j (Nat.lt_of_lt_of_le hj h.len) a b c d, h.at_ j hj a b c d]⟩
theorem Keep.app {I : Ids} {H t : Heap} : Keep I H (H ++ t) := ⟨by simp, fun j hj _ _ _ _ => List.getElem?_append_left hj⟩
theorem Keep.set {I : Ids} {H : Heap} {i : Nat} {x : Blk} (h : i = I.v \/ i = I.mb \/ i = I.mv \/ i = I.a) : Keep I H (H.set i x) :=
 ⟨by simp, fun j hj a b c d => List.getElem?_set_ne (by rcases h with rfl | rfl | rfl | rfl <;> omega)⟩
section
variable {I : Ids} {defs cls m1 m2 m3 m4 m5 m6 : D} {bg : List PK} {vs : List (PK × AV)} {H : Heap}
theorem CH.app (h : CH I defs cls m1 m2 m3 m4 m5 m6 bg vs H) (t : Heap) : CH I defs cls m1 m2 m3 m4 m5 m6 bg vs (H ++ t) := by
 have go : ∀ {i : Nat} {x : Blk}, H[i]? = some x -> (H ++ t)[i]? = some x := fun {i x} e => by rw [List.getElem?_append_left (lt_of_get e)]; exact e
 exact ⟨go h.hb, go h.hv, go h.hk, go h.hB, go h.hV, go h.ha⟩
theorem bg_none {p : PK} : ∀ {bg : List PK}, p ∉ bg -> @List.lookup PK Bool instBEqOfDecidableEq p (bg.map fun p => (p, true)) = none
 | [], _ => rfl
 | q :: l, h => by
  have h1 : p ≠ q := fun e => h (by rw [e]; exact List.mem_cons_self)
  have h2 : p ∉ l := fun e => h (List.mem_cons_of_mem _ e)
  have h3 : (@BEq.beq PK instBEqOfDecidableEq p q) = false := decide_eq_false h1
  show (match (@BEq.beq PK instBEqOfDecidableEq p q) with | true => some true | false => @List.lookup PK Bool instBEqOfDecidableEq p (l.map fun p => (p, true))) = none
  rw [h3]
  exact bg_none h2
theorem bg_put {p : PK} (h : p ∉ bg) : putA p true (bg.map fun p => (p, true)) = (bg ++ [p]).map fun p => (p, true) := by
 induction bg with
 | nil => rfl
 | cons q l ih =>
  have h1 : p ≠ q := fun e => h (by rw [e]; exact List.mem_cons_self)
  have h2 : p ∉ l := fun e => h (List.mem_cons_of_mem _ e)
  simp only [List.map_cons, List.cons_append, putA, if_neg h1]
  rw [ih h2]
theorem lk_bg {p : PK} (h : p ∉ bg) : lkM (.st [2, 1]) (kPr p) false (.b false) (some (.mp (bgE bg))) = some (.b false) := by
 unfold bgE
 rw [lkM_a kok_pr p _ false (.b false)]
 exact congrArg (fun z => some ((Option.map kB z).getD (D.b false))) (bg_none h)
theorem put_bg {p : PK} (h : p ∉ bg) {G : Heap} {i : Nat} : mupM G (.st [2, 1]) i (kPr p) (.b true) (some (.mp (bgE bg))) = some (G.set i (.mp (bgE (bg ++ [p])))) := by
 unfold bgE
 rw [<- bg_put h]
 exact mupM_a (ev := kB) kok_pr i p true _
theorem lk_n {nm : List UInt8} (h : nm = chN \/ nm = chM) : lkM (.c 2) (.s nm) true (.i .u8 0) (some (.mp kdE)) = some (.tu [.i .u8 2, .b true]) := by
 rcases h with rfl | rfl <;> rfl
theorem app_pr {p : PK} {a : Nat} (ha : H[a]? = some (.ar 2 (bg.map prR) none true false)) (hl : bg.length <= 4096) : appD H (.mu a bg.length 0 bg.length) (.sv 2 [prR p]) 2 24 true = some (.mu a (bg.length + 1) 0 (bg.length + 1), H.set a (.ar 2 ((bg ++ [p]).map prR) none true false)) := by
 have hfr : freezeRows H [prR p] = some ([prR p], H) := flat_freezeRows H (by intro r hr d hd; simp [prR] at hr; subst hr; simp at hd; rcases hd with rfl | rfl <;> rfl)
 have hl' : arr H a bg.length = some (2, bg.map prR, none, true, false) := by simp [Dm.arr, ha]
 have hr : room (bg.length + 1) 24 = true := by simp [room]; omega
 simp only [appD, rowsOf, if_true, hfr, appTo, appMu, hl', Nat.zero_add, Nat.le_refl, and_self, List.length_singleton, hr, appIn]
 simp [List.take_of_length_le, List.drop_eq_nil_of_le]
theorem def_q {nm : List UInt8} {G : Heap} {b kd : Nat} {c0 c1 c2 c3 c4 c6 c7 c8 c9 : D} (hb : G[b]? = some (.hb 127 [c0, c1, c2, c3, c4, .mp kd, c6, c7, c8, c9])) (hkd : G[kd]? = some (.mp kdE)) (hk : nm = chN \/ nm = chM) {K : CR -> Prop} (h : K (.ret (.tu [.i .u8 2, .b true]) G)) : CallQ VS 67 [.hp b 0, .s nm] G K := by
 have e4 := lk_n hk
 refine .body (vf := v67) fn67 rfl rfl ?_
 simp (disch := omega) only [go_sem, Nat.reduceAdd, Nat.reduceSub, Nat.reduceLeDiff, v67, hb, hkd, e4]
 exact h
theorem open_q {nm : List UInt8} {d : Int} (ok : I.ok) (h : CH I defs cls m1 m2 m3 m4 m5 m6 bg vs H) (hn : (nm, d) ∉ bg) (hk : nm = chN \/ nm = chM) (hl : bg.length <= 4096) : CallQ VS 43 [.hp I.v 0, .ag [.s nm, .i .i64 d]] H (fun r => (bg.length ≠ 4096 /\ ∃ H', r = .ret (.tu []) H' /\ CH I defs cls m1 m2 m3 m4 m5 m6 (bg ++ [(nm, d)]) vs H' /\ Keep I H H') \/ (bg.length = 4096 /\ ∃ H', r = .pan (failD 5) H' /\ Keep I H H' /\ H'[I.v]? = some (.hb 85 [.hp I.b 0, .mp I.mb, .mp I.mv, m5, m6, .mu I.a (bg.length + 1) 0 (bg.length + 1), .nil, .nil]) /\ H'[I.a]? = some (.ar 2 ((bg ++ [(nm, d)]).map prR) none true false))) := by
 obtain ⟨bv, bk, bb, bm, ba, vk, vb, vm, va, kb, km, ka, bvm, mba, mva⟩ := ok
 obtain ⟨hb, hv, hkd, hB, hV, ha⟩ := h
 have e1 := lk_bg hn
 have e2 := app_pr (p := (nm, d)) ha hl
 have e3 := fun {G i} => put_bg hn (G := G) (i := i)
 have e4 := lk_n hk
 unfold kPr at e1 e3
 simp only [prR] at e2
 refine .body (vf := v43) fn43 rfl rfl ?_
 have hvl := lt_of_get hv
 have hBl := lt_of_get hB
 have hal := lt_of_get ha
 have hbn : (bgE bg).length = bg.length := by simp [bgE, entsM]
 simp (disch := omega) only [go_sem, Nat.reduceAdd, Nat.reduceSub, Nat.reduceLeDiff, Nat.reduceLT, v43, hv, hB, e1, e2, List.getElem?_set_ne]
 refine ⟨hvl, hBl, hvl, ?_⟩
 generalize hH1 : (List.set (List.set H I.a _) I.v _) = H1
 have q1 : H1[I.v]? = some (.hb 85 [.hp I.b 0, .mp I.mb, .mp I.mv, m5, m6, .mu I.a (bg.length + 1) 0 (bg.length + 1), .nil, .nil]) := by
  rw [<- hH1, List.getElem?_set_self (by rw [List.length_set]; exact hvl)]
 have q2 : H1[I.mb]? = some (.mp (bgE bg)) := by
  rw [<- hH1, List.getElem?_set_ne vb, List.getElem?_set_ne (Ne.symm mba), hB]
 have q3 : H1[I.b]? = some (.hb 127 [.s [], defs, .nil, cls, .i .i64 0, .mp I.kd, m1, m2, m3, m4]) := by
  rw [<- hH1, List.getElem?_set_ne (Ne.symm bv), List.getElem?_set_ne (Ne.symm ba), hb]
 have q4 : H1[I.kd]? = some (.mp kdE) := by
  rw [<- hH1, List.getElem?_set_ne vk, List.getElem?_set_ne (Ne.symm ka), hkd]
 have q5 : H1[I.mv]? = some (.mp (vsE vs)) := by
  rw [<- hH1, List.getElem?_set_ne vm, List.getElem?_set_ne (Ne.symm mva), hV]
 have q6 : H1[I.a]? = some (.ar 2 ((bg ++ [(nm, d)]).map prR) none true false) := by
  rw [<- hH1, List.getElem?_set_ne va, List.getElem?_set_self hal]
 have k1 : Keep I H H1 := by rw [<- hH1]; exact (Keep.set (.inr (.inr (.inr rfl)))).trans (Keep.set (.inl rfl))
 clear hH1
 simp (disch := omega) only [go_sem, Nat.reduceAdd, Nat.reduceLeDiff, q1]
 have q7 : lenD H1 2 (.mp I.mb) = some (.i .i64 bg.length) := by simp [lenD, q2, hbn]
 have hv1 := lt_of_get q1
 have hB1 := lt_of_get q2
 by_cases hc : bg.length = 4096
 ·have hc' : (bg.length : Int) = 4096 := by omega
  have e5 := fun {H K} => fail_c (e := 5) (H := H) (K := K)
  simp (disch := omega) only [go_sem, reduceCtorEq, q7, hc', e5]
  exact .inr ⟨hc, H1, rfl, k1, q1, q6⟩
 ·have hc' : ¬ (bg.length : Int) = 4096 := by omega
  simp (disch := omega) only [go_sem, Nat.reduceAdd, Nat.reduceLeDiff, q1, q2, q7, hc', e3]
  refine ⟨hv1, hv1, ?_⟩
  generalize hH2 : (List.set H1 I.mb _) = H2
  have r1 : H2[I.v]? = some (.hb 85 [.hp I.b 0, .mp I.mb, .mp I.mv, m5, m6, .mu I.a (bg.length + 1) 0 (bg.length + 1), .nil, .nil]) := by rw [<- hH2, List.getElem?_set_ne (Ne.symm vb), q1]
  have r2 : H2[I.mb]? = some (.mp (bgE (bg ++ [(nm, d)]))) := by rw [<- hH2, List.getElem?_set_self hB1]
  have r3 : H2[I.b]? = some (.hb 127 [.s [], defs, .nil, cls, .i .i64 0, .mp I.kd, m1, m2, m3, m4]) := by rw [<- hH2, List.getElem?_set_ne (Ne.symm bb), q3]
  have r4 : H2[I.kd]? = some (.mp kdE) := by rw [<- hH2, List.getElem?_set_ne (Ne.symm kb), q4]
  have r5 : H2[I.mv]? = some (.mp (vsE vs)) := by rw [<- hH2, List.getElem?_set_ne bvm, q5]
  have r6 : H2[I.a]? = some (.ar 2 ((bg ++ [(nm, d)]).map prR) none true false) := by rw [<- hH2, List.getElem?_set_ne mba, q6]
  have k2 : Keep I H H2 := by rw [<- hH2]; exact k1.trans (Keep.set (.inr (.inl rfl)))
  clear hH2
  simp (disch := omega) only [go_sem, Nat.reduceAdd, Nat.reduceLeDiff, r1]
  refine def_q r3 r4 hk ?_
  simp (disch := omega) only [go_sem, reduceCtorEq]
  exact .inl ⟨hc, ⟨r3, by simpa using r1, r4, r2, r5, r6⟩, k2⟩
end
open Go.Dm
def todayE : Ex := .mk 2 [] dV .n []
def not1 (a : Ex) : Ex := .mk 17 [] dV .n [a]
def refE (nm : List UInt8) (a : Ex) : Ex := .mk 5 nm dV .n [a]
def clR (nm lb : List UInt8) (w t : Ex) : List D := [.s nm, .s lb, .i .i64 0, .i .i64 65536, .i .i64 0, .b false] ++ (w.row ++ t.row)
theorem clR_ok {nm lb : List UInt8} {w t : Ex} : clOk (clR nm lb w t) = true := by
 simp [clOk, clR, Ex.row_eq]
structure Vls where
 one : Vl
 zero : Vl
 last : Vl
 stp : Vl
 yes : Vl
structure Vls.ok (C : Vls) (T : Int) : Prop where
 one : CV C.one ⟨2, 1, 1, 0⟩
 zero : CV C.zero ⟨2, 0, 1, 0⟩
 last : CV C.last ⟨4, 0, 0, T⟩
 stp : CV C.stp ⟨5, 0, 0, 1⟩
 yes : CV C.yes (truthN true)
def Vls.less (C : Vls) : Ex := opE 13 todayE (conE C.last)
def Vls.next (C : Vls) : Ex := opE 7 todayE (conE C.stp)
def Vls.more (C : Vls) : Ex := opE 7 (conE C.one) (refE chN C.next)
def Vls.again (C : Vls) : Ex := opE 7 (conE C.one) (refE chM todayE)
def Vls.rows (C : Vls) : List (List D) := [clR chN [101, 110, 100] (not1 C.less) (conE C.zero), clR chN [111, 110] C.less C.more, clR chM [111, 110] (conE C.yes) C.again]
def chDefs : D := .im 3 [[.s chN, .i .u8 2, .b false], [.s chM, .i .u8 2, .b false]]
def Vls.plan (C : Vls) : D := .ag [.s [], chDefs, .nil, .im 24 C.rows]
theorem rows_ok {C : Vls} : C.rows.all clOk = true := by
 simp [Vls.rows, clR_ok]
theorem inf_n {C : Vls} {d : Int} (h : 0 <= d /\ d < 65536) : inF C.rows chN d 0 = [0, 1] := by
 have h1 : chM ≠ chN := by decide
 simp [inF, Vls.rows, cntF, cnt1, clIn, clR, clN, clL, clF, clT, clK, clO, lkL, stL, srtI, insI, h.1, h.2, h1]
theorem inf_m {C : Vls} {d : Int} (h : 0 <= d /\ d < 65536) : inF C.rows chM d 0 = [2] := by
 have h1 : chN ≠ chM := by decide
 simp [inF, Vls.rows, cntF, cnt1, clIn, clR, clN, clL, clF, clT, clK, clO, lkL, stL, srtI, insI, h.1, h.2, h1]
theorem inf_p {C : Vls} {nm : List UInt8} {d : Int} {l : List Int} (h : inF C.rows nm d 0 = l) : PRet VS 104 [C.plan, .s nm, .i .i64 d, .i .i64 0] (slOf 1 (l.map iRow)) := by
 refine ⟨1, ?_⟩
 have hx : VS.pext 104 [C.plan, .s nm, .i .i64 d, .i .i64 0] = some (slOf 1 (l.map iRow)) := by
  show (if (104 : Nat) = 104 then inFP [C.plan, .s nm, .i .i64 d, .i .i64 0] else none) = _
  rw [if_pos rfl]
  simp only [Vls.plan, inFP, chDefs, smp, Bool.and_self, if_true]
  unfold inFD
  rw [if_pos ⟨rows_ok, by simp [Vls.rows]⟩, h]
 simp only [pcall, fn104, pureR, hx]
theorem less_date {d T : Int} : binN 13 ⟨4, 0, 0, d⟩ ⟨4, 0, 0, T⟩ = .ok (truthN (decide (d < T))) := by
 unfold binN cmpN
 rw [if_neg (by decide)]
 by_cases h : d < T
 ·simp [h]
 ·by_cases h2 : T < d
  ·simp [h, h2]
  ·simp [h, h2]
theorem next_date {d : Int} (hd : 0 <= d /\ d + 1 < 65536) : binN 7 ⟨4, 0, 0, d⟩ ⟨5, 0, 0, 1⟩ = .ok ⟨4, 0, 0, d + 1⟩ := by
 unfold binN sumN dateN
 rw [if_pos rfl, if_pos rfl, if_neg (by simp only; omega)]
theorem cap_b64 {n : Nat} (h : n < 18446744073709551616) : n < cap 256 := Nat.lt_of_lt_of_le (show n < cap 4 from h) (cap_le (by omega))
theorem frac1 {k : Nat} {n : Int} {m : Nat} (hm : m = 1) (hn : n.natAbs < 18446744073709551616) : fracN k n m = .ok ⟨k, n, 1, 0⟩ := by
 subst hm
 unfold fracN
 rw [Nat.gcd_one_right, Int.natCast_one, Int.ediv_one, Nat.div_one, if_pos ⟨cap_b64 hn, cap_b64 (by decide)⟩]
theorem add_n {A B : Nat} (_ : A < 4294967296) (_ : B < 4294967296) : binN 7 ⟨2, A, 1, 0⟩ ⟨2, B, 1, 0⟩ = .ok ⟨2, (A : Int) + B, 1, 0⟩ := by
 unfold binN sumN
 rw [if_pos rfl, if_neg (by simp only; omega)]
 simp only [Int.natCast_one, Int.mul_one]
 exact frac1 rfl (by omega)
theorem less_d {C : Vls} {T d : Int} (hC : C.ok T) (hd : 0 <= d /\ d < 65536) (hT : 0 <= T /\ T < 65536) : TD d C.less (truthN (decide (d < T))) := by
 refine .bin (e := C.less) (a := todayE) (b := conE C.last) (.inr rfl) rfl (.today rfl rfl hd) ?_ (x := ⟨4, 0, 0, d⟩) (y := ⟨4, 0, 0, T⟩) ⟨fun h => (by cases h), fun _ => ⟨rfl, rfl⟩⟩ less_date
 rw [<- hC.last.n]
 exact .con rfl hC.last.va rfl
theorem notless_d {C : Vls} {T d : Int} (hC : C.ok T) (hd : 0 <= d /\ d < 65536) (hT : 0 <= T /\ T < 65536) : TD d (not1 C.less) (truthN (!decide (d < T))) := .not rfl rfl (less_d hC hd hT)
theorem next_d {C : Vls} {T d : Int} (hC : C.ok T) (hd : 0 <= d /\ d + 1 < 65536) : TD d C.next ⟨4, 0, 0, d + 1⟩ := by
 refine .bin (e := C.next) (a := todayE) (b := conE C.stp) (.inl rfl) rfl (.today rfl rfl ⟨hd.1, by omega⟩) ?_ (x := ⟨4, 0, 0, d⟩) (y := ⟨5, 0, 0, 1⟩) ⟨fun _ => .inr ⟨rfl, rfl⟩, fun h => (by cases h)⟩ (next_date hd)
 rw [<- hC.stp.n]
 exact .con rfl hC.stp.va rfl
theorem truth40 {e : Ex} {d : Int} {x : Bool} (h : TD d e (truthN x)) {bs w : D} {H : Heap} : CallQ VS 40 [bs, e.d, .i .i64 d, w] H (fun r => ∃ t, r = .ret (.b x) (H ++ t)) := by
 have ht := fun {H : Heap} => term_d h (bs := bs) (w := w) (H := H)
 refine .body (vf := v40) fn40 rfl rfl ?_
 simp only [Ex.d, Ex.row_eq] at ht ⊢
 simp (disch := omega) only [go_sem, Nat.reduceAdd, Nat.reduceSub, v40]
 refine ht.mono fun r hr => ?_
 obtain ⟨t, a, rfl, ha, ho⟩ := hr.e
 have hk : a.v.k = 1 := by rw [ha]; rfl
 have hi : a.v.i = if x then 1 else 0 := by rw [ha]; rfl
 cases x with
 | true =>
  have hi' : a.v.i = 1 := hi
  simp (disch := omega) only [go_sem, Nat.reduceAdd, Nat.reduceLeDiff, AV.c, hk, hi']
  exact ⟨t, rfl⟩
 | false =>
  have hi' : a.v.i = 0 := hi
  simp (disch := omega) only [go_sem, Nat.reduceAdd, Nat.reduceLeDiff, Int.reduceEq, AV.c, hk, hi']
  exact ⟨t, rfl⟩
section
variable {C : Vls} {T d : Int} {b kd : Nat} {m1 m2 m3 m4 w : D} {H : Heap}
theorem applies_n (hC : C.ok T) (hd : 0 <= d /\ d < 65536) (hT : 0 <= T /\ T < 65536) (hdT : d <= T) (hb : H[b]? = some (.hb 127 [.s [], chDefs, .nil, .im 24 C.rows, .i .i64 0, .mp kd, m1, m2, m3, m4])) :
  CallQ VS 68 [.hp b 0, .s chN, .i .i64 d, w] H (fun r => ∃ t, r = .ret (.i .i64 (if d < T then 1 else 0)) (H ++ t)) := by
 have ei := fun {H K} => (inf_p (C := C) (inf_n hd)).c (H := H) (K := K) fn104 rfl (by simp [Vls.plan, chDefs, plain_ag, plain_s, plain_i, flat_s, flat_im, flat_nil]) (.inl rfl)
 have t1 := fun {H : Heap} => truth40 (notless_d hC hd hT) (bs := .hp b 0) (w := w) (H := H)
 have t2 := fun {H : Heap} => truth40 (less_d hC hd hT) (bs := .hp b 0) (w := w) (H := H)
 have hbl := lt_of_get hb
 simp only [Vls.plan, List.map_cons, List.map_nil, slOf, iRow] at ei
 refine .body (vf := v68) fn68 rfl rfl ?_
 have i0 : ∀ G : Heap, iadD G (.im 1 [[.i .i64 0], [.i .i64 1]]) (.i .i64 0) 1 = some (.ip [.i .i64 0]) := fun _ => rfl
 have i1 : ∀ G : Heap, iadD G (.im 1 [[.i .i64 0], [.i .i64 1]]) (.i .i64 1) 1 = some (.ip [.i .i64 1]) := fun _ => rfl
 have g0 : ∀ G : Heap, iadD G (.im 24 C.rows) (.i .i64 0) 24 = some (.ip (clR chN [101, 110, 100] (not1 C.less) (conE C.zero))) := fun _ => rfl
 have g1 : ∀ G : Heap, iadD G (.im 24 C.rows) (.i .i64 1) 24 = some (.ip (clR chN [111, 110] C.less C.more)) := fun _ => rfl
 simp only [clR, Ex.row_eq, List.cons_append, List.nil_append] at g0 g1
 simp only [Ex.d, Ex.row_eq] at t1 t2
 simp (disch := omega) only [go_sem, Nat.reduceAdd, Nat.reduceSub, Nat.reduceLeDiff, v68, hb, ei]
 refine ⟨hbl, hbl, ?_⟩
 rw [Run_loop]
 simp (disch := omega) only [go_sem, Nat.reduceAdd, Nat.reduceLeDiff, Int.reduceLT, v68l0, hb, i0, g0]
 refine t1.mono fun r hr => ?_
 obtain ⟨t, rfl⟩ := hr
 have hb2 : (H ++ t)[b]? = some (.hb 127 [.s [], chDefs, .nil, .im 24 C.rows, .i .i64 0, .mp kd, m1, m2, m3, m4]) := by rw [List.getElem?_append_left hbl]; exact hb
 have w1 : IntKind.i64.wrap 1 = 1 := by decide
 have w2 : IntKind.i64.wrap 2 = 2 := by decide
 by_cases hlt : d < T
 ·simp only [hlt, decide_true, Bool.not_true, if_true]
  simp (disch := omega) only [go_sem]
  rw [Run_loop]
  simp (disch := omega) only [go_sem, Nat.reduceAdd, Nat.reduceLeDiff, Int.reduceLT, hb2, i1, g1, w1]
  refine t2.mono fun r hr => ?_
  obtain ⟨t', rfl⟩ := hr
  simp only [hlt, decide_true]
  simp (disch := omega) only [go_sem, Int.reduceAdd]
  rw [Run_loop]
  simp (disch := omega) only [go_sem, Int.reduceLT, Int.reduceEq, w1, w2]
  exact ⟨_, rfl⟩
 ·simp only [hlt, decide_false, Bool.not_false, if_false]
  simp (disch := omega) only [go_sem]
  rw [Run_loop]
  simp (disch := omega) only [go_sem, Nat.reduceAdd, Nat.reduceLeDiff, Int.reduceLT, hb2, i1, g1, w1]
  refine t2.mono fun r hr => ?_
  obtain ⟨t', rfl⟩ := hr
  simp only [hlt, decide_false]
  simp (disch := omega) only [go_sem, Int.reduceAdd]
  rw [Run_loop]
  simp (disch := omega) only [go_sem, Int.reduceLT, Int.reduceEq, w2]
  exact ⟨_, rfl⟩
theorem yes_d {C : Vls} {T d : Int} (hC : C.ok T) : TD d (conE C.yes) (truthN true) := by
 rw [<- hC.yes.n]
 exact .con rfl hC.yes.va rfl
theorem applies_m (hC : C.ok T) (hd : 0 <= d /\ d < 65536) (hb : H[b]? = some (.hb 127 [.s [], chDefs, .nil, .im 24 C.rows, .i .i64 0, .mp kd, m1, m2, m3, m4])) :
  CallQ VS 68 [.hp b 0, .s chM, .i .i64 d, w] H (fun r => ∃ t, r = .ret (.i .i64 2) (H ++ t)) := by
 have ei := fun {H K} => (inf_p (C := C) (inf_m hd)).c (H := H) (K := K) fn104 rfl (by simp [Vls.plan, chDefs, plain_ag, plain_s, plain_i, flat_s, flat_im, flat_nil]) (.inl rfl)
 have t1 := fun {H : Heap} => truth40 (yes_d (d := d) hC) (bs := .hp b 0) (w := w) (H := H)
 have hbl := lt_of_get hb
 simp only [Vls.plan, List.map_cons, List.map_nil, slOf, iRow] at ei
 have i0 : ∀ G : Heap, iadD G (.im 1 [[.i .i64 2]]) (.i .i64 0) 1 = some (.ip [.i .i64 2]) := fun _ => rfl
 have g2 : ∀ G : Heap, iadD G (.im 24 C.rows) (.i .i64 2) 24 = some (.ip (clR chM [111, 110] (conE C.yes) C.again)) := fun _ => rfl
 simp only [clR, Ex.row_eq, List.cons_append, List.nil_append] at g2
 simp only [Ex.d, Ex.row_eq] at t1
 have w1 : IntKind.i64.wrap 1 = 1 := by decide
 refine .body (vf := v68) fn68 rfl rfl ?_
 simp (disch := omega) only [go_sem, Nat.reduceAdd, Nat.reduceSub, Nat.reduceLeDiff, v68, hb, ei]
 refine ⟨hbl, hbl, ?_⟩
 rw [Run_loop]
 simp (disch := omega) only [go_sem, Nat.reduceAdd, Nat.reduceLeDiff, Int.reduceLT, v68l0, hb, i0, g2]
 refine t1.mono fun r hr => ?_
 obtain ⟨t, rfl⟩ := hr
 simp (disch := omega) only [go_sem]
 rw [Run_loop]
 simp (disch := omega) only [go_sem, Int.reduceLT, Int.reduceEq, w1]
 exact ⟨_, rfl⟩
end
end Go.Proofs.YtdpnanafhabkiaaGreatDoor.Dv
