/-
  A name that counts days: its evaluation.
-/
import Derived.Test.YtdpnanafhabkiaaGreatDoorS
namespace Go.Proofs.YtdpnanafhabkiaaGreatDoor.Dv
open Go.Dm
theorem sized_c {e : Ex} (h : sized e = true) {H : Heap} {K : CR -> Prop} : CallQ VS 21 [e.d] H K ↔ K (.ret (.b true) H) := by
 have := (sized_q e).c (H := H) (K := K) fn21 rfl (by simp [e.pl]) (.inl rfl)
 rwa [h] at this
theorem sz_con {a : Vl} : sized (conE a) = true := rfl
theorem sz_less {C : Vls} : sized C.less = true := rfl
theorem sz_notless {C : Vls} : sized (not1 C.less) = true := rfl
theorem sz_more {C : Vls} : sized C.more = true := rfl
theorem sz_again {C : Vls} : sized C.again = true := rfl
theorem bounded_p {C : Vls} : PRet VS 32 [C.plan] (.b true) := by
 have e1 := fun {H K} => sized_c (sz_notless (C := C)) (H := H) (K := K)
 have e2 := fun {H K} => sized_c (sz_con (a := C.zero)) (H := H) (K := K)
 have e3 := fun {H K} => sized_c (sz_less (C := C)) (H := H) (K := K)
 have e4 := fun {H K} => sized_c (sz_more (C := C)) (H := H) (K := K)
 have e5 := fun {H K} => sized_c (sz_con (a := C.yes)) (H := H) (K := K)
 have e6 := fun {H K} => sized_c (sz_again (C := C)) (H := H) (K := K)
 have g0 : ∀ G : Heap, iadD G (.im 24 C.rows) (.i .i64 0) 24 = some (.ip (clR chN [101, 110, 100] (not1 C.less) (conE C.zero))) := fun _ => rfl
 have g1 : ∀ G : Heap, iadD G (.im 24 C.rows) (.i .i64 1) 24 = some (.ip (clR chN [111, 110] C.less C.more)) := fun _ => rfl
 have g2 : ∀ G : Heap, iadD G (.im 24 C.rows) (.i .i64 2) 24 = some (.ip (clR chM [111, 110] (conE C.yes) C.again)) := fun _ => rfl
 have hl : ∀ G : Heap, lenD G 1 (.im 24 C.rows) = some (.i .i64 3) := fun _ => rfl
 have w1 : IntKind.i64.wrap 1 = 1 := by decide
 have w2 : IntKind.i64.wrap 2 = 2 := by decide
 have w3 : IntKind.i64.wrap 3 = 3 := by decide
 simp only [clR, Ex.row_eq, List.cons_append, List.nil_append] at g0 g1 g2
 simp only [Ex.d, Ex.row_eq] at e1 e2 e3 e4 e5 e6
 refine .body (vf := v32) fn32 rfl ?_
 simp only [Vls.plan, chDefs]
 simp (disch := omega) only [go_sem, Nat.reduceAdd, Nat.reduceSub, Nat.reduceLeDiff, Int.reduceLT, v32, hl]
 rw [Run_loop]
 simp (disch := omega) only [go_sem, Nat.reduceAdd, Nat.reduceLeDiff, Int.reduceLT, v32l0, g0, e1, e2]
 rw [Run_loop]
 simp (disch := omega) only [go_sem, Nat.reduceAdd, Nat.reduceLeDiff, Int.reduceLT, Int.reduceAdd, g1, e3, e4, w1]
 rw [Run_loop]
 simp (disch := omega) only [go_sem, Nat.reduceAdd, Nat.reduceLeDiff, Int.reduceLT, Int.reduceAdd, g2, e5, e6, w2]
 rw [Run_loop]
 simp (disch := omega) only [go_sem, Nat.reduceAdd, Nat.reduceLeDiff, Int.reduceLT, w3]
 rw [Run_loop]
 simp (disch := omega) only [go_sem, Int.reduceLT, v32l1]
theorem new_p {C : Vls} {H : Heap} {K : CR -> Prop} (h : K (.ret (.hp (H.length + 5) 0) (H ++ [.mp kdE, .mp [], .mp [], .mp [], .mp [], .hb 127 [.s [], chDefs, .nil, .im 24 C.rows, .i .i64 0, .mp H.length, .mp (H.length + 1), .mp (H.length + 2), .mp (H.length + 3), .mp (H.length + 4)]]))) : CallQ VS 34 [C.plan, .nil, .i .i64 0] H K := by
 refine .body (vf := v34) fn34 rfl rfl ?_
 simp only [Vls.plan, chDefs]
 simp (disch := omega) only [go_sem, Nat.reduceAdd, Nat.reduceSub, Nat.reduceLeDiff, v34]
 have i0 : ∀ G : Heap, iadD G (.im 3 [[.s chN, .i .u8 2, .b false], [.s chM, .i .u8 2, .b false]]) (.i .i64 0) 3 = some (.ip [.s chN, .i .u8 2, .b false]) := fun _ => rfl
 have i1 : ∀ G : Heap, iadD G (.im 3 [[.s chN, .i .u8 2, .b false], [.s chM, .i .u8 2, .b false]]) (.i .i64 1) 3 = some (.ip [.s chM, .i .u8 2, .b false]) := fun _ => rfl
 have l1 : lkM (.c 2) (.s chN) true (.i .u8 0) (some (.mp [])) = some (.tu [.i .u8 0, .b false]) := rfl
 have l2 : lkM (.c 2) (.s chM) true (.i .u8 0) (some (.mp [(.s chN, .i .u8 2)])) = some (.tu [.i .u8 0, .b false]) := rfl
 have m1 : ∀ {G : Heap} {i : Nat}, mupM G (.c 2) i (.s chN) (.i .u8 2) (some (.mp [])) = some (G.set i (.mp [(.s chN, .i .u8 2)])) := fun {G i} => rfl
 have m2 : ∀ {G : Heap} {i : Nat}, mupM G (.c 2) i (.s chM) (.i .u8 2) (some (.mp [(.s chN, .i .u8 2)])) = some (G.set i (.mp kdE)) := fun {G i} => rfl
 have w1 : IntKind.i64.wrap 1 = 1 := by decide
 have w2 : IntKind.i64.wrap 2 = 2 := by decide
 generalize hG : (H ++ [Blk.mp [], Blk.mp [], Blk.mp [], Blk.mp [], Blk.mp [], _]) = G
 have q0 : G[H.length]? = some (.mp []) := by rw [<- hG]; simp
 have q5 : G[H.length + 5]? = some (.hb 127 [.s [], chDefs, .nil, .im 24 C.rows, .i .i64 0, .mp H.length, .mp (H.length + 1), .mp (H.length + 2), .mp (H.length + 3), .mp (H.length + 4)]) := by
  rw [<- hG, List.getElem?_append_right (by omega)]; simp [chDefs]
 have hs : (G.set H.length (.mp [(.s chN, .i .u8 2)])).set H.length (.mp kdE) = H ++ [.mp kdE, .mp [], .mp [], .mp [], .mp [], .hb 127 [.s [], chDefs, .nil, .im 24 C.rows, .i .i64 0, .mp H.length, .mp (H.length + 1), .mp (H.length + 2), .mp (H.length + 3), .mp (H.length + 4)]] := by
  rw [<- hG, List.set_set]; simp [chDefs]
 clear hG
 have hl0 := lt_of_get q0
 have hl5 := lt_of_get q5
 have r0 : (G.set H.length (.mp [(.s chN, .i .u8 2)]))[H.length]? = some (.mp [(.s chN, .i .u8 2)]) := List.getElem?_set_self hl0
 have r5 : (G.set H.length (.mp [(.s chN, .i .u8 2)]))[H.length + 5]? = some (.hb 127 [.s [], chDefs, .nil, .im 24 C.rows, .i .i64 0, .mp H.length, .mp (H.length + 1), .mp (H.length + 2), .mp (H.length + 3), .mp (H.length + 4)]) := by rw [List.getElem?_set_ne (by omega)]; exact q5
 rw [<- hs] at h
 clear hs
 rw [Run_loop]
 simp (disch := omega) only [go_sem, Nat.reduceAdd, Nat.reduceLeDiff, Int.reduceLT, v34l0, i0, q0, q5, l1, m1]
 refine ⟨hl5, hl0, hl5, ?_⟩
 rw [Run_loop]
 have hk0 := lt_of_get r0
 have hk5 := lt_of_get r5
 generalize (G.set H.length (.mp [(.s chN, .i .u8 2)])) = G2 at *
 simp (disch := omega) only [go_sem, Nat.reduceAdd, Nat.reduceLeDiff, Int.reduceLT, Int.reduceAdd, i1, r0, r5, l2, m2, w1]
 refine ⟨hk5, hk0, hk5, ?_⟩
 rw [Run_loop]
 simp (disch := omega) only [go_sem, Int.reduceLT, w2]
 rw [Run_loop]
 simp (disch := omega) only [go_sem, Nat.reduceAdd, Nat.reduceLeDiff, Int.reduceLT, v34l1]
 rw [Run_loop]
 simp (disch := omega) only [go_sem, Int.reduceLT, v34l2]
 exact h
theorem begin_p {C : Vls} {d : Int} (hd : 0 <= d /\ d < 65536) {H : Heap} {K : CR -> Prop} (h : K (.ret (.tu [.hp (H.length + 10) 0, .i .i64 0]) (H ++ [.mp kdE, .mp [], .mp [], .mp [], .mp [], .hb 127 [.s [], chDefs, .nil, .im 24 C.rows, .i .i64 0, .mp H.length, .mp (H.length + 1), .mp (H.length + 2), .mp (H.length + 3), .mp (H.length + 4)], .mp [], .mp [], .mp [], .mp [], .hb 85 [.hp (H.length + 5) 0, .mp (H.length + 6), .mp (H.length + 7), .mp (H.length + 8), .mp (H.length + 9), .nil, .nil, .nil]]))) : CallQ VS 22 [C.plan, .nil, .i .i64 d, .i .i64 0] H K := by
 have e1 := fun {H K} => (bounded_p (C := C)).c (H := H) (K := K) fn32 rfl (by simp [Vls.plan, chDefs, plain_ag, flat_s, flat_im, flat_nil]) (.inl rfl)
 have e2 := fun {H K} => valid0.c (H := H) (K := K) fn33 rfl rfl (.inl rfl)
 have en := fun {H K} => new_p (C := C) (H := H) (K := K)
 have n1 : ¬ d < 0 := by omega
 have n2 : ¬ 65536 <= d := by omega
 simp only [Vls.plan] at e1 en ⊢
 refine .body (vf := v22) fn22 rfl rfl ?_
 simp (disch := omega) only [go_sem, Nat.reduceAdd, Nat.reduceSub, v22, e1, e2, n1, n2]
 refine en ?_
 simp (disch := omega) only [go_sem, Nat.reduceAdd, Nat.reduceLeDiff]
 exact h
structure CH0 (I : Ids) (C : Vls) (m1 m2 m3 m4 m5 m6 : D) (H : Heap) : Prop where
 hb : H[I.b]? = some (.hb 127 [.s [], chDefs, .nil, .im 24 C.rows, .i .i64 0, .mp I.kd, m1, m2, m3, m4])
 hv : H[I.v]? = some (.hb 85 [.hp I.b 0, .mp I.mb, .mp I.mv, m5, m6, .nil, .nil, .nil])
 hk : H[I.kd]? = some (.mp kdE)
 hB : H[I.mb]? = some (.mp [])
 hV : H[I.mv]? = some (.mp [])
 ha : I.a = H.length
theorem open0 {X : CtxM} {H : Heap} {nm : List UInt8} {d e : Int} (hk : nm = chN \/ nm = chM) (h : CH0 X.I X.C X.m1 X.m2 X.m3 X.m4 X.m5 X.m6 H) (hI : X.I.ok) : CallQ VS 43 [.hp X.I.v 0, .ag [.s nm, .i .i64 d]] H (OutO X H True [(nm, d)] e) := by
 obtain ⟨bv, bk, bb, bm, ba, vk, vb, vm, va, kb, km, ka, bvm, mba, mva⟩ := hI
 obtain ⟨hb, hv, hkd, hB, hV, ha⟩ := h
 have e1 : lkM (.st [2, 1]) (.ag [.s nm, .i .i64 d]) false (.b false) (some (.mp [])) = some (.b false) := rfl
 have e3 : ∀ {G : Heap} {i : Nat}, mupM G (.st [2, 1]) i (.ag [.s nm, .i .i64 d]) (.b true) (some (.mp [])) = some (G.set i (.mp (bgE [(nm, d)]))) := fun {G i} => rfl
 have hvl := lt_of_get hv
 have hBl := lt_of_get hB
 refine .body (vf := v43) fn43 rfl rfl ?_
 have e2 : appD H .nil (.sv 2 [[.s nm, .i .i64 d]]) 2 24 true = some (.mu X.I.a 1 0 1, H ++ [.ar 2 [[.s nm, .i .i64 d]] none true false]) := by
  have hfr : freezeRows H [[.s nm, .i .i64 d]] = some ([[.s nm, .i .i64 d]], H) := flat_freezeRows H (by intro r hr d hd; simp at hr; subst hr; simp at hd; rcases hd with rfl | rfl <;> rfl)
  simp only [appD, rowsOf, if_true, hfr, appTo, appEmp]
  simp [room, ha]
 have c1 : ∀ {i : Nat} {x : Blk}, H[i]? = some x -> (H ++ [.ar 2 [[.s nm, .i .i64 d]] none true false])[i]? = some x := fun {i x} e => by rw [List.getElem?_append_left (lt_of_get e)]; exact e
 have p1 := c1 hb
 have p2 := c1 hv
 have p3 := c1 hkd
 have p4 := c1 hB
 have p5 := c1 hV
 have p6 : (H ++ [.ar 2 [[.s nm, .i .i64 d]] none true false])[X.I.a]? = some (.ar 2 [[.s nm, .i .i64 d]] none true false) := by rw [ha]; simp
 have k0 : Keep X.I H (H ++ [.ar 2 [[.s nm, .i .i64 d]] none true false]) := Keep.app
 simp (disch := omega) only [go_sem, Nat.reduceAdd, Nat.reduceSub, Nat.reduceLeDiff, Nat.reduceLT, v43, hv, hB, e1, e2]
 refine ⟨hvl, hBl, hvl, ?_⟩
 generalize (H ++ [Blk.ar 2 [[.s nm, .i .i64 d]] none true false]) = G at *
 have pvl := lt_of_get p2
 simp (disch := omega) only [go_sem, Nat.reduceAdd, Nat.reduceLeDiff, p2]
 generalize hH1 : (List.set G X.I.v _) = H1
 have q1 : H1[X.I.v]? = some (.hb 85 [.hp X.I.b 0, .mp X.I.mb, .mp X.I.mv, X.m5, X.m6, .mu X.I.a 1 0 1, .nil, .nil]) := by
  rw [<- hH1, List.getElem?_set_self pvl]
 have q2 : H1[X.I.mb]? = some (.mp []) := by rw [<- hH1, List.getElem?_set_ne vb, p4]
 have q3 : H1[X.I.b]? = some (.hb 127 [.s [], chDefs, .nil, .im 24 X.C.rows, .i .i64 0, .mp X.I.kd, X.m1, X.m2, X.m3, X.m4]) := by rw [<- hH1, List.getElem?_set_ne (Ne.symm bv), p1]
 have q4 : H1[X.I.kd]? = some (.mp kdE) := by rw [<- hH1, List.getElem?_set_ne vk, p3]
 have q5 : H1[X.I.mv]? = some (.mp []) := by rw [<- hH1, List.getElem?_set_ne vm, p5]
 have q6 : H1[X.I.a]? = some (.ar 2 [[.s nm, .i .i64 d]] none true false) := by rw [<- hH1, List.getElem?_set_ne va, p6]
 have k1 : Keep X.I H H1 := by rw [<- hH1]; exact k0.trans (Keep.set (.inl rfl))
 clear hH1
 have hv1 := lt_of_get q1
 have hB1 := lt_of_get q2
 have q7 : lenD H1 2 (.mp X.I.mb) = some (.i .i64 0) := by simp [lenD, q2]
 simp (disch := omega) only [go_sem, Nat.reduceAdd, Nat.reduceLeDiff, Int.reduceEq, q1, q2, q7, e3]
 refine ⟨hv1, hv1, ?_⟩
 generalize hH2 : (List.set H1 X.I.mb _) = H2
 have r1 : H2[X.I.v]? = some (.hb 85 [.hp X.I.b 0, .mp X.I.mb, .mp X.I.mv, X.m5, X.m6, .mu X.I.a 1 0 1, .nil, .nil]) := by rw [<- hH2, List.getElem?_set_ne (Ne.symm vb), q1]
 have r2 : H2[X.I.mb]? = some (.mp (bgE [(nm, d)])) := by rw [<- hH2, List.getElem?_set_self hB1]
 have r3 : H2[X.I.b]? = some (.hb 127 [.s [], chDefs, .nil, .im 24 X.C.rows, .i .i64 0, .mp X.I.kd, X.m1, X.m2, X.m3, X.m4]) := by rw [<- hH2, List.getElem?_set_ne (Ne.symm bb), q3]
 have r4 : H2[X.I.kd]? = some (.mp kdE) := by rw [<- hH2, List.getElem?_set_ne (Ne.symm kb), q4]
 have r5 : H2[X.I.mv]? = some (.mp []) := by rw [<- hH2, List.getElem?_set_ne bvm, q5]
 have r6 : H2[X.I.a]? = some (.ar 2 [[.s nm, .i .i64 d]] none true false) := by rw [<- hH2, List.getElem?_set_ne mba, q6]
 have k2 : Keep X.I H H2 := by rw [<- hH2]; exact k1.trans (Keep.set (.inr (.inl rfl)))
 clear hH2
 simp (disch := omega) only [go_sem, Nat.reduceAdd, Nat.reduceLeDiff, r1]
 refine def_q r3 r4 hk ?_
 simp (disch := omega) only [go_sem]
 exact .inl ⟨trivial, H2, rfl, ⟨r3, r1, r4, r2, r5, r6⟩, k2⟩
open Go.Dm
def ctxAt (C : Vls) : CtxM := ⟨⟨7, 12, 2, 8, 9, 16⟩, C, .mp 3, .mp 4, .mp 5, .mp 6, .mp 10, .mp 11⟩
theorem ctxAt_ok {C : Vls} : (ctxAt C).I.ok := by constructor <;> simp [ctxAt]
def heapAt (C : Vls) (nm : List UInt8) (d : Int) : Heap := [Blk.hb 9 [D.s nm], Blk.hb 3 [D.i IntKind.i64 d], Blk.mp kdE, Blk.mp [], Blk.mp [], Blk.mp [], Blk.mp [],
    Blk.hb 127 [D.s [], chDefs, D.nil, D.im 24 C.rows, D.i IntKind.i64 0, D.mp 2, D.mp 3, D.mp 4, D.mp 5, D.mp 6],
    Blk.mp [], Blk.mp [], Blk.mp [], Blk.mp [],
    Blk.hb 85 [D.hp 7 0, D.mp 8, D.mp 9, D.mp 10, D.mp 11, D.nil, D.nil, D.nil], Blk.hb 74 [D.hp 12 0], Blk.hb 29 zrow, Blk.hb 48 [D.i IntKind.i64 0]]
theorem heapAt_ok {C : Vls} {nm : List UInt8} {d : Int} : CH0 (ctxAt C).I C (.mp 3) (.mp 4) (.mp 5) (.mp 6) (.mp 10) (.mp 11) (heapAt C nm d) := ⟨rfl, rfl, rfl, rfl, rfl, rfl⟩
structure After (C : Vls) (H' : Heap) : Prop where
 r : (ctxAt C).rd H'
 e13 : H'[13]? = some (.hb 74 [.hp 12 0])
 e14 : H'[14]? = some (.hb 29 zrow)
 e15 : H'[15]? = some (.hb 48 [.i .i64 0])
theorem KeepR.af {C : Vls} {nm : List UInt8} {d : Int} {H' : Heap} (h : KeepR (ctxAt C) (heapAt C nm d) H') : After C H' :=
 ⟨h.r, h.k.at_ 13 (by simp [heapAt]) (by simp [ctxAt]) (by simp [ctxAt]) (by simp [ctxAt]) (by simp [ctxAt]), h.k.at_ 14 (by simp [heapAt]) (by simp [ctxAt]) (by simp [ctxAt]) (by simp [ctxAt]) (by simp [ctxAt]), h.k.at_ 15 (by simp [heapAt]) (by simp [ctxAt]) (by simp [ctxAt]) (by simp [ctxAt]) (by simp [ctxAt])⟩
theorem pairc_p {C : Vls} {nm : List UInt8} {d : Int} {ok : Prop} {v : NV} {c e : Int} (hnm : nm = chN \/ nm = chM) (hv : ∀ X : CtxM, X.C = C -> X.I.ok -> ∀ G, X.ch [(nm, d)] [] G -> CallQ VS 44 [.hp X.I.b 0, .s nm, .i .i64 d, X.w] G (OutV X G ok v c e)) :
  CallQ VS 28 [.hp 13 0, .hp 0 0, .hp 1 0] (heapAt C nm d) (fun r => (ok /\ ∃ a H', r = .ret (.ag (AV.c a)) H' /\ a.v = v /\ a.ok /\ After C H') \/ (¬ ok /\ ∃ H', r = .pan (failD e) H' /\ After C H')) := by
 have h0 := heapAt_ok (C := C) (nm := nm) (d := d)
 have hp := pair_gen (X := ctxAt C) (p := True) (e := e) ctxAt_ok h0.hv h0.hV (open0 (X := ctxAt C) hnm h0 ctxAt_ok) (fun _ G hG => hv (ctxAt C) rfl ctxAt_ok G hG)
 have g0 : (heapAt C nm d)[0]? = some (.hb 9 [.s nm]) := rfl
 have g1 : (heapAt C nm d)[1]? = some (.hb 3 [.i .i64 d]) := rfl
 have g13 : (heapAt C nm d)[13]? = some (.hb 74 [.hp 12 0]) := rfl
 have hl : (heapAt C nm d).length = 16 := rfl
 have haf := fun {H'} => KeepR.af (C := C) (nm := nm) (d := d) (H' := H')
 have q0 : 0 < (heapAt C nm d).length := by omega
 have q1 : 1 < (heapAt C nm d).length := by omega
 have q13 : 13 < (heapAt C nm d).length := by omega
 generalize heapAt C nm d = G at *
 have hp : CallQ VS 29 [.hp 12 0, .s nm, .i .i64 d] G (OutA (ctxAt C) G (True /\ ok) v e) := hp
 refine .body (vf := v28) fn28 rfl rfl ?_
 simp (disch := omega) only [go_sem, Nat.reduceSub, v28, g0, g1, g13]
 refine hp.mono fun r hr => ?_
 rcases hr with ⟨o, a, H', bg', vs', rfl, e2, e3, e4, e5⟩ | ⟨o, H', rfl, e2⟩
 ·obtain ⟨d, c1, c2⟩ := copy_q e3
  have ec := fun {H K} => c1.c (H := H) (K := K) fn25 rfl (by simp [e3.pl]) (.inl rfl)
  obtain ⟨a', q1, rfl, q2⟩ := c2.av e3.o
  have hA : After C H' := haf ⟨e5, CtxM.ch.rd e4⟩
  simp only [AV.c] at ec ⊢
  simp (disch := omega) only [go_sem, Nat.reduceAdd, reduceCtorEq, ec]
  exact .inl ⟨o.2, a', H', ⟨⟨rfl, rfl, rfl, rfl, rfl, rfl⟩, rfl⟩, by rw [q1]; exact e2, q2, hA⟩
 ·simp (disch := omega) only [go_sem, reduceCtorEq]
  exact .inr ⟨fun h => o ⟨trivial, h⟩, H', rfl, haf e2⟩
structure TrA (ok : Prop) (v : NV) (e : Int) (p : PR) : Prop where
 h : ∃ rd : List PK, (ok /\ ∃ d, p = .ret (.tu [d, .ag [.im 2 (rd.map prR), .nil, .nil], .i .i64 0]) /\ VD v d /\ v.ok) \/ (¬ ok /\ p = .ret (.tu [zeroV, .ag [.im 2 (rd.map prR), .nil, .nil], .i .i64 e]))
theorem trace_p {C : Vls} {nm : List UInt8} {d : Int} {ok : Prop} {v : NV} {c e : Int} (hd : 0 <= d /\ d < 65536) (hnm : nm = chN \/ nm = chM) (hv : ∀ X : CtxM, X.C = C -> X.I.ok -> ∀ G, X.ch [(nm, d)] [] G -> CallQ VS 44 [.hp X.I.b 0, .s nm, .i .i64 d, X.w] G (OutV X G ok v c e)) :
  PurQ VS 17 [C.plan, .nil, .s nm, .i .i64 d, .i .i64 0] (TrA ok v e) := by
 have hb := fun {H K} => begin_p (C := C) hd (H := H) (K := K)
 simp only [Vls.plan] at hb ⊢
 refine .body (vf := v17) fn17 rfl ?_
 simp (disch := omega) only [go_sem, Nat.reduceAdd, Nat.reduceSub, v17]
 refine hb ?_
 simp (disch := omega) only [go_sem, Nat.reduceAdd]
 refine run_q (by decide) ?_
 refine (pairc_p (C := C) hnm hv).mono fun r hr => ?_
 have hgo : ∀ {H' : Heap}, After C H' -> ∀ x y : Blk, ∃ l : List PK, ((H'.set 14 x).set 15 y)[13]? = some (.hb 74 [.hp 12 0]) /\ ((H'.set 14 x).set 15 y)[12]? = some (.hb 85 [.hp 7 0, .mp 8, .mp 9, .mp 10, .mp 11, .mu 16 l.length 0 l.length, .nil, .nil]) /\ ((H'.set 14 x).set 15 y)[16]? = some (.ar 2 (l.map prR) none true false) := by
  intro H' ⟨⟨l, h1, h2⟩, h3, h4, h5⟩ x y
  have h1 : H'[12]? = some (.hb 85 [.hp 7 0, .mp 8, .mp 9, .mp 10, .mp 11, .mu 16 l.length 0 l.length, .nil, .nil]) := h1
  have h2 : H'[16]? = some (.ar 2 (l.map prR) none true false) := h2
  refine ⟨l, ?_, ?_, ?_⟩
  ·rw [List.getElem?_set_ne (by omega), List.getElem?_set_ne (by omega), h3]
  ·rw [List.getElem?_set_ne (by omega), List.getElem?_set_ne (by omega), h1]
  ·rw [List.getElem?_set_ne (by omega), List.getElem?_set_ne (by omega), h2]
 rcases hr with ⟨o, a, H', rfl, hav, hao, haf⟩ | ⟨o, H', rfl, haf⟩
 ·have ⟨_, e13, e14, e15⟩ := haf
  refine ⟨a, rfl, hao, e14, e15, ?_⟩
  obtain ⟨l, s13, s12, s16⟩ := hgo haf (.hb 29 a.c) (.hb 48 [.i .i64 0])
  obtain ⟨H2, hH2⟩ : ∃ H2, H2 = (H'.set 14 (.hb 29 a.c)).set 15 (.hb 48 [.i .i64 0]) := ⟨_, rfl⟩
  rw [<- hH2] at s13 s12 s16
  show CallK VS none _ none _ _ _ (.ret (.tu [.ag a.c, .i .i64 0]) ((H'.set 14 (.hb 29 a.c)).set 15 (.hb 48 [.i .i64 0])))
  rw [<- hH2]
  have l13 := lt_of_get s13
  have l12 := lt_of_get s12
  obtain ⟨f1, f2, f3, f4⟩ := hao.fl
  simp only [AV.c]
  simp (disch := omega) only [go_sem, Nat.reduceAdd, s13, s12]
  refine ⟨l13, l12, ?_⟩
  simp (disch := omega) only [go_sem, Nat.reduceAdd, flat_freeze f1, flat_freeze f2, flat_freeze f3, flat_freeze f4]
  simp [s16, arrB, fzM, fzG, fzB, fzA, List.take_of_length_le, go_sem, Nat.reduceAdd, reduceIte]
  exact ⟨l, .inl ⟨o, _, rfl, by rw [<- hav]; exact hao.d, by rw [<- hav]; exact hao.o⟩⟩
 ·have ⟨_, e13, e14, e15⟩ := haf
  refine ⟨e, rfl, e14, e15, ?_⟩
  obtain ⟨l, s13, s12, s16⟩ := hgo haf (.hb 29 zrow) (.hb 48 [.i .i64 e])
  obtain ⟨H2, hH2⟩ : ∃ H2, H2 = (H'.set 14 (.hb 29 zrow)).set 15 (.hb 48 [.i .i64 e]) := ⟨_, rfl⟩
  rw [<- hH2] at s13 s12 s16
  show CallK VS none _ none _ _ _ (.ret (.tu [zeroV, .i .i64 e]) ((H'.set 14 (.hb 29 zrow)).set 15 (.hb 48 [.i .i64 e])))
  rw [<- hH2]
  have l13 := lt_of_get s13
  have l12 := lt_of_get s12
  simp only [zeroV, zrow]
  simp (disch := omega) only [go_sem, Nat.reduceAdd, s13, s12]
  refine ⟨l13, l12, ?_⟩
  simp [s16, arrB, fzM, fzG, fzB, fzA, List.take_of_length_le, go_sem, Nat.reduceAdd, reduceIte]
  exact ⟨l, .inr ⟨o, rfl⟩⟩
structure EvA (ok : Prop) (v : NV) (e : Int) (p : PR) : Prop where
 h : (ok /\ ∃ d, p = .ret (.tu [d, .i .i64 0]) /\ VD v d /\ v.ok) \/ (¬ ok /\ p = .ret (.tu [zeroV, .i .i64 e]))
theorem eval_p {C : Vls} {nm : List UInt8} {d : Int} {ok : Prop} {v : NV} {e : Int} (h : PurQ VS 17 [C.plan, .nil, .s nm, .i .i64 d, .i .i64 0] (TrA ok v e)) :
  PurQ VS 11 [C.plan, .nil, .s nm, .i .i64 d, .i .i64 0] (EvA ok v e) := by
 simp only [Vls.plan] at h ⊢
 refine .body (vf := v11) fn11 rfl ?_
 simp (disch := omega) only [go_sem, Nat.reduceAdd, Nat.reduceSub, v11]
 refine CallQ.pl (vf := v17) fn17 rfl rfl (by simp [chDefs, plain_ag, plain_nil, plain_s, plain_i, flat_s, flat_im, flat_nil]) ?_
 refine h.mono fun r hr => ?_
 obtain ⟨rd, hr⟩ := hr.h
 rcases hr with ⟨o, dd, rfl, hv, ho⟩ | ⟨o, rfl⟩
 ·obtain ⟨a, hav, rfl, hao⟩ := hv.av ho
  obtain ⟨f1, f2, f3, f4⟩ := hao.fl
  simp only [AV.c]
  simp (disch := omega) only [go_sem, Nat.reduceAdd, flat_freeze f1, flat_freeze f2, flat_freeze f3, flat_freeze f4]
  exact ⟨.inl ⟨o, _, rfl, by rw [<- hav]; exact hao.d, by rw [<- hav]; exact hao.o⟩⟩
 ·simp only [zeroV, zrow]
  simp (disch := omega) only [go_sem, Nat.reduceAdd]
  exact ⟨.inr ⟨o, rfl⟩⟩
theorem eval_n {C : Vls} {T d : Int} {k : Nat} (hC : C.ok T) (hd : 0 <= d) (hk : d + k = T) (hT : T < 65536) (hk2 : k < 10000) : PurQ VS 11 [C.plan, .nil, .s chN, .i .i64 d, .i .i64 0] (EvA (1 + k <= 4096) ⟨2, k, 1, 0⟩ 5) := by
 refine eval_p (trace_p (c := if d < T then 1 else 0) ⟨hd, by omega⟩ (.inl rfl) (fun X hX hI G hG => ?_))
 have := val_n (X := X) (T := T) (hX ▸ hC) hI hT k (d := d) (bg := [(chN, d)]) (G := G) hd hk hk2 (by intro x hx h; have := (Prod.mk.inj (List.mem_singleton.1 h)).2; omega) (by simp) hG
 exact this
theorem eval_m {C : Vls} {T d : Int} (hC : C.ok T) (hd : 0 <= d /\ d < 65536) : PRet VS 11 [C.plan, .nil, .s chM, .i .i64 d, .i .i64 0] (.tu [zeroV, .i .i64 186]) := by
 have h := eval_p (trace_p (C := C) (d := d) (nm := chM) (ok := False) (v := ⟨2, (0 + 1 : Nat), 1, 0⟩) (c := 2) (e := 186) hd (.inr rfl) (fun X hX hI G hG => val_m (X := X) (T := T) (hX ▸ hC) hI hd hG))
 exact PRet.iff_q.2 (h.mono fun r hr => by
  rcases hr.h with ⟨o, _⟩ | ⟨_, rfl⟩
  ·exact o.elim
  ·rfl)
end Go.Proofs.YtdpnanafhabkiaaGreatDoor.Dv
