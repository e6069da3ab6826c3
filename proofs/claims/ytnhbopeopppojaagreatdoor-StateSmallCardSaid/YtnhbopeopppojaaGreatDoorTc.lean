/-
  Sums; Make.
-/
import Derived.Test.YtnhbopeopppojaaGreatDoorTb
import Derived.Test.YtnhbopeopppojaaGreatDoorSd
namespace Go.Proofs.YtnhbopeopppojaaGreatDoor.Dv
open Go.Dm Go.Proofs
theorem c47 {l : Led} {d : D} (h : IsLed l d) (h1 : l.due.length < 1099511627776) (hv : validL l = true) {m : Int} (hm : hasL l m = true) {H : Heap} {K : CR → Prop} : CallQ VS 28 [d, .i .i64 m] H K ↔ K (.ret (.tu [.i .i64 (postedL l m), .i .i64 0]) H) :=
  (posted47 h h1 hv hm).c (vf := v28) rfl rfl (by simp [h.plain]; rfl) (.inl rfl)
structure SlOk (n : Nat) (x : Sp) : Prop where
  m : 0 ≤ x.m
  f : 0 ≤ x.f
  t : x.f ≤ x.t
  n : x.t ≤ n
  g : 0 ≤ x.g ∧ x.g ≤ 1099511627776
  x : -1099511627776 ≤ x.x ∧ x.x ≤ 1099511627776
theorem slips_v {n : Nat} : ∀ {ss : List Sp} {m k t : Int}, slipsF n ss m k t = true → -1 ≤ m → 0 ≤ t → ∀ x ∈ ss, SlOk n x
  | [], _, _, _, _, _, _, x, hx => by cases hx
  | y :: ys, m, k, t, h, hm, ht, x, hx => by
    simp only [slipsF, slipF, amt, taxy, Bool.and_eq_true, decide_eq_true_eq] at h
    obtain ⟨⟨⟨⟨⟨⟨⟨a1, a2⟩, a3⟩, a4⟩, a5⟩, a6⟩, a7⟩, hr⟩ := h
    rcases List.mem_cons.1 hx with rfl | hx
    · exact ⟨by omega, by omega, a4, a5, a6, a7⟩
    · exact slips_v hr (by omega) (by omega) x hx
structure ValR (s : RSt) : Prop where
  l : validL s.l = true
  v : ValL s.l
  n : s.sl.length ≤ 1200
  s : ∀ x ∈ s.sl, SlOk s.l.po.length x
theorem validR_v {s : RSt} (h : validR s = true) : ValR s := by
  simp only [validR, headR, Bool.and_eq_true, decide_eq_true_eq] at h
  exact ⟨h.1.1.1.1.1.1, validL_v h.1.1.1.1.1.1, h.1.1.1.1.1.2, slips_v h.2 (by omega) (by omega)⟩
theorem sum48 {l : List Sp} {H0 : Heap} (hn : l.length ≤ 1200) {w : Sp → Int} (hw : ∀ p ∈ l, -4398046511104000 ≤ w p ∧ w p ≤ 4398046511104000) {g : FuncId} {cp : List D}
    (hg : ∀ p ∈ l, ∀ K, CallQ VS g (.ag (spR p) :: cp) (bH H0 10 (l.map spR)) K ↔ K (.ret (.i .i64 (w p)) (bH H0 10 (l.map spR)))) {K : CR → Prop} :
    CallQ VS 30 [bD H0 .nil (l.map spR), .fn (.func g) [] cp] (bH H0 10 (l.map spR)) K ↔ K (.ret (.i .i64 (sw w l l.length)) (bH H0 10 (l.map spR))) := by
  refine CallQ_ret (Ret.iff_q.2 (.body (vf := v30) rfl rfl rfl ?_))
  simp only [go_sem, Nat.reduceSub, v30]
  refine Run.up (fun i s => ∃ a3 a8, s = ⟨[bD H0 .nil (l.map spR), .fn (.func g) [] cp, .i .i64 0, a3, .i .i64 (sw w l i), .i .i64 i, .i .i64 l.length, bD H0 .nil (l.map spR), a8], bH H0 10 (l.map spR)⟩) l.length ⟨.u, .u, rfl⟩ ?_
  rintro i s hi ⟨a3, a8, rfl⟩
  have hb := fun j hj => sw_b (B := 4398046511104000) hw j hj
  by_cases hlt : i < l.length
  · have hlt' : decide ((i : Int) < (l.length : Int)) = true := by simpa using hlt
    have h1 := hb (i + 1) (by omega)
    have hgi := hg l[i]! (by rw [getElem!_pos l i hlt]; exact List.getElem_mem _)
    simp only [sw] at h1
    simp only [spR] at hgi
    simp (disch := omega) only [go_sem, v30l0, hlt', sw]
    simp only [spR] at hgi ⊢
    simp (disch := omega) only [go_sem, Nat.reduceAdd, hgi, wr]
    omega
  · have hlt' : decide ((i : Int) < (l.length : Int)) = false := by simpa using hlt
    have : i = l.length := by omega
    subst this
    simp (disch := omega) only [go_sem, v30l0, hlt']
theorem c49 {x : Sp} {H : Heap} {K : CR → Prop} : CallQ VS 31 [.ag (spR x)] H K ↔ K (.ret (.i .i64 x.g) H) := by
  have h : PRet VS 31 [.ag (spR x)] (.i .i64 x.g) := by
    refine .body (vf := v31) rfl rfl ?_
    simp only [go_sem, Nat.reduceAdd, Nat.reduceSub, Nat.reduceLeDiff, v31, spR]
  exact h.c (vf := v31) rfl rfl rfl (.inl rfl)
theorem c50 {x : Sp} {H : Heap} {K : CR → Prop} : CallQ VS 32 [.ag (spR x)] H K ↔ K (.ret (.i .i64 x.x) H) := by
  have h : PRet VS 32 [.ag (spR x)] (.i .i64 x.x) := by
    refine .body (vf := v32) rfl rfl ?_
    simp only [go_sem, Nat.reduceAdd, Nat.reduceSub, Nat.reduceLeDiff, v32, spR]
  exact h.c (vf := v32) rfl rfl rfl (.inl rfl)
def intr (p : Po) : Int := if p.k = 3 then p.a else 0
theorem c53 {p : Po} {H : Heap} {K : CR → Prop} : CallQ VS 35 [.ag (poR p)] H K ↔ K (.ret (.i .i64 (intr p)) H) := by
  have h : PRet VS 35 [.ag (poR p)] (.i .i64 (intr p)) := by
    refine .body (vf := v35) rfl rfl ?_
    simp only [go_sem, Nat.reduceAdd, Nat.reduceSub, Nat.reduceLeDiff, v35, poR, intr]
    grind
  exact h.c (vf := v35) rfl rfl rfl (.inl rfl)
theorem intr_b {p : Po} (h : -1099511627776 ≤ p.a ∧ p.a ≤ 1099511627776) : -1099511627776 ≤ intr p ∧ intr p ≤ 1099511627776 := by
  unfold intr
  split <;> omega
theorem sum52 {ps : List Po} {y : D} (hy : Sl 4 (ps.map poR) y) (hn : ps.length ≤ 4000) (hw : ∀ p ∈ ps, -1099511627776 ≤ intr p ∧ intr p ≤ 1099511627776) {H : Heap} {K : CR → Prop} : CallQ VS 34 [y, .fn (.func 35) [] []] H K ↔ K (.ret (.i .i64 (sw intr ps ps.length)) H) := by
  refine CallQ_ret (Ret.iff_q.2 (.body (vf := v34) rfl rfl rfl ?_))
  simp only [go_sem, Nat.reduceSub, v34, hy.n]
  refine Run.up (fun i s => ∃ a3 a8, s = ⟨[y, .fn (.func 35) [] [], .i .i64 0, a3, .i .i64 (sw intr ps i), .i .i64 i, .i .i64 ps.length, y, a8], H⟩) ps.length ⟨.u, .u, rfl⟩ ?_
  rintro i s hi ⟨a3, a8, rfl⟩
  have hb := fun j hj => sw_b hw j hj
  by_cases hlt : i < ps.length
  · have hlt' : decide ((i : Int) < (ps.length : Int)) = true := by simpa using hlt
    have h1 := hb (i + 1) (by omega)
    have hgi := fun {H K} => c53 (p := ps[i]!) (H := H) (K := K)
    simp only [sw] at h1
    simp only [poR] at hgi
    simp (disch := omega) only [go_sem, Nat.reduceAdd, v34l0, hy.q, poR, wr, hlt', sw, hgi]
    omega
  · have hlt' : decide ((i : Int) < (ps.length : Int)) = false := by simpa using hlt
    have : i = ps.length := by omega
    subst this
    simp (disch := omega) only [go_sem, v34l0, hlt']
def itr (l : Led) (x : Sp) : Int := sw intr l.po x.t.toNat - sw intr l.po x.f.toNat
theorem itr_eq {l : Led} {x : Sp} (h : SlOk l.po.length x) : sw intr ((l.po.drop x.f.toNat).take (x.t.toNat - x.f.toNat)) ((l.po.drop x.f.toNat).take (x.t.toNat - x.f.toNat)).length = itr l x := by
  obtain ⟨a1, a2, a3, a4, a5, a6⟩ := h
  have hl : ((l.po.drop x.f.toNat).take (x.t.toNat - x.f.toNat)).length = x.t.toNat - x.f.toNat := by
    rw [List.length_take, List.length_drop]; omega
  rw [hl, sw_part _ _ _ (by omega) (Nat.le_refl _), itr]
  congr 2; omega
theorem itr_b {l : Led} (v : ValL l) {x : Sp} (h : SlOk l.po.length x) : -4398046511104000 ≤ itr l x ∧ itr l x ≤ 4398046511104000 := by
  have e := itr_eq h
  have hb := sw_b (w := intr) (l := (l.po.drop x.f.toNat).take (x.t.toNat - x.f.toNat)) (B := 1099511627776) (fun p hp => intr_b (v.a p (List.mem_of_mem_drop (List.mem_of_mem_take hp)))) _ (Nat.le_refl _)
  rw [e] at hb
  have hl : ((l.po.drop x.f.toNat).take (x.t.toNat - x.f.toNat)).length ≤ l.po.length := by
    rw [List.length_take, List.length_drop]; omega
  have := v.p
  omega
theorem c51 {s : RSt} {x y zz : D} {t : Nat} {H : Heap} (hy : Sl 4 (s.l.po.map poR) y) (v : ValL s.l) {p : Sp} (h : SlOk s.l.po.length p) (hH : H[0]? = some (.hb t [.i .i64 s.l.st, x, y, .i .i64 s.sm, .i .i64 s.sg, .i .i64 s.sx, zz])) {K : CR → Prop} :
    CallQ VS 33 [.ag (spR p), .hp 0 0] H K ↔ K (.ret (.i .i64 (itr s.l p)) H) := by
  have hsl := prtD_sl hy p.f.toNat p.t.toNat
  have hle : ((s.l.po.drop p.f.toNat).take (p.t.toNat - p.f.toNat)).length ≤ 4000 := by
    have := v.p
    rw [List.length_take, List.length_drop]; omega
  have e52 := fun {H K} => sum52 hsl hle (fun q hq => intr_b (v.a q (List.mem_of_mem_drop (List.mem_of_mem_take hq)))) (H := H) (K := K)
  rw [itr_eq h] at e52
  obtain ⟨a1, a2, a3, a4, a5, a6⟩ := h
  have hc := hy.c1
  refine CallQ_ret (Ret.iff_q.2 (.body (vf := v33) rfl rfl rfl ?_))
  simp (disch := omega) only [go_sem, Nat.reduceAdd, Nat.reduceSub, Nat.reduceLeDiff, v33, spR, hH, sl_part hy, e52]
open Go.Dm Go.Proofs
def lnOf (l : Led) (m : Int) : Ln := ⟨m, l.due[(m - l.st).toNat]!, postedL l m, l.due[(m - l.st).toNat]! - postedL l m⟩
def pl (l : Led) (a : Int) : Nat → List Ln
  | 0 => []
  | i + 1 => pl l a i ++ [lnOf l (a + i)]
theorem pl_len {l : Led} {a : Int} : ∀ i : Nat, (pl l a i).length = i
  | 0 => rfl
  | i + 1 => by rw [pl, List.length_append, pl_len i]; rfl
def yFrom (l : Led) (y : Int) : Int := max (12 * (y - 1900)) l.st
def yTo (l : Led) (y : Int) : Int := min (12 * (y - 1900) + 12) (l.st + l.due.length)
def yN (l : Led) (y : Int) : Nat := (yTo l y - yFrom l y).toNat
def inY (y : Int) (x : Sp) : Bool := !x.gone && decide (yOf x.m = y)
def slY (s : RSt) (y : Int) : List Sp := s.sl.filter (inY y)
def fTo (s : RSt) (y : Int) (i : Nat) : List Sp := (s.sl.take i).filter (inY y)
theorem fTo_len {s : RSt} {y : Int} {i : Nat} : (fTo s y i).length ≤ i := Nat.le_trans (List.length_filter_le _ _) (by simp; omega)
theorem fTo_succ {s : RSt} {y : Int} {i : Nat} (h : i < s.sl.length) : fTo s y (i + 1) = fTo s y i ++ (if inY y s.sl[i]! = true then [s.sl[i]!] else []) := by
  unfold fTo
  rw [List.take_succ_eq_append_getElem h, List.filter_append, getElem!_pos s.sl i h]
  congr 1
  by_cases hc : inY y s.sl[i] = true <;> simp [hc]
theorem fTo_no {s : RSt} {y : Int} {i : Nat} (h : i < s.sl.length) (hn : inY y s.sl[i]! = false) : fTo s y (i + 1) = fTo s y i := by rw [fTo_succ h, hn]; simp
theorem fTo_yes {s : RSt} {y : Int} {i : Nat} (h : i < s.sl.length) (hn : inY y s.sl[i]! = true) : fTo s y (i + 1) = fTo s y i ++ [s.sl[i]!] := by rw [fTo_succ h, hn]; rfl
theorem fTo_all {s : RSt} {y : Int} : fTo s y s.sl.length = slY s y := by unfold fTo slY; rw [List.take_length]
def suml (w : Sp → Int) (l : List Sp) : Int := sw w l l.length
def makeS (s : RSt) (y : Int) : Stm := ⟨y, balL s.l (12 * (y - 1900)), balL s.l (12 * (y - 1900) + 12), pl s.l (yFrom s.l y) (yN s.l y), suml (·.g) (slY s y), suml (·.x) (slY s y), suml (·.g) (slY s y) - suml (·.x) (slY s y), suml (itr s.l) (slY s y)⟩
def makeD (s : RSt) (y : Int) : D := if validR s && isY y then .tu [stD (makeS s y) (imD .nil 4 ((makeS s y).ls.map lnR)), .i .i64 0] else .tu [stD zS .nil, .i .i64 2]
theorem bH2_g0 {b : Blk} {H0 : Heap} {w w' : Nat} {r r' : List (List D)} : (bH (bH (b :: H0) w r) w' r')[0]? = some b := by
  cases r <;> cases r' <;> rfl
theorem frz_two {H0 : Heap} {w w' : Nat} {r r' : List (List D)} : ∃ H1, ∀ m, Dm.freeze (m + 1) (bH (bH H0 w r) w' r') (bD H0 .nil r) = some (imD .nil w r, H1) := by
  cases r with
  | nil => exact ⟨_, fun _ => rfl⟩
  | cons a us =>
    cases r' with
    | nil => exact ⟨bL H0 w (a :: us), fun _ => bD_fe (H0 := H0) (w := w) (rows := a :: us)⟩
    | cons b bs =>
      refine ⟨((H0 ++ [Blk.ar w (a :: us) none true false]) ++ [Blk.ar w' (b :: bs) none true false]).set H0.length (Blk.ar w (a :: us) none true true), fun m => ?_⟩
      have : arr ((H0 ++ [.ar w (a :: us) none true false]) ++ [.ar w' (b :: bs) none true false]) H0.length (a :: us).length = some (w, a :: us, none, true, false) := by
        simp [arr]
      simp only [bD, bH, fz_mu, imD]
      rw [this]
      simp [fzM, List.take_of_length_le]
structure YrR (y : Int) : Prop where
  h : 1900 ≤ y ∧ y ≤ 2079
theorem isY_r {y : Int} (h : isY y = true) : YrR y := by
  simp only [isY, Bool.and_eq_true, decide_eq_true_eq] at h
  exact ⟨h⟩
structure RngR (s : RSt) : Prop where
  m : ∀ x ∈ s.sl, x.m ≤ 9223372036854775807
  y1 : s.l.due.length < 1099511627776
  y2 : s.sl.length < 1099511627776
set_option maxRecDepth 100000 in
theorem make23 {s : RSt} {d : D} (h : IsR s d) (hr : RngR s) {y : Int} : PRet VS 14 [d, .i .i64 y] (makeD s y) := by
  have e22 := fun {H K} => c22 h hr.y1 hr.y2 (H := H) (K := K)
  obtain ⟨⟨x, yy, zz, rfl, hx, hy, hz⟩⟩ := h
  have hxf := hx.flat
  have hyf := hy.flat
  have hzf := hz.flat
  refine .body (vf := v14) rfl rfl ?_
  by_cases hok : (validR s && isY y) = true
  case neg =>
    have hok' : (validR s && isY y) = false := Bool.eq_false_iff.2 hok
    simp only [rsD] at e22
    simp (disch := omega) only [go_sem, Nat.reduceAdd, Nat.reduceSub, Nat.reduceLeDiff, v14, rsD, e22, makeD, hok', stD, zS]
    cases hv : validR s with
    | false => simp []
    | true =>
      have hq : isY y = false := by rw [hv] at hok'; simpa using hok'
      simp [hq]
  · have hmk : makeD s y = .tu [stD (makeS s y) (imD .nil 4 ((makeS s y).ls.map lnR)), .i .i64 0] := by unfold makeD; rw [hok]; rfl
    rw [hmk]
    simp only [Bool.and_eq_true] at hok
    obtain ⟨hv, hyy⟩ := hok
    have v := validR_v hv
    have hyr := (isY_r hyy).h
    have hst := v.v.r.st
    have hle := v.v.n
    have e26 := fun {b H K} => c26 (isLed_of hx hy) hr.y1 v.l (b := b) (H := H) (K := K)
    have e47 := fun {m H K} (hm : hasL s.l m = true) => c47 (isLed_of hx hy) hr.y1 v.l (m := m) hm (H := H) (K := K)
    simp only [rsD] at e22
    simp only [ledD] at e26 e47
    have hmx : max (12 * (y - 1900)) s.l.st = yFrom s.l y := rfl
    have hmn : min (12 * (y - 1900) + 12) (s.l.st + (s.l.due.length : Int)) = yTo s.l y := rfl
    have hN : yN s.l y ≤ 12 := by unfold yN yTo yFrom; omega
    have hF : 12 * (y - 1900) ≤ yFrom s.l y ∧ s.l.st ≤ yFrom s.l y ∧ yFrom s.l y ≤ 2400 := by unfold yFrom; omega
    have hT : yTo s.l y ≤ s.l.st + s.l.due.length := by unfold yTo; omega
    have hNi : ∀ i : Nat, i < yN s.l y → yFrom s.l y + i < yTo s.l y := fun i hi => by unfold yN at hi; omega
    have hNe : ¬ (yFrom s.l y + yN s.l y < yTo s.l y) := by unfold yN; omega
    simp (disch := omega) only [go_sem, Nat.reduceAdd, Nat.reduceSub, Nat.reduceLeDiff, v14, rsD, e22, hv, hyy, e26, wr, hmx]
    obtain ⟨b0, hb0⟩ : ∃ b0 : Blk, b0 = .hb 48 [.i .i64 s.l.st, x, yy, .i .i64 s.sm, .i .i64 s.sg, .i .i64 s.sx, zz] := ⟨_, rfl⟩
    simp only [← hb0]
    refine Run.up (fun i st => ∃ mo a7 a8 a16 a17 a18, mo = yFrom s.l y + i ∧ st = ⟨[rsD s x yy zz, .i .i64 y, .bx [.i .i64 0, .i .i64 0, .i .i64 0, .nil, .i .i64 0, .i .i64 0, .i .i64 0, .i .i64 0], .i .i64 0, .b false, .b false, .b false, a7, a8, .u, .u, .hp 0 0, .i .i64 0, .i .i64 (12 * (y - 1900)), .bx [.i .i64 y, .i .i64 (balL s.l (12 * (y - 1900))), .i .i64 (balL s.l (12 * (y - 1900) + 12)), bD [b0] .nil ((pl s.l (yFrom s.l y) i).map lnR), .i .i64 0, .i .i64 0, .i .i64 0, .i .i64 0], .i .i64 mo, a16, a17, a18, .u, .u, .u, .u, .u], bH [b0] 4 ((pl s.l (yFrom s.l y) i).map lnR)⟩) (yN s.l y) ⟨_, .u, .u, .u, .u, .u, by omega, rfl⟩ ?_
    rintro i st hi ⟨mo, a7, a8, a16, a17, a18, hmo, rfl⟩
    by_cases hlt : i < yN s.l y
    · have hm : hasL s.l mo = true := by
        have := hNi i hlt
        simp only [hasL, Bool.and_eq_true, decide_eq_true_eq]; omega
      have e47i := fun {H K} => e47 (m := mo) hm (H := H) (K := K)
      have hlt' : decide (mo < yTo s.l y) = true := decide_eq_true (by have := hNi i hlt; omega)
      have hpl := pl_len (l := s.l) (a := yFrom s.l y) i
      have hsn : (pl s.l (yFrom s.l y) i).map lnR ++ [[.i .i64 mo, .i .i64 s.l.due[(mo - s.l.st).toNat]!, .i .i64 (postedL s.l mo), .i .i64 (s.l.due[(mo - s.l.st).toNat]! - postedL s.l mo)]] = (pl s.l (yFrom s.l y) (i + 1)).map lnR := by
        rw [pl, List.map_append, ← hmo]; rfl
      have hpb := posted_b v.v mo
      have hidx : (mo - s.l.st).toNat < s.l.due.length := by
        have := hNi i hlt
        omega
      have hd := v.v.due s.l.due[(mo - s.l.st).toNat]! (by rw [getElem!_pos s.l.due _ hidx]; exact List.getElem_mem _)
      have hi' := hNi i hlt
      rw [hb0]
      simp (disch := omega) only [go_sem, Nat.reduceAdd, Nat.reduceLeDiff, Nat.reduceLT, v14l0, rsD, wr, hlt', hmn, e47i, hx.n, hx.q, iR, app_n, hsn]
      exact ⟨by omega, hlt, by omega⟩
    · have hin : i = yN s.l y := by omega
      subst hin
      have hlt' : decide (mo < yTo s.l y) = false := decide_eq_false (by omega)
      obtain ⟨rows, hrows⟩ : ∃ rows, rows = (pl s.l (yFrom s.l y) (yN s.l y)).map lnR := ⟨_, rfl⟩
      have hb0g : ∀ r, (bH (bH [b0] 4 rows) 10 r)[0]? = some b0 := fun r => bH2_g0
      rw [← hrows]
      obtain ⟨H1, hH1⟩ : ∃ H1, H1 = bH [b0] 4 rows := ⟨_, rfl⟩
      have hg1 : H1[0]? = some b0 := by rw [hH1]; exact bH_g0
      rw [hb0] at hg1
      simp only [← hH1]
      simp (disch := omega) only [go_sem, Nat.reduceAdd, Nat.reduceLeDiff, v14l0, rsD, wr, hlt', hmn, hx.n, hg1, hz.n]
      refine Run.up (fun i st => ∃ a9 a10 a23, st = ⟨[rsD s x yy zz, .i .i64 y, .bx [.i .i64 0, .i .i64 0, .i .i64 0, .nil, .i .i64 0, .i .i64 0, .i .i64 0, .i .i64 0], .i .i64 0, .b false, .b false, .b false, .b false, a8, a9, a10, .hp 0 0, .i .i64 0, .i .i64 (12 * (y - 1900)), .bx [.i .i64 y, .i .i64 (balL s.l (12 * (y - 1900))), .i .i64 (balL s.l (12 * (y - 1900) + 12)), bD [b0] .nil rows, .i .i64 0, .i .i64 0, .i .i64 0, .i .i64 0], .i .i64 mo, a16, a17, a18, bD H1 .nil ((fTo s y i).map spR), .i .i64 i, .i .i64 s.sl.length, zz, a23], bH H1 10 ((fTo s y i).map spR)⟩) s.sl.length ⟨.u, .u, .u, rfl⟩ ?_
      rintro i st hi2 ⟨a9, a10, a23, rfl⟩
      have hsl := v.n
      by_cases hlt2 : i < s.sl.length
      · have hlt2' : decide ((i : Int) < (s.sl.length : Int)) = true := by simpa using hlt2
        have hmem : s.sl[i]! ∈ s.sl := by rw [getElem!_pos s.sl i hlt2]; exact List.getElem_mem _
        have hok := v.s _ hmem
        have hrm := hr.m _ hmem
        have e40 := fun {H K} => c40 (m := s.sl[i]!.m) ⟨hok.m, hrm⟩ (H := H) (K := K)
        have hfl := fTo_len (s := s) (y := y) (i := i)
        by_cases hgo : s.sl[i]!.gone = true
        · have hfs : fTo s y (i + 1) = fTo s y i := fTo_no hlt2 (by simp only [inY, hgo]; rfl)
          simp (disch := omega) only [go_sem, Nat.reduceAdd, v14l1, rsD, hz.q, spR, wr, hlt2', hgo, hfs, hlt2]
          omega
        · have hgo' : s.sl[i]!.gone = false := Bool.eq_false_iff.2 hgo
          by_cases hyo : yOf s.sl[i]!.m = y
          · have hfs : fTo s y (i + 1) = fTo s y i ++ [s.sl[i]!] := fTo_yes hlt2 (by simp only [inY, hgo', hyo]; simp)
            have hsn : (fTo s y i).map spR ++ [[.i .i64 s.sl[i]!.m, .i .i64 s.sl[i]!.dy, .i .i64 s.sl[i]!.f, .i .i64 s.sl[i]!.t, .i .i64 s.sl[i]!.nu, .i .i64 s.sl[i]!.ac, .i .i64 s.sl[i]!.g, .i .i64 s.sl[i]!.x, .i .i64 s.sl[i]!.ne, .b false]] = (fTo s y (i + 1)).map spR := by
              rw [hfs, List.map_append]; simp only [List.map_cons, List.map_nil, spR, hgo']
            have hyo' : decide (yOf s.sl[i]!.m = y) = true := decide_eq_true hyo
            simp (disch := omega) only [go_sem, Nat.reduceAdd, Nat.reduceLeDiff, Nat.reduceLT, v14l1, rsD, hz.q, spR, wr, hlt2', hgo', e40, hyo', app_n, hsn, hlt2]
            omega
          · have hfs : fTo s y (i + 1) = fTo s y i := fTo_no hlt2 (by simp only [inY, hyo]; simp)
            have hyo' : decide (yOf s.sl[i]!.m = y) = false := decide_eq_false hyo
            simp (disch := omega) only [go_sem, Nat.reduceAdd, Nat.reduceLeDiff, v14l1, rsD, hz.q, spR, wr, hlt2', hgo', e40, hyo', hfs, hlt2]
            omega
      · have hin2 : i = s.sl.length := by omega
        subst hin2
        have hlt2' : decide ((s.sl.length : Int) < (s.sl.length : Int)) = false := by simp
        have hmem : ∀ p ∈ slY s y, p ∈ s.sl := fun p hp => (List.mem_filter.1 hp).1
        have hle48 : (slY s y).length ≤ 1200 := Nat.le_trans (List.length_filter_le _ _) v.n
        have e49 := fun {K} => sum48 (l := slY s y) (H0 := H1) hle48 (w := (·.g)) (fun p hp => by have := (v.s p (hmem p hp)).g; omega) (g := 31) (cp := []) (fun p hp K => c49) (K := K)
        have e50 := fun {K} => sum48 (l := slY s y) (H0 := H1) hle48 (w := (·.x)) (fun p hp => by have := (v.s p (hmem p hp)).x; omega) (g := 32) (cp := []) (fun p hp K => c50) (K := K)
        have e51 := fun {K} => sum48 (l := slY s y) (H0 := H1) hle48 (w := itr s.l) (fun p hp => itr_b v.v (v.s p (hmem p hp))) (g := 33) (cp := [.hp 0 0]) (fun p hp K => c51 hy v.v (v.s p (hmem p hp)) (by rw [hH1, hb0g, hb0])) (K := K)
        have bg := sw_b (w := fun p : Sp => p.g) (l := slY s y) (B := 1099511627776) (fun p hp => by have := (v.s p (hmem p hp)).g; omega) _ (Nat.le_refl _)
        have bx := sw_b (w := fun p : Sp => p.x) (l := slY s y) (B := 1099511627776) (fun p hp => by have := (v.s p (hmem p hp)).x; omega) _ (Nat.le_refl _)
        obtain ⟨H9, hfz⟩ := frz_two (H0 := [b0]) (w := 4) (r := rows) (w' := 10) (r' := (slY s y).map spR)
        rw [← hH1] at hfz
        rw [fTo_all]
        simp (disch := omega) only [go_sem, Nat.reduceAdd, Nat.reduceLeDiff, v14l1, rsD, wr, hlt2', e49, e50, e51, hfz, stD, makeS, ← hrows, suml]
end Go.Proofs.YtnhbopeopppojaaGreatDoor.Dv
