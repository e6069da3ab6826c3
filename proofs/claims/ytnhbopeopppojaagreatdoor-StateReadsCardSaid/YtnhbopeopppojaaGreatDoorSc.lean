/-
  Layer 39 over the machine: the text of a statement.
-/
import Derived.Test.YtnhbopeopppojaaGreatDoorSb
namespace Go.Proofs.YtnhbopeopppojaaGreatDoor.Dv
open Go.Dm Go.Proofs

theorem CallQ_ext {V : VProg} {f : FuncId} {vf : VFunc} {args : List D} {H H' : Heap} {d : D} {K : CR → Prop} (hf : V.fn f = some vf) (hp : vf.pure = false) (hx : V.ext f args H = some (d, H')) : CallQ V f args H K ↔ K (.ret d H') :=
  CallQ_ret (.of (n := 1) (by simp only [call, hf, hp, hx]))
/-- The heap of a Builder that holds something. -/
def bld (t : List UInt8) : Heap := [.hb 81 [.hp 0 0, .yb 1 t.length], .yt 5 t false]
theorem w34a {s : List UInt8} (hne : s ≠ []) (hl : s.length ≤ 140737488355328) {K : CR → Prop} : CallQ VS 37 [.hp 0 0, .s s] [.hb 81 [.np, .nil]] K ↔ K (.ret (.tu [.i .i64 s.length, .ni]) (bld s)) := by
  refine CallQ_ext (vf := v37) rfl rfl ?_
  cases s with
  | nil => exact absurd rfl hne
  | cons c s =>
    show bldW 81 5 [.hp 0 0, .s (c :: s)] [.hb 81 [.np, .nil]] = _
    simp only [bldW, List.getElem?_cons_zero, decide_true, bldOk, Bool.and_self, if_pos hl]
    rfl
theorem w34b {t s : List UInt8} (hl : t.length + s.length ≤ 140737488355328) {K : CR → Prop} : CallQ VS 37 [.hp 0 0, .s s] (bld t) K ↔ K (.ret (.tu [.i .i64 s.length, .ni]) (bld (t ++ s))) := by
  refine CallQ_ext (vf := v37) rfl rfl ?_
  show bldW 81 5 [.hp 0 0, .s s] (bld t) = _
  simp only [bldW, bld, List.getElem?_cons_zero, List.getElem?_cons_succ, decide_true, bldOk, beq_self_eq_true, Bool.and_self, true_and]
  rw [if_pos hl]
  simp
theorem s37 {t : List UInt8} (hne : t ≠ []) {K : CR → Prop} : CallQ VS 40 [.hp 0 0] (bld t) K ↔ K (.ret (.s t) [.hb 81 [.hp 0 0, .yb 1 t.length], .yt 5 t true]) := by
  refine CallQ.beside rfl ?_
  show bldS 81 5 [.hp 0 0] (bld t) = _
  simp only [bldS, bld, List.getElem?_cons_zero, List.getElem?_cons_succ, decide_true, true_and]
  rw [if_pos hne]
  simp

theorem c35 {ws : List Wd} (hne : ws ≠ []) (hl : ws.length ≤ 1000) (hok : ∀ w ∈ ws, wdOk w) {H : Heap} {K : CR → Prop} : CallQ VS 38 [.sv 1 (ws.map wdR)] H K ↔ K (.ret (.s (lineT ws)) H) := by
  have h := line35 (ws := ws) (d := .im 1 (ws.map wdR)) .im hne hl hok
  have hfr : ∀ m, freezeLL (m + 5) H (ws.map wdR) = some (ws.map wdR, H) := fun m => by
    clear h hne hl hok
    induction ws with
    | nil => exact freezeLL_nil _ _
    | cons w ws ih => cases w <;> simp only [List.map_cons, wdR, go_sem, ih]
  rw [CallQ_p (vf := v38) (H1 := H) rfl rfl h (by simp only [go_sem, hfr])]
  exact Iff.rfl
theorem c35b {a : List UInt8} {n : Int} (ha : a.length ≤ 1000) (hn : i64r n) {H : Heap} {K : CR → Prop} : CallQ VS 38 [.sv 1 [[.ifc 9 (.s a)], [.ifc 3 (.i .i64 n)]]] H K ↔ K (.ret (.s (lineT [.s a, .i n])) H) :=
  c35 (ws := [.s a, .i n]) (by simp) (by simp) (fun w hw => by
    simp only [List.mem_cons, List.not_mem_nil, or_false] at hw
    rcases hw with rfl | rfl
    · exact ha
    · exact hn)
theorem c35g {a b c d : List UInt8} {x y z w : Int} (h1 : a.length ≤ 1000) (h2 : b.length ≤ 1000) (h3 : c.length ≤ 1000) (h4 : d.length ≤ 1000) (hx : i64r x) (hy : i64r y) (hz : i64r z) (hw : i64r w) {H : Heap} {K : CR → Prop} :
    CallQ VS 38 [.sv 1 [[.ifc 9 (.s a)], [.ifc 3 (.i .i64 x)], [.ifc 9 (.s b)], [.ifc 3 (.i .i64 y)], [.ifc 9 (.s c)], [.ifc 3 (.i .i64 z)], [.ifc 9 (.s d)], [.ifc 3 (.i .i64 w)]]] H K ↔ K (.ret (.s (lineT [.s a, .i x, .s b, .i y, .s c, .i z, .s d, .i w])) H) :=
  c35 (ws := [.s a, .i x, .s b, .i y, .s c, .i z, .s d, .i w]) (by simp) (by simp) (fun v hv => by
    simp only [List.mem_cons, List.not_mem_nil, or_false] at hv
    rcases hv with rfl | rfl | rfl | rfl | rfl | rfl | rfl | rfl <;> assumption)
theorem c35m {a m b c d : List UInt8} {y z w : Int} (h1 : a.length ≤ 1000) (hm : m.length ≤ 1000) (h2 : b.length ≤ 1000) (h3 : c.length ≤ 1000) (h4 : d.length ≤ 1000) (hy : i64r y) (hz : i64r z) (hw : i64r w) {H : Heap} {K : CR → Prop} :
    CallQ VS 38 [.sv 1 [[.ifc 9 (.s a)], [.ifc 9 (.s m)], [.ifc 9 (.s b)], [.ifc 3 (.i .i64 y)], [.ifc 9 (.s c)], [.ifc 3 (.i .i64 z)], [.ifc 9 (.s d)], [.ifc 3 (.i .i64 w)]]] H K ↔ K (.ret (.s (lineT [.s a, .s m, .s b, .i y, .s c, .i z, .s d, .i w])) H) :=
  c35 (ws := [.s a, .s m, .s b, .i y, .s c, .i z, .s d, .i w]) (by simp) (by simp) (fun v hv => by
    simp only [List.mem_cons, List.not_mem_nil, or_false] at hv
    rcases hv with rfl | rfl | rfl | rfl | rfl | rfl | rfl | rfl <;> assumption)
theorem lineT_len {ws : List Wd} (hne : ws ≠ []) (hok : ∀ w ∈ ws, wdOk w) : (lineT ws).length ≤ ws.length * 1001 + 1 := by
  have := join_le hne hok
  simp only [lineT, List.length_append, List.length_cons, List.length_nil]
  omega
theorem lineT_ne {ws : List Wd} : lineT ws ≠ [] := by simp [lineT]

/-! ### The text -/
def kStatement : List UInt8 := [115, 116, 97, 116, 101, 109, 101, 110, 116]
def kBefore : List UInt8 := [98, 101, 102, 111, 114, 101]
def kMonth : List UInt8 := [109, 111, 110, 116, 104]
def kDue : List UInt8 := [100, 117, 101]
def kPosted : List UInt8 := [112, 111, 115, 116, 101, 100]
def kOpen : List UInt8 := [111, 112, 101, 110]
def kGross : List UInt8 := [103, 114, 111, 115, 115]
def kTax : List UInt8 := [116, 97, 120]
def kNet : List UInt8 := [110, 101, 116]
def kInterest : List UInt8 := [105, 110, 116, 101, 114, 101, 115, 116]
def kAfter : List UInt8 := [97, 102, 116, 101, 114]
def lnT (x : Ln) : List UInt8 := lineT [.s kMonth, .s (monT x.m), .s kDue, .i x.d, .s kPosted, .i x.p, .s kOpen, .i x.o]
def lnsT (l : List Ln) (i : Nat) : List UInt8 := ((l.take i).map lnT).flatten
theorem lnsT_succ {l : List Ln} {i : Nat} (hi : i < l.length) : lnsT l (i + 1) = lnsT l i ++ lnT l[i]! := by
  unfold lnsT
  rw [List.take_succ_eq_append_getElem hi, List.map_append, List.flatten_append, getElem!_pos l i hi]
  simp
def headT (s : Stm) : List UInt8 := lineT [.s kStatement, .i s.y] ++ lineT [.s kBefore, .i s.b]
def textT (s : Stm) : List UInt8 := headT s ++ lnsT s.ls s.ls.length ++ lineT [.s kGross, .i s.g, .s kTax, .i s.t, .s kNet, .i s.n, .s kInterest, .i s.i] ++ lineT [.s kAfter, .i s.a]
theorem i64_nr {n : Int} (h : nr n = true) : i64r n := by
  rw [nr_i] at h
  exact ⟨by omega, by omega⟩
theorem monT_len {m : Int} (h : 0 ≤ m ∧ m ≤ 9223372036854775807) : (monT m).length ≤ 1000 := by
  have hy : i64r (yOf m) := by
    rw [yOf, Int.tdiv_eq_ediv_of_nonneg h.1]
    exact ⟨by omega, by omega⟩
  have h1 : i64r (m % 12 + 1) := ⟨by omega, by omega⟩
  have l1 := Lib.itoa_length_le _ hy.1 hy.2
  have l2 := Lib.itoa_length_le _ h1.1 h1.2
  simp only [monT, pad2, List.length_append, List.length_cons, List.length_nil]
  split <;> simp <;> omega
@[go_sem] theorem c36 {m : Int} {H : Heap} {K : CR → Prop} (h : 0 ≤ m ∧ m ≤ 9223372036854775807) : CallQ VS 39 [.i .i64 m] H K ↔ K (.ret (.s (monT m)) H) :=
  (month36 m h).c (vf := v39) rfl rfl rfl (.inl rfl)

structure LnFit (x : Ln) : Prop where
  m : 0 ≤ x.m ∧ x.m ≤ 9223372036854775807
  d : i64r x.d
  p : i64r x.p
  o : i64r x.o
theorem lnT_len {x : Ln} (h : LnFit x) : (lnT x).length ≤ 10000 := by
  refine Nat.le_trans (lineT_len (by simp) fun w hw => ?_) (by simp)
  simp only [List.mem_cons, List.not_mem_nil, or_false] at hw
  rcases hw with rfl | rfl | rfl | rfl | rfl | rfl | rfl | rfl
  · exact (by decide : kMonth.length ≤ 1000)
  · exact monT_len h.m
  · exact (by decide : kDue.length ≤ 1000)
  · exact h.d
  · exact (by decide : kPosted.length ≤ 1000)
  · exact h.p
  · exact (by decide : kOpen.length ≤ 1000)
  · exact h.o
theorem RightS.fit {s : Stm} (r : RightS s) {i : Nat} (hi : i < s.ls.length) : LnFit s.ls[i]! := by
  have h := r.lns.h i hi
  have h1 := h.m0
  have h2 := h.m1
  have hy := r.y
  rw [yOf, Int.tdiv_eq_ediv_of_nonneg h1] at h2
  simp only [isY, Bool.and_eq_true, decide_eq_true_eq] at hy
  exact ⟨⟨h1, by omega⟩, ⟨by have := h.d; omega, by have := h.d; omega⟩, i64_nr h.p, i64_nr h.o⟩
theorem lnsT_len {s : Stm} (r : RightS s) : ∀ i, i ≤ s.ls.length → (lnsT s.ls i).length ≤ 10000 * i
  | 0, _ => by simp [lnsT]
  | i + 1, h => by
    have ih := lnsT_len r i (by omega)
    have hx := lnT_len (r.fit (i := i) (by omega))
    rw [lnsT_succ (by omega), List.length_append]
    omega

theorem text14 {s : Stm} {d : D} (h : IsStm s d) (hr : Rng s) : PRet VS 16 [d] (.tu [.s (if RightS s then textT s else []), .i .i64 (if RightS s then 0 else 2)]) := by
  have hpl := h.plain
  have h15 := right15 h hr
  obtain ⟨⟨x, rfl, h⟩⟩ := h
  have c15 : ∀ {H : Heap} {K : CR → Prop}, CallQ VS 36 [stD s x] H K ↔ K (.ret (.b (decide (RightS s))) H) := h15.c (vf := v36) rfl rfl (by simp [hpl]) (.inl rfl)
  refine .body (vf := v16) rfl rfl ?_
  simp only [stD] at c15
  by_cases hright : RightS s
  case neg => simp only [go_sem, Nat.reduceAdd, Nat.reduceSub, v16, stD, c15, hright]
  have hs := hright.sums
  simp only [Bool.and_eq_true] at hs
  obtain ⟨⟨⟨⟨⟨sb, sa⟩, sg⟩, st⟩, sn⟩, si⟩ := hs
  have sb := i64_nr sb
  have sa := i64_nr sa
  have sg := i64_nr sg
  have st := i64_nr st
  have sn := i64_nr sn
  have si := i64_nr si
  have sy : i64r s.y := by
    have hy := hright.y
    simp only [isY, Bool.and_eq_true, decide_eq_true_eq] at hy
    exact ⟨by omega, by omega⟩
  have l1 : (lineT [.s kStatement, .i s.y]).length ≤ 3000 := Nat.le_trans (lineT_len (by simp) (by simp [wdOk, kStatement, sy])) (by simp)
  have l2 : (lineT [.s kBefore, .i s.b]).length ≤ 3000 := Nat.le_trans (lineT_len (by simp) (by simp [wdOk, kBefore, sb])) (by simp)
  have l3 : (lineT [.s kGross, .i s.g, .s kTax, .i s.t, .s kNet, .i s.n, .s kInterest, .i s.i]).length ≤ 10000 := Nat.le_trans (lineT_len (by simp) (by simp [wdOk, kGross, kTax, kNet, kInterest, sg, st, sn, si])) (by simp)
  have l4 : (lineT [.s kAfter, .i s.a]).length ≤ 3000 := Nat.le_trans (lineT_len (by simp) (by simp [wdOk, kAfter, sa])) (by simp)
  have cS : ∀ {H : Heap} {K : CR → Prop}, _ := fun {H K} => c35b (a := kStatement) (n := s.y) (by decide) sy (H := H) (K := K)
  have cB : ∀ {H : Heap} {K : CR → Prop}, _ := fun {H K} => c35b (a := kBefore) (n := s.b) (by decide) sb (H := H) (K := K)
  have cA : ∀ {H : Heap} {K : CR → Prop}, _ := fun {H K} => c35b (a := kAfter) (n := s.a) (by decide) sa (H := H) (K := K)
  have cG : ∀ {H : Heap} {K : CR → Prop}, _ := fun {H K} => c35g (a := kGross) (b := kTax) (c := kNet) (d := kInterest) (by decide) (by decide) (by decide) (by decide) sg st sn si (H := H) (K := K)
  have w1 : ∀ {K : CR → Prop}, _ := fun {K} => w34a (s := lineT [.s kStatement, .i s.y]) lineT_ne (by omega) (K := K)
  simp (disch := omega) only [kStatement, kBefore, kAfter, kGross, kTax, kNet, kInterest] at cS cB cA cG w1 l1 l2 l3 l4
  simp (disch := omega) only [go_sem, Nat.reduceAdd, Nat.reduceSub, Nat.reduceLeDiff, Nat.reduceLT, v16, stD, c15, hright, cS, cB, w1, w34b, h.n]
  refine Run.up (fun i st => ∃ a4 a10, st = ⟨[stD s x, .s [], .i .i64 0, .b false, a4, .bx [.i .i64 s.y, .i .i64 s.b, .i .i64 s.a, x, .i .i64 s.g, .i .i64 s.t, .i .i64 s.n, .i .i64 s.i], .hp 0 0, .i .i64 i, .i .i64 s.ls.length, x, a10], bld (headT s ++ lnsT s.ls i)⟩) s.ls.length ⟨.u, .u, ?_⟩ ?_
  · simp [headT, lnsT, kStatement, kBefore, stD]
  rintro i st hi ⟨a4, a10, rfl⟩
  have lH : (headT s).length ≤ 6000 := by
    simp only [headT, kStatement, kBefore, List.length_append]; omega
  have lL := lnsT_len hright i hi
  have hlen := hright.len
  by_cases hlt : i < s.ls.length
  · have hlt' : decide ((i : Int) < (s.ls.length : Int)) = true := by simpa using hlt
    have hf := hright.fit hlt
    have lx := lnT_len hf
    have cM : ∀ {H : Heap} {K : CR → Prop}, _ := fun {H K} => c35m (a := kMonth) (m := monT s.ls[i]!.m) (b := kDue) (c := kPosted) (d := kOpen) (by decide) (monT_len hf.m) (by decide) (by decide) (by decide) hf.d hf.p hf.o (H := H) (K := K)
    have w2 : ∀ {K : CR → Prop}, _ := fun {K} => w34b (t := headT s ++ lnsT s.ls i) (s := lnT s.ls[i]!) (by rw [List.length_append]; omega) (K := K)
    simp only [kMonth, kDue, kPosted, kOpen, lnT] at cM w2
    have c36' : ∀ {H : Heap} {K : CR → Prop}, _ := fun {H K} => c36 (m := s.ls[i]!.m) (H := H) (K := K) hf.m
    simp (disch := omega) only [go_sem, Nat.reduceAdd, Nat.reduceLeDiff, Nat.reduceLT, v16l0, h.q, lnR, wr, hlt', c36', cM, w2]
    refine ⟨⟨by omega, by omega⟩, hlt, ?_⟩
    rw [lnsT_succ hlt, lnT]
    simp only [kMonth, kDue, kPosted, kOpen]
  · have hlt' : decide ((i : Int) < (s.ls.length : Int)) = false := by simpa using hlt
    have : i = s.ls.length := by omega
    subst this
    have hL : (headT s ++ lnsT s.ls s.ls.length).length ≤ 126000 := by rw [List.length_append]; omega
    have w3 : ∀ {K : CR → Prop}, _ := fun {K} => w34b (t := headT s ++ lnsT s.ls s.ls.length) (s := lineT [.s kGross, .i s.g, .s kTax, .i s.t, .s kNet, .i s.n, .s kInterest, .i s.i]) (by simp only [kGross, kTax, kNet, kInterest]; omega) (K := K)
    have w4 : ∀ {K : CR → Prop}, _ := fun {K} => w34b (t := headT s ++ (lnsT s.ls s.ls.length ++ lineT [.s kGross, .i s.g, .s kTax, .i s.t, .s kNet, .i s.n, .s kInterest, .i s.i])) (s := lineT [.s kAfter, .i s.a]) (by rw [← List.append_assoc, List.length_append]; simp only [kGross, kTax, kNet, kInterest, kAfter]; omega) (K := K)
    have s1 : ∀ {K : CR → Prop}, _ := fun {K} => s37 (t := textT s) (by simp [textT, lineT]) (K := K)
    simp only [textT, kGross, kTax, kNet, kInterest, kAfter, List.append_assoc] at w3 w4 s1
    simp (disch := omega) only [go_sem, Nat.reduceAdd, Nat.reduceLeDiff, Nat.reduceLT, v16l0, hlt', cG, cA, w3, w4, s1, textT, kGross, kTax, kNet, kInterest, kAfter]
end Go.Proofs.YtnhbopeopppojaaGreatDoor.Dv
