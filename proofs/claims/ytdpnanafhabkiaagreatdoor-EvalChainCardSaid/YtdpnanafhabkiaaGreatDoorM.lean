/-
  Operations on values.
-/
import Derived.Test.YtdpnanafhabkiaaGreatDoorK
namespace Go.Proofs.YtdpnanafhabkiaaGreatDoor.Dv
open Go.Dm
def binN (op : Nat) (x y : NV) : NR := if op = 7 then sumN x y else .ok (truthN (decide (cmpN x y < 0)))
structure BinK (op : Nat) (x y : NV) : Prop where
 s : op = 7 -> sumK x y
 c : op = 13 -> x.k = 4 /\ y.k = 4
theorem low_int {n : Int} (h : n.natAbs < 18446744073709551616) : Low n 1 :=
 ⟨by decide, Nat.gcd_one_right _, Nat.lt_of_lt_of_le (show n.natAbs < cap 4 from h) (cap_le (by omega)), Nat.lt_of_lt_of_le (show 1 < cap 1 by decide) (cap_le (by omega))⟩
theorem vbin_q {op : Nat} (hop : op = 7 \/ op = 13) {x y : NV} {d e : D} (h1 : VD x d) (h2 : VD y e) (o1 : x.ok) (o2 : y.ok) (hk : BinK op x y) : PurQ VS 66 [.i .u8 op, d, e] (AnsP (binN op x y)) := by
 have hsum := fun (h : op = 7) => vsum_q h1 h2 o1 o2 (hk.s h)
 have hcmp := fun (h : op = 13) => vcmp_q h1 h2 (hk.c h)
 have hx1 := h1
 have hx2 := h2
 obtain ⟨s1, x1, t1, y1, rfl, f1⟩ := h1.cs
 obtain ⟨s2, x2, t2, y2, rfl, f2⟩ := h2.cs
 have p1 : (D.ag [.i .u8 x.k, s1, x1, t1, y1, .i .i64 x.i]).plain = true := hx1.pl
 have p2 : (D.ag [.i .u8 y.k, s2, x2, t2, y2, .i .i64 y.i]).plain = true := hx2.pl
 have tr := fun b {H K} => truth_c (b := b) (H := H) (K := K)
 unfold binN
 refine PurQ.body (vf := v66) fn66 rfl ?_
 rcases hop with rfl | rfl
 ·rw [if_pos rfl]
  simp (disch := omega) only [go_sem, Nat.reduceAdd, Nat.reduceSub, v66]
  refine CallQ.ans (hsum rfl) fn99 rfl rfl (by simp [p1, p2, plain_i]) (fun v s x t y hv a b c e f g => ?_) (fun e he => ?_)
  ·simp (disch := omega) only [go_sem, Nat.reduceAdd, flat_freeze a, flat_freeze b, flat_freeze c, flat_freeze e, hv]
   exact ⟨f, g⟩
  ·simp (disch := omega) only [go_sem, he]
 ·have ec := fun {H K} => (hcmp rfl).c (H := H) (K := K) fn102 rfl (by simp [p1, p2]) (.inl rfl)
  rw [if_neg (by decide)]
  simp (disch := omega) only [go_sem, Nat.reduceAdd, Nat.reduceSub, Int.reduceEq, v66, ec, tr, truthD]
  have := truth_vd (decide (cmpN x y < 0))
  simpa only [truthD, decide_eq_true_eq] using this
open Go.Dm
theorem appK {H : Heap} {a n len w bytes : Nat} {rows : List (List D)} {r : List D} (h : H[a]? = some (.ar w rows (some n) true false)) (hn : rows.length = n) (hl : len < n) (hf : r.all D.flat = true) (hr : (len + 1) * bytes <= 140737488355328) (hb : n < 140737488355328) :
  appD H (.mu a n 0 len) (.sv w [r]) w bytes true = some (.mu a n 0 (len + 1), H.set a (.ar w (rows.set len r) (some n) true false)) := by
 have hfr : freezeRows H [r] = some ([r], H) := flat_freezeRows H (fun q hq => by rw [List.mem_singleton.1 hq]; simpa using hf)
 have ha : arr H a n = some (w, rows, some n, true, false) := by simp [Dm.arr, h, hn]
 have hro : room (len + 1) bytes = true := room_ok hr (by omega)
 have hs : rows.take len ++ [r] ++ rows.drop (len + 1) = rows.set len r := by
  rw [List.set_eq_take_append_cons_drop, if_pos (by omega), List.append_assoc]; rfl
 have h1 : len <= n := by omega
 have h2 : len + 1 <= n := by omega
 simp only [appD, rowsOf, if_true, hfr, appTo, appMu, ha, List.length_singleton, Nat.zero_add, hro, h1, h2, appIn, hs, List.length_set, hn, and_self]
structure AV where
 v : NV
 s : D
 x : D
 t : D
 y : D
instance : Inhabited AV := ⟨⟨default, .u, .u, .u, .u⟩⟩
def AV.c (a : AV) : List D := [.i .u8 a.v.k, a.s, a.x, a.t, a.y, .i .i64 a.v.i]
structure AV.ok (a : AV) : Prop where
 d : VD a.v (.ag a.c)
 o : a.v.ok
theorem AV.ok.fl {a : AV} (h : a.ok) : a.s.flat = true /\ a.x.flat = true /\ a.t.flat = true /\ a.y.flat = true := by
 obtain ⟨s, x, t, y, e, q⟩ := h.d.cells
 simp only [AV.c, D.ag.injEq, List.cons.injEq, and_true, true_and] at e
 obtain ⟨rfl, rfl, rfl, rfl⟩ := e
 exact q
theorem AV.ok.al {a : AV} (h : a.ok) : a.c.all D.flat = true := by
 obtain ⟨h1, h2, h3, h4⟩ := h.fl
 simp [AV.c, flat_i, h1, h2, h3, h4]
theorem AV.ok.pl {a : AV} (h : a.ok) : (D.ag a.c).plain = true := by rw [plain_ag]; exact h.al
theorem VD.av {v : NV} {d : D} (h : VD v d) (o : v.ok) : ∃ a : AV, a.v = v /\ d = .ag a.c /\ a.ok := by
 obtain ⟨s, x, t, y, rfl, _⟩ := h.cells
 exact ⟨⟨v, s, x, t, y⟩, rfl, rfl, ⟨h, o⟩⟩
def AnsH (nr : NR) (H : Heap) : CR -> Prop
 | .ret d H' => H' = H /\ ∃ a : AV, nr = .ok a.v /\ d = .ag a.c /\ a.ok
 | .pan d H' => H' = H /\ ∃ e, nr = .er e /\ d = failD e
 | .bad => False
theorem AnsH_ret {a : AV} {H : Heap} (h : a.ok) : AnsH (.ok a.v) H (.ret (.ag a.c) H) := ⟨rfl, a, rfl, rfl, h⟩
theorem AnsH_pan {e : Int} {H : Heap} : AnsH (.er e) H (.pan (failD e) H) := ⟨rfl, e, rfl, rfl⟩
def zrow : List D := [.i .u8 0, .b false, .nil, .b false, .nil, .i .i64 0]
theorem fits_bin {x y : NV} {op : Nat} (hop : op = 7 \/ op = 13) (h : BinK op x y) : fitsN op [x.k, y.k] = true := by
 rcases hop with rfl | rfl
 ·rcases h.s rfl with ⟨a, b⟩ | ⟨a, b⟩ <;> (rw [a, b]; decide)
 ·rw [(h.c rfl).1, (h.c rfl).2]; decide
def argB (a b : AV) (lk : Bool) : Blk := .ar 6 [a.c, b.c, zrow] (some 3) true lk
theorem do_q {op : Nat} (hop : op = 7 \/ op = 13) {a b : AV} (ha : a.ok) (hb : b.ok) (hm : BinK op a.v b.v) {H : Heap} {i : Nat} (hi : H[i]? = some (argB a b false)) {bs w : D} {nm : List UInt8} {md : Int} :
  CallQ VS 42 [bs, .i .u8 op, .s nm, .i .i64 md, .mu i 3 0 2, w] H (AnsH (binN op a.v b.v) (H.set i (argB a b true))) := by
 have hlt : i < H.length := by
  rcases Nat.lt_or_ge i H.length with h | h
  ·exact h
  ·rw [List.getElem?_eq_none h] at hi; cases hi
 have har : arr H i 3 = some (6, [a.c, b.c, zrow], some 3, true, false) := by simp [Dm.arr, hi, argB]
 have hx : Sl 6 ([a, b].map AV.c) (.im 6 [a.c, b.c]) := .im
 have hf := fits_q (enc := AV.c) (kd := fun a => a.v.k) (fun a => ⟨_, rfl, rfl⟩) hx (op := op) (by omega) (by simp)
 have hfz : freezeL deep H [.i .u8 op, .mu i 3 0 2] = some ([.i .u8 op, .im 6 [a.c, b.c]], H.set i (argB a b true)) := by
  simp only [go_sem, Nat.reduceAdd, Nat.reduceLeDiff, har]
  simp [argB]
 have ec := fun {K} => CallQ_p (V := VS) (K := K) fn53 rfl hf hfz
 simp only [placeO_f, show v53.own = false from rfl] at ec
 have hi2 : (H.set i (argB a b true))[i]? = some (.ar 6 [a.c, b.c, zrow] (some 3) true true) := by rw [List.getElem?_set_self hlt]; rfl
 obtain ⟨H2, hH2⟩ : ∃ H2, H2 = H.set i (argB a b true) := ⟨_, rfl⟩
 rw [<- hH2] at ec hi2 ⊢
 have har2 : arr H2 i 3 = some (6, [a.c, b.c, zrow], some 3, true, true) := by simp [Dm.arr, hi2]
 simp only [List.map_cons, List.map_nil, fits_bin hop hm] at ec
 have hb2 := vbin_q hop ha.d hb.d ha.o hb.o hm
 refine .body (vf := v42) fn42 rfl rfl ?_
 have n3 : ¬ (op : Int) = 3 := by omega
 have n4 : ¬ (op : Int) = 4 := by omega
 have n6 : ¬ (op : Int) = 6 := by omega
 have n17 : ¬ (op : Int) = 17 := by omega
 have n19 : ¬ (op : Int) = 19 := by omega
 have n21 : ¬ (op : Int) = 21 := by omega
 have n22 : ¬ (op : Int) = 22 := by omega
 have n23 : ¬ (op : Int) = 23 := by omega
 have n24 : ¬ (op : Int) = 24 := by omega
 have n25 : ¬ (op : Int) = 25 := by omega
 have n26 : ¬ (op : Int) = 26 := by omega
 simp (disch := omega) only [go_sem, Nat.reduceAdd, Nat.reduceSub, Int.reduceLE, Int.reduceLT, v42, ec, har2, AV.c, n3, n4, n6, n17, n19, n21, n22, n23, n24, n25, n26]
 have hl2 : i < H2.length := by rw [hH2, List.length_set]; exact hlt
 refine ⟨hl2, hl2, CallQ.ans hb2 fn66 rfl rfl (by have := ha.pl; have := hb.pl; simp only [AV.c] at *; simp [plain_i, *]) (fun v s x t y hv _ _ _ _ f g => ?_) (fun e he => ?_)⟩
 ·simp (disch := omega) only [go_sem, Nat.reduceAdd]
  rw [hv]
  exact AnsH_ret (a := ⟨v, s, x, t, y⟩) ⟨f, g⟩
 ·simp (disch := omega) only [go_sem]
  rw [he]
  exact AnsH_pan
open Go.Dm
def argR (vs : List AV) : List (List D) := vs.map AV.c ++ List.replicate (3 - vs.length) zrow
theorem argR_len {vs : List AV} (h : vs.length <= 3) : (argR vs).length = 3 := by simp [argR]; omega
theorem argR_set {vs : List AV} {a : AV} (h : vs.length < 3) : (argR vs).set vs.length a.c = argR (vs ++ [a]) := by
 unfold argR
 have : 3 - vs.length = (3 - (vs.length + 1)) + 1 := by omega
 rw [this, List.replicate_succ]
 simp []
def argBk (vs : List AV) (lk : Bool) : Blk := .ar 6 (argR vs) (some 3) true lk
section
variable {bs ed w c4 c5 c6 c7 c8 c9 c10 c11 c13 c14 c15 sl : D} {date : Int} {l : List Ex} {i : Nat}
def tSl (bs ed w c4 c5 c6 c7 c8 c9 c10 c11 c12 c13 c14 c15 sl c20 : D) (date : Int) (i n k : Nat) : List D :=
 [bs, ed, .i .i64 date, w, c4, c5, c6, c7, c8, c9, c10, c11, c12, c13, c14, c15, .mu i 3 0 k, .i .i64 (k : Int), .i .i64 (n : Int), sl, c20]
theorem term_args (hl : l.length <= 3) (hsl : Sl 9 (l.map Ex.row) sl) {Q : Dm.Ex -> St -> Prop} (P : Nat -> List AV -> Heap -> Prop) {H : Heap} {d12 d20 : D} (h0 : P 0 [] H)
  (hP : ∀ k vs H, P k vs H -> vs.length = k)
  (step : ∀ k vs H, k < l.length -> P k vs H -> CallQ VS 26 [bs, (l[k]!).d, .i .i64 date, w] H (fun r => match r with
   | .ret d H' => ∃ a : AV, d = .ag a.c /\ a.ok /\ H'[i]? = some (argBk vs false) /\ P (k + 1) (vs ++ [a]) (H'.set i (argBk (vs ++ [a]) false))
   | .pan d H' => ∀ s, Q (.pn d) ⟨s, H'⟩
   | .bad => False))
  (fin : ∀ vs H c12 c20, P l.length vs H -> Q (.ex 1) ⟨tSl bs ed w c4 c5 c6 c7 c8 c9 c10 c11 c12 c13 c14 c15 sl c20 date i l.length l.length, H⟩) :
  Run VS (.loop v26l0) ⟨tSl bs ed w c4 c5 c6 c7 c8 c9 c10 c11 d12 c13 c14 c15 sl d20 date i l.length 0, H⟩ Q := by
 refine Run.up (fun k s => ∃ vs H c12 c20, P k vs H /\ s = ⟨tSl bs ed w c4 c5 c6 c7 c8 c9 c10 c11 c12 c13 c14 c15 sl c20 date i l.length k, H⟩) l.length ⟨_, _, _, _, h0, rfl⟩ ?_
 rintro k s hk ⟨vs, H, c12, c20, hp, rfl⟩
 have hvl := hP _ _ _ hp
 unfold tSl
 by_cases hlt : k < l.length
 ·have c1 : (k : Int) < (l.length : Int) := by omega
  have c0 : (0 : Int) <= (k : Int) := by omega
  have w1 : IntKind.i64.wrap ((k : Int) + 1) = ((k + 1 : Nat) : Int) := by rw [wr (by omega) (by omega)]; omega
  have hs := step k vs H hlt hp
  simp only [Ex.d, Ex.row_eq] at hs
  simp (disch := omega) only [go_sem, Nat.reduceAdd, v26l0, hsl.q, c0, c1, Ex.row_eq, Int.toNat_natCast]
  refine hs.mono fun r hr => ?_
  cases r with
  | bad => exact hr.elim
  | pan d H' => simp (disch := omega) only [go_sem]; exact hr _
  | ret d H' =>
   obtain ⟨a, rfl, ha, hb, hp'⟩ := hr
   obtain ⟨f1, f2, f3, f4⟩ := ha.fl
   have ea := appK (bytes := 80) hb (argR_len (by omega)) (show vs.length < 3 by omega) ha.al (by omega) (by decide)
   rw [argR_set (by omega), hvl] at ea
   simp only [AV.c] at ea ⊢
   simp (disch := omega) only [go_sem, Nat.reduceAdd, Nat.reduceLT, ea, w1]
   exact ⟨hlt, _, hp'⟩
 ·have c1 : ¬ (k : Int) < (l.length : Int) := by omega
  have hkl : k = l.length := by omega
  subst hkl
  simp (disch := omega) only [go_sem, v26l0, c1]
  exact fin _ _ _ _ hp
end
end Go.Proofs.YtdpnanafhabkiaaGreatDoor.Dv
