/-
  Helpers; values, failures.
-/
import Derived.Test.YtdpnanafhabkiaaGreatDoorI
namespace Go.Proofs.YtdpnanafhabkiaaGreatDoor.Dv
open Go.Dm
theorem kwhole_q {n : Int} (hn : -9223372036854775808 <= n /\ n < 9223372036854775808) : ∃ d, PRet VS 27 [.i .i64 n] d /\ Wh n d := by
 refine PurQ.ex (.body (vf := v27) fn27 rfl ?_)
 obtain ⟨U, hU⟩ : ∃ U, U = n.natAbs := ⟨_, rfl⟩
 have hU' : U <= 9223372036854775808 := by omega
 have main : ∀ a3 : D, Run VS (.block 0 (.loop v27l0)) ⟨[.i .i64 n, .bx [.b false, .nil], a3, .u, .i .u64 U, .bx [.b (decide (n < 0)), .nil]], []⟩ (SeqQ VS (.seq (.reg [⟨.lld (.sl 5) 2 true, none, none⟩, ⟨.lst (.sl 1) (.l 0) 2, none, none⟩] none) .ret) (ResQ [.bx 1 2 true] (PurK false fun r => ∃ d, r = .ret d /\ Wh n d))) := by
  intro a3
  rw [Run_block]
  refine Run.loop (fun k s => ∃ (l : List Nat) (a : D), lm 65536 l /\ l ++ ds 65536 k = ds 65536 U /\ k <= U /\ s = ⟨[.i .i64 n, .bx [.b false, .nil], a3, a, .i .u64 k, .bx [.b (decide (n < 0)), bD [] .nil (l.map u16)]], bH [] 1 (l.map u16)⟩) U ⟨[], _, lm_nil, rfl, Nat.le_refl _, rfl⟩ ?_
  rintro k s ⟨l, a, hl, he, hk, rfl⟩
  by_cases h0 : k = 0
  ·subst h0
   rw [ds_zero, List.append_nil] at he
   have hc : (bD [] .nil (l.map u16)).cellsN 1 = some [bD [] .nil (l.map u16)] := bD_c1 rfl
   simp (disch := omega) only [go_sem, Nat.reduceAdd, Int.reduceLT, v27l0, Int.natCast_zero]
   exact ⟨_, rfl, ⟨by rw [<- hU, <- he]; exact imD_sl rfl 1 _⟩⟩
  ·have hk' : k < 18446744073709551616 := by omega
   have c1 : (0 : Int) < (k : Int) := by omega
   obtain ⟨v, hv⟩ : ∃ v, v = k % 65536 := ⟨_, rfl⟩
   have w1 : IntKind.u16.wrap (k : Int) = (v : Int) := by rw [w16m, hv]
   have e2 : bin .shr (.i .u64 (k : Int)) (.i .u64 16) = some (.i .u64 ((k / 65536 : Nat) : Int)) := bin_shrN (s := 16) (by decide)
   have hll : l.length <= 4 := by
    have h1 : (ds 65536 U).length <= 4 := (ds_len h16).2 (by omega)
    rw [<- he, List.length_append] at h1; omega
   have ea := app_n (H0 := []) (w := 1) (bytes := 2) (r := [.i .u16 (v : Int)]) (enc := u16) (l := l) (by omega) (by omega)
   have hc : (bD [] .nil (l.map u16 ++ [[.i .u16 (v : Int)]])).cellsN 1 = some [bD [] .nil (l.map u16 ++ [[.i .u16 (v : Int)]])] := bD_c1 rfl
   simp (disch := omega) only [go_sem, Nat.reduceAdd, Nat.reduceLT, v27l0, c1, w1, ea, e2, hc, flat_i]
   refine ⟨k / 65536, Nat.div_lt_self (by omega) (by omega), l ++ [v], ?_, ?_, Nat.le_trans (Nat.div_le_self _ _) hk, ?_⟩
   ·intro x hx
    rcases List.mem_append.1 hx with h | h
    ·exact hl x h
    ·rw [List.mem_singleton.1 h]; omega
   ·rw [List.append_assoc, <- he, ds_step h16 h0, hv]; rfl
   ·rw [List.map_append]; exact ⟨⟨rfl, rfl⟩, rfl⟩
 by_cases h0 : n < 0
 ·have w1 : IntKind.u64.wrap n = ((18446744073709551616 - U : Nat) : Int) := by rw [w64i]; omega
  have w2 : IntKind.u64.wrap (0 - ((18446744073709551616 - U : Nat) : Int)) = (U : Int) := by rw [w64i]; omega
  have := main (.b true)
  rw [decide_eq_true h0] at this
  rw [Run_block] at this
  simp (disch := omega) only [go_sem, Nat.reduceAdd, Nat.reduceSub, Nat.reduceLeDiff, v27, h0, w1, w2]
  exact this
 ·have w1 : IntKind.u64.wrap n = (U : Int) := by rw [w64i]; omega
  have := main (.b false)
  rw [decide_eq_false h0] at this
  rw [Run_block] at this
  simp (disch := omega) only [go_sem, Nat.reduceAdd, Nat.reduceSub, Nat.reduceLeDiff, v27, h0, w1]
  exact this
theorem frac_red {n : Int} {m g : Nat} (hg : g = Nat.gcd n.natAbs m) (hm : m ≠ 0) : g ≠ 0 /\ n.tdiv g = n / g /\ Nat.gcd (n / (g : Int)).natAbs (m / g) = 1 /\ m / g ≠ 0 /\ (n / (g : Int)).natAbs <= n.natAbs /\ g <= m := by
 have hg0 : 0 < g := by rw [hg]; exact Nat.gcd_pos_of_pos_right _ (by omega)
 have hgm : g ∣ m := by rw [hg]; exact Nat.gcd_dvd_right _ _
 have hd : (g : Int) ∣ n := Int.ofNat_dvd_left.2 (by rw [hg]; exact Nat.gcd_dvd_left _ _)
 obtain ⟨c, hc⟩ := hd
 have e1 : n / (g : Int) = c := by rw [hc]; exact Int.mul_ediv_cancel_left _ (by omega)
 have e2 : n.natAbs = g * c.natAbs := by rw [hc, Int.natAbs_mul]; rfl
 refine ⟨by omega, Int.tdiv_eq_ediv_of_dvd ⟨c, hc⟩, ?_, ?_, ?_, Nat.le_of_dvd (by omega) hgm⟩
 ·rw [e1]
  have : c.natAbs = n.natAbs / g := by rw [e2]; exact (Nat.mul_div_cancel_left _ hg0).symm
  rw [this, hg]
  exact Nat.gcd_div_gcd_div_gcd_of_pos_right (by omega)
 ·have := Nat.div_pos (Nat.le_of_dvd (by omega) hgm) hg0; omega
 ·exact Int.natAbs_ediv_le_natAbs _ _
theorem kfrac_q {n d : Int} (hn : -4611686018427387904 <= n /\ n < 4611686018427387904) (hd : 1 <= d /\ d < 4611686018427387904) : ∃ r, PRet VS 16 [.i .i64 n, .i .i64 d] r /\ Fr (n / (Nat.gcd n.natAbs d.natAbs : Nat)) (d.natAbs / Nat.gcd n.natAbs d.natAbs) r := by
 obtain ⟨E, rfl⟩ : ∃ E : Nat, d = E := ⟨d.toNat, by omega⟩
 have nD : ((E : Int)).natAbs = E := rfl
 rw [nD]
 obtain ⟨g, hg⟩ : ∃ g, g = Nat.gcd n.natAbs E := ⟨_, rfl⟩
 rw [<- hg]
 obtain ⟨r1, r2, r3, r4, r5, r6⟩ := frac_red hg (by omega)
 have c0 : ¬ (E : Int) < 1 := by omega
 by_cases h0 : n = 0
 ·subst h0
  obtain ⟨w, w1, w2⟩ := kwhole_q (n := 1) (by omega)
  have e1 := fun {H K} => w1.c (H := H) (K := K) fn27 rfl rfl (.inl rfl)
  have : g = E := by rw [hg]; simp
  subst this
  obtain ⟨y, rfl, hy⟩ := w2.h
  have ey := fun m H => flat_freeze hy.sl.flat m H
  have d1 : decide ((1 : Int) < 0) = false := rfl
  rw [d1] at e1
  refine ⟨_, .body (vf := v16) fn16 rfl ?_, ⟨.nil, y, rfl, ?_, ?_⟩⟩
  ·simp (disch := omega) only [go_sem, Nat.reduceAdd, Nat.reduceSub, v16, c0, e1, ey]
   simp
  ·rw [Int.zero_ediv]; exact ⟨by rw [show (0 : Int).natAbs = 0 from rfl, ds_zero]; exact .nil rfl⟩
  ·rw [Nat.div_self (by omega)]; exact hy
 ·obtain ⟨U, hU⟩ : ∃ U, U = n.natAbs := ⟨_, rfl⟩
  obtain ⟨q, hq⟩ : ∃ q, q = n / (g : Int) := ⟨_, rfl⟩
  obtain ⟨e, he⟩ : ∃ e, e = E / g := ⟨_, rfl⟩
  rw [<- hq, <- he]
  rw [<- hq] at r2 r5
  have hle : e <= E := by rw [he]; exact Nat.div_le_self _ _
  obtain ⟨w, w1, w2⟩ := kwhole_q (n := q) (by omega)
  obtain ⟨w', w1', w2'⟩ := kwhole_q (n := (e : Int)) (by omega)
  have e1 := fun {H K} => w1.c (H := H) (K := K) fn27 rfl rfl (.inl rfl)
  have e2 := fun {H K} => w1'.c (H := H) (K := K) fn27 rfl rfl (.inl rfl)
  obtain ⟨x, rfl, hx⟩ := w2.h
  obtain ⟨y, rfl, hy⟩ := w2'.h
  rw [nat_dec] at e2
  have ex := fun m H => flat_freeze hx.sl.flat m H
  have ey := fun m H => flat_freeze hy.sl.flat m H
  have q1 : (E : Int).tdiv (g : Int) = (e : Int) := by rw [tdivN, he]
  have g1 : IntKind.i64.wrap (g : Int) = (g : Int) := wr (by omega) (by omega)
  have g0 : ¬ (g : Int) = 0 := by omega
  have q2 : IntKind.i64.wrap q = q := wr (by omega) (by omega)
  have q3 : IntKind.i64.wrap (e : Int) = (e : Int) := wr (by omega) (by omega)
  refine ⟨_, .body (vf := v16) fn16 rfl ?_, ⟨x, y, rfl, hx, hy⟩⟩
  have main : ∀ (a4 : Go.Dm.D), Run VS (.loop v16l0) ⟨[.i .i64 n, .i .i64 E, .bx [.b false, .nil, .b false, .nil], .b false, a4, .u, .i .u64 U, .i .u64 E], []⟩ (BlockQ 0 (SeqQ VS (match v16.body with | .seq _ (.seq _ (.seq _ (.seq _ (.seq _ r)))) => r | c => c) (ResQ [.bx 2 4 true] (PurK false fun r => r = .ret (.ag [.b (decide (q < 0)), x, .b false, y]))))) := by
   intro a4
   refine Run.loop (fun k s => ∃ (a : Nat) (a5 : Go.Dm.D), a <= 4611686018427387904 /\ Nat.gcd a k = g /\ k <= E /\ s = ⟨[.i .i64 n, .i .i64 E, .bx [.b false, .nil, .b false, .nil], .b false, a4, a5, .i .u64 a, .i .u64 k], []⟩) E ⟨U, _, by omega, by rw [hg, hU], Nat.le_refl _, rfl⟩ ?_
   rintro k s ⟨a, a5, ha, hga, hk, rfl⟩
   by_cases hk0 : k = 0
   ·subst hk0
    rw [Nat.gcd_zero_right] at hga
    subst hga
    simp (disch := omega) only [go_sem, Nat.reduceAdd, Nat.reduceLeDiff, v16l0, v16, Int.natCast_zero, Int.lt_irrefl, bin_quo, g0, r2, q1, g1, q2, q3, e1, e2, ex, ey]
   ·have c1 : (0 : Int) < (k : Int) := by omega
    simp (disch := omega) only [go_sem, v16l0, c1, show ¬ (k : Int) = 0 by omega, bin_rem, tmodN]
    have hlt := Nat.mod_lt a (show k > 0 by omega)
    exact ⟨a % k, hlt, k, by omega, by rw [<- hga, Nat.gcd_comm a k, Nat.gcd_rec k a, Nat.gcd_comm], by omega, rfl, rfl⟩
  by_cases hneg : n < 0
  ·have w1 : IntKind.u64.wrap n = ((18446744073709551616 - U : Nat) : Int) := by rw [w64i]; omega
   have w2 : IntKind.u64.wrap (0 - ((18446744073709551616 - U : Nat) : Int)) = (U : Int) := by rw [w64i]; omega
   have w3 : IntKind.u64.wrap (E : Int) = (E : Int) := w64 (by omega)
   simp (disch := omega) only [go_sem, Nat.reduceSub, v16, c0, h0, hneg, w1, w2, w3]
   exact main (.b true)
  ·have w1 : IntKind.u64.wrap n = (U : Int) := by rw [w64i]; omega
   have w3 : IntKind.u64.wrap (E : Int) = (E : Int) := w64 (by omega)
   simp (disch := omega) only [go_sem, Nat.reduceSub, v16, c0, h0, hneg, w1, w3]
   exact main (.b false)
theorem samelimbs_q {l m : List Nat} {x y : D} (hx : Sl 1 (l.map u16) x) (hy : Sl 1 (m.map u16) y) (hn : l.length < 70368744177665) (hm : m.length < 70368744177665) : PRet VS 45 [x, y] (.b (decide (l = m))) := by
 refine .body (vf := v45) fn45 rfl ?_
 by_cases hl : l.length = m.length
 ·have c1 : (l.length : Int) = (m.length : Int) := by omega
  simp (disch := omega) only [go_sem, Nat.reduceSub, v45, hx.n, hy.n, c1]
  refine Run.up (fun i s => ∃ a4 a5, (∀ j, j < i -> l[j]! = m[j]!) /\ s = ⟨[x, y, .b false, .b false, a4, a5, .i .i64 i], []⟩) l.length ⟨_, _, fun j hj => by omega, rfl⟩ ?_
  rintro i s hi ⟨a4, a5, hs, rfl⟩
  by_cases hlt : i < l.length
  ·have c2 : (i : Int) < (l.length : Int) := by omega
   have c3 : (i : Int) < (m.length : Int) := by omega
   have c0 : (0 : Int) <= (i : Int) := by omega
   have ux : D.under (0, []) x = true := hx.under _
   have uy : D.under (0, []) y = true := hy.under _
   by_cases he : l[i]! = m[i]!
   ·have c4 : (l[i]! : Int) = (m[i]! : Int) := by omega
    simp (disch := omega) only [go_sem, v45l0, hx.n, hx.q, hy.q, c0, c2, c3, ux, uy, u16, c4, Int.toNat_natCast, wr]
    exact ⟨hlt, fun j hj => by
     rcases Nat.lt_or_eq_of_le (Nat.le_of_lt_succ hj) with h | h
     ·exact hs j h
     ·rw [h, he]⟩
   ·have c4 : ¬ (l[i]! : Int) = (m[i]! : Int) := by omega
    have hne : l ≠ m := fun e => he (by rw [e])
    simp (disch := omega) only [go_sem, v45l0, hx.n, hx.q, hy.q, c0, c2, c3, ux, uy, u16, c4, Int.toNat_natCast, hne]
  ·have c2 : ¬ (i : Int) < (l.length : Int) := by omega
   have hil : i = l.length := by omega
   have he : l = m := List.ext_getElem hl fun j h1 h2 => by
    have := hs j (by omega)
    rwa [getElem!_pos l j h1, getElem!_pos m j h2] at this
   subst he
   simp (disch := omega) only [go_sem, v45l0, hx.n, c2]
 ·have c1 : ¬ (l.length : Int) = (m.length : Int) := by omega
  have hne : l ≠ m := fun e => hl (by rw [e])
  simp (disch := omega) only [go_sem, Nat.reduceSub, v45, hx.n, hy.n, c1, hne]
theorem samewhole_q {s t : Bool} {l m : List Nat} {x y : D} (hx : Sl 1 (l.map u16) x) (hy : Sl 1 (m.map u16) y) (hn : l.length < 70368744177665) (hm : m.length < 70368744177665) : PRet VS 30 [.ag [.b s, x], .ag [.b t, y]] (.b ((s == t) && decide (l = m))) := by
 have e1 := fun {H K} => (samelimbs_q hx hy hn hm).c (H := H) (K := K) fn45 rfl (by simp [hx.pl, hy.pl]) (.inl rfl)
 refine .body (vf := v30) fn30 rfl ?_
 cases s <;> cases t <;> simp (disch := omega) only [go_sem, Nat.reduceAdd, Nat.reduceSub, Nat.reduceLeDiff, v30, e1, Bool.true_and, Bool.false_and] <;> rfl
theorem samefrac_q (r1 r2 : RF) : PRet VS 20 [r1.d, r2.d] (.b (((r1.s == r2.s) && decide (r1.l = r2.l)) && ((r1.t == r2.t) && decide (r1.m = r2.m)))) := by
 have e1 := fun {H K} => (samewhole_q (s := r1.s) (t := r2.s) r1.hx r2.hx r1.nl r2.nl).c (H := H) (K := K) fn30 rfl (by simp [plain_ag, flat_b, r1.hx.flat, r2.hx.flat]) (.inl rfl)
 have e2 := fun {H K} => (samewhole_q (s := r1.t) (t := r2.t) r1.hy r2.hy r1.nm r2.nm).c (H := H) (K := K) fn30 rfl (by simp [plain_ag, flat_b, r1.hy.flat, r2.hy.flat]) (.inl rfl)
 refine .body (vf := v20) fn20 rfl ?_
 simp only [RF.d, RF.cells]
 cases hq : ((r1.s == r2.s) && decide (r1.l = r2.l)) <;> rw [hq] at e1 <;> simp (disch := omega) only [go_sem, Nat.reduceAdd, Nat.reduceSub, Nat.reduceLeDiff, v20, e1, e2, Bool.true_and, Bool.false_and]
structure Vl where
 k : Nat
 f : RF
 i : Int
instance : Inhabited Vl := ⟨⟨0, default, 0⟩⟩
def Vl.cells (v : Vl) : List D := [.i .u8 v.k, .b v.f.s, v.f.x, .b v.f.t, v.f.y, .i .i64 v.i]
def Vl.d (v : Vl) : D := .ag v.cells
def RF.eq (a b : RF) : Bool := ((a.s == b.s) && decide (a.l = b.l)) && ((a.t == b.t) && decide (a.m = b.m))
def Vl.eq (a b : Vl) : Bool := (decide (a.k = b.k) && a.f.eq b.f) && decide (a.i = b.i)
theorem Vl.pl (v : Vl) : v.d.plain = true := by simp [Vl.d, Vl.cells, plain_ag, flat_i, flat_b, v.f.hx.flat, v.f.hy.flat]
theorem samevalue_q (a b : Vl) : PRet VS 13 [a.d, b.d] (.b (a.eq b)) := by
 have e1 := fun {H K} => (samefrac_q a.f b.f).c (H := H) (K := K) fn20 rfl (by simp [a.f.pl, b.f.pl]) (.inl rfl)
 refine .body (vf := v13) fn13 rfl ?_
 unfold Vl.eq RF.eq
 simp only [RF.d, RF.cells, Vl.d, Vl.cells] at e1 ⊢
 by_cases c1 : a.k = b.k
 ·have d1 : (a.k : Int) = (b.k : Int) := by omega
  cases hq : (((a.f.s == b.f.s) && decide (a.f.l = b.f.l)) && ((a.f.t == b.f.t) && decide (a.f.m = b.f.m))) with
  | false =>
   rw [hq] at e1
   simp (disch := omega) only [go_sem, Nat.reduceAdd, Nat.reduceSub, Nat.reduceLeDiff, v13, e1, c1, Bool.true_and, Bool.false_and]
  | true =>
   rw [hq] at e1
   by_cases c2 : a.i = b.i <;> simp (disch := omega) only [go_sem, Nat.reduceAdd, Nat.reduceSub, Nat.reduceLeDiff, v13, e1, c1, c2, Bool.true_and]
 ·have d1 : ¬ (a.k : Int) = (b.k : Int) := by omega
  simp (disch := omega) only [go_sem, Nat.reduceAdd, Nat.reduceSub, Nat.reduceLeDiff, v13, d1, c1, Bool.false_and]
open Go.Dm
inductive Zs where
 | n
 | z
 | i
 deriving Inhabited, DecidableEq
def Zs.d (w : Nat) : Zs -> D
 | .n => .nil
 | .z => .z
 | .i => .im w []
def slD (w : Nat) (y : Zs) (rows : List (List D)) : D := match rows with
 | [] => y.d w
 | r :: rs => .im w (r :: rs)
theorem slD_sl (w : Nat) (y : Zs) (rows : List (List D)) : Sl w rows (slD w y rows) := by
 cases rows with
 | nil => cases y <;> first | exact .nil rfl | exact .z rfl | exact .im
 | cons r rs => exact .im
inductive Ex where
 | mk (op : Nat) (name : List UInt8) (v : Vl) (y : Zs) (args : List Ex)
instance : Inhabited Ex := ⟨.mk 0 [] default .n []⟩
def Ex.op : Ex -> Nat | .mk o _ _ _ _ => o
def Ex.name : Ex -> List UInt8 | .mk _ n _ _ _ => n
def Ex.v : Ex -> Vl | .mk _ _ v _ _ => v
def Ex.z : Ex -> Zs | .mk _ _ _ y _ => y
def Ex.args : Ex -> List Ex | .mk _ _ _ _ a => a
mutual
def Ex.row : Ex -> List D
 | .mk o n v y a => [.i .u8 o, .s n, .i .u8 v.k, .b v.f.s, v.f.x, .b v.f.t, v.f.y, .i .i64 v.i, slD 9 y (rowsX a)]
def rowsX : List Ex -> List (List D)
 | [] => []
 | e :: l => e.row :: rowsX l
end
theorem rowsX_map : ∀ l : List Ex, rowsX l = l.map Ex.row
 | [] => by simp [rowsX]
 | e :: l => by rw [rowsX, rowsX_map l]; rfl
def Ex.sl (e : Ex) : D := slD 9 e.z (e.args.map Ex.row)
theorem Ex.row_eq (e : Ex) : e.row = [.i .u8 e.op, .s e.name, .i .u8 e.v.k, .b e.v.f.s, e.v.f.x, .b e.v.f.t, e.v.f.y, .i .i64 e.v.i, e.sl] := by
 cases e; rw [Ex.row, rowsX_map]; rfl
theorem Ex.hsl (e : Ex) : Sl 9 (e.args.map Ex.row) e.sl := slD_sl 9 _ _
def Ex.d (e : Ex) : D := .ag e.row
theorem Ex.pl (e : Ex) : e.d.plain = true := by
 simp [Ex.d, Ex.row_eq, plain_ag, flat_i, flat_b, flat_s, e.v.f.hx.flat, e.v.f.hy.flat, e.hsl.flat]
mutual
theorem Ex.ind' {P : Ex -> Prop} (h : ∀ e : Ex, (∀ a ∈ e.args, P a) -> P e) : ∀ e : Ex, P e
 | .mk o n v y a => h _ (Ex.indL h a)
theorem Ex.indL {P : Ex -> Prop} (h : ∀ e : Ex, (∀ a ∈ e.args, P a) -> P e) : ∀ l : List Ex, ∀ a ∈ l, P a
 | [], _, ha => by cases ha
 | e :: l, a, ha => by
  rcases List.mem_cons.1 ha with q | q
  ·exact q ▸ Ex.ind' h e
  ·exact Ex.indL h l a q
end
mutual
def szX : Ex -> Nat -> Nat -> Bool × Nat
 | .mk _ _ _ _ a, d, p => if 200 < p + 1 \/ 24 < d then (false, p + 1) else szL a (d + 1) (p + 1)
def szL : List Ex -> Nat -> Nat -> Bool × Nat
 | [], _, p => (true, p)
 | e :: l, d, p => match szX e d p with
  | (true, q) => szL l d q
  | (false, q) => (false, q)
end
theorem szX_eq (e : Ex) (d p : Nat) : szX e d p = if 200 < p + 1 \/ 24 < d then (false, p + 1) else szL e.args (d + 1) (p + 1) := by
 cases e; rw [szX]; rfl
def sized (e : Ex) : Bool := (szX e 1 0).1
def szH (p : Nat) : Heap := [.hb 3 [.i .i64 (p : Int)], .hb 94 [.fn (.func 31) [] [.hp 0 0, .hp 1 0]]]
theorem szX_le : ∀ e : Ex, ∀ d p, p <= 200 -> (szX e d p).1 = true -> (szX e d p).2 <= 200 := by
 refine Ex.ind' fun e ih d p hp h => ?_
 rw [szX_eq] at h ⊢
 split at h
 ·cases h
 ·rename_i hc
  rw [if_neg hc]
  have : ∀ l : List Ex, (∀ a ∈ l, a ∈ e.args) -> ∀ q, q <= 200 -> (szL l (d + 1) q).1 = true -> (szL l (d + 1) q).2 <= 200 := by
   intro l
   induction l with
   | nil => intro _ q hq _; rw [szL]; exact hq
   | cons a l ihl =>
    intro hl q hq hs
    rw [szL] at hs ⊢
    have ha := ih a (hl a List.mem_cons_self) (d + 1) q hq
    cases hx : szX a (d + 1) q with
    | mk b r =>
     rw [hx] at hs ha
     cases b with
     | false => cases hs
     | true => exact ihl (fun a h => hl a (List.mem_cons_of_mem _ h)) r (ha rfl) hs
  exact this e.args (fun _ h => h) (p + 1) (by omega) h
theorem szX_ge : ∀ e : Ex, ∀ d p, p + 1 <= (szX e d p).2 := by
 refine Ex.ind' fun e ih d p => ?_
 rw [szX_eq]
 split
 ·exact Nat.le_refl _
 ·have : ∀ l : List Ex, (∀ a ∈ l, a ∈ e.args) -> ∀ q, q <= (szL l (d + 1) q).2 := by
   intro l
   induction l with
   | nil => intro _ q; rw [szL]; exact Nat.le_refl _
   | cons a l ihl =>
    intro hl q
    rw [szL]
    have ha := ih a (hl a List.mem_cons_self) (d + 1) q
    cases hx : szX a (d + 1) q with
    | mk b r =>
     rw [hx] at ha
     cases b with
     | false => exact Nat.le_trans (Nat.le_succ _) ha
     | true => exact Nat.le_trans (Nat.le_trans (Nat.le_succ _) ha) (ihl (fun a h => hl a (List.mem_cons_of_mem _ h)) r)
  exact this e.args (fun _ h => h) (p + 1)
theorem fits31 : ∀ e : Ex, ∀ (d p : Nat), p <= 200 -> d <= 25 -> CallQ VS 31 [e.d, .i .i64 (d : Int), .hp 0 0, .hp 1 0] (szH p) (fun r => r = .ret (.b (szX e d p).1) (szH (szX e d p).2)) := by
 refine Ex.ind' fun e ih d p hp hd => ?_
 rw [szX_eq]
 refine .body (vf := v31) fn31 rfl rfl ?_
 have g0 : ∀ q : Nat, (szH q)[0]? = some (.hb 3 [.i .i64 (q : Int)]) := fun _ => rfl
 have g1 : ∀ q : Nat, (szH q)[1]? = some (.hb 94 [.fn (.func 31) [] [.hp 0 0, .hp 1 0]]) := fun _ => rfl
 have s0 : ∀ q x : Nat, (szH q).set 0 (.hb 3 [.i .i64 (x : Int)]) = szH x := fun _ _ => rfl
 obtain ⟨q, hq⟩ : ∃ q, q = p + 1 := ⟨_, rfl⟩
 obtain ⟨k, hk⟩ : ∃ k, k = d + 1 := ⟨_, rfl⟩
 rw [<- hq, <- hk]
 have w1 : IntKind.i64.wrap ((p : Int) + 1) = (q : Int) := by rw [wr (by omega) (by omega)]; omega
 have w2 : IntKind.i64.wrap ((d : Int) + 1) = (k : Int) := by rw [wr (by omega) (by omega)]; omega
 simp only [Ex.d, Ex.row_eq] at ih ⊢
 by_cases c1 : 200 < q
 ·have d1 : (200 : Int) < (q : Int) := by omega
  rw [if_pos (.inl c1)]
  simp (disch := omega) only [go_sem, Nat.reduceAdd, Nat.reduceSub, v31, g0, w1, s0, d1]
 ·have d1 : ¬ (200 : Int) < (q : Int) := by omega
  by_cases c2 : 24 < d
  ·have d2 : (24 : Int) < (d : Int) := by omega
   rw [if_pos (.inr c2)]
   simp (disch := omega) only [go_sem, Nat.reduceAdd, Nat.reduceSub, v31, g0, w1, s0, d1, d2]
  ·have d2 : ¬ (24 : Int) < (d : Int) := by omega
   rw [if_neg (by omega)]
   simp (disch := omega) only [go_sem, Nat.reduceAdd, Nat.reduceSub, v31, g0, w1, s0, d1, d2, e.hsl.n]
   refine Run.up (fun i s => ∃ a6 a7 a12 r, szL e.args k q = szL (e.args.drop i) k r /\ (i <= r /\ r <= 200) /\ s = ⟨[.ag [.i .u8 e.op, .s e.name, .i .u8 e.v.k, .b e.v.f.s, e.v.f.x, .b e.v.f.t, e.v.f.y, .i .i64 e.v.i, e.sl], .i .i64 d, .hp 0 0, .hp 1 0, .b false, .b false, a6, a7, .bx [.i .u8 e.op, .s e.name, .i .u8 e.v.k, .b e.v.f.s, e.v.f.x, .b e.v.f.t, e.v.f.y, .i .i64 e.v.i, e.sl], .i .i64 i, .i .i64 (e.args.length : Int), e.sl, a12], szH r⟩) e.args.length ⟨_, _, _, q, rfl, ⟨by omega, by omega⟩, rfl⟩ ?_
   rintro i s hi ⟨a6, a7, a12, r, hr, ⟨hr1, hr2⟩, rfl⟩
   by_cases hlt : i < e.args.length
   ·have c3 : (i : Int) < (e.args.length : Int) := by omega
    have c0 : (0 : Int) <= (i : Int) := by omega
    obtain ⟨a, ha⟩ : ∃ a, a = e.args[i]! := ⟨_, rfl⟩
    have hmem : a ∈ e.args := by rw [ha, getElem!_pos e.args i hlt]; exact List.getElem_mem _
    have hdr : e.args.drop i = a :: e.args.drop (i + 1) := by rw [ha, getElem!_pos e.args i hlt]; exact List.drop_eq_getElem_cons hlt
    rw [hdr, szL] at hr
    have h1 := fun {K} => CallQ_det (ih a hmem k r hr2 (by omega)) (K := K)
    have h2 := szX_le a k r hr2
    have h3 := szX_ge a k r
    simp (disch := omega) only [go_sem, Nat.reduceAdd, v31l0, e.hsl.q, c0, c3, Int.toNat_natCast, <- ha, Ex.row_eq, g1, w2]
    rw [CalQ_f (by decide)]
    simp only [List.nil_append, List.cons_append]
    rw [h1]
    cases hx : szX a k r with
    | mk b t =>
     rw [hx] at hr h2 h3
     cases b with
     | false =>
      rw [hr]
      simp (disch := omega) only [go_sem]
     | true =>
      simp (disch := omega) only [go_sem, wr]
      exact ⟨hlt, _, _, _, t, hr, ⟨by show i + 1 <= t; have : r + 1 <= t := h3; omega, h2 rfl⟩, ⟨rfl, rfl, rfl⟩, rfl⟩
   ·have c3 : ¬ (i : Int) < (e.args.length : Int) := by omega
    rw [List.drop_eq_nil_of_le (by omega), szL] at hr
    rw [hr]
    simp (disch := omega) only [go_sem, v31l0, c3]
theorem sized_q (e : Ex) : PRet VS 21 [e.d] (.b (sized e)) := by
 have h1 := fun {K} => CallQ_det (fits31 e 1 0 (by omega) (by omega)) (K := K)
 have g1 : (szH 0)[1]? = some (.hb 94 [.fn (.func 31) [] [.hp 0 0, .hp 1 0]]) := rfl
 refine .body (vf := v21) fn21 rfl ?_
 have hH : [Blk.hb 3 [.i .i64 0], .hb 94 [.fn (.func 31) [] [.hp 0 0, .hp 1 0]]] = szH 0 := rfl
 simp only [Ex.d, Ex.row_eq] at h1 ⊢
 simp (disch := omega) only [go_sem, Nat.reduceAdd, Nat.reduceSub, v21, hH, g1]
 rw [CalQ_f (by decide)]
 simp only [List.nil_append, List.cons_append]
 refine h1.2 ?_
 simp (disch := omega) only [go_sem]
 rfl
open Go.Dm
theorem RF.same_c (a b : RF) {H : Heap} {K : CR -> Prop} : CallQ VS 78 [a.d, b.d] H K ↔ K (.ret (.b (a.eq b)) H) :=
 (fsame_q a b).c (vf := v78) fn78 rfl (by simp [a.pl, b.pl]) (.inl rfl)
def RF.zero (a : RF) : Bool := a.eq default
theorem RF.zero_c (a : RF) {H : Heap} {K : CR -> Prop} : CallQ VS 78 [.ag [.b a.s, a.x, .b a.t, a.y], .ag [.b false, .nil, .b false, .nil]] H K ↔ K (.ret (.b a.zero) H) := RF.same_c a default
theorem RF.vc (a : RF) {H : Heap} {K : CR -> Prop} : CallQ VS 77 [.ag [.b a.s, a.x, .b a.t, a.y]] H K ↔ K (.ret (.b a.v) H) := a.valid_c
def Vl.valid (v : Vl) : Bool :=
 if v.k = 2 \/ v.k = 3 then decide (v.i = 0) && v.f.v
 else if v.k = 1 then v.f.zero && decide (0 <= v.i /\ v.i <= 1)
 else if v.k = 4 then v.f.zero && decide (0 <= v.i /\ v.i < 65536)
 else if v.k = 5 \/ v.k = 6 then v.f.zero && decide (-1048576 <= v.i /\ v.i <= 1048576)
 else false
theorem tvalid_q (v : Vl) : PRet VS 51 [v.d] (.b v.valid) := by
  have e1 := fun {H K} => v.f.vc (H := H) (K := K)
  have e2 := fun {H K} => v.f.zero_c (H := H) (K := K)
  refine .body (vf := v51) fn51 rfl ?_
  unfold Vl.valid
  simp only [Vl.d, Vl.cells]
  by_cases k2 : v.k = 2
  · by_cases c : v.i = 0 <;> simp (disch := omega) only [go_sem, Nat.reduceAdd, Nat.reduceSub, Nat.reduceLeDiff, Nat.reduceEqDiff, Int.reduceLE, Int.reduceLT, Int.reduceNeg, v51, e1, k2, c, true_or, Bool.true_and, Bool.false_and]
  by_cases k3 : v.k = 3
  · by_cases c : v.i = 0 <;> simp (disch := omega) only [go_sem, Nat.reduceAdd, Nat.reduceSub, Nat.reduceLeDiff, Nat.reduceEqDiff, Int.reduceLE, Int.reduceLT, Int.reduceEq, Int.reduceNeg, v51, e1, k3, c, or_true, Bool.true_and, Bool.false_and]
  have n2 : ¬ (v.k : Int) = 2 := by omega
  have n3 : ¬ (v.k : Int) = 3 := by omega
  rw [if_neg (by omega)]
  by_cases k1 : v.k = 1
  · cases hz : v.f.zero with
    | false => rw [hz] at e2; simp (disch := omega) only [go_sem, Nat.reduceAdd, Nat.reduceSub, Nat.reduceLeDiff, Nat.reduceEqDiff, Int.reduceEq, Int.reduceNeg, v51, e2, k1, Bool.false_and]
    | true =>
      rw [hz] at e2
      by_cases c : 0 <= v.i
      · simp (disch := omega) only [go_sem, Nat.reduceAdd, Nat.reduceSub, Nat.reduceLeDiff, Nat.reduceEqDiff, Int.reduceEq, Int.reduceNeg, v51, e2, k1, c, Bool.true_and]
      · simp (disch := omega) only [go_sem, Nat.reduceAdd, Nat.reduceSub, Nat.reduceLeDiff, Nat.reduceEqDiff, Int.reduceEq, Int.reduceNeg, v51, e2, k1, c, Bool.true_and, false_and]
  have n1 : ¬ (v.k : Int) = 1 := by omega
  rw [if_neg k1]
  by_cases k4 : v.k = 4
  · cases hz : v.f.zero with
    | false => rw [hz] at e2; simp (disch := omega) only [go_sem, Nat.reduceAdd, Nat.reduceSub, Nat.reduceLeDiff, Nat.reduceEqDiff, Int.reduceEq, Int.reduceNeg, v51, e2, k4, Bool.false_and]
    | true =>
      rw [hz] at e2
      by_cases c : 0 <= v.i
      · simp (disch := omega) only [go_sem, Nat.reduceAdd, Nat.reduceSub, Nat.reduceLeDiff, Nat.reduceEqDiff, Int.reduceEq, Int.reduceNeg, v51, e2, k4, c, Bool.true_and]
      · simp (disch := omega) only [go_sem, Nat.reduceAdd, Nat.reduceSub, Nat.reduceLeDiff, Nat.reduceEqDiff, Int.reduceEq, Int.reduceNeg, v51, e2, k4, c, Bool.true_and, false_and]
  have n4 : ¬ (v.k : Int) = 4 := by omega
  rw [if_neg k4]
  have go56 : (v.k = 5 \/ v.k = 6) -> Run VS v51.body ⟨[.ag [.i .u8 v.k, .b v.f.s, v.f.x, .b v.f.t, v.f.y, .i .i64 v.i]] ++ uu (v51.nsl - v51.npar), []⟩ (ResQ v51.res (PurK v51.own (· = .ret (.b (v.f.zero && decide (-1048576 <= v.i /\ v.i <= 1048576)))))) := by
    intro hk
    cases hz : v.f.zero with
    | false =>
      rw [hz] at e2
      rcases hk with k | k <;> simp (disch := omega) only [go_sem, Nat.reduceAdd, Nat.reduceSub, Nat.reduceLeDiff, Int.reduceEq, Int.reduceNeg, v51, e2, k, Bool.false_and]
    | true =>
      rw [hz] at e2
      by_cases c : -1048576 <= v.i
      · rcases hk with k | k <;> simp (disch := omega) only [go_sem, Nat.reduceAdd, Nat.reduceSub, Nat.reduceLeDiff, Int.reduceEq, Int.reduceNeg, v51, e2, k, c, Bool.true_and]
      · rcases hk with k | k <;> simp (disch := omega) only [go_sem, Nat.reduceAdd, Nat.reduceSub, Nat.reduceLeDiff, Int.reduceEq, Int.reduceNeg, v51, e2, k, c, Bool.true_and, false_and]
  by_cases k5 : v.k = 5 \/ v.k = 6
  · rw [if_pos k5]; exact go56 k5
  · have n5 : ¬ (v.k : Int) = 5 := by omega
    have n6 : ¬ (v.k : Int) = 6 := by omega
    rw [if_neg k5]
    simp (disch := omega) only [go_sem, Nat.reduceAdd, Nat.reduceSub, Nat.reduceLeDiff, Int.reduceNeg, v51, n1, n2, n3, n4, n5, n6]
open Go.Dm
structure NV where
 k : Nat
 n : Int
 m : Nat
 i : Int
 deriving DecidableEq
instance : Inhabited NV := ⟨⟨0, 0, 0, 0⟩⟩
structure VD (v : NV) (d : D) : Prop where
 h : ∃ x y, d = .ag [.i .u8 v.k, .b (decide (v.n < 0)), x, .b false, y, .i .i64 v.i] /\ W16 v.n.natAbs x /\ W16 v.m y
structure NV.ok (v : NV) : Prop where
 k : 1 <= v.k /\ v.k <= 6
 f : v.k = 2 \/ v.k = 3 -> Low v.n v.m /\ v.i = 0
 o : ¬ (v.k = 2 \/ v.k = 3) -> v.n = 0 /\ v.m = 0
 t : v.k = 1 -> 0 <= v.i /\ v.i <= 1
 d : v.k = 4 -> 0 <= v.i /\ v.i < 65536
 c : v.k = 5 \/ v.k = 6 -> -1048576 <= v.i /\ v.i <= 1048576
theorem VD.pl {v : NV} {d : D} (h : VD v d) : d.plain = true := by
 obtain ⟨x, y, rfl, a, b⟩ := h.h
 simp [plain_ag, flat_i, flat_b, a.sl.flat, b.sl.flat]
theorem NV.ok.rng {v : NV} (h : v.ok) : -1048576 <= v.i /\ v.i <= 1048576 := by
 by_cases h1 : v.k = 2 \/ v.k = 3
 ·have := (h.f h1).2; omega
 by_cases h2 : v.k = 1
 ·have := h.t h2; omega
 by_cases h3 : v.k = 4
 ·have := h.d h3; omega
 have := h.k
 exact h.c (by omega)
theorem w16_zero {x : D} (h : Sl 1 [] x) : W16 0 x := ⟨by rw [ds_zero]; exact h⟩
def Vl.nv (v : Vl) : NV := ⟨v.k, wval v.f.s v.f.l, vl 65536 v.f.m, v.i⟩
theorem RF.zero_n {f : RF} (h : f.zero = true) : f.s = false /\ f.l = [] /\ f.t = false /\ f.m = [] := by
 unfold RF.zero RF.eq at h
 simp only [Bool.and_eq_true, beq_iff_eq, decide_eq_true_eq] at h
 obtain ⟨⟨h1, h2⟩, h3, h4⟩ := h
 exact ⟨h1, h2, h3, h4⟩
theorem Vl.nv_ok {v : Vl} (h : v.valid = true) : VD v.nv v.d /\ v.nv.ok := by
 have zer : v.f.zero = true -> ¬ (v.k = 2 \/ v.k = 3) -> VD v.nv v.d /\ v.nv.n = 0 /\ v.nv.m = 0 := fun hz _ => by
  obtain ⟨h1, h2, h3, h4⟩ := RF.zero_n hz
  have e1 : v.nv.n = 0 := by show wval v.f.s v.f.l = 0; rw [h1, h2]; rfl
  have e2 : v.nv.m = 0 := by show vl 65536 v.f.m = 0; rw [h4]; rfl
  have hx := v.f.hx
  have hy := v.f.hy
  rw [h2] at hx
  rw [h4] at hy
  refine ⟨⟨v.f.x, v.f.y, ?_, ?_, ?_⟩, e1, e2⟩
  ·rw [e1]; simp only [Vl.d, Vl.cells, Vl.nv, h1, h3]; rfl
  ·rw [e1]; exact w16_zero hx
  ·rw [e2]; exact w16_zero hy
 unfold Vl.valid at h
 split at h
 ·rename_i hk
  simp only [Bool.and_eq_true, decide_eq_true_eq] at h
  obtain ⟨hi, hv⟩ := h
  obtain ⟨h1, h2⟩ := v.f.fr hv
  obtain ⟨x, y, e, hx, hy⟩ := h1.h
  simp only [RF.d, RF.cells, D.ag.injEq, List.cons.injEq, and_true] at e
  obtain ⟨e1, e2, e3, e4⟩ := e
  subst e2 e4
  refine ⟨⟨v.f.x, v.f.y, ?_, hx, hy⟩, ⟨?_, fun _ => ⟨h2, hi⟩, fun hn => (hn hk).elim, fun hn => ?_, fun hn => ?_, fun hn => ?_⟩⟩
  ·simp only [Vl.d, Vl.cells, Vl.nv, e1, e3]; rfl
  ·show 1 <= v.k /\ v.k <= 6; omega
  all_goals (have hn : v.nv.k = v.k := rfl; omega)
 rename_i hk
 have hnk : v.nv.k = v.k := rfl
 split at h
 ·rename_i h1
  simp only [Bool.and_eq_true, decide_eq_true_eq] at h
  obtain ⟨a, b, c⟩ := zer h.1 hk
  exact ⟨a, ⟨by omega, fun hn => (hk hn).elim, fun _ => ⟨b, c⟩, fun _ => h.2, fun hn => by omega, fun hn => by omega⟩⟩
 split at h
 ·rename_i h1 h2
  simp only [Bool.and_eq_true, decide_eq_true_eq] at h
  obtain ⟨a, b, c⟩ := zer h.1 hk
  exact ⟨a, ⟨by omega, fun hn => (hk hn).elim, fun _ => ⟨b, c⟩, fun hn => by omega, fun _ => h.2, fun hn => by omega⟩⟩
 split at h
 ·rename_i h1 h2 h3
  simp only [Bool.and_eq_true, decide_eq_true_eq] at h
  obtain ⟨a, b, c⟩ := zer h.1 hk
  exact ⟨a, ⟨by omega, fun hn => (hk hn).elim, fun _ => ⟨b, c⟩, fun hn => by omega, fun hn => by omega, fun _ => h.2⟩⟩
 ·cases h
theorem VD.vl {v : NV} {d : D} (h : VD v d) (ho : v.ok) : ∃ a : Vl, a.d = d /\ a.k = v.k /\ a.i = v.i /\ a.f.s = decide (v.n < 0) /\ a.f.l = ds 65536 v.n.natAbs /\ a.f.t = false /\ a.f.m = ds 65536 v.m := by
 obtain ⟨x, y, rfl, a, b⟩ := h.h
 have hb : (ds 65536 v.n.natAbs).length < 70368744177665 /\ (ds 65536 v.m).length < 70368744177665 := by
  by_cases hk : v.k = 2 \/ v.k = 3
  ·have := (ho.f hk).1
   exact ⟨cap_c16 this.bn (by omega), cap_c16 this.bm (by omega)⟩
  ·obtain ⟨e1, e2⟩ := ho.o hk
   rw [e1, e2, show (0 : Int).natAbs = 0 from rfl, ds_zero]
   exact ⟨by simp, by simp⟩
 exact ⟨⟨v.k, ⟨decide (v.n < 0), x, false, y, ds 65536 v.n.natAbs, ds 65536 v.m, a.sl, b.sl, lm_ds h16 _, lm_ds h16 _, hb.1, hb.2⟩, v.i⟩, rfl, rfl, rfl, rfl, rfl, rfl, rfl⟩
theorem ds_inj {a b : Nat} : ds 65536 a = ds 65536 b ↔ a = b := ⟨fun h => by rw [<- vl_ds h16 a, h, vl_ds h16], fun h => by rw [h]⟩
theorem frac_inj {a b : Int} {c e : Nat} : (((decide (a < 0) == decide (b < 0)) && decide (ds 65536 a.natAbs = ds 65536 b.natAbs)) && ((false == false) && decide (ds 65536 c = ds 65536 e))) = decide (a = b /\ c = e) := by
 simp only [ds_inj]
 by_cases h1 : a = b
 ·subst h1
  by_cases h2 : c = e <;> simp [h2]
 ·have : ¬ ((decide (a < 0) = decide (b < 0)) /\ a.natAbs = b.natAbs) := fun ⟨x, y⟩ => by
   simp only [decide_eq_decide] at x
   omega
  simp only [h1, false_and, decide_false, Bool.and_eq_false_iff, beq_eq_false_iff_ne, ne_eq, decide_eq_false_iff_not]
  by_cases hx : decide (a < 0) = decide (b < 0)
  ·exact .inl (.inr fun y => this ⟨hx, y⟩)
  ·exact .inl (.inl hx)
theorem same13 {v w : NV} {d e : D} (h1 : VD v d) (h2 : VD w e) (o1 : v.ok) (o2 : w.ok) : PRet VS 13 [d, e] (.b (decide (v = w))) := by
 obtain ⟨a, rfl, a1, a2, a3, a4, a5, a6⟩ := h1.vl o1
 obtain ⟨b, rfl, b1, b2, b3, b4, b5, b6⟩ := h2.vl o2
 have := samevalue_q a b
 have e : a.eq b = decide (v = w) := by
  unfold Vl.eq RF.eq
  rw [a1, a2, a3, a4, a5, a6, b1, b2, b3, b4, b5, b6, frac_inj, Bool.eq_iff_iff]
  obtain ⟨k, n, m, i⟩ := v
  obtain ⟨k', n', m', i'⟩ := w
  simp only [Bool.and_eq_true, decide_eq_true_eq, NV.mk.injEq]
  exact ⟨fun ⟨⟨x, y, z⟩, t⟩ => ⟨x, y, z, t⟩, fun ⟨x, y, z, t⟩ => ⟨⟨x, y, z⟩, t⟩⟩
 rw [e] at this
 exact this
def failD (e : Int) : D := .ifc 131 (.ag [.i .i64 e])
def PPan (V : VProg) (f : FuncId) (ds : List D) (p : D) : Prop := PurQ V f ds (· = .pan p)
theorem PPan.c {V : VProg} {f : FuncId} {vf : VFunc} {ds : List D} {p : D} {H : Heap} {K : CR -> Prop} (h : PPan V f ds p) (hf : V.fn f = some vf) (hp : vf.pure = true) (ho : vf.own = false) (ha : ds.all D.plain = true) : CallQ V f ds H K ↔ K (.pan p H) :=
 CallQ_det (CallQ.pl hf hp ho ha (h.mono fun r hr => by subst hr; rfl))
inductive NR where
 | ok (v : NV)
 | er (e : Int)
def AnsP : NR -> PR -> Prop
 | .ok v, .ret d => VD v d /\ v.ok
 | .er e, .pan d => d = failD e
 | _, _ => False
@[go_sem] theorem AnsP_ok {v : NV} {d : D} : AnsP (.ok v) (.ret d) ↔ VD v d /\ v.ok := Iff.rfl
@[go_sem] theorem AnsP_er {e : Int} {d : D} : AnsP (.er e) (.pan d) ↔ d = failD e := Iff.rfl
theorem VD.cells {v : NV} {d : D} (h : VD v d) : ∃ s x t y, d = .ag [.i .u8 v.k, s, x, t, y, .i .i64 v.i] /\ s.flat = true /\ x.flat = true /\ t.flat = true /\ y.flat = true := by
 obtain ⟨x, y, rfl, a, b⟩ := h.h
 exact ⟨_, _, _, _, rfl, rfl, a.sl.flat, rfl, b.sl.flat⟩
theorem CallQ.ans {f : FuncId} {vf : VFunc} {ds : List D} {nr : NR} {H : Heap} {K : CR -> Prop} (h : PurQ VS f ds (AnsP nr)) (hf : VS.fn f = some vf) (hp : vf.pure = true) (ho : vf.own = false) (ha : ds.all D.plain = true)
  (h1 : ∀ v s x t y, nr = .ok v -> s.flat = true -> x.flat = true -> t.flat = true -> y.flat = true -> VD v (.ag [.i .u8 v.k, s, x, t, y, .i .i64 v.i]) -> v.ok -> K (.ret (.ag [.i .u8 v.k, s, x, t, y, .i .i64 v.i]) H)) (h2 : ∀ e, nr = .er e -> K (.pan (failD e) H)) : CallQ VS f ds H K := by
 refine CallQ.pl hf hp ho ha (h.mono fun r hr => ?_)
 cases nr with
 | ok v =>
  cases r with
  | ret d =>
   obtain ⟨s, x, t, y, rfl, a, b, c, e⟩ := hr.1.cells
   exact h1 v s x t y rfl a b c e hr.1 hr.2
  | pan d => exact hr.elim
  | bad => exact hr.elim
 | er e =>
  cases r with
  | ret d => exact hr.elim
  | pan d => rw [show d = failD e from hr]; exact h2 e rfl
  | bad => exact hr.elim
@[go_sem] theorem fail_fz {e : Int} {H : Heap} : Dm.freeze 12 H (failD e) = some (failD e, H) := rfl
@[go_sem] theorem pan_fz {e : Int} {H : Heap} {p : D} : (∃ d', (∃ x, (failD e, H) = (d', x)) /\ PR.pan d' = PR.pan p) ↔ failD e = p :=
 ⟨fun ⟨_, ⟨_, h1⟩, h2⟩ => by cases h1; cases h2; rfl, fun h => ⟨_, ⟨_, rfl⟩, by rw [h]⟩⟩
@[go_sem] theorem ex_pr {d : D} {H : Heap} : (∃ x, (d, H) = (d, x)) ↔ True := ⟨fun _ => trivial, fun _ => ⟨_, rfl⟩⟩
theorem fail_q {e : Int} : PPan VS 38 [.i .i64 e] (failD e) := by
 refine .body (vf := v38) fn38 rfl ?_
 simp (disch := omega) only [go_sem, Nat.reduceAdd, Nat.reduceSub, v38]
 exact ⟨_, ⟨_, rfl⟩, rfl⟩
theorem fail_c {e : Int} {H : Heap} {K : CR -> Prop} : CallQ VS 38 [.i .i64 e] H K ↔ K (.pan (failD e) H) := fail_q.c fn38 rfl rfl rfl
theorem must0_c {H : Heap} {K : CR -> Prop} : CallQ VS 59 [.i .i64 0] H K ↔ K (.ret (.tu []) H) := by
 refine PRet.c (.body (vf := v59) fn59 rfl ?_) fn59 rfl rfl (.inl rfl)
 simp (disch := omega) only [go_sem, Nat.reduceSub, v59]
theorem must_c {e : Int} (h : e ≠ 0) {H : Heap} {K : CR -> Prop} : CallQ VS 59 [.i .i64 e] H K ↔ K (.pan (failD e) H) := by
 have e1 := fun {H K} => fail_c (e := e) (H := H) (K := K)
 refine PPan.c (.body (vf := v59) fn59 rfl ?_) fn59 rfl rfl rfl
 simp (disch := omega) only [go_sem, Nat.reduceSub, v59, h, e1]
def truthN (b : Bool) : NV := ⟨1, 0, 0, if b then 1 else 0⟩
def truthD (b : Bool) : D := .ag [.i .u8 1, .b false, .nil, .b false, .nil, .i .i64 (if b then 1 else 0)]
theorem truth_vd (b : Bool) : VD (truthN b) (truthD b) /\ (truthN b).ok :=
 ⟨⟨.nil, .nil, rfl, w16_zero (.nil rfl), w16_zero (.nil rfl)⟩, ⟨⟨Nat.le_refl 1, by show 1 <= 6; decide⟩, fun h => (by have : (truthN b).k = 1 := rfl; omega), fun _ => ⟨rfl, rfl⟩, fun _ => (by cases b <;> decide), fun h => (by cases h), fun h => (by have : (truthN b).k = 1 := rfl; omega)⟩⟩
theorem truth_q (b : Bool) : PRet VS 39 [.b b] (truthD b) := by
 refine .body (vf := v39) fn39 rfl ?_
 cases b <;> simp (disch := omega) only [go_sem, Nat.reduceAdd, Nat.reduceSub, Nat.reduceLeDiff, v39] <;> rfl
theorem truth_c {b : Bool} {H : Heap} {K : CR -> Prop} : CallQ VS 39 [.b b] H K ↔ K (.ret (truthD b) H) := (truth_q b).c fn39 rfl rfl (.inl rfl)
def dateN (n : Int) : NR := if n < 0 \/ 65536 <= n then .er 30 else .ok ⟨4, 0, 0, n⟩
theorem NV.plain_ok {k : Nat} {n : Int} (hk : k = 4 \/ k = 5 \/ k = 6) (h4 : k = 4 -> 0 <= n /\ n < 65536) (h5 : k ≠ 4 -> -1048576 <= n /\ n <= 1048576) : VD ⟨k, 0, 0, n⟩ (.ag [.i .u8 k, .b false, .nil, .b false, .nil, .i .i64 n]) /\ (⟨k, 0, 0, n⟩ : NV).ok :=
 ⟨⟨.nil, .nil, rfl, w16_zero (.nil rfl), w16_zero (.nil rfl)⟩, ⟨by simp only; omega, fun h => (by simp only at h; omega), fun _ => ⟨rfl, rfl⟩, fun h => (by simp only at h; omega), fun h => h4 h, fun h => h5 (by simp only at h; omega)⟩⟩
theorem date_q {n : Int} : PurQ VS 64 [.i .i64 n] (AnsP (dateN n)) := by
 unfold dateN
 have e1 := fun {H K} => fail_c (e := 30) (H := H) (K := K)
 by_cases h1 : n < 0
 ·rw [if_pos (.inl h1)]
  refine PurQ.body (vf := v64) fn64 rfl ?_
  simp (disch := omega) only [go_sem, Nat.reduceSub, v64, h1, e1]
 by_cases h2 : 65536 <= n
 ·rw [if_pos (.inr h2)]
  refine PurQ.body (vf := v64) fn64 rfl ?_
  simp (disch := omega) only [go_sem, Nat.reduceSub, v64, h1, h2, e1]
 rw [if_neg (by omega)]
 refine PurQ.body (vf := v64) fn64 rfl ?_
 simp (disch := omega) only [go_sem, Nat.reduceAdd, Nat.reduceSub, Nat.reduceLeDiff, v64, h1, h2]
 exact NV.plain_ok (.inl rfl) (fun _ => by omega) (fun h => (h rfl).elim)
end Go.Proofs.YtdpnanafhabkiaaGreatDoor.Dv
