/-
  state.Make over the machine.
-/
import Derived.Test.YtnhbopeopppojaaDoorTg
import Derived.Test.YtnhbopeopppojaaDoorSi
namespace Go.Proofs.YtnhbopeopppojaaDoor.Dv
open Go.Dm Go.Proofs

def lnOf (l : Led) (m : Int) : Ln := ⟨m, l.due[(m - l.st).toNat]!, postedL l m, l.due[(m - l.st).toNat]! - postedL l m⟩
/-- The lines of i months from a month on. -/
def pl (l : Led) (a : Int) : Nat → List Ln
  | 0 => []
  | i + 1 => pl l a i ++ [lnOf l (a + i)]
theorem pl_len {l : Led} {a : Int} : ∀ i : Nat, (pl l a i).length = i
  | 0 => rfl
  | i + 1 => by rw [pl, List.length_append, pl_len i]; rfl
def yFrom (l : Led) (y : Int) : Int := max (12 * (y - 1900)) l.st
def yTo (l : Led) (y : Int) : Int := min (12 * (y - 1900) + 12) (l.st + l.due.length)
def yN (l : Led) (y : Int) : Nat := (yTo l y - yFrom l y).toNat
/-- Slips of a year. -/
def inY (y : Int) (x : Sp) : Bool := !x.gone && decide (yOf x.m = y)
def slY (s : RSt) (y : Int) : List Sp := s.sl.filter (inY y)
def fTo (s : RSt) (y : Int) (i : Nat) : List Sp := (s.sl.take i).filter (inY y)
theorem fTo_len {s : RSt} {y : Int} {i : Nat} : (fTo s y i).length ≤ i := Nat.le_trans (List.length_filter_le _ _) (by simp; omega)
theorem fTo_succ {s : RSt} {y : Int} {i : Nat} (h : i < s.sl.length) : fTo s y (i + 1) = fTo s y i ++ (if inY y s.sl[i]! = true then [s.sl[i]!] else []) := by
  unfold fTo
  rw [List.take_succ_eq_append_getElem h, List.filter_append, getElem!_pos s.sl i h]
  congr 1
  by_cases hc : inY y s.sl[i] = true <;> simp [hc]
theorem fTo_no {s : RSt} {y : Int} {i : Nat} (h : i < s.sl.length) (hn : inY y s.sl[i]! = false) : fTo s y (i + 1) = fTo s y i := by rw [fTo_succ h, hn]; simp
theorem fTo_yes {s : RSt} {y : Int} {i : Nat} (h : i < s.sl.length) (hn : inY y s.sl[i]! = true) : fTo s y (i + 1) = fTo s y i ++ [s.sl[i]!] := by rw [fTo_succ h, hn]; rfl
theorem fTo_all {s : RSt} {y : Int} : fTo s y s.sl.length = slY s y := by unfold fTo slY; rw [List.take_length]
def suml (w : Sp → Int) (l : List Sp) : Int := sw w l l.length
def makeS (s : RSt) (y : Int) : Stm := ⟨y, balL s.l (12 * (y - 1900)), balL s.l (12 * (y - 1900) + 12), pl s.l (yFrom s.l y) (yN s.l y), suml (·.g) (slY s y), suml (·.x) (slY s y), suml (·.g) (slY s y) - suml (·.x) (slY s y), suml (itr s.l) (slY s y)⟩
def makeD (s : RSt) (y : Int) : D := if validR s && isY y then .tu [stD (makeS s y) (imD .nil 4 ((makeS s y).ls.map lnR)), .i .i64 0] else .tu [stD zS .nil, .i .i64 2]
theorem bH2_g0 {b : Blk} {H0 : Heap} {w w' : Nat} {r r' : List (List D)} : (bH (bH (b :: H0) w r) w' r')[0]? = some b := by
  cases r <;> cases r' <;> rfl
theorem frz_two {H0 : Heap} {w w' : Nat} {r r' : List (List D)} : ∃ H1, ∀ m, Dm.freeze (m + 1) (bH (bH H0 w r) w' r') (bD H0 .nil r) = some (imD .nil w r, H1) := by
  cases r with
  | nil => exact ⟨_, fun _ => rfl⟩
  | cons a us =>
    cases r' with
    | nil => exact ⟨bL H0 w (a :: us), fun _ => bD_fe (H0 := H0) (w := w) (rows := a :: us)⟩
    | cons b bs =>
      refine ⟨((H0 ++ [Blk.ar w (a :: us) none true false]) ++ [Blk.ar w' (b :: bs) none true false]).set H0.length (Blk.ar w (a :: us) none true true), fun m => ?_⟩
      have : arr ((H0 ++ [.ar w (a :: us) none true false]) ++ [.ar w' (b :: bs) none true false]) H0.length (a :: us).length = some (w, a :: us, none, true, false) := by
        simp [arr]
      simp only [bD, bH, fz_mu, imD]
      rw [this]
      simp [fzM, List.take_of_length_le]
/-- The year's numbers. -/
structure YrR (y : Int) : Prop where
  h : 1900 ≤ y ∧ y ≤ 2079
theorem isY_r {y : Int} (h : isY y = true) : YrR y := by
  simp only [isY, Bool.and_eq_true, decide_eq_true_eq] at h
  exact ⟨h⟩
/-- The months of slips are the machine's numbers. -/
structure RngR (s : RSt) : Prop where
  m : ∀ x ∈ s.sl, x.m ≤ 9223372036854775807
  y1 : s.l.due.length < 1099511627776
  y2 : s.sl.length < 1099511627776
set_option maxRecDepth 100000 in
theorem make23 {s : RSt} {d : D} (h : IsR s d) (hr : RngR s) {y : Int} : PRet VS 23 [d, .i .i64 y] (makeD s y) := by
  have e22 := fun {H K} => c22 h hr.y1 hr.y2 (H := H) (K := K)
  obtain ⟨⟨x, yy, zz, rfl, hx, hy, hz⟩⟩ := h
  have hxf := hx.flat
  have hyf := hy.flat
  have hzf := hz.flat
  refine .body (vf := v23) rfl rfl ?_
  by_cases hok : (validR s && isY y) = true
  case neg =>
    have hok' : (validR s && isY y) = false := Bool.eq_false_iff.2 hok
    simp only [rsD] at e22
    simp (disch := omega) only [go_sem, Nat.reduceAdd, Nat.reduceSub, Nat.reduceLeDiff, v23, rsD, e22, makeD, hok', stD, zS]
    cases hv : validR s with
    | false => simp []
    | true =>
      have hq : isY y = false := by rw [hv] at hok'; simpa using hok'
      simp [hq]
  · have hmk : makeD s y = .tu [stD (makeS s y) (imD .nil 4 ((makeS s y).ls.map lnR)), .i .i64 0] := by unfold makeD; rw [hok]; rfl
    rw [hmk]
    simp only [Bool.and_eq_true] at hok
    obtain ⟨hv, hyy⟩ := hok
    have v := validR_v hv
    have hyr := (isY_r hyy).h
    have hst := v.v.r.st
    have hle := v.v.n
    have e26 := fun {b H K} => c26 (isLed_of hx hy) hr.y1 v.l (b := b) (H := H) (K := K)
    have e47 := fun {m H K} (hm : hasL s.l m = true) => c47 (isLed_of hx hy) hr.y1 v.l (m := m) hm (H := H) (K := K)
    simp only [rsD] at e22
    simp only [ledD] at e26 e47
    have hmx : max (12 * (y - 1900)) s.l.st = yFrom s.l y := rfl
    have hmn : min (12 * (y - 1900) + 12) (s.l.st + (s.l.due.length : Int)) = yTo s.l y := rfl
    have hN : yN s.l y ≤ 12 := by unfold yN yTo yFrom; omega
    have hF : 12 * (y - 1900) ≤ yFrom s.l y ∧ s.l.st ≤ yFrom s.l y ∧ yFrom s.l y ≤ 2400 := by unfold yFrom; omega
    have hT : yTo s.l y ≤ s.l.st + s.l.due.length := by unfold yTo; omega
    have hNi : ∀ i : Nat, i < yN s.l y → yFrom s.l y + i < yTo s.l y := fun i hi => by unfold yN at hi; omega
    have hNe : ¬ (yFrom s.l y + yN s.l y < yTo s.l y) := by unfold yN; omega
    simp (disch := omega) only [go_sem, Nat.reduceAdd, Nat.reduceSub, Nat.reduceLeDiff, v23, rsD, e22, hv, hyy, e26, wr, hmx]
    obtain ⟨b0, hb0⟩ : ∃ b0 : Blk, b0 = .hb 30 [.i .i64 s.l.st, x, yy, .i .i64 s.sm, .i .i64 s.sg, .i .i64 s.sx, zz] := ⟨_, rfl⟩
    simp only [← hb0]
    refine Run.up (fun i st => ∃ mo a7 a8 a16 a17 a18, mo = yFrom s.l y + i ∧ st = ⟨[rsD s x yy zz, .i .i64 y, .bx [.i .i64 0, .i .i64 0, .i .i64 0, .nil, .i .i64 0, .i .i64 0, .i .i64 0, .i .i64 0], .i .i64 0, .b false, .b false, .b false, a7, a8, .u, .u, .hp 0 0, .i .i64 0, .i .i64 (12 * (y - 1900)), .bx [.i .i64 y, .i .i64 (balL s.l (12 * (y - 1900))), .i .i64 (balL s.l (12 * (y - 1900) + 12)), bD [b0] .nil ((pl s.l (yFrom s.l y) i).map lnR), .i .i64 0, .i .i64 0, .i .i64 0, .i .i64 0], .i .i64 mo, a16, a17, a18, .u, .u, .u, .u, .u], bH [b0] 4 ((pl s.l (yFrom s.l y) i).map lnR)⟩) (yN s.l y) ⟨_, .u, .u, .u, .u, .u, by omega, rfl⟩ ?_
    rintro i st hi ⟨mo, a7, a8, a16, a17, a18, hmo, rfl⟩
    by_cases hlt : i < yN s.l y
    · have hm : hasL s.l mo = true := by
        have := hNi i hlt
        simp only [hasL, Bool.and_eq_true, decide_eq_true_eq]; omega
      have e47i := fun {H K} => e47 (m := mo) hm (H := H) (K := K)
      have hlt' : decide (mo < yTo s.l y) = true := decide_eq_true (by have := hNi i hlt; omega)
      have hpl := pl_len (l := s.l) (a := yFrom s.l y) i
      have hsn : (pl s.l (yFrom s.l y) i).map lnR ++ [[.i .i64 mo, .i .i64 s.l.due[(mo - s.l.st).toNat]!, .i .i64 (postedL s.l mo), .i .i64 (s.l.due[(mo - s.l.st).toNat]! - postedL s.l mo)]] = (pl s.l (yFrom s.l y) (i + 1)).map lnR := by
        rw [pl, List.map_append, ← hmo]; rfl
      have hpb := posted_b v.v mo
      have hidx : (mo - s.l.st).toNat < s.l.due.length := by
        have := hNi i hlt
        omega
      have hd := v.v.due s.l.due[(mo - s.l.st).toNat]! (by rw [getElem!_pos s.l.due _ hidx]; exact List.getElem_mem _)
      have hi' := hNi i hlt
      rw [hb0]
      simp (disch := omega) only [go_sem, Nat.reduceAdd, Nat.reduceLeDiff, Nat.reduceLT, v23l0, rsD, wr, hlt', hmn, e47i, hx.n, hx.q, iR, app_n, hsn]
      exact ⟨by omega, hlt, by omega⟩
    · have hin : i = yN s.l y := by omega
      subst hin
      have hlt' : decide (mo < yTo s.l y) = false := decide_eq_false (by omega)
      obtain ⟨rows, hrows⟩ : ∃ rows, rows = (pl s.l (yFrom s.l y) (yN s.l y)).map lnR := ⟨_, rfl⟩
      have hb0g : ∀ r, (bH (bH [b0] 4 rows) 10 r)[0]? = some b0 := fun r => bH2_g0
      rw [← hrows]
      obtain ⟨H1, hH1⟩ : ∃ H1, H1 = bH [b0] 4 rows := ⟨_, rfl⟩
      have hg1 : H1[0]? = some b0 := by rw [hH1]; exact bH_g0
      rw [hb0] at hg1
      simp only [← hH1]
      simp (disch := omega) only [go_sem, Nat.reduceAdd, Nat.reduceLeDiff, v23l0, rsD, wr, hlt', hmn, hx.n, hg1, hz.n]
      refine Run.up (fun i st => ∃ a9 a10 a23, st = ⟨[rsD s x yy zz, .i .i64 y, .bx [.i .i64 0, .i .i64 0, .i .i64 0, .nil, .i .i64 0, .i .i64 0, .i .i64 0, .i .i64 0], .i .i64 0, .b false, .b false, .b false, .b false, a8, a9, a10, .hp 0 0, .i .i64 0, .i .i64 (12 * (y - 1900)), .bx [.i .i64 y, .i .i64 (balL s.l (12 * (y - 1900))), .i .i64 (balL s.l (12 * (y - 1900) + 12)), bD [b0] .nil rows, .i .i64 0, .i .i64 0, .i .i64 0, .i .i64 0], .i .i64 mo, a16, a17, a18, bD H1 .nil ((fTo s y i).map spR), .i .i64 i, .i .i64 s.sl.length, zz, a23], bH H1 10 ((fTo s y i).map spR)⟩) s.sl.length ⟨.u, .u, .u, rfl⟩ ?_
      rintro i st hi2 ⟨a9, a10, a23, rfl⟩
      have hsl := v.n
      by_cases hlt2 : i < s.sl.length
      · have hlt2' : decide ((i : Int) < (s.sl.length : Int)) = true := by simpa using hlt2
        have hmem : s.sl[i]! ∈ s.sl := by rw [getElem!_pos s.sl i hlt2]; exact List.getElem_mem _
        have hok := v.s _ hmem
        have hrm := hr.m _ hmem
        have e40 := fun {H K} => c40 (m := s.sl[i]!.m) ⟨hok.m, hrm⟩ (H := H) (K := K)
        have hfl := fTo_len (s := s) (y := y) (i := i)
        by_cases hgo : s.sl[i]!.gone = true
        · have hfs : fTo s y (i + 1) = fTo s y i := fTo_no hlt2 (by simp only [inY, hgo]; rfl)
          simp (disch := omega) only [go_sem, Nat.reduceAdd, v23l1, rsD, hz.q, spR, wr, hlt2', hgo, hfs, hlt2]
          omega
        · have hgo' : s.sl[i]!.gone = false := Bool.eq_false_iff.2 hgo
          by_cases hyo : yOf s.sl[i]!.m = y
          · have hfs : fTo s y (i + 1) = fTo s y i ++ [s.sl[i]!] := fTo_yes hlt2 (by simp only [inY, hgo', hyo]; simp)
            have hsn : (fTo s y i).map spR ++ [[.i .i64 s.sl[i]!.m, .i .i64 s.sl[i]!.dy, .i .i64 s.sl[i]!.f, .i .i64 s.sl[i]!.t, .i .i64 s.sl[i]!.nu, .i .i64 s.sl[i]!.ac, .i .i64 s.sl[i]!.g, .i .i64 s.sl[i]!.x, .i .i64 s.sl[i]!.ne, .b false]] = (fTo s y (i + 1)).map spR := by
              rw [hfs, List.map_append]; simp only [List.map_cons, List.map_nil, spR, hgo']
            have hyo' : decide (yOf s.sl[i]!.m = y) = true := decide_eq_true hyo
            simp (disch := omega) only [go_sem, Nat.reduceAdd, Nat.reduceLeDiff, Nat.reduceLT, v23l1, rsD, hz.q, spR, wr, hlt2', hgo', e40, hyo', app_n, hsn, hlt2]
            omega
          · have hfs : fTo s y (i + 1) = fTo s y i := fTo_no hlt2 (by simp only [inY, hyo]; simp)
            have hyo' : decide (yOf s.sl[i]!.m = y) = false := decide_eq_false hyo
            simp (disch := omega) only [go_sem, Nat.reduceAdd, Nat.reduceLeDiff, v23l1, rsD, hz.q, spR, wr, hlt2', hgo', e40, hyo', hfs, hlt2]
            omega
      · have hin2 : i = s.sl.length := by omega
        subst hin2
        have hlt2' : decide ((s.sl.length : Int) < (s.sl.length : Int)) = false := by simp
        have hmem : ∀ p ∈ slY s y, p ∈ s.sl := fun p hp => (List.mem_filter.1 hp).1
        have hle48 : (slY s y).length ≤ 1200 := Nat.le_trans (List.length_filter_le _ _) v.n
        have e49 := fun {K} => sum48 (l := slY s y) (H0 := H1) hle48 (w := (·.g)) (fun p hp => by have := (v.s p (hmem p hp)).g; omega) (g := 49) (cp := []) (fun p hp K => c49) (K := K)
        have e50 := fun {K} => sum48 (l := slY s y) (H0 := H1) hle48 (w := (·.x)) (fun p hp => by have := (v.s p (hmem p hp)).x; omega) (g := 50) (cp := []) (fun p hp K => c50) (K := K)
        have e51 := fun {K} => sum48 (l := slY s y) (H0 := H1) hle48 (w := itr s.l) (fun p hp => itr_b v.v (v.s p (hmem p hp))) (g := 51) (cp := [.hp 0 0]) (fun p hp K => c51 hy v.v (v.s p (hmem p hp)) (by rw [hH1, hb0g, hb0])) (K := K)
        have bg := sw_b (w := fun p : Sp => p.g) (l := slY s y) (B := 1099511627776) (fun p hp => by have := (v.s p (hmem p hp)).g; omega) _ (Nat.le_refl _)
        have bx := sw_b (w := fun p : Sp => p.x) (l := slY s y) (B := 1099511627776) (fun p hp => by have := (v.s p (hmem p hp)).x; omega) _ (Nat.le_refl _)
        obtain ⟨H9, hfz⟩ := frz_two (H0 := [b0]) (w := 4) (r := rows) (w' := 10) (r' := (slY s y).map spR)
        rw [← hH1] at hfz
        rw [fTo_all]
        simp (disch := omega) only [go_sem, Nat.reduceAdd, Nat.reduceLeDiff, v23l1, rsD, wr, hlt2', e49, e50, e51, hfz, stD, makeS, ← hrows, suml]
end Go.Proofs.YtnhbopeopppojaaDoor.Dv
