/-
  The reference's Make; states made.
-/
import Derived.Test.YtnhbopeopppojaaGreatDoorTc
import Derived.Test.YtnhbopeopppojaaGreatDoorSd
namespace Go.Proofs.YtnhbopeopppojaaGreatDoor.Dv
open Go.Dm Go.Proofs
def rl (l : Led) (f : Int) : Nat → List Ln
  | 0 => []
  | i + 1 => if hasL l (f + i) = true then rl l f i ++ [lnOf l (f + i)] else rl l f i
theorem rl_len {l : Led} {f : Int} : ∀ i : Nat, (rl l f i).length ≤ i
  | 0 => by simp [rl]
  | i + 1 => by
    have := rl_len (l := l) (f := f) i
    rw [rl]
    split
    · rw [List.length_append]; simp only [List.length_singleton]; omega
    · omega
theorem rl_pl {l : Led} {f : Int} : ∀ i : Nat, rl l f i = pl l (max f l.st) (min (f + i) (l.st + l.due.length) - max f l.st).toNat
  | 0 => by
    have : (min (f + (0 : Nat)) (l.st + l.due.length) - max f l.st).toNat = 0 := by omega
    rw [this]; rfl
  | i + 1 => by
    have ih := rl_pl (l := l) (f := f) i
    by_cases c : l.st ≤ f + i ∧ f + i < l.st + l.due.length
    · have hh : hasL l (f + i) = true := by simp only [hasL, Bool.and_eq_true, decide_eq_true_eq]; exact c
      have e : (min (f + ((i + 1 : Nat) : Int)) (l.st + l.due.length) - max f l.st).toNat = (min (f + i) (l.st + l.due.length) - max f l.st).toNat + 1 := by omega
      have e2 : max f l.st + (((min (f + i) (l.st + l.due.length) - max f l.st).toNat : Nat) : Int) = f + i := by omega
      rw [rl, if_pos hh, e, pl, ← ih, e2]
    · have hh : hasL l (f + i) = false := by
        simp only [hasL, Bool.and_eq_false_iff, decide_eq_false_iff_not]; omega
      have e : (min (f + ((i + 1 : Nat) : Int)) (l.st + l.due.length) - max f l.st).toNat = (min (f + i) (l.st + l.due.length) - max f l.st).toNat := by omega
      rw [rl, hh, if_neg (by simp), e, ← ih]
theorem rl_all {l : Led} {y : Int} : rl l (12 * (y - 1900)) 12 = pl l (yFrom l y) (yN l y) := by
  rw [rl_pl]; rfl
theorem sw_app {α : Type} [Inhabited α] {w : α → Int} {A B : List α} : ∀ i : Nat, i ≤ A.length → sw w (A ++ B) i = sw w A i
  | 0, _ => rfl
  | i + 1, h => by
    have e : (A ++ B)[i]! = A[i]! := by
      rw [getElem!_pos (A ++ B) i (by simp; omega), getElem!_pos A i (by omega), List.getElem_append_left]
    rw [sw, sw, sw_app i (by omega), e]
theorem sw_snoc {α : Type} [Inhabited α] {w : α → Int} {A : List α} {x : α} : sw w (A ++ [x]) (A.length + 1) = sw w A A.length + w x := by
  have e : (A ++ [x])[A.length]! = x := by
    rw [getElem!_pos (A ++ [x]) A.length (by simp)]; simp
  rw [sw, sw_app _ (Nat.le_refl _), e]
def rs (w : Sp → Int) (s : RSt) (y : Int) (i : Nat) : Int := sw (fun x => if inY y x = true then w x else 0) s.sl i
theorem rs_eq {w : Sp → Int} {s : RSt} {y : Int} : ∀ i : Nat, i ≤ s.sl.length → suml w (fTo s y i) = rs w s y i
  | 0, _ => by simp [suml, fTo, rs, sw]
  | i + 1, h => by
    have ih := rs_eq (w := w) (s := s) (y := y) i (by omega)
    unfold suml rs at ih ⊢
    rw [sw, ← ih]
    cases hc : inY y s.sl[i]! with
    | true =>
      rw [fTo_yes (by omega) hc, List.length_append]
      simp only [List.length_singleton, if_true]
      exact sw_snoc
    | false =>
      rw [fTo_no (by omega) hc]
      simp
theorem rs_all {w : Sp → Int} {s : RSt} {y : Int} : rs w s y s.sl.length = suml w (slY s y) := by
  rw [← rs_eq _ (Nat.le_refl _), fTo_all]
theorem rs_b {w : Sp → Int} {s : RSt} {y B : Int} (hB : ∀ x ∈ s.sl, -B ≤ w x ∧ w x ≤ B) (h0 : 0 ≤ B) (i : Nat) (hi : i ≤ s.sl.length) : -(B * i) ≤ rs w s y i ∧ rs w s y i ≤ B * i :=
  sw_b (fun x hx => by
    have := hB x hx
    split <;> omega) i hi
theorem rs_yes {w : Sp → Int} {s : RSt} {y : Int} {i : Nat} (h : inY y s.sl[i]! = true) : rs w s y (i + 1) = rs w s y i + w s.sl[i]! := by
  unfold rs; rw [sw, if_pos h]
theorem rs_no {w : Sp → Int} {s : RSt} {y : Int} {i : Nat} (h : inY y s.sl[i]! = false) : rs w s y (i + 1) = rs w s y i := by
  unfold rs; rw [sw, if_neg (by rw [h]; simp)]; omega
theorem diff_b {l : Led} (v : ValL l) {f j : Nat} (h : f + j ≤ l.po.length) : -(1099511627776 * (j : Int)) ≤ sw intr l.po (f + j) - sw intr l.po f ∧ sw intr l.po (f + j) - sw intr l.po f ≤ 1099511627776 * (j : Int) := by
  have e := sw_part (f := intr) (l := l.po) f j j h (Nat.le_refl _)
  rw [← e]
  exact sw_b (fun p hp => intr_b (v.a p (List.mem_of_mem_drop (List.mem_of_mem_take hp)))) j (by rw [List.length_take, List.length_drop]; omega)
def ofY (m y : Int) : Bool := decide (12 * (y - 1900) ≤ m) && decide (m ≤ 12 * (y - 1900) + 11)
theorem c69t {m y : Int} (hy : 1900 ≤ y ∧ y ≤ 2079) {H : Heap} {K : CR → Prop} : CallQ VS 55 [.i .i64 m, .i .i64 y] H K ↔ K (.ret (.b (ofY m y)) H) := by
  have h : PRet VS 55 [.i .i64 m, .i .i64 y] (.b (ofY m y)) := by
    refine .body (vf := v55) rfl rfl ?_
    simp (disch := omega) only [go_sem, Nat.reduceSub, v55, wr, ofY]
    grind
  exact h.c (vf := v55) rfl rfl rfl (.inl rfl)
theorem ofY_eq {m y : Int} (hm : 0 ≤ m) : ofY m y = decide (yOf m = y) := by
  have e : yOf m = 1900 + m / 12 := by unfold yOf; rw [Int.tdiv_eq_ediv_of_nonneg hm]
  rw [e]
  unfold ofY
  by_cases c : 1900 + m / 12 = y
  · rw [decide_eq_true c, decide_eq_true (by omega), decide_eq_true (by omega)]; rfl
  · rw [decide_eq_false c]
    by_cases c1 : 12 * (y - 1900) ≤ m
    · rw [decide_eq_true c1, decide_eq_false (by omega)]; rfl
    · rw [decide_eq_false c1]; rfl
set_option maxRecDepth 100000 in
theorem make28 {s : RSt} {d : D} (h : IsR s d) (hr : RngR s) {y : Int} : PRet VS 44 [d, .i .i64 y] (makeD s y) := by
  have e65 := fun {H K} => c65 h hr.y1 hr.y2 (H := H) (K := K)
  obtain ⟨⟨x, yy, zz, rfl, hx, hy, hz⟩⟩ := h
  have hxf := hx.flat
  have hyf := hy.flat
  have hzf := hz.flat
  refine .body (vf := v44) rfl rfl ?_
  by_cases hok : (validR s && isY y) = true
  case neg =>
    have hok' : (validR s && isY y) = false := Bool.eq_false_iff.2 hok
    simp only [rsD] at e65
    simp (disch := omega) only [go_sem, Nat.reduceAdd, Nat.reduceSub, Nat.reduceLeDiff, v44, rsD, e65, makeD, hok', stD, zS]
    cases hv : validR s with
    | false => simp []
    | true =>
      have hq : isY y = false := by rw [hv] at hok'; simpa using hok'
      simp only [isY, Bool.and_eq_false_iff, decide_eq_false_iff_not] at hq
      grind
  · have hmk : makeD s y = .tu [stD (makeS s y) (imD .nil 4 ((makeS s y).ls.map lnR)), .i .i64 0] := by unfold makeD; rw [hok]; rfl
    rw [hmk]
    simp only [Bool.and_eq_true] at hok
    obtain ⟨hv, hyy⟩ := hok
    have v := validR_v hv
    have hyr := (isY_r hyy).h
    have hst := v.v.r.st
    have hle := v.v.n
    have hpn := v.v.p
    have e66 := fun {b H K} => c66 (isLed_of hx hy) v.v (b := b) (H := H) (K := K)
    have e67 := fun {m H K} => c67 (isLed_of hx hy) v.v.r (m := m) (H := H) (K := K)
    have e68 := fun {m H K} => c68 (isLed_of hx hy) v.v (m := m) (H := H) (K := K)
    simp only [rsD] at e65
    simp only [ledD] at e66 e67 e68
    have y1 : decide (y < 1900) = false := decide_eq_false (by omega)
    have y2 : decide (y > 2079) = false := decide_eq_false (by omega)
    simp (disch := omega) only [go_sem, Nat.reduceAdd, Nat.reduceSub, Nat.reduceLeDiff, v44, rsD, e65, hv, y1, y2, e66, wr]
    refine Run.up (fun i st => ∃ a5 a6 a14 a15, st = ⟨[rsD s x yy zz, .i .i64 y, .bx [.i .i64 0, .i .i64 0, .i .i64 0, .nil, .i .i64 0, .i .i64 0, .i .i64 0, .i .i64 0], .i .i64 0, .b false, a5, a6, .u, .u, .u, .u, .bx [.i .i64 s.l.st, x, yy, .i .i64 s.sm, .i .i64 s.sg, .i .i64 s.sx, zz], .bx [.i .i64 y, .i .i64 (balL s.l (12 * (y - 1900))), .i .i64 (balL s.l (12 * (y - 1900) + 12)), bD [] .nil ((rl s.l (12 * (y - 1900)) i).map lnR), .i .i64 0, .i .i64 0, .i .i64 0, .i .i64 0], .i .i64 (12 * (y - 1900) + i), a14, a15, .u, .u, .u], bH [] 4 ((rl s.l (12 * (y - 1900)) i).map lnR)⟩) 12 ⟨.u, .u, .u, .u, by simp only [Int.cast_ofNat_Int, Int.add_zero]; rfl⟩ ?_
    rintro i st hi ⟨a5, a6, a14, a15, rfl⟩
    by_cases hlt : i < 12
    · have hlt' : decide (12 * (y - 1900) + (i : Int) < 12 * (y - 1900) + 12) = true := decide_eq_true (by omega)
      obtain ⟨mo, hmo⟩ : ∃ mo, mo = 12 * (y - 1900) + (i : Int) := ⟨_, rfl⟩
      have hnx : 12 * (y - 1900) + (((i + 1 : Nat)) : Int) = mo + 1 := by omega
      rw [← hmo] at hlt' ⊢
      rw [hnx]
      have hpl := rl_len (l := s.l) (f := 12 * (y - 1900)) i
      by_cases hm : hasL s.l mo = true
      · have hm2 := hm
        simp only [hasL, Bool.and_eq_true, decide_eq_true_eq] at hm2
        have hpb := posted_b v.v mo
        have hidx : (mo - s.l.st).toNat < s.l.due.length := by omega
        have hd := v.v.due s.l.due[(mo - s.l.st).toNat]! (by rw [getElem!_pos s.l.due _ hidx]; exact List.getElem_mem _)
        have hsn : (rl s.l (12 * (y - 1900)) i).map lnR ++ [[.i .i64 mo, .i .i64 s.l.due[(mo - s.l.st).toNat]!, .i .i64 (postedL s.l mo), .i .i64 (s.l.due[(mo - s.l.st).toNat]! - postedL s.l mo)]] = (rl s.l (12 * (y - 1900)) (i + 1)).map lnR := by
          rw [rl, if_pos (by rw [← hmo]; exact hm), List.map_append, ← hmo]; rfl
        simp (disch := omega) only [go_sem, Nat.reduceAdd, Nat.reduceLeDiff, Nat.reduceLT, v44l0, rsD, wr, hlt', e67, hm, e68, hx.q, iR, app_n, hsn]
        omega
      · have hm' : hasL s.l mo = false := Bool.eq_false_iff.2 hm
        have hrl : rl s.l (12 * (y - 1900)) (i + 1) = rl s.l (12 * (y - 1900)) i := by
          rw [rl, if_neg (by rw [← hmo]; exact hm)]
        rw [hrl]
        simp (disch := omega) only [go_sem, Nat.reduceAdd, Nat.reduceLeDiff, v44l0, rsD, wr, hlt', e67, hm']
        omega
    · have hin : i = 12 := by omega
      subst hin
      have hlt' : decide (12 * (y - 1900) + ((12 : Nat) : Int) < 12 * (y - 1900) + 12) = false := decide_eq_false (by omega)
      have hls : rl s.l (12 * (y - 1900)) 12 = (makeS s y).ls := rl_all
      rw [hls]
      obtain ⟨mo, hmo⟩ : ∃ mo, mo = 12 * (y - 1900) + ((12 : Nat) : Int) := ⟨_, rfl⟩
      rw [← hmo] at hlt' ⊢
      obtain ⟨rows, hrows⟩ : ∃ rows, rows = (makeS s y).ls.map lnR := ⟨_, rfl⟩
      simp only [← hrows]
      simp (disch := omega) only [go_sem, Nat.reduceAdd, Nat.reduceLT, v44l0, rsD, wr, hlt']
      refine Run.up (fun i st => ∃ a7 a8 a9 a10 a17 a18, st = ⟨[rsD s x yy zz, .i .i64 y, .bx [.i .i64 0, .i .i64 0, .i .i64 0, .nil, .i .i64 0, .i .i64 0, .i .i64 0, .i .i64 0], .i .i64 0, .b false, .b false, a6, a7, a8, a9, a10, .bx [.i .i64 s.l.st, x, yy, .i .i64 s.sm, .i .i64 s.sg, .i .i64 s.sx, zz], .bx [.i .i64 y, .i .i64 (balL s.l (12 * (y - 1900))), .i .i64 (balL s.l (12 * (y - 1900) + 12)), bD [] .nil rows, .i .i64 (rs (·.g) s y i), .i .i64 (rs (·.x) s y i), .i .i64 0, .i .i64 (rs (itr s.l) s y i)], .i .i64 mo, a14, a15, .i .i64 i, a17, a18], bH [] 4 rows⟩) s.sl.length ⟨.u, .u, .u, .u, .u, .u, rfl⟩ ?_
      rintro i st hi2 ⟨a7, a8, a9, a10, a17, a18, rfl⟩
      have hsl := v.n
      have bg := fun i hi => rs_b (w := (·.g)) (s := s) (y := y) (B := 1099511627776) (fun x hx => by have := (v.s x hx).g; omega) (by omega) i hi
      have bx := fun i hi => rs_b (w := (·.x)) (s := s) (y := y) (B := 1099511627776) (fun x hx => by have := (v.s x hx).x; omega) (by omega) i hi
      have bi := fun i hi => rs_b (w := itr s.l) (s := s) (y := y) (B := 4398046511104000) (fun x hx => itr_b v.v (v.s x hx)) (by omega) i hi
      by_cases hlt2 : i < s.sl.length
      · have hlt2' : decide ((i : Int) < (s.sl.length : Int)) = true := by simpa using hlt2
        have hmem : s.sl[i]! ∈ s.sl := by rw [getElem!_pos s.sl i hlt2]; exact List.getElem_mem _
        have hok := v.s _ hmem
        have e69 := fun {H K} => c69t (m := s.sl[i]!.m) hyr (H := H) (K := K)
        have hof := ofY_eq (m := s.sl[i]!.m) (y := y) hok.m
        have h1g := bg i hi2
        have h1x := bx i hi2
        have h1i := bi i hi2
        have okg := hok.g
        have okx := hok.x
        by_cases hin : inY y s.sl[i]! = true
        · have hin2 := hin
          simp only [inY, Bool.and_eq_true, Bool.not_eq_true', decide_eq_true_eq] at hin2
          obtain ⟨hgo, hyo⟩ := hin2
          have hof' : ofY s.sl[i]!.m y = true := by rw [hof, decide_eq_true hyo]
          simp only [rs_yes hin]
          simp (disch := omega) only [go_sem, Nat.reduceAdd, Nat.reduceLeDiff, v44l2, rsD, hz.q, hz.n, spR, wr, hlt2', hgo, e69, hof']
          refine ⟨by omega, ?_⟩
          obtain ⟨k0, k1, k2, k3, _, _⟩ := hok
          refine Run.up (fun j st => ∃ ko a9 a10, ko = s.sl[i]!.f + j ∧ st = ⟨[rsD s x yy zz, .i .i64 y, .bx [.i .i64 0, .i .i64 0, .i .i64 0, .nil, .i .i64 0, .i .i64 0, .i .i64 0, .i .i64 0], .i .i64 0, .b false, .b false, a6, .b true, .b false, a9, a10, .bx [.i .i64 s.l.st, x, yy, .i .i64 s.sm, .i .i64 s.sg, .i .i64 s.sx, zz], .bx [.i .i64 y, .i .i64 (balL s.l (12 * (y - 1900))), .i .i64 (balL s.l (12 * (y - 1900) + 12)), bD [] .nil rows, .i .i64 (rs (·.g) s y i + s.sl[i]!.g), .i .i64 (rs (·.x) s y i + s.sl[i]!.x), .i .i64 0, .i .i64 (rs (itr s.l) s y i + (sw intr s.l.po (s.sl[i]!.f.toNat + j) - sw intr s.l.po s.sl[i]!.f.toNat))], .i .i64 mo, a14, a15, .i .i64 i, .bx [.i .i64 s.sl[i]!.m, .i .i64 s.sl[i]!.dy, .i .i64 s.sl[i]!.f, .i .i64 s.sl[i]!.t, .i .i64 s.sl[i]!.nu, .i .i64 s.sl[i]!.ac, .i .i64 s.sl[i]!.g, .i .i64 s.sl[i]!.x, .i .i64 s.sl[i]!.ne, .b false], .i .i64 ko], bH [] 4 rows⟩) (s.sl[i]!.t.toNat - s.sl[i]!.f.toNat) ⟨s.sl[i]!.f, _, _, by simp, by simp only [rsD, Nat.add_zero, Int.sub_self, Int.add_zero]; rfl⟩ ?_
          rintro j st hj ⟨ko, a9, a10, hko, rfl⟩
          by_cases hlt3 : j < s.sl[i]!.t.toNat - s.sl[i]!.f.toNat
          · have hlt3' : decide (ko < s.sl[i]!.t) = true := decide_eq_true (by omega)
            have hkn : ko.toNat = s.sl[i]!.f.toNat + j := by omega
            have hd0 := diff_b v.v (f := s.sl[i]!.f.toNat) (j := j) (by omega)
            have hd1 := diff_b v.v (f := s.sl[i]!.f.toNat) (j := j + 1) (by omega)
            rw [← Nat.add_assoc, sw] at hd1
            have hsw : sw intr s.l.po (s.sl[i]!.f.toNat + (j + 1)) = sw intr s.l.po (s.sl[i]!.f.toNat + j) + intr s.l.po[s.sl[i]!.f.toNat + j]! := by rw [← Nat.add_assoc, sw]
            by_cases hk3 : s.l.po[s.sl[i]!.f.toNat + j]!.k = 3
            · have hk3' : decide (s.l.po[s.sl[i]!.f.toNat + j]!.k = 3) = true := decide_eq_true hk3
              have hit : intr s.l.po[s.sl[i]!.f.toNat + j]! = s.l.po[s.sl[i]!.f.toNat + j]!.a := if_pos hk3
              simp only [hsw, hit]
              rw [hit] at hd1
              simp (disch := omega) only [go_sem, Nat.reduceAdd, Nat.reduceLeDiff, v44l1, rsD, hy.q, hy.under, poR, wr, hlt3', hkn, hk3']
              repeat' first | (refine And.intro ?_ ?_) | intro _
              all_goals omega
            · have hk3' : decide (s.l.po[s.sl[i]!.f.toNat + j]!.k = 3) = false := decide_eq_false hk3
              have hit : intr s.l.po[s.sl[i]!.f.toNat + j]! = 0 := if_neg hk3
              simp only [hsw, hit]
              simp (disch := omega) only [go_sem, Nat.reduceAdd, Nat.reduceLeDiff, v44l1, rsD, hy.q, poR, wr, hlt3', hkn, hk3']
              repeat' first | (refine And.intro ?_ ?_) | intro _
              all_goals omega
          · have hj3 : j = s.sl[i]!.t.toNat - s.sl[i]!.f.toNat := by omega
            have hlt3' : decide (ko < s.sl[i]!.t) = false := decide_eq_false (by omega)
            have hjt : s.sl[i]!.f.toNat + j = s.sl[i]!.t.toNat := by omega
            simp only [hjt]
            simp (disch := omega) only [go_sem, Nat.reduceAdd, Nat.reduceLeDiff, Nat.reduceEqDiff, v44l1, rsD, wr, hlt3', itr]
            exact hlt2
        · have hin' : inY y s.sl[i]! = false := Bool.eq_false_iff.2 hin
          simp only [rs_no hin']
          cases hgo : s.sl[i]!.gone with
          | true =>
            simp (disch := omega) only [go_sem, Nat.reduceAdd, Nat.reduceLeDiff, Nat.reduceEqDiff, v44l2, rsD, hz.q, hz.n, spR, wr, hlt2', hgo]
            omega
          | false =>
            have hof' : ofY s.sl[i]!.m y = false := by
              rw [hof]
              simp only [inY, hgo, Bool.not_false, Bool.true_and] at hin'
              exact hin'
            simp (disch := omega) only [go_sem, Nat.reduceAdd, Nat.reduceLeDiff, Nat.reduceEqDiff, v44l2, rsD, hz.q, hz.n, spR, wr, hlt2', hgo, e69, hof']
            omega
      · have hin2 : i = s.sl.length := by omega
        subst hin2
        have hlt2' : decide ((s.sl.length : Int) < (s.sl.length : Int)) = false := by simp
        have h1g := bg _ hi2
        have h1x := bx _ hi2
        rw [rs_all] at h1g h1x
        simp only [rs_all]
        simp (disch := omega) only [go_sem, Nat.reduceAdd, Nat.reduceLeDiff, v44l2, rsD, wr, hlt2', hz.n, stD, makeS]
theorem flat_makeD {s : RSt} {y : Int} {H : Heap} {K : CR → Prop} {f : FuncId} {vf : VFunc} {ds : List D} (h : PRet VS f ds (makeD s y)) (hf : VS.fn f = some vf) (hp : vf.pure = true) (ho : vf.own = false) (ha : ds.all D.plain = true) : CallQ VS f ds H K ↔ K (.ret (makeD s y) H) :=
  h.c hf hp ha (.inl ho)
theorem c23 {s : RSt} {d : D} (h : IsR s d) (hr : RngR s) {y : Int} {H : Heap} {K : CR → Prop} : CallQ VS 14 [d, .i .i64 y] H K ↔ K (.ret (makeD s y) H) :=
  flat_makeD (make23 h hr) (vf := v14) rfl rfl rfl (by simp [h.plain]; rfl)
theorem c28 {s : RSt} {d : D} (h : IsR s d) (hr : RngR s) {y : Int} {H : Heap} {K : CR → Prop} : CallQ VS 44 [d, .i .i64 y] H K ↔ K (.ret (makeD s y) H) :=
  flat_makeD (make28 h hr) (vf := v44) rfl rfl rfl (by simp [h.plain]; rfl)
open Go.Dm Go.Proofs
def mkS (s : RSt) (y : Int) : Stm := if (validR s && isY y) = true then makeS s y else zS
def mkE (s : RSt) (y : Int) : Int := if (validR s && isY y) = true then 0 else 2
theorem makeD_eq {s : RSt} {y : Int} : makeD s y = .tu [stD (mkS s y) (lsD (mkS s y).ls), .i .i64 (mkE s y)] := by
  unfold makeD mkS mkE
  by_cases h : (validR s && isY y) = true
  · rw [if_pos h, if_pos h, if_pos h]; rfl
  · rw [if_neg h, if_neg h, if_neg h]; rfl
theorem mkS_len {s : RSt} {y : Int} : (mkS s y).ls.length ≤ 12 := by
  unfold mkS
  split
  · show (pl s.l (yFrom s.l y) (yN s.l y)).length ≤ 12
    rw [pl_len]; unfold yN yTo yFrom; omega
  · simp [zS]
theorem copy63 {l : List Int} {x : D} (h : Sl 1 (l.map iR) x) (hl : l.length ≤ 1000000) {H : Heap} {K : CR → Prop} : CallQ VS 72 [x] H K ↔ K (.ret (imD .nil 1 (l.map iR)) H) := by
  have hp : PRet VS 72 [x] (imD .nil 1 (l.map iR)) := by
    refine .body (vf := v72) rfl rfl ?_
    have ha := fun H => app_all (H := H) (w := 1) (bytes := 8) (x0 := .nil) (enc := iR) (l := l) rfl h (fun _ => rfl) (by omega) (by omega)
    simp (disch := omega) only [go_sem, Nat.reduceSub, v72, ha]
  exact hp.c (vf := v72) rfl rfl (by simp [h.pl]) (.inl rfl)
theorem copy64 {l : List Po} {x : D} (h : Sl 4 (l.map poR) x) (hl : l.length ≤ 1000000) {H : Heap} {K : CR → Prop} : CallQ VS 73 [x] H K ↔ K (.ret (imD .nil 4 (l.map poR)) H) := by
  have hp : PRet VS 73 [x] (imD .nil 4 (l.map poR)) := by
    refine .body (vf := v73) rfl rfl ?_
    have ha := fun H => app_all (H := H) (w := 4) (bytes := 32) (x0 := .nil) (enc := poR) (l := l) rfl h (fun _ => rfl) (by omega) (by omega)
    simp (disch := omega) only [go_sem, Nat.reduceSub, v73, ha]
  exact hp.c (vf := v73) rfl rfl (by simp [h.pl]) (.inl rfl)
def crD (s : RSt) : D := rsD s (imD .nil 1 (s.l.due.map iR)) (imD .nil 4 (s.l.po.map poR)) (imD .nil 10 (s.sl.map spR))
theorem crD_is (s : RSt) : IsR s (crD s) := ⟨⟨_, _, _, rfl, imD_sl rfl _ _, imD_sl rfl _ _, imD_sl rfl _ _⟩⟩
theorem copied27 {s : RSt} {d : D} (h : IsR s d) (h1 : s.l.due.length ≤ 1000000) (h2 : s.l.po.length ≤ 1000000) (h3 : s.sl.length ≤ 1000000) {H : Heap} {K : CR → Prop} : CallQ VS 43 [d] H K ↔ K (.ret (crD s) H) := by
  have hpl := h.plain
  obtain ⟨⟨x, y, zz, rfl, hx, hy, hz⟩⟩ := h
  have hp : PRet VS 43 [rsD s x y zz] (crD s) := by
    refine .body (vf := v43) rfl rfl ?_
    have e63 := fun {H K} => copy63 hx h1 (H := H) (K := K)
    have e64 := fun {H K} => copy64 hy h2 (H := H) (K := K)
    have ha := fun H => app_all (H := H) (w := 10) (bytes := 80) (x0 := .nil) (enc := spR) (l := s.sl) rfl hz (fun _ => rfl) (by omega) (by omega)
    have k1 := (imD_sl (x0 := .nil) rfl 1 (s.l.due.map iR)).c1
    have k2 := (imD_sl (x0 := .nil) rfl 4 (s.l.po.map poR)).c1
    have f1 := fun m H => flat_freeze (imD_sl (x0 := .nil) rfl 1 (s.l.due.map iR)).flat m H
    have f2 := fun m H => flat_freeze (imD_sl (x0 := .nil) rfl 4 (s.l.po.map poR)).flat m H
    simp (disch := omega) only [go_sem, Nat.reduceAdd, Nat.reduceSub, Nat.reduceLeDiff, v43, rsD, e63, e64, ha, k1, k2, f1, f2, crD]
  exact hp.c (vf := v43) rfl rfl (by simp [hpl]) (.inl rfl)
def sTo (l : List Sp) (i : Nat) : List Sp := l.take i
theorem sTo_succ {l : List Sp} {i : Nat} (h : i < l.length) : sTo l (i + 1) = sTo l i ++ [l[i]!] := by
  unfold sTo
  rw [List.take_succ_eq_append_getElem h, getElem!_pos l i h]
theorem sTo_len {l : List Sp} {i : Nat} : (sTo l i).length ≤ i := by simp [sTo]; omega
theorem paid29 {s : RSt} {d : D} (h : IsR s d) (h1 : s.l.due.length ≤ 1000000) (h2 : s.l.po.length ≤ 1000000) (h3 : s.sl.length ≤ 1000000) {H : Heap} {K : CR → Prop} : CallQ VS 45 [d] H K ↔ K (.ret (crD s) H) := by
  have hpl := h.plain
  obtain ⟨⟨x, y, zz, rfl, hx, hy, hz⟩⟩ := h
  have hp : PRet VS 45 [rsD s x y zz] (crD s) := by
    refine .body (vf := v45) rfl rfl ?_
    have e63 := fun {H K} => copy63 hx h1 (H := H) (K := K)
    have e64 := fun {H K} => copy64 hy h2 (H := H) (K := K)
    have k1 := (imD_sl (x0 := .nil) rfl 1 (s.l.due.map iR)).c1
    have k2 := (imD_sl (x0 := .nil) rfl 4 (s.l.po.map poR)).c1
    have f1 := fun m H => flat_freeze (imD_sl (x0 := .nil) rfl 1 (s.l.due.map iR)).flat m H
    have f2 := fun m H => flat_freeze (imD_sl (x0 := .nil) rfl 4 (s.l.po.map poR)).flat m H
    simp (disch := omega) only [go_sem, Nat.reduceAdd, Nat.reduceSub, Nat.reduceLeDiff, v45, rsD, e63, e64, k1, k2]
    refine Run.up (fun i st => ∃ a2 a6 Z, st = ⟨[rsD s x y zz, Z, a2, .bx [.i .i64 s.l.st, x, y, .i .i64 s.sm, .i .i64 s.sg, .i .i64 s.sx, zz], .i .i64 i, .bx [.i .i64 s.l.st, imD .nil 1 (s.l.due.map iR), imD .nil 4 (s.l.po.map poR), .i .i64 s.sm, .i .i64 s.sg, .i .i64 s.sx, bD [] .nil ((sTo s.sl i).map spR)], a6], bH [] 10 ((sTo s.sl i).map spR)⟩ ∧ Z = .bx [.i .i64 0, .nil, .nil, .i .i64 0, .i .i64 0, .i .i64 0, .nil]) s.sl.length ⟨.u, .u, _, rfl, rfl⟩ ?_
    rintro i st hi ⟨a2, a6, Z, rfl, hZ⟩
    have hll := sTo_len (l := s.sl) (i := i)
    by_cases hlt : i < s.sl.length
    · have hlt' : decide ((i : Int) < (s.sl.length : Int)) = true := by simpa using hlt
      have hsn : (sTo s.sl i).map spR ++ [[.i .i64 s.sl[i]!.m, .i .i64 s.sl[i]!.dy, .i .i64 s.sl[i]!.f, .i .i64 s.sl[i]!.t, .i .i64 s.sl[i]!.nu, .i .i64 s.sl[i]!.ac, .i .i64 s.sl[i]!.g, .i .i64 s.sl[i]!.x, .i .i64 s.sl[i]!.ne, .b s.sl[i]!.gone]] = (sTo s.sl (i + 1)).map spR := by
        rw [sTo_succ hlt, List.map_append]; rfl
      simp (disch := omega) only [go_sem, Nat.reduceAdd, Nat.reduceLeDiff, Nat.reduceLT, v45l0, rsD, hz.q, hz.n, spR, wr, hlt', app_n, hsn]
      exact ⟨by omega, hlt, hZ⟩
    · have : i = s.sl.length := by omega
      subst this
      have e : sTo s.sl s.sl.length = s.sl := List.take_length
      rw [e]
      subst hZ
      have hlt' : decide ((s.sl.length : Int) < (s.sl.length : Int)) = false := by simp
      simp (disch := omega) only [go_sem, Nat.reduceAdd, v45l0, rsD, hz.n, hlt', f1, f2, crD]
  exact hp.c (vf := v45) rfl rfl (by simp [hpl]) (.inl rfl)
theorem cells_i {k : IntKind} {n : Int} {sh : List Nat} {xs ys : List D} : cellsEq (1 :: sh) (.i k n :: xs) (.i k n :: ys) = cellsEq sh xs ys := by
  simp [cellsEq, kindIs, cellEq]
theorem cells_b {b : Bool} {sh : List Nat} {xs ys : List D} : cellsEq (0 :: sh) (.b b :: xs) (.b b :: ys) = cellsEq sh xs ys := by
  simp [cellsEq, kindIs, cellEq]
theorem eqv_self {neg : Bool} {sh : List Nat} {xs : List D} (h : cellsEq sh xs xs = some true) : eqvD neg (.st sh) (.ag xs) (.ag xs) = some (.b (true != neg)) := by
  simp only [eqvD, deq, h]
theorem same70 {l : Led} {d d' : D} (h : IsLed l d) (h' : IsLed l d') (h1 : l.due.length ≤ 1000000) (h2 : l.po.length ≤ 1000000) : PRet VS 78 [d, d'] (.b true) := by
  obtain ⟨⟨x, y, rfl, hx, hy⟩⟩ := h
  obtain ⟨⟨x', y', rfl, hx', hy'⟩⟩ := h'
  refine .body (vf := v78) rfl rfl ?_
  simp (disch := omega) only [go_sem, Nat.reduceAdd, Nat.reduceSub, Nat.reduceLeDiff, v78, ledD, hx.n, hy.n, hx'.n, hy'.n]
  refine Run.up (fun i st => ∃ a4 a5 a12, st = ⟨[ledD l x y, ledD l x' y', .b false, .b false, a4, a5, .u, .u, .bx [.i .i64 l.st, x, y], .bx [.i .i64 l.st, x', y'], .i .i64 i, .i .i64 l.due.length, a12, .u, .u, .u], []⟩) l.due.length ⟨.u, .u, .u, rfl⟩ ?_
  rintro i st hi ⟨a4, a5, a12, rfl⟩
  by_cases hlt : i < l.due.length
  · have hlt' : decide ((i : Int) < (l.due.length : Int)) = true := by simpa using hlt
    simp (disch := omega) only [go_sem, Nat.reduceAdd, Nat.reduceLeDiff, v78l0, ledD, hx.q, hx'.q, hx.under, hx'.under, iR, wr, hlt']
    exact ⟨by omega, by omega, hlt⟩
  · have : i = l.due.length := by omega
    subst this
    have hlt' : decide ((l.due.length : Int) < (l.due.length : Int)) = false := by simp
    simp (disch := omega) only [go_sem, Nat.reduceAdd, v78l0, ledD, hlt', hy.n]
    refine Run.up (fun i st => ∃ a6 a7 a15, st = ⟨[ledD l x y, ledD l x' y', .b false, .b false, .b false, a5, a6, a7, .bx [.i .i64 l.st, x, y], .bx [.i .i64 l.st, x', y'], .i .i64 l.due.length, .i .i64 l.due.length, a12, .i .i64 i, .i .i64 l.po.length, a15], []⟩) l.po.length ⟨.u, .u, .u, rfl⟩ ?_
    rintro i st hi ⟨a6, a7, a15, rfl⟩
    by_cases hlt : i < l.po.length
    · have hlt' : decide ((i : Int) < (l.po.length : Int)) = true := by simpa using hlt
      have e := fun {neg} => eqv_self (neg := neg) (sh := [1, 1, 1, 1]) (xs := poR l.po[i]!) (by simp only [poR, cells_i]; rfl)
      simp only [poR] at e
      simp (disch := omega) only [go_sem, Nat.reduceAdd, v78l1, ledD, hy.q, hy'.q, hy.under, hy'.under, poR, wr, hlt', e]
      exact ⟨by omega, by omega, fun h => (by cases h), fun _ => hlt⟩
    · have : i = l.po.length := by omega
      subst this
      have hlt' : decide ((l.po.length : Int) < (l.po.length : Int)) = false := by simp
      simp (disch := omega) only [go_sem, v78l1, ledD, hlt']
theorem c70 {l : Led} {d d' : D} (h : IsLed l d) (h' : IsLed l d') (h1 : l.due.length ≤ 1000000) (h2 : l.po.length ≤ 1000000) {H : Heap} {K : CR → Prop} : CallQ VS 78 [d, d'] H K ↔ K (.ret (.b true) H) :=
  (same70 h h' h1 h2).c (vf := v78) rfl rfl (by simp [h.plain, h'.plain]) (.inl rfl)
theorem same30 {s : RSt} {d d' : D} (h : IsR s d) (h' : IsR s d') (h1 : s.l.due.length ≤ 1000000) (h2 : s.l.po.length ≤ 1000000) (h3 : s.sl.length ≤ 1000000) : PRet VS 46 [d, d'] (.b true) := by
  obtain ⟨⟨x, y, zz, rfl, hx, hy, hz⟩⟩ := h
  obtain ⟨⟨x', y', z', rfl, hx', hy', hz'⟩⟩ := h'
  have e70 := fun {H K} => c70 (isLed_of hx hy) (isLed_of hx' hy') h1 h2 (H := H) (K := K)
  simp only [ledD] at e70
  refine .body (vf := v46) rfl rfl ?_
  have e := fun {neg} => eqv_self (neg := neg) (sh := [1, 1, 1]) (xs := [.i .i64 s.sm, .i .i64 s.sg, .i .i64 s.sx]) (by simp only [cells_i]; rfl)
  simp (disch := omega) only [go_sem, Nat.reduceAdd, Nat.reduceSub, Nat.reduceLeDiff, v46, rsD, e70, e, hz.n, hz'.n]
  refine ⟨fun h => (by cases h), fun _ => ?_⟩
  refine Run.up (fun i st => ∃ a4 a5 a10, st = ⟨[rsD s x y zz, rsD s x' y' z', .b false, .b false, a4, a5, .bx [.i .i64 s.l.st, x, y, .i .i64 s.sm, .i .i64 s.sg, .i .i64 s.sx, zz], .bx [.i .i64 s.l.st, x', y', .i .i64 s.sm, .i .i64 s.sg, .i .i64 s.sx, z'], .i .i64 i, .i .i64 s.sl.length, a10], []⟩) s.sl.length ⟨.u, .u, .u, rfl⟩ ?_
  rintro i st hi ⟨a4, a5, a10, rfl⟩
  by_cases hlt : i < s.sl.length
  · have hlt' : decide ((i : Int) < (s.sl.length : Int)) = true := by simpa using hlt
    have e := fun {neg} => eqv_self (neg := neg) (sh := [1, 1, 1, 1, 1, 1, 1, 1, 1, 0]) (xs := spR s.sl[i]!) (by simp only [spR, cells_i, cells_b]; rfl)
    simp only [spR] at e
    simp (disch := omega) only [go_sem, Nat.reduceAdd, v46l0, rsD, hz.q, hz'.q, hz.under, hz'.under, spR, wr, hlt', e]
    exact ⟨by omega, by omega, fun h => (by cases h), fun _ => hlt⟩
  · have : i = s.sl.length := by omega
    subst this
    have hlt' : decide ((s.sl.length : Int) < (s.sl.length : Int)) = false := by simp
    simp (disch := omega) only [go_sem, v46l0, rsD, hlt']
theorem c30 {s : RSt} {d d' : D} (h : IsR s d) (h' : IsR s d') (h1 : s.l.due.length ≤ 1000000) (h2 : s.l.po.length ≤ 1000000) (h3 : s.sl.length ≤ 1000000) {H : Heap} {K : CR → Prop} : CallQ VS 46 [d, d'] H K ↔ K (.ret (.b true) H) :=
  (same30 h h' h1 h2 h3).c (vf := v46) rfl rfl (by simp [h.plain, h'.plain]) (.inl rfl)
def fewR (s : RSt) : Bool := decide (s.l.due.length ≤ 60) && decide (s.l.po.length ≤ 150) && decide (s.sl.length ≤ 60)
theorem c17g {H H1 : Heap} {s : Stm} {x d : D} (h : ∀ m, Dm.freeze (m + 1) H x = some (lsD s.ls, H1)) (hd : IsStm s d) (hl : s.ls.length ≤ 1000000) {K : CR → Prop} : CallQ VS 12 [d, stD s x] H K ↔ K (.ret (.b true) H1) := by
  have hs : IsStm s (stD s (lsD s.ls)) := isStm_of s
  have e := same17 hd hs hl
  rw [decide_eq_true rfl] at e
  refine CallQ_p (vf := v12) (H1 := H1) rfl rfl e ?_
  obtain ⟨⟨y, rfl, hy⟩⟩ := hd
  have fy : ∀ m H, Dm.freeze (m + 1) H y = some (y, H) := fun m H => flat_freeze hy.flat m H
  simp only [go_sem, Nat.reduceAdd, stD, h, fy]
theorem makes11 {s : RSt} {d : D} (h : IsR s d) (hr : RngR s) (hf : fewR s = true) {y : Int} : PRet VS 18 [d, .i .i64 y] (.b true) := by
  simp only [fewR, Bool.and_eq_true, decide_eq_true_eq] at hf
  obtain ⟨⟨f1, f2⟩, f3⟩ := hf
  have e27 := fun {H K} => copied27 h (by omega) (by omega) (by omega) (H := H) (K := K)
  have e29 := fun {H K} => paid29 h (by omega) (by omega) (by omega) (H := H) (K := K)
  have e30 := fun {H K} => c30 (crD_is s) h (by omega) (by omega) (by omega) (H := H) (K := K)
  have e23 := fun {H K} => c23 (crD_is s) hr (y := y) (H := H) (K := K)
  have e28 := fun {H K} => c28 (crD_is s) hr (y := y) (H := H) (K := K)
  rw [makeD_eq] at e23 e28
  have hlen := mkS_len (s := s) (y := y)
  have e18 := fun {H K} => c18 (isStm_of (mkS s y)) (by omega) (H := H) (K := K)
  have e17 := fun {K} => c17g (s := mkS s y) fz_b0 (isStm_of (mkS s y)) (by omega) (K := K)
  have k0 := (lsD_sl (mkS s y).ls).c1
  have k1 := (imD_sl (x0 := .nil) rfl 1 (s.l.due.map iR)).c1
  have k2 := (imD_sl (x0 := .nil) rfl 4 (s.l.po.map poR)).c1
  have k3 := (imD_sl (x0 := .nil) rfl 10 (s.sl.map spR)).c1
  obtain ⟨⟨x, yy, zz, rfl, hx, hy, hz⟩⟩ := h
  refine .body (vf := v18) rfl rfl ?_
  simp only [crD, rsD, stD] at e27 e29 e30 e23 e28 e18 e17
  simp (disch := omega) only [go_sem, Nat.reduceAdd, Nat.reduceSub, v18, rsD, e27, e29, e23, e28, e18, e17, e30]
theorem rng_few {s : RSt} (hm : ∀ x ∈ s.sl, x.m ≤ 9223372036854775807) (hf : fewR s = true) : RngR s := by
  simp only [fewR, Bool.and_eq_true, decide_eq_true_eq] at hf
  exact ⟨hm, by omega, by omega⟩
end Go.Proofs.YtnhbopeopppojaaGreatDoor.Dv
