/-
  StateChain over the machine.
-/
import Derived.Test.YtnhbopeopppojaaDoorTj
import Derived.Test.YtnhbopeopppojaaDoorTl
namespace Go.Proofs.YtnhbopeopppojaaDoor.Dv
open Go.Dm Go.Proofs

theorem c57 {x : Sp} {H : Heap} {K : CR → Prop} : CallQ VS 57 [.ag (spR x)] H K ↔ K (.ret (.i .i64 (gP x)) H) := by
  have h : PRet VS 57 [.ag (spR x)] (.i .i64 (gP x)) := by
    refine .body (vf := v57) rfl rfl ?_
    cases hg : x.gone with
    | true => simp only [go_sem, Nat.reduceAdd, Nat.reduceSub, v57, spR, hg, gP]
    | false => simp only [go_sem, Nat.reduceAdd, Nat.reduceSub, Nat.reduceLeDiff, v57, spR, hg, gP]
  exact h.c (vf := v57) rfl rfl rfl (.inl rfl)
theorem gP_b {n : Nat} {x : Sp} (h : SlOk n x) : -1099511627776 ≤ gP x ∧ gP x ≤ 1099511627776 := by
  have := h.g
  unfold gP
  split <;> omega
theorem sum56 {l : List Sp} {zz : D} (hz : Sl 10 (l.map spR) zz) (hn : l.length ≤ 1200) (hw : ∀ x ∈ l, -1099511627776 ≤ gP x ∧ gP x ≤ 1099511627776) {H : Heap} {K : CR → Prop} : CallQ VS 56 [zz, .fn (.func 57) [] []] H K ↔ K (.ret (.i .i64 (sw gP l l.length)) H) := by
  refine CallQ_ret (Ret.iff_q.2 (.body (vf := v56) rfl rfl rfl ?_))
  simp only [go_sem, Nat.reduceSub, v56, hz.n]
  refine Run.up (fun i s => ∃ a3 a8, s = ⟨[zz, .fn (.func 57) [] [], .i .i64 0, a3, .i .i64 (sw gP l i), .i .i64 i, .i .i64 l.length, zz, a8], H⟩) l.length ⟨.u, .u, rfl⟩ ?_
  rintro i s hi ⟨a3, a8, rfl⟩
  have hb := fun j hj => sw_b (w := gP) hw j hj
  by_cases hlt : i < l.length
  · have hlt' : decide ((i : Int) < (l.length : Int)) = true := by simpa using hlt
    have h1 := hb (i + 1) (by omega)
    have hgi := fun {H K} => c57 (x := l[i]!) (H := H) (K := K)
    simp only [sw] at h1
    simp only [spR] at hgi
    simp (disch := omega) only [go_sem, Nat.reduceAdd, v56l0, hz.q, spR, wr, hlt', sw, hgi]
    omega
  · have hlt' : decide ((i : Int) < (l.length : Int)) = false := by simpa using hlt
    have : i = l.length := by omega
    subst this
    simp (disch := omega) only [go_sem, v56l0, hlt']
theorem c25 {s : RSt} {d : D} (h : IsR s d) (hr : RngR s) (hv : validR s = true) {H : Heap} {K : CR → Prop} : CallQ VS 25 [d] H K ↔ K (.ret (.tu [.i .i64 (sw gP s.sl s.sl.length), .i .i64 0]) H) := by
  have v := validR_v hv
  have hpl := h.plain
  have e22 := fun {H K} => c22 h hr.y1 hr.y2 (H := H) (K := K)
  obtain ⟨⟨x, y, zz, rfl, hx, hy, hz⟩⟩ := h
  have e56 := fun {H K} => sum56 hz v.n (fun x hx => gP_b (v.s x hx)) (H := H) (K := K)
  have hp : PRet VS 25 [rsD s x y zz] (.tu [.i .i64 (sw gP s.sl s.sl.length), .i .i64 0]) := by
    refine .body (vf := v25) rfl rfl ?_
    simp only [rsD] at e22
    simp (disch := omega) only [go_sem, Nat.reduceAdd, Nat.reduceSub, v25, rsD, e22, hv, e56]
  exact hp.c (vf := v25) rfl rfl (by simp [hpl]) (.inl rfl)
structure belowTo (l : List Sp) (i : Nat) : Prop where
  h : ∀ k, k < i → l[k]!.m < 2160
/-- The year of a round. -/
structure YrI (j : Nat) (y : Int) : Prop where
  e : y = 1900 + j
set_option maxRecDepth 100000 in
theorem law9 {s : RSt} {d : D} (h : IsR s d) (hm : ∀ x ∈ s.sl, x.m ≤ 9223372036854775807) : PRet VS 9 [d] (.b true) := by
  have e10 := fun {H K} => few10 h (H := H) (K := K)
  by_cases hf : fewR s = true
  case neg =>
    have hf' : fewR s = false := Bool.eq_false_iff.2 hf
    obtain ⟨⟨x, y, zz, rfl, hx, hy, hz⟩⟩ := h
    refine .body (vf := v9) rfl rfl ?_
    simp only [rsD] at e10
    simp (disch := omega) only [go_sem, Nat.reduceAdd, Nat.reduceSub, v9, rsD, c12, e10, hf']
  have hr := rng_few hm hf
  have e22 := fun {H K} => c22 h hr.y1 hr.y2 (H := H) (K := K)
  by_cases hv : validR s = true
  case neg =>
    have hv' : validR s = false := Bool.eq_false_iff.2 hv
    obtain ⟨⟨x, y, zz, rfl, hx, hy, hz⟩⟩ := h
    refine .body (vf := v9) rfl rfl ?_
    simp only [rsD] at e10 e22
    simp (disch := omega) only [go_sem, Nat.reduceAdd, Nat.reduceSub, v9, rsD, c12, e10, hf, e22, hv']
  have v := validR_v hv
  have hst := v.v.r.st
  have hle := v.v.n
  have hf2 := hf
  simp only [fewR, Bool.and_eq_true, decide_eq_true_eq] at hf2
  obtain ⟨⟨f1, f2⟩, f3⟩ := hf2
  have e23 := fun {y H K} => c23 h hr (y := y) (H := H) (K := K)
  have e25 := fun {H K} => c25 h hr hv (H := H) (K := K)
  obtain ⟨⟨x, yy, zz, rfl, hx, hy, hz⟩⟩ := h
  have hxc := hx.c1
  refine .body (vf := v9) rfl rfl ?_
  simp only [rsD] at e10 e22 e23 e25
  by_cases hend : s.l.st + (s.l.due.length : Int) > 2160
  · have hend' : decide (s.l.st + (s.l.due.length : Int) > 2160) = true := decide_eq_true hend
    simp (disch := omega) only [go_sem, Nat.reduceAdd, Nat.reduceSub, Nat.reduceLeDiff, v9, rsD, c12, e10, hf, e22, hv, hx.n, wr, hend']
  have hend' : decide (s.l.st + (s.l.due.length : Int) > 2160) = false := decide_eq_false hend
  have e26 := fun {b H K} => c26 (isLed_of hx hy) hr.y1 v.l (b := b) (H := H) (K := K)
  have e24 := fun {m H K} (hm : hasL s.l m = true) => c24 (isLed_of hx hy) hr.y1 v.l (m := m) hm (H := H) (K := K)
  simp only [ledD] at e26 e24
  simp (disch := omega) only [go_sem, Nat.reduceAdd, Nat.reduceSub, Nat.reduceLeDiff, v9, rsD, c12, e10, hf, e22, hv, hx.n, wr, hend']
  refine Run.up (fun i st => belowTo s.sl i ∧ ∃ a4 a5, st = ⟨[rsD s x yy zz, .b false, .b false, .b false, a4, a5, .u, .u, .u, .u, .bx [.i .i64 s.l.st, x, yy, .i .i64 s.sm, .i .i64 s.sg, .i .i64 s.sx, zz], .i .i64 i, .u, .u, .u, .u, .u, .u, .u, .u, .u, .u, .u, .u, .u, .u], []⟩) s.sl.length ⟨⟨fun k hk => absurd hk (Nat.not_lt_zero k)⟩, .u, .u, rfl⟩ ?_
  rintro i st hi ⟨hbl, a4, a5, rfl⟩
  by_cases hlt : i < s.sl.length
  · have hlt' : decide ((i : Int) < (s.sl.length : Int)) = true := by simpa using hlt
    simp (disch := omega) only [go_sem, Nat.reduceAdd, Nat.reduceLeDiff, v9l0, rsD, hz.q, hz.n, spR, wr, hlt']
    refine ⟨by omega, fun _ => trivial, fun hc => ⟨hlt, ⟨fun k hk => ?_⟩⟩⟩
    by_cases e : k = i
    · subst e; omega
    · exact hbl.h k (by omega)
  have hin : i = s.sl.length := by omega
  subst hin
  have hlt' : decide ((s.sl.length : Int) < (s.sl.length : Int)) = false := by simp
  have hlow : ∀ x ∈ s.sl, x.m < 2160 := fun x hx => by
    obtain ⟨k, hk, rfl⟩ := List.mem_iff_getElem.1 hx
    have := hbl.h k hk
    rwa [getElem!_pos s.sl k hk] at this
  have hcN : ∀ b, cutN s.l b ≤ s.l.due.length := fun b => by unfold cutN; omega
  have hgsb := fun y => gs_b v y
  simp (disch := omega) only [go_sem, Nat.reduceAdd, v9l0, rsD, hz.n, hlt']
  refine Run.up (fun j st => ∃ y a6 a7 a8 a9 a16 a17 a18 a19 a20 a21, YrI j y ∧ st = ⟨[rsD s x yy zz, .b false, .b false, .b false, .b false, a5, a6, a7, a8, a9, .bx [.i .i64 s.l.st, x, yy, .i .i64 s.sm, .i .i64 s.sg, .i .i64 s.sx, zz], .i .i64 s.sl.length, .i .i64 (cutN s.l (12 * (y - 1900)) : Nat), .i .i64 (balL s.l (12 * (y - 1900))), .i .i64 (gs s y), .i .i64 y, a16, a17, a18, a19, a20, a21, .u, .u, .u, .u], []⟩) 180 ⟨1900, .u, .u, .u, .u, .u, .u, .u, .u, .u, .u, ⟨rfl⟩, ?_⟩ ?_
  · have e1 : cutN s.l (12 * (1900 - 1900)) = 0 := by unfold cutN; omega
    have e2 : balL s.l (12 * (1900 - 1900)) = 0 := bal_zero v.v
    rw [e1, e2, gs_zero v]; rfl
  rintro j st hj ⟨y, a6, a7, a8, a9, a16, a17, a18, a19, a20, a21, ⟨hyj⟩, rfl⟩
  by_cases hlt2 : j < 180
  · have hlt2' : decide (y < 2080) = true := decide_eq_true (by omega)
    have hyy : isY y = true := by simp only [isY, Bool.and_eq_true, decide_eq_true_eq]; omega
    have hmk : makeD s y = .tu [stD (makeS s y) (lsD (makeS s y).ls), .i .i64 0] := by unfold makeD; rw [hv, hyy]; rfl
    have hright := make_right hv f2 hyy
    have e23y := fun {H K} => e23 (y := y) (H := H) (K := K)
    rw [hmk] at e23y
    have e15 := fun {H K} => c15 (isStm_of (makeS s y)) hright.rng (H := H) (K := K)
    rw [decide_eq_true hright] at e15
    have hlsl := lsD_sl (makeS s y).ls
    have hlc := hlsl.c1
    have hll : (makeS s y).ls.length = yN s.l y := pl_len _
    have hbal : (makeS s y).b = balL s.l (12 * (y - 1900)) := rfl
    have hyv : (makeS s y).y = y := rfl
    simp only [stD, hbal, hyv] at e23y e15
    simp (disch := omega) only [go_sem, Nat.reduceAdd, Nat.reduceLeDiff, v9l2, rsD, hlt2', e23y, e15]
    have hF : 12 * (y - 1900) ≤ yFrom s.l y ∧ s.l.st ≤ yFrom s.l y := by unfold yFrom; omega
    have hT2 : yTo s.l y ≤ 12 * (y - 1900) + 12 ∧ yTo s.l y ≤ s.l.st + s.l.due.length := by unfold yTo; omega
    have hL : 0 < yN s.l y → yFrom s.l y = s.l.st + (cutN s.l (12 * (y - 1900)) : Nat) := fun h0 => by
      unfold yN yTo yFrom at h0; unfold yFrom cutN; omega
    have hLN : cutN s.l (12 * (y - 1900)) + yN s.l y = cutN s.l (12 * (y + 1 - 1900)) := by
      unfold yN yTo yFrom cutN; omega
    refine Run.up (fun i st => ∃ a8 a9 a19 a20 a21, st = ⟨[rsD s x yy zz, .b false, .b false, .b false, .b false, a5, .b true, .b false, a8, a9, .bx [.i .i64 s.l.st, x, yy, .i .i64 s.sm, .i .i64 s.sg, .i .i64 s.sx, zz], .i .i64 s.sl.length, .i .i64 ((cutN s.l (12 * (y - 1900)) : Nat) + (i : Int)), .i .i64 (balL s.l (12 * (y - 1900))), .i .i64 (gs s y), .i .i64 y, .i .i64 0, .bx [.i .i64 y, .i .i64 (balL s.l (12 * (y - 1900))), .i .i64 (makeS s y).a, lsD (makeS s y).ls, .i .i64 (makeS s y).g, .i .i64 (makeS s y).t, .i .i64 (makeS s y).n, .i .i64 (makeS s y).i], .i .i64 i, a19, a20, a21, .u, .u, .u, .u], []⟩) (yN s.l y) ⟨_, _, _, _, _, by simp only [rsD, Int.cast_ofNat_Int, Int.add_zero]; rfl⟩ ?_
    rintro i st hi2 ⟨a8, a9, a19, a20, a21, rfl⟩
    by_cases hlt3 : i < yN s.l y
    · obtain ⟨mo, hmo⟩ : ∃ mo, mo = yFrom s.l y + (i : Int) := ⟨_, rfl⟩
      have hT3 : mo < yTo s.l y := by unfold yN at hlt3; omega
      have hg : (makeS s y).ls[i]! = ⟨mo, s.l.due[(mo - s.l.st).toNat]!, postedL s.l mo, s.l.due[(mo - s.l.st).toNat]! - postedL s.l mo⟩ := by rw [hmo]; exact pl_get hlt3
      have hL1 := hL (by omega)
      have hhas : hasL s.l mo = true := by simp only [hasL, Bool.and_eq_true, decide_eq_true_eq]; omega
      have e24i := fun {H K} => e24 (m := mo) hhas (H := H) (K := K)
      have hlt3' : decide ((i : Int) < (yN s.l y : Nat)) = true := decide_eq_true (by omega)
      have d1 : decide ((cutN s.l (12 * (y - 1900)) : Nat) + (i : Int) ≥ (s.l.due.length : Int)) = false := decide_eq_false (by omega)
      have d2 : mo = s.l.st + ((cutN s.l (12 * (y - 1900)) : Nat) + (i : Int)) := by omega
      have d2' : decide (mo = s.l.st + ((cutN s.l (12 * (y - 1900)) : Nat) + (i : Int))) = true := decide_eq_true d2
      have d3 : ((cutN s.l (12 * (y - 1900)) : Nat) + (i : Int)).toNat = (mo - s.l.st).toNat := by omega
      have d4 : (cutN s.l (12 * (y - 1900)) : Nat) + i < s.l.due.length := by omega
      simp (disch := omega) only [go_sem, Nat.reduceAdd, Nat.reduceLeDiff, v9l1, rsD, hlsl.q, hlsl.n, hll, hg, lnR, wr, hlt3', e24i, hx.n, d1, d2', hx.q, hx.under, iR, d3]
      exact ⟨by omega, by omega, hlt3, by omega⟩
    · have hi3 : i = yN s.l y := by omega
      subst hi3
      have hlt3' : decide (((yN s.l y : Nat) : Int) < (yN s.l y : Nat)) = false := by simp
      have hgg : (makeS s y).g = suml (·.g) (slY s y) := rfl
      have haa : (makeS s y).a = balL s.l (12 * (y - 1900) + 12) := rfl
      have hgb := hgsb (y + 1)
      rw [gs_step] at hgb
      simp (disch := omega) only [go_sem, Nat.reduceAdd, Nat.reduceLeDiff, Nat.reduceEqDiff, v9l1, rsD, hlsl.n, hll, hlt3', hgg, wr]
      have e12 : 12 * (y + 1 - 1900) = 12 * (y - 1900) + 12 := by omega
      exact ⟨hlt2, y + 1, ⟨by omega⟩, by omega, by rw [haa, e12], gs_step.symm, rfl⟩
  · have hj2 : j = 180 := by omega
    subst hj2
    have hy2 : y = 2080 := by omega
    subst hy2
    have hlt2' : decide ((2080 : Int) < 2080) = false := rfl
    have g1 : gs s 2080 = sw gP s.sl s.sl.length := gs_all v hlow
    have g2 : cutN s.l (12 * (2080 - 1900)) = s.l.due.length := by unfold cutN; omega
    have g3 : balL s.l (12 * (2080 - 1900)) = balL s.l 2160 := rfl
    rw [g1, g2, g3]
    simp (disch := omega) only [go_sem, Nat.reduceAdd, Nat.reduceLeDiff, Nat.reduceLT, Int.reduceLT, v9l2, rsD, e25, e26, hx.n]
end Go.Proofs.YtnhbopeopppojaaDoor.Dv
