/-
  What is read has that text; the layer's functions called.
-/
import Derived.Test.YtnhbopeopppojaaGreatDoorSb
namespace Go.Proofs.YtnhbopeopppojaaGreatDoor.Dv
open Go.Dm Go.Proofs
def zS : Stm := ⟨0, 0, 0, [], 0, 0, 0, 0⟩
def lsD (l : List Ln) : D := imD .nil 4 (l.map lnR)
theorem lsD_sl (l : List Ln) : Sl 4 (l.map lnR) (lsD l) := imD_sl rfl _ _
def readP (q : Option Stm × List UInt8) : Stm × Bool := match q with
  | (some s, r) => (s, decide (r = []))
  | (none, _) => (zS, false)
def bHl (H0 : Heap) (w : Nat) (rows : List (List D)) : Heap :=
  match rows with
  | [] => H0
  | _ :: _ => H0 ++ [.ar w rows none true true]
theorem lD_fz {A B C : Blk} {m : Nat} {l : List Ln} : Dm.freeze (m + 1) (bH [A, B, C] 4 (l.map lnR)) (lD l) = some (lsD l, bHl [A, B, C] 4 (l.map lnR)) := by
  cases l with
  | nil => rfl
  | cons x l => simp [lD, bD, bH, lsD, imD, bHl, fz_mu, arr, fzM, List.take_of_length_le]
@[go_sem] theorem bH_set1 {a b x : Blk} {H0 : Heap} {w : Nat} {rows : List (List D)} : (bH (a :: b :: H0) w rows).set 1 x = bH (a :: x :: H0) w rows := by cases rows <;> rfl
theorem bH_len {A B C : Blk} {w : Nat} {rows : List (List D)} : 3 ≤ (bH [A, B, C] w rows).length := by cases rows <;> simp [bH]
theorem un_ids {n a o : Nat} {ids : List Nat} : D.under (n, ids) (.hp a o) = (decide (a < n) && !ids.contains a) := rfl
theorem ov_ids {n a o : Nat} {ids : List Nat} : D.over (n, ids) (.hp a o) = (decide (n ≤ a) || ids.contains a) := rfl
def rsHB (agg : Bool) : Option (List D) → Option D
  | some cs => val agg cs
  | none => none
def rsH (H : Heap) (n : Nat) (agg : Bool) : Option D → Option D
  | some d => rsHB agg (ldAt H d n)
  | none => none
@[go_sem] theorem rs_hb {sl : List D} {H : Heap} {k n : Nat} {agg : Bool} : RSpec.ev ⟨sl, H⟩ (.hb k n agg) = rsH H n agg sl[k]? := by
  simp only [RSpec.ev, rsH]
  cases sl[k]? with
  | none => rfl
  | some d => simp only [rsHB]; cases ldAt H d n <;> rfl
@[go_sem] theorem rsH_s {H : Heap} {n : Nat} {agg : Bool} {d : D} : rsH H n agg (some d) = rsHB agg (ldAt H d n) := rfl
@[go_sem] theorem rsHB_s {agg : Bool} {cs : List D} : rsHB agg (some cs) = val agg cs := rfl
theorem read43 {t : List UInt8} (hl : t.length ≤ 1000000) : PRet VS 19 [.s t] (.tu [stD (readP (stF t)).1 (lsD (readP (stF t)).1.ls), .b (readP (stF t)).2]) := by
  refine PRet.iff_q.2 (.dfr (vf := v19) (q := v19d) rfl rfl rfl ?_)
  simp only [go_sem, Nat.reduceAdd, Nat.reduceSub, v19, v19d]
  refine ⟨rfl, ?_⟩
  have h77 := st77 (A := .hb 28 [.i .i64 0, .i .i64 0, .i .i64 0, .nil, .i .i64 0, .i .i64 0, .i .i64 0, .i .i64 0]) (B := .hb 4 [.b false]) hl
  refine CallQ.mono h77 ?_
  intro c hc
  rcases hs : stF t with ⟨_ | s, r⟩
  · rw [hs] at hc
    obtain ⟨rows, r', rfl⟩ := hc
    simp only [go_sem, Nat.reduceAdd, Nat.reduceSub, reduceCtorEq, readP, errF, LeaveQ]
    exact ⟨fun _ => ⟨.inl trivial, Nat.zero_le _, rfl⟩, fun _ => ⟨.inl trivial, Nat.zero_le _, rfl⟩⟩
  · rw [hs] at hc
    obtain rfl : c = _ := hc
    have hlen := @bH_len
    have e2 : ∀ {a b c : Blk} {w : Nat} {rows : List (List D)}, decide (2 < (bH [a, b, c] w rows).length) = true := fun {a b c w rows} => decide_eq_true (by have := @bH_len a b c w rows; omega)
    simp only [go_sem, Nat.reduceAdd, Nat.reduceSub, reduceCtorEq, readP, stD, ownIds, D.blk, un_ids, ov_ids, LeaveQ, e2, List.contains_cons, List.contains_nil, Bool.or_false, Bool.or_true, lD_fz]
    exact ⟨rfl, by simp, fun h => (by cases h), fun _ => ⟨.inl trivial, Nat.zero_le _⟩⟩
theorem isStm_of (s : Stm) : IsStm s (stD s (lsD s.ls)) := ⟨_, rfl, lsD_sl s.ls⟩
theorem c43 {t : List UInt8} (hl : t.length ≤ 1000000) {H : Heap} {K : CR → Prop} : CallQ VS 19 [.s t] H K ↔ K (.ret (.tu [stD (readP (stF t)).1 (lsD (readP (stF t)).1.ls), .b (readP (stF t)).2]) H) :=
  CallQ_p (vf := v19) rfl rfl (read43 hl) (by simp only [go_sem, Nat.reduceAdd])
theorem monF_b {r r' : List UInt8} {m : Int} (h : monF r = (some m, r')) : 0 ≤ m ∧ m ≤ 100000 := by
  unfold monF at h
  rcases h1 : numF [] r with ⟨_ | y, r1⟩
  · rw [h1] at h; cases h
  · rw [h1] at h
    simp only [thn] at h
    rcases h2 : numF [45] r1 with ⟨_ | k, r2⟩
    · rw [h2] at h; cases h
    · rw [h2] at h
      simp only at h
      split at h
      · rename_i hc
        obtain ⟨hy, h3, h4⟩ := hc
        simp only [isY, Bool.and_eq_true, decide_eq_true_eq] at hy
        simp only [Prod.mk.injEq, Option.some.injEq] at h
        omega
      · cases h
theorem lnF_b {r r' : List UInt8} {x : Ln} (h : lnF r = (some x, r')) : 0 ≤ x.m ∧ x.m ≤ 100000 := by
  unfold lnF at h
  rcases h1 : monF r with ⟨_ | m, r1⟩
  · rw [h1] at h; cases h
  · rw [h1] at h
    simp only [thn] at h
    rcases h2 : numF kD r1 with ⟨_ | d, r2⟩
    · rw [h2] at h; cases h
    rw [h2] at h
    simp only at h
    rcases h3 : numF kP r2 with ⟨_ | p, r3⟩
    · rw [h3] at h; cases h
    rw [h3] at h
    simp only at h
    rcases h4 : numF kO r3 with ⟨_ | o, r4⟩
    · rw [h4] at h; cases h
    rw [h4] at h
    simp only [Prod.mk.injEq, Option.some.injEq] at h
    rw [← h.1]
    exact monF_b h1
theorem msF_b : ∀ (n : Nat) (acc : List Ln) (r : List UInt8) {l : List Ln} {r' : List UInt8}, (∀ x ∈ acc, 0 ≤ x.m ∧ x.m ≤ 100000) → msF n acc r = (some l, r') → ∀ x ∈ l, 0 ≤ x.m ∧ x.m ≤ 100000
  | 0, acc, r, l, r', ha, h => by
    unfold msF at h
    split at h
    · cases h
    · cases h; exact ha
  | n + 1, acc, r, l, r', ha, h => by
    unfold msF at h
    split at h
    · split at h
      · rename_i x q hx
        refine msF_b n (acc ++ [x]) q (fun z hz => ?_) h
        rcases List.mem_append.1 hz with hz | hz
        · exact ha z hz
        · rw [List.mem_singleton.1 hz]; exact lnF_b hx
      · cases h
    · cases h; exact ha
theorem stF_b {r r' : List UInt8} {s : Stm} (h : stF r = (some s, r')) : Rng s := by
  unfold stF at h
  rcases h1 : numF kS r with ⟨_ | y, r1⟩
  · rw [h1] at h; cases h
  rw [h1, thn_s] at h
  rcases h2 : numF kB r1 with ⟨_ | b, r2⟩
  · rw [h2] at h; cases h
  rw [h2, thn_s] at h
  rcases h3 : msF 12 [] r2 with ⟨_ | ls, r3⟩
  · rw [h3] at h; cases h
  rw [h3] at h
  simp only at h
  have hb := msF_b 12 [] r2 (fun x hx => by cases hx) h3
  have : s.ls = ls := by
    rcases q1 : numF kG r3 with ⟨_ | g, r4⟩
    · rw [q1] at h; cases h
    rw [q1, thn_s] at h
    rcases q2 : numF kT r4 with ⟨_ | t, r5⟩
    · rw [q2] at h; cases h
    rw [q2, thn_s] at h
    rcases q3 : numF kN r5 with ⟨_ | n, r6⟩
    · rw [q3] at h; cases h
    rw [q3, thn_s] at h
    rcases q4 : numF kI r6 with ⟨_ | i, r7⟩
    · rw [q4] at h; cases h
    rw [q4, thn_s] at h
    rcases q5 : numF kA r7 with ⟨_ | a, r8⟩
    · rw [q5] at h; cases h
    rw [q5, thn_s] at h
    rcases q6 : wantF [10] r8 with ⟨_ | z, r9⟩
    · rw [q6] at h; cases h
    rw [q6, thn_s] at h
    cases h
    rfl
  exact ⟨fun x hx => by rw [this] at hx; have := hb x hx; omega⟩
theorem readP_b (t : List UInt8) : Rng (readP (stF t)).1 := by
  rcases h : stF t with ⟨_ | s, r⟩
  · exact ⟨fun x hx => by cases hx⟩
  · exact stF_b h
noncomputable def readS (t : List UInt8) : Option Stm := if (readP (stF t)).2 = true ∧ RightS (readP (stF t)).1 ∧ textT (readP (stF t)).1 = t then some (readP (stF t)).1 else none
def RdS (t : List UInt8) (d : D) : Prop := match readS t with
  | some s => d = .tu [stD s (lsD s.ls), .i .i64 0]
  | none => d = .tu [stD zS .nil, .i .i64 390]
theorem read16 {t : List UInt8} (hl : t.length ≤ 1000000) : PurQ VS 10 [.s t] fun r => ∃ d, r = .ret d ∧ RdS t d := by
  refine .body (vf := v10) rfl rfl ?_
  generalize hs : (readP (stF t)).1 = s
  have hb := readP_b t
  rw [hs] at hb
  have c14 : ∀ {H : Heap} {K : CR → Prop}, CallQ VS 16 [stD s (lsD s.ls)] H K ↔ K (.ret (.tu [.s (if RightS s then textT s else []), .i .i64 (if RightS s then 0 else 2)]) H) :=
    fun {H K} => CallQ_p (vf := v16) (H1 := H) rfl rfl (text14 (isStm_of s) hb) (plain_freezeL (fun d hd => by rw [List.mem_singleton.1 hd]; exact (isStm_of s).plain))
  have hc1 : (lsD s.ls).cellsN 1 = some [lsD s.ls] := (lsD_sl s.ls).c1
  simp only [stD] at c14
  have hfz := fun H => fz_flat (H := H) (m := 8) (lsD_sl s.ls).flat
  have no : ¬ ((readP (stF t)).2 = true ∧ RightS s ∧ textT s = t) → RdS t (.tu [.ag [.i .i64 0, .i .i64 0, .i .i64 0, .nil, .i .i64 0, .i .i64 0, .i .i64 0, .i .i64 0], .i .i64 390]) := fun h => by
    have : readS t = none := by unfold readS; rw [hs, if_neg h]
    simp only [RdS, this]
    rfl
  simp only [go_sem, Nat.reduceAdd, Nat.reduceSub, v10, c43 hl, hs, stD, c14, hfz]
  refine ⟨fun h => no fun c => (by rw [c.1] at h; cases h), fun h => ⟨fun h1 => no fun c => h1 (if_pos c.2.1), fun h1 => ⟨fun h2 => no fun c => h2 (by rw [if_pos c.2.1]; exact c.2.2), fun h2 => ?_⟩⟩⟩
  have hr : RightS s := by
    by_cases hr : RightS s
    · exact hr
    · rw [if_neg hr] at h1; cases h1
  rw [if_pos hr] at h2
  have : readS t = some s := by unfold readS; rw [hs, if_pos ⟨h, hr, h2⟩]
  simp only [RdS, this]
  rfl
open Go.Dm Go.Proofs
def noD (l : List UInt8) : Prop := ∀ c, l.head? = some c → isD c = false
theorem noD_cons {c : UInt8} {l : List UInt8} (h : isD c = false) : noD (c :: l) := fun d hd => by cases hd; exact h
theorem noD_app (k : List UInt8) {l : List UInt8} (h : k.head?.map isD = some false) : noD (k ++ l) := by
  cases k with
  | nil => cases h
  | cons c k => exact noD_cons (by simpa using h)
theorem isP_app (p x : List UInt8) : isP p (p ++ x) = true := by simp [isP]
theorem tw_app {ds rest : List UInt8} (h : ∀ c ∈ ds, isD c = true) (hr : noD rest) : (ds ++ rest).takeWhile isD = ds := by
  induction ds with
  | nil =>
    cases rest with
    | nil => rfl
    | cons c r => rw [List.nil_append, List.takeWhile_cons_of_neg (by rw [hr c rfl]; nofun)]
  | cons c ds ih =>
    rw [List.cons_append, List.takeWhile_cons_of_pos (h c List.mem_cons_self), ih fun d hd => h d (List.mem_cons_of_mem _ hd)]
theorem cut45 {c : UInt8} {l : List UInt8} (h : isD c = true) : cutS [45] (c :: l) = c :: l ∧ isP [45] (c :: l) = false := by
  have hne : c ≠ 45 := fun e => by subst e; revert h; decide
  have : isP [45] (c :: l) = false := by simp [isP, hne]
  exact ⟨by simp [cutS, this], this⟩
theorem numF_pos {p ds rest : List UInt8} (hne : ds ≠ []) (h : ∀ c ∈ ds, isD c = true) (hr : noD rest) (hv : dval ds ≤ 9007199254740992) : numF p (p ++ (ds ++ rest)) = (some (dval ds : Int), rest) := by
  unfold numF
  rw [if_pos (isP_app _ _), List.drop_left]
  cases ds with
  | nil => exact absurd rfl hne
  | cons c ds =>
    obtain ⟨e1, e2⟩ := cut45 (l := ds ++ rest) (h c List.mem_cons_self)
    rw [List.cons_append, e1, e2]
    simp only []
    rw [← List.cons_append, tw_app h hr, if_neg (by simp; omega), List.drop_left]
    rfl
theorem numF_neg {p ds rest : List UInt8} (hne : ds ≠ []) (h : ∀ c ∈ ds, isD c = true) (hr : noD rest) (hv : dval ds ≤ 9007199254740992) : numF p (p ++ (45 :: ds ++ rest)) = (some (-(dval ds : Int)), rest) := by
  unfold numF
  rw [if_pos (isP_app _ _), List.drop_left]
  have e1 : isP [45] (45 :: ds ++ rest) = true := by simp [isP]
  have e2 : cutS [45] (45 :: ds ++ rest) = ds ++ rest := by rw [cutS, if_pos e1]; rfl
  rw [e1, e2]
  simp only []
  have hl : ds.length ≠ 0 := fun e => hne (List.length_eq_zero_iff.1 e)
  rw [tw_app h hr, if_neg (by omega), List.drop_left]
  rfl
theorem decD (u : Nat) : (∀ c ∈ Lib.decDigits u, isD c = true) ∧ Lib.decDigits u ≠ [] ∧ dval (Lib.decDigits u) = u := by
  induction u using Nat.strongRecOn with
  | ind u ih =>
    rw [Lib.decDigits]
    have hc : ∀ d : Nat, d < 10 → (UInt8.ofNat (48 + d)).toNat = 48 + d := fun d hd => by
      simp only [UInt8.toNat_ofNat']; omega
    by_cases h : u < 10
    · rw [dif_pos h]
      have e := hc u h
      refine ⟨fun c hm => ?_, by simp, ?_⟩
      · rw [List.mem_singleton.1 hm]
        simp only [isD, e, Bool.and_eq_true, decide_eq_true_eq]; omega
      · simp only [dval, List.foldl_cons, List.foldl_nil, e]; omega
    · rw [dif_neg h]
      obtain ⟨h1, h2, h3⟩ := ih (u / 10) (by omega)
      have e := hc (u % 10) (by omega)
      refine ⟨fun c hm => ?_, by simp, ?_⟩
      · rcases List.mem_append.1 hm with hm | hm
        · exact h1 c hm
        · rw [List.mem_singleton.1 hm]
          simp only [isD, e, Bool.and_eq_true, decide_eq_true_eq]; omega
      · rw [dval_snoc, h3, e]; omega
theorem numF_itoa {p rest : List UInt8} {n : Int} (hn : nr n = true) (hr : noD rest) : numF p (p ++ (Lib.itoa n ++ rest)) = (some n, rest) := by
  rw [nr_i] at hn
  unfold Lib.itoa
  split
  · obtain ⟨h1, h2, h3⟩ := decD n.natAbs
    rw [numF_neg h2 h1 hr (by omega), h3]
    congr 2
    omega
  · obtain ⟨h1, h2, h3⟩ := decD n.toNat
    rw [numF_pos h2 h1 hr (by omega), h3]
    congr 2
    omega
theorem numF_itoa0 {rest : List UInt8} {n : Int} (hn : nr n = true) (hr : noD rest) : numF [] (Lib.itoa n ++ rest) = (some n, rest) := numF_itoa (p := []) hn hr
theorem monF_mon {m : Int} {rest : List UInt8} (h0 : 0 ≤ m) (hy : isY (yOf m) = true) (hr : noD rest) : monF (monT m ++ rest) = (some m, rest) := by
  have hyb := hy
  have ey : yOf m = 1900 + m / 12 := by rw [yOf, Int.tdiv_eq_ediv_of_nonneg h0]
  simp only [isY, Bool.and_eq_true, decide_eq_true_eq] at hyb
  unfold monF monT
  rw [List.append_assoc, List.append_assoc, numF_itoa0 (by rw [nr_i]; omega) (noD_app [45] (by decide)), thn_s]
  have hk : numF [45] ([45] ++ (pad2 (Lib.itoa (m % 12 + 1)) ++ rest)) = (some (m % 12 + 1), rest) := by
    have e : Lib.itoa (m % 12 + 1) = Lib.decDigits (m % 12 + 1).toNat := by rw [Lib.itoa, if_neg (by omega)]
    obtain ⟨h1, h2, h3⟩ := decD (m % 12 + 1).toNat
    rw [e]
    generalize Lib.decDigits (m % 12 + 1).toNat = ds at h1 h2 h3
    unfold pad2
    split
    · have hd : dval (48 :: ds) = dval ds := by simp [dval]
      rw [numF_pos (by simp) (fun c hc => by
        rcases List.mem_cons.1 hc with rfl | hc
        · decide
        · exact h1 c hc) hr (by omega), hd, h3]
      congr 2
      omega
    · rw [numF_pos h2 h1 hr (by omega), h3]
      congr 2
      omega
  rw [hk, thn_s, if_pos ⟨hy, by omega, by omega⟩, ey]
  congr 2
  omega
def lnU (x : Ln) : List UInt8 := kM ++ (monT x.m ++ (kD ++ (Lib.itoa x.d ++ (kP ++ (Lib.itoa x.p ++ (kO ++ Lib.itoa x.o))))))
def lnsU (l : List Ln) : List UInt8 := (l.map lnU).flatten
def tailU (s : Stm) : List UInt8 := kG ++ (Lib.itoa s.g ++ (kT ++ (Lib.itoa s.t ++ (kN ++ (Lib.itoa s.n ++ (kI ++ (Lib.itoa s.i ++ (kA ++ (Lib.itoa s.a ++ [10])))))))))
def textU (s : Stm) : List UInt8 := kS ++ (Lib.itoa s.y ++ (kB ++ (Lib.itoa s.b ++ (lnsU s.ls ++ tailU s))))
theorem join2 (a b : List UInt8) : Lib.join [a, b] [32] = a ++ ([32] ++ b) := by
  simp [Lib.join_cons, Lib.joinTail]
theorem join8 (a b c d e f g h : List UInt8) : Lib.join [a, b, c, d, e, f, g, h] [32] = a ++ ([32] ++ (b ++ ([32] ++ (c ++ ([32] ++ (d ++ ([32] ++ (e ++ ([32] ++ (f ++ ([32] ++ (g ++ ([32] ++ h))))))))))))) := by
  simp [Lib.join_cons, Lib.joinTail]
theorem lnT_U (x : Ln) : [10] ++ lnT x = lnU x ++ [10] := by
  simp [lnT, lineT, wdT, join8, lnU, kM, kD, kP, kO, kMonth, kDue, kPosted, kOpen]
theorem lns_U : ∀ l : List Ln, [10] ++ (l.map lnT).flatten = lnsU l ++ [10]
  | [] => rfl
  | x :: l => by
    rw [List.map_cons, List.flatten_cons, ← List.append_assoc, lnT_U, List.append_assoc, lns_U l, lnsU, lnsU, List.map_cons, List.flatten_cons, List.append_assoc]
theorem text_U (s : Stm) : textT s = textU s := by
  have e : lnsT s.ls s.ls.length = (s.ls.map lnT).flatten := by rw [lnsT, List.take_length]
  have h := lns_U s.ls
  have h1 : headT s = kS ++ (Lib.itoa s.y ++ (kB ++ Lib.itoa s.b)) ++ [10] := by simp [headT, lineT, wdT, join2, kS, kB, kStatement, kBefore]
  have h2 : [10] ++ (lineT [.s kGross, .i s.g, .s kTax, .i s.t, .s kNet, .i s.n, .s kInterest, .i s.i] ++ lineT [.s kAfter, .i s.a]) = tailU s := by
    simp [lineT, wdT, join2, join8, tailU, kG, kT, kN, kI, kA, kGross, kTax, kNet, kInterest, kAfter]
  rw [textT, e, h1, List.append_assoc, List.append_assoc, List.append_assoc]
  have h3 : [10] ++ ((s.ls.map lnT).flatten ++ (lineT [.s kGross, .i s.g, .s kTax, .i s.t, .s kNet, .i s.n, .s kInterest, .i s.i] ++ lineT [.s kAfter, .i s.a])) = lnsU s.ls ++ tailU s := by
    rw [← List.append_assoc, h, List.append_assoc, h2]
  rw [h3, textU]
  simp only [List.append_assoc]
theorem lnF_U {x : Ln} {rest : List UInt8} (h0 : 0 ≤ x.m) (hy : isY (yOf x.m) = true) (hd : nr x.d = true) (hp : nr x.p = true) (ho : nr x.o = true) (hr : noD rest) : isP kM (lnU x ++ rest) = true ∧ lnF (cutS kM (lnU x ++ rest)) = (some x, rest) := by
  have e : lnU x ++ rest = kM ++ (monT x.m ++ (kD ++ (Lib.itoa x.d ++ (kP ++ (Lib.itoa x.p ++ (kO ++ (Lib.itoa x.o ++ rest))))))) := by simp only [lnU, List.append_assoc]
  rw [e]
  refine ⟨isP_app _ _, ?_⟩
  rw [cutS, if_pos (isP_app _ _), List.drop_left]
  unfold lnF
  rw [monF_mon h0 hy (noD_app kD (by decide)), thn_s]
  rw [numF_itoa hd (noD_app kP (by decide)), thn_s]
  rw [numF_itoa hp (noD_app kO (by decide)), thn_s]
  rw [numF_itoa ho hr, thn_s]
structure LnFine (x : Ln) : Prop where
  m : 0 ≤ x.m
  y : isY (yOf x.m) = true
  d : nr x.d = true
  p : nr x.p = true
  o : nr x.o = true
theorem noD_tail (s : Stm) : noD (tailU s) := noD_cons (by decide)
theorem noD_lns {l : List Ln} {t : List UInt8} (ht : noD t) : noD (lnsU l ++ t) := by
  cases l with
  | nil => exact ht
  | cons x l => exact noD_cons (by decide)
theorem isP_tail (s : Stm) : isP kM (tailU s) = false := by
  have : tailU s = 10 :: 103 :: (tailU s).drop 2 := rfl
  rw [this]
  simp [isP, kM]
theorem msF_U {s : Stm} : ∀ (n : Nat) (acc l : List Ln), (∀ x ∈ l, LnFine x) → l.length ≤ n → msF n acc (lnsU l ++ tailU s) = (some (acc ++ l), tailU s)
  | 0, acc, l, _, hl => by
    have : l = [] := List.length_eq_zero_iff.1 (by omega)
    subst this
    simp only [lnsU, List.map_nil, List.flatten_nil, List.nil_append, msF, isP_tail, List.append_nil]
    rfl
  | n + 1, acc, [], _, _ => by
    simp only [lnsU, List.map_nil, List.flatten_nil, List.nil_append, msF, isP_tail, List.append_nil]
    rfl
  | n + 1, acc, x :: l, h, hl => by
    have hx := h x List.mem_cons_self
    have e : lnsU (x :: l) ++ tailU s = lnU x ++ (lnsU l ++ tailU s) := by simp only [lnsU, List.map_cons, List.flatten_cons, List.append_assoc]
    obtain ⟨h1, h2⟩ := lnF_U (rest := lnsU l ++ tailU s) hx.m hx.y hx.d hx.p hx.o (noD_lns (noD_tail s))
    rw [e]
    unfold msF
    rw [if_pos h1, h2]
    simp only
    rw [msF_U n (acc ++ [x]) l (fun y hy => h y (List.mem_cons_of_mem _ hy)) (by simpa using hl)]
    simp
structure StFine (s : Stm) : Prop where
  y : nr s.y = true
  b : nr s.b = true
  a : nr s.a = true
  g : nr s.g = true
  t : nr s.t = true
  n : nr s.n = true
  i : nr s.i = true
  ls : ∀ x ∈ s.ls, LnFine x
  len : s.ls.length ≤ 12
theorem stF_U {s : Stm} (h : StFine s) : stF (textU s) = (some s, []) := by
  unfold stF textU
  rw [numF_itoa h.y (noD_app kB (by decide)), thn_s]
  rw [numF_itoa h.b (noD_lns (noD_tail s)), thn_s]
  rw [msF_U 12 [] s.ls h.ls h.len]
  simp only [tailU, List.nil_append]
  rw [numF_itoa h.g (noD_app kT (by decide)), thn_s]
  rw [numF_itoa h.t (noD_app kN (by decide)), thn_s]
  rw [numF_itoa h.n (noD_app kI (by decide)), thn_s]
  rw [numF_itoa h.i (noD_app kA (by decide)), thn_s]
  rw [numF_itoa h.a (noD_cons (by decide)), thn_s]
  rfl
theorem RightS.fine {s : Stm} (r : RightS s) : StFine s := by
  have hs := r.sums
  simp only [Bool.and_eq_true] at hs
  have hy := r.y
  have hy2 := hy
  simp only [isY, Bool.and_eq_true, decide_eq_true_eq] at hy
  refine ⟨by rw [nr_i]; omega, hs.1.1.1.1.1, hs.1.1.1.1.2, hs.1.1.1.2, hs.1.1.2, hs.1.2, hs.2, fun x hx => ?_, r.len⟩
  obtain ⟨k, hk, rfl⟩ := List.mem_iff_getElem.1 hx
  have h := r.lns.h k hk
  have e : s.ls[k]! = s.ls[k] := getElem!_pos s.ls k hk
  rw [← e]
  exact ⟨h.m0, by rw [h.m1]; exact hy2, by rw [nr_i]; have := h.d; omega, h.p, h.o⟩
theorem read_text {s : Stm} (r : RightS s) : readS (textT s) = some s := by
  have h := stF_U r.fine
  rw [← text_U] at h
  unfold readS
  rw [h]
  simp only [readP]
  rw [if_pos ⟨by simp, r, by first | rfl | trivial⟩]
theorem readS_spec {t : List UInt8} {s : Stm} (h : readS t = some s) : RightS s ∧ textT s = t := by
  unfold readS at h
  split at h
  · rename_i hc
    cases h
    exact hc.2
  · cases h
theorem readS_none {t : List UInt8} (h : readS t = none) : ¬ ∃ s, RightS s ∧ textT s = t := fun ⟨s, r, e⟩ => by
  rw [← e, read_text r] at h
  cases h
open Go.Dm Go.Proofs
theorem eqv_ln {neg : Bool} {x y : Ln} : eqvD neg (.st [1, 1, 1, 1]) (.ag [.i .i64 x.m, .i .i64 x.d, .i .i64 x.p, .i .i64 x.o]) (.ag [.i .i64 y.m, .i .i64 y.d, .i .i64 y.p, .i .i64 y.o]) = some (.b (decide (x = y) != neg)) := by
  obtain ⟨m, d, p, o⟩ := x
  obtain ⟨m', d', p', o'⟩ := y
  simp only [eqvD, deq, cellsEq, kindIs, cellEq, if_true]
  by_cases h1 : m = m'
  · by_cases h2 : d = d'
    · by_cases h3 : p = p'
      · by_cases h4 : o = o'
        · simp [h1, h2, h3, h4]
        · have : (o == o') = false := by simpa using h4
          simp [h1, h2, h3, h4, this]
      · have : (p == p') = false := by simpa using h3
        simp [h1, h2, h3, this]
    · have : (d == d') = false := by simpa using h2
      simp [h1, h2, this]
  · have : (m == m') = false := by simpa using h1
    simp [h1, this]
structure eqTo (l l' : List Ln) (i : Nat) : Prop where
  h : ∀ k, k < i → l[k]! = l'[k]!
theorem et_succ {l l' : List Ln} {i : Nat} : eqTo l l' (i + 1) ↔ eqTo l l' i ∧ l[i]! = l'[i]! := by
  refine ⟨fun h => ⟨⟨fun k hk => h.h k (by omega)⟩, h.h i (by omega)⟩, fun h => ⟨fun k hk => ?_⟩⟩
  by_cases e : k = i
  · subst e; exact h.2
  · exact h.1.h k (by omega)
theorem et_all {l l' : List Ln} (hl : l.length = l'.length) : eqTo l l' l.length ↔ l = l' := by
  constructor
  · intro h
    refine List.ext_getElem hl fun k h1 h2 => ?_
    have := h.h k h1
    rwa [getElem!_pos l k h1, getElem!_pos l' k h2] at this
  · rintro rfl
    exact ⟨fun _ _ => rfl⟩
set_option maxRecDepth 100000 in
theorem same17 {s s' : Stm} {d d' : D} (h : IsStm s d) (h' : IsStm s' d') (hl : s.ls.length ≤ 1000000) : PRet VS 12 [d, d'] (.b (decide (s = s'))) := by
  obtain ⟨⟨x, rfl, h⟩⟩ := h
  obtain ⟨⟨x', rfl, h'⟩⟩ := h'
  refine .body (vf := v12) rfl rfl ?_
  have hsame : ∀ {H : Heap}, lenD H 1 x = some (.i .i64 s.ls.length) := h.n
  by_cases hy : s.y = s'.y ∧ s.b = s'.b ∧ s.a = s'.a ∧ s.g = s'.g ∧ s.t = s'.t ∧ s.n = s'.n ∧ s.i = s'.i ∧ s.ls.length = s'.ls.length
  case neg =>
    have hne : ¬ s = s' := fun e => by subst e; exact hy ⟨rfl, rfl, rfl, rfl, rfl, rfl, rfl, rfl⟩
    rw [decide_eq_false hne]
    simp only [go_sem, Nat.reduceAdd, Nat.reduceSub, Nat.reduceLeDiff, v12, stD, h.n, h'.n]
    grind
  · obtain ⟨e1, e2, e3, e4, e5, e6, e7, e8⟩ := hy
    have hiff : s = s' ↔ s.ls = s'.ls := by
      obtain ⟨_, _, _, _, _, _, _, _⟩ := s
      obtain ⟨_, _, _, _, _, _, _, _⟩ := s'
      simp only at e1 e2 e3 e4 e5 e6 e7
      subst e1 e2 e3 e4 e5 e6 e7
      simp
    simp only [go_sem, Nat.reduceAdd, Nat.reduceSub, Nat.reduceLeDiff, v12, stD, h.n, h'.n, e1, e2, e3, e4, e5, e6, e7, e8]
    refine Run.up (fun i st => eqTo s.ls s'.ls i ∧ ∃ a3 a4 a5, st = ⟨[stD s x, stD s' x', .b false, a3, a4, a5, .bx [.i .i64 s.y, .i .i64 s.b, .i .i64 s.a, x, .i .i64 s.g, .i .i64 s.t, .i .i64 s.n, .i .i64 s.i], .bx [.i .i64 s'.y, .i .i64 s'.b, .i .i64 s'.a, x', .i .i64 s'.g, .i .i64 s'.t, .i .i64 s'.n, .i .i64 s'.i], .i .i64 i], []⟩) s.ls.length ⟨⟨fun k hk => by omega⟩, ?_⟩ ?_
    · simp only [stD, e1, e2, e3, e4, e5, e6, e7]
      exact ⟨_, _, _, rfl⟩
    rintro i st hi ⟨hv, a3, a4, a5, rfl⟩
    have e9 : i < s.ls.length → s.ls[i]! ≠ s'.ls[i]! → s ≠ s' := fun hlt hne e => hne (by rw [hiff.1 e])
    have e10 : eqTo s.ls s'.ls s.ls.length → s = s' := fun hh => hiff.2 ((et_all e8).1 hh)
    simp (disch := omega) only [go_sem, Nat.reduceAdd, Nat.reduceLeDiff, v12l0, h.q, h'.q, h.n, h.under, h'.under, lnR, wr, eqv_ln, et_succ, hv]
    refine ⟨fun hlt => ⟨⟨by omega, by omega⟩, ⟨by omega, by omega⟩, fun hc => ?_, fun hc => ⟨by omega, ?_⟩⟩, fun hlt => ?_⟩
    · exact (decide_eq_false (e9 (by omega) (by simpa using hc))).symm
    · simpa using hc
    · have : i = s.ls.length := by omega
      subst this
      exact (decide_eq_true (e10 hv)).symm
theorem c12 {H : Heap} {K : CR → Prop} : CallQ VS 6 [] H K ↔ K (.ret (.b true) H) :=
  PRet.c (vf := v6) ⟨400, awakeRun⟩ rfl rfl rfl (.inl rfl)
theorem c15 {s : Stm} {d : D} (h : IsStm s d) (hr : Rng s) {H : Heap} {K : CR → Prop} : CallQ VS 36 [d] H K ↔ K (.ret (.b (decide (RightS s))) H) :=
  (right15 h hr).c (vf := v36) rfl rfl (by simp [h.plain]) (.inl rfl)
theorem c14 {s : Stm} {d : D} (h : IsStm s d) (hr : Rng s) {H : Heap} {K : CR → Prop} : CallQ VS 16 [d] H K ↔ K (.ret (.tu [.s (if RightS s then textT s else []), .i .i64 (if RightS s then 0 else 2)]) H) :=
  CallQ_p (vf := v16) (H1 := H) rfl rfl (text14 h hr) (plain_freezeL (fun d hd => by rw [List.mem_singleton.1 hd]; exact h.plain))
theorem RdS.det {t : List UInt8} {d : D} (h : RdS t d) : d = match readS t with
  | some s => .tu [stD s (lsD s.ls), .i .i64 0]
  | none => .tu [stD zS .nil, .i .i64 390] := by
  unfold RdS at h
  cases hr : readS t with
  | some s => rw [hr] at h; exact h
  | none => rw [hr] at h; exact h
noncomputable def readD (t : List UInt8) : D := match readS t with
  | some s => .tu [stD s (lsD s.ls), .i .i64 0]
  | none => .tu [stD zS .nil, .i .i64 390]
theorem c16 {t : List UInt8} (hl : t.length ≤ 1000000) {H : Heap} {K : CR → Prop} : CallQ VS 10 [.s t] H K ↔ K (.ret (readD t) H) := by
  refine CallQ_p (vf := v10) (H1 := H) rfl rfl (PRet.iff_q.2 ((read16 hl).mono ?_)) (by simp only [go_sem, Nat.reduceAdd])
  rintro r ⟨d, rfl, h⟩
  rw [h.det]
end Go.Proofs.YtnhbopeopppojaaGreatDoor.Dv
