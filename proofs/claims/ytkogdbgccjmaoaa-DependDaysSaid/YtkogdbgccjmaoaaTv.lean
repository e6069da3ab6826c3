/-
  DependDays over the machine: the law.
-/
import Derived.Test.YtkogdbgccjmaoaaTu
namespace Go.Proofs.Ytkogdbgccjmaoaa.Dv
open Go.Dm

theorem VL_at : ∀ {s : List (Int × Int)} {lo : Int}, VL lo s → ∀ i, i < s.length → s[i]!.1 < s[i]!.2 ∧ lo < s[i]!.1 ∧ (0 < i → s[i - 1]!.2 < s[i]!.1)
  | [], _, _, i, hi => by simp at hi
  | p :: s, lo, h, 0, _ => ⟨h.2.1, h.1, fun h => by omega⟩
  | p :: s, lo, h, i + 1, hi => by
    have hi' : i < s.length := by simpa using hi
    have a := VL_at h.2.2 i hi'
    have e : (p :: s)[i + 1]! = s[i]! := by simp
    rw [e]
    refine ⟨a.1, by have := h.1; have := h.2.1; omega, fun _ => ?_⟩
    cases i with
    | zero => have e2 : (p :: s)[0 + 1 - 1]! = p := rfl
              rw [e2]; exact a.2.1
    | succ i =>
      have e2 : (p :: s)[i + 1 + 1 - 1]! = s[i + 1 - 1]! := by simp
      rw [e2]; exact a.2.2 (by omega)
theorem mkL_valid {l : List (Int × Int)} (h : allSp l = true) : validL (mkL l) := by
  obtain ⟨h1, h2⟩ := mkL_ok h
  refine ⟨fun k hk => ?_⟩
  obtain ⟨a, b, c⟩ := VL_at h1 k hk
  have hm : memL (mkL l) ((mkL l)[k]!.2 - 1) := memL_at.2 ⟨k, hk, by omega, by omega⟩
  obtain ⟨q, hq, q1, q2⟩ := (h2 _).1 hm
  have hs := List.all_eq_true.1 h q hq
  simp only [isSp, decide_eq_true_eq] at hs
  exact ⟨by simp only [isSp, decide_eq_true_eq]; omega, by omega, c⟩

theorem days_mem {r : Rd} {key : List UInt8} {day : Int} : memL (daysL r key) day ↔ r.f.any (touchF key day (day + 1)) = true := by
  simp only [memL, daysL, List.mem_map, List.mem_filter, wantD, touchF, List.any_eq_true, decide_eq_true_eq]
  constructor
  · rintro ⟨p, ⟨x, ⟨hx, h1, _⟩, rfl⟩, h3, h4⟩
    exact ⟨x, hx, h1, by omega⟩
  · rintro ⟨x, hx, h1, h2⟩
    exact ⟨x.2, ⟨x, ⟨hx, h1, by omega⟩, rfl⟩, by omega, by omega⟩
theorem mem_add1 {α : Type} [DecidableEq α] {us : List α} {a b : α} : b ∈ add1 us a ↔ b ∈ us ∨ b = a := by
  unfold add1
  split
  · rename_i h
    exact ⟨.inl, fun h' => h'.elim id fun e => by subst e; exact h⟩
  · simp
theorem mem_fold {α : Type} [DecidableEq α] {b : α} : ∀ {as us : List α}, b ∈ as.foldl add1 us ↔ b ∈ us ∨ b ∈ as
  | [], us => by simp
  | a :: as, us => by
    rw [List.foldl_cons, mem_fold, mem_add1, List.mem_cons, or_assoc]
theorem keys_mem {r : Rd} {key : List UInt8} : key ∈ keysL r ↔ ∃ x, x ∈ r.f ∧ x.1 = key := by
  unfold keysL
  rw [mem_fold]
  simp
theorem met_ok {r : Rd} {key : List UInt8} (h : setS (daysL r key) ≠ []) : key ∈ keysL r := by
  rw [keys_mem]
  have h2 : daysL r key ≠ [] := fun e => h (by
    have := setS_len (l := daysL r key)
    rw [e] at this ⊢
    exact List.eq_nil_of_length_eq_zero (by simpa using this))
  obtain ⟨p, hp⟩ := List.exists_mem_of_ne_nil _ h2
  simp only [daysL, List.mem_map, List.mem_filter, wantD, decide_eq_true_eq] at hp
  obtain ⟨x, ⟨hx, hk, _⟩, _⟩ := hp
  exact ⟨x, hx, hk⟩
theorem any_take {l : List (List UInt8)} {key : List UInt8} {i : Nat} (hi : i < l.length) : (l.take (i + 1)).any (fun k => decide (k = key)) = ((l.take i).any (fun k => decide (k = key)) || decide (l[i]! = key)) := by
  rw [List.take_succ_eq_append_getElem hi, List.any_append, getElem!_pos l i hi]
  simp

theorem loop6 {l : List (List UInt8)} {key : List UInt8} {k : D} (h : Sl 1 (l.map seS) k) (hl : l.length ≤ 1000000) {p0 p2 p3 p4 p5 p6 p7 p12 p13 p14 : D} {H : Heap} {Q : Ex → St → Prop} (hQ : ∀ a5 a12, Q (.ex 0) ⟨[p0, .s key, p2, p3, p4, a5, p6, p7, .b (l.any fun k => decide (k = key)), .i .i64 l.length, .i .i64 l.length, k, a12, p13, p14], H⟩) :
    Run V (.loop v6l0) ⟨[p0, .s key, p2, p3, p4, p5, p6, p7, .b false, .i .i64 0, .i .i64 l.length, k, p12, p13, p14], H⟩ Q := by
  refine Run.up (fun i s => ∃ a5 a12, s = ⟨[p0, .s key, p2, p3, p4, a5, p6, p7, .b ((l.take i).any fun k => decide (k = key)), .i .i64 i, .i .i64 l.length, k, a12, p13, p14], H⟩) l.length ⟨_, _, rfl⟩ ?_
  rintro i s hi ⟨a5, a12, rfl⟩
  by_cases hlt : i < l.length
  · have hlt' : decide ((i : Int) < (l.length : Int)) = true := by simpa using hlt
    have ha := any_take (key := key) hlt
    have hb : ∀ x y : List UInt8, (x == y) = decide (x = y) := fun x y => by by_cases e : x = y <;> simp [e]
    cases hm : (l.take i).any fun k => decide (k = key) with
    | true =>
      rw [hm] at ha
      simp (disch := omega) only [go_sem, v6l0, hlt', h.q, seS, wr, ha]
      exact ⟨⟨by omega, by omega⟩, by omega, by simp⟩
    | false =>
      rw [hm] at ha
      simp (disch := omega) only [go_sem, v6l0, hlt', h.q, seS, wr, ha]
      exact ⟨⟨by omega, by omega⟩, by omega, by simp⟩
  · have hlt' : decide ((i : Int) < (l.length : Int)) = false := by simpa using hlt
    have hil : i = l.length := by omega
    subst hil
    simp (disch := omega) only [go_sem, v6l0, hlt', List.take_length]
    exact hQ _ _

theorem days6 {r : Rd} {d : D} (h : IsRd r d) (hf : r.f.length ≤ 4398046511104) (key : List UInt8) (day : Int) : PRet V 6 [d, .s key, .i .i64 day] (.b true) := by
  have h' := h
  obtain ⟨x, y, q, rfl, h1, h2, h3⟩ := h
  have h7 : ∀ H K, CallQ V 7 [.ag [x, y, q]] H K ↔ K (.ret (.b (fewB r)) H) := fun H K => (few7 h').c (vf := v7) rfl rfl (by simp only [go_sem, h1.flat, h2.flat, h3.flat]) (.inl rfl)
  refine .body (vf := v6) rfl rfl ?_
  simp only [go_sem, Nat.reduceAdd, Nat.reduceSub, v6]
  refine CallQ.pl (vf := v16) rfl rfl rfl (by simp only [go_sem, h1.flat, h2.flat, h3.flat]) ((days16 h' hf key).mono ?_)
  intro r1 hr1
  obtain ⟨q1, rfl, a2⟩ := makeQ_one hr1
  have hq1 := a2.c1
  cases hb : fewB r with
  | false => simp only [go_sem, Nat.reduceAdd, h7, hb, c8]
  | true =>
    by_cases he : allSp (daysL r key) = true
    · have e0 : errS (daysL r key) = 0 := by rw [errS, if_pos he]
      by_cases hd0 : day < 0
      · have hd0' : decide (day < 0) = true := by simpa using hd0
        simp only [go_sem, Nat.reduceAdd, h7, hb, c8, e0, hd0']
      · have hd0' : decide (day < 0) = false := by simpa using hd0
        by_cases hd1 : 65536 ≤ day
        · have hd1' : decide (65536 ≤ day) = true := by simpa using hd1
          simp only [go_sem, Nat.reduceAdd, h7, hb, c8, e0, hd0', hd1']
        · have hd1' : decide (65536 ≤ day) = false := by simpa using hd1
          have hfew : r.p.length ≤ 40 ∧ r.f.length ≤ 40 ∧ r.t.length ≤ 40 := by simpa [fewB] using hb
          have hl : r.le 1000000 := ⟨by omega, by omega, by omega⟩
          have hw : IntKind.i64.wrap (day + 1) = day + 1 := wr (by omega) (by omega)
          have e10 : ∀ H K, CallQ V 10 [.ag [x, y, q], .ag [.s key, .i .i64 day, .i .i64 (day + 1), .i .i64 0, .b false, .i .u8 0, .b false, .nil, .b false, .nil, .i .i64 0], .i .i64 0] H K ↔ K (.ret (.b (r.f.any (touchF key day (day + 1)))) H) := fun H K =>
            (fact10 h' hl key day (day + 1) 0 0 (.b false) (.i .u8 0) (.b false) .nil (.b false) .nil (.i .i64 0)).c (vf := v10) rfl rfl (by simp only [go_sem, factD, h1.flat, h2.flat, h3.flat]) (.inl rfl)
          simp only [go_sem, Nat.reduceAdd, Nat.reduceLeDiff, h7, hb, e0, hd0', hd1', hw, e10]
          refine CallQ.pl (vf := v18) rfl rfl rfl (by simp only [go_sem, h1.flat, h2.flat, h3.flat]) ((keys18 h' hl).mono ?_)
          rintro _ ⟨k1, hk1, rfl⟩
          have hkl : (keysL r).length ≤ 40 := by
            have := fold_len (r.f.map fun x => x.1) []
            rw [List.length_map] at this
            simp only [List.length_nil] at this
            unfold keysL; omega
          have hlen : (setS (daysL r key)).length ≤ 1000000 := by
            have a1 : (daysL r key).length ≤ 40 := daysL_len hfew.2.1
            have a3 := setS_len (l := daysL r key)
            omega
          have hn := hk1.n (H := [])
          simp only [go_sem, hk1.n]
          refine loop6 hk1 (by omega) fun a5 a12 => ?_
          have e29 : ∀ H K, CallQ V 29 [q1, .i .i64 day] H K ↔ K (.ret (.b (decide (validL (setS (daysL r key)) ∧ memL (setS (daysL r key)) day))) H) := fun H K =>
            (has29 a2 hlen).c (vf := v29) rfl rfl (by simp only [go_sem, a2.pl]) (.inl rfl)
          have hs : setS (daysL r key) = mkL (daysL r key) := by rw [setS, if_pos he]
          have hm : decide (validL (setS (daysL r key)) ∧ memL (setS (daysL r key)) day) = r.f.any (touchF key day (day + 1)) := by
            rw [Bool.eq_iff_iff, decide_eq_true_eq, ← days_mem, hs, (mkL_ok he).2 day]
            exact ⟨fun h => h.2, fun h => ⟨mkL_valid he, h⟩⟩
          have hmet : setS (daysL r key) ≠ [] → ((keysL r).any fun k => decide (k = key)) = true := fun hne => by
            rw [List.any_eq_true]
            exact ⟨key, met_ok hne, by simp⟩
          simp only [go_sem, e29, hm, a2.n]
          generalize r.f.any (touchF key day (day + 1)) = b0 at *
          generalize ((keysL r).any fun k => decide (k = key)) = b1 at *
          cases hz : setS (daysL r key) with
          | nil =>
            have : decide ((([] : List (Int × Int)).length : Int) = 0) = true := rfl
            cases b0 <;> cases b1 <;> simp only [go_sem, c8] <;> simp
          | cons p t =>
            rw [hmet (by rw [hz]; simp)]
            cases b0 <;> simp only [go_sem, c8] <;> simp
    · have e0 : errS (daysL r key) = 2 := by rw [errS, if_neg he]
      simp only [go_sem, Nat.reduceAdd, Int.reduceEq, h7, hb, c8, e0]
end Go.Proofs.Ytkogdbgccjmaoaa.Dv
