/-
  DependTells over the machine.
-/
import Derived.Test.YtkogdbgccjmaoaaTg
import Derived.Test.YtkogdbgccjmaoaaTh
namespace Go.Proofs.Ytkogdbgccjmaoaa.Dv
open Go.Dm

theorem awake8 : PRet V 8 [] (.b true) := ⟨1, rfl⟩
theorem c8 {H : Heap} {K : CR → Prop} : CallQ V 8 [] H K ↔ K (.ret (.b true) H) := awake8.c (vf := v8) rfl rfl rfl (.inl rfl)
theorem imSl {w : Nat} {rows : List (List D)} {d : D} (h : Sl w rows d) : d.cellsN 1 = some [d] := h.c1

def errS (l : List (Int × Int)) : Int := if allSp l then 0 else 2
def setS (l : List (Int × Int)) : List (Int × Int) := if allSp l then mkL l else []
theorem makeQ_one {l : List (Int × Int)} {r : PR} (h : makeQ l r) : ∃ q, r = .ret (.tu [q, .i .i64 (errS l)]) ∧ Sl 2 ((setS l).map spR) q := by
  obtain ⟨q, ⟨h1, h2, h3⟩ | ⟨h1, rfl, h3⟩⟩ := h
  · exact ⟨q, by rw [h3, errS, if_pos h1], by rw [setS, if_pos h1]; exact h2⟩
  · exact ⟨.nil, by rw [h3, errS, if_neg (by simp [h1])], by rw [setS, if_neg (by simp [h1])]; exact .nil rfl⟩
theorem refQ_one {l : List (Int × Int)} {r : PR} (h : refQ l r) : ∃ q, r = .ret (.tu [q, .i .i64 (errS l)]) ∧ Sl 2 ((setS l).map spR) q := by
  obtain ⟨q, ⟨h1, ⟨ml, h2, h4⟩, h3⟩ | ⟨h1, rfl, h3⟩⟩ := h
  · exact ⟨q, by rw [h3, errS, if_pos h1], by rw [setS, if_pos h1, same_set h1 h2]; exact h4⟩
  · exact ⟨.nil, by rw [h3, errS, if_neg (by simp [h1])], by rw [setS, if_neg (by simp [h1])]; exact .nil rfl⟩
theorem setS_len {l : List (Int × Int)} : (setS l).length ≤ l.length := by
  unfold setS
  split
  · have a2 := mTo_len (l := sortSp (l.filter full)) (i := (l.filter full).length) (by rw [sortSp_len]; exact Nat.le_refl _)
    have a3 := List.length_filter_le full l
    unfold mkL; omega
  · simp
theorem loop3 {l : List (List UInt8)} {k1 k2 : D} (h1 : Sl 1 (l.map seS) k1) (h2 : Sl 1 (l.map seS) k2) (hl : l.length ≤ 1000000) {p0 p1 p2 p3 p4 p5 p7 p8 p9 p12 p13 p14 p15 p16 p17 p18 p19 p20 b10 b11 b25 : D} {Q : Ex → St → Prop} (hQ : ∀ a10 a11 a25, Q (.ex 0) ⟨[p0, p1, p2, p3, p4, p5, .b false, p7, p8, p9, a10, a11, p12, p13, p14, p15, p16, p17, p18, p19, p20, k1, k2, .i .i64 l.length, .i .i64 l.length, a25], []⟩) :
    Run V (.loop v3l0) ⟨[p0, p1, p2, p3, p4, p5, .b false, p7, p8, p9, b10, b11, p12, p13, p14, p15, p16, p17, p18, p19, p20, k1, k2, .i .i64 0, .i .i64 l.length, b25], []⟩ Q := by
  refine Run.up (fun i s => ∃ a10 a11 a25, s = ⟨[p0, p1, p2, p3, p4, p5, .b false, p7, p8, p9, a10, a11, p12, p13, p14, p15, p16, p17, p18, p19, p20, k1, k2, .i .i64 i, .i .i64 l.length, a25], []⟩) l.length ⟨_, _, _, rfl⟩ ?_
  rintro i s hi ⟨a10, a11, a25, rfl⟩
  by_cases hlt : i < l.length
  · have hlt' : decide ((i : Int) < (l.length : Int)) = true := by simpa using hlt
    have n1 : ∀ n : List UInt8, (!decide (n = n)) = false := fun n => by simp
    simp (disch := omega) only [go_sem, v3l0, hlt', h1.q, h2.q, h1.under, h2.under, seS, wr]
    omega
  · have hlt' : decide ((i : Int) < (l.length : Int)) = false := by simpa using hlt
    have hil : i = l.length := by omega
    subst hil
    simp (disch := omega) only [go_sem, v3l0, hlt']
    exact hQ _ _ _
theorem tells3 {r : Rd} {d : D} (h : IsRd r d) (key : List UInt8) (fr to kn known : Int) (c4 c5 c6 c7 c8' c9 c10 : D) (hp4 : ([c4, c5, c6, c7, c8', c9, c10] : List D).all D.flat = true) (nm lb : List UInt8) (fr' to' kn' : Int) (cs : List D) (hc : cs.length = 19) (hpc : cs.all D.flat = true) (name : List UInt8) (a0 a1 : D) (ha0 : a0.flat = true) (ha1 : a1.flat = true) (kx : Int) (xs : List D) (hx : xs.length = 4) (hpx : xs.all D.flat = true) :
    PRet V 3 [d, .ag (factD key fr to kn c4 c5 c6 c7 c8' c9 c10), .ag (clauseD nm lb fr' to' kn' cs), .s name, .ag (a0 :: a1 :: .i .i64 kx :: xs), .i .i64 known] (.b true) := by
  have h' := h
  obtain ⟨x, y, q, rfl, h1, h2, h3⟩ := h
  have h7 : ∀ H K, CallQ V 7 [.ag [x, y, q]] H K ↔ K (.ret (.b (fewB r)) H) := fun H K => (few7 h').c (vf := v7) rfl rfl (by simp only [go_sem, h1.flat, h2.flat, h3.flat]) (.inl rfl)
  refine .body (vf := v3) rfl rfl ?_
  have hf4 : c4.flat = true ∧ c5.flat = true ∧ c6.flat = true ∧ c7.flat = true ∧ c8'.flat = true ∧ c9.flat = true ∧ c10.flat = true := by simpa [and_assoc] using hp4
  obtain ⟨f4, f5, f6, f7, f8, f9, f10⟩ := hf4
  cases hb : fewB r with
  | false =>
    simp only [go_sem, Nat.reduceAdd, Nat.reduceSub, v3, factD, clauseD, hc, hx, h7, hb, c8]
  | true =>
    have hfew : r.p.length ≤ 40 ∧ r.f.length ≤ 40 ∧ r.t.length ≤ 40 := by simpa [fewB] using hb
    have hl : r.le 1000000 := ⟨by omega, by omega, by omega⟩
    have hpl := h'.plain
    simp only [go_sem, Nat.reduceAdd, Nat.reduceSub, v3, factD, clauseD, hc, hx, h7, hb]
    refine CallQ.pl (vf := v9) rfl rfl rfl (by simpa using hpl) ((conv9 h' hl).mono ?_)
    rintro _ ⟨d', hd, rfl⟩
    have hdpl := hd.plain
    have hd0 := hd
    obtain ⟨x', y', q', rfl, g1, g2, g3⟩ := hd0
    have e10 : ∀ H K, CallQ V 10 [.ag [x, y, q], .ag [.s key, .i .i64 fr, .i .i64 to, .i .i64 kn, c4, c5, c6, c7, c8', c9, c10], .i .i64 known] H K ↔ K (.ret (.b (decide (kn ≤ known) && r.f.any (touchF key fr to))) H) := fun H K =>
      (fact10 h' hl key fr to kn known c4 c5 c6 c7 c8' c9 c10).c (vf := v10) rfl rfl (by simp only [go_sem, factD, h1.flat, h2.flat, h3.flat, f4, f5, f6, f7, f8, f9, f10]) (.inl rfl)
    have e11 : ∀ H K, CallQ V 11 [.ag [x', y', q'], .ag [.s key, .i .i64 fr, .i .i64 to, .i .i64 kn, c4, c5, c6, c7, c8', c9, c10], .i .i64 known] H K ↔ K (.ret (.b (decide (kn ≤ known) && r.f.any (touchF key fr to))) H) := fun H K =>
      (ref11 hd hl key fr to kn known c4 c5 c6 c7 c8' c9 c10).c (vf := v11) rfl rfl (by simp only [go_sem, factD, g1.flat, g2.flat, g3.flat, f4, f5, f6, f7, f8, f9, f10]) (.inl rfl)
    have e12 : ∀ H K, CallQ V 12 [.ag [x, y, q], .ag (.s nm :: .s lb :: .i .i64 fr' :: .i .i64 to' :: .i .i64 kn' :: cs), .i .i64 known] H K ↔ K (.ret (.b (decide (kn' ≤ known) && r.p.any (touchC nm fr' to'))) H) := fun H K =>
      (clause12 h' hl nm lb fr' to' kn' known cs hc).c (vf := v12) rfl rfl (by simp only [go_sem, clauseD, h1.flat, h2.flat, h3.flat, hpc]) (.inl rfl)
    have e13 : ∀ H K, CallQ V 13 [.ag [x', y', q'], .ag (.s nm :: .s lb :: .i .i64 fr' :: .i .i64 to' :: .i .i64 kn' :: cs), .i .i64 known] H K ↔ K (.ret (.b (decide (kn' ≤ known) && r.p.any (touchC nm fr' to'))) H) := fun H K =>
      (ref13 hd hl nm lb fr' to' kn' known cs hc).c (vf := v13) rfl rfl (by simp only [go_sem, clauseD, g1.flat, g2.flat, g3.flat, hpc]) (.inl rfl)
    have e14 : ∀ H K, CallQ V 14 [.ag [x, y, q], .s name, .ag (a0 :: a1 :: .i .i64 kx :: xs), .i .i64 known] H K ↔ K (.ret (.b (decide (kx ≤ known) && r.t.any (fun a => decide (name = a)))) H) := fun H K =>
      (row14 h' hl name a0 a1 kx known xs hx).c (vf := v14) rfl rfl (by simp only [go_sem, h1.flat, h2.flat, h3.flat, ha0, ha1, hpx]) (.inl rfl)
    have e15 : ∀ H K, CallQ V 15 [.ag [x', y', q'], .s name, .ag (a0 :: a1 :: .i .i64 kx :: xs), .i .i64 known] H K ↔ K (.ret (.b (decide (kx ≤ known) && r.t.any (fun a => decide (name = a)))) H) := fun H K =>
      (ref15 hd hl name a0 a1 kx known xs hx).c (vf := v15) rfl rfl (by simp only [go_sem, g1.flat, g2.flat, g3.flat, ha0, ha1, hpx]) (.inl rfl)
    have eb : ∀ b : Bool, eqvD true .b (.b b) (.b b) = some (.b false) := fun b => by cases b <;> rfl
    have t1 : cs.take 19 = cs := List.take_of_length_le (by rw [hc]; exact Nat.le_refl _)
    have t2 : xs.take 4 = xs := List.take_of_length_le (by rw [hx]; exact Nat.le_refl _)
    simp only [go_sem, Nat.reduceAdd, e10, e11, e12, e13, e14, e15, eb, hc, hx, t1, t2]
    refine CallQ.pl (vf := v16) rfl rfl rfl (by simp only [go_sem, h1.flat, h2.flat, h3.flat]) ((days16 h' (by omega) name).mono ?_)
    intro r1 hr1
    obtain ⟨q1, rfl, a2⟩ := makeQ_one hr1
    simp only [go_sem, Nat.reduceAdd]
    refine CallQ.pl (vf := v17) rfl rfl rfl (by simp only [go_sem, g1.flat, g2.flat, g3.flat]) ((days17 hd hl name).mono ?_)
    intro r2 hr2
    obtain ⟨q2, rfl, b2⟩ := refQ_one hr2
    have hlen : (setS (daysL r name)).length ≤ 1000000 := by
      have a1 : (daysL r name).length ≤ 40 := daysL_len hfew.2.1
      have a3 := setS_len (l := daysL r name)
      omega
    have e20 : ∀ H K, CallQ V 20 [q1, q2] H K ↔ K (.ret (.b true) H) := fun H K => (spans20 a2 b2 hlen rfl).c (vf := v20) rfl rfl (by simp only [go_sem, a2.pl, b2.pl]) (.inl rfl)
    generalize errS (daysL r name) = er
    simp only [go_sem, Nat.reduceAdd]
    refine CallQ.pl (vf := v18) rfl rfl rfl (by simp only [go_sem, h1.flat, h2.flat, h3.flat]) ((keys18 h' hl).mono ?_)
    rintro _ ⟨k1, hk1, rfl⟩
    simp only [go_sem, Nat.reduceAdd]
    refine CallQ.pl (vf := v19) rfl rfl rfl (by simp only [go_sem, g1.flat, g2.flat, g3.flat]) ((keys19 hd hl).mono ?_)
    rintro _ ⟨k2, hk2, rfl⟩
    have n1 : ∀ n : Int, (!decide (n = n)) = false := fun n => by simp
    simp only [go_sem, e20, hk1.n, hk2.n]
    have hkl : (keysL r).length ≤ 40 := by
      have := fold_len (r.f.map fun x => x.1) []
      rw [List.length_map] at this
      simp only [List.length_nil] at this
      unfold keysL; omega
    refine loop3 hk1 hk2 (by omega) fun a10 a11 a25 => ?_
    simp only [go_sem, c8]
end Go.Proofs.Ytkogdbgccjmaoaa.Dv
