/-
  The reference's words over the machine.
-/
import Derived.Test.YtnhbopeopppojaaGreatDoorRb
namespace Go.Proofs.YtnhbopeopppojaaGreatDoor.Dv
open Go.Dm Go.Proofs

def isSep (c : UInt8) : Bool := decide (c.toNat = 32) || decide (c.toNat = 10)
/-- The words of a text, behind what stands before it. -/
def wsp : List UInt8 → List UInt8 → List (List UInt8)
  | [], cur => [cur]
  | c :: s, cur => if isSep c = true then cur :: wsp s [] else wsp s (cur ++ [c])
def wordsT (s : List UInt8) : List (List UInt8) := wsp s []
structure WdTo (s : List UInt8) (P : List (List UInt8)) (cur : List UInt8) (i : Nat) : Prop where
  e : wordsT s = P ++ wsp (s.drop i) cur
  l : cur.length ≤ i
  n : P.length ≤ i
theorem WdTo.sep {s : List UInt8} {P : List (List UInt8)} {cur : List UInt8} {i : Nat} (h : WdTo s P cur i) (hi : i < s.length) (hs : isSep s[i]! = true) : WdTo s (P ++ [cur]) [] (i + 1) := by
  obtain ⟨e, l, n⟩ := h
  have hd : s.drop i = s[i]! :: s.drop (i + 1) := by rw [List.drop_eq_getElem_cons hi, getElem!_pos s i hi]
  rw [hd, wsp, if_pos hs] at e
  exact ⟨by rw [e]; simp, by simp, by simp; omega⟩
theorem WdTo.let {s : List UInt8} {P : List (List UInt8)} {cur : List UInt8} {i : Nat} (h : WdTo s P cur i) (hi : i < s.length) (hs : isSep s[i]! = false) : WdTo s P (cur ++ [s[i]!]) (i + 1) := by
  obtain ⟨e, l, n⟩ := h
  have hd : s.drop i = s[i]! :: s.drop (i + 1) := by rw [List.drop_eq_getElem_cons hi, getElem!_pos s i hi]
  rw [hd, wsp, if_neg (by rw [hs]; nofun)] at e
  exact ⟨e, by simp; omega, by omega⟩
theorem wsp_len : ∀ (s cur : List UInt8), ∀ w ∈ wsp s cur, w.length ≤ cur.length + s.length
  | [], cur, w, hw => by rw [wsp] at hw; rw [List.mem_singleton.1 hw]; simp
  | c :: s, cur, w, hw => by
    rw [wsp] at hw
    split at hw
    · rcases List.mem_cons.1 hw with rfl | hw
      · omega
      · have := wsp_len s [] w hw
        simp only [List.length_nil, List.length_cons] at *
        omega
    · have := wsp_len s _ w hw
      simp only [List.length_append, List.length_cons, List.length_nil] at *
      omega
theorem wsp_num : ∀ (s cur : List UInt8), 0 < (wsp s cur).length ∧ (wsp s cur).length ≤ s.length + 1
  | [], cur => by simp [wsp]
  | c :: s, cur => by
    rw [wsp]
    split
    · have := wsp_num s []
      simp only [List.length_cons]; omega
    · have := wsp_num s (cur ++ [c])
      simp only [List.length_cons]; omega
def w0H (cur : List UInt8) : Heap := [.ar 1 [[.s cur]] (some 1) true false]
theorem w0_app {cur : List UInt8} : appD (w0H cur) (.mu 0 1 0 1) (.sv 1 [[.s []]]) 1 16 true = some (bD (w0H cur) .nil ([cur, []].map strRow), bH (w0H cur) 1 ([cur, []].map strRow)) := by rfl
theorem bsl_s0 : bslD [] 1 1 [.s []] [(0, .s [])] true = some (.mu 0 1 0 1, w0H []) := rfl
theorem take_one {s : List UInt8} {i : Nat} (hi : i < s.length) : (s.take (i + 1)).drop i = [s[i]!] := by
  rw [List.drop_take, show i + 1 - i = 1 by omega, List.drop_eq_getElem_cons hi, getElem!_pos s i hi]; rfl
theorem snoc_get {P : List (List UInt8)} {c : List UInt8} : (P ++ [c])[P.length]! = c := by
  rw [getElem!_pos _ _ (by simp)]; simp
theorem snoc_set {P : List (List UInt8)} {c d : List UInt8} : ((P ++ [c]).map strRow).set P.length [.s d] = (P ++ [d]).map strRow := by
  simp [strRow]
theorem snoc_s {L : List (List UInt8)} {c : List UInt8} : L.map strRow ++ [[.s c]] = (L ++ [c]).map strRow := by simp [strRow]
/-- The words so far, in the heap. -/
structure WdSt (P : List (List UInt8)) (cur : List UInt8) (H : Heap) (X : D) : Prop where
  h : (P = [] ∧ H = w0H cur ∧ X = .mu 0 1 0 1) ∨ (∃ w0 : List UInt8, P ≠ [] ∧ H = bH (w0H w0) 1 ((P ++ [cur]).map strRow) ∧ X = bD (w0H w0) .nil ((P ++ [cur]).map strRow))
set_option maxRecDepth 100000 in
theorem words20 {s : List UInt8} (hl : s.length ≤ 1000000) : PRet VS 20 [.s s] (.im 1 ((wordsT s).map strRow)) := by
  refine .body (vf := v20) rfl rfl ?_
  simp (disch := omega) only [go_sem, Nat.reduceSub, v20, bsl_s0]
  refine Run.up (fun i st => ∃ P cur a2 a3 H X, WdTo s P cur i ∧ WdSt P cur H X ∧ st = ⟨[.s s, .nil, a2, a3, X, .i .i64 i], H⟩) s.length ⟨[], [], .u, .u, _, _, ⟨rfl, by simp, by simp⟩, ⟨.inl ⟨rfl, rfl, rfl⟩⟩, rfl⟩ ?_
  rintro i st hi ⟨P, cur, a2, a3, H, X, hw, ⟨hph⟩, rfl⟩
  by_cases hlt : i < s.length
  · have hlt' : decide ((i : Int) < (s.length : Int)) = true := by simpa using hlt
    have hto := take_one hlt
    have hcl := hw.l
    have hPn := hw.n
    have hLl : (P ++ [cur]).length = P.length + 1 := by simp
    cases hs : isSep s[i]! with
    | true =>
      have hnew := hw.sep hlt hs
      have hst : WdSt (P ++ [cur]) [] (bH (w0H (match P with | [] => cur | p :: _ => p)) 1 ((P ++ [cur] ++ [[]]).map strRow)) (bD (w0H (match P with | [] => cur | p :: _ => p)) .nil ((P ++ [cur] ++ [[]]).map strRow)) := ⟨.inr ⟨_, by simp, rfl, rfl⟩⟩
      have hst2 : ∀ w0, WdSt (P ++ [cur]) [] (bH (w0H w0) 1 ((P ++ [cur] ++ [[]]).map strRow)) (bD (w0H w0) .nil ((P ++ [cur] ++ [[]]).map strRow)) := fun w0 => ⟨.inr ⟨_, by simp, rfl, rfl⟩⟩
      simp only [isSep, Bool.or_eq_true, decide_eq_true_eq] at hs
      have hsn : (P ++ [cur]).map strRow ++ [[.s []]] = (P ++ [cur] ++ [[]]).map strRow := snoc_s
      by_cases h32 : s[i]!.toNat = 32
      · have b1 : decide ((s[i]!.toNat : Int) = 32) = true := decide_eq_true (by omega)
        rcases hph with ⟨rfl, rfl, rfl⟩ | ⟨w0, hP, rfl, rfl⟩
        · simp (disch := omega) only [go_sem, Nat.reduceLT, v20l0, hlt', b1, w0_app, wr]
          exact ⟨by omega, hlt, [] ++ [cur], [], hnew, _, _, _, _, hst2 cur, ⟨rfl, rfl, rfl⟩, rfl⟩
        · simp (disch := omega) only [go_sem, Nat.reduceLT, v20l0, hlt', b1, app_n, hsn, wr]
          exact ⟨by omega, hlt, _, [], hnew, _, _, _, _, hst2 w0, ⟨rfl, rfl, by simp⟩, by simp⟩
      · have b1 : decide ((s[i]!.toNat : Int) = 32) = false := decide_eq_false (by omega)
        have b2 : decide ((s[i]!.toNat : Int) = 10) = true := decide_eq_true (by omega)
        rcases hph with ⟨rfl, rfl, rfl⟩ | ⟨w0, hP, rfl, rfl⟩
        · simp (disch := omega) only [go_sem, Nat.reduceLT, v20l0, hlt', b1, b2, w0_app, wr]
          exact ⟨by omega, by omega, hlt, [] ++ [cur], [], hnew, _, _, _, _, hst2 cur, ⟨rfl, rfl, rfl⟩, rfl⟩
        · simp (disch := omega) only [go_sem, Nat.reduceLT, v20l0, hlt', b1, b2, app_n, hsn, wr]
          exact ⟨by omega, by omega, hlt, _, [], hnew, _, _, _, _, hst2 w0, ⟨rfl, rfl, by simp⟩, by simp⟩
    | false =>
      have hnew := hw.let hlt hs
      simp only [isSep, Bool.or_eq_false_iff, decide_eq_false_iff_not] at hs
      have b1 : decide ((s[i]!.toNat : Int) = 32) = false := decide_eq_false (by omega)
      have b2 : decide ((s[i]!.toNat : Int) = 10) = false := decide_eq_false (by omega)
      rcases hph with ⟨rfl, rfl, rfl⟩ | ⟨w0, hP, rfl, rfl⟩
      · simp (disch := omega) only [go_sem, Nat.reduceLeDiff, Nat.reduceLT, Int.reduceLE, Int.reduceLT, Int.reduceSub, v20l0, hlt', wr, b1, b2, w0H, hto]
        exact ⟨by omega, by omega, by omega, by omega, hlt, [], _, hnew, _, _, _, _, ⟨.inl ⟨rfl, rfl, rfl⟩⟩, ⟨rfl, rfl, rfl⟩, rfl⟩
      · have g1 : (P ++ [cur])[P.length]! = cur := snoc_get
        have ep : ((P.length : Int) + 1 - 1) = (P.length : Nat) := by omega
        have hst2 : WdSt P (cur ++ [s[i]!]) (bH (w0H w0) 1 ((P ++ [cur ++ [s[i]!]]).map strRow)) (bD (w0H w0) .nil ((P ++ [cur ++ [s[i]!]]).map strRow)) := ⟨.inr ⟨_, hP, rfl, rfl⟩⟩
        have hcong : bD (w0H w0) .nil ((P ++ [cur]).map strRow) = bD (w0H w0) .nil ((P ++ [cur ++ [s[i]!]]).map strRow) := bD_cong (by simp)
        have hss : ((P ++ [cur]).map strRow).set P.length [.s (cur ++ [s[i]!])] = (P ++ [cur ++ [s[i]!]]).map strRow := snoc_set
        obtain ⟨L, hL⟩ : ∃ L, L = P ++ [cur] := ⟨_, rfl⟩
        rw [← hL] at g1 hcong hss hLl ⊢
        have hLn : L.length - 1 = P.length := by omega
        have eL : (L.length : Int) - 1 = ((L.length - 1 : Nat) : Int) := by omega
        rw [← hLn] at g1 hss
        simp (disch := omega) only [go_sem, Nat.reduceLeDiff, v20l0, hlt', wr, b1, b2, hto, eL, g1, strRow, hss]
        exact ⟨by omega, by omega, by omega, by omega, by omega, by omega, by omega, by omega, by omega, hlt, P, _, hnew, _, _, _, _, hst2, ⟨rfl, rfl, hcong⟩, rfl⟩
  · have hil : i = s.length := by omega
    subst hil
    have hlt' : decide ((s.length : Int) < (s.length : Int)) = false := by simp
    have he := hw.e
    rw [List.drop_length, wsp] at he
    rw [he]
    rcases hph with ⟨rfl, rfl, rfl⟩ | ⟨w0, hP, rfl, rfl⟩
    · simp (disch := omega) only [go_sem, v20l0, hlt', w0H, strRow]
    · have him : imD .nil 1 ((P ++ [cur]).map strRow) = .im 1 ((P ++ [cur]).map strRow) := by
        cases P <;> rfl
      simp (disch := omega) only [go_sem, v20l0, hlt', him]
theorem c20w {s : List UInt8} (hl : s.length ≤ 1000000) {H : Heap} {K : CR → Prop} : CallQ VS 20 [.s s] H K ↔ K (.ret (.im 1 ((wordsT s).map strRow)) H) :=
  (words20 hl).c (vf := v20) rfl rfl rfl (.inl rfl)
end Go.Proofs.YtnhbopeopppojaaGreatDoor.Dv
