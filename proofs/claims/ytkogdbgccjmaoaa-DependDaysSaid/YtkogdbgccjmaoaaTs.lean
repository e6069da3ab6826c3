/-
  The machine's program with the sort of spans, and the examples, shown beside it.
-/
import Derived.Test.YtkogdbgccjmaoaaV
import Derived.Test.YtkogdbgccjmaoaaDh
import Derived.Sort.AssemblyPlain
import Derived.Lib.Small
import Derived.Lib.BitFns
import Derived.KernelRfl
namespace Go.Proofs.Ytkogdbgccjmaoaa.Dv
open Go.Dm Go.Sort

def spR (p : Int × Int) : List D := [.i .i64 p.1, .i .i64 p.2]
def unR : List D → Option (Int × Int)
  | [.i .i64 a, .i .i64 b] => some (a, b)
  | _ => none
def cfS (x y : Int × Int) : Int := Lib.compareInt x.1 y.1
def ltS (x y : Int × Int) : Bool := decide (cfS x y < 0)
/-- The spans sorted as slices.SortFunc does. -/
def sortA (d : Array (Int × Int)) : Array (Int × Int) := pdq ltS d 0 d.size (Lib.bitLen d.size) true true
def sortSp (l : List (Int × Int)) : List (Int × Int) := (sortA l.toArray).toList
def extS (f : FuncId) (args : List D) (H : Heap) : Option (D × Heap) :=
  if f = 61 then match args with
    | [.mu a n 0 len, .fn (.func 62) [] []] => match arr H a n with
      | some (2, rows, cap, true, false) => if len = n ∧ 0 < n ∧ n < 4611686018427387904 then match mapO unR rows with
          | some l => some (.tu [], H.set a (.ar 2 ((sortSp l).map spR) cap true false))
          | none => none
        else none
      | _ => none
    | _ => none
  else none
def pextS (f : FuncId) (ds : List D) : Option D := if f = 8 then match ds with
    | [] => some (.b true)
    | _ => none
  else none
def V : VProg := Vx extS pextS

theorem ltS_eq (x y : Int × Int) : ltS x y = decide (x.1 < y.1) := by
  unfold ltS cfS Lib.compareInt
  by_cases h1 : x.1 < y.1
  · simp [h1]
  · by_cases h2 : y.1 < x.1 <;> simp [h1, h2]
theorem swoS : SWO ltS where
  irrefl x := by rw [ltS_eq]; simp
  trans x y q h1 h2 := by rw [ltS_eq] at *; simp at *; omega
  ntrans x y q h1 h2 := by rw [ltS_eq] at *; simp at *; omega
theorem sortA_ok (d : Array (Int × Int)) : PermIn 0 d.size d (sortA d) ∧ SortedIn ltS 0 d.size (sortA d) :=
  pdq_sorts ltS swoS d 0 d.size (Lib.bitLen d.size) true true (Nat.zero_le _) (Nat.le_refl _) (Or.inl rfl)
theorem mapO_sp : ∀ l : List (Int × Int), mapO unR (l.map spR) = some l
  | [] => rfl
  | (a, b) :: l => by
    have := mapO_sp l
    simp only [List.map_cons, mapO, spR, unR] at this ⊢
    simp only [this]
theorem sortSp_perm (l : List (Int × Int)) : (sortSp l).Perm l := by
  have h := (sortA_ok l.toArray).1
  obtain ⟨h1, _, h3⟩ := h
  have e1 : (sortA l.toArray).extract 0 l.toArray.size = sortA l.toArray := by rw [← h1]; simp
  have e2 : l.toArray.extract 0 l.toArray.size = l.toArray := by simp
  rw [e1, e2] at h3
  exact h3
theorem sortSp_len (l : List (Int × Int)) : (sortSp l).length = l.length := (sortSp_perm l).length_eq
theorem sortSp_sorted (l : List (Int × Int)) {i j : Nat} (hij : i < j) (hj : j < l.length) : (sortSp l)[i]!.1 ≤ (sortSp l)[j]!.1 := by
  have h := (sortA_ok l.toArray).2 i j (Nat.zero_le _) hij (by simpa using hj)
  rw [ltS_eq] at h
  have e : ∀ k : Nat, (sortA l.toArray)[k]! = (sortSp l)[k]! := fun k => (Array.getElem!_toList (xs := sortA l.toArray) (i := k)).symm
  rw [e, e] at h
  simpa using h
theorem nil61 (H : Heap) : call V 40 61 [.nil, .fn (.func 62) [] []] H = .ret (.tu []) H := by kernel_rfl
/-- The sort at a list that lies in an array of its own. -/
theorem sort61 {H0 : Heap} {l : List (Int × Int)} {K : CR → Prop} (hl : l.length < 4611686018427387904) : CallQ V 61 [bD H0 .nil (l.map spR), .fn (.func 62) [] []] (bH H0 2 (l.map spR)) K ↔ K (.ret (.tu []) (bH H0 2 ((sortSp l).map spR))) := by
  refine CallQ_ret ?_
  cases l with
  | nil =>
    have e : sortSp [] = [] := List.eq_nil_of_length_eq_zero (sortSp_len [])
    rw [e]
    exact .of (nil61 H0)
  | cons a l =>
    have hne : ((a :: l).map spR) ≠ [] := by simp
    have hne' : ((sortSp (a :: l)).map spR) ≠ [] := by
      intro h
      have := sortSp_len (a :: l)
      have h2 : sortSp (a :: l) = [] := by simpa using h
      rw [h2] at this
      simp at this
    have harr := bD_arr (H0 := H0) (w := 2) hne
    have hx : V.ext 61 [bD H0 .nil ((a :: l).map spR), .fn (.func 62) [] []] (bH H0 2 ((a :: l).map spR)) = some (.tu [], bH H0 2 ((sortSp (a :: l)).map spR)) := by
      have e1 : bD H0 .nil ((a :: l).map spR) = .mu H0.length ((a :: l).map spR).length 0 ((a :: l).map spR).length := rfl
      have e0 : V.ext = extS := rfl
      rw [e0, e1]
      have hc : (((a :: l).map spR).length = ((a :: l).map spR).length ∧ 0 < ((a :: l).map spR).length ∧ ((a :: l).map spR).length < 4611686018427387904) := ⟨rfl, by simp, by rw [List.length_map]; exact hl⟩
      simp only [extS, if_true, harr, mapO_sp, if_pos hc]
      congr 2
      have e2 : bH H0 2 ((a :: l).map spR) = H0 ++ [.ar 2 ((a :: l).map spR) none true false] := rfl
      rw [e2]
      generalize hq : (sortSp (a :: l)).map spR = q at hne'
      cases q with
      | nil => exact absurd rfl hne'
      | cons r q =>
        have := List.length_cons (a := a) (as := l)
        simp [bH]; omega
    exact .of (n := 1) (by simp only [call, show V.fn 61 = some v61 from rfl, show v61.pure = false from rfl, hx])
end Go.Proofs.Ytkogdbgccjmaoaa.Dv
