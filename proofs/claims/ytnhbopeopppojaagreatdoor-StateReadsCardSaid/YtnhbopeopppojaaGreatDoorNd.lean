/-
  The answers beside the machine: Itoa, Join, the Builder's WriteString and String.
-/
import Derived.Test.YtnhbopeopppojaaGreatDoorNc
import Derived.Test.YtnhbopeopppojaaGreatDoorDi
namespace Go.Proofs.YtnhbopeopppojaaGreatDoor.Dv
open Go.Dm Go.Proofs Go.Sort

def strsOf : List (List D) → Option (List (List UInt8))
  | [] => some []
  | [.s x] :: r => match strsOf r with
    | some l => some (x :: l)
    | none => none
  | _ => none
theorem strsOf_rows : ∀ {rows : List (List D)} {l : List (List UInt8)}, strsOf rows = some l → rows = l.map strRow
  | [], l, h => by cases h; rfl
  | r :: rows, l, h => by
    unfold strsOf at h
    split at h
    · rename_i e; cases e
    · rename_i x r' e
      cases e
      split at h
      · rename_i l' h'; cases h; rw [List.map_cons, ← strsOf_rows h']; rfl
      · cases h
    · cases h
theorem strsOf_map : ∀ l : List (List UInt8), strsOf (l.map strRow) = some l
  | [] => rfl
  | x :: l => by rw [List.map_cons, strRow, strsOf, strsOf_map l]

def joinD (sep : List UInt8) : Option (List (List UInt8)) → Option D
  | some (x :: l) => if (x :: l).length ≤ 140737488355328 ∧ (Lib.join (x :: l) sep).length ≤ 140737488355328 then some (.s (Lib.join (x :: l) sep)) else none
  | _ => none
def extS (f : FuncId) (args : List D) (H : Heap) : Option (D × Heap) :=
  match f with
  | 37 => bldW 81 5 args H
  | 40 => bldS 81 5 args H
  | _ => none
def pextS (f : FuncId) (ds : List D) : Option D :=
  match f with
  | 70 => match ds with
    | [.i .i64 n] => if -9223372036854775808 ≤ n ∧ n ≤ 9223372036854775807 then some (.s (Lib.itoa n)) else none
    | _ => none
  | 71 => match ds with
    | [.im 1 rows, .s sep] => joinD sep (strsOf rows)
    | _ => none
  | _ => none
abbrev VS : VProg := Vx extS pextS

theorem vokS : VOK Tryz.prog VS LaidT := by
  refine vokx laidT_up (fun f args H d H' h => ?_) (fun f ds d vf hf h K W vs hT hr hv => ?_)
  · unfold extS at h
    split at h
    · obtain ⟨h1, h2⟩ := bldW_sim (P := Tryz.prog) (ρ := Tryz.join_ren) { Tryz.join with } extra h
      exact ⟨h1, ⟨Tryz.f37, Tryz.func37, by kernel_rfl, by decide +kernel⟩, fun K μ W vs _ hr hv => h2 K μ W vs hr hv⟩
    · obtain ⟨h1, h2⟩ := bldS_sim (P := Tryz.prog) (ρ := Tryz.join_ren) { Tryz.join with } extra h
      exact ⟨h1, ⟨Tryz.f40, Tryz.func40, by kernel_rfl, by decide +kernel⟩, fun K μ W vs _ hr hv => h2 K μ W vs hr hv⟩
    · cases h
  · unfold pextS at h
    split at h
    · split at h
      · rename_i n
        split at h
        · rename_i hn
          cases h
          obtain ⟨x, rfl, hx⟩ := vrs_one hv
          cases hx
          have : vf.own = false := by cases hf; rfl
          rw [this]
          exact itoa74 n hn.1 hn.2 K W hT hr
        · cases h
      · cases h
    · split at h
      · rename_i rows sep
        unfold joinD at h
        split at h
        · rename_i x l hrows
          split at h
          · rename_i hl
            cases h
            obtain ⟨v, y, rfl, hx, hy⟩ := vrs_two hv
            cases hy
            have : vf.own = false := by cases hf; rfl
            rw [this]
            obtain rfl := strsOf_rows hrows
            exact join75 (x :: l) sep (by simp) hl.1 hl.2 K W v hr hx
          · cases h
        · cases h
      · cases h
    · cases h

theorem awakeRun : pcall VS 400 6 [] = .ret (.b true) := by kernel_rfl
end Go.Proofs.YtnhbopeopppojaaGreatDoor.Dv
