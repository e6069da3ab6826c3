/-
  The sort of spans beside the machine is the program's: by the library's contract of slices.SortFunc.
-/
import Derived.Test.YtkogdbgccjmaoaaTs
import Derived.Test.YtkogdbgccjmaoaaVok
import Derived.Shelf.SlSortCmp.WholeK
import Derived.Shelf.SlicesG.Cmp
import Derived.ProofKit
namespace Go.Proofs
open Go.Shelf
def Try.sortSp_ren : Go.Shelf.Ren := ⟨fun | 6 => 61 | 15 => 78 | 14 => 77 | 28 => 89 | 29 => 90 | 20 => 81 | 21 => 82 | 22 => 83 | 23 => 84 | 24 => 85 | 25 => 86 | 26 => 87 | 27 => 88 | 46 => 91 | 47 => 92 | 48 => 93 | 49 => 94 | 50 => 95 | 57 => 96 | n => n, fun | 22 => 56 | 24 => 90 | 25 => 124 | 3 => 3 | 39 => 144 | 0 => 0 | 53 => 155 | 55 => 157 | 4 => 4 | 46 => 148 | 45 => 147 | 50 => 152 | 5 => 5 | 9 => 9 | 66 => 158 | 70 => 162 | 76 => 164 | 77 => 165 | n => n, fun | n => n⟩
theorem Try.sortSp : Go.Proofs.SlLaysF0.n6 Try.prog Try.sortSp_ren := {
  mixed := by kernel_rfl
  f6 := ⟨Try.f61.name, by decide, Try.func61.trans (congrArg some (by kernel_rfl))⟩
  f14 := ⟨Try.f77.name, by decide, Try.func77.trans (congrArg some (by kernel_rfl))⟩
  f15 := Try.func78.trans (congrArg some (by kernel_rfl))
  f20 := ⟨Try.f81.name, by decide, Try.func81.trans (congrArg some (by kernel_rfl))⟩
  f21 := ⟨Try.f82.name, by decide, Try.func82.trans (congrArg some (by kernel_rfl))⟩
  f22 := ⟨Try.f83.name, by decide, Try.func83.trans (congrArg some (by kernel_rfl))⟩
  f23 := ⟨Try.f84.name, by decide, Try.func84.trans (congrArg some (by kernel_rfl))⟩
  f24 := ⟨Try.f85.name, by decide, Try.func85.trans (congrArg some (by kernel_rfl))⟩
  f25 := ⟨Try.f86.name, by decide, Try.func86.trans (congrArg some (by kernel_rfl))⟩
  f26 := ⟨Try.f87.name, by decide, Try.func87.trans (congrArg some (by kernel_rfl))⟩
  f27 := ⟨Try.f88.name, by decide, Try.func88.trans (congrArg some (by kernel_rfl))⟩
  f28 := Try.func89.trans (congrArg some (by kernel_rfl))
  f29 := Try.func90.trans (congrArg some (by kernel_rfl))
  f46 := ⟨Try.f91.name, by decide, Try.func91.trans (congrArg some (by kernel_rfl))⟩
  f47 := Try.func92.trans (congrArg some (by kernel_rfl))
  f48 := Try.func93.trans (congrArg some (by kernel_rfl))
  f49 := ⟨Try.f94.name, by decide, Try.func94.trans (congrArg some (by kernel_rfl))⟩
  f50 := ⟨Try.f95.name, by decide, Try.func95.trans (congrArg some (by kernel_rfl))⟩
  f57 := ⟨Try.f96.name, by decide, Try.func96.trans (congrArg some (by kernel_rfl))⟩
  t0 := Try.underlying0
  a0 := Try.isAgg0
  z0 := Try.sizeOf0
  v0 := Try.zeroValue0
  t3 := Try.underlying3
  a3 := Try.isAgg3
  z3 := Try.sizeOf3
  v3 := Try.zeroValue3
  t4 := Try.underlying4
  a4 := Try.isAgg4
  z4 := Try.sizeOf4
  v4 := Try.zeroValue4
  t5 := Try.underlying5
  a5 := Try.isAgg5
  z5 := Try.sizeOf5
  v5 := Try.zeroValue5
  t9 := Try.underlying9
  a9 := Try.isAgg9
  z9 := Try.sizeOf9
  v9 := Try.zeroValue9
  t22 := Try.underlying56
  a22 := Try.isAgg56
  z22 := Try.sizeOf56
  v22 := Try.zeroValue56
  t25 := Try.underlying124
  a25 := Try.isAgg124
  z25 := Try.sizeOf124
  v25 := Try.zeroValue124
  t39 := Try.underlying144
  a39 := Try.isAgg144
  z39 := Try.sizeOf144
  v39 := Try.zeroValue144
  t45 := Try.underlying147
  a45 := Try.isAgg147
  z45 := Try.sizeOf147
  v45 := Try.zeroValue147
  t46 := Try.underlying148
  a46 := Try.isAgg148
  z46 := Try.sizeOf148
  v46 := Try.zeroValue148
  t50 := Try.underlying152
  a50 := Try.isAgg152
  z50 := Try.sizeOf152
  v50 := Try.zeroValue152
  t53 := Try.underlying155
  a53 := Try.isAgg155
  z53 := Try.sizeOf155
  v53 := Try.zeroValue155
  t55 := Try.underlying157
  a55 := Try.isAgg157
  z55 := Try.sizeOf157
  v55 := Try.zeroValue157
  t66 := Try.underlying158
  a66 := Try.isAgg158
  z66 := Try.sizeOf158
  v66 := Try.zeroValue158
  t70 := Try.underlying162
  a70 := Try.isAgg162
  z70 := Try.sizeOf162
  v70 := Try.zeroValue162
  t76 := Try.underlying164
  a76 := Try.isAgg164
  z76 := Try.sizeOf164
  v76 := Try.zeroValue164
  t77 := Try.underlying165
  a77 := Try.isAgg165
  z77 := Try.sizeOf165
  v77 := Try.zeroValue165 }
def Try.cmpInt_ren : Go.Shelf.Ren := ⟨fun | 5 => 63 | 7 => 79 | n => n, fun | 22 => 3 | 3 => 3 | 4 => 4 | n => n, fun | n => n⟩
theorem Try.cmpInt : Go.Proofs.SlLaysC2.n5 Try.prog Try.cmpInt_ren := {
  mixed := by kernel_rfl
  f5 := ⟨Try.f63.name, by decide, Try.func63.trans (congrArg some (by kernel_rfl))⟩
  f7 := ⟨Try.f79.name, by decide, Try.func79.trans (congrArg some (by kernel_rfl))⟩
  t3 := Try.underlying3
  a3 := Try.isAgg3
  z3 := Try.sizeOf3
  v3 := Try.zeroValue3
  t4 := Try.underlying4
  a4 := Try.isAgg4
  z4 := Try.sizeOf4
  v4 := Try.zeroValue4
  t22 := Try.underlying3
  a22 := Try.isAgg3
  z22 := Try.sizeOf3
  v22 := Try.zeroValue3 }

end Go.Proofs
namespace Go.Proofs.Ytkogdbgccjmaoaa.Dv
open Go.Dm Go.Shelf Go.RowKit Go.Lib Go.Sort Go.Proofs

def encS (x : Int × Int) : List Value := [.int .i64 x.1, .int .i64 x.2]

set_option maxHeartbeats 1000000 in
theorem closure62 (x y : Int × Int) (W : World) : Calls Try.prog 62 #[.agg #[.int .i64 x.1, .int .i64 x.2], .agg #[.int .i64 y.1, .int .i64 y.2]] W fun e w' => e = .returned (.int .i64 (Lib.compareInt x.1 y.1)) ∧ ∃ q os', w' = grow (W.drewN q) os' := by
  have hcon := fun W' => AnyG.cmp_Compare_int Try.cmpInt x.1 y.1 W'
  change ∀ W', Calls Try.prog 63 _ _ _ at hcon
  generalize Lib.compareInt x.1 y.1 = r at hcon ⊢
  go_enter Try.func62, Try.ntmps62
  go_wp2_with (go_at_call 63; refine (hcon _).mono ?_; rintro e w' ⟨rfl, rfl⟩)
  go_ret
  exact ⟨rfl, 0, _, by rw [alloc_eq_grow, alloc_eq_grow, grow_grow]; rfl⟩
theorem cmpLays62 (blk off size : Nat) (w : World) : CmpLays Try.prog 62 #[] encS 2 cfS blk off size w :=
  fun _ _ _ _ x y => closure62 x y _

theorem mapO_un : ∀ {rows : List (List D)} {l : List (Int × Int)}, mapO unR rows = some l → rows = l.map spR
  | [], l, h => by cases h; rfl
  | r :: rows, l, h => by
    simp only [mapO] at h
    split at h
    · rename_i p hp
      split at h
      · rename_i l' hl'
        cases h
        have := mapO_un hl'
        unfold unR at hp
        split at hp
        · cases hp; rw [this]; rfl
        · cases hp
      · cases h
    · cases h
theorem flat_at (l : List (Int × Int)) (i j : Nat) (hi : i < l.length) (hj : j < 2) : (flatK encS 2 l.toArray)[i * 2 + j]! = (encS l[i]!)[j]! := by
  rw [get_flatK _ _ _ _ (by simp; omega)]
  have e1 : (i * 2 + j) / 2 = i := by omega
  have e2 : (i * 2 + j) % 2 = j := by omega
  rw [e1, e2]
  simp
theorem rows_at {l : List (Int × Int)} {i j : Nat} {r : List D} {d : D} (hr : (l.map spR)[i]? = some r) (hd : r[j]? = some d) : i < l.length ∧ j < 2 ∧ ∀ (K : Kn), VR K mu0 [] d ((encS l[i]!)[j]!) ∧ ((encS l[i]!)[j]!).oneCell' = true := by
  rw [List.getElem?_map] at hr
  by_cases hi : i < l.length
  · rw [List.getElem?_eq_getElem hi] at hr
    cases hr
    have hj : j < 2 := by
      have := lt_of_get hd
      simpa [spR] using this
    rw [getElem!_pos l i hi]
    refine ⟨hi, hj, fun K => ?_⟩
    match j, hj, hd with
    | 0, _, hd => cases hd; exact ⟨.i .., rfl⟩
    | 1, _, hd => cases hd; exact ⟨.i .., rfl⟩
  · rw [List.getElem?_eq_none (by omega)] at hr; cases hr
theorem ext61 (f : FuncId) (args : List D) (H : Heap) (d : D) (H' : Heap) (h : extS f args H = some (d, H')) : H.length ≤ H'.length ∧ ∀ (K : Kn) (μ : Mu) (W : World) (vs : List Value), HR K μ H W → VRs K μ H args vs → Calls Try.prog f vs.toArray W (Gives K μ H W d H') := by
  unfold extS at h
  split at h
  · rename_i hf
    subst hf
    split at h
    · rename_i a n len
      split at h
      · rename_i rows cap harr
        split at h
        · rename_i hc
          obtain ⟨rfl, hpos, hlim⟩ := hc
          split at h
          · rename_i l hl
            cases h
            have hrows := mapO_un hl
            subst hrows
            obtain ⟨hH, hn⟩ := arr_eq harr
            rw [List.length_map] at hn
            refine ⟨by simp, fun K μ W vs hr hv => ?_⟩
            obtain ⟨v1, v2, rfl⟩ : ∃ v1 v2, vs = [v1, v2] := by
              have := hv.1
              match vs, this with
              | [v1, v2], _ => exact ⟨v1, v2, rfl⟩
            have h1 := hv.2 0 _ v1 rfl rfl
            have h2 := hv.2 1 _ v2 rfl rfl
            have e2 : v2 = .func (.func 62) #[] #[] := by
              cases h2 with
              | fn _ _ _ _ _ va vb la lb _ _ =>
                have ha : va = [] := List.eq_nil_of_length_eq_zero la.symm
                have hb : vb = [] := List.eq_nil_of_length_eq_zero lb.symm
                subst ha; subst hb; rfl
            subst e2
            cases h1 with
            | mu _ _ _ _ _ _ cp blk o lc w2 rows2 kc2 p2 lk2 hm hH2 hnn hcond =>
              rw [hH] at hH2
              cases hH2
              obtain ⟨hadr, _, hcp, _, hsz, _⟩ := hcond (by rw [List.length_map]; exact hn)
              have hblk : blk = lc.blk ∧ o = lc.off := by
                rcases hadr with x | ⟨x, y⟩
                · omega
                · exact ⟨x, by simpa using y⟩
              obtain ⟨rfl, rfl⟩ := hblk
              obtain ⟨hwd, hkc, hfit, cs, ty, hb, hcs, hra⟩ := hr.blk a lc _ hm hH
              rw [List.length_map] at hfit
              have hlt := hr.lt a lc hm
              have hold : HoldsK encS 2 W lc.blk lc.off l.toArray := by
                intro t ht
                have ht' : t < l.length * 2 := by simpa using ht
                obtain ⟨i, j, rfl, hj⟩ : ∃ i j, t = i * 2 + j ∧ j < 2 := ⟨t / 2, t % 2, by omega, by omega⟩
                have hi : i < l.length := by omega
                have hrow : (l.map spR)[i]? = some (spR l[i]) := by rw [List.getElem?_map, List.getElem?_eq_getElem hi]; rfl
                obtain ⟨dd, hdd⟩ : ∃ dd, (spR l[i])[j]? = some dd := ⟨(spR l[i])[j]'(by simpa [spR] using hj), List.getElem?_eq_getElem _⟩
                obtain ⟨v, g1, g2⟩ := hra i _ j dd hrow hdd
                obtain ⟨_, _, g3⟩ := rows_at hrow hdd
                have hv : v = (encS l[i]!)[j]! := by
                  have q1 := g2.2
                  have q2 := (g3 K).1
                  have hd2 : ∃ z, dd = .i .i64 z := by
                    match j, hj, hdd with
                    | 0, _, hdd => cases hdd; exact ⟨_, rfl⟩
                    | 1, _, hdd => cases hdd; exact ⟨_, rfl⟩
                  obtain ⟨z, rfl⟩ := hd2
                  generalize (encS l[i]!)[j]! = u at q2
                  cases q1; cases q2; rfl
                rw [flat_at l i j hi hj]
                refine ⟨?_, by simp [World.frozen?, hb]⟩
                have g1' : cs[lc.off + (i * 2 + j)]? = some v := g1
                rw [cell_of_row W lc.blk _ cs ty (0, 0) hb, g1', hv]; rfl
              have eg : ∀ args w, (callFunc 62 args).run Try.prog w = .ok (.enter 62 args) w := enters_of Try.func62 (by kernel_rfl) rfl
              have hcon := AnyQ.slices_SortFunc_eq Try.sortSp 2 Try.isAgg90 Try.sizeOf90 encS (fun _ => rfl) (fun x v hv => by simp [encS] at hv; rcases hv with rfl | rfl <;> rfl) cfS swoS 62 #[] lc.blk lc.off cp l.toArray W eg (cmpLays62 lc.blk lc.off l.toArray.size W) hold hlt (by simp; omega)
              have hsize : l.toArray.size = l.length := by simp
              rw [hsize] at hcon
              subst hn
              refine hcon.mono ?_
              rintro e W' ⟨rfl, m, os, rfl⟩
              have hlen : (sortSp l).length = l.length := sortSp_len l
              have hW : (sortWorldK encS 2 W lc.blk lc.off m (sortA l.toArray) os).heap[lc.blk]? = some (.cells (putCells id lc.off (flatK encS 2 (sortA l.toArray)) cs) ty (0, 0)) := by
                simp only [sortWorldK, grow, putRowK, Go.Sort.putRow, mapBlock, ahead]
                rw [Array.getElem?_append_left (by simpa using hlt), Array.getElem?_modify, if_pos rfl, show (Go.Sort.ahead W m).heap = W.heap from rfl, hb]
                simp [onCells]
              have hsz' : (sortA l.toArray).size = l.length := by rw [← hlen]; simp [sortSp]
              have hput := hr.put a lc lc _ (.ar 2 ((sortSp l).map spR) cap true false) (W' := sortWorldK encS 2 W lc.blk lc.off m (sortA l.toArray) os) hm hH rfl rfl (.ar _ _ _ _ _ _ _ _ _ _ (by simp [hlen]) (fun _ => ⟨rfl, rfl⟩) (fun c hc => ⟨rfl, hc⟩)) rfl rfl rfl (by simp [sortWorldK, grow, putRowK, Go.Sort.putRow, mapBlock, ahead]) (fun r hr' hne => by
                  simp only [sortWorldK, grow, putRowK, Go.Sort.putRow, mapBlock, ahead]
                  rw [Array.getElem?_append_left (by simpa using hr'), Array.getElem?_modify]
                  rw [if_neg (Ne.symm hne)]; rfl) (.inl rfl) (by simp [sortWorldK, grow, putRowK, Go.Sort.putRow, mapBlock, ahead]; omega) (by
                  refine ⟨?_, fun c hc => by rw [List.length_map, hlen]; simpa using hkc c hc, by rw [List.length_map, hlen]; exact hfit, _, ty, hW, by simpa [putCells] using hcs, ?_⟩
                  · intro i r hr'
                    rw [List.getElem?_map] at hr'
                    cases hx : (sortSp l)[i]? with
                    | none => rw [hx] at hr'; cases hr'
                    | some x => rw [hx] at hr'; cases hr'; rfl
                  · intro i r j dd hrr hdd
                    obtain ⟨hi, hj, g3⟩ := rows_at hrr hdd
                    refine ⟨(encS (sortSp l)[i]!)[j]!, ?_, ?_⟩
                    · have e3 := flat_at (sortSp l) i j hi hj
                      have e4 : (sortSp l).toArray = sortA l.toArray := by simp [sortSp]
                      rw [e4] at e3
                      have hlt2 : lc.off + (i * 2 + j) < cs.size := by rw [hcs]; omega
                      simp only [putCells, Array.getElem?_mapIdx, Array.getElem?_eq_getElem hlt2, Option.map_some]
                      rw [if_pos ⟨by omega, by rw [size_flatK, hsz']; omega⟩, show lc.off + (i * 2 + j) - lc.off = i * 2 + j by omega, e3]; rfl
                    · exact ⟨(g3 K).2, (g3 _).1⟩)
              exact ⟨_, _, hput.1, hput.2, .tu _ _ [] [] rfl (fun j d v x y => by simp at x)⟩
          · cases h
        · cases h
      · cases h
    · cases h
  · cases h
end Go.Proofs.Ytkogdbgccjmaoaa.Dv
