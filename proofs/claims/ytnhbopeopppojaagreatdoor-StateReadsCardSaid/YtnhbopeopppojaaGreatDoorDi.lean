/-
  strings.Builder beside the machine.
-/
import Derived.Test.YtnhbopeopppojaaGreatDoorDe
import Derived.Shelf.Strings.Builder1

/-
  strings.Builder beside the machine: WriteString and String at a Builder of the machine's heap.
-/
namespace Go.Dm
open Go.Proofs Go.Shelf Go.RowKit Go.Lib
variable {P : Program} {ρ : Ren}

/-- Appending a string to a row of bytes that is owned: where the new row lies. -/
theorem append_string (w : World) (t u ty e : TypeId) (i : TypeInfo) (ht : P.underlying t = some (.slice e)) (hu : P.underlying u = some .string) (hi : P.info? e = some i) (hz : i.zero = some (.int .u8 0))
    (hsize : i.size = 1) (hby : i.bytes = 1) (v : Value) (n : Nat) (xs : List Value) (hown : w.ownsRow 0 e 1 v n xs) (s : ByteArray) (h63 : n + s.size ≤ maxLen) (hbytes : n + s.size ≤ 140737488355328) :
    ∃ v' w', (Builtin.append_ #[t, u] ty #[v, .string s]).run P w = .ok v' w' ∧ w'.ownsRow 0 e 1 v' (n + s.size) (xs ++ strCells s) ∧ w.grownBy w' v.ownBlock ∧
      (v' = .slice none 0 0 ↔ v = .slice none 0 0 ∧ s.size = 0) ∧ (∀ k, v'.ownBlock = some k → v.ownBlock = some k ∨ w.heap.size ≤ k) ∧ (s.size = 0 → v' = v) := by
  obtain ⟨v', w', hr, h1, h2, h3⟩ := run_append_own_string (P := P) w 0 t u ty e i ht hu hi hz hsize hby v n xs hown s h63 hbytes (Nat.zero_le _)
  refine ⟨v', w', hr, h1, h2, h3, ?_⟩
  have hxl : xs.length = n := by simpa using hown.1
  rcases hown.2 with ⟨rfl, rfl⟩ | ⟨g, cap, cur, rfl, hbg, hg, hnc, hcm, hcs, htake⟩
  · by_cases hm : s.size = 0
    · have := h3.2 ⟨rfl, hm⟩
      subst this
      exact ⟨fun k hk => (by cases hk), fun _ => rfl⟩
    · have hr' := run_append_nil_string (P := P) w t u ty e i (.int .u8 0) ht hu hi hz s (by omega) (by simp only [maxLen] at h63; omega) (by rw [hby]; omega)
      rw [hr'] at hr
      simp only [Result.ok.injEq] at hr
      refine ⟨fun k hk => ?_, fun h => (by omega)⟩
      rw [← hr.1] at hk
      simp only [Value.ownBlock, Option.some.injEq] at hk
      exact .inr (by omega)
  · by_cases hroom : n + s.size ≤ cap
    · have hcs' : cur.size = cap := by simpa using hcs
      have hr' := run_append_room_string (P := P) w t u ty e i ht hu hi hsize g n cap cur hg s hroom (by omega)
      rw [hr'] at hr
      simp only [Result.ok.injEq] at hr
      refine ⟨fun k hk => ?_, fun h => ?_⟩
      · rw [← hr.1] at hk
        exact .inl hk
      · rw [← hr.1, h, Nat.add_zero]
    · have holds : ∀ j u, xs[j]? = some u → w.cell? ((⟨g, 0, none⟩ : Addr).add j) = some u := hown.cells (g := g) rfl
      have hr' := run_append_grow_string (P := P) w t u ty e i (.int .u8 0) ht hu hi hz ⟨g, 0, none⟩ n cap xs (by rw [hsize]; simpa using hxl) holds s (by omega) (by simp only [maxLen] at h63; omega) (by rw [hby]; exact growslice_fits (by omega) (by omega))
      rw [hr'] at hr
      simp only [Result.ok.injEq] at hr
      refine ⟨fun k hk => ?_, fun h => (by omega)⟩
      rw [← hr.1] at hk
      simp only [Value.ownBlock, Option.some.injEq] at hk
      exact .inr (by omega)

theorem wpList_append_string {w : World} {ops : Array Oper} {rest : List Oper} {o : Oper} {a : Act} {Q : Exit → Act → World → Prop} (hgd : o.guard = none) (sl x : Operand) (t u : TypeId)
    (ho : o.op = .call { callee := .builtin .append, args := #[sl, x], argTypes := #[t, u] })
    (e : TypeId) (i : TypeInfo) (ht : P.underlying t = some (.slice e)) (hu : P.underlying u = some .string) (hi : P.info? e = some i) (hz : i.zero = some (.int .u8 0))
    (hsize : i.size = 1) (hby : i.bytes = 1)
    (v : Value) (n : Nat) (xs : List Value) (hs : a.eval sl = v) (hown : w.ownsRow 0 e 1 v n xs) (s : ByteArray) (hx : a.eval x = .string s)
    (h63 : n + s.size ≤ maxLen) (hbytes : n + s.size ≤ 140737488355328)
    (h : ∀ v' w', w'.ownsRow 0 e 1 v' (n + s.size) (xs ++ strCells s) → w.grownBy w' v.ownBlock → (v' = .slice none 0 0 ↔ v = .slice none 0 0 ∧ s.size = 0) → (∀ k, v'.ownBlock = some k → v.ownBlock = some k ∨ w.heap.size ≤ k) → (s.size = 0 → v' = v) → wpList P ops Q rest (a.put o.dst v') w') : wpList P ops Q (o :: rest) a w := by
  refine wpList_plain hgd fun K hK => ?_
  obtain ⟨v', w', hr, h2, h3, h4, h5, h6⟩ := append_string (P := P) w t u o.type e i ht hu hi hz hsize hby v n xs hown s h63 hbytes
  unfold Oper.wp execOp
  simp only [ho, resolve, invoke, builtin, Sem.run_bind, Sem.run_pure, Result.andThen_ok, List.map_toArray, List.map_cons, List.map_nil, hs, hx, hr]
  exact hK _ _ (h v' w' h2 h3 h4 h5 h6)

/-- What WriteString leaves. -/
structure Wrote (tb te : TypeId) (b : Nat) (v : Value) (n : Nat) (xs : List Value) (w w' : World) (v' : Value) : Prop where
  bk : w'.heap[b]? = some (.cells #[.pointer (some ⟨b, 0, none⟩), v'] tb (0, 0))
  own : w'.ownsRow 0 te 1 v' n xs
  os : w'.os = w.os
  tape : w'.tape = w.tape
  output : w'.output = w.output
  size : w.heap.size ≤ w'.heap.size
  keep : ∀ k, k < w.heap.size → k ≠ b → some k ≠ v.ownBlock → w'.heap[k]? = w.heap[k]?
  at_ : ∀ k, v'.ownBlock = some k → v.ownBlock = some k ∨ w.heap.size ≤ k

set_option maxHeartbeats 2000000 in
set_option maxRecDepth 100000 in
theorem bld_write (L : Lays.n166 P ρ) (X : Builder.Extra P ρ) (b : Nat) (p v : Value) (xs : List Value) (s : ByteArray) (w : World) (hbk : w.heap[b]? = some (.cells #[p, v] (ρ.t 72) (0, 0))) (hp : p = .pointer none ∨ p = .pointer (some ⟨b, 0, none⟩))
    (hown : w.ownsRow 0 (ρ.t 5) 1 v xs.length xs) (hlen : xs.length + s.size ≤ 140737488355328) :
    Calls P (ρ.f 166) #[.pointer (some ⟨b, 0, none⟩), .string s] w fun e w' => e = .returned (.tuple #[.int .i64 s.size, .nilIface]) ∧ ∃ v', Wrote (ρ.t 72) (ρ.t 5) b v (xs.length + s.size) (xs ++ strCells s) w w' v' ∧ (v' = .slice none 0 0 ↔ v = .slice none 0 0 ∧ s.size = 0) ∧ (s.size = 0 → v' = v) := by
  obtain ⟨i0, hi, hz0, hz1, hz2⟩ := info_parts X.infoByte
  have hne : v.ownBlock ≠ some b := ownBlock_ne hown hbk X.neB5
  have hB : IsBuilder (ρ.t 72) (ρ.t 5) 0 b xs w := by
    rcases hp with rfl | rfl
    · exact .inl ⟨Nat.zero_le _, v, hbk, hown, hne⟩
    · exact .inr ⟨Nat.zero_le _, v, hbk, hown, hne⟩
  have hlt0 : b < w.heap.size := (Array.getElem?_eq_some_iff.1 hbk).1
  have hcc : Calls P (ρ.f 240) #[.pointer (some ⟨b, 0, none⟩)] w fun e w' => e = .returned (.tuple #[]) ∧ w'.heap[b]? = some (.cells #[.pointer (some ⟨b, 0, none⟩), v] (ρ.t 72) (0, 0)) ∧ w.grownBy w' (some b) ∧ w'.heap.size = w.heap.size := by
    rcases hp with rfl | rfl
    · refine (Any.Builder_copyCheck_fresh { L with } X.toX72 b w (by rw [cell_of_heap hbk]; rfl) (by simp [World.shape?, hbk]) (frozen_of_heap hbk 0)).mono ?_
      rintro e w' ⟨rfl, rfl⟩
      refine ⟨rfl, by simp [World.setCell, Array.getElem?_modify, hbk], ⟨rfl, rfl, rfl, by simp [World.setCell], fun k _ hk => Below.heap_setCell _ _ _ _ (fun e => hk (by simp [e]))⟩, by simp [World.setCell]⟩
    · refine (Any.Builder_copyCheck_used { L with } X.toX72 b w (by rw [cell_of_heap hbk]; rfl)).mono ?_
      rintro e w' ⟨rfl, rfl⟩
      exact ⟨rfl, hbk, ⟨rfl, rfl, rfl, Nat.le_refl _, fun _ _ _ => rfl⟩, rfl⟩
  have mixed := L.mixed
  have t72 := L.t72; have a72 := L.a72; have z72 := L.z72; have v72 := L.v72; have u72 := run_underlying L.t72
  have t70 := L.t70; have a70 := L.a70; have z70 := L.z70; have v70 := L.v70; have u70 := run_underlying L.t70
  have t37 := L.t37; have a37 := L.a37; have z37 := L.z37; have v37 := L.v37; have u37 := run_underlying L.t37
  have t3 := L.t3; have a3 := L.a3; have z3 := L.z3; have v3 := L.v3; have u3 := run_underlying L.t3
  have t9 := L.t9; have a9 := L.a9; have z9 := L.z9; have v9 := L.v9; have u9 := run_underlying L.t9
  have t4 := L.t4; have a4 := L.a4; have z4 := L.z4; have v4 := L.v4; have u4 := run_underlying L.t4
  have t164 := L.t164; have a164 := L.a164; have z164 := L.z164; have v164 := L.v164; have u164 := run_underlying L.t164
  have t5 := X.t5; have a5 := X.a5; have z5 := X.z5; have v5 := X.v5; have u5 := run_underlying X.t5
  have e240 : ∀ args w, (callFunc (ρ.f 240) args).run P w = .ok (.enter (ρ.f 240) args) w := enters_of L.f240 (by kernel_rfl) rfl
  clear hp hB
  go_enter L.f166, Body.n166_ntmps ρ
  go_wp2_with (go_at_fn (ρ.f 240); refine hcc.mono ?_)
  rintro e w1 ⟨rfl, hbk1, hb1, hsz1⟩
  have hown1 : w1.ownsRow 0 (ρ.t 5) 1 v xs.length xs := hown.kept hb1 (.inr hne)
  have c0 : w1.cell? ⟨b, 0, none⟩ = some (.pointer (some ⟨b, 0, none⟩)) := by rw [Lib.cell_of_heap hbk1]; rfl
  have c1 : w1.cell? ⟨b, 1, none⟩ = some v := by rw [Lib.cell_of_heap hbk1]; rfl
  go_wp2_with (at_builtin; refine wpList_append_string rfl _ _ (ρ.t 37) (ρ.t 9) rfl (ρ.t 5) i0 L.t37 L.t9 hi hz0 hz1 hz2 _ _ _ rfl hown1 s rfl ?c3 ?c4 ?_)
  case c3 => unfold maxLen; omega
  case c4 => omega
  intro v' w2 hown' hgrow hnil hat hsame
  have hlt : b < w1.heap.size := (Array.getElem?_eq_some_iff.1 hbk1).1
  have hb2 : w2.heap[b]? = some (.cells #[.pointer (some ⟨b, 0, none⟩), v] (ρ.t 72) (0, 0)) := by
    rw [hgrow.block b hlt (fun e => hne e.symm)]
    exact hbk1
  have d0 : w2.cell? ⟨b, 0, none⟩ = some (.pointer (some ⟨b, 0, none⟩)) := by rw [Lib.cell_of_heap hb2]; rfl
  have d1 : w2.cell? ⟨b, 1, none⟩ = some v := by rw [Lib.cell_of_heap hb2]; rfl
  have f1 : w2.frozen? ⟨b, 1, none⟩ = false := Lib.frozen_of_heap hb2 1
  have hne' : v'.ownBlock ≠ some b := ownBlock_ne hown' hb2 X.neB5
  obtain ⟨ao, n', cap, rfl⟩ : ∃ ao n' cap, v' = .slice ao n' cap := by
    rcases hown'.2 with ⟨hv, _⟩ | ⟨g, cap, cur, hv, _⟩
    · exact ⟨_, _, _, hv⟩
    · exact ⟨_, _, _, hv⟩
  go_wp2
  go_ret2
  refine ⟨rfl, .slice ao n' cap, ⟨?_, ?_, ?_, ?_, ?_, ?_, ?_, ?_⟩, by simpa using hnil, by simpa using hsame⟩
  · simp [World.setCell, Array.getElem?_modify, hb2]
  · exact hown'.kept (row := some b) ⟨rfl, rfl, rfl, by simp [World.setCell], fun k _ hk => Below.heap_setCell _ _ _ _ (fun e => hk (by simp [e]))⟩ (Or.inr hne')
  · exact hgrow.os.trans hb1.os
  · exact hgrow.tape.trans hb1.tape
  · exact hgrow.output.trans hb1.output
  · have := hgrow.size; have := hb1.size; simp [World.setCell]; omega
  · intro k hk hkb hkv
    rw [Below.heap_setCell _ _ _ _ hkb, hgrow.block k (by omega) hkv, hb1.block k hk (by simpa using hkb)]
  · intro k hk
    rcases hat k hk with h | h
    · exact .inl h
    · exact .inr (by omega)
set_option maxHeartbeats 1000000 in
set_option maxRecDepth 100000 in
theorem bld_string (L : Lays.n169 P ρ) (X : Builder.Extra P ρ) (b g cap : Nat) (p : Value) (cur : Array Value) (l : List UInt8) (w : World) (hbk : w.heap[b]? = some (.cells #[p, .slice (some ⟨g, 0, none⟩) l.length cap] (ρ.t 72) (0, 0)))
    (hg : w.heap[g]? = some (.cells cur (ρ.t 5) (0, 0))) (hnc : l.length ≤ cap) (hcm : cap ≤ maxLen) (hcs : cur.size = cap) (htake : cur.toList.take l.length = byteCells l) (h0 : l ≠ []) :
    Calls P (ρ.f 169) #[.pointer (some ⟨b, 0, none⟩)] w fun e w' => e = .returned (.string ⟨l.toArray⟩) ∧ w' = w.drew.freeze ⟨g, 0, none⟩ l.length := by
  have hl0 : l.length ≠ 0 := by simpa using h0
  have hown : w.ownsRow 0 (ρ.t 5) 1 (.slice (some ⟨g, 0, none⟩) l.length cap) l.length (byteCells l) :=
    ⟨by rw [Lib.byteCells_length, Nat.mul_one], .inr ⟨g, cap, cur, rfl, Nat.zero_le _, hg, hnc, hcm, by omega, by rw [Nat.mul_one]; exact htake⟩⟩
  have c1 : w.drew.cell? ⟨b, 1, none⟩ = some (.slice (some ⟨g, 0, none⟩) l.length cap) := by
    have : w.drew.heap[b]? = some (.cells #[p, .slice (some ⟨g, 0, none⟩) l.length cap] (ρ.t 72) (0, 0)) := hbk
    rw [Lib.cell_of_heap this]; rfl
  have hSD : (Builtin.unsafeSliceData_ #[(ρ.t 37)] (ρ.t 127) #[.slice (some ⟨g, 0, none⟩) l.length cap]).run P w.drew = .ok (.pointer (some ⟨g, 0, none⟩)) w.drew :=
    Lib.run_unsafeSliceData_row _ _ _ _ _ _ (by omega)
  have hUS : (Builtin.unsafeString_ #[(ρ.t 127), (ρ.t 3)] (ρ.t 9) #[.pointer (some ⟨g, 0, none⟩), .int .i64 l.length]).run P w.drew = .ok (.string ⟨l.toArray⟩) (w.drew.freeze ⟨g, 0, none⟩ l.length) := by
    refine Lib.run_unsafeString_row w.drew (ρ.t 127) (ρ.t 3) (ρ.t 9) (ρ.t 5) L.t127 X.cellsByte g cur.size (by have hg' : w.drew.heap[g]? = some (.cells cur (ρ.t 5) (0, 0)) := hg; simp [World.shape?, hg']) l h0 (by omega) (by unfold maxLen at hcm; omega) ?_
    intro j x hx
    exact hown.cells (g := g) rfl j (.int .u8 x.toNat) (by simp [Lib.byteCells, hx])
  have mixed := L.mixed
  have t72 := L.t72; have a72 := L.a72; have z72 := L.z72; have v72 := L.v72; have u72 := run_underlying L.t72
  have t70 := L.t70; have a70 := L.a70; have z70 := L.z70; have v70 := L.v70; have u70 := run_underlying L.t70
  have t37 := L.t37; have a37 := L.a37; have z37 := L.z37; have v37 := L.v37; have u37 := run_underlying L.t37
  have t127 := L.t127; have a127 := L.a127; have z127 := L.z127; have v127 := L.v127; have u127 := run_underlying L.t127
  have t3 := L.t3; have a3 := L.a3; have z3 := L.z3; have v3 := L.v3; have u3 := run_underlying L.t3
  have t9 := L.t9; have a9 := L.a9; have z9 := L.z9; have v9 := L.v9; have u9 := run_underlying L.t9
  have t5 := X.t5; have a5 := X.a5; have z5 := X.z5; have v5 := X.v5; have u5 := run_underlying X.t5
  clear hown htake hg
  go_enter L.f169, Body.n169_ntmps ρ
  go_wp2
  go_region_o
  all_goals (go_wp2; go_ret; exact ⟨rfl, rfl⟩)
/-! ### Beside the machine -/
def bldOk (b : Nat) : D → Bool
  | .np => true
  | .hp b' 0 => b' == b
  | _ => false

/-- WriteString. -/
def bldW (tb te : Nat) : List D → Heap → Option (D × Heap)
  | [.hp b 0, .s s], H => match H[b]? with
    | some (.hb t [c, x]) => match decide (t = tb) && bldOk b c with
      | true => match x with
        | .nil => match s with
          | [] => some (.tu [.i .i64 0, .ni], H.set b (.hb tb [.hp b 0, .nil]))
          | _ :: _ => if s.length ≤ 140737488355328 then some (.tu [.i .i64 s.length, .ni], List.set (H ++ [Blk.yt te s false]) b (.hb tb [.hp b 0, .yb H.length s.length])) else none
        | .yb a n => match H[a]? with
          | some (.yt t' bs false) => if t' = te ∧ bs.length = n ∧ n + s.length ≤ 140737488355328 then some (.tu [.i .i64 s.length, .ni], (H.set a (.yt te (bs ++ s) false)).set b (.hb tb [.hp b 0, .yb a (n + s.length)])) else none
          | _ => none
        | _ => none
      | false => none
    | _ => none
  | _, _ => none
/-- String. -/
def bldS (tb te : Nat) : List D → Heap → Option (D × Heap)
  | [.hp b 0], H => match H[b]? with
    | some (.hb t [_, x]) => match decide (t = tb) with
      | true => match x with
        | .nil => some (.s [], H)
        | .yb a n => match H[a]? with
          | some (.yt t' bs false) => if t' = te ∧ bs.length = n ∧ bs ≠ [] then some (.s bs, H.set a (.yt te bs true)) else none
          | _ => none
        | _ => none
      | false => none
    | _ => none
  | _, _ => none

section
variable {K : Kn} {μ : Mu} {H : Heap} {W : World}

/-- The world with nothing turned that was there. -/
theorem HR.more {W' : World} (hr : HR K μ H W) (hs : W.heap.size ≤ W'.heap.size) (hkeep : ∀ b, b < W.heap.size → W'.heap[b]? = W.heap[b]?) : HR K μ H W' :=
  hr.other W.heap.size (hr.not_own (Nat.le_refl _)) (hr.not_known (Nat.le_refl _)) hs fun b hb _ => hkeep b hb

theorem bytes_cells (s : List UInt8) : strCells ⟨s.toArray⟩ = byteCells s := rfl

/-- What is known of a Builder of the heap. -/
theorem bld_at {tb b : Nat} {lb : Loc} {c x : D} (hr : HR K μ H W) (hm : μ b = some lb) (hH : H[b]? = some (.hb tb [c, x])) : lb.off = 0 ∧ lb.size = 2 ∧ ∃ p v, W.heap[lb.blk]? = some (.cells #[p, v] tb (0, 0)) ∧ VR K μ H c p ∧ VR K μ H x v ∧ v.oneCell' = true := by
  obtain ⟨h0, vs, hW, hsz, hc⟩ := hr.blk b lb _ hm hH
  have hl := hc.1.1
  match hvs : vs.toList, hl with
  | [p, v], _ =>
    have e : vs = #[p, v] := by rw [← Array.toArray_toList (xs := vs), hvs]
    subst e
    exact ⟨h0, by rw [← hsz]; rfl, p, v, hW, hc.1.2 0 c p rfl rfl, hc.1.2 1 x v rfl rfl, hc.2 v (by simp)⟩
  | [], h => simp at h
  | [_], h => simp at h
  | _ :: _ :: _ :: _, h => simp at h

/-- The struct written last. -/
theorem bld_last {tb te b : Nat} {lb : Loc} {c x x' : D} {μ1 : Mu} {H1 : Heap} {W' : World} {p v v' : Value} (hm : μ b = some lb) (h0 : lb.off = 0) (hsz : lb.size = 2)
    (hWb : W.heap[lb.blk]? = some (.cells #[p, v] tb (0, 0))) (hbk : W'.heap[lb.blk]? = some (.cells #[.pointer (some ⟨lb.blk, 0, none⟩), v'] tb (0, 0)))
    (hr1 : HR K μ1 H1 (W'.setRow lb.blk #[p, v])) (nx1 : Nx K μ H W K μ1 H1 (W'.setRow lb.blk #[p, v])) (hm1 : μ1 b = some lb) (hH1 : H1[b]? = some (.hb tb [c, x]))
    (hx : VR K (μ1.upd b lb) (H1.set b (.hb tb [.hp b 0, x'])) x' v') (h1 : v'.oneCell' = true) :
    HR K (μ1.upd b lb) (H1.set b (.hb tb [.hp b 0, x'])) W' ∧ Nx K μ H W K (μ1.upd b lb) (H1.set b (.hb tb [.hp b 0, x'])) W' := by
  have hid := hr1.dom b lb hm1
  have hlt : lb.blk < W'.heap.size := (Array.getElem?_eq_some_iff.1 hbk).1
  have := hr1.put (W' := W') b lb lb (.hb tb [c, x]) (.hb tb [.hp b 0, x']) hm1 hH1 rfl rfl (.hb ..) rfl rfl rfl (by simp [World.setRow]) (fun r _ hne => (setRow_other W' lb.blk r _ hne).symm) (.inl rfl) hlt
    ⟨h0, _, hbk, by rw [hsz]; rfl, (show CRs K (μ1.upd b lb) (H1.set b (.hb tb [.hp b 0, x'])) [.hp b 0, x'] [.pointer (some ⟨lb.blk, 0, none⟩), v'] from ⟨⟨rfl, fun j d u e e' => by
      match j with
      | 0 => simp at e e'; subst e e'; exact .hp _ _ b 0 lb tb [.hp b 0, x'] (by simp [Mu.upd]) (by simp [hid])
      | 1 => simp at e e'; subst e e'; exact hx
      | j + 2 => simp at e⟩, fun u hu => by
      simp at hu
      rcases hu with rfl | rfl
      · rfl
      · exact h1⟩)⟩
  exact ⟨this.1, nx1.trans this.2⟩

theorem vrs_two {a b : D} {vs : List Value} (h : VRs K μ H [a, b] vs) : ∃ x y, vs = [x, y] ∧ VR K μ H a x ∧ VR K μ H b y := by
  obtain ⟨hl, hv⟩ := h
  match vs, hl with
  | [x, y], _ => exact ⟨x, y, rfl, hv 0 _ _ rfl rfl, hv 1 _ _ rfl rfl⟩
theorem vrs_one {a : D} {vs : List Value} (h : VRs K μ H [a] vs) : ∃ x, vs = [x] ∧ VR K μ H a x := by
  obtain ⟨hl, hv⟩ := h
  match vs, hl with
  | [x], _ => exact ⟨x, rfl, hv 0 _ _ rfl rfl⟩

theorem bldOk_inv {b : Nat} {c : D} (h : bldOk b c = true) : c = .np ∨ c = .hp b 0 := by
  unfold bldOk at h
  split at h
  · exact .inl rfl
  · simp at h; subst h; exact .inr rfl
  · cases h
theorem VR.of_tu2 {n : Int} : VR K μ H (.tu [.i .i64 n, .ni]) (.tuple #[.int .i64 n, .nilIface]) :=
  .tu _ _ _ [.int .i64 n, .nilIface] rfl fun j d v e e' => by
    match j with
    | 0 => simp at e e'; subst e e'; exact .i ..
    | 1 => simp at e e'; subst e e'; exact .ni ..
    | j + 2 => simp at e
end

theorem bldW_sim (L : Lays.n166 P ρ) (X : Builder.Extra P ρ) {args : List D} {H H' : Heap} {d : D} (h : bldW (ρ.t 72) (ρ.t 5) args H = some (d, H')) :
    H.length ≤ H'.length ∧ ∀ (K : Kn) (μ : Mu) (W : World) (vs : List Value), HR K μ H W → VRs K μ H args vs → Calls P (ρ.f 166) vs.toArray W (Gives K μ H W d H') := by
  unfold bldW at h
  split at h
  · rename_i b s
    split at h
    · rename_i t c x hb
      split at h
      · rename_i hok
        simp only [Bool.and_eq_true, decide_eq_true_eq] at hok
        obtain ⟨rfl, hok⟩ := hok
        have common : ∀ (K : Kn) (μ : Mu) (W : World) (vs : List Value), HR K μ H W → VRs K μ H [.hp b 0, .s s] vs → ∃ lb p v, μ b = some lb ∧ lb.off = 0 ∧ lb.size = 2 ∧ W.heap[lb.blk]? = some (.cells #[p, v] (ρ.t 72) (0, 0)) ∧ (p = .pointer none ∨ p = .pointer (some ⟨lb.blk, 0, none⟩)) ∧ VR K μ H x v ∧ vs = [.pointer (some ⟨lb.blk, 0, none⟩), .string ⟨s.toArray⟩] := fun K μ W vs hr hv => by
          obtain ⟨y, z, rfl, hy, hz⟩ := vrs_two hv
          cases hz
          cases hy with
          | hp _ _ _ _ lb t' cs hm hH =>
            rw [hb] at hH; cases hH
            obtain ⟨h0, hsz, p, v, hW, hp, hx, _⟩ := bld_at hr hm hb
            refine ⟨lb, p, v, hm, h0, hsz, hW, ?_, hx, rfl⟩
            rcases bldOk_inv hok with rfl | rfl
            · cases hp; exact .inl rfl
            · cases hp with
              | hp _ _ _ _ lb' t'' cs' hm' _ => rw [hm] at hm'; cases hm'; exact .inr rfl
        split at h
        · -- nothing yet
          split at h
          · cases h
            refine ⟨by simp, fun K μ W vs hr hv => ?_⟩
            obtain ⟨lb, p, v, hm, h0, hsz, hW, hp, hx, rfl⟩ := common K μ W vs hr hv
            cases hx
            refine (bld_write L X lb.blk p _ [] ⟨#[]⟩ W hW hp (World.ownsRow_nil _ _ _ _) (by decide)).mono ?_
            rintro e W' ⟨rfl, v', wr, hnil, hsame⟩
            have hv' := hsame rfl
            subst hv'
            have hlb : lb.blk < W.heap.size := hr.lt b lb hm
            have hkeep : ∀ k, k < W.heap.size → (W'.setRow lb.blk #[p, .slice none 0 0]).heap[k]? = W.heap[k]? := fun k hk => by
              by_cases hkb : k = lb.blk
              · subst hkb; rw [setRow_heap _ _ _ _ _ _ wr.bk, hW]
              · rw [setRow_other _ _ _ _ hkb]; exact wr.keep k hk hkb (by simp [Value.ownBlock])
            have hs' : W.heap.size ≤ (W'.setRow lb.blk #[p, .slice none 0 0]).heap.size := by simpa [World.setRow] using wr.size
            have hr1 := hr.more hs' hkeep
            have nx1 : Nx K μ H W K μ H (W'.setRow lb.blk #[p, .slice none 0 0]) := ⟨.refl _ _ _, wr.os, wr.tape, wr.output, hs', fun r hr' _ => hkeep r hr', fun _ h => .inl h, fun _ _ _ h => .inl h⟩
            have := bld_last (te := ρ.t 5) (x' := .nil) hm h0 hsz hW wr.bk hr1 nx1 hm hb (.nil ..) rfl
            exact ⟨K, _, this.1, this.2, VR.of_tu2⟩
          · rename_i c0 s0
            split at h
            · rename_i hlen
              cases h
              refine ⟨by simp, fun K μ W vs hr hv => ?_⟩
              obtain ⟨lb, p, v, hm, h0, hsz, hW, hp, hx, rfl⟩ := common K μ W vs hr hv
              cases hx
              have hss : (⟨(c0 :: s0).toArray⟩ : ByteArray).size = (c0 :: s0).length := by simp [ByteArray.size]
              refine (bld_write L X lb.blk p _ [] ⟨(c0 :: s0).toArray⟩ W hW hp (World.ownsRow_nil _ _ _ _) (by rw [hss]; simpa using hlen)).mono ?_
              rintro e W' ⟨rfl, v', wr, hnil, hsame⟩
              have hlb : lb.blk < W.heap.size := hr.lt b lb hm
              have hkeep : ∀ k, k < W.heap.size → (W'.setRow lb.blk #[p, .slice none 0 0]).heap[k]? = W.heap[k]? := fun k hk => by
                by_cases hkb : k = lb.blk
                · subst hkb; rw [setRow_heap _ _ _ _ _ _ wr.bk, hW]
                · rw [setRow_other _ _ _ _ hkb]; exact wr.keep k hk hkb (by simp [Value.ownBlock])
              have hs' : W.heap.size ≤ (W'.setRow lb.blk #[p, .slice none 0 0]).heap.size := by simpa [World.setRow] using wr.size
              have hr1 := hr.more hs' hkeep
              have nx1 : Nx K μ H W K μ H (W'.setRow lb.blk #[p, .slice none 0 0]) := ⟨.refl _ _ _, wr.os, wr.tape, wr.output, hs', fun r hr' _ => hkeep r hr', fun _ h => .inl h, fun _ _ _ h => .inl h⟩
              rcases wr.own.2 with ⟨_, hz⟩ | ⟨g, cap, cur, rfl, _, hg, hnc, hcm, hcs, htake⟩
              · rw [hss] at hz; simp at hz
              · have hgf : W.heap.size ≤ g := by
                  rcases wr.at_ g rfl with h | h
                  · cases h
                  · exact h
                have hne : g ≠ lb.blk := by omega
                have hglt : g < W'.heap.size := (Array.getElem?_eq_some_iff.1 hg).1
                rw [hss] at hnc htake
                simp only [List.length_nil, Nat.zero_add, List.nil_append] at hnc htake
                have had := hr1.adopt ⟨g, 0, cap⟩ (.yt (ρ.t 5) (c0 :: s0) false) (by simpa [World.setRow] using hglt) (hr.not_own hgf) (hr.not_known hgf)
                  ⟨rfl, cur, by rw [setRow_other _ _ _ _ hne]; exact hg, by simpa using hcs, hcm, by rw [bytes_cells] at htake; simpa [byteCells] using htake⟩
                have hid := hr.dom b lb hm
                have hm2 : (μ.upd H.length ⟨g, 0, cap⟩) b = some lb := by simp only [Mu.upd]; rw [if_neg (by omega)]; exact hm
                have nx2 : Nx K μ H W K (μ.upd H.length ⟨g, 0, cap⟩) (H ++ [.yt (ρ.t 5) (c0 :: s0) false]) (W'.setRow lb.blk #[p, .slice none 0 0]) :=
                  ⟨nx1.ext.trans had.2.1, nx1.os, nx1.tape, nx1.output, nx1.size, nx1.keep, fun r h => (had.2.2 r h).imp id (fun e => by subst e; exact hgf), fun _ _ _ h => .inl h⟩
                have := bld_last (te := ρ.t 5) (x' := .yb H.length (c0 :: s0).length) hm h0 hsz hW wr.bk had.1 nx2 hm2 (by rw [List.getElem?_append_left hid]; exact hb)
                  (by
                    have e : (List.length ([] : List Value) + ByteArray.size ⟨(c0 :: s0).toArray⟩) = (c0 :: s0).length := by rw [hss]; simp
                    rw [e]
                    refine .yb _ _ H.length (c0 :: s0).length cap g ⟨g, 0, cap⟩ (ρ.t 5) (c0 :: s0) false ?_ ?_ (Nat.le_refl _) (fun _ => ⟨rfl, hnc, rfl⟩)
                    · simp only [Mu.upd]; rw [if_neg (by omega)]; simp
                    · rw [List.getElem?_set_ne (by omega)]; simp) rfl
                refine ⟨K, _, this.1, this.2, ?_⟩
                rw [hss]; exact VR.of_tu2
            · cases h
        · -- behind what there is
          rename_i a n
          split at h
          · rename_i t' bs ha
            split at h
            · rename_i hcond
              obtain ⟨rfl, rfl, hlen⟩ := hcond
              cases h
              refine ⟨by simp, fun K μ W vs hr hv => ?_⟩
              obtain ⟨lb, p, v, hm, h0, hsz, hW, hp, hx, rfl⟩ := common K μ W vs hr hv
              have hss : (⟨s.toArray⟩ : ByteArray).size = s.length := by simp [ByteArray.size]
              cases hx with
              | yb _ _ _ _ cap blk la t2 bs2 lk2 hma hHa hn hh =>
                rw [ha] at hHa; cases hHa
                obtain ⟨rfl, hnc, rfl⟩ := hh rfl
                obtain ⟨hla0, cur, hg, hcs, hcm, htake⟩ := hr.blk a la _ hma ha
                have hbl : (byteCells bs).length = bs.length := byteCells_length bs
                have hown : W.ownsRow 0 (ρ.t 5) 1 (.slice (some ⟨la.blk, 0, none⟩) bs.length la.size) (byteCells bs).length (byteCells bs) :=
                  ⟨by rw [Nat.mul_one], .inr ⟨la.blk, la.size, cur, by rw [hbl], Nat.zero_le _, hg, by omega, hcm, by omega, by rw [Nat.mul_one, hbl]; exact htake⟩⟩
                refine (bld_write L X lb.blk p _ (byteCells bs) ⟨s.toArray⟩ W hW hp hown (by rw [hss, hbl]; exact hlen)).mono ?_
                rintro e W' ⟨rfl, v', wr, hnil, hsame⟩
                have hab : a ≠ b := fun e => by subst e; rw [hb] at ha; cases ha
                have hlb : lb.blk < W.heap.size := hr.lt b lb hm
                have hne : lb.blk ≠ la.blk := fun e => hab (hr.inj a b la lb _ _ hma hm ha hb rfl rfl e.symm)
                rcases wr.own.2 with ⟨hv, _⟩ | ⟨g, cap', cur', rfl, _, hg', hnc', hcm', hcs', htake'⟩
                · exact absurd (hnil.1 hv).1 (by simp)
                · have hgat : g = la.blk ∨ W.heap.size ≤ g := by
                    rcases wr.at_ g rfl with h | h
                    · simp only [Value.ownBlock, Option.some.injEq] at h; exact .inl h.symm
                    · exact .inr h
                  have hgb : g ≠ lb.blk := by rcases hgat with h | h <;> omega
                  rw [hss, hbl] at hnc' htake'
                  have hlb2 : (bs ++ s).length = bs.length + s.length := List.length_append
                  have hput := hr.put (W' := W'.setRow lb.blk #[p, .slice (some ⟨la.blk, 0, none⟩) bs.length la.size]) a la ⟨g, 0, cap'⟩ (.yt (ρ.t 5) bs false) (.yt (ρ.t 5) (bs ++ s) false) hma ha rfl rfl
                    (.yt _ _ _ _ _ _ _ (by omega) (fun e => by
                      have hs0 : s.length = 0 := by omega
                      have := hsame (by rw [hss]; exact hs0)
                      simp only [Value.slice.injEq, Option.some.injEq, Addr.mk.injEq] at this
                      obtain ⟨⟨h1, _⟩, _, h3⟩ := this
                      cases la; simp at h1 h3 hla0 ⊢; exact ⟨h1.symm, hla0, h3.symm⟩))
                    wr.os wr.tape wr.output (by simpa [World.setRow] using wr.size)
                    (fun r hrlt hrne => by
                      by_cases hrb : r = lb.blk
                      · subst hrb; rw [setRow_heap _ _ _ _ _ _ wr.bk, hW]
                      · rw [setRow_other _ _ _ _ hrb]; exact wr.keep r hrlt hrb (by simpa [Value.ownBlock] using hrne))
                    hgat (by have := (Array.getElem?_eq_some_iff.1 hg').1; simpa [World.setRow] using this)
                    ⟨rfl, cur', by rw [setRow_other _ _ _ _ hgb]; exact hg', by simpa using hcs', hcm', by
                      rw [hlb2]
                      have : byteCells bs ++ strCells ⟨s.toArray⟩ = byteCells (bs ++ s) := by rw [bytes_cells, ← byteCells_append]
                      rw [this] at htake'
                      simpa [byteCells] using htake'⟩
                  have hid := hr.dom b lb hm
                  have hida := hr.dom a la hma
                  have hm2 : (μ.upd a ⟨g, 0, cap'⟩) b = some lb := by simp only [Mu.upd]; rw [if_neg (Ne.symm hab)]; exact hm
                  have := bld_last (te := ρ.t 5) (x' := .yb a (bs.length + s.length)) hm h0 hsz hW wr.bk hput.1 hput.2 hm2 (by rw [List.getElem?_set_ne hab]; exact hb)
                    (by
                      have e : ((byteCells bs).length + ByteArray.size ⟨s.toArray⟩) = bs.length + s.length := by rw [hss, hbl]
                      rw [e]
                      refine .yb _ _ a _ cap' g ⟨g, 0, cap'⟩ (ρ.t 5) (bs ++ s) false ?_ ?_ (by omega) (fun _ => ⟨rfl, hnc', rfl⟩)
                      · simp only [Mu.upd]; rw [if_neg hab]; simp
                      · rw [List.getElem?_set_ne (Ne.symm hab), List.getElem?_set_self hida]) rfl
                  refine ⟨K, _, this.1, this.2, ?_⟩
                  rw [hss]; exact VR.of_tu2
            · cases h
          · cases h
        · cases h
      · cases h
    · cases h
  · cases h

theorem freeze_keep (W : World) (g n k : Nat) (h : k ≠ g) : (W.freeze ⟨g, 0, none⟩ n).heap[k]? = W.heap[k]? := by
  unfold World.freeze
  split
  · rfl
  · simp only [Array.getElem?_modify]
    rw [if_neg (Ne.symm h)]
theorem freeze_rest (W : World) (a : Addr) (n : Nat) : (W.freeze a n).os = W.os ∧ (W.freeze a n).tape = W.tape ∧ (W.freeze a n).output = W.output ∧ (W.freeze a n).heap.size = W.heap.size := by
  unfold World.freeze
  split
  · exact ⟨rfl, rfl, rfl, rfl⟩
  · exact ⟨rfl, rfl, rfl, by simp⟩

theorem bldS_sim (L : Lays.n169 P ρ) (X : Builder.Extra P ρ) {args : List D} {H H' : Heap} {d : D} (h : bldS (ρ.t 72) (ρ.t 5) args H = some (d, H')) :
    H.length ≤ H'.length ∧ ∀ (K : Kn) (μ : Mu) (W : World) (vs : List Value), HR K μ H W → VRs K μ H args vs → Calls P (ρ.f 169) vs.toArray W (Gives K μ H W d H') := by
  unfold bldS at h
  split at h
  · rename_i b
    split at h
    · rename_i t c x hb
      split at h
      · rename_i hok
        simp only [decide_eq_true_eq] at hok
        subst hok
        have common : ∀ (K : Kn) (μ : Mu) (W : World) (vs : List Value), HR K μ H W → VRs K μ H [.hp b 0] vs → ∃ lb p v, μ b = some lb ∧ W.heap[lb.blk]? = some (.cells #[p, v] (ρ.t 72) (0, 0)) ∧ VR K μ H x v ∧ vs = [.pointer (some ⟨lb.blk, 0, none⟩)] := fun K μ W vs hr hv => by
          obtain ⟨y, rfl, hy⟩ := vrs_one hv
          cases hy with
          | hp _ _ _ _ lb t' cs hm hH =>
            rw [hb] at hH; cases hH
            obtain ⟨h0, hsz, p, v, hW, hp, hx, _⟩ := bld_at hr hm hb
            exact ⟨lb, p, v, hm, hW, hx, rfl⟩
        split at h
        · cases h
          refine ⟨Nat.le_refl _, fun K μ W vs hr hv => ?_⟩
          obtain ⟨lb, p, v, hm, hW, hx, rfl⟩ := common K μ W vs hr hv
          cases hx
          refine (Any.Builder_String_nil L X W.heap.size lb.blk p W hW).mono ?_
          rintro e W' ⟨rfl, hbl⟩
          exact ⟨K, μ, hr.more hbl.size hbl.block, ⟨.refl _ _ _, hbl.os, hbl.tape, hbl.output, hbl.size, fun r hr' _ => hbl.block r hr', fun _ h => .inl h, fun _ _ _ h => .inl h⟩, .s ..⟩
        · rename_i a n
          split at h
          · rename_i t' bs ha
            split at h
            · rename_i hcond
              obtain ⟨rfl, rfl, hne⟩ := hcond
              cases h
              refine ⟨by simp, fun K μ W vs hr hv => ?_⟩
              obtain ⟨lb, p, v, hm, hW, hx, rfl⟩ := common K μ W vs hr hv
              cases hx with
              | yb _ _ _ _ cap blk la t2 bs2 lk2 hma hHa hn hh =>
                rw [ha] at hHa; cases hHa
                obtain ⟨rfl, hnc, rfl⟩ := hh rfl
                obtain ⟨hla0, cur, hg, hcs, hcm, htake⟩ := hr.blk a la _ hma ha
                refine (bld_string L X lb.blk la.blk la.size p cur bs W hW hg hnc hcm hcs htake hne).mono ?_
                rintro e W' ⟨rfl, rfl⟩
                obtain ⟨f1, f2, f3, f4⟩ := freeze_rest W.drew ⟨la.blk, 0, none⟩ bs.length
                have hlt := hr.lt a la hma
                have hput := hr.put0 (W' := W.drew.freeze ⟨la.blk, 0, none⟩ bs.length) a la la (.yt (ρ.t 5) bs false) (.yt (ρ.t 5) bs true) hma ha rfl (.yt _ _ _ _ _ _ _ (Nat.le_refl _) (fun _ => rfl))
                  f1 f2 f3 (by rw [f4]; exact Nat.le_refl _) (fun r _ hne => freeze_keep W.drew la.blk bs.length r hne) (.inl rfl) (by rw [f4]; exact hlt) trivial
                exact ⟨K, _, hput.1, hput.2, .s ..⟩
            · cases h
          · cases h
        · cases h
      · cases h
    · cases h
  · cases h
end Go.Dm

