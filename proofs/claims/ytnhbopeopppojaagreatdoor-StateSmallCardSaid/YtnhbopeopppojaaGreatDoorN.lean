/-
  strconv.Itoa, strings.Join and the Builder beside the machine.
-/
import Derived.Test.YtnhbopeopppojaaGreatDoorProg
import Derived.Shelf.Strconv.Itoa3
import Derived.Shelf.Strings.OnBuilder
import Derived.KernelRfl
import Derived.Test.YtnhbopeopppojaaGreatDoorVo
import Derived.Test.YtnhbopeopppojaaGreatDoorDh
namespace Go.Proofs
open Go.Shelf
def Tryz.itoa_ren : Go.Shelf.Ren := ⟨fun | 171 => 70 | 243 => 100 | 246 => 110 | 283 => 115 | 284 => 116 | 285 => 117 | 286 => 118 | 129 => 123 | 317 => 122 | 318 => 124 | 319 => 125 | 320 => 126 | 337 => 127 | 338 => 128 | n => n, fun | 3 => 3 | 9 => 9 | 2 => 2 | 4 => 4 | 171 => 164 | 0 => 0 | 53 => 140 | 37 => 79 | 5 => 5 | 173 => 167 | 212 => 173 | 51 => 174 | 20 => 20 | 213 => 175 | 46 => 176 | 232 => 179 | 233 => 180 | n => n, fun | 17 => 0 | 18 => 2 | 19 => 3 | n => n⟩
theorem Tryz.itoa : Go.Proofs.LaysM.n171 Tryz.prog Tryz.itoa_ren := {
  mixed := by kernel_rfl
  f129 := Tryz.func123.trans (congrArg some (by kernel_rfl))
  f171 := Tryz.func70.trans (congrArg some (by kernel_rfl))
  f243 := Tryz.func100.trans (congrArg some (by kernel_rfl))
  f246 := Tryz.func110.trans (congrArg some (by kernel_rfl))
  f283 := Tryz.func115.trans (congrArg some (by kernel_rfl))
  f284 := Tryz.func116.trans (congrArg some (by kernel_rfl))
  f285 := Tryz.func117.trans (congrArg some (by kernel_rfl))
  f286 := Tryz.func118.trans (congrArg some (by kernel_rfl))
  f317 := Tryz.func122.trans (congrArg some (by kernel_rfl))
  f318 := Tryz.func124.trans (congrArg some (by kernel_rfl))
  f319 := Tryz.func125.trans (congrArg some (by kernel_rfl))
  f320 := Tryz.func126.trans (congrArg some (by kernel_rfl))
  f337 := Tryz.func127.trans (congrArg some (by kernel_rfl))
  f338 := Tryz.func128.trans (congrArg some (by kernel_rfl))
  t0 := Tryz.underlying0
  a0 := Tryz.isAgg0
  z0 := Tryz.sizeOf0
  v0 := Tryz.zeroValue0
  t2 := Tryz.underlying2
  a2 := Tryz.isAgg2
  z2 := Tryz.sizeOf2
  v2 := Tryz.zeroValue2
  t3 := Tryz.underlying3
  a3 := Tryz.isAgg3
  z3 := Tryz.sizeOf3
  v3 := Tryz.zeroValue3
  t4 := Tryz.underlying4
  a4 := Tryz.isAgg4
  z4 := Tryz.sizeOf4
  v4 := Tryz.zeroValue4
  t5 := Tryz.underlying5
  a5 := Tryz.isAgg5
  z5 := Tryz.sizeOf5
  v5 := Tryz.zeroValue5
  t9 := Tryz.underlying9
  a9 := Tryz.isAgg9
  z9 := Tryz.sizeOf9
  v9 := Tryz.zeroValue9
  t20 := Tryz.underlying20
  a20 := Tryz.isAgg20
  z20 := Tryz.sizeOf20
  v20 := Tryz.zeroValue20
  t37 := Tryz.underlying79
  a37 := Tryz.isAgg79
  z37 := Tryz.sizeOf79
  v37 := Tryz.zeroValue79
  t46 := Tryz.underlying176
  a46 := Tryz.isAgg176
  z46 := Tryz.sizeOf176
  v46 := Tryz.zeroValue176
  t51 := Tryz.underlying174
  a51 := Tryz.isAgg174
  z51 := Tryz.sizeOf174
  v51 := Tryz.zeroValue174
  t53 := Tryz.underlying140
  a53 := Tryz.isAgg140
  z53 := Tryz.sizeOf140
  v53 := Tryz.zeroValue140
  t171 := Tryz.underlying164
  a171 := Tryz.isAgg164
  z171 := Tryz.sizeOf164
  v171 := Tryz.zeroValue164
  t173 := Tryz.underlying167
  a173 := Tryz.isAgg167
  z173 := Tryz.sizeOf167
  v173 := Tryz.zeroValue167
  t212 := Tryz.underlying173
  a212 := Tryz.isAgg173
  z212 := Tryz.sizeOf173
  v212 := Tryz.zeroValue173
  t213 := Tryz.underlying175
  a213 := Tryz.isAgg175
  z213 := Tryz.sizeOf175
  t232 := Tryz.underlying179
  a232 := Tryz.isAgg179
  z232 := Tryz.sizeOf179
  v232 := Tryz.zeroValue179
  t233 := Tryz.underlying180
  a233 := Tryz.isAgg180
  z233 := Tryz.sizeOf180
  v233 := Tryz.zeroValue180
  g17 := by kernel_rfl
  g18 := by kernel_rfl
  g19 := by kernel_rfl
  i0 := by kernel_rfl
  i2 := by kernel_rfl
  i3 := by kernel_rfl
  i4 := by kernel_rfl
  i5 := by kernel_rfl
  i9 := by kernel_rfl
  i20 := by kernel_rfl
  i37 := by kernel_rfl
  i46 := by kernel_rfl
  i51 := by kernel_rfl
  i53 := by kernel_rfl
  i171 := by kernel_rfl
  i173 := by kernel_rfl
  i212 := by kernel_rfl
  i232 := by kernel_rfl
  i233 := by kernel_rfl
  m17 := by kernel_rfl
  m18 := by kernel_rfl
  m19 := by kernel_rfl }
def Tryz.join_ren : Go.Shelf.Ren := ⟨fun | 156 => 71 | 165 => 101 | 166 => 37 | 169 => 40 | 240 => 69 | 241 => 111 | 276 => 99 | 277 => 119 | n => n, fun | 31 => 24 | 9 => 9 | 3 => 3 | 4 => 4 | 0 => 0 | 20 => 20 | 72 => 81 | 76 => 84 | 70 => 78 | 37 => 79 | 75 => 83 | 127 => 120 | 164 => 149 | 5 => 5 | 80 => 87 | n => n, fun | n => n⟩
theorem Tryz.join : Go.Proofs.Lays.n156 Tryz.prog Tryz.join_ren := {
  mixed := by kernel_rfl
  f156 := Tryz.func71.trans (congrArg some (by kernel_rfl))
  f165 := Tryz.func101.trans (congrArg some (by kernel_rfl))
  f166 := Tryz.func37.trans (congrArg some (by kernel_rfl))
  f169 := Tryz.func40.trans (congrArg some (by kernel_rfl))
  f240 := Tryz.func69.trans (congrArg some (by kernel_rfl))
  f241 := Tryz.func111.trans (congrArg some (by kernel_rfl))
  f276 := Tryz.func99.trans (congrArg some (by kernel_rfl))
  f277 := Tryz.func119.trans (congrArg some (by kernel_rfl))
  t0 := Tryz.underlying0
  a0 := Tryz.isAgg0
  z0 := Tryz.sizeOf0
  v0 := Tryz.zeroValue0
  t3 := Tryz.underlying3
  a3 := Tryz.isAgg3
  z3 := Tryz.sizeOf3
  v3 := Tryz.zeroValue3
  t4 := Tryz.underlying4
  a4 := Tryz.isAgg4
  z4 := Tryz.sizeOf4
  v4 := Tryz.zeroValue4
  t9 := Tryz.underlying9
  a9 := Tryz.isAgg9
  z9 := Tryz.sizeOf9
  v9 := Tryz.zeroValue9
  t20 := Tryz.underlying20
  a20 := Tryz.isAgg20
  z20 := Tryz.sizeOf20
  v20 := Tryz.zeroValue20
  t31 := Tryz.underlying24
  a31 := Tryz.isAgg24
  z31 := Tryz.sizeOf24
  v31 := Tryz.zeroValue24
  t37 := Tryz.underlying79
  a37 := Tryz.isAgg79
  z37 := Tryz.sizeOf79
  v37 := Tryz.zeroValue79
  t70 := Tryz.underlying78
  a70 := Tryz.isAgg78
  z70 := Tryz.sizeOf78
  v70 := Tryz.zeroValue78
  t72 := Tryz.underlying81
  a72 := Tryz.isAgg81
  z72 := Tryz.sizeOf81
  v72 := Tryz.zeroValue81
  t75 := Tryz.underlying83
  a75 := Tryz.isAgg83
  z75 := Tryz.sizeOf83
  v75 := Tryz.zeroValue83
  t76 := Tryz.underlying84
  a76 := Tryz.isAgg84
  z76 := Tryz.sizeOf84
  v76 := Tryz.zeroValue84
  t127 := Tryz.underlying120
  a127 := Tryz.isAgg120
  z127 := Tryz.sizeOf120
  v127 := Tryz.zeroValue120
  t164 := Tryz.underlying149
  a164 := Tryz.isAgg149
  z164 := Tryz.sizeOf149
  v164 := Tryz.zeroValue149 }
end Go.Proofs
namespace Go.Proofs.YtnhbopeopppojaaGreatDoor.Dv
open Go.Dm Go.Proofs Go.Sort
structure LaidT (K : Kn) (W : World) : Prop where
  tab : Lib.TabIs Tryz.prog W "internal/strconv.uint64pow10" .u64 Lib.pow10Tab
  kn : ∃ g v, Tryz.prog.globalNamed "internal/strconv.uint64pow10" = some g ∧ K g 0 = some v
theorem laidT_up {K : Kn} {μ : Mu} {H : Heap} {W : World} {K' : Kn} {μ' : Mu} {H' : Heap} {W' : World} (h : LaidT K W) (hr : HR K μ H W) (nx : Nx K μ H W K' μ' H' W') : LaidT K' W' := by
  obtain ⟨h1, g, v, hg, hv⟩ := h
  refine ⟨?_, g, v, hg, nx.ext.k _ _ _ hv⟩
  have e : W'.heap[g]? = W.heap[g]? := nx.keep g (hr.klt hv) (hr.kf g 0 v hv)
  unfold Lib.TabIs World.var? at h1 ⊢
  rw [hg] at h1 ⊢
  simp only [Option.bind_some, e] at h1 ⊢
  exact h1
theorem grow_cell {w : World} {n : Nat} {os : Array Obj} {b o : Nat} {v : Value} (h : w.cell? ⟨b, o, none⟩ = some v) : (grow (w.drewN n) os).cell? ⟨b, o, none⟩ = some v := by
  have hb := World.block_lt_of_cell? w ⟨b, o, none⟩ h
  rw [← h]
  have : (grow (w.drewN n) os).heap[b]? = w.heap[b]? := by
    show (w.heap ++ os)[b]? = w.heap[b]?
    rw [Array.getElem?_append_left hb]
  simp only [World.cell?, this]
theorem hr0_grow {K : Kn} {w : World} {n : Nat} {os : Array Obj} (h : HR K mu0 [] w) : HR K mu0 [] (grow (w.drewN n) os) where
  dom := h.dom
  tot := h.tot
  blk := fun id l b e => by cases e
  lt := fun id l e => by cases e
  inj := h.inj
  kn := fun b o v hk => grow_cell (h.kn b o v hk)
  kf := h.kf
theorem nx0_grow {K : Kn} {w : World} {n : Nat} {os : Array Obj} : Nx K mu0 [] w K mu0 [] (grow (w.drewN n) os) where
  ext := .refl _ _ _
  os := rfl
  tape := rfl
  output := rfl
  size := by show w.heap.size ≤ (w.heap ++ os).size; simp
  keep := fun r hr _ => by show (w.heap ++ os)[r]? = w.heap[r]?; rw [Array.getElem?_append_left hr]
  og := fun r h => .inl h
  kg := fun b o v e => .inl e
theorem itoa74 (n : Int) (h0 : -9223372036854775808 ≤ n) (h1 : n ≤ 9223372036854775807) (K : Kn) (W : World) (hT : LaidT K W) (hr : HR K mu0 [] W) : Calls Tryz.prog 70 #[.int .i64 n] W (Settles false K W (.s (Lib.itoa n))) := by
  refine (Any.strconv_Itoa Tryz.itoa n h0 h1 W hT.tab).mono ?_
  rintro e w' ⟨rfl, k, os, rfl⟩
  exact ⟨K, mu0, [], .s (Lib.itoa n), hr0_grow hr, nx0_grow, .s .., rfl⟩
open Go.Dm Go.Proofs Go.Sort
theorem extra : Builder.Extra Tryz.prog Tryz.join_ren := {
  sizeBuilder := by kernel_rfl
  liesBuilder := by kernel_rfl
  t5 := Tryz.underlying5
  a5 := Tryz.isAgg5
  z5 := Tryz.sizeOf5
  v5 := Tryz.zeroValue5
  infoByte := by kernel_rfl
  cellsByte := by kernel_rfl
  sizeByte := by kernel_rfl
  neB5 := by decide }
def strRow (s : List UInt8) : List D := [.s s]
theorem hr0_below {K : Kn} {w w' : World} (h : HR K mu0 [] w) (hb : Go.RowKit.Below w.heap.size w w') : HR K mu0 [] w' where
  dom := h.dom
  tot := h.tot
  blk := fun id l b e => by cases e
  lt := fun id l e => by cases e
  inj := h.inj
  kn := fun b o v hk => by
    have h1 := h.kn b o v hk
    have hlt := World.block_lt_of_cell? w ⟨b, o, none⟩ h1
    rw [← h1]
    simp only [World.cell?, hb.block b hlt]
  kf := h.kf
theorem nx0_below {K : Kn} {w w' : World} (hb : Go.RowKit.Below w.heap.size w w') : Nx K mu0 [] w K mu0 [] w' where
  ext := .refl _ _ _
  os := hb.os
  tape := hb.tape
  output := hb.output
  size := hb.size
  keep := fun r hr _ => hb.block r hr
  og := fun r h => .inl h
  kg := fun b o v e => .inl e
theorem join75 (l : List (List UInt8)) (sep : List UInt8) (hne : l ≠ []) (hN : l.length ≤ 140737488355328) (hlen : (Lib.join l sep).length ≤ 140737488355328) (K : Kn) (W : World) (v : Value) (hr : HR K mu0 [] W) (hv : VR K mu0 [] (.im 1 (l.map strRow)) v) :
    Calls Tryz.prog 71 #[v, .string ⟨sep.toArray⟩] W (Settles false K W (.s (Lib.join l sep))) := by
  cases hv with
  | im _ _ _ _ blk off cap f hc hw hk h1 hvr =>
    have hcell : ∀ (j : Nat) x, (l.map fun s => (⟨s.toArray⟩ : ByteArray))[j]? = some x → W.cell? ⟨blk, off + j, none⟩ = some (.string x) := fun j x hx => by
      rw [List.getElem?_map] at hx
      cases hs : l[j]? with
      | none => rw [hs] at hx; cases hx
      | some s =>
        rw [hs] at hx
        cases hx
        have hrow : (l.map strRow)[j]? = some (strRow s) := by rw [List.getElem?_map, hs]; rfl
        have a := hr.kn _ _ _ (hk j _ 0 (.s s) hrow rfl)
        have b := hvr j _ 0 (.s s) hrow rfl
        have e : f j 0 = .string ⟨s.toArray⟩ := by
          generalize f j 0 = u at b
          cases b; rfl
        rw [e] at a
        simpa using a
    have hblk : blk < W.heap.size := by
      cases l with
      | nil => exact absurd rfl hne
      | cons s l => exact World.block_lt_of_cell? W _ (hcell 0 _ rfl)
    have em : ((l.map fun s => (⟨s.toArray⟩ : ByteArray)).map (·.data.toList)) = l := by
      rw [List.map_map]
      exact (List.map_congr_left (fun s _ => by simp)).trans (List.map_id l)
    have hcon := Any.strings_Join Tryz.join extra blk off cap (l.map fun s => (⟨s.toArray⟩ : ByteArray)) ⟨sep.toArray⟩ W hcell hblk (by simpa using hN) (by simpa using hc) (by rw [em]; simpa using hlen)
    rw [em] at hcon
    simp only [List.length_map] at hcon ⊢
    refine hcon.mono ?_
    rintro e w' ⟨rfl, hb⟩
    exact ⟨K, mu0, [], .s (Lib.join l sep), hr0_below hr hb, nx0_below hb, .s .., rfl⟩
open Go.Dm Go.Proofs Go.Sort
def strsOf : List (List D) → Option (List (List UInt8))
  | [] => some []
  | [.s x] :: r => match strsOf r with
    | some l => some (x :: l)
    | none => none
  | _ => none
theorem strsOf_rows : ∀ {rows : List (List D)} {l : List (List UInt8)}, strsOf rows = some l → rows = l.map strRow
  | [], l, h => by cases h; rfl
  | r :: rows, l, h => by
    unfold strsOf at h
    split at h
    · rename_i e; cases e
    · rename_i x r' e
      cases e
      split at h
      · rename_i l' h'; cases h; rw [List.map_cons, ← strsOf_rows h']; rfl
      · cases h
    · cases h
theorem strsOf_map : ∀ l : List (List UInt8), strsOf (l.map strRow) = some l
  | [] => rfl
  | x :: l => by rw [List.map_cons, strRow, strsOf, strsOf_map l]
def joinD (sep : List UInt8) : Option (List (List UInt8)) → Option D
  | some (x :: l) => if (x :: l).length ≤ 140737488355328 ∧ (Lib.join (x :: l) sep).length ≤ 140737488355328 then some (.s (Lib.join (x :: l) sep)) else none
  | _ => none
def extS (f : FuncId) (args : List D) (H : Heap) : Option (D × Heap) :=
  match f with
  | 37 => bldW 81 5 args H
  | 40 => bldS 81 5 args H
  | _ => none
def pextS (f : FuncId) (ds : List D) : Option D :=
  match f with
  | 70 => match ds with
    | [.i .i64 n] => if -9223372036854775808 ≤ n ∧ n ≤ 9223372036854775807 then some (.s (Lib.itoa n)) else none
    | _ => none
  | 71 => match ds with
    | [.im 1 rows, .s sep] => joinD sep (strsOf rows)
    | _ => none
  | _ => none
abbrev VS : VProg := Vx extS pextS
theorem vokS : VOK Tryz.prog VS LaidT := by
  refine vokx laidT_up (fun f args H d H' h => ?_) (fun f ds d vf hf h K W vs hT hr hv => ?_)
  · unfold extS at h
    split at h
    · obtain ⟨h1, h2⟩ := bldW_sim (P := Tryz.prog) (ρ := Tryz.join_ren) { Tryz.join with } extra h
      exact ⟨h1, ⟨Tryz.f37, Tryz.func37, by kernel_rfl, by decide +kernel⟩, fun K μ W vs _ hr hv => h2 K μ W vs hr hv⟩
    · obtain ⟨h1, h2⟩ := bldS_sim (P := Tryz.prog) (ρ := Tryz.join_ren) { Tryz.join with } extra h
      exact ⟨h1, ⟨Tryz.f40, Tryz.func40, by kernel_rfl, by decide +kernel⟩, fun K μ W vs _ hr hv => h2 K μ W vs hr hv⟩
    · cases h
  · unfold pextS at h
    split at h
    · split at h
      · rename_i n
        split at h
        · rename_i hn
          cases h
          obtain ⟨x, rfl, hx⟩ := vrs_one hv
          cases hx
          have : vf.own = false := by cases hf; rfl
          rw [this]
          exact itoa74 n hn.1 hn.2 K W hT hr
        · cases h
      · cases h
    · split at h
      · rename_i rows sep
        unfold joinD at h
        split at h
        · rename_i x l hrows
          split at h
          · rename_i hl
            cases h
            obtain ⟨v, y, rfl, hx, hy⟩ := vrs_two hv
            cases hy
            have : vf.own = false := by cases hf; rfl
            rw [this]
            obtain rfl := strsOf_rows hrows
            exact join75 (x :: l) sep (by simp) hl.1 hl.2 K W v hr hx
          · cases h
        · cases h
      · cases h
    · cases h
theorem awakeRun : pcall VS 400 6 [] = .ret (.b true) := by kernel_rfl
end Go.Proofs.YtnhbopeopppojaaGreatDoor.Dv
