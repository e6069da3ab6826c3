/-
  strings.Join beside the machine.
-/
import Derived.Test.YtnhbopeopppojaaGreatDoorNb
namespace Go.Proofs.YtnhbopeopppojaaGreatDoor.Dv
open Go.Dm Go.Proofs Go.Sort

theorem extra : Builder.Extra Tryz.prog Tryz.join_ren := {
  sizeBuilder := by kernel_rfl
  liesBuilder := by kernel_rfl
  t5 := Tryz.underlying5
  a5 := Tryz.isAgg5
  z5 := Tryz.sizeOf5
  v5 := Tryz.zeroValue5
  infoByte := by kernel_rfl
  cellsByte := by kernel_rfl
  sizeByte := by kernel_rfl
  neB5 := by decide }

def strRow (s : List UInt8) : List D := [.s s]
theorem hr0_below {K : Kn} {w w' : World} (h : HR K mu0 [] w) (hb : Go.RowKit.Below w.heap.size w w') : HR K mu0 [] w' where
  dom := h.dom
  tot := h.tot
  blk := fun id l b e => by cases e
  lt := fun id l e => by cases e
  inj := h.inj
  kn := fun b o v hk => by
    have h1 := h.kn b o v hk
    have hlt := World.block_lt_of_cell? w ⟨b, o, none⟩ h1
    rw [← h1]
    simp only [World.cell?, hb.block b hlt]
  kf := h.kf
theorem nx0_below {K : Kn} {w w' : World} (hb : Go.RowKit.Below w.heap.size w w') : Nx K mu0 [] w K mu0 [] w' where
  ext := .refl _ _ _
  os := hb.os
  tape := hb.tape
  output := hb.output
  size := hb.size
  keep := fun r hr _ => hb.block r hr
  og := fun r h => .inl h
  kg := fun b o v e => .inl e
/-- strings.Join of what the machine holds. -/
theorem join75 (l : List (List UInt8)) (sep : List UInt8) (hne : l ≠ []) (hN : l.length ≤ 140737488355328) (hlen : (Lib.join l sep).length ≤ 140737488355328) (K : Kn) (W : World) (v : Value) (hr : HR K mu0 [] W) (hv : VR K mu0 [] (.im 1 (l.map strRow)) v) :
    Calls Tryz.prog 71 #[v, .string ⟨sep.toArray⟩] W (Settles false K W (.s (Lib.join l sep))) := by
  cases hv with
  | im _ _ _ _ blk off cap f hc hw hk h1 hvr =>
    have hcell : ∀ (j : Nat) x, (l.map fun s => (⟨s.toArray⟩ : ByteArray))[j]? = some x → W.cell? ⟨blk, off + j, none⟩ = some (.string x) := fun j x hx => by
      rw [List.getElem?_map] at hx
      cases hs : l[j]? with
      | none => rw [hs] at hx; cases hx
      | some s =>
        rw [hs] at hx
        cases hx
        have hrow : (l.map strRow)[j]? = some (strRow s) := by rw [List.getElem?_map, hs]; rfl
        have a := hr.kn _ _ _ (hk j _ 0 (.s s) hrow rfl)
        have b := hvr j _ 0 (.s s) hrow rfl
        have e : f j 0 = .string ⟨s.toArray⟩ := by
          generalize f j 0 = u at b
          cases b; rfl
        rw [e] at a
        simpa using a
    have hblk : blk < W.heap.size := by
      cases l with
      | nil => exact absurd rfl hne
      | cons s l => exact World.block_lt_of_cell? W _ (hcell 0 _ rfl)
    have em : ((l.map fun s => (⟨s.toArray⟩ : ByteArray)).map (·.data.toList)) = l := by
      rw [List.map_map]
      exact (List.map_congr_left (fun s _ => by simp)).trans (List.map_id l)
    have hcon := Any.strings_Join Tryz.join extra blk off cap (l.map fun s => (⟨s.toArray⟩ : ByteArray)) ⟨sep.toArray⟩ W hcell hblk (by simpa using hN) (by simpa using hc) (by rw [em]; simpa using hlen)
    rw [em] at hcon
    simp only [List.length_map] at hcon ⊢
    refine hcon.mono ?_
    rintro e w' ⟨rfl, hb⟩
    exact ⟨K, mu0, [], .s (Lib.join l sep), hr0_below hr hb, nx0_below hb, .s .., rfl⟩
end Go.Proofs.YtnhbopeopppojaaGreatDoor.Dv
