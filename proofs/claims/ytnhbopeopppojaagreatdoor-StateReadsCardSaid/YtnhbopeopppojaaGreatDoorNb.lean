/-
  strconv.Itoa beside the machine.
-/
import Derived.Test.YtnhbopeopppojaaGreatDoorNa
import Derived.Test.YtnhbopeopppojaaGreatDoorVok
namespace Go.Proofs.YtnhbopeopppojaaGreatDoor.Dv
open Go.Dm Go.Proofs Go.Sort

/-- What is known of the laid table. -/
structure LaidT (K : Kn) (W : World) : Prop where
  tab : Lib.TabIs Tryz.prog W "internal/strconv.uint64pow10" .u64 Lib.pow10Tab
  kn : ∃ g v, Tryz.prog.globalNamed "internal/strconv.uint64pow10" = some g ∧ K g 0 = some v
theorem laidT_up {K : Kn} {μ : Mu} {H : Heap} {W : World} {K' : Kn} {μ' : Mu} {H' : Heap} {W' : World} (h : LaidT K W) (hr : HR K μ H W) (nx : Nx K μ H W K' μ' H' W') : LaidT K' W' := by
  obtain ⟨h1, g, v, hg, hv⟩ := h
  refine ⟨?_, g, v, hg, nx.ext.k _ _ _ hv⟩
  have e : W'.heap[g]? = W.heap[g]? := nx.keep g (hr.klt hv) (hr.kf g 0 v hv)
  unfold Lib.TabIs World.var? at h1 ⊢
  rw [hg] at h1 ⊢
  simp only [Option.bind_some, e] at h1 ⊢
  exact h1

theorem grow_cell {w : World} {n : Nat} {os : Array Obj} {b o : Nat} {v : Value} (h : w.cell? ⟨b, o, none⟩ = some v) : (grow (w.drewN n) os).cell? ⟨b, o, none⟩ = some v := by
  have hb := World.block_lt_of_cell? w ⟨b, o, none⟩ h
  rw [← h]
  have : (grow (w.drewN n) os).heap[b]? = w.heap[b]? := by
    show (w.heap ++ os)[b]? = w.heap[b]?
    rw [Array.getElem?_append_left hb]
  simp only [World.cell?, this]
theorem hr0_grow {K : Kn} {w : World} {n : Nat} {os : Array Obj} (h : HR K mu0 [] w) : HR K mu0 [] (grow (w.drewN n) os) where
  dom := h.dom
  tot := h.tot
  blk := fun id l b e => by cases e
  lt := fun id l e => by cases e
  inj := h.inj
  kn := fun b o v hk => grow_cell (h.kn b o v hk)
  kf := h.kf
theorem nx0_grow {K : Kn} {w : World} {n : Nat} {os : Array Obj} : Nx K mu0 [] w K mu0 [] (grow (w.drewN n) os) where
  ext := .refl _ _ _
  os := rfl
  tape := rfl
  output := rfl
  size := by show w.heap.size ≤ (w.heap ++ os).size; simp
  keep := fun r hr _ => by show (w.heap ++ os)[r]? = w.heap[r]?; rw [Array.getElem?_append_left hr]
  og := fun r h => .inl h
  kg := fun b o v e => .inl e
/-- strconv.Itoa of what the machine holds. -/
theorem itoa74 (n : Int) (h0 : -9223372036854775808 ≤ n) (h1 : n ≤ 9223372036854775807) (K : Kn) (W : World) (hT : LaidT K W) (hr : HR K mu0 [] W) : Calls Tryz.prog 70 #[.int .i64 n] W (Settles false K W (.s (Lib.itoa n))) := by
  refine (Any.strconv_Itoa Tryz.itoa n h0 h1 W hT.tab).mono ?_
  rintro e w' ⟨rfl, k, os, rfl⟩
  exact ⟨K, mu0, [], .s (Lib.itoa n), hr0_grow hr, nx0_grow, .s .., rfl⟩
end Go.Proofs.YtnhbopeopppojaaGreatDoor.Dv
