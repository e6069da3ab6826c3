/-
  The reference's number: the digits of a number out of limbs of 16 bits. The plain part.
-/
import Derived.Test.YtnhbopeopppojaaGreatDoorSi
namespace Go.Proofs.YtnhbopeopppojaaGreatDoor.Dv
open Go.Dm Go.Proofs

/-- The value of limbs, the lowest first. -/
def lval : List Nat → Nat
  | [] => 0
  | x :: l => x + 65536 * lval l
def lim (l : List Nat) : Prop := ∀ x ∈ l, x < 65536
/-- Short division by ten. -/
def sh : List Nat → List Nat × Nat
  | [] => ([], 0)
  | x :: l => (((sh l).2 * 65536 + x) / 10 :: (sh l).1, ((sh l).2 * 65536 + x) % 10)
theorem sh_len : ∀ l, (sh l).1.length = l.length
  | [] => rfl
  | x :: l => by simp [sh, sh_len l]
theorem sh_c : ∀ l, (sh l).2 < 10
  | [] => by simp [sh]
  | x :: l => by simp only [sh]; omega
theorem sh_val : ∀ l, lval (sh l).1 * 10 + (sh l).2 = lval l
  | [] => rfl
  | x :: l => by
    have := sh_val l
    simp only [sh, lval]
    omega
theorem sh_lim : ∀ l, lim l → lim (sh l).1
  | [], _ => fun _ h => by cases h
  | x :: l, h => fun y hy => by
    have h0 := h x List.mem_cons_self
    have hc := sh_c l
    rcases List.mem_cons.1 hy with rfl | hy
    · omega
    · exact sh_lim l (fun z hz => h z (List.mem_cons_of_mem _ hz)) y hy
/-- Without the zeros at the top. -/
def trim : List Nat → List Nat
  | [] => []
  | x :: l => if trim l = [] ∧ x = 0 then [] else x :: trim l
theorem trim_val : ∀ l, lval (trim l) = lval l
  | [] => rfl
  | x :: l => by
    have := trim_val l
    unfold trim
    split
    · rename_i h
      rw [h.1] at this
      simp only [lval] at this ⊢
      omega
    · simp only [lval, this]
theorem trim_nil : ∀ l, trim l = [] ↔ lval l = 0
  | [] => by simp [trim, lval]
  | x :: l => by
    have := trim_nil l
    unfold trim
    split
    · rename_i h
      have := this.1 h.1
      simp only [lval, true_iff]; omega
    · rename_i h
      simp only [reduceCtorEq, lval, false_iff]
      intro hh
      exact h ⟨this.2 (by omega), by omega⟩
theorem trim_lim : ∀ l, lim l → lim (trim l)
  | [], h => h
  | x :: l, h => fun y hy => by
    unfold trim at hy
    split at hy
    · cases hy
    · rcases List.mem_cons.1 hy with rfl | hy
      · exact h _ List.mem_cons_self
      · exact trim_lim l (fun z hz => h z (List.mem_cons_of_mem _ hz)) y hy
theorem trim_take : ∀ (l : List Nat), ∃ n, n ≤ l.length ∧ trim l = l.take n ∧ (∀ k, n ≤ k → k < l.length → l[k]! = 0) ∧ (0 < n → l[n - 1]! ≠ 0)
  | [] => ⟨0, Nat.le_refl _, rfl, (fun k _ hk => absurd hk (Nat.not_lt_zero k)), fun h => absurd h (Nat.lt_irrefl 0)⟩
  | x :: l => by
    obtain ⟨n, h1, h2, h3, h4⟩ := trim_take l
    unfold trim
    split
    · rename_i h
      refine ⟨0, Nat.zero_le _, rfl, fun k _ hk => ?_, fun h => by cases h⟩
      have hn : n = 0 := by
        rw [h2] at h
        rcases List.take_eq_nil_iff.1 h.1 with h | h
        · exact h
        · subst h; simpa using h1
      cases k with
      | zero => simpa using h.2
      | succ k =>
        have := h3 k (by omega) (by simpa using hk)
        simpa using this
    · rename_i h
      refine ⟨n + 1, by simpa using h1, by rw [h2]; rfl, fun k hk hl => ?_, fun _ => ?_⟩
      · cases k with
        | zero => omega
        | succ k => simpa using h3 k (by omega) (by simpa using hl)
      · cases n with
        | zero =>
          have e : trim l = [] := by rw [h2]; rfl
          simpa using fun e2 => h ⟨e, e2⟩
        | succ n => simpa using h4 (by omega)
/-- The limbs of a number. -/
def limbs (u : Nat) : List Nat := if h : u = 0 then [] else u % 65536 :: limbs (u / 65536)
theorem limbs_val (u : Nat) : lval (limbs u) = u := by
  induction u using Nat.strongRecOn with
  | ind u ih =>
    rw [limbs]
    split
    · rename_i h; subst h; rfl
    · simp only [lval]
      rw [ih (u / 65536) (by omega)]
      omega
theorem limbs_lim (u : Nat) : lim (limbs u) := by
  induction u using Nat.strongRecOn with
  | ind u ih =>
    rw [limbs]
    split
    · intro x hx; cases hx
    · intro x hx
      rcases List.mem_cons.1 hx with rfl | hx
      · omega
      · exact ih (u / 65536) (by omega) x hx
theorem limbs_top (u : Nat) : 0 < (limbs u).length → (limbs u)[(limbs u).length - 1]! ≠ 0 := by
  induction u using Nat.strongRecOn with
  | ind u ih =>
    rw [limbs]
    split
    · intro h; cases h
    · rename_i hu
      intro _
      by_cases h : u / 65536 = 0
      · rw [h, limbs]; simp; omega
      · have := ih (u / 65536) (by omega)
        have hl : 0 < (limbs (u / 65536)).length := by rw [limbs, dif_neg h]; simp
        obtain ⟨k, hk⟩ : ∃ k, (limbs (u / 65536)).length = k + 1 := ⟨_, (Nat.succ_pred_eq_of_pos hl).symm⟩
        have := this hl
        rw [hk] at this
        simpa [hk] using this
end Go.Proofs.YtnhbopeopppojaaGreatDoor.Dv
