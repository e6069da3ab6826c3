/-
  StateSmall, a closed run: functions that are proved already answer beside the machine.
-/
import Derived.Test.YtnhbopeopppojaaGreatDoorVo
import Derived.Test.YtnhbopeopppojaaGreatDoorKa
import Derived.Test.YtnhbopeopppojaaGreatDoorRb
import Derived.Test.YtnhbopeopppojaaGreatDoorTd
import Derived.Test.YtnhbopeopppojaaGreatDoorSf
import Derived.Test.YtnhbopeopppojaaGreatDoorDg
namespace Go.Proofs.YtnhbopeopppojaaGreatDoor.Dv
open Go.Dm Go.Proofs
section
variable {α : Type}
def rowsO (f : List D → Option α) : List (List D) → Option (List α)
  | [] => some []
  | r :: rs => match f r with
    | some a => match rowsO f rs with
      | some l => some (a :: l)
      | none => none
    | none => none
theorem rowsO_eq {f : List D → Option α} {g : α → List D} (hf : ∀ r a, f r = some a → r = g a) : ∀ {rows : List (List D)} {l : List α}, rowsO f rows = some l → rows = l.map g
  | [], l, h => by cases h; rfl
  | r :: rs, l, h => by
    unfold rowsO at h
    split at h
    · rename_i a ha
      split at h
      · rename_i l' hl
        cases h
        rw [List.map_cons, ← rowsO_eq hf hl, ← hf r a ha]
      · cases h
    · cases h
def slO (w : Nat) (f : List D → Option α) : D → Option (List α)
  | .nil => some []
  | .im w' rows => if w' = w then rowsO f rows else none
  | _ => none
theorem slO_sl {w : Nat} {f : List D → Option α} {g : α → List D} (hf : ∀ r a, f r = some a → r = g a) {d : D} {l : List α} (h : slO w f d = some l) : Sl w (l.map g) d := by
  unfold slO at h
  split at h
  · cases h; exact .nil rfl
  · split at h
    · rename_i e; subst e; rw [rowsO_eq hf h]; exact .im
    · cases h
  · cases h
end
def lnO : List D → Option Ln
  | [.i .i64 m, .i .i64 d, .i .i64 p, .i .i64 o] => some ⟨m, d, p, o⟩
  | _ => none
theorem lnO_eq (r : List D) (a : Ln) (h : lnO r = some a) : r = lnR a := by
  unfold lnO at h
  split at h
  · cases h; rfl
  · cases h
def iO : List D → Option Int
  | [.i .i64 n] => some n
  | _ => none
theorem iO_eq (r : List D) (a : Int) (h : iO r = some a) : r = iR a := by
  unfold iO at h
  split at h
  · cases h; rfl
  · cases h
def poO : List D → Option Po
  | [.i .i64 a, .i .i64 b, .i .u8 c, .i .i64 d] => some ⟨a, b, c, d⟩
  | _ => none
theorem poO_eq (r : List D) (a : Po) (h : poO r = some a) : r = poR a := by
  unfold poO at h
  split at h
  · cases h; rfl
  · cases h
def spO : List D → Option Sp
  | [.i .i64 a, .i .i64 b, .i .i64 c, .i .i64 d, .i .i64 e, .i .i64 f, .i .i64 g, .i .i64 h, .i .i64 i, .b j] => some ⟨a, b, c, d, e, f, g, h, i, j⟩
  | _ => none
theorem spO_eq (r : List D) (a : Sp) (h : spO r = some a) : r = spR a := by
  unfold spO at h
  split at h
  · cases h; rfl
  · cases h
def stmO : D → Option Stm
  | .ag [.i .i64 y, .i .i64 b, .i .i64 a, x, .i .i64 g, .i .i64 t, .i .i64 n, .i .i64 i] => match slO 4 lnO x with
    | some l => some ⟨y, b, a, l, g, t, n, i⟩
    | none => none
  | _ => none
theorem stmO_is {d : D} {s : Stm} (h : stmO d = some s) : IsStm s d := by
  unfold stmO at h
  split at h
  · split at h
    · rename_i x _ _ _ _ l hl
      cases h
      exact ⟨⟨_, rfl, slO_sl lnO_eq hl⟩⟩
    · cases h
  · cases h
def rstO : D → Option RSt
  | .ag [.i .i64 st, x, y, .i .i64 sm, .i .i64 sg, .i .i64 sx, zz] => match slO 1 iO x, slO 4 poO y, slO 10 spO zz with
    | some due, some po, some sl => some ⟨⟨st, due, po⟩, sm, sg, sx, sl⟩
    | _, _, _ => none
  | _ => none
theorem rstO_is {d : D} {s : RSt} (h : rstO d = some s) : IsR s d := by
  unfold rstO at h
  split at h
  · split at h
    · rename_i h1 h2 h3
      cases h
      exact ⟨⟨_, _, _, rfl, slO_sl iO_eq h1, slO_sl poO_eq h2, slO_sl spO_eq h3⟩⟩
    · cases h
  · cases h
def okStm (s : Stm) : Bool := decide (s.ls.length ≤ 100) && s.ls.all fun x => decide (-9223372036854775808 ≤ x.m) && decide (x.m ≤ 9223372036854775807)
def okRst (s : RSt) : Bool := fewR s && s.sl.all fun x => decide (x.m ≤ 9223372036854775807)
def pext2 (f : FuncId) (ds : List D) : Option D :=
  match f with
  | 5 => match ds with
    | [.s t] => if t.length ≤ 3000 then some (.b true) else none
    | _ => none
  | 6 => match ds with
    | [] => some (.b true)
    | _ => none
  | 13 => match ds with
    | [d] => match stmO d with
      | some s => if okStm s = true then some (stD s (owD (s.ls.map lnR))) else none
      | none => none
    | _ => none
  | 17 => match ds with
    | [d] => match stmO d with
      | some s => if okStm s = true then some (.b true) else none
      | none => none
    | _ => none
  | 18 => match ds with
    | [d, .i .i64 _] => match rstO d with
      | some s => if okRst s = true then some (.b true) else none
      | none => none
    | _ => none
  | 20 => match ds with
    | [.s t] => if t.length ≤ 1000000 then some (.im 1 ((wordsT t).map strRow)) else none
    | _ => none
  | 22 => match ds with
    | [.i .i64 m] => if 0 ≤ m ∧ m ≤ 9223372036854775807 then some (.s (monT m)) else none
    | _ => none
  | f => pextS f ds
abbrev VS2 : VProg := V2x extS pext2
theorem pcall_simo {V : VProg} (vok : VOK Tryz.prog V LaidT) {n : Nat} {f : FuncId} {vf : VFunc} (hf : V.fn f = some vf) {ds : List D} {d : D} (h : pcall V n f ds = .ret d) {K : Kn} {W : World} {vs : List Value} (hT : LaidT K W) (hr : HR K mu0 [] W) (hv : VRs K mu0 [] ds vs) :
    Calls Tryz.prog f vs.toArray W (Settles vf.own K W d) := by
  cases n with
  | zero => cases h
  | succ n =>
    unfold pcall at h
    simp only [hf] at h
    exact pureR_sim mixed vok (call_sim mixed vok n) (call_simP mixed vok n) hf h hT hr hv
theorem copied13 {s : Stm} {d : D} (h : IsStm s d) (hl : s.ls.length ≤ 1000) : PRet VS 13 [d] (stD s (owD (s.ls.map lnR))) := by
  obtain ⟨⟨x, rfl, h⟩⟩ := h
  refine .body (vf := v13) rfl rfl (copy_q h hl ?_)
  exact ⟨_, settle_st, rfl⟩
theorem vok2 : VOK Tryz.prog VS2 LaidT := by
  refine vokx2 laidT_up vokS.ext (fun f ds d vf hf h K W vs hT hr hv => ?_)
  unfold pext2 at h
  split at h
  · split at h
    · split at h
      · rename_i hl
        cases h; cases hf
        obtain ⟨n, hn⟩ := reads5 hl
        exact pcall_simo vokS (vf := v5) rfl hn hT hr hv
      · cases h
    · cases h
  · split at h
    · cases h; cases hf
      exact pcall_simo vokS (vf := v6) rfl awakeRun hT hr hv
    · cases h
  · split at h
    · split at h
      · rename_i s hs
        split at h
        · rename_i hk
          cases h; cases hf
          simp only [okStm, Bool.and_eq_true, decide_eq_true_eq, List.all_eq_true] at hk
          obtain ⟨n, hn⟩ := copied13 (stmO_is hs) (by omega)
          exact pcall_simo vokS (vf := v13) rfl hn hT hr hv
        · cases h
      · cases h
    · cases h
  · split at h
    · split at h
      · rename_i s hs
        split at h
        · rename_i hk
          cases h; cases hf
          simp only [okStm, Bool.and_eq_true, decide_eq_true_eq, List.all_eq_true] at hk
          obtain ⟨n, hn⟩ := writes13 (stmO_is hs) ⟨fun x hx => hk.2 x hx⟩ hk.1
          exact pcall_simo vokS (vf := v17) rfl hn hT hr hv
        · cases h
      · cases h
    · cases h
  · split at h
    · split at h
      · rename_i s hs
        split at h
        · rename_i hk
          cases h; cases hf
          simp only [okRst, Bool.and_eq_true, decide_eq_true_eq, List.all_eq_true] at hk
          obtain ⟨n, hn⟩ := makes11 (rstO_is hs) (rng_few (fun x hx => hk.2 x hx) hk.1) hk.1
          exact pcall_simo vokS (vf := v18) rfl hn hT hr hv
        · cases h
      · cases h
    · cases h
  · split at h
    · split at h
      · rename_i hl
        cases h; cases hf
        obtain ⟨n, hn⟩ := words20 hl
        exact pcall_simo vokS (vf := v20) rfl hn hT hr hv
      · cases h
    · cases h
  · split at h
    · split at h
      · rename_i hl
        cases h; cases hf
        obtain ⟨n, hn⟩ := month84 hl
        exact pcall_simo vokS (vf := v22) rfl hn hT hr hv
      · cases h
    · cases h
  · unfold pextS at h
    split at h
    · cases hf; exact vokS.pext 70 ds d v70 rfl h K W vs hT hr hv
    · cases hf; exact vokS.pext 71 ds d v71 rfl h K W vs hT hr hv
    · cases h
open Go.Dm Go.Proofs
def exStm : D := .tu [.ag [.i .i64 2025, .i .i64 0, .i .i64 80, .ow 4 [[.i .i64 1501, .i .i64 100, .i .i64 120, .i .i64 (-20)], [.i .i64 1502, .i .i64 100, .i .i64 0, .i .i64 100]], .i .i64 120, .i .i64 20, .i .i64 100, .i .i64 0], .i .i64 0]
theorem exRun : pcall VS2 400 11 [.s exText] = .ret exStm := pcall_k (by kernel_rfl)
def exSplit : List UInt8 → List UInt8 → List (List UInt8)
  | [], _ => []
  | c :: r, l => if c = 10 then (l ++ [c]) :: exSplit r [] else exSplit r (l ++ [c])
def pext3 (f : FuncId) (ds : List D) : Option D :=
  match f with
  | 11 => match ds with
    | [.s t] => if t = exText then some exStm else none
    | _ => none
  | f => pext2 f ds
abbrev VS3 : VProg := V2x extS pext3
theorem vok3 : VOK Tryz.prog VS3 LaidT := by
  refine vokx2 laidT_up vokS.ext (fun f ds d vf hf h K W vs hT hr hv => ?_)
  unfold pext3 at h
  split at h
  · split at h
    · split at h
      · rename_i e
        cases h; cases hf; subst e
        exact pcall_simo vok2 (vf := own2 11 v11) rfl exRun hT hr hv
      · cases h
    · cases h
  · exact vok2.pext f ds d vf hf h K W vs hT hr hv
open Go.Dm Go.Proofs
theorem yearsRun : pcall VS3 600 9 [] = .ret (.b true) := pcall_k (by kernel_rfl)
def exLines : List (List UInt8) := exSplit exText []
theorem linesRun : pcall VS3 600 7 [.s exText] = .ret (.im 1 (exLines.map strRow)) := pcall_k (by kernel_rfl)
end Go.Proofs.YtnhbopeopppojaaGreatDoor.Dv
