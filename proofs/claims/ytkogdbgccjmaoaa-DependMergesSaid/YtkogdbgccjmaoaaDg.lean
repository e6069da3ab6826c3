/-
  The machine's runs by equations; functions that stand in many instances.
-/
import Derived.Test.YtkogdbgccjmaoaaDa
import Derived.IntWalk
import Derived.Test.YtkogdbgccjmaoaaDe

/-
  The machine's runs: more fuel changes nothing; calls; loops; slices that came in.
-/
namespace Go.Dm

section
variable {V : VProg} {cl cl' : FuncId → List D → Heap → CR}

def ClLe (cl cl' : FuncId → List D → Heap → CR) : Prop := ∀ f args H d H', cl f args H = .ret d H' → cl' f args H = .ret d H'

theorem step_mono (hc : ClLe cl cl') {op : VOp} {loc : List D} {st st1 : St} {d : D} (h : step V cl loc st op = .v d st1) : step V cl' loc st op = .v d st1 := by
  have key : ∀ {f args H} {sl : List D}, (cl f args H).toR sl = .v d st1 → (cl' f args H).toR sl = .v d st1 := fun {f args H sl} h => by
    cases hr : cl f args H with
    | ret q H' => rw [hr] at h; rw [hc _ _ _ _ _ hr]; exact h
    | pan q H' => rw [hr] at h; cases h
    | bad => rw [hr] at h; cases h
  cases op with
  | call f xs => simp only [step] at h ⊢; exact key h
  | calv x xs =>
    simp only [step] at h ⊢
    generalize x.ev loc st.sl = q at h ⊢
    split at h
    · exact key h
    · cases h
  | inv x m xs =>
    simp only [step] at h ⊢
    generalize x.ev loc st.sl = q at h ⊢
    split at h
    · rename_i t v
      cases hf : V.meth t m with
      | none => rw [hf] at h; cases h
      | some f => rw [hf] at h; exact key h
    · cases h
  | _ => exact h

theorem ops_mono (hc : ClLe cl cl') {dr : Option (Nat × Bool)} : ∀ {os : List VOper} {loc : List D} {st st' : St}, ops V cl dr os loc st = (.nm, st') → ops V cl' dr os loc st = (.nm, st')
  | [], _, _, _, h => h
  | o :: os, loc, st, st', h => by
    unfold ops at h ⊢
    cases hw : o.wants loc st.sl with
    | none => rw [hw] at h; cases h
    | some r =>
      rw [hw] at h
      cases r with
      | false => exact ops_mono hc h
      | true =>
        simp only at h ⊢
        cases hf : o.op.fits dr loc st.sl with
        | false => rw [hf] at h; cases h
        | true =>
          rw [hf] at h
          simp only at h ⊢
          cases hs : step V cl loc st o.op with
          | v d st1 =>
            rw [hs] at h
            rw [step_mono hc hs]
            exact ops_mono hc h
          | p d hp => rw [hs] at h; simp only at h; split at h <;> cases h
          | bad => rw [hs] at h; cases h

def Ex.fine : Ex → Bool
  | .nm | .ex _ | .rt => true
  | _ => false

theorem ops_fine {dr : Option (Nat × Bool)} : ∀ {os : List VOper} {loc : List D} {st st' : St} {ex : Ex}, ops V cl dr os loc st = (ex, st') → ex.fine = true → ex = .nm
  | [], _, _, _, _, h, _ => by cases h; rfl
  | o :: os, loc, st, st', ex, h, hg => by
    unfold ops at h
    split at h
    · split at h
      · split at h
        · exact ops_fine h hg
        · split at h <;> cases h <;> cases hg
        · cases h; cases hg
      · cases h; cases hg
    · exact ops_fine h hg
    · cases h; cases hg

theorem iter_mono {b b' : St → Ex × St} (hb : ∀ st st' ex, b st = (ex, st') → ex.fine = true → b' st = (ex, st')) : ∀ (n n' : Nat) (st st' : St) (ex : Ex), n ≤ n' → iter b n st = (ex, st') → ex.fine = true → iter b' n' st = (ex, st')
  | 0, _, _, _, _, _, h, hg => by cases h; cases hg
  | n + 1, 0, _, _, _, hle, _, _ => by omega
  | n + 1, n' + 1, st, st', ex, hle, h, hg => by
    simp only [iter] at h ⊢
    cases hx : b st with
    | mk e1 s1 =>
      rw [hx] at h
      cases e1 with
      | nm =>
        rw [hb _ _ _ hx rfl]
        exact iter_mono hb n n' s1 st' ex (by omega) h hg
      | _ =>
        simp only [Prod.mk.injEq] at h
        obtain ⟨rfl, rfl⟩ := h
        rw [hb _ _ _ hx hg]

theorem exec_mono (hc : ClLe cl cl') {n n' : Nat} (hn : n ≤ n') : ∀ (c : VCode) (st st' : St) (ex : Ex), exec V cl n c st = (ex, st') → ex.fine = true → exec V cl' n' c st = (ex, st') := by
  intro c
  induction c with
  | skip => intro st st' ex h _; exact h
  | ret => intro st st' ex h _; exact h
  | exit id => intro st st' ex h _; exact h
  | reg os draw =>
    intro st st' ex h hg
    simp only [exec] at h ⊢
    have := ops_fine h hg
    subst this
    exact ops_mono hc h
  | seq a b iha ihb =>
    intro st st' ex h hg
    simp only [exec] at h ⊢
    cases ha : exec V cl n a st with
    | mk e1 st1 =>
      rw [ha] at h
      cases e1 with
      | nm => rw [iha _ _ _ ha rfl]; exact ihb _ _ _ h hg
      | _ => simp only [Prod.mk.injEq] at h; obtain ⟨rfl, rfl⟩ := h; rw [iha _ _ _ ha hg]
  | cond c a b iha ihb =>
    intro st st' ex h hg
    simp only [exec] at h ⊢
    generalize c.ev [] st.sl = q at h ⊢
    split at h
    · exact iha _ _ _ h hg
    · exact ihb _ _ _ h hg
    · cases h; cases hg
  | block id c ih =>
    intro st st' ex h hg
    simp only [exec] at h ⊢
    cases ha : exec V cl n c st with
    | mk e1 st1 =>
      rw [ha] at h
      cases e1 with
      | ex id' => rw [ih _ _ _ ha rfl]; exact h
      | _ => simp only [Prod.mk.injEq] at h; obtain ⟨rfl, rfl⟩ := h; rw [ih _ _ _ ha hg]
  | loop c ih =>
    intro st st' ex h hg
    simp only [exec] at h ⊢
    exact iter_mono ih n n' st st' ex hn h hg

theorem enter_mono (hc : ClLe cl cl') {n n' : Nat} (hn : n ≤ n') {vf : VFunc} {args : List D} {H : Heap} {d : D} {H' : Heap} (h : enter V cl n vf args H = .ret d H') : enter V cl' n' vf args H = .ret d H' := by
  unfold enter at h ⊢
  split at h
  · rename_i hl
    rw [if_pos hl]
    split at h
    · rename_i st hex; rw [exec_mono hc hn _ _ _ _ hex rfl]; exact h
    · rename_i st hex; rw [exec_mono hc hn _ _ _ _ hex rfl]; exact h
    · cases h
    · cases h
  · cases h

theorem pureRun_mono (hc : ClLe cl cl') {n n' : Nat} (hn : n ≤ n') {vf : VFunc} {args : List D} {d : D} (h : pureRun V cl n vf args = .ret d) : pureRun V cl' n' vf args = .ret d := by
  unfold pureRun at h ⊢
  cases he : enter V cl n vf args [] with
  | ret d0 H0 => rw [he] at h; rw [enter_mono hc hn he]; exact h
  | pan q Hq => rw [he] at h; simp only at h; split at h <;> cases h
  | bad => rw [he] at h; cases h

theorem call_mono (V : VProg) : ∀ n n', n ≤ n' → ClLe (call V n) (call V n') := by
  intro n
  induction n with
  | zero => intro n' _ f args H d H' h; cases h
  | succ n ih =>
    intro n' hn f args H d H' h
    cases n' with
    | zero => omega
    | succ n' =>
      have hc := ih n' (by omega)
      simp only [call] at h ⊢
      cases hf : V.fn f with
      | none => rw [hf] at h; cases h
      | some vf =>
        rw [hf] at h
        simp only at h ⊢
        cases hp : vf.pure with
        | false => rw [hp] at h; exact enter_mono hc (by omega) h
        | true =>
          rw [hp] at h
          simp only at h ⊢
          cases hfr : freezeL deep H args with
          | none => rw [hfr] at h; cases h
          | some q =>
            obtain ⟨ds, H1⟩ := q
            rw [hfr] at h
            simp only at h ⊢
            cases hr : pureRun V (call V n) n vf ds with
            | ret d1 => rw [hr] at h; rw [pureRun_mono hc (by omega) hr]; exact h
            | pan d1 => rw [hr] at h; cases h
            | bad => rw [hr] at h; cases h

end

/-- The call hands back d and leaves the heap H'. -/
def Ret (V : VProg) (f : FuncId) (args : List D) (H : Heap) (d : D) (H' : Heap) : Prop := ∃ N, ∀ n, N ≤ n → call V n f args H = .ret d H'

theorem Ret.of {V : VProg} {n : Nat} {f : FuncId} {args : List D} {H : Heap} {d : D} {H' : Heap} (h : call V n f args H = .ret d H') : Ret V f args H d H' :=
  ⟨n, fun m hm => call_mono V n m hm _ _ _ _ _ h⟩

/-- A function that works on the caller's heap. -/
theorem Ret.impure {V : VProg} {f : FuncId} {vf : VFunc} {args : List D} {H : Heap} {d : D} {H' : Heap} (hf : V.fn f = some vf) (hp : vf.pure = false) (N : Nat) (h : ∀ n, N ≤ n → enter V (call V n) n vf args H = .ret d H') : Ret V f args H d H' :=
  .of (n := N + 1) (by simp only [call, hf, hp]; exact h N (Nat.le_refl _))

/-- A pure function by its run over contents. -/
def PRet (V : VProg) (f : FuncId) (ds : List D) (d : D) : Prop := ∃ n, pcall V n f ds = .ret d

theorem PRet.of {V : VProg} {f : FuncId} {vf : VFunc} {ds : List D} {d0 d : D} {H : Heap} (hf : V.fn f = some vf) (N : Nat) (h : ∀ n, N ≤ n → enter V (call V n) n vf ds [] = .ret d0 H) (ha : apart (mus d0) = true) (hs : settle H d0 = some d) : PRet V f ds d :=
  ⟨N + 1, by simp only [pcall, hf, pureRun, h N (Nat.le_refl _), ha, if_true, hs]⟩

theorem Ret.pure {V : VProg} {f : FuncId} {vf : VFunc} {args ds : List D} {H H1 : Heap} {d : D} (hf : V.fn f = some vf) (hp : vf.pure = true) (hfr : freezeL deep H args = some (ds, H1)) (h : PRet V f ds d) : Ret V f args H (place d H1).1 (place d H1).2 := by
  obtain ⟨n, h⟩ := h
  cases n with
  | zero => cases h
  | succ n =>
    refine .of (n := n + 1) ?_
    simp only [pcall, hf] at h
    simp only [call, hf, hp, hfr, h]

/-! ### Loops -/

theorem iter_rel {body : St → Ex × St} (R : Nat → St → Prop) (Q : Ex → St → Prop) : ∀ (k : Nat) {n : Nat} {st : St}, k < n → R 0 st → (∀ i s, i < k → R i s → ∃ s', body s = (.nm, s') ∧ R (i + 1) s') →
    (∀ s, R k s → ∃ ex s', body s = (ex, s') ∧ ex ≠ .nm ∧ Q ex s') → ∃ ex s', iter body n st = (ex, s') ∧ Q ex s' := by
  intro k
  have : ∀ (m i : Nat) (st : St) (n : Nat), i + m = k → m < n → R i st → (∀ i s, i < k → R i s → ∃ s', body s = (.nm, s') ∧ R (i + 1) s') →
      (∀ s, R k s → ∃ ex s', body s = (ex, s') ∧ ex ≠ .nm ∧ Q ex s') → ∃ ex s', iter body n st = (ex, s') ∧ Q ex s' := by
    intro m
    induction m with
    | zero =>
      intro i st n hi hn hR _ he
      have : i = k := by omega
      subst this
      obtain ⟨ex, s', h1, h2, h3⟩ := he st hR
      cases n with
      | zero => omega
      | succ n =>
        refine ⟨ex, s', ?_, h3⟩
        simp only [iter, h1]
        cases ex <;> first | rfl | exact (h2 rfl).elim
    | succ m ih =>
      intro i st n hi hn hR hs he
      obtain ⟨s1, h1, h2⟩ := hs i st (by omega) hR
      cases n with
      | zero => omega
      | succ n =>
        obtain ⟨ex, s', h3, h4⟩ := ih (i + 1) s1 n (by omega) (by omega) h2 hs he
        refine ⟨ex, s', ?_, h4⟩
        simp only [iter, h1]
        exact h3
  intro n st hn h0 hs he
  exact this k 0 st n (by omega) hn h0 hs he

/-! ### Slices that came in -/

/-- A slice of plain contents: 'w' cells a row. -/
inductive Sl (w : Nat) (rows : List (List D)) : D → Prop
  | nil (h : rows = []) : Sl w rows .nil
  | z (h : rows = []) : Sl w rows .z
  | im : Sl w rows (.im w rows)

section
variable {w : Nat} {rows : List (List D)} {x : D} {H : Heap}

theorem Sl.len (h : Sl w rows x) : lenD H 1 x = some (.i .i64 rows.length) := by
  cases h with
  | nil h => subst h; rfl
  | z h => subst h; rfl
  | im => rfl
theorem Sl.cont (h : Sl w rows x) : rowsOf H w x = some rows := by
  cases h with
  | nil h => subst h; rfl
  | z h => subst h; rfl
  | im => simp [rowsOf]
theorem Sl.elem (h : Sl w rows x) {k : IntKind} {i : Nat} (hi : i < rows.length) : iadD H x (.i k i) w = some (.ip rows[i]) := by
  cases h with
  | nil h => subst h; simp at hi
  | z h => subst h; simp at hi
  | im => simp [iadD, ixOf, hi]
theorem Sl.freeze (h : Sl w rows x) (m : Nat) : freeze (m + 1) H x = some (x, H) := by
  cases h <;> simp [freeze_succ]
theorem Sl.settle (h : Sl w rows x) : settleC H x = some x := by
  cases h <;> rfl
theorem Sl.mus (h : Sl w rows x) : muOf x = [] := by
  cases h <;> rfl
theorem Sl.place (h : Sl w rows x) : placeC x H = (x, H) := by
  cases h <;> rfl
end

/-! ### Evaluation, a piece at a time: what is behind a piece is not looked at before the piece has a value -/
section
variable {V : VProg} {cl : FuncId → List D → Heap → CR} {dr : Option (Nat × Bool)} {n : Nat}

def opsK (V : VProg) (cl : FuncId → List D → Heap → CR) (dr : Option (Nat × Bool)) (os : List VOper) (keep : Option Nat) (loc : List D) (st : St) : R → Ex × St
  | .v d st' => ops V cl dr os (loc ++ [d]) ⟨setSl st'.sl keep d, st'.hp⟩
  | .p d hp => match dr with
    | none => (.pn d, ⟨st.sl, hp⟩)
    | some _ => (.bad, st)
  | .bad => (.bad, st)
def opsF (V : VProg) (cl : FuncId → List D → Heap → CR) (dr : Option (Nat × Bool)) (o : VOper) (os : List VOper) (loc : List D) (st : St) : Bool → Ex × St
  | true => opsK V cl dr os o.keep loc st (step V cl loc st o.op)
  | false => (.bad, st)
def opsW (V : VProg) (cl : FuncId → List D → Heap → CR) (dr : Option (Nat × Bool)) (o : VOper) (os : List VOper) (loc : List D) (st : St) : Option Bool → Ex × St
  | some true => opsF V cl dr o os loc st (o.op.fits dr loc st.sl)
  | some false => ops V cl dr os (loc ++ [.u]) ⟨setSl st.sl o.keep .u, st.hp⟩
  | none => (.bad, st)
theorem ops_cons (o : VOper) (os : List VOper) (loc : List D) (st : St) : ops V cl dr (o :: os) loc st = opsW V cl dr o os loc st (o.wants loc st.sl) := by
  rw [ops]
  cases o.wants loc st.sl with
  | none => rfl
  | some r =>
    cases r with
    | false => rfl
    | true =>
      simp only [opsW]
      cases o.op.fits dr loc st.sl with
      | false => rfl
      | true =>
        simp only [opsF]
        cases step V cl loc st o.op <;> rfl
theorem ops_nil (loc : List D) (st : St) : ops V cl dr [] loc st = (.nm, st) := rfl
theorem opsW_t (o : VOper) (os : List VOper) (loc : List D) (st : St) : opsW V cl dr o os loc st (some true) = opsF V cl dr o os loc st (o.op.fits dr loc st.sl) := rfl
theorem opsW_f (o : VOper) (os : List VOper) (loc : List D) (st : St) : opsW V cl dr o os loc st (some false) = ops V cl dr os (loc ++ [.u]) ⟨setSl st.sl o.keep .u, st.hp⟩ := rfl
theorem opsF_t (o : VOper) (os : List VOper) (loc : List D) (st : St) : opsF V cl dr o os loc st true = opsK V cl dr os o.keep loc st (step V cl loc st o.op) := rfl
theorem opsK_v (os : List VOper) (keep : Option Nat) (loc : List D) (st : St) (d : D) (sl : List D) (H : Heap) : opsK V cl dr os keep loc st (.v d ⟨sl, H⟩) = ops V cl dr os (loc ++ [d]) ⟨setSl sl keep d, H⟩ := rfl

def wantK (want : Bool) : D → Option Bool
  | .b y => some (y == want)
  | .u => some false
  | _ => none
theorem wants_none (op : VOp) (keep : Option Nat) (loc sl : List D) : (⟨op, keep, none⟩ : VOper).wants loc sl = some true := rfl
theorem wants_some (op : VOp) (keep : Option Nat) (x : O) (w : Bool) (loc sl : List D) : (⟨op, keep, some (x, w)⟩ : VOper).wants loc sl = wantK w (x.ev loc sl) := by
  simp only [VOper.wants]
  cases x.ev loc sl <;> rfl
theorem wantK_tt : wantK true (.b true) = some true := rfl
theorem wantK_ff : wantK false (.b false) = some true := rfl
theorem wantK_tf : wantK true (.b false) = some false := rfl
theorem wantK_ft : wantK false (.b true) = some false := rfl
theorem wantK_u (w : Bool) : wantK w .u = some false := rfl
theorem fits_none (op : VOp) (loc sl : List D) : op.fits none loc sl = true := rfl

def seqK (V : VProg) (cl : FuncId → List D → Heap → CR) (n : Nat) (b : VCode) : Ex × St → Ex × St
  | (.nm, st') => exec V cl n b st'
  | r => r
theorem exec_seq (a b : VCode) (st : St) : exec V cl n (.seq a b) st = seqK V cl n b (exec V cl n a st) := by
  rw [exec]
  generalize exec V cl n a st = r
  obtain ⟨e, s⟩ := r
  cases e <;> rfl
theorem seqK_nm (b : VCode) (st : St) : seqK V cl n b (.nm, st) = exec V cl n b st := rfl
theorem seqK_rt (b : VCode) (st : St) : seqK V cl n b (.rt, st) = (.rt, st) := rfl
theorem seqK_ex (b : VCode) (id : Nat) (st : St) : seqK V cl n b (.ex id, st) = (.ex id, st) := rfl
def condK (V : VProg) (cl : FuncId → List D → Heap → CR) (n : Nat) (a b : VCode) (st : St) : D → Ex × St
  | .b true => exec V cl n a st
  | .b false => exec V cl n b st
  | _ => (.bad, st)
theorem exec_cond (c : O) (a b : VCode) (st : St) : exec V cl n (.cond c a b) st = condK V cl n a b st (c.ev [] st.sl) := by
  rw [exec]
  cases c.ev [] st.sl with
  | b x => cases x <;> rfl
  | _ => rfl
theorem condK_t (a b : VCode) (st : St) : condK V cl n a b st (.b true) = exec V cl n a st := rfl
theorem condK_f (a b : VCode) (st : St) : condK V cl n a b st (.b false) = exec V cl n b st := rfl
def blockK (id : Nat) : Ex × St → Ex × St
  | (.ex id', st') => if id' = id then (.nm, st') else (.ex id', st')
  | r => r
theorem exec_block (id : Nat) (c : VCode) (st : St) : exec V cl n (.block id c) st = blockK id (exec V cl n c st) := by
  rw [exec]
  generalize exec V cl n c st = r
  obtain ⟨e, s⟩ := r
  cases e <;> rfl
theorem blockK_nm (id : Nat) (st : St) : blockK id (.nm, st) = (.nm, st) := rfl
theorem blockK_rt (id : Nat) (st : St) : blockK id (.rt, st) = (.rt, st) := rfl
theorem blockK_ex (id id' : Nat) (st : St) : blockK id (.ex id', st) = if id' = id then (.nm, st) else (.ex id', st) := rfl
theorem exec_loop (c : VCode) (st : St) : exec V cl n (.loop c) st = iter (exec V cl n c) n st := rfl
theorem exec_skip (st : St) : exec V cl n .skip st = (.nm, st) := rfl
theorem exec_ret (st : St) : exec V cl n .ret st = (.rt, st) := rfl
theorem exec_exit (id : Nat) (st : St) : exec V cl n (.exit id) st = (.ex id, st) := rfl
theorem exec_reg (os : List VOper) (st : St) : exec V cl n (.reg os none) st = ops V cl none os [] st := rfl
theorem exec_drawn (os : List VOper) (b : Bool) (sl : List D) (H : Heap) : exec V cl n (.reg os (some b)) ⟨sl, H⟩ = ops V cl (some (H.length, b)) os [] ⟨sl, H⟩ := rfl

def entK (vf : VFunc) : Ex × St → CR
  | (.nm, st) | (.rt, st) => match resAll st vf.res with
      | some ds => .ret (oneOr ds) st.hp
      | none => .bad
  | (.pn d, st) => .pan d st.hp
  | _ => .bad
theorem enter_eq (vf : VFunc) (args : List D) (H : Heap) (h : args.length = vf.npar) : enter V cl n vf args H = entK vf (exec V cl n vf.body ⟨args ++ List.replicate (vf.nsl - vf.npar) .u, H⟩) := by
  unfold enter
  rw [if_pos h]
  generalize exec V cl n vf.body _ = r
  obtain ⟨e, s⟩ := r
  cases e <;> rfl
theorem entK_rt {vf : VFunc} {st : St} {d : D} {ds : List D} (h : resAll st vf.res = some ds) (hd : oneOr ds = d) : entK vf (.rt, st) = .ret d st.hp := by
  simp only [entK, h, hd]
theorem entK_nm {vf : VFunc} {st : St} {d : D} {ds : List D} (h : resAll st vf.res = some ds) (hd : oneOr ds = d) : entK vf (.nm, st) = .ret d st.hp := by
  simp only [entK, h, hd]

def toRK (sl : List D) : CR → R := CR.toR sl
theorem step_call (f : FuncId) (xs : List O) (loc : List D) (st : St) : step V cl loc st (.call f xs) = CR.toR st.sl (cl f (xs.map (O.ev loc st.sl)) st.hp) := rfl
theorem toR_ret (sl : List D) (d : D) (H : Heap) : CR.toR sl (.ret d H) = .v d ⟨sl, H⟩ := rfl
def calK (cl : FuncId → List D → Heap → CR) (args : List D) (st : St) : D → R
  | .fn (.func f) first captured => (cl f (first ++ args ++ captured) st.hp).toR st.sl
  | _ => .bad
theorem step_calv (x : O) (xs : List O) (loc : List D) (st : St) : step V cl loc st (.calv x xs) = calK cl (xs.map (O.ev loc st.sl)) st (x.ev loc st.sl) := by
  simp only [step]
  cases x.ev loc st.sl with
  | fn f a b => cases f <;> rfl
  | _ => rfl
theorem calK_f (args : List D) (st : St) (f : FuncId) (first captured : List D) : calK cl args st (.fn (.func f) first captured) = (cl f (first ++ args ++ captured) st.hp).toR st.sl := rfl


/-! ### Operations, each with its own equation -/
section
variable (loc sl : List D) (H : Heap)

theorem ev_l (i : Nat) : (O.l i).ev loc sl = loc.getD i .u := rfl
theorem ev_s (i : Nat) : (O.s i).ev loc sl = sl.getD i .u := rfl
theorem ev_c (d : D) : (O.c d).ev loc sl = d := rfl
def abS (k : Nat) : Option D → Option (Nat × Nat)
  | some (.bx _) => some (k, 0)
  | _ => none
def abL : Option D → Option (Nat × Nat)
  | some (.lp k off) => some (k, off)
  | _ => none
theorem ab_sl (k : Nat) : (AB.sl k).ev loc sl = abS k sl[k]? := by
  simp only [AB.ev]
  cases sl[k]? with
  | none => rfl
  | some d => cases d <;> rfl
theorem ab_lo (i : Nat) : (AB.lo i).ev loc sl = abL loc[i]? := by
  simp only [AB.ev]
  cases loc[i]? with
  | none => rfl
  | some d => cases d <;> rfl
theorem abS_bx (k : Nat) (cs : List D) : abS k (some (.bx cs)) = some (k, 0) := rfl
theorem abL_lp (k off : Nat) : abL (some (.lp k off)) = some (k, off) := rfl

theorem ofO_some (st : St) (d : D) : ofO st (some d) = .v d st := rfl
theorem ofP_some (sl : List D) (H H' : Heap) (d : D) : ofP ⟨sl, H⟩ (some (d, H')) = .v d ⟨sl, H'⟩ := rfl
theorem ofH_some (sl : List D) (H H' : Heap) : ofH ⟨sl, H⟩ (some H') = .v .u ⟨sl, H'⟩ := rfl

variable {V : VProg} {cl : FuncId → List D → Heap → CR}
theorem step_mov (x : O) : step V cl loc ⟨sl, H⟩ (.mov x) = .v (x.ev loc sl) ⟨sl, H⟩ := rfl
theorem step_pick (c a b : O) : step V cl loc ⟨sl, H⟩ (.pick c a b) = ofO ⟨sl, H⟩ (pickD (c.ev loc sl) (a.ev loc sl) (b.ev loc sl)) := rfl
theorem pick_t (a b : D) : pickD (.b true) a b = some a := rfl
theorem pick_f (a b : D) : pickD (.b false) a b = some b := rfl
theorem step_lal (zs : List D) : step V cl loc ⟨sl, H⟩ (.lal zs) = .v (.bx zs) ⟨sl, H⟩ := rfl
theorem step_lbx (x : O) (n : Nat) : step V cl loc ⟨sl, H⟩ (.lbx x n) = ofO ⟨sl, H⟩ (((x.ev loc sl).cellsN n).map .bx) := rfl
theorem step_hal (zs : List D) : step V cl loc ⟨sl, H⟩ (.hal zs) = .v (.hp H.length 0) ⟨sl, H ++ [.bx zs]⟩ := rfl
theorem step_hbx (x : O) (n : Nat) : step V cl loc ⟨sl, H⟩ (.hbx x n) = ofP ⟨sl, H⟩ (((x.ev loc sl).cellsN n).map fun cs => (.hp H.length 0, H ++ [.bx cs])) := rfl
theorem step_haa (w : Nat) (zs : List (List D)) (p : Bool) : step V cl loc ⟨sl, H⟩ (.haa w zs p) = .v (.aa H.length) ⟨sl, H ++ [.ar w zs (some zs.length) p false]⟩ := rfl
def lfaR (st : St) (off : Nat) : Option (Nat × Nat) → R
  | some (k, o) => .v (.lp k (o + off)) st
  | none => .bad
theorem step_lfa (a : AB) (off : Nat) : step V cl loc ⟨sl, H⟩ (.lfa a off) = lfaR ⟨sl, H⟩ off (a.ev loc sl) := by
  simp only [step]; cases a.ev loc sl <;> rfl
theorem lfaR_s (st : St) (off k o : Nat) : lfaR st off (some (k, o)) = .v (.lp k (o + off)) st := rfl
def liaR (st : St) (w : Nat) : Option (Nat × Nat) → Option Nat → R
  | some (k, o), some j => .v (.lp k (o + j * w)) st
  | _, _ => .bad
theorem step_lia (a : AB) (ix : O) (n w : Nat) : step V cl loc ⟨sl, H⟩ (.lia a ix n w) = liaR ⟨sl, H⟩ w (a.ev loc sl) (ixOf (ix.ev loc sl) n) := by
  simp only [step]
  cases a.ev loc sl with
  | none => cases ixOf (ix.ev loc sl) n <;> rfl
  | some q => cases ixOf (ix.ev loc sl) n <;> rfl
theorem liaR_s (st : St) (w k o j : Nat) : liaR st w (some (k, o)) (some j) = .v (.lp k (o + j * w)) st := rfl
def lldR (st : St) (n : Nat) (agg : Bool) : Option (Nat × Nat) → R
  | some (k, o) => match boxAt st k with
      | some cs => match cut cs o n with
        | some r => ofO st (val agg r)
        | none => .bad
      | none => .bad
  | none => .bad
def lldB (st : St) (o n : Nat) (agg : Bool) : Option D → R
  | some (.bx cs) => match cut cs o n with
        | some r => ofO st (val agg r)
        | none => .bad
  | _ => .bad
def lldC (st : St) (agg : Bool) : Option (List D) → R
  | some r => ofO st (val agg r)
  | none => .bad
theorem step_lld (a : AB) (n : Nat) (agg : Bool) : step V cl loc ⟨sl, H⟩ (.lld a n agg) = lldR ⟨sl, H⟩ n agg (a.ev loc sl) := by
  simp only [step]; cases a.ev loc sl <;> rfl
theorem lldR_s (n : Nat) (agg : Bool) (k o : Nat) : lldR ⟨sl, H⟩ n agg (some (k, o)) = lldB ⟨sl, H⟩ o n agg sl[k]? := by
  simp only [lldR, boxAt]
  cases sl[k]? with
  | none => rfl
  | some d => cases d <;> rfl
theorem lldB_bx (st : St) (o n : Nat) (agg : Bool) (cs : List D) : lldB st o n agg (some (.bx cs)) = lldC st agg (cut cs o n) := by
  simp only [lldB]; cases cut cs o n <;> rfl
theorem lldC_s (st : St) (agg : Bool) (r : List D) : lldC st agg (some r) = ofO st (val agg r) := rfl
def lstR (sl : List D) (H : Heap) : Option (Nat × Nat) → Option (List D) → R
  | some (k, o), some vs => match boxAt ⟨sl, H⟩ k with
      | some cs => match put cs o vs with
          | some cs' => .v .u ⟨sl.set k (.bx cs'), H⟩
          | none => .bad
      | none => .bad
  | _, _ => .bad
def lstB (sl : List D) (H : Heap) (k o : Nat) (vs : List D) : Option D → R
  | some (.bx cs) => match put cs o vs with
          | some cs' => .v .u ⟨sl.set k (.bx cs'), H⟩
          | none => .bad
  | _ => .bad
def lstC (sl : List D) (H : Heap) (k : Nat) : Option (List D) → R
  | some cs' => .v .u ⟨sl.set k (.bx cs'), H⟩
  | none => .bad
theorem step_lst (a : AB) (x : O) (n : Nat) : step V cl loc ⟨sl, H⟩ (.lst a x n) = lstR sl H (a.ev loc sl) ((x.ev loc sl).cellsN n) := by
  simp only [step]
  cases a.ev loc sl with
  | none => cases (x.ev loc sl).cellsN n <;> rfl
  | some q =>
    obtain ⟨k, o⟩ := q
    cases (x.ev loc sl).cellsN n with
    | none =>
      simp only [lstR]
      cases boxAt ⟨sl, H⟩ k <;> rfl
    | some vs =>
      simp only [lstR]
      cases boxAt ⟨sl, H⟩ k with
      | none => rfl
      | some cs => rfl
theorem lstR_s (k o : Nat) (vs : List D) : lstR sl H (some (k, o)) (some vs) = lstB sl H k o vs sl[k]? := by
  simp only [lstR, boxAt]
  cases sl[k]? with
  | none => rfl
  | some d => cases d <;> rfl
theorem lstB_bx (k o : Nat) (vs cs : List D) : lstB sl H k o vs (some (.bx cs)) = lstC sl H k (put cs o vs) := by
  simp only [lstB]; cases put cs o vs <;> rfl
theorem lstC_s (k : Nat) (cs : List D) : lstC sl H k (some cs) = .v .u ⟨sl.set k (.bx cs), H⟩ := rfl
theorem step_fad (x : O) (off : Nat) : step V cl loc ⟨sl, H⟩ (.fad x off) = ofO ⟨sl, H⟩ (fadD (x.ev loc sl) off) := rfl
theorem fad_hp (b o off : Nat) : fadD (.hp b o) off = some (.hp b (o + off)) := rfl
theorem fad_ap (a n i o off : Nat) : fadD (.ap a n i o) off = some (.ap a n i (o + off)) := rfl
theorem fad_ip (cs : List D) (off : Nat) : fadD (.ip cs) off = if off ≤ cs.length then some (.ip (cs.drop off)) else none := rfl
theorem step_iad (x ix : O) (w : Nat) : step V cl loc ⟨sl, H⟩ (.iad x ix w) = ofO ⟨sl, H⟩ (iadD H (x.ev loc sl) (ix.ev loc sl) w) := rfl
theorem step_iar (x ix : O) (n w : Nat) : step V cl loc ⟨sl, H⟩ (.iar x ix n w) = ofO ⟨sl, H⟩ (iarD H (x.ev loc sl) (ix.ev loc sl) n w) := rfl
def ldR (st : St) (agg : Bool) : Option (List D) → R
  | some r => ofO st (val agg r)
  | none => .bad
theorem step_ld (x : O) (n : Nat) (agg : Bool) : step V cl loc ⟨sl, H⟩ (.ld x n agg) = ldR ⟨sl, H⟩ agg (ldAt H (x.ev loc sl) n) := by
  simp only [step]; cases ldAt H (x.ev loc sl) n <;> rfl
theorem ldR_s (st : St) (agg : Bool) (r : List D) : ldR st agg (some r) = ofO st (val agg r) := rfl
theorem ld_ip (cs : List D) (n : Nat) : ldAt H (.ip cs) n = cut cs 0 n := rfl
def hpL (off n : Nat) : Option Blk → Option (List D)
  | some (.bx cs) => cut cs off n
  | _ => none
theorem ld_hp (b off n : Nat) : ldAt H (.hp b off) n = hpL off n H[b]? := by
  simp only [ldAt]
  cases H[b]? with
  | none => rfl
  | some d => cases d <;> rfl
theorem hpL_bx (off n : Nat) (cs : List D) : hpL off n (some (.bx cs)) = cut cs off n := rfl
theorem val_t (cs : List D) : val true cs = some (.ag cs) := rfl
theorem val_f (d : D) : val false [d] = some d := rfl
def stR (sl : List D) (H : Heap) (x : D) : Option (List D) → R
  | some vs => ofH ⟨sl, H⟩ (stAt H x vs)
  | none => .bad
theorem step_st (x v : O) (n : Nat) : step V cl loc ⟨sl, H⟩ (.st x v n) = stR sl H (x.ev loc sl) ((v.ev loc sl).cellsN n) := by
  simp only [step]; cases (v.ev loc sl).cellsN n <;> rfl
theorem stR_s (x : D) (vs : List D) : stR sl H x (some vs) = ofH ⟨sl, H⟩ (stAt H x vs) := rfl
theorem step_bin (op : BinOp) (x y : O) : step V cl loc ⟨sl, H⟩ (.bin op x y) = ofO ⟨sl, H⟩ (bin op (x.ev loc sl) (y.ev loc sl)) := rfl
theorem bin_add (k : IntKind) (x y : Int) : bin .add (.i k x) (.i k y) = some (.i k (k.wrap (x + y))) := by simp [bin, binI]
theorem bin_sub (k : IntKind) (x y : Int) : bin .sub (.i k x) (.i k y) = some (.i k (k.wrap (x - y))) := by simp [bin, binI]
theorem bin_mul (k : IntKind) (x y : Int) : bin .mul (.i k x) (.i k y) = some (.i k (k.wrap (x * y))) := by simp [bin, binI]
theorem bin_lss (k : IntKind) (x y : Int) : bin .lss (.i k x) (.i k y) = some (.b (decide (x < y))) := by simp [bin, binI]
theorem bin_leq (k : IntKind) (x y : Int) : bin .leq (.i k x) (.i k y) = some (.b (decide (x ≤ y))) := by simp [bin, binI]
theorem bin_gtr (k : IntKind) (x y : Int) : bin .gtr (.i k x) (.i k y) = some (.b (decide (y < x))) := by simp [bin, binI]
theorem bin_geq (k : IntKind) (x y : Int) : bin .geq (.i k x) (.i k y) = some (.b (decide (y ≤ x))) := by simp [bin, binI]
theorem bin_eql (k : IntKind) (x y : Int) : bin .eql (.i k x) (.i k y) = some (.b (decide (x = y))) := by
  simp only [bin, binI, if_true, Option.some.injEq, D.b.injEq]
  by_cases h : x = y <;> simp [h]
theorem bin_neq (k : IntKind) (x y : Int) : bin .neq (.i k x) (.i k y) = some (.b (!decide (x = y))) := by
  simp only [bin, binI, if_true, Option.some.injEq, D.b.injEq]
  by_cases h : x = y <;> simp [h]
theorem bins_eql (x y : List UInt8) : bin .eql (.s x) (.s y) = some (.b (decide (x = y))) := by
  simp only [bin, binS, Option.some.injEq, D.b.injEq]
  by_cases h : x = y <;> simp [h]
theorem bins_neq (x y : List UInt8) : bin .neq (.s x) (.s y) = some (.b (!decide (x = y))) := by
  simp only [bin, binS, Option.some.injEq, D.b.injEq]
  by_cases h : x = y <;> simp [h]
theorem step_eqv (neg : Bool) (k : EK) (x y : O) : step V cl loc ⟨sl, H⟩ (.eqv neg k x y) = ofO ⟨sl, H⟩ (eqvD neg k (x.ev loc sl) (y.ev loc sl)) := rfl
theorem eqv_b (neg x y : Bool) : eqvD neg .b (.b x) (.b y) = some (.b ((x == y) != neg)) := rfl
theorem step_un (op : UnOp) (x : O) : step V cl loc ⟨sl, H⟩ (.un op x) = ofO ⟨sl, H⟩ (un op (x.ev loc sl)) := rfl
theorem un_not (x : Bool) : un .not (.b x) = some (.b (!x)) := rfl
theorem un_neg (k : IntKind) (n : Int) : un .neg (.i k n) = some (.i k (k.wrap (0 - n))) := rfl
theorem step_cvi (k : IntKind) (x : O) : step V cl loc ⟨sl, H⟩ (.cvi k x) = ofO ⟨sl, H⟩ (cviD k (x.ev loc sl)) := rfl
theorem cvi_i (k k' : IntKind) (n : Int) : cviD k (.i k' n) = some (.i k (k.wrap n)) := rfl
theorem step_cvs (x : O) : step V cl loc ⟨sl, H⟩ (.cvs x) = ofO ⟨sl, H⟩ (cvsD (x.ev loc sl)) := rfl
theorem cvs_s (l : List UInt8) : cvsD (.s l) = some (.s l) := rfl
theorem step_agc (zs : List D) (ps : List (Nat × Nat × O)) : step V cl loc ⟨sl, H⟩ (.agc zs ps) = ofO ⟨sl, H⟩ ((fillC zs (ps.map fun p => (p.1, p.2.1, p.2.2.ev loc sl))).map .ag) := rfl
def fillK (off : Nat) (cs : List D) (ps : List (Nat × Nat × D)) : Option (List D) → Option (List D)
  | some vs => match put cs off vs with
      | some cs' => fillC cs' ps
      | none => none
  | none => none
def fillP (ps : List (Nat × Nat × D)) : Option (List D) → Option (List D)
  | some cs' => fillC cs' ps
  | none => none
theorem fill_nil (cs : List D) : fillC cs [] = some cs := rfl
theorem fill_cons (cs : List D) (off n : Nat) (v : D) (ps : List (Nat × Nat × D)) : fillC cs ((off, n, v) :: ps) = fillK off cs ps (v.cellsN n) := by
  rw [fillC]; cases v.cellsN n <;> rfl
theorem fillK_s (off : Nat) (cs vs : List D) (ps : List (Nat × Nat × D)) : fillK off cs ps (some vs) = fillP ps (put cs off vs) := by
  simp only [fillK]; cases put cs off vs <;> rfl
theorem fillP_s (cs : List D) (ps : List (Nat × Nat × D)) : fillP ps (some cs) = fillC cs ps := rfl
theorem step_bsl (w n : Nat) (zs : List D) (ps : List (Nat × O)) (p : Bool) : step V cl loc ⟨sl, H⟩ (.bsl w n zs ps p) = ofP ⟨sl, H⟩ (bslD H w n zs (ps.map fun q => (q.1, q.2.ev loc sl)) p) := rfl
theorem step_bsv (w n : Nat) (zs : List D) (ps : List (Nat × O)) : step V cl loc ⟨sl, H⟩ (.bsv w n zs ps) = ofO ⟨sl, H⟩ (bsvD w n zs (ps.map fun q => (q.1, q.2.ev loc sl))) := rfl
theorem bsv_one {w : Nat} {zs : List D} {v : D} {vs : List D} (h : v.cellsN w = some vs) : bsvD w 1 zs [(0, v)] = some (.sv w [vs]) := by simp [bsvD, fillR, h]
theorem bsv_two {w : Nat} {zs : List D} {v q : D} {vs us : List D} (h : v.cellsN w = some vs) (h' : q.cellsN w = some us) : bsvD w 2 zs [(0, v), (1, q)] = some (.sv w [vs, us]) := by simp [bsvD, fillR, h, h']
theorem step_len (k : Nat) (x : O) : step V cl loc ⟨sl, H⟩ (.len k x) = ofO ⟨sl, H⟩ (lenD H k (x.ev loc sl)) := rfl
theorem len_s (l : List UInt8) : lenD H 0 (.s l) = some (.i .i64 l.length) := rfl
theorem len_nil : lenD H 1 .nil = some (.i .i64 0) := rfl
theorem len_z : lenD H 1 .z = some (.i .i64 0) := rfl
theorem len_im (w : Nat) (rows : List (List D)) : lenD H 1 (.im w rows) = some (.i .i64 rows.length) := rfl
theorem len_sv (w : Nat) (rows : List (List D)) : lenD H 1 (.sv w rows) = some (.i .i64 rows.length) := rfl
theorem len_mu (a n off len : Nat) : lenD H 1 (.mu a n off len) = some (.i .i64 len) := rfl
theorem step_cap (x : O) : step V cl loc ⟨sl, H⟩ (.cap x) = ofO ⟨sl, H⟩ (capD H (x.ev loc sl)) := rfl
theorem step_app (x y : O) (w bytes : Nat) (p : Bool) : step V cl loc ⟨sl, H⟩ (.app x y w bytes p) = ofP ⟨sl, H⟩ (appD H (x.ev loc sl) (y.ev loc sl) w bytes p) := rfl
theorem step_cpy (x y : O) (w : Nat) : step V cl loc ⟨sl, H⟩ (.cpy x y w) = ofP ⟨sl, H⟩ (cpyD H (x.ev loc sl) (y.ev loc sl) w) := rfl
theorem step_mks (l c : O) (w bytes : Nat) (zs : List D) (p : Bool) : step V cl loc ⟨sl, H⟩ (.mks l c w bytes zs p) = ofP ⟨sl, H⟩ (mksD H (l.ev loc sl) (c.ev loc sl) w bytes zs p) := rfl
theorem step_sliD (w : Nat) (x : O) (lo hi mx : Option O) : step V cl loc ⟨sl, H⟩ (.sli false w x lo hi mx) = ofO ⟨sl, H⟩ (sliceD H w (x.ev loc sl) (lo.map (O.ev loc sl)) (hi.map (O.ev loc sl)) (mx.map (O.ev loc sl))) := rfl
theorem step_sliS (w : Nat) (x : O) (lo hi mx : Option O) : step V cl loc ⟨sl, H⟩ (.sli true w x lo hi mx) = ofO ⟨sl, H⟩ (sliceS (x.ev loc sl) (lo.map (O.ev loc sl)) (hi.map (O.ev loc sl)) (mx.map (O.ev loc sl))) := rfl
theorem step_sla (x : O) (n w : Nat) (lo hi : Option O) : step V cl loc ⟨sl, H⟩ (.sla x n w lo hi) = ofO ⟨sl, H⟩ (sliceA H (x.ev loc sl) n w (lo.map (O.ev loc sl)) (hi.map (O.ev loc sl))) := rfl
theorem step_ixs (x ix : O) : step V cl loc ⟨sl, H⟩ (.ixs x ix) = ofO ⟨sl, H⟩ (ixsD (x.ev loc sl) (ix.ev loc sl)) := rfl
theorem step_fld (x : O) (off n : Nat) (agg : Bool) : step V cl loc ⟨sl, H⟩ (.fld x off n agg) = ofO ⟨sl, H⟩ (fldD (x.ev loc sl) off n agg) := rfl
def fldK (agg : Bool) : Option (List D) → Option D
  | some r => val agg r
  | none => none
theorem fld_ag (cs : List D) (off n : Nat) (agg : Bool) : fldD (.ag cs) off n agg = fldK agg (cut cs off n) := by
  simp only [fldD]; cases cut cs off n <;> rfl
theorem fldK_s (agg : Bool) (r : List D) : fldK agg (some r) = val agg r := rfl
theorem step_ext (x : O) (j : Nat) : step V cl loc ⟨sl, H⟩ (.ext x j) = ofO ⟨sl, H⟩ (extD (x.ev loc sl) j) := rfl
theorem ext_tu (vs : List D) (j : Nat) : extD (.tu vs) j = vs[j]? := rfl
theorem step_mkf (f : Fn) (a b : List O) : step V cl loc ⟨sl, H⟩ (.mkf f a b) = .v (.fn f (a.map (O.ev loc sl)) (b.map (O.ev loc sl))) ⟨sl, H⟩ := rfl
theorem step_mkm : step V cl loc ⟨sl, H⟩ .mkm = .v (.mp H.length) ⟨sl, H ++ [.mp []]⟩ := rfl
theorem step_lk (kk : KK) (m k : O) (ok : Bool) (zero : D) : step V cl loc ⟨sl, H⟩ (.lk kk m k ok zero) = ofO ⟨sl, H⟩ (lkD H kk (m.ev loc sl) (k.ev loc sl) ok zero) := rfl
theorem step_mup (kk : KK) (m k v : O) : step V cl loc ⟨sl, H⟩ (.mup kk m k v) = ofH ⟨sl, H⟩ (mupD H kk (m.ev loc sl) (k.ev loc sl) (v.ev loc sl)) := rfl
theorem step_mki (t : TypeId) (x : O) : step V cl loc ⟨sl, H⟩ (.mki t x) = .v (.ifc t (x.ev loc sl)) ⟨sl, H⟩ := rfl
theorem step_tas (x : O) (t : TypeId) (ok : Bool) (zero : D) : step V cl loc ⟨sl, H⟩ (.tas x t ok zero) = ofO ⟨sl, H⟩ (tasD (x.ev loc sl) t ok zero) := rfl
theorem step_nck (x : O) : step V cl loc ⟨sl, H⟩ (.nck x) = ofO ⟨sl, H⟩ (nckD (x.ev loc sl)) := rfl
theorem nck_hp (b o : Nat) : nckD (.hp b o) = some (.hp b o) := rfl
theorem nck_aa (a : Nat) : nckD (.aa a) = some (.aa a) := rfl
theorem nck_ip (cs : List D) : nckD (.ip cs) = some (.ip cs) := rfl
theorem nck_ap (a n i o : Nat) : nckD (.ap a n i o) = some (.ap a n i o) := rfl
theorem step_mx (xs : List O) : step V cl loc ⟨sl, H⟩ (.mx xs) = ofO ⟨sl, H⟩ (foldD max2 (xs.map (O.ev loc sl))) := rfl
theorem step_mn (xs : List O) : step V cl loc ⟨sl, H⟩ (.mn xs) = ofO ⟨sl, H⟩ (foldD min2 (xs.map (O.ev loc sl))) := rfl
theorem mx_two (k : IntKind) (x y : Int) : foldD max2 [.i k x, .i k y] = some (.i k (max x y)) := by
  simp only [foldD, foldO, max2, if_true]
  congr 2
  by_cases h : y > x <;> simp [h] <;> omega
theorem mn_two (k : IntKind) (x y : Int) : foldD min2 [.i k x, .i k y] = some (.i k (min x y)) := by
  simp only [foldD, foldO, min2, if_true]
  congr 2
  by_cases h : y < x <;> simp [h] <;> omega

theorem cells_ag (cs : List D) (n : Nat) : (D.ag cs).cellsN n = if cs.length = n then some cs else none := rfl
theorem cells_s (l : List UInt8) : (D.s l).cellsN 1 = some [.s l] := rfl
theorem cells_i (k : IntKind) (n : Int) : (D.i k n).cellsN 1 = some [.i k n] := rfl
theorem cells_b (x : Bool) : (D.b x).cellsN 1 = some [.b x] := rfl
theorem cells_nil : D.nil.cellsN 1 = some [.nil] := rfl
theorem cells_z : D.z.cellsN 1 = some [.z] := rfl
theorem cells_im (w : Nat) (rows : List (List D)) : (D.im w rows).cellsN 1 = some [.im w rows] := rfl
theorem cells_sv (w : Nat) (rows : List (List D)) : (D.sv w rows).cellsN 1 = some [.sv w rows] := rfl
theorem cells_mu (a n off len : Nat) : (D.mu a n off len).cellsN 1 = some [.mu a n off len] := rfl
theorem cells_hp (b off : Nat) : (D.hp b off).cellsN 1 = some [.hp b off] := rfl
theorem cells_mp (m : Nat) : (D.mp m).cellsN 1 = some [.mp m] := rfl
theorem cells_fn (f : Fn) (a b : List D) : (D.fn f a b).cellsN 1 = some [.fn f a b] := rfl
theorem cells_np : D.np.cellsN 1 = some [.np] := rfl

def resK (rs : List RSpec) (st : St) : Option D → Option (List D)
  | some d => match resAll st rs with
    | some ds => some (d :: ds)
    | none => none
  | none => none
def resL (d : D) : Option (List D) → Option (List D)
  | some ds => some (d :: ds)
  | none => none
theorem res_nil (st : St) : resAll st [] = some [] := rfl
theorem res_cons (st : St) (r : RSpec) (rs : List RSpec) : resAll st (r :: rs) = resK rs st (r.ev st) := by
  rw [resAll]; cases r.ev st <;> rfl
theorem resK_s (rs : List RSpec) (st : St) (d : D) : resK rs st (some d) = resL d (resAll st rs) := by
  simp only [resK]; cases resAll st rs <;> rfl
theorem resL_s (d : D) (ds : List D) : resL d (some ds) = some (d :: ds) := rfl
theorem rs_s (k : Nat) : RSpec.ev ⟨sl, H⟩ (.s k) = sl[k]? := rfl
def rsB (n : Nat) (agg : Bool) : Option D → Option D
  | some (.bx cs) => if cs.length = n then val agg cs else none
  | _ => none
theorem rs_bx (k n : Nat) (agg : Bool) : RSpec.ev ⟨sl, H⟩ (.bx k n agg) = rsB n agg sl[k]? := by
  simp only [RSpec.ev, boxAt]
  cases sl[k]? with
  | none => rfl
  | some d => cases d <;> rfl
theorem rsB_bx (n : Nat) (agg : Bool) (cs : List D) : rsB n agg (some (.bx cs)) = if cs.length = n then val agg cs else none := rfl
theorem one_one (d : D) : oneOr [d] = d := rfl
theorem one_two (d e : D) (ds : List D) : oneOr (d :: e :: ds) = .tu (d :: e :: ds) := rfl
end
end

/-! ### What an operation reads -/
section
variable (loc sl : List D)
theorem fits_f (op : VOp) (b : Nat) : op.fits (some (b, false)) loc sl = op.reads.all fun x => (x.ev loc sl).under b := rfl
theorem fits_t (op : VOp) (b : Nat) : op.fits (some (b, true)) loc sl = ((op.reads.all fun x => (x.ev loc sl).under b) && op.writes.all fun x => (x.ev loc sl).over b) := rfl
theorem rd_mov {x} : (VOp.mov x).reads = [] := rfl
theorem wr_mov {x} : (VOp.mov x).writes = [] := rfl
theorem rd_pick {c} {a} {b} : (VOp.pick c a b).reads = [] := rfl
theorem wr_pick {c} {a} {b} : (VOp.pick c a b).writes = [] := rfl
theorem rd_lal {zs} : (VOp.lal zs).reads = [] := rfl
theorem wr_lal {zs} : (VOp.lal zs).writes = [] := rfl
theorem rd_lbx {x} {n} : (VOp.lbx x n).reads = [] := rfl
theorem wr_lbx {x} {n} : (VOp.lbx x n).writes = [] := rfl
theorem rd_hal {zs} : (VOp.hal zs).reads = [] := rfl
theorem wr_hal {zs} : (VOp.hal zs).writes = [] := rfl
theorem rd_hbx {x} {n} : (VOp.hbx x n).reads = [] := rfl
theorem wr_hbx {x} {n} : (VOp.hbx x n).writes = [] := rfl
theorem rd_haa {w} {zs} {p} : (VOp.haa w zs p).reads = [] := rfl
theorem wr_haa {w} {zs} {p} : (VOp.haa w zs p).writes = [] := rfl
theorem rd_lfa {a} {o} : (VOp.lfa a o).reads = [] := rfl
theorem wr_lfa {a} {o} : (VOp.lfa a o).writes = [] := rfl
theorem rd_lia {a} {x} {n} {w} : (VOp.lia a x n w).reads = [] := rfl
theorem wr_lia {a} {x} {n} {w} : (VOp.lia a x n w).writes = [] := rfl
theorem rd_lld {a} {n} {g} : (VOp.lld a n g).reads = [] := rfl
theorem wr_lld {a} {n} {g} : (VOp.lld a n g).writes = [] := rfl
theorem rd_lst {a} {x} {n} : (VOp.lst a x n).reads = [] := rfl
theorem wr_lst {a} {x} {n} : (VOp.lst a x n).writes = [] := rfl
theorem rd_fad {x} {o} : (VOp.fad x o).reads = [] := rfl
theorem wr_fad {x} {o} : (VOp.fad x o).writes = [] := rfl
theorem rd_bin {o} {x} {y} : (VOp.bin o x y).reads = [] := rfl
theorem wr_bin {o} {x} {y} : (VOp.bin o x y).writes = [] := rfl
theorem rd_eqv {n} {k} {x} {y} : (VOp.eqv n k x y).reads = [] := rfl
theorem wr_eqv {n} {k} {x} {y} : (VOp.eqv n k x y).writes = [] := rfl
theorem rd_un {o} {x} : (VOp.un o x).reads = [] := rfl
theorem wr_un {o} {x} : (VOp.un o x).writes = [] := rfl
theorem rd_cvi {k} {x} : (VOp.cvi k x).reads = [] := rfl
theorem wr_cvi {k} {x} : (VOp.cvi k x).writes = [] := rfl
theorem rd_cvs {x} : (VOp.cvs x).reads = [] := rfl
theorem wr_cvs {x} : (VOp.cvs x).writes = [] := rfl
theorem rd_csb {x} : (VOp.csb x).reads = [] := rfl
theorem wr_csb {x} : (VOp.csb x).writes = [] := rfl
theorem rd_agc {zs} {ps} : (VOp.agc zs ps).reads = [] := rfl
theorem wr_agc {zs} {ps} : (VOp.agc zs ps).writes = [] := rfl
theorem rd_bsl {w} {n} {zs} {ps} {p} : (VOp.bsl w n zs ps p).reads = [] := rfl
theorem wr_bsl {w} {n} {zs} {ps} {p} : (VOp.bsl w n zs ps p).writes = [] := rfl
theorem rd_bsv {w} {n} {zs} {ps} : (VOp.bsv w n zs ps).reads = [] := rfl
theorem wr_bsv {w} {n} {zs} {ps} : (VOp.bsv w n zs ps).writes = [] := rfl
theorem rd_mks {l} {c} {w} {b} {zs} {p} : (VOp.mks l c w b zs p).reads = [] := rfl
theorem wr_mks {l} {c} {w} {b} {zs} {p} : (VOp.mks l c w b zs p).writes = [] := rfl
theorem rd_ixs {x} {i} : (VOp.ixs x i).reads = [] := rfl
theorem wr_ixs {x} {i} : (VOp.ixs x i).writes = [] := rfl
theorem rd_fld {x} {o} {n} {g} : (VOp.fld x o n g).reads = [] := rfl
theorem wr_fld {x} {o} {n} {g} : (VOp.fld x o n g).writes = [] := rfl
theorem rd_ext {x} {j} : (VOp.ext x j).reads = [] := rfl
theorem wr_ext {x} {j} : (VOp.ext x j).writes = [] := rfl
theorem rd_mkf {f} {a} {b} : (VOp.mkf f a b).reads = [] := rfl
theorem wr_mkf {f} {a} {b} : (VOp.mkf f a b).writes = [] := rfl
theorem rd_mkm : (VOp.mkm).reads = [] := rfl
theorem wr_mkm : (VOp.mkm).writes = [] := rfl
theorem rd_mki {t} {x} : (VOp.mki t x).reads = [] := rfl
theorem wr_mki {t} {x} : (VOp.mki t x).writes = [] := rfl
theorem rd_tas {x} {t} {o} {q} : (VOp.tas x t o q).reads = [] := rfl
theorem wr_tas {x} {t} {o} {q} : (VOp.tas x t o q).writes = [] := rfl
theorem rd_nck {x} : (VOp.nck x).reads = [] := rfl
theorem wr_nck {x} : (VOp.nck x).writes = [] := rfl
theorem rd_mx {l} : (VOp.mx l).reads = [] := rfl
theorem wr_mx {l} : (VOp.mx l).writes = [] := rfl
theorem rd_mn {l} : (VOp.mn l).reads = [] := rfl
theorem wr_mn {l} : (VOp.mn l).writes = [] := rfl
theorem rd_call {f} {l} : (VOp.call f l).reads = [] := rfl
theorem wr_call {f} {l} : (VOp.call f l).writes = [] := rfl
theorem rd_calv {x} {l} : (VOp.calv x l).reads = [] := rfl
theorem wr_calv {x} {l} : (VOp.calv x l).writes = [] := rfl
theorem rd_inv {x} {m} {l} : (VOp.inv x m l).reads = [] := rfl
theorem wr_inv {x} {m} {l} : (VOp.inv x m l).writes = [] := rfl
theorem rd_pan {x} : (VOp.pan x).reads = [] := rfl
theorem wr_pan {x} : (VOp.pan x).writes = [] := rfl
theorem rd_ld {x} {n} {g} : (VOp.ld x n g).reads = [x] := rfl
theorem wr_ld {x} {n} {g} : (VOp.ld x n g).writes = [] := rfl
theorem rd_iad {x} {i} {w} : (VOp.iad x i w).reads = [x] := rfl
theorem wr_iad {x} {i} {w} : (VOp.iad x i w).writes = [] := rfl
theorem rd_iar {x} {i} {n} {w} : (VOp.iar x i n w).reads = [x] := rfl
theorem wr_iar {x} {i} {n} {w} : (VOp.iar x i n w).writes = [] := rfl
theorem rd_cap {x} : (VOp.cap x).reads = [x] := rfl
theorem wr_cap {x} : (VOp.cap x).writes = [] := rfl
theorem rd_sli {s} {w} {x} {a} {b} {c} : (VOp.sli s w x a b c).reads = [x] := rfl
theorem wr_sli {s} {w} {x} {a} {b} {c} : (VOp.sli s w x a b c).writes = [] := rfl
theorem rd_sla {x} {n} {w} {a} {b} : (VOp.sla x n w a b).reads = [x] := rfl
theorem wr_sla {x} {n} {w} {a} {b} : (VOp.sla x n w a b).writes = [] := rfl
theorem rd_lk {kk} {x} {k} {o} {q} : (VOp.lk kk x k o q).reads = [x] := rfl
theorem wr_lk {kk} {x} {k} {o} {q} : (VOp.lk kk x k o q).writes = [] := rfl
theorem rd_cbs {x} : (VOp.cbs x).reads = [x] := rfl
theorem wr_cbs {x} : (VOp.cbs x).writes = [] := rfl
theorem rd_st {x} {v} {n} : (VOp.st x v n).reads = [] := rfl
theorem wr_st {x} {v} {n} : (VOp.st x v n).writes = [x] := rfl
theorem rd_app {x} {y} {w} {b} {p} : (VOp.app x y w b p).reads = [] := rfl
theorem wr_app {x} {y} {w} {b} {p} : (VOp.app x y w b p).writes = [x] := rfl
theorem rd_cpy {x} {y} {w} : (VOp.cpy x y w).reads = [] := rfl
theorem wr_cpy {x} {y} {w} : (VOp.cpy x y w).writes = [x] := rfl
theorem rd_mup {kk} {x} {k} {v} : (VOp.mup kk x k v).reads = [] := rfl
theorem wr_mup {kk} {x} {k} {v} : (VOp.mup kk x k v).writes = [x] := rfl
theorem rd_len0 {x} : (VOp.len 0 x).reads = [] := rfl
theorem rd_len1 {x} : (VOp.len 1 x).reads = [] := rfl
theorem rd_len2 {x} : (VOp.len 2 x).reads = [x] := rfl
theorem wr_len {k x} : (VOp.len k x).writes = [] := rfl
theorem un_nil (b : Nat) : D.under b .nil = true := rfl
theorem un_z (b : Nat) : D.under b .z = true := rfl
theorem un_np (b : Nat) : D.under b .np = true := rfl
theorem un_mnil (b : Nat) : D.under b .mnil = true := rfl
theorem un_nf (b : Nat) : D.under b .nf = true := rfl
theorem un_ni (b : Nat) : D.under b .ni = true := rfl
theorem un_u (b : Nat) : D.under b .u = true := rfl
theorem un_im (b w : Nat) (r) : D.under b (.im w r) = true := rfl
theorem un_sv (b w : Nat) (r) : D.under b (.sv w r) = true := rfl
theorem un_ip (b : Nat) (r) : D.under b (.ip r) = true := rfl
theorem un_s (b : Nat) (r) : D.under b (.s r) = true := rfl
theorem un_hp (b a o : Nat) : D.under b (.hp a o) = decide (a < b) := rfl
theorem un_mu (b a n o l : Nat) : D.under b (.mu a n o l) = decide (a < b) := rfl
theorem un_ap (b a n o l : Nat) : D.under b (.ap a n o l) = decide (a < b) := rfl
theorem un_aa (b a : Nat) : D.under b (.aa a) = decide (a < b) := rfl
theorem un_mp (b a : Nat) : D.under b (.mp a) = decide (a < b) := rfl
theorem ov_hp (b a o : Nat) : D.over b (.hp a o) = decide (b ≤ a) := rfl
theorem ov_mu (b a n o l : Nat) : D.over b (.mu a n o l) = decide (b ≤ a) := rfl
theorem ov_nil (b : Nat) : D.over b .nil = true := rfl
theorem Sl.under {w : Nat} {rows : List (List D)} {x : D} (h : Sl w rows x) (b : Nat) : x.under b = true := by cases h <;> rfl
end
end Go.Dm

/-
  Functions of package slices that stand in many instances, over the machine.
-/
namespace Go.Dm

/-! ### slices.IndexFunc, slices.ContainsFunc -/

def idxBody (w : Nat) (agg : Bool) : VCode :=
  .seq (.reg [⟨.bin .lss (.s 5) (.s 6), some 3, none⟩] none)
    (.seq (.cond (.s 3) .skip
    (.exit 0))
    (.seq (.block 1 (.seq (.reg [⟨.mov (.s 5), none, none⟩,
       ⟨.mov (.l 0), some 7, none⟩] none)
     (.seq (.reg [⟨.mov (.s 1), none, none⟩,
       ⟨.mov (.s 0), none, none⟩,
       ⟨.mov (.s 7), none, none⟩,
       ⟨.iad (.l 1) (.l 2) w, none, none⟩,
       ⟨.ld (.l 3) w agg, none, none⟩,
       ⟨.calv (.l 0) [(.l 4)], some 4, none⟩] none)
     (.cond (.s 4) (.seq (.reg [⟨.mov (.s 7), none, none⟩,
        ⟨.mov (.l 0), some 2, none⟩] none)
      .ret)
     .skip))))
    (.reg [⟨.bin .add (.s 5) (.c (.i .i64 1)), none, none⟩,
      ⟨.mov (.l 0), some 5, none⟩] none)))

def idxF (w : Nat) (agg : Bool) : VFunc :=
  ⟨2, 8, [.s 2],
  (.seq (.reg [⟨.mov (.c (.i .i64 0)), some 2, none⟩] none)
  (.seq (.seq (.reg [⟨.mov (.s 0), none, none⟩,
    ⟨.len 1 (.l 0), some 6, none⟩,
    ⟨.mov (.c (.i .i64 0)), some 5, none⟩] none)
  (.block 0 (.loop (idxBody w agg))))
  (.seq (.reg [⟨.mov (.c (.i .i64 (-1))), some 2, none⟩] none)
  .ret))), false⟩

def cfF (g : FuncId) : VFunc :=
  ⟨2, 3, [.s 2],
  (.seq (.reg [⟨.mov (.c (.b false)), some 2, none⟩] none)
  (.seq (.reg [⟨.mov (.s 0), none, none⟩,
    ⟨.mov (.s 1), none, none⟩,
    ⟨.call g [(.l 0), (.l 1)], none, none⟩,
    ⟨.bin .geq (.l 2) (.c (.i .i64 0)), none, none⟩,
    ⟨.mov (.l 3), some 2, none⟩] none)
  .ret)), false⟩

/-- The first index at which a function says true; -1 if there is none. -/
theorem idx_ret {V : VProg} {f : FuncId} {w : Nat} {agg : Bool} (hf : V.fn f = some (idxF w agg)) {x : D} {rows : List (List D)} (hx : Sl w rows x) {H : Heap} {g : FuncId} {cp : List D} (p : List D → Bool) (key : List D → D)
    (hkey : ∀ r ∈ rows, cut r 0 w = some r ∧ val agg r = some (key r)) (hg : ∀ r ∈ rows, Ret V g (key r :: cp) H (.b (p r)) H) (hlen : rows.length < 2 ^ 62) :
    Ret V f [x, .fn (.func g) [] cp] H (.i .i64 (if rows.any p then (rows.findIdx p : Int) else -1)) H := by
  obtain ⟨N, hN⟩ : ∃ N, ∀ n, N ≤ n → ∀ r ∈ rows, call V n g (key r :: cp) H = .ret (.b (p r)) H := by
    clear hx hkey hlen
    induction rows with
    | nil => exact ⟨0, fun n _ r hr => by cases hr⟩
    | cons r rows ih =>
      obtain ⟨N1, h1⟩ := hg r List.mem_cons_self
      obtain ⟨N2, h2⟩ := ih (fun r hr => hg r (List.mem_cons_of_mem _ hr))
      refine ⟨max N1 N2, fun n hn q hq => ?_⟩
      rcases List.mem_cons.1 hq with rfl | hq
      · exact h1 n (by omega)
      · exact h2 n (by omega) q hq
  refine .impure hf rfl (N + rows.length + 1) (fun n hn => ?_)
  have hc := hN n (by omega)
  have hl := hx.len (H := H)
  have hl0 : decide (((rows.length : Nat) : Int) < (rows.length : Int)) = false := by simp
  have round : ∀ (i : Nat) (g1 g2 g3 : D) (hi : i < rows.length), p rows[i] = false → ∃ s', exec V (call V n) n (idxBody w agg) ⟨[x, .fn (.func g) [] cp, .i .i64 0, g1, g2, .i .i64 i, .i .i64 rows.length, g3], H⟩ = (.nm, s') ∧
      ∃ g1' g2' g3', s' = ⟨[x, .fn (.func g) [] cp, .i .i64 0, g1', g2', .i .i64 (i + 1 : Nat), .i .i64 rows.length, g3'], H⟩ := fun i g1 g2 g3 hi hp => by
    have hr : rows[i] ∈ rows := List.getElem_mem hi
    obtain ⟨k1, k2⟩ := hkey _ hr
    have k3 := hc _ hr
    have k4 := hx.elem (H := H) (k := .i64) hi
    have hw : IntKind.i64.wrap ((i : Int) + 1) = ((i + 1 : Nat) : Int) := by rw [IntWalk.i64_in _ (by omega)]; omega
    have hd : decide ((i : Int) < (rows.length : Int)) = true := by simpa using hi
    rw [hp] at k3
    refine ⟨_, ?_, .b true, .b false, .i .i64 i, rfl⟩
    simp only [idxBody, exec_seq, exec_cond, exec_block, exec_skip, exec_reg, seqK_nm, condK_t, condK_f, blockK_nm, ops_cons, ops_nil, opsW_t, opsF_t, opsK_v, wants_none, fits_none, step_calv, calK_f, toR_ret, ev_l, ev_s, ev_c, ofO_some, step_mov, step_iad, step_ld, ldR_s, ld_ip, step_bin, bin_add, bin_lss, setSl, List.getD_cons_zero, List.getD_cons_succ, List.set_cons_zero, List.set_cons_succ, List.nil_append, List.cons_append, List.map_cons, List.map_nil, hd, k4, k1, k2, k3, hw]
  have hit : ∀ (i : Nat) (g1 g2 g3 : D) (hi : i < rows.length), p rows[i] = true → ∃ s', exec V (call V n) n (idxBody w agg) ⟨[x, .fn (.func g) [] cp, .i .i64 0, g1, g2, .i .i64 i, .i .i64 rows.length, g3], H⟩ = (.rt, s') ∧
      ∃ g1' g2' g3', s' = ⟨[x, .fn (.func g) [] cp, .i .i64 i, g1', g2', .i .i64 i, .i .i64 rows.length, g3'], H⟩ := fun i g1 g2 g3 hi hp => by
    have hr : rows[i] ∈ rows := List.getElem_mem hi
    obtain ⟨k1, k2⟩ := hkey _ hr
    have k3 := hc _ hr
    have k4 := hx.elem (H := H) (k := .i64) hi
    have hd : decide ((i : Int) < (rows.length : Int)) = true := by simpa using hi
    rw [hp] at k3
    refine ⟨_, ?_, .b true, .b true, .i .i64 i, rfl⟩
    simp only [idxBody, exec_seq, exec_cond, exec_block, exec_skip, exec_ret, exec_reg, seqK_nm, seqK_rt, condK_t, blockK_rt, ops_cons, ops_nil, opsW_t, opsF_t, opsK_v, wants_none, fits_none, step_calv, calK_f, toR_ret, ev_l, ev_s, ofO_some, step_mov, step_iad, step_ld, ldR_s, ld_ip, step_bin, bin_lss, setSl, List.getD_cons_zero, List.getD_cons_succ, List.set_cons_zero, List.set_cons_succ, List.nil_append, List.cons_append, List.map_cons, List.map_nil, hd, k4, k1, k2, k3]
  have loop : ∃ ex s', iter (exec V (call V n) n (idxBody w agg)) n ⟨[x, .fn (.func g) [] cp, .i .i64 0, .u, .u, .i .i64 0, .i .i64 rows.length, .u], H⟩ = (ex, s') ∧
      ((rows.any p = true ∧ ex = .rt ∧ ∃ q rest, s' = ⟨[x, q, .i .i64 (rows.findIdx p : Int)] ++ rest, H⟩) ∨ (rows.any p = false ∧ ex = .ex 0 ∧ ∃ g1 g2 g3 g4 g5 g6, s' = ⟨[x, g6, .i .i64 0, g1, g2, g3, g4, g5], H⟩)) := by
    have inv : ∀ k, k ≤ rows.length → (∀ j (hj : j < rows.length), j < k → p rows[j] = false) → ∀ (Q : Ex → St → Prop), (∀ s, (∃ g1 g2 g3, s = (⟨[x, .fn (.func g) [] cp, .i .i64 0, g1, g2, .i .i64 k, .i .i64 rows.length, g3], H⟩ : St)) → ∃ ex s', exec V (call V n) n (idxBody w agg) s = (ex, s') ∧ ex ≠ .nm ∧ Q ex s') →
        ∃ ex s', iter (exec V (call V n) n (idxBody w agg)) n ⟨[x, .fn (.func g) [] cp, .i .i64 0, .u, .u, .i .i64 0, .i .i64 rows.length, .u], H⟩ = (ex, s') ∧ Q ex s' := fun k hk hno Q he =>
      iter_rel (R := fun i s => ∃ g1 g2 g3, s = ⟨[x, .fn (.func g) [] cp, .i .i64 0, g1, g2, .i .i64 i, .i .i64 rows.length, g3], H⟩) Q k (by omega) ⟨.u, .u, .u, rfl⟩ (fun i s hi hs => by
        obtain ⟨g1, g2, g3, rfl⟩ := hs
        exact round i g1 g2 g3 (by omega) (hno i (by omega) hi)) he
    cases ha : rows.any p with
    | true =>
      have hlt : rows.findIdx p < rows.length := List.findIdx_lt_length.2 (by simpa using ha)
      obtain ⟨ex, s', h1, h2⟩ := inv (rows.findIdx p) (by omega) (fun j hj hjk => by simpa using List.not_of_lt_findIdx hjk) (fun ex s' => ex = .rt ∧ ∃ q rest, s' = ⟨[x, q, .i .i64 (rows.findIdx p : Int)] ++ rest, H⟩) (fun s hs => by
        obtain ⟨g1, g2, g3, rfl⟩ := hs
        obtain ⟨s', h1, g1', g2', g3', rfl⟩ := hit (rows.findIdx p) g1 g2 g3 hlt (List.findIdx_getElem (w := hlt))
        exact ⟨_, _, h1, by simp, rfl, _, _, rfl⟩)
      exact ⟨ex, s', h1, .inl ⟨rfl, h2⟩⟩
    | false =>
      obtain ⟨ex, s', h1, h2⟩ := inv rows.length (Nat.le_refl _) (fun j hj _ => by
        have := List.any_eq_false.1 ha rows[j] (List.getElem_mem hj)
        simpa using this) (fun ex s' => ex = .ex 0 ∧ ∃ g1 g2 g3 g4 g5 g6, s' = ⟨[x, g6, .i .i64 0, g1, g2, g3, g4, g5], H⟩) (fun s hs => by
        obtain ⟨g1, g2, g3, rfl⟩ := hs
        refine ⟨_, _, by simp only [idxBody, exec_seq, exec_cond, exec_exit, exec_reg, seqK_nm, seqK_ex, condK_f, ops_cons, ops_nil, opsW_t, opsF_t, opsK_v, wants_none, fits_none, ev_s, ofO_some, step_bin, bin_lss, setSl, List.getD_cons_zero, List.getD_cons_succ, List.set_cons_zero, List.set_cons_succ, List.nil_append, hl0]; rfl, by simp, rfl, _, _, _, _, _, _, rfl⟩)
      exact ⟨ex, s', h1, .inr ⟨rfl, h2⟩⟩
  obtain ⟨ex, s', h1, h2⟩ := loop
  have hent := enter_eq (V := V) (cl := call V n) (n := n) (idxF w agg) [x, .fn (.func g) [] cp] H rfl
  rw [hent]
  rcases h2 with ⟨ha, rfl, q, rest, rfl⟩ | ⟨ha, rfl, g1, g2, g3, g4, g5, g6, rfl⟩
  · simp only [idxF, exec_seq, exec_block, exec_reg, seqK_nm, seqK_rt, blockK_rt, ops_cons, ops_nil, opsW_t, opsF_t, opsK_v, wants_none, fits_none, ev_l, ev_s, ev_c, ofO_some, step_mov, step_len, setSl, List.getD_cons_zero, List.set_cons_zero, List.set_cons_succ, List.nil_append, List.cons_append, List.replicate_succ, List.replicate_zero, Nat.reduceSub, if_true, exec_loop, hl, h1, ha]
    exact entK_rt (ds := [_]) rfl rfl
  · simp only [idxF, exec_seq, exec_block, exec_ret, exec_reg, seqK_nm, blockK_ex, ops_cons, ops_nil, opsW_t, opsF_t, opsK_v, wants_none, fits_none, ev_l, ev_s, ev_c, ofO_some, step_mov, step_len, setSl, List.getD_cons_zero, List.set_cons_zero, List.set_cons_succ, List.nil_append, List.cons_append, List.replicate_succ, List.replicate_zero, Nat.reduceSub, if_true, if_false, Bool.false_eq_true, exec_loop, hl, h1, ha]
    exact entK_rt (ds := [_]) rfl rfl

/-- Is there a row of which the function says true? -/
theorem cf_ret {V : VProg} {f h : FuncId} {w : Nat} {agg : Bool} (hf : V.fn f = some (cfF h)) (hh : V.fn h = some (idxF w agg)) {x : D} {rows : List (List D)} (hx : Sl w rows x) {H : Heap} {g : FuncId} {cp : List D} (p : List D → Bool) (key : List D → D)
    (hkey : ∀ r ∈ rows, cut r 0 w = some r ∧ val agg r = some (key r)) (hg : ∀ r ∈ rows, Ret V g (key r :: cp) H (.b (p r)) H) (hlen : rows.length < 2 ^ 62) :
    Ret V f [x, .fn (.func g) [] cp] H (.b (rows.any p)) H := by
  obtain ⟨N, hN⟩ := idx_ret hh hx p key hkey hg hlen
  refine .impure hf rfl N (fun n hn => ?_)
  have h1 := hN n hn
  have hent := enter_eq (V := V) (cl := call V n) (n := n) (cfF h) [x, .fn (.func g) [] cp] H rfl
  rw [hent]
  have hd : decide (0 ≤ (if rows.any p then (rows.findIdx p : Int) else -1)) = rows.any p := by
    cases rows.any p <;> simp
  simp only [cfF, exec_seq, exec_ret, exec_reg, seqK_nm, ops_cons, ops_nil, opsW_t, opsF_t, opsK_v, wants_none, fits_none, step_call, toR_ret, ev_l, ev_s, ev_c, ofO_some, step_mov, step_bin, bin_geq, setSl, List.getD_cons_zero, List.getD_cons_succ, List.set_cons_zero, List.set_cons_succ, List.nil_append, List.cons_append, List.map_cons, List.map_nil, List.replicate_succ, List.replicate_zero, Nat.reduceSub, h1, hd]
  exact entK_rt (ds := [_]) rfl rfl
end Go.Dm

/-
  The elements of two lists, each once: 'once' of package depend, at its instances.
-/
namespace Go.Dm

/-- How values lie in rows, and as keys of maps. -/
structure Enc (α : Type) where
  w : Nat
  agg : Bool
  kk : KK
  enc : α → List D
  key : α → D

structure Enc.Ok {α : Type} [DecidableEq α] (E : Enc α) : Prop where
  cut : ∀ a, cut (E.enc a) 0 E.w = some (E.enc a)
  val : ∀ a, val E.agg (E.enc a) = some (E.key a)
  cells : ∀ a, (E.key a).cellsN E.w = some (E.enc a)
  ok : ∀ a, keyOk E.kk (E.key a) = true
  eq : ∀ a b, keyEq E.kk (E.key a) (E.key b) = some (decide (a = b))
  flat : ∀ a, ∀ d ∈ E.enc a, d.flat = true
  len : ∀ a, (E.enc a).length = E.w

def eS : Enc (List UInt8) := ⟨1, false, .c 2, fun l => [.s l], fun l => .s l⟩
def eP : Enc (List UInt8 × Int) := ⟨2, true, .st [2, 1], fun p => [.s p.1, .i .i64 p.2], fun p => .ag [.s p.1, .i .i64 p.2]⟩
def eR : Enc (List UInt8 × Int × Int) := ⟨3, true, .st [2, 1, 1], fun p => [.s p.1, .i .i64 p.2.1, .i .i64 p.2.2], fun p => .ag [.s p.1, .i .i64 p.2.1, .i .i64 p.2.2]⟩

theorem bools (x y : Bool) (h : x = y) : some x = some y := by rw [h]
theorem ceq_s (x y : List UInt8) : cellEq (.s x) (.s y) = some (decide (x = y)) := bools _ _ (by by_cases h : x = y <;> simp [h])
theorem ceq_i (k : IntKind) (x y : Int) : cellEq (.i k x) (.i k y) = some (decide (x = y)) := by
  simp only [cellEq, if_true]
  exact bools _ _ (by by_cases h : x = y <;> simp [h])
theorem csq_cons {n : Nat} {sh : List Nat} {x y : D} {xs ys : List D} {b c : Bool} (hk : kindIs n x = true) (h : cellEq x y = some b) (h' : cellsEq sh xs ys = some c) (h1 : xs.length = sh.length) (h2 : ys.length = sh.length) : cellsEq (n :: sh) (x :: xs) (y :: ys) = some (b && c) := by
  simp only [cellsEq, hk, h]
  cases b with
  | true => simp only [h', Bool.true_and]
  | false => simp only [h1, h2, and_self, if_true, Bool.false_and]
theorem eS_ok : eS.Ok where
  cut := fun a => rfl
  val := fun a => rfl
  cells := fun a => rfl
  ok := fun a => rfl
  eq := fun a b => bools _ _ (by by_cases h : a = b <;> simp [h])
  flat := fun a d hd => by simp [eS] at hd; subst hd; rfl
  len := fun a => rfl
theorem eP_ok : eP.Ok where
  cut := fun a => rfl
  val := fun a => rfl
  cells := fun a => rfl
  ok := fun a => rfl
  eq := fun a b => by
    obtain ⟨s, n⟩ := a; obtain ⟨t, m⟩ := b
    refine (csq_cons rfl (ceq_s s t) (csq_cons rfl (ceq_i .i64 n m) rfl rfl rfl) rfl rfl).trans (bools _ _ ?_)
    by_cases h1 : s = t <;> by_cases h2 : n = m <;> simp [h1, h2]
  flat := fun a d hd => by
    simp [eP] at hd
    rcases hd with rfl | rfl <;> rfl
  len := fun a => rfl
theorem eR_ok : eR.Ok where
  cut := fun a => rfl
  val := fun a => rfl
  cells := fun a => rfl
  ok := fun a => rfl
  eq := fun a b => by
    obtain ⟨s, n, u⟩ := a; obtain ⟨t, m, v⟩ := b
    refine (csq_cons rfl (ceq_s s t) (csq_cons rfl (ceq_i .i64 n m) (csq_cons rfl (ceq_i .i64 u v) rfl rfl rfl) rfl rfl) rfl rfl).trans (bools _ _ ?_)
    by_cases h1 : s = t <;> by_cases h2 : n = m <;> by_cases h3 : u = v <;> simp [h1, h2, h3]
  flat := fun a d hd => by
    simp [eR] at hd
    rcases hd with rfl | rfl | rfl <;> rfl
  len := fun a => rfl

theorem flat_freeze {d : D} (h : d.flat = true) (m : Nat) (H : Heap) : freeze (m + 1) H d = some (d, H) := by
  cases d <;> first | rfl | (cases h; done) | skip
  rename_i f a b
  cases a with
  | cons => cases h
  | nil =>
    cases b with
    | cons => cases h
    | nil => rfl
theorem flat_freezeL (m : Nat) (H : Heap) : ∀ {ds : List D}, (∀ d ∈ ds, d.flat = true) → freezeL (m + 2) H ds = some (ds, H)
  | [], _ => freezeL_nil _ _
  | d :: ds, h => by rw [freezeL_cons, flat_freeze (h d List.mem_cons_self)]; simp only; rw [flat_freezeL m H (fun e he => h e (List.mem_cons_of_mem _ he))]
theorem flat_freezeLL (m : Nat) (H : Heap) : ∀ {rs : List (List D)}, (∀ r ∈ rs, ∀ d ∈ r, d.flat = true) → freezeLL (m + 3) H rs = some (rs, H)
  | [], _ => freezeLL_nil _ _
  | r :: rs, h => by rw [freezeLL_cons, flat_freezeL m H (h r List.mem_cons_self)]; simp only; rw [flat_freezeLL m H (fun e he => h e (List.mem_cons_of_mem _ he))]
theorem flat_freezeRows (H : Heap) {rs : List (List D)} (h : ∀ r ∈ rs, ∀ d ∈ r, d.flat = true) : freezeRows H rs = some (rs, H) := flat_freezeLL 9 H h
theorem flat_settle {d : D} (h : d.flat = true) (H : Heap) : settleC H d = some d := by
  cases d <;> first | rfl | (cases h; done) | skip
  rename_i f a b
  cases a with
  | cons => cases h
  | nil =>
    cases b with
    | cons => cases h
    | nil => rfl

section
variable {α : Type} [DecidableEq α]

/-- Is it one of them? -/
def inB (a : α) (us : List α) : Bool := decide (a ∈ us)
theorem inB_t {a : α} {us : List α} : inB a us = true ↔ a ∈ us := by simp [inB]
theorem inB_in {a : α} {us : List α} (h : a ∈ us) : inB a us = true := inB_t.2 h
theorem inB_no {a : α} {us : List α} (h : a ∉ us) : inB a us = false := by simp [inB, h]

/-- One element more, if it is not there. -/
def add1 (us : List α) (a : α) : List α := if a ∈ us then us else us ++ [a]
def once2 (a b : List α) : List α := (a ++ b).foldl add1 []

def Enc.ents (E : Enc α) (us : List α) : List (D × D) := us.map fun b => (E.key b, .b true)

theorem find_ents {E : Enc α} (ok : E.Ok) (a : α) : ∀ us : List α, findKey E.kk (E.key a) (E.ents us) = some (if a ∈ us then some (.b true) else none)
  | [] => rfl
  | b :: us => by
    have := find_ents ok a us
    simp only [Enc.ents, List.map_cons, findKey, ok.eq a b] at this ⊢
    by_cases h : a = b
    · simp [h]
    · simp only [h, decide_false, this, List.mem_cons, false_or]

theorem set_ents {E : Enc α} (ok : E.Ok) (a : α) : ∀ us : List α, a ∉ us → setKey E.kk (E.key a) (.b true) (E.ents us) = some (E.ents (us ++ [a]))
  | [], _ => rfl
  | b :: us, h => by
    have := set_ents ok a us (fun hh => h (List.mem_cons_of_mem _ hh))
    simp only [Enc.ents, List.map_cons, List.cons_append, setKey, ok.eq a b] at this ⊢
    have hab : a ≠ b := fun e => h (e ▸ List.mem_cons_self)
    simp only [hab, decide_false, this, Option.map_some]

theorem set_ents' {E : Enc α} (ok : E.Ok) (a : α) : ∀ us : List α, setKey E.kk (E.key a) (.b true) (E.ents us) = some (E.ents (add1 us a))
  | [] => rfl
  | b :: us => by
    have := set_ents' ok a us
    simp only [Enc.ents, List.map_cons, setKey, ok.eq a b] at this ⊢
    by_cases h : a = b
    · subst h
      simp [add1]
    · simp only [h, decide_false, this, Option.map_some]
      by_cases hm : a ∈ us <;> simp [add1, hm, h]

def allD (us : List α) : D :=
  match us with
  | [] => .nil
  | _ :: _ => .mu 1 us.length 0 us.length
def Enc.arr (E : Enc α) (us : List α) : Heap :=
  match us with
  | [] => []
  | _ :: _ => [.ar E.w (us.map E.enc) none true false]
def Enc.hp (E : Enc α) (us : List α) : Heap := .mp (E.ents us) :: E.arr us

theorem app_one {E : Enc α} (ok : E.Ok) (us : List α) (a : α) {bytes : Nat} (hroom : room (us.length + 1) bytes = true) (es : List (D × D)) :
    appD (.mp es :: E.arr us) (allD us) (.sv E.w [E.enc a]) E.w bytes true = some (allD (us ++ [a]), .mp es :: E.arr (us ++ [a])) := by
  have hf : ∀ H, freezeRows H [E.enc a] = some ([E.enc a], H) := fun H => flat_freezeRows H (fun r hr => by rw [List.mem_singleton.1 hr]; exact ok.flat a)
  cases us with
  | nil =>
    simp only [List.length_nil, Nat.zero_add] at hroom
    simp [appD, rowsOf, hf, allD, appTo, appEmp, Enc.arr, hroom]
  | cons u us =>
    have hl : arr (.mp es :: E.arr (u :: us)) 1 (u :: us).length = some (E.w, (u :: us).map E.enc, none, true, false) := by simp [Dm.arr, Enc.arr]
    simp only [appD, rowsOf, if_true, hf, allD, appTo, appMu, hl, Nat.zero_add, Nat.le_refl, and_self, List.length_singleton, hroom, appIn]
    simp [Enc.arr, List.take_of_length_le, List.drop_eq_nil_of_le]

theorem iter_go {body : St → Ex × St} {n : Nat} {st st1 : St} (h : body st = (.nm, st1)) : iter body (n + 1) st = iter body n st1 := by simp only [iter, h]
theorem iter_out {body : St → Ex × St} {n : Nat} {st st1 : St} {ex : Ex} (h : body st = (ex, st1)) (hne : ex ≠ .nm) : iter body (n + 1) st = (ex, st1) := by
  simp only [iter, h]
  cases ex <;> first | rfl | exact (hne rfl).elim

/-- The inner loop's body. -/
def onceInS : VCode :=
  .seq (.reg [⟨.bin .lss (.s 11) (.s 12), some 4, none⟩] none)
       (.seq (.cond (.s 4) .skip
       (.exit 2))
       (.seq (.block 3 (.seq (.reg [⟨.iad (.s 13) (.s 11) 1, none, none⟩,
          ⟨.ld (.l 0) 1 false, none, none⟩,
          ⟨.mov (.l 1), some 15, none⟩] none)
        (.seq (.reg [⟨.mov (.s 14), none, none⟩,
          ⟨.mov (.s 15), none, none⟩,
          ⟨.lk (.c 2) (.l 0) (.l 1) false (.b false), none, none⟩,
          ⟨.un .not (.l 2), some 5, none⟩] none)
        (.cond (.s 5) (.seq (.reg [⟨.mov (.s 14), none, none⟩,
           ⟨.mov (.s 15), none, none⟩,
           ⟨.mup (.c 2) (.l 0) (.l 1) (.c (.b true)), none, none⟩] none)
         (.reg [⟨.mov (.s 6), none, none⟩,
           ⟨.mov (.s 15), none, none⟩,
           ⟨.bsv 1 1 [(.s [])] [(0, (.l 1))], none, none⟩,
           ⟨.app (.l 0) (.l 2) 1 16 true, none, none⟩,
           ⟨.mov (.l 3), some 6, none⟩] none))
        .skip))))
       (.reg [⟨.bin .add (.s 11) (.c (.i .i64 1)), none, none⟩,
         ⟨.mov (.l 0), some 11, none⟩] none)))

def onceInT (w bytes : Nat) (kk : KK) (zs : List D) : VCode :=
  .seq (.reg [⟨.bin .lss (.s 11) (.s 12), some 4, none⟩] none)
       (.seq (.cond (.s 4) .skip
       (.exit 2))
       (.seq (.block 3 (.seq (.reg [⟨.iad (.s 13) (.s 11) w, none, none⟩,
          ⟨.ld (.l 0) w true, none, none⟩,
          ⟨.lal zs, some 15, none⟩,
          ⟨.lst (.sl 15) (.l 1) w, none, none⟩] none)
        (.seq (.reg [⟨.mov (.s 14), none, none⟩,
          ⟨.lld (.sl 15) w true, none, none⟩,
          ⟨.lk kk (.l 0) (.l 1) false (.b false), none, none⟩,
          ⟨.un .not (.l 2), some 5, none⟩] none)
        (.cond (.s 5) (.seq (.reg [⟨.mov (.s 14), none, none⟩,
           ⟨.lld (.sl 15) w true, none, none⟩,
           ⟨.mup kk (.l 0) (.l 1) (.c (.b true)), none, none⟩] none)
         (.reg [⟨.mov (.s 6), none, none⟩,
           ⟨.lld (.sl 15) w true, none, none⟩,
           ⟨.bsv w 1 zs [(0, (.l 1))], none, none⟩,
           ⟨.app (.l 0) (.l 2) w bytes true, none, none⟩,
           ⟨.mov (.l 3), some 6, none⟩] none))
        .skip))))
       (.reg [⟨.bin .add (.s 11) (.c (.i .i64 1)), none, none⟩,
         ⟨.mov (.l 0), some 11, none⟩] none)))

def onceOut (ib : VCode) : VCode :=
  .seq (.reg [⟨.bin .lss (.s 7) (.s 8), some 3, none⟩] none)
    (.seq (.cond (.s 3) .skip
    (.exit 0))
    (.seq (.block 1 (.seq (.reg [⟨.iad (.s 9) (.s 7) 1, none, none⟩,
       ⟨.ld (.l 0) 1 false, none, none⟩,
       ⟨.mov (.l 1), some 10, none⟩] none)
     (.seq (.reg [⟨.mov (.s 10), some 13, none⟩,
       ⟨.len 1 (.s 13), some 12, none⟩,
       ⟨.mov (.c (.i .i64 0)), some 11, none⟩] none)
     (.block 2 (.loop ib)))))
    (.reg [⟨.bin .add (.s 7) (.c (.i .i64 1)), none, none⟩,
      ⟨.mov (.l 0), some 7, none⟩] none)))

def onceF (ib : VCode) : VFunc :=
  ⟨2, 16, [.s 2],
  (.seq (.reg [⟨.mov (.c .nil), some 2, none⟩] none)
  (.seq (.reg [⟨.mov (.c .nil), some 6, none⟩] none)
  (.seq (.reg [⟨.mkm, none, none⟩,
    ⟨.mov (.l 0), some 14, none⟩] none)
  (.seq (.seq (.reg [⟨.mov (.s 0), none, none⟩,
    ⟨.mov (.s 1), none, none⟩,
    ⟨.bsv 1 2 [.nil] [(0, (.l 0)), (1, (.l 1))], some 9, none⟩,
    ⟨.len 1 (.s 9), some 8, none⟩,
    ⟨.mov (.c (.i .i64 0)), some 7, none⟩] none)
  (.block 0 (.loop (onceOut ib))))
  (.seq (.reg [⟨.mov (.s 6), none, none⟩,
    ⟨.mov (.l 0), some 2, none⟩] none)
  .ret))))), true⟩

/-- What a round of the inner loop does. -/
def InOk (E : Enc α) (bytes : Nat) (ib : VCode) : Prop :=
  ∀ (V : VProg) (n : Nat) (x y l l' : D) (k : Int) (rows : List (List D)) (us : List α) (a : α) (i : Nat) (g3 g4 g5 g15 q : D), Sl E.w rows l → rows[i]? = some (E.enc a) → rows.length < 2 ^ 62 → room (us.length + 1) bytes = true →
    ∃ s', exec V (call V n) n ib ⟨[x, y, .nil, g3, g4, g5, allD us, .i .i64 k, .i .i64 2, q, l', .i .i64 i, .i .i64 rows.length, l, .mp 0, g15], E.hp us⟩ = (.nm, s') ∧
      ∃ g3' g4' g5' g15', s' = ⟨[x, y, .nil, g3', g4', g5', allD (add1 us a), .i .i64 k, .i .i64 2, q, l', .i .i64 (i + 1 : Nat), .i .i64 rows.length, l, .mp 0, g15'], E.hp (add1 us a)⟩

theorem lk_ents {E : Enc α} (ok : E.Ok) (a : α) (us : List α) (t : Heap) : lkD (.mp (E.ents us) :: t) E.kk (.mp 0) (E.key a) false (.b false) = some (.b (inB a us)) := by
  simp only [lkD, ok.ok, entsD, List.getElem?_cons_zero, find_ents ok]
  by_cases h : a ∈ us <;> simp [h, inB]
theorem mup_ents {E : Enc α} (ok : E.Ok) (a : α) (us : List α) (t : Heap) : mupD (.mp (E.ents us) :: t) E.kk (.mp 0) (E.key a) (.b true) = some (.mp (E.ents (add1 us a)) :: t) := by
  simp only [mupD, ok.ok, List.getElem?_cons_zero, set_ents' ok, List.set_cons_zero]

theorem onceInS_ok : InOk eS 16 onceInS := by
  intro V n x y l l' k rows us a i g3 g4 g5 g15 q hl hr hlen hroom
  have hi : i < rows.length := by
    rcases Nat.lt_or_ge i rows.length with h | h
    · exact h
    · rw [List.getElem?_eq_none h] at hr; cases hr
  have hre : rows[i] = eS.enc a := by rw [List.getElem?_eq_getElem hi] at hr; exact Option.some.inj hr
  have k4 := fun H => hl.elem (H := H) (k := .i64) hi
  rw [hre] at k4
  have hd : decide ((i : Int) < (rows.length : Int)) = true := by simpa using hi
  have hw : IntKind.i64.wrap ((i : Int) + 1) = ((i + 1 : Nat) : Int) := by rw [IntWalk.i64_in _ (by omega)]; omega
  have hlk := lk_ents eS_ok a us (eS.arr us)
  have hmu := mup_ents eS_ok a us (eS.arr us)
  have hap := app_one eS_ok us a hroom (eS.ents (add1 us a))
  have hw1 : eS.w = 1 := rfl
  have hkk : eS.kk = .c 2 := rfl
  have hke : eS.key a = .s a := rfl
  have hen : eS.enc a = [.s a] := rfl
  rw [hw1] at k4 hap
  rw [hkk, hke] at hlk hmu
  rw [hen] at k4 hap
  by_cases hm : a ∈ us
  · have ha : add1 us a = us := by simp [add1, hm]
    rw [ha]
    refine ⟨⟨[x, y, .nil, g3, .b true, .b false, allD us, .i .i64 k, .i .i64 2, q, l', .i .i64 (i + 1 : Nat), .i .i64 rows.length, l, .mp 0, .s a], eS.hp us⟩, ?_, _, _, _, _, rfl⟩
    simp only [onceInS, exec_seq, exec_cond, exec_block, exec_skip, exec_reg, seqK_nm, condK_t, condK_f, blockK_nm, ops_cons, ops_nil, opsW_t, opsF_t, opsK_v, wants_none, fits_none, ev_l, ev_s, ev_c, ofO_some, step_mov, step_iad, step_ld, ldR_s, ld_ip, val_f, step_bin, bin_add, bin_lss, step_un, un_not, step_lk, setSl, cut, List.getD_cons_zero, List.getD_cons_succ, List.set_cons_zero, List.set_cons_succ, List.nil_append, List.cons_append, List.length_cons, List.length_nil, List.drop_zero, List.take_succ_cons, List.take_nil, Nat.le_refl, Nat.zero_add, if_true, Bool.not_true, Enc.hp, hd, k4, hlk, inB_in hm, hw]
  · have ha : add1 us a = us ++ [a] := by simp [add1, hm]
    have h1 : (D.s a).cellsN 1 = some [.s a] := rfl
    rw [ha] at hmu hap ⊢
    refine ⟨⟨[x, y, .nil, g3, .b true, .b true, allD (us ++ [a]), .i .i64 k, .i .i64 2, q, l', .i .i64 (i + 1 : Nat), .i .i64 rows.length, l, .mp 0, .s a], eS.hp (us ++ [a])⟩, ?_, _, _, _, _, rfl⟩
    simp only [onceInS, exec_seq, exec_cond, exec_block, exec_skip, exec_reg, seqK_nm, condK_t, blockK_nm, ops_cons, ops_nil, opsW_t, opsF_t, opsK_v, wants_none, fits_none, ev_l, ev_s, ev_c, ofO_some, ofP_some, ofH_some, step_mov, step_iad, step_ld, ldR_s, ld_ip, val_f, step_bin, bin_add, bin_lss, step_un, un_not, step_bsv, step_app, step_lk, step_mup, setSl, cut, List.getD_cons_zero, List.getD_cons_succ, List.set_cons_zero, List.set_cons_succ, List.nil_append, List.cons_append, List.length_cons, List.length_nil, List.drop_zero, List.take_succ_cons, List.take_nil, List.map_cons, List.map_nil, Nat.le_refl, Nat.zero_add, if_true, Bool.not_false, Enc.hp, hd, k4, hlk, inB_no hm, hw, hmu, bsv_one h1, hap]

theorem onceInT_ok {E : Enc α} (ok : E.Ok) {bytes : Nat} {zs : List D} (hzs : zs.length = E.w) (hag : ∀ a, E.key a = .ag (E.enc a)) (hagg : E.agg = true) : InOk E bytes (onceInT E.w bytes E.kk zs) := by
  intro V n x y l l' k rows us a i g3 g4 g5 g15 q hl hr hlen hroom
  have hi : i < rows.length := by
    rcases Nat.lt_or_ge i rows.length with h | h
    · exact h
    · rw [List.getElem?_eq_none h] at hr; cases hr
  have hre : rows[i] = E.enc a := by rw [List.getElem?_eq_getElem hi] at hr; exact Option.some.inj hr
  have k4 := fun H => hl.elem (H := H) (k := .i64) hi
  rw [hre] at k4
  have hd : decide ((i : Int) < (rows.length : Int)) = true := by simpa using hi
  have hw : IntKind.i64.wrap ((i : Int) + 1) = ((i + 1 : Nat) : Int) := by rw [IntWalk.i64_in _ (by omega)]; omega
  have hlk := lk_ents ok a us (E.arr us)
  have hmu := mup_ents ok a us (E.arr us)
  have hap := app_one ok us a hroom (E.ents (add1 us a))
  rw [hag] at hlk hmu
  have hcut := ok.cut a
  have hlen' := ok.len a
  have hput : Dm.put zs 0 (E.enc a) = some (E.enc a) := by
    simp [Dm.put, hzs, hlen']
  by_cases hm : a ∈ us
  · have ha : add1 us a = us := by simp [add1, hm]
    rw [ha]
    refine ⟨⟨[x, y, .nil, g3, .b true, .b false, allD us, .i .i64 k, .i .i64 2, q, l', .i .i64 (i + 1 : Nat), .i .i64 rows.length, l, .mp 0, .bx (E.enc a)], E.hp us⟩, ?_, _, _, _, _, rfl⟩
    simp only [onceInT, exec_seq, exec_cond, exec_block, exec_skip, exec_reg, seqK_nm, condK_t, condK_f, blockK_nm, ops_cons, ops_nil, opsW_t, opsF_t, opsK_v, wants_none, fits_none, ev_l, ev_s, ev_c, ab_sl, abS_bx, ofO_some, step_mov, step_lal, step_lld, lldR_s, lldB_bx, lldC_s, step_lst, lstR_s, lstB_bx, lstC_s, step_iad, step_ld, ldR_s, ld_ip, val_t, step_bin, bin_add, bin_lss, step_un, un_not, step_lk, cells_ag, setSl, List.getD_cons_zero, List.getD_cons_succ, List.getElem?_cons_zero, List.getElem?_cons_succ, List.set_cons_zero, List.set_cons_succ, List.nil_append, List.cons_append, if_true, Bool.not_true, Enc.hp, hd, k4, hlk, inB_in hm, hw, hcut, hput, hlen']
  · have ha : add1 us a = us ++ [a] := by simp [add1, hm]
    have h1 : (D.ag (E.enc a)).cellsN E.w = some (E.enc a) := by rw [cells_ag, if_pos hlen']
    rw [ha] at hmu hap ⊢
    refine ⟨⟨[x, y, .nil, g3, .b true, .b true, allD (us ++ [a]), .i .i64 k, .i .i64 2, q, l', .i .i64 (i + 1 : Nat), .i .i64 rows.length, l, .mp 0, .bx (E.enc a)], E.hp (us ++ [a])⟩, ?_, _, _, _, _, rfl⟩
    simp only [onceInT, exec_seq, exec_cond, exec_block, exec_skip, exec_reg, seqK_nm, condK_t, blockK_nm, ops_cons, ops_nil, opsW_t, opsF_t, opsK_v, wants_none, fits_none, ev_l, ev_s, ev_c, ab_sl, abS_bx, ofO_some, ofP_some, ofH_some, step_mov, step_lal, step_lld, lldR_s, lldB_bx, lldC_s, step_lst, lstR_s, lstB_bx, lstC_s, step_iad, step_ld, ldR_s, ld_ip, val_t, step_bin, bin_add, bin_lss, step_un, un_not, step_bsv, step_app, step_lk, step_mup, cells_ag, setSl, List.getD_cons_zero, List.getD_cons_succ, List.getElem?_cons_zero, List.getElem?_cons_succ, List.set_cons_zero, List.set_cons_succ, List.nil_append, List.cons_append, List.map_cons, List.map_nil, if_true, Bool.not_false, Enc.hp, hd, k4, hlk, inB_no hm, hw, hmu, bsv_one h1, hap, hcut, hput, hlen']


theorem add1_len (us : List α) (a : α) : (add1 us a).length ≤ us.length + 1 := by
  unfold add1; split <;> simp
theorem fold_len : ∀ (as us : List α), (as.foldl add1 us).length ≤ us.length + as.length
  | [], us => by simp
  | a :: as, us => by
    have h1 := fold_len as (add1 us a)
    have h2 := add1_len us a
    simp only [List.foldl_cons, List.length_cons]
    omega
theorem room_le {n m b : Nat} (h : room m b = true) (hn : n ≤ m) : room n b = true := by
  simp only [room, decide_eq_true_eq] at h ⊢
  have : n * b ≤ m * b := Nat.mul_le_mul_right b hn
  omega

/-- The inner loop. -/
theorem once_inner {E : Enc α} {bytes : Nat} {ib : VCode} (hib : InOk E bytes ib) (hexit : ∀ (V : VProg) (n : Nat) (x y l l' : D) (k : Int) (m : Nat) (H : Heap) (g3 g4 g5 g6 g15 q : D), ∃ s', exec V (call V n) n ib ⟨[x, y, .nil, g3, g4, g5, g6, .i .i64 k, .i .i64 2, q, l', .i .i64 m, .i .i64 m, l, .mp 0, g15], H⟩ = (.ex 2, s') ∧
      ∃ g3' g4' g5' g15', s' = ⟨[x, y, .nil, g3', g4', g5', g6, .i .i64 k, .i .i64 2, q, l', .i .i64 m, .i .i64 m, l, .mp 0, g15'], H⟩)
    (V : VProg) (n : Nat) (x y l l' : D) (k : Int) (as us : List α) (g3 g4 g5 g15 q : D) (hl : Sl E.w (as.map E.enc) l) (hlen : as.length < 2 ^ 62) (hroom : room (us.length + as.length + 1) bytes = true) (hn : as.length < n) :
    ∃ s', iter (exec V (call V n) n ib) n ⟨[x, y, .nil, g3, g4, g5, allD us, .i .i64 k, .i .i64 2, q, l', .i .i64 0, .i .i64 as.length, l, .mp 0, g15], E.hp us⟩ = (.ex 2, s') ∧
      ∃ g3' g4' g5' g11 g12 g15', s' = ⟨[x, y, .nil, g3', g4', g5', allD (as.foldl add1 us), .i .i64 k, .i .i64 2, q, l', g11, g12, l, .mp 0, g15'], E.hp (as.foldl add1 us)⟩ := by
  obtain ⟨ex, s', h1, h2, h3⟩ := iter_rel (body := exec V (call V n) n ib) (n := n)
    (R := fun i s => ∃ g3 g4 g5 g15, s = ⟨[x, y, .nil, g3, g4, g5, allD ((as.take i).foldl add1 us), .i .i64 k, .i .i64 2, q, l', .i .i64 i, .i .i64 as.length, l, .mp 0, g15], E.hp ((as.take i).foldl add1 us)⟩)
    (Q := fun ex s' => ex = .ex 2 ∧ ∃ g3' g4' g5' g11 g12 g15', s' = ⟨[x, y, .nil, g3', g4', g5', allD (as.foldl add1 us), .i .i64 k, .i .i64 2, q, l', g11, g12, l, .mp 0, g15'], E.hp (as.foldl add1 us)⟩)
    as.length (st := ⟨[x, y, .nil, g3, g4, g5, allD us, .i .i64 k, .i .i64 2, q, l', .i .i64 0, .i .i64 as.length, l, .mp 0, g15], E.hp us⟩) hn ⟨g3, g4, g5, g15, rfl⟩ (fun i s hi hs => by
      obtain ⟨g3, g4, g5, g15, rfl⟩ := hs
      have hr : (as.map E.enc)[i]? = some (E.enc as[i]) := by rw [List.getElem?_map, List.getElem?_eq_getElem hi]; rfl
      have hfl := fold_len (as.take i) us
      obtain ⟨s', h1, g3', g4', g5', g15', h2⟩ := hib V n x y l l' k (as.map E.enc) ((as.take i).foldl add1 us) as[i] i g3 g4 g5 g15 q hl hr (by simpa using hlen) (room_le hroom (by rw [List.length_take] at hfl; omega))
      simp only [List.length_map] at h1 h2
      refine ⟨s', h1, g3', g4', g5', g15', ?_⟩
      rw [h2, List.take_succ_eq_append_getElem hi, List.foldl_append]
      rfl) (fun s hs => by
      obtain ⟨g3, g4, g5, g15, rfl⟩ := hs
      obtain ⟨s', h1, g3', g4', g5', g15', h2⟩ := hexit V n x y l l' k as.length (E.hp ((as.take as.length).foldl add1 us)) g3 g4 g5 (allD ((as.take as.length).foldl add1 us)) g15 q
      refine ⟨.ex 2, s', h1, by simp, rfl, g3', g4', g5', .i .i64 as.length, .i .i64 as.length, g15', ?_⟩
      rw [h2, List.take_length])
  subst h2
  exact ⟨s', h1, h3⟩

def owD (w : Nat) (rows : List (List D)) : D :=
  match rows with
  | [] => .nil
  | _ :: _ => .ow w rows

end
theorem settle_all {α : Type} {E : Enc α} (us : List α) (es : List (D × D)) : settle (.mp es :: E.arr us) (allD us) = some (owD E.w (us.map E.enc)) := by
  cases us with
  | nil => rfl
  | cons u us => simp [allD, settle, settle1, settleC, Dm.arr, Enc.arr, owD, List.take_of_length_le]

section
variable {α : Type} [DecidableEq α]
/-- Each of two lists' elements once. -/
theorem once_ret {E : Enc α} {bytes : Nat} {ib : VCode} (hib : InOk E bytes ib) (hexit : ∀ (V : VProg) (n : Nat) (x y l l' : D) (k : Int) (m : Nat) (H : Heap) (g3 g4 g5 g6 g15 q : D), ∃ s', exec V (call V n) n ib ⟨[x, y, .nil, g3, g4, g5, g6, .i .i64 k, .i .i64 2, q, l', .i .i64 m, .i .i64 m, l, .mp 0, g15], H⟩ = (.ex 2, s') ∧
      ∃ g3' g4' g5' g15', s' = ⟨[x, y, .nil, g3', g4', g5', g6, .i .i64 k, .i .i64 2, q, l', .i .i64 m, .i .i64 m, l, .mp 0, g15'], H⟩)
    {V : VProg} {f : FuncId} (hf : V.fn f = some (onceF ib)) {x y : D} {as bs : List α} (hx : Sl E.w (as.map E.enc) x) (hy : Sl E.w (bs.map E.enc) y) (hlen : as.length + bs.length < 2 ^ 61) (hroom : room (as.length + bs.length + 1) bytes = true) :
    PRet V f [x, y] (owD E.w ((once2 as bs).map E.enc)) := by
  have hcx : x.cellsN 1 = some [x] := by cases hx <;> rfl
  have hcy : y.cellsN 1 = some [y] := by cases hy <;> rfl
  have hxl := fun H => hx.len (H := H)
  have hyl := fun H => hy.len (H := H)
  simp only [List.length_map] at hxl hyl
  have hi0 : ∀ H, iadD H (.sv 1 [[x], [y]]) (.i .i64 0) 1 = some (.ip [x]) := fun H => by simp [iadD, ixOf]
  have hi1 : ∀ H, iadD H (.sv 1 [[x], [y]]) (.i .i64 1) 1 = some (.ip [y]) := fun H => by simp [iadD, ixOf]
  refine PRet.of (vf := onceF ib) (d0 := allD (once2 as bs)) (H := E.hp (once2 as bs)) hf (as.length + bs.length + 4) (fun n hn => ?_) ?_ (settle_all _ _)
  · have hent := enter_eq (V := V) (cl := call V n) (n := n) (onceF ib) [x, y] [] rfl
    rw [hent]
    obtain ⟨s1, h1, a3, a4, a5, a11, a12, a15, e1⟩ := once_inner hib hexit V n x y x x 0 as [] (.b true) .u .u .u (.sv 1 [[x], [y]]) hx (by omega) (room_le hroom (by simp)) (by omega)
    subst e1
    have hfl := fold_len as ([] : List α)
    obtain ⟨s2, h2, b3, b4, b5, b11, b12, b15, e2⟩ := once_inner hib hexit V n x y y y 1 bs (as.foldl add1 []) (.b true) a4 a5 a15 (.sv 1 [[x], [y]]) hy (by omega) (room_le hroom (by simp at hfl; omega)) (by omega)
    subst e2
    have e3 : bs.foldl add1 (as.foldl add1 []) = once2 as bs := by simp [once2, List.foldl_append]
    rw [e3] at h2
    have d0 : decide ((0 : Int) < 2) = true := rfl
    have d1 : decide ((1 : Int) < 2) = true := rfl
    have d2 : decide ((2 : Int) < 2) = false := rfl
    have w0 : IntKind.i64.wrap ((0 : Int) + 1) = 1 := rfl
    have w1 : IntKind.i64.wrap ((1 : Int) + 1) = 2 := rfl
    have o1 : exec V (call V n) n (onceOut ib) ⟨[x, y, .nil, .u, .u, .u, .nil, .i .i64 0, .i .i64 2, .sv 1 [[x], [y]], .u, .u, .u, .u, .mp 0, .u], [.mp []]⟩ =
        (.nm, ⟨[x, y, .nil, a3, a4, a5, allD (as.foldl add1 []), .i .i64 1, .i .i64 2, .sv 1 [[x], [y]], x, a11, a12, x, .mp 0, a15], E.hp (as.foldl add1 [])⟩) := by
      simp only [onceOut, exec_seq, exec_cond, exec_block, exec_skip, exec_reg, seqK_nm, condK_t, ops_cons, ops_nil, opsW_t, opsF_t, opsK_v, wants_none, fits_none, ev_l, ev_s, ev_c, ofO_some, step_mov, step_iad, step_ld, ldR_s, ld_ip, val_f, step_bin, bin_lss, step_len, setSl, cut, List.getD_cons_zero, List.getD_cons_succ, List.set_cons_zero, List.set_cons_succ, List.nil_append, List.cons_append, List.length_cons, List.length_nil, List.drop_zero, List.take_succ_cons, List.take_nil, Nat.le_refl, Nat.zero_add, if_true, exec_loop, d0, hi0, hxl]
      have : allD ([] : List α) = .nil := rfl
      rw [this] at h1
      have : E.hp ([] : List α) = [.mp []] := rfl
      rw [this] at h1
      simp only [h1, exec_reg, seqK_nm, blockK_nm, blockK_ex, ops_cons, ops_nil, opsW_t, opsF_t, opsK_v, wants_none, fits_none, ev_l, ev_s, ev_c, ofO_some, step_mov, step_bin, bin_add, setSl, List.getD_cons_zero, List.getD_cons_succ, List.set_cons_zero, List.set_cons_succ, List.nil_append, List.cons_append, if_true, w0]
    have o2 : exec V (call V n) n (onceOut ib) ⟨[x, y, .nil, a3, a4, a5, allD (as.foldl add1 []), .i .i64 1, .i .i64 2, .sv 1 [[x], [y]], x, a11, a12, x, .mp 0, a15], E.hp (as.foldl add1 [])⟩ =
        (.nm, ⟨[x, y, .nil, b3, b4, b5, allD (once2 as bs), .i .i64 2, .i .i64 2, .sv 1 [[x], [y]], y, b11, b12, y, .mp 0, b15], E.hp (once2 as bs)⟩) := by
      simp only [onceOut, exec_seq, exec_cond, exec_block, exec_skip, exec_reg, seqK_nm, condK_t, ops_cons, ops_nil, opsW_t, opsF_t, opsK_v, wants_none, fits_none, ev_l, ev_s, ev_c, ofO_some, step_mov, step_iad, step_ld, ldR_s, ld_ip, val_f, step_bin, bin_lss, step_len, setSl, cut, List.getD_cons_zero, List.getD_cons_succ, List.set_cons_zero, List.set_cons_succ, List.nil_append, List.cons_append, List.length_cons, List.length_nil, List.drop_zero, List.take_succ_cons, List.take_nil, Nat.le_refl, Nat.zero_add, if_true, exec_loop, d1, hi1, hyl]
      simp only [h2, exec_reg, seqK_nm, blockK_nm, blockK_ex, ops_cons, ops_nil, opsW_t, opsF_t, opsK_v, wants_none, fits_none, ev_l, ev_s, ev_c, ofO_some, step_mov, step_bin, bin_add, setSl, List.getD_cons_zero, List.getD_cons_succ, List.set_cons_zero, List.set_cons_succ, List.nil_append, List.cons_append, if_true, w1]
    have o3 : exec V (call V n) n (onceOut ib) ⟨[x, y, .nil, b3, b4, b5, allD (once2 as bs), .i .i64 2, .i .i64 2, .sv 1 [[x], [y]], y, b11, b12, y, .mp 0, b15], E.hp (once2 as bs)⟩ =
        (.ex 0, ⟨[x, y, .nil, .b false, b4, b5, allD (once2 as bs), .i .i64 2, .i .i64 2, .sv 1 [[x], [y]], y, b11, b12, y, .mp 0, b15], E.hp (once2 as bs)⟩) := by
      simp only [onceOut, exec_seq, exec_cond, exec_exit, exec_reg, seqK_nm, seqK_ex, condK_f, ops_cons, ops_nil, opsW_t, opsF_t, opsK_v, wants_none, fits_none, ev_s, ofO_some, step_bin, bin_lss, setSl, List.getD_cons_zero, List.getD_cons_succ, List.set_cons_zero, List.set_cons_succ, List.nil_append, d2]
    obtain ⟨m, rfl⟩ : ∃ m, n = m + 3 := ⟨n - 3, by omega⟩
    have it : ∀ k, iter (exec V (call V (m + 3)) (m + 3) (onceOut ib)) (k + 3) ⟨[x, y, .nil, .u, .u, .u, .nil, .i .i64 0, .i .i64 2, .sv 1 [[x], [y]], .u, .u, .u, .u, .mp 0, .u], [.mp []]⟩ =
        (.ex 0, ⟨[x, y, .nil, .b false, b4, b5, allD (once2 as bs), .i .i64 2, .i .i64 2, .sv 1 [[x], [y]], y, b11, b12, y, .mp 0, b15], E.hp (once2 as bs)⟩) := fun k => by
      rw [iter_go o1, iter_go o2, iter_out o3 (by simp)]
    simp only [onceF, exec_seq, exec_block, exec_reg, seqK_nm, ops_cons, ops_nil, opsW_t, opsF_t, opsK_v, wants_none, fits_none, ev_l, ev_s, ev_c, ofO_some, step_mov, step_bsv, step_len, len_sv, step_mkm, setSl, List.getD_cons_zero, List.getD_cons_succ, List.set_cons_zero, List.set_cons_succ, List.nil_append, List.cons_append, List.length_cons, List.length_nil, List.map_cons, List.map_nil, List.replicate_succ, List.replicate_zero, Nat.reduceAdd, Nat.reduceSub, Nat.zero_add, Int.cast_ofNat_Int, exec_loop, bsv_two hcx hcy, List.length_nil]
    have := it m
    simp only [this, exec_seq, exec_ret, exec_reg, seqK_nm, blockK_ex, ops_cons, ops_nil, opsW_t, opsF_t, opsK_v, wants_none, fits_none, ev_l, ev_s, step_mov, setSl, List.getD_cons_zero, List.getD_cons_succ, List.set_cons_zero, List.set_cons_succ, List.nil_append, List.cons_append, if_true]
    exact entK_rt (ds := [_]) rfl rfl
  · cases once2 as bs <;> rfl
end
end Go.Dm

/-
  Is every element of a list an element of another: 'within' of package depend, at its instances.
-/
namespace Go.Dm
section
variable {α : Type} [DecidableEq α]

theorem onceInS_exit (V : VProg) (n : Nat) (x y l l' : D) (k : Int) (m : Nat) (H : Heap) (g3 g4 g5 g6 g15 q : D) : ∃ s', exec V (call V n) n onceInS ⟨[x, y, .nil, g3, g4, g5, g6, .i .i64 k, .i .i64 2, q, l', .i .i64 m, .i .i64 m, l, .mp 0, g15], H⟩ = (.ex 2, s') ∧
      ∃ g3' g4' g5' g15', s' = ⟨[x, y, .nil, g3', g4', g5', g6, .i .i64 k, .i .i64 2, q, l', .i .i64 m, .i .i64 m, l, .mp 0, g15'], H⟩ := by
  have hd : decide ((m : Int) < (m : Int)) = false := by simp
  refine ⟨⟨[x, y, .nil, g3, .b false, g5, g6, .i .i64 k, .i .i64 2, q, l', .i .i64 m, .i .i64 m, l, .mp 0, g15], H⟩, ?_, _, _, _, _, rfl⟩
  simp only [onceInS, exec_seq, exec_cond, exec_exit, exec_reg, seqK_nm, seqK_ex, condK_f, ops_cons, ops_nil, opsW_t, opsF_t, opsK_v, wants_none, fits_none, ev_s, ofO_some, step_bin, bin_lss, setSl, List.getD_cons_zero, List.getD_cons_succ, List.set_cons_zero, List.set_cons_succ, List.nil_append, hd]
theorem onceInT_exit (w bytes : Nat) (kk : KK) (zs : List D) (V : VProg) (n : Nat) (x y l l' : D) (k : Int) (m : Nat) (H : Heap) (g3 g4 g5 g6 g15 q : D) : ∃ s', exec V (call V n) n (onceInT w bytes kk zs) ⟨[x, y, .nil, g3, g4, g5, g6, .i .i64 k, .i .i64 2, q, l', .i .i64 m, .i .i64 m, l, .mp 0, g15], H⟩ = (.ex 2, s') ∧
      ∃ g3' g4' g5' g15', s' = ⟨[x, y, .nil, g3', g4', g5', g6, .i .i64 k, .i .i64 2, q, l', .i .i64 m, .i .i64 m, l, .mp 0, g15'], H⟩ := by
  have hd : decide ((m : Int) < (m : Int)) = false := by simp
  refine ⟨⟨[x, y, .nil, g3, .b false, g5, g6, .i .i64 k, .i .i64 2, q, l', .i .i64 m, .i .i64 m, l, .mp 0, g15], H⟩, ?_, _, _, _, _, rfl⟩
  simp only [onceInT, exec_seq, exec_cond, exec_exit, exec_reg, seqK_nm, seqK_ex, condK_f, ops_cons, ops_nil, opsW_t, opsF_t, opsK_v, wants_none, fits_none, ev_s, ofO_some, step_bin, bin_lss, setSl, List.getD_cons_zero, List.getD_cons_succ, List.set_cons_zero, List.set_cons_succ, List.nil_append, hd]

def withInS : VCode :=
  .seq (.reg [⟨.bin .lss (.s 4) (.s 5), some 3, none⟩] none)
    (.seq (.cond (.s 3) .skip
    (.exit 0))
    (.seq (.block 1 (.seq (.reg [⟨.iad (.s 6) (.s 4) 1, none, none⟩,
       ⟨.ld (.l 0) 1 false, none, none⟩,
       ⟨.mov (.l 1), some 8, none⟩] none)
     (.reg [⟨.ld (.s 7) 1 false, none, none⟩,
       ⟨.mov (.s 8), none, none⟩,
       ⟨.mup (.c 2) (.l 0) (.l 1) (.c (.b true)), none, none⟩] none)))
    (.reg [⟨.bin .add (.s 4) (.c (.i .i64 1)), none, none⟩,
      ⟨.mov (.l 0), some 4, none⟩] none)))
def withInT (w : Nat) (kk : KK) (zs : List D) : VCode :=
  .seq (.reg [⟨.bin .lss (.s 4) (.s 5), some 3, none⟩] none)
    (.seq (.cond (.s 3) .skip
    (.exit 0))
    (.seq (.block 1 (.seq (.reg [⟨.iad (.s 6) (.s 4) w, none, none⟩,
       ⟨.ld (.l 0) w true, none, none⟩,
       ⟨.lal zs, some 8, none⟩,
       ⟨.lst (.sl 8) (.l 1) w, none, none⟩] none)
     (.reg [⟨.ld (.s 7) 1 false, none, none⟩,
       ⟨.lld (.sl 8) w true, none, none⟩,
       ⟨.mup kk (.l 0) (.l 1) (.c (.b true)), none, none⟩] none)))
    (.reg [⟨.bin .add (.s 4) (.c (.i .i64 1)), none, none⟩,
      ⟨.mov (.l 0), some 4, none⟩] none)))
def withF (ib : VCode) (g h : FuncId) : VFunc :=
  ⟨2, 9, [.s 2],
  (.seq (.reg [⟨.mov (.c (.b false)), some 2, none⟩] none)
  (.seq (.reg [⟨.mkm, none, none⟩,
    ⟨.hal [.mnil], some 7, none⟩,
    ⟨.st (.s 7) (.l 0) 1, none, none⟩] none)
  (.seq (.seq (.reg [⟨.mov (.s 1), some 6, none⟩,
    ⟨.len 1 (.s 6), some 5, none⟩,
    ⟨.mov (.c (.i .i64 0)), some 4, none⟩] none)
  (.block 0 (.loop ib)))
  (.seq (.reg [⟨.mov (.s 0), none, none⟩,
    ⟨.mkf (.func g) [] [(.s 7)], none, none⟩,
    ⟨.call h [(.l 0), (.l 1)], none, none⟩,
    ⟨.un .not (.l 2), none, none⟩,
    ⟨.mov (.l 3), some 2, none⟩] none)
  .ret)))), true⟩
/-- 'not in the map', the closure. -/
def notInS : VFunc :=
  ⟨2, 3, [.s 2],
  (.seq (.reg [⟨.mov (.c (.b false)), some 2, none⟩] none)
  (.seq (.reg [⟨.ld (.s 1) 1 false, none, none⟩,
    ⟨.mov (.s 0), none, none⟩,
    ⟨.lk (.c 2) (.l 0) (.l 1) false (.b false), none, none⟩,
    ⟨.un .not (.l 2), none, none⟩,
    ⟨.mov (.l 3), some 2, none⟩] none)
  .ret)), false⟩
def notInT (w : Nat) (kk : KK) : VFunc :=
  ⟨2, 4, [.s 2],
  (.seq (.reg [⟨.lbx (.s 0) w, some 3, none⟩,
    ⟨.mov (.c (.b false)), some 2, none⟩] none)
  (.seq (.reg [⟨.ld (.s 1) 1 false, none, none⟩,
    ⟨.lld (.sl 3) w true, none, none⟩,
    ⟨.lk kk (.l 0) (.l 1) false (.b false), none, none⟩,
    ⟨.un .not (.l 2), none, none⟩,
    ⟨.mov (.l 3), some 2, none⟩] none)
  .ret)), false⟩

def Enc.hw (E : Enc α) (us : List α) : Heap := [.mp (E.ents us), .bx [.mp 0]]

def WInOk (E : Enc α) (ib : VCode) : Prop :=
  ∀ (V : VProg) (n : Nat) (x y l : D) (rows : List (List D)) (us : List α) (a : α) (i : Nat) (g3 g8 : D), Sl E.w rows l → rows[i]? = some (E.enc a) → rows.length < 2 ^ 62 →
    ∃ s', exec V (call V n) n ib ⟨[x, y, .b false, g3, .i .i64 i, .i .i64 rows.length, l, .hp 1 0, g8], E.hw us⟩ = (.nm, s') ∧
      ∃ g3' g8', s' = ⟨[x, y, .b false, g3', .i .i64 (i + 1 : Nat), .i .i64 rows.length, l, .hp 1 0, g8'], E.hw (add1 us a)⟩
def WOutOk (ib : VCode) : Prop :=
  ∀ (V : VProg) (n : Nat) (x y l : D) (m : Nat) (g3 g8 : D) (H : Heap), ∃ s', exec V (call V n) n ib ⟨[x, y, .b false, g3, .i .i64 m, .i .i64 m, l, .hp 1 0, g8], H⟩ = (.ex 0, s') ∧
      ∃ g3' g8', s' = ⟨[x, y, .b false, g3', .i .i64 m, .i .i64 m, l, .hp 1 0, g8'], H⟩

theorem mup_hw {E : Enc α} (ok : E.Ok) (a : α) (us : List α) : mupD (E.hw us) E.kk (.mp 0) (E.key a) (.b true) = some (E.hw (add1 us a)) := mup_ents ok a us _

theorem withInS_ok : WInOk eS withInS := by
  intro V n x y l rows us a i g3 g8 hl hr hlen
  have hi : i < rows.length := by
    rcases Nat.lt_or_ge i rows.length with h | h
    · exact h
    · rw [List.getElem?_eq_none h] at hr; cases hr
  have hre : rows[i] = eS.enc a := by rw [List.getElem?_eq_getElem hi] at hr; exact Option.some.inj hr
  have k4 := fun H => hl.elem (H := H) (k := .i64) hi
  rw [hre] at k4
  have hd : decide ((i : Int) < (rows.length : Int)) = true := by simpa using hi
  have hw : IntKind.i64.wrap ((i : Int) + 1) = ((i + 1 : Nat) : Int) := by rw [IntWalk.i64_in _ (by omega)]; omega
  have hmu := mup_hw eS_ok a us
  have hen : eS.enc a = [.s a] := rfl
  have hke : eS.key a = .s a := rfl
  have hw1 : eS.w = 1 := rfl
  have hkk : eS.kk = .c 2 := rfl
  rw [hw1] at k4
  rw [hen] at k4
  rw [hkk, hke] at hmu
  have hbx : (eS.hw us)[1]? = some (.bx [.mp 0]) := rfl
  refine ⟨⟨[x, y, .b false, .b true, .i .i64 (i + 1 : Nat), .i .i64 rows.length, l, .hp 1 0, .s a], eS.hw (add1 us a)⟩, ?_, _, _, rfl⟩
  simp only [withInS, exec_seq, exec_cond, exec_block, exec_skip, exec_reg, seqK_nm, condK_t, blockK_nm, ops_cons, ops_nil, opsW_t, opsF_t, opsK_v, wants_none, fits_none, ev_l, ev_s, ev_c, ofO_some, ofH_some, step_mov, step_iad, step_ld, ldR_s, ld_ip, ld_hp, hpL_bx, val_f, step_bin, bin_add, bin_lss, step_mup, setSl, cut, List.getD_cons_zero, List.getD_cons_succ, List.set_cons_zero, List.set_cons_succ, List.nil_append, List.cons_append, List.length_cons, List.length_nil, List.drop_zero, List.take_succ_cons, List.take_nil, Nat.le_refl, Nat.zero_add, if_true, hd, k4, hmu, hw, hbx]

theorem withInT_ok {E : Enc α} (ok : E.Ok) {zs : List D} (hzs : zs.length = E.w) (hag : ∀ a, E.key a = .ag (E.enc a)) : WInOk E (withInT E.w E.kk zs) := by
  intro V n x y l rows us a i g3 g8 hl hr hlen
  have hi : i < rows.length := by
    rcases Nat.lt_or_ge i rows.length with h | h
    · exact h
    · rw [List.getElem?_eq_none h] at hr; cases hr
  have hre : rows[i] = E.enc a := by rw [List.getElem?_eq_getElem hi] at hr; exact Option.some.inj hr
  have k4 := fun H => hl.elem (H := H) (k := .i64) hi
  rw [hre] at k4
  have hd : decide ((i : Int) < (rows.length : Int)) = true := by simpa using hi
  have hw : IntKind.i64.wrap ((i : Int) + 1) = ((i + 1 : Nat) : Int) := by rw [IntWalk.i64_in _ (by omega)]; omega
  have hmu := mup_hw ok a us
  rw [hag] at hmu
  have hcut := ok.cut a
  have hcut1 : cut [D.mp 0] 0 1 = some [.mp 0] := rfl
  have hlen' := ok.len a
  have hput : Dm.put zs 0 (E.enc a) = some (E.enc a) := by simp [Dm.put, hzs, hlen']
  have hbx : (E.hw us)[1]? = some (.bx [.mp 0]) := rfl
  refine ⟨⟨[x, y, .b false, .b true, .i .i64 (i + 1 : Nat), .i .i64 rows.length, l, .hp 1 0, .bx (E.enc a)], E.hw (add1 us a)⟩, ?_, _, _, rfl⟩
  simp only [withInT, exec_seq, exec_cond, exec_block, exec_skip, exec_reg, seqK_nm, condK_t, blockK_nm, ops_cons, ops_nil, opsW_t, opsF_t, opsK_v, wants_none, fits_none, ev_l, ev_s, ev_c, ab_sl, abS_bx, ofO_some, ofH_some, step_mov, step_lal, step_lld, lldR_s, lldB_bx, lldC_s, step_lst, lstR_s, lstB_bx, lstC_s, step_iad, step_ld, ldR_s, ld_ip, ld_hp, hpL_bx, val_t, val_f, step_bin, bin_add, bin_lss, step_mup, cells_ag, setSl, List.getD_cons_zero, List.getD_cons_succ, List.getElem?_cons_zero, List.getElem?_cons_succ, List.set_cons_zero, List.set_cons_succ, List.nil_append, List.cons_append, if_true, hd, k4, hmu, hw, hcut, hcut1, hput, hlen', hbx]

theorem withInS_out : WOutOk withInS := by
  intro V n x y l m g3 g8 H
  have hd : decide ((m : Int) < (m : Int)) = false := by simp
  refine ⟨⟨[x, y, .b false, .b false, .i .i64 m, .i .i64 m, l, .hp 1 0, g8], H⟩, ?_, _, _, rfl⟩
  simp only [withInS, exec_seq, exec_cond, exec_exit, exec_reg, seqK_nm, seqK_ex, condK_f, ops_cons, ops_nil, opsW_t, opsF_t, opsK_v, wants_none, fits_none, ev_s, ofO_some, step_bin, bin_lss, setSl, List.getD_cons_zero, List.getD_cons_succ, List.set_cons_zero, List.set_cons_succ, List.nil_append, hd]
theorem withInT_out (w : Nat) (kk : KK) (zs : List D) : WOutOk (withInT w kk zs) := by
  intro V n x y l m g3 g8 H
  have hd : decide ((m : Int) < (m : Int)) = false := by simp
  refine ⟨⟨[x, y, .b false, .b false, .i .i64 m, .i .i64 m, l, .hp 1 0, g8], H⟩, ?_, _, _, rfl⟩
  simp only [withInT, exec_seq, exec_cond, exec_exit, exec_reg, seqK_nm, seqK_ex, condK_f, ops_cons, ops_nil, opsW_t, opsF_t, opsK_v, wants_none, fits_none, ev_s, ofO_some, step_bin, bin_lss, setSl, List.getD_cons_zero, List.getD_cons_succ, List.set_cons_zero, List.set_cons_succ, List.nil_append, hd]

theorem lk_hw {E : Enc α} (ok : E.Ok) (a : α) (us : List α) : lkD (E.hw us) E.kk (.mp 0) (E.key a) false (.b false) = some (.b (inB a us)) := lk_ents ok a us _

theorem notInS_ret {V : VProg} {g : FuncId} (hg : V.fn g = some notInS) (us : List (List UInt8)) (a : List UInt8) : Ret V g [eS.key a, .hp 1 0] (eS.hw us) (.b (!inB a us)) (eS.hw us) := by
  refine .impure hg rfl 0 (fun n _ => ?_)
  have hent := enter_eq (V := V) (cl := call V n) (n := n) notInS [eS.key a, .hp 1 0] (eS.hw us) rfl
  rw [hent]
  have hlk := lk_hw eS_ok a us
  have hkk : eS.kk = .c 2 := rfl
  rw [hkk] at hlk
  have hbx : (eS.hw us)[1]? = some (.bx [.mp 0]) := rfl
  simp only [notInS, exec_seq, exec_ret, exec_reg, seqK_nm, ops_cons, ops_nil, opsW_t, opsF_t, opsK_v, wants_none, fits_none, ev_l, ev_s, ev_c, ofO_some, step_mov, step_ld, ldR_s, ld_hp, hpL_bx, val_f, step_un, un_not, step_lk, setSl, cut, List.getD_cons_zero, List.getD_cons_succ, List.set_cons_zero, List.set_cons_succ, List.nil_append, List.cons_append, List.length_cons, List.length_nil, List.drop_zero, List.take_succ_cons, List.take_nil, List.replicate_succ, List.replicate_zero, Nat.reduceSub, Nat.le_refl, Nat.zero_add, if_true, hbx, hlk]
  exact entK_rt (ds := [.b (!inB a us)]) rfl rfl
theorem notInT_ret {V : VProg} {g : FuncId} {E : Enc α} (ok : E.Ok) (hag : ∀ a, E.key a = .ag (E.enc a)) (hg : V.fn g = some (notInT E.w E.kk)) (us : List α) (a : α) : Ret V g [E.key a, .hp 1 0] (E.hw us) (.b (!inB a us)) (E.hw us) := by
  refine .impure hg rfl 0 (fun n _ => ?_)
  have hent := enter_eq (V := V) (cl := call V n) (n := n) (notInT E.w E.kk) [E.key a, .hp 1 0] (E.hw us) rfl
  rw [hent]
  have hlk := lk_hw ok a us
  have hcut := ok.cut a
  have hcut1 : cut [D.mp 0] 0 1 = some [.mp 0] := rfl
  have hlen' := ok.len a
  have hbx : (E.hw us)[1]? = some (.bx [.mp 0]) := rfl
  rw [hag] at hlk ⊢
  simp only [notInT, exec_seq, exec_ret, exec_reg, seqK_nm, ops_cons, ops_nil, opsW_t, opsF_t, opsK_v, wants_none, fits_none, ev_l, ev_s, ev_c, ab_sl, abS_bx, ofO_some, step_mov, step_lbx, step_lld, lldR_s, lldB_bx, lldC_s, step_ld, ldR_s, ld_hp, hpL_bx, val_t, val_f, step_un, un_not, step_lk, cells_ag, setSl, List.getD_cons_zero, List.getD_cons_succ, List.getElem?_cons_zero, List.getElem?_cons_succ, List.set_cons_zero, List.set_cons_succ, List.nil_append, List.cons_append, List.replicate_succ, List.replicate_zero, Nat.reduceSub, if_true, Option.map_some, hbx, hlk, hcut, hcut1, hlen']
  exact entK_rt (ds := [.b (!inB a us)]) rfl rfl

theorem mem_fold : ∀ (bs us : List α) (a : α), a ∈ bs.foldl add1 us ↔ a ∈ us ∨ a ∈ bs
  | [], us, a => by simp
  | b :: bs, us, a => by
    rw [List.foldl_cons, mem_fold bs (add1 us b) a]
    unfold add1
    by_cases h : b ∈ us
    · rw [if_pos h]
      constructor
      · rintro (h1 | h1)
        · exact .inl h1
        · exact .inr (List.mem_cons_of_mem _ h1)
      · rintro (h1 | h1)
        · exact .inl h1
        · rcases List.mem_cons.1 h1 with rfl | h1
          · exact .inl h
          · exact .inr h1
    · rw [if_neg h]
      simp only [List.mem_append, List.mem_cons, List.not_mem_nil, or_false]
      constructor
      · rintro ((h1 | h1) | h1)
        · exact .inl h1
        · exact .inr (.inl h1)
        · exact .inr (.inr h1)
      · rintro (h1 | h1 | h1)
        · exact .inl (.inl h1)
        · exact .inl (.inr h1)
        · exact .inr h1

/-- Is every element of the first list one of the second? -/
theorem within_ret {E : Enc α} (ok : E.Ok) {ib : VCode} (hib : WInOk E ib) (hout : WOutOk ib) {V : VProg} {f g h h' : FuncId} (hf : V.fn f = some (withF ib g h)) (hh : V.fn h = some (cfF h')) (hh' : V.fn h' = some (idxF E.w E.agg))
    (hg : ∀ (us : List α) (a : α), Ret V g [E.key a, .hp 1 0] (E.hw us) (.b (!inB a us)) (E.hw us)) {x y : D} {as bs : List α} (hx : Sl E.w (as.map E.enc) x) (hy : Sl E.w (bs.map E.enc) y) (hla : as.length < 2 ^ 61) (hlb : bs.length < 2 ^ 61) :
    PRet V f [x, y] (.b (as.all fun a => inB a bs)) := by
  let us := bs.foldl add1 []
  have hus : ∀ a, inB a us = inB a bs := fun a => by
    have : a ∈ us ↔ a ∈ bs := by rw [mem_fold]; simp
    by_cases h : a ∈ bs
    · rw [inB_in h, inB_in (this.2 h)]
    · rw [inB_no h, inB_no (fun hh => h (this.1 hh))]
  -- the search
  have key : ∃ p : List D → Bool, ∀ a, p (E.enc a) = !inB a us := by
    refine ⟨fun r => match mapO (fun _ => some ()) r with | _ => (open Classical in if hh : ∃ a, E.enc a = r then !inB (Classical.choose hh) us else true), fun a => ?_⟩
    have hh : ∃ a', E.enc a' = E.enc a := ⟨a, rfl⟩
    have hs := Classical.choose_spec hh
    have : Classical.choose hh = a := by
      generalize Classical.choose hh = b at hs
      have h1 := ok.val a
      have h2 := ok.val b
      rw [hs, h1] at h2
      have h3 := ok.eq a b
      have h4 := ok.eq a a
      rw [← Option.some.inj h2, h4] at h3
      simp only [decide_true, Option.some.injEq] at h3
      exact (of_decide_eq_true h3.symm).symm
    simp only
    rw [dif_pos hh, this]
  obtain ⟨p, hp⟩ := key
  have keyf : ∃ k : List D → D, ∀ a, k (E.enc a) = E.key a := by
    refine ⟨fun r => (Dm.val E.agg r).getD .u, fun a => by simp only [ok.val a, Option.getD_some]⟩
  obtain ⟨k, hk⟩ := keyf
  obtain ⟨N, hN⟩ := cf_ret (H := E.hw us) (g := g) (cp := [.hp 1 0]) hh hh' hx p k (fun r hr => by
    obtain ⟨a, _, rfl⟩ := List.mem_map.1 hr
    rw [hk]; exact ⟨ok.cut a, ok.val a⟩) (fun r hr => by
    obtain ⟨a, _, rfl⟩ := List.mem_map.1 hr
    rw [hk, hp]; exact hg us a) (by simp; omega)
  have hany : (as.map E.enc).any p = !(as.all fun a => inB a bs) := by
    rw [List.any_map]
    have e1 : as.any (p ∘ E.enc) = as.any (fun a => !inB a bs) := by
      congr 1
      funext a
      simp only [Function.comp, hp, hus]
    rw [e1]
    clear hx hla e1 hN
    induction as with
    | nil => rfl
    | cons a as ih => simp only [List.any_cons, List.all_cons, ih]; cases inB a bs <;> simp
  rw [hany] at hN
  have hyl := fun H => hy.len (H := H)
  simp only [List.length_map] at hyl
  refine PRet.of (vf := withF ib g h) (d0 := .b (as.all fun a => inB a bs)) (H := E.hw us) hf (N + bs.length + 1) (fun n hn => ?_) rfl rfl
  have hent := enter_eq (V := V) (cl := call V n) (n := n) (withF ib g h) [x, y] [] rfl
  rw [hent]
  have h1 := hN n (by omega)
  obtain ⟨ex, s', h2, h3, g3', g4', g5', g8', h4⟩ := iter_rel (body := exec V (call V n) n ib) (n := n)
    (R := fun i s => ∃ g3 g8, s = ⟨[x, y, .b false, g3, .i .i64 i, .i .i64 bs.length, y, .hp 1 0, g8], E.hw ((bs.take i).foldl add1 [])⟩)
    (Q := fun ex s' => ex = .ex 0 ∧ ∃ g3 g4 g5 g8, s' = ⟨[x, y, .b false, g3, g4, g5, y, .hp 1 0, g8], E.hw us⟩)
    bs.length (st := ⟨[x, y, .b false, .u, .i .i64 0, .i .i64 bs.length, y, .hp 1 0, .u], E.hw []⟩) (by omega) ⟨_, _, rfl⟩ (fun i s hi hs => by
      obtain ⟨g3, g8, rfl⟩ := hs
      have hr : (bs.map E.enc)[i]? = some (E.enc bs[i]) := by rw [List.getElem?_map, List.getElem?_eq_getElem hi]; rfl
      obtain ⟨s', h1, g3', g8', h2⟩ := hib V n x y y (bs.map E.enc) ((bs.take i).foldl add1 []) bs[i] i g3 g8 hy hr (by simp; omega)
      simp only [List.length_map] at h1 h2
      refine ⟨s', h1, g3', g8', ?_⟩
      rw [h2, List.take_succ_eq_append_getElem hi, List.foldl_append]
      rfl) (fun s hs => by
      obtain ⟨g3, g8, rfl⟩ := hs
      obtain ⟨s', h1, g3', g8', h2⟩ := hout V n x y y bs.length g3 g8 (E.hw ((bs.take bs.length).foldl add1 []))
      refine ⟨.ex 0, s', h1, by simp, rfl, g3', .i .i64 bs.length, .i .i64 bs.length, g8', ?_⟩
      rw [h2, List.take_length])
  subst h3; subst h4
  have hh0 : ∀ t : Heap, stAt ([.mp [], .bx [.mnil]]) (.hp 1 0) [.mp 0] = some [.mp [], .bx [.mp 0]] := fun _ => rfl
  have e0 : E.hw [] = [.mp [], .bx [.mp 0]] := rfl
  rw [e0] at h2
  simp only [withF, exec_seq, exec_block, exec_reg, seqK_nm, ops_cons, ops_nil, opsW_t, opsF_t, opsK_v, wants_none, fits_none, ev_l, ev_s, ev_c, ofO_some, ofH_some, step_mov, step_hal, step_st, stR_s, step_len, step_mkm, cells_mp, setSl, List.getD_cons_zero, List.getD_cons_succ, List.set_cons_zero, List.set_cons_succ, List.nil_append, List.cons_append, List.length_cons, List.length_nil, List.replicate_succ, List.replicate_zero, Nat.reduceSub, Nat.zero_add, exec_loop, hh0 [], hyl]
  simp only [h2, exec_seq, exec_ret, exec_reg, seqK_nm, blockK_ex, ops_cons, ops_nil, opsW_t, opsF_t, opsK_v, wants_none, fits_none, step_call, toR_ret, ev_l, ev_s, ofO_some, step_mov, step_un, un_not, step_mkf, setSl, List.getD_cons_zero, List.getD_cons_succ, List.set_cons_zero, List.set_cons_succ, List.nil_append, List.cons_append, List.map_cons, List.map_nil, if_true, h1, Bool.not_not]
  exact entK_rt (ds := [_]) rfl rfl

end
end Go.Dm

/-
  Arguments of pure calls: what they are frozen to, however the heap has grown.
-/
namespace Go.Dm

/-- In every later heap the cell d is frozen to d'. -/
def FrC (H : Heap) (d d' : D) : Prop := ∀ (m : Nat) (H1 : Heap), Gr H H1 → ∃ H2, freeze (m + 3) H1 d = some (d', H2) ∧ Gr H1 H2
def FrCs (H : Heap) (ds ds' : List D) : Prop := ∀ (m : Nat) (H1 : Heap), Gr H H1 → ∃ H2, freezeL (m + 4) H1 ds = some (ds', H2) ∧ Gr H1 H2
/-- .. an argument. -/
def FrA (H : Heap) (d d' : D) : Prop := ∀ (m : Nat) (H1 : Heap), Gr H H1 → ∃ H2, freeze (m + 6) H1 d = some (d', H2) ∧ Gr H1 H2
def FrAs (H : Heap) (ds ds' : List D) : Prop := ∀ (H1 : Heap), Gr H H1 → ∃ H2, freezeL deep H1 ds = some (ds', H2) ∧ Gr H1 H2

theorem FrC.gr {H H' : Heap} {d d' : D} (h : FrC H d d') (g : Gr H H') : FrC H' d d' := fun m H1 g1 => h m H1 (g.trans g1)
theorem FrA.gr {H H' : Heap} {d d' : D} (h : FrA H d d') (g : Gr H H') : FrA H' d d' := fun m H1 g1 => h m H1 (g.trans g1)
theorem FrC.flat {d : D} (h : d.flat = true) (H : Heap) : FrC H d d := fun m H1 _ => ⟨H1, flat_freeze h _ _, .refl _⟩
theorem FrA.flat {d : D} (h : d.flat = true) (H : Heap) : FrA H d d := fun m H1 _ => ⟨H1, flat_freeze h _ _, .refl _⟩
theorem FrC.a {H : Heap} {d d' : D} (h : FrC H d d') : FrA H d d' := fun m H1 g => h (m + 3) H1 g
theorem Sl.flat {w : Nat} {rows : List (List D)} {x : D} (h : Sl w rows x) : x.flat = true := by cases h <;> rfl

theorem FrCs.nil (H : Heap) : FrCs H [] [] := fun m H1 _ => ⟨H1, freezeL_nil _ _, .refl _⟩
theorem FrCs.cons {H : Heap} {d d' : D} {ds ds' : List D} (h : FrC H d d') (hs : FrCs H ds ds') : FrCs H (d :: ds) (d' :: ds') := fun m H1 g => by
  obtain ⟨H2, e1, g1⟩ := h m H1 g
  obtain ⟨H3, e2, g2⟩ := hs m H2 (g.trans g1)
  refine ⟨H3, ?_, g1.trans g2⟩
  rw [freezeL_cons, e1]; simp only; rw [e2]
theorem FrCs.flat {H : Heap} : ∀ {ds : List D}, (∀ d ∈ ds, d.flat = true) → FrCs H ds ds
  | [], _ => .nil H
  | d :: ds, h => .cons (.flat (h d List.mem_cons_self) H) (FrCs.flat fun e he => h e (List.mem_cons_of_mem _ he))
theorem FrA.ag {H : Heap} {ds ds' : List D} (h : FrCs H ds ds') : FrA H (.ag ds) (.ag ds') := fun m H1 g => by
  obtain ⟨H2, e, g1⟩ := h (m + 1) H1 g
  refine ⟨H2, ?_, g1⟩
  rw [freeze_succ]; simp only; rw [e]
theorem FrAs.nil (H : Heap) : FrAs H [] [] := fun H1 _ => ⟨H1, freezeL_nil _ _, .refl _⟩
theorem FrAs.cons {H : Heap} {d d' : D} {ds ds' : List D} (h : FrA H d d') (hs : FrAs H ds ds') : FrAs H (d :: ds) (d' :: ds') := fun H1 g => by
  obtain ⟨H2, e1, g1⟩ := h 5 H1 g
  obtain ⟨H3, e2, g2⟩ := hs H2 (g.trans g1)
  refine ⟨H3, ?_, g1.trans g2⟩
  have e1' : freeze 11 H1 d = some (d', H2) := e1
  have e2' : freezeL 12 H2 ds = some (ds', H3) := e2
  show freezeL 12 H1 (d :: ds) = _
  rw [freezeL_cons, e1']; simp only; rw [e2']

/-- A slice of the heap, or an empty one. -/
inductive Ms (w : Nat) (rows : List (List D)) (H : Heap) : D → Prop
  | nil (h : rows = []) : Ms w rows H .nil
  | z (h : rows = []) : Ms w rows H .z
  | mu (a : Nat) (h : ∃ kc lk, arr H a rows.length = some (w, rows, kc, true, lk)) (ha : a < H.length) : Ms w rows H (.mu a rows.length 0 rows.length)

theorem Ms.gr {w : Nat} {rows : List (List D)} {H H' : Heap} {d : D} (h : Ms w rows H d) (g : Gr H H') : Ms w rows H' d := by
  cases h with
  | nil h => exact .nil h
  | z h => exact .z h
  | mu a h ha =>
    obtain ⟨kc, lk, h⟩ := h
    obtain ⟨l', hl⟩ := arr_sb g.2 ha h
    exact .mu a ⟨kc, l', hl⟩ (Nat.lt_of_lt_of_le ha g.1)
theorem Ms.fr {w : Nat} {rows : List (List D)} {H : Heap} {d : D} (h : Ms w rows H d) : ∃ d', FrC H d d' ∧ Sl w rows d' := by
  cases h with
  | nil h => exact ⟨.nil, .flat rfl H, .nil h⟩
  | z h => exact ⟨.z, .flat rfl H, .z h⟩
  | mu a h ha =>
    obtain ⟨kc, lk, h⟩ := h
    refine ⟨.im w rows, fun m H1 g => ?_, .im⟩
    obtain ⟨l', hl⟩ := arr_sb g.2 ha h
    refine ⟨H1.set a (.ar w rows kc true true), ?_, .lock hl _⟩
    rw [freeze_succ]
    simp [hl, List.take_of_length_le]
theorem Ms.len {w : Nat} {rows : List (List D)} {H H' : Heap} {d : D} (h : Ms w rows H d) : lenD H' 1 d = some (.i .i64 rows.length) := by
  cases h with
  | nil h => subst h; rfl
  | z h => subst h; rfl
  | mu a h ha => rfl

/-- New memory laid. -/
theorem place_ow (w : Nat) (rows : List (List D)) (H : Heap) : Ms w rows (placeC (owD w rows) H).2 (placeC (owD w rows) H).1 := by
  cases rows with
  | nil => exact .nil rfl
  | cons r rows =>
    refine .mu H.length ⟨none, false, ?_⟩ (by simp [placeC, owD])
    simp [placeC, owD, Dm.arr]

/-- A pure call that gives a truth or a number. -/
theorem Ret.flat {V : VProg} {f : FuncId} {vf : VFunc} (hf : V.fn f = some vf) (hp : vf.pure = true) {H : Heap} {args ds : List D} {d : D} (ha : FrAs H args ds) (h : PRet V f ds d) (hd : d.flat = true) : ∃ H', Ret V f args H d H' ∧ Gr H H' := by
  obtain ⟨H1, e, g⟩ := ha H (.refl _)
  have := Ret.pure hf hp e h
  have hpl : place d H1 = (d, H1) := by
    cases d <;> first | rfl | (cases hd; done)
  rw [hpl] at this
  exact ⟨H1, this, g⟩
/-- .. a slice. -/
theorem Ret.slice {V : VProg} {f : FuncId} {vf : VFunc} (hf : V.fn f = some vf) (hp : vf.pure = true) {H : Heap} {args ds : List D} {w : Nat} {rows : List (List D)} (ha : FrAs H args ds) (h : PRet V f ds (owD w rows)) : ∃ d H', Ret V f args H d H' ∧ Gr H H' ∧ Ms w rows H' d := by
  obtain ⟨H1, e, g⟩ := ha H (.refl _)
  have := Ret.pure hf hp e h
  have hpl : place (owD w rows) H1 = placeC (owD w rows) H1 := by cases rows <;> rfl
  rw [hpl] at this
  exact ⟨_, _, this, g.trans (placeC_gr _ _), place_ow _ _ _⟩
/-- .. a struct of three slices. -/
theorem Ret.three {V : VProg} {f : FuncId} {vf : VFunc} (hf : V.fn f = some vf) (hp : vf.pure = true) {H : Heap} {args ds : List D} {w1 w2 w3 : Nat} {r1 r2 r3 : List (List D)} (ha : FrAs H args ds) (h : PRet V f ds (.ag [owD w1 r1, owD w2 r2, owD w3 r3])) :
    ∃ d1 d2 d3 H', Ret V f args H (.ag [d1, d2, d3]) H' ∧ Gr H H' ∧ Ms w1 r1 H' d1 ∧ Ms w2 r2 H' d2 ∧ Ms w3 r3 H' d3 := by
  obtain ⟨H1, e, g⟩ := ha H (.refl _)
  have := Ret.pure hf hp e h
  have g1 := placeC_gr (owD w1 r1) H1
  have g2 := placeC_gr (owD w2 r2) (placeC (owD w1 r1) H1).2
  have g3 := placeC_gr (owD w3 r3) (placeC (owD w2 r2) (placeC (owD w1 r1) H1).2).2
  exact ⟨_, _, _, _, this, g.trans (g1.trans (g2.trans g3)), (place_ow w1 r1 H1).gr (g2.trans g3), (place_ow w2 r2 _).gr g3, place_ow w3 r3 _⟩

end Go.Dm

/-
  Arguments of pure calls, once more: arrays that are locked stay so, and calls upon them leave the heap alone.
-/
namespace Go.Dm

inductive Lu : Option Blk → Option Blk → Prop
  | same (b : Option Blk) : Lu b b
  | lock (w : Nat) (rows : List (List D)) (c : Option Nat) (p l : Bool) : Lu (some (.ar w rows c p l)) (some (.ar w rows c p true))
theorem Lu.lk {x y : Option Blk} (h : Lu x y) : Lk x y := by
  cases h with
  | same => exact .same _
  | lock => exact .lock ..
theorem Lu.trans {x y zc : Option Blk} (h : Lu x y) (h' : Lu y zc) : Lu x zc := by
  cases h with
  | same => exact h'
  | lock w rows c p l =>
    cases h' with
    | same => exact .lock ..
    | lock => exact .lock ..

/-- Grown: more blocks, more locks, none undone. -/
def Gl (H H' : Heap) : Prop := H.length ≤ H'.length ∧ ∀ b, b < H.length → Lu H[b]? H'[b]?
theorem Gl.gr {H H' : Heap} (h : Gl H H') : Gr H H' := ⟨h.1, fun b hb => (h.2 b hb).lk⟩
theorem Gl.refl (H : Heap) : Gl H H := ⟨Nat.le_refl _, fun _ _ => .same _⟩
theorem Gl.trans {H H' H'' : Heap} (h : Gl H H') (h' : Gl H' H'') : Gl H H'' := ⟨Nat.le_trans h.1 h'.1, fun b hb => (h.2 b hb).trans (h'.2 b (Nat.lt_of_lt_of_le hb h.1))⟩
theorem Gl.push (H t : Heap) : Gl H (H ++ t) := ⟨by simp, fun b hb => by rw [List.getElem?_append_left hb]; exact .same _⟩
theorem Gl.lock {H : Heap} {a n w : Nat} {rows : List (List D)} {c : Option Nat} {p l : Bool} (h : arr H a n = some (w, rows, c, p, l)) : Gl H (H.set a (.ar w rows c p true)) := by
  refine ⟨by simp, fun b hb => ?_⟩
  by_cases hab : a = b
  · subst hab
    have := (arr_eq h).1
    rw [this, List.getElem?_set_self hb]
    exact .lock ..
  · rw [List.getElem?_set_ne hab]; exact .same _
theorem Gl.place (w : Nat) (rows : List (List D)) (H : Heap) : Gl H (placeC (owD w rows) H).2 := by
  cases rows with
  | nil => exact .refl _
  | cons r rows => exact .push _ _

/-- A cell that the heap H freezes to d' (the heap becomes H'), and that every later heap freezes so, and stays itself. -/
def Fl (H : Heap) (d d' : D) (H' : Heap) : Prop := Gl H H' ∧ (∀ m, freeze (m + 6) H d = some (d', H')) ∧ ∀ (m : Nat) (H1 : Heap), Gl H' H1 → freeze (m + 6) H1 d = some (d', H1)
/-- A cell that every later heap freezes to d' and stays itself. -/
def Fx (H : Heap) (d d' : D) : Prop := ∀ (m : Nat) (H1 : Heap), Gl H H1 → freeze (m + 6) H1 d = some (d', H1)

theorem Fx.gl {H H' : Heap} {d d' : D} (h : Fx H d d') (g : Gl H H') : Fx H' d d' := fun m H1 g1 => h m H1 (g.trans g1)
theorem Fx.fl {H : Heap} {d d' : D} (h : Fx H d d') : Fl H d d' H := ⟨.refl _, fun m => h m H (.refl _), h⟩
theorem Fx.flat {d : D} (h : d.flat = true) (H : Heap) : Fx H d d := fun m H1 _ => flat_freeze h _ _
theorem Fl.fx {H H' : Heap} {d d' : D} (h : Fl H d d' H') : Fx H' d d' := h.2.2

/-- Three slices of the heap. -/
def Ms3 (w1 w2 w3 : Nat) (r1 r2 r3 : List (List D)) (H : Heap) (d : D) : Prop := ∃ x y zc, d = .ag [x, y, zc] ∧ Ms w1 r1 H x ∧ Ms w2 r2 H y ∧ Ms w3 r3 H zc

theorem ms_fl {w : Nat} {rows : List (List D)} {H : Heap} {d : D} (h : Ms w rows H d) : ∃ d' H', Gl H H' ∧ (∀ m, freeze (m + 1) H d = some (d', H')) ∧ (∀ (m : Nat) (H1 : Heap), Gl H' H1 → freeze (m + 1) H1 d = some (d', H1)) ∧ Sl w rows d' := by
  cases h with
  | nil h => exact ⟨.nil, H, .refl _, fun m => rfl, fun m H1 _ => rfl, .nil h⟩
  | z h => exact ⟨.z, H, .refl _, fun m => rfl, fun m H1 _ => rfl, .z h⟩
  | mu a h ha =>
    obtain ⟨kc, lk, h⟩ := h
    refine ⟨.im w rows, H.set a (.ar w rows kc true true), .lock h, fun m => ?_, fun m H1 g => ?_, .im⟩
    · rw [freeze_succ]
      simp [h, List.take_of_length_le]
    · have hlen := (arr_eq h).2
      have e1 : (H.set a (.ar w rows kc true true))[a]? = some (.ar w rows kc true true) := List.getElem?_set_self ha
      have := g.2 a (by simpa using ha)
      rw [e1] at this
      have e2 : H1[a]? = some (.ar w rows kc true true) := by
        generalize H1[a]? = y at this
        cases this <;> rfl
      have e3 : arr H1 a rows.length = some (w, rows, kc, true, true) := by simp [arr, e2]
      have hlt : a < H1.length := lt_of_get e2
      have e4 : H1.set a (.ar w rows kc true true) = H1 := by
        apply List.ext_getElem?
        intro i
        by_cases hi : a = i
        · subst hi; rw [List.getElem?_set_self hlt, e2]
        · rw [List.getElem?_set_ne hi]
      rw [freeze_succ]
      simp [e3, List.take_of_length_le, e4]

theorem Ms.gl {w : Nat} {rows : List (List D)} {H H' : Heap} {d : D} (h : Ms w rows H d) (g : Gl H H') : Ms w rows H' d := h.gr g.gr

theorem ms3_fl {w1 w2 w3 : Nat} {r1 r2 r3 : List (List D)} {H : Heap} {d : D} (h : Ms3 w1 w2 w3 r1 r2 r3 H d) : ∃ x y zc H', Fl H d (.ag [x, y, zc]) H' ∧ Sl w1 r1 x ∧ Sl w2 r2 y ∧ Sl w3 r3 zc := by
  obtain ⟨x, y, zc, rfl, h1, h2, h3⟩ := h
  obtain ⟨x', H1, g1, e1, f1, s1⟩ := ms_fl h1
  obtain ⟨y', H2, g2, e2, f2, s2⟩ := ms_fl (h2.gl g1)
  obtain ⟨zc', H3, g3, e3, f3, s3⟩ := ms_fl (h3.gl (g1.trans g2))
  refine ⟨x', y', zc', H3, ⟨g1.trans (g2.trans g3), fun m => ?_, fun m K gk => ?_⟩, s1, s2, s3⟩
  · have a1 := e1 (m + 3)
    have a2 := e2 (m + 3)
    have a3 := e3 (m + 3)
    rw [freeze_succ]
    simp only [freezeL_cons, freezeL_nil, a1, a2, a3]
  · have a1 := f1 (m + 3) K ((g2.trans g3).trans gk)
    have a2 := f2 (m + 3) K (g3.trans gk)
    have a3 := f3 (m + 3) K gk
    rw [freeze_succ]
    simp only [freezeL_cons, freezeL_nil, a1, a2, a3]

/-- A list of arguments, each frozen in its turn. -/
theorem fls_nil (H : Heap) : freezeL deep H [] = some ([], H) := freezeL_nil _ _
theorem fls_cons {H H1 H2 : Heap} {d d' : D} {ds ds' : List D} (h : ∀ m, freeze (m + 6) H d = some (d', H1)) (hs : freezeL deep H1 ds = some (ds', H2)) : freezeL deep H (d :: ds) = some (d' :: ds', H2) := by
  have e1 : freeze 11 H d = some (d', H1) := h 5
  have e2 : freezeL 12 H1 ds = some (ds', H2) := hs
  show freezeL 12 H (d :: ds) = _
  rw [freezeL_cons, e1]; simp only; rw [e2]
theorem Fx.at {H : Heap} {d d' : D} (h : Fx H d d') : ∀ m, freeze (m + 6) H d = some (d', H) := fun m => h m H (.refl _)

/-- A pure call that gives a truth. -/
theorem Ret.truth {V : VProg} {f : FuncId} {vf : VFunc} (hf : V.fn f = some vf) (hp : vf.pure = true) {H H1 : Heap} {args ds : List D} {b : Bool} (hfr : freezeL deep H args = some (ds, H1)) (h : PRet V f ds (.b b)) : Ret V f args H (.b b) H1 := Ret.pure hf hp hfr h
theorem Ret.sl {V : VProg} {f : FuncId} {vf : VFunc} (hf : V.fn f = some vf) (hp : vf.pure = true) {H H1 : Heap} {args ds : List D} {w : Nat} {rows : List (List D)} (hfr : freezeL deep H args = some (ds, H1)) (h : PRet V f ds (owD w rows)) :
    ∃ d H2, Ret V f args H d H2 ∧ Gl H1 H2 ∧ Ms w rows H2 d := by
  have := Ret.pure hf hp hfr h
  have hpl : place (owD w rows) H1 = placeC (owD w rows) H1 := by cases rows <;> rfl
  rw [hpl] at this
  exact ⟨_, _, this, .place w rows H1, place_ow _ _ _⟩
theorem Ret.ms3 {V : VProg} {f : FuncId} {vf : VFunc} (hf : V.fn f = some vf) (hp : vf.pure = true) {H H1 : Heap} {args ds : List D} {w1 w2 w3 : Nat} {r1 r2 r3 : List (List D)} (hfr : freezeL deep H args = some (ds, H1)) (h : PRet V f ds (.ag [owD w1 r1, owD w2 r2, owD w3 r3])) :
    ∃ d1 d2 d3 H2, Ret V f args H (.ag [d1, d2, d3]) H2 ∧ Gl H1 H2 ∧ Ms3 w1 w2 w3 r1 r2 r3 H2 (.ag [d1, d2, d3]) := by
  have := Ret.pure hf hp hfr h
  have g1 := Gl.place w1 r1 H1
  have g2 := Gl.place w2 r2 (placeC (owD w1 r1) H1).2
  have g3 := Gl.place w3 r3 (placeC (owD w2 r2) (placeC (owD w1 r1) H1).2).2
  exact ⟨_, _, _, _, this, g1.trans (g2.trans g3), _, _, _, rfl, (place_ow w1 r1 H1).gl (g2.trans g3), (place_ow w2 r2 _).gl g3, place_ow w3 r3 _⟩

end Go.Dm

/-
  Loops that end early; functions of package slices over functions that add to the heap.
-/
namespace Go.Dm

/-- A loop that asks of each index in turn, and leaves at the first of which p is true. -/
theorem any_loop {body : St → Ex × St} (p : Nat → Bool) (R : Nat → St → Prop) (Q : Bool → Ex → St → Prop) (k : Nat) {n : Nat} {st : St} (hn : k < n) (h0 : R 0 st)
    (step : ∀ i s, i < k → p i = false → R i s → ∃ s', body s = (.nm, s') ∧ R (i + 1) s')
    (hit : ∀ i s, i < k → p i = true → R i s → ∃ ex s', body s = (ex, s') ∧ ex ≠ .nm ∧ Q true ex s')
    (out : ∀ s, R k s → ∃ ex s', body s = (ex, s') ∧ ex ≠ .nm ∧ Q false ex s') :
    ∃ ex s', iter body n st = (ex, s') ∧ Q ((List.range k).any p) ex s' := by
  cases ha : (List.range k).any p with
  | true =>
    have hlt : (List.range k).findIdx p < (List.range k).length := List.findIdx_lt_length.2 (by simpa using ha)
    generalize hm : (List.range k).findIdx p = m at hlt
    have hmk : m < k := by simpa using hlt
    have hpm : p m = true := by
      have := List.findIdx_getElem (p := p) (xs := List.range k) (w := by omega)
      simpa [hm] using this
    obtain ⟨ex, s', h1, h2⟩ := iter_rel (n := n) (R := R) (Q := fun ex s' => Q true ex s') m (by omega) h0 (fun i s hi hs => step i s (by omega) (by
      have := List.not_of_lt_findIdx (p := p) (xs := List.range k) (i := i) (by omega)
      simpa using this) hs) (fun s hs => hit m s hmk hpm hs)
    exact ⟨ex, s', h1, h2⟩
  | false =>
    obtain ⟨ex, s', h1, h2⟩ := iter_rel (n := n) (R := R) (Q := fun ex s' => Q false ex s') k hn h0 (fun i s hi hs => step i s hi (by
      have := List.any_eq_false.1 ha i (by simpa using hi)
      simpa using this) hs) out
    exact ⟨ex, s', h1, h2⟩

theorem any_range {α : Type} (l : List α) (q : α → Bool) (p : Nat → Bool) (h : ∀ i (hi : i < l.length), p i = q l[i]) : (List.range l.length).any p = l.any q := by
  rw [Bool.eq_iff_iff, List.any_eq_true, List.any_eq_true]
  constructor
  · rintro ⟨i, hi, hp⟩
    have hi' : i < l.length := by simpa using hi
    exact ⟨l[i], List.getElem_mem hi', by rw [← h i hi']; exact hp⟩
  · rintro ⟨a, ha, hq⟩
    obtain ⟨i, hi, rfl⟩ := List.getElem_of_mem ha
    exact ⟨i, by simpa using hi, by rw [h i hi]; exact hq⟩

/-- One call behind the other: the heaps between. -/
theorem heaps {V : VProg} {J : Heap → Prop} {g : FuncId} {cp : List D} {p : List D → Bool} {key : List D → D} : ∀ (rows : List (List D)) (H : Heap), J H → (∀ r ∈ rows, ∀ H, J H → ∃ H', Ret V g (key r :: cp) H (.b (p r)) H' ∧ J H') →
    ∃ (hs : Nat → Heap) (N : Nat), hs 0 = H ∧ (∀ i, i ≤ rows.length → J (hs i)) ∧ ∀ i (hi : i < rows.length) n, N ≤ n → call V n g (key rows[i] :: cp) (hs i) = .ret (.b (p rows[i])) (hs (i + 1))
  | [], H, hJ, _ => ⟨fun _ => H, 0, rfl, fun i _ => hJ, fun i hi => absurd hi (by simp)⟩
  | r :: rows, H, hJ, hg => by
    obtain ⟨H1, ⟨N1, h1⟩, hJ1⟩ := hg r List.mem_cons_self H hJ
    obtain ⟨hs, N2, e0, e1, e2⟩ := heaps rows H1 hJ1 (fun r hr => hg r (List.mem_cons_of_mem _ hr))
    refine ⟨fun | 0 => H | i + 1 => hs i, max N1 N2, rfl, fun i hi => ?_, fun i hi n hn => ?_⟩
    · cases i with
      | zero => exact hJ
      | succ i => exact e1 i (by simpa using hi)
    · cases i with
      | zero => show call V n g (key r :: cp) H = .ret _ (hs 0); rw [e0]; exact h1 n (by omega)
      | succ i => exact e2 i (by simpa using hi) n (by omega)

theorem idx_retJ {V : VProg} {f : FuncId} {w : Nat} {agg : Bool} (hf : V.fn f = some (idxF w agg)) {x : D} {rows : List (List D)} (hx : Sl w rows x) {J : Heap → Prop} {H : Heap} (hJ : J H) {g : FuncId} {cp : List D} (p : List D → Bool) (key : List D → D)
    (hkey : ∀ r ∈ rows, cut r 0 w = some r ∧ val agg r = some (key r)) (hg : ∀ r ∈ rows, ∀ H, J H → ∃ H', Ret V g (key r :: cp) H (.b (p r)) H' ∧ J H') (hlen : rows.length < 2 ^ 62) :
    ∃ (m : Int) (H' : Heap), decide (0 ≤ m) = rows.any p ∧ J H' ∧ Ret V f [x, .fn (.func g) [] cp] H (.i .i64 m) H' := by
  obtain ⟨hs, N, e0, e1, hN⟩ := heaps rows H hJ hg
  have key0 : ∀ n, N + rows.length + 1 ≤ n → ∃ ex s', iter (exec V (call V n) n (idxBody w agg)) n ⟨[x, .fn (.func g) [] cp, .i .i64 0, .u, .u, .i .i64 0, .i .i64 rows.length, .u], H⟩ = (ex, s') ∧
      ((rows.any p = true ∧ ex = .rt ∧ ∃ (i : Nat) (q : D) (rest : List D), i ≤ rows.length ∧ i = (rows.findIdx p) + 1 ∧ s' = ⟨[x, q, .i .i64 (rows.findIdx p : Int)] ++ rest, hs i⟩) ∨ (rows.any p = false ∧ ex = .ex 0 ∧ ∃ g1 g2 g3 g4 g5 g6, s' = ⟨[x, g6, .i .i64 0, g1, g2, g3, g4, g5], hs rows.length⟩)) := fun n hn => by
    have hl := hx.len (H := H)
    have hl0 : decide (((rows.length : Nat) : Int) < (rows.length : Int)) = false := by simp
    have round : ∀ (i : Nat) (g1 g2 g3 : D) (hi : i < rows.length), p rows[i] = false → ∃ s', exec V (call V n) n (idxBody w agg) ⟨[x, .fn (.func g) [] cp, .i .i64 0, g1, g2, .i .i64 i, .i .i64 rows.length, g3], hs i⟩ = (.nm, s') ∧
        ∃ g1' g2' g3', s' = ⟨[x, .fn (.func g) [] cp, .i .i64 0, g1', g2', .i .i64 (i + 1 : Nat), .i .i64 rows.length, g3'], hs (i + 1)⟩ := fun i g1 g2 g3 hi hp => by
      have hr : rows[i] ∈ rows := List.getElem_mem hi
      obtain ⟨k1, k2⟩ := hkey _ hr
      have k3 := hN i hi n (by omega)
      have k4 := hx.elem (H := hs i) (k := .i64) hi
      have hw : IntKind.i64.wrap ((i : Int) + 1) = ((i + 1 : Nat) : Int) := by rw [IntWalk.i64_in _ (by omega)]; omega
      have hd : decide ((i : Int) < (rows.length : Int)) = true := by simpa using hi
      rw [hp] at k3
      refine ⟨_, ?_, .b true, .b false, .i .i64 i, rfl⟩
      simp only [idxBody, exec_seq, exec_cond, exec_block, exec_skip, exec_reg, seqK_nm, condK_t, condK_f, blockK_nm, ops_cons, ops_nil, opsW_t, opsF_t, opsK_v, wants_none, fits_none, step_calv, calK_f, toR_ret, ev_l, ev_s, ev_c, ofO_some, step_mov, step_iad, step_ld, ldR_s, ld_ip, step_bin, bin_add, bin_lss, setSl, List.getD_cons_zero, List.getD_cons_succ, List.set_cons_zero, List.set_cons_succ, List.nil_append, List.cons_append, List.map_cons, List.map_nil, hd, k4, k1, k2, k3, hw]
    have hit : ∀ (i : Nat) (g1 g2 g3 : D) (hi : i < rows.length), p rows[i] = true → ∃ s', exec V (call V n) n (idxBody w agg) ⟨[x, .fn (.func g) [] cp, .i .i64 0, g1, g2, .i .i64 i, .i .i64 rows.length, g3], hs i⟩ = (.rt, s') ∧
        ∃ g1' g2' g3', s' = ⟨[x, .fn (.func g) [] cp, .i .i64 i, g1', g2', .i .i64 i, .i .i64 rows.length, g3'], hs (i + 1)⟩ := fun i g1 g2 g3 hi hp => by
      have hr : rows[i] ∈ rows := List.getElem_mem hi
      obtain ⟨k1, k2⟩ := hkey _ hr
      have k3 := hN i hi n (by omega)
      have k4 := hx.elem (H := hs i) (k := .i64) hi
      have hd : decide ((i : Int) < (rows.length : Int)) = true := by simpa using hi
      rw [hp] at k3
      refine ⟨_, ?_, .b true, .b true, .i .i64 i, rfl⟩
      simp only [idxBody, exec_seq, exec_cond, exec_block, exec_skip, exec_ret, exec_reg, seqK_nm, seqK_rt, condK_t, blockK_rt, ops_cons, ops_nil, opsW_t, opsF_t, opsK_v, wants_none, fits_none, step_calv, calK_f, toR_ret, ev_l, ev_s, ofO_some, step_mov, step_iad, step_ld, ldR_s, ld_ip, step_bin, bin_lss, setSl, List.getD_cons_zero, List.getD_cons_succ, List.set_cons_zero, List.set_cons_succ, List.nil_append, List.cons_append, List.map_cons, List.map_nil, hd, k4, k1, k2, k3]
    have inv : ∀ k, k ≤ rows.length → (∀ j (hj : j < rows.length), j < k → p rows[j] = false) → ∀ (Q : Ex → St → Prop), (∀ s, (∃ g1 g2 g3, s = (⟨[x, .fn (.func g) [] cp, .i .i64 0, g1, g2, .i .i64 k, .i .i64 rows.length, g3], hs k⟩ : St)) → ∃ ex s', exec V (call V n) n (idxBody w agg) s = (ex, s') ∧ ex ≠ .nm ∧ Q ex s') →
        ∃ ex s', iter (exec V (call V n) n (idxBody w agg)) n ⟨[x, .fn (.func g) [] cp, .i .i64 0, .u, .u, .i .i64 0, .i .i64 rows.length, .u], H⟩ = (ex, s') ∧ Q ex s' := fun k hk hno Q he =>
      iter_rel (R := fun i s => ∃ g1 g2 g3, s = ⟨[x, .fn (.func g) [] cp, .i .i64 0, g1, g2, .i .i64 i, .i .i64 rows.length, g3], hs i⟩) Q k (by omega) ⟨.u, .u, .u, by rw [e0]; rfl⟩ (fun i s hi hs => by
        obtain ⟨g1, g2, g3, rfl⟩ := hs
        exact round i g1 g2 g3 (by omega) (hno i (by omega) hi)) he
    cases ha : rows.any p with
    | true =>
      have hlt : rows.findIdx p < rows.length := List.findIdx_lt_length.2 (by simpa using ha)
      obtain ⟨ex, s', h1, h2⟩ := inv (rows.findIdx p) (by omega) (fun j hj hjk => by simpa using List.not_of_lt_findIdx hjk) (fun ex s' => ex = .rt ∧ ∃ (i : Nat) (q : D) (rest : List D), i ≤ rows.length ∧ i = (rows.findIdx p) + 1 ∧ s' = ⟨[x, q, .i .i64 (rows.findIdx p : Int)] ++ rest, hs i⟩) (fun s hs => by
        obtain ⟨g1, g2, g3, rfl⟩ := hs
        obtain ⟨s', h1, g1', g2', g3', rfl⟩ := hit (rows.findIdx p) g1 g2 g3 hlt (List.findIdx_getElem (w := hlt))
        exact ⟨_, _, h1, by simp, rfl, _, _, _, hlt, rfl, rfl⟩)
      exact ⟨ex, s', h1, .inl ⟨rfl, h2⟩⟩
    | false =>
      obtain ⟨ex, s', h1, h2⟩ := inv rows.length (Nat.le_refl _) (fun j hj _ => by
        have := List.any_eq_false.1 ha rows[j] (List.getElem_mem hj)
        simpa using this) (fun ex s' => ex = .ex 0 ∧ ∃ g1 g2 g3 g4 g5 g6, s' = ⟨[x, g6, .i .i64 0, g1, g2, g3, g4, g5], hs rows.length⟩) (fun s hs => by
        obtain ⟨g1, g2, g3, rfl⟩ := hs
        refine ⟨_, _, by simp only [idxBody, exec_seq, exec_cond, exec_exit, exec_reg, seqK_nm, seqK_ex, condK_f, ops_cons, ops_nil, opsW_t, opsF_t, opsK_v, wants_none, fits_none, ev_s, ofO_some, step_bin, bin_lss, setSl, List.getD_cons_zero, List.getD_cons_succ, List.set_cons_zero, List.set_cons_succ, List.nil_append, hl0]; rfl, by simp, rfl, _, _, _, _, _, _, rfl⟩)
      exact ⟨ex, s', h1, .inr ⟨rfl, h2⟩⟩
  cases ha : rows.any p with
  | true =>
    have hlt : rows.findIdx p < rows.length := List.findIdx_lt_length.2 (by simpa using ha)
    refine ⟨(rows.findIdx p : Int), hs (rows.findIdx p + 1), by simp, e1 _ hlt, .impure hf rfl (N + rows.length + 1) (fun n hn => ?_)⟩
    obtain ⟨ex, s', h1, h2⟩ := key0 n hn
    have hl := hx.len (H := H)
    have hent := enter_eq (V := V) (cl := call V n) (n := n) (idxF w agg) [x, .fn (.func g) [] cp] H rfl
    rw [hent]
    rcases h2 with ⟨_, rfl, i, q, rest, _, rfl, rfl⟩ | ⟨h, _⟩
    · simp only [idxF, exec_seq, exec_block, exec_reg, seqK_nm, seqK_rt, blockK_rt, ops_cons, ops_nil, opsW_t, opsF_t, opsK_v, wants_none, fits_none, ev_l, ev_s, ev_c, ofO_some, step_mov, step_len, setSl, List.getD_cons_zero, List.set_cons_zero, List.set_cons_succ, List.nil_append, List.cons_append, List.replicate_succ, List.replicate_zero, Nat.reduceSub, exec_loop, hl, h1]
      exact entK_rt (ds := [_]) rfl rfl
    · rw [ha] at h; cases h
  | false =>
    refine ⟨-1, hs rows.length, by simp, e1 _ (Nat.le_refl _), .impure hf rfl (N + rows.length + 1) (fun n hn => ?_)⟩
    obtain ⟨ex, s', h1, h2⟩ := key0 n hn
    have hl := hx.len (H := H)
    have hent := enter_eq (V := V) (cl := call V n) (n := n) (idxF w agg) [x, .fn (.func g) [] cp] H rfl
    rw [hent]
    rcases h2 with ⟨h, _⟩ | ⟨_, rfl, g1, g2, g3, g4, g5, g6, rfl⟩
    · rw [ha] at h; cases h
    · simp only [idxF, exec_seq, exec_block, exec_ret, exec_reg, seqK_nm, blockK_ex, ops_cons, ops_nil, opsW_t, opsF_t, opsK_v, wants_none, fits_none, ev_l, ev_s, ev_c, ofO_some, step_mov, step_len, setSl, List.getD_cons_zero, List.set_cons_zero, List.set_cons_succ, List.nil_append, List.cons_append, List.replicate_succ, List.replicate_zero, Nat.reduceSub, if_true, exec_loop, hl, h1]
      exact entK_rt (ds := [_]) rfl rfl

theorem cf_retJ {V : VProg} {f h : FuncId} {w : Nat} {agg : Bool} (hf : V.fn f = some (cfF h)) (hh : V.fn h = some (idxF w agg)) {x : D} {rows : List (List D)} (hx : Sl w rows x) {J : Heap → Prop} {H : Heap} (hJ : J H) {g : FuncId} {cp : List D} (p : List D → Bool) (key : List D → D)
    (hkey : ∀ r ∈ rows, cut r 0 w = some r ∧ val agg r = some (key r)) (hg : ∀ r ∈ rows, ∀ H, J H → ∃ H', Ret V g (key r :: cp) H (.b (p r)) H' ∧ J H') (hlen : rows.length < 2 ^ 62) :
    ∃ H', J H' ∧ Ret V f [x, .fn (.func g) [] cp] H (.b (rows.any p)) H' := by
  obtain ⟨m, H', hm, hJ', N, hN⟩ := idx_retJ hh hx hJ p key hkey hg hlen
  refine ⟨H', hJ', .impure hf rfl N (fun n hn => ?_)⟩
  have h1 := hN n hn
  have hent := enter_eq (V := V) (cl := call V n) (n := n) (cfF h) [x, .fn (.func g) [] cp] H rfl
  rw [hent]
  simp only [cfF, exec_seq, exec_ret, exec_reg, seqK_nm, ops_cons, ops_nil, opsW_t, opsF_t, opsK_v, wants_none, fits_none, step_call, toR_ret, ev_l, ev_s, ev_c, ofO_some, step_mov, step_bin, bin_geq, setSl, List.getD_cons_zero, List.getD_cons_succ, List.set_cons_zero, List.set_cons_succ, List.nil_append, List.cons_append, List.map_cons, List.map_nil, List.replicate_succ, List.replicate_zero, Nat.reduceSub, h1, hm]
  exact entK_rt (ds := [_]) rfl rfl
end Go.Dm

/-
  Calls of pure functions with their fuel told; growth that spares some arrays; slices that are read where they lie; appending.
-/
namespace Go.Dm

/-- A pure function's run, its fuel told. -/
def PN (V : VProg) (N : Nat) (f : FuncId) (ds : List D) (d : D) : Prop := pcall V N f ds = .ret d
def RN (V : VProg) (N : Nat) (f : FuncId) (args : List D) (H : Heap) (d : D) (H' : Heap) : Prop := ∀ n, N ≤ n → call V n f args H = .ret d H'

theorem PN.of {V : VProg} {f : FuncId} {vf : VFunc} {ds : List D} {d0 d : D} {H : Heap} (hf : V.fn f = some vf) (N : Nat) (h : ∀ n, N ≤ n → enter V (call V n) n vf ds [] = .ret d0 H) (ha : apart (mus d0) = true) (hs : settle H d0 = some d) : PN V (N + 1) f ds d := by
  simp only [PN, pcall, hf, pureRun, h N (Nat.le_refl _), ha, if_true, hs]
theorem PN.pret {V : VProg} {N : Nat} {f : FuncId} {ds : List D} {d : D} (h : PN V N f ds d) : PRet V f ds d := ⟨N, h⟩
theorem PN.rn {V : VProg} {N : Nat} {f : FuncId} {vf : VFunc} {args ds : List D} {H H1 : Heap} {d : D} (hf : V.fn f = some vf) (hp : vf.pure = true) (hfr : freezeL deep H args = some (ds, H1)) (h : PN V N f ds d) : RN V N f args H (place d H1).1 (place d H1).2 := by
  cases N with
  | zero => cases h
  | succ n =>
    refine fun m hm => call_mono V (n + 1) m hm _ _ _ _ _ ?_
    simp only [PN, pcall, hf] at h
    simp only [call, hf, hp, hfr, h]
theorem RN.ret {V : VProg} {N : Nat} {f : FuncId} {args : List D} {H : Heap} {d : D} {H' : Heap} (h : RN V N f args H d H') : Ret V f args H d H' := ⟨N, h⟩
theorem place_flat {d : D} (h : d.flat = true) (H : Heap) : place d H = (d, H) := by
  cases d <;> first | rfl | (cases h; done)
theorem PN.flat {V : VProg} {N : Nat} {f : FuncId} {vf : VFunc} (hf : V.fn f = some vf) (hp : vf.pure = true) {H : Heap} {args ds : List D} {d : D} (ha : FrAs H args ds) (h : PN V N f ds d) (hd : d.flat = true) : ∃ H', RN V N f args H d H' ∧ Gr H H' := by
  obtain ⟨H1, e, g⟩ := ha H (.refl _)
  have := PN.rn hf hp e h
  rw [place_flat hd] at this
  exact ⟨H1, this, g⟩

/-- Flat, or a struct of flat cells. -/
def D.plain : D → Bool
  | .ag ds => ds.all D.flat
  | d => d.flat
theorem plain_freeze {d : D} (h : d.plain = true) (m : Nat) (H : Heap) : freeze (m + 6) H d = some (d, H) := by
  cases d
  case ag ds =>
    have hh : ∀ d ∈ ds, d.flat = true := by simpa [D.plain] using h
    rw [freeze_succ]
    simp only [flat_freezeL (m + 3) H hh]
  all_goals exact flat_freeze (by simpa only [D.plain] using h) (m + 5) H
theorem plain_freezeL {H : Heap} : ∀ {ds : List D}, (∀ d ∈ ds, d.plain = true) → freezeL deep H ds = some (ds, H)
  | [], _ => fls_nil H
  | d :: ds, h => fls_cons (fun m => plain_freeze (h d List.mem_cons_self) m H) (plain_freezeL fun e he => h e (List.mem_cons_of_mem _ he))
theorem PN.plain {V : VProg} {N : Nat} {f : FuncId} {vf : VFunc} (hf : V.fn f = some vf) (hp : vf.pure = true) (H : Heap) {ds : List D} {d : D} (ha : ds.all D.plain = true) (h : PN V N f ds d) (hd : d.flat = true) : RN V N f ds H d H := by
  have := PN.rn (H := H) hf hp (plain_freezeL (H := H) (by simpa using ha)) h
  rwa [place_flat hd] at this
theorem PRet.plain {V : VProg} {f : FuncId} {vf : VFunc} (hf : V.fn f = some vf) (hp : vf.pure = true) (H : Heap) {ds : List D} {d : D} (ha : ds.all D.plain = true) (h : PRet V f ds d) (hd : d.flat = true) : Ret V f ds H d H := by
  obtain ⟨N, h⟩ := h
  exact (PN.plain hf hp H ha h hd).ret

/-! ### Growth that spares some arrays -/

/-- Grown; the blocks of S are as they were. -/
def Gs (S : List Nat) (H H' : Heap) : Prop := Gl H H' ∧ ∀ b ∈ S, b < H.length → H'[b]? = H[b]?
theorem Gs.refl (S : List Nat) (H : Heap) : Gs S H H := ⟨.refl _, fun _ _ _ => rfl⟩
theorem Gs.trans {S : List Nat} {H H' H'' : Heap} (h : Gs S H H') (h' : Gs S H' H'') : Gs S H H'' :=
  ⟨h.1.trans h'.1, fun b hb hl => (h'.2 b hb (Nat.lt_of_lt_of_le hl h.1.1)).trans (h.2 b hb hl)⟩
theorem Gs.push (S : List Nat) (H t : Heap) : Gs S H (H ++ t) := ⟨.push _ _, fun b _ hl => by rw [List.getElem?_append_left hl]⟩
theorem Gs.lock {S : List Nat} {H : Heap} {a n w : Nat} {rows : List (List D)} {c : Option Nat} {p l : Bool} (h : arr H a n = some (w, rows, c, p, l)) (ha : a ∉ S) : Gs S H (H.set a (.ar w rows c p true)) :=
  ⟨.lock h, fun b hb _ => by rw [List.getElem?_set_ne (fun e => ha (by rw [e]; exact hb))]⟩
theorem Gs.place (S : List Nat) (w : Nat) (rows : List (List D)) (H : Heap) : Gs S H (placeC (owD w rows) H).2 := by
  cases rows with
  | nil => exact .refl _ _
  | cons r rows => exact .push _ _ _

/-- Some arrays written (those of E), others locked at most. -/
def Gx (E : List Nat) (H H' : Heap) : Prop := H.length ≤ H'.length ∧ ∀ b, b < H.length → b ∉ E → Lu H[b]? H'[b]?
theorem Gx.refl (E : List Nat) (H : Heap) : Gx E H H := ⟨Nat.le_refl _, fun _ _ _ => .same _⟩
theorem Gx.trans {E : List Nat} {H H' H'' : Heap} (h : Gx E H H') (h' : Gx E H' H'') : Gx E H H'' :=
  ⟨Nat.le_trans h.1 h'.1, fun b hb he => (h.2 b hb he).trans (h'.2 b (Nat.lt_of_lt_of_le hb h.1) he)⟩
theorem Gl.gx {E : List Nat} {H H' : Heap} (h : Gl H H') : Gx E H H' := ⟨h.1, fun b hb _ => h.2 b hb⟩
theorem Gx.set {E : List Nat} {a : Nat} (ha : a ∈ E) (H : Heap) (b : Blk) : Gx E H (H.set a b) :=
  ⟨by simp, fun c hc he => by rw [List.getElem?_set_ne (fun e => he (by rw [← e]; exact ha))]; exact .same _⟩

theorem arr_gx {E : List Nat} {H H' : Heap} {a n w : Nat} {rows : List (List D)} {c : Option Nat} {p l : Bool} (h : arr H a n = some (w, rows, c, p, l)) (g : Gx E H H') (ha : a ∉ E) : ∃ l', arr H' a n = some (w, rows, c, p, l') := by
  have h1 := (arr_eq h).1
  have hlt : a < H.length := lt_of_get h1
  have h2 := g.2 a hlt ha
  rw [h1] at h2
  have hn := (arr_eq h).2
  generalize hy : H'[a]? = y at h2
  cases h2 with
  | same => exact ⟨l, by simp [arr, hy, hn]⟩
  | lock => exact ⟨true, by simp [arr, hy, hn]⟩
theorem Ms.gx {E : List Nat} {w : Nat} {rows : List (List D)} {H H' : Heap} {d : D} (h : Ms w rows H d) (g : Gx E H H') (he : ∀ a ∈ muOf d, a ∉ E) : Ms w rows H' d := by
  cases h with
  | nil h => exact .nil h
  | z h => exact .z h
  | mu a h ha =>
    obtain ⟨kc, lk, h⟩ := h
    obtain ⟨l', hl⟩ := arr_gx h g (he a (by simp [muOf]))
    exact .mu a ⟨kc, l', hl⟩ (Nat.lt_of_lt_of_le ha g.1)

/-- A slice of the heap that may be written. -/
inductive Mm (w : Nat) (rows : List (List D)) (H : Heap) : D → Prop
  | nil (h : rows = []) : Mm w rows H .nil
  | z (h : rows = []) : Mm w rows H .z
  | mu (a : Nat) (kc : Option Nat) (h : arr H a rows.length = some (w, rows, kc, true, false)) (ha : a < H.length) : Mm w rows H (.mu a rows.length 0 rows.length)
theorem Mm.ms {w : Nat} {rows : List (List D)} {H : Heap} {d : D} (h : Mm w rows H d) : Ms w rows H d := by
  cases h with
  | nil h => exact .nil h
  | z h => exact .z h
  | mu a kc h ha => exact .mu a ⟨kc, false, h⟩ ha
theorem Mm.gs {S : List Nat} {w : Nat} {rows : List (List D)} {H H' : Heap} {d : D} (h : Mm w rows H d) (g : Gs S H H') (hs : ∀ a ∈ muOf d, a ∈ S) : Mm w rows H' d := by
  cases h with
  | nil h => exact .nil h
  | z h => exact .z h
  | mu a kc h ha => exact .mu a kc (by
      have := g.2 a (hs a (by simp [muOf])) ha
      simp only [arr, this] at h ⊢; exact h) (Nat.lt_of_lt_of_le ha g.1.1)
theorem Mm.mu_lt {w : Nat} {rows : List (List D)} {H : Heap} {d : D} (h : Ms w rows H d) : ∀ a ∈ muOf d, a < H.length := by
  cases h with
  | nil h => simp [muOf]
  | z h => simp [muOf]
  | mu a h ha => simp [muOf, ha]

/-- A slice that is read where it lies. -/
structure Rs (w : Nat) (rows : List (List D)) (H : Heap) (x : D) : Prop where
  len : ∀ H', lenD H' 1 x = some (.i .i64 rows.length)
  elem : ∀ i (hi : i < rows.length), ∃ p, iadD H x (.i .i64 i) w = some p ∧ ldAt H p w = some rows[i] ∧ p.under H.length = true
  under : x.under H.length = true

theorem Sl.rs {w : Nat} {rows : List (List D)} {x : D} (h : Sl w rows x) (hc : ∀ r ∈ rows, cut r 0 w = some r) (H : Heap) : Rs w rows H x :=
  ⟨fun _ => h.len, fun i hi => ⟨_, h.elem hi, by rw [ld_ip]; exact hc _ (List.getElem_mem hi), rfl⟩, h.under _⟩
theorem Ms.rs {w : Nat} {rows : List (List D)} {H : Heap} {x : D} (h : Ms w rows H x) (hc : ∀ r ∈ rows, cut r 0 w = some r) : Rs w rows H x := by
  cases h with
  | nil h => subst h; exact ⟨fun _ => rfl, fun i hi => absurd hi (by simp), rfl⟩
  | z h => subst h; exact ⟨fun _ => rfl, fun i hi => absurd hi (by simp), rfl⟩
  | mu a h ha =>
    obtain ⟨kc, lk, h⟩ := h
    refine ⟨fun _ => rfl, fun i hi => ⟨.ap a rows.length i 0, ?_, ?_, ?_⟩, ?_⟩
    · simp [iadD, h, ixOf, hi]
    · simp [ldAt, h, List.getElem?_eq_getElem hi, hc _ (List.getElem_mem hi)]
    · simp [D.under, ha]
    · simp [D.under, ha]

/-! ### Appending -/

def bD (H0 : Heap) (x0 : D) (rows : List (List D)) : D :=
  match rows with
  | [] => x0
  | _ :: _ => .mu H0.length rows.length 0 rows.length
def bH (H0 : Heap) (w : Nat) (rows : List (List D)) : Heap :=
  match rows with
  | [] => H0
  | _ :: _ => H0 ++ [.ar w rows none true false]

def x0ok (x0 : D) : Bool := match x0 with
  | .nil | .z => true
  | _ => false

theorem app_all {H : Heap} {x0 y : D} {w bytes : Nat} {rows : List (List D)} (h0 : x0ok x0 = true) (hy : rowsOf H w y = some rows) (hf : ∀ r ∈ rows, ∀ d ∈ r, d.flat = true) (hroom : room rows.length bytes = true) :
    appD H x0 y w bytes true = some (bD H x0 rows, bH H w rows) := by
  have e : appTo H x0 rows w bytes true = appEmp H x0 rows w bytes true := by cases x0 <;> first | rfl | cases h0
  simp only [appD, hy, flat_freezeRows H hf, e]
  cases rows with
  | nil => rfl
  | cons r rows =>
    simp only [List.length_cons] at hroom
    simp [appEmp, hroom, bD, bH]
theorem app_b {H0 : Heap} {x0 : D} {w bytes : Nat} {rows : List (List D)} {r : List D} (h0 : x0ok x0 = true) (hf : ∀ d ∈ r, d.flat = true) (hroom : room (rows.length + 1) bytes = true) :
    appD (bH H0 w rows) (bD H0 x0 rows) (.sv w [r]) w bytes true = some (bD H0 x0 (rows ++ [r]), bH H0 w (rows ++ [r])) := by
  have hfr : ∀ H, freezeRows H [r] = some ([r], H) := fun H => flat_freezeRows H (fun q hq => by rw [List.mem_singleton.1 hq]; exact hf)
  cases rows with
  | nil =>
    have e : appTo H0 x0 [r] w bytes true = appEmp H0 x0 [r] w bytes true := by cases x0 <;> first | rfl | cases h0
    simp only [List.length_nil, Nat.zero_add] at hroom
    simp [bH, bD, appD, rowsOf, hfr, e, appEmp, hroom]
  | cons u us =>
    have hl : arr (bH H0 w (u :: us)) H0.length (u :: us).length = some (w, u :: us, none, true, false) := by simp [Dm.arr, bH]
    have e0 : (bH H0 w (u :: us)) = H0 ++ [.ar w (u :: us) none true false] := rfl
    simp only [appD, bD, rowsOf, if_true, hfr, appTo, appMu, hl, Nat.zero_add, Nat.le_refl, and_self, List.length_singleton, hroom, appIn]
    simp [bH, List.take_of_length_le, List.drop_eq_nil_of_le]
theorem bH_app (H0 : Heap) (w : Nat) (rows : List (List D)) : ∃ t, bH H0 w rows = H0 ++ t := by
  cases rows with
  | nil => exact ⟨[], by simp [bH]⟩
  | cons r rows => exact ⟨_, rfl⟩
theorem bD_ms {H0 : Heap} {x0 : D} {w : Nat} {rows : List (List D)} (h0 : x0ok x0 = true) : Mm w rows (bH H0 w rows) (bD H0 x0 rows) := by
  cases rows with
  | nil => cases x0 <;> first | exact .nil rfl | exact .z rfl | cases h0
  | cons r rows => exact .mu H0.length none (by simp [Dm.arr, bH]) (by simp [bH])
theorem bD_cells {H0 : Heap} {x0 : D} {rows : List (List D)} (h0 : x0ok x0 = true) : (bD H0 x0 rows).cellsN 1 = some [bD H0 x0 rows] := by
  cases rows with
  | nil => cases x0 <;> first | rfl | cases h0
  | cons r rows => rfl

/-- New memory, or an empty slice. -/
def Ow (w : Nat) (rows : List (List D)) (d : D) : Prop := d = owD w rows ∨ (rows = [] ∧ d = .z)
theorem bD_settle {H0 t : Heap} {x0 : D} {w : Nat} {rows : List (List D)} (h0 : x0ok x0 = true) : ∃ d, settleC (bH H0 w rows ++ t) (bD H0 x0 rows) = some d ∧ Ow w rows d := by
  cases rows with
  | nil => cases x0 <;> first | exact ⟨.nil, rfl, .inl rfl⟩ | exact ⟨.z, rfl, .inr ⟨rfl, rfl⟩⟩ | cases h0
  | cons r rows => exact ⟨owD w (r :: rows), by simp [bD, bH, owD, settleC, Dm.arr, List.take_of_length_le], .inl rfl⟩
theorem bD_mu {H0 : Heap} {x0 : D} {rows : List (List D)} (h0 : x0ok x0 = true) : muOf (bD H0 x0 rows) = match rows with | [] => [] | _ :: _ => [H0.length] := by
  cases rows with
  | nil => cases x0 <;> first | rfl | cases h0
  | cons r rows => rfl
theorem bH_len (H0 : Heap) (w : Nat) (rows : List (List D)) : (bH H0 w rows).length = match rows with | [] => H0.length | _ :: _ => H0.length + 1 := by
  cases rows <;> simp [bH]

/-- What new memory becomes. -/
theorem place_Ow {w : Nat} {rows : List (List D)} {d : D} (h : Ow w rows d) (H : Heap) : Mm w rows (placeC d H).2 (placeC d H).1 ∧ (∃ t, (placeC d H).2 = H ++ t) ∧ ∀ a ∈ muOf (placeC d H).1, a = H.length ∧ a < (placeC d H).2.length := by
  rcases h with rfl | ⟨rfl, rfl⟩
  · cases rows with
    | nil => exact ⟨.nil rfl, ⟨[], by simp [placeC, owD]⟩, by simp [placeC, owD, muOf]⟩
    | cons r rows =>
      refine ⟨.mu H.length none ?_ (by simp [placeC, owD]), ⟨_, rfl⟩, by simp [placeC, owD, muOf]⟩
      simp [placeC, owD, Dm.arr]
  · exact ⟨.z rfl, ⟨[], by simp [placeC]⟩, by simp [placeC, muOf]⟩

/-- A pure call that gives a struct of three new slices. -/
theorem Ret.new3 {V : VProg} {f : FuncId} {vf : VFunc} (hf : V.fn f = some vf) (hp : vf.pure = true) {H H1 : Heap} {args ds : List D} {w1 w2 w3 : Nat} {r1 r2 r3 : List (List D)} {e1 e2 e3 : D} (h1 : Ow w1 r1 e1) (h2 : Ow w2 r2 e2) (h3 : Ow w3 r3 e3)
    (hfr : freezeL deep H args = some (ds, H1)) (h : PRet V f ds (.ag [e1, e2, e3])) :
    ∃ d1 d2 d3 H2, Ret V f args H (.ag [d1, d2, d3]) H2 ∧ (∃ t, H2 = H1 ++ t) ∧ Mm w1 r1 H2 d1 ∧ Mm w2 r2 H2 d2 ∧ Mm w3 r3 H2 d3 ∧
      (∀ a ∈ muOf d1, H1.length ≤ a ∧ a < H2.length) ∧ (∀ a ∈ muOf d2, H1.length ≤ a ∧ a < H2.length ∧ a ∉ muOf d1) ∧ (∀ a ∈ muOf d3, H1.length ≤ a ∧ a < H2.length ∧ a ∉ muOf d1 ∧ a ∉ muOf d2) := by
  have hr := Ret.pure hf hp hfr h
  obtain ⟨m1, ⟨t1, g1⟩, a1⟩ := place_Ow h1 H1
  obtain ⟨m2, ⟨t2, g2⟩, a2⟩ := place_Ow h2 (placeC e1 H1).2
  obtain ⟨m3, ⟨t3, g3⟩, a3⟩ := place_Ow h3 (placeC e2 (placeC e1 H1).2).2
  generalize q3 : placeC e3 (placeC e2 (placeC e1 H1).2).2 = p3 at *
  have hpl : place (.ag [e1, e2, e3]) H1 = (.ag [(placeC e1 H1).1, (placeC e2 (placeC e1 H1).2).1, p3.1], p3.2) := by rw [← q3]; rfl
  rw [hpl] at hr
  generalize placeC e2 (placeC e1 H1).2 = p2 at *
  generalize placeC e1 H1 = p1 at *
  obtain ⟨d1, H2⟩ := p1
  obtain ⟨d2, H3⟩ := p2
  obtain ⟨d3, H4⟩ := p3
  simp only at *
  subst g1; subst g2; subst g3
  refine ⟨d1, d2, d3, _, hr, ⟨t1 ++ (t2 ++ t3), by simp⟩, ?_, ?_, m3, ?_, ?_, ?_⟩
  · have := m1.gs (S := muOf d1) (.push _ _ (t2 ++ t3)) (fun _ h => h)
    rwa [← List.append_assoc] at this
  · exact m2.gs (S := muOf d2) (.push _ _ t3) (fun _ h => h)
  · intro a ha
    obtain ⟨rfl, h⟩ := a1 a ha
    simp only [List.length_append] at h ⊢
    omega
  · intro a ha
    obtain ⟨rfl, h⟩ := a2 a ha
    have hn : (H1 ++ t1).length ∉ muOf d1 := fun hh => Nat.lt_irrefl _ (a1 _ hh).2
    simp only [List.length_append] at h hn ⊢
    exact ⟨by omega, by omega, hn⟩
  · intro a ha
    obtain ⟨rfl, h⟩ := a3 a ha
    have hn1 : (H1 ++ t1 ++ t2).length ∉ muOf d1 := fun hh => by
      have := (a1 _ hh).2
      simp only [List.length_append] at this; omega
    have hn2 : (H1 ++ t1 ++ t2).length ∉ muOf d2 := fun hh => Nat.lt_irrefl _ (a2 _ hh).2
    simp only [List.length_append] at h hn1 hn2 ⊢
    exact ⟨by omega, by omega, hn1, hn2⟩

/-- A slice of the heap frozen: its own array is locked, nothing else. -/
theorem ms_fs {S : List Nat} {w : Nat} {rows : List (List D)} {H : Heap} {d : D} (h : Ms w rows H d) (hs : ∀ a ∈ muOf d, a ∉ S) : ∃ d' H', Gs S H H' ∧ (∀ m, freeze (m + 1) H d = some (d', H')) ∧ Sl w rows d' := by
  cases h with
  | nil h => exact ⟨.nil, H, .refl _ _, fun m => rfl, .nil h⟩
  | z h => exact ⟨.z, H, .refl _ _, fun m => rfl, .z h⟩
  | mu a h ha =>
    obtain ⟨kc, lk, h⟩ := h
    refine ⟨.im w rows, H.set a (.ar w rows kc true true), .lock h (hs a (by simp [muOf])), fun m => ?_, .im⟩
    rw [freeze_succ]
    simp [h, List.take_of_length_le]
/-- .. three of them. -/
theorem ms3_fs {S : List Nat} {w1 w2 w3 : Nat} {r1 r2 r3 : List (List D)} {H : Heap} {x y zc : D} (h1 : Ms w1 r1 H x) (h2 : Ms w2 r2 H y) (h3 : Ms w3 r3 H zc) (s1 : ∀ a ∈ muOf x, a ∉ S) (s2 : ∀ a ∈ muOf y, a ∉ S) (s3 : ∀ a ∈ muOf zc, a ∉ S) :
    ∃ x' y' z' H', Gs S H H' ∧ (∀ m, freeze (m + 6) H (.ag [x, y, zc]) = some (.ag [x', y', z'], H')) ∧ Sl w1 r1 x' ∧ Sl w2 r2 y' ∧ Sl w3 r3 z' := by
  obtain ⟨x', H1, g1, e1, l1⟩ := ms_fs h1 s1
  obtain ⟨y', H2, g2, e2, l2⟩ := ms_fs (h2.gl g1.1) s2
  obtain ⟨z', H3, g3, e3, l3⟩ := ms_fs (h3.gl (g1.trans g2).1) s3
  refine ⟨x', y', z', H3, g1.trans (g2.trans g3), fun m => ?_, l1, l2, l3⟩
  have a1 := e1 (m + 3)
  have a2 := e2 (m + 3)
  have a3 := e3 (m + 3)
  rw [freeze_succ]
  simp only [freezeL_cons, freezeL_nil, a1, a2, a3]

end Go.Dm

/-
  Slices that lie in the heap or are contents: growing, freezing, appending, settling, placing.
-/
namespace Go.Dm

def Mz (w : Nat) (rows : List (List D)) (H : Heap) (d : D) : Prop := Ms w rows H d ∨ Sl w rows d
section
variable {w : Nat} {rows : List (List D)} {H H' : Heap} {d : D}
theorem Mz.gr (h : Mz w rows H d) (g : Gr H H') : Mz w rows H' d := h.elim (fun h => .inl (h.gr g)) .inr
theorem Mz.gx {E : List Nat} (h : Mz w rows H d) (g : Gx E H H') (he : ∀ a ∈ muOf d, a ∉ E) : Mz w rows H' d := h.elim (fun h => .inl (h.gx g he)) .inr
theorem Mz.fr (h : Mz w rows H d) : ∃ d', FrC H d d' ∧ Sl w rows d' := h.elim (fun h => h.fr) fun h => ⟨d, .flat h.flat H, h⟩
theorem Mz.cont (h : Mz w rows H d) : rowsOf H w d = some rows := by
  rcases h with h | h
  · cases h with
    | nil h => subst h; rfl
    | z h => subst h; rfl
    | mu a h ha =>
      obtain ⟨kc, lk, h⟩ := h
      simp [rowsOf, h, List.take_of_length_le]
  · exact h.cont
theorem Mz.lt (h : Mz w rows H d) : ∀ a ∈ muOf d, a < H.length := by
  rcases h with h | h
  · exact Mm.mu_lt h
  · rw [h.mus]; simp
theorem Mz.cells (h : Mz w rows H d) : d.cellsN 1 = some [d] := by
  rcases h with h | h <;> cases h <;> rfl
theorem Mz.len (h : Mz w rows H d) : lenD H' 1 d = some (.i .i64 rows.length) := h.elim (fun h => h.len) fun h => h.len
theorem Mz.rs (h : Mz w rows H d) (hc : ∀ r ∈ rows, cut r 0 w = some r) : Rs w rows H d := h.elim (fun h => h.rs hc) fun h => h.rs hc H
/-- What a pure call hands back: contents, or new memory. -/
def Aw (w : Nat) (rows : List (List D)) (d : D) : Prop := Sl w rows d ∨ d = .ow w rows
theorem Mz.settle (h : Mz w rows H d) : ∃ d', settleC H d = some d' ∧ Aw w rows d' := by
  rcases h with h | h
  · cases h with
    | nil h => exact ⟨.nil, rfl, .inl (.nil h)⟩
    | z h => exact ⟨.z, rfl, .inl (.z h)⟩
    | mu a h ha =>
      obtain ⟨kc, lk, h⟩ := h
      cases lk with
      | false => exact ⟨.ow w rows, by simp only [settleC, h, Nat.zero_add, Nat.le_refl, if_true, List.drop_zero, List.take_length], .inr rfl⟩
      | true => exact ⟨.im w rows, by simp only [settleC, h, Nat.zero_add, Nat.le_refl, if_true, List.drop_zero, List.take_length], .inl .im⟩
  · exact ⟨d, h.settle, .inl h⟩

theorem Ow.aw (h : Ow w rows d) : Aw w rows d := by
  rcases h with rfl | ⟨rfl, rfl⟩
  · cases rows with
    | nil => exact .inl (.nil rfl)
    | cons r rows => exact .inr rfl
  · exact .inl (.z rfl)
theorem Aw.place (h : Aw w rows d) (H : Heap) : Mz w rows (placeC d H).2 (placeC d H).1 ∧ (∃ t, (placeC d H).2 = H ++ t) ∧ ∀ a ∈ muOf (placeC d H).1, a = H.length ∧ a < (placeC d H).2.length := by
  rcases h with h | rfl
  · rw [h.place]
    exact ⟨.inr h, ⟨[], by simp⟩, by rw [h.mus]; simp⟩
  · exact ⟨.inl (.mu H.length ⟨none, false, by simp [placeC, Dm.arr]⟩ (by simp [placeC])), ⟨_, rfl⟩, by simp [placeC, muOf]⟩
theorem Mz.push (h : Mz w rows H d) (t : Heap) : Mz w rows (H ++ t) d := h.gr (Gl.push H t).gr

theorem apart_mk {l : List Nat} (h : l.Nodup) : apart l = true := by
  induction l with
  | nil => rfl
  | cons a l ih =>
    rw [List.nodup_cons] at h
    simp [apart, h.1, ih h.2]
theorem apart_nd {l : List Nat} (h : apart l = true) : l.Nodup := by
  induction l with
  | nil => exact List.nodup_nil
  | cons a l ih =>
    simp only [apart, Bool.and_eq_true, Bool.not_eq_true', List.contains_eq_mem, decide_eq_false_iff_not] at h
    exact List.nodup_cons.2 ⟨h.1, ih h.2⟩
end

/-- Three slices, in arrays of their own. -/
def Mz3 (w1 w2 w3 : Nat) (r1 r2 r3 : List (List D)) (H : Heap) (d : D) : Prop := ∃ x y zc, d = .ag [x, y, zc] ∧ Mz w1 r1 H x ∧ Mz w2 r2 H y ∧ Mz w3 r3 H zc ∧ (muOf x ++ (muOf y ++ muOf zc)).Nodup
def Aw3 (w1 w2 w3 : Nat) (r1 r2 r3 : List (List D)) (d : D) : Prop := ∃ x y zc, d = .ag [x, y, zc] ∧ Aw w1 r1 x ∧ Aw w2 r2 y ∧ Aw w3 r3 zc
section
variable {w1 w2 w3 : Nat} {r1 r2 r3 : List (List D)} {H H' : Heap} {d : D}
theorem Mz3.gr (h : Mz3 w1 w2 w3 r1 r2 r3 H d) (g : Gr H H') : Mz3 w1 w2 w3 r1 r2 r3 H' d := by
  obtain ⟨x, y, zc, rfl, h1, h2, h3, h4⟩ := h
  exact ⟨x, y, zc, rfl, h1.gr g, h2.gr g, h3.gr g, h4⟩
theorem Mz3.fr (h : Mz3 w1 w2 w3 r1 r2 r3 H d) : ∃ x y zc, FrA H d (.ag [x, y, zc]) ∧ Sl w1 r1 x ∧ Sl w2 r2 y ∧ Sl w3 r3 zc := by
  obtain ⟨x, y, zc, rfl, h1, h2, h3, h4⟩ := h
  obtain ⟨x', a1, b1⟩ := h1.fr
  obtain ⟨y', a2, b2⟩ := h2.fr
  obtain ⟨z', a3, b3⟩ := h3.fr
  exact ⟨x', y', z', .ag (.cons a1 (.cons a2 (.cons a3 (.nil H)))), b1, b2, b3⟩
theorem Mz3.settle (h : Mz3 w1 w2 w3 r1 r2 r3 H d) : apart (mus d) = true ∧ ∃ d', settle H d = some d' ∧ Aw3 w1 w2 w3 r1 r2 r3 d' := by
  obtain ⟨x, y, zc, rfl, h1, h2, h3, h4⟩ := h
  obtain ⟨x', a1, b1⟩ := h1.settle
  obtain ⟨y', a2, b2⟩ := h2.settle
  obtain ⟨z', a3, b3⟩ := h3.settle
  refine ⟨apart_mk (by simpa [mus, mus1] using h4), .ag [x', y', z'], ?_, x', y', z', rfl, b1, b2, b3⟩
  show (mapO (settleC H) [x, y, zc]).map D.ag = _
  simp only [mapO, a1, a2, a3, Option.map_some]
theorem Aw3.place (h : Aw3 w1 w2 w3 r1 r2 r3 d) (H : Heap) : Mz3 w1 w2 w3 r1 r2 r3 (place d H).2 (place d H).1 ∧ (∃ t, (place d H).2 = H ++ t) ∧ ∀ e, (place d H).1 = .ag e → ∀ q ∈ e, ∀ a ∈ muOf q, H.length ≤ a := by
  obtain ⟨x, y, zc, rfl, h1, h2, h3⟩ := h
  obtain ⟨m1, ⟨t1, g1⟩, a1⟩ := h1.place H
  obtain ⟨m2, ⟨t2, g2⟩, a2⟩ := h2.place (placeC x H).2
  obtain ⟨m3, ⟨t3, g3⟩, a3⟩ := h3.place (placeC y (placeC x H).2).2
  have hpl : place (.ag [x, y, zc]) H = (.ag [(placeC x H).1, (placeC y (placeC x H).2).1, (placeC zc (placeC y (placeC x H).2).2).1], (placeC zc (placeC y (placeC x H).2).2).2) := rfl
  rw [hpl]
  generalize placeC zc (placeC y (placeC x H).2).2 = p3 at *
  generalize placeC y (placeC x H).2 = p2 at *
  generalize placeC x H = p1 at *
  obtain ⟨d1, H2⟩ := p1
  obtain ⟨d2, H3⟩ := p2
  obtain ⟨d3, H4⟩ := p3
  simp only at *
  subst g1; subst g2; subst g3
  have lt1 := m1.lt
  have lt2 := m2.lt
  refine ⟨⟨d1, d2, d3, rfl, ?_, m2.push t3, m3, ?_⟩, ⟨t1 ++ (t2 ++ t3), by simp⟩, ?_⟩
  · have := m1.push (t2 ++ t3)
    rwa [← List.append_assoc] at this
  · have n1 : ∀ d, (∀ a ∈ muOf d, a = 0 ∨ True) → (muOf d).Nodup := fun d _ => by cases d <;> simp [muOf]
    rw [List.nodup_append, List.nodup_append]
    refine ⟨n1 _ (fun _ _ => .inr trivial), ⟨n1 _ (fun _ _ => .inr trivial), n1 _ (fun _ _ => .inr trivial), fun a ha b hb e => ?_⟩, fun a ha b hb e => ?_⟩
    · subst e
      have := a3 a hb
      have := a2 a ha
      simp only [List.length_append] at *
      omega
    · subst e
      have e1 := a1 a ha
      rcases List.mem_append.1 hb with hb | hb
      · have := a2 a hb
        simp only [List.length_append] at *
        omega
      · have := a3 a hb
        simp only [List.length_append] at *
        omega
  · intro e he q hq a ha
    cases he
    simp only [List.mem_cons, List.not_mem_nil, or_false] at hq
    rcases hq with rfl | rfl | rfl
    · have := a1 a ha; omega
    · have := a2 a ha; simp only [List.length_append] at *; omega
    · have := a3 a ha; simp only [List.length_append] at *; omega
theorem Aw3.ret {V : VProg} {N : Nat} {f : FuncId} {vf : VFunc} (hf : V.fn f = some vf) (hp : vf.pure = true) {H H1 : Heap} {args ds : List D} (hfr : freezeL deep H args = some (ds, H1)) {d : D} (h : PN V N f ds d) (ha : Aw3 w1 w2 w3 r1 r2 r3 d) :
    ∃ d' H2, RN V N f args H d' H2 ∧ (∃ t, H2 = H1 ++ t) ∧ Mz3 w1 w2 w3 r1 r2 r3 H2 d' ∧ ∀ e, d' = .ag e → ∀ q ∈ e, ∀ a ∈ muOf q, H1.length ≤ a := by
  obtain ⟨g1, g2, g3⟩ := ha.place H1
  exact ⟨_, _, PN.rn hf hp hfr h, g2, g1, g3⟩
end

theorem bsl0 {H : Heap} (w : Nat) (zs : List D) (ps : List (Nat × D)) (p : Bool) : bslD H w 0 zs ps p = some (.z, H) := rfl
theorem ovz (b : Nat) : D.over b .z = true := rfl
theorem bD_over (H0 : Heap) {x0 : D} (h : x0ok x0 = true) (rows : List (List D)) : D.over H0.length (bD H0 x0 rows) = true := by
  cases rows with
  | nil => cases x0 <;> first | rfl | cases h
  | cons r rows => simp [bD, D.over]
theorem bH_gl (H0 : Heap) (w : Nat) (rows : List (List D)) : Gl H0 (bH H0 w rows) := by
  obtain ⟨t, e⟩ := bH_app H0 w rows
  rw [e]; exact .push _ _
theorem bD_lt {H0 : Heap} {x0 : D} (h : x0ok x0 = true) (rows : List (List D)) : ∀ a ∈ muOf (bD H0 x0 rows), a = H0.length := by
  rw [bD_mu h]; cases rows <;> simp
end Go.Dm

/-
  Slices of the heap written cell by cell.
-/
namespace Go.Dm

section
variable {w : Nat} {rows : List (List D)} {H : Heap} {d : D}

theorem arr_set_ne {A a n : Nat} {b : Blk} (h : A ≠ a) : arr (H.set A b) a n = arr H a n := by
  simp only [Dm.arr, List.getElem?_set_ne h]
theorem Mm.set (h : Mm w rows H d) {A : Nat} (b : Blk) (ha : A ∉ muOf d) : Mm w rows (H.set A b) d := by
  cases h with
  | nil h => exact .nil h
  | z h => exact .z h
  | mu a kc h hlt => exact .mu a kc (by rw [arr_set_ne (fun e => ha (by simp [muOf, e]))]; exact h) (by simpa using hlt)

theorem Mm.wr (h : Mm w rows H d) {i : Nat} (hi : i < rows.length) : ∃ A, A ∈ muOf d ∧ iadD H d (.i .i64 i) w = some (.ap A rows.length i 0) ∧ (∀ off n r, cut rows[i] off n = some r → ldAt H (.ap A rows.length i off) n = some r) ∧
    (∀ off v row', v.flat = true → put rows[i] off [v] = some row' → ∃ H', stAt H (.ap A rows.length i off) [v] = some H' ∧ Gx [A] H H' ∧ Mm w (rows.set i row') H' d ∧ ∀ w' rows' d', Mm w' rows' H d' → A ∉ muOf d' → Mm w' rows' H' d') := by
  cases h with
  | nil h => subst h; simp at hi
  | z h => subst h; simp at hi
  | mu a kc h hlt =>
    refine ⟨a, by simp [muOf], by simp [iadD, h, ixOf, hi], fun off n r hc => by simp [ldAt, h, List.getElem?_eq_getElem hi, hc], fun off v row' hv hp => ?_⟩
    refine ⟨H.set a (.ar w (rows.set i row') kc true false), ?_, .set (by simp) _ _, ?_, fun w' rows' d' h' ha => h'.set _ ha⟩
    · have hf : freezeL deep H [v] = some ([v], H) := flat_freezeL 10 H (fun e he => by rw [List.mem_singleton.1 he]; exact hv)
      simp [stAt, h, hf, putRow, List.getElem?_eq_getElem hi, hp]
    · have hg : (H.set a (.ar w (rows.set i row') kc true false))[a]? = some (.ar w (rows.set i row') kc true false) := List.getElem?_set_self hlt
      have := Mm.mu (w := w) (rows := rows.set i row') (H := H.set a (.ar w (rows.set i row') kc true false)) a kc (by simp [Dm.arr, hg]) (by simpa using hlt)
      simpa using this

theorem Gx.mono {E E' : List Nat} {H H' : Heap} (h : Gx E H H') (he : ∀ a ∈ E, a ∈ E') : Gx E' H H' := ⟨h.1, fun b hb hn => h.2 b hb (fun hh => hn (he b hh))⟩
theorem Mz.fs {S : List Nat} (h : Mz w rows H d) (hs : ∀ a ∈ muOf d, a ∉ S) : ∃ d' H', Gs S H H' ∧ (∀ m, freeze (m + 1) H d = some (d', H')) ∧ Sl w rows d' := by
  rcases h with h | h
  · exact ms_fs h hs
  · exact ⟨d, H, .refl _ _, fun m => h.freeze m, h⟩
end
theorem Mz3.fs {S : List Nat} {w1 w2 w3 : Nat} {r1 r2 r3 : List (List D)} {H : Heap} {d : D} (h : Mz3 w1 w2 w3 r1 r2 r3 H d) (hs : ∀ e, d = .ag e → ∀ q ∈ e, ∀ a ∈ muOf q, a ∉ S) :
    ∃ x' y' z' H', Gs S H H' ∧ (∀ m, freeze (m + 6) H d = some (.ag [x', y', z'], H')) ∧ Sl w1 r1 x' ∧ Sl w2 r2 y' ∧ Sl w3 r3 z' := by
  obtain ⟨x, y, zc, rfl, h1, h2, h3, _⟩ := h
  have s1 := hs _ rfl x (by simp)
  have s2 := hs _ rfl y (by simp)
  have s3 := hs _ rfl zc (by simp)
  obtain ⟨x', H1, g1, e1, l1⟩ := h1.fs s1
  obtain ⟨y', H2, g2, e2, l2⟩ := (h2.gr g1.1.gr).fs s2
  obtain ⟨z', H3, g3, e3, l3⟩ := (h3.gr (g1.trans g2).1.gr).fs s3
  refine ⟨x', y', z', H3, g1.trans (g2.trans g3), fun m => ?_, l1, l2, l3⟩
  have a1 := e1 (m + 3)
  have a2 := e2 (m + 3)
  have a3 := e3 (m + 3)
  rw [freeze_succ]
  simp only [freezeL_cons, freezeL_nil, a1, a2, a3]
theorem Mz3.gx {E : List Nat} {w1 w2 w3 : Nat} {r1 r2 r3 : List (List D)} {H H' : Heap} {d : D} (h : Mz3 w1 w2 w3 r1 r2 r3 H d) (g : Gx E H H') (hs : ∀ e, d = .ag e → ∀ q ∈ e, ∀ a ∈ muOf q, a ∉ E) : Mz3 w1 w2 w3 r1 r2 r3 H' d := by
  obtain ⟨x, y, zc, rfl, h1, h2, h3, h4⟩ := h
  exact ⟨x, y, zc, rfl, h1.gx g (hs _ rfl x (by simp)), h2.gx g (hs _ rfl y (by simp)), h3.gx g (hs _ rfl zc (by simp)), h4⟩
end Go.Dm

