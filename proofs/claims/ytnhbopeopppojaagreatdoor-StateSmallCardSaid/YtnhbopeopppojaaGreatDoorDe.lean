/-
  Regions whose order is drawn; calls: the machine is sound.
-/
import Derived.Test.YtnhbopeopppojaaGreatDoorDd
import Derived.Recover
namespace Go.Dm
inductive Lk : Option Blk → Option Blk → Prop
  | same (b : Option Blk) : Lk b b
  | lock (w : Nat) (rows : List (List D)) (c : Option Nat) (p l l' : Bool) : Lk (some (.ar w rows c p l)) (some (.ar w rows c p l'))
theorem Lk.symm {x y : Option Blk} (h : Lk x y) : Lk y x := by
  cases h with
  | same => exact .same _
  | lock => exact .lock ..
theorem Lk.trans {x y z : Option Blk} (h : Lk x y) (h' : Lk y z) : Lk x z := by
  cases h with
  | same => exact h'
  | lock w rows c p l l' =>
    cases h' with
    | same => exact .lock ..
    | lock => exact .lock ..
def Sb (base : Bs) (H H' : Heap) : Prop := ∀ b, base.un b = true → Lk H[b]? H'[b]?
def bn (n : Nat) : Bs := (n, [])
theorem bn_un {n b : Nat} : (bn n).un b = true ↔ b < n := by
  simp only [bn, Bs.un, List.contains_nil, Bool.not_false, Bool.and_true]
  exact decide_eq_true_iff
theorem un_lt {base : Bs} {b : Nat} (h : base.un b = true) : b < base.1 := by simp [Bs.un] at h; exact h.1
theorem ov_un {base : Bs} {a b : Nat} (h : base.ov a = true) (h' : base.un b = true) : a ≠ b := fun e => by
  subst e
  simp [Bs.ov] at h; simp [Bs.un] at h'
  rcases h with h | h
  · omega
  · exact h'.2 h
theorem Sb.refl (base : Bs) (H : Heap) : Sb base H H := fun _ _ => .same _
theorem Sb.symm {base : Bs} {H H' : Heap} (h : Sb base H H') : Sb base H' H := fun b hb => (h b hb).symm
theorem Sb.trans {base : Bs} {H H' H'' : Heap} (h : Sb base H H') (h' : Sb base H' H'') : Sb base H H'' := fun b hb => (h b hb).trans (h' b hb)
theorem Sb.mono {n : Nat} {base' : Bs} {H H' : Heap} (h : Sb (bn n) H H') (hb : base'.1 ≤ n) : Sb base' H H' := fun b hlt => h b (bn_un.2 (by have := un_lt hlt; omega))
theorem Sb.push (H t : Heap) : Sb (bn H.length) H (H ++ t) := fun b hb => by rw [bn_un] at hb; rw [List.getElem?_append_left hb]; exact .same _
theorem Sb.set {base : Bs} {id : Nat} {H : Heap} {b : Blk} (h : base.ov id = true) : Sb base H (H.set id b) := fun i hi => by rw [List.getElem?_set_ne (ov_un h hi)]; exact .same _
def Gr (H H' : Heap) : Prop := H.length ≤ H'.length ∧ Sb (bn H.length) H H'
theorem Gr.refl (H : Heap) : Gr H H := ⟨Nat.le_refl _, .refl _ _⟩
theorem Gr.trans {H H' H'' : Heap} (h : Gr H H') (h' : Gr H' H'') : Gr H H'' := ⟨Nat.le_trans h.1 h'.1, h.2.trans (h'.2.mono h.1)⟩
theorem Gr.push (H t : Heap) : Gr H (H ++ t) := ⟨by simp, .push H t⟩
theorem Gr.lock {H : Heap} {a n w : Nat} {rows : List (List D)} {c : Option Nat} {p l : Bool} (h : arr H a n = some (w, rows, c, p, l)) (l' : Bool) : Gr H (H.set a (.ar w rows c p l')) := by
  refine ⟨by simp, fun b hb => ?_⟩
  rw [bn_un] at hb
  by_cases hab : a = b
  · subst hab
    have := (arr_eq h).1
    rw [this, List.getElem?_set_self hb]
    exact .lock ..
  · rw [List.getElem?_set_ne hab]; exact .same _
theorem freeze_gr (m : Nat) : (∀ (d : D) (H : Heap) (d' : D) (H' : Heap), freeze m H d = some (d', H') → Gr H H') ∧
    (∀ (ds : List D) (H : Heap) (ds' : List D) (H' : Heap), freezeL m H ds = some (ds', H') → Gr H H') ∧
    (∀ (rs : List (List D)) (H : Heap) (rs' : List (List D)) (H' : Heap), freezeLL m H rs = some (rs', H') → Gr H H') := by
  induction m with
  | zero =>
    refine ⟨fun d H d' H' h => by simp [freeze_zero] at h, fun ds H ds' H' h => ?_, fun rs H rs' H' h => ?_⟩
    · cases ds <;> simp [freezeL_nil, freezeL_zero] at h
      obtain ⟨_, rfl⟩ := h; exact .refl _
    · cases rs <;> simp [freezeLL_nil, freezeLL_zero] at h
      obtain ⟨_, rfl⟩ := h; exact .refl _
  | succ m ih =>
    obtain ⟨ih1, ih2, ih3⟩ := ih
    have h2 : ∀ (ds : List D) (H : Heap) (ds' : List D) (H' : Heap), freezeL (m + 1) H ds = some (ds', H') → Gr H H' := by
      intro ds
      induction ds with
      | nil => intro H ds' H' h; simp [freezeL_nil] at h; obtain ⟨_, rfl⟩ := h; exact .refl _
      | cons x xs ihl =>
        intro H ds' H' h
        simp only [freezeL_cons] at h
        split at h
        · rename_i d1 H1 hf
          split at h
          · rename_i ds1 H2 hf2
            cases h
            exact (ih1 _ _ _ _ hf).trans (ihl _ _ _ hf2)
          · cases h
        · cases h
    refine ⟨fun d H d' H' h => ?_, h2, ?_⟩
    · rw [freeze_succ] at h
      split at h <;> first | (cases h; done) | (cases h; exact .refl _) | skip
      · split at h
        · rename_i harr
          split at h
          · cases h; exact .lock harr _
          · cases h
        · cases h
      · split at h
        · rename_i hf; cases h; exact ih3 _ _ _ _ hf
        · cases h
      · split at h
        · rename_i hf; cases h; exact ih1 _ _ _ _ hf
        · cases h
      · split at h
        · rename_i hf; cases h; exact ih2 _ _ _ _ hf
        · cases h
    · intro rs
      induction rs with
      | nil => intro H rs' H' h; simp [freezeLL_nil] at h; obtain ⟨_, rfl⟩ := h; exact .refl _
      | cons x xs ihl =>
        intro H rs' H' h
        simp only [freezeLL_cons] at h
        split at h
        · rename_i d1 H1 hf
          split at h
          · rename_i ds1 H2 hf2
            cases h
            exact (ih2 _ _ _ _ hf).trans (ihl _ _ _ hf2)
          · cases h
        · cases h
theorem free_frz (m : Nat) : (∀ (d : D) (H : Heap) (d' : D) (H' : Heap), freeD d = true → freeze m H d = some (d', H') → H' = H ∧ ∀ H2, freeze m H2 d = some (d', H2)) ∧
    ∀ (ds : List D) (H : Heap) (ds' : List D) (H' : Heap), freeL ds = true → freezeL m H ds = some (ds', H') → H' = H ∧ ∀ H2, freezeL m H2 ds = some (ds', H2) := by
  induction m with
  | zero =>
    refine ⟨fun d H d' H' _ h => (by rw [freeze_zero] at h; cases h), fun ds H ds' H' _ h => ?_⟩
    cases ds with
    | nil => rw [freezeL_nil] at h; cases h; exact ⟨rfl, fun H2 => freezeL_nil _ _⟩
    | cons d ds => rw [freezeL_zero] at h; cases h
  | succ m ih =>
    refine ⟨fun d H d' H' hd h => ?_, fun ds => ?_⟩
    · rw [freeze_succ] at h
      cases d with
      | ag cs =>
        simp only at h
        cases hq : freezeL m H cs with
        | none => rw [hq] at h; cases h
        | some p =>
          obtain ⟨cs', H1⟩ := p
          rw [hq] at h
          cases h
          obtain ⟨h1, h2⟩ := ih.2 cs H cs' _ (by simpa only [freeD] using hd) hq
          exact ⟨h1, fun H2 => by rw [freeze_succ]; simp only [h2 H2]⟩
      | ifc t v =>
        simp only at h
        cases hq : freeze m H v with
        | none => rw [hq] at h; cases h
        | some p =>
          obtain ⟨v', H1⟩ := p
          rw [hq] at h
          cases h
          obtain ⟨h1, h2⟩ := ih.1 v H v' _ (by simpa only [freeD] using hd) hq
          exact ⟨h1, fun H2 => by rw [freeze_succ]; simp only [h2 H2]⟩
      | fn f a b =>
        cases a <;> cases b <;> first
          | (simp only [freeD] at hd; cases hd; done)
          | (cases h; exact ⟨rfl, fun H2 => by rw [freeze_succ]⟩)
      | _ => first
        | (simp only [freeD] at hd; cases hd; done)
        | (cases h; exact ⟨rfl, fun H2 => by rw [freeze_succ]⟩)
    · induction ds with
      | nil => intro H ds' H' _ h; rw [freezeL_nil] at h; cases h; exact ⟨rfl, fun H2 => freezeL_nil _ _⟩
      | cons d ds ihl =>
        intro H ds' H' hd h
        simp only [freeL, Bool.and_eq_true] at hd
        rw [freezeL_cons] at h
        cases hq : freeze m H d with
        | none => rw [hq] at h; cases h
        | some p =>
          obtain ⟨d1, H1⟩ := p
          rw [hq] at h
          simp only at h
          cases hp : freezeL (m + 1) H1 ds with
          | none => rw [hp] at h; cases h
          | some q =>
            obtain ⟨ds1, H2⟩ := q
            rw [hp] at h
            cases h
            obtain ⟨h1, h2⟩ := ih.1 d H d1 H1 hd.1 hq
            subst h1
            obtain ⟨h3, h4⟩ := ihl _ ds1 _ hd.2 hp
            exact ⟨h3, fun H2 => by rw [freezeL_cons, h2 H2]; simp only [h4 H2]⟩
theorem freezeL_gr {m : Nat} {H : Heap} {ds : List D} {r : List D × Heap} (h : freezeL m H ds = some r) : Gr H r.2 := (freeze_gr m).2.1 _ _ r.1 _ h
theorem freezeRows_gr {H : Heap} {rs : List (List D)} {r : List (List D) × Heap} (h : freezeRows H rs = some r) : Gr H r.2 := (freeze_gr deep).2.2 _ _ r.1 _ h
theorem arr_sb {base : Bs} {H H' : Heap} (h : Sb base H H') {a n w : Nat} {rows : List (List D)} {c : Option Nat} {p l : Bool} (ha : base.un a = true) (e : arr H a n = some (w, rows, c, p, l)) :
    ∃ l', arr H' a n = some (w, rows, c, p, l') := by
  obtain ⟨h1, h2⟩ := arr_eq e
  have := h a ha
  rw [h1] at this
  generalize hy : H'[a]? = y at this
  cases this with
  | same => exact ⟨l, by simp [arr, hy, h2]⟩
  | lock _ _ _ _ _ l' => exact ⟨l', by simp [arr, hy, h2]⟩
theorem bx_sb {base : Bs} {H H' : Heap} (h : Sb base H H') {a t : Nat} {cs : List D} (ha : base.un a = true) (e : H[a]? = some (.hb t cs)) : H'[a]? = some (.hb t cs) := by
  have := h a ha
  rw [e] at this
  generalize H'[a]? = y at this
  cases this; rfl
theorem mp_sb {base : Bs} {H H' : Heap} (h : Sb base H H') {a : Nat} {es : List (D × D)} (ha : base.un a = true) (e : H[a]? = some (.mp es)) : H'[a]? = some (.mp es) := by
  have := h a ha
  rw [e] at this
  generalize H'[a]? = y at this
  cases this; rfl
theorem ar_sb {base : Bs} {H H' : Heap} (h : Sb base H H') {a w : Nat} {rows : List (List D)} {c : Option Nat} {p l : Bool} (ha : base.un a = true) (e : H[a]? = some (.ar w rows c p l)) : ∃ l', H'[a]? = some (.ar w rows c p l') := by
  have := h a ha
  rw [e] at this
  generalize H'[a]? = y at this
  cases this with
  | same => exact ⟨_, rfl⟩
  | lock => exact ⟨_, rfl⟩
section
variable {base : Bs} {H H' : Heap}
theorem ldAt_sb (h : Sb base H H') {x : D} {n : Nat} {r : List D} (hx : x.under base = true) (e : ldAt H x n = some r) : ldAt H' x n = some r := by
  unfold ldAt at *
  split at e
  · simp only [D.under] at hx
    split at e
    · rename_i hb; simp only [bx_sb h hx hb]; exact e
    · cases e
  · simp only [D.under] at hx
    split at e
    · rename_i hb; obtain ⟨l', hl⟩ := arr_sb h hx hb; simp only [hl]; exact e
    · cases e
  · simp only [D.under] at hx
    split at e
    · rename_i hb; obtain ⟨l', hl⟩ := ar_sb h hx hb; simp only [hl]; exact e
    · cases e
  · exact e
  · cases e
theorem iadD_sb (h : Sb base H H') {x ix : D} {w : Nat} {r : D} (hx : x.under base = true) (e : iadD H x ix w = some r) : iadD H' x ix w = some r := by
  unfold iadD at *
  split at e
  · exact e
  · exact e
  · simp only [D.under] at hx
    split at e
    · rename_i hb; obtain ⟨l', hl⟩ := arr_sb h hx hb; simp only [hl]; exact e
    · cases e
  · cases e
theorem iarD_sb (h : Sb base H H') {x ix : D} {n w : Nat} {r : D} (hx : x.under base = true) (e : iarD H x ix n w = some r) : iarD H' x ix n w = some r := by
  unfold iarD at *
  split at e
  · split at e
    · exact e
    · exact e
    · exact e
    · simp only [D.under] at hx
      split at e
      · rename_i hb; obtain ⟨l', hl⟩ := ar_sb h hx hb; simp only [hl]; exact e
      · cases e
    · cases e
  · cases e
theorem lenD_sb (h : Sb base H H') {x : D} {k : Nat} {r : D} (hx : x.under base = true) (e : lenD H k x = some r) : lenD H' k x = some r := by
  unfold lenD at *
  split at e
  · exact e
  · exact e
  · split at e
    · exact e
    · simp only [D.under] at hx
      split at e
      · rename_i hb; simp only [mp_sb h hx hb]; exact e
      · cases e
    · cases e
theorem capD_sb (h : Sb base H H') {x : D} {r : D} (hx : x.under base = true) (e : capD H x = some r) : capD H' x = some r := by
  unfold capD at *
  split at e
  · exact e
  · exact e
  · simp only [D.under] at hx
    split at e
    · rename_i hb; obtain ⟨l', hl⟩ := arr_sb h hx hb; simp only [hl]; exact e
    · cases e
  · cases e
theorem sliceD_sb (h : Sb base H H') {w : Nat} {x : D} {lo hi mx : Option D} {r : D} (hx : x.under base = true) (e : sliceD H w x lo hi mx = some r) : sliceD H' w x lo hi mx = some r := by
  unfold sliceD at *
  split at e
  · split at e
    · exact e
    · exact e
    · exact e
    · exact e
    · simp only [D.under] at hx
      split at e
      · rename_i hb; obtain ⟨l', hl⟩ := arr_sb h hx hb; simp only [hl]; exact e
      · cases e
    · cases e
  · exact e
theorem entsD_sb (h : Sb base H H') {x : D} {r : List (D × D)} (hx : x.under base = true) (e : entsD H x = some r) : entsD H' x = some r := by
  unfold entsD at *
  split at e
  · exact e
  · simp only [D.under] at hx
    split at e
    · rename_i hb; simp only [mp_sb h hx hb]; exact e
    · cases e
  · cases e
theorem lkD_sb (h : Sb base H H') {kk : KK} {m k : D} {ok : Bool} {zero r : D} (hx : m.under base = true) (e : lkD H kk m k ok zero = some r) : lkD H' kk m k ok zero = some r := by
  unfold lkD at *
  split at e
  · split at e
    · rename_i hb; simp only [entsD_sb h hx hb]; exact e
    · cases e
  · cases e
end
section
variable {base : Bs} {H H' : Heap}
def Wr (base : Bs) (ov : Bool) (H H' : Heap) : Prop := H.length ≤ H'.length ∧ (base.1 ≤ H.length → ov = true → Sb base H H')
theorem Wr.of_gr (ov : Bool) (h : Gr H H') : Wr base ov H H' := ⟨h.1, fun hb _ => h.2.mono hb⟩
theorem Wr.set {ov : Bool} {id : Nat} {b : Blk} (h : ov = true → base.ov id = true) : Wr base ov H (H.set id b) := ⟨by simp, fun _ ho => .set (h ho)⟩
theorem Wr.trans {ov : Bool} {H'' : Heap} (h : Wr base ov H H') (h' : Wr base ov H' H'') : Wr base ov H H'' :=
  ⟨Nat.le_trans h.1 h'.1, fun hb ho => (h.2 hb ho).trans (h'.2 (Nat.le_trans hb h.1) ho)⟩
theorem putRow_wr {a m i off : Nat} {vs : List D} (e : putRow H a m i off vs = some H') : Wr base (base.ov a) H H' := by
  unfold putRow at e
  split at e
  · split at e
    · split at e
      · cases e; exact .set (fun h => by simpa using h)
      · cases e
    · cases e
  · cases e
theorem stAt_wr {x : D} {vs : List D} (e : stAt H x vs = some H') : Wr base (x.over base) H H' := by
  unfold stAt at e
  split at e
  · split at e
    · split at e
      · cases e; exact .set (fun h => by simpa [D.over] using h)
      · cases e
    · cases e
  · split at e
    · split at e
      · rename_i hf
        split at e
        · exact (Wr.of_gr _ (freezeL_gr hf)).trans (putRow_wr e)
        · cases e
      · cases e
    · exact putRow_wr e
    · cases e
  · cases e
theorem appTo_wr {x d : D} {new : List (List D)} {w bytes : Nat} {p : Bool} (e : appTo H x new w bytes p = some (d, H')) : Wr base (x.over base) H H' := by
  have emp : ∀ x, appEmp H x new w bytes p = some (d, H') → Gr H H' := fun x e => by
    unfold appEmp at e
    split at e
    · cases e; exact .refl _
    · split at e
      · cases e; exact .push _ _
      · cases e
  have inn : ∀ {a off len : Nat} {rows : List (List D)} {c : Option Nat} {lk : Bool}, appIn H a off len rows new w c p lk = some (d, H') → Wr base (base.ov a) H H' := fun e => by
    unfold appIn at e
    split at e
    · cases e
    · cases e; exact .set (fun h => by simpa using h)
  have lit : ∀ x w', appLit H x new w' w = some (d, H') → Gr H H' := fun x w' e => by
    unfold appLit at e
    split at e
    · split at e
      · cases e; exact .refl _
      · cases e
    · cases e
  unfold appTo at e
  split at e
  · exact .of_gr _ (emp _ e)
  · exact .of_gr _ (emp _ e)
  · unfold appMu at e
    split at e
    · split at e
      · split at e
        · cases e; exact .of_gr _ (.refl _)
        · split at e
          · split at e
            · exact inn e
            · cases e
          · split at e
            · exact inn e
            · cases e; exact .of_gr _ (.push _ _)
      · cases e
    · cases e
  · exact .of_gr _ (lit _ _ e)
  · exact .of_gr _ (lit _ _ e)
  · cases e
theorem appD_wr {x y d : D} {w bytes : Nat} {p : Bool} (e : appD H x y w bytes p = some (d, H')) : Wr base (x.over base) H H' := by
  unfold appD at e
  split at e
  · split at e
    · split at e
      · rename_i hf; exact (Wr.of_gr _ (freezeRows_gr hf)).trans (appTo_wr e)
      · cases e
    · exact appTo_wr e
  · cases e
theorem cpyD_wr {x y d : D} {w : Nat} (e : cpyD H x y w = some (d, H')) : Wr base (x.over base) H H' := by
  unfold cpyD at e
  split at e
  · split at e
    · split at e
      · rename_i hf
        split at e
        · split at e
          · cases e; exact (Wr.of_gr _ (freezeRows_gr hf)).trans (.set (fun h => by simpa [D.over] using h))
          · cases e
        · cases e
      · cases e
    · cases e
  · split at e
    · cases e; exact .of_gr _ (.refl _)
    · cases e
  · split at e
    · cases e; exact .of_gr _ (.refl _)
    · cases e
  · cases e
theorem mupD_wr {kk : KK} {m k v : D} (e : mupD H kk m k v = some H') : Wr base (m.over base) H H' := by
  unfold mupD at e
  split at e
  · split at e
    · split at e
      · split at e
        · cases e; exact .set (fun h => by simpa [D.over] using h)
        · cases e
      · cases e
    · cases e
  · cases e
theorem mksD_gr {l c d : D} {w bytes : Nat} {zs : List D} {p : Bool} (e : mksD H l c w bytes zs p = some (d, H')) : Gr H H' := by
  unfold mksD at e
  split at e
  · split at e
    · split at e
      · cases e; exact .push _ _
      · cases e
    · cases e
  · cases e
theorem bslD_gr {w len : Nat} {zs : List D} {parts : List (Nat × D)} {p : Bool} {d : D} (e : bslD H w len zs parts p = some (d, H')) : Gr H H' := by
  unfold bslD at e
  split at e
  · cases e; exact .refl _
  · split at e
    · split at e
      · split at e
        · rename_i hf; cases e; exact (freezeRows_gr hf).trans (.push _ _)
        · cases e
      · cases e; exact .push _ _
    · cases e
end
structure CallFit (V : VProg) (cl : FuncId → List D → Heap → CR) : Prop where
  le : ∀ (f : FuncId) (args : List D) (H : Heap) (d : D) (H' : Heap), cl f args H = .ret d H' → H.length ≤ H'.length
  gr : ∀ (f : FuncId) (args : List D) (H : Heap) (d : D) (H' : Heap) (vf : VFunc), V.fn f = some vf → vf.pure = true → cl f args H = .ret d H' → Gr H H'
  pl : ∀ (f : FuncId) (args : List D) (H : Heap) (d : D) (H' : Heap) (vf : VFunc), V.fn f = some vf → vf.pure = true → vf.own = false → freeL args = true → cl f args H = .ret d H' → H' = H ∧ ∀ H2, cl f args H2 = .ret d H2
def appU (u : Option (Nat × D)) (sl : List D) : List D :=
  match u with
  | none => sl
  | some (k, e) => sl.set k e
def Like (op : VOp) (loc sl loc' sl' : List D) : Prop :=
  (∀ x ∈ op.args, x.ev loc' sl' = x.ev loc sl) ∧ ∀ a ∈ op.base, a.ev loc' sl' = a.ev loc sl ∧ ∀ k o, a.ev loc sl = some (k, o) → sl'[k]? = sl[k]?
def HcOk (base : Bs) (H H1 : Heap) : HC → Prop
  | .n | .r | .q => H1 = H
  | .a => Sb base H H1
  | .d => True
def HcIn (base : Bs) (H H' : Heap) : HC → Prop
  | .n => True
  | .r => Sb base H H'
  | .a | .d | .q => H' = H
def HcOut (H' H1 : Heap) : HC → Heap
  | .n | .r | .q => H'
  | .a | .d => H1
structure Eff (V : VProg) (cl : FuncId → List D → Heap → CR) (base : Bs) (hc : HC) (op : VOp) (loc sl : List D) (H : Heap) (d : D) (st1 : St) (u : Option (Nat × D)) : Prop where
  slot : st1.sl = appU u sl
  le : H.length ≤ st1.hp.length
  ok : HcOk base H st1.hp hc
  us : ∀ k e, u = some (k, e) → ∃ a x n o, op = .lst a x n ∧ a.ev loc sl = some (k, o)
  same : ∀ (loc' sl' : List D) (H' : Heap), Like op loc sl loc' sl' → HcIn base H H' hc → step V cl loc' ⟨sl', H'⟩ op = .v d ⟨appU u sl', HcOut H' st1.hp hc⟩
section
variable {V : VProg} {cl : FuncId → List D → Heap → CR} {base : Bs} {strict : Bool} {op : VOp} {loc sl : List D} {H : Heap} {d : D} {st1 : St}
theorem Eff.n {hc : HC} (hcn : hc = .n) {X : Option D} (hX : X = some d) (hst : st1 = ⟨sl, H⟩)
    (h : ∀ (loc' sl' : List D) (H' : Heap), Like op loc sl loc' sl' → step V cl loc' ⟨sl', H'⟩ op = ofO ⟨sl', H'⟩ X) : Eff V cl base hc op loc sl H d st1 none := by
  subst hst; subst hcn
  exact ⟨rfl, Nat.le_refl _, rfl, fun k e h => (by cases h), fun loc' sl' H' hl _ => by rw [h loc' sl' H' hl, hX]; rfl⟩
theorem Eff.r {hc : HC} (hcn : hc = .r) {X : Heap → Option D} (_hX : X H = some d) (hst : st1 = ⟨sl, H⟩) (hsb : ∀ H', Sb base H H' → X H' = some d)
    (h : ∀ (loc' sl' : List D) (H' : Heap), Like op loc sl loc' sl' → step V cl loc' ⟨sl', H'⟩ op = ofO ⟨sl', H'⟩ (X H')) : Eff V cl base hc op loc sl H d st1 none := by
  subst hst; subst hcn
  exact ⟨rfl, Nat.le_refl _, rfl, fun k e h => (by cases h), fun loc' sl' H' hl hs => by rw [h loc' sl' H' hl, hsb H' hs]; rfl⟩
theorem Eff.q {hc : HC} (hcn : hc = .q) {X : Heap → Option D} (hX : X H = some d) (hst : st1 = ⟨sl, H⟩)
    (h : ∀ (loc' sl' : List D) (H' : Heap), Like op loc sl loc' sl' → step V cl loc' ⟨sl', H'⟩ op = ofO ⟨sl', H'⟩ (X H')) : Eff V cl base hc op loc sl H d st1 none := by
  subst hst; subst hcn
  exact ⟨rfl, Nat.le_refl _, rfl, fun k e h => (by cases h), fun loc' sl' H' hl hs => by cases hs; rw [h loc' sl' H hl, hX]; rfl⟩
theorem Eff.w {hc : HC} (hcn : hc = .a ∨ hc = .d) {ov : Bool} (hsl : st1.sl = sl) (hw : Wr base ov H st1.hp) (hb : base.1 ≤ H.length) (hov : hc = .a → ov = true)
    (h : ∀ (loc' sl' : List D), Like op loc sl loc' sl' → step V cl loc' ⟨sl', H⟩ op = .v d ⟨sl', st1.hp⟩) : Eff V cl base hc op loc sl H d st1 none := by
  refine ⟨hsl, hw.1, ?_, fun k e h => (by cases h), fun loc' sl' H' hl hs => ?_⟩
  · rcases hcn with rfl | rfl
    · exact hw.2 hb (hov rfl)
    · trivial
  · rcases hcn with rfl | rfl
    · cases hs; exact h loc' sl' hl
    · cases hs; exact h loc' sl' hl
theorem Like.one {x : O} {loc' sl' : List D} (h : Like op loc sl loc' sl') (hx : x ∈ op.args) : x.ev loc' sl' = x.ev loc sl := h.1 x hx
theorem Like.all {xs : List O} {loc' sl' : List D} (h : Like op loc sl loc' sl') (hx : ∀ x ∈ xs, x ∈ op.args) : xs.map (O.ev loc' sl') = xs.map (O.ev loc sl) :=
  List.map_congr_left fun x hm => h.1 x (hx x hm)
theorem Like.opt {x : Option O} {loc' sl' : List D} (h : Like op loc sl loc' sl') (hx : ∀ y, x = some y → y ∈ op.args) : x.map (O.ev loc' sl') = x.map (O.ev loc sl) := by
  cases x with
  | none => rfl
  | some y => exact congrArg some (h.1 y (hx y rfl))
theorem fits_reads (h : op.fits (some (base, strict)) loc sl = true) {x : O} (hx : x ∈ op.reads) : (x.ev loc sl).under base = true := by
  cases strict <;> simp only [VOp.fits, Bool.and_eq_true, List.all_eq_true] at h
  · exact h x hx
  · exact h.1 x hx
theorem fits_writes (h : op.fits (some (base, true)) loc sl = true) {x : O} (hx : x ∈ op.writes) : (x.ev loc sl).over base = true := by
  simp only [VOp.fits, Bool.and_eq_true, List.all_eq_true] at h
  exact h.2 x hx
theorem step_eff (hcl : CallFit V cl) (hb : base.1 ≤ H.length) (hfit : op.fits (some (base, strict)) loc sl = true) (h : step V cl loc ⟨sl, H⟩ op = .v d st1) :
    ∃ u, Eff V cl base (op.hc V strict) op loc sl H d st1 u := by
  have wr : ∀ {x : O}, x ∈ op.writes → ((if strict then HC.a else .d) = .a → (x.ev loc sl).over base = true) := fun {x} hx he => by
    cases strict with
    | true => exact fits_writes hfit hx
    | false => cases he
  have sd : (if strict then HC.a else .d) = HC.a ∨ (if strict then HC.a else .d) = HC.d := by cases strict <;> simp
  cases op with
  | mov x => 
    simp only [step] at h
    cases h
    exact ⟨none, .n rfl (X := some (x.ev loc sl)) rfl rfl (fun loc' sl' H' hl => by simp only [step, hl.one (x := x) (by simp [VOp.args])]; rfl)⟩
  | pick a b c => 
    obtain ⟨h1, h2⟩ := ofO_inv h
    exact ⟨none, .n rfl h1 h2 (fun loc' sl' H' hl => by simp only [step, hl.one (x := a) (by simp [VOp.args]), hl.one (x := b) (by simp [VOp.args]), hl.one (x := c) (by simp [VOp.args])])⟩
  | lal zs => 
    simp only [step] at h
    cases h
    exact ⟨none, .n rfl (X := some (.bx zs)) rfl rfl (fun loc' sl' H' hl => rfl)⟩
  | lbx x n => 
    obtain ⟨h1, h2⟩ := ofO_inv h
    exact ⟨none, .n rfl h1 h2 (fun loc' sl' H' hl => by simp only [step, hl.one (x := x) (by simp [VOp.args])])⟩
  | hal t zs => 
    simp only [step] at h
    cases h
    exact ⟨none, .w (ov := true) (.inl rfl) rfl (.of_gr _ (.push _ _)) hb (fun _ => rfl) (fun loc' sl' hl => rfl)⟩
  | hbx t x n => 
    obtain ⟨h1, h2⟩ := ofP_inv h
    refine ⟨none, .w (ov := true) (.inl rfl) (by rw [h2]) (.of_gr _ ?_) hb (fun _ => rfl) (fun loc' sl' hl => ?_)⟩
    · simp only [Option.map_eq_some_iff] at h1
      obtain ⟨cs, _, h1⟩ := h1
      simp only [Prod.mk.injEq] at h1
      rw [← h1.2]; exact .push _ _
    · simp only [step, hl.one (x := x) (by simp [VOp.args])]
      rw [h1]; rfl
  | haa w zs p => 
    simp only [step] at h
    cases h
    exact ⟨none, .w (ov := true) (.inl rfl) rfl (.of_gr _ (.push _ _)) hb (fun _ => rfl) (fun loc' sl' hl => rfl)⟩
  | lfa a off => 
    simp only [step] at h
    split at h
    · rename_i k o ha
      cases h
      exact ⟨none, .n rfl (X := some (.lp k (o + off))) rfl rfl (fun loc' sl' H' hl => by simp only [step, (hl.2 a (by simp [VOp.base])).1, ha]; rfl)⟩
    · cases h
  | lia a ix n w => 
    simp only [step] at h
    split at h
    · rename_i k o ha
      split at h
      · rename_i j hj
        cases h
        exact ⟨none, .n rfl (X := some (.lp k (o + j * w))) rfl rfl (fun loc' sl' H' hl => by simp only [step, (hl.2 a (by simp [VOp.base])).1, ha, hl.one (x := ix) (by simp [VOp.args]), hj]; rfl)⟩
      · cases h
    · cases h
  | lld a n agg => 
    simp only [step] at h
    split at h
    · rename_i k o ha
      split at h
      · rename_i cs hcs
        split at h
        · rename_i r hr
          obtain ⟨h1, h2⟩ := ofO_inv h
          exact ⟨none, .n rfl h1 h2 (fun loc' sl' H' hl => by
            have e1 := (hl.2 a (by simp [VOp.base])).1
            have e2 := (hl.2 a (by simp [VOp.base])).2 k o ha
            simp only [boxAt] at hcs
            simp only [step, e1, ha, boxAt, e2, hcs, hr])⟩
        · cases h
      · cases h
    · cases h
  | lst a x n => 
    simp only [step] at h
    split at h
    · rename_i k o ha
      split at h
      · rename_i cs hcs
        split at h
        · rename_i vs hvs
          split at h
          · rename_i cs' hput
            cases h
            refine ⟨some (k, .bx cs'), rfl, Nat.le_refl _, rfl, fun k' e he => ?_, fun loc' sl' H' hl _ => ?_⟩
            · cases he; exact ⟨a, x, n, o, rfl, ha⟩
            · have e1 := (hl.2 a (by simp [VOp.base])).1
              have e2 := (hl.2 a (by simp [VOp.base])).2 k o ha
              simp only [boxAt] at hcs
              simp only [step, e1, ha, boxAt, e2, hcs, hl.one (x := x) (by simp [VOp.args]), hvs, hput]
              rfl
          · cases h
        · cases h
      · cases h
    · cases h
  | fad x off => 
    obtain ⟨h1, h2⟩ := ofO_inv h
    exact ⟨none, .n rfl h1 h2 (fun loc' sl' H' hl => by simp only [step, hl.one (x := x) (by simp [VOp.args])])⟩
  | iad x ix w => 
    obtain ⟨h1, h2⟩ := ofO_inv h
    exact ⟨none, .r rfl (X := fun H => iadD H (x.ev loc sl) (ix.ev loc sl) w) h1 h2 (fun H' hs => iadD_sb hs (fits_reads hfit (by simp [VOp.reads])) h1)
      (fun loc' sl' H' hl => by simp only [step, hl.one (x := x) (by simp [VOp.args]), hl.one (x := ix) (by simp [VOp.args])])⟩
  | iar x ix n w => 
    obtain ⟨h1, h2⟩ := ofO_inv h
    exact ⟨none, .r rfl (X := fun H => iarD H (x.ev loc sl) (ix.ev loc sl) n w) h1 h2 (fun H' hs => iarD_sb hs (fits_reads hfit (by simp [VOp.reads])) h1)
      (fun loc' sl' H' hl => by simp only [step, hl.one (x := x) (by simp [VOp.args]), hl.one (x := ix) (by simp [VOp.args])])⟩
  | ld x n agg => 
    simp only [step] at h
    split at h
    · rename_i r hr
      obtain ⟨h1, h2⟩ := ofO_inv h
      exact ⟨none, .r rfl (X := fun H => match ldAt H (x.ev loc sl) n with | some r => val agg r | none => none) (by simp only [hr]; exact h1) h2
        (fun H' hs => by simp only [ldAt_sb hs (fits_reads hfit (by simp [VOp.reads])) hr]; exact h1)
        (fun loc' sl' H' hl => by
          simp only [step, hl.one (x := x) (by simp [VOp.args])]
          cases ldAt H' (x.ev loc sl) n <;> rfl)⟩
    · cases h
  | ldq x n agg => 
    simp only [step] at h
    split at h
    · rename_i r hr
      obtain ⟨h1, h2⟩ := ofO_inv h
      exact ⟨none, .q rfl (X := fun H => match ldAt H (x.ev loc sl) n with | some r => val agg r | none => none) (by simp only [hr]; exact h1) h2
        (fun loc' sl' H' hl => by
          simp only [step, hl.one (x := x) (by simp [VOp.args])]
          cases ldAt H' (x.ev loc sl) n <;> rfl)⟩
    · cases h
  | st x v n => 
    simp only [step] at h
    split at h
    · rename_i vs hvs
      obtain ⟨h1, h2, h3⟩ := ofH_inv h
      exact ⟨none, .w sd (by rw [h3]) (stAt_wr h1) hb (wr (by simp [VOp.writes])) (fun loc' sl' hl => by
        simp only [step, hl.one (x := x) (by simp [VOp.args]), hl.one (x := v) (by simp [VOp.args]), hvs, h1, ofH, h2])⟩
    · cases h
  | bin o x y => 
    obtain ⟨h1, h2⟩ := ofO_inv h
    exact ⟨none, .n rfl h1 h2 (fun loc' sl' H' hl => by simp only [step, hl.one (x := x) (by simp [VOp.args]), hl.one (x := y) (by simp [VOp.args])])⟩
  | eqv neg k x y => 
    obtain ⟨h1, h2⟩ := ofO_inv h
    exact ⟨none, .n rfl h1 h2 (fun loc' sl' H' hl => by simp only [step, hl.one (x := x) (by simp [VOp.args]), hl.one (x := y) (by simp [VOp.args])])⟩
  | un o x => 
    obtain ⟨h1, h2⟩ := ofO_inv h
    exact ⟨none, .n rfl h1 h2 (fun loc' sl' H' hl => by simp only [step, hl.one (x := x) (by simp [VOp.args])])⟩
  | cvi k x => 
    obtain ⟨h1, h2⟩ := ofO_inv h
    exact ⟨none, .n rfl h1 h2 (fun loc' sl' H' hl => by simp only [step, hl.one (x := x) (by simp [VOp.args])])⟩
  | cvs x => 
    obtain ⟨h1, h2⟩ := ofO_inv h
    exact ⟨none, .n rfl h1 h2 (fun loc' sl' H' hl => by simp only [step, hl.one (x := x) (by simp [VOp.args])])⟩
  | cbs x => 
    obtain ⟨h1, h2⟩ := ofO_inv h
    exact ⟨none, .q rfl (X := fun H => cbsD H (x.ev loc sl)) h1 h2
      (fun loc' sl' H' hl => by simp only [step, hl.one (x := x) (by simp [VOp.args])])⟩
  | csb x => 
    obtain ⟨h1, h2⟩ := ofO_inv h
    exact ⟨none, .n rfl h1 h2 (fun loc' sl' H' hl => by simp only [step, hl.one (x := x) (by simp [VOp.args])])⟩
  | agc zs parts => 
    obtain ⟨h1, h2⟩ := ofO_inv h
    exact ⟨none, .n rfl h1 h2 (fun loc' sl' H' hl => by
      have e : (parts.map fun p => (p.1, p.2.1, O.ev loc' sl' p.2.2)) = parts.map fun p => (p.1, p.2.1, O.ev loc sl p.2.2) := List.map_congr_left fun p hp => by
        rw [hl.one (x := p.2.2) (by simp only [VOp.args, List.mem_map]; exact ⟨p, hp, rfl⟩)]
      show ofO _ (Option.map D.ag (fillC zs (parts.map fun p => (p.1, p.2.1, O.ev loc' sl' p.2.2)))) = _
      rw [e])⟩
  | bsl w len zs parts p => 
    obtain ⟨h1, h2⟩ := ofP_inv h
    exact ⟨none, .w (ov := true) (.inl rfl) (by rw [h2]) (.of_gr _ (bslD_gr h1)) hb (fun _ => rfl) (fun loc' sl' hl => by
      have e : (parts.map fun p => (p.1, O.ev loc' sl' p.2)) = parts.map fun p => (p.1, O.ev loc sl p.2) := List.map_congr_left fun p hp => by
        rw [hl.one (x := p.2) (by simp only [VOp.args, List.mem_map]; exact ⟨p, hp, rfl⟩)]
      show ofP _ (bslD H w len zs (parts.map fun p => (p.1, O.ev loc' sl' p.2)) p) = _
      rw [e]
      have h1' : bslD H w len zs (parts.map fun p => (p.1, O.ev loc sl p.2)) p = some (d, st1.hp) := h1
      rw [h1']; rfl)⟩
  | bsv w len zs parts => 
    obtain ⟨h1, h2⟩ := ofO_inv h
    exact ⟨none, .n rfl h1 h2 (fun loc' sl' H' hl => by
      have e : (parts.map fun p => (p.1, O.ev loc' sl' p.2)) = parts.map fun p => (p.1, O.ev loc sl p.2) := List.map_congr_left fun p hp => by
        rw [hl.one (x := p.2) (by simp only [VOp.args, List.mem_map]; exact ⟨p, hp, rfl⟩)]
      show ofO _ (bsvD w len zs (parts.map fun p => (p.1, O.ev loc' sl' p.2))) = _
      rw [e])⟩
  | len k x =>
    obtain ⟨h1, h2⟩ := ofO_inv h
    clear wr
    match k, hfit, h, h1 with
    | 0, hfit, h, h1 => exact ⟨none, .n rfl h1 h2 (fun loc' sl' H' hl => by simp only [step, hl.one (x := x) (by simp [VOp.args])]; rfl)⟩
    | 1, hfit, h, h1 => exact ⟨none, .n rfl h1 h2 (fun loc' sl' H' hl => by simp only [step, hl.one (x := x) (by simp [VOp.args])]; rfl)⟩
    | k + 2, hfit, h, h1 =>
      exact ⟨none, .r rfl (X := fun H => lenD H (k + 2) (x.ev loc sl)) h1 h2 (fun H' hs => lenD_sb hs (fits_reads hfit (by simp [VOp.reads])) h1)
        (fun loc' sl' H' hl => by simp only [step, hl.one (x := x) (by simp [VOp.args])])⟩
  | cap x => 
    obtain ⟨h1, h2⟩ := ofO_inv h
    exact ⟨none, .r rfl (X := fun H => capD H (x.ev loc sl)) h1 h2 (fun H' hs => capD_sb hs (fits_reads hfit (by simp [VOp.reads])) h1)
      (fun loc' sl' H' hl => by simp only [step, hl.one (x := x) (by simp [VOp.args])])⟩
  | app x y w bytes p => 
    obtain ⟨h1, h2⟩ := ofP_inv h
    exact ⟨none, .w sd (by rw [h2]) (appD_wr h1) hb (wr (by simp [VOp.writes])) (fun loc' sl' hl => by
      try simp only at h1
      simp only [step, hl.one (x := x) (by simp [VOp.args]), hl.one (x := y) (by simp [VOp.args]), h1, ofP])⟩
  | cpy x y w => 
    obtain ⟨h1, h2⟩ := ofP_inv h
    exact ⟨none, .w sd (by rw [h2]) (cpyD_wr h1) hb (wr (by simp [VOp.writes])) (fun loc' sl' hl => by
      try simp only at h1
      simp only [step, hl.one (x := x) (by simp [VOp.args]), hl.one (x := y) (by simp [VOp.args]), h1, ofP])⟩
  | mks l c w bytes zs p => 
    obtain ⟨h1, h2⟩ := ofP_inv h
    exact ⟨none, .w (ov := true) (.inl rfl) (by rw [h2]) (.of_gr _ (mksD_gr h1)) hb (fun _ => rfl) (fun loc' sl' hl => by
      try simp only at h1
      simp only [step, hl.one (x := l) (by simp [VOp.args]), hl.one (x := c) (by simp [VOp.args]), h1, ofP])⟩
  | sli str w x lo hi mx => 
    have eo : ∀ {loc' sl' : List D}, Like (.sli str w x lo hi mx) loc sl loc' sl' → lo.map (O.ev loc' sl') = lo.map (O.ev loc sl) ∧ hi.map (O.ev loc' sl') = hi.map (O.ev loc sl) ∧ mx.map (O.ev loc' sl') = mx.map (O.ev loc sl) := fun hl =>
      ⟨hl.opt (x := lo) (by simp +contextual [VOp.args]), hl.opt (x := hi) (by simp +contextual [VOp.args]), hl.opt (x := mx) (by simp +contextual [VOp.args])⟩
    cases str with
    | true =>
      obtain ⟨h1, h2⟩ := ofO_inv h
      exact ⟨none, .r rfl (X := fun _ => sliceS (x.ev loc sl) (lo.map (O.ev loc sl)) (hi.map (O.ev loc sl)) (mx.map (O.ev loc sl))) h1 h2 (fun H' hs => h1)
        (fun loc' sl' H' hl => by
          obtain ⟨e1, e2, e3⟩ := eo hl
          simp only [step, hl.one (x := x) (by simp [VOp.args]), e1, e2, e3])⟩
    | false =>
      obtain ⟨h1, h2⟩ := ofO_inv h
      exact ⟨none, .r rfl (X := fun H => sliceD H w (x.ev loc sl) (lo.map (O.ev loc sl)) (hi.map (O.ev loc sl)) (mx.map (O.ev loc sl))) h1 h2 (fun H' hs => sliceD_sb hs (fits_reads hfit (by simp [VOp.reads])) h1)
        (fun loc' sl' H' hl => by
          obtain ⟨e1, e2, e3⟩ := eo hl
          simp only [step, hl.one (x := x) (by simp [VOp.args]), e1, e2, e3])⟩
  | sla x n w lo hi => 
    obtain ⟨h1, h2⟩ := ofO_inv h
    exact ⟨none, .w (ov := true) (.inl rfl) (by rw [h2]) (by rw [h2]; exact .of_gr _ (.refl _)) hb (fun _ => rfl) (fun loc' sl' hl => by
      simp only [step, hl.one (x := x) (by simp [VOp.args])]
      rw [hl.opt (x := lo) (by simp +contextual [VOp.args]), hl.opt (x := hi) (by simp +contextual [VOp.args])]
      try simp only at h1
      rw [h1, h2]; rfl)⟩
  | ixs x ix => 
    obtain ⟨h1, h2⟩ := ofO_inv h
    exact ⟨none, .n rfl h1 h2 (fun loc' sl' H' hl => by simp only [step, hl.one (x := x) (by simp [VOp.args]), hl.one (x := ix) (by simp [VOp.args])])⟩
  | fld x off n agg => 
    obtain ⟨h1, h2⟩ := ofO_inv h
    exact ⟨none, .n rfl h1 h2 (fun loc' sl' H' hl => by simp only [step, hl.one (x := x) (by simp [VOp.args])])⟩
  | ext x j => 
    obtain ⟨h1, h2⟩ := ofO_inv h
    exact ⟨none, .n rfl h1 h2 (fun loc' sl' H' hl => by simp only [step, hl.one (x := x) (by simp [VOp.args])])⟩
  | mkf f xs ys => 
    simp only [step] at h
    cases h
    exact ⟨none, .n rfl (X := some (.fn f (xs.map (O.ev loc sl)) (ys.map (O.ev loc sl)))) rfl rfl (fun loc' sl' H' hl => by
      simp only [step]
      rw [hl.all (xs := xs) (by simp +contextual [VOp.args]), hl.all (xs := ys) (by simp +contextual [VOp.args])]; rfl)⟩
  | mkm => 
    simp only [step] at h
    cases h
    exact ⟨none, .w (ov := true) (.inl rfl) rfl (.of_gr _ (.push _ _)) hb (fun _ => rfl) (fun loc' sl' hl => rfl)⟩
  | lk kk m k ok zero => 
    obtain ⟨h1, h2⟩ := ofO_inv h
    exact ⟨none, .r rfl (X := fun H => lkD H kk (m.ev loc sl) (k.ev loc sl) ok zero) h1 h2 (fun H' hs => lkD_sb hs (fits_reads hfit (by simp [VOp.reads])) h1)
      (fun loc' sl' H' hl => by simp only [step, hl.one (x := m) (by simp [VOp.args]), hl.one (x := k) (by simp [VOp.args])])⟩
  | mup kk m k v => 
    obtain ⟨h1, h2, h3⟩ := ofH_inv h
    exact ⟨none, .w sd (by rw [h3]) (mupD_wr h1) hb (wr (by simp [VOp.writes])) (fun loc' sl' hl => by
      try simp only at h1
      simp only [step, hl.one (x := m) (by simp [VOp.args]), hl.one (x := k) (by simp [VOp.args]), hl.one (x := v) (by simp [VOp.args]), h1, ofH, h2])⟩
  | mki t x => 
    simp only [step] at h
    cases h
    exact ⟨none, .n rfl (X := some (.ifc t (x.ev loc sl))) rfl rfl (fun loc' sl' H' hl => by simp only [step, hl.one (x := x) (by simp [VOp.args])]; rfl)⟩
  | tas x t ok zero => 
    obtain ⟨h1, h2⟩ := ofO_inv h
    exact ⟨none, .n rfl h1 h2 (fun loc' sl' H' hl => by simp only [step, hl.one (x := x) (by simp [VOp.args])])⟩
  | nck x => 
    obtain ⟨h1, h2⟩ := ofO_inv h
    exact ⟨none, .n rfl h1 h2 (fun loc' sl' H' hl => by simp only [step, hl.one (x := x) (by simp [VOp.args])])⟩
  | mx xs => 
    obtain ⟨h1, h2⟩ := ofO_inv h
    exact ⟨none, .n rfl h1 h2 (fun loc' sl' H' hl => by simp only [step]; rw [hl.all (xs := xs) (by simp [VOp.args])])⟩
  | mn xs => 
    obtain ⟨h1, h2⟩ := ofO_inv h
    exact ⟨none, .n rfl h1 h2 (fun loc' sl' H' hl => by simp only [step]; rw [hl.all (xs := xs) (by simp [VOp.args])])⟩
  | call f xs => 
    simp only [step] at h
    obtain ⟨h1, h2⟩ := toR_inv h
    refine ⟨none, .w (ov := match V.fn f with | some vf => vf.pure | none => false) ?_ (by rw [h2]) ⟨hcl.le _ _ _ _ _ h1, fun hb ho => ?_⟩ hb ?_ (fun loc' sl' hl => by
      simp only [step]
      rw [hl.all (xs := xs) (by simp [VOp.args]), h1]
      rfl)⟩
    · simp only [VOp.hc]
      split
      · split <;> simp
      · simp
    · split at ho
      · rename_i vf hvf; exact (hcl.gr _ _ _ _ _ vf hvf ho h1).2.mono hb
      · cases ho
    · simp only [VOp.hc]
      cases hv : V.fn f with
      | none => simp
      | some vf => cases hp : vf.pure <;> simp [hp]
  | calv x xs => 
    simp only [step] at h
    split at h
    · rename_i f first captured hx
      obtain ⟨h1, h2⟩ := toR_inv h
      exact ⟨none, .w (ov := false) (.inr rfl) (by rw [h2]) ⟨hcl.le _ _ _ _ _ h1, fun _ ho => by cases ho⟩ hb (fun hh => by cases hh) (fun loc' sl' hl => by
        simp only [step, hl.one (x := x) (by simp [VOp.args]), hx]
        rw [hl.all (xs := xs) (by simp +contextual [VOp.args]), h1]
        rfl)⟩
    · cases h
  | inv x m xs => 
    simp only [step] at h
    split at h
    · rename_i t v hx
      split at h
      · rename_i f hf
        obtain ⟨h1, h2⟩ := toR_inv h
        exact ⟨none, .w (ov := false) (.inr rfl) (by rw [h2]) ⟨hcl.le _ _ _ _ _ h1, fun _ ho => by cases ho⟩ hb (fun hh => by cases hh) (fun loc' sl' hl => by
          simp only [step, hl.one (x := x) (by simp [VOp.args]), hx, hf]
          rw [hl.all (xs := xs) (by simp +contextual [VOp.args]), h1]
          rfl)⟩
      · cases h
    · cases h
  | pan x => simp only [step, panD] at h; split at h <;> cases h
  | stk => simp only [step] at h; cases h
  | ixa x ix n w agg => 
    obtain ⟨h1, h2⟩ := ofO_inv h
    exact ⟨none, .n rfl h1 h2 (fun loc' sl' H' hl => by simp only [step, hl.one (x := x) (by simp [VOp.args]), hl.one (x := ix) (by simp [VOp.args])])⟩
  | cpl f xs => 
    simp only [step] at h
    cases hv : V.fn f with
    | none => rw [hv] at h; cases h
    | some vf =>
      rw [hv] at h
      simp only at h
      split at h
      · rename_i hc
        obtain ⟨h1, h2⟩ := toR_inv h
        have h1' := rets_inv h1
        simp only [Bool.and_eq_true, Bool.not_eq_true'] at hc
        obtain ⟨g1, g2⟩ := hcl.pl _ _ _ _ _ vf hv hc.1.1 hc.1.2 hc.2 h1'
        refine ⟨none, .n rfl (X := some d) rfl (by rw [h2, g1]) (fun loc' sl' H' hl => ?_)⟩
        simp only [step, hv]
        rw [hl.all (xs := xs) (by simp [VOp.args]), g2 H']
        simp only [hc.1.1, hc.1.2, hc.2]
        rfl
      · cases h
  | gia g ix n w => 
    obtain ⟨h1, h2⟩ := ofO_inv h
    exact ⟨none, .n rfl h1 h2 (fun loc' sl' H' hl => by simp only [step, hl.one (x := ix) (by simp [VOp.args])])⟩
  | calx f xs => 
    simp only [step] at h
    obtain ⟨h1, h2⟩ := toR_inv h
    have h1' := adds_inv h1
    obtain ⟨t, ht⟩ := (extH_iff _ _).1 h1'.2
    refine ⟨none, .w (ov := true) (.inl rfl) (by rw [h2]) (.of_gr _ (by rw [ht]; exact .push _ _)) hb (fun _ => rfl) (fun loc' sl' hl => ?_)⟩
    simp only [step]
    rw [hl.all (xs := xs) (by simp [VOp.args]), h1]
    rfl
end
section
variable {V : VProg} {cl : FuncId → List D → Heap → CR} {base : Bs} {strict : Bool} {vos : List VOper} {rt : List (Option Nat)}
def upds (us : List (Nat × D)) (sl : List D) : List D := us.foldl (fun s u => s.set u.1 u.2) sl
theorem upds_get : ∀ (us : List (Nat × D)) (sl : List D) (k : Nat), (∀ u ∈ us, u.1 ≠ k) → (upds us sl)[k]? = sl[k]?
  | [], _, _, _ => rfl
  | u :: us, sl, k, h => by
    have := upds_get us (sl.set u.1 u.2) k (fun v hv => h v (List.mem_cons_of_mem _ hv))
    unfold upds at *
    rw [List.foldl_cons, this, List.getElem?_set_ne (h u List.mem_cons_self)]
theorem upds_set : ∀ (us : List (Nat × D)) (sl : List D) (k : Nat) (d : D), (∀ u ∈ us, u.1 ≠ k) → upds us (sl.set k d) = (upds us sl).set k d
  | [], _, _, _, _ => rfl
  | u :: us, sl, k, d, h => by
    have := upds_set us (sl.set u.1 u.2) k d (fun v hv => h v (List.mem_cons_of_mem _ hv))
    unfold upds at *
    rw [List.foldl_cons, List.foldl_cons, ← this, List.set_comm _ _ (h u List.mem_cons_self).symm]
theorem upds_comm : ∀ (vs us : List (Nat × D)) (sl : List D), (∀ u ∈ us, ∀ v ∈ vs, u.1 ≠ v.1) → upds vs (upds us sl) = upds us (upds vs sl)
  | [], _, _, _ => rfl
  | v :: vs, us, sl, h => by
    have := upds_comm vs us (sl.set v.1 v.2) (fun u hu w hw => h u hu w (List.mem_cons_of_mem _ hw))
    show upds vs ((upds us sl).set v.1 v.2) = upds us (upds vs (sl.set v.1 v.2))
    rw [← upds_set us sl v.1 v.2 (fun u hu => h u hu v List.mem_cons_self)]
    exact this
def keepU (keep : Option Nat) (d : D) : List (Nat × D) :=
  match keep with
  | none => []
  | some k => [(k, d)]
theorem upds_step (u : Option (Nat × D)) (keep : Option Nat) (d : D) (sl : List D) : setSl (appU u sl) keep d = upds (u.toList ++ keepU keep d) sl := by
  cases u <;> cases keep <;> rfl
def LP (vos : List VOper) (rt : List (Option Nat)) (loc : List D) : Prop :=
  ∀ (i : Nat) (vo : VOper) (k o : Nat), vos[i]? = some vo → vo.op.isAddr = true → loc[i]? = some (.lp k o) → rt[i]? = some (some k)
structure BaseOk (vos : List VOper) (rt : List (Option Nat)) : Prop where
  addr : ∀ (i : Nat) (vo : VOper) (j : Nat), vos[i]? = some vo → AB.lo j ∈ vo.op.base → ∃ vj, vos[j]? = some vj ∧ vj.op.isAddr = true
  step : ∀ (i : Nat) (vo : VOper), vos[i]? = some vo → rt[i]? = some (rootStep rt vo)
structure Inv (base : Bs) (vos : List VOper) (rt : List (Option Nat)) (loc : List D) (st : St) : Prop where
  len : loc.length = vos.length
  b : base.1 ≤ st.hp.length
  lp : LP vos rt loc
def LikeR (rt : List (Option Nat)) (o : VOper) (loc sl loc' sl' : List D) : Prop :=
  (∀ j ∈ o.locR, loc'[j]? = loc[j]?) ∧ ∀ k ∈ o.slR rt, sl'[k]? = sl[k]?
theorem LikeR.ev {o : VOper} {loc sl loc' sl' : List D} (h : LikeR rt o loc sl loc' sl') {x : O} (h1 : ∀ j ∈ x.locs, j ∈ o.locR) (h2 : ∀ k ∈ x.slots, k ∈ o.slR rt) : x.ev loc' sl' = x.ev loc sl := by
  cases x with
  | l i => simp only [O.ev, List.getD_eq_getElem?_getD, h.1 i (h1 i (by simp [O.locs]))]
  | s k => simp only [O.ev, List.getD_eq_getElem?_getD, h.2 k (h2 k (by simp [O.slots]))]
  | c d => rfl
theorem LikeR.wants {o : VOper} {loc sl loc' sl' : List D} (h : LikeR rt o loc sl loc' sl') : o.wants loc' sl' = o.wants loc sl := by
  unfold VOper.wants
  cases hg : o.guard with
  | none => rfl
  | some p =>
    obtain ⟨x, w⟩ := p
    simp only
    rw [h.ev (x := x) (fun j hj => by simp only [VOper.locR, hg]; exact List.mem_append_right _ hj) (fun k hk => by simp only [VOper.slR, hg]; exact List.mem_append_right _ hk)]
theorem LikeR.args {o : VOper} {loc sl loc' sl' : List D} (h : LikeR rt o loc sl loc' sl') {x : O} (hx : x ∈ o.op.args) : x.ev loc' sl' = x.ev loc sl :=
  h.ev (fun j hj => List.mem_append_left _ (List.mem_append_left _ (List.mem_flatMap.2 ⟨x, hx, hj⟩))) (fun k hk => List.mem_append_left _ (List.mem_append_left _ (List.mem_flatMap.2 ⟨x, hx, hk⟩)))
theorem LikeR.like {o : VOper} {i : Nat} {loc sl loc' sl' : List D} (bo : BaseOk vos rt) (ho : vos[i]? = some o) (hlp : LP vos rt loc) (h : LikeR rt o loc sl loc' sl') : Like o.op loc sl loc' sl' := by
  refine ⟨fun x hx => h.args hx, fun a ha => ?_⟩
  have hl : ∀ j ∈ a.locs, loc'[j]? = loc[j]? := fun j hj => h.1 j (List.mem_append_left _ (List.mem_append_right _ (List.mem_flatMap.2 ⟨a, ha, hj⟩)))
  have hs : ∀ k ∈ rootOf rt a, sl'[k]? = sl[k]? := fun k hk => h.2 k (List.mem_append_left _ (List.mem_append_right _ (List.mem_flatMap.2 ⟨a, ha, hk⟩)))
  cases a with
  | sl k =>
    have hk := hs k (by simp [rootOf])
    refine ⟨by simp only [AB.ev, hk], fun k' o' e => ?_⟩
    simp only [AB.ev] at e
    split at e
    · cases e; exact hk
    · cases e
  | lo j =>
    have hj := hl j (by simp [AB.locs])
    refine ⟨by simp only [AB.ev, hj], fun k' o' e => ?_⟩
    simp only [AB.ev] at e
    split at e
    · rename_i hlj
      cases e
      obtain ⟨vj, h1, h2⟩ := bo.addr i o j ho ha
      exact hs k' (by simp [rootOf, hlp j vj k' _ h1 h2 hlj])
    · cases e
theorem reads_args (op : VOp) : ∀ x ∈ op.reads, x ∈ op.args := by
  cases op with
  | len k x => match k with
    | 0 => simp [VOp.reads]
    | 1 => simp [VOp.reads]
    | k + 2 => simp [VOp.reads, VOp.args]
  | _ => simp [VOp.reads, VOp.args]
theorem writes_args (op : VOp) : ∀ x ∈ op.writes, x ∈ op.args := by
  cases op <;> simp [VOp.writes, VOp.args]
theorem all_ext {α : Type} {xs : List α} {f g : α → Bool} (h : ∀ x ∈ xs, f x = g x) : xs.all f = xs.all g := by
  induction xs with
  | nil => rfl
  | cons x xs ih => rw [List.all_cons, List.all_cons, h x List.mem_cons_self, ih (fun y hy => h y (List.mem_cons_of_mem _ hy))]
theorem LikeR.fits {o : VOper} {loc sl loc' sl' : List D} (h : LikeR rt o loc sl loc' sl') : o.op.fits (some (base, strict)) loc' sl' = o.op.fits (some (base, strict)) loc sl := by
  have h1 : (o.op.reads.all fun x => (x.ev loc' sl').under base) = o.op.reads.all fun x => (x.ev loc sl).under base :=
    all_ext fun x hx => by rw [h.args (reads_args _ x hx)]
  have h2 : (o.op.writes.all fun x => (x.ev loc' sl').over base) = o.op.writes.all fun x => (x.ev loc sl).over base :=
    all_ext fun x hx => by rw [h.args (writes_args _ x hx)]
  cases strict <;> simp only [VOp.fits, h1, h2]
structure EffR (V : VProg) (cl : FuncId → List D → Heap → CR) (base : Bs) (strict : Bool) (vos : List VOper) (rt : List (Option Nat)) (i : Nat) (o : VOper) (loc : List D) (st : St) (loc1 : List D) (st1 : St) (d : D) (us : List (Nat × D)) : Prop where
  at_ : loc1 = loc.set i d
  slot : st1.sl = upds us st.sl
  ks : ∀ u ∈ us, u.1 ∈ o.slW rt
  le : st.hp.length ≤ st1.hp.length
  ok : HcOk base st.hp st1.hp (o.op.hc V strict)
  same : ∀ (loc' sl' : List D) (H' : Heap), LikeR rt o loc st.sl loc' sl' → HcIn base st.hp H' (o.op.hc V strict) →
    one V cl (some (base, strict)) vos i loc' ⟨sl', H'⟩ = some (loc'.set i d, ⟨upds us sl', HcOut H' st1.hp (o.op.hc V strict)⟩)
theorem HcOk.refl (base : Bs) (H : Heap) (c : HC) : HcOk base H H c := by
  cases c <;> first | rfl | trivial | exact Sb.refl _ _
theorem one_eff (hcl : CallFit V cl) (bo : BaseOk vos rt) {i : Nat} {o : VOper} {loc loc1 : List D} {st st1 : St} (inv : Inv base vos rt loc st) (ho : vos[i]? = some o) (h : one V cl (some (base, strict)) vos i loc st = some (loc1, st1)) :
    ∃ d us, EffR V cl base strict vos rt i o loc st loc1 st1 d us := by
  obtain ⟨sl, H⟩ := st
  unfold one at h
  simp only [ho] at h
  split at h
  · rename_i hw
    split at h
    · rename_i hf
      split at h
      · rename_i d st2 hs
        cases h
        obtain ⟨u, e⟩ := step_eff hcl inv.b hf hs
        refine ⟨d, u.toList ++ keepU o.keep d, rfl, ?_, fun v hv => ?_, e.le, e.ok, fun loc' sl' H' hl hin => ?_⟩
        · show setSl st2.sl o.keep d = _
          rw [e.slot, upds_step]
        · rcases List.mem_append.1 hv with hv | hv
          · cases u with
            | none => cases hv
            | some q =>
              obtain ⟨k, x⟩ := q
              simp only [Option.toList_some, List.mem_singleton] at hv
              subst hv
              obtain ⟨a, x', n, off, hop, hev⟩ := e.us k x rfl
              simp only [VOper.slW, hop]
              refine List.mem_append_right _ ?_
              cases a with
              | sl k' =>
                simp only [AB.ev] at hev
                split at hev
                · cases hev; simp [rootOf]
                · cases hev
              | lo j =>
                simp only [AB.ev] at hev
                split at hev
                · rename_i hlj
                  cases hev
                  obtain ⟨vj, h1, h2⟩ := bo.addr i o j ho (by rw [hop]; simp [VOp.base])
                  simp [rootOf, inv.lp j vj _ _ h1 h2 hlj]
                · cases hev
          · cases hk : o.keep with
            | none => rw [hk] at hv; cases hv
            | some k =>
              rw [hk] at hv
              simp only [keepU, List.mem_singleton] at hv
              subst hv
              simp [VOper.slW, hk]
        · unfold one
          simp only [ho, hl.wants]
          simp only [hw, hl.fits, hf, e.same loc' sl' H' (hl.like bo ho inv.lp) hin, upds_step]
      · cases h
    · cases h
  · rename_i hw
    cases h
    refine ⟨.u, keepU o.keep .u, rfl, upds_step none o.keep .u sl, fun v hv => ?_, Nat.le_refl _, .refl _ _ _, fun loc' sl' H' hl hin => ?_⟩
    · cases hk : o.keep with
      | none => rw [hk] at hv; cases hv
      | some k =>
        rw [hk] at hv
        simp only [keepU, List.mem_singleton] at hv
        subst hv
        simp [VOper.slW, hk]
    · unfold one
      simp only [ho, hl.wants, hw, Option.some.injEq, Prod.mk.injEq, St.mk.injEq, true_and]
      refine ⟨upds_step none o.keep .u sl', ?_⟩
      cases hc : o.op.hc V strict <;> rw [hc] at hin <;> first | rfl | exact hin
  · cases h
theorem one_inv (hcl : CallFit V cl) (bo : BaseOk vos rt) {i : Nat} {loc loc1 : List D} {st st1 : St} (inv : Inv base vos rt loc st) (h : one V cl (some (base, strict)) vos i loc st = some (loc1, st1)) : Inv base vos rt loc1 st1 := by
  cases ho : vos[i]? with
  | none => unfold one at h; simp only [ho] at h; cases h; exact inv
  | some o =>
    obtain ⟨d, us, e⟩ := one_eff hcl bo inv ho h
    refine ⟨by rw [e.at_]; simpa using inv.len, Nat.le_trans inv.b e.le, fun j vo k off hj ha hl => ?_⟩
    by_cases hij : i = j
    · subst hij
      rw [ho] at hj; cases hj
      have hi : i < loc.length := by rw [inv.len]; exact lt_of_get ho
      rw [e.at_, List.getElem?_set_self hi] at hl
      cases hl
      have hrt := bo.step i o ho
      rw [hrt]
      obtain ⟨sl, H⟩ := st
      unfold one at h
      simp only [ho] at h
      split at h
      · split at h
        · split at h
          · rename_i d' st2 hs
            have hd : d' = .lp k off := by
              cases h
              have := e.at_
              have h2 := congrArg (·[i]?) this
              simp only [List.getElem?_set_self hi] at h2
              exact Option.some.inj h2
            subst hd
            have ax : ∀ (a : AB) (o' : Nat), a ∈ o.op.base → a.ev loc sl = some (k, o') → (match a with | .sl k => some k | .lo j => (rt[j]?).join) = some k := fun a o' hm hev => by
              cases a with
              | sl k' =>
                simp only [AB.ev] at hev
                split at hev
                · cases hev; rfl
                · cases hev
              | lo j =>
                simp only [AB.ev] at hev
                split at hev
                · rename_i hlj
                  cases hev
                  obtain ⟨vj, h1, h2⟩ := bo.addr i o j ho hm
                  simp [inv.lp j vj _ _ h1 h2 hlj]
                · cases hev
            cases hop : o.op <;> rw [hop] at ha <;> first | (cases ha; done) | skip
            · rename_i a off'
              rw [hop] at hs
              simp only [step] at hs
              split at hs
              · rename_i k' o' hev
                cases hs
                have := ax a o' (by rw [hop]; simp [VOp.base]) hev
                simp only [rootStep, hop]
                exact congrArg some this
              · cases hs
            · rename_i a ix n w
              rw [hop] at hs
              simp only [step] at hs
              split at hs
              · rename_i k' o' hev
                split at hs
                · cases hs
                  have := ax a o' (by rw [hop]; simp [VOp.base]) hev
                  simp only [rootStep, hop]
                  exact congrArg some this
                · cases hs
              · cases hs
          · cases h
        · cases h
      · cases h
        have := e.at_
        have h2 := congrArg (·[i]?) this
        simp only [List.getElem?_set_self hi] at h2
        cases h2
      · cases h
    · rw [e.at_, List.getElem?_set_ne hij] at hl
      exact inv.lp j vo k off hj ha hl
theorem meet_spec {a b : List Nat} (h : meet a b = false) : ∀ x ∈ a, x ∉ b := fun x hx hb => by
  have : meet a b = true := by
    simp only [meet, List.any_eq_true]
    exact ⟨x, hx, by simpa using hb⟩
  rw [h] at this; cases this
structure Indep (V : VProg) (strict : Bool) (rt : List (Option Nat)) (i j : Nat) (x y : VOper) : Prop where
  l1 : i ∉ y.locR
  l2 : j ∉ x.locR
  s1 : ∀ k ∈ x.slW rt, k ∉ y.slR rt
  s2 : ∀ k ∈ x.slW rt, k ∉ y.slW rt
  s3 : ∀ k ∈ x.slR rt, k ∉ y.slW rt
  h : (x.op.hc V strict).free (y.op.hc V strict) = true
theorem indep_spec {i j : Nat} {x y : VOper} (hx : vos[i]? = some x) (hy : vos[j]? = some y) (h : indep V strict rt vos i j = true) : Indep V strict rt i j x y := by
  simp only [indep, hx, hy, Bool.and_eq_true, Bool.not_eq_true'] at h
  obtain ⟨⟨⟨⟨h1, h2⟩, h3⟩, h4⟩, h5⟩ := h
  exact ⟨by simpa using h1, by simpa using h2, fun k hk hm => meet_spec h3 k hk (List.mem_append_left _ hm), fun k hk hm => meet_spec h3 k hk (List.mem_append_right _ hm), meet_spec h4, h5⟩
theorem swap (hcl : CallFit V cl) (bo : BaseOk vos rt) {i j : Nat} (hij : i ≠ j) {x y : VOper} (hx : vos[i]? = some x) (hy : vos[j]? = some y) (hi : Indep V strict rt i j x y) {loc loc1 loc2 : List D} {st st1 st2 : St} (inv : Inv base vos rt loc st)
    (h1 : one V cl (some (base, strict)) vos i loc st = some (loc1, st1)) (h2 : one V cl (some (base, strict)) vos j loc1 st1 = some (loc2, st2)) :
    ∃ loc3 st3, one V cl (some (base, strict)) vos j loc st = some (loc3, st3) ∧ one V cl (some (base, strict)) vos i loc3 st3 = some (loc2, st2) := by
  obtain ⟨d, us, e1⟩ := one_eff hcl bo inv hx h1
  obtain ⟨e, vs, e2⟩ := one_eff hcl bo (one_inv hcl bo inv h1) hy h2
  obtain ⟨sl, H⟩ := st
  obtain ⟨sl1, H1⟩ := st1
  obtain ⟨sl2, H2⟩ := st2
  have g1 := e1.at_
  have g2 := e2.at_
  have g3 : sl1 = upds us sl := e1.slot
  have g4 : sl2 = upds vs sl1 := e2.slot
  have o1 : HcOk base H H1 (x.op.hc V strict) := e1.ok
  have o2 : HcOk base H1 H2 (y.op.hc V strict) := e2.ok
  have hf := hi.h
  have k1 := e2.same loc sl H ⟨fun q hq => ?_, fun k hk => ?_⟩ ?_
  · have k2 := e1.same (loc.set j e) (upds vs sl) (HcOut H H2 (y.op.hc V strict)) ⟨fun q hq => ?_, fun k hk => ?_⟩ ?_
    · refine ⟨_, _, k1, ?_⟩
      rw [k2]
      refine congrArg some (Prod.ext ?_ ?_)
      · simp only [g1, g2]
        exact List.set_comm _ _ (Ne.symm hij)
      · simp only [St.mk.injEq]
        refine ⟨?_, ?_⟩
        · rw [g4, g3]
          exact (upds_comm vs us sl (fun u hu v hv he => hi.s2 _ (e1.ks u hu) (he ▸ e2.ks v hv))).symm
        · revert hf o1 o2
          cases x.op.hc V strict <;> cases y.op.hc V strict <;> simp [HC.free, HcOk, HcOut] <;> intros <;> simp_all
    · rw [List.getElem?_set_ne (fun hh : j = q => hi.l2 (by rw [hh]; exact hq))]
    · exact upds_get vs sl k (fun v hv hh => hi.s3 k hk (hh ▸ e2.ks v hv))
    · revert hf o1 o2
      cases x.op.hc V strict <;> cases y.op.hc V strict <;> simp [HC.free, HcOk, HcOut, HcIn] <;> intros <;> simp_all
      all_goals first | exact Sb.refl _ _ | exact Sb.symm (by assumption) | assumption
  · rw [g1, List.getElem?_set_ne (fun hh : i = q => hi.l1 (by rw [hh]; exact hq))]
  · show sl[k]? = sl1[k]?
    rw [g3]; exact (upds_get us sl k (fun u hu hh => hi.s1 _ (e1.ks u hu) (hh ▸ hk))).symm
  · show HcIn base H1 H _
    revert hf o1 o2
    cases x.op.hc V strict <;> cases y.op.hc V strict <;> simp [HC.free, HcOk, HcIn] <;> intros <;> simp_all
    all_goals first | exact Sb.refl _ _ | exact Sb.symm (by assumption) | assumption
theorem to_front (hcl : CallFit V cl) (bo : BaseOk vos rt) {j : Nat} {y : VOper} (hy : vos[j]? = some y) {post : List Nat} {st' : St} : ∀ (pre : List Nat) (loc : List D) (st : St), Inv base vos rt loc st →
    (∀ i ∈ pre, i ≠ j ∧ ∃ x, vos[i]? = some x ∧ Indep V strict rt i j x y) → opsL V cl (some (base, strict)) vos (pre ++ j :: post) loc st = (.nm, st') → opsL V cl (some (base, strict)) vos (j :: (pre ++ post)) loc st = (.nm, st') := by
  intro pre
  induction pre with
  | nil => intro loc st _ _ h; exact h
  | cons i pre ih =>
    intro loc st inv hp h
    rw [List.cons_append, opsL_cons] at h
    obtain ⟨loc1, st1, h1, h2⟩ := h
    have inv1 := one_inv hcl bo inv h1
    have h3 := ih loc1 st1 inv1 (fun q hq => hp q (List.mem_cons_of_mem _ hq)) h2
    rw [opsL_cons] at h3
    obtain ⟨loc2, st2, h4, h5⟩ := h3
    obtain ⟨hne, x, hx, hi⟩ := hp i List.mem_cons_self
    obtain ⟨loc3, st3, h6, h7⟩ := swap hcl bo hne hx hy hi inv h1 h4
    rw [opsL_cons]
    refine ⟨loc3, st3, h6, ?_⟩
    rw [List.cons_append, opsL_cons]
    exact ⟨loc2, st2, h7, h5⟩
end
def bval (acc : Array Nat) (o : Oper) : Nat := o.after.foldl (fun s e => if Region.binds .any e then s ||| 2 ^ e.on ||| acc.getD e.on 0 else s) 0
theorem before_eq (ops : Array Oper) : Region.before ops = ops.toList.foldl (fun acc o => acc.push (bval acc o)) #[] := by
  unfold Region.before
  rw [← Array.foldl_toList]
  rfl
theorem fold_old : ∀ (l : List Oper) (acc : Array Nat) (j : Nat), j < acc.size → (l.foldl (fun acc o => acc.push (bval acc o)) acc).getD j 0 = acc.getD j 0
  | [], _, _, _ => rfl
  | o :: l, acc, j, h => by
    rw [List.foldl_cons, fold_old l _ j (by simp; omega)]
    simp [Array.getD, h, Array.getElem_push, Nat.lt_succ_of_lt h]
theorem fold_new : ∀ (l : List Oper) (acc : Array Nat) (i : Nat) (o : Oper), l[i]? = some o → ∃ acc' : Array Nat, acc'.size = acc.size + i ∧
    (∀ q, q < acc'.size → acc'.getD q 0 = (l.foldl (fun acc o => acc.push (bval acc o)) acc).getD q 0) ∧ (l.foldl (fun acc o => acc.push (bval acc o)) acc).getD (acc.size + i) 0 = bval acc' o
  | [], _, _, _, h => by simp at h
  | o :: l, acc, i, o', h => by
    cases i with
    | zero =>
      cases h
      refine ⟨acc, by simp, fun q hq => (fold_old (o :: l) acc q hq).symm, ?_⟩
      rw [List.foldl_cons, Nat.add_zero, fold_old l _ acc.size (by simp)]
      simp [Array.getD]
    | succ i =>
      obtain ⟨acc', h1, h2, h3⟩ := fold_new l (acc.push (bval acc o)) i o' (by simpa using h)
      refine ⟨acc', by rw [h1]; simp; omega, fun q hq => ?_, ?_⟩
      · rw [h2 q hq]; rfl
      · rw [List.foldl_cons, show acc.size + (i + 1) = (acc.push (bval acc o)).size + i by simp; omega]; exact h3
theorem bval_bit {acc : Array Nat} {o : Oper} {i : Nat} (h : (bval acc o).testBit i = true) : ∃ e ∈ o.after.toList, Region.binds .any e = true ∧ (i = e.on ∨ (acc.getD e.on 0).testBit i = true) := by
  unfold bval at h
  rw [← Array.foldl_toList] at h
  have : ∀ (l : List Edge) (s : Nat), (l.foldl (fun s e => if Region.binds .any e then s ||| 2 ^ e.on ||| acc.getD e.on 0 else s) s).testBit i = true →
      s.testBit i = true ∨ ∃ e ∈ l, Region.binds .any e = true ∧ (i = e.on ∨ (acc.getD e.on 0).testBit i = true) := by
    intro l
    induction l with
    | nil => intro s h; exact .inl h
    | cons e l ih =>
      intro s h
      rw [List.foldl_cons] at h
      rcases ih _ h with h | ⟨e', h1, h2⟩
      · split at h
        · rename_i hb
          simp only [Nat.testBit_or, Nat.testBit_two_pow, Bool.or_eq_true, decide_eq_true_eq] at h
          rcases h with (h | h) | h
          · exact .inl h
          · exact .inr ⟨e, List.mem_cons_self, hb, .inl h.symm⟩
          · exact .inr ⟨e, List.mem_cons_self, hb, .inr h⟩
        · exact .inl h
      · exact .inr ⟨e', List.mem_cons_of_mem _ h1, h2⟩
  rcases this _ _ h with h | h
  · simp at h
  · exact h
theorem before_bit {ops : Array Oper} {j i : Nat} {o : Oper} (ho : ops[j]? = some o) (h : ((Region.before ops).getD j 0).testBit i = true) :
    ∃ e ∈ o.after.toList, Region.binds .any e = true ∧ (i = e.on ∨ (e.on < j ∧ ((Region.before ops).getD e.on 0).testBit i = true)) := by
  obtain ⟨acc', h1, h2, h3⟩ := fold_new ops.toList #[] j o (by rw [Array.getElem?_toList]; exact ho)
  simp only [Nat.zero_add, ← before_eq, List.size_toArray, List.length_nil] at h1 h2 h3
  rw [h3] at h
  obtain ⟨e, he, hb, hc⟩ := bval_bit h
  refine ⟨e, he, hb, hc.imp id (fun hc => ?_)⟩
  by_cases hlt : e.on < acc'.size
  · rw [h2 _ hlt] at hc; exact ⟨by omega, hc⟩
  · rw [Array.getD, dif_neg hlt] at hc
    simp at hc
section
variable {c : CX} {E : En} {nd : List Deferred}
def Listed (listed : Array Bool) (i : Nat) : Prop := listed.getD i false = true
theorem listed_set {listed : Array Bool} {i j : Nat} (h : Listed (listed.setIfInBounds i true) j) : j = i ∨ Listed listed j := by
  unfold Listed at *
  by_cases hij : j = i
  · exact .inl hij
  · right
    simp only [Array.getD, Array.size_setIfInBounds] at *
    split at h
    · rename_i hlt
      rw [dif_pos hlt]
      rw [← h]
      simp only [Array.getInternal_eq_getElem]
      rw [Array.getElem_setIfInBounds_ne hlt (Ne.symm hij)]
    · cases h
theorem listed_same {listed : Array Bool} {i j : Nat} (h : Listed listed j) : Listed (listed.setIfInBounds i true) j := by
  unfold Listed at *
  simp only [Array.getD, Array.size_setIfInBounds] at *
  split at h
  · rename_i hlt
    rw [dif_pos hlt]
    simp only [Array.getInternal_eq_getElem] at *
    rw [Array.getElem_setIfInBounds hlt]
    split
    · rfl
    · exact h
  · cases h
theorem not_listed {listed : Array Bool} {i : Nat} (h : i < listed.size) : (!listed.getD i true) = true ↔ ¬ Listed listed i := by
  unfold Listed
  simp [Array.getD, h]
theorem any_order (rg : Reg c) {T : Kn → World → Prop} (vok : VOK c.P c.V T) (hT : TE T E) {cl : FuncId → List D → Heap → CR} (cs : CallSim c.P T cl) (hcl : CallFit c.V cl) (bo : BaseOk c.vos c.rt) (back : ∀ (i : Nat) (vo : VOper), c.vos[i]? = some vo → ∀ j ∈ vo.locR, j < i)
    (hfirst : ∀ (i : Nat) (vo : VOper), c.vos[i]? = some vo → vo.op.isBox = true → ∀ k, vo.keep = some k → ∀ j, j < i → c.rt[j]? ≠ some (some k)) {base : Bs} {strict : Bool}
    (hdraw : ∀ (i j : Nat) (x y : VOper), i < j → c.vos[i]? = some x → c.vos[j]? = some y → ((Region.before c.ops).getD j 0).testBit i = true ∨ Indep c.V strict c.rt i j x y)
    (hedge : ∀ (i : Nat) (o : Oper), c.ops[i]? = some o → ∀ e ∈ o.after.toList, Region.binds .any e = true → e.on < i) {st' : St} {Q : Exit → Act → World → Prop}
    (hQ : ∀ L' K' μ' a' W', FS E c.tm c.bs K' μ' L' st'.sl st'.hp a'.tmps W' → a'.tmps.size = c.nt → a'.defers = nd → Q .normal a' W') :
    ∀ (fuel : Nat) (listed : Array Bool) (L : Nat → Option Nat) (K : Kn) (μ : Mu) (loc : List D) (st : St) (a : Act) (W : World) (l : List Nat), listed.size = c.vos.length → l = (List.range c.vos.length).filter (fun i => !listed.getD i true) → l.length ≤ fuel →
      (∀ i j, Listed listed j → ((Region.before c.ops).getD j 0).testBit i = true → Listed listed i) →
      (∀ (i j : Nat) (x y : VOper), i < j → Listed listed j → ¬ Listed listed i → c.vos[i]? = some x → c.vos[j]? = some y → Indep c.V strict c.rt i j x y) →
      RI c E nd (Listed listed) L K μ loc st.sl st.hp a W → Inv base c.vos c.rt loc st → opsL c.V cl (some (base, strict)) c.vos l loc st = (.nm, st') → wpAny c.P .any c.ops Q fuel listed a W := by
  have fin : ∀ (listed : Array Bool) (L : Nat → Option Nat) (K : Kn) (μ : Mu) (loc : List D) (st : St) (a : Act) (W : World), RI c E nd (Listed listed) L K μ loc st.sl st.hp a W → opsL c.V cl (some (base, strict)) c.vos [] loc st = (.nm, st') → Q .normal a W := fun listed L K μ loc st a W ri h => by
    simp only [opsL, Prod.mk.injEq, true_and] at h
    subst h
    exact hQ _ _ _ _ _ ri.fs ri.sz ri.df
  have rdy : ∀ (listed : Array Bool) (i : Nat), listed.size = c.vos.length → i ∈ Region.ready .any c.ops listed → i < c.vos.length ∧ ¬ Listed listed i ∧ ∃ o, c.ops[i]? = some o ∧ ∀ e ∈ o.after.toList, Region.binds .any e = true → Listed listed e.on := fun listed i hsz hi => by
    simp only [Region.ready, List.mem_filter, List.mem_range, Bool.and_eq_true] at hi
    obtain ⟨h1, h2, h3⟩ := hi
    have hlt : i < c.vos.length := by rw [← rg.sz]; exact h1
    refine ⟨hlt, (not_listed (by omega)).1 h2, c.ops[i], Array.getElem?_eq_getElem h1, fun e he hb => ?_⟩
    rw [Array.getElem?_eq_getElem h1] at h3
    simp only [Option.map_some, Option.getD_some, Array.all_eq_true'] at h3
    have := h3 e (by simpa using he)
    simp only [hb, Bool.not_true, Bool.false_or] at this
    exact this
  intro fuel
  induction fuel with
  | zero =>
    intro listed L K μ loc st a W l hsz hl hfuel _ _ ri inv h
    have : l = [] := List.length_eq_zero_iff.1 (by omega)
    subst this
    refine ⟨?_, fin listed L K μ loc st a W ri h⟩
    cases hr : Region.ready .any c.ops listed with
    | nil => rfl
    | cons i is =>
      obtain ⟨h1, h2, _⟩ := rdy listed i hsz (by rw [hr]; exact List.mem_cons_self)
      have : i ∈ (List.range c.vos.length).filter (fun i => !listed.getD i true) := List.mem_filter.2 ⟨by simpa using h1, (not_listed (by omega)).2 h2⟩
      rw [← hl] at this; cases this
  | succ fuel ih =>
    intro listed L K μ loc st a W l hsz hl hfuel hclosed hind ri inv h
    have meml : ∀ i, i ∈ l ↔ i < c.vos.length ∧ ¬ Listed listed i := fun i => by
      rw [hl, List.mem_filter, List.mem_range]
      exact ⟨fun ⟨x, y⟩ => ⟨x, (not_listed (by omega)).1 y⟩, fun ⟨x, y⟩ => ⟨x, (not_listed (by omega)).2 y⟩⟩
    have sorted : l.Pairwise (· < ·) := by rw [hl]; exact List.Pairwise.filter _ (List.pairwise_lt_range)
    refine ⟨fun hr => ?_, fun i hi => ?_⟩
    · cases l with
      | nil => exact fin listed L K μ loc st a W ri h
      | cons i l =>
        exfalso
        obtain ⟨h1, h2⟩ := (meml i).1 List.mem_cons_self
        have : i ∈ Region.ready .any c.ops listed := by
          have hi : i < c.ops.size := by rw [rg.sz]; exact h1
          simp only [Region.ready, List.mem_filter, List.mem_range, Bool.and_eq_true]
          refine ⟨hi, (not_listed (by omega)).2 h2, ?_⟩
          rw [Array.getElem?_eq_getElem hi]
          simp only [Option.map_some, Option.getD_some, Array.all_eq_true']
          intro e he
          cases hb : Region.binds .any e with
          | false => rfl
          | true =>
            simp only [Bool.not_true, Bool.false_or]
            have hlt := hedge i _ (Array.getElem?_eq_getElem hi) e (by simpa using he) hb
            by_cases hlis : Listed listed e.on
            · exact hlis
            · have := (meml e.on).2 ⟨by omega, hlis⟩
              rcases List.mem_cons.1 this with h | h
              · omega
              · have := List.rel_of_pairwise_cons sorted h; omega
        rw [hr] at this; cases this
    · obtain ⟨h1, h2, o, ho, hafter⟩ := rdy listed i hsz hi
      have hbef : ∀ j, ((Region.before c.ops).getD i 0).testBit j = true → Listed listed j := fun j hj => by
        obtain ⟨e, he, hb, hc⟩ := before_bit ho hj
        rcases hc with rfl | ⟨_, hc⟩
        · exact hafter e he hb
        · exact hclosed j e.on (hafter e he hb) hc
      have hvo : c.vos[i]? = some c.vos[i] := List.getElem?_eq_getElem h1
      have hpre : ∀ j (x : VOper), j < i → ¬ Listed listed j → c.vos[j]? = some x → Indep c.V strict c.rt j i x c.vos[i] := fun j x hj hn hx => by
        rcases hdraw j i x _ hj hx hvo with hb | hb
        · exact (hn (hbef j hb)).elim
        · exact hb
      obtain ⟨pre, post, hsplit⟩ := List.append_of_mem ((meml i).2 ⟨h1, h2⟩)
      have hlt : ∀ j ∈ pre, j < i := fun j hj => by
        rw [hsplit] at sorted
        exact (List.pairwise_append.1 sorted).2.2 j hj i List.mem_cons_self
      have hgt : ∀ j ∈ post, i < j := fun j hj => by
        rw [hsplit] at sorted
        exact List.rel_of_pairwise_cons (List.pairwise_append.1 sorted).2.1 hj
      rw [hsplit] at h
      have h' := to_front hcl bo hvo pre loc st inv (fun j hj => by
        obtain ⟨j1, j2⟩ := (meml j).1 (by rw [hsplit]; exact List.mem_append_left _ hj)
        exact ⟨by have := hlt j hj; omega, c.vos[j], List.getElem?_eq_getElem j1, hpre j _ (hlt j hj) j2 (List.getElem?_eq_getElem j1)⟩) h
      rw [opsL_cons] at h'
      obtain ⟨loc1, st1, g1, g2⟩ := h'
      refine one_step rg ri vok hT cs hvo (fun j hj => ?_) (fun hb k hk j hj => ?_) g1 (fun L' K' μ' a' W' r => ?_)
      · have := back i _ hvo j hj
        by_cases hn : Listed listed j
        · exact hn
        · exact ((hpre j _ this hn (List.getElem?_eq_getElem (by omega))).l1 hj).elim
      · rcases Nat.lt_or_ge j i with hji | hji
        · exact hfirst i _ hvo hb k hk j hji
        · intro hrt
          have hne : i ≠ j := fun e => h2 (e ▸ hj)
          have hjl : j < c.vos.length := by rw [← rg.rtl]; exact lt_of_get hrt
          have hvj : c.vos[j]? = some c.vos[j] := List.getElem?_eq_getElem hjl
          have hI := hind i j _ _ (by omega) hj h2 hvo hvj
          refine hI.s1 k (by simp [VOper.slW, hk]) ?_
          have hst := bo.step j _ hvj
          rw [hst] at hrt
          have hrt := Option.some.inj hrt
          simp only [VOper.slR]
          refine List.mem_append_left _ (List.mem_append_right _ ?_)
          unfold rootStep at hrt
          split at hrt
          · rename_i a off hop
            rw [hop]
            cases a with
            | sl k' => cases hrt; simp [VOp.base, rootOf]
            | lo q => simp [VOp.base, rootOf, hrt]
          · rename_i a ix n w hop
            rw [hop]
            cases a with
            | sl k' => cases hrt; simp [VOp.base, rootOf]
            | lo q => simp [VOp.base, rootOf, hrt]
          · cases hrt
      · refine ih (listed.setIfInBounds i true) L' K' μ' loc1 st1 a' W' (pre ++ post) (by simpa using hsz) ?_ (by have := congrArg List.length hsplit; simp at this ⊢; omega) (fun p q hq hb => ?_) (fun p q x y hpq hq hp hx hy => ?_) ?_ (one_inv hcl bo inv g1) g2
        · have : (List.range c.vos.length).filter (fun j => !(listed.setIfInBounds i true).getD j true) = l.filter (fun j => j != i) := by
            rw [hl, List.filter_filter]
            refine List.filter_congr (fun j hj => ?_)
            have hj : j < listed.size := by rw [hsz]; simpa using hj
            by_cases hji : j = i
            · subst hji; simp [Array.getD, hj]
            · simp [Array.getD, hj, hji, Array.getElem_setIfInBounds_ne hj (Ne.symm hji)]
          rw [this, hsplit, List.filter_append, List.filter_cons]
          simp only [bne_self_eq_false, Bool.false_eq_true, if_false]
          rw [List.filter_eq_self.2 (fun j hj => by have := hlt j hj; simp; omega), List.filter_eq_self.2 (fun j hj => by have := hgt j hj; simp; omega)]
        · rcases listed_set hq with rfl | hq
          · exact listed_same (hbef p hb)
          · exact listed_same (hclosed p q hq hb)
        · have hp' : ¬ Listed listed p := fun hh => hp (listed_same hh)
          rcases listed_set hq with rfl | hq
          · rw [hvo] at hy; cases hy
            exact hpre p x hpq hp' hx
          · exact hind p q x y hpq hq hp' hx hy
        · exact ⟨r.fs, fun j o' vo' t' hj => r.lr j o' vo' t' (listed_set hj), r.sz, r.df, r.ln⟩
end
theorem drawn_of {P : Program} {V : VProg} {T : Kn → World → Prop} {cl : FuncId → List D → Heap → CR} {nt : Nat} {tm bs : List Nat} (hm : P.follows .mixedOrders = true) (vok : VOK P V T) (cs : CallSim P T cl) (hcl : CallFit V cl) (htm : nodup tm = true) (hlt : ∀ t ∈ tm, t < nt) : Drawn P V T cl nt tm bs := by
  intro E nd id ops strict vos sl H st' a W hT hok h hA
  obtain ⟨rg, back, hfirst, hdr⟩ := reg_of hok htm hlt
  obtain ⟨hd, he⟩ := hdr strict rfl
  obtain ⟨L, K, μ, fs, hs, hdf⟩ := hA
  refine wp_region_any hm ?_
  have hl := ops_list V cl (some (bsOf strict vos sl H, strict)) vos [] [] ⟨sl, H⟩ rfl
  simp only [List.nil_append, List.length_nil, ← List.range_eq_range'] at hl
  rw [hl] at h
  have hsz : ops.size = vos.length := rg.sz
  have g0 : ∀ j, ¬ Listed (Array.replicate ops.size false) j := fun j hj => by
    unfold Listed at hj
    simp only [Array.getD] at hj
    split at hj
    · simp at hj
    · cases hj
  refine any_order (nd := nd) (E := E) (base := bsOf strict vos sl H) (strict := strict) (st' := st') rg vok hT cs hcl ⟨fun i vo j hvo hb => ?_, fun i vo hvo => ?_⟩ back hfirst (fun i j x y hij hx hy => ?_) (fun i o ho e hmem hb => ?_) (Q := PostOf .nm (After E tm bs nt nd st')) (fun L' K' μ' a' W' f1 f2 f3 => ⟨rfl, L', K', μ', f1, f2, f3⟩)
    ops.size _ L K μ (List.replicate vos.length .u) ⟨sl, H⟩ a W.drew (List.range vos.length) (by simp [hsz, cxOf]) ?_ (by simp [hsz]) (fun i j hj => (g0 j hj).elim) (fun i j x y _ hj => (g0 j hj).elim) ⟨?_, fun j o vo t hj => (g0 j hj).elim, hs, hdf, by simp [cxOf]⟩ ⟨by simp [cxOf], Nat.le_refl _, fun i vo k o h1 h2 h3 => ?_⟩ h
  · obtain ⟨o, ho⟩ : ∃ o, ops[i]? = some o := ⟨_, Array.getElem?_eq_getElem (by rw [hsz]; exact lt_of_get hvo)⟩
    have hop := (okOper_spec (rg.op i o vo ho hvo).1).op
    have key : ∀ {y : Operand}, okA (cxOf P V nt tm bs ops vos) i (.lo j) y = true → ∃ vj, vos[j]? = some vj ∧ vj.op.isAddr = true := fun {y} hk => by
      cases y <;> simp only [okA] at hk <;> first | (cases hk; done) | skip
      simp only [Bool.and_eq_true] at hk
      obtain ⟨_, hk⟩ := hk
      split at hk
      · rename_i o' vj e1 e2
        simp only [Bool.and_eq_true] at hk
        exact ⟨vj, e2, hk.2⟩
      · cases hk
    obtain ⟨op, keep, guard⟩ := vo
    simp only at hb hop
    cases op <;> simp only [VOp.base, List.not_mem_nil, List.mem_singleton] at hb
    all_goals
      subst hb
      simp only [okOp] at hop
      split at hop
      · simp only [Bool.and_eq_true] at hop
        first | exact key hop.1 | exact key hop.1.1 | exact key hop.1.1.1
      · cases hop
  · obtain ⟨o, ho⟩ : ∃ o, ops[i]? = some o := ⟨_, Array.getElem?_eq_getElem (by rw [hsz]; exact lt_of_get hvo)⟩
    exact (rg.op i o vo ho hvo).2
  · simp only [drawOk, List.all_eq_true, List.mem_range, Bool.or_eq_true] at hd
    rcases hd j (lt_of_get hy) i hij with hb | hb
    · exact .inl hb
    · exact .inr (indep_spec hx hy hb)
  · simp only [edgesBack, List.all_eq_true, List.mem_range] at he
    have := he i (by
      rcases Nat.lt_or_ge i ops.size with x | x
      · exact x
      · rw [show (cxOf P V nt tm bs ops vos).ops[i]? = none from Array.getElem?_eq_none x] at ho; cases ho)
    rw [show ops[i]? = some o from ho] at this
    simp only [List.all_eq_true] at this
    have := this e hmem
    simpa [hb] using this
  · refine (List.filter_eq_self.2 (fun j hj => ?_)).symm
    have : j < ops.size := by rw [hsz]; simpa [cxOf] using hj
    simp [Array.getD, this]
  · exact ⟨fs.hr.drew, fs.nx.trans (.drew _ _ _ _), fs.len, fs.val, fs.box, fs.own, fs.inj⟩
  · simp [List.getElem?_replicate] at h3
theorem start_after {tm bs : List Nat} {npar nsl nt : Nat} (hle : npar ≤ tm.length) (hnsl : nsl = tm.length) (htm : ∀ k, k < npar → tm[k]? = some k) (hlt : ∀ t ∈ tm, t < nt) (hnd : nodup tm = true) (hbs : ∀ k ∈ bs, npar ≤ k) (hnt : npar ≤ nt)
    {args : List D} {vs : List Value} {K : Kn} {μ : Mu} {H : Heap} {W : World} (hlen : args.length = npar) (hvl : vs.length = npar) (hr : HR K μ H W) (hv : VRs K μ H args vs) :
    After ⟨K, μ, H, W⟩ tm bs nt [] ⟨args ++ List.replicate (nsl - npar) .u, H⟩ { tmps := vs.toArray ++ Array.replicate (nt - vs.toArray.size) undef, defers := [] } W := by
  refine ⟨fun _ => none, K, μ, ⟨hr, .refl _ _ _ _, by simp; omega, fun k t htk hbk => ?_, fun k t htk hbk => ?_, fun k r e => (by cases e), fun k k' r e => (by cases e)⟩, by simp; omega, rfl⟩
  · by_cases hk : k < npar
    · have := htm k hk
      rw [htk] at this
      cases this
      have h1 : k < args.length := by omega
      have h2 : k < vs.length := by omega
      refine ⟨args[k], vs[k], by rw [List.getElem?_append_left h1, List.getElem?_eq_getElem h1], by rw [Array.getElem?_append_left (by simpa using h2)]; simp [h2], hv.2 k _ _ (List.getElem?_eq_getElem h1) (List.getElem?_eq_getElem h2)⟩
    · have hkl : k < tm.length := lt_of_get htk
      have ht : t < nt := hlt t (List.mem_of_getElem? htk)
      have htn : npar ≤ t := by
        rcases Nat.lt_or_ge t npar with hx | hx
        · have := nodup_spec hnd t k t (htm t hx) htk; omega
        · exact hx
      refine ⟨.u, undef, ?_, ?_, .u ..⟩
      · rw [List.getElem?_append_right (by omega), List.getElem?_replicate, if_pos (by omega)]
      · rw [Array.getElem?_append_right (by simp; omega), Array.getElem?_replicate, if_pos (by simp; omega)]
  · left
    have hk := hbs k (by simpa using hbk)
    have hkl : k < tm.length := lt_of_get htk
    rw [List.getElem?_append_right (by omega), List.getElem?_replicate, if_pos (by omega)]
theorem enter_all {P : Program} {V : VProg} {T : Kn → World → Prop} {cl : FuncId → List D → Heap → CR} (hm : P.follows .mixedOrders = true) (vok : VOK P V T) (cs : CallSim P T cl) (csp : CallSimP P T cl) (hcl : CallFit V cl) {f : FuncId} {fn : Func} {vf : VFunc} {tm bs : List Nat} (hf : P.funcs[f]? = some fn) (hok : okFn P V fn vf tm bs = true) (hd : vf.dfr = none)
    {n : Nat} {args : List D} {H : Heap} {K : Kn} {μ : Mu} {W : World} {vs : List Value} (hT : T K W) (hr : HR K μ H W) (hv : VRs K μ H args vs) : (∀ d H', enter V cl n vf args H = .ret d H' → Calls P f vs.toArray W (Gives K μ H W d H')) ∧ ∀ q H', enter V cl n vf args H = .pan q H' → Calls P f vs.toArray W (Pans K μ H W q H') := by
  unfold okFn at hok
  rw [hd] at hok
  simp only [Bool.and_eq_true, beq_iff_eq, decide_eq_true_eq, List.all_eq_true, List.mem_range] at hok
  obtain ⟨⟨⟨⟨⟨⟨⟨⟨⟨hcode, hnpar⟩, hle⟩, hnsl⟩, htm⟩, hlt⟩, hnd⟩, hbs⟩, hnt⟩, hres⟩ := hok
  cases hb : fn.body with
  | none => rw [hb] at hcode; cases hcode
  | some code =>
    rw [hb] at hcode
    unfold enter
    by_cases hlen : args.length = vf.npar
    · rw [if_pos hlen]
      have hvl : vs.length = vf.npar := by rw [← hv.1]; exact hlen
      have hA := start_after hle hnsl htm hlt hnd hbs hnt hlen hvl hr hv
      have wp := fun ex st hex hg => exec_sim vok cs csp hnd hlt (drawn_of hm vok cs hcl hnd hlt) ⟨K, μ, H, W⟩ ⟨hT, hr⟩ [] n vf.body code hcode ⟨args ++ List.replicate (vf.nsl - vf.npar) .u, H⟩ st ex _ W hex hg hA
      have go : ∀ ex st, exec V cl n vf.body ⟨args ++ List.replicate (vf.nsl - vf.npar) .u, H⟩ = (ex, st) → (ex = .nm ∨ ex = .rt) → ∀ ds, resAll st vf.res = some ds → Calls P f vs.toArray W (Gives K μ H W (oneOr ds) st.hp) := by
        intro ex st hex hgood ds hds
        refine calls_of_wp hf hb (wp_mono (wp ex st hex (by rcases hgood with rfl | rfl <;> rfl)) (fun e a w hq => ?_))
        have fin : After ⟨K, μ, H, W⟩ tm bs fn.ntmps [] st a w → a.defers = [] ∧ ∃ v, (results fn a.tmps).run P w = .ok v w ∧ Gives K μ H W (oneOr ds) st.hp (.returned v) w := fun hq => by
          obtain ⟨L, K', μ', fs, _, hdf⟩ := hq
          obtain ⟨v, h1, h2⟩ := res_sound (P := P) fs hres hds
          exact ⟨hdf, v, h1, K', μ', fs.hr, fs.nx, h2⟩
        cases e with
        | normal => exact fin hq.2
        | ret => exact fin hq.2
        | exit id => rcases hgood with rfl | rfl <;> cases hq.1
        | panic ch => obtain ⟨_, _, hx, _⟩ := hq; rcases hgood with rfl | rfl <;> cases hx
        | _ => exact hq.elim
      refine ⟨fun d H' h => ?_, fun q H' h => ?_⟩
      · split at h
        · rename_i st hex
          split at h
          · rename_i ds hds
            cases h
            exact go _ _ hex (.inl rfl) ds hds
          · cases h
        · rename_i st hex
          split at h
          · rename_i ds hds
            cases h
            exact go _ _ hex (.inr rfl) ds hds
          · cases h
        · cases h
        · cases h
      · split at h
        · split at h <;> cases h
        · split at h <;> cases h
        · rename_i q' st hex
          cases h
          refine calls_of_wp hf hb (wp_mono (wp _ st hex rfl) (fun e a w hq => ?_))
          cases e with
          | panic ch =>
            obtain ⟨q2, v, e1, rfl, L, K', μ', fs, _, hdf, hv'⟩ := hq
            cases e1
            exact ⟨hdf, v, K', μ', rfl, fs.hr, fs.nx, hv'⟩
          | normal => cases hq.1
          | ret => cases hq.1
          | exit id => cases hq.1
          | _ => exact hq.elim
        · cases h
    · rw [if_neg hlen]
      exact ⟨fun _ _ h => (by cases h), fun _ _ h => (by cases h)⟩
theorem FS.slot {E : En} {tm bs : List Nat} {K : Kn} {μ : Mu} {L : Nat → Option Nat} {sl : List D} {H : Heap} {tmps : Array Value} {W : World} (h : FS E tm bs K μ L sl H tmps W) (hnd : nodup tm = true) {k t : Nat} (htm : tm[k]? = some t) (hb : bs.contains k = false) (ht : t < tmps.size) {d : D} {v : Value} (hv : VR K μ H d v) :
    FS E tm bs K μ L (sl.set k d) H (tmps.setIfInBounds t v) W := by
  have hk : k < sl.length := by rw [h.len]; exact lt_of_get htm
  refine ⟨h.hr, h.nx, by simpa using h.len, fun k' t' x y => ?_, fun k' t' x y => ?_, h.own, h.inj⟩
  · by_cases hkk : k = k'
    · subst hkk
      rw [htm] at x; cases x
      exact ⟨d, v, List.getElem?_set_self hk, put_same ht, hv⟩
    · obtain ⟨d', u, e1, e2, e3⟩ := h.val k' t' x y
      refine ⟨d', u, by rw [List.getElem?_set_ne hkk]; exact e1, ?_, e3⟩
      exact put_other e2 (fun e => hkk (nodup_spec hnd k k' t htm (e ▸ x)))
  · have hkk : k ≠ k' := fun e => by subst e; rw [hb] at y; cases y
    rcases h.box k' t' x y with e | ⟨r, cs, vs, ty, h1, h2, h3, h4, h5⟩
    · exact .inl (by rw [List.getElem?_set_ne hkk]; exact e)
    · refine .inr ⟨r, cs, vs, ty, h1, by rw [List.getElem?_set_ne hkk]; exact h2, ?_, h4, h5⟩
      exact put_other h3 (fun e => hkk (nodup_spec hnd k k' t htm (e ▸ x)))
def CloQ (K : Kn) (μ : Mu) (H : Heap) (W : World) (H' : Heap) (u' : FrameMode) : Ending → FrameMode → World → Prop
  | .returned _, u, W' => u = u' ∧ ∃ K' μ', HR K' μ' H' W' ∧ Nx K μ H W K' μ' H' W'
  | _, _, _ => False
inductive Rcv : FrameMode → FrameMode → D → Value → Prop
  | ret : Rcv .returning .returning .ni .nilIface
  | pan (x : D) (v : Value) : Rcv (.panicking (PanE v)) (.panicking [{ v, recovered := true }]) x v
theorem clo_sim {P : Program} {V : VProg} {T : Kn → World → Prop} {cl : FuncId → List D → Heap → CR} (hm : P.follows .mixedOrders = true) (vok : VOK P V T) (cs : CallSim P T cl) (csp : CallSimP P T cl) (hcl : CallFit V cl) {q : Dfr} (hok : okClo P V q = true) {n : Nat} {args : List D} {x : D} {st3 : St} {ex : Ex}
    {H : Heap} (hlen : args.length = q.caps.length) (hx : exec V cl n q.body ⟨(args ++ List.replicate (q.ns - args.length) D.u).set q.rk x, H⟩ = (ex, st3)) (hex : ex = .nm ∨ ex = .rt) {K : Kn} {μ : Mu} {W : World} {vs : List Value} (hT : T K W) (hr : HR K μ H W) (hv : VRs K μ H args vs) {v : Value} (hxv : VR K μ H x v) {u u' : FrameMode} (hu : Rcv u u' x v) :
    CallsD P q.g vs.toArray u W (CloQ K μ H W st3.hp u') := by
  unfold okClo at hok
  split at hok
  · rename_i fg hfg
    simp only [Bool.and_eq_true, beq_iff_eq, decide_eq_true_eq, List.all_eq_true, List.mem_range, bne_iff_ne, Array.isEmpty_iff] at hok
    obtain ⟨⟨⟨⟨⟨⟨⟨⟨⟨⟨⟨⟨hcode, hres⟩, hpar⟩, hfree⟩, hle⟩, hns⟩, htm⟩, hlt⟩, hnd⟩, hbs⟩, hnt⟩, hrk⟩, hname⟩ := hok
    split at hcode
    · rename_i id ops c2 hb
      simp only [Bool.and_eq_true] at hcode
      obtain ⟨hop, hc2⟩ := hcode
      split at hop
      · rename_i o1 o2 hol
        simp only [Bool.and_eq_true, Option.isNone_iff_eq_none] at hop
        obtain ⟨⟨hop, hg1⟩, hg2⟩ := hop
        split at hop
        · rename_i as ats t3 t t2 ho1 hd1 ho2 hd2
          simp only [Bool.and_eq_true, beq_iff_eq, Bool.not_eq_true', decide_eq_true_eq] at hop
          obtain ⟨⟨⟨⟨rfl, ht3⟩, ht3lt⟩, htk⟩, hbk⟩ := hop
          have hvl : vs.length = q.caps.length := by rw [← hv.1]; exact hlen
          have hA := start_after (bs := q.bs) hle hns htm hlt hnd hbs hnt hlen hvl hr hv
          refine callsD_of_wpS hfg hb (fun c₀ cs0 hmode => wpS_seq ?_)
          refine wpS_region ?_
          have hsz : ops.size = 2 := by rw [← Array.length_toList, hol]; rfl
          have hg0 : ops[0]? = some o1 := by rw [← Array.getElem?_toList, hol]; rfl
          have hg1' : ops[1]? = some o2 := by rw [← Array.getElem?_toList, hol]; rfl
          have w1 : ∀ y, Region.wanted o1 y = true := fun y => by simp [Region.wanted, hg1]
          have w2 : ∀ y, Region.wanted o2 y = true := fun y => by simp [Region.wanted, hg2]
          have e1 : ∀ ρ W, (execOp ρ o1).run P W = .ok .recover W := fun ρ W => by simp [execOp, ho1, resolve, invoke, builtin]
          have e2 : ∀ ρ W, (execOp ρ o2).run P W = .ok (.value (ρ (.tmp t))) W := fun ρ W => by simp [execOp, ho2]
          rw [hsz]
          obtain ⟨L, K1, μ1, fs, hs, hdf⟩ := hA
          simp only at hs hdf
          have hts : t < (vs.toArray ++ Array.replicate (fg.ntmps - vs.toArray.size) undef).size := by rw [hs]; exact ht3lt
          have fin : wpOpsS P ops (Exit.thenS (c2.wpS P (bodyPostS P fg c₀ cs0 (CloQ K μ H W st3.hp u'))) (bodyPostS P fg c₀ cs0 (CloQ K μ H W st3.hp u'))) [1] (({ tmps := vs.toArray ++ Array.replicate (fg.ntmps - vs.toArray.size) undef, defers := [] } : Act).put o1.dst v) ({ c₀ with mode := u' } :: cs0) W := by
            simp only [wpOpsS, hg1', w2, if_true, e2, Oper.upon, Exit.thenS]
            rw [hd1, hd2]
            have hev : (({ tmps := vs.toArray ++ Array.replicate (fg.ntmps - vs.toArray.size) undef, defers := [] } : Act).put (some t) v).eval (.tmp t) = v := by
              simp only [Act.put, Act.eval]
              exact getD_eq (put_same hts)
            rw [hev]
            refine wpS_of_wp ?_
            have hA2 : After ⟨K, μ, H, W⟩ q.tm q.bs fg.ntmps [] ⟨(args ++ List.replicate (q.ns - args.length) D.u).set q.rk x, H⟩ ((({ tmps := vs.toArray ++ Array.replicate (fg.ntmps - vs.toArray.size) undef, defers := [] } : Act).put (some t) v).put (some t2) v) W :=
              ⟨L, K1, μ1, by rw [hlen]; exact (fs.tmp v (not_tm ht3)).slot hnd htk hbk (by simp only [Array.size_setIfInBounds]; rw [hs]; exact hlt _ (List.mem_of_getElem? htk)) (hxv.ext fs.nx.ext), by simp only [Act.put, Array.size_setIfInBounds]; exact hs, rfl⟩
            refine wp_mono (exec_sim vok cs csp hnd hlt (drawn_of hm vok cs hcl hnd hlt) ⟨K, μ, H, W⟩ ⟨hT, hr⟩ [] n q.body c2 hc2 _ st3 ex _ W hx (by rcases hex with rfl | rfl <;> rfl) hA2) (fun e a' w' hq => ?_)
            have done : After ⟨K, μ, H, W⟩ q.tm q.bs fg.ntmps [] st3 a' w' → a'.defers = [] ∧ ∃ u'', ({ c₀ with mode := u' } :: cs0 : List Frame) = { c₀ with mode := u'' } :: cs0 ∧ ∃ v, (results fg a'.tmps).run P w' = .ok v w' ∧ CloQ K μ H W st3.hp u' (.returned v) u'' w' := fun hq => by
              obtain ⟨L', K', μ', fs', _, hdf'⟩ := hq
              exact ⟨hdf', u', rfl, .tuple #[], by simp [results, hres], rfl, K', μ', fs'.hr, fs'.nx⟩
            cases e with
            | normal => exact done hq.2
            | ret => exact done hq.2
            | exit id => rcases hex with rfl | rfl <;> cases hq.1
            | panic ch => obtain ⟨_, _, hx', _⟩ := hq; rcases hex with rfl | rfl <;> cases hx'
            | _ => exact hq.elim
          show wpOpsS P ops _ [0, 1] _ _ _
          cases hu with
          | ret =>
            have hrd : recoverD (c₀ :: cs0) = none := by simp [recoverD, hmode]
            have hc : ({ c₀ with mode := .returning } : Frame) = c₀ := by rw [← hmode]
            rw [hc] at fin
            unfold wpOpsS
            simp only [hg0, w1, if_true, e1, hrd]
            exact fin
          | pan x v =>
            have hrd : recoverD (c₀ :: cs0) = some (v, { c₀ with mode := .panicking [{ v, recovered := true }] } :: cs0) := by simp [recoverD, hmode]
            unfold wpOpsS
            simp only [hg0, w1, if_true, e1, hrd]
            exact fin
        · cases hop
      · cases hop
    · cases hcode
  · cases hok
theorem enterD_sim {P : Program} {V : VProg} {T : Kn → World → Prop} {cl : FuncId → List D → Heap → CR} (hm : P.follows .mixedOrders = true) (vok : VOK P V T) (cs : CallSim P T cl) (csp : CallSimP P T cl) (hcl : CallFit V cl) {f : FuncId} {fn : Func} {vf : VFunc} {tm bs : List Nat} {q : Dfr} (hf : P.funcs[f]? = some fn) (hok : okFn P V fn vf tm bs = true) (hd : vf.dfr = some q)
    {n : Nat} {args : List D} {H : Heap} {d : D} {H' : Heap} (h : enterD V cl n vf q args H = .ret d H') {K : Kn} {μ : Mu} {W : World} {vs : List Value} (hT : T K W) (hr : HR K μ H W) (hv : VRs K μ H args vs) : Calls P f vs.toArray W (Gives K μ H W d H') := by
  unfold okFn at hok
  rw [hd] at hok
  simp only [Bool.and_eq_true, beq_iff_eq, decide_eq_true_eq, List.all_eq_true, List.mem_range] at hok
  obtain ⟨⟨⟨⟨⟨⟨⟨⟨⟨hcode, hnpar⟩, hle⟩, hnsl⟩, htm⟩, hlt⟩, hnd⟩, hbs⟩, hnt⟩, hres⟩ := hok
  split at hcode
  · rename_i h1 h2; cases h1
  · rename_i q' c0 id ops c1 hq hb
    cases hq
    simp only [Bool.and_eq_true] at hcode
    obtain ⟨⟨⟨h0, hop⟩, h1⟩, hclo⟩ := hcode
    unfold okDfr at hop
    split at hop
    · rename_i o1 o2 hol
      simp only [Bool.and_eq_true, Option.isNone_iff_eq_none] at hop
      obtain ⟨⟨⟨hop, hg1⟩, hg2⟩, hd2⟩ := hop
      split at hop
      · rename_i g fs0 cvs t0 t as ats ho1 hd1 ho2
        simp only [Bool.and_eq_true, beq_iff_eq, Bool.not_eq_true', decide_eq_true_eq, Array.isEmpty_iff] at hop
        obtain ⟨⟨⟨⟨⟨⟨rfl, rfl⟩, rfl⟩, rfl⟩, ht⟩, htlt⟩, hcv⟩ := hop
        unfold enterD at h
        split at h
        · rename_i hlen
          have hvl : vs.length = vf.npar := by rw [← hv.1]; exact hlen
          have hA := start_after hle hnsl htm hlt hnd hbs hnt hlen hvl hr hv
          split at h
          · rename_i st1 hpre
            split at h
            · cases h
            · rename_i hno
              have hno : st1.sl.all D.noBx = true := by simpa using hno
              have core : ∀ ex2 st2 x, exec V cl n vf.body st1 = (ex2, st2) → ((ex2 = .nm ∨ ex2 = .rt) ∧ x = .ni ∨ ex2 = .pn x) → leaveD V cl n vf q H.length ((q.caps.map O.s).map (O.ev [] st1.sl)) x st2 = .ret d H' → Calls P f vs.toArray W (Gives K μ H W d H') := by
                intro ex2 st2 x hbody hxx hl
                unfold leaveD at hl
                have hl' : ∃ ex3 st3 ds, exec V cl n q.body ⟨((q.caps.map O.s).map (O.ev [] st1.sl) ++ List.replicate (q.ns - ((q.caps.map O.s).map (O.ev [] st1.sl)).length) D.u).set q.rk x, st2.hp⟩ = (ex3, st3) ∧ (ex3 = .nm ∨ ex3 = .rt) ∧ resAll ⟨st2.sl, st3.hp⟩ vf.res = some ds ∧ d = oneOr ds ∧ H' = st3.hp := by
                  split at hl
                  · rename_i st3 he
                    split at hl
                    · split at hl
                      · rename_i ds hds; cases hl; exact ⟨_, _, _, he, .inl rfl, hds, rfl, rfl⟩
                      · cases hl
                    · cases hl
                  · rename_i st3 he
                    split at hl
                    · split at hl
                      · rename_i ds hds; cases hl; exact ⟨_, _, _, he, .inr rfl, hds, rfl, rfl⟩
                      · cases hl
                    · cases hl
                  · cases hl
                obtain ⟨ex3, st3, ds, he3, hex3, hds, rfl, rfl⟩ := hl'
                refine calls_of_wp_defers hf hb (wp_seq (wp_mono (exec_sim vok cs csp hnd hlt (drawn_of hm vok cs hcl hnd hlt) ⟨K, μ, H, W⟩ ⟨hT, hr⟩ [] n q.pre c0 h0 _ st1 .nm _ W hpre rfl hA) (fun e a w hq => ?_)))
                cases e with
                | ret => cases hq.1
                | exit id => cases hq.1
                | panic ch => obtain ⟨_, _, hx', _⟩ := hq; cases hx'
                | goto l => exact hq.elim
                | outgrown => exact hq.elim
                | normal =>
                  obtain ⟨-, L1, K1, μ1, fs1, hs1, hdf1⟩ := hq
                  have hT1 := vok.up hT hr fs1.nx
                  have fs1' : FS ⟨K1, μ1, st1.hp, w⟩ tm bs K1 μ1 (fun _ => none) st1.sl st1.hp a.tmps w := by
                    refine ⟨fs1.hr, .refl _ _ _ _, fs1.len, fs1.val, fun k t' x y => ?_, fun k r e => (by cases e), fun k k' r e => (by cases e)⟩
                    rcases fs1.box k t' x y with e | ⟨r, cs', vs', ty, g1, g2, g3, g4, g5⟩
                    · exact .inl e
                    · have := List.all_eq_true.1 hno _ (List.mem_of_getElem? g2)
                      cases this
                  have hcaps := okOs_sound (c := { P, V, nt := fn.ntmps, tm, bs, ops := #[], vos := [], rt := [] }) (done := fun _ => True) (loc := []) fs1 (fun i o vo t' _ e => by simp at e) hcv (fun _ _ => trivial)
                  refine wp_seq (wp_region_list ?_)
                  rw [hol]
                  have w1 : ∀ y, Region.wanted o1 y = true := fun y => by simp [Region.wanted, hg1]
                  have w2 : ∀ y, Region.wanted o2 y = true := fun y => by simp [Region.wanted, hg2]
                  have e1 : (execOp a.eval o1).run P w = .ok (.value (.func (.func q.g) #[] (cvs.map a.eval))) w := by simp [execOp, ho1, Instr.makeFunc]
                  have hts : t < a.tmps.size := by rw [hs1]; exact htlt
                  have hev : (a.put (some t) (.func (.func q.g) #[] (cvs.map a.eval))).eval (.tmp t) = .func (.func q.g) #[] (cvs.map a.eval) := by
                    simp only [Act.put, Act.eval]
                    exact getD_eq (put_same hts)
                  have e2 : (execOp (a.put (some t) (.func (.func q.g) #[] (cvs.map a.eval))).eval o2).run P w = .ok (.defer { target := .fn (.func q.g) (cvs.map a.eval), args := #[] }) w := by
                    simp [execOp, ho2, resolve, hev, Deferred.ofValue]
                  simp only [wpList, w1, w2, if_true]
                  left
                  unfold Oper.wp
                  rw [e1, Oper.upon_value, hd1]
                  left
                  rw [e2, Oper.upon_defer, hd2]
                  show Code.wp P c1 _ _ _
                  have hA2 : After ⟨K1, μ1, st1.hp, w⟩ tm bs fn.ntmps [{ target := .fn (.func q.g) (cvs.map a.eval), args := #[] }] st1 (({ a.put (some t) (.func (.func q.g) #[] (cvs.map a.eval)) with defers := { target := .fn (.func q.g) (cvs.map a.eval), args := #[] } :: (a.put (some t) (.func (.func q.g) #[] (cvs.map a.eval))).defers } : Act).put none undef) w :=
                    ⟨fun _ => none, K1, μ1, fs1'.tmp _ (not_tm ht), by simp only [Act.put, Array.size_setIfInBounds]; exact hs1, by simp only [Act.put]; rw [hdf1]⟩
                  have hgood : ex2.good = true := by rcases hxx with ⟨rfl | rfl, _⟩ | rfl <;> rfl
                  refine wp_mono (exec_sim vok cs csp hnd hlt (drawn_of hm vok cs hcl hnd hlt) ⟨K1, μ1, st1.hp, w⟩ ⟨hT1, fs1.hr⟩ _ n vf.body c1 h1 st1 st2 ex2 _ w hbody hgood hA2) (fun e a2 w2 hq => ?_)
                  have last : ∀ L2 K2 μ2 (v : Value) (u u' : FrameMode), FS ⟨K1, μ1, st1.hp, w⟩ tm bs K2 μ2 L2 st2.sl st2.hp a2.tmps w2 → VR K2 μ2 st2.hp x v → Rcv u u' x v → u ≠ .run → Go.settle u' = .returning → a2.defers = [{ target := .fn (.func q.g) (cvs.map a.eval), args := #[] }] → Leaves P fn a2.tmps (Gives K μ H W (oneOr ds) st3.hp) a2.defers u w2 := by
                    intro L2 K2 μ2 v u u' fs2 hxv hu hur hset hdf2
                    rw [hdf2]
                    have hvc : VRs K2 μ2 st2.hp ((q.caps.map O.s).map (O.ev [] st1.sl)) (cvs.toList.map a.eval) := ⟨hcaps.1, fun j d v e e' => (hcaps.2 j d v e e').ext fs2.nx.ext⟩
                    have hclo' := clo_sim hm vok cs csp hcl hclo (by simp) he3 hex3 (vok.up hT1 fs1.hr fs2.nx) fs2.hr hvc hxv hu
                    obtain ⟨fg, hfg, hfgb, hfgn⟩ : ∃ fg, P.funcs[q.g]? = some fg ∧ fg.body.isSome = true ∧ fg.name ≠ "runtime.NumGoroutine" := by
                      unfold okClo at hclo
                      split at hclo
                      · rename_i fg hfg
                        simp only [Bool.and_eq_true, bne_iff_ne] at hclo
                        refine ⟨fg, hfg, ?_, hclo.2⟩
                        have := hclo.1.1.1.1.1.1.1.1.1.1.1.1
                        cases hbg : fg.body with
                        | none => rw [hbg] at this; simp at this
                        | some b => rfl
                      · cases hclo
                    refine leaves_cons (f := q.g) (args := (cvs.toList.map a.eval).toArray) hur ?_ ?_
                    · simp only [invoke]
                      rw [run_callFunc hfg hfgb hfgn]
                      simp [← Array.toList_map]
                    · refine hclo'.mono (fun e u2 w3 hq2 => ?_)
                      cases e with
                      | returned _ =>
                        obtain ⟨rfl, K3, μ3, hr3, nx3⟩ := hq2
                        show Leaves P fn a2.tmps _ [] (Go.settle _) w3
                        rw [hset]
                        obtain ⟨rv, g1, g2⟩ := res_sound (P := P) (fs2.go hr3 nx3) hres hds
                        exact ⟨rv, g1, K3, μ3, hr3, (fs1.nx.trans fs2.nx).trans nx3, g2⟩
                      | _ => exact hq2.elim
                  have nml : After ⟨K1, μ1, st1.hp, w⟩ tm bs fn.ntmps [{ target := .fn (.func q.g) (cvs.map a.eval), args := #[] }] st2 a2 w2 → x = .ni → Leaves P fn a2.tmps (Gives K μ H W (oneOr ds) st3.hp) a2.defers .returning w2 := fun hq hx => by
                    obtain ⟨L2, K2, μ2, fs2, _, hdf2⟩ := hq
                    subst hx
                    exact last L2 K2 μ2 .nilIface _ _ fs2 (.ni ..) .ret (by simp) rfl hdf2
                  cases e with
                  | normal => exact nml hq.2 (by rcases hxx with ⟨_, hx⟩ | hx <;> first | exact hx | (rw [hx] at hq; cases hq.1))
                  | ret => exact nml hq.2 (by rcases hxx with ⟨_, hx⟩ | hx <;> first | exact hx | (rw [hx] at hq; cases hq.1))
                  | exit id => rcases hxx with ⟨rfl | rfl, _⟩ | rfl <;> cases hq.1
                  | panic ch =>
                    obtain ⟨x', v, hx', rfl, L2, K2, μ2, fs2, _, hdf2, hxv⟩ := hq
                    rcases hxx with ⟨rfl | rfl, _⟩ | rfl
                    · cases hx'
                    · cases hx'
                    · cases hx'
                      exact last L2 K2 μ2 v _ _ fs2 hxv (.pan x v) (by simp) rfl hdf2
                  | goto l => exact hq.elim
                  | outgrown => exact hq.elim
              split at h
              · rename_i st2 hbody; exact core _ st2 _ hbody (.inl ⟨.inl rfl, rfl⟩) h
              · rename_i st2 hbody; exact core _ st2 _ hbody (.inl ⟨.inr rfl, rfl⟩) h
              · rename_i x st2 hbody; exact core _ st2 x hbody (.inr rfl) h
              · cases h
          · cases h
        · cases h
      · cases hop
    · cases hop
  · cases hcode
theorem enterD_nopan {V : VProg} {cl : FuncId → List D → Heap → CR} {vf : VFunc} {q : Dfr} {n : Nat} {args : List D} {H : Heap} {x : D} {H' : Heap} (h : enterD V cl n vf q args H = .pan x H') : False := by
  unfold enterD leaveD at h
  repeat' split at h
  all_goals cases h
theorem enterF_all {P : Program} {V : VProg} {T : Kn → World → Prop} {cl : FuncId → List D → Heap → CR} (hm : P.follows .mixedOrders = true) (vok : VOK P V T) (cs : CallSim P T cl) (csp : CallSimP P T cl) (hcl : CallFit V cl) {f : FuncId} {fn : Func} {vf : VFunc} {tm bs : List Nat} (hf : P.funcs[f]? = some fn) (hok : okFn P V fn vf tm bs = true)
    {n : Nat} {args : List D} {H : Heap} {K : Kn} {μ : Mu} {W : World} {vs : List Value} (hT : T K W) (hr : HR K μ H W) (hv : VRs K μ H args vs) : (∀ d H', enterF V cl n vf args H = .ret d H' → Calls P f vs.toArray W (Gives K μ H W d H')) ∧ ∀ q H', enterF V cl n vf args H = .pan q H' → Calls P f vs.toArray W (Pans K μ H W q H') := by
  unfold enterF
  cases hd : vf.dfr with
  | none => exact enter_all hm vok cs csp hcl hf hok hd hT hr hv
  | some q => exact ⟨fun d H' h => enterD_sim hm vok cs csp hcl hf hok hd h hT hr hv, fun x H' h => (enterD_nopan h).elim⟩
section
variable {V : VProg} {cl : FuncId → List D → Heap → CR}
theorem step_le (hcl : ∀ (f : FuncId) (args : List D) (H : Heap) (d : D) (H' : Heap), cl f args H = .ret d H' → H.length ≤ H'.length) {op : VOp} {loc : List D} {st st1 : St} {d : D} (h : step V cl loc st op = .v d st1) : st.hp.length ≤ st1.hp.length := by
  obtain ⟨sl, H⟩ := st
  cases op with
  | hal zs => cases h; simp
  | hbx x n =>
    obtain ⟨h1, _⟩ := ofP_inv h
    simp only [Option.map_eq_some_iff] at h1
    obtain ⟨cs, _, h1⟩ := h1
    simp only [Prod.mk.injEq] at h1
    rw [← h1.2]; simp
  | haa w zs p => cases h; simp
  | mkm => cases h; simp
  | st x v n =>
    simp only [step] at h
    split at h
    · obtain ⟨h1, _⟩ := ofH_inv h; exact (stAt_wr (base := bn 0) h1).1
    · cases h
  | bsl w len zs parts p => obtain ⟨h1, _⟩ := ofP_inv h; exact (bslD_gr h1).1
  | app x y w bytes p => obtain ⟨h1, _⟩ := ofP_inv h; exact (appD_wr (base := bn 0) h1).1
  | cpy x y w => obtain ⟨h1, _⟩ := ofP_inv h; exact (cpyD_wr (base := bn 0) h1).1
  | mks l c w bytes zs p => obtain ⟨h1, _⟩ := ofP_inv h; exact (mksD_gr h1).1
  | mup kk m k v => obtain ⟨h1, _⟩ := ofH_inv h; exact (mupD_wr (base := bn 0) h1).1
  | call f xs => simp only [step] at h; obtain ⟨h1, _⟩ := toR_inv h; exact hcl _ _ _ _ _ h1
  | calv x xs =>
    simp only [step] at h
    split at h
    · obtain ⟨h1, _⟩ := toR_inv h; exact hcl _ _ _ _ _ h1
    · cases h
  | inv x m xs =>
    simp only [step] at h
    split at h
    · split at h
      · obtain ⟨h1, _⟩ := toR_inv h; exact hcl _ _ _ _ _ h1
      · cases h
    · cases h
  | pan x => simp only [step, panD] at h; split at h <;> cases h
  | cpl f xs =>
    simp only [step] at h
    split at h
    · split at h
      · obtain ⟨h1, _⟩ := toR_inv h; exact hcl _ _ _ _ _ (rets_inv h1)
      · cases h
    · cases h
  | calx f xs => simp only [step] at h; obtain ⟨h1, _⟩ := toR_inv h; exact hcl _ _ _ _ _ (adds_inv h1).1
  | sli str w x lo hi mx => cases str <;> (obtain ⟨_, h2⟩ := ofO_inv h; rw [h2]; exact Nat.le_refl _)
  | _ =>
    simp only [step] at h
    repeat' split at h
    all_goals first
      | (cases h; exact Nat.le_refl _)
      | (obtain ⟨_, h2⟩ := ofO_inv h; rw [h2]; exact Nat.le_refl _)
      | (cases h; done)
theorem ops_le (hcl : ∀ (f : FuncId) (args : List D) (H : Heap) (d : D) (H' : Heap), cl f args H = .ret d H' → H.length ≤ H'.length) {dr : Option (Bs × Bool)} : ∀ {os : List VOper} {loc : List D} {st st' : St}, ops V cl dr os loc st = (.nm, st') → st.hp.length ≤ st'.hp.length
  | [], _, _, _, h => by cases h; exact Nat.le_refl _
  | o :: os, loc, st, st', h => by
    unfold ops at h
    split at h
    · split at h
      · split at h
        · rename_i hs
          have := ops_le hcl h
          have := step_le hcl hs
          simp only at *
          omega
        · split at h <;> cases h
        · cases h
      · cases h
    · have := ops_le hcl h; exact this
    · cases h
theorem exec_le (hcl : ∀ (f : FuncId) (args : List D) (H : Heap) (d : D) (H' : Heap), cl f args H = .ret d H' → H.length ≤ H'.length) (n : Nat) : ∀ (c : VCode) (st st' : St) (ex : Ex), exec V cl n c st = (ex, st') → ex.fin = true → st.hp.length ≤ st'.hp.length := by
  intro c
  induction c with
  | skip => intro st st' ex h _; cases h; exact Nat.le_refl _
  | ret => intro st st' ex h _; cases h; exact Nat.le_refl _
  | stuck => intro st st' ex h _; cases h; exact Nat.le_refl _
  | exit id => intro st st' ex h _; cases h; exact Nat.le_refl _
  | reg os draw =>
    intro st st' ex h hg
    simp only [exec] at h
    have := ops_fin h hg
    subst this
    exact ops_le hcl h
  | seq a b iha ihb =>
    intro st st' ex h hg
    simp only [exec] at h
    cases ha : exec V cl n a st with
    | mk e1 st1 =>
      rw [ha] at h
      cases e1 with
      | nm => exact Nat.le_trans (iha _ _ _ ha rfl) (ihb _ _ _ h hg)
      | _ => simp only [Prod.mk.injEq] at h; obtain ⟨rfl, rfl⟩ := h; exact iha _ _ _ ha hg
  | cond c a b iha ihb =>
    intro st st' ex h hg
    simp only [exec] at h
    split at h
    · exact iha _ _ _ h hg
    · exact ihb _ _ _ h hg
    · cases h; cases hg
  | block id c ih =>
    intro st st' ex h hg
    simp only [exec] at h
    cases ha : exec V cl n c st with
    | mk e1 st1 =>
      rw [ha] at h
      cases e1 with
      | ex id' =>
        simp only at h
        split at h <;> (cases h; exact ih _ _ _ ha rfl)
      | _ => simp only [Prod.mk.injEq] at h; obtain ⟨rfl, rfl⟩ := h; exact ih _ _ _ ha hg
  | loop c ih =>
    intro st st' ex h hg
    simp only [exec] at h
    have : ∀ (m : Nat) (st : St), iter (exec V cl n c) m st = (ex, st') → st.hp.length ≤ st'.hp.length := by
      intro m
      induction m with
      | zero => intro st h; cases h; cases hg
      | succ m ihm =>
        intro st h
        simp only [iter] at h
        cases ha : exec V cl n c st with
        | mk e1 st1 =>
          rw [ha] at h
          cases e1 with
          | nm => exact Nat.le_trans (ih _ _ _ ha rfl) (ihm _ h)
          | _ => simp only [Prod.mk.injEq] at h; obtain ⟨rfl, rfl⟩ := h; exact ih _ _ _ ha hg
    exact this n st h
theorem enter_le (hcl : ∀ (f : FuncId) (args : List D) (H : Heap) (d : D) (H' : Heap), cl f args H = .ret d H' → H.length ≤ H'.length) {n : Nat} {vf : VFunc} {args : List D} {H H' : Heap} {d : D} (h : enter V cl n vf args H = .ret d H') : H.length ≤ H'.length := by
  unfold enter at h
  split at h
  · split at h
    · rename_i st hex
      split at h
      · cases h; exact exec_le hcl n _ _ _ _ hex rfl
      · cases h
    · rename_i st hex
      split at h
      · cases h; exact exec_le hcl n _ _ _ _ hex rfl
      · cases h
    · cases h
    · cases h
  · cases h
theorem enterF_le (hcl : ∀ (f : FuncId) (args : List D) (H : Heap) (d : D) (H' : Heap), cl f args H = .ret d H' → H.length ≤ H'.length) {n : Nat} {vf : VFunc} {args : List D} {H H' : Heap} {d : D} (h : enterF V cl n vf args H = .ret d H') : H.length ≤ H'.length := by
  unfold enterF at h
  split at h
  · exact enter_le hcl h
  · unfold enterD leaveD at h
    repeat' split at h
    all_goals first | (cases h; done) | (rename_i hb _ _ _; cases h; assumption) | (cases h; assumption)
theorem placeC_gr (d : D) (H : Heap) : Gr H (placeC d H).2 := by
  cases d <;> first | exact .push _ _ | exact .refl _
theorem placeL_gr : ∀ (ds : List D) (H : Heap), Gr H (placeL ds H).2
  | [], _ => .refl _
  | d :: ds, H => (placeC_gr d H).trans (placeL_gr ds _)
theorem place1_gr (d : D) (H : Heap) : Gr H (place1 d H).2 := by
  cases d <;> first | exact placeL_gr _ _ | exact placeC_gr _ _
theorem placeL1_gr : ∀ (ds : List D) (H : Heap), Gr H (placeL1 ds H).2
  | [], _ => .refl _
  | d :: ds, H => (place1_gr d H).trans (placeL1_gr ds _)
theorem place_gr (d : D) (H : Heap) : Gr H (place d H).2 := by
  cases d <;> first | exact placeL1_gr _ _ | exact place1_gr _ _
theorem call_fit (V : VProg) (hx : ∀ (f : FuncId) (args : List D) (H : Heap) (d : D) (H' : Heap), V.ext f args H = some (d, H') → H.length ≤ H'.length) : ∀ n, CallFit V (call V n) := by
  intro n
  induction n with
  | zero => exact ⟨fun f args H d H' h => (by cases h), fun f args H d H' vf _ _ h => (by cases h), fun f args H d H' vf _ _ _ _ h => (by cases h)⟩
  | succ n ih =>
    have gr : ∀ (f : FuncId) (args : List D) (H : Heap) (d : D) (H' : Heap) (vf : VFunc), V.fn f = some vf → vf.pure = true → call V (n + 1) f args H = .ret d H' → Gr H H' := by
      intro f args H d H' vf hf hp h
      simp only [call, hf, hp] at h
      split at h
      · cases h
      · rename_i ds H1 hfr
        split at h
        · rename_i d1 _
          cases h
          have hb : Gr H (backH vf.fre d1 H H1) := by
            unfold backH
            split
            · exact .refl _
            · exact freezeL_gr hfr
          cases hw : vf.own with
          | true => simp only [placeO]; exact hb.trans (place_gr _ _)
          | false => exact hb
        · cases h
        · cases h
    refine ⟨fun f args H d H' h => ?_, gr, fun f args H d H' vf hf hp ho ha h => ?_⟩
    rotate_left
    · simp only [call, hf, hp] at h
      split at h
      · cases h
      · rename_i ds H1 hfr
        obtain ⟨rfl, h2⟩ := (free_frz deep).2 _ _ _ _ ha hfr
        split at h
        · rename_i d1 hq
          cases h
          have hb : ∀ H, backH vf.fre d1 H H = H := fun H => by unfold backH; split <;> rfl
          rw [ho]
          refine ⟨hb _, fun H2 => ?_⟩
          simp only [call, hf, hp, h2 H2, hq, ho]
          exact congrArg _ (hb H2)
        · cases h
        · cases h
    cases hf : V.fn f with
    | none =>
      simp only [call, hf] at h
      split at h
      · rename_i heq; cases h; exact hx _ _ _ _ _ heq
      · cases h
    | some vf =>
      cases hp : vf.pure with
      | true => exact (gr f args H d H' vf hf hp h).1
      | false =>
        simp only [call, hf, hp] at h
        split at h
        · rename_i heq; cases h; exact hx _ _ _ _ _ heq
        · exact enterF_le ih.le h
end
theorem HR.adopt {K : Kn} {μ : Mu} {H : Heap} {W : World} (h : HR K μ H W) (l : Loc) (b : Blk) (hl : l.blk < W.heap.size) (hno : ¬ Own μ H l.blk) (hk : ∀ o v, K l.blk o ≠ some v)
    (hb : BlkR K (μ.upd H.length l) (H ++ [b]) W l b) :
    HR K (μ.upd H.length l) (H ++ [b]) W ∧ Ext K μ H K (μ.upd H.length l) (H ++ [b]) ∧ ∀ r, Own (μ.upd H.length l) (H ++ [b]) r → Own μ H r ∨ r = l.blk := by
  have he := Ext.push (K := K) h.dom l b
  have cas : ∀ id l' b', (μ.upd H.length l) id = some l' → (H ++ [b])[id]? = some b' → (id = H.length ∧ l' = l ∧ b' = b) ∨ (id < H.length ∧ μ id = some l' ∧ H[id]? = some b') := by
    intro id l' b' a c
    simp only [Mu.upd] at a
    split at a
    · rename_i hid; subst hid
      left
      have : b = b' := by simpa using c
      exact ⟨rfl, by simpa using a.symm, this.symm⟩
    · have hlt := h.dom id l' a
      rw [List.getElem?_append_left hlt] at c
      exact .inr ⟨hlt, a, c⟩
  have lt' : ∀ id l', (μ.upd H.length l) id = some l' → (id = H.length ∧ l' = l) ∨ (id < H.length ∧ μ id = some l') := by
    intro id l' a
    simp only [Mu.upd] at a
    split at a
    · rename_i hid; exact .inl ⟨hid, by simpa using a.symm⟩
    · exact .inr ⟨h.dom id l' a, a⟩
  have og : ∀ r, Own (μ.upd H.length l) (H ++ [b]) r → Own μ H r ∨ r = l.blk := by
    rintro r ⟨id, l', b', a, c, e, f⟩
    rcases cas id l' b' a c with ⟨_, rfl, _⟩ | ⟨_, a', c'⟩
    · exact .inr f.symm
    · exact .inl ⟨id, l', b', a', c', e, f⟩
  refine ⟨⟨fun id l' a => ?_, fun id hid => ?_, fun id l' b' a c => ?_, fun id l' a => ?_, fun id id' l1 l2 b1 b2 a1 a2 c1 c2 e1 e2 e => ?_, fun b' o' v e => ?_, fun b' o' v e ho => ?_⟩, he, og⟩
  · rcases lt' id l' a with ⟨rfl, _⟩ | ⟨x, _⟩ <;> simp <;> omega
  · simp only [List.length_append, List.length_singleton] at hid
    by_cases hi : id = H.length
    · exact ⟨l, by simp [Mu.upd, hi]⟩
    · obtain ⟨l', hl'⟩ := h.tot id (by omega)
      exact ⟨l', by simp [Mu.upd, hi, hl']⟩
  · rcases cas id l' b' a c with ⟨_, rfl, rfl⟩ | ⟨_, a', c'⟩
    · exact hb
    · exact (h.blk id l' b' a' c').ext he (fun _ => rfl)
  · rcases lt' id l' a with ⟨_, rfl⟩ | ⟨_, a'⟩
    · exact hl
    · exact h.lt id l' a'
  · rcases cas id l1 b1 a1 c1 with ⟨x1, y1, z1⟩ | ⟨x1, a1', c1'⟩ <;> rcases cas id' l2 b2 a2 c2 with ⟨x2, y2, z2⟩ | ⟨x2, a2', c2'⟩
    · omega
    · subst y1; exact (hno ⟨id', l2, b2, a2', c2', e2, e.symm⟩).elim
    · subst y2; exact (hno ⟨id, l1, b1, a1', c1', e1, e⟩).elim
    · exact h.inj id id' l1 l2 b1 b2 a1' a2' c1' c2' e1 e2 e
  · exact h.kn b' o' v e
  · rcases og b' ho with x | x
    · exact h.kf b' o' v e x
    · subst x; exact hk _ _ e
section
variable {K1 : Kn} {μ : Mu} {H1 : Heap} {W : World} {K' : Kn} {μ' : Mu} {Hc : Heap} {W' : World}
structure PS (K1 : Kn) (μ : Mu) (H1 : Heap) (W : World) (K' : Kn) (μ' : Mu) (W' : World) (used : List Nat) (μx : Mu) (Hx : Heap) : Prop where
  hr : HR K' μx Hx W'
  nx : Nx K1 μ H1 W K' μx Hx W'
  own : ∀ r, Own μx Hx r → r < W.heap.size ∨ ∃ a ∈ used, ∃ l, μ' a = some l ∧ l.blk = r
theorem PS.start (hr1 : HR K1 μ H1 W) (hr' : HR K' μ' Hc W') (nx : Nx K1 mu0 [] W K' μ' Hc W') : PS K1 μ H1 W K' μ' W' [] μ H1 := by
  have no : ∀ r, ¬ Own mu0 [] r := fun r ⟨id, l, b, a, _⟩ => by cases a
  have old : ∀ r, Own μ H1 r → r < W.heap.size := fun r ⟨id, l, b, a, _, _, e⟩ => e ▸ hr1.lt id l a
  have kg : ∀ b o v, K' b o = some v → K1 b o = some v ∨ W.heap.size ≤ b := fun b o v e => by
    rcases nx.kg b o v e with x | x | x
    · exact .inl x
    · exact (no _ x).elim
    · exact .inr x
  have ext : Ext K1 μ H1 K' μ H1 := ⟨nx.ext.k, fun id l b a c => ⟨l, b, a, c, .refl _ _⟩⟩
  refine ⟨⟨hr1.dom, hr1.tot, fun id l b a c => (hr1.blk id l b a c).ext ext (fun _ => nx.keep _ (hr1.lt id l a) (no _)), fun id l a => Nat.lt_of_lt_of_le (hr1.lt id l a) nx.size, hr1.inj, hr'.kn, fun b o v e ho => ?_⟩,
    ⟨ext, nx.os, nx.tape, nx.output, nx.size, fun r hr _ => nx.keep r hr (no _), fun r h => .inl h, fun b o v e => (kg b o v e).imp id .inr⟩, fun r h => .inl (old r h)⟩
  rcases kg b o v e with x | x
  · exact hr1.kf b o v x ho
  · have := old b ho; omega
def D.flat : D → Bool
  | .b _ | .i _ _ | .s _ | .nil | .z | .im _ _ | .np | .mnil | .fn _ [] [] | .nf | .ni => true
  | _ => false
theorem VR.any {K : Kn} {μ μ' : Mu} {H H' : Heap} {d : D} {v : Value} (h : VR K μ H d v) (hd : d.flat = true) : VR K μ' H' d v := by
  cases h <;> first | exact .b .. | exact .i .. | exact .s .. | exact .nil .. | exact .z .. | exact .np .. | exact .mnil .. | exact .nf .. | exact .ni .. | (cases hd; done) | skip
  · exact .im _ _ _ _ _ _ _ _ (by assumption) (by assumption) (by assumption) (by assumption) (by assumption)
  · rename_i a b va vb la lb ha hb
    cases a with
    | cons => cases hd
    | nil =>
      cases b with
      | cons => cases hd
      | nil => exact .fn _ _ _ [] [] va vb la lb (fun j d v e => by simp at e) (fun j d v e => by simp at e)
theorem place_cell {used : List Nat} {μx : Mu} {Hx : Heap} (hrc : HR K' μ' Hc W') (nx : Nx K1 mu0 [] W K' μ' Hc W') (ps : PS K1 μ H1 W K' μ' W' used μx Hx) {d d' : D} {v : Value} (hv : VR K' μ' Hc d v) (hs : settleC Hc d = some d') (hu : ∀ a ∈ muOf d, a ∉ used) (hlive : ∀ a ∈ used, ∃ b, Hc[a]? = some b ∧ b.live = true) :
    ∃ μy u, PS K1 μ H1 W K' μ' W' (u ++ used) μy (placeC d' Hx).2 ∧ Ext K' μx Hx K' μy (placeC d' Hx).2 ∧ VR K' μy (placeC d' Hx).2 (placeC d' Hx).1 v ∧ (∀ a ∈ u, a ∈ muOf d) ∧ ∀ a ∈ u, ∃ b, Hc[a]? = some b ∧ b.live = true := by
  have keep : ∀ (e : D), placeC e Hx = (e, Hx) → e.flat = true → VR K' μ' Hc e v → ∃ μy u, PS K1 μ H1 W K' μ' W' (u ++ used) μy (placeC e Hx).2 ∧ Ext K' μx Hx K' μy (placeC e Hx).2 ∧ VR K' μy (placeC e Hx).2 (placeC e Hx).1 v ∧ (∀ a ∈ u, a ∈ muOf d) ∧ ∀ a ∈ u, ∃ b, Hc[a]? = some b ∧ b.live = true := fun e he hk hve => by
    rw [he]
    exact ⟨μx, [], ps, .refl _ _ _, hve.any hk, fun a h => (by cases h), fun a h => (by cases h)⟩
  unfold settleC at hs
  split at hs <;> first | (cases hs; done) | (cases hs; exact keep _ rfl rfl hv) | skip
  rename_i a n off len
  split at hs
  · rename_i w rows kc lk harr
    split at hs
    · rename_i hfit
      obtain ⟨hH, hn⟩ := arr_eq harr
      cases hv with
      | mu _ _ _ _ _ _ cap blk o l w2 rows2 kc2 p2 lk2 hm hH2 hnn hcond =>
        rw [hH] at hH2; cases hH2
        obtain ⟨hadr, g2, g3, g4, g5, g6⟩ := hcond hn
        have hblk := hrc.blk a l _ hm hH
        cases lk with
        | true =>
          cases hs
          obtain ⟨_, hwd, _, hrows⟩ := hblk
          exact keep _ rfl rfl (VR.part hwd hrows hn hfit g3 hadr _ _)
        | false =>
          cases hs
          obtain ⟨hwd, hkc, hll, vs, ty, hW, hsz, hrows⟩ := hblk
          let l' : Loc := ⟨l.blk, l.off + off * w, l.size⟩
          have howc : Own μ' Hc l.blk := ⟨a, l, _, hm, hH, rfl, rfl⟩
          have hge : W.heap.size ≤ l.blk := by
            rcases nx.og _ howc with ⟨id, _, _, e, _⟩ | x
            · cases e
            · exact x
          have hpl : ((rows.drop off).take len).length = len := part_length rows off len n hn hfit
          have hwd' : Wide w ((rows.drop off).take len) := fun i r e => by
            obtain ⟨e1, _⟩ := part_get rows off len i r e
            exact hwd _ r e1
          have hsum : l.off + off * w + len * w ≤ l.size := by
            have : len * w ≤ cap * w := Nat.mul_le_mul_right w g3
            have e2 : (off + cap) * w = off * w + cap * w := Nat.add_mul ..
            omega
          have hadopt := ps.hr.adopt l' (.ar w ((rows.drop off).take len) none true false) (hrc.lt a l hm) (fun ho => ?_) (fun o v e => hrc.kf _ _ _ e howc) ?_
          · obtain ⟨hr2, ex2, og2⟩ := hadopt
            refine ⟨_, [a], ⟨hr2, ?_, fun r ho => ?_⟩, ex2, ?_, fun b hb => hb, fun b hb => ?_⟩
            · refine ⟨ps.nx.ext.trans ex2, ps.nx.os, ps.nx.tape, ps.nx.output, ps.nx.size, ps.nx.keep, fun r ho => ?_, ps.nx.kg⟩
              rcases og2 r ho with x | rfl
              · exact ps.nx.og r x
              · exact .inr hge
            · rcases og2 r ho with x | rfl
              · rcases ps.own r x with y | ⟨b, hb, y⟩
                · exact .inl y
                · exact .inr ⟨b, List.mem_append_right _ hb, y⟩
              · exact .inr ⟨a, List.mem_append_left _ (List.mem_singleton_self a), l, hm, rfl⟩
            · show VR K' _ _ (.mu Hx.length ((rows.drop off).take len).length 0 ((rows.drop off).take len).length) _
              rw [hpl]
              refine .mu _ _ _ _ _ _ cap blk o l' w ((rows.drop off).take len) none true false (by simp [Mu.upd]) (by simp [placeC]) (by omega) (fun _ => ⟨?_, by omega, g3, by omega, ?_, fun c e => by cases e⟩)
              · rcases hadr with x | ⟨x, y⟩
                · exact .inl x
                · exact .inr ⟨x, by simp [l', y]⟩
              · simp only [Nat.zero_add, l']
                have e2 : (off + cap) * w = off * w + cap * w := Nat.add_mul ..
                omega
            · obtain rfl := List.mem_singleton.1 hb; exact ⟨_, hH, rfl⟩
          · rcases ps.own _ ho with x | ⟨b, hb, lb, x, y⟩
            · have : l'.blk = l.blk := rfl
              omega
            · obtain ⟨bb, z1, z2⟩ := hlive b hb
              have := hrc.inj b a lb l bb _ x hm z1 hH z2 rfl y
              subst this
              exact hu b (List.mem_singleton_self b) hb
          · refine ⟨hwd', fun c e => (by cases e), by rw [hpl]; exact hsum, vs, ty, hW, hsz, fun i r j d e1 e2 => ?_⟩
            obtain ⟨e3, hi⟩ := part_get rows off len i r e1
            obtain ⟨v, h1, h2⟩ := hrows (off + i) r j d e3 e2
            refine ⟨v, ?_, h2.1, h2.2⟩
            rw [← h1]
            congr 1
            simp only [l', Nat.add_mul]
            omega
    · cases hs
  · cases hs
theorem apart_cons {x : Nat} {xs : List Nat} (h : apart (x :: xs) = true) : x ∉ xs ∧ apart xs = true := by
  simp only [apart, Bool.and_eq_true, Bool.not_eq_true'] at h
  exact ⟨by simpa using h.1, h.2⟩
theorem apart_append : ∀ {xs ys : List Nat}, apart (xs ++ ys) = true → apart xs = true ∧ apart ys = true ∧ ∀ a ∈ xs, a ∉ ys
  | [], ys, h => ⟨rfl, h, fun a e => by cases e⟩
  | x :: xs, ys, h => by
    obtain ⟨h1, h2⟩ := apart_cons h
    obtain ⟨h3, h4, h5⟩ := apart_append h2
    refine ⟨?_, h4, fun a ha => ?_⟩
    · simp only [apart, Bool.and_eq_true, Bool.not_eq_true']
      refine ⟨?_, h3⟩
      have : x ∉ xs := fun e => h1 (List.mem_append_left _ e)
      simpa using this
    · rcases List.mem_cons.1 ha with rfl | ha
      · exact fun e => h1 (List.mem_append_right _ e)
      · exact h5 a ha
def Laid (K1 : Kn) (μ : Mu) (H1 : Heap) (W : World) (K' : Kn) (μ' : Mu) (Hc : Heap) (W' : World) (used ms : List Nat) (μx : Mu) (Hx Hy : Heap) (R : Mu → Prop) : Prop :=
  ∃ μy u, PS K1 μ H1 W K' μ' W' (u ++ used) μy Hy ∧ Ext K' μx Hx K' μy Hy ∧ R μy ∧ (∀ a ∈ u, a ∈ ms) ∧ ∀ a ∈ u, ∃ b, Hc[a]? = some b ∧ b.live = true
theorem place_list (settleF : Heap → D → Option D) (placeF : D → Heap → D × Heap) (musF : D → List Nat)
    (hF : ∀ (used : List Nat) (μx : Mu) (Hx : Heap) (d d' : D) (v : Value), PS K1 μ H1 W K' μ' W' used μx Hx → VR K' μ' Hc d v → settleF Hc d = some d' → (∀ a ∈ musF d, a ∉ used) → apart (musF d) = true → (∀ a ∈ used, ∃ b, Hc[a]? = some b ∧ b.live = true) →
      Laid K1 μ H1 W K' μ' Hc W' used (musF d) μx Hx (placeF d' Hx).2 (fun μy => VR K' μy (placeF d' Hx).2 (placeF d' Hx).1 v))
    (placeLs : List D → Heap → List D × Heap) (hnil : ∀ H, placeLs [] H = ([], H)) (hcons : ∀ d ds H, placeLs (d :: ds) H = ((placeF d H).1 :: (placeLs ds (placeF d H).2).1, (placeLs ds (placeF d H).2).2)) :
    ∀ (ds ds' : List D) (vs : List Value) (used : List Nat) (μx : Mu) (Hx : Heap), PS K1 μ H1 W K' μ' W' used μx Hx → VRs K' μ' Hc ds vs → mapO (settleF Hc) ds = some ds' → (∀ a ∈ ds.flatMap musF, a ∉ used) → apart (ds.flatMap musF) = true → (∀ a ∈ used, ∃ b, Hc[a]? = some b ∧ b.live = true) →
      Laid K1 μ H1 W K' μ' Hc W' used (ds.flatMap musF) μx Hx (placeLs ds' Hx).2 (fun μy => VRs K' μy (placeLs ds' Hx).2 (placeLs ds' Hx).1 vs) := by
  intro ds
  induction ds with
  | nil =>
    intro ds' vs used μx Hx ps hv hs hu ha hl
    cases hs
    have : vs = [] := by have := hv.1; simpa using this.symm
    subst this
    rw [hnil]
    exact ⟨μx, [], ps, .refl _ _ _, ⟨rfl, fun j d v e => by simp at e⟩, fun a h => (by cases h), fun a h => (by cases h)⟩
  | cons d ds ih =>
    intro ds' vs used μx Hx ps hv hs hu ha hl
    simp only [mapO] at hs
    split at hs
    · rename_i d1 hd1
      split at hs
      · rename_i ds1 hds1
        cases hs
        cases vs with
        | nil => have := hv.1; simp at this
        | cons v vs =>
          simp only [List.flatMap_cons] at hu ha ⊢
          obtain ⟨a1, a2, a3⟩ := apart_append ha
          obtain ⟨μy, u, ps1, ex1, hv1, hu1, hl1⟩ := hF used μx Hx d d1 v ps (hv.2 0 d v rfl rfl) hd1 (fun a h => hu a (List.mem_append_left _ h)) a1 hl
          obtain ⟨μz, u2, ps2, ex2, hv2, hu2, hl2⟩ := ih ds1 vs (u ++ used) μy _ ps1 ⟨by have := hv.1; simpa using this, fun j d' v' e e' => hv.2 (j + 1) d' v' (by simpa using e) (by simpa using e')⟩ hds1
            (fun a h hm => by
              rcases List.mem_append.1 hm with x | x
              · exact a3 a (hu1 a x) h
              · exact hu a (List.mem_append_right _ h) x) a2 (fun a h => (List.mem_append.1 h).elim (hl1 a) (hl a))
          refine ⟨μz, u2 ++ u, by rw [List.append_assoc, hcons]; exact ps2, by rw [hcons]; exact ex1.trans ex2, ?_, fun a h => ?_, fun a h => (List.mem_append.1 h).elim (hl2 a) (hl1 a)⟩
          · rw [hcons]
            refine ⟨by simp [hv2.1], fun j d' v' e e' => ?_⟩
            cases j with
            | zero => cases e; cases e'; exact hv1.ext ex2
            | succ j => exact hv2.2 j d' v' (by simpa using e) (by simpa using e')
          · rcases List.mem_append.1 h with x | x
            · exact List.mem_append_right _ (hu2 a x)
            · exact List.mem_append_left _ (hu1 a x)
      · cases hs
    · cases hs
theorem place_one (hrc : HR K' μ' Hc W') (nx : Nx K1 mu0 [] W K' μ' Hc W') (used : List Nat) (μx : Mu) (Hx : Heap) (d d' : D) (v : Value) (ps : PS K1 μ H1 W K' μ' W' used μx Hx) (hv : VR K' μ' Hc d v) (hs : settle1 Hc d = some d') (hu : ∀ a ∈ mus1 d, a ∉ used) (ha : apart (mus1 d) = true) (hl : ∀ a ∈ used, ∃ b, Hc[a]? = some b ∧ b.live = true) :
    Laid K1 μ H1 W K' μ' Hc W' used (mus1 d) μx Hx (place1 d' Hx).2 (fun μy => VR K' μy (place1 d' Hx).2 (place1 d' Hx).1 v) := by
  have plain : ∀ {e : D}, settleC Hc d = some e → mus1 d = muOf d → (∀ cs, e ≠ .ag cs) → Laid K1 μ H1 W K' μ' Hc W' used (mus1 d) μx Hx (place1 e Hx).2 (fun μy => VR K' μy (place1 e Hx).2 (place1 e Hx).1 v) := fun {e} he hm hag => by
    have : place1 e Hx = placeC e Hx := by cases e <;> first | rfl | exact (hag _ rfl).elim
    rw [this, hm]
    obtain ⟨μy, u, h1, h2, h3, h4, h5⟩ := place_cell hrc nx ps hv he (by rw [← hm]; exact hu) hl
    exact ⟨μy, u, h1, h2, h3, h4, h5⟩
  cases d with
  | ag cs =>
    simp only [settle1, Option.map_eq_some_iff] at hs
    obtain ⟨cs', hcs, rfl⟩ := hs
    obtain ⟨vs, rfl, hc⟩ := hv.ag_inv
    obtain ⟨μy, u, h1, h2, h3, h4, h5⟩ := place_list settleC placeC muOf (fun used μx Hx d d' v ps hv hs hu _ hl => by
      obtain ⟨μy, u, h1, h2, h3, h4, h5⟩ := place_cell hrc nx ps hv hs hu hl
      exact ⟨μy, u, h1, h2, h3, h4, h5⟩) placeL (fun _ => rfl) (fun _ _ _ => rfl) cs cs' vs used μx Hx ps hc.1 hcs hu ha hl
    exact ⟨μy, u, h1, h2, .ag _ _ _ _ h3.1 hc.2 h3.2, h4, h5⟩
  | _ =>
    refine plain hs rfl (fun cs hcs => ?_)
    subst hcs
    simp only [settle1, settleC] at hs
    repeat' split at hs
    all_goals first | (cases hs; done) | skip
    all_goals (repeat' split at hs) <;> cases hs
theorem place_all (hrc : HR K' μ' Hc W') (nx : Nx K1 mu0 [] W K' μ' Hc W') (hr1 : HR K1 μ H1 W) (d d' : D) (v : Value) (hv : VR K' μ' Hc d v) (hs : settle Hc d = some d') (ha : apart (mus d) = true) :
    ∃ μy, HR K' μy (place d' H1).2 W' ∧ Nx K1 μ H1 W K' μy (place d' H1).2 W' ∧ VR K' μy (place d' H1).2 (place d' H1).1 v := by
  have ps := PS.start hr1 hrc nx
  have plain : ∀ {e : D}, settle1 Hc d = some e → mus d = mus1 d → (∀ cs, e ≠ .tu cs) → ∃ μy, HR K' μy (place e H1).2 W' ∧ Nx K1 μ H1 W K' μy (place e H1).2 W' ∧ VR K' μy (place e H1).2 (place e H1).1 v := fun {e} he hm hag => by
    have : place e H1 = place1 e H1 := by cases e <;> first | rfl | exact (hag _ rfl).elim
    rw [this]
    obtain ⟨μy, u, h1, h2, h3, h4, h5⟩ := place_one hrc nx [] μ H1 d e v ps hv he (fun a _ h => by cases h) (by rw [← hm]; exact ha) (fun a h => by cases h)
    exact ⟨μy, h1.hr, h1.nx, h3⟩
  cases d with
  | tu ds =>
    simp only [settle, Option.map_eq_some_iff] at hs
    obtain ⟨ds', hds, rfl⟩ := hs
    obtain ⟨vs, rfl, hc⟩ := hv.tu_inv
    obtain ⟨μy, u, h1, h2, h3, h4, h5⟩ := place_list settle1 place1 mus1 (fun used μx Hx d d' v ps hv hs hu ha hl => place_one hrc nx used μx Hx d d' v ps hv hs hu ha hl) placeL1 (fun _ => rfl) (fun _ _ _ => rfl) ds ds' vs [] μ H1 ps hc hds (fun a _ h => by cases h) ha (fun a h => by cases h)
    exact ⟨μy, h1.hr, h1.nx, .tu _ _ _ _ h3.1 h3.2⟩
  | ag cs =>
    refine plain hs rfl (fun ts hts => ?_)
    subst hts
    simp only [settle, settle1, Option.map_eq_some_iff] at hs
    obtain ⟨_, _, hs⟩ := hs
    cases hs
  | _ =>
    refine plain hs rfl (fun cs hcs => ?_)
    subst hcs
    simp only [settle, settle1, settleC] at hs
    repeat' split at hs
    all_goals first | (cases hs; done) | skip
    all_goals (repeat' split at hs) <;> cases hs
end
theorem fill_mu0 {K : Kn} {μ : Mu} {H : Heap} {W : World} (h : HR K μ H W) : HR K mu0 [] W where
  dom := fun id l e => by cases e
  tot := fun id h => by simp at h
  blk := fun id l b e => by cases e
  lt := fun id l e => by cases e
  inj := fun id id' l l' b b' e => by cases e
  kn := h.kn
  kf := fun b o v _ ⟨id, l, b', e, _⟩ => by cases e
theorem frzR_sound {K : Kn} {μ : Mu} {H : Heap} {W : World} {d d' : D} {v : Value} (h : frzR H d = some d') (hr : HR K μ H W) (hv : VR K μ H d v) : ∃ K' H', HR K' μ H' W ∧ Nx K μ H W K' μ H' W ∧ VR K' mu0 [] d' v := by
  have one : ∀ {d d' : D}, VR K μ H d v → frz1 H d = some d' → ∃ K' H', HR K' μ H' W ∧ Nx K μ H W K' μ H' W ∧ VR K' mu0 [] d' v := fun {d d'} hv h => by
    unfold frz1 at h
    split at h
    · rename_i d1 H1 hf
      cases h
      obtain ⟨K', a, b, c⟩ := (freeze_all deep).1 H H1 d d' K μ W v hf hr hv
      exact ⟨K', H1, a, b, c⟩
    · cases h
  cases d with
  | tu ds =>
    simp only [frzR] at h
    split at h
    · rename_i ds' H1 hf
      cases h
      obtain ⟨vs, rfl, hl, hvs⟩ := hv.tu_inv
      obtain ⟨K', a, b, c, e⟩ := (freeze_all deep).2.1 ds H H1 ds' K μ W (fun j => vs.getD j (.tuple #[])) hf hr (fun j d ed => by
        have hlt : j < vs.length := by rw [← hl]; exact lt_of_get ed
        exact hvs j d _ ed (by rw [List.getD_eq_getElem?_getD, List.getElem?_eq_getElem hlt]; rfl))
      refine ⟨K', H1, a, b, .tu _ _ ds' vs (by rw [c, hl]) (fun j d v ed ev => ?_)⟩
      have := e j d ed
      rwa [List.getD_eq_getElem?_getD, ev, Option.getD_some] at this
    · cases h
  | _ => exact one hv h
theorem VR.bare {K K2 : Kn} {μ μ2 : Mu} {H H2 : Heap} {d : D} {v : Value} (h : VR K μ H d v) (hd : d.bare = true) : VR K2 μ2 H2 d v := by
  cases h <;> first | exact .b .. | exact .i .. | exact .s .. | (cases hd; done)
theorem HR.back {K K1 K' : Kn} {μ μ' : Mu} {H Hc : Heap} {W W' : World} (hr : HR K μ H W) (nx : Nx K1 mu0 [] W K' μ' Hc W') : HR K μ H W' ∧ Nx K μ H W K μ H W' := by
  have no : ∀ r, ¬ Own mu0 [] r := fun r ⟨id, l, b, a, _⟩ => by cases a
  refine ⟨⟨hr.dom, hr.tot, fun id l b a c => (hr.blk id l b a c).ext (.refl _ _ _) (fun _ => nx.keep _ (hr.lt id l a) (no _)), fun id l a => Nat.lt_of_lt_of_le (hr.lt id l a) nx.size, hr.inj, fun b o v e => ?_, hr.kf⟩,
    ⟨.refl _ _ _, nx.os, nx.tape, nx.output, nx.size, fun r h _ => nx.keep r h (no _), fun r h => .inl h, fun b o v e => .inl e⟩⟩
  rw [← hr.kn b o v e]
  exact World.cell?_of_block (nx.keep b (hr.klt e) (no _))
def SettlesP (K : Kn) (W : World) (q : D) : Ending → World → Prop
  | .panicked ch, W' => ∃ v K' μ' H', ch = PanE v ∧ HR K' μ' H' W' ∧ Nx K mu0 [] W K' μ' H' W' ∧ VR K' mu0 [] q v
  | _, _ => False
theorem pureR_sim {P : Program} {V : VProg} {T : Kn → World → Prop} (hm : P.follows .mixedOrders = true) (vok : VOK P V T) {n : Nat} (ih : CallSim P T (call V n)) (ihp : CallSimP P T (call V n)) {f : FuncId} {vf : VFunc} (hf : V.fn f = some vf) {ds : List D} {d : D} (h : pureR V (call V n) n f vf ds = .ret d) {K : Kn} {W : World} {vs : List Value} (hT : T K W) (hr : HR K mu0 [] W) (hv : VRs K mu0 [] ds vs) :
    Calls P f vs.toArray W (Settles vf.own K W d) := by
  obtain ⟨fn, tm, bs, hP, hok, _⟩ := vok.fn f vf hf
  unfold pureR at h
  split at h
  · rename_i d1 heq
    cases h
    exact vok.pext f ds _ vf hf heq K W vs hT hr hv
  · unfold pureRun at h
    cases hent : enterF V (call V n) n vf ds [] with
    | bad => rw [hent] at h; cases h
    | pan q Hq => rw [hent] at h; simp only at h; split at h <;> cases h
    | ret d0 Hc =>
      rw [hent] at h
      simp only at h
      split at h
      · rename_i d2 hset
        cases h
        refine ((enterF_all hm vok ih ihp (call_fit V (fun f args H d H' h => (vok.ext f args H d H' h).1) n) hP hok hT hr hv).1 _ _ hent).mono (fun e W' hgv => ?_)
        cases e with
        | returned v =>
          obtain ⟨K', μ', hrc, nx, hvr⟩ := hgv
          exact ⟨K', μ', Hc, d0, hrc, nx, hvr, hset⟩
        | _ => exact hgv.elim
      · cases h
theorem pureR_simP {P : Program} {V : VProg} {T : Kn → World → Prop} (hm : P.follows .mixedOrders = true) (vok : VOK P V T) {n : Nat} (ih : CallSim P T (call V n)) (ihp : CallSimP P T (call V n)) {f : FuncId} {vf : VFunc} (hf : V.fn f = some vf) {ds : List D} {q : D} (h : pureR V (call V n) n f vf ds = .pan q) {K : Kn} {W : World} {vs : List Value} (hT : T K W) (hr : HR K mu0 [] W) (hv : VRs K mu0 [] ds vs) :
    Calls P f vs.toArray W (SettlesP K W q) := by
  obtain ⟨fn, tm, bs, hP, hok, _⟩ := vok.fn f vf hf
  unfold pureR at h
  split at h
  · cases h
  · unfold pureRun at h
    cases hent : enterF V (call V n) n vf ds [] with
    | bad => rw [hent] at h; cases h
    | ret d0 Hc => rw [hent] at h; simp only at h; split at h <;> cases h
    | pan q0 Hq =>
      rw [hent] at h
      simp only at h
      split at h
      · rename_i d2 H2 hfr
        cases h
        refine ((enterF_all hm vok ih ihp (call_fit V (fun f args H d H' h => (vok.ext f args H d H' h).1) n) hP hok hT hr hv).2 _ _ hent).mono (fun e W' hgv => ?_)
        cases e with
        | panicked ch =>
          obtain ⟨v, K', μ', rfl, hrc, nx, hvr⟩ := hgv
          obtain ⟨K2, a, b, c⟩ := (freeze_all deep).1 Hq H2 q0 q K' μ' W' v hfr hrc hvr
          exact ⟨v, K2, μ', H2, rfl, a, nx.trans b, c⟩
        | _ => exact hgv.elim
      · cases h
theorem call_both {P : Program} {V : VProg} {T : Kn → World → Prop} (hm : P.follows .mixedOrders = true) (vok : VOK P V T) : ∀ n, CallSim P T (call V n) ∧ CallSimP P T (call V n) := by
  intro n
  induction n with
  | zero => exact ⟨fun f args H d H' h => (by cases h), fun f args H d H' h => (by cases h)⟩
  | succ n ih =>
    obtain ⟨ih, ihp⟩ := ih
    have args_frozen : ∀ {args ds : List D} {H H1 : Heap} {K : Kn} {μ : Mu} {W : World} {vs : List Value}, freezeL deep H args = some (ds, H1) → HR K μ H W → VRs K μ H args vs → ∃ K1, HR K1 μ H1 W ∧ Nx K μ H W K1 μ H1 W ∧ VRs K1 mu0 [] ds vs := fun {args ds H H1 K μ W vs} hfr hr hv => by
      have hg : ∀ (j : Nat) (d : D), args[j]? = some d → VR K μ H d (vs.getD j (.tuple #[])) := fun j d e => by
        have hlt : j < vs.length := by rw [← hv.1]; exact lt_of_get e
        exact hv.2 j d _ e (by rw [List.getD_eq_getElem?_getD, List.getElem?_eq_getElem hlt]; rfl)
      obtain ⟨K1, hr1, nx1, hlen, hpt⟩ := (freeze_all deep).2.1 args H H1 ds K μ W (fun j => vs.getD j (.tuple #[])) hfr hr hg
      exact ⟨K1, hr1, nx1, by rw [hlen, hv.1], fun j d v e e' => by
        have := hpt j d e
        rwa [List.getD_eq_getElem?_getD, e', Option.getD_some] at this⟩
    refine ⟨fun f args H d H' h => ?_, fun f args H q H' h => ?_⟩
    · cases hf : V.fn f with
      | none =>
        simp only [call, hf] at h
        split at h
        · rename_i heq; cases h; exact (vok.ext _ _ _ _ _ heq).2
        · cases h
      | some vf =>
        obtain ⟨fn, tm, bs, hP, hok, _⟩ := vok.fn f vf hf
        refine ⟨vok.known hf, fun K μ W vs hT hr hv => ?_⟩
        cases hp : vf.pure with
        | false =>
          simp only [call, hf, hp] at h
          split at h
          · rename_i d1 H1 heq
            cases h
            exact (vok.ext f args H _ _ heq).2.2 K μ W vs hT hr hv
          · exact (enterF_all hm vok ih ihp (call_fit V (fun f args H d H' h => (vok.ext f args H d H' h).1) n) hP hok hT hr hv).1 _ _ h
        | true =>
          simp only [call, hf, hp] at h
          split at h
          · cases h
          · rename_i ds H1 hfr
            obtain ⟨K1, hr1, nx1, hvs⟩ := args_frozen hfr hr hv
            split at h
            · rename_i d1 heq
              cases h
              refine (pureR_sim hm vok ih ihp hf heq (vok.up hT hr nx1) (fill_mu0 hr1) hvs).mono (fun e W' hgv => ?_)
              cases e with
              | returned v =>
                obtain ⟨K', μ', Hc, d0, hrc, nx, hvr, hset⟩ := hgv
                have main : ∃ K2 μ2, HR K2 μ2 (placeO vf.own d1 H1).2 W' ∧ Nx K μ H W K2 μ2 (placeO vf.own d1 H1).2 W' ∧ VR K2 μ2 (placeO vf.own d1 H1).2 (placeO vf.own d1 H1).1 v := by
                  cases how : vf.own with
                  | true =>
                    rw [how] at hset
                    simp only [settleO] at hset
                    split at hset
                    · rename_i hap
                      obtain ⟨μy, h1, h2, h3⟩ := place_all hrc nx hr1 d0 d1 v hvr hset hap
                      exact ⟨K', μy, h1, nx1.trans h2, h3⟩
                    · cases hset
                  | false =>
                    rw [how] at hset
                    obtain ⟨K2, H2, h1, h2, h3⟩ := frzR_sound hset hrc hvr
                    have ps := PS.start hr1 h1 (nx.trans h2)
                    exact ⟨K2, μ, ps.hr, nx1.trans ps.nx, h3.pure⟩
                cases hbk : (vf.fre && d1.bare) with
                | false =>
                  simp only [backH, hbk]
                  exact main
                | true =>
                  obtain ⟨_, _, _, _, m3⟩ := main
                  have hb : d1.bare = true := (Bool.and_eq_true _ _ ▸ hbk).2
                  have hp1 : ∀ Hx, placeO vf.own d1 Hx = (d1, Hx) := fun Hx => by
                    cases vf.own with
                    | false => rfl
                    | true => cases d1 <;> first | rfl | (cases hb; done)
                  simp only [backH, hbk, hp1] at m3 ⊢
                  obtain ⟨b1, b2⟩ := hr.back nx
                  exact ⟨K, μ, b1, b2, m3.bare hb⟩
              | _ => exact hgv.elim
            · cases h
            · cases h
    · cases hf : V.fn f with
      | none => simp only [call, hf] at h; split at h <;> cases h
      | some vf =>
        obtain ⟨fn, tm, bs, hP, hok, _⟩ := vok.fn f vf hf
        refine ⟨vok.known hf, fun K μ W vs hT hr hv => ?_⟩
        cases hp : vf.pure with
        | false =>
          simp only [call, hf, hp] at h
          split at h
          · cases h
          · exact (enterF_all hm vok ih ihp (call_fit V (fun f args H d H' h => (vok.ext f args H d H' h).1) n) hP hok hT hr hv).2 _ _ h
        | true =>
          simp only [call, hf, hp] at h
          split at h
          · cases h
          · rename_i ds H1 hfr
            obtain ⟨K1, hr1, nx1, hvs⟩ := args_frozen hfr hr hv
            split at h
            · cases h
            · rename_i q1 heq
              cases h
              refine (pureR_simP hm vok ih ihp hf heq (vok.up hT hr nx1) (fill_mu0 hr1) hvs).mono (fun e W' hgv => ?_)
              cases e with
              | panicked ch =>
                obtain ⟨v, K', μ', Hc, rfl, hrc, nx, hvr⟩ := hgv
                have ps := PS.start hr1 hrc nx
                exact ⟨v, K', μ, rfl, ps.hr, nx1.trans ps.nx, hvr.pure⟩
              | _ => exact hgv.elim
            · cases h
theorem call_sim {P : Program} {V : VProg} {T : Kn → World → Prop} (hm : P.follows .mixedOrders = true) (vok : VOK P V T) (n : Nat) : CallSim P T (call V n) := (call_both hm vok n).1
theorem call_simP {P : Program} {V : VProg} {T : Kn → World → Prop} (hm : P.follows .mixedOrders = true) (vok : VOK P V T) (n : Nat) : CallSimP P T (call V n) := (call_both hm vok n).2
theorem pcall_sim {P : Program} {V : VProg} {T : Kn → World → Prop} (hm : P.follows .mixedOrders = true) (vok : VOK P V T) {n : Nat} {f : FuncId} {ds : List D} {d : D} (h : pcall V n f ds = .ret d) {K : Kn} {W : World} {vs : List Value} (hT : T K W) (hr : HR K mu0 [] W) (hv : VRs K mu0 [] ds vs) :
    ∃ own, Calls P f vs.toArray W (Settles own K W d) := by
  cases n with
  | zero => cases h
  | succ n =>
    unfold pcall at h
    cases hf : V.fn f with
    | none => simp only [hf] at h; cases h
    | some vf =>
      simp only [hf] at h
      exact ⟨_, pureR_sim hm vok (call_sim hm vok n) (call_simP hm vok n) hf h hT hr hv⟩
end Go.Dm
