/-
  Slices, strings, small generic functions and strings.Builder in runs.
-/
import Derived.Test.YtnhbopeopppojaaGreatDoorDg
import Derived.Test.YtnhbopeopppojaaGreatDoorDe
import Derived.IntWalk
import Derived.Shelf.Strings.Builder1
namespace Go.Dm
@[go_sem] theorem flat_b {x : Bool} : (D.b x).flat = true := rfl
@[go_sem] theorem flat_i {k : IntKind} {x : Int} : (D.i k x).flat = true := rfl
@[go_sem] theorem flat_s {x : List UInt8} : (D.s x).flat = true := rfl
@[go_sem] theorem flat_nil : D.nil.flat = true := rfl
@[go_sem] theorem flat_z : D.z.flat = true := rfl
@[go_sem] theorem flat_im {w : Nat} {r : List (List D)} : (D.im w r).flat = true := rfl
@[go_sem] theorem flat_np : D.np.flat = true := rfl
@[go_sem] theorem flat_mnil : D.mnil.flat = true := rfl
@[go_sem] theorem flat_nf : D.nf.flat = true := rfl
@[go_sem] theorem flat_ni : D.ni.flat = true := rfl
theorem Sl.flat {w : Nat} {rows : List (List D)} {x : D} (h : Sl w rows x) : x.flat = true := by cases h <;> rfl
theorem flat_freeze {d : D} (h : d.flat = true) (m : Nat) (H : Heap) : freeze (m + 1) H d = some (d, H) := by
  cases d <;> first | rfl | (cases h; done) | skip
  rename_i f a b
  cases a with
  | cons => cases h
  | nil =>
    cases b with
    | cons => cases h
    | nil => rfl
theorem flat_freezeL (m : Nat) (H : Heap) : ∀ {ds : List D}, (∀ d ∈ ds, d.flat = true) → freezeL (m + 2) H ds = some (ds, H)
  | [], _ => freezeL_nil _ _
  | d :: ds, h => by rw [freezeL_cons, flat_freeze (h d List.mem_cons_self)]; simp only; rw [flat_freezeL m H (fun e he => h e (List.mem_cons_of_mem _ he))]
theorem flat_freezeLL (m : Nat) (H : Heap) : ∀ {rs : List (List D)}, (∀ r ∈ rs, ∀ d ∈ r, d.flat = true) → freezeLL (m + 3) H rs = some (rs, H)
  | [], _ => freezeLL_nil _ _
  | r :: rs, h => by rw [freezeLL_cons, flat_freezeL m H (h r List.mem_cons_self)]; simp only; rw [flat_freezeLL m H (fun e he => h e (List.mem_cons_of_mem _ he))]
theorem flat_freezeRows (H : Heap) {rs : List (List D)} (h : ∀ r ∈ rs, ∀ d ∈ r, d.flat = true) : freezeRows H rs = some (rs, H) := flat_freezeLL 9 H h
def fzA (m : Nat) (ds : List D) : Option (D × Heap) → Option (List D × Heap)
  | some (d', H') => match freezeL (m + 1) H' ds with
      | some (ds', H'') => some (d' :: ds', H'')
      | none => none
  | none => none
def fzB (d' : D) : Option (List D × Heap) → Option (List D × Heap)
  | some (ds', H'') => some (d' :: ds', H'')
  | none => none
section
variable {H : Heap}
@[go_sem] theorem deep_eq : deep = 12 := rfl
@[go_sem] theorem fz_nil {m : Nat} : freezeL m H [] = some ([], H) := freezeL_nil _ _
@[go_sem] theorem fz_cons {m : Nat} {d : D} {ds : List D} : freezeL (m + 1) H (d :: ds) = fzA m ds (freeze m H d) := by
  rw [freezeL_cons]
  cases freeze m H d with
  | none => rfl
  | some q => rfl
@[go_sem] theorem fzA_s {m : Nat} {d' : D} {ds : List D} : fzA m ds (some (d', H)) = fzB d' (freezeL (m + 1) H ds) := by
  simp only [fzA]
  cases freezeL (m + 1) H ds <;> rfl
@[go_sem] theorem fzB_s {d' : D} {ds : List D} : fzB d' (some (ds, H)) = some (d' :: ds, H) := rfl
theorem fz_flat {m : Nat} {d : D} (h : d.flat = true) : freeze (m + 1) H d = some (d, H) := flat_freeze h m H
@[go_sem] theorem fz_b {m : Nat} {x : Bool} : freeze (m + 1) H (.b x) = some ((.b x), H) := rfl
@[go_sem] theorem fz_i {m : Nat} {k : IntKind} {x : Int} : freeze (m + 1) H (.i k x) = some ((.i k x), H) := rfl
@[go_sem] theorem fz_s {m : Nat} {x : List UInt8} : freeze (m + 1) H (.s x) = some ((.s x), H) := rfl
@[go_sem] theorem fz_nl {m : Nat}  : freeze (m + 1) H .nil = some (.nil, H) := rfl
@[go_sem] theorem fz_z {m : Nat}  : freeze (m + 1) H .z = some (.z, H) := rfl
@[go_sem] theorem fz_im {m : Nat} {w : Nat} {r : List (List D)} : freeze (m + 1) H (.im w r) = some ((.im w r), H) := rfl
@[go_sem] theorem fz_np {m : Nat}  : freeze (m + 1) H .np = some (.np, H) := rfl
@[go_sem] theorem fz_mnil {m : Nat}  : freeze (m + 1) H .mnil = some (.mnil, H) := rfl
@[go_sem] theorem fz_nf {m : Nat}  : freeze (m + 1) H .nf = some (.nf, H) := rfl
@[go_sem] theorem fz_ni {m : Nat}  : freeze (m + 1) H .ni = some (.ni, H) := rfl
@[go_sem] theorem fz_fn {m : Nat} {f : Fn} : freeze (m + 1) H (.fn f [] []) = some (.fn f [] [], H) := rfl
def fzG : Option (List D × Heap) → Option (D × Heap)
  | some (ds, H) => some (.ag ds, H)
  | none => none
@[go_sem] theorem fz_ag {m : Nat} {cs : List D} : freeze (m + 1) H (.ag cs) = fzG (freezeL m H cs) := by
  rw [freeze_succ]; simp only; cases freezeL m H cs <;> rfl
@[go_sem] theorem fzG_s {ds : List D} : fzG (some (ds, H)) = some (.ag ds, H) := rfl
def fzM (H : Heap) (a off len : Nat) : Option (Nat × List (List D) × Option Nat × Bool × Bool) → Option (D × Heap)
  | some (w, rows, cap, true, _) => if off + len ≤ rows.length then some (.im w ((rows.drop off).take len), H.set a (.ar w rows cap true true)) else none
  | _ => none
@[go_sem] theorem fz_mu {m a n off len : Nat} : freeze (m + 1) H (.mu a n off len) = fzM H a off len (arr H a n) := by
  rw [freeze_succ]; simp only
  cases h : arr H a n with
  | none => rfl
  | some q =>
    obtain ⟨w, rows, cap, p, lk⟩ := q
    have := (arr_eq h).2
    cases p <;> simp [fzM, this]
@[go_sem] theorem fzM_s {a off len w : Nat} {rows : List (List D)} {cap : Option Nat} {lk : Bool} : fzM H a off len (some (w, rows, cap, true, lk)) = if off + len ≤ rows.length then some (.im w ((rows.drop off).take len), H.set a (.ar w rows cap true true)) else none := rfl
def frzO : Option (D × Heap) → Option D
  | some (d, _) => some d
  | none => none
def frzT : Option (List D × Heap) → Option D
  | some (ds, _) => some (.tu ds)
  | none => none
theorem frz1_eq {d : D} : frz1 H d = frzO (freeze 12 H d) := by
  show frz1 H d = frzO (freeze deep H d)
  unfold frz1; cases freeze deep H d <;> rfl
@[go_sem] theorem frzO_s {d : D} : frzO (some (d, H)) = some d := rfl
@[go_sem] theorem frzT_s {d : List D} : frzT (some (d, H)) = some (.tu d) := rfl
@[go_sem] theorem frzR_tu {ds : List D} : frzR H (.tu ds) = frzT (freezeL 12 H ds) := by
  show frzR H (.tu ds) = frzT (freezeL deep H ds)
  simp only [frzR]; cases freezeL deep H ds <;> rfl
@[go_sem] theorem frzR_b {x : Bool} : frzR H (.b x) = some (.b x) := rfl
@[go_sem] theorem frzR_i {k : IntKind} {x : Int} : frzR H (.i k x) = some (.i k x) := rfl
@[go_sem] theorem frzR_s {x : List UInt8} : frzR H (.s x) = some (.s x) := rfl
@[go_sem] theorem frzR_nil  : frzR H .nil = some .nil := rfl
@[go_sem] theorem frzR_z  : frzR H .z = some .z := rfl
@[go_sem] theorem frzR_im {w : Nat} {r : List (List D)} : frzR H (.im w r) = some (.im w r) := rfl
@[go_sem] theorem frzR_np  : frzR H .np = some .np := rfl
@[go_sem] theorem frzR_mnil  : frzR H .mnil = some .mnil := rfl
@[go_sem] theorem frzR_nf  : frzR H .nf = some .nf := rfl
@[go_sem] theorem frzR_ni  : frzR H .ni = some .ni := rfl
@[go_sem] theorem frzR_ag {cs : List D} : frzR H (.ag cs) = frzO (freeze 12 H (.ag cs)) := frz1_eq
@[go_sem] theorem frzR_mu {a n off len : Nat} : frzR H (.mu a n off len) = frzO (freeze 12 H (.mu a n off len)) := frz1_eq
def fzI (t : TypeId) : Option (D × Heap) → Option (D × Heap)
  | some (d, H) => some (.ifc t d, H)
  | none => none
@[go_sem] theorem fz_ifc {m : Nat} {t : TypeId} {d : D} : freeze (m + 1) H (.ifc t d) = fzI t (freeze m H d) := by
  rw [freeze_succ]; simp only; cases freeze m H d <;> rfl
@[go_sem] theorem fzI_s {t : TypeId} {d : D} : fzI t (some (d, H)) = some (.ifc t d, H) := rfl
@[go_sem] theorem settleO_f {d : D} : settleO false H d = frzR H d := rfl
@[go_sem] theorem settleO_t {d : D} : settleO true H d = if apart (mus d) then settle H d else none := rfl
@[go_sem] theorem placeO_f {d : D} : placeO false d H = (d, H) := rfl
@[go_sem] theorem placeO_t {d : D} : placeO true d H = place d H := rfl
theorem place_flat {d : D} (h : d.flat = true) : place d H = (d, H) := by
  cases d <;> first | rfl | (cases h; done)
end
section
variable {V : VProg} {H : Heap} {f : FuncId} {vf : VFunc} {K : CR → Prop}
theorem CallQ_p (hf : V.fn f = some vf) (hp : vf.pure = true) {args ds : List D} {H1 : Heap} {d : D} (h : PRet V f ds d) (hfr : freezeL deep H args = some (ds, H1)) (hq : vf.fre = false := by first | rfl | assumption) : CallQ V f args H K ↔ K (.ret (placeO vf.own d H1).1 (placeO vf.own d H1).2) :=
  CallQ_ret (Ret.pure hf hp hfr h hq)
def D.plain : D → Bool
  | .ag ds => ds.all D.flat
  | d => d.flat
theorem Sl.pl {w : Nat} {rows : List (List D)} {x : D} (h : Sl w rows x) : x.plain = true := by cases h <;> rfl
@[go_sem] theorem plain_b {x : Bool} : (D.b x).plain = true := rfl
@[go_sem] theorem plain_i {k : IntKind} {x : Int} : (D.i k x).plain = true := rfl
@[go_sem] theorem plain_s {x : List UInt8} : (D.s x).plain = true := rfl
@[go_sem] theorem plain_nil : D.nil.plain = true := rfl
@[go_sem] theorem plain_ag {l : List D} : (D.ag l).plain = l.all D.flat := rfl
theorem plain_freeze {d : D} (h : d.plain = true) (m : Nat) (H : Heap) : freeze (m + 6) H d = some (d, H) := by
  cases d
  case ag ds =>
    have hh : ∀ d ∈ ds, d.flat = true := by simpa [D.plain] using h
    rw [freeze_succ]
    simp only [flat_freezeL (m + 3) H hh]
  all_goals exact flat_freeze (by simpa only [D.plain] using h) (m + 5) H
theorem plain_freezeL {H : Heap} : ∀ {ds : List D}, (∀ d ∈ ds, d.plain = true) → freezeL deep H ds = some (ds, H)
  | [], _ => freezeL_nil _ _
  | d :: ds, h => by
    have e1 : freeze 11 H d = some (d, H) := plain_freeze (h d List.mem_cons_self) 5 H
    have e2 : freezeL 12 H ds = some (ds, H) := plain_freezeL fun e he => h e (List.mem_cons_of_mem _ he)
    show freezeL 12 H (d :: ds) = _
    rw [freezeL_cons, e1]; simp only; rw [e2]
theorem PRet.c {ds : List D} {d : D} (h : PRet V f ds d) (hf : V.fn f = some vf) (hp : vf.pure = true) (ha : ds.all D.plain = true) (ho : vf.own = false ∨ d.flat = true) : CallQ V f ds H K ↔ K (.ret d H) := by
  rw [CallQ_ret (Ret.pure0 hf hp (plain_freezeL (by simpa using ha)) h), backH_same]
  rcases ho with ho | ho
  · rw [ho]; rfl
  · cases hw : vf.own with
    | false => rfl
    | true => simp only [placeO, place_flat ho]
end
theorem wr {x : Int} (h1 : -9223372036854775808 ≤ x) (h2 : x < 9223372036854775808) : IntKind.i64.wrap x = x := IntWalk.i64_in _ (by omega)
@[go_sem] theorem tn_sub1 {i : Nat} : ((i : Int) - 1).toNat = i - 1 := by omega
@[go_sem] theorem tn_add1 {i : Nat} : ((i : Int) + 1).toNat = i + 1 := by omega
attribute [go_sem] Int.toNat_natCast Int.toNat_zero Int.toNat_one Int.natCast_add List.length_map List.length_append List.length_set List.length_replicate List.length_singleton Int.sub_zero Int.add_zero Int.zero_add Nat.sub_zero St.mk.injEq List.cons.injEq D.i.injEq D.b.injEq D.s.injEq D.ag.injEq D.bx.injEq D.mu.injEq D.im.injEq CR.ret.injEq PR.ret.injEq true_and and_true exists_eq_left exists_eq_right exists_eq_left' exists_eq_right' exists_eq exists_eq' exists_and_left exists_and_right
section
variable {V : VProg} {Q : Ex → St → Prop} {dr : Option (Bs × Bool)} {os : List VOper} {keep : Option Nat} {loc sl sl' : List D} {H H' : Heap} {w : Nat} {α : Type} [Inhabited α] {enc : α → List D} {l : List α} {d : D} {k : IntKind} {x : Int}
theorem Sl.q (h : Sl w (l.map enc) d) : AfterQ V dr os keep loc sl Q (ofO ⟨sl', H⟩ (iadD H' d (.i k x) w)) ↔ (0 ≤ x ∧ x < l.length) ∧ AfterQ V dr os keep loc sl Q (.v (.ip (enc l[x.toNat]!)) ⟨sl', H⟩) := by
  have hno : ∀ {d}, iadD H' d (.i k x) w = none → ¬ (0 ≤ x ∧ x < l.length) → (AfterQ V dr os keep loc sl Q (ofO ⟨sl', H⟩ (iadD H' d (.i k x) w)) ↔ (0 ≤ x ∧ x < l.length) ∧ AfterQ V dr os keep loc sl Q (.v (.ip (enc l[x.toNat]!)) ⟨sl', H⟩)) := fun {d} e hn => by
    rw [e]
    exact ⟨fun h => h.elim, fun h => (hn h.1).elim⟩
  cases h with
  | nil h =>
    have : l = [] := by simpa using h
    subst this
    exact hno rfl (by simp)
  | z h =>
    have : l = [] := by simpa using h
    subst this
    exact hno rfl (by simp)
  | im =>
    by_cases hx : 0 ≤ x ∧ x < l.length
    · have hlt : x.toNat < l.length := by omega
      have e : iadD H' (.im w (l.map enc)) (.i k x) w = some (.ip (enc l[x.toNat]!)) := by
        simp only [iadD, ixOf, List.length_map, hx, and_self, if_true]
        simp [hlt, getElem!_pos]
      rw [e, ofO_some]
      exact ⟨fun h => ⟨hx, h⟩, fun h => h.2⟩
    · refine hno ?_ hx
      simp only [iadD, ixOf, List.length_map, hx, if_false]
omit [Inhabited α] in
theorem Sl.n (h : Sl w (l.map enc) d) : lenD H 1 d = some (.i .i64 l.length) := by rw [h.len, List.length_map]
theorem Sl.c1 {rows : List (List D)} (h : Sl w rows d) : d.cellsN 1 = some [d] := by cases h <;> rfl
end
def arrB (n : Nat) : Option Blk → Option (Nat × List (List D) × Option Nat × Bool × Bool)
  | some (.ar w rows cap p lk) => if rows.length = n then some (w, rows, cap, p, lk) else none
  | _ => none
@[go_sem] theorem arr_g {H : Heap} {a n : Nat} : arr H a n = arrB n H[a]? := by
  simp only [arr, arrB]; rfl
@[go_sem] theorem arrB_s {n w : Nat} {rows : List (List D)} {cap : Option Nat} {p lk : Bool} : arrB n (some (.ar w rows cap p lk)) = if rows.length = n then some (w, rows, cap, p, lk) else none := rfl
def iadM (a n off len w : Nat) (ix : D) : Option (Nat × List (List D) × Option Nat × Bool × Bool) → Option D
  | some (w', _, _, _, _) => match ixOf ix len with
      | some j => if w' = w then some (.ap a n (off + j) 0) else none
      | none => none
  | none => none
@[go_sem] theorem iad_mu {H : Heap} {a n off len w : Nat} {ix : D} : iadD H (.mu a n off len) ix w = iadM a n off len w ix (arr H a n) := by
  simp only [iadD, iadM]
  cases arr H a n with
  | none => rfl
  | some q => rfl
def ldM (off k : Nat) (i : Nat) : Option (Nat × List (List D) × Option Nat × Bool × Bool) → Option (List D)
  | some (_, rows, _, _, _) => match rows[i]? with
      | some r => cut r off k
      | none => none
  | none => none
def rowL (off k : Nat) : Option (List D) → Option (List D)
  | some r => cut r off k
  | none => none
@[go_sem] theorem ld_ap {H : Heap} {a n i off k : Nat} : ldAt H (.ap a n i off) k = ldM off k i (arr H a n) := by
  simp only [ldAt, ldM]
  cases arr H a n with
  | none => rfl
  | some q => rfl
@[go_sem] theorem ldM_s {off k i w : Nat} {rows : List (List D)} {cap : Option Nat} {p lk : Bool} : ldM off k i (some (w, rows, cap, p, lk)) = rowL off k rows[i]? := by
  simp only [ldM]; cases rows[i]? <;> rfl
@[go_sem] theorem rowL_s {off k : Nat} {r : List D} : rowL off k (some r) = cut r off k := rfl
def stM (H : Heap) (a n i off : Nat) (vs : List D) : Option (Nat × List (List D) × Option Nat × Bool × Bool) → Option Heap
  | some (w, rows, cap, true, lk) => match freezeL deep H vs with
      | some (vs', H') => match arr H' a n with
        | some (_, _, _, true, _) => putRow H' a n i off vs'
        | _ => none
      | none => none
  | some (_, _, _, false, _) => putRow H a n i off vs
  | none => none
theorem st_ap {H : Heap} {a n i off : Nat} {vs : List D} : stAt H (.ap a n i off) vs = stM H a n i off vs (arr H a n) := by
  simp only [stAt, stM]
  cases arr H a n with
  | none => rfl
  | some q =>
    obtain ⟨w, rows, cap, p, lk⟩ := q
    cases p <;> rfl
def putM (H : Heap) (a w : Nat) (rows : List (List D)) (i off : Nat) (vs : List D) (cap : Option Nat) (p : Bool) : Option (List D) → Option Heap
  | some r => match put r off vs with
      | some r' => some (H.set a (.ar w (rows.set i r') cap p false))
      | none => none
  | none => none
def putN (H : Heap) (a w : Nat) (rows : List (List D)) (i : Nat) (cap : Option Nat) (p : Bool) : Option (List D) → Option Heap
  | some r' => some (H.set a (.ar w (rows.set i r') cap p false))
  | none => none
theorem putRow_eq {H : Heap} {a n i off w : Nat} {rows : List (List D)} {cap : Option Nat} {p : Bool} {vs : List D} (h : arr H a n = some (w, rows, cap, p, false)) : putRow H a n i off vs = putM H a w rows i off vs cap p rows[i]? := by
  simp only [putRow, h, putM]
  cases rows[i]? with
  | none => rfl
  | some r => rfl
@[go_sem] theorem putM_s {H : Heap} {a w : Nat} {rows : List (List D)} {i off : Nat} {vs r : List D} {cap : Option Nat} {p : Bool} : putM H a w rows i off vs cap p (some r) = putN H a w rows i cap p (put r off vs) := by
  simp only [putM]; cases put r off vs <;> rfl
@[go_sem] theorem putN_s {H : Heap} {a w : Nat} {rows : List (List D)} {i : Nat} {r : List D} {cap : Option Nat} {p : Bool} : putN H a w rows i cap p (some r) = some (H.set a (.ar w (rows.set i r) cap p false)) := rfl
theorem set_arr {H : Heap} {a n i off : Nat} {vs : List D} {w : Nat} {rows : List (List D)} {cap : Option Nat} {p : Bool} (hv : vs.all D.flat = true) (h : arr H a n = some (w, rows, cap, p, false)) : stAt H (.ap a n i off) vs = putM H a w rows i off vs cap p rows[i]? := by
  rw [st_ap, h]
  cases p with
  | false => simp only [stM]; exact putRow_eq h
  | true =>
    have hf : freezeL deep H vs = some (vs, H) := flat_freezeL 10 H (by simpa using hv)
    simp only [stM, hf, h]
    exact putRow_eq h
def stX := stAt
def stA (H : Heap) (a n i off : Nat) (vs : List D) : Option Blk → Option Heap
  | some (.ar w rows cap p false) => if rows.length = n then (if vs.all D.flat then putM H a w rows i off vs cap p rows[i]? else stX H (.ap a n i off) vs) else none
  | _ => stX H (.ap a n i off) vs
@[go_sem] theorem st_g {H : Heap} {a n i off : Nat} {vs : List D} : stAt H (.ap a n i off) vs = stA H a n i off vs H[a]? := by
  cases h : H[a]? with
  | none => rfl
  | some b =>
    cases b with
    | ar w rows cap p lk =>
      cases lk with
      | true => rfl
      | false =>
        simp only [stA]
        split
        · rename_i hn
          split
          · rename_i hv
            exact set_arr hv (by simp [arr, h, hn])
          · rfl
        · rename_i hn
          simp [stAt, arr, h, hn]
    | _ => rfl
@[go_sem] theorem stA_s {H : Heap} {a n i off w : Nat} {vs : List D} {rows : List (List D)} {cap : Option Nat} {p : Bool} : stA H a n i off vs (some (.ar w rows cap p false)) = if rows.length = n then (if vs.all D.flat then putM H a w rows i off vs cap p rows[i]? else stX H (.ap a n i off) vs) else none := rfl
section
variable {V : VProg} {Q : Ex → St → Prop} {dr : Option (Bs × Bool)} {os : List VOper} {keep : Option Nat} {loc sl sl' : List D} {H H' : Heap} {w w' : Nat} {α : Type} [Inhabited α] {enc : α → List D} {l : List α} {d : D} {k : IntKind} {x : Int}
@[go_sem] theorem q_iadM {a n off len : Nat} {rows : List (List D)} {cap : Option Nat} {p lk : Bool} : AfterQ V dr os keep loc sl Q (ofO ⟨sl', H⟩ (iadM a n off len w (.i k x) (some (w, rows, cap, p, lk)))) ↔ (0 ≤ x ∧ x < len) ∧ AfterQ V dr os keep loc sl Q (.v (.ap a n (off + x.toNat) 0) ⟨sl', H⟩) := by
  simp only [iadM, ixOf]
  by_cases hx : 0 ≤ x ∧ x < len
  · simp [hx, ofO]
  · simp [hx, ofO, AfterQ]
@[go_sem] theorem q_row {agg : Bool} {i off n : Nat} : AfterQ V dr os keep loc sl Q (ldR ⟨sl', H⟩ agg (rowL off n (l.map enc)[i]?)) ↔ i < l.length ∧ AfterQ V dr os keep loc sl Q (ldR ⟨sl', H⟩ agg (cut (enc l[i]!) off n)) := by
  by_cases hi : i < l.length
  · simp [hi, rowL, getElem!_pos]
  · simp [hi, rowL, ldR, AfterQ]
@[go_sem] theorem q_put {a i off : Nat} {vs : List D} {cap : Option Nat} {p : Bool} : AfterQ V dr os keep loc sl Q (ofH ⟨sl', H⟩ (putM H' a w (l.map enc) i off vs cap p (l.map enc)[i]?)) ↔ i < l.length ∧ AfterQ V dr os keep loc sl Q (ofH ⟨sl', H⟩ (putN H' a w (l.map enc) i cap p (put (enc l[i]!) off vs))) := by
  by_cases hi : i < l.length
  · simp [hi, putM_s, getElem!_pos]
  · simp [hi, putM, ofH, AfterQ]
end
def fillRK (rs : List (List D)) (w i : Nat) (ps : List (Nat × D)) : Option (List D) → Option (List (List D))
  | some vs => if i < rs.length then fillR (rs.set i vs) w ps else none
  | none => none
@[go_sem] theorem fr_nil {rs : List (List D)} {w : Nat} : fillR rs w [] = some rs := rfl
@[go_sem] theorem fr_cons {rs : List (List D)} {w i : Nat} {v : D} {ps : List (Nat × D)} : fillR rs w ((i, v) :: ps) = fillRK rs w i ps (v.cellsN w) := by
  rw [fillR]; cases v.cellsN w <;> rfl
@[go_sem] theorem frK_s {rs : List (List D)} {w i : Nat} {ps : List (Nat × D)} {vs : List D} : fillRK rs w i ps (some vs) = if i < rs.length then fillR (rs.set i vs) w ps else none := rfl
def zz (zs : List D) : Nat → List (List D)
  | 0 => []
  | n + 1 => zs :: zz zs n
theorem zz_eq (zs : List D) : ∀ n, List.replicate n zs = zz zs n
  | 0 => rfl
  | n + 1 => by rw [List.replicate_succ, zz_eq zs n]; rfl
@[go_sem] theorem zz_zero {zs : List D} : zz zs 0 = [] := rfl
@[go_sem] theorem zz_succ {zs : List D} {n : Nat} : zz zs (n + 1) = zs :: zz zs n := rfl
@[go_sem] theorem bsv_zero {w : Nat} {zs : List D} {ps : List (Nat × D)} : bsvD w 0 zs ps = some .z := rfl
@[go_sem] theorem bsv_succ {w n : Nat} {zs : List D} {ps : List (Nat × D)} : bsvD w (n + 1) zs ps = (fillR (zz zs (n + 1)) w ps).map fun rows => .sv w rows := by rw [← zz_eq]; rfl
@[go_sem] theorem bsl_zero {H : Heap} {w : Nat} {zs : List D} {ps : List (Nat × D)} {p : Bool} : bslD H w 0 zs ps p = some (.z, H) := rfl
section
variable {V : VProg} {Q : Ex → St → Prop} {dr : Option (Bs × Bool)} {os : List VOper} {keep : Option Nat} {loc sl sl' : List D} {H H' : Heap}
@[go_sem] theorem q_mks {k k' : IntKind} {x c : Int} {w bytes : Nat} {zs : List D} {p : Bool} : AfterQ V dr os keep loc sl Q (ofP ⟨sl', H'⟩ (mksD H (.i k x) (.i k' c) w bytes zs p)) ↔ ((0 ≤ c ∧ c ≤ 140737488355328) ∧ (0 ≤ x ∧ x ≤ c) ∧ c.toNat * bytes ≤ 140737488355328) ∧ AfterQ V dr os keep loc sl Q (.v (.mu H.length c.toNat 0 x.toNat) ⟨sl', H ++ [.ar w (List.replicate c.toNat zs) (some c.toNat) p false]⟩) := by
  simp only [mksD, bdOf]
  by_cases hc : 0 ≤ c ∧ c ≤ 140737488355328
  · rw [if_pos (by omega)]
    simp only
    by_cases hx : 0 ≤ x ∧ x ≤ c
    · rw [if_pos (by omega)]
      simp only [room]
      by_cases hr : c.toNat * bytes ≤ 140737488355328
      · have : c.toNat ≤ 140737488355328 := by omega
        simp only [hr, this, and_self, decide_true, if_true, ofP, hc, hx, true_and]
      · simp [hr, ofP, AfterQ]
    · rw [if_neg (by omega)]
      simp [ofP, AfterQ, hx]
  · rw [if_neg (by omega)]
    simp [ofP, AfterQ, hc]
end
def bD (H0 : Heap) (x0 : D) (rows : List (List D)) : D :=
  match rows with
  | [] => x0
  | _ :: _ => .mu H0.length rows.length 0 rows.length
def bH (H0 : Heap) (w : Nat) (rows : List (List D)) : Heap :=
  match rows with
  | [] => H0
  | _ :: _ => H0 ++ [.ar w rows none true false]
def imD (x0 : D) (w : Nat) (rows : List (List D)) : D :=
  match rows with
  | [] => x0
  | _ :: _ => .im w rows
def x0ok (x0 : D) : Bool := match x0 with
  | .nil | .z => true
  | _ => false
@[go_sem] theorem x0ok_nil : x0ok .nil = true := rfl
@[go_sem] theorem x0ok_z : x0ok .z = true := rfl
theorem imD_sl {x0 : D} (h0 : x0ok x0 = true) (w : Nat) (rows : List (List D)) : Sl w rows (imD x0 w rows) := by
  cases rows with
  | nil => cases x0 <;> first | exact .nil rfl | exact .z rfl | cases h0
  | cons r rows => exact .im
theorem room_ok {n b : Nat} (h : n * b ≤ 140737488355328) (hb : n ≤ 140737488355328) : room n b = true := by
  simp only [room, decide_eq_true_eq]
  exact ⟨h, hb⟩
section
variable {H0 : Heap} {x0 : D} {w bytes : Nat} {rows : List (List D)} {r : List D}
theorem app_b (h0 : x0ok x0 = true) (hf : r.all D.flat = true) (hroom : room (rows.length + 1) bytes = true) :
    appD (bH H0 w rows) (bD H0 x0 rows) (.sv w [r]) w bytes true = some (bD H0 x0 (rows ++ [r]), bH H0 w (rows ++ [r])) := by
  have hfr : ∀ H, freezeRows H [r] = some ([r], H) := fun H => flat_freezeRows H (fun q hq => by rw [List.mem_singleton.1 hq]; simpa using hf)
  cases rows with
  | nil =>
    have e : appTo H0 x0 [r] w bytes true = appEmp H0 x0 [r] w bytes true := by cases x0 <;> first | rfl | cases h0
    simp only [List.length_nil, Nat.zero_add] at hroom
    simp [bH, bD, appD, rowsOf, hfr, e, appEmp, hroom]
  | cons u us =>
    have hl : arr (bH H0 w (u :: us)) H0.length (u :: us).length = some (w, u :: us, none, true, false) := by simp [Dm.arr, bH]
    have e0 : (bH H0 w (u :: us)) = H0 ++ [.ar w (u :: us) none true false] := rfl
    simp only [appD, bD, rowsOf, if_true, hfr, appTo, appMu, hl, Nat.zero_add, Nat.le_refl, and_self, List.length_singleton, hroom, appIn]
    simp [bH, List.take_of_length_le, List.drop_eq_nil_of_le]
theorem app_t {α : Type} {enc : α → List D} {l : List α} (h0 : x0ok x0 = true) (hf : r.all D.flat = true) (hl : (l.length + 1) * bytes ≤ 140737488355328) (hb : l.length < 140737488355328) :
    appD (bH H0 w (l.map enc)) (bD H0 x0 (l.map enc)) (.sv w [r]) w bytes true = some (bD H0 x0 (l.map enc ++ [r]), bH H0 w (l.map enc ++ [r])) :=
  app_b h0 hf (room_ok (by rw [List.length_map]; exact hl) (by rw [List.length_map]; omega))
def appX := appD
theorem app_all {α : Type} {enc : α → List D} {l : List α} {y x0 : D} (h0 : x0ok x0 = true) (hy : Sl w (l.map enc) y) (hf : ∀ a, (enc a).all D.flat = true) (hl : l.length * bytes ≤ 140737488355328) (hb : l.length ≤ 140737488355328) {H : Heap} : appD H x0 y w bytes true = some (bD H x0 (l.map enc), bH H w (l.map enc)) := by
  have hfr : freezeRows H (l.map enc) = some (l.map enc, H) := flat_freezeRows H (fun q hq => by
    obtain ⟨a, _, rfl⟩ := List.mem_map.1 hq
    simpa using hf a)
  have e : ∀ new, appTo H x0 new w bytes true = appEmp H x0 new w bytes true := fun new => by cases x0 <;> first | rfl | cases h0
  simp only [appD, hy.cont, hfr, e]
  cases l with
  | nil => rfl
  | cons a l =>
    have hroom : room ((a :: l).map enc).length bytes = true := room_ok (by rw [List.length_map]; exact hl) (by rw [List.length_map]; exact hb)
    simp only [List.map_cons] at hroom ⊢
    simp only [appEmp, hroom, if_true, bD, bH]
theorem app_n {α : Type} {enc : α → List D} {l : List α} (hl : (l.length + 1) * bytes ≤ 140737488355328) (hb : l.length < 140737488355328) :
    appD (bH H0 w (l.map enc)) (bD H0 .nil (l.map enc)) (.sv w [r]) w bytes true = if r.all D.flat then some (bD H0 .nil (l.map enc ++ [r]), bH H0 w (l.map enc ++ [r])) else appX (bH H0 w (l.map enc)) (bD H0 .nil (l.map enc)) (.sv w [r]) w bytes true := by
  split
  · rename_i hf; exact app_t rfl hf hl hb
  · rfl
theorem bD_len (h0 : x0ok x0 = true) {H : Heap} : lenD H 1 (bD H0 x0 rows) = some (.i .i64 rows.length) := by
  cases rows with
  | nil => cases x0 <;> first | rfl | cases h0
  | cons r rows => rfl
theorem bD_c1 (h0 : x0ok x0 = true) : (bD H0 x0 rows).cellsN 1 = some [bD H0 x0 rows] := by
  cases rows with
  | nil => cases x0 <;> first | rfl | cases h0
  | cons r rows => rfl
theorem bD_under (h0 : x0ok x0 = true) : (bD H0 x0 rows).under ((bH H0 w rows).length, []) = true := by
  cases rows with
  | nil => cases x0 <;> first | rfl | cases h0
  | cons r rows => simp [bD, bH, D.under, Bs.un]
theorem bD_fz (h0 : x0ok x0 = true) (m : Nat) : ∃ H', freeze (m + 1) (bH H0 w rows) (bD H0 x0 rows) = some (imD x0 w rows, H') ∧ H'.length = (bH H0 w rows).length ∧ ∀ b, b < H0.length → H'[b]? = H0[b]? := by
  cases rows with
  | nil => cases x0 <;> first | exact ⟨H0, rfl, rfl, fun _ _ => rfl⟩ | cases h0
  | cons r rows =>
    refine ⟨H0 ++ [.ar w (r :: rows) none true true], ?_, by simp [bH], fun b hb => by rw [List.getElem?_append_left hb]⟩
    simp [fz_mu, bD, bH, arr, fzM, imD, List.take_of_length_le]
theorem bD_frz (h0 : x0ok x0 = true) : frzR (bH H0 w rows) (bD H0 x0 rows) = some (imD x0 w rows) := by
  obtain ⟨H', e, _⟩ := bD_fz (H0 := H0) (w := w) (rows := rows) h0 11
  have : frzR (bH H0 w rows) (bD H0 x0 rows) = frz1 (bH H0 w rows) (bD H0 x0 rows) := by
    cases rows with
    | nil => cases x0 <;> first | rfl | cases h0
    | cons r rows => rfl
  rw [this, frz1_eq, e]; rfl
theorem bD_iad {i : Nat} (hi : i < rows.length) {k : IntKind} : iadD (bH H0 w rows) (bD H0 x0 rows) (.i k i) w = some (.ap H0.length rows.length i 0) := by
  cases rows with
  | nil => simp at hi
  | cons r rows =>
    have hx : (0 : Int) ≤ i ∧ (i : Int) < (r :: rows).length := by omega
    have ha : arr (bH H0 w (r :: rows)) H0.length (r :: rows).length = some (w, r :: rows, none, true, false) := by simp [arr, bH]
    simp only [bD, iadD, ha, ixOf, hx, and_self, if_true, Int.toNat_natCast, Nat.zero_add]
theorem bD_arr (hr : rows ≠ []) : arr (bH H0 w rows) H0.length rows.length = some (w, rows, none, true, false) := by
  cases rows with
  | nil => exact absurd rfl hr
  | cons r rows => simp [bH, arr]
theorem bH_set (hr : rows ≠ []) {i : Nat} : (bH H0 w rows).set H0.length (.ar w (rows.set i r) none true false) = bH H0 w (rows.set i r) := by
  cases rows with
  | nil => exact absurd rfl hr
  | cons q rows => cases i <;> simp [bH]
end
def bP (H0 : Heap) (n i off : Nat) : D := .ap H0.length n i off
def bPut (H0 : Heap) (w : Nat) (rows : List (List D)) (i : Nat) : Option (List D) → Option Heap
  | some r => some (bH H0 w (rows.set i r))
  | none => none
theorem bD_cong {H0 : Heap} {x0 : D} {rows rows' : List (List D)} (h : rows.length = rows'.length) : bD H0 x0 rows = bD H0 x0 rows' := by
  cases rows with
  | nil => cases rows' with
    | nil => rfl
    | cons => simp at h
  | cons => cases rows' with
    | nil => simp at h
    | cons => simp only [bD, h]
section
variable {V : VProg} {Q : Ex → St → Prop} {dr : Option (Bs × Bool)} {os : List VOper} {keep : Option Nat} {loc sl sl' : List D} {H0 H H' : Heap} {w n i o off : Nat} {α : Type} {enc : α → List D} {l : List α} {k : IntKind} {x : Int} {rows : List (List D)}
@[go_sem] theorem bD_ln : lenD H 1 (bD H0 .nil (l.map enc)) = some (.i .i64 l.length) := by rw [bD_len rfl, List.length_map]
@[go_sem] theorem bD_cl : (bD H0 .nil rows).cellsN 1 = some [bD H0 .nil rows] := bD_c1 rfl
@[go_sem] theorem bD_un : (bD H0 .nil rows).under ((bH H0 w rows).length, []) = true := bD_under rfl
@[go_sem] theorem bP_fad : fadD (bP H0 n i o) off = some (bP H0 n i (o + off)) := rfl
@[go_sem] theorem bP_un : (bP H0 n i o).under ((bH H0 w (l.map enc)).length, []) = decide (0 < l.length) := by
  cases l <;> simp [bP, bH, D.under, Bs.un]
@[go_sem] theorem bH_g0 {b : Blk} : (bH (b :: H0) w rows)[0]? = some b := by cases rows <;> rfl
@[go_sem] theorem bH_g1 {a b : Blk} : (bH (a :: b :: H0) w rows)[1]? = some b := by cases rows <;> rfl
@[go_sem] theorem q_bD : AfterQ V dr os keep loc sl Q (ofO ⟨sl', H'⟩ (iadD (bH H0 w (l.map enc)) (bD H0 .nil (l.map enc)) (.i k x) w)) ↔ (0 ≤ x ∧ x < l.length) ∧ AfterQ V dr os keep loc sl Q (.v (bP H0 l.length x.toNat 0) ⟨sl', H'⟩) := by
  by_cases hx : 0 ≤ x ∧ x < l.length
  · obtain ⟨i, rfl⟩ := Int.eq_ofNat_of_zero_le hx.1
    have hi : i < (l.map enc).length := by rw [List.length_map]; omega
    rw [bD_iad hi]
    simp only [hx, and_self, true_and, ofO, Int.toNat_natCast, List.length_map]
    rfl
  · have : iadD (bH H0 w (l.map enc)) (bD H0 .nil (l.map enc)) (.i k x) w = none := by
      cases l with
      | nil => rfl
      | cons a l =>
        have hl : arr (bH H0 w ((a :: l).map enc)) H0.length ((a :: l).map enc).length = some (w, (a :: l).map enc, none, true, false) := bD_arr (by simp)
        have hx' : ¬ (0 ≤ x ∧ x < (((a :: l).map enc).length : Int)) := by rw [List.length_map]; exact hx
        have e : bD H0 .nil ((a :: l).map enc) = .mu H0.length ((a :: l).map enc).length 0 ((a :: l).map enc).length := rfl
        rw [e]
        simp only [iadD, hl, ixOf, hx', if_false]
    rw [this]
    simp only [ofO, AfterQ, hx, false_and]
@[go_sem] theorem q_bld [Inhabited α] {agg : Bool} : AfterQ V dr os keep loc sl Q (ldR ⟨sl', H'⟩ agg (ldAt (bH H0 w (l.map enc)) (bP H0 l.length i off) n)) ↔ i < l.length ∧ AfterQ V dr os keep loc sl Q (ldR ⟨sl', H'⟩ agg (cut (enc l[i]!) off n)) := by
  cases l with
  | nil =>
    have : ldAt (bH H0 w (([] : List α).map enc)) (bP H0 0 i off) n = none := by
      have e : (bH H0 w (([] : List α).map enc))[H0.length]? = none := by simp [bH]
      simp only [bP, ldAt, arr, e]
    simp only [List.length_nil] at this ⊢
    rw [this]
    simp [ldR, AfterQ]
  | cons a l =>
    have hl : arr (bH H0 w ((a :: l).map enc)) H0.length (a :: l).length = some (w, (a :: l).map enc, none, true, false) := by
      have := bD_arr (H0 := H0) (w := w) (rows := (a :: l).map enc) (by simp)
      rwa [List.length_map] at this
    unfold bP
    rw [ld_ap, hl, ldM_s, q_row]
@[go_sem] theorem q_bst [Inhabited α] {vs : List D} : AfterQ V dr os keep loc sl Q (ofH ⟨sl', H'⟩ (stAt (bH H0 w (l.map enc)) (bP H0 l.length i off) vs)) ↔
    if vs.all D.flat then i < l.length ∧ AfterQ V dr os keep loc sl Q (ofH ⟨sl', H'⟩ (bPut H0 w (l.map enc) i (put (enc l[i]!) off vs))) else AfterQ V dr os keep loc sl Q (ofH ⟨sl', H'⟩ (stX (bH H0 w (l.map enc)) (bP H0 l.length i off) vs)) := by
  split
  · rename_i hv
    cases l with
    | nil =>
      have : stAt (bH H0 w (([] : List α).map enc)) (bP H0 0 i off) vs = none := by
        have e : (bH H0 w (([] : List α).map enc))[H0.length]? = none := by simp [bH]
        simp only [bP, stAt, arr, e]
      simp only [List.length_nil] at this ⊢
      rw [this]
      simp [ofH, AfterQ]
    | cons a l =>
      have hl : arr (bH H0 w ((a :: l).map enc)) H0.length (a :: l).length = some (w, (a :: l).map enc, none, true, false) := by
        have := bD_arr (H0 := H0) (w := w) (rows := (a :: l).map enc) (by simp)
        rwa [List.length_map] at this
      unfold bP
      rw [set_arr hv hl, q_put]
      refine and_congr_right fun _ => ?_
      cases put (enc (a :: l)[i]!) off vs with
      | none => exact Iff.rfl
      | some r =>
        simp only [putN, bPut]
        rw [bH_set (by simp)]
  · exact Iff.rfl
@[go_sem] theorem bPut_s {r : List D} : bPut H0 w rows i (some r) = some (bH H0 w (rows.set i r)) := rfl
@[go_sem] theorem bD_fr : frzR (bH H0 w rows) (bD H0 .nil rows) = some (imD .nil w rows) := bD_frz rfl
def bL (H0 : Heap) (w : Nat) (rows : List (List D)) : Heap :=
  match rows with
  | [] => H0
  | _ :: _ => H0 ++ [.ar w rows none true true]
@[go_sem] theorem bD_fe {m : Nat} : freeze (m + 1) (bH H0 w rows) (bD H0 .nil rows) = some (imD .nil w rows, bL H0 w rows) := by
  cases rows with
  | nil => rfl
  | cons r rows => simp [fz_mu, bD, bH, arr, fzM, imD, bL, List.take_of_length_le]
end
section
variable {V : VProg} {H : Heap} {f : FuncId} {vf : VFunc} {K : CR → Prop}
def AnyK (K : CR → Prop) : PR → Prop
  | .ret d => ∀ H, K (.ret d H)
  | .pan d => ∀ H, K (.pan d H)
  | .bad => False
theorem CallQ.pl (hf : V.fn f = some vf) (hp : vf.pure = true) (ho : vf.own = false) {ds : List D} (ha : ds.all D.plain = true) (h : PurQ V f ds (fun r => match r with | .ret d => K (.ret d H) | .pan d => K (.pan d H) | .bad => False)) : CallQ V f ds H K := by
  refine CallQ.pure0 hf hp (plain_freezeL (by simpa using ha)) (h.mono fun r hr => ?_)
  cases r with
  | ret d => simp only [PlaceB, ho, backH_same]; exact hr
  | pan d => exact hr
  | bad => exact hr
end
section
variable {α : Type} [Inhabited α] {p : α → Bool} {l : List α} {i : Nat}
structure noneTo (p : α → Bool) (l : List α) (i : Nat) : Prop where
  h : ∀ k, k < i → p l[k]! = false
theorem nt_zero : noneTo p l 0 := ⟨fun k hk => by omega⟩
theorem nt_succ : noneTo p l (i + 1) ↔ noneTo p l i ∧ p l[i]! = false := by
  refine ⟨fun h => ⟨⟨fun k hk => h.h k (by omega)⟩, h.h i (by omega)⟩, fun h => ⟨fun k hk => ?_⟩⟩
  by_cases e : k = i
  · subst e; exact h.2
  · exact h.1.h k (by omega)
theorem nt_hit (hi : i < l.length) (h : p l[i]! = true) : l.any p = true := by
  rw [List.any_eq_true]
  exact ⟨l[i], List.getElem_mem hi, by rwa [getElem!_pos l i hi] at h⟩
theorem nt_end (h : noneTo p l l.length) : l.any p = false := by
  rw [List.any_eq_false]
  intro x hx
  obtain ⟨k, hk, rfl⟩ := List.mem_iff_getElem.1 hx
  have := h.h k hk
  rw [getElem!_pos l k hk] at this
  simp [this]
end
section
variable {α β : Type} [Inhabited α]
def tf (p : α → Bool) (g : α → β) (l : List α) (i : Nat) : List β := ((l.take i).filter p).map g
end
def idxL (w : Nat) (agg : Bool) : VCode :=
  (.seq (.reg [⟨.bin .lss (.s 5) (.s 6), some 3, none⟩] none)
  (.seq (.cond (.s 3) .skip
  (.exit 0))
  (.seq (.block 1 (.seq (.reg [⟨.mov (.s 5), none, none⟩,
     ⟨.mov (.l 0), some 7, none⟩] none)
   (.seq (.reg [⟨.mov (.s 1), none, none⟩,
     ⟨.mov (.s 0), none, none⟩,
     ⟨.mov (.s 7), none, none⟩,
     ⟨.iad (.l 1) (.l 2) w, none, none⟩,
     ⟨.ld (.l 3) w agg, none, none⟩,
     ⟨.calv (.l 0) [(.l 4)], some 4, none⟩] none)
   (.cond (.s 4) (.seq (.reg [⟨.mov (.s 7), none, none⟩,
      ⟨.mov (.l 0), some 2, none⟩] none)
    .ret)
   .skip))))
  (.reg [⟨.bin .add (.s 5) (.c (.i .i64 1)), none, none⟩,
    ⟨.mov (.l 0), some 5, none⟩] none))))
def idxF (w : Nat) (agg : Bool) : VFunc :=
  ⟨2, 8, [.s 2],
  (.seq (.reg [⟨.mov (.c (.i .i64 0)), some 2, none⟩] none)
  (.seq (.seq (.reg [⟨.mov (.s 0), none, none⟩,
    ⟨.len 1 (.l 0), some 6, none⟩,
    ⟨.mov (.c (.i .i64 0)), some 5, none⟩] none)
  (.block 0 (.loop (idxL w agg))))
  (.seq (.reg [⟨.mov (.c (.i .i64 (-1))), some 2, none⟩] none)
  .ret))), false, false, none, false⟩
def cfF (g : FuncId) : VFunc :=
  ⟨2, 3, [.s 2],
  (.seq (.reg [⟨.mov (.c (.b false)), some 2, none⟩] none)
  (.seq (.reg [⟨.mov (.s 0), none, none⟩,
    ⟨.mov (.s 1), none, none⟩,
    ⟨.call g [(.l 0), (.l 1)], none, none⟩,
    ⟨.bin .geq (.l 2) (.c (.i .i64 0)), none, none⟩,
    ⟨.mov (.l 3), some 2, none⟩] none)
  .ret)), false, false, none, false⟩
section
variable {α : Type} [Inhabited α] {V : VProg} {f h g : FuncId} {w : Nat} {agg : Bool} {enc : α → List D} {key : α → D} {l : List α} {x : D} {H : Heap} {cp : List D} {p : α → Bool}
theorem idx_q (hf : V.fn f = some (idxF w agg)) (hx : Sl w (l.map enc) x) (hl : l.length < 1099511627776) (hw : ∀ a, (enc a).length = w) (hv : ∀ a, val agg (enc a) = some (key a))
    (hg : ∀ a K, CallQ V g (key a :: cp) H K ↔ K (.ret (.b (p a)) H)) (he : V.ext f [x, .fn (.func g) [] cp] H = none := by first | rfl | assumption) :
    CallQ V f [x, .fn (.func g) [] cp] H (fun r => ∃ i : Int, r = .ret (.i .i64 i) H ∧ decide (0 ≤ i) = l.any p) := by
  refine .body hf rfl rfl ?_ he
  simp only [go_sem, Nat.reduceSub, Int.reduceNeg, idxF, hx.n]
  refine Run.up (fun i s => noneTo p l i ∧ ∃ a3 a4 a7, s = ⟨[x, .fn (.func g) [] cp, .i .i64 0, a3, a4, .i .i64 i, .i .i64 l.length, a7], H⟩) l.length ⟨nt_zero, .u, .u, .u, rfl⟩ ?_
  rintro i s hi ⟨hv', a3, a4, a7, rfl⟩
  have ht : ∀ a, (enc a).take w = enc a := fun a => List.take_of_length_le (by rw [hw]; omega)
  simp (disch := omega) only [go_sem, Int.reduceLE, Int.reduceNeg, idxL, hx.q, hw, ht, hv, hg, wr, nt_succ, hv']
  have e1 := @nt_end _ _ p l
  have e2 : i < l.length → p l[i]! = true → l.any p = true := nt_hit
  repeat' first | (refine And.intro ?_ ?_) | intro _
  all_goals first | omega | grind
theorem cf_q (hf : V.fn f = some (cfF h)) (hh : V.fn h = some (idxF w agg)) (hx : Sl w (l.map enc) x) (hl : l.length < 1099511627776) (hw : ∀ a, (enc a).length = w) (hv : ∀ a, val agg (enc a) = some (key a))
    (hg : ∀ a K, CallQ V g (key a :: cp) H K ↔ K (.ret (.b (p a)) H)) (he : V.ext f [x, .fn (.func g) [] cp] H = none := by first | rfl | assumption) (he' : V.ext h [x, .fn (.func g) [] cp] H = none := by first | rfl | assumption) {K : CR → Prop} :
    CallQ V f [x, .fn (.func g) [] cp] H K ↔ K (.ret (.b (l.any p)) H) := by
  refine CallQ_ret (Ret.iff_q.2 (.body hf rfl rfl ?_ he))
  simp only [go_sem, Nat.reduceSub, cfF]
  refine (idx_q hh hx hl hw hv hg he').mono ?_
  rintro r ⟨i, rfl, hi⟩
  simp only [go_sem, hi]
end
section
variable {κ β : Type} [DecidableEq κ] {kk : KK} {ek : κ → D} {ev : β → D}
end
section
variable {H0 : Heap} {w : Nat} {rows : List (List D)} {b b' : Blk}
@[go_sem] theorem bH_s0 : (bH (b :: H0) w rows).set 0 b' = bH (b' :: H0) w rows := by cases rows <;> rfl
end
section
variable {α : Type} [DecidableEq α]
end
section
variable {H : Heap} {k : IntKind} {x y : Int}
@[go_sem] theorem bin_quo : bin .quo (.i k x) (.i k y) = if y = 0 then none else some (.i k (k.wrap (x.tdiv y))) := by simp [bin, binI]
@[go_sem] theorem bin_rem : bin .rem (.i k x) (.i k y) = if y = 0 then none else some (.i k (x.tmod y)) := by simp [bin, binI]
def catS (a b : List UInt8) : Option D := if a.length + b.length ≤ maxCat then some (.s (a ++ b)) else none
@[go_sem] theorem bins_add {a b : List UInt8} : bin .add (.s a) (.s b) = catS a b := rfl
def hpS (H : Heap) (b off : Nat) (vs : List D) : Option Blk → Option Heap
  | some (.hb t cs) => match put cs off vs with
    | some cs' => some (H.set b (.hb t cs'))
    | none => none
  | _ => none
def hpT (H : Heap) (b t : Nat) : Option (List D) → Option Heap
  | some cs' => some (H.set b (.hb t cs'))
  | none => none
@[go_sem] theorem st_hp {b off : Nat} {vs : List D} : stAt H (.hp b off) vs = hpS H b off vs H[b]? := by
  simp only [stAt, hpS]
  cases H[b]? with
  | none => rfl
  | some q => cases q <;> rfl
@[go_sem] theorem hpS_s {b off t : Nat} {vs cs : List D} : hpS H b off vs (some (.hb t cs)) = hpT H b t (put cs off vs) := by
  simp only [hpS]
  cases put cs off vs <;> rfl
@[go_sem] theorem hpT_s {b t : Nat} {cs : List D} : hpT H b t (some cs) = some (H.set b (.hb t cs)) := rfl
@[go_sem] theorem tas_ifc {t t' : TypeId} {v : D} {zero : D} {ok : Bool} : tasD (.ifc t' v) t ok zero = match decide (t' = t), ok with
    | true, true => some (.tu [v, .b true])
    | true, false => some v
    | false, true => some (.tu [zero, .b false])
    | false, false => none := rfl
@[go_sem] theorem eqv_ifc {neg : Bool} {t : TypeId} {v : D} : eqvD neg .ifc (.ifc t v) .ni = some (.b (false != neg)) := rfl
@[go_sem] theorem eqv_ni {neg : Bool} : eqvD neg .ifc .ni .ni = some (.b (true != neg)) := rfl
def fzS (w : Nat) : Option (List (List D) × Heap) → Option (D × Heap)
  | some (rows, H) => some (.im w rows, H)
  | none => none
@[go_sem] theorem fz_sv {m w : Nat} {rows : List (List D)} : freeze (m + 1) H (.sv w rows) = fzS w (freezeLL m H rows) := by
  rw [freeze_succ]; simp only; cases freezeLL m H rows <;> rfl
@[go_sem] theorem fzS_s {w : Nat} {rows : List (List D)} : fzS w (some (rows, H)) = some (.im w rows, H) := rfl
def fzRA (m : Nat) (rs : List (List D)) : Option (List D × Heap) → Option (List (List D) × Heap)
  | some (r', H') => match freezeLL (m + 1) H' rs with
      | some (rs', H'') => some (r' :: rs', H'')
      | none => none
  | none => none
def fzRB (r' : List D) : Option (List (List D) × Heap) → Option (List (List D) × Heap)
  | some (rs', H'') => some (r' :: rs', H'')
  | none => none
@[go_sem] theorem fzl_nil {m : Nat} : freezeLL m H [] = some ([], H) := freezeLL_nil _ _
@[go_sem] theorem fzl_cons {m : Nat} {r : List D} {rs : List (List D)} : freezeLL (m + 1) H (r :: rs) = fzRA m rs (freezeL m H r) := by
  rw [freezeLL_cons]
  cases freezeL m H r with
  | none => rfl
  | some q => rfl
@[go_sem] theorem fzRA_s {m : Nat} {r' : List D} {rs : List (List D)} : fzRA m rs (some (r', H)) = fzRB r' (freezeLL (m + 1) H rs) := by
  simp only [fzRA]
  cases freezeLL (m + 1) H rs <;> rfl
@[go_sem] theorem fzRB_s {r' : List D} {rs : List (List D)} : fzRB r' (some (rs, H)) = some (r' :: rs, H) := rfl
@[go_sem] theorem cells_ifc {t : TypeId} {v : D} : (D.ifc t v).cellsN 1 = some [.ifc t v] := rfl
@[go_sem] theorem cells_ni : D.ni.cellsN 1 = some [.ni] := rfl
end
section
variable {V : VProg} {Q : Ex → St → Prop} {dr : Option (Bs × Bool)} {os : List VOper} {keep : Option Nat} {loc sl sl' : List D} {H H' : Heap} {l : List UInt8} {k k' : IntKind} {x y : Int}
@[go_sem] theorem q_ixs : AfterQ V dr os keep loc sl Q (ofO ⟨sl', H⟩ (ixsD (.s l) (.i k x))) ↔ (0 ≤ x ∧ x < l.length) ∧ AfterQ V dr os keep loc sl Q (.v (.i .u8 l[x.toNat]!.toNat) ⟨sl', H⟩) := by
  simp only [ixsD, ixOf]
  by_cases hx : 0 ≤ x ∧ x < l.length
  · have hlt : x.toNat < l.length := by omega
    simp [hx, ofO]
  · simp [hx, ofO, AfterQ]
@[go_sem] theorem q_cat {a b : List UInt8} : AfterQ V dr os keep loc sl Q (ofO ⟨sl', H⟩ (catS a b)) ↔ a.length + b.length ≤ 4611686018427387904 ∧ AfterQ V dr os keep loc sl Q (.v (.s (a ++ b)) ⟨sl', H⟩) := by
  have e : maxCat = 4611686018427387904 := rfl
  simp only [catS, e]
  by_cases h : a.length + b.length ≤ 4611686018427387904 <;> simp [h, ofO, AfterQ]
@[go_sem] theorem q_sl1 : AfterQ V dr os keep loc sl Q (ofO ⟨sl', H⟩ (sliceS (.s l) (some (.i k x)) none none)) ↔ (0 ≤ x ∧ x ≤ l.length) ∧ AfterQ V dr os keep loc sl Q (.v (.s (l.drop x.toNat)) ⟨sl', H⟩) := by
  simp only [sliceS, bounds, bound, bdOf]
  by_cases hx : 0 ≤ x ∧ x ≤ l.length
  · have : (l.drop x.toNat).take (l.length - x.toNat) = l.drop x.toNat := List.take_of_length_le (by simp)
    simp [hx, ofO, this]
  · simp [hx, ofO, AfterQ]
@[go_sem] theorem q_sl2 : AfterQ V dr os keep loc sl Q (ofO ⟨sl', H⟩ (sliceS (.s l) none (some (.i k x)) none)) ↔ (0 ≤ x ∧ x ≤ l.length) ∧ AfterQ V dr os keep loc sl Q (.v (.s (l.take x.toNat)) ⟨sl', H⟩) := by
  simp only [sliceS, bounds, bound, bdOf]
  by_cases hx : 0 ≤ x ∧ x ≤ l.length
  · simp [hx, ofO]
  · simp [hx, ofO, AfterQ]
@[go_sem] theorem q_sl3 : AfterQ V dr os keep loc sl Q (ofO ⟨sl', H⟩ (sliceS (.s l) (some (.i k x)) (some (.i k' y)) none)) ↔ (0 ≤ x ∧ x ≤ y ∧ y ≤ l.length) ∧ AfterQ V dr os keep loc sl Q (.v (.s ((l.take y.toNat).drop x.toNat)) ⟨sl', H⟩) := by
  simp only [sliceS, bounds, bound, bdOf]
  by_cases hy : 0 ≤ y ∧ y ≤ l.length
  · by_cases hx : 0 ≤ x ∧ x ≤ y
    · have h1 : 0 ≤ x ∧ x ≤ (y.toNat : Int) := by omega
      have h2 : 0 ≤ x ∧ x ≤ y ∧ y ≤ l.length := by omega
      have e : (l.take y.toNat).drop x.toNat = (l.drop x.toNat).take (y.toNat - x.toNat) := by rw [List.drop_take]
      simp only [if_pos hy, if_pos h1, e]
      exact ⟨fun h => ⟨h2, h⟩, fun h => h.2⟩
    · have h2 : ¬ (0 ≤ x ∧ x ≤ y ∧ y ≤ l.length) := by omega
      have h1 : ¬ (0 ≤ x ∧ x ≤ (y.toNat : Int)) := by omega
      simp only [if_pos hy, if_neg h1]
      exact ⟨fun h => h.elim, fun h => (h2 h.1).elim⟩
  · have h2 : ¬ (0 ≤ x ∧ x ≤ y ∧ y ≤ l.length) := by omega
    simp only [if_neg hy]
    exact ⟨fun h => h.elim, fun h => (h2 h.1).elim⟩
@[go_sem] theorem q_step_pan {x : O} : OpQ V dr os keep loc ⟨sl, H⟩ Q (.pan x) ↔ AfterQ V dr os keep loc sl Q (panD (x.ev loc sl) H) := by
  rw [OpQ_nc rfl]; exact Iff.rfl
@[go_sem] theorem q_pan {t : TypeId} {d : D} : AfterQ V dr os keep loc sl Q (panD (.ifc t d) H) ↔ AfterQ V dr os keep loc sl Q (.p (.ifc t d) H) := Iff.rfl
end
attribute [go_sem] not_true_eq_false not_false_eq_true
open Go.Proofs Go.Shelf Go.RowKit Go.Lib
variable {P : Program} {ρ : Ren}
theorem append_string (w : World) (t u ty e : TypeId) (i : TypeInfo) (ht : P.underlying t = some (.slice e)) (hu : P.underlying u = some .string) (hi : P.info? e = some i) (hz : i.zero = some (.int .u8 0))
    (hsize : i.size = 1) (hby : i.bytes = 1) (v : Value) (n : Nat) (xs : List Value) (hown : w.ownsRow 0 e 1 v n xs) (s : ByteArray) (h63 : n + s.size ≤ maxLen) (hbytes : n + s.size ≤ 140737488355328) :
    ∃ v' w', (Builtin.append_ #[t, u] ty #[v, .string s]).run P w = .ok v' w' ∧ w'.ownsRow 0 e 1 v' (n + s.size) (xs ++ strCells s) ∧ w.grownBy w' v.ownBlock ∧
      (v' = .slice none 0 0 ↔ v = .slice none 0 0 ∧ s.size = 0) ∧ (∀ k, v'.ownBlock = some k → v.ownBlock = some k ∨ w.heap.size ≤ k) ∧ (s.size = 0 → v' = v) := by
  obtain ⟨v', w', hr, h1, h2, h3⟩ := run_append_own_string (P := P) w 0 t u ty e i ht hu hi hz hsize hby v n xs hown s h63 hbytes (Nat.zero_le _)
  refine ⟨v', w', hr, h1, h2, h3, ?_⟩
  have hxl : xs.length = n := by simpa using hown.1
  rcases hown.2 with ⟨rfl, rfl⟩ | ⟨g, cap, cur, rfl, hbg, hg, hnc, hcm, hcs, htake⟩
  · by_cases hm : s.size = 0
    · have := h3.2 ⟨rfl, hm⟩
      subst this
      exact ⟨fun k hk => (by cases hk), fun _ => rfl⟩
    · have hr' := run_append_nil_string (P := P) w t u ty e i (.int .u8 0) ht hu hi hz s (by omega) (by simp only [maxLen] at h63; omega) (by rw [hby]; omega)
      rw [hr'] at hr
      simp only [Result.ok.injEq] at hr
      refine ⟨fun k hk => ?_, fun h => (by omega)⟩
      rw [← hr.1] at hk
      simp only [Value.ownBlock, Option.some.injEq] at hk
      exact .inr (by omega)
  · by_cases hroom : n + s.size ≤ cap
    · have hcs' : cur.size = cap := by simpa using hcs
      have hr' := run_append_room_string (P := P) w t u ty e i ht hu hi hsize g n cap cur hg s hroom (by omega)
      rw [hr'] at hr
      simp only [Result.ok.injEq] at hr
      refine ⟨fun k hk => ?_, fun h => ?_⟩
      · rw [← hr.1] at hk
        exact .inl hk
      · rw [← hr.1, h, Nat.add_zero]
    · have holds : ∀ j u, xs[j]? = some u → w.cell? ((⟨g, 0, none⟩ : Addr).add j) = some u := hown.cells (g := g) rfl
      have hr' := run_append_grow_string (P := P) w t u ty e i (.int .u8 0) ht hu hi hz ⟨g, 0, none⟩ n cap xs (by rw [hsize]; simpa using hxl) holds s (by omega) (by simp only [maxLen] at h63; omega) (by rw [hby]; exact growslice_fits (by omega) (by omega))
      rw [hr'] at hr
      simp only [Result.ok.injEq] at hr
      refine ⟨fun k hk => ?_, fun h => (by omega)⟩
      rw [← hr.1] at hk
      simp only [Value.ownBlock, Option.some.injEq] at hk
      exact .inr (by omega)
theorem wpList_append_string {w : World} {ops : Array Oper} {rest : List Oper} {o : Oper} {a : Act} {Q : Exit → Act → World → Prop} (hgd : o.guard = none) (sl x : Operand) (t u : TypeId)
    (ho : o.op = .call { callee := .builtin .append, args := #[sl, x], argTypes := #[t, u] })
    (e : TypeId) (i : TypeInfo) (ht : P.underlying t = some (.slice e)) (hu : P.underlying u = some .string) (hi : P.info? e = some i) (hz : i.zero = some (.int .u8 0))
    (hsize : i.size = 1) (hby : i.bytes = 1)
    (v : Value) (n : Nat) (xs : List Value) (hs : a.eval sl = v) (hown : w.ownsRow 0 e 1 v n xs) (s : ByteArray) (hx : a.eval x = .string s)
    (h63 : n + s.size ≤ maxLen) (hbytes : n + s.size ≤ 140737488355328)
    (h : ∀ v' w', w'.ownsRow 0 e 1 v' (n + s.size) (xs ++ strCells s) → w.grownBy w' v.ownBlock → (v' = .slice none 0 0 ↔ v = .slice none 0 0 ∧ s.size = 0) → (∀ k, v'.ownBlock = some k → v.ownBlock = some k ∨ w.heap.size ≤ k) → (s.size = 0 → v' = v) → wpList P ops Q rest (a.put o.dst v') w') : wpList P ops Q (o :: rest) a w := by
  refine wpList_plain hgd fun K hK => ?_
  obtain ⟨v', w', hr, h2, h3, h4, h5, h6⟩ := append_string (P := P) w t u o.type e i ht hu hi hz hsize hby v n xs hown s h63 hbytes
  unfold Oper.wp execOp
  simp only [ho, resolve, invoke, builtin, Sem.run_bind, Sem.run_pure, Result.andThen_ok, List.map_toArray, List.map_cons, List.map_nil, hs, hx, hr]
  exact hK _ _ (h v' w' h2 h3 h4 h5 h6)
structure Wrote (tb te : TypeId) (b : Nat) (v : Value) (n : Nat) (xs : List Value) (w w' : World) (v' : Value) : Prop where
  bk : w'.heap[b]? = some (.cells #[.pointer (some ⟨b, 0, none⟩), v'] tb (0, 0))
  own : w'.ownsRow 0 te 1 v' n xs
  os : w'.os = w.os
  tape : w'.tape = w.tape
  output : w'.output = w.output
  size : w.heap.size ≤ w'.heap.size
  keep : ∀ k, k < w.heap.size → k ≠ b → some k ≠ v.ownBlock → w'.heap[k]? = w.heap[k]?
  at_ : ∀ k, v'.ownBlock = some k → v.ownBlock = some k ∨ w.heap.size ≤ k
set_option maxHeartbeats 2000000 in
set_option maxRecDepth 100000 in
theorem bld_write (L : Lays.n166 P ρ) (X : Builder.Extra P ρ) (b : Nat) (p v : Value) (xs : List Value) (s : ByteArray) (w : World) (hbk : w.heap[b]? = some (.cells #[p, v] (ρ.t 72) (0, 0))) (hp : p = .pointer none ∨ p = .pointer (some ⟨b, 0, none⟩))
    (hown : w.ownsRow 0 (ρ.t 5) 1 v xs.length xs) (hlen : xs.length + s.size ≤ 140737488355328) :
    Calls P (ρ.f 166) #[.pointer (some ⟨b, 0, none⟩), .string s] w fun e w' => e = .returned (.tuple #[.int .i64 s.size, .nilIface]) ∧ ∃ v', Wrote (ρ.t 72) (ρ.t 5) b v (xs.length + s.size) (xs ++ strCells s) w w' v' ∧ (v' = .slice none 0 0 ↔ v = .slice none 0 0 ∧ s.size = 0) ∧ (s.size = 0 → v' = v) := by
  obtain ⟨i0, hi, hz0, hz1, hz2⟩ := info_parts X.infoByte
  have hne : v.ownBlock ≠ some b := ownBlock_ne hown hbk X.neB5
  have hB : IsBuilder (ρ.t 72) (ρ.t 5) 0 b xs w := by
    rcases hp with rfl | rfl
    · exact .inl ⟨Nat.zero_le _, v, hbk, hown, hne⟩
    · exact .inr ⟨Nat.zero_le _, v, hbk, hown, hne⟩
  have hlt0 : b < w.heap.size := (Array.getElem?_eq_some_iff.1 hbk).1
  have hcc : Calls P (ρ.f 240) #[.pointer (some ⟨b, 0, none⟩)] w fun e w' => e = .returned (.tuple #[]) ∧ w'.heap[b]? = some (.cells #[.pointer (some ⟨b, 0, none⟩), v] (ρ.t 72) (0, 0)) ∧ w.grownBy w' (some b) ∧ w'.heap.size = w.heap.size := by
    rcases hp with rfl | rfl
    · refine (Any.Builder_copyCheck_fresh { L with } X.toX72 b w (by rw [cell_of_heap hbk]; rfl) (by simp [World.shape?, hbk]) (frozen_of_heap hbk 0)).mono ?_
      rintro e w' ⟨rfl, rfl⟩
      refine ⟨rfl, by simp [World.setCell, Array.getElem?_modify, hbk], ⟨rfl, rfl, rfl, by simp [World.setCell], fun k _ hk => Below.heap_setCell _ _ _ _ (fun e => hk (by simp [e]))⟩, by simp [World.setCell]⟩
    · refine (Any.Builder_copyCheck_used { L with } X.toX72 b w (by rw [cell_of_heap hbk]; rfl)).mono ?_
      rintro e w' ⟨rfl, rfl⟩
      exact ⟨rfl, hbk, ⟨rfl, rfl, rfl, Nat.le_refl _, fun _ _ _ => rfl⟩, rfl⟩
  have mixed := L.mixed
  have t72 := L.t72; have a72 := L.a72; have z72 := L.z72; have v72 := L.v72; have u72 := run_underlying L.t72
  have t70 := L.t70; have a70 := L.a70; have z70 := L.z70; have v70 := L.v70; have u70 := run_underlying L.t70
  have t37 := L.t37; have a37 := L.a37; have z37 := L.z37; have v37 := L.v37; have u37 := run_underlying L.t37
  have t3 := L.t3; have a3 := L.a3; have z3 := L.z3; have v3 := L.v3; have u3 := run_underlying L.t3
  have t9 := L.t9; have a9 := L.a9; have z9 := L.z9; have v9 := L.v9; have u9 := run_underlying L.t9
  have t4 := L.t4; have a4 := L.a4; have z4 := L.z4; have v4 := L.v4; have u4 := run_underlying L.t4
  have t164 := L.t164; have a164 := L.a164; have z164 := L.z164; have v164 := L.v164; have u164 := run_underlying L.t164
  have t5 := X.t5; have a5 := X.a5; have z5 := X.z5; have v5 := X.v5; have u5 := run_underlying X.t5
  have e240 : ∀ args w, (callFunc (ρ.f 240) args).run P w = .ok (.enter (ρ.f 240) args) w := enters_of L.f240 (by kernel_rfl) rfl
  clear hp hB
  go_enter L.f166, Body.n166_ntmps ρ
  go_wp2_with (go_at_fn (ρ.f 240); refine hcc.mono ?_)
  rintro e w1 ⟨rfl, hbk1, hb1, hsz1⟩
  have hown1 : w1.ownsRow 0 (ρ.t 5) 1 v xs.length xs := hown.kept hb1 (.inr hne)
  have c0 : w1.cell? ⟨b, 0, none⟩ = some (.pointer (some ⟨b, 0, none⟩)) := by rw [Lib.cell_of_heap hbk1]; rfl
  have c1 : w1.cell? ⟨b, 1, none⟩ = some v := by rw [Lib.cell_of_heap hbk1]; rfl
  go_wp2_with (at_builtin; refine wpList_append_string rfl _ _ (ρ.t 37) (ρ.t 9) rfl (ρ.t 5) i0 L.t37 L.t9 hi hz0 hz1 hz2 _ _ _ rfl hown1 s rfl ?c3 ?c4 ?_)
  case c3 => unfold maxLen; omega
  case c4 => omega
  intro v' w2 hown' hgrow hnil hat hsame
  have hlt : b < w1.heap.size := (Array.getElem?_eq_some_iff.1 hbk1).1
  have hb2 : w2.heap[b]? = some (.cells #[.pointer (some ⟨b, 0, none⟩), v] (ρ.t 72) (0, 0)) := by
    rw [hgrow.block b hlt (fun e => hne e.symm)]
    exact hbk1
  have d0 : w2.cell? ⟨b, 0, none⟩ = some (.pointer (some ⟨b, 0, none⟩)) := by rw [Lib.cell_of_heap hb2]; rfl
  have d1 : w2.cell? ⟨b, 1, none⟩ = some v := by rw [Lib.cell_of_heap hb2]; rfl
  have f1 : w2.frozen? ⟨b, 1, none⟩ = false := Lib.frozen_of_heap hb2 1
  have hne' : v'.ownBlock ≠ some b := ownBlock_ne hown' hb2 X.neB5
  obtain ⟨ao, n', cap, rfl⟩ : ∃ ao n' cap, v' = .slice ao n' cap := by
    rcases hown'.2 with ⟨hv, _⟩ | ⟨g, cap, cur, hv, _⟩
    · exact ⟨_, _, _, hv⟩
    · exact ⟨_, _, _, hv⟩
  go_wp2
  go_ret2
  refine ⟨rfl, .slice ao n' cap, ⟨?_, ?_, ?_, ?_, ?_, ?_, ?_, ?_⟩, by simpa using hnil, by simpa using hsame⟩
  · simp [World.setCell, Array.getElem?_modify, hb2]
  · exact hown'.kept (row := some b) ⟨rfl, rfl, rfl, by simp [World.setCell], fun k _ hk => Below.heap_setCell _ _ _ _ (fun e => hk (by simp [e]))⟩ (Or.inr hne')
  · exact hgrow.os.trans hb1.os
  · exact hgrow.tape.trans hb1.tape
  · exact hgrow.output.trans hb1.output
  · have := hgrow.size; have := hb1.size; simp [World.setCell]; omega
  · intro k hk hkb hkv
    rw [Below.heap_setCell _ _ _ _ hkb, hgrow.block k (by omega) hkv, hb1.block k hk (by simpa using hkb)]
  · intro k hk
    rcases hat k hk with h | h
    · exact .inl h
    · exact .inr (by omega)
set_option maxHeartbeats 1000000 in
set_option maxRecDepth 100000 in
theorem bld_string (L : Lays.n169 P ρ) (X : Builder.Extra P ρ) (b g cap : Nat) (p : Value) (cur : Array Value) (l : List UInt8) (w : World) (hbk : w.heap[b]? = some (.cells #[p, .slice (some ⟨g, 0, none⟩) l.length cap] (ρ.t 72) (0, 0)))
    (hg : w.heap[g]? = some (.cells cur (ρ.t 5) (0, 0))) (hnc : l.length ≤ cap) (hcm : cap ≤ maxLen) (hcs : cur.size = cap) (htake : cur.toList.take l.length = byteCells l) (h0 : l ≠ []) :
    Calls P (ρ.f 169) #[.pointer (some ⟨b, 0, none⟩)] w fun e w' => e = .returned (.string ⟨l.toArray⟩) ∧ w' = w.drew.freeze ⟨g, 0, none⟩ l.length := by
  have hl0 : l.length ≠ 0 := by simpa using h0
  have hown : w.ownsRow 0 (ρ.t 5) 1 (.slice (some ⟨g, 0, none⟩) l.length cap) l.length (byteCells l) :=
    ⟨by rw [Lib.byteCells_length, Nat.mul_one], .inr ⟨g, cap, cur, rfl, Nat.zero_le _, hg, hnc, hcm, by omega, by rw [Nat.mul_one]; exact htake⟩⟩
  have c1 : w.drew.cell? ⟨b, 1, none⟩ = some (.slice (some ⟨g, 0, none⟩) l.length cap) := by
    have : w.drew.heap[b]? = some (.cells #[p, .slice (some ⟨g, 0, none⟩) l.length cap] (ρ.t 72) (0, 0)) := hbk
    rw [Lib.cell_of_heap this]; rfl
  have hSD : (Builtin.unsafeSliceData_ #[(ρ.t 37)] (ρ.t 127) #[.slice (some ⟨g, 0, none⟩) l.length cap]).run P w.drew = .ok (.pointer (some ⟨g, 0, none⟩)) w.drew :=
    Lib.run_unsafeSliceData_row _ _ _ _ _ _ (by omega)
  have hUS : (Builtin.unsafeString_ #[(ρ.t 127), (ρ.t 3)] (ρ.t 9) #[.pointer (some ⟨g, 0, none⟩), .int .i64 l.length]).run P w.drew = .ok (.string ⟨l.toArray⟩) (w.drew.freeze ⟨g, 0, none⟩ l.length) := by
    refine Lib.run_unsafeString_row w.drew (ρ.t 127) (ρ.t 3) (ρ.t 9) (ρ.t 5) L.t127 X.cellsByte g cur.size (by have hg' : w.drew.heap[g]? = some (.cells cur (ρ.t 5) (0, 0)) := hg; simp [World.shape?, hg']) l h0 (by omega) (by unfold maxLen at hcm; omega) ?_
    intro j x hx
    exact hown.cells (g := g) rfl j (.int .u8 x.toNat) (by simp [Lib.byteCells, hx])
  have mixed := L.mixed
  have t72 := L.t72; have a72 := L.a72; have z72 := L.z72; have v72 := L.v72; have u72 := run_underlying L.t72
  have t70 := L.t70; have a70 := L.a70; have z70 := L.z70; have v70 := L.v70; have u70 := run_underlying L.t70
  have t37 := L.t37; have a37 := L.a37; have z37 := L.z37; have v37 := L.v37; have u37 := run_underlying L.t37
  have t127 := L.t127; have a127 := L.a127; have z127 := L.z127; have v127 := L.v127; have u127 := run_underlying L.t127
  have t3 := L.t3; have a3 := L.a3; have z3 := L.z3; have v3 := L.v3; have u3 := run_underlying L.t3
  have t9 := L.t9; have a9 := L.a9; have z9 := L.z9; have v9 := L.v9; have u9 := run_underlying L.t9
  have t5 := X.t5; have a5 := X.a5; have z5 := X.z5; have v5 := X.v5; have u5 := run_underlying X.t5
  clear hown htake hg
  go_enter L.f169, Body.n169_ntmps ρ
  go_wp2
  go_region_o
  all_goals (go_wp2; go_ret; exact ⟨rfl, rfl⟩)
def bldOk (b : Nat) : D → Bool
  | .np => true
  | .hp b' 0 => b' == b
  | _ => false
def bldW (tb te : Nat) : List D → Heap → Option (D × Heap)
  | [.hp b 0, .s s], H => match H[b]? with
    | some (.hb t [c, x]) => match decide (t = tb) && bldOk b c with
      | true => match x with
        | .nil => match s with
          | [] => some (.tu [.i .i64 0, .ni], H.set b (.hb tb [.hp b 0, .nil]))
          | _ :: _ => if s.length ≤ 140737488355328 then some (.tu [.i .i64 s.length, .ni], List.set (H ++ [Blk.yt te s false]) b (.hb tb [.hp b 0, .yb H.length s.length])) else none
        | .yb a n => match H[a]? with
          | some (.yt t' bs false) => if t' = te ∧ bs.length = n ∧ n + s.length ≤ 140737488355328 then some (.tu [.i .i64 s.length, .ni], (H.set a (.yt te (bs ++ s) false)).set b (.hb tb [.hp b 0, .yb a (n + s.length)])) else none
          | _ => none
        | _ => none
      | false => none
    | _ => none
  | _, _ => none
def bldS (tb te : Nat) : List D → Heap → Option (D × Heap)
  | [.hp b 0], H => match H[b]? with
    | some (.hb t [_, x]) => match decide (t = tb) with
      | true => match x with
        | .nil => some (.s [], H)
        | .yb a n => match H[a]? with
          | some (.yt t' bs false) => if t' = te ∧ bs.length = n ∧ bs ≠ [] then some (.s bs, H.set a (.yt te bs true)) else none
          | _ => none
        | _ => none
      | false => none
    | _ => none
  | _, _ => none
section
variable {K : Kn} {μ : Mu} {H : Heap} {W : World}
theorem HR.more {W' : World} (hr : HR K μ H W) (hs : W.heap.size ≤ W'.heap.size) (hkeep : ∀ b, b < W.heap.size → W'.heap[b]? = W.heap[b]?) : HR K μ H W' :=
  hr.other W.heap.size (hr.not_own (Nat.le_refl _)) (hr.not_known (Nat.le_refl _)) hs fun b hb _ => hkeep b hb
theorem bytes_cells (s : List UInt8) : strCells ⟨s.toArray⟩ = byteCells s := rfl
theorem bld_at {tb b : Nat} {lb : Loc} {c x : D} (hr : HR K μ H W) (hm : μ b = some lb) (hH : H[b]? = some (.hb tb [c, x])) : lb.off = 0 ∧ lb.size = 2 ∧ ∃ p v, W.heap[lb.blk]? = some (.cells #[p, v] tb (0, 0)) ∧ VR K μ H c p ∧ VR K μ H x v ∧ v.oneCell' = true := by
  obtain ⟨h0, vs, hW, hsz, hc⟩ := hr.blk b lb _ hm hH
  have hl := hc.1.1
  match hvs : vs.toList, hl with
  | [p, v], _ =>
    have e : vs = #[p, v] := by rw [← Array.toArray_toList (xs := vs), hvs]
    subst e
    exact ⟨h0, by rw [← hsz]; rfl, p, v, hW, hc.1.2 0 c p rfl rfl, hc.1.2 1 x v rfl rfl, hc.2 v (by simp)⟩
  | [], h => simp at h
  | [_], h => simp at h
  | _ :: _ :: _ :: _, h => simp at h
theorem bld_last {tb te b : Nat} {lb : Loc} {c x x' : D} {μ1 : Mu} {H1 : Heap} {W' : World} {p v v' : Value} (hm : μ b = some lb) (h0 : lb.off = 0) (hsz : lb.size = 2)
    (hWb : W.heap[lb.blk]? = some (.cells #[p, v] tb (0, 0))) (hbk : W'.heap[lb.blk]? = some (.cells #[.pointer (some ⟨lb.blk, 0, none⟩), v'] tb (0, 0)))
    (hr1 : HR K μ1 H1 (W'.setRow lb.blk #[p, v])) (nx1 : Nx K μ H W K μ1 H1 (W'.setRow lb.blk #[p, v])) (hm1 : μ1 b = some lb) (hH1 : H1[b]? = some (.hb tb [c, x]))
    (hx : VR K (μ1.upd b lb) (H1.set b (.hb tb [.hp b 0, x'])) x' v') (h1 : v'.oneCell' = true) :
    HR K (μ1.upd b lb) (H1.set b (.hb tb [.hp b 0, x'])) W' ∧ Nx K μ H W K (μ1.upd b lb) (H1.set b (.hb tb [.hp b 0, x'])) W' := by
  have hid := hr1.dom b lb hm1
  have hlt : lb.blk < W'.heap.size := (Array.getElem?_eq_some_iff.1 hbk).1
  have := hr1.put (W' := W') b lb lb (.hb tb [c, x]) (.hb tb [.hp b 0, x']) hm1 hH1 rfl rfl (.hb ..) rfl rfl rfl (by simp [World.setRow]) (fun r _ hne => (setRow_other W' lb.blk r _ hne).symm) (.inl rfl) hlt
    ⟨h0, _, hbk, by rw [hsz]; rfl, (show CRs K (μ1.upd b lb) (H1.set b (.hb tb [.hp b 0, x'])) [.hp b 0, x'] [.pointer (some ⟨lb.blk, 0, none⟩), v'] from ⟨⟨rfl, fun j d u e e' => by
      match j with
      | 0 => simp at e e'; subst e e'; exact .hp _ _ b 0 lb tb [.hp b 0, x'] (by simp [Mu.upd]) (by simp [hid])
      | 1 => simp at e e'; subst e e'; exact hx
      | j + 2 => simp at e⟩, fun u hu => by
      simp at hu
      rcases hu with rfl | rfl
      · rfl
      · exact h1⟩)⟩
  exact ⟨this.1, nx1.trans this.2⟩
theorem vrs_two {a b : D} {vs : List Value} (h : VRs K μ H [a, b] vs) : ∃ x y, vs = [x, y] ∧ VR K μ H a x ∧ VR K μ H b y := by
  obtain ⟨hl, hv⟩ := h
  match vs, hl with
  | [x, y], _ => exact ⟨x, y, rfl, hv 0 _ _ rfl rfl, hv 1 _ _ rfl rfl⟩
theorem vrs_one {a : D} {vs : List Value} (h : VRs K μ H [a] vs) : ∃ x, vs = [x] ∧ VR K μ H a x := by
  obtain ⟨hl, hv⟩ := h
  match vs, hl with
  | [x], _ => exact ⟨x, rfl, hv 0 _ _ rfl rfl⟩
theorem bldOk_inv {b : Nat} {c : D} (h : bldOk b c = true) : c = .np ∨ c = .hp b 0 := by
  unfold bldOk at h
  split at h
  · exact .inl rfl
  · simp at h; subst h; exact .inr rfl
  · cases h
theorem VR.of_tu2 {n : Int} : VR K μ H (.tu [.i .i64 n, .ni]) (.tuple #[.int .i64 n, .nilIface]) :=
  .tu _ _ _ [.int .i64 n, .nilIface] rfl fun j d v e e' => by
    match j with
    | 0 => simp at e e'; subst e e'; exact .i ..
    | 1 => simp at e e'; subst e e'; exact .ni ..
    | j + 2 => simp at e
end
theorem bldW_sim (L : Lays.n166 P ρ) (X : Builder.Extra P ρ) {args : List D} {H H' : Heap} {d : D} (h : bldW (ρ.t 72) (ρ.t 5) args H = some (d, H')) :
    H.length ≤ H'.length ∧ ∀ (K : Kn) (μ : Mu) (W : World) (vs : List Value), HR K μ H W → VRs K μ H args vs → Calls P (ρ.f 166) vs.toArray W (Gives K μ H W d H') := by
  unfold bldW at h
  split at h
  · rename_i b s
    split at h
    · rename_i t c x hb
      split at h
      · rename_i hok
        simp only [Bool.and_eq_true, decide_eq_true_eq] at hok
        obtain ⟨rfl, hok⟩ := hok
        have common : ∀ (K : Kn) (μ : Mu) (W : World) (vs : List Value), HR K μ H W → VRs K μ H [.hp b 0, .s s] vs → ∃ lb p v, μ b = some lb ∧ lb.off = 0 ∧ lb.size = 2 ∧ W.heap[lb.blk]? = some (.cells #[p, v] (ρ.t 72) (0, 0)) ∧ (p = .pointer none ∨ p = .pointer (some ⟨lb.blk, 0, none⟩)) ∧ VR K μ H x v ∧ vs = [.pointer (some ⟨lb.blk, 0, none⟩), .string ⟨s.toArray⟩] := fun K μ W vs hr hv => by
          obtain ⟨y, z, rfl, hy, hz⟩ := vrs_two hv
          cases hz
          cases hy with
          | hp _ _ _ _ lb t' cs hm hH =>
            rw [hb] at hH; cases hH
            obtain ⟨h0, hsz, p, v, hW, hp, hx, _⟩ := bld_at hr hm hb
            refine ⟨lb, p, v, hm, h0, hsz, hW, ?_, hx, rfl⟩
            rcases bldOk_inv hok with rfl | rfl
            · cases hp; exact .inl rfl
            · cases hp with
              | hp _ _ _ _ lb' t'' cs' hm' _ => rw [hm] at hm'; cases hm'; exact .inr rfl
        split at h
        · -- nothing yet
          split at h
          · cases h
            refine ⟨by simp, fun K μ W vs hr hv => ?_⟩
            obtain ⟨lb, p, v, hm, h0, hsz, hW, hp, hx, rfl⟩ := common K μ W vs hr hv
            cases hx
            refine (bld_write L X lb.blk p _ [] ⟨#[]⟩ W hW hp (World.ownsRow_nil _ _ _ _) (by decide)).mono ?_
            rintro e W' ⟨rfl, v', wr, hnil, hsame⟩
            have hv' := hsame rfl
            subst hv'
            have hlb : lb.blk < W.heap.size := hr.lt b lb hm
            have hkeep : ∀ k, k < W.heap.size → (W'.setRow lb.blk #[p, .slice none 0 0]).heap[k]? = W.heap[k]? := fun k hk => by
              by_cases hkb : k = lb.blk
              · subst hkb; rw [setRow_heap _ _ _ _ _ _ wr.bk, hW]
              · rw [setRow_other _ _ _ _ hkb]; exact wr.keep k hk hkb (by simp [Value.ownBlock])
            have hs' : W.heap.size ≤ (W'.setRow lb.blk #[p, .slice none 0 0]).heap.size := by simpa [World.setRow] using wr.size
            have hr1 := hr.more hs' hkeep
            have nx1 : Nx K μ H W K μ H (W'.setRow lb.blk #[p, .slice none 0 0]) := ⟨.refl _ _ _, wr.os, wr.tape, wr.output, hs', fun r hr' _ => hkeep r hr', fun _ h => .inl h, fun _ _ _ h => .inl h⟩
            have := bld_last (te := ρ.t 5) (x' := .nil) hm h0 hsz hW wr.bk hr1 nx1 hm hb (.nil ..) rfl
            exact ⟨K, _, this.1, this.2, VR.of_tu2⟩
          · rename_i c0 s0
            split at h
            · rename_i hlen
              cases h
              refine ⟨by simp, fun K μ W vs hr hv => ?_⟩
              obtain ⟨lb, p, v, hm, h0, hsz, hW, hp, hx, rfl⟩ := common K μ W vs hr hv
              cases hx
              have hss : (⟨(c0 :: s0).toArray⟩ : ByteArray).size = (c0 :: s0).length := by simp [ByteArray.size]
              refine (bld_write L X lb.blk p _ [] ⟨(c0 :: s0).toArray⟩ W hW hp (World.ownsRow_nil _ _ _ _) (by rw [hss]; simpa using hlen)).mono ?_
              rintro e W' ⟨rfl, v', wr, hnil, hsame⟩
              have hlb : lb.blk < W.heap.size := hr.lt b lb hm
              have hkeep : ∀ k, k < W.heap.size → (W'.setRow lb.blk #[p, .slice none 0 0]).heap[k]? = W.heap[k]? := fun k hk => by
                by_cases hkb : k = lb.blk
                · subst hkb; rw [setRow_heap _ _ _ _ _ _ wr.bk, hW]
                · rw [setRow_other _ _ _ _ hkb]; exact wr.keep k hk hkb (by simp [Value.ownBlock])
              have hs' : W.heap.size ≤ (W'.setRow lb.blk #[p, .slice none 0 0]).heap.size := by simpa [World.setRow] using wr.size
              have hr1 := hr.more hs' hkeep
              have nx1 : Nx K μ H W K μ H (W'.setRow lb.blk #[p, .slice none 0 0]) := ⟨.refl _ _ _, wr.os, wr.tape, wr.output, hs', fun r hr' _ => hkeep r hr', fun _ h => .inl h, fun _ _ _ h => .inl h⟩
              rcases wr.own.2 with ⟨_, hz⟩ | ⟨g, cap, cur, rfl, _, hg, hnc, hcm, hcs, htake⟩
              · rw [hss] at hz; simp at hz
              · have hgf : W.heap.size ≤ g := by
                  rcases wr.at_ g rfl with h | h
                  · cases h
                  · exact h
                have hne : g ≠ lb.blk := by omega
                have hglt : g < W'.heap.size := (Array.getElem?_eq_some_iff.1 hg).1
                rw [hss] at hnc htake
                simp only [List.length_nil, Nat.zero_add, List.nil_append] at hnc htake
                have had := hr1.adopt ⟨g, 0, cap⟩ (.yt (ρ.t 5) (c0 :: s0) false) (by simpa [World.setRow] using hglt) (hr.not_own hgf) (hr.not_known hgf)
                  ⟨rfl, cur, by rw [setRow_other _ _ _ _ hne]; exact hg, by simpa using hcs, hcm, by rw [bytes_cells] at htake; simpa [byteCells] using htake⟩
                have hid := hr.dom b lb hm
                have hm2 : (μ.upd H.length ⟨g, 0, cap⟩) b = some lb := by simp only [Mu.upd]; rw [if_neg (by omega)]; exact hm
                have nx2 : Nx K μ H W K (μ.upd H.length ⟨g, 0, cap⟩) (H ++ [.yt (ρ.t 5) (c0 :: s0) false]) (W'.setRow lb.blk #[p, .slice none 0 0]) :=
                  ⟨nx1.ext.trans had.2.1, nx1.os, nx1.tape, nx1.output, nx1.size, nx1.keep, fun r h => (had.2.2 r h).imp id (fun e => by subst e; exact hgf), fun _ _ _ h => .inl h⟩
                have := bld_last (te := ρ.t 5) (x' := .yb H.length (c0 :: s0).length) hm h0 hsz hW wr.bk had.1 nx2 hm2 (by rw [List.getElem?_append_left hid]; exact hb)
                  (by
                    have e : (List.length ([] : List Value) + ByteArray.size ⟨(c0 :: s0).toArray⟩) = (c0 :: s0).length := by rw [hss]; simp
                    rw [e]
                    refine .yb _ _ H.length (c0 :: s0).length cap g ⟨g, 0, cap⟩ (ρ.t 5) (c0 :: s0) false ?_ ?_ (Nat.le_refl _) (fun _ => ⟨rfl, hnc, rfl⟩)
                    · simp only [Mu.upd]; rw [if_neg (by omega)]; simp
                    · rw [List.getElem?_set_ne (by omega)]; simp) rfl
                refine ⟨K, _, this.1, this.2, ?_⟩
                rw [hss]; exact VR.of_tu2
            · cases h
        · -- behind what there is
          rename_i a n
          split at h
          · rename_i t' bs ha
            split at h
            · rename_i hcond
              obtain ⟨rfl, rfl, hlen⟩ := hcond
              cases h
              refine ⟨by simp, fun K μ W vs hr hv => ?_⟩
              obtain ⟨lb, p, v, hm, h0, hsz, hW, hp, hx, rfl⟩ := common K μ W vs hr hv
              have hss : (⟨s.toArray⟩ : ByteArray).size = s.length := by simp [ByteArray.size]
              cases hx with
              | yb _ _ _ _ cap blk la t2 bs2 lk2 hma hHa hn hh =>
                rw [ha] at hHa; cases hHa
                obtain ⟨rfl, hnc, rfl⟩ := hh rfl
                obtain ⟨hla0, cur, hg, hcs, hcm, htake⟩ := hr.blk a la _ hma ha
                have hbl : (byteCells bs).length = bs.length := byteCells_length bs
                have hown : W.ownsRow 0 (ρ.t 5) 1 (.slice (some ⟨la.blk, 0, none⟩) bs.length la.size) (byteCells bs).length (byteCells bs) :=
                  ⟨by rw [Nat.mul_one], .inr ⟨la.blk, la.size, cur, by rw [hbl], Nat.zero_le _, hg, by omega, hcm, by omega, by rw [Nat.mul_one, hbl]; exact htake⟩⟩
                refine (bld_write L X lb.blk p _ (byteCells bs) ⟨s.toArray⟩ W hW hp hown (by rw [hss, hbl]; exact hlen)).mono ?_
                rintro e W' ⟨rfl, v', wr, hnil, hsame⟩
                have hab : a ≠ b := fun e => by subst e; rw [hb] at ha; cases ha
                have hlb : lb.blk < W.heap.size := hr.lt b lb hm
                have hne : lb.blk ≠ la.blk := fun e => hab (hr.inj a b la lb _ _ hma hm ha hb rfl rfl e.symm)
                rcases wr.own.2 with ⟨hv, _⟩ | ⟨g, cap', cur', rfl, _, hg', hnc', hcm', hcs', htake'⟩
                · exact absurd (hnil.1 hv).1 (by simp)
                · have hgat : g = la.blk ∨ W.heap.size ≤ g := by
                    rcases wr.at_ g rfl with h | h
                    · simp only [Value.ownBlock, Option.some.injEq] at h; exact .inl h.symm
                    · exact .inr h
                  have hgb : g ≠ lb.blk := by rcases hgat with h | h <;> omega
                  rw [hss, hbl] at hnc' htake'
                  have hlb2 : (bs ++ s).length = bs.length + s.length := List.length_append
                  have hput := hr.put (W' := W'.setRow lb.blk #[p, .slice (some ⟨la.blk, 0, none⟩) bs.length la.size]) a la ⟨g, 0, cap'⟩ (.yt (ρ.t 5) bs false) (.yt (ρ.t 5) (bs ++ s) false) hma ha rfl rfl
                    (.yt _ _ _ _ _ _ _ (by omega) (fun e => by
                      have hs0 : s.length = 0 := by omega
                      have := hsame (by rw [hss]; exact hs0)
                      simp only [Value.slice.injEq, Option.some.injEq, Addr.mk.injEq] at this
                      obtain ⟨⟨h1, _⟩, _, h3⟩ := this
                      cases la; simp at h1 h3 hla0 ⊢; exact ⟨h1.symm, hla0, h3.symm⟩))
                    wr.os wr.tape wr.output (by simpa [World.setRow] using wr.size)
                    (fun r hrlt hrne => by
                      by_cases hrb : r = lb.blk
                      · subst hrb; rw [setRow_heap _ _ _ _ _ _ wr.bk, hW]
                      · rw [setRow_other _ _ _ _ hrb]; exact wr.keep r hrlt hrb (by simpa [Value.ownBlock] using hrne))
                    hgat (by have := (Array.getElem?_eq_some_iff.1 hg').1; simpa [World.setRow] using this)
                    ⟨rfl, cur', by rw [setRow_other _ _ _ _ hgb]; exact hg', by simpa using hcs', hcm', by
                      rw [hlb2]
                      have : byteCells bs ++ strCells ⟨s.toArray⟩ = byteCells (bs ++ s) := by rw [bytes_cells, ← byteCells_append]
                      rw [this] at htake'
                      simpa [byteCells] using htake'⟩
                  have hid := hr.dom b lb hm
                  have hida := hr.dom a la hma
                  have hm2 : (μ.upd a ⟨g, 0, cap'⟩) b = some lb := by simp only [Mu.upd]; rw [if_neg (Ne.symm hab)]; exact hm
                  have := bld_last (te := ρ.t 5) (x' := .yb a (bs.length + s.length)) hm h0 hsz hW wr.bk hput.1 hput.2 hm2 (by rw [List.getElem?_set_ne hab]; exact hb)
                    (by
                      have e : ((byteCells bs).length + ByteArray.size ⟨s.toArray⟩) = bs.length + s.length := by rw [hss, hbl]
                      rw [e]
                      refine .yb _ _ a _ cap' g ⟨g, 0, cap'⟩ (ρ.t 5) (bs ++ s) false ?_ ?_ (by omega) (fun _ => ⟨rfl, hnc', rfl⟩)
                      · simp only [Mu.upd]; rw [if_neg hab]; simp
                      · rw [List.getElem?_set_ne (Ne.symm hab), List.getElem?_set_self hida]) rfl
                  refine ⟨K, _, this.1, this.2, ?_⟩
                  rw [hss]; exact VR.of_tu2
            · cases h
          · cases h
        · cases h
      · cases h
    · cases h
  · cases h
theorem freeze_keep (W : World) (g n k : Nat) (h : k ≠ g) : (W.freeze ⟨g, 0, none⟩ n).heap[k]? = W.heap[k]? := by
  unfold World.freeze
  split
  · rfl
  · simp only [Array.getElem?_modify]
    rw [if_neg (Ne.symm h)]
theorem freeze_rest (W : World) (a : Addr) (n : Nat) : (W.freeze a n).os = W.os ∧ (W.freeze a n).tape = W.tape ∧ (W.freeze a n).output = W.output ∧ (W.freeze a n).heap.size = W.heap.size := by
  unfold World.freeze
  split
  · exact ⟨rfl, rfl, rfl, rfl⟩
  · exact ⟨rfl, rfl, rfl, by simp⟩
theorem bldS_sim (L : Lays.n169 P ρ) (X : Builder.Extra P ρ) {args : List D} {H H' : Heap} {d : D} (h : bldS (ρ.t 72) (ρ.t 5) args H = some (d, H')) :
    H.length ≤ H'.length ∧ ∀ (K : Kn) (μ : Mu) (W : World) (vs : List Value), HR K μ H W → VRs K μ H args vs → Calls P (ρ.f 169) vs.toArray W (Gives K μ H W d H') := by
  unfold bldS at h
  split at h
  · rename_i b
    split at h
    · rename_i t c x hb
      split at h
      · rename_i hok
        simp only [decide_eq_true_eq] at hok
        subst hok
        have common : ∀ (K : Kn) (μ : Mu) (W : World) (vs : List Value), HR K μ H W → VRs K μ H [.hp b 0] vs → ∃ lb p v, μ b = some lb ∧ W.heap[lb.blk]? = some (.cells #[p, v] (ρ.t 72) (0, 0)) ∧ VR K μ H x v ∧ vs = [.pointer (some ⟨lb.blk, 0, none⟩)] := fun K μ W vs hr hv => by
          obtain ⟨y, rfl, hy⟩ := vrs_one hv
          cases hy with
          | hp _ _ _ _ lb t' cs hm hH =>
            rw [hb] at hH; cases hH
            obtain ⟨h0, hsz, p, v, hW, hp, hx, _⟩ := bld_at hr hm hb
            exact ⟨lb, p, v, hm, hW, hx, rfl⟩
        split at h
        · cases h
          refine ⟨Nat.le_refl _, fun K μ W vs hr hv => ?_⟩
          obtain ⟨lb, p, v, hm, hW, hx, rfl⟩ := common K μ W vs hr hv
          cases hx
          refine (Any.Builder_String_nil L X W.heap.size lb.blk p W hW).mono ?_
          rintro e W' ⟨rfl, hbl⟩
          exact ⟨K, μ, hr.more hbl.size hbl.block, ⟨.refl _ _ _, hbl.os, hbl.tape, hbl.output, hbl.size, fun r hr' _ => hbl.block r hr', fun _ h => .inl h, fun _ _ _ h => .inl h⟩, .s ..⟩
        · rename_i a n
          split at h
          · rename_i t' bs ha
            split at h
            · rename_i hcond
              obtain ⟨rfl, rfl, hne⟩ := hcond
              cases h
              refine ⟨by simp, fun K μ W vs hr hv => ?_⟩
              obtain ⟨lb, p, v, hm, hW, hx, rfl⟩ := common K μ W vs hr hv
              cases hx with
              | yb _ _ _ _ cap blk la t2 bs2 lk2 hma hHa hn hh =>
                rw [ha] at hHa; cases hHa
                obtain ⟨rfl, hnc, rfl⟩ := hh rfl
                obtain ⟨hla0, cur, hg, hcs, hcm, htake⟩ := hr.blk a la _ hma ha
                refine (bld_string L X lb.blk la.blk la.size p cur bs W hW hg hnc hcm hcs htake hne).mono ?_
                rintro e W' ⟨rfl, rfl⟩
                obtain ⟨f1, f2, f3, f4⟩ := freeze_rest W.drew ⟨la.blk, 0, none⟩ bs.length
                have hlt := hr.lt a la hma
                have hput := hr.put0 (W' := W.drew.freeze ⟨la.blk, 0, none⟩ bs.length) a la la (.yt (ρ.t 5) bs false) (.yt (ρ.t 5) bs true) hma ha rfl (.yt _ _ _ _ _ _ _ (Nat.le_refl _) (fun _ => rfl))
                  f1 f2 f3 (by rw [f4]; exact Nat.le_refl _) (fun r _ hne => freeze_keep W.drew la.blk bs.length r hne) (.inl rfl) (by rw [f4]; exact hlt) trivial
                exact ⟨K, _, hput.1, hput.2, .s ..⟩
            · cases h
          · cases h
        · cases h
      · cases h
    · cases h
  · cases h
end Go.Dm
