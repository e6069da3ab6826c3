/-
  Plain arguments as the machine's values; how a law's run closes its row.
-/
import Derived.Test.YtnhbopeopppojaaGreatDoorDe
import Derived.ChangeArms
import Derived.ChangeShapes
import Derived.ChangeSame
import Derived.Carry
import Derived.SizedLaws
namespace Go.Dm
open Go.ChangeShapes Go.RowKit
inductive T where
  | b
  | i (k : IntKind)
  | s
  | sl (b : Nat) (ts : List T)
  | rc (b : Nat) (t : TypeId)
  deriving Inhabited
abbrev Tenv := TypeId → Option (List T)
mutual
inductive HasT (env : Tenv) : T → D → Prop
  | b (x : Bool) : HasT env .b (.b x)
  | i (k : IntKind) (n : Int) (h : k.min ≤ n ∧ n ≤ k.max) : HasT env (.i k) (.i k n)
  | s (l : List UInt8) (h : l.length ≤ reachBytes) : HasT env .s (.s l)
  | nil (b : Nat) (ts : List T) : HasT env (.sl b ts) .nil
  | z (b : Nat) (ts : List T) : HasT env (.sl b ts) .z
  | sl (b : Nat) (ts : List T) (rows : List (List D)) (h : rows.length ≤ maxLen ∧ rows.length * b ≤ reachBytes) (hr : ∀ r ∈ rows, HasTs env ts r) : HasT env (.sl b ts) (.im ts.length rows)
  | rnil (b : Nat) (t : TypeId) : HasT env (.rc b t) .nil
  | rz (b : Nat) (t : TypeId) : HasT env (.rc b t) .z
  | rc (b : Nat) (t : TypeId) (ts : List T) (he : env t = some ts) (rows : List (List D)) (h : rows.length ≤ maxLen ∧ rows.length * b ≤ reachBytes) (hr : ∀ r ∈ rows, HasTs env ts r) : HasT env (.rc b t) (.im ts.length rows)
inductive HasTs (env : Tenv) : List T → List D → Prop
  | nil : HasTs env [] []
  | cons {t : T} {ts : List T} {d : D} {ds : List D} (h : HasT env t d) (hs : HasTs env ts ds) : HasTs env (t :: ts) (d :: ds)
end
theorem HasTs.len {env : Tenv} : ∀ {ts : List T} {ds : List D}, HasTs env ts ds → ds.length = ts.length
  | _, _, .nil => rfl
  | _, _, .cons _ hs => by simp [hs.len]
theorem HasTs.append {env : Tenv} : ∀ {ts ts' : List T} {ds ds' : List D}, HasTs env ts ds → HasTs env ts' ds' → HasTs env (ts ++ ts') (ds ++ ds')
  | _, _, _, _, .nil, h' => h'
  | _, _, _, _, .cons h hs, h' => .cons h (hs.append h')
def fieldT (P : Program) (g : TypeId → Option (List T)) : Nat → List Field → Option (List T)
  | _, [] => some []
  | off, f :: fs => if f.offset = off then match g f.type with
      | some a => if P.cellsOf f.type = a.length then match fieldT P g (off + a.length) fs with
          | some b => some (a ++ b)
          | none => none
        else none
      | none => none
    else none
def cellTs (P : Program) (stop : List TypeId) : Nat → TypeId → Option (List T)
  | 0, _ => none
  | n + 1, t => match P.underlying t with
    | some .bool => some [.b]
    | some (.int k) => some [.i k]
    | some .string => some [.s]
    | some (.slice e) => if stop.contains e then some [.rc (P.bytesOf e) e] else match cellTs P stop n e with
      | some ts => if P.cellsOf e = ts.length ∧ 0 < ts.length then some [.sl (P.bytesOf e) ts] else none
      | none => none
    | some (.struct fs) => match fieldT P (cellTs P stop n) 0 fs.toList with
      | some ts => if P.cellsOf t = ts.length then some ts else none
      | none => none
    | _ => none
def envOf (P : Program) (stop : List TypeId) : Tenv := cellTs P stop 16
def stopOk (P : Program) (stop : List TypeId) : Bool := stop.all fun e => match envOf P stop e with
  | some ts => decide (P.cellsOf e = ts.length ∧ 0 < ts.length)
  | none => false
def knAll (W : World) : Kn := fun b o => W.cell? ⟨b, o, none⟩
theorem hr_all (W : World) : HR (knAll W) mu0 [] W where
  dom := fun id l e => by cases e
  tot := fun id h => by simp at h
  blk := fun id l b e => by cases e
  lt := fun id l e => by cases e
  inj := fun id id' l l' b b' e => by cases e
  kn := fun b o v e => e
  kf := fun b o v _ ⟨id, l, b', e, _⟩ => by cases e
section
variable {H : Type} {enc : TypeId × Value → H} {P : Program} {W : World}
theorem cells_get {a : Addr} {n : Nat} {cs : List Value} (h : W.cells? 0 a n = some cs) : cs.length = n ∧ ∀ i, i < n → W.cell? (a.add i) = cs[i]? := by
  unfold World.cells? at h
  rw [if_pos (Nat.zero_le _)] at h
  refine ⟨by simpa using mapM_some_length h, fun i hi => mapM_some_get h i i (by simp [hi])⟩
theorem add_zero (a : Addr) : a.add 0 = a := by simp [Addr.add]
theorem spot_none {a : Addr} {v : Value} (h : W.cell? a = some v) : a.spot = none := by
  unfold World.cell? at h
  split at h
  · split at h
    · cases h
    · rename_i hs; simpa using hs
  · cases h
theorem addr_eta {a : Addr} (h : a.spot = none) : a = ⟨a.block, a.off, none⟩ := by
  cases a; simp at h; subst h; rfl
theorem add_at {a : Addr} (h : a.spot = none) (n : Nat) : a.add n = ⟨a.block, a.off + n, none⟩ := by
  rw [addr_eta h, add_none]
theorem CRs.one {d : D} {v : Value} {K : Kn} {μ : Mu} {H : Heap} (h : VR K μ H d v) (h1 : v.oneCell' = true) : CRs K μ H [d] [v] :=
  ⟨⟨rfl, fun j d' v' e e' => by
    cases j with
    | zero => cases e; cases e'; exact h
    | succ j => simp at e⟩, fun u hu => by rw [List.mem_singleton.1 hu]; exact h1⟩
theorem CRs.app {xs ys : List D} {vs ws : List Value} {K : Kn} {μ : Mu} {H : Heap} (h : CRs K μ H xs vs) (h' : CRs K μ H ys ws) : CRs K μ H (xs ++ ys) (vs ++ ws) :=
  ⟨h.1.append h'.1, fun v hv => (List.mem_append.1 hv).elim (h.2 v) (h'.2 v)⟩
theorem weightsAll_mem {e : TypeId} : ∀ {ds : List (DataW H)} {i : Nat} {d : DataW H}, ds[i]? = some d → ∀ n ∈ d.weights P e, n ∈ DataW.weightsAll P e ds
  | d0 :: ds, 0, d, h, n, hn => by
    simp only [List.getElem?_cons_zero, Option.some.injEq] at h
    subst h
    simp only [DataW.weightsAll, List.mem_append]
    exact Or.inl hn
  | d0 :: ds, i + 1, d, h, n, hn => by
    simp only [List.getElem?_cons_succ] at h
    simp only [DataW.weightsAll, List.mem_append]
    exact Or.inr (weightsAll_mem h n hn)
  | [], _, _, h, _, _ => by simp at h
theorem read_slice {stop : List TypeId} {n : Nat} {e : TypeId} {te : List T} {t : TypeId} {cs : List Value} {x : DataW H × List MemPlace} (hu : P.underlying t = some (.slice e)) (hw : P.cellsOf e = te.length) (hpos : 0 < te.length)
    (ih : ∀ (n' : Nat), n' < n → ∀ (cs : List Value) (x : DataW H × List MemPlace), DataW.trod enc P W 0 (fun _ => true) true n' e cs = some x → (∀ n ∈ x.1.weights P e, n ≤ reachBytes) → ∃ ds, HasTs (envOf P stop) te ds ∧ CRs (knAll W) mu0 [] ds cs)
    (h : DataW.trod enc P W 0 (fun _ => true) true n t cs = some x) (hwt : ∀ n ∈ x.1.weights P t, n ≤ reachBytes) : (∃ v, cs = [v] ∧ v.oneCell' = true ∧ (VR (knAll W) mu0 [] .nil v ∨ VR (knAll W) mu0 [] .z v ∨ ∃ rows : List (List D), (rows.length ≤ maxLen ∧ rows.length * P.bytesOf e ≤ reachBytes) ∧ (∀ r ∈ rows, HasTs (envOf P stop) te r) ∧ VR (knAll W) mu0 [] (.im te.length rows) v)) := by
  rcases DataW.trod_slice hu h with ⟨rfl, _⟩ | ⟨a, len, cap, elems, rest, n', hn', rfl, hx, _, hle, hmax, hlen, hel, hsp, _⟩
  · exact ⟨_, rfl, rfl, .inl (.nil ..)⟩
  · obtain ⟨hrl, hre⟩ := hsp rfl
    by_cases hcap : cap = 0
    · have : len = 0 := by omega
      subst hcap; subst this
      exact ⟨_, rfl, rfl, .inr (.inl (.z ..))⟩
    · have hspot : a.spot = none := by
        have key : ∀ q : Option (DataW H × List MemPlace), (W.cells? 0 (a.add (0 * P.cellsOf e)) (P.cellsOf e)).bind (DataW.trod enc P W 0 (fun _ => true) true n' e) = q → q.isSome = true → a.spot = none := fun q hq hs => by
          rw [← hq] at hs
          cases hc : W.cells? 0 (a.add (0 * P.cellsOf e)) (P.cellsOf e) with
          | none => rw [hc] at hs; cases hs
          | some cs =>
            obtain ⟨g1, g2⟩ := cells_get hc
            have := g2 0 (by omega)
            rw [Nat.zero_mul, add_zero, add_zero, List.getElem?_eq_getElem (by omega)] at this
            exact spot_none this
        by_cases hl0 : 0 < len
        · exact key _ (hel 0 hl0) (by rw [List.getElem?_eq_getElem (by omega)]; rfl)
        · have hl0 : len = 0 := by omega
          subst hl0
          exact key _ (by simpa using hre 0 (by omega)) (by rw [List.getElem?_eq_getElem (by omega)]; rfl)
      have each : ∀ i, i < len → ∃ ds cs, HasTs (envOf P stop) te ds ∧ CRs (knAll W) mu0 [] ds cs ∧ cs.length = te.length ∧ ∀ j, j < te.length → W.cell? ⟨a.block, a.off + (i * te.length + j), none⟩ = cs[j]? := fun i hi => by
        have := hel i hi
        rw [List.getElem?_eq_getElem (by omega)] at this
        cases hc : W.cells? 0 (a.add (i * P.cellsOf e)) (P.cellsOf e) with
        | none => rw [hc] at this; cases this
        | some cs =>
          rw [hc] at this
          obtain ⟨ds, g1, g2⟩ := ih n' (by omega) cs _ this (fun k hk => hwt k (by
            rw [hx]
            simp only [DataW.weights, hu, List.mem_cons, List.mem_append]
            exact .inr (.inl (weightsAll_mem (i := i) (by simp [List.getElem?_eq_getElem (show i < elems.length by omega)]) k hk))))
          obtain ⟨g3, g4⟩ := cells_get hc
          refine ⟨ds, cs, g1, g2, by omega, fun j hj => ?_⟩
          have := g4 j (by omega)
          rw [add_at hspot, add_none, hw] at this
          rw [← this]
          congr 2
          omega
      let g : Nat → List D := fun i => open Classical in if hi : i < len then Classical.choose (each i hi) else []
      have hg : ∀ i, i < len → ∃ cs, HasTs (envOf P stop) te (g i) ∧ CRs (knAll W) mu0 [] (g i) cs ∧ cs.length = te.length ∧ ∀ j, j < te.length → W.cell? ⟨a.block, a.off + (i * te.length + j), none⟩ = cs[j]? := fun i hi => by
        have he : g i = Classical.choose (each i hi) := dif_pos hi
        rw [he]
        exact Classical.choose_spec (each i hi)
      have row : ∀ (i : Nat) (r : List D), ((List.range len).map g)[i]? = some r → i < len ∧ r = g i := fun i r e => by
        rw [List.getElem?_map] at e
        by_cases hi : i < len
        · rw [List.getElem?_range hi] at e; exact ⟨hi, (Option.some.inj e).symm⟩
        · rw [List.getElem?_eq_none (by simp; omega)] at e; cases e
      have hbts : len * P.bytesOf e ≤ reachBytes := by
        have h1 := hwt _ (by
          rw [hx]
          simp only [DataW.weights, hu, List.mem_cons]
          exact .inl rfl)
        refine Nat.le_trans (Nat.mul_le_mul_right _ ?_) h1
        simp only [List.length_map]
        omega
      refine ⟨_, rfl, rfl, .inr (.inr ⟨(List.range len).map g, ⟨by simp; omega, by simpa using hbts⟩, fun r hr => ?_, ?_⟩)⟩
      · obtain ⟨i, hi, rfl⟩ := List.mem_map.1 hr
        obtain ⟨cs, g1, _⟩ := hg i (by simpa using hi)
        exact g1
      · have hv : VR (knAll W) mu0 [] (.im te.length ((List.range len).map g)) (.slice (some ⟨a.block, a.off, none⟩) ((List.range len).map g).length cap) := by
          have get : ∀ (i : Nat) (r : List D) (j : Nat) (d : D), ((List.range len).map g)[i]? = some r → r[j]? = some d → ∃ v, W.cell? ⟨a.block, a.off + (i * te.length + j), none⟩ = some v ∧ v.oneCell' = true ∧ VR (knAll W) mu0 [] d v := fun i r j d e e' => by
            obtain ⟨hi, rfl⟩ := row i r e
            obtain ⟨cs, g1, g2, g3, g4⟩ := hg i hi
            have hj : j < te.length := by rw [← g1.len]; exact lt_of_get e'
            have hj' : j < cs.length := by omega
            refine ⟨cs[j], by rw [g4 j hj, List.getElem?_eq_getElem hj'], g2.2 _ (List.getElem_mem hj'), g2.1.2 j d _ e' (List.getElem?_eq_getElem hj')⟩
          refine .im _ _ te.length _ a.block a.off cap (fun i j => (W.cell? ⟨a.block, a.off + (i * te.length + j), none⟩).getD undef) (by simp; omega) (fun i r e => ?_) (fun i r j d e e' => ?_) (fun i r j d e e' => ?_) (fun i r j d e e' => ?_)
          · obtain ⟨hi, rfl⟩ := row i r e
            obtain ⟨cs, g1, _⟩ := hg i hi
            exact g1.len
          · obtain ⟨v, g1, _⟩ := get i r j d e e'
            simp only [knAll, g1, Option.getD_some]
          · obtain ⟨v, g1, g2, _⟩ := get i r j d e e'
            simp only [g1, Option.getD_some, g2]
          · obtain ⟨v, g1, _, g3⟩ := get i r j d e e'
            simp only [g1, Option.getD_some]; exact g3
        rw [← addr_eta hspot] at hv
        simpa using hv
theorem read_cells {stop : List TypeId} (hst : stopOk P stop = true) : ∀ (n m : Nat) (t : TypeId) (cs : List Value) (x : DataW H × List MemPlace) (ts : List T), DataW.trod enc P W 0 (fun _ => true) true n t cs = some x → cellTs P stop m t = some ts →
    (∀ k ∈ x.1.weights P t, k ≤ reachBytes) → ∃ ds, HasTs (envOf P stop) ts ds ∧ CRs (knAll W) mu0 [] ds cs := by
  intro n
  induction n using Nat.strongRecOn with
  | ind n ih =>
    intro m t cs x ts h hts hwt
    cases m with
    | zero => simp [cellTs] at hts
    | succ m =>
      simp only [cellTs] at hts
      split at hts
      · rename_i hu
        cases hts
        obtain ⟨b, rfl, _⟩ := DataW.trod_bool hu h
        exact ⟨[.b b], .cons (.b b) .nil, CRs.one (.b ..) rfl⟩
      · rename_i k hu
        cases hts
        obtain ⟨q, rfl, _, hw⟩ := DataW.trod_int hu h
        exact ⟨[.i k q], .cons (.i k q (by simpa [Lit.wf] using hw)) .nil, CRs.one (.i ..) rfl⟩
      · rename_i hu
        cases hts
        obtain ⟨s, rfl, rfl, hs⟩ := DataW.trod_string hu h
        refine ⟨[.s s.data.toList], .cons (.s _ (hwt _ (by simp [DataW.weights]))) .nil, CRs.one ?_ rfl⟩
        have : VR (knAll W) mu0 [] (.s s.data.toList) (.string ⟨s.data.toList.toArray⟩) := .s ..
        simpa using this
      · rename_i e hu
        split at hts
        · rename_i hc
          cases hts
          simp only [stopOk, List.all_eq_true] at hst
          have := hst e (by simpa using hc)
          split at this
          · rename_i te hte
            obtain ⟨hw, hpos⟩ := of_decide_eq_true this
            obtain ⟨v, rfl, h1, hv⟩ := read_slice (stop := stop) hu hw hpos (fun n' hn' cs x hx hw' => ih n' hn' 16 e cs x te hx hte hw') h hwt
            rcases hv with hv | hv | ⟨rows, g1, g2, hv⟩
            · exact ⟨[.nil], .cons (.rnil _ _) .nil, CRs.one hv h1⟩
            · exact ⟨[.z], .cons (.rz _ _) .nil, CRs.one hv h1⟩
            · exact ⟨[.im te.length rows], .cons (.rc _ _ _ hte _ g1 g2) .nil, CRs.one hv h1⟩
          · cases this
        · split at hts
          · rename_i te hte
            split at hts
            · rename_i hwp
              obtain ⟨hw, hpos⟩ := hwp
              cases hts
              obtain ⟨v, rfl, h1, hv⟩ := read_slice (stop := stop) hu hw hpos (fun n' hn' cs x hx hw' => ih n' hn' m e cs x te hx hte hw') h hwt
              rcases hv with hv | hv | ⟨rows, g1, g2, hv⟩
              · exact ⟨[.nil], .cons (.nil _ _) .nil, CRs.one hv h1⟩
              · exact ⟨[.z], .cons (.z _ _) .nil, CRs.one hv h1⟩
              · exact ⟨[.im te.length rows], .cons (.sl _ _ _ g1 g2) .nil, CRs.one hv h1⟩
            · cases hts
          · cases hts
      · rename_i fs hu
        split at hts
        · rename_i tf htf
          split at hts
          · rename_i hsz
            cases hts
            obtain ⟨xs, n', hnn, hx, hcl, hxl, hfld⟩ := DataW.trod_struct hu h
            have : ∀ (l : List Field) (pre : List Field) (off : Nat) (tl : List T), fs.toList = pre ++ l → fieldT P (cellTs P stop m) off l = some tl → off + tl.length ≤ cs.length → ∃ ds, HasTs (envOf P stop) tl ds ∧ CRs (knAll W) mu0 [] ds ((cs.drop off).take tl.length) := by
              intro l
              induction l with
              | nil =>
                intro pre off tl _ htl _
                have : tl = [] := by simp [fieldT] at htl; exact htl
                subst this
                exact ⟨[], .nil, ⟨by simp, fun j d v e => by simp at e⟩, fun v hv => by simp at hv⟩
              | cons f l ihl =>
                intro pre off tl hpre htl hbd
                simp only [fieldT] at htl
                split at htl
                · rename_i hoff
                  split at htl
                  · rename_i ta hta
                    split at htl
                    · rename_i hsa
                      split at htl
                      · rename_i tb htb
                        cases htl
                        simp only [List.length_append] at hbd
                        have hf := hfld pre.length f (by rw [← Array.getElem?_toList, hpre]; simp)
                        have hi : pre.length < xs.length := by
                          rw [hxl, ← Array.length_toList, hpre]; simp
                        rw [List.getElem?_eq_getElem hi, hoff, hsa] at hf
                        obtain ⟨d1, g1, g2⟩ := ih n' (by omega) m f.type _ _ ta hf hta (fun k hk => hwt k (by
                          rw [hx]
                          simp only [DataW.weights, hu]
                          exact DataW.weights_mem_each (j := pre.length) (by rw [hpre]; simp) (by simp [List.getElem?_eq_getElem hi]) k hk))
                        obtain ⟨d2, g3, g4⟩ := ihl (pre ++ [f]) (off + ta.length) tb (by rw [hpre]; simp) htb (by omega)
                        refine ⟨d1 ++ d2, g1.append g3, ?_⟩
                        have : (cs.drop off).take (ta ++ tb).length = (cs.drop off).take ta.length ++ (cs.drop (off + ta.length)).take tb.length := by
                          rw [List.length_append, List.take_add, List.drop_drop]
                        rw [this]
                        exact g2.app g4
                      · cases htl
                    · cases htl
                  · cases htl
                · cases htl
            obtain ⟨ds, g1, g2⟩ := this fs.toList [] 0 ts rfl htf (by omega)
            refine ⟨ds, g1, ?_⟩
            rwa [List.drop_zero, List.take_of_length_le (by omega)] at g2
          · cases hts
        · cases hts
      · cases hts
def paramT (P : Program) (stop : List TypeId) (t : TypeId) : Option (Bool × List T) :=
  match P.underlying t with
  | some (.struct _) => (cellTs P stop 16 t).map fun ts => (true, ts)
  | some .bool | some (.int _) | some .string | some (.slice _) => (cellTs P stop 16 t).map fun ts => (false, ts)
  | _ => none
inductive HasP (env : Tenv) : Bool × List T → D → Prop
  | ag (ts : List T) (ds : List D) (h : HasTs env ts ds) : HasP env (true, ts) (.ag ds)
  | one (ts : List T) (d : D) (h : HasTs env ts [d]) : HasP env (false, ts) d
theorem read_param {stop : List TypeId} (hst : stopOk P stop = true) {t : TypeId} {p : Bool × List T} (hp : paramT P stop t = some p) {base : Nat} {v : Value} {d : DataW H} {ps : List MemPlace} (hval : Value.okWide P W .any base t v) (h : DataW.Trod enc P W 0 (fun _ => true) true t v d ps) (hwt : ∀ k ∈ d.weights P t, k ≤ reachBytes) :
    ∃ x, HasP (envOf P stop) p x ∧ VR (knAll W) mu0 [] x v := by
  obtain ⟨n, h⟩ := h
  unfold paramT at hp
  split at hp
  · rename_i fs hu
    simp only [Option.map_eq_some_iff] at hp
    obtain ⟨ts, hts, rfl⟩ := hp
    simp only [Value.okWide, hu] at hval
    obtain ⟨cs, rfl, _, _⟩ := hval
    obtain ⟨ds, g1, g2⟩ := read_cells hst n 16 t _ _ ts h hts hwt
    refine ⟨.ag ds, .ag ts ds g1, ?_⟩
    have : VR (knAll W) mu0 [] (.ag ds) (.agg cs.toList.toArray) := .ag _ _ _ _ g2.1.1 g2.2 g2.1.2
    simpa using this
  all_goals first
    | (cases hp; done)
    | (rename_i hu
       simp only [Option.map_eq_some_iff] at hp
       obtain ⟨ts, hts, rfl⟩ := hp
       obtain ⟨ds, g1, g2⟩ := read_cells hst n 16 t _ _ ts h hts hwt
       have hone : v.cells.toList = [v] := by
         cases v <;> first | rfl | (simp [Value.okWide, hu, Cell.okWide, Cell.ok] at hval)
       rw [hone] at g2
       have hl := g2.1.1
       match ds, hl, g1, g2 with
       | [d], _, g1, g2 => exact ⟨d, .one ts d g1, g2.1.2 0 d v rfl rfl⟩)
def paramsT (P : Program) (stop : List TypeId) : List TypeId → Option (List (Bool × List T))
  | [] => some []
  | t :: ts => match paramT P stop t, paramsT P stop ts with
    | some p, some ps => some (p :: ps)
    | _, _ => none
inductive HasPs (env : Tenv) : List (Bool × List T) → List D → Prop
  | nil : HasPs env [] []
  | cons {p : Bool × List T} {ps : List (Bool × List T)} {d : D} {ds : List D} (h : HasP env p d) (hs : HasPs env ps ds) : HasPs env (p :: ps) (d :: ds)
theorem read_params {stop : List TypeId} (hst : stopOk P stop = true) : ∀ {ts : List TypeId} {ps : List (Bool × List T)} (_ : paramsT P stop ts = some ps) {base : Nat} {vs : List Value} {ds : List (DataW H)} {pl : List MemPlace} (_ : ∀ (j : Nat) t v, ts[j]? = some t → vs[j]? = some v → Value.okWide P W .any base t v)
    (_ : DataW.TrodAll enc P W 0 (fun _ => true) true ts vs ds pl) (_ : ∀ k ∈ DataW.weightsEach P ts ds, k ≤ reachBytes), ∃ xs, HasPs (envOf P stop) ps xs ∧ VRs (knAll W) mu0 [] xs vs
  | [], ps, hp, base, vs, ds, pl, hval, h, _ => by
    cases hp
    obtain ⟨rfl, rfl, rfl⟩ := trodAll_nil h
    exact ⟨[], .nil, rfl, fun j d v e => by simp at e⟩
  | t :: ts, ps, hp, base, vs, ds, pl, hval, h, hwt => by
    simp only [paramsT] at hp
    split at hp
    · rename_i p ps' h1 h2
      cases hp
      obtain ⟨v, vs, d, ds, p0, q0, rfl, rfl, rfl, g1, g2⟩ := trodAll_cons h
      simp only [DataW.weightsEach, List.mem_append] at hwt
      obtain ⟨x, e1, e2⟩ := read_param hst h1 (hval 0 t v rfl rfl) g1 (fun k hk => hwt k (.inl hk))
      obtain ⟨xs, e3, e4⟩ := read_params hst h2 (fun j t' v' a b => hval (j + 1) t' v' (by simpa using a) (by simpa using b)) g2 (fun k hk => hwt k (.inr hk))
      refine ⟨x :: xs, .cons e1 e3, by simp [e4.1], fun j d' v' a b => ?_⟩
      cases j with
      | zero => cases a; cases b; exact e2
      | succ j => exact e4.2 j d' v' (by simpa using a) (by simpa using b)
    · cases hp
theorem stays_all (hl : laidOutB P = true) {W' : World} (hb : Below W.heap.size W W') {sp : Nat → Bool} : ∀ {ts : List TypeId} {vs : List Value} {ds : List (DataW H)} {pl : List MemPlace}, (∀ t ∈ ts, P.readableRec t = true ∧ t < P.types.size) →
    DataW.TrodAll enc P W 0 (fun _ => true) true ts vs ds pl → (∀ x ∈ pl, x.block < W.heap.size) → (∀ x ∈ pl, sp x.block = true) → DataW.TrodAll enc P W' 0 sp true ts vs ds pl
  | [], vs, ds, pl, _, h, _, _ => by
    obtain ⟨rfl, rfl, rfl⟩ := trodAll_nil h
    rfl
  | t :: ts, vs, ds, pl, hts, h, hlt, hsp => by
    obtain ⟨v, vs, d, ds, p0, q0, rfl, rfl, rfl, g1, g2⟩ := trodAll_cons h
    obtain ⟨h1, h2⟩ := hts t List.mem_cons_self
    exact ⟨p0, q0, WideElems.Trod_stays hl h1 h2 g1 (fun x hx => hb.same (hlt x (List.mem_append_left _ hx))) (fun x hx => hsp x (List.mem_append_left _ hx)),
      stays_all hl hb (fun t' ht' => hts t' (List.mem_cons_of_mem _ ht')) g2 (fun x hx => hlt x (List.mem_append_right _ hx)) (fun x hx => hsp x (List.mem_append_right _ hx)), rfl⟩
end
open Go.ChangeShapes Go.RowKit
section
variable {H : Type} {enc : TypeId × Value → H} {P : Program}
theorem Nx.below {K : Kn} {W : World} {K' : Kn} {μ' : Mu} {H' : Heap} {W' : World} (nx : Nx K mu0 [] W K' μ' H' W') : Below W.heap.size W W' :=
  ⟨nx.os, nx.tape, nx.output, nx.size, fun k hk => nx.keep k hk (fun ⟨id, l, b, e, _⟩ => by cases e)⟩
theorem law_post {f : Func} {s : ChangeSpec} {apart fresh handsOn again : Bool} {W W' : World} {args : Array Value} {ds gs : List (DataW H)} {before : List MemPlace} {bt : TypeId}
    (hW : DataW.Whole enc P f.params.toList s.vars apart W args.toList ds gs before) (hv : s.vars = []) (hb : Below W.heap.size W W') (hl : laidOutB P = true)
    (hts : ∀ t ∈ f.params.toList, P.readableRec t = true ∧ t < P.types.size) (hres : f.resultTypes = #[bt]) (hbt : P.underlying bt = some .bool)
    (h1 : (s.fn H (ds ++ gs)).results = [.lit (.bool true)]) (h2 : (s.fn H (ds ++ gs)).args = ds) (h3 : (s.fn H (ds ++ gs)).vars = []) :
    s.post enc P f apart fresh handsOn again W args (.bool true) W' := by
  have hlt := hW.lt
  obtain ⟨p, q, hA, hV, rfl, hfz, hnd⟩ := hW
  rw [hv] at hV
  have hV0 : gs = [] ∧ q = [] := by
    cases gs with
    | nil => exact ⟨rfl, hV⟩
    | cons g gs => exact hV.elim
  obtain ⟨rfl, rfl⟩ := hV0
  simp only [List.append_nil] at hlt hfz hnd h1 h2 h3 ⊢
  have hr : ∀ (b : Nat) (sp : Nat → Bool) (hd : Bool), DataW.TrodAll enc P W' b sp hd f.resultTypes.toList ((Value.bool true).resultList f.resultTypes.size) [.lit (.bool true)] [] := fun b sp hd => by
    rw [hres]
    exact ⟨[], [], shut_bool hbt true, rfl, rfl⟩
  refine ⟨ds, [], p, [], p, [], ⟨p, [], hA, by rw [hv]; rfl, by simp, hfz, hnd⟩, ?_, ?_, ?_, hb.frame _, fun _ => ⟨ok_one hres rfl (okWide_bool_mk hbt true), [.lit (.bool true)] ++ ds, [], p, ⟨[] ++ p, [], ?_, by rw [hv]; rfl, by simp, ?_, ?_⟩, fun x hx _ => hx⟩⟩
  · simp only [List.append_nil]; rw [h1]; exact hr _ _ _
  · simp only [List.append_nil]; rw [h2]
    exact stays_all hl hb hts hA hlt (fun x hx => by simpa using hlt x hx)
  · simp only [List.append_nil]; rw [hv, h3]; rfl
  · exact trodAll_append (stays_all hl hb hts hA hlt (fun _ _ => rfl)) (hr _ _ _)
  · intro b off hp
    rw [hb.frozen (p := ⟨b, off, none⟩) (hlt _ hp)]
    exact hfz b off hp
  · intro ha
    simpa using hnd ha
theorem law_contract {V : VProg} {Lk : Kn → World → Prop} {stop : List TypeId} (hst : stopOk P stop = true) (hm : P.follows .mixedOrders = true) (vok : VOK P V Lk) (hl : laidOutB P = true) {f : FuncId} {fn : Func} {s : ChangeSpec} {apart fresh handsOn again : Bool} {bt : TypeId} {pts : List (Bool × List T)}
    (hts : ∀ t ∈ fn.params.toList, P.readableRec t = true ∧ t < P.types.size) (hps : paramsT P stop fn.params.toList = some pts) (hres : fn.resultTypes = #[bt]) (hbt : P.underlying bt = some .bool) (hv : s.vars = [])
    (law : ∀ xs, HasPs (envOf P stop) pts xs → ∃ n, pcall V n f xs = .ret (.b true)) {W : World} {base : Nat} {args : Array Value} {ds gs : List (DataW H)} {before : List MemPlace} (hT : Lk (knAll W) W)
    (hval : ∀ (j : Nat) t v, fn.params[j]? = some t → args[j]? = some v → Value.okWide P W .any base t v) (hW : DataW.Whole enc P fn.params.toList s.vars apart W args.toList ds gs before)
    (hwt : (DataW.weightsEach P (fn.params.toList ++ s.plain.varTypes P) (ds ++ gs)).all (· ≤ reachBytes) = true) (h1 : (s.fn H (ds ++ gs)).results = [.lit (.bool true)]) (h2 : (s.fn H (ds ++ gs)).args = ds) (h3 : (s.fn H (ds ++ gs)).vars = []) :
    Calls P f args W fun e W' => ∃ v, e = .returned v ∧ s.post enc P fn apart fresh handsOn again W args v W' := by
  have hW' := hW
  obtain ⟨p, q, hA, hV, _⟩ := hW
  have hgs : gs = [] := by
    rw [hv] at hV
    cases gs with
    | nil => rfl
    | cons g gs => exact hV.elim
  have hwt' : ∀ k ∈ DataW.weightsEach P fn.params.toList ds, k ≤ reachBytes := fun k hk => by
    have hvt : s.plain.varTypes P = [] := by
      have : s.plain.vars = [] := hv
      unfold DataSpec.varTypes; rw [this]; rfl
    rw [hvt, hgs, List.append_nil, List.append_nil] at hwt
    simpa using List.all_eq_true.1 hwt k hk
  obtain ⟨xs, g1, g2⟩ := read_params hst hps (fun j t v a b => hval j t v (by rw [← Array.getElem?_toList]; exact a) (by rw [← Array.getElem?_toList]; exact b)) hA hwt'
  obtain ⟨n, hn⟩ := law xs g1
  obtain ⟨own, this⟩ := pcall_sim hm vok hn hT (hr_all W) g2
  rw [Array.toArray_toList] at this
  refine this.mono (fun e W' he => ?_)
  cases e with
  | returned v =>
    obtain ⟨K', μ', H', d0, hr0, nx, hv0, hset⟩ := he
    have hvt : v = .bool true := by
      cases own with
      | true =>
        simp only [settleO] at hset
        split at hset
        · have hd : d0 = .b true := by
            cases d0 <;> simp only [settle, settle1, settleC, Option.map_eq_some_iff] at hset
            all_goals first
              | (cases hset; rfl)
              | (cases hset; done)
              | (obtain ⟨_, _, hset⟩ := hset; cases hset; done)
              | (repeat' split at hset) <;> first | (cases hset; done) | (simp_all; done)
          subst hd
          cases hv0
          rfl
        · cases hset
      | false =>
        obtain ⟨_, _, _, _, h3⟩ := frzR_sound hset hr0 hv0
        cases h3
        rfl
    subst hvt
    exact ⟨_, rfl, law_post hW' hv nx.below hl hts hres hbt h1 h2 h3⟩
  | _ => exact he.elim
end
end Go.Dm
