/-
  Numbers by their digits;slices;the machine with what is shown beside it.
-/
import Derived.Test.YtgefdialaemelaaGreatDoorDi
import Derived.Test.YtgefdialaemelaaGreatDoorV
import Derived.Lib.IndexMore
import Derived.KernelRfl
namespace Go.Dm
def ds (B n:Nat):List Nat:=if h:n=0 \/ B<2 then[]else n%B::ds B (n/B)
termination_by n
decreasing_by exact Nat.div_lt_self (by omega) (by omega)
def vl (B:Nat):List Nat -> Nat
 | []=>0
 | a::l=>a+B*vl B l
def lm (B:Nat) (l:List Nat):Prop := ∀ a∈l,a<B
def tp (l:List Nat):Prop:=l≠[] -> l[l.length-1]! ≠ 0
section
variable {B:Nat}
theorem ds_zero:ds B 0=[]:=by rw[ds,dif_pos (.inl rfl)]
theorem ds_step {n:Nat} (hB:2 <= B) (h:n≠0):ds B n=n%B::ds B (n/B):=by rw[ds,dif_neg (by omega)]
theorem vl_ds (hB:2 <= B) (n:Nat):vl B (ds B n)=n:=by
 induction n using Nat.strongRecOn with
 | ind n ih =>
  by_cases h:n=0
  ·rw[h,ds_zero];rfl
  ·rw[ds_step hB h,vl,ih _ (Nat.div_lt_self (by omega) (by omega))]
   exact Nat.mod_add_div n B
theorem lm_nil:lm B []:=fun _ h=>by cases h
theorem lm_cons {a:Nat} {l:List Nat}:lm B (a::l)↔a<B /\ lm B l:=List.forall_mem_cons
theorem lm_ds (hB:2 <= B) (n:Nat):lm B (ds B n):=by
 induction n using Nat.strongRecOn with
 | ind n ih =>
  by_cases h:n=0
  ·rw[h,ds_zero];exact lm_nil
  ·rw[ds_step hB h,lm_cons]
   exact⟨Nat.mod_lt _ (by omega),ih _ (Nat.div_lt_self (by omega) (by omega))⟩
theorem lm_app {l m:List Nat}:lm B (l++m)↔lm B l /\ lm B m:=List.forall_mem_append
theorem lm_take {l:List Nat} (h:lm B l) (i:Nat):lm B (l.take i):=fun a ha=>h a (List.mem_of_mem_take ha)
theorem lm_drop {l:List Nat} (h:lm B l) (i:Nat):lm B (l.drop i):=fun a ha=>h a (List.mem_of_mem_drop ha)
theorem lm_set {l:List Nat} (h:lm B l) {i v:Nat} (hv:v<B):lm B (l.set i v):=fun a ha=>by
 rcases List.mem_or_eq_of_mem_set ha with h1|h1
 ·exact h a h1
 ·omega
theorem lm_get {l:List Nat} (h:lm B l) {i:Nat} (hi:i<l.length):l[i]! < B:=by
 rw[getElem!_pos l i hi];exact h _ (List.getElem_mem hi)
theorem lm_rep {k v:Nat} (hv:v<B):lm B (List.replicate k v):=fun a ha=>by rw[(List.mem_replicate.1 ha).2];exact hv
theorem vl_lt (hB:2 <= B) : ∀ {l:List Nat},lm B l -> vl B l<B ^ l.length
 | [],_=>by simp[vl]
 | a::l,h=>by
  have h1:=lm_cons.1 h
  have ih:=vl_lt hB h1.2
  rw[vl,List.length_cons,Nat.pow_succ]
  have:B*(vl B l+1) <= B*B ^ l.length:=Nat.mul_le_mul_left _ ih
  grind
theorem vl_app {l m:List Nat}:vl B (l++m)=vl B l+B ^ l.length*vl B m:=by
 induction l with
 | nil=>simp[vl]
 | cons a l ih=>rw[List.cons_append,vl,ih,vl,List.length_cons,Nat.pow_succ];grind
theorem vl_rep (k:Nat):vl B (List.replicate k 0)=0:=by
 induction k with
 | zero=>rfl
 | succ k ih=>rw[List.replicate_succ,vl,ih];omega
theorem vl_split (l:List Nat) (i:Nat) (hi:i <= l.length):vl B l=vl B (l.take i)+B ^ i*vl B (l.drop i):=by
 have:=vl_app (B:=B) (l:=l.take i) (m:=l.drop i)
 rw[List.take_append_drop,List.length_take,Nat.min_eq_left hi]at this
 exact this
theorem drop_get {l:List Nat} {i:Nat} (hi:i<l.length):l.drop i=l[i]! :: l.drop (i+1):=by
 rw[List.drop_eq_getElem_cons hi,getElem!_pos l i hi]
theorem vl_take_succ {l:List Nat} {i:Nat} (hi:i<l.length):vl B (l.take (i+1))=vl B (l.take i)+B ^ i*l[i]! := by
 rw[List.take_succ_eq_append_getElem hi,vl_app,List.length_take,Nat.min_eq_left (by omega),getElem!_pos l i hi]
 simp[vl]
theorem vl_drop {l:List Nat} {i:Nat} (hi:i<l.length):vl B (l.drop i)=l[i]! + B*vl B (l.drop (i+1)):=by
 rw[drop_get hi,vl]
theorem vl_set {l:List Nat} {i v:Nat} (hi:i<l.length):vl B (l.set i v)+B ^ i*l[i]! = vl B l+B ^ i*v:=by
 have h1:l.set i v=l.take i++v::l.drop (i+1):=by rw[List.set_eq_take_append_cons_drop,if_pos hi]
 have h2:l=l.take i++l[i]! :: l.drop (i+1):=by rw[<- drop_get hi,List.take_append_drop]
 have e1:vl B (l.set i v)=vl B (l.take i)+B ^ i*(v+B*vl B (l.drop (i+1))):=by
  rw[h1,vl_app,List.length_take,Nat.min_eq_left (by omega),vl]
 have e2:vl B l=vl B (l.take i)+B ^ i*(l[i]! + B*vl B (l.drop (i+1))):=by
  rw[vl_split l i (by omega),vl_drop hi]
 grind
theorem vl_dig (hB:2 <= B) {l:List Nat} {k c:Nat} (h:vl B l<B ^ k*c) (hk:k<l.length):l[k]! < c:=by
 have h1:=vl_split (B:=B) l k (by omega)
 rw[vl_drop hk]at h1
 have hp:0<B ^ k:=Nat.pow_pos (by omega)
 have h2:B ^ k*l[k]! <= B ^ k*(l[k]! + B*vl B (l.drop (k+1))):=Nat.mul_le_mul_left _ (by omega)
 exact Nat.lt_of_mul_lt_mul_left (a:=B ^ k) (by omega)
theorem ds_vl (hB:2 <= B) : ∀ {l:List Nat},lm B l -> tp l -> ds B (vl B l)=l
 | [],_,_=>by rw[vl,ds_zero]
 | a :: l,h,ht=>by
  have h1:=lm_cons.1 h
  have ht':tp l:=fun hl=>by
   have:=ht (by simp)
   cases l with
   | nil=>exact absurd rfl hl
   | cons b l=>simpa using this
  have ih:=ds_vl hB h1.2 ht'
  have hn:vl B (a::l)≠0:=by
   rw[vl]
   cases l with
   | nil=>have:=ht (by simp);simpa [vl]using this
   | cons b l =>
    intro e
    have hz:vl B (b::l)=0:=by
     rcases Nat.eq_zero_or_pos (vl B (b::l))with e1|e1
     ·exact e1
     ·have:=Nat.mul_le_mul (show 2 <= B from hB) e1;omega
    rw[hz,ds_zero]at ih;cases ih
  rw[ds_step hB hn,vl,Nat.add_mul_mod_self_left,Nat.mod_eq_of_lt h1.1,Nat.add_mul_div_left _ _ (by omega),Nat.div_eq_of_lt h1.1,Nat.zero_add,ih]
theorem ds_ne {n:Nat} (hB:2 <= B) (h:n≠0):ds B n≠[]:=by rw[ds_step hB h];simp
theorem tp_ds (hB:2 <= B) (n:Nat):tp (ds B n):=by
 induction n using Nat.strongRecOn with
 | ind n ih =>
  by_cases h:n=0
  ·rw[h,ds_zero];exact fun h=>absurd rfl h
  ·rw [ds_step hB h]
   intro _
   by_cases h2:n/B=0
   ·rw [h2,ds_zero]
    have:n<B:=by
     rcases Nat.lt_or_ge n B with h3|h3
     ·exact h3
     ·have:=Nat.div_pos h3 (by omega);omega
    simpa [Nat.mod_eq_of_lt this]using h
   ·have h3:=ih (n/B) (Nat.div_lt_self (by omega) (by omega)) (ds_ne hB h2)
    cases hd:ds B (n/B)with
    | nil=>exact absurd hd (ds_ne hB h2)
    | cons a l=>rw[hd]at h3;simpa using h3
theorem ds_len (hB:2 <= B) {n k:Nat}:(ds B n).length <= k↔n<B ^ k:=by
 constructor
 ·intro h
  have:=vl_lt hB (lm_ds hB n)
  rw[vl_ds hB]at this
  exact Nat.lt_of_lt_of_le this (Nat.pow_le_pow_right (by omega) h)
 ·intro h
  rcases Nat.lt_or_ge k (ds B n).length with h1|h1
  ·have h2:=tp_ds hB n (fun e=>by rw[e]at h1;simp at h1)
   have h3:=vl_ds hB n
   have h4:=vl_split (B:=B) (ds B n) ((ds B n).length-1) (by omega)
   rw[h3,vl_drop (by omega)]at h4
   have h5:B ^ k <= B ^ ((ds B n).length-1):=Nat.pow_le_pow_right (by omega) (by omega)
   have h6:B ^ ((ds B n).length-1)*1 <= B ^ ((ds B n).length-1)*((ds B n)[(ds B n).length-1]! + B*vl B ((ds B n).drop ((ds B n).length-1+1))):=Nat.mul_le_mul_left _ (by omega)
   omega
  ·exact h1
theorem ds_mono (hB:2 <= B) {m n:Nat} (h:m <= n):(ds B m).length <= (ds B n).length:=(ds_len hB).2 (Nat.lt_of_le_of_lt h ((ds_len hB).1 (Nat.le_refl _)))
theorem ds_inj (hB:2 <= B) {m n:Nat} (h:ds B m=ds B n):m=n:=by rw[<- vl_ds hB m,h,vl_ds hB]
theorem ds_drop (hB:2 <= B) {l:List Nat} {k:Nat} (h:lm B l) (hk:k <= l.length) (hz:vl B (l.drop k)=0) (ht:tp (l.take k)):ds B (vl B l)=l.take k:=by
 have:=vl_split (B:=B) l k hk
 rw[hz,Nat.mul_zero,Nat.add_zero]at this
 rw[this,ds_vl hB (lm_take h k) ht]
theorem vl_cmp (hB:2 <= B) {l m:List Nat} (hl:lm B l) {i:Nat} (hi:i<l.length) (hn:l.length=m.length) (hd:l.drop (i+1)=m.drop (i+1)) (h:l[i]! < m[i]!):vl B l<vl B m:=by
 have h1:=vl_split (B:=B) l i (by omega)
 have h2:=vl_split (B:=B) m i (by omega)
 rw[vl_drop hi]at h1
 rw[vl_drop (by omega), <- hd]at h2
 have h3:vl B (l.take i)<B ^ i:=by
  have:=vl_lt hB (lm_take hl i)
  rwa [List.length_take,Nat.min_eq_left (by omega)]at this
 have h4:B ^ i*(l[i]! + 1) <= B ^ i*m[i]! := Nat.mul_le_mul_left _ h
 grind
end
theorem vl_all0 {B:Nat} : ∀ {l:List Nat},(∀ a∈l,a=0) -> vl B l=0
 | [],_=>rfl
 | a::l,h=>by rw[vl,h a List.mem_cons_self,vl_all0 (l:=l) (fun b hb=>h b (List.mem_cons_of_mem _ hb))];omega
theorem vl_drop0 {B c:Nat} {l:List Nat} (h : ∀ k,c <= k -> k<l.length -> l[k]! = 0):vl B (l.drop c)=0:=vl_all0 fun a ha=>by
 obtain⟨i,hi,rfl⟩:=List.mem_iff_getElem.1 ha
 rw[List.length_drop]at hi
 rw[List.getElem_drop, <- getElem!_pos l (c+i) (by omega)]
 exact h _ (by omega) (by omega)
def u32 (a:Nat):List D:=[.i .u32 (a:Int)]
def u16 (a:Nat):List D:=[.i .u16 (a:Int)]
structure W32 (n:Nat) (x:D):Prop where
 sl:Sl 1 ((ds 4294967296 n).map u32) x
structure W16 (n:Nat) (x:D):Prop where
 sl:Sl 1 ((ds 65536 n).map u16) x
theorem h32:2 <= 4294967296:=by omega
theorem h16:2 <= 65536:=by omega
def slC (d:D) (lo hi:Nat):D :=
 match d with
 | .im w rows => .im w ((rows.drop lo).take (hi-lo))
 | d=>d
theorem Sl.slC {w:Nat} {rows:List (List D)} {d:D} (h:Sl w rows d) (lo hi:Nat):Sl w ((rows.drop lo).take (hi-lo)) (slC d lo hi):=by
 cases h with
 | nil h=>subst h;exact .nil (by simp)
 | z h=>subst h;exact .z (by simp)
 | im=>exact .im
theorem Sl.slM {α:Type} {enc:α -> List D} {l:List α} {w:Nat} {d:D} (h:Sl w (l.map enc) d) (lo hi:Nat):Sl w (((l.drop lo).take (hi-lo)).map enc) (Dm.slC d lo hi):=by
 have:=h.slC lo hi
 rwa [<- List.map_drop, <- List.map_take]at this
theorem Sl.slT {α:Type} {enc:α -> List D} {l:List α} {w:Nat} {d:D} (h:Sl w (l.map enc) d) (hi:Nat):Sl w ((l.take hi).map enc) (Dm.slC d 0 hi):=by
 have:=h.slM 0 hi
 rwa [List.drop_zero,Nat.sub_zero]at this
section
variable {V:VProg} {Q:Ex -> St -> Prop} {dr:Option (Bs×Bool)} {os:List VOper} {keep:Option Nat} {loc sl sl':List D} {H H':Heap} {w:Nat} {α:Type} {enc:α -> List D} {l:List α} {d:D} {k k':IntKind} {x y:Int}
theorem Sl.sD (h:Sl w (l.map enc) d) {lo hi:Option D} {a b:Nat} (hb:bounds lo hi l.length l.length=some (a,b)):sliceD H w d lo hi none=some (Dm.slC d a b):=by
 cases h with
 | nil h =>
  have:l=[]:=by simpa using h
  subst this
  simp only[List.length_nil]at hb
  simp only[sliceD,hb,Dm.slC]
 | z h =>
  have:l=[]:=by simpa using h
  subst this
  simp only[List.length_nil]at hb
  simp only[sliceD,hb,Dm.slC]
 | im =>
  simp only[sliceD,List.length_map,hb,decide_true,Dm.slC]
theorem Sl.sN (h:Sl w (l.map enc) d) {lo hi:Option D} (hb:bounds lo hi l.length l.length=none):sliceD H w d lo hi none=none:=by
 cases h with
 | nil h =>
  have:l=[]:=by simpa using h
  subst this
  simp only[List.length_nil]at hb
  simp only[sliceD,hb]
 | z h =>
  have:l=[]:=by simpa using h
  subst this
  simp only[List.length_nil]at hb
  simp only[sliceD,hb]
 | im =>
  simp only[sliceD,List.length_map,hb,decide_true]
theorem Sl.hi (h:Sl w (l.map enc) d):AfterQ V dr os keep loc sl Q (ofO ⟨sl',H⟩ (sliceD H' w d none (some (.i k x)) none))↔(0 <= x /\ x <= l.length) /\ AfterQ V dr os keep loc sl Q (.v (Dm.slC d 0 x.toNat) ⟨sl',H⟩):=by
 by_cases hx:0 <= x /\ x <= l.length
 ·rw[h.sD (a:=0) (b:=x.toNat) (by simp[bounds,bound,bdOf,hx])]
  simp only[hx,and_self,true_and,ofO]
 ·rw[h.sN (by simp[bounds,bound,bdOf,hx])]
  simp only[hx,false_and,ofO,AfterQ]
end
@[go_sem] theorem bne_tf:(true != false)=true:=rfl
@[go_sem] theorem bne_ff:(false != false)=false:=rfl
@[go_sem] theorem bne_tt:(true != true)=false:=rfl
@[go_sem] theorem bne_ft:(false != true)=true:=rfl
@[go_sem] theorem beq_tf:(true==false)=false:=rfl
@[go_sem] theorem beq_ff:(false==false)=true:=rfl
@[go_sem] theorem beq_tt:(true==true)=true:=rfl
@[go_sem] theorem beq_ft:(false==true)=false:=rfl
@[go_sem] theorem apart_one {a:Nat}:apart [a]=true:=rfl
@[go_sem] theorem one_zero:oneOr [] = .tu []:=rfl
def sliM (a n off len w:Nat) (lo hi:Option D):Option (Nat×List (List D)×Option Nat×Bool×Bool) -> Option D
 | some (w',_,_,_,_)=>match decide (w'=w),bounds lo hi len (n-off)with
   | true,some (k,h)=>some (.mu a n (off+k) (h-k))
   | _,_=>none
 | none=>none
@[go_sem] theorem sl_mu {H:Heap} {w a n off len:Nat} {lo hi:Option D}:sliceD H w (.mu a n off len) lo hi none=sliM a n off len w lo hi (arr H a n):=by
 simp only[sliceD,sliM]
 cases arr H a n with
 | none=>rfl
 | some q=>rfl
section
variable {V:VProg} {Q:Ex -> St -> Prop} {dr:Option (Bs×Bool)} {os:List VOper} {keep:Option Nat} {loc sl sl':List D} {H:Heap} {a n off len w:Nat} {k k':IntKind} {x y:Int} {rows:List (List D)} {cap:Option Nat} {p lk:Bool}
@[go_sem] theorem q_muhi:AfterQ V dr os keep loc sl Q (ofO ⟨sl',H⟩ (sliM a n off len w none (some (.i k x)) (some (w,rows,cap,p,lk))))↔(0 <= x /\ x <= (n-off:Nat)) /\ AfterQ V dr os keep loc sl Q (.v (.mu a n off x.toNat) ⟨sl',H⟩):=by
 by_cases hx:0 <= x /\ x <= (n-off:Nat)
 ·have e:bounds none (some (.i k x)) len (n-off)=some (0,x.toNat):=by simp only[bounds,bound,bdOf,hx,and_self,if_true]
  simp only[sliM,e,decide_true,hx,and_self,true_and,ofO,Nat.add_zero,Nat.sub_zero]
 ·have e:bounds none (some (.i k x)) len (n-off)=none:=by simp only[bounds,bound,bdOf,hx,if_false]
  simp only[sliM,e,decide_true,hx,false_and,ofO,AfterQ]
@[go_sem] theorem q_mulh:AfterQ V dr os keep loc sl Q (ofO ⟨sl',H⟩ (sliM a n off len w (some (.i k x)) (some (.i k' y)) (some (w,rows,cap,p,lk))))↔(0 <= x /\ x <= y /\ y <= (n-off:Nat)) /\ AfterQ V dr os keep loc sl Q (.v (.mu a n (off+x.toNat) (y.toNat-x.toNat)) ⟨sl',H⟩):=by
 by_cases hx:0 <= x /\ x <= y /\ y <= (n-off:Nat)
 ·have hy:0 <= y /\ y <= (n-off:Nat):=by omega
  have hz:0 <= x /\ x <= (y.toNat:Nat):=by omega
  have e:bounds (some (.i k x)) (some (.i k' y)) len (n-off)=some (x.toNat,y.toNat):=by simp only[bounds,bound,bdOf,hy,hz,and_self,if_true]
  simp only[sliM,e,decide_true,hx,and_self,true_and,ofO]
 ·have e:bounds (some (.i k x)) (some (.i k' y)) len (n-off)=none:=by
   by_cases hy:0 <= y /\ y <= (n-off:Nat)
   ·have hz : ¬ (0 <= x /\ x <= (y.toNat:Nat)):=by omega
    simp only[bounds,bound,bdOf,hy,and_self,if_true,hz,if_false]
   ·simp only[bounds,bound,bdOf,hy,if_false]
  simp only[sliM,e,decide_true,hx,false_and,ofO,AfterQ]
end
def iarA (a n w:Nat) (ix:D):Option Blk -> Option D
 | some (.ar w' rows (some _) _ _)=>match ixOf ix n with
   | some j=>if w'=w /\ rows.length=n then some (.ap a n j 0)else none
   | none=>none
 | _=>none
@[go_sem] theorem iar_aa {H:Heap} {a n w:Nat} {ix:D}:iarD H (.aa a) ix n w=iarA a n w ix H[a]?:=by
 simp only[iarD]
 cases hq:ixOf ix n<;>cases h:H[a]? with
 | none=>rfl
 | some b=>cases b with
  | ar w' rows cap p lk=>cases cap<;>simp[iarA,hq]
  | _=>rfl
def slaA (a n w:Nat) (lo hi:Option D):Option Blk -> Option D
 | some (.ar w' rows (some c) _ false)=>if w'=w /\ rows.length=n /\ c=n then
    match bounds lo hi n n with
    | some (k,h)=>some (.mu a n k (h-k))
    | none=>none
   else none
 | _=>none
@[go_sem] theorem sla_aa {H:Heap} {a n w:Nat} {lo hi:Option D}:sliceA H (.aa a) n w lo hi=slaA a n w lo hi H[a]?:=by
 simp only[sliceA,slaA]
 cases H[a]? with
 | none=>rfl
 | some b=>cases b with
  | ar w' rows cap p lk=>cases cap<;>cases lk<;>rfl
  | _=>rfl
section
variable {V:VProg} {Q:Ex -> St -> Prop} {dr:Option (Bs×Bool)} {os:List VOper} {keep:Option Nat} {loc sl sl':List D} {H:Heap} {a n w c:Nat} {k:IntKind} {x:Int} {rows:List (List D)} {p lk:Bool}
@[go_sem] theorem q_iarA:AfterQ V dr os keep loc sl Q (ofO ⟨sl',H⟩ (iarA a n w (.i k x) (some (.ar w rows (some c) p lk))))↔rows.length=n /\ (0 <= x /\ x<n) /\ AfterQ V dr os keep loc sl Q (.v (.ap a n x.toNat 0) ⟨sl',H⟩):=by
 by_cases hx:0 <= x /\ x<n
 ·by_cases hr:rows.length=n
  ·simp only[iarA,ixOf,hx,and_self,if_true,hr,true_and,ofO]
  ·simp only[iarA,ixOf,hx,and_self,if_true,hr,and_false,if_false,ofO,AfterQ,false_and]
 ·simp only[iarA,ixOf,hx,if_false,ofO,AfterQ,false_and,and_false]
@[go_sem] theorem q_slaA:AfterQ V dr os keep loc sl Q (ofO ⟨sl',H⟩ (slaA a n w none (some (.i k x)) (some (.ar w rows (some c) p false))))↔(rows.length=n /\ c=n) /\ (0 <= x /\ x <= n) /\ AfterQ V dr os keep loc sl Q (.v (.mu a n 0 x.toNat) ⟨sl',H⟩):=by
 by_cases hr:rows.length=n /\ c=n
 ·by_cases hx:0 <= x /\ x <= n
  ·have e:bounds none (some (.i k x)) n n=some (0,x.toNat):=by simp only[bounds,bound,bdOf,hx,and_self,if_true]
   simp only[slaA,hr,and_self,if_true,e,hx,true_and,ofO,Nat.sub_zero]
  ·have e:bounds none (some (.i k x)) n n=none:=by simp only[bounds,bound,bdOf,hx,if_false]
   simp only[slaA,hr,and_self,if_true,e,hx,ofO,AfterQ,false_and,and_false]
 ·simp only[slaA,hr,and_false,if_false,ofO,AfterQ,false_and]
end
section
variable {V:VProg} {f:FuncId} {args:List D}
theorem PurQ.ex {P:D -> Prop} (h:PurQ V f args (fun r => ∃ d,r = .ret d /\ P d)) : ∃ d,PRet V f args d /\ P d:=by
 obtain⟨n,h1,d,h2,h3⟩:=h
 exact⟨d,⟨n,h2⟩,h3⟩
theorem CallQ.fzr {vf:VFunc} (hf:V.fn f=some vf) (hp:vf.pure=true) (ho:vf.own=false) {H:Heap} {K:CR -> Prop} {ds:List D} {d:D} (h:PRet V f ds d) (hfr : ∃ H1,freezeL deep H args=some (ds,H1)) (hk : ∀ H',K (.ret d H')):CallQ V f args H K :=
 CallQ.fz hf hp ho hfr ((PRet.iff_q.1 h).mono (fun r hr=>by subst hr;exact hk))
end
end Go.Dm
namespace Go.Proofs.YtgefdialaemelaaGreatDoor.Dv
open Go.Dm
def clOk:List D -> Bool
 | .s _ :: .s _ :: .i .i64 _ :: .i .i64 _ :: .i .i64 _ :: .b _::r=>r.length==18
 | _=>false
def clN:List D -> List UInt8
 | .s n::_=>n
 | _=>[]
def clL:List D -> List UInt8
 | _ :: .s n::_=>n
 | _=>[]
def clF:List D -> Int
 | _::_ :: .i _ n::_=>n
 | _=>0
def clT:List D -> Int
 | _::_::_ :: .i _ n::_=>n
 | _=>0
def clK:List D -> Int
 | _::_::_::_ :: .i _ n::_=>n
 | _=>0
def clO:List D -> Bool
 | _::_::_::_::_ :: .b x::_=>x
 | _=>false
def clIn (name:List UInt8) (date known:Int) (r:List D):Bool:=clN r==name&&decide (clF r <= date)&&decide (date<clT r)&&decide (clK r <= known)
def lkL (l:List UInt8):List (List UInt8×Nat) -> Option Nat
 | []=>none
 | (k,i)::m=>if l=k then some i else lkL l m
def stL (l:List UInt8) (i:Nat):List (List UInt8×Nat) -> List (List UInt8×Nat)
 | []=>[(l,i)]
 | (k,j)::m=>if l=k then(l,i)::m else(k,j)::stL l i m
def cnt1 (rows:List (List D)) (name:List UInt8) (date known:Int) (m:List (List UInt8×Nat)) (i:Nat):List (List UInt8×Nat) :=
 if clIn name date known rows[i]! then
  match lkL (clL rows[i]!) m with
  | none=>stL (clL rows[i]!) i m
  | some j=>if clK rows[j]! <= clK rows[i]! then stL (clL rows[i]!) i m else m
 else m
def cntF (rows:List (List D)) (name:List UInt8) (date known:Int):Nat -> List (List UInt8×Nat)
 | 0=>[]
 | n+1=>cnt1 rows name date known (cntF rows name date known n) n
def insI (x:Int):List Int -> List Int
 | []=>[x]
 | y::l=>if x <= y then x::y::l else y::insI x l
def srtI:List Int -> List Int
 | []=>[]
 | x::l=>insI x (srtI l)
def iRow (x:Int):List D:=[.i .i64 x]
def inF (rows:List (List D)) (name:List UInt8) (date known:Int):List Int :=
 srtI (((cntF rows name date known rows.length).filter fun q => !clO rows[q.2]!).map fun q=>(q.2:Int))
def slOf (w:Nat) (rows:List (List D)):D:=match rows with
 | [] => .nil
 | r::rs => .im w (r::rs)
def inFD (rows:List (List D)) (name:List UInt8) (date known:Int):Option D :=
 if rows.all clOk=true /\ rows.length<1099511627776 then some (slOf 1 ((inF rows name date known).map iRow))else none
def smp:D -> Bool
 | .s _=>true
 | .nil=>true
 | .z=>true
 | .im _ _=>true
 | _=>false
def inFP:List D -> Option D
 | [.ag [x0,x1,x2,c],.s name,.i .i64 date,.i .i64 known]=>if smp x0&&smp x1&&smp x2 then match c with
   | .nil=>inFD [] name date known
   | .z=>inFD [] name date known
   | .im w rows=>if w=24 then inFD rows name date known else none
   | _=>none
  else none
 | _=>none
def intsOf:List (List D) -> Option (List Int)
 | []=>some []
 | [.i .i64 x]::r=>match intsOf r with
  | some l=>some (x::l)
  | none=>none
 | _=>none
def sortA (a n off len:Nat) (H:Heap):Option (D×Heap) :=
 match arr H a n with
 | some (1,rows,cap,p,false)=>if off=0 /\ len=n /\ 0<n /\ n<1099511627776 then
   match intsOf rows with
   | some l=>some (.tu [],H.set a (.ar 1 ((srtI l).map iRow) cap p false))
   | none=>none
  else none
 | _=>none
def dedI:List Int -> List Int
 | []=>[]
 | x::l=>match dedI l with
  | []=>[x]
  | y::r=>if x=y then y::r else x::y::r
def compA (a n off len:Nat) (H:Heap):Option (D×Heap) :=
 match arr H a n with
 | some (1,rows,cap,p,false)=>if off=0 /\ len=n /\ 0<n /\ n<1099511627776 then
   match intsOf rows with
   | some l=>some (.mu a n 0 (dedI l).length,H.set a (.ar 1 ((dedI l++List.replicate (n-(dedI l).length) 0).map iRow) cap p false))
   | none=>none
  else none
 | _=>none
def clipA (a n off len:Nat) (H:Heap):Option (D×Heap) :=
 match arr H a n with
 | some (11,rows,_,true,true)=>if off=0 /\ len=n /\ 0<n /\ n<70368744177664 then
   some (.mu H.length n 0 n,H++[.ar 11 rows (some n) true true])
  else none
 | _=>none
def cutMax:Nat:=1000000000
def cutD (s t:List UInt8) (H:Heap):Option (D×Heap) :=
 if s.length<cutMax then some (.tu [.s (Lib.cut s t).1,.s (Lib.cut s t).2.1,.b (Lib.cut s t).2.2],H)else none
def extE (f:FuncId) (args:List D) (H:Heap):Option (D×Heap) :=
 if f=195 then match args with
  | [.s s,.s t]=>cutD s t H
  | _=>none
 else if f=194 then match args with
  | [.nil]=>some (.tu [],H)
  | [.mu a n off len]=>sortA a n off len H
  | _=>none
 else if f=296 then match args with
  | [.nil]=>some (.nil,H)
  | [.mu a n off len]=>compA a n off len H
  | _=>none
 else if f=44 then match args with
  | [.mu a n off len]=>clipA a n off len H
  | _=>none
 else none
def V1:VProg:=Vx extE (fun _ _=>none)
def pextE (f:FuncId) (ds:List D):Option D:=if f=173 then inFP ds else none
def VS:VProg:=Vx extE pextE
open Go.Dm
theorem fn3:VS.fn 3=some v3:=by kernel_rfl
theorem fn4:VS.fn 4=some v4:=by kernel_rfl
theorem fn5:VS.fn 5=some v5:=by kernel_rfl
theorem fn6:VS.fn 6=some v6:=by kernel_rfl
theorem fn7:VS.fn 7=some v7:=by kernel_rfl
theorem fn8:VS.fn 8=some v8:=by kernel_rfl
theorem fn9:VS.fn 9=some v9:=by kernel_rfl
theorem fn10:VS.fn 10=some v10:=by kernel_rfl
theorem fn11:VS.fn 11=some v11:=by kernel_rfl
theorem fn12:VS.fn 12=some v12:=by kernel_rfl
theorem fn21:VS.fn 21=some v21:=by kernel_rfl
theorem fn22:VS.fn 22=some v22:=by kernel_rfl
theorem fn23:VS.fn 23=some v23:=by kernel_rfl
theorem fn24:VS.fn 24=some v24:=by kernel_rfl
theorem fn25:VS.fn 25=some v25:=by kernel_rfl
theorem fn26:VS.fn 26=some v26:=by kernel_rfl
theorem fn27:VS.fn 27=some v27:=by kernel_rfl
theorem fn28:VS.fn 28=some v28:=by kernel_rfl
theorem fn29:VS.fn 29=some v29:=by kernel_rfl
theorem fn30:VS.fn 30=some v30:=by kernel_rfl
theorem fn31:VS.fn 31=some v31:=by kernel_rfl
theorem fn32:VS.fn 32=some v32:=by kernel_rfl
theorem fn33:VS.fn 33=some v33:=by kernel_rfl
theorem fn34:VS.fn 34=some v34:=by kernel_rfl
theorem fn52:VS.fn 52=some v52:=by kernel_rfl
theorem fn53:VS.fn 53=some v53:=by kernel_rfl
theorem fn54:VS.fn 54=some v54:=by kernel_rfl
theorem fn55:VS.fn 55=some v55:=by kernel_rfl
theorem fn56:VS.fn 56=some v56:=by kernel_rfl
theorem fn57:VS.fn 57=some v57:=by kernel_rfl
theorem fn58:VS.fn 58=some v58:=by kernel_rfl
theorem fn59:VS.fn 59=some v59:=by kernel_rfl
theorem fn60:VS.fn 60=some v60:=by kernel_rfl
theorem fn61:VS.fn 61=some v61:=by kernel_rfl
theorem fn62:VS.fn 62=some v62:=by kernel_rfl
theorem fn63:VS.fn 63=some v63:=by kernel_rfl
theorem fn64:VS.fn 64=some v64:=by kernel_rfl
theorem fn65:VS.fn 65=some v65:=by kernel_rfl
theorem fn66:VS.fn 66=some v66:=by kernel_rfl
theorem fn67:VS.fn 67=some v67:=by kernel_rfl
theorem fn68:VS.fn 68=some v68:=by kernel_rfl
theorem fn69:VS.fn 69=some v69:=by kernel_rfl
theorem fn70:VS.fn 70=some v70:=by kernel_rfl
theorem fn71:VS.fn 71=some v71:=by kernel_rfl
theorem fn72:VS.fn 72=some v72:=by kernel_rfl
theorem fn98:VS.fn 98=some v98:=by kernel_rfl
theorem fn99:VS.fn 99=some v99:=by kernel_rfl
theorem fn100:VS.fn 100=some v100:=by kernel_rfl
theorem fn101:VS.fn 101=some v101:=by kernel_rfl
theorem fn102:VS.fn 102=some v102:=by kernel_rfl
theorem fn103:VS.fn 103=some v103:=by kernel_rfl
theorem fn104:VS.fn 104=some v104:=by kernel_rfl
theorem fn105:VS.fn 105=some v105:=by kernel_rfl
theorem fn106:VS.fn 106=some v106:=by kernel_rfl
theorem fn107:VS.fn 107=some v107:=by kernel_rfl
theorem fn128:VS.fn 128=some v128:=by kernel_rfl
theorem fn129:VS.fn 129=some v129:=by kernel_rfl
theorem fn130:VS.fn 130=some v130:=by kernel_rfl
theorem fn131:VS.fn 131=some v131:=by kernel_rfl
theorem fn132:VS.fn 132=some v132:=by kernel_rfl
theorem fn133:VS.fn 133=some v133:=by kernel_rfl
theorem fn134:VS.fn 134=some v134:=by kernel_rfl
theorem fn135:VS.fn 135=some v135:=by kernel_rfl
theorem fn136:VS.fn 136=some v136:=by kernel_rfl
theorem fn153:VS.fn 153=some v153:=by kernel_rfl
theorem fn154:VS.fn 154=some v154:=by kernel_rfl
theorem fn155:VS.fn 155=some v155:=by kernel_rfl
theorem fn156:VS.fn 156=some v156:=by kernel_rfl
theorem fn157:VS.fn 157=some v157:=by kernel_rfl
theorem fn158:VS.fn 158=some v158:=by kernel_rfl
theorem fn159:VS.fn 159=some v159:=by kernel_rfl
theorem fn160:VS.fn 160=some v160:=by kernel_rfl
theorem fn169:VS.fn 169=some v169:=by kernel_rfl
theorem fn170:VS.fn 170=some v170:=by kernel_rfl
theorem fn173:VS.fn 173=some v173:=by kernel_rfl
theorem fn179:VS.fn 179=some v179:=by kernel_rfl
theorem fn180:VS.fn 180=some v180:=by kernel_rfl
theorem fn210:VS.fn 210=some v210:=by kernel_rfl
theorem fn231:VS.fn 231=some v231:=by kernel_rfl
theorem fn236:VS.fn 236=some v236:=by kernel_rfl
theorem rn0:VS.rnd 0=some r0:=by kernel_rfl
theorem rn1:VS.rnd 1=some r1:=by kernel_rfl
theorem fnY:VS.fn yF=none:=by kernel_rfl
end Go.Proofs.YtgefdialaemelaaGreatDoor.Dv
