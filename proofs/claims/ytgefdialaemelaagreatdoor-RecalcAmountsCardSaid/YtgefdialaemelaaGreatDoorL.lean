/-
  strings.Cut,slices.Sort,slices.Compact,slices.Clip and guard.InForce beside the machine.
-/
import Derived.Test.YtgefdialaemelaaGreatDoorProg
import Derived.Shelf.Strings.Cut
import Derived.Shelf.Sort.Plain
import Derived.Shelf.Slices.CompactI
import Derived.Test.YtgefdialaemelaaGreatDoorA
import Derived.Test.YtgefdialaemelaaGreatDoorVo
import Derived.ProofKit
import Derived.Test.YtgefdialaemelaaGreatDoorDi
import Derived.Maps.RangeRun
import Derived.KernelRfl
import Derived.Sort.WalkA14
import Derived.Sort.EveryDepth
import Derived.LoopN
namespace Go.Proofs
open Go.Shelf
def Tryz.cutL_ren:Go.Shelf.Ren:=⟨fun|145=>195|220=>216|219=>247|217=>270|225=>271|224=>272|267=>273|266=>290|314=>291|n=>n,fun|9=>9|4=>4|59=>287|3=>3|5=>5|46=>72|146=>213|51=>170|n=>n,fun|1=>3|n=>n⟩
theorem Tryz.cutL:Go.Proofs.Lays.n145 Tryz.prog Tryz.cutL_ren:={
 mixed:=by kernel_rfl
 f145:=Tryz.func195.trans (congrArg some (by kernel_rfl))
 f217:=Tryz.func270.trans (congrArg some (by kernel_rfl))
 f219:=Tryz.func247.trans (congrArg some (by kernel_rfl))
 f220:=Tryz.func216.trans (congrArg some (by kernel_rfl))
 f224:=Tryz.func272.trans (congrArg some (by kernel_rfl))
 f225:=Tryz.func271.trans (congrArg some (by kernel_rfl))
 f266:=Tryz.func290.trans (congrArg some (by kernel_rfl))
 f267:=Tryz.func273.trans (congrArg some (by kernel_rfl))
 f314:=Tryz.func291.trans (congrArg some (by kernel_rfl))
 t3:=Tryz.underlying3
 a3:=Tryz.isAgg3
 z3:=Tryz.sizeOf3
 v3:=Tryz.zeroValue3
 t4:=Tryz.underlying4
 a4:=Tryz.isAgg4
 z4:=Tryz.sizeOf4
 v4:=Tryz.zeroValue4
 t5:=Tryz.underlying5
 a5:=Tryz.isAgg5
 z5:=Tryz.sizeOf5
 v5:=Tryz.zeroValue5
 t9:=Tryz.underlying9
 a9:=Tryz.isAgg9
 z9:=Tryz.sizeOf9
 v9:=Tryz.zeroValue9
 t46:=Tryz.underlying72
 a46:=Tryz.isAgg72
 z46:=Tryz.sizeOf72
 v46:=Tryz.zeroValue72
 t51:=Tryz.underlying170
 a51:=Tryz.isAgg170
 z51:=Tryz.sizeOf170
 v51:=Tryz.zeroValue170
 t59:=Tryz.underlying287
 a59:=Tryz.isAgg287
 z59:=Tryz.sizeOf287
 v59:=Tryz.zeroValue287
 t146:=Tryz.underlying213
 a146:=Tryz.isAgg213
 z146:=Tryz.sizeOf213
 v146:=Tryz.zeroValue213
 g1:=by kernel_rfl }
def Tryz.sortL_ren:Go.Shelf.Ren:=⟨fun|189=>194|125=>215|257=>214|128=>158|129=>246|294=>237|295=>238|296=>239|297=>240|298=>241|299=>242|216=>243|300=>244|301=>245|328=>265|329=>266|330=>267|331=>268|332=>269|215=>171|343=>289|n=>n,fun|28=>66|3=>3|46=>72|0=>0|51=>170|53=>22|4=>4|183=>333|182=>332|131=>273|5=>5|9=>9|218=>354|222=>358|228=>377|229=>275|n=>n,fun|n=>n⟩
theorem Tryz.sortL:Go.Proofs.Lays.n189 Tryz.prog Tryz.sortL_ren:={
 mixed:=by kernel_rfl
 f125:=Tryz.func215.trans (congrArg some (by kernel_rfl))
 f128:=Tryz.func158.trans (congrArg some (by kernel_rfl))
 f129:=Tryz.func246.trans (congrArg some (by kernel_rfl))
 f189:=Tryz.func194.trans (congrArg some (by kernel_rfl))
 f215:=Tryz.func171.trans (congrArg some (by kernel_rfl))
 f216:=Tryz.func243.trans (congrArg some (by kernel_rfl))
 f257:=Tryz.func214.trans (congrArg some (by kernel_rfl))
 f294:=Tryz.func237.trans (congrArg some (by kernel_rfl))
 f295:=Tryz.func238.trans (congrArg some (by kernel_rfl))
 f296:=Tryz.func239.trans (congrArg some (by kernel_rfl))
 f297:=Tryz.func240.trans (congrArg some (by kernel_rfl))
 f298:=Tryz.func241.trans (congrArg some (by kernel_rfl))
 f299:=Tryz.func242.trans (congrArg some (by kernel_rfl))
 f300:=Tryz.func244.trans (congrArg some (by kernel_rfl))
 f301:=Tryz.func245.trans (congrArg some (by kernel_rfl))
 f328:=Tryz.func265.trans (congrArg some (by kernel_rfl))
 f329:=Tryz.func266.trans (congrArg some (by kernel_rfl))
 f330:=Tryz.func267.trans (congrArg some (by kernel_rfl))
 f331:=Tryz.func268.trans (congrArg some (by kernel_rfl))
 f332:=Tryz.func269.trans (congrArg some (by kernel_rfl))
 f343:=Tryz.func289.trans (congrArg some (by kernel_rfl))
 t0:=Tryz.underlying0
 a0:=Tryz.isAgg0
 z0:=Tryz.sizeOf0
 v0:=Tryz.zeroValue0
 t3:=Tryz.underlying3
 a3:=Tryz.isAgg3
 z3:=Tryz.sizeOf3
 v3:=Tryz.zeroValue3
 t4:=Tryz.underlying4
 a4:=Tryz.isAgg4
 z4:=Tryz.sizeOf4
 v4:=Tryz.zeroValue4
 t5:=Tryz.underlying5
 a5:=Tryz.isAgg5
 z5:=Tryz.sizeOf5
 v5:=Tryz.zeroValue5
 t9:=Tryz.underlying9
 a9:=Tryz.isAgg9
 z9:=Tryz.sizeOf9
 v9:=Tryz.zeroValue9
 t28:=Tryz.underlying66
 a28:=Tryz.isAgg66
 z28:=Tryz.sizeOf66
 v28:=Tryz.zeroValue66
 t46:=Tryz.underlying72
 a46:=Tryz.isAgg72
 z46:=Tryz.sizeOf72
 v46:=Tryz.zeroValue72
 t51:=Tryz.underlying170
 a51:=Tryz.isAgg170
 z51:=Tryz.sizeOf170
 v51:=Tryz.zeroValue170
 t53:=Tryz.underlying22
 a53:=Tryz.isAgg22
 z53:=Tryz.sizeOf22
 v53:=Tryz.zeroValue22
 t131:=Tryz.underlying273
 a131:=Tryz.isAgg273
 z131:=Tryz.sizeOf273
 v131:=Tryz.zeroValue273
 t182:=Tryz.underlying332
 a182:=Tryz.isAgg332
 z182:=Tryz.sizeOf332
 v182:=Tryz.zeroValue332
 t183:=Tryz.underlying333
 a183:=Tryz.isAgg333
 z183:=Tryz.sizeOf333
 v183:=Tryz.zeroValue333
 t218:=Tryz.underlying354
 a218:=Tryz.isAgg354
 z218:=Tryz.sizeOf354
 v218:=Tryz.zeroValue354
 t222:=Tryz.underlying358
 a222:=Tryz.isAgg358
 z222:=Tryz.sizeOf358
 v222:=Tryz.zeroValue358
 t228:=Tryz.underlying377
 a228:=Tryz.isAgg377
 z228:=Tryz.sizeOf377
 v228:=Tryz.zeroValue377
 t229:=Tryz.underlying275
 a229:=Tryz.isAgg275
 z229:=Tryz.sizeOf275
 v229:=Tryz.zeroValue275 }
def Tryz.compL_ren:Go.Shelf.Ren:=⟨fun|20=>296|n=>n,fun|22=>66|3=>3|4=>4|0=>0|n=>n,fun|n=>n⟩
theorem Tryz.compL:Go.Proofs.Lays2.n20 Tryz.prog Tryz.compL_ren:={
 mixed:=by kernel_rfl
 f20:=Tryz.func296.trans (congrArg some (by kernel_rfl))
 t0:=Tryz.underlying0
 a0:=Tryz.isAgg0
 z0:=Tryz.sizeOf0
 v0:=Tryz.zeroValue0
 t3:=Tryz.underlying3
 a3:=Tryz.isAgg3
 z3:=Tryz.sizeOf3
 v3:=Tryz.zeroValue3
 t4:=Tryz.underlying4
 a4:=Tryz.isAgg4
 z4:=Tryz.sizeOf4
 v4:=Tryz.zeroValue4
 t22:=Tryz.underlying66
 a22:=Tryz.isAgg66
 z22:=Tryz.sizeOf66
 v22:=Tryz.zeroValue66
 i3:=by kernel_rfl }
end Go.Proofs
namespace Go.Proofs.YtgefdialaemelaaGreatDoor.Dv
open Go.Dm Go.Proofs Go.Sort Go.Shelf Go.RowKit
theorem ins_perm (x:Int) : ∀ l:List Int,(insI x l).Perm (x::l)
 | [] => .refl _
 | y::l=>by
  unfold insI
  split
  ·exact .refl _
  ·exact((ins_perm x l).cons y).trans (List.Perm.swap x y l)
theorem srt_perm : ∀ l:List Int,(srtI l).Perm l
 | [] => .refl _
 | x::l=>(ins_perm x (srtI l)).trans ((srt_perm l).cons x)
theorem ins_sorted (x:Int) : ∀ {l:List Int},l.Pairwise (· <= ·) -> (insI x l).Pairwise (· <= ·)
  | [],_=>by simp[insI]
  | y :: l,h=>by
    unfold insI
    have h':=List.pairwise_cons.1 h
    split
    · rename_i hle
      refine List.pairwise_cons.2 ⟨fun z hz => ?_,h⟩
      rcases List.mem_cons.1 hz with rfl|hz
      · exact hle
      · exact Int.le_trans hle (h'.1 z hz)
    · rename_i hle
      refine List.pairwise_cons.2 ⟨fun z hz => ?_,ins_sorted x h'.2⟩
      rcases List.mem_cons.1 ((ins_perm x l).mem_iff.1 hz)with rfl|hz
      · omega
      · exact h'.1 z hz
theorem srt_sorted : ∀ l:List Int,(srtI l).Pairwise (· <= ·)
  | [] => .nil
  | x::l=>ins_sorted x (srt_sorted l)
theorem merge_srt (l:List Int):(l.mergeSort fun x y=>decide (x <= y))=srtI l:=by
 refine List.Perm.eq_of_pairwise (le:=fun x y=>x <= y) (fun a b _ _ h1 h2=>Int.le_antisymm h1 h2) ?_ (srt_sorted l) ((List.mergeSort_perm l _).trans (srt_perm l).symm)
 have:=List.pairwise_mergeSort (le:=fun x y:Int=>decide (x <= y)) (fun a b c h1 h2=>by simp at *;omega) (fun a b=>by simp;omega) l
 exact this.imp (fun h=>by simpa using h)
theorem srt_len (l:List Int):(srtI l).length=l.length:=(srt_perm l).length_eq
theorem srt_of_perm {l m:List Int} (h:l.Perm m):srtI l=srtI m :=
 List.Perm.eq_of_pairwise (le:=fun x y=>x <= y) (fun a b _ _ h1 h2=>Int.le_antisymm h1 h2) (srt_sorted l) (srt_sorted m) ((srt_perm l).trans (h.trans (srt_perm m).symm))
theorem ded_ne (x:Int) (l:List Int):dedI (x::l)≠[]:=by
 unfold dedI
 split<;>first|(split<;>simp)|simp
theorem ded_snoc : ∀ (l:List Int) (z:Int),dedI (l++[z])=dedI l++(if l.getLast?=some z then[]else[z])
 | [],z=>by simp[dedI]
 | [x],z=>by
  by_cases h:x=z
  ·subst h;simp[dedI]
  ·simp[dedI,h]
 | x::y::t,z=>by
  have ih:=ded_snoc (y::t) z
  have e1:dedI (x::y::t++[z])=match dedI (y::t++[z])with|[]=>[x]|a::r=>if x=a then a::r else x::a::r:=rfl
  have e2:dedI (x::y::t)=match dedI (y::t)with|[]=>[x]|a::r=>if x=a then a::r else x::a::r:=rfl
  rw[e1,e2,ih,show(x::y::t).getLast?=(y::t).getLast? from by simp]
  cases hd:dedI (y::t)with
  | nil=>exact absurd hd (ded_ne y t)
  | cons a r=>simp only[List.cons_append];split<;>simp
theorem ded_len : ∀ l:List Int,(dedI l).length <= l.length
 | []=>Nat.le_refl _
 | x::l=>by
  have:=ded_len l
  unfold dedI
  cases hd:dedI l with
  | nil=>simp
  | cons y r=>rw[hd]at this;simp only[List.length_cons]at this ⊢;split<;>simp<;>omega
theorem upto_congr {d d':Array Int} {m:Nat} (h : ∀ j,j<m -> d[j]! = d'[j]!):Lib.compactUpTo d m=Lib.compactUpTo d' m:=by
 induction m with
 | zero=>rfl
 | succ m ih =>
  rw[Lib.compactUpTo_succ,Lib.compactUpTo_succ,ih (fun j hj=>h j (by omega)),h m (by omega)]
  have:Lib.keeps d m=Lib.keeps d' m:=by
   unfold Lib.keeps
   rw[h m (by omega),h (m-1) (by omega)]
  rw[this]
theorem at_append (l:List Int) (z:Int) {j:Nat} (h:j<l.length):(l++[z]).toArray[j]! = l.toArray[j]! := by
 rw[getElem!_pos _ j (by simp;omega),getElem!_pos _ j (by simpa using h)]
 simp[List.getElem_append_left h]
theorem compact_ded (l:List Int):Lib.compact l=dedI l:=by
 suffices h : ∀ n (l:List Int),l.length=n -> Lib.compact l=dedI l from h _ l rfl
 intro n
 induction n with
 | zero=>intro l hl;obtain rfl:=List.eq_nil_of_length_eq_zero hl;rfl
 | succ n ih =>
  intro l hl
  obtain ⟨k,z,rfl⟩ : ∃ k z,l=k++[z]:=by
   rcases List.eq_nil_or_concat l with rfl|⟨k,z,rfl⟩
   ·cases hl
   ·exact⟨k,z,by simp⟩
  have hk:k.length=n:=by simpa using hl
  have e:=ih k hk
  unfold Lib.compact at e ⊢
  rw[show(k++[z]).length=k.length+1 by simp,Lib.compactUpTo_succ,upto_congr (fun j hj=>at_append k z hj),e,ded_snoc]
  congr 1
  have hz:(k++[z]).toArray[k.length]! = z:=by rw[getElem!_pos _ _ (by simp)];simp
  rw[hz]
  by_cases h0:k=[]
  ·subst h0;simp[Lib.keeps]
  ·have hpos:0<k.length:=List.length_pos_iff.2 h0
   have hl1:(k++[z]).toArray[k.length-1]! = k.getLast h0:=by
    rw[at_append k z (by omega),getElem!_pos _ _ (by simp;omega)]
    simp[List.getLast_eq_getElem]
   by_cases hq:k.getLast h0=z
   ·rw[Lib.keeps_neg hpos (by rw[hz,hl1,hq])]
    rw[List.getLast?_eq_some_getLast h0,hq];simp
   ·rw[Lib.keeps_pos (by rw[hz,hl1];exact fun e=>hq e.symm)]
    rw[List.getLast?_eq_some_getLast h0];simp[hq]
theorem ints_un : ∀ {rows:List (List D)} {l:List Int},intsOf rows=some l -> rows=l.map iRow
 | [],l,h=>by cases h;rfl
 | r::rows,l,h=>by
  unfold intsOf at h
  split at h
  ·rename_i e;cases e
  ·rename_i x r' e
   cases e
   split at h
   ·rename_i l' h';cases h;rw[List.map_cons, <- ints_un h'];rfl
   ·cases h
  ·cases h
section
variable {K:Kn} {μ:Mu} {H:Heap} {W:World} {a:Nat} {lc:Go.Dm.Loc} {l:List Int} {cap:Option Nat} {p:Bool}
theorem ints_hold (hr:HR K μ H W) (hm:μ a=some lc) (hH:H[a]?=some (.ar 1 (l.map iRow) cap p false)):Holds (Value.int .i64) W lc.blk lc.off l.toArray:=by
 obtain⟨hwd,hkc,hfit,cs,ty,hb,hcs,hra⟩:=hr.blk a lc _ hm hH
 intro j hj
 have hj':j<l.length:=by simpa using hj
 have hrow:(l.map iRow)[j]?=some (iRow l[j]):=by rw[List.getElem?_map,List.getElem?_eq_getElem hj'];rfl
 obtain⟨v,g1,g2⟩:=hra j _ 0 _ hrow rfl
 have hv:v = .int .i64 l[j]:=by
  have:=g2.2
  cases p<;>(cases this;rfl)
 refine⟨?_,by simp[World.frozen?,hb]⟩
 have g1':cs[lc.off+j]?=some v:=by have:=g1;simpa using this
 rw[cell_of_row W lc.blk _ cs ty (0,0) hb,g1',hv,getElem!_pos _ j (by simpa using hj')]
 simp
theorem ints_put (hr:HR K μ H W) (hm:μ a=some lc) (hH:H[a]?=some (.ar 1 (l.map iRow) cap p false)) {l':List Int} (hl:l'.length=l.length) (n:Nat) (os:Array Obj) :
  HR K (μ.upd a lc) (H.set a (.ar 1 (l'.map iRow) cap p false)) (grow (Go.Sort.putRow (Value.int .i64) (Go.Sort.ahead W n) lc.blk lc.off l'.toArray) os) /\
  Nx K μ H W K (μ.upd a lc) (H.set a (.ar 1 (l'.map iRow) cap p false)) (grow (Go.Sort.putRow (Value.int .i64) (Go.Sort.ahead W n) lc.blk lc.off l'.toArray) os):=by
 obtain⟨hwd,hkc,hfit,cs,ty,hb,hcs,hra⟩:=hr.blk a lc _ hm hH
 rw[List.length_map]at hfit
 have hlt:=hr.lt a lc hm
 have hW:(grow (Go.Sort.putRow (Value.int .i64) (Go.Sort.ahead W n) lc.blk lc.off l'.toArray) os).heap[lc.blk]?=some (.cells (putCells (Value.int .i64) lc.off l'.toArray cs) ty (0,0)):=by
  simp only[grow,Go.Sort.putRow,mapBlock,Go.Sort.ahead]
  rw[Array.getElem?_append_left (by simpa using hlt),Array.getElem?_modify,if_pos rfl,hb]
  simp[onCells]
 exact hr.put a lc lc _ (.ar 1 (l'.map iRow) cap p false) hm hH rfl rfl (.ar _ _ _ _ _ _ _ _ _ _ (by simp[hl]) (fun _=>⟨rfl,rfl⟩) (fun c hc=>⟨rfl,hc⟩)) rfl rfl rfl (by simp[grow,Go.Sort.putRow,mapBlock,Go.Sort.ahead]) (fun r hr' hne=>by
   simp only[grow,Go.Sort.putRow,mapBlock,Go.Sort.ahead]
   rw[Array.getElem?_append_left (by simpa using hr'),Array.getElem?_modify]
   rw[if_neg (Ne.symm hne)]) (.inl rfl) (by simp[grow,Go.Sort.putRow,mapBlock,Go.Sort.ahead];omega) (by
   refine⟨?_,fun c hc=>by rw[List.length_map,hl];simpa using hkc c hc,by rw[List.length_map,hl];exact hfit,_,ty,hW,by simpa [putCells]using hcs, ?_⟩
   ·intro i r hr'
    rw[List.getElem?_map]at hr'
    cases hx:l'[i]? with
    | none=>rw[hx]at hr';cases hr'
    | some x=>rw[hx]at hr';cases hr';rfl
   ·intro i r j dd hrr hdd
    rw[List.getElem?_map]at hrr
    cases hx:l'[i]? with
    | none=>rw[hx]at hrr;cases hrr
    | some x =>
     rw[hx]at hrr
     cases hrr
     have hj:j=0:=by
      have:=lt_of_get hdd
      simp[iRow]at this;exact this
     subst hj
     cases hdd
     have hi:=lt_of_get hx
     refine⟨.int .i64 x, ?_,rfl,by cases p<;>exact .i ..⟩
     have hlt2:lc.off+(i*1+0)<cs.size:=by rw[hcs];omega
     simp only[putCells,Array.getElem?_mapIdx,Array.getElem?_eq_getElem hlt2,Option.map_some]
     rw[if_pos ⟨by omega,by simp;omega⟩,show lc.off+(i*1+0)-lc.off=i by omega,getElem!_pos _ i (by simpa using hi)]
     rw[List.getElem?_eq_getElem hi]at hx
     cases hx;simp)
end
theorem tu0 {K:Kn} {μ:Mu} {H:Heap}:VR K μ H (.tu []) (.tuple #[]) := .tu _ _ [] [] rfl (fun j d v x y=>by simp at x)
theorem sort_sim {a n off len:Nat} {H H':Heap} {d:D} (h:sortA a n off len H=some (d,H')):H.length <= H'.length /\ ∀ (K:Kn) (μ:Mu) (W:World) (v:Value),HR K μ H W -> VR K μ H (.mu a n off len) v -> Calls Tryz.prog 194 #[v] W (Gives K μ H W d H'):=by
 unfold sortA at h
 split at h
 ·rename_i rows cap p harr
  split at h
  ·rename_i hc
   obtain⟨rfl,rfl,hpos,hlim⟩:=hc
   split at h
   ·rename_i l hl
    cases h
    obtain rfl:=ints_un hl
    obtain⟨hH,hn⟩:=arr_eq harr
    rw[List.length_map]at hn
    refine⟨by simp,fun K μ W v hr hv => ?_⟩
    cases hv with
    | mu _ _ _ _ _ _ cp blk o lc w2 rows2 kc2 p2 lk2 hm hH2 hnn hcond =>
     rw[hH]at hH2
     cases hH2
     obtain⟨hadr,_,hcp,_,hsz,_⟩:=hcond (by rw[List.length_map];exact hn)
     have hblk:blk=lc.blk /\ o=lc.off:=by
      rcases hadr with x|⟨x,y⟩
      ·omega
      ·exact⟨x,by simpa using y⟩
     obtain⟨rfl,rfl⟩:=hblk
     have hcon:=Any.slices_Sort_int Tryz.sortL lc.blk lc.off cp l W (ints_hold hr hm hH) (hr.lt a lc hm) (by omega)
     rw[hn]at hcon
     refine hcon.mono ?_
     rintro e W' ⟨rfl,m,os,rfl⟩
     rw[merge_srt]
     obtain⟨h1,h2⟩:=ints_put hr hm hH (srt_len l) m os
     exact⟨_,_,h1,h2,tu0⟩
   ·cases h
  ·cases h
 ·cases h
theorem comp_sim {a n off len:Nat} {H H':Heap} {d:D} (h:compA a n off len H=some (d,H')):H.length <= H'.length /\ ∀ (K:Kn) (μ:Mu) (W:World) (v:Value),HR K μ H W -> VR K μ H (.mu a n off len) v -> Calls Tryz.prog 296 #[v] W (Gives K μ H W d H'):=by
 unfold compA at h
 split at h
 ·rename_i rows cap p harr
  split at h
  ·rename_i hc
   obtain⟨rfl,rfl,hpos,hlim⟩:=hc
   split at h
   ·rename_i l hl
    cases h
    obtain rfl:=ints_un hl
    obtain⟨hH,hn⟩:=arr_eq harr
    rw[List.length_map]at hn
    refine⟨by simp,fun K μ W v hr hv => ?_⟩
    cases hv with
    | mu _ _ _ _ _ _ cp blk o lc w2 rows2 kc2 p2 lk2 hm hH2 hnn hcond =>
     rw[hH]at hH2
     cases hH2
     obtain⟨hadr,h2,hcp,h4,hsz,h6⟩:=hcond (by rw[List.length_map];exact hn)
     have hblk:blk=lc.blk /\ o=lc.off:=by
      rcases hadr with x|⟨x,y⟩
      ·omega
      ·exact⟨x,by simpa using y⟩
     obtain⟨rfl,rfl⟩:=hblk
     have hcon:=Any.slices_Compact_int Tryz.compL lc.blk lc.off cp l W (ints_hold hr hm hH) (by omega) (by omega)
     rw[hn]at hcon
     refine hcon.mono ?_
     rintro e W' ⟨rfl,m,rfl⟩
     rw[compact_ded]
     have hdl:=ded_len l
     have hlen:(dedI l++List.replicate (len-(dedI l).length) 0).length=l.length:=by simp;omega
     obtain⟨g1,g2⟩:=ints_put hr hm hH hlen m #[]
     rw[grow_empty]at g1 g2
     have ha:=hr.dom a lc hm
     refine⟨_,_,g1,g2,.mu _ _ a len 0 (dedI l).length cp lc.blk lc.off lc 1 _ cap p false (by simp[Mu.upd]) (List.getElem?_set_self ha) (by rw[List.length_map,hlen];omega) (fun _=>⟨.inr ⟨rfl,by simp⟩,by omega,by omega,h4,hsz,h6⟩)⟩
   ·cases h
  ·cases h
 ·cases h
theorem hr_ahead {K:Kn} {μ:Mu} {H:Heap} {W:World} (h:HR K μ H W) (n:Nat):HR K μ H (W.drewN n) where
 dom:=h.dom
 tot:=h.tot
 blk:=fun id l b a c=>(h.blk id l b a c).ext (.refl _ _ _) (fun _=>rfl)
 lt:=h.lt
 inj:=h.inj
 kn:=h.kn
 kf:=h.kf
theorem nx_ahead {K:Kn} {μ:Mu} {H:Heap} {W:World} (n:Nat):Nx K μ H W K μ H (W.drewN n) :=
 ⟨.refl _ _ _,rfl,rfl,rfl,Nat.le_refl _,fun _ _ _=>rfl,fun _ h => .inl h,fun _ _ _ h => .inl h⟩
structure GlobT (K:Kn) (_W:World):Prop where
 g : ∀ (g w:Nat) (rows:List (List D)),globs g=some (w,rows) -> GlobK K g w rows
 mx : ∃ m,K 3 0=some (.int .i64 m)
theorem globK_ext {K K':Kn} {g w:Nat} {rows:List (List D)} (h:GlobK K g w rows) (e : ∀ b o v,K b o=some v -> K' b o=some v):GlobK K' g w rows:=fun i r hr =>
 let ⟨f,x⟩:=h i r hr
 ⟨f,fun j d hd=>e _ _ _ (x.k j d hd),x.c,fun j d hd=>(x.v j d hd).ext (Ext.zero e)⟩
theorem globT_up {K:Kn} {μ:Mu} {H:Heap} {W:World} {K':Kn} {μ':Mu} {H':Heap} {W':World} (h:GlobT K W) (_:HR K μ H W) (nx:Nx K μ H W K' μ' H' W'):GlobT K' W' :=
 ⟨fun g w rows e=>globK_ext (h.g g w rows e) nx.ext.k,let ⟨m,hm⟩:=h.mx;⟨m,nx.ext.k _ _ _ hm⟩⟩
theorem cut_sim {s t:List UInt8} {H H':Heap} {d:D} (h:cutD s t H=some (d,H')):H.length <= H'.length /\ ∀ (K:Kn) (μ:Mu) (W:World) (v1 v2:Value),GlobT K W -> HR K μ H W -> VR K μ H (.s s) v1 -> VR K μ H (.s t) v2 -> Calls Tryz.prog 195 #[v1,v2] W (Gives K μ H W d H'):=by
 unfold cutD at h
 split at h
 ·rename_i hs
  cases h
  refine⟨Nat.le_refl _,fun K μ W v1 v2 hT hr h1 h2 => ?_⟩
  cases h1
  cases h2
  obtain⟨m,hm⟩:=hT.mx
  have hsz:(⟨s.toArray⟩:ByteArray).size<4294967281:=by
   have:(⟨s.toArray⟩:ByteArray).size=s.length:=rfl
   rw[this];unfold cutMax at hs;omega
  refine(Any.strings_Cut Tryz.cutL ⟨s.toArray⟩ ⟨t.toArray⟩ m W hsz (hr.kn _ _ _ hm)).mono ?_
  rintro e W' ⟨rfl,n,rfl⟩
  refine⟨K,μ,hr_ahead hr n,nx_ahead n,.tu _ _ _ [_,_,_] rfl (fun j d v e1 e2 => ?_)⟩
  match j,e1,e2 with
  | 0,e1,e2=>cases e1;cases e2;exact .s ..
  | 1,e1,e2=>cases e1;cases e2;exact .s ..
  | 2,e1,e2=>cases e1;cases e2;exact .b ..
 ·cases h
end Go.Proofs.YtgefdialaemelaaGreatDoor.Dv
namespace Go.Dm
open Go.ChangeMaps (setBlock)
section
variable {c:CX} {E:En} {nd:List Deferred} {L:Nat -> Option Nat} {K:Kn} {μ:Mu} {sl:List D} {H:Heap} {a:Act} {W:World} {o:Oper} {loc:List D} {done:Nat -> Prop}
theorem op_hand (rg:Reg c) (ri:RI c E nd done L K μ loc sl H a W) {i:Nat} {vo:VOper} (ho:c.ops[i]?=some o) (hvo:c.vos[i]?=some vo) (hg:o.guard=none) (ha:vo.op.isAddr=false) (hb:vo.op.isBox=false) (hnd : ∀ cl,o.op ≠ .defer cl)
  {v:Value} {W':World} (hrun:(execOp a.eval o).run c.P W = .ok (.value v) W') {K':Kn} {μ':Mu} {H':Heap} {d:D} (fs:FS E c.tm c.bs K' μ' L sl H' a.tmps W') (e:Ext K μ H K' μ' H') (hv:VR K' μ' H' d v)
  {next:Act -> World -> Prop} {Q:Exit -> Act -> World -> Prop} {rd:Option Nat} {m:Nat}
  (hn:RI c E nd (fun j=>j=i \/ done j) L K' μ' (loc.set i d) (setSl sl vo.keep d) H' (a.put o.dst v) W' -> next (a.put o.dst v) W'):wpOpIn (FW rd) m c.P c.ops Q i next a W:=by
 have ok:=okOper_spec (rg.op i _ vo ho hvo).1
 unfold wpOpIn
 rw[ho]
 have hw:Region.wanted o (yielded c.ops a.tmps)=true:=by unfold Region.wanted;rw[hg]
 simp only[hw,if_true]
 refine wp_in hnd ?_
 unfold Oper.wp
 rw[hrun,Oper.upon_value]
 exact hn ((ri.go fs e).val rg ho hvo ok ha hb hv)
end
structure Apart (K:Kn) (μ:Mu) (H:Heap) (W:World) (x:Nat):Prop where
 own : ¬ Own μ H x
 kn : ∀ o v,K x o≠some v
 lt:x<W.heap.size
theorem Apart.nx {K K':Kn} {μ μ':Mu} {H H':Heap} {W W':World} {x:Nat} (h:Apart K μ H W x) (nx:Nx K μ H W K' μ' H' W'):Apart K' μ' H' W' x /\ W'.heap[x]?=W.heap[x]?:=by
 refine⟨⟨fun o => ?_,fun o v e => ?_,Nat.lt_of_lt_of_le h.lt nx.size⟩,nx.keep x h.lt h.own⟩
 ·rcases nx.og x o with y|y
  ·exact h.own y
  ·have:=h.lt;omega
 ·rcases nx.kg x o v e with y|y|y
  ·exact h.kn o v y
  ·exact h.own y
  ·have:=h.lt;omega
theorem FS.blk {E:En} {tm:List Nat} {K:Kn} {μ:Mu} {sl:List D} {H:Heap} {tmps:Array Value} {W:World} (h:FS E tm [] K μ (fun _=>none) sl H tmps W) {r:Nat} (ha:Apart K μ H W r) (hE:E.w.heap.size <= r) (o:Obj) :
  FS E tm [] K μ (fun _=>none) sl H tmps (setBlock W r o) :=
 ⟨h.hr.away ha.own ha.kn,⟨h.nx.ext,h.nx.os,h.nx.tape,h.nx.output,by have:=h.nx.size;simpa [setBlock]using this,fun k hk ho=>by
   rw[<- h.nx.keep k hk ho]
   exact World.putObj_heap_other (w:=W) (o:=o) (fun e=>by omega),h.nx.og,h.nx.kg⟩,h.len,h.val,fun k t _ b=>(by simp at b),fun k r e=>(by cases e),fun k k' r e=>(by cases e)⟩
theorem FS.drew {E:En} {tm bs:List Nat} {K:Kn} {μ:Mu} {L:Nat -> Option Nat} {sl:List D} {H:Heap} {tmps:Array Value} {W:World} (h:FS E tm bs K μ L sl H tmps W):FS E tm bs K μ L sl H tmps W.drew :=
 h.go h.hr.drew (Nx.drew _ _ _ _)
theorem run_sim {P:Program} {V:VProg} {T:Kn -> World -> Prop} (hm:P.follows .mixedOrders=true) (vok:VOK P V T) {nt:Nat} {tm bs:List Nat} (hnd:nodup tm=true) (hlt : ∀ t∈tm,t<nt) {E:En} (hT:TE T E) {nd:List Deferred} {code:Code} {vc:VCode} (hok:okCode P V nt tm bs code vc=true)
  {st:St} {Q:Ex -> St -> Prop} (hr:Run V vc st Q) {a:Act} {W:World} (hA:After E tm bs nt nd st a W) (hQ : ∀ ex s,Q ex s -> ex = .nm) :
  code.wpIn (FW none) 0 P (fun e a' w'=>e = .normal /\ ∃ st',Q .nm st' /\ After E tm bs nt nd st' a' w') a W:=by
 obtain⟨n,h1,h2⟩:=hr
 have hx:=hQ _ _ h2
 have hfit:=call_fit V (fun f args H d H' h=>(vok.ext f args H d H' h).1) n
 refine wpIn_mono (exec_sim (rd:=none) (m:=0) vok (call_sim hm vok n) (call_simP hm vok n) hnd hlt (drawn_of hm vok (call_sim hm vok n) (call_simP hm vok n) hfit hnd hlt) E hT nd n vc code hok st _ _ a W rfl (by rw[hx];rfl) hA) (fun e a' w' hq => ?_)
 rw[hx]at hq h2
 cases e with
 | normal=>exact⟨rfl,_,h2,hq.2⟩
 | exit id=>cases hq.1
 | ret=>cases hq.1
 | panic ch=>obtain⟨q,v,e1,_⟩:=hq;cases e1
 | _=>exact hq.elim
theorem left_zero {mes:Array MapEntry} {seen:Array Nat} (h:(leftOf mes seen).size=0) : ∀ e∈mes.toList,e.born∈seen.toList:=by
 intro e he
 by_cases hs:e.born∈seen.toList
 ·exact hs
 ·exfalso
  have:e∈(leftOf mes seen).toList:=by
   unfold leftOf
   simp
   exact⟨by simpa using he,by simpa using hs⟩
  have h0:(leftOf mes seen).toList=[]:=by rw[<- List.length_eq_zero_iff];simpa using h
  rw[h0]at this
  cases this
theorem left_mem {mes:Array MapEntry} {seen:Array Nat} {e:MapEntry} (h:e∈(leftOf mes seen).toList):e∈mes.toList /\ e.born∉seen.toList:=by
 unfold leftOf at h
 simp at h
 exact⟨by simpa using h.1,by simpa using h.2⟩
theorem born_inj {mes:Array MapEntry} {clock:Nat} (hb:Born mes clock) {x y:MapEntry} (hx:x∈mes.toList) (hy:y∈mes.toList) (e:x.born=y.born):x=y:=by
 have:=hb.nd
 rw[List.nodup_iff_pairwise_ne]at this
 rw[List.pairwise_map]at this
 by_cases h:x=y
 ·exact h
 ·exfalso
  obtain⟨i,hi,rfl⟩:=List.mem_iff_getElem.1 hx
  obtain⟨j,hj,rfl⟩:=List.mem_iff_getElem.1 hy
  rcases Nat.lt_trichotomy i j with h1|h1|h1
  ·exact List.pairwise_iff_getElem.1 this i j hi hj h1 e
  ·subst h1;exact h rfl
  ·exact List.pairwise_iff_getElem.1 this j i hj hi h1 e.symm
theorem vis_perm {mes:Array MapEntry} {clock:Nat} (hb:Born mes clock) {vis:List MapEntry} (hsub : ∀ e∈vis,e∈mes.toList) (hnd:(vis.map (·.born)).Nodup) (hall : ∀ e∈mes.toList,e.born∈vis.map (·.born)):vis.Perm mes.toList:=by
 have n1:vis.Nodup:=List.Pairwise.of_map _ (fun a b h e=>h (by rw[e])) hnd
 have n2:mes.toList.Nodup:=List.Pairwise.of_map _ (fun a b h e=>h (by rw[e])) hb.nd
 refine(List.perm_ext_iff_of_nodup n1 n2).2 fun x=>⟨hsub x,fun hx => ?_⟩
 obtain⟨y,hy,e⟩:=List.mem_map.1 (hall x hx)
 rw[born_inj hb hx (hsub y hy) e.symm]
 exact hy
theorem len_sub {α:Type} : ∀ {v m:List α},v.Nodup -> (∀ x∈v,x∈m) -> v.length <= m.length
 | [],m,_,_=>Nat.zero_le _
 | x::t,m,hn,hs=>by
  obtain⟨a,b,rfl⟩:=List.append_of_mem (hs x List.mem_cons_self)
  have hn':=List.nodup_cons.1 hn
  have:=len_sub (v:=t) (m:=a++b) hn'.2 (fun y hy=>by
   have h1:=hs y (List.mem_cons_of_mem _ hy)
   simp only[List.mem_append,List.mem_cons]at h1 ⊢
   rcases h1 with h1|rfl|h1
   ·exact .inl h1
   ·exact(hn'.1 hy).elim
   ·exact .inr h1)
  simp only[List.length_append,List.length_cons]at this ⊢
  omega
theorem vis_len {mes:Array MapEntry} {clock:Nat} (hb:Born mes clock) {vis:List MapEntry} (hsub : ∀ e∈vis,e∈mes.toList) (hnd:(vis.map (·.born)).Nodup):vis.length <= mes.size:=by
 have n1:vis.Nodup:=List.Pairwise.of_map _ (fun a b h e=>h (by rw[e])) hnd
 have:=len_sub n1 hsub
 simpa using this
end Go.Dm
namespace Go.Proofs.YtgefdialaemelaaGreatDoor.Dv
open Go.Dm Go.Proofs
def c104 (k:Nat):VCode:=match v173.body with
 | .seq a (.seq b (.seq c (.seq d (.seq (.seq e _) _))))=>(match k with|0=>a|1=>b|2=>c|3=>d|_=>e)
 | c=>c
def tm2:List Nat:=[4,14,16,74,76,85,8]
def wv12:List VOper:=[⟨.stk,none,none⟩,⟨.ext (.l 0) 0,some 4,none⟩]
def wv13:List VOper:=[⟨.stk,none,none⟩,⟨.ext (.l 0) 1,none,none⟩,⟨.mov (.l 1),some 2,none⟩]
def wv14:VCode := .seq (.reg [⟨.fad (.s 0) 3,none,none⟩,⟨.ld (.l 0) 1 false,none,none⟩,⟨.mov (.s 2),none,none⟩,⟨.iad (.l 1) (.l 2) 24,none,none⟩,⟨.fad (.l 3) 5,none,none⟩,⟨.ld (.l 4) 1 false,none,none⟩,⟨.un .not (.l 5),some 5,none⟩] none)
 (.cond (.s 5) (.reg [⟨.mov (.s 1),none,none⟩,⟨.mov (.s 2),none,none⟩,⟨.bsv 1 1 [(.i .i64 0)] [(0,.l 1)],none,none⟩,⟨.app (.l 0) (.l 2) 1 8 true,none,none⟩,⟨.mov (.l 3),some 1,none⟩] none) .skip)
def wv16:VCode := .reg [⟨.mov (.s 1),none,none⟩,⟨.call 181 [.l 0],none,none⟩] none
def wv17:VCode := .reg [⟨.mov (.s 1),none,none⟩,⟨.mov (.l 0),some 6,none⟩] none
noncomputable def b104:Code:=Tryz.f173.body.getD .skip
def sL:Code -> Code | .seq a _=>a|c=>c
def sR:Code -> Code | .seq _ b=>b|c=>c
def blkC:Code -> Code | .block _ c=>c|c=>c
def lpC:Code -> Code | .loop c=>c|c=>c
def regO:Code -> Array Oper | .region _ ops _=>ops|_ => #[]
noncomputable def q5:Code:=sR (sR (sR (sR b104)))
noncomputable def qRange:Code:=sL (sL q5)
noncomputable def qLoop:Code:=lpC (blkC (sR (sL q5)))
noncomputable def qNext:Code:=sL qLoop
noncomputable def qBody:Code:=blkC (sR (sR qLoop))
noncomputable def qEntry:Code:=sL qBody
noncomputable def qRound:Code:=sR qBody
noncomputable def qSort:Code:=sL (sR q5)
noncomputable def qRes:Code:=sL (sR (sR q5))
theorem b104_eq:b104 = .seq (sL b104) (.seq (sL (sR b104)) (.seq (sL (sR (sR b104))) (.seq (sL (sR (sR (sR b104)))) (.seq (.seq qRange (.block 2 (.loop (.seq qNext (.seq (.cond (.tmp 76) .skip (.exit 2)) (.block 3 (.seq qEntry qRound))))))) (.seq qSort (.seq qRes .ret)))))):=by kernel_rfl
theorem qRange_eq:qRange = .region 11 (regO qRange) false:=by kernel_rfl
theorem qNext_eq:qNext = .region 12 (regO qNext) false:=by kernel_rfl
theorem qEntry_eq:qEntry = .region 13 (regO qEntry) false:=by kernel_rfl
theorem lk_lookup (l:List UInt8) : ∀ m:List (List UInt8×Nat),@List.lookup (List UInt8) Nat instBEqOfDecidableEq l m=lkL l m
 | []=>rfl
 | (k,i)::m=>by
  unfold lkL
  by_cases h:l=k
  ·subst h
   have:(@BEq.beq (List UInt8) instBEqOfDecidableEq l l)=true:=decide_eq_true rfl
   rw[if_pos rfl]
   show(match (@BEq.beq (List UInt8) instBEqOfDecidableEq l l)with|true=>some i|false => @List.lookup (List UInt8) Nat instBEqOfDecidableEq l m)=some i
   rw[this]
  ·have:(@BEq.beq (List UInt8) instBEqOfDecidableEq l k)=false:=decide_eq_false h
   rw[if_neg h]
   show(match (@BEq.beq (List UInt8) instBEqOfDecidableEq l k)with|true=>some i|false => @List.lookup (List UInt8) Nat instBEqOfDecidableEq l m)=lkL l m
   rw[this]
   exact lk_lookup l m
theorem st_put (l:List UInt8) (i:Nat) : ∀ m:List (List UInt8×Nat),stL l i m=putA l i m
 | []=>rfl
 | (k,j)::m=>by
  unfold stL putA
  by_cases h:l=k
  ·simp[h]
  ·simp[h,st_put l i m]
theorem clOk_inv {r:List D} (h:clOk r=true) : ∃ n l f t k o q,r = .s n :: .s l :: .i .i64 f :: .i .i64 t :: .i .i64 k :: .b o::q /\ q.length=18:=by
 unfold clOk at h
 split at h
 ·exact⟨_,_,_,_,_,_,_,rfl,by simpa using h⟩
 ·cases h
def kS (s:List UInt8):D := .s s
def vN64 (i:Nat):D := .i .i64 i
def esC (m:List (List UInt8×Nat)):List (D×D):=entsM kS vN64 m
def slIF0 (p name:D) (date known:Int):List D:=[p,name,.i .i64 date,.i .i64 known,.u,.u,.u,.u,.u,.u,.u,.u,.u,.u,.u,.u,.u,.u,.u,.u,.u,.u]
section
variable {x0 x1 x2 c:D} {rows:List (List D)} {name:List UInt8} {date known:Int}
theorem seg0:Run V1 (c104 0) ⟨slIF0 (.ag [x0,x1,x2,c]) (.s name) date known,[]⟩ (fun ex s=>ex = .nm /\ s=⟨[.ag [x0,x1,x2,c],.s name,.i .i64 date,.i .i64 known,.nil,.u,.u,.u,.u,.u,.bx [x0,x1,x2,c],.u,.u,.u,.u,.u,.u,.u,.u,.u,.u,.u],[]⟩):=by
 simp only[c104,v173,slIF0]
 simp(disch:=omega) only[go_sem,Nat.reduceAdd]
theorem seg1:Run V1 (c104 1) ⟨[.ag [x0,x1,x2,c],.s name,.i .i64 date,.i .i64 known,.nil,.u,.u,.u,.u,.u,.bx [x0,x1,x2,c],.u,.u,.u,.u,.u,.u,.u,.u,.u,.u,.u],[]⟩ (fun ex s=>ex = .nm /\ s=⟨[.ag [x0,x1,x2,c],.s name,.i .i64 date,.i .i64 known,.nil,.u,.u,.u,.u,.u,.bx [x0,x1,x2,c],.u,.u,.u,.u,.mp 0,.u,.u,.u,.u,.u,.u],[.mp []]⟩):=by
 simp only[c104,v173]
 simp(disch:=omega) only[go_sem]
structure M1 (x0 x1 x2 c:D) (rows:List (List D)) (name:List UInt8) (date known:Int) (l:D) (s:St):Prop where
 e : ∃ j5 j6 j7 j14 j16 j17 j18,s=⟨[.ag [x0,x1,x2,c],.s name,.i .i64 date,.i .i64 known,.nil,j5,j6,j7,.u,.u,.bx [x0,x1,x2,c],.i .i64 rows.length,.i .i64 rows.length,c,j14,.mp 0,j16,j17,j18,l,.u,.u],[.mp (esC (cntF rows name date known rows.length))]⟩
theorem esC_len : ∀ m,(esC m).length=m.length:=fun m=>by simp[esC,entsM]
theorem cnt_at {i:Nat}:cntF rows name date known (i+1)=cnt1 rows name date known (cntF rows name date known i) i:=rfl
theorem cnt_lt : ∀ n, ∀ q∈cntF rows name date known n,q.2<n
 | 0,q,h=>by cases h
 | n + 1,q,h=>by
  have put : ∀ (l:List UInt8) (m:List (List UInt8×Nat)),(∀ q∈m,q.2<n) -> ∀ q∈stL l n m,q.2<n+1:=by
   intro l m
   induction m with
   | nil=>intro _ q hq;simp[stL]at hq;subst hq;exact Nat.lt_succ_self n
   | cons p m ih =>
    intro hm q hq
    unfold stL at hq
    split at hq
    ·rcases List.mem_cons.1 hq with rfl|hq
     ·exact Nat.lt_succ_self n
     ·exact Nat.lt_succ_of_lt (hm q (List.mem_cons_of_mem _ hq))
    ·rcases List.mem_cons.1 hq with rfl|hq
     ·exact Nat.lt_succ_of_lt (hm _ List.mem_cons_self)
     ·exact ih (fun q hq=>hm q (List.mem_cons_of_mem _ hq)) q hq
  have ih:=cnt_lt n
  rw[cnt_at]at h
  unfold cnt1 at h
  split at h
  ·split at h
   ·exact put _ _ ih q h
   ·split at h
    ·exact put _ _ ih q h
    ·exact Nat.lt_succ_of_lt (ih q h)
  ·exact Nat.lt_succ_of_lt (ih q h)
theorem lookup_mem : ∀ {m:List (List UInt8×Nat)} {l:List UInt8} {j:Nat},lkL l m=some j -> (l,j)∈m
 | (k,i)::m,l,j,h=>by
  unfold lkL at h
  split at h
  ·rename_i e;subst e;cases h;exact List.mem_cons_self
  ·exact List.mem_cons_of_mem _ (lookup_mem h)
theorem kok_k:KOk (.c 2) kS:=⟨fun _=>rfl,fun a b=>kok_s.eq a b⟩
theorem lkC {l:List UInt8} {m:List (List UInt8×Nat)}:lkM (.c 2) (.s l) true (.i .i64 0) (some (.mp (esC m)))=some (.tu [((lkL l m).map vN64).getD (.i .i64 0),.b (lkL l m).isSome]):=by
 rw[<- lk_lookup]
 exact lkM_a (ek:=kS) (ev:=vN64) kok_k l m true (.i .i64 0)
theorem mupC {H:Heap} {a:Nat} {l:List UInt8} {i:Nat} {m:List (List UInt8×Nat)}:mupM H (.c 2) a (.s l) (.i .i64 i) (some (.mp (esC m)))=some (H.set a (.mp (esC (putA l i m)))):=mupM_a (ek:=kS) (ev:=vN64) kok_k a l i m
set_option maxHeartbeats 4000000 in
theorem seg2 (hc:Sl 24 rows c) (hcl:rows.all clOk=true) (hl:rows.length<1099511627776):Run V1 (c104 2) ⟨[.ag [x0,x1,x2,c],.s name,.i .i64 date,.i .i64 known,.nil,.u,.u,.u,.u,.u,.bx [x0,x1,x2,c],.u,.u,.u,.u,.mp 0,.u,.u,.u,.u,.u,.u],[.mp []]⟩ (fun ex s=>ex = .nm /\ M1 x0 x1 x2 c rows name date known .u s):=by
 simp only[c104,v173]
 simp(disch:=omega) only[go_sem,Nat.reduceAdd,hc.len]
 have hc2:Sl 24 (rows.map (fun r=>r)) c:=by simpa using hc
 refine Run.up (fun i s => ∃ j5 j6 j7 j14 j16 j17 j18,s=⟨[.ag [x0,x1,x2,c],.s name,.i .i64 date,.i .i64 known,.nil,j5,j6,j7,.u,.u,.bx [x0,x1,x2,c],.i .i64 i,.i .i64 rows.length,c,j14,.mp 0,j16,j17,j18,.u,.u,.u],[.mp (esC (cntF rows name date known i))]⟩) rows.length ⟨.u,.u,.u,.u,.u,.u,.u,rfl⟩ ?_
 rintro i s hi ⟨j5,j6,j7,j14,j16,j17,j18,rfl⟩
 rcases Nat.lt_or_ge i rows.length with h|h
 ·obtain ⟨n,lb,f,t,k,o,q,hrow,hq⟩:=clOk_inv (List.all_eq_true.1 hcl _ (List.getElem_mem h))
  have hr! : rows[i]! = .s n :: .s lb :: .i .i64 f :: .i .i64 t :: .i .i64 k :: .b o::q:=by rw[getElem!_pos rows i h];exact hrow
  have hb:=cnt_at (rows:=rows) (name:=name) (date:=date) (known:=known) (i:=i)
  have hm:=cnt_lt (rows:=rows) (name:=name) (date:=date) (known:=known) i
  generalize cntF rows name date known i=m at hb hm ⊢
  unfold cnt1 at hb
  rw[hr!]at hb
  simp only[clIn,clN,clF,clT,clK,clL,st_put]at hb
  have hz:(i:Int)<rows.length:=by omega
  have hz0:(0:Int) <= i:=by omega
  have h18:List.take 18 q=q:=List.take_of_length_le (by omega)
  have hq':18 <= q.length:=by omega
  have hz1:IntKind.i64.wrap ((i:Int)+1)=(i:Int)+1:=wr (by omega) (by omega)
  by_cases c1:n=name
  ·by_cases c2:date<f
   ·have e:cntF rows name date known (i+1)=m:=by rw[hb,if_neg (by simp only[Bool.and_eq_true,beq_iff_eq];rintro⟨⟨⟨_,g1⟩,g2⟩,g3⟩;first|omega|(have:=of_decide_eq_true g1;have:=of_decide_eq_true g2;have:=of_decide_eq_true g3;omega))]
    have hlu:=True.intro
    simp only[v173l0]
    simp(disch:=omega) only[go_sem,Nat.reduceAdd,Nat.reduceLeDiff,reduceCtorEq,hc2.q,h,decide_true,hr!,Int.toNat_natCast,hz,hz0,h18,hq,Nat.le_refl,c1,c2,hz1,e]
   ·by_cases c3:t <= date
    ·have e:cntF rows name date known (i+1)=m:=by rw[hb,if_neg (by simp only[Bool.and_eq_true,beq_iff_eq];rintro⟨⟨⟨_,g1⟩,g2⟩,g3⟩;first|omega|(have:=of_decide_eq_true g1;have:=of_decide_eq_true g2;have:=of_decide_eq_true g3;omega))]
     have hlu:=True.intro
     simp only[v173l0]
     simp(disch:=omega) only[go_sem,Nat.reduceAdd,Nat.reduceLeDiff,reduceCtorEq,hc2.q,h,decide_true,decide_false,hr!,Int.toNat_natCast,hz,hz0,h18,hq,Nat.le_refl,c1,c2,c3,hz1,e]
    ·by_cases c4:known<k
     ·have e:cntF rows name date known (i+1)=m:=by rw[hb,if_neg (by simp only[Bool.and_eq_true,beq_iff_eq];rintro⟨⟨⟨_,g1⟩,g2⟩,g3⟩;first|omega|(have:=of_decide_eq_true g1;have:=of_decide_eq_true g2;have:=of_decide_eq_true g3;omega))]
      have hlu:=True.intro
      simp only[v173l0]
      simp(disch:=omega) only[go_sem,Nat.reduceAdd,Nat.reduceLeDiff,reduceCtorEq,hc2.q,h,decide_true,decide_false,hr!,Int.toNat_natCast,hz,hz0,h18,hq,Nat.le_refl,c1,c2,c3,c4,hz1,e]
     ·have g2:f <= date:=by omega
      have g3:date<t:=by omega
      have g4:k <= known:=by omega
      rw[if_pos (by simp only[Bool.and_eq_true,beq_iff_eq];first|exact⟨⟨⟨c1,g2⟩,g3⟩,g4⟩|exact⟨⟨⟨c1,decide_eq_true g2⟩,decide_eq_true g3⟩,decide_eq_true g4⟩)]at hb
      cases hlu:lkL lb m with
      | none =>
       simp only[hlu]at hb
       simp only[v173l0]
       simp(disch:=omega) only[go_sem,Nat.reduceAdd,Nat.reduceLeDiff,hc2.q,h,decide_true,decide_false,hr!,Int.toNat_natCast,hz,hz0,h18,hq,lkC,mupC,Nat.le_refl,hlu,c1,c2,c3,c4,hz1,hb,Option.map_none,Option.getD_none,Option.isSome_none]
      | some j =>
       have hj:=hm _ (lookup_mem hlu)
       simp only at hj
       have hjr:j<rows.length:=by omega
       obtain⟨n',lb',f',t',k',o',q',hrow',hq2⟩:=clOk_inv (List.all_eq_true.1 hcl _ (List.getElem_mem hjr))
       have hr2:rows[j]! = .s n' :: .s lb' :: .i .i64 f' :: .i .i64 t' :: .i .i64 k' :: .b o'::q':=by rw[getElem!_pos rows j hjr];exact hrow'
       have hzj:(j:Int)<rows.length:=by omega
       have hzj0:(0:Int) <= j:=by omega
       simp only[hlu,hr2]at hb
       by_cases c5:k' <= k
       ·rw[if_pos c5]at hb
        simp only[v173l0]
        simp(disch:=omega) only[go_sem,Nat.reduceAdd,Nat.reduceLeDiff,hc2.q,hc.under,h,decide_true,decide_false,hr!,Int.toNat_natCast,hz,hz0,h18,hq,lkC,mupC,Nat.le_refl,hlu,c1,c2,c3,c4,c5,hz1,hb,hr2,hq2,hzj,hzj0,Option.map_some,Option.getD_some,Option.isSome_some,vN64]
       ·rw[if_neg c5]at hb
        simp only[v173l0]
        simp(disch:=omega) only[go_sem,Nat.reduceAdd,Nat.reduceLeDiff,hc2.q,hc.under,h,decide_true,decide_false,hr!,Int.toNat_natCast,hz,hz0,h18,hq,lkC,Nat.le_refl,hlu,c1,c2,c3,c4,c5,hz1,hb,hr2,hq2,hzj,hzj0,Option.map_some,Option.getD_some,Option.isSome_some,vN64]
  ·have e:cntF rows name date known (i+1)=m:=by rw[hb,if_neg];simp[c1]
   have hlu:=True.intro
   simp only[v173l0]
   simp(disch:=omega) only[go_sem,Nat.reduceAdd,Nat.reduceLeDiff,reduceCtorEq,hc2.q,h,decide_true,decide_false,hr!,Int.toNat_natCast,hz,hz0,h18,hq,Nat.le_refl,c1,hz1,e]
 ·have:i=rows.length:=by omega
  subst this
  simp only[v173l0]
  simp(disch:=omega) only[go_sem,reduceCtorEq,Nat.lt_irrefl,Int.lt_irrefl,decide_false]
  exact⟨_,_,_,_,_,_,_,rfl⟩
theorem seg3 {j5 j6 j7 j14 j16 j17 j18:D} {n:Nat} {H:Heap}:Run V1 (c104 3) ⟨[.ag [x0,x1,x2,c],.s name,.i .i64 date,.i .i64 known,.nil,j5,j6,j7,.u,.u,.bx [x0,x1,x2,c],.i .i64 n,.i .i64 n,c,j14,.mp 0,j16,j17,j18,.u,.u,.u],H⟩ (fun ex s=>ex = .nm /\ s=⟨[.ag [x0,x1,x2,c],.s name,.i .i64 date,.i .i64 known,.nil,j5,j6,j7,.u,.u,.bx [x0,x1,x2,c],.i .i64 n,.i .i64 n,c,j14,.mp 0,j16,j17,j18,.nil,.u,.u],H⟩):=by
 simp only[c104,v173]
 simp(disch:=omega) only[go_sem]
def hL (l:List Int):Heap:=bH [.ar 1 [] (some 0) true true] 1 (l.map iRow)
def dL (l:List Int):D:=bD [.ar 1 [] (some 0) true true] .nil (l.map iRow)
theorem round_q (hc:Sl 24 rows c) (hcl:rows.all clOk=true) {l:List Int} (hl:l.length<1099511627776) {i:Nat} (hi:i<rows.length) {j4 j5 j6:D} :
  Run V1 wv14 ⟨[.ip [x0,x1,x2,c],dL l,.i .i64 i,.aa 0,j4,j5,j6],hL l⟩ (fun ex s=>ex = .nm /\ s=⟨[.ip [x0,x1,x2,c],dL (if clO rows[i]! then l else l++[(i:Int)]),.i .i64 i,.aa 0,j4,.b (!clO rows[i]!),j6],hL (if clO rows[i]! then l else l++[(i:Int)])⟩):=by
 obtain⟨n,lb,f,t,k,o,q,hrow,hq⟩:=clOk_inv (List.all_eq_true.1 hcl _ (List.getElem_mem hi))
 have hr! : rows[i]! = .s n :: .s lb :: .i .i64 f :: .i .i64 t :: .i .i64 k :: .b o::q:=by rw[getElem!_pos rows i hi];exact hrow
 have hc2:Sl 24 (rows.map (fun r=>r)) c:=by simpa using hc
 have hz:(i:Int)<rows.length:=by omega
 have hz0:(0:Int) <= i:=by omega
 have app:=app_n (H0:=[.ar 1 [] (some 0) true true]) (w:=1) (bytes:=8) (l:=l) (enc:=iRow) (r:=iRow i) (by omega) (by omega)
 have e1:l.map iRow++[iRow i]=(l++[(i:Int)]).map iRow:=by simp
 rw[e1]at app
 simp only[iRow,List.all_cons,List.all_nil,flat_i,Bool.and_true,if_true]at app
 simp only[wv14,hr!,clO,dL,hL]
 cases o with
 | true =>
  simp(disch:=omega) only[go_sem,Nat.reduceAdd,Nat.reduceLeDiff,hc2.q,hr!,Int.toNat_natCast,hz,hz0,hq]
 | false =>
  simp(disch:=omega) only[go_sem,Nat.reduceAdd,Nat.reduceLeDiff,Nat.reduceLT,hc2.q,hr!,Int.toNat_natCast,hz,hz0,hq,app]
end
theorem dL_srt (l:List Int):dL (srtI l)=dL l:=by
 have h:(srtI l).length=l.length:=by
  induction l with
  | nil=>rfl
  | cons x l ih =>
   have : ∀ m:List Int,(insI x m).length=m.length+1:=fun m=>by
    induction m with
    | nil=>rfl
    | cons y m ih=>unfold insI;split<;>simp[ih]
   simp only[srtI,this,ih,List.length_cons]
 unfold dL bD
 cases hl:l with
 | nil=>rfl
 | cons x t =>
  cases hs:srtI (x::t)with
  | nil=>rw[hl,hs]at h;cases h
  | cons y u=>rw[hl,hs]at h;simp only[List.map_cons,List.length_cons,List.length_map]at h ⊢;rw[h]
theorem ints_map : ∀ l:List Int,intsOf (l.map iRow)=some l
 | []=>rfl
 | x::l=>by rw[List.map_cons,iRow,intsOf,ints_map l]
theorem ext187 {l:List Int} (hl:l.length<1099511627776):V1.ext 194 [dL l] (hL l)=some (.tu [],hL (srtI l)):=by
 cases l with
 | nil=>rfl
 | cons x t =>
  have h2:=dL_srt (x::t)
  have e:V1.ext 194 [dL (x::t)] (hL (x::t))=sortA 1 (x::t).length 0 (x::t).length (hL (x::t)):=by
   simp[V1,Vx,extE,dL,bD]
  rw[e]
  unfold sortA
  have h:arr (hL (x::t)) 1 (x::t).length=some (1,(x::t).map iRow,none,true,false):=by
   simp[arr,hL,bH]
  rw[h]
  simp only[ints_map]
  rw[if_pos ⟨trivial,trivial,by simp,hl⟩]
  congr 2
  unfold hL bH
  unfold dL bD at h2
  cases hs:srtI (x::t)with
  | nil=>rw[hs]at h2;cases h2
  | cons y u=>rfl
theorem sort_q {l:List Int} (hl:l.length<1099511627776) {x0 j2 j3 j4 j5 j6:D}:Run V1 wv16 ⟨[x0,dL l,j2,j3,j4,j5,j6],hL l⟩ (fun ex s=>ex = .nm /\ s=⟨[x0,dL (srtI l),j2,j3,j4,j5,j6],hL (srtI l)⟩):=by
 have e187 : ∀ {K:CR -> Prop},CallQ V1 194 [dL l] (hL l) K↔K (.ret (.tu []) (hL (srtI l))):=fun{K}=>CallQ.beside (by kernel_rfl) (by decide) (ext187 hl)
 rw[dL_srt]
 simp only[wv16]
 simp(disch:=omega) only[go_sem]
 refine .body (vf:=v181) (by kernel_rfl) rfl rfl ?_
 simp only[v181]
 simp(disch:=omega) only[go_sem,Nat.reduceSub,e187]
theorem resIF_q {l:List Int} {H:Heap} {x0 j2 j3 j4 j5 j6:D}:Run V1 wv17 ⟨[x0,dL l,j2,j3,j4,j5,j6],H⟩ (fun ex s=>ex = .nm /\ s=⟨[x0,dL l,j2,j3,j4,j5,dL l],H⟩):=by
 simp only[wv17]
 simp(disch:=omega) only[go_sem]
end Go.Proofs.YtgefdialaemelaaGreatDoor.Dv
namespace Go.Proofs
open Go.RowKit Go.Sort Go.Shelf
set_option maxHeartbeats 4000000
theorem Tryz.insertion_nil (w:World):Calls Tryz.prog 237 #[.slice none 0 0,.int .i64 0,.int .i64 0] w fun e w'=>e = .returned (.tuple #[]) /\ w'=w:=by
 go_enter Tryz.func237,Tryz.ntmps237
 go_wp2
 refine wp_loop_rounds 1 ?_
 rw[rounds_succ]
 go_wp2
 go_end0
 exact⟨rfl,rfl⟩
set_option maxRecDepth 100000 in
theorem Tryz.pdqsort_nil (w:World):Calls Tryz.prog 214 #[.slice none 0 0,.int .i64 0,.int .i64 0,.int .i64 0] w fun e w'=>e = .returned (.tuple #[]) /\ w'=w:=by
 go_enter Tryz.func214,Tryz.ntmps214
 go_wp2
 refine wp_loop_rounds 1 ?_
 rw[rounds_succ]
 go_wp2_with (first|(go_at_call 237;refine(Tryz.insertion_nil _).mono ?_;rintro e w' ⟨rfl,rfl⟩))
 refine bodyPost_ret (results_none rfl _ _ _) rfl ?_
 exact⟨rfl,rfl⟩
theorem Tryz.bitsLen0 (w:World):Calls Tryz.prog 215 #[.int .u64 0] w fun e w'=>e = .returned (.int .i64 0) /\ w'=w :=
 (calls_of_every_depth fun D=>AnyS.bits_LenIn (P:=Tryz.prog) (ρ:=Tryz.sortL_ren) { Tryz.sortL with } D 0 w (by omega) (by omega))
set_option maxRecDepth 100000 in
theorem Tryz.sort_nil (w:World):Calls Tryz.prog 194 #[.slice none 0 0] w fun e w'=>e = .returned (.tuple #[]) /\ w'=w:=by
 go_enter Tryz.func194,Tryz.ntmps194
 go_wp2_with (first
  | (go_at_call 215;refine(Tryz.bitsLen0 _).mono ?_;rintro e w' ⟨rfl,rfl⟩)
  | (go_at_call 214;refine(Tryz.pdqsort_nil _).mono ?_;rintro e w' ⟨rfl,rfl⟩))
 go_end0
 exact⟨rfl,rfl⟩
open Go.RowKit Go.Sort Go.Shelf
set_option maxHeartbeats 4000000
theorem Tryz.clip_run (w:World) (blk off n cap:Nat) (h:n <= cap) (hn:n<70368744177664) (h0:0<n):Calls Tryz.prog 44 #[.slice (some ⟨blk,off,none⟩) n cap] w fun e w'=>e = .returned (.slice (some ⟨blk,off,none⟩) n n) /\ w'=w:=by
 go_enter Tryz.func44,Tryz.ntmps44
 go_wp2
 refine bodyPost_ret (results_tmp rfl _ _ _) rfl ?_
 exact⟨rfl,rfl⟩
end Go.Proofs
namespace Go.Dm
theorem HR.alias {K:Kn} {μ:Mu} {H:Heap} {W:World} (h:HR K μ H W) {a:Nat} {l:Loc} {w:Nat} {rows:List (List D)} {kc:Option Nat} (hm:μ a=some l) (hH:H[a]?=some (.ar w rows kc true true)) :
  HR K (μ.upd H.length l) (H++[.ar w rows (some rows.length) true true]) W /\ Nx K μ H W K (μ.upd H.length l) (H++[.ar w rows (some rows.length) true true]) W:=by
 obtain⟨b,hb⟩ : ∃ b:Blk,b = .ar w rows (some rows.length) true true:=⟨_,rfl⟩
 rw[<- hb]
 have hlive:b.live=false:=by rw[hb];rfl
 have he:=Ext.push (K:=K) h.dom l b
 have hbk:BlkR K (μ.upd H.length l) (H++[b]) W l b:=by
  have:=h.blk a l _ hm hH
  obtain⟨h1,h2,h3,h4⟩:=this
  subst hb
  refine⟨rfl,h2,fun c hc=>by cases hc;exact Nat.le_refl _,fun i r j d e1 e2 => ?_⟩
  obtain⟨v,q1,q2⟩:=h4 i r j d e1 e2
  exact⟨v,q1,q2.ext he⟩
 have cas : ∀ id l' b',(μ.upd H.length l) id=some l' -> (H++[b])[id]?=some b' -> (id=H.length /\ l'=l /\ b'=b) \/ (id<H.length /\ μ id=some l' /\ H[id]?=some b'):=by
  intro id l' b' x c
  simp only[Mu.upd]at x
  split at x
  ·rename_i hid;subst hid
   left
   have:b=b':=by simpa using c
   exact⟨rfl,by simpa using x.symm,this.symm⟩
  ·have hlt:=h.dom id l' x
   rw[List.getElem?_append_left hlt]at c
   exact .inr ⟨hlt,x,c⟩
 have lt' : ∀ id l',(μ.upd H.length l) id=some l' -> (id=H.length /\ l'=l) \/ (id<H.length /\ μ id=some l'):=by
  intro id l' x
  simp only[Mu.upd]at x
  split at x
  ·rename_i hid;exact .inl ⟨hid,by simpa using x.symm⟩
  ·exact .inr ⟨h.dom id l' x,x⟩
 have og : ∀ r,Own (μ.upd H.length l) (H++[b]) r -> Own μ H r:=by
  rintro r ⟨id,l',b',x,c,e,f⟩
  rcases cas id l' b' x c with⟨_,_,rfl⟩|⟨_,a',c'⟩
  ·rw[hlive]at e;cases e
  ·exact⟨id,l',b',a',c',e,f⟩
 refine ⟨⟨fun id l' x => ?_,fun id hid => ?_,fun id l' b' x c => ?_,fun id l' x => ?_,fun id id' l1 l2 b1 b2 a1 a2 c1 c2 e1 e2 e => ?_,h.kn,fun b' o' v e ho=>h.kf b' o' v e (og _ ho)⟩,
  ⟨he,rfl,rfl,rfl,Nat.le_refl _,fun _ _ _=>rfl,fun r ho => .inl (og r ho),fun _ _ _ e => .inl e⟩⟩
 ·rcases lt' id l' x with⟨rfl,_⟩|⟨x,_⟩<;>simp<;>omega
 ·simp only[List.length_append,List.length_singleton]at hid
  by_cases hi:id=H.length
  ·exact⟨l,by simp[Mu.upd,hi]⟩
  ·obtain⟨l',hl'⟩:=h.tot id (by omega)
   exact⟨l',by simp[Mu.upd,hi,hl']⟩
 ·rcases cas id l' b' x c with⟨_,rfl,rfl⟩|⟨_,a',c'⟩
  ·exact hbk
  ·exact(h.blk id l' b' a' c').ext he (fun _=>rfl)
 ·rcases lt' id l' x with⟨_,rfl⟩|⟨_,a'⟩
  ·exact h.lt a l' hm
  ·exact h.lt id l' a'
 ·rcases cas id l1 b1 a1 c1 with⟨x1,y1,z1⟩|⟨x1,a1',c1'⟩<;>rcases cas id' l2 b2 a2 c2 with⟨x2,y2,z2⟩|⟨x2,a2',c2'⟩
  ·omega
  ·subst z1;rw[hlive]at e1;cases e1
  ·subst z2;rw[hlive]at e2;cases e2
  ·exact h.inj id id' l1 l2 b1 b2 a1' a2' c1' c2' e1 e2 e
end Go.Dm
namespace Go.Proofs.YtgefdialaemelaaGreatDoor.Dv
open Go.Dm Go.Proofs
theorem clip_sim {a n off len:Nat} {H H':Heap} {d:D} (h:clipA a n off len H=some (d,H')):H.length <= H'.length /\ ∀ (K:Kn) (μ:Mu) (W:World) (v:Value),HR K μ H W -> VR K μ H (.mu a n off len) v -> Calls Tryz.prog 44 #[v] W (Gives K μ H W d H'):=by
 unfold clipA at h
 split at h
 ·rename_i rows cap harr
  split at h
  ·rename_i hc
   obtain⟨rfl,rfl,hpos,hlim⟩:=hc
   cases h
   obtain⟨hH,hn⟩:=arr_eq harr
   refine⟨by simp,fun K μ W v hr hv => ?_⟩
   cases hv with
   | mu _ _ _ _ _ _ cp blk o lc w2 rows2 kc2 p2 lk2 hm hH2 hnn hcond =>
    rw[hH]at hH2
    cases hH2
    obtain⟨hadr,h2,hcp,h4,hsz,h6⟩:=hcond hn
    refine(Tryz.clip_run W blk o len cp hcp hlim hpos).mono ?_
    rintro e W' ⟨rfl,rfl⟩
    obtain⟨g1,g2⟩:=hr.alias hm hH
    rw[hn]at g1 g2
    have hsz':lc.off+len*11 <= lc.size:=by
     have:len*11 <= (0+cp)*11:=Nat.mul_le_mul_right _ (by omega)
     omega
    exact⟨K,_,g1,g2,.mu _ _ H.length len 0 len len blk o lc 11 rows (some len) true true (by simp[Mu.upd]) (by simp) (by omega) (fun _=>⟨.inr (by rcases hadr with x|⟨x,y⟩<;>first|omega|exact⟨x,y⟩),by omega,Nat.le_refl _,by omega,by omega,fun c hc=>by cases hc;omega⟩)⟩
  ·cases h
 ·cases h
open Go.Dm Go.Proofs Go.ChangeMaps
theorem vrs_one {K:Kn} {μ:Mu} {H:Heap} {x:D} {vs:List Value} (h:VRs K μ H [x] vs) : ∃ v,vs=[v] /\ VR K μ H x v:=by
 match vs,h.1 with
 | [v],_=>exact⟨v,rfl,h.2 0 _ _ rfl rfl⟩
theorem vrs_two {K:Kn} {μ:Mu} {H:Heap} {x y:D} {vs:List Value} (h:VRs K μ H [x,y] vs) : ∃ v w,vs=[v,w] /\ VR K μ H x v /\ VR K μ H y w:=by
 match vs,h.1 with
 | [v,w],_=>exact⟨v,w,rfl,h.2 0 _ _ rfl rfl,h.2 1 _ _ rfl rfl⟩
theorem known79:Known Tryz.prog 195:=⟨Tryz.f195,Tryz.func195,by kernel_rfl,by decide +kernel⟩
theorem known187:Known Tryz.prog 194:=⟨Tryz.f194,Tryz.func194,by kernel_rfl,by decide +kernel⟩
theorem known225:Known Tryz.prog 296:=⟨Tryz.f296,Tryz.func296,by kernel_rfl,by decide +kernel⟩
theorem known44:Known Tryz.prog 44:=⟨Tryz.f44,Tryz.func44,by kernel_rfl,by decide +kernel⟩
theorem ext_sim (f:FuncId) (args:List D) (H:Heap) (d:D) (H':Heap) (h:extE f args H=some (d,H')):H.length <= H'.length /\ Known Tryz.prog f /\ ∀ (K:Kn) (μ:Mu) (W:World) (vs:List Value),GlobT K W -> HR K μ H W -> VRs K μ H args vs -> Calls Tryz.prog f vs.toArray W (Gives K μ H W d H'):=by
 unfold extE at h
 split at h
 ·rename_i hf
  subst hf
  split at h
  ·obtain⟨h1,h2⟩:=cut_sim h
   refine⟨h1,known79,fun K μ W vs hT hr hv => ?_⟩
   obtain⟨v,w,rfl,hx,hy⟩:=vrs_two hv
   exact h2 K μ W v w hT hr hx hy
  ·cases h
 split at h
 ·rename_i hf
  subst hf
  split at h
  ·cases h
   refine⟨Nat.le_refl _,known187,fun K μ W vs hT hr hv => ?_⟩
   obtain⟨v,rfl,hx⟩:=vrs_one hv
   cases hx
   refine(Tryz.sort_nil W).mono ?_
   rintro e W' ⟨rfl,rfl⟩
   exact⟨K,μ,hr,.refl _ _ _ _,tu0⟩
  ·obtain⟨h1,h2⟩:=sort_sim h
   refine⟨h1,known187,fun K μ W vs hT hr hv => ?_⟩
   obtain⟨v,rfl,hx⟩:=vrs_one hv
   exact h2 K μ W v hr hx
  ·cases h
 split at h
 ·rename_i hf
  subst hf
  split at h
  ·cases h
   refine⟨Nat.le_refl _,known225,fun K μ W vs hT hr hv => ?_⟩
   obtain⟨v,rfl,hx⟩:=vrs_one hv
   cases hx
   refine(Any.slices_Compact_int_empty Tryz.compL none 0 W).mono ?_
   rintro e W' ⟨rfl,rfl⟩
   exact⟨K,μ,hr,.refl _ _ _ _,.nil ..⟩
  ·obtain⟨h1,h2⟩:=comp_sim h
   refine⟨h1,known225,fun K μ W vs hT hr hv => ?_⟩
   obtain⟨v,rfl,hx⟩:=vrs_one hv
   exact h2 K μ W v hr hx
  ·cases h
 split at h
 ·rename_i hf
  subst hf
  split at h
  ·obtain⟨h1,h2⟩:=clip_sim h
   refine⟨h1,known44,fun K μ W vs hT hr hv => ?_⟩
   obtain⟨v,rfl,hx⟩:=vrs_one hv
   exact h2 K μ W v hr hx
  ·cases h
 ·cases h
theorem mixedZ:Tryz.prog.follows .mixedOrders=true:=by kernel_rfl
theorem vok1:VOK Tryz.prog V1 GlobT:=vokx (e:=extE) (p:=fun _ _=>none) globT_up ext_sim (fun _ _ _ _ _ h=>by cases h) (fun g w rows h K W hT=>hT.g g w rows h)
set_option maxRecDepth 100000
def vR:List VOper:=[⟨.mov (.s 15),none,none⟩,⟨.stk,some 20,none⟩]
theorem okA0:okCode Tryz.prog V1 93 tm173 bs173 (sL b104) (c104 0)=true:=by kernel_rfl
theorem okA1:okCode Tryz.prog V1 93 tm173 bs173 (sL (sR b104)) (c104 1)=true:=by kernel_rfl
theorem okA2:okCode Tryz.prog V1 93 tm173 bs173 (sL (sR (sR b104))) (c104 2)=true:=by kernel_rfl
theorem okA3:okCode Tryz.prog V1 93 tm173 bs173 (sL (sR (sR (sR b104)))) (c104 3)=true:=by kernel_rfl
theorem okR:okRegion Tryz.prog V1 93 tm173 bs173 (regO qRange) none vR=true:=by kernel_rfl
theorem okN:okRegion Tryz.prog V1 93 tm2 [] (regO qNext) none wv12=true:=by kernel_rfl
theorem okE:okRegion Tryz.prog V1 93 tm2 [] (regO qEntry) none wv13=true:=by kernel_rfl
theorem okB:okCode Tryz.prog V1 93 tm2 [] qRound wv14=true:=by kernel_rfl
theorem okS:okCode Tryz.prog V1 93 tm2 [] qSort wv16=true:=by kernel_rfl
theorem okF:okCode Tryz.prog V1 93 tm2 [] qRes wv17=true:=by kernel_rfl
theorem nd104:nodup tm173=true:=by kernel_rfl
theorem lt104 : ∀ t∈tm173,t<93:=by decide
theorem nd2:nodup tm2=true:=by kernel_rfl
theorem lt2 : ∀ t∈tm2,t<93:=by decide
theorem opR : ∃ o,(regO qRange)[1]?=some o /\ o.op = .range 272 (.tmp 73) /\ o.dst=some 74 /\ o.guard=none:=⟨(regO qRange)[1]!,by kernel_rfl,by kernel_rfl,by kernel_rfl,by kernel_rfl⟩
theorem opN : ∃ o,(regO qNext)[0]?=some o /\ o.op = .next (.tmp 74) false /\ o.dst=some 75 /\ o.guard=none:=⟨(regO qNext)[0]!,by kernel_rfl,by kernel_rfl,by kernel_rfl,by kernel_rfl⟩
theorem opEn : ∃ o,(regO qEntry)[0]?=some o /\ o.op = .entry (.tmp 74) /\ o.dst=some 77 /\ o.guard=none:=⟨(regO qEntry)[0]!,by kernel_rfl,by kernel_rfl,by kernel_rfl,by kernel_rfl⟩
theorem szR:(regO qRange).size=2:=by kernel_rfl
theorem szN:(regO qNext).size=2:=by kernel_rfl
theorem szE:(regO qEntry).size=3:=by kernel_rfl
theorem body104:Tryz.f173.body=some b104:=by kernel_rfl
theorem res104:okRes Tryz.prog tm2 [] Tryz.f173.results.toList [.s 6]=true:=by kernel_rfl
open Go.Dm Go.Proofs Go.ChangeMaps
def valI (e:MapEntry):Int:=match e.val with
 | .int _ n=>n
 | _=>0
def lstV (rows:List (List D)) (vis:List MapEntry):List Int:=(vis.filter fun e => !clO rows[(valI e).toNat]!).map valI
structure Ent (rows:List (List D)) (e:MapEntry):Prop where
 k : ∃ s:List UInt8,e.key = .string ⟨s.toArray⟩
 v : ∃ i:Nat,i<rows.length /\ e.val = .int .i64 i
abbrev iHd:Blk := .ar 1 [] (some 0) true true
theorem hL_0 (l:List Int):(hL l)[0]?=some iHd:=by
 unfold hL bH
 cases l.map iRow<;>rfl
section
variable {E:En} {x0 x1 x2 c:D} {rows:List (List D)} {mes:Array MapEntry} {clock bm r:Nat}
structure LM (mes:Array MapEntry) (clock bm r:Nat) (vis:List MapEntry) (K:Kn) (μ:Mu) (H:Heap) (W:World):Prop where
 ar:Apart K μ H W r
 am:Apart K μ H W bm
 μ0:μ 0=some ⟨r,0,0⟩
 it:W.heap[r]?=some (.mapIter (some bm) clock (vis.map (·.born)).toArray clock)
 hm:W.heap[bm]?=some (.map mes clock)
theorem LM.nx {vis:List MapEntry} {K K':Kn} {μ μ':Mu} {H H':Heap} {W W':World} (h:LM mes clock bm r vis K μ H W) (h0:H[0]?=some iHd) (h1:H'[0]?=some iHd) (nx:Nx K μ H W K' μ' H' W'):LM mes clock bm r vis K' μ' H' W':=by
 obtain⟨l,b,g1,g2,be⟩:=nx.ext.m 0 _ _ h.μ0 h0
 rw[h1]at g2
 cases g2
 have hl:l=⟨r,0,0⟩:=by
  cases be with
  | ar _ _ _ _ _ _ _ _ _ _ hs _=>exact((hs rfl).1).symm
 obtain⟨a1,a2⟩:=h.ar.nx nx
 obtain⟨b1,b2⟩:=h.am.nx nx
 exact⟨a1,b1,by rw[g1,hl],by rw[a2];exact h.it,by rw[b2];exact h.hm⟩
structure LI (E:En) (x0 x1 x2 c:D) (l:List Int) (mes:Array MapEntry) (clock bm r:Nat) (vis:List MapEntry) (K:Kn) (μ:Mu) (j2 j4 j5 j6:D) (a:Act) (W:World):Prop where
 fs:FS E tm2 [] K μ (fun _=>none) [.ip [x0,x1,x2,c],dL l,j2,.aa 0,j4,j5,j6] (hL l) a.tmps W
 lm:LM mes clock bm r vis K μ (hL l) W
 sz:a.tmps.size=93
 df:a.defers=[]
theorem LI.ptr {l:List Int} {vis:List MapEntry} {K:Kn} {μ:Mu} {j2 j4 j5 j6:D} {a:Act} {W:World} (h:LI E x0 x1 x2 c l mes clock bm r vis K μ j2 j4 j5 j6 a W):a.eval (.tmp 74) = .pointer (some ⟨r,0,none⟩):=by
 obtain⟨d,v,h1,h2,h3⟩:=h.fs.val 3 74 rfl rfl
 cases h1
 cases h3 with
 | aa _ _ _ l w rows c p lk hm hH =>
  rw[h.lm.μ0]at hm
  cases hm
  show a.tmps.getD 74 undef=_
  rw[Array.getD_eq_getD_getElem?,h2];rfl
theorem LI.bool {l:List Int} {vis:List MapEntry} {K:Kn} {μ:Mu} {j2 j5 j6:D} {x:Bool} {a:Act} {W:World} (h:LI E x0 x1 x2 c l mes clock bm r vis K μ j2 (.b x) j5 j6 a W):a.eval (.tmp 76) = .bool x:=by
 obtain⟨d,v,h1,h2,h3⟩:=h.fs.val 4 76 rfl rfl
 cases h1
 cases h3
 show a.tmps.getD 76 undef=_
 rw[Array.getD_eq_getD_getElem?,h2];rfl
theorem run_v {P:Program} {o:Oper} {ev:Operand -> Value} {W W':World} {v:Value} {s:Sem Value} (h:s.run P W = .ok v W') (ho:execOp ev o=(do pure (.value (<- s)))):(execOp ev o).run P W = .ok (.value v) W':=by
 rw[ho]
 simp only[Sem.run_bind,h,Result.andThen_ok,Sem.run_pure]
theorem lst_snoc {vis:List MapEntry} {e:MapEntry} {i:Nat} (he:e.val = .int .i64 i):lstV rows (vis++[e])=if clO rows[i]! then lstV rows vis else lstV rows vis++[(i:Int)]:=by
 have hv:valI e=i:=by unfold valI;rw[he]
 unfold lstV
 rw[List.filter_append,List.map_append]
 have e1:(valI e).toNat=i:=by rw[hv];exact Int.toNat_natCast i
 cases h:clO rows[i]! with
 | true=>rw[List.filter_cons,e1,h];simp
 | false=>rw[List.filter_cons,e1,h];simp[hv]
theorem lst_len {vis:List MapEntry}:(lstV rows vis).length <= vis.length:=by
 unfold lstV
 rw[List.length_map]
 exact List.length_filter_le _ _
theorem LI.base {l:List Int} {vis:List MapEntry} {K:Kn} {μ:Mu} {j2 j4 j5 j6:D} {a:Act} {W:World} (h:LI E x0 x1 x2 c l mes clock bm r vis K μ j2 j4 j5 j6 a W) (hT:TE GlobT E):TE GlobT ⟨K,μ,hL l,W⟩:=⟨vok1.up hT.1 hT.2 h.fs.nx,h.fs.hr⟩
theorem LI.over {l l':List Int} {vis:List MapEntry} {K K':Kn} {μ μ':Mu} {L':Nat -> Option Nat} {j2 j4 j5 j6 k2 k4 k5 k6:D} {a a':Act} {W W':World} (h:LI E x0 x1 x2 c l mes clock bm r vis K μ j2 j4 j5 j6 a W)
  (fs:FS ⟨K,μ,hL l,W⟩ tm2 [] K' μ' L' [.ip [x0,x1,x2,c],dL l',k2,.aa 0,k4,k5,k6] (hL l') a'.tmps W') (hs:a'.tmps.size=93) (hd:a'.defers=[]):LI E x0 x1 x2 c l' mes clock bm r vis K' μ' k2 k4 k5 k6 a' W' :=
 ⟨h.fs.over fs,h.lm.nx (hL_0 l) (hL_0 l') fs.nx,hs,hd⟩
theorem tu1 {K:Kn} {μ:Mu} {H:Heap} {d:D} {v:Value} (h:VR K μ H d v):VR K μ H (.tu [d]) (.tuple #[v]) := .tu _ _ _ [_] rfl (fun j d v e1 e2=>by
 match j,e1,e2 with
 | 0,e1,e2=>cases e1;cases e2;exact h)
theorem tu2 {K:Kn} {μ:Mu} {H:Heap} {d e:D} {v w:Value} (h:VR K μ H d v) (h':VR K μ H e w):VR K μ H (.tu [d,e]) (.tuple #[v,w]) := .tu _ _ _ [_,_] rfl (fun j d v e1 e2=>by
 match j,e1,e2 with
 | 0,e1,e2=>cases e1;cases e2;exact h
 | 1,e1,e2=>cases e1;cases e2;exact h')
theorem tu3 {K:Kn} {μ:Mu} {H:Heap} {d e f:D} {v w x:Value} (h:VR K μ H d v) (h':VR K μ H e w) (h'':VR K μ H f x):VR K μ H (.tu [d,e,f]) (.tuple #[v,w,x]) := .tu _ _ _ [_,_,_] rfl (fun j d v e1 e2=>by
 match j,e1,e2 with
 | 0,e1,e2=>cases e1;cases e2;exact h
 | 1,e1,e2=>cases e1;cases e2;exact h'
 | 2,e1,e2=>cases e1;cases e2;exact h'')
theorem next_step {Q:Exit -> Act -> World -> Prop} (hT:TE GlobT E) {l:List Int} (hb:Born mes clock) (hE:E.w.heap.size <= r) (hne:r≠bm) (hent : ∀ e∈mes.toList,Ent rows e) {vis:List MapEntry} {K:Kn} {μ:Mu} {j2 j4 j5 j6:D} {a:Act} {W:World} (h:LI E x0 x1 x2 c l mes clock bm r vis K μ j2 j4 j5 j6 a W)
  (h0:(leftOf mes (vis.map (·.born)).toArray).size=0 -> ∀ K' μ' a' W',LI E x0 x1 x2 c l mes clock bm r vis K' μ' j2 (.b false) j5 j6 a' W' -> Q .normal a' W')
  (h1 : ∀ e∈(leftOf mes (vis.map (·.born)).toArray).toList, ∀ K' μ' a' W',LI E x0 x1 x2 c l mes clock bm r (vis++[e]) K' μ' j2 (.b true) j5 j6 a' W' -> Q .normal a' W') :
  qNext.wpIn (FW none) 0 Tryz.prog Q a W:=by
 obtain⟨rg,back,hfirst,_⟩:=reg_of okN nd2 lt2
 obtain⟨o,ho,hop,hdst,hg⟩:=opN
 have hit:=h.lm.it
 have hold : ∀ x∈mes.toList,x.born<clock:=hb.lt
 rw[qNext_eq]
 refine wpIn_region ?_
 rw[szN,show List.range 2=[0,1]from rfl]
 have ri:RI (cxOf Tryz.prog V1 93 tm2 [] (regO qNext) wv12) E [] (fun j=>j<0) (fun _=>none) K μ [.u,.u] [.ip [x0,x1,x2,c],dL l,j2,.aa 0,j4,j5,j6] (hL l) a W :=
  ⟨h.fs,fun j o vo t hj=>absurd hj (by omega),h.sz,h.df,rfl⟩
 have hrun:=run_next_at (P:=Tryz.prog) W o.type r bm clock clock (vis.map (·.born)).toArray mes clock hit h.lm.hm hold (Nat.le_refl _)
 have hex:execOp a.eval o=(do pure (.value (<- Instr.next (.pointer (some ⟨r,0,none⟩)) false o.type))):=by
  unfold execOp
  rw[hop, <- h.ptr]
 have step1 : ∀ {x:Bool} {d:D} {vis':List MapEntry} {a1:Act} {W1:World} {xs:List D},d = .tu (.b x::xs) -> LI E x0 x1 x2 c l mes clock bm r vis' K μ j2 j4 j5 j6 a1 W1 ->
   RI (cxOf Tryz.prog V1 93 tm2 [] (regO qNext) wv12) E [] (fun j=>j=0 \/ j<0) (fun _=>none) K μ [d,.u] [.ip [x0,x1,x2,c],dL l,j2,.aa 0,j4,j5,j6] (hL l) a1 W1 ->
   (∀ K' μ' a' W',LI E x0 x1 x2 c l mes clock bm r vis' K' μ' j2 (.b x) j5 j6 a' W' -> Q .normal a' W') -> wpOpsIn (FW none) 0 Tryz.prog (regO qNext) Q [1] a1 W1:=by
  rintro x d vis' a1 W1 xs rfl hl ri1 hk
  rw[wpOpsIn_cons]
  have ri1':RI (cxOf Tryz.prog V1 93 tm2 [] (regO qNext) wv12) ⟨K,μ,hL l,W1⟩ [] (fun j=>j=0 \/ j<0) (fun _=>none) K μ [.tu (.b x::xs),.u] [.ip [x0,x1,x2,c],dL l,j2,.aa 0,j4,j5,j6] (hL l) a1 W1:=⟨hl.fs.base,ri1.lr,ri1.sz,ri1.df,ri1.ln⟩
  refine one_step rg ri1' vok1 (hl.base hT) (call_sim mixedZ vok1 0) (i:=1) (vo:=⟨.ext (.l 0) 0,some 4,none⟩) rfl (by decide) (by intro hx;cases hx) (dr:=none) (loc1:=[.tu (.b x::xs),.b x]) (st1:=⟨[.ip [x0,x1,x2,c],dL l,j2,.aa 0,.b x,j5,j6],hL l⟩) rfl (fun L' K' μ' a' W' r2 => ?_)
  exact hk K' μ' a' W' (hl.over r2.fs r2.sz r2.df)
 rcases hrun with⟨hz,hrun⟩|⟨e,hel,w1,hw1,hrun⟩
 ·rw[wpOpsIn_cons]
  refine op_hand rg ri ho (vo:=⟨.stk,none,none⟩) rfl hg rfl rfl (by rw[hop];intro cl e;cases e) (run_v hrun hex) (d := .tu [.b false]) h.fs (.refl _ _ _) (tu1 (.b ..)) (fun ri1 => ?_)
  exact step1 rfl ⟨ri1.fs,h.lm,ri1.sz,ri1.df⟩ ri1 (h0 hz)
 ·obtain ⟨hem,hes⟩:=left_mem hel
  obtain⟨⟨ks,hks⟩,⟨i,hi,hvs⟩⟩:=hent e hem
  have hw1r:w1.heap=W.heap:=by rcases hw1 with rfl|rfl<;>rfl
  have fs1:FS E tm2 [] K μ (fun _=>none) [.ip [x0,x1,x2,c],dL l,j2,.aa 0,j4,j5,j6] (hL l) a.tmps w1:=by
   rcases hw1 with rfl|rfl
   ·exact h.fs
   ·exact h.fs.drew
  have ar1:Apart K μ (hL l) w1 r:=⟨h.lm.ar.own,h.lm.ar.kn,by rw[hw1r];exact h.lm.ar.lt⟩
  have fs2:=fs1.blk ar1 hE (.mapIter (some bm) clock ((vis.map (·.born)).toArray.push e.born) clock)
  have lm2:LM mes clock bm r (vis++[e]) K μ (hL l) (setBlock w1 r (.mapIter (some bm) clock ((vis.map (·.born)).toArray.push e.born) clock)):=by
   refine⟨⟨h.lm.ar.own,h.lm.ar.kn, ?_⟩,⟨h.lm.am.own,h.lm.am.kn, ?_⟩,h.lm.μ0, ?_, ?_⟩
   ·simpa [setBlock,hw1r]using h.lm.ar.lt
   ·simpa [setBlock,hw1r]using h.lm.am.lt
   ·rw[show(setBlock w1 r (.mapIter (some bm) clock ((vis.map (·.born)).toArray.push e.born) clock)).heap[r]?=_ from World.putObj_heap_same (w:=w1) (by rw[hw1r];exact h.lm.ar.lt)]
    simp
   ·rw[show(setBlock w1 r (.mapIter (some bm) clock ((vis.map (·.born)).toArray.push e.born) clock)).heap[bm]?=_ from World.putObj_heap_other (w:=w1) (Ne.symm hne),hw1r]
    exact h.lm.hm
  rw[wpOpsIn_cons]
  refine op_hand rg ri ho (vo:=⟨.stk,none,none⟩) rfl hg rfl rfl (by rw[hop];intro cl e;cases e) (run_v hrun hex) (d := .tu [.b true,.s ks,.i .i64 i]) fs2 (.refl _ _ _) (tu3 (.b ..) (by rw[hks];exact .s ..) (by rw[hvs];exact .i ..)) (fun ri1 => ?_)
  exact step1 rfl ⟨ri1.fs,lm2,ri1.sz,ri1.df⟩ ri1 (h1 e hel)
theorem entry_step {Q:Exit -> Act -> World -> Prop} (hT:TE GlobT E) {l:List Int} (hb:Born mes clock) {vis:List MapEntry} {e:MapEntry} (hem:e∈mes.toList) {ks:List UInt8} {i:Nat} (hks:e.key = .string ⟨ks.toArray⟩) (hvs:e.val = .int .i64 i) {K:Kn} {μ:Mu} {j2 j4 j5 j6:D} {a:Act} {W:World} (h:LI E x0 x1 x2 c l mes clock bm r (vis++[e]) K μ j2 j4 j5 j6 a W)
  (hQ : ∀ K' μ' a' W',LI E x0 x1 x2 c l mes clock bm r (vis++[e]) K' μ' (.i .i64 i) j4 j5 j6 a' W' -> Q .normal a' W') :
  qEntry.wpIn (FW none) 0 Tryz.prog Q a W:=by
 have hit:W.heap[r]?=some (.mapIter (some bm) clock ((vis.map (·.born)).toArray.push e.born) clock):=by rw[h.lm.it];simp
 obtain⟨rg,back,hfirst,_⟩:=reg_of okE nd2 lt2
 obtain⟨o,ho,hop,hdst,hg⟩:=opEn
 rw[qEntry_eq]
 refine wpIn_region ?_
 rw[szE,show List.range 3=[0,1,2]from rfl]
 have ri:RI (cxOf Tryz.prog V1 93 tm2 [] (regO qEntry) wv13) ⟨K,μ,hL l,W⟩ [] (fun j=>j<0) (fun _=>none) K μ [.u,.u,.u] [.ip [x0,x1,x2,c],dL l,j2,.aa 0,j4,j5,j6] (hL l) a W :=
  ⟨h.fs.base,fun j o vo t hj=>absurd hj (by omega),h.sz,h.df,rfl⟩
 have hrun:=run_entry_at (P:=Tryz.prog) W r bm clock (vis.map (·.born)).toArray mes clock e hit h.lm.hm hem hb.nd
 have hex:execOp a.eval o=(do pure (.value (<- Instr.entry (.pointer (some ⟨r,0,none⟩))))):=by
  unfold execOp
  rw[hop, <- h.ptr]
 rw[wpOpsIn_cons]
 refine op_hand rg ri ho (vo:=⟨.stk,none,none⟩) rfl hg rfl rfl (by rw[hop];intro cl e;cases e) (run_v hrun hex) (d := .tu [.s ks,.i .i64 i]) h.fs.base (.refl _ _ _) (tu2 (by rw[hks];exact .s ..) (by rw[hvs];exact .i ..)) (fun ri1 => ?_)
 rw[wpOpsIn_cons]
 refine one_step rg ri1 vok1 (h.base hT) (call_sim mixedZ vok1 0) (i:=1) (vo:=⟨.ext (.l 0) 1,none,none⟩) rfl (by decide) (by intro hx;cases hx) (dr:=none) (loc1:=[.tu [.s ks,.i .i64 i],.i .i64 i,.u]) (st1:=⟨[.ip [x0,x1,x2,c],dL l,j2,.aa 0,j4,j5,j6],hL l⟩) rfl (fun L' K' μ' a' W' r2 => ?_)
 rw[wpOpsIn_cons]
 refine one_step rg r2 vok1 (h.base hT) (call_sim mixedZ vok1 0) (i:=2) (vo:=⟨.mov (.l 1),some 2,none⟩) rfl (by decide) (by intro hx;cases hx) (dr:=none) (loc1:=[.tu [.s ks,.i .i64 i],.i .i64 i,.i .i64 i]) (st1:=⟨[.ip [x0,x1,x2,c],dL l,.i .i64 i,.aa 0,j4,j5,j6],hL l⟩) rfl (fun L2 K2 μ2 a2 W2 r3 => ?_)
 exact hQ K2 μ2 a2 W2 (h.over r3.fs r3.sz r3.df)
end
open Go.Dm Go.Proofs Go.ChangeMaps
section
variable {E:En} {x0 x1 x2 c:D} {rows:List (List D)} {mes:Array MapEntry} {clock bm r:Nat}
theorem map_loop {Q:Exit -> Act -> World -> Prop} (hT:TE GlobT E) (hc:Sl 24 rows c) (hcl:rows.all clOk=true) (hl:mes.size<1099511627776) (hb:Born mes clock) (hE:E.w.heap.size <= r) (hne:r≠bm) (hent : ∀ e∈mes.toList,Ent rows e)
  {K:Kn} {μ:Mu} {j2 j4 j5 j6:D} {a:Act} {W:World} (h:LI E x0 x1 x2 c [] mes clock bm r [] K μ j2 j4 j5 j6 a W)
  (hQ : ∀ (vis:List MapEntry) K' μ' j2' j4' j5' a' W',LI E x0 x1 x2 c (lstV rows vis) mes clock bm r vis K' μ' j2' j4' j5' j6 a' W' -> vis.Perm mes.toList -> Q .normal a' W') :
  (Code.block 2 (.loop (.seq qNext (.seq (.cond (.tmp 76) .skip (.exit 2)) (.block 3 (.seq qEntry qRound)))))).wpIn (FW none) 0 Tryz.prog Q a W:=by
 refine wpIn_block (wpIn_loop (fun a W => ∃ vis K μ j2 j4 j5,LI E x0 x1 x2 c (lstV rows vis) mes clock bm r vis K μ j2 j4 j5 j6 a W /\ (∀ e∈vis,e∈mes.toList) /\ (vis.map (·.born)).Nodup) (fun _ W=>match W.heap[r]? with|some (.mapIter _ _ seen _)=>mes.size-seen.size|_=>0) ⟨[],K,μ,j2,j4,j5,h,fun e he=>(by cases he),by simp⟩ ?_)
 rintro a W ⟨vis,K,μ,j2,j4,j5,h,hsub,hnd⟩
 refine wpIn_seq (next_step hT hb hE hne hent h (fun hz K' μ' a' W' h' => ?_) (fun e he K' μ' a' W' h' => ?_))
 ·refine wpIn_seq (wpIn_cond_false h'.bool (wpIn_exit ?_))
  have:=hQ vis K' μ' _ _ _ a' W' h' (vis_perm hb hsub hnd (fun e he=>by simpa using left_zero hz e he))
  simpa only[Exit.then,Exit.inBlock,if_true]using this
 ·obtain ⟨hem,hes⟩:=left_mem he
  obtain⟨⟨ks,hks⟩,⟨i,hi,hvs⟩⟩:=hent e hem
  have hsub' : ∀ x∈vis++[e],x∈mes.toList:=fun x hx=>by
   rcases List.mem_append.1 hx with hx|hx
   ·exact hsub x hx
   ·rw[List.mem_singleton.1 hx];exact hem
  have hnd':((vis++[e]).map (·.born)).Nodup:=by
   rw[List.map_append]
   refine List.nodup_append.2 ⟨hnd,by simp,fun x hx y hy => ?_⟩
   simp only[List.map_cons,List.map_nil,List.mem_singleton]at hy
   subst hy
   intro exy
   subst exy
   exact hes (by simpa using hx)
  have hlen:vis.length+1 <= mes.size:=by
   have:=vis_len hb hsub' hnd'
   simpa using this
  refine wpIn_seq (wpIn_cond_true h'.bool (wpIn_skip ?_))
  refine wpIn_block (wpIn_seq (entry_step hT hb hem hks hvs h' (fun K2 μ2 a2 W2 h2 => ?_)))
  have hll:(lstV rows vis).length<1099511627776:=by
   have:=lst_len (rows:=rows) (vis:=vis)
   omega
  refine wpIn_mono (run_sim mixedZ vok1 nd2 lt2 (h2.base hT) okB (round_q hc hcl hll hi) ⟨fun _=>none,K2,μ2,h2.fs.base,h2.sz,h2.df⟩ (fun _ _ hq=>hq.1)) ?_
  rintro ex a3 W3 ⟨rfl,st,⟨_,rfl⟩,L3,K3,μ3,fs3,hs3,hd3⟩
  have h3:=h2.over fs3 hs3 hd3
  rw[<- lst_snoc hvs]at h3
  refine⟨⟨vis++[e],K3,μ3,_,_,_,h3,hsub',hnd'⟩, ?_⟩
  have e1:=h3.lm.it
  have e0:=h.lm.it
  simp only[e1,e0]
  simp
  omega
end
theorem smp_vr {d:D} (h:smp d=true) {K K':Kn} {μ μ':Mu} {H H':Heap} {v:Value} (hv:VR K μ H d v) (e : ∀ b o v,K b o=some v -> K' b o=some v):VR K' μ' H' d v:=by
 cases hv<;>first|(cases h;done)|exact .s .. | exact .nil .. | exact .z .. | skip
 rename_i w rows blk off cap f hc hw hk h1 hr
 exact .im _ _ _ _ _ _ _ f hc hw (fun i r j d a b=>e _ _ _ (hk i r j d a b)) h1 (fun i r j d a b=>(hr i r j d a b).ext (Ext.zero e))
theorem sl_smp {w:Nat} {rows:List (List D)} {d:D} (h:Sl w rows d):smp d=true:=by cases h<;>rfl
theorem und236 : ∃ k e,Tryz.prog.underlying 272=some (.map k e):=⟨9,3,by kernel_rfl⟩
theorem cnt_len {rows:List (List D)} {name:List UInt8} {date known:Int} : ∀ n,(cntF rows name date known n).length <= n
 | 0=>Nat.le_refl _
 | n+1=>by
  have put : ∀ (l:List UInt8) (m:List (List UInt8×Nat)),(stL l n m).length <= m.length+1:=by
   intro l m
   induction m with
   | nil=>simp[stL]
   | cons p m ih=>unfold stL;split<;>simp<;>omega
  have ih:=cnt_len (rows:=rows) (name:=name) (date:=date) (known:=known) n
  have p1:=put (clL rows[n]!) (cntF rows name date known n)
  rw[cnt_at]
  unfold cnt1
  split
  ·split
   ·omega
   ·split<;>omega
  ·omega
theorem shed {K0 K:Kn} {μ:Mu} {L:Nat -> Option Nat} {W0 W:World} {x0 x1 x2 c p nm da kn j5 j6 j7 i1 i2 c' j14 j16 j17 j18:D} {m:List (List UInt8×Nat)} {a:Act} {bm r:Nat} {mes:Array MapEntry} {clock:Nat}
  (fs:FS ⟨K0,mu0,[],W0⟩ tm173 bs173 K μ L [p,nm,da,kn,.nil,j5,j6,j7,.u,.u,.bx [x0,x1,x2,c],i1,i2,c',j14,.mp 0,j16,j17,j18,.nil,.ip [],.u] [.mp (esC m)] a.tmps W)
  (hs:a.tmps.size=93) (hd:a.defers=[]) (h0:smp x0=true) (h1:smp x1=true) (h2:smp x2=true) (h3:smp c=true)
  (hp:a.tmps[74]?=some (.pointer (some ⟨r,0,none⟩))) (hr:W.heap[r]?=some (.mapIter (some bm) clock #[] clock)) (hb:W.heap[bm]?=some (.map mes clock))
  (hrK : ∀ o v,K r o≠some v) (hbK : ∀ o v,K bm o≠some v) (hr10 : ∀ k,L k≠some r) (hb10 : ∀ k,L k≠some bm) :
  ∃ K',LI ⟨K0,mu0,[],W0⟩ x0 x1 x2 c [] mes clock bm r [] K' (mu0.upd 0 ⟨r,0,0⟩) .u .u .u .nil a W:=by
 have lt_of : ∀ {x:Nat} {o:Obj},W.heap[x]?=some o -> x<W.heap.size:=fun{x o} e=>by
  rcases Nat.lt_or_ge x W.heap.size with h|h
  ·exact h
  ·rw[Array.getElem?_eq_none h]at e;cases e
 rcases fs.box 10 4 rfl rfl with hbx|⟨r10,cs,vs,ty,hL,hsl,htmp,hheap,hcr⟩
 ·cases hbx
 cases hsl
 obtain⟨o1,o2,o3,o4⟩:=fs.own 10 r10 hL
 have hK : ∀ b o v,K b o=some v -> (if b=r10 then vs[o]? else K b o)=some v:=fun b o v e=>by
  rw[if_neg (fun hb=>by subst hb;exact o2 o v e)];exact e
 have noown : ∀ x,¬ Own (mu0.upd 0 ⟨r,0,0⟩) [iHd] x:=by
  rintro x ⟨id,l,b,e1,e2,e3,e4⟩
  have:id=0:=by
   have:=lt_of_get e2
   simpa using this
  subst this
  cases e2
  cases e3
 have hrr:r≠r10:=fun e=>hr10 10 (by rw[hL,e])
 have hbb:bm≠r10:=fun e=>hb10 10 (by rw[hL,e])
 refine⟨fun b o=>if b=r10 then vs[o]? else K b o,⟨⟨⟨?_, ?_, ?_, ?_, ?_, ?_, ?_⟩,⟨⟨?_, ?_⟩,fs.nx.os,fs.nx.tape,fs.nx.output,fs.nx.size,fs.nx.keep, ?_, ?_⟩,rfl, ?_,fun k t _ b=>(by simp at b),fun k r e=>(by cases e),fun k k' r e=>(by cases e)⟩,⟨⟨noown _, ?_,lt_of hr⟩,⟨noown _, ?_,lt_of hb⟩,rfl,hr,hb⟩,hs,hd⟩⟩
 ·intro id l e
  unfold Mu.upd at e
  split at e
  ·rename_i h;subst h;exact Nat.zero_lt_succ _
  ·cases e
 ·intro id h
  have:id=0:=by simpa [Dv.hL,bH]using h
  subst this
  exact⟨_,rfl⟩
 ·intro id l b e1 e2
  have h0':=lt_of_get e2
  have:id=0:=by simpa [Dv.hL,bH]using h0'
  subst this
  cases e2
  exact⟨rfl,fun i r hr=>by simp at hr,fun c _=>Nat.zero_le _,fun i r j d e=>by simp at e⟩
 ·intro id l e
  unfold Mu.upd at e
  split at e
  ·cases e;exact lt_of hr
  ·cases e
 ·intro id id' l l' b b' _ _ e2 _ e3
  have h0':=lt_of_get e2
  have:id=0:=by simpa [Dv.hL,bH]using h0'
  subst this
  cases e2
  cases e3
 ·intro b o v e
  split at e
  ·rename_i hb';subst hb';rw[cell_of_row W b _ vs ty (0,0) hheap];exact e
  ·exact fs.hr.kn b o v e
 ·intro b o v _
  exact noown b
 ·intro b o v e
  exact hK b o v (fs.nx.ext.k b o v e)
 ·intro id l b e
  cases e
 ·intro x h
  exact(noown x h).elim
 ·intro b o v e
  split at e
  ·rename_i hb';subst hb';exact .inr (.inr o3)
  ·exact fs.nx.kg b o v e
 ·have val : ∀ {k t:Nat} {d:D},tm173[k]?=some t -> bs173.contains k=false -> [p,nm,da,kn,.nil,j5,j6,j7,.u,.u,.bx [x0,x1,x2,c],i1,i2,c',j14,.mp 0,j16,j17,j18,.nil,.ip [],.u][k]?=some d -> ∃ v,a.tmps[t]?=some v /\ VR K μ [.mp (esC m)] d v:=fun{k t d} e1 e2 e3=>by
   obtain⟨d',v,g1,g2,g3⟩:=fs.val k t e1 e2
   rw[e3]at g1
   cases g1
   exact⟨v,g2,g3⟩
  intro k t hk _
  match k,hk with
  | 0,hk =>
   cases hk
   refine⟨_,_,rfl,htmp, ?_⟩
   have hvr : ∀ (j:Nat) (d:D),[x0,x1,x2,c][j]?=some d -> ∃ v,vs[j]?=some v /\ v.oneCell'=true /\ VR K μ [.mp (esC m)] d v:=fun j d e=>by
    have hj:=lt_of_get e
    have hj':j<vs.toList.length:=by rw[<- hcr.1.1];exact hj
    refine⟨vs.toList[j],by rw[Array.getElem?_eq_getElem (by simpa using hj')];simp,hcr.2 _ (List.getElem_mem hj'),hcr.1.2 j d _ e (List.getElem?_eq_getElem hj')⟩
   refine .ip _ _ _ r10 0 (fun j=>vs[j]!) (fun j d e => ?_) (fun j d e => ?_) (fun j d e => ?_)
   ·obtain⟨v,g1,_⟩:=hvr j d e
    rw[if_pos rfl,Nat.zero_add,g1,getElem!_def,g1]
   ·obtain⟨v,g1,g2,_⟩:=hvr j d e
    rw[getElem!_def,g1];exact g2
   ·obtain⟨v,g1,_,g3⟩:=hvr j d e
    rw[getElem!_def,g1]
    refine smp_vr ?_ g3 hK
    match j,e with
    | 0,e=>cases e;exact h0
    | 1,e=>cases e;exact h1
    | 2,e=>cases e;exact h2
    | 3,e=>cases e;exact h3
  | 1,hk =>
   cases hk
   obtain⟨v,g1,g2⟩:=val (k:=19) (t:=14) rfl rfl rfl
   exact⟨_,v,rfl,g1,smp_vr rfl g2 hK⟩
  | 2,hk =>
   cases hk
   obtain⟨v,g1,g2⟩:=val (k:=21) (t:=16) rfl rfl rfl
   exact⟨_,v,rfl,g1,by cases g2;exact .u ..⟩
  | 3,hk =>
   cases hk
   exact⟨_,_,rfl,hp,.aa _ _ 0 ⟨r,0,0⟩ 1 [] 0 true true rfl rfl⟩
  | 4,hk =>
   cases hk
   obtain⟨v,g1,g2⟩:=val (k:=8) (t:=76) rfl rfl rfl
   exact⟨_,v,rfl,g1,by cases g2;exact .u ..⟩
  | 5,hk =>
   cases hk
   obtain⟨v,g1,g2⟩:=val (k:=9) (t:=85) rfl rfl rfl
   exact⟨_,v,rfl,g1,by cases g2;exact .u ..⟩
  | 6,hk =>
   cases hk
   obtain⟨v,g1,g2⟩:=val (k:=4) (t:=8) rfl rfl rfl
   exact⟨_,v,rfl,g1,smp_vr rfl g2 hK⟩
 ·intro o v e
  rw[if_neg hrr]at e
  exact hrK o v e
 ·intro o v e
  rw[if_neg hbb]at e
  exact hbK o v e
theorem opR0 : ∃ o,(regO qRange)[0]?=some o /\ o.dst=some 73:=⟨(regO qRange)[0]!,by kernel_rfl,by kernel_rfl⟩
theorem ents_of {K:Kn} {μ:Mu} {H:Heap} {m:List (List UInt8×Nat)} {mes:Array MapEntry} {rows:List (List D)} (hlt : ∀ q∈m,q.2<rows.length) (hlen:(esC m).length=mes.size)
  (hent : ∀ (j:Nat) (k v:D) (e:MapEntry),(esC m)[j]?=some (k,v) -> mes[j]?=some e -> VR K mu0 [] k e.key /\ VR K μ H v e.val):(∀ e∈mes.toList,Ent rows e) /\ mes.toList.map valI=m.map (fun q=>(q.2:Int)):=by
 rw[esC_len]at hlen
 have at_ : ∀ (j:Nat) (hj:j<m.length) (e:MapEntry),mes[j]?=some e -> e.key = .string ⟨(m[j].1).toArray⟩ /\ e.val = .int .i64 m[j].2:=fun j hj e he=>by
  obtain⟨h1,h2⟩:=hent j (kS m[j].1) (vN64 m[j].2) e (by unfold esC entsM;rw[List.getElem?_map,List.getElem?_eq_getElem hj];rfl) he
  constructor
  ·unfold kS at h1
   generalize e.key=v at h1
   cases h1;rfl
  ·unfold vN64 at h2
   generalize e.val=v at h2
   cases h2;rfl
 constructor
 ·intro e he
  obtain⟨j,hj,rfl⟩:=List.mem_iff_getElem.1 he
  have hj':j<m.length:=by rw[hlen];simpa using hj
  obtain⟨h1,h2⟩:=at_ j hj' mes.toList[j] (by simp at hj;simp[hj])
  exact⟨⟨_,h1⟩,⟨_,hlt _ (List.getElem_mem hj'),h2⟩⟩
 ·refine List.ext_getElem (by simp[hlen]) (fun j h1 h2 => ?_)
  have hj':j<m.length:=by simpa using h2
  have hj:j<mes.toList.length:=by simpa using h1
  rw[List.getElem_map,List.getElem_map]
  unfold valI
  rw[(at_ j hj' mes.toList[j] (by simp at hj;simp[hj])).2]
theorem range_step {Q:Exit -> Act -> World -> Prop} {K0:Kn} {W0 W:World} {a:Act} {st:St} {x0 x1 x2 c:D} {rows:List (List D)} {name:List UInt8} {date known:Int} (hT:TE GlobT ⟨K0,mu0,[],W0⟩) (hm:M1 x0 x1 x2 c rows name date known .nil st) (hA:After ⟨K0,mu0,[],W0⟩ tm173 bs173 93 [] st a W)
  (h0:smp x0=true) (h1:smp x1=true) (h2:smp x2=true) (h3:smp c=true)
  (hQ : ∀ mes clock bm r K' a' W',LI ⟨K0,mu0,[],W0⟩ x0 x1 x2 c [] mes clock bm r [] K' (mu0.upd 0 ⟨r,0,0⟩) .u .u .u .nil a' W' -> Born mes clock -> W0.heap.size <= r -> r≠bm -> (∀ e∈mes.toList,Ent rows e) ->
   mes.toList.map valI=(cntF rows name date known rows.length).map (fun q=>(q.2:Int)) -> Q .normal a' W'):qRange.wpIn (FW none) 0 Tryz.prog Q a W:=by
 obtain⟨j5,j6,j7,j14,j16,j17,j18,rfl⟩:=hm.e
 obtain⟨L,K,μ,fs,hs,hd⟩:=hA
 obtain⟨rg,back,hfirst,_⟩:=reg_of okR nd104 lt104
 obtain⟨o,ho,hop,hdst,hg⟩:=opR
 obtain⟨o0,ho0,hdst0⟩:=opR0
 have hlt:=cnt_lt (rows:=rows) (name:=name) (date:=date) (known:=known) rows.length
 generalize cntF rows name date known rows.length=m at fs hQ hlt
 rw[qRange_eq]
 refine wpIn_region ?_
 rw[szR,show List.range 2=[0,1]from rfl]
 have ri:RI (cxOf Tryz.prog V1 93 tm173 bs173 (regO qRange) vR) ⟨K0,mu0,[],W0⟩ [] (fun j=>j<0) L K μ [.u,.u] _ _ a W:=⟨fs,fun j o vo t hj=>absurd hj (by omega),hs,hd,rfl⟩
 rw[wpOpsIn_cons]
 refine one_step rg ri vok1 hT (call_sim mixedZ vok1 0) (i:=0) (vo:=⟨.mov (.s 15),none,none⟩) rfl (by decide) (by intro hx;cases hx) (dr:=none) (loc1:=[.mp 0,.u]) (st1:=⟨_,_⟩) rfl (fun L1 K1 μ1 a1 W1 r1 => ?_)
 rw[wpOpsIn_cons]
 obtain⟨x,u,e1,e2,e3⟩:=r1.lr 0 o0 _ 73 (.inl rfl) ho0 rfl hdst0 rfl
 cases e1
 have e3':VR K1 μ1 [.mp (esC m)] (.mp 0) u:=e3
 cases e3' with
 | mp _ _ _ lm es hmu hH =>
  cases hH
  obtain⟨mes,clock,hborn,hheap,hlen,hent⟩:=r1.fs.hr.blk 0 lm _ hmu rfl
  obtain⟨kt,et,hund⟩:=und236
  have hev:a1.eval (.tmp 73) = .map (some lm.blk):=by
   show a1.tmps.getD 73 undef=_
   rw[Array.getD_eq_getD_getElem?,e2];rfl
  have hex:execOp a1.eval o=(do pure (.value (<- Instr.range 272 (.map (some lm.blk))))):=by
   unfold execOp
   rw[hop, <- hev]
  obtain⟨hr2,nx2⟩:=r1.fs.hr.loc (.mapIter (some lm.blk) clock #[] clock)
  have hown:Own μ1 [.mp (esC m)] lm.blk:=⟨0,lm,_,hmu,rfl,rfl,rfl⟩
  have hlm:=r1.fs.hr.lt 0 lm hmu
  obtain⟨ee,ev⟩:=ents_of hlt hlen hent
  refine op_hand rg r1 ho (vo:=⟨.stk,some 20,none⟩) rfl hg rfl rfl (by rw[hop];intro cl e;cases e) (run_v (run_range_map W1 272 kt et lm.blk mes clock hund hheap) hex) (d := .ip []) (r1.fs.go hr2 nx2) nx2.ext (.ip _ _ [] W1.heap.size 0 (fun _=>undef) (fun j d e=>by cases e) (fun j d e=>by cases e) (fun j d e=>by cases e)) (fun r2 => ?_)
  obtain ⟨K',hli⟩:=shed (r:=W1.heap.size) (bm:=lm.blk) (mes:=mes) (clock:=clock) r2.fs r2.sz r2.df h0 h1 h2 h3 (by rw[hdst];exact put_same (by rw[r1.sz];decide)) (heap_alloc_new W1 _) (by rw[heap_alloc_old W1 _ hlm];exact hheap)
   (fun o v e=>by have:=r1.fs.hr.klt e;omega) (fun o v e=>r1.fs.hr.kf _ _ _ e hown) (fun k e=>by have:=(r1.fs.own k _ e).2.2.2;omega) (fun k e=>(r1.fs.own k _ e).1 hown)
  exact hQ mes clock lm.blk W1.heap.size K' _ _ hli hborn r1.fs.nx.size (by omega) ee ev
open Go.Dm Go.Proofs Go.ChangeMaps
theorem res_perm {rows:List (List D)} {name:List UInt8} {date known:Int} {mes:Array MapEntry} {vis:List MapEntry} (hp:vis.Perm mes.toList) (hv:mes.toList.map valI=(cntF rows name date known rows.length).map (fun q=>(q.2:Int))) :
  srtI (lstV rows vis)=inF rows name date known:=by
 unfold inF
 refine srt_of_perm ?_
 unfold lstV
 refine((hp.filter _).map valI).trans ?_
 have e1:(mes.toList.filter fun e => !clO rows[(valI e).toNat]!).map valI=(mes.toList.map valI).filter fun n => !clO rows[n.toNat]! := by
  rw[List.filter_map];rfl
 rw[e1,hv,List.filter_map]
 have e2:((fun n:Int => !clO rows[n.toNat]!)∘fun q:List UInt8×Nat=>(q.2:Int))=fun q => !clO rows[q.2]! := by
  funext q
  simp only[Function.comp,Int.toNat_natCast]
 rw[e2]
theorem settle_l (l:List Int):settleO false (hL l) (dL l)=some (slOf 1 (l.map iRow)):=by
 show frzR (hL l) (dL l)=_
 unfold hL dL
 rw[bD_frz rfl]
 unfold imD slOf
 cases l.map iRow<;>rfl
theorem inForce_core {x0 x1 x2 c:D} {rows:List (List D)} {name:List UInt8} {date known:Int} (hc:Sl 24 rows c) (hcl:rows.all clOk=true) (hl:rows.length<1099511627776) (h0:smp x0=true) (h1:smp x1=true) (h2:smp x2=true)
  {K:Kn} {W:World} {vs:List Value} (hT:GlobT K W) (hr:HR K mu0 [] W) (hv:VRs K mu0 [] [.ag [x0,x1,x2,c],.s name,.i .i64 date,.i .i64 known] vs):Calls Tryz.prog 173 vs.toArray W (Settles false K W (slOf 1 ((inF rows name date known).map iRow))):=by
 have hTE:TE GlobT ⟨K,mu0,[],W⟩:=⟨hT,hr⟩
 have hvl:vs.length=4:=by rw[<- hv.1];rfl
 have hA:=start_after (tm:=tm173) (bs:=bs173) (npar:=4) (nsl:=22) (nt:=93) (by decide) rfl (by decide) lt104 nd104 (by decide) (by decide) rfl hvl hr hv
 refine calls_of_wp Tryz.func173 body104 (wpIn_wide (n:=0).1 ?_)
 rw[b104_eq]
 refine wpIn_seq (wpIn_mono (run_sim mixedZ vok1 nd104 lt104 hTE okA0 seg0 hA (fun _ _ h=>h.1)) ?_)
 rintro ex a1 W1 ⟨rfl,st1,⟨_,rfl⟩,hA1⟩
 refine wpIn_seq (wpIn_mono (run_sim mixedZ vok1 nd104 lt104 hTE okA1 seg1 hA1 (fun _ _ h=>h.1)) ?_)
 rintro ex a2 W2 ⟨rfl,st2,⟨_,rfl⟩,hA2⟩
 refine wpIn_seq (wpIn_mono (run_sim mixedZ vok1 nd104 lt104 hTE okA2 (seg2 hc hcl hl) hA2 (fun _ _ h=>h.1)) ?_)
 rintro ex a3 W3 ⟨rfl,st3,⟨_,hm3⟩,hA3⟩
 obtain⟨j5,j6,j7,j14,j16,j17,j18,rfl⟩:=hm3.e
 refine wpIn_seq (wpIn_mono (run_sim mixedZ vok1 nd104 lt104 hTE okA3 seg3 hA3 (fun _ _ h=>h.1)) ?_)
 rintro ex a4 W4 ⟨rfl,st4,⟨_,rfl⟩,hA4⟩
 refine wpIn_seq (wpIn_seq (range_step hTE (rows:=rows) (name:=name) (date:=date) (known:=known) ⟨⟨j5,j6,j7,j14,j16,j17,j18,rfl⟩⟩ hA4 h0 h1 h2 (sl_smp hc) (fun mes clock bm r K' a' W' hli hb hE hne hent hval => ?_)))
 have hsz:mes.size<1099511627776:=by
  have e1:=congrArg List.length hval
  have e2:=cnt_len (rows:=rows) (name:=name) (date:=date) (known:=known) rows.length
  simp only[List.length_map,Array.length_toList]at e1
  omega
 refine map_loop hTE hc hcl hsz hb hE hne hent hli (fun vis K5 μ5 k2 k4 k5 a5 W5 h5 hp => ?_)
 have hll:(lstV rows vis).length<1099511627776:=by
  have e1:=lst_len (rows:=rows) (vis:=vis)
  have e2:=hp.length_eq
  simp only[Array.length_toList]at e2
  omega
 refine wpIn_seq (wpIn_mono (run_sim mixedZ vok1 nd2 lt2 (h5.base hTE) okS (sort_q hll) ⟨fun _=>none,K5,μ5,h5.fs.base,h5.sz,h5.df⟩ (fun _ _ h=>h.1)) ?_)
 rintro ex a6 W6 ⟨rfl,st6,⟨_,rfl⟩,L6,K6,μ6,fs6,hs6,hd6⟩
 have h6:=h5.over fs6 hs6 hd6
 rw[res_perm hp hval]at h6
 refine wpIn_seq (wpIn_mono (run_sim mixedZ vok1 nd2 lt2 (h6.base hTE) okF resIF_q ⟨fun _=>none,K6,μ6,h6.fs.base,h6.sz,h6.df⟩ (fun _ _ h=>h.1)) ?_)
 rintro ex a7 W7 ⟨rfl,st7,⟨_,rfl⟩,L7,K7,μ7,fs7,hs7,hd7⟩
 have h7:=h6.over fs7 hs7 hd7
 refine wpIn_ret ⟨h7.df, ?_⟩
 obtain⟨v,g1,g2⟩:=res_sound (P:=Tryz.prog) h7.fs res104 (ds:=[dL (inF rows name date known)]) rfl
 exact⟨v,g1,K7,μ7,_,_,h7.fs.hr,h7.fs.nx,g2,settle_l _⟩
theorem inForce_sim {ds:List D} {d:D} (h:inFP ds=some d) {K:Kn} {W:World} {vs:List Value} (hT:GlobT K W) (hr:HR K mu0 [] W) (hv:VRs K mu0 [] ds vs):Calls Tryz.prog 173 vs.toArray W (Settles false K W d):=by
 have go : ∀ {rows:List (List D)} {name:List UInt8} {date known:Int} {d:D},inFD rows name date known=some d -> rows.all clOk=true /\ rows.length<1099511627776 /\ d=slOf 1 ((inF rows name date known).map iRow):=fun{rows name date known d} h=>by
  unfold inFD at h
  split at h
  ·rename_i hh;cases h;exact⟨hh.1,hh.2,rfl⟩
  ·cases h
 unfold inFP at h
 split at h
 ·rename_i x0 x1 x2 c name date known
  split at h
  ·rename_i hs
   simp only[Bool.and_eq_true]at hs
   obtain⟨⟨h0,h1⟩,h2⟩:=hs
   split at h
   ·obtain⟨a1,a2,rfl⟩:=go h
    exact inForce_core (.nil rfl) a1 a2 h0 h1 h2 hT hr hv
   ·obtain⟨a1,a2,rfl⟩:=go h
    exact inForce_core (.z rfl) a1 a2 h0 h1 h2 hT hr hv
   ·split at h
    ·rename_i hw
     subst hw
     obtain⟨a1,a2,rfl⟩:=go h
     exact inForce_core .im a1 a2 h0 h1 h2 hT hr hv
    ·cases h
   ·cases h
  ·cases h
 ·cases h
set_option maxRecDepth 100000 in
theorem vokS:VOK Tryz.prog VS GlobT:=vokx (e:=extE) (p:=pextE) globT_up ext_sim (fun f ds d vf hf h K W vs hT hr hv=>by
  unfold pextE at h
  split at h
  ·rename_i hq
   subst hq
   have:vf.own=false:=by cases hf;rfl
   rw[this]
   exact inForce_sim h hT hr hv
  ·cases h) (fun g w rows h K W hT=>hT.g g w rows h)
end Go.Proofs.YtgefdialaemelaaGreatDoor.Dv
