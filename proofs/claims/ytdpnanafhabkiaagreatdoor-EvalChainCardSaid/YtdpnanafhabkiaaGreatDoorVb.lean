/-
  The machine's code is the program's, function by function, second part.
-/
import Derived.Test.YtdpnanafhabkiaaGreatDoorProg
import Derived.KernelRfl
import Derived.Test.YtdpnanafhabkiaaGreatDoorDa
import Derived.Test.YtdpnanafhabkiaaGreatDoorV
namespace Go.Proofs.YtdpnanafhabkiaaGreatDoor.Dv
open Go.Dm Go.Proofs
variable (e : FuncId -> List D -> Heap -> Option (D × Heap)) (p : FuncId -> List D -> Option D)
theorem gdVb {P : Program} {V : VProg} {f : FuncId} {fn : Func} {v : VFunc} (h : P.funcs[f]? = some fn) (tm bs : List Nat) (a : okFn P V fn v tm bs = true := by kernel_rfl) (b : fn.name ≠ "runtime.NumGoroutine" := by decide +kernel) (c : v.rg = none \/ v.rg = some f := by first | exact .inl rfl | exact .inr rfl) : GoodP P V f v := ⟨fn, tm, bs, h, a, b, c⟩
theorem g6 : GoodP Tryz.prog (Vx e p) 6 v6 := gdVb Tryz.func6 [0,1,2,6] [3]
theorem g10 : GoodP Tryz.prog (Vx e p) 10 v10 := gdVb Tryz.func10 [0,1,4] [2]
theorem g16 : GoodP Tryz.prog (Vx e p) 16 v16 := gdVb Tryz.func16 [0,1,4,12,20,24,5,6] [2]
theorem g20 : GoodP Tryz.prog (Vx e p) 20 v20 := gdVb Tryz.func20 [0,1,4,2,3] [3,4]
theorem g25 : GoodP Tryz.prog (Vx e p) 25 v25 := gdVb Tryz.func25 [0,2,1] [1,2]
theorem g29 : GoodP Tryz.prog (Vx e p) 29 v29 := gdVb Tryz.func29 [0,1,2,6,24,7,9,8,10] [3,5,7,8]
theorem g33 : GoodP Tryz.prog (Vx e p) 33 v33 := gdVb Tryz.func33 [0,2,11,4] []
theorem g38 : GoodP Tryz.prog (Vx e p) 38 v38 := gdVb Tryz.func38 [0] []
theorem g42 : GoodP Tryz.prog (Vx e p) 42 v42 := gdVb Tryz.func42 [0,1,2,3,4,5,12,22,28,38,45,54,66,72,84,93,101,120,27,13,15,14,17,16,18] [6,19]
theorem g47 : GoodP Tryz.prog (Vx e p) 47 v47 := gdVb Tryz.func47 [0,1,4] []
theorem g51 : GoodP Tryz.prog (Vx e p) 51 v51 := gdVb Tryz.func51 [0,2,5,16,32,48,1,4] [6]
theorem g59 : GoodP Tryz.prog (Vx e p) 59 v59 := gdVb Tryz.func59 [0,3] []
theorem g68 : GoodP Tryz.prog (Vx e p) 68 v68 := gdVb Tryz.func68 [0,1,2,3,8,26,41,46,50,9,10,25,24,23,12] []
theorem g78 : GoodP Tryz.prog (Vx e p) 78 v78 := gdVb Tryz.func78 [0,1,4,2,3] [3,4]
theorem g91 : GoodP Tryz.prog (Vx e p) 91 v91 := gdVb Tryz.func91 [0,2,1] [2]
theorem g102 : GoodP Tryz.prog (Vx e p) 102 v102 := gdVb Tryz.func102 [0,1,4,5,19,25,2,3] [6,7]
theorem g111 : GoodP Tryz.prog (Vx e p) 111 v111 := gdVb Tryz.func111 [0,1,2,6,7,10] []
theorem g131 : GoodP Tryz.prog (Vx e p) 131 v131 := gdVb Tryz.func131 [0,2,4] []
theorem g140 : GoodP Tryz.prog (Vx e p) 140 v140 := gdVb Tryz.func140 [0,1,4,5,2,3] [2,3,4,5]
theorem g147 : GoodP Tryz.prog (Vx e p) 147 v147 := gdVb Tryz.func147 [0] []
theorem g153 : GoodP Tryz.prog (Vx e p) 153 v153 := gdVb Tryz.func153 [0,1,2,6,31,45,58,69,99,7,8,30,29,10,11,13,12,9,14,57,56,55,16,17,15] []
theorem g175 : GoodP Tryz.prog (Vx e p) 175 v175 := gdVb Tryz.func175 [0,1,4,10,15,20,31,40,5] []
theorem g179 : GoodP Tryz.prog (Vx e p) 179 v179 := gdVb Tryz.func179 [0,1,4,5,10,2,3] [2,5,6]
theorem g195 : GoodP Tryz.prog (Vx e p) 195 v195 := gdVb Tryz.func195 [0,2,9,3,8,7,6,5] [7]
theorem g209 : GoodP Tryz.prog (Vx e p) 209 v209 := gdVb Tryz.func209 [0,1,4,5,13,6] [2,5]
theorem g213 : GoodP Tryz.prog (Vx e p) 213 v213 := gdVb Tryz.func213 [0,1,4,14,19,6,5,13,12,8,7] []
theorem g221 : GoodP Tryz.prog (Vx e p) 221 v221 := gdVb Tryz.func221 [0,1,4,6,7,2,5] []
theorem g229 : GoodP Tryz.prog (Vx e p) 229 v229 := gdVb Tryz.func229 [0,2,14] []
theorem g233 : GoodP Tryz.prog (Vx e p) 233 v233 := gdVb Tryz.func233 [0,1,4,16,15,14,13,7,5,6,8] []
theorem g246 : GoodP Tryz.prog (Vx e p) 246 v246 := gdVb Tryz.func246 [0,2,4,8] []
theorem g251 : GoodP Tryz.prog (Vx e p) 251 v251 := gdVb Tryz.func251 [0,2] []
theorem g258 : GoodP Tryz.prog (Vx e p) 258 v258 := gdVb Tryz.func258 [0,1,2,6,7,8] []
theorem g267 : GoodP Tryz.prog (Vx e p) 267 v267 := gdVb Tryz.func267 [0,1,2,3,14,34,8,9] []
theorem goodC : ∀ q ∈ fnsC, GoodP Tryz.prog (Vx e p) q.1 q.2 := by
 simp only [fnsC, List.forall_mem_cons]
 exact ⟨g6 e p, g10 e p, g16 e p, g20 e p, g25 e p, g29 e p, g33 e p, g38 e p, g42 e p, g47 e p, g51 e p, g59 e p, g68 e p, g78 e p, g91 e p, g102 e p, g111 e p, g131 e p, g140 e p, g147 e p, g153 e p, g175 e p, g179 e p, g195 e p, g209 e p, g213 e p, g221 e p, g229 e p, g233 e p, g246 e p, g251 e p, g258 e p, g267 e p, fun _ h => by cases h⟩
theorem g7 : GoodP Tryz.prog (Vx e p) 7 v7 := gdVb Tryz.func7 [0,1,4] [2]
theorem g11 : GoodP Tryz.prog (Vx e p) 11 v11 := gdVb Tryz.func11 [0,1,2,3,4,10,11,5,12,14,13] [5,7,8,10]
theorem g17 : GoodP Tryz.prog (Vx e p) 17 v17 := gdVb Tryz.func17 [0,1,2,3,4,10,11,12,25,5,8,14,13,7,15] [5,6,9,14]
theorem g21 : GoodP Tryz.prog (Vx e p) 21 v21 := gdVb Tryz.func21 [0,2,3,4,1] [4]
theorem g26 : GoodP Tryz.prog (Vx e p) 26 v26 := gdVb Tryz.func26 [0,1,2,3,8,14,18,22,26,47,68,77,99,113,5,17,9,98,97,96,11] [4,14,20]
theorem g30 : GoodP Tryz.prog (Vx e p) 30 v30 := gdVb Tryz.func30 [0,1,4,2,3] [3,4]
theorem g34 : GoodP Tryz.prog (Vx e p) 34 v34 := gdVb Tryz.func34 [0,1,2,6,31,50,63,87,101,3,30,29,28,7,9,11,62,61,60,13,86,85,84,15,17,16] [9,14,19,23,25]
theorem g39 : GoodP Tryz.prog (Vx e p) 39 v39 := gdVb Tryz.func39 [0,2,5,3] [1,3]
theorem g43 : GoodP Tryz.prog (Vx e p) 43 v43 := gdVb Tryz.func43 [0,1,11,30,48,3,5] [5]
theorem g48 : GoodP Tryz.prog (Vx e p) 48 v48 := gdVb Tryz.func48 [0,2,1] [2]
theorem g52 : GoodP Tryz.prog (Vx e p) 52 v52 := gdVb Tryz.func52 [0,2,3,8,11,13,15,18,28,7,4] []
theorem g64 : GoodP Tryz.prog (Vx e p) 64 v64 := gdVb Tryz.func64 [0,2,8] [1]
theorem g74 : GoodP Tryz.prog (Vx e p) 74 v74 := gdVb Tryz.func74 [0,1,4,9,16,8,7,5] []
theorem g80 : GoodP Tryz.prog (Vx e p) 80 v80 := gdVb Tryz.func80 [0,1,4,28,5,6,7] []
theorem g97 : GoodP Tryz.prog (Vx e p) 97 v97 := gdVb Tryz.func97 [0,1,4,9,2,3] [4,5]
theorem g104 : GoodP Tryz.prog (Vx e p) 104 v104 := gdVb Tryz.func104 tm104 bs104
theorem g125 : GoodP Tryz.prog (Vx e p) 125 v125 := gdVb Tryz.func125 [0,1,4,5,10,2,3] [2,5,6]
theorem g135 : GoodP Tryz.prog (Vx e p) 135 v135 := gdVb Tryz.func135 [0,2] []
theorem g141 : GoodP Tryz.prog (Vx e p) 141 v141 := gdVb Tryz.func141 [0,1,4,2,3,5] [2,3,4,5]
theorem g149 : GoodP Tryz.prog (Vx e p) 149 v149 := gdVb Tryz.func149 [0,2,1] [2]
theorem g172 : GoodP Tryz.prog (Vx e p) 172 v172 := gdVb Tryz.func172 [0,1,4] []
theorem g176 : GoodP Tryz.prog (Vx e p) 176 v176 := gdVb Tryz.func176 [0,2,14,13,12,11,3,4,5] []
theorem g188 : GoodP Tryz.prog (Vx e p) 188 v188 := gdVb Tryz.func188 [0,1,4,5,10,2,3] [2,5,6]
theorem g196 : GoodP Tryz.prog (Vx e p) 196 v196 := gdVb Tryz.func196 [0,1,4,5,3] [4]
theorem g210 : GoodP Tryz.prog (Vx e p) 210 v210 := gdVb Tryz.func210 [0,1,4,21,28,20,19,18,8,27,26,25,7,10,5,6,9,11] []
theorem g214 : GoodP Tryz.prog (Vx e p) 214 v214 := gdVb Tryz.func214 [0,1,4,12,21,46,5,20,19,18,6,7] [2]
theorem g222 : GoodP Tryz.prog (Vx e p) 222 v222 := gdVb Tryz.func222 [0,1,2,3,13,25,36,42,5,12,11,10,7,35,34,33,9] [12,16]
theorem g230 : GoodP Tryz.prog (Vx e p) 230 v230 := gdVb Tryz.func230 [0,2,4] []
theorem g234 : GoodP Tryz.prog (Vx e p) 234 v234 := gdVb Tryz.func234 [0,1,4,68,75,79,126,132,5,6,7,8,9,10,11,78,77,76,13,14,12,15,16,17,131,130,129,18,19] []
theorem g248 : GoodP Tryz.prog (Vx e p) 248 v248 := gdVb Tryz.func248 [0,1,4,43,5,6,7,8,10,11,9,13,12] [2,10]
theorem g252 : GoodP Tryz.prog (Vx e p) 252 v252 := gdVb Tryz.func252 [0,1,2,13,30,35,54,6,7,8,9] []
theorem g259 : GoodP Tryz.prog (Vx e p) 259 v259 := gdVb Tryz.func259 [0,1,2] []
theorem g271 : GoodP Tryz.prog (Vx e p) 271 v271 := gdVb Tryz.func271 [0,1,3,7] []
theorem goodD : ∀ q ∈ fnsD, GoodP Tryz.prog (Vx e p) q.1 q.2 := by
 simp only [fnsD, List.forall_mem_cons]
 exact ⟨g7 e p, g11 e p, g17 e p, g21 e p, g26 e p, g30 e p, g34 e p, g39 e p, g43 e p, g48 e p, g52 e p, g64 e p, g74 e p, g80 e p, g97 e p, g104 e p, g125 e p, g135 e p, g141 e p, g149 e p, g172 e p, g176 e p, g188 e p, g196 e p, g210 e p, g214 e p, g222 e p, g230 e p, g234 e p, g248 e p, g252 e p, g259 e p, g271 e p, fun _ h => by cases h⟩
end Go.Proofs.YtdpnanafhabkiaaGreatDoor.Dv
