/-
  What functions of this seat come to in the ghost machine: printed by resid.py (a program of this session's own).
-/
import Derived.Test.YthnnjopilpgakaaGreatTaP
import Derived.Test.YthnnjopilpgakaaGreatGhC
import Derived.KernelRfl
set_option linter.unusedVariables false
set_option linter.unusedSimpArgs false
namespace Go.Proofs.YthnnjopilpgakaaGreat
open Go.Gh
noncomputable section
-- formulary/depend.inside
def F102_1 (X : Ctx) (K : CK) (h : List GB) (v5 : GV) : Bool :=
  K (noNew (noNew v5)) h
def F102_2 (X : Ctx) (v1 : GV) (K : CK) (h : List GB) (v4 : GV) : Bool :=
  X.v1 (gpick (noNew (noNew (noNew v1))) (noNew v4) (gb false)) (F102_1 X K h)
def F102_3 (X : Ctx) (v1 v2 : GV) (K : CK) (h : List GB) (v3 : GV) : Bool :=
  X.g1 (wG true (noNew (noNew v1))) (gbin gp .leq 3 (noNew v2) (noNew v3)) (F102_2 X v1 K h)
def F102_4 (X : Ctx) (v1 a2 : GV) (K : CK) (h : List GB) (v2 : GV) : Bool :=
  X.g1 (wG true (noNew (noNew v1))) (some (noNew (noNew a2))) (F102_3 X v1 v2 K h)
def F102_5 (X : Ctx) (a0 a2 : GV) (K : CK) (h : List GB) (v1 : GV) : Bool :=
  X.g1 (wG true (noNew (noNew v1))) (some (noNew (noNew a0))) (F102_4 X v1 a2 K h)
def F102 (X : Ctx) (a0 a1 a2 : GV) (h : List GB) (K : CK) : Bool :=
  X.v1 (gbin gp .geq 3 (noNew (noNew (noNew (noNew a0)))) (noNew (noNew (noNew (noNew a1))))) (F102_5 X a0 a2 K h)
theorem F102_c (X : Ctx) (a0 a1 a2 : GV) (h : List GB) (K : CK) : gx2 X.toComb gp X.call X.lk 102 (X.n + 1) (Tryz.f102.body.getD .skip) { env := initE [a0, a1, a2], heap := h } (kRet X.toComb gp Tryz.f102.results.toList K) = F102 X a0 a1 a2 h K := by kernel_rfl
theorem F102_eq (n lk : Nat) (a0 a1 a2 : GV) (h : List GB) (K : CK) : gcall gp (n + 1) lk 102 [a0, a1, a2] h K = F102 (sX (gcall gp n) n lk) a0 a1 a2 h K :=
  (gcall_two (fn := Tryz.f102) (c := Tryz.f102.body.getD .skip) (by kernel_rfl) (by kernel_rfl) (by kernel_rfl)).trans (F102_c (sX (gcall gp n) n lk) a0 a1 a2 h K)

-- formulary/depend.broken
def B94_0_1 (X : Ctx) (K : GX → St → Bool) (s : St) (v2 v3 v4 v5 v7 v8 v9 v10 : GV) (h6 : List GB) (v11 : GV) : Bool :=
  K .ret { env := put (put (put (put (put (put (put (put (put (put (put (ofL [(5, noNew (s.env 5)), (6, noNew (s.env 6)), (7, noNew (s.env 7))]) (some 8) v2) (some 9) v3) (some 10) v4) (some 4) (GV.new 159)) (some 4) v5) (some 11) v7) (some 12) v8) (some 13) v9) (some 14) v10) (some 15) v11) (some 2) (noNew (noNew v11)), heap := h6 }
def B94_0_2 (X : Ctx) (h6 : List GB) (K : GX → St → Bool) (s : St) (v2 v3 v4 v5 v7 v8 v9 v10 : GV) : Bool :=
  X.v1 (gload gp 30 (noNew v10) h6) (B94_0_1 X K s v2 v3 v4 v5 v7 v8 v9 v10 h6)
def B94_0_3 (X : Ctx) (again : St → Bool) (s : St) (h6 : List GB) (v12 : GV) : Bool :=
  again { env := ofL [(5, noNew (noNew (s.env 5))), (6, noNew (noNew (s.env 6))), (7, noNew (noNew (noNew v12)))], heap := h6 }
def B94_0_4 (X : Ctx) (v5 : GV) (h6 : List GB) (K : GX → St → Bool) (s : St) (v2 v3 v4 v7 v8 v9 : GV) (again : St → Bool) (t : Bool) : Bool :=
  bif t then X.v1 (gfieldAddr gp 159 (noNew v5) 1) (B94_0_2 X h6 K s v2 v3 v4 v5 v7 v8 v9) else X.v1 (gbin gp .add 3 (noNew (noNew (s.env 7))) (gi 1)) (B94_0_3 X again s h6)
def B94_0_5 (X : Ctx) (v5 : GV) (h6 : List GB) (K : GX → St → Bool) (s : St) (v2 v3 v4 v7 v8 : GV) (again : St → Bool) (v9 : GV) : Bool :=
  X.b1 (asB (noNew v9)) (B94_0_4 X v5 h6 K s v2 v3 v4 v7 v8 v9 again)
def B94_0_6 (X : Ctx) (v5 : GV) (h6 : List GB) (K : GX → St → Bool) (s : St) (v2 v3 v4 v7 : GV) (again : St → Bool) (v8 : GV) : Bool :=
  X.v1 (gnot (noNew v8)) (B94_0_5 X v5 h6 K s v2 v3 v4 v7 v8 again)
def B94_0_7 (X : Ctx) (h6 : List GB) (v5 : GV) (K : GX → St → Bool) (s : St) (v2 v3 v4 : GV) (again : St → Bool) (v7 : GV) : Bool :=
  X.v1 (gload gp 4 (noNew v7) h6) (B94_0_6 X v5 h6 K s v2 v3 v4 v7 again)
def B94_0_8 (X : Ctx) (K : GX → St → Bool) (s : St) (v2 v3 v4 : GV) (again : St → Bool) (v5 : GV) (h6 : List GB) : Bool :=
  X.v1 (gfieldAddr gp 159 (noNew v5) 0) (B94_0_7 X h6 v5 K s v2 v3 v4 again)
def B94_0_9 (X : Ctx) (s : St) (K : GX → St → Bool) (v2 v3 : GV) (again : St → Bool) (v4 : GV) : Bool :=
  X.i1 true 2 (noNew v4) s.heap (B94_0_8 X K s v2 v3 v4 again)
def B94_0_10 (X : Ctx) (s : St) (K : GX → St → Bool) (v2 : GV) (again : St → Bool) (v3 : GV) : Bool :=
  X.v1 (gload gp 159 (noNew v3) s.heap) (B94_0_9 X s K v2 v3 again)
def B94_0_11 (X : Ctx) (s : St) (K : GX → St → Bool) (v2 : GV) (again : St → Bool) (t : Bool) : Bool :=
  bif t then X.v1 (gindexAddr gp 226 (noNew (noNew (s.env 5))) (noNew (noNew (s.env 7)))) (B94_0_10 X s K v2 again) else K (.exit 0) { env := put (ofL [(5, noNew (s.env 5)), (6, noNew (s.env 6)), (7, noNew (s.env 7))]) (some 8) v2, heap := s.heap }
def B94_0_12 (X : Ctx) (s : St) (K : GX → St → Bool) (again : St → Bool) (v2 : GV) : Bool :=
  X.b1 (asB (noNew v2)) (B94_0_11 X s K v2 again)
def B94_0 (X : Ctx) (s : St) (again : St → Bool) (K : GX → St → Bool) : Bool :=
  X.v1 (gbin gp .lss 3 (noNew (noNew (s.env 7))) (noNew (noNew (s.env 6)))) (B94_0_12 X s K again)
def F94_1 (X : Ctx) (K : CK) (s13 : St) : Bool :=
  K (noNew (gi 0)) s13.heap
def F94_2 (X : Ctx) (a0 : GV) (h : List GB) (K : CK) (v1 : GV) : Bool :=
  X.loop (B94_0 X) (X.n + 1) { env := ofL [(5, noNew (noNew (noNew (noNew a0)))), (6, noNew v1), (7, noNew (noNew (gi 0)))], heap := h } (kBlk 0 (kSeq (F94_1 X K) (kRet X.toComb gp Tryz.f94.results.toList K)))
def F94 (X : Ctx) (a0 : GV) (h : List GB) (K : CK) : Bool :=
  X.v1 (glen gp 226 (noNew (noNew (noNew (noNew a0))))) (F94_2 X a0 h K)
theorem F94_c (X : Ctx) (a0 : GV) (h : List GB) (K : CK) : gx2 X.toComb gp X.call X.lk 94 (X.n + 1) (Tryz.f94.body.getD .skip) { env := initE [a0], heap := h } (kRet X.toComb gp Tryz.f94.results.toList K) = F94 X a0 h K := by kernel_rfl
theorem F94_eq (n lk : Nat) (a0 : GV) (h : List GB) (K : CK) : gcall gp (n + 1) lk 94 [a0] h K = F94 (sX (gcall gp n) n lk) a0 h K :=
  (gcall_two (fn := Tryz.f94) (c := Tryz.f94.body.getD .skip) (by kernel_rfl) (by kernel_rfl) (by kernel_rfl)).trans (F94_c (sX (gcall gp n) n lk) a0 h K)

-- formulary/depend.formErr$1
def F168_1 (X : Ctx) (K : CK) (h2 : List GB) (v3 : GV) : Bool :=
  K (noNew (noNew v3)) h2
def F168_2 (X : Ctx) (K : CK) (v1 : GV) (h2 : List GB) : Bool :=
  X.v1 (gnot (noNew v1)) (F168_1 X K h2)
def F168 (X : Ctx) (a0 : GV) (h : List GB) (K : CK) : Bool :=
  X.h1 (gcall0 X.call 102 [noNew (noNew (noNew (noNew a0))), gi (-8), gi 8] h) (F168_2 X K)
theorem F168_c (X : Ctx) (a0 : GV) (h : List GB) (K : CK) : gx2 X.toComb gp X.call X.lk 168 (X.n + 1) (Tryz.f168.body.getD .skip) { env := initE [a0], heap := h } (kRet X.toComb gp Tryz.f168.results.toList K) = F168 X a0 h K := by kernel_rfl
theorem F168_eq (n lk : Nat) (a0 : GV) (h : List GB) (K : CK) : gcall gp (n + 1) lk 168 [a0] h K = F168 (sX (gcall gp n) n lk) a0 h K :=
  (gcall_two (fn := Tryz.f168) (c := Tryz.f168.body.getD .skip) (by kernel_rfl) (by kernel_rfl) (by kernel_rfl)).trans (F168_c (sX (gcall gp n) n lk) a0 h K)

-- slices.IndexFunc[[]int,int]
def B175_0_1 (X : Ctx) (again : St → Bool) (s : St) (h6 : List GB) (v7 : GV) : Bool :=
  again { env := ofL [(0, noNew (noNew (s.env 0))), (1, noNew (noNew (s.env 1))), (7, noNew (noNew (s.env 7))), (8, noNew (noNew (noNew v7)))], heap := h6 }
def B175_0_2 (X : Ctx) (K : GX → St → Bool) (s : St) (v2 v3 v4 v5 : GV) (h6 : List GB) (again : St → Bool) (t : Bool) : Bool :=
  bif t then K .ret { env := put (put (put (put (put (put (put (put (put (put (put (ofL [(0, noNew (s.env 0)), (1, noNew (s.env 1)), (7, noNew (s.env 7)), (8, noNew (s.env 8))]) (some 9) v2) (some 10) (noNew (noNew (noNew (s.env 8))))) (some 5) (noNew (noNew (noNew (noNew (noNew (s.env 8))))))) (some 11) (noNew (noNew (noNew (s.env 1))))) (some 12) (noNew (noNew (noNew (s.env 0))))) (some 13) (noNew (noNew (noNew (noNew (noNew (noNew (noNew (s.env 8))))))))) (some 14) v3) (some 15) v4) (some 16) v5) (some 17) (noNew (noNew (noNew (noNew (noNew (noNew (noNew (s.env 8))))))))) (some 4) (noNew (noNew (noNew (noNew (noNew (noNew (noNew (noNew (noNew (s.env 8)))))))))), heap := h6 } else X.v1 (gbin gp .add 3 (noNew (noNew (s.env 8))) (gi 1)) (B175_0_1 X again s h6)
def B175_0_3 (X : Ctx) (K : GX → St → Bool) (s : St) (v2 v3 v4 : GV) (again : St → Bool) (v5 : GV) (h6 : List GB) : Bool :=
  X.b1 (asB (noNew v5)) (B175_0_2 X K s v2 v3 v4 v5 h6 again)
def B175_0_4 (X : Ctx) (s : St) (K : GX → St → Bool) (v2 v3 : GV) (again : St → Bool) (v4 : GV) : Bool :=
  X.h1 (gdyn gp X.call X.lk (noNew (noNew (noNew (noNew (s.env 1))))) [noNew v4] s.heap) (B175_0_3 X K s v2 v3 v4 again)
def B175_0_5 (X : Ctx) (s : St) (K : GX → St → Bool) (v2 : GV) (again : St → Bool) (v3 : GV) : Bool :=
  X.v1 (gload gp 3 (noNew v3) s.heap) (B175_0_4 X s K v2 v3 again)
def B175_0_6 (X : Ctx) (s : St) (K : GX → St → Bool) (v2 : GV) (again : St → Bool) (t : Bool) : Bool :=
  bif t then X.v1 (gindexAddr gp 48 (noNew (noNew (noNew (noNew (s.env 0))))) (noNew (noNew (noNew (noNew (noNew (noNew (noNew (noNew (s.env 8)))))))))) (B175_0_5 X s K v2 again) else K (.exit 0) { env := put (ofL [(0, noNew (s.env 0)), (1, noNew (s.env 1)), (7, noNew (s.env 7)), (8, noNew (s.env 8))]) (some 9) v2, heap := s.heap }
def B175_0_7 (X : Ctx) (s : St) (K : GX → St → Bool) (again : St → Bool) (v2 : GV) : Bool :=
  X.b1 (asB (noNew v2)) (B175_0_6 X s K v2 again)
def B175_0 (X : Ctx) (s : St) (again : St → Bool) (K : GX → St → Bool) : Bool :=
  X.v1 (gbin gp .lss 3 (noNew (noNew (s.env 8))) (noNew (noNew (s.env 7)))) (B175_0_7 X s K again)
def F175_1 (X : Ctx) (K : CK) (s8 : St) : Bool :=
  K (noNew (gi (-1))) s8.heap
def F175_2 (X : Ctx) (a0 a1 : GV) (h : List GB) (K : CK) (v1 : GV) : Bool :=
  X.loop (B175_0 X) (X.n + 1) { env := ofL [(0, noNew (noNew a0)), (1, noNew (noNew a1)), (7, noNew v1), (8, noNew (noNew (gi 0)))], heap := h } (kBlk 0 (kSeq (F175_1 X K) (kRet X.toComb gp Tryz.f175.results.toList K)))
def F175 (X : Ctx) (a0 a1 : GV) (h : List GB) (K : CK) : Bool :=
  X.v1 (glen gp 48 (noNew (noNew (noNew (noNew a0))))) (F175_2 X a0 a1 h K)
theorem F175_c (X : Ctx) (a0 a1 : GV) (h : List GB) (K : CK) : gx2 X.toComb gp X.call X.lk 175 (X.n + 1) (Tryz.f175.body.getD .skip) { env := initE [a0, a1], heap := h } (kRet X.toComb gp Tryz.f175.results.toList K) = F175 X a0 a1 h K := by kernel_rfl
theorem F175_eq (n lk : Nat) (a0 a1 : GV) (h : List GB) (K : CK) : gcall gp (n + 1) lk 175 [a0, a1] h K = F175 (sX (gcall gp n) n lk) a0 a1 h K :=
  (gcall_two (fn := Tryz.f175) (c := Tryz.f175.body.getD .skip) (by kernel_rfl) (by kernel_rfl) (by kernel_rfl)).trans (F175_c (sX (gcall gp n) n lk) a0 a1 h K)

-- slices.ContainsFunc[[]int,int]
def F115_1 (X : Ctx) (K : CK) (h2 : List GB) (v3 : GV) : Bool :=
  K (noNew (noNew v3)) h2
def F115_2 (X : Ctx) (K : CK) (v1 : GV) (h2 : List GB) : Bool :=
  X.v1 (gbin gp .geq 3 (noNew v1) (gi 0)) (F115_1 X K h2)
def F115 (X : Ctx) (a0 a1 : GV) (h : List GB) (K : CK) : Bool :=
  X.h1 (X.call X.lk 175 [noNew (noNew (noNew (noNew a0))), noNew (noNew (noNew (noNew a1)))] h) (F115_2 X K)
theorem F115_c (X : Ctx) (a0 a1 : GV) (h : List GB) (K : CK) : gx2 X.toComb gp X.call X.lk 115 (X.n + 1) (Tryz.f115.body.getD .skip) { env := initE [a0, a1], heap := h } (kRet X.toComb gp Tryz.f115.results.toList K) = F115 X a0 a1 h K := by kernel_rfl
theorem F115_eq (n lk : Nat) (a0 a1 : GV) (h : List GB) (K : CK) : gcall gp (n + 1) lk 115 [a0, a1] h K = F115 (sX (gcall gp n) n lk) a0 a1 h K :=
  (gcall_two (fn := Tryz.f115) (c := Tryz.f115.body.getD .skip) (by kernel_rfl) (by kernel_rfl) (by kernel_rfl)).trans (F115_c (sX (gcall gp n) n lk) a0 a1 h K)

-- formulary/depend.formErr
def F98_1 (X : Ctx) (K : CK) (v20 : GV) (h21 : List GB) : Bool :=
  K (noNew (noNew v20)) h21
def F98_2 (X : Ctx) (h16 : List GB) (K : CK) (v19 : GV) : Bool :=
  X.h1 (gcall0 X.call 94 [noNew v19] h16) (F98_1 X K)
def F98_3 (X : Ctx) (v11 : GV) (h16 : List GB) (K : CK) (v18 : GV) : Bool :=
  X.v1 (gbuildS gp 226 2 [(0, noNew v11), (1, noNew v18)]) (F98_2 X h16 K)
def F98_4 (X : Ctx) (v11 : GV) (h16 : List GB) (K : CK) (v17 : GV) : Bool :=
  X.v1 (gbuild gp 159 [(0, noNew v17), (1, gi 2)]) (F98_3 X v11 h16 K)
def F98_5 (X : Ctx) (v12 v11 : GV) (K : CK) (v15 : GV) (h16 : List GB) : Bool :=
  X.v1 (gpick (noNew (noNew (noNew v12))) (noNew v15) (gb false)) (F98_4 X v11 h16 K)
def F98_6 (X : Ctx) (v12 : GV) (h6 : List GB) (v11 : GV) (K : CK) (v14 : GV) : Bool :=
  X.gh (wG true (noNew (noNew v12))) (gcall0 X.call 102 [noNew v14, gi (-64), gi 64] h6) h6 (F98_5 X v12 v11 K)
def F98_7 (X : Ctx) (v12 : GV) (h6 : List GB) (v11 : GV) (K : CK) (v13 : GV) : Bool :=
  X.g1 (wG true (noNew (noNew v12))) (gload gp 3 (noNew v13) h6) (F98_6 X v12 h6 v11 K)
def F98_8 (X : Ctx) (v1 : GV) (h6 : List GB) (v11 : GV) (K : CK) (v12 : GV) : Bool :=
  X.g1 (wG true (noNew (noNew v12))) (gfieldAddr gp 123 (noNew v1) 1) (F98_7 X v12 h6 v11 K)
def F98_9 (X : Ctx) (v5 v1 : GV) (h6 : List GB) (K : CK) (v11 : GV) : Bool :=
  X.v1 (gnot (noNew (noNew (noNew (noNew (noNew v5)))))) (F98_8 X v1 h6 v11 K)
def F98_10 (X : Ctx) (v5 v1 : GV) (h6 : List GB) (K : CK) (v10 : GV) : Bool :=
  X.v1 (gbuild gp 159 [(0, noNew v10), (1, gi 10)]) (F98_9 X v5 v1 h6 K)
def F98_11 (X : Ctx) (a1 v5 v1 : GV) (h6 : List GB) (K : CK) (v9 : GV) : Bool :=
  X.v1 (gbin gp .eql 3 (noNew v9) (noNew (noNew (noNew (noNew a1))))) (F98_10 X v5 v1 h6 K)
def F98_12 (X : Ctx) (a1 v5 v1 : GV) (h6 : List GB) (K : CK) (v8 : GV) : Bool :=
  X.v1 (glen gp 48 (noNew v8)) (F98_11 X a1 v5 v1 h6 K)
def F98_13 (X : Ctx) (h6 : List GB) (a1 v5 v1 : GV) (K : CK) (v7 : GV) : Bool :=
  X.v1 (gload gp 48 (noNew v7) h6) (F98_12 X a1 v5 v1 h6 K)
def F98_14 (X : Ctx) (v1 a1 : GV) (K : CK) (v5 : GV) (h6 : List GB) : Bool :=
  X.v1 (gfieldAddr gp 123 (noNew v1) 0) (F98_13 X h6 a1 v5 v1 K)
def F98_15 (X : Ctx) (h2 : List GB) (v1 a1 : GV) (K : CK) (v4 : GV) : Bool :=
  X.h1 (X.call X.lk 115 [noNew v4, GV.d (.fn (.func 168) [] [])] h2) (F98_14 X v1 a1 K)
def F98_16 (X : Ctx) (h2 : List GB) (v1 a1 : GV) (K : CK) (v3 : GV) : Bool :=
  X.v1 (gload gp 48 (noNew v3) h2) (F98_15 X h2 v1 a1 K)
def F98_17 (X : Ctx) (a1 : GV) (K : CK) (v1 : GV) (h2 : List GB) : Bool :=
  X.v1 (gfieldAddr gp 123 (noNew v1) 0) (F98_16 X h2 v1 a1 K)
def F98 (X : Ctx) (a0 a1 : GV) (h : List GB) (K : CK) : Bool :=
  X.h1 (gbox true (noNew (noNew a0)) h) (F98_17 X a1 K)
theorem F98_c (X : Ctx) (a0 a1 : GV) (h : List GB) (K : CK) : gx2 X.toComb gp X.call X.lk 98 (X.n + 1) (Tryz.f98.body.getD .skip) { env := initE [a0, a1], heap := h } (kRet X.toComb gp Tryz.f98.results.toList K) = F98 X a0 a1 h K := by kernel_rfl
theorem F98_eq (n lk : Nat) (a0 a1 : GV) (h : List GB) (K : CK) : gcall gp (n + 1) lk 98 [a0, a1] h K = F98 (sX (gcall gp n) n lk) a0 a1 h K :=
  (gcall_two (fn := Tryz.f98) (c := Tryz.f98.body.getD .skip) (by kernel_rfl) (by kernel_rfl) (by kernel_rfl)).trans (F98_c (sX (gcall gp n) n lk) a0 a1 h K)

-- cmp.Or[formulary/api.Errno]
def B97_0_1 (X : Ctx) (again : St → Bool) (s : St) (v6 : GV) : Bool :=
  again { env := ofL [(3, noNew (noNew (s.env 3))), (6, noNew (noNew (s.env 6))), (7, noNew (noNew (s.env 7))), (8, noNew (noNew (noNew v6)))], heap := s.heap }
def B97_0_2 (X : Ctx) (K : GX → St → Bool) (s : St) (v2 v3 v4 v5 : GV) (again : St → Bool) (t : Bool) : Bool :=
  bif t then K .ret { env := put (put (put (put (put (put (put (put (put (ofL [(3, noNew (s.env 3)), (6, noNew (s.env 6)), (7, noNew (s.env 7)), (8, noNew (s.env 8))]) (some 9) v2) (some 10) v3) (some 11) v4) (some 5) (noNew (noNew v4))) (some 12) (noNew (noNew (noNew (noNew v4))))) (some 13) (noNew (noNew (noNew (s.env 3))))) (some 14) v5) (some 15) (noNew (noNew (noNew (noNew v4))))) (some 2) (noNew (noNew (noNew (noNew (noNew (noNew v4)))))), heap := s.heap } else X.v1 (gbin gp .add 3 (noNew (noNew (s.env 8))) (gi 1)) (B97_0_1 X again s)
def B97_0_3 (X : Ctx) (K : GX → St → Bool) (s : St) (v2 v3 v4 : GV) (again : St → Bool) (v5 : GV) : Bool :=
  X.b1 (asB (noNew v5)) (B97_0_2 X K s v2 v3 v4 v5 again)
def B97_0_4 (X : Ctx) (s : St) (K : GX → St → Bool) (v2 v3 : GV) (again : St → Bool) (v4 : GV) : Bool :=
  X.v1 (gbin gp .neq 30 (noNew (noNew (noNew (noNew (noNew v4))))) (noNew (noNew (noNew (noNew (s.env 3)))))) (B97_0_3 X K s v2 v3 v4 again)
def B97_0_5 (X : Ctx) (s : St) (K : GX → St → Bool) (v2 : GV) (again : St → Bool) (v3 : GV) : Bool :=
  X.v1 (gload gp 30 (noNew v3) s.heap) (B97_0_4 X s K v2 v3 again)
def B97_0_6 (X : Ctx) (s : St) (K : GX → St → Bool) (v2 : GV) (again : St → Bool) (t : Bool) : Bool :=
  bif t then X.v1 (gindexAddr gp 227 (noNew (noNew (s.env 6))) (noNew (noNew (s.env 8)))) (B97_0_5 X s K v2 again) else K (.exit 0) { env := put (ofL [(3, noNew (s.env 3)), (6, noNew (s.env 6)), (7, noNew (s.env 7)), (8, noNew (s.env 8))]) (some 9) v2, heap := s.heap }
def B97_0_7 (X : Ctx) (s : St) (K : GX → St → Bool) (again : St → Bool) (v2 : GV) : Bool :=
  X.b1 (asB (noNew v2)) (B97_0_6 X s K v2 again)
def B97_0 (X : Ctx) (s : St) (again : St → Bool) (K : GX → St → Bool) : Bool :=
  X.v1 (gbin gp .lss 3 (noNew (noNew (s.env 8))) (noNew (noNew (s.env 7)))) (B97_0_7 X s K again)
def F97_1 (X : Ctx) (K : CK) (s7 : St) : Bool :=
  K (noNew (noNew (noNew (noNew (noNew (s7.env 3)))))) s7.heap
def F97_2 (X : Ctx) (a0 : GV) (h : List GB) (K : CK) (v1 : GV) : Bool :=
  X.loop (B97_0 X) (X.n + 1) { env := ofL [(3, noNew (noNew (gi 0))), (6, noNew (noNew (noNew (noNew a0)))), (7, noNew v1), (8, noNew (noNew (gi 0)))], heap := h } (kBlk 0 (kSeq (F97_1 X K) (kRet X.toComb gp Tryz.f97.results.toList K)))
def F97 (X : Ctx) (a0 : GV) (h : List GB) (K : CK) : Bool :=
  X.v1 (glen gp 227 (noNew (noNew (noNew (noNew a0))))) (F97_2 X a0 h K)
theorem F97_c (X : Ctx) (a0 : GV) (h : List GB) (K : CK) : gx2 X.toComb gp X.call X.lk 97 (X.n + 1) (Tryz.f97.body.getD .skip) { env := initE [a0], heap := h } (kRet X.toComb gp Tryz.f97.results.toList K) = F97 X a0 h K := by kernel_rfl
theorem F97_eq (n lk : Nat) (a0 : GV) (h : List GB) (K : CK) : gcall gp (n + 1) lk 97 [a0] h K = F97 (sX (gcall gp n) n lk) a0 h K :=
  (gcall_two (fn := Tryz.f97) (c := Tryz.f97.body.getD .skip) (by kernel_rfl) (by kernel_rfl) (by kernel_rfl)).trans (F97_c (sX (gcall gp n) n lk) a0 h K)

-- formulary/depend.CheckNest$1
def F96_1 (X : Ctx) (K : CK) (v12 : GV) (h13 : List GB) : Bool :=
  K (noNew (noNew v12)) h13
def F96_2 (X : Ctx) (h10 : List GB) (K : CK) (v11 : GV) : Bool :=
  X.h1 (gcall0 X.call 97 [noNew v11] h10) (F96_1 X K)
def F96_3 (X : Ctx) (v5 : GV) (K : CK) (v9 : GV) (h10 : List GB) : Bool :=
  X.v1 (gbuildS gp 227 2 [(0, noNew v5), (1, noNew v9)]) (F96_2 X h10 K)
def F96_4 (X : Ctx) (a0 : GV) (h6 : List GB) (v5 : GV) (K : CK) (v8 : GV) : Bool :=
  X.h1 (gcall0 X.call 98 [noNew v8, noNew (noNew (noNew (noNew a0)))] h6) (F96_3 X v5 K)
def F96_5 (X : Ctx) (h6 : List GB) (a0 v5 : GV) (K : CK) (v7 : GV) : Bool :=
  X.v1 (gload gp 123 (noNew v7) h6) (F96_4 X a0 h6 v5 K)
def F96_6 (X : Ctx) (v1 a0 : GV) (K : CK) (v5 : GV) (h6 : List GB) : Bool :=
  X.v1 (gfieldAddr gp 125 (noNew v1) 1) (F96_5 X h6 a0 v5 K)
def F96_7 (X : Ctx) (a0 : GV) (h2 : List GB) (v1 : GV) (K : CK) (v4 : GV) : Bool :=
  X.h1 (gcall0 X.call 98 [noNew v4, noNew (noNew (noNew (noNew a0)))] h2) (F96_6 X v1 a0 K)
def F96_8 (X : Ctx) (h2 : List GB) (a0 v1 : GV) (K : CK) (v3 : GV) : Bool :=
  X.v1 (gload gp 123 (noNew v3) h2) (F96_7 X a0 h2 v1 K)
def F96_9 (X : Ctx) (a0 : GV) (K : CK) (v1 : GV) (h2 : List GB) : Bool :=
  X.v1 (gfieldAddr gp 125 (noNew v1) 0) (F96_8 X h2 a0 v1 K)
def F96 (X : Ctx) (a0 a1 : GV) (h : List GB) (K : CK) : Bool :=
  X.h1 (gbox true (noNew (noNew a1)) h) (F96_9 X a0 K)
theorem F96_c (X : Ctx) (a0 a1 : GV) (h : List GB) (K : CK) : gx2 X.toComb gp X.call X.lk 96 (X.n + 1) (Tryz.f96.body.getD .skip) { env := initE [a0, a1], heap := h } (kRet X.toComb gp Tryz.f96.results.toList K) = F96 X a0 a1 h K := by kernel_rfl
theorem F96_eq (n lk : Nat) (a0 a1 : GV) (h : List GB) (K : CK) : gcall gp (n + 1) lk 96 [a0, a1] h K = F96 (sX (gcall gp n) n lk) a0 a1 h K :=
  (gcall_two (fn := Tryz.f96) (c := Tryz.f96.body.getD .skip) (by kernel_rfl) (by kernel_rfl) (by kernel_rfl)).trans (F96_c (sX (gcall gp n) n lk) a0 a1 h K)

-- formulary/depend.firstBad[formulary/api.Loop]
def B95_0_1 (X : Ctx) (again : St → Bool) (s : St) (h9 : List GB) (v11 : GV) : Bool :=
  again { env := ofL [(1, noNew (noNew (s.env 1))), (9, noNew (noNew (s.env 9))), (10, noNew (noNew (s.env 10))), (11, noNew (noNew (noNew v11)))], heap := h9 }
def B95_0_2 (X : Ctx) (K : GX → St → Bool) (s : St) (v2 v3 v4 v5 v7 v8 v10 : GV) (h9 : List GB) (again : St → Bool) (t : Bool) : Bool :=
  bif t then K .ret { env := put (put (put (put (put (put (put (put (put (put (put (put (put (put (put (put (put (put (ofL [(1, noNew (s.env 1)), (9, noNew (s.env 9)), (10, noNew (s.env 10)), (11, noNew (s.env 11))]) (some 12) v2) (some 13) (noNew (noNew (noNew (s.env 11))))) (some 14) v3) (some 15) v4) (some 7) (GV.new 125)) (some 6) (noNew (noNew (noNew (noNew (noNew (s.env 11))))))) (some 7) v5) (some 16) (noNew (noNew (noNew (s.env 1))))) (some 17) (noNew (noNew (noNew (noNew (noNew (noNew (noNew (s.env 11))))))))) (some 18) v7) (some 19) v8) (some 8) (noNew (noNew v8))) (some 20) (noNew (noNew (noNew (noNew v8))))) (some 21) v10) (some 22) (noNew (noNew (noNew (noNew (noNew (noNew (noNew (s.env 11))))))))) (some 23) (noNew (noNew (noNew (noNew v8))))) (some 4) (noNew (noNew (noNew (noNew (noNew (noNew (noNew (noNew (noNew (s.env 11))))))))))) (some 5) (noNew (noNew (noNew (noNew (noNew (noNew v8)))))), heap := h9 } else X.v1 (gbin gp .add 3 (noNew (noNew (s.env 11))) (gi 1)) (B95_0_1 X again s h9)
def B95_0_3 (X : Ctx) (K : GX → St → Bool) (s : St) (v2 v3 v4 v5 v7 v8 : GV) (h9 : List GB) (again : St → Bool) (v10 : GV) : Bool :=
  X.b1 (asB (noNew v10)) (B95_0_2 X K s v2 v3 v4 v5 v7 v8 v10 h9 again)
def B95_0_4 (X : Ctx) (K : GX → St → Bool) (s : St) (v2 v3 v4 v5 v7 : GV) (again : St → Bool) (v8 : GV) (h9 : List GB) : Bool :=
  X.v1 (gbin gp .neq 30 (noNew (noNew (noNew (noNew (noNew v8))))) (gi 0)) (B95_0_3 X K s v2 v3 v4 v5 v7 v8 h9 again)
def B95_0_5 (X : Ctx) (s : St) (h6 : List GB) (K : GX → St → Bool) (v2 v3 v4 v5 : GV) (again : St → Bool) (v7 : GV) : Bool :=
  X.h1 (gdyn gp X.call X.lk (noNew (noNew (noNew (noNew (s.env 1))))) [noNew (noNew (noNew (noNew (noNew (noNew (noNew (noNew (s.env 11)))))))), noNew v7] h6) (B95_0_4 X K s v2 v3 v4 v5 v7 again)
def B95_0_6 (X : Ctx) (s : St) (K : GX → St → Bool) (v2 v3 v4 : GV) (again : St → Bool) (v5 : GV) (h6 : List GB) : Bool :=
  X.v1 (gload gp 125 (noNew v5) h6) (B95_0_5 X s h6 K v2 v3 v4 v5 again)
def B95_0_7 (X : Ctx) (s : St) (K : GX → St → Bool) (v2 v3 : GV) (again : St → Bool) (v4 : GV) : Bool :=
  X.i1 true 4 (noNew v4) s.heap (B95_0_6 X s K v2 v3 v4 again)
def B95_0_8 (X : Ctx) (s : St) (K : GX → St → Bool) (v2 : GV) (again : St → Bool) (v3 : GV) : Bool :=
  X.v1 (gload gp 125 (noNew v3) s.heap) (B95_0_7 X s K v2 v3 again)
def B95_0_9 (X : Ctx) (s : St) (K : GX → St → Bool) (v2 : GV) (again : St → Bool) (t : Bool) : Bool :=
  bif t then X.v1 (gindexAddr gp 22 (noNew (noNew (s.env 9))) (noNew (noNew (s.env 11)))) (B95_0_8 X s K v2 again) else K (.exit 0) { env := put (ofL [(1, noNew (s.env 1)), (9, noNew (s.env 9)), (10, noNew (s.env 10)), (11, noNew (s.env 11))]) (some 12) v2, heap := s.heap }
def B95_0_10 (X : Ctx) (s : St) (K : GX → St → Bool) (again : St → Bool) (v2 : GV) : Bool :=
  X.b1 (asB (noNew v2)) (B95_0_9 X s K v2 again)
def B95_0 (X : Ctx) (s : St) (again : St → Bool) (K : GX → St → Bool) : Bool :=
  X.v1 (gbin gp .lss 3 (noNew (noNew (s.env 11))) (noNew (noNew (s.env 10)))) (B95_0_10 X s K again)
def F95_1 (X : Ctx) (K : CK) (s12 : St) : Bool :=
  K (GV.tup [noNew (gi 0), noNew (gi 0)]) s12.heap
def F95_2 (X : Ctx) (a1 a0 : GV) (h : List GB) (K : CK) (v1 : GV) : Bool :=
  X.loop (B95_0 X) (X.n + 1) { env := ofL [(1, noNew (noNew a1)), (9, noNew (noNew (noNew (noNew a0)))), (10, noNew v1), (11, noNew (noNew (gi 0)))], heap := h } (kBlk 0 (kSeq (F95_1 X K) (kRet X.toComb gp Tryz.f95.results.toList K)))
def F95 (X : Ctx) (a0 a1 : GV) (h : List GB) (K : CK) : Bool :=
  X.v1 (glen gp 22 (noNew (noNew (noNew (noNew a0))))) (F95_2 X a1 a0 h K)
theorem F95_c (X : Ctx) (a0 a1 : GV) (h : List GB) (K : CK) : gx2 X.toComb gp X.call X.lk 95 (X.n + 1) (Tryz.f95.body.getD .skip) { env := initE [a0, a1], heap := h } (kRet X.toComb gp Tryz.f95.results.toList K) = F95 X a0 a1 h K := by kernel_rfl
theorem F95_eq (n lk : Nat) (a0 a1 : GV) (h : List GB) (K : CK) : gcall gp (n + 1) lk 95 [a0, a1] h K = F95 (sX (gcall gp n) n lk) a0 a1 h K :=
  (gcall_two (fn := Tryz.f95) (c := Tryz.f95.body.getD .skip) (by kernel_rfl) (by kernel_rfl) (by kernel_rfl)).trans (F95_c (sX (gcall gp n) n lk) a0 a1 h K)

-- formulary/depend.value
def B172_0_1 (X : Ctx) (again : St → Bool) (s : St) (v14 v15 : GV) : Bool :=
  again { env := ofL [(1, noNew (noNew (s.env 1))), (5, noNew (noNew (noNew v14))), (11, noNew (noNew (s.env 11))), (12, noNew (noNew (s.env 12))), (13, noNew (noNew (noNew v15)))], heap := s.heap }
def B172_0_2 (X : Ctx) (s : St) (again : St → Bool) (v14 : GV) : Bool :=
  X.v1 (gbin gp .add 3 (noNew (noNew (s.env 13))) (gi 1)) (B172_0_1 X again s v14)
def B172_0_3 (X : Ctx) (s : St) (again : St → Bool) (v13 : GV) : Bool :=
  X.v1 (gbin gp .add 3 (noNew (noNew (noNew (noNew (s.env 5))))) (noNew v13)) (B172_0_2 X s again)
def B172_0_4 (X : Ctx) (v10 : GV) (s : St) (again : St → Bool) (v12 : GV) : Bool :=
  X.v1 (gbin gp .mul 3 (noNew (noNew (noNew (noNew (noNew v10))))) (noNew v12)) (B172_0_3 X s again)
def B172_0_5 (X : Ctx) (s : St) (v10 : GV) (again : St → Bool) (v11 : GV) : Bool :=
  X.v1 (gload gp 3 (noNew v11) s.heap) (B172_0_4 X v10 s again)
def B172_0_6 (X : Ctx) (s : St) (again : St → Bool) (v10 : GV) : Bool :=
  X.v1 (gindexAddr gp 48 (noNew (noNew (noNew (noNew (s.env 1))))) (noNew (noNew (noNew (noNew (noNew (noNew (noNew (noNew (s.env 13)))))))))) (B172_0_5 X s v10 again)
def B172_0_7 (X : Ctx) (s : St) (again : St → Bool) (v9 : GV) : Bool :=
  X.v1 (gload gp 3 (noNew v9) s.heap) (B172_0_6 X s again)
def B172_0_8 (X : Ctx) (s : St) (again : St → Bool) (K : GX → St → Bool) (v8 : GV) (t : Bool) : Bool :=
  bif t then X.v1 (gindexAddr gp 48 (noNew (noNew (s.env 11))) (noNew (noNew (s.env 13)))) (B172_0_7 X s again) else K (.exit 0) { env := put (ofL [(1, noNew (s.env 1)), (5, noNew (s.env 5)), (11, noNew (s.env 11)), (12, noNew (s.env 12)), (13, noNew (s.env 13))]) (some 14) v8, heap := s.heap }
def B172_0_9 (X : Ctx) (s : St) (again : St → Bool) (K : GX → St → Bool) (v8 : GV) : Bool :=
  X.b1 (asB (noNew v8)) (B172_0_8 X s again K v8)
def B172_0 (X : Ctx) (s : St) (again : St → Bool) (K : GX → St → Bool) : Bool :=
  X.v1 (gbin gp .lss 3 (noNew (noNew (s.env 13))) (noNew (noNew (s.env 12)))) (B172_0_9 X s again K)
def F172_1 (X : Ctx) (K : CK) (s16 : St) : Bool :=
  K (noNew (noNew (noNew (noNew (noNew (s16.env 5)))))) s16.heap
def F172_2 (X : Ctx) (a1 v4 v6 : GV) (h2 : List GB) (K : CK) (v7 : GV) : Bool :=
  X.loop (B172_0 X) (X.n + 1) { env := ofL [(1, noNew (noNew a1)), (5, noNew (noNew (noNew v4))), (11, noNew v6), (12, noNew v7), (13, noNew (noNew (gi 0)))], heap := h2 } (kBlk 0 (kSeq (F172_1 X K) (kRet X.toComb gp Tryz.f172.results.toList K)))
def F172_3 (X : Ctx) (a1 v4 : GV) (h2 : List GB) (K : CK) (v6 : GV) : Bool :=
  X.v1 (glen gp 48 (noNew v6)) (F172_2 X a1 v4 v6 h2 K)
def F172_4 (X : Ctx) (h2 : List GB) (a1 v4 : GV) (K : CK) (v5 : GV) : Bool :=
  X.v1 (gload gp 48 (noNew v5) h2) (F172_3 X a1 v4 h2 K)
def F172_5 (X : Ctx) (v1 : GV) (h2 : List GB) (a1 : GV) (K : CK) (v4 : GV) : Bool :=
  X.v1 (gfieldAddr gp 123 (noNew v1) 0) (F172_4 X h2 a1 v4 K)
def F172_6 (X : Ctx) (h2 : List GB) (v1 a1 : GV) (K : CK) (v3 : GV) : Bool :=
  X.v1 (gload gp 3 (noNew v3) h2) (F172_5 X v1 h2 a1 K)
def F172_7 (X : Ctx) (a1 : GV) (K : CK) (v1 : GV) (h2 : List GB) : Bool :=
  X.v1 (gfieldAddr gp 123 (noNew v1) 1) (F172_6 X h2 v1 a1 K)
def F172 (X : Ctx) (a0 a1 : GV) (h : List GB) (K : CK) : Bool :=
  X.h1 (gbox true (noNew (noNew a0)) h) (F172_7 X a1 K)
theorem F172_c (X : Ctx) (a0 a1 : GV) (h : List GB) (K : CK) : gx2 X.toComb gp X.call X.lk 172 (X.n + 1) (Tryz.f172.body.getD .skip) { env := initE [a0, a1], heap := h } (kRet X.toComb gp Tryz.f172.results.toList K) = F172 X a0 a1 h K := by kernel_rfl
theorem F172_eq (n lk : Nat) (a0 a1 : GV) (h : List GB) (K : CK) : gcall gp (n + 1) lk 172 [a0, a1] h K = F172 (sX (gcall gp n) n lk) a0 a1 h K :=
  (gcall_two (fn := Tryz.f172) (c := Tryz.f172.body.getD .skip) (by kernel_rfl) (by kernel_rfl) (by kernel_rfl)).trans (F172_c (sX (gcall gp n) n lk) a0 a1 h K)

-- formulary/depend.least
def B170_0_1 (X : Ctx) (again : St → Bool) (s : St) (v20 v21 : GV) : Bool :=
  again { env := ofL [(1, noNew (noNew (s.env 1))), (5, noNew (noNew (noNew v20))), (11, noNew (noNew (s.env 11))), (12, noNew (noNew (s.env 12))), (13, noNew (noNew (noNew v21)))], heap := s.heap }
def B170_0_2 (X : Ctx) (s : St) (again : St → Bool) (v20 : GV) : Bool :=
  X.v1 (gbin gp .add 3 (noNew (noNew (s.env 13))) (gi 1)) (B170_0_1 X again s v20)
def B170_0_3 (X : Ctx) (s : St) (again : St → Bool) (v19 : GV) : Bool :=
  X.v1 (gbin gp .add 3 (noNew (noNew (noNew (noNew (s.env 5))))) (noNew v19)) (B170_0_2 X s again)
def B170_0_4 (X : Ctx) (v14 : GV) (s : St) (again : St → Bool) (v18 : GV) : Bool :=
  X.v1 (gmin (noNew v14) [noNew v18]) (B170_0_3 X s again)
def B170_0_5 (X : Ctx) (v10 v14 : GV) (s : St) (again : St → Bool) (v17 : GV) : Bool :=
  X.v1 (gbin gp .mul 3 (noNew (noNew (noNew (noNew (noNew v10))))) (noNew v17)) (B170_0_4 X v14 s again)
def B170_0_6 (X : Ctx) (s : St) (v10 v14 : GV) (again : St → Bool) (v16 : GV) : Bool :=
  X.v1 (gload gp 3 (noNew v16) s.heap) (B170_0_5 X v10 v14 s again)
def B170_0_7 (X : Ctx) (s : St) (v10 v14 : GV) (again : St → Bool) (v15 : GV) : Bool :=
  X.v1 (gfieldAddr gp 98 (noNew v15) 1) (B170_0_6 X s v10 v14 again)
def B170_0_8 (X : Ctx) (s : St) (v10 : GV) (again : St → Bool) (v14 : GV) : Bool :=
  X.v1 (gindexAddr gp 56 (noNew (noNew (noNew (noNew (s.env 1))))) (noNew (noNew (noNew (noNew (noNew (noNew (noNew (noNew (s.env 13)))))))))) (B170_0_7 X s v10 v14 again)
def B170_0_9 (X : Ctx) (v10 : GV) (s : St) (again : St → Bool) (v13 : GV) : Bool :=
  X.v1 (gbin gp .mul 3 (noNew (noNew (noNew (noNew (noNew v10))))) (noNew v13)) (B170_0_8 X s v10 again)
def B170_0_10 (X : Ctx) (s : St) (v10 : GV) (again : St → Bool) (v12 : GV) : Bool :=
  X.v1 (gload gp 3 (noNew v12) s.heap) (B170_0_9 X v10 s again)
def B170_0_11 (X : Ctx) (s : St) (v10 : GV) (again : St → Bool) (v11 : GV) : Bool :=
  X.v1 (gfieldAddr gp 98 (noNew v11) 0) (B170_0_10 X s v10 again)
def B170_0_12 (X : Ctx) (s : St) (again : St → Bool) (v10 : GV) : Bool :=
  X.v1 (gindexAddr gp 56 (noNew (noNew (noNew (noNew (s.env 1))))) (noNew (noNew (noNew (noNew (noNew (noNew (noNew (noNew (s.env 13)))))))))) (B170_0_11 X s v10 again)
def B170_0_13 (X : Ctx) (s : St) (again : St → Bool) (v9 : GV) : Bool :=
  X.v1 (gload gp 3 (noNew v9) s.heap) (B170_0_12 X s again)
def B170_0_14 (X : Ctx) (s : St) (again : St → Bool) (K : GX → St → Bool) (v8 : GV) (t : Bool) : Bool :=
  bif t then X.v1 (gindexAddr gp 48 (noNew (noNew (s.env 11))) (noNew (noNew (s.env 13)))) (B170_0_13 X s again) else K (.exit 0) { env := put (ofL [(1, noNew (s.env 1)), (5, noNew (s.env 5)), (11, noNew (s.env 11)), (12, noNew (s.env 12)), (13, noNew (s.env 13))]) (some 14) v8, heap := s.heap }
def B170_0_15 (X : Ctx) (s : St) (again : St → Bool) (K : GX → St → Bool) (v8 : GV) : Bool :=
  X.b1 (asB (noNew v8)) (B170_0_14 X s again K v8)
def B170_0 (X : Ctx) (s : St) (again : St → Bool) (K : GX → St → Bool) : Bool :=
  X.v1 (gbin gp .lss 3 (noNew (noNew (s.env 13))) (noNew (noNew (s.env 12)))) (B170_0_15 X s again K)
def F170_1 (X : Ctx) (K : CK) (s22 : St) : Bool :=
  K (noNew (noNew (noNew (noNew (noNew (s22.env 5)))))) s22.heap
def F170_2 (X : Ctx) (a1 v4 v6 : GV) (h2 : List GB) (K : CK) (v7 : GV) : Bool :=
  X.loop (B170_0 X) (X.n + 1) { env := ofL [(1, noNew (noNew a1)), (5, noNew (noNew (noNew v4))), (11, noNew v6), (12, noNew v7), (13, noNew (noNew (gi 0)))], heap := h2 } (kBlk 0 (kSeq (F170_1 X K) (kRet X.toComb gp Tryz.f170.results.toList K)))
def F170_3 (X : Ctx) (a1 v4 : GV) (h2 : List GB) (K : CK) (v6 : GV) : Bool :=
  X.v1 (glen gp 48 (noNew v6)) (F170_2 X a1 v4 v6 h2 K)
def F170_4 (X : Ctx) (h2 : List GB) (a1 v4 : GV) (K : CK) (v5 : GV) : Bool :=
  X.v1 (gload gp 48 (noNew v5) h2) (F170_3 X a1 v4 h2 K)
def F170_5 (X : Ctx) (v1 : GV) (h2 : List GB) (a1 : GV) (K : CK) (v4 : GV) : Bool :=
  X.v1 (gfieldAddr gp 123 (noNew v1) 0) (F170_4 X h2 a1 v4 K)
def F170_6 (X : Ctx) (h2 : List GB) (v1 a1 : GV) (K : CK) (v3 : GV) : Bool :=
  X.v1 (gload gp 3 (noNew v3) h2) (F170_5 X v1 h2 a1 K)
def F170_7 (X : Ctx) (a1 : GV) (K : CK) (v1 : GV) (h2 : List GB) : Bool :=
  X.v1 (gfieldAddr gp 123 (noNew v1) 1) (F170_6 X h2 v1 a1 K)
def F170 (X : Ctx) (a0 a1 : GV) (h : List GB) (K : CK) : Bool :=
  X.h1 (gbox true (noNew (noNew a0)) h) (F170_7 X a1 K)
theorem F170_c (X : Ctx) (a0 a1 : GV) (h : List GB) (K : CK) : gx2 X.toComb gp X.call X.lk 170 (X.n + 1) (Tryz.f170.body.getD .skip) { env := initE [a0, a1], heap := h } (kRet X.toComb gp Tryz.f170.results.toList K) = F170 X a0 a1 h K := by kernel_rfl
theorem F170_eq (n lk : Nat) (a0 a1 : GV) (h : List GB) (K : CK) : gcall gp (n + 1) lk 170 [a0, a1] h K = F170 (sX (gcall gp n) n lk) a0 a1 h K :=
  (gcall_two (fn := Tryz.f170) (c := Tryz.f170.body.getD .skip) (by kernel_rfl) (by kernel_rfl) (by kernel_rfl)).trans (F170_c (sX (gcall gp n) n lk) a0 a1 h K)

-- formulary/depend.greatest
def B171_0_1 (X : Ctx) (again : St → Bool) (s : St) (v20 v21 : GV) : Bool :=
  again { env := ofL [(1, noNew (noNew (s.env 1))), (5, noNew (noNew (noNew v20))), (11, noNew (noNew (s.env 11))), (12, noNew (noNew (s.env 12))), (13, noNew (noNew (noNew v21)))], heap := s.heap }
def B171_0_2 (X : Ctx) (s : St) (again : St → Bool) (v20 : GV) : Bool :=
  X.v1 (gbin gp .add 3 (noNew (noNew (s.env 13))) (gi 1)) (B171_0_1 X again s v20)
def B171_0_3 (X : Ctx) (s : St) (again : St → Bool) (v19 : GV) : Bool :=
  X.v1 (gbin gp .add 3 (noNew (noNew (noNew (noNew (s.env 5))))) (noNew v19)) (B171_0_2 X s again)
def B171_0_4 (X : Ctx) (v14 : GV) (s : St) (again : St → Bool) (v18 : GV) : Bool :=
  X.v1 (gmax (noNew v14) [noNew v18]) (B171_0_3 X s again)
def B171_0_5 (X : Ctx) (v10 v14 : GV) (s : St) (again : St → Bool) (v17 : GV) : Bool :=
  X.v1 (gbin gp .mul 3 (noNew (noNew (noNew (noNew (noNew v10))))) (noNew v17)) (B171_0_4 X v14 s again)
def B171_0_6 (X : Ctx) (s : St) (v10 v14 : GV) (again : St → Bool) (v16 : GV) : Bool :=
  X.v1 (gload gp 3 (noNew v16) s.heap) (B171_0_5 X v10 v14 s again)
def B171_0_7 (X : Ctx) (s : St) (v10 v14 : GV) (again : St → Bool) (v15 : GV) : Bool :=
  X.v1 (gfieldAddr gp 98 (noNew v15) 1) (B171_0_6 X s v10 v14 again)
def B171_0_8 (X : Ctx) (s : St) (v10 : GV) (again : St → Bool) (v14 : GV) : Bool :=
  X.v1 (gindexAddr gp 56 (noNew (noNew (noNew (noNew (s.env 1))))) (noNew (noNew (noNew (noNew (noNew (noNew (noNew (noNew (s.env 13)))))))))) (B171_0_7 X s v10 v14 again)
def B171_0_9 (X : Ctx) (v10 : GV) (s : St) (again : St → Bool) (v13 : GV) : Bool :=
  X.v1 (gbin gp .mul 3 (noNew (noNew (noNew (noNew (noNew v10))))) (noNew v13)) (B171_0_8 X s v10 again)
def B171_0_10 (X : Ctx) (s : St) (v10 : GV) (again : St → Bool) (v12 : GV) : Bool :=
  X.v1 (gload gp 3 (noNew v12) s.heap) (B171_0_9 X v10 s again)
def B171_0_11 (X : Ctx) (s : St) (v10 : GV) (again : St → Bool) (v11 : GV) : Bool :=
  X.v1 (gfieldAddr gp 98 (noNew v11) 0) (B171_0_10 X s v10 again)
def B171_0_12 (X : Ctx) (s : St) (again : St → Bool) (v10 : GV) : Bool :=
  X.v1 (gindexAddr gp 56 (noNew (noNew (noNew (noNew (s.env 1))))) (noNew (noNew (noNew (noNew (noNew (noNew (noNew (noNew (s.env 13)))))))))) (B171_0_11 X s v10 again)
def B171_0_13 (X : Ctx) (s : St) (again : St → Bool) (v9 : GV) : Bool :=
  X.v1 (gload gp 3 (noNew v9) s.heap) (B171_0_12 X s again)
def B171_0_14 (X : Ctx) (s : St) (again : St → Bool) (K : GX → St → Bool) (v8 : GV) (t : Bool) : Bool :=
  bif t then X.v1 (gindexAddr gp 48 (noNew (noNew (s.env 11))) (noNew (noNew (s.env 13)))) (B171_0_13 X s again) else K (.exit 0) { env := put (ofL [(1, noNew (s.env 1)), (5, noNew (s.env 5)), (11, noNew (s.env 11)), (12, noNew (s.env 12)), (13, noNew (s.env 13))]) (some 14) v8, heap := s.heap }
def B171_0_15 (X : Ctx) (s : St) (again : St → Bool) (K : GX → St → Bool) (v8 : GV) : Bool :=
  X.b1 (asB (noNew v8)) (B171_0_14 X s again K v8)
def B171_0 (X : Ctx) (s : St) (again : St → Bool) (K : GX → St → Bool) : Bool :=
  X.v1 (gbin gp .lss 3 (noNew (noNew (s.env 13))) (noNew (noNew (s.env 12)))) (B171_0_15 X s again K)
def F171_1 (X : Ctx) (K : CK) (s22 : St) : Bool :=
  K (noNew (noNew (noNew (noNew (noNew (s22.env 5)))))) s22.heap
def F171_2 (X : Ctx) (a1 v4 v6 : GV) (h2 : List GB) (K : CK) (v7 : GV) : Bool :=
  X.loop (B171_0 X) (X.n + 1) { env := ofL [(1, noNew (noNew a1)), (5, noNew (noNew (noNew v4))), (11, noNew v6), (12, noNew v7), (13, noNew (noNew (gi 0)))], heap := h2 } (kBlk 0 (kSeq (F171_1 X K) (kRet X.toComb gp Tryz.f171.results.toList K)))
def F171_3 (X : Ctx) (a1 v4 : GV) (h2 : List GB) (K : CK) (v6 : GV) : Bool :=
  X.v1 (glen gp 48 (noNew v6)) (F171_2 X a1 v4 v6 h2 K)
def F171_4 (X : Ctx) (h2 : List GB) (a1 v4 : GV) (K : CK) (v5 : GV) : Bool :=
  X.v1 (gload gp 48 (noNew v5) h2) (F171_3 X a1 v4 h2 K)
def F171_5 (X : Ctx) (v1 : GV) (h2 : List GB) (a1 : GV) (K : CK) (v4 : GV) : Bool :=
  X.v1 (gfieldAddr gp 123 (noNew v1) 0) (F171_4 X h2 a1 v4 K)
def F171_6 (X : Ctx) (h2 : List GB) (v1 a1 : GV) (K : CK) (v3 : GV) : Bool :=
  X.v1 (gload gp 3 (noNew v3) h2) (F171_5 X v1 h2 a1 K)
def F171_7 (X : Ctx) (a1 : GV) (K : CK) (v1 : GV) (h2 : List GB) : Bool :=
  X.v1 (gfieldAddr gp 123 (noNew v1) 1) (F171_6 X h2 v1 a1 K)
def F171 (X : Ctx) (a0 a1 : GV) (h : List GB) (K : CK) : Bool :=
  X.h1 (gbox true (noNew (noNew a0)) h) (F171_7 X a1 K)
theorem F171_c (X : Ctx) (a0 a1 : GV) (h : List GB) (K : CK) : gx2 X.toComb gp X.call X.lk 171 (X.n + 1) (Tryz.f171.body.getD .skip) { env := initE [a0, a1], heap := h } (kRet X.toComb gp Tryz.f171.results.toList K) = F171 X a0 a1 h K := by kernel_rfl
theorem F171_eq (n lk : Nat) (a0 a1 : GV) (h : List GB) (K : CK) : gcall gp (n + 1) lk 171 [a0, a1] h K = F171 (sX (gcall gp n) n lk) a0 a1 h K :=
  (gcall_two (fn := Tryz.f171) (c := Tryz.f171.body.getD .skip) (by kernel_rfl) (by kernel_rfl) (by kernel_rfl)).trans (F171_c (sX (gcall gp n) n lk) a0 a1 h K)

-- formulary/depend.hulls
def B100_0_1 (X : Ctx) (again : St → Bool) (v19 : GV) (s : St) (h20 : List GB) (v21 : GV) : Bool :=
  again { env := ofL [(3, noNew (noNew (noNew v19))), (6, noNew (noNew (s.env 6))), (7, noNew (noNew (s.env 7))), (8, noNew (noNew (noNew v21)))], heap := h20 }
def B100_0_2 (X : Ctx) (s : St) (again : St → Bool) (v19 : GV) (h20 : List GB) : Bool :=
  X.v1 (gbin gp .add 3 (noNew (noNew (s.env 8))) (gi 1)) (B100_0_1 X again v19 s h20)
def B100_0_3 (X : Ctx) (s : St) (h16 : List GB) (again : St → Bool) (v18 : GV) : Bool :=
  X.h1 (gappend gp X.lk 56 (noNew (noNew (noNew (noNew (s.env 3))))) (noNew v18) h16) (B100_0_2 X s again)
def B100_0_4 (X : Ctx) (s : St) (h16 : List GB) (again : St → Bool) (v17 : GV) : Bool :=
  X.v1 (gbuildS gp 56 1 [(0, noNew v17)]) (B100_0_3 X s h16 again)
def B100_0_5 (X : Ctx) (v11 : GV) (s : St) (again : St → Bool) (v15 : GV) (h16 : List GB) : Bool :=
  X.v1 (gbuild gp 98 [(0, noNew v11), (1, noNew v15)]) (B100_0_4 X s h16 again)
def B100_0_6 (X : Ctx) (s : St) (h12 : List GB) (v11 : GV) (again : St → Bool) (v14 : GV) : Bool :=
  X.h1 (gcall0 X.call 171 [noNew v14, noNew (noNew (noNew (noNew (s.env 3))))] h12) (B100_0_5 X v11 s again)
def B100_0_7 (X : Ctx) (h12 : List GB) (s : St) (v11 : GV) (again : St → Bool) (v13 : GV) : Bool :=
  X.v1 (gload gp 123 (noNew v13) h12) (B100_0_6 X s h12 v11 again)
def B100_0_8 (X : Ctx) (v7 : GV) (s : St) (again : St → Bool) (v11 : GV) (h12 : List GB) : Bool :=
  X.v1 (gfieldAddr gp 125 (noNew v7) 1) (B100_0_7 X h12 s v11 again)
def B100_0_9 (X : Ctx) (s : St) (h8 : List GB) (v7 : GV) (again : St → Bool) (v10 : GV) : Bool :=
  X.h1 (gcall0 X.call 170 [noNew v10, noNew (noNew (noNew (noNew (s.env 3))))] h8) (B100_0_8 X v7 s again)
def B100_0_10 (X : Ctx) (h8 : List GB) (s : St) (v7 : GV) (again : St → Bool) (v9 : GV) : Bool :=
  X.v1 (gload gp 123 (noNew v9) h8) (B100_0_9 X s h8 v7 again)
def B100_0_11 (X : Ctx) (s : St) (again : St → Bool) (v7 : GV) (h8 : List GB) : Bool :=
  X.v1 (gfieldAddr gp 125 (noNew v7) 0) (B100_0_10 X h8 s v7 again)
def B100_0_12 (X : Ctx) (s : St) (again : St → Bool) (v6 : GV) : Bool :=
  X.i1 true 4 (noNew v6) s.heap (B100_0_11 X s again)
def B100_0_13 (X : Ctx) (s : St) (again : St → Bool) (v5 : GV) : Bool :=
  X.v1 (gload gp 125 (noNew v5) s.heap) (B100_0_12 X s again)
def B100_0_14 (X : Ctx) (s : St) (again : St → Bool) (K : GX → St → Bool) (v4 : GV) (t : Bool) : Bool :=
  bif t then X.v1 (gindexAddr gp 23 (noNew (noNew (s.env 6))) (noNew (noNew (s.env 8)))) (B100_0_13 X s again) else K (.exit 0) { env := put (ofL [(3, noNew (s.env 3)), (6, noNew (s.env 6)), (7, noNew (s.env 7)), (8, noNew (s.env 8))]) (some 9) v4, heap := s.heap }
def B100_0_15 (X : Ctx) (s : St) (again : St → Bool) (K : GX → St → Bool) (v4 : GV) : Bool :=
  X.b1 (asB (noNew v4)) (B100_0_14 X s again K v4)
def B100_0 (X : Ctx) (s : St) (again : St → Bool) (K : GX → St → Bool) : Bool :=
  X.v1 (gbin gp .lss 3 (noNew (noNew (s.env 8))) (noNew (noNew (s.env 7)))) (B100_0_15 X s again K)
def F100_1 (X : Ctx) (K : CK) (s22 : St) : Bool :=
  K (noNew (noNew (noNew (noNew (noNew (s22.env 3)))))) s22.heap
def F100_2 (X : Ctx) (v1 a0 : GV) (h2 : List GB) (K : CK) (v3 : GV) : Bool :=
  X.loop (B100_0 X) (X.n + 1) { env := ofL [(3, noNew v1), (6, noNew (noNew (noNew (noNew a0)))), (7, noNew v3), (8, noNew (noNew (gi 0)))], heap := h2 } (kBlk 0 (kSeq (F100_1 X K) (kRet X.toComb gp Tryz.f100.results.toList K)))
def F100_3 (X : Ctx) (a0 : GV) (K : CK) (v1 : GV) (h2 : List GB) : Bool :=
  X.v1 (glen gp 23 (noNew (noNew (noNew (noNew a0))))) (F100_2 X v1 a0 h2 K)
def F100 (X : Ctx) (a0 : GV) (h : List GB) (K : CK) : Bool :=
  X.h1 (fun k => k (.tl [] h.length) (h ++ [.tail 0 2])) (F100_3 X a0 K)
theorem F100_c (X : Ctx) (a0 : GV) (h : List GB) (K : CK) : gx2 X.toComb gp X.call X.lk 100 (X.n + 1) (Tryz.f100.body.getD .skip) { env := initE [a0], heap := h } (kRet X.toComb gp Tryz.f100.results.toList K) = F100 X a0 h K := by kernel_rfl
theorem F100_eq (n lk : Nat) (a0 : GV) (h : List GB) (K : CK) : gcall gp (n + 1) lk 100 [a0] h K = F100 (sX (gcall gp n) n lk) a0 h K :=
  (gcall_two (fn := Tryz.f100) (c := Tryz.f100.body.getD .skip) (by kernel_rfl) (by kernel_rfl) (by kernel_rfl)).trans (F100_c (sX (gcall gp n) n lk) a0 h K)

-- formulary/depend.CheckNest$2
def F101_1 (X : Ctx) (K : CK) (h11 : List GB) (v13 : GV) : Bool :=
  K (noNew (noNew v13)) h11
def F101_2 (X : Ctx) (v7 : GV) (K : CK) (h11 : List GB) (v12 : GV) : Bool :=
  X.v1 (gpick (noNew (noNew (noNew v7))) (gb true) (noNew v12)) (F101_1 X K h11)
def F101_3 (X : Ctx) (v7 : GV) (K : CK) (v10 : GV) (h11 : List GB) : Bool :=
  X.g1 (wG false (noNew (noNew v7))) (gnot (noNew v10)) (F101_2 X v7 K h11)
def F101_4 (X : Ctx) (v7 : GV) (h6 : List GB) (K : CK) (v9 : GV) : Bool :=
  X.gh (wG false (noNew (noNew v7))) (gcall0 X.call 102 [noNew v9, gi (-1000), gi 1000] h6) h6 (F101_3 X v7 K)
def F101_5 (X : Ctx) (v7 : GV) (h6 : List GB) (K : CK) (v8 : GV) : Bool :=
  X.g1 (wG false (noNew (noNew v7))) (gload gp 3 (noNew v8) h6) (F101_4 X v7 h6 K)
def F101_6 (X : Ctx) (v1 : GV) (h6 : List GB) (K : CK) (v7 : GV) : Bool :=
  X.g1 (wG false (noNew (noNew v7))) (gfieldAddr gp 98 (noNew v1) 1) (F101_5 X v7 h6 K)
def F101_7 (X : Ctx) (v1 : GV) (K : CK) (v5 : GV) (h6 : List GB) : Bool :=
  X.v1 (gnot (noNew v5)) (F101_6 X v1 h6 K)
def F101_8 (X : Ctx) (h2 : List GB) (v1 : GV) (K : CK) (v4 : GV) : Bool :=
  X.h1 (gcall0 X.call 102 [noNew v4, gi (-1000), gi 1000] h2) (F101_7 X v1 K)
def F101_9 (X : Ctx) (h2 : List GB) (v1 : GV) (K : CK) (v3 : GV) : Bool :=
  X.v1 (gload gp 3 (noNew v3) h2) (F101_8 X h2 v1 K)
def F101_10 (X : Ctx) (K : CK) (v1 : GV) (h2 : List GB) : Bool :=
  X.v1 (gfieldAddr gp 98 (noNew v1) 0) (F101_9 X h2 v1 K)
def F101 (X : Ctx) (a0 : GV) (h : List GB) (K : CK) : Bool :=
  X.h1 (gbox true (noNew (noNew a0)) h) (F101_10 X K)
theorem F101_c (X : Ctx) (a0 : GV) (h : List GB) (K : CK) : gx2 X.toComb gp X.call X.lk 101 (X.n + 1) (Tryz.f101.body.getD .skip) { env := initE [a0], heap := h } (kRet X.toComb gp Tryz.f101.results.toList K) = F101 X a0 h K := by kernel_rfl
theorem F101_eq (n lk : Nat) (a0 : GV) (h : List GB) (K : CK) : gcall gp (n + 1) lk 101 [a0] h K = F101 (sX (gcall gp n) n lk) a0 h K :=
  (gcall_two (fn := Tryz.f101) (c := Tryz.f101.body.getD .skip) (by kernel_rfl) (by kernel_rfl) (by kernel_rfl)).trans (F101_c (sX (gcall gp n) n lk) a0 h K)

-- slices.IndexFunc[[]formulary/api.Hull,formulary/api.Hull]
def B169_0_1 (X : Ctx) (again : St → Bool) (s : St) (h6 : List GB) (v7 : GV) : Bool :=
  again { env := ofL [(0, noNew (noNew (s.env 0))), (1, noNew (noNew (s.env 1))), (7, noNew (noNew (s.env 7))), (8, noNew (noNew (noNew v7)))], heap := h6 }
def B169_0_2 (X : Ctx) (K : GX → St → Bool) (s : St) (v2 v3 v4 v5 : GV) (h6 : List GB) (again : St → Bool) (t : Bool) : Bool :=
  bif t then K .ret { env := put (put (put (put (put (put (put (put (put (put (put (ofL [(0, noNew (s.env 0)), (1, noNew (s.env 1)), (7, noNew (s.env 7)), (8, noNew (s.env 8))]) (some 9) v2) (some 10) (noNew (noNew (noNew (s.env 8))))) (some 5) (noNew (noNew (noNew (noNew (noNew (s.env 8))))))) (some 11) (noNew (noNew (noNew (s.env 1))))) (some 12) (noNew (noNew (noNew (s.env 0))))) (some 13) (noNew (noNew (noNew (noNew (noNew (noNew (noNew (s.env 8))))))))) (some 14) v3) (some 15) v4) (some 16) v5) (some 17) (noNew (noNew (noNew (noNew (noNew (noNew (noNew (s.env 8))))))))) (some 4) (noNew (noNew (noNew (noNew (noNew (noNew (noNew (noNew (noNew (s.env 8)))))))))), heap := h6 } else X.v1 (gbin gp .add 3 (noNew (noNew (s.env 8))) (gi 1)) (B169_0_1 X again s h6)
def B169_0_3 (X : Ctx) (K : GX → St → Bool) (s : St) (v2 v3 v4 : GV) (again : St → Bool) (v5 : GV) (h6 : List GB) : Bool :=
  X.b1 (asB (noNew v5)) (B169_0_2 X K s v2 v3 v4 v5 h6 again)
def B169_0_4 (X : Ctx) (s : St) (K : GX → St → Bool) (v2 v3 : GV) (again : St → Bool) (v4 : GV) : Bool :=
  X.h1 (gdyn gp X.call X.lk (noNew (noNew (noNew (noNew (s.env 1))))) [noNew v4] s.heap) (B169_0_3 X K s v2 v3 v4 again)
def B169_0_5 (X : Ctx) (s : St) (K : GX → St → Bool) (v2 : GV) (again : St → Bool) (v3 : GV) : Bool :=
  X.v1 (gload gp 98 (noNew v3) s.heap) (B169_0_4 X s K v2 v3 again)
def B169_0_6 (X : Ctx) (s : St) (K : GX → St → Bool) (v2 : GV) (again : St → Bool) (t : Bool) : Bool :=
  bif t then X.v1 (gindexAddr gp 56 (noNew (noNew (noNew (noNew (s.env 0))))) (noNew (noNew (noNew (noNew (noNew (noNew (noNew (noNew (s.env 8)))))))))) (B169_0_5 X s K v2 again) else K (.exit 0) { env := put (ofL [(0, noNew (s.env 0)), (1, noNew (s.env 1)), (7, noNew (s.env 7)), (8, noNew (s.env 8))]) (some 9) v2, heap := s.heap }
def B169_0_7 (X : Ctx) (s : St) (K : GX → St → Bool) (again : St → Bool) (v2 : GV) : Bool :=
  X.b1 (asB (noNew v2)) (B169_0_6 X s K v2 again)
def B169_0 (X : Ctx) (s : St) (again : St → Bool) (K : GX → St → Bool) : Bool :=
  X.v1 (gbin gp .lss 3 (noNew (noNew (s.env 8))) (noNew (noNew (s.env 7)))) (B169_0_7 X s K again)
def F169_1 (X : Ctx) (K : CK) (s8 : St) : Bool :=
  K (noNew (gi (-1))) s8.heap
def F169_2 (X : Ctx) (a0 a1 : GV) (h : List GB) (K : CK) (v1 : GV) : Bool :=
  X.loop (B169_0 X) (X.n + 1) { env := ofL [(0, noNew (noNew a0)), (1, noNew (noNew a1)), (7, noNew v1), (8, noNew (noNew (gi 0)))], heap := h } (kBlk 0 (kSeq (F169_1 X K) (kRet X.toComb gp Tryz.f169.results.toList K)))
def F169 (X : Ctx) (a0 a1 : GV) (h : List GB) (K : CK) : Bool :=
  X.v1 (glen gp 56 (noNew (noNew (noNew (noNew a0))))) (F169_2 X a0 a1 h K)
theorem F169_c (X : Ctx) (a0 a1 : GV) (h : List GB) (K : CK) : gx2 X.toComb gp X.call X.lk 169 (X.n + 1) (Tryz.f169.body.getD .skip) { env := initE [a0, a1], heap := h } (kRet X.toComb gp Tryz.f169.results.toList K) = F169 X a0 a1 h K := by kernel_rfl
theorem F169_eq (n lk : Nat) (a0 a1 : GV) (h : List GB) (K : CK) : gcall gp (n + 1) lk 169 [a0, a1] h K = F169 (sX (gcall gp n) n lk) a0 a1 h K :=
  (gcall_two (fn := Tryz.f169) (c := Tryz.f169.body.getD .skip) (by kernel_rfl) (by kernel_rfl) (by kernel_rfl)).trans (F169_c (sX (gcall gp n) n lk) a0 a1 h K)

-- slices.ContainsFunc[[]formulary/api.Hull,formulary/api.Hull]
def F99_1 (X : Ctx) (K : CK) (h2 : List GB) (v3 : GV) : Bool :=
  K (noNew (noNew v3)) h2
def F99_2 (X : Ctx) (K : CK) (v1 : GV) (h2 : List GB) : Bool :=
  X.v1 (gbin gp .geq 3 (noNew v1) (gi 0)) (F99_1 X K h2)
def F99 (X : Ctx) (a0 a1 : GV) (h : List GB) (K : CK) : Bool :=
  X.h1 (X.call X.lk 169 [noNew (noNew (noNew (noNew a0))), noNew (noNew (noNew (noNew a1)))] h) (F99_2 X K)
theorem F99_c (X : Ctx) (a0 a1 : GV) (h : List GB) (K : CK) : gx2 X.toComb gp X.call X.lk 99 (X.n + 1) (Tryz.f99.body.getD .skip) { env := initE [a0, a1], heap := h } (kRet X.toComb gp Tryz.f99.results.toList K) = F99 X a0 a1 h K := by kernel_rfl
theorem F99_eq (n lk : Nat) (a0 a1 : GV) (h : List GB) (K : CK) : gcall gp (n + 1) lk 99 [a0, a1] h K = F99 (sX (gcall gp n) n lk) a0 a1 h K :=
  (gcall_two (fn := Tryz.f99) (c := Tryz.f99.body.getD .skip) (by kernel_rfl) (by kernel_rfl) (by kernel_rfl)).trans (F99_c (sX (gcall gp n) n lk) a0 a1 h K)

-- slices.Clip[[]int,int]
def F173_1 (X : Ctx) (K : CK) (h : List GB) (v3 : GV) : Bool :=
  K (noNew (noNew v3)) h
def F173_2 (X : Ctx) (a0 v1 : GV) (K : CK) (h : List GB) (v2 : GV) : Bool :=
  X.v1 (gslice gp 48 (noNew (noNew (noNew (noNew a0)))) none (some (noNew v1)) (some (noNew v2))) (F173_1 X K h)
def F173_3 (X : Ctx) (a0 : GV) (K : CK) (h : List GB) (v1 : GV) : Bool :=
  X.v1 (glen gp 48 (noNew (noNew (noNew (noNew a0))))) (F173_2 X a0 v1 K h)
def F173 (X : Ctx) (a0 : GV) (h : List GB) (K : CK) : Bool :=
  X.v1 (glen gp 48 (noNew (noNew (noNew (noNew a0))))) (F173_3 X a0 K h)
theorem F173_c (X : Ctx) (a0 : GV) (h : List GB) (K : CK) : gx2 X.toComb gp X.call X.lk 173 (X.n + 1) (Tryz.f173.body.getD .skip) { env := initE [a0], heap := h } (kRet X.toComb gp Tryz.f173.results.toList K) = F173 X a0 h K := by kernel_rfl
theorem F173_eq (n lk : Nat) (a0 : GV) (h : List GB) (K : CK) : gcall gp (n + 1) lk 173 [a0] h K = F173 (sX (gcall gp n) n lk) a0 h K :=
  (gcall_two (fn := Tryz.f173) (c := Tryz.f173.body.getD .skip) (by kernel_rfl) (by kernel_rfl) (by kernel_rfl)).trans (F173_c (sX (gcall gp n) n lk) a0 h K)

-- formulary/depend.CheckNest$3
def F104_1 (X : Ctx) (K : CK) (h4 : List GB) (v6 : GV) : Bool :=
  K (noNew (noNew v6)) h4
def F104_2 (X : Ctx) (K : CK) (h4 : List GB) (v5 : GV) : Bool :=
  X.v1 (gbin gp .gtr 3 (noNew v5) (gi 200)) (F104_1 X K h4)
def F104_3 (X : Ctx) (a1 : GV) (K : CK) (v3 : GV) (h4 : List GB) : Bool :=
  X.v1 (gload gp 3 (noNew (noNew a1)) h4) (F104_2 X K h4)
def F104_4 (X : Ctx) (a1 : GV) (h : List GB) (K : CK) (v2 : GV) : Bool :=
  X.h1 (gstore gp X.lk 3 (noNew (noNew a1)) (noNew v2) h) (F104_3 X a1 K)
def F104_5 (X : Ctx) (a1 : GV) (h : List GB) (K : CK) (v1 : GV) : Bool :=
  X.v1 (gbin gp .add 3 (noNew v1) (gi 1)) (F104_4 X a1 h K)
def F104 (X : Ctx) (a0 a1 : GV) (h : List GB) (K : CK) : Bool :=
  X.v1 (gload gp 3 (noNew (noNew a1)) h) (F104_5 X a1 h K)
theorem F104_c (X : Ctx) (a0 a1 : GV) (h : List GB) (K : CK) : gx2 X.toComb gp X.call X.lk 104 (X.n + 1) (Tryz.f104.body.getD .skip) { env := initE [a0, a1], heap := h } (kRet X.toComb gp Tryz.f104.results.toList K) = F104 X a0 a1 h K := by kernel_rfl
theorem F104_eq (n lk : Nat) (a0 a1 : GV) (h : List GB) (K : CK) : gcall gp (n + 1) lk 104 [a0, a1] h K = F104 (sX (gcall gp n) n lk) a0 a1 h K :=
  (gcall_two (fn := Tryz.f104) (c := Tryz.f104.body.getD .skip) (by kernel_rfl) (by kernel_rfl) (by kernel_rfl)).trans (F104_c (sX (gcall gp n) n lk) a0 a1 h K)

-- formulary/depend.walk
def F103_1 (X : Ctx) (K : CK) (v4 : GV) (h5 : List GB) : Bool :=
  K (noNew (noNew v4)) h5
def B103_0_1 (X : Ctx) (again : St → Bool) (s : St) (h23 : List GB) (v24 : GV) : Bool :=
  again { env := ofL [(0, noNew (noNew (s.env 0))), (1, noNew (noNew (s.env 1))), (2, noNew (noNew (s.env 2))), (7, noNew (noNew (s.env 7))), (8, noNew (noNew (noNew v24)))], heap := h23 }
def B103_0_2 (X : Ctx) (K : GX → St → Bool) (s : St) (v11 v12 v13 v14 v16 v17 v19 v20 v22 : GV) (h23 : List GB) (again : St → Bool) (t : Bool) : Bool :=
  bif t then K .ret { env := put (put (put (put (put (put (put (put (put (put (put (put (put (put (put (put (put (put (ofL [(0, noNew (s.env 0)), (1, noNew (s.env 1)), (2, noNew (s.env 2)), (7, noNew (s.env 7)), (8, noNew (s.env 8))]) (some 25) (noNew (noNew (noNew (s.env 8))))) (some 26) (noNew (noNew (noNew (s.env 0))))) (some 27) (noNew (noNew (noNew (s.env 7))))) (some 28) v11) (some 29) v12) (some 30) v13) (some 31) (noNew (noNew (noNew (s.env 1))))) (some 32) v14) (some 33) v16) (some 36) (noNew (noNew (noNew (s.env 0))))) (some 37) (noNew (noNew (noNew (s.env 1))))) (some 38) v17) (some 39) (noNew (noNew (noNew (s.env 8))))) (some 40) v19) (some 41) v20) (some 42) (noNew (noNew (noNew (s.env 2))))) (some 43) v22) (some 6) (noNew (gb true)), heap := h23 } else X.v1 (gbin gp .add 3 (noNew (noNew (noNew (noNew (s.env 8))))) (gi 1)) (B103_0_1 X again s h23)
def B103_0_3 (X : Ctx) (K : GX → St → Bool) (s : St) (v11 v12 v13 v14 v16 v17 v19 v20 : GV) (again : St → Bool) (v22 : GV) (h23 : List GB) : Bool :=
  X.b1 (asB (noNew v22)) (B103_0_2 X K s v11 v12 v13 v14 v16 v17 v19 v20 v22 h23 again)
def B103_0_4 (X : Ctx) (s : St) (K : GX → St → Bool) (v11 v12 v13 v14 v16 v17 v19 : GV) (again : St → Bool) (v20 : GV) (h21 : List GB) : Bool :=
  X.h1 (X.call X.lk 103 [noNew (noNew (noNew (noNew (s.env 0)))), noNew v20, noNew (noNew (noNew (noNew (s.env 2))))] h21) (B103_0_3 X K s v11 v12 v13 v14 v16 v17 v19 v20 again)
def B103_0_5 (X : Ctx) (v17 : GV) (h18 : List GB) (s : St) (K : GX → St → Bool) (v11 v12 v13 v14 v16 : GV) (again : St → Bool) (v19 : GV) : Bool :=
  X.h1 (gappend gp X.lk 48 (noNew v17) (noNew v19) h18) (B103_0_4 X s K v11 v12 v13 v14 v16 v17 v19 again)
def B103_0_6 (X : Ctx) (s : St) (K : GX → St → Bool) (v11 v12 v13 v14 v16 : GV) (again : St → Bool) (v17 : GV) (h18 : List GB) : Bool :=
  X.v1 (gbuildS gp 48 1 [(0, noNew (noNew (noNew (noNew (s.env 8)))))]) (B103_0_5 X v17 h18 s K v11 v12 v13 v14 v16 again)
def B103_0_7 (X : Ctx) (s : St) (h15 : List GB) (K : GX → St → Bool) (v11 v12 v13 v14 v16 : GV) (again : St → Bool) (t : Bool) : Bool :=
  bif t then X.h1 (gcall0 X.call 173 [noNew (noNew (noNew (noNew (s.env 1))))] h15) (B103_0_6 X s K v11 v12 v13 v14 v16 again) else K (.exit 0) { env := put (put (put (put (put (put (put (put (put (ofL [(0, noNew (s.env 0)), (1, noNew (s.env 1)), (2, noNew (s.env 2)), (7, noNew (s.env 7)), (8, noNew (s.env 8))]) (some 25) (noNew (noNew (noNew (s.env 8))))) (some 26) (noNew (noNew (noNew (s.env 0))))) (some 27) (noNew (noNew (noNew (s.env 7))))) (some 28) v11) (some 29) v12) (some 30) v13) (some 31) (noNew (noNew (noNew (s.env 1))))) (some 32) v14) (some 33) v16, heap := h15 }
def B103_0_8 (X : Ctx) (s : St) (h15 : List GB) (K : GX → St → Bool) (v11 v12 v13 v14 : GV) (again : St → Bool) (v16 : GV) : Bool :=
  X.b1 (asB (noNew v16)) (B103_0_7 X s h15 K v11 v12 v13 v14 v16 again)
def B103_0_9 (X : Ctx) (s : St) (K : GX → St → Bool) (v11 v12 v13 : GV) (again : St → Bool) (v14 : GV) (h15 : List GB) : Bool :=
  X.v1 (gbin gp .leq 3 (noNew (noNew (noNew (noNew (s.env 8))))) (noNew v14)) (B103_0_8 X s h15 K v11 v12 v13 v14 again)
def B103_0_10 (X : Ctx) (s : St) (K : GX → St → Bool) (v11 v12 : GV) (again : St → Bool) (v13 : GV) : Bool :=
  X.h1 (gcall0 X.call 172 [noNew v13, noNew (noNew (noNew (noNew (s.env 1))))] s.heap) (B103_0_9 X s K v11 v12 v13 again)
def B103_0_11 (X : Ctx) (s : St) (K : GX → St → Bool) (v11 : GV) (again : St → Bool) (v12 : GV) : Bool :=
  X.v1 (gload gp 123 (noNew v12) s.heap) (B103_0_10 X s K v11 v12 again)
def B103_0_12 (X : Ctx) (s : St) (K : GX → St → Bool) (again : St → Bool) (v11 : GV) : Bool :=
  X.v1 (gfieldAddr gp 125 (noNew v11) 1) (B103_0_11 X s K v11 again)
def B103_0 (X : Ctx) (s : St) (again : St → Bool) (K : GX → St → Bool) : Bool :=
  X.v1 (gindexAddr gp 23 (noNew (noNew (noNew (noNew (s.env 0))))) (noNew (noNew (noNew (noNew (s.env 7)))))) (B103_0_12 X s K again)
def F103_2 (X : Ctx) (K : CK) (s25 : St) : Bool :=
  K (noNew (gb false)) s25.heap
def F103_3 (X : Ctx) (a0 a1 a2 v1 : GV) (K : CK) (v9 : GV) (h10 : List GB) : Bool :=
  X.loop (B103_0 X) (X.n + 1) { env := ofL [(0, noNew (noNew a0)), (1, noNew (noNew a1)), (2, noNew (noNew a2)), (7, noNew (noNew (noNew v1))), (8, noNew (noNew (noNew v9)))], heap := h10 } (kBlk 0 (kSeq (F103_2 X K) (kRet X.toComb gp Tryz.f103.results.toList K)))
def F103_4 (X : Ctx) (a1 : GV) (h : List GB) (a0 a2 v1 : GV) (K : CK) (v8 : GV) : Bool :=
  X.h1 (gcall0 X.call 172 [noNew v8, noNew (noNew (noNew (noNew a1)))] h) (F103_3 X a0 a1 a2 v1 K)
def F103_5 (X : Ctx) (h : List GB) (a1 a0 a2 v1 : GV) (K : CK) (v7 : GV) : Bool :=
  X.v1 (gload gp 123 (noNew v7) h) (F103_4 X a1 h a0 a2 v1 K)
def F103_6 (X : Ctx) (h : List GB) (a1 a0 a2 v1 : GV) (K : CK) (v6 : GV) : Bool :=
  X.v1 (gfieldAddr gp 125 (noNew v6) 0) (F103_5 X h a1 a0 a2 v1 K)
def F103_7 (X : Ctx) (a2 a1 : GV) (h : List GB) (K : CK) (a0 v1 : GV) (t : Bool) : Bool :=
  bif t then X.h1 (gdyn gp X.call X.lk (noNew (noNew (noNew (noNew a2)))) [noNew (noNew (noNew (noNew a1)))] h) (F103_1 X K) else X.v1 (gindexAddr gp 23 (noNew (noNew (noNew (noNew a0)))) (noNew (noNew (noNew (noNew (noNew v1)))))) (F103_6 X h a1 a0 a2 v1 K)
def F103_8 (X : Ctx) (a2 a1 : GV) (h : List GB) (K : CK) (a0 v1 v3 : GV) : Bool :=
  X.b1 (asB (noNew v3)) (F103_7 X a2 a1 h K a0 v1)
def F103_9 (X : Ctx) (v1 a2 a1 : GV) (h : List GB) (K : CK) (a0 v2 : GV) : Bool :=
  X.v1 (gbin gp .eql 3 (noNew (noNew (noNew (noNew (noNew v1))))) (noNew v2)) (F103_8 X a2 a1 h K a0 v1)
def F103_10 (X : Ctx) (a0 a2 a1 : GV) (h : List GB) (K : CK) (v1 : GV) : Bool :=
  X.v1 (glen gp 23 (noNew (noNew (noNew (noNew a0))))) (F103_9 X v1 a2 a1 h K a0)
def F103 (X : Ctx) (a0 a1 a2 : GV) (h : List GB) (K : CK) : Bool :=
  X.v1 (glen gp 48 (noNew (noNew (noNew (noNew a1))))) (F103_10 X a0 a2 a1 h K)
theorem F103_c (X : Ctx) (a0 a1 a2 : GV) (h : List GB) (K : CK) : gx2 X.toComb gp X.call X.lk 103 (X.n + 1) (Tryz.f103.body.getD .skip) { env := initE [a0, a1, a2], heap := h } (kRet X.toComb gp Tryz.f103.results.toList K) = F103 X a0 a1 a2 h K := by kernel_rfl
theorem F103_eq (n lk : Nat) (a0 a1 a2 : GV) (h : List GB) (K : CK) : gcall gp (n + 1) lk 103 [a0, a1, a2] h K = F103 (sX (gcall gp n) n lk) a0 a1 a2 h K :=
  (gcall_two (fn := Tryz.f103) (c := Tryz.f103.body.getD .skip) (by kernel_rfl) (by kernel_rfl) (by kernel_rfl)).trans (F103_c (sX (gcall gp n) n lk) a0 a1 a2 h K)

-- formulary/depend.CheckNest
def F32_1 (X : Ctx) (K : CK) (v28 : GV) (h29 : List GB) : Bool :=
  K (GV.tup [noNew (gi 0), noNew (noNew v28)]) h29
def F32_2 (X : Ctx) (h24 : List GB) (K : CK) (v27 : GV) : Bool :=
  X.h1 (gcall0 X.call 94 [noNew v27] h24) (F32_1 X K)
def F32_3 (X : Ctx) (h24 : List GB) (K : CK) (v26 : GV) : Bool :=
  X.v1 (gbuildS gp 226 1 [(0, noNew v26)]) (F32_2 X h24 K)
def F32_4 (X : Ctx) (h24 : List GB) (K : CK) (v25 : GV) : Bool :=
  X.v1 (gbuild gp 159 [(0, noNew v25), (1, gi 8)]) (F32_3 X h24 K)
def F32_5 (X : Ctx) (K : CK) (v23 : GV) (h24 : List GB) : Bool :=
  X.v1 (gnot (noNew (noNew (noNew (noNew (noNew v23)))))) (F32_4 X h24 K)
def F32_6 (X : Ctx) (a0 : GV) (h21 : List GB) (K : CK) (v22 : GV) : Bool :=
  X.h1 (X.call X.lk 103 [noNew (noNew (noNew (noNew a0))), GV.d (.lit nilS), noNew v22] h21) (F32_5 X K)
def F32_7 (X : Ctx) (a0 : GV) (K : CK) (v20 : GV) (h21 : List GB) : Bool :=
  X.v1 (some (mkFn (.func 104) [] [noNew v20])) (F32_6 X a0 h21 K)
def F32_8 (X : Ctx) (K : CK) (h19 : List GB) (a0 : GV) (t : Bool) : Bool :=
  bif t then K (GV.tup [noNew (gi 0), noNew (gi 8)]) h19 else X.i1 false 1 (gi 0) h19 (F32_7 X a0 K)
def F32_9 (X : Ctx) (K : CK) (a0 v18 : GV) (h19 : List GB) : Bool :=
  X.b1 (asB (noNew (noNew (noNew (noNew (noNew v18)))))) (F32_8 X K h19 a0)
def F32_10 (X : Ctx) (K : CK) (a0 v16 : GV) (h17 : List GB) : Bool :=
  X.h1 (X.call X.lk 99 [noNew v16, GV.d (.fn (.func 101) [] [])] h17) (F32_9 X K a0)
def F32_11 (X : Ctx) (K : CK) (v13 v14 : GV) (h12 : List GB) (a0 : GV) (t : Bool) : Bool :=
  bif t then K (GV.tup [noNew (noNew (noNew (noNew (noNew (noNew v13))))), noNew (noNew (noNew (noNew (noNew (noNew v14)))))]) h12 else X.h1 (gcall0 X.call 100 [noNew (noNew (noNew (noNew a0)))] h12) (F32_10 X K a0)
def F32_12 (X : Ctx) (K : CK) (v13 v14 : GV) (h12 : List GB) (a0 v15 : GV) : Bool :=
  X.b1 (asB (noNew v15)) (F32_11 X K v13 v14 h12 a0)
def F32_13 (X : Ctx) (K : CK) (v13 : GV) (h12 : List GB) (a0 v14 : GV) : Bool :=
  X.v1 (gbin gp .neq 30 (noNew (noNew (noNew (noNew (noNew v14))))) (gi 0)) (F32_12 X K v13 v14 h12 a0)
def F32_14 (X : Ctx) (v11 : GV) (K : CK) (h12 : List GB) (a0 v13 : GV) : Bool :=
  X.v1 (gext (noNew (noNew (noNew v11))) 1) (F32_13 X K v13 h12 a0)
def F32_15 (X : Ctx) (K : CK) (a0 v11 : GV) (h12 : List GB) : Bool :=
  X.v1 (gext (noNew (noNew (noNew v11))) 0) (F32_14 X v11 K h12 a0)
def F32_16 (X : Ctx) (K : CK) (v8 : GV) (h9 : List GB) (a0 : GV) (t : Bool) : Bool :=
  bif t then K (GV.tup [noNew (gi 0), noNew (noNew (noNew (noNew (noNew (noNew v8)))))]) h9 else X.h1 (X.call X.lk 95 [noNew (noNew (noNew (noNew a0))), GV.d (.fn (.func 96) [] [])] h9) (F32_15 X K a0)
def F32_17 (X : Ctx) (K : CK) (v8 : GV) (h9 : List GB) (a0 v10 : GV) : Bool :=
  X.b1 (asB (noNew v10)) (F32_16 X K v8 h9 a0)
def F32_18 (X : Ctx) (K : CK) (a0 v8 : GV) (h9 : List GB) : Bool :=
  X.v1 (gbin gp .neq 30 (noNew (noNew (noNew (noNew (noNew v8))))) (gi 0)) (F32_17 X K v8 h9 a0)
def F32_19 (X : Ctx) (h : List GB) (K : CK) (a0 v7 : GV) : Bool :=
  X.h1 (gcall0 X.call 94 [noNew v7] h) (F32_18 X K a0)
def F32_20 (X : Ctx) (v3 : GV) (h : List GB) (K : CK) (a0 v6 : GV) : Bool :=
  X.v1 (gbuildS gp 226 2 [(0, noNew v3), (1, noNew v6)]) (F32_19 X h K a0)
def F32_21 (X : Ctx) (v3 : GV) (h : List GB) (K : CK) (a0 v5 : GV) : Bool :=
  X.v1 (gbuild gp 159 [(0, noNew v5), (1, gi 8)]) (F32_20 X v3 h K a0)
def F32_22 (X : Ctx) (v3 : GV) (h : List GB) (K : CK) (a0 v4 : GV) : Bool :=
  X.v1 (gbin gp .leq 3 (noNew v4) (gi 3)) (F32_21 X v3 h K a0)
def F32_23 (X : Ctx) (a0 : GV) (h : List GB) (K : CK) (v3 : GV) : Bool :=
  X.v1 (glen gp 23 (noNew (noNew (noNew (noNew a0))))) (F32_22 X v3 h K a0)
def F32_24 (X : Ctx) (a0 : GV) (h : List GB) (K : CK) (v2 : GV) : Bool :=
  X.v1 (gbuild gp 159 [(0, noNew v2), (1, gi 17)]) (F32_23 X a0 h K)
def F32_25 (X : Ctx) (a0 : GV) (h : List GB) (K : CK) (v1 : GV) : Bool :=
  X.v1 (gbin gp .gtr 3 (noNew v1) (gi 0)) (F32_24 X a0 h K)
def F32 (X : Ctx) (a0 : GV) (h : List GB) (K : CK) : Bool :=
  X.v1 (glen gp 23 (noNew (noNew (noNew (noNew a0))))) (F32_25 X a0 h K)
theorem F32_c (X : Ctx) (a0 : GV) (h : List GB) (K : CK) : gx2 X.toComb gp X.call X.lk 32 (X.n + 1) (Tryz.f32.body.getD .skip) { env := initE [a0], heap := h } (kRet X.toComb gp Tryz.f32.results.toList K) = F32 X a0 h K := by kernel_rfl
theorem F32_eq (n lk : Nat) (a0 : GV) (h : List GB) (K : CK) : gcall gp (n + 1) lk 32 [a0] h K = F32 (sX (gcall gp n) n lk) a0 h K :=
  (gcall_two (fn := Tryz.f32) (c := Tryz.f32.body.getD .skip) (by kernel_rfl) (by kernel_rfl) (by kernel_rfl)).trans (F32_c (sX (gcall gp n) n lk) a0 h K)

-- formulary/depend.nestErr
def F105_1 (X : Ctx) (K : CK) (h2 : List GB) (v4 : GV) : Bool :=
  K (noNew (noNew (noNew (noNew (noNew (noNew v4)))))) h2
def F105_2 (X : Ctx) (v1 : GV) (K : CK) (h2 : List GB) (v3 : GV) : Bool :=
  X.v1 (gext (noNew (noNew (noNew v1))) 1) (F105_1 X K h2)
def F105_3 (X : Ctx) (K : CK) (v1 : GV) (h2 : List GB) : Bool :=
  X.v1 (gext (noNew (noNew (noNew v1))) 0) (F105_2 X v1 K h2)
def F105 (X : Ctx) (a0 : GV) (h : List GB) (K : CK) : Bool :=
  X.h1 (gcall0 X.call 32 [noNew (noNew (noNew (noNew a0)))] h) (F105_3 X K)
theorem F105_c (X : Ctx) (a0 : GV) (h : List GB) (K : CK) : gx2 X.toComb gp X.call X.lk 105 (X.n + 1) (Tryz.f105.body.getD .skip) { env := initE [a0], heap := h } (kRet X.toComb gp Tryz.f105.results.toList K) = F105 X a0 h K := by kernel_rfl
theorem F105_eq (n lk : Nat) (a0 : GV) (h : List GB) (K : CK) : gcall gp (n + 1) lk 105 [a0] h K = F105 (sX (gcall gp n) n lk) a0 h K :=
  (gcall_two (fn := Tryz.f105) (c := Tryz.f105.body.getD .skip) (by kernel_rfl) (by kernel_rfl) (by kernel_rfl)).trans (F105_c (sX (gcall gp n) n lk) a0 h K)

-- formulary/depend.HullsOf
def F33_1 (X : Ctx) (K : CK) (v4 : GV) (h5 : List GB) : Bool :=
  K (GV.tup [noNew (noNew v4), noNew (gi 0)]) h5
def F33_2 (X : Ctx) (K : CK) (v1 : GV) (h2 : List GB) (a0 : GV) (t : Bool) : Bool :=
  bif t then K (GV.tup [noNew (GV.d (.lit nilS)), noNew (noNew (noNew (noNew (noNew (noNew v1)))))]) h2 else X.h1 (gcall0 X.call 100 [noNew (noNew (noNew (noNew a0)))] h2) (F33_1 X K)
def F33_3 (X : Ctx) (K : CK) (v1 : GV) (h2 : List GB) (a0 v3 : GV) : Bool :=
  X.b1 (asB (noNew v3)) (F33_2 X K v1 h2 a0)
def F33_4 (X : Ctx) (K : CK) (a0 v1 : GV) (h2 : List GB) : Bool :=
  X.v1 (gbin gp .neq 30 (noNew (noNew (noNew (noNew (noNew v1))))) (gi 0)) (F33_3 X K v1 h2 a0)
def F33 (X : Ctx) (a0 : GV) (h : List GB) (K : CK) : Bool :=
  X.h1 (gcall0 X.call 105 [noNew (noNew (noNew (noNew a0)))] h) (F33_4 X K a0)
theorem F33_c (X : Ctx) (a0 : GV) (h : List GB) (K : CK) : gx2 X.toComb gp X.call X.lk 33 (X.n + 1) (Tryz.f33.body.getD .skip) { env := initE [a0], heap := h } (kRet X.toComb gp Tryz.f33.results.toList K) = F33 X a0 h K := by kernel_rfl
theorem F33_eq (n lk : Nat) (a0 : GV) (h : List GB) (K : CK) : gcall gp (n + 1) lk 33 [a0] h K = F33 (sX (gcall gp n) n lk) a0 h K :=
  (gcall_two (fn := Tryz.f33) (c := Tryz.f33.body.getD .skip) (by kernel_rfl) (by kernel_rfl) (by kernel_rfl)).trans (F33_c (sX (gcall gp n) n lk) a0 h K)

-- formulary/depend.points$1
def F174_1 (X : Ctx) (K : CK) (v7 : GV) (h8 : List GB) : Bool :=
  K (noNew (gb false)) h8
def F174_2 (X : Ctx) (a1 : GV) (K : CK) (v5 : GV) (h6 : List GB) : Bool :=
  X.h1 (gstore gp X.lk 35 (noNew (noNew a1)) (noNew v5) h6) (F174_1 X K)
def F174_3 (X : Ctx) (v1 : GV) (h3 : List GB) (a1 : GV) (K : CK) (v4 : GV) : Bool :=
  X.h1 (gappend gp X.lk 35 (noNew v1) (noNew v4) h3) (F174_2 X a1 K)
def F174_4 (X : Ctx) (v1 a1 : GV) (K : CK) (v2 : GV) (h3 : List GB) : Bool :=
  X.v1 (gbuildS gp 35 1 [(0, noNew v2)]) (F174_3 X v1 h3 a1 K)
def F174_5 (X : Ctx) (a0 : GV) (h : List GB) (a1 : GV) (K : CK) (v1 : GV) : Bool :=
  X.h1 (gcall0 X.call 74 [noNew (noNew (noNew (noNew a0)))] h) (F174_4 X v1 a1 K)
def F174 (X : Ctx) (a0 a1 : GV) (h : List GB) (K : CK) : Bool :=
  X.v1 (gload gp 35 (noNew (noNew a1)) h) (F174_5 X a0 h a1 K)
theorem F174_c (X : Ctx) (a0 a1 : GV) (h : List GB) (K : CK) : gx2 X.toComb gp X.call X.lk 174 (X.n + 1) (Tryz.f174.body.getD .skip) { env := initE [a0, a1], heap := h } (kRet X.toComb gp Tryz.f174.results.toList K) = F174 X a0 a1 h K := by kernel_rfl
theorem F174_eq (n lk : Nat) (a0 a1 : GV) (h : List GB) (K : CK) : gcall gp (n + 1) lk 174 [a0, a1] h K = F174 (sX (gcall gp n) n lk) a0 a1 h K :=
  (gcall_two (fn := Tryz.f174) (c := Tryz.f174.body.getD .skip) (by kernel_rfl) (by kernel_rfl) (by kernel_rfl)).trans (F174_c (sX (gcall gp n) n lk) a0 a1 h K)

-- slices.Clone[[]int,int]
def F74_1 (X : Ctx) (K : CK) (v3 : GV) (h4 : List GB) : Bool :=
  K (noNew (noNew v3)) h4
def F74_2 (X : Ctx) (a0 : GV) (h : List GB) (K : CK) (v2 : GV) : Bool :=
  X.h1 (gappend gp X.lk 48 (noNew v2) (noNew (noNew (noNew (noNew a0)))) h) (F74_1 X K)
def F74_3 (X : Ctx) (K : CK) (h : List GB) (a0 : GV) (t : Bool) : Bool :=
  bif t then K (noNew (GV.d (.lit nilS))) h else X.v1 (gbuildS gp 48 0 []) (F74_2 X a0 h K)
def F74_4 (X : Ctx) (K : CK) (h : List GB) (a0 v1 : GV) : Bool :=
  X.b1 (asB (noNew v1)) (F74_3 X K h a0)
def F74 (X : Ctx) (a0 : GV) (h : List GB) (K : CK) : Bool :=
  X.v1 (gbin gp .eql 48 (noNew (noNew (noNew (noNew a0)))) (GV.d (.lit nilS))) (F74_4 X K h a0)
theorem F74_c (X : Ctx) (a0 : GV) (h : List GB) (K : CK) : gx2 X.toComb gp X.call X.lk 74 (X.n + 1) (Tryz.f74.body.getD .skip) { env := initE [a0], heap := h } (kRet X.toComb gp Tryz.f74.results.toList K) = F74 X a0 h K := by kernel_rfl
theorem F74_eq (n lk : Nat) (a0 : GV) (h : List GB) (K : CK) : gcall gp (n + 1) lk 74 [a0] h K = F74 (sX (gcall gp n) n lk) a0 h K :=
  (gcall_two (fn := Tryz.f74) (c := Tryz.f74.body.getD .skip) (by kernel_rfl) (by kernel_rfl) (by kernel_rfl)).trans (F74_c (sX (gcall gp n) n lk) a0 h K)

-- formulary/depend.points
def F106_1 (X : Ctx) (K : CK) (h5 : List GB) (v6 : GV) : Bool :=
  K (noNew (noNew v6)) h5
def F106_2 (X : Ctx) (v1 : GV) (K : CK) (v4 : GV) (h5 : List GB) : Bool :=
  X.v1 (gload gp 35 (noNew v1) h5) (F106_1 X K h5)
def F106_3 (X : Ctx) (a0 : GV) (h2 : List GB) (v1 : GV) (K : CK) (v3 : GV) : Bool :=
  X.h1 (X.call X.lk 103 [noNew (noNew (noNew (noNew a0))), GV.d (.lit nilS), noNew v3] h2) (F106_2 X v1 K)
def F106_4 (X : Ctx) (a0 : GV) (K : CK) (v1 : GV) (h2 : List GB) : Bool :=
  X.v1 (some (mkFn (.func 174) [] [noNew v1])) (F106_3 X a0 h2 v1 K)
def F106 (X : Ctx) (a0 : GV) (h : List GB) (K : CK) : Bool :=
  X.h1 (fun k => k (.ptr h.length 0) (h ++ [.cells (List.map (fun v => GV.d (.lit v)) [.slice none 0 0])])) (F106_4 X a0 K)
theorem F106_c (X : Ctx) (a0 : GV) (h : List GB) (K : CK) : gx2 X.toComb gp X.call X.lk 106 (X.n + 1) (Tryz.f106.body.getD .skip) { env := initE [a0], heap := h } (kRet X.toComb gp Tryz.f106.results.toList K) = F106 X a0 h K := by kernel_rfl
theorem F106_eq (n lk : Nat) (a0 : GV) (h : List GB) (K : CK) : gcall gp (n + 1) lk 106 [a0] h K = F106 (sX (gcall gp n) n lk) a0 h K :=
  (gcall_two (fn := Tryz.f106) (c := Tryz.f106.body.getD .skip) (by kernel_rfl) (by kernel_rfl) (by kernel_rfl)).trans (F106_c (sX (gcall gp n) n lk) a0 h K)

-- formulary/depend.PointsOf
def F34_1 (X : Ctx) (K : CK) (v4 : GV) (h5 : List GB) : Bool :=
  K (GV.tup [noNew (noNew v4), noNew (gi 0)]) h5
def F34_2 (X : Ctx) (K : CK) (v1 : GV) (h2 : List GB) (a0 : GV) (t : Bool) : Bool :=
  bif t then K (GV.tup [noNew (GV.d (.lit nilS)), noNew (noNew (noNew (noNew (noNew (noNew v1)))))]) h2 else X.h1 (gcall0 X.call 106 [noNew (noNew (noNew (noNew a0)))] h2) (F34_1 X K)
def F34_3 (X : Ctx) (K : CK) (v1 : GV) (h2 : List GB) (a0 v3 : GV) : Bool :=
  X.b1 (asB (noNew v3)) (F34_2 X K v1 h2 a0)
def F34_4 (X : Ctx) (K : CK) (a0 v1 : GV) (h2 : List GB) : Bool :=
  X.v1 (gbin gp .neq 30 (noNew (noNew (noNew (noNew (noNew v1))))) (gi 0)) (F34_3 X K v1 h2 a0)
def F34 (X : Ctx) (a0 : GV) (h : List GB) (K : CK) : Bool :=
  X.h1 (gcall0 X.call 105 [noNew (noNew (noNew (noNew a0)))] h) (F34_4 X K a0)
theorem F34_c (X : Ctx) (a0 : GV) (h : List GB) (K : CK) : gx2 X.toComb gp X.call X.lk 34 (X.n + 1) (Tryz.f34.body.getD .skip) { env := initE [a0], heap := h } (kRet X.toComb gp Tryz.f34.results.toList K) = F34 X a0 h K := by kernel_rfl
theorem F34_eq (n lk : Nat) (a0 : GV) (h : List GB) (K : CK) : gcall gp (n + 1) lk 34 [a0] h K = F34 (sX (gcall gp n) n lk) a0 h K :=
  (gcall_two (fn := Tryz.f34) (c := Tryz.f34.body.getD .skip) (by kernel_rfl) (by kernel_rfl) (by kernel_rfl)).trans (F34_c (sX (gcall gp n) n lk) a0 h K)

-- formulary/formularybase.Within
def F54_1 (X : Ctx) (K : CK) (h : List GB) (v6 : GV) : Bool :=
  K (noNew (noNew v6)) h
def F54_2 (X : Ctx) (K : CK) (h : List GB) (v5 : GV) : Bool :=
  X.v1 (gnot (noNew v5)) (F54_1 X K h)
def F54_3 (X : Ctx) (v1 : GV) (K : CK) (h : List GB) (v4 : GV) : Bool :=
  X.v1 (gpick (noNew (noNew (noNew v1))) (gb true) (noNew v4)) (F54_2 X K h)
def F54_4 (X : Ctx) (v1 v2 : GV) (K : CK) (h : List GB) (v3 : GV) : Bool :=
  X.g1 (wG false (noNew (noNew v1))) (gbin gp .gtr 3 (noNew v2) (noNew v3)) (F54_3 X v1 K h)
def F54_5 (X : Ctx) (v1 a2 : GV) (K : CK) (h : List GB) (v2 : GV) : Bool :=
  X.g1 (wG false (noNew (noNew v1))) (some (noNew (noNew a2))) (F54_4 X v1 v2 K h)
def F54_6 (X : Ctx) (a0 a2 : GV) (K : CK) (h : List GB) (v1 : GV) : Bool :=
  X.g1 (wG false (noNew (noNew v1))) (some (noNew (noNew a0))) (F54_5 X v1 a2 K h)
def F54 (X : Ctx) (a0 a1 a2 : GV) (h : List GB) (K : CK) : Bool :=
  X.v1 (gbin gp .lss 3 (noNew (noNew (noNew (noNew a0)))) (noNew (noNew (noNew (noNew a1))))) (F54_6 X a0 a2 K h)
theorem F54_c (X : Ctx) (a0 a1 a2 : GV) (h : List GB) (K : CK) : gx2 X.toComb gp X.call X.lk 54 (X.n + 1) (Tryz.f54.body.getD .skip) { env := initE [a0, a1, a2], heap := h } (kRet X.toComb gp Tryz.f54.results.toList K) = F54 X a0 a1 a2 h K := by kernel_rfl
theorem F54_eq (n lk : Nat) (a0 a1 a2 : GV) (h : List GB) (K : CK) : gcall gp (n + 1) lk 54 [a0, a1, a2] h K = F54 (sX (gcall gp n) n lk) a0 a1 a2 h K :=
  (gcall_two (fn := Tryz.f54) (c := Tryz.f54.body.getD .skip) (by kernel_rfl) (by kernel_rfl) (by kernel_rfl)).trans (F54_c (sX (gcall gp n) n lk) a0 a1 a2 h K)

-- formulary/formularyref27.AffineErr
def B107_0_1 (X : Ctx) (again : St → Bool) (s : St) (h13 : List GB) (v15 : GV) : Bool :=
  again { env := ofL [(1, noNew (noNew (s.env 1))), (2, noNew (noNew (s.env 2))), (5, noNew (noNew (noNew v15)))], heap := h13 }
def B107_0_2 (X : Ctx) (K : GX → St → Bool) (s : St) (v7 v8 v9 v10 v11 v12 v14 : GV) (h13 : List GB) (again : St → Bool) (t : Bool) : Bool :=
  bif t then K .ret { env := put (put (put (put (put (put (put (put (put (put (put (ofL [(1, noNew (s.env 1)), (2, noNew (s.env 2)), (5, noNew (s.env 5))]) (some 11) (noNew (noNew (noNew (s.env 5))))) (some 12) (noNew (noNew (noNew (s.env 1))))) (some 13) v7) (some 16) v8) (some 17) v9) (some 18) (noNew (noNew (noNew (s.env 5))))) (some 19) v10) (some 20) v11) (some 21) v12) (some 22) v14) (some 4) (noNew (gi 2)), heap := h13 } else X.v1 (gbin gp .add 3 (noNew (noNew (noNew (noNew (s.env 5))))) (gi 1)) (B107_0_1 X again s h13)
def B107_0_3 (X : Ctx) (K : GX → St → Bool) (s : St) (v7 v8 v9 v10 v11 v12 : GV) (h13 : List GB) (again : St → Bool) (v14 : GV) : Bool :=
  X.b1 (asB (noNew v14)) (B107_0_2 X K s v7 v8 v9 v10 v11 v12 v14 h13 again)
def B107_0_4 (X : Ctx) (K : GX → St → Bool) (s : St) (v7 v8 v9 v10 v11 : GV) (again : St → Bool) (v12 : GV) (h13 : List GB) : Bool :=
  X.v1 (gnot (noNew v12)) (B107_0_3 X K s v7 v8 v9 v10 v11 v12 h13 again)
def B107_0_5 (X : Ctx) (s : St) (K : GX → St → Bool) (v7 v8 v9 v10 : GV) (again : St → Bool) (v11 : GV) : Bool :=
  X.h1 (gcall0 X.call 54 [noNew v11, gi (-8), gi 8] s.heap) (B107_0_4 X K s v7 v8 v9 v10 v11 again)
def B107_0_6 (X : Ctx) (s : St) (K : GX → St → Bool) (v7 v8 v9 : GV) (again : St → Bool) (v10 : GV) : Bool :=
  X.v1 (gload gp 3 (noNew v10) s.heap) (B107_0_5 X s K v7 v8 v9 v10 again)
def B107_0_7 (X : Ctx) (s : St) (K : GX → St → Bool) (v7 v8 : GV) (again : St → Bool) (v9 : GV) : Bool :=
  X.v1 (gindexAddr gp 48 (noNew v9) (noNew (noNew (noNew (noNew (s.env 5)))))) (B107_0_6 X s K v7 v8 v9 again)
def B107_0_8 (X : Ctx) (s : St) (K : GX → St → Bool) (v7 : GV) (again : St → Bool) (v8 : GV) : Bool :=
  X.v1 (gload gp 48 (noNew v8) s.heap) (B107_0_7 X s K v7 v8 again)
def B107_0_9 (X : Ctx) (s : St) (K : GX → St → Bool) (v7 : GV) (again : St → Bool) (t : Bool) : Bool :=
  bif t then X.v1 (gfieldAddr gp 123 (noNew (noNew (s.env 2))) 0) (B107_0_8 X s K v7 again) else K (.exit 0) { env := put (put (put (ofL [(1, noNew (s.env 1)), (2, noNew (s.env 2)), (5, noNew (s.env 5))]) (some 11) (noNew (noNew (noNew (s.env 5))))) (some 12) (noNew (noNew (noNew (s.env 1))))) (some 13) v7, heap := s.heap }
def B107_0_10 (X : Ctx) (s : St) (K : GX → St → Bool) (again : St → Bool) (v7 : GV) : Bool :=
  X.b1 (asB (noNew v7)) (B107_0_9 X s K v7 again)
def B107_0 (X : Ctx) (s : St) (again : St → Bool) (K : GX → St → Bool) : Bool :=
  X.v1 (gbin gp .lss 3 (noNew (noNew (noNew (noNew (s.env 5))))) (noNew (noNew (noNew (noNew (s.env 1)))))) (B107_0_10 X s K again)
def F107_1 (X : Ctx) (K : CK) (h20 : List GB) (t : Bool) : Bool :=
  bif t then K (noNew (gi 2)) h20 else K (noNew (gi 0)) h20
def F107_2 (X : Ctx) (K : CK) (h20 : List GB) (v21 : GV) : Bool :=
  X.b1 (asB (noNew v21)) (F107_1 X K h20)
def F107_3 (X : Ctx) (K : CK) (v19 : GV) (h20 : List GB) : Bool :=
  X.v1 (gnot (noNew v19)) (F107_2 X K h20)
def F107_4 (X : Ctx) (s16 : St) (K : CK) (v18 : GV) : Bool :=
  X.h1 (gcall0 X.call 54 [noNew v18, gi (-64), gi 64] s16.heap) (F107_3 X K)
def F107_5 (X : Ctx) (s16 : St) (K : CK) (v17 : GV) : Bool :=
  X.v1 (gload gp 3 (noNew v17) s16.heap) (F107_4 X s16 K)
def F107_6 (X : Ctx) (K : CK) (s16 : St) : Bool :=
  X.v1 (gfieldAddr gp 123 (noNew (noNew (s16.env 2))) 1) (F107_5 X s16 K)
def F107_7 (X : Ctx) (K : CK) (h2 : List GB) (a1 v1 : GV) (t : Bool) : Bool :=
  bif t then K (noNew (gi 10)) h2 else X.loop (B107_0 X) (X.n + 1) { env := ofL [(1, noNew (noNew a1)), (2, noNew v1), (5, noNew (noNew (gi 0)))], heap := h2 } (kBlk 0 (kSeq (F107_6 X K) (kRet X.toComb gp Tryz.f107.results.toList K)))
def F107_8 (X : Ctx) (K : CK) (h2 : List GB) (a1 v1 v6 : GV) : Bool :=
  X.b1 (asB (noNew v6)) (F107_7 X K h2 a1 v1)
def F107_9 (X : Ctx) (a1 : GV) (K : CK) (h2 : List GB) (v1 v5 : GV) : Bool :=
  X.v1 (gbin gp .neq 3 (noNew v5) (noNew (noNew (noNew (noNew a1))))) (F107_8 X K h2 a1 v1)
def F107_10 (X : Ctx) (a1 : GV) (K : CK) (h2 : List GB) (v1 v4 : GV) : Bool :=
  X.v1 (glen gp 48 (noNew v4)) (F107_9 X a1 K h2 v1)
def F107_11 (X : Ctx) (h2 : List GB) (a1 : GV) (K : CK) (v1 v3 : GV) : Bool :=
  X.v1 (gload gp 48 (noNew v3) h2) (F107_10 X a1 K h2 v1)
def F107_12 (X : Ctx) (a1 : GV) (K : CK) (v1 : GV) (h2 : List GB) : Bool :=
  X.v1 (gfieldAddr gp 123 (noNew v1) 0) (F107_11 X h2 a1 K v1)
def F107 (X : Ctx) (a0 a1 : GV) (h : List GB) (K : CK) : Bool :=
  X.h1 (gbox true (noNew (noNew a0)) h) (F107_12 X a1 K)
theorem F107_c (X : Ctx) (a0 a1 : GV) (h : List GB) (K : CK) : gx2 X.toComb gp X.call X.lk 107 (X.n + 1) (Tryz.f107.body.getD .skip) { env := initE [a0, a1], heap := h } (kRet X.toComb gp Tryz.f107.results.toList K) = F107 X a0 a1 h K := by kernel_rfl
theorem F107_eq (n lk : Nat) (a0 a1 : GV) (h : List GB) (K : CK) : gcall gp (n + 1) lk 107 [a0, a1] h K = F107 (sX (gcall gp n) n lk) a0 a1 h K :=
  (gcall_two (fn := Tryz.f107) (c := Tryz.f107.body.getD .skip) (by kernel_rfl) (by kernel_rfl) (by kernel_rfl)).trans (F107_c (sX (gcall gp n) n lk) a0 a1 h K)

-- formulary/formularyref27.Value
def B128_0_1 (X : Ctx) (again : St → Bool) (s : St) (v16 v17 : GV) : Bool :=
  again { env := ofL [(1, noNew (noNew (s.env 1))), (2, noNew (noNew (s.env 2))), (5, noNew (noNew (noNew v16))), (6, noNew (noNew (noNew v17)))], heap := s.heap }
def B128_0_2 (X : Ctx) (s : St) (again : St → Bool) (v16 : GV) : Bool :=
  X.v1 (gbin gp .add 3 (noNew (noNew (noNew (noNew (s.env 6))))) (gi 1)) (B128_0_1 X again s v16)
def B128_0_3 (X : Ctx) (s : St) (again : St → Bool) (v15 : GV) : Bool :=
  X.v1 (gbin gp .add 3 (noNew (noNew (noNew (noNew (s.env 5))))) (noNew v15)) (B128_0_2 X s again)
def B128_0_4 (X : Ctx) (v12 : GV) (s : St) (again : St → Bool) (v14 : GV) : Bool :=
  X.v1 (gbin gp .mul 3 (noNew v12) (noNew v14)) (B128_0_3 X s again)
def B128_0_5 (X : Ctx) (s : St) (v12 : GV) (again : St → Bool) (v13 : GV) : Bool :=
  X.v1 (gload gp 3 (noNew v13) s.heap) (B128_0_4 X v12 s again)
def B128_0_6 (X : Ctx) (s : St) (again : St → Bool) (v12 : GV) : Bool :=
  X.v1 (gindexAddr gp 48 (noNew (noNew (noNew (noNew (s.env 1))))) (noNew (noNew (noNew (noNew (s.env 6)))))) (B128_0_5 X s v12 again)
def B128_0_7 (X : Ctx) (s : St) (again : St → Bool) (v11 : GV) : Bool :=
  X.v1 (gload gp 3 (noNew v11) s.heap) (B128_0_6 X s again)
def B128_0_8 (X : Ctx) (s : St) (again : St → Bool) (v10 : GV) : Bool :=
  X.v1 (gindexAddr gp 48 (noNew v10) (noNew (noNew (noNew (noNew (s.env 6)))))) (B128_0_7 X s again)
def B128_0_9 (X : Ctx) (s : St) (again : St → Bool) (v9 : GV) : Bool :=
  X.v1 (gload gp 48 (noNew v9) s.heap) (B128_0_8 X s again)
def B128_0_10 (X : Ctx) (s : St) (again : St → Bool) (K : GX → St → Bool) (v5 v6 v7 v8 : GV) (t : Bool) : Bool :=
  bif t then X.v1 (gfieldAddr gp 123 (noNew (noNew (s.env 2))) 0) (B128_0_9 X s again) else K (.exit 0) { env := put (put (put (put (put (ofL [(1, noNew (s.env 1)), (2, noNew (s.env 2)), (5, noNew (s.env 5)), (6, noNew (s.env 6))]) (some 9) (noNew (noNew (noNew (s.env 6))))) (some 10) v5) (some 11) v6) (some 12) v7) (some 13) v8, heap := s.heap }
def B128_0_11 (X : Ctx) (s : St) (again : St → Bool) (K : GX → St → Bool) (v5 v6 v7 v8 : GV) : Bool :=
  X.b1 (asB (noNew v8)) (B128_0_10 X s again K v5 v6 v7 v8)
def B128_0_12 (X : Ctx) (s : St) (again : St → Bool) (K : GX → St → Bool) (v5 v6 v7 : GV) : Bool :=
  X.v1 (gbin gp .lss 3 (noNew (noNew (noNew (noNew (s.env 6))))) (noNew v7)) (B128_0_11 X s again K v5 v6 v7)
def B128_0_13 (X : Ctx) (s : St) (again : St → Bool) (K : GX → St → Bool) (v5 v6 : GV) : Bool :=
  X.v1 (glen gp 48 (noNew v6)) (B128_0_12 X s again K v5 v6)
def B128_0_14 (X : Ctx) (s : St) (again : St → Bool) (K : GX → St → Bool) (v5 : GV) : Bool :=
  X.v1 (gload gp 48 (noNew v5) s.heap) (B128_0_13 X s again K v5)
def B128_0 (X : Ctx) (s : St) (again : St → Bool) (K : GX → St → Bool) : Bool :=
  X.v1 (gfieldAddr gp 123 (noNew (noNew (s.env 2))) 0) (B128_0_14 X s again K)
def F128_1 (X : Ctx) (K : CK) (s18 : St) : Bool :=
  K (noNew (noNew (noNew (noNew (noNew (s18.env 5)))))) s18.heap
def F128_2 (X : Ctx) (a1 v1 : GV) (h2 : List GB) (K : CK) (v4 : GV) : Bool :=
  X.loop (B128_0 X) (X.n + 1) { env := ofL [(1, noNew (noNew a1)), (2, noNew v1), (5, noNew (noNew (noNew v4))), (6, noNew (noNew (gi 0)))], heap := h2 } (kBlk 0 (kSeq (F128_1 X K) (kRet X.toComb gp Tryz.f128.results.toList K)))
def F128_3 (X : Ctx) (h2 : List GB) (a1 v1 : GV) (K : CK) (v3 : GV) : Bool :=
  X.v1 (gload gp 3 (noNew v3) h2) (F128_2 X a1 v1 h2 K)
def F128_4 (X : Ctx) (a1 : GV) (K : CK) (v1 : GV) (h2 : List GB) : Bool :=
  X.v1 (gfieldAddr gp 123 (noNew v1) 1) (F128_3 X h2 a1 v1 K)
def F128 (X : Ctx) (a0 a1 : GV) (h : List GB) (K : CK) : Bool :=
  X.h1 (gbox true (noNew (noNew a0)) h) (F128_4 X a1 K)
theorem F128_c (X : Ctx) (a0 a1 : GV) (h : List GB) (K : CK) : gx2 X.toComb gp X.call X.lk 128 (X.n + 1) (Tryz.f128.body.getD .skip) { env := initE [a0, a1], heap := h } (kRet X.toComb gp Tryz.f128.results.toList K) = F128 X a0 a1 h K := by kernel_rfl
theorem F128_eq (n lk : Nat) (a0 a1 : GV) (h : List GB) (K : CK) : gcall gp (n + 1) lk 128 [a0, a1] h K = F128 (sX (gcall gp n) n lk) a0 a1 h K :=
  (gcall_two (fn := Tryz.f128) (c := Tryz.f128.body.getD .skip) (by kernel_rfl) (by kernel_rfl) (by kernel_rfl)).trans (F128_c (sX (gcall gp n) n lk) a0 a1 h K)

-- formulary/formularyref27.between
def B108_0_1 (X : Ctx) (again : St → Bool) (s : St) (h45 : List GB) (v46 : GV) : Bool :=
  again { env := ofL [(1, noNew (noNew (s.env 1))), (2, noNew (noNew (s.env 2))), (4, noNew (noNew (s.env 4))), (5, noNew (noNew (s.env 5))), (6, noNew (noNew (noNew v46)))], heap := h45 }
def B108_0_2 (X : Ctx) (s : St) (again : St → Bool) (v44 : GV) (h45 : List GB) : Bool :=
  X.v1 (gbin gp .add 3 (noNew (noNew (noNew (noNew (s.env 6))))) (gi 1)) (B108_0_1 X again s h45)
def B108_0_3 (X : Ctx) (v39 : GV) (h42 : List GB) (s : St) (again : St → Bool) (v43 : GV) : Bool :=
  X.h1 (gstore gp X.lk 3 (noNew v43) (noNew v39) h42) (B108_0_2 X s again)
def B108_0_4 (X : Ctx) (s : St) (v39 : GV) (again : St → Bool) (v41 : GV) (h42 : List GB) : Bool :=
  X.v1 (gfieldAddr gp 98 (noNew (noNew (s.env 5))) 1) (B108_0_3 X v39 h42 s again)
def B108_0_5 (X : Ctx) (v35 : GV) (s : St) (v39 : GV) (again : St → Bool) (v40 : GV) : Bool :=
  X.h1 (gstore gp X.lk 3 (noNew v40) (noNew v35) s.heap) (B108_0_4 X s v39 again)
def B108_0_6 (X : Ctx) (s : St) (v35 : GV) (again : St → Bool) (v39 : GV) : Bool :=
  X.v1 (gfieldAddr gp 98 (noNew (noNew (s.env 5))) 0) (B108_0_5 X v35 s v39 again)
def B108_0_7 (X : Ctx) (v37 : GV) (s : St) (v35 : GV) (again : St → Bool) (v38 : GV) : Bool :=
  X.v1 (gbin gp .add 3 (noNew v37) (noNew v38)) (B108_0_6 X s v35 again)
def B108_0_8 (X : Ctx) (v23 v31 : GV) (s : St) (v35 : GV) (again : St → Bool) (v37 : GV) : Bool :=
  X.v1 (gmax (noNew (noNew (noNew (noNew (noNew v23))))) [noNew (noNew (noNew (noNew (noNew v31))))]) (B108_0_7 X v37 s v35 again)
def B108_0_9 (X : Ctx) (s : St) (v23 v31 v35 : GV) (again : St → Bool) (v36 : GV) : Bool :=
  X.v1 (gload gp 3 (noNew v36) s.heap) (B108_0_8 X v23 v31 s v35 again)
def B108_0_10 (X : Ctx) (s : St) (v23 v31 : GV) (again : St → Bool) (v35 : GV) : Bool :=
  X.v1 (gfieldAddr gp 98 (noNew (noNew (s.env 5))) 1) (B108_0_9 X s v23 v31 v35 again)
def B108_0_11 (X : Ctx) (v33 : GV) (s : St) (v23 v31 : GV) (again : St → Bool) (v34 : GV) : Bool :=
  X.v1 (gbin gp .add 3 (noNew v33) (noNew v34)) (B108_0_10 X s v23 v31 again)
def B108_0_12 (X : Ctx) (v23 v31 : GV) (s : St) (again : St → Bool) (v33 : GV) : Bool :=
  X.v1 (gmin (noNew (noNew (noNew (noNew (noNew v23))))) [noNew (noNew (noNew (noNew (noNew v31))))]) (B108_0_11 X v33 s v23 v31 again)
def B108_0_13 (X : Ctx) (s : St) (v23 v31 : GV) (again : St → Bool) (v32 : GV) : Bool :=
  X.v1 (gload gp 3 (noNew v32) s.heap) (B108_0_12 X v23 v31 s again)
def B108_0_14 (X : Ctx) (s : St) (v23 : GV) (again : St → Bool) (v31 : GV) : Bool :=
  X.v1 (gfieldAddr gp 98 (noNew (noNew (s.env 5))) 0) (B108_0_13 X s v23 v31 again)
def B108_0_15 (X : Ctx) (v27 : GV) (s : St) (v23 : GV) (again : St → Bool) (v30 : GV) : Bool :=
  X.v1 (gbin gp .mul 3 (noNew v27) (noNew v30)) (B108_0_14 X s v23 again)
def B108_0_16 (X : Ctx) (s : St) (v27 v23 : GV) (again : St → Bool) (v29 : GV) : Bool :=
  X.v1 (gload gp 3 (noNew v29) s.heap) (B108_0_15 X v27 s v23 again)
def B108_0_17 (X : Ctx) (s : St) (v27 v23 : GV) (again : St → Bool) (v28 : GV) : Bool :=
  X.v1 (gfieldAddr gp 98 (noNew v28) 1) (B108_0_16 X s v27 v23 again)
def B108_0_18 (X : Ctx) (s : St) (v23 : GV) (again : St → Bool) (v27 : GV) : Bool :=
  X.v1 (gindexAddr gp 56 (noNew (noNew (noNew (noNew (s.env 1))))) (noNew (noNew (noNew (noNew (s.env 6)))))) (B108_0_17 X s v27 v23 again)
def B108_0_19 (X : Ctx) (s : St) (v23 : GV) (again : St → Bool) (v26 : GV) : Bool :=
  X.v1 (gload gp 3 (noNew v26) s.heap) (B108_0_18 X s v23 again)
def B108_0_20 (X : Ctx) (s : St) (v23 : GV) (again : St → Bool) (v25 : GV) : Bool :=
  X.v1 (gindexAddr gp 48 (noNew v25) (noNew (noNew (noNew (noNew (s.env 6)))))) (B108_0_19 X s v23 again)
def B108_0_21 (X : Ctx) (s : St) (v23 : GV) (again : St → Bool) (v24 : GV) : Bool :=
  X.v1 (gload gp 48 (noNew v24) s.heap) (B108_0_20 X s v23 again)
def B108_0_22 (X : Ctx) (s : St) (again : St → Bool) (v23 : GV) : Bool :=
  X.v1 (gfieldAddr gp 123 (noNew (noNew (s.env 2))) 0) (B108_0_21 X s v23 again)
def B108_0_23 (X : Ctx) (v19 : GV) (s : St) (again : St → Bool) (v22 : GV) : Bool :=
  X.v1 (gbin gp .mul 3 (noNew v19) (noNew v22)) (B108_0_22 X s again)
def B108_0_24 (X : Ctx) (s : St) (v19 : GV) (again : St → Bool) (v21 : GV) : Bool :=
  X.v1 (gload gp 3 (noNew v21) s.heap) (B108_0_23 X v19 s again)
def B108_0_25 (X : Ctx) (s : St) (v19 : GV) (again : St → Bool) (v20 : GV) : Bool :=
  X.v1 (gfieldAddr gp 98 (noNew v20) 0) (B108_0_24 X s v19 again)
def B108_0_26 (X : Ctx) (s : St) (again : St → Bool) (v19 : GV) : Bool :=
  X.v1 (gindexAddr gp 56 (noNew (noNew (noNew (noNew (s.env 1))))) (noNew (noNew (noNew (noNew (s.env 6)))))) (B108_0_25 X s v19 again)
def B108_0_27 (X : Ctx) (s : St) (again : St → Bool) (v18 : GV) : Bool :=
  X.v1 (gload gp 3 (noNew v18) s.heap) (B108_0_26 X s again)
def B108_0_28 (X : Ctx) (s : St) (again : St → Bool) (v17 : GV) : Bool :=
  X.v1 (gindexAddr gp 48 (noNew v17) (noNew (noNew (noNew (noNew (s.env 6)))))) (B108_0_27 X s again)
def B108_0_29 (X : Ctx) (s : St) (again : St → Bool) (v16 : GV) : Bool :=
  X.v1 (gload gp 48 (noNew v16) s.heap) (B108_0_28 X s again)
def B108_0_30 (X : Ctx) (s : St) (again : St → Bool) (K : GX → St → Bool) (v12 v13 v14 v15 : GV) (t : Bool) : Bool :=
  bif t then X.v1 (gfieldAddr gp 123 (noNew (noNew (s.env 2))) 0) (B108_0_29 X s again) else K (.exit 0) { env := put (put (put (put (put (ofL [(1, noNew (s.env 1)), (2, noNew (s.env 2)), (4, noNew (s.env 4)), (5, noNew (s.env 5)), (6, noNew (s.env 6))]) (some 14) (noNew (noNew (noNew (s.env 6))))) (some 15) v12) (some 16) v13) (some 17) v14) (some 18) v15, heap := s.heap }
def B108_0_31 (X : Ctx) (s : St) (again : St → Bool) (K : GX → St → Bool) (v12 v13 v14 v15 : GV) : Bool :=
  X.b1 (asB (noNew v15)) (B108_0_30 X s again K v12 v13 v14 v15)
def B108_0_32 (X : Ctx) (s : St) (again : St → Bool) (K : GX → St → Bool) (v12 v13 v14 : GV) : Bool :=
  X.v1 (gbin gp .lss 3 (noNew (noNew (noNew (noNew (s.env 6))))) (noNew v14)) (B108_0_31 X s again K v12 v13 v14)
def B108_0_33 (X : Ctx) (s : St) (again : St → Bool) (K : GX → St → Bool) (v12 v13 : GV) : Bool :=
  X.v1 (glen gp 48 (noNew v13)) (B108_0_32 X s again K v12 v13)
def B108_0_34 (X : Ctx) (s : St) (again : St → Bool) (K : GX → St → Bool) (v12 : GV) : Bool :=
  X.v1 (gload gp 48 (noNew v12) s.heap) (B108_0_33 X s again K v12)
def B108_0 (X : Ctx) (s : St) (again : St → Bool) (K : GX → St → Bool) : Bool :=
  X.v1 (gfieldAddr gp 123 (noNew (noNew (s.env 2))) 0) (B108_0_34 X s again K)
def F108_1 (X : Ctx) (K : CK) (h50 : List GB) (v51 : GV) : Bool :=
  K v51 h50
def F108_2 (X : Ctx) (s47 : St) (K : CK) (v49 : GV) (h50 : List GB) : Bool :=
  X.r1 (gcell gp 98 (noNew (s47.env 4)) h50) (F108_1 X K h50)
def F108_3 (X : Ctx) (s47 : St) (K : CK) (v48 : GV) : Bool :=
  X.h1 (gstore gp X.lk 98 (noNew (noNew (s47.env 4))) (noNew v48) s47.heap) (F108_2 X s47 K)
def F108_4 (X : Ctx) (K : CK) (s47 : St) : Bool :=
  X.v1 (gload gp 98 (noNew (noNew (s47.env 5))) s47.heap) (F108_3 X s47 K)
def F108_5 (X : Ctx) (a1 v1 v3 : GV) (K : CK) (v10 : GV) (h11 : List GB) : Bool :=
  X.loop (B108_0 X) (X.n + 1) { env := ofL [(1, noNew (noNew a1)), (2, noNew v1), (4, noNew v3), (5, noNew v10), (6, noNew (noNew (gi 0)))], heap := h11 } (kBlk 0 (kSeq (F108_4 X K) (kRet X.toComb gp Tryz.f108.results.toList K)))
def F108_6 (X : Ctx) (h4 : List GB) (a1 v1 v3 : GV) (K : CK) (v9 : GV) : Bool :=
  X.i1 false 2 (noNew v9) h4 (F108_5 X a1 v1 v3 K)
def F108_7 (X : Ctx) (v6 : GV) (h4 : List GB) (a1 v1 v3 : GV) (K : CK) (v8 : GV) : Bool :=
  X.v1 (gbuild gp 98 [(0, noNew v6), (1, noNew v8)]) (F108_6 X h4 a1 v1 v3 K)
def F108_8 (X : Ctx) (h4 : List GB) (v6 a1 v1 v3 : GV) (K : CK) (v7 : GV) : Bool :=
  X.v1 (gload gp 3 (noNew v7) h4) (F108_7 X v6 h4 a1 v1 v3 K)
def F108_9 (X : Ctx) (v1 : GV) (h4 : List GB) (a1 v3 : GV) (K : CK) (v6 : GV) : Bool :=
  X.v1 (gfieldAddr gp 123 (noNew v1) 1) (F108_8 X h4 v6 a1 v1 v3 K)
def F108_10 (X : Ctx) (h4 : List GB) (v1 a1 v3 : GV) (K : CK) (v5 : GV) : Bool :=
  X.v1 (gload gp 3 (noNew v5) h4) (F108_9 X v1 h4 a1 v3 K)
def F108_11 (X : Ctx) (v1 a1 : GV) (K : CK) (v3 : GV) (h4 : List GB) : Bool :=
  X.v1 (gfieldAddr gp 123 (noNew v1) 1) (F108_10 X h4 v1 a1 v3 K)
def F108_12 (X : Ctx) (a1 : GV) (K : CK) (v1 : GV) (h2 : List GB) : Bool :=
  X.h1 (fun k => k (.ptr h2.length 0) (h2 ++ [.cells (List.map (fun v => GV.d (.lit v)) [.int .i64 0, .int .i64 0])])) (F108_11 X v1 a1 K)
def F108 (X : Ctx) (a0 a1 : GV) (h : List GB) (K : CK) : Bool :=
  X.h1 (gbox true (noNew (noNew a0)) h) (F108_12 X a1 K)
theorem F108_c (X : Ctx) (a0 a1 : GV) (h : List GB) (K : CK) : gx2 X.toComb gp X.call X.lk 108 (X.n + 1) (Tryz.f108.body.getD .skip) { env := initE [a0, a1], heap := h } (kRet X.toComb gp Tryz.f108.results.toList K) = F108 X a0 a1 h K := by kernel_rfl
theorem F108_eq (n lk : Nat) (a0 a1 : GV) (h : List GB) (K : CK) : gcall gp (n + 1) lk 108 [a0, a1] h K = F108 (sX (gcall gp n) n lk) a0 a1 h K :=
  (gcall_two (fn := Tryz.f108) (c := Tryz.f108.body.getD .skip) (by kernel_rfl) (by kernel_rfl) (by kernel_rfl)).trans (F108_c (sX (gcall gp n) n lk) a0 a1 h K)

-- formulary/formularyref27.Hulls
def B37_0_1 (X : Ctx) (again : St → Bool) (s : St) (v19 : GV) (h20 : List GB) (v21 : GV) : Bool :=
  again { env := ofL [(0, noNew (noNew (s.env 0))), (3, noNew (noNew (noNew v19))), (4, noNew (noNew (noNew v21)))], heap := h20 }
def B37_0_2 (X : Ctx) (s : St) (again : St → Bool) (v19 : GV) (h20 : List GB) : Bool :=
  X.v1 (gbin gp .add 3 (noNew (noNew (noNew (noNew (s.env 4))))) (gi 1)) (B37_0_1 X again s v19 h20)
def B37_0_3 (X : Ctx) (s : St) (h15 : List GB) (again : St → Bool) (v18 : GV) : Bool :=
  X.h1 (gappend gp X.lk 56 (noNew (noNew (noNew (noNew (s.env 3))))) (noNew v18) h15) (B37_0_2 X s again)
def B37_0_4 (X : Ctx) (s : St) (h15 : List GB) (again : St → Bool) (v17 : GV) : Bool :=
  X.v1 (gbuildS gp 56 1 [(0, noNew v17)]) (B37_0_3 X s h15 again)
def B37_0_5 (X : Ctx) (v10 : GV) (s : St) (h15 : List GB) (again : St → Bool) (v16 : GV) : Bool :=
  X.v1 (gbuild gp 98 [(0, noNew v10), (1, noNew v16)]) (B37_0_4 X s h15 again)
def B37_0_6 (X : Ctx) (v10 : GV) (s : St) (again : St → Bool) (v14 : GV) (h15 : List GB) : Bool :=
  X.v1 (gfield gp 98 (noNew v14) 1) (B37_0_5 X v10 s h15 again)
def B37_0_7 (X : Ctx) (s : St) (h9 : List GB) (v10 : GV) (again : St → Bool) (v13 : GV) : Bool :=
  X.h1 (gcall0 X.call 108 [noNew v13, noNew (noNew (noNew (noNew (s.env 3))))] h9) (B37_0_6 X v10 s again)
def B37_0_8 (X : Ctx) (h9 : List GB) (s : St) (v10 : GV) (again : St → Bool) (v12 : GV) : Bool :=
  X.v1 (gload gp 123 (noNew v12) h9) (B37_0_7 X s h9 v10 again)
def B37_0_9 (X : Ctx) (h9 : List GB) (s : St) (v10 : GV) (again : St → Bool) (v11 : GV) : Bool :=
  X.v1 (gfieldAddr gp 125 (noNew v11) 1) (B37_0_8 X h9 s v10 again)
def B37_0_10 (X : Ctx) (s : St) (h9 : List GB) (again : St → Bool) (v10 : GV) : Bool :=
  X.v1 (gindexAddr gp 23 (noNew (noNew (noNew (noNew (s.env 0))))) (noNew (noNew (noNew (noNew (s.env 4)))))) (B37_0_9 X h9 s v10 again)
def B37_0_11 (X : Ctx) (s : St) (again : St → Bool) (v8 : GV) (h9 : List GB) : Bool :=
  X.v1 (gfield gp 98 (noNew v8) 0) (B37_0_10 X s h9 again)
def B37_0_12 (X : Ctx) (s : St) (again : St → Bool) (v7 : GV) : Bool :=
  X.h1 (gcall0 X.call 108 [noNew v7, noNew (noNew (noNew (noNew (s.env 3))))] s.heap) (B37_0_11 X s again)
def B37_0_13 (X : Ctx) (s : St) (again : St → Bool) (v6 : GV) : Bool :=
  X.v1 (gload gp 123 (noNew v6) s.heap) (B37_0_12 X s again)
def B37_0_14 (X : Ctx) (s : St) (again : St → Bool) (v5 : GV) : Bool :=
  X.v1 (gfieldAddr gp 125 (noNew v5) 0) (B37_0_13 X s again)
def B37_0_15 (X : Ctx) (s : St) (again : St → Bool) (K : GX → St → Bool) (v3 v4 : GV) (t : Bool) : Bool :=
  bif t then X.v1 (gindexAddr gp 23 (noNew (noNew (noNew (noNew (s.env 0))))) (noNew (noNew (noNew (noNew (s.env 4)))))) (B37_0_14 X s again) else K (.exit 0) { env := put (put (put (put (ofL [(0, noNew (s.env 0)), (3, noNew (s.env 3)), (4, noNew (s.env 4))]) (some 5) (noNew (noNew (noNew (s.env 4))))) (some 6) (noNew (noNew (noNew (s.env 0))))) (some 7) v3) (some 8) v4, heap := s.heap }
def B37_0_16 (X : Ctx) (s : St) (again : St → Bool) (K : GX → St → Bool) (v3 v4 : GV) : Bool :=
  X.b1 (asB (noNew v4)) (B37_0_15 X s again K v3 v4)
def B37_0_17 (X : Ctx) (s : St) (again : St → Bool) (K : GX → St → Bool) (v3 : GV) : Bool :=
  X.v1 (gbin gp .lss 3 (noNew (noNew (noNew (noNew (s.env 4))))) (noNew v3)) (B37_0_16 X s again K v3)
def B37_0 (X : Ctx) (s : St) (again : St → Bool) (K : GX → St → Bool) : Bool :=
  X.v1 (glen gp 23 (noNew (noNew (noNew (noNew (s.env 0)))))) (B37_0_17 X s again K)
def F37_1 (X : Ctx) (K : CK) (s22 : St) : Bool :=
  K (noNew (noNew (noNew (noNew (noNew (s22.env 3)))))) s22.heap
def F37_2 (X : Ctx) (a0 : GV) (K : CK) (v1 : GV) (h2 : List GB) : Bool :=
  X.loop (B37_0 X) (X.n + 1) { env := ofL [(0, noNew (noNew a0)), (3, noNew v1), (4, noNew (noNew (gi 0)))], heap := h2 } (kBlk 0 (kSeq (F37_1 X K) (kRet X.toComb gp Tryz.f37.results.toList K)))
def F37 (X : Ctx) (a0 : GV) (h : List GB) (K : CK) : Bool :=
  X.h1 (fun k => k (.tl [] h.length) (h ++ [.tail 0 2])) (F37_2 X a0 K)
theorem F37_c (X : Ctx) (a0 : GV) (h : List GB) (K : CK) : gx2 X.toComb gp X.call X.lk 37 (X.n + 1) (Tryz.f37.body.getD .skip) { env := initE [a0], heap := h } (kRet X.toComb gp Tryz.f37.results.toList K) = F37 X a0 h K := by kernel_rfl
theorem F37_eq (n lk : Nat) (a0 : GV) (h : List GB) (K : CK) : gcall gp (n + 1) lk 37 [a0] h K = F37 (sX (gcall gp n) n lk) a0 h K :=
  (gcall_two (fn := Tryz.f37) (c := Tryz.f37.body.getD .skip) (by kernel_rfl) (by kernel_rfl) (by kernel_rfl)).trans (F37_c (sX (gcall gp n) n lk) a0 h K)

-- formulary/formularybase.CopyInts
def F42_1 (X : Ctx) (K : CK) (v6 : GV) (h7 : List GB) : Bool :=
  K v6 h7
def F42_2 (X : Ctx) (v2 : GV) (K : CK) (v4 : GV) (h5 : List GB) : Bool :=
  X.f1 (frzV gp X.lk h5 3 (noNew (noNew (noNew (noNew (noNew (noNew v2))))))) (F42_1 X K)
def F42_3 (X : Ctx) (a0 : GV) (K : CK) (v2 : GV) (h3 : List GB) : Bool :=
  X.h1 (gcopy gp X.lk 48 (noNew (noNew (noNew (noNew (noNew v2))))) (noNew (noNew (noNew (noNew a0)))) h3) (F42_2 X v2 K)
def F42_4 (X : Ctx) (h : List GB) (a0 : GV) (K : CK) (v1 : GV) : Bool :=
  X.h1 (gmake gp h.length 0 48 (noNew v1) (noNew v1) h) (F42_3 X a0 K)
def F42 (X : Ctx) (a0 : GV) (h : List GB) (K : CK) : Bool :=
  X.v1 (glen gp 48 (noNew (noNew (noNew (noNew a0))))) (F42_4 X h a0 K)
theorem F42_c (X : Ctx) (a0 : GV) (h : List GB) (K : CK) : gx2 X.toComb gp X.call X.lk 42 (X.n + 1) (Tryz.f42.body.getD .skip) { env := initE [a0], heap := h } (kRet X.toComb gp Tryz.f42.results.toList K) = F42 X a0 h K := by kernel_rfl
theorem F42_eq (n lk : Nat) (a0 : GV) (h : List GB) (K : CK) : gcall gp (n + 1) lk 42 [a0] h K = F42 (sX (gcall gp n) n lk) a0 h K :=
  (gcall_two (fn := Tryz.f42) (c := Tryz.f42.body.getD .skip) (by kernel_rfl) (by kernel_rfl) (by kernel_rfl)).trans (F42_c (sX (gcall gp n) n lk) a0 h K)

-- formulary/formularyref27.points
def F109_1 (X : Ctx) (K : CK) (v7 : GV) (h8 : List GB) : Bool :=
  K (noNew (noNew v7)) h8
def F109_2 (X : Ctx) (a2 : GV) (h5 : List GB) (K : CK) (v6 : GV) : Bool :=
  X.h1 (gappend gp X.lk 35 (noNew (noNew (noNew (noNew a2)))) (noNew v6) h5) (F109_1 X K)
def F109_3 (X : Ctx) (a2 : GV) (K : CK) (v4 : GV) (h5 : List GB) : Bool :=
  X.v1 (gbuildS gp 35 1 [(0, noNew v4)]) (F109_2 X a2 h5 K)
def B109_0_1 (X : Ctx) (again : St → Bool) (s : St) (v30 : GV) (h31 : List GB) (v32 : GV) : Bool :=
  again { env := ofL [(0, noNew (noNew (s.env 0))), (1, noNew (noNew (s.env 1))), (2, noNew (noNew (noNew v30))), (8, noNew (noNew (s.env 8))), (9, noNew (noNew (noNew v32)))], heap := h31 }
def B109_0_2 (X : Ctx) (s : St) (again : St → Bool) (v30 : GV) (h31 : List GB) : Bool :=
  X.v1 (gbin gp .add 3 (noNew (noNew (noNew (noNew (s.env 9))))) (gi 1)) (B109_0_1 X again s v30 h31)
def B109_0_3 (X : Ctx) (s : St) (again : St → Bool) (v28 : GV) (h29 : List GB) : Bool :=
  X.h1 (X.call X.lk 109 [noNew (noNew (noNew (noNew (s.env 0)))), noNew v28, noNew (noNew (noNew (noNew (s.env 2))))] h29) (B109_0_2 X s again)
def B109_0_4 (X : Ctx) (v25 : GV) (h26 : List GB) (s : St) (again : St → Bool) (v27 : GV) : Bool :=
  X.h1 (gappend gp X.lk 48 (noNew v25) (noNew v27) h26) (B109_0_3 X s again)
def B109_0_5 (X : Ctx) (s : St) (again : St → Bool) (v25 : GV) (h26 : List GB) : Bool :=
  X.v1 (gbuildS gp 48 1 [(0, noNew (noNew (noNew (noNew (s.env 9)))))]) (B109_0_4 X v25 h26 s again)
def B109_0_6 (X : Ctx) (s : St) (again : St → Bool) (K : GX → St → Bool) (v20 v21 v22 v23 v24 : GV) (t : Bool) : Bool :=
  bif t then X.h1 (gcall0 X.call 42 [noNew (noNew (noNew (noNew (s.env 1))))] s.heap) (B109_0_5 X s again) else K (.exit 0) { env := put (put (put (put (put (put (put (put (ofL [(0, noNew (s.env 0)), (1, noNew (s.env 1)), (2, noNew (s.env 2)), (8, noNew (s.env 8)), (9, noNew (s.env 9))]) (some 36) (noNew (noNew (noNew (s.env 9))))) (some 37) (noNew (noNew (noNew (s.env 8))))) (some 38) v20) (some 39) (noNew (noNew v20))) (some 40) v21) (some 41) v22) (some 42) v23) (some 43) v24, heap := s.heap }
def B109_0_7 (X : Ctx) (s : St) (again : St → Bool) (K : GX → St → Bool) (v20 v21 v22 v23 v24 : GV) : Bool :=
  X.b1 (asB (noNew v24)) (B109_0_6 X s again K v20 v21 v22 v23 v24)
def B109_0_8 (X : Ctx) (v20 : GV) (s : St) (again : St → Bool) (K : GX → St → Bool) (v21 v22 v23 : GV) : Bool :=
  X.v1 (gpick (noNew (noNew (noNew v20))) (noNew v23) (gb false)) (B109_0_7 X s again K v20 v21 v22 v23)
def B109_0_9 (X : Ctx) (v20 : GV) (s : St) (again : St → Bool) (K : GX → St → Bool) (v21 v22 : GV) : Bool :=
  X.g1 (wG true (noNew (noNew v20))) (gbin gp .leq 3 (noNew v22) (gi 200)) (B109_0_8 X v20 s again K v21 v22)
def B109_0_10 (X : Ctx) (v20 : GV) (s : St) (again : St → Bool) (K : GX → St → Bool) (v21 : GV) : Bool :=
  X.g1 (wG true (noNew (noNew v20))) (glen gp 35 (noNew v21)) (B109_0_9 X v20 s again K v21)
def B109_0_11 (X : Ctx) (s : St) (again : St → Bool) (K : GX → St → Bool) (v20 : GV) : Bool :=
  X.g1 (wG true (noNew (noNew v20))) (some (noNew (noNew (s.env 2)))) (B109_0_10 X v20 s again K)
def B109_0 (X : Ctx) (s : St) (again : St → Bool) (K : GX → St → Bool) : Bool :=
  X.v1 (gbin gp .leq 3 (noNew (noNew (noNew (noNew (s.env 9))))) (noNew (noNew (noNew (noNew (s.env 8)))))) (B109_0_11 X s again K)
def F109_4 (X : Ctx) (K : CK) (s33 : St) : Bool :=
  K (noNew (noNew (noNew (noNew (noNew (s33.env 2)))))) s33.heap
def F109_5 (X : Ctx) (a0 a1 a2 v13 : GV) (K : CK) (v18 : GV) (h19 : List GB) : Bool :=
  X.loop (B109_0 X) (X.n + 1) { env := ofL [(0, noNew (noNew a0)), (1, noNew (noNew a1)), (2, noNew (noNew a2)), (8, noNew (noNew (noNew v13))), (9, noNew (noNew (noNew v18)))], heap := h19 } (kBlk 0 (kSeq (F109_4 X K) (kRet X.toComb gp Tryz.f109.results.toList K)))
def F109_6 (X : Ctx) (a1 : GV) (h14 : List GB) (a0 a2 v13 : GV) (K : CK) (v17 : GV) : Bool :=
  X.h1 (gcall0 X.call 128 [noNew v17, noNew (noNew (noNew (noNew a1)))] h14) (F109_5 X a0 a1 a2 v13 K)
def F109_7 (X : Ctx) (h14 : List GB) (a1 a0 a2 v13 : GV) (K : CK) (v16 : GV) : Bool :=
  X.v1 (gload gp 123 (noNew v16) h14) (F109_6 X a1 h14 a0 a2 v13 K)
def F109_8 (X : Ctx) (h14 : List GB) (a1 a0 a2 v13 : GV) (K : CK) (v15 : GV) : Bool :=
  X.v1 (gfieldAddr gp 125 (noNew v15) 0) (F109_7 X h14 a1 a0 a2 v13 K)
def F109_9 (X : Ctx) (a0 v9 a1 a2 : GV) (K : CK) (v13 : GV) (h14 : List GB) : Bool :=
  X.v1 (gindexAddr gp 23 (noNew (noNew (noNew (noNew a0)))) (noNew (noNew (noNew (noNew (noNew v9)))))) (F109_8 X h14 a1 a0 a2 v13 K)
def F109_10 (X : Ctx) (a1 : GV) (h : List GB) (a0 v9 a2 : GV) (K : CK) (v12 : GV) : Bool :=
  X.h1 (gcall0 X.call 128 [noNew v12, noNew (noNew (noNew (noNew a1)))] h) (F109_9 X a0 v9 a1 a2 K)
def F109_11 (X : Ctx) (h : List GB) (a1 a0 v9 a2 : GV) (K : CK) (v11 : GV) : Bool :=
  X.v1 (gload gp 123 (noNew v11) h) (F109_10 X a1 h a0 v9 a2 K)
def F109_12 (X : Ctx) (h : List GB) (a1 a0 v9 a2 : GV) (K : CK) (v10 : GV) : Bool :=
  X.v1 (gfieldAddr gp 125 (noNew v10) 1) (F109_11 X h a1 a0 v9 a2 K)
def F109_13 (X : Ctx) (a0 : GV) (h : List GB) (a1 a2 : GV) (K : CK) (v9 : GV) : Bool :=
  X.v1 (gindexAddr gp 23 (noNew (noNew (noNew (noNew a0)))) (noNew (noNew (noNew (noNew (noNew v9)))))) (F109_12 X h a1 a0 v9 a2 K)
def F109_14 (X : Ctx) (a1 : GV) (h : List GB) (a2 : GV) (K : CK) (a0 : GV) (t : Bool) : Bool :=
  bif t then X.h1 (gcall0 X.call 42 [noNew (noNew (noNew (noNew a1)))] h) (F109_3 X a2 K) else X.v1 (glen gp 48 (noNew (noNew (noNew (noNew a1))))) (F109_13 X a0 h a1 a2 K)
def F109_15 (X : Ctx) (a1 : GV) (h : List GB) (a2 : GV) (K : CK) (a0 v3 : GV) : Bool :=
  X.b1 (asB (noNew v3)) (F109_14 X a1 h a2 K a0)
def F109_16 (X : Ctx) (v1 a1 : GV) (h : List GB) (a2 : GV) (K : CK) (a0 v2 : GV) : Bool :=
  X.v1 (gbin gp .eql 3 (noNew v1) (noNew v2)) (F109_15 X a1 h a2 K a0)
def F109_17 (X : Ctx) (a0 a1 : GV) (h : List GB) (a2 : GV) (K : CK) (v1 : GV) : Bool :=
  X.v1 (glen gp 23 (noNew (noNew (noNew (noNew a0))))) (F109_16 X v1 a1 h a2 K a0)
def F109 (X : Ctx) (a0 a1 a2 : GV) (h : List GB) (K : CK) : Bool :=
  X.v1 (glen gp 48 (noNew (noNew (noNew (noNew a1))))) (F109_17 X a0 a1 h a2 K)
theorem F109_c (X : Ctx) (a0 a1 a2 : GV) (h : List GB) (K : CK) : gx2 X.toComb gp X.call X.lk 109 (X.n + 1) (Tryz.f109.body.getD .skip) { env := initE [a0, a1, a2], heap := h } (kRet X.toComb gp Tryz.f109.results.toList K) = F109 X a0 a1 a2 h K := by kernel_rfl
theorem F109_eq (n lk : Nat) (a0 a1 a2 : GV) (h : List GB) (K : CK) : gcall gp (n + 1) lk 109 [a0, a1, a2] h K = F109 (sX (gcall gp n) n lk) a0 a1 a2 h K :=
  (gcall_two (fn := Tryz.f109) (c := Tryz.f109.body.getD .skip) (by kernel_rfl) (by kernel_rfl) (by kernel_rfl)).trans (F109_c (sX (gcall gp n) n lk) a0 a1 a2 h K)

-- formulary/formularyref27.Points
def F38_1 (X : Ctx) (K : CK) (v1 : GV) (h2 : List GB) : Bool :=
  K (noNew (noNew v1)) h2
def F38 (X : Ctx) (a0 : GV) (h : List GB) (K : CK) : Bool :=
  X.h1 (X.call X.lk 109 [noNew (noNew (noNew (noNew a0))), GV.d (.lit nilS), GV.d (.lit nilS)] h) (F38_1 X K)
theorem F38_c (X : Ctx) (a0 : GV) (h : List GB) (K : CK) : gx2 X.toComb gp X.call X.lk 38 (X.n + 1) (Tryz.f38.body.getD .skip) { env := initE [a0], heap := h } (kRet X.toComb gp Tryz.f38.results.toList K) = F38 X a0 h K := by kernel_rfl
theorem F38_eq (n lk : Nat) (a0 : GV) (h : List GB) (K : CK) : gcall gp (n + 1) lk 38 [a0] h K = F38 (sX (gcall gp n) n lk) a0 h K :=
  (gcall_two (fn := Tryz.f38) (c := Tryz.f38.body.getD .skip) (by kernel_rfl) (by kernel_rfl) (by kernel_rfl)).trans (F38_c (sX (gcall gp n) n lk) a0 h K)

-- formulary/formularyref27.CheckNest
def B35_0_1 (X : Ctx) (again : St → Bool) (s : St) (h17 : List GB) (v19 : GV) : Bool :=
  again { env := ofL [(0, noNew (noNew (s.env 0))), (4, noNew (noNew (noNew v19)))], heap := h17 }
def B35_0_2 (X : Ctx) (K : GX → St → Bool) (s : St) (v5 v6 v7 v8 v9 v10 v12 v13 v14 v15 v16 v18 : GV) (h17 : List GB) (again : St → Bool) (t : Bool) : Bool :=
  bif t then K .ret { env := put (put (put (put (put (put (put (put (put (put (put (put (put (put (put (put (put (put (put (put (put (put (put (put (put (put (put (put (ofL [(0, noNew (s.env 0)), (4, noNew (s.env 4))]) (some 15) (noNew (noNew (noNew (s.env 4))))) (some 16) (noNew (noNew (noNew (s.env 0))))) (some 17) v5) (some 18) v6) (some 21) (noNew (noNew (noNew (s.env 0))))) (some 22) (noNew (noNew (noNew (s.env 4))))) (some 23) v7) (some 24) v8) (some 25) v9) (some 26) (noNew (noNew (noNew (s.env 4))))) (some 27) v10) (some 5) (noNew (noNew v10))) (some 28) (noNew (noNew (noNew (noNew v10))))) (some 29) v12) (some 32) (noNew (noNew (noNew (s.env 0))))) (some 33) (noNew (noNew (noNew (s.env 4))))) (some 34) v13) (some 35) v14) (some 36) v15) (some 37) (noNew (noNew (noNew (s.env 4))))) (some 38) v16) (some 6) (noNew (noNew v16))) (some 39) (noNew (noNew (noNew (noNew v16))))) (some 40) v18) (some 41) (noNew (noNew (noNew (s.env 4))))) (some 42) (noNew (noNew (noNew (noNew v16))))) (some 2) (noNew (noNew (noNew (noNew (noNew (s.env 4))))))) (some 3) (noNew (noNew (noNew (noNew (noNew (noNew v16)))))), heap := h17 } else X.v1 (gbin gp .add 3 (noNew (noNew (noNew (noNew (s.env 4))))) (gi 1)) (B35_0_1 X again s h17)
def B35_0_3 (X : Ctx) (K : GX → St → Bool) (s : St) (v5 v6 v7 v8 v9 v10 v12 v13 v14 v15 v16 : GV) (h17 : List GB) (again : St → Bool) (v18 : GV) : Bool :=
  X.b1 (asB (noNew v18)) (B35_0_2 X K s v5 v6 v7 v8 v9 v10 v12 v13 v14 v15 v16 v18 h17 again)
def B35_0_4 (X : Ctx) (K : GX → St → Bool) (s : St) (v5 v6 v7 v8 v9 v10 v12 v13 v14 v15 : GV) (again : St → Bool) (v16 : GV) (h17 : List GB) : Bool :=
  X.v1 (gbin gp .neq 3 (noNew (noNew (noNew (noNew (noNew v16))))) (gi 0)) (B35_0_3 X K s v5 v6 v7 v8 v9 v10 v12 v13 v14 v15 v16 h17 again)
def B35_0_5 (X : Ctx) (s : St) (h11 : List GB) (K : GX → St → Bool) (v5 v6 v7 v8 v9 v10 v12 v13 v14 : GV) (again : St → Bool) (v15 : GV) : Bool :=
  X.h1 (gcall0 X.call 107 [noNew v15, noNew (noNew (noNew (noNew (s.env 4))))] h11) (B35_0_4 X K s v5 v6 v7 v8 v9 v10 v12 v13 v14 v15 again)
def B35_0_6 (X : Ctx) (h11 : List GB) (s : St) (K : GX → St → Bool) (v5 v6 v7 v8 v9 v10 v12 v13 : GV) (again : St → Bool) (v14 : GV) : Bool :=
  X.v1 (gload gp 123 (noNew v14) h11) (B35_0_5 X s h11 K v5 v6 v7 v8 v9 v10 v12 v13 v14 again)
def B35_0_7 (X : Ctx) (h11 : List GB) (s : St) (K : GX → St → Bool) (v5 v6 v7 v8 v9 v10 v12 : GV) (again : St → Bool) (v13 : GV) : Bool :=
  X.v1 (gfieldAddr gp 125 (noNew v13) 1) (B35_0_6 X h11 s K v5 v6 v7 v8 v9 v10 v12 v13 again)
def B35_0_8 (X : Ctx) (K : GX → St → Bool) (s : St) (v5 v6 v7 v8 v9 v10 v12 : GV) (h11 : List GB) (again : St → Bool) (t : Bool) : Bool :=
  bif t then K .ret { env := put (put (put (put (put (put (put (put (put (put (put (put (put (put (put (put (put (put (ofL [(0, noNew (s.env 0)), (4, noNew (s.env 4))]) (some 15) (noNew (noNew (noNew (s.env 4))))) (some 16) (noNew (noNew (noNew (s.env 0))))) (some 17) v5) (some 18) v6) (some 21) (noNew (noNew (noNew (s.env 0))))) (some 22) (noNew (noNew (noNew (s.env 4))))) (some 23) v7) (some 24) v8) (some 25) v9) (some 26) (noNew (noNew (noNew (s.env 4))))) (some 27) v10) (some 5) (noNew (noNew v10))) (some 28) (noNew (noNew (noNew (noNew v10))))) (some 29) v12) (some 30) (noNew (noNew (noNew (s.env 4))))) (some 31) (noNew (noNew (noNew (noNew v10))))) (some 2) (noNew (noNew (noNew (noNew (noNew (s.env 4))))))) (some 3) (noNew (noNew (noNew (noNew (noNew (noNew v10)))))), heap := h11 } else X.v1 (gindexAddr gp 23 (noNew (noNew (noNew (noNew (s.env 0))))) (noNew (noNew (noNew (noNew (s.env 4)))))) (B35_0_7 X h11 s K v5 v6 v7 v8 v9 v10 v12 again)
def B35_0_9 (X : Ctx) (K : GX → St → Bool) (s : St) (v5 v6 v7 v8 v9 v10 : GV) (h11 : List GB) (again : St → Bool) (v12 : GV) : Bool :=
  X.b1 (asB (noNew v12)) (B35_0_8 X K s v5 v6 v7 v8 v9 v10 v12 h11 again)
def B35_0_10 (X : Ctx) (K : GX → St → Bool) (s : St) (v5 v6 v7 v8 v9 : GV) (again : St → Bool) (v10 : GV) (h11 : List GB) : Bool :=
  X.v1 (gbin gp .neq 3 (noNew (noNew (noNew (noNew (noNew v10))))) (gi 0)) (B35_0_9 X K s v5 v6 v7 v8 v9 v10 h11 again)
def B35_0_11 (X : Ctx) (s : St) (K : GX → St → Bool) (v5 v6 v7 v8 : GV) (again : St → Bool) (v9 : GV) : Bool :=
  X.h1 (gcall0 X.call 107 [noNew v9, noNew (noNew (noNew (noNew (s.env 4))))] s.heap) (B35_0_10 X K s v5 v6 v7 v8 v9 again)
def B35_0_12 (X : Ctx) (s : St) (K : GX → St → Bool) (v5 v6 v7 : GV) (again : St → Bool) (v8 : GV) : Bool :=
  X.v1 (gload gp 123 (noNew v8) s.heap) (B35_0_11 X s K v5 v6 v7 v8 again)
def B35_0_13 (X : Ctx) (s : St) (K : GX → St → Bool) (v5 v6 : GV) (again : St → Bool) (v7 : GV) : Bool :=
  X.v1 (gfieldAddr gp 125 (noNew v7) 0) (B35_0_12 X s K v5 v6 v7 again)
def B35_0_14 (X : Ctx) (s : St) (K : GX → St → Bool) (v5 v6 : GV) (again : St → Bool) (t : Bool) : Bool :=
  bif t then X.v1 (gindexAddr gp 23 (noNew (noNew (noNew (noNew (s.env 0))))) (noNew (noNew (noNew (noNew (s.env 4)))))) (B35_0_13 X s K v5 v6 again) else K (.exit 0) { env := put (put (put (put (ofL [(0, noNew (s.env 0)), (4, noNew (s.env 4))]) (some 15) (noNew (noNew (noNew (s.env 4))))) (some 16) (noNew (noNew (noNew (s.env 0))))) (some 17) v5) (some 18) v6, heap := s.heap }
def B35_0_15 (X : Ctx) (s : St) (K : GX → St → Bool) (v5 : GV) (again : St → Bool) (v6 : GV) : Bool :=
  X.b1 (asB (noNew v6)) (B35_0_14 X s K v5 v6 again)
def B35_0_16 (X : Ctx) (s : St) (K : GX → St → Bool) (again : St → Bool) (v5 : GV) : Bool :=
  X.v1 (gbin gp .lss 3 (noNew (noNew (noNew (noNew (s.env 4))))) (noNew v5)) (B35_0_15 X s K v5 again)
def B35_0 (X : Ctx) (s : St) (again : St → Bool) (K : GX → St → Bool) : Bool :=
  X.v1 (glen gp 23 (noNew (noNew (noNew (noNew (s.env 0)))))) (B35_0_16 X s K again)
def B35_1_1 (X : Ctx) (again : St → Bool) (s : St) (h37 : List GB) (v40 : GV) : Bool :=
  again { env := ofL [(0, noNew (noNew (s.env 0))), (7, noNew (noNew (s.env 7))), (8, noNew (noNew (noNew v40)))], heap := h37 }
def B35_1_2 (X : Ctx) (K : GX → St → Bool) (s : St) (v23 v24 v25 v26 v27 v28 v30 v31 v32 v33 v34 v35 v36 v38 v39 : GV) (h37 : List GB) (again : St → Bool) (t : Bool) : Bool :=
  bif t then K .ret { env := put (put (put (put (put (put (put (put (put (put (put (put (put (put (put (put (put (put (put (put (put (put (ofL [(0, noNew (s.env 0)), (7, noNew (s.env 7)), (8, noNew (s.env 8))]) (some 45) (noNew (noNew (noNew (s.env 8))))) (some 46) (noNew (noNew (noNew (s.env 7))))) (some 47) v23) (some 48) v24) (some 51) (noNew (noNew (noNew (s.env 7))))) (some 52) (noNew (noNew (noNew (s.env 8))))) (some 53) v25) (some 54) v26) (some 55) v27) (some 56) v28) (some 57) v30) (some 58) (noNew (noNew v30))) (some 59) v31) (some 60) v32) (some 61) v33) (some 62) v34) (some 63) v35) (some 64) v36) (some 65) v38) (some 66) v39) (some 2) (noNew (gi 0))) (some 3) (noNew (gi 8)), heap := h37 } else X.v1 (gbin gp .add 3 (noNew (noNew (noNew (noNew (s.env 8))))) (gi 1)) (B35_1_1 X again s h37)
def B35_1_3 (X : Ctx) (K : GX → St → Bool) (s : St) (v23 v24 v25 v26 v27 v28 v30 v31 v32 v33 v34 v35 v36 v38 : GV) (h37 : List GB) (again : St → Bool) (v39 : GV) : Bool :=
  X.b1 (asB (noNew v39)) (B35_1_2 X K s v23 v24 v25 v26 v27 v28 v30 v31 v32 v33 v34 v35 v36 v38 v39 h37 again)
def B35_1_4 (X : Ctx) (v30 : GV) (K : GX → St → Bool) (s : St) (v23 v24 v25 v26 v27 v28 v31 v32 v33 v34 v35 v36 : GV) (h37 : List GB) (again : St → Bool) (v38 : GV) : Bool :=
  X.v1 (gpick (noNew (noNew (noNew v30))) (gb true) (noNew v38)) (B35_1_3 X K s v23 v24 v25 v26 v27 v28 v30 v31 v32 v33 v34 v35 v36 v38 h37 again)
def B35_1_5 (X : Ctx) (v30 : GV) (K : GX → St → Bool) (s : St) (v23 v24 v25 v26 v27 v28 v31 v32 v33 v34 v35 : GV) (again : St → Bool) (v36 : GV) (h37 : List GB) : Bool :=
  X.g1 (wG false (noNew (noNew v30))) (gnot (noNew v36)) (B35_1_4 X v30 K s v23 v24 v25 v26 v27 v28 v31 v32 v33 v34 v35 v36 h37 again)
def B35_1_6 (X : Ctx) (v30 : GV) (h29 : List GB) (K : GX → St → Bool) (s : St) (v23 v24 v25 v26 v27 v28 v31 v32 v33 v34 : GV) (again : St → Bool) (v35 : GV) : Bool :=
  X.gh (wG false (noNew (noNew v30))) (gcall0 X.call 54 [noNew v35, gi (-1000), gi 1000] h29) h29 (B35_1_5 X v30 K s v23 v24 v25 v26 v27 v28 v31 v32 v33 v34 v35 again)
def B35_1_7 (X : Ctx) (v30 : GV) (h29 : List GB) (K : GX → St → Bool) (s : St) (v23 v24 v25 v26 v27 v28 v31 v32 v33 : GV) (again : St → Bool) (v34 : GV) : Bool :=
  X.g1 (wG false (noNew (noNew v30))) (gload gp 3 (noNew v34) h29) (B35_1_6 X v30 h29 K s v23 v24 v25 v26 v27 v28 v31 v32 v33 v34 again)
def B35_1_8 (X : Ctx) (v30 : GV) (h29 : List GB) (K : GX → St → Bool) (s : St) (v23 v24 v25 v26 v27 v28 v31 v32 : GV) (again : St → Bool) (v33 : GV) : Bool :=
  X.g1 (wG false (noNew (noNew v30))) (gfieldAddr gp 98 (noNew v33) 1) (B35_1_7 X v30 h29 K s v23 v24 v25 v26 v27 v28 v31 v32 v33 again)
def B35_1_9 (X : Ctx) (v30 v31 : GV) (h29 : List GB) (K : GX → St → Bool) (s : St) (v23 v24 v25 v26 v27 v28 : GV) (again : St → Bool) (v32 : GV) : Bool :=
  X.g1 (wG false (noNew (noNew v30))) (gindexAddr gp 56 (noNew v31) (noNew v32)) (B35_1_8 X v30 h29 K s v23 v24 v25 v26 v27 v28 v31 v32 again)
def B35_1_10 (X : Ctx) (v30 : GV) (s : St) (h29 : List GB) (K : GX → St → Bool) (v23 v24 v25 v26 v27 v28 : GV) (again : St → Bool) (v31 : GV) : Bool :=
  X.g1 (wG false (noNew (noNew v30))) (some (noNew (noNew (s.env 8)))) (B35_1_9 X v30 v31 h29 K s v23 v24 v25 v26 v27 v28 again)
def B35_1_11 (X : Ctx) (s : St) (h29 : List GB) (K : GX → St → Bool) (v23 v24 v25 v26 v27 v28 : GV) (again : St → Bool) (v30 : GV) : Bool :=
  X.g1 (wG false (noNew (noNew v30))) (some (noNew (noNew (s.env 7)))) (B35_1_10 X v30 s h29 K v23 v24 v25 v26 v27 v28 again)
def B35_1_12 (X : Ctx) (s : St) (K : GX → St → Bool) (v23 v24 v25 v26 v27 : GV) (again : St → Bool) (v28 : GV) (h29 : List GB) : Bool :=
  X.v1 (gnot (noNew v28)) (B35_1_11 X s h29 K v23 v24 v25 v26 v27 v28 again)
def B35_1_13 (X : Ctx) (s : St) (K : GX → St → Bool) (v23 v24 v25 v26 : GV) (again : St → Bool) (v27 : GV) : Bool :=
  X.h1 (gcall0 X.call 54 [noNew v27, gi (-1000), gi 1000] s.heap) (B35_1_12 X s K v23 v24 v25 v26 v27 again)
def B35_1_14 (X : Ctx) (s : St) (K : GX → St → Bool) (v23 v24 v25 : GV) (again : St → Bool) (v26 : GV) : Bool :=
  X.v1 (gload gp 3 (noNew v26) s.heap) (B35_1_13 X s K v23 v24 v25 v26 again)
def B35_1_15 (X : Ctx) (s : St) (K : GX → St → Bool) (v23 v24 : GV) (again : St → Bool) (v25 : GV) : Bool :=
  X.v1 (gfieldAddr gp 98 (noNew v25) 0) (B35_1_14 X s K v23 v24 v25 again)
def B35_1_16 (X : Ctx) (s : St) (K : GX → St → Bool) (v23 v24 : GV) (again : St → Bool) (t : Bool) : Bool :=
  bif t then X.v1 (gindexAddr gp 56 (noNew (noNew (noNew (noNew (s.env 7))))) (noNew (noNew (noNew (noNew (s.env 8)))))) (B35_1_15 X s K v23 v24 again) else K (.exit 2) { env := put (put (put (put (ofL [(0, noNew (s.env 0)), (7, noNew (s.env 7)), (8, noNew (s.env 8))]) (some 45) (noNew (noNew (noNew (s.env 8))))) (some 46) (noNew (noNew (noNew (s.env 7))))) (some 47) v23) (some 48) v24, heap := s.heap }
def B35_1_17 (X : Ctx) (s : St) (K : GX → St → Bool) (v23 : GV) (again : St → Bool) (v24 : GV) : Bool :=
  X.b1 (asB (noNew v24)) (B35_1_16 X s K v23 v24 again)
def B35_1_18 (X : Ctx) (s : St) (K : GX → St → Bool) (again : St → Bool) (v23 : GV) : Bool :=
  X.v1 (gbin gp .lss 3 (noNew (noNew (noNew (noNew (s.env 8))))) (noNew v23)) (B35_1_17 X s K v23 again)
def B35_1 (X : Ctx) (s : St) (again : St → Bool) (K : GX → St → Bool) : Bool :=
  X.v1 (glen gp 56 (noNew (noNew (noNew (noNew (s.env 7)))))) (B35_1_18 X s K again)
def F35_1 (X : Ctx) (K : CK) (h43 : List GB) (t : Bool) : Bool :=
  bif t then K (GV.tup [noNew (gi 0), noNew (gi 8)]) h43 else K (GV.tup [noNew (gi 0), noNew (gi 0)]) h43
def F35_2 (X : Ctx) (K : CK) (h43 : List GB) (v45 : GV) : Bool :=
  X.b1 (asB (noNew v45)) (F35_1 X K h43)
def F35_3 (X : Ctx) (K : CK) (h43 : List GB) (v44 : GV) : Bool :=
  X.v1 (gbin gp .gtr 3 (noNew v44) (gi 200)) (F35_2 X K h43)
def F35_4 (X : Ctx) (K : CK) (v42 : GV) (h43 : List GB) : Bool :=
  X.v1 (glen gp 35 (noNew v42)) (F35_3 X K h43)
def F35_5 (X : Ctx) (K : CK) (s41 : St) : Bool :=
  X.h1 (gcall0 X.call 38 [noNew (noNew (noNew (noNew (s41.env 0))))] s41.heap) (F35_4 X K)
def F35_6 (X : Ctx) (s20 : St) (K : CK) (v21 : GV) (h22 : List GB) : Bool :=
  X.loop (B35_1 X) (X.n + 1) { env := ofL [(0, noNew (noNew (s20.env 0))), (7, noNew (noNew (noNew v21))), (8, noNew (noNew (gi 0)))], heap := h22 } (kBlk 2 (kSeq (F35_5 X K) (kRet X.toComb gp Tryz.f35.results.toList K)))
def F35_7 (X : Ctx) (K : CK) (s20 : St) : Bool :=
  X.h1 (gcall0 X.call 37 [noNew (noNew (noNew (noNew (s20.env 0))))] s20.heap) (F35_6 X s20 K)
def F35_8 (X : Ctx) (K : CK) (h : List GB) (a0 : GV) (t : Bool) : Bool :=
  bif t then K (GV.tup [noNew (gi 0), noNew (gi 8)]) h else X.loop (B35_0 X) (X.n + 1) { env := ofL [(0, noNew (noNew a0)), (4, noNew (noNew (gi 0)))], heap := h } (kBlk 0 (kSeq (F35_7 X K) (kRet X.toComb gp Tryz.f35.results.toList K)))
def F35_9 (X : Ctx) (K : CK) (h : List GB) (a0 v4 : GV) : Bool :=
  X.b1 (asB (noNew v4)) (F35_8 X K h a0)
def F35_10 (X : Ctx) (K : CK) (h : List GB) (a0 v3 : GV) : Bool :=
  X.v1 (gbin gp .gtr 3 (noNew v3) (gi 3)) (F35_9 X K h a0)
def F35_11 (X : Ctx) (K : CK) (h : List GB) (a0 : GV) (t : Bool) : Bool :=
  bif t then K (GV.tup [noNew (gi 0), noNew (gi 17)]) h else X.v1 (glen gp 23 (noNew (noNew (noNew (noNew a0))))) (F35_10 X K h a0)
def F35_12 (X : Ctx) (K : CK) (h : List GB) (a0 v2 : GV) : Bool :=
  X.b1 (asB (noNew v2)) (F35_11 X K h a0)
def F35_13 (X : Ctx) (K : CK) (h : List GB) (a0 v1 : GV) : Bool :=
  X.v1 (gbin gp .eql 3 (noNew v1) (gi 0)) (F35_12 X K h a0)
def F35 (X : Ctx) (a0 : GV) (h : List GB) (K : CK) : Bool :=
  X.v1 (glen gp 23 (noNew (noNew (noNew (noNew a0))))) (F35_13 X K h a0)
theorem F35_c (X : Ctx) (a0 : GV) (h : List GB) (K : CK) : gx2 X.toComb gp X.call X.lk 35 (X.n + 1) (Tryz.f35.body.getD .skip) { env := initE [a0], heap := h } (kRet X.toComb gp Tryz.f35.results.toList K) = F35 X a0 h K := by kernel_rfl
theorem F35_eq (n lk : Nat) (a0 : GV) (h : List GB) (K : CK) : gcall gp (n + 1) lk 35 [a0] h K = F35 (sX (gcall gp n) n lk) a0 h K :=
  (gcall_two (fn := Tryz.f35) (c := Tryz.f35.body.getD .skip) (by kernel_rfl) (by kernel_rfl) (by kernel_rfl)).trans (F35_c (sX (gcall gp n) n lk) a0 h K)

-- formulary/formularybase.Before
def F82_1 (X : Ctx) (K : CK) (h : List GB) (v9 : GV) : Bool :=
  K (noNew (noNew v9)) h
def F82_2 (X : Ctx) (v7 : GV) (K : CK) (h : List GB) (v8 : GV) : Bool :=
  X.v1 (gbin gp .lss 3 (noNew v7) (noNew v8)) (F82_1 X K h)
def F82_3 (X : Ctx) (a1 : GV) (K : CK) (h : List GB) (v7 : GV) : Bool :=
  X.v1 (glen gp 48 (noNew (noNew (noNew (noNew a1))))) (F82_2 X v7 K h)
def F82_4 (X : Ctx) (K : CK) (h28 : List GB) (v30 : GV) : Bool :=
  K (noNew (noNew v30)) h28
def F82_5 (X : Ctx) (v14 : GV) (K : CK) (h28 : List GB) (v29 : GV) : Bool :=
  X.v1 (gpick (noNew (noNew (noNew v14))) (gb true) (noNew v29)) (F82_4 X K h28)
def F82_6 (X : Ctx) (v14 v22 : GV) (K : CK) (v27 : GV) (h28 : List GB) : Bool :=
  X.g1 (wG false (noNew (noNew v14))) (gpick (noNew v22) (noNew v27) (gb false)) (F82_5 X v14 K h28)
def F82_7 (X : Ctx) (v22 v24 : GV) (h : List GB) (v14 : GV) (K : CK) (v26 : GV) : Bool :=
  X.gh (wG true v22) (gcall0 X.call 82 [noNew v24, noNew v26] h) h (F82_6 X v14 v22 K)
def F82_8 (X : Ctx) (v22 v24 : GV) (h : List GB) (v14 : GV) (K : CK) (v25 : GV) : Bool :=
  X.g1 (wG true v22) (gslice gp 48 (noNew v25) (some (gi 1)) none none) (F82_7 X v22 v24 h v14 K)
def F82_9 (X : Ctx) (v22 a1 : GV) (h : List GB) (v14 : GV) (K : CK) (v24 : GV) : Bool :=
  X.g1 (wG true v22) (some (noNew (noNew a1))) (F82_8 X v22 v24 h v14 K)
def F82_10 (X : Ctx) (v22 a1 : GV) (h : List GB) (v14 : GV) (K : CK) (v23 : GV) : Bool :=
  X.g1 (wG true v22) (gslice gp 48 (noNew v23) (some (gi 1)) none none) (F82_9 X v22 a1 h v14 K)
def F82_11 (X : Ctx) (a0 a1 : GV) (h : List GB) (v14 : GV) (K : CK) (v22 : GV) : Bool :=
  X.g1 (wG true v22) (some (noNew (noNew a0))) (F82_10 X v22 a1 h v14 K)
def F82_12 (X : Ctx) (v14 a0 a1 : GV) (h : List GB) (K : CK) (v21 : GV) : Bool :=
  X.g1 (wG false (noNew (noNew v14))) (some (noNew v21)) (F82_11 X a0 a1 h v14 K)
def F82_13 (X : Ctx) (v14 v17 a0 a1 : GV) (h : List GB) (K : CK) (v20 : GV) : Bool :=
  X.g1 (wG false (noNew (noNew v14))) (gbin gp .eql 3 (noNew v17) (noNew v20)) (F82_12 X v14 a0 a1 h K)
def F82_14 (X : Ctx) (v14 : GV) (h : List GB) (v17 a0 a1 : GV) (K : CK) (v19 : GV) : Bool :=
  X.g1 (wG false (noNew (noNew v14))) (gload gp 3 (noNew v19) h) (F82_13 X v14 v17 a0 a1 h K)
def F82_15 (X : Ctx) (v14 : GV) (h : List GB) (v17 a0 a1 : GV) (K : CK) (v18 : GV) : Bool :=
  X.g1 (wG false (noNew (noNew v14))) (gindexAddr gp 48 (noNew v18) (gi 0)) (F82_14 X v14 h v17 a0 a1 K)
def F82_16 (X : Ctx) (v14 a1 : GV) (h : List GB) (a0 : GV) (K : CK) (v17 : GV) : Bool :=
  X.g1 (wG false (noNew (noNew v14))) (some (noNew (noNew a1))) (F82_15 X v14 h v17 a0 a1 K)
def F82_17 (X : Ctx) (v14 : GV) (h : List GB) (a1 a0 : GV) (K : CK) (v16 : GV) : Bool :=
  X.g1 (wG false (noNew (noNew v14))) (gload gp 3 (noNew v16) h) (F82_16 X v14 a1 h a0 K)
def F82_18 (X : Ctx) (v14 : GV) (h : List GB) (a1 a0 : GV) (K : CK) (v15 : GV) : Bool :=
  X.g1 (wG false (noNew (noNew v14))) (gindexAddr gp 48 (noNew v15) (gi 0)) (F82_17 X v14 h a1 a0 K)
def F82_19 (X : Ctx) (a0 : GV) (h : List GB) (a1 : GV) (K : CK) (v14 : GV) : Bool :=
  X.g1 (wG false (noNew (noNew v14))) (some (noNew (noNew a0))) (F82_18 X v14 h a1 a0 K)
def F82_20 (X : Ctx) (v11 a0 : GV) (h : List GB) (a1 : GV) (K : CK) (v13 : GV) : Bool :=
  X.v1 (gbin gp .lss 3 (noNew v11) (noNew v13)) (F82_19 X a0 h a1 K)
def F82_21 (X : Ctx) (h : List GB) (v11 a0 a1 : GV) (K : CK) (v12 : GV) : Bool :=
  X.v1 (gload gp 3 (noNew v12) h) (F82_20 X v11 a0 h a1 K)
def F82_22 (X : Ctx) (a1 : GV) (h : List GB) (a0 : GV) (K : CK) (v11 : GV) : Bool :=
  X.v1 (gindexAddr gp 48 (noNew (noNew (noNew (noNew a1)))) (gi 0)) (F82_21 X h v11 a0 a1 K)
def F82_23 (X : Ctx) (h : List GB) (a1 a0 : GV) (K : CK) (v10 : GV) : Bool :=
  X.v1 (gload gp 3 (noNew v10) h) (F82_22 X a1 h a0 K)
def F82_24 (X : Ctx) (a0 a1 : GV) (K : CK) (h : List GB) (t : Bool) : Bool :=
  bif t then X.v1 (glen gp 48 (noNew (noNew (noNew (noNew a0))))) (F82_3 X a1 K h) else X.v1 (gindexAddr gp 48 (noNew (noNew (noNew (noNew a0)))) (gi 0)) (F82_23 X h a1 a0 K)
def F82_25 (X : Ctx) (a0 a1 : GV) (K : CK) (h : List GB) (v6 : GV) : Bool :=
  X.b1 (asB (noNew v6)) (F82_24 X a0 a1 K h)
def F82_26 (X : Ctx) (v2 a0 a1 : GV) (K : CK) (h : List GB) (v5 : GV) : Bool :=
  X.v1 (gpick (noNew (noNew (noNew v2))) (gb true) (noNew v5)) (F82_25 X a0 a1 K h)
def F82_27 (X : Ctx) (v2 a0 a1 : GV) (K : CK) (h : List GB) (v4 : GV) : Bool :=
  X.g1 (wG false (noNew (noNew v2))) (gbin gp .eql 3 (noNew v4) (gi 0)) (F82_26 X v2 a0 a1 K h)
def F82_28 (X : Ctx) (v2 a0 a1 : GV) (K : CK) (h : List GB) (v3 : GV) : Bool :=
  X.g1 (wG false (noNew (noNew v2))) (glen gp 48 (noNew v3)) (F82_27 X v2 a0 a1 K h)
def F82_29 (X : Ctx) (a1 a0 : GV) (K : CK) (h : List GB) (v2 : GV) : Bool :=
  X.g1 (wG false (noNew (noNew v2))) (some (noNew (noNew a1))) (F82_28 X v2 a0 a1 K h)
def F82_30 (X : Ctx) (a1 a0 : GV) (K : CK) (h : List GB) (v1 : GV) : Bool :=
  X.v1 (gbin gp .eql 3 (noNew v1) (gi 0)) (F82_29 X a1 a0 K h)
def F82 (X : Ctx) (a0 a1 : GV) (h : List GB) (K : CK) : Bool :=
  X.v1 (glen gp 48 (noNew (noNew (noNew (noNew a0))))) (F82_30 X a1 a0 K h)
theorem F82_c (X : Ctx) (a0 a1 : GV) (h : List GB) (K : CK) : gx2 X.toComb gp X.call X.lk 82 (X.n + 1) (Tryz.f82.body.getD .skip) { env := initE [a0, a1], heap := h } (kRet X.toComb gp Tryz.f82.results.toList K) = F82 X a0 a1 h K := by kernel_rfl
theorem F82_eq (n lk : Nat) (a0 a1 : GV) (h : List GB) (K : CK) : gcall gp (n + 1) lk 82 [a0, a1] h K = F82 (sX (gcall gp n) n lk) a0 a1 h K :=
  (gcall_two (fn := Tryz.f82) (c := Tryz.f82.body.getD .skip) (by kernel_rfl) (by kernel_rfl) (by kernel_rfl)).trans (F82_c (sX (gcall gp n) n lk) a0 a1 h K)

-- formulary/formularybase.Ints
def F31_1 (X : Ctx) (K : CK) (h13 : List GB) (v15 : GV) : Bool :=
  K (noNew (noNew v15)) h13
def F31_2 (X : Ctx) (v9 : GV) (K : CK) (h13 : List GB) (v14 : GV) : Bool :=
  X.v1 (gpick (noNew (noNew (noNew v9))) (noNew v14) (gb false)) (F31_1 X K h13)
def F31_3 (X : Ctx) (v9 : GV) (K : CK) (v12 : GV) (h13 : List GB) : Bool :=
  X.g1 (wG true (noNew (noNew v9))) (gnot (noNew v12)) (F31_2 X v9 K h13)
def F31_4 (X : Ctx) (v9 v10 : GV) (h7 : List GB) (K : CK) (v11 : GV) : Bool :=
  X.gh (wG true (noNew (noNew v9))) (gcall0 X.call 82 [noNew v10, noNew v11] h7) h7 (F31_3 X v9 K)
def F31_5 (X : Ctx) (v9 a0 : GV) (h7 : List GB) (K : CK) (v10 : GV) : Bool :=
  X.g1 (wG true (noNew (noNew v9))) (some (noNew (noNew a0))) (F31_4 X v9 v10 h7 K)
def F31_6 (X : Ctx) (a1 a0 : GV) (h7 : List GB) (K : CK) (v9 : GV) : Bool :=
  X.g1 (wG true (noNew (noNew v9))) (some (noNew (noNew a1))) (F31_5 X v9 a0 h7 K)
def F31_7 (X : Ctx) (v3 a1 a0 : GV) (h7 : List GB) (K : CK) (v8 : GV) : Bool :=
  X.v1 (gpick (noNew (noNew (noNew v3))) (noNew v8) (gb false)) (F31_6 X a1 a0 h7 K)
def F31_8 (X : Ctx) (v3 a1 a0 : GV) (K : CK) (v6 : GV) (h7 : List GB) : Bool :=
  X.g1 (wG true (noNew (noNew v3))) (gnot (noNew v6)) (F31_7 X v3 a1 a0 h7 K)
def F31_9 (X : Ctx) (v3 v4 : GV) (h : List GB) (a1 a0 : GV) (K : CK) (v5 : GV) : Bool :=
  X.gh (wG true (noNew (noNew v3))) (gcall0 X.call 82 [noNew v4, noNew v5] h) h (F31_8 X v3 a1 a0 K)
def F31_10 (X : Ctx) (v3 a1 : GV) (h : List GB) (a0 : GV) (K : CK) (v4 : GV) : Bool :=
  X.g1 (wG true (noNew (noNew v3))) (some (noNew (noNew a1))) (F31_9 X v3 v4 h a1 a0 K)
def F31_11 (X : Ctx) (a0 a1 : GV) (h : List GB) (K : CK) (v3 : GV) : Bool :=
  X.g1 (wG true (noNew (noNew v3))) (some (noNew (noNew a0))) (F31_10 X v3 a1 h a0 K)
def F31_12 (X : Ctx) (v1 a0 a1 : GV) (h : List GB) (K : CK) (v2 : GV) : Bool :=
  X.v1 (gbin gp .eql 3 (noNew v1) (noNew v2)) (F31_11 X a0 a1 h K)
def F31_13 (X : Ctx) (a1 a0 : GV) (h : List GB) (K : CK) (v1 : GV) : Bool :=
  X.v1 (glen gp 48 (noNew (noNew (noNew (noNew a1))))) (F31_12 X v1 a0 a1 h K)
def F31 (X : Ctx) (a0 a1 : GV) (h : List GB) (K : CK) : Bool :=
  X.v1 (glen gp 48 (noNew (noNew (noNew (noNew a0))))) (F31_13 X a1 a0 h K)
theorem F31_c (X : Ctx) (a0 a1 : GV) (h : List GB) (K : CK) : gx2 X.toComb gp X.call X.lk 31 (X.n + 1) (Tryz.f31.body.getD .skip) { env := initE [a0, a1], heap := h } (kRet X.toComb gp Tryz.f31.results.toList K) = F31 X a0 a1 h K := by kernel_rfl
theorem F31_eq (n lk : Nat) (a0 a1 : GV) (h : List GB) (K : CK) : gcall gp (n + 1) lk 31 [a0, a1] h K = F31 (sX (gcall gp n) n lk) a0 a1 h K :=
  (gcall_two (fn := Tryz.f31) (c := Tryz.f31.body.getD .skip) (by kernel_rfl) (by kernel_rfl) (by kernel_rfl)).trans (F31_c (sX (gcall gp n) n lk) a0 a1 h K)

-- formulary/formularybase.Lists
def B20_0_1 (X : Ctx) (again : St → Bool) (s : St) (v16 : GV) (h15 : List GB) (v17 : GV) : Bool :=
  again { env := ofL [(0, noNew (noNew (s.env 0))), (1, noNew (noNew (s.env 1))), (5, noNew (noNew (noNew v16))), (13, noNew (noNew (s.env 13))), (14, noNew (noNew (noNew v17)))], heap := h15 }
def B20_0_2 (X : Ctx) (s : St) (again : St → Bool) (h15 : List GB) (v16 : GV) : Bool :=
  X.v1 (gbin gp .add 3 (noNew (noNew (s.env 14))) (gi 1)) (B20_0_1 X again s v16 h15)
def B20_0_3 (X : Ctx) (s : St) (again : St → Bool) (v14 : GV) (h15 : List GB) : Bool :=
  X.v1 (gpick (noNew (noNew (noNew (noNew (noNew (noNew (s.env 5))))))) (noNew v14) (gb false)) (B20_0_2 X s again h15)
def B20_0_4 (X : Ctx) (s : St) (v9 : GV) (again : St → Bool) (v13 : GV) : Bool :=
  X.gh (wG true (noNew (noNew (noNew (noNew (noNew (s.env 5))))))) (gcall0 X.call 31 [noNew v9, noNew v13] s.heap) s.heap (B20_0_3 X s again)
def B20_0_5 (X : Ctx) (s : St) (v9 : GV) (again : St → Bool) (v12 : GV) : Bool :=
  X.g1 (wG true (noNew (noNew (noNew (noNew (noNew (s.env 5))))))) (gload gp 48 (noNew v12) s.heap) (B20_0_4 X s v9 again)
def B20_0_6 (X : Ctx) (s : St) (v10 v9 : GV) (again : St → Bool) (v11 : GV) : Bool :=
  X.g1 (wG true (noNew (noNew (noNew (noNew (noNew (s.env 5))))))) (gindexAddr gp 35 (noNew v10) (noNew v11)) (B20_0_5 X s v9 again)
def B20_0_7 (X : Ctx) (s : St) (v9 : GV) (again : St → Bool) (v10 : GV) : Bool :=
  X.g1 (wG true (noNew (noNew (noNew (noNew (noNew (s.env 5))))))) (some (noNew (noNew (noNew (noNew (noNew (noNew (s.env 14)))))))) (B20_0_6 X s v10 v9 again)
def B20_0_8 (X : Ctx) (s : St) (again : St → Bool) (v9 : GV) : Bool :=
  X.g1 (wG true (noNew (noNew (noNew (noNew (noNew (s.env 5))))))) (some (noNew (noNew (s.env 1)))) (B20_0_7 X s v9 again)
def B20_0_9 (X : Ctx) (s : St) (again : St → Bool) (v8 : GV) : Bool :=
  X.g1 (wG true (noNew (noNew (noNew (noNew (noNew (s.env 5))))))) (gload gp 48 (noNew v8) s.heap) (B20_0_8 X s again)
def B20_0_10 (X : Ctx) (s : St) (v6 : GV) (again : St → Bool) (v7 : GV) : Bool :=
  X.g1 (wG true (noNew (noNew (noNew (noNew (noNew (s.env 5))))))) (gindexAddr gp 35 (noNew v6) (noNew v7)) (B20_0_9 X s again)
def B20_0_11 (X : Ctx) (s : St) (again : St → Bool) (v6 : GV) : Bool :=
  X.g1 (wG true (noNew (noNew (noNew (noNew (noNew (s.env 5))))))) (some (noNew (noNew (noNew (noNew (noNew (noNew (s.env 14)))))))) (B20_0_10 X s v6 again)
def B20_0_12 (X : Ctx) (s : St) (again : St → Bool) (K : GX → St → Bool) (v5 : GV) (t : Bool) : Bool :=
  bif t then X.g1 (wG true (noNew (noNew (noNew (noNew (noNew (s.env 5))))))) (some (noNew (noNew (s.env 0)))) (B20_0_11 X s again) else K (.exit 0) { env := put (ofL [(0, noNew (s.env 0)), (1, noNew (s.env 1)), (5, noNew (s.env 5)), (13, noNew (s.env 13)), (14, noNew (s.env 14))]) (some 15) v5, heap := s.heap }
def B20_0_13 (X : Ctx) (s : St) (again : St → Bool) (K : GX → St → Bool) (v5 : GV) : Bool :=
  X.b1 (asB (noNew v5)) (B20_0_12 X s again K v5)
def B20_0 (X : Ctx) (s : St) (again : St → Bool) (K : GX → St → Bool) : Bool :=
  X.v1 (gbin gp .lss 3 (noNew (noNew (s.env 14))) (noNew (noNew (s.env 13)))) (B20_0_13 X s again K)
def F20_1 (X : Ctx) (K : CK) (s18 : St) : Bool :=
  K (noNew (noNew (noNew (noNew (noNew (s18.env 5)))))) s18.heap
def F20_2 (X : Ctx) (a0 a1 v3 : GV) (h : List GB) (K : CK) (v4 : GV) : Bool :=
  X.loop (B20_0 X) (X.n + 1) { env := ofL [(0, noNew (noNew a0)), (1, noNew (noNew a1)), (5, noNew (noNew (noNew v3))), (13, noNew v4), (14, noNew (noNew (gi 0)))], heap := h } (kBlk 0 (kSeq (F20_1 X K) (kRet X.toComb gp Tryz.f20.results.toList K)))
def F20_3 (X : Ctx) (a0 a1 : GV) (h : List GB) (K : CK) (v3 : GV) : Bool :=
  X.v1 (glen gp 35 (noNew (noNew (noNew (noNew a0))))) (F20_2 X a0 a1 v3 h K)
def F20_4 (X : Ctx) (v1 a0 a1 : GV) (h : List GB) (K : CK) (v2 : GV) : Bool :=
  X.v1 (gbin gp .eql 3 (noNew v1) (noNew v2)) (F20_3 X a0 a1 h K)
def F20_5 (X : Ctx) (a1 a0 : GV) (h : List GB) (K : CK) (v1 : GV) : Bool :=
  X.v1 (glen gp 35 (noNew (noNew (noNew (noNew a1))))) (F20_4 X v1 a0 a1 h K)
def F20 (X : Ctx) (a0 a1 : GV) (h : List GB) (K : CK) : Bool :=
  X.v1 (glen gp 35 (noNew (noNew (noNew (noNew a0))))) (F20_5 X a1 a0 h K)
theorem F20_c (X : Ctx) (a0 a1 : GV) (h : List GB) (K : CK) : gx2 X.toComb gp X.call X.lk 20 (X.n + 1) (Tryz.f20.body.getD .skip) { env := initE [a0, a1], heap := h } (kRet X.toComb gp Tryz.f20.results.toList K) = F20 X a0 a1 h K := by kernel_rfl
theorem F20_eq (n lk : Nat) (a0 a1 : GV) (h : List GB) (K : CK) : gcall gp (n + 1) lk 20 [a0, a1] h K = F20 (sX (gcall gp n) n lk) a0 a1 h K :=
  (gcall_two (fn := Tryz.f20) (c := Tryz.f20.body.getD .skip) (by kernel_rfl) (by kernel_rfl) (by kernel_rfl)).trans (F20_c (sX (gcall gp n) n lk) a0 a1 h K)

-- formulary/formularyref27.SameHulls
def B36_0_1 (X : Ctx) (again : St → Bool) (s : St) (v11 : GV) : Bool :=
  again { env := ofL [(0, noNew (noNew (s.env 0))), (1, noNew (noNew (s.env 1))), (5, noNew (noNew (noNew v11)))], heap := s.heap }
def B36_0_2 (X : Ctx) (K : GX → St → Bool) (s : St) (v4 v5 v6 v7 v8 v9 v10 : GV) (again : St → Bool) (t : Bool) : Bool :=
  bif t then K .ret { env := put (put (put (put (put (put (put (put (put (put (put (put (put (put (ofL [(0, noNew (s.env 0)), (1, noNew (s.env 1)), (5, noNew (s.env 5))]) (some 11) (noNew (noNew (noNew (s.env 5))))) (some 12) (noNew (noNew (noNew (s.env 0))))) (some 13) v4) (some 14) v5) (some 17) (noNew (noNew (noNew (s.env 0))))) (some 18) (noNew (noNew (noNew (s.env 5))))) (some 19) v6) (some 20) v7) (some 21) (noNew (noNew (noNew (s.env 1))))) (some 22) (noNew (noNew (noNew (s.env 5))))) (some 23) v8) (some 24) v9) (some 25) v10) (some 4) (noNew (gb false)), heap := s.heap } else X.v1 (gbin gp .add 3 (noNew (noNew (noNew (noNew (s.env 5))))) (gi 1)) (B36_0_1 X again s)
def B36_0_3 (X : Ctx) (K : GX → St → Bool) (s : St) (v4 v5 v6 v7 v8 v9 : GV) (again : St → Bool) (v10 : GV) : Bool :=
  X.b1 (asB (noNew v10)) (B36_0_2 X K s v4 v5 v6 v7 v8 v9 v10 again)
def B36_0_4 (X : Ctx) (v7 : GV) (K : GX → St → Bool) (s : St) (v4 v5 v6 v8 : GV) (again : St → Bool) (v9 : GV) : Bool :=
  X.v1 (gbin gp .neq 98 (noNew v7) (noNew v9)) (B36_0_3 X K s v4 v5 v6 v7 v8 v9 again)
def B36_0_5 (X : Ctx) (s : St) (v7 : GV) (K : GX → St → Bool) (v4 v5 v6 : GV) (again : St → Bool) (v8 : GV) : Bool :=
  X.v1 (gload gp 98 (noNew v8) s.heap) (B36_0_4 X v7 K s v4 v5 v6 v8 again)
def B36_0_6 (X : Ctx) (s : St) (K : GX → St → Bool) (v4 v5 v6 : GV) (again : St → Bool) (v7 : GV) : Bool :=
  X.v1 (gindexAddr gp 56 (noNew (noNew (noNew (noNew (s.env 1))))) (noNew (noNew (noNew (noNew (s.env 5)))))) (B36_0_5 X s v7 K v4 v5 v6 again)
def B36_0_7 (X : Ctx) (s : St) (K : GX → St → Bool) (v4 v5 : GV) (again : St → Bool) (v6 : GV) : Bool :=
  X.v1 (gload gp 98 (noNew v6) s.heap) (B36_0_6 X s K v4 v5 v6 again)
def B36_0_8 (X : Ctx) (s : St) (K : GX → St → Bool) (v4 v5 : GV) (again : St → Bool) (t : Bool) : Bool :=
  bif t then X.v1 (gindexAddr gp 56 (noNew (noNew (noNew (noNew (s.env 0))))) (noNew (noNew (noNew (noNew (s.env 5)))))) (B36_0_7 X s K v4 v5 again) else K (.exit 0) { env := put (put (put (put (ofL [(0, noNew (s.env 0)), (1, noNew (s.env 1)), (5, noNew (s.env 5))]) (some 11) (noNew (noNew (noNew (s.env 5))))) (some 12) (noNew (noNew (noNew (s.env 0))))) (some 13) v4) (some 14) v5, heap := s.heap }
def B36_0_9 (X : Ctx) (s : St) (K : GX → St → Bool) (v4 : GV) (again : St → Bool) (v5 : GV) : Bool :=
  X.b1 (asB (noNew v5)) (B36_0_8 X s K v4 v5 again)
def B36_0_10 (X : Ctx) (s : St) (K : GX → St → Bool) (again : St → Bool) (v4 : GV) : Bool :=
  X.v1 (gbin gp .lss 3 (noNew (noNew (noNew (noNew (s.env 5))))) (noNew v4)) (B36_0_9 X s K v4 again)
def B36_0 (X : Ctx) (s : St) (again : St → Bool) (K : GX → St → Bool) : Bool :=
  X.v1 (glen gp 56 (noNew (noNew (noNew (noNew (s.env 0)))))) (B36_0_10 X s K again)
def F36_1 (X : Ctx) (K : CK) (s12 : St) : Bool :=
  K (noNew (gb true)) s12.heap
def F36_2 (X : Ctx) (K : CK) (h : List GB) (a0 a1 : GV) (t : Bool) : Bool :=
  bif t then K (noNew (gb false)) h else X.loop (B36_0 X) (X.n + 1) { env := ofL [(0, noNew (noNew a0)), (1, noNew (noNew a1)), (5, noNew (noNew (gi 0)))], heap := h } (kBlk 0 (kSeq (F36_1 X K) (kRet X.toComb gp Tryz.f36.results.toList K)))
def F36_3 (X : Ctx) (K : CK) (h : List GB) (a0 a1 v3 : GV) : Bool :=
  X.b1 (asB (noNew v3)) (F36_2 X K h a0 a1)
def F36_4 (X : Ctx) (v1 : GV) (K : CK) (h : List GB) (a0 a1 v2 : GV) : Bool :=
  X.v1 (gbin gp .neq 3 (noNew v1) (noNew v2)) (F36_3 X K h a0 a1)
def F36_5 (X : Ctx) (a1 : GV) (K : CK) (h : List GB) (a0 v1 : GV) : Bool :=
  X.v1 (glen gp 56 (noNew (noNew (noNew (noNew a1))))) (F36_4 X v1 K h a0 a1)
def F36 (X : Ctx) (a0 a1 : GV) (h : List GB) (K : CK) : Bool :=
  X.v1 (glen gp 56 (noNew (noNew (noNew (noNew a0))))) (F36_5 X a1 K h a0)
theorem F36_c (X : Ctx) (a0 a1 : GV) (h : List GB) (K : CK) : gx2 X.toComb gp X.call X.lk 36 (X.n + 1) (Tryz.f36.body.getD .skip) { env := initE [a0, a1], heap := h } (kRet X.toComb gp Tryz.f36.results.toList K) = F36 X a0 a1 h K := by kernel_rfl
theorem F36_eq (n lk : Nat) (a0 a1 : GV) (h : List GB) (K : CK) : gcall gp (n + 1) lk 36 [a0, a1] h K = F36 (sX (gcall gp n) n lk) a0 a1 h K :=
  (gcall_two (fn := Tryz.f36) (c := Tryz.f36.body.getD .skip) (by kernel_rfl) (by kernel_rfl) (by kernel_rfl)).trans (F36_c (sX (gcall gp n) n lk) a0 a1 h K)

-- formulary/formularylaw27.shortForm
def F64_1 (X : Ctx) (K : CK) (h2 : List GB) (v6 : GV) : Bool :=
  K (noNew (noNew v6)) h2
def F64_2 (X : Ctx) (K : CK) (h2 : List GB) (v5 : GV) : Bool :=
  X.v1 (gbin gp .leq 3 (noNew v5) (gi 10)) (F64_1 X K h2)
def F64_3 (X : Ctx) (K : CK) (h2 : List GB) (v4 : GV) : Bool :=
  X.v1 (glen gp 48 (noNew v4)) (F64_2 X K h2)
def F64_4 (X : Ctx) (h2 : List GB) (K : CK) (v3 : GV) : Bool :=
  X.v1 (gload gp 48 (noNew v3) h2) (F64_3 X K h2)
def F64_5 (X : Ctx) (K : CK) (v1 : GV) (h2 : List GB) : Bool :=
  X.v1 (gfieldAddr gp 123 (noNew v1) 0) (F64_4 X h2 K)
def F64 (X : Ctx) (a0 : GV) (h : List GB) (K : CK) : Bool :=
  X.h1 (gbox true (noNew (noNew a0)) h) (F64_5 X K)
theorem F64_c (X : Ctx) (a0 : GV) (h : List GB) (K : CK) : gx2 X.toComb gp X.call X.lk 64 (X.n + 1) (Tryz.f64.body.getD .skip) { env := initE [a0], heap := h } (kRet X.toComb gp Tryz.f64.results.toList K) = F64 X a0 h K := by kernel_rfl
theorem F64_eq (n lk : Nat) (a0 : GV) (h : List GB) (K : CK) : gcall gp (n + 1) lk 64 [a0] h K = F64 (sX (gcall gp n) n lk) a0 h K :=
  (gcall_two (fn := Tryz.f64) (c := Tryz.f64.body.getD .skip) (by kernel_rfl) (by kernel_rfl) (by kernel_rfl)).trans (F64_c (sX (gcall gp n) n lk) a0 h K)

-- formulary/formularylaw27.few
def B12_0_1 (X : Ctx) (again : St → Bool) (s : St) (h21 : List GB) (v24 : GV) : Bool :=
  again { env := ofL [(0, noNew (noNew (s.env 0))), (1, noNew (noNew (s.env 1))), (5, noNew (noNew (noNew v24)))], heap := h21 }
def B12_0_2 (X : Ctx) (K : GX → St → Bool) (s : St) (v7 v8 v9 v10 v11 v12 v14 v15 v16 v17 v18 v19 v20 v22 v23 : GV) (h21 : List GB) (again : St → Bool) (t : Bool) : Bool :=
  bif t then K .ret { env := put (put (put (put (put (put (put (put (put (put (put (put (put (put (put (put (put (put (put (put (put (ofL [(0, noNew (s.env 0)), (1, noNew (s.env 1)), (5, noNew (s.env 5))]) (some 16) (noNew (noNew (noNew (s.env 5))))) (some 17) (noNew (noNew (noNew (s.env 0))))) (some 18) v7) (some 19) v8) (some 22) (noNew (noNew (noNew (s.env 0))))) (some 23) (noNew (noNew (noNew (s.env 5))))) (some 24) v9) (some 25) v10) (some 26) v11) (some 27) v12) (some 28) v14) (some 29) (noNew (noNew v14))) (some 30) v15) (some 31) v16) (some 32) v17) (some 33) v18) (some 34) v19) (some 35) v20) (some 36) v22) (some 37) v23) (some 4) (noNew (gb false)), heap := h21 } else X.v1 (gbin gp .add 3 (noNew (noNew (noNew (noNew (s.env 5))))) (gi 1)) (B12_0_1 X again s h21)
def B12_0_3 (X : Ctx) (K : GX → St → Bool) (s : St) (v7 v8 v9 v10 v11 v12 v14 v15 v16 v17 v18 v19 v20 v22 : GV) (h21 : List GB) (again : St → Bool) (v23 : GV) : Bool :=
  X.b1 (asB (noNew v23)) (B12_0_2 X K s v7 v8 v9 v10 v11 v12 v14 v15 v16 v17 v18 v19 v20 v22 v23 h21 again)
def B12_0_4 (X : Ctx) (v14 : GV) (K : GX → St → Bool) (s : St) (v7 v8 v9 v10 v11 v12 v15 v16 v17 v18 v19 v20 : GV) (h21 : List GB) (again : St → Bool) (v22 : GV) : Bool :=
  X.v1 (gpick (noNew (noNew (noNew v14))) (gb true) (noNew v22)) (B12_0_3 X K s v7 v8 v9 v10 v11 v12 v14 v15 v16 v17 v18 v19 v20 v22 h21 again)
def B12_0_5 (X : Ctx) (v14 : GV) (K : GX → St → Bool) (s : St) (v7 v8 v9 v10 v11 v12 v15 v16 v17 v18 v19 : GV) (again : St → Bool) (v20 : GV) (h21 : List GB) : Bool :=
  X.g1 (wG false (noNew (noNew v14))) (gnot (noNew v20)) (B12_0_4 X v14 K s v7 v8 v9 v10 v11 v12 v15 v16 v17 v18 v19 v20 h21 again)
def B12_0_6 (X : Ctx) (v14 : GV) (h13 : List GB) (K : GX → St → Bool) (s : St) (v7 v8 v9 v10 v11 v12 v15 v16 v17 v18 : GV) (again : St → Bool) (v19 : GV) : Bool :=
  X.gh (wG false (noNew (noNew v14))) (gcall0 X.call 64 [noNew v19] h13) h13 (B12_0_5 X v14 K s v7 v8 v9 v10 v11 v12 v15 v16 v17 v18 v19 again)
def B12_0_7 (X : Ctx) (v14 : GV) (h13 : List GB) (K : GX → St → Bool) (s : St) (v7 v8 v9 v10 v11 v12 v15 v16 v17 : GV) (again : St → Bool) (v18 : GV) : Bool :=
  X.g1 (wG false (noNew (noNew v14))) (gload gp 123 (noNew v18) h13) (B12_0_6 X v14 h13 K s v7 v8 v9 v10 v11 v12 v15 v16 v17 v18 again)
def B12_0_8 (X : Ctx) (v14 : GV) (h13 : List GB) (K : GX → St → Bool) (s : St) (v7 v8 v9 v10 v11 v12 v15 v16 : GV) (again : St → Bool) (v17 : GV) : Bool :=
  X.g1 (wG false (noNew (noNew v14))) (gfieldAddr gp 125 (noNew v17) 1) (B12_0_7 X v14 h13 K s v7 v8 v9 v10 v11 v12 v15 v16 v17 again)
def B12_0_9 (X : Ctx) (v14 v15 : GV) (h13 : List GB) (K : GX → St → Bool) (s : St) (v7 v8 v9 v10 v11 v12 : GV) (again : St → Bool) (v16 : GV) : Bool :=
  X.g1 (wG false (noNew (noNew v14))) (gindexAddr gp 23 (noNew v15) (noNew v16)) (B12_0_8 X v14 h13 K s v7 v8 v9 v10 v11 v12 v15 v16 again)
def B12_0_10 (X : Ctx) (v14 : GV) (s : St) (h13 : List GB) (K : GX → St → Bool) (v7 v8 v9 v10 v11 v12 : GV) (again : St → Bool) (v15 : GV) : Bool :=
  X.g1 (wG false (noNew (noNew v14))) (some (noNew (noNew (s.env 5)))) (B12_0_9 X v14 v15 h13 K s v7 v8 v9 v10 v11 v12 again)
def B12_0_11 (X : Ctx) (s : St) (h13 : List GB) (K : GX → St → Bool) (v7 v8 v9 v10 v11 v12 : GV) (again : St → Bool) (v14 : GV) : Bool :=
  X.g1 (wG false (noNew (noNew v14))) (some (noNew (noNew (s.env 0)))) (B12_0_10 X v14 s h13 K v7 v8 v9 v10 v11 v12 again)
def B12_0_12 (X : Ctx) (s : St) (K : GX → St → Bool) (v7 v8 v9 v10 v11 : GV) (again : St → Bool) (v12 : GV) (h13 : List GB) : Bool :=
  X.v1 (gnot (noNew v12)) (B12_0_11 X s h13 K v7 v8 v9 v10 v11 v12 again)
def B12_0_13 (X : Ctx) (s : St) (K : GX → St → Bool) (v7 v8 v9 v10 : GV) (again : St → Bool) (v11 : GV) : Bool :=
  X.h1 (gcall0 X.call 64 [noNew v11] s.heap) (B12_0_12 X s K v7 v8 v9 v10 v11 again)
def B12_0_14 (X : Ctx) (s : St) (K : GX → St → Bool) (v7 v8 v9 : GV) (again : St → Bool) (v10 : GV) : Bool :=
  X.v1 (gload gp 123 (noNew v10) s.heap) (B12_0_13 X s K v7 v8 v9 v10 again)
def B12_0_15 (X : Ctx) (s : St) (K : GX → St → Bool) (v7 v8 : GV) (again : St → Bool) (v9 : GV) : Bool :=
  X.v1 (gfieldAddr gp 125 (noNew v9) 0) (B12_0_14 X s K v7 v8 v9 again)
def B12_0_16 (X : Ctx) (s : St) (K : GX → St → Bool) (v7 v8 : GV) (again : St → Bool) (t : Bool) : Bool :=
  bif t then X.v1 (gindexAddr gp 23 (noNew (noNew (noNew (noNew (s.env 0))))) (noNew (noNew (noNew (noNew (s.env 5)))))) (B12_0_15 X s K v7 v8 again) else K (.exit 0) { env := put (put (put (put (ofL [(0, noNew (s.env 0)), (1, noNew (s.env 1)), (5, noNew (s.env 5))]) (some 16) (noNew (noNew (noNew (s.env 5))))) (some 17) (noNew (noNew (noNew (s.env 0))))) (some 18) v7) (some 19) v8, heap := s.heap }
def B12_0_17 (X : Ctx) (s : St) (K : GX → St → Bool) (v7 : GV) (again : St → Bool) (v8 : GV) : Bool :=
  X.b1 (asB (noNew v8)) (B12_0_16 X s K v7 v8 again)
def B12_0_18 (X : Ctx) (s : St) (K : GX → St → Bool) (again : St → Bool) (v7 : GV) : Bool :=
  X.v1 (gbin gp .lss 3 (noNew (noNew (noNew (noNew (s.env 5))))) (noNew v7)) (B12_0_17 X s K v7 again)
def B12_0 (X : Ctx) (s : St) (again : St → Bool) (K : GX → St → Bool) : Bool :=
  X.v1 (glen gp 23 (noNew (noNew (noNew (noNew (s.env 0)))))) (B12_0_18 X s K again)
def B12_2_1 (X : Ctx) (again : St → Bool) (s : St) (h44 : List GB) (v46 : GV) : Bool :=
  again { env := ofL [(1, noNew (noNew (s.env 1))), (6, noNew (noNew (s.env 6))), (7, noNew (noNew (noNew v46)))], heap := h44 }
def B12_2_2 (X : Ctx) (K : GX → St → Bool) (s : St) (v33 v34 v35 v36 v37 v38 v39 v40 v41 v42 v43 v45 : GV) (h44 : List GB) (again : St → Bool) (t : Bool) : Bool :=
  bif t then K .ret { env := put (put (put (put (put (put (put (put (put (put (put (put (put (put (put (put (put (put (put (ofL [(1, noNew (s.env 1)), (6, noNew (s.env 6)), (7, noNew (s.env 7))]) (some 51) (noNew (noNew (noNew (s.env 7))))) (some 52) (noNew (noNew (noNew (s.env 1))))) (some 53) (noNew (noNew (noNew (s.env 6))))) (some 54) v33) (some 55) v34) (some 56) v35) (some 57) v36) (some 58) v37) (some 61) (noNew (noNew (noNew (s.env 1))))) (some 62) (noNew (noNew (noNew (s.env 6))))) (some 63) v38) (some 64) v39) (some 65) v40) (some 66) (noNew (noNew (noNew (s.env 7))))) (some 67) v41) (some 68) v42) (some 69) v43) (some 70) v45) (some 4) (noNew (gb false)), heap := h44 } else X.v1 (gbin gp .add 3 (noNew (noNew (noNew (noNew (s.env 7))))) (gi 1)) (B12_2_1 X again s h44)
def B12_2_3 (X : Ctx) (K : GX → St → Bool) (s : St) (v33 v34 v35 v36 v37 v38 v39 v40 v41 v42 v43 : GV) (h44 : List GB) (again : St → Bool) (v45 : GV) : Bool :=
  X.b1 (asB (noNew v45)) (B12_2_2 X K s v33 v34 v35 v36 v37 v38 v39 v40 v41 v42 v43 v45 h44 again)
def B12_2_4 (X : Ctx) (K : GX → St → Bool) (s : St) (v33 v34 v35 v36 v37 v38 v39 v40 v41 v42 : GV) (again : St → Bool) (v43 : GV) (h44 : List GB) : Bool :=
  X.v1 (gnot (noNew v43)) (B12_2_3 X K s v33 v34 v35 v36 v37 v38 v39 v40 v41 v42 v43 h44 again)
def B12_2_5 (X : Ctx) (s : St) (K : GX → St → Bool) (v33 v34 v35 v36 v37 v38 v39 v40 v41 : GV) (again : St → Bool) (v42 : GV) : Bool :=
  X.h1 (gcall0 X.call 64 [noNew v42] s.heap) (B12_2_4 X K s v33 v34 v35 v36 v37 v38 v39 v40 v41 v42 again)
def B12_2_6 (X : Ctx) (s : St) (K : GX → St → Bool) (v33 v34 v35 v36 v37 v38 v39 v40 : GV) (again : St → Bool) (v41 : GV) : Bool :=
  X.v1 (gload gp 123 (noNew v41) s.heap) (B12_2_5 X s K v33 v34 v35 v36 v37 v38 v39 v40 v41 again)
def B12_2_7 (X : Ctx) (s : St) (K : GX → St → Bool) (v33 v34 v35 v36 v37 v38 v39 : GV) (again : St → Bool) (v40 : GV) : Bool :=
  X.v1 (gindexAddr gp 88 (noNew v40) (noNew (noNew (noNew (noNew (s.env 7)))))) (B12_2_6 X s K v33 v34 v35 v36 v37 v38 v39 v40 again)
def B12_2_8 (X : Ctx) (s : St) (K : GX → St → Bool) (v33 v34 v35 v36 v37 v38 : GV) (again : St → Bool) (v39 : GV) : Bool :=
  X.v1 (gload gp 88 (noNew v39) s.heap) (B12_2_7 X s K v33 v34 v35 v36 v37 v38 v39 again)
def B12_2_9 (X : Ctx) (s : St) (K : GX → St → Bool) (v33 v34 v35 v36 v37 : GV) (again : St → Bool) (v38 : GV) : Bool :=
  X.v1 (gfieldAddr gp 90 (noNew v38) 1) (B12_2_8 X s K v33 v34 v35 v36 v37 v38 again)
def B12_2_10 (X : Ctx) (s : St) (K : GX → St → Bool) (v33 v34 v35 v36 v37 : GV) (again : St → Bool) (t : Bool) : Bool :=
  bif t then X.v1 (gindexAddr gp 24 (noNew (noNew (noNew (noNew (s.env 1))))) (noNew (noNew (noNew (noNew (s.env 6)))))) (B12_2_9 X s K v33 v34 v35 v36 v37 again) else K (.exit 4) { env := put (put (put (put (put (put (put (put (ofL [(1, noNew (s.env 1)), (6, noNew (s.env 6)), (7, noNew (s.env 7))]) (some 51) (noNew (noNew (noNew (s.env 7))))) (some 52) (noNew (noNew (noNew (s.env 1))))) (some 53) (noNew (noNew (noNew (s.env 6))))) (some 54) v33) (some 55) v34) (some 56) v35) (some 57) v36) (some 58) v37, heap := s.heap }
def B12_2_11 (X : Ctx) (s : St) (K : GX → St → Bool) (v33 v34 v35 v36 : GV) (again : St → Bool) (v37 : GV) : Bool :=
  X.b1 (asB (noNew v37)) (B12_2_10 X s K v33 v34 v35 v36 v37 again)
def B12_2_12 (X : Ctx) (s : St) (K : GX → St → Bool) (v33 v34 v35 : GV) (again : St → Bool) (v36 : GV) : Bool :=
  X.v1 (gbin gp .lss 3 (noNew (noNew (noNew (noNew (s.env 7))))) (noNew v36)) (B12_2_11 X s K v33 v34 v35 v36 again)
def B12_2_13 (X : Ctx) (s : St) (K : GX → St → Bool) (v33 v34 : GV) (again : St → Bool) (v35 : GV) : Bool :=
  X.v1 (glen gp 88 (noNew v35)) (B12_2_12 X s K v33 v34 v35 again)
def B12_2_14 (X : Ctx) (s : St) (K : GX → St → Bool) (v33 : GV) (again : St → Bool) (v34 : GV) : Bool :=
  X.v1 (gload gp 88 (noNew v34) s.heap) (B12_2_13 X s K v33 v34 again)
def B12_2_15 (X : Ctx) (s : St) (K : GX → St → Bool) (again : St → Bool) (v33 : GV) : Bool :=
  X.v1 (gfieldAddr gp 90 (noNew v33) 1) (B12_2_14 X s K v33 again)
def B12_2 (X : Ctx) (s : St) (again : St → Bool) (K : GX → St → Bool) : Bool :=
  X.v1 (gindexAddr gp 24 (noNew (noNew (noNew (noNew (s.env 1))))) (noNew (noNew (noNew (noNew (s.env 6)))))) (B12_2_15 X s K again)
def B12_1_1 (X : Ctx) (again : St → Bool) (s47 : St) (v48 : GV) : Bool :=
  again { env := ofL [(1, noNew (noNew (s47.env 1))), (6, noNew (noNew (noNew v48)))], heap := s47.heap }
def B12_1_2 (X : Ctx) (again : St → Bool) (s47 : St) : Bool :=
  X.v1 (gbin gp .add 3 (noNew (noNew (noNew (noNew (s47.env 6))))) (gi 1)) (B12_1_1 X again s47)
def B12_1_3 (X : Ctx) (again : St → Bool) (s49 : St) : Bool :=
  again { env := ofL [(1, noNew (s49.env 1)), (6, noNew (s49.env 6))], heap := s49.heap }
def B12_1_4 (X : Ctx) (K : GX → St → Bool) (s : St) (v26 v27 v28 v29 v30 v31 v32 : GV) (again : St → Bool) (t : Bool) : Bool :=
  bif t then K .ret { env := put (put (put (put (put (put (put (put (put (put (put (put (ofL [(1, noNew (s.env 1)), (6, noNew (s.env 6))]) (some 38) (noNew (noNew (noNew (s.env 6))))) (some 39) (noNew (noNew (noNew (s.env 1))))) (some 40) v26) (some 41) v27) (some 44) (noNew (noNew (noNew (s.env 1))))) (some 45) (noNew (noNew (noNew (s.env 6))))) (some 46) v28) (some 47) v29) (some 48) v30) (some 49) v31) (some 50) v32) (some 4) (noNew (gb false)), heap := s.heap } else X.loop (B12_2 X) (X.n + 1) { env := ofL [(1, noNew (noNew (s.env 1))), (6, noNew (noNew (s.env 6))), (7, noNew (noNew (gi 0)))], heap := s.heap } (kBlk 4 (kBlk 3 (kSeq (B12_1_2 X again) (kSeq (B12_1_3 X again) K))))
def B12_1_5 (X : Ctx) (K : GX → St → Bool) (s : St) (v26 v27 v28 v29 v30 v31 : GV) (again : St → Bool) (v32 : GV) : Bool :=
  X.b1 (asB (noNew v32)) (B12_1_4 X K s v26 v27 v28 v29 v30 v31 v32 again)
def B12_1_6 (X : Ctx) (K : GX → St → Bool) (s : St) (v26 v27 v28 v29 v30 : GV) (again : St → Bool) (v31 : GV) : Bool :=
  X.v1 (gbin gp .gtr 3 (noNew v31) (gi 9)) (B12_1_5 X K s v26 v27 v28 v29 v30 v31 again)
def B12_1_7 (X : Ctx) (K : GX → St → Bool) (s : St) (v26 v27 v28 v29 : GV) (again : St → Bool) (v30 : GV) : Bool :=
  X.v1 (glen gp 88 (noNew v30)) (B12_1_6 X K s v26 v27 v28 v29 v30 again)
def B12_1_8 (X : Ctx) (s : St) (K : GX → St → Bool) (v26 v27 v28 : GV) (again : St → Bool) (v29 : GV) : Bool :=
  X.v1 (gload gp 88 (noNew v29) s.heap) (B12_1_7 X K s v26 v27 v28 v29 again)
def B12_1_9 (X : Ctx) (s : St) (K : GX → St → Bool) (v26 v27 : GV) (again : St → Bool) (v28 : GV) : Bool :=
  X.v1 (gfieldAddr gp 90 (noNew v28) 1) (B12_1_8 X s K v26 v27 v28 again)
def B12_1_10 (X : Ctx) (s : St) (K : GX → St → Bool) (v26 v27 : GV) (again : St → Bool) (t : Bool) : Bool :=
  bif t then X.v1 (gindexAddr gp 24 (noNew (noNew (noNew (noNew (s.env 1))))) (noNew (noNew (noNew (noNew (s.env 6)))))) (B12_1_9 X s K v26 v27 again) else K (.exit 2) { env := put (put (put (put (ofL [(1, noNew (s.env 1)), (6, noNew (s.env 6))]) (some 38) (noNew (noNew (noNew (s.env 6))))) (some 39) (noNew (noNew (noNew (s.env 1))))) (some 40) v26) (some 41) v27, heap := s.heap }
def B12_1_11 (X : Ctx) (s : St) (K : GX → St → Bool) (v26 : GV) (again : St → Bool) (v27 : GV) : Bool :=
  X.b1 (asB (noNew v27)) (B12_1_10 X s K v26 v27 again)
def B12_1_12 (X : Ctx) (s : St) (K : GX → St → Bool) (again : St → Bool) (v26 : GV) : Bool :=
  X.v1 (gbin gp .lss 3 (noNew (noNew (noNew (noNew (s.env 6))))) (noNew v26)) (B12_1_11 X s K v26 again)
def B12_1 (X : Ctx) (s : St) (again : St → Bool) (K : GX → St → Bool) : Bool :=
  X.v1 (glen gp 24 (noNew (noNew (noNew (noNew (s.env 1)))))) (B12_1_12 X s K again)
def F12_1 (X : Ctx) (K : CK) (s50 : St) : Bool :=
  K (noNew (gb true)) s50.heap
def F12_2 (X : Ctx) (K : CK) (s25 : St) : Bool :=
  X.loop (B12_1 X) (X.n + 1) { env := ofL [(1, noNew (noNew (s25.env 1))), (6, noNew (noNew (gi 0)))], heap := s25.heap } (kBlk 2 (kSeq (F12_1 X K) (kRet X.toComb gp Tryz.f12.results.toList K)))
def F12_3 (X : Ctx) (K : CK) (h : List GB) (a0 a1 : GV) (t : Bool) : Bool :=
  bif t then K (noNew (gb false)) h else X.loop (B12_0 X) (X.n + 1) { env := ofL [(0, noNew (noNew a0)), (1, noNew (noNew a1)), (5, noNew (noNew (gi 0)))], heap := h } (kBlk 0 (kSeq (F12_2 X K) (kRet X.toComb gp Tryz.f12.results.toList K)))
def F12_4 (X : Ctx) (K : CK) (h : List GB) (a0 a1 v6 : GV) : Bool :=
  X.b1 (asB (noNew v6)) (F12_3 X K h a0 a1)
def F12_5 (X : Ctx) (v2 : GV) (K : CK) (h : List GB) (a0 a1 v5 : GV) : Bool :=
  X.v1 (gpick (noNew (noNew (noNew v2))) (gb true) (noNew v5)) (F12_4 X K h a0 a1)
def F12_6 (X : Ctx) (v2 : GV) (K : CK) (h : List GB) (a0 a1 v4 : GV) : Bool :=
  X.g1 (wG false (noNew (noNew v2))) (gbin gp .gtr 3 (noNew v4) (gi 10)) (F12_5 X v2 K h a0 a1)
def F12_7 (X : Ctx) (v2 : GV) (K : CK) (h : List GB) (a0 a1 v3 : GV) : Bool :=
  X.g1 (wG false (noNew (noNew v2))) (glen gp 24 (noNew v3)) (F12_6 X v2 K h a0 a1)
def F12_8 (X : Ctx) (a1 : GV) (K : CK) (h : List GB) (a0 v2 : GV) : Bool :=
  X.g1 (wG false (noNew (noNew v2))) (some (noNew (noNew a1))) (F12_7 X v2 K h a0 a1)
def F12_9 (X : Ctx) (a1 : GV) (K : CK) (h : List GB) (a0 v1 : GV) : Bool :=
  X.v1 (gbin gp .gtr 3 (noNew v1) (gi 5)) (F12_8 X a1 K h a0)
def F12 (X : Ctx) (a0 a1 : GV) (h : List GB) (K : CK) : Bool :=
  X.v1 (glen gp 23 (noNew (noNew (noNew (noNew a0))))) (F12_9 X a1 K h a0)
theorem F12_c (X : Ctx) (a0 a1 : GV) (h : List GB) (K : CK) : gx2 X.toComb gp X.call X.lk 12 (X.n + 1) (Tryz.f12.body.getD .skip) { env := initE [a0, a1], heap := h } (kRet X.toComb gp Tryz.f12.results.toList K) = F12 X a0 a1 h K := by kernel_rfl
theorem F12_eq (n lk : Nat) (a0 a1 : GV) (h : List GB) (K : CK) : gcall gp (n + 1) lk 12 [a0, a1] h K = F12 (sX (gcall gp n) n lk) a0 a1 h K :=
  (gcall_two (fn := Tryz.f12) (c := Tryz.f12.body.getD .skip) (by kernel_rfl) (by kernel_rfl) (by kernel_rfl)).trans (F12_c (sX (gcall gp n) n lk) a0 a1 h K)

-- formulary/formularylaw27.CopyForm
def F75_1 (X : Ctx) (K : CK) (h13 : List GB) (v14 : GV) : Bool :=
  K v14 h13
def F75_2 (X : Ctx) (v3 : GV) (K : CK) (v12 : GV) (h13 : List GB) : Bool :=
  X.r1 (gcell gp 123 v3 h13) (F75_1 X K h13)
def F75_3 (X : Ctx) (v3 : GV) (h8 : List GB) (K : CK) (v11 : GV) : Bool :=
  X.h1 (gstore gp X.lk 123 (noNew v3) (noNew v11) h8) (F75_2 X v3 K)
def F75_4 (X : Ctx) (v7 v3 : GV) (h8 : List GB) (K : CK) (v10 : GV) : Bool :=
  X.v1 (gbuild gp 123 [(0, noNew v7), (1, noNew v10)]) (F75_3 X v3 h8 K)
def F75_5 (X : Ctx) (h8 : List GB) (v7 v3 : GV) (K : CK) (v9 : GV) : Bool :=
  X.v1 (gload gp 3 (noNew v9) h8) (F75_4 X v7 v3 h8 K)
def F75_6 (X : Ctx) (v1 v3 : GV) (K : CK) (v7 : GV) (h8 : List GB) : Bool :=
  X.v1 (gfieldAddr gp 123 (noNew v1) 1) (F75_5 X h8 v7 v3 K)
def F75_7 (X : Ctx) (h4 : List GB) (v1 v3 : GV) (K : CK) (v6 : GV) : Bool :=
  X.h1 (gcall0 X.call 42 [noNew v6] h4) (F75_6 X v1 v3 K)
def F75_8 (X : Ctx) (h4 : List GB) (v1 v3 : GV) (K : CK) (v5 : GV) : Bool :=
  X.v1 (gload gp 48 (noNew v5) h4) (F75_7 X h4 v1 v3 K)
def F75_9 (X : Ctx) (v1 : GV) (K : CK) (v3 : GV) (h4 : List GB) : Bool :=
  X.v1 (gfieldAddr gp 123 (noNew v1) 0) (F75_8 X h4 v1 v3 K)
def F75_10 (X : Ctx) (K : CK) (v1 : GV) (h2 : List GB) : Bool :=
  X.h1 (fun k => k (.ptr h2.length 0) (h2 ++ [.cells (List.map (fun v => GV.d (.lit v)) [.slice none 0 0, .int .i64 0])])) (F75_9 X v1 K)
def F75 (X : Ctx) (a0 : GV) (h : List GB) (K : CK) : Bool :=
  X.h1 (gbox true (noNew (noNew a0)) h) (F75_10 X K)
theorem F75_c (X : Ctx) (a0 : GV) (h : List GB) (K : CK) : gx2 X.toComb gp X.call X.lk 75 (X.n + 1) (Tryz.f75.body.getD .skip) { env := initE [a0], heap := h } (kRet X.toComb gp Tryz.f75.results.toList K) = F75 X a0 h K := by kernel_rfl
theorem F75_eq (n lk : Nat) (a0 : GV) (h : List GB) (K : CK) : gcall gp (n + 1) lk 75 [a0] h K = F75 (sX (gcall gp n) n lk) a0 h K :=
  (gcall_two (fn := Tryz.f75) (c := Tryz.f75.body.getD .skip) (by kernel_rfl) (by kernel_rfl) (by kernel_rfl)).trans (F75_c (sX (gcall gp n) n lk) a0 h K)

-- formulary/formularylaw27.CopyNest
def B14_0_1 (X : Ctx) (again : St → Bool) (s : St) (v17 : GV) (h18 : List GB) (v19 : GV) : Bool :=
  again { env := ofL [(0, noNew (noNew (s.env 0))), (3, noNew (noNew (noNew v17))), (4, noNew (noNew (noNew v19)))], heap := h18 }
def B14_0_2 (X : Ctx) (s : St) (again : St → Bool) (v17 : GV) (h18 : List GB) : Bool :=
  X.v1 (gbin gp .add 3 (noNew (noNew (noNew (noNew (s.env 4))))) (gi 1)) (B14_0_1 X again s v17 h18)
def B14_0_3 (X : Ctx) (s : St) (h14 : List GB) (again : St → Bool) (v16 : GV) : Bool :=
  X.h1 (gappend gp X.lk 23 (noNew (noNew (noNew (noNew (s.env 3))))) (noNew v16) h14) (B14_0_2 X s again)
def B14_0_4 (X : Ctx) (s : St) (h14 : List GB) (again : St → Bool) (v15 : GV) : Bool :=
  X.v1 (gbuildS gp 23 1 [(0, noNew v15)]) (B14_0_3 X s h14 again)
def B14_0_5 (X : Ctx) (v8 : GV) (s : St) (again : St → Bool) (v13 : GV) (h14 : List GB) : Bool :=
  X.v1 (gbuild gp 125 [(0, noNew v8), (1, noNew v13)]) (B14_0_4 X s h14 again)
def B14_0_6 (X : Ctx) (h9 : List GB) (v8 : GV) (s : St) (again : St → Bool) (v12 : GV) : Bool :=
  X.h1 (gcall0 X.call 75 [noNew v12] h9) (B14_0_5 X v8 s again)
def B14_0_7 (X : Ctx) (h9 : List GB) (v8 : GV) (s : St) (again : St → Bool) (v11 : GV) : Bool :=
  X.v1 (gload gp 123 (noNew v11) h9) (B14_0_6 X h9 v8 s again)
def B14_0_8 (X : Ctx) (h9 : List GB) (v8 : GV) (s : St) (again : St → Bool) (v10 : GV) : Bool :=
  X.v1 (gfieldAddr gp 125 (noNew v10) 1) (B14_0_7 X h9 v8 s again)
def B14_0_9 (X : Ctx) (s : St) (again : St → Bool) (v8 : GV) (h9 : List GB) : Bool :=
  X.v1 (gindexAddr gp 23 (noNew (noNew (noNew (noNew (s.env 0))))) (noNew (noNew (noNew (noNew (s.env 4)))))) (B14_0_8 X h9 v8 s again)
def B14_0_10 (X : Ctx) (s : St) (again : St → Bool) (v7 : GV) : Bool :=
  X.h1 (gcall0 X.call 75 [noNew v7] s.heap) (B14_0_9 X s again)
def B14_0_11 (X : Ctx) (s : St) (again : St → Bool) (v6 : GV) : Bool :=
  X.v1 (gload gp 123 (noNew v6) s.heap) (B14_0_10 X s again)
def B14_0_12 (X : Ctx) (s : St) (again : St → Bool) (v5 : GV) : Bool :=
  X.v1 (gfieldAddr gp 125 (noNew v5) 0) (B14_0_11 X s again)
def B14_0_13 (X : Ctx) (s : St) (again : St → Bool) (K : GX → St → Bool) (v3 v4 : GV) (t : Bool) : Bool :=
  bif t then X.v1 (gindexAddr gp 23 (noNew (noNew (noNew (noNew (s.env 0))))) (noNew (noNew (noNew (noNew (s.env 4)))))) (B14_0_12 X s again) else K (.exit 0) { env := put (put (put (put (ofL [(0, noNew (s.env 0)), (3, noNew (s.env 3)), (4, noNew (s.env 4))]) (some 5) (noNew (noNew (noNew (s.env 4))))) (some 6) (noNew (noNew (noNew (s.env 0))))) (some 7) v3) (some 8) v4, heap := s.heap }
def B14_0_14 (X : Ctx) (s : St) (again : St → Bool) (K : GX → St → Bool) (v3 v4 : GV) : Bool :=
  X.b1 (asB (noNew v4)) (B14_0_13 X s again K v3 v4)
def B14_0_15 (X : Ctx) (s : St) (again : St → Bool) (K : GX → St → Bool) (v3 : GV) : Bool :=
  X.v1 (gbin gp .lss 3 (noNew (noNew (noNew (noNew (s.env 4))))) (noNew v3)) (B14_0_14 X s again K v3)
def B14_0 (X : Ctx) (s : St) (again : St → Bool) (K : GX → St → Bool) : Bool :=
  X.v1 (glen gp 23 (noNew (noNew (noNew (noNew (s.env 0)))))) (B14_0_15 X s again K)
def F14_1 (X : Ctx) (K : CK) (s20 : St) : Bool :=
  K (noNew (noNew (noNew (noNew (noNew (s20.env 3)))))) s20.heap
def F14_2 (X : Ctx) (a0 : GV) (K : CK) (v1 : GV) (h2 : List GB) : Bool :=
  X.loop (B14_0 X) (X.n + 1) { env := ofL [(0, noNew (noNew a0)), (3, noNew v1), (4, noNew (noNew (gi 0)))], heap := h2 } (kBlk 0 (kSeq (F14_1 X K) (kRet X.toComb gp Tryz.f14.results.toList K)))
def F14 (X : Ctx) (a0 : GV) (h : List GB) (K : CK) : Bool :=
  X.h1 (fun k => k (.tl [] h.length) (h ++ [.tail 0 4])) (F14_2 X a0 K)
theorem F14_c (X : Ctx) (a0 : GV) (h : List GB) (K : CK) : gx2 X.toComb gp X.call X.lk 14 (X.n + 1) (Tryz.f14.body.getD .skip) { env := initE [a0], heap := h } (kRet X.toComb gp Tryz.f14.results.toList K) = F14 X a0 h K := by kernel_rfl
theorem F14_eq (n lk : Nat) (a0 : GV) (h : List GB) (K : CK) : gcall gp (n + 1) lk 14 [a0] h K = F14 (sX (gcall gp n) n lk) a0 h K :=
  (gcall_two (fn := Tryz.f14) (c := Tryz.f14.body.getD .skip) (by kernel_rfl) (by kernel_rfl) (by kernel_rfl)).trans (F14_c (sX (gcall gp n) n lk) a0 h K)

-- formulary/formularylaw27.DependNests
def F5_1 (X : Ctx) (K : CK) (h26 : List GB) (v46 : GV) : Bool :=
  K (noNew (noNew v46)) h26
def F5_2 (X : Ctx) (v39 : GV) (K : CK) (h26 : List GB) (v45 : GV) : Bool :=
  X.v1 (gpick (noNew (noNew (noNew v39))) (noNew v45) (gb false)) (F5_1 X K h26)
def F5_3 (X : Ctx) (v39 : GV) (K : CK) (h26 : List GB) (v44 : GV) : Bool :=
  X.g1 (wG true (noNew (noNew v39))) (gbin gp .eql 3 (noNew v44) (gi 0)) (F5_2 X v39 K h26)
def F5_4 (X : Ctx) (v39 v41 : GV) (K : CK) (h26 : List GB) (v43 : GV) : Bool :=
  X.g1 (wG true (noNew (noNew v39))) (gbin gp .add 3 (noNew v41) (noNew v43)) (F5_3 X v39 K h26)
def F5_5 (X : Ctx) (v39 v41 : GV) (K : CK) (h26 : List GB) (v42 : GV) : Bool :=
  X.g1 (wG true (noNew (noNew v39))) (glen gp 35 (noNew v42)) (F5_4 X v39 v41 K h26)
def F5_6 (X : Ctx) (v39 v23 : GV) (K : CK) (h26 : List GB) (v41 : GV) : Bool :=
  X.g1 (wG true (noNew (noNew v39))) (some (noNew (noNew (noNew v23)))) (F5_5 X v39 v41 K h26)
def F5_7 (X : Ctx) (v39 v23 : GV) (K : CK) (h26 : List GB) (v40 : GV) : Bool :=
  X.g1 (wG true (noNew (noNew v39))) (glen gp 56 (noNew v40)) (F5_6 X v39 v23 K h26)
def F5_8 (X : Ctx) (v17 v23 : GV) (K : CK) (h26 : List GB) (v39 : GV) : Bool :=
  X.g1 (wG true (noNew (noNew v39))) (some (noNew (noNew (noNew v17)))) (F5_7 X v39 v23 K h26)
def F5_9 (X : Ctx) (v35 v17 v23 : GV) (K : CK) (h26 : List GB) (v38 : GV) : Bool :=
  X.v1 (gpick (noNew (noNew (noNew v35))) (noNew v38) (gb false)) (F5_8 X v17 v23 K h26)
def F5_10 (X : Ctx) (v35 v36 v17 v23 : GV) (K : CK) (h26 : List GB) (v37 : GV) : Bool :=
  X.g1 (wG true (noNew (noNew v35))) (gbin gp .eql 3 (noNew v36) (noNew v37)) (F5_9 X v35 v17 v23 K h26)
def F5_11 (X : Ctx) (v35 v28 v17 v23 : GV) (K : CK) (h26 : List GB) (v36 : GV) : Bool :=
  X.g1 (wG true (noNew (noNew v35))) (some (noNew (noNew (noNew v28)))) (F5_10 X v35 v36 v17 v23 K h26)
def F5_12 (X : Ctx) (v24 v28 v17 v23 : GV) (K : CK) (h26 : List GB) (v35 : GV) : Bool :=
  X.g1 (wG true (noNew (noNew v35))) (some (noNew (noNew (noNew v24)))) (F5_11 X v35 v28 v17 v23 K h26)
def F5_13 (X : Ctx) (K : CK) (h63 : List GB) (v64 : GV) : Bool :=
  K (noNew (noNew v64)) h63
def F5_14 (X : Ctx) (v57 : GV) (K : CK) (v62 : GV) (h63 : List GB) : Bool :=
  X.v1 (gpick (noNew (noNew (noNew v57))) (noNew v62) (gb false)) (F5_13 X K h63)
def F5_15 (X : Ctx) (v57 v58 : GV) (K : CK) (v60 : GV) (h61 : List GB) : Bool :=
  X.gh (wG true (noNew (noNew v57))) (gcall0 X.call 20 [noNew v58, noNew v60] h61) h61 (F5_14 X v57 K)
def F5_16 (X : Ctx) (v57 : GV) (h53 : List GB) (v58 : GV) (K : CK) (v59 : GV) : Bool :=
  X.gh (wG true (noNew (noNew v57))) (gcall0 X.call 38 [noNew v59] h53) h53 (F5_15 X v57 v58 K)
def F5_17 (X : Ctx) (v57 a0 : GV) (h53 : List GB) (K : CK) (v58 : GV) : Bool :=
  X.g1 (wG true (noNew (noNew v57))) (some (noNew (noNew a0))) (F5_16 X v57 h53 v58 K)
def F5_18 (X : Ctx) (v23 a0 : GV) (h53 : List GB) (K : CK) (v57 : GV) : Bool :=
  X.g1 (wG true (noNew (noNew v57))) (some (noNew (noNew (noNew v23)))) (F5_17 X v57 a0 h53 K)
def F5_19 (X : Ctx) (v54 v23 a0 : GV) (h53 : List GB) (K : CK) (v56 : GV) : Bool :=
  X.v1 (gpick (noNew (noNew (noNew v54))) (noNew v56) (gb false)) (F5_18 X v23 a0 h53 K)
def F5_20 (X : Ctx) (v54 v23 a0 : GV) (h53 : List GB) (K : CK) (v55 : GV) : Bool :=
  X.g1 (wG true (noNew (noNew v54))) (gbin gp .eql 30 (noNew v55) (gi 0)) (F5_19 X v54 v23 a0 h53 K)
def F5_21 (X : Ctx) (v24 v23 a0 : GV) (h53 : List GB) (K : CK) (v54 : GV) : Bool :=
  X.g1 (wG true (noNew (noNew v54))) (some (noNew (noNew (noNew v24)))) (F5_20 X v54 v23 a0 h53 K)
def F5_22 (X : Ctx) (v47 v24 v23 a0 : GV) (K : CK) (v52 : GV) (h53 : List GB) : Bool :=
  X.v1 (gpick (noNew (noNew (noNew v47))) (noNew v52) (gb false)) (F5_21 X v24 v23 a0 h53 K)
def F5_23 (X : Ctx) (v47 v48 v24 v23 a0 : GV) (K : CK) (v50 : GV) (h51 : List GB) : Bool :=
  X.gh (wG true (noNew (noNew v47))) (gcall0 X.call 36 [noNew v48, noNew v50] h51) h51 (F5_22 X v47 v24 v23 a0 K)
def F5_24 (X : Ctx) (v47 : GV) (h26 : List GB) (v48 v24 v23 a0 : GV) (K : CK) (v49 : GV) : Bool :=
  X.gh (wG true (noNew (noNew v47))) (gcall0 X.call 37 [noNew v49] h26) h26 (F5_23 X v47 v48 v24 v23 a0 K)
def F5_25 (X : Ctx) (v47 a0 : GV) (h26 : List GB) (v24 v23 : GV) (K : CK) (v48 : GV) : Bool :=
  X.g1 (wG true (noNew (noNew v47))) (some (noNew (noNew a0))) (F5_24 X v47 h26 v48 v24 v23 a0 K)
def F5_26 (X : Ctx) (v17 a0 : GV) (h26 : List GB) (v24 v23 : GV) (K : CK) (v47 : GV) : Bool :=
  X.g1 (wG true (noNew (noNew v47))) (some (noNew (noNew (noNew v17)))) (F5_25 X v47 a0 h26 v24 v23 K)
def F5_27 (X : Ctx) (v18 v28 v24 v17 v23 : GV) (K : CK) (h26 : List GB) (a0 : GV) (t : Bool) : Bool :=
  bif t then X.v1 (gbin gp .eql 3 (noNew (noNew (noNew (noNew (noNew v18))))) (noNew (noNew (noNew (noNew (noNew v28)))))) (F5_12 X v24 v28 v17 v23 K h26) else X.v1 (gbin gp .eql 30 (noNew (noNew (noNew (noNew (noNew v18))))) (gi 0)) (F5_26 X v17 a0 h26 v24 v23 K)
def F5_28 (X : Ctx) (v18 v28 v24 v17 v23 : GV) (K : CK) (h26 : List GB) (a0 v34 : GV) : Bool :=
  X.b1 (asB (noNew v34)) (F5_27 X v18 v28 v24 v17 v23 K h26 a0)
def F5_29 (X : Ctx) (K : CK) (h26 : List GB) (v28 v18 v24 v17 v23 a0 : GV) (t : Bool) : Bool :=
  bif t then K (noNew (gb false)) h26 else X.v1 (gbin gp .neq 3 (noNew (noNew (noNew (noNew (noNew v28))))) (gi 0)) (F5_28 X v18 v28 v24 v17 v23 K h26 a0)
def F5_30 (X : Ctx) (K : CK) (h26 : List GB) (v28 v18 v24 v17 v23 a0 v33 : GV) : Bool :=
  X.b1 (asB (noNew v33)) (F5_29 X K h26 v28 v18 v24 v17 v23 a0)
def F5_31 (X : Ctx) (v29 : GV) (K : CK) (h26 : List GB) (v28 v18 v24 v17 v23 a0 v32 : GV) : Bool :=
  X.v1 (gpick (noNew (noNew (noNew v29))) (gb true) (noNew v32)) (F5_30 X K h26 v28 v18 v24 v17 v23 a0)
def F5_32 (X : Ctx) (v29 v30 : GV) (K : CK) (h26 : List GB) (v28 v18 v24 v17 v23 a0 v31 : GV) : Bool :=
  X.g1 (wG false (noNew (noNew v29))) (gbin gp .neq 3 (noNew v30) (noNew v31)) (F5_31 X v29 K h26 v28 v18 v24 v17 v23 a0)
def F5_33 (X : Ctx) (v29 v27 : GV) (K : CK) (h26 : List GB) (v28 v18 v24 v17 v23 a0 v30 : GV) : Bool :=
  X.g1 (wG false (noNew (noNew v29))) (some (noNew (noNew (noNew v27)))) (F5_32 X v29 v30 K h26 v28 v18 v24 v17 v23 a0)
def F5_34 (X : Ctx) (v11 v27 : GV) (K : CK) (h26 : List GB) (v28 v18 v24 v17 v23 a0 v29 : GV) : Bool :=
  X.g1 (wG false (noNew (noNew v29))) (some (noNew (noNew (noNew v11)))) (F5_33 X v29 v27 K h26 v28 v18 v24 v17 v23 a0)
def F5_35 (X : Ctx) (v12 v11 v27 : GV) (K : CK) (h26 : List GB) (v18 v24 v17 v23 a0 v28 : GV) : Bool :=
  X.v1 (gbin gp .neq 3 (noNew (noNew (noNew (noNew (noNew v12))))) (noNew (noNew (noNew (noNew (noNew v28)))))) (F5_34 X v11 v27 K h26 v28 v18 v24 v17 v23 a0)
def F5_36 (X : Ctx) (v25 v12 v11 : GV) (K : CK) (h26 : List GB) (v18 v24 v17 v23 a0 v27 : GV) : Bool :=
  X.v1 (gext (noNew (noNew (noNew v25))) 1) (F5_35 X v12 v11 v27 K h26 v18 v24 v17 v23 a0)
def F5_37 (X : Ctx) (v12 v11 : GV) (K : CK) (v18 v24 v17 v23 a0 v25 : GV) (h26 : List GB) : Bool :=
  X.v1 (gext (noNew (noNew (noNew v25))) 0) (F5_36 X v25 v12 v11 K h26 v18 v24 v17 v23 a0)
def F5_38 (X : Ctx) (a0 : GV) (h22 : List GB) (v12 v11 : GV) (K : CK) (v18 v17 v23 v24 : GV) : Bool :=
  X.h1 (gcall0 X.call 35 [noNew (noNew (noNew (noNew a0)))] h22) (F5_37 X v12 v11 K v18 v24 v17 v23 a0)
def F5_39 (X : Ctx) (v21 a0 : GV) (h22 : List GB) (v12 v11 : GV) (K : CK) (v18 v17 v23 : GV) : Bool :=
  X.v1 (gext (noNew (noNew (noNew v21))) 1) (F5_38 X a0 h22 v12 v11 K v18 v17 v23)
def F5_40 (X : Ctx) (a0 v12 v11 : GV) (K : CK) (v18 v17 v21 : GV) (h22 : List GB) : Bool :=
  X.v1 (gext (noNew (noNew (noNew v21))) 0) (F5_39 X v21 a0 h22 v12 v11 K v18 v17)
def F5_41 (X : Ctx) (a0 v12 v11 : GV) (K : CK) (v18 v17 v19 : GV) (h20 : List GB) : Bool :=
  X.h1 (gcall0 X.call 34 [noNew v19] h20) (F5_40 X a0 v12 v11 K v18 v17)
def F5_42 (X : Ctx) (a0 : GV) (h16 : List GB) (v12 v11 : GV) (K : CK) (v17 v18 : GV) : Bool :=
  X.h1 (gcall0 X.call 14 [noNew (noNew (noNew (noNew a0)))] h16) (F5_41 X a0 v12 v11 K v18 v17)
def F5_43 (X : Ctx) (v15 a0 : GV) (h16 : List GB) (v12 v11 : GV) (K : CK) (v17 : GV) : Bool :=
  X.v1 (gext (noNew (noNew (noNew v15))) 1) (F5_42 X a0 h16 v12 v11 K v17)
def F5_44 (X : Ctx) (a0 v12 v11 : GV) (K : CK) (v15 : GV) (h16 : List GB) : Bool :=
  X.v1 (gext (noNew (noNew (noNew v15))) 0) (F5_43 X v15 a0 h16 v12 v11 K)
def F5_45 (X : Ctx) (a0 v12 v11 : GV) (K : CK) (v13 : GV) (h14 : List GB) : Bool :=
  X.h1 (gcall0 X.call 33 [noNew v13] h14) (F5_44 X a0 v12 v11 K)
def F5_46 (X : Ctx) (a0 : GV) (h10 : List GB) (v11 : GV) (K : CK) (v12 : GV) : Bool :=
  X.h1 (gcall0 X.call 14 [noNew (noNew (noNew (noNew a0)))] h10) (F5_45 X a0 v12 v11 K)
def F5_47 (X : Ctx) (v9 a0 : GV) (h10 : List GB) (K : CK) (v11 : GV) : Bool :=
  X.v1 (gext (noNew (noNew (noNew v9))) 1) (F5_46 X a0 h10 v11 K)
def F5_48 (X : Ctx) (a0 : GV) (K : CK) (v9 : GV) (h10 : List GB) : Bool :=
  X.v1 (gext (noNew (noNew (noNew v9))) 0) (F5_47 X v9 a0 h10 K)
def F5_49 (X : Ctx) (a0 : GV) (K : CK) (v7 : GV) (h8 : List GB) : Bool :=
  X.h1 (gcall0 X.call 32 [noNew v7] h8) (F5_48 X a0 K)
def F5_50 (X : Ctx) (K : CK) (h5 : List GB) (a0 : GV) (t : Bool) : Bool :=
  bif t then K (noNew (gb true)) h5 else X.h1 (gcall0 X.call 14 [noNew (noNew (noNew (noNew a0)))] h5) (F5_49 X a0 K)
def F5_51 (X : Ctx) (K : CK) (h5 : List GB) (a0 v6 : GV) : Bool :=
  X.b1 (asB (noNew v6)) (F5_50 X K h5 a0)
def F5_52 (X : Ctx) (K : CK) (a0 v4 : GV) (h5 : List GB) : Bool :=
  X.v1 (gnot (noNew v4)) (F5_51 X K h5 a0)
def F5_53 (X : Ctx) (K : CK) (h2 : List GB) (a0 : GV) (t : Bool) : Bool :=
  bif t then K (noNew (gb false)) h2 else X.h1 (gcall0 X.call 12 [noNew (noNew (noNew (noNew a0))), GV.d (.lit nilS)] h2) (F5_52 X K a0)
def F5_54 (X : Ctx) (K : CK) (h2 : List GB) (a0 v3 : GV) : Bool :=
  X.b1 (asB (noNew v3)) (F5_53 X K h2 a0)
def F5_55 (X : Ctx) (K : CK) (a0 v1 : GV) (h2 : List GB) : Bool :=
  X.v1 (gnot (noNew v1)) (F5_54 X K h2 a0)
def F5 (X : Ctx) (a0 : GV) (h : List GB) (K : CK) : Bool :=
  X.h1 (gcall0 X.call 11 [] h) (F5_55 X K a0)
theorem F5_c (X : Ctx) (a0 : GV) (h : List GB) (K : CK) : gx2 X.toComb gp X.call X.lk 5 (X.n + 1) (Tryz.f5.body.getD .skip) { env := initE [a0], heap := h } (kRet X.toComb gp Tryz.f5.results.toList K) = F5 X a0 h K := by kernel_rfl
theorem F5_eq (n lk : Nat) (a0 : GV) (h : List GB) (K : CK) : gcall gp (n + 1) lk 5 [a0] h K = F5 (sX (gcall gp n) n lk) a0 h K :=
  (gcall_two (fn := Tryz.f5) (c := Tryz.f5.body.getD .skip) (by kernel_rfl) (by kernel_rfl) (by kernel_rfl)).trans (F5_c (sX (gcall gp n) n lk) a0 h K)

end
end Go.Proofs.YthnnjopilpgakaaGreat
