/-
  Functions over a nest of loops: what they come to.
-/
import Derived.Test.YthnnjopilpgakaaGreatNeR
import Derived.Test.YthnnjopilpgakaaGreatTaS
set_option linter.unusedVariables false
set_option linter.unusedSimpArgs false
namespace Go.Proofs.YthnnjopilpgakaaGreat
open Go.Gh

/-- Behind a call that stands alone. -/
def kIso (h : List GB) (k : CK) : CK := fun r _ => match retD r with | some r' => k r' h | none => false
theorem kIsos : (∀ h k x h', kIso h k (.d x) h' = k (.d x) h) ∧ (∀ h k x h', kIso h k (.xl x) h' = k (.xl x) h) ∧ (∀ h k x t h', kIso h k (.tl x t) h' = k (.d (.list x)) h) ∧ (∀ h k x y h', kIso h k (.tup [.d x, .d y]) h' = k (.tup [.d x, .d y]) h) ∧
    (∀ h k x t y h', kIso h k (.tup [.tl x t, .d y]) h' = k (.tup [.d (.list x), .d y]) h) := ⟨fun _ _ _ _ => rfl, fun _ _ _ _ => rfl, fun _ _ _ _ _ => rfl, fun _ _ _ _ _ => rfl, fun _ _ _ _ _ _ => rfl⟩
theorem kCall : (∀ (call : Gh.Call) g h k, gcall0 call g [] h k = call 0 g [] [] (kIso h k)) ∧ (∀ (call : Gh.Call) g a h k, gcall0 call g [.d a] h k = call 0 g [.d a] [] (kIso h k)) ∧ (∀ (call : Gh.Call) g a b h k, gcall0 call g [.d a, .d b] h k = call 0 g [.d a, .d b] [] (kIso h k)) ∧
    (∀ (call : Gh.Call) g a b c h k, gcall0 call g [.d a, .d b, .d c] h k = call 0 g [.d a, .d b, .d c] [] (kIso h k)) ∧ (∀ (call : Gh.Call) g a h k, gcall0 call g [.xl a] h k = call 0 g [.d (.list a)] [] (kIso h k)) ∧
    (∀ (call : Gh.Call) g a t b h k, gcall0 call g [.d a, .tl b t] h k = call 0 g [.d a, .d (.list b)] [] (kIso h k)) := ⟨fun _ _ _ _ => rfl, fun _ _ _ _ _ => rfl, fun _ _ _ _ _ _ => rfl, fun _ _ _ _ _ _ _ => rfl, fun _ _ _ _ _ => rfl, fun _ _ _ _ _ _ _ => rfl⟩
theorem kDyn : (∀ (call : Gh.Call) lk g args h k, gdyn gp call lk (.d (.fn (.func g) [] [])) args h k = bif (gp.mode g).beq 0 then gcall0 call g (args ++ []) h k else bif (gp.mode g).beq 1 then gcall1 call g (args ++ []) h k else call lk g (args ++ []) h k) ∧
    (∀ (call : Gh.Call) lk g cap args h k, gdyn gp call lk (.fn (.func g) [] cap) args h k = bif (gp.mode g).beq 0 then gcall0 call g (args ++ cap) h k else bif (gp.mode g).beq 1 then gcall1 call g (args ++ cap) h k else call lk g (args ++ cap) h k) := ⟨fun _ _ _ _ _ _ => rfl, fun _ _ _ _ _ _ _ => rfl⟩

theorem drop_cons {α : Type} {l : List α} {k : Nat} {x : α} {r : List α} (h : l.drop k = x :: r) : k < l.length ∧ l[k]? = some x ∧ l.drop (k + 1) = r ∧ l.length = k + (r.length + 1) := by
  have h1 : k < l.length := by
    rcases Nat.lt_or_ge k l.length with q | q
    · exact q
    · rw [List.drop_of_length_le q] at h; cases h
  rw [List.drop_eq_getElem_cons h1] at h
  injection h with h2 h3
  refine ⟨h1, by rw [List.getElem?_eq_getElem h1, h2], h3, ?_⟩
  have := congrArg List.length h3
  simp at this
  omega
theorem drop_nil {α : Type} {l : List α} {k : Nat} (h : l.drop k = []) : l.length ≤ k := by simpa using h

-- what lies in a slice
abbrev eI (l : List Int) : DV := .list (l.map di)
theorem ldI {l : List Int} {k : Nat} {x : Int} (h : l[k]? = some x) (H : List GB) : gload gp 3 (.d (.vptr (l.map di) k 0)) H = some (gi x) := by
  show (match (l.map di)[k]? with | some e => _ | none => _) = _
  rw [List.getElem?_map, h]; rfl
theorem szI (l : List Int) : szOk 1 (l.map di) = true := szOk_map di 1 (fun _ => rfl) l
abbrev eR (x : Bool × Int) : DV := .agg [db x.1, di x.2]
theorem szR (l : List (Bool × Int)) : szOk 2 (l.map eR) = true := szOk_map eR 2 (fun _ => rfl) l
theorem ldR {l : List (Bool × Int)} {k : Nat} {x : Bool × Int} (h : l[k]? = some x) (H : List GB) : gload gp 159 (.d (.vptr (l.map eR) k 0)) H = some (.d (eR x)) := by
  show (match (l.map eR)[k]? with | some e => _ | none => _) = _
  rw [List.getElem?_map, h]; rfl

theorem giR (x : Bool × Int) (H : List GB) (k : GV → List GB → Bool) : gI true 2 (.d (eR x)) H k = k (.d (.vptr [eR x] 0 0)) H := id rfl
theorem ldR0 (x : Bool × Int) (H : List GB) : gload gp 4 (.d (.vptr [eR x] 0 0)) H = some (gb x.1) := id rfl
theorem ldR1 (x : Bool × Int) (H : List GB) : gload gp 30 (.d (.vptr [eR x] 0 1)) H = some (gi x.2) := id rfl

theorem lt_nat (a b : Nat) : decide ((a : Int) < (b : Int)) = decide (a < b) := by simp
theorem succ_nat {k : Nat} (h : k < 4611686018427387904) : IntKind.i64.wrap ((k : Int) + 1) = ((k + 1 : Nat) : Int) := by
  rw [wrap_in (by omega) (by omega)]; rfl

theorem g102 {n : Nat} (hn : 1 ≤ n) (lk : Nat) (x a b : Int) (h : List GB) (K : CK) : gcall gp n lk 102 [gi x, gi a, gi b] h K = K (gb (decide (a ≤ x ∧ x ≤ b))) h := by
  obtain ⟨n, rfl⟩ : ∃ m, n = m + 1 := ⟨n - 1, by omega⟩
  rw [F102_eq]
  simp only [kStd, F102_1, F102_2, F102_3, F102_4, F102_5, F102, kNew, kSteps, kCmp]
  by_cases h1 : a ≤ x <;> simp [kStd, F102_1, F102_2, F102_3, F102_4, F102_5, F102, h1, kSteps, kNew]

def brk : List (Bool × Int) → Int
  | [] => 0
  | (b, c) :: r => bif b then brk r else c

theorem l94 {call : Gh.Call} {n lk : Nat} (l : List (Bool × Int)) (hl : l.length < 4611686018427387904) (h : List GB) (k : CK) (K : GX → St → Bool) (hE : ∀ e, K (.exit 0) ⟨e, h⟩ = k (gi 0) h) (hR : ∀ e c, e 2 = gi c → K .ret ⟨e, h⟩ = k (gi c) h) :
    ∀ (r : List (Bool × Int)) (i m : Nat), l.drop i = r → i ≤ l.length → r.length < m → gloop (B94_0 (sX call n lk)) m { env := ofL [(5, .d (.list (l.map eR))), (6, gi l.length), (7, gi i)], heap := h } K = k (gi (brk r)) h
  | [], i, m, hd, hi, hm => by
    obtain ⟨m, rfl⟩ : ∃ q, m = q + 1 := ⟨m - 1, by omega⟩
    have hge := drop_nil hd
    have hlt : decide ((i : Int) < (l.length : Int)) = false := decide_eq_false (by omega)
    simp only [gloop_succ, kStd, B94_0_1, B94_0_2, B94_0_3, B94_0_4, B94_0_5, B94_0_6, B94_0_7, B94_0_8, B94_0_9, B94_0_10, B94_0_11, B94_0_12, B94_0, kNew, kSteps, kCmp, kEnv, hlt, cond_false, hE, brk, Nat.reduceEqDiff, reduceIte, Nat.reduceAdd]
  | (b, c) :: r, i, m, hd, hi, hm => by
    obtain ⟨m, rfl⟩ : ∃ q, m = q + 1 := ⟨m - 1, by omega⟩
    obtain ⟨h1, h2, h3, h4⟩ := drop_cons hd
    have ih := l94 (call := call) (n := n) (lk := lk) l hl h k K hE hR r (i + 1) m h3 (by omega) (by simp at hm; omega)
    have hlt : decide ((i : Int) < (l.length : Int)) = true := decide_eq_true (by omega)
    have hw := succ_nat (k := i) (by omega)
    have hx := idx226 (es := l.map eR) (k := i) (by simpa using h1) (szR l)
    have hl := ldR h2
    cases b with
    | true => simp only [gloop_succ, kStd, B94_0_1, B94_0_2, B94_0_3, B94_0_4, B94_0_5, B94_0_6, B94_0_7, B94_0_8, B94_0_9, B94_0_10, B94_0_11, B94_0_12, B94_0, kNew, kSteps, kCmp, kEnv, hlt, hx, hl, giR, kFld, ldR0, ldR1, hw, ih, brk, cond_true, cond_false, Nat.reduceEqDiff, reduceIte, Nat.reduceAdd, Bool.not_true]
    | false =>
      simp only [gloop_succ, kStd, B94_0_1, B94_0_2, B94_0_3, B94_0_4, B94_0_5, B94_0_6, B94_0_7, B94_0_8, B94_0_9, B94_0_10, B94_0_11, B94_0_12, B94_0, kNew, kSteps, kCmp, kEnv, hlt, hx, hl, giR, kFld, ldR0, ldR1, brk, cond_true, cond_false, Nat.reduceEqDiff, reduceIte, Nat.reduceAdd, Bool.not_false]
      exact hR _ _ rfl

theorem g94 {n : Nat} (l : List (Bool × Int)) (hn : l.length + 1 ≤ n) (hl : l.length < 4611686018427387904) (lk : Nat) (h : List GB) (K : CK) : gcall gp n lk 94 [.d (.list (l.map eR))] h K = K (gi (brk l)) h := by
  obtain ⟨n, rfl⟩ : ∃ m, n = m + 1 := ⟨n - 1, by omega⟩
  rw [F94_eq]
  simp only [kStd, F94_1, F94_2, F94, kNew, kSteps, kEnv, kLen, List.length_map, Nat.reduceEqDiff, reduceIte]
  exact l94 l hl h K _ (fun e => rfl) (fun e c hc => by simp only [kKont, Tryz.results94, kRet_one, hc]) l 0 (n + 1) rfl (by omega) (by omega)
end Go.Proofs.YthnnjopilpgakaaGreat
namespace Go.Proofs.YthnnjopilpgakaaGreat
open Go.Gh

structure Aff where
  c : List Int
  k : Int
structure Lp where
  lo : Aff
  hi : Aff
abbrev eA (x : Aff) : DV := .agg [eI x.c, di x.k]
abbrev eL (x : Lp) : DV := .agg [eI x.lo.c, di x.lo.k, eI x.hi.c, di x.hi.k]
abbrev eH (x : Int × Int) : DV := .agg [di x.1, di x.2]
abbrev eN (n : List Lp) : DV := .list (n.map eL)
abbrev eHs (l : List (Int × Int)) : DV := .list (l.map eH)
abbrev eP (l : List (List Int)) : DV := .list (l.map eI)
theorem szL (l : List Lp) : szOk 4 (l.map eL) = true := szOk_map eL 4 (fun _ => rfl) l
theorem szH (l : List (Int × Int)) : szOk 2 (l.map eH) = true := szOk_map eH 2 (fun _ => rfl) l
theorem szP (l : List (List Int)) : szOk 1 (l.map eI) = true := szOk_map eI 1 (fun _ => rfl) l

theorem small : ∀ {n : Nat}, n ≤ 1000000 → n < 4611686018427387904 := fun h => by omega

def okC (x : Int) : Bool := decide (-8 ≤ x ∧ x ≤ 8)
theorem g168 {n : Nat} (hn : 2 ≤ n) (lk : Nat) (x : Int) (h : List GB) (K : CK) : gcall gp n lk 168 [gi x] h K = K (gb (!okC x)) h := by
  obtain ⟨n, rfl⟩ : ∃ m, n = m + 1 := ⟨n - 1, by omega⟩
  rw [F168_eq]
  simp only [kStd, F168_1, F168_2, F168, kNew, kSteps, kCmp, kEnv, kKont, kFld, kLen, kCall, kIsos, gloop_succ, cond_true, cond_false, Bool.not_true, Bool.not_false, Nat.reduceEqDiff, reduceIte, Nat.reduceAdd, List.length_map, g102 (n := n) (by omega)]
  rfl

/-- Where a predicate holds first. -/
def fi {α : Type} (p : α → Bool) : Nat → List α → Int
  | _, [] => -1
  | i, x :: r => bif p x then i else fi p (i + 1) r
theorem fi_any {α : Type} (p : α → Bool) : ∀ (l : List α) (i : Nat), decide (0 ≤ fi p i l) = l.any p
  | [], i => rfl
  | x :: r, i => by
    have ih := fi_any p r (i + 1)
    cases hpx : p x with
    | true => simp [fi, hpx]
    | false => simp only [fi, hpx, cond_false, List.any_cons, Bool.false_or]; exact ih

theorem l175 {call : Gh.Call} {n lk : Nat} (p : Int → Bool) (F : GV) (hF : noNew F = F) (hp : ∀ x h k, gdyn gp call lk F [gi x] h k = k (gb (p x)) h) (l : List Int) (hl : l.length ≤ 1000000) (h : List GB) (k : CK) (K : GX → St → Bool)
    (hE : ∀ e, K (.exit 0) ⟨e, h⟩ = k (gi (-1)) h) (hR : ∀ e c, e 4 = gi c → K .ret ⟨e, h⟩ = k (gi c) h) :
    ∀ (r : List Int) (i m : Nat), l.drop i = r → i ≤ l.length → r.length < m → gloop (B175_0 (sX call n lk)) m { env := ofL [(0, .d (eI l)), (1, F), (7, gi l.length), (8, gi i)], heap := h } K = k (gi (fi p i r)) h
  | [], i, m, hd, hi, hm => by
    obtain ⟨m, rfl⟩ : ∃ q, m = q + 1 := ⟨m - 1, by omega⟩
    have hge := drop_nil hd
    have hlt : decide ((i : Int) < (l.length : Int)) = false := decide_eq_false (by omega)
    simp only [kStd, B175_0_1, B175_0_2, B175_0_3, B175_0_4, B175_0_5, B175_0_6, B175_0_7, B175_0, kNew, kSteps, kCmp, kEnv, kKont, kFld, kLen, kCall, kIsos, gloop_succ, cond_true, cond_false, Bool.not_true, Bool.not_false, Nat.reduceEqDiff, reduceIte, Nat.reduceAdd, List.length_map, hlt, hE, fi]
  | x :: r, i, m, hd, hi, hm => by
    obtain ⟨m, rfl⟩ : ∃ q, m = q + 1 := ⟨m - 1, by omega⟩
    obtain ⟨h1, h2, h3, h4⟩ := drop_cons hd
    have ih := l175 (call := call) (n := n) (lk := lk) p F hF hp l hl h k K hE hR r (i + 1) m h3 (by omega) (by simp at hm; omega)
    have hlt : decide ((i : Int) < (l.length : Int)) = true := decide_eq_true (by omega)
    have hw := succ_nat (k := i) (by omega)
    have hx := idx48 (es := l.map di) (k := i) (by simpa using h1) (szI l)
    have hl := ldI h2
    cases hpx : p x with
    | true =>
      simp only [kStd, B175_0_1, B175_0_2, B175_0_3, B175_0_4, B175_0_5, B175_0_6, B175_0_7, B175_0, kNew, kSteps, kCmp, kEnv, kKont, kFld, kLen, kCall, kIsos, gloop_succ, cond_true, cond_false, Bool.not_true, Bool.not_false, Nat.reduceEqDiff, reduceIte, Nat.reduceAdd, List.length_map, hlt, hx, hl, hF, hp, fi, hpx]
      exact hR _ _ rfl
    | false => simp only [kStd, B175_0_1, B175_0_2, B175_0_3, B175_0_4, B175_0_5, B175_0_6, B175_0_7, B175_0, kNew, kSteps, kCmp, kEnv, kKont, kFld, kLen, kCall, kIsos, gloop_succ, cond_true, cond_false, Bool.not_true, Bool.not_false, Nat.reduceEqDiff, reduceIte, Nat.reduceAdd, List.length_map, hlt, hx, hl, hF, hp, fi, hpx, hw, ih]

/-- What a function value answers, from so many rounds on. -/
def Pred (lk B : Nat) (F : GV) (p : Int → Bool) : Prop := ∀ n, B ≤ n → ∀ x h k, gdyn gp (gcall gp n) lk F [gi x] h k = k (gb (p x)) h
theorem g175 {n lk B : Nat} (p : Int → Bool) (F : GV) (hF : noNew F = F) (hp : Pred lk B F p) (l : List Int) (hl : l.length ≤ 1000000) (hn : 1000002 ≤ n) (hB : B + 1 ≤ n) (h : List GB) (K : CK) :
    gcall gp n lk 175 [.d (eI l), F] h K = K (gi (fi p 0 l)) h := by
  obtain ⟨n, rfl⟩ : ∃ m, n = m + 1 := ⟨n - 1, by omega⟩
  rw [F175_eq]
  simp only [kStd, F175_1, F175_2, F175, kNew, kSteps, kCmp, kEnv, kKont, kFld, kLen, kCall, kIsos, gloop_succ, cond_true, cond_false, Bool.not_true, Bool.not_false, Nat.reduceEqDiff, reduceIte, Nat.reduceAdd, List.length_map, hF]
  exact l175 p F hF (hp n (by omega)) l hl h K _ (fun e => rfl) (fun e c hc => by simp only [kKont, Tryz.results175, kRet_one, hc]) l 0 (n + 1) rfl (by omega) (by omega)

theorem g115 {n lk B : Nat} (p : Int → Bool) (F : GV) (hF : noNew F = F) (hp : Pred lk B F p) (l : List Int) (hl : l.length ≤ 1000000) (hn : 1000003 ≤ n) (hB : B + 2 ≤ n) (h : List GB) (K : CK) :
    gcall gp n lk 115 [.d (eI l), F] h K = K (gb (l.any p)) h := by
  obtain ⟨n, rfl⟩ : ∃ m, n = m + 1 := ⟨n - 1, by omega⟩
  rw [F115_eq]
  simp only [kStd, F115_1, F115_2, F115, kNew, kSteps, kCmp, kEnv, kKont, kFld, kLen, kCall, kIsos, gloop_succ, cond_true, cond_false, Bool.not_true, Bool.not_false, Nat.reduceEqDiff, reduceIte, Nat.reduceAdd, List.length_map, hF, g175 (n := n) p F hF hp l hl (by omega) (by omega), fi_any]

theorem bxA (x : Aff) (h : List GB) (k : CK) : gbox true (.d (eA x)) h k = k (.d (.vptr [eA x] 0 0)) h := id rfl
theorem ldA0 (x : Aff) (h : List GB) : gload gp 48 (.d (.vptr [eA x] 0 0)) h = some (.d (eI x.c)) := id rfl
theorem ldA1 (x : Aff) (h : List GB) : gload gp 3 (.d (.vptr [eA x] 0 1)) h = some (gi x.k) := id rfl
theorem bdR (b : Bool) (c : Int) : gbuild gp 159 [(0, gb b), (1, gi c)] = some (.d (eR (b, c))) := id rfl
theorem bsR2 (x y : Bool × Int) : gbuildS gp 226 2 [(0, .d (eR x)), (1, .d (eR y))] = some (.xl ([x, y].map eR)) := id rfl
theorem bsR1 (x : Bool × Int) : gbuildS gp 226 1 [(0, .d (eR x))] = some (.xl ([x].map eR)) := id rfl
theorem bsE2 (x y : Int) : gbuildS gp 227 2 [(0, gi x), (1, gi y)] = some (.xl ([x, y].map di)) := id rfl

/-- The error of a form of so many variables. -/
def fErr (x : Aff) (cnt : Int) : Int := bif decide ((x.c.length : Int) = cnt) then (bif x.c.all okC && decide (-64 ≤ x.k ∧ x.k ≤ 64) then 0 else 2) else 10

theorem any_not (l : List Int) : (l.any fun x => !okC x) = !(l.all okC) := by
  induction l with
  | nil => rfl
  | cons x r ih => simp [ih]

theorem d168 (lk : Nat) : Pred lk 2 (.d (.fn (.func 168) [] [])) (fun x => !okC x) := fun n hn x h k => by
  have hm : (gp.mode 168).beq 0 = true := rfl
  rw [kDyn.1, hm, cond_true, List.append_nil]
  simp only [kNew, kSteps, kCmp, kEnv, kKont, kFld, kLen, kCall, kIsos, gloop_succ, cond_true, cond_false, Bool.not_true, Bool.not_false, Nat.reduceEqDiff, reduceIte, Nat.reduceAdd, List.length_map, g168 hn]
theorem c98 {n lk : Nat} (hn : 1000004 ≤ n) (l : List Int) (hl : l.length ≤ 1000000) (h : List GB) (K : CK) : gcall gp n lk 115 [.d (eI l), .d (.fn (.func 168) [] [])] h K = K (gb (!l.all okC)) h := by
  rw [g115 _ _ rfl (d168 lk) l hl (by omega) (by omega), any_not]
end Go.Proofs.YthnnjopilpgakaaGreat
namespace Go.Proofs.YthnnjopilpgakaaGreat
open Go.Gh

theorem g98 {n : Nat} (hn : 1000010 ≤ n) (lk : Nat) (x : Aff) (cnt : Int) (hx : x.c.length ≤ 1000000) (h : List GB) (K : CK) : gcall gp n lk 98 [.d (eA x), gi cnt] h K = K (gi (fErr x cnt)) h := by
  obtain ⟨n, rfl⟩ : ∃ m, n = m + 1 := ⟨n - 1, by omega⟩
  rw [F98_eq]
  have hc := fun h K => c98 (n := n) (lk := lk) (by omega) x.c hx h K
  simp only [kStd, F98_1, F98_2, F98_3, F98_4, F98_5, F98_6, F98_7, F98_8, F98_9, F98_10, F98_11, F98_12, F98_13, F98_14, F98_15, F98_16, F98_17, F98, kNew, kSteps, kCmp, kEnv, kKont, kFld, kLen, kCall, kIsos, gloop_succ, cond_true, cond_false, Bool.not_true, Bool.not_false, Nat.reduceEqDiff, reduceIte, Nat.reduceAdd, List.length_map, bxA, ldA0, ldA1, hc, Bool.not_not, bdR]
  unfold fErr
  cases hall : x.c.all okC with
  | true =>
    simp only [kStd, F98_1, F98_2, F98_3, F98_4, F98_5, F98_6, F98_7, F98_8, F98_9, F98_10, F98_11, F98_12, F98_13, F98_14, F98_15, F98_16, F98_17, F98, kNew, kSteps, kCmp, kEnv, kKont, kFld, kLen, kCall, kIsos, gloop_succ, cond_true, cond_false, Bool.not_true, Bool.not_false, Nat.reduceEqDiff, reduceIte, Nat.reduceAdd, List.length_map, g102 (n := n) (by omega), bdR, bsR2]
    rw [g94 _ (by simp; omega) (by simp)]
    simp only [kStd, F98_1, F98_2, F98_3, F98_4, F98_5, F98_6, F98_7, F98_8, F98_9, F98_10, F98_11, F98_12, F98_13, F98_14, F98_15, F98_16, F98_17, F98, kNew, kSteps, kCmp, kEnv, kKont, kFld, kLen, kCall, kIsos, gloop_succ, cond_true, cond_false, Bool.not_true, Bool.not_false, Nat.reduceEqDiff, reduceIte, Nat.reduceAdd, List.length_map, brk, Bool.true_and]
  | false =>
    simp only [kStd, F98_1, F98_2, F98_3, F98_4, F98_5, F98_6, F98_7, F98_8, F98_9, F98_10, F98_11, F98_12, F98_13, F98_14, F98_15, F98_16, F98_17, F98, kNew, kSteps, kCmp, kEnv, kKont, kFld, kLen, kCall, kIsos, gloop_succ, cond_true, cond_false, Bool.not_true, Bool.not_false, Nat.reduceEqDiff, reduceIte, Nat.reduceAdd, List.length_map, bdR, bsR2]
    rw [g94 _ (by simp; omega) (by simp)]
    simp only [kStd, F98_1, F98_2, F98_3, F98_4, F98_5, F98_6, F98_7, F98_8, F98_9, F98_10, F98_11, F98_12, F98_13, F98_14, F98_15, F98_16, F98_17, F98, kNew, kSteps, kCmp, kEnv, kKont, kFld, kLen, kCall, kIsos, gloop_succ, cond_true, cond_false, Bool.not_true, Bool.not_false, Nat.reduceEqDiff, reduceIte, Nat.reduceAdd, List.length_map, brk, Bool.false_and]

/-- The first that is not 0. -/
def orE : List Int → Int
  | [] => 0
  | x :: r => bif !decide (x = 0) then x else orE r
theorem ldE {l : List Int} {k : Nat} {x : Int} (h : l[k]? = some x) (H : List GB) : gload gp 30 (.d (.vptr (l.map di) k 0)) H = some (gi x) := by
  show (match (l.map di)[k]? with | some e => _ | none => _) = _
  rw [List.getElem?_map, h]; rfl

theorem l97 {call : Gh.Call} {n lk : Nat} (l : List Int) (hl : l.length ≤ 1000000) (h : List GB) (k : CK) (K : GX → St → Bool) (hE : ∀ e, e 3 = gi 0 → K (.exit 0) ⟨e, h⟩ = k (gi 0) h) (hR : ∀ e c, e 2 = gi c → K .ret ⟨e, h⟩ = k (gi c) h) :
    ∀ (r : List Int) (i m : Nat), l.drop i = r → i ≤ l.length → r.length < m → gloop (B97_0 (sX call n lk)) m { env := ofL [(3, gi 0), (6, .d (eI l)), (7, gi l.length), (8, gi i)], heap := h } K = k (gi (orE r)) h
  | [], i, m, hd, hi, hm => by
    obtain ⟨m, rfl⟩ : ∃ q, m = q + 1 := ⟨m - 1, by omega⟩
    have hge := drop_nil hd
    have hlt : decide ((i : Int) < (l.length : Int)) = false := decide_eq_false (by omega)
    simp only [kStd, B97_0_1, B97_0_2, B97_0_3, B97_0_4, B97_0_5, B97_0_6, B97_0_7, B97_0, kNew, kSteps, kCmp, kEnv, kKont, kFld, kLen, kCall, kIsos, gloop_succ, cond_true, cond_false, Bool.not_true, Bool.not_false, Nat.reduceEqDiff, reduceIte, Nat.reduceAdd, List.length_map, hlt, orE]
    exact hE _ rfl
  | x :: r, i, m, hd, hi, hm => by
    obtain ⟨m, rfl⟩ : ∃ q, m = q + 1 := ⟨m - 1, by omega⟩
    obtain ⟨h1, h2, h3, h4⟩ := drop_cons hd
    have ih := l97 (call := call) (n := n) (lk := lk) l hl h k K hE hR r (i + 1) m h3 (by omega) (by simp at hm; omega)
    have hlt : decide ((i : Int) < (l.length : Int)) = true := decide_eq_true (by omega)
    have hw := succ_nat (k := i) (by omega)
    have hx := idx227 (es := l.map di) (k := i) (by simpa using h1) (szI l)
    have hl := ldE h2
    cases hq : decide (x = 0) with
    | true => simp only [kStd, B97_0_1, B97_0_2, B97_0_3, B97_0_4, B97_0_5, B97_0_6, B97_0_7, B97_0, kNew, kSteps, kCmp, kEnv, kKont, kFld, kLen, kCall, kIsos, gloop_succ, cond_true, cond_false, Bool.not_true, Bool.not_false, Nat.reduceEqDiff, reduceIte, Nat.reduceAdd, List.length_map, hlt, hx, hl, hq, orE, hw, ih]
    | false =>
      simp only [kStd, B97_0_1, B97_0_2, B97_0_3, B97_0_4, B97_0_5, B97_0_6, B97_0_7, B97_0, kNew, kSteps, kCmp, kEnv, kKont, kFld, kLen, kCall, kIsos, gloop_succ, cond_true, cond_false, Bool.not_true, Bool.not_false, Nat.reduceEqDiff, reduceIte, Nat.reduceAdd, List.length_map, hlt, hx, hl, hq, orE]
      exact hR _ _ rfl

theorem g97 {n : Nat} (l : List Int) (hn : l.length + 1 ≤ n) (hl : l.length ≤ 1000000) (lk : Nat) (h : List GB) (K : CK) : gcall gp n lk 97 [.d (eI l)] h K = K (gi (orE l)) h := by
  obtain ⟨n, rfl⟩ : ∃ m, n = m + 1 := ⟨n - 1, by omega⟩
  rw [F97_eq]
  simp only [kStd, F97_1, F97_2, F97, kNew, kSteps, kCmp, kEnv, kKont, kFld, kLen, kCall, kIsos, gloop_succ, cond_true, cond_false, Bool.not_true, Bool.not_false, Nat.reduceEqDiff, reduceIte, Nat.reduceAdd, List.length_map]
  exact l97 l hl h K _ (fun e he => by simp only [kStd, F97_1, F97_2, F97, kNew, kSteps, kCmp, kEnv, kKont, kFld, kLen, kCall, kIsos, gloop_succ, cond_true, cond_false, Bool.not_true, Bool.not_false, Nat.reduceEqDiff, reduceIte, Nat.reduceAdd, List.length_map, he]) (fun e c hc => by simp only [kKont, Tryz.results97, kRet_one, hc]) l 0 (n + 1) rfl (by omega) (by omega)

theorem bxL (x : Lp) (h : List GB) (k : CK) : gbox true (.d (eL x)) h k = k (.d (.vptr [eL x] 0 0)) h := id rfl
theorem giL (x : Lp) (H : List GB) (k : GV → List GB → Bool) : gI true 4 (.d (eL x)) H k = k (.d (.vptr [eL x] 0 0)) H := id rfl
theorem ldL0 (x : Lp) (h : List GB) : gload gp 123 (.d (.vptr [eL x] 0 0)) h = some (.d (eA x.lo)) := id rfl
theorem ldL1 (x : Lp) (h : List GB) : gload gp 123 (.d (.vptr [eL x] 0 2)) h = some (.d (eA x.hi)) := id rfl
theorem ldLL (x : Lp) (h : List GB) : gload gp 125 (.d (.vptr [eL x] 0 0)) h = some (.d (eL x)) := id rfl
theorem ldL {l : List Lp} {k : Nat} {x : Lp} (h : l[k]? = some x) (H : List GB) : gload gp 125 (.d (.vptr (l.map eL) k 0)) H = some (.d (eL x)) := by
  show (match (l.map eL)[k]? with | some e => _ | none => _) = _
  rw [List.getElem?_map, h]; rfl
theorem ldLlo {l : List Lp} {k : Nat} {x : Lp} (h : l[k]? = some x) (H : List GB) : gload gp 123 (.d (.vptr (l.map eL) k 0)) H = some (.d (eA x.lo)) := by
  show (match (l.map eL)[k]? with | some e => _ | none => _) = _
  rw [List.getElem?_map, h]; rfl
theorem ldLhi {l : List Lp} {k : Nat} {x : Lp} (h : l[k]? = some x) (H : List GB) : gload gp 123 (.d (.vptr (l.map eL) k 2)) H = some (.d (eA x.hi)) := by
  show (match (l.map eL)[k]? with | some e => _ | none => _) = _
  rw [List.getElem?_map, h]; rfl

/-- The error of a loop with its number. -/
def lErr (i : Int) (x : Lp) : Int := orE [fErr x.lo i, fErr x.hi i]
def okL (x : Lp) : Prop := x.lo.c.length ≤ 1000000 ∧ x.hi.c.length ≤ 1000000
theorem g96 {n : Nat} (hn : 1000020 ≤ n) (lk : Nat) (i : Int) (x : Lp) (hx : okL x) (h : List GB) (K : CK) : gcall gp n lk 96 [gi i, .d (eL x)] h K = K (gi (lErr i x)) h := by
  obtain ⟨n, rfl⟩ : ∃ m, n = m + 1 := ⟨n - 1, by omega⟩
  rw [F96_eq]
  simp only [kStd, F96_1, F96_2, F96_3, F96_4, F96_5, F96_6, F96_7, F96_8, F96_9, F96, kNew, kSteps, kCmp, kEnv, kKont, kFld, kLen, kCall, kIsos, gloop_succ, cond_true, cond_false, Bool.not_true, Bool.not_false, Nat.reduceEqDiff, reduceIte, Nat.reduceAdd, List.length_map, bxL, ldL0, ldL1, g98 (n := n) (by omega) _ x.lo _ hx.1, g98 (n := n) (by omega) _ x.hi _ hx.2, bsE2]
  rw [g97 _ (by simp; omega) (by simp)]
  simp only [kStd, F96_1, F96_2, F96_3, F96_4, F96_5, F96_6, F96_7, F96_8, F96_9, F96, kNew, kSteps, kCmp, kEnv, kKont, kFld, kLen, kCall, kIsos, gloop_succ, cond_true, cond_false, Bool.not_true, Bool.not_false, Nat.reduceEqDiff, reduceIte, Nat.reduceAdd, List.length_map, lErr]
theorem d96 {n lk : Nat} (hn : 1000020 ≤ n) (i : Int) (x : Lp) (hx : okL x) (h : List GB) (k : CK) : gdyn gp (gcall gp n) lk (.d (.fn (.func 96) [] [])) [gi i, .d (eL x)] h k = k (gi (lErr i x)) h := by
  have hm : (gp.mode 96).beq 0 = true := rfl
  rw [kDyn.1, hm, cond_true, List.append_nil]
  simp only [kNew, kSteps, kCmp, kEnv, kKont, kFld, kLen, kCall, kIsos, gloop_succ, cond_true, cond_false, Bool.not_true, Bool.not_false, Nat.reduceEqDiff, reduceIte, Nat.reduceAdd, List.length_map, g96 hn _ i x hx]

/-- The first item that has an error, with it. -/
def fb {α : Type} (e : Int → α → Int) : Nat → List α → Int × Int
  | _, [] => (0, 0)
  | i, x :: r => bif decide (e i x = 0) then fb e (i + 1) r else ((i : Int), e i x)

theorem l95 {call : Gh.Call} {n lk : Nat} (ef : Int → Lp → Int) (F : GV) (hF : noNew F = F) (P : Lp → Prop) (hp : ∀ i x h k, P x → gdyn gp call lk F [gi i, .d (eL x)] h k = k (gi (ef i x)) h) (l : List Lp) (hP : ∀ x ∈ l, P x) (hl : l.length ≤ 1000000) (h : List GB) (k : CK) (K : GX → St → Bool)
    (hE : ∀ e, K (.exit 0) ⟨e, h⟩ = k (.tup [gi 0, gi 0]) h) (hR : ∀ e a c, e 4 = gi a → e 5 = gi c → K .ret ⟨e, h⟩ = k (.tup [gi a, gi c]) h) :
    ∀ (r : List Lp) (i m : Nat), l.drop i = r → i ≤ l.length → r.length < m → gloop (B95_0 (sX call n lk)) m { env := ofL [(1, F), (9, .d (eN l)), (10, gi l.length), (11, gi i)], heap := h } K = k (.tup [gi (fb ef i r).1, gi (fb ef i r).2]) h
  | [], i, m, hd, hi, hm => by
    obtain ⟨m, rfl⟩ : ∃ q, m = q + 1 := ⟨m - 1, by omega⟩
    have hge := drop_nil hd
    have hlt : decide ((i : Int) < (l.length : Int)) = false := decide_eq_false (by omega)
    simp only [kStd, B95_0_1, B95_0_2, B95_0_3, B95_0_4, B95_0_5, B95_0_6, B95_0_7, B95_0_8, B95_0_9, B95_0_10, B95_0, kNew, kSteps, kCmp, kEnv, kKont, kFld, kLen, kCall, kIsos, gloop_succ, cond_true, cond_false, Bool.not_true, Bool.not_false, Nat.reduceEqDiff, reduceIte, Nat.reduceAdd, List.length_map, hlt, hE, fb]
  | x :: r, i, m, hd, hi, hm => by
    obtain ⟨m, rfl⟩ : ∃ q, m = q + 1 := ⟨m - 1, by omega⟩
    obtain ⟨h1, h2, h3, h4⟩ := drop_cons hd
    have ih := l95 (call := call) (n := n) (lk := lk) ef F hF P hp l hP hl h k K hE hR r (i + 1) m h3 (by omega) (by simp at hm; omega)
    have hlt : decide ((i : Int) < (l.length : Int)) = true := decide_eq_true (by omega)
    have hw := succ_nat (k := i) (by omega)
    have hx := idx22 (es := l.map eL) (k := i) (by simpa using h1) (szL l)
    have hl := ldL h2
    have hpx := fun h k => hp i x h k (hP x (List.mem_of_getElem? h2))
    cases hq : decide (ef i x = 0) with
    | true => simp only [kStd, B95_0_1, B95_0_2, B95_0_3, B95_0_4, B95_0_5, B95_0_6, B95_0_7, B95_0_8, B95_0_9, B95_0_10, B95_0, kNew, kSteps, kCmp, kEnv, kKont, kFld, kLen, kCall, kIsos, gloop_succ, cond_true, cond_false, Bool.not_true, Bool.not_false, Nat.reduceEqDiff, reduceIte, Nat.reduceAdd, List.length_map, hlt, hx, hl, giL, ldLL, hF, hpx, hq, fb, hw, ih]
    | false =>
      simp only [kStd, B95_0_1, B95_0_2, B95_0_3, B95_0_4, B95_0_5, B95_0_6, B95_0_7, B95_0_8, B95_0_9, B95_0_10, B95_0, kNew, kSteps, kCmp, kEnv, kKont, kFld, kLen, kCall, kIsos, gloop_succ, cond_true, cond_false, Bool.not_true, Bool.not_false, Nat.reduceEqDiff, reduceIte, Nat.reduceAdd, List.length_map, hlt, hx, hl, giL, ldLL, hF, hpx, hq, fb]
      exact hR _ _ _ rfl rfl

theorem g95 {n lk B : Nat} (ef : Int → Lp → Int) (F : GV) (hF : noNew F = F) (P : Lp → Prop) (hp : ∀ n, B ≤ n → ∀ i x h k, P x → gdyn gp (gcall gp n) lk F [gi i, .d (eL x)] h k = k (gi (ef i x)) h) (l : List Lp) (hP : ∀ x ∈ l, P x) (hl : l.length ≤ 1000000) (hn : 1000002 ≤ n) (hB : B + 1 ≤ n) (h : List GB) (K : CK) :
    gcall gp n lk 95 [.d (eN l), F] h K = K (.tup [gi (fb ef 0 l).1, gi (fb ef 0 l).2]) h := by
  obtain ⟨n, rfl⟩ : ∃ m, n = m + 1 := ⟨n - 1, by omega⟩
  rw [F95_eq]
  simp only [kStd, F95_1, F95_2, F95, kNew, kSteps, kCmp, kEnv, kKont, kFld, kLen, kCall, kIsos, gloop_succ, cond_true, cond_false, Bool.not_true, Bool.not_false, Nat.reduceEqDiff, reduceIte, Nat.reduceAdd, List.length_map, hF]
  exact l95 ef F hF P (hp n (by omega)) l hP hl h K _ (fun e => by simp only [kStd, F95_1, F95_2, F95, kNew, kSteps, kCmp, kEnv, kKont, kFld, kLen, kCall, kIsos, gloop_succ, cond_true, cond_false, Bool.not_true, Bool.not_false, Nat.reduceEqDiff, reduceIte, Nat.reduceAdd, List.length_map]) (fun e a c ha hc => by simp only [kKont, Tryz.results95, kRet_two, ha, hc]) l 0 (n + 1) rfl (by omega) (by omega)
end Go.Proofs.YthnnjopilpgakaaGreat
namespace Go.Proofs.YthnnjopilpgakaaGreat
open Go.Gh

abbrev w64 (n : Int) : Int := IntKind.i64.wrap n
/-- The value of a form at the first values of a point, as the machine reckons it. -/
def vW : Int → List Int → List Int → Int
  | a, c :: cs, q :: qs => vW (w64 (a + w64 (c * q))) cs qs
  | a, _, _ => a

theorem l172 {call : Gh.Call} {n lk : Nat} (c p : List Int) (P : DV) (hP : p ≠ [] → P = eI p) (hp : c.length ≤ p.length) (hl : c.length ≤ 1000000) (h : List GB) (k : CK) (K : GX → St → Bool) (hE : ∀ e v, e 5 = gi v → K (.exit 0) ⟨e, h⟩ = k (gi v) h) :
    ∀ (r : List Int) (i m : Nat) (a : Int), c.drop i = r → i ≤ c.length → r.length < m → gloop (B172_0 (sX call n lk)) m { env := ofL [(1, .d P), (5, gi a), (11, .d (eI c)), (12, gi c.length), (13, gi i)], heap := h } K = k (gi (vW a r (p.drop i))) h
  | [], i, m, a, hd, hi, hm => by
    obtain ⟨m, rfl⟩ : ∃ q, m = q + 1 := ⟨m - 1, by omega⟩
    have hge := drop_nil hd
    have hlt : decide ((i : Int) < (c.length : Int)) = false := decide_eq_false (by omega)
    simp only [kStd, B172_0_1, B172_0_2, B172_0_3, B172_0_4, B172_0_5, B172_0_6, B172_0_7, B172_0_8, B172_0_9, B172_0, kNew, kSteps, kCmp, kEnv, kKont, kFld, kLen, kCall, kIsos, gloop_succ, cond_true, cond_false, Bool.not_true, Bool.not_false, Nat.reduceEqDiff, reduceIte, Nat.reduceAdd, List.length_map, hlt, vW]
    exact hE _ _ rfl
  | x :: r, i, m, a, hd, hi, hm => by
    obtain ⟨m, rfl⟩ : ∃ q, m = q + 1 := ⟨m - 1, by omega⟩
    obtain ⟨h1, h2, h3, h4⟩ := drop_cons hd
    have ih := fun a => l172 (call := call) (n := n) (lk := lk) c p P hP hp hl h k K hE r (i + 1) m a h3 (by omega) (by simp at hm; omega)
    have hlt : decide ((i : Int) < (c.length : Int)) = true := decide_eq_true (by omega)
    have hw := succ_nat (k := i) (by omega)
    have hx := idx48 (es := c.map di) (k := i) (by simpa using h1) (szI c)
    have hPe := hP (fun q => by have := congrArg List.length q; simp only [List.length_nil] at this; omega)
    subst hPe
    have hx2 := idx48 (es := p.map di) (k := i) (by simp; omega) (szI p)
    have hl := ldI h2
    have hq : p[i]? = some (p[i]'(by omega)) := List.getElem?_eq_getElem (by omega)
    have hl2 := ldI hq
    rw [List.drop_eq_getElem_cons (show i < p.length by omega)]
    simp only [kStd, B172_0_1, B172_0_2, B172_0_3, B172_0_4, B172_0_5, B172_0_6, B172_0_7, B172_0_8, B172_0_9, B172_0, kNew, kSteps, kCmp, kEnv, kKont, kFld, kLen, kCall, kIsos, gloop_succ, cond_true, cond_false, Bool.not_true, Bool.not_false, Nat.reduceEqDiff, reduceIte, Nat.reduceAdd, List.length_map, hlt, hx, hl, hx2, hl2, hw, ih, vW]

def okA (x : Aff) (p : List Int) : Prop := x.c.length ≤ p.length ∧ x.c.length ≤ 1000000
theorem g172 {n : Nat} (hn : 1000001 ≤ n) (lk : Nat) (x : Aff) (p : List Int) (P : DV) (hP : p ≠ [] → P = eI p) (hx : okA x p) (h : List GB) (K : CK) : gcall gp n lk 172 [.d (eA x), .d P] h K = K (gi (vW x.k x.c p)) h := by
  obtain ⟨n, rfl⟩ : ∃ m, n = m + 1 := ⟨n - 1, by omega⟩
  have hx2 := hx.2
  rw [F172_eq]
  simp only [kStd, F172_1, F172_2, F172_3, F172_4, F172_5, F172_6, F172_7, F172, kNew, kSteps, kCmp, kEnv, kKont, kFld, kLen, kCall, kIsos, gloop_succ, cond_true, cond_false, Bool.not_true, Bool.not_false, Nat.reduceEqDiff, reduceIte, Nat.reduceAdd, List.length_map, bxA, ldA0, ldA1]
  exact l172 x.c p P hP hx.1 hx.2 h K _ (fun e v he => by simp only [kStd, F172_1, F172_2, F172_3, F172_4, F172_5, F172_6, F172_7, F172, kNew, kSteps, kCmp, kEnv, kKont, kFld, kLen, kCall, kIsos, gloop_succ, cond_true, cond_false, Bool.not_true, Bool.not_false, Nat.reduceEqDiff, reduceIte, Nat.reduceAdd, List.length_map, he]) x.c 0 (n + 1) x.k rfl (by omega) (by omega)

theorem l128 {call : Gh.Call} {n lk : Nat} (x : Aff) (p : List Int) (P : DV) (hP : p ≠ [] → P = eI p) (hp : okA x p) (h : List GB) (k : CK) (K : GX → St → Bool) (hE : ∀ e v, e 5 = gi v → K (.exit 0) ⟨e, h⟩ = k (gi v) h) :
    ∀ (r : List Int) (i m : Nat) (a : Int), x.c.drop i = r → i ≤ x.c.length → r.length < m → gloop (B128_0 (sX call n lk)) m { env := ofL [(1, .d P), (2, .d (.vptr [eA x] 0 0)), (5, gi a), (6, gi i)], heap := h } K = k (gi (vW a r (p.drop i))) h
  | [], i, m, a, hd, hi, hm => by
    obtain ⟨m, rfl⟩ : ∃ q, m = q + 1 := ⟨m - 1, by omega⟩
    have hge := drop_nil hd
    have hlt : decide ((i : Int) < (x.c.length : Int)) = false := decide_eq_false (by omega)
    simp only [kStd, B128_0_1, B128_0_2, B128_0_3, B128_0_4, B128_0_5, B128_0_6, B128_0_7, B128_0_8, B128_0_9, B128_0_10, B128_0_11, B128_0_12, B128_0_13, B128_0_14, B128_0, kNew, kSteps, kCmp, kEnv, kKont, kFld, kLen, kCall, kIsos, gloop_succ, cond_true, cond_false, Bool.not_true, Bool.not_false, Nat.reduceEqDiff, reduceIte, Nat.reduceAdd, List.length_map, ldA0, hlt, vW]
    exact hE _ _ rfl
  | c :: r, i, m, a, hd, hi, hm => by
    obtain ⟨m, rfl⟩ : ∃ q, m = q + 1 := ⟨m - 1, by omega⟩
    obtain ⟨h1, h2, h3, h4⟩ := drop_cons hd
    have ho1 := hp.1
    have ho2 := hp.2
    have ih := fun a => l128 (call := call) (n := n) (lk := lk) x p P hP hp h k K hE r (i + 1) m a h3 (by omega) (by simp at hm; omega)
    have hlt : decide ((i : Int) < (x.c.length : Int)) = true := decide_eq_true (by omega)
    have hw := succ_nat (k := i) (by omega)
    have hx := idx48 (es := x.c.map di) (k := i) (by simpa using h1) (szI x.c)
    have hPe := hP (fun q => by have := congrArg List.length q; simp only [List.length_nil] at this; omega)
    subst hPe
    have hx2 := idx48 (es := p.map di) (k := i) (by simp; omega) (szI p)
    have hl := ldI h2
    have hq : p[i]? = some (p[i]'(by omega)) := List.getElem?_eq_getElem (by omega)
    have hl2 := ldI hq
    rw [List.drop_eq_getElem_cons (show i < p.length by omega)]
    simp only [kStd, B128_0_1, B128_0_2, B128_0_3, B128_0_4, B128_0_5, B128_0_6, B128_0_7, B128_0_8, B128_0_9, B128_0_10, B128_0_11, B128_0_12, B128_0_13, B128_0_14, B128_0, kNew, kSteps, kCmp, kEnv, kKont, kFld, kLen, kCall, kIsos, gloop_succ, cond_true, cond_false, Bool.not_true, Bool.not_false, Nat.reduceEqDiff, reduceIte, Nat.reduceAdd, List.length_map, ldA0, hlt, hx, hl, hx2, hl2, hw, ih, vW]

theorem g128 {n : Nat} (hn : 1000001 ≤ n) (lk : Nat) (x : Aff) (p : List Int) (P : DV) (hP : p ≠ [] → P = eI p) (hx : okA x p) (h : List GB) (K : CK) : gcall gp n lk 128 [.d (eA x), .d P] h K = K (gi (vW x.k x.c p)) h := by
  obtain ⟨n, rfl⟩ : ∃ m, n = m + 1 := ⟨n - 1, by omega⟩
  have hx2 := hx.2
  rw [F128_eq]
  simp only [kStd, F128_1, F128_2, F128_3, F128_4, F128, kNew, kSteps, kCmp, kEnv, kKont, kFld, kLen, kCall, kIsos, gloop_succ, cond_true, cond_false, Bool.not_true, Bool.not_false, Nat.reduceEqDiff, reduceIte, Nat.reduceAdd, List.length_map, bxA, ldA1]
  exact l128 x p P hP hx h K _ (fun e v he => by simp only [kStd, F128_1, F128_2, F128_3, F128_4, F128, kNew, kSteps, kCmp, kEnv, kKont, kFld, kLen, kCall, kIsos, gloop_succ, cond_true, cond_false, Bool.not_true, Bool.not_false, Nat.reduceEqDiff, reduceIte, Nat.reduceAdd, List.length_map, he]) x.c 0 (n + 1) x.k rfl (by omega) (by omega)

/-- The least and the greatest value of a form in hulls, as the machine reckons them. -/
def lW : Int → List Int → List (Int × Int) → Int
  | a, c :: cs, q :: qs => lW (w64 (a + min (w64 (c * q.1)) (w64 (c * q.2)))) cs qs
  | a, _, _ => a
def hW : Int → List Int → List (Int × Int) → Int
  | a, c :: cs, q :: qs => hW (w64 (a + max (w64 (c * q.1)) (w64 (c * q.2)))) cs qs
  | a, _, _ => a
theorem gmin_i (a b : Int) : gmin (gi a) [gi b] = some (gi (min a b)) := by
  show some (gi (if b < a then b else a)) = _
  congr 2; omega
theorem gmax_i (a b : Int) : gmax (gi a) [gi b] = some (gi (max a b)) := by
  show some (gi (if b > a then b else a)) = _
  congr 2; omega
theorem ldH0 {l : List (Int × Int)} {k : Nat} {x : Int × Int} (h : l[k]? = some x) (H : List GB) : gload gp 3 (.d (.vptr (l.map eH) k 0)) H = some (gi x.1) := by
  show (match (l.map eH)[k]? with | some e => _ | none => _) = _
  rw [List.getElem?_map, h]; rfl
theorem ldH1 {l : List (Int × Int)} {k : Nat} {x : Int × Int} (h : l[k]? = some x) (H : List GB) : gload gp 3 (.d (.vptr (l.map eH) k 1)) H = some (gi x.2) := by
  show (match (l.map eH)[k]? with | some e => _ | none => _) = _
  rw [List.getElem?_map, h]; rfl
theorem ldHH {l : List (Int × Int)} {k : Nat} {x : Int × Int} (h : l[k]? = some x) (H : List GB) : gload gp 98 (.d (.vptr (l.map eH) k 0)) H = some (.d (eH x)) := by
  show (match (l.map eH)[k]? with | some e => _ | none => _) = _
  rw [List.getElem?_map, h]; rfl

theorem l170 {call : Gh.Call} {n lk : Nat} (c : List Int) (p : List (Int × Int)) (hp : c.length ≤ p.length) (hl : c.length ≤ 1000000) (h : List GB) (k : CK) (K : GX → St → Bool) (hE : ∀ e v, e 5 = gi v → K (.exit 0) ⟨e, h⟩ = k (gi v) h) :
    ∀ (r : List Int) (i m : Nat) (a : Int), c.drop i = r → i ≤ c.length → r.length < m → gloop (B170_0 (sX call n lk)) m { env := ofL [(1, .d (eHs p)), (5, gi a), (11, .d (eI c)), (12, gi c.length), (13, gi i)], heap := h } K = k (gi (lW a r (p.drop i))) h
  | [], i, m, a, hd, hi, hm => by
    obtain ⟨m, rfl⟩ : ∃ q, m = q + 1 := ⟨m - 1, by omega⟩
    have hge := drop_nil hd
    have hlt : decide ((i : Int) < (c.length : Int)) = false := decide_eq_false (by omega)
    simp only [kStd, B170_0_1, B170_0_2, B170_0_3, B170_0_4, B170_0_5, B170_0_6, B170_0_7, B170_0_8, B170_0_9, B170_0_10, B170_0_11, B170_0_12, B170_0_13, B170_0_14, B170_0_15, B170_0, kNew, kSteps, kCmp, kEnv, kKont, kFld, kLen, kCall, kIsos, gloop_succ, cond_true, cond_false, Bool.not_true, Bool.not_false, Nat.reduceEqDiff, reduceIte, Nat.reduceAdd, List.length_map, hlt, lW]
    exact hE _ _ rfl
  | x :: r, i, m, a, hd, hi, hm => by
    obtain ⟨m, rfl⟩ : ∃ q, m = q + 1 := ⟨m - 1, by omega⟩
    obtain ⟨h1, h2, h3, h4⟩ := drop_cons hd
    have ih := fun a => l170 (call := call) (n := n) (lk := lk) c p hp hl h k K hE r (i + 1) m a h3 (by omega) (by simp at hm; omega)
    have hlt : decide ((i : Int) < (c.length : Int)) = true := decide_eq_true (by omega)
    have hw := succ_nat (k := i) (by omega)
    have hx := idx48 (es := c.map di) (k := i) (by simpa using h1) (szI c)
    have hx2 := idx56 (es := p.map eH) (k := i) (by simp; omega) (szH p)
    have hl := ldI h2
    have hq : p[i]? = some (p[i]'(by omega)) := List.getElem?_eq_getElem (by omega)
    have hl2 := ldH0 hq
    have hl3 := ldH1 hq
    rw [List.drop_eq_getElem_cons (show i < p.length by omega)]
    simp only [kStd, B170_0_1, B170_0_2, B170_0_3, B170_0_4, B170_0_5, B170_0_6, B170_0_7, B170_0_8, B170_0_9, B170_0_10, B170_0_11, B170_0_12, B170_0_13, B170_0_14, B170_0_15, B170_0, kNew, kSteps, kCmp, kEnv, kKont, kFld, kLen, kCall, kIsos, gloop_succ, cond_true, cond_false, Bool.not_true, Bool.not_false, Nat.reduceEqDiff, reduceIte, Nat.reduceAdd, List.length_map, hlt, hx, hl, hx2, hl2, hl3, hw, ih, lW, gmin_i]
theorem l171 {call : Gh.Call} {n lk : Nat} (c : List Int) (p : List (Int × Int)) (hp : c.length ≤ p.length) (hl : c.length ≤ 1000000) (h : List GB) (k : CK) (K : GX → St → Bool) (hE : ∀ e v, e 5 = gi v → K (.exit 0) ⟨e, h⟩ = k (gi v) h) :
    ∀ (r : List Int) (i m : Nat) (a : Int), c.drop i = r → i ≤ c.length → r.length < m → gloop (B171_0 (sX call n lk)) m { env := ofL [(1, .d (eHs p)), (5, gi a), (11, .d (eI c)), (12, gi c.length), (13, gi i)], heap := h } K = k (gi (hW a r (p.drop i))) h
  | [], i, m, a, hd, hi, hm => by
    obtain ⟨m, rfl⟩ : ∃ q, m = q + 1 := ⟨m - 1, by omega⟩
    have hge := drop_nil hd
    have hlt : decide ((i : Int) < (c.length : Int)) = false := decide_eq_false (by omega)
    simp only [kStd, B171_0_1, B171_0_2, B171_0_3, B171_0_4, B171_0_5, B171_0_6, B171_0_7, B171_0_8, B171_0_9, B171_0_10, B171_0_11, B171_0_12, B171_0_13, B171_0_14, B171_0_15, B171_0, kNew, kSteps, kCmp, kEnv, kKont, kFld, kLen, kCall, kIsos, gloop_succ, cond_true, cond_false, Bool.not_true, Bool.not_false, Nat.reduceEqDiff, reduceIte, Nat.reduceAdd, List.length_map, hlt, hW]
    exact hE _ _ rfl
  | x :: r, i, m, a, hd, hi, hm => by
    obtain ⟨m, rfl⟩ : ∃ q, m = q + 1 := ⟨m - 1, by omega⟩
    obtain ⟨h1, h2, h3, h4⟩ := drop_cons hd
    have ih := fun a => l171 (call := call) (n := n) (lk := lk) c p hp hl h k K hE r (i + 1) m a h3 (by omega) (by simp at hm; omega)
    have hlt : decide ((i : Int) < (c.length : Int)) = true := decide_eq_true (by omega)
    have hw := succ_nat (k := i) (by omega)
    have hx := idx48 (es := c.map di) (k := i) (by simpa using h1) (szI c)
    have hx2 := idx56 (es := p.map eH) (k := i) (by simp; omega) (szH p)
    have hl := ldI h2
    have hq : p[i]? = some (p[i]'(by omega)) := List.getElem?_eq_getElem (by omega)
    have hl2 := ldH0 hq
    have hl3 := ldH1 hq
    rw [List.drop_eq_getElem_cons (show i < p.length by omega)]
    simp only [kStd, B171_0_1, B171_0_2, B171_0_3, B171_0_4, B171_0_5, B171_0_6, B171_0_7, B171_0_8, B171_0_9, B171_0_10, B171_0_11, B171_0_12, B171_0_13, B171_0_14, B171_0_15, B171_0, kNew, kSteps, kCmp, kEnv, kKont, kFld, kLen, kCall, kIsos, gloop_succ, cond_true, cond_false, Bool.not_true, Bool.not_false, Nat.reduceEqDiff, reduceIte, Nat.reduceAdd, List.length_map, hlt, hx, hl, hx2, hl2, hl3, hw, ih, hW, gmax_i]

def okH (x : Aff) (p : List (Int × Int)) : Prop := x.c.length ≤ p.length ∧ x.c.length ≤ 1000000
theorem g170 {n : Nat} (hn : 1000001 ≤ n) (lk : Nat) (x : Aff) (p : List (Int × Int)) (hx : okH x p) (h : List GB) (K : CK) : gcall gp n lk 170 [.d (eA x), .d (eHs p)] h K = K (gi (lW x.k x.c p)) h := by
  obtain ⟨n, rfl⟩ : ∃ m, n = m + 1 := ⟨n - 1, by omega⟩
  have hx2 := hx.2
  rw [F170_eq]
  simp only [kStd, F170_1, F170_2, F170_3, F170_4, F170_5, F170_6, F170_7, F170, kNew, kSteps, kCmp, kEnv, kKont, kFld, kLen, kCall, kIsos, gloop_succ, cond_true, cond_false, Bool.not_true, Bool.not_false, Nat.reduceEqDiff, reduceIte, Nat.reduceAdd, List.length_map, bxA, ldA0, ldA1]
  exact l170 x.c p hx.1 hx.2 h K _ (fun e v he => by simp only [kStd, F170_1, F170_2, F170_3, F170_4, F170_5, F170_6, F170_7, F170, kNew, kSteps, kCmp, kEnv, kKont, kFld, kLen, kCall, kIsos, gloop_succ, cond_true, cond_false, Bool.not_true, Bool.not_false, Nat.reduceEqDiff, reduceIte, Nat.reduceAdd, List.length_map, he]) x.c 0 (n + 1) x.k rfl (by omega) (by omega)
theorem g171 {n : Nat} (hn : 1000001 ≤ n) (lk : Nat) (x : Aff) (p : List (Int × Int)) (hx : okH x p) (h : List GB) (K : CK) : gcall gp n lk 171 [.d (eA x), .d (eHs p)] h K = K (gi (hW x.k x.c p)) h := by
  obtain ⟨n, rfl⟩ : ∃ m, n = m + 1 := ⟨n - 1, by omega⟩
  have hx2 := hx.2
  rw [F171_eq]
  simp only [kStd, F171_1, F171_2, F171_3, F171_4, F171_5, F171_6, F171_7, F171, kNew, kSteps, kCmp, kEnv, kKont, kFld, kLen, kCall, kIsos, gloop_succ, cond_true, cond_false, Bool.not_true, Bool.not_false, Nat.reduceEqDiff, reduceIte, Nat.reduceAdd, List.length_map, bxA, ldA0, ldA1]
  exact l171 x.c p hx.1 hx.2 h K _ (fun e v he => by simp only [kStd, F171_1, F171_2, F171_3, F171_4, F171_5, F171_6, F171_7, F171, kNew, kSteps, kCmp, kEnv, kKont, kFld, kLen, kCall, kIsos, gloop_succ, cond_true, cond_false, Bool.not_true, Bool.not_false, Nat.reduceEqDiff, reduceIte, Nat.reduceAdd, List.length_map, he]) x.c 0 (n + 1) x.k rfl (by omega) (by omega)
end Go.Proofs.YthnnjopilpgakaaGreat
namespace Go.Proofs.YthnnjopilpgakaaGreat
open Go.Gh

theorem bdH (a b : Int) : gbuild gp 98 [(0, gi a), (1, gi b)] = some (.d (eH (a, b))) := id rfl
theorem bsH1 (x : Int × Int) : gbuildS gp 56 1 [(0, .d (eH x))] = some (.xl ([x].map eH)) := id rfl
theorem apH (acc : List (Int × Int)) (x : Int × Int) (hl : acc.length ≤ 1000000) (k : CK) : gappend gp 0 56 (.tl (acc.map eH) 0) (.xl ([x].map eH)) [.tail acc.length 2] k = k (.tl ((acc ++ [x]).map eH) 0) [.tail (acc ++ [x]).length 2] := by
  rw [app56 (fun _ => rfl) (by simp) (Nat.le_refl _) (szH [x]) (by simp; omega)]
  simp

/-- The hulls of loops behind others. -/
def hls : List Lp → List (Int × Int) → List (Int × Int)
  | [], acc => acc
  | l :: r, acc => hls r (acc ++ [(lW l.lo.k l.lo.c acc, hW l.hi.k l.hi.c acc)])
/-- Each loop's bounds have as many coefficients as loops stand round it. -/
def Fit (n : List Lp) : Prop := ∀ (i : Nat) (x : Lp), n[i]? = some x → x.lo.c.length = i ∧ x.hi.c.length = i

theorem l100 {n lk : Nat} (l : List Lp) (hf : Fit l) (hn : 1000001 ≤ n) (hl : l.length ≤ 1000) (k : CK) (K : GX → St → Bool) (hE : ∀ e a t h, e 3 = .tl (a.map eH) t → K (.exit 0) ⟨e, h⟩ = k (.d (eHs a)) []) :
    ∀ (r : List Lp) (i m : Nat) (acc : List (Int × Int)), l.drop i = r → i ≤ l.length → acc.length = i → r.length < m → gloop (B100_0 (sX (gcall gp n) n 0)) m { env := ofL [(3, .tl (acc.map eH) 0), (6, .d (eN l)), (7, gi l.length), (8, gi i)], heap := [.tail acc.length 2] } K = k (.d (eHs (hls r acc))) []
  | [], i, m, acc, hd, hi, ha, hm => by
    obtain ⟨m, rfl⟩ : ∃ q, m = q + 1 := ⟨m - 1, by omega⟩
    have hge := drop_nil hd
    have hlt : decide ((i : Int) < (l.length : Int)) = false := decide_eq_false (by omega)
    simp only [kStd, B100_0_1, B100_0_2, B100_0_3, B100_0_4, B100_0_5, B100_0_6, B100_0_7, B100_0_8, B100_0_9, B100_0_10, B100_0_11, B100_0_12, B100_0_13, B100_0_14, B100_0_15, B100_0, kNew, kSteps, kCmp, kEnv, kKont, kFld, kLen, kCall, kIsos, gloop_succ, cond_true, cond_false, Bool.not_true, Bool.not_false, Nat.reduceEqDiff, reduceIte, Nat.reduceAdd, List.length_map, hlt, hls]
    exact hE _ _ _ _ rfl
  | x :: r, i, m, acc, hd, hi, ha, hm => by
    obtain ⟨m, rfl⟩ : ∃ q, m = q + 1 := ⟨m - 1, by omega⟩
    obtain ⟨h1, h2, h3, h4⟩ := drop_cons hd
    have ih := fun a b => l100 (n := n) (lk := lk) l hf hn hl k K hE r (i + 1) m a h3 (by omega) b (by simp at hm; omega)
    have hlt : decide ((i : Int) < (l.length : Int)) = true := decide_eq_true (by omega)
    have hw := succ_nat (k := i) (by omega)
    have hx := idx23 (es := l.map eL) (k := i) (by simpa using h1) (szL l)
    have hl2 := ldL h2
    obtain ⟨f1, f2⟩ := hf i x h2
    have q1 := g170 hn 0 x.lo acc ⟨by omega, by omega⟩
    have q2 := g171 hn 0 x.hi acc ⟨by omega, by omega⟩
    have q3 := apH acc (lW x.lo.k x.lo.c acc, hW x.hi.k x.hi.c acc) (by omega)
    simp only [kStd, B100_0_1, B100_0_2, B100_0_3, B100_0_4, B100_0_5, B100_0_6, B100_0_7, B100_0_8, B100_0_9, B100_0_10, B100_0_11, B100_0_12, B100_0_13, B100_0_14, B100_0_15, B100_0, kNew, kSteps, kCmp, kEnv, kKont, kFld, kLen, kCall, kIsos, gloop_succ, cond_true, cond_false, Bool.not_true, Bool.not_false, Nat.reduceEqDiff, reduceIte, Nat.reduceAdd, List.length_map, hlt, hx, hl2, giL, ldL0, ldL1, q1, q2, bdH, bsH1]
    rw [q3]
    simp only [kStd, B100_0_1, B100_0_2, B100_0_3, B100_0_4, B100_0_5, B100_0_6, B100_0_7, B100_0_8, B100_0_9, B100_0_10, B100_0_11, B100_0_12, B100_0_13, B100_0_14, B100_0_15, B100_0, kNew, kSteps, kCmp, kEnv, kKont, kFld, kLen, kCall, kIsos, gloop_succ, cond_true, cond_false, Bool.not_true, Bool.not_false, Nat.reduceEqDiff, reduceIte, Nat.reduceAdd, List.length_map, hw, hls]
    exact ih _ (by simp; omega)

theorem g100 {n : Nat} (hn : 1000002 ≤ n) (l : List Lp) (hf : Fit l) (hl : l.length ≤ 1000) (h : List GB) (k : CK) : gcall gp n 0 100 [.d (eN l)] [] (kIso h k) = k (.d (eHs (hls l []))) h := by
  obtain ⟨n, rfl⟩ : ∃ m, n = m + 1 := ⟨n - 1, by omega⟩
  rw [F100_eq]
  simp only [kStd, F100_1, F100_2, F100_3, F100, kNew, kSteps, kCmp, kEnv, kKont, kFld, kLen, kCall, kIsos, gloop_succ, cond_true, cond_false, Bool.not_true, Bool.not_false, Nat.reduceEqDiff, reduceIte, Nat.reduceAdd, List.length_map, List.length_nil, List.nil_append]
  exact l100 (lk := 0) l hf (by omega) hl (fun r _ => k r h) _ (fun e a t h he => by simp only [kStd, F100_1, F100_2, F100_3, F100, kNew, kSteps, kCmp, kEnv, kKont, kFld, kLen, kCall, kIsos, gloop_succ, cond_true, cond_false, Bool.not_true, Bool.not_false, Nat.reduceEqDiff, reduceIte, Nat.reduceAdd, List.length_map, he]) l 0 (n + 1) [] rfl (by omega) rfl (by omega)

theorem bxH (x : Int × Int) (h : List GB) (k : CK) : gbox true (.d (eH x)) h k = k (.d (.vptr [eH x] 0 0)) h := id rfl
theorem ldh0 (x : Int × Int) (h : List GB) : gload gp 3 (.d (.vptr [eH x] 0 0)) h = some (gi x.1) := id rfl
theorem ldh1 (x : Int × Int) (h : List GB) : gload gp 3 (.d (.vptr [eH x] 0 1)) h = some (gi x.2) := id rfl
/-- Is a hull too great? -/
def wide (x : Int × Int) : Bool := !decide (-1000 ≤ x.1 ∧ x.1 ≤ 1000) || !decide (-1000 ≤ x.2 ∧ x.2 ≤ 1000)
theorem g101 {n : Nat} (hn : 2 ≤ n) (lk : Nat) (x : Int × Int) (h : List GB) (K : CK) : gcall gp n lk 101 [.d (eH x)] h K = K (gb (wide x)) h := by
  obtain ⟨n, rfl⟩ : ∃ m, n = m + 1 := ⟨n - 1, by omega⟩
  rw [F101_eq]
  simp only [kStd, F101_1, F101_2, F101_3, F101_4, F101_5, F101_6, F101_7, F101_8, F101_9, F101_10, F101, kNew, kSteps, kCmp, kEnv, kKont, kFld, kLen, kCall, kIsos, gloop_succ, cond_true, cond_false, Bool.not_true, Bool.not_false, Nat.reduceEqDiff, reduceIte, Nat.reduceAdd, List.length_map, bxH, ldh0, ldh1, g102 (n := n) (by omega), wide]
  cases decide (-1000 ≤ x.1 ∧ x.1 ≤ 1000) with
  | true => simp only [kStd, F101_1, F101_2, F101_3, F101_4, F101_5, F101_6, F101_7, F101_8, F101_9, F101_10, F101, kNew, kSteps, kCmp, kEnv, kKont, kFld, kLen, kCall, kIsos, gloop_succ, cond_true, cond_false, Bool.not_true, Bool.not_false, Nat.reduceEqDiff, reduceIte, Nat.reduceAdd, List.length_map, ldh1, g102 (n := n) (by omega), Bool.false_or]
  | false => simp only [kStd, F101_1, F101_2, F101_3, F101_4, F101_5, F101_6, F101_7, F101_8, F101_9, F101_10, F101, kNew, kSteps, kCmp, kEnv, kKont, kFld, kLen, kCall, kIsos, gloop_succ, cond_true, cond_false, Bool.not_true, Bool.not_false, Nat.reduceEqDiff, reduceIte, Nat.reduceAdd, List.length_map, ldh1, g102 (n := n) (by omega), Bool.true_or]
def PredH (lk B : Nat) (F : GV) (p : Int × Int → Bool) : Prop := ∀ n, B ≤ n → ∀ x h k, gdyn gp (gcall gp n) lk F [.d (eH x)] h k = k (gb (p x)) h
theorem d101 (lk : Nat) : PredH lk 2 (.d (.fn (.func 101) [] [])) wide := fun n hn x h k => by
  have hm : (gp.mode 101).beq 0 = true := rfl
  rw [kDyn.1, hm, cond_true, List.append_nil]
  simp only [kNew, kSteps, kCmp, kEnv, kKont, kFld, kLen, kCall, kIsos, gloop_succ, cond_true, cond_false, Bool.not_true, Bool.not_false, Nat.reduceEqDiff, reduceIte, Nat.reduceAdd, List.length_map, g101 hn]

theorem l169 {call : Gh.Call} {n lk : Nat} (p : Int × Int → Bool) (F : GV) (hF : noNew F = F) (hp : ∀ x h k, gdyn gp call lk F [.d (eH x)] h k = k (gb (p x)) h) (l : List (Int × Int)) (hl : l.length ≤ 1000000) (h : List GB) (k : CK) (K : GX → St → Bool)
    (hE : ∀ e, K (.exit 0) ⟨e, h⟩ = k (gi (-1)) h) (hR : ∀ e c, e 4 = gi c → K .ret ⟨e, h⟩ = k (gi c) h) :
    ∀ (r : List (Int × Int)) (i m : Nat), l.drop i = r → i ≤ l.length → r.length < m → gloop (B169_0 (sX call n lk)) m { env := ofL [(0, .d (eHs l)), (1, F), (7, gi l.length), (8, gi i)], heap := h } K = k (gi (fi p i r)) h
  | [], i, m, hd, hi, hm => by
    obtain ⟨m, rfl⟩ : ∃ q, m = q + 1 := ⟨m - 1, by omega⟩
    have hge := drop_nil hd
    have hlt : decide ((i : Int) < (l.length : Int)) = false := decide_eq_false (by omega)
    simp only [kStd, B169_0_1, B169_0_2, B169_0_3, B169_0_4, B169_0_5, B169_0_6, B169_0_7, B169_0, kNew, kSteps, kCmp, kEnv, kKont, kFld, kLen, kCall, kIsos, gloop_succ, cond_true, cond_false, Bool.not_true, Bool.not_false, Nat.reduceEqDiff, reduceIte, Nat.reduceAdd, List.length_map, hlt, hE, fi]
  | x :: r, i, m, hd, hi, hm => by
    obtain ⟨m, rfl⟩ : ∃ q, m = q + 1 := ⟨m - 1, by omega⟩
    obtain ⟨h1, h2, h3, h4⟩ := drop_cons hd
    have ih := l169 (call := call) (n := n) (lk := lk) p F hF hp l hl h k K hE hR r (i + 1) m h3 (by omega) (by simp at hm; omega)
    have hlt : decide ((i : Int) < (l.length : Int)) = true := decide_eq_true (by omega)
    have hw := succ_nat (k := i) (by omega)
    have hx := idx56 (es := l.map eH) (k := i) (by simpa using h1) (szH l)
    have hl := ldHH h2
    cases hpx : p x with
    | true =>
      simp only [kStd, B169_0_1, B169_0_2, B169_0_3, B169_0_4, B169_0_5, B169_0_6, B169_0_7, B169_0, kNew, kSteps, kCmp, kEnv, kKont, kFld, kLen, kCall, kIsos, gloop_succ, cond_true, cond_false, Bool.not_true, Bool.not_false, Nat.reduceEqDiff, reduceIte, Nat.reduceAdd, List.length_map, hlt, hx, hl, hF, hp, fi, hpx]
      exact hR _ _ rfl
    | false => simp only [kStd, B169_0_1, B169_0_2, B169_0_3, B169_0_4, B169_0_5, B169_0_6, B169_0_7, B169_0, kNew, kSteps, kCmp, kEnv, kKont, kFld, kLen, kCall, kIsos, gloop_succ, cond_true, cond_false, Bool.not_true, Bool.not_false, Nat.reduceEqDiff, reduceIte, Nat.reduceAdd, List.length_map, hlt, hx, hl, hF, hp, fi, hpx, hw, ih]
theorem g169 {n lk B : Nat} (p : Int × Int → Bool) (F : GV) (hF : noNew F = F) (hp : PredH lk B F p) (l : List (Int × Int)) (hl : l.length ≤ 1000000) (hn : 1000002 ≤ n) (hB : B + 1 ≤ n) (h : List GB) (K : CK) :
    gcall gp n lk 169 [.d (eHs l), F] h K = K (gi (fi p 0 l)) h := by
  obtain ⟨n, rfl⟩ : ∃ m, n = m + 1 := ⟨n - 1, by omega⟩
  rw [F169_eq]
  simp only [kStd, F169_1, F169_2, F169, kNew, kSteps, kCmp, kEnv, kKont, kFld, kLen, kCall, kIsos, gloop_succ, cond_true, cond_false, Bool.not_true, Bool.not_false, Nat.reduceEqDiff, reduceIte, Nat.reduceAdd, List.length_map, hF]
  exact l169 p F hF (hp n (by omega)) l hl h K _ (fun e => rfl) (fun e c hc => by simp only [kKont, Tryz.results169, kRet_one, hc]) l 0 (n + 1) rfl (by omega) (by omega)
theorem g99 {n lk B : Nat} (p : Int × Int → Bool) (F : GV) (hF : noNew F = F) (hp : PredH lk B F p) (l : List (Int × Int)) (hl : l.length ≤ 1000000) (hn : 1000003 ≤ n) (hB : B + 2 ≤ n) (h : List GB) (K : CK) :
    gcall gp n lk 99 [.d (eHs l), F] h K = K (gb (l.any p)) h := by
  obtain ⟨n, rfl⟩ : ∃ m, n = m + 1 := ⟨n - 1, by omega⟩
  rw [F99_eq]
  simp only [kStd, F99_1, F99_2, F99, kNew, kSteps, kCmp, kEnv, kKont, kFld, kLen, kCall, kIsos, gloop_succ, cond_true, cond_false, Bool.not_true, Bool.not_false, Nat.reduceEqDiff, reduceIte, Nat.reduceAdd, List.length_map, hF, g169 (n := n) p F hF hp l hl (by omega) (by omega), fi_any]
end Go.Proofs.YthnnjopilpgakaaGreat
namespace Go.Proofs.YthnnjopilpgakaaGreat
open Go.Gh

theorem clip48 (l : List Int) : gslice gp 48 (.d (eI l)) none (some (gi l.length)) (some (gi l.length)) = some (.xl (l.map di)) := by
  have h1 : ∀ d, bnd (some (gi l.length)) d l.length = some l.length := fun d => by
    show (if 0 ≤ (l.length : Int) ∧ (l.length : Int) ≤ (l.length : Int) then some (l.length : Int).toNat else none) = _
    rw [if_pos (by omega)]; rfl
  show (bif szOk 1 (l.map di) then (match bnd (some (gi l.length)) 0 (l.map di).length with | some c => _ | none => none) else none) = _
  rw [szI, cond_true, List.length_map, h1]
  show (match bnd (some (gi l.length)) (l.map di).length l.length with | some j => _ | none => none) = _
  rw [List.length_map, h1]
  show (bif l.length.beq l.length then some (GV.xl (((l.map di).take l.length).drop 0)) else none) = _
  rw [Nat.beq_refl, cond_true, List.drop_zero, List.take_of_length_le (by simp)]
theorem clipNil : gslice gp 48 (.d (.lit nilS)) none (some (gi 0)) (some (gi 0)) = some (.xl []) := id rfl

theorem g173 {n : Nat} (hn : 1 ≤ n) (lk : Nat) (p : List Int) (P : DV) (hP : P = eI p ∨ P = .lit nilS ∧ p = []) (h : List GB) (K : CK) : gcall gp n lk 173 [.d P] h K = K (.xl (p.map di)) h := by
  obtain ⟨n, rfl⟩ : ∃ m, n = m + 1 := ⟨n - 1, by omega⟩
  rw [F173_eq]
  rcases hP with rfl | ⟨rfl, rfl⟩
  · simp only [kStd, F173_1, F173_2, F173_3, F173, kNew, kSteps, kCmp, kEnv, kKont, kFld, kLen, kCall, kIsos, gloop_succ, cond_true, cond_false, Bool.not_true, Bool.not_false, Nat.reduceEqDiff, reduceIte, Nat.reduceAdd, List.length_map, clip48]
  · simp only [kStd, F173_1, F173_2, F173_3, F173, kNew, kSteps, kCmp, kEnv, kKont, kFld, kLen, kCall, kIsos, gloop_succ, cond_true, cond_false, Bool.not_true, Bool.not_false, Nat.reduceEqDiff, reduceIte, Nat.reduceAdd, List.length_map, clipNil]
    rfl

theorem bsI1 (x : Int) : gbuildS gp 48 1 [(0, gi x)] = some (.xl ([x].map di)) := id rfl
theorem apI (p : List Int) (x : Int) (hl : p.length ≤ 1000000) (h : List GB) (k : CK) : gappend gp 0 48 (.xl (p.map di)) (.xl ([x].map di)) h k = k (.tl ((p ++ [x]).map di) h.length) (h ++ [.tail (p.length + 1) 1]) := by
  rw [apx48 (fun _ => rfl) (szI p) (szI [x]) (by simp; omega)]
  simp

/-- A point as it is handed on. -/
structure PV (V : GV) (p : List Int) (P : DV) : Prop where
  data : P = eI p ∨ P = .lit nilS ∧ p = []
  new : noNew V = V
  len : glen gp 48 V = some (gi p.length)
  c2 : ∀ (call : Gh.Call) g a h k, gcall0 call g [.d a, V] h k = call 0 g [.d a, .d P] [] (kIso h k)
  c1 : ∀ (call : Gh.Call) g h k, gcall0 call g [V] h k = call 0 g [.d P] [] (kIso h k)
theorem PV.tl (p : List Int) (t : Nat) : PV (.tl (p.map di) t) p (eI p) := ⟨.inl rfl, rfl, by rw [show glen gp 48 (.tl (p.map di) t) = some (gi (p.map di).length) from rfl, List.length_map], fun _ _ _ _ _ => rfl, fun _ _ _ _ => rfl⟩
theorem PV.nil : PV (.d (.lit nilS)) [] (.lit nilS) := ⟨.inr ⟨rfl, rfl⟩, rfl, rfl, fun _ _ _ _ _ => rfl, fun _ _ _ _ => rfl⟩
theorem PV.ne {V : GV} {p : List Int} {P : DV} (h : PV V p P) : p ≠ [] → P = eI p := fun hp => h.data.resolve_right fun q => hp q.2

def rng (a b : Int) : List Int := (List.range (b + 1 - a).toNat).map fun (i : Nat) => a + (i : Int)
theorem rng_nil {a b : Int} (h : b < a) : rng a b = [] := by
  unfold rng
  rw [show (b + 1 - a).toNat = 0 by omega]; rfl
theorem rng_cons {a b : Int} (h : a ≤ b) : rng a b = a :: rng (a + 1) b := by
  unfold rng
  rw [show (b + 1 - a).toNat = (b + 1 - (a + 1)).toNat + 1 by omega, List.range_succ_eq_map]
  simp only [List.map_cons, List.map_map]
  congr 1
  · omega
  · exact List.map_congr_left fun i _ => by simp only [Function.comp]; omega
/-- The points behind the first values of one. -/
def pts : List Lp → List Int → List (List Int)
  | [], p => [p]
  | l :: r, p => (rng (vW l.lo.k l.lo.c p) (vW l.hi.k l.hi.c p)).flatMap fun x => pts r (p ++ [x])

section
variable {σ : Type} (vis : σ → List Int → σ × Bool)
/-- Visits, until one says that it is enough. -/
def runV : σ → List (List Int) → σ × Bool
  | s, [] => (s, false)
  | s, p :: r => bif (vis s p).2 then ((vis s p).1, true) else runV (vis s p).1 r
theorem runV_append : ∀ (a b : List (List Int)) (s : σ), runV vis s (a ++ b) = bif (runV vis s a).2 then ((runV vis s a).1, true) else runV vis (runV vis s a).1 b
  | [], b, s => rfl
  | p :: r, b, s => by
    simp only [List.cons_append, runV]
    cases hq : (vis s p).2 with
    | true => rfl
    | false => simp only [cond_false]; exact runV_append r b _
end

-- how great the values are
def asum : List Int → Nat
  | [] => 0
  | x :: r => x.natAbs + asum r
theorem asum_snoc : ∀ (p : List Int) (x : Int), asum (p ++ [x]) = asum p + x.natAbs
  | [], x => by simp [asum]
  | y :: r, x => by simp only [List.cons_append, asum, asum_snoc r x]; omega
theorem vW_bound : ∀ (cs ps : List Int) (a : Int), cs.all okC = true → a.natAbs + 8 * asum ps ≤ 1000000 → (vW a cs ps).natAbs ≤ a.natAbs + 8 * asum ps
  | [], ps, a, _, _ => by cases ps <;> simp only [vW] <;> omega
  | c :: cs, [], a, _, _ => by simp only [vW]; omega
  | c :: cs, q :: qs, a, hc, hb => by
    simp only [List.all_cons, Bool.and_eq_true, okC, decide_eq_true_eq] at hc
    simp only [asum] at hb ⊢
    have h1 : (c * q).natAbs ≤ 8 * q.natAbs := by
      rw [Int.natAbs_mul]; exact Nat.mul_le_mul_right _ (by omega)
    have e1 : w64 (c * q) = c * q := wrap_in (by omega) (by omega)
    have e2 : w64 (a + c * q) = a + c * q := wrap_in (by omega) (by omega)
    simp only [vW, e1, e2]
    have ih := vW_bound cs qs (a + c * q) (by simpa [okC] using hc.2) (by omega)
    omega

/-- Bounds such as a valid nest has. -/
def tame (x : Aff) : Prop := x.c.all okC = true ∧ -64 ≤ x.k ∧ x.k ≤ 64
def Tame (n : List Lp) : Prop := ∀ x ∈ n, tame x.lo ∧ tame x.hi
theorem tame_val {x : Aff} (h : tame x) {p : List Int} (hp : asum p ≤ 640) : (vW x.k x.c p).natAbs ≤ 64 + 8 * asum p := by
  have h2 := h.2
  have := vW_bound x.c p x.k h.1 (by omega)
  omega
end Go.Proofs.YthnnjopilpgakaaGreat
namespace Go.Proofs.YthnnjopilpgakaaGreat
open Go.Gh

/-- A visitor: a function value, what it keeps, what it says. -/
structure Vis {σ : Type} (F : GV) (B L : Nat) (Inv : Nat → σ → List GB → Prop) (vis : σ → List Int → σ × Bool) : Prop where
  new : noNew F = F
  mono : ∀ c s h, Inv (c + 1) s h → Inv c s h
  app : ∀ c s h b, Inv c s h → Inv c s (h ++ [b])
  run : ∀ n, B ≤ n → ∀ c s h p t, Inv (c + 1) s h → p.length = L → ∃ h', Inv c (vis s p).1 h' ∧ ∀ k, gdyn gp (gcall gp n) 0 F [.tl (p.map di) t] h k = k (gb (vis s p).2) h'

theorem Vis.less {σ : Type} {F : GV} {B L : Nat} {Inv : Nat → σ → List GB → Prop} {vis : σ → List Int → σ × Bool} (V : Vis F B L Inv vis) {s : σ} {h : List GB} : ∀ (d c : Nat), Inv (c + d) s h → Inv c s h
  | 0, c, hi => hi
  | d + 1, c, hi => V.less d c (V.mono _ _ _ hi)

def capA : Nat → Nat
  | 0 => 0
  | k + 1 => 9 * capA k + 64

theorem gW {σ : Type} {F : GV} {B : Nat} {Inv : Nat → σ → List GB → Prop} {vis : σ → List Int → σ × Bool} (N : List Lp) (V : Vis F B N.length Inv vis) (hf : Fit N) (ht : Tame N) (hN : N.length ≤ 3) :
    ∀ (rest : List Lp) (p : List Int) (Vp : GV) (P : DV), PV Vp p P → N.drop p.length = rest → p.length ≤ N.length → asum p ≤ capA p.length → (rest = [] → ∃ t, Vp = .tl (p.map di) t) → ∀ (c : Nat) (s : σ) (h : List GB), Inv (c + (pts rest p).length) s h → ∀ n, B + 1000010 + rest.length ≤ n →
      ∃ h', Inv c (runV vis s (pts rest p)).1 h' ∧ ∀ K, gcall gp n 0 103 [.d (eN N), Vp, F] h K = K (gb (runV vis s (pts rest p)).2) h'
  | [], p, Vp, P, hV, hd, hp, ha, hnil, c, s, h, hI, n, hn => by
    obtain ⟨n, rfl⟩ : ∃ m, n = m + 1 := ⟨n - 1, by omega⟩
    obtain ⟨t, rfl⟩ := hnil rfl
    have hlen : p.length = N.length := by have := drop_nil hd; omega
    obtain ⟨h', h1, h2⟩ := V.run n (by simp at hn; omega) c s h p t hI hlen
    have he : decide ((p.length : Int) = (N.length : Int)) = true := decide_eq_true (by omega)
    refine ⟨h', ?_, fun K => ?_⟩
    · simp only [pts, runV]; cases (vis s p).2 <;> exact h1
    · rw [F103_eq]
      simp only [kStd, F103_1, F103_2, F103_3, F103_4, F103_5, F103_6, F103_7, F103_8, F103_9, F103_10, F103, kNew, kSteps, kCmp, kEnv, kKont, kFld, kLen, kCall, kIsos, gloop_succ, cond_true, cond_false, Bool.not_true, Bool.not_false, Nat.reduceEqDiff, reduceIte, Nat.reduceAdd, List.length_map, hV.new, hV.len, he, V.new, h2, pts, runV]
      cases (vis s p).2 <;> rfl
  | l :: r, p, Vp, P, hV, hd, hp, ha, hnil, c, s, h, hI, n, hn => by
    obtain ⟨n, rfl⟩ : ∃ m, n = m + 1 := ⟨n - 1, by omega⟩
    obtain ⟨h1, h2, h3, h4⟩ := drop_cons hd
    simp only [List.length_cons] at hn h4
    have he : decide ((p.length : Int) = (N.length : Int)) = false := decide_eq_false (by omega)
    obtain ⟨f1, f2⟩ := hf _ l h2
    obtain ⟨t1, t2⟩ := ht l (List.mem_of_getElem? h2)
    have hcap : asum p ≤ 640 := by
      have : p.length = 0 ∨ p.length = 1 ∨ p.length = 2 := by omega
      rcases this with q | q | q <;> rw [q] at ha <;> simp only [capA] at ha <;> omega
    have b1 := tame_val t1 hcap
    have b2 := tame_val t2 hcap
    have hx := idx23 (es := N.map eL) (k := p.length) (by simpa using h1) (szL N)
    have v1 := fun h K => g172 (n := n) (by omega) 0 l.lo p P hV.ne ⟨by omega, by omega⟩ h K
    have v2 := fun h K => g172 (n := n) (by omega) 0 l.hi p P hV.ne ⟨by omega, by omega⟩ h K
    have v3 := fun h K => g173 (n := n) (by omega) 0 p P hV.data h K
    generalize hlo : vW l.lo.k l.lo.c p = lo at b1 v1
    generalize hhi : vW l.hi.k l.hi.c p = hi at b2 v2
    have loop : ∀ (d : Nat) (x : Int) (s : σ) (h : List GB) (m : Nat), (hi + 1 - x).toNat = d → d < m → lo ≤ x → Inv (c + ((rng x hi).flatMap fun x => pts r (p ++ [x])).length) s h → ∃ h', Inv c (runV vis s ((rng x hi).flatMap fun x => pts r (p ++ [x]))).1 h' ∧
        ∀ (K : GX → St → Bool) (k : CK), (∀ e h, K (.exit 0) ⟨e, h⟩ = k (gb false) h) → (∀ e h, e 6 = gb true → K .ret ⟨e, h⟩ = k (gb true) h) →
          gloop (B103_0 (sX (gcall gp n) n 0)) m { env := ofL [(0, .d (eN N)), (1, Vp), (2, F), (7, gi p.length), (8, gi x)], heap := h } K = k (gb (runV vis s ((rng x hi).flatMap fun x => pts r (p ++ [x]))).2) h' := by
      intro d
      induction d with
      | zero =>
        intro x s h m hdx hm hlx hI
        obtain ⟨m, rfl⟩ : ∃ q, m = q + 1 := ⟨m - 1, by omega⟩
        have hgt : decide (x ≤ hi) = false := decide_eq_false (by omega)
        rw [rng_nil (by omega)] at hI ⊢
        refine ⟨h, hI, fun K k hE hR => ?_⟩
        simp only [kStd, B103_0_1, B103_0_2, B103_0_3, B103_0_4, B103_0_5, B103_0_6, B103_0_7, B103_0_8, B103_0_9, B103_0_10, B103_0_11, B103_0_12, B103_0, kNew, kSteps, kCmp, kEnv, kKont, kFld, kLen, kCall, kIsos, gloop_succ, cond_true, cond_false, Bool.not_true, Bool.not_false, Nat.reduceEqDiff, reduceIte, Nat.reduceAdd, List.length_map, hV.new, V.new, hx, ldLhi h2, hV.c2, v2, hgt, hE, List.flatMap_nil, runV]
      | succ d ihd =>
        intro x s h m hdx hm hlx hI
        obtain ⟨m, rfl⟩ : ∃ q, m = q + 1 := ⟨m - 1, by omega⟩
        have hle : decide (x ≤ hi) = true := decide_eq_true (by omega)
        have hw : IntKind.i64.wrap (x + 1) = x + 1 := wrap_in (by omega) (by omega)
        rw [rng_cons (by omega), List.flatMap_cons] at hI ⊢
        rw [runV_append]
        rw [List.length_append, Nat.add_comm (pts r (p ++ [x])).length, ← Nat.add_assoc] at hI
        have hp1 : (p ++ [x]).length = p.length + 1 := by simp
        obtain ⟨h5, h6, h7⟩ := gW N V hf ht hN r (p ++ [x]) _ _ (PV.tl (p ++ [x]) h.length) (by rw [hp1]; exact h3) (by omega) (by rw [asum_snoc, hp1]; simp only [capA]; omega) (fun _ => ⟨_, rfl⟩) (c + ((rng (x + 1) hi).flatMap fun x => pts r (p ++ [x])).length) s (h ++ [.tail (p.length + 1) 1]) (V.app _ s h _ hI) n (by omega)
        have q1 := apI p x (by omega) h
        cases hq : (runV vis s (pts r (p ++ [x]))).2 with
        | true =>
          refine ⟨h5, V.less _ c h6, fun K k hE hR => ?_⟩
          simp only [kStd, B103_0_1, B103_0_2, B103_0_3, B103_0_4, B103_0_5, B103_0_6, B103_0_7, B103_0_8, B103_0_9, B103_0_10, B103_0_11, B103_0_12, B103_0, kNew, kSteps, kCmp, kEnv, kKont, kFld, kLen, kCall, kIsos, gloop_succ, cond_true, cond_false, Bool.not_true, Bool.not_false, Nat.reduceEqDiff, reduceIte, Nat.reduceAdd, List.length_map, hV.new, V.new, hx, ldLhi h2, hV.c2, v2, hle, hV.c1, v3, bsI1]
          rw [q1]
          simp only [kStd, B103_0_1, B103_0_2, B103_0_3, B103_0_4, B103_0_5, B103_0_6, B103_0_7, B103_0_8, B103_0_9, B103_0_10, B103_0_11, B103_0_12, B103_0, kNew, kSteps, kCmp, kEnv, kKont, kFld, kLen, kCall, kIsos, gloop_succ, cond_true, cond_false, Bool.not_true, Bool.not_false, Nat.reduceEqDiff, reduceIte, Nat.reduceAdd, List.length_map, hV.new, V.new, h7, hq]
          exact hR _ _ rfl
        | false =>
          obtain ⟨h8, h9, h10⟩ := ihd (x + 1) _ h5 m (by omega) (by omega) (by omega) h6
          refine ⟨h8, h9, fun K k hE hR => ?_⟩
          simp only [kStd, B103_0_1, B103_0_2, B103_0_3, B103_0_4, B103_0_5, B103_0_6, B103_0_7, B103_0_8, B103_0_9, B103_0_10, B103_0_11, B103_0_12, B103_0, kNew, kSteps, kCmp, kEnv, kKont, kFld, kLen, kCall, kIsos, gloop_succ, cond_true, cond_false, Bool.not_true, Bool.not_false, Nat.reduceEqDiff, reduceIte, Nat.reduceAdd, List.length_map, hV.new, V.new, hx, ldLhi h2, hV.c2, v2, hle, hV.c1, v3, bsI1]
          rw [q1]
          simp only [kStd, B103_0_1, B103_0_2, B103_0_3, B103_0_4, B103_0_5, B103_0_6, B103_0_7, B103_0_8, B103_0_9, B103_0_10, B103_0_11, B103_0_12, B103_0, kNew, kSteps, kCmp, kEnv, kKont, kFld, kLen, kCall, kIsos, gloop_succ, cond_true, cond_false, Bool.not_true, Bool.not_false, Nat.reduceEqDiff, reduceIte, Nat.reduceAdd, List.length_map, hV.new, V.new, h7, hq, hw]
          exact h10 K k hE hR
    simp only [pts, hlo, hhi] at hI ⊢
    obtain ⟨h', i1, i2⟩ := loop _ lo s h (n + 1) rfl (by omega) (Int.le_refl _) hI
    refine ⟨h', i1, fun K => ?_⟩
    rw [F103_eq]
    simp only [kStd, F103_1, F103_2, F103_3, F103_4, F103_5, F103_6, F103_7, F103_8, F103_9, F103_10, F103, kNew, kSteps, kCmp, kEnv, kKont, kFld, kLen, kCall, kIsos, gloop_succ, cond_true, cond_false, Bool.not_true, Bool.not_false, Nat.reduceEqDiff, reduceIte, Nat.reduceAdd, List.length_map, hV.new, V.new, hV.len, he, hx, ldLlo h2, hV.c2, v1]
    exact i2 _ K (fun e h => by simp only [kStd, F103_1, F103_2, F103_3, F103_4, F103_5, F103_6, F103_7, F103_8, F103_9, F103_10, F103, kNew, kSteps, kCmp, kEnv, kKont, kFld, kLen, kCall, kIsos, gloop_succ, cond_true, cond_false, Bool.not_true, Bool.not_false, Nat.reduceEqDiff, reduceIte, Nat.reduceAdd, List.length_map]) (fun e h he => by simp only [kKont, Tryz.results103, kRet_one, he])
end Go.Proofs.YthnnjopilpgakaaGreat
namespace Go.Proofs.YthnnjopilpgakaaGreat
open Go.Gh

theorem ldC (c : Int) (t : List GB) : gload gp 3 (.ptr 0 0) (.cells [gi c] :: t) = some (gi c) := id rfl
theorem stC (c x : Int) (t : List GB) (k : CK) : gstore gp 0 3 (.ptr 0 0) (gi x) (.cells [gi c] :: t) k = k .und (.cells [gi x] :: t) := id rfl
theorem kPtr (a b : Nat) : noNew (.ptr a b) = .ptr a b := id rfl

/-- Counts points, up to too many. -/
def visC (c : Int) (_ : List Int) : Int × Bool := (w64 (c + 1), decide (200 < w64 (c + 1)))
theorem g104 {n : Nat} (hn : 1 ≤ n) (P : GV) (c : Int) (t : List GB) (K : CK) : gcall gp n 0 104 [P, .ptr 0 0] (.cells [gi c] :: t) K = K (gb (visC c []).2) (.cells [gi (visC c []).1] :: t) := by
  obtain ⟨n, rfl⟩ : ∃ m, n = m + 1 := ⟨n - 1, by omega⟩
  rw [F104_eq]
  simp only [kStd, F104_1, F104_2, F104_3, F104_4, F104_5, F104, kNew, kSteps, kCmp, kEnv, kKont, kFld, kLen, kCall, kIsos, gloop_succ, cond_true, cond_false, Bool.not_true, Bool.not_false, Nat.reduceEqDiff, reduceIte, Nat.reduceAdd, List.length_map, ldC, stC, visC]
def InvC (c : Int) (h : List GB) : Prop := ∃ t, h = .cells [gi c] :: t
theorem vis104 (L : Nat) : Vis (.fn (.func 104) [] [.ptr 0 0]) 1 L (fun _ => InvC) visC := by
  refine ⟨rfl, fun _ _ _ hI => hI, fun _ s h b hI => ?_, fun n hn _ s h p t hI _ => ?_⟩
  · obtain ⟨t, rfl⟩ := hI; exact ⟨t ++ [b], rfl⟩
  · obtain ⟨u, rfl⟩ := hI
    refine ⟨_, ⟨u, rfl⟩, fun k => ?_⟩
    have hm0 : (gp.mode 104).beq 0 = false := rfl
    have hm1 : (gp.mode 104).beq 1 = false := rfl
    rw [kDyn.2, hm0, hm1]
    exact g104 hn _ s u k

theorem fb_zero {α : Type} (e : Int → α → Int) : ∀ (l : List α) (i : Nat), (fb e i l).2 = 0 → ∀ (j : Nat) (x : α), l[j]? = some x → e ((i + j : Nat) : Int) x = 0
  | [], i, _, j, x, h => by simp at h
  | y :: r, i, hz, j, x, h => by
    simp only [fb] at hz
    cases hq : decide (e i y = 0) with
    | true =>
      rw [hq] at hz
      cases j with
      | zero => simp only [List.getElem?_cons_zero, Option.some.injEq] at h; subst h; simpa using hq
      | succ j =>
        have := fb_zero e r (i + 1) hz j x (by simpa using h)
        rw [show i + (j + 1) = i + 1 + j by omega]; exact this
    | false =>
      rw [hq] at hz
      exact absurd hz (by simpa using hq)
theorem orE_zero : ∀ (l : List Int), orE l = 0 → ∀ x ∈ l, x = 0
  | [], _, x, hx => by cases hx
  | y :: r, h, x, hx => by
    simp only [orE] at h
    cases hq : decide (y = 0) with
    | true =>
      rw [hq] at h
      have hy : y = 0 := by simpa using hq
      rcases List.mem_cons.1 hx with rfl | hx
      · exact hy
      · exact orE_zero r h x hx
    | false => rw [hq] at h; exact absurd h (by simpa using hq)
theorem fErr_zero {x : Aff} {i : Nat} (h : fErr x i = 0) : x.c.length = i ∧ tame x := by
  unfold fErr at h
  cases h1 : decide ((x.c.length : Int) = (i : Int)) with
  | false => rw [h1] at h; simp at h
  | true =>
    rw [h1] at h
    cases h2 : x.c.all okC && decide (-64 ≤ x.k ∧ x.k ≤ 64) with
    | false => rw [h2] at h; simp at h
    | true =>
      simp only [Bool.and_eq_true, decide_eq_true_eq] at h2 h1
      exact ⟨by omega, h2.1, h2.2.1, h2.2.2⟩
theorem forms_ok {N : List Lp} (h : (fb lErr 0 N).2 = 0) : Fit N ∧ Tame N := by
  have key : ∀ (i : Nat) (x : Lp), N[i]? = some x → fErr x.lo i = 0 ∧ fErr x.hi i = 0 := fun i x hx => by
    have := fb_zero lErr N 0 h i x hx
    rw [Nat.zero_add] at this
    have := orE_zero _ this
    exact ⟨this _ (by simp), this _ (by simp)⟩
  refine ⟨fun i x hx => ⟨(fErr_zero (key i x hx).1).1, (fErr_zero (key i x hx).2).1⟩, fun x hx => ?_⟩
  obtain ⟨i, hi⟩ := List.getElem?_of_mem hx
  exact ⟨(fErr_zero (key i x hi).1).2, (fErr_zero (key i x hi).2).2⟩

/-- The error of a nest, with the number of a loop. -/
def chk (N : List Lp) : Int × Int :=
  bif !decide (brk [(decide (0 < (N.length : Int)), 17), (decide ((N.length : Int) ≤ 3), 8)] = 0) then (0, brk [(decide (0 < (N.length : Int)), 17), (decide ((N.length : Int) ≤ 3), 8)])
  else bif !decide ((fb lErr 0 N).2 = 0) then fb lErr 0 N
  else bif (hls N []).any wide then (0, 8)
  else (0, brk [(!(runV visC 0 (pts N [])).2, 8)])

theorem brk2 {N : List Lp} (h : decide (brk [(decide (0 < (N.length : Int)), 17), (decide ((N.length : Int) ≤ 3), 8)] = 0) = true) : 0 < N.length ∧ N.length ≤ 3 := by
  cases h1 : decide (0 < (N.length : Int)) with
  | false => rw [h1] at h; simp [brk] at h
  | true =>
    cases h2 : decide ((N.length : Int) ≤ 3) with
    | false => rw [h1, h2] at h; simp [brk] at h
    | true => simp only [decide_eq_true_eq] at h1 h2; omega

theorem hls_length : ∀ (l : List Lp) (a : List (Int × Int)), (hls l a).length = a.length + l.length
  | [], a => rfl
  | x :: r, a => by simp only [hls, hls_length r, List.length_append, List.length_cons, List.length_nil]; omega

theorem giC (x : Int) (h : List GB) (k : GV → List GB → Bool) : gI false 1 (gi x) h k = k (.ptr h.length 0) (h ++ [.cells [gi x]]) := id rfl
theorem mk104 : mkFn (.func 104) [] [.ptr 0 0] = .fn (.func 104) [] [.ptr 0 0] := id rfl
theorem getT (x y : GV) : ([x, y] : List GV)[0]? = some x ∧ ([x, y] : List GV)[1]? = some y := ⟨rfl, rfl⟩

def OkN (N : List Lp) : Prop := (∀ x ∈ N, okL x) ∧ N.length ≤ 1000
theorem g32 {n : Nat} (hn : 1000100 ≤ n) (N : List Lp) (hN : OkN N) (h : List GB) (k : CK) : gcall gp n 0 32 [.d (eN N)] [] (kIso h k) = k (.tup [gi (chk N).1, gi (chk N).2]) h := by
  obtain ⟨n, rfl⟩ : ∃ m, n = m + 1 := ⟨n - 1, by omega⟩
  have hN2 := hN.2
  rw [F32_eq]
  have q95 := fun h K => g95 (n := n) (lk := 0) (B := 1000020) lErr (.d (.fn (.func 96) [] [])) rfl okL (fun n hn i x h k hx => d96 hn i x hx h k) N hN.1 (by omega) (by omega) (by omega) h K
  simp only [kStd, F32_1, F32_2, F32_3, F32_4, F32_5, F32_6, F32_7, F32_8, F32_9, F32_10, F32_11, F32_12, F32_13, F32_14, F32_15, F32_16, F32_17, F32_18, F32_19, F32_20, F32_21, F32_22, F32_23, F32_24, F32_25, F32, kNew, kSteps, kCmp, kEnv, kKont, kFld, kLen, kCall, kIsos, gloop_succ, cond_true, cond_false, Bool.not_true, Bool.not_false, Nat.reduceEqDiff, reduceIte, Nat.reduceAdd, List.length_map, bdR, bsR2]
  rw [g94 _ (by simp; omega) (by simp)]
  simp only [kStd, F32_1, F32_2, F32_3, F32_4, F32_5, F32_6, F32_7, F32_8, F32_9, F32_10, F32_11, F32_12, F32_13, F32_14, F32_15, F32_16, F32_17, F32_18, F32_19, F32_20, F32_21, F32_22, F32_23, F32_24, F32_25, F32, kNew, kSteps, kCmp, kEnv, kKont, kFld, kLen, kCall, kIsos, gloop_succ, cond_true, cond_false, Bool.not_true, Bool.not_false, Nat.reduceEqDiff, reduceIte, Nat.reduceAdd, List.length_map]
  unfold chk
  cases h1 : decide (brk [(decide (0 < (N.length : Int)), 17), (decide ((N.length : Int) ≤ 3), 8)] = 0) with
  | false => simp only [kStd, F32_1, F32_2, F32_3, F32_4, F32_5, F32_6, F32_7, F32_8, F32_9, F32_10, F32_11, F32_12, F32_13, F32_14, F32_15, F32_16, F32_17, F32_18, F32_19, F32_20, F32_21, F32_22, F32_23, F32_24, F32_25, F32, kNew, kSteps, kCmp, kEnv, kKont, kFld, kLen, kCall, kIsos, gloop_succ, cond_true, cond_false, Bool.not_true, Bool.not_false, Nat.reduceEqDiff, reduceIte, Nat.reduceAdd, List.length_map]
  | true =>
    obtain ⟨n1, n2⟩ := brk2 h1
    simp only [kStd, F32_1, F32_2, F32_3, F32_4, F32_5, F32_6, F32_7, F32_8, F32_9, F32_10, F32_11, F32_12, F32_13, F32_14, F32_15, F32_16, F32_17, F32_18, F32_19, F32_20, F32_21, F32_22, F32_23, F32_24, F32_25, F32, kNew, kSteps, kCmp, kEnv, kKont, kFld, kLen, kCall, kIsos, gloop_succ, cond_true, cond_false, Bool.not_true, Bool.not_false, Nat.reduceEqDiff, reduceIte, Nat.reduceAdd, List.length_map, q95, getT]
    cases h2 : decide ((fb lErr 0 N).2 = 0) with
    | false => simp only [kStd, F32_1, F32_2, F32_3, F32_4, F32_5, F32_6, F32_7, F32_8, F32_9, F32_10, F32_11, F32_12, F32_13, F32_14, F32_15, F32_16, F32_17, F32_18, F32_19, F32_20, F32_21, F32_22, F32_23, F32_24, F32_25, F32, kNew, kSteps, kCmp, kEnv, kKont, kFld, kLen, kCall, kIsos, gloop_succ, cond_true, cond_false, Bool.not_true, Bool.not_false, Nat.reduceEqDiff, reduceIte, Nat.reduceAdd, List.length_map]
    | true =>
      obtain ⟨hf, ht⟩ := forms_ok (of_decide_eq_true h2)
      have hl := hls_length N []
      simp only [List.length_nil, Nat.zero_add] at hl
      simp only [kStd, F32_1, F32_2, F32_3, F32_4, F32_5, F32_6, F32_7, F32_8, F32_9, F32_10, F32_11, F32_12, F32_13, F32_14, F32_15, F32_16, F32_17, F32_18, F32_19, F32_20, F32_21, F32_22, F32_23, F32_24, F32_25, F32, kNew, kSteps, kCmp, kEnv, kKont, kFld, kLen, kCall, kIsos, gloop_succ, cond_true, cond_false, Bool.not_true, Bool.not_false, Nat.reduceEqDiff, reduceIte, Nat.reduceAdd, List.length_map, g100 (n := n) (by omega) N hf (by omega), g99 (n := n) wide _ rfl (d101 0) (hls N []) (by omega) (by omega) (by omega)]
      cases h3 : (hls N []).any wide with
      | true => simp only [kStd, F32_1, F32_2, F32_3, F32_4, F32_5, F32_6, F32_7, F32_8, F32_9, F32_10, F32_11, F32_12, F32_13, F32_14, F32_15, F32_16, F32_17, F32_18, F32_19, F32_20, F32_21, F32_22, F32_23, F32_24, F32_25, F32, kNew, kSteps, kCmp, kEnv, kKont, kFld, kLen, kCall, kIsos, gloop_succ, cond_true, cond_false, Bool.not_true, Bool.not_false, Nat.reduceEqDiff, reduceIte, Nat.reduceAdd, List.length_map]
      | false =>
        obtain ⟨h', i1, i2⟩ := gW N (vis104 N.length) hf ht n2 N [] _ _ PV.nil rfl (by simp) (by simp [asum]) (fun q => by rw [q] at n1; simp at n1) 0 0 [.cells [gi 0]] ⟨[], rfl⟩ n (by omega)
        simp only [kStd, F32_1, F32_2, F32_3, F32_4, F32_5, F32_6, F32_7, F32_8, F32_9, F32_10, F32_11, F32_12, F32_13, F32_14, F32_15, F32_16, F32_17, F32_18, F32_19, F32_20, F32_21, F32_22, F32_23, F32_24, F32_25, F32, kNew, kSteps, kCmp, kEnv, kKont, kFld, kLen, kCall, kIsos, gloop_succ, cond_true, cond_false, Bool.not_true, Bool.not_false, Nat.reduceEqDiff, reduceIte, Nat.reduceAdd, List.length_map, giC, List.length_nil, List.nil_append, kPtr, mk104, i2, bdR, bsR1]
        rw [g94 _ (by simp; omega) (by simp)]
        simp only [kStd, F32_1, F32_2, F32_3, F32_4, F32_5, F32_6, F32_7, F32_8, F32_9, F32_10, F32_11, F32_12, F32_13, F32_14, F32_15, F32_16, F32_17, F32_18, F32_19, F32_20, F32_21, F32_22, F32_23, F32_24, F32_25, F32, kNew, kSteps, kCmp, kEnv, kKont, kFld, kLen, kCall, kIsos, gloop_succ, cond_true, cond_false, Bool.not_true, Bool.not_false, Nat.reduceEqDiff, reduceIte, Nat.reduceAdd, List.length_map]
end Go.Proofs.YthnnjopilpgakaaGreat
namespace Go.Proofs.YthnnjopilpgakaaGreat
open Go.Gh

theorem g105 {n : Nat} (hn : 1000101 ≤ n) (N : List Lp) (hN : OkN N) (h : List GB) (k : CK) : gcall gp n 0 105 [.d (eN N)] [] (kIso h k) = k (gi (chk N).2) h := by
  obtain ⟨n, rfl⟩ : ∃ m, n = m + 1 := ⟨n - 1, by omega⟩
  rw [F105_eq]
  simp only [kStd, F105_1, F105_2, F105_3, F105, kNew, kSteps, kCmp, kEnv, kKont, kFld, kLen, kCall, kIsos, gloop_succ, cond_true, cond_false, Bool.not_true, Bool.not_false, Nat.reduceEqDiff, reduceIte, Nat.reduceAdd, List.length_map, g32 (n := n) (by omega) N hN, getT]

structure ChkOk (N : List Lp) : Prop where
  pos : 0 < N.length
  len : N.length ≤ 3
  fit : Fit N
  tame : Tame N
  hull : (hls N []).any wide = false
  few : (runV visC 0 (pts N [])).2 = false
theorem chk_ok {N : List Lp} (h : (chk N).2 = 0) : ChkOk N := by
  unfold chk at h
  cases h1 : decide (brk [(decide (0 < (N.length : Int)), 17), (decide ((N.length : Int) ≤ 3), 8)] = 0) with
  | false => rw [h1] at h; exact absurd h (of_decide_eq_false h1)
  | true =>
    rw [h1] at h
    obtain ⟨n1, n2⟩ := brk2 h1
    cases h2 : decide ((fb lErr 0 N).2 = 0) with
    | false => rw [h2] at h; exact absurd h (of_decide_eq_false h2)
    | true =>
      rw [h2] at h
      obtain ⟨hf, ht⟩ := forms_ok (of_decide_eq_true h2)
      cases h3 : (hls N []).any wide with
      | true => rw [h3] at h; simp at h
      | false =>
        rw [h3] at h
        cases h4 : (runV visC 0 (pts N [])).2 with
        | true => rw [h4] at h; simp [brk] at h
        | false => exact ⟨n1, n2, hf, ht, h3, h4⟩

def hV (N : List Lp) : DV := bif decide ((chk N).2 = 0) then eHs (hls N []) else .lit nilS
theorem g33 {n : Nat} (hn : 1000110 ≤ n) (N : List Lp) (hN : OkN N) (h : List GB) (k : CK) : gcall gp n 0 33 [.d (eN N)] [] (kIso h k) = k (.tup [.d (hV N), gi (chk N).2]) h := by
  obtain ⟨n, rfl⟩ : ∃ m, n = m + 1 := ⟨n - 1, by omega⟩
  have hN2 := hN.2
  rw [F33_eq]
  simp only [kStd, F33_1, F33_2, F33_3, F33_4, F33, kNew, kSteps, kCmp, kEnv, kKont, kFld, kLen, kCall, kIsos, gloop_succ, cond_true, cond_false, Bool.not_true, Bool.not_false, Nat.reduceEqDiff, reduceIte, Nat.reduceAdd, List.length_map, g105 (n := n) (by omega) N hN, hV]
  cases h1 : decide ((chk N).2 = 0) with
  | false => simp only [kStd, F33_1, F33_2, F33_3, F33_4, F33, kNew, kSteps, kCmp, kEnv, kKont, kFld, kLen, kCall, kIsos, gloop_succ, cond_true, cond_false, Bool.not_true, Bool.not_false, Nat.reduceEqDiff, reduceIte, Nat.reduceAdd, List.length_map]
  | true =>
    have hz := of_decide_eq_true h1
    simp only [kStd, F33_1, F33_2, F33_3, F33_4, F33, kNew, kSteps, kCmp, kEnv, kKont, kFld, kLen, kCall, kIsos, gloop_succ, cond_true, cond_false, Bool.not_true, Bool.not_false, Nat.reduceEqDiff, reduceIte, Nat.reduceAdd, List.length_map, g100 (n := n) (by omega) N (chk_ok hz).fit (by omega), hz]

theorem neq_nil {p : List Int} (hp : p ≠ []) : gbin gp .eql 48 (.d (eI p)) (.d (.lit nilS)) = some (gb false) := by
  cases p with
  | nil => exact absurd rfl hp
  | cons x r => rfl
theorem bsI0 : gbuildS gp 48 0 [] = some (.xl []) := id rfl
theorem g74 {n : Nat} (hn : 1 ≤ n) (p : List Int) (hp : p ≠ []) (hl : p.length ≤ 1000000) (h : List GB) (k : CK) : gcall gp n 0 74 [.d (eI p)] [] (kIso h k) = k (.d (eI p)) h := by
  obtain ⟨n, rfl⟩ : ∃ m, n = m + 1 := ⟨n - 1, by omega⟩
  rw [F74_eq]
  simp only [kStd, F74_1, F74_2, F74_3, F74_4, F74, kNew, kSteps, kCmp, kEnv, kKont, kFld, kLen, kCall, kIsos, gloop_succ, cond_true, cond_false, Bool.not_true, Bool.not_false, Nat.reduceEqDiff, reduceIte, Nat.reduceAdd, List.length_map, neq_nil hp, bsI0]
  rw [apx48 (fun _ => rfl) rfl (szI p) (by simp; omega)]
  simp only [kStd, F74_1, F74_2, F74_3, F74_4, F74, kNew, kSteps, kCmp, kEnv, kKont, kFld, kLen, kCall, kIsos, gloop_succ, cond_true, cond_false, Bool.not_true, Bool.not_false, Nat.reduceEqDiff, reduceIte, Nat.reduceAdd, List.length_map, List.nil_append]

theorem bsP1 (p : List Int) : gbuildS gp 35 1 [(0, .d (eI p))] = some (.xl ([p].map eI)) := id rfl
theorem ldP (y : GV) (t : List GB) : gload gp 35 (.ptr 0 0) (.cells [y] :: t) = some y := id rfl
theorem stP (y : GV) (l : List DV) (u : Nat) (t : List GB) (k : CK) : gstore gp 0 35 (.ptr 0 0) (.tl l u) (.cells [y] :: t) k = k .und (.cells [.tl l u] :: t) := id rfl

def visP (out : List (List Int)) (p : List Int) : List (List Int) × Bool := (out ++ [p], false)
def InvP (out : List (List Int)) (h : List GB) : Prop :=
  (out = [] ∧ ∃ t, h = .cells [.d (.lit nilS)] :: t) ∨ out ≠ [] ∧ ∃ u t, h = .cells [.tl (out.map eI) (u + 1)] :: t ∧ t[u]? = some (.tail out.length 1)
theorem apPn (p : List Int) (h : List GB) (k : CK) : gappend gp 0 35 (.d (.lit nilS)) (.xl ([p].map eI)) h k = k (.tl ([p].map eI) h.length) (h ++ [.tail 1 1]) := by
  rw [apn35 (fun _ => rfl) (szP [p]) (by simp)]
  simp
theorem apP (out : List (List Int)) (p : List Int) (u : Nat) (c : GB) (t : List GB) (hu : t[u]? = some (.tail out.length 1)) (hl : out.length ≤ 1000000) (k : CK) :
    gappend gp 0 35 (.tl (out.map eI) (u + 1)) (.xl ([p].map eI)) (c :: t) k = k (.tl ((out ++ [p]).map eI) (u + 1)) (c :: t.set u (.tail (out.length + 1) 1)) := by
  rw [app35 (fun _ => rfl) (by simpa using hu) (Nat.zero_le _) (szP [p]) (by simp; omega)]
  simp

theorem InvP.app {o : List (List Int)} {h : List GB} (b : GB) (hI : InvP o h) : InvP o (h ++ [b]) := by
  rcases hI with ⟨h1, t, rfl⟩ | ⟨h0, u, t, rfl, h2⟩
  · exact .inl ⟨h1, t ++ [b], rfl⟩
  · refine .inr ⟨h0, u, t ++ [b], rfl, ?_⟩
    rw [List.getElem?_append_left (List.getElem?_eq_some_iff.1 h2).1]; exact h2

theorem g174 {n : Nat} (hn : 2 ≤ n) (o : List (List Int)) (p : List Int) (hp : p ≠ []) (hl : p.length ≤ 1000000) (ho : o.length ≤ 1000000) (t : Nat) (h : List GB) (hI : InvP o h) :
    ∃ h', InvP (o ++ [p]) h' ∧ ∀ K, gcall gp n 0 174 [.tl (p.map di) t, .ptr 0 0] h K = K (gb false) h' := by
  obtain ⟨n, rfl⟩ : ∃ m, n = m + 1 := ⟨n - 1, by omega⟩
  have c1 : ∀ (call : Gh.Call) g h k, gcall0 call g [.tl (p.map di) t] h k = call 0 g [.d (eI p)] [] (kIso h k) := fun _ _ _ _ => rfl
  rcases hI with ⟨rfl, r, rfl⟩ | ⟨h0, u, r, rfl, h2⟩
  · refine ⟨.cells [.tl ([p].map eI) (r.length + 1)] :: (r ++ [.tail 1 1]), .inr ⟨by simp, r.length, r ++ [.tail 1 1], rfl, by simp⟩, fun K => ?_⟩
    rw [F174_eq]
    simp only [kStd, F174_1, F174_2, F174_3, F174_4, F174_5, F174, kNew, kSteps, kCmp, kEnv, kKont, kFld, kLen, kCall, kIsos, gloop_succ, cond_true, cond_false, Bool.not_true, Bool.not_false, Nat.reduceEqDiff, reduceIte, Nat.reduceAdd, List.length_map, kPtr, ldP, c1, g74 (n := n) (by omega) p hp hl, bsP1, apPn, List.cons_append, stP, List.length_cons]
  · refine ⟨.cells [.tl ((o ++ [p]).map eI) (u + 1)] :: r.set u (.tail (o.length + 1) 1), .inr ⟨by simp, u, r.set u (.tail (o.length + 1) 1), rfl, ?_⟩, fun K => ?_⟩
    · rw [List.getElem?_set_self (List.getElem?_eq_some_iff.1 h2).1]; simp
    · rw [F174_eq]
      simp only [kStd, F174_1, F174_2, F174_3, F174_4, F174_5, F174, kNew, kSteps, kCmp, kEnv, kKont, kFld, kLen, kCall, kIsos, gloop_succ, cond_true, cond_false, Bool.not_true, Bool.not_false, Nat.reduceEqDiff, reduceIte, Nat.reduceAdd, List.length_map, kPtr, ldP, c1, g74 (n := n) (by omega) p hp hl, bsP1]
      rw [apP o p u _ r h2 ho]
      simp only [kStd, F174_1, F174_2, F174_3, F174_4, F174_5, F174, kNew, kSteps, kCmp, kEnv, kKont, kFld, kLen, kCall, kIsos, gloop_succ, cond_true, cond_false, Bool.not_true, Bool.not_false, Nat.reduceEqDiff, reduceIte, Nat.reduceAdd, List.length_map, kPtr, stP]

theorem vis174 (L : Nat) (hL : 0 < L) (hL2 : L ≤ 1000) : Vis (.fn (.func 174) [] [.ptr 0 0]) 5 L (fun c o h => o.length + c ≤ 1000000 ∧ InvP o h) visP := by
  refine ⟨rfl, fun c s h hI => ⟨by omega, hI.2⟩, fun c s h b hI => ⟨hI.1, hI.2.app b⟩, fun n hn c s h p t hI hp => ?_⟩
  have hpn : p ≠ [] := fun q => by rw [q] at hp; simp at hp; omega
  obtain ⟨h', i1, i2⟩ := g174 (n := n) (by omega) s p hpn (by omega) (by omega) t h hI.2
  refine ⟨h', ⟨by simp only [visP, List.length_append, List.length_cons, List.length_nil]; omega, i1⟩, fun k => ?_⟩
  have hm0 : (gp.mode 174).beq 0 = false := rfl
  have hm1 : (gp.mode 174).beq 1 = false := rfl
  rw [kDyn.2, hm0, hm1]
  exact i2 k

theorem runP : ∀ (l o : List (List Int)), runV visP o l = (o ++ l, false)
  | [], o => by simp [runV]
  | p :: r, o => by simp only [runV, visP, cond_false, runP r]; simp

/-- A list of points as it is handed back. -/
def eQ (l : List (List Int)) : DV := bif l.isEmpty then .lit nilS else eP l
theorem mk174 : mkFn (.func 174) [] [.ptr 0 0] = .fn (.func 174) [] [.ptr 0 0] := id rfl
theorem g106 {n : Nat} (hn : 1000100 ≤ n) (N : List Lp) (ho : ChkOk N) (hfew : (pts N []).length ≤ 1000) (h : List GB) (k : CK) : gcall gp n 0 106 [.d (eN N)] [] (kIso h k) = k (.d (eQ (pts N []))) h := by
  obtain ⟨n, rfl⟩ : ∃ m, n = m + 1 := ⟨n - 1, by omega⟩
  have hl := ho.len
  have hp := ho.pos
  obtain ⟨h', ⟨i0, i1⟩, i2⟩ := gW N (vis174 N.length hp (by omega)) ho.fit ho.tame hl N [] _ _ PV.nil rfl (by simp) (by simp [asum]) (fun q => by rw [q] at hp; simp at hp) 0 [] [.cells [.d (.lit nilS)]] ⟨by simp; omega, .inl ⟨rfl, [], rfl⟩⟩ n (by omega)
  rw [runP] at i1 i2
  simp only [List.nil_append] at i1
  rw [F106_eq]
  simp only [kStd, F106_1, F106_2, F106_3, F106_4, F106, kNew, kSteps, kCmp, kEnv, kKont, kFld, kLen, kCall, kIsos, gloop_succ, cond_true, cond_false, Bool.not_true, Bool.not_false, Nat.reduceEqDiff, reduceIte, Nat.reduceAdd, List.length_map, List.length_nil, List.nil_append, List.map_cons, List.map_nil, kPtr, mk174, i2]
  rcases i1 with ⟨e, t, rfl⟩ | ⟨e, u, t, rfl, h2⟩
  · simp only [kStd, F106_1, F106_2, F106_3, F106_4, F106, kNew, kSteps, kCmp, kEnv, kKont, kFld, kLen, kCall, kIsos, gloop_succ, cond_true, cond_false, Bool.not_true, Bool.not_false, Nat.reduceEqDiff, reduceIte, Nat.reduceAdd, List.length_map, kPtr, ldP, eQ, e, List.isEmpty_nil]
  · simp only [kStd, F106_1, F106_2, F106_3, F106_4, F106, kNew, kSteps, kCmp, kEnv, kKont, kFld, kLen, kCall, kIsos, gloop_succ, cond_true, cond_false, Bool.not_true, Bool.not_false, Nat.reduceEqDiff, reduceIte, Nat.reduceAdd, List.length_map, kPtr, ldP, eQ]
    cases hq : pts N [] with
    | nil => exact absurd hq e
    | cons a b => simp only [List.isEmpty_cons, cond_false]

theorem runC : ∀ (l : List (List Int)) (c : Int), 0 ≤ c → c ≤ 200 → (runV visC c l).2 = decide (200 < c + (l.length : Int))
  | [], c, h0, h1 => by simp only [runV]; exact (decide_eq_false (by simp; omega)).symm
  | p :: r, c, h0, h1 => by
    have hw : w64 (c + 1) = c + 1 := wrap_in (by omega) (by omega)
    simp only [runV, visC, hw]
    cases hq : decide (200 < c + 1) with
    | true =>
      have := of_decide_eq_true hq
      simp only [cond_true]
      exact (decide_eq_true (by simp; omega)).symm
    | false =>
      have := of_decide_eq_false hq
      simp only [cond_false]
      have ih := runC r (c + 1) (by omega) (by omega)
      rw [ih, show c + 1 + (r.length : Int) = c + ((p :: r).length : Int) by simp; omega]
theorem ChkOk.fewP {N : List Lp} (h : ChkOk N) : (pts N []).length ≤ 200 := by
  have := h.few
  rw [runC _ _ (by omega) (by omega)] at this
  have := of_decide_eq_false this
  omega

def pV (N : List Lp) : DV := bif decide ((chk N).2 = 0) then eQ (pts N []) else .lit nilS
theorem g34 {n : Nat} (hn : 1000110 ≤ n) (N : List Lp) (hN : OkN N) (h : List GB) (k : CK) : gcall gp n 0 34 [.d (eN N)] [] (kIso h k) = k (.tup [.d (pV N), gi (chk N).2]) h := by
  obtain ⟨n, rfl⟩ : ∃ m, n = m + 1 := ⟨n - 1, by omega⟩
  rw [F34_eq]
  simp only [kStd, F34_1, F34_2, F34_3, F34_4, F34, kNew, kSteps, kCmp, kEnv, kKont, kFld, kLen, kCall, kIsos, gloop_succ, cond_true, cond_false, Bool.not_true, Bool.not_false, Nat.reduceEqDiff, reduceIte, Nat.reduceAdd, List.length_map, g105 (n := n) (by omega) N hN, pV]
  cases h1 : decide ((chk N).2 = 0) with
  | false => simp only [kStd, F34_1, F34_2, F34_3, F34_4, F34, kNew, kSteps, kCmp, kEnv, kKont, kFld, kLen, kCall, kIsos, gloop_succ, cond_true, cond_false, Bool.not_true, Bool.not_false, Nat.reduceEqDiff, reduceIte, Nat.reduceAdd, List.length_map]
  | true =>
    have hz := of_decide_eq_true h1
    have hf := (chk_ok hz).fewP
    simp only [kStd, F34_1, F34_2, F34_3, F34_4, F34, kNew, kSteps, kCmp, kEnv, kKont, kFld, kLen, kCall, kIsos, gloop_succ, cond_true, cond_false, Bool.not_true, Bool.not_false, Nat.reduceEqDiff, reduceIte, Nat.reduceAdd, List.length_map, g106 (n := n) (by omega) N (chk_ok hz) (by omega), hz]
end Go.Proofs.YthnnjopilpgakaaGreat
namespace Go.Proofs.YthnnjopilpgakaaGreat
open Go.Gh

theorem g54 {n : Nat} (hn : 1 ≤ n) (lk : Nat) (x a b : Int) (h : List GB) (K : CK) : gcall gp n lk 54 [gi x, gi a, gi b] h K = K (gb (decide (a ≤ x ∧ x ≤ b))) h := by
  obtain ⟨n, rfl⟩ : ∃ m, n = m + 1 := ⟨n - 1, by omega⟩
  rw [F54_eq]
  simp only [kStd, F54_1, F54_2, F54_3, F54_4, F54_5, F54_6, F54, kNew, kSteps, kCmp, kEnv, kKont, kFld, kLen, kCall, kIsos, gloop_succ, cond_true, cond_false, Bool.not_true, Bool.not_false, Nat.reduceEqDiff, reduceIte, Nat.reduceAdd, List.length_map]
  by_cases h1 : x < a
  · have h2 : decide (a ≤ x ∧ x ≤ b) = false := decide_eq_false (by omega)
    simp only [kStd, F54_1, F54_2, F54_3, F54_4, F54_5, F54_6, F54, kNew, kSteps, kCmp, kEnv, kKont, kFld, kLen, kCall, kIsos, gloop_succ, cond_true, cond_false, Bool.not_true, Bool.not_false, Nat.reduceEqDiff, reduceIte, Nat.reduceAdd, List.length_map, h2, decide_eq_true h1]
  · have h2 : decide (a ≤ x ∧ x ≤ b) = !decide (b < x) := by
      by_cases h3 : b < x
      · rw [decide_eq_true h3]; exact decide_eq_false (by omega)
      · rw [decide_eq_false h3]; exact decide_eq_true (by omega)
    simp only [kStd, F54_1, F54_2, F54_3, F54_4, F54_5, F54_6, F54, kNew, kSteps, kCmp, kEnv, kKont, kFld, kLen, kCall, kIsos, gloop_succ, cond_true, cond_false, Bool.not_true, Bool.not_false, Nat.reduceEqDiff, reduceIte, Nat.reduceAdd, List.length_map, h2, decide_eq_false h1]

theorem l107 {n lk : Nat} (hn : 1 ≤ n) (x : Aff) (hl : x.c.length ≤ 1000000) (h : List GB) (k : CK) (K : GX → St → Bool) (hE : ∀ e, e 2 = .d (.vptr [eA x] 0 0) → K (.exit 0) ⟨e, h⟩ = k (gi (bif decide (-64 ≤ x.k ∧ x.k ≤ 64) then 0 else 2)) h) (hR : ∀ e, e 4 = gi 2 → K .ret ⟨e, h⟩ = k (gi 2) h) :
    ∀ (r : List Int) (i m : Nat), x.c.drop i = r → i ≤ x.c.length → r.length < m → gloop (B107_0 (sX (gcall gp n) n lk)) m { env := ofL [(1, gi x.c.length), (2, .d (.vptr [eA x] 0 0)), (5, gi i)], heap := h } K = k (gi (bif r.all okC && decide (-64 ≤ x.k ∧ x.k ≤ 64) then 0 else 2)) h
  | [], i, m, hd, hi, hm => by
    obtain ⟨m, rfl⟩ : ∃ q, m = q + 1 := ⟨m - 1, by omega⟩
    have hge := drop_nil hd
    have hlt : decide ((i : Int) < (x.c.length : Int)) = false := decide_eq_false (by omega)
    simp only [kStd, B107_0_1, B107_0_2, B107_0_3, B107_0_4, B107_0_5, B107_0_6, B107_0_7, B107_0_8, B107_0_9, B107_0_10, B107_0, kNew, kSteps, kCmp, kEnv, kKont, kFld, kLen, kCall, kIsos, gloop_succ, cond_true, cond_false, Bool.not_true, Bool.not_false, Nat.reduceEqDiff, reduceIte, Nat.reduceAdd, List.length_map, hlt, List.all_nil, Bool.true_and]
    exact hE _ rfl
  | c :: r, i, m, hd, hi, hm => by
    obtain ⟨m, rfl⟩ : ∃ q, m = q + 1 := ⟨m - 1, by omega⟩
    obtain ⟨h1, h2, h3, h4⟩ := drop_cons hd
    have ih := l107 (n := n) (lk := lk) hn x hl h k K hE hR r (i + 1) m h3 (by omega) (by simp at hm; omega)
    have hlt : decide ((i : Int) < (x.c.length : Int)) = true := decide_eq_true (by omega)
    have hw := succ_nat (k := i) (by omega)
    have hx := idx48 (es := x.c.map di) (k := i) (by simpa using h1) (szI x.c)
    have hl := ldI h2
    simp only [kStd, B107_0_1, B107_0_2, B107_0_3, B107_0_4, B107_0_5, B107_0_6, B107_0_7, B107_0_8, B107_0_9, B107_0_10, B107_0, kNew, kSteps, kCmp, kEnv, kKont, kFld, kLen, kCall, kIsos, gloop_succ, cond_true, cond_false, Bool.not_true, Bool.not_false, Nat.reduceEqDiff, reduceIte, Nat.reduceAdd, List.length_map, hlt, ldA0, hx, hl, g54 hn, List.all_cons, okC]
    cases hq : decide (-8 ≤ c ∧ c ≤ 8) with
    | true => simp only [kStd, B107_0_1, B107_0_2, B107_0_3, B107_0_4, B107_0_5, B107_0_6, B107_0_7, B107_0_8, B107_0_9, B107_0_10, B107_0, kNew, kSteps, kCmp, kEnv, kKont, kFld, kLen, kCall, kIsos, gloop_succ, cond_true, cond_false, Bool.not_true, Bool.not_false, Nat.reduceEqDiff, reduceIte, Nat.reduceAdd, List.length_map, hw, Bool.true_and]; exact ih
    | false => simp only [kStd, B107_0_1, B107_0_2, B107_0_3, B107_0_4, B107_0_5, B107_0_6, B107_0_7, B107_0_8, B107_0_9, B107_0_10, B107_0, kNew, kSteps, kCmp, kEnv, kKont, kFld, kLen, kCall, kIsos, gloop_succ, cond_true, cond_false, Bool.not_true, Bool.not_false, Nat.reduceEqDiff, reduceIte, Nat.reduceAdd, List.length_map, Bool.false_and]; exact hR _ rfl

theorem g107 {n : Nat} (hn : 1000010 ≤ n) (lk : Nat) (x : Aff) (cnt : Int) (hx : x.c.length ≤ 1000000) (h : List GB) (K : CK) : gcall gp n lk 107 [.d (eA x), gi cnt] h K = K (gi (fErr x cnt)) h := by
  obtain ⟨n, rfl⟩ : ∃ m, n = m + 1 := ⟨n - 1, by omega⟩
  rw [F107_eq]
  simp only [kStd, F107_1, F107_2, F107_3, F107_4, F107_5, F107_6, F107_7, F107_8, F107_9, F107_10, F107_11, F107_12, F107, kNew, kSteps, kCmp, kEnv, kKont, kFld, kLen, kCall, kIsos, gloop_succ, cond_true, cond_false, Bool.not_true, Bool.not_false, Nat.reduceEqDiff, reduceIte, Nat.reduceAdd, List.length_map, bxA, ldA0]
  unfold fErr
  cases hq : decide ((x.c.length : Int) = cnt) with
  | false => simp only [kStd, F107_1, F107_2, F107_3, F107_4, F107_5, F107_6, F107_7, F107_8, F107_9, F107_10, F107_11, F107_12, F107, kNew, kSteps, kCmp, kEnv, kKont, kFld, kLen, kCall, kIsos, gloop_succ, cond_true, cond_false, Bool.not_true, Bool.not_false, Nat.reduceEqDiff, reduceIte, Nat.reduceAdd, List.length_map]
  | true =>
    have := of_decide_eq_true hq
    subst this
    simp only [kStd, F107_1, F107_2, F107_3, F107_4, F107_5, F107_6, F107_7, F107_8, F107_9, F107_10, F107_11, F107_12, F107, kNew, kSteps, kCmp, kEnv, kKont, kFld, kLen, kCall, kIsos, gloop_succ, cond_true, cond_false, Bool.not_true, Bool.not_false, Nat.reduceEqDiff, reduceIte, Nat.reduceAdd, List.length_map]
    refine l107 (by omega) x hx h K _ (fun e he => ?_) (fun e he => by simp only [kKont, Tryz.results107, kRet_one, he]) x.c 0 (n + 1) rfl (by omega) (by omega)
    simp only [kStd, F107_1, F107_2, F107_3, F107_4, F107_5, F107_6, F107_7, F107_8, F107_9, F107_10, F107_11, F107_12, F107, kNew, kSteps, kCmp, kEnv, kKont, kFld, kLen, kCall, kIsos, gloop_succ, cond_true, cond_false, Bool.not_true, Bool.not_false, Nat.reduceEqDiff, reduceIte, Nat.reduceAdd, List.length_map, he, ldA1, g54 (n := n) (by omega)]
    cases decide (-64 ≤ x.k ∧ x.k ≤ 64) <;> simp only [kStd, F107_1, F107_2, F107_3, F107_4, F107_5, F107_6, F107_7, F107_8, F107_9, F107_10, F107_11, F107_12, F107, kNew, kSteps, kCmp, kEnv, kKont, kFld, kLen, kCall, kIsos, gloop_succ, cond_true, cond_false, Bool.not_true, Bool.not_false, Nat.reduceEqDiff, reduceIte, Nat.reduceAdd, List.length_map]

-- the interval of a form's values: two variables of the call's own
theorem ldV0 (c : GB) (a b : Int) : gload gp 3 (.ptr 1 0) [c, .cells [gi a, gi b]] = some (gi a) := id rfl
theorem ldV1 (c : GB) (a b : Int) : gload gp 3 (.ptr 1 1) [c, .cells [gi a, gi b]] = some (gi b) := id rfl
theorem ldVV (c : GB) (a b : Int) : gload gp 98 (.ptr 1 0) [c, .cells [gi a, gi b]] = some (.d (eH (a, b))) := id rfl
theorem stV0 (c : GB) (a b x : Int) (k : CK) : gstore gp 0 3 (.ptr 1 0) (gi x) [c, .cells [gi a, gi b]] k = k .und [c, .cells [gi x, gi b]] := id rfl
theorem stV1 (c : GB) (a b x : Int) (k : CK) : gstore gp 0 3 (.ptr 1 1) (gi x) [c, .cells [gi a, gi b]] k = k .und [c, .cells [gi a, gi x]] := id rfl
theorem stVV (p q : Int) (x : Int × Int) (c : GB) (k : CK) : gstore gp 0 98 (.ptr 0 0) (.d (eH x)) [.cells [gi p, gi q], c] k = k .und [.cells [gi x.1, gi x.2], c] := id rfl
theorem clV (a b : Int) (c : GB) : gcell gp 98 (.ptr 0 0) [.cells [gi a, gi b], c] = some (.d (eH (a, b))) := id rfl
theorem giV (x : Int × Int) (c : GB) (k : GV → List GB → Bool) : gI false 2 (.d (eH x)) [c] k = k (.ptr 1 0) [c, .cells [gi x.1, gi x.2]] := id rfl
theorem flP (b o : Nat) : gfieldAddr gp 98 (.ptr b o) 0 = some (.ptr b o) ∧ gfieldAddr gp 98 (.ptr b o) 1 = some (.ptr b (o + 1)) := ⟨rfl, rfl⟩

theorem l108 {call : Gh.Call} {n : Nat} (x : Aff) (p : List (Int × Int)) (hp : okH x p) (k : CK) (K : GX → St → Bool) (hE : ∀ e a b, e 4 = .ptr 0 0 → e 5 = .ptr 1 0 → K (.exit 0) ⟨e, [.cells [gi 0, gi 0], .cells [gi a, gi b]]⟩ = k (.d (eH (a, b))) []) :
    ∀ (r : List Int) (i m : Nat) (a b : Int), x.c.drop i = r → i ≤ x.c.length → r.length < m → gloop (B108_0 (sX call n 0)) m { env := ofL [(1, .d (eHs p)), (2, .d (.vptr [eA x] 0 0)), (4, .ptr 0 0), (5, .ptr 1 0), (6, gi i)], heap := [.cells [gi 0, gi 0], .cells [gi a, gi b]] } K =
      k (.d (eH (lW a r (p.drop i), hW b r (p.drop i)))) []
  | [], i, m, a, b, hd, hi, hm => by
    obtain ⟨m, rfl⟩ : ∃ q, m = q + 1 := ⟨m - 1, by omega⟩
    have hge := drop_nil hd
    have hlt : decide ((i : Int) < (x.c.length : Int)) = false := decide_eq_false (by omega)
    simp only [kStd, B108_0_1, B108_0_2, B108_0_3, B108_0_4, B108_0_5, B108_0_6, B108_0_7, B108_0_8, B108_0_9, B108_0_10, B108_0_11, B108_0_12, B108_0_13, B108_0_14, B108_0_15, B108_0_16, B108_0_17, B108_0_18, B108_0_19, B108_0_20, B108_0_21, B108_0_22, B108_0_23, B108_0_24, B108_0_25, B108_0_26, B108_0_27, B108_0_28, B108_0_29, B108_0_30, B108_0_31, B108_0_32, B108_0_33, B108_0_34, B108_0, kNew, kSteps, kCmp, kEnv, kKont, kFld, kLen, kCall, kIsos, gloop_succ, cond_true, cond_false, Bool.not_true, Bool.not_false, Nat.reduceEqDiff, reduceIte, Nat.reduceAdd, List.length_map, ldA0, hlt, lW, hW, kPtr]
    exact hE _ _ _ rfl rfl
  | c :: r, i, m, a, b, hd, hi, hm => by
    obtain ⟨m, rfl⟩ : ∃ q, m = q + 1 := ⟨m - 1, by omega⟩
    obtain ⟨h1, h2, h3, h4⟩ := drop_cons hd
    have ho1 := hp.1
    have ho2 := hp.2
    have ih := fun a b => l108 (call := call) (n := n) x p hp k K hE r (i + 1) m a b h3 (by omega) (by simp at hm; omega)
    have hlt : decide ((i : Int) < (x.c.length : Int)) = true := decide_eq_true (by omega)
    have hw := succ_nat (k := i) (by omega)
    have hx := idx48 (es := x.c.map di) (k := i) (by simpa using h1) (szI x.c)
    have hx2 := idx56 (es := p.map eH) (k := i) (by simp; omega) (szH p)
    have hl := ldI h2
    have hq : p[i]? = some (p[i]'(by omega)) := List.getElem?_eq_getElem (by omega)
    have hl2 := ldH0 hq
    have hl3 := ldH1 hq
    rw [List.drop_eq_getElem_cons (show i < p.length by omega)]
    simp only [kStd, B108_0_1, B108_0_2, B108_0_3, B108_0_4, B108_0_5, B108_0_6, B108_0_7, B108_0_8, B108_0_9, B108_0_10, B108_0_11, B108_0_12, B108_0_13, B108_0_14, B108_0_15, B108_0_16, B108_0_17, B108_0_18, B108_0_19, B108_0_20, B108_0_21, B108_0_22, B108_0_23, B108_0_24, B108_0_25, B108_0_26, B108_0_27, B108_0_28, B108_0_29, B108_0_30, B108_0_31, B108_0_32, B108_0_33, B108_0_34, B108_0, kNew, kSteps, kCmp, kEnv, kKont, kFld, kLen, kCall, kIsos, gloop_succ, cond_true, cond_false, Bool.not_true, Bool.not_false, Nat.reduceEqDiff, reduceIte, Nat.reduceAdd, List.length_map, ldA0, hlt, hx, hl, hx2, hl2, hl3, kPtr, flP, ldV0, ldV1, stV0, stV1, gmin_i, gmax_i, hw, ih, lW, hW]

theorem g108 {n : Nat} (hn : 1000002 ≤ n) (x : Aff) (p : List (Int × Int)) (hx : okH x p) (h : List GB) (k : CK) : gcall gp n 0 108 [.d (eA x), .d (eHs p)] [] (kIso h k) = k (.d (eH (lW x.k x.c p, hW x.k x.c p))) h := by
  obtain ⟨n, rfl⟩ : ∃ m, n = m + 1 := ⟨n - 1, by omega⟩
  have hx2 := hx.2
  rw [F108_eq]
  simp only [kStd, F108_1, F108_2, F108_3, F108_4, F108_5, F108_6, F108_7, F108_8, F108_9, F108_10, F108_11, F108_12, F108, kNew, kSteps, kCmp, kEnv, kKont, kFld, kLen, kCall, kIsos, gloop_succ, cond_true, cond_false, Bool.not_true, Bool.not_false, Nat.reduceEqDiff, reduceIte, Nat.reduceAdd, List.length_map, bxA, ldA1, List.length_nil, List.nil_append, List.map_cons, List.map_nil, kPtr, bdH, giV]
  refine l108 x p hx (fun r _ => k r h) _ (fun e a b h4 h5 => ?_) x.c 0 (n + 1) x.k x.k rfl (by omega) (by omega)
  simp only [kStd, F108_1, F108_2, F108_3, F108_4, F108_5, F108_6, F108_7, F108_8, F108_9, F108_10, F108_11, F108_12, F108, kNew, kSteps, kCmp, kEnv, kKont, kFld, kLen, kCall, kIsos, gloop_succ, cond_true, cond_false, Bool.not_true, Bool.not_false, Nat.reduceEqDiff, reduceIte, Nat.reduceAdd, List.length_map, h4, h5, kPtr, ldVV, stVV, clV]

theorem flH (x : Int × Int) : gfield gp 98 (.d (eH x)) 0 = some (gi x.1) ∧ gfield gp 98 (.d (eH x)) 1 = some (gi x.2) := ⟨rfl, rfl⟩
theorem l37 {n : Nat} (l : List Lp) (hf : Fit l) (hn : 1000002 ≤ n) (hl : l.length ≤ 1000) (k : CK) (K : GX → St → Bool) (hE : ∀ e a t h, e 3 = .tl (a.map eH) t → K (.exit 0) ⟨e, h⟩ = k (.d (eHs a)) []) :
    ∀ (r : List Lp) (i m : Nat) (acc : List (Int × Int)), l.drop i = r → i ≤ l.length → acc.length = i → r.length < m → gloop (B37_0 (sX (gcall gp n) n 0)) m { env := ofL [(0, .d (eN l)), (3, .tl (acc.map eH) 0), (4, gi i)], heap := [.tail acc.length 2] } K = k (.d (eHs (hls r acc))) []
  | [], i, m, acc, hd, hi, ha, hm => by
    obtain ⟨m, rfl⟩ : ∃ q, m = q + 1 := ⟨m - 1, by omega⟩
    have hge := drop_nil hd
    have hlt : decide ((i : Int) < (l.length : Int)) = false := decide_eq_false (by omega)
    simp only [kStd, B37_0_1, B37_0_2, B37_0_3, B37_0_4, B37_0_5, B37_0_6, B37_0_7, B37_0_8, B37_0_9, B37_0_10, B37_0_11, B37_0_12, B37_0_13, B37_0_14, B37_0_15, B37_0_16, B37_0_17, B37_0, kNew, kSteps, kCmp, kEnv, kKont, kFld, kLen, kCall, kIsos, gloop_succ, cond_true, cond_false, Bool.not_true, Bool.not_false, Nat.reduceEqDiff, reduceIte, Nat.reduceAdd, List.length_map, hlt, hls]
    exact hE _ _ _ _ rfl
  | x :: r, i, m, acc, hd, hi, ha, hm => by
    obtain ⟨m, rfl⟩ : ∃ q, m = q + 1 := ⟨m - 1, by omega⟩
    obtain ⟨h1, h2, h3, h4⟩ := drop_cons hd
    have ih := fun a b => l37 (n := n) l hf hn hl k K hE r (i + 1) m a h3 (by omega) b (by simp at hm; omega)
    have hlt : decide ((i : Int) < (l.length : Int)) = true := decide_eq_true (by omega)
    have hw := succ_nat (k := i) (by omega)
    have hx := idx23 (es := l.map eL) (k := i) (by simpa using h1) (szL l)
    obtain ⟨f1, f2⟩ := hf i x h2
    have q1 := fun h k => g108 (n := n) hn x.lo acc ⟨by omega, by omega⟩ h k
    have q2 := fun h k => g108 (n := n) hn x.hi acc ⟨by omega, by omega⟩ h k
    have q3 := apH acc (lW x.lo.k x.lo.c acc, hW x.hi.k x.hi.c acc) (by omega)
    simp only [kStd, B37_0_1, B37_0_2, B37_0_3, B37_0_4, B37_0_5, B37_0_6, B37_0_7, B37_0_8, B37_0_9, B37_0_10, B37_0_11, B37_0_12, B37_0_13, B37_0_14, B37_0_15, B37_0_16, B37_0_17, B37_0, kNew, kSteps, kCmp, kEnv, kKont, kFld, kLen, kCall, kIsos, gloop_succ, cond_true, cond_false, Bool.not_true, Bool.not_false, Nat.reduceEqDiff, reduceIte, Nat.reduceAdd, List.length_map, hlt, hx, ldLlo h2, ldLhi h2, q1, q2, flH, bdH, bsH1]
    rw [q3]
    simp only [kStd, B37_0_1, B37_0_2, B37_0_3, B37_0_4, B37_0_5, B37_0_6, B37_0_7, B37_0_8, B37_0_9, B37_0_10, B37_0_11, B37_0_12, B37_0_13, B37_0_14, B37_0_15, B37_0_16, B37_0_17, B37_0, kNew, kSteps, kCmp, kEnv, kKont, kFld, kLen, kCall, kIsos, gloop_succ, cond_true, cond_false, Bool.not_true, Bool.not_false, Nat.reduceEqDiff, reduceIte, Nat.reduceAdd, List.length_map, hw, hls]
    exact ih _ (by simp; omega)
theorem g37 {n : Nat} (hn : 1000003 ≤ n) (l : List Lp) (hf : Fit l) (hl : l.length ≤ 1000) (h : List GB) (k : CK) : gcall gp n 0 37 [.d (eN l)] [] (kIso h k) = k (.d (eHs (hls l []))) h := by
  obtain ⟨n, rfl⟩ : ∃ m, n = m + 1 := ⟨n - 1, by omega⟩
  rw [F37_eq]
  simp only [kStd, F37_1, F37_2, F37, kNew, kSteps, kCmp, kEnv, kKont, kFld, kLen, kCall, kIsos, gloop_succ, cond_true, cond_false, Bool.not_true, Bool.not_false, Nat.reduceEqDiff, reduceIte, Nat.reduceAdd, List.length_map, List.length_nil, List.nil_append]
  exact l37 l hf (by omega) hl (fun r _ => k r h) _ (fun e a t h he => by simp only [kStd, F37_1, F37_2, F37, kNew, kSteps, kCmp, kEnv, kKont, kFld, kLen, kCall, kIsos, gloop_succ, cond_true, cond_false, Bool.not_true, Bool.not_false, Nat.reduceEqDiff, reduceIte, Nat.reduceAdd, List.length_map, he]) l 0 (n + 1) [] rfl (by omega) rfl (by omega)
end Go.Proofs.YthnnjopilpgakaaGreat
namespace Go.Proofs.YthnnjopilpgakaaGreat
open Go.Gh

theorem flat_di (l : List Int) : flat (l.map di) = l.map di := by
  induction l with
  | nil => rfl
  | cons x r ih =>
    have : flat (di x :: r.map di) = di x :: flat (r.map di) := rfl
    rw [List.map_cons, this, ih]
theorem mk48 (n : Nat) (hn : n ≤ 1000000) (k : CK) : gmake gp 0 0 48 (gi n) (gi n) [] k = k (.slc 0 0 n (some n)) [.cells (List.replicate n (gi 0))] := by
  show (if 0 ≤ (n : Int) ∧ (n : Int) ≤ (n : Int) ∧ (n : Int) * ((8 : Nat) : Int) ≤ (maxBytes : Int) ∧ (n : Int) ≤ (maxBytes : Int) then k (.slc 0 0 (n : Int).toNat (some (n : Int).toNat)) [.cells ((List.replicate (n : Int).toNat [gi 0]).flatten)] else false) = _
  rw [if_pos (by unfold maxBytes; omega), Int.toNat_natCast, List.flatten_replicate_singleton]
theorem cp48 (l : List Int) (P : DV) (hP : P = eI l ∨ P = .lit nilS ∧ l = []) (k : CK) : gcopy gp 0 48 (.slc 0 0 l.length (some l.length)) (.d P) [.cells (List.replicate l.length (gi 0))] k = k (gi l.length) [.cells (l.map gi)] := by
  have hs : srcOf [.cells (List.replicate l.length (gi 0))] ⟨1, false, 8, [.int .i64 0], .int .i64, false⟩ (.d P) = some (l.map di) := by
    rcases hP with rfl | ⟨rfl, rfl⟩ <;> rfl
  show (match srcOf [.cells (List.replicate l.length (gi 0))] ⟨1, false, 8, [.int .i64 0], .int .i64, false⟩ (.d P), some (GB.cells (List.replicate l.length (gi 0))) with
    | some xs, some (.cells cs) => _ | _, _ => false) = _
  rw [hs]
  show (bif true && szOk 1 (l.map di) && (l.map di).length.ble l.length && (0 + (flat (l.map di)).length).ble (List.replicate l.length (gi 0)).length then k (gi (l.map di).length) [.cells (setR (List.replicate l.length (gi 0)) 0 ((flat (l.map di)).map .d))] else false) = _
  rw [flat_di, szI]
  simp only [List.length_map, List.length_replicate, Nat.zero_add, Nat.ble_eq_true_of_le (Nat.le_refl _), Bool.and_true, cond_true, setR, List.take_zero, List.nil_append, List.map_map]
  rw [List.drop_of_length_le (by simp), List.append_nil]
  rfl
theorem toDs_d (l : List DV) : toDs (l.map GV.d) = some l := by
  induction l with
  | nil => rfl
  | cons x r ih => simp [toDs, toD1, ih]
theorem chunk_one : ∀ (l : List DV), chunk 1 false l.length l = l
  | [] => rfl
  | x :: r => by
    show (bif false then _ else ((x :: r).head?.getD _)) :: chunk 1 false r.length ((x :: r).drop 1) = _
    simp only [cond_false, List.head?_cons, Option.getD_some, List.drop_succ_cons, List.drop_zero, chunk_one r]
theorem fz48 (l : List Int) : frzV gp 0 [.cells (l.map gi)] 3 (.slc 0 0 l.length (some l.length)) = some (.xl (l.map di), [.dead]) := by
  have h1 : (l.map fun x => gi x) = (l.map di).map .d := by rw [List.map_map]; rfl
  show (bif (0 + l.length * 1).ble (l.map fun x => gi x).length then (match toDs (l.map fun x => gi x) with | some d => _ | none => none) else none) = _
  rw [h1, toDs_d, Nat.ble_eq_true_of_le (by simp), cond_true]
  have h2 : (l.map di).all DVcellOk = true := by simp [DVcellOk, Value.flatB]
  show (bif Nat.ble 0 0 && (l.map di).all DVcellOk then some (frzR l.length (some l.length) (chunk 1 false l.length (((l.map di).drop 0).take (l.length * 1))), _) else none) = _
  rw [h2, List.drop_zero, List.take_of_length_le (by simp)]
  have h3 : chunk 1 false l.length (l.map di) = l.map di := by
    have := chunk_one (l.map di)
    rwa [List.length_map] at this
  rw [h3]
  show some (frzR l.length (some l.length) (l.map di), _) = _
  unfold frzR
  simp

theorem glenP (l : List Int) (P : DV) (hP : P = eI l ∨ P = .lit nilS ∧ l = []) : glen gp 48 (.d P) = some (gi l.length) := by
  rcases hP with rfl | ⟨rfl, rfl⟩
  · show some (gi (l.map di).length) = _
    rw [List.length_map]
  · rfl
theorem kSlc (a b c : Nat) (d : Option Nat) : noNew (.slc a b c d) = .slc a b c d := id rfl
theorem g42 {n : Nat} (hn : 1 ≤ n) (l : List Int) (hl : l.length ≤ 1000000) (P : DV) (hP : P = eI l ∨ P = .lit nilS ∧ l = []) (h : List GB) (k : CK) : gcall gp n 0 42 [.d P] [] (kIso h k) = k (.xl (l.map di)) h := by
  obtain ⟨n, rfl⟩ : ∃ m, n = m + 1 := ⟨n - 1, by omega⟩
  rw [F42_eq]
  simp only [kStd, F42_1, F42_2, F42_3, F42_4, F42, kNew, kSteps, kCmp, kEnv, kKont, kFld, kLen, kCall, kIsos, gloop_succ, cond_true, cond_false, Bool.not_true, Bool.not_false, Nat.reduceEqDiff, reduceIte, Nat.reduceAdd, List.length_map, glenP l P hP, List.length_nil, mk48 _ hl, kSlc, cp48 l P hP, fz48]

theorem bsPx (p : List Int) : gbuildS gp 35 1 [(0, .xl (p.map di))] = some (.xl ([p].map eI)) := id rfl
/-- A list of points as it grows. -/
def OutV (V : GV) (o : List (List Int)) (h : List GB) : Prop :=
  (V = .d (.lit nilS) ∧ o = []) ∨ o ≠ [] ∧ ∃ u, V = .tl (o.map eI) u ∧ h[u]? = some (.tail o.length 1)
theorem OutV.app {V : GV} {o : List (List Int)} {h : List GB} (b : GB) (hV : OutV V o h) : OutV V o (h ++ [b]) := by
  rcases hV with q | ⟨h0, u, rfl, h2⟩
  · exact .inl q
  · exact .inr ⟨h0, u, rfl, by rw [List.getElem?_append_left (List.getElem?_eq_some_iff.1 h2).1]; exact h2⟩
theorem OutV.new {V : GV} {o : List (List Int)} {h : List GB} (hV : OutV V o h) : noNew V = V := by
  rcases hV with ⟨rfl, _⟩ | ⟨_, u, rfl, _⟩ <;> rfl
theorem OutV.len {V : GV} {o : List (List Int)} {h : List GB} (hV : OutV V o h) : glen gp 35 V = some (gi o.length) := by
  rcases hV with ⟨rfl, rfl⟩ | ⟨_, u, rfl, _⟩
  · rfl
  · rw [show glen gp 35 (.tl (o.map eI) u) = some (gi (o.map eI).length) from rfl, List.length_map]
theorem OutV.push {V : GV} {o : List (List Int)} {h : List GB} (hV : OutV V o h) (ho : o.length ≤ 1000) (p : List Int) : ∃ V' h', OutV V' (o ++ [p]) h' ∧ ∀ k, gappend gp 0 35 V (.xl ([p].map eI)) h k = k V' h' := by
  rcases hV with ⟨rfl, rfl⟩ | ⟨h0, u, rfl, h2⟩
  · exact ⟨_, _, .inr ⟨by simp, h.length, rfl, by simp⟩, fun k => apPn p h k⟩
  · have hu := (List.getElem?_eq_some_iff.1 h2).1
    refine ⟨.tl ((o ++ [p]).map eI) u, h.set u (.tail (o.length + 1) 1), .inr ⟨by simp, u, rfl, by rw [List.getElem?_set_self hu]; simp⟩, fun k => ?_⟩
    rw [app35 (fun _ => rfl) (by simpa using h2) (Nat.zero_le _) (szP [p]) (by simp; omega)]
    simp
theorem OutV.iso {V : GV} {o : List (List Int)} {h : List GB} (hV : OutV V o h) (h1 h' : List GB) (k : CK) : kIso h1 k V h' = k (.d (eQ o)) h1 := by
  rcases hV with ⟨rfl, rfl⟩ | ⟨h0, u, rfl, _⟩
  · rfl
  · unfold eQ
    cases o with
    | nil => exact absurd rfl h0
    | cons a b => rfl

theorem gPts (N : List Lp) (hf : Fit N) (ht : Tame N) (hN : N.length ≤ 3) :
    ∀ (rest : List Lp) (p : List Int) (Vp : GV) (P : DV), PV Vp p P → N.drop p.length = rest → p.length ≤ N.length → asum p ≤ capA p.length → ∀ (o : List (List Int)) (V : GV) (h : List GB), OutV V o h → o.length ≤ 200 → ∀ n, 1000010 + rest.length ≤ n →
      ∃ V' h', OutV V' (o ++ (pts rest p).take (201 - o.length)) h' ∧ ∀ K, gcall gp n 0 109 [.d (eN N), Vp, V] h K = K V' h'
  | [], p, Vp, P, hV, hd, hp, ha, o, V, h, hO, ho, n, hn => by
    obtain ⟨n, rfl⟩ : ∃ m, n = m + 1 := ⟨n - 1, by omega⟩
    have hlen : p.length = N.length := by have := drop_nil hd; omega
    have he : decide ((p.length : Int) = (N.length : Int)) = true := decide_eq_true (by omega)
    obtain ⟨V', h', i1, i2⟩ := hO.push (by omega) p
    refine ⟨V', h', ?_, fun K => ?_⟩
    · rw [show (pts [] p).take (201 - o.length) = [p] by simp only [pts]; exact List.take_of_length_le (by simp; omega)]; exact i1
    · rw [F109_eq]
      simp only [kStd, F109_1, F109_2, F109_3, F109_4, F109_5, F109_6, F109_7, F109_8, F109_9, F109_10, F109_11, F109_12, F109_13, F109_14, F109_15, F109_16, F109_17, F109, kNew, kSteps, kCmp, kEnv, kKont, kFld, kLen, kCall, kIsos, gloop_succ, cond_true, cond_false, Bool.not_true, Bool.not_false, Nat.reduceEqDiff, reduceIte, Nat.reduceAdd, List.length_map, hV.new, hV.len, hO.new, he, hV.c1, g42 (n := n) (by simp at hn; omega) p (by omega) P hV.data, bsPx]
      rw [i2]
      simp only [kStd, F109_1, F109_2, F109_3, F109_4, F109_5, F109_6, F109_7, F109_8, F109_9, F109_10, F109_11, F109_12, F109_13, F109_14, F109_15, F109_16, F109_17, F109, kNew, kSteps, kCmp, kEnv, kKont, kFld, kLen, kCall, kIsos, gloop_succ, cond_true, cond_false, Bool.not_true, Bool.not_false, Nat.reduceEqDiff, reduceIte, Nat.reduceAdd, List.length_map, i1.new]
  | l :: r, p, Vp, P, hV, hd, hp, ha, o, V, h, hO, ho, n, hn => by
    obtain ⟨n, rfl⟩ : ∃ m, n = m + 1 := ⟨n - 1, by omega⟩
    obtain ⟨h1, h2, h3, h4⟩ := drop_cons hd
    simp only [List.length_cons] at hn h4
    have he : decide ((p.length : Int) = (N.length : Int)) = false := decide_eq_false (by omega)
    obtain ⟨f1, f2⟩ := hf _ l h2
    obtain ⟨t1, t2⟩ := ht l (List.mem_of_getElem? h2)
    have hcap : asum p ≤ 640 := by
      have : p.length = 0 ∨ p.length = 1 ∨ p.length = 2 := by omega
      rcases this with q | q | q <;> rw [q] at ha <;> simp only [capA] at ha <;> omega
    have b1 := tame_val t1 hcap
    have b2 := tame_val t2 hcap
    have hx := idx23 (es := N.map eL) (k := p.length) (by simpa using h1) (szL N)
    have v1 := fun h K => g128 (n := n) (by omega) 0 l.lo p P hV.ne ⟨by omega, by omega⟩ h K
    have v2 := fun h K => g128 (n := n) (by omega) 0 l.hi p P hV.ne ⟨by omega, by omega⟩ h K
    have v3 := fun h K => g42 (n := n) (by omega) p (by omega) P hV.data h K
    generalize hlo : vW l.lo.k l.lo.c p = lo at b1 v1
    generalize hhi : vW l.hi.k l.hi.c p = hi at b2 v2
    have loop : ∀ (d : Nat) (x : Int) (o : List (List Int)) (V : GV) (h : List GB) (m : Nat), (hi + 1 - x).toNat = d → d < m → lo ≤ x → OutV V o h → o.length ≤ 201 → ∃ V' h', OutV V' (o ++ ((rng x hi).flatMap fun x => pts r (p ++ [x])).take (201 - o.length)) h' ∧
        ∀ (K : GX → St → Bool) (k : CK), (∀ e V h, e 2 = V → K (.exit 0) ⟨e, h⟩ = k (noNew V) h) → gloop (B109_0 (sX (gcall gp n) n 0)) m { env := ofL [(0, .d (eN N)), (1, Vp), (2, V), (8, gi hi), (9, gi x)], heap := h } K = k V' h' := by
      intro d
      induction d with
      | zero =>
        intro x o V h m hdx hm hlx hO ho
        obtain ⟨m, rfl⟩ : ∃ q, m = q + 1 := ⟨m - 1, by omega⟩
        have hgt : decide (x ≤ hi) = false := decide_eq_false (by omega)
        rw [rng_nil (by omega)]
        refine ⟨V, h, by simpa using hO, fun K k hE => ?_⟩
        simp only [kStd, B109_0_1, B109_0_2, B109_0_3, B109_0_4, B109_0_5, B109_0_6, B109_0_7, B109_0_8, B109_0_9, B109_0_10, B109_0_11, B109_0, kNew, kSteps, kCmp, kEnv, kKont, kFld, kLen, kCall, kIsos, gloop_succ, cond_true, cond_false, Bool.not_true, Bool.not_false, Nat.reduceEqDiff, reduceIte, Nat.reduceAdd, List.length_map, hV.new, hO.new, hgt]
        rw [hE _ V h rfl, hO.new]
      | succ d ihd =>
        intro x o V h m hdx hm hlx hO ho
        obtain ⟨m, rfl⟩ : ∃ q, m = q + 1 := ⟨m - 1, by omega⟩
        have hle : decide (x ≤ hi) = true := decide_eq_true (by omega)
        by_cases hfull : o.length ≤ 200
        · have hlt : decide ((o.length : Int) ≤ 200) = true := decide_eq_true (by omega)
          have hw : IntKind.i64.wrap (x + 1) = x + 1 := wrap_in (by omega) (by omega)
          rw [rng_cons (by omega), List.flatMap_cons]
          have hp1 : (p ++ [x]).length = p.length + 1 := by simp
          obtain ⟨V1, h5, h6, h7⟩ := gPts N hf ht hN r (p ++ [x]) _ _ (PV.tl (p ++ [x]) h.length) (by rw [hp1]; exact h3) (by omega) (by rw [asum_snoc, hp1]; simp only [capA]; omega) o V (h ++ [.tail (p.length + 1) 1]) (hO.app _) hfull n (by omega)
          have q1 := apI p x (by omega) h
          obtain ⟨V2, h8, h9, h10⟩ := ihd (x + 1) _ V1 h5 m (by omega) (by omega) (by omega) h6 (by simp only [List.length_append, List.length_take]; omega)
          refine ⟨V2, h8, ?_, fun K k hE => ?_⟩
          · rw [List.take_append]
            rw [List.append_assoc] at h9
            have e : 201 - (o ++ (pts r (p ++ [x])).take (201 - o.length)).length = 201 - o.length - (pts r (p ++ [x])).length := by
              simp only [List.length_append, List.length_take]; omega
            rw [e] at h9
            exact h9
          · simp only [kStd, B109_0_1, B109_0_2, B109_0_3, B109_0_4, B109_0_5, B109_0_6, B109_0_7, B109_0_8, B109_0_9, B109_0_10, B109_0_11, B109_0, kNew, kSteps, kCmp, kEnv, kKont, kFld, kLen, kCall, kIsos, gloop_succ, cond_true, cond_false, Bool.not_true, Bool.not_false, Nat.reduceEqDiff, reduceIte, Nat.reduceAdd, List.length_map, hV.new, hO.new, hle, hO.len, hlt, hV.c1, v3, bsI1]
            rw [q1]
            simp only [kStd, B109_0_1, B109_0_2, B109_0_3, B109_0_4, B109_0_5, B109_0_6, B109_0_7, B109_0_8, B109_0_9, B109_0_10, B109_0_11, B109_0, kNew, kSteps, kCmp, kEnv, kKont, kFld, kLen, kCall, kIsos, gloop_succ, cond_true, cond_false, Bool.not_true, Bool.not_false, Nat.reduceEqDiff, reduceIte, Nat.reduceAdd, List.length_map, hV.new, hO.new, h7, h6.new, hw]
            exact h10 K k hE
        · have hlt : decide ((o.length : Int) ≤ 200) = false := decide_eq_false (by omega)
          refine ⟨V, h, ?_, fun K k hE => ?_⟩
          · rw [show 201 - o.length = 0 by omega]; simpa using hO
          · simp only [kStd, B109_0_1, B109_0_2, B109_0_3, B109_0_4, B109_0_5, B109_0_6, B109_0_7, B109_0_8, B109_0_9, B109_0_10, B109_0_11, B109_0, kNew, kSteps, kCmp, kEnv, kKont, kFld, kLen, kCall, kIsos, gloop_succ, cond_true, cond_false, Bool.not_true, Bool.not_false, Nat.reduceEqDiff, reduceIte, Nat.reduceAdd, List.length_map, hV.new, hO.new, hle, hO.len, hlt]
            rw [hE _ V h rfl, hO.new]
    obtain ⟨V', h', i1, i2⟩ := loop _ lo o V h (n + 1) rfl (by omega) (Int.le_refl _) hO (by omega)
    simp only [pts, hlo, hhi]
    refine ⟨V', h', i1, fun K => ?_⟩
    rw [F109_eq]
    simp only [kStd, F109_1, F109_2, F109_3, F109_4, F109_5, F109_6, F109_7, F109_8, F109_9, F109_10, F109_11, F109_12, F109_13, F109_14, F109_15, F109_16, F109_17, F109, kNew, kSteps, kCmp, kEnv, kKont, kFld, kLen, kCall, kIsos, gloop_succ, cond_true, cond_false, Bool.not_true, Bool.not_false, Nat.reduceEqDiff, reduceIte, Nat.reduceAdd, List.length_map, hV.new, hO.new, hV.len, he, hx, ldLlo h2, ldLhi h2, hV.c2, v1, v2]
    exact i2 _ K (fun e V h he => by simp only [kStd, F109_1, F109_2, F109_3, F109_4, F109_5, F109_6, F109_7, F109_8, F109_9, F109_10, F109_11, F109_12, F109_13, F109_14, F109_15, F109_16, F109_17, F109, kNew, kSteps, kCmp, kEnv, kKont, kFld, kLen, kCall, kIsos, gloop_succ, cond_true, cond_false, Bool.not_true, Bool.not_false, Nat.reduceEqDiff, reduceIte, Nat.reduceAdd, List.length_map, he, noNew_idem])

theorem g38 {n : Nat} (hn : 1000020 ≤ n) (N : List Lp) (hf : Fit N) (ht : Tame N) (hN : N.length ≤ 3) (h : List GB) (k : CK) : gcall gp n 0 38 [.d (eN N)] [] (kIso h k) = k (.d (eQ ((pts N []).take 201))) h := by
  obtain ⟨n, rfl⟩ : ∃ m, n = m + 1 := ⟨n - 1, by omega⟩
  obtain ⟨V', h', i1, i2⟩ := gPts N hf ht hN N [] _ _ PV.nil rfl (by simp) (by simp [asum]) [] _ [] (.inl ⟨rfl, rfl⟩) (by simp) n (by omega)
  rw [F38_eq]
  simp only [kStd, F38_1, F38, kNew, kSteps, kCmp, kEnv, kKont, kFld, kLen, kCall, kIsos, gloop_succ, cond_true, cond_false, Bool.not_true, Bool.not_false, Nat.reduceEqDiff, reduceIte, Nat.reduceAdd, List.length_map, i2, i1.new]
  rw [i1.iso]
  simp
end Go.Proofs.YthnnjopilpgakaaGreat
namespace Go.Proofs.YthnnjopilpgakaaGreat
open Go.Gh

def bef : List Int → List Int → Bool
  | [], [] => false
  | [], _ :: _ => true
  | _ :: _, [] => false
  | x :: a, y :: b => decide (x < y) || (decide (x = y) && bef a b)
theorem sl1 (x : Int) (a : List Int) : gslice gp 48 (.d (eI (x :: a))) (some (gi 1)) none none = some (.d (eI a)) := by
  show (bif szOk 1 ((x :: a).map di) then (match bnd (some (gi 1)) 0 ((x :: a).map di).length with | some i => some (GV.d (.list ((((x :: a).map di).take ((x :: a).map di).length).drop i))) | none => none) else none) = _
  rw [szI, cond_true]
  have : bnd (some (gi 1)) 0 ((x :: a).map di).length = some 1 := by
    show (if 0 ≤ (1 : Int) ∧ (1 : Int) ≤ (((x :: a).map di).length : Int) then some (1 : Int).toNat else none) = _
    rw [if_pos (by simp; omega)]; rfl
  rw [this]
  simp [List.take_of_length_le]
theorem ix0 (x : Int) (a : List Int) : gindexAddr gp 48 (.d (eI (x :: a))) (gi 0) = some (.d (.vptr ((x :: a).map di) 0 0)) := by
  have := idx48 (es := (x :: a).map di) (k := 0) (by simp) (szI _)
  exact this
theorem ld0 (x : Int) (a : List Int) (h : List GB) : gload gp 3 (.d (.vptr ((x :: a).map di) 0 0)) h = some (gi x) := id rfl

theorem g82 : ∀ (a b : List Int) {n : Nat} (_ : a.length + 2 ≤ n) (lk : Nat) (h : List GB) (K : CK), gcall gp n lk 82 [.d (eI a), .d (eI b)] h K = K (gb (bef a b)) h
  | [], b, n, hn, lk, h, K => by
    obtain ⟨n, rfl⟩ : ∃ m, n = m + 1 := ⟨n - 1, by omega⟩
    rw [F82_eq]
    cases b with
    | nil =>
      have h1 : decide (((([] : List Int).length : Nat) : Int) = 0) = true := rfl
      have h2 : decide (((([] : List Int).length : Nat) : Int) < ((([] : List Int).length : Nat) : Int)) = false := rfl
      simp only [kStd, F82_1, F82_2, F82_3, F82_4, F82_5, F82_6, F82_7, F82_8, F82_9, F82_10, F82_11, F82_12, F82_13, F82_14, F82_15, F82_16, F82_17, F82_18, F82_19, F82_20, F82_21, F82_22, F82_23, F82_24, F82_25, F82_26, F82_27, F82_28, F82_29, F82_30, F82, kNew, kSteps, kCmp, kEnv, kKont, kFld, kLen, kCall, kIsos, gloop_succ, cond_true, cond_false, Bool.not_true, Bool.not_false, Nat.reduceEqDiff, reduceIte, Nat.reduceAdd, List.length_map, h1, h2, bef]
    | cons y b =>
      have h1 : decide (((([] : List Int).length : Nat) : Int) = 0) = true := rfl
      have h2 : decide (((([] : List Int).length : Nat) : Int) < (((y :: b).length : Nat) : Int)) = true := decide_eq_true (by simp only [List.length_cons, List.length_nil]; omega)
      simp only [kStd, F82_1, F82_2, F82_3, F82_4, F82_5, F82_6, F82_7, F82_8, F82_9, F82_10, F82_11, F82_12, F82_13, F82_14, F82_15, F82_16, F82_17, F82_18, F82_19, F82_20, F82_21, F82_22, F82_23, F82_24, F82_25, F82_26, F82_27, F82_28, F82_29, F82_30, F82, kNew, kSteps, kCmp, kEnv, kKont, kFld, kLen, kCall, kIsos, gloop_succ, cond_true, cond_false, Bool.not_true, Bool.not_false, Nat.reduceEqDiff, reduceIte, Nat.reduceAdd, List.length_map, h1, h2, bef]
  | x :: a, [], n, hn, lk, h, K => by
    obtain ⟨n, rfl⟩ : ∃ m, n = m + 1 := ⟨n - 1, by omega⟩
    rw [F82_eq]
    have h1 : decide ((((x :: a).length : Nat) : Int) = 0) = false := decide_eq_false (by simp; omega)
    have h2 : decide (((([] : List Int).length : Nat) : Int) = 0) = true := rfl
    have h3 : decide ((((x :: a).length : Nat) : Int) < ((([] : List Int).length : Nat) : Int)) = false := decide_eq_false (by simp; omega)
    simp only [kStd, F82_1, F82_2, F82_3, F82_4, F82_5, F82_6, F82_7, F82_8, F82_9, F82_10, F82_11, F82_12, F82_13, F82_14, F82_15, F82_16, F82_17, F82_18, F82_19, F82_20, F82_21, F82_22, F82_23, F82_24, F82_25, F82_26, F82_27, F82_28, F82_29, F82_30, F82, kNew, kSteps, kCmp, kEnv, kKont, kFld, kLen, kCall, kIsos, gloop_succ, cond_true, cond_false, Bool.not_true, Bool.not_false, Nat.reduceEqDiff, reduceIte, Nat.reduceAdd, List.length_map, h1, h2, h3, bef]
  | x :: a, y :: b, n, hn, lk, h, K => by
    obtain ⟨n, rfl⟩ : ∃ m, n = m + 1 := ⟨n - 1, by omega⟩
    rw [F82_eq]
    have h1 : decide ((((x :: a).length : Nat) : Int) = 0) = false := decide_eq_false (by simp; omega)
    have h2 : decide ((((y :: b).length : Nat) : Int) = 0) = false := decide_eq_false (by simp; omega)
    have ih := fun h K => g82 a b (n := n) (by simp at hn; omega) 0 h K
    simp only [kStd, F82_1, F82_2, F82_3, F82_4, F82_5, F82_6, F82_7, F82_8, F82_9, F82_10, F82_11, F82_12, F82_13, F82_14, F82_15, F82_16, F82_17, F82_18, F82_19, F82_20, F82_21, F82_22, F82_23, F82_24, F82_25, F82_26, F82_27, F82_28, F82_29, F82_30, F82, kNew, kSteps, kCmp, kEnv, kKont, kFld, kLen, kCall, kIsos, gloop_succ, cond_true, cond_false, Bool.not_true, Bool.not_false, Nat.reduceEqDiff, reduceIte, Nat.reduceAdd, List.length_map, h1, h2, ix0, ld0, bef]
    cases h3 : decide (x < y) with
    | true => simp only [kStd, F82_1, F82_2, F82_3, F82_4, F82_5, F82_6, F82_7, F82_8, F82_9, F82_10, F82_11, F82_12, F82_13, F82_14, F82_15, F82_16, F82_17, F82_18, F82_19, F82_20, F82_21, F82_22, F82_23, F82_24, F82_25, F82_26, F82_27, F82_28, F82_29, F82_30, F82, kNew, kSteps, kCmp, kEnv, kKont, kFld, kLen, kCall, kIsos, gloop_succ, cond_true, cond_false, Bool.not_true, Bool.not_false, Nat.reduceEqDiff, reduceIte, Nat.reduceAdd, List.length_map, Bool.true_or]
    | false =>
      simp only [kStd, F82_1, F82_2, F82_3, F82_4, F82_5, F82_6, F82_7, F82_8, F82_9, F82_10, F82_11, F82_12, F82_13, F82_14, F82_15, F82_16, F82_17, F82_18, F82_19, F82_20, F82_21, F82_22, F82_23, F82_24, F82_25, F82_26, F82_27, F82_28, F82_29, F82_30, F82, kNew, kSteps, kCmp, kEnv, kKont, kFld, kLen, kCall, kIsos, gloop_succ, cond_true, cond_false, Bool.not_true, Bool.not_false, Nat.reduceEqDiff, reduceIte, Nat.reduceAdd, List.length_map, ix0, ld0, Bool.false_or]
      cases h4 : decide (x = y) with
      | true => simp only [kStd, F82_1, F82_2, F82_3, F82_4, F82_5, F82_6, F82_7, F82_8, F82_9, F82_10, F82_11, F82_12, F82_13, F82_14, F82_15, F82_16, F82_17, F82_18, F82_19, F82_20, F82_21, F82_22, F82_23, F82_24, F82_25, F82_26, F82_27, F82_28, F82_29, F82_30, F82, kNew, kSteps, kCmp, kEnv, kKont, kFld, kLen, kCall, kIsos, gloop_succ, cond_true, cond_false, Bool.not_true, Bool.not_false, Nat.reduceEqDiff, reduceIte, Nat.reduceAdd, List.length_map, sl1, ih, Bool.true_and]
      | false => simp only [kStd, F82_1, F82_2, F82_3, F82_4, F82_5, F82_6, F82_7, F82_8, F82_9, F82_10, F82_11, F82_12, F82_13, F82_14, F82_15, F82_16, F82_17, F82_18, F82_19, F82_20, F82_21, F82_22, F82_23, F82_24, F82_25, F82_26, F82_27, F82_28, F82_29, F82_30, F82, kNew, kSteps, kCmp, kEnv, kKont, kFld, kLen, kCall, kIsos, gloop_succ, cond_true, cond_false, Bool.not_true, Bool.not_false, Nat.reduceEqDiff, reduceIte, Nat.reduceAdd, List.length_map, Bool.false_and]

def ints (a b : List Int) : Bool := decide (a.length = b.length) && !bef a b && !bef b a
theorem bef_eq : ∀ (a b : List Int), a.length = b.length → bef a b = false → bef b a = false → a = b
  | [], [], _, _, _ => rfl
  | [], _ :: _, h, _, _ => by simp at h
  | _ :: _, [], h, _, _ => by simp at h
  | x :: a, y :: b, h, h1, h2 => by
    simp only [bef, Bool.or_eq_false_iff, decide_eq_false_iff_not] at h1 h2
    have hxy : x = y := by omega
    subst hxy
    have := bef_eq a b (by simpa using h) (by simpa using h1.2) (by simpa using h2.2)
    rw [this]
theorem bef_self : ∀ (a : List Int), bef a a = false
  | [] => rfl
  | x :: a => by simp [bef, bef_self a]
theorem ints_iff (a b : List Int) : ints a b = decide (a = b) := by
  by_cases h : a = b
  · subst h
    simp [ints, bef_self]
  · rw [decide_eq_false h]
    cases hq : ints a b with
    | false => rfl
    | true =>
      simp only [ints, Bool.and_eq_true, decide_eq_true_eq, Bool.not_eq_true'] at hq
      exact absurd (bef_eq a b hq.1.1 hq.1.2 hq.2) h

theorem g31 (a b : List Int) {n : Nat} (hn : a.length + 3 ≤ n) (lk : Nat) (h : List GB) (K : CK) : gcall gp n lk 31 [.d (eI a), .d (eI b)] h K = K (gb (decide (a = b))) h := by
  obtain ⟨n, rfl⟩ : ∃ m, n = m + 1 := ⟨n - 1, by omega⟩
  rw [F31_eq, ← ints_iff]
  have hc : decide ((a.length : Int) = (b.length : Int)) = decide (a.length = b.length) := decide_eq_decide.2 (by omega)
  simp only [kStd, F31_1, F31_2, F31_3, F31_4, F31_5, F31_6, F31_7, F31_8, F31_9, F31_10, F31_11, F31_12, F31_13, F31, kNew, kSteps, kCmp, kEnv, kKont, kFld, kLen, kCall, kIsos, gloop_succ, cond_true, cond_false, Bool.not_true, Bool.not_false, Nat.reduceEqDiff, reduceIte, Nat.reduceAdd, List.length_map, hc, ints]
  cases h1 : decide (a.length = b.length) with
  | false => simp only [kStd, F31_1, F31_2, F31_3, F31_4, F31_5, F31_6, F31_7, F31_8, F31_9, F31_10, F31_11, F31_12, F31_13, F31, kNew, kSteps, kCmp, kEnv, kKont, kFld, kLen, kCall, kIsos, gloop_succ, cond_true, cond_false, Bool.not_true, Bool.not_false, Nat.reduceEqDiff, reduceIte, Nat.reduceAdd, List.length_map, Bool.false_and]
  | true =>
    have hl := of_decide_eq_true h1
    simp only [kStd, F31_1, F31_2, F31_3, F31_4, F31_5, F31_6, F31_7, F31_8, F31_9, F31_10, F31_11, F31_12, F31_13, F31, kNew, kSteps, kCmp, kEnv, kKont, kFld, kLen, kCall, kIsos, gloop_succ, cond_true, cond_false, Bool.not_true, Bool.not_false, Nat.reduceEqDiff, reduceIte, Nat.reduceAdd, List.length_map, Bool.true_and, g82 a b (n := n) (by omega)]
    cases h2 : bef a b with
    | true => simp only [kStd, F31_1, F31_2, F31_3, F31_4, F31_5, F31_6, F31_7, F31_8, F31_9, F31_10, F31_11, F31_12, F31_13, F31, kNew, kSteps, kCmp, kEnv, kKont, kFld, kLen, kCall, kIsos, gloop_succ, cond_true, cond_false, Bool.not_true, Bool.not_false, Nat.reduceEqDiff, reduceIte, Nat.reduceAdd, List.length_map, Bool.false_and]
    | false => simp only [kStd, F31_1, F31_2, F31_3, F31_4, F31_5, F31_6, F31_7, F31_8, F31_9, F31_10, F31_11, F31_12, F31_13, F31, kNew, kSteps, kCmp, kEnv, kKont, kFld, kLen, kCall, kIsos, gloop_succ, cond_true, cond_false, Bool.not_true, Bool.not_false, Nat.reduceEqDiff, reduceIte, Nat.reduceAdd, List.length_map, Bool.true_and, g82 b a (n := n) (by omega)]

theorem idxQ {l : List (List Int)} {k : Nat} (h : k < l.length) : gindexAddr gp 35 (.d (eQ l)) (gi k) = some (.d (.vptr (l.map eI) k 0)) := by
  cases l with
  | nil => simp at h
  | cons a b => exact idx35 (es := (a :: b).map eI) (k := k) (by simpa using h) (szP _)
theorem lenQ (l : List (List Int)) : glen gp 35 (.d (eQ l)) = some (gi l.length) := by
  cases l with
  | nil => rfl
  | cons a b =>
    show some (gi ((a :: b).map eI).length) = _
    rw [List.length_map]
theorem ldQ {l : List (List Int)} {k : Nat} {x : List Int} (h : l[k]? = some x) (H : List GB) : gload gp 48 (.d (.vptr (l.map eI) k 0)) H = some (.d (eI x)) := by
  show (match (l.map eI)[k]? with | some e => _ | none => _) = _
  rw [List.getElem?_map, h]; rfl

theorem l20 {n lk : Nat} (l : List (List Int)) (hl : l.length ≤ 1000000) (hw : ∀ x ∈ l, x.length + 3 ≤ n) (h : List GB) (k : CK) (K : GX → St → Bool) (hE : ∀ e, e 5 = gb true → K (.exit 0) ⟨e, h⟩ = k (gb true) h) :
    ∀ (r : List (List Int)) (i m : Nat), l.drop i = r → i ≤ l.length → r.length < m → gloop (B20_0 (sX (gcall gp n) n lk)) m { env := ofL [(0, .d (eQ l)), (1, .d (eQ l)), (5, gb true), (13, gi l.length), (14, gi i)], heap := h } K = k (gb true) h
  | [], i, m, hd, hi, hm => by
    obtain ⟨m, rfl⟩ : ∃ q, m = q + 1 := ⟨m - 1, by omega⟩
    have hge := drop_nil hd
    have hlt : decide ((i : Int) < (l.length : Int)) = false := decide_eq_false (by omega)
    simp only [kStd, B20_0_1, B20_0_2, B20_0_3, B20_0_4, B20_0_5, B20_0_6, B20_0_7, B20_0_8, B20_0_9, B20_0_10, B20_0_11, B20_0_12, B20_0_13, B20_0, kNew, kSteps, kCmp, kEnv, kKont, kFld, kLen, kCall, kIsos, gloop_succ, cond_true, cond_false, Bool.not_true, Bool.not_false, Nat.reduceEqDiff, reduceIte, Nat.reduceAdd, List.length_map, hlt]
    exact hE _ rfl
  | x :: r, i, m, hd, hi, hm => by
    obtain ⟨m, rfl⟩ : ∃ q, m = q + 1 := ⟨m - 1, by omega⟩
    obtain ⟨h1, h2, h3, h4⟩ := drop_cons hd
    have ih := l20 (n := n) (lk := lk) l hl hw h k K hE r (i + 1) m h3 (by omega) (by simp at hm; omega)
    have hlt : decide ((i : Int) < (l.length : Int)) = true := decide_eq_true (by omega)
    have hs := succ_nat (k := i) (by omega)
    have q := fun h K => g31 x x (n := n) (hw x (List.mem_of_getElem? h2)) 0 h K
    have hd : decide (x = x) = true := decide_eq_true rfl
    simp only [kStd, B20_0_1, B20_0_2, B20_0_3, B20_0_4, B20_0_5, B20_0_6, B20_0_7, B20_0_8, B20_0_9, B20_0_10, B20_0_11, B20_0_12, B20_0_13, B20_0, kNew, kSteps, kCmp, kEnv, kKont, kFld, kLen, kCall, kIsos, gloop_succ, cond_true, cond_false, Bool.not_true, Bool.not_false, Nat.reduceEqDiff, reduceIte, Nat.reduceAdd, List.length_map, hlt, idxQ h1, ldQ h2, q, hd, hs]
    exact ih
/-- A list is the same as itself. -/
theorem g20 {n : Nat} (hn : 1000001 ≤ n) (l : List (List Int)) (hl : l.length ≤ 1000) (hw : ∀ x ∈ l, x.length ≤ 1000) (lk : Nat) (h : List GB) (K : CK) : gcall gp n lk 20 [.d (eQ l), .d (eQ l)] h K = K (gb true) h := by
  obtain ⟨n, rfl⟩ : ∃ m, n = m + 1 := ⟨n - 1, by omega⟩
  rw [F20_eq]
  have hd : decide ((l.length : Int) = (l.length : Int)) = true := decide_eq_true rfl
  simp only [kStd, F20_1, F20_2, F20_3, F20_4, F20_5, F20, kNew, kSteps, kCmp, kEnv, kKont, kFld, kLen, kCall, kIsos, gloop_succ, cond_true, cond_false, Bool.not_true, Bool.not_false, Nat.reduceEqDiff, reduceIte, Nat.reduceAdd, List.length_map, lenQ, hd]
  exact l20 l (by omega) (fun x hx => by have := hw x hx; omega) h K _ (fun e he => by simp only [kStd, F20_1, F20_2, F20_3, F20_4, F20_5, F20, kNew, kSteps, kCmp, kEnv, kKont, kFld, kLen, kCall, kIsos, gloop_succ, cond_true, cond_false, Bool.not_true, Bool.not_false, Nat.reduceEqDiff, reduceIte, Nat.reduceAdd, List.length_map, he]) l 0 (n + 1) rfl (by omega) (by omega)

theorem eqH (x : Int × Int) : gbin gp .neq 98 (.d (eH x)) (.d (eH x)) = some (gb false) := by
  show some (gb (!((x.1 == x.1) && ((x.2 == x.2) && true)))) = _
  simp
theorem l36 {call : Gh.Call} {n lk : Nat} (l : List (Int × Int)) (hl : l.length ≤ 1000000) (h : List GB) (k : CK) (K : GX → St → Bool) (hE : ∀ e, K (.exit 0) ⟨e, h⟩ = k (gb true) h) :
    ∀ (r : List (Int × Int)) (i m : Nat), l.drop i = r → i ≤ l.length → r.length < m → gloop (B36_0 (sX call n lk)) m { env := ofL [(0, .d (eHs l)), (1, .d (eHs l)), (5, gi i)], heap := h } K = k (gb true) h
  | [], i, m, hd, hi, hm => by
    obtain ⟨m, rfl⟩ : ∃ q, m = q + 1 := ⟨m - 1, by omega⟩
    have hge := drop_nil hd
    have hlt : decide ((i : Int) < (l.length : Int)) = false := decide_eq_false (by omega)
    simp only [kStd, B36_0_1, B36_0_2, B36_0_3, B36_0_4, B36_0_5, B36_0_6, B36_0_7, B36_0_8, B36_0_9, B36_0_10, B36_0, kNew, kSteps, kCmp, kEnv, kKont, kFld, kLen, kCall, kIsos, gloop_succ, cond_true, cond_false, Bool.not_true, Bool.not_false, Nat.reduceEqDiff, reduceIte, Nat.reduceAdd, List.length_map, hlt]
    exact hE _
  | x :: r, i, m, hd, hi, hm => by
    obtain ⟨m, rfl⟩ : ∃ q, m = q + 1 := ⟨m - 1, by omega⟩
    obtain ⟨h1, h2, h3, h4⟩ := drop_cons hd
    have ih := l36 (call := call) (n := n) (lk := lk) l hl h k K hE r (i + 1) m h3 (by omega) (by simp at hm; omega)
    have hlt : decide ((i : Int) < (l.length : Int)) = true := decide_eq_true (by omega)
    have hs := succ_nat (k := i) (by omega)
    have hx := idx56 (es := l.map eH) (k := i) (by simpa using h1) (szH l)
    simp only [kStd, B36_0_1, B36_0_2, B36_0_3, B36_0_4, B36_0_5, B36_0_6, B36_0_7, B36_0_8, B36_0_9, B36_0_10, B36_0, kNew, kSteps, kCmp, kEnv, kKont, kFld, kLen, kCall, kIsos, gloop_succ, cond_true, cond_false, Bool.not_true, Bool.not_false, Nat.reduceEqDiff, reduceIte, Nat.reduceAdd, List.length_map, hlt, hx, ldHH h2, eqH, hs]
    exact ih
theorem g36 {n : Nat} (hn : 1000001 ≤ n) (l : List (Int × Int)) (hl : l.length ≤ 1000) (lk : Nat) (h : List GB) (K : CK) : gcall gp n lk 36 [.d (eHs l), .d (eHs l)] h K = K (gb true) h := by
  obtain ⟨n, rfl⟩ : ∃ m, n = m + 1 := ⟨n - 1, by omega⟩
  rw [F36_eq]
  have hd : decide ((l.length : Int) = (l.length : Int)) = true := decide_eq_true rfl
  simp only [kStd, F36_1, F36_2, F36_3, F36_4, F36_5, F36, kNew, kSteps, kCmp, kEnv, kKont, kFld, kLen, kCall, kIsos, gloop_succ, cond_true, cond_false, Bool.not_true, Bool.not_false, Nat.reduceEqDiff, reduceIte, Nat.reduceAdd, List.length_map, hd]
  exact l36 l (by omega) h K _ (fun e => by simp only [kStd, F36_1, F36_2, F36_3, F36_4, F36_5, F36, kNew, kSteps, kCmp, kEnv, kKont, kFld, kLen, kCall, kIsos, gloop_succ, cond_true, cond_false, Bool.not_true, Bool.not_false, Nat.reduceEqDiff, reduceIte, Nat.reduceAdd, List.length_map]) l 0 (n + 1) rfl (by omega) (by omega)
end Go.Proofs.YthnnjopilpgakaaGreat
namespace Go.Proofs.YthnnjopilpgakaaGreat
open Go.Gh

theorem bdF (l : List DV) (k : Int) : gbuild gp 123 [(0, .xl l), (1, gi k)] = some (.agg [.xl l, gi k]) := id rfl
theorem nwF (l : List DV) (k : Int) : noNew (.agg [.xl l, gi k]) = .agg [.xl l, gi k] := id rfl
theorem stF (l : List DV) (k : Int) (K : CK) : gstore gp 0 123 (.ptr 0 0) (.agg [.xl l, gi k]) [.cells [.d (.lit (.slice none 0 0)), .d (.lit (.int .i64 0))]] K = K .und [.cells [.xl l, gi k]] := id rfl
theorem clF (l : List DV) (k : Int) : gcell gp 123 (.ptr 0 0) [.cells [.xl l, gi k]] = some (.agg [.xl l, gi k]) := id rfl
theorem isF (l : List DV) (x : Int) (h : List GB) (k : CK) (h' : List GB) : kIso h k (.agg [.xl l, gi x]) h' = k (.d (.agg [.list l, di x])) h := id rfl
theorem bxA' (x : Aff) (k : CK) : gbox true (.d (eA x)) [] k = k (.d (.vptr [eA x] 0 0)) [] := id rfl
theorem xlI (l : List Int) : noNew (.xl (l.map di)) = .xl (l.map di) := id rfl

theorem g75 {n : Nat} (hn : 2 ≤ n) (x : Aff) (hx : x.c.length ≤ 1000000) (h : List GB) (k : CK) : gcall gp n 0 75 [.d (eA x)] [] (kIso h k) = k (.d (eA x)) h := by
  obtain ⟨n, rfl⟩ : ∃ m, n = m + 1 := ⟨n - 1, by omega⟩
  rw [F75_eq]
  simp only [kStd, F75_1, F75_2, F75_3, F75_4, F75_5, F75_6, F75_7, F75_8, F75_9, F75_10, F75, kNew, kSteps, kCmp, kEnv, kKont, kFld, kLen, kCall, kIsos, gloop_succ, cond_true, cond_false, Bool.not_true, Bool.not_false, Nat.reduceEqDiff, reduceIte, Nat.reduceAdd, List.length_map, bxA, List.length_nil, List.nil_append, List.map_cons, List.map_nil, kPtr, ldA0, ldA1, g42 (n := n) (by omega) x.c hx _ (.inl rfl), bdF, nwF]
  rw [stF]
  simp only [kStd, F75_1, F75_2, F75_3, F75_4, F75_5, F75_6, F75_7, F75_8, F75_9, F75_10, F75, kNew, kSteps, kCmp, kEnv, kKont, kFld, kLen, kCall, kIsos, gloop_succ, cond_true, cond_false, Bool.not_true, Bool.not_false, Nat.reduceEqDiff, reduceIte, Nat.reduceAdd, List.length_map, clF, isF]

theorem bdL (a b : Aff) : gbuild gp 125 [(0, .d (eA a)), (1, .d (eA b))] = some (.d (eL ⟨a, b⟩)) := id rfl
theorem bsL1 (x : Lp) : gbuildS gp 23 1 [(0, .d (eL x))] = some (.xl ([x].map eL)) := id rfl
theorem apL (acc : List Lp) (x : Lp) (hl : acc.length ≤ 1000000) (k : CK) : gappend gp 0 23 (.tl (acc.map eL) 0) (.xl ([x].map eL)) [.tail acc.length 4] k = k (.tl ((acc ++ [x]).map eL) 0) [.tail (acc ++ [x]).length 4] := by
  rw [app23 (fun _ => rfl) (by simp) (Nat.le_refl _) (szL [x]) (by simp; omega)]
  simp
theorem l14 {n : Nat} (l : List Lp) (hn : 2 ≤ n) (hl : l.length ≤ 1000) (ho : ∀ x ∈ l, okL x) (k : CK) (K : GX → St → Bool) (hE : ∀ e a t h, e 3 = .tl (a.map eL) t → K (.exit 0) ⟨e, h⟩ = k (.d (eN a)) []) :
    ∀ (r : List Lp) (i m : Nat) (acc : List Lp), l.drop i = r → i ≤ l.length → acc.length = i → r.length < m → gloop (B14_0 (sX (gcall gp n) n 0)) m { env := ofL [(0, .d (eN l)), (3, .tl (acc.map eL) 0), (4, gi i)], heap := [.tail acc.length 4] } K = k (.d (eN (acc ++ r))) []
  | [], i, m, acc, hd, hi, ha, hm => by
    obtain ⟨m, rfl⟩ : ∃ q, m = q + 1 := ⟨m - 1, by omega⟩
    have hge := drop_nil hd
    have hlt : decide ((i : Int) < (l.length : Int)) = false := decide_eq_false (by omega)
    simp only [kStd, B14_0_1, B14_0_2, B14_0_3, B14_0_4, B14_0_5, B14_0_6, B14_0_7, B14_0_8, B14_0_9, B14_0_10, B14_0_11, B14_0_12, B14_0_13, B14_0_14, B14_0_15, B14_0, kNew, kSteps, kCmp, kEnv, kKont, kFld, kLen, kCall, kIsos, gloop_succ, cond_true, cond_false, Bool.not_true, Bool.not_false, Nat.reduceEqDiff, reduceIte, Nat.reduceAdd, List.length_map, hlt, List.append_nil]
    exact hE _ _ _ _ rfl
  | x :: r, i, m, acc, hd, hi, ha, hm => by
    obtain ⟨m, rfl⟩ : ∃ q, m = q + 1 := ⟨m - 1, by omega⟩
    obtain ⟨h1, h2, h3, h4⟩ := drop_cons hd
    have ih := fun a b => l14 (n := n) l hn hl ho k K hE r (i + 1) m a h3 (by omega) b (by simp at hm; omega)
    have hlt : decide ((i : Int) < (l.length : Int)) = true := decide_eq_true (by omega)
    have hw := succ_nat (k := i) (by omega)
    have hx := idx23 (es := l.map eL) (k := i) (by simpa using h1) (szL l)
    obtain ⟨f1, f2⟩ := ho x (List.mem_of_getElem? h2)
    have q1 := fun h k => g75 (n := n) hn x.lo f1 h k
    have q2 := fun h k => g75 (n := n) hn x.hi f2 h k
    have q3 := apL acc x (by omega)
    simp only [kStd, B14_0_1, B14_0_2, B14_0_3, B14_0_4, B14_0_5, B14_0_6, B14_0_7, B14_0_8, B14_0_9, B14_0_10, B14_0_11, B14_0_12, B14_0_13, B14_0_14, B14_0_15, B14_0, kNew, kSteps, kCmp, kEnv, kKont, kFld, kLen, kCall, kIsos, gloop_succ, cond_true, cond_false, Bool.not_true, Bool.not_false, Nat.reduceEqDiff, reduceIte, Nat.reduceAdd, List.length_map, hlt, hx, ldLlo h2, ldLhi h2, q1, q2, bdL, bsL1]
    rw [q3]
    simp only [kStd, B14_0_1, B14_0_2, B14_0_3, B14_0_4, B14_0_5, B14_0_6, B14_0_7, B14_0_8, B14_0_9, B14_0_10, B14_0_11, B14_0_12, B14_0_13, B14_0_14, B14_0_15, B14_0, kNew, kSteps, kCmp, kEnv, kKont, kFld, kLen, kCall, kIsos, gloop_succ, cond_true, cond_false, Bool.not_true, Bool.not_false, Nat.reduceEqDiff, reduceIte, Nat.reduceAdd, List.length_map, hw]
    rw [ih _ (by simp; omega), List.append_assoc]
    rfl
/-- The copy of a nest. -/
theorem g14 {n : Nat} (hn : 1000003 ≤ n) (l : List Lp) (ho : ∀ x ∈ l, okL x) (hl : l.length ≤ 1000) (h : List GB) (k : CK) : gcall gp n 0 14 [.d (eN l)] [] (kIso h k) = k (.d (eN l)) h := by
  obtain ⟨n, rfl⟩ : ∃ m, n = m + 1 := ⟨n - 1, by omega⟩
  rw [F14_eq]
  simp only [kStd, F14_1, F14_2, F14, kNew, kSteps, kCmp, kEnv, kKont, kFld, kLen, kCall, kIsos, gloop_succ, cond_true, cond_false, Bool.not_true, Bool.not_false, Nat.reduceEqDiff, reduceIte, Nat.reduceAdd, List.length_map, List.length_nil, List.nil_append]
  exact l14 l (by omega) hl ho (fun r _ => k r h) _ (fun e a t h he => by simp only [kStd, F14_1, F14_2, F14, kNew, kSteps, kCmp, kEnv, kKont, kFld, kLen, kCall, kIsos, gloop_succ, cond_true, cond_false, Bool.not_true, Bool.not_false, Nat.reduceEqDiff, reduceIte, Nat.reduceAdd, List.length_map, he]) l 0 (n + 1) [] rfl (by omega) rfl (by omega)

-- few loops
theorem g64 {n : Nat} (hn : 1 ≤ n) (lk : Nat) (x : Aff) (h : List GB) (K : CK) : gcall gp n lk 64 [.d (eA x)] h K = K (gb (decide (x.c.length ≤ 10))) h := by
  obtain ⟨n, rfl⟩ : ∃ m, n = m + 1 := ⟨n - 1, by omega⟩
  rw [F64_eq]
  have hq : decide ((x.c.length : Int) ≤ 10) = decide (x.c.length ≤ 10) := decide_eq_decide.2 (by omega)
  simp only [kStd, F64_1, F64_2, F64_3, F64_4, F64_5, F64, kNew, kSteps, kCmp, kEnv, kKont, kFld, kLen, kCall, kIsos, gloop_succ, cond_true, cond_false, Bool.not_true, Bool.not_false, Nat.reduceEqDiff, reduceIte, Nat.reduceAdd, List.length_map, bxA, ldA0, hq]
def shortL (x : Lp) : Bool := decide (x.lo.c.length ≤ 10) && decide (x.hi.c.length ≤ 10)
theorem l12 {n lk : Nat} (A : GV) (hA : noNew A = A) (l : List Lp) (hn : 1 ≤ n) (hl : l.length ≤ 1000) (h : List GB) (k : CK) (K : GX → St → Bool) (hE : ∀ e, e 1 = A → K (.exit 0) ⟨e, h⟩ = k (gb true) h) (hR : ∀ e, e 4 = gb false → K .ret ⟨e, h⟩ = k (gb false) h) :
    ∀ (r : List Lp) (i m : Nat), l.drop i = r → i ≤ l.length → r.length < m → gloop (B12_0 (sX (gcall gp n) n lk)) m { env := ofL [(0, .d (eN l)), (1, A), (5, gi i)], heap := h } K = k (gb (r.all shortL)) h
  | [], i, m, hd, hi, hm => by
    obtain ⟨m, rfl⟩ : ∃ q, m = q + 1 := ⟨m - 1, by omega⟩
    have hge := drop_nil hd
    have hlt : decide ((i : Int) < (l.length : Int)) = false := decide_eq_false (by omega)
    simp only [kStd, B12_0_1, B12_0_2, B12_0_3, B12_0_4, B12_0_5, B12_0_6, B12_0_7, B12_0_8, B12_0_9, B12_0_10, B12_0_11, B12_0_12, B12_0_13, B12_0_14, B12_0_15, B12_0_16, B12_0_17, B12_0_18, B12_0, kNew, kSteps, kCmp, kEnv, kKont, kFld, kLen, kCall, kIsos, gloop_succ, cond_true, cond_false, Bool.not_true, Bool.not_false, Nat.reduceEqDiff, reduceIte, Nat.reduceAdd, List.length_map, hlt, hA, List.all_nil]
    exact hE _ rfl
  | x :: r, i, m, hd, hi, hm => by
    obtain ⟨m, rfl⟩ : ∃ q, m = q + 1 := ⟨m - 1, by omega⟩
    obtain ⟨h1, h2, h3, h4⟩ := drop_cons hd
    have ih := l12 (n := n) (lk := lk) A hA l hn hl h k K hE hR r (i + 1) m h3 (by omega) (by simp at hm; omega)
    have hlt : decide ((i : Int) < (l.length : Int)) = true := decide_eq_true (by omega)
    have hw := succ_nat (k := i) (by omega)
    have hx := idx23 (es := l.map eL) (k := i) (by simpa using h1) (szL l)
    have q1 := fun x h K => g64 (n := n) hn 0 x h K
    cases p1 : decide (x.lo.c.length ≤ 10) with
    | false =>
      simp only [kStd, B12_0_1, B12_0_2, B12_0_3, B12_0_4, B12_0_5, B12_0_6, B12_0_7, B12_0_8, B12_0_9, B12_0_10, B12_0_11, B12_0_12, B12_0_13, B12_0_14, B12_0_15, B12_0_16, B12_0_17, B12_0_18, B12_0, kNew, kSteps, kCmp, kEnv, kKont, kFld, kLen, kCall, kIsos, gloop_succ, cond_true, cond_false, Bool.not_true, Bool.not_false, Nat.reduceEqDiff, reduceIte, Nat.reduceAdd, List.length_map, hlt, hA, hx, ldLlo h2, q1, p1, List.all_cons, shortL, Bool.false_and]
      exact hR _ rfl
    | true =>
      cases p2 : decide (x.hi.c.length ≤ 10) with
      | false =>
        simp only [kStd, B12_0_1, B12_0_2, B12_0_3, B12_0_4, B12_0_5, B12_0_6, B12_0_7, B12_0_8, B12_0_9, B12_0_10, B12_0_11, B12_0_12, B12_0_13, B12_0_14, B12_0_15, B12_0_16, B12_0_17, B12_0_18, B12_0, kNew, kSteps, kCmp, kEnv, kKont, kFld, kLen, kCall, kIsos, gloop_succ, cond_true, cond_false, Bool.not_true, Bool.not_false, Nat.reduceEqDiff, reduceIte, Nat.reduceAdd, List.length_map, hlt, hA, hx, ldLlo h2, ldLhi h2, q1, p1, p2, List.all_cons, shortL, Bool.false_and, Bool.true_and]
        exact hR _ rfl
      | true =>
        simp only [kStd, B12_0_1, B12_0_2, B12_0_3, B12_0_4, B12_0_5, B12_0_6, B12_0_7, B12_0_8, B12_0_9, B12_0_10, B12_0_11, B12_0_12, B12_0_13, B12_0_14, B12_0_15, B12_0_16, B12_0_17, B12_0_18, B12_0, kNew, kSteps, kCmp, kEnv, kKont, kFld, kLen, kCall, kIsos, gloop_succ, cond_true, cond_false, Bool.not_true, Bool.not_false, Nat.reduceEqDiff, reduceIte, Nat.reduceAdd, List.length_map, hlt, hA, hx, ldLlo h2, ldLhi h2, q1, p1, p2, List.all_cons, shortL, Bool.true_and, hw]
        exact ih
def few (l : List Lp) : Bool := decide (l.length ≤ 5) && l.all shortL
theorem few_ok {l : List Lp} (h : few l = true) : OkN l := by
  simp only [few, Bool.and_eq_true, decide_eq_true_eq, List.all_eq_true, shortL] at h
  exact ⟨fun x hx => ⟨by have := (h.2 x hx).1; omega, by have := (h.2 x hx).2; omega⟩, by omega⟩
theorem g12 {n : Nat} (hn : 10 ≤ n) (l : List Lp) (lk : Nat) (h : List GB) (K : CK) : gcall gp n lk 12 [.d (eN l), .d (.lit nilS)] h K = K (gb (few l)) h := by
  obtain ⟨n, rfl⟩ : ∃ m, n = m + 1 := ⟨n - 1, by omega⟩
  rw [F12_eq]
  have hg : decide ((l.length : Int) ≤ 5) = decide (l.length ≤ 5) := decide_eq_decide.2 (by omega)
  have hz : glen gp 24 (.d (.lit nilS)) = some (gi 0) := rfl
  unfold few
  cases p : decide (l.length ≤ 5) with
  | false =>
    have p2 : decide ((5 : Int) < (l.length : Int)) = true := decide_eq_true (by have := of_decide_eq_false p; omega)
    simp only [kStd, F12_1, F12_2, F12_3, F12_4, F12_5, F12_6, F12_7, F12_8, F12_9, F12, kNew, kSteps, kCmp, kEnv, kKont, kFld, kLen, kCall, kIsos, gloop_succ, cond_true, cond_false, Bool.not_true, Bool.not_false, Nat.reduceEqDiff, reduceIte, Nat.reduceAdd, List.length_map, p2, Bool.false_and]
  | true =>
    have p2 : decide ((5 : Int) < (l.length : Int)) = false := decide_eq_false (by have := of_decide_eq_true p; omega)
    have p3 : decide ((10 : Int) < 0) = false := rfl
    have p4 : decide ((0 : Int) < 0) = false := rfl
    simp only [kStd, F12_1, F12_2, F12_3, F12_4, F12_5, F12_6, F12_7, F12_8, F12_9, F12, kNew, kSteps, kCmp, kEnv, kKont, kFld, kLen, kCall, kIsos, gloop_succ, cond_true, cond_false, Bool.not_true, Bool.not_false, Nat.reduceEqDiff, reduceIte, Nat.reduceAdd, List.length_map, p2, hz, p3, Bool.true_and]
    exact l12 _ rfl l (by omega) (by have := of_decide_eq_true p; omega) h K _ (fun e he => by simp only [kStd, F12_1, F12_2, F12_3, F12_4, F12_5, F12_6, F12_7, F12_8, F12_9, F12, kStd, B12_1_1, B12_1_2, B12_1_3, B12_1_4, B12_1_5, B12_1_6, B12_1_7, B12_1_8, B12_1_9, B12_1_10, B12_1_11, B12_1_12, B12_1, kNew, kSteps, kCmp, kEnv, kKont, kFld, kLen, kCall, kIsos, gloop_succ, cond_true, cond_false, Bool.not_true, Bool.not_false, Nat.reduceEqDiff, reduceIte, Nat.reduceAdd, List.length_map, he, hz, p4]) (fun e he => by simp only [kKont, Tryz.results12, kRet_one, he]) l 0 (n + 1) rfl (by omega) (by have := of_decide_eq_true p; omega)

-- the reference's check
theorem l35 {n lk : Nat} (l : List Lp) (hn : 1000010 ≤ n) (hl : l.length ≤ 1000) (ho : ∀ x ∈ l, okL x) (h : List GB) (k : CK) (K : GX → St → Bool) (z : Bool) (hE : ∀ e, (fb lErr 0 l).2 = 0 → e 0 = .d (eN l) → K (.exit 0) ⟨e, h⟩ = z) (hR : ∀ e a b, (fb lErr 0 l) = (a, b) → b ≠ 0 → e 2 = gi a → e 3 = gi b → K .ret ⟨e, h⟩ = z) :
    ∀ (r : List Lp) (i m : Nat), l.drop i = r → i ≤ l.length → r.length < m → fb lErr i r = fb lErr 0 l → gloop (B35_0 (sX (gcall gp n) n lk)) m { env := ofL [(0, .d (eN l)), (4, gi i)], heap := h } K = z
  | [], i, m, hd, hi, hm, hf => by
    obtain ⟨m, rfl⟩ : ∃ q, m = q + 1 := ⟨m - 1, by omega⟩
    have hge := drop_nil hd
    have hlt : decide ((i : Int) < (l.length : Int)) = false := decide_eq_false (by omega)
    simp only [kStd, B35_0_1, B35_0_2, B35_0_3, B35_0_4, B35_0_5, B35_0_6, B35_0_7, B35_0_8, B35_0_9, B35_0_10, B35_0_11, B35_0_12, B35_0_13, B35_0_14, B35_0_15, B35_0_16, B35_0, kNew, kSteps, kCmp, kEnv, kKont, kFld, kLen, kCall, kIsos, gloop_succ, cond_true, cond_false, Bool.not_true, Bool.not_false, Nat.reduceEqDiff, reduceIte, Nat.reduceAdd, List.length_map, hlt]
    exact hE _ (by rw [← hf]; rfl) rfl
  | x :: r, i, m, hd, hi, hm, hf => by
    obtain ⟨m, rfl⟩ : ∃ q, m = q + 1 := ⟨m - 1, by omega⟩
    obtain ⟨h1, h2, h3, h4⟩ := drop_cons hd
    have hlt : decide ((i : Int) < (l.length : Int)) = true := decide_eq_true (by omega)
    have hw := succ_nat (k := i) (by omega)
    have hx := idx23 (es := l.map eL) (k := i) (by simpa using h1) (szL l)
    obtain ⟨f1, f2⟩ := ho x (List.mem_of_getElem? h2)
    have q1 := fun h K => g107 (n := n) hn 0 x.lo i f1 h K
    have q2 := fun h K => g107 (n := n) hn 0 x.hi i f2 h K
    simp only [fb, lErr, orE] at hf
    cases p1 : decide (fErr x.lo i = 0) with
    | false =>
      simp only [kStd, B35_0_1, B35_0_2, B35_0_3, B35_0_4, B35_0_5, B35_0_6, B35_0_7, B35_0_8, B35_0_9, B35_0_10, B35_0_11, B35_0_12, B35_0_13, B35_0_14, B35_0_15, B35_0_16, B35_0, kNew, kSteps, kCmp, kEnv, kKont, kFld, kLen, kCall, kIsos, gloop_succ, cond_true, cond_false, Bool.not_true, Bool.not_false, Nat.reduceEqDiff, reduceIte, Nat.reduceAdd, List.length_map, hlt, hx, ldLlo h2, q1, p1]
      simp only [p1, Bool.not_false, cond_true, cond_false] at hf
      exact hR _ _ _ hf.symm (of_decide_eq_false p1) rfl rfl
    | true =>
      simp only [p1, Bool.not_true, cond_true, cond_false] at hf
      cases p2 : decide (fErr x.hi i = 0) with
      | false =>
        simp only [kStd, B35_0_1, B35_0_2, B35_0_3, B35_0_4, B35_0_5, B35_0_6, B35_0_7, B35_0_8, B35_0_9, B35_0_10, B35_0_11, B35_0_12, B35_0_13, B35_0_14, B35_0_15, B35_0_16, B35_0, kNew, kSteps, kCmp, kEnv, kKont, kFld, kLen, kCall, kIsos, gloop_succ, cond_true, cond_false, Bool.not_true, Bool.not_false, Nat.reduceEqDiff, reduceIte, Nat.reduceAdd, List.length_map, hlt, hx, ldLlo h2, ldLhi h2, q1, q2, p1, p2]
        simp only [p2, Bool.not_false, cond_true, cond_false] at hf
        exact hR _ _ _ hf.symm (of_decide_eq_false p2) rfl rfl
      | true =>
        have ih := l35 (n := n) (lk := lk) l hn hl ho h k K z hE hR r (i + 1) m h3 (by omega) (by simp at hm; omega) (by simpa [p2] using hf)
        simp only [kStd, B35_0_1, B35_0_2, B35_0_3, B35_0_4, B35_0_5, B35_0_6, B35_0_7, B35_0_8, B35_0_9, B35_0_10, B35_0_11, B35_0_12, B35_0_13, B35_0_14, B35_0_15, B35_0_16, B35_0, kNew, kSteps, kCmp, kEnv, kKont, kFld, kLen, kCall, kIsos, gloop_succ, cond_true, cond_false, Bool.not_true, Bool.not_false, Nat.reduceEqDiff, reduceIte, Nat.reduceAdd, List.length_map, hlt, hx, ldLlo h2, ldLhi h2, q1, q2, p1, p2, hw]
        exact ih
theorem idH {l : List (Int × Int)} (x : Int × Int) (k : Nat) (H : List GB) (h : l[k]? = some x) : gload gp 3 (.d (.vptr (l.map eH) k 0)) H = some (gi x.1) ∧ gload gp 3 (.d (.vptr (l.map eH) k 1)) H = some (gi x.2) := ⟨ldH0 h H, ldH1 h H⟩
theorem l35b {n lk : Nat} (l : List (Int × Int)) (N : List Lp) (hn : 1 ≤ n) (hl : l.length ≤ 1000) (h : List GB) (K : GX → St → Bool) (z w : Bool) (hE : ∀ e, e 0 = .d (eN N) → K (.exit 2) ⟨e, h⟩ = z) (hR : ∀ e, e 2 = gi 0 → e 3 = gi 8 → K .ret ⟨e, h⟩ = w) :
    ∀ (r : List (Int × Int)) (i m : Nat), l.drop i = r → i ≤ l.length → r.length < m → gloop (B35_1 (sX (gcall gp n) n lk)) m { env := ofL [(0, .d (eN N)), (7, .d (eHs l)), (8, gi i)], heap := h } K = bif r.any wide then w else z
  | [], i, m, hd, hi, hm => by
    obtain ⟨m, rfl⟩ : ∃ q, m = q + 1 := ⟨m - 1, by omega⟩
    have hge := drop_nil hd
    have hlt : decide ((i : Int) < (l.length : Int)) = false := decide_eq_false (by omega)
    simp only [kStd, B35_1_1, B35_1_2, B35_1_3, B35_1_4, B35_1_5, B35_1_6, B35_1_7, B35_1_8, B35_1_9, B35_1_10, B35_1_11, B35_1_12, B35_1_13, B35_1_14, B35_1_15, B35_1_16, B35_1_17, B35_1_18, B35_1, kNew, kSteps, kCmp, kEnv, kKont, kFld, kLen, kCall, kIsos, gloop_succ, cond_true, cond_false, Bool.not_true, Bool.not_false, Nat.reduceEqDiff, reduceIte, Nat.reduceAdd, List.length_map, hlt, List.any_nil]
    exact hE _ rfl
  | x :: r, i, m, hd, hi, hm => by
    obtain ⟨m, rfl⟩ : ∃ q, m = q + 1 := ⟨m - 1, by omega⟩
    obtain ⟨h1, h2, h3, h4⟩ := drop_cons hd
    have ih := l35b (n := n) (lk := lk) l N hn hl h K z w hE hR r (i + 1) m h3 (by omega) (by simp at hm; omega)
    have hlt : decide ((i : Int) < (l.length : Int)) = true := decide_eq_true (by omega)
    have hw := succ_nat (k := i) (by omega)
    have hx := idx56 (es := l.map eH) (k := i) (by simpa using h1) (szH l)
    cases p1 : decide (-1000 ≤ x.1 ∧ x.1 ≤ 1000) with
    | false =>
      simp only [kStd, B35_1_1, B35_1_2, B35_1_3, B35_1_4, B35_1_5, B35_1_6, B35_1_7, B35_1_8, B35_1_9, B35_1_10, B35_1_11, B35_1_12, B35_1_13, B35_1_14, B35_1_15, B35_1_16, B35_1_17, B35_1_18, B35_1, kNew, kSteps, kCmp, kEnv, kKont, kFld, kLen, kCall, kIsos, gloop_succ, cond_true, cond_false, Bool.not_true, Bool.not_false, Nat.reduceEqDiff, reduceIte, Nat.reduceAdd, List.length_map, hlt, hx, ldH0 h2, ldH1 h2, g54 (n := n) hn, p1, List.any_cons, wide, Bool.true_or]
      exact hR _ rfl rfl
    | true =>
      cases p2 : decide (-1000 ≤ x.2 ∧ x.2 ≤ 1000) with
      | false =>
        simp only [kStd, B35_1_1, B35_1_2, B35_1_3, B35_1_4, B35_1_5, B35_1_6, B35_1_7, B35_1_8, B35_1_9, B35_1_10, B35_1_11, B35_1_12, B35_1_13, B35_1_14, B35_1_15, B35_1_16, B35_1_17, B35_1_18, B35_1, kNew, kSteps, kCmp, kEnv, kKont, kFld, kLen, kCall, kIsos, gloop_succ, cond_true, cond_false, Bool.not_true, Bool.not_false, Nat.reduceEqDiff, reduceIte, Nat.reduceAdd, List.length_map, hlt, hx, ldH0 h2, ldH1 h2, g54 (n := n) hn, p1, p2, List.any_cons, wide, Bool.true_or, Bool.false_or]
        exact hR _ rfl rfl
      | true =>
        simp only [kStd, B35_1_1, B35_1_2, B35_1_3, B35_1_4, B35_1_5, B35_1_6, B35_1_7, B35_1_8, B35_1_9, B35_1_10, B35_1_11, B35_1_12, B35_1_13, B35_1_14, B35_1_15, B35_1_16, B35_1_17, B35_1_18, B35_1, kNew, kSteps, kCmp, kEnv, kKont, kFld, kLen, kCall, kIsos, gloop_succ, cond_true, cond_false, Bool.not_true, Bool.not_false, Nat.reduceEqDiff, reduceIte, Nat.reduceAdd, List.length_map, hlt, hx, ldH0 h2, ldH1 h2, g54 (n := n) hn, p1, p2, List.any_cons, wide, Bool.false_or, hw]
        exact ih
theorem chk0 {N : List Lp} (h : N.length = 0) : chk N = (0, 17) := by
  cases N with
  | nil => rfl
  | cons a b => simp at h
theorem brkF {N : List Lp} (h1 : 0 < N.length) (h : 3 < N.length) : brk [(decide (0 < (N.length : Int)), 17), (decide ((N.length : Int) ≤ 3), 8)] = 8 := by
  rw [decide_eq_true (by omega : 0 < (N.length : Int)), decide_eq_false (by omega : ¬ (N.length : Int) ≤ 3)]; rfl
theorem brkG {N : List Lp} (h1 : 0 < N.length) (h : N.length ≤ 3) : brk [(decide (0 < (N.length : Int)), 17), (decide ((N.length : Int) ≤ 3), 8)] = 0 := by
  rw [decide_eq_true (by omega : 0 < (N.length : Int)), decide_eq_true (by omega : (N.length : Int) ≤ 3)]; rfl
theorem chk1 {N : List Lp} (h : 3 < N.length) : chk N = (0, 8) := by
  unfold chk
  rw [brkF (by omega) h]; rfl
theorem chk2 {N : List Lp} (h1 : 0 < N.length) (h : N.length ≤ 3) (hz : (fb lErr 0 N).2 ≠ 0) : chk N = fb lErr 0 N := by
  unfold chk
  rw [brkG (by omega) h, decide_eq_false hz]; rfl
theorem chk3 {N : List Lp} (h1 : 0 < N.length) (h : N.length ≤ 3) (hz : (fb lErr 0 N).2 = 0) : chk N = bif (hls N []).any wide then (0, 8) else bif decide (200 < ((pts N []).length : Int)) then (0, 8) else (0, 0) := by
  unfold chk
  rw [brkG (by omega) h, decide_eq_true hz, runC _ _ (by omega) (by omega), Int.zero_add]
  cases (hls N []).any wide with
  | true => rfl
  | false => cases decide (200 < ((pts N []).length : Int)) <;> rfl
theorem g35 {n : Nat} (hn : 1000110 ≤ n) (N : List Lp) (hN : OkN N) (h : List GB) (k : CK) : gcall gp n 0 35 [.d (eN N)] [] (kIso h k) = k (.tup [gi (chk N).1, gi (chk N).2]) h := by
  obtain ⟨n, rfl⟩ : ∃ m, n = m + 1 := ⟨n - 1, by omega⟩
  obtain ⟨hN1, hN2⟩ := hN
  rw [F35_eq]
  cases p1 : decide ((N.length : Int) = 0) with
  | true =>
    rw [chk0 (by have := of_decide_eq_true p1; omega)]
    simp only [kStd, F35_1, F35_2, F35_3, F35_4, F35_5, F35_6, F35_7, F35_8, F35_9, F35_10, F35_11, F35_12, F35_13, F35, kNew, kSteps, kCmp, kEnv, kKont, kFld, kLen, kCall, kIsos, gloop_succ, cond_true, cond_false, Bool.not_true, Bool.not_false, Nat.reduceEqDiff, reduceIte, Nat.reduceAdd, List.length_map, p1]
  | false =>
    have q1 : 0 < N.length := by have := of_decide_eq_false p1; omega
    cases p5 : decide (3 < (N.length : Int)) with
    | true =>
      rw [chk1 (by have := of_decide_eq_true p5; omega)]
      simp only [kStd, F35_1, F35_2, F35_3, F35_4, F35_5, F35_6, F35_7, F35_8, F35_9, F35_10, F35_11, F35_12, F35_13, F35, kNew, kSteps, kCmp, kEnv, kKont, kFld, kLen, kCall, kIsos, gloop_succ, cond_true, cond_false, Bool.not_true, Bool.not_false, Nat.reduceEqDiff, reduceIte, Nat.reduceAdd, List.length_map, p1, p5]
    | false =>
      have q2 : N.length ≤ 3 := by have := of_decide_eq_false p5; omega
      simp only [kStd, F35_1, F35_2, F35_3, F35_4, F35_5, F35_6, F35_7, F35_8, F35_9, F35_10, F35_11, F35_12, F35_13, F35, kNew, kSteps, kCmp, kEnv, kKont, kFld, kLen, kCall, kIsos, gloop_succ, cond_true, cond_false, Bool.not_true, Bool.not_false, Nat.reduceEqDiff, reduceIte, Nat.reduceAdd, List.length_map, p1, p5, -gloop_succ]
      refine l35 N (by omega) hN2 hN1 [] k _ _ (fun e hz he => ?_) (fun e a b hab hb h2 h3 => ?_) N 0 (n + 1) rfl (by omega) (by omega) rfl
      · obtain ⟨hf, ht⟩ := forms_ok hz
        have hl := hls_length N []
        simp only [List.length_nil, Nat.zero_add] at hl
        rw [chk3 q1 q2 hz]
        simp only [kStd, F35_1, F35_2, F35_3, F35_4, F35_5, F35_6, F35_7, F35_8, F35_9, F35_10, F35_11, F35_12, F35_13, F35, kNew, kSteps, kCmp, kEnv, kKont, kFld, kLen, kCall, kIsos, gloop_succ, cond_true, cond_false, Bool.not_true, Bool.not_false, Nat.reduceEqDiff, reduceIte, Nat.reduceAdd, List.length_map, he, g37 (n := n) (by omega) N hf hN2, -gloop_succ]
        refine (l35b (hls N []) N (by omega) (by omega) [] _ (bif decide (200 < ((pts N []).length : Int)) then k (.tup [gi 0, gi 8]) h else k (.tup [gi 0, gi 0]) h) (k (.tup [gi 0, gi 8]) h) (fun e he => ?_) (fun e h2 h3 => ?_) (hls N []) 0 (n + 1) rfl (by omega) (by omega)).trans ?_
        · have hq : decide (200 < (((pts N []).take 201).length : Int)) = decide (200 < ((pts N []).length : Int)) := decide_eq_decide.2 (by rw [List.length_take]; omega)
          simp only [kStd, F35_1, F35_2, F35_3, F35_4, F35_5, F35_6, F35_7, F35_8, F35_9, F35_10, F35_11, F35_12, F35_13, F35, kNew, kSteps, kCmp, kEnv, kKont, kFld, kLen, kCall, kIsos, gloop_succ, cond_true, cond_false, Bool.not_true, Bool.not_false, Nat.reduceEqDiff, reduceIte, Nat.reduceAdd, List.length_map, he, g38 (n := n) (by omega) N hf ht q2, lenQ, hq]
        · simp only [kKont, Tryz.results35, kRet_two, h2, h3, kIsos]
        · cases (hls N []).any wide with
          | true => rfl
          | false => cases decide (200 < ((pts N []).length : Int)) <;> rfl
      · rw [chk2 q1 q2 (by rw [hab]; exact hb), hab]
        simp only [kKont, Tryz.results35, kRet_two, h2, h3, kIsos]
end Go.Proofs.YthnnjopilpgakaaGreat
