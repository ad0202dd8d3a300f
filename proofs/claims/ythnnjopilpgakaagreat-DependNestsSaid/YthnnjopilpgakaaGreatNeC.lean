/-
  DependNests answers true: the ghost run.
-/
import Derived.Test.YthnnjopilpgakaaGreatNeB
import Derived.Test.YthnnjopilpgakaaGreatGhC
import Derived.Test.YthnnjopilpgakaaGreatTaQ
import Derived.Test.YthnnjopilpgakaaGreatNeA
import Derived.Test.YthnnjopilpgakaaGreatGhD
import Derived.Below
set_option linter.unusedVariables false
set_option linter.unusedSimpArgs false
namespace Go.Proofs.YthnnjopilpgakaaGreat
open Go.Gh

theorem ovrMono : ∀ f F, gp.ovr f = some F → ∀ args h (k k' : CK), (∀ v h, k v h = true → k' v h = true) → F args h k = true → F args h k' = true := fun f F h args H k k' hk hq => by
  have h' : (bif f.beq 196 then some (growNil 3) else none) = some F := h
  cases hb : f.beq 196 with
  | false => rw [hb] at h'; cases h'
  | true => rw [hb] at h'; cases h'; exact grow_mono 3 args H k k' hk hq
/-- A run that answers true goes on so. -/
theorem goes_on {n f : Nat} {args : List GV} (hA : gcall gp n 0 f args [] (fun r _ => isT r) = true) (h : List GB) (k : CK) (hk : k (gb true) h = true) : gcall gp n 0 f args [] (kIso h k) = true := by
  refine gcall_mono ovrMono n _ _ _ _ _ _ (fun v h' hv => ?_) hA
  unfold isT at hv
  split at hv
  · subst hv; exact hk
  · cases hv

theorem pts_len : ∀ (r : List Lp) (p x : List Int), x ∈ pts r p → x.length = p.length + r.length
  | [], p, x, h => by
    simp only [pts, List.mem_singleton] at h
    rw [h]; rfl
  | l :: r, p, x, h => by
    simp only [pts, List.mem_flatMap] at h
    obtain ⟨y, _, hy⟩ := h
    rw [pts_len r _ x hy]
    simp only [List.length_append, List.length_cons, List.length_nil]; omega
theorem hvN {N : List Lp} (h : decide ((chk N).2 = 0) = false) : hV N = .lit nilS ∧ pV N = .lit nilS := by
  unfold hV pV; rw [h]; exact ⟨rfl, rfl⟩
theorem hvS {N : List Lp} (h : decide ((chk N).2 = 0) = true) : hV N = eHs (hls N []) ∧ pV N = eQ (pts N []) := by
  unfold hV pV; rw [h]; exact ⟨rfl, rfl⟩
theorem ln0 : glen gp 56 (.d (.lit nilS)) = some (gi 0) ∧ glen gp 35 (.d (.lit nilS)) = some (gi 0) := ⟨rfl, rfl⟩
theorem g5 {n : Nat} (hn : 1000120 ≤ n) (hA : gcall gp n 0 11 [] [] (fun r _ => isT r) = true) (N : List Lp) (h : List GB) (K : CK) (hK : K (gb true) h = true) : gcall gp (n + 1) 0 5 [.d (eN N)] h K = true := by
  rw [F5_eq]
  simp only [kStd, F5_1, F5_2, F5_3, F5_4, F5_5, F5_6, F5_7, F5_8, F5_9, F5_10, F5_11, F5_12, F5_13, F5_14, F5_15, F5_16, F5_17, F5_18, F5_19, F5_20, F5_21, F5_22, F5_23, F5_24, F5_25, F5_26, F5_27, F5_28, F5_29, F5_30, F5_31, F5_32, F5_33, F5_34, F5_35, F5_36, F5_37, F5_38, F5_39, F5_40, F5_41, F5_42, F5_43, F5_44, F5_45, F5_46, F5_47, F5_48, F5_49, F5_50, F5_51, F5_52, F5_53, F5_54, F5_55, F5, kNew, kSteps, kCmp, kEnv, kKont, kFld, kLen, kCall, kIsos, gloop_succ, cond_true, cond_false, Bool.not_true, Bool.not_false, Nat.reduceEqDiff, reduceIte, Nat.reduceAdd, List.length_map]
  refine goes_on hA _ _ ?_
  simp only [kStd, F5_1, F5_2, F5_3, F5_4, F5_5, F5_6, F5_7, F5_8, F5_9, F5_10, F5_11, F5_12, F5_13, F5_14, F5_15, F5_16, F5_17, F5_18, F5_19, F5_20, F5_21, F5_22, F5_23, F5_24, F5_25, F5_26, F5_27, F5_28, F5_29, F5_30, F5_31, F5_32, F5_33, F5_34, F5_35, F5_36, F5_37, F5_38, F5_39, F5_40, F5_41, F5_42, F5_43, F5_44, F5_45, F5_46, F5_47, F5_48, F5_49, F5_50, F5_51, F5_52, F5_53, F5_54, F5_55, F5, kNew, kSteps, kCmp, kEnv, kKont, kFld, kLen, kCall, kIsos, gloop_succ, cond_true, cond_false, Bool.not_true, Bool.not_false, Nat.reduceEqDiff, reduceIte, Nat.reduceAdd, List.length_map, g12 (n := n) (by omega)]
  cases hf : few N with
  | false => simp only [kStd, F5_1, F5_2, F5_3, F5_4, F5_5, F5_6, F5_7, F5_8, F5_9, F5_10, F5_11, F5_12, F5_13, F5_14, F5_15, F5_16, F5_17, F5_18, F5_19, F5_20, F5_21, F5_22, F5_23, F5_24, F5_25, F5_26, F5_27, F5_28, F5_29, F5_30, F5_31, F5_32, F5_33, F5_34, F5_35, F5_36, F5_37, F5_38, F5_39, F5_40, F5_41, F5_42, F5_43, F5_44, F5_45, F5_46, F5_47, F5_48, F5_49, F5_50, F5_51, F5_52, F5_53, F5_54, F5_55, F5, kNew, kSteps, kCmp, kEnv, kKont, kFld, kLen, kCall, kIsos, gloop_succ, cond_true, cond_false, Bool.not_true, Bool.not_false, Nat.reduceEqDiff, reduceIte, Nat.reduceAdd, List.length_map]; exact hK
  | true =>
    have ho := few_ok hf
    have e1 : decide ((chk N).1 = (chk N).1) = true := decide_eq_true rfl
    have e2 : decide ((chk N).2 = (chk N).2) = true := decide_eq_true rfl
    simp only [kStd, F5_1, F5_2, F5_3, F5_4, F5_5, F5_6, F5_7, F5_8, F5_9, F5_10, F5_11, F5_12, F5_13, F5_14, F5_15, F5_16, F5_17, F5_18, F5_19, F5_20, F5_21, F5_22, F5_23, F5_24, F5_25, F5_26, F5_27, F5_28, F5_29, F5_30, F5_31, F5_32, F5_33, F5_34, F5_35, F5_36, F5_37, F5_38, F5_39, F5_40, F5_41, F5_42, F5_43, F5_44, F5_45, F5_46, F5_47, F5_48, F5_49, F5_50, F5_51, F5_52, F5_53, F5_54, F5_55, F5, kNew, kSteps, kCmp, kEnv, kKont, kFld, kLen, kCall, kIsos, gloop_succ, cond_true, cond_false, Bool.not_true, Bool.not_false, Nat.reduceEqDiff, reduceIte, Nat.reduceAdd, List.length_map, getT, e1, e2, g14 (n := n) (by omega) N ho.1 ho.2, g32 (n := n) (by omega) N ho, g33 (n := n) (by omega) N ho, g34 (n := n) (by omega) N ho, g35 (n := n) (by omega) N ho]
    cases hc : decide ((chk N).2 = 0) with
    | false =>
      obtain ⟨v1, v2⟩ := hvN hc
      have e3 : decide ((0 : Int) = 0) = true := rfl
      simp only [kStd, F5_1, F5_2, F5_3, F5_4, F5_5, F5_6, F5_7, F5_8, F5_9, F5_10, F5_11, F5_12, F5_13, F5_14, F5_15, F5_16, F5_17, F5_18, F5_19, F5_20, F5_21, F5_22, F5_23, F5_24, F5_25, F5_26, F5_27, F5_28, F5_29, F5_30, F5_31, F5_32, F5_33, F5_34, F5_35, F5_36, F5_37, F5_38, F5_39, F5_40, F5_41, F5_42, F5_43, F5_44, F5_45, F5_46, F5_47, F5_48, F5_49, F5_50, F5_51, F5_52, F5_53, F5_54, F5_55, F5, kNew, kSteps, kCmp, kEnv, kKont, kFld, kLen, kCall, kIsos, gloop_succ, cond_true, cond_false, Bool.not_true, Bool.not_false, Nat.reduceEqDiff, reduceIte, Nat.reduceAdd, List.length_map, getT, hc, e1, e2, v1, v2, ln0, e3]
      exact hK
    | true =>
      obtain ⟨v1, v2⟩ := hvS hc
      have co := chk_ok (of_decide_eq_true hc)
      have l1 := hls_length N []
      have l2 := co.len
      have l3 := co.fewP
      simp only [List.length_nil, Nat.zero_add] at l1
      have tk : (pts N []).take 201 = pts N [] := List.take_of_length_le (by omega)
      have q20 := fun h K => g20 (n := n) (by omega) (pts N []) (by omega) (fun x hx => by have := pts_len N [] x hx; simp only [List.length_nil] at this; omega) 0 h K
      have q36 := fun h K => g36 (n := n) (by omega) (hls N []) (by omega) 0 h K
      have q37 := fun h k => g37 (n := n) (by omega) N co.fit (by omega) h k
      have q38 := fun h k => g38 (n := n) (by omega) N co.fit co.tame l2 h k
      simp only [kStd, F5_1, F5_2, F5_3, F5_4, F5_5, F5_6, F5_7, F5_8, F5_9, F5_10, F5_11, F5_12, F5_13, F5_14, F5_15, F5_16, F5_17, F5_18, F5_19, F5_20, F5_21, F5_22, F5_23, F5_24, F5_25, F5_26, F5_27, F5_28, F5_29, F5_30, F5_31, F5_32, F5_33, F5_34, F5_35, F5_36, F5_37, F5_38, F5_39, F5_40, F5_41, F5_42, F5_43, F5_44, F5_45, F5_46, F5_47, F5_48, F5_49, F5_50, F5_51, F5_52, F5_53, F5_54, F5_55, F5, kNew, kSteps, kCmp, kEnv, kKont, kFld, kLen, kCall, kIsos, gloop_succ, cond_true, cond_false, Bool.not_true, Bool.not_false, Nat.reduceEqDiff, reduceIte, Nat.reduceAdd, List.length_map, getT, hc, e1, e2, v1, v2, q20, q36, q37, q38, tk]
      exact hK
end Go.Proofs.YthnnjopilpgakaaGreat
namespace Go.Proofs.YthnnjopilpgakaaGreat
open Go.Gh Go.RowKit

theorem law_calls {m f : Nat} {W : World} {vs : Array Value} {dvs : List DV} (hl : vs.toList.length = dvs.length) (hd : ∀ (k : Nat) y v, dvs[k]? = some y → vs.toList[k]? = some v → DR (immW W) y v)
    (hg : gcall gp m 0 f (dvs.map .d) [] (fun r _ => isT r) = true) : Calls Tryz.prog f vs W fun e W' => e = .returned (.bool true) ∧ Below W.heap.size W W' := by
  have hi : ∀ a v, immW W a = some v → a.spot = none ∧ W.cell? a = some v := fun a v h => by
    unfold immW at h
    split at h
    · exact ⟨‹_›, h⟩
    · cases h
  have hs := Table.sound table m 0 f (dvs.map .d) [] _ ⟨fun _ => 0, immW W, fun _ => .bool false⟩ W vs hg
    ⟨hi, fun id b h => by simp at h, fun i j bi bj h => by simp at h⟩ (Nat.le_refl _)
    ⟨by simpa using hl, fun k h1 h2 => by
      have h3 : k < dvs.length := by simpa using h1
      rw [List.getElem_map]
      exact .d _ _ (hd k _ _ (List.getElem?_eq_getElem h3) (List.getElem?_eq_getElem h2))⟩
  refine hs.2.mono fun e W' ⟨v, σ', gv, H', he, hk, st, _, hr⟩ => ?_
  have hv : v = .bool true := by
    unfold isT at hk
    split at hk
    · subst hk; cases hr with | d x v h => cases h with | lit v h => rfl
    · cases hk
  subst hv
  exact ⟨he, st.os, st.tape, st.output, st.size, fun k hk => st.frm k hk fun id b h => by simp at h⟩

theorem rowOf {α : Type} {enc : α → DV} : ∀ {es : List DV}, (∀ e ∈ es, ∃ a, e = enc a) → ∃ l : List α, es = l.map enc
  | [], _ => ⟨[], rfl⟩
  | e :: r, h => by
    obtain ⟨a, rfl⟩ := h e (by simp)
    obtain ⟨l, rfl⟩ := rowOf (es := r) fun e he => h e (by simp [he])
    exact ⟨a :: l, rfl⟩
abbrev shI : Shp := .row false [.int]
theorem is_I {x : DV} (h : Is shI x) : ∃ l, x = eI l := by
  simp only [Is] at h
  obtain ⟨es, rfl, h⟩ := h
  obtain ⟨l, rfl⟩ := rowOf (enc := di) (es := es) fun e he => by
    obtain ⟨h1, _, h3⟩ := h e he
    rw [h3 trivial] at h1
    simp only [IsL, Is] at h1
    obtain ⟨y, ys, h4, ⟨n, rfl⟩, _⟩ := h1
    injection h4 with h4 _
    exact ⟨n, h4⟩
  exact ⟨l, rfl⟩
abbrev shN : Shp := .row true [shI, .int, shI, .int]
theorem is_N {x : DV} (h : Is shN x) : ∃ N, x = eN N := by
  unfold shN at h
  simp only [Is] at h
  obtain ⟨es, rfl, h⟩ := h
  obtain ⟨l, rfl⟩ := rowOf (enc := eL) (es := es) fun e he => by
    obtain ⟨h1, h2, _⟩ := h e he
    obtain ⟨cs, rfl⟩ := h2 trivial
    simp only [IsL, DV.cells] at h1
    obtain ⟨y1, _, rfl, i1, y2, _, rfl, i2, y3, _, rfl, i3, y4, _, rfl, i4, rfl⟩ := h1
    obtain ⟨l1, rfl⟩ := is_I i1
    obtain ⟨l3, rfl⟩ := is_I i3
    simp only [Is] at i2 i4
    obtain ⟨n2, rfl⟩ := i2
    obtain ⟨n4, rfl⟩ := i4
    exact ⟨⟨⟨l1, n2⟩, ⟨l3, n4⟩⟩, rfl⟩
  exact ⟨l, rfl⟩
theorem sh23 : shpOf Tryz.prog 6 23 = some [shN] := by kernel_rfl
end Go.Proofs.YthnnjopilpgakaaGreat
