/-
  Rules for the types of this seat: printed by gs.py (a program of this session's own).
-/
import Derived.Test.YthnnjopilpgakaaGreatTaP
import Derived.Test.YthnnjopilpgakaaGreatGhC
set_option linter.unusedVariables false
set_option linter.unusedSimpArgs false
namespace Go.Proofs.YthnnjopilpgakaaGreat
open Go.Gh
theorem idx22 {es : List DV} {k : Nat} (h : k < es.length) (hs : szOk 4 es = true) : gindexAddr gp 22 (.d (.list es)) (gi k) = some (.d (.vptr es k 0)) := by
  show (bif szOk 4 es then (if 0 ≤ (k : Int) ∧ (k : Int) < (es.length : Int) then some (GV.d (.vptr es (k : Int).toNat 0)) else none) else none) = _
  rw [hs, cond_true, if_pos (by omega)]; rfl
theorem app22 {lk u : Nat} {es xs : List DV} {x : GV} {h : List GB} (hx : ∀ ti, srcOf h ti x = some xs) (hh : h[u]? = some (.tail es.length 4)) (hlk : lk ≤ u) (hs : szOk 4 xs = true) (hb : (es.length + xs.length) * 64 ≤ 140737488355328) (k : CK) : gappend gp lk 22 (.tl es u) x h k = k (.tl (es ++ xs) u) (h.set u (.tail (es.length + xs.length) 4)) := by
  show (match srcOf h _ x with | some xs => _ | none => false) = _
  rw [hx]
  show (bif szOk 4 xs then _ else false) = _
  rw [hs]
  show (match h[u]? with | some (.tail L sz) => _ | _ => false) = _
  rw [hh]
  show (bif lk.ble u && es.length.beq es.length && (4 : Nat).beq 4 && Nat.ble 1 64 && ((es.length + xs.length) * 64).ble 140737488355328 then _ else false) = _
  rw [Nat.ble_eq_true_of_le hlk, Nat.ble_eq_true_of_le hb, Nat.beq_refl]
  rfl
theorem apx22 {lk : Nat} {es xs : List DV} {x : GV} {h : List GB} (hx : ∀ ti, srcOf h ti x = some xs) (he : szOk 4 es = true) (hs : szOk 4 xs = true) (hb : (es.length + xs.length) * 64 ≤ 140737488355328) (k : CK) : gappend gp lk 22 (.xl es) x h k = k (.tl (es ++ xs) h.length) (h ++ [.tail (es.length + xs.length) 4]) := by
  show (match srcOf h _ x with | some xs => _ | none => false) = _
  rw [hx]
  show (bif szOk 4 xs then _ else false) = _
  rw [hs]
  show (bif Nat.ble 1 64 && ((es.length + xs.length) * 64).ble 140737488355328 && szOk 4 es then _ else false) = _
  rw [Nat.ble_eq_true_of_le hb, he]
  rfl
theorem apn22 {lk : Nat} {xs : List DV} {x : GV} {h : List GB} (hx : ∀ ti, srcOf h ti x = some xs) (hs : szOk 4 xs = true) (hb : (([] : List DV).length + xs.length) * 64 ≤ 140737488355328) (k : CK) : gappend gp lk 22 (.d (.lit nilS)) x h k = k (.tl ([] ++ xs) h.length) (h ++ [.tail (([] : List DV).length + xs.length) 4]) := by
  show (match srcOf h _ x with | some xs => _ | none => false) = _
  rw [hx]
  show (bif szOk 4 xs then _ else false) = _
  rw [hs]
  show (bif Nat.ble 1 64 && ((([] : List DV).length + xs.length) * 64).ble 140737488355328 && szOk 4 [] then _ else false) = _
  rw [Nat.ble_eq_true_of_le hb]
  rfl
theorem idx23 {es : List DV} {k : Nat} (h : k < es.length) (hs : szOk 4 es = true) : gindexAddr gp 23 (.d (.list es)) (gi k) = some (.d (.vptr es k 0)) := by
  show (bif szOk 4 es then (if 0 ≤ (k : Int) ∧ (k : Int) < (es.length : Int) then some (GV.d (.vptr es (k : Int).toNat 0)) else none) else none) = _
  rw [hs, cond_true, if_pos (by omega)]; rfl
theorem app23 {lk u : Nat} {es xs : List DV} {x : GV} {h : List GB} (hx : ∀ ti, srcOf h ti x = some xs) (hh : h[u]? = some (.tail es.length 4)) (hlk : lk ≤ u) (hs : szOk 4 xs = true) (hb : (es.length + xs.length) * 64 ≤ 140737488355328) (k : CK) : gappend gp lk 23 (.tl es u) x h k = k (.tl (es ++ xs) u) (h.set u (.tail (es.length + xs.length) 4)) := by
  show (match srcOf h _ x with | some xs => _ | none => false) = _
  rw [hx]
  show (bif szOk 4 xs then _ else false) = _
  rw [hs]
  show (match h[u]? with | some (.tail L sz) => _ | _ => false) = _
  rw [hh]
  show (bif lk.ble u && es.length.beq es.length && (4 : Nat).beq 4 && Nat.ble 1 64 && ((es.length + xs.length) * 64).ble 140737488355328 then _ else false) = _
  rw [Nat.ble_eq_true_of_le hlk, Nat.ble_eq_true_of_le hb, Nat.beq_refl]
  rfl
theorem apx23 {lk : Nat} {es xs : List DV} {x : GV} {h : List GB} (hx : ∀ ti, srcOf h ti x = some xs) (he : szOk 4 es = true) (hs : szOk 4 xs = true) (hb : (es.length + xs.length) * 64 ≤ 140737488355328) (k : CK) : gappend gp lk 23 (.xl es) x h k = k (.tl (es ++ xs) h.length) (h ++ [.tail (es.length + xs.length) 4]) := by
  show (match srcOf h _ x with | some xs => _ | none => false) = _
  rw [hx]
  show (bif szOk 4 xs then _ else false) = _
  rw [hs]
  show (bif Nat.ble 1 64 && ((es.length + xs.length) * 64).ble 140737488355328 && szOk 4 es then _ else false) = _
  rw [Nat.ble_eq_true_of_le hb, he]
  rfl
theorem apn23 {lk : Nat} {xs : List DV} {x : GV} {h : List GB} (hx : ∀ ti, srcOf h ti x = some xs) (hs : szOk 4 xs = true) (hb : (([] : List DV).length + xs.length) * 64 ≤ 140737488355328) (k : CK) : gappend gp lk 23 (.d (.lit nilS)) x h k = k (.tl ([] ++ xs) h.length) (h ++ [.tail (([] : List DV).length + xs.length) 4]) := by
  show (match srcOf h _ x with | some xs => _ | none => false) = _
  rw [hx]
  show (bif szOk 4 xs then _ else false) = _
  rw [hs]
  show (bif Nat.ble 1 64 && ((([] : List DV).length + xs.length) * 64).ble 140737488355328 && szOk 4 [] then _ else false) = _
  rw [Nat.ble_eq_true_of_le hb]
  rfl
theorem idx24 {es : List DV} {k : Nat} (h : k < es.length) (hs : szOk 3 es = true) : gindexAddr gp 24 (.d (.list es)) (gi k) = some (.d (.vptr es k 0)) := by
  show (bif szOk 3 es then (if 0 ≤ (k : Int) ∧ (k : Int) < (es.length : Int) then some (GV.d (.vptr es (k : Int).toNat 0)) else none) else none) = _
  rw [hs, cond_true, if_pos (by omega)]; rfl
theorem app24 {lk u : Nat} {es xs : List DV} {x : GV} {h : List GB} (hx : ∀ ti, srcOf h ti x = some xs) (hh : h[u]? = some (.tail es.length 3)) (hlk : lk ≤ u) (hs : szOk 3 xs = true) (hb : (es.length + xs.length) * 40 ≤ 140737488355328) (k : CK) : gappend gp lk 24 (.tl es u) x h k = k (.tl (es ++ xs) u) (h.set u (.tail (es.length + xs.length) 3)) := by
  show (match srcOf h _ x with | some xs => _ | none => false) = _
  rw [hx]
  show (bif szOk 3 xs then _ else false) = _
  rw [hs]
  show (match h[u]? with | some (.tail L sz) => _ | _ => false) = _
  rw [hh]
  show (bif lk.ble u && es.length.beq es.length && (3 : Nat).beq 3 && Nat.ble 1 40 && ((es.length + xs.length) * 40).ble 140737488355328 then _ else false) = _
  rw [Nat.ble_eq_true_of_le hlk, Nat.ble_eq_true_of_le hb, Nat.beq_refl]
  rfl
theorem apx24 {lk : Nat} {es xs : List DV} {x : GV} {h : List GB} (hx : ∀ ti, srcOf h ti x = some xs) (he : szOk 3 es = true) (hs : szOk 3 xs = true) (hb : (es.length + xs.length) * 40 ≤ 140737488355328) (k : CK) : gappend gp lk 24 (.xl es) x h k = k (.tl (es ++ xs) h.length) (h ++ [.tail (es.length + xs.length) 3]) := by
  show (match srcOf h _ x with | some xs => _ | none => false) = _
  rw [hx]
  show (bif szOk 3 xs then _ else false) = _
  rw [hs]
  show (bif Nat.ble 1 40 && ((es.length + xs.length) * 40).ble 140737488355328 && szOk 3 es then _ else false) = _
  rw [Nat.ble_eq_true_of_le hb, he]
  rfl
theorem apn24 {lk : Nat} {xs : List DV} {x : GV} {h : List GB} (hx : ∀ ti, srcOf h ti x = some xs) (hs : szOk 3 xs = true) (hb : (([] : List DV).length + xs.length) * 40 ≤ 140737488355328) (k : CK) : gappend gp lk 24 (.d (.lit nilS)) x h k = k (.tl ([] ++ xs) h.length) (h ++ [.tail (([] : List DV).length + xs.length) 3]) := by
  show (match srcOf h _ x with | some xs => _ | none => false) = _
  rw [hx]
  show (bif szOk 3 xs then _ else false) = _
  rw [hs]
  show (bif Nat.ble 1 40 && ((([] : List DV).length + xs.length) * 40).ble 140737488355328 && szOk 3 [] then _ else false) = _
  rw [Nat.ble_eq_true_of_le hb]
  rfl
theorem idx29 {es : List DV} {k : Nat} (h : k < es.length) (hs : szOk 3 es = true) : gindexAddr gp 29 (.d (.list es)) (gi k) = some (.d (.vptr es k 0)) := by
  show (bif szOk 3 es then (if 0 ≤ (k : Int) ∧ (k : Int) < (es.length : Int) then some (GV.d (.vptr es (k : Int).toNat 0)) else none) else none) = _
  rw [hs, cond_true, if_pos (by omega)]; rfl
theorem app29 {lk u : Nat} {es xs : List DV} {x : GV} {h : List GB} (hx : ∀ ti, srcOf h ti x = some xs) (hh : h[u]? = some (.tail es.length 3)) (hlk : lk ≤ u) (hs : szOk 3 xs = true) (hb : (es.length + xs.length) * 72 ≤ 140737488355328) (k : CK) : gappend gp lk 29 (.tl es u) x h k = k (.tl (es ++ xs) u) (h.set u (.tail (es.length + xs.length) 3)) := by
  show (match srcOf h _ x with | some xs => _ | none => false) = _
  rw [hx]
  show (bif szOk 3 xs then _ else false) = _
  rw [hs]
  show (match h[u]? with | some (.tail L sz) => _ | _ => false) = _
  rw [hh]
  show (bif lk.ble u && es.length.beq es.length && (3 : Nat).beq 3 && Nat.ble 1 72 && ((es.length + xs.length) * 72).ble 140737488355328 then _ else false) = _
  rw [Nat.ble_eq_true_of_le hlk, Nat.ble_eq_true_of_le hb, Nat.beq_refl]
  rfl
theorem apx29 {lk : Nat} {es xs : List DV} {x : GV} {h : List GB} (hx : ∀ ti, srcOf h ti x = some xs) (he : szOk 3 es = true) (hs : szOk 3 xs = true) (hb : (es.length + xs.length) * 72 ≤ 140737488355328) (k : CK) : gappend gp lk 29 (.xl es) x h k = k (.tl (es ++ xs) h.length) (h ++ [.tail (es.length + xs.length) 3]) := by
  show (match srcOf h _ x with | some xs => _ | none => false) = _
  rw [hx]
  show (bif szOk 3 xs then _ else false) = _
  rw [hs]
  show (bif Nat.ble 1 72 && ((es.length + xs.length) * 72).ble 140737488355328 && szOk 3 es then _ else false) = _
  rw [Nat.ble_eq_true_of_le hb, he]
  rfl
theorem apn29 {lk : Nat} {xs : List DV} {x : GV} {h : List GB} (hx : ∀ ti, srcOf h ti x = some xs) (hs : szOk 3 xs = true) (hb : (([] : List DV).length + xs.length) * 72 ≤ 140737488355328) (k : CK) : gappend gp lk 29 (.d (.lit nilS)) x h k = k (.tl ([] ++ xs) h.length) (h ++ [.tail (([] : List DV).length + xs.length) 3]) := by
  show (match srcOf h _ x with | some xs => _ | none => false) = _
  rw [hx]
  show (bif szOk 3 xs then _ else false) = _
  rw [hs]
  show (bif Nat.ble 1 72 && ((([] : List DV).length + xs.length) * 72).ble 140737488355328 && szOk 3 [] then _ else false) = _
  rw [Nat.ble_eq_true_of_le hb]
  rfl
theorem idx35 {es : List DV} {k : Nat} (h : k < es.length) (hs : szOk 1 es = true) : gindexAddr gp 35 (.d (.list es)) (gi k) = some (.d (.vptr es k 0)) := by
  show (bif szOk 1 es then (if 0 ≤ (k : Int) ∧ (k : Int) < (es.length : Int) then some (GV.d (.vptr es (k : Int).toNat 0)) else none) else none) = _
  rw [hs, cond_true, if_pos (by omega)]; rfl
theorem app35 {lk u : Nat} {es xs : List DV} {x : GV} {h : List GB} (hx : ∀ ti, srcOf h ti x = some xs) (hh : h[u]? = some (.tail es.length 1)) (hlk : lk ≤ u) (hs : szOk 1 xs = true) (hb : (es.length + xs.length) * 24 ≤ 140737488355328) (k : CK) : gappend gp lk 35 (.tl es u) x h k = k (.tl (es ++ xs) u) (h.set u (.tail (es.length + xs.length) 1)) := by
  show (match srcOf h _ x with | some xs => _ | none => false) = _
  rw [hx]
  show (bif szOk 1 xs then _ else false) = _
  rw [hs]
  show (match h[u]? with | some (.tail L sz) => _ | _ => false) = _
  rw [hh]
  show (bif lk.ble u && es.length.beq es.length && (1 : Nat).beq 1 && Nat.ble 1 24 && ((es.length + xs.length) * 24).ble 140737488355328 then _ else false) = _
  rw [Nat.ble_eq_true_of_le hlk, Nat.ble_eq_true_of_le hb, Nat.beq_refl]
  rfl
theorem apx35 {lk : Nat} {es xs : List DV} {x : GV} {h : List GB} (hx : ∀ ti, srcOf h ti x = some xs) (he : szOk 1 es = true) (hs : szOk 1 xs = true) (hb : (es.length + xs.length) * 24 ≤ 140737488355328) (k : CK) : gappend gp lk 35 (.xl es) x h k = k (.tl (es ++ xs) h.length) (h ++ [.tail (es.length + xs.length) 1]) := by
  show (match srcOf h _ x with | some xs => _ | none => false) = _
  rw [hx]
  show (bif szOk 1 xs then _ else false) = _
  rw [hs]
  show (bif Nat.ble 1 24 && ((es.length + xs.length) * 24).ble 140737488355328 && szOk 1 es then _ else false) = _
  rw [Nat.ble_eq_true_of_le hb, he]
  rfl
theorem apn35 {lk : Nat} {xs : List DV} {x : GV} {h : List GB} (hx : ∀ ti, srcOf h ti x = some xs) (hs : szOk 1 xs = true) (hb : (([] : List DV).length + xs.length) * 24 ≤ 140737488355328) (k : CK) : gappend gp lk 35 (.d (.lit nilS)) x h k = k (.tl ([] ++ xs) h.length) (h ++ [.tail (([] : List DV).length + xs.length) 1]) := by
  show (match srcOf h _ x with | some xs => _ | none => false) = _
  rw [hx]
  show (bif szOk 1 xs then _ else false) = _
  rw [hs]
  show (bif Nat.ble 1 24 && ((([] : List DV).length + xs.length) * 24).ble 140737488355328 && szOk 1 [] then _ else false) = _
  rw [Nat.ble_eq_true_of_le hb]
  rfl
theorem idx44 {es : List DV} {k : Nat} (h : k < es.length) (hs : szOk 3 es = true) : gindexAddr gp 44 (.d (.list es)) (gi k) = some (.d (.vptr es k 0)) := by
  show (bif szOk 3 es then (if 0 ≤ (k : Int) ∧ (k : Int) < (es.length : Int) then some (GV.d (.vptr es (k : Int).toNat 0)) else none) else none) = _
  rw [hs, cond_true, if_pos (by omega)]; rfl
theorem app44 {lk u : Nat} {es xs : List DV} {x : GV} {h : List GB} (hx : ∀ ti, srcOf h ti x = some xs) (hh : h[u]? = some (.tail es.length 3)) (hlk : lk ≤ u) (hs : szOk 3 xs = true) (hb : (es.length + xs.length) * 40 ≤ 140737488355328) (k : CK) : gappend gp lk 44 (.tl es u) x h k = k (.tl (es ++ xs) u) (h.set u (.tail (es.length + xs.length) 3)) := by
  show (match srcOf h _ x with | some xs => _ | none => false) = _
  rw [hx]
  show (bif szOk 3 xs then _ else false) = _
  rw [hs]
  show (match h[u]? with | some (.tail L sz) => _ | _ => false) = _
  rw [hh]
  show (bif lk.ble u && es.length.beq es.length && (3 : Nat).beq 3 && Nat.ble 1 40 && ((es.length + xs.length) * 40).ble 140737488355328 then _ else false) = _
  rw [Nat.ble_eq_true_of_le hlk, Nat.ble_eq_true_of_le hb, Nat.beq_refl]
  rfl
theorem apx44 {lk : Nat} {es xs : List DV} {x : GV} {h : List GB} (hx : ∀ ti, srcOf h ti x = some xs) (he : szOk 3 es = true) (hs : szOk 3 xs = true) (hb : (es.length + xs.length) * 40 ≤ 140737488355328) (k : CK) : gappend gp lk 44 (.xl es) x h k = k (.tl (es ++ xs) h.length) (h ++ [.tail (es.length + xs.length) 3]) := by
  show (match srcOf h _ x with | some xs => _ | none => false) = _
  rw [hx]
  show (bif szOk 3 xs then _ else false) = _
  rw [hs]
  show (bif Nat.ble 1 40 && ((es.length + xs.length) * 40).ble 140737488355328 && szOk 3 es then _ else false) = _
  rw [Nat.ble_eq_true_of_le hb, he]
  rfl
theorem apn44 {lk : Nat} {xs : List DV} {x : GV} {h : List GB} (hx : ∀ ti, srcOf h ti x = some xs) (hs : szOk 3 xs = true) (hb : (([] : List DV).length + xs.length) * 40 ≤ 140737488355328) (k : CK) : gappend gp lk 44 (.d (.lit nilS)) x h k = k (.tl ([] ++ xs) h.length) (h ++ [.tail (([] : List DV).length + xs.length) 3]) := by
  show (match srcOf h _ x with | some xs => _ | none => false) = _
  rw [hx]
  show (bif szOk 3 xs then _ else false) = _
  rw [hs]
  show (bif Nat.ble 1 40 && ((([] : List DV).length + xs.length) * 40).ble 140737488355328 && szOk 3 [] then _ else false) = _
  rw [Nat.ble_eq_true_of_le hb]
  rfl
theorem idx48 {es : List DV} {k : Nat} (h : k < es.length) (hs : szOk 1 es = true) : gindexAddr gp 48 (.d (.list es)) (gi k) = some (.d (.vptr es k 0)) := by
  show (bif szOk 1 es then (if 0 ≤ (k : Int) ∧ (k : Int) < (es.length : Int) then some (GV.d (.vptr es (k : Int).toNat 0)) else none) else none) = _
  rw [hs, cond_true, if_pos (by omega)]; rfl
theorem app48 {lk u : Nat} {es xs : List DV} {x : GV} {h : List GB} (hx : ∀ ti, srcOf h ti x = some xs) (hh : h[u]? = some (.tail es.length 1)) (hlk : lk ≤ u) (hs : szOk 1 xs = true) (hb : (es.length + xs.length) * 8 ≤ 140737488355328) (k : CK) : gappend gp lk 48 (.tl es u) x h k = k (.tl (es ++ xs) u) (h.set u (.tail (es.length + xs.length) 1)) := by
  show (match srcOf h _ x with | some xs => _ | none => false) = _
  rw [hx]
  show (bif szOk 1 xs then _ else false) = _
  rw [hs]
  show (match h[u]? with | some (.tail L sz) => _ | _ => false) = _
  rw [hh]
  show (bif lk.ble u && es.length.beq es.length && (1 : Nat).beq 1 && Nat.ble 1 8 && ((es.length + xs.length) * 8).ble 140737488355328 then _ else false) = _
  rw [Nat.ble_eq_true_of_le hlk, Nat.ble_eq_true_of_le hb, Nat.beq_refl]
  rfl
theorem apx48 {lk : Nat} {es xs : List DV} {x : GV} {h : List GB} (hx : ∀ ti, srcOf h ti x = some xs) (he : szOk 1 es = true) (hs : szOk 1 xs = true) (hb : (es.length + xs.length) * 8 ≤ 140737488355328) (k : CK) : gappend gp lk 48 (.xl es) x h k = k (.tl (es ++ xs) h.length) (h ++ [.tail (es.length + xs.length) 1]) := by
  show (match srcOf h _ x with | some xs => _ | none => false) = _
  rw [hx]
  show (bif szOk 1 xs then _ else false) = _
  rw [hs]
  show (bif Nat.ble 1 8 && ((es.length + xs.length) * 8).ble 140737488355328 && szOk 1 es then _ else false) = _
  rw [Nat.ble_eq_true_of_le hb, he]
  rfl
theorem apn48 {lk : Nat} {xs : List DV} {x : GV} {h : List GB} (hx : ∀ ti, srcOf h ti x = some xs) (hs : szOk 1 xs = true) (hb : (([] : List DV).length + xs.length) * 8 ≤ 140737488355328) (k : CK) : gappend gp lk 48 (.d (.lit nilS)) x h k = k (.tl ([] ++ xs) h.length) (h ++ [.tail (([] : List DV).length + xs.length) 1]) := by
  show (match srcOf h _ x with | some xs => _ | none => false) = _
  rw [hx]
  show (bif szOk 1 xs then _ else false) = _
  rw [hs]
  show (bif Nat.ble 1 8 && ((([] : List DV).length + xs.length) * 8).ble 140737488355328 && szOk 1 [] then _ else false) = _
  rw [Nat.ble_eq_true_of_le hb]
  rfl
theorem idx49 {es : List DV} {k : Nat} (h : k < es.length) (hs : szOk 7 es = true) : gindexAddr gp 49 (.d (.list es)) (gi k) = some (.d (.vptr es k 0)) := by
  show (bif szOk 7 es then (if 0 ≤ (k : Int) ∧ (k : Int) < (es.length : Int) then some (GV.d (.vptr es (k : Int).toNat 0)) else none) else none) = _
  rw [hs, cond_true, if_pos (by omega)]; rfl
theorem app49 {lk u : Nat} {es xs : List DV} {x : GV} {h : List GB} (hx : ∀ ti, srcOf h ti x = some xs) (hh : h[u]? = some (.tail es.length 7)) (hlk : lk ≤ u) (hs : szOk 7 xs = true) (hb : (es.length + xs.length) * 72 ≤ 140737488355328) (k : CK) : gappend gp lk 49 (.tl es u) x h k = k (.tl (es ++ xs) u) (h.set u (.tail (es.length + xs.length) 7)) := by
  show (match srcOf h _ x with | some xs => _ | none => false) = _
  rw [hx]
  show (bif szOk 7 xs then _ else false) = _
  rw [hs]
  show (match h[u]? with | some (.tail L sz) => _ | _ => false) = _
  rw [hh]
  show (bif lk.ble u && es.length.beq es.length && (7 : Nat).beq 7 && Nat.ble 1 72 && ((es.length + xs.length) * 72).ble 140737488355328 then _ else false) = _
  rw [Nat.ble_eq_true_of_le hlk, Nat.ble_eq_true_of_le hb, Nat.beq_refl]
  rfl
theorem apx49 {lk : Nat} {es xs : List DV} {x : GV} {h : List GB} (hx : ∀ ti, srcOf h ti x = some xs) (he : szOk 7 es = true) (hs : szOk 7 xs = true) (hb : (es.length + xs.length) * 72 ≤ 140737488355328) (k : CK) : gappend gp lk 49 (.xl es) x h k = k (.tl (es ++ xs) h.length) (h ++ [.tail (es.length + xs.length) 7]) := by
  show (match srcOf h _ x with | some xs => _ | none => false) = _
  rw [hx]
  show (bif szOk 7 xs then _ else false) = _
  rw [hs]
  show (bif Nat.ble 1 72 && ((es.length + xs.length) * 72).ble 140737488355328 && szOk 7 es then _ else false) = _
  rw [Nat.ble_eq_true_of_le hb, he]
  rfl
theorem apn49 {lk : Nat} {xs : List DV} {x : GV} {h : List GB} (hx : ∀ ti, srcOf h ti x = some xs) (hs : szOk 7 xs = true) (hb : (([] : List DV).length + xs.length) * 72 ≤ 140737488355328) (k : CK) : gappend gp lk 49 (.d (.lit nilS)) x h k = k (.tl ([] ++ xs) h.length) (h ++ [.tail (([] : List DV).length + xs.length) 7]) := by
  show (match srcOf h _ x with | some xs => _ | none => false) = _
  rw [hx]
  show (bif szOk 7 xs then _ else false) = _
  rw [hs]
  show (bif Nat.ble 1 72 && ((([] : List DV).length + xs.length) * 72).ble 140737488355328 && szOk 7 [] then _ else false) = _
  rw [Nat.ble_eq_true_of_le hb]
  rfl
theorem idx50 {es : List DV} {k : Nat} (h : k < es.length) (hs : szOk 7 es = true) : gindexAddr gp 50 (.d (.list es)) (gi k) = some (.d (.vptr es k 0)) := by
  show (bif szOk 7 es then (if 0 ≤ (k : Int) ∧ (k : Int) < (es.length : Int) then some (GV.d (.vptr es (k : Int).toNat 0)) else none) else none) = _
  rw [hs, cond_true, if_pos (by omega)]; rfl
theorem app50 {lk u : Nat} {es xs : List DV} {x : GV} {h : List GB} (hx : ∀ ti, srcOf h ti x = some xs) (hh : h[u]? = some (.tail es.length 7)) (hlk : lk ≤ u) (hs : szOk 7 xs = true) (hb : (es.length + xs.length) * 72 ≤ 140737488355328) (k : CK) : gappend gp lk 50 (.tl es u) x h k = k (.tl (es ++ xs) u) (h.set u (.tail (es.length + xs.length) 7)) := by
  show (match srcOf h _ x with | some xs => _ | none => false) = _
  rw [hx]
  show (bif szOk 7 xs then _ else false) = _
  rw [hs]
  show (match h[u]? with | some (.tail L sz) => _ | _ => false) = _
  rw [hh]
  show (bif lk.ble u && es.length.beq es.length && (7 : Nat).beq 7 && Nat.ble 1 72 && ((es.length + xs.length) * 72).ble 140737488355328 then _ else false) = _
  rw [Nat.ble_eq_true_of_le hlk, Nat.ble_eq_true_of_le hb, Nat.beq_refl]
  rfl
theorem apx50 {lk : Nat} {es xs : List DV} {x : GV} {h : List GB} (hx : ∀ ti, srcOf h ti x = some xs) (he : szOk 7 es = true) (hs : szOk 7 xs = true) (hb : (es.length + xs.length) * 72 ≤ 140737488355328) (k : CK) : gappend gp lk 50 (.xl es) x h k = k (.tl (es ++ xs) h.length) (h ++ [.tail (es.length + xs.length) 7]) := by
  show (match srcOf h _ x with | some xs => _ | none => false) = _
  rw [hx]
  show (bif szOk 7 xs then _ else false) = _
  rw [hs]
  show (bif Nat.ble 1 72 && ((es.length + xs.length) * 72).ble 140737488355328 && szOk 7 es then _ else false) = _
  rw [Nat.ble_eq_true_of_le hb, he]
  rfl
theorem apn50 {lk : Nat} {xs : List DV} {x : GV} {h : List GB} (hx : ∀ ti, srcOf h ti x = some xs) (hs : szOk 7 xs = true) (hb : (([] : List DV).length + xs.length) * 72 ≤ 140737488355328) (k : CK) : gappend gp lk 50 (.d (.lit nilS)) x h k = k (.tl ([] ++ xs) h.length) (h ++ [.tail (([] : List DV).length + xs.length) 7]) := by
  show (match srcOf h _ x with | some xs => _ | none => false) = _
  rw [hx]
  show (bif szOk 7 xs then _ else false) = _
  rw [hs]
  show (bif Nat.ble 1 72 && ((([] : List DV).length + xs.length) * 72).ble 140737488355328 && szOk 7 [] then _ else false) = _
  rw [Nat.ble_eq_true_of_le hb]
  rfl
theorem idx56 {es : List DV} {k : Nat} (h : k < es.length) (hs : szOk 2 es = true) : gindexAddr gp 56 (.d (.list es)) (gi k) = some (.d (.vptr es k 0)) := by
  show (bif szOk 2 es then (if 0 ≤ (k : Int) ∧ (k : Int) < (es.length : Int) then some (GV.d (.vptr es (k : Int).toNat 0)) else none) else none) = _
  rw [hs, cond_true, if_pos (by omega)]; rfl
theorem app56 {lk u : Nat} {es xs : List DV} {x : GV} {h : List GB} (hx : ∀ ti, srcOf h ti x = some xs) (hh : h[u]? = some (.tail es.length 2)) (hlk : lk ≤ u) (hs : szOk 2 xs = true) (hb : (es.length + xs.length) * 16 ≤ 140737488355328) (k : CK) : gappend gp lk 56 (.tl es u) x h k = k (.tl (es ++ xs) u) (h.set u (.tail (es.length + xs.length) 2)) := by
  show (match srcOf h _ x with | some xs => _ | none => false) = _
  rw [hx]
  show (bif szOk 2 xs then _ else false) = _
  rw [hs]
  show (match h[u]? with | some (.tail L sz) => _ | _ => false) = _
  rw [hh]
  show (bif lk.ble u && es.length.beq es.length && (2 : Nat).beq 2 && Nat.ble 1 16 && ((es.length + xs.length) * 16).ble 140737488355328 then _ else false) = _
  rw [Nat.ble_eq_true_of_le hlk, Nat.ble_eq_true_of_le hb, Nat.beq_refl]
  rfl
theorem apx56 {lk : Nat} {es xs : List DV} {x : GV} {h : List GB} (hx : ∀ ti, srcOf h ti x = some xs) (he : szOk 2 es = true) (hs : szOk 2 xs = true) (hb : (es.length + xs.length) * 16 ≤ 140737488355328) (k : CK) : gappend gp lk 56 (.xl es) x h k = k (.tl (es ++ xs) h.length) (h ++ [.tail (es.length + xs.length) 2]) := by
  show (match srcOf h _ x with | some xs => _ | none => false) = _
  rw [hx]
  show (bif szOk 2 xs then _ else false) = _
  rw [hs]
  show (bif Nat.ble 1 16 && ((es.length + xs.length) * 16).ble 140737488355328 && szOk 2 es then _ else false) = _
  rw [Nat.ble_eq_true_of_le hb, he]
  rfl
theorem apn56 {lk : Nat} {xs : List DV} {x : GV} {h : List GB} (hx : ∀ ti, srcOf h ti x = some xs) (hs : szOk 2 xs = true) (hb : (([] : List DV).length + xs.length) * 16 ≤ 140737488355328) (k : CK) : gappend gp lk 56 (.d (.lit nilS)) x h k = k (.tl ([] ++ xs) h.length) (h ++ [.tail (([] : List DV).length + xs.length) 2]) := by
  show (match srcOf h _ x with | some xs => _ | none => false) = _
  rw [hx]
  show (bif szOk 2 xs then _ else false) = _
  rw [hs]
  show (bif Nat.ble 1 16 && ((([] : List DV).length + xs.length) * 16).ble 140737488355328 && szOk 2 [] then _ else false) = _
  rw [Nat.ble_eq_true_of_le hb]
  rfl
theorem idx88 {es : List DV} {k : Nat} (h : k < es.length) (hs : szOk 2 es = true) : gindexAddr gp 88 (.d (.list es)) (gi k) = some (.d (.vptr es k 0)) := by
  show (bif szOk 2 es then (if 0 ≤ (k : Int) ∧ (k : Int) < (es.length : Int) then some (GV.d (.vptr es (k : Int).toNat 0)) else none) else none) = _
  rw [hs, cond_true, if_pos (by omega)]; rfl
theorem app88 {lk u : Nat} {es xs : List DV} {x : GV} {h : List GB} (hx : ∀ ti, srcOf h ti x = some xs) (hh : h[u]? = some (.tail es.length 2)) (hlk : lk ≤ u) (hs : szOk 2 xs = true) (hb : (es.length + xs.length) * 32 ≤ 140737488355328) (k : CK) : gappend gp lk 88 (.tl es u) x h k = k (.tl (es ++ xs) u) (h.set u (.tail (es.length + xs.length) 2)) := by
  show (match srcOf h _ x with | some xs => _ | none => false) = _
  rw [hx]
  show (bif szOk 2 xs then _ else false) = _
  rw [hs]
  show (match h[u]? with | some (.tail L sz) => _ | _ => false) = _
  rw [hh]
  show (bif lk.ble u && es.length.beq es.length && (2 : Nat).beq 2 && Nat.ble 1 32 && ((es.length + xs.length) * 32).ble 140737488355328 then _ else false) = _
  rw [Nat.ble_eq_true_of_le hlk, Nat.ble_eq_true_of_le hb, Nat.beq_refl]
  rfl
theorem apx88 {lk : Nat} {es xs : List DV} {x : GV} {h : List GB} (hx : ∀ ti, srcOf h ti x = some xs) (he : szOk 2 es = true) (hs : szOk 2 xs = true) (hb : (es.length + xs.length) * 32 ≤ 140737488355328) (k : CK) : gappend gp lk 88 (.xl es) x h k = k (.tl (es ++ xs) h.length) (h ++ [.tail (es.length + xs.length) 2]) := by
  show (match srcOf h _ x with | some xs => _ | none => false) = _
  rw [hx]
  show (bif szOk 2 xs then _ else false) = _
  rw [hs]
  show (bif Nat.ble 1 32 && ((es.length + xs.length) * 32).ble 140737488355328 && szOk 2 es then _ else false) = _
  rw [Nat.ble_eq_true_of_le hb, he]
  rfl
theorem apn88 {lk : Nat} {xs : List DV} {x : GV} {h : List GB} (hx : ∀ ti, srcOf h ti x = some xs) (hs : szOk 2 xs = true) (hb : (([] : List DV).length + xs.length) * 32 ≤ 140737488355328) (k : CK) : gappend gp lk 88 (.d (.lit nilS)) x h k = k (.tl ([] ++ xs) h.length) (h ++ [.tail (([] : List DV).length + xs.length) 2]) := by
  show (match srcOf h _ x with | some xs => _ | none => false) = _
  rw [hx]
  show (bif szOk 2 xs then _ else false) = _
  rw [hs]
  show (bif Nat.ble 1 32 && ((([] : List DV).length + xs.length) * 32).ble 140737488355328 && szOk 2 [] then _ else false) = _
  rw [Nat.ble_eq_true_of_le hb]
  rfl
theorem idx140 {es : List DV} {k : Nat} (h : k < es.length) (hs : szOk 3 es = true) : gindexAddr gp 140 (.d (.list es)) (gi k) = some (.d (.vptr es k 0)) := by
  show (bif szOk 3 es then (if 0 ≤ (k : Int) ∧ (k : Int) < (es.length : Int) then some (GV.d (.vptr es (k : Int).toNat 0)) else none) else none) = _
  rw [hs, cond_true, if_pos (by omega)]; rfl
theorem app140 {lk u : Nat} {es xs : List DV} {x : GV} {h : List GB} (hx : ∀ ti, srcOf h ti x = some xs) (hh : h[u]? = some (.tail es.length 3)) (hlk : lk ≤ u) (hs : szOk 3 xs = true) (hb : (es.length + xs.length) * 24 ≤ 140737488355328) (k : CK) : gappend gp lk 140 (.tl es u) x h k = k (.tl (es ++ xs) u) (h.set u (.tail (es.length + xs.length) 3)) := by
  show (match srcOf h _ x with | some xs => _ | none => false) = _
  rw [hx]
  show (bif szOk 3 xs then _ else false) = _
  rw [hs]
  show (match h[u]? with | some (.tail L sz) => _ | _ => false) = _
  rw [hh]
  show (bif lk.ble u && es.length.beq es.length && (3 : Nat).beq 3 && Nat.ble 1 24 && ((es.length + xs.length) * 24).ble 140737488355328 then _ else false) = _
  rw [Nat.ble_eq_true_of_le hlk, Nat.ble_eq_true_of_le hb, Nat.beq_refl]
  rfl
theorem apx140 {lk : Nat} {es xs : List DV} {x : GV} {h : List GB} (hx : ∀ ti, srcOf h ti x = some xs) (he : szOk 3 es = true) (hs : szOk 3 xs = true) (hb : (es.length + xs.length) * 24 ≤ 140737488355328) (k : CK) : gappend gp lk 140 (.xl es) x h k = k (.tl (es ++ xs) h.length) (h ++ [.tail (es.length + xs.length) 3]) := by
  show (match srcOf h _ x with | some xs => _ | none => false) = _
  rw [hx]
  show (bif szOk 3 xs then _ else false) = _
  rw [hs]
  show (bif Nat.ble 1 24 && ((es.length + xs.length) * 24).ble 140737488355328 && szOk 3 es then _ else false) = _
  rw [Nat.ble_eq_true_of_le hb, he]
  rfl
theorem apn140 {lk : Nat} {xs : List DV} {x : GV} {h : List GB} (hx : ∀ ti, srcOf h ti x = some xs) (hs : szOk 3 xs = true) (hb : (([] : List DV).length + xs.length) * 24 ≤ 140737488355328) (k : CK) : gappend gp lk 140 (.d (.lit nilS)) x h k = k (.tl ([] ++ xs) h.length) (h ++ [.tail (([] : List DV).length + xs.length) 3]) := by
  show (match srcOf h _ x with | some xs => _ | none => false) = _
  rw [hx]
  show (bif szOk 3 xs then _ else false) = _
  rw [hs]
  show (bif Nat.ble 1 24 && ((([] : List DV).length + xs.length) * 24).ble 140737488355328 && szOk 3 [] then _ else false) = _
  rw [Nat.ble_eq_true_of_le hb]
  rfl
theorem idx177 {es : List DV} {k : Nat} (h : k < es.length) (hs : szOk 1 es = true) : gindexAddr gp 177 (.d (.list es)) (gi k) = some (.d (.vptr es k 0)) := by
  show (bif szOk 1 es then (if 0 ≤ (k : Int) ∧ (k : Int) < (es.length : Int) then some (GV.d (.vptr es (k : Int).toNat 0)) else none) else none) = _
  rw [hs, cond_true, if_pos (by omega)]; rfl
theorem app177 {lk u : Nat} {es xs : List DV} {x : GV} {h : List GB} (hx : ∀ ti, srcOf h ti x = some xs) (hh : h[u]? = some (.tail es.length 1)) (hlk : lk ≤ u) (hs : szOk 1 xs = true) (hb : (es.length + xs.length) * 24 ≤ 140737488355328) (k : CK) : gappend gp lk 177 (.tl es u) x h k = k (.tl (es ++ xs) u) (h.set u (.tail (es.length + xs.length) 1)) := by
  show (match srcOf h _ x with | some xs => _ | none => false) = _
  rw [hx]
  show (bif szOk 1 xs then _ else false) = _
  rw [hs]
  show (match h[u]? with | some (.tail L sz) => _ | _ => false) = _
  rw [hh]
  show (bif lk.ble u && es.length.beq es.length && (1 : Nat).beq 1 && Nat.ble 1 24 && ((es.length + xs.length) * 24).ble 140737488355328 then _ else false) = _
  rw [Nat.ble_eq_true_of_le hlk, Nat.ble_eq_true_of_le hb, Nat.beq_refl]
  rfl
theorem apx177 {lk : Nat} {es xs : List DV} {x : GV} {h : List GB} (hx : ∀ ti, srcOf h ti x = some xs) (he : szOk 1 es = true) (hs : szOk 1 xs = true) (hb : (es.length + xs.length) * 24 ≤ 140737488355328) (k : CK) : gappend gp lk 177 (.xl es) x h k = k (.tl (es ++ xs) h.length) (h ++ [.tail (es.length + xs.length) 1]) := by
  show (match srcOf h _ x with | some xs => _ | none => false) = _
  rw [hx]
  show (bif szOk 1 xs then _ else false) = _
  rw [hs]
  show (bif Nat.ble 1 24 && ((es.length + xs.length) * 24).ble 140737488355328 && szOk 1 es then _ else false) = _
  rw [Nat.ble_eq_true_of_le hb, he]
  rfl
theorem apn177 {lk : Nat} {xs : List DV} {x : GV} {h : List GB} (hx : ∀ ti, srcOf h ti x = some xs) (hs : szOk 1 xs = true) (hb : (([] : List DV).length + xs.length) * 24 ≤ 140737488355328) (k : CK) : gappend gp lk 177 (.d (.lit nilS)) x h k = k (.tl ([] ++ xs) h.length) (h ++ [.tail (([] : List DV).length + xs.length) 1]) := by
  show (match srcOf h _ x with | some xs => _ | none => false) = _
  rw [hx]
  show (bif szOk 1 xs then _ else false) = _
  rw [hs]
  show (bif Nat.ble 1 24 && ((([] : List DV).length + xs.length) * 24).ble 140737488355328 && szOk 1 [] then _ else false) = _
  rw [Nat.ble_eq_true_of_le hb]
  rfl
theorem idx226 {es : List DV} {k : Nat} (h : k < es.length) (hs : szOk 2 es = true) : gindexAddr gp 226 (.d (.list es)) (gi k) = some (.d (.vptr es k 0)) := by
  show (bif szOk 2 es then (if 0 ≤ (k : Int) ∧ (k : Int) < (es.length : Int) then some (GV.d (.vptr es (k : Int).toNat 0)) else none) else none) = _
  rw [hs, cond_true, if_pos (by omega)]; rfl
theorem app226 {lk u : Nat} {es xs : List DV} {x : GV} {h : List GB} (hx : ∀ ti, srcOf h ti x = some xs) (hh : h[u]? = some (.tail es.length 2)) (hlk : lk ≤ u) (hs : szOk 2 xs = true) (hb : (es.length + xs.length) * 16 ≤ 140737488355328) (k : CK) : gappend gp lk 226 (.tl es u) x h k = k (.tl (es ++ xs) u) (h.set u (.tail (es.length + xs.length) 2)) := by
  show (match srcOf h _ x with | some xs => _ | none => false) = _
  rw [hx]
  show (bif szOk 2 xs then _ else false) = _
  rw [hs]
  show (match h[u]? with | some (.tail L sz) => _ | _ => false) = _
  rw [hh]
  show (bif lk.ble u && es.length.beq es.length && (2 : Nat).beq 2 && Nat.ble 1 16 && ((es.length + xs.length) * 16).ble 140737488355328 then _ else false) = _
  rw [Nat.ble_eq_true_of_le hlk, Nat.ble_eq_true_of_le hb, Nat.beq_refl]
  rfl
theorem apx226 {lk : Nat} {es xs : List DV} {x : GV} {h : List GB} (hx : ∀ ti, srcOf h ti x = some xs) (he : szOk 2 es = true) (hs : szOk 2 xs = true) (hb : (es.length + xs.length) * 16 ≤ 140737488355328) (k : CK) : gappend gp lk 226 (.xl es) x h k = k (.tl (es ++ xs) h.length) (h ++ [.tail (es.length + xs.length) 2]) := by
  show (match srcOf h _ x with | some xs => _ | none => false) = _
  rw [hx]
  show (bif szOk 2 xs then _ else false) = _
  rw [hs]
  show (bif Nat.ble 1 16 && ((es.length + xs.length) * 16).ble 140737488355328 && szOk 2 es then _ else false) = _
  rw [Nat.ble_eq_true_of_le hb, he]
  rfl
theorem apn226 {lk : Nat} {xs : List DV} {x : GV} {h : List GB} (hx : ∀ ti, srcOf h ti x = some xs) (hs : szOk 2 xs = true) (hb : (([] : List DV).length + xs.length) * 16 ≤ 140737488355328) (k : CK) : gappend gp lk 226 (.d (.lit nilS)) x h k = k (.tl ([] ++ xs) h.length) (h ++ [.tail (([] : List DV).length + xs.length) 2]) := by
  show (match srcOf h _ x with | some xs => _ | none => false) = _
  rw [hx]
  show (bif szOk 2 xs then _ else false) = _
  rw [hs]
  show (bif Nat.ble 1 16 && ((([] : List DV).length + xs.length) * 16).ble 140737488355328 && szOk 2 [] then _ else false) = _
  rw [Nat.ble_eq_true_of_le hb]
  rfl
theorem idx227 {es : List DV} {k : Nat} (h : k < es.length) (hs : szOk 1 es = true) : gindexAddr gp 227 (.d (.list es)) (gi k) = some (.d (.vptr es k 0)) := by
  show (bif szOk 1 es then (if 0 ≤ (k : Int) ∧ (k : Int) < (es.length : Int) then some (GV.d (.vptr es (k : Int).toNat 0)) else none) else none) = _
  rw [hs, cond_true, if_pos (by omega)]; rfl
theorem app227 {lk u : Nat} {es xs : List DV} {x : GV} {h : List GB} (hx : ∀ ti, srcOf h ti x = some xs) (hh : h[u]? = some (.tail es.length 1)) (hlk : lk ≤ u) (hs : szOk 1 xs = true) (hb : (es.length + xs.length) * 8 ≤ 140737488355328) (k : CK) : gappend gp lk 227 (.tl es u) x h k = k (.tl (es ++ xs) u) (h.set u (.tail (es.length + xs.length) 1)) := by
  show (match srcOf h _ x with | some xs => _ | none => false) = _
  rw [hx]
  show (bif szOk 1 xs then _ else false) = _
  rw [hs]
  show (match h[u]? with | some (.tail L sz) => _ | _ => false) = _
  rw [hh]
  show (bif lk.ble u && es.length.beq es.length && (1 : Nat).beq 1 && Nat.ble 1 8 && ((es.length + xs.length) * 8).ble 140737488355328 then _ else false) = _
  rw [Nat.ble_eq_true_of_le hlk, Nat.ble_eq_true_of_le hb, Nat.beq_refl]
  rfl
theorem apx227 {lk : Nat} {es xs : List DV} {x : GV} {h : List GB} (hx : ∀ ti, srcOf h ti x = some xs) (he : szOk 1 es = true) (hs : szOk 1 xs = true) (hb : (es.length + xs.length) * 8 ≤ 140737488355328) (k : CK) : gappend gp lk 227 (.xl es) x h k = k (.tl (es ++ xs) h.length) (h ++ [.tail (es.length + xs.length) 1]) := by
  show (match srcOf h _ x with | some xs => _ | none => false) = _
  rw [hx]
  show (bif szOk 1 xs then _ else false) = _
  rw [hs]
  show (bif Nat.ble 1 8 && ((es.length + xs.length) * 8).ble 140737488355328 && szOk 1 es then _ else false) = _
  rw [Nat.ble_eq_true_of_le hb, he]
  rfl
theorem apn227 {lk : Nat} {xs : List DV} {x : GV} {h : List GB} (hx : ∀ ti, srcOf h ti x = some xs) (hs : szOk 1 xs = true) (hb : (([] : List DV).length + xs.length) * 8 ≤ 140737488355328) (k : CK) : gappend gp lk 227 (.d (.lit nilS)) x h k = k (.tl ([] ++ xs) h.length) (h ++ [.tail (([] : List DV).length + xs.length) 1]) := by
  show (match srcOf h _ x with | some xs => _ | none => false) = _
  rw [hx]
  show (bif szOk 1 xs then _ else false) = _
  rw [hs]
  show (bif Nat.ble 1 8 && ((([] : List DV).length + xs.length) * 8).ble 140737488355328 && szOk 1 [] then _ else false) = _
  rw [Nat.ble_eq_true_of_le hb]
  rfl
theorem kFld : (∀ es i o, gfieldAddr gp 26 (.d (.vptr es i o)) 0 = some (.d (.vptr es i (o + 0)))) ∧ (∀ b o, gfieldAddr gp 26 (.ptr b o) 0 = some (.ptr b (o + 0))) ∧
    (∀ es i o, gfieldAddr gp 26 (.d (.vptr es i o)) 1 = some (.d (.vptr es i (o + 1)))) ∧ (∀ b o, gfieldAddr gp 26 (.ptr b o) 1 = some (.ptr b (o + 1))) ∧
    (∀ es i o, gfieldAddr gp 46 (.d (.vptr es i o)) 0 = some (.d (.vptr es i (o + 0)))) ∧ (∀ b o, gfieldAddr gp 46 (.ptr b o) 0 = some (.ptr b (o + 0))) ∧
    (∀ es i o, gfieldAddr gp 46 (.d (.vptr es i o)) 1 = some (.d (.vptr es i (o + 1)))) ∧ (∀ b o, gfieldAddr gp 46 (.ptr b o) 1 = some (.ptr b (o + 1))) ∧
    (∀ es i o, gfieldAddr gp 52 (.d (.vptr es i o)) 0 = some (.d (.vptr es i (o + 0)))) ∧ (∀ b o, gfieldAddr gp 52 (.ptr b o) 0 = some (.ptr b (o + 0))) ∧
    (∀ es i o, gfieldAddr gp 52 (.d (.vptr es i o)) 1 = some (.d (.vptr es i (o + 1)))) ∧ (∀ b o, gfieldAddr gp 52 (.ptr b o) 1 = some (.ptr b (o + 1))) ∧
    (∀ es i o, gfieldAddr gp 77 (.d (.vptr es i o)) 0 = some (.d (.vptr es i (o + 0)))) ∧ (∀ b o, gfieldAddr gp 77 (.ptr b o) 0 = some (.ptr b (o + 0))) ∧
    (∀ es i o, gfieldAddr gp 77 (.d (.vptr es i o)) 1 = some (.d (.vptr es i (o + 1)))) ∧ (∀ b o, gfieldAddr gp 77 (.ptr b o) 1 = some (.ptr b (o + 1))) ∧
    (∀ es i o, gfieldAddr gp 77 (.d (.vptr es i o)) 2 = some (.d (.vptr es i (o + 2)))) ∧ (∀ b o, gfieldAddr gp 77 (.ptr b o) 2 = some (.ptr b (o + 2))) ∧
    (∀ es i o, gfieldAddr gp 77 (.d (.vptr es i o)) 3 = some (.d (.vptr es i (o + 3)))) ∧ (∀ b o, gfieldAddr gp 77 (.ptr b o) 3 = some (.ptr b (o + 3))) ∧
    (∀ es i o, gfieldAddr gp 77 (.d (.vptr es i o)) 4 = some (.d (.vptr es i (o + 4)))) ∧ (∀ b o, gfieldAddr gp 77 (.ptr b o) 4 = some (.ptr b (o + 4))) ∧
    (∀ es i o, gfieldAddr gp 77 (.d (.vptr es i o)) 5 = some (.d (.vptr es i (o + 5)))) ∧ (∀ b o, gfieldAddr gp 77 (.ptr b o) 5 = some (.ptr b (o + 5))) ∧
    (∀ es i o, gfieldAddr gp 77 (.d (.vptr es i o)) 6 = some (.d (.vptr es i (o + 6)))) ∧ (∀ b o, gfieldAddr gp 77 (.ptr b o) 6 = some (.ptr b (o + 6))) ∧
    (∀ es i o, gfieldAddr gp 90 (.d (.vptr es i o)) 0 = some (.d (.vptr es i (o + 0)))) ∧ (∀ b o, gfieldAddr gp 90 (.ptr b o) 0 = some (.ptr b (o + 0))) ∧
    (∀ es i o, gfieldAddr gp 90 (.d (.vptr es i o)) 1 = some (.d (.vptr es i (o + 1)))) ∧ (∀ b o, gfieldAddr gp 90 (.ptr b o) 1 = some (.ptr b (o + 1))) ∧
    (∀ es i o, gfieldAddr gp 90 (.d (.vptr es i o)) 2 = some (.d (.vptr es i (o + 2)))) ∧ (∀ b o, gfieldAddr gp 90 (.ptr b o) 2 = some (.ptr b (o + 2))) ∧
    (∀ es i o, gfieldAddr gp 98 (.d (.vptr es i o)) 0 = some (.d (.vptr es i (o + 0)))) ∧ (∀ b o, gfieldAddr gp 98 (.ptr b o) 0 = some (.ptr b (o + 0))) ∧
    (∀ es i o, gfieldAddr gp 98 (.d (.vptr es i o)) 1 = some (.d (.vptr es i (o + 1)))) ∧ (∀ b o, gfieldAddr gp 98 (.ptr b o) 1 = some (.ptr b (o + 1))) ∧
    (∀ es i o, gfieldAddr gp 105 (.d (.vptr es i o)) 0 = some (.d (.vptr es i (o + 0)))) ∧ (∀ b o, gfieldAddr gp 105 (.ptr b o) 0 = some (.ptr b (o + 0))) ∧
    (∀ es i o, gfieldAddr gp 105 (.d (.vptr es i o)) 1 = some (.d (.vptr es i (o + 1)))) ∧ (∀ b o, gfieldAddr gp 105 (.ptr b o) 1 = some (.ptr b (o + 1))) ∧
    (∀ es i o, gfieldAddr gp 105 (.d (.vptr es i o)) 2 = some (.d (.vptr es i (o + 2)))) ∧ (∀ b o, gfieldAddr gp 105 (.ptr b o) 2 = some (.ptr b (o + 2))) ∧
    (∀ es i o, gfieldAddr gp 109 (.d (.vptr es i o)) 0 = some (.d (.vptr es i (o + 0)))) ∧ (∀ b o, gfieldAddr gp 109 (.ptr b o) 0 = some (.ptr b (o + 0))) ∧
    (∀ es i o, gfieldAddr gp 109 (.d (.vptr es i o)) 1 = some (.d (.vptr es i (o + 1)))) ∧ (∀ b o, gfieldAddr gp 109 (.ptr b o) 1 = some (.ptr b (o + 1))) ∧
    (∀ es i o, gfieldAddr gp 109 (.d (.vptr es i o)) 2 = some (.d (.vptr es i (o + 2)))) ∧ (∀ b o, gfieldAddr gp 109 (.ptr b o) 2 = some (.ptr b (o + 2))) ∧
    (∀ es i o, gfieldAddr gp 117 (.d (.vptr es i o)) 0 = some (.d (.vptr es i (o + 0)))) ∧ (∀ b o, gfieldAddr gp 117 (.ptr b o) 0 = some (.ptr b (o + 0))) ∧
    (∀ es i o, gfieldAddr gp 117 (.d (.vptr es i o)) 1 = some (.d (.vptr es i (o + 1)))) ∧ (∀ b o, gfieldAddr gp 117 (.ptr b o) 1 = some (.ptr b (o + 1))) ∧
    (∀ es i o, gfieldAddr gp 117 (.d (.vptr es i o)) 2 = some (.d (.vptr es i (o + 2)))) ∧ (∀ b o, gfieldAddr gp 117 (.ptr b o) 2 = some (.ptr b (o + 2))) ∧
    (∀ es i o, gfieldAddr gp 123 (.d (.vptr es i o)) 0 = some (.d (.vptr es i (o + 0)))) ∧ (∀ b o, gfieldAddr gp 123 (.ptr b o) 0 = some (.ptr b (o + 0))) ∧
    (∀ es i o, gfieldAddr gp 123 (.d (.vptr es i o)) 1 = some (.d (.vptr es i (o + 1)))) ∧ (∀ b o, gfieldAddr gp 123 (.ptr b o) 1 = some (.ptr b (o + 1))) ∧
    (∀ es i o, gfieldAddr gp 125 (.d (.vptr es i o)) 0 = some (.d (.vptr es i (o + 0)))) ∧ (∀ b o, gfieldAddr gp 125 (.ptr b o) 0 = some (.ptr b (o + 0))) ∧
    (∀ es i o, gfieldAddr gp 125 (.d (.vptr es i o)) 1 = some (.d (.vptr es i (o + 2)))) ∧ (∀ b o, gfieldAddr gp 125 (.ptr b o) 1 = some (.ptr b (o + 2))) ∧
    (∀ es i o, gfieldAddr gp 142 (.d (.vptr es i o)) 0 = some (.d (.vptr es i (o + 0)))) ∧ (∀ b o, gfieldAddr gp 142 (.ptr b o) 0 = some (.ptr b (o + 0))) ∧
    (∀ es i o, gfieldAddr gp 142 (.d (.vptr es i o)) 1 = some (.d (.vptr es i (o + 1)))) ∧ (∀ b o, gfieldAddr gp 142 (.ptr b o) 1 = some (.ptr b (o + 1))) ∧
    (∀ es i o, gfieldAddr gp 147 (.d (.vptr es i o)) 0 = some (.d (.vptr es i (o + 0)))) ∧ (∀ b o, gfieldAddr gp 147 (.ptr b o) 0 = some (.ptr b (o + 0))) ∧
    (∀ es i o, gfieldAddr gp 147 (.d (.vptr es i o)) 1 = some (.d (.vptr es i (o + 2)))) ∧ (∀ b o, gfieldAddr gp 147 (.ptr b o) 1 = some (.ptr b (o + 2))) ∧
    (∀ es i o, gfieldAddr gp 147 (.d (.vptr es i o)) 2 = some (.d (.vptr es i (o + 3)))) ∧ (∀ b o, gfieldAddr gp 147 (.ptr b o) 2 = some (.ptr b (o + 3))) ∧
    (∀ es i o, gfieldAddr gp 159 (.d (.vptr es i o)) 0 = some (.d (.vptr es i (o + 0)))) ∧ (∀ b o, gfieldAddr gp 159 (.ptr b o) 0 = some (.ptr b (o + 0))) ∧
    (∀ es i o, gfieldAddr gp 159 (.d (.vptr es i o)) 1 = some (.d (.vptr es i (o + 1)))) ∧ (∀ b o, gfieldAddr gp 159 (.ptr b o) 1 = some (.ptr b (o + 1))) ∧
    (∀ es i o, gfieldAddr gp 179 (.d (.vptr es i o)) 0 = some (.d (.vptr es i (o + 0)))) ∧ (∀ b o, gfieldAddr gp 179 (.ptr b o) 0 = some (.ptr b (o + 0))) ∧
    (∀ es i o, gfieldAddr gp 179 (.d (.vptr es i o)) 1 = some (.d (.vptr es i (o + 2)))) ∧ (∀ b o, gfieldAddr gp 179 (.ptr b o) 1 = some (.ptr b (o + 2))) ∧
    (∀ es i o, gfieldAddr gp 179 (.d (.vptr es i o)) 2 = some (.d (.vptr es i (o + 3)))) ∧ (∀ b o, gfieldAddr gp 179 (.ptr b o) 2 = some (.ptr b (o + 3))) ∧
    (∀ es i o, gfieldAddr gp 195 (.d (.vptr es i o)) 0 = some (.d (.vptr es i (o + 0)))) ∧ (∀ b o, gfieldAddr gp 195 (.ptr b o) 0 = some (.ptr b (o + 0))) ∧
    (∀ es i o, gfieldAddr gp 195 (.d (.vptr es i o)) 1 = some (.d (.vptr es i (o + 1)))) ∧ (∀ b o, gfieldAddr gp 195 (.ptr b o) 1 = some (.ptr b (o + 1))) ∧
    (∀ es i o, gfieldAddr gp 195 (.d (.vptr es i o)) 2 = some (.d (.vptr es i (o + 2)))) ∧ (∀ b o, gfieldAddr gp 195 (.ptr b o) 2 = some (.ptr b (o + 2))) ∧
    (∀ es i o, gfieldAddr gp 202 (.d (.vptr es i o)) 0 = some (.d (.vptr es i (o + 0)))) ∧ (∀ b o, gfieldAddr gp 202 (.ptr b o) 0 = some (.ptr b (o + 0))) :=
  ⟨fun _ _ _ => rfl, fun _ _ => rfl, fun _ _ _ => rfl, fun _ _ => rfl, fun _ _ _ => rfl, fun _ _ => rfl, fun _ _ _ => rfl, fun _ _ => rfl, fun _ _ _ => rfl, fun _ _ => rfl, fun _ _ _ => rfl, fun _ _ => rfl, fun _ _ _ => rfl, fun _ _ => rfl, fun _ _ _ => rfl, fun _ _ => rfl, fun _ _ _ => rfl, fun _ _ => rfl, fun _ _ _ => rfl, fun _ _ => rfl, fun _ _ _ => rfl, fun _ _ => rfl, fun _ _ _ => rfl, fun _ _ => rfl, fun _ _ _ => rfl, fun _ _ => rfl, fun _ _ _ => rfl, fun _ _ => rfl, fun _ _ _ => rfl, fun _ _ => rfl, fun _ _ _ => rfl, fun _ _ => rfl, fun _ _ _ => rfl, fun _ _ => rfl, fun _ _ _ => rfl, fun _ _ => rfl, fun _ _ _ => rfl, fun _ _ => rfl, fun _ _ _ => rfl, fun _ _ => rfl, fun _ _ _ => rfl, fun _ _ => rfl, fun _ _ _ => rfl, fun _ _ => rfl, fun _ _ _ => rfl, fun _ _ => rfl, fun _ _ _ => rfl, fun _ _ => rfl, fun _ _ _ => rfl, fun _ _ => rfl, fun _ _ _ => rfl, fun _ _ => rfl, fun _ _ _ => rfl, fun _ _ => rfl, fun _ _ _ => rfl, fun _ _ => rfl, fun _ _ _ => rfl, fun _ _ => rfl, fun _ _ _ => rfl, fun _ _ => rfl, fun _ _ _ => rfl, fun _ _ => rfl, fun _ _ _ => rfl, fun _ _ => rfl, fun _ _ _ => rfl, fun _ _ => rfl, fun _ _ _ => rfl, fun _ _ => rfl, fun _ _ _ => rfl, fun _ _ => rfl, fun _ _ _ => rfl, fun _ _ => rfl, fun _ _ _ => rfl, fun _ _ => rfl, fun _ _ _ => rfl, fun _ _ => rfl, fun _ _ _ => rfl, fun _ _ => rfl, fun _ _ _ => rfl, fun _ _ => rfl, fun _ _ _ => rfl, fun _ _ => rfl, fun _ _ _ => rfl, fun _ _ => rfl, fun _ _ _ => rfl, fun _ _ => rfl, fun _ _ _ => rfl, fun _ _ => rfl, fun _ _ _ => rfl, fun _ _ => rfl⟩
theorem kLen : (∀ es, glen gp 22 (.d (.list es)) = some (gi es.length)) ∧ (∀ es, glen gp 22 (.xl es) = some (gi es.length)) ∧ (∀ es u, glen gp 22 (.tl es u) = some (gi es.length)) ∧ glen gp 22 (.d (.lit nilS)) = some (gi 0) ∧
    (∀ es, glen gp 23 (.d (.list es)) = some (gi es.length)) ∧ (∀ es, glen gp 23 (.xl es) = some (gi es.length)) ∧ (∀ es u, glen gp 23 (.tl es u) = some (gi es.length)) ∧ glen gp 23 (.d (.lit nilS)) = some (gi 0) ∧
    (∀ es, glen gp 24 (.d (.list es)) = some (gi es.length)) ∧ (∀ es, glen gp 24 (.xl es) = some (gi es.length)) ∧ (∀ es u, glen gp 24 (.tl es u) = some (gi es.length)) ∧ glen gp 24 (.d (.lit nilS)) = some (gi 0) ∧
    (∀ es, glen gp 29 (.d (.list es)) = some (gi es.length)) ∧ (∀ es, glen gp 29 (.xl es) = some (gi es.length)) ∧ (∀ es u, glen gp 29 (.tl es u) = some (gi es.length)) ∧ glen gp 29 (.d (.lit nilS)) = some (gi 0) ∧
    (∀ es, glen gp 35 (.d (.list es)) = some (gi es.length)) ∧ (∀ es, glen gp 35 (.xl es) = some (gi es.length)) ∧ (∀ es u, glen gp 35 (.tl es u) = some (gi es.length)) ∧ glen gp 35 (.d (.lit nilS)) = some (gi 0) ∧
    (∀ es, glen gp 44 (.d (.list es)) = some (gi es.length)) ∧ (∀ es, glen gp 44 (.xl es) = some (gi es.length)) ∧ (∀ es u, glen gp 44 (.tl es u) = some (gi es.length)) ∧ glen gp 44 (.d (.lit nilS)) = some (gi 0) ∧
    (∀ es, glen gp 48 (.d (.list es)) = some (gi es.length)) ∧ (∀ es, glen gp 48 (.xl es) = some (gi es.length)) ∧ (∀ es u, glen gp 48 (.tl es u) = some (gi es.length)) ∧ glen gp 48 (.d (.lit nilS)) = some (gi 0) ∧
    (∀ es, glen gp 49 (.d (.list es)) = some (gi es.length)) ∧ (∀ es, glen gp 49 (.xl es) = some (gi es.length)) ∧ (∀ es u, glen gp 49 (.tl es u) = some (gi es.length)) ∧ glen gp 49 (.d (.lit nilS)) = some (gi 0) ∧
    (∀ es, glen gp 50 (.d (.list es)) = some (gi es.length)) ∧ (∀ es, glen gp 50 (.xl es) = some (gi es.length)) ∧ (∀ es u, glen gp 50 (.tl es u) = some (gi es.length)) ∧ glen gp 50 (.d (.lit nilS)) = some (gi 0) ∧
    (∀ es, glen gp 56 (.d (.list es)) = some (gi es.length)) ∧ (∀ es, glen gp 56 (.xl es) = some (gi es.length)) ∧ (∀ es u, glen gp 56 (.tl es u) = some (gi es.length)) ∧ glen gp 56 (.d (.lit nilS)) = some (gi 0) ∧
    (∀ es, glen gp 88 (.d (.list es)) = some (gi es.length)) ∧ (∀ es, glen gp 88 (.xl es) = some (gi es.length)) ∧ (∀ es u, glen gp 88 (.tl es u) = some (gi es.length)) ∧ glen gp 88 (.d (.lit nilS)) = some (gi 0) ∧
    (∀ es, glen gp 140 (.d (.list es)) = some (gi es.length)) ∧ (∀ es, glen gp 140 (.xl es) = some (gi es.length)) ∧ (∀ es u, glen gp 140 (.tl es u) = some (gi es.length)) ∧ glen gp 140 (.d (.lit nilS)) = some (gi 0) ∧
    (∀ es, glen gp 177 (.d (.list es)) = some (gi es.length)) ∧ (∀ es, glen gp 177 (.xl es) = some (gi es.length)) ∧ (∀ es u, glen gp 177 (.tl es u) = some (gi es.length)) ∧ glen gp 177 (.d (.lit nilS)) = some (gi 0) ∧
    (∀ es, glen gp 226 (.d (.list es)) = some (gi es.length)) ∧ (∀ es, glen gp 226 (.xl es) = some (gi es.length)) ∧ (∀ es u, glen gp 226 (.tl es u) = some (gi es.length)) ∧ glen gp 226 (.d (.lit nilS)) = some (gi 0) ∧
    (∀ es, glen gp 227 (.d (.list es)) = some (gi es.length)) ∧ (∀ es, glen gp 227 (.xl es) = some (gi es.length)) ∧ (∀ es u, glen gp 227 (.tl es u) = some (gi es.length)) ∧ glen gp 227 (.d (.lit nilS)) = some (gi 0) :=
  ⟨fun _ => rfl, fun _ => rfl, fun _ _ => rfl, rfl, fun _ => rfl, fun _ => rfl, fun _ _ => rfl, rfl, fun _ => rfl, fun _ => rfl, fun _ _ => rfl, rfl, fun _ => rfl, fun _ => rfl, fun _ _ => rfl, rfl, fun _ => rfl, fun _ => rfl, fun _ _ => rfl, rfl, fun _ => rfl, fun _ => rfl, fun _ _ => rfl, rfl, fun _ => rfl, fun _ => rfl, fun _ _ => rfl, rfl, fun _ => rfl, fun _ => rfl, fun _ _ => rfl, rfl, fun _ => rfl, fun _ => rfl, fun _ _ => rfl, rfl, fun _ => rfl, fun _ => rfl, fun _ _ => rfl, rfl, fun _ => rfl, fun _ => rfl, fun _ _ => rfl, rfl, fun _ => rfl, fun _ => rfl, fun _ _ => rfl, rfl, fun _ => rfl, fun _ => rfl, fun _ _ => rfl, rfl, fun _ => rfl, fun _ => rfl, fun _ _ => rfl, rfl, fun _ => rfl, fun _ => rfl, fun _ _ => rfl, rfl⟩
theorem kMode : gp.mode 0 = 0 ∧ gp.mode 1 = 0 ∧ gp.mode 2 = 0 ∧ gp.mode 3 = 0 ∧ gp.mode 4 = 0 ∧ gp.mode 5 = 0 ∧ gp.mode 6 = 0 ∧ gp.mode 7 = 0 ∧ gp.mode 8 = 0 ∧ gp.mode 9 = 0 ∧ gp.mode 10 = 0 ∧ gp.mode 11 = 0 ∧ gp.mode 12 = 0 ∧ gp.mode 13 = 0 ∧ gp.mode 14 = 0 ∧ gp.mode 15 = 0 ∧ gp.mode 16 = 0 ∧ gp.mode 17 = 0 ∧ gp.mode 18 = 0 ∧ gp.mode 19 = 0 ∧ gp.mode 20 = 0 ∧ gp.mode 21 = 0 ∧ gp.mode 22 = 0 ∧ gp.mode 23 = 0 ∧ gp.mode 24 = 0 ∧ gp.mode 25 = 0 ∧ gp.mode 26 = 0 ∧ gp.mode 27 = 0 ∧ gp.mode 28 = 0 ∧ gp.mode 29 = 0 ∧ gp.mode 30 = 0 ∧ gp.mode 31 = 0 ∧ gp.mode 32 = 0 ∧ gp.mode 33 = 0 ∧ gp.mode 34 = 0 ∧ gp.mode 35 = 0 ∧ gp.mode 36 = 0 ∧ gp.mode 37 = 0 ∧ gp.mode 38 = 0 ∧ gp.mode 39 = 0 ∧ gp.mode 40 = 0 ∧ gp.mode 41 = 0 ∧ gp.mode 42 = 0 ∧ gp.mode 43 = 0 ∧ gp.mode 44 = 0 ∧ gp.mode 45 = 0 ∧ gp.mode 46 = 0 ∧ gp.mode 47 = 0 ∧ gp.mode 48 = 0 ∧ gp.mode 49 = 0 ∧ gp.mode 50 = 0 ∧ gp.mode 51 = 0 ∧ gp.mode 52 = 0 ∧ gp.mode 53 = 0 ∧ gp.mode 54 = 0 ∧ gp.mode 55 = 0 ∧ gp.mode 56 = 0 ∧ gp.mode 57 = 0 ∧ gp.mode 58 = 0 ∧ gp.mode 59 = 0 ∧ gp.mode 60 = 0 ∧ gp.mode 61 = 0 ∧ gp.mode 62 = 0 ∧ gp.mode 63 = 0 ∧ gp.mode 64 = 0 ∧ gp.mode 65 = 0 ∧ gp.mode 66 = 2 ∧ gp.mode 67 = 2 ∧ gp.mode 68 = 0 ∧ gp.mode 69 = 0 ∧ gp.mode 70 = 2 ∧ gp.mode 71 = 0 ∧ gp.mode 72 = 0 ∧ gp.mode 73 = 0 ∧ gp.mode 74 = 0 ∧ gp.mode 75 = 0 ∧ gp.mode 76 = 2 ∧ gp.mode 77 = 2 ∧ gp.mode 78 = 0 ∧ gp.mode 79 = 0 ∧ gp.mode 80 = 0 ∧ gp.mode 81 = 0 ∧ gp.mode 82 = 0 ∧ gp.mode 83 = 2 ∧ gp.mode 84 = 2 ∧ gp.mode 85 = 0 ∧ gp.mode 86 = 0 ∧ gp.mode 87 = 0 ∧ gp.mode 88 = 0 ∧ gp.mode 89 = 0 ∧ gp.mode 90 = 0 ∧ gp.mode 91 = 0 ∧ gp.mode 92 = 0 ∧ gp.mode 93 = 0 ∧ gp.mode 94 = 0 ∧ gp.mode 95 = 2 ∧ gp.mode 96 = 0 ∧ gp.mode 97 = 0 ∧ gp.mode 98 = 0 ∧ gp.mode 99 = 2 ∧ gp.mode 100 = 0 ∧ gp.mode 101 = 0 ∧ gp.mode 102 = 0 ∧ gp.mode 103 = 2 ∧ gp.mode 104 = 2 ∧ gp.mode 105 = 0 ∧ gp.mode 106 = 0 ∧ gp.mode 107 = 0 ∧ gp.mode 108 = 0 ∧ gp.mode 109 = 2 ∧ gp.mode 110 = 0 ∧ gp.mode 111 = 2 ∧ gp.mode 112 = 2 ∧ gp.mode 113 = 0 ∧ gp.mode 114 = 2 ∧ gp.mode 115 = 2 ∧ gp.mode 116 = 0 ∧ gp.mode 117 = 2 ∧ gp.mode 118 = 0 ∧ gp.mode 119 = 2 ∧ gp.mode 120 = 2 ∧ gp.mode 121 = 0 ∧ gp.mode 122 = 2 ∧ gp.mode 123 = 2 ∧ gp.mode 124 = 0 ∧ gp.mode 125 = 0 ∧ gp.mode 126 = 0 ∧ gp.mode 127 = 0 ∧ gp.mode 128 = 0 ∧ gp.mode 129 = 2 ∧ gp.mode 130 = 2 ∧ gp.mode 131 = 0 ∧ gp.mode 132 = 1 ∧ gp.mode 133 = 1 ∧ gp.mode 134 = 2 ∧ gp.mode 135 = 0 ∧ gp.mode 136 = 0 ∧ gp.mode 137 = 0 ∧ gp.mode 138 = 2 ∧ gp.mode 139 = 2 ∧ gp.mode 140 = 2 ∧ gp.mode 141 = 2 ∧ gp.mode 142 = 2 ∧ gp.mode 143 = 0 ∧ gp.mode 144 = 0 ∧ gp.mode 145 = 0 ∧ gp.mode 146 = 0 ∧ gp.mode 147 = 0 ∧ gp.mode 148 = 0 ∧ gp.mode 149 = 0 ∧ gp.mode 150 = 0 ∧ gp.mode 151 = 0 ∧ gp.mode 152 = 0 ∧ gp.mode 153 = 0 ∧ gp.mode 154 = 0 ∧ gp.mode 155 = 0 ∧ gp.mode 156 = 0 ∧ gp.mode 157 = 2 ∧ gp.mode 158 = 0 ∧ gp.mode 159 = 1 ∧ gp.mode 160 = 2 ∧ gp.mode 161 = 2 ∧ gp.mode 162 = 2 ∧ gp.mode 163 = 2 ∧ gp.mode 164 = 2 ∧ gp.mode 165 = 0 ∧ gp.mode 166 = 0 ∧ gp.mode 167 = 0 ∧ gp.mode 168 = 0 ∧ gp.mode 169 = 2 ∧ gp.mode 170 = 0 ∧ gp.mode 171 = 0 ∧ gp.mode 172 = 0 ∧ gp.mode 173 = 0 ∧ gp.mode 174 = 2 ∧ gp.mode 175 = 2 ∧ gp.mode 176 = 0 ∧ gp.mode 177 = 2 ∧ gp.mode 178 = 0 ∧ gp.mode 179 = 2 ∧ gp.mode 180 = 2 ∧ gp.mode 181 = 2 ∧ gp.mode 182 = 0 ∧ gp.mode 183 = 0 ∧ gp.mode 184 = 0 ∧ gp.mode 185 = 0 ∧ gp.mode 186 = 0 ∧ gp.mode 187 = 0 ∧ gp.mode 188 = 0 ∧ gp.mode 189 = 0 ∧ gp.mode 190 = 0 ∧ gp.mode 191 = 1 ∧ gp.mode 192 = 2 ∧ gp.mode 193 = 0 ∧ gp.mode 194 = 0 ∧ gp.mode 195 = 0 ∧ gp.mode 196 = 2 ∧ gp.mode 197 = 0 ∧ gp.mode 198 = 0 ∧ gp.mode 199 = 0 ∧ gp.mode 200 = 0 ∧ gp.mode 201 = 0 ∧ gp.mode 202 = 0 ∧ gp.mode 203 = 0 ∧ gp.mode 204 = 0 ∧ gp.mode 205 = 0 ∧ gp.mode 206 = 0 ∧ gp.mode 207 = 0 ∧ gp.mode 208 = 0 ∧ gp.mode 209 = 0 ∧ gp.mode 210 = 0 ∧ gp.mode 211 = 0 :=
  ⟨rfl, rfl, rfl, rfl, rfl, rfl, rfl, rfl, rfl, rfl, rfl, rfl, rfl, rfl, rfl, rfl, rfl, rfl, rfl, rfl, rfl, rfl, rfl, rfl, rfl, rfl, rfl, rfl, rfl, rfl, rfl, rfl, rfl, rfl, rfl, rfl, rfl, rfl, rfl, rfl, rfl, rfl, rfl, rfl, rfl, rfl, rfl, rfl, rfl, rfl, rfl, rfl, rfl, rfl, rfl, rfl, rfl, rfl, rfl, rfl, rfl, rfl, rfl, rfl, rfl, rfl, rfl, rfl, rfl, rfl, rfl, rfl, rfl, rfl, rfl, rfl, rfl, rfl, rfl, rfl, rfl, rfl, rfl, rfl, rfl, rfl, rfl, rfl, rfl, rfl, rfl, rfl, rfl, rfl, rfl, rfl, rfl, rfl, rfl, rfl, rfl, rfl, rfl, rfl, rfl, rfl, rfl, rfl, rfl, rfl, rfl, rfl, rfl, rfl, rfl, rfl, rfl, rfl, rfl, rfl, rfl, rfl, rfl, rfl, rfl, rfl, rfl, rfl, rfl, rfl, rfl, rfl, rfl, rfl, rfl, rfl, rfl, rfl, rfl, rfl, rfl, rfl, rfl, rfl, rfl, rfl, rfl, rfl, rfl, rfl, rfl, rfl, rfl, rfl, rfl, rfl, rfl, rfl, rfl, rfl, rfl, rfl, rfl, rfl, rfl, rfl, rfl, rfl, rfl, rfl, rfl, rfl, rfl, rfl, rfl, rfl, rfl, rfl, rfl, rfl, rfl, rfl, rfl, rfl, rfl, rfl, rfl, rfl, rfl, rfl, rfl, rfl, rfl, rfl, rfl, rfl, rfl, rfl, rfl, rfl, rfl, rfl, rfl, rfl, rfl, rfl, rfl, rfl, rfl, rfl, rfl, rfl⟩
end Go.Proofs.YthnnjopilpgakaaGreat
