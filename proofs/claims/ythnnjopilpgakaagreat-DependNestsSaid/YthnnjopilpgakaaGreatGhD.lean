/-
  THE GHOST MACHINE: what an argument reads as.
-/
import Derived.Test.YthnnjopilpgakaaGreatGhC
import Derived.ChangeArms
import Derived.ChangeSlices
set_option linter.unusedVariables false
set_option linter.unusedSimpArgs false
namespace Go.Gh
open Go.RowKit

inductive Shp where
  | int
  | bool
  | row (agg : Bool) (l : List Shp)
mutual
def Is : Shp → DV → Prop
  | .int, x => ∃ n : Int, x = .lit (.int .i64 n)
  | .bool, x => ∃ b : Bool, x = .lit (.bool b)
  | .row a l, x => ∃ es : List DV, x = .list es ∧ ∀ e ∈ es, IsL l e.cells ∧ (a = true → ∃ cs, e = .agg cs) ∧ (a = false → e.cells = [e])
def IsL : List Shp → List DV → Prop
  | [], xs => xs = []
  | s :: r, xs => ∃ y ys, xs = y :: ys ∧ Is s y ∧ IsL r ys
end
theorem IsL.app : ∀ {l m : List Shp} {xs ys : List DV}, IsL l xs → IsL m ys → IsL (l ++ m) (xs ++ ys)
  | [], m, xs, ys, h, k => by simp only [IsL] at h; subst h; exact k
  | s :: r, m, xs, ys, h, k => by
    simp only [IsL] at h
    obtain ⟨y, zs, rfl, h1, h2⟩ := h
    simp only [List.cons_append, IsL]
    exact ⟨y, _, rfl, h1, IsL.app h2 k⟩
theorem IsL.len : ∀ {l : List Shp} {xs : List DV}, IsL l xs → xs.length = l.length
  | [], xs, h => by simp only [IsL] at h; subst h; rfl
  | s :: r, xs, h => by
    simp only [IsL] at h
    obtain ⟨y, zs, rfl, h1, h2⟩ := h
    simp [IsL.len h2]
theorem Is.ok : ∀ {s : Shp} {x : DV}, Is s x → DVcellOk x = true ∧ x.cells = [x]
  | .int, x, h => by simp only [Is] at h; obtain ⟨n, rfl⟩ := h; exact ⟨rfl, rfl⟩
  | .bool, x, h => by simp only [Is] at h; obtain ⟨n, rfl⟩ := h; exact ⟨rfl, rfl⟩
  | .row a l, x, h => by simp only [Is] at h; obtain ⟨es, rfl, _⟩ := h; exact ⟨rfl, rfl⟩
theorem IsL.ok : ∀ {l : List Shp} {xs : List DV}, IsL l xs → ∀ x ∈ xs, DVcellOk x = true ∧ x.cells = [x]
  | [], xs, h => by simp only [IsL] at h; subst h; simp
  | s :: r, xs, h => by
    simp only [IsL] at h
    obtain ⟨y, zs, rfl, h1, h2⟩ := h
    intro x hx
    rcases List.mem_cons.1 hx with rfl | hx
    · exact h1.ok
    · exact IsL.ok h2 x hx

def shpF (P : Program) (f : TypeId → Option (List Shp)) : Nat → List Field → Option (List Shp)
  | _, [] => some []
  | off, x :: r => if x.offset = off then match f x.type with
    | some l => if P.cellsOf x.type = l.length then match shpF P f (off + l.length) r with | some m => some (l ++ m) | none => none else none
    | none => none else none
def isS : Option TypeDesc → Bool
  | some (.struct _) => true
  | _ => false
def shpOf (P : Program) : Nat → TypeId → Option (List Shp)
  | 0, _ => none
  | n + 1, t => match P.underlying t with
    | some .bool => some [.bool]
    | some (.int .i64) => some [.int]
    | some (.slice e) => match shpOf P n e with
      | some l => if P.cellsOf e = l.length ∧ 0 < l.length ∧ (isS (P.underlying e) = true ∨ l.length = 1) then some [.row (isS (P.underlying e)) l] else none
      | none => none
    | some (.struct fs) => match shpF P (shpOf P n) 0 fs.toList with
      | some l => if P.cellsOf t = l.length then some l else none
      | none => none
    | _ => none

/-- All cells of a world. -/
def immW (w : World) (a : Addr) : Option Value := match a.spot with | none => w.cell? a | some _ => none

section
variable {H : Type} {enc : TypeId × Value → H} {P : Program} {w : World} {base : Nat} {spare : Nat → Bool} {held : Bool}
def Opens (w : World) (l : List Shp) (cs : List Value) : Prop := ∃ xs : List DV, IsL l xs ∧ xs.length = cs.length ∧ ∀ (k : Nat) y v, xs[k]? = some y → cs[k]? = some v → DR (immW w) y v
theorem opens_one {s : Shp} {y : DV} {v : Value} (h : Is s y) (hd : DR (immW w) y v) : Opens w [s] [v] := by
  have hl : IsL [s] [y] := by simp only [IsL]; exact ⟨y, [], rfl, h, rfl⟩
  refine ⟨[y], hl, rfl, fun k y' v' h1 h2 => ?_⟩
  cases k with
  | zero => simp only [List.getElem?_cons_zero, Option.some.injEq] at h1 h2; subst h1; subst h2; exact hd
  | succ k => simp at h1

theorem open_fields {f : TypeId → Option (List Shp)} {cs : List Value} (hf : ∀ t l zs, f t = some l → (∃ n y, DataW.trod enc P w base spare held n t zs = some y) → Opens w l zs) :
    ∀ (fs : List Field) (off : Nat) (l : List Shp), shpF P f off fs = some l → (∀ x ∈ fs, ∃ n y, DataW.trod enc P w base spare held n x.type ((cs.drop x.offset).take (P.cellsOf x.type)) = some y) → off + l.length ≤ cs.length →
    ∃ xs : List DV, IsL l xs ∧ ∀ (k : Nat) y v, xs[k]? = some y → cs[off + k]? = some v → DR (immW w) y v
  | [], off, l, h, _, _ => by
    simp only [shpF, Option.some.injEq] at h
    subst h
    exact ⟨[], rfl, fun k y v h => by simp at h⟩
  | x :: r, off, l, h, hx, hl => by
    simp only [shpF] at h
    split at h
    · rename_i ho
      split at h
      · rename_i l1 h1
        split at h
        · rename_i hc
          split at h
          · rename_i m hm
            simp only [Option.some.injEq] at h
            subst h
            simp only [List.length_append] at hl
            obtain ⟨xs, a1, a2, a3⟩ := hf _ _ _ h1 (hx x (by simp))
            obtain ⟨ys, b1, b2⟩ := open_fields hf r _ _ hm (fun y hy => hx y (by simp [hy])) (by omega)
            have hlen := a1.len
            refine ⟨xs ++ ys, a1.app b1, fun k y v h1 h2 => ?_⟩
            rw [List.getElem?_append] at h1
            split at h1
            · rename_i hk
              refine a3 k y v h1 ?_
              rw [List.getElem?_take, if_pos (by omega), List.getElem?_drop, ho, h2]
            · rename_i hk
              refine b2 (k - xs.length) y v h1 ?_
              rw [← h2]; congr 1; omega
          · cases h
        · cases h
      · cases h
    · cases h

theorem open_sh : ∀ (m : Nat) (t : TypeId) (l : List Shp) (cs : List Value), shpOf P m t = some l → (∃ n y, DataW.trod enc P w base spare held n t cs = some y) → Opens w l cs
  | 0, t, l, cs, h, _ => by cases h
  | m + 1, t, l, cs, h, ⟨fuel, y, hy⟩ => by
    have ih := open_sh m
    simp only [shpOf] at h
    split at h
    · rename_i ht
      cases h
      obtain ⟨b, rfl, _⟩ := DataW.trod_bool ht hy
      exact opens_one ⟨b, rfl⟩ (.lit _ rfl)
    · rename_i ht
      cases h
      obtain ⟨n, rfl, _⟩ := DataW.trod_int ht hy
      exact opens_one ⟨n, rfl⟩ (.lit _ rfl)
    · rename_i e ht
      split at h
      · rename_i l1 h1
        split at h
        · rename_i hc
          cases h
          obtain ⟨c1, c2, c3⟩ := hc
          rcases DataW.trod_slice ht hy with ⟨rfl, _⟩ | ⟨a, len, cap, elems, rest, n, _, rfl, _, hb, hle, hm, hlen, hel, _, _⟩
          · exact opens_one (y := .list []) ⟨[], rfl, by simp⟩ (.nil none 0)
          · have hsp : 0 < len → a.spot = none := fun hi => by
              have q := hel 0 hi
              rw [List.getElem?_eq_getElem (by omega), Option.bind_eq_some_iff] at q
              obtain ⟨zs, z1, z2⟩ := q
              obtain ⟨_, s1, s2⟩ := World.cells?_some z1
              have q := s2 0 (by omega)
              rw [Nat.zero_mul, List.getElem?_eq_getElem (by omega)] at q
              have e0 : (a.add 0).add 0 = a := by simp [Addr.add]
              rw [e0] at q
              unfold World.cell? at q
              split at q
              · split at q
                · cases q
                · cases hs : a.spot with
                  | none => rfl
                  | some z => simp_all
              · cases q
            have each : ∀ i, ∃ x : DV, i < len → (IsL l1 x.cells ∧ (isS (P.underlying e) = true → ∃ cs, x = .agg cs) ∧ (isS (P.underlying e) = false → x.cells = [x])) ∧ a.spot = none ∧
                ∀ k z, x.cells[k]? = some z → ∃ v, w.cell? ⟨a.block, a.off + (i * l1.length + k), none⟩ = some v ∧ DR (immW w) z v := fun i => by
              by_cases hi : i < len
              · have q := hel i hi
                rw [List.getElem?_eq_getElem (by omega), Option.bind_eq_some_iff] at q
                obtain ⟨zs, z1, z2⟩ := q
                obtain ⟨xs, x1, x2, x3⟩ := ih e l1 zs h1 ⟨_, _, z2⟩
                obtain ⟨_, s1, s2⟩ := World.cells?_some z1
                have hxl := x1.len
                have hsp := hsp (by omega)
                have fit : ∀ k z, xs[k]? = some z → ∃ v, w.cell? ⟨a.block, a.off + (i * l1.length + k), none⟩ = some v ∧ DR (immW w) z v := fun k z hz => by
                  have hk := (List.getElem?_eq_some_iff.1 hz).1
                  have q := s2 k (by omega)
                  rw [add_of hsp, add_none, c1] at q
                  rw [List.getElem?_eq_getElem (by omega)] at q
                  refine ⟨_, ?_, x3 k z _ hz (List.getElem?_eq_getElem (by omega))⟩
                  rw [← Nat.add_assoc]; exact q
                cases hS : isS (P.underlying e) with
                | true => exact ⟨.agg xs, fun _ => ⟨⟨x1, fun _ => ⟨xs, rfl⟩, fun h => by cases h⟩, hsp, fit⟩⟩
                | false =>
                  rw [hS] at c3
                  have c4 : l1.length = 1 := by simpa using c3
                  obtain ⟨u, rfl⟩ : ∃ u, xs = [u] := List.length_eq_one_iff.1 (by omega)
                  have hu := (x1.ok u (by simp)).2
                  refine ⟨u, fun _ => ⟨⟨?_, ?_, ?_⟩, hsp, ?_⟩⟩
                  · rw [hu]; exact x1
                  · intro h; cases h
                  · intro _; exact hu
                  · rw [hu]; exact fit
              · exact ⟨.list [], fun h => absurd h hi⟩
            obtain ⟨f, hf⟩ := Classical.axiomOfChoice each
            have hz : ∀ z ∈ (List.range len).map f, z.cells.length = l1.length := fun z hz => by
              simp only [List.mem_map, List.mem_range] at hz
              obtain ⟨i, hi, rfl⟩ := hz
              exact (hf i hi).1.1.len
            have hes : ((List.range len).map f).length = len := by simp
            have hs : Is (.row (isS (P.underlying e)) l1) (.list ((List.range len).map f)) := by
              simp only [Is]
              refine ⟨_, rfl, fun z hz => ?_⟩
              simp only [List.mem_map, List.mem_range] at hz
              obtain ⟨i, hi, rfl⟩ := hz
              exact (hf i hi).1
            refine opens_one hs ?_
            rcases Nat.eq_zero_or_pos len with rfl | hpos
            · exact .nil (some a) cap
            · have key : ∀ k (h : k < (flat ((List.range len).map f)).length), ∃ v, w.cell? ⟨a.block, a.off + k, none⟩ = some v ∧ DR (immW w) (flat ((List.range len).map f))[k] v := fun k hk => by
                have hk2 := hk
                rw [flat_len hz, hes] at hk2
                have hi : k / l1.length < len := Nat.div_lt_of_lt_mul (by rw [Nat.mul_comm]; exact hk2)
                have hj := Nat.mod_lt k c2
                have hkk : k / l1.length * l1.length + k % l1.length = k := by rw [Nat.mul_comm]; exact Nat.div_add_mod k _
                have q := flat_at hz (i := k / l1.length) (e := f (k / l1.length)) (by simp [hi]) hj
                rw [hkk, List.getElem?_eq_getElem hk] at q
                obtain ⟨v, v1, v2⟩ := (hf _ hi).2.2 (k % l1.length) _ q.symm
                rw [hkk] at v1
                exact ⟨v, v1, v2⟩
              have := DR.list (imm := immW w) ((List.range len).map f) l1.length a cap (fun k => (w.cell? ⟨a.block, a.off + k, none⟩).getD (.bool false)) (by rw [hes]; exact hle) hz
                (fun k hk => by obtain ⟨v, v1, _⟩ := key k hk; show w.cell? _ = _; rw [v1]; rfl) (fun k hk => by obtain ⟨v, v1, v2⟩ := key k hk; rw [v1]; exact v2) (hsp hpos) (fun x hx => by
                  simp only [flat, List.mem_flatMap, List.mem_map, List.mem_range] at hx
                  obtain ⟨z, ⟨i, hi, rfl⟩, hx⟩ := hx
                  exact ((hf i hi).1.1.ok x hx).1)
              rw [hes] at this
              exact this
        · cases h
      · cases h
    · rename_i fs ht
      split at h
      · rename_i l1 h1
        split at h
        · rename_i hc
          cases h
          obtain ⟨xs, n, _, _, hcl, hxl, hel⟩ := DataW.trod_struct ht hy
          obtain ⟨ys, y1, y2⟩ := open_fields (cs := cs) (fun t l zs h1 h2 => ih t l zs h1 h2) fs.toList 0 _ h1 (fun x hx => by
            obtain ⟨i, hi⟩ := List.getElem?_of_mem hx
            have := hel i x (by simpa using hi)
            have hi2 := (List.getElem?_eq_some_iff.1 hi).1
            rw [List.getElem?_eq_getElem (by simp at hi2; omega)] at this
            exact ⟨_, _, this⟩) (by omega)
          have := y1.len
          exact ⟨ys, y1, by omega, fun k y v h1 h2 => y2 k y v h1 (by rw [Nat.zero_add]; exact h2)⟩
        · cases h
      · cases h
    · cases h
end
end Go.Gh
