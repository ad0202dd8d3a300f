/-
  THE GHOST MACHINE: rows that are made or written out, copy, accumulators.
-/
import Derived.Test.YthnnjopilpgakaaGreatGhA
set_option linter.unusedVariables false
set_option linter.unusedSimpArgs false
namespace Go.Gh
open Go.RowKit

theorem flatten_rep {α : Type} (l : List α) : ∀ (m k : Nat), k < m * l.length → ((List.replicate m l).flatten)[k]? = l[k % l.length]?
  | 0, k, h => by simp at h
  | m + 1, k, h => by
    rw [Nat.succ_mul] at h
    rw [List.replicate_succ, List.flatten_cons]
    by_cases hk : k < l.length
    · rw [List.getElem?_append_left hk, Nat.mod_eq_of_lt hk]
    · rw [List.getElem?_append_right (by omega), flatten_rep l m (k - l.length) (by omega), ← Nat.mod_eq_sub_mod (by omega)]
theorem made_pw {σ : Sim} {H : List GB} {zs : List GV} {z : Array Value} (h : PW σ H zs z.toList) (m : Nat) : PW σ H (List.replicate m zs).flatten (madeCells z (m * z.size)).toList := by
  have hl : zs.length = z.size := by have := h.1; simpa using this.symm
  have hlen : ((List.replicate m zs).flatten).length = m * z.size := by simp [hl]
  refine ⟨by simp [size_madeCells, hl], fun k h1 h2 => ?_⟩
  have hk : k < m * zs.length := by rw [hlen] at h1; rw [hl]; exact h1
  have h0 : 0 < zs.length := by
    rcases Nat.eq_zero_or_pos zs.length with q | q
    · rw [q] at hk; simp at hk
    · exact q
  have e1 := flatten_rep zs m k hk
  have hm : k % zs.length < zs.length := Nat.mod_lt _ h0
  rw [List.getElem?_eq_getElem h1, List.getElem?_eq_getElem hm] at e1
  injection e1 with e1
  have e2 : (madeCells z (m * z.size)).toList[k] = z[k % z.size]'(Nat.mod_lt _ (by omega)) := by
    simp only [madeCells, Array.toList_map, List.getElem_map]
    simp
    rw [getElem!_pos]
  rw [e1, e2]
  have := h.2 (k % zs.length) hm (by simp; omega)
  simp only [hl] at this ⊢
  simpa using this

theorem makeSlice_sound {P : Program} {gp : GP} (hty : TyT P gp) {lk : Nat} {σ : Sim} {H : List GB} {w : World} (hw : WR σ H w) (hlk : lk ≤ H.length) {base hint : Nat} (hbase : lk ≤ base) {t : Nat} {x y : GV} {a b : Value} (gx : GR σ H x a) (gy : GR σ H y b) {k : CK}
    (h : (match gp.ty t, asN x, asN y with
    | some { kind := .slice e, .. }, some (.i64, n), some (.i64, m) => match gp.ty e with
      | some ti =>
        if 0 ≤ n ∧ n ≤ m ∧ m * (ti.bytes : Int) ≤ (maxBytes : Int) ∧ m ≤ (maxBytes : Int) then
          bif hint.ble 9 then
            k (.slc H.length 0 n.toNat (some m.toNat)) (H ++ [.cells ((List.replicate m.toNat (ti.zero.map fun v => GV.d (.lit v))).flatten)])
          else match H[base + (hint - 10)]? with
            | some .resv => k (.slc (base + (hint - 10)) 0 n.toNat (some m.toNat)) (H.set (base + (hint - 10)) (.cells ((List.replicate m.toNat (ti.zero.map fun v => GV.d (.lit v))).flatten)))
            | _ => false
        else false
      | none => false
    | _, _, _ => false) = true) : Runs P lk σ H w (do pure (Next.value (← Instr.makeSlice t a b))) k := by
  split at h
  · rename_i sz agg by_ zz e eq_ n m hts hN hM
    obtain ⟨d, _, hp, hk, _⟩ := (hty _ _ hts).under
    simp only [KOK] at hk
    subst hk
    split at h
    · rename_i ti hti
      split at h
      · rename_i hc
        obtain ⟨c1, c2, c3, c4⟩ := hc
        obtain ⟨i, z, hi1, hi2, hi3, hi4, hi5⟩ := (hty _ _ hti).info
        obtain ⟨z', hz1, hz2, hz3⟩ := zero_pw (hty _ _ hti) σ H
        have hzz : z' = z := by
          have := hz1 w
          simp [zeroValue, typeInfo, hi1, hi4] at this
          exact this.symm
        subst hzz
        have hsz : z'.cells.size = i.size := by omega
        rw [gx.int hN, gy.int hM]
        have hrun := run_make (P := P) w t e i z' hp hi1 hi4 .i64 .i64 n m c1 c2 (by
          rw [hi3]
          have : (ti.bytes : Int) * m = m * (ti.bytes : Int) := Int.mul_comm _ _
          simp only [maxBytes] at c3; omega) (by simp only [maxBytes] at c4; omega)
        rw [← hsz] at hrun
        have hpw := made_pw hz2 m.toNat
        simp only [Bool.cond_eq_ite] at h
        split at h
        · obtain ⟨σ', q1, q2, q3, q4⟩ := push_cells hw hlk _ (madeCells z'.cells (m.toNat * z'.cells.size)) e hpw
          refine .value hrun h q2 q1 (.slc _ _ _ _ _ _ q3 (by omega) (fun _ => by rw [q4]) fun c hc => by cases hc; rfl)
        · split at h
          · rename_i hres
            have hlt := (List.getElem?_eq_some_iff.1 hres).1
            obtain ⟨σ', q1, q2, q3, q4⟩ := make_cells (lk := lk) hw (by omega) (.inr hres) _ (madeCells z'.cells (m.toNat * z'.cells.size)) e hpw (fun j hj => List.getElem?_set_ne (Ne.symm hj)) (by simp) (List.getElem?_set_self hlt)
            refine .value hrun h q2 q1 (.slc _ _ _ _ _ _ q3 (by omega) (fun _ => by rw [q4]) fun c hc => by cases hc; rfl)
          · cases h
      · cases h
    · cases h
  · cases h

/-- The elements of a slice that is written out. -/
theorem inOrder_sound {σ : Sim} {H : List GB} {sz : Nat} : ∀ (ps : List (Nat × GV)) (n : Nat) (qs : List (Nat × Value)) (es : List DV), inOrder sz n ps = some es → ps.length = qs.length →
      (∀ k (h1 : k < ps.length) (h2 : k < qs.length), ps[k].1 = qs[k].1 ∧ GR σ H ps[k].2 qs[k].2) →
      es.length = ps.length ∧ (∀ e ∈ es, e.cells.length = sz) ∧ (∀ x ∈ flat es, DVcellOk x = true) ∧
        ∀ (cur : Array Value), (n + es.length) * sz ≤ cur.size → ∃ out : Array Value, Instr.fill (fun i => some (i * sz, sz)) cur qs = some out ∧ out.size = cur.size ∧
          (∀ k, k < n * sz → out.getD k undef = cur.getD k undef) ∧ ∀ k (h : k < (flat es).length), DR σ.imm (flat es)[k] (out.getD (n * sz + k) undef)
  | [], n, [], es, h, _, _ => by
    simp only [inOrder, Option.some.injEq] at h; subst h
    exact ⟨rfl, by simp, by simp [flat], fun cur _ => ⟨cur, rfl, rfl, fun _ _ => rfl, fun k hk => by simp [flat] at hk⟩⟩
  | [], _, _ :: _, _, _, hl, _ => by simp at hl
  | _ :: _, _, [], _, _, hl, _ => by simp at hl
  | (j, x) :: ps, n, (j', v) :: qs, es, h, hl, hq => by
    obtain ⟨e1, gx⟩ := hq 0 (by simp) (by simp)
    simp only [List.getElem_cons_zero] at e1 gx
    subst e1
    simp only [inOrder, Bool.cond_eq_ite] at h
    split at h
    · rename_i hj
      simp only [Nat.beq_eq] at hj
      subst hj
      split at h
      · rename_i y hy
        split at h
        · rename_i hok
          simp only [Bool.and_eq_true, Nat.beq_eq] at hok
          obtain ⟨o1, o2⟩ := hok
          split at h
          · rename_i ys hys; cases h
            obtain ⟨r1, r2, r3, r4⟩ := inOrder_sound ps (j + 1) qs ys hys (by simpa using hl) (fun k a b => by
              have := hq (k + 1) (by simpa using a) (by simpa using b)
              simpa using this)
            have hd := toD_sound hy gx
            obtain ⟨hc1, hc2⟩ := hd.cells
            have hfl : flat (y :: ys) = y.cells ++ flat ys := by simp [flat]
            refine ⟨by simp [r1], ?_, ?_, fun cur hcur => ?_⟩
            · intro e he
              rcases List.mem_cons.1 he with rfl | q
              · exact o1
              · exact r2 e q
            · intro e he
              rw [hfl] at he
              rcases List.mem_append.1 he with q | q
              · exact List.all_eq_true.1 o2 e q
              · exact r3 e q
            · have hcur' : (j + 1 + ys.length) * sz ≤ cur.size := by
                have : j + (y :: ys).length = j + 1 + ys.length := by simp; omega
                rw [this] at hcur; exact hcur
              have hjj : j * sz + sz ≤ cur.size := by
                have : (j + 1) * sz ≤ (j + 1 + ys.length) * sz := Nat.mul_le_mul_right _ (by omega)
                rw [Nat.succ_mul] at this
                omega
              generalize hnew : (v.cells.zipIdx.foldl (fun cs (c, j') => cs.setIfInBounds (j * sz + j') c) cur) = new
              have hnl : new.toList = cur.toList.take (j * sz) ++ v.cells.toList ++ cur.toList.drop (j * sz + v.cells.toList.length) := by
                have := foldl_set (j * sz) v.cells.toList 0 cur (by simp; omega)
                rw [← hnew, ← Array.foldl_toList, Array.toList_zipIdx]
                simpa using this
              have hns : new.size = cur.size := by
                have := congrArg List.length hnl
                simp at this; omega
              have hn1 : ∀ k, k < j * sz → new.getD k undef = cur.getD k undef := fun k hk => by
                rw [Array.getD_eq_getD_getElem?, Array.getD_eq_getD_getElem?, ← Array.getElem?_toList, ← Array.getElem?_toList, hnl, List.append_assoc, List.getElem?_append_left (by simp; omega), List.getElem?_take_of_lt hk]
              have hn2 : ∀ k, k < sz → new.getD (j * sz + k) undef = v.cells.getD k undef := fun k hk => by
                rw [Array.getD_eq_getD_getElem?, Array.getD_eq_getD_getElem?, ← Array.getElem?_toList, ← Array.getElem?_toList, hnl, List.append_assoc, List.getElem?_append_right (by simp; omega)]
                have : (cur.toList.take (j * sz)).length = j * sz := by simp; omega
                rw [this, Nat.add_sub_cancel_left, List.getElem?_append_left (by simp; omega)]
              obtain ⟨out, s1, s2, s3, s4⟩ := r4 new (by omega)
              refine ⟨out, ?_, by omega, fun k hk => ?_, fun k hk => ?_⟩
              · simp only [Instr.fill]
                rw [if_neg (by simp; omega), hnew]
                exact s1
              · rw [s3 k (by rw [Nat.succ_mul]; omega), hn1 k hk]
              · rw [hfl, List.length_append] at hk
                by_cases hk' : k < y.cells.length
                · have e : (flat (y :: ys))[k] = y.cells[k] := by simp only [hfl]; rw [List.getElem_append_left hk']
                  rw [e, s3 (j * sz + k) (by rw [Nat.succ_mul]; omega), hn2 k (by omega)]
                  have := hc2 k hk' (by omega)
                  simpa [Array.getD, show k < v.cells.size by omega] using this
                · have e : (flat (y :: ys))[k] = (flat ys)[k - y.cells.length]'(by omega) := by simp only [hfl]; rw [List.getElem_append_right (by omega)]
                  rw [e]
                  have := s4 (k - y.cells.length) (by omega)
                  rw [Nat.succ_mul] at this
                  rw [show j * sz + k = j * sz + sz + (k - y.cells.length) by omega]
                  exact this
          · cases h
        · cases h
      · cases h
    · cases h
end Go.Gh
namespace Go.Gh
open Go.RowKit

theorem buildSlice_run {P : Program} {gp : GP} (hty : TyT P gp) {σ : Sim} {H : List GB} (w : World) {t len e : Nat} {ti tt : TI} (hts : gp.ty t = some tt) (hkd : tt.kind = .slice e) (hti : gp.ty e = some ti) {ρg : Operand → GV} {ρ : Operand → Value}
    (hO : ∀ x, GR σ H (ρg x) (ρ x)) (parts : Array (Nat × Operand)) {es : List DV} (h : inOrder ti.size 0 (parts.toList.map fun p => (p.1, ρg p.2)) = some es) (hlen : es.length = len) (h24 : len * ti.size ≤ 16777216) :
    ∃ out : Array Value, (Instr.buildSlice t len (parts.map fun (i, x) => (i, ρ x))).run P w = .ok (.slice (some ⟨w.heap.size, 0, none⟩) len len) (w.alloc (.cells out e)) ∧
      (∀ q ∈ es, q.cells.length = ti.size) ∧ (∀ x ∈ flat es, DVcellOk x = true) ∧ out.size = (flat es).length ∧ ∀ k (h : k < (flat es).length), DR σ.imm (flat es)[k] (out.getD k undef) := by
  obtain ⟨d, hu, _, hk, _⟩ := (hty _ _ hts).under
  rw [hkd] at hk
  simp only [KOK] at hk
  subst hk
  obtain ⟨z, hz1, _, hz3⟩ := zero_pw (hty _ _ hti) σ H
  obtain ⟨r1, r2, r3, r4⟩ := inOrder_sound (σ := σ) (H := H) (sz := ti.size) (parts.toList.map fun p => (p.1, ρg p.2)) 0 ((parts.map fun p => (p.1, ρ p.2)).toList) es h (by simp) (fun k h1 h2 => by
    simp
    exact hO _)
  have hfl := flat_len r2
  have hrun : ∀ (zs : Array Value), (len * ti.size = 0 ∧ zs = #[]) ∨ (len * ti.size ≠ 0 ∧ zs = z.cells) →
      ∃ out : Array Value, (Instr.buildSlice t len (parts.map fun (i, x) => (i, ρ x))).run P w = .ok (.slice (some ⟨w.heap.size, 0, none⟩) len len) (w.alloc (.cells out e)) ∧
        out.size = len * ti.size ∧ ∀ k (h : k < (flat es).length), DR σ.imm (flat es)[k] (out.getD k undef) := fun zs hzs => by
    obtain ⟨out, s1, s2, s3, s4⟩ := r4 ((Array.range (len * ti.size)).map (zs[· % zs.size]!)) (by simp [hlen])
    refine ⟨out, ?_, by simpa using s2, fun k hk => by have := s4 k hk; simpa using this⟩
    rw [map_pair]
    have n24 : ¬ (16777216 < len * ti.size) := by omega
    simp only [Instr.buildSlice, Sem.run_bind, hu, Result.andThen_ok, (hty _ _ hti).sizeOf]
    rw [if_neg (by simpa using n24)]
    rcases hzs with ⟨h0, rfl⟩ | ⟨h0, rfl⟩
    · rw [if_pos h0]
      simp only [Sem.run_bind, Sem.run_pure, Result.andThen_ok, s1]
      simp [newRow]
    · rw [if_neg h0]
      simp only [Sem.run_bind, Sem.run_pure, Result.andThen_ok, hz1, s1]
      simp [newRow]
  by_cases h0 : len * ti.size = 0
  · obtain ⟨out, q1, q2, q3⟩ := hrun #[] (.inl ⟨h0, rfl⟩)
    exact ⟨out, q1, r2, r3, by rw [hfl, hlen]; exact q2, q3⟩
  · obtain ⟨out, q1, q2, q3⟩ := hrun z.cells (.inr ⟨h0, rfl⟩)
    exact ⟨out, q1, r2, r3, by rw [hfl, hlen]; exact q2, q3⟩

/-- A slice that is written out, at rest from the first. -/
theorem xl_sound {P : Program} {gp : GP} (hty : TyT P gp) {lk : Nat} {σ : Sim} {H : List GB} {w : World} (hw : WR σ H w) {t len e : Nat} {ti tt : TI} (hts : gp.ty t = some tt) (hkd : tt.kind = .slice e) (hti : gp.ty e = some ti)
    {ρg : Operand → GV} {ρ : Operand → Value} (hO : ∀ x, GR σ H (ρg x) (ρ x)) (parts : Array (Nat × Operand)) {es : List DV} (h : inOrder ti.size 0 (parts.toList.map fun p => (p.1, ρg p.2)) = some es) (hlen : es.length = len) (h24 : len * ti.size ≤ 16777216) {k : CK}
    (hk : k (.xl es) H = true) : Runs P lk σ H w (do pure (Next.value (← Instr.buildSlice t len (parts.map fun (i, x) => (i, ρ x))))) k := by
  obtain ⟨out, q1, q2, q3, q4, q5⟩ := buildSlice_run (P := P) hty w hts hkd hti hO parts h hlen h24
  obtain ⟨r1, r2⟩ := push_rest (lk := lk) hw out e
  refine .value q1 hk r2 r1 ?_
  subst hlen
  refine .xl es _ (.of_rest q2 _ out (fun k hk => ?_) (fun k hk => (q5 k hk).mono r2.ext.imm) _ (Nat.le_refl _) q3)
  show rest σ.imm w.heap.size out _ = _
  rw [rest_in (by omega)]
  simp [Array.getD, show k < out.size by omega]
theorem slc_sound {P : Program} {gp : GP} (hty : TyT P gp) {lk : Nat} {σ : Sim} {H : List GB} {w : World} (hw : WR σ H w) (hlk : lk ≤ H.length) {t len e : Nat} {ti tt : TI} (hts : gp.ty t = some tt) (hkd : tt.kind = .slice e) (hti : gp.ty e = some ti)
    {ρg : Operand → GV} {ρ : Operand → Value} (hO : ∀ x, GR σ H (ρg x) (ρ x)) (parts : Array (Nat × Operand)) {es : List DV} (h : inOrder ti.size 0 (parts.toList.map fun p => (p.1, ρg p.2)) = some es) (hlen : es.length = len) (h24 : len * ti.size ≤ 16777216) {k : CK}
    (hk : k (.slc H.length 0 len (some len)) (H ++ [.cells ((flat es).map .d)]) = true) : Runs P lk σ H w (do pure (Next.value (← Instr.buildSlice t len (parts.map fun (i, x) => (i, ρ x))))) k := by
  obtain ⟨out, q1, q2, q3, q4, q5⟩ := buildSlice_run (P := P) hty w hts hkd hti hO parts h hlen h24
  obtain ⟨σ', r1, r2, r3, r4⟩ := push_cells (lk := lk) hw hlk ((flat es).map .d) out e ⟨by simp [q4], fun k h1 h2 => by
    simp at h1
    have := q5 k h1
    simp
    refine .d _ _ ?_
    simpa [Array.getD, show k < out.size by omega] using this⟩
  exact .value q1 hk r2 r1 (.slc _ _ _ _ _ _ r3 (Nat.le_refl _) (fun _ => by rw [r4]) fun c hc => by cases hc; rfl)

theorem copy_sound {P : Program} {gp : GP} (hty : TyT P gp) {lk : Nat} {σ : Sim} {H : List GB} {w : World} (hw : WR σ H w) {ts : Array TypeId} {dT ty : Nat} (ht0 : ts[0]? = some dT) {x y : GV} {a b : Value} (gx : GR σ H x a) (gy : GR σ H y b) {k : CK}
    (h : gcopy gp lk dT x y H k = true) : Runs P lk σ H w (do pure (Next.value (← Builtin.copy_ ts ty #[a, b]))) k := by
  unfold gcopy at h
  split at h
  · rename_i sz agg by_ zz e eq_ hts
    obtain ⟨d, hu, _, hk, _⟩ := (hty _ _ hts).under
    simp only [KOK] at hk
    subst hk
    split at h
    · rename_i ti hti
      split at h
      · rename_i g id off n cap
        split at h
        · rename_i xs cs hxs hcs
          simp only [Bool.cond_eq_ite] at h
          split at h
          · rename_i hc
            simp only [Bool.and_eq_true, Nat.ble_eq] at hc
            obtain ⟨⟨⟨c1, c2⟩, c3⟩, c4⟩ := hc
            obtain ⟨ax, cx, rfl, news, hn1, hn2, hn3, hn4, hn5⟩ := srcOf_sound (P := P) hw (hty _ _ hti).one gy hxs c2
            cases gx with
            | slc _ _ _ _ A c hf hcc ha hm =>
              obtain ⟨cv, el, hb1, hb2, hb3, _⟩ := hw.blk _ _ hcs
              have hpw : PW σ H cs cv.toList := ⟨by simpa using hb2, fun k h1 h2 => hb3 k h1 (by simpa using h2)⟩
              have hnp : PW σ H ((flat xs).map .d) news.toList := ⟨by simp [hn1], fun k h1 h2 => by
                simp at h1
                have := hn2 k h1
                simp
                refine .d _ _ ?_
                simpa [Array.getD, show k < news.size by omega] using this⟩
              have hone : ∀ v ∈ news.toList, v.oneCell' = true := fun v hv => by
                obtain ⟨q, hq, hqv⟩ := List.getElem_of_mem hv
                have hq' : q < (flat xs).length := by rw [← hn1]; simpa using hq
                have hg := hnp.2 q (by simpa using hq') hq
                rw [hqv] at hg
                refine hg.flat ?_
                simp only [List.getElem_map]
                have := hn5 _ (List.getElem_mem hq')
                cases hx : (flat xs)[q] <;> rw [hx] at this <;> first | rfl | exact this | simp [DVcellOk] at this
              obtain ⟨q1, q2⟩ := turn_cells (lk := lk) hw c1 hcs _ (cv.toList.take off ++ news.toList ++ cv.toList.drop (off + news.toList.length)).toArray (by simpa using hpw.setR hnp off)
              have hmin : Nat.min xs.length n = xs.length := Nat.min_eq_left c3
              by_cases hx0 : xs = []
              · subst hx0
                have hs0 : news.toList = [] := List.length_eq_zero_iff.1 (by simp [hn1, flat])
                have hH : H.set id (.cells (setR cs off ((flat []).map .d))) = H := by
                  have e : setR cs off ((flat []).map .d) = cs := by simp [setR, flat]
                  rw [e]
                  exact List.ext_getElem? fun j => by
                    rw [List.getElem?_set]
                    split
                    · rename_i hj
                      subst hj
                      have := List.getElem?_eq_some_iff.1 hcs
                      obtain ⟨h1, h2⟩ := this
                      simp [h1, h2]
                    · rfl
                rw [hH] at h
                refine .value (c := .int .i64 0) ?_ h (Step.refl ..) hw (.mkint ..)
                have hst : (Builtin.firstCells ti.size 0 (Value.slice ax 0 cx)).run P w = .ok news w := hn3 w rfl
                simp only [Builtin.copy_, ht0]
                simp [hu, Builtin.lenOf, (hty _ _ hti).sizeOf, goInt, hst, hs0, storeCells]
              · have hpos : 0 < xs.length := List.length_pos_iff.2 hx0
                have hA := ha (by omega)
                subst hA
                have hst := run_storeCells_at (P := P) (σ.mu id) off el news.toList 0 cv w hb1 (by simp; omega) hone
                simp only [Nat.add_zero] at hst
                refine .value (c := .int .i64 xs.length) ?_ h q2 q1 (.mkint ..)
                simp only [Builtin.copy_, ht0]
                simp [hu, Builtin.lenOf, hmin, (hty _ _ hti).sizeOf, hn3, hst, goInt]
          · cases h
        · cases h
      · cases h
    · cases h
  · cases h
end Go.Gh
namespace Go.Gh
open Go.RowKit

theorem GR.pair {σ : Sim} {H : List GB} {x y : GV} {a b : Value} (hx : GR σ H x a) (hy : GR σ H y b) : GR σ H (.tup [x, y]) (.tuple #[a, b]) :=
  .tup _ _ rfl fun k h1 h2 => by
    match k, h1, h2 with
    | 0, _, _ => exact hx
    | 1, _, _ => exact hy
    | k + 2, h1, _ => simp at h1; omega
theorem findK_sound {σ : Sim} {H : List GB} {kk : IntKind} {kn : Int} {K : IntKind} : ∀ (es : List (DV × GV)) (E : List MapEntry) (i : Nat) (r : Option (Nat × GV)), E.length = es.length →
    (∀ k (h1 : k < es.length) (h2 : k < E.length), DR σ.imm (es[k]).1 (E[k]).key ∧ GR σ H (es[k]).2 (E[k]).val) → findK (.lit (.int kk kn)) i es = some r →
    match r with
    | none => Instr.findNow (.int K) (.int kk kn) E i = some none
    | some (j, v) => ∃ (x : Value) (h : j - i < E.length), i ≤ j ∧ Instr.findNow (.int K) (.int kk kn) E i = some (some (j, x)) ∧ GR σ H v x ∧ (E[j - i]).key = .int kk kn := by
  intro es
  induction es with
  | nil =>
    intro E i r hl _ h
    cases E with
    | nil => simp only [findK] at h; cases h; rfl
    | cons _ _ => simp at hl
  | cons e es ih =>
    intro E i r hl hd h
    cases E with
    | nil => simp at hl
    | cons e' E =>
      obtain ⟨k', v'⟩ := e
      have h0 := hd 0 (by simp) (by simp)
      simp only [List.getElem_cons_zero] at h0
      simp only [findK] at h
      cases k' with
      | lit kv =>
        have hkv : e'.key = kv := by have := h0.1; cases this; rfl
        cases kv <;> simp only [eqD, eqV] at h <;> try (cases h; done)
        rename_i k2 n2
        split at h
        · rename_i q
          split at q
          · rename_i hk2
            cases h
            simp at q
            subst hk2 q
            refine ⟨e'.val, by simp, Nat.le_refl _, ?_, h0.2, by simpa using hkv⟩
            simp [Instr.findNow, Instr.sameNow, hkv]
          · cases q
        · rename_i q
          split at q
          · rename_i hk2
            have hne : (kn == n2) = false := by simpa using q
            subst hk2
            have := ih E (i + 1) r (by simpa using hl) (fun k h1 h2 => by
              have := hd (k + 1) (by simpa using h1) (by simpa using h2)
              simpa using this) h
            have hf : ∀ y, Instr.findNow (.int K) (.int kk kn) (e' :: E) i = y ↔ Instr.findNow (.int K) (.int kk kn) E (i + 1) = y := fun y => by
              simp [Instr.findNow, Instr.sameNow, hkv, hne]
            cases r with
            | none => exact (hf _).2 this
            | some r =>
              obtain ⟨j, v⟩ := r
              obtain ⟨x, hx, h1, h2, h3, h4⟩ := this
              refine ⟨x, by simp; omega, by omega, (hf _).2 h2, h3, ?_⟩
              have e : j - i = (j - (i + 1)) + 1 := by omega
              simp only [e, List.getElem_cons_succ]
              exact h4
          · cases q
        · cases h
      | _ => simp [eqD] at h

theorem run_getObj_mp {P : Program} {w : World} {r : Nat} {es : Array MapEntry} {c : Nat} (h : w.heap[r]? = some (.map es c)) : (getObj r).run P w = .ok (.map es c) w := by simp [getObj, Sem.run, h]
theorem run_setObj_mp {P : Program} {w : World} {r : Nat} {es : Array MapEntry} {c : Nat} (o' : Obj) (h : w.heap[r]? = some (.map es c)) : (setObj r o').run P w = .ok () { w with heap := w.heap.setIfInBounds r o' } := by simp [setObj, Sem.run, h]
theorem run_getObj_it {P : Program} {w : World} {r : Nat} {m : Option Nat} {n : Nat} {s : Array Nat} {c : Nat} (h : w.heap[r]? = some (.mapIter m n s c)) : (getObj r).run P w = .ok (.mapIter m n s c) w := by simp [getObj, Sem.run, h]
theorem run_setObj_it {P : Program} {w : World} {r : Nat} {m : Option Nat} {n : Nat} {s : Array Nat} {c : Nat} (o' : Obj) (h : w.heap[r]? = some (.mapIter m n s c)) : (setObj r o').run P w = .ok () { w with heap := w.heap.setIfInBounds r o' } := by simp [setObj, Sem.run, h]
theorem check_int {P : Program} {w : World} (em : Bool) (n : Nat) {kt : TypeId} {kd kk : IntKind} {kn : Int} (h : ∀ w, (underlying kt).run P w = .ok (TypeDesc.int kd) w) :
    (Instr.checkKey em (n + 1) kt (.int kk kn)).run P w = .ok () w := by simp [Instr.checkKey, h]

theorem makeMap_sound {P : Program} {lk : Nat} {σ : Sim} {H : List GB} {w : World} (hw : WR σ H w) (hlk : lk ≤ H.length) (t : TypeId) {k : CK}
    (h : k (.map H.length) (H ++ [.map []]) = true) : Runs P lk σ H w (do pure (Next.value (← Instr.makeMap t none))) k := by
  obtain ⟨h1, h2⟩ := push_obj (lk := lk) hw hlk (.map #[] 0) (.map []) undef (by
    refine ⟨#[], ?_, rfl, fun k h1 => by simp at h1⟩
    show (w.alloc (.map #[] 0)).heap[upd σ.mu H.length w.heap.size H.length]? = _
    rw [upd_same]; exact heap_alloc_new w _)
  refine .value (c := .map (some w.heap.size)) ?_ h h2 h1 ?_
  · simp [Instr.makeMap]
  · have := GR.map (σ := { σ with mu := upd σ.mu H.length w.heap.size, tok := upd σ.tok H.length undef }) (H := H ++ [.map []]) H.length ⟨.map [], get_append_same H _, rfl⟩
    simpa using this

theorem assignTok_sound {P : Program} {lk : Nat} {σ : Sim} {H : List GB} {w : World} (hw : WR σ H w) (hlk : lk ≤ H.length) (sz : Nat) {v : Value} (hv : v = .slice none 0 0) {k : CK}
    (h : k (.tl [] H.length) (H ++ [.tail 0 sz]) = true) : Runs P lk σ H w (pure (Next.value v)) k := by
  obtain ⟨h1, h2⟩ := push_tok (lk := lk) hw hlk none 0 sz
  subst hv
  refine ⟨_, _, w, _, _, _, rfl, .inl rfl, h, h2, h1, .tl [] H.length 0 sz _ (get_append_same H _) (Nat.le_refl _) (.nil none 0) (fun _ => ?_) (fun e he => by simp at he)⟩
  exact (upd_same _ _ _).symm

theorem lookup_sound {P : Program} {gp : GP} (hty : TyT P gp) {lk : Nat} {σ : Sim} {H : List GB} {w : World} (hw : WR σ H w) {t : Nat} {m key : GV} {a b : Value} (gm : GR σ H m a) (gk : GR σ H key b) (ok : Bool) {k : CK}
    (h : glookup gp t m key ok H k = true) : Runs P lk σ H w (do pure (Next.value (← Instr.lookup t a b ok))) k := by
  unfold glookup at h
  split at h
  · rename_i sz ag by_ z kt e eq_ hts
    obtain ⟨d, hu, _, hk, _⟩ := (hty _ _ hts).under
    simp only [KOK] at hk
    subst hk
    split at h
    · rename_i sz' ag' by' z' kd eq2_ htk
      obtain ⟨d', hu', _, hk', _⟩ := (hty _ _ htk).under
      simp only [KOK] at hk'
      subst hk'
      split at h
      · rename_i ti hte
        split at h
        · rename_i id kk kn
          cases gm with
          | map _ hf =>
          have hb := gk.lit
          subst hb
          split at h
          · rename_i es hes
            obtain ⟨E, hE1, hE2, hE3⟩ := hw.blk _ _ hes
            have hck : (Instr.checkKey E.isEmpty 10000 kt (.int kk kn)).run P w = .ok () w := by
              exact check_int _ 9999 hu'
            split at h
            · rename_i j v hfk
              have := findK_sound (K := kd) (σ := σ) (H := H) es E.toList 0 _ (by simpa using hE2) (fun k h1 h2 => by
                have := hE3 k h1 (by simpa using h2)
                exact ⟨by simpa using this.1, by simpa using this.2.1⟩) hfk
              obtain ⟨x, hx, _, h2, h3, _⟩ := this
              refine .value (c := if ok then .tuple #[x, .bool true] else x) ?_ h (Step.refl ..) hw ?_
              · cases ok <;> simp [Instr.lookup, hu, run_getObj_mp hE1, hck, Instr.findKey, hu', h2]
              · cases ok with
                | false => exact h3
                | true => exact .pair h3 (.mkbool ..)
            · rename_i hfk
              have := findK_sound (K := kd) (σ := σ) (H := H) es E.toList 0 _ (by simpa using hE2) (fun k h1 h2 => by
                have := hE3 k h1 (by simpa using h2)
                exact ⟨by simpa using this.1, by simpa using this.2.1⟩) hfk
              simp only at this
              split at h
              · rename_i z0 hz0
                simp only [Bool.cond_eq_ite] at h
                split at h
                · cases h
                · rename_i hagg
                  have hz := (hty _ _ hte).zval (by simpa using hagg) z0 hz0
                  have hzr : (zeroValue e).run P w = .ok z0 w := by
                    cases hi : P.info? e with
                    | none => rw [hi] at hz; cases hz
                    | some i => rw [hi] at hz; simp only [Option.bind_some] at hz; simp [zeroValue, typeInfo, hi, hz]
                  have hfl := (hty _ _ hte).zflat z0 (by rw [hz0]; simp)
                  refine .value (c := if ok then .tuple #[z0, .bool false] else z0) ?_ h (Step.refl ..) hw ?_
                  · cases ok <;> simp [Instr.lookup, hu, run_getObj_mp hE1, hck, Instr.findKey, hu', this, hzr]
                  · cases ok with
                    | false => exact .d _ _ (.lit _ hfl)
                    | true => exact .pair (.d _ _ (.lit _ hfl)) (.mkbool ..)
              · cases h
            · cases h
          · cases h
        · cases h
      · cases h
    · cases h
  · cases h
end Go.Gh
namespace Go.Gh
open Go.RowKit

abbrev putO (w : World) (r : Nat) (o : Obj) : World := { w with heap := w.heap.setIfInBounds r o }

theorem turn_obj {lk : Nat} {σ : Sim} {H : List GB} {w : World} (h : WR σ H w) {id : Nat} (hlk : lk ≤ id) {b b' : GB} (hid : H[id]? = some b) (hob : Own σ id b) (hfb : fixedB b = true) (hfb' : fixedB b' = true)
    (hno : ∀ a, a.block = σ.mu id → σ.imm a = none) (o' : Obj) (hb : Ext σ H σ (H.set id b') → BR σ (H.set id b') (putO w (σ.mu id) o') id b') :
    WR σ (H.set id b') (putO w (σ.mu id) o') ∧ Step lk σ H w σ (H.set id b') (putO w (σ.mu id) o') := by
  have hlt : id < H.length := (List.getElem?_eq_some_iff.1 hid).1
  have hH : ∀ j, j ≠ id → (H.set id b')[j]? = H[j]? := fun j hj => List.getElem?_set_ne (Ne.symm hj)
  have hHs : (H.set id b')[id]? = some b' := List.getElem?_set_self hlt
  have e : Ext σ H σ (H.set id b') := by
    refine ⟨fun j hf => ⟨?_, rfl⟩, fun t L sz ht => ⟨L, ?_, Nat.le_refl _, fun _ => rfl⟩, fun _ _ q => q⟩
    · by_cases hj : j = id
      · subst hj; exact ⟨_, hHs, hfb'⟩
      · obtain ⟨b, hb, hbf⟩ := hf; exact ⟨b, by rw [hH j hj]; exact hb, hbf⟩
    · have hj : t ≠ id := by intro q; subst q; rw [hid] at ht; cases ht; simp [fixedB] at hfb
      rw [hH t hj]; exact ht
  have hoth : ∀ k, k ≠ σ.mu id → (putO w (σ.mu id) o').heap[k]? = w.heap[k]? := fun k hk => by
    show (w.heap.setIfInBounds (σ.mu id) o')[k]? = _
    rw [Array.getElem?_setIfInBounds_ne (Ne.symm hk)]
  constructor
  · refine h.turn e id hH (fun _ _ => rfl) (fun _ _ => rfl) (fun a v hv => ?_) (fun j bj hj hjb ho => ⟨hoth _ (h.inj j id bj b hjb hid ho hob hj), fun _ _ => rfl⟩) (fun c hc => ?_) (fun c hc ho j bj hj hjb hoj => h.inj j id bj b hjb hid hoj hob hj)
    · obtain ⟨q1, q2⟩ := h.imm a v hv
      refine ⟨q1, (World.cell?_of_block (w := w) (hoth _ ?_)).trans q2⟩
      intro q
      rw [hno a q] at hv; cases hv
    · rw [hHs] at hc; cases hc; exact hb e
  · exact Step.turn e id hlk hH (fun _ _ => rfl) (fun _ _ => rfl) rfl rfl rfl (by simp) (by simp) (fun k hk hn => hoth k fun q => hn _ hid hob q.symm) (fun c hc _ => .inl ⟨_, hid, hob, rfl⟩) (fun a ha => absurd rfl ha)

theorem no_cell {w : World} {r : Nat} {o : Obj} (h : w.heap[r]? = some o) (hn : ∀ c el f, o ≠ .cells c el f) (a : Addr) (ha : a.block = r) : w.cell? a = none := by
  subst ha
  unfold World.cell?
  rw [h]
  cases o <;> first | rfl | exact absurd rfl (hn _ _ _)

theorem WR.noMap {σ : Sim} {H : List GB} {w : World} (h : WR σ H w) {r : Nat} {o : Obj} (hr : w.heap[r]? = some o) (hn : ∀ c el f, o ≠ .cells c el f) (a : Addr) (ha : a.block = r) : σ.imm a = none := by
  cases hi : σ.imm a with
  | none => rfl
  | some v => have := (h.imm _ _ hi).2; rw [no_cell hr hn a ha] at this; cases this

theorem mapUpdate_sound {P : Program} {gp : GP} (hty : TyT P gp) {lk : Nat} {σ : Sim} {H : List GB} {w : World} (hw : WR σ H w) {t : Nat} {m key x : GV} {a b c : Value} (gm : GR σ H m a) (gk : GR σ H key b) (gx : GR σ H x c) {k : CK}
    (h : gmapUpdate gp lk t m key x H k = true) : Runs P lk σ H w (do Instr.mapUpdate t a b c; pure (Next.skip)) k := by
  unfold gmapUpdate at h
  split at h
  · rename_i sz ag by_ z kt e eq_ hts
    obtain ⟨d, hu, _, hk, _⟩ := (hty _ _ hts).under
    simp only [KOK] at hk
    subst hk
    split at h
    · rename_i sz' ag' by' z' kd eq2_ htk
      obtain ⟨d', hu', _, hk', _⟩ := (hty _ _ htk).under
      simp only [KOK] at hk'
      subst hk'
      split at h
      · rename_i id kk kn
        cases gm with
        | map _ hf =>
        have hb := gk.lit
        subst hb
        split at h
        · rename_i es hes
          obtain ⟨E, hE1, hE2, hE3⟩ := hw.blk _ _ hes
          have hck : (Instr.checkKey false 10000 kt (.int kk kn)).run P w = .ok () w := check_int _ 9999 hu'
          simp only [Bool.cond_eq_ite] at h
          split at h
          · rename_i hc
            simp only [Bool.and_eq_true, Nat.ble_eq] at hc
            obtain ⟨c1, c2⟩ := hc
            have hpt : (∀ k (h1 : k < es.length) (h2 : k < E.toList.length), DR σ.imm (es[k]).1 (E.toList[k]).key ∧ GR σ H (es[k]).2 (E.toList[k]).val) := fun k h1 h2 => by
                have := hE3 k h1 (by simpa using h2)
                exact ⟨by simpa using this.1, by simpa using this.2.1⟩
            have hno := hw.noMap hE1 (fun _ _ _ q => by cases q)
            have hlt : σ.mu id < w.heap.size := hw.size_lt hes trivial
            split at h
            · rename_i i v hfk
              have := findK_sound (K := kd) (σ := σ) (H := H) es E.toList 0 _ (by simpa using hE2) hpt hfk
              obtain ⟨y, hy, _, h2, h3, h4⟩ := this
              simp at hy h4
              obtain ⟨q1, q2⟩ := turn_obj (lk := lk) hw c1 hes trivial rfl (b' := .map (es.set i (.lit (.int kk kn), x))) rfl hno (.map (E.modify i fun e => { e with key := .int kk kn, val := c }) E.size) (fun ex => by
                refine ⟨E.modify i fun e => { e with key := .int kk kn, val := c }, ?_, by simpa using hE2, fun j h1 h2 => ?_⟩
                · show (w.heap.setIfInBounds (σ.mu id) _)[σ.mu id]? = _
                  rw [Array.getElem?_setIfInBounds_self_of_lt hlt]
                  simp
                · simp at h1 h2
                  have := hE3 j h1 h2
                  rw [Array.getElem_modify]
                  rw [List.getElem_set]
                  split
                  · rename_i hj
                    subst hj
                    exact ⟨.lit _ rfl, gx.mono ex, this.2.2⟩
                  · exact ⟨this.1, this.2.1.mono ex, this.2.2⟩)
              refine ⟨undef, .skip, _, _, _, _, ?_, .inr ⟨rfl, rfl⟩, h, q2, q1, .und _⟩
              have hkk : (Instr.keyThatStays (.int kk kn) (.int kk kn)).run P w = .ok (.int kk kn) w := by
                simp [Instr.keyThatStays, Instr.sameBits]
              simp [Instr.mapUpdate, hu, run_getObj_mp hE1, hck, Instr.findKey, hu', h2, hy, h4, hkk, run_setObj_mp _ hE1]
            · rename_i hfk
              have := findK_sound (K := kd) (σ := σ) (H := H) es E.toList 0 _ (by simpa using hE2) hpt hfk
              simp only at this
              obtain ⟨q1, q2⟩ := turn_obj (lk := lk) hw c1 hes trivial rfl (b' := .map (es ++ [(.lit (.int kk kn), x)])) rfl hno (.map (E.push { key := .int kk kn, val := c, born := E.size }) (E.size + 1)) (fun ex => by
                refine ⟨E.push { key := .int kk kn, val := c, born := E.size }, ?_, by simp [hE2], fun j h1 h2 => ?_⟩
                · show (w.heap.setIfInBounds (σ.mu id) _)[σ.mu id]? = _
                  rw [Array.getElem?_setIfInBounds_self_of_lt hlt]
                  simp
                · simp at h1 h2
                  by_cases hj : j = es.length
                  · subst hj
                    have e1 : (es ++ [(DV.lit (.int kk kn), x)])[es.length]'(by simp) = (.lit (.int kk kn), x) := by simp
                    have e2 : (E.push { key := .int kk kn, val := c, born := E.size })[es.length]'(by simp; omega) = { key := .int kk kn, val := c, born := E.size } := by
                      rw [Array.getElem_push]; rw [dif_neg (by omega)]
                    rw [e1, e2]
                    exact ⟨.lit _ rfl, gx.mono ex, hE2⟩
                  · have h1' : j < es.length := by omega
                    have := hE3 j h1' (by omega)
                    rw [List.getElem_append_left h1', Array.getElem_push, dif_pos (by omega)]
                    exact ⟨this.1, this.2.1.mono ex, this.2.2⟩)
              refine ⟨undef, .skip, _, _, _, _, ?_, .inr ⟨rfl, rfl⟩, h, q2, q1, .und _⟩
              simp [Instr.mapUpdate, hu, run_getObj_mp hE1, hck, Instr.findKey, hu', this, run_setObj_mp _ hE1]
            · cases h
          · cases h
        · cases h
      · cases h
    · cases h
  · cases h
end Go.Gh
namespace Go.Gh
open Go.RowKit

theorem choose_next {P : Program} (w : World) (n : Nat) (hn : 0 < n) : ∃ t w', (choose (.mapNext n)).run P w = .ok t w' ∧ t < n ∧ w'.heap = w.heap ∧ w'.os = w.os ∧ w'.tape = w.tape ∧ w'.output = w.output := by
  by_cases h : n ≤ 1
  · exact ⟨0, w, by simp [choose, Sem.run, Question.forced, h], hn, rfl, rfl, rfl, rfl⟩
  · exact ⟨_, w.drew, by simp only [choose, Sem.run, Question.forced, h]; rfl, Nat.mod_lt _ hn, rfl, rfl, rfl, rfl⟩

theorem range_sound {P : Program} {gp : GP} (hty : TyT P gp) {lk : Nat} {σ : Sim} {H : List GB} {w : World} (hw : WR σ H w) (hlk : lk ≤ H.length) {t : Nat} {m : GV} {a : Value} (gm : GR σ H m a) {k : CK}
    (h : (match (generalizing := false) gp.ty t, m with
    | some { kind := .map _ _, .. }, .map id => match H[id]? with
      | some (.map es) => k (.iter H.length) (H ++ [.iter id es.length (List.range es.length) none])
      | _ => false
    | _, _ => false) = true) : Runs P lk σ H w (do pure (Next.value (← Instr.range t a))) k := by
  split at h
  · rename_i sz ag by_ z kt e eq_ id hts
    obtain ⟨d, hu, _, hk, _⟩ := (hty _ _ hts).under
    simp only [KOK] at hk
    subst hk
    cases gm with
    | map _ hf =>
    split at h
    · rename_i es hes
      obtain ⟨E, hE1, hE2, hE3⟩ := hw.blk _ _ hes
      obtain ⟨q1, q2⟩ := push_obj (lk := lk) hw hlk (.mapIter (some (σ.mu id)) E.size #[] E.size) (.iter id es.length (List.range es.length) none) undef (by
        have hlt : id < H.length := (List.getElem?_eq_some_iff.1 hes).1
        refine ⟨⟨_, by rw [get_append_ne (by omega)]; exact hes, rfl⟩, #[], ?_, rfl, fun i => by simp, List.nodup_range⟩
        show (w.alloc _).heap[upd σ.mu H.length w.heap.size H.length]? = some (.mapIter (some (upd σ.mu H.length w.heap.size id)) es.length #[] es.length)
        rw [upd_same, upd_ne _ _ (by omega), ← hE2]
        exact heap_alloc_new w _)
      refine .value (c := .pointer (some ⟨w.heap.size, 0, none⟩)) ?_ h q2 q1 ?_
      · simp [Instr.range, hu, run_getObj_mp hE1]
      · have := GR.iter (σ := { σ with mu := upd σ.mu H.length w.heap.size, tok := upd σ.tok H.length undef }) (H := H ++ [.iter id es.length (List.range es.length) none]) H.length ⟨_, get_append_same H _, rfl⟩
        simpa using this
    · cases h
  · cases h

theorem entry_sound {P : Program} {lk : Nat} {σ : Sim} {H : List GB} {w : World} (hw : WR σ H w) {x : GV} {a : Value} (gx : GR σ H x a) {k : CK}
    (h : (match (generalizing := false) x with
    | .iter id => match H[id]? with
      | some (.iter m n _ (some i)) => match H[m]? with
        | some (.map es) => bif es.length.beq n then (match es[i]? with
          | some (kd, v) => k (.tup [.d kd, v]) H
          | none => false) else false
        | _ => false
      | _ => false
    | _ => false) = true) : Runs P lk σ H w (do pure (Next.value (← Instr.entry a))) k := by
  split at h
  · rename_i id
    cases gx with
    | iter _ hf =>
    split at h
    · rename_i m n left i hid
      obtain ⟨hfm, seen, h1, h2, h3, h4⟩ := hw.blk _ _ hid
      split at h
      · rename_i es hes
        obtain ⟨E, hE1, hE2, hE3⟩ := hw.blk _ _ hes
        simp only [Bool.cond_eq_ite] at h
        split at h
        · rename_i hn
          have hn : es.length = n := by simpa using hn
          split at h
          · rename_i kd v hi
            obtain ⟨hi1, hi2⟩ := List.getElem?_eq_some_iff.1 hi
            have hEi := hE3 i hi1 (by omega)
            have hfind : E.find? (fun e => e.born == i) = some E[i] := by
              rw [Array.find?_eq_some_iff_getElem]
              refine ⟨by simp [hEi.2.2], i, by omega, rfl, fun j hj => ?_⟩
              have := (hE3 j (by omega) (by omega)).2.2
              simp [this]; omega
            refine .value (c := .tuple #[E[i].key, E[i].val]) ?_ h (Step.refl ..) hw (.pair ?_ ?_)
            · simp [Instr.entry, run_getObj_it h1, h2, run_getObj_mp hE1, hfind, hE2, hn]
            · rw [hi2] at hEi; exact .d _ _ hEi.1
            · rw [hi2] at hEi; exact hEi.2.1
          · cases h
        · cases h
      · cases h
    · cases h
  · cases h
end Go.Gh
namespace Go.Gh
open Go.RowKit

theorem back_push (s : Array Nat) (i : Nat) : (s.push i).back? = some i := by simp

theorem next_run {P : Program} {w : World} {r m n : Nat} {seen : Array Nat} {E : Array MapEntry} {cl : Nat} {ty : TypeId} (h1 : w.heap[r]? = some (.mapIter (some m) n seen n)) (h2 : w.heap[m]? = some (.map E cl)) (L : Array MapEntry)
    (hc0 : ¬ ((!seen.isEmpty && !E.isEmpty && E.all fun e => decide (e.born ≥ n)) = true)) (hL : (E.filter fun e => !seen.contains e.born) = L)
    (hold : (L.filter fun e => decide (e.born < n)) = L) (hnew : (L.filter fun e => decide (e.born ≥ n)) = #[]) :
    (Instr.next (.pointer (some ⟨r, 0, none⟩)) false ty).run P w =
      ((choose (.mapNext ((if L.isEmpty then #[none] else #[]) ++ L.map some).size)).run P w).andThen fun t w' =>
        (match ((if L.isEmpty then #[none] else #[]) ++ L.map some)[t]? with
        | some (some e) => do
          setObj r (.mapIter (some m) n (seen.push e.born) cl)
          pure (.tuple #[.bool true, e.key, e.val])
        | some none => pure (.tuple #[.bool false])
        | none => stuck "Next: no such candidate" : Sem Value).run P w' := by
  simp only [Instr.next, Sem.run_bind, run_getObj_it h1, run_getObj_mp h2, Result.andThen_ok, hL, hold, hnew, Array.append_empty, if_neg hc0]
  first | rfl | skip

theorem next_sound {P : Program} {lk : Nat} {σ : Sim} {H : List GB} {w : World} (hw : WR σ H w) {x : GV} {a : Value} (gx : GR σ H x a) (ty : TypeId) {k : CK}
    (h : (match (generalizing := false) x with
    | .iter id => match H[id]? with
      | some (.iter m n left _) => match H[m]? with
        | some (.map es) => bif lk.ble id && es.length.beq n then
            match left with
            | [] => k (.tup [gb false]) H
            | _ => left.all fun i => match es[i]? with
              | some (kd, v) => k (.tup [gb true, .d kd, v]) (H.set id (.iter m n (left.filter fun j => !(j == i)) (some i)))
              | none => false
          else false
        | _ => false
      | _ => false
    | _ => false) = true) : Runs P lk σ H w (do pure (Next.value (← Instr.next a false ty))) k := by
  split at h
  · rename_i id
    cases gx with
    | iter _ hf =>
    split at h
    · rename_i m n left cur hid
      obtain ⟨hfm, seen, h1, h2, h3, h4⟩ := hw.blk _ _ hid
      split at h
      · rename_i es hes
        obtain ⟨E, hE1, hE2, hE3⟩ := hw.blk _ _ hes
        simp only [Bool.cond_eq_ite] at h
        split at h
        · rename_i hn
          simp only [Bool.and_eq_true, Nat.ble_eq] at hn
          obtain ⟨hlk, hn⟩ := hn
          have hn : es.length = n := by simpa using hn
          have hc0 : ¬ ((!seen.isEmpty && !E.isEmpty && E.all fun e => decide (e.born ≥ n)) = true) := by
            intro q
            simp only [Bool.and_eq_true, Array.all_eq_true, decide_eq_true_eq] at q
            obtain ⟨⟨_, q1⟩, q2⟩ := q
            have h0 : 0 < E.size := by
              rcases Nat.eq_zero_or_pos E.size with z | z
              · simp [Array.isEmpty, z] at q1
              · exact z
            have := q2 0 h0
            rw [(hE3 0 (by omega) h0).2.2] at this
            omega
          have hborn : ∀ e ∈ E, ∃ i, ∃ hi : i < es.length, ∃ hi' : i < E.size, E[i] = e ∧ e.born = i := fun e he => by
            obtain ⟨i, hi, hie⟩ := Array.getElem_of_mem he
            exact ⟨i, by omega, hi, hie, by rw [← hie]; exact (hE3 i (by omega) hi).2.2⟩
          have hold : ((E.filter fun e => !seen.contains e.born).filter fun e => decide (e.born < n)) = E.filter fun e => !seen.contains e.born := by
            rw [Array.filter_eq_self]
            intro e he
            obtain ⟨i, hi, _, _, hb⟩ := hborn e (Array.mem_filter.1 he).1
            simp; omega
          have hnew : ((E.filter fun e => !seen.contains e.born).filter fun e => decide (e.born ≥ n)) = #[] := by
            rw [Array.filter_eq_empty_iff]
            intro e he
            obtain ⟨i, hi, _, _, hb⟩ := hborn e (Array.mem_filter.1 he).1
            simp; omega
          have hmem : ∀ e, e ∈ (E.filter fun e => !seen.contains e.born) → ∃ i, i ∈ left ∧ ∃ hi : i < es.length, ∃ hi' : i < E.size, E[i] = e ∧ e.born = i := fun e he => by
            obtain ⟨he1, he2⟩ := Array.mem_filter.1 he
            obtain ⟨i, hi, hi', q1, q2⟩ := hborn e he1
            refine ⟨i, (h3 i).2 ⟨by omega, ?_⟩, hi, hi', q1, q2⟩
            simpa [q2] using he2
          have hmem' : ∀ i ∈ left, ∃ e, e ∈ (E.filter fun e => !seen.contains e.born) := fun i hi => by
            obtain ⟨q1, q2⟩ := (h3 i).1 hi
            refine ⟨E[i]'(by omega), Array.mem_filter.2 ⟨Array.getElem_mem _, ?_⟩⟩
            rw [(hE3 i (by omega) (by omega)).2.2]
            simpa using q2
          split at h
          · have hemp : (E.filter fun e => !seen.contains e.born) = #[] := by
              rw [Array.eq_empty_iff_forall_not_mem]
              intro e he
              obtain ⟨i, hi, _⟩ := hmem e he
              cases hi
            obtain ⟨t, w', r1, r2, r3, r4, r5, r6⟩ := choose_next (P := P) w 1 (by omega)
            have ht : t = 0 := by omega
            subst ht
            refine .value (c := .tuple #[.bool false]) (w' := w') ?_ h (Step.same lk r3 r4 r5 r6) (hw.same r3) (.tup _ _ rfl fun k h1 h2 => ?_)
            · rw [next_run h1 hE1 #[] hc0 hemp (by rfl) (by rfl)]
              simp only [Array.isEmpty_empty, if_true, Array.map_empty, Array.append_empty]
              show (((choose (.mapNext 1)).run P w).andThen _) = _
              rw [r1]
              rfl
            · match k, h1, h2 with
              | 0, _, _ => exact .mkbool ..
              | k + 1, h1, _ => simp at h1
          · rename_i hne
            have hpos : 0 < (E.filter fun e => !seen.contains e.born).size := by
              cases left with
              | nil => exact absurd rfl (hne)
              | cons i l =>
                obtain ⟨e, he⟩ := hmem' i (by simp)
                exact Array.size_pos_of_mem he
            have hnemp : (E.filter fun e => !seen.contains e.born).isEmpty = false := by
              simp only [Array.isEmpty, decide_eq_false_iff_not]; omega
            have hL := next_run (P := P) (ty := ty) h1 hE1 _ hc0 rfl hold hnew
            simp only [hnemp, Bool.false_eq_true, if_false, Array.empty_append, Array.size_map] at hL
            obtain ⟨t, w', r1, r2, r3, r4, r5, r6⟩ := choose_next (P := P) w _ hpos
            rw [r1, Result.andThen_ok] at hL
            obtain ⟨i, hi, hi1, hi2, hie, hib⟩ := hmem _ (Array.getElem_mem r2)
            rw [List.all_eq_true] at h
            have hk := h i hi
            obtain ⟨kd, v, hes'⟩ : ∃ kd v, es[i]? = some (kd, v) := ⟨_, _, List.getElem?_eq_getElem hi1⟩
            rw [hes'] at hk
            simp only at hk
            have hEi := hE3 i hi1 hi2
            have hei : es[i] = (kd, v) := by rw [List.getElem?_eq_getElem hi1] at hes'; exact Option.some.inj hes'
            rw [hei] at hEi
            have hw' : WR σ H w' := hw.same r3
            have h1' : w'.heap[σ.mu id]? = some (.mapIter (some (σ.mu m)) n seen n) := by rw [r3]; exact h1
            have hlt : σ.mu id < w'.heap.size := hw'.size_lt hid trivial
            have hidm : m ≠ id := by intro q; subst q; rw [hid] at hes; cases hes
            obtain ⟨q1, q2⟩ := turn_obj (lk := lk) hw' hlk hid trivial rfl (b' := .iter m n (left.filter fun j => !(j == i)) (some i)) rfl (hw'.noMap h1' (fun _ _ _ q => by cases q)) (.mapIter (some (σ.mu m)) n (seen.push i) n) (fun ex => by
              refine ⟨(ex.fixed m hfm).1, seen.push i, ?_, back_push _ _, fun j => ?_, h4.filter _⟩
              · show (w'.heap.setIfInBounds (σ.mu id) _)[σ.mu id]? = _
                rw [Array.getElem?_setIfInBounds_self_of_lt hlt]
              · have := h3 j
                simp only [List.mem_filter, this, Array.toList_push, List.mem_append, List.mem_singleton, Bool.not_eq_true', beq_eq_false_iff_ne]
                constructor
                · rintro ⟨⟨a1, a2⟩, a3⟩
                  exact ⟨a1, fun q => q.elim a2 a3⟩
                · rintro ⟨a1, a2⟩
                  exact ⟨⟨a1, fun q => a2 (.inl q)⟩, fun q => a2 (.inr q)⟩)
            refine .value (c := .tuple #[.bool true, E[i].key, E[i].val]) ?_ hk ((Step.same lk r3 r4 r5 r6).trans q2) q1 ?_
            · rw [hL]
              simp only [Array.getElem?_map, Array.getElem?_eq_getElem r2, Option.map_some]
              rw [← hie] 
              simp only [Sem.run_bind]
              rw [run_setObj_it _ h1', hEi.2.2, hE2.trans hn]
              rfl
            · refine .tup _ _ rfl fun k h1 h2 => ?_
              match k, h1, h2 with
              | 0, _, _ => exact .mkbool ..
              | 1, _, _ => exact .d _ _ hEi.1
              | 2, _, _ => exact hEi.2.1.mono q2.ext
              | k + 3, h1, _ => simp at h1; omega
        · cases h
      · cases h
    · cases h
  · cases h
end Go.Gh
namespace Go.Gh
open Go.RowKit

def isCall : Op → Bool
  | .call c => match c.callee with | .builtin _ => false | _ => true
  | _ => false
def isNew (hint : Nat) : Op → Bool
  | .alloc _ => hint.beq 4
  | _ => false

theorem pw_one {σ : Sim} {H : List GB} {x : GV} {vs : List Value} (h : PW σ H [x] vs) : ∃ y, vs = [y] ∧ GR σ H x y := by
  match vs, h with
  | [y], h => exact ⟨y, rfl, h.2 0 (by simp) (by simp)⟩
  | [], h => have := h.1; simp at this
  | _ :: _ :: _, h => have := h.1; simp at this
theorem pw_two {σ : Sim} {H : List GB} {x x' : GV} {vs : List Value} (h : PW σ H [x, x'] vs) : ∃ y y', vs = [y, y'] ∧ GR σ H x y ∧ GR σ H x' y' := by
  match vs, h with
  | [y, y'], h => exact ⟨y, y', rfl, h.2 0 (by simp) (by simp), h.2 1 (by simp) (by simp)⟩
  | [], h => have := h.1; simp at this
  | [_], h => have := h.1; simp at this
  | _ :: _ :: _ :: _, h => have := h.1; simp at this

theorem gbuiltin_sound {P : Program} {gp : GP} (hty : TyT P gp) {lk : Nat} {σ : Sim} {H : List GB} {w : World} (hw : WR σ H w) (hlk : lk ≤ H.length) {b : Builtin} {ts : Array TypeId} {ty : TypeId} {cs : Array Bool} {xs : List GV} {vs : Array Value}
    (hp : PW σ H xs vs.toList) {k : CK} (h : gbuiltin gp lk b ts xs H k = true)
    (hmap : b = .len → ∃ t kt e ti, ts.toList = [t] ∧ gp.ty t = some ti ∧ ti.kind = .map kt e) : Runs P lk σ H w (builtin b ts ty cs vs) k := by
  unfold gbuiltin at h
  split at h
  · obtain ⟨t, kt, e, ti, ht, hti, hk⟩ := hmap rfl
    obtain ⟨y, hy, gy⟩ := pw_one hp
    have hy' : vs = #[y] := by rw [← Array.toArray_toList (xs := vs), hy]
    have ht' : ts = #[t] := by rw [← Array.toArray_toList (xs := ts), ht]
    subst hy' ht'
    cases gy with
    | map id hf =>
    split at h
    · rename_i es hes
      obtain ⟨E, hE1, hE2, hE3⟩ := hw.blk _ _ hes
      obtain ⟨d, hu, _, hk', _⟩ := (hty _ _ hti).under
      rw [hk] at hk'
      simp only [KOK] at hk'
      subst hk'
      refine .value (c := .int .i64 es.length) ?_ h (Step.refl ..) hw (.mkint ..)
      simp [Builtin.len_, hu, run_getObj_mp hE1, goInt, hE2]
    · cases h
  · rename_i s x
    obtain ⟨a, b, hab, ga, gb⟩ := pw_two hp
    have hab' : vs = #[a, b] := by rw [← Array.toArray_toList (xs := vs), hab]
    subst hab'
    split at h
    · rename_i sT xT r hts
      have h0 : ts[0]? = some sT := by rw [← Array.getElem?_toList, hts]; rfl
      have h1 : ts[1]? = some xT := by rw [← Array.getElem?_toList, hts]; rfl
      split at h
      · rename_i hx
        obtain ⟨c, w', σ', gv, H', r1, r2, r3, r4, r5⟩ := gappend_sound (P := P) (ty := ty) hty hw hlk h0 h1 ga gb ⟨_, _, hx, rfl⟩ h
        exact .value r1 r2 r3 r4 r5
      · cases h
    · cases h
  · rename_i s x
    obtain ⟨a, b, hab, ga, gb⟩ := pw_two hp
    have hab' : vs = #[a, b] := by rw [← Array.toArray_toList (xs := vs), hab]
    subst hab'
    split at h
    · rename_i dT r hts
      have h0 : ts[0]? = some dT := by rw [← Array.getElem?_toList, hts]; rfl
      exact copy_sound (ty := ty) hty hw h0 ga gb h
    · cases h
  · cases h

theorem gheap_sound {P : Program} {gp : GP} (hty : TyT P gp) {call : Call} {lk base hint : Nat} {σ : Sim} {H : List GB} {w : World} (hw : WR σ H w) (hlk : lk ≤ H.length) (hbase : lk ≤ base)
    {ρg : Operand → GV} {ρ : Operand → Value} (hO : ∀ x, GR σ H (ρg x) (ρ x)) {o : Oper} (hv : isV gp hint o = false) (hc : isCall o.op = false) {k : CK} (h : gheap gp call lk base hint o ρg H k = true) :
    Runs P lk σ H w (execOp ρ o) k := by
  obtain ⟨dst, op, type, pos, after, guard⟩ := o
  cases op with
  | assign x =>
    simp only [gheap, Bool.cond_eq_ite] at h
    split at h
    · rename_i hnil
      split at h
      · rename_i sz agg by_ zz e eq_ hts
        split at h
        · have hx := hO x
          have hnl : ρg x = .d (.lit nilS) := by
            revert hnil
            generalize ρg x = v
            intro hnil
            unfold isNilC at hnil
            split at hnil
            · rfl
            · cases hnil
          rw [hnl] at hx
          exact assignTok_sound hw hlk _ hx.lit h
        · cases h
      · cases h
    · exact ⟨ρ x, .value (ρ x), w, σ, _, H, rfl, .inl rfl, h, Step.refl .., hw, hO x⟩
  | alloc t => exact alloc_sound hty hw hlk h
  | box t x => exact box_sound hw hlk (hO x) hint h
  | load t a =>
    simp only [gheap] at h
    split at h
    · rename_i v hv'
      obtain ⟨c, h1, h2⟩ := load_sound hty hw (hO a) hv'
      exact .value h1 h (Step.refl ..) hw h2
    · cases h
  | store t a x => exact store_sound hty hw (hO a) (hO x) h
  | makeSlice t l c => exact makeSlice_sound hty hw hlk hbase (hO l) (hO c) h
  | buildSlice t len parts =>
    simp only [gheap, Bool.cond_eq_ite] at h
    split at h
    · rename_i sz agg by_ zz e eq_ hts
      split at h
      · rename_i ti hti
        split at h
        · rename_i es hes
          split at h
          · rename_i hcnd
            simp only [Bool.and_eq_true, Nat.ble_eq, Nat.beq_eq] at hcnd
            exact slc_sound hty hw hlk hts rfl hti hO parts hes hcnd.1 hcnd.2 h
          · cases h
        · cases h
      · cases h
    · cases h
  | makeMap t r =>
    cases r with
    | none => exact makeMap_sound hw hlk t h
    | some r => simp [gheap] at h
  | lookup t m x ok => exact lookup_sound hty hw (hO m) (hO x) ok h
  | mapUpdate t m x v => exact mapUpdate_sound hty hw (hO m) (hO x) (hO v) h
  | insert t m x v => exact mapUpdate_sound hty hw (hO m) (hO x) (hO v) h
  | range t m => exact range_sound hty hw hlk (hO m) h
  | next it s =>
    cases s with
    | false => exact next_sound hw (hO it) type h
    | true => simp [gheap] at h
  | entry it => exact entry_sound hw (hO it) h
  | call c =>
    simp only [gheap] at h
    split at h
    · rename_i b hb
      have hres : resolve ρ c type = pure { target := .builtin b c.argTypes type (c.args.map fun | .const _ => true | _ => false), args := c.args.map ρ } := by
        unfold resolve; rw [hb]; rfl
      have hexec : execOp ρ { dst, op := .call c, type, pos, after, guard } = builtin b c.argTypes type (c.args.map fun | .const _ => true | _ => false) (c.args.map ρ) := by
        simp only [execOp, hres]; rfl
      rw [hexec]
      refine gbuiltin_sound hty hw hlk (by simpa using PW.map hO c.args.toList) h ?_
      rintro rfl
      simp only [isV, hb] at hv
      split at hv
      · rename_i t ht
        split at hv
        · rename_i hts
          exact ⟨t, _, _, _, ht, hts, rfl⟩
        · cases hv
      · cases hv
    · rename_i f hf
      simp [isCall, hf] at hc
    · cases h
  | _ => simp [gheap] at h
end Go.Gh
namespace Go.Gh
open Go.RowKit

theorem gcore_run {P : Program} {gp : GP} (hty : TyT P gp) {call : Call} {lk base hint : Nat} {σ : Sim} {H : List GB} {w : World} (hw : WR σ H w) (hlk : lk ≤ H.length) (hbase : lk ≤ base)
    {ρg : Operand → GV} {ρ : Operand → Value} (hO : ∀ x, GR σ H (ρg x) (ρ x)) {o : Oper} (h4 : hint.beq 4 = false) (hc : isCall o.op = false) {k : CK} (h : gcore gp call lk base hint o ρg H k = true) :
    Runs P lk σ H w (execOp ρ o) k := by
  unfold gcore at h
  simp only [Bool.cond_eq_ite] at h
  split at h
  · rename_i hv
    split at h
    · rename_i v hg
      by_cases hh : heapish o.op = true
      · obtain ⟨dst, op, type, pos, after, guard⟩ := o
        cases op <;> try (simp [heapish] at hh; done)
        · simp only [isV] at hv
          rw [hv] at h4; cases h4
        · rename_i t len parts
          simp only [gval] at hg
          split at hg
          · rename_i sz agg by_ zz e eq_ hts
            split at hg
            · rename_i ti hti
              split at hg
              · rename_i es hes
                simp only [Bool.cond_eq_ite] at hg
                split at hg
                · rename_i hcnd
                  simp only [Bool.and_eq_true, Nat.ble_eq, Nat.beq_eq] at hcnd
                  cases hg
                  exact xl_sound hty hw hts rfl hti hO parts hes hcnd.1 hcnd.2 h
                · cases hg
              · cases hg
            · cases hg
          · cases hg
      · obtain ⟨c, h1, h2⟩ := gval_sound hty hw.imm hO hv (by simpa using hh) hg
        exact ⟨c, _, w, σ, v, H, h1, .inl rfl, h, Step.refl .., hw, h2⟩
    · cases h
  · rename_i hv
    exact gheap_sound hty hw hlk hbase hO (by simpa using hv) hc h
end Go.Gh
namespace Go.Gh
open Go.RowKit

/-- A variable that was made, and that the ghost machine does not hold yet. -/
structure NewAt (gp : GP) (N : Nat) (σ : Sim) (H : List GB) (w : World) (ty b : Nat) : Prop where
  lo : N ≤ b
  cells : ∃ ti c el, gp.ty ty = some ti ∧ w.heap[b]? = some (.cells c el (0, 0)) ∧ c.size = ti.size
  imm : ∀ a, a.block = b → σ.imm a = none
  own : ∀ id g, H[id]? = some g → Own σ id g → σ.mu id ≠ b

theorem NewAt.lt {gp : GP} {N : Nat} {σ : Sim} {H : List GB} {w : World} {ty b : Nat} (h : NewAt gp N σ H w ty b) : b < w.heap.size := by
  obtain ⟨ti, c, el, _, q, _⟩ := h.cells
  rcases Nat.lt_or_ge b w.heap.size with r | r
  · exact r
  · simp [Array.getElem?_eq_none r] at q

theorem NewAt.step {gp : GP} {N : Nat} {lk : Nat} {σ σ' : Sim} {H H' : List GB} {w w' : World} {ty b : Nat} (h : NewAt gp N σ H w ty b) (st : Step lk σ H w σ' H' w') : NewAt gp N σ' H' w' ty b := by
  refine ⟨h.lo, ?_, fun a ha => ?_, fun id g hg ho => ?_⟩
  · obtain ⟨ti, c, el, q1, q2, q3⟩ := h.cells
    refine ⟨ti, c, el, q1, ?_, q3⟩
    rw [st.frm b h.lt fun id g hg _ ho => h.own id g hg ho]
    exact q2
  · by_cases e : σ'.imm a = σ.imm a
    · rw [e]; exact h.imm a ha
    · rcases st.new a e with q | ⟨id, g, q1, _, q3, q4⟩
      · have := h.lt; omega
      · exact absurd (q4.trans ha) (h.own id g q1 q3)
  · rcases st.own id g hg ho with ⟨b0, q1, q2, q3⟩ | ⟨_, q⟩
    · rw [q3]; exact h.own id b0 q1 q2
    · have := h.lt; omega

structure SR (gp : GP) (lk : Nat) (σ0 : Sim) (H0 : List GB) (w0 : World) (n : Nat) (σ : Sim) (e : Env) (H : List GB) (a : Act) (w : World) : Prop where
  size : a.tmps.size = n
  defers : a.defers = []
  wr : WR σ H w
  step : Step lk σ0 H0 w0 σ H w
  lk : lk ≤ H.length
  env : ∀ t, GR σ H (e t) (a.tmps.getD t undef)
  new : ∀ t ty, e t = .new ty → ∃ b, a.tmps.getD t undef = .pointer (some ⟨b, 0, none⟩) ∧ NewAt gp w0.heap.size σ H w ty b
  dist : ∀ t t' ty ty', e t = .new ty → e t' = .new ty' → a.tmps.getD t undef = a.tmps.getD t' undef → t = t'

theorem GR.noNew {σ : Sim} {H : List GB} {x : GV} {v : Value} (h : GR σ H x v) : GR σ H (noNew x) v := by
  cases x <;> first | exact h | exact .und v

theorem noNew_ne (x : GV) (t : Nat) : noNew x ≠ .new t := by
  cases x <;> simp [Gh.noNew]

theorem put_get (a : Act) (dst : Option Tmp) (v : Value) (t : Nat) : (a.put dst v).tmps.getD t undef = if dst = some t ∧ t < a.tmps.size then v else a.tmps.getD t undef := by
  cases dst with
  | none => simp [Act.put]
  | some d =>
    simp only [Act.put, Option.some.injEq]
    by_cases h : d = t
    · subst h
      by_cases h2 : d < a.tmps.size
      · simp [Array.getD, h2]
      · simp [Array.getD, h2]
    · simp only [h, false_and, if_false]
      simp only [Array.getD, Array.size_setIfInBounds]
      split
      · rename_i h2
        exact Array.getElem_setIfInBounds_ne _ h
      · rfl
theorem put_size (a : Act) (dst : Option Tmp) (v : Value) : (a.put dst v).tmps.size = a.tmps.size := by cases dst <;> simp [Act.put]
theorem put_defers (a : Act) (dst : Option Tmp) (v : Value) : (a.put dst v).defers = a.defers := by cases dst <;> rfl

theorem SR.eval {gp : GP} {lk : Nat} {σ0 : Sim} {H0 : List GB} {w0 : World} {n : Nat} {σ : Sim} {e : Env} {H : List GB} {a : Act} {w : World} (h : SR gp lk σ0 H0 w0 n σ e H a w) (x : Operand) : GR σ H (opd e x) (a.eval x) := by
  cases x with
  | tmp t => exact (h.env t).noNew
  | const v =>
    unfold opd
    split
    · rename_i q; cases q
    · rename_i cs q; cases q
      simp only [Bool.cond_eq_ite]
      split
      · rename_i hc
        refine .d _ _ (.agg _ _ (by simp) fun k h1 h2 => ?_)
        simp only [List.length_map, Array.length_toList] at h1
        simp only [List.getElem_map, Array.getElem_toList]
        exact .lit _ (List.all_eq_true.1 hc _ (by simp))
      · exact .und _
    · rename_i v' q q'; cases q'
      simp only [Bool.cond_eq_ite]
      split
      · rename_i hc; exact .d _ _ (.lit _ hc)
      · exact .und _
    · rename_i q; cases q
    · rename_i q; cases q
  | global g => exact .d _ _ (.lit _ rfl)
  | func f => exact .d _ _ (.fn _ _ _ _ _ rfl rfl (fun k h => by simp at h) (fun k h => by simp at h))

/-- After an operation: what it gave is put. -/
theorem SR.after {gp : GP} {lk : Nat} {σ0 : Sim} {H0 : List GB} {w0 : World} {n : Nat} {σ σ' : Sim} {e : Env} {H H' : List GB} {a : Act} {w w' : World} (h : SR gp lk σ0 H0 w0 n σ e H a w)
    (st : Step lk σ H w σ' H' w') (wr : WR σ' H' w') {gv : GV} {c : Value} (g : GR σ' H' gv c) (dst : Option Tmp) (hd : ∀ d, dst = some d → d < n) :
    SR gp lk σ0 H0 w0 n σ' (put e dst (noNew gv)) H' (a.put dst c) w' := by
  have key : ∀ t ty, put e dst (noNew gv) t = .new ty → e t = .new ty ∧ dst ≠ some t := fun t ty ht => by
    cases dst with
    | none => exact ⟨ht, by simp⟩
    | some d =>
      simp only [put, Bool.cond_eq_ite] at ht
      split at ht
      · exact absurd ht (noNew_ne _ _)
      · rename_i hq
        exact ⟨ht, fun q => hq (by cases q; simp)⟩
  refine ⟨by rw [put_size]; exact h.size, by rw [put_defers]; exact h.defers, wr, h.step.trans st, Nat.le_trans h.lk st.len, fun t => ?_, fun t ty ht => ?_, fun t t' ty ty' ht ht' heq => ?_⟩
  · rw [put_get]
    cases dst with
    | none => simpa [put] using (h.env t).mono st.ext
    | some d =>
      have hdn := hd d rfl
      simp only [put, Bool.cond_eq_ite, Option.some.injEq, h.size]
      by_cases hq : d = t
      · subst hq
        simp only [Nat.beq_refl, if_true, true_and, hdn]
        exact g.noNew
      · have : (t.beq d) = false := by
          cases hb : t.beq d with
          | false => rfl
          | true => exact absurd (Nat.eq_of_beq_eq_true hb).symm hq
        simp only [this, hq, false_and, if_false, Bool.false_eq_true]
        exact (h.env t).mono st.ext
  · obtain ⟨q1, q2⟩ := key t ty ht
    obtain ⟨b, r1, r2⟩ := h.new t ty q1
    rw [put_get, if_neg (fun q => q2 q.1)]
    exact ⟨b, r1, r2.step st⟩
  · obtain ⟨q1, q2⟩ := key t ty ht
    obtain ⟨q1', q2'⟩ := key t' ty' ht'
    rw [put_get, if_neg (fun q => q2 q.1), put_get, if_neg (fun q => q2' q.1)] at heq
    exact h.dist t t' ty ty' q1 q1' heq
end Go.Gh
namespace Go.Gh
open Go.RowKit
variable {gp : GP} {lk : Nat} {σ0 : Sim} {H0 : List GB} {w0 : World} {n : Nat} {σ : Sim} {e : Env} {H : List GB} {a : Act} {w : World}

theorem ofL_map (f : Nat → GV) (u : Nat) : ∀ l : List Nat, ofL (l.map fun t => (t, f t)) u = f u ∨ ofL (l.map fun t => (t, f t)) u = .und
  | [] => .inr rfl
  | t :: r => by
    simp only [List.map_cons, ofL, Bool.cond_eq_ite]
    split
    · rename_i h
      have := Nat.eq_of_beq_eq_true h
      subst this
      exact .inl rfl
    · exact ofL_map f u r

theorem SR.keep (h : SR gp lk σ0 H0 w0 n σ e H a w) (k : Option (List Nat)) : SR gp lk σ0 H0 w0 n σ (keepE k e) H a w := by
  cases k with
  | none => exact h
  | some l =>
    have hk : ∀ t, keepE (some l) e t = noNew (e t) ∨ keepE (some l) e t = .und := fun t => ofL_map (fun t => noNew (e t)) t l
    have hn : ∀ t ty, keepE (some l) e t ≠ .new ty := fun t ty q => by
      rcases hk t with r | r
      · rw [r] at q; exact noNew_ne _ _ q
      · rw [r] at q; cases q
    refine ⟨h.size, h.defers, h.wr, h.step, h.lk, fun t => ?_, fun t ty q => absurd q (hn t ty), fun t t' ty ty' q => absurd q (hn t ty)⟩
    rcases hk t with r | r <;> rw [r]
    · exact (h.env t).noNew
    · exact .und _

theorem SR.allocNew {P : Program} (hty : TyT P gp) (h : SR gp lk σ0 H0 w0 n σ e H a w) {t : Nat} {ti : TI} (ht : gp.ty t = some ti) (dst : Option Tmp) (hd : ∀ d, dst = some d → d < n) :
    ∃ c w', (Instr.alloc t true (.tuple #[])).run P w = .ok c w' ∧ SR gp lk σ0 H0 w0 n σ (put e dst (.new t)) H (a.put dst c) w' := by
  obtain ⟨i, z, q1, q2, _, q3, q4⟩ := (hty _ _ ht).info
  have hrun : (Instr.alloc t true (.tuple #[])).run P w = .ok (.pointer (some ⟨w.heap.size, 0, none⟩)) (w.alloc (.cells z.cells t)) := by
    have hz : (zeroValue t).run P w = .ok z w := by simp [zeroValue, typeInfo, q1, q3]
    simp [Instr.alloc, newVar, newRow, hz]
  refine ⟨_, _, hrun, ?_⟩
  have hold : ∀ k, k < w.heap.size → (w.alloc (.cells z.cells t)).heap[k]? = w.heap[k]? := fun k hk => Below.heap_alloc w _ k hk
  have st : Step lk σ H w σ H (w.alloc (.cells z.cells t)) :=
    ⟨.refl σ H, rfl, rfl, rfl, by simp, fun k hk _ => hold k hk, fun id b h o => .inl ⟨b, h, o, rfl⟩, fun _ _ => ⟨rfl, rfl, rfl⟩, fun _ h => absurd rfl h, Nat.le_refl _⟩
  have wr : WR σ H (w.alloc (.cells z.cells t)) := h.wr.carry rfl rfl (fun _ _ q => q) (fun a v hv => by
      obtain ⟨r1, r2⟩ := h.wr.imm a v hv
      exact ⟨r1, (World.cell?_of_block (w := w) (hold a.block (block_lt_of_cell r2))).trans r2⟩) (fun id b hb ho => ⟨hold _ (h.wr.size_lt hb ho), fun _ _ => rfl⟩)
  have h1 := h.after st wr (gv := .und) (.und (.pointer (some ⟨w.heap.size, 0, none⟩))) dst hd
  have hnew : NewAt gp w0.heap.size σ H (w.alloc (.cells z.cells t)) t w.heap.size := by
    refine ⟨h.step.size, ⟨ti, z.cells, t, ht, heap_alloc_new w _, ?_⟩, fun b hb => ?_, fun id g hg ho => ?_⟩
    · rw [← Array.length_toList, q4]; exact (hty _ _ ht).zlen
    · cases hi : σ.imm b with
      | none => rfl
      | some v => have := block_lt_of_cell (h.wr.imm _ _ hi).2; omega
    · have := h.wr.size_lt hg ho; omega
  cases dst with
  | none => exact ⟨h1.size, h1.defers, h1.wr, h1.step, h1.lk, h1.env, h1.new, h1.dist⟩
  | some d =>
    have hdn := hd d rfl
    have hput : ∀ u, u ≠ d → put e (some d) (GV.new t) u = put e (some d) (noNew .und) u := fun u hu => by
      have : (u.beq d) = false := by
        cases hb : u.beq d with
        | false => rfl
        | true => exact absurd (Nat.eq_of_beq_eq_true hb) hu
      simp [put, this]
    have hval : (a.put (some d) (.pointer (some ⟨w.heap.size, 0, none⟩))).tmps.getD d undef = .pointer (some ⟨w.heap.size, 0, none⟩) := by
      rw [put_get, if_pos ⟨rfl, by rw [h.size]; exact hdn⟩]
    have hfar : ∀ u ty, u ≠ d → put e (some d) (GV.new t) u = .new ty → (a.put (some d) (.pointer (some ⟨w.heap.size, 0, none⟩))).tmps.getD u undef ≠ .pointer (some ⟨w.heap.size, 0, none⟩) := fun u ty hu hq heq => by
      have hu' : e u = .new ty := by
        have : (u.beq d) = false := by
          cases hb : u.beq d with
          | false => rfl
          | true => exact absurd (Nat.eq_of_beq_eq_true hb) hu
        simpa [put, this] using hq
      obtain ⟨b, r1, r2⟩ := h.new u ty hu'
      rw [put_get, if_neg (fun q => hu (by cases q.1; rfl)), r1] at heq
      have hlt := r2.lt
      injection heq with q
      injection q with q
      injection q with q
      omega
    refine ⟨h1.size, h1.defers, h1.wr, h1.step, h1.lk, fun u => ?_, fun u ty hu => ?_, fun u u' ty ty' hu hu' heq => ?_⟩
    · by_cases hud : u = d
      · subst hud
        simp only [put, Nat.beq_refl, cond_true]
        exact .new ..
      · rw [hput u hud]; exact h1.env u
    · by_cases hud : u = d
      · subst hud
        simp only [put, Nat.beq_refl, cond_true, GV.new.injEq] at hu
        subst hu
        exact ⟨_, hval, hnew⟩
      · rw [hput u hud] at hu; exact h1.new u ty hu
    · by_cases hud : u = d
      · by_cases hud' : u' = d
        · rw [hud, hud']
        · subst hud
          rw [hval] at heq
          exact absurd heq.symm (hfar u' ty' hud' hu')
      · by_cases hud' : u' = d
        · subst hud'
          rw [hval] at heq
          exact absurd heq (hfar u ty hud hu)
        · rw [hput u hud] at hu
          rw [hput u' hud'] at hu'
          exact h1.dist u u' ty ty' hu hu' heq
end Go.Gh
namespace Go.Gh
open Go.RowKit
variable {gp : GP} {lk : Nat} {σ0 : Sim} {H0 : List GB} {w0 : World} {n : Nat} {σ : Sim} {e : Env} {H : List GB} {a : Act} {w : World}

theorem Step.newer {σ' : Sim} {H' : List GB} {w' : World} {b : Nat} (st : Step lk σ0 H0 w0 σ H w) (e : Ext σ H σ' H') (ho : w'.os = w.os) (ht : w'.tape = w.tape) (hu : w'.output = w.output)
    (hs : w.heap.size ≤ w'.heap.size) (hfrm : ∀ k, k ≠ b → k < w.heap.size → w'.heap[k]? = w.heap[k]?) (hb : w0.heap.size ≤ b)
    (hown : ∀ id g, H'[id]? = some g → Own σ' id g → (H[id]? = some g ∧ Own σ id g ∧ σ'.mu id = σ.mu id) ∨ (lk ≤ id ∧ σ'.mu id = b))
    (hlock : ∀ id, id < lk → H'[id]? = H[id]? ∧ σ'.mu id = σ.mu id ∧ σ'.tok id = σ.tok id) (hnew : ∀ x, σ'.imm x ≠ σ.imm x → x.block = b) (hlen : H.length ≤ H'.length) : Step lk σ0 H0 w0 σ' H' w' := by
  refine ⟨st.ext.trans e, ho.trans st.os, ht.trans st.tape, hu.trans st.output, Nat.le_trans st.size hs, fun k hk hn => ?_, fun id g hg hog => ?_, fun id hid => ?_, fun x hx => ?_, Nat.le_trans st.len hlen⟩
  · rw [hfrm k (by omega) (Nat.lt_of_lt_of_le hk st.size)]; exact st.frm k hk hn
  · rcases hown id g hg hog with ⟨q1, q2, q3⟩ | ⟨q1, q2⟩
    · rcases st.own id g q1 q2 with ⟨b0, r1, r2, r3⟩ | ⟨r1, r2⟩
      · exact .inl ⟨b0, r1, r2, q3.trans r3⟩
      · exact .inr ⟨r1, q3 ▸ r2⟩
    · exact .inr ⟨q1, q2 ▸ hb⟩
  · obtain ⟨a1, b1, c1⟩ := st.lock id hid
    obtain ⟨a2, b2, c2⟩ := hlock id hid
    exact ⟨a2.trans a1, b2.trans b1, c2.trans c1⟩
  · by_cases q : σ'.imm x = σ.imm x
    · exact st.new x (by rw [← q]; exact hx)
    · have := hnew x q
      exact .inl (by omega)

/-- A variable that was made becomes the ghost machine's: its slot holds what leads to it. -/
theorem SR.become (h : SR gp lk σ0 H0 w0 n σ e H a w) {u ty b : Nat} (hu : e u = .new ty) (hub : a.tmps.getD u undef = .pointer (some ⟨b, 0, none⟩)) {σ' : Sim} {H' : List GB} {w' : World}
    (wr : WR σ' H' w') (st : Step lk σ0 H0 w0 σ' H' w') (ex : Ext σ H σ' H') {X : GV} (hX : GR σ' H' X (.pointer (some ⟨b, 0, none⟩))) (hXn : ∀ t, X ≠ .new t) (hlen : H.length ≤ H'.length)
    (hkeep : ∀ ty' b', b' ≠ b → NewAt gp w0.heap.size σ H w ty' b' → NewAt gp w0.heap.size σ' H' w' ty' b') :
    SR gp lk σ0 H0 w0 n σ' (put e (some u) X) H' a w' := by
  have hput : ∀ t, t ≠ u → put e (some u) X t = e t := fun t ht => by
    have : (t.beq u) = false := by
      cases hb : t.beq u with
      | false => rfl
      | true => exact absurd (Nat.eq_of_beq_eq_true hb) ht
    simp [put, this]
  have hself : put e (some u) X u = X := by simp [put]
  have hne : ∀ t ty', put e (some u) X t = .new ty' → t ≠ u ∧ e t = .new ty' := fun t ty' q => by
    by_cases hq : t = u
    · subst hq; rw [hself] at q; exact absurd q (hXn _)
    · rw [hput t hq] at q; exact ⟨hq, q⟩
  refine ⟨h.size, h.defers, wr, st, Nat.le_trans h.lk hlen, fun t => ?_, fun t ty' q => ?_, fun t t' ty1 ty2 q q' heq => h.dist t t' ty1 ty2 (hne t ty1 q).2 (hne t' ty2 q').2 heq⟩
  · by_cases hq : t = u
    · subst hq; rw [hself, hub]; exact hX
    · rw [hput t hq]; exact (h.env t).mono ex
  · obtain ⟨q1, q2⟩ := hne t ty' q
    obtain ⟨b', r1, r2⟩ := h.new t ty' q2
    refine ⟨b', r1, hkeep ty' b' (fun hb => ?_) r2⟩
    subst hb
    exact q1 (h.dist t u ty' ty q2 hu (r1.trans hub.symm))
end Go.Gh
namespace Go.Gh
open Go.RowKit
variable {gp : GP} {lk : Nat} {σ0 : Sim} {H0 : List GB} {w0 : World} {n : Nat} {σ : Sim} {e : Env} {H : List GB} {a : Act} {w : World}

theorem store_run {P : Program} (hty : TyT P gp) {t b : Nat} {ti : TI} (ht : gp.ty t = some ti) {c : Array Value} {el : TypeId} (hb : w.heap[b]? = some (.cells c el (0, 0))) (hc : c.size = ti.size) {v : Value} (hv : v.cells.size = ti.size)
    (hone : ∀ x ∈ v.cells.toList, x.oneCell' = true) : (Instr.storeAt t (.pointer (some ⟨b, 0, none⟩)) v).run P w = .ok () (w.setRow b v.cells) := by
  have hst := run_storeCells_at (P := P) b 0 el v.cells.toList 0 c w hb (by simp; omega) hone
  simp only [Nat.add_zero, Nat.zero_add] at hst
  have hd : c.toList.drop v.cells.toList.length = [] := List.drop_eq_nil_of_le (by simp; omega)
  simp only [List.take_zero, List.nil_append, hd, List.append_nil] at hst
  simp [Instr.storeAt, Instr.sureAddr, storeVar, (hty _ _ ht).sizeOf, hv, hst]

theorem SR.storeHeap {P : Program} (hty : TyT P gp) (h : SR gp lk σ0 H0 w0 n σ e H a w) {u t : Nat} {ti : TI} (hu : e u = .new t) (ht : gp.ty t = some ti) {x : GV} {v : Value} (gx : GR σ H x v) (hl : x.cells.length = ti.size) (hok : x.cells.all cellOk = true) :
    ∃ σ' w', (Instr.storeAt t (a.tmps.getD u undef) v).run P w = .ok () w' ∧ SR gp lk σ0 H0 w0 n σ' (put e (some u) (.ptr H.length 0)) (H ++ [.cells x.cells]) a w' := by
  obtain ⟨b, hub, nw⟩ := h.new u t hu
  obtain ⟨ti', c, el, q1, q2, q3⟩ := nw.cells
  rw [ht] at q1; cases q1
  have hyc := gx.cells hok
  have hone : ∀ y ∈ v.cells.toList, y.oneCell' = true := fun y hy => by
    obtain ⟨q, hq, hqv⟩ := List.getElem_of_mem hy
    have hq' : q < x.cells.length := by rw [← hyc.1]; exact hq
    rw [← hqv]
    exact (hyc.2 q hq' hq).flat (List.all_eq_true.1 hok _ (List.getElem_mem hq'))
  have hvs : v.cells.size = ti.size := by have := hyc.1; simp at this; omega
  have hrun := store_run (P := P) (w := w) hty ht q2 q3 hvs hone
  rw [hub]
  have hoth : ∀ k, k ≠ b → (w.setRow b v.cells).heap[k]? = w.heap[k]? := fun k hk => setRow_other w _ k _ hk
  let σ' : Sim := { σ with mu := upd σ.mu H.length b }
  have ex : Ext σ H σ' (H ++ [.cells x.cells]) := by
    refine ⟨fun id hf => ?_, fun t L sz ht => ?_, fun _ _ h => h⟩
    · obtain ⟨c, hc, hfc⟩ := hf
      have hlt : id < H.length := (List.getElem?_eq_some_iff.1 hc).1
      exact ⟨⟨c, by rw [get_append_ne (by omega)]; exact hc, hfc⟩, upd_ne _ _ (by omega)⟩
    · have hlt : t < H.length := (List.getElem?_eq_some_iff.1 ht).1
      exact ⟨L, by rw [get_append_ne (by omega)]; exact ht, Nat.le_refl _, fun _ => rfl⟩
  have hmu : σ'.mu H.length = b := upd_same _ _ _
  have wr : WR σ' (H ++ [.cells x.cells]) (w.setRow b v.cells) := by
    refine h.wr.turn ex H.length (fun j hj => get_append_ne hj) (fun j hj => upd_ne _ _ hj) (fun _ _ => rfl) (fun y z hy => ?_) (fun j bj hj hjb ho => ⟨hoth _ (nw.own j bj hjb ho), fun _ _ => rfl⟩) (fun g hg => ?_) (fun g hg ho j bj hj hjb hoj => ?_)
    · obtain ⟨r1, r2⟩ := h.wr.imm y z hy
      refine ⟨r1, (World.cell?_of_block (w := w) (hoth _ fun q => ?_)).trans r2⟩
      rw [nw.imm y q] at hy; cases hy
    · rw [get_append_same] at hg; cases hg
      refine ⟨v.cells, el, ?_, by have := hyc.1; simpa using this, fun k h1 h2 => (hyc.2 k h1 (by simpa using h2)).mono ex, fun o s => ?_⟩
      · rw [hmu]; exact setRow_heap w _ c _ el (0, 0) q2
      · rw [hmu]; exact nw.imm _ rfl
    · rw [hmu]; exact nw.own j bj hjb hoj
  have st : Step lk σ0 H0 w0 σ' (H ++ [.cells x.cells]) (w.setRow b v.cells) := by
    refine h.step.newer (b := b) ex rfl rfl rfl (by simp) (fun k hk _ => hoth k hk) nw.lo (fun id g hg ho => ?_) (fun id hid => ?_) (fun y hy => absurd rfl hy) (by simp)
    · by_cases hi : id = H.length
      · subst hi; exact .inr ⟨h.lk, hmu⟩
      · rw [get_append_ne hi] at hg
        exact .inl ⟨hg, ho.congr rfl, upd_ne _ _ hi⟩
    · have := h.lk
      exact ⟨get_append_ne (by omega), upd_ne _ _ (by omega), rfl⟩
  refine ⟨σ', _, hrun, h.become hu hub wr st ex ?_ (fun t q => by cases q) (by simp) (fun ty' b' hb' nw' => ?_)⟩
  · have := GR.ptr (σ := σ') (H := H ++ [.cells x.cells]) H.length 0 ⟨_, get_append_same H _, rfl⟩
    rw [hmu] at this; exact this
  · refine ⟨nw'.lo, ?_, nw'.imm, fun id g hg ho => ?_⟩
    · obtain ⟨ti', c', el', r1, r2, r3⟩ := nw'.cells
      exact ⟨ti', c', el', r1, by rw [hoth b' hb']; exact r2, r3⟩
    · by_cases hi : id = H.length
      · subst hi; rw [hmu]; exact Ne.symm hb'
      · rw [get_append_ne hi] at hg
        show upd σ.mu H.length b id ≠ b'
        rw [upd_ne _ _ hi]
        exact nw'.own id g hg (ho.congr rfl)
end Go.Gh
namespace Go.Gh
open Go.RowKit
variable {gp : GP} {lk : Nat} {σ0 : Sim} {H0 : List GB} {w0 : World} {n : Nat} {σ : Sim} {e : Env} {H : List GB} {a : Act} {w : World}

theorem SR.storeImm {P : Program} (hty : TyT P gp) (h : SR gp lk σ0 H0 w0 n σ e H a w) {u t : Nat} {ti : TI} (hu : e u = .new t) (ht : gp.ty t = some ti) {x : GV} {y : DV} {v : Value} (gx : GR σ H x v) (hy : toD x = some y) (hl : x.cells.length = ti.size) (hok : x.cells.all cellOk = true) :
    ∃ σ' w', (Instr.storeAt t (a.tmps.getD u undef) v).run P w = .ok () w' ∧ SR gp lk σ0 H0 w0 n σ' (put e (some u) (.d (.vptr [y] 0 0))) H a w' := by
  obtain ⟨b, hub, nw⟩ := h.new u t hu
  obtain ⟨ti', c, el, q1, q2, q3⟩ := nw.cells
  rw [ht] at q1; cases q1
  have hyc := gx.cells hok
  have hone : ∀ y ∈ v.cells.toList, y.oneCell' = true := fun y hy => by
    obtain ⟨q, hq, hqv⟩ := List.getElem_of_mem hy
    have hq' : q < x.cells.length := by rw [← hyc.1]; exact hq
    rw [← hqv]
    exact (hyc.2 q hq' hq).flat (List.all_eq_true.1 hok _ (List.getElem_mem hq'))
  have hvs : v.cells.size = ti.size := by have := hyc.1; simp at this; omega
  have hrun := store_run (P := P) (w := w) hty ht q2 q3 hvs hone
  rw [hub]
  have hoth : ∀ k, k ≠ b → (w.setRow b v.cells).heap[k]? = w.heap[k]? := fun k hk => setRow_other w _ k _ hk
  have hat : (w.setRow b v.cells).heap[b]? = some (.cells v.cells el (0, 0)) := setRow_heap w _ c _ el (0, 0) q2
  let σ' : Sim := { σ with imm := rest σ.imm b v.cells }
  have himm : ∀ y z, σ.imm y = some z → σ'.imm y = some z := fun y z hz => by
    show rest σ.imm b v.cells y = some z
    rw [rest_out]; exact hz
    intro q; rw [nw.imm y q] at hz; cases hz
  have ex : Ext σ H σ' H := ⟨fun _ hf => ⟨hf, rfl⟩, fun t L sz ht => ⟨L, ht, Nat.le_refl _, fun _ => rfl⟩, himm⟩
  have wr : WR σ' H (w.setRow b v.cells) := h.wr.carry rfl rfl himm (fun y z hz => by
      simp only [σ', rest] at hz
      split at hz
      · rename_i hq
        obtain ⟨r1, r2, r3⟩ := hq
        refine ⟨r2, ?_⟩
        obtain ⟨blk, off, spot⟩ := y
        simp only at r1 r2 r3 hz
        subst r1 r2
        simp only [World.cell?, hat]
        exact hz
      · obtain ⟨r1, r2⟩ := h.wr.imm y z hz
        refine ⟨r1, (World.cell?_of_block (w := w) (hoth _ fun q => ?_)).trans r2⟩
        rw [nw.imm y q] at hz; cases hz) (fun id g hg ho => ⟨hoth _ (nw.own id g hg ho), fun y hy => rest_out (by rw [hy]; exact nw.own id g hg ho)⟩)
  have st : Step lk σ0 H0 w0 σ' H (w.setRow b v.cells) :=
    h.step.newer (b := b) ex rfl rfl rfl (by simp) (fun k hk _ => hoth k hk) nw.lo (fun id g hg ho => .inl ⟨hg, ho.congr rfl, rfl⟩) (fun id hid => ⟨rfl, rfl, rfl⟩) (fun y hy => by
      rcases Nat.decEq y.block b with q | q
      · exact absurd (rest_out q) hy
      · exact q) (Nat.le_refl _)
  refine ⟨σ', _, hrun, h.become hu hub wr st ex (.d _ _ ?_) (fun t q => by cases q) (Nat.le_refl _) (fun ty' b' hb' nw' => ?_)⟩
  · have hd := toD_sound hy gx
    obtain ⟨hc1, hc2⟩ := hd.cells
    have hfl : flat [y] = y.cells := by simp [flat]
    have hv := DR.vptr (imm := σ'.imm) [y] y.cells.length 0 0 ⟨b, 0, none⟩ (fun k => v.cells.getD k undef) (by simp) (fun k hk => by
      rw [hfl] at hk
      simp only [Nat.zero_add]
      show rest σ.imm b v.cells ⟨b, k, none⟩ = _
      rw [rest_in (by omega)]
      simp [Array.getD, show k < v.cells.size by omega]) (fun k hk => by
      have hk' : k < y.cells.length := by rw [hfl] at hk; exact hk
      have : (flat [y])[k] = y.cells[k] := by simp only [hfl]
      rw [this]
      have := (hc2 k hk' (by omega)).mono himm
      simpa [Array.getD, show k < v.cells.size by omega] using this)
    simpa using hv
  · refine ⟨nw'.lo, ?_, fun y hy => ?_, fun id g hg ho => nw'.own id g hg (ho.congr rfl)⟩
    · obtain ⟨ti', c', el', r1, r2, r3⟩ := nw'.cells
      exact ⟨ti', c', el', r1, by rw [hoth b' hb']; exact r2, r3⟩
    · show rest σ.imm b v.cells y = none
      rw [rest_out (by rw [hy]; exact hb')]; exact nw'.imm y hy
end Go.Gh
namespace Go.Gh
open Go.RowKit
variable {gp : GP} {lk : Nat} {σ0 : Sim} {H0 : List GB} {w0 : World} {n : Nat} {σ : Sim} {e : Env} {H : List GB} {a : Act} {w : World}

theorem freeze (h : WR σ H w) {id : Nat} (hlk : lk ≤ id) {cs : List GV} (hid : H[id]? = some (.cells cs)) {l : List DV} (hl : toDs cs = some l) :
    ∃ (c : Array Value) (σ' : Sim), WR σ' (H.set id .dead) w ∧ Step lk σ H w σ' (H.set id .dead) w ∧ σ'.mu = σ.mu ∧ c.size = l.length ∧ l.length = cs.length ∧ (∀ k, k < c.size → σ'.imm ⟨σ.mu id, k, none⟩ = some (c.getD k undef)) ∧
      ∀ k (h1 : k < l.length), DR σ'.imm l[k] (c.getD k undef) := by
  have hlt : id < H.length := (List.getElem?_eq_some_iff.1 hid).1
  obtain ⟨c, el, hc1, hc2, hc3, hc4⟩ := h.blk id _ hid
  have hpw : PW σ H cs c.toList := ⟨by simpa using hc2, fun k h1 h2 => hc3 k h1 (by simpa using h2)⟩
  obtain ⟨q1, q2⟩ := toDs_sound hl hpw
  have hcl : c.size = l.length := by omega
  have hH : ∀ j, j ≠ id → (H.set id .dead)[j]? = H[j]? := fun j hj => List.getElem?_set_ne (Ne.symm hj)
  have hHs : (H.set id .dead)[id]? = some .dead := List.getElem?_set_self hlt
  let σ' : Sim := { σ with imm := rest σ.imm (σ.mu id) c }
  have himm : ∀ y z, σ.imm y = some z → σ'.imm y = some z := fun y z hz => by
    show rest σ.imm (σ.mu id) c y = some z
    rw [rest_out]; exact hz
    intro q; obtain ⟨b, o, s⟩ := y; simp only at q; subst q; rw [hc4] at hz; cases hz
  have e : Ext σ H σ' (H.set id .dead) := by
    refine ⟨fun j hf => ⟨?_, rfl⟩, fun t L sz ht => ⟨L, ?_, Nat.le_refl _, fun _ => rfl⟩, himm⟩
    · by_cases hj : j = id
      · subst hj; exact ⟨_, hHs, rfl⟩
      · obtain ⟨b, hb, hbf⟩ := hf; exact ⟨b, by rw [hH j hj]; exact hb, hbf⟩
    · have hj : t ≠ id := by intro q; subst q; rw [hid] at ht; cases ht
      rw [hH t hj]; exact ht
  refine ⟨c, σ', ?_, ?_, rfl, hcl, q1, fun k hk => ?_, fun k h1 => ?_⟩
  · refine h.turn e id hH (fun _ _ => rfl) (fun _ _ => rfl) (fun y z hz => ?_) (fun j b hj hjb ho => ⟨rfl, fun y hy => rest_out (by rw [hy]; exact h.inj j id b _ hjb hid ho trivial hj)⟩) (fun b hb => ?_) (fun b hb ho => ?_)
    · simp only [σ', rest] at hz
      split at hz
      · rename_i hq
        obtain ⟨r1, r2, r3⟩ := hq
        refine ⟨r2, ?_⟩
        obtain ⟨blk, off, spot⟩ := y
        simp only at r1 r2 r3 hz
        subst r1 r2
        simp only [World.cell?, hc1]
        exact hz
      · exact h.imm y z hz
    · rw [hHs] at hb; cases hb; trivial
    · rw [hHs] at hb; cases hb; exact ho.elim
  · refine Step.turn e id hlk hH (fun _ _ => rfl) (fun _ _ => rfl) rfl rfl rfl (Nat.le_refl _) (by simp) (fun k hk hn => rfl) (fun b hb ho => ?_) (fun y hy => ?_)
    · rw [hHs] at hb; cases hb; exact ho.elim
    · rcases Nat.decEq y.block (σ.mu id) with q | q
      · exact absurd (rest_out q) hy
      · exact .inr ⟨_, hid, trivial, q.symm⟩
  · show rest σ.imm (σ.mu id) c _ = _
    rw [rest_in hk]
    simp [Array.getD, hk]
  · have := (q2 k h1 (by simp; omega)).mono himm
    simpa [Array.getD, show k < c.size by omega] using this
end Go.Gh
namespace Go.Gh
open Go.RowKit
variable {gp : GP} {lk : Nat} {σ0 : Sim} {H0 : List GB} {w0 : World} {n : Nat} {σ : Sim} {e : Env} {H : List GB} {a : Act} {w : World}

theorem frzR_ok {σ : Sim} {H : List GB} {es : List DV} {n c : Nat} {a : Option Addr} {cap : Option Nat} (hlen : es.length = n) (hd : DR σ.imm (.list es) (.slice a n c)) (hm : ∀ m, cap = some m → c = m) : GR σ H (frzR n cap es) (.slice a n c) := by
  unfold frzR
  split
  · rename_i m
    have := hm m rfl
    subst this
    simp only [Bool.cond_eq_ite, Nat.beq_eq]
    split
    · rename_i q; subst q; subst hlen; exact .xl _ _ hd
    · exact .d _ _ hd
  · exact .d _ _ hd
theorem frzV_sound {P : Program} (hty : TyT P gp) (h : WR σ H w) {x x' : GV} {v : Value} (g : GR σ H x v) {el : Nat} {H' : List GB} (hf : frzV gp lk H el x = some (x', H')) :
    ∃ σ', WR σ' H' w ∧ Step lk σ H w σ' H' w ∧ GR σ' H' x' v := by
  unfold frzV at hf
  split at hf
  · rename_i id
    cases g with
    | ptr _ _ hfx =>
    split at hf
    · rename_i cs hid
      split at hf
      · rename_i l hl
        simp only [Bool.cond_eq_ite] at hf
        split at hf
        · rename_i hc
          simp only [Bool.and_eq_true, Nat.ble_eq] at hc
          cases hf
          obtain ⟨c, σ', q1, q2, q3, q4, q7, q5, q6⟩ := freeze h hc.1 hid hl
          refine ⟨σ', q1, q2, .d _ _ ?_⟩
          have hfl : flat [DV.agg l] = l := by simp [flat, DV.cells]
          have hv := DR.vptr (imm := σ'.imm) [.agg l] l.length 0 0 ⟨σ.mu id, 0, none⟩ (fun k => c.getD k undef) (by simp [DV.cells]) (fun k hk => by
            rw [hfl] at hk
            simp only [Nat.zero_add]
            exact q5 k (by omega)) (fun k hk => by
            have hk' : k < l.length := by rw [hfl] at hk; exact hk
            have : (flat [DV.agg l])[k] = l[k] := by simp only [hfl]
            rw [this]
            exact q6 k hk')
          simpa using hv
        · cases hf
      · cases hf
    · cases hf
  · rename_i id off n cap
    cases g with
    | slc _ _ _ _ A c hfx hcc ha hm =>
    split at hf
    · rename_i ti hti
      split at hf
      · rename_i cs hid
        simp only [Bool.cond_eq_ite] at hf
        split at hf
        · rename_i hle
          simp only [Nat.ble_eq] at hle
          split at hf
          · rename_i l hl
            split at hf
            · rename_i hc
              simp only [Bool.and_eq_true, Nat.ble_eq] at hc
              cases hf
              obtain ⟨cv, σ', q1, q2, q3, q4, hcl, q5, q6⟩ := freeze h hc.1 hid hl
              refine ⟨σ', q1, q2, ?_⟩
              have hll : ((l.drop off).take (n * ti.size)).length = n * ti.size := by simp; omega
              obtain ⟨r1, r2, r3⟩ := chunk_ok (hty _ _ hti).one n _ hll (by
                rw [List.all_eq_true]
                intro y hy
                exact List.all_eq_true.1 hc.2 y (List.drop_subset _ _ (List.take_subset _ _ hy)))
              have hlen : (chunk ti.size ti.agg n ((l.drop off).take (n * ti.size))).length = n := r1
              refine frzR_ok hlen ?_ hm
              by_cases hn0 : n = 0
              · subst hn0
                have : chunk ti.size ti.agg 0 ((l.drop off).take (0 * ti.size)) = [] := rfl
                rw [this]
                exact .nil _ _
              · have hA := ha (by omega)
                subst hA
                have hv := DR.list (imm := σ'.imm) (chunk ti.size ti.agg n ((l.drop off).take (n * ti.size))) ti.size ⟨σ.mu id, off, none⟩ c (fun k => cv.getD (off + k) undef) (by omega) r2 (fun k hk => by
                  rw [r3, hll] at hk
                  exact q5 (off + k) (by omega)) (fun k hk => by
                  have hk' : k < n * ti.size := by rw [r3, hll] at hk; exact hk
                  have e1 : (flat (chunk ti.size ti.agg n ((l.drop off).take (n * ti.size))))[k] = l[off + k]'(by omega) := by
                    simp only [r3, List.getElem_take, List.getElem_drop]
                  rw [e1]
                  exact q6 _ _) rfl (fun y hy => by
                  rw [r3] at hy
                  exact List.all_eq_true.1 hc.2 y (List.drop_subset _ _ (List.take_subset _ _ hy)))
                rw [hlen] at hv
                exact hv
            · cases hf
          · cases hf
        · cases hf
      · cases hf
    · cases hf
  · cases hf; exact ⟨σ, h, Step.refl .., g⟩
end Go.Gh
namespace Go.Gh
open Go.RowKit
variable {gp : GP} {lk : Nat} {σ0 : Sim} {H0 : List GB} {w0 : World} {n : Nat}

theorem frzR_new (n : Nat) (cap : Option Nat) (l : List DV) (t : Nat) : frzR n cap l ≠ .new t := by
  unfold frzR
  split
  · simp only [Bool.cond_eq_ite]; split <;> simp
  · simp
theorem frzV_new {gp : GP} {lk : Nat} {H H' : List GB} {el : Nat} {x x' : GV} (hf : frzV gp lk H el x = some (x', H')) (t : Nat) (h : x' = .new t) : x = .new t := by
  subst h
  unfold frzV at hf
  split at hf
  · split at hf
    · split at hf
      · simp only [Bool.cond_eq_ite] at hf
        split at hf <;> cases hf
      · cases hf
    · cases hf
  · split at hf
    · split at hf
      · simp only [Bool.cond_eq_ite] at hf
        split at hf
        · split at hf
          · split at hf
            · injection hf with q
              injection q with q1 _
              exact absurd q1 (frzR_new _ _ _ _)
            · cases hf
          · cases hf
        · cases hf
      · cases hf
    · cases hf
  · cases hf; rfl

theorem SR.frz {P : Program} (hty : TyT P gp) : ∀ (l : List (Nat × Nat)) {σ : Sim} {e : Env} {H : List GB} {a : Act} {w : World}, SR gp lk σ0 H0 w0 n σ e H a w → ∀ {K : St → Bool}, Gh.frz gp lk l { env := e, heap := H } K = true →
    ∃ σ' e' H', SR gp lk σ0 H0 w0 n σ' e' H' a w ∧ K { env := e', heap := H' } = true := by
  intro l
  induction l with
  | nil => intro σ e H a w h K hk; exact ⟨σ, e, H, h, hk⟩
  | cons p r ih =>
    intro σ e H a w h K hk
    obtain ⟨t, el⟩ := p
    simp only [Gh.frz] at hk
    split at hk
    · rename_i v H' hf
      obtain ⟨σ', q1, q2, q3⟩ := frzV_sound (lk := lk) hty h.wr (h.env t) hf
      refine ih (σ := σ') (e := put e (some t) v) (H := H') (a := a) (w := w) ?_ hk
      have hput : ∀ u, u ≠ t → put e (some t) v u = e u := fun u hu => by
        have : (u.beq t) = false := by
          cases hb : u.beq t with
          | false => rfl
          | true => exact absurd (Nat.eq_of_beq_eq_true hb) hu
        simp [put, this]
      have hself : put e (some t) v t = v := by simp [put]
      have hold : ∀ u ty, put e (some t) v u = .new ty → e u = .new ty := fun u ty hq => by
        by_cases hu : u = t
        · subst hu; rw [hself] at hq; exact frzV_new hf ty hq
        · rw [hput u hu] at hq; exact hq
      refine ⟨h.size, h.defers, q1, h.step.trans q2, Nat.le_trans h.lk q2.len, fun u => ?_, fun u ty hq => ?_, fun u u' ty ty' hq hq' heq => h.dist u u' ty ty' (hold u ty hq) (hold u' ty' hq') heq⟩
      · by_cases hu : u = t
        · subst hu; rw [hself]; exact q3
        · rw [hput u hu]; exact (h.env u).mono q2.ext
      · obtain ⟨b, r1, r2⟩ := h.new u ty (hold u ty hq)
        exact ⟨b, r1, r2.step q2⟩
    · cases hk
end Go.Gh
namespace Go.Gh
open Go.RowKit
variable {gp : GP} {lk : Nat} {σ0 : Sim} {H0 : List GB} {w0 : World} {n : Nat}

theorem wanted_sound {σ : Sim} {e : Env} {H : List GB} {a : Act} {w : World} (h : SR gp lk σ0 H0 w0 n σ e H a w) {ops : Array Oper} {o : Oper} {b : Bool} (hb : wantedG ops o e = some b) :
    Region.wanted o (yielded ops a.tmps) = b := by
  unfold wantedG at hb
  unfold Region.wanted
  split at hb
  · rename_i hg; rw [hg]; cases hb; rfl
  · rename_i j want hg
    rw [hg]
    simp only
    split at hb
    · rename_i t op ty pos aft gd hj
      have hd : ((ops[j]?).bind (·.dst)).bind (a.tmps[·]?) = a.tmps[t]? := by rw [hj]; rfl
      have ht := h.env t
      unfold yielded
      rw [hd]
      split at hb
      · rename_i he
        cases hb
        rw [he] at ht
        by_cases hlt : t < a.tmps.size
        · simp only [Array.getD, hlt, dif_pos] at ht
          rw [Array.getElem?_eq_getElem hlt]
          simp only [Array.getInternal_eq_getElem] at ht
          generalize a.tmps[t] = v at ht
          cases ht with
          | tup _ vs hs => rfl
        · rw [Array.getElem?_eq_none (Nat.le_of_not_lt hlt)]; rfl
      · split at hb
        · rename_i c hc
          cases hb
          have hv := ht.bool hc
          by_cases hlt : t < a.tmps.size
          · simp only [Array.getD, hlt, dif_pos, Array.getInternal_eq_getElem] at hv
            rw [Array.getElem?_eq_getElem hlt, hv]
            rfl
          · simp [Array.getD, hlt, undef] at hv
        · cases hb
    · cases hb

theorem SR.skip {σ : Sim} {e : Env} {H : List GB} {a : Act} {w : World} (h : SR gp lk σ0 H0 w0 n σ e H a w) (dst : Option Tmp) (hd : ∀ d, dst = some d → d < n) : SR gp lk σ0 H0 w0 n σ (put e dst (.tup [])) H (a.put dst undef) w :=
  h.after (Step.refl ..) h.wr (gv := .tup []) (.tup [] #[] rfl fun k h1 => by simp at h1) dst hd
end Go.Gh
namespace Go.Gh
open Go.RowKit

theorem restore {lk lk' : Nat} {σ σ' : Sim} {H H1 H' : List GB} {w w' : World} (h : WR σ H w) (st : Step lk' σ H1 w σ' H' w') (h' : WR σ' H' w') (hno : ∀ id b, H1[id]? = some b → lk' ≤ id → ¬ Own σ id b) :
    WR { σ with imm := σ'.imm } H w' ∧ Step lk σ H w { σ with imm := σ'.imm } H w' := by
  have hold : ∀ k, k < w.heap.size → w'.heap[k]? = w.heap[k]? := fun k hk => st.frm k hk fun id b hb hl ho => absurd ho (hno id b hb hl)
  have himm : ∀ a, a.block < w.heap.size → σ'.imm a = σ.imm a := fun a ha => by
    by_cases q : σ'.imm a = σ.imm a
    · exact q
    · rcases st.new a q with r | ⟨id, b, r1, r2, r3, _⟩
      · omega
      · exact absurd r3 (hno id b r1 r2)
  have ex : Ext σ H { σ with imm := σ'.imm } H := ⟨fun _ hf => ⟨hf, rfl⟩, fun t L sz ht => ⟨L, ht, Nat.le_refl _, fun _ => rfl⟩, st.ext.imm⟩
  refine ⟨h.carry rfl rfl st.ext.imm h'.imm fun id b hb ho => ⟨hold _ (h.size_lt hb ho), fun a ha => himm a (by have := h.size_lt hb ho; omega)⟩,
    ex, st.os, st.tape, st.output, st.size, fun k hk _ => hold k hk, fun id b hb ho => .inl ⟨b, hb, ho.congr rfl, rfl⟩, fun _ _ => ⟨rfl, rfl, rfl⟩, fun a ha => ?_, Nat.le_refl _⟩
  rcases Nat.lt_or_ge a.block w.heap.size with q | q
  · exact absurd (himm a q) ha
  · exact .inl q
end Go.Gh
namespace Go.Gh
open Go.RowKit

theorem retD1_sound {σ σ' : Sim} {H H' : List GB} (hi : σ'.imm = σ.imm) {x y : GV} {v : Value} (g : GR σ H x v) (h : retD1 x = some y) : GR σ' H' y v := by
  unfold retD1 at h
  split at h
  · cases h
    cases g with
    | xl _ a hd => exact .xl _ _ (by rw [hi]; exact hd)
  · split at h
    · rename_i z hz; cases h
      exact .d _ _ (by rw [hi]; exact toD_sound hz g)
    · cases h

theorem retDs_sound {σ σ' : Sim} {H H' : List GB} (hi : σ'.imm = σ.imm) : ∀ {l m : List GV} {vs : List Value}, PW σ H l vs → retDs l = some m → PW σ' H' m vs
  | [], m, vs, hp, h => by simp only [retDs] at h; cases h; exact ⟨hp.1, fun k h1 => by simp at h1⟩
  | x :: r, m, [], hp, h => by have := hp.1; simp at this
  | x :: r, m, v :: vs, hp, h => by
    simp only [retDs] at h
    split at h
    · rename_i y hy
      split at h
      · rename_i ys hys; cases h
        have h1 := retD1_sound (H' := H') hi (hp.2 0 (by simp) (by simp)) hy
        have h2 := retDs_sound (H' := H') hi (vs := vs) ⟨by have := hp.1; simpa using this, fun k a b => by have := hp.2 (k + 1) (by simpa using a) (by simpa using b); simpa using this⟩ hys
        refine ⟨by have := h2.1; simpa using this, fun k a b => ?_⟩
        cases k with
        | zero => exact h1
        | succ k => simpa using h2.2 k (by simpa using a) (by simpa using b)
      · cases h
    · cases h

theorem retD_sound {σ σ' : Sim} {H H' : List GB} (hi : σ'.imm = σ.imm) {x y : GV} {v : Value} (g : GR σ H x v) (h : retD x = some y) : GR σ' H' y v := by
  unfold retD at h
  split at h
  · split at h
    · rename_i l hl; cases h
      cases g with
      | tup _ vs hs hd =>
        have := retDs_sound (H' := H') hi (vs := vs.toList) ⟨by simpa using hs, fun k a b => hd k a (by simpa using b)⟩ hl
        exact .tup _ _ (by have := this.1; simpa using this) fun k a b => this.2 k a (by simpa using b)
    · cases h
  · exact retD1_sound hi g h

/-- What a call of the ghost machine stands for. -/
def CS (P : Program) (call : Call) : Prop :=
  ∀ (lk g : Nat) (args : List GV) (H : List GB) (k : CK) (σ : Sim) (w : World) (cargs : Array Value), call lk g args H k = true → WR σ H w → lk ≤ H.length → PW σ H args cargs.toList →
    (∃ fn, P.funcs[g]? = some fn ∧ (fn.name == "runtime.NumGoroutine") = false ∧ fn.body.isNone = false) ∧
    Calls P g cargs w fun e w' => ∃ v σ' gv H', e = .returned v ∧ k gv H' = true ∧ Step lk σ H w σ' H' w' ∧ WR σ' H' w' ∧ GR σ' H' gv v

theorem toDAll_sound {σ σ' : Sim} {H H' : List GB} (hi : σ'.imm = σ.imm) : ∀ {l : List GV} {m : List DV} {vs : List Value}, PW σ H l vs → toDAll l = some m → PW σ' H' (m.map .d) vs
  | [], m, vs, hp, h => by simp only [toDAll] at h; cases h; exact ⟨hp.1, fun k h1 => by simp at h1⟩
  | x :: r, m, [], hp, h => by have := hp.1; simp at this
  | x :: r, m, v :: vs, hp, h => by
    simp only [toDAll] at h
    split at h
    · rename_i y hy
      split at h
      · rename_i ys hys; cases h
        have h1 : DR σ'.imm y v := by rw [hi]; exact toD_sound hy (hp.2 0 (by simp) (by simp))
        have h2 := toDAll_sound (H' := H') hi (vs := vs) ⟨by have := hp.1; simpa using this, fun k a b => by have := hp.2 (k + 1) (by simpa using a) (by simpa using b); simpa using this⟩ hys
        refine ⟨by have := h2.1; simpa using this, fun k a b => ?_⟩
        cases k with
        | zero => exact .d _ _ h1
        | succ k =>
          have := h2.2 k (by simpa using a) (by simpa using b)
          simp only [List.map_cons, List.getElem_cons_succ]
          exact this
      · cases h
    · cases h
end Go.Gh
namespace Go.Gh
open Go.RowKit
variable {gp : GP} {lk : Nat} {σ0 : Sim} {H0 : List GB} {w0 : World} {n : Nat}

theorem callT_sound {P : Program} {σ : Sim} {H : List GB} {w : World} {f : GV} {fv : Value} (gf : GR σ H f fv) {xs : List GV} {vs : Array Value} (hp : PW σ H xs vs.toList) {g : Nat} {args : List GV} (h : callT f xs = some (g, args)) :
    ∃ first captured, fv = .func (.func g) first captured ∧ PW σ H args (first ++ vs ++ captured).toList := by
  unfold callT at h
  split at h
  · rename_i g' x y
    cases h
    cases gf with
    | d _ _ hd =>
      cases hd with
      | fn _ _ _ a b hx hy h1 h2 =>
        refine ⟨a, b, rfl, ?_⟩
        simp only [Array.toList_append]
        refine PW.append (PW.append ⟨by simpa using hx, fun k p q => ?_⟩ hp) ⟨by simpa using hy, fun k p q => ?_⟩
        · simp only [List.getElem_map, Array.getElem_toList]
          exact .d _ _ (h1 k (by simpa using p) (by simpa using q))
        · simp only [List.getElem_map, Array.getElem_toList]
          exact .d _ _ (h2 k (by simpa using p) (by simpa using q))
  · rename_i g' x y
    cases h
    cases gf with
    | fn _ _ _ a b hx hy h1 h2 =>
      refine ⟨a, b, rfl, ?_⟩
      simp only [Array.toList_append]
      exact PW.append (PW.append ⟨by simpa using hx, fun k p q => h1 k p (by simpa using q)⟩ hp) ⟨by simpa using hy, fun k p q => h2 k p (by simpa using q)⟩
  · cases h

def After (lk : Nat) (σ : Sim) (H : List GB) (w : World) (k : CK) (e : Ending) (w' : World) : Prop :=
  ∃ v σ' gv H', e = .returned v ∧ k gv H' = true ∧ Step lk σ H w σ' H' w' ∧ WR σ' H' w' ∧ GR σ' H' gv v

theorem gheap_call {P : Program} {call : Call} (hcs : CS P call) {lk base hint : Nat} {σ : Sim} {H : List GB} {w : World} (hw : WR σ H w) (hlk : lk ≤ H.length)
    {ρg : Operand → GV} {ρ : Operand → Value} (hO : ∀ x, GR σ H (ρg x) (ρ x)) {o : Oper} (hc : isCall o.op = true) {k : CK} (h : gheap gp call lk base hint o ρg H k = true) :
    ∃ g cargs, (execOp ρ o).run P w = .ok (.enter g cargs) w ∧ Calls P g cargs w (After lk σ H w k) := by
  obtain ⟨dst, op, type, pos, after, guard⟩ := o
  cases op <;> try (simp [isCall] at hc; done)
  rename_i c
  simp only [gheap] at h
  split at h
  · rename_i b hb
    simp [isCall, hb] at hc
  · rename_i f hf
    split at h
    · rename_i g args hg
      have hargs : PW σ H (c.args.toList.map ρg) (c.args.map ρ).toList := by simpa using PW.map hO c.args.toList
      obtain ⟨fst, cap, hfv, hp⟩ := callT_sound (P := P) (w := w) (hO f) hargs hg
      have run : (∃ fn, P.funcs[g]? = some fn ∧ (fn.name == "runtime.NumGoroutine") = false ∧ fn.body.isNone = false) →
          (execOp ρ { dst, op := .call c, type, pos, after, guard }).run P w = .ok (.enter g (fst ++ c.args.map ρ ++ cap)) w := by
        rintro ⟨fn, hfn, hname, hbody⟩
        have hprog : (program).run P w = .ok P w := rfl
        have hres : (resolve ρ c type).run P w = .ok { target := .fn (.func g) cap, args := fst ++ c.args.map ρ } w := by
          simp [resolve, hf, hfv, Deferred.ofValue]
        have hcall : (callFunc g (fst ++ c.args.map ρ ++ cap)).run P w = .ok (.enter g (fst ++ c.args.map ρ ++ cap)) w := by
          have h1 : fn.name ≠ "runtime.NumGoroutine" := by simpa using hname
          have h2 : fn.body ≠ none := by intro q; rw [q] at hbody; cases hbody
          simp [callFunc, hprog, hfn, h1, h2]
        simp only [execOp, Sem.run_bind, hres, Result.andThen_ok, invoke]
        exact hcall
      simp only [Bool.cond_eq_ite] at h
      split at h
      · split at h
        · rename_i ds hds
          have hp0 := toDAll_sound (σ' := σ) (H' := []) rfl hp hds
          have hw0 : WR σ [] w := ⟨hw.imm, fun id b hb => by simp at hb, fun i j bi bj hb => by simp at hb⟩
          obtain ⟨hfn, hcalls⟩ := hcs 0 g _ [] _ σ w _ h hw0 (Nat.le_refl _) hp0
          refine ⟨_, _, run hfn, hcalls.mono fun e w' => ?_⟩
          rintro ⟨v, σ', gv, H', rfl, hk, st, wr, gr⟩
          split at hk
          · rename_i r' hr'
            obtain ⟨q1, q2⟩ := restore (lk := lk) hw st wr (fun id b hb => by simp at hb)
            exact ⟨v, _, r', H, rfl, hk, q2, q1, retD_sound (σ := σ') (σ' := { σ with imm := σ'.imm }) rfl gr hr'⟩
          · cases hk
        · cases h
      · split at h
        · obtain ⟨hfn, hcalls⟩ := hcs H.length g _ H _ σ w _ h hw (Nat.le_refl _) hp
          refine ⟨_, _, run hfn, hcalls.mono fun e w' => ?_⟩
          rintro ⟨v, σ', gv, H', rfl, hk, st, wr, gr⟩
          split at hk
          · rename_i r' hr'
            obtain ⟨q1, q2⟩ := restore (lk := lk) hw st wr (fun id b hb hl => by
              have := (List.getElem?_eq_some_iff.1 hb).1
              omega)
            exact ⟨v, _, r', H, rfl, hk, q2, q1, retD_sound (σ := σ') (σ' := { σ with imm := σ'.imm }) rfl gr hr'⟩
          · cases hk
        · obtain ⟨hfn, hcalls⟩ := hcs lk g _ H _ σ w _ h hw hlk hp
          exact ⟨_, _, run hfn, hcalls⟩
    · cases h
  · cases h
end Go.Gh
