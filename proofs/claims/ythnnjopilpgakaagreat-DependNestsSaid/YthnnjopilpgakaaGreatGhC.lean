/-
  THE GHOST MACHINE: one operation of a region, and a row of them.
-/
import Derived.Test.YthnnjopilpgakaaGreatGhB
import Derived.LoopN
import Derived.IntWalk
set_option linter.unusedVariables false
set_option linter.unusedSimpArgs false
namespace Go.Gh
open Go.RowKit
variable {gp : GP} {lk : Nat} {σ0 : Sim} {H0 : List GB} {w0 : World} {n : Nat}

/-- What is left to be shown behind a step: the state relation, and that the ghost machine goes on. -/
def Held (gp : GP) (lk : Nat) (σ0 : Sim) (H0 : List GB) (w0 : World) (n : Nat) (K : St → Bool) (a : Act) (w : World) : Prop :=
  ∃ σ e H, SR gp lk σ0 H0 w0 n σ e H a w ∧ K { env := e, heap := H } = true

theorem putput {x : GV} {e : Env} {u : Nat} : put (put e (some u) x) none .und = put e (some u) x := rfl

theorem gop_sound {P : Program} (hty : TyT P gp) {call : Call} (hcs : CS P call) {base : Nat} (hbase : lk ≤ base) {hs : List (Nat × Nat)} {ops : Array Oper} {Q : Exit → Act → World → Prop} {σ : Sim} {e : Env} {H : List GB} {a : Act} {w : World}
    (h : SR gp lk σ0 H0 w0 n σ e H a w) {i : Nat} {o : Oper} (ho : ops[i]? = some o) (hd : ∀ d, o.dst = some d → d < n) {K : St → Bool} (hg : gop gp call lk base hs ops i o { env := e, heap := H } K = true) :
    wpOp P ops Q i (Held gp lk σ0 H0 w0 n K) a w := by
  unfold wpOp
  simp only [ho]
  unfold gop at hg
  simp only [Bool.cond_eq_ite] at hg
  split at hg
  case h_2 => cases hg
  rename_i b hb
  have hw := wanted_sound h hb
  rw [hw]
  split at hg
  case isFalse hbf =>
    have : b = false := by cases b <;> simp_all
    subst this
    exact ⟨σ, _, H, h.skip o.dst hd, hg⟩
  case isTrue hbt =>
    subst hbt
    simp only [if_true]
    left
    unfold Oper.wp
    split at hg
    · -- a new variable
      obtain ⟨dst, op, type, pos, after, guard⟩ := o
      cases op <;> try (simp at hg; done)
      rename_i t
      simp only at hg
      split at hg
      · rename_i ti hti
        obtain ⟨c, w', r1, r2⟩ := h.allocNew hty hti dst hd
        have : (execOp a.eval { dst, op := .alloc t, type, pos, after, guard }).run P w = .ok (.value c) w' := execV r1
        rw [this, Oper.upon_value]
        exact ⟨σ, _, H, r2, hg⟩
      · cases hg
    · rename_i h4
      split at hg
      · -- the store that initialises
        obtain ⟨dst, op, type, pos, after, guard⟩ := o
        cases op <;> try (simp at hg; done)
        rename_i t ad x
        cases ad <;> try (simp at hg; done)
        rename_i u
        simp only at hg
        split at hg
        · rename_i t' hu
          split at hg
          · rename_i ti hti
            split at hg
            · rename_i hc
              simp only [Bool.and_eq_true, Nat.beq_eq] at hc
              obtain ⟨⟨c1, c2⟩, c3⟩ := hc
              subst c1
              have gx := h.eval x
              have hstore : ∀ w' : World, (Instr.storeAt t' (a.tmps.getD u undef) (a.eval x)).run P w = .ok () w' →
                  (execOp a.eval { dst, op := .store t' (.tmp u) x, type, pos, after, guard }).run P w = .ok .skip w' := fun w' hr => by
                show ((do Instr.storeAt t' (a.eval (.tmp u)) (a.eval x); pure Next.skip : Sem Next)).run P w = _
                have hr' : (Instr.storeAt t' (a.eval (.tmp u)) (a.eval x)).run P w = .ok () w' := hr
                simp only [Sem.run_bind, hr', Result.andThen_ok, Sem.run_pure]
              split at hg
              · rename_i y hy
                split at hy
                · obtain ⟨σ', w', r1, r2⟩ := h.storeImm hty hu hti gx hy c2 c3
                  rw [hstore _ r1, Oper.upon_skip]
                  have := r2.after (Step.refl ..) r2.wr (gv := .und) (c := undef) (.und _) dst hd
                  exact ⟨σ', _, H, this, hg⟩
                · cases hy
              · obtain ⟨σ', w', r1, r2⟩ := h.storeHeap hty hu hti gx c2 c3
                rw [hstore _ r1, Oper.upon_skip]
                have := r2.after (Step.refl ..) r2.wr (gv := .und) (c := undef) (.und _) dst hd
                exact ⟨σ', _, _, this, hg⟩
            · cases hg
          · cases hg
        · cases hg
      · -- all others
        by_cases hc : isCall o.op = true
        · have hv : isV gp (hintOf hs i) o = false := by
            obtain ⟨dst, op, type, pos, after, guard⟩ := o
            cases op <;> try (simp [isCall] at hc; done)
            rename_i c
            simp only [isCall] at hc
            simp only [isV]
            split at hc
            · cases hc
            · rename_i hnb
              split <;> first | rfl | (rename_i hb'; exact absurd hb' (hnb _))
          unfold gcore at hg
          rw [hv] at hg
          simp only [cond_false] at hg
          obtain ⟨g, cargs, r1, r2⟩ := gheap_call (P := P) hcs h.wr h.lk h.eval hc hg
          rw [r1, Oper.upon_enter]
          refine r2.mono fun en w' => ?_
          rintro ⟨v, σ', gv, H', rfl, hk, st, wr, gr⟩
          exact ⟨σ', _, H', h.after st wr gr o.dst hd, hk⟩
        · obtain ⟨c, r, w', σ', gv, H', r1, r2, hk, st, wr, gr⟩ := gcore_run hty h.wr h.lk hbase h.eval (Bool.eq_false_iff.2 h4) (Bool.eq_false_iff.2 hc) hg
          have hend : Held gp lk σ0 H0 w0 n K (a.put o.dst c) w' := ⟨σ', _, H', h.after st wr gr o.dst hd, hk⟩
          rw [r1]
          rcases r2 with rfl | ⟨rfl, rfl⟩
          · rw [Oper.upon_value]; exact hend
          · rw [Oper.upon_skip]; exact hend

def dstOk (n : Nat) (ops : Array Oper) : Bool := ops.all fun o => match o.dst with | some d => d.blt n | none => true
theorem dstOk.lt {ops : Array Oper} (h : dstOk n ops = true) {i : Nat} {o : Oper} (ho : ops[i]? = some o) : ∀ d, o.dst = some d → d < n := fun d hd => by
  have := Array.all_eq_true_iff_forall_mem.1 h o (Array.mem_of_getElem? ho)
  rw [hd] at this
  simpa [Nat.blt_eq] using this

theorem gops_sound {P : Program} (hty : TyT P gp) {call : Call} (hcs : CS P call) {base : Nat} (hbase : lk ≤ base) {hs : List (Nat × Nat)} {ops : Array Oper} (hn : dstOk n ops = true) {Q : Exit → Act → World → Prop} {K : St → Bool}
    (hQ : ∀ a w, Held gp lk σ0 H0 w0 n K a w → Q .normal a w) :
    ∀ (l : List (Nat × Oper)) {σ : Sim} {e : Env} {H : List GB} {a : Act} {w : World}, (∀ p ∈ l, ops[p.1]? = some p.2) → SR gp lk σ0 H0 w0 n σ e H a w → gops gp call lk base hs ops l { env := e, heap := H } K = true →
      wpOps P ops Q (l.map (·.1)) a w
  | [], σ, e, H, a, w, _, h, hg => hQ _ _ ⟨σ, e, H, h, hg⟩
  | (i, o) :: r, σ, e, H, a, w, hl, h, hg => by
    simp only [List.map_cons]
    rw [wpOps_cons]
    have ho : ops[i]? = some o := hl (i, o) (by simp)
    refine wpOp_mono ?_ (gop_sound hty hcs hbase h ho (dstOk.lt hn ho) hg)
    rintro a' w' ⟨σ', e', H', h', hk⟩
    exact gops_sound hty hcs hbase hn hQ r (fun p hp => hl p (List.mem_cons_of_mem _ hp)) h' hk
end Go.Gh
namespace Go.Gh
open Go.RowKit
variable {gp : GP} {lk : Nat} {σ0 : Sim} {H0 : List GB} {w0 : World} {n : Nat}

theorem append_rep {H : List GB} {r id : Nat} {b : GB} (h : (H ++ List.replicate r GB.resv)[id]? = some b) : H[id]? = some b ∨ b = .resv := by
  rcases Nat.lt_or_ge id H.length with q | q
  · rw [List.getElem?_append_left q] at h; exact .inl h
  · rw [List.getElem?_append_right q, List.getElem?_replicate] at h
    split at h
    · cases h; exact .inr rfl
    · cases h
theorem append_old {H R : List GB} {id : Nat} {b : GB} (h : H[id]? = some b) : (H ++ R)[id]? = some b := by
  have := (List.getElem?_eq_some_iff.1 h).1
  rw [List.getElem?_append_left this]; exact h

theorem ext_resv (σ : Sim) (H : List GB) (r : Nat) : Ext σ H σ (H ++ List.replicate r .resv) :=
  ⟨fun id ⟨b, h1, h2⟩ => ⟨⟨b, append_old h1, h2⟩, rfl⟩, fun t L sz h => ⟨L, append_old h, Nat.le_refl _, fun _ => rfl⟩, fun _ _ h => h⟩

theorem WR.resv {σ : Sim} {H : List GB} {w : World} (h : WR σ H w) (r : Nat) : WR σ (H ++ List.replicate r .resv) w := by
  refine ⟨h.imm, fun id b hb => ?_, fun i j bi bj hi hj oi oj hne => ?_⟩
  · rcases append_rep hb with q | rfl
    · have hk := h.blk id b q
      cases b with
      | cells cs => obtain ⟨c, el, h1, h2, h3, h4⟩ := hk; exact ⟨c, el, h1, h2, fun k a b => (h3 k a b).mono (ext_resv σ H r), h4⟩
      | tail L sz => exact hk
      | map es => obtain ⟨E, h1, h2, h3⟩ := hk; exact ⟨E, h1, h2, fun k a b => ⟨(h3 k a b).1, (h3 k a b).2.1.mono (ext_resv σ H r), (h3 k a b).2.2⟩⟩
      | iter m n l c =>
        obtain ⟨hf, s, h1, h2⟩ := hk
        exact ⟨((ext_resv σ H r).fixed m hf).1, s, h1, h2⟩
      | resv => trivial
      | dead => trivial
    · trivial
  · rcases append_rep hi with q | rfl
    · rcases append_rep hj with q' | rfl
      · exact h.inj i j bi bj q q' oi oj hne
      · exact oj.elim
    · exact oi.elim

theorem step_resv {σ : Sim} {H : List GB} {w : World} (hlk : lk ≤ H.length) (r : Nat) : Step lk σ H w σ (H ++ List.replicate r .resv) w := by
  refine ⟨ext_resv σ H r, rfl, rfl, rfl, Nat.le_refl _, fun _ _ _ => rfl, fun id b hb ho => ?_, fun id hid => ⟨?_, rfl, rfl⟩, fun _ h => absurd rfl h, by simp⟩
  · rcases append_rep hb with q | rfl
    · exact .inl ⟨b, q, ho, rfl⟩
    · exact ho.elim
  · rw [List.getElem?_append_left (Nat.lt_of_lt_of_le hid hlk)]

theorem SR.resv {σ : Sim} {e : Env} {H : List GB} {a : Act} {w : World} (h : SR gp lk σ0 H0 w0 n σ e H a w) (r : Nat) : SR gp lk σ0 H0 w0 n σ e (H ++ List.replicate r .resv) a w := by
  have st := step_resv (lk := lk) (σ := σ) (w := w) h.lk r
  exact ⟨h.size, h.defers, h.wr.resv r, h.step.trans st, Nat.le_trans h.lk st.len, fun t => (h.env t).mono st.ext, fun t ty q => by
    obtain ⟨b, q1, q2⟩ := h.new t ty q
    exact ⟨b, q1, q2.step st⟩, h.dist⟩

theorem number_get {α : Type} : ∀ (l : List α) (i : Nat) (p : Nat × α), p ∈ number i l → i ≤ p.1 ∧ l[p.1 - i]? = some p.2
  | [], _, _, h => by simp [number] at h
  | x :: r, i, p, h => by
    simp only [number, List.mem_cons] at h
    rcases h with rfl | h
    · simp
    · obtain ⟨h1, h2⟩ := number_get r (i + 1) p h
      refine ⟨by omega, ?_⟩
      have : p.1 - i = (p.1 - (i + 1)) + 1 := by omega
      rw [this]; simpa using h2
theorem number_map {α : Type} : ∀ (l : List α) (i : Nat), (number i l).map (·.1) = List.range' i l.length
  | [], _ => rfl
  | x :: r, i => by simp [number, number_map r (i + 1), List.range'_succ]

/-- A region does what the ghost machine says. -/
def RegOK (P : Program) (gp : GP) (call : Call) (f n id : Nat) (ops : Array Oper) (draw : Bool) : Prop :=
  ∀ {lk : Nat} {σ0 : Sim} {H0 : List GB} {w0 : World} {σ : Sim} {e : Env} {H : List GB} {a : Act} {w : World} {K : St → Bool} {Q : Exit → Act → World → Prop},
    SR gp lk σ0 H0 w0 n σ e H a w → gregion gp call lk f id ops { env := e, heap := H } K = true → (∀ a w, Held gp lk σ0 H0 w0 n K a w → Q .normal a w) → (Code.region id ops draw).wp P Q a w

theorem region_still {P : Program} (hty : TyT P gp) {call : Call} (hcs : CS P call) {f id : Nat} {ops : Array Oper} (hn : dstOk n ops = true) : RegOK P gp call f n id ops false := by
  intro lk σ0 H0 w0 σ e H a w K Q h hg hQ
  unfold gregion at hg
  obtain ⟨σ1, e1, H1, h1, hg⟩ := SR.frz hty (gp.hint f id).pre (h.keep (gp.hint f id).keep) hg
  have hg : gops gp call lk H1.length (gp.hint f id).ops ops (number 0 ops.toList) { env := e1, heap := H1 ++ List.replicate (gp.hint f id).resv .resv }
      (fun s' => Gh.frz gp lk (gp.hint f id).frz s' K) = true := by
    split at hg
    · exact hg
    · simp only [Bool.cond_eq_ite] at hg
      split at hg
      · assumption
      · cases hg
  refine wp_region ?_
  have hr := number_map ops.toList 0
  simp only [Array.length_toList] at hr
  rw [List.range_eq_range', ← hr]
  refine gops_sound hty hcs h1.lk hn (Q := Q) ?_ (number 0 ops.toList) (fun p hp => ?_) (h1.resv _) hg
  · rintro a' w' ⟨σ', e', H', h', hk⟩
    obtain ⟨σ2, e2, H2, h2, hk⟩ := SR.frz hty (gp.hint f id).frz h' hk
    exact hQ _ _ ⟨σ2, e2, H2, h2, hk⟩
  · obtain ⟨_, h2⟩ := number_get ops.toList 0 p hp
    simpa using h2

def CodeOK (P : Program) (gp : GP) (call : Call) (f n : Nat) : Code → Prop
  | .region id ops draw => RegOK P gp call f n id ops draw
  | .seq a b => CodeOK P gp call f n a ∧ CodeOK P gp call f n b
  | .cond _ a b => CodeOK P gp call f n a ∧ CodeOK P gp call f n b
  | .block _ c => CodeOK P gp call f n c
  | .loop c => CodeOK P gp call f n c
  | _ => True

def exOf : GX → Exit
  | .normal => .normal
  | .exit i => .exit i
  | .ret => .ret

theorem rounds_of {P : Program} {c : Code} {body : St → (GX → St → Bool) → Bool} {K : GX → St → Bool} {Q : Exit → Act → World → Prop}
    (hb : ∀ {K' : GX → St → Bool} {Q' : Exit → Act → World → Prop} {σ : Sim} {e : Env} {H : List GB} {a : Act} {w : World}, SR gp lk σ0 H0 w0 n σ e H a w → body { env := e, heap := H } K' = true →
      (∀ x a w, Held gp lk σ0 H0 w0 n (K' x) a w → Q' (exOf x) a w) → c.wp P Q' a w)
    (hQ : ∀ x a w, Held gp lk σ0 H0 w0 n (K x) a w → Q (exOf x) a w) :
    ∀ (m : Nat) {σ : Sim} {e : Env} {H : List GB} {a : Act} {w : World}, SR gp lk σ0 H0 w0 n σ e H a w → giter body m { env := e, heap := H } K = true → Code.rounds P c Q m a w
  | 0, _, _, _, _, _, _, hg => by simp [giter] at hg
  | m + 1, σ, e, H, a, w, h, hg => by
    simp only [giter] at hg
    rw [rounds_succ]
    refine hb h hg fun x a' w' => ?_
    rintro ⟨σ', e', H', h', hk⟩
    cases x with
    | normal => exact rounds_of hb hQ m h' hk
    | exit i => exact hQ (.exit i) _ _ ⟨σ', e', H', h', hk⟩
    | ret => exact hQ .ret _ _ ⟨σ', e', H', h', hk⟩

theorem gx_sound {P : Program} {call : Call} {f L : Nat} : ∀ (c : Code), CodeOK P gp call f n c → ∀ {K : GX → St → Bool} {Q : Exit → Act → World → Prop} {σ : Sim} {e : Env} {H : List GB} {a : Act} {w : World},
    SR gp lk σ0 H0 w0 n σ e H a w → gx gp call lk f L c { env := e, heap := H } K = true → (∀ x a w, Held gp lk σ0 H0 w0 n (K x) a w → Q (exOf x) a w) → c.wp P Q a w
  | .skip, _, K, Q, σ, e, H, a, w, h, hg, hQ => wp_skip (hQ .normal _ _ ⟨σ, e, H, h, hg⟩)
  | .region id ops d, hc, K, Q, σ, e, H, a, w, h, hg, hQ => hc h hg (hQ .normal)
  | .seq x y, hc, K, Q, σ, e, H, a, w, h, hg, hQ => by
    simp only [gx] at hg
    refine wp_seq (gx_sound x hc.1 h hg fun z a' w' => ?_)
    rintro ⟨σ', e', H', h', hk⟩
    cases z with
    | normal => exact gx_sound y hc.2 h' hk hQ
    | exit i => exact hQ (.exit i) _ _ ⟨σ', e', H', h', hk⟩
    | ret => exact hQ .ret _ _ ⟨σ', e', H', h', hk⟩
  | .cond c x y, hc, K, Q, σ, e, H, a, w, h, hg, hQ => by
    simp only [gx] at hg
    split at hg
    · rename_i t ht
      have := (h.eval c).bool ht
      cases t
      · exact wp_cond_false this (gx_sound y hc.2 h hg hQ)
      · exact wp_cond_true this (gx_sound x hc.1 h hg hQ)
    · cases hg
  | .block id c, hc, K, Q, σ, e, H, a, w, h, hg, hQ => by
    simp only [gx] at hg
    refine wp_block (gx_sound c hc h hg fun z a' w' => ?_)
    rintro ⟨σ', e', H', h', hk⟩
    cases z with
    | normal => exact hQ .normal _ _ ⟨σ', e', H', h', hk⟩
    | exit i =>
      simp only [exOf, Exit.inBlock]
      simp only [Bool.cond_eq_ite, Nat.beq_eq] at hk
      split at hk
      · rename_i q; rw [if_pos q]; exact hQ .normal _ _ ⟨σ', e', H', h', hk⟩
      · rename_i q; rw [if_neg q]; exact hQ (.exit i) _ _ ⟨σ', e', H', h', hk⟩
    | ret => exact hQ .ret _ _ ⟨σ', e', H', h', hk⟩
  | .loop c, hc, K, Q, σ, e, H, a, w, h, hg, hQ => by
    simp only [gx] at hg
    exact wp_loop_rounds L (rounds_of (fun h' hg' hQ' => gx_sound c hc h' hg' hQ') hQ L h hg)
  | .exit id, _, K, Q, σ, e, H, a, w, h, hg, hQ => wp_exit (hQ (.exit id) _ _ ⟨σ, e, H, h, hg⟩)
  | .ret, _, K, Q, σ, e, H, a, w, h, hg, hQ => wp_ret (hQ .ret _ _ ⟨σ, e, H, h, hg⟩)
  | .rangeFunc .., _, _, _, _, _, _, _, _, _, hg, _ => by simp [gx] at hg
  | .scope _, _, _, _, _, _, _, _, _, _, hg, _ => by simp [gx] at hg
  | .label _, _, _, _, _, _, _, _, _, _, hg, _ => by simp [gx] at hg
  | .goto _, _, _, _, _, _, _, _, _, _, hg, _ => by simp [gx] at hg
  | .refuse _, _, _, _, _, _, _, _, _, _, hg, _ => by simp [gx] at hg
end Go.Gh
namespace Go.Gh
open Go.RowKit
variable {gp : GP} {lk : Nat} {σ0 : Sim} {H0 : List GB} {w0 : World} {n : Nat}

/-- What one result variable comes to. -/
def oneRes (tmps : Array Value) : ResultVar → Sem Value
  | .tmp t => pure (tmps.getD t undef)
  | .cell a t => do loadVar t (← asAddr (tmps.getD a undef))

theorem results_eq (fn : Func) (tmps : Array Value) : results fn tmps = (do
    let vs ← fn.results.mapM (oneRes tmps)
    pure (if h : vs.size = 1 then vs[0] else .tuple vs)) := rfl

theorem mapM_list {P : Program} {w : World} {f : ResultVar → Sem Value} : ∀ (l : List ResultVar) (vs : List Value), vs.length = l.length → (∀ k (h1 : k < l.length) (h2 : k < vs.length), (f l[k]).run P w = .ok vs[k] w) →
    (l.mapM f).run P w = .ok vs w
  | [], [], _, _ => by simp
  | [], _ :: _, h, _ => by simp at h
  | _ :: _, [], h, _ => by simp at h
  | x :: r, v :: vs, h, hk => by
    rw [List.mapM_cons]
    have h0 := hk 0 (by simp) (by simp)
    simp only [List.getElem_cons_zero] at h0
    have hr := mapM_list r vs (by simpa using h) fun k h1 h2 => by have := hk (k + 1) (by simpa using h1) (by simpa using h2); simp only [List.getElem_cons_succ] at this; exact this
    simp only [Sem.run_bind, h0, Result.andThen_ok, hr, Sem.run_pure]

theorem resG_sound {P : Program} (hty : TyT P gp) {σ : Sim} {e : Env} {H : List GB} {a : Act} {w : World} (h : SR gp lk σ0 H0 w0 n σ e H a w) :
    ∀ (l : List ResultVar) {gs : List GV}, resG gp { env := e, heap := H } l = some gs → ∃ vs : List Value, vs.length = l.length ∧ (∀ k (h1 : k < l.length) (h2 : k < vs.length), (oneRes a.tmps l[k]).run P w = .ok vs[k] w) ∧ PW σ H gs vs
  | [], gs, hg => by simp only [resG] at hg; cases hg; exact ⟨[], rfl, fun k h1 => by simp at h1, rfl, fun k h1 => by simp at h1⟩
  | .tmp t :: r, gs, hg => by
    simp only [resG] at hg
    split at hg
    · rename_i l hl; cases hg
      obtain ⟨vs, q1, q2, q3⟩ := resG_sound hty h r hl
      refine ⟨a.tmps.getD t undef :: vs, by simp [q1], fun k h1 h2 => ?_, by simpa using q3.1, fun k h1 h2 => ?_⟩
      · cases k with
        | zero => rfl
        | succ k => simpa using q2 k (by simpa using h1) (by simpa using h2)
      · cases k with
        | zero => exact h.env t
        | succ k => simpa using q3.2 k (by simpa using h1) (by simpa using h2)
    · cases hg
  | .cell ad t :: r, gs, hg => by
    simp only [resG] at hg
    split at hg
    · rename_i ti id off hti hid
      split at hg
      · rename_i cs hcs
        split at hg
        · rename_i v l hv hl; cases hg
          obtain ⟨vs, q1, q2, q3⟩ := resG_sound hty h r hl
          obtain ⟨c, el, hb1, hb2, hb3, _⟩ := h.wr.blk _ _ hcs
          have ga := h.env ad
          rw [hid] at ga
          obtain ⟨hl', hg'⟩ := partG_sound hv (hty _ _ hti).one (fun k => c.getD k undef) fun k hk => by
            have := hb3 k hk (by omega)
            simpa [Array.getD, show k < c.size by omega] using this
          have hload : (oneRes a.tmps (.cell ad t)).run P w = .ok (if ti.agg then .agg ((List.range ti.size).map fun k => c.getD (off + k) undef).toArray else c.getD off undef) w := by
            generalize hx : a.tmps.getD ad undef = x at ga
            cases ga with
            | ptr _ _ hf =>
              simp only [oneRes, hx, asAddr, Sem.run_bind, Sem.run_pure, Result.andThen_ok]
              rw [load_cells (hty _ _ hti) _ _ (fun k => c.getD (off + k) undef) fun k hk => ?_]
              · rfl
              · simp only [World.cell?, hb1]
                simp only [Option.isSome_none, Bool.false_eq_true, if_false]
                rw [Array.getElem?_eq_getElem (by omega)]
                simp only [Array.getD]
                rw [dif_pos (by omega)]
                rfl
          refine ⟨(if ti.agg then .agg ((List.range ti.size).map fun k => c.getD (off + k) undef).toArray else c.getD off undef) :: vs, by simp [q1], fun k h1 h2 => ?_, by simpa using q3.1, fun k h1 h2 => ?_⟩
          · cases k with
            | zero => exact hload
            | succ k => simpa using q2 k (by simpa using h1) (by simpa using h2)
          · cases k with
            | zero => exact hg'
            | succ k => simpa using q3.2 k (by simpa using h1) (by simpa using h2)
        · cases hg
      · cases hg
    · cases hg

theorem results_sound {P : Program} (hty : TyT P gp) {σ : Sim} {e : Env} {H : List GB} {a : Act} {w : World} (h : SR gp lk σ0 H0 w0 n σ e H a w) {fn : Func} {gs : List GV} (hg : resG gp { env := e, heap := H } fn.results.toList = some gs) :
    ∃ v, (results fn a.tmps).run P w = .ok v w ∧ GR σ H (resV gs) v := by
  obtain ⟨vs, q1, q2, q3⟩ := resG_sound (P := P) hty h _ hg
  have hm := mapM_list (f := oneRes a.tmps) fn.results.toList vs q1 q2
  have hm' : (fn.results.mapM (oneRes a.tmps)).run P w = .ok vs.toArray w := by
    rw [← Array.toArray_toList (xs := fn.results), List.mapM_toArray]
    simp only [map_eq_pure_bind, Sem.run_bind, hm, Result.andThen_ok, Sem.run_pure]
  refine ⟨_, by rw [results_eq]; simp only [Sem.run_bind, hm', Result.andThen_ok, Sem.run_pure]; rfl, ?_⟩
  split
  · rename_i hs
    match vs, gs, q3, hs with
    | [v], [g], q3, _ => exact q3.2 0 (by simp) (by simp)
    | [v], [], q3, _ => have := q3.1; simp at this
    | [v], _ :: _ :: _, q3, _ => have := q3.1; simp at this
    | [], _, _, hs => simp at hs
    | _ :: _ :: _, _, _, hs => simp at hs
  · rename_i hs
    have : resV gs = .tup gs := by
      match vs, gs, q3, hs with
      | _, [], _, _ => rfl
      | _, _ :: _ :: _, _, _ => rfl
      | [v], [g], _, hs => simp at hs
      | [], [g], q3, _ => have := q3.1; simp at this
      | _ :: _ :: _, [g], q3, _ => have := q3.1; simp at this
    rw [this]
    exact .tup _ _ (by simpa using q3.1) fun k h1 h2 => by simpa using q3.2 k h1 (by simpa using h2)

theorem ofL_number : ∀ (l : List GV) (i u : Nat), ofL (number i l) u = if i ≤ u then (l[u - i]?).getD .und else .und
  | [], i, u => by simp [number, ofL]
  | x :: r, i, u => by
    simp only [number, ofL, Bool.cond_eq_ite, Nat.beq_eq]
    split
    · rename_i q; subst q; simp
    · rename_i q
      rw [ofL_number r (i + 1) u]
      by_cases h : i ≤ u
      · have h2 : i + 1 ≤ u := by omega
        rw [if_pos h, if_pos h2]
        have : u - i = (u - (i + 1)) + 1 := by omega
        rw [this]; simp
      · rw [if_neg h, if_neg (by omega)]

/-- What a function's own run in the ghost machine stands for. -/
def CSf (P : Program) (lk g : Nat) (F : List GV → List GB → CK → Bool) : Prop :=
  ∀ (args : List GV) (H : List GB) (k : CK) (σ : Sim) (w : World) (cargs : Array Value), F args H k = true → WR σ H w → lk ≤ H.length → PW σ H args cargs.toList →
    (∃ fn, P.funcs[g]? = some fn ∧ (fn.name == "runtime.NumGoroutine") = false ∧ fn.body.isNone = false) ∧
    Calls P g cargs w fun e w' => ∃ v σ' gv H', e = .returned v ∧ k gv H' = true ∧ Step lk σ H w σ' H' w' ∧ WR σ' H' w' ∧ GR σ' H' gv v

structure GPOK (P : Program) (gp : GP) : Prop where
  ty : TyT P gp
  fn : ∀ f fn, gp.fn f = some fn → P.funcs[f]? = some fn ∧ (fn.name == "runtime.NumGoroutine") = false
  ovr : ∀ f F, gp.ovr f = some F → ∀ lk, CSf P lk f F

theorem SR.start {σ : Sim} {H : List GB} {w : World} (hw : WR σ H w) (hlk : lk ≤ H.length) {args : List GV} {cargs : Array Value} (hp : PW σ H args cargs.toList) (n : Nat) :
    SR gp lk σ H w (cargs.size + (n - cargs.size)) σ (initE args) H { tmps := cargs ++ Array.replicate (n - cargs.size) undef, defers := [] } w := by
  have hne : ∀ t ty, initE args t ≠ .new ty := fun t ty => noNew_ne _ _
  refine ⟨by simp, rfl, hw, Step.refl .., hlk, fun t => ?_, fun t ty q => absurd q (hne t ty), fun t t' ty ty' q => absurd q (hne t ty)⟩
  refine GR.noNew ?_
  rw [ofL_number]
  simp only [Nat.zero_le, if_true, Nat.sub_zero]
  by_cases h : t < args.length
  · have h2 : t < cargs.size := by have := hp.1; simp at this; omega
    rw [List.getElem?_eq_getElem h]
    simp only [Option.getD_some, Array.getD, Array.size_append]
    rw [dif_pos (by omega)]
    simp only [Array.getInternal_eq_getElem, Array.getElem_append, h2, dif_pos]
    have := hp.2 t h (by simpa using h2)
    rw [Array.getElem_toList] at this
    exact this
  · rw [List.getElem?_eq_none (by omega)]
    exact .und _

theorem gcall_run {P : Program} {call : Call} (hok : GPOK P gp) {f L : Nat} {fn : Func} {c : Code} (hf : gp.fn f = some fn) (hb : fn.body = some c) (hc : ∀ m, fn.ntmps ≤ m → CodeOK P gp call f m c) {args : List GV} {H : List GB} {k : CK} {σ : Sim} {w : World} {cargs : Array Value}
    (hg : gx gp call lk f L c { env := initE args, heap := H } (fun e s => match e with
          | .exit _ => false
          | _ => match resG gp s fn.results.toList with
            | some l => k (resV l) s.heap
            | none => false) = true) (hw : WR σ H w) (hlk : lk ≤ H.length) (hp : PW σ H args cargs.toList) :
    Calls P f cargs w fun e w' => ∃ v σ' gv H', e = .returned v ∧ k gv H' = true ∧ Step lk σ H w σ' H' w' ∧ WR σ' H' w' ∧ GR σ' H' gv v := by
  refine calls_of_wp (hok.fn _ _ hf).1 hb ?_
  refine gx_sound (n := cargs.size + (fn.ntmps - cargs.size)) c (hc _ (by omega)) (SR.start hw hlk hp fn.ntmps) hg ?_
  intro x a' w'
  rintro ⟨σ', e', H', h', hk⟩
  have fin : (match resG gp { env := e', heap := H' } fn.results.toList with
            | some l => k (resV l) H'
            | none => false) = true → a'.defers = [] ∧ ∃ v, (results fn a'.tmps).run P w' = .ok v w' ∧ ∃ v_1 σ' gv H', Ending.returned v = .returned v_1 ∧ k gv H' = true ∧ Step lk σ H w σ' H' w' ∧ WR σ' H' w' ∧ GR σ' H' gv v_1 := fun hk => by
    split at hk
    · rename_i l hl
      obtain ⟨v, r1, r2⟩ := results_sound (P := P) hok.ty h' hl
      exact ⟨h'.defers, v, r1, v, σ', _, H', rfl, hk, h'.step, h'.wr, r2⟩
    · cases hk
  cases x with
  | normal => exact fin hk
  | exit i => cases hk
  | ret => exact fin hk

theorem gcall_sound {P : Program} (hok : GPOK P gp) (hc : ∀ m, CS P (gcall gp m) → ∀ f fn c k, gp.fn f = some fn → fn.body = some c → fn.ntmps ≤ k → CodeOK P gp (gcall gp m) f k c) : ∀ m, CS P (gcall gp m)
  | 0 => fun lk g args H k σ w cargs hg => by simp [gcall] at hg
  | m + 1 => fun lk g args H k σ w cargs hg hw hlk hp => by
    simp only [gcall] at hg
    split at hg
    · rename_i F hF
      exact hok.ovr g F hF lk args H k σ w cargs hg hw hlk hp
    · split at hg
      · rename_i fn hf
        split at hg
        · rename_i c hb
          have ih := gcall_sound hok hc m
          refine ⟨⟨fn, (hok.fn _ _ hf).1, (hok.fn _ _ hf).2, by rw [hb]; rfl⟩, ?_⟩
          exact gcall_run hok hf hb (fun k hk => hc m ih g fn c k hf hb hk) hg hw hlk hp
        · cases hg
      · cases hg
end Go.Gh
namespace Go.Gh
open Go.RowKit

theorem map_congr_ops {ρ ρ' : Operand → GV} {xs : Array Operand} (h : ∀ x ∈ xs, ρ x = ρ' x) : xs.toList.map ρ = xs.toList.map ρ' :=
  List.map_congr_left fun x hx => h x (by simpa using hx)
theorem pairs_congr {ρ ρ' : Operand → GV} {ps : Array (Nat × Operand)} (h : ∀ x ∈ (ps.toList.map (·.2)).toArray, ρ x = ρ' x) : (ps.toList.map fun p => (p.1, ρ p.2)) = ps.toList.map fun p => (p.1, ρ' p.2) :=
  List.map_congr_left fun p hp => by rw [h p.2 (by simpa using ⟨p.1, by simpa using hp⟩)]
theorem opt_congr {ρ ρ' : Operand → GV} {x : Option Operand} (h : ∀ y ∈ x.toArray, ρ y = ρ' y) : x.map ρ = x.map ρ' := by
  cases x with
  | none => rfl
  | some y => simp [h y (by simp)]

theorem gval_congr {gp : GP} {ρ ρ' : Operand → GV} (o : Oper) (h : ∀ x ∈ o.op.operands, ρ x = ρ' x) : gval gp o ρ = gval gp o ρ' := by
  obtain ⟨dst, op, type, pos, after, guard⟩ := o
  cases op <;> simp only [Op.operands] at h <;> simp only [gval]
  case move x => rw [h x (by simp)]
  case assign x => rw [h x (by simp)]
  case pick c a b => rw [h c (by simp), h a (by simp), h b (by simp)]
  case build t ps => rw [pairs_congr h]
  case buildSlice t n ps => rw [pairs_congr h]
  case load t a => rw [h a (by simp)]
  case nilCheck x => rw [h x (by simp)]
  case binOp op t x y _ => rw [h x (by simp), h y (by simp)]
  case unOp op t x => rw [h x (by simp)]
  case convert s d x => rw [h x (by simp)]
  case makeFunc f a b => rw [map_congr_ops (xs := a) fun x hx => h x (by simp [hx]), map_congr_ops (xs := b) fun x hx => h x (by simp [hx])]
  case slice t x lo hi mx =>
    rw [h x (by simp), opt_congr (x := lo) fun y hy => h y (by simp only [Array.mem_append]; exact .inl (.inl (.inr hy))), opt_congr (x := hi) fun y hy => h y (by simp only [Array.mem_append]; exact .inl (.inr hy)), opt_congr (x := mx) fun y hy => h y (by simp only [Array.mem_append]; exact .inr hy)]
  case fieldAddr s x f => rw [h x (by simp)]
  case field s x f => rw [h x (by simp)]
  case indexAddr t x i => rw [h x (by simp), h i (by simp)]
  case index t x i => rw [h x (by simp), h i (by simp)]
  case extract t i => rw [h t (by simp)]
  case call c =>
    rw [map_congr_ops (xs := c.args) fun x hx => h x (by simp [Call.operands, hx])]

theorem gheap_congr {gp : GP} {call : Call} {lk base hint : Nat} {ρ ρ' : Operand → GV} (o : Oper) (h : ∀ x ∈ o.op.operands, ρ x = ρ' x) (H : List GB) (k : CK) : gheap gp call lk base hint o ρ H k = gheap gp call lk base hint o ρ' H k := by
  obtain ⟨dst, op, type, pos, after, guard⟩ := o
  cases op <;> simp only [Op.operands] at h <;> simp only [gheap]
  case assign x => rw [h x (by simp)]
  case box t x => rw [h x (by simp)]
  case buildSlice t n ps => rw [pairs_congr h]
  case load t a => rw [h a (by simp)]
  case store t a x => rw [h a (by simp), h x (by simp)]
  case makeMap t r => cases r <;> rfl
  case makeSlice t l c => rw [h l (by simp), h c (by simp)]
  case lookup t m x ok => rw [h m (by simp), h x (by simp)]
  case insert t m x v => rw [h m (by simp), h x (by simp), h v (by simp)]
  case mapUpdate t m x v => rw [h m (by simp), h x (by simp), h v (by simp)]
  case range t x => rw [h x (by simp)]
  case next x s => cases s <;> simp only [] <;> rw [h x (by simp)]
  case entry x => rw [h x (by simp)]
  case call c =>
    rw [map_congr_ops (xs := c.args) fun x hx => h x (by simp [Call.operands, hx])]
    cases hc : c.callee with
    | value f => simp only []; rw [h f (by simp [Call.operands, hc])]
    | invoke r m => rfl
    | builtin b => rfl

theorem gcore_congr {gp : GP} {call : Call} {lk base hint : Nat} {ρ ρ' : Operand → GV} (o : Oper) (h : ∀ x ∈ o.op.operands, ρ x = ρ' x) (H : List GB) (k : CK) : gcore gp call lk base hint o ρ H k = gcore gp call lk base hint o ρ' H k := by
  unfold gcore
  rw [gval_congr o h, gheap_congr o h]

def putX (e : Env) (u : Option Tmp) (X : Option GV) : Env :=
  match X with
  | some x => put e u x
  | none => e
def uOf (hint : Nat) (o : Oper) : Option Tmp :=
  bif hint.beq 5 || hint.beq 6 then match o.op with
    | .store _ (.tmp u) _ => some u
    | _ => none
  else none

/-- An operation's work, apart from the temporaries. -/
def geff (gp : GP) (call : Call) (lk base hint : Nat) (ops : Array Oper) (o : Oper) (e : Env) (h : List GB) (k : Option GV → GV → List GB → Bool) : Bool :=
  match wantedG ops o e with
  | some b =>
    bif b then
      bif hint.beq 4 then
        match o.op with
        | .alloc t => match gp.ty t with
          | some _ => k none (.new t) h
          | none => false
        | _ => false
      else bif hint.beq 5 || hint.beq 6 then
        match o.op with
        | .store t (.tmp u) x => match e u with
          | .new t' => match gp.ty t with
            | some ti =>
              bif t'.beq t && (opd e x).cells.length.beq ti.size && (opd e x).cells.all cellOk then
                match (bif hint.beq 5 then toD (opd e x) else none) with
                | some y => k (some (.d (.vptr [y] 0 0))) .und h
                | none => k (some (.ptr h.length 0)) .und (h ++ [.cells (opd e x).cells])
              else false
            | none => false
          | _ => false
        | _ => false
      else gcore gp call lk base hint o (opd e) h fun v h => k none (noNew v) h
    else k none (.tup []) h
  | none => false

theorem gop_eff {gp : GP} {call : Call} {lk base : Nat} {hs : List (Nat × Nat)} {ops : Array Oper} {i : Nat} {o : Oper} {e : Env} {h : List GB} {K : St → Bool} :
    gop gp call lk base hs ops i o { env := e, heap := h } K = geff gp call lk base (hintOf hs i) ops o e h fun X v h' => K { env := put (putX e (uOf (hintOf hs i) o) X) o.dst v, heap := h' } := by
  unfold gop geff
  simp only
  cases hw : wantedG ops o e with
  | none => rfl
  | some b =>
    simp only
    cases b with
    | false => rfl
    | true =>
      simp only [cond_true]
      cases h4 : (hintOf hs i).beq 4 with
      | true =>
        simp only [cond_true]
        obtain ⟨dst, op, type, pos, after, guard⟩ := o
        cases op <;> rfl
      | false =>
        simp only [cond_false]
        cases h5 : (hintOf hs i).beq 5 || (hintOf hs i).beq 6 with
        | false => simp only [cond_false]; rfl
        | true =>
          simp only [cond_true]
          obtain ⟨dst, op, type, pos, after, guard⟩ := o
          cases op <;> try rfl
          rename_i t ad x
          cases ad <;> try rfl
          rename_i u
          have hu : uOf (hintOf hs i) { dst, op := .store t (.tmp u) x, type, pos, after, guard } = some u := by simp [uOf, h5]
          rw [hu]
          simp only
          cases e u <;> rfl

/-- Nothing comes of nothing. -/
def NoMiracle (call : Call) : Prop := ∀ lk g args h, call lk g args h (fun _ _ => false) = false

theorem all_false {α : Type} (l : List α) (f : α → Bool) (hl : l ≠ []) (h : ∀ x, f x = false) : l.all f = false := by
  cases l with
  | nil => exact absurd rfl hl
  | cons x r => simp [h x]

theorem callK_no {call : Call} (hc : NoMiracle call) (lk g : Nat) (args : List GV) (h : List GB) {k : CK} (hk : ∀ v h', k v h' = false) : call lk g args h k = false := by
  have : k = fun _ _ => false := by funext v h'; exact hk v h'
  rw [this]; exact hc ..

theorem gheap_no {gp : GP} {call : Call} (hc : NoMiracle call) {lk base hint : Nat} {ρ : Operand → GV} (o : Oper) (H : List GB) : gheap gp call lk base hint o ρ H (fun _ _ => false) = false := by
  obtain ⟨dst, op, type, pos, after, guard⟩ := o
  cases op <;> simp only [gheap]
  case assign x => cases isNilC (ρ x) <;> simp only [cond_true, cond_false]; (repeat' split) <;> rfl
  case alloc t => split <;> rfl
  case box t x => cases (ρ x).cells.all cellOk <;> cases hint.beq 1 <;> simp only [cond_true, cond_false]; split <;> rfl
  case buildSlice t n ps => simp only [Bool.cond_self]; (repeat' split) <;> rfl
  case load t a => split <;> rfl
  case store t a x => simp only [Bool.cond_self]; (repeat' split) <;> rfl
  case makeMap t r => cases r <;> rfl
  case makeSlice t l c =>
    (repeat' split) <;> try rfl
    all_goals (cases hint.ble 9 <;> rfl)
  case lookup t m x ok => unfold glookup; (repeat' split) <;> try rfl
                          all_goals (simp only [Bool.cond_self])
  case insert t m x v => unfold gmapUpdate; (repeat' split) <;> try rfl
                         all_goals (simp only [Bool.cond_eq_ite]; (repeat' split) <;> rfl)
  case mapUpdate t m x v => unfold gmapUpdate; (repeat' split) <;> try rfl
                            all_goals (simp only [Bool.cond_eq_ite]; (repeat' split) <;> rfl)
  case range t x => (repeat' split) <;> rfl
  case next x s =>
    cases s <;> simp only []
    (repeat' split) <;> try rfl
    all_goals simp only [Bool.cond_eq_ite]
    · split <;> rfl
    · split
      · rename_i hne _
        exact all_false _ _ (fun q => hne q) fun i => by split <;> rfl
      · rfl
  case entry x => (repeat' split) <;> try rfl
                  all_goals (simp only [Bool.cond_eq_ite]; (repeat' split) <;> rfl)
  case call c =>
    cases hcl : c.callee with
    | builtin b =>
      simp only []
      unfold gbuiltin
      (repeat' split) <;> try rfl
      · unfold gappend; (repeat' split) <;> try rfl
        all_goals (simp only [Bool.cond_eq_ite]; (repeat' split) <;> rfl)
      · unfold gcopy; (repeat' split) <;> try rfl
        all_goals (simp only [Bool.cond_eq_ite]; (repeat' split) <;> rfl)
    | invoke r m => rfl
    | value f =>
      simp only []
      split <;> try rfl
      simp only [Bool.cond_eq_ite]
      split
      · split <;> try rfl
        exact callK_no hc _ _ _ _ fun v h' => by split <;> rfl
      · split
        · exact callK_no hc _ _ _ _ fun v h' => by split <;> rfl
        · exact callK_no hc _ _ _ _ fun v h' => rfl
end Go.Gh
namespace Go.Gh
open Go.RowKit
variable {gp : GP} {call : Call} {lk base : Nat} {hs : List (Nat × Nat)} {ops : Array Oper}

def Agree (ops : Array Oper) (o : Oper) (e e' : Env) : Prop := ∀ t ∈ o.looksAt ops, e t = e' t

theorem Agree.opd {o : Oper} {e e' : Env} (h : Agree ops o e e') : ∀ x ∈ o.op.operands, opd e x = opd e' x := fun x hx => by
  cases x with
  | tmp t =>
    have : e t = e' t := h t (List.mem_append_left _ (List.mem_filterMap.2 ⟨.tmp t, by simpa using hx, rfl⟩))
    simp [Gh.opd, this]
  | const v => cases v <;> rfl
  | global g => rfl
  | func f => rfl

theorem Agree.wanted {o : Oper} {e e' : Env} (h : Agree ops o e e') : wantedG ops o e = wantedG ops o e' := by
  unfold wantedG
  cases hg : o.guard with
  | none => rfl
  | some gw =>
    obtain ⟨g, want⟩ := gw
    simp only
    cases hj : ops[g]? with
    | none => rfl
    | some p =>
      obtain ⟨dst, op, type, pos, after, guard⟩ := p
      cases dst with
      | none => rfl
      | some t =>
        have : e t = e' t := h t (List.mem_append_right _ (by simp [hg, hj]))
        simp only [this]

theorem geff_congr {hint : Nat} {o : Oper} {e e' : Env} (h : Agree ops o e e') (H : List GB) (k : Option GV → GV → List GB → Bool) :
    geff gp call lk base hint ops o e H k = geff gp call lk base hint ops o e' H k := by
  unfold geff
  rw [h.wanted]
  have ho := h.opd
  rw [gcore_congr o ho]
  cases wantedG ops o e' with
  | none => rfl
  | some b =>
    obtain ⟨dst, op, type, pos, after, guard⟩ := o
    cases op <;> try rfl
    rename_i t ad x
    cases ad <;> try rfl
    rename_i u
    have hu : e u = e' u := h u (List.mem_append_left _ (List.mem_filterMap.2 ⟨.tmp u, by simp [Op.operands], rfl⟩))
    have hx : Gh.opd e x = Gh.opd e' x := ho x (by simp [Op.operands])
    simp only [hu, hx]

theorem geff_no (hc : NoMiracle call) {hint : Nat} {o : Oper} {e : Env} {H : List GB} {k : Option GV → GV → List GB → Bool} (hk : ∀ X v h, k X v h = false) : geff gp call lk base hint ops o e H k = false := by
  have : k = fun _ _ _ => false := by funext X v h; exact hk X v h
  subst this
  unfold geff
  split <;> try rfl
  simp only [Bool.cond_eq_ite]
  split <;> try rfl
  split
  · (repeat' split) <;> rfl
  · split
    · (repeat' split) <;> rfl
    · unfold gcore
      simp only [Bool.cond_eq_ite]
      split
      · split <;> rfl
      · exact gheap_no hc o H

/-- What an operation writes. -/
def writesOf (hint : Nat) (o : Oper) : List Tmp := o.dst.toList ++ (uOf hint o).toList
/-- 0: computes · 1: reads · 2: a call that turns nothing of the caller's · 3: a reserved make · 4: others -/
def clsOf (gp : GP) (hint : Nat) (o : Oper) : Nat :=
  bif hint.beq 4 then (match o.op with | .alloc _ => 0 | _ => 4)
  else bif hint.beq 5 || hint.beq 6 then 4
  else bif isV gp hint o then 0
  else match o.op with
    | .load .. => 1
    | .call c => match c.callee with
      | .value (.func g) => bif (gp.mode g).beq 0 || (gp.mode g).beq 1 then 2 else 4
      | _ => 4
    | .makeSlice .. => bif hint.ble 9 then 4 else 3
    | _ => 4
def fitC (hx hy a b : Nat) : Bool :=
  a.beq 0 || b.beq 0 || (a.beq 1 && b.beq 1) || (a.beq 1 && b.beq 2) || (a.beq 2 && b.beq 1) || (a.beq 3 && b.beq 3 && !(hx.beq hy))
def apartL (xs ys : List Tmp) : Bool := xs.all fun t => ys.all fun u => !(t.beq u)
def fits (gp : GP) (hx hy : Nat) (ops : Array Oper) (x y : Oper) : Bool :=
  fitC hx hy (clsOf gp hx x) (clsOf gp hy y) && apartL (writesOf hx x) (y.looksAt ops ++ writesOf hy y) && apartL (writesOf hy y) (x.looksAt ops)

theorem apartL_spec {xs ys : List Tmp} (h : apartL xs ys = true) : ∀ t ∈ xs, ∀ u ∈ ys, t ≠ u := fun t ht u hu q => by
  subst q
  have := List.all_eq_true.1 (List.all_eq_true.1 h t ht) t hu
  simp at this

theorem put_far {e : Env} {d : Option Tmp} {v : GV} {t : Nat} (h : ∀ u, d = some u → u ≠ t) : put e d v t = e t := by
  cases d with
  | none => rfl
  | some u =>
    have hq : (t.beq u) = false := by
      cases hb : t.beq u with
      | false => rfl
      | true => exact absurd (Nat.eq_of_beq_eq_true hb).symm (h u rfl)
    simp [put, hq]
theorem putX_far {e : Env} {u : Option Tmp} {X : Option GV} {t : Nat} (h : ∀ w, u = some w → w ≠ t) : putX e u X t = e t := by
  cases X with
  | none => rfl
  | some x => exact put_far h
theorem put_comm {e : Env} {a b : Option Tmp} {v w : GV} (h : ∀ x y, a = some x → b = some y → x ≠ y) : put (put e a v) b w = put (put e b w) a v := by
  cases a with
  | none => rfl
  | some x =>
    cases b with
    | none => rfl
    | some y =>
      have hxy := h x y rfl rfl
      funext t
      simp only [put, Bool.cond_eq_ite, Nat.beq_eq]
      by_cases h1 : t = x
      · subst h1; simp [hxy]
      · simp [h1]

/-- Two sets of writes that lie apart. -/
theorem turn_comm {e : Env} {dx dy ux uy : Option Tmp} {X Y : Option GV} {v w : GV} (h : ∀ t ∈ dx.toList ++ ux.toList, ∀ u ∈ dy.toList ++ uy.toList, t ≠ u) :
    put (putX (put (putX e ux X) dx v) uy Y) dy w = put (putX (put (putX e uy Y) dy w) ux X) dx v := by
  have h1 : ∀ x y, dx = some x → dy = some y → x ≠ y := fun x y q r => h x (by simp [q]) y (by simp [r])
  have h2 : ∀ x y, dx = some x → uy = some y → x ≠ y := fun x y q r => h x (by simp [q]) y (by simp [r])
  have h3 : ∀ x y, ux = some x → dy = some y → x ≠ y := fun x y q r => h x (by simp [q]) y (by simp [r])
  have h4 : ∀ x y, ux = some x → uy = some y → x ≠ y := fun x y q r => h x (by simp [q]) y (by simp [r])
  cases X with
  | none =>
    cases Y with
    | none => simp only [putX]; exact put_comm h1
    | some y => simp only [putX]; rw [put_comm h2, put_comm h1]
  | some x =>
    cases Y with
    | none => simp only [putX]; rw [put_comm (fun a b q r => (h1 a b q r)), put_comm (fun a b q r => (h3 a b q r))]
    | some y =>
      simp only [putX]
      rw [put_comm (e := put e ux x) h2, put_comm (e := put (put e ux x) uy y) h1, put_comm (e := e) h4, put_comm (e := put e uy y) h3]

theorem agree_after {o x : Oper} {hx : Nat} (hs : ∀ t ∈ writesOf hx x, ∀ u ∈ o.looksAt ops, t ≠ u) (e : Env) (X : Option GV) (v : GV) : Agree ops o (put (putX e (uOf hx x) X) x.dst v) e := fun t ht => by
  rw [put_far fun u hu => hs u (by simp [writesOf, hu]) t ht, putX_far fun u hu => hs u (by simp [writesOf, hu]) t ht]

/-- An operation's work where it turns no memory and gives at most one value: 'f'. -/
def IsF (gp : GP) (call : Call) (lk base hint : Nat) (ops : Array Oper) (o : Oper) (f : Env → List GB → Option GV) : Prop :=
  (∀ e H k, geff gp call lk base hint ops o e H k = match f e H with | some v => k none v H | none => false) ∧ ∀ e e' H, Agree ops o e e' → f e H = f e' H

theorem isF_eval {hint : Nat} {o : Oper} (g : (Operand → GV) → List GB → Option GV) (hg : ∀ ρ ρ' H, (∀ x ∈ o.op.operands, ρ x = ρ' x) → g ρ H = g ρ' H)
    (h4 : hint.beq 4 = false) (h5 : (hint.beq 5 || hint.beq 6) = false) (hcore : ∀ ρ H k, gcore gp call lk base hint o ρ H k = match g ρ H with | some v => k v H | none => false) :
    IsF gp call lk base hint ops o (fun e H => match wantedG ops o e with | some true => (g (opd e) H).map noNew | some false => some (.tup []) | none => none) := by
  refine ⟨fun e H k => ?_, fun e e' H ha => ?_⟩
  · unfold geff
    rw [h4, h5]
    simp only [cond_false]
    cases wantedG ops o e with
    | none => rfl
    | some b =>
      cases b with
      | false => rfl
      | true =>
        simp only [cond_true]
        rw [hcore]
        cases g (opd e) H <;> rfl
  · simp only [ha.wanted, hg _ _ H ha.opd]

/-- Class 0: the value hangs on the temporaries alone. -/
theorem isF_zero {hint : Nat} {o : Oper} (h : clsOf gp hint o = 0) : ∃ f : Env → Option GV, IsF gp call lk base hint ops o (fun e _ => f e) := by
  unfold clsOf at h
  simp only [Bool.cond_eq_ite] at h
  split at h
  · rename_i h4
    obtain ⟨dst, op, type, pos, after, guard⟩ := o
    cases op <;> try (simp at h; done)
    rename_i t
    refine ⟨fun e => match wantedG ops { dst, op := .alloc t, type, pos, after, guard } e with | some true => (match gp.ty t with | some _ => some (.new t) | none => none) | some false => some (.tup []) | none => none, fun e H k => ?_, fun e e' H ha => ?_⟩
    · unfold geff
      rw [h4]
      simp only [cond_true]
      cases wantedG ops { dst, op := .alloc t, type, pos, after, guard } e with
      | none => rfl
      | some b =>
        cases b with
        | false => rfl
        | true => simp only [cond_true]; cases gp.ty t <;> rfl
    · simp only [ha.wanted]
  · rename_i h4
    split at h
    · simp at h
    · rename_i h5
      split at h
      · rename_i hv
        have := isF_eval (gp := gp) (call := call) (lk := lk) (base := base) (ops := ops) (hint := hint) (o := o) (fun ρ _ => gval gp o ρ) (fun ρ ρ' H hh => gval_congr o hh) (Bool.eq_false_iff.2 h4) (Bool.eq_false_iff.2 h5) fun ρ H k => by
          unfold gcore
          rw [hv]; rfl
        exact ⟨_, this⟩
      · split at h <;> try (simp at h; done)
        · split at h
          · split at h <;> simp at h
          · simp at h
        · split at h <;> simp at h

/-- Class 1: the value hangs on the memory too. -/
theorem isF_one {hint : Nat} {o : Oper} (h : clsOf gp hint o = 1) : ∃ f : Env → List GB → Option GV, IsF gp call lk base hint ops o f := by
  unfold clsOf at h
  simp only [Bool.cond_eq_ite] at h
  split at h
  · split at h <;> simp at h
  · rename_i h4
    split at h
    · simp at h
    · rename_i h5
      split at h
      · simp at h
      · rename_i hv
        obtain ⟨dst, op, type, pos, after, guard⟩ := o
        cases op <;> try (simp at h; done)
        · rename_i t a
          have := isF_eval (gp := gp) (call := call) (lk := lk) (base := base) (ops := ops) (hint := hint) (o := { dst, op := .load t a, type, pos, after, guard }) (fun ρ H => gload gp t (ρ a) H) (fun ρ ρ' H hh => by rw [hh a (by simp [Op.operands])]) (Bool.eq_false_iff.2 h4) (Bool.eq_false_iff.2 h5) fun ρ H k => by
            unfold gcore
            rw [Bool.eq_false_iff.2 hv]
            rfl
          exact ⟨_, this⟩
        · simp only at h
          split at h <;> simp at h
        · simp only at h
          (repeat' split at h) <;> simp at h

/-- Class 2: a call that turns no memory of the caller's. -/
def IsI (gp : GP) (call : Call) (lk base hint : Nat) (ops : Array Oper) (o : Oper) (c : Env → List GB → (GV → Bool) → Bool) : Prop :=
  (∀ e H k, geff gp call lk base hint ops o e H k = c e H (fun v => k none v H)) ∧ (∀ e e' H, Agree ops o e e' → c e H = c e' H) ∧ ∀ e H, c e H (fun _ => false) = false

def iCall (gp : GP) (call : Call) (g : Nat) (args : List GV) (H : List GB) (k : GV → Bool) : Bool :=
  bif (gp.mode g).beq 0 then
    match toDAll args with
    | some ds => call 0 g (ds.map .d) [] fun r _ => match retD r with | some r' => k r' | none => false
    | none => false
  else call H.length g args H fun r _ => match retD r with | some r' => k r' | none => false

theorem isI_two (hc : NoMiracle call) {hint : Nat} {o : Oper} (h : clsOf gp hint o = 2) : ∃ c, IsI gp call lk base hint ops o c := by
  unfold clsOf at h
  simp only [Bool.cond_eq_ite] at h
  split at h
  · split at h <;> simp at h
  · rename_i h4
    split at h
    · simp at h
    · rename_i h5
      split at h
      · simp at h
      · rename_i hv
        obtain ⟨dst, op, type, pos, after, guard⟩ := o
        cases op <;> try (simp at h; done)
        · simp only at h
          split at h <;> simp at h
        · rename_i c
          simp only at h
          split at h <;> try (simp at h; done)
          rename_i g hcal
          split at h
          · rename_i hm
            simp only [Bool.or_eq_true] at hm
            refine ⟨fun e H k => match wantedG ops { dst, op := .call c, type, pos, after, guard } e with
              | some true => iCall gp call g (([] : List DV).map .d ++ c.args.toList.map (opd e) ++ ([] : List DV).map .d) H fun v => k (noNew v)
              | some false => k (.tup [])
              | none => false, fun e H k => ?_, fun e e' H ha => ?_, fun e H => ?_⟩
            · unfold geff
              rw [Bool.eq_false_iff.2 h4, Bool.eq_false_iff.2 h5]
              simp only [cond_false]
              cases wantedG ops { dst, op := .call c, type, pos, after, guard } e with
              | none => rfl
              | some b =>
                cases b with
                | false => rfl
                | true =>
                  simp only [cond_true]
                  unfold gcore
                  rw [Bool.eq_false_iff.2 hv]
                  simp only [cond_false]
                  simp only [gheap, hcal]
                  have hct : callT (opd e (.func g)) (c.args.toList.map (opd e)) = some (g, ([] : List DV).map .d ++ c.args.toList.map (opd e) ++ ([] : List DV).map .d) := rfl
                  rw [hct]
                  simp only
                  unfold iCall
                  cases h0 : (gp.mode g).beq 0 with
                  | true => rfl
                  | false =>
                    simp only [cond_false]
                    cases h1 : (gp.mode g).beq 1 with
                    | true => rfl
                    | false => rw [h0, h1] at hm; simp at hm
            · funext k
              have : c.args.toList.map (opd e) = c.args.toList.map (opd e') := map_congr_ops fun x hx => ha.opd x (by simp [Op.operands, Call.operands, hx])
              simp only [ha.wanted, this]
            · simp only
              cases wantedG ops { dst, op := .call c, type, pos, after, guard } e with
              | none => rfl
              | some b =>
                cases b with
                | false => rfl
                | true =>
                  simp only [iCall]
                  cases (gp.mode g).beq 0 with
                  | true =>
                    simp only [cond_true]
                    split
                    · exact callK_no hc _ _ _ _ fun v h' => by split <;> rfl
                    · rfl
                  | false =>
                    simp only [cond_false]
                    exact callK_no hc _ _ _ _ fun v h' => by split <;> rfl
          · simp at h

/-- Class 3: a reserved make. -/
def IsM (gp : GP) (call : Call) (lk base hint : Nat) (ops : Array Oper) (o : Oper) (f : Env → Option (GV × Option GB)) : Prop :=
  (∀ e H k, geff gp call lk base hint ops o e H k = match f e with
    | some (v, none) => k none v H
    | some (v, some b) => (match H[base + (hint - 10)]? with
      | some .resv => k none v (H.set (base + (hint - 10)) b)
      | _ => false)
    | none => false) ∧ ∀ e e', Agree ops o e e' → f e = f e'

theorem isM_three {hint : Nat} {o : Oper} (h : clsOf gp hint o = 3) : 10 ≤ hint ∧ ∃ f, IsM gp call lk base hint ops o f := by
  unfold clsOf at h
  simp only [Bool.cond_eq_ite] at h
  split at h
  · split at h <;> simp at h
  · rename_i h4
    split at h
    · simp at h
    · rename_i h5
      split at h
      · simp at h
      · rename_i hv
        obtain ⟨dst, op, type, pos, after, guard⟩ := o
        cases op <;> try (simp at h; done)
        · rename_i t l c
          simp only at h
          split at h
          · simp at h
          · rename_i h9
            have h9' : hint.ble 9 = false := Bool.eq_false_iff.2 h9
            refine ⟨?_, fun e => match wantedG ops { dst, op := .makeSlice t l c, type, pos, after, guard } e with
              | some true => (match gp.ty t, asN (opd e l), asN (opd e c) with
                | some { kind := .slice el, .. }, some (.i64, n), some (.i64, m) => (match gp.ty el with
                  | some ti => if 0 ≤ n ∧ n ≤ m ∧ m * (ti.bytes : Int) ≤ (maxBytes : Int) ∧ m ≤ (maxBytes : Int) then
                      some (.slc (base + (hint - 10)) 0 n.toNat (some m.toNat), some (.cells ((List.replicate m.toNat (ti.zero.map fun v => GV.d (.lit v))).flatten))) else none
                  | none => none)
                | _, _, _ => none)
              | some false => some (.tup [], none)
              | none => none, fun e H k => ?_, fun e e' ha => ?_⟩
            · rcases Nat.lt_or_ge hint 10 with q | q
              · exact absurd (Nat.ble_eq_true_of_le (by omega)) h9
              · exact q
            · unfold geff
              rw [Bool.eq_false_iff.2 h4, Bool.eq_false_iff.2 h5]
              simp only [cond_false]
              cases wantedG ops { dst, op := .makeSlice t l c, type, pos, after, guard } e with
              | none => rfl
              | some b =>
                cases b with
                | false => rfl
                | true =>
                  simp only [cond_true]
                  unfold gcore
                  rw [Bool.eq_false_iff.2 hv]
                  simp only [cond_false, gheap]
                  generalize gp.ty t = T
                  generalize asN (opd e l) = A
                  generalize asN (opd e c) = B
                  rcases T with _ | ⟨sz, ag, by_, z, kind⟩
                  · rfl
                  · cases kind <;> try rfl
                    rename_i el
                    rcases A with _ | ⟨k1, n⟩
                    · rfl
                    · cases k1 <;> try rfl
                      rcases B with _ | ⟨k2, m⟩
                      · rfl
                      · cases k2 <;> try rfl
                        simp only
                        cases gp.ty el with
                        | none => rfl
                        | some ti =>
                          simp only
                          split
                          · rw [h9']; rfl
                          · rfl
            · have := ha.opd l (by simp [Op.operands])
              have := ha.opd c (by simp [Op.operands])
              simp only [ha.wanted, *]
        · simp only at h
          (repeat' split at h) <;> simp at h
end Go.Gh
namespace Go.Gh
open Go.RowKit
variable {gp : GP} {call : Call} {lk base : Nat} {hs : List (Nat × Nat)} {ops : Array Oper}

/-- What the two orders come to. -/
theorem swap_of (i j : Nat) (x y : Oper)
    (h : ∀ e H (k : Option GV → GV → Option GV → GV → List GB → Bool),
      geff gp call lk base (hintOf hs i) ops x e H (fun X v H1 => geff gp call lk base (hintOf hs j) ops y (put (putX e (uOf (hintOf hs i) x) X) x.dst v) H1 (fun Y w H2 => k X v Y w H2)) =
      geff gp call lk base (hintOf hs j) ops y e H (fun Y w H1 => geff gp call lk base (hintOf hs i) ops x (put (putX e (uOf (hintOf hs j) y) Y) y.dst w) H1 (fun X v H2 => k X v Y w H2)))
    (hap : ∀ t ∈ writesOf (hintOf hs i) x, ∀ u ∈ writesOf (hintOf hs j) y, t ≠ u) (s : St) (K : St → Bool) :
    gop gp call lk base hs ops i x s (fun s' => gop gp call lk base hs ops j y s' K) = gop gp call lk base hs ops j y s (fun s' => gop gp call lk base hs ops i x s' K) := by
  obtain ⟨e, H⟩ := s
  simp only [gop_eff]
  have := h e H fun X v Y w H2 => K { env := put (putX (put (putX e (uOf (hintOf hs i) x) X) x.dst v) (uOf (hintOf hs j) y) Y) y.dst w, heap := H2 }
  rw [this]
  have hc : ∀ X v Y w, put (putX (put (putX e (uOf (hintOf hs i) x) X) x.dst v) (uOf (hintOf hs j) y) Y) y.dst w = put (putX (put (putX e (uOf (hintOf hs j) y) Y) y.dst w) (uOf (hintOf hs i) x) X) x.dst v :=
    fun X v Y w => turn_comm hap
  simp only [hc]

/-- A value-only operation and any other. -/
theorem swap_F {hx hy : Nat} {x y : Oper} (hn : NoMiracle call) {f : Env → Option GV} (hf : IsF gp call lk base hx ops x (fun e _ => f e))
    (h1 : ∀ t ∈ writesOf hx x, ∀ u ∈ y.looksAt ops, t ≠ u) (h2 : ∀ t ∈ writesOf hy y, ∀ u ∈ x.looksAt ops, t ≠ u) (e : Env) (H : List GB) (k : Option GV → GV → Option GV → GV → List GB → Bool) :
      geff gp call lk base hx ops x e H (fun X v H1 => geff gp call lk base hy ops y (put (putX e (uOf hx x) X) x.dst v) H1 (fun Y w H2 => k X v Y w H2)) =
      geff gp call lk base hy ops y e H (fun Y w H1 => geff gp call lk base hx ops x (put (putX e (uOf hy y) Y) y.dst w) H1 (fun X v H2 => k X v Y w H2)) := by
  rw [hf.1]
  have hR : ∀ Y w H1, geff gp call lk base hx ops x (put (putX e (uOf hy y) Y) y.dst w) H1 (fun X v H2 => k X v Y w H2) = match f e with | some v => k none v Y w H1 | none => false := fun Y w H1 => by
    rw [hf.1, hf.2 _ _ H1 (agree_after h2 e Y w)]
    try (cases hq : f e <;> simp only [hq])
  simp only [hR]
  cases hfe : f e with
  | none => exact (geff_no hn fun _ _ _ => rfl).symm
  | some v =>
    simp only
    rw [geff_congr (agree_after h1 e none v)]

/-- A read and a read, or a call that turns nothing of the caller's. -/
theorem swap_RI {hx hy : Nat} {x y : Oper} {f : Env → List GB → Option GV} (hf : IsF gp call lk base hx ops x f) {c : Env → List GB → (GV → Bool) → Bool} (hc : IsI gp call lk base hy ops y c)
    (h1 : ∀ t ∈ writesOf hx x, ∀ u ∈ y.looksAt ops, t ≠ u) (h2 : ∀ t ∈ writesOf hy y, ∀ u ∈ x.looksAt ops, t ≠ u) (e : Env) (H : List GB) (k : Option GV → GV → Option GV → GV → List GB → Bool) :
      geff gp call lk base hx ops x e H (fun X v H1 => geff gp call lk base hy ops y (put (putX e (uOf hx x) X) x.dst v) H1 (fun Y w H2 => k X v Y w H2)) =
      geff gp call lk base hy ops y e H (fun Y w H1 => geff gp call lk base hx ops x (put (putX e (uOf hy y) Y) y.dst w) H1 (fun X v H2 => k X v Y w H2)) := by
  rw [hf.1, hc.1]
  have hR : ∀ w, geff gp call lk base hx ops x (put (putX e (uOf hy y) none) y.dst w) H (fun X v H2 => k X v none w H2) = match f e H with | some v => k none v none w H | none => false := fun w => by
    rw [hf.1, hf.2 _ _ H (agree_after h2 e none w)]
    try (cases f e H <;> rfl)
  simp only [hR]
  cases hfe : f e H with
  | none => exact (hc.2.2 e H).symm
  | some v =>
    simp only
    rw [hc.1, hc.2.1 _ _ H (agree_after h1 e none v)]

theorem IsF.toI {hx : Nat} {x : Oper} {f : Env → List GB → Option GV} (hf : IsF gp call lk base hx ops x f) : IsI gp call lk base hx ops x (fun e H k => match f e H with | some v => k v | none => false) :=
  ⟨fun e H k => by rw [hf.1]; try simp only
                   try (cases f e H <;> rfl), fun e e' H ha => by simp only [hf.2 _ _ H ha], fun e H => by simp only; cases f e H <;> rfl⟩

theorem set_ne {H : List GB} {i j : Nat} {b : GB} (h : i ≠ j) : (H.set i b)[j]? = H[j]? := by
  rw [List.getElem?_set_ne h]

theorem swap_M {hx hy : Nat} {x y : Oper} {f g : Env → Option (GV × Option GB)} (hf : IsM gp call lk base hx ops x f) (hg : IsM gp call lk base hy ops y g) (hne : base + (hx - 10) ≠ base + (hy - 10))
    (h1 : ∀ t ∈ writesOf hx x, ∀ u ∈ y.looksAt ops, t ≠ u) (h2 : ∀ t ∈ writesOf hy y, ∀ u ∈ x.looksAt ops, t ≠ u) (e : Env) (H : List GB) (k : Option GV → GV → Option GV → GV → List GB → Bool) :
      geff gp call lk base hx ops x e H (fun X v H1 => geff gp call lk base hy ops y (put (putX e (uOf hx x) X) x.dst v) H1 (fun Y w H2 => k X v Y w H2)) =
      geff gp call lk base hy ops y e H (fun Y w H1 => geff gp call lk base hx ops x (put (putX e (uOf hy y) Y) y.dst w) H1 (fun X v H2 => k X v Y w H2)) := by
  have a1 : ∀ v, g (put (putX e (uOf hx x) none) x.dst v) = g e := fun v => hg.2 _ _ (agree_after h1 e none v)
  have a2 : ∀ w, f (put (putX e (uOf hy y) none) y.dst w) = f e := fun w => hf.2 _ _ (agree_after h2 e none w)
  simp only [hf.1, hg.1, a1, a2]
  cases hfe : f e with
  | none =>
    simp only
    cases g e with
    | none => rfl
    | some q =>
      obtain ⟨w, b⟩ := q
      cases b with
      | none => rfl
      | some b => simp only; split <;> rfl
  | some p =>
    obtain ⟨v, a⟩ := p
    cases hge : g e with
    | none =>
      cases a with
      | none => rfl
      | some a => simp only; split <;> rfl
    | some q =>
      obtain ⟨w, b⟩ := q
      cases a with
      | none =>
        cases b with
        | none => rfl
        | some b => simp only
      | some a =>
        cases b with
        | none => simp only
        | some b =>
          simp only [set_ne hne, set_ne (Ne.symm hne), List.set_comm _ _ hne]
          cases h3 : H[base + (hx - 10)]? with
          | none => simp only; split <;> rfl
          | some r =>
            cases r <;> simp only <;> first | rfl | (split <;> rfl)

theorem swap_fits (hn : NoMiracle call) {i j : Nat} {x y : Oper} (h : fits gp (hintOf hs i) (hintOf hs j) ops x y = true) (s : St) (K : St → Bool) :
    gop gp call lk base hs ops i x s (fun s' => gop gp call lk base hs ops j y s' K) = gop gp call lk base hs ops j y s (fun s' => gop gp call lk base hs ops i x s' K) := by
  unfold fits at h
  simp only [Bool.and_eq_true] at h
  obtain ⟨⟨hc, h1⟩, h2⟩ := h
  have h1 := apartL_spec h1
  have h2 := apartL_spec h2
  have hl : ∀ t ∈ writesOf (hintOf hs i) x, ∀ u ∈ y.looksAt ops, t ≠ u := fun t ht u hu => h1 t ht u (List.mem_append_left _ hu)
  have hw : ∀ t ∈ writesOf (hintOf hs i) x, ∀ u ∈ writesOf (hintOf hs j) y, t ≠ u := fun t ht u hu => h1 t ht u (List.mem_append_right _ hu)
  refine swap_of i j x y (fun e H k => ?_) hw s K
  unfold fitC at hc
  simp only [Bool.or_eq_true, Bool.and_eq_true, Nat.beq_eq, Bool.not_eq_true'] at hc
  rcases hc with ((((hc | hc) | hc) | hc) | hc) | hc
  · obtain ⟨f, hf⟩ := isF_zero (call := call) (lk := lk) (base := base) (ops := ops) hc
    exact swap_F hn hf hl h2 e H k
  · obtain ⟨f, hf⟩ := isF_zero (call := call) (lk := lk) (base := base) (ops := ops) hc
    exact (swap_F hn hf h2 hl e H fun Y w X v H2 => k X v Y w H2).symm
  · obtain ⟨f, hf⟩ := isF_one (call := call) (lk := lk) (base := base) (ops := ops) hc.1
    obtain ⟨g, hg⟩ := isF_one (call := call) (lk := lk) (base := base) (ops := ops) hc.2
    exact swap_RI hf hg.toI hl h2 e H k
  · obtain ⟨f, hf⟩ := isF_one (call := call) (lk := lk) (base := base) (ops := ops) hc.1
    obtain ⟨c, hg⟩ := isI_two (lk := lk) (base := base) (ops := ops) hn hc.2
    exact swap_RI hf hg hl h2 e H k
  · obtain ⟨c, hf⟩ := isI_two (lk := lk) (base := base) (ops := ops) hn hc.1
    obtain ⟨g, hg⟩ := isF_one (call := call) (lk := lk) (base := base) (ops := ops) hc.2
    exact (swap_RI hg hf h2 hl e H fun Y w X v H2 => k X v Y w H2).symm
  · obtain ⟨⟨c1, c2⟩, c3⟩ := hc
    obtain ⟨q1, f, hf⟩ := isM_three (call := call) (lk := lk) (base := base) (ops := ops) c1
    obtain ⟨q2, g, hg⟩ := isM_three (call := call) (lk := lk) (base := base) (ops := ops) c2
    have hne : hintOf hs i ≠ hintOf hs j := fun q => by rw [q] at c3; simp at c3
    exact swap_M hf hg (by omega) hl h2 e H k
end Go.Gh
namespace Go.Gh
open Go.RowKit
variable {gp : GP} {call : Call} {lk base : Nat} {hs : List (Nat × Nat)} {ops : Array Oper}

theorem gops_no (hc : NoMiracle call) {K : St → Bool} (hK : ∀ s, K s = false) : ∀ (l : List (Nat × Oper)) (s : St), gops gp call lk base hs ops l s K = false
  | [], s => hK s
  | (i, o) :: r, s => by
    obtain ⟨e, H⟩ := s
    simp only [gops]
    rw [gop_eff]
    exact geff_no hc fun X v h => gops_no hc hK r _
theorem frz_no {K : St → Bool} (hK : ∀ s, K s = false) : ∀ (l : List (Nat × Nat)) (s : St), frz gp lk l s K = false
  | [], s => hK s
  | (t, e) :: r, s => by
    simp only [frz]
    split
    · exact frz_no hK r _
    · rfl
/-- A frame of the region: what stands round its operations. -/
theorem frz_mono {K K' : St → Bool} (h : ∀ s, K s = true → K' s = true) : ∀ (l : List (Nat × Nat)) (s : St), frz gp lk l s K = true → frz gp lk l s K' = true
  | [], s, hk => h s hk
  | (t, e) :: r, s, hk => by
    simp only [frz] at hk ⊢
    split at hk
    · exact frz_mono h r _ hk
    · cases hk
theorem gregion_no (hc : NoMiracle call) {f id : Nat} {K : St → Bool} (hK : ∀ s, K s = false) (s : St) : gregion gp call lk f id ops s K = false := by
  unfold gregion
  refine frz_no (fun s1 => ?_) _ _
  split
  · rw [gops_no hc (fun s' => frz_no hK _ _)]
  · rw [gops_no hc (fun s' => frz_no hK _ _)]
    rfl
theorem giter_no {body : St → (GX → St → Bool) → Bool} (hb : ∀ K s, (∀ x s, K x s = false) → body s K = false) {K : GX → St → Bool} (hK : ∀ x s, K x s = false) : ∀ n s, giter body n s K = false
  | 0, _ => rfl
  | n + 1, s => by
    simp only [giter]
    refine hb _ _ fun x s' => ?_
    cases x with
    | normal => exact giter_no hb hK n s'
    | exit i => exact hK _ _
    | ret => exact hK _ _
theorem gx_no (hc : NoMiracle call) {f L : Nat} : ∀ (c : Code) (K : GX → St → Bool) (s : St), (∀ x s, K x s = false) → gx gp call lk f L c s K = false
  | .skip, K, s, hK => hK _ _
  | .region id ops d, K, s, hK => gregion_no hc (fun s => hK _ _) s
  | .seq a b, K, s, hK => by
    simp only [gx]
    refine gx_no hc a _ _ fun x s' => ?_
    cases x with
    | normal => exact gx_no hc b _ _ hK
    | exit i => exact hK _ _
    | ret => exact hK _ _
  | .cond c a b, K, s, hK => by
    simp only [gx]
    split
    · rename_i t _
      cases t
      · exact gx_no hc b _ _ hK
      · exact gx_no hc a _ _ hK
    · rfl
  | .block id c, K, s, hK => by
    simp only [gx]
    refine gx_no hc c _ _ fun x s' => ?_
    cases x with
    | normal => exact hK _ _
    | exit i => simp only [hK, Bool.cond_self]
    | ret => exact hK _ _
  | .loop c, K, s, hK => giter_no (fun K s hK => gx_no hc c K s hK) hK L s
  | .exit id, K, s, hK => hK _ _
  | .ret, K, s, hK => hK _ _
  | .rangeFunc .., K, s, hK => rfl
  | .scope _, K, s, hK => rfl
  | .label _, K, s, hK => rfl
  | .goto _, K, s, hK => rfl
  | .refuse _, K, s, hK => rfl

theorem gcall_no (ho : ∀ f F, gp.ovr f = some F → ∀ args h, F args h (fun _ _ => false) = false) : ∀ n, NoMiracle (gcall gp n)
  | 0 => fun _ _ _ _ => rfl
  | n + 1 => fun lk f args h => by
    simp only [gcall]
    split
    · rename_i F hF; exact ho f F hF args h
    · split <;> try rfl
      split <;> try rfl
      refine gx_no (gcall_no ho n) _ _ _ fun x s => ?_
      cases x <;> simp only
      all_goals (split <;> rfl)
end Go.Gh
namespace Go.Gh
open Go.RowKit

def Ord (ops : Array Oper) : Array Bool → List Nat → Prop
  | listed, [] => Region.ready .any ops listed = []
  | listed, i :: r => i ∈ Region.ready .any ops listed ∧ Ord ops (listed.setIfInBounds i true) r

def Back (ops : Array Oper) : Prop := ∀ (i : Nat) (o : Oper), ops[i]? = some o → ∀ e ∈ o.after, Region.binds .any e = true → e.on < i

def unl (ops : Array Oper) (listed : Array Bool) : List Nat := (List.range ops.size).filter fun i => !listed.getD i true
theorem mem_unl {ops : Array Oper} {listed : Array Bool} (hs : listed.size = ops.size) {i : Nat} : i ∈ unl ops listed ↔ listed.getD i true = false := by
  unfold unl
  rw [List.mem_filter, List.mem_range]
  constructor
  · intro h; simpa using h.2
  · intro h
    refine ⟨?_, by simpa using h⟩
    rcases Nat.lt_or_ge i ops.size with q | q
    · exact q
    · rw [Array.getD, dif_neg (by omega)] at h; cases h
theorem getD_set_self {listed : Array Bool} {i : Nat} (d : Bool) (h : i < listed.size) : (listed.setIfInBounds i true).getD i d = true := by
  simp [Array.getD, h]

theorem nodup_filter' {α : Type} (p : α → Bool) {l : List α} (h : l.Nodup) : (l.filter p).Nodup := h.sublist List.filter_sublist
theorem unl_nodup (ops : Array Oper) (listed : Array Bool) : (unl ops listed).Nodup := nodup_filter' _ List.nodup_range

theorem unl_set {ops : Array Oper} {listed : Array Bool} (hs : listed.size = ops.size) {i : Nat} (hi : listed.getD i true = false) : (i :: unl ops (listed.setIfInBounds i true)).Perm (unl ops listed) := by
  have hlt : i < listed.size := by
    rcases Nat.lt_or_ge i listed.size with q | q
    · exact q
    · rw [Array.getD, dif_neg (by omega)] at hi; cases hi
  have hs' : (listed.setIfInBounds i true).size = ops.size := by simpa using hs
  refine (List.perm_ext_iff_of_nodup ?_ (unl_nodup _ _)).2 fun j => ?_
  · refine List.nodup_cons.2 ⟨fun h => ?_, unl_nodup _ _⟩
    rw [mem_unl hs', getD_set_self _ hlt] at h; cases h
  · rw [List.mem_cons, mem_unl hs, mem_unl hs']
    by_cases hji : j = i
    · subst hji; simp [hi]
    · rw [getD_set_ne true (Ne.symm hji)]; simp [hji]

theorem ready_unl {ops : Array Oper} {listed : Array Bool} {i : Nat} (h : i ∈ Region.ready .any ops listed) : listed.getD i true = false := (mem_ready.1 h).1

theorem go_ord {ops : Array Oper} : ∀ (fuel t : Nat) (listed : Array Bool), listed.size = ops.size → (unl ops listed).length ≤ fuel → Ord ops listed (Region.linearise.go .any ops fuel t listed []) := by
  intro fuel
  induction fuel with
  | zero =>
    intro t listed hs hf
    have h0 : unl ops listed = [] := List.length_eq_zero_iff.1 (by omega)
    simp only [Region.linearise.go, List.reverse_nil, Ord]
    refine List.eq_nil_iff_forall_not_mem.2 fun i hi => ?_
    have := (mem_unl hs).2 (ready_unl hi)
    rw [h0] at this; cases this
  | succ fuel ih =>
    intro t listed hs hf
    simp only [Region.linearise.go]
    change Ord ops listed (match (Region.ready .any ops listed)[t % (Region.ready .any ops listed).length]? with
      | some i => Region.linearise.go .any ops fuel (t / (Region.ready .any ops listed).length) (listed.setIfInBounds i true) [i]
      | none => [].reverse)
    cases hi : (Region.ready .any ops listed)[t % (Region.ready .any ops listed).length]? with
    | none =>
      simp only [List.reverse_nil, Ord]
      cases hr : Region.ready .any ops listed with
      | nil => rfl
      | cons x xs =>
        rw [hr] at hi
        have hlt : t % (x :: xs).length < (x :: xs).length := Nat.mod_lt _ (by simp)
        rw [List.getElem?_eq_getElem hlt] at hi
        cases hi
    | some i =>
      simp only
      have hm := List.mem_of_getElem? hi
      rw [linearise_go_acc, List.reverse_singleton, List.singleton_append]
      refine ⟨hm, ih _ _ (by simpa using hs) ?_⟩
      have := (unl_set hs (ready_unl hm)).length_eq
      simp only [List.length_cons] at this
      omega

theorem ord_nil {ops : Array Oper} (hb : Back ops) {listed : Array Bool} (hs : listed.size = ops.size) (h : Region.ready .any ops listed = []) : ∀ i, listed.getD i true ≠ false := by
  intro i
  induction i using Nat.strongRecOn with
  | _ i ih =>
    intro hi
    have hlt : i < ops.size := by have := (mem_unl hs).2 hi; unfold unl at this; rw [List.mem_filter, List.mem_range] at this; exact this.1
    have : i ∈ Region.ready .any ops listed := mem_ready.2 ⟨hi, ops[i], Array.getElem?_eq_getElem hlt, fun e he hbd => by
      have h1 := hb i ops[i] (Array.getElem?_eq_getElem hlt) e he hbd
      have h2 := ih e.on h1
      have h3 : e.on < listed.size := by omega
      simp only [Array.getD, h3, dif_pos] at h2 ⊢
      simpa using h2⟩
    rw [h] at this; cases this

theorem ord_spec {ops : Array Oper} (hb : Back ops) : ∀ (l : List Nat) (listed : Array Bool), listed.size = ops.size → Ord ops listed l →
    l.Perm (unl ops listed) ∧ ∀ a i b, l = a ++ i :: b → ∀ o, ops[i]? = some o → ∀ e ∈ o.after, Region.binds .any e = true → listed.getD e.on false = true ∨ e.on ∈ a
  | [], listed, hs, h => by
    refine ⟨?_, fun a i b q => by simp at q⟩
    have : unl ops listed = [] := List.eq_nil_iff_forall_not_mem.2 fun i hi => ord_nil hb hs h i ((mem_unl hs).1 hi)
    rw [this]
  | x :: r, listed, hs, h => by
    obtain ⟨h1, h2⟩ := h
    obtain ⟨q1, q2⟩ := ord_spec hb r _ (by simpa using hs) h2
    refine ⟨(List.Perm.cons x q1).trans (unl_set hs (ready_unl h1)), fun a i b hl o ho e he hbd => ?_⟩
    cases a with
    | nil =>
      simp only [List.nil_append, List.cons.injEq] at hl
      obtain ⟨rfl, rfl⟩ := hl
      obtain ⟨_, o', ho', hall⟩ := mem_ready.1 h1
      rw [ho] at ho'; cases ho'
      exact .inl (hall e he hbd)
    | cons y a =>
      simp only [List.cons_append, List.cons.injEq] at hl
      obtain ⟨rfl, hl⟩ := hl
      rcases q2 a i b hl o ho e he hbd with q | q
      · by_cases hxe : x = e.on
        · exact .inr (by simp [hxe])
        · rw [getD_set_ne false hxe] at q; exact .inl q
      · exact .inr (List.mem_cons_of_mem _ q)

/-- A row of numbers in an order in which the region may run. -/
structure Lin (ops : Array Oper) (l : List Nat) : Prop where
  perm : l.Perm (List.range ops.size)
  after : ∀ a i b, l = a ++ i :: b → ∀ o, ops[i]? = some o → ∀ e ∈ o.after, Region.binds .any e = true → e.on ∈ a

theorem lin_of {ops : Array Oper} (hb : Back ops) (t : Nat) : Lin ops (Region.linearise .any ops t) := by
  have hs : (Array.replicate ops.size false).size = ops.size := by simp
  have hu : unl ops (Array.replicate ops.size false) = List.range ops.size := by
    unfold unl
    refine List.filter_eq_self.2 fun i hi => ?_
    have : i < ops.size := List.mem_range.1 hi
    simp [Array.getD, this]
  have ho := go_ord ops.size t (Array.replicate ops.size false) hs (by rw [hu]; simp)
  obtain ⟨h1, h2⟩ := ord_spec hb _ _ hs ho
  rw [hu] at h1
  refine ⟨h1, fun a i b hl o hoi e he hbd => (h2 a i b hl o hoi e he hbd).resolve_left fun q => ?_⟩
  rcases Nat.lt_or_ge e.on ops.size with r | r
  · simp [Array.getD, r] at q
  · simp [Array.getD, Nat.not_lt.2 r] at q

def Bef {α : Type} (l : List α) (p q : α) : Prop := ∃ a b, l = a ++ b ∧ p ∈ a ∧ q ∈ b

theorem Bef.cons {α : Type} {l : List α} {p q : α} (x : α) (h : Bef l p q) : Bef (x :: l) p q := by
  obtain ⟨a, b, rfl, hp, hq⟩ := h
  exact ⟨x :: a, b, rfl, List.mem_cons_of_mem _ hp, hq⟩
theorem Bef.head {α : Type} {l : List α} {x q : α} (h : q ∈ l) : Bef (x :: l) x q := ⟨[x], l, rfl, by simp, h⟩
theorem Bef.asymm {α : Type} {l : List α} (hn : l.Nodup) {p q : α} (h : Bef l p q) (h' : Bef l q p) : False := by
  induction l with
  | nil => obtain ⟨a, b, hl, hp, hq⟩ := h; simp only [List.nil_eq_append_iff] at hl; rw [hl.1] at hp; cases hp
  | cons x r ih =>
    have hx := (List.nodup_cons.1 hn).1
    have hr := (List.nodup_cons.1 hn).2
    have key : ∀ {p q : α}, Bef (x :: r) p q → (p = x ∧ q ∈ r) ∨ (q ∈ r ∧ p ∈ r ∧ Bef r p q) := fun {p q} h => by
      obtain ⟨a, b, hl, hp, hq⟩ := h
      cases a with
      | nil => cases hp
      | cons y a =>
        simp only [List.cons_append, List.cons.injEq] at hl
        obtain ⟨rfl, rfl⟩ := hl
        rcases List.mem_cons.1 hp with rfl | hp
        · exact .inl ⟨rfl, List.mem_append_right _ hq⟩
        · exact .inr ⟨List.mem_append_right _ hq, List.mem_append_left _ hp, a, b, rfl, hp, hq⟩
    rcases key h with ⟨rfl, h1⟩ | ⟨h1, h2, h3⟩
    · rcases key h' with ⟨rfl, h4⟩ | ⟨h4, _, _⟩
      · exact hx h1
      · exact hx h4
    · rcases key h' with ⟨rfl, h4⟩ | ⟨_, _, h4⟩
      · exact hx h1
      · exact ih hr h3 h4

variable {gp : GP} {call : Call} {lk base : Nat} {hs : List (Nat × Nat)} {ops : Array Oper}

def SW (gp : GP) (call : Call) (lk base : Nat) (hs : List (Nat × Nat)) (ops : Array Oper) (p q : Nat × Oper) : Prop := ∀ s K,
  gop gp call lk base hs ops p.1 p.2 s (fun s' => gop gp call lk base hs ops q.1 q.2 s' K) = gop gp call lk base hs ops q.1 q.2 s (fun s' => gop gp call lk base hs ops p.1 p.2 s' K)

theorem gops_front (q : Nat × Oper) (post : List (Nat × Oper)) (K : St → Bool) : ∀ (pre : List (Nat × Oper)) (s : St), (∀ p ∈ pre, SW gp call lk base hs ops p q) → gops gp call lk base hs ops (pre ++ q :: post) s K = gops gp call lk base hs ops (q :: (pre ++ post)) s K
  | [], s, _ => rfl
  | p :: r, s, h => by
    have ih : ∀ s', gops gp call lk base hs ops (r ++ q :: post) s' K = gops gp call lk base hs ops (q :: (r ++ post)) s' K := fun s' => gops_front q post K r s' fun x hx => h x (List.mem_cons_of_mem _ hx)
    have hp := h p (by simp) s (fun s' => gops gp call lk base hs ops (r ++ post) s' K)
    obtain ⟨i, o⟩ := p
    obtain ⟨j, u⟩ := q
    simp only [List.cons_append, gops] at ih ⊢
    simp only [ih]
    exact hp

theorem gops_sort (K : St → Bool) : ∀ (l L : List (Nat × Oper)) (s : St), L.Perm l → L.Nodup → (∀ p q, Bef L p q → Bef l q p → SW gp call lk base hs ops p q) → gops gp call lk base hs ops L s K = gops gp call lk base hs ops l s K
  | [], L, s, hp, _, _ => by rw [List.perm_nil.1 hp]
  | x :: r, L, s, hp, hn, h => by
    have hx : x ∈ L := hp.mem_iff.2 (by simp)
    obtain ⟨pre, post, rfl⟩ := List.append_of_mem hx
    have hpp : (pre ++ post).Perm r := List.Perm.cons_inv ((List.perm_middle.symm).trans hp)
    have hnn : (pre ++ post).Nodup := ((List.perm_middle.nodup_iff).1 hn).sublist (List.sublist_cons_self ..)
    have hxn : x ∉ pre ++ post := (List.nodup_cons.1 ((List.perm_middle.nodup_iff).1 hn)).1
    rw [gops_front x post K pre s fun p hpm => h p x ⟨pre, x :: post, rfl, hpm, by simp⟩ (Bef.head (hpp.mem_iff.1 (List.mem_append_left _ hpm)))]
    obtain ⟨i, o⟩ := x
    simp only [gops]
    congr 1
    funext s'
    refine gops_sort K r (pre ++ post) s' hpp hnn fun p q hpq hqp => h p q ?_ (hqp.cons _)
    obtain ⟨a, b, hab, hpa, hqb⟩ := hpq
    rcases List.append_eq_append_iff.1 hab with ⟨c, rfl, rfl⟩ | ⟨c, rfl, rfl⟩
    · exact ⟨pre ++ (i, o) :: c, b, by simp, by
        rcases List.mem_append.1 hpa with q | q
        · exact List.mem_append_left _ q
        · exact List.mem_append_right _ (List.mem_cons_of_mem _ q), hqb⟩
    · exact ⟨a, c ++ (i, o) :: post, by simp, hpa, by
        rcases List.mem_append.1 hqb with q | q
        · exact List.mem_append_left _ q
        · exact List.mem_append_right _ (List.mem_cons_of_mem _ q)⟩
end Go.Gh
namespace Go.Gh
open Go.RowKit

theorem Bef.pairwise {α : Type} {R : α → α → Prop} {l : List α} (h : l.Pairwise R) {p q : α} (hb : Bef l p q) : R p q := by
  obtain ⟨a, b, rfl, hp, hq⟩ := hb
  exact (List.pairwise_append.1 h).2.2 p hp q hq
theorem Bef.of_map {α β : Type} {f : α → β} {l : List α} {p q : β} (h : Bef (l.map f) p q) : ∃ i j, p = f i ∧ q = f j ∧ Bef l i j := by
  obtain ⟨a, b, hl, hp, hq⟩ := h
  obtain ⟨a', b', rfl, rfl, rfl⟩ := List.map_eq_append_iff.1 hl
  obtain ⟨i, hi, rfl⟩ := List.mem_map.1 hp
  obtain ⟨j, hj, rfl⟩ := List.mem_map.1 hq
  exact ⟨i, j, rfl, rfl, a', b', rfl, hi, hj⟩
theorem Bef.mem {α : Type} {l : List α} {p q : α} (h : Bef l p q) : p ∈ l ∧ q ∈ l := by
  obtain ⟨a, b, rfl, hp, hq⟩ := h
  exact ⟨List.mem_append_left _ hp, List.mem_append_right _ hq⟩
theorem Bef.total {α : Type} [DecidableEq α] : ∀ {l : List α} {p q : α}, p ∈ l → q ∈ l → p ≠ q → Bef l p q ∨ Bef l q p
  | [], p, q, hp, _, _ => by cases hp
  | x :: r, p, q, hp, hq, hne => by
    rcases List.mem_cons.1 hp with rfl | hp'
    · rcases List.mem_cons.1 hq with rfl | hq'
      · exact absurd rfl hne
      · exact .inl (Bef.head hq')
    · rcases List.mem_cons.1 hq with rfl | hq'
      · exact .inr (Bef.head hp')
      · rcases Bef.total hp' hq' hne with h | h
        · exact .inl (h.cons _)
        · exact .inr (h.cons _)

def pr (ops : Array Oper) (i : Nat) : Nat × Oper := (i, (ops[i]?).getD default)

theorem number_pr (ops : Array Oper) : number 0 ops.toList = (List.range ops.size).map (pr ops) := by
  have key : ∀ (l : List Oper) (i : Nat), (∀ k, k < l.length → ops[i + k]? = l[k]?) → number i l = (List.range' i l.length).map (pr ops) := by
    intro l
    induction l with
    | nil => intro i _; rfl
    | cons x r ih =>
      intro i h
      simp only [number, List.length_cons, List.range'_succ, List.map_cons]
      rw [ih (i + 1) fun k hk => by have := h (k + 1) (by simpa using hk); simp only [List.getElem?_cons_succ] at this; rw [← this]; congr 1; omega]
      have h0 := h 0 (by simp)
      simp only [Nat.add_zero, List.getElem?_cons_zero] at h0
      simp [pr, h0]
  rw [key ops.toList 0 fun k hk => by simp, List.range_eq_range']
  simp

def upto (n : Nat) (f : Nat → Bool) : Bool :=
  match n with
  | 0 => true
  | n + 1 => upto n f && f n
theorem upto_spec {f : Nat → Bool} : ∀ {n : Nat}, upto n f = true → ∀ i, i < n → f i = true
  | 0, _, i, hi => absurd hi (by omega)
  | n + 1, h, i, hi => by
    simp only [upto, Bool.and_eq_true] at h
    by_cases q : i = n
    · subst q; exact h.2
    · exact upto_spec h.1 i (by omega)

def maskB (M : Array Nat) (i x : Nat) : Bool := (M.getD i 0).testBit x
def drawOk (gp : GP) (hs : List (Nat × Nat)) (dual : Option (Nat × Nat)) (ops : Array Oper) (M : Array Nat) : Bool :=
  upto ops.size fun i => match ops[i]? with
    | none => false
    | some o => o.after.all (fun e => !(Region.binds .any e) || e.on.blt i) &&
      upto i fun x => (match ops[x]? with
        | none => false
        | some p => (bif maskB M i x then o.after.any (fun e => Region.binds .any e && (e.on.beq x || (x.blt e.on && maskB M e.on x)))
          else fits gp (hintOf hs x) (hintOf hs i) ops p o || (match dual with | some (a, b) => a.beq x && b.beq i | none => false)) &&
          (match dual with | some (a, b) => !(a.beq x) || !(i.blt b) || (!(maskB M i x) && fits gp (hintOf hs x) (hintOf hs i) ops p o) | none => true))

structure DrawOk (gp : GP) (hs : List (Nat × Nat)) (dual : Option (Nat × Nat)) (ops : Array Oper) (M : Array Nat) : Prop where
  back : Back ops
  mask : ∀ i o x, ops[i]? = some o → x < i → maskB M i x = true → ∃ e ∈ o.after, Region.binds .any e = true ∧ (e.on = x ∨ (x < e.on ∧ maskB M e.on x = true))
  pair : ∀ i o x p, ops[i]? = some o → ops[x]? = some p → x < i → maskB M i x = true ∨ fits gp (hintOf hs x) (hintOf hs i) ops p o = true ∨ dual = some (x, i)
  dual : ∀ a b, dual = some (a, b) → ∀ i o p, ops[i]? = some o → ops[a]? = some p → a < i → i < b → fits gp (hintOf hs a) (hintOf hs i) ops p o = true

theorem drawOk.spec {gp : GP} {hs : List (Nat × Nat)} {dual : Option (Nat × Nat)} {ops : Array Oper} {M : Array Nat} (h : drawOk gp hs dual ops M = true) : DrawOk gp hs dual ops M := by
  unfold drawOk at h
  have h1 := upto_spec h
  have hlt : ∀ {i : Nat} {o : Oper}, ops[i]? = some o → i < ops.size := fun ho => (Array.getElem?_eq_some_iff.1 ho).1
  refine ⟨fun i o ho e he hb => ?_, fun i o x ho hx hm => ?_, fun i o x p ho hp hx => ?_, fun a b hd i o p ho hp hai hib => ?_⟩
  · have := h1 i (hlt ho)
    simp only [ho, Bool.and_eq_true] at this
    have := Array.all_eq_true_iff_forall_mem.1 this.1 e he
    rw [hb] at this
    simpa [Nat.blt_eq] using this
  · have := h1 i (hlt ho)
    simp only [ho, Bool.and_eq_true] at this
    have h2 := upto_spec this.2 x hx
    split at h2
    · cases h2
    · rw [hm] at h2
      simp only [cond_true, Bool.and_eq_true] at h2
      obtain ⟨e, he, hb⟩ := Array.any_eq_true'.1 h2.1
      simp only [Bool.and_eq_true, Bool.or_eq_true, Nat.beq_eq, Nat.blt_eq] at hb
      exact ⟨e, he, hb.1, hb.2⟩
  · have := h1 i (hlt ho)
    simp only [ho, Bool.and_eq_true] at this
    have h2 := upto_spec this.2 x hx
    simp only [hp, Bool.and_eq_true] at h2
    have h2 := h2.1
    cases hm : maskB M i x with
    | true => exact .inl rfl
    | false =>
      rw [hm] at h2
      simp only [cond_false, Bool.or_eq_true] at h2
      rcases h2 with h2 | h2
      · exact .inr (.inl h2)
      · split at h2
        · simp only [Bool.and_eq_true, Nat.beq_eq] at h2
          obtain ⟨rfl, rfl⟩ := h2
          exact .inr (.inr rfl)
        · cases h2
  · subst hd
    have := h1 i (hlt ho)
    simp only [ho, Bool.and_eq_true] at this
    have h2 := upto_spec this.2 a hai
    simp only [hp, Bool.and_eq_true] at h2
    have h2 := h2.2
    have : i.blt b = true := by simpa [Nat.blt_eq] using hib
    simp only [Nat.beq_refl, Bool.not_true, Bool.false_or, this, Bool.and_eq_true] at h2
    exact h2.2

variable {gp : GP} {call : Call} {lk base : Nat} {hs : List (Nat × Nat)} {dual : Option (Nat × Nat)} {ops : Array Oper} {M : Array Nat}

theorem dep_before (h : DrawOk gp hs dual ops M) {l : List Nat} (hl : Lin ops l) : ∀ (i x : Nat), i < ops.size → x < i → maskB M i x = true → Bef l x i := by
  have hn : l.Nodup := (hl.perm.nodup_iff).2 List.nodup_range
  intro i
  induction i using Nat.strongRecOn with
  | _ i ih =>
    intro x hi hx hm
    obtain ⟨e, he, hb, hor⟩ := h.mask i ops[i] x (Array.getElem?_eq_getElem hi) hx hm
    have hmi : i ∈ l := hl.perm.mem_iff.2 (List.mem_range.2 hi)
    obtain ⟨a, b, hab⟩ := List.append_of_mem hmi
    have hea := hl.after a i b hab ops[i] (Array.getElem?_eq_getElem hi) e he hb
    have hei := h.back i ops[i] (Array.getElem?_eq_getElem hi) e he hb
    rcases hor with rfl | ⟨hxe, hme⟩
    · exact ⟨a, i :: b, hab, hea, by simp⟩
    · have hbe := ih e.on hei x (by omega) hxe hme
      by_cases hxa : x ∈ a
      · exact ⟨a, i :: b, hab, hxa, by simp⟩
      · have hxl := hbe.mem.1
        rw [hab] at hxl
        have hxr := (List.mem_append.1 hxl).resolve_left hxa
        exact (hbe.asymm hn ⟨a, i :: b, hab, hea, hxr⟩).elim

theorem SW.symm {p q : Nat × Oper} (h : SW gp call lk base hs ops p q) : SW gp call lk base hs ops q p := fun s K => (h s K).symm
theorem pr_get {i : Nat} (h : i < ops.size) : ops[i]? = some (pr ops i).2 := by
  simp [pr, h]
theorem pr_inj {i j : Nat} (h : pr ops i = pr ops j) : i = j := by
  have := congrArg Prod.fst h
  exact this
theorem nodup_pr {l : List Nat} (h : l.Nodup) : (l.map (pr ops)).Nodup := by
  rw [List.Nodup, List.pairwise_map]
  exact h.imp fun hne q => hne (pr_inj q)

def delayN (i j : Nat) (l : List Nat) : List Nat :=
  l.filter (fun p => p.ble j && !(p.beq i)) ++ l.filter (fun p => p.beq i) ++ l.filter (fun p => !(p.ble j))
theorem delay_pr (i j : Nat) (l : List Nat) : delay i j (l.map (pr ops)) = (delayN i j l).map (pr ops) := by
  simp only [delay, delayN, List.map_append, List.filter_map]
  rfl
theorem delayN_perm {i j : Nat} (hij : i < j) (l : List Nat) : (delayN i j l).Perm l := by
  unfold delayN
  have h1 : (l.filter (fun p => p.ble j && !(p.beq i)) ++ l.filter (fun p => p.beq i)).Perm (l.filter fun p => p.ble j) := by
    have h2 := List.filter_append_perm (fun p : Nat => !(p.beq i)) (l.filter fun p => p.ble j)
    rw [List.filter_filter, List.filter_filter] at h2
    have e1 : (l.filter fun a => !(a.beq i) && a.ble j) = l.filter (fun p => p.ble j && !(p.beq i)) := List.filter_congr fun x _ => by rw [Bool.and_comm]
    have e2 : (l.filter fun a => !(!(a.beq i)) && a.ble j) = l.filter (fun p => p.beq i) := List.filter_congr fun x _ => by
      cases hx : x.beq i with
      | false => simp
      | true =>
        have := Nat.eq_of_beq_eq_true hx
        subst this
        simp [Nat.ble_eq, Nat.le_of_lt hij]
    rw [e1, e2] at h2
    exact h2
  exact (h1.append_right _).trans (List.filter_append_perm (fun p : Nat => p.ble j) l)

theorem delayN_pairwise {i j : Nat} (hij : i < j) (n : Nat) : (delayN i j (List.range n)).Pairwise fun x y => (x < y ∨ (y = i ∧ x ≤ j)) ∧ ¬(x = i ∧ y = j) := by
  have hp : (List.range n).Pairwise (· < ·) := List.pairwise_lt_range
  unfold delayN
  refine List.pairwise_append.2 ⟨List.pairwise_append.2 ⟨?_, ?_, fun x hx y hy => ?_⟩, ?_, fun x hx y hy => ?_⟩
  · refine (hp.filter _).imp_of_mem fun {x y} hx hy h => ⟨.inl h, fun q => ?_⟩
    have := (List.mem_filter.1 hx).2
    simp [q.1] at this
  · refine (hp.filter _).imp_of_mem fun {x y} hx hy h => ?_
    have h1 := Nat.eq_of_beq_eq_true ((List.mem_filter.1 hx).2)
    have h2 := Nat.eq_of_beq_eq_true ((List.mem_filter.1 hy).2)
    omega
  · have h1 := (List.mem_filter.1 hx).2
    have h2 := Nat.eq_of_beq_eq_true ((List.mem_filter.1 hy).2)
    simp only [Bool.and_eq_true, Nat.ble_eq] at h1
    exact ⟨.inr ⟨h2, h1.1⟩, fun q => by omega⟩
  · refine (hp.filter _).imp_of_mem fun {x y} hx hy h => ⟨.inl h, fun q => ?_⟩
    have := (List.mem_filter.1 hx).2
    rw [q.1] at this
    simp only [Bool.not_eq_true', ← Bool.not_eq_true, Nat.ble_eq] at this
    omega
  · have h2 := (List.mem_filter.1 hy).2
    simp only [Bool.not_eq_true', ← Bool.not_eq_true, Nat.ble_eq] at h2
    refine ⟨.inl ?_, fun q => by omega⟩
    rcases List.mem_append.1 hx with hx | hx
    · have h1 := (List.mem_filter.1 hx).2
      simp only [Bool.and_eq_true, Nat.ble_eq] at h1
      omega
    · have h1 := Nat.eq_of_beq_eq_true ((List.mem_filter.1 hx).2)
      omega

theorem draw_lin (hn : NoMiracle call) (h : DrawOk gp hs dual ops M) (hd : ∀ a b, dual = some (a, b) → a < b) {l : List Nat} (hl : Lin ops l) {s : St} {K : St → Bool}
    (h1 : gops gp call lk base hs ops (number 0 ops.toList) s K = true) (h2 : ∀ a b, dual = some (a, b) → gops gp call lk base hs ops (delay a b (number 0 ops.toList)) s K = true) :
    gops gp call lk base hs ops (l.map (pr ops)) s K = true := by
  have hnd : l.Nodup := (hl.perm.nodup_iff).2 List.nodup_range
  have hlt : ∀ {i : Nat}, i ∈ l → i < ops.size := fun hi => List.mem_range.1 (hl.perm.mem_iff.1 hi)
  have sw : ∀ {x i : Nat}, x < i → i < ops.size → Bef l i x → dual ≠ some (x, i) → SW gp call lk base hs ops (pr ops x) (pr ops i) := fun {x i} hx hi hb hne => by
    rcases h.pair i _ x _ (pr_get hi) (pr_get (by omega)) hx with q | q | q
    · exact ((dep_before h hl i x hi hx q).asymm hnd hb).elim
    · exact swap_fits hn q
    · exact absurd q hne
  have plain : (∀ a b, dual = some (a, b) → ¬ Bef l b a) → gops gp call lk base hs ops (l.map (pr ops)) s K = true := fun hno => by
    rw [number_pr] at h1
    rw [← gops_sort K (l.map (pr ops)) _ s (hl.perm.symm.map _) (nodup_pr List.nodup_range) fun p q hpq hqp => ?_]
    · exact h1
    · obtain ⟨x, i, rfl, rfl, hxi⟩ := hpq.of_map
      obtain ⟨i', x', q1, q2, hix⟩ := hqp.of_map
      cases pr_inj q1; cases pr_inj q2
      have hlt' : x < i := hxi.pairwise List.pairwise_lt_range
      exact sw hlt' (hlt hix.mem.1) hix fun q => hno x i q hix
  cases hdu : dual with
  | none => exact plain fun a b q => by rw [hdu] at q; cases q
  | some ab =>
    obtain ⟨a, b⟩ := ab
    by_cases hba : Bef l b a
    · have h2 := h2 a b hdu
      rw [number_pr, delay_pr] at h2
      have hab := hd a b hdu
      rw [← gops_sort K (l.map (pr ops)) _ s ((hl.perm.trans (delayN_perm hab _).symm).symm.map _) (nodup_pr (((delayN_perm hab _).nodup_iff).2 List.nodup_range)) fun p q hpq hqp => ?_]
      · exact h2
      · obtain ⟨x, i, rfl, rfl, hxi⟩ := hpq.of_map
        obtain ⟨i', x', q1, q2, hix⟩ := hqp.of_map
        cases pr_inj q1; cases pr_inj q2
        obtain ⟨r1, r2⟩ := hxi.pairwise (delayN_pairwise hab _)
        rcases r1 with r1 | ⟨rfl, r1⟩
        · exact sw r1 (hlt hix.mem.1) hix fun q => by rw [hdu] at q; cases q; exact r2 ⟨rfl, rfl⟩
        · have hxb : x ≠ b := fun q => by subst q; exact hba.asymm hnd hix
          rcases Nat.lt_trichotomy i x with q | q | q
          · exact SW.symm (swap_fits hn (h.dual i b hdu x _ _ (pr_get (hlt hix.mem.2)) (pr_get (hlt hix.mem.1)) q (by omega)) : SW gp call lk base hs ops (pr ops i) (pr ops x))
          · subst q; exact (hix.asymm hnd hix).elim
          · exact sw q (hlt hix.mem.1) hix fun q => by rw [hdu] at q; cases q; exact r2 ⟨rfl, rfl⟩
    · exact plain fun a' b' q => by rw [hdu] at q; cases q; exact hba
end Go.Gh
namespace Go.Gh
open Go.RowKit
variable {gp : GP} {lk : Nat} {σ0 : Sim} {H0 : List GB} {w0 : World} {n : Nat}

theorem SR.drew {σ : Sim} {e : Env} {H : List GB} {a : Act} {w : World} (h : SR gp lk σ0 H0 w0 n σ e H a w) : SR gp lk σ0 H0 w0 n σ e H a { w with drawn := w.drawn + 1 } := by
  have st : Step lk σ H w σ H { w with drawn := w.drawn + 1 } := ⟨.refl σ H, rfl, rfl, rfl, Nat.le_refl _, fun _ _ _ => rfl, fun id b h o => .inl ⟨b, h, o, rfl⟩, fun _ _ => ⟨rfl, rfl, rfl⟩, fun _ h => absurd rfl h, Nat.le_refl _⟩
  have wr : WR σ H { w with drawn := w.drawn + 1 } := h.wr.carry rfl rfl (fun _ _ q => q) (fun a v hv => h.wr.imm a v hv) (fun id b hb ho => ⟨rfl, fun _ _ => rfl⟩)
  exact ⟨h.size, h.defers, wr, h.step.trans st, h.lk, h.env, fun t ty q => by
    obtain ⟨b, q1, q2⟩ := h.new t ty q
    exact ⟨b, q1, q2.step st⟩, h.dist⟩

theorem region_draw {P : Program} (hm : P.follows .mixedOrders = true) (hty : TyT P gp) {call : Call} (hcs : CS P call) (hno : NoMiracle call) {f id : Nat} {ops : Array Oper} (hn : dstOk n ops = true) {M : Array Nat}
    (hok : drawOk gp (gp.hint f id).ops (gp.hint f id).dual ops M = true) (hdu : ∀ a b, (gp.hint f id).dual = some (a, b) → a < b) : RegOK P gp call f n id ops true := by
  intro lk σ0 H0 w0 σ e H a w K Q h hg hQ
  unfold gregion at hg
  obtain ⟨σ1, e1, H1, h1, hg⟩ := SR.frz hty (gp.hint f id).pre (h.keep (gp.hint f id).keep) hg
  have hg2 : gops gp call lk H1.length (gp.hint f id).ops ops (number 0 ops.toList) { env := e1, heap := H1 ++ List.replicate (gp.hint f id).resv .resv }
      (fun s' => Gh.frz gp lk (gp.hint f id).frz s' K) = true ∧ ∀ a b, (gp.hint f id).dual = some (a, b) → gops gp call lk H1.length (gp.hint f id).ops ops (delay a b (number 0 ops.toList)) { env := e1, heap := H1 ++ List.replicate (gp.hint f id).resv .resv }
      (fun s' => Gh.frz gp lk (gp.hint f id).frz s' K) = true := by
    split at hg
    · rename_i hnone
      exact ⟨hg, fun a b q => by rw [hnone] at q; cases q⟩
    · rename_i a b hsome
      simp only [Bool.cond_eq_ite] at hg
      split at hg
      · rename_i h1'
        exact ⟨h1', fun a' b' q => by rw [hsome] at q; cases q; exact hg⟩
      · cases hg
  obtain ⟨hg1, hg2⟩ := hg2
  have hsp := drawOk.spec hok
  refine wp_region_draw fun t => ?_
  simp only [Region.schedule, hm, Bool.true_or, if_true]
  have hl := lin_of hsp.back t
  have hrun := draw_lin hno hsp hdu hl hg1 hg2
  have hmap : Region.linearise .any ops t = ((Region.linearise .any ops t).map (pr ops)).map (·.1) := by
    rw [List.map_map]
    exact (List.map_id _).symm
  rw [hmap]
  refine gops_sound hty hcs h1.lk hn (Q := Q) ?_ _ (fun p hp => ?_) ((h1.resv _).drew) hrun
  · rintro a' w' ⟨σ', e', H', h', hk⟩
    obtain ⟨σ2, e2, H2, h2, hk⟩ := SR.frz hty (gp.hint f id).frz h' hk
    exact hQ _ _ ⟨σ2, e2, H2, h2, hk⟩
  · obtain ⟨i, hi, rfl⟩ := List.mem_map.1 hp
    exact pr_get (List.mem_range.1 (hl.perm.mem_iff.1 hi))

def codeOk (gp : GP) (f n : Nat) : Code → Bool
  | .region id ops draw => dstOk n ops && (bif draw then
      drawOk gp (gp.hint f id).ops (gp.hint f id).dual ops (Region.before ops) && (match (gp.hint f id).dual with | some (a, b) => a.blt b | none => true)
      else true)
  | .seq a b => codeOk gp f n a && codeOk gp f n b
  | .cond _ a b => codeOk gp f n a && codeOk gp f n b
  | .block _ c => codeOk gp f n c
  | .loop c => codeOk gp f n c
  | _ => true

theorem dstOk.mono {ops : Array Oper} {m : Nat} (h : dstOk n ops = true) (hm : n ≤ m) : dstOk m ops = true := by
  unfold dstOk at *
  refine Array.all_eq_true_iff_forall_mem.2 fun o ho => ?_
  have := Array.all_eq_true_iff_forall_mem.1 h o ho
  split <;> rename_i hd
  · rw [hd] at this
    simp only [Nat.blt_eq] at *
    omega
  · rfl

theorem codeOk.sound {P : Program} (hm : P.follows .mixedOrders = true) (hty : TyT P gp) {call : Call} (hcs : CS P call) (hno : NoMiracle call) {f m : Nat} (hnm : n ≤ m) : ∀ (c : Code), codeOk gp f n c = true → CodeOK P gp call f m c
  | .skip, _ => trivial
  | .region id ops draw, h => by
    simp only [codeOk, Bool.and_eq_true] at h
    cases draw with
    | false => exact region_still hty hcs (dstOk.mono h.1 hnm)
    | true =>
      simp only [cond_true, Bool.and_eq_true] at h
      refine region_draw hm hty hcs hno (dstOk.mono h.1 hnm) h.2.1 fun a b q => ?_
      have := h.2.2
      rw [q] at this
      simpa [Nat.blt_eq] using this
  | .seq a b, h => by
    simp only [codeOk, Bool.and_eq_true] at h
    exact ⟨codeOk.sound hm hty hcs hno hnm a h.1, codeOk.sound hm hty hcs hno hnm b h.2⟩
  | .cond _ a b, h => by
    simp only [codeOk, Bool.and_eq_true] at h
    exact ⟨codeOk.sound hm hty hcs hno hnm a h.1, codeOk.sound hm hty hcs hno hnm b h.2⟩
  | .block _ c, h => codeOk.sound hm hty hcs hno hnm c h
  | .loop c, h => codeOk.sound hm hty hcs hno hnm c h
  | .exit _, _ => trivial
  | .ret, _ => trivial
  | .rangeFunc .., _ => trivial
  | .scope _, _ => trivial
  | .label _, _ => trivial
  | .goto _, _ => trivial
  | .refuse _, _ => trivial

/-- What a seat's table owes. -/
structure Table (P : Program) (gp : GP) : Prop where
  mixed : P.follows .mixedOrders = true
  ty : TyT P gp
  fn : ∀ f fn, gp.fn f = some fn → P.funcs[f]? = some fn ∧ (fn.name == "runtime.NumGoroutine") = false ∧ ∀ c, fn.body = some c → codeOk gp f fn.ntmps c = true
  ovr : ∀ f F, gp.ovr f = some F → (∀ lk, CSf P lk f F) ∧ ∀ args h, F args h (fun _ _ => false) = false

/-- ████ WHAT THE GHOST MACHINE SAYS OF A CALL, THE CALL DOES. -/
theorem Table.sound {P : Program} (h : Table P gp) (m : Nat) : CS P (gcall gp m) := by
  refine gcall_sound ⟨h.ty, fun f fn hf => ⟨(h.fn f fn hf).1, (h.fn f fn hf).2.1⟩, fun f F hF => (h.ovr f F hF).1⟩ (fun m hcs f fn c k hf hb hk => ?_) m
  exact codeOk.sound h.mixed h.ty hcs (gcall_no (fun f F hF => (h.ovr f F hF).2) m) hk c ((h.fn f fn hf).2.2 c hb)
end Go.Gh
namespace Go.Gh
open Go.RowKit

theorem tyOK_of {P : Program} {t : Nat} {ti : TI} (i : TypeInfo) (z : Value) (d : TypeDesc) (h1 : P.info? t = some i) (h2 : i.size = ti.size) (h3 : i.bytes = ti.bytes) (h4 : i.zero = some z) (h5 : z.cells.toList = ti.zero)
    (h6 : (ti.zero.length.beq ti.size && ti.zero.all Value.flatB && (ti.agg || ti.size.beq 1) && (ti.agg || Value.flatB z)) = true) (h8 : P.underlying t = some d) (h9 : KOK d ti.kind) (h10 : isAggD d = ti.agg)
    (h12 : (!ti.eq || (!P.stoodInHeld t && !P.eqGuardType P.depth t && (match d with | .struct F => F.toList.all (fun f => f.name != "_") | _ => true))) = true)
    (h13 : (match d with | .struct F => (F.toList.mapM (fun f => (P.info? f.type).map fun i => (f.offset, i.size))).isSome | _ => true) = true) : TyOK P t ti := by
  simp only [Bool.and_eq_true, Nat.beq_eq, Bool.or_eq_true] at h6
  obtain ⟨⟨⟨q1, q2⟩, q3⟩, q4⟩ := h6
  refine ⟨⟨i, z, h1, h2, h3, h4, h5⟩, q1, fun v hv => List.all_eq_true.1 q2 v hv, ⟨d, h8, h9, h10⟩, fun ha => q3.resolve_left (by simp [ha]), fun ha z' hz => ?_, fun he => ?_, fun F hF => ?_⟩
  · have hf := q4.resolve_left (by simp [ha])
    rw [flatB_cells hf, hz] at h5
    simp only [List.cons.injEq, and_true] at h5
    rw [h1, ← h5]; exact h4
  · rw [he] at h12
    simp only [Bool.not_true, Bool.false_or, Bool.and_eq_true, Bool.not_eq_true'] at h12
    refine ⟨h12.1.1, h12.1.2, fun F hF f hf => ?_⟩
    rw [h8] at hF
    cases hF
    have := List.all_eq_true.1 h12.2 f hf
    simpa using this
  · rw [h8] at hF
    cases hF
    simp only at h13
    exact Option.isSome_iff_exists.1 h13

/-- Is a function's code such as a table owes? -/
def fnB (gp : GP) (fn : Nat → Option Func) (f : Nat) : Bool :=
  match fn f with
  | none => true
  | some fn => !(fn.name == "runtime.NumGoroutine") && match fn.body with | some c => codeOk gp f fn.ntmps c | none => true

theorem fnB.spec {gp : GP} {fn : Nat → Option Func} {f : Nat} {F : Func} (h : fnB gp fn f = true) (hf : fn f = some F) : (F.name == "runtime.NumGoroutine") = false ∧ ∀ c, F.body = some c → codeOk gp f F.ntmps c = true := by
  unfold fnB at h
  rw [hf] at h
  simp only [Bool.and_eq_true, Bool.not_eq_true'] at h
  refine ⟨h.1, fun c hc => ?_⟩
  have := h.2
  rw [hc] at this
  exact this
end Go.Gh
namespace Go.Gh

def gV (o : Option GV) (k : GV → Bool) : Bool := match o with | some v => k (noNew v) | none => false
def wG (want : Bool) (v : GV) : Option Bool := match v with
  | .tup [] => some false
  | v => match asB v with
    | some b => some (b == want)
    | none => none
def gGV (w : Option Bool) (o : Option GV) (k : GV → Bool) : Bool := match w with | some b => bif b then gV o k else k (.tup []) | none => false
def gH (c : CK → Bool) (k : CK) : Bool := c fun v h => k (noNew v) h
def gGH (w : Option Bool) (c : CK → Bool) (h : List GB) (k : CK) : Bool := match w with | some b => bif b then gH c k else k (.tup []) h | none => false
def gI (five : Bool) (sz : Nat) (v : GV) (h : List GB) (k : GV → List GB → Bool) : Bool :=
  bif v.cells.length.beq sz && v.cells.all cellOk then
    match (bif five then toD v else none) with
    | some y => k (.d (.vptr [y] 0 0)) h
    | none => k (.ptr h.length 0) (h ++ [.cells v.cells])
  else false
def gF (o : Option (GV × List GB)) (k : GV → List GB → Bool) : Bool := match o with | some (v, h) => k v h | none => false
def gB (o : Option Bool) (k : Bool → Bool) : Bool := match o with | some t => k t | none => false
def gIf (o : Option Bool) (f : (St → Bool) → Bool → Bool) (k : St → Bool) : Bool := match o with | some t => f k t | none => false
def gJ (c : (St → Bool) → Bool) (k : St → Bool) : Bool := c k
def gAnd (k : Bool → Bool) : Bool := bif k true then k false else false
def gR (o : Option GV) (k : GV → Bool) : Bool := match o with | some v => k v | none => false
def gloop (body : St → (St → Bool) → (GX → St → Bool) → Bool) : Nat → St → (GX → St → Bool) → Bool
  | 0, _, _ => false
  | m + 1, s, K => body s (fun s' => gloop body m s' K) K
/-- The steps, as unknowns: so that nothing looks behind their names. -/
structure Comb where
  v1 : Option GV → (GV → Bool) → Bool
  g1 : Option Bool → Option GV → (GV → Bool) → Bool
  h1 : (CK → Bool) → CK → Bool
  gh : Option Bool → (CK → Bool) → List GB → CK → Bool
  i1 : Bool → Nat → GV → List GB → (GV → List GB → Bool) → Bool
  f1 : Option (GV × List GB) → (GV → List GB → Bool) → Bool
  b1 : Option Bool → (Bool → Bool) → Bool
  c1 : Option Bool → ((St → Bool) → Bool → Bool) → (St → Bool) → Bool
  j1 : ((St → Bool) → Bool) → (St → Bool) → Bool
  a1 : (Bool → Bool) → Bool
  r1 : Option GV → (GV → Bool) → Bool
  loop : (St → (St → Bool) → (GX → St → Bool) → Bool) → Nat → St → (GX → St → Bool) → Bool
/-- The steps, and what a function's run is made in. -/
structure Ctx extends Comb where
  call : Call
  n : Nat
  lk : Nat
def std : Comb := { v1 := gV, g1 := gGV, h1 := gH, gh := gGH, i1 := gI, f1 := gF, b1 := gB, c1 := gIf, j1 := gJ, a1 := gAnd, r1 := gR, loop := gloop }
def sX (call : Call) (n lk : Nat) : Ctx := { toComb := std, call, n, lk }

/-- The guard of an operation: 'none': it stands under none. -/
def grd (ops : Array Oper) (o : Oper) (e : Env) : Option (Option (Bool × GV)) :=
  match o.guard with
  | none => some none
  | some (j, want) => match ops[j]? with
    | some { dst := some t, .. } => some (some (want, e t))
    | _ => none
def mvOf : Op → Option Operand
  | .move x | .assign x => some x
  | _ => none
def isLoad : Op → Bool
  | .load .. => true
  | _ => false
def gop2 (C : Comb) (gp : GP) (call : Call) (lk base : Nat) (hs : List (Nat × Nat)) (ops : Array Oper) (i : Nat) (o : Oper) (s : St) (K : St → Bool) : Bool :=
  bif (hintOf hs i).beq 4 then gop gp call lk base hs ops i o s K
  else bif (hintOf hs i).beq 5 || (hintOf hs i).beq 6 then
    match o.guard with
    | none => match o.op with
      | .store t (.tmp u) x => match s.env u with
        | .new t' => match gp.ty t with
          | some ti => bif t'.beq t then C.i1 ((hintOf hs i).beq 5) ti.size (opd s.env x) s.heap fun X h' => K { env := put (put s.env (some u) X) o.dst .und, heap := h' } else false
          | none => false
        | _ => false
      | _ => false
    | some _ => gop gp call lk base hs ops i o s K
  else match grd ops o s.env with
    | none => false
    | some none =>
      bif isV gp (hintOf hs i) o then match mvOf o.op with
        | some x => K { env := put s.env o.dst (noNew (opd s.env x)), heap := s.heap }
        | none => C.v1 (gval gp o (opd s.env)) fun v => K { env := put s.env o.dst v, heap := s.heap }
      else match o.op with
        | .load t a => C.v1 (gload gp t (opd s.env a) s.heap) fun v => K { env := put s.env o.dst v, heap := s.heap }
        | _ => C.h1 (gheap gp call lk base (hintOf hs i) o (opd s.env) s.heap) fun v h => K { env := put s.env o.dst v, heap := h }
    | some (some (want, vg)) =>
      bif isV gp (hintOf hs i) o then C.g1 (wG want vg) (gval gp o (opd s.env)) fun v => K { env := put s.env o.dst v, heap := s.heap }
      else match o.op with
        | .load t a => C.g1 (wG want vg) (gload gp t (opd s.env a) s.heap) fun v => K { env := put s.env o.dst v, heap := s.heap }
        | _ => C.gh (wG want vg) (gheap gp call lk base (hintOf hs i) o (opd s.env) s.heap) s.heap fun v h => K { env := put s.env o.dst v, heap := h }

theorem wantedG_grd (ops : Array Oper) (o : Oper) (e : Env) : wantedG ops o e = match grd ops o e with | none => none | some none => some true | some (some (want, vg)) => wG want vg := by
  unfold wantedG grd
  cases o.guard with
  | none => rfl
  | some gw =>
    obtain ⟨j, want⟩ := gw
    simp only
    cases ops[j]? with
    | none => rfl
    | some p =>
      obtain ⟨dst, op, type, pos, after, guard⟩ := p
      cases dst with
      | none => rfl
      | some t => rfl

theorem gop2_eq (gp : GP) (call : Call) (lk base : Nat) (hs : List (Nat × Nat)) (ops : Array Oper) (i : Nat) (o : Oper) (s : St) (K : St → Bool) : gop2 std gp call lk base hs ops i o s K = gop gp call lk base hs ops i o s K := by
  unfold gop2
  simp only [std]
  cases h4 : (hintOf hs i).beq 4 with
  | true => rfl
  | false =>
    simp only [cond_false]
    cases h5 : ((hintOf hs i).beq 5 || (hintOf hs i).beq 6) with
    | true =>
      simp only [cond_true]
      cases hg : o.guard with
      | some gw => rfl
      | none =>
        simp only
        unfold gop wantedG
        rw [hg, h4, h5]
        simp only [cond_true, cond_false]
        obtain ⟨dst, op, type, pos, after, guard⟩ := o
        cases op <;> try rfl
        rename_i t ad x
        cases ad <;> try rfl
        rename_i u
        simp only
        cases s.env u <;> try rfl
        rename_i t'
        simp only
        cases gp.ty t with
        | none => rfl
        | some ti =>
          simp only [gI]
          cases t'.beq t with
          | false => simp only [Bool.false_and, cond_false]
          | true =>
            simp only [Bool.true_and, cond_true]
            cases ((opd s.env x).cells.length.beq ti.size && (opd s.env x).cells.all cellOk) with
            | false => rfl
            | true =>
              simp only [cond_true]
              cases (bif (hintOf hs i).beq 5 then toD (opd s.env x) else none) <;> rfl
    | false =>
      simp only [cond_false]
      unfold gop
      rw [wantedG_grd, h4, h5]
      cases hg : grd ops o s.env with
      | none => rfl
      | some q =>
        cases q with
        | none =>
          simp only [cond_true, cond_false]
          unfold gcore
          cases hv : isV gp (hintOf hs i) o with
          | true =>
            simp only [cond_true]
            cases hm : mvOf o.op with
            | none => simp only; unfold gV; cases gval gp o (opd s.env) <;> rfl
            | some x =>
              obtain ⟨dst, op, type, pos, after, guard⟩ := o
              cases op <;> simp only [mvOf, Option.some.injEq, reduceCtorEq] at hm
              all_goals (subst hm; rfl)
          | false =>
            simp only [cond_false]
            obtain ⟨dst, op, type, pos, after, guard⟩ := o
            cases op <;> rfl
        | some q =>
          obtain ⟨want, vg⟩ := q
          simp only [cond_false]
          unfold gcore
          cases hv : isV gp (hintOf hs i) o with
          | true =>
            simp only [cond_true]; unfold gGV gV
            cases wG want vg with
            | none => rfl
            | some b => cases b <;> cases gval gp o (opd s.env) <;> rfl
          | false =>
            simp only [cond_false]
            obtain ⟨dst, op, type, pos, after, guard⟩ := o
            have key : ∀ (c : CK → Bool), gGH (wG want vg) c s.heap (fun v h => K { env := put s.env dst v, heap := h }) = match wG want vg with
              | some b => bif b then c fun v h => K { env := put s.env dst (noNew v), heap := h } else K { s with env := put s.env dst (.tup []) }
              | none => false := fun c => by cases wG want vg with | none => rfl | some b => cases b <;> rfl
            cases op <;> try exact key _
            rename_i t a
            simp only [gGV, gV, gheap]
            cases wG want vg with
            | none => rfl
            | some b => cases b <;> cases gload gp t (opd s.env a) s.heap <;> rfl

def gops2 (C : Comb) (gp : GP) (call : Call) (lk base : Nat) (hs : List (Nat × Nat)) (ops : Array Oper) : List (Nat × Oper) → St → (St → Bool) → Bool
  | [], s, K => K s
  | (i, o) :: rest, s, K => gop2 C gp call lk base hs ops i o s fun s' => gops2 C gp call lk base hs ops rest s' K
theorem gops2_eq (gp : GP) (call : Call) (lk base : Nat) (hs : List (Nat × Nat)) (ops : Array Oper) (K : St → Bool) : ∀ l s, gops2 std gp call lk base hs ops l s K = gops gp call lk base hs ops l s K
  | [], s => rfl
  | (i, o) :: r, s => by simp only [gops2, gops, gop2_eq, gops2_eq gp call lk base hs ops K r]

def frz2 (C : Comb) (gp : GP) (lk : Nat) : List (Nat × Nat) → St → (St → Bool) → Bool
  | [], s, K => K s
  | (t, e) :: r, s, K => C.f1 (frzV gp lk s.heap e (s.env t)) fun v h => frz2 C gp lk r { env := put s.env (some t) v, heap := h } K
theorem frz2_eq (gp : GP) (lk : Nat) (K : St → Bool) : ∀ l s, frz2 std gp lk l s K = frz gp lk l s K
  | [], s => rfl
  | (t, e) :: r, s => by
    simp only [frz2, frz, gF, frz2_eq gp lk K r]
    cases frzV gp lk s.heap e (s.env t) with
    | none => rfl
    | some q => rfl

def addR (r : Nat) (h : List GB) : List GB := match r with
  | 0 => h
  | r + 1 => h ++ List.replicate (r + 1) .resv
theorem addR_eq (r : Nat) (h : List GB) : addR r h = h ++ List.replicate r .resv := by
  cases r with
  | zero => simp [addR]
  | succ r => rfl
def gregion2 (C : Comb) (gp : GP) (call : Call) (lk f id : Nat) (ops : Array Oper) (s : St) (K : St → Bool) : Bool :=
  frz2 C gp lk (gp.hint f id).pre { s with env := keepE (gp.hint f id).keep s.env } fun s1 =>
    match (gp.hint f id).dual with
      | none => gops2 C gp call lk s1.heap.length (gp.hint f id).ops ops (number 0 ops.toList) { s1 with heap := addR (gp.hint f id).resv s1.heap }
          fun s' => frz2 C gp lk (gp.hint f id).frz s' K
      | some (i, j) => C.a1 fun t => bif t then gops2 C gp call lk s1.heap.length (gp.hint f id).ops ops (number 0 ops.toList) { s1 with heap := addR (gp.hint f id).resv s1.heap }
          (fun s' => frz2 C gp lk (gp.hint f id).frz s' K)
          else gops2 C gp call lk s1.heap.length (gp.hint f id).ops ops (delay i j (number 0 ops.toList)) { s1 with heap := addR (gp.hint f id).resv s1.heap }
          (fun s' => frz2 C gp lk (gp.hint f id).frz s' K)
theorem gregion2_eq (gp : GP) (call : Call) (lk f id : Nat) (ops : Array Oper) (s : St) (K : St → Bool) : gregion2 std gp call lk f id ops s K = gregion gp call lk f id ops s K := by
  unfold gregion2 gregion
  simp only [frz2_eq, gops2_eq, addR_eq]
  rfl

def kSeq (again : St → Bool) (K : GX → St → Bool) : GX → St → Bool := fun x s => match x with | .normal => again s | e => K e s
def kBlk (id : Nat) (K : GX → St → Bool) : GX → St → Bool := fun x s => match x with
  | .exit i => bif i.beq id then K .normal s else K (.exit i) s
  | e => K e s
def trimE (l : Option (List Nat)) (s : St) : St := { env := keepE l s.env, heap := s.heap }
/-- What the code keeps as it begins. -/
def entry (gp : GP) (f : Nat) : Code → Option (List Nat)
  | .region id _ _ => (gp.hint f id).keep
  | .seq a _ => entry gp f a
  | .block _ c => entry gp f c
  | .loop c => entry gp f c
  | _ => none
mutual
/-- How often the continuation would be written down: behind the code's end .. -/
def nrm : Code → Nat
  | .ret | .exit _ => 0
  | .seq a b => bif (nrm a).beq 0 then 0 else nrm b
  | .cond _ a b => nrm a + nrm b
  | .block id c => min 1 (nrm c + ext id c)
  | .loop _ => 0
  | _ => 1
/-- .. and behind a way out of it. -/
def ext (id : Nat) : Code → Nat
  | .exit i => bif i.beq id then 1 else 0
  | .seq a b => ext id a + ext id b
  | .cond _ a b => ext id a + ext id b
  | .block _ c => ext id c
  | .loop c => min 1 (ext id c)
  | _ => 0
end

def gx2 (C : Comb) (gp : GP) (call : Call) (lk f L : Nat) : Code → St → (GX → St → Bool) → Bool
  | .skip, s, K => K .normal s
  | .region id ops _, s, K => gregion2 C gp call lk f id ops s (K .normal)
  | .seq (.cond c x y) b, s, K =>
    bif Nat.ble 2 (nrm x + nrm y) then
      C.c1 (asB (opd s.env c)) (fun k t => bif t then gx2 C gp call lk f L x s (kSeq k K) else gx2 C gp call lk f L y s (kSeq k K)) (fun s' => gx2 C gp call lk f L b (trimE (entry gp f b) s') K)
    else C.b1 (asB (opd s.env c)) fun t => bif t then gx2 C gp call lk f L x s (kSeq (fun s' => gx2 C gp call lk f L b s' K) K) else gx2 C gp call lk f L y s (kSeq (fun s' => gx2 C gp call lk f L b s' K) K)
  | .seq (.block id c) b, s, K =>
    bif Nat.ble 2 (nrm c + ext id c) then
      C.j1 (fun k => gx2 C gp call lk f L c s (kBlk id (kSeq k K))) (fun s' => gx2 C gp call lk f L b (trimE (entry gp f b) s') K)
    else gx2 C gp call lk f L c s (kBlk id (kSeq (fun s' => gx2 C gp call lk f L b s' K) K))
  | .seq a b, s, K => gx2 C gp call lk f L a s (kSeq (fun s' => gx2 C gp call lk f L b s' K) K)
  | .cond c a b, s, K => C.b1 (asB (opd s.env c)) fun t => bif t then gx2 C gp call lk f L a s K else gx2 C gp call lk f L b s K
  | .block id c, s, K => gx2 C gp call lk f L c s (kBlk id K)
  | .loop c, s, K => C.loop (fun s again K => gx2 C gp call lk f L c s (kSeq (fun s' => again (trimE (entry gp f c) s')) K)) L (trimE (entry gp f c) s) K
  | .exit id, s, K => K (.exit id) s
  | .ret, s, K => K .ret s
  | _, _, _ => false

theorem noNew_idem (x : GV) : noNew (noNew x) = noNew x := by cases x <;> rfl
theorem ofL_mem {g : Nat → GV} {t : Nat} : ∀ {l : List Nat}, t ∈ l → ofL (l.map fun t => (t, g t)) t = g t
  | u :: r, h => by
    simp only [List.map_cons, ofL, Bool.cond_eq_ite, Nat.beq_eq]
    split
    · rename_i q; rw [q]
    · rename_i q
      exact ofL_mem ((List.mem_cons.1 h).resolve_left q)
theorem keepE_idem (k : Option (List Nat)) (e : Env) : keepE k (keepE k e) = keepE k e := by
  cases k with
  | none => rfl
  | some l =>
    show ofL (l.map fun t => (t, noNew (ofL (l.map fun t => (t, noNew (e t))) t))) = ofL (l.map fun t => (t, noNew (e t)))
    congr 1
    refine List.map_congr_left fun t ht => ?_
    rw [ofL_mem (g := fun t => noNew (e t)) ht, noNew_idem]

theorem gx_trim {gp : GP} {call : Call} {lk f L : Nat} : ∀ (c : Code) (s : St) (K : GX → St → Bool), gx gp call lk f L c (trimE (entry gp f c) s) K = gx gp call lk f L c s K
  | .region id ops d, s, K => by simp only [gx, gregion, trimE, entry, keepE_idem]
  | .seq a b, s, K => by
    have := gx_trim (gp := gp) (call := call) (lk := lk) (f := f) (L := L) a s
    simp only [gx, entry]
    exact this _
  | .block id c, s, K => by
    have := gx_trim (gp := gp) (call := call) (lk := lk) (f := f) (L := L) c s
    simp only [gx, entry]
    exact this _
  | .loop c, s, K => by
    have := gx_trim (gp := gp) (call := call) (lk := lk) (f := f) (L := L) c s
    simp only [gx, entry]
    cases L with
    | zero => rfl
    | succ m => simp only [giter]; exact this _
  | .skip, _, _ => rfl
  | .cond .., _, _ => rfl
  | .exit _, _, _ => rfl
  | .ret, _, _ => rfl
  | .rangeFunc .., _, _ => rfl
  | .scope _, _, _ => rfl
  | .label _, _, _ => rfl
  | .goto _, _, _ => rfl
  | .refuse _, _, _ => rfl

theorem gx_seq (gp : GP) (call : Call) (lk f L : Nat) (a b : Code) (s : St) (K : GX → St → Bool) : gx gp call lk f L (.seq a b) s K = gx gp call lk f L a s (kSeq (fun s' => gx gp call lk f L b s' K) K) := by
  simp only [gx]
  rfl
theorem gx_blk (gp : GP) (call : Call) (lk f L : Nat) (id : Nat) (c : Code) (s : St) (K : GX → St → Bool) : gx gp call lk f L (.block id c) s K = gx gp call lk f L c s (kBlk id K) := by
  simp only [gx]
  rfl
theorem gx_cond (gp : GP) (call : Call) (lk f L : Nat) (c : Operand) (a b : Code) (s : St) (K : GX → St → Bool) : gx gp call lk f L (.cond c a b) s K = gB (asB (opd s.env c)) fun t => bif t then gx gp call lk f L a s K else gx gp call lk f L b s K := by
  simp only [gx, gB]
  cases asB (opd s.env c) <;> rfl

theorem gloop_eq {gp : GP} {call : Call} {lk f L : Nat} {c : Code} (ih : ∀ s K, gx2 std gp call lk f L c s K = gx gp call lk f L c s K) (K : GX → St → Bool) : ∀ (m : Nat) (s : St), gloop (fun s again K => gx2 std gp call lk f L c s (kSeq (fun s' => again (trimE (entry gp f c) s')) K)) m (trimE (entry gp f c) s) K = giter (gx gp call lk f L c) m s K
  | 0, s => rfl
  | m + 1, s => by
    simp only [gloop, giter]
    rw [ih, gx_trim]
    congr 1
    funext x s'
    cases x with
    | normal => exact gloop_eq ih K m s'
    | exit i => rfl
    | ret => rfl

theorem gx2_eq {gp : GP} {call : Call} {lk f L : Nat} : ∀ (c : Code) (s : St) (K : GX → St → Bool), gx2 std gp call lk f L c s K = gx gp call lk f L c s K
  | .skip, _, _ => rfl
  | .region id ops d, s, K => gregion2_eq ..
  | .seq (.cond c x y) b, s, K => by
    have hx := gx2_eq (gp := gp) (call := call) (lk := lk) (f := f) (L := L) x
    have hy := gx2_eq (gp := gp) (call := call) (lk := lk) (f := f) (L := L) y
    have hb := gx2_eq (gp := gp) (call := call) (lk := lk) (f := f) (L := L) b
    rw [gx_seq, gx_cond]
    simp only [gx2, hx, hy, hb, gx_trim]
    cases Nat.ble 2 (nrm x + nrm y) <;> rfl
  | .seq (.block id c) b, s, K => by
    have hc := gx2_eq (gp := gp) (call := call) (lk := lk) (f := f) (L := L) c
    have hb := gx2_eq (gp := gp) (call := call) (lk := lk) (f := f) (L := L) b
    rw [gx_seq, gx_blk]
    simp only [gx2, hc, hb, gx_trim]
    cases Nat.ble 2 (nrm c + ext id c) <;> rfl
  | .seq .skip b, s, K => by rw [gx_seq]; simp only [gx2, gx2_eq b]; rfl
  | .seq (.region id ops d) b, s, K => by rw [gx_seq]; simp only [gx2, gx2_eq b, gregion2_eq]; rfl
  | .seq (.seq a a') b, s, K => by
    have ha := gx2_eq (gp := gp) (call := call) (lk := lk) (f := f) (L := L) (.seq a a')
    rw [gx_seq]; rw [gx2]; simp only [gx2_eq b, ha]
    all_goals (intros; simp_all)
  | .seq (.loop c) b, s, K => by
    have hc := gx2_eq (gp := gp) (call := call) (lk := lk) (f := f) (L := L) c
    rw [gx_seq]; simp only [gx2, gx2_eq b]
    show gloop _ _ _ _ = _
    rw [gloop_eq hc]; rfl
  | .seq (.exit _) b, s, K => by rw [gx_seq]; simp only [gx2, gx2_eq b]; rfl
  | .seq .ret b, s, K => by rw [gx_seq]; simp only [gx2, gx2_eq b]; rfl
  | .seq (.rangeFunc ..) b, s, K => by rw [gx_seq]; simp only [gx2, gx2_eq b]; rfl
  | .seq (.scope _) b, s, K => by rw [gx_seq]; simp only [gx2, gx2_eq b]; rfl
  | .seq (.label _) b, s, K => by rw [gx_seq]; simp only [gx2, gx2_eq b]; rfl
  | .seq (.goto _) b, s, K => by rw [gx_seq]; simp only [gx2, gx2_eq b]; rfl
  | .seq (.refuse _) b, s, K => by rw [gx_seq]; simp only [gx2, gx2_eq b]; rfl
  | .cond c a b, s, K => by rw [gx_cond]; simp only [gx2, gx2_eq a, gx2_eq b]; rfl
  | .block id c, s, K => by rw [gx_blk]; simp only [gx2, gx2_eq c]
  | .loop c, s, K => by
    have hc := gx2_eq (gp := gp) (call := call) (lk := lk) (f := f) (L := L) c
    simp only [gx2]
    show gloop _ _ _ _ = _
    rw [gloop_eq hc]; rfl
  | .exit _, _, _ => rfl
  | .ret, _, _ => rfl
  | .rangeFunc .., _, _ => rfl
  | .scope _, _, _ => rfl
  | .label _, _, _ => rfl
  | .goto _, _, _ => rfl
  | .refuse _, _, _ => rfl

def gcell (gp : GP) (t : Nat) (x : GV) (h : List GB) : Option GV :=
  match gp.ty t, x with
    | some ti, .ptr id off => match h[id]? with
      | some (.cells cs) => partG ti cs off
      | _ => none
    | _, _ => none
def resK (C : Comb) (gp : GP) (s : St) : List ResultVar → (List GV → Bool) → Bool
  | [], k => k []
  | .tmp t :: r, k => resK C gp s r fun l => k (s.env t :: l)
  | .cell a t :: r, k => C.r1 (gcell gp t (s.env a) s.heap) fun v => resK C gp s r fun l => k (v :: l)
theorem resK_eq (gp : GP) (s : St) : ∀ (l : List ResultVar) (k : List GV → Bool), resK std gp s l k = match resG gp s l with | some l => k l | none => false
  | [], k => rfl
  | .tmp t :: r, k => by simp only [resK, resG, resK_eq gp s r]; cases resG gp s r <;> rfl
  | .cell a t :: r, k => by
    simp only [resK, resG, resK_eq gp s r, gcell]
    show gR _ _ = _
    unfold gR
    cases gp.ty t with
    | none => rfl
    | some ti =>
      cases s.env a <;> try rfl
      rename_i id off
      simp only
      cases s.heap[id]? with
      | none => rfl
      | some b =>
        cases b <;> try rfl
        rename_i cs
        simp only
        cases partG ti cs off <;> cases resG gp s r <;> rfl
def kRet (C : Comb) (gp : GP) (res : List ResultVar) (K : CK) : GX → St → Bool := fun x s => match x with
  | .exit _ => false
  | _ => resK C gp s res fun l => K (resV l) s.heap

theorem gcall_two {gp : GP} {n lk f : Nat} {args : List GV} {h : List GB} {K : CK} {fn : Func} {c : Code} (ho : gp.ovr f = none) (hf : gp.fn f = some fn) (hb : fn.body = some c) :
    gcall gp (n + 1) lk f args h K = gx2 std gp (gcall gp n) lk f (n + 1) c { env := initE args, heap := h } (kRet std gp fn.results.toList K) := by
  simp only [gcall, ho, hf, hb, gx2_eq]
  congr 1
  funext x s
  cases x with
  | exit i => rfl
  | normal => simp only [kRet, resK_eq]; cases resG gp s fn.results.toList <;> rfl
  | ret => simp only [kRet, resK_eq]; cases resG gp s fn.results.toList <;> rfl
end Go.Gh
namespace Go.Gh

def gpick (c a b : GV) : Option GV := match asB c with | some t => some (bif t then a else b) | none => none
def gloadV (gp : GP) (t : Nat) (a : GV) : Option GV :=
  match gp.ty t with
    | some ti => match a with
      | .d (.vptr es i off) => match es[i]? with
        | some e => match partD ti e off with | some y => some (.d y) | none => none
        | none => none
      | _ => none
    | none => none
def gnil (x : GV) : Option GV :=
  match x with
    | .ptr id off => some (.ptr id off)
    | .d (.vptr es i off) => some (.d (.vptr es i off))
    | .d (.fn (.func f) a b) => some (.d (.fn (.func f) a b))
    | .fn (.func f) a b => some (.fn (.func f) a b)
    | _ => none
def gnot (x : GV) : Option GV := match asB x with | some b => some (gb (!b)) | none => none
def gneg (x : GV) : Option GV := match asN x with | some (kd, n) => some (.d (.lit (.int kd (kd.wrap (0 - n))))) | none => none
def gconv (gp : GP) (src dst : Nat) (x : GV) : Option GV :=
  match gp.ty src, gp.ty dst, asN x with
    | some _, some { kind := .int kd, .. }, some (_, n) => some (.d (.lit (.int kd (kd.wrap n))))
    | _, _, _ => none
def gfield (gp : GP) (t : Nat) (x : GV) (f : Nat) : Option GV :=
  match gp.ty t with
    | some { kind := .struct fs, .. } => match fs[f]? with
      | some (off, ft) => match gp.ty ft with
        | some ti => gpart ti x off
        | none => none
      | none => none
    | _ => none
def gindex (gp : GP) (t : Nat) (x ix : GV) : Option GV :=
  match gp.ty t, asN ix with
    | some { kind := .array n e, .. }, some (_, i) => match gp.ty e with
      | some ti =>
        if 0 ≤ i ∧ i < (n : Int) then gpart ti x (i.toNat * ti.size) else none
      | none => none
    | _, _ => none
def gbuild (gp : GP) (t : Nat) (ps : List (Nat × GV)) : Option GV :=
  match gp.ty t with
    | some ti => bif buildOk gp ti.kind then
      match gfill (placeOf gp ti.kind) (ti.zero.map fun v => .d (.lit v)) ps with
      | some cs => some (mkAgg cs)
      | none => none
      else none
    | none => none
def gbuildS (gp : GP) (t len : Nat) (ps : List (Nat × GV)) : Option GV :=
  match gp.ty t with
    | some { kind := .slice e, .. } => match gp.ty e with
      | some ti =>
        match inOrder ti.size 0 ps with
        | some es => bif es.length.beq len && (len * ti.size).ble 16777216 then some (.xl es) else none
        | none => none
      | none => none
    | _ => none
def gext (x : GV) (i : Nat) : Option GV := match x with
    | .tup vs => vs[i]?
    | _ => none
def glen (gp : GP) (t : Nat) (x : GV) : Option GV :=
  match gp.ty t with
          | some { kind := .slice _, .. } => match lenG x with | some n => some (gi n) | none => none
          | some { kind := .array n _, .. } => some (gi n)
          | _ => none
def gmax (x : GV) (r : List GV) : Option GV := match asN x with
        | some (kd, a) => match foldI (fun a b => if b > a then b else a) kd a r with | some m => some (.d (.lit (.int kd m))) | none => none
        | none => none
def gmin (x : GV) (r : List GV) : Option GV := match asN x with
        | some (kd, a) => match foldI (fun a b => if b < a then b else a) kd a r with | some m => some (.d (.lit (.int kd m))) | none => none
        | none => none

def gbox (one : Bool) (v : GV) (h : List GB) (k : CK) : Bool :=
    bif v.cells.all cellOk then
      bif one then
        match toD v with
        | some y => k (.d (.vptr [y] 0 0)) h
        | none => k (.ptr h.length 0) (h ++ [.cells v.cells])
      else k (.ptr h.length 0) (h ++ [.cells v.cells])
    else false
def gstore (gp : GP) (lk t : Nat) (a x : GV) (h : List GB) (k : CK) : Bool :=
  match gp.ty t with
    | some ti => match a with
      | .ptr id off => match h[id]? with
        | some (.cells cs) =>
          bif lk.ble id && x.cells.length.beq ti.size && (off + ti.size).ble cs.length && x.cells.all cellOk then
            k .und (h.set id (.cells (setR cs off x.cells)))
          else false
        | _ => false
      | _ => false
    | none => false
def gmake (gp : GP) (base hint t : Nat) (l c : GV) (h : List GB) (k : CK) : Bool :=
  match gp.ty t, asN l, asN c with
    | some { kind := .slice e, .. }, some (.i64, n), some (.i64, m) => match gp.ty e with
      | some ti =>
        if 0 ≤ n ∧ n ≤ m ∧ m * (ti.bytes : Int) ≤ (maxBytes : Int) ∧ m ≤ (maxBytes : Int) then
          bif hint.ble 9 then
            k (.slc h.length 0 n.toNat (some m.toNat)) (h ++ [.cells ((List.replicate m.toNat (ti.zero.map fun v => GV.d (.lit v))).flatten)])
          else match h[base + (hint - 10)]? with
            | some .resv => k (.slc (base + (hint - 10)) 0 n.toNat (some m.toNat)) (h.set (base + (hint - 10)) (.cells ((List.replicate m.toNat (ti.zero.map fun v => GV.d (.lit v))).flatten)))
            | _ => false
        else false
      | none => false
    | _, _, _ => false
def gbs3 (gp : GP) (t len : Nat) (ps : List (Nat × GV)) (h : List GB) (k : CK) : Bool :=
  match gp.ty t with
    | some { kind := .slice e, .. } => match gp.ty e with
      | some ti =>
        match inOrder ti.size 0 ps with
        | some es =>
          bif es.length.beq len && (len * ti.size).ble 16777216 then k (.slc h.length 0 len (some len)) (h ++ [.cells ((flat es).map .d)]) else false
        | none => false
      | none => false
    | _ => false
def grange (gp : GP) (t : Nat) (m : GV) (h : List GB) (k : CK) : Bool :=
  match gp.ty t, m with
    | some { kind := .map _ _, .. }, .map id => match h[id]? with
      | some (.map es) => k (.iter h.length) (h ++ [.iter id es.length (List.range es.length) none])
      | _ => false
    | _, _ => false
def gnext (lk : Nat) (it : GV) (h : List GB) (k : CK) : Bool :=
  match it with
    | .iter id => match h[id]? with
      | some (.iter m n left _) => match h[m]? with
        | some (.map es) => bif lk.ble id && es.length.beq n then
            match left with
            | [] => k (.tup [gb false]) h
            | _ => left.all fun i => match es[i]? with
              | some (kd, v) => k (.tup [gb true, .d kd, v]) (h.set id (.iter m n (left.filter fun j => !(j == i)) (some i)))
              | none => false
          else false
        | _ => false
      | _ => false
    | _ => false
def gentry (it : GV) (h : List GB) (k : CK) : Bool :=
  match it with
    | .iter id => match h[id]? with
      | some (.iter m n _ (some i)) => match h[m]? with
        | some (.map es) => bif es.length.beq n then (match es[i]? with
          | some (kd, v) => k (.tup [.d kd, v]) h
          | none => false) else false
        | _ => false
      | _ => false
    | _ => false
def gmaplen (x : GV) (h : List GB) (k : CK) : Bool := match x with
  | .map id => match h[id]? with | some (.map es) => k (gi es.length) h | _ => false
  | _ => false
/-- A call that stands alone: data in, data out. -/
def gcall0 (call : Call) (g : Nat) (args : List GV) (h : List GB) (k : CK) : Bool :=
  match toDAll args with
  | some ds => call 0 g (ds.map .d) [] fun r _ => match retD r with | some r' => k r' h | none => false
  | none => false
/-- A call that may read the caller's memory. -/
def gcall1 (call : Call) (g : Nat) (args : List GV) (h : List GB) (k : CK) : Bool :=
  call h.length g args h fun r _ => match retD r with | some r' => k r' h | none => false
/-- A call of what a value holds. -/
def gdyn (gp : GP) (call : Call) (lk : Nat) (f : GV) (args : List GV) (h : List GB) (k : CK) : Bool :=
  match callT f args with
      | some (g, args) =>
        bif (gp.mode g).beq 0 then gcall0 call g args h k
        else bif (gp.mode g).beq 1 then gcall1 call g args h k
        else call lk g args h k
      | none => false
end Go.Gh
namespace Go.Gh

/-- The steps' names. -/
theorem kStd (c : Call) (n l : Nat) : ((sX c n l).v1 = gV) ∧ ((sX c n l).g1 = gGV) ∧ ((sX c n l).h1 = gH) ∧ ((sX c n l).gh = gGH) ∧ ((sX c n l).i1 = gI) ∧ ((sX c n l).f1 = gF) ∧ ((sX c n l).b1 = gB) ∧ ((sX c n l).c1 = gIf) ∧ ((sX c n l).j1 = gJ) ∧
    ((sX c n l).a1 = gAnd) ∧ ((sX c n l).r1 = gR) ∧ ((sX c n l).loop = gloop) ∧ ((sX c n l).call = c) ∧ ((sX c n l).n = n) ∧ ((sX c n l).lk = l) :=
  ⟨rfl, rfl, rfl, rfl, rfl, rfl, rfl, rfl, rfl, rfl, rfl, rfl, rfl, rfl, rfl⟩

theorem kNew : (∀ x, noNew (.d x) = .d x) ∧ (∀ a, noNew (.xl a) = .xl a) ∧ (∀ a t, noNew (.tl a t) = .tl a t) ∧ (∀ i o, noNew (.ptr i o) = .ptr i o) ∧ (∀ a b c d, noNew (.slc a b c d) = .slc a b c d) ∧ (∀ i, noNew (.map i) = .map i) ∧
    (∀ i, noNew (.iter i) = .iter i) ∧ (∀ f a b, noNew (.fn f a b) = .fn f a b) ∧ (∀ l, noNew (.agg l) = .agg l) ∧ (∀ l, noNew (.tup l) = .tup l) ∧ (noNew .und = .und) ∧ (∀ t, noNew (.new t) = .und) :=
  ⟨fun _ => rfl, fun _ => rfl, fun _ _ => rfl, fun _ _ => rfl, fun _ _ _ _ => rfl, fun _ => rfl, fun _ => rfl, fun _ _ _ => rfl, fun _ => rfl, fun _ => rfl, rfl, fun _ => rfl⟩

theorem gV_some (v : GV) (k : GV → Bool) : gV (some v) k = k (noNew v) := id rfl
theorem gV_none (k : GV → Bool) : gV none k = false := id rfl
theorem gV_ite (c : Prop) [Decidable c] (a b : Option GV) (k : GV → Bool) : gV (if c then a else b) k = if c then gV a k else gV b k := by split <;> rfl
theorem gGV_some (b : Bool) (o : Option GV) (k : GV → Bool) : gGV (some b) o k = bif b then gV o k else k (.tup []) := id rfl
theorem gH_def (c : CK → Bool) (k : CK) : gH c k = c fun v h => k (noNew v) h := id rfl
theorem gGH_some (b : Bool) (c : CK → Bool) (h : List GB) (k : CK) : gGH (some b) c h k = bif b then gH c k else k (.tup []) h := id rfl
theorem gR_some (v : GV) (k : GV → Bool) : gR (some v) k = k v := id rfl
theorem gJ_def (c : (St → Bool) → Bool) (k : St → Bool) : gJ c k = c k := id rfl
theorem gF_some (v : GV) (h : List GB) (k : GV → List GB → Bool) : gF (some (v, h)) k = k v h := id rfl
theorem wG_b (want b : Bool) : wG want (gb b) = some (b == want) := id rfl
theorem wG_tup (want : Bool) : wG want (.tup []) = some false := id rfl
theorem asB_b (b : Bool) : asB (gb b) = some b := id rfl
theorem asN_i (n : Int) : asN (gi n) = some (.i64, n) := id rfl
theorem beq_t (b : Bool) : (b == true) = b := by cases b <;> rfl
theorem beq_f (b : Bool) : (b == false) = !b := by cases b <;> rfl
theorem gpick_b (c : Bool) (a b : GV) : gpick (gb c) a b = some (bif c then a else b) := id rfl
theorem gpick_bb (c x y : Bool) : gpick (gb c) (gb x) (gb y) = some (gb (bif c then x else y)) := by cases c <;> rfl
theorem gnot_b (b : Bool) : gnot (gb b) = some (gb (!b)) := id rfl
theorem gext_tup (l : List GV) (i : Nat) : gext (.tup l) i = l[i]? := id rfl
theorem gneg_i (n : Int) : gneg (gi n) = some (gi (IntKind.i64.wrap (0 - n))) := id rfl

theorem kSteps : (∀ (v : GV) k, gV (some v) k = k (noNew v)) ∧ (∀ (b : Bool) o k, gGV (some b) o k = bif b then gV o k else k (.tup [])) ∧ (∀ (c : CK → Bool) (k : CK), gH c k = c fun v h => k (noNew v) h) ∧
    (∀ (b : Bool) c h k, gGH (some b) c h k = bif b then gH c k else k (.tup []) h) ∧ (∀ (v : GV) k, gR (some v) k = k v) ∧ (∀ (t : Bool) k, gB (some t) k = k t) ∧
    (∀ (t : Bool) f k, gIf (some t) f k = f k t) ∧ (∀ c k, gJ c k = c k) ∧ (∀ v h k, gF (some (v, h)) k = k v h) ∧ (∀ want b, wG want (gb b) = some (b == want)) ∧ (∀ want, wG want (.tup []) = some false) ∧
    (∀ b, asB (gb b) = some b) ∧ (∀ b : Bool, (b == true) = b) ∧ (∀ b : Bool, (b == false) = !b) ∧ (∀ c x y, gpick (gb c) (gb x) (gb y) = some (gb (bif c then x else y))) ∧ (∀ b, gnot (gb b) = some (gb (!b))) ∧ (∀ l i, gext (.tup l) i = l[i]?) ∧
    (∀ x y : GV, gpick (gb true) x y = some x) ∧ (∀ x y : GV, gpick (gb false) x y = some y) :=
  ⟨fun _ _ => rfl, fun _ _ _ => rfl, fun _ _ => rfl, fun _ _ _ _ => rfl, fun _ _ => rfl, fun _ _ => rfl, fun _ _ _ => rfl, fun _ _ => rfl, fun _ _ _ => rfl, fun _ _ => rfl, fun _ => rfl, fun _ => rfl, beq_t, beq_f, gpick_bb, fun _ => rfl, fun _ _ => rfl, fun _ _ => rfl, fun _ _ => rfl⟩

theorem kEnv : (∀ e t v u, put e (some t) v u = if u = t then v else e u) ∧ (∀ t v r u, ofL ((t, v) :: r) u = if u = t then v else ofL r u) ∧ (∀ u, ofL [] u = .und) := by
  refine ⟨fun e t v u => ?_, fun t v r u => ?_, fun _ => rfl⟩ <;> simp only [put, ofL, Bool.cond_eq_ite, Nat.beq_eq]

theorem kKont : (∀ a K s, kSeq a K .normal s = a s) ∧ (∀ a K i s, kSeq a K (.exit i) s = K (.exit i) s) ∧ (∀ a K s, kSeq a K .ret s = K .ret s) ∧
    (∀ i K s, kBlk i K (.exit i) s = K .normal s) ∧ (∀ i K s, kBlk i K .normal s = K .normal s) ∧ (∀ i K s, kBlk i K .ret s = K .ret s) :=
  ⟨fun _ _ _ => rfl, fun _ _ _ _ => rfl, fun _ _ _ => rfl, fun i _ _ => by simp [kBlk], fun _ _ _ => rfl, fun _ _ _ => rfl⟩
theorem kBlk_ne {i j : Nat} (h : j ≠ i) (K : GX → St → Bool) (s : St) : kBlk i K (.exit j) s = K (.exit j) s := by
  have : j.beq i = false := by
    cases hb : j.beq i with
    | false => rfl
    | true => exact absurd (Nat.eq_of_beq_eq_true hb) h
  simp only [kBlk, this, cond_false]
theorem kRet_one {C : Comb} {gp : GP} {t : Nat} {K : CK} {s : St} : kRet C gp [.tmp t] K .ret s = K (s.env t) s.heap := id rfl
theorem kRet_oneN {C : Comb} {gp : GP} {t : Nat} {K : CK} {s : St} : kRet C gp [.tmp t] K .normal s = K (s.env t) s.heap := id rfl
theorem kRet_two {C : Comb} {gp : GP} {t u : Nat} {K : CK} {s : St} : kRet C gp [.tmp t, .tmp u] K .ret s = K (.tup [s.env t, s.env u]) s.heap := id rfl

theorem gloop_succ (B : St → (St → Bool) → (GX → St → Bool) → Bool) (m : Nat) (s : St) (K : GX → St → Bool) : gloop B (m + 1) s K = B s (fun s' => gloop B m s' K) K := id rfl

theorem kCmp (gp : GP) (t : Nat) : (∀ a b, gbin gp .lss t (gi a) (gi b) = some (gb (decide (a < b)))) ∧ (∀ a b, gbin gp .leq t (gi a) (gi b) = some (gb (decide (a ≤ b)))) ∧ (∀ a b, gbin gp .gtr t (gi a) (gi b) = some (gb (decide (b < a)))) ∧
    (∀ a b, gbin gp .geq t (gi a) (gi b) = some (gb (decide (b ≤ a)))) ∧ (∀ a b, gbin gp .eql t (gi a) (gi b) = some (gb (decide (a = b)))) ∧ (∀ a b, gbin gp .neq t (gi a) (gi b) = some (gb (!decide (a = b)))) ∧
    (∀ a b, gbin gp .add t (gi a) (gi b) = some (gi (IntKind.i64.wrap (a + b)))) ∧ (∀ a b, gbin gp .sub t (gi a) (gi b) = some (gi (IntKind.i64.wrap (a - b)))) ∧ (∀ a b, gbin gp .mul t (gi a) (gi b) = some (gi (IntKind.i64.wrap (a * b)))) := by
  refine ⟨fun a b => rfl, fun a b => rfl, fun a b => rfl, fun a b => rfl, fun a b => ?_, fun a b => ?_, fun a b => rfl, fun a b => rfl, fun a b => rfl⟩
  · show some (gb (a == b)) = _
    rw [show (a == b) = decide (a = b) from rfl]
  · show some (gb (a != b)) = _
    rfl

/-- A slice of data, its elements' shape known. -/
theorem szOk_map {α : Type} (enc : α → DV) (sz : Nat) (h : ∀ x, (enc x).cells.length = sz) (l : List α) : szOk sz (l.map enc) = true := by
  cases l with
  | nil => rfl
  | cons x r => simp [szOk, h]
theorem wrap_in {n : Int} (h1 : -9223372036854775808 ≤ n) (h2 : n ≤ 9223372036854775807) : IntKind.i64.wrap n = n := by
  exact IntWalk.i64_in _ (by omega)
end Go.Gh
namespace Go.Gh
open Go.RowKit
variable {gp : GP} {call : Call} {lk base : Nat} {hs : List (Nat × Nat)} {ops : Array Oper}

def Mono (call : Call) : Prop := ∀ lk g args h (k k' : CK), (∀ v h, k v h = true → k' v h = true) → call lk g args h k = true → call lk g args h k' = true
theorem all_mono {α : Type} {l : List α} {f g : α → Bool} (h : ∀ x, f x = true → g x = true) (hl : l.all f = true) : l.all g = true :=
  List.all_eq_true.2 fun x hx => h x (List.all_eq_true.1 hl x hx)

theorem gheap_mono (hc : Mono call) {hint : Nat} {ρ : Operand → GV} {k k' : CK} (hk : ∀ v h, k v h = true → k' v h = true) (o : Oper) (H : List GB) :
    gheap gp call lk base hint o ρ H k = true → gheap gp call lk base hint o ρ H k' = true := by
  obtain ⟨dst, op, type, pos, after, guard⟩ := o
  cases op <;> simp only [gheap, Bool.cond_eq_ite] <;> intro hq
  case assign x => (repeat' split at hq) <;> first | (cases hq; done) | simp [*]
  case alloc t => (repeat' split at hq) <;> first | (cases hq; done) | simp [*]
  case box t x => (repeat' split at hq) <;> first | (cases hq; done) | simp [*]
  case buildSlice t n ps => (repeat' split at hq) <;> first | (cases hq; done) | simp [*]
  case load t a => (repeat' split at hq) <;> first | (cases hq; done) | simp [*]
  case store t a x => (repeat' split at hq) <;> first | (cases hq; done) | simp [*]
  case makeMap t r => cases r <;> first | (cases hq; done) | exact hk _ _ hq
  case makeSlice t l c => (repeat' split at hq) <;> first | (cases hq; done) | simp [*]
  case lookup t m x ok =>
    unfold glookup at hq ⊢
    simp only [Bool.cond_eq_ite] at hq ⊢
    (repeat' split at hq) <;> first | (cases hq; done) | simp [*]
  case insert t m x v =>
    unfold gmapUpdate at hq ⊢
    simp only [Bool.cond_eq_ite] at hq ⊢
    (repeat' split at hq) <;> first | (cases hq; done) | simp [*]
  case mapUpdate t m x v =>
    unfold gmapUpdate at hq ⊢
    simp only [Bool.cond_eq_ite] at hq ⊢
    (repeat' split at hq) <;> first | (cases hq; done) | simp [*]
  case range t x => (repeat' split at hq) <;> first | (cases hq; done) | simp [*]
  case next x s =>
    cases s <;> simp only [] at hq ⊢
    · (repeat' split at hq) <;> first | (cases hq; done) | skip
      · simp [*]
      · simp only [*, reduceIte]
        refine all_mono (fun i hi => ?_) hq
        split at hi
        · exact hk _ _ hi
        · cases hi
    · cases hq
  case entry x => (repeat' split at hq) <;> first | (cases hq; done) | simp [*]
  case call c =>
    cases hcl : c.callee with
    | builtin b =>
      simp only [hcl] at hq ⊢
      unfold gbuiltin at hq ⊢
      (repeat' split at hq) <;> first | (cases hq; done) | skip
      · simp [*]
      · unfold gappend at hq ⊢
        simp only [Bool.cond_eq_ite] at hq ⊢
        (repeat' split at hq) <;> first | (cases hq; done) | simp [*]
      · unfold gcopy at hq ⊢
        simp only [Bool.cond_eq_ite] at hq ⊢
        (repeat' split at hq) <;> first | (cases hq; done) | simp [*]
    | invoke r m => simp only [hcl] at hq; cases hq
    | value f =>
      simp only [hcl] at hq ⊢
      split at hq
      · split at hq
        · rw [if_pos ‹_›]
          split at hq
          · refine hc _ _ _ _ _ _ (fun v h hv => ?_) hq
            split at hv
            · exact hk _ _ hv
            · cases hv
          · cases hq
        · rw [if_neg ‹_›]
          split at hq
          · rw [if_pos ‹_›]
            refine hc _ _ _ _ _ _ (fun v h hv => ?_) hq
            split at hv
            · exact hk _ _ hv
            · cases hv
          · rw [if_neg ‹_›]
            exact hc _ _ _ _ _ _ hk hq
      · cases hq
  all_goals (cases hq)

theorem gcore_mono (hc : Mono call) {hint : Nat} {o : Oper} {ρ : Operand → GV} {H : List GB} {k k' : CK} (hk : ∀ v h, k v h = true → k' v h = true) (hq : gcore gp call lk base hint o ρ H k = true) : gcore gp call lk base hint o ρ H k' = true := by
  unfold gcore at hq ⊢
  cases hv : isV gp hint o with
  | true =>
    rw [hv] at hq
    simp only [cond_true] at hq ⊢
    split at hq
    · exact hk _ _ hq
    · cases hq
  | false =>
    rw [hv] at hq
    exact gheap_mono hc hk o H hq
theorem geff_mono (hc : Mono call) {hint : Nat} {o : Oper} {e : Env} {H : List GB} {k k' : Option GV → GV → List GB → Bool} (hk : ∀ X v h, k X v h = true → k' X v h = true) :
    geff gp call lk base hint ops o e H k = true → geff gp call lk base hint ops o e H k' = true := by
  unfold geff
  simp only [Bool.cond_eq_ite]
  intro hq
  (repeat' split at hq) <;> first | (cases hq; done) | skip
  all_goals first | (simp [*]; done) | skip
  rw [if_pos ‹_›, if_neg ‹_›, if_neg ‹_›]
  exact gcore_mono hc (fun v h hv => hk _ _ _ hv) hq

theorem gops_mono (hc : Mono call) {K K' : St → Bool} (hK : ∀ s, K s = true → K' s = true) : ∀ (l : List (Nat × Oper)) (s : St), gops gp call lk base hs ops l s K = true → gops gp call lk base hs ops l s K' = true
  | [], s, h => hK s h
  | (i, o) :: r, s, h => by
    obtain ⟨e, H⟩ := s
    simp only [gops] at h ⊢
    rw [gop_eff] at h ⊢
    exact geff_mono hc (fun X v h hv => gops_mono hc hK r _ hv) h
theorem gregion_mono (hc : Mono call) {f id : Nat} {K K' : St → Bool} (hK : ∀ s, K s = true → K' s = true) (s : St) (h : gregion gp call lk f id ops s K = true) : gregion gp call lk f id ops s K' = true := by
  unfold gregion at h ⊢
  refine frz_mono (fun s1 h1 => ?_) _ _ h
  split at h1
  · exact gops_mono hc (fun s' hs => frz_mono hK _ _ hs) _ _ h1
  · rename_i i j _
    simp only [Bool.cond_eq_ite] at h1 ⊢
    split at h1
    · rename_i ha
      rw [if_pos (gops_mono hc (fun s' hs => frz_mono hK _ _ hs) _ _ ha)]
      exact gops_mono hc (fun s' hs => frz_mono hK _ _ hs) _ _ h1
    · cases h1
theorem giter_mono {body : St → (GX → St → Bool) → Bool} (hb : ∀ K K' s, (∀ x s, K x s = true → K' x s = true) → body s K = true → body s K' = true) {K K' : GX → St → Bool} (hK : ∀ x s, K x s = true → K' x s = true) : ∀ n s, giter body n s K = true → giter body n s K' = true
  | 0, _, h => by cases h
  | n + 1, s, h => by
    simp only [giter] at h ⊢
    refine hb _ _ _ (fun x s' hx => ?_) h
    cases x with
    | normal => exact giter_mono hb hK n s' hx
    | exit i => exact hK _ _ hx
    | ret => exact hK _ _ hx
theorem gx_mono (hc : Mono call) {f L : Nat} : ∀ (c : Code) (K K' : GX → St → Bool) (s : St), (∀ x s, K x s = true → K' x s = true) → gx gp call lk f L c s K = true → gx gp call lk f L c s K' = true
  | .skip, K, K', s, hK, h => hK _ _ h
  | .region id ops d, K, K', s, hK, h => gregion_mono hc (fun s => hK _ _) s h
  | .seq a b, K, K', s, hK, h => by
    simp only [gx] at h ⊢
    refine gx_mono hc a _ _ _ (fun x s' hx => ?_) h
    cases x with
    | normal => exact gx_mono hc b _ _ _ hK hx
    | exit i => exact hK _ _ hx
    | ret => exact hK _ _ hx
  | .cond c a b, K, K', s, hK, h => by
    simp only [gx] at h ⊢
    split at h
    · rename_i t _
      cases t
      · exact gx_mono hc b _ _ _ hK h
      · exact gx_mono hc a _ _ _ hK h
    · cases h
  | .block id c, K, K', s, hK, h => by
    simp only [gx] at h ⊢
    refine gx_mono hc c _ _ _ (fun x s' hx => ?_) h
    cases x with
    | normal => exact hK _ _ hx
    | exit i =>
      simp only [Bool.cond_eq_ite] at hx ⊢
      split at hx
      · rw [if_pos ‹_›]; exact hK _ _ hx
      · rw [if_neg ‹_›]; exact hK _ _ hx
    | ret => exact hK _ _ hx
  | .loop c, K, K', s, hK, h => giter_mono (fun K K' s hK h => gx_mono hc c K K' s hK h) hK L s h
  | .exit id, K, K', s, hK, h => hK _ _ h
  | .ret, K, K', s, hK, h => hK _ _ h
  | .rangeFunc .., K, K', s, hK, h => by cases h
  | .scope _, K, K', s, hK, h => by cases h
  | .label _, K, K', s, hK, h => by cases h
  | .goto _, K, K', s, hK, h => by cases h
  | .refuse _, K, K', s, hK, h => by cases h
theorem gcall_mono (ho : ∀ f F, gp.ovr f = some F → ∀ args h (k k' : CK), (∀ v h, k v h = true → k' v h = true) → F args h k = true → F args h k' = true) : ∀ n, Mono (gcall gp n)
  | 0 => fun _ _ _ _ _ _ _ h => by cases h
  | n + 1 => fun lk f args h k k' hk hq => by
    simp only [gcall] at hq ⊢
    split at hq
    · rename_i F hF; exact ho f F hF args h k k' hk hq
    · split at hq
      · split at hq
        · refine gx_mono (gcall_mono ho n) _ _ _ _ (fun x s hx => ?_) hq
          cases x <;> simp only at hx ⊢
          · split at hx
            · exact hk _ _ hx
            · cases hx
          · cases hx
          · split at hx
            · exact hk _ _ hx
            · cases hx
        · cases hq
      · cases hq
theorem grow_mono (sz : Nat) (args : List GV) (h : List GB) (k k' : CK) (hk : ∀ v h, k v h = true → k' v h = true) (hq : growNil sz args h k = true) : growNil sz args h k' = true := by
  unfold growNil at hq ⊢
  simp only [Bool.cond_eq_ite] at hq ⊢
  (repeat' split at hq) <;> first | (cases hq; done) | simp [*]
end Go.Gh
