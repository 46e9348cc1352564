/- The engine: code, whole; regions that draw their order. No condition. -/
import Derived.OrdersIn
import Derived.Test.YtkgmeeenacnhfaaGreatNdD
set_option linter.unusedVariables false
set_option linter.unusedSimpArgs false
namespace Go.Proofs.YtkgmeeenacnhfaaGreat.Eng
open Go
open Go.RowKit (Below)
def DrawOK (T : Tbl) (P : Program) : Prop := ∀ {ex : Ex}, CallOK T P (callS T ex) → YieldOK T P ex → ∀ {A : Ann} {N : Nat} {K : Nat → Prop} {base : Nat} {F : Fence} {k id : Nat} {ops : Array Oper} {order : List Nat} {q : List AR} {σ σ' : AS} {a : Act} {w : World} {G : Ghost} {L : Nat → Option Nat} {M : List Nat} {Q : Exit → Act → World → Prop},
  dstsOk N ops.toList = true → order.length = ops.size → cDraw P A T.how ops.toList (befores ops.toList) order [] = some q → arun T ex q σ = some σ' → FSim T P A N K base G L M σ a w → base ≤ w.heap.size → FOK F σ.rnd →
  (∀ a' w' G' L' M', FSim T P A N K base G' L' M' σ' a' w' → Stp K base G w G' w' → Q .normal a' w') → (Code.region id ops true).wpIn F k P Q a w
section
variable {T : Tbl} {P : Program} {A : Ann} {N : Nat} {K : Nat → Prop} {base : Nat} {G G0 : Ghost} {L : Nat → Option Nat} {M : List Nat} {S S' : Store} {σ σ' : AS} {a : Act} {w w0 : World} {o : Oper} {ex : Ex} {op : AOp}

theorem Post.step {G1 : Ghost} {w1 : World} {e : AExit} {e' : Exit} {a' : Act} {w' : World} (hst : Stp K base G w G1 w1) (h : Post T P A N K base G1 w1 σ' e e' a' w') : Post T P A N K base G w σ' e e' a' w' := by
  obtain ⟨h1, G', L', M', h2, h3⟩ := h
  exact ⟨h1, G', L', M', h2, hst.trans h3⟩
theorem frame_mark (h : FSim T P A N K base G L M σ a w) (hb : base ≤ w.heap.size) : FSim T P A N K base (G.setOwn w.heap.size .frame) L (w.heap.size :: M) { σ with marks := σ.marks + 1 } { a with defers := { target := .collected w.heap.size, args := #[] } :: a.defers } (w.alloc (.deferred (some []))) ∧
    Stp K base G w (G.setOwn w.heap.size .frame) (w.alloc (.deferred (some []))) := by
  have hst := Stp.of_alloc (K := KF G) h.sim (fun b hb => hb) (.deferred (some [])) hb (G.setOwn_ext w.heap.size .frame) (fun b hb' => Ghost.setOwn_other _ _ (Nat.ne_of_lt hb'))
  have hs : FSim T P A N K base (G.setOwn w.heap.size .frame) L M { σ with S := σ.S } a (w.alloc (.deferred (some []))) := h.store (h.sim.newFrame hb _) hst
  refine ⟨⟨hs.sim, hs.size, hs.tmps, hs.kills, hs.loc, hs.lOwn, hs.inj, hs.kOwn, .mark _ _ _ _ hs.defers, fun r hr => ?_, List.nodup_cons.2 ⟨fun hr => ?_, hs.mNodup⟩, by simp [hs.mLen]⟩, h.stp hst⟩
  · rcases List.mem_cons.1 hr with rfl | hr
    · have hfree := h.sim.fresh_own (b := w.heap.size) (Nat.le_refl _)
      refine ⟨Ghost.setOwn_same _ _ _, fun hk => ?_, fun s hs' => ?_, heap_alloc_at w _⟩
      · have := h.kOwn _ hk; rw [hfree] at this; cases this
      · have := (h.lOwn s _ hs').1; rw [hfree] at this; cases this
    · exact hs.marks r hr
  · have := (h.marks _ hr).1
    rw [h.sim.fresh_own (Nat.le_refl _)] at this
    cases this

theorem elems_congr {σ τ : AS} (h : σ.S = τ.S) (sz : Nat) (p : PV) : elems σ sz p = elems τ sz p := by cases p <;> simp only [elems, h]
theorem lend1_congr {σ τ : AS} (h : σ.S = τ.S) (p : PV) : lend1 σ p = lend1 τ p := by cases p <;> simp only [lend1, elems_congr h]
theorem lends1_congr {σ τ : AS} (h : σ.S = τ.S) : ∀ ps : List PV, lends1 σ ps = lends1 τ ps
  | [] => rfl
  | p :: ps => by simp only [lends1, lend1_congr h, lends1_congr h ps]
theorem lend_congr {σ τ : AS} (h : σ.S = τ.S) (p : PV) : lend σ p = lend τ p := by cases p <;> simp only [lend, lend1_congr h, lends1_congr h]
theorem lends_congr {σ τ : AS} (h : σ.S = τ.S) : ∀ ps : List PV, lends σ ps = lends τ ps
  | [] => rfl
  | p :: ps => by simp only [lends, lend_congr h, lends_congr h ps]
theorem callF_eq {f : FuncId} {args : List PV} {σ τ : AS} (h : σ.S = τ.S) : callF T ex f args σ = callF T ex f args τ := by
  simp only [callF, lends_congr h, h]
theorem range_ok (hco : CodeOK T P ex) (hcall : CallOK T P (callS T ex)) (ht : TOK T P) (h : FSim T P A N K base G L M σ a w) (hb : base ≤ w.heap.size) {F : Fence} {k : Nat} (hF : FOK F σ.rnd)
    {g : Operand} {ps : Array Tmp} {assign body : Code} {ac : ACode} {e : AExit} (hc : cCode P A T.how N (.rangeFunc g ps assign body) = some ac) (he : exF T ex ac σ = some (e, σ')) :
    (Code.rangeFunc g ps assign body).wpIn F k P (Post T P A N K base G w σ' e) a w := by
  simp only [cCode] at hc
  split at hc
  · rename_i hps
    split at hc
    · rename_i g' asg bd hg hasg hbd
      cases hc
      simp only [exF] at he
      split at he
      · cases he
      · rename_i hcond
        have hcc : σ.rnd = false ∧ ∀ v ∈ σ.tmps, v.isL = false := by simpa using hcond
        have hwide : F = Fence.wide := by
          rcases hF with ⟨_, h⟩ | ⟨h, _⟩
          · exact h
          · rw [hcc.1] at h; cases h
        subst hwide
        split at he
        · rename_i f fa fc hgv
          split at he
          · rename_i r S hcf
            -- the state behind the entry
            obtain ⟨f1, s1⟩ := frame_mark h hb
            have hw1 : base ≤ (w.alloc (.deferred (some []))).heap.size := by simp; omega
            have hnoL : ∀ t s off, tget σ.tmps t ≠ .lptr s off := by
              intro t s off e
              rw [tget_at] at e
              rcases Nat.lt_or_ge t σ.tmps.length with ht | ht
              · rw [List.getElem?_eq_getElem ht, Option.getD_some] at e
                have := hcc.2 σ.tmps[t] (List.getElem_mem ht)
                rw [e] at this
                cases this
              · rw [List.getElem?_eq_none ht] at e
                cases e
            have hrelT : ∀ t, Rel (G.setOwn w.heap.size .frame) (tget σ.tmps t) (a.tmps.getD t undef) := by
              intro t
              rcases f1.tmps t with ⟨s, off, blk, h1, _⟩ | h1
              · exact absurd h1 (hnoL t s off)
              · exact h1
            have hpl : ∀ p ∈ ps.toList, p < a.tmps.size := by
              intro p hp
              rw [h.size]
              simpa using List.all_eq_true.1 hps p hp
            have wr : ∀ fn : FuncId, ∃ G2, FSim T P A N K base G2 L (w.heap.size :: M) { σ with marks := σ.marks + 1, S := { σ.S with loops := σ.S.loops ++ [{ state := .ready, pending := none, fn := 0, tmps := σ.tmps, ps := ps.toList, asg := asg, body := bd }] } }
                { a with defers := { target := .collected w.heap.size, args := #[] } :: a.defers } ((w.alloc (.deferred (some []))).alloc (.loop { state := .ready, pending := none, fn, tmps := a.tmps, params := ps, assign, body, defers := w.heap.size })) ∧
                Stp K base G w G2 ((w.alloc (.deferred (some []))).alloc (.loop { state := .ready, pending := none, fn, tmps := a.tmps, params := ps, assign, body, defers := w.heap.size })) ∧ G2.loop[σ.S.loops.length]? = some (w.heap.size + 1) := by
              intro fn
              have hl := f1.sim.newLoop hw1 (r := { state := .ready, pending := none, fn := 0, tmps := σ.tmps, ps := ps.toList, asg := asg, body := bd }) (R := { state := .ready, pending := none, fn, tmps := a.tmps, params := ps, assign, body, defers := w.heap.size })
                ⟨trivial, trivial, rfl, hrelT, hpl, A, by rw [h.size]; exact hasg, by rw [h.size]; exact hbd⟩
              have hst := Stp.of_alloc (K := KF (G.setOwn w.heap.size .frame)) f1.sim (fun b hb => hb) (.loop { state := .ready, pending := none, fn, tmps := a.tmps, params := ps, assign, body, defers := w.heap.size }) hw1 (Ghost.addLoop_ext (G.setOwn w.heap.size .frame) (w.alloc (.deferred (some []))).heap.size) (fun b hb' => by simp only [Ghost.addLoop]; rw [if_neg (Nat.ne_of_lt hb')])
              refine ⟨_, f1.store hl hst, s1.trans (f1.stp hst), ?_⟩
              have := getElem?_append_at G.loop (w.alloc (.deferred (some []))).heap.size h.sim.loopLen.symm
              show (G.loop ++ [(w.alloc (.deferred (some []))).heap.size])[σ.S.loops.length]? = _
              simpa using this
            have hgrel := h.aval hg hgv
            generalize hev : a.eval g = v at hgrel
            cases hgrel with
            | fn _ _ _ va vc e1 e2 e3 e4 =>
              have hcf' : callF T ex f (fa ++ [.yld σ.S.loops.length] ++ fc) { σ with marks := σ.marks + 1, S := { σ.S with loops := σ.S.loops ++ [{ state := .ready, pending := none, fn := 0, tmps := σ.tmps, ps := ps.toList, asg := asg, body := bd }] } } = some (r, S) := by
                rw [← hcf]
                exact callF_eq rfl
              have mainp : ∀ fn : FuncId, ∃ G2, CallsIn Fence.wide (k - 1) P f (va ++ #[.func (.yield (w.heap.size + 1)) #[] #[]] ++ vc) ((w.alloc (.deferred (some []))).alloc (.loop { state := .ready, pending := none, fn, tmps := a.tmps, params := ps, assign, body, defers := w.heap.size }))
                  (RetS T P base G2 ((w.alloc (.deferred (some []))).alloc (.loop { state := .ready, pending := none, fn, tmps := a.tmps, params := ps, assign, body, defers := w.heap.size })) r S) ∧ Enter P f ∧ G2.loop[σ.S.loops.length]? = some (w.heap.size + 1) ∧
                  FSim T P A N K base G2 L (w.heap.size :: M) { σ with marks := σ.marks + 1, S := { σ.S with loops := σ.S.loops ++ [{ state := .ready, pending := none, fn := 0, tmps := σ.tmps, ps := ps.toList, asg := asg, body := bd }] } }
                  { a with defers := { target := .collected w.heap.size, args := #[] } :: a.defers } ((w.alloc (.deferred (some []))).alloc (.loop { state := .ready, pending := none, fn, tmps := a.tmps, params := ps, assign, body, defers := w.heap.size })) ∧
                  Stp K base G w G2 ((w.alloc (.deferred (some []))).alloc (.loop { state := .ready, pending := none, fn, tmps := a.tmps, params := ps, assign, body, defers := w.heap.size })) := by
                intro fn
                obtain ⟨G2, f2, s2, hl2⟩ := wr fn
                have hA : Args G2 (fa ++ [.yld σ.S.loops.length] ++ fc) (va ++ #[.func (.yield (w.heap.size + 1)) #[] #[]] ++ vc) := by
                  refine args_app (args_app ⟨e1, fun k p v h1 h2 => (e3 k p v h1 h2).ext s2.ext⟩ ⟨rfl, fun k p v h1 h2 => ?_⟩) ⟨e2, fun k p v h1 h2 => (e4 k p v h1 h2).ext s2.ext⟩
                  cases k with
                  | zero => simp at h1 h2; subst h1 h2; exact .yld _ _ hl2
                  | succ k => simp at h1
                obtain ⟨q1, q2⟩ := callF_ok (k := k - 1) hcall ht hcf' f2.sim (by simp; omega) hA
                exact ⟨G2, q2, q1, hl2, f2, s2⟩
              split at he
              · rename_i r2 hr2
                split at he
                · cases he
                · rename_i hbusy
                  -- what follows the call
                  have after : ∀ fn : FuncId, ∀ (Q : Exit → Act → World → Prop), (∀ G' w' a', FSim T P A N K base G' L (w.heap.size :: M) { σ with marks := σ.marks + 1, S := { S with loops := S.loops.set σ.S.loops.length { r2 with state := .exhausted } } } a' w' → Stp K base G w G' w' → ∀ jump, jumpRel r2.pending jump →
                      (match jump with
                       | none => Q .normal a' w'
                       | some c => c.wpIn Fence.wide k P Q a' w')) → ∃ (l : Nat) (mark : List Deferred) (w₁ : World) (d : Deferred) (w₁' : World) (f' : FuncId) (args : Array Value) (w₂ : World),
                      (Instr.enterLoop fn a.tmps ps assign body Fence.wide.round).run P w = .ok (l, mark) w₁ ∧ (resolve a.eval (rangeCall g l) 0).run P w₁ = .ok d w₁' ∧ (∀ f', Target.leads P w₁' d.target d.args = some f' → Fence.wide.fn f') ∧
                      (invoke d.target d.args).run P w₁' = .ok (.enter f' args) w₂ ∧ (Fence.wide.depth.isSome = true → 1 ≤ k) ∧ CallsIn Fence.wide (k - 1) P f' args w₂ (rangePost Fence.wide k P l Q { a with defers := mark ++ a.defers }) := by
                    intro fn Q hQ
                    obtain ⟨G2, q2, q1, hl2, f2, s2⟩ := mainp fn
                    refine ⟨_, _, _, { target := .fn (.func f) vc, args := va ++ #[.func (.yield (w.heap.size + 1)) #[] #[]] }, _, f, _, _, run_enterLoop_outer (w := w) fn a.tmps ps assign body, ?_, fun _ _ => trivial, run_enter q1 _ _, fun q => (by cases q), CallsIn.mono q2 (fun e w' hr => ?_)⟩
                    · simp only [resolve, rangeCall, hev, Deferred.ofValue]
                      simp [Act.eval]
                    · cases e with
                      | returned v =>
                        obtain ⟨G3, g1, g2, g3⟩ := hr
                        have f3 := f2.store g1 g2
                        have s3 := s2.trans (f2.stp g2)
                        obtain ⟨blk, R, k1, k2, k3, k4⟩ := g1.loop _ r2 hr2
                        have hg3 := g2.ext.loop _ _ hl2
                        rw [hg3] at k1
                        cases k1
                        have hRb : R.state ≠ .busy := by
                          intro q
                          have := k4.state
                          rw [q] at this
                          cases hq : r2.state <;> rw [hq] at this <;> first | exact hbusy hq | exact this.elim
                        have hll := (List.getElem?_eq_some_iff.1 hr2).1
                        have wl := g1.writeLoop (R' := { R with state := .exhausted }) (r' := { r2 with state := .exhausted }) hg3 k2 k3 ⟨trivial, k4.pending, k4.ps, k4.tmps, k4.lt, k4.code⟩ hll
                        have hstw := Stp.loop_write (K := KF G3) g1 (fun b hb => hb) k2 (.loop { R with state := .exhausted })
                        refine ⟨R.pending, _, run_endLoop k3 hRb, ?_⟩
                        exact hQ G3 _ _ (f3.store wl hstw) (s3.trans (f3.stp hstw)) R.pending k4.pending
                      | panicked c => exact hr.elim
                      | outgrown => exact hr.elim
                  split at he
                  · rename_i hp
                    cases he
                    refine wpIn_rangeFunc (fun fn _ => after fn _ (fun G' w' a' f s jump hj => ?_))
                    rw [hp] at hj
                    cases jump with
                    | none => exact ⟨rfl, G', L, _, f, s⟩
                    | some c => exact hj.elim
                  · rename_i j hp
                    refine wpIn_rangeFunc (fun fn _ => after fn _ (fun G' w' a' f s jump hj => ?_))
                    rw [hp] at hj
                    have hb' : base ≤ w'.heap.size := by have := s.below.size; omega
                    have hF' : FOK Fence.wide ({ σ with marks := σ.marks + 1, S := { S with loops := S.loops.set σ.S.loops.length { r2 with state := .exhausted } } } : AS).rnd := .inl ⟨hcc.1, rfl⟩
                    cases jump with
                    | none => cases j <;> exact hj.elim
                    | some c =>
                      have hcj : cCode P A T.how N c = some j := by
                        cases j <;> cases c <;> first | exact hj.elim | rfl | (cases hj; rfl)
                      exact wpIn_mono (hco (k := k) hcj he f hb' hF') (fun e' a2 w2 hq => Post.step s hq)
              · cases he
          · cases he
        · cases he
    · cases hc
  · cases hc

theorem exF_rnd (hr : RndOK ex) : RndOK (exF T ex) := by
  intro ac σ e σ' he
  cases ac with
  | skip => cases he; rfl
  | region ops =>
    simp only [exF] at he
    split at he
    · rename_i σ1 h1
      cases he
      exact arun_rnd h1
    · cases he
  | seq x y =>
    simp only [exF] at he
    split at he
    · rename_i σ1 h1
      exact (hr he).trans (hr h1)
    · exact hr he
  | cond c x y =>
    simp only [exF] at he
    split at he
    · split at he
      · exact hr he
      · exact hr he
    · cases he
  | block i b =>
    simp only [exF] at he
    split at he
    · rename_i j σ1 h1
      split at he
      · cases he; exact hr h1
      · cases he; exact hr h1
    · exact hr he
  | loop b =>
    simp only [exF] at he
    split at he
    · rename_i σ1 h1
      exact (hr he).trans (hr h1)
    · exact hr he
  | exit i => cases he; rfl
  | ret => cases he; rfl
  | rangeFunc g ps asg body =>
    simp only [exF] at he
    split at he
    · cases he
    · split at he
      · split at he
        · split at he
          · split at he
            · cases he
            · split at he
              · cases he; rfl
              · have h9 := hr he
                exact h9
          · cases he
        · cases he
      · cases he
/-- A loop, by the rounds that the abstract run makes. -/
theorem loop_rounds {n : Nat} (hco : ∀ m, m ≤ n → CodeOK T P (exn T m)) (hr : ∀ m, m ≤ n → RndOK (exn T m)) {F : Fence} {k : Nat} {c : Code} {b : ACode} {e : AExit} (hc : cCode P A T.how N c = some b) :
    ∀ (m : Nat), m ≤ n + 1 → ∀ {σ : AS} {a : Act} {w : World} {G : Ghost} {L : Nat → Option Nat} {M : List Nat}, exn T m (.loop b) σ = some (e, σ') → FSim T P A N K base G L M σ a w → base ≤ w.heap.size → FOK F σ.rnd → Stp K base G0 w0 G w →
      Code.roundsIn F k P c (Post T P A N K base G0 w0 σ' e) m a w
  | 0, _, σ, a, w, G, L, M, he, h, hb, hF, hst => by cases he
  | m + 1, hm, σ, a, w, G, L, M, he, h, hb, hF, hst => by
    simp only [exn, exF] at he
    rw [roundsIn_succ]
    split at he
    · rename_i σ1 h1
      refine wpIn_mono (hco m (by omega) hc h1 h hb hF) (fun e1 a1 w1 hp => ?_)
      obtain ⟨rfl, G1, L1, M1, h2, s2⟩ := hp
      exact loop_rounds hco hr hc m (by omega) he h2 (by have := s2.below.size; omega) (by rw [hr m (by omega) h1]; exact hF) (hst.trans s2)
    · rename_i hne
      refine wpIn_mono (hco m (by omega) hc he h hb hF) (fun e1 a1 w1 hp => ?_)
      have hp2 := Post.step hst hp
      obtain ⟨rfl, _⟩ := hp
      cases e with
      | normal => exact absurd he (hne _)
      | exit i => exact hp2
      | ret => exact hp2
theorem code_step {n : Nat} (ht : TOK T P) (hdr : DrawOK T P) (hco : ∀ m, m ≤ n → CodeOK T P (exn T m)) (hr : ∀ m, m ≤ n → RndOK (exn T m)) : CodeOK T P (exn T (n + 1)) := by
  intro F k A N K base G L M σ σ' a w c ac e hc he h hb hF
  have hn : CodeOK T P (exn T n) := hco n (Nat.le_refl _)
  have hrn : RndOK (exn T n) := hr n (Nat.le_refl _)
  have hcall : CallOK T P (callS T (exn T n)) := callOK_of hn ht
  have hy : YieldOK T P (exn T n) := yieldOK_of hn hrn
  cases c with
  | skip =>
    cases hc
    cases he
    exact wpIn_skip ⟨rfl, G, L, M, h, Stp.refl h.kOwn⟩
  | exit i =>
    cases hc
    cases he
    exact wpIn_exit ⟨rfl, G, L, M, h, Stp.refl h.kOwn⟩
  | ret =>
    cases hc
    cases he
    exact wpIn_ret ⟨rfl, G, L, M, h, Stp.refl h.kOwn⟩
  | region id ops draw =>
    simp only [cCode] at hc
    split at hc
    · cases hc
    · rename_i hd
      have hd' : dstsOk N ops.toList = true := by simpa using hd
      cases draw with
      | true =>
        simp only [if_true] at hc
        split at hc
        · rename_i hlen
          split at hc
          · rename_i q hq
            cases hc
            simp only [exn, exF] at he
            split at he
            · rename_i σ1 h1
              cases he
              exact hdr hcall hy hd' hlen hq h1 h hb hF (fun a' w' G' L' M' h2 s2 => ⟨rfl, G', L', M', h2, s2⟩)
            · cases he
          · cases hc
        · cases hc
      | false =>
        simp only [Bool.false_eq_true, if_false] at hc
        split at hc
        · rename_i q hq
          cases hc
          simp only [exn, exF] at he
          split at he
          · rename_i σ1 h1
            cases he
            refine wpIn_region ?_
            rw [List.range_eq_range']
            have := (plain_ok (F := F) (k := k) (i := 0) hcall hy ht hd' (Q := Post T P A N K base G w σ' .normal) (by simp) hq h1 h hb hF (fun a' w' G' L' M' h2 s2 => ⟨rfl, G', L', M', h2, s2⟩)).1
            simpa using this
          · cases he
        · cases hc
  | seq x y =>
    simp only [cCode] at hc
    split at hc
    · rename_i x' y' hx hy'
      cases hc
      simp only [exn, exF] at he
      refine wpIn_seq ?_
      split at he
      · rename_i σ1 h1
        refine wpIn_mono (hn hx h1 h hb hF) (fun e1 a1 w1 hp => ?_)
        obtain ⟨rfl, G1, L1, M1, h2, s2⟩ := hp
        exact wpIn_mono (hn hy' he h2 (by have := s2.below.size; omega) (by rw [hrn h1]; exact hF)) (fun e2 a2 w2 hp2 => Post.step s2 hp2)
      · rename_i hne
        refine wpIn_mono (hn hx he h hb hF) (fun e1 a1 w1 hp => ?_)
        have hp2 := hp
        obtain ⟨rfl, _⟩ := hp
        cases e with
        | normal => exact absurd he (hne _)
        | exit i => exact hp2
        | ret => exact hp2
    · cases hc
  | cond c x y =>
    simp only [cCode] at hc
    split at hc
    · rename_i o x' y' ho hx hy'
      cases hc
      simp only [exn, exF] at he
      split at he
      · rename_i t ht'
        have hr1 := h.aval ho ht'
        generalize hev : a.eval c = v at hr1
        cases hr1
        refine wpIn_cond hev ?_
        cases t with
        | true => exact hn hx (by simpa using he) h hb hF
        | false => exact hn hy' (by simpa using he) h hb hF
      · cases he
    · cases hc
  | block i b =>
    simp only [cCode] at hc
    split at hc
    · rename_i x hx
      cases hc
      simp only [exn, exF] at he
      refine wpIn_block ?_
      split at he
      · rename_i j σ1 h1
        refine wpIn_mono (hn hx h1 h hb hF) (fun e1 a1 w1 hp => ?_)
        obtain ⟨rfl, h2⟩ := hp
        simp only [toExit, Exit.inBlock]
        split at he
        · rename_i hji
          cases he
          rw [if_pos hji]
          exact ⟨rfl, h2⟩
        · rename_i hji
          cases he
          rw [if_neg hji]
          exact ⟨rfl, h2⟩
      · rename_i hne
        refine wpIn_mono (hn hx he h hb hF) (fun e1 a1 w1 hp => ?_)
        have hp2 := hp
        obtain ⟨rfl, _⟩ := hp
        cases e with
        | normal => exact hp2
        | exit i => exact absurd he (hne _ _)
        | ret => exact hp2
    · cases hc
  | loop b =>
    simp only [cCode] at hc
    split at hc
    · rename_i x hx
      cases hc
      exact wpIn_loop_rounds (n + 1) (loop_rounds hco hr hx (n + 1) (Nat.le_refl _) he h hb hF (Stp.refl h.kOwn))
    · cases hc
  | rangeFunc g ps asg body => exact range_ok hn hcall ht h hb hF hc he
  | _ => simp [cCode] at hc
theorem code_all (ht : TOK T P) (hdr : DrawOK T P) : ∀ n m, m ≤ n → CodeOK T P (exn T m) ∧ RndOK (exn T m) := by
  intro n
  induction n with
  | zero =>
    intro m hm
    have : m = 0 := by omega
    subst this
    exact ⟨fun _ he => (by cases he), fun he => (by cases he)⟩
  | succ n ih =>
    intro m hm
    rcases Nat.lt_or_ge m (n + 1) with h | h
    · exact ih m (by omega)
    · have : m = n + 1 := by omega
      subst this
      exact ⟨code_step ht hdr (fun m hm => (ih m hm).1) (fun m hm => (ih m hm).2), exF_rnd (ih n (Nat.le_refl _)).2⟩
end
end Go.Proofs.YtkgmeeenacnhfaaGreat.Eng
namespace Go.Proofs.YtkgmeeenacnhfaaGreat.Eng
open Go

theorem tset_nil_comm : ∀ (i j : Nat) (u v : PV), i ≠ j → tset (tset [] i u) j v = tset (tset [] j v) i u
  | 0, 0, u, v, h => absurd rfl h
  | 0, j + 1, u, v, h => by simp [tset]
  | i + 1, 0, u, v, h => by simp [tset]
  | i + 1, j + 1, u, v, h => by simp only [tset]; rw [tset_nil_comm i j u v (by omega)]
theorem tset_comm : ∀ (l : List PV) (i j : Nat) (u v : PV), i ≠ j → tset (tset l i u) j v = tset (tset l j v) i u
  | [], i, j, u, v, h => tset_nil_comm i j u v h
  | x :: xs, 0, 0, u, v, h => absurd rfl h
  | x :: xs, 0, j + 1, u, v, h => by simp [tset]
  | x :: xs, i + 1, 0, u, v, h => by simp [tset]
  | x :: xs, i + 1, j + 1, u, v, h => by simp only [tset]; rw [tset_comm xs i j u v (by omega)]
/-- The temporary that an operand is. -/
def Opd.is (o : Opd) (t : Nat) : Bool := match o with
  | .t n => decide (n = t)
  | .c _ => false
section
variable {σ : AS} {t : Nat} {v : PV}
def AS.st (σ : AS) (t : Nat) (v : PV) : AS := { σ with tmps := tset σ.tmps t v }
theorem put_some (d : Nat) (u : PV) : σ.put (some d) u = σ.st d u := rfl
theorem raw_st {o : Opd} (h : o.is t = false) : raw (σ.st t v) o = raw σ o := by
  cases o with
  | t n =>
    simp only [Opd.is, decide_eq_false_iff_not] at h
    exact tget_tset_ne _ _ _ _ h
  | c x => rfl
theorem aval_st {o : Opd} (h : o.is t = false) : aval (σ.st t v) o = aval σ o := by simp only [aval, raw_st h]
theorem amem_st {o : Opd} (h : o.is t = false) : amem (σ.st t v) o = amem σ o := by simp only [amem, aval_st h]
theorem avals_st : ∀ {os : List Opd}, (∀ o ∈ os, o.is t = false) → avals (σ.st t v) os = avals σ os
  | [], _ => rfl
  | o :: os, h => by
    have h1 := aval_st (v := v) (σ := σ) (h o List.mem_cons_self)
    have h2 := avals_st (os := os) (fun x hx => h x (List.mem_cons_of_mem o hx))
    simp only [avals, h1, h2]
theorem deref_st (p : PV) : deref (σ.st t v) p = deref σ p := by cases p <;> rfl
theorem aload_st (s : Option Nat) (p : PV) : aload (σ.st t v) s p = aload σ s p := by simp only [aload, deref_st]
theorem elems_st (s : Nat) (p : PV) : elems (σ.st t v) s p = elems σ s p := elems_congr rfl s p
theorem bound_st {o : Option Opd} (h : ∀ x, o = some x → x.is t = false) : bound? (σ.st t v) o = bound? σ o := by
  cases o with
  | none => rfl
  | some x => simp only [bound?, aval_st (h x rfl)]
theorem astore_st {p : PV} {vs : List PV} {σ' : AS} (h : astore σ p vs = some σ') : astore (σ.st t v) p vs = some (σ'.st t v) := by
  have e1 : (σ.st t v).S = σ.S := rfl
  have e2 : (σ.st t v).loc = σ.loc := rfl
  cases p <;> simp only [astore, e1, e2] at h ⊢ <;> try cases h
  all_goals
    revert h
    split
    · split
      · intro h; cases h; rfl
      · intro h; cases h
    · intro h; cases h
theorem put_st {d : Option Nat} (hd : d ≠ some t) (u : PV) : (σ.st t v).put d u = (σ.put d u).st t v := by
  cases d with
  | none => rfl
  | some d =>
    have : d ≠ t := fun e => hd (by rw [e])
    simp only [AS.put, AS.st, tset_comm _ _ _ _ _ (Ne.symm this)]
theorem fillP_st : ∀ {ps : List (Nat × Nat × Opd)} {cs : List PV}, (∀ o ∈ ps.map (fun (_, _, x) => x), o.is t = false) → fillP (σ.st t v) cs ps = fillP σ cs ps
  | [], _, _ => rfl
  | (off, sz, x) :: r, cs, h => by
    have h1 := amem_st (v := v) (σ := σ) (h x (by simp))
    have h2 := fun cs => fillP_st (ps := r) (cs := cs) (fun o ho => h o (by simp only [List.map_cons, List.mem_cons]; exact .inr ho))
    simp only [fillP, h1, h2]
theorem fillS_st {sz : Nat} : ∀ {ps : List (Nat × Opd)} {cs : List PV}, (∀ o ∈ ps.map (fun (_, x) => x), o.is t = false) → fillS (σ.st t v) sz cs ps = fillS σ sz cs ps
  | [], _, _ => rfl
  | (i, x) :: r, cs, h => by
    have h1 := amem_st (v := v) (σ := σ) (h x (by simp))
    have h2 := fun cs => fillS_st (sz := sz) (ps := r) (cs := cs) (fun o ho => h o (by simp only [List.map_cons, List.mem_cons]; exact .inr ho))
    simp only [fillS, h1, h2]
theorem aslice_st {sz : Nat} {p : PV} {a b c : Option Opd} (h : ∀ o ∈ a.toList ++ b.toList ++ c.toList, o.is t = false) : aslice (σ.st t v) sz p a b c = aslice σ sz p a b c := by
  have ha := bound_st (σ := σ) (t := t) (v := v) (o := a) (fun x e => h x (by simp [e]))
  have hb := bound_st (σ := σ) (t := t) (v := v) (o := b) (fun x e => h x (by simp [e]))
  have hc := bound_st (σ := σ) (t := t) (v := v) (o := c) (fun x e => h x (by simp [e]))
  have e1 : (σ.st t v).S = σ.S := rfl
  simp only [aslice, ha, hb, hc, e1]
theorem callF_st {T : Tbl} {ex : Ex} (f : FuncId) (args : List PV) : callF T ex f args (σ.st t v) = callF T ex f args σ := callF_eq rfl
theorem callV_st {T : Tbl} {ex : Ex} (x : PV) (args : List PV) : callV T ex x args (σ.st t v) = callV T ex x args σ := by
  cases x <;> simp only [callV, callF_st] <;> rfl
/-- An operation that does not look at a temporary. -/
theorem aop_st {T : Tbl} {ex : Ex} {d : Option Nat} {op : AOp} {σ' : AS} (h : ∀ o ∈ op.opds, o.is t = false) (hd : d ≠ some t) (hb : ∀ ks x, op ≠ .boxL ks x) (he : aop T ex d σ op = some σ') : aop T ex d (σ.st t v) op = some (σ'.st t v) := by
  have e1 : (σ.st t v).S = σ.S := rfl
  have e2 : (σ.st t v).rnd = σ.rnd := rfl
  have e3 : (σ.st t v).defers = σ.defers := rfl
  have e4 : ∀ S, ({ (σ.st t v) with S := S } : AS) = ({ σ with S := S } : AS).st t v := fun S => rfl
  have e5 : ∀ D, ({ (σ.st t v) with defers := D } : AS) = ({ σ with defers := D } : AS).st t v := fun S => rfl
  cases op with
  | boxL ks x => exact absurd rfl (hb ks x)
  | build z ps =>
    simp only [AOp.opds] at h
    simp only [aop, fillP_st h] at he ⊢
    revert he
    split
    · intro he; cases he; rw [put_st hd]
    · intro he; cases he
  | mkslice a b z ps =>
    simp only [AOp.opds] at h
    simp only [aop, fillS_st h] at he ⊢
    revert he
    split
    · intro he; cases he; rw [put_st hd]
    · intro he; cases he
  | slice sz x a b c =>
    simp only [AOp.opds, List.mem_cons] at h
    have hx := aval_st (σ := σ) (v := v) (h x (.inl rfl))
    simp only [aop, hx, aslice_st (fun o ho => h o (.inr ho)), withV] at he ⊢
    revert he
    split
    · split
      · intro he; cases he; rw [put_st hd]
      · intro he; cases he
    · intro he; cases he
  | mx xs =>
    simp only [AOp.opds] at h
    simp only [aop, avals_st h, withV] at he ⊢
    revert he
    split
    · split
      · intro he; cases he; rw [put_st hd]
      · intro he; cases he
    · intro he; cases he
  | call f xs =>
    simp only [AOp.opds] at h
    simp only [aop, avals_st h, callF_st, withS, e4] at he ⊢
    revert he
    split
    · split
      · intro he; cases he; rw [put_st hd]
      · intro he; cases he
    · intro he; cases he
  | callv x xs =>
    simp only [AOp.opds, List.mem_cons] at h
    have hx := aval_st (σ := σ) (v := v) (h x (.inl rfl))
    simp only [aop, hx, avals_st (fun o ho => h o (.inr ho)), callV_st, withS, e4] at he ⊢
    revert he
    split
    · split
      · intro he; cases he; rw [put_st hd]
      · intro he; cases he
    · intro he; cases he
  | defr x xs =>
    simp only [AOp.opds, List.mem_cons] at h
    have hx := aval_st (σ := σ) (v := v) (h x (.inl rfl))
    simp only [aop, hx, avals_st (fun o ho => h o (.inr ho)), e2, e3, e5] at he ⊢
    revert he
    split
    · split
      · intro he; cases he
      · rename_i f fa fc vs _ _ _
        intro he
        cases he
        exact congrArg some (put_st (σ := { σ with defers := (.fn f fa fc, vs) :: σ.defers }) hd .undef)
    · intro he; cases he
  | mkfn f a c =>
    simp only [AOp.opds, List.mem_append] at h
    simp only [aop, avals_st (fun o ho => h o (.inl ho)), avals_st (fun o ho => h o (.inr ho))] at he ⊢
    revert he
    split
    · intro he; cases he; rw [put_st hd]
    · intro he; cases he
  | mkmap =>
    simp only [aop, e1, e4] at he ⊢
    cases he
    rw [put_st hd]
  | store sz a x =>
    have ha := raw_st (σ := σ) (v := v) (h a (by simp [AOp.opds]))
    have hx := amem_st (σ := σ) (v := v) (h x (by simp [AOp.opds]))
    simp only [aop, ha, hx] at he ⊢
    revert he
    split
    · split
      · intro he; exact astore_st he
      · intro he; cases he
    · intro he; cases he
  | clr sz z x =>
    have hx := aval_st (σ := σ) (v := v) (h x (by simp [AOp.opds]))
    simp only [aop, hx] at he ⊢
    revert he
    split
    · split
      · split
        · rename_i hst
          intro he; cases he
          rw [astore_st hst]
          simp only [put_st hd]
        · intro he; cases he
      · intro he; cases he
    · intro he; cases he; rw [put_st hd]
    · intro he; cases he
  | upd kk m k x =>
    have h1 := aval_st (σ := σ) (v := v) (h m (by simp [AOp.opds]))
    have h2 := aval_st (σ := σ) (v := v) (h k (by simp [AOp.opds]))
    have h3 := amem_st (σ := σ) (v := v) (h x (by simp [AOp.opds]))
    simp only [aop, h1, h2, h3, e1, e4] at he ⊢
    revert he
    repeat' split
    all_goals intro he
    all_goals first | (cases he; done) | (cases he; rw [put_st hd])
  | pick c a b =>
    have h1 := aval_st (σ := σ) (v := v) (h c (by simp [AOp.opds]))
    have h2 := aval_st (σ := σ) (v := v) (h a (by simp [AOp.opds]))
    have h3 := aval_st (σ := σ) (v := v) (h b (by simp [AOp.opds]))
    simp only [aop, h1, withV] at he ⊢
    revert he
    split
    · rename_i q _
      have hq : aval (σ.st t v) (if q = true then a else b) = aval σ (if q = true then a else b) := by cases q <;> simp [h2, h3]
      rw [hq]
      split
      · intro he; cases he; rw [put_st hd]
      · intro he; cases he
    · intro he; cases he
  | append sz by_ inpl x y =>
    have h1 := aval_st (σ := σ) (v := v) (h x (by simp [AOp.opds]))
    have h2 := aval_st (σ := σ) (v := v) (h y (by simp [AOp.opds]))
    simp only [aop, h1, h2, e1, e4, elems_st, withS] at he ⊢
    revert he
    repeat' split
    all_goals intro he
    all_goals first | (cases he; done) | (cases he; rw [put_st hd])
  | load s x =>
    have h1 := raw_st (σ := σ) (v := v) (h x (by simp [AOp.opds]))
    simp only [aop, h1, aload_st, withV] at he ⊢
    revert he
    split
    · intro he; cases he; rw [put_st hd]
    · intro he; cases he
  | nilc k x =>
    have h1 := raw_st (σ := σ) (v := v) (h x (by simp [AOp.opds]))
    simp only [aop, h1, withV] at he ⊢
    revert he
    split
    · intro he; cases he; rw [put_st hd]
    · split
      · intro he; cases he; rw [put_st hd]
      · intro he; cases he
  | faddr off k x =>
    have h1 := raw_st (σ := σ) (v := v) (h x (by simp [AOp.opds]))
    simp only [aop, h1, withV] at he ⊢
    revert he
    split
    · intro he; cases he; rw [put_st hd]
    · intro he; cases he
  | iaddrA n sz k x i =>
    have h1 := raw_st (σ := σ) (v := v) (h x (by simp [AOp.opds]))
    have h2 := aval_st (σ := σ) (v := v) (h i (by simp [AOp.opds]))
    simp only [aop, h1, h2, withV] at he ⊢
    revert he
    repeat' split
    all_goals intro he
    all_goals first | (cases he; done) | (cases he; rw [put_st hd])
  | boxG x =>
    have h1 := amem_st (σ := σ) (v := v) (h x (by simp [AOp.opds]))
    simp only [aop, h1, e1, e4] at he ⊢
    revert he
    split
    · intro he; cases he; rw [put_st hd]
    · intro he; cases he
  | bin b x y | eqB b x y | eqA ks b x y | iaddr b x y | idx a b c x y | sidx x y | mks a b c x y | look a b c x y =>
    have h1 := aval_st (σ := σ) (v := v) (h x (by simp [AOp.opds]))
    have h2 := aval_st (σ := σ) (v := v) (h y (by simp [AOp.opds]))
    simp only [aop, h1, h2, e1, e4, withV] at he ⊢
    revert he
    repeat' split
    all_goals intro he
    all_goals first | (cases he; done) | (cases he; rw [put_st hd])
  | mv x | isnil b x | un b x | conv b x | len x | lenM x | ext x b =>
    have h1 := aval_st (σ := σ) (v := v) (h x (by simp [AOp.opds]))
    simp only [aop, h1, e1, withV] at he ⊢
    revert he
    repeat' split
    all_goals intro he
    all_goals first | (cases he; done) | (cases he; rw [put_st hd])
end
end Go.Proofs.YtkgmeeenacnhfaaGreat.Eng
namespace Go.Proofs.YtkgmeeenacnhfaaGreat.Eng
open Go
section
variable {σ : AS} {t : Nat} {v : PV}
theorem astore_st_none {p : PV} {vs : List PV} (h : astore σ p vs = none) : astore (σ.st t v) p vs = none := by
  have e1 : (σ.st t v).S = σ.S := rfl
  have e2 : (σ.st t v).loc = σ.loc := rfl
  cases p <;> simp only [astore, e1, e2] at h ⊢
  all_goals
    revert h
    repeat' split
    all_goals first | (intro _; rfl) | (intro h; cases h; done)
/-- .. nor does it go otherwise where it does not go. -/
theorem aop_st_none {T : Tbl} {ex : Ex} {d : Option Nat} {op : AOp} (h : ∀ o ∈ op.opds, o.is t = false) (hb : ∀ ks x, op ≠ .boxL ks x) (he : aop T ex d σ op = none) : aop T ex d (σ.st t v) op = none := by
  have e1 : (σ.st t v).S = σ.S := rfl
  have e2 : (σ.st t v).rnd = σ.rnd := rfl
  have e3 : (σ.st t v).defers = σ.defers := rfl
  have e4 : ∀ S, ({ (σ.st t v) with S := S } : AS) = ({ σ with S := S } : AS).st t v := fun S => rfl
  have e5 : ∀ D, ({ (σ.st t v) with defers := D } : AS) = ({ σ with defers := D } : AS).st t v := fun S => rfl
  cases op with
  | boxL ks x => exact absurd rfl (hb ks x)
  | build z ps =>
    simp only [AOp.opds] at h
    simp only [aop, fillP_st h] at he ⊢
    revert he
    repeat' split
    all_goals first | (intro _; rfl) | (intro he; cases he; done)
  | mkslice a b z ps =>
    simp only [AOp.opds] at h
    simp only [aop, fillS_st h] at he ⊢
    revert he
    repeat' split
    all_goals first | (intro _; rfl) | (intro he; cases he; done)
  | slice sz x a b c =>
    simp only [AOp.opds, List.mem_cons] at h
    have hx := aval_st (σ := σ) (v := v) (h x (.inl rfl))
    simp only [aop, hx, aslice_st (fun o ho => h o (.inr ho)), withV] at he ⊢
    revert he
    repeat' split
    all_goals first | (intro _; rfl) | (intro he; cases he; done)
  | mx xs =>
    simp only [AOp.opds] at h
    simp only [aop, avals_st h, withV] at he ⊢
    revert he
    repeat' split
    all_goals first | (intro _; rfl) | (intro he; cases he; done)
  | call f xs =>
    simp only [AOp.opds] at h
    simp only [aop, avals_st h, callF_st, withS, e4] at he ⊢
    revert he
    repeat' split
    all_goals first | (intro _; rfl) | (intro he; cases he; done)
  | callv x xs =>
    simp only [AOp.opds, List.mem_cons] at h
    have hx := aval_st (σ := σ) (v := v) (h x (.inl rfl))
    simp only [aop, hx, avals_st (fun o ho => h o (.inr ho)), callV_st, withS, e4] at he ⊢
    revert he
    repeat' split
    all_goals first | (intro _; rfl) | (intro he; cases he; done)
  | defr x xs =>
    simp only [AOp.opds, List.mem_cons] at h
    have hx := aval_st (σ := σ) (v := v) (h x (.inl rfl))
    simp only [aop, hx, avals_st (fun o ho => h o (.inr ho)), e2, e3, e5] at he ⊢
    revert he
    repeat' split
    all_goals first | (intro _; rfl) | (intro he; cases he; done)
  | mkfn f a c =>
    simp only [AOp.opds, List.mem_append] at h
    simp only [aop, avals_st (fun o ho => h o (.inl ho)), avals_st (fun o ho => h o (.inr ho))] at he ⊢
    revert he
    repeat' split
    all_goals first | (intro _; rfl) | (intro he; cases he; done)
  | mkmap =>
    simp [aop] at he
  | store sz a x =>
    have ha := raw_st (σ := σ) (v := v) (h a (by simp [AOp.opds]))
    have hx := amem_st (σ := σ) (v := v) (h x (by simp [AOp.opds]))
    simp only [aop, ha, hx] at he ⊢
    revert he
    split
    · split
      · intro he; exact astore_st_none he
      · intro _; rfl
    · intro _; rfl
  | clr sz z x =>
    have hx := aval_st (σ := σ) (v := v) (h x (by simp [AOp.opds]))
    simp only [aop, hx] at he ⊢
    revert he
    split
    · split
      · split
        · intro he; cases he
        · rename_i hst
          intro _
          rw [astore_st_none hst]
      · intro _; rfl
    · intro he; cases he
    · intro _; rfl
  | upd kk m k x =>
    have h1 := aval_st (σ := σ) (v := v) (h m (by simp [AOp.opds]))
    have h2 := aval_st (σ := σ) (v := v) (h k (by simp [AOp.opds]))
    have h3 := amem_st (σ := σ) (v := v) (h x (by simp [AOp.opds]))
    simp only [aop, h1, h2, h3, e1, e4] at he ⊢
    revert he
    repeat' split
    all_goals first | (intro _; rfl) | (intro he; cases he; done)
  | pick c a b =>
    have h1 := aval_st (σ := σ) (v := v) (h c (by simp [AOp.opds]))
    have h2 := aval_st (σ := σ) (v := v) (h a (by simp [AOp.opds]))
    have h3 := aval_st (σ := σ) (v := v) (h b (by simp [AOp.opds]))
    simp only [aop, h1, withV] at he ⊢
    revert he
    split
    · rename_i q _
      have hq : aval (σ.st t v) (if q = true then a else b) = aval σ (if q = true then a else b) := by cases q <;> simp [h2, h3]
      rw [hq]
      split
      · intro he; cases he
      · intro _; rfl
    · intro _; rfl
  | append sz by_ inpl x y =>
    have h1 := aval_st (σ := σ) (v := v) (h x (by simp [AOp.opds]))
    have h2 := aval_st (σ := σ) (v := v) (h y (by simp [AOp.opds]))
    simp only [aop, h1, h2, e1, e4, elems_st, withS] at he ⊢
    revert he
    repeat' split
    all_goals first | (intro _; rfl) | (intro he; cases he; done)
  | load s x =>
    have h1 := raw_st (σ := σ) (v := v) (h x (by simp [AOp.opds]))
    simp only [aop, h1, aload_st, withV] at he ⊢
    revert he
    repeat' split
    all_goals first | (intro _; rfl) | (intro he; cases he; done)
  | nilc k x =>
    have h1 := raw_st (σ := σ) (v := v) (h x (by simp [AOp.opds]))
    simp only [aop, h1, withV] at he ⊢
    revert he
    repeat' split
    all_goals first | (intro _; rfl) | (intro he; cases he; done)
  | faddr off k x =>
    have h1 := raw_st (σ := σ) (v := v) (h x (by simp [AOp.opds]))
    simp only [aop, h1, withV] at he ⊢
    revert he
    repeat' split
    all_goals first | (intro _; rfl) | (intro he; cases he; done)
  | iaddrA n sz k x i =>
    have h1 := raw_st (σ := σ) (v := v) (h x (by simp [AOp.opds]))
    have h2 := aval_st (σ := σ) (v := v) (h i (by simp [AOp.opds]))
    simp only [aop, h1, h2, withV] at he ⊢
    revert he
    repeat' split
    all_goals first | (intro _; rfl) | (intro he; cases he; done)
  | boxG x =>
    have h1 := amem_st (σ := σ) (v := v) (h x (by simp [AOp.opds]))
    simp only [aop, h1, e1, e4] at he ⊢
    revert he
    repeat' split
    all_goals first | (intro _; rfl) | (intro he; cases he; done)
  | bin b x y | eqB b x y | eqA ks b x y | iaddr b x y | idx a b c x y | sidx x y | mks a b c x y | look a b c x y =>
    have h1 := aval_st (σ := σ) (v := v) (h x (by simp [AOp.opds]))
    have h2 := aval_st (σ := σ) (v := v) (h y (by simp [AOp.opds]))
    simp only [aop, h1, h2, e1, e4, withV] at he ⊢
    revert he
    repeat' split
    all_goals first | (intro _; rfl) | (intro he; cases he; done)
  | mv x | isnil b x | un b x | conv b x | len x | lenM x | ext x b =>
    have h1 := aval_st (σ := σ) (v := v) (h x (by simp [AOp.opds]))
    simp only [aop, h1, e1, withV] at he ⊢
    revert he
    repeat' split
    all_goals first | (intro _; rfl) | (intro he; cases he; done)
theorem aop_st_eq {T : Tbl} {ex : Ex} {d : Option Nat} {op : AOp} (h : ∀ o ∈ op.opds, o.is t = false) (hd : d ≠ some t) (hb : ∀ ks x, op ≠ .boxL ks x) : aop T ex d (σ.st t v) op = (aop T ex d σ op).map (·.st t v) := by
  cases he : aop T ex d σ op with
  | none => exact aop_st_none h hb he
  | some σ' => exact aop_st h hd hb he
end
end Go.Proofs.YtkgmeeenacnhfaaGreat.Eng
namespace Go.Proofs.YtkgmeeenacnhfaaGreat.Eng
open Go
section
variable {T : Tbl} {ex : Ex} {how : FuncId → How} {d : Option Nat} {op : AOp} {σ σ' τ : AS}

theorem aval_same {o : Opd} (h : raw τ o = raw σ o) : aval τ o = aval σ o := by simp only [aval, h]
theorem amem_same {o : Opd} (h : raw τ o = raw σ o) : amem τ o = amem σ o := by simp only [amem, aval_same h]
theorem avals_same : ∀ {os : List Opd}, (∀ o ∈ os, raw τ o = raw σ o) → avals τ os = avals σ os
  | [], _ => rfl
  | o :: os, h => by
    have h1 := aval_same (h o List.mem_cons_self)
    have h2 := avals_same (os := os) (fun x hx => h x (List.mem_cons_of_mem o hx))
    simp only [avals, h1, h2]
theorem fillP_same : ∀ {ps : List (Nat × Nat × Opd)} {cs : List PV}, (∀ o ∈ ps.map (fun (_, _, x) => x), raw τ o = raw σ o) → fillP τ cs ps = fillP σ cs ps
  | [], _, _ => rfl
  | (off, sz, x) :: r, cs, h => by
    have h1 := amem_same (h x (by simp))
    have h2 := fun cs => fillP_same (ps := r) (cs := cs) (fun o ho => h o (by simp only [List.map_cons, List.mem_cons]; exact .inr ho))
    simp only [fillP, h1, h2]
theorem fillS_same {sz : Nat} : ∀ {ps : List (Nat × Opd)} {cs : List PV}, (∀ o ∈ ps.map (fun (_, x) => x), raw τ o = raw σ o) → fillS τ sz cs ps = fillS σ sz cs ps
  | [], _, _ => rfl
  | (i, x) :: r, cs, h => by
    have h1 := amem_same (h x (by simp))
    have h2 := fun cs => fillS_same (sz := sz) (ps := r) (cs := cs) (fun o ho => h o (by simp only [List.map_cons, List.mem_cons]; exact .inr ho))
    simp only [fillS, h1, h2]
/-- What a pure operation comes to: a value, by its operands alone. -/
theorem pure_form (hp : clsOf how op = .pure) (he : aop T ex d σ op = some σ') : ∃ v, σ' = σ.put d v ∧ ∀ τ : AS, (∀ x ∈ op.opds, raw τ x = raw σ x) → aop T ex d τ op = some (τ.put d v) := by
  cases op with
  | build z ps =>
    simp only [aop] at he
    split at he
    · rename_i cs hcs
      cases he
      refine ⟨_, rfl, fun τ h => ?_⟩
      simp only [AOp.opds] at h
      simp only [aop, fillP_same h, hcs]
    · cases he
  | mkslice a b z ps =>
    simp only [aop] at he
    split at he
    · rename_i cs hcs
      cases he
      refine ⟨_, rfl, fun τ h => ?_⟩
      simp only [AOp.opds] at h
      simp only [aop, fillS_same h, hcs]
    · cases he
  | mkfn f a c =>
    simp only [aop] at he
    split at he
    · rename_i u w hu hw
      cases he
      refine ⟨_, rfl, fun τ h => ?_⟩
      simp only [AOp.opds, List.mem_append] at h
      simp only [aop, avals_same (fun o ho => h o (.inl ho)), avals_same (fun o ho => h o (.inr ho)), hu, hw]
    · cases he
  | mx xs =>
    simp only [aop] at he
    split at he
    · rename_i u w hu
      simp only [withV] at he
      split at he
      · rename_i q hq
        cases he
        refine ⟨_, rfl, fun τ h => ?_⟩
        simp only [AOp.opds] at h
        simp only [aop, avals_same h, hu, withV, hq]
      · cases he
    · cases he
  | pick c a b =>
    simp only [aop] at he
    split at he
    · rename_i q hq
      simp only [withV] at he
      split at he
      · rename_i u hu
        cases he
        refine ⟨_, rfl, fun τ h => ?_⟩
        have h1 := aval_same (h c (by simp [AOp.opds]))
        have h2 := aval_same (h a (by simp [AOp.opds]))
        have h3 := aval_same (h b (by simp [AOp.opds]))
        have h4 : aval τ (if q = true then a else b) = some u := by cases q <;> simp_all
        simp only [aop, h1, hq, withV, h4]
      · cases he
    · cases he
  | faddr off k x =>
    simp only [aop, withV] at he
    split at he
    · rename_i u hu
      cases he
      refine ⟨_, rfl, fun τ h => ?_⟩
      have h1 := h x (by simp [AOp.opds])
      simp only [aop, h1, withV, hu]
    · cases he
  | iaddrA n sz k x i =>
    simp only [aop] at he
    split at he
    · rename_i kk j hj
      split at he
      · rename_i hc
        simp only [withV] at he
        split at he
        · rename_i u hu
          cases he
          refine ⟨_, rfl, fun τ h => ?_⟩
          have h1 := h x (by simp [AOp.opds])
          have h2 := aval_same (h i (by simp [AOp.opds]))
          simp only [aop, h1, h2, hj, if_pos hc, withV, hu]
        · cases he
      · cases he
    · cases he
  | nilc k x =>
    simp only [aop] at he
    have key : ∀ τ : AS, (∀ y ∈ (AOp.nilc k x).opds, raw τ y = raw σ y) → raw τ x = raw σ x := fun τ h => h x (by simp [AOp.opds])
    split at he
    · rename_i f a c hx
      cases he
      refine ⟨_, rfl, fun τ h => ?_⟩
      simp only [aop, key τ h, hx]
    · rename_i hne
      simp only [withV] at he
      split at he
      · rename_i u hu
        cases he
        refine ⟨_, rfl, fun τ h => ?_⟩
        simp only [aop, key τ h]
        simp only [withV, hu]
      · cases he
  | bin b x y | eqB b x y | eqA ks b x y | iaddr b x y | idx a b c x y | sidx x y =>
    have key : ∀ τ : AS, (∀ z ∈ [x, y], raw τ z = raw σ z) → aval τ x = aval σ x ∧ aval τ y = aval σ y := fun τ h => ⟨aval_same (h x (by simp)), aval_same (h y (by simp))⟩
    simp only [aop, withV] at he
    revert he
    repeat' split
    all_goals intro he
    all_goals first
      | (cases he; done)
      | (cases he
         refine ⟨_, rfl, fun τ h => ?_⟩
         obtain ⟨h1, h2⟩ := key τ h
         simp_all [aop, withV])
  | mv x | isnil b x | un b x | conv b x | len x | ext x b =>
    have key : ∀ τ : AS, (∀ z ∈ [x], raw τ z = raw σ z) → aval τ x = aval σ x := fun τ h => aval_same (h x (by simp))
    simp only [aop, withV] at he
    revert he
    repeat' split
    all_goals intro he
    all_goals first
      | (cases he; done)
      | (cases he
         refine ⟨_, rfl, fun τ h => ?_⟩
         have h1 := key τ h
         simp_all [aop, withV])
  | _ => simp [clsOf] at hp
theorem load_form (hp : clsOf how op = .load) (he : aop T ex d σ op = some σ') : ∃ v, σ' = σ.put d v := by
  cases op with
  | load s x =>
    simp only [aop, withV] at he
    split at he
    · cases he; exact ⟨_, rfl⟩
    · cases he
  | look a b c x y =>
    simp only [aop] at he
    revert he
    repeat' split
    all_goals intro he
    all_goals first | (cases he; done) | (cases he; exact ⟨_, rfl⟩)
  | lenM x =>
    simp only [aop] at he
    revert he
    repeat' split
    all_goals intro he
    all_goals first | (cases he; done) | (cases he; exact ⟨_, rfl⟩)
  | slice a b c e f =>
    simp only [aop, withV] at he
    revert he
    repeat' split
    all_goals intro he
    all_goals first | (cases he; done) | (cases he; exact ⟨_, rfl⟩)
  | _ => simp [clsOf] at hp
mutual
theorem same_eq : ∀ {p q : PV}, PV.same p q = true → p = q := by
  intro p q h
  match p, q, h with
  | .int k n, .int k' n', h => simp [PV.same] at h; rw [h.1, h.2]
  | .bool b, .bool b', h => simp [PV.same] at h; rw [h]
  | .str s, .str s', h => simp [PV.same] at h; rw [h]
  | .undef, .undef, _ => rfl
  | .list st xs, .list st' xs', h =>
    simp only [PV.same, Bool.and_eq_true, decide_eq_true_eq] at h
    rw [h.1, sames_eq h.2]
  | .nils, .nils, _ => rfl
  | .emp, .emp, _ => rfl
  | .agg cs, .agg cs', h => simp only [PV.same] at h; rw [sames_eq h]
  | .tup cs, .tup cs', h => simp only [PV.same] at h; rw [sames_eq h]
  | .nilp, .nilp, _ => rfl
  | .ptr b o, .ptr b' o', h => simp [PV.same] at h; rw [h.1, h.2]
  | .lptr b o, .lptr b' o', h => simp [PV.same] at h; rw [h.1, h.2]
  | .vptr cs o, .vptr cs' o', h =>
    simp only [PV.same, Bool.and_eq_true, decide_eq_true_eq] at h
    rw [h.1, sames_eq h.2]
  | .arr b o l z, .arr b' o' l' z', h => simp [PV.same] at h; rw [h.1.1.1, h.1.1.2, h.1.2, h.2]
  | .fn f a c, .fn f' a' c', h =>
    simp only [PV.same, Bool.and_eq_true, decide_eq_true_eq] at h
    rw [h.1.1, sames_eq h.1.2, sames_eq h.2]
  | .yld l, .yld l', h => simp [PV.same] at h; rw [h]
  | .nilf, .nilf, _ => rfl
  | .map m, .map m', h => simp [PV.same] at h; rw [h]
  | .nilm, .nilm, _ => rfl
  | .junk, .junk, _ => rfl
theorem sames_eq : ∀ {ps qs : List PV}, PV.sames ps qs = true → ps = qs := by
  intro ps qs h
  match ps, qs, h with
  | [], [], _ => rfl
  | x :: xs, y :: ys, h =>
    simp only [PV.sames, Bool.and_eq_true] at h
    rw [same_eq h.1, sames_eq h.2]
end
end
end Go.Proofs.YtkgmeeenacnhfaaGreat.Eng
namespace Go.Proofs.YtkgmeeenacnhfaaGreat.Eng
open Go
section
variable {T : Tbl} {ex : Ex} {how : FuncId → How} {σ σ' τ : AS}

/-- One operation of a region, without what is looked at again behind it. -/
def step1 (T : Tbl) (ex : Ex) (r : AR) (σ : AS) : Option AS := if badG σ r.guard then none else if wants σ r.guard then aop T ex r.dst σ r.op else some (σ.put r.dst .undef)
def chkAll (r : AR) (σ σ' : AS) : Bool := !wants σ r.guard || r.chk.all (chkAt r σ')
theorem arun_cons (r : AR) (q : List AR) : arun T ex (r :: q) σ = (match step1 T ex r σ with
    | some σ1 => if chkAll r σ σ1 then arun T ex q σ1 else none
    | none => none) := by
  simp only [arun, step1, chkAll]
  by_cases hb : badG σ r.guard = true
  · rw [if_pos hb, if_pos hb]
  · rw [if_neg hb, if_neg hb]
    by_cases hw : wants σ r.guard = true
    · rw [if_pos hw, if_pos hw]
      cases aop T ex r.dst σ r.op <;> simp [hw]
    · rw [if_neg hw, if_neg hw]
      simp [hw]
theorem mem_looks_op {r : AR} {o : Opd} (h : o ∈ r.op.opds) {t : Nat} (ht : r.looks.contains t = false) : o.is t = false := by
  cases o with
  | c x => rfl
  | t n =>
    simp only [Opd.is, decide_eq_false_iff_not]
    rintro rfl
    have : n ∈ r.looks := List.mem_append_left _ (List.mem_filterMap.2 ⟨.t n, h, rfl⟩)
    have h2 : r.looks.contains n = true := by simpa using this
    rw [ht] at h2
    cases h2
theorem wants_st {t : Nat} {v : PV} {r : AR} (h : r.looks.contains t = false) : wants (σ.st t v) r.guard = wants σ r.guard ∧ badG (σ.st t v) r.guard = badG σ r.guard := by
  cases hg : r.guard with
  | none => exact ⟨rfl, rfl⟩
  | some g =>
    obtain ⟨n, b⟩ := g
    have hn : n ≠ t := by
      rintro rfl
      have : n ∈ r.looks := List.mem_append_right _ (by simp [hg])
      have h2 : r.looks.contains n = true := by simpa using this
      rw [h] at h2
      cases h2
    have : tget (σ.st t v).tmps n = tget σ.tmps n := tget_tset_ne _ _ _ _ hn
    simp only [wants, badG, this]
    exact ⟨trivial, trivial⟩
/-- A temporary at which an operation does not look, and which it does not set. -/
theorem step1_st {r : AR} {t : Nat} {v : PV} (hl : r.looks.contains t = false) (hd : r.dst ≠ some t) (hb : ∀ ks x, r.op ≠ .boxL ks x) (he : step1 T ex r σ = some σ') : step1 T ex r (σ.st t v) = some (σ'.st t v) := by
  obtain ⟨h1, h2⟩ := wants_st (σ := σ) (v := v) hl
  simp only [step1, h1, h2] at he ⊢
  revert he
  split
  · intro he; cases he
  · split
    · intro he; exact aop_st (fun o ho => mem_looks_op ho hl) hd hb he
    · intro he; cases he; rw [put_st hd]
end
end Go.Proofs.YtkgmeeenacnhfaaGreat.Eng
namespace Go.Proofs.YtkgmeeenacnhfaaGreat.Eng
open Go
section
variable {T : Tbl} {ex : Ex} {how : FuncId → How} {σ σ1 σ2 σ' τ : AS} {p i : AR}

theorem put_put {d e : Option Nat} (h : ∀ x, d = some x → e ≠ some x) (u v : PV) : (σ.put d u).put e v = (σ.put e v).put d u := by
  cases d with
  | none => rfl
  | some x =>
    rw [put_some, put_some]
    exact put_st (h x rfl) v
/-- What a step that is no effect leaves: a temporary, by what it looks at. -/
theorem pure_step (hp : clsOf how p.op = .pure) (he : step1 T ex p σ = some σ1) : ∃ v, σ1 = σ.put p.dst v ∧ ∀ τ : AS, (∀ t ∈ p.looks, tget τ.tmps t = tget σ.tmps t) → step1 T ex p τ = some (τ.put p.dst v) := by
  have hg : ∀ τ : AS, (∀ t ∈ p.looks, tget τ.tmps t = tget σ.tmps t) → badG τ p.guard = badG σ p.guard ∧ wants τ p.guard = wants σ p.guard := by
    intro τ h
    cases hg : p.guard with
    | none => exact ⟨rfl, rfl⟩
    | some g =>
      obtain ⟨n, b⟩ := g
      have := h n (List.mem_append_right _ (by simp [hg]))
      simp only [badG, wants, this]
      exact ⟨trivial, trivial⟩
  have ho : ∀ τ : AS, (∀ t ∈ p.looks, tget τ.tmps t = tget σ.tmps t) → ∀ x ∈ p.op.opds, raw τ x = raw σ x := by
    intro τ h x hx
    cases x with
    | c v => rfl
    | t n => exact h n (List.mem_append_left _ (List.mem_filterMap.2 ⟨.t n, hx, rfl⟩))
  unfold step1 at he
  split at he
  · cases he
  · rename_i hb
    split at he
    · rename_i hw
      obtain ⟨v, h1, h2⟩ := pure_form hp he
      refine ⟨v, h1, fun τ h => ?_⟩
      obtain ⟨g1, g2⟩ := hg τ h
      unfold step1
      rw [g1, g2, if_neg hb, if_pos hw]
      exact h2 τ (ho τ h)
    · rename_i hw
      cases he
      refine ⟨.undef, rfl, fun τ h => ?_⟩
      obtain ⟨g1, g2⟩ := hg τ h
      unfold step1
      rw [g1, g2, if_neg hb, if_neg hw]
end
end Go.Proofs.YtkgmeeenacnhfaaGreat.Eng
namespace Go.Proofs.YtkgmeeenacnhfaaGreat.Eng
open Go
section
variable {T : Tbl} {ex : Ex} {how : FuncId → How} {σ σ1 σ2 σ' τ : AS} {p i : AR} {d : Option Nat} {op : AOp}
theorem put_tget {t : Nat} (h : d ≠ some t) (u : PV) : tget (σ.put d u).tmps t = tget σ.tmps t := by
  cases d with
  | none => rfl
  | some x => exact tget_tset_ne _ _ _ _ (fun e => h (by rw [e]))
theorem astore_tmps {p : PV} {vs : List PV} (h : astore σ p vs = some σ') : σ'.tmps = σ.tmps := by
  cases p <;> simp only [astore] at h
  all_goals repeat' (split at h)
  all_goals first | (cases h; rfl) | cases h
theorem aop_tmps (hb : ∀ ks x, op ≠ .boxL ks x) (h : aop T ex d σ op = some σ') {t : Nat} (ht : d ≠ some t) : tget σ'.tmps t = tget σ.tmps t := by
  cases op <;> simp only [aop, withV, withS] at h
  all_goals first | exact absurd rfl (hb _ _) | skip
  all_goals repeat' (split at h)
  all_goals first
    | (rw [astore_tmps h]; done)
    | (cases h; done)
    | (cases h; rfl)
    | (cases h; exact put_tget ht _)
    | (rename_i hst; cases h; rw [put_tget ht, astore_tmps hst])
theorem kill_tset {t : Nat} {v : PV} : ∀ {ks : List Nat} {l : List PV}, ks.contains t = false → kill (tset l t v) ks = tset (kill l ks) t v
  | [], _, _ => rfl
  | k :: ks, l, h => by
    simp only [List.contains_cons, Bool.or_eq_false_iff, beq_eq_false_iff_ne, ne_eq] at h
    simp only [kill]
    rw [tset_comm l t k _ _ h.1, kill_tset h.2]
theorem kill_tget {t : Nat} : ∀ {ks : List Nat} {l : List PV}, ks.contains t = false → tget (kill l ks) t = tget l t
  | [], _, _ => rfl
  | k :: ks, l, h => by
    simp only [List.contains_cons, Bool.or_eq_false_iff, beq_eq_false_iff_ne, ne_eq] at h
    simp only [kill]
    rw [kill_tget h.2, tget_tset_ne _ _ _ _ h.1]
/-- A variable of the activation's own, new. -/
def AS.box (σ : AS) (s : Nat) (ks : List Nat) (cs : List PV) : AS := { σ with loc := tset σ.loc s (.agg cs), tmps := tset (kill σ.tmps ks) s (.lptr s 0) }
theorem aop_box {ks : List Nat} {x : Opd} : aop T ex d σ (.boxL ks x) = (match d, amem σ x with
    | some s, some v => some (σ.box s ks v.cells)
    | _, _ => none) := rfl
theorem box_st {s t : Nat} {ks : List Nat} {cs : List PV} {v : PV} (h1 : s ≠ t) (h2 : ks.contains t = false) : (σ.st t v).box s ks cs = (σ.box s ks cs).st t v := by
  simp only [AS.box, AS.st, kill_tset h2]
  rw [tset_comm _ _ _ _ _ (Ne.symm h1)]
theorem box_put {s : Nat} {ks : List Nat} {cs : List PV} {v : PV} (h1 : d ≠ some s) (h2 : ∀ t, d = some t → ks.contains t = false) : (σ.put d v).box s ks cs = (σ.box s ks cs).put d v := by
  cases d with
  | none => rfl
  | some t => exact box_st (fun e => h1 (by rw [e])) (h2 t rfl)
theorem box_tget {s t : Nat} {ks : List Nat} {cs : List PV} (h1 : s ≠ t) (h2 : ks.contains t = false) : tget (σ.box s ks cs).tmps t = tget σ.tmps t := by
  simp only [AS.box]
  rw [tget_tset_ne _ _ _ _ (Ne.symm h1), kill_tget h2]
theorem step1_tmps {r : AR} (h : step1 T ex r σ = some σ') {t : Nat} (ht : r.dst ≠ some t) (hk : (killsOf r).contains t = false) : tget σ'.tmps t = tget σ.tmps t := by
  unfold step1 at h
  split at h
  · cases h
  · split at h
    · by_cases hb : ∃ ks x, r.op = .boxL ks x
      · obtain ⟨ks, x, hop⟩ := hb
        have hk' : ks.contains t = false := by simpa only [killsOf, hop] using hk
        rw [hop, aop_box] at h
        split at h
        · rename_i s v hs _
          cases h
          exact box_tget (fun e => ht (by rw [hs, e])) hk'
        · cases h
      · exact aop_tmps (fun ks x e => hb ⟨ks, x, e⟩) h ht
    · cases h; exact put_tget ht _
theorem step1_st_eq {r : AR} {t : Nat} {v : PV} (hl : r.looks.contains t = false) (hd : r.dst ≠ some t) (hk : (killsOf r).contains t = false) : step1 T ex r (σ.st t v) = (step1 T ex r σ).map (·.st t v) := by
  obtain ⟨h1, h2⟩ := wants_st (σ := σ) (v := v) hl
  simp only [step1, h1, h2]
  split
  · rfl
  · split
    · by_cases hb : ∃ ks x, r.op = .boxL ks x
      · obtain ⟨ks, x, hop⟩ := hb
        have hk' : ks.contains t = false := by simpa only [killsOf, hop] using hk
        have ho : x.is t = false := mem_looks_op (r := r) (by rw [hop]; simp [AOp.opds]) hl
        rw [hop, aop_box, aop_box, amem_st ho]
        split
        · rename_i s v hs _
          simp only [Option.map_some]
          rw [box_st (fun e => hd (by rw [hs, e])) hk']
        · rfl
      · exact aop_st_eq (fun o ho => mem_looks_op ho hl) hd (fun ks x e => hb ⟨ks, x, e⟩)
    · simp only [Option.map_some, put_st hd]
theorem ssaR_spec (h : ssaR p i = true) {t : Nat} (ht : i.dst = some t) : p.looks.contains t = false ∧ p.dst ≠ some t := by
  simp only [ssaR, ht, Bool.and_eq_true, Bool.not_eq_true', beq_eq_false_iff_ne, ne_eq] at h
  exact h
theorem apart_looks (h : killsApart (killsOf p) i = true) {t : Nat} (ht : t ∈ i.looks) : (killsOf p).contains t = false := by
  cases hc : (killsOf p).contains t with
  | false => rfl
  | true =>
    have := List.all_eq_true.1 h t (by simpa using hc)
    simp only [Bool.and_eq_true, Bool.not_eq_true'] at this
    have h2 : i.looks.contains t = true := by simpa using ht
    rw [this.1] at h2
    cases h2
theorem apart_dst (h : killsApart (killsOf p) i = true) {t : Nat} (ht : i.dst = some t) : (killsOf p).contains t = false := by
  cases hc : (killsOf p).contains t with
  | false => rfl
  | true =>
    have := List.all_eq_true.1 h t (by simpa using hc)
    simp [ht] at this
theorem swap_pure (hp : clsOf how p.op = .pure) (ha : apartR p i = true) (hk : killsApart (killsOf i) p = true) (h1 : step1 T ex p σ = some σ1) (h2 : step1 T ex i σ1 = some σ2) : ∃ σi, step1 T ex i σ = some σi ∧ step1 T ex p σi = some σ2 := by
  simp only [apartR, Bool.and_eq_true] at ha
  obtain ⟨v, rfl, hv⟩ := pure_step hp h1
  have key : ∀ σi, step1 T ex i σ = some σi → step1 T ex p σi = some (σi.put p.dst v) := by
    intro σi hs
    refine hv σi (fun t ht => step1_tmps hs (fun e => ?_) (apart_looks hk ht))
    have := (ssaR_spec ha.1 e).1
    have h2 : p.looks.contains t = true := by simpa using ht
    rw [this] at h2
    cases h2
  cases hd : p.dst with
  | none =>
    rw [hd] at h2
    refine ⟨σ2, h2, ?_⟩
    have := key σ2 h2
    rw [hd] at this
    exact this
  | some t =>
    rw [hd, put_some] at h2
    obtain ⟨g1, g2⟩ := ssaR_spec ha.2 hd
    rw [step1_st_eq g1 g2 (apart_dst hk hd)] at h2
    cases hs : step1 T ex i σ with
    | none => rw [hs] at h2; cases h2
    | some σi =>
      rw [hs] at h2
      simp only [Option.map_some, Option.some.injEq] at h2
      refine ⟨σi, rfl, ?_⟩
      have := key σi hs
      rw [hd, put_some, h2] at this
      exact this
end
end Go.Proofs.YtkgmeeenacnhfaaGreat.Eng
namespace Go.Proofs.YtkgmeeenacnhfaaGreat.Eng
open Go
section
variable {T : Tbl} {ex : Ex} {how : FuncId → How} {σ σ1 σ2 σ' τ : AS} {p i : AR} {d : Option Nat} {op : AOp}
/-- The second is pure. -/
theorem swap_eff (hp : clsOf how i.op = .pure) (ha : apartR p i = true) (hk : killsApart (killsOf p) i = true) (h1 : step1 T ex p σ = some σ1) (h2 : step1 T ex i σ1 = some σ2) : ∃ σi, step1 T ex i σ = some σi ∧ step1 T ex p σi = some σ2 := by
  simp only [apartR, Bool.and_eq_true] at ha
  obtain ⟨v, rfl, hv⟩ := pure_step hp h2
  have hs := hv σ (fun t ht => (step1_tmps h1 (fun e => by
    have := (ssaR_spec ha.2 e).1
    have h2 : i.looks.contains t = true := by simpa using ht
    rw [this] at h2
    cases h2) (apart_looks hk ht)).symm)
  refine ⟨_, hs, ?_⟩
  cases hd : i.dst with
  | none => exact h1
  | some t =>
    obtain ⟨g1, g2⟩ := ssaR_spec ha.1 hd
    rw [put_some, step1_st_eq g1 g2 (apart_dst hk hd), h1]
    rfl
theorem noneff_step (hp : clsOf how p.op = .pure ∨ clsOf how p.op = .load) (h : step1 T ex p σ = some σ1) : ∃ v, σ1 = σ.put p.dst v := by
  unfold step1 at h
  split at h
  · cases h
  · split at h
    · rcases hp with hp | hp
      · obtain ⟨v, h1, _⟩ := pure_form hp h
        exact ⟨v, h1⟩
      · exact load_form hp h
    · cases h
      exact ⟨_, rfl⟩
theorem noneff_kills (hp : clsOf how p.op = .pure ∨ clsOf how p.op = .load) (t : Nat) : (killsOf p).contains t = false := by
  unfold killsOf
  split
  · rename_i ks x e
    rw [e] at hp
    simp [clsOf] at hp
  · rfl
/-- Neither is an effect. -/
theorem swap_noneff (hp : clsOf how p.op = .pure ∨ clsOf how p.op = .load) (hi : clsOf how i.op = .pure ∨ clsOf how i.op = .load) (ha : apartR p i = true) (h1 : step1 T ex p σ = some σ1) (h2 : step1 T ex i σ1 = some σ2) :
    ∃ σi, step1 T ex i σ = some σi ∧ step1 T ex p σi = some σ2 := by
  simp only [apartR, Bool.and_eq_true] at ha
  obtain ⟨v, rfl⟩ := noneff_step hp h1
  have hs : ∃ σi, step1 T ex i σ = some σi ∧ σ2 = σi.put p.dst v := by
    cases hd : p.dst with
    | none => rw [hd] at h2; exact ⟨σ2, h2, rfl⟩
    | some t =>
      rw [hd, put_some] at h2
      obtain ⟨g1, g2⟩ := ssaR_spec ha.2 hd
      rw [step1_st_eq g1 g2 (noneff_kills hi t)] at h2
      cases hs : step1 T ex i σ with
      | none => rw [hs] at h2; cases h2
      | some σi =>
        rw [hs] at h2
        simp only [Option.map_some, Option.some.injEq] at h2
        exact ⟨σi, rfl, h2.symm⟩
  obtain ⟨σi, hs, rfl⟩ := hs
  refine ⟨σi, hs, ?_⟩
  obtain ⟨u, rfl⟩ := noneff_step hi hs
  cases hd : i.dst with
  | none => exact h1
  | some t =>
    obtain ⟨g1, g2⟩ := ssaR_spec ha.1 hd
    rw [put_some, step1_st_eq g1 g2 (noneff_kills hp t), h1]
    simp only [Option.map_some]
    rw [← put_some t u, ← put_some t u]
    rw [put_put (d := p.dst) (e := some t)]
    intro x hx e
    cases e
    exact g2 hx
end
end Go.Proofs.YtkgmeeenacnhfaaGreat.Eng
namespace Go.Proofs.YtkgmeeenacnhfaaGreat.Eng
open Go
section
variable {T : Tbl} {ex : Ex} {how : FuncId → How} {σ σ1 σ2 σ' τ : AS} {p i : AR} {d : Option Nat} {op : AOp}
theorem swap_load {c : Chk} (hc : chkOf p = some c) (hown : ∀ t, p.dst = some t → p.looks.contains t = false) (ha : apartR p i = true) (hkk : killsApart (killsOf i) p = true) (h1 : step1 T ex p σ = some σ1) (h2 : step1 T ex i σ1 = some σ2) (hk : chkOk σ2 c = true) :
    ∃ σi, step1 T ex i σ = some σi ∧ step1 T ex p σi = some σ2 := by
  simp only [apartR, Bool.and_eq_true] at ha
  obtain ⟨s, a, t, hop, hd, rfl⟩ : ∃ s a t, p.op = .load s a ∧ p.dst = some t ∧ c = { sz := s, a := a, dst := t, guard := p.guard } := by
    unfold chkOf at hc
    split at hc
    · rename_i s a t h1 h2
      cases hc
      exact ⟨s, a, t, h1, h2, rfl⟩
    · cases hc
  obtain ⟨g1, g2⟩ := ssaR_spec ha.2 hd
  obtain ⟨v, rfl⟩ := noneff_step (how := fun _ => .shared) (.inr (by rw [hop]; rfl)) h1
  rw [hd, put_some] at h2
  rw [step1_st_eq g1 g2 (apart_dst hkk hd)] at h2
  cases hs : step1 T ex i σ with
  | none => rw [hs] at h2; cases h2
  | some σi =>
    rw [hs] at h2
    simp only [Option.map_some, Option.some.injEq] at h2
    subst h2
    refine ⟨σi, rfl, ?_⟩
    have hlook : ∀ n ∈ p.looks, tget σi.tmps n = tget σ.tmps n := by
      intro n hn
      refine step1_tmps hs (fun e => ?_) (apart_looks hkk hn)
      have := (ssaR_spec ha.1 e).1
      have h2 : p.looks.contains n = true := by simpa using hn
      rw [this] at h2
      cases h2
    have hg : badG σi p.guard = badG σ p.guard ∧ wants σi p.guard = wants σ p.guard := by
      cases hg : p.guard with
      | none => exact ⟨rfl, rfl⟩
      | some g =>
        obtain ⟨n, b⟩ := g
        have := hlook n (List.mem_append_right _ (by simp [hg]))
        simp only [badG, wants, this]
        exact ⟨trivial, trivial⟩
    have hws := wants_st (σ := σi) (v := v) (hown t hd)
    unfold step1 at h1 ⊢
    rw [hg.1, hg.2]
    split at h1
    · cases h1
    · rename_i hbad
      rw [if_neg hbad]
      split at h1
      · rename_i hw
        rw [if_pos hw]
        simp only [chkOk, hws.1, hg.2, hw, if_true] at hk
        have ho : a.is t = false := mem_looks_op (r := p) (by rw [hop]; simp [AOp.opds]) (hown t hd)
        rw [raw_st ho, aload_st] at hk
        split at hk
        · rename_i v' hv'
          have hvv := same_eq hk
          rw [show tget (σi.st t v).tmps t = v from tget_tset_same _ _ _] at hvv
          subst hvv
          simp only [hop, aop, hv', withV, hd, put_some]
        · cases hk
      · rename_i hw
        rw [if_neg hw]
        rw [hd] at h1
        have hv : v = .undef := by
          have := congrArg (fun o => match o with
            | some (τ : AS) => tget τ.tmps t
            | none => .undef) h1
          simp only [put_some, AS.st, tget_tset_same] at this
          exact this.symm
        rw [hd, put_some, hv]
end
end Go.Proofs.YtkgmeeenacnhfaaGreat.Eng
namespace Go.Proofs.YtkgmeeenacnhfaaGreat.Eng
open Go
section
variable {T : Tbl} {ex : Ex} {how : FuncId → How} {σ σ1 σ2 σ' τ : AS} {p i : AR} {d : Option Nat} {op : AOp}
theorem callV_eq {x : PV} {args : List PV} {σ τ : AS} (h : σ.S = τ.S) : callV T ex x args σ = callV T ex x args τ := by
  cases x <;> simp only [callV, callF_eq h, h]
/-- What an operation comes to that turns the store alone. -/
theorem storeOnly_form (hs : storeOnly op = true) (he : aop T ex d σ op = some σ') : ∃ u S', σ' = ({ σ with S := S' } : AS).put d u ∧ ∀ τ : AS, τ.S = σ.S → (∀ x ∈ op.opds, raw τ x = raw σ x) → aop T ex d τ op = some (({ τ with S := S' } : AS).put d u) := by
  cases op with
  | call f xs =>
    simp only [aop] at he
    split at he
    · rename_i vs hvs
      unfold withS at he
      split at he
      · rename_i v S' hcf
        cases he
        refine ⟨v, S', rfl, fun τ h1 h2 => ?_⟩
        simp only [AOp.opds] at h2
        simp only [aop, avals_same h2, hvs, callF_eq h1, hcf, withS]
      · cases he
    · cases he
  | callv x xs =>
    simp only [aop] at he
    split at he
    · rename_i v vs hv hvs
      unfold withS at he
      split at he
      · rename_i v S' hcf
        cases he
        refine ⟨v, S', rfl, fun τ h1 h2 => ?_⟩
        simp only [AOp.opds, List.mem_cons] at h2
        simp only [aop, aval_same (h2 x (.inl rfl)), avals_same (fun o ho => h2 o (.inr ho)), hv, hvs, callV_eq h1, hcf, withS]
      · cases he
    · cases he
  | append sz b inpl x y =>
    simp only [aop] at he
    split at he
    · rename_i st xs v hx hy
      split at he
      · rename_i ys hys
        unfold withS at he
        split at he
        · rename_i v S' hcf
          cases he
          refine ⟨v, S', rfl, fun τ h1 h2 => ?_⟩
          have e1 := aval_same (h2 x (by simp [AOp.opds]))
          have e2 := aval_same (h2 y (by simp [AOp.opds]))
          simp only [aop, e1, e2, hx, hy, elems_congr h1, hys, h1, hcf, withS]
        · cases he
      · cases he
    · rename_i b off n z v hx hy
      split at he
      · rename_i ys hys
        unfold withS at he
        split at he
        · rename_i v S' hcf
          cases he
          refine ⟨v, S', rfl, fun τ h1 h2 => ?_⟩
          have e1 := aval_same (h2 x (by simp [AOp.opds]))
          have e2 := aval_same (h2 y (by simp [AOp.opds]))
          simp only [aop, e1, e2, hx, hy, elems_congr h1, hys, h1, hcf, withS]
        · cases he
      · cases he
    · cases he
  | boxG x =>
    simp only [aop] at he
    split at he
    · rename_i v hv
      cases he
      refine ⟨_, _, rfl, fun τ h1 h2 => ?_⟩
      have e1 := amem_same (h2 x (by simp [AOp.opds]))
      simp only [aop, e1, hv, h1]
    · cases he
  | mkmap =>
    simp only [aop] at he
    cases he
    refine ⟨_, _, rfl, fun τ h1 h2 => ?_⟩
    simp only [aop, h1]
  | mks sz b z l c =>
    simp only [aop] at he
    split at he
    · rename_i n m hl hc
      split at he
      · rename_i hcond
        cases he
        refine ⟨_, _, rfl, fun τ h1 h2 => ?_⟩
        have e1 := aval_same (h2 l (by simp [AOp.opds]))
        have e2 := aval_same (h2 c (by simp [AOp.opds]))
        simp only [aop, e1, e2, hl, hc, if_pos hcond, h1]
      · cases he
    · cases he
  | _ => simp [storeOnly] at hs
/-- The same with its dst alone, for one that is not wanted. -/
def AR.un (r : AR) : AR := { dst := r.dst, op := .mv (.c .undef) }
theorem un_step (r : AR) (τ : AS) : step1 T ex r.un τ = some (τ.put r.dst .undef) := rfl
theorem un_looks (r : AR) : r.un.looks = [] := rfl
theorem un_kills (r : AR) : killsOf r.un = [] := rfl
theorem step_unwanted {r : AR} (h : step1 T ex r σ = some σ1) (hw : wants σ r.guard = false) : σ1 = σ.put r.dst .undef := by
  unfold step1 at h
  split at h
  · cases h
  · simp only [hw, Bool.false_eq_true, if_false] at h
    cases h; rfl
theorem guard_same {r : AR} (h : ∀ t ∈ r.looks, tget τ.tmps t = tget σ.tmps t) : badG τ r.guard = badG σ r.guard ∧ wants τ r.guard = wants σ r.guard := by
  cases hg : r.guard with
  | none => exact ⟨rfl, rfl⟩
  | some g =>
    obtain ⟨n, b⟩ := g
    have := h n (List.mem_append_right _ (by simp [hg]))
    simp only [badG, wants, this]
    exact ⟨trivial, trivial⟩
theorem step_bad {r : AR} (h : step1 T ex r σ = some σ1) : badG σ r.guard = false := by
  unfold step1 at h
  split at h
  · cases h
  · rename_i hb; simpa using hb
/-- p neither sets nor kills what i looks at. -/
theorem looks_kept (ha : ssaR i p = true) (hk : killsApart (killsOf p) i = true) (h : step1 T ex p σ = some σ1) {t : Nat} (ht : t ∈ i.looks) : tget σ1.tmps t = tget σ.tmps t := by
  refine step1_tmps h (fun e => ?_) (apart_looks hk ht)
  have := (ssaR_spec ha e).1
  have h2 : i.looks.contains t = true := by simpa using ht
  rw [this] at h2
  cases h2
/-- One makes a variable of the activation's own, the other turns the store alone. -/
theorem swap_box1 {ks : List Nat} {x : Opd} (hop : p.op = .boxL ks x) (hs : storeOnly i.op = true) (ha : apartR p i = true) (hk : killsApart ks i = true) (wp : wants σ p.guard = true) (wi : wants σ1 i.guard = true) (h1 : step1 T ex p σ = some σ1) (h2 : step1 T ex i σ1 = some σ2) :
    ∃ σi, step1 T ex i σ = some σi ∧ step1 T ex p σi = some σ2 := by
  have hk' : killsApart (killsOf p) i = true := by simpa only [killsOf, hop] using hk
  simp only [apartR, Bool.and_eq_true] at ha
  have hlk := fun t => looks_kept (t := t) ha.2 hk' h1
  have hg := guard_same hlk
  have b1 := step_bad h1
  have b2 := step_bad h2
  unfold step1 at h1 h2
  simp only [b1, b2, wp, wi, Bool.false_eq_true, if_false, if_true] at h1 h2
  obtain ⟨u, S', rfl, hu⟩ := storeOnly_form hs h2
  rw [hop, aop_box] at h1
  split at h1
  · rename_i s v hsd hv
    cases h1
    have hi := hu σ rfl (fun o ho => by
      cases o with
      | c x => rfl
      | t n => exact (hlk n (List.mem_append_left _ (List.mem_filterMap.2 ⟨.t n, ho, rfl⟩))).symm)
    refine ⟨({ σ with S := S' } : AS).put i.dst u, ?_, ?_⟩
    · unfold step1
      rw [← hg.1, ← hg.2]
      simp only [b2, wi, Bool.false_eq_true, if_false, if_true]
      exact hi
    · have hlp : ∀ t ∈ p.looks, tget (({ σ with S := S' } : AS).put i.dst u).tmps t = tget σ.tmps t := by
        intro t ht
        rw [put_tget]
        intro e
        have := (ssaR_spec ha.1 e).1
        have h2 : p.looks.contains t = true := by simpa using ht
        rw [this] at h2
        cases h2
      have hgp := guard_same hlp
      unfold step1
      rw [hgp.1, hgp.2]
      simp only [b1, wp, Bool.false_eq_true, if_false, if_true]
      have hx : raw (({ σ with S := S' } : AS).put i.dst u) x = raw σ x := by
        cases x with
        | c x => rfl
        | t n => exact hlp n (List.mem_append_left _ (List.mem_filterMap.2 ⟨.t n, by rw [hop]; simp [AOp.opds], rfl⟩))
      rw [hop, aop_box, amem_same hx, hv, hsd]
      simp only
      rw [box_put (fun e => (ssaR_spec ha.1 e).2 hsd) (fun t ht => by simpa only [killsOf, hop] using apart_dst hk' ht)]
      rfl
  · cases h1
theorem swap_box2 {ks : List Nat} {x : Opd} (hop : i.op = .boxL ks x) (hs : storeOnly p.op = true) (ha : apartR p i = true) (hk : killsApart ks p = true) (wp : wants σ p.guard = true) (wi : wants σ1 i.guard = true) (h1 : step1 T ex p σ = some σ1) (h2 : step1 T ex i σ1 = some σ2) :
    ∃ σi, step1 T ex i σ = some σi ∧ step1 T ex p σi = some σ2 := by
  have hk' : killsApart (killsOf i) p = true := by simpa only [killsOf, hop] using hk
  have hnk : killsApart (killsOf p) i = true := by
    unfold killsOf
    split
    · rename_i ks x e
      rw [e] at hs
      simp [storeOnly] at hs
    · rfl
  simp only [apartR, Bool.and_eq_true] at ha
  have hlk := fun t => looks_kept (t := t) ha.2 hnk h1
  have hg := guard_same hlk
  have b1 := step_bad h1
  have b2 := step_bad h2
  unfold step1 at h1 h2
  simp only [b1, b2, wp, wi, Bool.false_eq_true, if_false, if_true] at h1 h2
  obtain ⟨u, S', rfl, hu⟩ := storeOnly_form hs h1
  have hx : raw (({ σ with S := S' } : AS).put p.dst u) x = raw σ x := by
    cases x with
    | c x => rfl
    | t n => exact hlk n (List.mem_append_left _ (List.mem_filterMap.2 ⟨.t n, by rw [hop]; simp [AOp.opds], rfl⟩))
  rw [hop, aop_box, amem_same hx] at h2
  split at h2
  · rename_i s v hsd hv
    cases h2
    have hi : step1 T ex i σ = some (σ.box s ks v.cells) := by
      unfold step1
      rw [← hg.1, ← hg.2]
      simp only [b2, wi, Bool.false_eq_true, if_false, if_true]
      rw [hop, aop_box, hsd, hv]
    refine ⟨_, hi, ?_⟩
    have hlp := fun t => looks_kept (p := i) (i := p) (t := t) ha.1 hk' hi
    have hgp := guard_same hlp
    have := hu (σ.box s ks v.cells) rfl (fun o ho => by
      cases o with
      | c x => rfl
      | t n => exact hlp n (List.mem_append_left _ (List.mem_filterMap.2 ⟨.t n, ho, rfl⟩)))
    unfold step1
    rw [hgp.1, hgp.2]
    simp only [b1, wp, Bool.false_eq_true, if_false, if_true]
    rw [this, box_put (fun e => (ssaR_spec ha.2 e).2 hsd) (fun t ht => by simpa only [killsOf, hop] using apart_dst hk' ht)]
    rfl
  · cases h2
end
end Go.Proofs.YtkgmeeenacnhfaaGreat.Eng
namespace Go.Proofs.YtkgmeeenacnhfaaGreat.Eng
open Go
section
variable {T : Tbl} {ex : Ex} {how : FuncId → How} {σ σ1 σ2 σ' τ : AS} {p i : AR} {d : Option Nat} {op : AOp}
theorem kills_nil {r : AR} (h : ∀ ks x, r.op = .boxL ks x → False) : killsOf r = [] := by
  unfold killsOf
  split
  · rename_i ks x e; exact (h ks x e).elim
  · rfl
theorem pairOk_spec (h : pairOk how p i = true) : (((∀ ks x, i.op ≠ .boxL ks x) ∧ killsOf p = [] ∧ killsOf i = [] ∧ isBox p.op = false) ∧ (isEff how p.op = false ∨ clsOf how i.op = .pure)) ∨
    (∃ ks x, p.op = .boxL ks x ∧ killsOf i = [] ∧ killsApart ks i = true ∧ (clsOf how i.op = .pure ∨ storeOnly i.op = true)) ∨
    (∃ ks x, i.op = .boxL ks x ∧ killsOf p = [] ∧ killsApart ks p = true ∧ (isEff how p.op = false ∨ storeOnly p.op = true)) := by
  unfold pairOk at h
  split at h
  · cases h
  · rename_i ks x hp hn
    simp only [Bool.and_eq_true, Bool.or_eq_true, decide_eq_true_eq] at h
    exact .inr (.inl ⟨ks, x, hp, kills_nil (fun ks' x' e => hn ks' x' e), h.1, h.2⟩)
  · rename_i ks x hi hn
    simp only [Bool.and_eq_true, Bool.or_eq_true, Bool.not_eq_true'] at h
    exact .inr (.inr ⟨ks, x, hi, kills_nil (fun ks' x' e => hn ks' x' e), h.1, h.2⟩)
  · rename_i hn1 hn2 _
    simp only [Bool.or_eq_true, Bool.not_eq_true', decide_eq_true_eq] at h
    exact .inl ⟨⟨fun ks' x' e => hn2 ks' x' e, kills_nil (fun ks' x' e => hn1 ks' x' e), kills_nil (fun ks' x' e => hn2 ks' x' e), (by unfold isBox; split; rename_i e; exact (hn1 _ _ e).elim; rfl)⟩, h⟩
theorem pair_kills (h : pairOk how p i = true) : killsApart (killsOf p) i = true ∧ killsApart (killsOf i) p = true := by
  rcases pairOk_spec h with ⟨⟨_, h1, h2, _⟩, _⟩ | ⟨ks, x, h1, h2, h3, _⟩ | ⟨ks, x, h1, h2, h3, _⟩
  · rw [h1, h2]; exact ⟨rfl, rfl⟩
  · rw [h2]; exact ⟨by simpa only [killsOf, h1] using h3, rfl⟩
  · rw [h2]; exact ⟨rfl, by simpa only [killsOf, h1] using h3⟩
theorem apartR_un_right (h : apartR p i = true) : apartR p i.un = true := by
  simp only [apartR, Bool.and_eq_true] at h ⊢
  refine ⟨h.1, ?_⟩
  have h2 := h.2
  unfold ssaR at h2 ⊢
  split at h2
  · rename_i t ht
    simp only [ht, un_looks, Bool.and_eq_true] at h2 ⊢
    exact ⟨rfl, h2.2⟩
  · rename_i ht
    simp only [ht]
theorem apartR_un_left (h : apartR p i = true) : apartR p.un i = true := by
  simp only [apartR, Bool.and_eq_true] at h ⊢
  exact ⟨by simpa only [apartR, Bool.and_eq_true] using (show ssaR p.un i = true from by
    have h2 := h.1
    unfold ssaR at h2 ⊢
    split at h2
    · rename_i t ht
      simp only [ht, un_looks, Bool.and_eq_true] at h2 ⊢
      exact ⟨rfl, h2.2⟩
    · rename_i ht
      simp only [ht]), h.2⟩
theorem killsApart_un {ks : List Nat} (h : killsApart ks i = true) : killsApart ks i.un = true := by
  refine List.all_eq_true.2 (fun k hk => ?_)
  have := List.all_eq_true.1 h k hk
  simp only [Bool.and_eq_true] at this ⊢
  exact ⟨rfl, this.2⟩
theorem noneff_cases (h : isEff how op = false) : clsOf how op = .pure ∨ clsOf how op = .load := by
  simp only [isEff, decide_eq_false_iff_not] at h
  cases hc : clsOf how op with
  | pure => exact .inl rfl
  | load => exact .inr rfl
  | eff => exact absurd hc h
theorem isBox_iff {r : AR} : isBox r.op = true ↔ ∃ ks x, r.op = .boxL ks x := by
  unfold isBox
  split
  · rename_i ks x e; exact ⟨fun _ => ⟨ks, x, e⟩, fun _ => rfl⟩
  · rename_i h; exact ⟨fun e => (by cases e), fun ⟨ks, x, e⟩ => absurd e (h ks x)⟩
theorem chkAt_box {r : AR} {ks : List Nat} {x : Opd} {s : Nat} (h : r.op = .boxL ks x) (hs : r.dst = some s) (σ : AS) (c : Chk) : chkAt r σ c = notL s (raw σ c.a) := by
  unfold chkAt
  rw [h, hs]
theorem chkAt_not {r : AR} (h : isBox r.op = false) (σ : AS) (c : Chk) : chkAt r σ c = chkOk σ c := by
  unfold chkAt
  split
  · rename_i e _
    rw [e] at h
    cases h
  · rfl
/-- What a variable's place, new, leaves of a load from elsewhere. -/
theorem aload_box {s : Nat} {ks : List Nat} {cs : List PV} {sz : Option Nat} {v : PV} (h : notL s v = true) : aload (σ.box s ks cs) sz v = aload σ sz v := by
  cases v with
  | lptr s' off =>
    have hne : s' ≠ s := by simpa [notL] using h
    simp only [aload, deref, AS.box]
    rw [tget_tset_ne _ _ _ _ hne]
  | _ => rfl
/-- A step that makes a variable of the activation's own. -/
theorem box_step {r : AR} {ks : List Nat} {x : Opd} (hop : r.op = .boxL ks x) (hw : wants σ r.guard = true) (h : step1 T ex r σ = some σ1) : ∃ s cs, r.dst = some s ∧ σ1 = σ.box s ks cs ∧ ∀ τ : AS, badG τ r.guard = false → wants τ r.guard = true → raw τ x = raw σ x → step1 T ex r τ = some (τ.box s ks cs) := by
  have hb := step_bad h
  unfold step1 at h
  simp only [hb, hw, Bool.false_eq_true, if_false, if_true] at h
  rw [hop, aop_box] at h
  split at h
  · rename_i s v hs hv
    cases h
    refine ⟨s, v.cells, hs, rfl, fun τ h1 h2 h3 => ?_⟩
    unfold step1
    simp only [h1, h2, Bool.false_eq_true, if_false, if_true]
    rw [hop, aop_box, amem_same h3, hv, hs]
  · cases h
theorem swap_load_box {ks : List Nat} {x : Opd} {c : Chk} (hop : i.op = .boxL ks x) (hc : chkOf p = some c) (hown : ∀ t, p.dst = some t → p.looks.contains t = false) (ha : apartR p i = true) (hk : killsApart ks p = true) (wi : wants σ1 i.guard = true)
    (h1 : step1 T ex p σ = some σ1) (h2 : step1 T ex i σ1 = some σ2) (hn : chkAt i σ2 c = true) : ∃ σi, step1 T ex i σ = some σi ∧ step1 T ex p σi = some σ2 := by
  have hk' : killsApart (killsOf i) p = true := by simpa only [killsOf, hop] using hk
  simp only [apartR, Bool.and_eq_true] at ha
  obtain ⟨s, a, t, hpo, hd, rfl⟩ : ∃ s a t, p.op = .load s a ∧ p.dst = some t ∧ c = { sz := s, a := a, dst := t, guard := p.guard } := by
    unfold chkOf at hc
    split at hc
    · rename_i s a t h1 h2
      cases hc
      exact ⟨s, a, t, h1, h2, rfl⟩
    · cases hc
  have hnk : killsApart (killsOf p) i = true := by rw [kills_nil (fun ks' x' e => by rw [hpo] at e; cases e)]; rfl
  have hlk := fun n => looks_kept (t := n) ha.2 hnk h1
  have hg := guard_same hlk
  obtain ⟨s', cs, hs', rfl, hbx⟩ := box_step hop wi h2
  have hi := hbx σ (by rw [← hg.1]; exact step_bad h2) (by rw [← hg.2]; exact wi) (by
    cases x with
    | c x => rfl
    | t n => exact (hlk n (List.mem_append_left _ (List.mem_filterMap.2 ⟨.t n, by rw [hop]; simp [AOp.opds], rfl⟩))).symm)
  refine ⟨_, hi, ?_⟩
  have hlp := fun n => looks_kept (p := i) (i := p) (t := n) ha.1 hk' hi
  have hgp := guard_same hlp
  obtain ⟨v, rfl⟩ := noneff_step (how := fun _ => .shared) (.inr (by rw [hpo]; rfl)) h1
  have hbp : ((σ.put p.dst v).box s' ks cs) = (σ.box s' ks cs).put p.dst v := box_put (fun e => (ssaR_spec ha.2 e).2 hs') (fun n hn => by simpa only [killsOf, hop] using apart_dst hk' hn)
  rw [hbp] at hn ⊢
  rw [chkAt_box hop hs'] at hn
  have ho : a.is t = false := mem_looks_op (r := p) (by rw [hpo]; simp [AOp.opds]) (hown t hd)
  have hra : raw ((σ.box s' ks cs).put p.dst v) a = raw σ a := by
    rw [hd, put_some, raw_st ho]
    cases a with
    | c x => rfl
    | t n => exact hlp n (List.mem_append_left _ (List.mem_filterMap.2 ⟨.t n, by rw [hpo]; simp [AOp.opds], rfl⟩))
  have hrb : raw (σ.box s' ks cs) a = raw σ a := by
    rw [← hra, hd, put_some, raw_st ho]
  simp only [hra] at hn
  have b1 := step_bad h1
  unfold step1 at h1 ⊢
  rw [hgp.1, hgp.2]
  simp only [b1, Bool.false_eq_true, if_false] at h1 ⊢
  split at h1
  · rename_i hw
    rw [if_pos hw]
    rw [hpo] at h1 ⊢
    simp only [aop, withV] at h1 ⊢
    rw [hrb, aload_box hn]
    split at h1
    · rename_i u hu
      have : u = v := by
        have := congrArg (fun o => match o with
          | some (τ : AS) => tget τ.tmps t
          | none => .undef) h1
        simp only [hd, put_some, AS.st, tget_tset_same] at this
        exact this
      rw [this]
    · cases h1
  · rename_i hw
    rw [if_neg hw]
    have : v = .undef := by
      have := congrArg (fun o => match o with
        | some (τ : AS) => tget τ.tmps t
        | none => .undef) h1
      simp only [hd, put_some, AS.st, tget_tset_same] at this
      exact this.symm
    rw [this]
theorem swap_any (ha : apartR p i = true) (hp : pairOk how p i = true) (hown : ownDst how p = false) (hl : clsOf how p.op = .load → isEff how i.op = true → wants σ1 i.guard = true → ∃ c, chkOf p = some c ∧ chkAt i σ2 c = true)
    (h1 : step1 T ex p σ = some σ1) (h2 : step1 T ex i σ1 = some σ2) : ∃ σi, step1 T ex i σ = some σi ∧ step1 T ex p σi = some σ2 := by
  obtain ⟨hk1, hk2⟩ := pair_kills hp
  have ha' := ha
  simp only [apartR, Bool.and_eq_true] at ha'
  cases wp : wants σ p.guard with
  | false =>
    have := step_unwanted h1 wp
    subst this
    obtain ⟨σi, g1, g2⟩ := swap_pure (how := how) (p := p.un) rfl (apartR_un_left ha) (killsApart_un hk2) (un_step p σ) h2
    refine ⟨σi, g1, ?_⟩
    rw [un_step] at g2
    have hg := guard_same (fun t => looks_kept (p := i) (i := p) (t := t) ha'.1 hk2 g1)
    unfold step1
    rw [hg.1, hg.2]
    simp only [step_bad h1, wp, Bool.false_eq_true, if_false]
    exact g2
  | true =>
    have hlk := fun t => looks_kept (t := t) ha'.2 hk1 h1
    have hg := guard_same hlk
    cases wi : wants σ1 i.guard with
    | false =>
      have := step_unwanted h2 wi
      subst this
      obtain ⟨σi, g1, g2⟩ := swap_eff (how := how) (i := i.un) rfl (apartR_un_right ha) (killsApart_un hk1) h1 (un_step i σ1)
      refine ⟨σi, ?_, g2⟩
      rw [un_step] at g1
      unfold step1
      rw [← hg.1, ← hg.2]
      simp only [step_bad h2, wi, Bool.false_eq_true, if_false]
      exact g1
    | true =>
      have hownd : clsOf how p.op = .load → ∀ t, p.dst = some t → p.looks.contains t = false := by
        intro hc t ht
        cases hcon : p.looks.contains t with
        | false => rfl
        | true =>
          have : ownDst how p = true := by
            simp only [ownDst, hc, decide_true, Bool.true_and]
            exact List.any_eq_true.2 ⟨t, by simpa using hcon, by simp [ht]⟩
          rw [hown] at this
          cases this
      rcases pairOk_spec hp with ⟨⟨hnb, _, _, _⟩, h⟩ | ⟨ks, x, e1, e2, e3, h⟩ | ⟨ks, x, e1, e2, e3, h⟩
      · cases hc : clsOf how p.op with
        | pure => exact swap_pure hc ha hk2 h1 h2
        | load =>
          cases hi : isEff how i.op with
          | false => exact swap_noneff (.inr hc) (noneff_cases hi) ha h1 h2
          | true =>
            obtain ⟨c, c1, c2⟩ := hl hc hi wi
            exact swap_load c1 (hownd hc) ha hk2 h1 h2 (by rw [← chkAt_not (r := i)]; exact c2; cases hb : isBox i.op with
              | false => rfl
              | true => obtain ⟨ks, x, e⟩ := isBox_iff.1 hb; have : killsOf i = ks := by simp only [killsOf, e]
                        exact absurd e (hnb ks x))
        | eff =>
          rcases h with h | h
          · simp [isEff, hc] at h
          · exact swap_eff h ha hk1 h1 h2
      · rcases h with h | h
        · exact swap_eff h ha hk1 h1 h2
        · exact swap_box1 e1 h ha e3 wp wi h1 h2
      · rcases h with h | h
        · rcases noneff_cases h with hc | hc
          · exact swap_pure hc ha hk2 h1 h2
          · obtain ⟨c, c1, c2⟩ := hl hc (by rw [e1]; rfl) wi
            exact swap_load_box e1 c1 (hownd hc) ha e3 wi h1 h2 c2
        · exact swap_box2 e1 h ha e3 wp wi h1 h2

def runs (T : Tbl) (ex : Ex) (how : FuncId → How) (bf : List (List Nat)) : List (Nat × AR) → List (Nat × AR) → AS → AS → Prop
  | _, [], σ, σ' => σ = σ'
  | seen, x :: rest, σ, σ' => ∃ σ1, step1 T ex x.2 σ = some σ1 ∧ (isEff how x.2.op = true → wants σ x.2.guard = true → ∀ l ∈ seen, clsOf how l.2.op = .load → (isBefore bf l.1 x.1 = false ∨ isBox x.2.op = true) → ∃ c, chkOf l.2 = some c ∧ chkAt x.2 σ1 c = true) ∧ runs T ex how bf (x :: seen) rest σ1 σ'
def PC (how : FuncId → How) (bf : List (List Nat)) (x y : Nat × AR) : Prop :=
  (clsOf how x.2.op = .load → ssaR x.2 y.2 = true ∧ killsApart (killsOf y.2) x.2 = true) ∧ (isBefore bf x.1 y.1 = true ∨ (apartR x.2 y.2 = true ∧ pairOk how x.2 y.2 = true)) ∧
  (clsOf how x.2.op = .load → isEff how y.2.op = true → (isBefore bf x.1 y.1 = false ∨ isBox y.2.op = true) → ∃ c, chkOf x.2 = some c ∧ c ∈ y.2.chk)
theorem chk_form {l : AR} {c : Chk} (hc : chkOf l = some c) : ∃ s a t, l.op = .load s a ∧ l.dst = some t ∧ c = { sz := s, a := a, dst := t, guard := l.guard } := by
  unfold chkOf at hc
  split at hc
  · rename_i s a t h1 h2
    cases hc
    exact ⟨s, a, t, h1, h2, rfl⟩
  · cases hc
/-- A load's recheck looks at what the load looks at, and at its result. -/
theorem chk_raw {l : AR} {c : Chk} (hc : chkOf l = some c) (h : ∀ t ∈ l.looks, tget τ.tmps t = tget σ.tmps t) : raw τ c.a = raw σ c.a ∧ wants τ c.guard = wants σ c.guard := by
  obtain ⟨s, a, t, hop, hd, rfl⟩ := chk_form hc
  refine ⟨?_, (guard_same h).2⟩
  cases a with
  | c x => rfl
  | t n => exact h n (List.mem_append_left _ (List.mem_filterMap.2 ⟨.t n, by rw [hop]; simp [AOp.opds], rfl⟩))
theorem chk_put {l : AR} {c : Chk} {d : Option Nat} (hc : chkOf l = some c) (h : ∀ t, d = some t → l.looks.contains t = false ∧ l.dst ≠ some t) (v : PV) : chkOk (σ.put d v) c = chkOk σ c := by
  cases d with
  | none => rfl
  | some t =>
    obtain ⟨h1, h2⟩ := h t rfl
    obtain ⟨s, a, e, hop, hd, rfl⟩ := chk_form hc
    have hw := (wants_st (σ := σ) (v := v) h1).1
    have ho : a.is t = false := mem_looks_op (r := l) (by rw [hop]; simp [AOp.opds]) h1
    have he : e ≠ t := fun q => h2 (by rw [hd, q])
    rw [put_some]
    simp only [chkOk, hw, raw_st ho, aload_st]
    rw [show tget (σ.st t v).tmps e = tget σ.tmps e from tget_tset_ne _ _ _ _ he]
theorem chk_box {l r : AR} {c : Chk} {s : Nat} {ks : List Nat} {cs : List PV} (hc : chkOf l = some c) (hs : l.looks.contains s = false ∧ l.dst ≠ some s) (hk : killsApart ks l = true) (hn : notL s (raw σ c.a) = true) : chkOk (σ.box s ks cs) c = chkOk σ c := by
  have hlk : ∀ t ∈ l.looks, tget (σ.box s ks cs).tmps t = tget σ.tmps t := by
    intro t ht
    refine box_tget (fun e => ?_) ?_
    · subst e
      have h2 : l.looks.contains s = true := by simpa using ht
      rw [hs.1] at h2
      cases h2
    · exact apart_looks (p := { dst := none, op := .boxL ks (.c .undef) }) hk ht
  obtain ⟨g1, g2⟩ := chk_raw hc hlk
  obtain ⟨sz, a, e, hop, hd, rfl⟩ := chk_form hc
  have he : tget (σ.box s ks cs).tmps e = tget σ.tmps e := box_tget (fun q => hs.2 (by rw [hd, q])) (apart_dst (p := { dst := none, op := .boxL ks (.c .undef) }) hk hd)
  simp only [chkOk]
  simp only at g1 g2 hn
  rw [g1, g2, aload_box hn, he]
/-- A step that no load ahead of it looks at. -/
theorem load_kept {l r : AR} (h1 : ssaR l r = true) (h2 : killsApart (killsOf r) l = true) (h : step1 T ex r σ = some σ1) : ∀ t ∈ l.looks, tget σ1.tmps t = tget σ.tmps t := fun _ ht => looks_kept h1 h2 h ht
theorem runs_sub {bf : List (List Nat)} : ∀ {rest seen seen' : List (Nat × AR)} {σ : AS}, (∀ x ∈ seen', x ∈ seen) → runs T ex how bf seen rest σ σ' → runs T ex how bf seen' rest σ σ'
  | [], _, _, _, _, h => h
  | x :: rest, seen, seen', σ, hs, h => by
    obtain ⟨σ1, h1, h2, h3⟩ := h
    refine ⟨σ1, h1, fun a b l hl => h2 a b l (hs l hl), runs_sub (fun y hy => ?_) h3⟩
    rcases List.mem_cons.1 hy with rfl | hy
    · exact List.mem_cons_self
    · exact List.mem_cons_of_mem _ (hs y hy)
theorem eff_pair (h : pairOk how p i = true) (hp : isEff how p.op = true) (hi : isEff how i.op = true) : (∃ ks x, p.op = .boxL ks x ∧ isBox i.op = false) ∨ (∃ ks x, i.op = .boxL ks x ∧ isBox p.op = false) := by
  have hi' : clsOf how i.op ≠ .pure := by
    intro e
    simp [isEff, e] at hi
  have nb : ∀ {q : AOp}, storeOnly q = true → isBox q = false := by
    intro q hq
    cases q <;> first | rfl | cases hq
  rcases pairOk_spec h with ⟨_, h⟩ | ⟨ks, x, e, _, _, h⟩ | ⟨ks, x, e, _, _, h⟩
  · rcases h with h | h
    · rw [hp] at h; cases h
    · exact absurd h hi'
  · rcases h with h | h
    · exact absurd h hi'
    · exact .inl ⟨ks, x, e, nb h⟩
  · rcases h with h | h
    · rw [hp] at h; cases h
    · exact .inr ⟨ks, x, e, nb h⟩
/-- A step's recheck does not mind another step that is no effect. -/
theorem chkAt_put {l r : AR} {c : Chk} {d : Option Nat} (hc : chkOf l = some c) (h : ∀ t, d = some t → l.looks.contains t = false ∧ l.dst ≠ some t) (v : PV) : chkAt r (σ.put d v) c = chkAt r σ c := by
  unfold chkAt
  split
  · have := (chk_raw (τ := σ.put d v) (σ := σ) hc (fun t ht => put_tget (fun e => by
      have h2 : l.looks.contains t = true := by simpa using ht
      rw [(h t e).1] at h2
      cases h2) v)).1
    rw [this]
  · exact chk_put hc h v
theorem front_run {bf : List (List Nat)} {x : Nat × AR} {B : List (Nat × AR)} : ∀ {A seen : List (Nat × AR)} {σ : AS}, (∀ y ∈ seen, isBefore bf y.1 x.1 = false) → (∀ y ∈ A, isBefore bf y.1 x.1 = false) →
    (∀ y ∈ seen, ∀ z ∈ A ++ x :: B, PC how bf y z) → (A ++ x :: B).Pairwise (PC how bf) → (∀ y ∈ A ++ x :: B, ownDst how y.2 = false) →
    runs T ex how bf seen (A ++ x :: B) σ σ' → ∃ σi, step1 T ex x.2 σ = some σi ∧ runs T ex how bf seen (A ++ B) σi σ' ∧
      (isEff how x.2.op = true → wants σ x.2.guard = true → ∀ l ∈ seen, clsOf how l.2.op = .load → ∃ c, chkOf l.2 = some c ∧ chkAt x.2 σi c = true)
  | [], seen, σ, hs, _, _, _, _, h => by
    obtain ⟨σ1, h1, h2, h3⟩ := h
    exact ⟨σ1, h1, runs_sub (fun y hy => List.mem_cons_of_mem _ hy) h3, fun a b l hl hc => h2 a b l hl hc (.inl (hs l hl))⟩
  | p :: A, seen, σ, hs, hA, hpc, hpw, hown, h => by
    obtain ⟨σ1, h1, h2, h3⟩ := h
    have hpw' := List.pairwise_cons.1 hpw
    have hpx : PC how bf p x := hpw'.1 x (by simp)
    have hbf : isBefore bf p.1 x.1 = false := hA p List.mem_cons_self
    have hap : apartR p.2 x.2 = true ∧ pairOk how p.2 x.2 = true := hpx.2.1.resolve_left (by simp [hbf])
    obtain ⟨hk1, hk2⟩ := pair_kills hap.2
    have ha' := hap.1
    simp only [apartR, Bool.and_eq_true] at ha'
    obtain ⟨σ2, g1, g2, g3⟩ := front_run (seen := p :: seen) (A := A) (B := B) (fun y hy => by
        rcases List.mem_cons.1 hy with rfl | hy
        · exact hbf
        · exact hs y hy) (fun y hy => hA y (List.mem_cons_of_mem _ hy))
      (fun y hy z hz => by
        rcases List.mem_cons.1 hy with rfl | hy
        · exact hpw'.1 z hz
        · exact hpc y hy z (List.mem_cons_of_mem _ hz)) hpw'.2 (fun y hy => hown y (List.mem_cons_of_mem _ hy)) h3
    have hgx := guard_same (fun t => looks_kept (t := t) ha'.2 hk1 h1)
    obtain ⟨σi, i1, i2⟩ := swap_any hap.1 hap.2 (hown p List.mem_cons_self) (fun hc he hw => g3 he hw p List.mem_cons_self hc) h1 g1
    have hgp := guard_same (fun t => looks_kept (p := x.2) (i := p.2) (t := t) ha'.1 hk2 i1)
    have key : ∀ l ∈ seen, clsOf how l.2.op = .load → (ssaR l.2 p.2 = true ∧ killsApart (killsOf p.2) l.2 = true) ∧ (ssaR l.2 x.2 = true ∧ killsApart (killsOf x.2) l.2 = true) := fun l hl hc => ⟨(hpc l hl p (by simp)).1 hc, (hpc l hl x (by simp)).1 hc⟩
    refine ⟨σi, i1, ⟨σ2, i2, fun he hw l hl hc hb => ?_, g2⟩, fun he hw l hl hc => ?_⟩
    · rw [hgp.2] at hw
      obtain ⟨c, c1, c2⟩ := h2 he hw l hl hc hb
      refine ⟨c, c1, ?_⟩
      obtain ⟨⟨k1, k2⟩, k3, k4⟩ := key l hl hc
      cases hi : isEff how x.2.op with
      | false =>
        obtain ⟨v, rfl⟩ := noneff_step (noneff_cases hi) g1
        rw [chkAt_put c1 (fun t ht => ssaR_spec k3 ht)]
        exact c2
      | true =>
        have hraw := chk_raw c1 (load_kept k3 k4 g1)
        rcases eff_pair hap.2 he hi with ⟨ks, y, e, _⟩ | ⟨ks, y, e, nb⟩
        · have hd : ∃ s, p.2.dst = some s := by
            obtain ⟨s, _, q, _⟩ := box_step e hw h1
            exact ⟨s, q⟩
          obtain ⟨s, hd⟩ := hd
          rw [chkAt_box e hd] at c2 ⊢
          rw [hraw.1]
          exact c2
        · rw [chkAt_not nb] at c2 ⊢
          cases wx : wants σ1 x.2.guard with
          | false =>
            rw [step_unwanted g1 wx, chk_put c1 (fun t ht => ssaR_spec k3 ht)]
            exact c2
          | true =>
            obtain ⟨s, cs, q1, q2, _⟩ := box_step e wx g1
            obtain ⟨c', c3, c4⟩ := g3 hi wx l (List.mem_cons_of_mem _ hl) hc
            rw [c1] at c3
            cases c3
            rw [chkAt_box e q1, hraw.1] at c4
            rw [q2, chk_box (r := x.2) c1 (ssaR_spec k3 q1) (by simpa only [killsOf, e] using k4) c4]
            exact c2
    · rw [← hgx.2] at hw
      obtain ⟨c, c1, c2⟩ := g3 he hw l (List.mem_cons_of_mem _ hl) hc
      refine ⟨c, c1, ?_⟩
      obtain ⟨⟨k1, k2⟩, k3, k4⟩ := key l hl hc
      cases hi : isEff how p.2.op with
      | false =>
        obtain ⟨v, rfl⟩ := noneff_step (noneff_cases hi) i2
        rw [chkAt_put c1 (fun t ht => ssaR_spec k1 ht)] at c2
        exact c2
      | true =>
        have hraw := chk_raw c1 (load_kept k1 k2 i2)
        rcases eff_pair hap.2 hi he with ⟨ks, y, e, nb⟩ | ⟨ks, y, e, _⟩
        · rw [chkAt_not nb] at c2 ⊢
          cases wp : wants σi p.2.guard with
          | false =>
            rw [step_unwanted i2 wp, chk_put c1 (fun t ht => ssaR_spec k1 ht)] at c2
            exact c2
          | true =>
            obtain ⟨s, cs, q1, q2, _⟩ := box_step e wp i2
            have wp' : wants σ p.2.guard = true := by rw [← hgp.2]; exact wp
            obtain ⟨c', c3, c4⟩ := h2 hi wp' l hl hc (.inr (isBox_iff.2 ⟨ks, y, e⟩))
            rw [c1] at c3
            cases c3
            rw [chkAt_box e q1] at c4
            have hr2 := chk_raw c1 (load_kept k3 k4 g1)
            rw [← hr2.1, hraw.1] at c4
            rw [q2, chk_box (r := p.2) c1 (ssaR_spec k1 q1) (by simpa only [killsOf, e] using k2) c4] at c2
            exact c2
        · have hd : ∃ s, x.2.dst = some s := by
            obtain ⟨s, _, q, _⟩ := box_step e hw g1
            exact ⟨s, q⟩
          obtain ⟨s, hd⟩ := hd
          rw [chkAt_box e hd] at c2 ⊢
          rw [← hraw.1]
          exact c2
end
end Go.Proofs.YtkgmeeenacnhfaaGreat.Eng
namespace Go.Proofs.YtkgmeeenacnhfaaGreat.Eng
open Go
section
variable {T : Tbl} {P : Program} {A : Ann} {ex : Ex} {how : FuncId → How} {σ σ1 σ2 σ' τ : AS}

theorem nodup_lt : ∀ {n : Nat} {l : List Nat}, l.Nodup → (∀ x ∈ l, x < n) → l.length ≤ n
  | 0, l, _, h => by
    cases l with
    | nil => simp
    | cons x xs => exact absurd (h x List.mem_cons_self) (by omega)
  | n + 1, l, hn, h => by
    by_cases hm : n ∈ l
    · have := nodup_lt (n := n) (l := l.erase n) (hn.erase n) (fun x hx => by
        have hx' := (List.Nodup.mem_erase_iff hn).1 hx
        have := h x hx'.2
        omega)
      rw [List.length_erase_of_mem hm] at this
      omega
    · have := nodup_lt (n := n) (l := l) hn (fun x hx => by
        have := h x hx
        have : x ≠ n := fun e => hm (e ▸ hx)
        omega)
      omega
theorem nodup_all {n : Nat} {l : List Nat} (hn : l.Nodup) (h : ∀ x ∈ l, x < n) (hl : l.length = n) {j : Nat} (hj : j < n) : j ∈ l := by
  by_cases hm : j ∈ l
  · exact hm
  · have := nodup_lt (n := n) (l := j :: l) (List.nodup_cons.2 ⟨hm, hn⟩) (fun x hx => by
      rcases List.mem_cons.1 hx with rfl | hx
      · exact hj
      · exact h x hx)
    simp only [List.length_cons, hl] at this
    omega
def bindsI (ops : List Oper) (j : Nat) : List Nat := match ops[j]? with
  | some o => bindsAll o
  | none => []
theorem getD_app_l {α : Type} {l r : List α} {i : Nat} {d : α} (h : i < l.length) : (l ++ r).getD i d = l.getD i d := by
  simp only [List.getD_eq_getElem?_getD, List.getElem?_append_left h]
theorem getD_app_r {α : Type} {l r : List α} {i : Nat} {d : α} (h : l.length ≤ i) : (l ++ r).getD i d = r.getD (i - l.length) d := by
  simp only [List.getD_eq_getElem?_getD, List.getElem?_append_right h]
theorem befores_closed_aux {all : List Oper} {C : Nat → Prop} (hC : ∀ k, C k → ∀ b ∈ bindsI all k, C b) : ∀ (rest pre : List Oper) (acc : List (List Nat)), all = pre ++ rest → acc.length = pre.length →
    (∀ i, (∀ b ∈ bindsI all i, C b) → ∀ j ∈ acc.getD i [], C j) →
    ∀ i, (∀ b ∈ bindsI all i, C b) → ∀ j ∈ (rest.foldl (fun acc o => acc ++ [((bindsAll o).flatMap fun j => j :: (acc.getD j [])).eraseDups]) acc).getD i [], C j
  | [], _, acc, _, _, h => h
  | o :: rest, pre, acc, he, hl, h => by
    simp only [List.foldl_cons]
    refine befores_closed_aux hC rest (pre ++ [o]) _ (by simp [he]) (by simp [hl]) (fun i hi j hj => ?_)
    rcases Nat.lt_trichotomy i acc.length with hlt | heq | hgt
    · rw [getD_app_l hlt] at hj
      exact h i hi j hj
    · have ho : all[i]? = some o := by
        rw [he, heq, hl]
        simp
      have hj' : j ∈ ((bindsAll o).flatMap fun j => j :: (acc.getD j [])).eraseDups := by
        rw [getD_app_r (by omega)] at hj
        simpa [heq] using hj
      have hj2 := List.mem_eraseDups.1 hj'
      obtain ⟨b, hb, hjb⟩ := List.mem_flatMap.1 hj2
      have hCb : C b := hi b (by simpa only [bindsI, ho] using hb)
      rcases List.mem_cons.1 hjb with rfl | hjb
      · exact hCb
      · exact h b (hC b hCb) j hjb
    · rw [getD_app_r (by omega)] at hj
      have : ¬ (i - acc.length < 1) := by omega
      have hz : ([((bindsAll o).flatMap fun j => j :: (acc.getD j [])).eraseDups] : List (List Nat)).getD (i - acc.length) [] = [] := by
        rw [List.getD_eq_getElem?_getD, List.getElem?_eq_none (by simp; omega)]
        rfl
      rw [hz] at hj
      cases hj
theorem befores_closed {all : List Oper} {C : Nat → Prop} (hC : ∀ k, C k → ∀ b ∈ bindsI all k, C b) {i : Nat} (hi : ∀ b ∈ bindsI all i, C b) {j : Nat} (hj : j ∈ (befores all).getD i []) : C j :=
  befores_closed_aux hC all [] [] rfl rfl (fun i _ j hj => by simp at hj) i hi j hj

def Item (P : Program) (A : Ann) (how : FuncId → How) (ops : List Oper) (x : Nat × AR) : Prop := ∃ o, ops[x.1]? = some o ∧ cOp P A o = some x.2.op ∧ cGuard ops o = some x.2.guard ∧ x.2.dst = o.dst ∧ ownDst how x.2 = false
def Apart2 (ops : List Oper) (x y : Nat × AR) : Prop := y.1 ∉ bindsI ops x.1 ∧ x.1 ≠ y.1
theorem chks_mem {bf : List (List Nat)} {j : Nat} {box : Bool} : ∀ {seen : List (Nat × AR)} {cs : List Chk}, chks how bf j box seen = some cs → ∀ x ∈ seen, clsOf how x.2.op = .load → (isBefore bf x.1 j = false ∨ box = true) → ∃ c, chkOf x.2 = some c ∧ c ∈ cs
  | [], _, _, _, hx, _, _ => (by cases hx)
  | (i, p) :: seen, cs, h, x, hx, hc, hb => by
    simp only [chks] at h
    split at h
    · cases h
    · rename_i q hq
      rcases List.mem_cons.1 hx with rfl | hx
      · have hbb : (isBefore bf i j && !box) = false := by
          rcases hb with hb | hb
          · simp [show isBefore bf i j = false from hb]
          · simp [hb]
        simp only [hbb, hc, Bool.false_eq_true, if_false, decide_true, if_true] at h
        split at h
        · rename_i c hcc
          cases h
          exact ⟨c, hcc, List.mem_cons_self⟩
        · cases h
      · obtain ⟨c, c1, c2⟩ := chks_mem hq x hx hc hb
        refine ⟨c, c1, ?_⟩
        split at h
        · cases h; exact c2
        · split at h
          · split at h
            · cases h; exact List.mem_cons_of_mem _ c2
            · cases h
          · cases h; exact c2
theorem draw_facts {ops : List Oper} {bf : List (List Nat)} : ∀ {order : List Nat} {seen : List (Nat × AR)} {q : List AR}, cDraw P A how ops bf order seen = some q →
    ∃ R : List (Nat × AR), R.map (·.1) = order ∧ R.map (·.2) = q ∧ (∀ x ∈ R, Item P A how ops x) ∧ R.Pairwise (PC how bf) ∧ (∀ y ∈ seen, ∀ z ∈ R, PC how bf y z) ∧ R.Pairwise (Apart2 ops) ∧
      (∀ x ∈ R, x.1 ∉ bindsI ops x.1) ∧ (∀ x ∈ R, ∀ y ∈ seen, y.1 ≠ x.1) ∧ (∀ x ∈ R, ∀ b ∈ bindsI ops x.1, b ∈ seen.map (·.1) ++ order)
  | [], seen, q, h => by
    cases h
    exact ⟨[], rfl, rfl, fun x hx => (by cases hx), .nil, fun _ _ z hz => (by cases hz), .nil, fun x hx => (by cases hx), fun x hx => (by cases hx), fun x hx => (by cases hx)⟩
  | j :: order, seen, q, h => by
    simp only [cDraw] at h
    split at h
    · cases h
    · rename_i o ho
      split at h
      · rename_i a g ha hg
        split at h
        · rename_i cs hcs
          split at h
          · rename_i hcond
            split at h
            · rename_i q' hq
              cases h
              simp only [Bool.and_eq_true, Bool.not_eq_true', List.all_eq_true, List.any_eq_true, beq_iff_eq] at hcond
              obtain ⟨⟨⟨c1, c2⟩, c3⟩, c4⟩ := hcond
              have c2' : ∀ y ∈ seen, y.1 ≠ j := by
                intro y hy e
                have : seen.any (·.1 == j) = true := List.any_eq_true.2 ⟨y, hy, by simp [e]⟩
                rw [c2] at this
                cases this
              obtain ⟨R, r1, r2, r3, r4, r5, r6, r7, r8, r9⟩ := draw_facts hq
              have hbj : bindsI ops j = bindsAll o := by simp only [bindsI, ho]
              have c1' : ∀ b ∈ bindsI ops j, ∃ y ∈ seen, y.1 = b := by rw [hbj]; exact c1
              refine ⟨(j, _) :: R, by rw [List.map_cons, r1], by rw [List.map_cons, r2], ?_, List.pairwise_cons.2 ⟨fun z hz => r5 _ List.mem_cons_self z hz, r4⟩, ?_, List.pairwise_cons.2 ⟨?_, r6⟩, ?_, ?_, ?_⟩
              · intro x hx
                rcases List.mem_cons.1 hx with rfl | hx
                · exact ⟨o, ho, ha, hg, rfl, c4⟩
                · exact r3 x hx
              · intro y hy z hz
                rcases List.mem_cons.1 hz with rfl | hz
                · have := List.all_eq_true.1 c3 y hy
                  simp only [Bool.and_eq_true, Bool.or_eq_true, Bool.not_eq_true', decide_eq_false_iff_not] at this
                  refine ⟨fun hc => (by have h1 := this.1.resolve_left (fun h => h hc); exact h1), this.2, fun hc he hb => ?_⟩
                  have he' : isEff how a = true := he
                  rw [if_pos he'] at hcs
                  exact chks_mem hcs y hy hc hb
                · exact r5 y (List.mem_cons_of_mem _ hy) z hz
              · intro z hz
                refine ⟨fun hb => ?_, fun e => ?_⟩
                · obtain ⟨y, hy, e⟩ := c1' _ hb
                  exact r8 z hz y (List.mem_cons_of_mem _ hy) e
                · exact r8 z hz _ List.mem_cons_self e
              · intro x hx
                rcases List.mem_cons.1 hx with rfl | hx
                · intro hb
                  obtain ⟨y, hy, e⟩ := c1' _ hb
                  exact c2' y hy e
                · exact r7 x hx
              · intro x hx y hy
                rcases List.mem_cons.1 hx with rfl | hx
                · exact c2' y hy
                · exact r8 x hx y (List.mem_cons_of_mem _ hy)
              · intro x hx b hb
                rcases List.mem_cons.1 hx with rfl | hx
                · obtain ⟨y, hy, e⟩ := c1' _ hb
                  exact List.mem_append_left _ (List.mem_map.2 ⟨y, hy, e⟩)
                · have := r9 x hx b hb
                  simp only [List.map_cons, List.mem_append, List.mem_cons] at this ⊢
                  rcases this with (h | h) | h
                  · exact .inr (.inl h)
                  · exact .inl h
                  · exact .inr (.inr h)
            · cases h
          · cases h
        · cases h
      · cases h
theorem runs_of {bf : List (List Nat)} : ∀ {R seen : List (Nat × AR)} {σ : AS}, (∀ y ∈ seen, ∀ z ∈ R, PC how bf y z) → R.Pairwise (PC how bf) → arun T ex (R.map (·.2)) σ = some σ' → runs T ex how bf seen R σ σ'
  | [], _, σ, _, _, h => by
    simp only [List.map_nil, arun, Option.some.injEq] at h
    exact h
  | x :: R, seen, σ, hs, hp, h => by
    simp only [List.map_cons] at h
    rw [arun_cons] at h
    split at h
    · rename_i σ1 h1
      split at h
      · rename_i hk
        have hp' := List.pairwise_cons.1 hp
        refine ⟨σ1, h1, fun he hw l hl hc hb => ?_, runs_of (fun y hy z hz => ?_) hp'.2 h⟩
        · obtain ⟨c, c1, c2⟩ := (hs l hl x List.mem_cons_self).2.2 hc he hb
          simp only [chkAll, hw, Bool.not_true, Bool.false_or, List.all_eq_true] at hk
          exact ⟨c, c1, hk c c2⟩
        · rcases List.mem_cons.1 hy with rfl | hy
          · exact hp'.1 z hz
          · exact hs y hy z (List.mem_cons_of_mem _ hz)
      · cases h
    · cases h
theorem step1_rnd {r : AR} (h : step1 T ex r σ = some σ1) : σ1.rnd = σ.rnd := by
  unfold step1 at h
  split at h
  · cases h
  · split at h
    · exact aop_rnd h
    · cases h; exact put_rnd _ _
theorem getD_lt {l : Array Bool} {j : Nat} (h : j < l.size) (d e : Bool) : l.getD j d = l.getD j e := by
  simp [Array.getD, h]
theorem any_ok (hcall : CallOK T P (callS T ex)) (hy : YieldOK T P ex) (ht : TOK T P) {N : Nat} {K : Nat → Prop} {base : Nat} {F : Fence} {k : Nat} {ops : Array Oper} (hd : dstsOk N ops.toList = true) {Q : Exit → Act → World → Prop} :
    ∀ (n : Nat) (R : List (Nat × AR)) (listed : Array Bool) (σ : AS) (a : Act) (w : World) (G : Ghost) (L : Nat → Option Nat) (M : List Nat), R.length = n → (∀ x ∈ R, Item P A T.how ops.toList x) →
      R.Pairwise (PC T.how (befores ops.toList)) → R.Pairwise (Apart2 ops.toList) → (∀ x ∈ R, x.1 ∉ bindsI ops.toList x.1) → (∀ x ∈ R, ∀ b ∈ bindsI ops.toList x.1, b < ops.size) → listed.size = ops.size →
      (∀ j, j < ops.size → (listed.getD j false = true ↔ j ∉ R.map (·.1))) → (∀ j, listed.getD j false = true → ∀ b ∈ bindsI ops.toList j, listed.getD b false = true) →
      runs T ex T.how (befores ops.toList) [] R σ σ' → FSim T P A N K base G L M σ a w → base ≤ w.heap.size → FOK F σ.rnd →
      (∀ a' w' G' L' M', FSim T P A N K base G' L' M' σ' a' w' → Stp K base G w G' w' → Q .normal a' w') → wpAnyIn F k P .any ops Q n listed a w := by
  intro n
  induction n with
  | zero =>
    intro R listed σ a w G L M hn hit hpc hap hself hbs hsz hl hcl hr h hb hF hQ
    have : R = [] := List.length_eq_zero_iff.1 hn
    subst this
    have hr' : σ = σ' := hr
    subst hr'
    refine ⟨List.eq_nil_iff_forall_not_mem.2 (fun j hj => ?_), hQ a w G L M h (Stp.refl h.kOwn)⟩
    obtain ⟨h0, o, ho, _⟩ := mem_ready.1 hj
    have hlt : j < ops.size := (Array.getElem?_eq_some_iff.1 ho).1
    have h1 := (hl j hlt).2 (by simp)
    rw [getD_lt (by omega) true false, h1] at h0
    cases h0
  | succ n ih =>
    intro R listed σ a w G L M hn hit hpc hap hself hbs hsz hl hcl hr h hb hF hQ
    have hun : ∀ x ∈ R, ¬ listed.getD x.1 false = true := by
      intro x hx e
      obtain ⟨o, ho, _⟩ := hit x hx
      have hlt : x.1 < ops.size := by simpa using (List.getElem?_eq_some_iff.1 ho).1
      exact (hl x.1 hlt).1 e (List.mem_map.2 ⟨x, hx, rfl⟩)
    refine ⟨fun hnil => ?_, fun i hi => ?_⟩
    · exfalso
      cases R with
      | nil => simp at hn
      | cons x R' =>
        obtain ⟨o, ho, _⟩ := hit x List.mem_cons_self
        have hlt : x.1 < ops.size := by simpa using (List.getElem?_eq_some_iff.1 ho).1
        have hap' := List.pairwise_cons.1 hap
        have : x.1 ∈ Region.ready .any ops listed := by
          refine mem_ready.2 ⟨?_, o, by simpa using ho, fun e he hbi => ?_⟩
          · rw [getD_lt (by omega) true false]
            simpa using hun x List.mem_cons_self
          · have hbx : e.on ∈ bindsI ops.toList x.1 := by
              simp only [bindsI, ho, bindsAll]
              exact List.mem_map.2 ⟨e, List.mem_filter.2 ⟨by simpa using he, hbi⟩, rfl⟩
            refine (hl _ (hbs x List.mem_cons_self _ hbx)).2 (fun hm => ?_)
            obtain ⟨y, hy, hye⟩ := List.mem_map.1 hm
            rcases List.mem_cons.1 hy with rfl | hy
            · rw [← hye] at hbx
              exact hself y List.mem_cons_self hbx
            · exact (hap'.1 y hy).1 (hye ▸ hbx)
        rw [hnil] at this
        cases this
    · obtain ⟨h0, o, ho, hbind⟩ := mem_ready.1 hi
      have hlt : i < ops.size := (Array.getElem?_eq_some_iff.1 ho).1
      have hol : ops.toList[i]? = some o := by simpa using ho
      have hib : ∀ b ∈ bindsI ops.toList i, listed.getD b false = true := by
        intro b hb
        simp only [bindsI, hol, bindsAll] at hb
        obtain ⟨e, he, rfl⟩ := List.mem_map.1 hb
        have := List.mem_filter.1 he
        exact hbind e (by simpa using this.1) this.2
      have hiR : i ∈ R.map (·.1) := by
        by_cases hm : i ∈ R.map (·.1)
        · exact hm
        · have := (hl i hlt).2 hm
          rw [getD_lt (by omega) true false, this] at h0
          cases h0
      obtain ⟨x, hx, hxi⟩ := List.mem_map.1 hiR
      subst hxi
      obtain ⟨X, Y, rfl⟩ := List.append_of_mem hx
      have hbefore : ∀ y ∈ X, isBefore (befores ops.toList) y.1 x.1 = false := by
        intro y hy
        cases hc : isBefore (befores ops.toList) y.1 x.1 with
        | false => rfl
        | true =>
          have hmem : y.1 ∈ (befores ops.toList).getD x.1 [] := by simpa [isBefore] using hc
          exact absurd (befores_closed (C := fun j => listed.getD j false = true) hcl hib hmem) (hun y (List.mem_append_left _ hy))
      obtain ⟨σi, i1, i2, _⟩ := front_run (seen := []) (fun y hy => by cases hy) hbefore (fun y hy => by cases hy) hpc (fun y hy => (hit y hy).choose_spec.2.2.2.2) hr
      obtain ⟨o', ho', hop, hg, hdst, _⟩ := hit x hx
      rw [hol] at ho'
      cases ho'
      have hsub : (X ++ Y).Sublist (X ++ x :: Y) := List.Sublist.append_left (List.sublist_cons_self _ _) _
      have hmemsub : ∀ y ∈ X ++ Y, y ∈ X ++ x :: Y := fun y hy => hsub.subset hy
      have hne : ∀ y ∈ X ++ Y, y.1 ≠ x.1 := by
        intro y hy
        have hp := List.pairwise_append.1 hap
        rcases List.mem_append.1 hy with hy | hy
        · exact (hp.2.2 y hy x List.mem_cons_self).2
        · exact fun e => ((List.pairwise_cons.1 hp.2.1).1 y hy).2 e.symm
      have next : ∀ a' w' G' L' M', FSim T P A N K base G' L' M' σi a' w' → Stp K base G w G' w' → wpAnyIn F k P .any ops Q n (listed.setIfInBounds x.1 true) a' w' := by
        intro a' w' G' L' M' hs hst
        refine ih (X ++ Y) _ σi a' w' G' L' M' (by simp at hn ⊢; omega) (fun y hy => hit y (hmemsub y hy)) (hpc.sublist hsub) (hap.sublist hsub) (fun y hy => hself y (hmemsub y hy)) (fun y hy => hbs y (hmemsub y hy)) (by simpa using hsz) ?_ ?_ i2 hs
          (by have := hst.below.size; omega) (by rw [step1_rnd i1]; exact hF) (fun a2 w2 G2 L2 M2 hs2 hst2 => hQ a2 w2 G2 L2 M2 hs2 (hst.trans hst2))
        · intro j hj
          by_cases hji : x.1 = j
          · subst hji
            constructor
            · intro _ hm
              obtain ⟨y, hy, e⟩ := List.mem_map.1 hm
              exact hne y hy e
            · intro _
              simp [hsz, hlt]
          · rw [getD_set_ne false hji, hl j hj]
            constructor
            · intro h1 hm
              obtain ⟨y, hy, e⟩ := List.mem_map.1 hm
              exact h1 (List.mem_map.2 ⟨y, hmemsub y hy, e⟩)
            · intro h1 hm
              obtain ⟨y, hy, e⟩ := List.mem_map.1 hm
              refine h1 (List.mem_map.2 ⟨y, ?_, e⟩)
              rcases List.mem_append.1 hy with hy | hy
              · exact List.mem_append_left _ hy
              · rcases List.mem_cons.1 hy with rfl | hy
                · exact absurd e hji
                · exact List.mem_append_right _ hy
        · intro j hj b hb
          by_cases hji : x.1 = j
          · subst hji
            exact getD_set_true (hib b hb)
          · rw [getD_set_ne false hji] at hj
            exact getD_set_true (hcl j hj b hb)
      unfold wpOpIn
      simp only [ho]
      have hbad := step_bad i1
      rw [guard_ok h hg hbad]
      unfold step1 at i1
      simp only [hbad, Bool.false_eq_true, if_false] at i1
      split
      · rename_i hw
        rw [if_pos hw, hdst] at i1
        exact op_ok hcall hy ht h hb (dstsOk_at hd hol) hF hop i1 next
      · rename_i hw
        rw [if_neg hw, hdst] at i1
        cases i1
        refine ⟨fun f _ => hF.fn f, next _ w G L M (h.put (dstsOk_at hd hol) .undef) (Stp.refl h.kOwn)⟩
/-- A region that draws its order. -/
theorem draw_ok (ht : TOK T P) : DrawOK T P := by
  intro ex hcall hy A N K base F k id ops order q σ σ' a w G L M Q hd hlen hc he h hb hF hQ
  obtain ⟨R, r1, r2, r3, r4, r5, r6, r7, r8, r9⟩ := draw_facts hc
  have hlt : ∀ j ∈ order, j < ops.size := by
    intro j hj
    rw [← r1] at hj
    obtain ⟨x, hx, rfl⟩ := List.mem_map.1 hj
    obtain ⟨o, ho, _⟩ := r3 x hx
    simpa using (List.getElem?_eq_some_iff.1 ho).1
  have hnd : order.Nodup := by
    rw [← r1]
    refine List.Pairwise.map _ (fun x y h => h.2) r6
  have hall : ∀ j, j < ops.size → j ∈ R.map (·.1) := by
    intro j hj
    rw [r1]
    exact nodup_all hnd hlt hlen hj
  have hst : Stp K base G w G { w with drawn := w.drawn + 1 } := ⟨Ext.refl _ _, fun b hb => ⟨rfl, h.kOwn b hb⟩, (RowKit.Below.refl _ _).drew⟩
  have hs : FSim T P A N K base G L M σ a { w with drawn := w.drawn + 1 } := ⟨h.sim.drew, h.size, h.tmps, h.kills, h.loc, h.lOwn, h.inj, h.kOwn, h.defers.ext (Ext.refl base G), h.marks, h.mNodup, h.mLen⟩
  have hR : R.length = ops.size := by
    have := congrArg List.length r1
    simpa [hlen] using this
  refine wpIn_region_any ht.mixed (any_ok hcall hy ht hd ops.size R _ σ a _ G L M hR r3 r4 r6 r7 (fun x hx b hb => ?_) (by simp) ?_ ?_ (runs_of (fun y hy => by cases hy) r4 (r2 ▸ he)) hs hb hF (fun a' w' G' L' M' hs' hst' => hQ a' w' G' L' M' hs' (hst.trans hst')))
  · have := r9 x hx b hb
    simp only [List.map_nil, List.nil_append] at this
    exact hlt b this
  · intro j hj
    constructor
    · intro hx
      simp [hj] at hx
    · intro hx
      exact absurd (hall j hj) hx
  · intro j hj
    exfalso
    by_cases hjl : j < ops.size
    · simp [hjl] at hj
    · simp [hjl] at hj
end
end Go.Proofs.YtkgmeeenacnhfaaGreat.Eng
