/- Tables that know some calls ahead; what a reading says of an abstract value; runs with enough fuel. No condition. -/
import Derived.Test.YtkgmeeenacnhfaaGreatNdE
set_option linter.unusedVariables false
set_option linter.unusedSimpArgs false
namespace Go.Proofs.YtkgmeeenacnhfaaGreat.Eng
open Go
open Go.RowKit (Below)
theorem clsOf_any (h1 h2 : FuncId → How) : clsOf h1 = clsOf h2 := by funext a; cases a <;> rfl
theorem isEff_any (h1 h2 : FuncId → How) : isEff h1 = isEff h2 := by funext a; simp only [isEff, clsOf_any h1 h2]
theorem pairOk_any (h1 h2 : FuncId → How) : pairOk h1 = pairOk h2 := by funext p o; simp only [pairOk, isEff_any h1 h2, clsOf_any h1 h2]
theorem chks_any (h1 h2 : FuncId → How) (bf : List (List Nat)) (j : Nat) (box : Bool) : ∀ seen, chks h1 bf j box seen = chks h2 bf j box seen
  | [] => rfl
  | (i, p) :: r => by simp only [chks, chks_any h1 h2 bf j box r, clsOf_any h1 h2]
theorem mayStand_any (h1 h2 : FuncId → How) : mayStand h1 = mayStand h2 := by funext bf j o seen; simp only [mayStand, pairOk_any h1 h2, clsOf_any h1 h2]
theorem ownDst_any (h1 h2 : FuncId → How) : ownDst h1 = ownDst h2 := by funext o; simp only [ownDst, clsOf_any h1 h2]
theorem cDraw_any (P : Program) (A : Ann) (h1 h2 : FuncId → How) (ops : List Oper) (bf : List (List Nat)) : ∀ order seen, cDraw P A h1 ops bf order seen = cDraw P A h2 ops bf order seen
  | [], _ => rfl
  | j :: r, seen => by simp only [cDraw, cDraw_any P A h1 h2 ops bf r, isEff_any h1 h2, mayStand_any h1 h2, ownDst_any h1 h2, chks_any h1 h2]
theorem cCode_any (P : Program) (A : Ann) (h1 h2 : FuncId → How) (n : Nat) (c : Code) : cCode P A h1 n c = cCode P A h2 n c := by
  induction c with
  | region id ops draw => simp only [cCode, cDraw_any P A h1 h2]
  | seq a b iha ihb => simp only [cCode, iha, ihb]
  | cond c a b iha ihb => simp only [cCode, iha, ihb]
  | block i b ih => simp only [cCode, ih]
  | loop b ih => simp only [cCode, ih]
  | rangeFunc g ps a b iha ihb => simp only [cCode, iha, ihb]
  | _ => rfl
theorem cFn_any (P : Program) (A : Ann) (h1 h2 : FuncId → How) (fn : Func) : cFn P A h1 fn = cFn P A h2 fn := by
  unfold cFn
  split
  · rfl
  · rw [cCode_any P A h1 h2]
section
variable {T T' : Tbl} {P : Program} {base : Nat} {G : Ghost} {S : Store} {w : World}
theorem LoopRel.any {r : ALoop} {R : Loop} (h : LoopRel T P G r R) : LoopRel T' P G r R := by
  refine ⟨h.state, h.pending, h.ps, h.tmps, h.lt, ?_⟩
  obtain ⟨A, h1, h2⟩ := h.code
  exact ⟨A, by rw [cCode_any P A T'.how T.how]; exact h1, by rw [cCode_any P A T'.how T.how]; exact h2⟩
theorem Sim.any (h : Sim T P base G S w) : Sim T' P base G S w :=
  ⟨h.imm, h.immOwn, h.ownLt, h.boxLen, h.box, h.stampLen, h.stamp, h.mapLen, h.map, h.loopLen, fun l r e => by
    obtain ⟨blk, R, h1, h2, h3, h4⟩ := h.loop l r e
    exact ⟨blk, R, h1, h2, h3, h4.any⟩⟩
theorem PureOK.any {f : FuncId} {args : List PV} {r : PV} (h : PureOK T P f args r) : PureOK T' P f args r := by
  intro imm w vs k h1 h2 h3
  refine CallsIn.mono (h imm w vs k h1 h2 h3) (fun e w' he => ?_)
  cases e with
  | returned v =>
    obtain ⟨G', S', r', r1, g1, g2⟩ := he
    exact ⟨G', S', r', r1, g1.any, g2⟩
  | panicked c => exact he
  | outgrown => exact he
theorem RetS.any {r : PV} {S' : Store} {e : Ending} {w' : World} (h : RetS T P base G w r S' e w') : RetS T' P base G w r S' e w' := by
  cases e with
  | returned v =>
    obtain ⟨G', g1, g2⟩ := h
    exact ⟨G', g1.any, g2⟩
  | panicked c => exact h
  | outgrown => exact h
end
/-- Calls whose results are known. -/
abbrev Memo := List (FuncId × List PV × PV)
def memoHas : Memo → FuncId → Bool
  | [], _ => false
  | (g, _, _) :: m, f => bif Nat.beq g f then true else memoHas m f
def memoG : Memo → FuncId → List PV → Option PV
  | [], _, _ => none
  | (g, as, r) :: m, f, xs => bif (bif Nat.beq g f then PV.sames as xs else false) then some r else memoG m f xs
def withMemo (T : Tbl) (m : Memo) : Tbl := { fn := T.fn, how := fun f => match T.how f with
  | .pure own => bif memoHas m f then .given (memoG m f) else .pure own
  | h => h }
def Knows (P : Program) (e : FuncId × List PV × PV) : Prop := Enter P e.1 ∧ ∀ T, PureOK T P e.1 e.2.1 e.2.2
theorem memoHas_enter {P : Program} {f : FuncId} : ∀ {m : Memo}, (∀ e ∈ m, Knows P e) → memoHas m f = true → Enter P f
  | [], _, h => by cases h
  | (g, as, r) :: m, hm, h => by
    unfold memoHas at h
    cases hb : Nat.beq g f with
    | true =>
      have : g = f := Nat.eq_of_beq_eq_true hb
      subst this
      exact (hm _ List.mem_cons_self).1
    | false =>
      rw [hb] at h
      exact memoHas_enter (fun e he => hm e (List.mem_cons_of_mem _ he)) h
theorem memoG_ok {P : Program} {T : Tbl} {f : FuncId} {xs : List PV} {r : PV} : ∀ {m : Memo}, (∀ e ∈ m, Knows P e) → memoG m f xs = some r → PureOK T P f xs r
  | [], _, h => by cases h
  | (g, as, r') :: m, hm, h => by
    unfold memoG at h
    cases hb : Nat.beq g f with
    | true =>
      have : g = f := Nat.eq_of_beq_eq_true hb
      subst this
      rw [hb] at h
      cases hs : PV.sames as xs with
      | true =>
        rw [hs] at h
        simp only [cond_true, Option.some.injEq] at h
        rw [← sames_eq hs, ← h]
        exact (hm _ List.mem_cons_self).2 T
      | false =>
        rw [hs] at h
        exact memoG_ok (fun e he => hm e (List.mem_cons_of_mem _ he)) h
    | false =>
      rw [hb] at h
      exact memoG_ok (fun e he => hm e (List.mem_cons_of_mem _ he)) h
theorem TOK.withMemo {T : Tbl} {P : Program} (ht : TOK T P) {m : Memo} (hm : ∀ e ∈ m, Knows P e) : TOK (withMemo T m) P where
  fn f af h := by
    obtain ⟨fn, A, h1, h2⟩ := ht.fn f af h
    exact ⟨fn, A, h1, by rw [cFn_any P A _ T.how]; exact h2⟩
  given f g h := by
    simp only [Eng.withMemo] at h
    split at h
    · rename_i own ho
      cases hh : memoHas m f with
      | true =>
        rw [hh] at h
        simp only [cond_true, How.given.injEq] at h
        subst h
        exact ⟨memoHas_enter hm hh, fun args r hr => memoG_ok hm hr⟩
      | false => rw [hh] at h; cases h
    · rename_i hne
      obtain ⟨h1, h2⟩ := ht.given f g h
      exact ⟨h1, fun args r hr => (h2 args r hr).any⟩
  store f g h := by
    simp only [Eng.withMemo] at h
    split at h
    · cases hh : memoHas m f with
      | true => rw [hh] at h; cases h
      | false => rw [hh] at h; cases h
    · obtain ⟨h1, h2⟩ := ht.store f g h
      exact ⟨h1, fun hr _ _ _ _ _ hs hb ha => CallsIn.mono (h2 hr hs.any hb ha) (fun e w' he => he.any)⟩
  mixed := ht.mixed
/-- What a call comes to, once reckoned, is known. -/
theorem Knows.of {T : Tbl} {P : Program} (ht : TOK T P) {n : Nat} {own : Bool} {f : FuncId} {args : List PV} {r : PV} (h : callP T (exn T n) own f args = some r) : Knows P (f, args, r) :=
  ⟨callP_enter ht h, fun T' => (callP_ok (callOK_of ((code_all ht (draw_ok ht) n n (Nat.le_refl _)).1) ht) h).any⟩
end Go.Proofs.YtkgmeeenacnhfaaGreat.Eng
namespace Go.Proofs.YtkgmeeenacnhfaaGreat.Eng
open Go
open Go.RowKit (Below)
section
variable {H : Type}
def litPV : Lit → PV
  | .int k n => .int k n
  | .bool b => .bool b
  | .string s => .str s
  | _ => .junk
mutual
def pvD : DataW H → PV
  | .lit l => litPV l
  | .nil => .list 0 []
  | .slice es _ => .list 0 (pvDs es)
  | .agg ps => .agg (flat (pvDs ps))
  | _ => .junk
def pvDs : List (DataW H) → List PV
  | [] => []
  | d :: ds => pvD d :: pvDs ds
end
theorem pvDs_eq : ∀ ds : List (DataW H), pvDs ds = ds.map pvD
  | [] => rfl
  | d :: ds => by rw [pvDs, List.map_cons, pvDs_eq ds]
mutual
def PV.sz : PV → Nat
  | .list _ xs => PV.szs xs + 1
  | .agg cs => PV.szs cs + 1
  | _ => 1
def PV.szs : List PV → Nat
  | [] => 0
  | x :: xs => PV.sz x + PV.szs xs
end
theorem szs_append : ∀ xs ys : List PV, PV.szs (xs ++ ys) = PV.szs xs + PV.szs ys
  | [], ys => by simp [PV.szs]
  | x :: xs, ys => by simp only [List.cons_append, PV.szs, szs_append xs ys]; omega
theorem szs_cells (p : PV) : PV.szs p.cells ≤ PV.sz p := by
  cases p <;> simp [PV.cells, PV.szs, PV.sz]
theorem szs_flat : ∀ xs : List PV, PV.szs (flat xs) ≤ PV.szs xs
  | [] => by simp [flat, PV.szs]
  | x :: xs => by
    have h1 := szs_cells x
    have h2 := szs_flat xs
    simp only [flat, szs_append, PV.szs]
    omega
theorem sz_pos (p : PV) : 1 ≤ PV.sz p := by cases p <;> simp [PV.sz]
theorem length_szs : ∀ xs : List PV, xs.length ≤ PV.szs xs
  | [] => by simp [PV.szs]
  | x :: xs => by
    have h1 := sz_pos x
    have h2 := length_szs xs
    simp only [List.length_cons, PV.szs]
    omega
theorem sz_mem {x : PV} : ∀ {xs : List PV}, x ∈ xs → PV.sz x ≤ PV.szs xs
  | y :: ys, h => by
    simp only [PV.szs]
    rcases List.mem_cons.1 h with rfl | h
    · omega
    · have := sz_mem h; omega
/-- What a value of a type looks like. -/
inductive TyV (P : Program) : TypeId → PV → Prop
  | int {t : TypeId} {k : IntKind} {n : Int} : P.underlying t = some (.int k) → (Lit.int k n).wf = true → TyV P t (.int k n)
  | bool {t : TypeId} {b : Bool} : P.underlying t = some .bool → TyV P t (.bool b)
  | str {t : TypeId} {s : List UInt8} : P.underlying t = some .string → TyV P t (.str s)
  | list {t e : TypeId} {xs : List PV} : P.underlying t = some (.slice e) → (∀ x ∈ xs, TyV P e x) → TyV P t (.list 0 xs)
  | struct {t : TypeId} {fs : Array Field} {vs : List PV} : P.underlying t = some (.struct fs) → vs.length = fs.toList.length → (∀ (i : Nat) (f : Field) (v : PV), fs.toList[i]? = some f → vs[i]? = some v → TyV P f.type v) → TyV P t (.agg (flat vs))
  | array {t e : TypeId} {n : Nat} {vs : List PV} : P.underlying t = some (.array n e) → vs.length = n → (∀ v ∈ vs, TyV P e v) → TyV P t (.agg (flat vs))
def tiles (P : Program) (ts : List TypeId) : Nat → List Field → Option Nat
  | off, [] => some off
  | off, f :: fs => if f.offset = off ∧ ts.contains f.type = true then tiles P ts (off + P.cellsOf f.type) fs else none
/-- Types of integers, bools, strings, and slices, structs, arrays of such: each one's parts are among them. -/
def okTys (P : Program) (ts : List TypeId) : Bool := ts.all fun t => match P.underlying t with
  | some (.int _) => decide (P.cellsOf t = 1)
  | some .bool => decide (P.cellsOf t = 1)
  | some .string => decide (P.cellsOf t = 1)
  | some (.slice e) => ts.contains e && decide (0 < P.cellsOf e) && decide (P.cellsOf t = 1)
  | some (.struct fs) => decide (tiles P ts 0 fs.toList = some (P.cellsOf t))
  | some (.array n e) => ts.contains e && decide (n * P.cellsOf e = P.cellsOf t)
  | _ => false
/-- The ghost in which all that lies in the world never turns. -/
def G0 (w : World) : Ghost := immG (fun b o => w.cell? ⟨b, o, none⟩)
structure Opens (P : Program) (w : World) (t : TypeId) (cs : List Value) (p : PV) : Prop where
  len : p.cells.length = cs.length
  size : cs.length = P.cellsOf t
  rel : ∀ (k : Nat) (c : PV) (v : Value), p.cells[k]? = some c → cs[k]? = some v → v.oneCell' = true ∧ nostC c = true ∧ Rel (G0 w) c v
  ty : TyV P t p
theorem mapM_spec {α β : Type} {f : α → Option β} : ∀ {l : List α} {r : List β}, l.mapM f = some r → r.length = l.length ∧ ∀ (i : Nat) (x : α), l[i]? = some x → ∃ y, r[i]? = some y ∧ f x = some y
  | [], r, h => by
    simp at h
    subst h
    exact ⟨rfl, fun i x h => by simp at h⟩
  | a :: l, r, h => by
    rw [List.mapM_cons] at h
    cases ha : f a with
    | none => rw [ha] at h; cases h
    | some y =>
      rw [ha] at h
      cases hl : l.mapM f with
      | none => rw [hl] at h; cases h
      | some ys =>
        rw [hl] at h
        simp only [Option.pure_def, Option.bind_eq_bind, Option.bind_some, Option.some.injEq] at h
        subst h
        obtain ⟨h1, h2⟩ := mapM_spec hl
        refine ⟨by simp [h1], fun i x hx => ?_⟩
        cases i with
        | zero => simp at hx; subst hx; exact ⟨y, rfl, ha⟩
        | succ i => exact h2 i x (by simpa using hx)
theorem flat_get {sz : Nat} : ∀ {xs : List PV}, (∀ x ∈ xs, x.cells.length = sz) → ∀ {k : Nat} {c : PV}, (flat xs)[k]? = some c → ∃ (i j : Nat) (x : PV), k = i * sz + j ∧ j < sz ∧ xs[i]? = some x ∧ x.cells[j]? = some c
  | [], _, k, c, h => by simp [flat] at h
  | x :: xs, hw, k, c, h => by
    have hx := hw x List.mem_cons_self
    simp only [flat] at h
    rcases Nat.lt_or_ge k x.cells.length with hk | hk
    · rw [List.getElem?_append_left hk] at h
      exact ⟨0, k, x, by omega, by omega, rfl, h⟩
    · rw [List.getElem?_append_right hk] at h
      obtain ⟨i, j, y, h1, h2, h3, h4⟩ := flat_get (fun y hy => hw y (List.mem_cons_of_mem _ hy)) h
      exact ⟨i + 1, j, y, by rw [Nat.add_mul]; omega, h2, h3, h4⟩
theorem cells_one {p : PV} {P : Program} {t : TypeId} (h : TyV P t p) (hn : ∀ fs, P.underlying t ≠ some (.struct fs)) (ha : ∀ n e, P.underlying t ≠ some (.array n e)) : p.cells = [p] := by
  cases h with
  | int => rfl
  | bool => rfl
  | str => rfl
  | list => rfl
  | struct h => exact absurd h (hn _)
  | array h => exact absurd h (ha _ _)
variable {enc : TypeId × Value → H} {P : Program} {w : World} {ts : List TypeId}
theorem opens_one {t : TypeId} {p : PV} {v : Value} (hc : P.cellsOf t = 1) (h1 : v.oneCell' = true) (h2 : nostC p = true) (h3 : p.cells = [p]) (hr : Rel (G0 w) p v) (ht : TyV P t p) : Opens P w t [v] p :=
  ⟨by rw [h3]; rfl, by rw [hc]; rfl, fun k c u e1 e2 => by
    rw [h3] at e1
    cases k with
    | zero => simp at e1 e2; subst e1 e2; exact ⟨h1, h2, hr⟩
    | succ k => simp at e1, ht⟩
theorem tiles_spec {R : TypeId → List Value → Option (DataW H × List MemPlace)} {cs : List Value} (hR : ∀ t cs d ps, ts.contains t = true → R t cs = some (d, ps) → Opens P w t cs (pvD d)) :
    ∀ {fs : List Field} {off n : Nat} {xs : List (DataW H × List MemPlace)}, tiles P ts off fs = some n → fs.mapM (fun f => R f.type ((cs.drop f.offset).take (P.cellsOf f.type))) = some xs → off ≤ n ∧ (off ≤ cs.length → n ≤ cs.length) ∧
      (flat (pvDs (xs.map (·.1)))).length = n - off ∧ (∀ (k : Nat) (c : PV) (v : Value), (flat (pvDs (xs.map (·.1))))[k]? = some c → cs[off + k]? = some v → v.oneCell' = true ∧ nostC c = true ∧ Rel (G0 w) c v) ∧
      xs.length = fs.length ∧ ∀ (i : Nat) (f : Field) (v : PV), fs[i]? = some f → (pvDs (xs.map (·.1)))[i]? = some v → TyV P f.type v
  | [], off, n, xs, ht, h => by
    simp at h
    subst h
    cases ht
    exact ⟨Nat.le_refl _, id, by simp [pvDs, flat], fun k c v e => by simp [pvDs, flat] at e, rfl, fun i f v e => by simp at e⟩
  | f :: fs, off, n, xs, ht, h => by
    simp only [tiles] at ht
    split at ht
    · rename_i hcond
      obtain ⟨hoff, hmem⟩ := hcond
      rw [List.mapM_cons] at h
      cases ha : R f.type ((cs.drop f.offset).take (P.cellsOf f.type)) with
      | none => rw [ha] at h; cases h
      | some y =>
        rw [ha] at h
        cases hl : fs.mapM (fun f => R f.type ((cs.drop f.offset).take (P.cellsOf f.type))) with
        | none => rw [hl] at h; cases h
        | some ys =>
          rw [hl] at h
          simp only [Option.pure_def, Option.bind_eq_bind, Option.bind_some, Option.some.injEq] at h
          subst h
          obtain ⟨g1, g2, g3, g4, g5, g6⟩ := tiles_spec hR ht hl
          obtain ⟨d, ps⟩ := y
          have o := hR _ _ _ _ hmem ha
          have hlen : (pvD d).cells.length = P.cellsOf f.type := o.len.trans o.size
          have hsz := o.size
          rw [List.length_take, List.length_drop, hoff] at hsz
          refine ⟨by omega, fun hle => ?_, ?_, fun k c v e1 e2 => ?_, by simp [g5], fun i f' v e1 e2 => ?_⟩
          · rcases Nat.eq_zero_or_pos (P.cellsOf f.type) with h0 | h0
            · rw [h0, Nat.add_zero] at g2; exact g2 hle
            · exact g2 (by omega)
          · simp only [List.map_cons, pvDs, flat, List.length_append, hlen, g3]
            omega
          · simp only [List.map_cons, pvDs, flat] at e1
            rcases Nat.lt_or_ge k (pvD d).cells.length with hk | hk
            · rw [List.getElem?_append_left hk] at e1
              refine o.rel k c v e1 ?_
              rw [hlen] at hk
              rw [List.getElem?_take_of_lt hk, List.getElem?_drop, hoff]
              exact e2
            · rw [List.getElem?_append_right hk] at e1
              refine g4 _ c v e1 ?_
              rw [hlen] at hk ⊢
              rw [show off + P.cellsOf f.type + (k - P.cellsOf f.type) = off + k by omega]
              exact e2
          · cases i with
            | zero =>
              simp [pvDs] at e1 e2
              subst e1 e2
              exact o.ty
            | succ i => exact g6 i f' v (by simpa using e1) (by simpa [pvDs] using e2)
    · cases ht
theorem open_all {held : Bool} (hok : okTys P ts = true) : ∀ (fuel : Nat) (t : TypeId) (cs : List Value) (d : DataW H) (ps : List MemPlace), ts.contains t = true → DataW.trod enc P w 0 (fun _ => true) held fuel t cs = some (d, ps) → Opens P w t cs (pvD d)
  | 0, t, cs, d, ps, _, h => by simp [DataW.trod] at h
  | fuel + 1, t, cs, d, ps, hm, h => by
    have ih := open_all (held := held) hok fuel
    have hT := List.all_eq_true.1 hok t (by simpa using hm)
    cases hu : P.underlying t with
    | none => rw [hu] at hT; cases hT
    | some td =>
      rw [hu] at hT
      unfold DataW.trod at h
      rw [hu] at h
      cases td with
      | int k =>
        simp only [decide_eq_true_eq] at hT
        split at h <;> first | (rename_i q; cases q; done) | (cases h; done) | skip
        rename_i k1 k2 n heq
        cases heq
        split at h
        · rename_i hc
          cases h
          obtain ⟨rfl, hw⟩ := hc
          exact opens_one hT rfl rfl rfl (.int _ _) (.int hu hw)
        · cases h
      | bool =>
        simp only [decide_eq_true_eq] at hT
        split at h <;> first | (rename_i q; cases q; done) | (cases h; done) | skip
        rename_i b heq
        cases h
        exact opens_one hT rfl rfl rfl (.bool _) (.bool hu)
      | string =>
        simp only [decide_eq_true_eq] at hT
        split at h <;> first | (rename_i q; cases q; done) | (cases h; done) | skip
        rename_i s heq
        split at h
        · cases h
          have e : s = ⟨s.data.toList.toArray⟩ := by cases s; simp
          refine opens_one hT rfl rfl rfl ?_ (.str hu)
          have := Rel.str (G := G0 w) s.data.toList
          rw [← e] at this
          exact this
        · cases h
      | slice e =>
        simp only [Bool.and_eq_true, decide_eq_true_eq] at hT
        obtain ⟨⟨hme, hsz⟩, hone⟩ := hT
        split at h <;> first | (rename_i q; cases q; done) | (cases h; done) | skip
        · rename_i e' heq
          cases heq
          cases h
          exact opens_one hone rfl rfl rfl (.listN 0 trivial) (.list hu (fun x hx => by cases hx))
        · rename_i e' a len cap heq
          cases heq
          dsimp only at h
          split at h
          · rename_i hcond
            obtain ⟨_, hlc, _⟩ := hcond
            cases hm1 : (List.range len).mapM (fun i => (w.cells? 0 (a.add (i * P.cellsOf e)) (P.cellsOf e)).bind (DataW.trod enc P w 0 (fun _ => true) held fuel e)) with
            | none => rw [hm1] at h; cases h
            | some elems =>
              rw [hm1] at h
              simp only [Option.bind_some, if_true] at h
              obtain ⟨rest, hrest, heq⟩ := Option.map_eq_some_iff.1 h
              cases heq
              obtain ⟨g1, g2⟩ := mapM_spec hm1
              rw [List.length_range] at g1
              have hget : ∀ (i : Nat) (x : PV), (pvDs (elems.map (·.1)))[i]? = some x → i < len ∧ ∃ vs, w.cells? 0 (a.add (i * P.cellsOf e)) (P.cellsOf e) = some vs ∧ Opens P w e vs x := by
                intro i x hx
                rw [pvDs_eq, List.map_map, List.getElem?_map] at hx
                cases hy : elems[i]? with
                | none => rw [hy] at hx; cases hx
                | some y =>
                  rw [hy] at hx
                  cases hx
                  have hi : i < len := by have := (List.getElem?_eq_some_iff.1 hy).1; omega
                  obtain ⟨y', h1, h2⟩ := g2 i i (by simp [hi])
                  rw [hy] at h1
                  cases h1
                  obtain ⟨vs, h3, h4⟩ := Option.bind_eq_some_iff.1 h2
                  exact ⟨hi, vs, h3, ih _ _ _ _ hme h4⟩
              have hw : ∀ x ∈ pvDs (elems.map (·.1)), x.cells.length = P.cellsOf e := by
                intro x hx
                obtain ⟨i, hi, e1⟩ := List.getElem_of_mem hx
                obtain ⟨_, vs, _, o⟩ := hget i x (by rw [List.getElem?_eq_getElem hi, e1])
                exact o.len.trans o.size
              have hpl : (pvDs (elems.map (·.1))).length = len := by rw [pvDs_eq, List.length_map, List.length_map, g1]
              have hty : TyV P t (.list 0 (pvDs (elems.map (·.1)))) := .list hu (fun v hv => by
                obtain ⟨i, hi, e1⟩ := List.getElem_of_mem hv
                obtain ⟨_, _, _, o⟩ := hget i v (by rw [List.getElem?_eq_getElem hi, e1])
                exact o.ty)
              refine opens_one hone rfl rfl rfl ?_ hty
              show Rel (G0 w) (.list 0 (pvDs (elems.map (·.1)))) _
              have cellAt : ∀ {i j : Nat} {vs : List Value} {v : Value}, w.cells? 0 (a.add (i * P.cellsOf e)) (P.cellsOf e) = some vs → j < P.cellsOf e → vs[j]? = some v → w.cell? ((a.add (i * P.cellsOf e)).add j) = some v := by
                intro i j vs v h1 h2 h3
                unfold World.cells? at h1
                simp only [Nat.zero_le, if_true] at h1
                obtain ⟨_, h4⟩ := mapM_spec h1
                obtain ⟨y, h5, h6⟩ := h4 j j (by simp [h2])
                rw [h3] at h5
                cases h5
                exact h6
              by_cases hl0 : len = 0
              · subst hl0
                rw [List.eq_nil_of_length_eq_zero hpl]
                exact .listE 0 a cap (.inl rfl)
              · have hspot : a.spot = none := by
                  obtain ⟨x, hx⟩ : ∃ x, (pvDs (elems.map (·.1)))[0]? = some x := ⟨_, List.getElem?_eq_getElem (by omega)⟩
                  obtain ⟨_, vs, h1, o⟩ := hget 0 x hx
                  have hvl : 0 < vs.length := by rw [o.size]; exact hsz
                  have := cellAt h1 hsz (List.getElem?_eq_getElem hvl)
                  rw [Nat.zero_mul] at this
                  have e0 : (a.add 0).add 0 = a := rfl
                  rw [e0] at this
                  unfold World.cell? at this
                  split at this
                  · split at this
                    · cases this
                    · rename_i hs
                      simpa using hs
                  · cases this
                obtain ⟨ab, ao, asp⟩ := a
                simp only at hspot
                subst hspot
                have haddr : ∀ i j : Nat, ((⟨ab, ao, none⟩ : Addr).add (i * P.cellsOf e)).add j = ⟨ab, ao + (i * P.cellsOf e + j), none⟩ := by
                  intro i j
                  unfold Addr.add
                  split
                  · split
                    · simp_all
                    · simp_all
                  · split
                    · simp_all
                    · simp; omega
                have hcell : ∀ (k : Nat) (c : PV), (flat (pvDs (elems.map (·.1))))[k]? = some c → ∃ v, w.cell? ⟨ab, ao + k, none⟩ = some v ∧ v.oneCell' = true ∧ nostC c = true ∧ Rel (G0 w) c v := by
                  intro k c hk
                  obtain ⟨i, j, x, rfl, hj, hx, hc⟩ := flat_get hw hk
                  obtain ⟨_, vs, h1, o⟩ := hget i x hx
                  have hjl : j < vs.length := by rw [o.size]; exact hj
                  have h2 := cellAt h1 hj (List.getElem?_eq_getElem hjl)
                  rw [haddr] at h2
                  exact ⟨_, h2, o.rel j c _ hc (List.getElem?_eq_getElem hjl)⟩
                rw [show len = (pvDs (elems.map (·.1))).length from hpl.symm]
                refine .list 0 _ ab ao cap (P.cellsOf e) (fun k => (w.cell? ⟨ab, ao + k, none⟩).getD undef) hsz hw (by rw [hpl]; exact hlc) (fun k c hk => ?_) (fun k c hk => ?_) (fun k c hk => ?_) trivial
                · obtain ⟨v, h1, _⟩ := hcell k c hk
                  show w.cell? _ = _
                  rw [h1]
                  rfl
                · obtain ⟨v, h1, h2, h3, _⟩ := hcell k c hk
                  rw [h1]
                  exact ⟨h2, h3⟩
                · obtain ⟨v, h1, _, _, h4⟩ := hcell k c hk
                  rw [h1]
                  exact h4
          · cases h
      | struct fs =>
        simp only [decide_eq_true_eq] at hT
        dsimp only at h
        split at h
        · rename_i hlen
          cases hm1 : fs.toList.mapM (fun f => DataW.trod enc P w 0 (fun _ => true) held fuel f.type ((cs.drop f.offset).take (P.cellsOf f.type))) with
          | none => rw [hm1] at h; cases h
          | some xs =>
            rw [hm1] at h
            cases h
            obtain ⟨g1, g2, g3, g4, g5, g6⟩ := tiles_spec ih hT hm1
            have hpl : (pvDs (xs.map (·.1))).length = fs.toList.length := by rw [pvDs_eq, List.length_map, List.length_map, g5]
            exact ⟨by rw [hlen]; simpa [pvD, PV.cells] using g3, hlen, fun k c v e1 e2 => g4 k c v e1 (by simpa using e2), .struct hu hpl g6⟩
        · cases h
      | array n e =>
        simp only [Bool.and_eq_true, decide_eq_true_eq] at hT
        obtain ⟨hme, hsz⟩ := hT
        dsimp only at h
        split at h
        · rename_i hlen
          cases hm1 : (List.range n).mapM (fun i => DataW.trod enc P w 0 (fun _ => true) held fuel e ((cs.drop (i * P.cellsOf e)).take (P.cellsOf e))) with
          | none => rw [hm1] at h; cases h
          | some xs =>
            rw [hm1] at h
            cases h
            obtain ⟨g1, g2⟩ := mapM_spec hm1
            rw [List.length_range] at g1
            have hget : ∀ (i : Nat) (x : PV), (pvDs (xs.map (·.1)))[i]? = some x → i < n ∧ Opens P w e ((cs.drop (i * P.cellsOf e)).take (P.cellsOf e)) x := by
              intro i x hx
              rw [pvDs_eq, List.map_map, List.getElem?_map] at hx
              cases hy : xs[i]? with
              | none => rw [hy] at hx; cases hx
              | some y =>
                rw [hy] at hx
                cases hx
                have hi : i < n := by have := (List.getElem?_eq_some_iff.1 hy).1; omega
                obtain ⟨y', h1, h2⟩ := g2 i i (by simp [hi])
                rw [hy] at h1
                cases h1
                exact ⟨hi, ih _ _ _ _ hme h2⟩
            have hw : ∀ x ∈ pvDs (xs.map (·.1)), x.cells.length = P.cellsOf e := by
              intro x hx
              obtain ⟨i, hi, e1⟩ := List.getElem_of_mem hx
              obtain ⟨_, o⟩ := hget i x (by rw [List.getElem?_eq_getElem hi, e1])
              exact o.len.trans o.size
            have hpl : (pvDs (xs.map (·.1))).length = n := by rw [pvDs_eq, List.length_map, List.length_map, g1]
            refine ⟨?_, hlen, fun k c v e1 e2 => ?_, .array hu hpl (fun v hv => ?_)⟩
            · show (flat _).length = _
              rw [flat_length hw, hpl, hlen, hsz]
            · obtain ⟨i, j, x, rfl, hj, hx, hc⟩ := flat_get hw e1
              obtain ⟨_, o⟩ := hget i x hx
              refine o.rel j c v hc ?_
              rw [List.getElem?_take_of_lt hj, List.getElem?_drop]
              exact e2
            · obtain ⟨i, hi, e1⟩ := List.getElem_of_mem hv
              exact (hget i v (by rw [List.getElem?_eq_getElem hi, e1])).2.ty
        · cases h
      | _ => cases hT
end
end Go.Proofs.YtkgmeeenacnhfaaGreat.Eng
namespace Go.Proofs.YtkgmeeenacnhfaaGreat.Eng
open Go
section
variable {T : Tbl} {σ σ1 σ' : AS} {c a b : ACode} {e : AExit}
/-- Code comes to an end. -/
def EvC (T : Tbl) (c : ACode) (σ : AS) (e : AExit) (σ' : AS) : Prop := ∃ m, ∀ k, m ≤ k → exn T k c σ = some (e, σ')
theorem EvC.up {f : Nat → Option (AExit × AS)} (h : ∃ m, ∀ k, m ≤ k → f k = some (e, σ')) (hf : ∀ k, exn T (k + 1) c σ = f k) : EvC T c σ e σ' := by
  obtain ⟨m, h⟩ := h
  refine ⟨m + 1, fun k hk => ?_⟩
  obtain ⟨j, rfl⟩ : ∃ j, k = j + 1 := ⟨k - 1, by omega⟩
  rw [hf]
  exact h j (by omega)
theorem EvC.skip : EvC T .skip σ .normal σ := EvC.up (f := fun _ => some (.normal, σ)) ⟨0, fun _ _ => rfl⟩ (fun _ => rfl)
theorem EvC.exit {i : Nat} : EvC T (.exit i) σ (.exit i) σ := EvC.up (f := fun _ => some (.exit i, σ)) ⟨0, fun _ _ => rfl⟩ (fun _ => rfl)
theorem EvC.ret : EvC T .ret σ .ret σ := EvC.up (f := fun _ => some (.ret, σ)) ⟨0, fun _ _ => rfl⟩ (fun _ => rfl)
theorem EvC.seq (h1 : EvC T a σ .normal σ1) (h2 : EvC T b σ1 e σ') : EvC T (.seq a b) σ e σ' := by
  obtain ⟨m1, h1⟩ := h1
  obtain ⟨m2, h2⟩ := h2
  refine EvC.up (f := fun k => exF T (exn T k) (.seq a b) σ) ⟨max m1 m2, fun k hk => ?_⟩ (fun _ => rfl)
  simp only [exF, h1 k (by omega), h2 k (by omega)]
theorem EvC.seqX (h1 : EvC T a σ e σ1) (he : e ≠ .normal) : EvC T (.seq a b) σ e σ1 := by
  obtain ⟨m1, h1⟩ := h1
  refine EvC.up (f := fun k => exF T (exn T k) (.seq a b) σ) ⟨m1, fun k hk => ?_⟩ (fun _ => rfl)
  simp only [exF, h1 k (by omega)]
  cases e with
  | normal => exact absurd rfl he
  | exit i => rfl
  | ret => rfl
theorem EvC.cond {o : Opd} {t : Bool} (hc : aval σ o = some (.bool t)) (h : EvC T (if t then a else b) σ e σ') : EvC T (.cond o a b) σ e σ' := by
  obtain ⟨m, h⟩ := h
  refine EvC.up (f := fun k => exF T (exn T k) (.cond o a b) σ) ⟨m, fun k hk => ?_⟩ (fun _ => rfl)
  simp only [exF, hc]
  cases t with
  | true => exact h k hk
  | false => exact h k hk
theorem EvC.condT {o : Opd} (hc : aval σ o = some (.bool true)) (h : EvC T a σ e σ') : EvC T (.cond o a b) σ e σ' := EvC.cond hc h
theorem EvC.condF {o : Opd} (hc : aval σ o = some (.bool false)) (h : EvC T b σ e σ') : EvC T (.cond o a b) σ e σ' := EvC.cond hc h
theorem EvC.blockN {i : Nat} (h : EvC T b σ .normal σ') : EvC T (.block i b) σ .normal σ' := by
  obtain ⟨m, h⟩ := h
  refine EvC.up (f := fun k => exF T (exn T k) (.block i b) σ) ⟨m, fun k hk => ?_⟩ (fun _ => rfl)
  simp only [exF, h k hk]
theorem EvC.blockX {i : Nat} (h : EvC T b σ (.exit i) σ') : EvC T (.block i b) σ .normal σ' := by
  obtain ⟨m, h⟩ := h
  refine EvC.up (f := fun k => exF T (exn T k) (.block i b) σ) ⟨m, fun k hk => ?_⟩ (fun _ => rfl)
  simp only [exF, h k hk, if_true]
theorem EvC.blockR {i : Nat} (h : EvC T b σ .ret σ') : EvC T (.block i b) σ .ret σ' := by
  obtain ⟨m, h⟩ := h
  refine EvC.up (f := fun k => exF T (exn T k) (.block i b) σ) ⟨m, fun k hk => ?_⟩ (fun _ => rfl)
  simp only [exF, h k hk]
theorem EvC.loopN (h1 : EvC T b σ .normal σ1) (h2 : EvC T (.loop b) σ1 e σ') : EvC T (.loop b) σ e σ' := by
  obtain ⟨m1, h1⟩ := h1
  obtain ⟨m2, h2⟩ := h2
  refine EvC.up (f := fun k => exF T (exn T k) (.loop b) σ) ⟨max m1 m2, fun k hk => ?_⟩ (fun _ => rfl)
  simp only [exF, h1 k (by omega), h2 k (by omega)]
theorem EvC.loopX (h1 : EvC T b σ e σ1) (he : e ≠ .normal) : EvC T (.loop b) σ e σ1 := by
  obtain ⟨m1, h1⟩ := h1
  refine EvC.up (f := fun k => exF T (exn T k) (.loop b) σ) ⟨m1, fun k hk => ?_⟩ (fun _ => rfl)
  simp only [exF, h1 k (by omega)]
  cases e with
  | normal => exact absurd rfl he
  | exit i => rfl
  | ret => rfl
/-- Operations come to an end. -/
def EvR (T : Tbl) (ops : List AR) (σ σ' : AS) : Prop := ∃ m, ∀ k, m ≤ k → arun T (exn T k) ops σ = some σ'
theorem EvC.region {ops : List AR} (h : EvR T ops σ σ') : EvC T (.region ops) σ .normal σ' := by
  obtain ⟨m, h⟩ := h
  refine EvC.up (f := fun k => exF T (exn T k) (.region ops) σ) ⟨m, fun k hk => ?_⟩ (fun _ => rfl)
  simp only [exF, h k hk]
theorem EvR.nil : EvR T [] σ σ := ⟨0, fun _ _ => rfl⟩
theorem EvR.of {ops : List AR} (h : ∀ ex : Ex, arun T ex ops σ = some σ') : EvR T ops σ σ' := ⟨0, fun _ _ => h _⟩
theorem arun_app {ex : Ex} : ∀ {p q : List AR} {σ : AS}, arun T ex (p ++ q) σ = (match arun T ex p σ with
    | some σ1 => arun T ex q σ1
    | none => none)
  | [], q, σ => rfl
  | r :: p, q, σ => by
    rw [List.cons_append, arun_cons, arun_cons]
    cases step1 T ex r σ with
    | none => rfl
    | some σ1 =>
      simp only
      split
      · exact arun_app
      · rfl
theorem EvR.app {p q : List AR} (h1 : ∀ ex : Ex, arun T ex p σ = some σ1) (h2 : EvR T q σ1 σ') : EvR T (p ++ q) σ σ' := by
  obtain ⟨m, h2⟩ := h2
  exact ⟨m, fun k hk => by rw [arun_app, h1]; exact h2 k hk⟩
/-- A call in whatever state of this store. -/
def EvF (T : Tbl) (f : FuncId) (args : List PV) (S : Store) (r : PV) (S' : Store) : Prop := ∃ m, ∀ k, m ≤ k → ∀ σ : AS, σ.S = S → callF T (exn T k) f args σ = some (r, S')
theorem EvR.call {f : FuncId} {os : List Opd} {args : List PV} {d : Option Nat} {q : List AR} {r : PV} {S' : Store} (ha : avals σ os = some args) (hf : EvF T f args σ.S r S') (h : EvR T q (({ σ with S := S' } : AS).put d r) σ') : EvR T ({ dst := d, op := .call f os } :: q) σ σ' := by
  obtain ⟨m1, hf⟩ := hf
  obtain ⟨m2, h⟩ := h
  refine ⟨max m1 m2, fun k hk => ?_⟩
  simp only [arun, badG, wants, aop, ha, hf k (by omega) σ rfl, withS, List.all_nil, Bool.false_eq_true, if_false, if_true]
  exact h k (by omega)
/-- A guarded call that is wanted. -/
theorem EvR.callG {f : FuncId} {os : List Opd} {args : List PV} {d : Option Nat} {q : List AR} {r : PV} {S' : Store} {t : Nat} {bb : Bool} (hg : tget σ.tmps t = .bool bb) (ha : avals σ os = some args) (hf : EvF T f args σ.S r S') (h : EvR T q (({ σ with S := S' } : AS).put d r) σ') : EvR T ({ dst := d, op := .call f os, guard := some (t, bb) } :: q) σ σ' := by
  obtain ⟨m1, hf⟩ := hf
  obtain ⟨m2, h⟩ := h
  refine ⟨max m1 m2, fun k hk => ?_⟩
  simp only [arun, badG, wants, hg, beq_self_eq_true, aop, ha, hf k (by omega) σ rfl, withS, List.all_nil, Bool.false_eq_true, if_false, if_true]
  exact h k (by omega)
theorem EvR.callv {x : Opd} {f : FuncId} {fa fc : List PV} {os : List Opd} {args : List PV} {d : Option Nat} {q : List AR} {r : PV} {S' : Store} (hx : aval σ x = some (.fn f fa fc)) (ha : avals σ os = some args) (hf : EvF T f (fa ++ args ++ fc) σ.S r S') (h : EvR T q (({ σ with S := S' } : AS).put d r) σ') : EvR T ({ dst := d, op := .callv x os } :: q) σ σ' := by
  obtain ⟨m1, hf⟩ := hf
  obtain ⟨m2, h⟩ := h
  refine ⟨max m1 m2, fun k hk => ?_⟩
  simp only [arun, badG, wants, aop, hx, ha, callV, hf k (by omega) σ rfl, withS, List.all_nil, Bool.false_eq_true, if_false, if_true]
  exact h k (by omega)
/-- A call that shares no store. -/
def EvP (T : Tbl) (own : Bool) (f : FuncId) (args : List PV) (r : PV) : Prop := ∃ m, ∀ k, m ≤ k → callP T (exn T k) own f args = some r
def EvS (T : Tbl) (f : FuncId) (args : List PV) (S : Store) (r : PV) (S' : Store) : Prop := ∃ m, ∀ k, m ≤ k → callS T (exn T k) f args S = some (r, S')
theorem EvF.pure {own : Bool} {f : FuncId} {args as : List PV} {S S' : Store} {r r' : PV} (hh : T.how f = .pure own) (hl : ∀ σ : AS, σ.S = S → lends σ args = some as) (hp : EvP T own f as r) (hfin : finishP (some r) args S = some (r', S')) : EvF T f args S r' S' := by
  obtain ⟨m, hp⟩ := hp
  refine ⟨m, fun k hk σ hσ => ?_⟩
  subst hσ
  simp only [callF, hh, hl σ rfl, hp k hk, hfin]
theorem EvF.store {f : FuncId} {g : Store → List PV → Option (PV × Store)} {args : List PV} {S S' : Store} {r : PV} (hh : T.how f = .store g) (h : g S args = some (r, S')) : EvF T f args S r S' :=
  ⟨0, fun k _ σ hσ => by subst hσ; simp only [callF, hh, h]⟩
theorem EvF.given {f : FuncId} {g : List PV → Option PV} {args as : List PV} {S S' : Store} {r r' : PV} (hh : T.how f = .given g) (hl : ∀ σ : AS, σ.S = S → lends σ args = some as) (hc : closeds as = true) (hg : g as = some r) (hfin : finishP (some r) args S = some (r', S')) : EvF T f args S r' S' :=
  ⟨0, fun k _ σ hσ => by subst hσ; simp only [callF, hh, hl σ rfl, hc, if_true, hg, hfin]⟩
theorem EvF.shared {f : FuncId} {args : List PV} {S S' : Store} {r : PV} (hh : T.how f = .shared) (h : EvS T f args S r S') : EvF T f args S r S' := by
  obtain ⟨m, h⟩ := h
  exact ⟨m, fun k hk σ hσ => by subst hσ; simp only [callF, hh, h k hk]⟩
theorem EvS.of {f : FuncId} {fn : AFn} {args : List PV} {S : Store} {vs : List PV} (hf : T.fn f = some fn) (hn : args.length = fn.nparams) (h : EvC T fn.body { tmps := args, S := S } e σ') (he : e = .normal ∨ e = .ret) (hd : σ'.defers = []) (hr : resOfs σ' fn.results = some vs) : EvS T f args S (packR vs) σ'.S := by
  obtain ⟨m, h⟩ := h
  refine ⟨m, fun k hk => ?_⟩
  have hent : enter T (exn T k) f args S = some (fn, σ') := by
    unfold enter
    rw [hf]
    simp only [hn, ne_eq, not_true_eq_false, if_false, h k hk]
    rcases he with rfl | rfl <;> rfl
  have e1 : ({ σ' with defers := [] } : AS) = σ' := by rw [← hd]
  unfold callS
  rw [hent]
  simp only [hd, runDefers]
  rw [show ({ tmps := σ'.tmps, loc := σ'.loc, S := σ'.S, rnd := σ'.rnd, marks := σ'.marks } : AS) = σ' from e1]
  simp only [hr]
theorem EvP.of {own : Bool} {f : FuncId} {args : List PV} {r r1 : PV} {S' : Store} (hc : closeds args = true) (h : EvS T f args {} r S') (hg : give S' r = some r1) (hcl : (if own then r1 else stripR r1).closed = true) : EvP T own f args (if own then r1 else stripR r1) := by
  obtain ⟨m, h⟩ := h
  refine ⟨m, fun k hk => ?_⟩
  unfold callP
  rw [if_pos hc, h k hk]
  simp only [hg]
  rw [if_pos hcl]
/-- A loop, by rounds. -/
theorem EvC.rounds {Q : AExit → AS → Prop} (I : Nat → AS → Prop) (step : ∀ n σ, I (n + 1) σ → (∃ σ1, EvC T b σ .normal σ1 ∧ I n σ1) ∨ (∃ e σ1, EvC T b σ e σ1 ∧ e ≠ .normal ∧ Q e σ1)) (last : ∀ σ, I 0 σ → ∃ e σ1, EvC T b σ e σ1 ∧ e ≠ .normal ∧ Q e σ1) :
    ∀ n σ, I n σ → ∃ e σ1, EvC T (.loop b) σ e σ1 ∧ Q e σ1
  | 0, σ, h => by
    obtain ⟨e, σ1, h1, h2, h3⟩ := last σ h
    exact ⟨e, σ1, EvC.loopX h1 h2, h3⟩
  | n + 1, σ, h => by
    rcases step n σ h with ⟨σ1, h1, h2⟩ | ⟨e, σ1, h1, h2, h3⟩
    · obtain ⟨e, σ2, h3, h4⟩ := EvC.rounds I step last n σ1 h2
      exact ⟨e, σ2, EvC.loopN h1 h3, h4⟩
    · exact ⟨e, σ1, EvC.loopX h1 h2, h3⟩
theorem beq_tf : (true == false) = false := rfl
theorem beq_ft : (false == true) = false := rfl
theorem tget_tset (l : List PV) (i j : Nat) (v : PV) : tget (tset l i v) j = if j = i then v else tget l j := by
  split
  · rename_i h; rw [h, tget_tset_same]
  · rename_i h; exact tget_tset_ne _ _ _ _ h
/-- Code comes to an end, and so. -/
def WP (T : Tbl) (c : ACode) (σ : AS) (Q : AExit → AS → Prop) : Prop := ∃ e σ', EvC T c σ e σ' ∧ Q e σ'
section
variable {Q Q' : AExit → AS → Prop}
theorem WP.mono (h : WP T c σ Q) (hq : ∀ e σ', Q e σ' → Q' e σ') : WP T c σ Q' := by
  obtain ⟨e, σ', h1, h2⟩ := h
  exact ⟨e, σ', h1, hq _ _ h2⟩
theorem WP.skip (h : Q .normal σ) : WP T .skip σ Q := ⟨_, _, EvC.skip, h⟩
theorem WP.ret (h : Q .ret σ) : WP T .ret σ Q := ⟨_, _, EvC.ret, h⟩
theorem WP.exit {i : Nat} (h : Q (.exit i) σ) : WP T (.exit i) σ Q := ⟨_, _, EvC.exit, h⟩
def seqQ (T : Tbl) (b : ACode) (Q : AExit → AS → Prop) : AExit → AS → Prop
  | .normal, σ1 => WP T b σ1 Q
  | e, σ1 => Q e σ1
theorem WP.seq (h : WP T a σ (seqQ T b Q)) : WP T (.seq a b) σ Q := by
  obtain ⟨e, σ1, h1, h2⟩ := h
  cases e with
  | normal =>
    obtain ⟨e, σ', h3, h4⟩ := h2
    exact ⟨e, σ', EvC.seq h1 h3, h4⟩
  | exit i => exact ⟨_, σ1, EvC.seqX h1 (by simp), h2⟩
  | ret => exact ⟨_, σ1, EvC.seqX h1 (by simp), h2⟩
theorem WP.reg {ops : List AR} (h : ∀ ex, arun T ex ops σ = some σ1) (h2 : WP T b σ1 Q) : WP T (.seq (.region ops) b) σ Q := WP.seq ⟨_, _, EvC.region (EvR.of h), h2⟩
theorem WP.reg1 {ops : List AR} (h : ∀ ex, arun T ex ops σ = some σ1) (h2 : Q .normal σ1) : WP T (.region ops) σ Q := ⟨_, _, EvC.region (EvR.of h), h2⟩
theorem WP.regc {ops : List AR} (h : EvR T ops σ σ1) (h2 : Q .normal σ1) : WP T (.region ops) σ Q := ⟨_, _, EvC.region h, h2⟩
theorem WP.regs {ops : List AR} (h : EvR T ops σ σ1) (h2 : WP T b σ1 Q) : WP T (.seq (.region ops) b) σ Q := WP.seq ⟨_, _, EvC.region h, h2⟩
theorem WP.condT {o : Opd} (hc : aval σ o = some (.bool true)) (h : WP T a σ Q) : WP T (.cond o a b) σ Q := by
  obtain ⟨e, σ', h1, h2⟩ := h
  exact ⟨e, σ', EvC.condT hc h1, h2⟩
theorem WP.condF {o : Opd} (hc : aval σ o = some (.bool false)) (h : WP T b σ Q) : WP T (.cond o a b) σ Q := by
  obtain ⟨e, σ', h1, h2⟩ := h
  exact ⟨e, σ', EvC.condF hc h1, h2⟩
def blockQ (i : Nat) (Q : AExit → AS → Prop) : AExit → AS → Prop
  | .exit j, σ1 => if j = i then Q .normal σ1 else Q (.exit j) σ1
  | e, σ1 => Q e σ1
theorem WP.block {i : Nat} (h : WP T b σ (blockQ i Q)) : WP T (.block i b) σ Q := by
  obtain ⟨e, σ1, ⟨m, h1⟩, h2⟩ := h
  have up : ∀ {e' : AExit}, (∀ k, m ≤ k → exF T (exn T k) (.block i b) σ = some (e', σ1)) → EvC T (.block i b) σ e' σ1 := fun h => EvC.up (f := fun k => exF T (exn T k) (.block i b) σ) ⟨m, h⟩ (fun _ => rfl)
  cases e with
  | normal => exact ⟨.normal, σ1, up (fun k hk => by simp only [exF, h1 k hk]), h2⟩
  | ret => exact ⟨.ret, σ1, up (fun k hk => by simp only [exF, h1 k hk]), h2⟩
  | exit j =>
    have h2 : (if j = i then Q .normal σ1 else Q (.exit j) σ1) := h2
    by_cases hj : j = i
    · rw [if_pos hj] at h2
      exact ⟨.normal, σ1, up (fun k hk => by simp only [exF, h1 k hk, hj, if_true]), h2⟩
    · rw [if_neg hj] at h2
      exact ⟨.exit j, σ1, up (fun k hk => by simp only [exF, h1 k hk, hj, if_false]), h2⟩
def loopQ (I : AS → Prop) (Q : AExit → AS → Prop) : AExit → AS → Prop
  | .normal, σ1 => I σ1
  | e, σ1 => Q e σ1
def leftQ (Q : AExit → AS → Prop) : AExit → AS → Prop
  | .normal, _ => False
  | e, σ1 => Q e σ1
theorem WP.rounds (I : Nat → AS → Prop) (step : ∀ n σ, I (n + 1) σ → WP T b σ (loopQ (I n) Q)) (last : ∀ σ, I 0 σ → WP T b σ (leftQ Q)) (n : Nat) (h : I n σ) : WP T (.loop b) σ Q := by
  refine EvC.rounds I (fun n σ h => ?_) (fun σ h => ?_) n σ h
  · obtain ⟨e, σ1, h1, h2⟩ := step n σ h
    cases e with
    | normal => exact .inl ⟨σ1, h1, h2⟩
    | exit i => exact .inr ⟨_, σ1, h1, by simp, h2⟩
    | ret => exact .inr ⟨_, σ1, h1, by simp, h2⟩
  · obtain ⟨e, σ1, h1, h2⟩ := last σ h
    cases e with
    | normal => exact h2.elim
    | exit i => exact ⟨_, σ1, h1, by simp, h2⟩
    | ret => exact ⟨_, σ1, h1, by simp, h2⟩
def doneQ (rs : List ARes) (R : PV → Store → Prop) : AExit → AS → Prop
  | .exit _, _ => False
  | _, σ' => σ'.defers = [] ∧ ∃ vs, resOfs σ' rs = some vs ∧ R (packR vs) σ'.S
theorem EvS.wp {R : PV → Store → Prop} {f : FuncId} {fn : AFn} {args : List PV} {S : Store} (hf : T.fn f = some fn) (hn : args.length = fn.nparams) (h : WP T fn.body { tmps := args, S := S } (doneQ fn.results R)) : ∃ r S', R r S' ∧ EvS T f args S r S' := by
  obtain ⟨e, σ', h1, h2⟩ := h
  cases e with
  | exit i => exact h2.elim
  | normal =>
    obtain ⟨g1, vs, g2, g3⟩ := h2
    exact ⟨_, _, g3, EvS.of hf hn h1 (.inl rfl) g1 g2⟩
  | ret =>
    obtain ⟨g1, vs, g2, g3⟩ := h2
    exact ⟨_, _, g3, EvS.of hf hn h1 (.inr rfl) g1 g2⟩
end
end
end Go.Proofs.YtkgmeeenacnhfaaGreat.Eng
