/- The engine: calls that share no store, a function's end, an operation, whole. No condition. -/
import Derived.RangeFuncLeaves
import Derived.RangeFuncIn
import Derived.LoopNIn
import Derived.Test.YtkgmeeenacnhfaaGreatNdC
set_option linter.unusedVariables false
set_option linter.unusedSimpArgs false
namespace Go.Proofs.YtkgmeeenacnhfaaGreat.Eng
open Go
open Go.RowKit (Below)

theorem closeds_mem : ∀ {xs : List PV}, closeds xs = true → ∀ x ∈ xs, x.closed = true
  | [], _, x, hx => by simp at hx
  | y :: ys, h, x, hx => by
    simp only [closeds, Bool.and_eq_true] at h
    rcases List.mem_cons.1 hx with rfl | hx
    · exact h.1
    · exact closeds_mem h.2 x hx
theorem closed_cells {x : PV} (h : x.closed = true) : ∀ c ∈ x.cells, c.closed = true := by
  cases x <;> simp only [PV.cells, List.mem_singleton, forall_eq] <;> try exact h
  rename_i cs
  exact closeds_mem (by simpa [PV.closed] using h)
theorem flat_closed : ∀ {xs : List PV}, closeds xs = true → ∀ c ∈ flat xs, c.closed = true
  | [], _, c, hc => by simp [flat] at hc
  | x :: xs, h, c, hc => by
    simp only [closeds, Bool.and_eq_true] at h
    simp only [flat, List.mem_append] at hc
    rcases hc with hc | hc
    · exact closed_cells h.1 c hc
    · exact flat_closed h.2 c hc
/-- A closed value's relation looks at the cells that never turn alone. -/
theorem Rel.conv {G1 G2 : Ghost} (hi : ∀ (b o : Nat) (v : Value), G1.imm b o = some v → G2.imm b o = some v) {p : PV} {v : Value} (hr : Rel G1 p v) (hc : p.closed = true) : Rel G2 p v := by
  induction hr with
  | int k n => exact .int k n
  | bool b => exact .bool b
  | str s => exact .str s
  | undef => exact .undef
  | nils => exact .nils
  | emp a cap => exact .emp a cap
  | listN st hs =>
    simp only [PV.closed, Bool.and_eq_true, decide_eq_true_eq] at hc
    match st, hc.1 with
    | 0, _ => exact .listN 0 trivial
    | 1, _ => exact .listN 1 trivial
  | listE st a cap hs =>
    simp only [PV.closed, Bool.and_eq_true, decide_eq_true_eq] at hc
    refine .listE st a cap ?_
    match st, hc.1, hs with
    | 0, _, _ => exact .inl rfl
    | 1, _, hs => exact .inr ⟨hs.elim (fun q => by cases q) (fun q => q.1), trivial⟩
  | list st xs b o cap sz val h0 h1 h2 h3 h4 _ h6 ih =>
    simp only [PV.closed, Bool.and_eq_true, decide_eq_true_eq] at hc
    refine .list st xs b o cap sz val h0 h1 h2 (fun k c e => hi _ _ _ (h3 k c e)) h4 (fun k c e => ih k c e (flat_closed hc.2 c (List.mem_of_getElem? e))) ?_
    match st, hc.1, h6 with
    | 0, _, _ => exact trivial
    | 1, _, h6 => exact h6
  | agg cs vs h1 h2 _ ih =>
    have hcs : closeds cs = true := by simpa [PV.closed] using hc
    exact .agg cs vs h1 h2 (fun k c v e1 e2 => ih k c v e1 e2 (closeds_mem hcs c (List.mem_of_getElem? e1)))
  | tup cs vs h1 _ ih =>
    have hcs : closeds cs = true := by simpa [PV.closed] using hc
    exact .tup cs vs h1 (fun k c v e1 e2 => ih k c v e1 e2 (closeds_mem hcs c (List.mem_of_getElem? e1)))
  | nilp => exact .nilp
  | ptr => simp [PV.closed] at hc
  | vptr cs off b o val h1 h2 _ ih =>
    have hcs : closeds cs = true := by simpa [PV.closed] using hc
    exact .vptr cs off b o val (fun k c e => hi _ _ _ (h1 k c e)) h2 (fun k c e => ih k c e (closeds_mem hcs c (List.mem_of_getElem? e)))
  | arr => simp [PV.closed] at hc
  | fn f a c va vc h1 h2 _ _ ih1 ih2 =>
    have hcs : closeds a = true ∧ closeds c = true := by simpa [PV.closed] using hc
    exact .fn f a c va vc h1 h2 (fun k p v e1 e2 => ih1 k p v e1 e2 (closeds_mem hcs.1 p (List.mem_of_getElem? e1))) (fun k p v e1 e2 => ih2 k p v e1 e2 (closeds_mem hcs.2 p (List.mem_of_getElem? e1)))
  | yld => simp [PV.closed] at hc
  | nilf => exact .nilf
  | map => simp [PV.closed] at hc
  | nilm => exact .nilm
  | junk => simp [PV.closed] at hc

section
variable {T : Tbl} {P : Program} {base : Nat} {G : Ghost} {S : Store} {w : World}

def immG (imm : Nat → Nat → Option Value) : Ghost := ⟨imm, fun _ => .free, [], [], [], []⟩
theorem simP {imm : Nat → Nat → Option Value} (h : ∀ (b o : Nat) (v : Value), imm b o = some v → w.cell? ⟨b, o, none⟩ = some v) : Sim T P w.heap.size (immG imm) {} w := by
  refine ⟨h, fun _ _ _ _ => .inl rfl, fun b hb => absurd rfl hb, rfl, ?_, rfl, ?_, rfl, ?_, rfl, ?_⟩ <;> intro i x e <;> simp at e

def Args (G : Ghost) (args : List PV) (vs : Array Value) : Prop := vs.size = args.length ∧ ∀ (k : Nat) (p : PV) (v : Value), args[k]? = some p → vs[k]? = some v → Rel G p v
/-- What a call that shares no store comes back with. -/
def RetP (T : Tbl) (P : Program) (imm : Nat → Nat → Option Value) (w : World) (r : PV) : Ending → World → Prop
  | .returned v, w' => ∃ G' S' r' r1, Sim T P w.heap.size G' S' w' ∧ Ext w.heap.size (immG imm) G' ∧ Below w.heap.size w w' ∧ Rel G' r' v ∧ give S' r' = some r1 ∧ (r = r1 ∨ r = stripR r1) ∧ r.closed = true
  | _, _ => False
def PureOK (T : Tbl) (P : Program) (f : FuncId) (args : List PV) (r : PV) : Prop :=
  ∀ (imm : Nat → Nat → Option Value) (w : World) (vs : Array Value) (k : Nat), (∀ (b o : Nat) (v : Value), imm b o = some v → w.cell? ⟨b, o, none⟩ = some v) → Args (immG imm) args vs → closeds args = true →
    CallsIn Fence.wide k P f vs w (RetP T P imm w r)

/-- What is lent. -/
theorem lend1_rel (h : Sim T P base G S w) {σ : AS} (hS : σ.S = S) {imm : Nat → Nat → Option Value} (hi : ∀ (b o : Nat) (v : Value), G.imm b o = some v → imm b o = some v) {p q : PV} {v : Value} (hr : Rel G p v) (hn : noArr p = true ∨ ∀ (b o : Nat) (v : Value), w.cell? ⟨b, o, none⟩ = some v → imm b o = some v)
    (hl : lend1 σ p = some q) (hc : q.closed = true) : Rel (immG imm) q v := by
  cases hr with
  | list st xs b o cap sz val h0 h1 h2 h3 h4 h5 h6 => cases hl; exact Rel.conv (G1 := G) hi (.list 0 xs b o cap sz val h0 h1 h2 h3 h4 h5 trivial) hc
  | listN st hs => cases hl; exact .listN 0 trivial
  | listE st a cap hs => cases hl; exact .listE 0 a cap (.inl rfl)
  | nils => cases hl; exact .listN 0 trivial
  | emp a cap => cases hl; exact .listE 0 a cap (.inl rfl)
  | arr b off n sz blk ce cap hb h1 h2 h3 =>
    simp only [lend1] at hl
    split at hl
    · rename_i xs hxs
      cases hl
      subst hS
      have hw : ∀ x ∈ xs, x.cells.length = sz := by
        simp only [elems, if_true] at hxs
        split at hxs
        · rename_i cs hcs
          split at hxs
          · rename_i hle
            cases hxs
            obtain ⟨blk', ce', arr, el, g1, g2, g3, g4, g5, g6⟩ := h.box b cs hcs
            refine (chunk_flat h3 n (cs.drop off) (by simp; omega) (fun c hc => ?_)).2.2
            obtain ⟨k, hk, e⟩ := List.getElem_of_mem (List.mem_of_mem_drop hc)
            obtain ⟨u, q1, q2, q3⟩ := g6 k c (by simp [hk, e])
            exact cells_of_one q2 q3
          · cases hxs
        · cases hxs
      have hfull := hn.resolve_left (by simp [noArr])
      simp only [elems, if_true] at hxs
      split at hxs
      · rename_i cs hcs
        split at hxs
        · rename_i hle
          obtain ⟨blk', ce', arr, el, g1, g2, g3, g4, g5, g6⟩ := h.box b cs hcs
          rw [hb] at g1
          cases g1
          have hone : ∀ c ∈ cs.drop off, c.cells = [c] := by
            intro c hc
            obtain ⟨k, hk, e⟩ := List.getElem_of_mem (List.mem_of_mem_drop hc)
            obtain ⟨u, q1, q2, q3⟩ := g6 k c (by simp [hk, e])
            exact cells_of_one q2 q3
          obtain ⟨k1, k2, k3⟩ := chunk_flat h3 n (cs.drop off) (by simp; omega) hone
          cases hxs
          have hcl := (box_cells g6 (by omega)).mid off (n * sz)
          rw [← k1] at hcl
          have hcc := hcl.strip
          rw [← flat_map_strip] at hcc
          simp only [PV.closed, Bool.and_eq_true] at hc
          have hcc2 : Cells (immG imm) (flat ((chunk sz n (cs.drop off)).map strip)) ((arr.toList.take cs.length).drop off |>.take (n * sz)) :=
            ⟨hcc.1, fun k c u e1 e2 => ⟨(hcc.2 k c u e1 e2).1, Rel.conv hi (hcc.2 k c u e1 e2).2 (flat_closed hc.2 c (List.mem_of_getElem? e1))⟩⟩
          have hl : ((chunk sz n (cs.drop off)).map strip).length = n := by rw [List.length_map, k2]
          have fin := rel_list_of (G := immG imm) (st := 0) (xs := (chunk sz n (cs.drop off)).map strip) (b := blk) (o := off) (cap := cap) (sz := sz) h3 (fun x hx => by
            obtain ⟨y, hy, rfl⟩ := List.mem_map.1 hx
            rw [strip_cells, List.length_map]
            exact k3 y hy) (by rw [hl]; exact h2) hcc2 (fun c hc => by
            rw [flat_map_strip] at hc
            obtain ⟨d, _, rfl⟩ := List.mem_map.1 hc
            exact nostC_strip1 d) (fun k u e => by
            refine hfull blk (off + k) u ?_
            rw [List.getElem?_take] at e
            split at e
            · rw [List.getElem?_drop, List.getElem?_take] at e
              split at e
              · simp only [World.cell?, g3, Option.isSome_none, Bool.false_eq_true, if_false]
                simpa using e
              · cases e
            · cases e) trivial
          rw [hl] at fin
          exact fin
        · cases hxs
      · cases hxs
    · cases hl
  | int k n => cases hl; exact .int k n
  | bool b => cases hl; exact .bool b
  | str s => cases hl; exact .str s
  | undef => cases hl; exact .undef
  | agg cs vs h1 h2 h3 => cases hl; exact Rel.conv (G1 := G) hi (.agg cs vs h1 h2 h3) hc
  | tup cs vs h1 h2 => cases hl; exact Rel.conv (G1 := G) hi (.tup cs vs h1 h2) hc
  | nilp => cases hl; exact .nilp
  | ptr => cases hl; simp [PV.closed] at hc
  | vptr cs off b o val h1 h2 h3 => cases hl; exact Rel.conv (G1 := G) hi (.vptr cs off b o val h1 h2 h3) hc
  | fn f a c va vc h1 h2 h3 h4 => cases hl; exact Rel.conv (G1 := G) hi (.fn f a c va vc h1 h2 h3 h4) hc
  | yld => cases hl; simp [PV.closed] at hc
  | nilf => cases hl; exact .nilf
  | map => cases hl; simp [PV.closed] at hc
  | nilm => cases hl; exact .nilm
  | junk => cases hl; simp [PV.closed] at hc
theorem lends1_at {σ : AS} : ∀ {ps qs : List PV}, lends1 σ ps = some qs → qs.length = ps.length ∧ ∀ (k : Nat) (p q : PV), ps[k]? = some p → qs[k]? = some q → lend1 σ p = some q
  | [], qs, h => by cases h; exact ⟨rfl, fun k p q h => by simp at h⟩
  | p :: ps, qs, h => by
    simp only [lends1] at h
    split at h
    · cases h
    · rename_i x hx
      split at h
      · cases h
      · rename_i xs hxs
        cases h
        have ih := lends1_at hxs
        refine ⟨by simp [ih.1], fun k p q e1 e2 => ?_⟩
        cases k with
        | zero => simp at e1 e2; subst e1 e2; exact hx
        | succ k => exact ih.2 k p q (by simpa using e1) (by simpa using e2)
theorem lends_at {σ : AS} : ∀ {ps qs : List PV}, lends σ ps = some qs → qs.length = ps.length ∧ ∀ (k : Nat) (p q : PV), ps[k]? = some p → qs[k]? = some q → lend σ p = some q
  | [], qs, h => by cases h; exact ⟨rfl, fun k p q h => by simp at h⟩
  | p :: ps, qs, h => by
    simp only [lends] at h
    split at h
    · cases h
    · rename_i x hx
      split at h
      · cases h
      · rename_i xs hxs
        cases h
        have ih := lends_at hxs
        refine ⟨by simp [ih.1], fun k p q e1 e2 => ?_⟩
        cases k with
        | zero => simp at e1 e2; subst e1 e2; exact hx
        | succ k => exact ih.2 k p q (by simpa using e1) (by simpa using e2)
theorem lend_rel (h : Sim T P base G S w) {σ : AS} (hS : σ.S = S) {imm : Nat → Nat → Option Value} (hi : ∀ (b o : Nat) (v : Value), G.imm b o = some v → imm b o = some v) {p q : PV} {v : Value} (hr : Rel G p v) (hn : noArr p = true ∨ ∀ (b o : Nat) (v : Value), w.cell? ⟨b, o, none⟩ = some v → imm b o = some v)
    (hl : lend σ p = some q) (hc : q.closed = true) : Rel (immG imm) q v := by
  by_cases ha : ∃ cs, p = .agg cs
  · obtain ⟨cs, rfl⟩ := ha
    simp only [lend] at hl
    split at hl
    · rename_i qs hqs
      cases hl
      obtain ⟨g1, g2⟩ := lends1_at hqs
      have hcs : closeds qs = true := by simpa [PV.closed] using hc
      cases hr with
      | agg _ vs h1 h2 h3 =>
        refine .agg _ vs (by rw [h1, g1]) h2 (fun k c u e1 e2 => ?_)
        have hk : k < cs.length := by rw [← g1]; exact (List.getElem?_eq_some_iff.1 e1).1
        have e0 : cs[k]? = some cs[k] := by simp [hk]
        refine lend1_rel h hS hi (h3 k cs[k] u e0 e2) ?_ (g2 k _ _ e0 e1) (closeds_mem hcs c (List.mem_of_getElem? e1))
        rcases hn with hn | hn
        · left
          simp only [noArr, List.all_eq_true] at hn
          have := hn cs[k] (List.getElem_mem hk)
          have hth := h3 k cs[k] u e0 e2
          have h2' := h2 k u e2
          generalize cs[k] = c0 at this hth
          cases hth <;> first | rfl | (simp at this; done) | (simp [Value.oneCell'] at h2'; done)
        · exact .inr hn
    · cases hl
  · have : lend σ p = lend1 σ p := by cases p <;> first | rfl | exact absurd ⟨_, rfl⟩ ha
    rw [this] at hl
    exact lend1_rel h hS hi hr hn hl hc

/-! ### What comes back -/
/-- A new stamp, for a list that may be appended to. -/
def Ghost.newStamp (G : Ghost) (b n : Nat) (loc : Option (Nat × Nat × Nat)) : Ghost :=
  { G with own := fun x => if loc.isSome ∧ x = b then .stamp G.stamp.length else G.own x, stamp := G.stamp ++ [(loc, n)] }
theorem Ghost.newStamp_ext (G : Ghost) (b n : Nat) (loc : Option (Nat × Nat × Nat)) : Ext base G (G.newStamp b n loc) :=
  ⟨fun _ _ _ h => h, fun _ _ _ h => .inl h, fun _ _ h => h, fun _ loc n h => ⟨loc, n, getElem?_append_pre h, .inr ⟨rfl, rfl⟩⟩, fun _ _ h => h, fun _ _ h => h⟩
theorem Sim.newStamp (h : Sim T P base G S w) {b n : Nat} {loc : Option (Nat × Nat × Nat)} (hloc : ∀ x, loc = some x → ∃ e c arr el, x = (b, e, c) ∧ G.own b = .free ∧ base ≤ b ∧ e ≤ c ∧ w.heap[b]? = some (.cells arr el (0, 0)) ∧ c ≤ arr.size ∧ ∀ o v, G.imm b o = some v → o < e) :
    Sim T P base (G.newStamp b n loc) { S with stamps := S.stamps ++ [n] } w := by
  have hat : (G.newStamp b n loc).stamp[G.stamp.length]? = some (loc, n) := getElem?_append_at _ _ rfl
  have hB : ∀ x, (loc.isSome = true ∧ x = b) → G.own x = .free := by
    rintro x ⟨h1, rfl⟩
    obtain ⟨y, hy⟩ := Option.isSome_iff_exists.1 h1
    obtain ⟨_, _, _, _, _, h2, _⟩ := hloc y hy
    exact h2
  have hown : ∀ x, ¬ (loc.isSome = true ∧ x = b) → (G.newStamp b n loc).own x = G.own x := fun x hx => by simp only [Ghost.newStamp]; rw [if_neg hx]
  refine h.step (fun x => loc.isSome = true ∧ x = b) (fun _ _ _ _ => rfl) (fun x _ hx => hown x hx) (G.newStamp_ext b n loc) (fun x o v q => ?_) (fun x o k e c m hx g1 g2 g3 => ?_) (fun x hx => ?_) h.boxLen
    (fun i cs q => .inl ⟨q, fun x c g hx => ?_⟩) (by simp [Ghost.newStamp, h.stampLen]) (fun k m q => ?_) h.mapLen (fun m es q => .inl ⟨q, fun x g hx => ?_⟩) h.loopLen (fun l r q => .inl ⟨q, fun x g hx => ?_⟩)
  · by_cases hx : loc.isSome = true ∧ x = b
    · obtain ⟨h1, rfl⟩ := hx
      obtain ⟨y, hy⟩ := Option.isSome_iff_exists.1 h1
      obtain ⟨e, c, arr, el, rfl, h2, h3, h4, h5, h6, h7⟩ := hloc y hy
      subst hy
      exact .inr ⟨h.imm _ _ _ q, .inr ⟨G.stamp.length, e, c, n, by simp [Ghost.newStamp], hat, h7 o v q⟩⟩
    · exact .inl ⟨q, hx⟩
  · exact .inr ⟨k, e, c, m, (hown x hx).trans g1, getElem?_append_pre g2, g3⟩
  · by_cases hx' : loc.isSome = true ∧ x = b
    · obtain ⟨h1, rfl⟩ := hx'
      obtain ⟨y, hy⟩ := Option.isSome_iff_exists.1 h1
      obtain ⟨e, c, arr, el, rfl, h2, h3, h4, h5, h6, h7⟩ := hloc y hy
      exact ⟨h3, (Array.getElem?_eq_some_iff.1 h5).1⟩
    · rw [hown x hx'] at hx
      exact h.ownLt x hx
  · obtain ⟨b', c', _, _, g1, g2, _⟩ := h.box i cs q
    rw [g] at g1
    cases g1
    simp [hB x hx] at g2
  · rcases getElem?_append_some q with q | ⟨rfl, rfl⟩
    · refine .inl ⟨q, ?_, fun x e c m g hx => ?_⟩
      · rw [(show (G.newStamp b n loc).stamp = G.stamp ++ [(loc, n)] from rfl), List.getElem?_append_left]
        rw [h.stampLen]
        exact (List.getElem?_eq_some_iff.1 q).1
      · obtain ⟨loc', g1, g2⟩ := h.stamp k _ q
        rw [g] at g1
        obtain ⟨rfl, rfl⟩ := Prod.mk.inj (Option.some.inj g1)
        have := (g2 x e c rfl).1
        simp [hB x hx] at this
    · refine .inr ⟨loc, by rw [← h.stampLen]; exact hat, fun x e c hx => ?_⟩
      obtain ⟨e', c', arr, el, h1, h2, h3, h4, h5, h6, h7⟩ := hloc _ hx
      cases h1
      subst hx
      exact ⟨by simp [Ghost.newStamp, h.stampLen], h4, arr, el, h5, h6⟩
  · obtain ⟨b', _, _, g1, g2, _⟩ := h.map m es q
    rw [g] at g1
    cases g1
    simp [hB x hx] at g2
  · obtain ⟨b', _, g1, g2, _⟩ := h.loop l r q
    rw [g] at g1
    cases g1
    simp [hB x hx] at g2
end
end Go.Proofs.YtkgmeeenacnhfaaGreat.Eng
namespace Go.Proofs.YtkgmeeenacnhfaaGreat.Eng
open Go
open Go.RowKit (Below)
section
variable {T : Tbl} {P : Program} {base nb : Nat} {G G' Gd G1 : Ghost} {S S0 S1 S2 Sc Sc2 : Store} {w w' : World}

structure AdInv (T : Tbl) (P : Program) (base : Nat) (G' Gd : Ghost) (S0 : Store) (w' : World) (S1 : Store) (G1 : Ghost) (Sc : Store) : Prop where
  sim : Sim T P base G1 Sc w'
  ext : Ext base Gd G1
  imm : ∀ b o, G1.imm b o = Gd.imm b o
  frame : ∀ b, Gd.own b = .frame → G1.own b = .frame
  free : ∀ (k n b e c : Nat), S1.stamps[k]? = some n → G'.stamp[k]? = some (some (b, e, c), n) → G1.own b = .free
  le : ∀ (k n : Nat), S1.stamps[k]? = some n → ∃ n0, S0.stamps[k]? = some n0 ∧ n0 ≤ n
  boxes : S1.boxes = S0.boxes

/-- How the caller's ghost stands to the callee's. -/
structure Back (T : Tbl) (P : Program) (base nb : Nat) (G' Gd : Ghost) (S0 : Store) (w' : World) : Prop where
  sim : Sim T P nb G' S0 w'
  le : base ≤ nb
  imm : ∀ (b o : Nat) (v : Value), G'.imm b o = some v → Gd.imm b o = some v
  box : ∀ (i b o : Nat) (v : Value), G'.own b = .box i → w'.cell? ⟨b, o, none⟩ = some v → Gd.imm b o = some v
  back : ∀ (k b o : Nat) (v : Value), G'.own b = .stamp k → Gd.imm b o = some v → G'.imm b o = some v

theorem AdInv.noStamp (bk : Back T P base nb G' Gd S0 w') (inv : AdInv T P base G' Gd S0 w' S1 G1 Sc) {k n : Nat} (hn : S1.stamps[k]? = some n) :
    AdInv T P base G' Gd S0 w' { S1 with stamps := S1.stamps.set k (n + 1) } G1 Sc := by
  refine ⟨inv.sim, inv.ext, inv.imm, inv.frame, fun j m b e c h1 h2 => ?_, fun j m h1 => ?_, inv.boxes⟩
  · by_cases hj : j = k
    · subst hj
      have hl := (List.getElem?_eq_some_iff.1 hn).1
      simp [hl] at h1
      subst h1
      obtain ⟨n0, q1, q2⟩ := inv.le j n hn
      obtain ⟨loc, g1, _⟩ := bk.sim.stamp j n0 q1
      rw [h2] at g1
      have := (Prod.mk.inj (Option.some.inj g1)).2
      omega
    · rw [List.getElem?_set_ne (Ne.symm hj)] at h1
      exact inv.free j m b e c h1 h2
  · by_cases hj : j = k
    · subst hj
      have hl := (List.getElem?_eq_some_iff.1 hn).1
      simp [hl] at h1
      subst h1
      obtain ⟨n0, q1, q2⟩ := inv.le j n hn
      exact ⟨n0, q1, by omega⟩
    · rw [List.getElem?_set_ne (Ne.symm hj)] at h1
      exact inv.le j m h1
theorem AdInv.adopt (inv : AdInv T P base G' Gd S0 w' S1 G1 Sc) {b n : Nat} {loc : Option (Nat × Nat × Nat)}
    (hloc : ∀ x, loc = some x → ∃ e c arr el, x = (b, e, c) ∧ G1.own b = .free ∧ base ≤ b ∧ e ≤ c ∧ w'.heap[b]? = some (.cells arr el (0, 0)) ∧ c ≤ arr.size ∧ ∀ o v, G1.imm b o = some v → o < e)
    (hfree : ∀ (k m b' e c : Nat), loc.isSome = true → S1.stamps[k]? = some m → G'.stamp[k]? = some (some (b', e, c), m) → b' ≠ b) :
    AdInv T P base G' Gd S0 w' S1 (G1.newStamp b n loc) { Sc with stamps := Sc.stamps ++ [n] } := by
  refine ⟨inv.sim.newStamp hloc, inv.ext.trans (G1.newStamp_ext b n loc), inv.imm, fun x hx => ?_, fun k m x e c h1 h2 => ?_, inv.le, inv.boxes⟩
  · have h1 := inv.frame x hx
    simp only [Ghost.newStamp]
    split
    · rename_i hc
      obtain ⟨y, hy⟩ := Option.isSome_iff_exists.1 hc.1
      obtain ⟨_, _, _, _, _, h2, _⟩ := hloc y hy
      rw [hc.2, h2] at h1
      cases h1
    · exact h1
  · have h3 := inv.free k m x e c h1 h2
    simp only [Ghost.newStamp]
    split
    · rename_i hc
      exact absurd hc.2 (hfree k m x e c hc.1 h1 h2)
    · exact h3

/-- A list as the callee had it, adopted. -/
theorem adopt_list (bk : Back T P base nb G' Gd S0 w') (inv : AdInv T P base G' Gd S0 w' S1 G1 Sc) {xs : List PV} {v : Value} {pl loc : Option (Nat × Nat × Nat)} (b : Nat)
    (hrel : ∀ (G : Ghost) (k : Nat), (∀ (b o : Nat) (v : Value), G'.imm b o = some v → G.imm b o = some v) → StOK G k xs.length pl → Rel G (.list k xs) v)
    (hpl : loc = pl ∨ (loc = none ∧ noSpare pl)) (hz : xs.length = 0 → noSpare pl)
    (hloc : ∀ x, loc = some x → ∃ e c arr el, x = (b, e, c) ∧ G1.own b = .free ∧ base ≤ b ∧ e ≤ c ∧ w'.heap[b]? = some (.cells arr el (0, 0)) ∧ c ≤ arr.size ∧ ∀ o v, G1.imm b o = some v → o < e)
    (hfree : ∀ (k m b' e c : Nat), loc.isSome = true → S1.stamps[k]? = some m → G'.stamp[k]? = some (some (b', e, c), m) → b' ≠ b) :
    ∃ G2, AdInv T P base G' Gd S0 w' S1 G2 { Sc with stamps := Sc.stamps ++ [xs.length] } ∧ Ext base G1 G2 ∧ Rel G2 (.list (Sc.stamps.length + 2) xs) v := by
  refine ⟨_, inv.adopt (n := xs.length) hloc hfree, G1.newStamp_ext _ _ _, hrel _ _ (fun b o v e => ?_) ?_⟩
  · show G1.imm b o = some v
    rw [inv.imm]
    exact bk.imm _ _ _ e
  · refine ⟨loc, xs.length, ?_, Nat.le_refl _, fun _ => hpl, hz⟩
    exact getElem?_append_at _ _ inv.sim.stampLen.symm
theorem closed_rel (bk : Back T P base nb G' Gd S0 w') (inv : AdInv T P base G' Gd S0 w' S1 G1 Sc) {p : PV} {v : Value} (hr : Rel G' p v) (hc : p.closed = true) : Rel G1 p v :=
  Rel.conv (fun b o v e => by rw [inv.imm]; exact bk.imm _ _ _ e) hr hc
theorem adopt1_ne {p q : PV} (h : adopt1 S p = some (q, S2)) (hn : ∀ xs, p ≠ .list 1 xs) : q = p ∧ S2 = S := by
  unfold adopt1 at h
  split at h
  · exact absurd rfl (hn _)
  · cases h; exact ⟨rfl, rfl⟩
theorem strip1_ne1 (p : PV) : ∀ xs, strip1 p ≠ .list 1 xs := by intro xs; cases p <;> simp [strip1]
/-- A list that comes back. -/
theorem list_back (bk : Back T P base nb G' Gd S0 w') (inv : AdInv T P base G' Gd S0 w' S1 G1 Sc) {own : Bool} {st : Nat} {xs : List PV} {x p : PV} {v : Value} {pl : Option (Nat × Nat × Nat)}
    (hrel : ∀ (G : Ghost) (k : Nat), (∀ (b o : Nat) (v : Value), G'.imm b o = some v → G.imm b o = some v) → StOK G k xs.length pl → Rel G (.list k xs) v) (hst : StOK G' st xs.length pl)
    (hg : give1 S1 (.list st xs) = some (x, S2)) (ha : adopt1 Sc (if own then x else strip1 x) = some (p, Sc2)) :
    ∃ G2, AdInv T P base G' Gd S0 w' S2 G2 Sc2 ∧ Ext base G1 G2 ∧ Rel G2 p v := by
  have hi1 : ∀ (b o : Nat) (v : Value), G'.imm b o = some v → G1.imm b o = some v := fun b o v e => by rw [inv.imm]; exact bk.imm _ _ _ e
  have plain : ∀ S2', AdInv T P base G' Gd S0 w' S2' G1 Sc → S2 = S2' → p = .list 0 xs → Sc2 = Sc → ∃ G2, AdInv T P base G' Gd S0 w' S2 G2 Sc2 ∧ Ext base G1 G2 ∧ Rel G2 p v := by
    rintro S2' i2 rfl rfl rfl
    exact ⟨G1, i2, Ext.refl _ _, hrel _ _ hi1 trivial⟩
  match st, hst with
  | 0, _ =>
    cases hg
    have h0 : (if own = true then PV.list 0 xs else strip1 (.list 0 xs)) = .list 0 xs := by cases own <;> rfl
    rw [h0] at ha
    obtain ⟨rfl, rfl⟩ := adopt1_ne ha (by intro ys; simp)
    exact plain _ inv rfl rfl rfl
  | 1, hst =>
    cases hg
    cases own with
    | false =>
      obtain ⟨rfl, rfl⟩ := adopt1_ne ha (by intro ys; simp [strip1])
      exact plain _ inv rfl rfl rfl
    | true =>
      simp only [if_true, adopt1, Option.some.injEq, Prod.mk.injEq] at ha
      obtain ⟨rfl, rfl⟩ := ha
      exact adopt_list bk inv (loc := none) 0 hrel (.inr ⟨rfl, hst⟩) (fun _ => hst) (fun x hx => by cases hx) (fun _ _ _ _ _ hx => by cases hx)
  | k + 2, ⟨loc, m, q1, q2, q3, q4⟩ =>
    simp only [give1] at hg
    split at hg
    · rename_i hn
      cases hg
      have inv2 := inv.noStamp bk hn
      cases own with
      | false =>
        obtain ⟨rfl, rfl⟩ := adopt1_ne ha (by intro ys; simp [strip1])
        exact plain _ inv2 rfl rfl rfl
      | true =>
        simp only [if_true, adopt1, Option.some.injEq, Prod.mk.injEq] at ha
        obtain ⟨rfl, rfl⟩ := ha
        obtain ⟨n0, p1, p2⟩ := inv.le k _ hn
        obtain ⟨loc', g1, g2⟩ := bk.sim.stamp k n0 p1
        rw [q1] at g1
        obtain ⟨rfl, rfl⟩ := Prod.mk.inj (Option.some.inj g1)
        have hmx : xs.length = m := by omega
        rcases hl : loc with _ | ⟨b, e, c⟩
        · subst hl
          have := q3 hmx
          exact adopt_list bk inv2 (loc := none) 0 hrel this q4 (fun x hx => by cases hx) (fun _ _ _ _ _ hx => by cases hx)
        · subst hl
          obtain ⟨k1, k2, arr, el, k3, k4⟩ := g2 b e c rfl
          have hbn := (bk.sim.ownLt b (by simp [k1])).1
          have hble := bk.le
          refine adopt_list bk inv2 (loc := some (b, e, c)) b hrel (q3 hmx) q4 (fun x hx => ?_) (fun k' m' b' e' c' _ h1 h2 => ?_)
          · cases hx
            refine ⟨e, c, arr, el, rfl, inv.free k _ b e c hn (by rw [hmx]; exact q1), by omega, k2, k3, k4, fun o v hv => ?_⟩
            rw [inv.imm] at hv
            have hv' := bk.back k b o v k1 hv
            rcases bk.sim.immOwn b o v hv' with h1 | ⟨k', e', c', m', h1, h2, h3⟩
            · rw [k1] at h1; cases h1
            · rw [k1] at h1
              cases h1
              rw [q1] at h2
              cases h2
              exact h3
          · rintro rfl
            by_cases hkk : k' = k
            · subst hkk
              have hl := (List.getElem?_eq_some_iff.1 hn).1
              simp [hl] at h1
              rw [q1] at h2
              have := (Prod.mk.inj (Option.some.inj h2)).2
              omega
            · simp only at h1
              rw [List.getElem?_set_ne (Ne.symm hkk)] at h1
              obtain ⟨n0', r1, r2⟩ := inv.le k' m' h1
              obtain ⟨loc'', r3, r4⟩ := bk.sim.stamp k' n0' r1
              rw [h2] at r3
              obtain ⟨rfl, rfl⟩ := Prod.mk.inj (Option.some.inj r3)
              have := (r4 b' e' c' rfl).1
              rw [k1] at this
              cases this
              exact hkk rfl
    · cases hg
      have h0 : (if own = true then PV.list 0 xs else strip1 (.list 0 xs)) = .list 0 xs := by cases own <;> rfl
      rw [h0] at ha
      obtain ⟨rfl, rfl⟩ := adopt1_ne ha (by intro ys; simp)
      exact plain _ inv rfl rfl rfl
/-- One cell that comes back. -/
theorem cell_back (bk : Back T P base nb G' Gd S0 w') (inv : AdInv T P base G' Gd S0 w' S1 G1 Sc) {own : Bool} {c x p : PV} {v : Value} (hr : Rel G' c v)
    (hg : give1 S1 c = some (x, S2)) (ha : adopt1 Sc (if own then x else strip1 x) = some (p, Sc2)) (hc : (if own then x else strip1 x).closed = true) :
    ∃ G2, AdInv T P base G' Gd S0 w' S2 G2 Sc2 ∧ Ext base G1 G2 ∧ Rel G2 p v := by
  have hi1 : ∀ (b o : Nat) (v : Value), G'.imm b o = some v → G1.imm b o = some v := fun b o v e => by rw [inv.imm]; exact bk.imm _ _ _ e
  have keep : ∀ y, x = y → S2 = S1 → (if own then y else strip1 y) = y → (∀ xs, y ≠ .list 1 xs) → (y.closed = true → Rel G1 y v) → ∃ G2, AdInv T P base G' Gd S0 w' S2 G2 Sc2 ∧ Ext base G1 G2 ∧ Rel G2 p v := by
    rintro y rfl rfl h1 h2 h3
    rw [h1] at ha hc
    obtain ⟨rfl, rfl⟩ := adopt1_ne ha h2
    exact ⟨G1, inv, Ext.refl _ _, h3 hc⟩
  have whole : give1 S1 c = some (c, S1) → strip1 c = c → (∀ xs, c ≠ .list 1 xs) → ∃ G2, AdInv T P base G' Gd S0 w' S2 G2 Sc2 ∧ Ext base G1 G2 ∧ Rel G2 p v := by
    intro h1 h2 h3
    rw [h1] at hg
    cases hg
    exact keep c rfl rfl (by cases own <;> simp [h2]) h3 (fun hc => Rel.conv hi1 hr hc)
  cases hr with
  | int k n => exact whole rfl rfl (by intro xs; simp)
  | bool b => exact whole rfl rfl (by intro xs; simp)
  | str s => exact whole rfl rfl (by intro xs; simp)
  | undef => exact whole rfl rfl (by intro xs; simp)
  | nilp => exact whole rfl rfl (by intro xs; simp)
  | ptr b off blk ce e => exact whole rfl rfl (by intro xs; simp)
  | vptr cs off b o val h1 h2 h3 => exact whole rfl rfl (by intro xs; simp)
  | fn f a c va vc h1 h2 h3 h4 => exact whole rfl rfl (by intro xs; simp)
  | yld l blk e => exact whole rfl rfl (by intro xs; simp)
  | nilf => exact whole rfl rfl (by intro xs; simp)
  | map m blk e => exact whole rfl rfl (by intro xs; simp)
  | nilm => exact whole rfl rfl (by intro xs; simp)
  | junk v => exact whole rfl rfl (by intro xs; simp)
  | agg cs vs h1 h2 h3 => cases hg
  | tup cs vs h1 h2 => cases hg
  | nils =>
    refine list_back bk inv (st := 1) (pl := none) (fun G k _ hst => .listN k hst) trivial ?_ ha
    exact hg
  | emp a cap =>
    cases hg
    exact keep _ rfl rfl (by cases own <;> rfl) (by intro xs; simp) (fun _ => strip1_rel (.emp a cap))
  | listN st hst => exact list_back bk inv (fun G k _ hst => .listN k hst) hst hg ha
  | listE st a cap hst =>
    rcases hst with rfl | ⟨rfl, hst⟩
    · cases hg
      exact keep _ rfl rfl (by cases own <;> rfl) (by intro xs; simp) (fun _ => .listE 0 a cap (.inl rfl))
    · exact list_back bk inv (fun G k _ hst => .listE k a 0 (.inr ⟨rfl, hst⟩)) hst hg ha
  | list st xs b o cap sz val h0 h1 h2 h3 h4 h5 h6 =>
    have hcl : closeds xs = true := by
      have : ∃ k, x = .list k xs := by
        match st with
        | 0 => cases hg; exact ⟨_, rfl⟩
        | 1 => cases hg; exact ⟨_, rfl⟩
        | k + 2 =>
          simp only [give1] at hg
          split at hg <;> cases hg <;> exact ⟨_, rfl⟩
      obtain ⟨k, rfl⟩ := this
      cases own <;> simp only [Bool.false_eq_true, if_false, if_true, strip1, PV.closed, Bool.and_eq_true] at hc <;> exact hc.2
    refine list_back bk inv (fun G k hi hst => ?_) h6 hg ha
    exact .list k xs b o cap sz val h0 h1 h2 (fun k c e => hi _ _ _ (h3 k c e)) h4 (fun k c e => Rel.conv hi (h5 k c e) (flat_closed hcl c (List.mem_of_getElem? e))) hst
  | arr b off n sz blk ce cap hb h1 h2 h3 =>
    simp only [give1, inv.boxes] at hg
    split at hg
    · rename_i cs hcs
      split at hg
      · rename_i hle
        cases hg
        refine keep _ rfl rfl (by cases own <;> rfl) (by intro xs; simp) (fun hcc => ?_)
        obtain ⟨blk', ce', arr, el, g1, g2, g3, g4, g5, g6⟩ := bk.sim.box b cs hcs
        rw [hb] at g1
        cases g1
        have hone : ∀ c ∈ cs.drop off, c.cells = [c] := by
          intro c hc
          obtain ⟨k, hk, e⟩ := List.getElem_of_mem (List.mem_of_mem_drop hc)
          obtain ⟨u, q1, q2, q3⟩ := g6 k c (by simp [hk, e])
          exact cells_of_one q2 q3
        obtain ⟨k1, k2, k3⟩ := chunk_flat h3 n (cs.drop off) (by simp; omega) hone
        have hcl := (box_cells g6 (by omega)).mid off (n * sz)
        rw [← k1] at hcl
        have hcs2 := hcl.strip
        rw [← flat_map_strip] at hcs2
        simp only [PV.closed, Bool.and_eq_true] at hcc
        have hcc2 : Cells G1 (flat ((chunk sz n (cs.drop off)).map strip)) ((arr.toList.take cs.length).drop off |>.take (n * sz)) :=
          ⟨hcs2.1, fun k c u e1 e2 => ⟨(hcs2.2 k c u e1 e2).1, Rel.conv hi1 (hcs2.2 k c u e1 e2).2 (flat_closed hcc.2 c (List.mem_of_getElem? e1))⟩⟩
        have hl : ((chunk sz n (cs.drop off)).map strip).length = n := by rw [List.length_map, k2]
        have fin := rel_list_of (G := G1) (st := 0) (xs := (chunk sz n (cs.drop off)).map strip) (b := blk) (o := off) (cap := cap) (sz := sz) h3 (fun x hx => by
          obtain ⟨y, hy, rfl⟩ := List.mem_map.1 hx
          rw [strip_cells, List.length_map]
          exact k3 y hy) (by rw [hl]; exact h2) hcc2 (fun c hc => by
          rw [flat_map_strip] at hc
          obtain ⟨d, _, rfl⟩ := List.mem_map.1 hc
          exact nostC_strip1 d) (fun k u e => by
          rw [inv.imm]
          refine bk.box b blk (off + k) u g2 ?_
          rw [List.getElem?_take] at e
          split at e
          · rw [List.getElem?_drop, List.getElem?_take] at e
            split at e
            · simp only [World.cell?, g3, Option.isSome_none, Bool.false_eq_true, if_false]
              simpa using e
            · cases e
          · cases e) trivial
        rw [hl] at fin
        exact fin
      · cases hg
    · cases hg

/-- Several pieces that come back, by what holds of each. -/
theorem travs_back (bk : Back T P base nb G' Gd S0 w') {f g : Store → PV → Option (PV × Store)} {h : PV → PV}
    (one : ∀ {S1 : Store} {G1 : Ghost} {Sc S2 Sc2 : Store} {c x p : PV} {v : Value}, AdInv T P base G' Gd S0 w' S1 G1 Sc → Rel G' c v → f S1 c = some (x, S2) → g Sc (h x) = some (p, Sc2) → (h x).closed = true →
      ∃ G2, AdInv T P base G' Gd S0 w' S2 G2 Sc2 ∧ Ext base G1 G2 ∧ Rel G2 p v) :
    ∀ {cs xs ps : List PV} {S1 S2 Sc Sc2 : Store} {G1 : Ghost}, AdInv T P base G' Gd S0 w' S1 G1 Sc → ∀ {vs : List Value}, vs.length = cs.length → (∀ (k : Nat) (c : PV) (v : Value), cs[k]? = some c → vs[k]? = some v → Rel G' c v) →
      travs f S1 cs = some (xs, S2) → travs g Sc (xs.map h) = some (ps, Sc2) → closeds (xs.map h) = true →
      ∃ G2, AdInv T P base G' Gd S0 w' S2 G2 Sc2 ∧ Ext base G1 G2 ∧ ps.length = vs.length ∧ ∀ (k : Nat) (p : PV) (v : Value), ps[k]? = some p → vs[k]? = some v → Rel G2 p v
  | [], xs, ps, S1, S2, Sc, Sc2, G1, inv, vs, hl, hr, hf, hg, hc => by
    cases hf
    cases hg
    exact ⟨G1, inv, Ext.refl _ _, hl.symm, fun k p v e => by simp at e⟩
  | c :: cs, xs, ps, S1, S2, Sc, Sc2, G1, inv, [], hl, hr, hf, hg, hc => by simp at hl
  | c :: cs, xs, ps, S1, S2, Sc, Sc2, G1, inv, v :: vs, hl, hr, hf, hg, hc => by
    simp only [travs] at hf
    split at hf
    · cases hf
    · rename_i x S1' h1
      split at hf
      · cases hf
      · rename_i xs' S2' h2
        cases hf
        simp only [List.map_cons, travs] at hg
        split at hg
        · cases hg
        · rename_i p Sc' h3
          split at hg
          · cases hg
          · rename_i ps' Sc2' h4
            cases hg
            simp only [List.map_cons, closeds, Bool.and_eq_true] at hc
            obtain ⟨G2, i2, e2, r2⟩ := one inv (hr 0 c v rfl rfl) h1 h3 hc.1
            obtain ⟨G3, i3, e3, l3, r3⟩ := travs_back bk one i2 (by simpa using hl) (fun k c v e1 e2 => hr (k + 1) c v (by simpa using e1) (by simpa using e2)) h2 h4 hc.2
            refine ⟨G3, i3, e2.trans e3, by simp [l3], fun k q u q1 q2 => ?_⟩
            cases k with
            | zero => simp at q1 q2; subst q1 q2; exact r2.ext e3
            | succ k => exact r3 k q u (by simpa using q1) (by simpa using q2)
end
end Go.Proofs.YtkgmeeenacnhfaaGreat.Eng
namespace Go.Proofs.YtkgmeeenacnhfaaGreat.Eng
open Go
open Go.RowKit (Below)
section
variable {T : Tbl} {P : Program} {base nb : Nat} {G G' Gd G1 : Ghost} {S S0 S1 S2 Sc Sc2 : Store} {w w' : World}

theorem give1_not {c x : PV} (h : give1 S c = some (x, S2)) : (∀ cs, x ≠ .agg cs) ∧ (∀ cs, x ≠ .tup cs) := by
  cases c with
  | list st xs =>
    match st with
    | 0 => cases h; exact ⟨fun cs => by simp, fun cs => by simp⟩
    | 1 => cases h; exact ⟨fun cs => by simp, fun cs => by simp⟩
    | k + 2 =>
      simp only [give1] at h
      split at h <;> cases h <;> exact ⟨fun cs => by simp, fun cs => by simp⟩
  | arr b off n z =>
    simp only [give1] at h
    split at h
    · split at h
      · cases h; exact ⟨fun cs => by simp, fun cs => by simp⟩
      · cases h
    · cases h
  | _ => simp only [give1] at h <;> cases h <;> exact ⟨fun cs => by simp, fun cs => by simp⟩
theorem travA_not {c : PV} {f : Store → PV → Option (PV × Store)} (h : ∀ cs, c ≠ .agg cs) : travA f S c = f S c := by
  cases c <;> first | rfl | exact absurd rfl (h _)
theorem strip_not {c : PV} (h : ∀ cs, c ≠ .agg cs) : strip c = strip1 c := by
  cases c <;> first | rfl | exact absurd rfl (h _)
/-- A value (of one cell, or an aggregate) that comes back. -/
theorem val_back (bk : Back T P base nb G' Gd S0 w') (inv : AdInv T P base G' Gd S0 w' S1 G1 Sc) {own : Bool} {c x p : PV} {v : Value} (hr : Rel G' c v)
    (hg : travA give1 S1 c = some (x, S2)) (ha : travA adopt1 Sc (if own then x else strip x) = some (p, Sc2)) (hc : (if own then x else strip x).closed = true) :
    ∃ G2, AdInv T P base G' Gd S0 w' S2 G2 Sc2 ∧ Ext base G1 G2 ∧ Rel G2 p v := by
  by_cases hagg : ∃ cs, c = .agg cs
  · obtain ⟨cs, rfl⟩ := hagg
    cases hr with
    | agg _ vs h1 h2 h3 =>
      simp only [travA] at hg
      split at hg
      · rename_i xs S2' hx
        cases hg
        have hy : (if own = true then PV.agg xs else strip (.agg xs)) = .agg (xs.map fun x => if own then x else strip1 x) := by
          cases own <;> simp [strip]
        rw [hy] at ha hc
        simp only [travA] at ha
        split at ha
        · rename_i ps Sc2' hp
          cases ha
          obtain ⟨G2, i2, e2, l2, r2⟩ := travs_back bk (fun inv hr hf hg hc => cell_back bk inv (own := own) hr hf hg hc) inv (vs := vs.toList) (by simpa using h1) (fun k c v e1 e2 => h3 k c v e1 (by simpa using e2)) hx hp (by simpa [PV.closed] using hc)
          exact ⟨G2, i2, e2, .agg _ vs (by simpa using l2.symm) h2 (fun k q u q1 q2 => r2 k q u q1 (by simpa using q2))⟩
        · cases ha
      · cases hg
  · have hn : ∀ cs, c ≠ .agg cs := fun cs e => hagg ⟨cs, e⟩
    rw [travA_not hn] at hg
    have hx := give1_not hg
    rw [strip_not hx.1] at ha hc
    have hy : ∀ cs, (if own = true then x else strip1 x) ≠ .agg cs := by
      intro cs
      cases own
      · simp only [Bool.false_eq_true, if_false]
        cases x <;> simp [strip1]
        exact absurd rfl (hx.1 _)
      · exact hx.1 cs
    rw [travA_not hy] at ha
    exact cell_back bk inv hr hg ha hc
theorem travA_give_tup {c x : PV} (h : travA give1 S c = some (x, S2)) : ∀ cs, x ≠ .tup cs := by
  by_cases hagg : ∃ cs, c = .agg cs
  · obtain ⟨cs, rfl⟩ := hagg
    simp only [travA] at h
    split at h
    · cases h; intro cs; simp
    · cases h
  · rw [travA_not (fun cs e => hagg ⟨cs, e⟩)] at h
    exact (give1_not h).2
theorem strip_ntup {x : PV} (h : ∀ cs, x ≠ .tup cs) : (∀ cs, strip x ≠ .tup cs) ∧ stripR x = strip x := by
  cases x <;> first | exact absurd rfl (h _) | exact ⟨fun cs => by simp [strip, strip1], rfl⟩
theorem trav_ntup {c : PV} {f : Store → PV → Option (PV × Store)} (h : ∀ cs, c ≠ .tup cs) : trav f S c = travA f S c := by
  cases c <;> first | rfl | exact absurd rfl (h _)
/-- A result that comes back. -/
theorem res_back (bk : Back T P base nb G' Gd S0 w') (inv : AdInv T P base G' Gd S0 w' S1 G1 Sc) {own : Bool} {c x p : PV} {v : Value} (hr : Rel G' c v)
    (hg : trav give1 S1 c = some (x, S2)) (ha : adopt Sc (if own then x else stripR x) = some (p, Sc2)) (hc : (if own then x else stripR x).closed = true) :
    ∃ G2, AdInv T P base G' Gd S0 w' S2 G2 Sc2 ∧ Ext base G1 G2 ∧ Rel G2 p v := by
  by_cases htup : ∃ cs, c = .tup cs
  · obtain ⟨cs, rfl⟩ := htup
    cases hr with
    | tup _ vs h1 h3 =>
      simp only [trav] at hg
      split at hg
      · rename_i xs S2' hx
        cases hg
        have hy : (if own = true then PV.tup xs else stripR (.tup xs)) = .tup (xs.map fun x => if own then x else strip x) := by
          cases own <;> simp [stripR]
        rw [hy] at ha hc
        simp only [adopt, trav] at ha
        split at ha
        · rename_i ps Sc2' hp
          cases ha
          obtain ⟨G2, i2, e2, l2, r2⟩ := travs_back bk (fun inv hr hf hg hc => val_back bk inv (own := own) hr hf hg hc) inv (vs := vs.toList) (by simpa using h1) (fun k c v e1 e2 => h3 k c v e1 (by simpa using e2)) hx hp (by simpa [PV.closed] using hc)
          exact ⟨G2, i2, e2, .tup _ vs (by simpa using l2.symm) (fun k q u q1 q2 => r2 k q u q1 (by simpa using q2))⟩
        · cases ha
      · cases hg
  · have hn : ∀ cs, c ≠ .tup cs := fun cs e => htup ⟨cs, e⟩
    rw [trav_ntup hn] at hg
    have hx := travA_give_tup hg
    obtain ⟨hs1, hs2⟩ := strip_ntup hx
    rw [hs2] at ha hc
    have hy : ∀ cs, (if own = true then x else strip x) ≠ .tup cs := by
      intro cs
      cases own
      · exact hs1 cs
      · exact hx cs
    unfold adopt at ha
    rw [trav_ntup hy] at ha
    exact val_back bk inv hr hg ha hc

/-- The caller's ghost behind a call that shares no store. -/
def backG (G G' : Ghost) (n : Nat) (w' : World) : Ghost := { G with imm := fun b o => if b < n then G.imm b o else match G'.own b with
  | .box _ => w'.cell? ⟨b, o, none⟩
  | _ => G'.imm b o }
theorem finish_list (h : Sim T P base G S w) (hb : base ≤ w.heap.size) {r p : PV} {v : Value} (hret : RetP T P G.imm w r (.returned v) w') (ha : adopt S r = some (p, S2)) :
    ∃ G2, Sim T P base G2 S2 w' ∧ Stp (KF G) base G w G2 w' ∧ Rel G2 p v := by
  obtain ⟨G', S', r', r1, hs, hext, hbel, hrel, hgive, hown, hcl⟩ := hret
  have hlow : ∀ b, b < w.heap.size → w'.heap[b]? = w.heap[b]? := hbel.block
  have hge : ∀ b, G'.own b ≠ .free → w.heap.size ≤ b := fun b hb => (hs.ownLt b hb).1
  have extD : Ext base G (backG G G' w.heap.size w') := by
    refine ⟨fun b o v e => ?_, fun b o v e => ?_, fun _ _ e => e, fun _ loc n e => ⟨loc, n, e, .inr ⟨rfl, rfl⟩⟩, fun _ _ e => e, fun _ _ e => e⟩
    · simp only [backG]
      rw [if_pos (World.block_lt_of_cell? w _ (h.imm b o v e))]
      exact e
    · simp only [backG] at e
      split at e
      · exact .inl e
      · exact .inr (by omega)
  have simD : Sim T P base (backG G G' w.heap.size w') S w' := by
    refine h.step (fun _ => False) (fun b hb _ _ => hlow b hb) (fun _ _ _ => rfl) extD (fun b o v e => ?_) (fun b o k e c m _ h1 h2 h3 => .inr ⟨k, e, c, m, h1, h2, h3⟩) (fun b hb => ⟨(h.ownLt b hb).1, by have := (h.ownLt b hb).2; have := hbel.size; omega⟩)
      h.boxLen (fun _ _ e => .inl ⟨e, fun _ _ _ => id⟩) h.stampLen (fun _ _ e => .inl ⟨e, rfl, fun _ _ _ _ _ => id⟩) h.mapLen (fun _ _ e => .inl ⟨e, fun _ _ => id⟩) h.loopLen (fun _ _ e => .inl ⟨e, fun _ _ => id⟩)
    simp only [backG] at e
    split at e
    · exact .inl ⟨e, id⟩
    · refine .inr ⟨?_, .inl (h.fresh_own (by omega))⟩
      split at e
      · exact e
      · exact hs.imm b o v e
  have bk : Back T P base w.heap.size G' (backG G G' w.heap.size w') S' w' := by
    refine ⟨hs, hb, fun b o v e => ?_, fun i b o v h1 h2 => ?_, fun k b o v h1 h2 => ?_⟩
    · simp only [backG]
      split
      · rename_i hlt
        rcases hext.new b o v e with e | e
        · exact e
        · omega
      · split
        · exact hs.imm b o v e
        · exact e
    · have := hge b (by simp [h1])
      simp only [backG]
      rw [if_neg (by omega), h1]
      exact h2
    · have := hge b (by simp [h1])
      simp only [backG] at h2
      rw [if_neg (by omega), h1] at h2
      exact h2
  have inv : AdInv T P base G' (backG G G' w.heap.size w') S' w' S' (backG G G' w.heap.size w') S :=
    ⟨simD, Ext.refl _ _, fun _ _ => rfl, fun _ hx => hx, fun k n b e c h1 h2 => by
      obtain ⟨loc, g1, g2⟩ := hs.stamp k n h1
      rw [h2] at g1
      obtain ⟨rfl, _⟩ := Prod.mk.inj (Option.some.inj g1)
      have := hge b (by simp [(g2 b e c rfl).1])
      exact h.fresh_own this, fun k n h1 => ⟨n, h1, Nat.le_refl _⟩, rfl⟩
  unfold give at hgive
  split at hgive
  · rename_i x S2' hx
    cases hgive
    obtain ⟨own, rfl⟩ : ∃ own : Bool, r = if own then r1 else stripR r1 := by
      rcases hown with rfl | rfl
      · exact ⟨true, rfl⟩
      · exact ⟨false, rfl⟩
    obtain ⟨G2, i2, e2, r2⟩ := res_back bk inv hrel hx ha hcl
    refine ⟨G2, i2.sim, ⟨extD.trans e2, fun b hb' => ⟨hlow b (h.lt_of_own (by rw [hb']; simp)), i2.frame b hb'⟩, ?_⟩, r2⟩
    exact ⟨hbel.os, hbel.tape, hbel.output, hbel.size, fun k hk => hlow k (by omega)⟩
  · cases hgive

/-! ### Flat results: no reference in them -/
def scal : PV → Bool
  | .int _ _ | .bool _ | .str _ => true
  | _ => false
theorem scal_rel {c : PV} {v : Value} (h : scal c = true) (hr : Rel G c v) : Rel G1 c v := by
  cases hr <;> first | (simp [scal] at h; done) | exact .int _ _ | exact .bool _ | exact .str _
theorem scal_adopt {c : PV} (h : scal c = true) : adopt1 S c = some (c, S) := by
  cases c <;> first | rfl | (simp [scal] at h; done)
theorem scal_all {cs : List PV} (h : cs.all (fun c => match c with
    | .int _ _ | .bool _ | .str _ => true
    | _ => false) = true) : ∀ c ∈ cs, scal c = true := by
  intro c hc
  have := List.all_eq_true.1 h c hc
  cases c <;> first | rfl | (simp at this; done)
theorem flat1_cases {p : PV} (h : flat1 p = true) : scal p = true ∨ ∃ cs, p = .agg cs ∧ ∀ c ∈ cs, scal c = true := by
  cases p <;> first | (left; rfl) | (simp [flat1] at h; done) | exact .inr ⟨_, rfl, scal_all h⟩
theorem flat1_rel {p : PV} {v : Value} (h : flat1 p = true) (hr : Rel G p v) : Rel G1 p v := by
  rcases flat1_cases h with h | ⟨cs, rfl, h'⟩
  · exact scal_rel h hr
  · cases hr with
    | agg _ vs h1 h2 h3 => exact .agg _ vs h1 h2 (fun k c u e1 e2 => scal_rel (h' c (List.mem_of_getElem? e1)) (h3 k c u e1 e2))
theorem travs_id {f : Store → PV → Option (PV × Store)} : ∀ {cs : List PV}, (∀ c ∈ cs, f S c = some (c, S)) → travs f S cs = some (cs, S)
  | [], _ => rfl
  | c :: cs, h => by
    have ih := travs_id (f := f) (cs := cs) (fun d hd => h d (List.mem_cons_of_mem c hd))
    simp only [travs, h c List.mem_cons_self, ih]
theorem flat1_adopt {p : PV} (h : flat1 p = true) : travA adopt1 S p = some (p, S) := by
  rcases flat1_cases h with h | ⟨cs, rfl, h'⟩
  · rw [travA_not (by intro cs e; subst e; simp [scal] at h)]
    exact scal_adopt h
  · simp only [travA, travs_id (fun c hc => scal_adopt (S := S) (h' c hc))]
theorem flatR_adopt {p : PV} (h : flatR p = true) : adopt S p = some (p, S) := by
  by_cases ht : ∃ cs, p = .tup cs
  · obtain ⟨cs, rfl⟩ := ht
    simp only [flatR, allFlat, List.all_eq_true] at h
    simp only [adopt, trav, travs_id (fun c hc => flat1_adopt (S := S) (h c hc))]
  · have hn : ∀ cs, p ≠ .tup cs := fun cs e => ht ⟨cs, e⟩
    unfold adopt
    rw [trav_ntup hn]
    refine flat1_adopt ?_
    cases p <;> first | exact h | exact absurd rfl (hn _)
theorem flatR_rel {p : PV} {v : Value} (h : flatR p = true) (hr : Rel G p v) : Rel G1 p v := by
  by_cases ht : ∃ cs, p = .tup cs
  · obtain ⟨cs, rfl⟩ := ht
    simp only [flatR, allFlat, List.all_eq_true] at h
    cases hr with
    | tup _ vs h1 h2 => exact .tup _ vs h1 (fun k c u e1 e2 => flat1_rel (h c (List.mem_of_getElem? e1)) (h2 k c u e1 e2))
  · refine flat1_rel ?_ hr
    cases p <;> first | exact h | exact absurd ⟨_, rfl⟩ ht

/-- What a pure call may look at. -/
def lentImm (G : Ghost) (w : World) (na : Bool) : Nat → Nat → Option Value := if na then G.imm else fun b o => w.cell? ⟨b, o, none⟩
theorem lentImm_le (h : Sim T P base G S w) {na : Bool} : ∀ (b o : Nat) (v : Value), lentImm G w na b o = some v → w.cell? ⟨b, o, none⟩ = some v := by
  intro b o v e
  cases na
  · exact e
  · exact h.imm b o v e
theorem finish_ok (h : Sim T P base G S w) (hb : base ≤ w.heap.size) {args : List PV} {r p : PV} {v : Value} (hret : RetP T P (lentImm G w (args.all noArr)) w r (.returned v) w') (hf : finishP (some r) args S = some (p, S2)) :
    ∃ G2, Sim T P base G2 S2 w' ∧ Stp (KF G) base G w G2 w' ∧ Rel G2 p v := by
  simp only [finishP] at hf
  split at hf
  · rename_i hc
    cases hna : args.all noArr with
    | true =>
      rw [hna] at hret
      exact finish_list h hb hret hf
    | false =>
      rw [hna] at hret hc
      have hflat : flatR r = true := by simpa using hc
      rw [flatR_adopt hflat] at hf
      cases hf
      have hbel : Below w.heap.size w w' := by obtain ⟨_, _, _, _, _, _, hbel, _⟩ := hret; exact hbel
      obtain ⟨G3, _, _, hr⟩ := finish_list (T := T) (P := P) (base := w.heap.size) (G := immG (lentImm G w false)) (S := {}) (simP (lentImm_le h)) (Nat.le_refl _) hret (flatR_adopt hflat)
      refine ⟨G, h.same hbel.size (fun b hb _ => hbel.block b hb), ⟨Ext.refl _ _, fun b hb' => ⟨hbel.block b (h.lt_of_own (by rw [hb']; simp)), hb'⟩, ?_⟩, flatR_rel hflat hr⟩
      exact ⟨hbel.os, hbel.tape, hbel.output, hbel.size, fun k hk => hbel.block k (by omega)⟩
  · cases hf
/-- The arguments as they are lent. -/
theorem lends_rel (h : Sim T P base G S w) {σ : AS} (hS : σ.S = S) {ps qs : List PV} {vs : Array Value} (ha : Args G ps vs) (hl : lends σ ps = some qs) (hc : closeds qs = true) : Args (immG (lentImm G w (ps.all noArr))) qs vs := by
  obtain ⟨g1, g2⟩ := lends_at hl
  refine ⟨by rw [ha.1, g1], fun k q v e1 e2 => ?_⟩
  have hk : k < ps.length := by rw [← g1]; exact (List.getElem?_eq_some_iff.1 e1).1
  have e0 : ps[k]? = some ps[k] := by simp [hk]
  refine lend_rel h hS (fun b o v e => ?_) (ha.2 k _ v e0 e2) ?_ (g2 k _ _ e0 e1) (closeds_mem hc q (List.mem_of_getElem? e1))
  · cases hna : ps.all noArr with
    | true => exact e
    | false => exact h.imm b o v e
  · cases hna : ps.all noArr with
    | true => exact .inl (List.all_eq_true.1 hna _ (List.getElem_mem hk))
    | false => exact .inr (fun b o v e => e)
end
end Go.Proofs.YtkgmeeenacnhfaaGreat.Eng
namespace Go.Proofs.YtkgmeeenacnhfaaGreat.Eng
open Go
open Go.RowKit (Below)

def toExit : AExit → Exit
  | .normal => .normal
  | .exit i => .exit i
  | .ret => .ret
def FOK (F : Fence) (rnd : Bool) : Prop := (rnd = false ∧ F = Fence.wide) ∨ (rnd = true ∧ ∃ l, F = Fence.wide.inRound l)
def Post (T : Tbl) (P : Program) (A : Ann) (N : Nat) (K : Nat → Prop) (base : Nat) (G : Ghost) (w : World) (σ' : AS) (e : AExit) : Exit → Act → World → Prop := fun e' a' w' =>
  e' = toExit e ∧ ∃ G' L' M', FSim T P A N K base G' L' M' σ' a' w' ∧ Stp K base G w G' w'
/-- The abstract code's run tells of the code's. -/
def CodeOK (T : Tbl) (P : Program) (ex : Ex) : Prop := ∀ {F : Fence} {k : Nat} {A : Ann} {N : Nat} {K : Nat → Prop} {base : Nat} {G : Ghost} {L : Nat → Option Nat} {M : List Nat} {σ σ' : AS} {a : Act} {w : World} {c : Code} {ac : ACode} {e : AExit},
  cCode P A T.how N c = some ac → ex ac σ = some (e, σ') → FSim T P A N K base G L M σ a w → base ≤ w.heap.size → FOK F σ.rnd → c.wpIn F k P (Post T P A N K base G w σ' e) a w
def RndOK (ex : Ex) : Prop := ∀ {ac : ACode} {σ : AS} {e : AExit} {σ' : AS}, ex ac σ = some (e, σ') → σ'.rnd = σ.rnd
def RetS (T : Tbl) (P : Program) (base : Nat) (G : Ghost) (w : World) (r : PV) (S' : Store) : Ending → World → Prop
  | .returned v, w' => ∃ G', Sim T P base G' S' w' ∧ Stp (KF G) base G w G' w' ∧ Rel G' r v
  | _, _ => False
def CallOK (T : Tbl) (P : Program) (call : FuncId → List PV → Store → Option (PV × Store)) : Prop := ∀ {f : FuncId} {args : List PV} {S S' : Store} {r : PV}, call f args S = some (r, S') → ∀ {base : Nat} {G : Ghost} {w : World} {vs : Array Value} {k : Nat},
  Sim T P base G S w → base ≤ w.heap.size → Args G args vs → CallsIn Fence.wide k P f vs w (RetS T P base G w r S')

/-- May a function be called as one with a body? -/
def Enter (P : Program) (f : FuncId) : Prop := ∃ fn, P.funcs[f]? = some fn ∧ fn.body.isSome = true ∧ fn.name ≠ "runtime.NumGoroutine"
structure TOK (T : Tbl) (P : Program) : Prop where
  fn : ∀ f af, T.fn f = some af → ∃ fn A, P.funcs[f]? = some fn ∧ cFn P A T.how fn = some af
  given : ∀ f g, T.how f = .given g → Enter P f ∧ ∀ args r, g args = some r → PureOK T P f args r
  store : ∀ f g, T.how f = .store g → Enter P f ∧ ∀ {args : List PV} {S S' : Store} {r : PV}, g S args = some (r, S') → ∀ {base : Nat} {G : Ghost} {w : World} {vs : Array Value} {k : Nat},
    Sim T P base G S w → base ≤ w.heap.size → Args G args vs → CallsIn Fence.wide k P f vs w (RetS T P base G w r S')
  mixed : P.follows .mixedOrders = true

section
variable {T : Tbl} {P : Program} {A : Ann} {N : Nat} {K : Nat → Prop} {base : Nat} {G : Ghost} {L : Nat → Option Nat} {M : List Nat} {σ σ' : AS} {a : Act} {w : World} {ex : Ex}

def resVal (tmps : Array Value) : ResultVar → Sem Value
  | .tmp t => pure (tmps.getD t undef)
  | .cell x t => do loadVar t (← asAddr (tmps.getD x undef))
theorem results_eq (fn : Func) (tmps : Array Value) : results fn tmps = (do
    let vs ← fn.results.mapM (resVal tmps)
    pure (if h : vs.size = 1 then vs[0] else .tuple vs)) := by
  unfold results
  congr 1
theorem resOfs_run (h : FSim T P A N K base G L M σ a w) : ∀ {rs : List ResultVar} {as : List ARes} {ps : List PV}, cRes P rs = some as → resOfs σ as = some ps →
    ∃ us : List Value, (rs.mapM (m := Sem) (resVal a.tmps)).run P w = .ok us w ∧ us.length = ps.length ∧ ∀ (k : Nat) (p : PV) (v : Value), ps[k]? = some p → us[k]? = some v → Rel G p v
  | [], as, ps, hc, hr => by
    cases hc
    cases hr
    exact ⟨[], by simp, rfl, fun k p v e => by simp at e⟩
  | r :: rs, as, ps, hc, hr => by
    simp only [cRes] at hc
    split at hc
    · cases hc
    · rename_i q hq
      have hone : ∃ ar, as = ar :: q ∧ ∀ p, resOf σ ar = some p → ∃ u, (resVal a.tmps r).run P w = .ok u w ∧ Rel G p u := by
        cases r with
        | tmp t =>
          cases hc
          refine ⟨_, rfl, fun p hp => ⟨a.tmps.getD t undef, rfl, ?_⟩⟩
          exact h.aval (x := .tmp t) rfl hp
        | cell s t =>
          simp only at hc
          split at hc
          · rename_i z hz
            cases hc
            refine ⟨_, rfl, fun p hp => ?_⟩
            simp only [resOf, aload] at hp
            split at hp
            · rename_i cs off hd
              obtain ⟨b, o, hv, hcc⟩ := h.deref (h.tmps s) hd
              obtain ⟨u, h1, h2⟩ := cut_run hz hcc hp
              exact ⟨u, by simp [resVal, hv, asAddr, h1], h2⟩
            · cases hp
          · cases hc
      obtain ⟨ar, rfl, hone⟩ := hone
      simp only [resOfs] at hr
      split at hr
      · cases hr
      · rename_i p hp
        split at hr
        · cases hr
        · rename_i ps' hps
          cases hr
          obtain ⟨u, h1, h2⟩ := hone p hp
          obtain ⟨us, g1, g2, g3⟩ := resOfs_run h hq hps
          refine ⟨u :: us, ?_, by simp [g2], fun k p v e1 e2 => ?_⟩
          · rw [List.mapM_cons, Sem.run_bind, h1, Result.andThen_ok, Sem.run_bind, g1]
            rfl
          · cases k with
            | zero => simp at e1 e2; subst e1 e2; exact h2
            | succ k => exact g3 k p v (by simpa using e1) (by simpa using e2)
theorem results_run (h : FSim T P A N K base G L M σ a w) {fn : Func} {as : List ARes} {ps : List PV} (hc : cRes P fn.results.toList = some as) (hr : resOfs σ as = some ps) : ∃ u, (results fn a.tmps).run P w = .ok u w ∧ Rel G (packR ps) u := by
  obtain ⟨us, h1, h2, h3⟩ := resOfs_run h hc hr
  have hrun : (results fn a.tmps).run P w = .ok (if h : us.toArray.size = 1 then us.toArray[0] else .tuple us.toArray) w := by
    rw [results_eq, Sem.run_bind, Array.mapM_eq_mapM_toList, Sem.run_map, h1]
    rfl
  refine ⟨_, hrun, ?_⟩
  match us, ps, h2, h3 with
  | [u], [p], _, h3 => exact h3 0 p u rfl rfl
  | [], [], _, _ => exact .tup [] #[] rfl (fun k p v e => by simp at e)
  | u :: u' :: us, p :: p' :: ps, h2, h3 =>
    rw [dif_neg (by simp)]
    exact .tup _ _ (by simpa using h2) (fun k q v e1 e2 => h3 k q v e1 (by simpa using e2))
  | [_], [], h2, _ => simp at h2
  | [_], _ :: _ :: _, h2, _ => simp at h2
  | [], _ :: _, h2, _ => simp at h2
  | _ :: _ :: _, [], h2, _ => simp at h2
  | _ :: _ :: _, [_], h2, _ => simp at h2

theorem tget_at : ∀ (l : List PV) (t : Nat), tget l t = (l[t]?).getD .undef
  | [], t => by rw [tget_nil]; simp
  | x :: xs, 0 => rfl
  | x :: xs, t + 1 => by simp [tget, tget_at xs t]
/-- The state at a function's entry. -/
theorem entry_sim {S : Store} (h : Sim T P base G S w) {args : List PV} {vs : Array Value} (ha : Args G args vs) (hn : args.length ≤ N) :
    FSim T P A N (KF G) base G (fun _ => none) [] { tmps := args, S := S } { tmps := vs ++ Array.replicate (N - vs.size) undef, defers := [] } w := by
  have hrel : ∀ t, Rel G (tget args t) ((vs ++ Array.replicate (N - vs.size) undef).getD t undef) := by
    intro t
    rw [tget_at, Array.getD_eq_getD_getElem?]
    rcases Nat.lt_or_ge t vs.size with ht | ht
    · have hta : t < args.length := by rw [← ha.1]; exact ht
      rw [Array.getElem?_append_left ht]
      simp only [hta, ht, List.getElem?_eq_getElem, Array.getElem?_eq_getElem, Option.getD_some]
      exact ha.2 t _ _ (by simp [hta]) (by simp [ht])
    · rw [Array.getElem?_append_right ht, List.getElem?_eq_none (by rw [← ha.1]; exact ht), Option.getD_none]
      have : (Array.replicate (N - vs.size) undef)[t - vs.size]?.getD undef = undef := by
        rw [Array.getElem?_replicate]
        split <;> rfl
      rw [this]
      exact .undef
  refine ⟨h, by simp [ha.1]; omega, fun t => .inr (hrel t), fun t s off e => ?_, fun s cs e => ?_, fun s blk e => (by cases e), fun s s' blk e => (by cases e), fun b hb => hb, .nil, fun r hr => (by simp at hr), List.nodup_nil, rfl⟩
  · have := hrel t
    rw [e] at this
    cases this
  · rw [tget_nil] at e
    cases e
end
end Go.Proofs.YtkgmeeenacnhfaaGreat.Eng
namespace Go.Proofs.YtkgmeeenacnhfaaGreat.Eng
open Go
open Go.RowKit (Below)
section
variable {T : Tbl} {P : Program} {A : Ann} {N : Nat} {K : Nat → Prop} {base : Nat} {G G0 : Ghost} {L : Nat → Option Nat} {M : List Nat} {S S' : Store} {σ σ' : AS} {a : Act} {w w0 : World} {ex : Ex}

theorem cFn_spec {how : FuncId → How} {fn : Func} {af : AFn} (h : cFn P A how fn = some af) :
    ∃ b, fn.body = some b ∧ cCode P A how fn.ntmps b = some af.body ∧ cRes P fn.results.toList = some af.results ∧ af.nparams ≤ fn.ntmps ∧ fn.name ≠ "runtime.NumGoroutine" := by
  unfold cFn at h
  split at h
  · cases h
  · rename_i b hb
    split at h
    · rename_i c rs hc hr
      split at h
      · rename_i hcond
        cases h
        exact ⟨b, hb, hc, hr, hcond.1, hcond.2⟩
      · cases h
    · cases h
theorem enter_ok (hco : CodeOK T P ex) (ht : TOK T P) {f : FuncId} {args : List PV} {af : AFn} (he : enter T ex f args S = some (af, σ)) {vs : Array Value} {k : Nat} (h : Sim T P base G S w) (hb : base ≤ w.heap.size) (ha : Args G args vs) :
    ∃ fn b A e, P.funcs[f]? = some fn ∧ fn.body = some b ∧ cRes P fn.results.toList = some af.results ∧ (e = .normal ∨ e = .ret) ∧
      b.wpIn Fence.wide k P (Post T P A fn.ntmps (KF G) base G w σ e) { tmps := vs ++ Array.replicate (fn.ntmps - vs.size) undef, defers := [] } w := by
  unfold enter at he
  split at he
  · cases he
  · rename_i af' haf
    obtain ⟨fn, A, hf, hcf⟩ := ht.fn f af' haf
    obtain ⟨b, g1, g2, g3, g4, g5⟩ := cFn_spec hcf
    split at he
    · cases he
    · rename_i hlen
      have hlen' : args.length = af'.nparams := by simpa using hlen
      have hes := entry_sim (A := A) (N := fn.ntmps) h ha (by omega)
      split at he
      · rename_i σ1 hex
        cases he
        exact ⟨fn, b, A, .normal, hf, g1, g3, .inl rfl, hco g2 hex hes hb (.inl ⟨rfl, rfl⟩)⟩
      · rename_i σ1 hex
        cases he
        exact ⟨fn, b, A, .ret, hf, g1, g3, .inr rfl, hco g2 hex hes hb (.inl ⟨rfl, rfl⟩)⟩
      · cases he
/-- A deferred call, of a function that defers nothing. -/
theorem callD_ok (hco : CodeOK T P ex) (ht : TOK T P) {f : FuncId} {args : List PV} {r : PV} (hc : callS0 T ex f args S = some (r, S')) {vs : Array Value} {k : Nat} {u : FrameMode} (h : Sim T P base G S w) (hb : base ≤ w.heap.size) (ha : Args G args vs) :
    CallsDIn Fence.wide k P f vs u w (fun e u' w' => u' = u ∧ RetS T P base G w r S' e w') := by
  unfold callS0 at hc
  split at hc
  · rename_i af σ he
    obtain ⟨fn, b, A, e, hf, hbd, hres, hek, hwp⟩ := enter_ok (k := k) hco ht he h hb ha
    split at hc
    · cases hc
    · rename_i hm
      split at hc
      · rename_i hd
        split at hc
        · rename_i ps hps
          cases hc
          refine callsDIn_of_wp hf hbd trivial (wpIn_mono hwp (fun e' a' w' hp => ?_))
          obtain ⟨rfl, G', L', M', hs, hst⟩ := hp
          have hM : M' = [] := List.eq_nil_of_length_eq_zero (by rw [hs.mLen]; simpa using hm)
          have hdf := hs.defers
          rw [hd, hM] at hdf
          have hdn : a'.defers = [] := by
            generalize a'.defers = Ds at hdf
            cases hdf
            rfl
          obtain ⟨v, h1, h2⟩ := results_run hs hres hps
          have : a'.defers = [] ∧ ∃ v, (results fn a'.tmps).run P w' = .ok v w' ∧ RetS T P base G w (packR ps) σ.S (.returned v) w' := ⟨hdn, v, h1, G', hs.sim, hst, h2⟩
          rcases hek with rfl | rfl
          · exact this
          · exact this
        · cases hc
      · cases hc
  · cases hc
theorem run_invoke_fn {f : FuncId} {fn : Func} (hf : P.funcs[f]? = some fn) (hb : fn.body.isSome = true) (hn : fn.name ≠ "runtime.NumGoroutine") (args cap : Array Value) :
    (invoke (.fn (.func f) cap) args).run P w = .ok (.enter f (args ++ cap)) w := by
  obtain ⟨b, hb⟩ := Option.isSome_iff_exists.1 hb
  simp [invoke, callFunc, hf, hn, hb]
theorem callS0_enter (ht : TOK T P) {f : FuncId} {args : List PV} {x : PV × Store} (hc : callS0 T ex f args S = some x) : Enter P f := by
  unfold callS0 enter at hc
  cases haf : T.fn f with
  | none => simp [haf] at hc
  | some af =>
    obtain ⟨fn, A, hf, hcf⟩ := ht.fn f af haf
    obtain ⟨b, g1, g2, g3, g4, g5⟩ := cFn_spec hcf
    exact ⟨fn, hf, by simp [g1], g5⟩
theorem args_app {as bs : List PV} {us vs : Array Value} (h : Args G as us) (k : Args G bs vs) : Args G (as ++ bs) (us ++ vs) := by
  refine ⟨by simp [h.1, k.1], fun i p v e1 e2 => ?_⟩
  rcases Nat.lt_or_ge i as.length with hi | hi
  · rw [List.getElem?_append_left hi] at e1
    rw [Array.getElem?_append_left (by rw [h.1]; exact hi)] at e2
    exact h.2 i p v e1 e2
  · rw [List.getElem?_append_right hi] at e1
    rw [Array.getElem?_append_right (by rw [h.1]; exact hi), h.1] at e2
    exact k.2 _ p v e1 e2
/-- A function's end. -/
theorem leaves_ok (hco : CodeOK T P ex) (ht : TOK T P) {fn : Func} {k : Nat} {as : List ARes} (hres : cRes P fn.results.toList = some as) {ps : List PV} :
    ∀ (Ds : List Deferred) {ds : List (PV × List PV)} {M : List Nat} {G : Ghost} {w : World} {σ σ' : AS}, DefRel G w ds Ds M → FSim T P A N K base G L M { σ with defers := ds, marks := M.length } { a with defers := Ds } w → Stp K base G0 w0 G w → base ≤ w.heap.size → (∀ b, KF G0 b → K b) →
      runDefers T ex ds { σ with defers := [] } = some σ' → resOfs σ' as = some ps → LeavesInM Fence.wide k P fn a.tmps (RetS T P base G0 w0 (packR ps) σ'.S) Ds .returning w := by
  intro Ds
  induction Ds with
  | nil =>
    intro ds M G w σ σ' hd h hst hb hK hrun hps
    cases hd
    cases hrun
    have h' : FSim T P A N K base _ L [] { σ with defers := [], marks := 0 } { a with defers := [] } w := h
    have hps' : resOfs { σ with defers := [], marks := 0 } as = some ps := by
      rw [← hps]
      have key : ∀ r, resOf { σ with defers := [], marks := 0 } r = resOf { σ with defers := [] } r := fun r => by cases r <;> rfl
      clear hps hres
      induction as with
      | nil => rfl
      | cons r rs ih => simp only [resOfs, key, ih]
    obtain ⟨v, h1, h2⟩ := results_run h' hres hps'
    exact ⟨v, h1, _, h.sim, hst.mono hK, h2⟩
  | cons d Ds ih =>
   intro ds M G w σ σ' hd h hst hb hK hrun hps
   cases hd with
   | mark r ds Ds M hd =>
    obtain ⟨g1, g2, g3, g4⟩ := h.marks r (by simp)
    have hlt := h.sim.lt_of_own (b := r) (by rw [g1]; simp)
    have hbase := (h.sim.ownLt r (by rw [g1]; simp)).1
    have hoth := fun b hb => putObj_only w r (.deferred none) b hb
    have hnd := List.nodup_cons.1 h.mNodup
    refine ⟨by simp, .inl ⟨r, w.putObj r (.deferred none), rfl, run_takeDeferred g4, ?_⟩⟩
    refine ih (σ := σ) (w := w.putObj r (.deferred none)) (hd.ext (Ext.refl base _)) ?_ (hst.trans (Stp.of_write (w' := w.putObj r (.deferred none)) h.kOwn (blk := r) g2 hbase (by simp) rfl rfl rfl hoth)) (by simpa using hb) hK hrun hps
    refine ⟨h.sim.same (by simp) (fun b _ hf => hoth b (fun e => hf (e ▸ g1))), h.size, h.tmps, h.kills, fun s cs e => ?_, h.lOwn, h.inj, h.kOwn, hd.ext (Ext.refl base _), fun r' hr' => ?_, hnd.2, rfl⟩
    · obtain ⟨blk, arr, el, q1, q2, q3, q4⟩ := h.loc s cs e
      exact ⟨blk, arr, el, q1, (hoth blk (fun e => g3 s (e ▸ q1))).trans q2, q3, q4⟩
    · obtain ⟨q1, q2, q3, q4⟩ := h.marks r' (by simp [hr'])
      exact ⟨q1, q2, q3, (hoth r' (fun e => hnd.1 (e ▸ hr'))).trans q4⟩
   | fn f af cf args va vc vargs ds Ds M hrel hsz hargs hd =>
    simp only [runDefers] at hrun
    split at hrun
    · rename_i r1 S1 hc
      obtain ⟨fn', hf', hb', hn'⟩ := callS0_enter ht hc
      cases hrel with
      | fn _ _ _ _ _ e1 e2 e3 e4 =>
        have hA : Args _ (af ++ args ++ cf) (va ++ vargs ++ vc) := args_app (args_app ⟨e1, e3⟩ ⟨hsz, hargs⟩) ⟨e2, e4⟩
        refine ⟨by simp, .inr ⟨by simp [Fence.wide], .func f, vc, f, va ++ vargs ++ vc, rfl, run_invoke_fn hf' hb' hn' _ _, fun _ _ => trivial, ?_⟩⟩
        have hcall := callD_ok (k := k - 1) (u := .returning) hco ht hc (h.sim : Sim T P base _ σ.S w) hb hA
        refine ⟨hcall.1, fun c cs hu hr => ?_⟩
        obtain ⟨e, u', w', fr, ⟨hu', hret⟩, rest⟩ := hcall.2 c cs hu hr
        refine ⟨e, u', w', fr, ?_, rest⟩
        subst hu'
        match e, hret with
        | .returned v, hret =>
          obtain ⟨G', hs', hst', hv⟩ := hret
          have h0 : FSim T P A N K base _ L M { σ with defers := ds, marks := M.length } { a with defers := Ds } w :=
            ⟨h.sim, h.size, h.tmps, h.kills, h.loc, h.lOwn, h.inj, h.kOwn, hd, h.marks, h.mNodup, rfl⟩
          have h1 := h0.store hs' hst'
          exact ih (σ := { σ with S := S1 }) (hd.ext hst'.ext) h1 (hst.trans (hst'.mono h.kOwn)) (by have := hst'.below.size; omega) hK hrun hps
    · cases hrun
theorem callOK_of (hco : CodeOK T P ex) (ht : TOK T P) : CallOK T P (callS T ex) := by
  intro f args S S' r hc base G w vs k h hb ha
  unfold callS at hc
  split at hc
  · rename_i af σ he
    obtain ⟨fn, b, A, e, hf, hbd, hres, hek, hwp⟩ := enter_ok (k := k) hco ht he h hb ha
    split at hc
    · rename_i σ1 hd
      split at hc
      · rename_i ps hps
        cases hc
        refine callsIn_of_wp_marks hf hbd trivial (wpIn_mono hwp (fun e' a' w' hp => ?_))
        obtain ⟨rfl, G', L', M', hs, hst⟩ := hp
        have hs' : FSim T P A fn.ntmps (KF G) base G' L' M' { σ with defers := σ.defers, marks := M'.length } { a' with defers := a'.defers } w' := by
          have := hs.mLen
          rw [this]
          exact hs
        have hl := leaves_ok (ex := ex) (k := k) hco ht (fn := fn) hres (σ := σ) (ps := ps) a'.defers hs.defers hs' hst (by have := hst.below.size; omega) (fun b hb => hb) hd hps
        rcases hek with rfl | rfl
        · exact hl
        · exact hl
      · cases hc
    · cases hc
  · cases hc
end
end Go.Proofs.YtkgmeeenacnhfaaGreat.Eng
namespace Go.Proofs.YtkgmeeenacnhfaaGreat.Eng
open Go
open Go.RowKit (Below)
section
variable {T : Tbl} {P : Program} {A : Ann} {N : Nat} {K : Nat → Prop} {base : Nat} {G G0 : Ghost} {L : Nat → Option Nat} {M : List Nat} {S S' : Store} {σ σ' : AS} {a : Act} {w w0 : World} {ex : Ex}

theorem callP_ok (hcall : CallOK T P (callS T ex)) {own : Bool} {f : FuncId} {args : List PV} {r : PV} (hc : callP T ex own f args = some r) : PureOK T P f args r := by
  intro imm w vs k himm ha hcl
  unfold callP at hc
  rw [if_pos hcl] at hc
  split at hc
  · rename_i r' S hs
    split at hc
    · rename_i r1 hg
      have hsim := simP (T := T) (P := P) himm
      refine CallsIn.mono (hcall hs hsim (Nat.le_refl _) ha) (fun e w' he => ?_)
      cases e with
      | returned v =>
        obtain ⟨G', h1, h2, h3⟩ := he
        cases own with
        | true =>
          simp only [if_true] at hc
          split at hc
          · rename_i hcc
            cases hc
            exact ⟨G', S, r', _, h1, h2.ext, h2.below, h3, hg, .inl rfl, hcc⟩
          · cases hc
        | false =>
          simp only [Bool.false_eq_true, if_false] at hc
          split at hc
          · rename_i hcc
            cases hc
            exact ⟨G', S, r', r1, h1, h2.ext, h2.below, h3, hg, .inr rfl, hcc⟩
          · cases hc
      | panicked c => exact he.elim
      | outgrown => exact he.elim
    · cases hc
  · cases hc
theorem callS_enter (ht : TOK T P) {f : FuncId} {args : List PV} {x : PV × Store} (hc : callS T ex f args S = some x) : Enter P f := by
  unfold callS enter at hc
  cases haf : T.fn f with
  | none => simp [haf] at hc
  | some af =>
    obtain ⟨fn, A, hf, hcf⟩ := ht.fn f af haf
    obtain ⟨b, g1, g2, g3, g4, g5⟩ := cFn_spec hcf
    exact ⟨fn, hf, by simp [g1], g5⟩
theorem callP_enter (ht : TOK T P) {own : Bool} {f : FuncId} {args : List PV} {x : PV} (hc : callP T ex own f args = some x) : Enter P f := by
  unfold callP at hc
  split at hc
  · split at hc
    · rename_i hs
      exact callS_enter ht hs
    · cases hc
  · cases hc
/-- A call, by whatever road. -/
theorem callF_ok (hcall : CallOK T P (callS T ex)) (ht : TOK T P) {f : FuncId} {args : List PV} {r : PV} (hc : callF T ex f args σ = some (r, S')) {vs : Array Value} {k : Nat} (h : Sim T P base G σ.S w) (hb : base ≤ w.heap.size) (ha : Args G args vs) :
    Enter P f ∧ CallsIn Fence.wide k P f vs w (RetS T P base G w r S') := by
  have fin : ∀ {as : List PV} {r0 : PV}, lends σ args = some as → closeds as = true → PureOK T P f as r0 → finishP (some r0) args σ.S = some (r, S') → CallsIn Fence.wide k P f vs w (RetS T P base G w r S') := by
    intro as r0 hl hcl hp hf
    refine CallsIn.mono (hp _ w vs k (lentImm_le h (na := args.all noArr)) (lends_rel h rfl ha hl hcl) hcl) (fun e w' he => ?_)
    cases e with
    | returned v => exact finish_ok h hb he hf
    | panicked c => exact he.elim
    | outgrown => exact he.elim
  unfold callF at hc
  split at hc
  · rename_i g hg
    split at hc
    · rename_i as hl
      split at hc
      · rename_i hcl
        obtain ⟨h1, h2⟩ := ht.given f g hg
        refine ⟨h1, ?_⟩
        cases hr : g as with
        | none => rw [hr] at hc; simp [finishP] at hc
        | some r0 => rw [hr] at hc; exact fin hl hcl (h2 as r0 hr) hc
      · cases hc
    · cases hc
  · rename_i own hg
    split at hc
    · rename_i as hl
      cases hr : callP T ex own f as with
      | none => rw [hr] at hc; simp [finishP] at hc
      | some r0 =>
        rw [hr] at hc
        have hcl : closeds as = true := by
          unfold callP at hr
          split at hr
          · assumption
          · cases hr
        exact ⟨callP_enter ht hr, fin hl hcl (callP_ok hcall hr) hc⟩
    · cases hc
  · rename_i g hg
    obtain ⟨h1, h2⟩ := ht.store f g hg
    exact ⟨h1, h2 hc h hb ha⟩
  · exact ⟨callS_enter ht hc, hcall hc h hb ha⟩
theorem avals_args (h : FSim T P A N K base G L M σ a w) {xs : Array Operand} {os : List Opd} {ps : List PV} (hc : cOpds xs.toList = some os) (ha : avals σ os = some ps) : Args G ps (xs.map a.eval) := by
  obtain ⟨h1, h2⟩ := h.avals hc ha
  exact ⟨by simpa using h1, fun k p v e1 e2 => h2 k p v e1 (by simpa using e2)⟩
theorem run_enter {f : FuncId} (h : Enter P f) (args cap : Array Value) : (invoke (.fn (.func f) cap) args).run P w = .ok (.enter f (args ++ cap)) w := by
  obtain ⟨fn, h1, h2, h3⟩ := h
  exact run_invoke_fn h1 h2 h3 args cap
/-- A call of a loop body's yield. -/
def YieldOK (T : Tbl) (P : Program) (ex : Ex) : Prop := ∀ {l : Nat} {args : List PV} {S S' : Store} {r : PV}, callY ex l args S = some (r, S') → ∀ {base : Nat} {G : Ghost} {w : World} {vs : Array Value} {k : Nat} {blk : Nat},
  Sim T P base G S w → base ≤ w.heap.size → Args G args vs → G.loop[l]? = some blk → ∃ fn tmps asg body, (Instr.yield blk vs).run P w = .ok (.round blk fn tmps asg body) w ∧ RoundIn Fence.wide k P blk fn tmps asg body w (RetS T P base G w r S')
theorem putAll_rel : ∀ {ps : List Nat} {vs : List PV} {us : List Value} {l l' : List PV} {arr : Array Value}, putAll l ps vs = some l' → us.length = vs.length → (∀ (k : Nat) (p : PV) (v : Value), vs[k]? = some p → us[k]? = some v → Rel G p v) → (∀ p ∈ ps, p < arr.size) →
    (∀ t, Rel G (tget l t) (arr.getD t undef)) → ps.length = us.length ∧ ((ps.zip us).foldl (fun tmps (x : Nat × Value) => tmps.setIfInBounds x.1 x.2) arr).size = arr.size ∧ ∀ t, Rel G (tget l' t) (((ps.zip us).foldl (fun tmps (x : Nat × Value) => tmps.setIfInBounds x.1 x.2) arr).getD t undef)
  | [], [], [], l, l', arr, h, hl, ha, hp, hr => by cases h; exact ⟨rfl, rfl, hr⟩
  | p :: ps, v :: vs, u :: us, l, l', arr, h, hl, ha, hp, hr => by
    simp only [putAll] at h
    have hps := hp p (by simp)
    obtain ⟨h1, h2, h3⟩ := putAll_rel (arr := arr.setIfInBounds p u) h (by simpa using hl) (fun k q w e1 e2 => ha (k + 1) q w (by simpa using e1) (by simpa using e2)) (fun q hq => by simpa using hp q (by simp [hq])) (fun t => by
      by_cases ht : t = p
      · subst ht
        rw [tget_tset_same]
        have : (arr.setIfInBounds t u).getD t undef = u := by simp [Array.getD, hps]
        rw [this]
        exact ha 0 v u rfl rfl
      · rw [tget_tset_ne _ _ _ _ ht]
        have : (arr.setIfInBounds p u).getD t undef = arr.getD t undef := by simp only [Array.getD_eq_getD_getElem?, Array.getElem?_setIfInBounds_ne (Ne.symm ht)]
        rw [this]
        exact hr t)
    refine ⟨by simp [h1], ?_, ?_⟩
    · simp only [List.zip_cons_cons, List.foldl_cons, h2]
      simp
    · simpa only [List.zip_cons_cons, List.foldl_cons] using h3
  | [], _ :: _, _, _, _, _, h, _, _, _, _ => by simp [putAll] at h
  | _ :: _, [], _, _, _, _, h, _, _, _, _ => by simp [putAll] at h
  | _, [], _ :: _, _, _, _, _, hl, _, _, _ => by simp at hl
  | _, _ :: _, [], _, _, _, _, hl, _, _, _ => by simp at hl
theorem Stp.loop_write (h : Sim T P base G S w) (hk : ∀ b, K b → G.own b = .frame) {l blk : Nat} (ho : G.own blk = .loop l) (o : Obj) : Stp K base G w G (w.putObj blk o) :=
  Stp.of_write hk (blk := blk) (fun q => by have := hk blk q; rw [ho] at this; cases this) (h.ownLt blk (by simp [ho])).1 (by simp) rfl rfl rfl (fun b hb => putObj_only w blk o b hb)
theorem yieldOK_of (hco : CodeOK T P ex) (hrnd : RndOK ex) : YieldOK T P ex := by
  intro l args S S' r hc base G w vs k blk h hb ha hg
  unfold callY at hc
  split at hc
  · cases hc
  · rename_i r0 hr0
    split at hc
    · cases hc
    · rename_i hst0
      have hst0' : r0.state = .ready := Classical.byContradiction hst0
      split at hc
      · cases hc
      · rename_i tmps htm
        obtain ⟨blk0, R, g1, g2, g3, g4⟩ := h.loop l r0 hr0
        rw [hg] at g1
        cases g1
        obtain ⟨A, hcA, hcB⟩ := g4.code
        obtain ⟨p1, p2, p3⟩ := putAll_rel (us := vs.toList) htm (by simpa using ha.1) (fun k p v e1 e2 => ha.2 k p v e1 (by simpa using e2)) g4.lt g4.tmps
        have hfold : (R.params.zip vs).foldl (fun tmps (t, a) => tmps.setIfInBounds t a) R.tmps = (r0.ps.zip vs.toList).foldl (fun tmps (x : Nat × Value) => tmps.setIfInBounds x.1 x.2) R.tmps := by
          rw [← Array.foldl_toList, Array.toList_zip, g4.ps]
        refine ⟨R.fn, _, R.assign, R.body, run_yield g3 ?_, roundIn_of_wpIn trivial ?_⟩
        · rw [← Array.length_toList (xs := R.params), g4.ps, p1]; simp
        rw [hfold]
        have hnoL : ∀ t s off, tget tmps t ≠ .lptr s off := fun t s off e => by have := p3 t; rw [e] at this; cases this
        have f0 : FSim T P A R.tmps.size (KF G) base G (fun _ => none) [] { tmps := tmps, S := S, rnd := true } { tmps := (r0.ps.zip vs.toList).foldl (fun tmps (x : Nat × Value) => tmps.setIfInBounds x.1 x.2) R.tmps, defers := [] } w :=
          ⟨h, p2, fun t => .inr (p3 t), fun t s off e => absurd e (hnoL t s off), fun s cs e => (by rw [tget_nil] at e; cases e), fun s blk e => (by cases e), fun s s' blk e => (by cases e), fun b hb => hb, .nil, fun r hr => (by simp at hr), List.nodup_nil, rfl⟩
        split at hc
        · rename_i σ1 hex1
          have hw1 := hco (F := Fence.wide.inRound blk) (k := k) hcA hex1 f0 hb (.inr ⟨rfl, blk, rfl⟩)
          have hr1 : σ1.rnd = true := hrnd hex1
          split at hc
          · cases hc
          · rename_i r1 hl1
            split at hc
            · cases hc
            · rename_i hcond
              have hst1 : r1.state = .ready := Classical.byContradiction fun q => hcond (.inl q)
              split at hc
              · rename_i e σ2 hex2
                refine wpIn_mono hw1 (fun e1 a1 w1 hp => ?_)
                obtain ⟨rfl, G1, L1, M1, f1, s1⟩ := hp
                obtain ⟨blk1, R1, k1, k2, k3, k4⟩ := f1.sim.loop l r1 hl1
                have hg1 := s1.ext.loop l blk hg
                rw [hg1] at k1
                cases k1
                have hRst : R1.state = .ready := by
                  have := k4.state
                  rw [hst1] at this
                  cases hq : R1.state <;> rw [hq] at this <;> first | rfl | exact this.elim
                have hll := (List.getElem?_eq_some_iff.1 hl1).1
                have wl := f1.sim.writeLoop (R' := { R1 with state := .busy }) (r' := { r1 with state := .busy }) hg1 k2 k3 ⟨trivial, k4.pending, k4.ps, k4.tmps, k4.lt, k4.code⟩ hll
                have f2 := f1.store wl (Stp.loop_write f1.sim (fun b hb => hb) k2 _)
                have s2 := s1.trans (Stp.loop_write f1.sim f1.kOwn k2 (.loop { R1 with state := .busy }))
                have hb2 : base ≤ (w1.putObj blk (.loop { R1 with state := .busy })).heap.size := by have := s1.below.size; simp; omega
                have hw2 := hco (F := Fence.wide.inRound blk) (k := k) (c := R.body) hcB hex2 f2 hb2 (.inr ⟨hr1, blk, rfl⟩)
                refine ⟨_, run_beginRound k3 hRst, wpIn_mono hw2 (fun e2 a2 w2 hp2 => ?_)⟩
                obtain ⟨rfl, G2, L2, M2, f3, s3⟩ := hp2
                split at hc
                · cases hc
                · rename_i r2 hl2
                  obtain ⟨blk2, R2, q1, q2, q3, q4⟩ := f3.sim.loop l r2 hl2
                  have hg2 := s3.ext.loop l blk hg1
                  rw [hg2] at q1
                  cases q1
                  have hll2 := (List.getElem?_eq_some_iff.1 hl2).1
                  split at hc
                  · cases hc
                  · have fin : ∀ (st : LState) (ST : LoopState) (pa : Option ACode) (pc : Option Code) (bb : Bool), stRel st ST → jumpRel pa pc → pc.isNone = bb → ST = (if pc.isNone then .ready else .done) → S' = { σ2.S with loops := σ2.S.loops.set l { r2 with state := st, pending := pa } } → r = .bool bb →
                        ∃ v w', (Instr.endRound blk pc).run P w2 = .ok v w' ∧ RetS T P base G w r S' (.returned v) w' := by
                      rintro st ST pa pc bb h1 h2 rfl rfl rfl rfl
                      refine ⟨_, _, run_endRound pc q3, G2, f3.sim.writeLoop hg2 q2 q3 ⟨h1, h2, q4.ps, q4.tmps, q4.lt, q4.code⟩ hll2, ?_, .bool _⟩
                      exact (s2.trans s3).trans (Stp.loop_write f3.sim f3.kOwn q2 _)
                    cases e with
                    | normal => cases hc; exact fin .ready .ready none none true trivial trivial rfl rfl rfl rfl
                    | ret => cases hc; exact fin .done .done (some .ret) (some .ret) false trivial trivial rfl rfl rfl rfl
                    | exit i => cases hc; exact fin .done .done (some (.exit i)) (some (.exit i)) false trivial rfl rfl rfl rfl rfl
              · cases hc
        · cases hc
end
end Go.Proofs.YtkgmeeenacnhfaaGreat.Eng
namespace Go.Proofs.YtkgmeeenacnhfaaGreat.Eng
open Go
open Go.RowKit (Below)
section
variable {T : Tbl} {P : Program} {A : Ann} {N : Nat} {K : Nat → Prop} {base : Nat} {G G0 : Ghost} {L : Nat → Option Nat} {M : List Nat} {S S' : Store} {σ σ' : AS} {a : Act} {w w0 : World} {o : Oper} {ex : Ex} {op : AOp}

theorem cOp_call {f : FuncId} {xs : List Opd} (hc : cOp P A o = some (.call f xs)) : ∃ c, o.op = .call c ∧ c.callee = .value (.func f) ∧ cOpds c.args.toList = some xs := by
  cases ho : o.op with
  | call c =>
    simp only [cOp, ho, cCall] at hc
    cases hcc : c.callee with
    | value x =>
      simp only [hcc] at hc
      cases x with
      | func g =>
        simp only at hc
        split at hc
        · rename_i as has
          cases hc
          exact ⟨c, rfl, hcc, has⟩
        · cases hc
      | _ =>
        simp only at hc
        repeat' (split at hc)
        all_goals cases hc
    | invoke r n => simp only [hcc] at hc; cases hc
    | builtin b =>
      exfalso
      cases b <;> simp only [hcc] at hc
      all_goals repeat' (split at hc)
      all_goals cases hc
  | binOp b t x y t' =>
    exfalso
    simp only [cOp, ho, cBin] at hc
    repeat' (split at hc)
    all_goals cases hc
  | makeMap t r =>
    exfalso
    cases r <;> simp only [cOp, ho] at hc
    all_goals repeat' (split at hc)
    all_goals cases hc
  | _ =>
    exfalso
    simp only [cOp, ho] at hc
    repeat' (split at hc)
    all_goals cases hc
theorem cOp_callv {y : Opd} {xs : List Opd} (hc : cOp P A o = some (.callv y xs)) : ∃ c x, o.op = .call c ∧ c.callee = .value x ∧ cOpd x = some y ∧ cOpds c.args.toList = some xs := by
  cases ho : o.op with
  | call c =>
    simp only [cOp, ho, cCall] at hc
    cases hcc : c.callee with
    | value x =>
      simp only [hcc] at hc
      cases x with
      | func g =>
        exfalso
        simp only at hc
        split at hc <;> cases hc
      | _ =>
        simp only at hc
        split at hc
        · rename_i z as hz has
          cases hc
          exact ⟨c, _, rfl, hcc, hz, has⟩
        · cases hc
    | invoke r n => simp only [hcc] at hc; cases hc
    | builtin b =>
      exfalso
      cases b <;> simp only [hcc] at hc
      all_goals repeat' (split at hc)
      all_goals cases hc
  | binOp b t x y t' =>
    exfalso
    simp only [cOp, ho, cBin] at hc
    repeat' (split at hc)
    all_goals cases hc
  | makeMap t r =>
    exfalso
    cases r <;> simp only [cOp, ho] at hc
    all_goals repeat' (split at hc)
    all_goals cases hc
  | _ =>
    exfalso
    simp only [cOp, ho] at hc
    repeat' (split at hc)
    all_goals cases hc
theorem cOp_defr {y : Opd} {xs : List Opd} (hc : cOp P A o = some (.defr y xs)) : ∃ c x, o.op = .defer c ∧ c.callee = .value x ∧ cOpd x = some y ∧ cOpds c.args.toList = some xs := by
  cases ho : o.op with
  | call c =>
    exfalso
    simp only [cOp, ho, cCall] at hc
    cases hcc : c.callee with
    | value x =>
      simp only [hcc] at hc
      cases x <;> simp only at hc
      all_goals repeat' (split at hc)
      all_goals cases hc
    | invoke r n => simp only [hcc] at hc; cases hc
    | builtin b =>
      cases b <;> simp only [hcc] at hc
      all_goals repeat' (split at hc)
      all_goals cases hc
  | defer c =>
    simp only [cOp, ho] at hc
    cases hcc : c.callee with
    | value x =>
      simp only [hcc] at hc
      split at hc
      · rename_i z as hz has
        cases hc
        exact ⟨c, x, rfl, hcc, hz, has⟩
      · cases hc
    | invoke r n => simp only [hcc] at hc; cases hc
    | builtin b => simp only [hcc] at hc; cases hc
  | binOp b t x y t' =>
    exfalso
    simp only [cOp, ho, cBin] at hc
    repeat' (split at hc)
    all_goals cases hc
  | makeMap t r =>
    exfalso
    cases r <;> simp only [cOp, ho] at hc
    all_goals repeat' (split at hc)
    all_goals cases hc
  | _ =>
    exfalso
    simp only [cOp, ho] at hc
    repeat' (split at hc)
    all_goals cases hc

theorem put_rnd (d : Option Nat) (v : PV) : (σ.put d v).rnd = σ.rnd := by cases d <;> rfl
theorem astore_rnd {p : PV} {vs : List PV} (h : astore σ p vs = some σ') : σ'.rnd = σ.rnd := by
  cases p <;> simp only [astore] at h
  all_goals repeat' (split at h)
  all_goals first | (cases h; rfl) | cases h
theorem aop_rnd {d : Option Nat} (h : aop T ex d σ op = some σ') : σ'.rnd = σ.rnd := by
  cases op <;> simp only [aop, withV, withS] at h
  all_goals repeat' (split at h)
  all_goals first
    | exact astore_rnd h
    | (cases h; done)
    | (cases h; rfl)
    | (cases h; exact put_rnd _ _)
    | (rename_i hst; cases h; exact (put_rnd _ _).trans (astore_rnd hst))
theorem FOK.fn {F : Fence} {r : Bool} (h : FOK F r) (f : FuncId) : F.fn f := by
  rcases h with ⟨_, rfl⟩ | ⟨_, l, rfl⟩
  · exact trivial
  · exact trivial
theorem FOK.depth {F : Fence} {r : Bool} (h : FOK F r) : F.depth = none := by
  rcases h with ⟨_, rfl⟩ | ⟨_, l, rfl⟩ <;> rfl
theorem FOK.calls {F : Fence} {r : Bool} (h : FOK F r) {k : Nat} {f : FuncId} {args : Array Value} {R : Ending → World → Prop} (hc : CallsIn Fence.wide k P f args w R) : CallsIn F k P f args w R := by
  rcases h with ⟨_, rfl⟩ | ⟨_, l, rfl⟩
  · exact hc
  · exact hc
theorem FOK.rounds {F : Fence} {r : Bool} (h : FOK F r) {k l : Nat} {f : FuncId} {tmps : Array Value} {x y : Code} {R : Ending → World → Prop} (hc : RoundIn Fence.wide k P l f tmps x y w R) : RoundIn F k P l f tmps x y w R := by
  rcases h with ⟨_, rfl⟩ | ⟨_, l, rfl⟩
  · exact hc
  · exact hc

/-- One operation. -/
theorem op_ok (hcall : CallOK T P (callS T ex)) (hy : YieldOK T P ex) (ht : TOK T P) (h : FSim T P A N K base G L M σ a w) (hb : base ≤ w.heap.size) (hd : ∀ x, o.dst = some x → x < N) {F : Fence} {k : Nat} (hF : FOK F σ.rnd)
    (hc : cOp P A o = some op) (he : aop T ex o.dst σ op = some σ') {next : Act → World → Prop} {Q : Exit → Act → World → Prop}
    (hn : ∀ a' w' G' L' M', FSim T P A N K base G' L' M' σ' a' w' → Stp K base G w G' w' → next a' w') : o.wpIn F k P a w next Q := by
  refine ⟨fun f _ => hF.fn f, ?_⟩
  have ret : ∀ {r : PV} {S' : Store} {e : Ending} {w' : World}, { σ with S := S' }.put o.dst r = σ' → RetS T P base G w r S' e w' → (match e with
      | .returned v => next (a.put o.dst v) w'
      | .panicked chain => Q (.panic chain) a w'
      | .outgrown => LetsOut Q) := by
    intro r S' e w' hσ hr
    cases e with
    | returned v =>
      obtain ⟨G', h1, h2, h3⟩ := hr
      exact hn _ _ G' L M (hσ ▸ (h.store h1 h2).put hd h3) (h.stp h2)
    | panicked c => exact hr.elim
    | outgrown => exact hr.elim
  have enter : ∀ {f : FuncId} {ps : List PV} {vs : Array Value} {r : PV} {S' : Store}, callF T ex f ps σ = some (r, S') → Args G ps vs → { σ with S := S' }.put o.dst r = σ' → ∀ (cap : Array Value) (vs0 : Array Value), vs0 ++ cap = vs →
      (o.semAt F.round a.eval).run P w = (invoke (.fn (.func f) cap) vs0).run P w → o.uponIn F k P a next Q ((o.semAt F.round a.eval).run P w) := by
    intro f ps vs r S' hcf ha hσ cap vs0 hv hrun
    obtain ⟨g1, g2⟩ := callF_ok (k := k - 1) hcall ht hcf h.sim hb ha
    rw [hrun, run_enter g1, hv]
    refine ⟨fun q => (by rw [hF.depth] at q; cases q), CallsIn.mono (hF.calls g2) (fun e w' hr => ?_)⟩
    have := ret hσ hr
    cases e <;> exact this
  by_cases h1 : ∃ f xs, op = .call f xs
  · obtain ⟨f, xs, rfl⟩ := h1
    obtain ⟨c, ho, hcc, has⟩ := cOp_call hc
    simp only [aop] at he
    split at he
    · rename_i ps hps
      unfold withS at he
      split at he
      · rename_i r S' hcf
        cases he
        have ha := avals_args h has hps
        refine enter hcf ha rfl #[] (c.args.map a.eval) (by simp) ?_
        rw [Oper.semAt_eq _ _ _ (by intro c; simp [ho])]
        simp only [execOp, ho, resolve, hcc, Sem.run_bind]
        simp [Act.eval, Deferred.ofValue]
      · cases he
    · cases he
  · by_cases h2 : ∃ x xs, op = .callv x xs
    · obtain ⟨x, xs, rfl⟩ := h2
      obtain ⟨c, x0, ho, hcc, hx, has⟩ := cOp_callv hc
      simp only [aop] at he
      split at he
      · rename_i p ps hp hps
        have ha := avals_args h has hps
        have hr := h.aval hx hp
        unfold withS at he
        split at he
        · rename_i r S' hcv
          cases he
          have hsem : (o.semAt F.round a.eval).run P w = (do let d ← Deferred.ofValue (a.eval x0) (c.args.map a.eval); invoke d.target d.args : Sem Next).run P w := by
            rw [Oper.semAt_eq _ _ _ (by intro c; simp [ho])]
            simp only [execOp, ho, resolve, hcc]
          unfold callV at hcv
          split at hcv
          · rename_i f fa fc
            generalize a.eval x0 = v at hr hsem
            cases hr with
            | fn _ _ _ va vc e1 e2 e3 e4 =>
              refine enter hcv (args_app (args_app ⟨e1, e3⟩ ha) ⟨e2, e4⟩) rfl vc (va ++ c.args.map a.eval) rfl ?_
              rw [hsem]
              simp [Deferred.ofValue]
          · rename_i l
            generalize a.eval x0 = v at hr hsem
            cases hr with
            | yld _ blk hl =>
              obtain ⟨fn, tmps, asg, body, q1, q2⟩ := hy (k := k - 1) hcv h.sim hb ha hl
              have : (o.semAt F.round a.eval).run P w = .ok (.round blk fn tmps asg body) w := by
                rw [hsem]
                simp only [Deferred.ofValue, Sem.run_bind, Sem.run_pure, Result.andThen_ok, invoke]
                simpa using q1
              rw [this]
              refine ⟨fun q => (by rw [hF.depth] at q; cases q), RoundIn.mono (hF.rounds q2) (fun e w' hr => ?_)⟩
              have := ret rfl hr
              cases e <;> exact this
          · cases hcv
        · cases he
      · cases he
    · by_cases h3 : ∃ x xs, op = .defr x xs
      · obtain ⟨x, xs, rfl⟩ := h3
        obtain ⟨c, x0, ho, hcc, hx, has⟩ := cOp_defr hc
        simp only [aop] at he
        split at he
        · rename_i f fa fc ps hp hps
          split at he
          · cases he
          · rename_i hrnd
            cases he
            have ha := avals_args h has hps
            have hr := h.aval hx hp
            have hround : F.round = none := by
              rcases hF with ⟨_, rfl⟩ | ⟨q, _⟩
              · rfl
              · exact absurd q hrnd
            rw [hround, Oper.semAt_none]
            generalize hev : a.eval x0 = v at hr
            cases hr with
            | fn _ _ _ va vc e1 e2 e3 e4 =>
              have hrun : (execOp a.eval o).run P w = .ok (.defer { target := .fn (.func f) vc, args := va ++ c.args.map a.eval }) w := by
                simp [execOp, ho, resolve, hcc, hev, Deferred.ofValue]
              rw [hrun]
              have h' : FSim T P A N K base G L M { σ with defers := (.fn f fa fc, ps) :: σ.defers } { a with defers := { target := .fn (.func f) vc, args := va ++ c.args.map a.eval } :: a.defers } w :=
                ⟨h.sim, h.size, h.tmps, h.kills, h.loc, h.lOwn, h.inj, h.kOwn, .fn f fa fc ps va vc _ _ _ _ (.fn f fa fc va vc e1 e2 e3 e4) ha.1 ha.2 h.defers, h.marks, h.mNodup, h.mLen⟩
              exact hn _ _ G L M (h'.put hd .undef) (Stp.refl h.kOwn)
        · cases he
      · have hres := snd_plain (ex := ex) h hb hd hc (fun f xs e => h1 ⟨f, xs, e⟩) (fun f xs e => h2 ⟨f, xs, e⟩) (fun f xs e => h3 ⟨f, xs, e⟩) he
        obtain ⟨v, w', G', L', hrun, hs, hst⟩ := hres
        have hnd : ∀ c, o.op ≠ .defer c := by
          intro c hoc
          simp only [cOp, hoc] at hc
          repeat' (split at hc)
          all_goals first | (cases hc; done) | (cases hc; exact h3 ⟨_, _, rfl⟩)
        rw [Oper.semAt_eq _ _ _ hnd]
        rcases hrun with hrun | ⟨hrun, rfl⟩
        · rw [hrun]; exact hn _ _ G' L' M hs hst
        · rw [hrun]; exact hn _ _ G' L' M hs hst
end
end Go.Proofs.YtkgmeeenacnhfaaGreat.Eng
namespace Go.Proofs.YtkgmeeenacnhfaaGreat.Eng
open Go
open Go.RowKit (Below)
section
variable {T : Tbl} {P : Program} {A : Ann} {N : Nat} {K : Nat → Prop} {base : Nat} {G G0 : Ghost} {L : Nat → Option Nat} {M : List Nat} {S S' : Store} {σ σ' : AS} {a : Act} {w w0 : World} {o : Oper} {ex : Ex} {op : AOp}

theorem guard_ok (h : FSim T P A N K base G L M σ a w) {ops : Array Oper} {g : Option (Nat × Bool)} (hg : cGuard ops.toList o = some g) (hb : badG σ g = false) : Region.wanted o (yielded ops a.tmps) = wants σ g := by
  unfold cGuard at hg
  cases hog : o.guard with
  | none =>
    rw [hog] at hg
    cases hg
    simp [Region.wanted, hog, wants]
  | some jw =>
    obtain ⟨j, b⟩ := jw
    rw [hog] at hg
    simp only at hg
    split at hg
    · rename_i p hp
      split at hg
      · rename_i d hd
        cases hg
        have hp' : ops[j]? = some p := by simpa using hp
        have hr := h.tmps d
        simp only [badG] at hb
        have hy : yielded ops a.tmps j = match a.tmps[d]? with
            | some (.bool b) => some b
            | _ => none := by
          simp [yielded, hp', hd]
          rfl
        simp only [Region.wanted, hog, wants, hy]
        have hgd : a.tmps.getD d undef = (a.tmps[d]?).getD undef := by simp
        rw [hgd] at hr
        rcases hr with ⟨s, off, blk, h1, _, h2⟩ | hr
        · rw [h1]
          cases hv : a.tmps[d]? with
          | none => simp
          | some v => rw [hv] at h2; simp at h2; subst h2; simp
        · generalize tget σ.tmps d = q at hr hb
          cases hv : a.tmps[d]? with
          | none =>
            rw [hv] at hr
            simp only [Option.getD_none] at hr
            cases hr <;> simp at hb <;> simp
          | some v =>
            rw [hv] at hr
            simp only [Option.getD_some] at hr
            cases hr <;> simp at hb <;> simp
      · cases hg
    · cases hg
theorem dstsOk_at {ops : List Oper} (h : dstsOk N ops = true) {i : Nat} (ho : ops[i]? = some o) : ∀ x, o.dst = some x → x < N := by
  intro x hx
  have := List.all_eq_true.1 h o (List.mem_of_getElem? ho)
  rw [hx] at this
  simpa using this
theorem arun_rnd : ∀ {q : List AR} {σ σ' : AS}, arun T ex q σ = some σ' → σ'.rnd = σ.rnd
    | [], σ, σ', h => by cases h; rfl
    | o :: q, σ, σ', h => by
      simp only [arun] at h
      split at h
      · cases h
      · split at h
        · split at h
          · rename_i σ1 h1
            split at h
            · exact (arun_rnd h).trans (aop_rnd h1)
            · cases h
          · cases h
        · exact (arun_rnd h).trans (put_rnd _ _)
/-- A region that keeps its order. -/
theorem plain_ok (hcall : CallOK T P (callS T ex)) (hy : YieldOK T P ex) (ht : TOK T P) {F : Fence} {k : Nat} {ops : Array Oper} (hd : dstsOk N ops.toList = true) {Q : Exit → Act → World → Prop} :
    ∀ {rest : List Oper} {i : Nat} {q : List AR} {σ σ' : AS} {a : Act} {w : World} {G : Ghost} {L : Nat → Option Nat} {M : List Nat}, ops.toList.drop i = rest → cPlain P A ops.toList rest = some q → arun T ex q σ = some σ' → FSim T P A N K base G L M σ a w → base ≤ w.heap.size → FOK F σ.rnd →
      (∀ a' w' G' L' M', FSim T P A N K base G' L' M' σ' a' w' → Stp K base G w G' w' → Q .normal a' w') → wpOpsIn F k P ops Q (List.range' i rest.length) a w ∧ σ'.rnd = σ.rnd
  | [], i, q, σ, σ', a, w, G, L, M, hr, hc, he, h, hb, hF, hQ => by
    cases hc
    cases he
    exact ⟨hQ a w G L M h (Stp.refl h.kOwn), rfl⟩
  | o :: rest, i, q, σ, σ', a, w, G, L, M, hr, hc, he, h, hb, hF, hQ => by
    have hoi : ops.toList[i]? = some o := by
      have := congrArg (fun l => l[0]?) hr
      simpa using this
    have hoi' : ops[i]? = some o := by simpa using hoi
    have hrest : ops.toList.drop (i + 1) = rest := by
      have := congrArg List.tail hr
      simpa using this
    simp only [cPlain] at hc
    split at hc
    · rename_i op g q' hop hg hq
      cases hc
      simp only [arun] at he
      split at he
      · cases he
      · rename_i hbad
        have hbad' : badG σ g = false := by simpa using hbad
        have hw := guard_ok h hg hbad'
        simp only [List.length_cons, List.range'_succ, wpOpsIn, hoi', hw]
        split at he
        · rename_i hwant
          rw [if_pos hwant]
          split at he
          · rename_i σ1 h1
            split at he
            · have hr1 := aop_rnd h1
              have key : ∀ a' w' G' L' M', FSim T P A N K base G' L' M' σ1 a' w' → Stp K base G w G' w' → wpOpsIn F k P ops Q (List.range' (i + 1) rest.length) a' w' ∧ σ'.rnd = σ1.rnd := by
                intro a' w' G' L' M' hs hst
                exact plain_ok hcall hy ht hd hrest hq he hs (by have := hst.below.size; omega) (hr1 ▸ hF) (fun a2 w2 G2 L2 M2 hs2 hst2 => hQ a2 w2 G2 L2 M2 hs2 (hst.trans hst2))
              refine ⟨op_ok hcall hy ht h hb (dstsOk_at hd hoi) hF hop h1 (fun a' w' G' L' M' hs hst => (key a' w' G' L' M' hs hst).1), ?_⟩
              have : σ'.rnd = σ1.rnd := by
                clear key
                exact arun_rnd he
              exact this.trans hr1
            · cases he
          · cases he
        · rename_i hwant
          rw [if_neg hwant]
          obtain ⟨g1, g2⟩ := plain_ok (a := a.put o.dst undef) hcall hy ht hd hrest hq he (h.put (dstsOk_at hd hoi) .undef) hb (by rw [put_rnd]; exact hF) hQ
          exact ⟨⟨fun f _ => hF.fn f, g1⟩, g2.trans (put_rnd _ _)⟩
    · cases hc
end
end Go.Proofs.YtkgmeeenacnhfaaGreat.Eng
