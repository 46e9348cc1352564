/- The engine: loads, stores, variables, arithmetic, lengths, lists as cells. No condition. -/
import Derived.DeepKeys
import Derived.Test.YtkgmeeenacnhfaaGreatNdA
set_option linter.unusedVariables false
set_option linter.unusedSimpArgs false
namespace Go.Proofs.YtkgmeeenacnhfaaGreat.Eng
open Go
open Go.RowKit (Below)
section
variable {T : Tbl} {P : Program} {A : Ann} {N : Nat} {K : Nat → Prop} {base : Nat} {G : Ghost} {L : Nat → Option Nat} {M : List Nat} {σ : AS} {a : Act} {w : World}

theorem szOpt_isAgg {t : TypeId} {s : Option Nat} (hs : szOpt P t = some s) : (isAgg t).run P w = .ok s.isSome w := by
  unfold szOpt at hs
  split at hs
  · split at hs <;> cases hs <;> rename_i h <;> simp [isAgg, run_underlying h]
  · cases hs
theorem szOpt_size {t : TypeId} {n : Nat} (hs : szOpt P t = some (some n)) : (sizeOf t).run P w = .ok n w := by
  unfold szOpt at hs
  split at hs
  · rename_i i hi
    split at hs <;> cases hs <;> simp [sizeOf, typeInfo, hi]
  · cases hs
theorem szOf_size {t : TypeId} {n : Nat} (hs : szOf P t = some n) : (sizeOf t).run P w = .ok n w := by
  unfold szOf at hs
  split at hs
  · rename_i i hi
    cases hs
    simp [sizeOf, typeInfo, hi]
  · cases hs
theorem run_loadVar_one {t : TypeId} (hs : szOpt P t = some none) {x : Addr} {u : Value} (hu : w.cell? x = some u) : (loadVar t x).run P w = .ok u w := by
  simp [loadVar, szOpt_isAgg hs, hu]
theorem run_loadVar_agg {t : TypeId} {n : Nat} (hs : szOpt P t = some (some n)) {x : Addr} (f : Nat → Value) (hu : ∀ j, j < n → w.cell? (x.add j) = some (f j)) :
    (loadVar t x).run P w = .ok (.agg ((List.range n).map f).toArray) w := by
  simp [loadVar, szOpt_isAgg hs, szOpt_size hs, run_loadCells w x n f hu]

/-- Where a pointer leads. -/
theorem FSim.deref (h : FSim T P A N K base G L M σ a w) {p : PV} {v : Value} (hr : RelT G L p v) {cs : List PV} {off : Nat} (hd : deref σ p = some (cs, off)) :
    ∃ b o, v = .pointer (some ⟨b, o + off, none⟩) ∧ ∀ (k : Nat) (c : PV), cs[k]? = some c → ∃ u, w.cell? ⟨b, o + k, none⟩ = some u ∧ u.oneCell' = true ∧ Rel G c u := by
  rcases hr with ⟨s, off', blk, rfl, hL, rfl⟩ | hr
  · simp only [Eng.deref] at hd
    split at hd
    · rename_i cs' hcs
      cases hd
      obtain ⟨blk', arr, el, h1, h2, h3, h4⟩ := h.loc s cs hcs
      rw [hL] at h1
      cases h1
      refine ⟨blk, 0, by simp, fun k c e => ?_⟩
      have hk : k < arr.size := by rw [h3]; exact (List.getElem?_eq_some_iff.1 e).1
      obtain ⟨g1, g2⟩ := h4 k c arr[k] e (by simp [hk])
      exact ⟨arr[k], by simp [World.cell?, h2, hk], g1, g2⟩
    · cases hd
  · cases hr <;> simp only [Eng.deref] at hd <;> try cases hd
    · rename_i b off' blk ce hb
      split at hd
      · rename_i cs' hcs
        cases hd
        obtain ⟨blk', ce', arr, el, h1, h2, h3, h4, h5, h6⟩ := h.sim.box b cs hcs
        rw [hb] at h1
        cases h1
        refine ⟨blk, 0, by simp, fun k c e => ?_⟩
        obtain ⟨u, g1, g2, g3⟩ := h6 k c e
        exact ⟨u, by simp [World.cell?, h3, g1], g2, g3⟩
      · cases hd
    · rename_i b o val h1 h2 h3
      exact ⟨b, o, rfl, fun k c e => ⟨val k, h.sim.imm _ _ _ (h1 k c e), (h2 k c e).1, h3 k c e⟩⟩

theorem getElem?_take_drop {α : Type} (l : List α) (o n k : Nat) (c : α) (h : ((l.drop o).take n)[k]? = some c) : l[o + k]? = some c ∧ k < n := by
  rw [List.getElem?_take] at h
  split at h
  · rename_i hk; rw [List.getElem?_drop] at h; exact ⟨h, hk⟩
  · cases h
/-- A value cut out of cells in memory. -/
theorem cut_run {t : TypeId} {s : Option Nat} (hs : szOpt P t = some s) {b o off : Nat} {cs : List PV} {q : PV}
    (hc : ∀ (k : Nat) (c : PV), cs[k]? = some c → ∃ u, w.cell? ⟨b, o + k, none⟩ = some u ∧ u.oneCell' = true ∧ Rel G c u) (hq : cut s cs off = some q) :
    ∃ u, (loadVar t ⟨b, o + off, none⟩).run P w = .ok u w ∧ Rel G q u := by
  cases s with
  | none =>
    obtain ⟨u, h1, _, h3⟩ := hc off q hq
    exact ⟨u, run_loadVar_one hs h1, h3⟩
  | some n =>
    simp only [cut] at hq
    split at hq
    · rename_i hle
      cases hq
      have hf : ∀ j, j < n → ∃ u, w.cell? ((⟨b, o + off, none⟩ : Addr).add j) = some u ∧ u.oneCell' = true ∧ ∀ c, cs[off + j]? = some c → Rel G c u := by
        intro j hj
        have hlt : off + j < cs.length := by omega
        obtain ⟨u, h1, h2, h3⟩ := hc (off + j) cs[off + j] (by simp [hlt])
        refine ⟨u, by rw [add_lit, Nat.add_assoc]; exact h1, h2, fun c e => ?_⟩
        simp [hlt] at e
        subst e
        exact h3
      let f : Nat → Value := fun j => if hj : j < n then Classical.choose (hf j hj) else undef
      have hfs : ∀ j (hj : j < n), w.cell? ((⟨b, o + off, none⟩ : Addr).add j) = some (f j) ∧ (f j).oneCell' = true ∧ ∀ c, cs[off + j]? = some c → Rel G c (f j) := by
        intro j hj
        have := Classical.choose_spec (hf j hj)
        simpa [f, hj] using this
      refine ⟨_, run_loadVar_agg hs f (fun j hj => (hfs j hj).1), .agg _ _ (by simp; omega) (fun k v e => ?_) (fun k c v e1 e2 => ?_)⟩
      · have hk : k < n := by have := (Array.getElem?_eq_some_iff.1 e).1; simpa using this
        simp [hk] at e
        subst e
        exact (hfs k hk).2.1
      · obtain ⟨g1, hk⟩ := getElem?_take_drop _ _ _ _ _ e1
        simp [hk] at e2
        subst e2
        exact (hfs k hk).2.2 c g1
    · cases hq
theorem FSim.load (h : FSim T P A N K base G L M σ a w) {p : PV} {v : Value} (hr : RelT G L p v) {t : TypeId} {s : Option Nat} (hs : szOpt P t = some s) {q : PV} (hq : aload σ s p = some q) :
    ∃ u, (Instr.loadAt t v).run P w = .ok u w ∧ Rel G q u := by
  unfold aload at hq
  split at hq
  · rename_i cs off hd
    obtain ⟨b, o, rfl, hc⟩ := h.deref hr hd
    obtain ⟨u, h1, h2⟩ := cut_run hs hc hq
    exact ⟨u, by simp [Instr.loadAt, Instr.sureAddr, h1], h2⟩
  · cases hq

/-! ### Stores -/
def rowOf (arr : Array Value) (off : Nat) (vs : List Value) : Array Value := (arr.toList.take off ++ vs ++ arr.toList.drop (off + vs.length)).toArray
theorem rowOf_size {arr : Array Value} {off : Nat} {vs : List Value} (h : off + vs.length ≤ arr.size) : (rowOf arr off vs).size = arr.size := by
  simp [rowOf]; omega
theorem rowOf_at {arr : Array Value} {off : Nat} {vs : List Value} (h : off + vs.length ≤ arr.size) (k : Nat) :
    (rowOf arr off vs)[k]? = if k < off then arr[k]? else if k < off + vs.length then vs[k - off]? else arr[k]? := by
  simp only [rowOf, List.getElem?_toArray, List.append_assoc]
  have hl : (arr.toList.take off).length = off := by simp; omega
  by_cases h1 : k < off
  · rw [List.getElem?_append_left (by rw [hl]; exact h1), List.getElem?_take, if_pos h1, if_pos h1]; simp
  · rw [List.getElem?_append_right (by rw [hl]; omega), hl, if_neg h1]
    by_cases h2 : k < off + vs.length
    · rw [List.getElem?_append_left (by omega), if_pos h2]
    · rw [List.getElem?_append_right (by omega), List.getElem?_drop, if_neg h2, show off + vs.length + (k - off - vs.length) = k by omega]; simp
theorem splice_len {cs ps cs' : List PV} {off : Nat} (h : splice cs off ps = some cs') : cs'.length = cs.length ∧ off + ps.length ≤ cs.length := by
  unfold splice at h
  split at h
  · rename_i hle; cases h; refine ⟨by simp; omega, hle⟩
  · cases h
theorem splice_at {cs ps cs' : List PV} {off : Nat} (h : splice cs off ps = some cs') (k : Nat) :
    cs'[k]? = if k < off then cs[k]? else if k < off + ps.length then ps[k - off]? else cs[k]? := by
  unfold splice at h
  split at h
  · rename_i hle
    cases h
    have hl : (cs.take off).length = off := by simp; omega
    rw [List.append_assoc]
    by_cases h1 : k < off
    · rw [List.getElem?_append_left (by rw [hl]; exact h1), List.getElem?_take, if_pos h1, if_pos h1]
    · rw [List.getElem?_append_right (by rw [hl]; omega), hl, if_neg h1]
      by_cases h2 : k < off + ps.length
      · rw [List.getElem?_append_left (by omega), if_pos h2]
      · rw [List.getElem?_append_right (by omega), List.getElem?_drop, if_neg h2, show off + ps.length + (k - off - ps.length) = k by omega]
  · cases h
/-- Related cells, some of them written. -/
theorem splice_rel {cs ps cs' : List PV} {off : Nat} {arr : Array Value} {vs : List Value} (h : splice cs off ps = some cs') (hl : vs.length = ps.length) (hle : off + vs.length ≤ arr.size)
    (h1 : ∀ (k : Nat) (c : PV) (v : Value), cs[k]? = some c → arr[k]? = some v → v.oneCell' = true ∧ Rel G c v)
    (h2 : ∀ (k : Nat) (c : PV) (v : Value), ps[k]? = some c → vs[k]? = some v → v.oneCell' = true ∧ Rel G c v) :
    ∀ (k : Nat) (c : PV) (v : Value), cs'[k]? = some c → (rowOf arr off vs)[k]? = some v → v.oneCell' = true ∧ Rel G c v := by
  intro k c v e1 e2
  rw [splice_at h] at e1
  rw [rowOf_at hle, hl] at e2
  split at e1
  · rename_i hk; rw [if_pos hk] at e2; exact h1 k c v e1 e2
  · rename_i hk
    rw [if_neg hk] at e2
    split at e1
    · rename_i hk2; rw [if_pos hk2] at e2; exact h2 _ c v e1 e2
    · rename_i hk2; rw [if_neg hk2] at e2; exact h1 k c v e1 e2
theorem run_storeVar {t : TypeId} {v : Value} {b off : Nat} {arr : Array Value} {el : TypeId} (hs : szOf P t = some v.cells.size) (hw : w.heap[b]? = some (.cells arr el (0, 0)))
    (hle : off + v.cells.size ≤ arr.size) (h1 : ∀ x ∈ v.cells.toList, x.oneCell' = true) :
    (storeVar t ⟨b, off, none⟩ v).run P w = .ok () (w.setRow b (rowOf arr off v.cells.toList)) := by
  have hst := run_storeCells_at P b off el v.cells.toList 0 arr w hw (by simpa using hle) h1
  simp only [storeVar, Sem.run_bind, szOf_size hs, Result.andThen_ok]
  simp only [ne_eq, not_true, if_false, Sem.run_ite]
  simpa [rowOf] using hst

theorem mem_cells_one {p : PV} {v : Value} (h : okV p = true) (hr : Rel G p v) : ∀ x ∈ v.cells.toList, x.oneCell' = true := by
  obtain ⟨h1, h2⟩ := rel_cells h hr
  intro x hx
  obtain ⟨k, hk, e⟩ := List.getElem_of_mem hx
  have hk' : k < p.cells.length := by rw [← h1]; simpa using hk
  have hx' : v.cells[k]? = some x := by
    have := List.getElem?_eq_getElem hk
    rw [e] at this
    simpa using this
  exact (h2 k p.cells[k] x (by simp [hk']) hx').1

theorem FSim.astore (h : FSim T P A N K base G L M σ a w) {p q : PV} {v x : Value} (hr : RelT G L p v) (hq : okV q = true) (hx : Rel G q x) {t : TypeId} (hs : szOf P t = some q.cells.length)
    {σ' : AS} (ha : astore σ p q.cells = some σ') : ∃ w', (Instr.storeAt t v x).run P w = .ok () w' ∧ FSim T P A N K base G L M σ' a w' ∧ Stp K base G w G w' := by
  obtain ⟨hsz, hcell⟩ := rel_cells hq hx
  have hone := mem_cells_one hq hx
  rw [← hsz] at hs
  have hcell' : ∀ (k : Nat) (c : PV) (u : Value), q.cells[k]? = some c → x.cells.toList[k]? = some u → u.oneCell' = true ∧ Rel G c u := fun k c u e1 e2 => hcell k c u e1 (by simpa using e2)
  rcases hr with ⟨s, off, blk, rfl, hL, rfl⟩ | hr
  · simp only [Eng.astore] at ha
    split at ha
    · rename_i cs hcs
      split at ha
      · rename_i cs' hsp
        cases ha
        obtain ⟨blk', arr, el, h1, h2, h3, h4⟩ := h.loc s cs hcs
        rw [hL] at h1
        cases h1
        have hown := h.lOwn s blk hL
        obtain ⟨hlen, hle⟩ := splice_len hsp
        have hle' : off + x.cells.size ≤ arr.size := by omega
        have hlt := (Array.getElem?_eq_some_iff.1 h2).1
        have hbase := (h.sim.ownLt blk (by simp [hown.1])).1
        have hrow := setRow_heap w blk arr (rowOf arr off x.cells.toList) el _ h2
        have hoth := fun b hb => setRow_only w blk (rowOf arr off x.cells.toList) b hb
        refine ⟨_, ?_, ?_, Stp.of_write (w' := w.setRow blk (rowOf arr off x.cells.toList)) h.kOwn (blk := blk) hown.2 hbase (by simp [World.setRow]) rfl rfl rfl (fun b hb => hoth b hb)⟩
        · simp only [Instr.storeAt, Instr.sureAddr, Sem.run_bind, Sem.run_pure, Result.andThen_ok]
          exact run_storeVar hs h2 hle' hone
        · refine ⟨h.sim.same (by simp [World.setRow]) (fun b _ hf => hoth b (fun e => hf (e ▸ hown.1))), h.size, h.tmps, h.kills, fun s' cs2 e => ?_, h.lOwn, h.inj, h.kOwn, h.defers.ext (Ext.refl base G), fun r hr => ?_, h.mNodup, h.mLen⟩
          · by_cases hss : s' = s
            · subst hss
              rw [tget_tset_same] at e
              cases e
              refine ⟨blk, _, el, hL, hrow, by rw [rowOf_size (by simpa using hle'), h3, hlen], ?_⟩
              exact splice_rel hsp (by simpa using hsz) (by simpa using hle') h4 hcell'
            · rw [tget_tset_ne _ _ _ _ hss] at e
              obtain ⟨b2, arr2, el2, g1, g2, g3, g4⟩ := h.loc s' cs2 e
              exact ⟨b2, arr2, el2, g1, (hoth b2 (fun q => hss (h.inj s' s blk (q ▸ g1) hL))).trans g2, g3, g4⟩
          · obtain ⟨g1, g2, g3, g4⟩ := h.marks r hr
            exact ⟨g1, g2, g3, (hoth r (fun q => g3 s (q ▸ hL))).trans g4⟩
      · cases ha
    · cases ha
  · cases hr <;> simp only [Eng.astore] at ha <;> try cases ha
    rename_i b off blk ce hb
    split at ha
    · rename_i cs hcs
      split at ha
      · rename_i cs' hsp
        cases ha
        obtain ⟨blk', ce', arr, el, h1, h2, h3, h4, h5, h6⟩ := h.sim.box b cs hcs
        rw [hb] at h1
        cases h1
        obtain ⟨hlen, hle⟩ := splice_len hsp
        have hle' : off + x.cells.size ≤ arr.size := by omega
        have hbase := (h.sim.ownLt blk (by simp [h2])).1
        have hsim : Sim T P base G { σ.S with boxes := σ.S.boxes.set b (some cs') } (w.setRow blk (rowOf arr off x.cells.toList)) := by
          refine h.sim.writeBox hb h2 h3 (by omega) (by rw [rowOf_size (by simpa using hle')]; exact h5) (fun k c e => ?_) (List.getElem?_eq_some_iff.1 hcs).1
          have hk : k < (rowOf arr off x.cells.toList).size := by
            rw [rowOf_size (by simpa using hle')]
            have := (List.getElem?_eq_some_iff.1 e).1
            omega
          have hall := splice_rel (G := G) (arr := arr) hsp (by simpa using hsz) (by simpa using hle') (fun k c v e1 e2 => by
            obtain ⟨u, q1, q2, q3⟩ := h6 k c e1
            rw [e2] at q1
            cases q1
            exact ⟨q2, q3⟩) hcell'
          exact ⟨_, Array.getElem?_eq_getElem hk, hall k c _ e (Array.getElem?_eq_getElem hk)⟩
        have hst : ∀ K' : Nat → Prop, (∀ b, K' b → G.own b = .frame) → Stp K' base G w G (w.setRow blk (rowOf arr off x.cells.toList)) := fun K' hk =>
          Stp.of_write hk (blk := blk) (fun q => by have := hk blk q; rw [h2] at this; cases this) hbase (by simp [World.setRow]) rfl rfl rfl (fun b hb => setRow_only w blk _ b hb)
        refine ⟨_, ?_, h.store hsim (hst _ (fun b hb => hb)), hst _ h.kOwn⟩
        simp only [Instr.storeAt, Instr.sureAddr, Sem.run_bind, Sem.run_pure, Result.andThen_ok]
        exact run_storeVar hs h3 hle' hone
      · cases ha
    · cases ha
end
end Go.Proofs.YtkgmeeenacnhfaaGreat.Eng
namespace Go.Proofs.YtkgmeeenacnhfaaGreat.Eng
open Go
open Go.RowKit (Below)
section
variable {T : Tbl} {P : Program} {A : Ann} {N : Nat} {K : Nat → Prop} {base : Nat} {G : Ghost} {L : Nat → Option Nat} {M : List Nat} {σ σ' : AS} {a : Act} {w : World} {o : Oper} {ex : Ex} {op : AOp}

theorem snd_move (h : FSim T P A N K base G L M σ a w) (hd : ∀ x, o.dst = some x → x < N) {x : Operand} (ho : o.op = .move x ∨ o.op = .assign x) (hc : cOp P A o = some op) (he : aop T ex o.dst σ op = some σ') :
    OpRes T P A N K base G L M σ' a w o := by
  have hx : ∃ y, cOpd x = some y ∧ op = .mv y := by
    rcases ho with ho | ho <;> simp only [cOp, ho] at hc <;> split at hc <;> cases hc <;> exact ⟨_, ‹_›, rfl⟩
  obtain ⟨y, hy, rfl⟩ := hx
  simp only [aop, withV] at he
  split at he
  · rename_i v hv
    cases he
    exact opRes_value h hd (h.aval hy hv) (by rcases ho with ho | ho <;> simp [execOp, ho])
  · cases he
theorem snd_pick (h : FSim T P A N K base G L M σ a w) (hd : ∀ x, o.dst = some x → x < N) {x y z : Operand} (ho : o.op = .pick x y z) (hc : cOp P A o = some op) (he : aop T ex o.dst σ op = some σ') :
    OpRes T P A N K base G L M σ' a w o := by
  simp only [cOp, ho] at hc
  split at hc
  · rename_i c u v hx hy hz
    cases hc
    simp only [aop, withV] at he
    split at he
    · rename_i t ht
      have h1 := h.aval hx ht
      generalize hev : a.eval x = e1 at h1
      cases h1
      split at he
      · rename_i q hq
        cases he
        cases t with
        | true => exact opRes_value h hd (h.aval hy hq) (by simp [execOp, ho, hev, asBool])
        | false => exact opRes_value h hd (h.aval hz (by simpa using hq)) (by simp [execOp, ho, hev, asBool])
      · cases he
    · cases he
  · cases hc

/-! ### Variables -/
theorem run_box {e : TypeId} {v : Value} : (Instr.box e v).run P w = .ok (.pointer (some ⟨w.heap.size, 0, none⟩)) (w.alloc (.cells v.cells e)) := by
  simp [Instr.box, newVar, newRow]
theorem run_allocI {e : TypeId} {i : TypeInfo} {v : Value} (hi : P.info? e = some i) (hz : i.zero = some v) :
    (Instr.alloc e true (.tuple #[])).run P w = .ok (.pointer (some ⟨w.heap.size, 0, none⟩)) (w.alloc (.cells v.cells e)) := by
  simp [Instr.alloc, zeroValue, typeInfo, hi, hz, newVar, newRow]
theorem cellsAt_of {q : PV} {x : Value} (hq : okV q = true) (hx : Rel G q x) : CellsAt G q.cells x.cells := by
  obtain ⟨h1, h2⟩ := rel_cells hq hx
  intro k c e
  have hk : k < x.cells.size := by rw [h1]; exact (List.getElem?_eq_some_iff.1 e).1
  exact ⟨x.cells[k], by simp [hk], h2 k c _ e (by simp [hk])⟩
/-- A variable that may be shared. -/
theorem snd_boxG (h : FSim T P A N K base G L M σ a w) (hb : base ≤ w.heap.size) (hd : ∀ x, o.dst = some x → x < N) {q : PV} {x : Value} {e : TypeId} (hq : okV q = true) (hx : Rel G q x)
    (hrun : (execOp a.eval o).run P w = .ok (.value (.pointer (some ⟨w.heap.size, 0, none⟩))) (w.alloc (.cells x.cells e))) :
    OpRes T P A N K base G L M ({ σ with S := { σ.S with boxes := σ.S.boxes ++ [some q.cells] } }.put o.dst (.ptr σ.S.boxes.length 0)) a w o := by
  obtain ⟨h1, _⟩ := rel_cells hq hx
  have hs := h.sim.newBox (el := e) hb (Nat.le_refl q.cells.length) (by omega) (cellsAt_of hq hx)
  refine opRes_store h hd hs (Stp.of_alloc (K := KF G) h.sim (fun b hb => hb) _ hb (G.addBox_ext _ _) (fun b hb' => by simp [Ghost.addBox, Nat.ne_of_lt hb'])) ?_ (.inl hrun)
  exact .ptr _ _ _ _ (getElem?_append_at _ _ h.sim.boxLen.symm)
theorem kill_get (ks : List Nat) : ∀ (l : List PV) (t : Nat), tget (kill l ks) t = if t ∈ ks then .junk else tget l t := by
  induction ks with
  | nil => intro l t; simp [kill]
  | cons k ks ih =>
    intro l t
    simp only [kill, ih, List.mem_cons]
    by_cases h1 : t ∈ ks
    · simp [h1]
    · by_cases h2 : t = k
      · subst h2; simp [h1, tget_tset_same]
      · simp [h1, h2, tget_tset_ne _ _ _ _ h2]
/-- A variable of the activation's own. (What its temporaries held goes: none of them points to the old one any more.) -/
theorem snd_boxL (h : FSim T P A N K base G L M σ a w) (hb : base ≤ w.heap.size) {s : Nat} (hs : o.dst = some s) (hN : s < N) {ks : List Nat} (hks : lookL A.locals s = some ks) {q : PV} {x : Value} {e : TypeId} (hq : okV q = true) (hx : Rel G q x)
    (hrun : (execOp a.eval o).run P w = .ok (.value (.pointer (some ⟨w.heap.size, 0, none⟩))) (w.alloc (.cells x.cells e))) :
    OpRes T P A N K base G L M { σ with loc := tset σ.loc s (.agg q.cells), tmps := tset (kill σ.tmps ks) s (.lptr s 0) } a w o := by
  obtain ⟨h1, h2⟩ := rel_cells hq hx
  have hst : Stp (KF G) base G w (G.setOwn w.heap.size .frame) (w.alloc (.cells x.cells e)) :=
    Stp.of_alloc (K := KF G) h.sim (fun b hb => hb) _ hb (G.setOwn_ext _ _) (fun b hb' => Ghost.setOwn_other _ _ (Nat.ne_of_lt hb'))
  have hext := hst.ext
  have hlt : ∀ b, G.own b = .frame → b < w.heap.size := fun b hb => h.sim.lt_of_own (by simp [hb])
  have hLlt : ∀ s' blk, L s' = some blk → blk < w.heap.size := fun s' blk e => hlt blk (h.lOwn s' blk e).1
  refine ⟨.pointer (some ⟨w.heap.size, 0, none⟩), _, G.setOwn w.heap.size .frame, fun s' => if s' = s then some w.heap.size else L s', .inl hrun, ?_, h.stp hst⟩
  rw [hs]
  refine ⟨h.sim.newFrame hb _, (put_tmps a _ _).trans h.size, fun t => ?_, fun t s' off e => ?_, fun s' cs e => ?_, fun s' blk e => ?_, fun s1 s2 blk e1 e2 => ?_, fun b hb' => (hst.prot b (h.kOwn b hb')).2, ?_, fun r hr => ?_, h.mNodup, h.mLen⟩
  · by_cases ht : t = s
    · subst ht
      rw [put_get_same a t _ (by rw [h.size]; exact hN), tget_tset_same]
      exact .inl ⟨t, 0, w.heap.size, rfl, by simp, rfl⟩
    · rw [put_get_ne a s t _ ht, tget_tset_ne _ _ _ _ ht, kill_get]
      by_cases hk : t ∈ ks
      · rw [if_pos hk]; exact .inr (.junk _)
      · rw [if_neg hk]
        rcases h.tmps t with ⟨s', off, blk, e1, e2, e3⟩ | hr
        · have hne : s' ≠ s := by
            intro q
            subst q
            rcases h.kills t s' off e1 with q | ⟨ks', q1, q2⟩
            · exact ht q
            · rw [hks] at q1; cases q1; exact hk q2
          exact .inl ⟨s', off, blk, e1, by simp [hne, e2], e3⟩
        · exact .inr (hr.ext hext)
  · by_cases ht : t = s
    · subst ht
      rw [tget_tset_same] at e
      cases e
      exact .inl rfl
    · rw [tget_tset_ne _ _ _ _ ht, kill_get] at e
      by_cases hk : t ∈ ks
      · rw [if_pos hk] at e; cases e
      · rw [if_neg hk] at e; exact h.kills t s' off e
  · by_cases hss : s' = s
    · subst hss
      rw [tget_tset_same] at e
      cases e
      exact ⟨w.heap.size, x.cells, _, by simp, heap_alloc_at w _, h1, fun k c v e1 e2 => ⟨(h2 k c v e1 e2).1, (h2 k c v e1 e2).2.ext hext⟩⟩
    · rw [tget_tset_ne _ _ _ _ hss] at e
      obtain ⟨blk, arr, el, g1, g2, g3, g4⟩ := h.loc s' cs e
      exact ⟨blk, arr, el, by simp [hss, g1], (Below.heap_alloc w _ blk (hLlt s' blk g1)).trans g2, g3, fun k c v e1 e2 => ⟨(g4 k c v e1 e2).1, (g4 k c v e1 e2).2.ext hext⟩⟩
  · by_cases hss : s' = s
    · simp only [hss, if_true] at e
      cases e
      exact ⟨Ghost.setOwn_same _ _ _, fun hk => Nat.lt_irrefl _ (hlt _ (h.kOwn _ hk))⟩
    · simp only [hss, if_false] at e
      exact ⟨(Ghost.setOwn_other _ _ (Nat.ne_of_lt (hLlt s' blk e))).trans (h.lOwn s' blk e).1, (h.lOwn s' blk e).2⟩
  · by_cases h1' : s1 = s <;> by_cases h2' : s2 = s
    · rw [h1', h2']
    · simp only [h1', if_true] at e1
      simp only [h2', if_false] at e2
      cases e1
      exact absurd (hLlt s2 _ e2) (Nat.lt_irrefl _)
    · simp only [h2', if_true] at e2
      simp only [h1', if_false] at e1
      cases e2
      exact absurd (hLlt s1 _ e1) (Nat.lt_irrefl _)
    · simp only [h1', if_false] at e1
      simp only [h2', if_false] at e2
      exact h.inj s1 s2 blk e1 e2
  · rw [put_defers]; exact h.defers.ext hext
  · obtain ⟨g1, g2, g3, g4⟩ := h.marks r hr
    have hr' := hlt r g1
    refine ⟨(Ghost.setOwn_other _ _ (Nat.ne_of_lt hr')).trans g1, g2, fun s' => ?_, (Below.heap_alloc w _ r hr').trans g4⟩
    by_cases hss : s' = s
    · simp only [hss, if_true]; intro q; cases q; exact Nat.lt_irrefl _ hr'
    · simp only [hss, if_false]; exact g3 s'
theorem snd_box (h : FSim T P A N K base G L M σ a w) (hb : base ≤ w.heap.size) (hd : ∀ x, o.dst = some x → x < N) {e : TypeId} {x : Operand} (ho : o.op = .box e x) (hc : cOp P A o = some op) (he : aop T ex o.dst σ op = some σ') :
    OpRes T P A N K base G L M σ' a w o := by
  have hrun : (execOp a.eval o).run P w = .ok (.value (.pointer (some ⟨w.heap.size, 0, none⟩))) (w.alloc (.cells (a.eval x).cells e)) := by simp [execOp, ho, run_box]
  have hG : ∀ y, cOpd x = some y → aop T ex o.dst σ (.boxG y) = some σ' → OpRes T P A N K base G L M σ' a w o := by
    intro y hy he
    simp only [aop] at he
    split at he
    · rename_i q hq
      cases he
      obtain ⟨g1, g2⟩ := h.amem hy hq
      exact snd_boxG h hb hd g2 g1 hrun
    · cases he
  simp only [cOp, ho] at hc
  split at hc
  · rename_i y hy
    split at hc
    · rename_i s hs
      split at hc
      · rename_i ks hks
        cases hc
        simp only [aop] at he
        split at he
        · rename_i s' q hs' hq
          cases he
          obtain ⟨g1, g2⟩ := h.amem hy hq
          rw [hs] at hs'
          cases hs'
          exact snd_boxL h hb hs (hd s hs) hks g2 g1 hrun
        · cases he
      · cases hc; exact hG y hy he
    · cases hc; exact hG y hy he
  · cases hc
theorem snd_alloc (h : FSim T P A N K base G L M σ a w) (hb : base ≤ w.heap.size) (hd : ∀ x, o.dst = some x → x < N) {e : TypeId} (ho : o.op = .alloc e) (hc : cOp P A o = some op) (he : aop T ex o.dst σ op = some σ') :
    OpRes T P A N K base G L M σ' a w o := by
  simp only [cOp, ho] at hc
  split at hc
  · rename_i q hq
    have hz : ∃ i x, P.info? e = some i ∧ i.zero = some x ∧ cVal x = some q := by
      unfold zeroOf at hq
      split at hq
      · rename_i i hi
        split at hq
        · rename_i x hx; exact ⟨i, x, hi, hx, hq⟩
        · cases hq
      · cases hq
    obtain ⟨i, x, hi, hx, hv⟩ := hz
    obtain ⟨g1, g2⟩ := cVal_rel (G := G) hv
    have hrun : (execOp a.eval o).run P w = .ok (.value (.pointer (some ⟨w.heap.size, 0, none⟩))) (w.alloc (.cells x.cells e)) := by simp [execOp, ho, run_allocI hi hx]
    have hraw : amem σ (.c q) = some q := by
      simp only [Eng.amem, Eng.aval, Eng.raw, rel_notL g1, Bool.false_eq_true, if_false, g2, if_true]
    split at hc
    · rename_i s hs
      split at hc
      · rename_i ks hks
        cases hc
        simp only [aop, hraw, hs] at he
        cases he
        exact snd_boxL h hb hs (hd s hs) hks g2 g1 hrun
      · cases hc
        simp only [aop, hraw] at he
        cases he
        exact snd_boxG h hb hd g2 g1 hrun
    · cases hc
      simp only [aop, hraw] at he
      cases he
      exact snd_boxG h hb hd g2 g1 hrun
  · cases hc
theorem snd_load (h : FSim T P A N K base G L M σ a w) (hd : ∀ x, o.dst = some x → x < N) {t : TypeId} {x : Operand} (ho : o.op = .load t x) (hc : cOp P A o = some op) (he : aop T ex o.dst σ op = some σ') :
    OpRes T P A N K base G L M σ' a w o := by
  simp only [cOp, ho] at hc
  split at hc
  · rename_i s y hs hy
    cases hc
    simp only [aop, withV] at he
    split at he
    · rename_i q hq
      cases he
      obtain ⟨u, h1, h2⟩ := h.load (h.raw hy) hs hq
      exact opRes_value h hd h2 (by simp [execOp, ho, h1])
    · cases he
  · cases hc
theorem snd_store (h : FSim T P A N K base G L M σ a w) {t : TypeId} {x y : Operand} (ho : o.op = .store t x y) (hc : cOp P A o = some op) (he : aop T ex o.dst σ op = some σ') :
    OpRes T P A N K base G L M σ' a w o := by
  simp only [cOp, ho] at hc
  split at hc
  · rename_i n x' y' hd hs hx hy
    cases hc
    simp only [aop] at he
    split at he
    · rename_i q hq
      split at he
      · rename_i hn
        obtain ⟨g1, g2⟩ := h.amem hy hq
        obtain ⟨w', h1, h2, h3⟩ := h.astore (h.raw hx) g2 g1 (hn ▸ hs) he
        refine ⟨undef, w', G, L, .inr ⟨by simp [execOp, ho, h1], rfl⟩, ?_, h3⟩
        rw [hd]
        exact h2
      · cases he
    · cases he
  · cases hc

/-! ### Addresses -/
theorem FSim.reptr (h : FSim T P A N K base G L M σ a w) {p q : PV} {v : Value} (hr : RelT G L p v) {n : Nat} {d k : Option Nat} (he : reptr n d k p = some q) (hk : ∀ x s, d = some x → k = some s → x = s ∨ ∃ ks, lookL A.locals s = some ks ∧ x ∈ ks) :
    ∃ b off, v = .pointer (some ⟨b, off, none⟩) ∧ RelT G L q (.pointer (some ⟨b, off + n, none⟩)) ∧ (∀ x s off, d = some x → q = .lptr s off → x = s ∨ ∃ ks, lookL A.locals s = some ks ∧ x ∈ ks) := by
  rcases hr with ⟨s, off, blk, rfl, hL, rfl⟩ | hr
  · simp only [Eng.reptr] at he
    split at he
    · rename_i hkk
      cases he
      refine ⟨blk, off, rfl, .inl ⟨s, off + n, blk, rfl, hL, rfl⟩, fun x s' off' e1 e2 => ?_⟩
      cases e2
      unfold killOk at hkk
      split at hkk
      · simp at hkk
        exact hk x s e1 (by rw [hkk.1])
      · cases hkk
    · cases he
  · cases hr <;> simp only [Eng.reptr] at he <;> cases he
    · rename_i hb; exact ⟨_, _, rfl, .inr (.ptr _ _ _ _ hb), fun x s off _ e => by cases e⟩
    · rename_i cs off b o val h1 h2 h3
      refine ⟨_, _, rfl, .inr ?_, fun x s off _ e => by cases e⟩
      rw [Nat.add_assoc]
      exact .vptr _ _ _ _ val h1 h2 h3
theorem rootOf_ok {d : Option Nat} {x s : Nat} (h1 : d = some x) (h2 : rootOf A d = some s) : x = s ∨ ∃ ks, lookL A.locals s = some ks ∧ x ∈ ks := by
  subst h1
  simp only [rootOf] at h2
  split at h2
  · split at h2
    · rename_i ks hks
      split at h2
      · rename_i hc
        cases h2
        exact .inr ⟨ks, hks, by simpa using hc⟩
      · cases h2
    · cases h2
  · cases h2
theorem opRes_ptr (h : FSim T P A N K base G L M σ a w) (hd : ∀ x, o.dst = some x → x < N) {q : PV} {v : Value} (hr : RelT G L q v) (hk : ∀ x s off, o.dst = some x → q = .lptr s off → x = s ∨ ∃ ks, lookL A.locals s = some ks ∧ x ∈ ks)
    (hrun : (execOp a.eval o).run P w = .ok (.value v) w) : OpRes T P A N K base G L M (σ.put o.dst q) a w o := ⟨v, w, G, L, .inl hrun, h.putT hd hr hk, Stp.refl h.kOwn⟩
theorem snd_faddr (h : FSim T P A N K base G L M σ a w) (hd : ∀ x, o.dst = some x → x < N) {s : TypeId} {x : Operand} {i : Nat} (ho : o.op = .fieldAddr s x i) (hc : cOp P A o = some op) (he : aop T ex o.dst σ op = some σ') :
    OpRes T P A N K base G L M σ' a w o := by
  simp only [cOp, ho] at hc
  split at hc
  · rename_i fs y hs hy
    split at hc
    · rename_i f hf
      split at hc
      · rename_i n hn
        split at hc
        · rename_i hpos
          cases hc
          simp only [aop, withV] at he
          split at he
          · rename_i q hq
            cases he
            obtain ⟨b, off, h1, h2, h3⟩ := h.reptr (h.raw hy) hq (fun x s e1 e2 => rootOf_ok e1 e2)
            refine opRes_ptr h hd h2 h3 ?_
            have hne : ¬ n = 0 := by omega
            simp [execOp, ho, h1, Instr.fieldAt, run_underlying hs, hf, Instr.sureAddr, fieldPlace, szOf_size hn, hne, add_lit]
          · cases he
        · cases hc
      · cases hc
    · cases hc
  · cases hc
theorem snd_nilc (h : FSim T P A N K base G L M σ a w) (hd : ∀ x, o.dst = some x → x < N) {x : Operand} (ho : o.op = .nilCheck x) (hc : cOp P A o = some op) (he : aop T ex o.dst σ op = some σ') :
    OpRes T P A N K base G L M σ' a w o := by
  simp only [cOp, ho] at hc
  split at hc
  · rename_i y hy
    cases hc
    simp only [aop] at he
    have hraw := h.raw hy
    split at he
    · rename_i f u v hr
      cases he
      rw [hr] at hraw
      rcases hraw with ⟨_, _, _, e, _⟩ | hraw
      · cases e
      · refine opRes_value h hd hraw ?_
        generalize hev : a.eval x = e1 at hraw
        cases hraw
        simp [execOp, ho, hev]
    · simp only [withV] at he
      split at he
      · rename_i q hq
        cases he
        obtain ⟨b, off, h1, h2, h3⟩ := h.reptr hraw hq (fun x s e1 e2 => rootOf_ok e1 e2)
        refine opRes_ptr h hd h2 h3 ?_
        simp [execOp, ho, h1]
      · cases he
  · cases hc
theorem flat_at (sz : Nat) : ∀ (xs : List PV) (i : Nat) (e : PV), (∀ x ∈ xs, x.cells.length = sz) → xs[i]? = some e → ∀ (k : Nat) (c : PV), e.cells[k]? = some c → (flat xs)[i * sz + k]? = some c
  | [], i, e, _, h, k, c, hk => by simp at h
  | x :: xs, i, e, hw, h, k, c, hk => by
    have hx := hw x (by simp)
    cases i with
    | zero =>
      simp at h
      subst h
      have hlt : k < x.cells.length := (List.getElem?_eq_some_iff.1 hk).1
      simp only [flat, Nat.zero_mul, Nat.zero_add]
      rw [List.getElem?_append_left hlt]
      exact hk
    | succ i =>
      simp at h
      have ih := flat_at sz xs i e (fun y hy => hw y (by simp [hy])) h k c hk
      simp only [flat]
      rw [List.getElem?_append_right (by rw [hx, Nat.succ_mul]; omega), hx, show (i + 1) * sz + k - sz = i * sz + k by rw [Nat.succ_mul]; omega]
      exact ih
theorem snd_iaddr (h : FSim T P A N K base G L M σ a w) (hd : ∀ x, o.dst = some x → x < N) {t : TypeId} {x i : Operand} (ho : o.op = .indexAddr t x i) (hc : cOp P A o = some op) (he : aop T ex o.dst σ op = some σ') :
    OpRes T P A N K base G L M σ' a w o := by
  simp only [cOp, ho] at hc
  split at hc
  · rename_i e y j ht hy hj
    split at hc
    · rename_i n hn
      split at hc
      · rename_i hpos
        cases hc
        simp only [aop] at he
        split at he
        · rename_i st xs kk m hx hi
          have r1 := h.aval hy hx
          have r2 := h.aval hj hi
          generalize hev1 : a.eval x = e1 at r1
          generalize hev2 : a.eval i = e2 at r2
          cases r2
          split at he
          · rename_i h0
            split at he
            · rename_i el hel
              split at he
              · rename_i hw
                cases he
                have hlt := (List.getElem?_eq_some_iff.1 hel).1
                cases r1 with
                | listN => simp at hel
                | listE => simp at hel
                | list _ _ b of cap sz val q1 q2 q3 q4 q5 q6 q7 =>
                  have hsz : sz = n := by rw [← hw]; exact (q2 el (List.mem_of_getElem? hel)).symm
                  subst hsz
                  have hf := flat_at sz xs m.toNat el q2 hel
                  refine opRes_value h hd (p := .vptr el.cells 0) (v := .pointer (some ⟨b, of + m.toNat * sz + 0, none⟩)) ?_ ?_
                  · refine .vptr _ _ _ _ (fun k => val (m.toNat * sz + k)) (fun k c e => ?_) (fun k c e => q5 _ c (hf k c e)) (fun k c e => q6 _ c (hf k c e))
                    rw [Nat.add_assoc]
                    exact q4 _ c (hf k c e)
                  · have hm : m < (xs.length : Int) := by omega
                    simp [execOp, ho, hev1, hev2, Instr.indexAt, asIntOf, run_underlying ht, h0, hm, szOf_size hn, add_lit]
              · cases he
            · cases he
          · cases he
        · rename_i b off k z kk m hx hi
          have r1 := h.aval hy hx
          have r2 := h.aval hj hi
          generalize hev1 : a.eval x = e1 at r1
          generalize hev2 : a.eval i = e2 at r2
          cases r2
          split at he
          · rename_i h0
            cases he
            cases r1 with
            | arr _ _ _ _ blk ce cap q1 q2 q3 q4 =>
              obtain ⟨g1, g2, rfl⟩ := h0
              refine opRes_value h hd (p := .ptr b (off + m.toNat * z)) (v := .pointer (some ⟨blk, off + m.toNat * z, none⟩)) (.ptr _ _ _ _ q1) ?_
              simp [execOp, ho, hev1, hev2, Instr.indexAt, asIntOf, run_underlying ht, g1, g2, szOf_size hn, add_lit]
          · cases he
        · cases he
      · cases hc
    · cases hc
  · rename_i len e y j ht hy hj
    split at hc
    · rename_i n hn
      split at hc
      · rename_i hpos
        cases hc
        simp only [aop] at he
        split at he
        · rename_i kk m hi
          have r2 := h.aval hj hi
          generalize hev2 : a.eval i = e2 at r2
          cases r2
          split at he
          · rename_i h0
            simp only [withV] at he
            split at he
            · rename_i q hq
              cases he
              obtain ⟨b, off, h1, h2, h3⟩ := h.reptr (h.raw hy) hq (fun x s e1 e2 => rootOf_ok e1 e2)
              refine opRes_ptr h hd h2 h3 ?_
              simp [execOp, ho, h1, hev2, Instr.indexAt, asIntOf, run_underlying ht, Instr.sureAddr, h0.1, h0.2, szOf_size hn, add_lit]
            · cases he
          · cases he
        · cases he
      · cases hc
    · cases hc
  · cases hc
end
end Go.Proofs.YtkgmeeenacnhfaaGreat.Eng
namespace Go.Proofs.YtkgmeeenacnhfaaGreat.Eng
open Go
open Go.RowKit (Below)
section
variable {T : Tbl} {P : Program} {A : Ann} {N : Nat} {K : Nat → Prop} {base : Nat} {G : Ghost} {L : Nat → Option Nat} {M : List Nat} {σ σ' : AS} {a : Act} {w : World} {o : Oper} {ex : Ex} {op : AOp}

theorem run_eqGuard_int (b : BinOp) (t : TypeId) (x y : Operand) (k k' : IntKind) (m n : Int) : (eqGuard b t x y (.int k m) (.int k' n)).run P w = .ok () w := by
  unfold eqGuard; split <;> rfl
theorem run_eqGuard_bool (b : BinOp) (t : TypeId) (x y : Operand) (m n : Bool) : (eqGuard b t x y (.bool m) (.bool n)).run P w = .ok () w := by
  unfold eqGuard; split <;> rfl
theorem run_eqGuard_slice (b : BinOp) (t : TypeId) (x y : Operand) (p q : Option Addr) (m n m' n' : Nat) : (eqGuard b t x y (.slice p m n) (.slice q m' n')).run P w = .ok () w := by
  unfold eqGuard; split <;> rfl
def PV.toV : PV → Value
  | .int k n => .int k n
  | .bool b => .bool b
  | _ => Go.undef
theorem abin_form {b : BinOp} {p q r : PV} (h : abin b p q = some r) : ∃ k m k' n, p = .int k m ∧ q = .int k' n ∧ ((∃ z, r = .int k z) ∨ ∃ z, r = .bool z) := by
  unfold abin at h
  split at h
  · rename_i k m k' n
    refine ⟨k, m, k', n, rfl, rfl, ?_⟩
    repeat' split at h
    all_goals first
      | (cases h; done)
      | (cases h; exact .inl ⟨_, rfl⟩)
      | (cases h; exact .inr ⟨_, rfl⟩)
  · cases h
theorem abin_val {b : BinOp} {k k' : IntKind} {m n : Int} {t : TypeId} {r : PV} (h : abin b (.int k m) (.int k' n) = some r) : (binOp b t (.int k m) (.int k' n)).run P w = .ok r.toV w := by
  by_cases h1 : b = .shl
  · subst h1
    simp only [abin] at h
    split at h
    · cases h
    · rename_i h0; cases h; simp [binOp, Op.shift, h0, PV.toV]
  by_cases h2 : b = .shr
  · subst h2
    simp only [abin] at h
    split at h
    · cases h
    · rename_i h0; cases h; simp [binOp, Op.shift, h0, PV.toV]
  by_cases h3 : k = k'
  · subst h3
    cases b <;> simp only [abin, if_true] at h <;>
      first
        | exact absurd rfl h1
        | exact absurd rfl h2
        | (cases h; done)
        | (cases h; simp [binOp, Op.intArith, PV.toV]; done)
        | (cases h; simp [binOp, Op.intCmp, PV.toV]; done)
        | (cases h; simp [binOp, Op.intBits, PV.toV]; done)
        | (split at h <;> cases h <;> rename_i h0 <;> simp [binOp, Op.intDiv, h0, PV.toV])
  · exfalso
    cases b <;> simp_all [abin]
theorem snd_binI (h : FSim T P A N K base G L M σ a w) (hd : ∀ x, o.dst = some x → x < N) {b : BinOp} {t t' : TypeId} {x y : Operand} {x' y' : Opd} (ho : o.op = .binOp b t x y t') (hx : cOpd x = some x') (hy : cOpd y = some y')
    (he : aop T ex o.dst σ (.bin b x' y') = some σ') : OpRes T P A N K base G L M σ' a w o := by
  simp only [aop, withV] at he
  split at he
  · rename_i u v hu hv
    split at he
    · rename_i r hr
      cases he
      have r1 := h.aval hx hu
      have r2 := h.aval hy hv
      obtain ⟨k, m, k', n, rfl, rfl, hform⟩ := abin_form hr
      generalize hev1 : a.eval x = e1 at r1
      generalize hev2 : a.eval y = e2 at r2
      cases r1
      cases r2
      refine opRes_value h hd (v := r.toV) ?_ (by simp [execOp, ho, hev1, hev2, run_eqGuard_int, abin_val hr])
      rcases hform with ⟨z, rfl⟩ | ⟨z, rfl⟩
      · exact .int _ _
      · exact .bool _
    · cases he
  · cases he
theorem exec_binOp {b : BinOp} {t t' : TypeId} {x y : Operand} {z : Value} (ho : o.op = .binOp b t x y t') (hg : (eqGuard b t x y (a.eval x) (a.eval y)).run P w = .ok () w) (hb : (binOp b t (a.eval x) (a.eval y)).run P w = .ok z w) :
    (execOp a.eval o).run P w = .ok (.value z) w := by
  simp only [execOp, ho, Sem.run_bind, hg, Result.andThen_ok, hb, Sem.run_pure]
theorem run_eql_bool (t : TypeId) (u v : Bool) (ht : P.underlying t = some .bool) : (binOp .eql t (.bool u) (.bool v)).run P w = .ok (.bool (u == v)) w := by
  have h1 := run_equalIn_bool' (P := P) w 9999 t u v ht
  simp only [binOp, Sem.run_bind, Op.equal, Op.maxDepth]
  rw [h1]; rfl
theorem run_neq_bool (t : TypeId) (u v : Bool) (ht : P.underlying t = some .bool) : (binOp .neq t (.bool u) (.bool v)).run P w = .ok (.bool (!(u == v))) w := by
  have h1 := run_equalIn_bool' (P := P) w 9999 t u v ht
  simp only [binOp, Sem.run_bind, Op.equal, Op.maxDepth]
  rw [h1]; rfl
theorem run_equalIn_nils (d : Nat) (t e : TypeId) (p : Option Addr) (m n : Nat) (ht : P.underlying t = some (.slice e)) : (Op.equalIn (d + 1) t (.slice p m n) (.slice none 0 0)).run P w = .ok p.isNone w := by
  cases p <;> simp [Op.equalIn, run_underlying ht]
theorem run_eql_nils (t e : TypeId) (p : Option Addr) (m n : Nat) (ht : P.underlying t = some (.slice e)) : (binOp .eql t (.slice p m n) (.slice none 0 0)).run P w = .ok (.bool p.isNone) w := by
  have h1 := run_equalIn_nils (P := P) (w := w) 9999 t e p m n ht
  simp only [binOp, Sem.run_bind, Op.equal, Op.maxDepth]
  rw [h1]; rfl
theorem run_neq_nils (t e : TypeId) (p : Option Addr) (m n : Nat) (ht : P.underlying t = some (.slice e)) : (binOp .neq t (.slice p m n) (.slice none 0 0)).run P w = .ok (.bool (!p.isNone)) w := by
  have h1 := run_equalIn_nils (P := P) (w := w) 9999 t e p m n ht
  simp only [binOp, Sem.run_bind, Op.equal, Op.maxDepth]
  rw [h1]; rfl
theorem isEq_cases {b : BinOp} (h : isEq b = true) : b = .eql ∨ b = .neq := by cases b <;> simp_all [isEq]
theorem snd_eqB (h : FSim T P A N K base G L M σ a w) (hd : ∀ x, o.dst = some x → x < N) {b : BinOp} {t t' : TypeId} {x y : Operand} {x' y' : Opd} (ho : o.op = .binOp b t x y t') (ht : P.underlying t = some .bool) (hb : isEq b = true) (hx : cOpd x = some x') (hy : cOpd y = some y')
    (he : aop T ex o.dst σ (.eqB (b == .neq) x' y') = some σ') : OpRes T P A N K base G L M σ' a w o := by
  simp only [aop] at he
  split at he
  · rename_i u v hu hv
    have r1 := h.aval hx hu
    have r2 := h.aval hy hv
    generalize hev1 : a.eval x = e1 at r1
    generalize hev2 : a.eval y = e2 at r2
    cases r1
    cases r2
    cases he
    refine opRes_value h hd (.bool _) ?_
    rcases isEq_cases hb with rfl | rfl
    · exact exec_binOp ho (by rw [hev1, hev2]; exact run_eqGuard_bool _ _ _ _ _ _) (by rw [hev1, hev2]; exact run_eql_bool _ _ _ ht)
    · exact exec_binOp ho (by rw [hev1, hev2]; exact run_eqGuard_bool _ _ _ _ _ _) (by rw [hev1, hev2]; exact run_neq_bool _ _ _ ht)
  · cases he
theorem snd_isnil (h : FSim T P A N K base G L M σ a w) (hd : ∀ x, o.dst = some x → x < N) {b : BinOp} {t t' e : TypeId} {x y : Operand} {x' : Opd} (ho : o.op = .binOp b t x y t') (ht : P.underlying t = some (.slice e)) (hb : isEq b = true) (hn : isNilSlice y = true) (hx : cOpd x = some x')
    (he : aop T ex o.dst σ (.isnil (b == .neq) x') = some σ') : OpRes T P A N K base G L M σ' a w o := by
  have hy : a.eval y = .slice none 0 0 := by
    unfold isNilSlice at hn
    split at hn
    · rfl
    · cases hn
  have hrun : ∀ (p : Option Addr) (m n : Nat), a.eval x = .slice p m n → (execOp a.eval o).run P w = .ok (.value (.bool (if b == .neq then !p.isNone else p.isNone))) w := by
    intro p m n hp
    rcases isEq_cases hb with rfl | rfl
    · exact exec_binOp ho (by rw [hp, hy]; exact run_eqGuard_slice _ _ _ _ _ _ _ _ _ _) (by rw [hp, hy]; exact run_eql_nils _ e _ _ _ ht)
    · exact exec_binOp ho (by rw [hp, hy]; exact run_eqGuard_slice _ _ _ _ _ _ _ _ _ _) (by rw [hp, hy]; exact run_neq_nils _ e _ _ _ ht)
  simp only [aop] at he
  split at he
  · rename_i hu
    have r1 := h.aval hx hu
    generalize hev1 : a.eval x = e1 at r1
    cases r1
    cases he
    refine opRes_value h hd (.bool _) ?_
    rw [hrun none 0 0 hev1]
    cases hq : (b == BinOp.neq) <;> simp
  · rename_i hu
    have r1 := h.aval hx hu
    generalize hev1 : a.eval x = e1 at r1
    cases r1
    cases he
    refine opRes_value h hd (.bool _) ?_
    rw [hrun _ _ _ hev1]
    cases hq : (b == BinOp.neq) <;> simp
  · rename_i hu
    have r1 := h.aval hx hu
    generalize hev1 : a.eval x = e1 at r1
    cases r1
    cases he
    refine opRes_value h hd (.bool _) ?_
    rw [hrun _ _ _ hev1]
    cases hq : (b == BinOp.neq) <;> simp
  · cases he

/-! ### '==' of structs and arrays, cell by cell -/
def cellEq : Bool → Value → Value → Option Bool
  | true, .int k x, .int k' y => if k = k' then some (x == y) else none
  | false, .bool x, .bool y => some (x == y)
  | _, _, _ => none
def cellsEq : List Bool → List Value → List Value → Option Bool
  | [], [], [] => some true
  | k :: ks, x :: xs, y :: ys => match cellEq k x y with
    | none => none
    | some b => match cellsEq ks xs ys with
      | none => none
      | some c => some (b && c)
  | _, _, _ => none
theorem cellsEq_len : ∀ {ks : List Bool} {us vs : List Value} {b : Bool}, cellsEq ks us vs = some b → us.length = ks.length ∧ vs.length = ks.length
  | [], [], [], _, _ => ⟨rfl, rfl⟩
  | k :: ks, u :: us, v :: vs, b, h => by
    simp only [cellsEq] at h
    split at h
    · cases h
    · split at h
      · cases h
      · rename_i c hc
        have := cellsEq_len hc
        simp [this.1, this.2]
  | [], [], _ :: _, _, h => by simp [cellsEq] at h
  | [], _ :: _, _, _, h => by simp [cellsEq] at h
  | _ :: _, [], _, _, h => by simp [cellsEq] at h
  | _ :: _, _ :: _, [], _, h => by simp [cellsEq] at h
theorem cellsEq_append : ∀ {ks qs : List Bool} {us vs : List Value} {b : Bool}, cellsEq (ks ++ qs) us vs = some b →
    ∃ b1 b2, cellsEq ks (us.take ks.length) (vs.take ks.length) = some b1 ∧ cellsEq qs (us.drop ks.length) (vs.drop ks.length) = some b2 ∧ b = (b1 && b2)
  | [], qs, us, vs, b, h => ⟨true, b, by simp [cellsEq], by simpa using h, by simp⟩
  | k :: ks, qs, [], vs, b, h => by simp [cellsEq] at h
  | k :: ks, qs, u :: us, [], b, h => by simp [cellsEq] at h
  | k :: ks, qs, u :: us, v :: vs, b, h => by
    simp only [List.cons_append, cellsEq] at h
    split at h
    · cases h
    · rename_i b0 h0
      split at h
      · cases h
      · rename_i c hc
        cases h
        obtain ⟨b1, b2, e1, e2, rfl⟩ := cellsEq_append hc
        exact ⟨b0 && b1, b2, by simp [cellsEq, h0, e1], by simpa using e2, by simp [Bool.and_assoc]⟩
def mkV (agg : Bool) (us : List Value) : Value := if agg then .agg us.toArray else us.headD Go.undef
theorem kindsT_size {P : Program} {d : Nat} {t : TypeId} {ks : List Bool} (h : kindsT P d t = some ks) : szOf P t = some ks.length ∧ (isAggT P t = false → ks.length = 1) := by
  have hrep : ∀ (ks : List Bool) (n : Nat), (repL ks n).length = n * ks.length := by
    intro ks n
    induction n with
    | zero => simp [repL]
    | succ n ih => simp [repL, ih, Nat.succ_mul, Nat.add_comm]
  cases d with
  | zero => simp [kindsT] at h
  | succ d =>
    simp only [kindsT] at h
    split at h
    · rename_i hs
      split at h
      · rename_i h1; cases h; exact ⟨by simpa [h1] using hs, fun _ => rfl⟩
      · cases h
    · rename_i hs
      split at h
      · rename_i h1; cases h; exact ⟨by simpa [h1] using hs, fun _ => rfl⟩
      · cases h
    · rename_i hu hs
      split at h
      · cases h
      · split at h
        · split at h
          · rename_i h1; cases h; exact ⟨by rw [hs, h1], fun q => by simp [isAggT, hu] at q⟩
          · cases h
        · cases h
    · rename_i hu hs
      split at h
      · split at h
        · rename_i h1; cases h; exact ⟨by rw [hs, hrep, h1], fun q => by simp [isAggT, hu] at q⟩
        · cases h
      · cases h
    · cases h
theorem run_isAggT {t : TypeId} {n : Nat} (hs : szOf P t = some n) (hu : (P.underlying t).isSome = true) : (isAgg t).run P w = .ok (isAggT P t) w := by
  obtain ⟨d, hd⟩ := Option.isSome_iff_exists.1 hu
  simp only [isAgg, Sem.run_bind, run_underlying hd, Result.andThen_ok, isAggT, hd]
  cases d <;> rfl
theorem kindsT_under {P : Program} {d : Nat} {t : TypeId} {ks : List Bool} (h : kindsT P d t = some ks) : (P.underlying t).isSome = true := by
  cases d with
  | zero => simp [kindsT] at h
  | succ d =>
    cases hu : P.underlying t with
    | none => simp [kindsT, hu] at h
    | some x => rfl
theorem run_partK {d : Nat} {t : TypeId} {ks : List Bool} (h : kindsT P d t = some ks) {xs : Array Value} {off : Nat} (hle : off + ks.length ≤ xs.size) :
    (part t xs off).run P w = .ok (mkV (isAggT P t) ((xs.toList.drop off).take ks.length)) w := by
  obtain ⟨h1, h2⟩ := kindsT_size h
  simp only [part, Sem.run_bind, run_isAggT h1 (kindsT_under h), Result.andThen_ok]
  cases ha : isAggT P t with
  | true =>
    simp only [if_true, Sem.run_bind, szOf_size h1, Result.andThen_ok, Sem.run_pure, mkV]
    congr 2
    apply Array.ext'
    simp [List.drop_take]
  | false =>
    have hk := h2 ha
    have hlt : off < xs.size := by omega
    simp only [Bool.false_eq_true, if_false, hlt, Array.getElem?_eq_getElem, Sem.run_pure, mkV, hk]
    rw [List.drop_eq_getElem_cons (by simpa using hlt)]
    simp
theorem equalIn_kinds : ∀ (d fuel : Nat) (t : TypeId) (ks : List Bool), kindsT P d t = some ks → ∀ (us vs : List Value) (b : Bool), cellsEq ks us vs = some b →
    (Op.equalIn (fuel + d) t (mkV (isAggT P t) us) (mkV (isAggT P t) vs)).run P w = .ok b w
  | 0, fuel, t, ks, h, _, _, _, _ => by simp [kindsT] at h
  | d + 1, fuel, t, ks, h, us, vs, b, he => by
    have ih := equalIn_kinds d fuel
    have hsz := kindsT_size h
    simp only [kindsT] at h
    split at h
    · rename_i k n hu hs
      split at h
      · cases h
        match us, vs, he with
        | [u], [v], he =>
          have hagg : isAggT P t = false := by simp [isAggT, hu]
          simp only [hagg, mkV, Bool.false_eq_true, if_false, List.headD_cons]
          simp only [cellsEq] at he
          split at he
          · cases he
          · rename_i b0 h0
            cases he
            unfold cellEq at h0
            split at h0
            · rename_i k1 x k2 y _
              split at h0
              · rename_i hkk
                subst hkk
                cases h0
                rw [← Nat.add_assoc]
                simpa using run_equalIn_int (P := P) w (fuel + d) t k1 k x y hu
              · cases h0
            · rename_i hq; cases hq
            · cases h0
        | [], _, he => simp [cellsEq] at he
        | _ :: _, [], he => simp [cellsEq] at he
        | _ :: _ :: _, _, he => have := (cellsEq_len he).1; simp at this
        | [_], _ :: _ :: _, he => have := (cellsEq_len he).2; simp at this
      · cases h
    · rename_i n hu hs
      split at h
      · cases h
        match us, vs, he with
        | [u], [v], he =>
          have hagg : isAggT P t = false := by simp [isAggT, hu]
          simp only [hagg, mkV, Bool.false_eq_true, if_false, List.headD_cons]
          simp only [cellsEq] at he
          split at he
          · cases he
          · rename_i b0 h0
            cases he
            unfold cellEq at h0
            split at h0
            · rename_i hq; cases hq
            · rename_i x y _
              cases h0
              rw [← Nat.add_assoc]
              simpa using run_equalIn_bool' (P := P) w (fuel + d) t x y hu
            · cases h0
        | [], _, he => simp [cellsEq] at he
        | _ :: _, [], he => simp [cellsEq] at he
        | _ :: _ :: _, _, he => have := (cellsEq_len he).1; simp at this
        | [_], _ :: _ :: _, he => have := (cellsEq_len he).2; simp at this
      · cases h
    · rename_i fs n hu hs
      split at h
      · cases h
      · rename_i hsi
        split at h
        · rename_i ks' hks
          split at h
          · rename_i hn
            cases h
            have hagg : isAggT P t = true := by simp [isAggT, hu]
            simp only [hagg, mkV, if_true]
            have hfs : P.fieldsOf t = fs := by simp [Program.fieldsOf, hu]
            rw [← Nat.add_assoc, run_equalIn_struct w (fuel + d) t _ _ (by rw [hfs]; exact hu) (by simpa using hsi), hfs]
            obtain ⟨l1, l2⟩ := cellsEq_len he
            have key : ∀ (fs : List Field) (off : Nat) (qs : List Bool) (c : Bool), kindsF (kindsT P d) off fs = some qs → off + qs.length ≤ us.length → off + qs.length ≤ vs.length →
                cellsEq qs ((us.drop off).take qs.length) ((vs.drop off).take qs.length) = some c → (Op.eqFields (fuel + d) us.toArray vs.toArray fs).run P w = .ok c w := by
              intro fs
              induction fs with
              | nil =>
                intro off qs c hq _ _ hc
                cases hq
                simp [cellsEq] at hc
                subst hc
                rfl
              | cons f fs ihf =>
                intro off qs c hq hl1 hl2 hc
                simp only [kindsF] at hq
                split at hq
                · cases hq
                · rename_i hcond
                  have hname : f.name ≠ "_" := fun q => hcond (.inl q)
                  have hoff : f.offset = off := Classical.byContradiction fun q => hcond (.inr q)
                  split at hq
                  · cases hq
                  · rename_i k1 hk1
                    split at hq
                    · cases hq
                    · rename_i k2 hk2
                      cases hq
                      simp only [List.length_append] at hl1 hl2
                      obtain ⟨b1, b2, e1, e2, rfl⟩ := cellsEq_append hc
                      simp only [List.take_take, List.length_append, Nat.min_eq_left (Nat.le_add_right _ _)] at e1
                      simp only [List.drop_take, List.drop_drop, List.length_append, Nat.add_sub_cancel_left] at e2
                      have p1 := run_partK (P := P) (w := w) hk1 (xs := us.toArray) (off := off) (by simp; omega)
                      have p2 := run_partK (P := P) (w := w) hk1 (xs := vs.toArray) (off := off) (by simp; omega)
                      have p3 := ih f.type k1 hk1 _ _ b1 e1
                      have p4 := ihf (off + k1.length) k2 b2 hk2 (by omega) (by omega) e2
                      simp only [Op.eqFields, hname, ne_eq, not_false_eq_true, if_true, Sem.run_bind, hoff, p1, p2, p3, Result.andThen_ok]
                      cases b1
                      · simp
                      · simpa using p4
            exact key fs.toList 0 ks b hks (by omega) (by omega) (by rw [List.drop_zero, List.drop_zero, List.take_of_length_le (by omega), List.take_of_length_le (by omega)]; exact he)
          · cases h
        · cases h
    · rename_i len e n hu hs
      split at h
      · rename_i k1 hk1
        split at h
        · rename_i hn
          cases h
          have hagg : isAggT P t = true := by simp [isAggT, hu]
          simp only [hagg, mkV, if_true]
          obtain ⟨hse, _⟩ := kindsT_size hk1
          have hcs : P.cellsOf e = k1.length := by
            unfold szOf at hse
            split at hse
            · rename_i i hi; have := Option.some.inj hse; simp [Program.cellsOf, hi, this]
            · cases hse
          have hie : ∃ i, P.info? e = some i := by
            unfold szOf at hse
            split at hse
            · rename_i i hi; exact ⟨i, hi⟩
            · cases hse
          obtain ⟨i, hi⟩ := hie
          rw [← Nat.add_assoc, run_equalIn_array w (fuel + d) _ _ hu hi, hcs]
          have key : ∀ (m off : Nat) (c : Bool), (off + m) * k1.length ≤ us.length → (off + m) * k1.length ≤ vs.length →
              cellsEq (repL k1 m) ((us.drop (off * k1.length)).take (m * k1.length)) ((vs.drop (off * k1.length)).take (m * k1.length)) = some c →
              (Op.eqItems (fuel + d) e k1.length us.toArray vs.toArray (List.range' off m)).run P w = .ok c w := by
            intro m
            induction m with
            | zero =>
              intro off c _ _ hc
              simp [repL, cellsEq] at hc
              subst hc
              rfl
            | succ m ihm =>
              intro off c hl1 hl2 hc
              simp only [repL] at hc
              obtain ⟨b1, b2, e1, e2, rfl⟩ := cellsEq_append hc
              have hmul : (m + 1) * k1.length = k1.length + m * k1.length := by rw [Nat.succ_mul]; omega
              have hoff : (off + 1) * k1.length = off * k1.length + k1.length := Nat.succ_mul _ _
              have hl1' : off * k1.length + k1.length + m * k1.length ≤ us.length := by have := Nat.add_mul off (m + 1) k1.length; omega
              have hl2' : off * k1.length + k1.length + m * k1.length ≤ vs.length := by have := Nat.add_mul off (m + 1) k1.length; omega
              rw [hmul] at e1 e2
              simp only [List.take_take, Nat.min_eq_left (Nat.le_add_right _ _)] at e1
              simp only [List.drop_take, List.drop_drop, Nat.add_sub_cancel_left] at e2
              have p1 := run_partK (P := P) (w := w) hk1 (xs := us.toArray) (off := off * k1.length) (by simp; omega)
              have p2 := run_partK (P := P) (w := w) hk1 (xs := vs.toArray) (off := off * k1.length) (by simp; omega)
              have p3 := ih e k1 hk1 _ _ b1 e1
              have p4 := ihm (off + 1) b2 (by have := Nat.add_mul off (m + 1) k1.length; have := Nat.add_mul (off + 1) m k1.length; omega) (by have := Nat.add_mul off (m + 1) k1.length; have := Nat.add_mul (off + 1) m k1.length; omega) (by rw [hoff]; exact e2)
              simp only [List.range'_succ, Op.eqItems, Sem.run_bind, p1, p2, p3, Result.andThen_ok]
              cases b1
              · simp
              · simpa using p4
          obtain ⟨l1, l2⟩ := cellsEq_len he
          have hrl : (repL k1 len).length = len * k1.length := by
            have := hsz.1
            rw [hs] at this
            simp at this
            omega
          have := key len 0 b (by simp; omega) (by simp; omega) (by simp only [Nat.zero_mul, List.drop_zero]; rw [List.take_of_length_le (by omega), List.take_of_length_le (by omega)]; exact he)
          rw [List.range_eq_range']
          exact this
        · cases h
      · cases h
    · cases h
theorem eqs_rel : ∀ {ks : List Bool} {ps qs : List PV} {us vs : List Value} {b : Bool}, eqs ks ps qs = some b → us.length = ps.length → vs.length = qs.length →
    (∀ (k : Nat) (p : PV) (u : Value), ps[k]? = some p → us[k]? = some u → Rel G p u) → (∀ (k : Nat) (p : PV) (u : Value), qs[k]? = some p → vs[k]? = some u → Rel G p u) → cellsEq ks us vs = some b
  | [], [], [], [], [], b, h, _, _, _, _ => by simpa [eqs, cellsEq] using h
  | k :: ks, p :: ps, q :: qs, u :: us, v :: vs, b, h, h1, h2, r1, r2 => by
    simp only [eqs] at h
    split at h
    · cases h
    · rename_i b0 h0
      split at h
      · cases h
      · rename_i c hc
        cases h
        have ih := eqs_rel hc (by simpa using h1) (by simpa using h2) (fun k p u e1 e2 => r1 (k + 1) p u (by simpa using e1) (by simpa using e2)) (fun k p u e1 e2 => r2 (k + 1) p u (by simpa using e1) (by simpa using e2))
        have g1 := r1 0 p u rfl rfl
        have g2 := r2 0 q v rfl rfl
        have : cellEq k u v = some b0 := by
          unfold eq1 at h0
          split at h0
          · cases g1; cases g2; exact h0
          · cases g1; cases g2; exact h0
          · cases h0
        simp [cellsEq, this, ih]
  | [], [], [], _ :: _, _, _, _, h1, _, _, _ => by simp at h1
  | [], [], [], [], _ :: _, _, _, _, h2, _, _ => by simp at h2
  | [], [], _ :: _, _, _, _, h, _, _, _, _ => by simp [eqs] at h
  | [], _ :: _, _, _, _, _, h, _, _, _, _ => by simp [eqs] at h
  | _ :: _, [], _, _, _, _, h, _, _, _, _ => by simp [eqs] at h
  | _ :: _, _ :: _, [], _, _, _, h, _, _, _, _ => by simp [eqs] at h
  | _ :: _, _ :: _, _ :: _, [], _, _, _, h1, _, _, _ => by simp at h1
  | _ :: _, _ :: _, _ :: _, _ :: _, [], _, _, _, h2, _, _ => by simp at h2
theorem snd_eqA (h : FSim T P A N K base G L M σ a w) (hd : ∀ x, o.dst = some x → x < N) {b : BinOp} {t t' : TypeId} {x y : Operand} {x' y' : Opd} {ks : List Bool} (ho : o.op = .binOp b t x y t') (ha : isAggT P t = true) (hb : isEq b = true) (hg : P.eqGuardType P.depth t = false)
    (hk : kindsT P 20 t = some ks) (hx : cOpd x = some x') (hy : cOpd y = some y') (he : aop T ex o.dst σ (.eqA ks (b == .neq) x' y') = some σ') : OpRes T P A N K base G L M σ' a w o := by
  simp only [aop] at he
  split at he
  · rename_i u v hu hv
    split at he
    · rename_i r hr
      cases he
      have r1 := h.aval hx hu
      have r2 := h.aval hy hv
      generalize hev1 : a.eval x = e1 at r1
      generalize hev2 : a.eval y = e2 at r2
      cases r1 with
      | agg _ us q1 q2 q3 =>
        cases r2 with
        | agg _ vs s1 s2 s3 =>
          have hc : cellsEq ks us.toList vs.toList = some r := eqs_rel hr (by simpa using q1) (by simpa using s1) (fun k p u e1 e2 => q3 k p u e1 (by simpa using e2)) (fun k p u e1 e2 => s3 k p u e1 (by simpa using e2))
          have hrun := equalIn_kinds (P := P) (w := w) 20 9980 t ks hk us.toList vs.toList r hc
          simp only [ha, mkV, if_true, Array.toArray_toList] at hrun
          refine opRes_value h hd (.bool _) ?_
          rcases isEq_cases hb with rfl | rfl
          · refine exec_binOp ho (by rw [hev1, hev2]; exact run_eqGuard_agg _ _ _ _ _ _ _ hg) ?_
            rw [hev1, hev2, run_eql_struct, hrun]
            rfl
          · refine exec_binOp ho (by rw [hev1, hev2]; exact run_eqGuard_agg _ _ _ _ _ _ _ hg) ?_
            rw [hev1, hev2, run_neq_struct, hrun]
            rfl
    · cases he
  · cases he
theorem snd_binOp (h : FSim T P A N K base G L M σ a w) (hd : ∀ x, o.dst = some x → x < N) {b : BinOp} {t t' : TypeId} {x y : Operand} (ho : o.op = .binOp b t x y t') (hc : cOp P A o = some op) (he : aop T ex o.dst σ op = some σ') :
    OpRes T P A N K base G L M σ' a w o := by
  simp only [cOp, ho, cBin] at hc
  split at hc
  · split at hc
    · rename_i hx hy; cases hc; exact snd_binI h hd ho hx hy he
    · cases hc
  · rename_i ht
    split at hc
    · rename_i hb
      split at hc
      · rename_i hx hy; cases hc; exact snd_eqB h hd ho ht hb hx hy he
      · cases hc
    · cases hc
  · rename_i ht
    split at hc
    · rename_i hb
      simp only [Bool.and_eq_true] at hb
      split at hc
      · rename_i hx; cases hc; exact snd_isnil h hd ho ht hb.1 hb.2 hx he
      · cases hc
    · cases hc
  · rename_i ht
    split at hc
    · rename_i hb
      simp only [Bool.and_eq_true, Bool.not_eq_true'] at hb
      split at hc
      · rename_i hx hy hk; cases hc; exact snd_eqA h hd ho (by simp [isAggT, ht]) hb.1 hb.2 hk hx hy he
      · cases hc
    · cases hc
  · rename_i ht
    split at hc
    · rename_i hb
      simp only [Bool.and_eq_true, Bool.not_eq_true'] at hb
      split at hc
      · rename_i hx hy hk; cases hc; exact snd_eqA h hd ho (by simp [isAggT, ht]) hb.1 hb.2 hk hx hy he
      · cases hc
    · cases hc
  · cases hc
end
end Go.Proofs.YtkgmeeenacnhfaaGreat.Eng
namespace Go.Proofs.YtkgmeeenacnhfaaGreat.Eng
open Go
open Go.RowKit (Below)
section
variable {T : Tbl} {P : Program} {A : Ann} {N : Nat} {K : Nat → Prop} {base : Nat} {G : Ghost} {L : Nat → Option Nat} {M : List Nat} {σ σ' : AS} {a : Act} {w : World} {o : Oper} {ex : Ex} {op : AOp}

theorem snd_un (h : FSim T P A N K base G L M σ a w) (hd : ∀ x, o.dst = some x → x < N) {u : UnOp} {t : TypeId} {x : Operand} (ho : o.op = .unOp u t x) (hc : cOp P A o = some op) (he : aop T ex o.dst σ op = some σ') : OpRes T P A N K base G L M σ' a w o := by
  simp only [cOp, ho] at hc
  split at hc
  · rename_i x' hx
    cases hc
    simp only [aop] at he
    split at he
    · rename_i p hp
      simp only [withV] at he
      split at he
      · rename_i q hq
        cases he
        have r1 := h.aval hx hp
        generalize hev : a.eval x = e1 at r1
        cases r1 <;> try (simp only [aun] at hq; cases hq)
        · cases u <;> simp only [aun] at hq <;> cases hq
          · exact opRes_value h hd (.int _ _) (by simp [execOp, ho, hev, Op.unary, Op.intArith])
          · exact opRes_value h hd (.int _ _) (by simp [execOp, ho, hev, Op.unary, Op.intBits])
        · cases u <;> simp only [aun] at hq <;> cases hq
          exact opRes_value h hd (.bool _) (by simp [execOp, ho, hev, Op.unary])
      · cases he
    · cases he
  · cases hc
theorem snd_conv (h : FSim T P A N K base G L M σ a w) (hd : ∀ x, o.dst = some x → x < N) {s t : TypeId} {x : Operand} (ho : o.op = .convert s t x) (hc : cOp P A o = some op) (he : aop T ex o.dst σ op = some σ') : OpRes T P A N K base G L M σ' a w o := by
  simp only [cOp, ho] at hc
  split at hc
  · rename_i x' hs ht hx
    cases hc
    simp only [aop] at he
    split at he
    · rename_i n hn
      cases he
      have r1 := h.aval hx hn
      generalize hev : a.eval x = e1 at r1
      cases r1
      exact opRes_value h hd (.int _ _) (by simp [execOp, ho, hev, convert, run_underlying hs, run_underlying ht, Conv.intToInt])
    · cases he
  · cases hc
theorem rel_slice_len {st : Nat} {xs : List PV} {v : Value} (hr : Rel G (.list st xs) v) : ∃ p cap, v = .slice p xs.length cap := by cases hr <;> exact ⟨_, _, rfl⟩
theorem snd_makeFunc (h : FSim T P A N K base G L M σ a w) (hd : ∀ x, o.dst = some x → x < N) {fn : Fn} {first cap : Array Operand} (ho : o.op = .makeFunc fn first cap) (hc : cOp P A o = some op) (he : aop T ex o.dst σ op = some σ') : OpRes T P A N K base G L M σ' a w o := by
  simp only [cOp, ho] at hc
  split at hc
  · rename_i f u v hu hv
    cases hc
    simp only [aop] at he
    split at he
    · rename_i p q hp hq
      cases he
      have r1 := h.avals hu hp
      have r2 := h.avals hv hq
      refine opRes_value h hd (.fn f p q (first.map a.eval) (cap.map a.eval) (by simpa using r1.1) (by simpa using r2.1) (fun k x y e1 e2 => r1.2 k x y e1 ?_) (fun k x y e1 e2 => r2.2 k x y e1 ?_)) (by simp [execOp, ho, Instr.makeFunc])
      · simpa using e2
      · simpa using e2
    · cases he
  · cases hc
theorem snd_extract (h : FSim T P A N K base G L M σ a w) (hd : ∀ x, o.dst = some x → x < N) {x : Operand} {i : Nat} (ho : o.op = .extract x i) (hc : cOp P A o = some op) (he : aop T ex o.dst σ op = some σ') : OpRes T P A N K base G L M σ' a w o := by
  simp only [cOp, ho] at hc
  split at hc
  · rename_i x' hx
    cases hc
    simp only [aop] at he
    split at he
    · rename_i vs hvs
      simp only [withV] at he
      split at he
      · rename_i q hq
        cases he
        have r1 := h.aval hx hvs
        generalize hev : a.eval x = e1 at r1
        cases r1 with
        | tup _ us q1 q2 =>
          have hlt : i < us.size := by rw [q1]; exact (List.getElem?_eq_some_iff.1 hq).1
          exact opRes_value h hd (q2 i q us[i] hq (by simp [hlt])) (by simp [execOp, ho, hev, Instr.extract, hlt])
      · cases he
    · cases he
  · cases hc
theorem snd_index (h : FSim T P A N K base G L M σ a w) (hd : ∀ x, o.dst = some x → x < N) {t : TypeId} {x i : Operand} (ho : o.op = .index t x i) (hc : cOp P A o = some op) (he : aop T ex o.dst σ op = some σ') : OpRes T P A N K base G L M σ' a w o := by
  simp only [cOp, ho] at hc
  split at hc
  · rename_i k e x' i' ht hx hi
    split at hc
    · rename_i g n hg hn
      cases hc
      simp only [aop] at he
      split at he
      · rename_i cs kk j hcs hj
        split at he
        · rename_i h0
          simp only [withV] at he
          split at he
          · rename_i q hq
            cases he
            have r1 := h.aval hx hcs
            have r2 := h.aval hi hj
            generalize hev1 : a.eval x = e1 at r1
            generalize hev2 : a.eval i = e2 at r2
            cases r2
            cases r1 with
            | agg _ vs q1 q2 q3 =>
              have hrun : ∃ u, (part e vs (j.toNat * n)).run P w = .ok u w ∧ Rel G q u := by
                cases g with
                | none =>
                  simp only [Option.isSome_none, Bool.false_eq_true, if_false, cut] at hq
                  have hlt : j.toNat * n < vs.size := by rw [q1]; exact (List.getElem?_eq_some_iff.1 hq).1
                  refine ⟨vs[j.toNat * n], ?_, q3 _ q _ hq (by simp [hlt])⟩
                  simp [part, szOpt_isAgg hg, hlt]
                | some m =>
                  have hmn : m = n := by
                    have h1 := szOpt_size (P := P) (w := w) hg
                    have h2 := szOf_size (P := P) (w := w) hn
                    rw [h1] at h2
                    simpa using h2
                  subst hmn
                  simp only [Option.isSome_some, if_true, cut] at hq
                  split at hq
                  · rename_i hle
                    cases hq
                    refine ⟨_, by simp [part, szOpt_isAgg hg, szOpt_size hg]; rfl, .agg _ _ (by simp; omega) (fun k v e => ?_) (fun k c v e1 e2 => ?_)⟩
                    · rw [Array.getElem?_extract] at e
                      split at e
                      · exact q2 _ v e
                      · cases e
                    · obtain ⟨g1, g2⟩ := getElem?_take_drop _ _ _ _ _ e1
                      rw [Array.getElem?_extract] at e2
                      split at e2
                      · exact q3 _ c v g1 e2
                      · cases e2
                  · cases hq
              obtain ⟨u, h1, h2⟩ := hrun
              refine opRes_value h hd h2 ?_
              simp [execOp, ho, hev1, hev2, Instr.index, asIntOf, run_underlying ht, h0.1, h0.2, szOf_size hn, h1]
          · cases he
        · cases he
      · cases he
    · cases hc
  · rename_i x' i' ht hx hi
    cases hc
    simp only [aop] at he
    split at he
    · rename_i s kk j hs hj
      split at he
      · rename_i h0
        split at he
        · rename_i b hb
          cases he
          have r1 := h.aval hx hs
          have r2 := h.aval hi hj
          generalize hev1 : a.eval x = e1 at r1
          generalize hev2 : a.eval i = e2 at r2
          cases r2
          cases r1
          refine opRes_value h hd (.int _ _) ?_
          have hget : (⟨s.toArray⟩ : ByteArray)[j.toNat]? = some b := by
            have hlt := (List.getElem?_eq_some_iff.1 hb).1
            have he := (List.getElem?_eq_some_iff.1 hb).2
            rw [getElem?_pos (⟨s.toArray⟩ : ByteArray) j.toNat (by simpa [ByteArray.size] using hlt)]
            congr 1
          simp [execOp, ho, hev1, hev2, Instr.index, asIntOf, run_underlying ht, h0, hget]
        · cases he
      · cases he
    · cases he
  · cases hc
theorem max2_run : ∀ (ps : List PV) (vs : List Value) (p q : PV) (v : Value), Rel G p v → vs.length = ps.length → (∀ (k : Nat) (p : PV) (u : Value), ps[k]? = some p → vs[k]? = some u → Rel G p u) → maxOf p ps = some q →
    ∃ u, (vs.foldlM Builtin.max2 v).run P w = .ok u w ∧ Rel G q u
  | [], [], p, q, v, hr, _, _, h => by cases p <;> (simp only [maxOf] at h; cases h; exact ⟨v, by simp, hr⟩)
  | p1 :: ps, v1 :: vs, p, q, v, hr, hl, hall, h => by
    unfold maxOf at h
    split at h
    · rename_i hq; cases hq
    · rename_i k x k' y r hq
      cases hq
      split at h
      · rename_i hk
        subst hk
        have g1 := hall 0 _ v1 rfl rfl
        cases hr
        cases g1
        obtain ⟨u, h1, h2⟩ := max2_run ps vs _ q _ (.int k (if y > x then y else x)) (by simpa using hl) (fun k p u e1 e2 => hall (k + 1) p u (by simpa using e1) (by simpa using e2)) h
        refine ⟨u, ?_, h2⟩
        simp only [List.foldlM_cons, Sem.run_bind, Builtin.max2, Sem.run_pure, Result.andThen_ok]
        exact h1
      · cases h
    · cases h
  | [], _ :: _, _, _, _, _, hl, _, _ => by simp at hl
  | _ :: _, [], _, _, _, _, hl, _, _ => by simp at hl
theorem arr_of_toList {α : Type} {x : Array α} {l : List α} (h : x.toList = l) : x = l.toArray := by subst h; simp
/-- A builtin's call. -/
theorem exec_builtin {c : Call} {b : Builtin} (ho : o.op = .call c) (hb : c.callee = .builtin b) :
    (execOp a.eval o).run P w = (builtin b c.argTypes o.type (c.args.map fun | .const _ => true | _ => false) (c.args.map a.eval)).run P w := by
  simp only [execOp, ho, resolve, hb, Sem.run_bind, Sem.run_pure, Result.andThen_ok, invoke]
  rfl
theorem snd_len (h : FSim T P A N K base G L M σ a w) (hd : ∀ x, o.dst = some x → x < N) {c : Call} (ho : o.op = .call c) (hb : c.callee = .builtin .len) (hc : cOp P A o = some op) (he : aop T ex o.dst σ op = some σ') : OpRes T P A N K base G L M σ' a w o := by
  simp only [cOp, ho, cCall, hb] at hc
  split at hc
  · rename_i x t hargs htys
    have e1 := arr_of_toList hargs
    have e2 := arr_of_toList htys
    have hrun := exec_builtin (P := P) (w := w) (a := a) ho hb
    rw [e1, e2] at hrun
    split at hc
    · rename_i el ht
      split at hc
      · rename_i x' hx
        cases hc
        simp only [aop] at he
        split at he
        · rename_i st xs hxs
          cases he
          have r1 := h.aval hx hxs
          generalize hev : a.eval x = e3 at r1
          obtain ⟨p, cap, rfl⟩ := rel_slice_len r1
          exact opRes_value h hd (.int _ _) (by rw [hrun]; simp [builtin, hev, Builtin.len_, run_underlying ht, goInt])
        · rename_i hxs
          cases he
          have r1 := h.aval hx hxs
          generalize hev : a.eval x = e3 at r1
          cases r1
          exact opRes_value h hd (.int _ _) (by rw [hrun]; simp [builtin, hev, Builtin.len_, run_underlying ht, goInt])
        · rename_i hxs
          cases he
          have r1 := h.aval hx hxs
          generalize hev : a.eval x = e3 at r1
          cases r1
          exact opRes_value h hd (.int _ _) (by rw [hrun]; simp [builtin, hev, Builtin.len_, run_underlying ht, goInt])
        · cases he
      · cases hc
    · rename_i kt el ht
      split at hc
      · rename_i x' hx
        cases hc
        simp only [aop] at he
        split at he
        · rename_i m hm
          split at he
          · rename_i es hes
            cases he
            have r1 := h.aval hx hm
            generalize hev : a.eval x = e3 at r1
            cases r1 with
            | map _ blk hblk =>
              obtain ⟨blk', ents, clock, g1, g2, g3, g4, _⟩ := h.sim.map m es hes
              rw [hblk] at g1
              cases g1
              refine opRes_value h hd (.int _ _) (by rw [hrun]; simp [builtin, hev, Builtin.len_, run_underlying ht, goInt, getObj, Sem.run, g3, g4])
          · cases he
        · cases he
      · cases hc
    · cases hc
  · cases hc
theorem snd_max (h : FSim T P A N K base G L M σ a w) (hd : ∀ x, o.dst = some x → x < N) {c : Call} (ho : o.op = .call c) (hb : c.callee = .builtin .max) (hc : cOp P A o = some op) (he : aop T ex o.dst σ op = some σ') : OpRes T P A N K base G L M σ' a w o := by
  simp only [cOp, ho, cCall, hb] at hc
  split at hc
  · rename_i as has
    cases hc
    simp only [aop] at he
    split at he
    · rename_i p ps hps
      simp only [withV] at he
      split at he
      · rename_i q hq
        cases he
        obtain ⟨g1, g2⟩ := h.avals has hps
        have hrun := exec_builtin (P := P) (w := w) (a := a) ho hb
        cases hl : c.args.toList with
        | nil => rw [hl] at g1; simp at g1
        | cons x xs =>
          rw [hl] at g1 g2
          obtain ⟨u, h1, h2⟩ := max2_run (P := P) (w := w) ps (xs.map a.eval) p q (a.eval x) (g2 0 p _ rfl rfl) (by simpa using g1) (fun k p u e1 e2 => g2 (k + 1) p u (by simpa using e1) (by simpa using e2)) hq
          refine opRes_value h hd h2 ?_
          rw [hrun]
          simp [builtin, Builtin.max_, hl, h1]
      · cases he
    · cases he
  · cases hc
theorem snd_makeMap (h : FSim T P A N K base G L M σ a w) (hbb : base ≤ w.heap.size) (hd : ∀ x, o.dst = some x → x < N) {t : TypeId} (ho : o.op = .makeMap t none) (hc : cOp P A o = some op) (he : aop T ex o.dst σ op = some σ') : OpRes T P A N K base G L M σ' a w o := by
  simp only [cOp, ho] at hc
  split at hc
  · cases hc
    simp only [aop] at he
    cases he
    refine opRes_store h hd (h.sim.newMap hbb) (Stp.of_alloc (K := KF G) h.sim (fun b hb => hb) _ hbb (G.addMap_ext _) (fun b hb' => by simp [Ghost.addMap, Nat.ne_of_lt hb'])) (v := .map (some w.heap.size)) ?_ (.inl (by simp [execOp, ho, Instr.makeMap]))
    exact .map _ _ (getElem?_append_at _ _ h.sim.mapLen.symm)
  · cases hc
/-- Looking a key up, entry by entry. -/
theorem findNow_rel {kk : IntKind} {k : IntKind} {n : Int} : ∀ {es : List (PV × PV)} {ents : List MapEntry} {r : Option (Nat × PV)} (i : Nat), ents.length = es.length →
    (∀ (i : Nat) (k v : PV) (e : MapEntry), es[i]? = some (k, v) → ents[i]? = some e → (∃ (kk : IntKind) (n : Int), k = .int kk n ∧ e.key = .int kk n) ∧ Rel G v e.val) → findK k n es i = some r →
    ∃ r', Instr.findNow (.int kk) (.int k n) ents i = some r' ∧ match r, r' with
      | none, none => True
      | some (j, v), some (j', u) => j = j' ∧ Rel G v u ∧ i ≤ j ∧ j < i + es.length
      | _, _ => False
  | [], [], r, i, _, _, h => by cases h; exact ⟨none, rfl, trivial⟩
  | (key, v) :: es, e :: ents, r, i, hl, hall, h => by
    obtain ⟨⟨k1, n1, rfl, hk⟩, hv⟩ := hall 0 key v e rfl rfl
    simp only [findK] at h
    split at h
    · rename_i hkk
      subst hkk
      simp only [Instr.findNow, hk, Instr.sameNow, if_true]
      split at h
      · rename_i hn
        cases h
        refine ⟨some (i, e.val), by simp [hn], rfl, hv, Nat.le_refl _, by simp⟩
      · rename_i hn
        obtain ⟨r', h1, h2⟩ := findNow_rel (kk := kk) (i + 1) (by simpa using hl) (fun i k v x e1 e2 => hall (i + 1) k v x (by simpa using e1) (by simpa using e2)) h
        have hf : (n == n1) = false := by simpa using hn
        refine ⟨r', by simp [hf, h1], ?_⟩
        cases r <;> cases r' <;> simp_all
        omega
    · cases h
  | [], _ :: _, _, _, hl, _, _ => by simp at hl
  | _ :: _, [], _, _, hl, _, _ => by simp at hl
theorem run_checkKey_int {kt : TypeId} {kk : IntKind} (hkt : P.underlying kt = some (.int kk)) (e : Bool) (d : Nat) (v : Value) : (Instr.checkKey e (d + 1) kt v).run P w = .ok () w := by
  simp only [Instr.checkKey, Sem.run_bind, run_underlying hkt, Result.andThen_ok]
  rfl
theorem run_checkKey_int' {kt : TypeId} {kk : IntKind} (hkt : P.underlying kt = some (.int kk)) (e : Bool) (v : Value) : (Instr.checkKey e 10000 kt v).run P w = .ok () w := run_checkKey_int hkt e 9999 v
theorem snd_lookup (h : FSim T P A N K base G L M σ a w) (hd : ∀ x, o.dst = some x → x < N) {t : TypeId} {m k : Operand} {ok : Bool} (ho : o.op = .lookup t m k ok) (hc : cOp P A o = some op) (he : aop T ex o.dst σ op = some σ') : OpRes T P A N K base G L M σ' a w o := by
  simp only [cOp, ho] at hc
  split at hc
  · rename_i kt e ht
    split at hc
    · rename_i kk z m' k' hkt hz hm hk
      cases hc
      simp only [aop] at he
      split at he
      · rename_i mi k1 n hmi hkn
        split at he
        · rename_i hkk
          subst hkk
          have r1 := h.aval hm hmi
          have r2 := h.aval hk hkn
          generalize hev1 : a.eval m = e1 at r1
          generalize hev2 : a.eval k = e2 at r2
          cases r2
          cases r1 with
          | map _ blk hblk =>
            split at he
            · rename_i es hes
              obtain ⟨blk', ents, clock, g1, g2, g3, g4, g5, _⟩ := h.sim.map mi es hes
              rw [hblk] at g1
              cases g1
              have hzz : ∃ i x, P.info? e = some i ∧ i.zero = some x ∧ Rel G z x := by
                unfold zeroOf at hz
                split at hz
                · rename_i i hi
                  split at hz
                  · rename_i x hx; exact ⟨i, x, hi, hx, (cVal_rel hz).1⟩
                  · cases hz
                · cases hz
              obtain ⟨i, x, hi, hx, hrz⟩ := hzz
              have hrun : ∀ r', Instr.findNow (.int k1) (.int k1 n) ents.toList 0 = some r' → (execOp a.eval o).run P w = .ok (.value (match r' with
                  | some (_, v) => if ok then .tuple #[v, .bool true] else v
                  | none => if ok then .tuple #[x, .bool false] else x)) w := by
                intro r' hr'
                simp only [execOp, ho, hev1, hev2, Instr.lookup, Sem.run_bind, run_underlying ht, Result.andThen_ok]
                simp only [getObj, Sem.run, g3, Sem.run_bind, Sem.run_pure, Result.andThen_ok]
                simp only [run_checkKey_int' hkt, Result.andThen_ok, Instr.findKey, Sem.run_bind, run_underlying hkt, hr', Sem.run_pure]
                cases r' with
                | none => simp [zeroValue, typeInfo, hi, hx]
                | some q => simp
              split at he
              · rename_i j v hf
                cases he
                obtain ⟨r', q1, q2⟩ := findNow_rel (G := G) (kk := k1) (ents := ents.toList) 0 (by simpa using g4) (fun i k v e e1 e2 => g5 i k v e e1 (by simpa using e2)) hf
                cases r' with
                | none => exact q2.elim
                | some q =>
                  obtain ⟨j', u⟩ := q
                  refine opRes_value h hd ?_ (hrun _ q1)
                  cases ok
                  · exact q2.2.1
                  · refine .tup _ _ rfl (fun k c u' e1 e2 => ?_)
                    match k with
                    | 0 => simp at e1 e2; subst e1 e2; exact q2.2.1
                    | 1 => simp at e1 e2; subst e1 e2; exact .bool _
                    | k + 2 => simp at e1
              · rename_i hf
                cases he
                obtain ⟨r', q1, q2⟩ := findNow_rel (G := G) (kk := k1) (ents := ents.toList) 0 (by simpa using g4) (fun i k v e e1 e2 => g5 i k v e e1 (by simpa using e2)) hf
                cases r' with
                | some q => exact q2.elim
                | none =>
                  refine opRes_value h hd ?_ (hrun _ q1)
                  cases ok
                  · exact hrz
                  · refine .tup _ _ rfl (fun k c u' e1 e2 => ?_)
                    match k with
                    | 0 => simp at e1 e2; subst e1 e2; exact hrz
                    | 1 => simp at e1 e2; subst e1 e2; exact .bool _
                    | k + 2 => simp at e1
              · cases he
            · cases he
        · cases he
      · cases he
    · cases hc
  · cases hc
end
end Go.Proofs.YtkgmeeenacnhfaaGreat.Eng
namespace Go.Proofs.YtkgmeeenacnhfaaGreat.Eng
open Go
open Go.RowKit (Below)
section
variable {T : Tbl} {P : Program} {A : Ann} {N : Nat} {K : Nat → Prop} {base : Nat} {G : Ghost} {L : Nat → Option Nat} {M : List Nat} {σ σ' : AS} {a : Act} {w : World} {o : Oper} {ex : Ex} {op : AOp}

theorem strip1_rel {c : PV} {v : Value} (hr : Rel G c v) : Rel G (strip1 c) v := by
  cases hr with
  | nils => exact .listN 0 trivial
  | emp x cap => exact .listE 0 x cap (.inl rfl)
  | listN st hs => exact .listN 0 trivial
  | listE st a cap hs => exact .listE 0 a cap (.inl rfl)
  | list st xs b o cap sz val h0 h1 h2 h3 h4 h5 h6 => exact .list 0 xs b o cap sz val h0 h1 h2 h3 h4 h5 trivial
  | int k n => exact .int k n
  | bool b => exact .bool b
  | str s => exact .str s
  | undef => exact .undef
  | agg cs vs h1 h2 h3 => exact .agg cs vs h1 h2 h3
  | tup cs vs h1 h2 => exact .tup cs vs h1 h2
  | nilp => exact .nilp
  | ptr b off blk ce e => exact .ptr b off blk ce e
  | vptr cs off b o val h1 h2 h3 => exact .vptr cs off b o val h1 h2 h3
  | arr b off n sz blk ce cap e h1 h2 h3 => exact .arr b off n sz blk ce cap e h1 h2 h3
  | fn f a c va vc h1 h2 h3 h4 => exact .fn f a c va vc h1 h2 h3 h4
  | yld l blk e => exact .yld l blk e
  | nilf => exact .nilf
  | map m blk e => exact .map m blk e
  | nilm => exact .nilm
  | junk v => exact .junk v
theorem nostC_strip1 (c : PV) : nostC (strip1 c) = true := by cases c <;> rfl
theorem strip_cells (p : PV) : (strip p).cells = p.cells.map strip1 := by cases p <;> rfl
theorem strip_rel {p : PV} {v : Value} (hr : Rel G p v) : Rel G (strip p) v := by
  by_cases ha : ∃ cs, p = .agg cs
  · obtain ⟨cs, rfl⟩ := ha
    cases hr with
    | agg _ vs h1 h2 h3 =>
      refine .agg _ vs (by simpa using h1) h2 (fun k c v e1 e2 => ?_)
      simp only [List.getElem?_map, Option.map_eq_some_iff] at e1
      obtain ⟨c', e1, rfl⟩ := e1
      exact strip1_rel (h3 k c' v e1 e2)
  · have : strip p = strip1 p := by cases p <;> first | rfl | exact absurd ⟨_, rfl⟩ ha
    rw [this]
    exact strip1_rel hr
theorem flat_map_strip : ∀ ys : List PV, flat (ys.map strip) = (flat ys).map strip1
  | [] => rfl
  | y :: ys => by simp [flat, flat_map_strip ys, strip_cells]
theorem flat_append : ∀ xs ys : List PV, flat (xs ++ ys) = flat xs ++ flat ys
  | [], ys => rfl
  | x :: xs, ys => by simp [flat, flat_append xs ys]
theorem flat_length {sz : Nat} : ∀ {xs : List PV}, (∀ x ∈ xs, x.cells.length = sz) → (flat xs).length = xs.length * sz
  | [], _ => by simp [flat]
  | x :: xs, h => by
    have h1 := h x (by simp)
    have h2 := flat_length (xs := xs) (fun y hy => h y (by simp [hy]))
    simp [flat, h1, h2, Nat.add_mul, Nat.add_comm]
theorem flat_take {sz : Nat} : ∀ {xs : List PV} (n : Nat), (∀ x ∈ xs, x.cells.length = sz) → flat (xs.take n) = (flat xs).take (n * sz)
  | [], n, _ => by simp [flat]
  | x :: xs, 0, _ => by simp [flat]
  | x :: xs, n + 1, h => by
    have h1 := h x (by simp)
    have h2 := flat_take (xs := xs) n (fun y hy => h y (by simp [hy]))
    simp only [List.take_succ_cons, flat, h2]
    rw [List.take_append]
    have h3 : (n + 1) * sz - x.cells.length = n * sz := by rw [h1, Nat.add_mul]; omega
    rw [h3, List.take_of_length_le (l := x.cells) (by rw [h1, Nat.add_mul]; omega)]
theorem flat_drop {sz : Nat} : ∀ {xs : List PV} (n : Nat), (∀ x ∈ xs, x.cells.length = sz) → flat (xs.drop n) = (flat xs).drop (n * sz)
  | [], n, _ => by simp [flat]
  | x :: xs, 0, _ => by simp [flat]
  | x :: xs, n + 1, h => by
    have h1 := h x (by simp)
    have h2 := flat_drop (xs := xs) n (fun y hy => h y (by simp [hy]))
    simp only [List.drop_succ_cons, flat, h2]
    rw [List.drop_append]
    have h3 : (n + 1) * sz - x.cells.length = n * sz := by rw [h1, Nat.add_mul]; omega
    rw [h3, List.drop_of_length_le (l := x.cells) (by rw [h1, Nat.add_mul]; omega)]
    simp
theorem widths_mem {sz : Nat} : ∀ {xs : List PV}, widths sz xs = true → ∀ x ∈ xs, x.cells.length = sz
  | [], _, x, hx => by simp at hx
  | y :: ys, h, x, hx => by
    simp only [widths, Bool.and_eq_true, decide_eq_true_eq] at h
    rcases List.mem_cons.1 hx with rfl | hx
    · exact h.1
    · exact widths_mem h.2 x hx
theorem cells_of_one {c : PV} {v : Value} (h1 : v.oneCell' = true) (hr : Rel G c v) : c.cells = [c] := by
  cases hr <;> first | rfl | simp [Value.oneCell'] at h1
theorem chunk_flat {sz : Nat} (hs : 0 < sz) : ∀ (n : Nat) (cs : List PV), n * sz ≤ cs.length → (∀ c ∈ cs, c.cells = [c]) → flat (chunk sz n cs) = cs.take (n * sz) ∧ (chunk sz n cs).length = n ∧ ∀ x ∈ chunk sz n cs, x.cells.length = sz
  | 0, cs, _, _ => by simp [chunk, flat]
  | n + 1, cs, hle, hc => by
    have hle' : n * sz ≤ (cs.drop sz).length := by rw [List.length_drop]; rw [Nat.add_mul] at hle; omega
    obtain ⟨h1, h2, h3⟩ := chunk_flat hs n (cs.drop sz) hle' (fun c h => hc c (List.mem_of_mem_drop h))
    have hsz : sz ≤ cs.length := by rw [Nat.add_mul] at hle; omega
    have key : (chunk1 sz cs).cells = cs.take sz := by
      unfold chunk1
      split
      · rename_i h1
        subst h1
        match cs, hsz, hc with
        | c :: cs, _, hc => simpa using hc c (by simp)
      · rfl
    refine ⟨?_, by simp [chunk, h2], ?_⟩
    · simp only [chunk, flat, h1]
      rw [key, List.take_drop, Nat.add_mul, Nat.one_mul, Nat.add_comm]
      have e1 : cs.take sz = (cs.take (n * sz + sz)).take sz := by rw [List.take_take, Nat.min_eq_left (by omega)]
      rw [e1]
      exact List.take_append_drop sz _
    · intro x hx
      simp only [chunk, List.mem_cons] at hx
      rcases hx with rfl | hx
      · rw [key]; simp; omega
      · exact h3 x hx

/-- Values in memory, cell by cell, that stand for cells. -/
def Cells (G : Ghost) (cs : List PV) (vs : List Value) : Prop := vs.length = cs.length ∧ ∀ (k : Nat) (c : PV) (u : Value), cs[k]? = some c → vs[k]? = some u → u.oneCell' = true ∧ Rel G c u
theorem Cells.one {cs : List PV} {vs : List Value} (h : Cells G cs vs) : ∀ v ∈ vs, v.oneCell' = true := by
  intro v hv
  obtain ⟨k, hk, e⟩ := List.getElem_of_mem hv
  have hk' : k < cs.length := by rw [← h.1]; exact hk
  exact (h.2 k cs[k] v (by simp [hk']) (by simp [hk, e])).1
theorem Cells.strip {cs : List PV} {vs : List Value} (h : Cells G cs vs) : Cells G (cs.map strip1) vs := by
  refine ⟨by simpa using h.1, fun k c u e1 e2 => ?_⟩
  simp only [List.getElem?_map, Option.map_eq_some_iff] at e1
  obtain ⟨c', e1, rfl⟩ := e1
  exact ⟨(h.2 k c' u e1 e2).1, strip1_rel (h.2 k c' u e1 e2).2⟩
theorem Cells.append {cs ds : List PV} {vs us : List Value} (h : Cells G cs vs) (k : Cells G ds us) : Cells G (cs ++ ds) (vs ++ us) := by
  refine ⟨by simp [h.1, k.1], fun i c u e1 e2 => ?_⟩
  rcases Nat.lt_or_ge i cs.length with hi | hi
  · rw [List.getElem?_append_left hi] at e1
    rw [List.getElem?_append_left (by rw [h.1]; exact hi)] at e2
    exact h.2 i c u e1 e2
  · rw [List.getElem?_append_right hi] at e1
    rw [List.getElem?_append_right (by rw [h.1]; exact hi), h.1] at e2
    exact k.2 _ c u e1 e2
theorem Cells.at {cs : List PV} {vs : List Value} (h : Cells G cs vs) {arr : Array Value} (ha : ∀ (k : Nat) (v : Value), vs[k]? = some v → arr[k]? = some v) : CellsAt G cs arr := by
  intro k c e
  have hk : k < vs.length := by rw [h.1]; exact (List.getElem?_eq_some_iff.1 e).1
  obtain ⟨h1, h2⟩ := h.2 k c vs[k] e (by simp [hk])
  exact ⟨vs[k], ha k _ (by simp [hk]), h1, h2⟩
theorem Cells.ext {G' : Ghost} (he : Ext base G G') {cs : List PV} {vs : List Value} (h : Cells G cs vs) : Cells G' cs vs := ⟨h.1, fun k c u e1 e2 => ⟨(h.2 k c u e1 e2).1, (h.2 k c u e1 e2).2.ext he⟩⟩
/-- Cells that never turn, as a list of values. -/
theorem imm_cells {S : Store} (h : Sim T P base G S w) {cs : List PV} {b o : Nat} {val : Nat → Value} (h1 : ∀ (k : Nat) (c : PV), cs[k]? = some c → G.imm b (o + k) = some (val k))
    (h2 : ∀ (k : Nat) (c : PV), cs[k]? = some c → (val k).oneCell' = true ∧ nostC c = true) (h3 : ∀ (k : Nat) (c : PV), cs[k]? = some c → Rel G c (val k)) :
    Cells G cs ((List.range cs.length).map val) ∧ ∀ (k : Nat) (v : Value), ((List.range cs.length).map val)[k]? = some v → w.cell? ⟨b, o + k, none⟩ = some v := by
  refine ⟨⟨by simp, fun k c u e1 e2 => ?_⟩, fun k v e => ?_⟩
  · have hk := (List.getElem?_eq_some_iff.1 e1).1
    simp [hk] at e2
    subst e2
    exact ⟨(h2 k c e1).1, h3 k c e1⟩
  · have hk : k < cs.length := by have := (List.getElem?_eq_some_iff.1 e).1; simpa using this
    simp [hk] at e
    subst e
    exact h.imm _ _ _ (h1 k cs[k] (by simp [hk]))
/-- Cells of a box, as a list of values. -/
theorem box_cells {cs : List PV} {arr : Array Value} (h : CellsAt G cs arr) (hl : cs.length ≤ arr.size) : Cells G cs (arr.toList.take cs.length) := by
  refine ⟨by simp; omega, fun k c u e1 e2 => ?_⟩
  obtain ⟨v, g1, g2, g3⟩ := h k c e1
  rw [List.getElem?_take] at e2
  split at e2
  · have : arr[k]? = some u := by simpa using e2
    rw [g1] at this
    cases this
    exact ⟨g2, g3⟩
  · cases e2
theorem Cells.mid {cs : List PV} {vs : List Value} (h : Cells G cs vs) (o n : Nat) : Cells G ((cs.drop o).take n) ((vs.drop o).take n) := by
  refine ⟨by simp [h.1], fun k c u e1 e2 => ?_⟩
  have g1 := (getElem?_take_drop _ _ _ _ _ e1).1
  rw [List.getElem?_take] at e2
  split at e2
  · rw [List.getElem?_drop] at e2; exact h.2 _ c u g1 e2
  · cases e2
/-- What stands in a slice that is read. -/
theorem elems_cells (h : Sim T P base G σ.S w) {p : PV} {v : Value} (hr : Rel G p v) {sz : Nat} (hs : 0 < sz) {ys : List PV} (he : elems σ sz p = some ys) (hw : ∀ x ∈ ys, x.cells.length = sz) :
    ∃ pb n cap vs, v = .slice pb n cap ∧ n = ys.length ∧ Cells G (flat ys) vs ∧ ∀ w' : World, (∀ b, b < w.heap.size → w'.heap[b]? = w.heap[b]?) → (Builtin.firstCells sz n v).run P w' = .ok vs.toArray w' := by
  have fin : ∀ (b : Addr) (n cap : Nat) (vs : List Value), vs.length = n * sz → (∀ j u, vs[j]? = some u → w.cell? (b.add j) = some u) → ∀ w' : World, (∀ b, b < w.heap.size → w'.heap[b]? = w.heap[b]?) →
      (Builtin.firstCells sz n (.slice (some b) n cap)).run P w' = .ok vs.toArray w' := by
    intro b n cap vs h1 h2 w' hw'
    refine run_firstCells_some w' sz n b n cap vs h1 (fun j u e => ?_)
    have h3 := h2 j u e
    have hlt := World.block_lt_of_cell? w _ h3
    rw [World.cell?_of_block (w := w) (hw' _ hlt)]
    exact h3
  cases hr with
  | nils => cases he; exact ⟨none, 0, 0, [], rfl, rfl, ⟨rfl, by simp [flat]⟩, fun w' _ => by simp [Builtin.firstCells]⟩
  | listN st hst => cases he; exact ⟨none, 0, 0, [], rfl, rfl, ⟨rfl, by simp [flat]⟩, fun w' _ => by simp [Builtin.firstCells]⟩
  | listE st x cap hx => cases he; exact ⟨some x, 0, cap, [], rfl, rfl, ⟨rfl, by simp [flat]⟩, fun w' hw' => fin x 0 cap [] (by simp) (by simp) w' hw'⟩
  | emp x cap => cases he; exact ⟨some x, 0, cap, [], rfl, rfl, ⟨rfl, by simp [flat]⟩, fun w' hw' => fin x 0 cap [] (by simp) (by simp) w' hw'⟩
  | list st xs b o cap sz' val h0 h1 h2 h3 h4 h5 h6 =>
    cases he
    obtain ⟨g1, g2⟩ := imm_cells h h3 h4 h5
    refine ⟨_, _, cap, _, rfl, rfl, g1, fun w' hw' => fin _ _ cap _ ?_ (fun j u e => ?_) w' hw'⟩
    · rw [g1.1, flat_length hw]
    · rw [add_lit]; exact g2 j u e
  | arr b off n sz' blk ce cap hb h1 h2 h3 =>
    simp only [elems] at he
    split at he
    · rename_i hsz
      subst hsz
      split at he
      · rename_i cs hcs
        split at he
        · rename_i hle
          cases he
          obtain ⟨blk', ce', arr, el, g1, g2, g3, g4, g5, g6⟩ := h.box b cs hcs
          rw [hb] at g1
          cases g1
          have hone : ∀ c ∈ cs.drop off, c.cells = [c] := by
            intro c hc
            obtain ⟨k, hk, e⟩ := List.getElem_of_mem (List.mem_of_mem_drop hc)
            obtain ⟨u, q1, q2, q3⟩ := g6 k c (by simp [hk, e])
            exact cells_of_one q2 q3
          obtain ⟨k1, k2, k3⟩ := chunk_flat hs n (cs.drop off) (by simp; omega) hone
          have hc := (box_cells g6 (by omega)).mid off (n * sz')
          rw [← k1] at hc
          refine ⟨_, n, cap, _, rfl, k2.symm, hc, fun w' hw' => fin _ n cap _ ?_ (fun j u e => ?_) w' hw'⟩
          · rw [hc.1, k1]; simp; omega
          · rw [List.getElem?_take] at e
            split at e
            · rw [List.getElem?_drop, List.getElem?_take] at e
              split at e
              · rw [add_lit]
                simp only [World.cell?, g3, Option.isSome_none, Bool.false_eq_true, if_false]
                simpa using e
              · cases e
            · cases e
        · cases he
      · cases he
    · cases he
  | _ => simp [elems] at he
end
end Go.Proofs.YtkgmeeenacnhfaaGreat.Eng
