/- The engine: append, slicing, make, clear, maps, builds. No condition. -/
import Derived.Laws.Slices
import Derived.Great.FillDense
import Derived.Laws.BitsLemmas
import Derived.Test.YtkgmeeenacnhfaaGreatNdB
set_option linter.unusedVariables false
set_option linter.unusedSimpArgs false
namespace Go.Proofs.YtkgmeeenacnhfaaGreat.Eng
open Go
open Go.RowKit (Below)
section
variable {T : Tbl} {P : Program} {A : Ann} {N : Nat} {K : Nat → Prop} {base : Nat} {G : Ghost} {L : Nat → Option Nat} {M : List Nat} {σ σ' : AS} {a : Act} {w : World} {o : Oper} {ex : Ex} {op : AOp}

theorem run_app_nil {t u ty e e' : TypeId} {i : TypeInfo} (ht : P.underlying t = some (.slice e)) (hu : P.underlying u = some (.slice e')) (hi : P.info? e = some i) {sLen sCap n cap : Nat} {pb : Option Addr} {vs : Array Value}
    (hx : (Builtin.firstCells i.size n (.slice pb n cap)).run P w = .ok vs w) (hroom : sLen + n ≤ sCap) :
    (Builtin.append_ #[t, u] ty #[.slice none sLen sCap, .slice pb n cap]).run P w = .ok (.slice none (sLen + n) sCap) w := by
  simp [Builtin.append_, run_underlying ht, run_underlying hu, sizeOf, typeInfo, hi, Builtin.lenOf, hroom, hx]
theorem run_app_room {t u ty e e' : TypeId} {i : TypeInfo} (ht : P.underlying t = some (.slice e)) (hu : P.underlying u = some (.slice e')) (hi : P.info? e = some i) {sLen sCap n cap : Nat} {b : Addr} {pb : Option Addr} {vs : Array Value}
    (hx : (Builtin.firstCells i.size n (.slice pb n cap)).run P w = .ok vs w) (hroom : sLen + n ≤ sCap) {w' : World} (hst : (storeCells (b.add (sLen * i.size)) vs.toList).run P w = .ok () w') :
    (Builtin.append_ #[t, u] ty #[.slice (some b) sLen sCap, .slice pb n cap]).run P w = .ok (.slice (some b) (sLen + n) sCap) w' := by
  simp [Builtin.append_, run_underlying ht, run_underlying hu, sizeOf, typeInfo, hi, Builtin.lenOf, hroom, hx, hst]
theorem run_app_grow {t u ty e e' : TypeId} {i : TypeInfo} {z : Value} (ht : P.underlying t = some (.slice e)) (hu : P.underlying u = some (.slice e')) (hi : P.info? e = some i) (hz : i.zero = some z) {sLen sCap n cap : Nat} {ps pb : Option Addr} {olds vs : Array Value}
    (ho : (Builtin.firstCells i.size sLen (.slice ps sLen sCap)).run P w.drew = .ok olds w.drew) (hx : (Builtin.firstCells i.size n (.slice pb n cap)).run P w.drew = .ok vs w.drew)
    (hg : sCap < sLen + n) (h63 : sLen + n ≤ maxA) (hb : i.bytes ≤ 65536) :
    (Builtin.append_ #[t, u] ty #[.slice ps sLen sCap, .slice pb n cap]).run P w =
      .ok (.slice (some ⟨w.heap.size, 0, none⟩) (sLen + n) (grownCap w (sLen + n) sCap e))
        (w.drew.alloc (.cells (olds ++ vs ++ Builtin.zeroCells z.cells (grownCap w (sLen + n) sCap e - (sLen + n))) e)) := by
  have hn : ¬ (sLen + n ≤ sCap) := by omega
  have h63' : ¬ (9223372036854775807 < ((sLen : Int) + (n : Int))) := by simp only [maxA] at h63; omega
  have hbb : (sLen + n) * i.bytes ≤ 140737488355328 := by
    have := Nat.mul_le_mul h63 hb
    simp only [maxA] at this
    omega
  have h48' : ¬ (281474976710656 < Builtin.nextslicecap (sLen + n) sCap * i.bytes) := by have := growslice_fits hg hbb; omega
  simp [Builtin.append_, run_underlying ht, run_underlying hu, sizeOf, typeInfo, zeroValue, hi, hz, Builtin.lenOf, hn, h63', h48', Question.forced, ho, hx, newRow, grownCap]

/-- The world behind growing. -/
def grownW (w : World) (e : TypeId) (olds vs rest : Array Value) : World := w.drew.alloc (.cells (olds ++ vs ++ rest) e)
theorem Stp.drew_alloc {S : Store} (h : Sim T P base G S w) (hk : ∀ b, K b → G.own b = .frame) {G' : Ghost} (x : Obj) (hb : base ≤ w.heap.size) (ext : Ext base G G')
    (own : ∀ b, b < w.heap.size → G.own b = .frame → G'.own b = .frame) : Stp K base G w G' (w.drew.alloc x) := by
  refine ⟨ext, fun b hb' => ?_, ((Below.refl _ _).drew).alloc hb x⟩
  have hlt := h.lt_of_own (b := b) (by rw [hk b hb']; simp)
  exact ⟨Below.heap_alloc w.drew x b hlt, own b hlt (hk b hb')⟩

theorem headOk_width {sz sz' : Nat} {xs : List PV} (h : headOk sz xs = true) (h' : ∀ x ∈ xs, x.cells.length = sz') (hn : xs ≠ []) : sz' = sz := by
  cases xs with
  | nil => exact absurd rfl hn
  | cons x xs => simp only [headOk, decide_eq_true_eq] at h; rw [← h, h' x (by simp)]
theorem headOk_mem {sz : Nat} {xs : List PV} {st : Nat} {v : Value} (h : headOk sz xs = true) (hr : Rel G (.list st xs) v) : ∀ x ∈ xs, x.cells.length = sz := by
  intro x hx
  cases hr with
  | listN => simp at hx
  | listE => simp at hx
  | list _ _ b o cap sz' val h0 h1 h2 h3 h4 h5 h6 =>
    have := headOk_width h h1 (List.ne_nil_of_mem hx)
    rw [← this]
    exact h1 x hx
theorem flat_ne {sz : Nat} (hs : 0 < sz) {ys : List PV} (h : ∀ x ∈ ys, x.cells.length = sz) (hn : ys ≠ []) : 0 < (flat ys).length := by
  rw [flat_length h]
  cases ys with
  | nil => exact absurd rfl hn
  | cons y ys => simp; omega
/-- A list's relation from a block's cells. -/
theorem rel_list_of {st : Nat} {xs : List PV} {b o cap sz : Nat} {vs : List Value} (hs : 0 < sz) (hw : ∀ x ∈ xs, x.cells.length = sz) (hc : xs.length ≤ cap) (hv : Cells G (flat xs) vs) (hn : ∀ c ∈ flat xs, nostC c = true)
    (hi : ∀ (k : Nat) (v : Value), vs[k]? = some v → G.imm b (o + k) = some v) (hst : StOK G st xs.length (some (b, o + xs.length * sz, o + cap * sz))) :
    Rel G (.list st xs) (.slice (some ⟨b, o, none⟩) xs.length cap) := by
  have key : ∀ (k : Nat) (c : PV), (flat xs)[k]? = some c → ∃ v, vs[k]? = some v ∧ vs.getD k undef = v := by
    intro k c e
    have hk : k < vs.length := by rw [hv.1]; exact (List.getElem?_eq_some_iff.1 e).1
    exact ⟨vs[k], by simp [hk], by simp [List.getD, hk]⟩
  refine .list st xs b o cap sz (fun k => vs.getD k undef) hs hw hc (fun k c e => ?_) (fun k c e => ?_) (fun k c e => ?_) hst
  · obtain ⟨v, g1, g2⟩ := key k c e
    rw [g2]; exact hi k v g1
  · obtain ⟨v, g1, g2⟩ := key k c e
    rw [g2]; exact ⟨(hv.2 k c v e g1).1, hn c (List.mem_of_getElem? e)⟩
  · obtain ⟨v, g1, g2⟩ := key k c e
    rw [g2]; exact (hv.2 k c v e g1).2
/-- A list's cells as they stand, and that none holds a stamp. -/
theorem list_cells {S : Store} (h : Sim T P base G S w) {st : Nat} {xs : List PV} {v : Value} (hr : Rel G (.list st xs) v) {sz : Nat} (hh : headOk sz xs = true) :
    ∃ pb cap vs, v = .slice pb xs.length cap ∧ Cells G (flat xs) vs ∧ (∀ c ∈ flat xs, nostC c = true) ∧ ∀ w' : World, (∀ b, b < w.heap.size → w'.heap[b]? = w.heap[b]?) → (Builtin.firstCells sz xs.length v).run P w' = .ok vs.toArray w' := by
  have hm := headOk_mem hh hr
  cases hr with
  | listE st x cap hst => exact ⟨some x, cap, [], rfl, ⟨rfl, by simp [flat]⟩, by simp [flat], fun w' _ => run_firstCells_some w' sz 0 x 0 cap [] (by simp) (by simp)⟩
  | listN st hst => exact ⟨none, 0, [], rfl, ⟨rfl, by simp [flat]⟩, by simp [flat], fun w' _ => by simp [Builtin.firstCells]⟩
  | list st xs b o cap sz' val h0 h1 h2 h3 h4 h5 h6 =>
    obtain ⟨g1, g2⟩ := imm_cells h h3 h4 h5
    refine ⟨_, cap, _, rfl, g1, fun c hc => ?_, fun w' hw' => run_firstCells_some w' sz _ _ _ cap _ ?_ (fun j u e => ?_)⟩
    · obtain ⟨k, hk, e⟩ := List.getElem_of_mem hc
      exact (h4 k c (by simp [hk, e])).2
    · rw [g1.1, flat_length hm]
    · have h3 := g2 j u e
      have hlt := World.block_lt_of_cell? w _ h3
      rw [add_lit, World.cell?_of_block (w := w) (hw' _ hlt)]
      exact h3
theorem zeroCells_rel {e : TypeId} {z : List PV} (h : zeroCells P e = some z) : ∃ i x, P.info? e = some i ∧ i.zero = some x ∧ x.cells.size = z.length ∧ ∀ G : Ghost, Cells G z x.cells.toList := by
  unfold zeroCells zeroOf at h
  cases hi : P.info? e with
  | none => simp [hi] at h
  | some i =>
    simp only [hi] at h
    cases hx : i.zero with
    | none => simp [hx] at h
    | some x =>
      simp only [hx] at h
      cases hp : cVal x with
      | none => simp [hp] at h
      | some p =>
        simp only [hp] at h
        cases h
        have hr := fun G : Ghost => cVal_rel (G := G) hp
        have hc := fun G : Ghost => rel_cells (hr G).2 (hr G).1
        refine ⟨i, x, rfl, hx, (hc ⟨fun _ _ => none, fun _ => .free, [], [], [], []⟩).1, fun G => ⟨by simpa using (hc G).1, fun k c u e1 e2 => (hc G).2 k c u e1 (by simpa using e2)⟩⟩
/-- A list that has grown into a new block: a new stamp, or its old one. -/
theorem grow_stamp (h : FSim T P A N K base G L M σ a w) (hb : base ≤ w.heap.size) (hd : ∀ x, o.dst = some x → x < N) {xs ys : List PV} {olds vs rest : List Value} {sz cap : Nat} {e : TypeId} (hs : 0 < sz)
    (hxw : ∀ x ∈ xs, x.cells.length = sz) (hyw : ∀ x ∈ ys, x.cells.length = sz) (hy : ys ≠ []) (ho : Cells G (flat xs) olds) (hno : ∀ c ∈ flat xs, nostC c = true) (hv : Cells G (flat ys) vs)
    (hc : xs.length + ys.length ≤ cap) (hrs : (xs.length + ys.length) * sz + rest.length = cap * sz) {k : Nat} {new : Bool} (hnew : new = true → k = σ.S.stamps.length) (hold : new = false → σ.S.stamps[k]? = some xs.length)
    (hrun : (execOp a.eval o).run P w = .ok (.value (.slice (some ⟨w.heap.size, 0, none⟩) (xs.length + ys.length) cap)) (w.drew.alloc (.cells (olds ++ vs ++ rest).toArray e))) :
    OpRes T P A N K base G L M ({ σ with S := { σ.S with stamps := if new then σ.S.stamps ++ [xs.length + ys.length] else σ.S.stamps.set k (xs.length + ys.length) } }.put o.dst (.list (k + 2) (xs ++ ys.map strip))) a w o := by
  have hyl : 0 < ys.length := by cases ys with | nil => exact absurd rfl hy | cons _ _ => simp
  have hol : olds.length = xs.length * sz := by rw [ho.1, flat_length hxw]
  have hvl : vs.length = ys.length * sz := by rw [hv.1, flat_length hyw]
  have hel : (olds ++ vs).length = (xs.length + ys.length) * sz := by rw [List.length_append, hol, hvl, Nat.add_mul]
  have hsize : (olds ++ vs ++ rest).toArray.size = cap * sz := by rw [List.size_toArray, List.length_append, hel]; exact hrs
  obtain ⟨hsim, hext⟩ := (h.sim.drew).moveStamp (el := e) (k := k) (new := new) (e := (xs.length + ys.length) * sz) (c := cap * sz) (n := xs.length + ys.length) (arr := (olds ++ vs ++ rest).toArray) hb hnew
    (fun q => ⟨_, hold q, by omega⟩) (by rw [← hrs]; omega) (by rw [hsize]; exact Nat.le_refl _)
  have hfw : w.drew.heap.size = w.heap.size := rfl
  rw [hfw] at hsim hext
  have hst : Stp (KF G) base G w _ (w.drew.alloc (.cells (olds ++ vs ++ rest).toArray e)) := Stp.drew_alloc h.sim (fun b hb => hb) _ hb hext
    (fun b hlt hf => by simp [Ghost.moveStamp, Nat.ne_of_lt hlt, hf])
  refine opRes_store h hd hsim hst ?_ (.inl hrun)
  have hlen : (xs ++ ys.map strip).length = xs.length + ys.length := by simp
  have hkk : k < (Ghost.moveStamp G k new w.heap.size ((xs.length + ys.length) * sz) (cap * sz) (xs.length + ys.length) (fun j => (olds ++ vs ++ rest).toArray.getD j undef)).stamp.length := by
    cases new with
    | true => have := hnew rfl; simp [Ghost.moveStamp, h.sim.stampLen, this]
    | false => have := (List.getElem?_eq_some_iff.1 (hold rfl)).1; simp [Ghost.moveStamp, h.sim.stampLen]; exact this
  have hat := Ghost.moveStamp_at (G := G) (k := k) (new := new) (blk := w.heap.size) (e := (xs.length + ys.length) * sz) (c := cap * sz) (n := xs.length + ys.length) (val := fun j => (olds ++ vs ++ rest).toArray.getD j undef)
    (fun q => by rw [h.sim.stampLen]; exact hnew q) (fun q => by rw [h.sim.stampLen]; exact (List.getElem?_eq_some_iff.1 (hold q)).1)
  suffices fin : Rel (Ghost.moveStamp G k new w.heap.size ((xs.length + ys.length) * sz) (cap * sz) (xs.length + ys.length) (fun j => (olds ++ vs ++ rest).toArray.getD j undef)) (.list (k + 2) (xs ++ ys.map strip))
      (.slice (some ⟨w.heap.size, 0, none⟩) (xs ++ ys.map strip).length cap) by rw [hlen] at fin; exact fin
  refine rel_list_of (vs := olds ++ vs) hs ?_ (by rw [hlen]; exact hc) ?_ ?_ (fun j v e => ?_) ?_
  · intro x hx
    rcases List.mem_append.1 hx with hx | hx
    · exact hxw x hx
    · obtain ⟨y, hy, rfl⟩ := List.mem_map.1 hx
      rw [strip_cells, List.length_map]
      exact hyw y hy
  · rw [flat_append, flat_map_strip]
    exact (ho.ext hext).append ((hv.ext hext).strip)
  · intro c hc
    rw [flat_append, flat_map_strip] at hc
    rcases List.mem_append.1 hc with hc | hc
    · exact hno c hc
    · obtain ⟨y, _, rfl⟩ := List.mem_map.1 hc
      exact nostC_strip1 y
  · have hj : j < (xs.length + ys.length) * sz := by rw [← hel]; exact (List.getElem?_eq_some_iff.1 e).1
    rw [show (0 + j) = 0 + j from rfl]
    have := Ghost.addImm_at (G := G) (blk := w.heap.size) (off := 0) (n := (xs.length + ys.length) * sz) (k := j) (val := fun j => (olds ++ vs ++ rest).toArray.getD j undef) hj
    refine Eq.trans this ?_
    congr 1
    have e2 : (olds ++ vs ++ rest)[j]? = some v := by rw [List.getElem?_append_left (List.getElem?_eq_some_iff.1 e).1]; exact e
    simp only [Array.getD_eq_getD_getElem?, List.getElem?_toArray, e2, Option.getD_some]
  · rw [hlen]
    refine ⟨_, _, hat, Nat.le_refl _, fun _ => .inl (by simp), fun q => by omega⟩
end
end Go.Proofs.YtkgmeeenacnhfaaGreat.Eng
namespace Go.Proofs.YtkgmeeenacnhfaaGreat.Eng
open Go
open Go.RowKit (Below)
section
variable {T : Tbl} {P : Program} {A : Ann} {N : Nat} {K : Nat → Prop} {base : Nat} {G : Ghost} {L : Nat → Option Nat} {M : List Nat} {σ σ' : AS} {a : Act} {w : World} {o : Oper} {ex : Ex} {op : AOp}

/-- Stamp k's list grows where it stands. -/
theorem room_stamp (h : FSim T P A N K base G L M σ a w) (hd : ∀ x, o.dst = some x → x < N) {k : Nat} {xs ys : List PV} {vs : List Value} {b q cap sz m : Nat} {val : Nat → Value} (hs : 0 < sz)
    (hxw : ∀ x ∈ xs, x.cells.length = sz) (hyw : ∀ x ∈ ys, x.cells.length = sz) (hy : ys ≠ [])
    (h3 : ∀ (k : Nat) (c : PV), (flat xs)[k]? = some c → G.imm b (q + k) = some (val k))
    (h4 : ∀ (k : Nat) (c : PV), (flat xs)[k]? = some c → (val k).oneCell' = true ∧ nostC c = true) (h5 : ∀ (k : Nat) (c : PV), (flat xs)[k]? = some c → Rel G c (val k))
    (hv : Cells G (flat ys) vs) (hroom : xs.length + ys.length ≤ cap) (hk : σ.S.stamps[k]? = some xs.length)
    (hg : G.stamp[k]? = some (some (b, q + xs.length * sz, q + cap * sz), m))
    (hrun : ∀ w', (storeCells ((⟨b, q, none⟩ : Addr).add (xs.length * sz)) vs).run P w = .ok () w' → (execOp a.eval o).run P w = .ok (.value (.slice (some ⟨b, q, none⟩) (xs.length + ys.length) cap)) w') :
    OpRes T P A N K base G L M ({ σ with S := { σ.S with stamps := σ.S.stamps.set k (xs.length + ys.length) } }.put o.dst (.list (k + 2) (xs ++ ys.map strip))) a w o := by
  have hyl : 0 < ys.length := by cases ys with | nil => exact absurd rfl hy | cons _ _ => simp
  have hvl : vs.length = ys.length * sz := by rw [hv.1, flat_length hyw]
  obtain ⟨loc, g1, g2⟩ := h.sim.stamp k _ hk
  rw [hg] at g1
  obtain ⟨rfl, rfl⟩ := Prod.mk.inj (Option.some.inj g1)
  obtain ⟨k1, k2, arr, el, k3, k4⟩ := g2 _ _ _ rfl
  have hle : (q + xs.length * sz) + vs.length ≤ arr.size := by
    have : (xs.length + ys.length) * sz ≤ cap * sz := Nat.mul_le_mul_right _ hroom
    rw [Nat.add_mul] at this
    omega
  have hst := run_storeCells_at P b (q + xs.length * sz) el vs 0 arr w k3 (by simpa using hle) hv.one
  simp only [Nat.add_zero] at hst
  have hsetrow : (arr.toList.take (q + xs.length * sz) ++ vs ++ arr.toList.drop (q + xs.length * sz + vs.length)).toArray = rowOf arr (q + xs.length * sz) vs := rfl
  rw [hsetrow] at hst
  have hrw := hrun _ (by rw [add_lit]; exact hst)
  have hrs := rowOf_size (arr := arr) (off := q + xs.length * sz) (vs := vs) hle
  obtain ⟨hsim, hext⟩ := h.sim.growStamp (k := k) (blk := b) (e := q + xs.length * sz) (m := vs.length) (c := q + cap * sz) (n := xs.length + ys.length) (arr' := rowOf arr (q + xs.length * sz) vs) hk hg k1 k3 (.inl (by omega))
    (by rw [hvl, Nat.add_assoc, ← Nat.add_mul]; exact Nat.add_le_add_left (Nat.mul_le_mul_right _ hroom) _) (by rw [hrs]; exact k4) (fun o v ho e => by rw [rowOf_at hle, if_pos ho]; exact e)
  have hbase := (h.sim.ownLt b (by simp [k1])).1
  have hstp : ∀ G' : Ghost, Ext base G G' → G'.own = G.own → Stp (KF G) base G w G' (w.setRow b (rowOf arr (q + xs.length * sz) vs)) := by
    intro G' he hoo
    have := Stp.of_write (K := KF G) (base := base) (G := G) (w := w) (w' := w.setRow b (rowOf arr (q + xs.length * sz) vs)) (blk := b) (fun b hb => hb) (by simp [KF, k1]) hbase (by simp [World.setRow]) rfl rfl rfl (fun b' hb' => setRow_only w b _ b' hb')
    exact ⟨he, fun b' hb' => ⟨(this.prot b' hb').1, (congrFun hoo b').trans hb'⟩, this.below⟩
  refine opRes_store h hd hsim (hstp _ hext rfl) ?_ (.inl hrw)
  have hlen : (xs ++ ys.map strip).length = xs.length + ys.length := by simp
  suffices fin : Rel (Ghost.growStamp G k b (q + xs.length * sz) vs.length (q + cap * sz) (xs.length + ys.length) (fun j => (rowOf arr (q + xs.length * sz) vs).getD (q + xs.length * sz + j) undef)) (.list (k + 2) (xs ++ ys.map strip))
      (.slice (some ⟨b, q, none⟩) (xs ++ ys.map strip).length cap) by rw [hlen] at fin; exact fin
  have hxl := flat_length hxw
  refine rel_list_of (vs := (List.range (flat xs).length).map val ++ vs) hs ?_ (by rw [hlen]; exact hroom) ?_ ?_ (fun j v e => ?_) ?_
  · intro x hx
    rcases List.mem_append.1 hx with hx | hx
    · exact hxw x hx
    · obtain ⟨y, hy, rfl⟩ := List.mem_map.1 hx
      rw [strip_cells, List.length_map]
      exact hyw y hy
  · rw [flat_append, flat_map_strip]
    exact ((imm_cells h.sim h3 h4 h5).1.ext hext).append ((hv.ext hext).strip)
  · intro c hc
    rw [flat_append, flat_map_strip] at hc
    rcases List.mem_append.1 hc with hc | hc
    · obtain ⟨k, hk, e⟩ := List.getElem_of_mem hc
      exact (h4 k c (by simp [hk, e])).2
    · obtain ⟨y, _, rfl⟩ := List.mem_map.1 hc
      exact nostC_strip1 y
  · rcases Nat.lt_or_ge j (flat xs).length with hj | hj
    · rw [List.getElem?_append_left (by simpa using hj)] at e
      simp [hj] at e
      subst e
      exact hext.imm _ _ _ (h3 j (flat xs)[j] (by simp [hj]))
    · rw [List.getElem?_append_right (by simpa using hj)] at e
      simp only [List.length_map, List.length_range] at e
      have hjl := (List.getElem?_eq_some_iff.1 e).1
      have hat := Ghost.addImm_at (G := G) (blk := b) (off := q + xs.length * sz) (n := vs.length) (k := j - (flat xs).length) (val := fun j => (rowOf arr (q + xs.length * sz) vs).getD (q + xs.length * sz + j) undef) hjl
      rw [show q + xs.length * sz + (j - (flat xs).length) = q + j by omega] at hat
      refine Eq.trans hat ?_
      congr 1
      have e2 : (rowOf arr (q + xs.length * sz) vs)[q + j]? = some v := by
        rw [rowOf_at hle, if_neg (by omega), if_pos (by omega), show q + j - (q + xs.length * sz) = j - (flat xs).length by omega]
        exact e
      rw [Array.getD_eq_getD_getElem?, e2, Option.getD_some]
  · rw [hlen]
    have hkl : k < G.stamp.length := (List.getElem?_eq_some_iff.1 hg).1
    refine ⟨_, _, by simp only [Ghost.growStamp]; exact List.getElem?_set_self hkl, Nat.le_refl _, fun _ => .inl ?_, fun q => by omega⟩
    rw [hvl, Nat.add_assoc, ← Nat.add_mul]

/-- A list that has grown into a new block, to be written in place from now on. -/
theorem grow_box (h : FSim T P A N K base G L M σ a w) (hb : base ≤ w.heap.size) (hd : ∀ x, o.dst = some x → x < N) {cs : List PV} {vs rest : List Value} {sz n cap : Nat} {e : TypeId} (hs : 0 < sz)
    (hv : Cells G cs vs) (hl : cs.length = n * sz) (hc : n ≤ cap) (hrs : vs.length + rest.length = cap * sz) 
    (hrun : (execOp a.eval o).run P w = .ok (.value (.slice (some ⟨w.heap.size, 0, none⟩) n cap)) (w.drew.alloc (.cells (vs ++ rest).toArray e))) :
    OpRes T P A N K base G L M ({ σ with S := { σ.S with boxes := σ.S.boxes ++ [some cs] } }.put o.dst (.arr σ.S.boxes.length 0 n sz)) a w o := by
  have hcl : cs.length ≤ cap * sz := by rw [hl]; exact Nat.mul_le_mul_right _ hc
  have hs1 := (h.sim.drew).newBox (cs := cs) (vs := (vs ++ rest).toArray) (el := e) (ce := cap * sz) hb hcl (by simp; omega) (hv.at (fun k v e => by simp [List.getElem?_append_left (List.getElem?_eq_some_iff.1 e).1, e]))
  have hfw : w.drew.heap.size = w.heap.size := rfl
  rw [hfw] at hs1
  have hst := Stp.drew_alloc (K := KF G) (G' := G.addBox w.heap.size (cap * sz)) h.sim (fun b hb => hb) (.cells (vs ++ rest).toArray e) hb (G.addBox_ext w.heap.size (cap * sz))
    (fun b hlt hf => by simp [Ghost.addBox, Nat.ne_of_lt hlt, hf])
  refine opRes_store h hd hs1 hst ?_ (.inl hrun)
  exact .arr _ _ _ _ w.heap.size (cap * sz) cap (getElem?_append_at _ _ h.sim.boxLen.symm) (by simp) hc hs

/-- A box is known by a new number from now on. -/
def Ghost.reBox (G : Ghost) (blk ce : Nat) : Ghost := { G with own := fun x => if x = blk then .box G.box.length else G.own x, box := G.box ++ [(blk, ce)] }
theorem Sim.reBox {S : Store} (h : Sim T P base G S w) {i blk ce : Nat} {arr arr' : Array Value} {el : TypeId} {cs' : List PV} (hg : G.box[i]? = some (blk, ce)) (ho : G.own blk = .box i)
    (hw : w.heap[blk]? = some (.cells arr el (0, 0))) (h1 : cs'.length ≤ ce) (h2 : ce ≤ arr'.size) (hc : CellsAt G cs' arr') :
    Sim T P base (G.reBox blk ce) { S with boxes := S.boxes.set i none ++ [some cs'] } (w.setRow blk arr') ∧ Ext base G (G.reBox blk ce) := by
  have hne : ∀ b, G.own b ≠ .box i → b ≠ blk := fun b hb e => hb (e ▸ ho)
  have ext : Ext base G (G.reBox blk ce) := ⟨fun _ _ _ h => h, fun _ _ _ h => .inl h, fun _ _ h => getElem?_append_pre h, fun _ loc n h => ⟨loc, n, h, .inr ⟨rfl, rfl⟩⟩, fun _ _ h => h, fun _ _ h => h⟩
  refine ⟨h.step (fun b => b = blk) (fun b _ hb _ => setRow_only w blk arr' b hb) (fun b _ hb => by simp [Ghost.reBox, hb]) ext (fun b o v e => .inl ⟨e, ?_⟩)
    (fun b o k e c m hb g1 g2 g3 => .inr ⟨k, e, c, m, by simp [Ghost.reBox, hb, g1], g2, g3⟩) (fun b hb => ?_) (by simp [Ghost.reBox, h.boxLen]) ?_ h.stampLen
    (fun k n e => .inl ⟨e, rfl, fun b e' c m g => ?_⟩) h.mapLen (fun m es e => .inl ⟨e, fun b g => ?_⟩) h.loopLen (fun l r e => .inl ⟨e, fun b g => ?_⟩), ext⟩
  · rcases h.owned_imm e with h3 | ⟨k, h3⟩ <;> exact hne b (by simp [h3])
  · have : G.own b ≠ .free := by
      by_cases hbb : b = blk
      · subst hbb; simp [ho]
      · simpa [Ghost.reBox, hbb] using hb
    have := h.ownLt b this
    simpa [World.setRow] using this
  · intro j cs e
    rcases getElem?_append_some e with e1 | ⟨rfl, e1⟩
    · by_cases hj : j = i
      · subst hj
        by_cases hl : j < S.boxes.length
        · simp [hl] at e1
        · rw [List.getElem?_eq_none (by simpa using hl)] at e1; cases e1
      · rw [List.getElem?_set_ne (Ne.symm hj)] at e1
        refine .inl ⟨e1, fun b c g => hne b ?_⟩
        obtain ⟨b', c', _, _, g1, g2, _⟩ := h.box j cs e1
        rw [g] at g1
        cases g1
        simpa [g2] using hj
    · cases e1
      exact .inr ⟨blk, ce, arr', el, getElem?_append_at _ _ (by simp [h.boxLen]), by simp [Ghost.reBox, h.boxLen], setRow_heap w blk arr arr' el _ hw, h1, h2, hc.ext ext⟩
  · obtain ⟨loc, g1, g2⟩ := h.stamp k n e
    rw [g] at g1
    obtain ⟨rfl, rfl⟩ := Prod.mk.inj (Option.some.inj g1)
    exact hne b (by simp [(g2 b e' c rfl).1])
  · obtain ⟨b', _, _, g1, g2, _⟩ := h.map m es e
    rw [g] at g1
    cases g1
    exact hne b (by simp [g2])
  · obtain ⟨b', _, g1, g2, _⟩ := h.loop l r e
    rw [g] at g1
    cases g1
    exact hne b (by simp [g2])
/-- A list that is appended to. -/
theorem snd_appendL (h : FSim T P A N K base G L M σ a w) (hb : base ≤ w.heap.size) (hd : ∀ x, o.dst = some x → x < N) {t u e e' ty : TypeId} {i : TypeInfo} {x : Value} (ht : P.underlying t = some (.slice e)) (hu : P.underlying u = some (.slice e')) (hi : P.info? e = some i)
    (hz : i.zero = some x) (hxs : x.cells.size = i.size) (hs : 0 < i.size) (hby : i.bytes ≤ 65536) {inpl : Bool} {st : Nat} {xs ys : List PV} {v p : Value} {q : PV} (hr : Rel G (.list st xs) v) (hq : Rel G q p) (hel : elems σ i.size q = some ys)
    (hexec : (execOp a.eval o).run P w = (do pure (.value (← Builtin.append_ #[t, u] ty #[v, p])) : Sem Next).run P w) {r : PV} {S' : Store} (he : appendL σ.S i.size inpl st xs ys = some (r, S')) :
    OpRes T P A N K base G L M ({ σ with S := S' }.put o.dst r) a w o := by
  unfold appendL at he
  split at he
  · cases he
  · rename_i hcond
    have hcc : (headOk i.size xs = true ∧ widths i.size ys = true) ∧ xs.length + ys.length ≤ maxA := by simpa using hcond
    obtain ⟨⟨hhead, hwid⟩, hmax⟩ := hcc
    clear hcond
    have hyw := widths_mem hwid
    have hxw := headOk_mem hhead hr
    obtain ⟨pb, n, capy, vs, rfl, rfl, hcv, hfy⟩ := elems_cells h.sim hq hs hel hyw
    obtain ⟨ps, cap, olds, rfl, hco, hno, hfx⟩ := list_cells h.sim hr hhead
    have same : ∀ w1 : World, w1 = w ∨ w1 = w.drew → ∀ b, b < w.heap.size → w1.heap[b]? = w.heap[b]? := by rintro w1 (rfl | rfl) b _ <;> rfl
    have hcx : xs.length ≤ cap ∧ (ps = none → cap = 0) := by
      cases hr with
      | listN => exact ⟨Nat.le_refl _, fun _ => rfl⟩
      | listE => exact ⟨Nat.zero_le _, fun q => by cases q⟩
      | list _ _ b o cap sz' val h0 h1 h2 => exact ⟨h2, fun q => by cases q⟩
    have hol : olds.length = xs.length * i.size := by rw [hco.1, flat_length hxw]
    have hvl : vs.length = ys.length * i.size := by rw [hcv.1, flat_length hyw]
    -- growing
    have grow : cap < xs.length + ys.length → ∃ cap' rest, xs.length + ys.length ≤ cap' ∧ (xs.length + ys.length) * i.size + rest.length = cap' * i.size ∧
        (execOp a.eval o).run P w = .ok (.value (.slice (some ⟨w.heap.size, 0, none⟩) (xs.length + ys.length) cap')) (w.drew.alloc (.cells (olds ++ vs ++ rest).toArray e)) := by
      intro hg
      have hrun := run_app_grow (P := P) (w := w) ht hu hi hz (hfx w.drew (same _ (.inr rfl))) (hfy w.drew (same _ (.inr rfl))) hg hmax hby (ty := ty)
      have hge := grownCap_ge w (xs.length + ys.length) cap e
      refine ⟨grownCap w (xs.length + ys.length) cap e, (Builtin.zeroCells x.cells (grownCap w (xs.length + ys.length) cap e - (xs.length + ys.length))).toList, hge, ?_, ?_⟩
      · have hzl : ∀ k, (Builtin.zeroCells x.cells k).toList.length = k * i.size := fun k => by
          have := size_zeroCells x.cells k
          rw [hxs] at this
          simpa using this
        rw [hzl, ← Nat.add_mul]
        congr 1
        omega
      · rw [hexec]
        simp only [Sem.run_bind, hrun, Result.andThen_ok, Sem.run_pure]
        congr 2
        rw [← Array.toArray_toList (xs := olds.toArray ++ vs.toArray ++ _)]
        congr 2
        simp
    -- nothing to append
    have none_ : ys = [] → (execOp a.eval o).run P w = .ok (.value (.slice ps xs.length cap)) w := by
      rintro rfl
      have hvn : vs = [] := List.eq_nil_of_length_eq_zero (by simpa using hvl)
      subst hvn
      rw [hexec]
      have hx := hfy w (same _ (.inl rfl))
      cases ps with
      | none => simp only [Sem.run_bind, run_app_nil ht hu hi hx (show xs.length + ([] : List PV).length ≤ cap by simpa using hcx.1), Result.andThen_ok, Sem.run_pure]; simp
      | some b => simp only [Sem.run_bind, run_app_room ht hu hi hx (show xs.length + ([] : List PV).length ≤ cap by simpa using hcx.1) (w' := w) (by simp [storeCells]), Result.andThen_ok, Sem.run_pure]; simp
    have hyl : ys ≠ [] → 0 < ys.length := fun q => by cases ys with | nil => exact absurd rfl q | cons _ _ => simp
    split at he
    · cases he
    · split at he
      · cases he
        exact opRes_value h hd hr (none_ rfl)
      · rename_i y ys' 
        have hcap : xs.length = cap := by
          cases hr with
          | listN => simp
          | listE _ _ _ h0 => rcases h0 with h0 | ⟨h0, _⟩ <;> simp_all
          | list _ _ b o cap sz' val h0 h1 h2 h3 h4 h5 h6 =>
            have : o + xs.length * sz' = o + cap * sz' := h6
            exact Nat.eq_of_mul_eq_mul_right h0 (by omega)
        obtain ⟨cap', rest, g1, g2, g3⟩ := grow (by simp; omega)
        split at he
        · cases he
          refine grow_box h hb hd (cs := flat xs ++ flat ((y :: ys').map strip)) (vs := olds ++ vs) (rest := rest) hs ?_ ?_ g1 ?_ g3
          · rw [flat_map_strip]; exact hco.append hcv.strip
          · rw [flat_map_strip, List.length_append, List.length_map, flat_length hxw, flat_length hyw, Nat.add_mul]
          · rw [List.length_append, hol, hvl, ← Nat.add_mul]; exact g2
        · cases he
          exact grow_stamp (new := true) (k := σ.S.stamps.length) h hb hd hs hxw hyw (by simp) hco hno hcv g1 g2 (fun _ => rfl) (fun q => by cases q) g3
    · rename_i k
      split at he
      · rename_i n hn
        split at he
        · rename_i hnx
          subst hnx
          cases he
          by_cases hy : ys = []
          · subst hy
            have hset : ({ σ.S with stamps := σ.S.stamps.set k (xs.length + ([] : List PV).length) } : Store) = σ.S := by
              have : σ.S.stamps.set k (xs.length + ([] : List PV).length) = σ.S.stamps := by
                obtain ⟨hl, e⟩ := List.getElem?_eq_some_iff.1 hn
                simp only [List.length_nil, Nat.add_zero, ← e, List.set_getElem_self]
              rw [this]
            rw [hset]
            simp only [List.map_nil, List.append_nil]
            exact opRes_value h hd hr (none_ rfl)
          · by_cases hroom : xs.length + ys.length ≤ cap
            · cases hr with
              | listN => have := hyl hy; have h0 : ([] : List PV).length = 0 := rfl; omega
              | listE _ _ _ h0 => have := hyl hy; have hh : ([] : List PV).length = 0 := rfl; rcases h0 with h0 | ⟨h0, _⟩ <;> omega
              | list _ _ b q cap sz' val h0 h1 h2 h3 h4 h5 h6 =>
                obtain ⟨loc, m, q1, q2, q3, q4⟩ := h6
                obtain ⟨loc', q5, _⟩ := h.sim.stamp k _ hn
                rw [q1] at q5
                obtain ⟨rfl, rfl⟩ := Prod.mk.inj (Option.some.inj q5)
                have hxn : xs ≠ [] := by
                  rintro rfl
                  have : q + ([] : List PV).length * sz' = q + cap * sz' := q4 rfl
                  have h8 : ([] : List PV).length * sz' = 0 := by simp
                  have h9 : cap * sz' = 0 := by omega
                  have h7 : ([] : List PV).length = 0 := rfl
                  have := hyl hy
                  rcases Nat.mul_eq_zero.1 h9 with h9 | h9 <;> omega
                have hsz := headOk_width hhead h1 hxn
                subst hsz
                rcases q3 rfl with rfl | ⟨rfl, hsp⟩
                · refine room_stamp h hd hs hxw hyw hy h3 h4 h5 hcv hroom hn q1 (fun w' hw' => ?_)
                  rw [hexec]
                  simp only [Sem.run_bind, run_app_room ht hu hi (hfy w (same _ (.inl rfl))) hroom hw', Result.andThen_ok, Sem.run_pure]
                · have : q + xs.length * i.size = q + cap * i.size := hsp
                  have := Nat.eq_of_mul_eq_mul_right h0 (show xs.length * i.size = cap * i.size by omega)
                  have := hyl hy
                  omega
            · obtain ⟨cap', rest, g1, g2, g3⟩ := grow (by omega)
              exact grow_stamp (new := false) (k := k) h hb hd hs hxw hyw hy hco hno hcv g1 g2 (fun q => by cases q) (fun _ => hn) g3
        · cases he
      · cases he
/-- A slice written in place that is appended to. -/
theorem snd_appendA (h : FSim T P A N K base G L M σ a w) (hb : base ≤ w.heap.size) (hd : ∀ x, o.dst = some x → x < N) {t u e e' ty : TypeId} {i : TypeInfo} {x : Value} (ht : P.underlying t = some (.slice e)) (hu : P.underlying u = some (.slice e')) (hi : P.info? e = some i)
    (hz : i.zero = some x) (hxs : x.cells.size = i.size) (hs : 0 < i.size) (hby : i.bytes ≤ 65536) {b off n z : Nat} {ys : List PV} {v p : Value} {q : PV} (hr : Rel G (.arr b off n z) v) (hq : Rel G q p) (hel : elems σ i.size q = some ys)
    (hexec : (execOp a.eval o).run P w = (do pure (.value (← Builtin.append_ #[t, u] ty #[v, p])) : Sem Next).run P w) {r : PV} {S' : Store} (he : appendA σ.S i.size b off n z ys = some (r, S')) :
    OpRes T P A N K base G L M ({ σ with S := S' }.put o.dst r) a w o := by
  unfold appendA at he
  split at he
  · rename_i cs hcs
    split at he
    · cases he
    · rename_i hcond
      have hcc : ((widths i.size ys = true ∧ n + ys.length ≤ maxA) ∧ z = i.size) ∧ off + n * i.size ≤ cs.length := by simpa using hcond
      obtain ⟨⟨⟨hwid, hmax⟩, hzs⟩, hlen⟩ := hcc
      clear hcond
      subst hzs
      have hyw := widths_mem hwid
      obtain ⟨pb, m, capy, vs, rfl, rfl, hcv, hfy⟩ := elems_cells h.sim hq hs hel hyw
      have hvl : vs.length = ys.length * i.size := by rw [hcv.1, flat_length hyw]
      cases hr with
      | arr _ _ _ _ blk ce cap hbx hce hncap _ =>
        obtain ⟨blk', ce', arr, el, g1, g2, g3, g4, g5, g6⟩ := h.sim.box b cs hcs
        rw [hbx] at g1
        cases g1
        have hbase := (h.sim.ownLt blk (by simp [g2])).1
        have hbl := (List.getElem?_eq_some_iff.1 hcs).1
        -- in place
        have room : n + ys.length ≤ cap → (execOp a.eval o).run P w = .ok (.value (.slice (some ⟨blk, off, none⟩) (n + ys.length) cap)) (w.setRow blk (rowOf arr (off + n * i.size) vs)) ∧
            off + n * i.size + vs.length ≤ arr.size := by
          intro hroom
          have hmul : (n + ys.length) * i.size ≤ cap * i.size := Nat.mul_le_mul_right _ hroom
          rw [Nat.add_mul] at hmul
          have hle : off + n * i.size + vs.length ≤ arr.size := by omega
          have hst := run_storeCells_at P blk (off + n * i.size) el vs 0 arr w g3 (by simpa using hle) hcv.one
          simp only [Nat.add_zero] at hst
          refine ⟨?_, hle⟩
          rw [hexec]
          simp only [Sem.run_bind, run_app_room ht hu hi (hfy w (fun _ _ => rfl)) hroom (by rw [add_lit]; exact hst), Result.andThen_ok, Sem.run_pure]
          rfl
        have hcells := fun (hle : off + n * i.size + vs.length ≤ arr.size) (cs' : List PV) (k : Nat) (c : PV) (hk : (if k < off + n * i.size then cs[k]? else if k < off + n * i.size + vs.length then ((flat ys).map strip1)[k - (off + n * i.size)]? else cs[k]?) = some c) => (show ∃ v : Value, (rowOf arr (off + n * i.size) vs)[k]? = some v ∧ v.oneCell' = true ∧ Rel G c v by
          rw [rowOf_at hle]
          split at hk
          · rename_i hk1; rw [if_pos hk1]; exact g6 k c hk
          · rename_i hk1
            rw [if_neg hk1]
            split at hk
            · rename_i hk2
              rw [if_pos hk2]
              have hvk : k - (off + n * i.size) < vs.length := by omega
              obtain ⟨q1, q2⟩ := hcv.strip.2 _ c vs[k - (off + n * i.size)] hk (by simp [hvk])
              exact ⟨_, by simp [hvk], q1, q2⟩
            · rename_i hk2; rw [if_neg hk2]; exact g6 k c hk)
        have hstp : ∀ G' : Ghost, Ext base G G' → (∀ b', b' ≠ blk → G'.own b' = G.own b') → Stp (KF G) base G w G' (w.setRow blk (rowOf arr (off + n * i.size) vs)) := by
          intro G' he hoo
          have := Stp.of_write (K := KF G) (base := base) (G := G) (w := w) (w' := w.setRow blk (rowOf arr (off + n * i.size) vs)) (blk := blk) (fun b hb => hb) (by simp [KF, g2]) hbase (by simp [World.setRow]) rfl rfl rfl (fun b' hb' => setRow_only w blk _ b' hb')
          exact ⟨he, fun b' hb' => ⟨(this.prot b' hb').1, (hoo b' (fun q => by subst q; rw [KF, g2] at hb'; cases hb')).trans hb'⟩, this.below⟩
        split at he
        · rename_i hin
          cases he
          have hroom : n + ys.length ≤ cap := by
            have : (n + ys.length) * i.size ≤ cap * i.size := by omega
            exact Nat.le_of_mul_le_mul_right this hs
          obtain ⟨hrun, hle⟩ := room hroom
          rw [Nat.add_mul] at hin
          refine opRes_store h hd (h.sim.writeBox hbx g2 g3 (cs' := cs.take (off + n * i.size) ++ flat (ys.map strip) ++ cs.drop (off + (n + ys.length) * i.size)) ?_ (by rw [rowOf_size hle]; exact g5) (fun k c e => hcells hle cs k c ?_) hbl) (hstp G (Ext.refl _ _) (fun _ _ => rfl))
            (.arr _ _ _ _ blk ce cap hbx hce hroom hs) (.inl hrun)
          · rw [flat_map_strip]
            have := flat_length hyw
            simp only [List.length_append, List.length_take, List.length_map, List.length_drop, this, Nat.add_mul]
            omega
          · have hsp : splice cs (off + n * i.size) ((flat ys).map strip1) = some (cs.take (off + n * i.size) ++ flat (ys.map strip) ++ cs.drop (off + (n + ys.length) * i.size)) := by
              unfold splice
              have hfl := flat_length hyw
              rw [if_pos (by rw [List.length_map, hfl]; omega), flat_map_strip, List.length_map, hfl, Nat.add_mul, Nat.add_assoc]
            have := splice_at hsp k
            rw [List.length_map, ← hcv.1] at this
            rw [← this]
            exact e
        · rename_i hnin
          split at he
          · rename_i h0
            obtain ⟨rfl, hfull⟩ := h0
            cases he
            have hyl : 0 < ys.length := by
              rcases Nat.eq_zero_or_pos ys.length with hy | hy
              · rw [hy, Nat.add_zero] at hnin; omega
              · exact hy
            by_cases hroom : n + ys.length ≤ cap
            · obtain ⟨hrun, hle⟩ := room hroom
              have hmul : (n + ys.length) * i.size ≤ cap * i.size := Nat.mul_le_mul_right _ hroom
              rw [Nat.add_mul] at hmul
              have hfl := flat_length hyw
              obtain ⟨hsim, hext⟩ := h.sim.reBox hbx g2 g3 (cs' := cs ++ flat (ys.map strip)) (arr' := rowOf arr (0 + n * i.size) vs)
                (by rw [flat_map_strip, List.length_append, List.length_map, hfl]; omega) (by rw [rowOf_size hle]; exact g5) (fun k c e => hcells hle cs k c (by
                  rw [flat_map_strip] at e
                  rcases Nat.lt_or_ge k cs.length with hk | hk
                  · rw [List.getElem?_append_left hk] at e
                    rw [if_pos (by omega)]
                    exact e
                  · rw [List.getElem?_append_right hk] at e
                    have hk2 := (List.getElem?_eq_some_iff.1 e).1
                    rw [List.length_map, ← hcv.1] at hk2
                    rw [if_neg (by omega), if_pos (by omega), show k - (0 + n * i.size) = k - cs.length by omega]
                    exact e))
              refine opRes_store h hd hsim (hstp _ hext (fun b' hb' => by simp [Ghost.reBox, hb'])) (.arr _ _ _ _ blk ce cap ?_ hce hroom hs) (.inl hrun)
              exact getElem?_append_at _ _ h.sim.boxLen.symm
            · have hfo : (Builtin.firstCells i.size n (.slice (some ⟨blk, 0, none⟩) n cap)).run P w.drew = .ok (arr.toList.take cs.length).toArray w.drew := by
                refine run_firstCells_some w.drew i.size n _ n cap _ (by simp; omega) (fun j u e => ?_)
                rw [add_lit]
                rw [List.getElem?_take] at e
                split at e
                · show w.cell? _ = _
                  simp only [World.cell?, g3, Option.isSome_none, Bool.false_eq_true, if_false]
                  simpa using e
                · cases e
              have hrun := run_app_grow (P := P) (w := w) ht hu hi hz hfo (hfy w.drew (fun _ _ => rfl)) (by omega) hmax hby (ty := ty)
              have hge := grownCap_ge w (n + ys.length) cap e
              have hzl : ∀ k, (Builtin.zeroCells x.cells k).toList.length = k * i.size := fun k => by
                have := size_zeroCells x.cells k
                rw [hxs] at this
                simpa using this
              have hold := box_cells g6 (by omega)
              have h2 := h.sim.killBox b
              have h2' : FSim T P A N K base G L M { σ with S := { σ.S with boxes := σ.S.boxes.set b none } } a w :=
                h.store h2 (Stp.refl (fun b hb => hb))
              have hlb : (σ.S.boxes.set b none).length = σ.S.boxes.length := by simp
              have key := grow_box h2' hb hd (cs := cs ++ flat (ys.map strip)) (vs := arr.toList.take cs.length ++ vs) (n := n + ys.length)
                (rest := (Builtin.zeroCells x.cells (grownCap w (n + ys.length) cap e - (n + ys.length))).toList) (cap := grownCap w (n + ys.length) cap e) (e := e) (o := o) hs ?_ ?_ hge ?_ ?_
              · simp only [List.length_set] at key
                exact key
              · rw [flat_map_strip]; exact hold.append hcv.strip
              · rw [flat_map_strip, List.length_append, List.length_map, flat_length hyw, ← hfull, Nat.add_mul]
              · rw [List.length_append, hold.1, hvl, hzl, ← hfull, ← Nat.add_mul, ← Nat.add_mul]
                congr 1
                omega
              · rw [hexec]
                simp only [Sem.run_bind, hrun, Result.andThen_ok, Sem.run_pure]
                congr 2
                rw [← Array.toArray_toList (xs := (arr.toList.take cs.length).toArray ++ vs.toArray ++ _)]
                congr 2
                simp
          · cases he
  · cases he
theorem snd_append (h : FSim T P A N K base G L M σ a w) (hb : base ≤ w.heap.size) (hd : ∀ x, o.dst = some x → x < N) {c : Call} (ho : o.op = .call c) (hbb : c.callee = .builtin .append) (hc : cOp P A o = some op) (he : aop T ex o.dst σ op = some σ') : OpRes T P A N K base G L M σ' a w o := by
  simp only [cOp, ho, cCall, hbb] at hc
  split at hc
  · rename_i x y t u hargs htys
    have e1 := arr_of_toList hargs
    have e2 := arr_of_toList htys
    split at hc
    · rename_i e e' x' y' ht hu hx hy
      split at hc
      · rename_i i z hi hz
        split at hc
        · rename_i hcond
          have hcc : ((e = e' ∧ 0 < i.size) ∧ i.bytes ≤ 65536) ∧ z.length = i.size := by simpa using hcond
          obtain ⟨⟨⟨_, hs⟩, hby⟩, hzl⟩ := hcc
          clear hcond
          cases hc
          obtain ⟨i2, zv, hi2, hzv, hzs, _⟩ := zeroCells_rel hz
          rw [hi] at hi2
          cases hi2
          have hexec : (execOp a.eval o).run P w = (do pure (.value (← Builtin.append_ #[t, u] o.type #[a.eval x, a.eval y])) : Sem Next).run P w := by
            rw [exec_builtin (P := P) (w := w) (a := a) ho hbb, e1, e2]
            simp [builtin]
          simp only [aop] at he
          split at he
          · rename_i st xs v hxs hv
            split at he
            · rename_i ys hys
              unfold withS at he
              split at he
              · rename_i r S' hap
                cases he
                exact snd_appendL h hb hd ht hu hi hzv (by omega) hs hby (h.aval hx hxs) (h.aval hy hv) hys hexec hap
              · cases he
            · cases he
          · rename_i b off n z' v hxs hv
            split at he
            · rename_i ys hys
              unfold withS at he
              split at he
              · rename_i r S' hap
                cases he
                exact snd_appendA h hb hd ht hu hi hzv (by omega) hs hby (h.aval hx hxs) (h.aval hy hv) hys hexec hap
              · cases he
            · cases he
          · cases he
        · cases hc
      · cases hc
    · cases hc
  · cases hc
end
end Go.Proofs.YtkgmeeenacnhfaaGreat.Eng
namespace Go.Proofs.YtkgmeeenacnhfaaGreat.Eng
open Go
open Go.RowKit (Below)
section
variable {T : Tbl} {P : Program} {A : Ann} {N : Nat} {K : Nat → Prop} {base : Nat} {G : Ghost} {L : Nat → Option Nat} {M : List Nat} {σ σ' : AS} {a : Act} {w : World} {o : Oper} {ex : Ex} {op : AOp}

def OptInt : Option Value → Option Int → Prop
  | none, none => True
  | some v, some n => ∃ k, v = .int k n
  | _, _ => False
theorem bound_rel (h : FSim T P A N K base G L M σ a w) {x : Option Operand} {y : Option Opd} {r : Option Int} (hc : cOpdO x = some y) (hb : bound? σ y = some r) : OptInt (x.map a.eval) r := by
  cases x with
  | none => cases hc; cases hb; exact trivial
  | some x =>
    simp only [cOpdO] at hc
    split at hc
    · rename_i z hz
      cases hc
      simp only [bound?] at hb
      split at hb
      · rename_i k n hk
        cases hb
        have := h.aval hz hk
        simp only [Option.map_some]
        generalize a.eval x = v at this
        cases this
        exact ⟨k, rfl⟩
      · cases hb
    · cases hc
theorem run_bounds {lo hi mx : Option Value} {l h m : Option Int} {len cap : Nat} (hl : OptInt lo l) (hh : OptInt hi h) (hm : OptInt mx m) (h1 : 0 ≤ l.getD 0) (h2 : l.getD 0 ≤ h.getD len) (h3 : h.getD len ≤ m.getD cap)
    (h4 : m.getD cap ≤ cap) (h5 : m.isSome → h.isSome) :
    (Instr.sliceBounds true len cap lo hi mx).run P w = .ok ((l.getD 0).toNat, (h.getD len).toNat, (m.getD cap).toNat) w := by
  cases mx with
  | none =>
    cases m with
    | some m => exact hm.elim
    | none =>
      cases hi with
      | none =>
        cases h with
        | some h => exact hh.elim
        | none =>
          cases lo with
          | none => cases l with | some l => exact hl.elim | none => simp [Instr.sliceBounds]
          | some lo =>
            cases l with
            | none => exact hl.elim
            | some l =>
              obtain ⟨k, rfl⟩ := hl
              simp only [Option.getD_some, Option.getD_none] at h1 h2 h3 h4 ⊢
              simp [Instr.sliceBounds, run_sliceBound (P := P) w k l len _ h1 h2]
      | some hi =>
        cases h with
        | none => exact hh.elim
        | some h =>
          obtain ⟨kh, rfl⟩ := hh
          simp only [Option.getD_some, Option.getD_none] at h2 h3 h4
          have hb := fun c => run_sliceBound (P := P) w kh h cap c (by omega) h3
          cases lo with
          | none => cases l with | some l => exact hl.elim | none => simp [Instr.sliceBounds, hb]
          | some lo =>
            cases l with
            | none => exact hl.elim
            | some l =>
              obtain ⟨k, rfl⟩ := hl
              simp only [Option.getD_some, Option.getD_none] at h1 h2 h3 h4 ⊢
              have hb2 := fun c => run_sliceBound (P := P) w k l h.toNat c h1 (by omega)
              simp [Instr.sliceBounds, hb, hb2]
  | some mx =>
    cases m with
    | none => exact hm.elim
    | some m =>
      obtain ⟨km, rfl⟩ := hm
      have := h5 rfl
      cases h with
      | none => cases this
      | some h =>
        cases hi with
        | none => exact hh.elim
        | some hi =>
          obtain ⟨kh, rfl⟩ := hh
          simp only [Option.getD_some] at h2 h3 h4
          have hbm := fun c => run_sliceBound (P := P) w km m cap c (by omega) h4
          have hb := fun c => run_sliceBound (P := P) w kh h m.toNat c (by omega) (by omega)
          cases lo with
          | none => cases l with | some l => exact hl.elim | none => simp [Instr.sliceBounds, hbm, hb]
          | some lo =>
            cases l with
            | none => exact hl.elim
            | some l =>
              obtain ⟨k, rfl⟩ := hl
              simp only [Option.getD_some, Option.getD_none] at h1 h2 h3 h4 ⊢
              have hb2 := fun c => run_sliceBound (P := P) w k l h.toNat c h1 (by omega)
              simp [Instr.sliceBounds, hbm, hb, hb2]
theorem exec_slice {t e : TypeId} {x : Operand} {lo hi mx : Option Operand} {n : Nat} (ho : o.op = .slice t x lo hi mx) (ht : P.underlying t = some (.slice e)) (hn : szOf P e = some n) {pb : Option Addr} {len cap : Nat} (hx : a.eval x = .slice pb len cap) {l h m : Nat}
    (hb : (Instr.sliceBounds true len cap (lo.map a.eval) (hi.map a.eval) (mx.map a.eval)).run P w = .ok (l, h, m) w) :
    (execOp a.eval o).run P w = .ok (.value (.slice (if m = l then pb else pb.map (·.add (l * n))) (h - l) (m - l))) w := by
  simp [execOp, ho, Instr.sliceAt, Instr.slice, run_underlying ht, hx, hb, szOf_size hn]
theorem flat_slice {sz l n : Nat} {xs : List PV} (hw : ∀ x ∈ xs, x.cells.length = sz) (k : Nat) (c : PV) (h : (flat ((xs.drop l).take n))[k]? = some c) : (flat xs)[l * sz + k]? = some c := by
  rw [flat_take n (fun x hx => hw x (List.mem_of_mem_drop hx)), flat_drop l hw] at h
  exact (getElem?_take_drop _ _ _ _ _ h).1
theorem snd_slice (h : FSim T P A N K base G L M σ a w) (hd : ∀ x, o.dst = some x → x < N) {t : TypeId} {x : Operand} {lo hi mx : Option Operand} (ho : o.op = .slice t x lo hi mx) (hc : cOp P A o = some op) (he : aop T ex o.dst σ op = some σ') :
    OpRes T P A N K base G L M σ' a w o := by
  simp only [cOp, ho] at hc
  split at hc
  · rename_i e ht
    split at hc
    · rename_i sz x' lo' hi' mx' hsz hx hlo hhi hmx
      split at hc
      · rename_i hs
        cases hc
        simp only [aop] at he
        split at he
        · rename_i p hp
          simp only [withV] at he
          split at he
          · rename_i r hr
            cases he
            have hrel := h.aval hx hp
            unfold aslice at hr
            split at hr
            · rename_i l hh m hl hhv hm
              have b1 := bound_rel h hlo hl
              have b2 := bound_rel h hhi hhv
              have b3 := bound_rel h hmx hm
              split at hr
              · rename_i st xs
                dsimp only at hr
                split at hr
                · rename_i hcond
                  obtain ⟨c1, c2, c3, c4, c5, c6⟩ := hcond
                  cases hr
                  have hxw := headOk_mem c6 hrel
                  generalize hev : a.eval x = v at hrel
                  cases hrel with
                  | listN _ hst =>
                    simp only [List.length_nil] at c1 c2 c3 c4
                    have hb := run_bounds (P := P) (w := w) (len := 0) (cap := 0) b1 b2 b3 c1 c2 (by simpa using c3) (by simpa using c4) c5
                    have hrun := exec_slice ho ht hsz hev hb
                    refine opRes_value h hd ?_ hrun
                    have e0 : (m.getD ((0 : Nat) : Int)).toNat = (l.getD 0).toNat := by omega
                    rw [if_pos e0]
                    have e2 : (hh.getD ((0 : Nat) : Int)).toNat - (l.getD 0).toNat = 0 := by omega
                    have e3 : (m.getD ((0 : Nat) : Int)).toNat - (l.getD 0).toNat = 0 := by omega
                    rw [e2, e3]
                    simp only [List.drop_nil, List.take_nil]
                    split
                    · exact .listN 1 trivial
                    · exact .listN 0 trivial
                  | listE _ x cap hst =>
                    simp only [List.length_nil] at c1 c2 c3 c4
                    have hb := run_bounds (P := P) (w := w) (len := 0) (cap := cap) b1 b2 b3 c1 c2 (by cases m with | none => simp only [Option.getD_none] at c3 c4 ⊢; omega | some m => exact c3) (by cases m with | none => simp | some m => simp only [Option.getD_some] at c4 ⊢; omega) c5
                    have hrun := exec_slice ho ht hsz hev hb
                    refine opRes_value h hd ?_ hrun
                    have e1 : (l.getD 0).toNat = 0 := by omega
                    have e2 : (hh.getD ((0 : Nat) : Int)).toNat - (l.getD 0).toNat = 0 := by omega
                    rw [e2, e1]
                    simp only [List.drop_nil, List.take_nil, Nat.sub_zero, Nat.zero_mul, Option.map_some]
                    have e3 : (x.add 0) = x := rfl
                    rw [e3]
                    simp only [ite_self]
                    refine .listE _ x _ ?_
                    split
                    · rename_i hm1
                      right
                      simp only [List.length_nil] at hm1
                      rw [hm1] at c3 c4 ⊢
                      simp only [Option.getD_some] at c3 c4 ⊢
                      exact ⟨by omega, trivial⟩
                    · exact .inl rfl
                  | list _ _ b q cap sz' val h0 h1 h2 h3 h4 h5 h6 =>
                    have hb := run_bounds (P := P) (w := w) (len := xs.length) (cap := cap) b1 b2 b3 c1 c2 (by cases m with | none => simp only [Option.getD_none] at c3 c4 ⊢; omega | some m => exact c3) (by cases m with | none => simp | some m => simp only [Option.getD_some] at c4 ⊢; omega) c5
                    have hrun := exec_slice ho ht hsz hev hb
                    have hlen : ((xs.drop (l.getD 0).toNat).take (hh.getD (xs.length : Int) - l.getD 0).toNat).length = (hh.getD (xs.length : Int)).toNat - (l.getD 0).toNat := by
                      rw [List.length_take, List.length_drop]; omega
                    have hmc : (m.getD (cap : Int)).toNat ≤ cap ∧ (hh.getD (xs.length : Int)).toNat ≤ (m.getD (cap : Int)).toNat := by
                      cases m with
                      | none => simp only [Option.getD_none] at c3 c4 ⊢; omega
                      | some m => simp only [Option.getD_some] at c3 c4 ⊢; omega
                    refine opRes_value h hd ?_ hrun
                    rw [← hlen]
                    have fin : ∀ o' : Nat, ((xs.drop (l.getD 0).toNat).take (hh.getD (xs.length : Int) - l.getD 0).toNat ≠ [] → o' = q + (l.getD 0).toNat * sz) →
                        Rel G (.list (if m = some (hh.getD (xs.length : Int)) then 1 else 0) ((xs.drop (l.getD 0).toNat).take (hh.getD (xs.length : Int) - l.getD 0).toNat))
                          (.slice (some ⟨b, o', none⟩) ((xs.drop (l.getD 0).toNat).take (hh.getD (xs.length : Int) - l.getD 0).toNat).length ((m.getD (cap : Int)).toNat - (l.getD 0).toNat)) := by
                      intro o' ho'
                      have hne : ∀ (k : Nat) (c : PV), (flat ((xs.drop (l.getD 0).toNat).take (hh.getD (xs.length : Int) - l.getD 0).toNat))[k]? = some c → o' = q + (l.getD 0).toNat * sz := by
                        intro k c e
                        refine ho' (fun q => ?_)
                        rw [q] at e
                        simp [flat] at e
                      have hat := fun (k : Nat) (c : PV) (e : (flat ((xs.drop (l.getD 0).toNat).take (hh.getD (xs.length : Int) - l.getD 0).toNat))[k]? = some c) => flat_slice hxw k c e
                      refine .list _ _ b o' _ sz (fun k => val ((l.getD 0).toNat * sz + k)) hs (fun y hy => hxw y (List.mem_of_mem_drop (List.mem_of_mem_take hy))) (by rw [hlen]; omega) (fun k c e => ?_) (fun k c e => h4 _ c (hat k c e)) (fun k c e => h5 _ c (hat k c e)) ?_
                      · rw [hne k c e, Nat.add_assoc]
                        exact h3 _ c (hat k c e)
                      · split
                        · rename_i hm1
                          show o' + _ * sz = o' + _ * sz
                          rw [hlen, hm1]
                          rfl
                        · exact trivial
                    by_cases hml : (m.getD (cap : Int)).toNat = (l.getD 0).toNat
                    · rw [if_pos hml]
                      refine fin q (fun hne => absurd ?_ hne)
                      apply List.eq_nil_of_length_eq_zero
                      rw [hlen]
                      omega
                    · rw [if_neg hml, Option.map_some, add_lit]
                      exact fin _ (fun _ => rfl)
                · cases hr
              · rename_i b off k z
                split at hr
                · rename_i cs hcs
                  dsimp only at hr
                  split at hr
                  · rename_i hcond
                    obtain ⟨c0, c1, c2, c3, c4, c5⟩ := hcond
                    subst c0
                    generalize hev : a.eval x = v at hrel
                    cases hrel with
                    | arr _ _ _ _ blk ce cap hbx hce hncap _ =>
                      obtain ⟨blk', ce', arr, el, g1, g2, g3, g4, g5, g6⟩ := h.sim.box b cs hcs
                      rw [hbx] at g1
                      cases g1
                      have hmul : ∀ j, off + j * z ≤ cs.length → j ≤ cap := by
                        intro j hj
                        exact Nat.le_of_mul_le_mul_right (show j * z ≤ cap * z by omega) hs
                      have hmc : (m.getD (hh.getD (k : Int))).toNat ≤ cap := hmul _ c4
                      have hb := run_bounds (P := P) (w := w) (len := k) (cap := cap) b1 b2 b3 c1 c2 (by cases m with | none => simp only [Option.getD_none] at c3 hmc ⊢; omega | some m => exact c3) (by cases m with | none => simp | some m => simp only [Option.getD_some] at c3 hmc ⊢; omega) c5
                      have hrun := exec_slice ho ht hsz hev hb
                      have hhc : (hh.getD (k : Int)).toNat ≤ cap := by omega
                      split at hr
                      · rename_i hl0
                        obtain ⟨e1, rfl⟩ := hl0
                        cases hr
                        simp only [Option.getD_none, e1, Int.toNat_zero, Nat.zero_mul, Nat.sub_zero, Int.toNat_natCast] at hrun
                        have hsame : (if cap = 0 then some (⟨blk, off, none⟩ : Addr) else (some (⟨blk, off, none⟩ : Addr)).map (·.add 0)) = some ⟨blk, off, none⟩ := by
                          split
                          · rfl
                          · rw [Option.map_some, add_lit]; rfl
                        rw [hsame] at hrun
                        exact opRes_value h hd (.arr _ _ _ _ blk ce cap hbx hce hhc hs) hrun
                      · rename_i hl0
                        split at hr
                        · rename_i hlh
                          cases hr
                          refine opRes_value h hd ?_ hrun
                          have e2 : (hh.getD (k : Int)).toNat - (l.getD 0).toNat = 0 := by omega
                          rw [e2]
                          have fin : ∀ (q : Addr) (c : Nat), q.spot = none → Rel G (.list 0 []) (.slice (some q) 0 c) := by
                            intro q c hq
                            obtain ⟨b, o, s⟩ := q
                            cases hq
                            exact .list 0 [] b o c 1 (fun _ => undef) (by omega) (by simp) (by simp) (by simp [flat]) (by simp [flat]) (by simp [flat]) trivial
                          split
                          · exact fin _ _ rfl
                          · rw [Option.map_some, add_lit]; exact fin _ _ rfl
                        · rename_i hlh
                          split at hr
                          · cases hr
                            exact opRes_value h hd (.junk _) hrun
                          · rename_i hmn
                            cases hr
                            have hm0 : m = none := by cases m with | none => rfl | some m => exact absurd rfl hmn
                            subst hm0
                            simp only [Option.getD_none, Int.toNat_natCast] at hrun
                            rw [if_neg (by omega), Option.map_some, add_lit] at hrun
                            refine opRes_value h hd ?_ hrun
                            rw [show (hh.getD (k : Int) - l.getD 0).toNat = (hh.getD (k : Int)).toNat - (l.getD 0).toNat by omega]
                            refine .arr _ _ _ _ blk ce (cap - (l.getD 0).toNat) hbx ?_ (by omega) hs
                            rw [Nat.sub_mul]
                            have : (l.getD 0).toNat * z ≤ cap * z := Nat.mul_le_mul_right _ (by omega)
                            omega
                  · cases hr
                · cases hr
              · cases hr
            · cases hr
          · cases he
        · cases he
      · cases hc
    · cases hc
  · cases hc
end
end Go.Proofs.YtkgmeeenacnhfaaGreat.Eng
namespace Go.Proofs.YtkgmeeenacnhfaaGreat.Eng
open Go
open Go.RowKit (Below)
section
variable {T : Tbl} {P : Program} {A : Ann} {N : Nat} {K : Nat → Prop} {base : Nat} {G : Ghost} {L : Nat → Option Nat} {M : List Nat} {σ σ' : AS} {a : Act} {w : World} {o : Oper} {ex : Ex} {op : AOp}

theorem rep_at {α : Type} (l : List α) : ∀ (n k : Nat), k < n * l.length → (List.replicate n l).flatten[k]? = l[k % l.length]?
  | 0, k, h => by simp at h
  | n + 1, k, h => by
    rw [List.replicate_succ, List.flatten_cons]
    rcases Nat.lt_or_ge k l.length with hk | hk
    · rw [List.getElem?_append_left hk, Nat.mod_eq_of_lt hk]
    · rw [List.getElem?_append_right hk, rep_at l n (k - l.length) (by rw [Nat.add_mul] at h; omega), ← Nat.mod_eq_sub_mod hk]
theorem rep_len {α : Type} (l : List α) (n : Nat) : (List.replicate n l).flatten.length = n * l.length := by simp
theorem zeroCells_cells {z : List PV} {x : Array Value} (h : Cells G z x.toList) (n : Nat) : Cells G (List.replicate n z).flatten (Builtin.zeroCells x n).toList := by
  have hl : x.size = z.length := by simpa using h.1
  refine ⟨by simp [Builtin.zeroCells, hl], fun k c u e1 e2 => ?_⟩
  have hk : k < n * z.length := by have := (List.getElem?_eq_some_iff.1 e1).1; rwa [rep_len] at this
  rw [rep_at z n k hk] at e1
  have hz : k % z.length < z.length := (List.getElem?_eq_some_iff.1 e1).1
  have hkx : k < n * x.size := by rw [hl]; exact hk
  simp only [Builtin.zeroCells, Array.toList_map, Array.toList_range, List.getElem?_map, List.getElem?_range hkx, Option.map_some, Option.some.injEq] at e2
  refine h.2 _ c u e1 ?_
  have hzx : k % x.size < x.size := by rw [hl]; exact hz
  rw [← hl, ← e2]
  simp [hzx]
theorem FSim.awrite (h : FSim T P A N K base G L M σ a w) {b off blk ce : Nat} (hb : G.box[b]? = some (blk, ce)) {ps : List PV} {vs : List Value} (hc : Cells G ps vs) (ha : Eng.astore σ (.ptr b off) ps = some σ') :
    ∃ w', (storeCells ⟨blk, off, none⟩ vs).run P w = .ok () w' ∧ FSim T P A N K base G L M σ' a w' ∧ Stp K base G w G w' := by
  simp only [Eng.astore] at ha
  split at ha
  · rename_i cs hcs
    split at ha
    · rename_i cs' hsp
      cases ha
      obtain ⟨blk', ce', arr, el, h1, h2, h3, h4, h5, h6⟩ := h.sim.box b cs hcs
      rw [hb] at h1
      cases h1
      obtain ⟨hlen, hle⟩ := splice_len hsp
      have hle' : off + vs.length ≤ arr.size := by rw [hc.1]; omega
      have hbase := (h.sim.ownLt blk (by simp [h2])).1
      have hsim : Sim T P base G { σ.S with boxes := σ.S.boxes.set b (some cs') } (w.setRow blk (rowOf arr off vs)) := by
        refine h.sim.writeBox hb h2 h3 (by omega) (by rw [rowOf_size hle']; exact h5) (fun k c e => ?_) (List.getElem?_eq_some_iff.1 hcs).1
        have hk : k < (rowOf arr off vs).size := by
          rw [rowOf_size hle']
          have := (List.getElem?_eq_some_iff.1 e).1
          omega
        have hall := splice_rel (G := G) (arr := arr) hsp hc.1 hle' (fun k c v e1 e2 => by
          obtain ⟨u, q1, q2, q3⟩ := h6 k c e1
          rw [e2] at q1
          cases q1
          exact ⟨q2, q3⟩) hc.2
        exact ⟨_, Array.getElem?_eq_getElem hk, hall k c _ e (Array.getElem?_eq_getElem hk)⟩
      have hst : ∀ K' : Nat → Prop, (∀ b, K' b → G.own b = .frame) → Stp K' base G w G (w.setRow blk (rowOf arr off vs)) := fun K' hk =>
        Stp.of_write hk (blk := blk) (fun q => by have := hk blk q; rw [h2] at this; cases this) hbase (by simp [World.setRow]) rfl rfl rfl (fun b hb => setRow_only w blk _ b hb)
      refine ⟨_, ?_, h.store hsim (hst _ (fun b hb => hb)), hst _ h.kOwn⟩
      have := run_storeCells_at P blk off el vs 0 arr w h3 (by simpa using hle') hc.one
      simpa [rowOf] using this
    · cases ha
  · cases ha
theorem snd_clear (h : FSim T P A N K base G L M σ a w) (hd : ∀ x, o.dst = some x → x < N) {c : Call} (ho : o.op = .call c) (hbb : c.callee = .builtin .clear) (hc : cOp P A o = some op) (he : aop T ex o.dst σ op = some σ') : OpRes T P A N K base G L M σ' a w o := by
  simp only [cOp, ho, cCall, hbb] at hc
  split at hc
  · rename_i x t hargs htys
    have e1 := arr_of_toList hargs
    have e2 := arr_of_toList htys
    split at hc
    · rename_i e ht
      split at hc
      · rename_i x' n z hx hn hz
        split at hc
        · rename_i hs
          cases hc
          obtain ⟨i, zv, hi, hzv, hzs, hzc⟩ := zeroCells_rel hz
          have hexec : (execOp a.eval o).run P w = (do pure (.value (← Builtin.clear_ #[t] o.type #[a.eval x])) : Sem Next).run P w := by
            rw [exec_builtin (P := P) (w := w) (a := a) ho hbb, e1, e2]
            simp [builtin]
          simp only [aop] at he
          split at he
          · rename_i b off k zz hxs
            split at he
            · rename_i hzz
              obtain ⟨rfl, hzl⟩ := hzz
              split at he
              · rename_i σ1 hst
                cases he
                have hr := h.aval hx hxs
                generalize hev : a.eval x = v at hr
                cases hr with
                | arr _ _ _ _ blk ce cap hbx hce hncap _ =>
                  obtain ⟨w', g1, g2, g3⟩ := h.awrite hbx (zeroCells_cells (hzc G) k) hst
                  refine ⟨.tuple #[], w', G, L, .inl ?_, g2.put hd (.tup [] #[] rfl (by simp)), g3⟩
                  rw [hexec, hev]
                  cases k with
                  | zero =>
                    simp [Builtin.zeroCells, storeCells] at g1
                    simp [Builtin.clear_, run_underlying ht, g1]
                  | succ k => simp [Builtin.clear_, run_underlying ht, zeroValue, typeInfo, hi, hzv, g1]
              · cases he
            · cases he
          · rename_i st hxs
            cases he
            have hr := h.aval hx hxs
            generalize hev : a.eval x = v at hr
            refine opRes_value h hd (.tup [] #[] rfl (by simp)) ?_
            rw [hexec, hev]
            cases hr with
            | listN => simp [Builtin.clear_, run_underlying ht]
            | listE => simp [Builtin.clear_, run_underlying ht]
            | list => simp [Builtin.clear_, run_underlying ht]
          · cases he
        · cases hc
      · cases hc
    · cases hc
  · cases hc
theorem map_range0 (f g : Nat → Value) : (Array.range 0).map f = (Array.range 0).map g := by apply Array.ext'; simp
theorem snd_makeSlice (h : FSim T P A N K base G L M σ a w) (hb : base ≤ w.heap.size) (hd : ∀ x, o.dst = some x → x < N) {t : TypeId} {l c : Operand} (ho : o.op = .makeSlice t l c) (hc : cOp P A o = some op) (he : aop T ex o.dst σ op = some σ') : OpRes T P A N K base G L M σ' a w o := by
  simp only [cOp, ho] at hc
  split at hc
  · rename_i e ht
    split at hc
    · rename_i i z l' c' hi hz hl hcc
      split at hc
      · rename_i hcond
        have hcc' : (0 < i.size ∧ i.bytes ≤ 65536) ∧ z.length = i.size := by simpa using hcond
        obtain ⟨⟨hs, hby⟩, hzl⟩ := hcc'
        clear hcond
        cases hc
        obtain ⟨i2, zv, hi2, hzv, hzs, hzc⟩ := zeroCells_rel hz
        rw [hi] at hi2
        cases hi2
        simp only [aop] at he
        split at he
        · rename_i k1 n k2 m hn hm
          split at he
          · rename_i hcond
            obtain ⟨h0, rfl, hmax, _⟩ := hcond
            cases he
            have r1 := h.aval hl hn
            have r2 := h.aval hcc hm
            generalize hev1 : a.eval l = v1 at r1
            generalize hev2 : a.eval c = v2 at r2
            cases r1
            cases r2
            have hbb : n.toNat * i.bytes ≤ 281474976710656 := by
              have h1 : n.toNat ≤ maxA := by omega
              have := Nat.mul_le_mul h1 hby
              simp only [maxA] at this
              omega
            have hcell := zeroCells_cells (hzc G) n.toNat
            have hw : IntKind.i64.wrap n = n := by
              have hmx : n ≤ 1073741824 := by simpa [maxA] using hmax
              rw [IntKind.wrap_i64]; omega
            have hbi : ((i.bytes : Int) * n) ≤ 281474976710656 := by
              have : (n.toNat : Int) = n := by omega
              rw [← this]
              have := Int.ofNat_le.2 hbb
              rw [Int.natCast_mul, Int.mul_comm] at this
              simpa using this
            have hrun : (execOp a.eval o).run P w = .ok (.value (.slice (some ⟨w.heap.size, 0, none⟩) n.toNat n.toNat)) (w.alloc (.cells (Builtin.zeroCells zv.cells n.toNat) e)) := by
              have hs' : zv.cells.size = i.size := by omega
              by_cases hn0 : n.toNat * i.size = 0
              · have hn1 : n.toNat = 0 := by rcases Nat.mul_eq_zero.1 hn0 with q | q <;> omega
                have hn2 : n = 0 := by omega
                subst hn2
                simp [execOp, ho, hev1, hev2, Instr.makeSlice, run_underlying ht, asInt, asIntOf, typeInfo, hi, sizeOf, newRow, Builtin.zeroCells, hw]
                rw [map_range0]
              · simp [execOp, ho, hev1, hev2, Instr.makeSlice, run_underlying ht, asInt, asIntOf, typeInfo, hi, sizeOf, newRow, Builtin.zeroCells, hw, h0, hzv, zeroValue, hn0, hs', show ¬ (n < 0) by omega, show ¬ (281474976710656 < (i.bytes : Int) * n) by omega]
            refine opRes_store h hd (h.sim.newBox (cs := (List.replicate n.toNat z).flatten) (ce := n.toNat * i.size) hb (by rw [rep_len, hzl]; exact Nat.le_refl _) (by rw [size_zeroCells, hzs, hzl]; exact Nat.le_refl _) (hcell.at (fun k v e => by simpa using e)))
              (Stp.of_alloc (K := KF G) h.sim (fun b hb => hb) _ hb (G.addBox_ext _ _) (fun b hb' => by simp [Ghost.addBox, Nat.ne_of_lt hb'])) ?_ (.inl hrun)
            exact .arr _ _ _ _ w.heap.size (n.toNat * i.size) n.toNat (getElem?_append_at _ _ h.sim.boxLen.symm) (by simp) (Nat.le_refl _) hs
          · cases he
        · cases he
      · cases hc
    · cases hc
  · cases hc
end
end Go.Proofs.YtkgmeeenacnhfaaGreat.Eng
namespace Go.Proofs.YtkgmeeenacnhfaaGreat.Eng
open Go
open Go.RowKit (Below)
section
variable {T : Tbl} {P : Program} {A : Ann} {N : Nat} {K : Nat → Prop} {base : Nat} {G : Ghost} {L : Nat → Option Nat} {M : List Nat} {σ σ' : AS} {a : Act} {w : World} {o : Oper} {ex : Ex} {op : AOp}

theorem born_modify {ents : Array MapEntry} {clock : Nat} (h : Born ents clock) (j : Nat) (k v : Value) : Born (ents.modify j fun e => { e with key := k, val := v }) clock := by
  have e : (ents.modify j fun e => { e with key := k, val := v }).toList.map (·.born) = ents.toList.map (·.born) := by
    apply List.ext_getElem?
    intro i
    simp only [List.getElem?_map, Array.getElem?_toList, Array.getElem?_modify]
    split
    · cases ents[i]? <;> rfl
    · rfl
  unfold Born
  rw [e]
  exact h
theorem born_push {ents : Array MapEntry} {clock : Nat} (h : Born ents clock) (k v : Value) : Born (ents.push { key := k, val := v, born := clock }) (clock + 1) := by
  unfold Born
  rw [Array.toList_push, List.map_append]
  refine ⟨fun b hb => ?_, ?_⟩
  · rcases List.mem_append.1 hb with hb | hb
    · have := h.1 b hb; omega
    · simp at hb; omega
  · refine List.nodup_append.2 ⟨h.2, by simp, fun a ha b hb => ?_⟩
    simp at hb
    have := h.1 a ha
    omega
theorem findK_key {k : IntKind} {n : Int} : ∀ {es : List (PV × PV)} (i : Nat) {j : Nat} {v : PV}, findK k n es i = some (some (j, v)) → i ≤ j ∧ es[j - i]? = some (.int k n, v)
  | [], i, j, v, h => by simp [findK] at h
  | (key, u) :: es, i, j, v, h => by
    cases key <;> simp only [findK] at h <;> try cases h
    rename_i k' n'
    split at h
    · rename_i hk
      subst hk
      split at h
      · rename_i hn
        cases h
        refine ⟨Nat.le_refl _, ?_⟩
        have : n = n' := by simpa using hn
        subst this
        simp
      · obtain ⟨h1, h2⟩ := findK_key (i + 1) h
        refine ⟨by omega, ?_⟩
        rw [show j - i = (j - (i + 1)) + 1 by omega, List.getElem?_cons_succ]
        exact h2
    · cases h
theorem snd_upd (h : FSim T P A N K base G L M σ a w) (hd : ∀ x, o.dst = some x → x < N) {t : TypeId} {m k x : Operand} (ho : o.op = .mapUpdate t m k x ∨ o.op = .insert t m k x) (hc : cOp P A o = some op) (he : aop T ex o.dst σ op = some σ') : OpRes T P A N K base G L M σ' a w o := by
  have hc' : ∃ kt e kk m' k' x', P.underlying t = some (.map kt e) ∧ P.underlying kt = some (.int kk) ∧ cOpd m = some m' ∧ cOpd k = some k' ∧ cOpd x = some x' ∧ op = .upd kk m' k' x' := by
    rcases ho with ho | ho <;> simp only [cOp, ho] at hc
    all_goals
      split at hc
      · rename_i kt e ht
        split at hc
        · rename_i kk m' k' x' hkt hm hk hx
          cases hc
          exact ⟨kt, e, kk, m', k', x', ht, hkt, hm, hk, hx, rfl⟩
        · cases hc
      · cases hc
  obtain ⟨kt, e, kk, m', k', x', ht, hkt, hm, hk, hx, rfl⟩ := hc'
  have hexec : (execOp a.eval o).run P w = (do Instr.mapUpdate t (a.eval m) (a.eval k) (a.eval x); pure .skip : Sem Next).run P w := by
    rcases ho with ho | ho <;> simp [execOp, ho]
  simp only [aop] at he
  split at he
  · rename_i mi k1 n v hmi hkn hv
    split at he
    · rename_i hkk
      subst hkk
      have r1 := h.aval hm hmi
      have r2 := h.aval hk hkn
      obtain ⟨r3, hok⟩ := h.amem hx hv
      generalize hev1 : a.eval m = e1 at r1
      generalize hev2 : a.eval k = e2 at r2
      generalize hev3 : a.eval x = e3 at r3
      cases r2
      cases r1 with
      | map _ blk hblk =>
        split at he
        · rename_i es hes
          obtain ⟨blk', ents, clock, g1, g2, g3, g4, g5, g6⟩ := h.sim.map mi es hes
          rw [hblk] at g1
          cases g1
          have hlt := (List.getElem?_eq_some_iff.1 hes).1
          have hbase := (h.sim.ownLt blk (by simp [g2])).1
          have hstp : ∀ x, Stp (KF G) base G w G (w.putObj blk x) := fun x =>
            Stp.of_write (fun b hb => hb) (blk := blk) (by simp [KF, g2]) hbase (by simp) rfl rfl rfl (fun b hb => putObj_only w blk _ b hb)
          obtain ⟨hblt, hheap⟩ := Array.getElem?_eq_some_iff.1 g3
          split at he
          · rename_i j u hf
            cases he
            obtain ⟨r', q1, q2⟩ := findNow_rel (G := G) (kk := k1) (ents := ents.toList) 0 (by simpa using g4) (fun i k v e e1 e2 => g5 i k v e e1 (by simpa using e2)) hf
            obtain ⟨_, hj⟩ := findK_key 0 hf
            rw [Nat.sub_zero] at hj
            cases r' with
            | none => exact q2.elim
            | some q =>
              obtain ⟨j', u'⟩ := q
              obtain ⟨rfl, _, _, hjl⟩ := q2
              have hjl' : j < ents.size := by omega
              have hkey : ents[j].key = .int k1 n := by
                obtain ⟨⟨kk, n', e1, e2⟩, _⟩ := g5 j _ _ ents[j] hj (by simp [hjl'])
                cases e1
                exact e2
              refine opRes_store h hd (h.sim.writeMap (ents' := ents.modify j fun e => { e with key := .int k1 n, val := e3 }) (clock' := clock) hblk g2 g3 (by simp [g4]) (fun i k v' e h1 h2 => ?_) hlt (born_modify g6 j _ _)) (hstp _) .undef (.inr ⟨?_, rfl⟩)
              · by_cases hij : j = i
                · subst hij
                  have hel : j < es.length := by omega
                  rw [List.getElem?_set_self hel] at h1
                  cases h1
                  rw [Array.getElem?_modify] at h2
                  simp [hjl'] at h2
                  subst h2
                  exact ⟨⟨k1, n, rfl, rfl⟩, strip_rel r3⟩
                · rw [List.getElem?_set_ne hij] at h1
                  rw [Array.getElem?_modify, if_neg hij] at h2
                  exact g5 i k v' e h1 h2
              · rw [hexec, hev1, hev2, hev3]
                simp only [Instr.mapUpdate, Sem.run_bind, run_underlying ht, Result.andThen_ok]
                simp only [getObj, Sem.run, g3, Sem.run_bind, Sem.run_pure, Result.andThen_ok]
                simp only [run_checkKey_int' hkt, Result.andThen_ok, Instr.findKey, Sem.run_bind, run_underlying hkt, q1, Sem.run_pure]
                simp [Instr.keyThatStays, hjl', hkey, Instr.sameBits, setObj, Sem.run, hblt, hheap, World.putObj]
          · rename_i hf
            cases he
            obtain ⟨r', q1, q2⟩ := findNow_rel (G := G) (kk := k1) (ents := ents.toList) 0 (by simpa using g4) (fun i k v e e1 e2 => g5 i k v e e1 (by simpa using e2)) hf
            cases r' with
            | some q => exact q2.elim
            | none =>
              refine opRes_store h hd (h.sim.writeMap (ents' := ents.push { key := .int k1 n, val := e3, born := clock }) (clock' := clock + 1) hblk g2 g3 (by simp [g4]) (fun i k v' e h1 h2 => ?_) hlt (born_push g6 _ _)) (hstp _) .undef (.inr ⟨?_, rfl⟩)
              · rcases getElem?_append_some h1 with q3 | ⟨q3, q4⟩
                · have := (List.getElem?_eq_some_iff.1 q3).1
                  rw [Array.getElem?_push, if_neg (by omega)] at h2
                  exact g5 i k v' e q3 h2
                · rw [q3, ← g4, Array.getElem?_push, if_pos rfl] at h2
                  cases q4
                  cases h2
                  exact ⟨⟨k1, n, rfl, rfl⟩, strip_rel r3⟩
              · rw [hexec, hev1, hev2, hev3]
                simp only [Instr.mapUpdate, Sem.run_bind, run_underlying ht, Result.andThen_ok]
                simp only [getObj, Sem.run, g3, Sem.run_bind, Sem.run_pure, Result.andThen_ok]
                simp only [run_checkKey_int' hkt, Result.andThen_ok, Instr.findKey, Sem.run_bind, run_underlying hkt, q1, Sem.run_pure]
                simp [setObj, Sem.run, hblt, hheap, World.putObj]
          · cases he
        · cases he
    · cases he
  · cases he

/-! ### Composite values -/
theorem set_rowOf (off : Nat) (v cells : Array Value) (h : off + v.size ≤ cells.size) : v.zipIdx.foldl (fun cs (c, j) => cs.setIfInBounds (off + j) c) cells = rowOf cells off v.toList := by
  have e1 : v.zipIdx.foldl (fun cs (c, j) => cs.setIfInBounds (off + j) c) cells = (v.toList.zipIdx 0).foldl (fun cs (x : Value × Nat) => cs.setIfInBounds (off + x.2) x.1) cells := by
    rw [← Array.foldl_toList, Array.toList_zipIdx]
  obtain ⟨h1, h2⟩ := Go.Great.foldl_set off v.toList 0 cells
  rw [e1]
  apply Array.ext_getElem?
  intro k
  rw [h2 k, rowOf_at (by simpa using h)]
  simp only [Nat.add_zero, Array.length_toList]
  by_cases hk : k < off
  · rw [if_pos hk, if_neg (by omega)]
  · rw [if_neg hk]
    by_cases hk2 : k < off + v.size
    · rw [if_pos hk2, if_pos (by omega)]
    · rw [if_neg hk2, if_neg (by omega)]
/-- Parts filled in, with a relation of the target's cells. -/
theorem fill_rel (h : FSim T P A N K base G L M σ a w) {place : Nat → Option (Nat × Nat)} : ∀ {parts : List (Nat × Operand)} {qs : List (Nat × Nat × Opd)} {cs cs' : List PV} {arr : Array Value}, cParts P place parts = some qs → fillP σ cs qs = some cs' → Cells G cs arr.toList →
    ∃ arr', Instr.fill place arr (parts.map fun (i, x) => (i, a.eval x)) = some arr' ∧ Cells G cs' arr'.toList
  | [], qs, cs, cs', arr, hc, hf, hr => by
    cases hc
    cases hf
    exact ⟨arr, rfl, hr⟩
  | (i, x) :: parts, qs, cs, cs', arr, hc, hf, hr => by
    simp only [cParts] at hc
    split at hc
    · rename_i off sz y q hp hx hq
      cases hc
      simp only [fillP] at hf
      split at hf
      · cases hf
      · rename_i v hv
        split at hf
        · rename_i hsz
          split at hf
          · rename_i cs1 hsp
            obtain ⟨g1, g2⟩ := h.amem hx hv
            obtain ⟨k1, k2⟩ := rel_cells g2 g1
            obtain ⟨hlen, hle⟩ := splice_len hsp
            have hrl : arr.size = cs.length := by simpa using hr.1
            have hle' : off + (a.eval x).cells.size ≤ arr.size := by rw [k1, hrl]; exact hle
            have hset := set_rowOf off (a.eval x).cells arr hle'
            have hr1 : Cells G cs1 (rowOf arr off (a.eval x).cells.toList).toList := by
              refine ⟨?_, fun k c u e1 e2 => ?_⟩
              · have := rowOf_size (arr := arr) (off := off) (vs := (a.eval x).cells.toList) (by simpa using hle')
                simp only [Array.length_toList, this, hrl, hlen]
              · exact splice_rel hsp (by rw [Array.length_toList]; exact k1) (by simpa using hle') (fun k c v e1 e2 => hr.2 k c v e1 (by simpa using e2)) (fun k c v e1 e2 => k2 k c v e1 (by simpa using e2)) k c u e1 (by simpa using e2)
            obtain ⟨arr', q1, q2⟩ := fill_rel h hq hf hr1
            refine ⟨arr', ?_, q2⟩
            simp only [List.map_cons, Instr.fill, hp]
            rw [if_neg (by simp; omega), hset]
            exact q1
          · cases hf
        · cases hf
    · cases hc
theorem cells_agg {cs : List PV} {arr : Array Value} (h : Cells G cs arr.toList) : Rel G (.agg cs) (.agg arr) := by
  have hl : arr.size = cs.length := by simpa using h.1
  refine .agg _ _ hl (fun k v e => ?_) (fun k c v e1 e2 => (h.2 k c v e1 (by simpa using e2)).2)
  have hk : k < cs.length := by rw [← hl]; exact (Array.getElem?_eq_some_iff.1 e).1
  exact (h.2 k cs[k] v (by simp [hk]) (by simpa using e)).1
theorem placesOf_mapM : ∀ {fs : List Field} {ps : List (Nat × Nat)}, placesOf P fs = some ps → fs.mapM (fun f => (P.info? f.type).map fun i => (f.offset, i.size)) = some ps
  | [], ps, h => by cases h; rfl
  | f :: fs, ps, h => by
    simp only [placesOf] at h
    split at h
    · rename_i i qs hi hq
      cases h
      simp [List.mapM_cons, hi, placesOf_mapM hq]
    · cases h
theorem map_parts {parts : Array (Nat × Operand)} (f : Operand → Value) : (parts.map fun (i, x) => (i, f x)).toList = parts.toList.map fun (i, x) => (i, f x) := by simp
theorem snd_build (h : FSim T P A N K base G L M σ a w) (hd : ∀ x, o.dst = some x → x < N) {t : TypeId} {parts : Array (Nat × Operand)} (ho : o.op = .build t parts) (hc : cOp P A o = some op) (he : aop T ex o.dst σ op = some σ') : OpRes T P A N K base G L M σ' a w o := by
  simp only [cOp, ho] at hc
  split at hc
  · rename_i fs z ht hz
    split at hc
    · rename_i ps hps
      split at hc
      · rename_i q hq
        cases hc
        simp only [aop] at he
        split at he
        · rename_i cs hcs
          cases he
          obtain ⟨i, zv, hi, hzv, hzs, hzc⟩ := zeroCells_rel hz
          obtain ⟨arr, g1, g2⟩ := fill_rel h hq hcs (hzc G)
          refine opRes_value h hd (cells_agg g2) ?_
          have hg : Instr.fill (fun i => ps[i]?) zv.cells (List.map (fun x => (x.1, a.eval x.2)) parts.toList) = some arr := g1
          simp [execOp, ho, Instr.build, zeroValue, typeInfo, hi, hzv, run_underlying ht, Array.mapM_eq_mapM_toList, run_places w _ _ (placesOf_mapM hps), hg]
        · cases he
      · cases hc
    · cases hc
  · rename_i n e z ht hz
    split at hc
    · rename_i m hm
      split at hc
      · rename_i q hq
        cases hc
        simp only [aop] at he
        split at he
        · rename_i cs hcs
          cases he
          obtain ⟨i, zv, hi, hzv, hzs, hzc⟩ := zeroCells_rel hz
          obtain ⟨arr, g1, g2⟩ := fill_rel h hq hcs (hzc G)
          refine opRes_value h hd (cells_agg g2) ?_
          have hg : Instr.fill (fun i => some (i * m, m)) zv.cells (List.map (fun x => (x.1, a.eval x.2)) parts.toList) = some arr := g1
          simp [execOp, ho, Instr.build, zeroValue, typeInfo, hi, hzv, run_underlying ht, szOf_size hm, hg]
        · cases he
      · cases hc
    · cases hc
  · cases hc
end
end Go.Proofs.YtkgmeeenacnhfaaGreat.Eng
namespace Go.Proofs.YtkgmeeenacnhfaaGreat.Eng
open Go
open Go.RowKit (Below)
section
variable {T : Tbl} {P : Program} {A : Ann} {N : Nat} {K : Nat → Prop} {base : Nat} {G : Ghost} {L : Nat → Option Nat} {M : List Nat} {σ σ' : AS} {a : Act} {w : World} {o : Oper} {ex : Ex} {op : AOp}

theorem flat_set {sz i : Nat} {es : List PV} {x : PV} (hw : ∀ y ∈ es, y.cells.length = sz) (hi : i < es.length) (hx : x.cells.length = sz) : splice (flat es) (i * sz) x.cells = some (flat (es.set i x)) := by
  have hfl := flat_length hw
  have hle : i * sz + x.cells.length ≤ (flat es).length := by
    rw [hfl, hx]
    have : (i + 1) * sz ≤ es.length * sz := Nat.mul_le_mul_right _ hi
    rw [Nat.add_mul] at this
    omega
  unfold splice
  rw [if_pos hle, List.set_eq_take_append_cons_drop, if_pos hi, flat_append, flat_take i hw, hx]
  have e1 : flat (x :: es.drop (i + 1)) = x.cells ++ flat (es.drop (i + 1)) := rfl
  rw [e1, flat_drop (i + 1) hw, Nat.add_mul, Nat.one_mul, List.append_assoc]
theorem fillS_rel (h : FSim T P A N K base G L M σ a w) {sz : Nat} : ∀ {parts : List (Nat × Operand)} {qs : List (Nat × Opd)} {es es' : List PV} {arr : Array Value}, cElems parts = some qs → fillS σ sz es qs = some es' → (∀ y ∈ es, y.cells.length = sz) → (∀ c ∈ flat es, nostC c = true) → Cells G (flat es) arr.toList →
    ∃ arr', Instr.fill (fun i => some (i * sz, sz)) arr (parts.map fun (i, x) => (i, a.eval x)) = some arr' ∧ Cells G (flat es') arr'.toList ∧ (∀ y ∈ es', y.cells.length = sz) ∧ (∀ c ∈ flat es', nostC c = true) ∧ es'.length = es.length
  | [], qs, es, es', arr, hc, hf, hw, hn, hr => by
    cases hc
    cases hf
    exact ⟨arr, rfl, hr, hw, hn, rfl⟩
  | (i, x) :: parts, qs, es, es', arr, hc, hf, hw, hn, hr => by
    simp only [cElems] at hc
    split at hc
    · rename_i y q hx hq
      cases hc
      simp only [fillS] at hf
      split at hf
      · cases hf
      · rename_i v hv
        split at hf
        · rename_i hsz
          obtain ⟨hsz, hi⟩ := hsz
          obtain ⟨g1, g2⟩ := h.amem hx hv
          obtain ⟨k1, k2⟩ := rel_cells g2 g1
          have hss : (strip v).cells.length = sz := by rw [strip_cells, List.length_map]; exact hsz
          have hsp := flat_set hw hi hss
          obtain ⟨hlen, hle⟩ := splice_len hsp
          have hrl : arr.size = (flat es).length := by simpa using hr.1
          have hle' : i * sz + (a.eval x).cells.size ≤ arr.size := by rw [k1, hrl]; omega
          have hset := set_rowOf (i * sz) (a.eval x).cells arr hle'
          have hcell : ∀ (k : Nat) (c : PV) (u : Value), (strip v).cells[k]? = some c → (a.eval x).cells.toList[k]? = some u → u.oneCell' = true ∧ Rel G c u := by
            intro k c u e1 e2
            rw [strip_cells, List.getElem?_map, Option.map_eq_some_iff] at e1
            obtain ⟨c', e1, rfl⟩ := e1
            have := k2 k c' u e1 (by simpa using e2)
            exact ⟨this.1, strip1_rel this.2⟩
          have hr1 : Cells G (flat (es.set i (strip v))) (rowOf arr (i * sz) (a.eval x).cells.toList).toList := by
            refine ⟨?_, fun k c u e1 e2 => ?_⟩
            · have := rowOf_size (arr := arr) (off := i * sz) (vs := (a.eval x).cells.toList) (by simpa using hle')
              simp only [Array.length_toList, this, hrl, hlen]
            · exact splice_rel hsp (by rw [Array.length_toList, k1, hss, hsz]) (by simpa using hle') (fun k c v e1 e2 => hr.2 k c v e1 (by simpa using e2)) hcell k c u e1 (by simpa using e2)
          obtain ⟨arr', q1, q2, q3, q4, q5⟩ := fillS_rel h hq hf (fun y hy => by
            rcases List.mem_or_eq_of_mem_set hy with hy | rfl
            · exact hw y hy
            · exact hss) (fun c hc => by
            obtain ⟨k, hk, e⟩ := List.getElem_of_mem hc
            have := splice_at hsp k
            rw [List.getElem?_eq_getElem hk, e] at this
            have hst : ∀ c ∈ (strip v).cells, nostC c = true := fun c hc => by
              rw [strip_cells] at hc
              obtain ⟨d, _, rfl⟩ := List.mem_map.1 hc
              exact nostC_strip1 d
            split at this
            · exact hn c (List.mem_of_getElem? this.symm)
            · split at this
              · exact hst c (List.mem_of_getElem? this.symm)
              · exact hn c (List.mem_of_getElem? this.symm)) hr1
          refine ⟨arr', ?_, q2, q3, q4, by simpa using q5⟩
          simp only [List.map_cons, Instr.fill]
          rw [if_neg (by simp; omega), hset]
          exact q1
        · cases hf
    · cases hc
theorem flat_replicate (x : PV) : ∀ n, flat (List.replicate n x) = (List.replicate n x.cells).flatten
  | 0 => rfl
  | n + 1 => by simp [List.replicate_succ, flat, flat_replicate x n]
theorem snd_buildSlice (h : FSim T P A N K base G L M σ a w) (hb : base ≤ w.heap.size) (hd : ∀ x, o.dst = some x → x < N) {t : TypeId} {n : Nat} {parts : Array (Nat × Operand)} (ho : o.op = .buildSlice t n parts) (hc : cOp P A o = some op) (he : aop T ex o.dst σ op = some σ') : OpRes T P A N K base G L M σ' a w o := by
  simp only [cOp, ho] at hc
  split at hc
  · rename_i e ht
    split at hc
    · rename_i k z q hk hz hq
      split at hc
      · rename_i hcond
        have hcc : (0 < k ∧ z.length = k) ∧ n * k ≤ 16777216 := by simpa using hcond
        obtain ⟨⟨hs, hzl⟩, hmax⟩ := hcc
        clear hcond
        cases hc
        simp only [aop] at he
        split at he
        · rename_i es hes
          cases he
          obtain ⟨i, zv, hi, hzv, hzs, hzc⟩ := zeroCells_rel hz
          have hki : i.size = k := by simpa [szOf, hi] using hk
          have hz0 : (if k = 1 then strip1 (z.headD .undef) else PV.agg (z.map strip1)).cells = z.map strip1 := by
            split
            · rename_i h1
              subst h1
              match z, hzl, hzc with
              | [c], _, hzc =>
                have := hzc G
                have hl : 0 < zv.cells.toList.length := by rw [this.1]; simp
                obtain ⟨g1, g2⟩ := this.2 0 c zv.cells.toList[0] rfl (by simp [hl])
                exact cells_of_one g1 (strip1_rel g2)
            · rfl
          have hc0 : Cells G (flat (List.replicate n (if k = 1 then strip1 (z.headD .undef) else PV.agg (z.map strip1)))) (Builtin.zeroCells zv.cells n).toList := by
            rw [flat_replicate, hz0]
            exact zeroCells_cells ((hzc G).strip) n
          obtain ⟨arr, g1, g2, g3, g4, g5⟩ := fillS_rel h hq hes (fun y hy => by rw [List.eq_of_mem_replicate hy, hz0, List.length_map]; exact hzl) (fun c hc => by
            rw [flat_replicate, hz0] at hc
            obtain ⟨l, hl, hc⟩ := List.mem_flatten.1 hc
            rw [List.eq_of_mem_replicate hl] at hc
            obtain ⟨d, _, rfl⟩ := List.mem_map.1 hc
            exact nostC_strip1 d) hc0
          rw [List.length_replicate] at g5
          have hrun : (execOp a.eval o).run P w = .ok (.value (.slice (some ⟨w.heap.size, 0, none⟩) n n)) (w.alloc (.cells arr e)) := by
            have hg : Instr.fill (fun i => some (i * k, k)) (Builtin.zeroCells zv.cells n) (List.map (fun x => (x.1, a.eval x.2)) parts.toList) = some arr := g1
            have hs' : zv.cells.size = k := by omega
            by_cases hn0 : n * k = 0
            · have : ∀ f : Nat → Value, (Array.range (n * k)).map f = Builtin.zeroCells zv.cells n := by
                intro f
                simp only [Builtin.zeroCells, hs', hn0]
                exact map_range0 _ _
              simp [execOp, ho, Instr.buildSlice, run_underlying ht, szOf_size hk, newRow, hn0]
              rw [hn0] at this
              simp [this, hg]
            · have hz' : (Array.range (n * k)).map (fun x => zv.cells[x % k]!) = Builtin.zeroCells zv.cells n := by simp only [Builtin.zeroCells, hs']
              simp [execOp, ho, Instr.buildSlice, run_underlying ht, szOf_size hk, newRow, hn0, zeroValue, typeInfo, hi, hzv, hs', hz', hg, show ¬ (16777216 < n * k) by omega]
          obtain ⟨hsim, hext⟩ := h.sim.newImm hb arr e
          refine opRes_store (S' := σ.S) h hd hsim (Stp.of_alloc (K := KF G) h.sim (fun b hb => hb) _ hb hext (fun b _ => rfl)) ?_ (.inl hrun)
          have hal : arr.size = n * k := by
            have := g2.1
            rw [flat_length g3, g5] at this
            simpa using this
          have fin := rel_list_of (G := G.addImm w.heap.size 0 arr.size (fun k => arr.getD k undef)) (st := 1) (xs := es) (b := w.heap.size) (o := 0) (cap := n) (sz := k) (vs := arr.toList) hs g3 (by omega) (g2.ext hext) g4
            (fun j v e => by
              have hj : j < arr.size := by have := (List.getElem?_eq_some_iff.1 e).1; simpa using this
              refine (Ghost.addImm_at (G := G) hj).trans ?_
              congr 1
              have : arr[j]? = some v := by simpa using e
              rw [Array.getD_eq_getD_getElem?, this, Option.getD_some]) (show 0 + es.length * k = 0 + n * k by rw [g5])
          rw [g5] at fin
          exact fin
        · cases he
      · cases hc
    · cases hc
  · cases hc

/-- All operations but calls and deferrals. -/
theorem snd_plain (h : FSim T P A N K base G L M σ a w) (hb : base ≤ w.heap.size) (hd : ∀ x, o.dst = some x → x < N) (hc : cOp P A o = some op) (hp : ∀ f xs, op ≠ .call f xs) (hq : ∀ f xs, op ≠ .callv f xs) (hr : ∀ f xs, op ≠ .defr f xs) (he : aop T ex o.dst σ op = some σ') : OpRes T P A N K base G L M σ' a w o := by
  cases ho : o.op with
  | move x => exact snd_move h hd (.inl ho) hc he
  | assign x => exact snd_move h hd (.inr ho) hc he
  | pick x y z => exact snd_pick h hd ho hc he
  | alloc e => exact snd_alloc h hb hd ho hc he
  | box e x => exact snd_box h hb hd ho hc he
  | build t ps => exact snd_build h hd ho hc he
  | buildSlice t n ps => exact snd_buildSlice h hb hd ho hc he
  | load t x => exact snd_load h hd ho hc he
  | store t x y => exact snd_store h ho hc he
  | nilCheck x => exact snd_nilc h hd ho hc he
  | binOp b t x y t' => exact snd_binOp h hd ho hc he
  | unOp u t x => exact snd_un h hd ho hc he
  | convert s t x => exact snd_conv h hd ho hc he
  | makeFunc fn first cap => exact snd_makeFunc h hd ho hc he
  | makeMap t r =>
    cases r with
    | none => exact snd_makeMap h hb hd ho hc he
    | some r => simp [cOp, ho] at hc
  | makeSlice t l c => exact snd_makeSlice h hb hd ho hc he
  | slice t x lo hi mx => exact snd_slice h hd ho hc he
  | fieldAddr s x i => exact snd_faddr h hd ho hc he
  | indexAddr t x i => exact snd_iaddr h hd ho hc he
  | index t x i => exact snd_index h hd ho hc he
  | lookup t m k ok => exact snd_lookup h hd ho hc he
  | mapUpdate t m k x => exact snd_upd h hd (.inl ho) hc he
  | insert t m k x => exact snd_upd h hd (.inr ho) hc he
  | extract x i => exact snd_extract h hd ho hc he
  | call c =>
    simp only [cOp, ho] at hc
    cases hcc : c.callee with
    | value x =>
      exfalso
      simp only [cCall, hcc] at hc
      cases x <;> simp only at hc <;> repeat' (split at hc)
      all_goals first | (cases hc; done) | (cases hc; exact absurd rfl (hp _ _)) | (cases hc; exact absurd rfl (hq _ _))
    | invoke r n => simp [cCall, hcc] at hc
    | builtin b =>
      cases b
      case len => exact snd_len h hd ho hcc (by simpa only [cOp, ho] using hc) he
      case append => exact snd_append h hb hd ho hcc (by simpa only [cOp, ho] using hc) he
      case max => exact snd_max h hd ho hcc (by simpa only [cOp, ho] using hc) he
      case clear => exact snd_clear h hd ho hcc (by simpa only [cOp, ho] using hc) he
      all_goals simp [cCall, hcc] at hc
  | defer c =>
    exfalso
    simp only [cOp, ho] at hc
    repeat' (split at hc)
    all_goals first | (cases hc; done) | (cases hc; exact absurd rfl (hr _ _))
  | _ => simp [cOp, ho] at hc
end
end Go.Proofs.YtkgmeeenacnhfaaGreat.Eng
