/- At every tree that, counted out, holds at most 1048576 values, the law of needs returns true, and the tree reads behind the call as it read before. Its condition is the statement's own: the bulk of what it reads is at most 1048576. -/
import Derived.Test.YtkgmeeenacnhfaaGreatRows
import Derived.WalkKit
import Derived.ProofKit
import Derived.OpenShut
import Derived.JoinedCond
import Derived.Carry
import Derived.Test.YtkgmeeenacnhfaaGreatNdF
import Derived.Test.YtkgmeeenacnhfaaGreatNdK
import Derived.Test.YtkgmeeenacnhfaaGreatNdN
set_option linter.unusedVariables false
set_option linter.unusedSimpArgs false
namespace Go.Proofs.YtkgmeeenacnhfaaGreat.Eng
open Go
open Go.ChangeShapes Go.WideShapes Go.ChangeAt Go.RowKit
section
variable {H : Type} {P : Program} {w : World}
theorem top_rel {base : Nat} {t : TypeId} {v : Value} {p : PV} (hv : Value.okWide P w .any base t v) (ho : Opens P w t v.cells.toList p) : Rel (G0 w) p v := by
  have one : p.cells = [p] → v.cells = #[v] → Rel (G0 w) p v := fun h1 h2 => (ho.rel 0 p v (by rw [h1]; rfl) (by rw [h2]; rfl)).2.2
  have str : ∀ cs, v = .agg cs → ∀ ps, p = .agg ps → Rel (G0 w) p v := by
    rintro cs rfl ps rfl
    have hl := ho.len
    refine .agg ps cs (by simpa [PV.cells, Value.cells] using hl.symm) (fun k u hu => ?_) (fun k c u h1 h2 => (ho.rel k c u h1 (by simpa [Value.cells] using h2)).2.2)
    have hk := (Array.getElem?_eq_some_iff.1 hu).1
    have hk2 : k < ps.length := by
      have : ps.length = cs.size := by simpa [PV.cells, Value.cells] using hl
      omega
    exact (ho.rel k ps[k] u (by simp [PV.cells, hk2]) (by simpa [Value.cells] using hu)).1
  have plain : (∀ fs, P.underlying t ≠ some (.struct fs)) → (∀ n e, P.underlying t ≠ some (.array n e)) → ∀ td, P.underlying t = some td → (∀ cs, ¬ Cell.okWide P w .any base t (.agg cs)) → Rel (G0 w) p v := by
    intro h1 h2 td htd hno
    refine one (cells_one ho.ty h1 h2) ?_
    have hc : Cell.okWide P w .any base t v := by
      unfold Value.okWide at hv
      split at hv
      · rename_i fs e; exact absurd e (h1 _)
      · rename_i n e q; exact absurd q (h2 _ _)
      · exact hv
    cases v <;> first | rfl | exact absurd hc (hno _)
  cases ho.ty with
  | int h => exact plain (fun fs e => by rw [h] at e; cases e) (fun n e q => by rw [h] at q; cases q) _ h (fun cs hc => by simp [Cell.okWide, Cell.ok, h] at hc)
  | bool h => exact plain (fun fs e => by rw [h] at e; cases e) (fun n e q => by rw [h] at q; cases q) _ h (fun cs hc => by simp [Cell.okWide, Cell.ok, h] at hc)
  | str h => exact plain (fun fs e => by rw [h] at e; cases e) (fun n e q => by rw [h] at q; cases q) _ h (fun cs hc => by simp [Cell.okWide, Cell.ok, h] at hc)
  | list h => exact plain (fun fs e => by rw [h] at e; cases e) (fun n e q => by rw [h] at q; cases q) _ h (fun cs hc => by simp [Cell.okWide, Cell.ok, h] at hc)
  | struct h =>
    unfold Value.okWide at hv
    rw [h] at hv
    obtain ⟨cs, hcs, _⟩ := hv
    exact str cs hcs _ rfl
  | array h =>
    unfold Value.okWide at hv
    rw [h] at hv
    obtain ⟨cs, hcs, _⟩ := hv
    exact str cs hcs _ rfl
/-- What a run of the engine says of the call. -/
theorem run_calls {T : Tbl} (ht : TOK T P) {n : Nat} {f : FuncId} {ps : List PV} {r : PV} {S' : Store} (hr : callS T (exn T n) f ps {} = some (r, S')) {vs : Array Value} (ha : Args (G0 w) ps vs) :
    Calls P f vs w fun e w' => ∃ v G', e = .returned v ∧ Rel G' r v ∧ Below w.heap.size w w' := by
  have := (callOK_of (code_all ht (draw_ok ht) n n (Nat.le_refl _)).1 ht) hr (simP (T := T) (P := P) (w := w) (imm := fun b o => w.cell? ⟨b, o, none⟩) (fun _ _ _ h => h)) (Nat.le_refl _) ha (k := 0)
  refine (callsIn_wide.1 this).mono fun e w' he => ?_
  cases e with
  | returned v =>
    obtain ⟨G', _, h2, h3⟩ := he
    exact ⟨v, G', rfl, h3, h2.below⟩
  | panicked c => exact he.elim
  | outgrown => exact he.elim
end
theorem laid : laidOutB Tryz.prog = true := by kernel_rfl
set_option maxRecDepth 100000 in
/-- A law of one argument. -/
theorem contract1 {s : ChangeSpec} (hvars : s.vars = []) (hfn : ∀ (H : Type) (d : DataW H), s.fn H [d] = { results := [.lit (.bool true)], args := [d] }) {f : FuncId} {fn : Func} {t : TypeId} {ts : List TypeId}
    (hp : fn.params = #[t]) (hres : fn.resultTypes = #[4]) (hread : Tryz.prog.readableRec t = true) (hrow : t < Tryz.prog.types.size) (hok : okTys Tryz.prog ts = true) (hmem : ts.contains t = true) {N : Nat}
    (run : ∀ p, TyV Tryz.prog t p → PV.sz p ≤ N → ∃ (T : Tbl) (n : Nat) (S' : Store), TOK T Tryz.prog ∧ callS T (exn T n) f [p] {} = some (.bool true, S'))
    (H : Type) (enc : TypeId × Value → H) (W : World) (base : Nat) (args : Array Value) (ds gs : List (DataW H)) (before : List MemPlace)
    (hval : ∀ (j : Nat) t v, fn.params[j]? = some t → args[j]? = some v → Value.okWide Tryz.prog W .any base t v)
    (hW : DataW.Whole enc Tryz.prog fn.params.toList s.vars false W args.toList ds gs before) (hk : ∀ d, ds = [d] → PV.sz (pvD d) ≤ N) :
    Calls Tryz.prog f args W fun e W' => ∃ v, e = .returned v ∧ s.post enc Tryz.prog fn false true false false W args v W' := by
  have hW' := hW
  obtain ⟨p, q, hA, hV, rfl, hfz, hnd⟩ := hW
  rw [hvars] at hV
  obtain ⟨rfl, rfl⟩ := trodVars_none hV
  have hpl : fn.params.toList = [t] := by rw [hp]
  rw [hpl] at hA
  obtain ⟨v0, vs0, d0, ds0, p0, q0, hargs, rfl, rfl, h0, r0⟩ := trodAll_cons hA
  obtain ⟨rfl, rfl, rfl⟩ := trodAll_nil r0
  obtain rfl : args = #[v0] := by cases args; simp_all
  have hv0 := hval 0 t v0 (by rw [hp]; rfl) rfl
  have ho : Opens Tryz.prog W t v0.cells.toList (pvD d0) := by
    obtain ⟨fuel, hf⟩ := h0
    exact open_all hok fuel t _ _ _ hmem hf
  obtain ⟨T, n, S', htok, hrun⟩ := run (pvD d0) ho.ty (hk d0 rfl)
  have hlt : ∀ x ∈ p0, x.block < W.heap.size := fun x hx => by simpa using hW'.lt x (by simp [hx])
  refine (run_calls htok hrun (vs := #[v0]) ⟨rfl, fun k c u h1 h2 => ?_⟩).mono fun e W' he => ?_
  · cases k with
    | zero => simp at h1 h2; subst h1 h2; exact top_rel hv0 ho
    | succ k => simp at h1
  · obtain ⟨v, G', rfl, hrel, hbl⟩ := he
    cases hrel
    refine ⟨_, rfl, _, _, _, [], p0 ++ [], [], hW', ?_, ?_, ?_, hbl.frame _, fun h => by cases h⟩
    · have e1 : (s.fn H ([d0] ++ [])).results = [.lit (.bool true)] := by rw [List.append_nil, hfn]
      rw [e1, hres]
      exact trodAll_cons_mk (shut_bool Tryz.underlying4 _) trodAll_mk0
    · have e1 : (s.fn H ([d0] ++ [])).args = [d0] := by rw [List.append_nil, hfn]
      rw [e1, hpl]
      exact trodAll_cons_mk (RowKit.Below.trod laid hread hrow h0 hbl hlt) trodAll_mk0
    · have e1 : (s.fn H ([d0] ++ [])).vars = [] := by rw [List.append_nil, hfn]
      rw [e1, hvars]
      rfl
end Go.Proofs.YtkgmeeenacnhfaaGreat.Eng
namespace Go.Proofs.YtkgmeeenacnhfaaGreat.needs
open Go Go.Proofs.YtkgmeeenacnhfaaGreat.Eng
open Go.ChangeShapes Go.WideShapes Go.ChangeAt Go.RowKit
theorem inv_int {P : Program} {t : TypeId} {p : PV} {k : IntKind} (h : TyV P t p) (hu : P.underlying t = some (.int k)) : ∃ n, p = .int k n := by
  cases h with
  | int h => rw [hu] at h; cases h; exact ⟨_, rfl⟩
  | bool h => rw [hu] at h; cases h
  | str h => rw [hu] at h; cases h
  | list h => rw [hu] at h; cases h
  | struct h => rw [hu] at h; cases h
  | array h => rw [hu] at h; cases h
theorem inv_list {P : Program} {t e : TypeId} {p : PV} (h : TyV P t p) (hu : P.underlying t = some (.slice e)) : ∃ xs, p = .list 0 xs ∧ ∀ x ∈ xs, TyV P e x := by
  cases h with
  | int h => rw [hu] at h; cases h
  | bool h => rw [hu] at h; cases h
  | str h => rw [hu] at h; cases h
  | list h hx => rw [hu] at h; cases h; exact ⟨_, rfl, hx⟩
  | struct h => rw [hu] at h; cases h
  | array h => rw [hu] at h; cases h
theorem inv_struct {P : Program} {t : TypeId} {p : PV} {fs : Array Field} (h : TyV P t p) (hu : P.underlying t = some (.struct fs)) : ∃ vs, p = .agg (flat vs) ∧ vs.length = fs.toList.length ∧ ∀ (i : Nat) (f : Field) (v : PV), fs.toList[i]? = some f → vs[i]? = some v → TyV P f.type v := by
  cases h with
  | int h => rw [hu] at h; cases h
  | bool h => rw [hu] at h; cases h
  | str h => rw [hu] at h; cases h
  | list h => rw [hu] at h; cases h
  | struct h hl hx => rw [hu] at h; cases h; exact ⟨_, rfl, hl, hx⟩
  | array h => rw [hu] at h; cases h
theorem inv_array {P : Program} {t e : TypeId} {p : PV} {n : Nat} (h : TyV P t p) (hu : P.underlying t = some (.array n e)) : ∃ vs, p = .agg (flat vs) ∧ vs.length = n ∧ ∀ v ∈ vs, TyV P e v := by
  cases h with
  | int h => rw [hu] at h; cases h
  | bool h => rw [hu] at h; cases h
  | str h => rw [hu] at h; cases h
  | list h => rw [hu] at h; cases h
  | struct h => rw [hu] at h; cases h
  | array h hl hx => rw [hu] at h; cases h; exact ⟨_, rfl, hl, hx⟩
theorem inv_atom {p : PV} (h : TyV Tryz.prog 28 p) : ∃ a b c0 c1 c2 c3 : Int, p = .agg [.int .i64 a, .int .i64 b, .int .u32 c0, .int .u32 c1, .int .u32 c2, .int .u32 c3] := by
  obtain ⟨vs, rfl, hl, hx⟩ := inv_struct h Tryz.underlying28
  match vs, hl, hx with
  | [v0, v1, v2], _, hx =>
    obtain ⟨a, rfl⟩ := inv_int (hx 0 _ v0 rfl rfl) Tryz.underlying3
    obtain ⟨b, rfl⟩ := inv_int (hx 1 _ v1 rfl rfl) Tryz.underlying3
    obtain ⟨us, rfl, hul, hux⟩ := inv_array (hx 2 _ v2 rfl rfl) Tryz.underlying26
    match us, hul, hux with
    | [u0, u1, u2, u3], _, hux =>
      obtain ⟨c0, rfl⟩ := inv_int (hux u0 (by simp)) Tryz.underlying24
      obtain ⟨c1, rfl⟩ := inv_int (hux u1 (by simp)) Tryz.underlying24
      obtain ⟨c2, rfl⟩ := inv_int (hux u2 (by simp)) Tryz.underlying24
      obtain ⟨c3, rfl⟩ := inv_int (hux u3 (by simp)) Tryz.underlying24
      exact ⟨a, b, c0, c1, c2, c3, rfl⟩
theorem inv_tree {p : PV} (h : TyV Tryz.prog 37 p) : ∃ (a b c0 c1 c2 c3 kd ty op off : Int) (xs : List PV), p = tpv a b c0 c1 c2 c3 kd ty op off xs ∧ ∀ x ∈ xs, TyV Tryz.prog 37 x := by
  obtain ⟨vs, rfl, hl, hx⟩ := inv_struct h Tryz.underlying37
  match vs, hl, hx with
  | [v0, v1, v2, v3, v4, v5], _, hx =>
    obtain ⟨a, b, c0, c1, c2, c3, rfl⟩ := inv_atom (hx 0 _ v0 rfl rfl)
    obtain ⟨kd, rfl⟩ := inv_int (hx 1 _ v1 rfl rfl) Tryz.underlying3
    obtain ⟨ty, rfl⟩ := inv_int (hx 2 _ v2 rfl rfl) Tryz.underlying3
    obtain ⟨op, rfl⟩ := inv_int (hx 3 _ v3 rfl rfl) Tryz.underlying3
    obtain ⟨off, rfl⟩ := inv_int (hx 4 _ v4 rfl rfl) Tryz.underlying3
    obtain ⟨xs, rfl, hxs⟩ := inv_list (hx 5 _ v5 rfl rfl) Tryz.underlying35
    exact ⟨a, b, c0, c1, c2, c3, kd, ty, op, off, xs, rfl, hxs⟩
theorem tr_of : ∀ (n : Nat) (p : PV), PV.sz p ≤ n → n ≤ 1048576 → TyV Tryz.prog 37 p → Tr p
  | 0, p, h, _, _ => by have := sz_pos p; omega
  | n + 1, p, h, hn, ht => by
    obtain ⟨a, b, c0, c1, c2, c3, kd, ty, op, off, xs, rfl, hxs⟩ := inv_tree ht
    rw [tpv_sz] at h
    have hl := length_szs xs
    exact .mk a b c0 c1 c2 c3 kd ty op off xs (by omega) (fun x hx => tr_of n x (by have := sz_mem hx; omega) (by omega) (hxs x hx))
mutual
theorem sz_bulk {H : Type} : ∀ d : DataW H, PV.sz (pvD d) ≤ Rows.uptoBulk d
  | .lit l => by cases l <;> simp [pvD, litPV, PV.sz, Rows.uptoBulk]
  | .nil => by simp [pvD, PV.sz, PV.szs, Rows.uptoBulk]
  | .ptr d => by simp [pvD, PV.sz, Rows.uptoBulk]
  | .slice es sp => by
    have := szs_bulk es
    simp only [pvD, PV.sz, Rows.uptoBulk]
    omega
  | .agg ps => by
    have h1 := szs_bulk ps
    have h2 := szs_flat (pvDs ps)
    simp only [pvD, PV.sz, Rows.uptoBulk]
    omega
  | .iface t d => by simp [pvD, PV.sz, Rows.uptoBulk]
  | .map es => by simp [pvD, PV.sz, Rows.uptoBulk]
  | .held h => by simp [pvD, PV.sz, Rows.uptoBulk]
theorem szs_bulk {H : Type} : ∀ ds : List (DataW H), PV.szs (pvDs ds) ≤ Rows.uptoBulkAll ds
  | [] => by simp [pvDs, PV.szs, Rows.uptoBulkAll]
  | d :: ds => by
    have h1 := sz_bulk d
    have h2 := szs_bulk ds
    simp only [pvDs, PV.szs, Rows.uptoBulkAll]
    omega
end
theorem own : ownKnob Tryz.prog.godebug = none := by kernel_rfl
theorem types_ok : okTys Tryz.prog [37, 28, 3, 26, 24, 35] = true := by kernel_rfl
set_option maxRecDepth 100000 in
theorem contract (H : Type) (enc : TypeId × Value → H) (W : World) (base : Nat) (args : Array Value) (ds gs : List (DataW H)) (before : List MemPlace)
    (hval : ∀ (j : Nat) t v, Tryz.f9.params[j]? = some t → args[j]? = some v → Value.okWide Tryz.prog W .any base t v)
    (hW : DataW.Whole enc Tryz.prog Tryz.f9.params.toList Rows.treeNeedsSpec.vars false W args.toList ds gs before) (hk : Rows.uptoSmall H (ds ++ gs) = true) :
    Calls Tryz.prog 9 args W fun e W' => ∃ v, e = .returned v ∧ Rows.treeNeedsSpec.post enc Tryz.prog Tryz.f9 false true false false W args v W' := by
  refine contract1 (s := Rows.treeNeedsSpec) (f := 9) (fn := Tryz.f9) (t := 37) (ts := [37, 28, 3, 26, 24, 35]) (N := 1048576) rfl (fun _ _ => rfl) Tryz.params9 (by kernel_rfl) (by kernel_rfl) (of_decide_eq_true (by kernel_rfl)) types_ok rfl (fun p hty hsz => ?_) H enc W base args ds gs before hval hW (fun d hd => ?_)
  · obtain ⟨S', m, hm⟩ := law_needs (tr_of 1048576 p hsz (Nat.le_refl _) hty) hsz
    exact ⟨tbN, m, S', tokN, hm m (Nat.le_refl _)⟩
  · subst hd
    have h1 : Rows.uptoBulkAll ([d] ++ gs) ≤ 1048576 := of_decide_eq_true hk
    have h2 := sz_bulk d
    simp only [List.cons_append, List.nil_append, Rows.uptoBulkAll] at h1
    omega
set_option maxRecDepth 100000 in
theorem lifted (os : Os) (started : os.Started) (H : Type) (enc : TypeId × Value → H) (F : Stop.Interp) :
    ReturnsInHanded {} Tryz.checked os 9 .any ((Rows.OpenSpec.upto Rows.treeNeedsSpec).pre6 enc Tryz.prog Tryz.f9 Rows.treeNeedsUptoRow.domain false) (((Rows.OpenSpec.upto Rows.treeNeedsSpec).at F).post enc Tryz.prog Tryz.f9 false true false false) := by
  refine returnsInHanded_of_cond (C := Tryz.checked) (s := Rows.OpenSpec.upto Rows.treeNeedsSpec) (k := Rows.uptoSmall) rfl own started (by kernel_rfl) Tryz.func9
    (OpenSpec.witness (enc := enc) (C := Tryz.checked) (s := Rows.OpenSpec.upto Rows.treeNeedsSpec) (k := Rows.uptoSmall) rfl false ⟨#[], #[.agg #[.int .i64 0, .int .i64 0, .int .u32 0, .int .u32 0, .int .u32 0, .int .u32 0, .int .i64 0, .int .i64 0, .int .i64 0, .int .i64 0, .slice none 0 0]], []⟩ 8 (by kernel_rfl) (by kernel_rfl) (by kernel_rfl)
      (x := ([.agg [.agg [.lit (.int .i64 0), .lit (.int .i64 0), .agg [.lit (.int .u32 0), .lit (.int .u32 0), .lit (.int .u32 0), .lit (.int .u32 0)]], .lit (.int .i64 0), .lit (.int .i64 0), .lit (.int .i64 0), .lit (.int .i64 0), .nil]], [], [])) (by kernel_rfl) rfl (by kernel_rfl)) ?_
  intro W base args ds gs before hval hW _ hk _
  exact contract H enc W base args ds gs before hval hW hk
theorem over : Rows.treeNeedsUptoRow.holds Tryz.pinned (Rows.OpenSpec.upto Rows.treeNeedsSpec) :=
  OpenClaim.holds_of_cond 9 Tryz.f9 rfl rfl rfl rfl rfl rfl rfl ⟨rfl, rfl, rfl, rfl, rfl⟩ rfl rfl rfl rfl rfl (by kernel_rfl) Tryz.func9 (by kernel_rfl)
    (of_decide_eq_true (by kernel_rfl)) (by unfold Func.isWrapper; first | (rw [if_pos (by decide +kernel)]; kernel_rfl) | (rw [if_neg (by decide +kernel)]; exact ⟨rfl, rfl⟩))
    (fun os started H enc _ F => lifted os started H enc F)
theorem proved : Rows.TreeNeedsUptoSaid :=
  over
#print axioms proved
end Go.Proofs.YtkgmeeenacnhfaaGreat.needs
