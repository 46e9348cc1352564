/- The law of needs, by the engine. No condition. -/
import Derived.Test.YtkgmeeenacnhfaaGreatNdM
set_option linter.unusedVariables false
set_option linter.unusedSimpArgs false
namespace Go.Proofs.YtkgmeeenacnhfaaGreat.Eng
open Go
def backV (xs : List PV) : Nat → PV
  | 0 => .list 1 []
  | m + 1 => .list 2 (xs.drop (xs.length - (m + 1))).reverse
def backS : Nat → Store
  | 0 => {}
  | m + 1 => { stamps := [m + 1] }
theorem tr_strip {x : PV} (h : Tr x) : strip x = x := by
  cases h
  rfl
theorem tr_width {x : PV} (h : Tr x) : x.cells.length = 11 := by
  cases h
  rfl
theorem back_zero {xs : List PV} {x : PV} (hx : Tr x) (h : xs[xs.length - 1]? = some x) (hn : 0 < xs.length) : appendL (backS 0) 11 false 1 [] [x] = some (backV xs 1, backS 1) := by
  have hw : widths 11 [x] = true := by simp [widths, tr_width hx]
  have hd : xs.drop (xs.length - 1) = [x] := by
    have := List.drop_eq_getElem_cons (l := xs) (i := xs.length - 1) (by omega)
    rw [this]
    rw [List.getElem?_eq_getElem (by omega)] at h
    cases h
    rw [List.drop_eq_nil_of_le (by omega)]
  have hm : 0 + 1 ≤ maxA := by simp [maxA]
  simp only [appendL, headOk, hw, List.length_nil, List.length_cons, hm, decide_true, Bool.and_self, Bool.not_true, Bool.false_eq_true, if_false, backV, Nat.zero_add, hd, List.reverse_cons, List.reverse_nil, List.nil_append, List.map_cons, List.map_nil, tr_strip hx, backS]
theorem back_succ {xs : List PV} {x : PV} {m : Nat} (hxs : ∀ y ∈ xs, Tr y) (h : xs[xs.length - (m + 2)]? = some x) (hn : m + 2 ≤ xs.length) (hb : xs.length ≤ 1048576) :
    appendL (backS (m + 1)) 11 false 2 (xs.drop (xs.length - (m + 1))).reverse [x] = some (backV xs (m + 2), backS (m + 2)) := by
  have hx : Tr x := hxs x (List.mem_of_getElem? h)
  have hw : widths 11 [x] = true := by simp [widths, tr_width hx]
  have hl : (xs.drop (xs.length - (m + 1))).reverse.length = m + 1 := by rw [List.length_reverse, List.length_drop]; omega
  have hh : headOk 11 (xs.drop (xs.length - (m + 1))).reverse = true := by
    cases hr : (xs.drop (xs.length - (m + 1))).reverse with
    | nil => rfl
    | cons y ys =>
      have : y ∈ (xs.drop (xs.length - (m + 1))).reverse := by rw [hr]; simp
      have := List.mem_of_mem_drop (List.mem_reverse.1 this)
      simp only [headOk, tr_width (hxs y this), decide_true]
  have hd : (xs.drop (xs.length - (m + 2))).reverse = (xs.drop (xs.length - (m + 1))).reverse ++ [x] := by
    have := List.drop_eq_getElem_cons (l := xs) (i := xs.length - (m + 2)) (by omega)
    rw [this, List.reverse_cons]
    rw [List.getElem?_eq_getElem (by omega)] at h
    cases h
    rw [show xs.length - (m + 2) + 1 = xs.length - (m + 1) by omega]
  have hm : (xs.drop (xs.length - (m + 1))).reverse.length + 1 ≤ maxA := by rw [hl]; simp [maxA]; omega
  have hs : (backS (m + 1)).stamps[0]? = some (m + 1) := rfl
  rw [hl] at hm
  simp only [appendL, hh, hw, List.length_cons, List.length_nil, Nat.zero_add, hm, decide_true, Bool.and_self, Bool.not_true, Bool.false_eq_true, if_false, hs, hl, if_true, List.map_cons, List.map_nil, tr_strip hx, backV, hd]
  rfl
theorem lends_back (σ : AS) (a b c0 c1 c2 c3 kd ty op off : Int) (xs : List PV) (st : Nat) : lends σ [.agg [.int .i64 a, .int .i64 b, .int .u32 c0, .int .u32 c1, .int .u32 c2, .int .u32 c3, .int .i64 kd, .int .i64 ty, .int .i64 op, .int .i64 off, .list st xs]] = some [tpv a b c0 c1 c2 c3 kd ty op off xs] := by
  simp only [lends, lend, lends1, lend1, tpv]
theorem ev_sane (S : Store) : EvF tbN 12 [] S (.bool true) S := EvF.given rfl (fun _ _ => rfl) rfl (r := .bool true) rfl rfl
section
variable {σ σ1 σ' : AS} {e : AExit}
def LawI (a b c0 c1 c2 c3 kd ty op off : Int) (xs : List PV) (ns : List Int) (j : Nat) (σ : AS) : Prop := ∃ (l lc : List PV) (m : Nat), σ = { tmps := l, loc := lc, S := backS m } ∧
  tget l 1 = .lptr 1 0 ∧ tget l 3 = .int .i64 (needV ns) ∧ tget l 4 = .int .i64 (sumI (ns.drop j)) ∧ tget l 5 = .lptr 5 0 ∧ tget l 6 = .int .i64 ((j : Int) - 1) ∧ j + m = xs.length ∧
  tget lc 1 = tpv a b c0 c1 c2 c3 kd ty op off xs ∧ tget lc 5 = .agg [.int .i64 a, .int .i64 b, .int .u32 c0, .int .u32 c1, .int .u32 c2, .int .u32 c3, .int .i64 kd, .int .i64 ty, .int .i64 op, .int .i64 off, backV xs m]
theorem sumI_bound : ∀ {ns : List Int} (j : Nat), (∀ n ∈ ns, 0 ≤ n) → 0 ≤ sumI (ns.drop j) ∧ sumI (ns.drop j) ≤ sumI ns
  | [], j, _ => by simp [sumI]
  | n :: r, 0, h => by
    have h1 := h n List.mem_cons_self
    have h2 := (sumI_bound (ns := r) 0 (fun m hm => h m (List.mem_cons_of_mem _ hm))).1
    simp only [List.drop_zero, sumI] at h2 ⊢
    omega
  | n :: r, j + 1, h => by
    have h1 := h n List.mem_cons_self
    have h2 := sumI_bound (ns := r) j (fun m hm => h m (List.mem_cons_of_mem _ hm))
    simp only [List.drop_succ_cons, sumI]
    omega
/-- The loop's body. -/
def lawBody : ACode := match c9.body with
  | .seq _ (.seq _ (.seq _ (.seq _ (.seq _ (.seq _ (.seq _ (.seq (.seq _ (.block _ (.loop b))) _))))))) => b
  | _ => .skip
def lawEnd : ACode := match c9.body with
  | .seq _ (.seq _ (.seq _ (.seq _ (.seq _ (.seq _ (.seq _ (.seq _ b))))))) => b
  | _ => .skip
set_option maxHeartbeats 600000 in
theorem law_step {Q : AExit → AS → Prop} {a b c0 c1 c2 c3 kd ty op off : Int} {xs : List PV} {ns : List Int} (hxl : xs.length ≤ 1048576) (hx : ∀ x ∈ xs, Tr x) (hsz : PV.szs xs + 12 ≤ 1048576) (n1 : ns.length = xs.length)
    (n2 : ∀ (i : Nat) (x : PV), xs[i]? = some x → ∃ n, ns[i]? = some n ∧ EvP tbN false 36 [x] (.int .i64 n)) (n3 : ∀ n ∈ ns, 0 ≤ n) (n4 : sumI ns ≤ PV.szs xs) (n5 : ∀ n ∈ ns, n ≤ PV.szs xs) (j : Nat) (σ : AS)
    (h : LawI a b c0 c1 c2 c3 kd ty op off xs ns (j + 1) σ) : WP tbN lawBody σ (loopQ (LawI a b c0 c1 c2 c3 kd ty op off xs ns j) Q) := by
  obtain ⟨l, lc, m, rfl, h1, h3, h4, h5, h6, hjm, hl1, hl5⟩ := h
  simp only [tpv] at hl1
  have hxj : xs[j]? = some xs[j] := List.getElem?_eq_getElem (by omega)
  have hxm : xs[j] ∈ xs := List.getElem_mem (by omega)
  obtain ⟨v, hv, hev⟩ := n2 j _ hxj
  have hvm : v ∈ ns := List.mem_of_getElem? hv
  have hv0 := n3 v hvm
  have hv1 := n5 v hvm
  have hvN := needV_mem hvm
  have hcall : ∀ S, EvF tbN 36 [xs[j]] S (.int .i64 v) S := fun S => EvF.pureI rfl (fun σ => lends_tr (hx _ hxm) σ) hev rfl rfl
  obtain ⟨y0, y1, y2, y3, y4, y5, y6, y7, y8, y9, y10, hy⟩ := tr_cells (hx _ hxm)
  have hxj' : xs[xs.length - (m + 1)]? = some xs[j] := by rw [show xs.length - (m + 1) = j by omega]; exact hxj
  have hxT := hx _ hxm
  rw [hy] at hcall hxj hxj' hxT
  have hsum : sumI (ns.drop j) = v + sumI (ns.drop (j + 1)) := by
    have := List.drop_eq_getElem_cons (l := ns) (i := j) (by omega)
    rw [this]
    have e : ns[j] = v := by
      rw [List.getElem?_eq_getElem (by omega)] at hv
      exact Option.some.inj hv
    rw [e]
    rfl
  have hsb := sumI_bound (j + 1) n3
  have hj1 : (((j + 1 : Nat) : Int) - 1) = (j : Int) := by omega
  rw [hj1] at h6
  have hj0 : (0 : Int) ≤ (j : Int) := by omega
  have hge : (j : Int) ≥ 0 := hj0
  have hngt : ¬ v > needV ns := by omega
  have hnlt : ¬ v < 0 := by omega
  have hw : IntKind.i64.wrap (sumI (ns.drop (j + 1)) + v) = sumI (ns.drop j) := by rw [wrapI (by omega) (by omega)]; omega
  have hw2 : IntKind.i64.wrap ((j : Int) - 1) = (j : Int) - 1 := wrapI (by omega) (by omega)
  apply WP.seq
  apply WP.seq
  apply WP.reg1
  · intro ex
    simp only [arun, badG, wants, aop, aval, raw, PV.isL, withV, withS, AS.put, tget_tset, tget, deref, aload, cut, astore, splice, amem, okV, okC, PV.cells, reptr, killOk, abin, elems, kill, avals, List.all_nil, Option.isSome_some, Bool.and_true, Bool.true_and, Bool.not_true, Bool.not_false, decide_true, decide_false, if_true, if_false, Bool.false_eq_true, reduceIte, Nat.reduceEqDiff, List.getElem?_cons_succ, List.getElem?_cons_zero, Nat.reduceAdd, Nat.zero_add, Nat.add_zero, beq_self_eq_true, reduceCtorEq, List.length_cons, List.length_nil, Nat.reduceLeDiff, List.take_succ_cons, List.take_zero, List.drop_succ_cons, List.drop_zero, List.cons_append, List.nil_append, List.append_nil, ne_eq, not_false_eq_true, List.take_nil, List.drop_nil, beq_tf, beq_ft, h6, hge]
    rfl
  apply WP.condT
  · simp only [arun, badG, wants, aop, aval, raw, PV.isL, withV, withS, AS.put, tget_tset, tget, deref, aload, cut, astore, splice, amem, okV, okC, PV.cells, reptr, killOk, abin, elems, kill, avals, List.all_nil, Option.isSome_some, Bool.and_true, Bool.true_and, Bool.not_true, Bool.not_false, decide_true, decide_false, if_true, if_false, Bool.false_eq_true, reduceIte, Nat.reduceEqDiff, List.getElem?_cons_succ, List.getElem?_cons_zero, Nat.reduceAdd, Nat.zero_add, Nat.add_zero, beq_self_eq_true, reduceCtorEq, List.length_cons, List.length_nil, Nat.reduceLeDiff, List.take_succ_cons, List.take_zero, List.drop_succ_cons, List.drop_zero, List.cons_append, List.nil_append, List.append_nil, ne_eq, not_false_eq_true, List.take_nil, List.drop_nil, beq_tf, beq_ft]
  apply WP.skip
  apply WP.seq
  apply WP.block
  apply WP.regs
  · apply EvR.split 5
    · intro ex
      simp only [arun, badG, wants, aop, aval, raw, PV.isL, withV, withS, AS.put, tget_tset, tget, deref, aload, cut, astore, splice, amem, okV, okC, PV.cells, reptr, killOk, abin, elems, kill, avals, List.all_nil, Option.isSome_some, Bool.and_true, Bool.true_and, Bool.not_true, Bool.not_false, decide_true, decide_false, if_true, if_false, Bool.false_eq_true, reduceIte, Nat.reduceEqDiff, List.getElem?_cons_succ, List.getElem?_cons_zero, Nat.reduceAdd, Nat.zero_add, Nat.add_zero, beq_self_eq_true, reduceCtorEq, List.length_cons, List.length_nil, Nat.reduceLeDiff, List.take_succ_cons, List.take_zero, List.drop_succ_cons, List.drop_zero, List.cons_append, List.nil_append, List.append_nil, ne_eq, not_false_eq_true, List.take_nil, List.drop_nil, beq_tf, beq_ft, h1, h6, hl1, hj0, hxj, Int.toNat_natCast]
      rfl
    · simp only [List.drop_succ_cons, List.drop_zero]
      apply EvR.call
      · simp only [arun, badG, wants, aop, aval, raw, PV.isL, withV, withS, AS.put, tget_tset, tget, deref, aload, cut, astore, splice, amem, okV, okC, PV.cells, reptr, killOk, abin, elems, kill, avals, List.all_nil, Option.isSome_some, Bool.and_true, Bool.true_and, Bool.not_true, Bool.not_false, decide_true, decide_false, if_true, if_false, Bool.false_eq_true, reduceIte, Nat.reduceEqDiff, List.getElem?_cons_succ, List.getElem?_cons_zero, Nat.reduceAdd, Nat.zero_add, Nat.add_zero, beq_self_eq_true, reduceCtorEq, List.length_cons, List.length_nil, Nat.reduceLeDiff, List.take_succ_cons, List.take_zero, List.drop_succ_cons, List.drop_zero, List.cons_append, List.nil_append, List.append_nil, ne_eq, not_false_eq_true, List.take_nil, List.drop_nil, beq_tf, beq_ft]
        rfl
      · exact hcall _
      · apply EvR.of
        intro ex
        simp only [arun, badG, wants, aop, aval, raw, PV.isL, withV, withS, AS.put, tget_tset, tget, deref, aload, cut, astore, splice, amem, okV, okC, PV.cells, reptr, killOk, abin, elems, kill, avals, List.all_nil, Option.isSome_some, Bool.and_true, Bool.true_and, Bool.not_true, Bool.not_false, decide_true, decide_false, if_true, if_false, Bool.false_eq_true, reduceIte, Nat.reduceEqDiff, List.getElem?_cons_succ, List.getElem?_cons_zero, Nat.reduceAdd, Nat.zero_add, Nat.add_zero, beq_self_eq_true, reduceCtorEq, List.length_cons, List.length_nil, Nat.reduceLeDiff, List.take_succ_cons, List.take_zero, List.drop_succ_cons, List.drop_zero, List.cons_append, List.nil_append, List.append_nil, ne_eq, not_false_eq_true, List.take_nil, List.drop_nil, beq_tf, beq_ft]
        rfl
  apply WP.seq
  apply WP.reg
  · intro ex
    simp only [arun, badG, wants, aop, aval, raw, PV.isL, withV, withS, AS.put, tget_tset, tget, deref, aload, cut, astore, splice, amem, okV, okC, PV.cells, reptr, killOk, abin, elems, kill, avals, List.all_nil, Option.isSome_some, Bool.and_true, Bool.true_and, Bool.not_true, Bool.not_false, decide_true, decide_false, if_true, if_false, Bool.false_eq_true, reduceIte, Nat.reduceEqDiff, List.getElem?_cons_succ, List.getElem?_cons_zero, Nat.reduceAdd, Nat.zero_add, Nat.add_zero, beq_self_eq_true, reduceCtorEq, List.length_cons, List.length_nil, Nat.reduceLeDiff, List.take_succ_cons, List.take_zero, List.drop_succ_cons, List.drop_zero, List.cons_append, List.nil_append, List.append_nil, ne_eq, not_false_eq_true, List.take_nil, List.drop_nil, beq_tf, beq_ft, h3, hngt, hnlt]
    rfl
  apply WP.condF
  · simp only [arun, badG, wants, aop, aval, raw, PV.isL, withV, withS, AS.put, tget_tset, tget, deref, aload, cut, astore, splice, amem, okV, okC, PV.cells, reptr, killOk, abin, elems, kill, avals, List.all_nil, Option.isSome_some, Bool.and_true, Bool.true_and, Bool.not_true, Bool.not_false, decide_true, decide_false, if_true, if_false, Bool.false_eq_true, reduceIte, Nat.reduceEqDiff, List.getElem?_cons_succ, List.getElem?_cons_zero, Nat.reduceAdd, Nat.zero_add, Nat.add_zero, beq_self_eq_true, reduceCtorEq, List.length_cons, List.length_nil, Nat.reduceLeDiff, List.take_succ_cons, List.take_zero, List.drop_succ_cons, List.drop_zero, List.cons_append, List.nil_append, List.append_nil, ne_eq, not_false_eq_true, List.take_nil, List.drop_nil, beq_tf, beq_ft]
  apply WP.skip
  apply WP.reg
  · intro ex
    simp only [arun, badG, wants, aop, aval, raw, PV.isL, withV, withS, AS.put, tget_tset, tget, deref, aload, cut, astore, splice, amem, okV, okC, PV.cells, reptr, killOk, abin, elems, kill, avals, List.all_nil, Option.isSome_some, Bool.and_true, Bool.true_and, Bool.not_true, Bool.not_false, decide_true, decide_false, if_true, if_false, Bool.false_eq_true, reduceIte, Nat.reduceEqDiff, List.getElem?_cons_succ, List.getElem?_cons_zero, Nat.reduceAdd, Nat.zero_add, Nat.add_zero, beq_self_eq_true, reduceCtorEq, List.length_cons, List.length_nil, Nat.reduceLeDiff, List.take_succ_cons, List.take_zero, List.drop_succ_cons, List.drop_zero, List.cons_append, List.nil_append, List.append_nil, ne_eq, not_false_eq_true, List.take_nil, List.drop_nil, beq_tf, beq_ft, h4, hw]
    rfl
  have hst := tr_strip hxT
  cases m with
  | zero =>
    simp only [backV] at hl5
    have happ := back_zero hxT hxj' (by omega)
    simp only [backV] at happ
    apply WP.reg1
    · intro ex
      simp only [arun, badG, wants, aop, aval, raw, PV.isL, withV, withS, AS.put, tget_tset, tget, deref, aload, cut, astore, splice, amem, okV, okC, PV.cells, reptr, killOk, abin, elems, kill, avals, List.all_nil, Option.isSome_some, Bool.and_true, Bool.true_and, Bool.not_true, Bool.not_false, decide_true, decide_false, if_true, if_false, Bool.false_eq_true, reduceIte, Nat.reduceEqDiff, List.getElem?_cons_succ, List.getElem?_cons_zero, Nat.reduceAdd, Nat.zero_add, Nat.add_zero, beq_self_eq_true, reduceCtorEq, List.length_cons, List.length_nil, Nat.reduceLeDiff, List.take_succ_cons, List.take_zero, List.drop_succ_cons, List.drop_zero, List.cons_append, List.nil_append, List.append_nil, ne_eq, not_false_eq_true, List.take_nil, List.drop_nil, beq_tf, beq_ft, h1, h5, h6, hl1, hl5, hj0, hxj, Int.toNat_natCast, fillS, List.replicate_succ, List.replicate_zero, hst, List.set_cons_zero, Nat.lt_one_iff, and_self, Nat.zero_lt_succ, happ]
      rfl
    apply WP.reg1
    · intro ex
      simp only [arun, badG, wants, aop, aval, raw, PV.isL, withV, withS, AS.put, tget_tset, tget, deref, aload, cut, astore, splice, amem, okV, okC, PV.cells, reptr, killOk, abin, elems, kill, avals, List.all_nil, Option.isSome_some, Bool.and_true, Bool.true_and, Bool.not_true, Bool.not_false, decide_true, decide_false, if_true, if_false, Bool.false_eq_true, reduceIte, Nat.reduceEqDiff, List.getElem?_cons_succ, List.getElem?_cons_zero, Nat.reduceAdd, Nat.zero_add, Nat.add_zero, beq_self_eq_true, reduceCtorEq, List.length_cons, List.length_nil, Nat.reduceLeDiff, List.take_succ_cons, List.take_zero, List.drop_succ_cons, List.drop_zero, List.cons_append, List.nil_append, List.append_nil, ne_eq, not_false_eq_true, List.take_nil, List.drop_nil, beq_tf, beq_ft, h6, hw2]
      rfl
    refine ⟨_, _, 1, rfl, ?_, ?_, ?_, ?_, ?_, by omega, ?_, ?_⟩
    · simp only [arun, badG, wants, aop, aval, raw, PV.isL, withV, withS, AS.put, tget_tset, tget, deref, aload, cut, astore, splice, amem, okV, okC, PV.cells, reptr, killOk, abin, elems, kill, avals, List.all_nil, Option.isSome_some, Bool.and_true, Bool.true_and, Bool.not_true, Bool.not_false, decide_true, decide_false, if_true, if_false, Bool.false_eq_true, reduceIte, Nat.reduceEqDiff, List.getElem?_cons_succ, List.getElem?_cons_zero, Nat.reduceAdd, Nat.zero_add, Nat.add_zero, beq_self_eq_true, reduceCtorEq, List.length_cons, List.length_nil, Nat.reduceLeDiff, List.take_succ_cons, List.take_zero, List.drop_succ_cons, List.drop_zero, List.cons_append, List.nil_append, List.append_nil, ne_eq, not_false_eq_true, List.take_nil, List.drop_nil, beq_tf, beq_ft, h1]
    · simp only [arun, badG, wants, aop, aval, raw, PV.isL, withV, withS, AS.put, tget_tset, tget, deref, aload, cut, astore, splice, amem, okV, okC, PV.cells, reptr, killOk, abin, elems, kill, avals, List.all_nil, Option.isSome_some, Bool.and_true, Bool.true_and, Bool.not_true, Bool.not_false, decide_true, decide_false, if_true, if_false, Bool.false_eq_true, reduceIte, Nat.reduceEqDiff, List.getElem?_cons_succ, List.getElem?_cons_zero, Nat.reduceAdd, Nat.zero_add, Nat.add_zero, beq_self_eq_true, reduceCtorEq, List.length_cons, List.length_nil, Nat.reduceLeDiff, List.take_succ_cons, List.take_zero, List.drop_succ_cons, List.drop_zero, List.cons_append, List.nil_append, List.append_nil, ne_eq, not_false_eq_true, List.take_nil, List.drop_nil, beq_tf, beq_ft, h3]
    · simp only [arun, badG, wants, aop, aval, raw, PV.isL, withV, withS, AS.put, tget_tset, tget, deref, aload, cut, astore, splice, amem, okV, okC, PV.cells, reptr, killOk, abin, elems, kill, avals, List.all_nil, Option.isSome_some, Bool.and_true, Bool.true_and, Bool.not_true, Bool.not_false, decide_true, decide_false, if_true, if_false, Bool.false_eq_true, reduceIte, Nat.reduceEqDiff, List.getElem?_cons_succ, List.getElem?_cons_zero, Nat.reduceAdd, Nat.zero_add, Nat.add_zero, beq_self_eq_true, reduceCtorEq, List.length_cons, List.length_nil, Nat.reduceLeDiff, List.take_succ_cons, List.take_zero, List.drop_succ_cons, List.drop_zero, List.cons_append, List.nil_append, List.append_nil, ne_eq, not_false_eq_true, List.take_nil, List.drop_nil, beq_tf, beq_ft]
    · simp only [arun, badG, wants, aop, aval, raw, PV.isL, withV, withS, AS.put, tget_tset, tget, deref, aload, cut, astore, splice, amem, okV, okC, PV.cells, reptr, killOk, abin, elems, kill, avals, List.all_nil, Option.isSome_some, Bool.and_true, Bool.true_and, Bool.not_true, Bool.not_false, decide_true, decide_false, if_true, if_false, Bool.false_eq_true, reduceIte, Nat.reduceEqDiff, List.getElem?_cons_succ, List.getElem?_cons_zero, Nat.reduceAdd, Nat.zero_add, Nat.add_zero, beq_self_eq_true, reduceCtorEq, List.length_cons, List.length_nil, Nat.reduceLeDiff, List.take_succ_cons, List.take_zero, List.drop_succ_cons, List.drop_zero, List.cons_append, List.nil_append, List.append_nil, ne_eq, not_false_eq_true, List.take_nil, List.drop_nil, beq_tf, beq_ft, h5]
    · simp only [arun, badG, wants, aop, aval, raw, PV.isL, withV, withS, AS.put, tget_tset, tget, deref, aload, cut, astore, splice, amem, okV, okC, PV.cells, reptr, killOk, abin, elems, kill, avals, List.all_nil, Option.isSome_some, Bool.and_true, Bool.true_and, Bool.not_true, Bool.not_false, decide_true, decide_false, if_true, if_false, Bool.false_eq_true, reduceIte, Nat.reduceEqDiff, List.getElem?_cons_succ, List.getElem?_cons_zero, Nat.reduceAdd, Nat.zero_add, Nat.add_zero, beq_self_eq_true, reduceCtorEq, List.length_cons, List.length_nil, Nat.reduceLeDiff, List.take_succ_cons, List.take_zero, List.drop_succ_cons, List.drop_zero, List.cons_append, List.nil_append, List.append_nil, ne_eq, not_false_eq_true, List.take_nil, List.drop_nil, beq_tf, beq_ft]
    · simp only [arun, badG, wants, aop, aval, raw, PV.isL, withV, withS, AS.put, tget_tset, tget, deref, aload, cut, astore, splice, amem, okV, okC, PV.cells, reptr, killOk, abin, elems, kill, avals, List.all_nil, Option.isSome_some, Bool.and_true, Bool.true_and, Bool.not_true, Bool.not_false, decide_true, decide_false, if_true, if_false, Bool.false_eq_true, reduceIte, Nat.reduceEqDiff, List.getElem?_cons_succ, List.getElem?_cons_zero, Nat.reduceAdd, Nat.zero_add, Nat.add_zero, beq_self_eq_true, reduceCtorEq, List.length_cons, List.length_nil, Nat.reduceLeDiff, List.take_succ_cons, List.take_zero, List.drop_succ_cons, List.drop_zero, List.cons_append, List.nil_append, List.append_nil, ne_eq, not_false_eq_true, List.take_nil, List.drop_nil, beq_tf, beq_ft, hl1, tpv]
    · simp only [arun, badG, wants, aop, aval, raw, PV.isL, withV, withS, AS.put, tget_tset, tget, deref, aload, cut, astore, splice, amem, okV, okC, PV.cells, reptr, killOk, abin, elems, kill, avals, List.all_nil, Option.isSome_some, Bool.and_true, Bool.true_and, Bool.not_true, Bool.not_false, decide_true, decide_false, if_true, if_false, Bool.false_eq_true, reduceIte, Nat.reduceEqDiff, List.getElem?_cons_succ, List.getElem?_cons_zero, Nat.reduceAdd, Nat.zero_add, Nat.add_zero, beq_self_eq_true, reduceCtorEq, List.length_cons, List.length_nil, Nat.reduceLeDiff, List.take_succ_cons, List.take_zero, List.drop_succ_cons, List.drop_zero, List.cons_append, List.nil_append, List.append_nil, ne_eq, not_false_eq_true, List.take_nil, List.drop_nil, beq_tf, beq_ft, backV]
  | succ m =>
    simp only [backV] at hl5
    have happ := back_succ hx hxj' (by omega) hxl
    simp only [backV] at happ
    apply WP.reg1
    · intro ex
      simp only [arun, badG, wants, aop, aval, raw, PV.isL, withV, withS, AS.put, tget_tset, tget, deref, aload, cut, astore, splice, amem, okV, okC, PV.cells, reptr, killOk, abin, elems, kill, avals, List.all_nil, Option.isSome_some, Bool.and_true, Bool.true_and, Bool.not_true, Bool.not_false, decide_true, decide_false, if_true, if_false, Bool.false_eq_true, reduceIte, Nat.reduceEqDiff, List.getElem?_cons_succ, List.getElem?_cons_zero, Nat.reduceAdd, Nat.zero_add, Nat.add_zero, beq_self_eq_true, reduceCtorEq, List.length_cons, List.length_nil, Nat.reduceLeDiff, List.take_succ_cons, List.take_zero, List.drop_succ_cons, List.drop_zero, List.cons_append, List.nil_append, List.append_nil, ne_eq, not_false_eq_true, List.take_nil, List.drop_nil, beq_tf, beq_ft, h1, h5, h6, hl1, hl5, hj0, hxj, Int.toNat_natCast, fillS, List.replicate_succ, List.replicate_zero, hst, List.set_cons_zero, Nat.lt_one_iff, and_self, Nat.zero_lt_succ, happ]
      rfl
    apply WP.reg1
    · intro ex
      simp only [arun, badG, wants, aop, aval, raw, PV.isL, withV, withS, AS.put, tget_tset, tget, deref, aload, cut, astore, splice, amem, okV, okC, PV.cells, reptr, killOk, abin, elems, kill, avals, List.all_nil, Option.isSome_some, Bool.and_true, Bool.true_and, Bool.not_true, Bool.not_false, decide_true, decide_false, if_true, if_false, Bool.false_eq_true, reduceIte, Nat.reduceEqDiff, List.getElem?_cons_succ, List.getElem?_cons_zero, Nat.reduceAdd, Nat.zero_add, Nat.add_zero, beq_self_eq_true, reduceCtorEq, List.length_cons, List.length_nil, Nat.reduceLeDiff, List.take_succ_cons, List.take_zero, List.drop_succ_cons, List.drop_zero, List.cons_append, List.nil_append, List.append_nil, ne_eq, not_false_eq_true, List.take_nil, List.drop_nil, beq_tf, beq_ft, h6, hw2]
      rfl
    refine ⟨_, _, m + 2, rfl, ?_, ?_, ?_, ?_, ?_, by omega, ?_, ?_⟩
    · simp only [arun, badG, wants, aop, aval, raw, PV.isL, withV, withS, AS.put, tget_tset, tget, deref, aload, cut, astore, splice, amem, okV, okC, PV.cells, reptr, killOk, abin, elems, kill, avals, List.all_nil, Option.isSome_some, Bool.and_true, Bool.true_and, Bool.not_true, Bool.not_false, decide_true, decide_false, if_true, if_false, Bool.false_eq_true, reduceIte, Nat.reduceEqDiff, List.getElem?_cons_succ, List.getElem?_cons_zero, Nat.reduceAdd, Nat.zero_add, Nat.add_zero, beq_self_eq_true, reduceCtorEq, List.length_cons, List.length_nil, Nat.reduceLeDiff, List.take_succ_cons, List.take_zero, List.drop_succ_cons, List.drop_zero, List.cons_append, List.nil_append, List.append_nil, ne_eq, not_false_eq_true, List.take_nil, List.drop_nil, beq_tf, beq_ft, h1]
    · simp only [arun, badG, wants, aop, aval, raw, PV.isL, withV, withS, AS.put, tget_tset, tget, deref, aload, cut, astore, splice, amem, okV, okC, PV.cells, reptr, killOk, abin, elems, kill, avals, List.all_nil, Option.isSome_some, Bool.and_true, Bool.true_and, Bool.not_true, Bool.not_false, decide_true, decide_false, if_true, if_false, Bool.false_eq_true, reduceIte, Nat.reduceEqDiff, List.getElem?_cons_succ, List.getElem?_cons_zero, Nat.reduceAdd, Nat.zero_add, Nat.add_zero, beq_self_eq_true, reduceCtorEq, List.length_cons, List.length_nil, Nat.reduceLeDiff, List.take_succ_cons, List.take_zero, List.drop_succ_cons, List.drop_zero, List.cons_append, List.nil_append, List.append_nil, ne_eq, not_false_eq_true, List.take_nil, List.drop_nil, beq_tf, beq_ft, h3]
    · simp only [arun, badG, wants, aop, aval, raw, PV.isL, withV, withS, AS.put, tget_tset, tget, deref, aload, cut, astore, splice, amem, okV, okC, PV.cells, reptr, killOk, abin, elems, kill, avals, List.all_nil, Option.isSome_some, Bool.and_true, Bool.true_and, Bool.not_true, Bool.not_false, decide_true, decide_false, if_true, if_false, Bool.false_eq_true, reduceIte, Nat.reduceEqDiff, List.getElem?_cons_succ, List.getElem?_cons_zero, Nat.reduceAdd, Nat.zero_add, Nat.add_zero, beq_self_eq_true, reduceCtorEq, List.length_cons, List.length_nil, Nat.reduceLeDiff, List.take_succ_cons, List.take_zero, List.drop_succ_cons, List.drop_zero, List.cons_append, List.nil_append, List.append_nil, ne_eq, not_false_eq_true, List.take_nil, List.drop_nil, beq_tf, beq_ft]
    · simp only [arun, badG, wants, aop, aval, raw, PV.isL, withV, withS, AS.put, tget_tset, tget, deref, aload, cut, astore, splice, amem, okV, okC, PV.cells, reptr, killOk, abin, elems, kill, avals, List.all_nil, Option.isSome_some, Bool.and_true, Bool.true_and, Bool.not_true, Bool.not_false, decide_true, decide_false, if_true, if_false, Bool.false_eq_true, reduceIte, Nat.reduceEqDiff, List.getElem?_cons_succ, List.getElem?_cons_zero, Nat.reduceAdd, Nat.zero_add, Nat.add_zero, beq_self_eq_true, reduceCtorEq, List.length_cons, List.length_nil, Nat.reduceLeDiff, List.take_succ_cons, List.take_zero, List.drop_succ_cons, List.drop_zero, List.cons_append, List.nil_append, List.append_nil, ne_eq, not_false_eq_true, List.take_nil, List.drop_nil, beq_tf, beq_ft, h5]
    · simp only [arun, badG, wants, aop, aval, raw, PV.isL, withV, withS, AS.put, tget_tset, tget, deref, aload, cut, astore, splice, amem, okV, okC, PV.cells, reptr, killOk, abin, elems, kill, avals, List.all_nil, Option.isSome_some, Bool.and_true, Bool.true_and, Bool.not_true, Bool.not_false, decide_true, decide_false, if_true, if_false, Bool.false_eq_true, reduceIte, Nat.reduceEqDiff, List.getElem?_cons_succ, List.getElem?_cons_zero, Nat.reduceAdd, Nat.zero_add, Nat.add_zero, beq_self_eq_true, reduceCtorEq, List.length_cons, List.length_nil, Nat.reduceLeDiff, List.take_succ_cons, List.take_zero, List.drop_succ_cons, List.drop_zero, List.cons_append, List.nil_append, List.append_nil, ne_eq, not_false_eq_true, List.take_nil, List.drop_nil, beq_tf, beq_ft]
    · simp only [arun, badG, wants, aop, aval, raw, PV.isL, withV, withS, AS.put, tget_tset, tget, deref, aload, cut, astore, splice, amem, okV, okC, PV.cells, reptr, killOk, abin, elems, kill, avals, List.all_nil, Option.isSome_some, Bool.and_true, Bool.true_and, Bool.not_true, Bool.not_false, decide_true, decide_false, if_true, if_false, Bool.false_eq_true, reduceIte, Nat.reduceEqDiff, List.getElem?_cons_succ, List.getElem?_cons_zero, Nat.reduceAdd, Nat.zero_add, Nat.add_zero, beq_self_eq_true, reduceCtorEq, List.length_cons, List.length_nil, Nat.reduceLeDiff, List.take_succ_cons, List.take_zero, List.drop_succ_cons, List.drop_zero, List.cons_append, List.nil_append, List.append_nil, ne_eq, not_false_eq_true, List.take_nil, List.drop_nil, beq_tf, beq_ft, hl1, tpv]
    · simp only [arun, badG, wants, aop, aval, raw, PV.isL, withV, withS, AS.put, tget_tset, tget, deref, aload, cut, astore, splice, amem, okV, okC, PV.cells, reptr, killOk, abin, elems, kill, avals, List.all_nil, Option.isSome_some, Bool.and_true, Bool.true_and, Bool.not_true, Bool.not_false, decide_true, decide_false, if_true, if_false, Bool.false_eq_true, reduceIte, Nat.reduceEqDiff, List.getElem?_cons_succ, List.getElem?_cons_zero, Nat.reduceAdd, Nat.zero_add, Nat.add_zero, beq_self_eq_true, reduceCtorEq, List.length_cons, List.length_nil, Nat.reduceLeDiff, List.take_succ_cons, List.take_zero, List.drop_succ_cons, List.drop_zero, List.cons_append, List.nil_append, List.append_nil, ne_eq, not_false_eq_true, List.take_nil, List.drop_nil, beq_tf, beq_ft, backV]
theorem need_back {a b c0 c1 c2 c3 kd ty op off : Int} {xs : List PV} {ns : List Int} (hk : kd ≠ 0) (hxl : xs.length ≤ 1048576) (hx : ∀ x ∈ xs, Tr x) (hb : ∀ n ∈ ns, 0 ≤ n ∧ n ≤ 1048576) (n1 : ns.length = xs.length)
    (n2 : ∀ (i : Nat) (x : PV), xs[i]? = some x → ∃ n, ns[i]? = some n ∧ EvP tbN false 36 [x] (.int .i64 n)) : EvP tbN false 36 [tpv a b c0 c1 c2 c3 kd ty op off xs.reverse] (.int .i64 (needV ns)) := by
  have := need_node (a := a) (b := b) (c0 := c0) (c1 := c1) (c2 := c2) (c3 := c3) (kd := kd) (ty := ty) (op := op) (off := off) (xs := xs.reverse) (ns := ns.reverse) hk (by simpa using hxl) (fun x h => hx x (List.mem_reverse.1 h)) (by simpa using n1) (fun n h => hb n (List.mem_reverse.1 h)) (fun i x h => by
    have hi : i < xs.length := by simpa using (List.getElem?_eq_some_iff.1 h).1
    rw [List.getElem?_reverse hi] at h
    rw [List.getElem?_reverse (by omega), n1]
    exact n2 _ x h)
  rwa [needV_perm (List.reverse_perm ns)] at this
theorem law_last {R : PV → Store → Prop} {a b c0 c1 c2 c3 kd ty op off : Int} {xs : List PV} {ns : List Int} (hk : kd ≠ 0) (hxl : xs.length ≤ 1048576) (hx : ∀ x ∈ xs, Tr x) (hsz : PV.szs xs + 12 ≤ 1048576) (n1 : ns.length = xs.length)
    (n2 : ∀ (i : Nat) (x : PV), xs[i]? = some x → ∃ n, ns[i]? = some n ∧ EvP tbN false 36 [x] (.int .i64 n)) (n3 : ∀ n ∈ ns, 0 ≤ n) (n5 : ∀ n ∈ ns, n ≤ PV.szs xs) (hR : ∀ S, R (.bool true) S) (σ : AS)
    (h : LawI a b c0 c1 c2 c3 kd ty op off xs ns 0 σ) : WP tbN lawBody σ (leftQ (blockQ 0 (seqQ tbN lawEnd (doneQ c9.results R)))) := by
  obtain ⟨l, lc, m, rfl, h1, h3, h4, h5, h6, hjm, hl1, hl5⟩ := h
  have hm1 : ¬ (((0 : Nat) : Int) - 1) ≥ 0 := by omega
  have hN1 : needV ns ≥ 1 := needV_one ns
  have hle : needV ns ≤ (if (1 : Int) > sumI ns then 1 else sumI ns) := by
    have := needV_le n3
    split at this <;> split <;> omega
  rw [List.drop_zero] at h4
  have hback : ∀ S, EvF tbN 36 [.agg [.int .i64 a, .int .i64 b, .int .u32 c0, .int .u32 c1, .int .u32 c2, .int .u32 c3, .int .i64 kd, .int .i64 ty, .int .i64 op, .int .i64 off, backV xs m]] S (.int .i64 (needV ns)) S := by
    intro S
    have hp := need_back (a := a) (b := b) (c0 := c0) (c1 := c1) (c2 := c2) (c3 := c3) (ty := ty) (op := op) (off := off) hk hxl hx (fun n hn => ⟨n3 n hn, by have := n5 n hn; omega⟩) n1 n2
    cases m with
    | zero =>
      have : xs = [] := List.eq_nil_of_length_eq_zero (by omega)
      subst this
      exact EvF.pure rfl (fun σ _ => lends_back σ a b c0 c1 c2 c3 kd ty op off [] 1) hp rfl
    | succ k =>
      have : (xs.drop (xs.length - (k + 1))).reverse = xs.reverse := by rw [show xs.length - (k + 1) = 0 by omega, List.drop_zero]
      simp only [backV, this]
      refine EvF.pure rfl (fun σ _ => lends_back σ a b c0 c1 c2 c3 kd ty op off xs.reverse 2) hp ?_
      simp only [finishP, flatR, flat1, Bool.or_true, if_true]
      rfl
  apply WP.seq
  apply WP.seq
  apply WP.reg1
  · intro ex
    simp only [arun, badG, wants, aop, aval, raw, PV.isL, withV, withS, AS.put, tget_tset, tget, deref, aload, cut, astore, splice, amem, okV, okC, PV.cells, reptr, killOk, abin, elems, kill, avals, List.all_nil, Option.isSome_some, Bool.and_true, Bool.true_and, Bool.not_true, Bool.not_false, decide_true, decide_false, if_true, if_false, Bool.false_eq_true, reduceIte, Nat.reduceEqDiff, List.getElem?_cons_succ, List.getElem?_cons_zero, Nat.reduceAdd, Nat.zero_add, Nat.add_zero, beq_self_eq_true, reduceCtorEq, List.length_cons, List.length_nil, Nat.reduceLeDiff, List.take_succ_cons, List.take_zero, List.drop_succ_cons, List.drop_zero, List.cons_append, List.nil_append, List.append_nil, ne_eq, not_false_eq_true, List.take_nil, List.drop_nil, beq_tf, beq_ft, h6, hm1]
    rfl
  apply WP.condF
  · simp only [arun, badG, wants, aop, aval, raw, PV.isL, withV, withS, AS.put, tget_tset, tget, deref, aload, cut, astore, splice, amem, okV, okC, PV.cells, reptr, killOk, abin, elems, kill, avals, List.all_nil, Option.isSome_some, Bool.and_true, Bool.true_and, Bool.not_true, Bool.not_false, decide_true, decide_false, if_true, if_false, Bool.false_eq_true, reduceIte, Nat.reduceEqDiff, List.getElem?_cons_succ, List.getElem?_cons_zero, Nat.reduceAdd, Nat.zero_add, Nat.add_zero, beq_self_eq_true, reduceCtorEq, List.length_cons, List.length_nil, Nat.reduceLeDiff, List.take_succ_cons, List.take_zero, List.drop_succ_cons, List.drop_zero, List.cons_append, List.nil_append, List.append_nil, ne_eq, not_false_eq_true, List.take_nil, List.drop_nil, beq_tf, beq_ft]
  apply WP.exit
  show WP tbN lawEnd _ _
  apply WP.regs
  · apply EvR.split 10
    · intro ex
      simp only [arun, badG, wants, aop, aval, raw, PV.isL, withV, withS, AS.put, tget_tset, tget, deref, aload, cut, astore, splice, amem, okV, okC, PV.cells, reptr, killOk, abin, elems, kill, avals, List.all_nil, Option.isSome_some, Bool.and_true, Bool.true_and, Bool.not_true, Bool.not_false, decide_true, decide_false, if_true, if_false, Bool.false_eq_true, reduceIte, Nat.reduceEqDiff, List.getElem?_cons_succ, List.getElem?_cons_zero, Nat.reduceAdd, Nat.zero_add, Nat.add_zero, beq_self_eq_true, reduceCtorEq, List.length_cons, List.length_nil, Nat.reduceLeDiff, List.take_succ_cons, List.take_zero, List.drop_succ_cons, List.drop_zero, List.cons_append, List.nil_append, List.append_nil, ne_eq, not_false_eq_true, List.take_nil, List.drop_nil, beq_tf, beq_ft, h3, h4, h5, hl5, hN1, maxOf, hle]
      rfl
    · simp only [List.drop_succ_cons, List.drop_zero]
      apply EvR.callG
      · simp only [arun, badG, wants, aop, aval, raw, PV.isL, withV, withS, AS.put, tget_tset, tget, deref, aload, cut, astore, splice, amem, okV, okC, PV.cells, reptr, killOk, abin, elems, kill, avals, List.all_nil, Option.isSome_some, Bool.and_true, Bool.true_and, Bool.not_true, Bool.not_false, decide_true, decide_false, if_true, if_false, Bool.false_eq_true, reduceIte, Nat.reduceEqDiff, List.getElem?_cons_succ, List.getElem?_cons_zero, Nat.reduceAdd, Nat.zero_add, Nat.add_zero, beq_self_eq_true, reduceCtorEq, List.length_cons, List.length_nil, Nat.reduceLeDiff, List.take_succ_cons, List.take_zero, List.drop_succ_cons, List.drop_zero, List.cons_append, List.nil_append, List.append_nil, ne_eq, not_false_eq_true, List.take_nil, List.drop_nil, beq_tf, beq_ft]
      · simp only [arun, badG, wants, aop, aval, raw, PV.isL, withV, withS, AS.put, tget_tset, tget, deref, aload, cut, astore, splice, amem, okV, okC, PV.cells, reptr, killOk, abin, elems, kill, avals, List.all_nil, Option.isSome_some, Bool.and_true, Bool.true_and, Bool.not_true, Bool.not_false, decide_true, decide_false, if_true, if_false, Bool.false_eq_true, reduceIte, Nat.reduceEqDiff, List.getElem?_cons_succ, List.getElem?_cons_zero, Nat.reduceAdd, Nat.zero_add, Nat.add_zero, beq_self_eq_true, reduceCtorEq, List.length_cons, List.length_nil, Nat.reduceLeDiff, List.take_succ_cons, List.take_zero, List.drop_succ_cons, List.drop_zero, List.cons_append, List.nil_append, List.append_nil, ne_eq, not_false_eq_true, List.take_nil, List.drop_nil, beq_tf, beq_ft]
        rfl
      · exact hback _
      · apply EvR.of
        intro ex
        simp only [arun, badG, wants, aop, aval, raw, PV.isL, withV, withS, AS.put, tget_tset, tget, deref, aload, cut, astore, splice, amem, okV, okC, PV.cells, reptr, killOk, abin, elems, kill, avals, List.all_nil, Option.isSome_some, Bool.and_true, Bool.true_and, Bool.not_true, Bool.not_false, decide_true, decide_false, if_true, if_false, Bool.false_eq_true, reduceIte, Nat.reduceEqDiff, List.getElem?_cons_succ, List.getElem?_cons_zero, Nat.reduceAdd, Nat.zero_add, Nat.add_zero, beq_self_eq_true, reduceCtorEq, List.length_cons, List.length_nil, Nat.reduceLeDiff, List.take_succ_cons, List.take_zero, List.drop_succ_cons, List.drop_zero, List.cons_append, List.nil_append, List.append_nil, ne_eq, not_false_eq_true, List.take_nil, List.drop_nil, beq_tf, beq_ft, h3]
        rfl
  apply WP.ret
  refine ⟨rfl, ?_⟩
  apply Exists.intro
  apply And.intro
  · simp only [c9, resOfs, resOf, arun, badG, wants, aop, aval, raw, PV.isL, withV, withS, AS.put, tget_tset, tget, deref, aload, cut, astore, splice, amem, okV, okC, PV.cells, reptr, killOk, abin, elems, kill, avals, List.all_nil, Option.isSome_some, Bool.and_true, Bool.true_and, Bool.not_true, Bool.not_false, decide_true, decide_false, if_true, if_false, Bool.false_eq_true, reduceIte, Nat.reduceEqDiff, List.getElem?_cons_succ, List.getElem?_cons_zero, Nat.reduceAdd, Nat.zero_add, Nat.add_zero, beq_self_eq_true, reduceCtorEq, List.length_cons, List.length_nil, Nat.reduceLeDiff, List.take_succ_cons, List.take_zero, List.drop_succ_cons, List.drop_zero, List.cons_append, List.nil_append, List.append_nil, ne_eq, not_false_eq_true, List.take_nil, List.drop_nil, beq_tf, beq_ft]
    rfl
  · exact hR _
set_option maxHeartbeats 600000 in
theorem law_needs {p : PV} (ht : Tr p) (hsz : PV.sz p ≤ 1048576) : ∃ S', EvS tbN 9 [p] {} (.bool true) S' := by
  have ht0 := ht
  cases ht with
  | mk a b c0 c1 c2 c3 kd ty op off xs hxl hx =>
    rw [tpv_sz] at hsz
    obtain ⟨r, S', rfl, hr⟩ : ∃ r S', (r = .bool true) ∧ EvS tbN 9 [tpv a b c0 c1 c2 c3 kd ty op off xs] {} r S' := by
      refine EvS.wp (R := fun r _ => r = .bool true) (fn := c9) rfl rfl ?_
      obtain ⟨cnt, hcnt⟩ := count_ok ht0 3000 60
      have hcnt' : EvF tbN 34 [tpv a b c0 c1 c2 c3 kd ty op off xs, .int .i64 3000, .int .i64 60] {} (.int .i64 cnt) {} := EvF.pureI rfl (fun σ => lends_tr2 ht0 _ _ σ) hcnt rfl rfl
      have hleaf : EvF tbN 35 [tpv a b c0 c1 c2 c3 kd ty op off xs] {} (.bool (kd == 0)) {} := EvF.pureI rfl (fun σ => lends_tr ht0 σ) (isLeaf_ok ht0) rfl rfl
      obtain ⟨ns, n1, n2, n3, n4, n5⟩ := choose_needs (xs := xs) (fun x hxm => need_ok (hx x hxm) (by have := sz_mem hxm; omega))
      apply WP.reg
      · intro ex
        simp only [arun, badG, wants, aop, aval, raw, PV.isL, withV, withS, AS.put, tget_tset, tget, deref, aload, cut, astore, splice, amem, okV, okC, PV.cells, reptr, killOk, abin, elems, kill, avals, List.all_nil, Option.isSome_some, Bool.and_true, Bool.true_and, Bool.not_true, Bool.not_false, decide_true, decide_false, if_true, if_false, Bool.false_eq_true, reduceIte, Nat.reduceEqDiff, List.getElem?_cons_succ, List.getElem?_cons_zero, Nat.reduceAdd, Nat.zero_add, Nat.add_zero, beq_self_eq_true, reduceCtorEq, List.length_cons, List.length_nil, Nat.reduceLeDiff, List.take_succ_cons, List.take_zero, List.drop_succ_cons, List.drop_zero, List.cons_append, List.nil_append, List.append_nil, ne_eq, not_false_eq_true, List.take_nil, List.drop_nil, beq_tf, beq_ft, tpv]
        rfl
      apply WP.seq
      apply WP.regs
      · apply EvR.call
        · simp only [arun, badG, wants, aop, aval, raw, PV.isL, withV, withS, AS.put, tget_tset, tget, deref, aload, cut, astore, splice, amem, okV, okC, PV.cells, reptr, killOk, abin, elems, kill, avals, List.all_nil, Option.isSome_some, Bool.and_true, Bool.true_and, Bool.not_true, Bool.not_false, decide_true, decide_false, if_true, if_false, Bool.false_eq_true, reduceIte, Nat.reduceEqDiff, List.getElem?_cons_succ, List.getElem?_cons_zero, Nat.reduceAdd, Nat.zero_add, Nat.add_zero, beq_self_eq_true, reduceCtorEq, List.length_cons, List.length_nil, Nat.reduceLeDiff, List.take_succ_cons, List.take_zero, List.drop_succ_cons, List.drop_zero, List.cons_append, List.nil_append, List.append_nil, ne_eq, not_false_eq_true, List.take_nil, List.drop_nil, beq_tf, beq_ft]
          rfl
        · exact ev_sane _
        · apply EvR.of
          intro ex
          simp only [arun, badG, wants, aop, aval, raw, PV.isL, withV, withS, AS.put, tget_tset, tget, deref, aload, cut, astore, splice, amem, okV, okC, PV.cells, reptr, killOk, abin, elems, kill, avals, List.all_nil, Option.isSome_some, Bool.and_true, Bool.true_and, Bool.not_true, Bool.not_false, decide_true, decide_false, if_true, if_false, Bool.false_eq_true, reduceIte, Nat.reduceEqDiff, List.getElem?_cons_succ, List.getElem?_cons_zero, Nat.reduceAdd, Nat.zero_add, Nat.add_zero, beq_self_eq_true, reduceCtorEq, List.length_cons, List.length_nil, Nat.reduceLeDiff, List.take_succ_cons, List.take_zero, List.drop_succ_cons, List.drop_zero, List.cons_append, List.nil_append, List.append_nil, ne_eq, not_false_eq_true, List.take_nil, List.drop_nil, beq_tf, beq_ft, aun]
          rfl
      apply WP.condF
      · simp only [arun, badG, wants, aop, aval, raw, PV.isL, withV, withS, AS.put, tget_tset, tget, deref, aload, cut, astore, splice, amem, okV, okC, PV.cells, reptr, killOk, abin, elems, kill, avals, List.all_nil, Option.isSome_some, Bool.and_true, Bool.true_and, Bool.not_true, Bool.not_false, decide_true, decide_false, if_true, if_false, Bool.false_eq_true, reduceIte, Nat.reduceEqDiff, List.getElem?_cons_succ, List.getElem?_cons_zero, Nat.reduceAdd, Nat.zero_add, Nat.add_zero, beq_self_eq_true, reduceCtorEq, List.length_cons, List.length_nil, Nat.reduceLeDiff, List.take_succ_cons, List.take_zero, List.drop_succ_cons, List.drop_zero, List.cons_append, List.nil_append, List.append_nil, ne_eq, not_false_eq_true, List.take_nil, List.drop_nil, beq_tf, beq_ft]
      apply WP.skip
      apply WP.seq
      by_cases hc : cnt > 3000
      · apply WP.regs
        · apply EvR.split 1
          · intro ex
            simp only [arun, badG, wants, aop, aval, raw, PV.isL, withV, withS, AS.put, tget_tset, tget, deref, aload, cut, astore, splice, amem, okV, okC, PV.cells, reptr, killOk, abin, elems, kill, avals, List.all_nil, Option.isSome_some, Bool.and_true, Bool.true_and, Bool.not_true, Bool.not_false, decide_true, decide_false, if_true, if_false, Bool.false_eq_true, reduceIte, Nat.reduceEqDiff, List.getElem?_cons_succ, List.getElem?_cons_zero, Nat.reduceAdd, Nat.zero_add, Nat.add_zero, beq_self_eq_true, reduceCtorEq, List.length_cons, List.length_nil, Nat.reduceLeDiff, List.take_succ_cons, List.take_zero, List.drop_succ_cons, List.drop_zero, List.cons_append, List.nil_append, List.append_nil, ne_eq, not_false_eq_true, List.take_nil, List.drop_nil, beq_tf, beq_ft]
            rfl
          · simp only [List.drop_succ_cons, List.drop_zero]
            apply EvR.call
            · simp only [arun, badG, wants, aop, aval, raw, PV.isL, withV, withS, AS.put, tget_tset, tget, deref, aload, cut, astore, splice, amem, okV, okC, PV.cells, reptr, killOk, abin, elems, kill, avals, List.all_nil, Option.isSome_some, Bool.and_true, Bool.true_and, Bool.not_true, Bool.not_false, decide_true, decide_false, if_true, if_false, Bool.false_eq_true, reduceIte, Nat.reduceEqDiff, List.getElem?_cons_succ, List.getElem?_cons_zero, Nat.reduceAdd, Nat.zero_add, Nat.add_zero, beq_self_eq_true, reduceCtorEq, List.length_cons, List.length_nil, Nat.reduceLeDiff, List.take_succ_cons, List.take_zero, List.drop_succ_cons, List.drop_zero, List.cons_append, List.nil_append, List.append_nil, ne_eq, not_false_eq_true, List.take_nil, List.drop_nil, beq_tf, beq_ft]
              rfl
            · exact hcnt'
            · apply EvR.of
              intro ex
              simp only [arun, badG, wants, aop, aval, raw, PV.isL, withV, withS, AS.put, tget_tset, tget, deref, aload, cut, astore, splice, amem, okV, okC, PV.cells, reptr, killOk, abin, elems, kill, avals, List.all_nil, Option.isSome_some, Bool.and_true, Bool.true_and, Bool.not_true, Bool.not_false, decide_true, decide_false, if_true, if_false, Bool.false_eq_true, reduceIte, Nat.reduceEqDiff, List.getElem?_cons_succ, List.getElem?_cons_zero, Nat.reduceAdd, Nat.zero_add, Nat.add_zero, beq_self_eq_true, reduceCtorEq, List.length_cons, List.length_nil, Nat.reduceLeDiff, List.take_succ_cons, List.take_zero, List.drop_succ_cons, List.drop_zero, List.cons_append, List.nil_append, List.append_nil, ne_eq, not_false_eq_true, List.take_nil, List.drop_nil, beq_tf, beq_ft, hc]
              rfl
        apply WP.condT
        · simp only [arun, badG, wants, aop, aval, raw, PV.isL, withV, withS, AS.put, tget_tset, tget, deref, aload, cut, astore, splice, amem, okV, okC, PV.cells, reptr, killOk, abin, elems, kill, avals, List.all_nil, Option.isSome_some, Bool.and_true, Bool.true_and, Bool.not_true, Bool.not_false, decide_true, decide_false, if_true, if_false, Bool.false_eq_true, reduceIte, Nat.reduceEqDiff, List.getElem?_cons_succ, List.getElem?_cons_zero, Nat.reduceAdd, Nat.zero_add, Nat.add_zero, beq_self_eq_true, reduceCtorEq, List.length_cons, List.length_nil, Nat.reduceLeDiff, List.take_succ_cons, List.take_zero, List.drop_succ_cons, List.drop_zero, List.cons_append, List.nil_append, List.append_nil, ne_eq, not_false_eq_true, List.take_nil, List.drop_nil, beq_tf, beq_ft]
        apply WP.reg
        · intro ex
          simp only [arun, badG, wants, aop, aval, raw, PV.isL, withV, withS, AS.put, tget_tset, tget, deref, aload, cut, astore, splice, amem, okV, okC, PV.cells, reptr, killOk, abin, elems, kill, avals, List.all_nil, Option.isSome_some, Bool.and_true, Bool.true_and, Bool.not_true, Bool.not_false, decide_true, decide_false, if_true, if_false, Bool.false_eq_true, reduceIte, Nat.reduceEqDiff, List.getElem?_cons_succ, List.getElem?_cons_zero, Nat.reduceAdd, Nat.zero_add, Nat.add_zero, beq_self_eq_true, reduceCtorEq, List.length_cons, List.length_nil, Nat.reduceLeDiff, List.take_succ_cons, List.take_zero, List.drop_succ_cons, List.drop_zero, List.cons_append, List.nil_append, List.append_nil, ne_eq, not_false_eq_true, List.take_nil, List.drop_nil, beq_tf, beq_ft]
          rfl
        apply WP.ret
        refine ⟨rfl, ?_⟩
        apply Exists.intro
        apply And.intro
        · simp only [c9, resOfs, resOf, arun, badG, wants, aop, aval, raw, PV.isL, withV, withS, AS.put, tget_tset, tget, deref, aload, cut, astore, splice, amem, okV, okC, PV.cells, reptr, killOk, abin, elems, kill, avals, List.all_nil, Option.isSome_some, Bool.and_true, Bool.true_and, Bool.not_true, Bool.not_false, decide_true, decide_false, if_true, if_false, Bool.false_eq_true, reduceIte, Nat.reduceEqDiff, List.getElem?_cons_succ, List.getElem?_cons_zero, Nat.reduceAdd, Nat.zero_add, Nat.add_zero, beq_self_eq_true, reduceCtorEq, List.length_cons, List.length_nil, Nat.reduceLeDiff, List.take_succ_cons, List.take_zero, List.drop_succ_cons, List.drop_zero, List.cons_append, List.nil_append, List.append_nil, ne_eq, not_false_eq_true, List.take_nil, List.drop_nil, beq_tf, beq_ft]
          rfl
        · rfl
      · by_cases hk : kd = 0
        · apply WP.regs
          · apply EvR.split 1
            · intro ex
              simp only [arun, badG, wants, aop, aval, raw, PV.isL, withV, withS, AS.put, tget_tset, tget, deref, aload, cut, astore, splice, amem, okV, okC, PV.cells, reptr, killOk, abin, elems, kill, avals, List.all_nil, Option.isSome_some, Bool.and_true, Bool.true_and, Bool.not_true, Bool.not_false, decide_true, decide_false, if_true, if_false, Bool.false_eq_true, reduceIte, Nat.reduceEqDiff, List.getElem?_cons_succ, List.getElem?_cons_zero, Nat.reduceAdd, Nat.zero_add, Nat.add_zero, beq_self_eq_true, reduceCtorEq, List.length_cons, List.length_nil, Nat.reduceLeDiff, List.take_succ_cons, List.take_zero, List.drop_succ_cons, List.drop_zero, List.cons_append, List.nil_append, List.append_nil, ne_eq, not_false_eq_true, List.take_nil, List.drop_nil, beq_tf, beq_ft]
              rfl
            · simp only [List.drop_succ_cons, List.drop_zero]
              apply EvR.call
              · simp only [arun, badG, wants, aop, aval, raw, PV.isL, withV, withS, AS.put, tget_tset, tget, deref, aload, cut, astore, splice, amem, okV, okC, PV.cells, reptr, killOk, abin, elems, kill, avals, List.all_nil, Option.isSome_some, Bool.and_true, Bool.true_and, Bool.not_true, Bool.not_false, decide_true, decide_false, if_true, if_false, Bool.false_eq_true, reduceIte, Nat.reduceEqDiff, List.getElem?_cons_succ, List.getElem?_cons_zero, Nat.reduceAdd, Nat.zero_add, Nat.add_zero, beq_self_eq_true, reduceCtorEq, List.length_cons, List.length_nil, Nat.reduceLeDiff, List.take_succ_cons, List.take_zero, List.drop_succ_cons, List.drop_zero, List.cons_append, List.nil_append, List.append_nil, ne_eq, not_false_eq_true, List.take_nil, List.drop_nil, beq_tf, beq_ft]
                rfl
              · exact hcnt'
              · apply EvR.split 3
                · intro ex
                  simp only [arun, badG, wants, aop, aval, raw, PV.isL, withV, withS, AS.put, tget_tset, tget, deref, aload, cut, astore, splice, amem, okV, okC, PV.cells, reptr, killOk, abin, elems, kill, avals, List.all_nil, Option.isSome_some, Bool.and_true, Bool.true_and, Bool.not_true, Bool.not_false, decide_true, decide_false, if_true, if_false, Bool.false_eq_true, reduceIte, Nat.reduceEqDiff, List.getElem?_cons_succ, List.getElem?_cons_zero, Nat.reduceAdd, Nat.zero_add, Nat.add_zero, beq_self_eq_true, reduceCtorEq, List.length_cons, List.length_nil, Nat.reduceLeDiff, List.take_succ_cons, List.take_zero, List.drop_succ_cons, List.drop_zero, List.cons_append, List.nil_append, List.append_nil, ne_eq, not_false_eq_true, List.take_nil, List.drop_nil, beq_tf, beq_ft, hc]
                  rfl
                · simp only [List.drop_succ_cons, List.drop_zero]
                  apply EvR.callG
                  · simp only [arun, badG, wants, aop, aval, raw, PV.isL, withV, withS, AS.put, tget_tset, tget, deref, aload, cut, astore, splice, amem, okV, okC, PV.cells, reptr, killOk, abin, elems, kill, avals, List.all_nil, Option.isSome_some, Bool.and_true, Bool.true_and, Bool.not_true, Bool.not_false, decide_true, decide_false, if_true, if_false, Bool.false_eq_true, reduceIte, Nat.reduceEqDiff, List.getElem?_cons_succ, List.getElem?_cons_zero, Nat.reduceAdd, Nat.zero_add, Nat.add_zero, beq_self_eq_true, reduceCtorEq, List.length_cons, List.length_nil, Nat.reduceLeDiff, List.take_succ_cons, List.take_zero, List.drop_succ_cons, List.drop_zero, List.cons_append, List.nil_append, List.append_nil, ne_eq, not_false_eq_true, List.take_nil, List.drop_nil, beq_tf, beq_ft]
                  · simp only [arun, badG, wants, aop, aval, raw, PV.isL, withV, withS, AS.put, tget_tset, tget, deref, aload, cut, astore, splice, amem, okV, okC, PV.cells, reptr, killOk, abin, elems, kill, avals, List.all_nil, Option.isSome_some, Bool.and_true, Bool.true_and, Bool.not_true, Bool.not_false, decide_true, decide_false, if_true, if_false, Bool.false_eq_true, reduceIte, Nat.reduceEqDiff, List.getElem?_cons_succ, List.getElem?_cons_zero, Nat.reduceAdd, Nat.zero_add, Nat.add_zero, beq_self_eq_true, reduceCtorEq, List.length_cons, List.length_nil, Nat.reduceLeDiff, List.take_succ_cons, List.take_zero, List.drop_succ_cons, List.drop_zero, List.cons_append, List.nil_append, List.append_nil, ne_eq, not_false_eq_true, List.take_nil, List.drop_nil, beq_tf, beq_ft]
                    rfl
                  · exact hleaf
                  · apply EvR.of
                    intro ex
                    simp only [arun, badG, wants, aop, aval, raw, PV.isL, withV, withS, AS.put, tget_tset, tget, deref, aload, cut, astore, splice, amem, okV, okC, PV.cells, reptr, killOk, abin, elems, kill, avals, List.all_nil, Option.isSome_some, Bool.and_true, Bool.true_and, Bool.not_true, Bool.not_false, decide_true, decide_false, if_true, if_false, Bool.false_eq_true, reduceIte, Nat.reduceEqDiff, List.getElem?_cons_succ, List.getElem?_cons_zero, Nat.reduceAdd, Nat.zero_add, Nat.add_zero, beq_self_eq_true, reduceCtorEq, List.length_cons, List.length_nil, Nat.reduceLeDiff, List.take_succ_cons, List.take_zero, List.drop_succ_cons, List.drop_zero, List.cons_append, List.nil_append, List.append_nil, ne_eq, not_false_eq_true, List.take_nil, List.drop_nil, beq_tf, beq_ft, hk]
                    rfl
          apply WP.condT
          · simp only [arun, badG, wants, aop, aval, raw, PV.isL, withV, withS, AS.put, tget_tset, tget, deref, aload, cut, astore, splice, amem, okV, okC, PV.cells, reptr, killOk, abin, elems, kill, avals, List.all_nil, Option.isSome_some, Bool.and_true, Bool.true_and, Bool.not_true, Bool.not_false, decide_true, decide_false, if_true, if_false, Bool.false_eq_true, reduceIte, Nat.reduceEqDiff, List.getElem?_cons_succ, List.getElem?_cons_zero, Nat.reduceAdd, Nat.zero_add, Nat.add_zero, beq_self_eq_true, reduceCtorEq, List.length_cons, List.length_nil, Nat.reduceLeDiff, List.take_succ_cons, List.take_zero, List.drop_succ_cons, List.drop_zero, List.cons_append, List.nil_append, List.append_nil, ne_eq, not_false_eq_true, List.take_nil, List.drop_nil, beq_tf, beq_ft]
          apply WP.reg
          · intro ex
            simp only [arun, badG, wants, aop, aval, raw, PV.isL, withV, withS, AS.put, tget_tset, tget, deref, aload, cut, astore, splice, amem, okV, okC, PV.cells, reptr, killOk, abin, elems, kill, avals, List.all_nil, Option.isSome_some, Bool.and_true, Bool.true_and, Bool.not_true, Bool.not_false, decide_true, decide_false, if_true, if_false, Bool.false_eq_true, reduceIte, Nat.reduceEqDiff, List.getElem?_cons_succ, List.getElem?_cons_zero, Nat.reduceAdd, Nat.zero_add, Nat.add_zero, beq_self_eq_true, reduceCtorEq, List.length_cons, List.length_nil, Nat.reduceLeDiff, List.take_succ_cons, List.take_zero, List.drop_succ_cons, List.drop_zero, List.cons_append, List.nil_append, List.append_nil, ne_eq, not_false_eq_true, List.take_nil, List.drop_nil, beq_tf, beq_ft]
            rfl
          apply WP.ret
          refine ⟨rfl, ?_⟩
          apply Exists.intro
          apply And.intro
          · simp only [c9, resOfs, resOf, arun, badG, wants, aop, aval, raw, PV.isL, withV, withS, AS.put, tget_tset, tget, deref, aload, cut, astore, splice, amem, okV, okC, PV.cells, reptr, killOk, abin, elems, kill, avals, List.all_nil, Option.isSome_some, Bool.and_true, Bool.true_and, Bool.not_true, Bool.not_false, decide_true, decide_false, if_true, if_false, Bool.false_eq_true, reduceIte, Nat.reduceEqDiff, List.getElem?_cons_succ, List.getElem?_cons_zero, Nat.reduceAdd, Nat.zero_add, Nat.add_zero, beq_self_eq_true, reduceCtorEq, List.length_cons, List.length_nil, Nat.reduceLeDiff, List.take_succ_cons, List.take_zero, List.drop_succ_cons, List.drop_zero, List.cons_append, List.nil_append, List.append_nil, ne_eq, not_false_eq_true, List.take_nil, List.drop_nil, beq_tf, beq_ft]
            rfl
          · rfl
        · have hneed : ∀ S, EvF tbN 36 [tpv a b c0 c1 c2 c3 kd ty op off xs] S (.int .i64 (needV ns)) S := fun S =>
            EvF.pureI rfl (fun σ => lends_tr ht0 σ) (need_node hk hxl hx n1 (fun n hn => ⟨n3 n hn, by have := n5 n hn; omega⟩) n2) rfl rfl
          apply WP.regs
          · apply EvR.split 1
            · intro ex
              simp only [arun, badG, wants, aop, aval, raw, PV.isL, withV, withS, AS.put, tget_tset, tget, deref, aload, cut, astore, splice, amem, okV, okC, PV.cells, reptr, killOk, abin, elems, kill, avals, List.all_nil, Option.isSome_some, Bool.and_true, Bool.true_and, Bool.not_true, Bool.not_false, decide_true, decide_false, if_true, if_false, Bool.false_eq_true, reduceIte, Nat.reduceEqDiff, List.getElem?_cons_succ, List.getElem?_cons_zero, Nat.reduceAdd, Nat.zero_add, Nat.add_zero, beq_self_eq_true, reduceCtorEq, List.length_cons, List.length_nil, Nat.reduceLeDiff, List.take_succ_cons, List.take_zero, List.drop_succ_cons, List.drop_zero, List.cons_append, List.nil_append, List.append_nil, ne_eq, not_false_eq_true, List.take_nil, List.drop_nil, beq_tf, beq_ft]
              rfl
            · simp only [List.drop_succ_cons, List.drop_zero]
              apply EvR.call
              · simp only [arun, badG, wants, aop, aval, raw, PV.isL, withV, withS, AS.put, tget_tset, tget, deref, aload, cut, astore, splice, amem, okV, okC, PV.cells, reptr, killOk, abin, elems, kill, avals, List.all_nil, Option.isSome_some, Bool.and_true, Bool.true_and, Bool.not_true, Bool.not_false, decide_true, decide_false, if_true, if_false, Bool.false_eq_true, reduceIte, Nat.reduceEqDiff, List.getElem?_cons_succ, List.getElem?_cons_zero, Nat.reduceAdd, Nat.zero_add, Nat.add_zero, beq_self_eq_true, reduceCtorEq, List.length_cons, List.length_nil, Nat.reduceLeDiff, List.take_succ_cons, List.take_zero, List.drop_succ_cons, List.drop_zero, List.cons_append, List.nil_append, List.append_nil, ne_eq, not_false_eq_true, List.take_nil, List.drop_nil, beq_tf, beq_ft]
                rfl
              · exact hcnt'
              · apply EvR.split 3
                · intro ex
                  simp only [arun, badG, wants, aop, aval, raw, PV.isL, withV, withS, AS.put, tget_tset, tget, deref, aload, cut, astore, splice, amem, okV, okC, PV.cells, reptr, killOk, abin, elems, kill, avals, List.all_nil, Option.isSome_some, Bool.and_true, Bool.true_and, Bool.not_true, Bool.not_false, decide_true, decide_false, if_true, if_false, Bool.false_eq_true, reduceIte, Nat.reduceEqDiff, List.getElem?_cons_succ, List.getElem?_cons_zero, Nat.reduceAdd, Nat.zero_add, Nat.add_zero, beq_self_eq_true, reduceCtorEq, List.length_cons, List.length_nil, Nat.reduceLeDiff, List.take_succ_cons, List.take_zero, List.drop_succ_cons, List.drop_zero, List.cons_append, List.nil_append, List.append_nil, ne_eq, not_false_eq_true, List.take_nil, List.drop_nil, beq_tf, beq_ft, hc]
                  rfl
                · simp only [List.drop_succ_cons, List.drop_zero]
                  apply EvR.callG
                  · simp only [arun, badG, wants, aop, aval, raw, PV.isL, withV, withS, AS.put, tget_tset, tget, deref, aload, cut, astore, splice, amem, okV, okC, PV.cells, reptr, killOk, abin, elems, kill, avals, List.all_nil, Option.isSome_some, Bool.and_true, Bool.true_and, Bool.not_true, Bool.not_false, decide_true, decide_false, if_true, if_false, Bool.false_eq_true, reduceIte, Nat.reduceEqDiff, List.getElem?_cons_succ, List.getElem?_cons_zero, Nat.reduceAdd, Nat.zero_add, Nat.add_zero, beq_self_eq_true, reduceCtorEq, List.length_cons, List.length_nil, Nat.reduceLeDiff, List.take_succ_cons, List.take_zero, List.drop_succ_cons, List.drop_zero, List.cons_append, List.nil_append, List.append_nil, ne_eq, not_false_eq_true, List.take_nil, List.drop_nil, beq_tf, beq_ft]
                  · simp only [arun, badG, wants, aop, aval, raw, PV.isL, withV, withS, AS.put, tget_tset, tget, deref, aload, cut, astore, splice, amem, okV, okC, PV.cells, reptr, killOk, abin, elems, kill, avals, List.all_nil, Option.isSome_some, Bool.and_true, Bool.true_and, Bool.not_true, Bool.not_false, decide_true, decide_false, if_true, if_false, Bool.false_eq_true, reduceIte, Nat.reduceEqDiff, List.getElem?_cons_succ, List.getElem?_cons_zero, Nat.reduceAdd, Nat.zero_add, Nat.add_zero, beq_self_eq_true, reduceCtorEq, List.length_cons, List.length_nil, Nat.reduceLeDiff, List.take_succ_cons, List.take_zero, List.drop_succ_cons, List.drop_zero, List.cons_append, List.nil_append, List.append_nil, ne_eq, not_false_eq_true, List.take_nil, List.drop_nil, beq_tf, beq_ft]
                    rfl
                  · exact hleaf
                  · apply EvR.of
                    intro ex
                    simp only [arun, badG, wants, aop, aval, raw, PV.isL, withV, withS, AS.put, tget_tset, tget, deref, aload, cut, astore, splice, amem, okV, okC, PV.cells, reptr, killOk, abin, elems, kill, avals, List.all_nil, Option.isSome_some, Bool.and_true, Bool.true_and, Bool.not_true, Bool.not_false, decide_true, decide_false, if_true, if_false, Bool.false_eq_true, reduceIte, Nat.reduceEqDiff, List.getElem?_cons_succ, List.getElem?_cons_zero, Nat.reduceAdd, Nat.zero_add, Nat.add_zero, beq_self_eq_true, reduceCtorEq, List.length_cons, List.length_nil, Nat.reduceLeDiff, List.take_succ_cons, List.take_zero, List.drop_succ_cons, List.drop_zero, List.cons_append, List.nil_append, List.append_nil, ne_eq, not_false_eq_true, List.take_nil, List.drop_nil, beq_tf, beq_ft, beq_eq_false_iff_ne.2 hk]
                    rfl
          apply WP.condF
          · simp only [arun, badG, wants, aop, aval, raw, PV.isL, withV, withS, AS.put, tget_tset, tget, deref, aload, cut, astore, splice, amem, okV, okC, PV.cells, reptr, killOk, abin, elems, kill, avals, List.all_nil, Option.isSome_some, Bool.and_true, Bool.true_and, Bool.not_true, Bool.not_false, decide_true, decide_false, if_true, if_false, Bool.false_eq_true, reduceIte, Nat.reduceEqDiff, List.getElem?_cons_succ, List.getElem?_cons_zero, Nat.reduceAdd, Nat.zero_add, Nat.add_zero, beq_self_eq_true, reduceCtorEq, List.length_cons, List.length_nil, Nat.reduceLeDiff, List.take_succ_cons, List.take_zero, List.drop_succ_cons, List.drop_zero, List.cons_append, List.nil_append, List.append_nil, ne_eq, not_false_eq_true, List.take_nil, List.drop_nil, beq_tf, beq_ft]
          apply WP.skip
          apply WP.regs
          · apply EvR.split 1
            · intro ex
              simp only [arun, badG, wants, aop, aval, raw, PV.isL, withV, withS, AS.put, tget_tset, tget, deref, aload, cut, astore, splice, amem, okV, okC, PV.cells, reptr, killOk, abin, elems, kill, avals, List.all_nil, Option.isSome_some, Bool.and_true, Bool.true_and, Bool.not_true, Bool.not_false, decide_true, decide_false, if_true, if_false, Bool.false_eq_true, reduceIte, Nat.reduceEqDiff, List.getElem?_cons_succ, List.getElem?_cons_zero, Nat.reduceAdd, Nat.zero_add, Nat.add_zero, beq_self_eq_true, reduceCtorEq, List.length_cons, List.length_nil, Nat.reduceLeDiff, List.take_succ_cons, List.take_zero, List.drop_succ_cons, List.drop_zero, List.cons_append, List.nil_append, List.append_nil, ne_eq, not_false_eq_true, List.take_nil, List.drop_nil, beq_tf, beq_ft]
              rfl
            · simp only [List.drop_succ_cons, List.drop_zero]
              apply EvR.call
              · simp only [arun, badG, wants, aop, aval, raw, PV.isL, withV, withS, AS.put, tget_tset, tget, deref, aload, cut, astore, splice, amem, okV, okC, PV.cells, reptr, killOk, abin, elems, kill, avals, List.all_nil, Option.isSome_some, Bool.and_true, Bool.true_and, Bool.not_true, Bool.not_false, decide_true, decide_false, if_true, if_false, Bool.false_eq_true, reduceIte, Nat.reduceEqDiff, List.getElem?_cons_succ, List.getElem?_cons_zero, Nat.reduceAdd, Nat.zero_add, Nat.add_zero, beq_self_eq_true, reduceCtorEq, List.length_cons, List.length_nil, Nat.reduceLeDiff, List.take_succ_cons, List.take_zero, List.drop_succ_cons, List.drop_zero, List.cons_append, List.nil_append, List.append_nil, ne_eq, not_false_eq_true, List.take_nil, List.drop_nil, beq_tf, beq_ft]
                rfl
              · exact hneed _
              · apply EvR.of
                intro ex
                simp only [arun, badG, wants, aop, aval, raw, PV.isL, withV, withS, AS.put, tget_tset, tget, deref, aload, cut, astore, splice, amem, okV, okC, PV.cells, reptr, killOk, abin, elems, kill, avals, List.all_nil, Option.isSome_some, Bool.and_true, Bool.true_and, Bool.not_true, Bool.not_false, decide_true, decide_false, if_true, if_false, Bool.false_eq_true, reduceIte, Nat.reduceEqDiff, List.getElem?_cons_succ, List.getElem?_cons_zero, Nat.reduceAdd, Nat.zero_add, Nat.add_zero, beq_self_eq_true, reduceCtorEq, List.length_cons, List.length_nil, Nat.reduceLeDiff, List.take_succ_cons, List.take_zero, List.drop_succ_cons, List.drop_zero, List.cons_append, List.nil_append, List.append_nil, ne_eq, not_false_eq_true, List.take_nil, List.drop_nil, beq_tf, beq_ft]
                rfl
          apply WP.reg
          · intro ex
            simp only [arun, badG, wants, aop, aval, raw, PV.isL, withV, withS, AS.put, tget_tset, tget, deref, aload, cut, astore, splice, amem, okV, okC, PV.cells, reptr, killOk, abin, elems, kill, avals, List.all_nil, Option.isSome_some, Bool.and_true, Bool.true_and, Bool.not_true, Bool.not_false, decide_true, decide_false, if_true, if_false, Bool.false_eq_true, reduceIte, Nat.reduceEqDiff, List.getElem?_cons_succ, List.getElem?_cons_zero, Nat.reduceAdd, Nat.zero_add, Nat.add_zero, beq_self_eq_true, reduceCtorEq, List.length_cons, List.length_nil, Nat.reduceLeDiff, List.take_succ_cons, List.take_zero, List.drop_succ_cons, List.drop_zero, List.cons_append, List.nil_append, List.append_nil, ne_eq, not_false_eq_true, List.take_nil, List.drop_nil, beq_tf, beq_ft]
            rfl
          apply WP.reg
          · intro ex
            simp only [arun, badG, wants, aop, aval, raw, PV.isL, withV, withS, AS.put, tget_tset, tget, deref, aload, cut, astore, splice, amem, okV, okC, PV.cells, reptr, killOk, abin, elems, kill, avals, List.all_nil, Option.isSome_some, Bool.and_true, Bool.true_and, Bool.not_true, Bool.not_false, decide_true, decide_false, if_true, if_false, Bool.false_eq_true, reduceIte, Nat.reduceEqDiff, List.getElem?_cons_succ, List.getElem?_cons_zero, Nat.reduceAdd, Nat.zero_add, Nat.add_zero, beq_self_eq_true, reduceCtorEq, List.length_cons, List.length_nil, Nat.reduceLeDiff, List.take_succ_cons, List.take_zero, List.drop_succ_cons, List.drop_zero, List.cons_append, List.nil_append, List.append_nil, ne_eq, not_false_eq_true, List.take_nil, List.drop_nil, beq_tf, beq_ft]
            rfl
          apply WP.reg
          · intro ex
            simp only [arun, badG, wants, aop, aval, raw, PV.isL, withV, withS, AS.put, tget_tset, tget, deref, aload, cut, astore, splice, amem, okV, okC, PV.cells, reptr, killOk, abin, elems, kill, avals, List.all_nil, Option.isSome_some, Bool.and_true, Bool.true_and, Bool.not_true, Bool.not_false, decide_true, decide_false, if_true, if_false, Bool.false_eq_true, reduceIte, Nat.reduceEqDiff, List.getElem?_cons_succ, List.getElem?_cons_zero, Nat.reduceAdd, Nat.zero_add, Nat.add_zero, beq_self_eq_true, reduceCtorEq, List.length_cons, List.length_nil, Nat.reduceLeDiff, List.take_succ_cons, List.take_zero, List.drop_succ_cons, List.drop_zero, List.cons_append, List.nil_append, List.append_nil, ne_eq, not_false_eq_true, List.take_nil, List.drop_nil, beq_tf, beq_ft]
            rfl
          apply WP.seq
          apply WP.reg
          · intro ex
            simp only [arun, badG, wants, aop, aval, raw, PV.isL, withV, withS, AS.put, tget_tset, tget, deref, aload, cut, astore, splice, amem, okV, okC, PV.cells, reptr, killOk, abin, elems, kill, avals, List.all_nil, Option.isSome_some, Bool.and_true, Bool.true_and, Bool.not_true, Bool.not_false, decide_true, decide_false, if_true, if_false, Bool.false_eq_true, reduceIte, Nat.reduceEqDiff, List.getElem?_cons_succ, List.getElem?_cons_zero, Nat.reduceAdd, Nat.zero_add, Nat.add_zero, beq_self_eq_true, reduceCtorEq, List.length_cons, List.length_nil, Nat.reduceLeDiff, List.take_succ_cons, List.take_zero, List.drop_succ_cons, List.drop_zero, List.cons_append, List.nil_append, List.append_nil, ne_eq, not_false_eq_true, List.take_nil, List.drop_nil, beq_tf, beq_ft]
            rfl
          apply WP.block
          refine WP.rounds (LawI a b c0 c1 c2 c3 kd ty op off xs ns) ?_ ?_ xs.length ?_
          · exact fun j σ h => law_step hxl hx hsz n1 n2 n3 n4 n5 j σ h
          · exact fun σ h => law_last hk hxl hx hsz n1 n2 n3 n5 (fun _ => rfl) σ h
          · exact ⟨_, _, 0, rfl, by simp only [arun, badG, wants, aop, aval, raw, PV.isL, withV, withS, AS.put, tget_tset, tget, deref, aload, cut, astore, splice, amem, okV, okC, PV.cells, reptr, killOk, abin, elems, kill, avals, List.all_nil, Option.isSome_some, Bool.and_true, Bool.true_and, Bool.not_true, Bool.not_false, decide_true, decide_false, if_true, if_false, Bool.false_eq_true, reduceIte, Nat.reduceEqDiff, List.getElem?_cons_succ, List.getElem?_cons_zero, Nat.reduceAdd, Nat.zero_add, Nat.add_zero, beq_self_eq_true, reduceCtorEq, List.length_cons, List.length_nil, Nat.reduceLeDiff, List.take_succ_cons, List.take_zero, List.drop_succ_cons, List.drop_zero, List.cons_append, List.nil_append, List.append_nil, ne_eq, not_false_eq_true, List.take_nil, List.drop_nil, beq_tf, beq_ft], by simp only [arun, badG, wants, aop, aval, raw, PV.isL, withV, withS, AS.put, tget_tset, tget, deref, aload, cut, astore, splice, amem, okV, okC, PV.cells, reptr, killOk, abin, elems, kill, avals, List.all_nil, Option.isSome_some, Bool.and_true, Bool.true_and, Bool.not_true, Bool.not_false, decide_true, decide_false, if_true, if_false, Bool.false_eq_true, reduceIte, Nat.reduceEqDiff, List.getElem?_cons_succ, List.getElem?_cons_zero, Nat.reduceAdd, Nat.zero_add, Nat.add_zero, beq_self_eq_true, reduceCtorEq, List.length_cons, List.length_nil, Nat.reduceLeDiff, List.take_succ_cons, List.take_zero, List.drop_succ_cons, List.drop_zero, List.cons_append, List.nil_append, List.append_nil, ne_eq, not_false_eq_true, List.take_nil, List.drop_nil, beq_tf, beq_ft], by simp only [arun, badG, wants, aop, aval, raw, PV.isL, withV, withS, AS.put, tget_tset, tget, deref, aload, cut, astore, splice, amem, okV, okC, PV.cells, reptr, killOk, abin, elems, kill, avals, List.all_nil, Option.isSome_some, Bool.and_true, Bool.true_and, Bool.not_true, Bool.not_false, decide_true, decide_false, if_true, if_false, Bool.false_eq_true, reduceIte, Nat.reduceEqDiff, List.getElem?_cons_succ, List.getElem?_cons_zero, Nat.reduceAdd, Nat.zero_add, Nat.add_zero, beq_self_eq_true, reduceCtorEq, List.length_cons, List.length_nil, Nat.reduceLeDiff, List.take_succ_cons, List.take_zero, List.drop_succ_cons, List.drop_zero, List.cons_append, List.nil_append, List.append_nil, ne_eq, not_false_eq_true, List.take_nil, List.drop_nil, beq_tf, beq_ft]; rw [← n1, List.drop_length]; rfl, by simp only [arun, badG, wants, aop, aval, raw, PV.isL, withV, withS, AS.put, tget_tset, tget, deref, aload, cut, astore, splice, amem, okV, okC, PV.cells, reptr, killOk, abin, elems, kill, avals, List.all_nil, Option.isSome_some, Bool.and_true, Bool.true_and, Bool.not_true, Bool.not_false, decide_true, decide_false, if_true, if_false, Bool.false_eq_true, reduceIte, Nat.reduceEqDiff, List.getElem?_cons_succ, List.getElem?_cons_zero, Nat.reduceAdd, Nat.zero_add, Nat.add_zero, beq_self_eq_true, reduceCtorEq, List.length_cons, List.length_nil, Nat.reduceLeDiff, List.take_succ_cons, List.take_zero, List.drop_succ_cons, List.drop_zero, List.cons_append, List.nil_append, List.append_nil, ne_eq, not_false_eq_true, List.take_nil, List.drop_nil, beq_tf, beq_ft], by simp only [arun, badG, wants, aop, aval, raw, PV.isL, withV, withS, AS.put, tget_tset, tget, deref, aload, cut, astore, splice, amem, okV, okC, PV.cells, reptr, killOk, abin, elems, kill, avals, List.all_nil, Option.isSome_some, Bool.and_true, Bool.true_and, Bool.not_true, Bool.not_false, decide_true, decide_false, if_true, if_false, Bool.false_eq_true, reduceIte, Nat.reduceEqDiff, List.getElem?_cons_succ, List.getElem?_cons_zero, Nat.reduceAdd, Nat.zero_add, Nat.add_zero, beq_self_eq_true, reduceCtorEq, List.length_cons, List.length_nil, Nat.reduceLeDiff, List.take_succ_cons, List.take_zero, List.drop_succ_cons, List.drop_zero, List.cons_append, List.nil_append, List.append_nil, ne_eq, not_false_eq_true, List.take_nil, List.drop_nil, beq_tf, beq_ft]; rw [wrapI (by omega) (by omega)], by omega, by simp only [arun, badG, wants, aop, aval, raw, PV.isL, withV, withS, AS.put, tget_tset, tget, deref, aload, cut, astore, splice, amem, okV, okC, PV.cells, reptr, killOk, abin, elems, kill, avals, List.all_nil, Option.isSome_some, Bool.and_true, Bool.true_and, Bool.not_true, Bool.not_false, decide_true, decide_false, if_true, if_false, Bool.false_eq_true, reduceIte, Nat.reduceEqDiff, List.getElem?_cons_succ, List.getElem?_cons_zero, Nat.reduceAdd, Nat.zero_add, Nat.add_zero, beq_self_eq_true, reduceCtorEq, List.length_cons, List.length_nil, Nat.reduceLeDiff, List.take_succ_cons, List.take_zero, List.drop_succ_cons, List.drop_zero, List.cons_append, List.nil_append, List.append_nil, ne_eq, not_false_eq_true, List.take_nil, List.drop_nil, beq_tf, beq_ft, tpv], by simp only [arun, badG, wants, aop, aval, raw, PV.isL, withV, withS, AS.put, tget_tset, tget, deref, aload, cut, astore, splice, amem, okV, okC, PV.cells, reptr, killOk, abin, elems, kill, avals, List.all_nil, Option.isSome_some, Bool.and_true, Bool.true_and, Bool.not_true, Bool.not_false, decide_true, decide_false, if_true, if_false, Bool.false_eq_true, reduceIte, Nat.reduceEqDiff, List.getElem?_cons_succ, List.getElem?_cons_zero, Nat.reduceAdd, Nat.zero_add, Nat.add_zero, beq_self_eq_true, reduceCtorEq, List.length_cons, List.length_nil, Nat.reduceLeDiff, List.take_succ_cons, List.take_zero, List.drop_succ_cons, List.drop_zero, List.cons_append, List.nil_append, List.append_nil, ne_eq, not_false_eq_true, List.take_nil, List.drop_nil, beq_tf, beq_ft, backV]⟩
    exact ⟨S', hr⟩
end
end Go.Proofs.YtkgmeeenacnhfaaGreat.Eng
