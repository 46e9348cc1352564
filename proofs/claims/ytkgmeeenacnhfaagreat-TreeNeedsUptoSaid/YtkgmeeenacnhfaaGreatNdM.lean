/- What a tree needs of registers. No condition. -/
import Derived.Test.YtkgmeeenacnhfaaGreatNdI
import Derived.Test.YtkgmeeenacnhfaaGreatNdL
set_option linter.unusedVariables false
set_option linter.unusedSimpArgs false
namespace Go.Proofs.YtkgmeeenacnhfaaGreat.Eng
open Go
def mapV : Nat → PV
  | 0 => .list 1 []
  | n + 1 => .arr n 0 (n + 1) 1
def mapS (ns : List Int) : Nat → Store
  | 0 => {}
  | i + 1 => { boxes := List.replicate i none ++ [some (asInts (ns.take (i + 1)))] }
theorem asInts_length (l : List Int) : (asInts l).length = l.length := by rw [asInts_eq, List.length_map]
theorem asInts_append (l r : List Int) : asInts (l ++ r) = asInts l ++ asInts r := by simp only [asInts_eq, List.map_append]
theorem take_snoc {ns : List Int} {i : Nat} {n : Int} (h : ns[i]? = some n) : ns.take (i + 1) = ns.take i ++ [n] := by
  rw [List.take_add_one, h]; rfl
theorem app_zero {ns : List Int} {n : Int} (h : ns[0]? = some n) : appendL (mapS ns 0) 1 true 1 [] [.int .i64 n] = some (.arr 0 0 1 1, mapS ns 1) := by
  have := take_snoc h
  simp only [mapS, this]
  rfl
theorem app_succ {ns : List Int} {j : Nat} {n : Int} (h : ns[j + 1]? = some n) (hj : j < 1048576) : appendA (mapS ns (j + 1)) 1 j 0 (j + 1) 1 [.int .i64 n] = some (.arr (j + 1) 0 (j + 2) 1, mapS ns (j + 2)) := by
  have hlt : j + 1 < ns.length := (List.getElem?_eq_some_iff.1 h).1
  have hb : (mapS ns (j + 1)).boxes[j]? = some (some (asInts (ns.take (j + 1)))) := by
    simp [mapS]
  have hlen : (asInts (ns.take (j + 1))).length = j + 1 := by rw [asInts_length, List.length_take]; omega
  have hbl : (mapS ns (j + 1)).boxes.length = j + 1 := by simp [mapS]
  have hmax : j + 1 + 1 ≤ maxA := by simp [maxA]; omega
  have hw : widths 1 [PV.int .i64 n] = true := rfl
  unfold appendA
  rw [hb]
  simp only [hw, List.length_cons, List.length_nil, Nat.zero_add, hmax, decide_true, Bool.and_self, Nat.mul_one, hlen, Nat.le_refl, Bool.not_true, Bool.false_eq_true, if_false]
  rw [if_neg (by omega), if_pos ⟨trivial, trivial⟩, hbl]
  have : (mapS ns (j + 1)).boxes.set j none = List.replicate (j + 1) none := by
    simp only [mapS]
    rw [List.set_append_right _ _ (by simp), List.length_replicate, Nat.sub_self]
    simp [List.replicate_succ']
  rw [this]
  simp only [mapS]
  rw [show j + 1 + 1 = j + 2 by omega, take_snoc (i := j + 1) h, asInts_append]
  rfl
section
variable {σ σ1 σ' : AS} {e : AExit}
def MapI (xs : List PV) (ns : List Int) (n : Nat) (σ : AS) : Prop := ∃ (l lc : List PV) (i : Nat), σ = { tmps := l, loc := lc, S := mapS ns i } ∧
  tget l 1 = .fn 36 [] [] ∧ tget l 5 = mapV i ∧ tget l 8 = .list 0 xs ∧ tget l 9 = .int .i64 xs.length ∧ tget l 10 = .int .i64 i ∧ i + n = xs.length
theorem mapped_ok {xs : List PV} {ns : List Int} (hl : ns.length = xs.length) (hb : xs.length ≤ 1048576) (htr : ∀ x ∈ xs, Tr x) (h : ∀ (i : Nat) (x : PV), xs[i]? = some x → ∃ n, ns[i]? = some n ∧ EvP tbN false 36 [x] (.int .i64 n)) :
    EvS tbN 91 [.list 0 xs, .fn 36 [] []] {} (mapV xs.length) (mapS ns xs.length) := by
  obtain ⟨r, S', ⟨rfl, rfl⟩, hr⟩ : ∃ r S', (r = mapV xs.length ∧ S' = mapS ns xs.length) ∧ EvS tbN 91 [.list 0 xs, .fn 36 [] []] {} r S' := by
    refine EvS.wp (R := fun r S' => r = mapV xs.length ∧ S' = mapS ns xs.length) (fn := c91) rfl rfl ?_
    apply WP.reg
    · intro ex
      simp only [arun, badG, wants, aop, aval, raw, PV.isL, withV, withS, AS.put, tget_tset, tget, deref, aload, cut, astore, splice, amem, okV, okC, PV.cells, reptr, killOk, abin, elems, kill, avals, List.all_nil, Option.isSome_some, Bool.and_true, Bool.true_and, Bool.not_true, Bool.not_false, decide_true, decide_false, if_true, if_false, Bool.false_eq_true, reduceIte, Nat.reduceEqDiff, List.getElem?_cons_succ, List.getElem?_cons_zero, Nat.reduceAdd, Nat.zero_add, Nat.add_zero, beq_self_eq_true, reduceCtorEq, List.length_cons, List.length_nil, Nat.reduceLeDiff, List.take_succ_cons, List.take_zero, List.drop_succ_cons, List.drop_zero, List.cons_append, List.nil_append, List.append_nil, ne_eq, not_false_eq_true, List.take_nil, List.drop_nil, beq_tf, beq_ft]
      rfl
    apply WP.reg
    · intro ex
      simp only [arun, badG, wants, aop, aval, raw, PV.isL, withV, withS, AS.put, tget_tset, tget, deref, aload, cut, astore, splice, amem, okV, okC, PV.cells, reptr, killOk, abin, elems, kill, avals, List.all_nil, Option.isSome_some, Bool.and_true, Bool.true_and, Bool.not_true, Bool.not_false, decide_true, decide_false, if_true, if_false, Bool.false_eq_true, reduceIte, Nat.reduceEqDiff, List.getElem?_cons_succ, List.getElem?_cons_zero, Nat.reduceAdd, Nat.zero_add, Nat.add_zero, beq_self_eq_true, reduceCtorEq, List.length_cons, List.length_nil, Nat.reduceLeDiff, List.take_succ_cons, List.take_zero, List.drop_succ_cons, List.drop_zero, List.cons_append, List.nil_append, List.append_nil, ne_eq, not_false_eq_true, List.take_nil, List.drop_nil, beq_tf, beq_ft]
      rfl
    apply WP.seq
    apply WP.reg
    · intro ex
      simp only [arun, badG, wants, aop, aval, raw, PV.isL, withV, withS, AS.put, tget_tset, tget, deref, aload, cut, astore, splice, amem, okV, okC, PV.cells, reptr, killOk, abin, elems, kill, avals, List.all_nil, Option.isSome_some, Bool.and_true, Bool.true_and, Bool.not_true, Bool.not_false, decide_true, decide_false, if_true, if_false, Bool.false_eq_true, reduceIte, Nat.reduceEqDiff, List.getElem?_cons_succ, List.getElem?_cons_zero, Nat.reduceAdd, Nat.zero_add, Nat.add_zero, beq_self_eq_true, reduceCtorEq, List.length_cons, List.length_nil, Nat.reduceLeDiff, List.take_succ_cons, List.take_zero, List.drop_succ_cons, List.drop_zero, List.cons_append, List.nil_append, List.append_nil, ne_eq, not_false_eq_true, List.take_nil, List.drop_nil, beq_tf, beq_ft]
      rfl
    apply WP.block
    refine WP.rounds (MapI xs ns) ?_ ?_ xs.length ?_
    · rintro n σ ⟨l, lc, i, rfl, h1, h5, h8, h9, h10, hi⟩
      have hlt : ((i : Nat) : Int) < (xs.length : Int) := by omega
      have hxi : xs[i]? = some xs[i] := List.getElem?_eq_getElem (by omega)
      have hxm : xs[i] ∈ xs := List.getElem_mem (by omega)
      obtain ⟨m, hm, hev⟩ := h i _ hxi
      obtain ⟨y0, y1, y2, y3, y4, y5, y6, y7, y8, y9, y10, hy⟩ := tr_cells (htr _ hxm)
      have hcall : ∀ S, EvF tbN 36 [xs[i]] S (.int .i64 m) S := fun S => EvF.pureI rfl (fun σ => lends_tr (htr _ hxm) σ) hev rfl rfl
      rw [hy] at hcall
      have hi0 : (0 : Int) ≤ (i : Int) := by omega
      apply WP.reg
      · intro ex
        simp only [arun, badG, wants, aop, aval, raw, PV.isL, withV, withS, AS.put, tget_tset, tget, deref, aload, cut, astore, splice, amem, okV, okC, PV.cells, reptr, killOk, abin, elems, kill, avals, List.all_nil, Option.isSome_some, Bool.and_true, Bool.true_and, Bool.not_true, Bool.not_false, decide_true, decide_false, if_true, if_false, Bool.false_eq_true, reduceIte, Nat.reduceEqDiff, List.getElem?_cons_succ, List.getElem?_cons_zero, Nat.reduceAdd, Nat.zero_add, Nat.add_zero, beq_self_eq_true, reduceCtorEq, List.length_cons, List.length_nil, Nat.reduceLeDiff, List.take_succ_cons, List.take_zero, List.drop_succ_cons, List.drop_zero, List.cons_append, List.nil_append, List.append_nil, ne_eq, not_false_eq_true, List.take_nil, List.drop_nil, beq_tf, beq_ft, h9, h10, hlt]
        rfl
      apply WP.seq
      apply WP.condT
      · simp only [arun, badG, wants, aop, aval, raw, PV.isL, withV, withS, AS.put, tget_tset, tget, deref, aload, cut, astore, splice, amem, okV, okC, PV.cells, reptr, killOk, abin, elems, kill, avals, List.all_nil, Option.isSome_some, Bool.and_true, Bool.true_and, Bool.not_true, Bool.not_false, decide_true, decide_false, if_true, if_false, Bool.false_eq_true, reduceIte, Nat.reduceEqDiff, List.getElem?_cons_succ, List.getElem?_cons_zero, Nat.reduceAdd, Nat.zero_add, Nat.add_zero, beq_self_eq_true, reduceCtorEq, List.length_cons, List.length_nil, Nat.reduceLeDiff, List.take_succ_cons, List.take_zero, List.drop_succ_cons, List.drop_zero, List.cons_append, List.nil_append, List.append_nil, ne_eq, not_false_eq_true, List.take_nil, List.drop_nil, beq_tf, beq_ft]
      apply WP.skip
      apply WP.seq
      apply WP.block
      apply WP.reg
      · intro ex
        simp only [arun, badG, wants, aop, aval, raw, PV.isL, withV, withS, AS.put, tget_tset, tget, deref, aload, cut, astore, splice, amem, okV, okC, PV.cells, reptr, killOk, abin, elems, kill, avals, List.all_nil, Option.isSome_some, Bool.and_true, Bool.true_and, Bool.not_true, Bool.not_false, decide_true, decide_false, if_true, if_false, Bool.false_eq_true, reduceIte, Nat.reduceEqDiff, List.getElem?_cons_succ, List.getElem?_cons_zero, Nat.reduceAdd, Nat.zero_add, Nat.add_zero, beq_self_eq_true, reduceCtorEq, List.length_cons, List.length_nil, Nat.reduceLeDiff, List.take_succ_cons, List.take_zero, List.drop_succ_cons, List.drop_zero, List.cons_append, List.nil_append, List.append_nil, ne_eq, not_false_eq_true, List.take_nil, List.drop_nil, beq_tf, beq_ft, h8, h10, hi0, hxi, hy, Int.toNat_natCast]
        rfl
      cases i with
      | zero =>
        simp only [mapV] at h5
        apply WP.regc
        · apply EvR.split 3
          · intro ex
            simp only [arun, badG, wants, aop, aval, raw, PV.isL, withV, withS, AS.put, tget_tset, tget, deref, aload, cut, astore, splice, amem, okV, okC, PV.cells, reptr, killOk, abin, elems, kill, avals, List.all_nil, Option.isSome_some, Bool.and_true, Bool.true_and, Bool.not_true, Bool.not_false, decide_true, decide_false, if_true, if_false, Bool.false_eq_true, reduceIte, Nat.reduceEqDiff, List.getElem?_cons_succ, List.getElem?_cons_zero, Nat.reduceAdd, Nat.zero_add, Nat.add_zero, beq_self_eq_true, reduceCtorEq, List.length_cons, List.length_nil, Nat.reduceLeDiff, List.take_succ_cons, List.take_zero, List.drop_succ_cons, List.drop_zero, List.cons_append, List.nil_append, List.append_nil, ne_eq, not_false_eq_true, List.take_nil, List.drop_nil, beq_tf, beq_ft, h1, h5]
            rfl
          · simp only [List.drop_succ_cons, List.drop_zero]
            apply EvR.callv
            · simp only [arun, badG, wants, aop, aval, raw, PV.isL, withV, withS, AS.put, tget_tset, tget, deref, aload, cut, astore, splice, amem, okV, okC, PV.cells, reptr, killOk, abin, elems, kill, avals, List.all_nil, Option.isSome_some, Bool.and_true, Bool.true_and, Bool.not_true, Bool.not_false, decide_true, decide_false, if_true, if_false, Bool.false_eq_true, reduceIte, Nat.reduceEqDiff, List.getElem?_cons_succ, List.getElem?_cons_zero, Nat.reduceAdd, Nat.zero_add, Nat.add_zero, beq_self_eq_true, reduceCtorEq, List.length_cons, List.length_nil, Nat.reduceLeDiff, List.take_succ_cons, List.take_zero, List.drop_succ_cons, List.drop_zero, List.cons_append, List.nil_append, List.append_nil, ne_eq, not_false_eq_true, List.take_nil, List.drop_nil, beq_tf, beq_ft]
              rfl
            · simp only [arun, badG, wants, aop, aval, raw, PV.isL, withV, withS, AS.put, tget_tset, tget, deref, aload, cut, astore, splice, amem, okV, okC, PV.cells, reptr, killOk, abin, elems, kill, avals, List.all_nil, Option.isSome_some, Bool.and_true, Bool.true_and, Bool.not_true, Bool.not_false, decide_true, decide_false, if_true, if_false, Bool.false_eq_true, reduceIte, Nat.reduceEqDiff, List.getElem?_cons_succ, List.getElem?_cons_zero, Nat.reduceAdd, Nat.zero_add, Nat.add_zero, beq_self_eq_true, reduceCtorEq, List.length_cons, List.length_nil, Nat.reduceLeDiff, List.take_succ_cons, List.take_zero, List.drop_succ_cons, List.drop_zero, List.cons_append, List.nil_append, List.append_nil, ne_eq, not_false_eq_true, List.take_nil, List.drop_nil, beq_tf, beq_ft]
              rfl
            · exact hcall _
            · apply EvR.of
              intro ex
              simp only [arun, badG, wants, aop, aval, raw, PV.isL, withV, withS, AS.put, tget_tset, tget, deref, aload, cut, astore, splice, amem, okV, okC, PV.cells, reptr, killOk, abin, elems, kill, avals, List.all_nil, Option.isSome_some, Bool.and_true, Bool.true_and, Bool.not_true, Bool.not_false, decide_true, decide_false, if_true, if_false, Bool.false_eq_true, reduceIte, Nat.reduceEqDiff, List.getElem?_cons_succ, List.getElem?_cons_zero, Nat.reduceAdd, Nat.zero_add, Nat.add_zero, beq_self_eq_true, reduceCtorEq, List.length_cons, List.length_nil, Nat.reduceLeDiff, List.take_succ_cons, List.take_zero, List.drop_succ_cons, List.drop_zero, List.cons_append, List.nil_append, List.append_nil, ne_eq, not_false_eq_true, List.take_nil, List.drop_nil, beq_tf, beq_ft, app_zero hm, fillS, List.replicate_succ, List.replicate_zero, strip1, strip, List.headD_cons, List.set_cons_zero, Nat.lt_one_iff, and_self, Nat.zero_lt_succ]
              rfl
        apply WP.reg1
        · intro ex
          simp only [arun, badG, wants, aop, aval, raw, PV.isL, withV, withS, AS.put, tget_tset, tget, deref, aload, cut, astore, splice, amem, okV, okC, PV.cells, reptr, killOk, abin, elems, kill, avals, List.all_nil, Option.isSome_some, Bool.and_true, Bool.true_and, Bool.not_true, Bool.not_false, decide_true, decide_false, if_true, if_false, Bool.false_eq_true, reduceIte, Nat.reduceEqDiff, List.getElem?_cons_succ, List.getElem?_cons_zero, Nat.reduceAdd, Nat.zero_add, Nat.add_zero, beq_self_eq_true, reduceCtorEq, List.length_cons, List.length_nil, Nat.reduceLeDiff, List.take_succ_cons, List.take_zero, List.drop_succ_cons, List.drop_zero, List.cons_append, List.nil_append, List.append_nil, ne_eq, not_false_eq_true, List.take_nil, List.drop_nil, beq_tf, beq_ft, h10]
          rfl
        refine ⟨_, _, 1, rfl, ?_, ?_, ?_, ?_, ?_, by omega⟩
        · simp only [arun, badG, wants, aop, aval, raw, PV.isL, withV, withS, AS.put, tget_tset, tget, deref, aload, cut, astore, splice, amem, okV, okC, PV.cells, reptr, killOk, abin, elems, kill, avals, List.all_nil, Option.isSome_some, Bool.and_true, Bool.true_and, Bool.not_true, Bool.not_false, decide_true, decide_false, if_true, if_false, Bool.false_eq_true, reduceIte, Nat.reduceEqDiff, List.getElem?_cons_succ, List.getElem?_cons_zero, Nat.reduceAdd, Nat.zero_add, Nat.add_zero, beq_self_eq_true, reduceCtorEq, List.length_cons, List.length_nil, Nat.reduceLeDiff, List.take_succ_cons, List.take_zero, List.drop_succ_cons, List.drop_zero, List.cons_append, List.nil_append, List.append_nil, ne_eq, not_false_eq_true, List.take_nil, List.drop_nil, beq_tf, beq_ft, h1]
        · simp only [arun, badG, wants, aop, aval, raw, PV.isL, withV, withS, AS.put, tget_tset, tget, deref, aload, cut, astore, splice, amem, okV, okC, PV.cells, reptr, killOk, abin, elems, kill, avals, List.all_nil, Option.isSome_some, Bool.and_true, Bool.true_and, Bool.not_true, Bool.not_false, decide_true, decide_false, if_true, if_false, Bool.false_eq_true, reduceIte, Nat.reduceEqDiff, List.getElem?_cons_succ, List.getElem?_cons_zero, Nat.reduceAdd, Nat.zero_add, Nat.add_zero, beq_self_eq_true, reduceCtorEq, List.length_cons, List.length_nil, Nat.reduceLeDiff, List.take_succ_cons, List.take_zero, List.drop_succ_cons, List.drop_zero, List.cons_append, List.nil_append, List.append_nil, ne_eq, not_false_eq_true, List.take_nil, List.drop_nil, beq_tf, beq_ft, mapV]
        · simp only [arun, badG, wants, aop, aval, raw, PV.isL, withV, withS, AS.put, tget_tset, tget, deref, aload, cut, astore, splice, amem, okV, okC, PV.cells, reptr, killOk, abin, elems, kill, avals, List.all_nil, Option.isSome_some, Bool.and_true, Bool.true_and, Bool.not_true, Bool.not_false, decide_true, decide_false, if_true, if_false, Bool.false_eq_true, reduceIte, Nat.reduceEqDiff, List.getElem?_cons_succ, List.getElem?_cons_zero, Nat.reduceAdd, Nat.zero_add, Nat.add_zero, beq_self_eq_true, reduceCtorEq, List.length_cons, List.length_nil, Nat.reduceLeDiff, List.take_succ_cons, List.take_zero, List.drop_succ_cons, List.drop_zero, List.cons_append, List.nil_append, List.append_nil, ne_eq, not_false_eq_true, List.take_nil, List.drop_nil, beq_tf, beq_ft, h8]
        · simp only [arun, badG, wants, aop, aval, raw, PV.isL, withV, withS, AS.put, tget_tset, tget, deref, aload, cut, astore, splice, amem, okV, okC, PV.cells, reptr, killOk, abin, elems, kill, avals, List.all_nil, Option.isSome_some, Bool.and_true, Bool.true_and, Bool.not_true, Bool.not_false, decide_true, decide_false, if_true, if_false, Bool.false_eq_true, reduceIte, Nat.reduceEqDiff, List.getElem?_cons_succ, List.getElem?_cons_zero, Nat.reduceAdd, Nat.zero_add, Nat.add_zero, beq_self_eq_true, reduceCtorEq, List.length_cons, List.length_nil, Nat.reduceLeDiff, List.take_succ_cons, List.take_zero, List.drop_succ_cons, List.drop_zero, List.cons_append, List.nil_append, List.append_nil, ne_eq, not_false_eq_true, List.take_nil, List.drop_nil, beq_tf, beq_ft, h9]
        · simp only [arun, badG, wants, aop, aval, raw, PV.isL, withV, withS, AS.put, tget_tset, tget, deref, aload, cut, astore, splice, amem, okV, okC, PV.cells, reptr, killOk, abin, elems, kill, avals, List.all_nil, Option.isSome_some, Bool.and_true, Bool.true_and, Bool.not_true, Bool.not_false, decide_true, decide_false, if_true, if_false, Bool.false_eq_true, reduceIte, Nat.reduceEqDiff, List.getElem?_cons_succ, List.getElem?_cons_zero, Nat.reduceAdd, Nat.zero_add, Nat.add_zero, beq_self_eq_true, reduceCtorEq, List.length_cons, List.length_nil, Nat.reduceLeDiff, List.take_succ_cons, List.take_zero, List.drop_succ_cons, List.drop_zero, List.cons_append, List.nil_append, List.append_nil, ne_eq, not_false_eq_true, List.take_nil, List.drop_nil, beq_tf, beq_ft]
          rfl
      | succ j =>
        simp only [mapV] at h5
        apply WP.regc
        · apply EvR.split 3
          · intro ex
            simp only [arun, badG, wants, aop, aval, raw, PV.isL, withV, withS, AS.put, tget_tset, tget, deref, aload, cut, astore, splice, amem, okV, okC, PV.cells, reptr, killOk, abin, elems, kill, avals, List.all_nil, Option.isSome_some, Bool.and_true, Bool.true_and, Bool.not_true, Bool.not_false, decide_true, decide_false, if_true, if_false, Bool.false_eq_true, reduceIte, Nat.reduceEqDiff, List.getElem?_cons_succ, List.getElem?_cons_zero, Nat.reduceAdd, Nat.zero_add, Nat.add_zero, beq_self_eq_true, reduceCtorEq, List.length_cons, List.length_nil, Nat.reduceLeDiff, List.take_succ_cons, List.take_zero, List.drop_succ_cons, List.drop_zero, List.cons_append, List.nil_append, List.append_nil, ne_eq, not_false_eq_true, List.take_nil, List.drop_nil, beq_tf, beq_ft, h1, h5]
            rfl
          · simp only [List.drop_succ_cons, List.drop_zero]
            apply EvR.callv
            · simp only [arun, badG, wants, aop, aval, raw, PV.isL, withV, withS, AS.put, tget_tset, tget, deref, aload, cut, astore, splice, amem, okV, okC, PV.cells, reptr, killOk, abin, elems, kill, avals, List.all_nil, Option.isSome_some, Bool.and_true, Bool.true_and, Bool.not_true, Bool.not_false, decide_true, decide_false, if_true, if_false, Bool.false_eq_true, reduceIte, Nat.reduceEqDiff, List.getElem?_cons_succ, List.getElem?_cons_zero, Nat.reduceAdd, Nat.zero_add, Nat.add_zero, beq_self_eq_true, reduceCtorEq, List.length_cons, List.length_nil, Nat.reduceLeDiff, List.take_succ_cons, List.take_zero, List.drop_succ_cons, List.drop_zero, List.cons_append, List.nil_append, List.append_nil, ne_eq, not_false_eq_true, List.take_nil, List.drop_nil, beq_tf, beq_ft]
              rfl
            · simp only [arun, badG, wants, aop, aval, raw, PV.isL, withV, withS, AS.put, tget_tset, tget, deref, aload, cut, astore, splice, amem, okV, okC, PV.cells, reptr, killOk, abin, elems, kill, avals, List.all_nil, Option.isSome_some, Bool.and_true, Bool.true_and, Bool.not_true, Bool.not_false, decide_true, decide_false, if_true, if_false, Bool.false_eq_true, reduceIte, Nat.reduceEqDiff, List.getElem?_cons_succ, List.getElem?_cons_zero, Nat.reduceAdd, Nat.zero_add, Nat.add_zero, beq_self_eq_true, reduceCtorEq, List.length_cons, List.length_nil, Nat.reduceLeDiff, List.take_succ_cons, List.take_zero, List.drop_succ_cons, List.drop_zero, List.cons_append, List.nil_append, List.append_nil, ne_eq, not_false_eq_true, List.take_nil, List.drop_nil, beq_tf, beq_ft]
              rfl
            · exact hcall _
            · apply EvR.of
              intro ex
              simp only [arun, badG, wants, aop, aval, raw, PV.isL, withV, withS, AS.put, tget_tset, tget, deref, aload, cut, astore, splice, amem, okV, okC, PV.cells, reptr, killOk, abin, elems, kill, avals, List.all_nil, Option.isSome_some, Bool.and_true, Bool.true_and, Bool.not_true, Bool.not_false, decide_true, decide_false, if_true, if_false, Bool.false_eq_true, reduceIte, Nat.reduceEqDiff, List.getElem?_cons_succ, List.getElem?_cons_zero, Nat.reduceAdd, Nat.zero_add, Nat.add_zero, beq_self_eq_true, reduceCtorEq, List.length_cons, List.length_nil, Nat.reduceLeDiff, List.take_succ_cons, List.take_zero, List.drop_succ_cons, List.drop_zero, List.cons_append, List.nil_append, List.append_nil, ne_eq, not_false_eq_true, List.take_nil, List.drop_nil, beq_tf, beq_ft, app_succ hm (by omega), fillS, List.replicate_succ, List.replicate_zero, strip1, strip, List.headD_cons, List.set_cons_zero, Nat.lt_one_iff, and_self, Nat.zero_lt_succ]
              rfl
        apply WP.reg1
        · intro ex
          simp only [arun, badG, wants, aop, aval, raw, PV.isL, withV, withS, AS.put, tget_tset, tget, deref, aload, cut, astore, splice, amem, okV, okC, PV.cells, reptr, killOk, abin, elems, kill, avals, List.all_nil, Option.isSome_some, Bool.and_true, Bool.true_and, Bool.not_true, Bool.not_false, decide_true, decide_false, if_true, if_false, Bool.false_eq_true, reduceIte, Nat.reduceEqDiff, List.getElem?_cons_succ, List.getElem?_cons_zero, Nat.reduceAdd, Nat.zero_add, Nat.add_zero, beq_self_eq_true, reduceCtorEq, List.length_cons, List.length_nil, Nat.reduceLeDiff, List.take_succ_cons, List.take_zero, List.drop_succ_cons, List.drop_zero, List.cons_append, List.nil_append, List.append_nil, ne_eq, not_false_eq_true, List.take_nil, List.drop_nil, beq_tf, beq_ft, h10]
          rfl
        refine ⟨_, _, j + 2, rfl, ?_, ?_, ?_, ?_, ?_, by omega⟩
        · simp only [arun, badG, wants, aop, aval, raw, PV.isL, withV, withS, AS.put, tget_tset, tget, deref, aload, cut, astore, splice, amem, okV, okC, PV.cells, reptr, killOk, abin, elems, kill, avals, List.all_nil, Option.isSome_some, Bool.and_true, Bool.true_and, Bool.not_true, Bool.not_false, decide_true, decide_false, if_true, if_false, Bool.false_eq_true, reduceIte, Nat.reduceEqDiff, List.getElem?_cons_succ, List.getElem?_cons_zero, Nat.reduceAdd, Nat.zero_add, Nat.add_zero, beq_self_eq_true, reduceCtorEq, List.length_cons, List.length_nil, Nat.reduceLeDiff, List.take_succ_cons, List.take_zero, List.drop_succ_cons, List.drop_zero, List.cons_append, List.nil_append, List.append_nil, ne_eq, not_false_eq_true, List.take_nil, List.drop_nil, beq_tf, beq_ft, h1]
        · simp only [arun, badG, wants, aop, aval, raw, PV.isL, withV, withS, AS.put, tget_tset, tget, deref, aload, cut, astore, splice, amem, okV, okC, PV.cells, reptr, killOk, abin, elems, kill, avals, List.all_nil, Option.isSome_some, Bool.and_true, Bool.true_and, Bool.not_true, Bool.not_false, decide_true, decide_false, if_true, if_false, Bool.false_eq_true, reduceIte, Nat.reduceEqDiff, List.getElem?_cons_succ, List.getElem?_cons_zero, Nat.reduceAdd, Nat.zero_add, Nat.add_zero, beq_self_eq_true, reduceCtorEq, List.length_cons, List.length_nil, Nat.reduceLeDiff, List.take_succ_cons, List.take_zero, List.drop_succ_cons, List.drop_zero, List.cons_append, List.nil_append, List.append_nil, ne_eq, not_false_eq_true, List.take_nil, List.drop_nil, beq_tf, beq_ft, mapV]
        · simp only [arun, badG, wants, aop, aval, raw, PV.isL, withV, withS, AS.put, tget_tset, tget, deref, aload, cut, astore, splice, amem, okV, okC, PV.cells, reptr, killOk, abin, elems, kill, avals, List.all_nil, Option.isSome_some, Bool.and_true, Bool.true_and, Bool.not_true, Bool.not_false, decide_true, decide_false, if_true, if_false, Bool.false_eq_true, reduceIte, Nat.reduceEqDiff, List.getElem?_cons_succ, List.getElem?_cons_zero, Nat.reduceAdd, Nat.zero_add, Nat.add_zero, beq_self_eq_true, reduceCtorEq, List.length_cons, List.length_nil, Nat.reduceLeDiff, List.take_succ_cons, List.take_zero, List.drop_succ_cons, List.drop_zero, List.cons_append, List.nil_append, List.append_nil, ne_eq, not_false_eq_true, List.take_nil, List.drop_nil, beq_tf, beq_ft, h8]
        · simp only [arun, badG, wants, aop, aval, raw, PV.isL, withV, withS, AS.put, tget_tset, tget, deref, aload, cut, astore, splice, amem, okV, okC, PV.cells, reptr, killOk, abin, elems, kill, avals, List.all_nil, Option.isSome_some, Bool.and_true, Bool.true_and, Bool.not_true, Bool.not_false, decide_true, decide_false, if_true, if_false, Bool.false_eq_true, reduceIte, Nat.reduceEqDiff, List.getElem?_cons_succ, List.getElem?_cons_zero, Nat.reduceAdd, Nat.zero_add, Nat.add_zero, beq_self_eq_true, reduceCtorEq, List.length_cons, List.length_nil, Nat.reduceLeDiff, List.take_succ_cons, List.take_zero, List.drop_succ_cons, List.drop_zero, List.cons_append, List.nil_append, List.append_nil, ne_eq, not_false_eq_true, List.take_nil, List.drop_nil, beq_tf, beq_ft, h9]
        · simp only [arun, badG, wants, aop, aval, raw, PV.isL, withV, withS, AS.put, tget_tset, tget, deref, aload, cut, astore, splice, amem, okV, okC, PV.cells, reptr, killOk, abin, elems, kill, avals, List.all_nil, Option.isSome_some, Bool.and_true, Bool.true_and, Bool.not_true, Bool.not_false, decide_true, decide_false, if_true, if_false, Bool.false_eq_true, reduceIte, Nat.reduceEqDiff, List.getElem?_cons_succ, List.getElem?_cons_zero, Nat.reduceAdd, Nat.zero_add, Nat.add_zero, beq_self_eq_true, reduceCtorEq, List.length_cons, List.length_nil, Nat.reduceLeDiff, List.take_succ_cons, List.take_zero, List.drop_succ_cons, List.drop_zero, List.cons_append, List.nil_append, List.append_nil, ne_eq, not_false_eq_true, List.take_nil, List.drop_nil, beq_tf, beq_ft]
          rw [wrapI (by omega) (by omega)]
          rfl
    · rintro σ ⟨l, lc, i, rfl, h1, h5, h8, h9, h10, hi⟩
      have hlt : ¬ ((i : Nat) : Int) < (xs.length : Int) := by omega
      have hie : i = xs.length := by omega
      apply WP.reg
      · intro ex
        simp only [arun, badG, wants, aop, aval, raw, PV.isL, withV, withS, AS.put, tget_tset, tget, deref, aload, cut, astore, splice, amem, okV, okC, PV.cells, reptr, killOk, abin, elems, kill, avals, List.all_nil, Option.isSome_some, Bool.and_true, Bool.true_and, Bool.not_true, Bool.not_false, decide_true, decide_false, if_true, if_false, Bool.false_eq_true, reduceIte, Nat.reduceEqDiff, List.getElem?_cons_succ, List.getElem?_cons_zero, Nat.reduceAdd, Nat.zero_add, Nat.add_zero, beq_self_eq_true, reduceCtorEq, List.length_cons, List.length_nil, Nat.reduceLeDiff, List.take_succ_cons, List.take_zero, List.drop_succ_cons, List.drop_zero, List.cons_append, List.nil_append, List.append_nil, ne_eq, not_false_eq_true, List.take_nil, List.drop_nil, beq_tf, beq_ft, h9, h10, hlt]
        rfl
      apply WP.seq
      apply WP.condF
      · simp only [arun, badG, wants, aop, aval, raw, PV.isL, withV, withS, AS.put, tget_tset, tget, deref, aload, cut, astore, splice, amem, okV, okC, PV.cells, reptr, killOk, abin, elems, kill, avals, List.all_nil, Option.isSome_some, Bool.and_true, Bool.true_and, Bool.not_true, Bool.not_false, decide_true, decide_false, if_true, if_false, Bool.false_eq_true, reduceIte, Nat.reduceEqDiff, List.getElem?_cons_succ, List.getElem?_cons_zero, Nat.reduceAdd, Nat.zero_add, Nat.add_zero, beq_self_eq_true, reduceCtorEq, List.length_cons, List.length_nil, Nat.reduceLeDiff, List.take_succ_cons, List.take_zero, List.drop_succ_cons, List.drop_zero, List.cons_append, List.nil_append, List.append_nil, ne_eq, not_false_eq_true, List.take_nil, List.drop_nil, beq_tf, beq_ft]
      apply WP.exit
      show WP _ _ _ _
      subst hie
      have hnL : (mapV xs.length).isL = false := by cases xs.length <;> rfl
      simp only [PV.isL] at hnL
      apply WP.reg
      · intro ex
        simp only [arun, badG, wants, aop, aval, raw, PV.isL, withV, withS, AS.put, tget_tset, tget, deref, aload, cut, astore, splice, amem, okV, okC, PV.cells, reptr, killOk, abin, elems, kill, avals, List.all_nil, Option.isSome_some, Bool.and_true, Bool.true_and, Bool.not_true, Bool.not_false, decide_true, decide_false, if_true, if_false, Bool.false_eq_true, reduceIte, Nat.reduceEqDiff, List.getElem?_cons_succ, List.getElem?_cons_zero, Nat.reduceAdd, Nat.zero_add, Nat.add_zero, beq_self_eq_true, reduceCtorEq, List.length_cons, List.length_nil, Nat.reduceLeDiff, List.take_succ_cons, List.take_zero, List.drop_succ_cons, List.drop_zero, List.cons_append, List.nil_append, List.append_nil, ne_eq, not_false_eq_true, List.take_nil, List.drop_nil, beq_tf, beq_ft, h5, hnL]
        rfl
      apply WP.ret
      refine ⟨rfl, ?_⟩
      apply Exists.intro
      apply And.intro
      · simp only [c91, resOfs, resOf, arun, badG, wants, aop, aval, raw, PV.isL, withV, withS, AS.put, tget_tset, tget, deref, aload, cut, astore, splice, amem, okV, okC, PV.cells, reptr, killOk, abin, elems, kill, avals, List.all_nil, Option.isSome_some, Bool.and_true, Bool.true_and, Bool.not_true, Bool.not_false, decide_true, decide_false, if_true, if_false, Bool.false_eq_true, reduceIte, Nat.reduceEqDiff, List.getElem?_cons_succ, List.getElem?_cons_zero, Nat.reduceAdd, Nat.zero_add, Nat.add_zero, beq_self_eq_true, reduceCtorEq, List.length_cons, List.length_nil, Nat.reduceLeDiff, List.take_succ_cons, List.take_zero, List.drop_succ_cons, List.drop_zero, List.cons_append, List.nil_append, List.append_nil, ne_eq, not_false_eq_true, List.take_nil, List.drop_nil, beq_tf, beq_ft, hnL]
        rfl
      · exact ⟨rfl, rfl⟩
    · exact ⟨_, [], 0, rfl, by simp only [arun, badG, wants, aop, aval, raw, PV.isL, withV, withS, AS.put, tget_tset, tget, deref, aload, cut, astore, splice, amem, okV, okC, PV.cells, reptr, killOk, abin, elems, kill, avals, List.all_nil, Option.isSome_some, Bool.and_true, Bool.true_and, Bool.not_true, Bool.not_false, decide_true, decide_false, if_true, if_false, Bool.false_eq_true, reduceIte, Nat.reduceEqDiff, List.getElem?_cons_succ, List.getElem?_cons_zero, Nat.reduceAdd, Nat.zero_add, Nat.add_zero, beq_self_eq_true, reduceCtorEq, List.length_cons, List.length_nil, Nat.reduceLeDiff, List.take_succ_cons, List.take_zero, List.drop_succ_cons, List.drop_zero, List.cons_append, List.nil_append, List.append_nil, ne_eq, not_false_eq_true, List.take_nil, List.drop_nil, beq_tf, beq_ft], by simp only [arun, badG, wants, aop, aval, raw, PV.isL, withV, withS, AS.put, tget_tset, tget, deref, aload, cut, astore, splice, amem, okV, okC, PV.cells, reptr, killOk, abin, elems, kill, avals, List.all_nil, Option.isSome_some, Bool.and_true, Bool.true_and, Bool.not_true, Bool.not_false, decide_true, decide_false, if_true, if_false, Bool.false_eq_true, reduceIte, Nat.reduceEqDiff, List.getElem?_cons_succ, List.getElem?_cons_zero, Nat.reduceAdd, Nat.zero_add, Nat.add_zero, beq_self_eq_true, reduceCtorEq, List.length_cons, List.length_nil, Nat.reduceLeDiff, List.take_succ_cons, List.take_zero, List.drop_succ_cons, List.drop_zero, List.cons_append, List.nil_append, List.append_nil, ne_eq, not_false_eq_true, List.take_nil, List.drop_nil, beq_tf, beq_ft, mapV], by simp only [arun, badG, wants, aop, aval, raw, PV.isL, withV, withS, AS.put, tget_tset, tget, deref, aload, cut, astore, splice, amem, okV, okC, PV.cells, reptr, killOk, abin, elems, kill, avals, List.all_nil, Option.isSome_some, Bool.and_true, Bool.true_and, Bool.not_true, Bool.not_false, decide_true, decide_false, if_true, if_false, Bool.false_eq_true, reduceIte, Nat.reduceEqDiff, List.getElem?_cons_succ, List.getElem?_cons_zero, Nat.reduceAdd, Nat.zero_add, Nat.add_zero, beq_self_eq_true, reduceCtorEq, List.length_cons, List.length_nil, Nat.reduceLeDiff, List.take_succ_cons, List.take_zero, List.drop_succ_cons, List.drop_zero, List.cons_append, List.nil_append, List.append_nil, ne_eq, not_false_eq_true, List.take_nil, List.drop_nil, beq_tf, beq_ft], by simp only [arun, badG, wants, aop, aval, raw, PV.isL, withV, withS, AS.put, tget_tset, tget, deref, aload, cut, astore, splice, amem, okV, okC, PV.cells, reptr, killOk, abin, elems, kill, avals, List.all_nil, Option.isSome_some, Bool.and_true, Bool.true_and, Bool.not_true, Bool.not_false, decide_true, decide_false, if_true, if_false, Bool.false_eq_true, reduceIte, Nat.reduceEqDiff, List.getElem?_cons_succ, List.getElem?_cons_zero, Nat.reduceAdd, Nat.zero_add, Nat.add_zero, beq_self_eq_true, reduceCtorEq, List.length_cons, List.length_nil, Nat.reduceLeDiff, List.take_succ_cons, List.take_zero, List.drop_succ_cons, List.drop_zero, List.cons_append, List.nil_append, List.append_nil, ne_eq, not_false_eq_true, List.take_nil, List.drop_nil, beq_tf, beq_ft], by simp only [arun, badG, wants, aop, aval, raw, PV.isL, withV, withS, AS.put, tget_tset, tget, deref, aload, cut, astore, splice, amem, okV, okC, PV.cells, reptr, killOk, abin, elems, kill, avals, List.all_nil, Option.isSome_some, Bool.and_true, Bool.true_and, Bool.not_true, Bool.not_false, decide_true, decide_false, if_true, if_false, Bool.false_eq_true, reduceIte, Nat.reduceEqDiff, List.getElem?_cons_succ, List.getElem?_cons_zero, Nat.reduceAdd, Nat.zero_add, Nat.add_zero, beq_self_eq_true, reduceCtorEq, List.length_cons, List.length_nil, Nat.reduceLeDiff, List.take_succ_cons, List.take_zero, List.drop_succ_cons, List.drop_zero, List.cons_append, List.nil_append, List.append_nil, ne_eq, not_false_eq_true, List.take_nil, List.drop_nil, beq_tf, beq_ft]; rfl, by omega⟩
  exact hr
end
end Go.Proofs.YtkgmeeenacnhfaaGreat.Eng
namespace Go.Proofs.YtkgmeeenacnhfaaGreat.Eng
open Go
def srtS (ns : List Int) : Nat → Store
  | 0 => {}
  | i + 1 => { boxes := List.replicate i none ++ [some (asInts (sortD ns))] }
theorem smallI_asInts : ∀ {l : List Int}, (∀ n ∈ l, 0 ≤ n ∧ n ≤ 1099511627776) → smallI (asInts l) = some l
  | [], _ => rfl
  | n :: r, h => by
    have h1 := h n List.mem_cons_self
    have h2 := smallI_asInts (l := r) (fun m hm => h m (List.mem_cons_of_mem _ hm))
    simp only [asInts, smallI, h2, h1, and_self, if_true]
theorem sort_map {ns : List Int} {n : Nat} (hl : ns.length = n) (hn : n ≤ 1048576) (h : ∀ m ∈ ns, 0 ≤ m ∧ m ≤ 1048576) : sortG (mapS ns n) [mapV n, .fn 93 [] []] = some (.tup [], srtS ns n) := by
  cases n with
  | zero => rfl
  | succ k =>
    have hb : (mapS ns (k + 1)).boxes[k]? = some (some (asInts ns)) := by
      have : ns.take (k + 1) = ns := List.take_of_length_le (by omega)
      simp [mapS, this]
    simp only [mapV, sortG, hb]
    rw [if_pos ⟨by rw [asInts_length, hl], by omega⟩, smallI_asInts (fun m hm => ⟨(h m hm).1, by have := (h m hm).2; omega⟩)]
    simp only [srtS, mapS]
    congr 3
    rw [List.set_append_right _ _ (by simp), List.length_replicate, Nat.sub_self]
    rfl
section
variable {σ σ1 σ' : AS} {e : AExit}
theorem need_leaf {a b c0 c1 c2 c3 ty op off : Int} {xs : List PV} (ht : Tr (tpv a b c0 c1 c2 c3 0 ty op off xs)) : EvP tbN false 36 [tpv a b c0 c1 c2 c3 0 ty op off xs] (.int .i64 (if a < 0 then 0 else 1)) := by
  have hc : closeds [tpv a b c0 c1 c2 c3 0 ty op off xs] = true := by simp only [closeds, tr_closed ht, Bool.and_true]
  obtain ⟨r, S', rfl, hr⟩ : ∃ r S', (r = .int .i64 (if a < 0 then 0 else 1)) ∧ EvS tbN 36 [tpv a b c0 c1 c2 c3 0 ty op off xs] {} r S' := by
    refine EvS.wp (R := fun r _ => r = .int .i64 (if a < 0 then 0 else 1)) (fn := c36) rfl rfl ?_
    apply WP.reg
    · intro ex
      simp only [arun, badG, wants, aop, aval, raw, PV.isL, withV, withS, AS.put, tget_tset, tget, deref, aload, cut, astore, splice, amem, okV, okC, PV.cells, reptr, killOk, abin, elems, kill, avals, List.all_nil, Option.isSome_some, Bool.and_true, Bool.true_and, Bool.not_true, Bool.not_false, decide_true, decide_false, if_true, if_false, Bool.false_eq_true, reduceIte, Nat.reduceEqDiff, List.getElem?_cons_succ, List.getElem?_cons_zero, Nat.reduceAdd, Nat.zero_add, Nat.add_zero, beq_self_eq_true, reduceCtorEq, List.length_cons, List.length_nil, Nat.reduceLeDiff, List.take_succ_cons, List.take_zero, List.drop_succ_cons, List.drop_zero, List.cons_append, List.nil_append, List.append_nil, ne_eq, not_false_eq_true, List.take_nil, List.drop_nil, beq_tf, beq_ft, tpv]
      rfl
    apply WP.seq
    apply WP.seq
    apply WP.reg1
    · intro ex
      simp only [arun, badG, wants, aop, aval, raw, PV.isL, withV, withS, AS.put, tget_tset, tget, deref, aload, cut, astore, splice, amem, okV, okC, PV.cells, reptr, killOk, abin, elems, kill, avals, List.all_nil, Option.isSome_some, Bool.and_true, Bool.true_and, Bool.not_true, Bool.not_false, decide_true, decide_false, if_true, if_false, Bool.false_eq_true, reduceIte, Nat.reduceEqDiff, List.getElem?_cons_succ, List.getElem?_cons_zero, Nat.reduceAdd, Nat.zero_add, Nat.add_zero, beq_self_eq_true, reduceCtorEq, List.length_cons, List.length_nil, Nat.reduceLeDiff, List.take_succ_cons, List.take_zero, List.drop_succ_cons, List.drop_zero, List.cons_append, List.nil_append, List.append_nil, ne_eq, not_false_eq_true, List.take_nil, List.drop_nil, beq_tf, beq_ft, tpv]
      rfl
    apply WP.condT
    · simp only [arun, badG, wants, aop, aval, raw, PV.isL, withV, withS, AS.put, tget_tset, tget, deref, aload, cut, astore, splice, amem, okV, okC, PV.cells, reptr, killOk, abin, elems, kill, avals, List.all_nil, Option.isSome_some, Bool.and_true, Bool.true_and, Bool.not_true, Bool.not_false, decide_true, decide_false, if_true, if_false, Bool.false_eq_true, reduceIte, Nat.reduceEqDiff, List.getElem?_cons_succ, List.getElem?_cons_zero, Nat.reduceAdd, Nat.zero_add, Nat.add_zero, beq_self_eq_true, reduceCtorEq, List.length_cons, List.length_nil, Nat.reduceLeDiff, List.take_succ_cons, List.take_zero, List.drop_succ_cons, List.drop_zero, List.cons_append, List.nil_append, List.append_nil, ne_eq, not_false_eq_true, List.take_nil, List.drop_nil, beq_tf, beq_ft]
    apply WP.seq
    apply WP.seq
    by_cases h : a < 0
    · apply WP.reg1
      · intro ex
        simp only [arun, badG, wants, aop, aval, raw, PV.isL, withV, withS, AS.put, tget_tset, tget, deref, aload, cut, astore, splice, amem, okV, okC, PV.cells, reptr, killOk, abin, elems, kill, avals, List.all_nil, Option.isSome_some, Bool.and_true, Bool.true_and, Bool.not_true, Bool.not_false, decide_true, decide_false, if_true, if_false, Bool.false_eq_true, reduceIte, Nat.reduceEqDiff, List.getElem?_cons_succ, List.getElem?_cons_zero, Nat.reduceAdd, Nat.zero_add, Nat.add_zero, beq_self_eq_true, reduceCtorEq, List.length_cons, List.length_nil, Nat.reduceLeDiff, List.take_succ_cons, List.take_zero, List.drop_succ_cons, List.drop_zero, List.cons_append, List.nil_append, List.append_nil, ne_eq, not_false_eq_true, List.take_nil, List.drop_nil, beq_tf, beq_ft, h]
        rfl
      apply WP.condT
      · simp only [arun, badG, wants, aop, aval, raw, PV.isL, withV, withS, AS.put, tget_tset, tget, deref, aload, cut, astore, splice, amem, okV, okC, PV.cells, reptr, killOk, abin, elems, kill, avals, List.all_nil, Option.isSome_some, Bool.and_true, Bool.true_and, Bool.not_true, Bool.not_false, decide_true, decide_false, if_true, if_false, Bool.false_eq_true, reduceIte, Nat.reduceEqDiff, List.getElem?_cons_succ, List.getElem?_cons_zero, Nat.reduceAdd, Nat.zero_add, Nat.add_zero, beq_self_eq_true, reduceCtorEq, List.length_cons, List.length_nil, Nat.reduceLeDiff, List.take_succ_cons, List.take_zero, List.drop_succ_cons, List.drop_zero, List.cons_append, List.nil_append, List.append_nil, ne_eq, not_false_eq_true, List.take_nil, List.drop_nil, beq_tf, beq_ft]
      apply WP.reg
      · intro ex
        simp only [arun, badG, wants, aop, aval, raw, PV.isL, withV, withS, AS.put, tget_tset, tget, deref, aload, cut, astore, splice, amem, okV, okC, PV.cells, reptr, killOk, abin, elems, kill, avals, List.all_nil, Option.isSome_some, Bool.and_true, Bool.true_and, Bool.not_true, Bool.not_false, decide_true, decide_false, if_true, if_false, Bool.false_eq_true, reduceIte, Nat.reduceEqDiff, List.getElem?_cons_succ, List.getElem?_cons_zero, Nat.reduceAdd, Nat.zero_add, Nat.add_zero, beq_self_eq_true, reduceCtorEq, List.length_cons, List.length_nil, Nat.reduceLeDiff, List.take_succ_cons, List.take_zero, List.drop_succ_cons, List.drop_zero, List.cons_append, List.nil_append, List.append_nil, ne_eq, not_false_eq_true, List.take_nil, List.drop_nil, beq_tf, beq_ft]
        rfl
      apply WP.ret
      refine ⟨rfl, ?_⟩
      apply Exists.intro
      apply And.intro
      · simp only [c36, resOfs, resOf, arun, badG, wants, aop, aval, raw, PV.isL, withV, withS, AS.put, tget_tset, tget, deref, aload, cut, astore, splice, amem, okV, okC, PV.cells, reptr, killOk, abin, elems, kill, avals, List.all_nil, Option.isSome_some, Bool.and_true, Bool.true_and, Bool.not_true, Bool.not_false, decide_true, decide_false, if_true, if_false, Bool.false_eq_true, reduceIte, Nat.reduceEqDiff, List.getElem?_cons_succ, List.getElem?_cons_zero, Nat.reduceAdd, Nat.zero_add, Nat.add_zero, beq_self_eq_true, reduceCtorEq, List.length_cons, List.length_nil, Nat.reduceLeDiff, List.take_succ_cons, List.take_zero, List.drop_succ_cons, List.drop_zero, List.cons_append, List.nil_append, List.append_nil, ne_eq, not_false_eq_true, List.take_nil, List.drop_nil, beq_tf, beq_ft]
        rfl
      · simp only [packR, h, if_true]
    · apply WP.reg1
      · intro ex
        simp only [arun, badG, wants, aop, aval, raw, PV.isL, withV, withS, AS.put, tget_tset, tget, deref, aload, cut, astore, splice, amem, okV, okC, PV.cells, reptr, killOk, abin, elems, kill, avals, List.all_nil, Option.isSome_some, Bool.and_true, Bool.true_and, Bool.not_true, Bool.not_false, decide_true, decide_false, if_true, if_false, Bool.false_eq_true, reduceIte, Nat.reduceEqDiff, List.getElem?_cons_succ, List.getElem?_cons_zero, Nat.reduceAdd, Nat.zero_add, Nat.add_zero, beq_self_eq_true, reduceCtorEq, List.length_cons, List.length_nil, Nat.reduceLeDiff, List.take_succ_cons, List.take_zero, List.drop_succ_cons, List.drop_zero, List.cons_append, List.nil_append, List.append_nil, ne_eq, not_false_eq_true, List.take_nil, List.drop_nil, beq_tf, beq_ft, h]
        rfl
      apply WP.condF
      · simp only [arun, badG, wants, aop, aval, raw, PV.isL, withV, withS, AS.put, tget_tset, tget, deref, aload, cut, astore, splice, amem, okV, okC, PV.cells, reptr, killOk, abin, elems, kill, avals, List.all_nil, Option.isSome_some, Bool.and_true, Bool.true_and, Bool.not_true, Bool.not_false, decide_true, decide_false, if_true, if_false, Bool.false_eq_true, reduceIte, Nat.reduceEqDiff, List.getElem?_cons_succ, List.getElem?_cons_zero, Nat.reduceAdd, Nat.zero_add, Nat.add_zero, beq_self_eq_true, reduceCtorEq, List.length_cons, List.length_nil, Nat.reduceLeDiff, List.take_succ_cons, List.take_zero, List.drop_succ_cons, List.drop_zero, List.cons_append, List.nil_append, List.append_nil, ne_eq, not_false_eq_true, List.take_nil, List.drop_nil, beq_tf, beq_ft]
      apply WP.skip
      apply WP.reg
      · intro ex
        simp only [arun, badG, wants, aop, aval, raw, PV.isL, withV, withS, AS.put, tget_tset, tget, deref, aload, cut, astore, splice, amem, okV, okC, PV.cells, reptr, killOk, abin, elems, kill, avals, List.all_nil, Option.isSome_some, Bool.and_true, Bool.true_and, Bool.not_true, Bool.not_false, decide_true, decide_false, if_true, if_false, Bool.false_eq_true, reduceIte, Nat.reduceEqDiff, List.getElem?_cons_succ, List.getElem?_cons_zero, Nat.reduceAdd, Nat.zero_add, Nat.add_zero, beq_self_eq_true, reduceCtorEq, List.length_cons, List.length_nil, Nat.reduceLeDiff, List.take_succ_cons, List.take_zero, List.drop_succ_cons, List.drop_zero, List.cons_append, List.nil_append, List.append_nil, ne_eq, not_false_eq_true, List.take_nil, List.drop_nil, beq_tf, beq_ft]
        rfl
      apply WP.ret
      refine ⟨rfl, ?_⟩
      apply Exists.intro
      apply And.intro
      · simp only [c36, resOfs, resOf, arun, badG, wants, aop, aval, raw, PV.isL, withV, withS, AS.put, tget_tset, tget, deref, aload, cut, astore, splice, amem, okV, okC, PV.cells, reptr, killOk, abin, elems, kill, avals, List.all_nil, Option.isSome_some, Bool.and_true, Bool.true_and, Bool.not_true, Bool.not_false, decide_true, decide_false, if_true, if_false, Bool.false_eq_true, reduceIte, Nat.reduceEqDiff, List.getElem?_cons_succ, List.getElem?_cons_zero, Nat.reduceAdd, Nat.zero_add, Nat.add_zero, beq_self_eq_true, reduceCtorEq, List.length_cons, List.length_nil, Nat.reduceLeDiff, List.take_succ_cons, List.take_zero, List.drop_succ_cons, List.drop_zero, List.cons_append, List.nil_append, List.append_nil, ne_eq, not_false_eq_true, List.take_nil, List.drop_nil, beq_tf, beq_ft]
        rfl
      · simp only [packR, h, if_false]
  exact EvP.of (own := false) hc hr rfl rfl
def NdI (ns : List Int) (k : Nat) (n : Nat) (σ : AS) : Prop := ∃ (l lc : List PV) (i : Nat) (acc : Int), σ = { tmps := l, loc := lc, S := srtS ns (k + 1) } ∧
  tget l 19 = .arr k 0 (k + 1) 1 ∧ tget l 20 = .int .i64 ((k + 1 : Nat) : Int) ∧ tget l 21 = .int .i64 i ∧ tget l 4 = .int .i64 acc ∧ i + n = k + 1 ∧ goN i ((sortD ns).drop i) acc = needV ns
theorem need_node {a b c0 c1 c2 c3 kd ty op off : Int} {xs : List PV} {ns : List Int} (hkd : kd ≠ 0) (hxl : xs.length ≤ 1048576) (hx : ∀ x ∈ xs, Tr x) (hl : ns.length = xs.length) (hns : ∀ n ∈ ns, 0 ≤ n ∧ n ≤ 1048576)
    (h : ∀ (i : Nat) (x : PV), xs[i]? = some x → ∃ n, ns[i]? = some n ∧ EvP tbN false 36 [x] (.int .i64 n)) : EvP tbN false 36 [tpv a b c0 c1 c2 c3 kd ty op off xs] (.int .i64 (needV ns)) := by
  have ht : Tr (tpv a b c0 c1 c2 c3 kd ty op off xs) := .mk a b c0 c1 c2 c3 kd ty op off xs hxl hx
  have hc : closeds [tpv a b c0 c1 c2 c3 kd ty op off xs] = true := by simp only [closeds, tr_closed ht, Bool.and_true]
  have hmap : EvF tbN 91 [.list 0 xs, .fn 36 [] []] {} (mapV xs.length) (mapS ns xs.length) := EvF.shared rfl (mapped_ok hl hxl hx h)
  have hsort : EvF tbN 92 [mapV xs.length, .fn 93 [] []] (mapS ns xs.length) (.tup []) (srtS ns xs.length) := EvF.store rfl (sort_map hl hxl hns)
  obtain ⟨r, S', rfl, hr⟩ : ∃ r S', (r = .int .i64 (needV ns)) ∧ EvS tbN 36 [tpv a b c0 c1 c2 c3 kd ty op off xs] {} r S' := by
    refine EvS.wp (R := fun r _ => r = .int .i64 (needV ns)) (fn := c36) rfl rfl ?_
    apply WP.reg
    · intro ex
      simp only [arun, badG, wants, aop, aval, raw, PV.isL, withV, withS, AS.put, tget_tset, tget, deref, aload, cut, astore, splice, amem, okV, okC, PV.cells, reptr, killOk, abin, elems, kill, avals, List.all_nil, Option.isSome_some, Bool.and_true, Bool.true_and, Bool.not_true, Bool.not_false, decide_true, decide_false, if_true, if_false, Bool.false_eq_true, reduceIte, Nat.reduceEqDiff, List.getElem?_cons_succ, List.getElem?_cons_zero, Nat.reduceAdd, Nat.zero_add, Nat.add_zero, beq_self_eq_true, reduceCtorEq, List.length_cons, List.length_nil, Nat.reduceLeDiff, List.take_succ_cons, List.take_zero, List.drop_succ_cons, List.drop_zero, List.cons_append, List.nil_append, List.append_nil, ne_eq, not_false_eq_true, List.take_nil, List.drop_nil, beq_tf, beq_ft, tpv]
      rfl
    apply WP.seq
    apply WP.seq
    apply WP.reg1
    · intro ex
      simp only [arun, badG, wants, aop, aval, raw, PV.isL, withV, withS, AS.put, tget_tset, tget, deref, aload, cut, astore, splice, amem, okV, okC, PV.cells, reptr, killOk, abin, elems, kill, avals, List.all_nil, Option.isSome_some, Bool.and_true, Bool.true_and, Bool.not_true, Bool.not_false, decide_true, decide_false, if_true, if_false, Bool.false_eq_true, reduceIte, Nat.reduceEqDiff, List.getElem?_cons_succ, List.getElem?_cons_zero, Nat.reduceAdd, Nat.zero_add, Nat.add_zero, beq_self_eq_true, reduceCtorEq, List.length_cons, List.length_nil, Nat.reduceLeDiff, List.take_succ_cons, List.take_zero, List.drop_succ_cons, List.drop_zero, List.cons_append, List.nil_append, List.append_nil, ne_eq, not_false_eq_true, List.take_nil, List.drop_nil, beq_tf, beq_ft, tpv]
      rfl
    apply WP.condF
    · simp only [arun, badG, wants, aop, aval, raw, PV.isL, withV, withS, AS.put, tget_tset, tget, deref, aload, cut, astore, splice, amem, okV, okC, PV.cells, reptr, killOk, abin, elems, kill, avals, List.all_nil, Option.isSome_some, Bool.and_true, Bool.true_and, Bool.not_true, Bool.not_false, decide_true, decide_false, if_true, if_false, Bool.false_eq_true, reduceIte, Nat.reduceEqDiff, List.getElem?_cons_succ, List.getElem?_cons_zero, Nat.reduceAdd, Nat.zero_add, Nat.add_zero, beq_self_eq_true, reduceCtorEq, List.length_cons, List.length_nil, Nat.reduceLeDiff, List.take_succ_cons, List.take_zero, List.drop_succ_cons, List.drop_zero, List.cons_append, List.nil_append, List.append_nil, ne_eq, not_false_eq_true, List.take_nil, List.drop_nil, beq_tf, beq_ft, beq_eq_false_iff_ne.2 hkd]
    apply WP.skip
    apply WP.regs
    · apply EvR.split 2
      · intro ex
        simp only [arun, badG, wants, aop, aval, raw, PV.isL, withV, withS, AS.put, tget_tset, tget, deref, aload, cut, astore, splice, amem, okV, okC, PV.cells, reptr, killOk, abin, elems, kill, avals, List.all_nil, Option.isSome_some, Bool.and_true, Bool.true_and, Bool.not_true, Bool.not_false, decide_true, decide_false, if_true, if_false, Bool.false_eq_true, reduceIte, Nat.reduceEqDiff, List.getElem?_cons_succ, List.getElem?_cons_zero, Nat.reduceAdd, Nat.zero_add, Nat.add_zero, beq_self_eq_true, reduceCtorEq, List.length_cons, List.length_nil, Nat.reduceLeDiff, List.take_succ_cons, List.take_zero, List.drop_succ_cons, List.drop_zero, List.cons_append, List.nil_append, List.append_nil, ne_eq, not_false_eq_true, List.take_nil, List.drop_nil, beq_tf, beq_ft]
        rfl
      · simp only [List.drop_succ_cons, List.drop_zero]
        apply EvR.call
        · simp only [arun, badG, wants, aop, aval, raw, PV.isL, withV, withS, AS.put, tget_tset, tget, deref, aload, cut, astore, splice, amem, okV, okC, PV.cells, reptr, killOk, abin, elems, kill, avals, List.all_nil, Option.isSome_some, Bool.and_true, Bool.true_and, Bool.not_true, Bool.not_false, decide_true, decide_false, if_true, if_false, Bool.false_eq_true, reduceIte, Nat.reduceEqDiff, List.getElem?_cons_succ, List.getElem?_cons_zero, Nat.reduceAdd, Nat.zero_add, Nat.add_zero, beq_self_eq_true, reduceCtorEq, List.length_cons, List.length_nil, Nat.reduceLeDiff, List.take_succ_cons, List.take_zero, List.drop_succ_cons, List.drop_zero, List.cons_append, List.nil_append, List.append_nil, ne_eq, not_false_eq_true, List.take_nil, List.drop_nil, beq_tf, beq_ft]
          rfl
        · exact hmap
        · apply EvR.of
          intro ex
          have hnL : (mapV xs.length).isL = false := by cases xs.length <;> rfl
          simp only [PV.isL] at hnL
          simp only [arun, badG, wants, aop, aval, raw, PV.isL, withV, withS, AS.put, tget_tset, tget, deref, aload, cut, astore, splice, amem, okV, okC, PV.cells, reptr, killOk, abin, elems, kill, avals, List.all_nil, Option.isSome_some, Bool.and_true, Bool.true_and, Bool.not_true, Bool.not_false, decide_true, decide_false, if_true, if_false, Bool.false_eq_true, reduceIte, Nat.reduceEqDiff, List.getElem?_cons_succ, List.getElem?_cons_zero, Nat.reduceAdd, Nat.zero_add, Nat.add_zero, beq_self_eq_true, reduceCtorEq, List.length_cons, List.length_nil, Nat.reduceLeDiff, List.take_succ_cons, List.take_zero, List.drop_succ_cons, List.drop_zero, List.cons_append, List.nil_append, List.append_nil, ne_eq, not_false_eq_true, List.take_nil, List.drop_nil, beq_tf, beq_ft, hnL]
          rfl
    cases hn : xs.length with
    | zero =>
      rw [hn] at hsort
      simp only [mapV] at hsort
      apply WP.regs
      · apply EvR.split 1
        · intro ex
          simp only [arun, badG, wants, aop, aval, raw, PV.isL, withV, withS, AS.put, tget_tset, tget, deref, aload, cut, astore, splice, amem, okV, okC, PV.cells, reptr, killOk, abin, elems, kill, avals, List.all_nil, Option.isSome_some, Bool.and_true, Bool.true_and, Bool.not_true, Bool.not_false, decide_true, decide_false, if_true, if_false, Bool.false_eq_true, reduceIte, Nat.reduceEqDiff, List.getElem?_cons_succ, List.getElem?_cons_zero, Nat.reduceAdd, Nat.zero_add, Nat.add_zero, beq_self_eq_true, reduceCtorEq, List.length_cons, List.length_nil, Nat.reduceLeDiff, List.take_succ_cons, List.take_zero, List.drop_succ_cons, List.drop_zero, List.cons_append, List.nil_append, List.append_nil, ne_eq, not_false_eq_true, List.take_nil, List.drop_nil, beq_tf, beq_ft, mapV, mapS]
          rfl
        · simp only [List.drop_succ_cons, List.drop_zero]
          apply EvR.call
          · simp only [arun, badG, wants, aop, aval, raw, PV.isL, withV, withS, AS.put, tget_tset, tget, deref, aload, cut, astore, splice, amem, okV, okC, PV.cells, reptr, killOk, abin, elems, kill, avals, List.all_nil, Option.isSome_some, Bool.and_true, Bool.true_and, Bool.not_true, Bool.not_false, decide_true, decide_false, if_true, if_false, Bool.false_eq_true, reduceIte, Nat.reduceEqDiff, List.getElem?_cons_succ, List.getElem?_cons_zero, Nat.reduceAdd, Nat.zero_add, Nat.add_zero, beq_self_eq_true, reduceCtorEq, List.length_cons, List.length_nil, Nat.reduceLeDiff, List.take_succ_cons, List.take_zero, List.drop_succ_cons, List.drop_zero, List.cons_append, List.nil_append, List.append_nil, ne_eq, not_false_eq_true, List.take_nil, List.drop_nil, beq_tf, beq_ft]
            rfl
          · exact hsort
          · exact EvR.nil
      apply WP.reg
      · intro ex
        simp only [arun, badG, wants, aop, aval, raw, PV.isL, withV, withS, AS.put, tget_tset, tget, deref, aload, cut, astore, splice, amem, okV, okC, PV.cells, reptr, killOk, abin, elems, kill, avals, List.all_nil, Option.isSome_some, Bool.and_true, Bool.true_and, Bool.not_true, Bool.not_false, decide_true, decide_false, if_true, if_false, Bool.false_eq_true, reduceIte, Nat.reduceEqDiff, List.getElem?_cons_succ, List.getElem?_cons_zero, Nat.reduceAdd, Nat.zero_add, Nat.add_zero, beq_self_eq_true, reduceCtorEq, List.length_cons, List.length_nil, Nat.reduceLeDiff, List.take_succ_cons, List.take_zero, List.drop_succ_cons, List.drop_zero, List.cons_append, List.nil_append, List.append_nil, ne_eq, not_false_eq_true, List.take_nil, List.drop_nil, beq_tf, beq_ft]
        rfl
      apply WP.seq
      apply WP.reg
      · intro ex
        simp only [arun, badG, wants, aop, aval, raw, PV.isL, withV, withS, AS.put, tget_tset, tget, deref, aload, cut, astore, splice, amem, okV, okC, PV.cells, reptr, killOk, abin, elems, kill, avals, List.all_nil, Option.isSome_some, Bool.and_true, Bool.true_and, Bool.not_true, Bool.not_false, decide_true, decide_false, if_true, if_false, Bool.false_eq_true, reduceIte, Nat.reduceEqDiff, List.getElem?_cons_succ, List.getElem?_cons_zero, Nat.reduceAdd, Nat.zero_add, Nat.add_zero, beq_self_eq_true, reduceCtorEq, List.length_cons, List.length_nil, Nat.reduceLeDiff, List.take_succ_cons, List.take_zero, List.drop_succ_cons, List.drop_zero, List.cons_append, List.nil_append, List.append_nil, ne_eq, not_false_eq_true, List.take_nil, List.drop_nil, beq_tf, beq_ft]
        rfl
      apply WP.block
      refine WP.rounds (fun n σ => n = 0 ∧ ∃ l lc S, σ = { tmps := l, loc := lc, S := S } ∧ tget l 20 = .int .i64 0 ∧ tget l 21 = .int .i64 0 ∧ tget l 4 = .int .i64 1) (fun n σ h => absurd h.1 (by omega)) ?_ 0 ?_
      · rintro σ ⟨_, l, lc, S, rfl, h1, h2, h3⟩
        apply WP.reg
        · intro ex
          simp only [arun, badG, wants, aop, aval, raw, PV.isL, withV, withS, AS.put, tget_tset, tget, deref, aload, cut, astore, splice, amem, okV, okC, PV.cells, reptr, killOk, abin, elems, kill, avals, List.all_nil, Option.isSome_some, Bool.and_true, Bool.true_and, Bool.not_true, Bool.not_false, decide_true, decide_false, if_true, if_false, Bool.false_eq_true, reduceIte, Nat.reduceEqDiff, List.getElem?_cons_succ, List.getElem?_cons_zero, Nat.reduceAdd, Nat.zero_add, Nat.add_zero, beq_self_eq_true, reduceCtorEq, List.length_cons, List.length_nil, Nat.reduceLeDiff, List.take_succ_cons, List.take_zero, List.drop_succ_cons, List.drop_zero, List.cons_append, List.nil_append, List.append_nil, ne_eq, not_false_eq_true, List.take_nil, List.drop_nil, beq_tf, beq_ft, h1, h2, Int.lt_irrefl]
          rfl
        apply WP.seq
        apply WP.condF
        · simp only [arun, badG, wants, aop, aval, raw, PV.isL, withV, withS, AS.put, tget_tset, tget, deref, aload, cut, astore, splice, amem, okV, okC, PV.cells, reptr, killOk, abin, elems, kill, avals, List.all_nil, Option.isSome_some, Bool.and_true, Bool.true_and, Bool.not_true, Bool.not_false, decide_true, decide_false, if_true, if_false, Bool.false_eq_true, reduceIte, Nat.reduceEqDiff, List.getElem?_cons_succ, List.getElem?_cons_zero, Nat.reduceAdd, Nat.zero_add, Nat.add_zero, beq_self_eq_true, reduceCtorEq, List.length_cons, List.length_nil, Nat.reduceLeDiff, List.take_succ_cons, List.take_zero, List.drop_succ_cons, List.drop_zero, List.cons_append, List.nil_append, List.append_nil, ne_eq, not_false_eq_true, List.take_nil, List.drop_nil, beq_tf, beq_ft]
        apply WP.exit
        show WP _ _ _ _
        apply WP.reg
        · intro ex
          simp only [arun, badG, wants, aop, aval, raw, PV.isL, withV, withS, AS.put, tget_tset, tget, deref, aload, cut, astore, splice, amem, okV, okC, PV.cells, reptr, killOk, abin, elems, kill, avals, List.all_nil, Option.isSome_some, Bool.and_true, Bool.true_and, Bool.not_true, Bool.not_false, decide_true, decide_false, if_true, if_false, Bool.false_eq_true, reduceIte, Nat.reduceEqDiff, List.getElem?_cons_succ, List.getElem?_cons_zero, Nat.reduceAdd, Nat.zero_add, Nat.add_zero, beq_self_eq_true, reduceCtorEq, List.length_cons, List.length_nil, Nat.reduceLeDiff, List.take_succ_cons, List.take_zero, List.drop_succ_cons, List.drop_zero, List.cons_append, List.nil_append, List.append_nil, ne_eq, not_false_eq_true, List.take_nil, List.drop_nil, beq_tf, beq_ft, h3]
          rfl
        apply WP.ret
        refine ⟨rfl, ?_⟩
        apply Exists.intro
        apply And.intro
        · simp only [c36, resOfs, resOf, arun, badG, wants, aop, aval, raw, PV.isL, withV, withS, AS.put, tget_tset, tget, deref, aload, cut, astore, splice, amem, okV, okC, PV.cells, reptr, killOk, abin, elems, kill, avals, List.all_nil, Option.isSome_some, Bool.and_true, Bool.true_and, Bool.not_true, Bool.not_false, decide_true, decide_false, if_true, if_false, Bool.false_eq_true, reduceIte, Nat.reduceEqDiff, List.getElem?_cons_succ, List.getElem?_cons_zero, Nat.reduceAdd, Nat.zero_add, Nat.add_zero, beq_self_eq_true, reduceCtorEq, List.length_cons, List.length_nil, Nat.reduceLeDiff, List.take_succ_cons, List.take_zero, List.drop_succ_cons, List.drop_zero, List.cons_append, List.nil_append, List.append_nil, ne_eq, not_false_eq_true, List.take_nil, List.drop_nil, beq_tf, beq_ft]
          rfl
        · have : ns = [] := List.eq_nil_of_length_eq_zero (by omega)
          subst this
          rfl
      · exact ⟨rfl, _, _, _, rfl, by simp only [arun, badG, wants, aop, aval, raw, PV.isL, withV, withS, AS.put, tget_tset, tget, deref, aload, cut, astore, splice, amem, okV, okC, PV.cells, reptr, killOk, abin, elems, kill, avals, List.all_nil, Option.isSome_some, Bool.and_true, Bool.true_and, Bool.not_true, Bool.not_false, decide_true, decide_false, if_true, if_false, Bool.false_eq_true, reduceIte, Nat.reduceEqDiff, List.getElem?_cons_succ, List.getElem?_cons_zero, Nat.reduceAdd, Nat.zero_add, Nat.add_zero, beq_self_eq_true, reduceCtorEq, List.length_cons, List.length_nil, Nat.reduceLeDiff, List.take_succ_cons, List.take_zero, List.drop_succ_cons, List.drop_zero, List.cons_append, List.nil_append, List.append_nil, ne_eq, not_false_eq_true, List.take_nil, List.drop_nil, beq_tf, beq_ft]; rfl, by simp only [arun, badG, wants, aop, aval, raw, PV.isL, withV, withS, AS.put, tget_tset, tget, deref, aload, cut, astore, splice, amem, okV, okC, PV.cells, reptr, killOk, abin, elems, kill, avals, List.all_nil, Option.isSome_some, Bool.and_true, Bool.true_and, Bool.not_true, Bool.not_false, decide_true, decide_false, if_true, if_false, Bool.false_eq_true, reduceIte, Nat.reduceEqDiff, List.getElem?_cons_succ, List.getElem?_cons_zero, Nat.reduceAdd, Nat.zero_add, Nat.add_zero, beq_self_eq_true, reduceCtorEq, List.length_cons, List.length_nil, Nat.reduceLeDiff, List.take_succ_cons, List.take_zero, List.drop_succ_cons, List.drop_zero, List.cons_append, List.nil_append, List.append_nil, ne_eq, not_false_eq_true, List.take_nil, List.drop_nil, beq_tf, beq_ft], by simp only [arun, badG, wants, aop, aval, raw, PV.isL, withV, withS, AS.put, tget_tset, tget, deref, aload, cut, astore, splice, amem, okV, okC, PV.cells, reptr, killOk, abin, elems, kill, avals, List.all_nil, Option.isSome_some, Bool.and_true, Bool.true_and, Bool.not_true, Bool.not_false, decide_true, decide_false, if_true, if_false, Bool.false_eq_true, reduceIte, Nat.reduceEqDiff, List.getElem?_cons_succ, List.getElem?_cons_zero, Nat.reduceAdd, Nat.zero_add, Nat.add_zero, beq_self_eq_true, reduceCtorEq, List.length_cons, List.length_nil, Nat.reduceLeDiff, List.take_succ_cons, List.take_zero, List.drop_succ_cons, List.drop_zero, List.cons_append, List.nil_append, List.append_nil, ne_eq, not_false_eq_true, List.take_nil, List.drop_nil, beq_tf, beq_ft]⟩
    | succ k =>
      rw [hn] at hsort
      simp only [mapV] at hsort
      apply WP.regs
      · apply EvR.split 1
        · intro ex
          simp only [arun, badG, wants, aop, aval, raw, PV.isL, withV, withS, AS.put, tget_tset, tget, deref, aload, cut, astore, splice, amem, okV, okC, PV.cells, reptr, killOk, abin, elems, kill, avals, List.all_nil, Option.isSome_some, Bool.and_true, Bool.true_and, Bool.not_true, Bool.not_false, decide_true, decide_false, if_true, if_false, Bool.false_eq_true, reduceIte, Nat.reduceEqDiff, List.getElem?_cons_succ, List.getElem?_cons_zero, Nat.reduceAdd, Nat.zero_add, Nat.add_zero, beq_self_eq_true, reduceCtorEq, List.length_cons, List.length_nil, Nat.reduceLeDiff, List.take_succ_cons, List.take_zero, List.drop_succ_cons, List.drop_zero, List.cons_append, List.nil_append, List.append_nil, ne_eq, not_false_eq_true, List.take_nil, List.drop_nil, beq_tf, beq_ft, mapV]
          rfl
        · simp only [List.drop_succ_cons, List.drop_zero]
          apply EvR.call
          · simp only [arun, badG, wants, aop, aval, raw, PV.isL, withV, withS, AS.put, tget_tset, tget, deref, aload, cut, astore, splice, amem, okV, okC, PV.cells, reptr, killOk, abin, elems, kill, avals, List.all_nil, Option.isSome_some, Bool.and_true, Bool.true_and, Bool.not_true, Bool.not_false, decide_true, decide_false, if_true, if_false, Bool.false_eq_true, reduceIte, Nat.reduceEqDiff, List.getElem?_cons_succ, List.getElem?_cons_zero, Nat.reduceAdd, Nat.zero_add, Nat.add_zero, beq_self_eq_true, reduceCtorEq, List.length_cons, List.length_nil, Nat.reduceLeDiff, List.take_succ_cons, List.take_zero, List.drop_succ_cons, List.drop_zero, List.cons_append, List.nil_append, List.append_nil, ne_eq, not_false_eq_true, List.take_nil, List.drop_nil, beq_tf, beq_ft]
            rfl
          · exact hsort
          · exact EvR.nil
      apply WP.reg
      · intro ex
        simp only [arun, badG, wants, aop, aval, raw, PV.isL, withV, withS, AS.put, tget_tset, tget, deref, aload, cut, astore, splice, amem, okV, okC, PV.cells, reptr, killOk, abin, elems, kill, avals, List.all_nil, Option.isSome_some, Bool.and_true, Bool.true_and, Bool.not_true, Bool.not_false, decide_true, decide_false, if_true, if_false, Bool.false_eq_true, reduceIte, Nat.reduceEqDiff, List.getElem?_cons_succ, List.getElem?_cons_zero, Nat.reduceAdd, Nat.zero_add, Nat.add_zero, beq_self_eq_true, reduceCtorEq, List.length_cons, List.length_nil, Nat.reduceLeDiff, List.take_succ_cons, List.take_zero, List.drop_succ_cons, List.drop_zero, List.cons_append, List.nil_append, List.append_nil, ne_eq, not_false_eq_true, List.take_nil, List.drop_nil, beq_tf, beq_ft]
        rfl
      apply WP.seq
      apply WP.reg
      · intro ex
        simp only [arun, badG, wants, aop, aval, raw, PV.isL, withV, withS, AS.put, tget_tset, tget, deref, aload, cut, astore, splice, amem, okV, okC, PV.cells, reptr, killOk, abin, elems, kill, avals, List.all_nil, Option.isSome_some, Bool.and_true, Bool.true_and, Bool.not_true, Bool.not_false, decide_true, decide_false, if_true, if_false, Bool.false_eq_true, reduceIte, Nat.reduceEqDiff, List.getElem?_cons_succ, List.getElem?_cons_zero, Nat.reduceAdd, Nat.zero_add, Nat.add_zero, beq_self_eq_true, reduceCtorEq, List.length_cons, List.length_nil, Nat.reduceLeDiff, List.take_succ_cons, List.take_zero, List.drop_succ_cons, List.drop_zero, List.cons_append, List.nil_append, List.append_nil, ne_eq, not_false_eq_true, List.take_nil, List.drop_nil, beq_tf, beq_ft]
        rfl
      apply WP.block
      have hbox : (srtS ns (k + 1)).boxes[k]? = some (some (asInts (sortD ns))) := by simp [srtS]
      have hsl : (sortD ns).length = k + 1 := by rw [(sortD_perm ns).length_eq, hl, hn]
      refine WP.rounds (NdI ns k) ?_ ?_ (k + 1) ?_
      · rintro n σ ⟨l, lc, i, acc, rfl, h19, h20, h21, h4, hi, hg⟩
        have hlt : ((i : Nat) : Int) < ((k + 1 : Nat) : Int) := by omega
        have hi0 : (0 : Int) ≤ (i : Int) := by omega
        have hv : (sortD ns)[i]? = some (sortD ns)[i] := List.getElem?_eq_getElem (by omega)
        have hvm : (sortD ns)[i] ∈ ns := (sortD_perm ns).mem_iff.1 (List.getElem_mem (by omega))
        have hvb := hns _ hvm
        have hdrop : (sortD ns).drop i = (sortD ns)[i] :: (sortD ns).drop (i + 1) := (List.drop_eq_getElem_cons (by omega))
        generalize (sortD ns)[i] = v at hv hvb hdrop
        have hget : (asInts (sortD ns))[i]? = some (.int .i64 v) := by rw [asInts_eq, List.getElem?_map, hv]; rfl
        rw [hdrop] at hg
        simp only [goN] at hg
        have hw : IntKind.i64.wrap (v + (i : Int)) = v + i := wrapI (by omega) (by omega)
        apply WP.reg
        · intro ex
          simp only [arun, badG, wants, aop, aval, raw, PV.isL, withV, withS, AS.put, tget_tset, tget, deref, aload, cut, astore, splice, amem, okV, okC, PV.cells, reptr, killOk, abin, elems, kill, avals, List.all_nil, Option.isSome_some, Bool.and_true, Bool.true_and, Bool.not_true, Bool.not_false, decide_true, decide_false, if_true, if_false, Bool.false_eq_true, reduceIte, Nat.reduceEqDiff, List.getElem?_cons_succ, List.getElem?_cons_zero, Nat.reduceAdd, Nat.zero_add, Nat.add_zero, beq_self_eq_true, reduceCtorEq, List.length_cons, List.length_nil, Nat.reduceLeDiff, List.take_succ_cons, List.take_zero, List.drop_succ_cons, List.drop_zero, List.cons_append, List.nil_append, List.append_nil, ne_eq, not_false_eq_true, List.take_nil, List.drop_nil, beq_tf, beq_ft, h20, h21, hlt]
          rfl
        apply WP.seq
        apply WP.condT
        · simp only [arun, badG, wants, aop, aval, raw, PV.isL, withV, withS, AS.put, tget_tset, tget, deref, aload, cut, astore, splice, amem, okV, okC, PV.cells, reptr, killOk, abin, elems, kill, avals, List.all_nil, Option.isSome_some, Bool.and_true, Bool.true_and, Bool.not_true, Bool.not_false, decide_true, decide_false, if_true, if_false, Bool.false_eq_true, reduceIte, Nat.reduceEqDiff, List.getElem?_cons_succ, List.getElem?_cons_zero, Nat.reduceAdd, Nat.zero_add, Nat.add_zero, beq_self_eq_true, reduceCtorEq, List.length_cons, List.length_nil, Nat.reduceLeDiff, List.take_succ_cons, List.take_zero, List.drop_succ_cons, List.drop_zero, List.cons_append, List.nil_append, List.append_nil, ne_eq, not_false_eq_true, List.take_nil, List.drop_nil, beq_tf, beq_ft]
        apply WP.skip
        apply WP.seq
        apply WP.block
        apply WP.reg
        · intro ex
          simp only [arun, badG, wants, aop, aval, raw, PV.isL, withV, withS, AS.put, tget_tset, tget, deref, aload, cut, astore, splice, amem, okV, okC, PV.cells, reptr, killOk, abin, elems, kill, avals, List.all_nil, Option.isSome_some, Bool.and_true, Bool.true_and, Bool.not_true, Bool.not_false, decide_true, decide_false, if_true, if_false, Bool.false_eq_true, reduceIte, Nat.reduceEqDiff, List.getElem?_cons_succ, List.getElem?_cons_zero, Nat.reduceAdd, Nat.zero_add, Nat.add_zero, beq_self_eq_true, reduceCtorEq, List.length_cons, List.length_nil, Nat.reduceLeDiff, List.take_succ_cons, List.take_zero, List.drop_succ_cons, List.drop_zero, List.cons_append, List.nil_append, List.append_nil, ne_eq, not_false_eq_true, List.take_nil, List.drop_nil, beq_tf, beq_ft, h19, h21, hi0, hlt, and_self, and_true, true_and, hbox, Int.toNat_natCast, Nat.mul_one, hget]
          rfl
        by_cases hv0 : v > 0
        · apply WP.reg
          · intro ex
            simp only [arun, badG, wants, aop, aval, raw, PV.isL, withV, withS, AS.put, tget_tset, tget, deref, aload, cut, astore, splice, amem, okV, okC, PV.cells, reptr, killOk, abin, elems, kill, avals, List.all_nil, Option.isSome_some, Bool.and_true, Bool.true_and, Bool.not_true, Bool.not_false, decide_true, decide_false, if_true, if_false, Bool.false_eq_true, reduceIte, Nat.reduceEqDiff, List.getElem?_cons_succ, List.getElem?_cons_zero, Nat.reduceAdd, Nat.zero_add, Nat.add_zero, beq_self_eq_true, reduceCtorEq, List.length_cons, List.length_nil, Nat.reduceLeDiff, List.take_succ_cons, List.take_zero, List.drop_succ_cons, List.drop_zero, List.cons_append, List.nil_append, List.append_nil, ne_eq, not_false_eq_true, List.take_nil, List.drop_nil, beq_tf, beq_ft, hv0]
            rfl
          apply WP.condT
          · simp only [arun, badG, wants, aop, aval, raw, PV.isL, withV, withS, AS.put, tget_tset, tget, deref, aload, cut, astore, splice, amem, okV, okC, PV.cells, reptr, killOk, abin, elems, kill, avals, List.all_nil, Option.isSome_some, Bool.and_true, Bool.true_and, Bool.not_true, Bool.not_false, decide_true, decide_false, if_true, if_false, Bool.false_eq_true, reduceIte, Nat.reduceEqDiff, List.getElem?_cons_succ, List.getElem?_cons_zero, Nat.reduceAdd, Nat.zero_add, Nat.add_zero, beq_self_eq_true, reduceCtorEq, List.length_cons, List.length_nil, Nat.reduceLeDiff, List.take_succ_cons, List.take_zero, List.drop_succ_cons, List.drop_zero, List.cons_append, List.nil_append, List.append_nil, ne_eq, not_false_eq_true, List.take_nil, List.drop_nil, beq_tf, beq_ft]
          apply WP.reg1
          · intro ex
            simp only [arun, badG, wants, aop, aval, raw, PV.isL, withV, withS, AS.put, tget_tset, tget, deref, aload, cut, astore, splice, amem, okV, okC, PV.cells, reptr, killOk, abin, elems, kill, avals, List.all_nil, Option.isSome_some, Bool.and_true, Bool.true_and, Bool.not_true, Bool.not_false, decide_true, decide_false, if_true, if_false, Bool.false_eq_true, reduceIte, Nat.reduceEqDiff, List.getElem?_cons_succ, List.getElem?_cons_zero, Nat.reduceAdd, Nat.zero_add, Nat.add_zero, beq_self_eq_true, reduceCtorEq, List.length_cons, List.length_nil, Nat.reduceLeDiff, List.take_succ_cons, List.take_zero, List.drop_succ_cons, List.drop_zero, List.cons_append, List.nil_append, List.append_nil, ne_eq, not_false_eq_true, List.take_nil, List.drop_nil, beq_tf, beq_ft, h4, hw, maxOf]
            rfl
          apply WP.reg1
          · intro ex
            simp only [arun, badG, wants, aop, aval, raw, PV.isL, withV, withS, AS.put, tget_tset, tget, deref, aload, cut, astore, splice, amem, okV, okC, PV.cells, reptr, killOk, abin, elems, kill, avals, List.all_nil, Option.isSome_some, Bool.and_true, Bool.true_and, Bool.not_true, Bool.not_false, decide_true, decide_false, if_true, if_false, Bool.false_eq_true, reduceIte, Nat.reduceEqDiff, List.getElem?_cons_succ, List.getElem?_cons_zero, Nat.reduceAdd, Nat.zero_add, Nat.add_zero, beq_self_eq_true, reduceCtorEq, List.length_cons, List.length_nil, Nat.reduceLeDiff, List.take_succ_cons, List.take_zero, List.drop_succ_cons, List.drop_zero, List.cons_append, List.nil_append, List.append_nil, ne_eq, not_false_eq_true, List.take_nil, List.drop_nil, beq_tf, beq_ft, h21]
            rfl
          simp only [hv0, if_true] at hg
          refine ⟨_, _, i + 1, (if v + (i : Int) > acc then v + i else acc), rfl, ?_, ?_, ?_, ?_, by omega, hg⟩
          · simp only [arun, badG, wants, aop, aval, raw, PV.isL, withV, withS, AS.put, tget_tset, tget, deref, aload, cut, astore, splice, amem, okV, okC, PV.cells, reptr, killOk, abin, elems, kill, avals, List.all_nil, Option.isSome_some, Bool.and_true, Bool.true_and, Bool.not_true, Bool.not_false, decide_true, decide_false, if_true, if_false, Bool.false_eq_true, reduceIte, Nat.reduceEqDiff, List.getElem?_cons_succ, List.getElem?_cons_zero, Nat.reduceAdd, Nat.zero_add, Nat.add_zero, beq_self_eq_true, reduceCtorEq, List.length_cons, List.length_nil, Nat.reduceLeDiff, List.take_succ_cons, List.take_zero, List.drop_succ_cons, List.drop_zero, List.cons_append, List.nil_append, List.append_nil, ne_eq, not_false_eq_true, List.take_nil, List.drop_nil, beq_tf, beq_ft, h19]
          · simp only [arun, badG, wants, aop, aval, raw, PV.isL, withV, withS, AS.put, tget_tset, tget, deref, aload, cut, astore, splice, amem, okV, okC, PV.cells, reptr, killOk, abin, elems, kill, avals, List.all_nil, Option.isSome_some, Bool.and_true, Bool.true_and, Bool.not_true, Bool.not_false, decide_true, decide_false, if_true, if_false, Bool.false_eq_true, reduceIte, Nat.reduceEqDiff, List.getElem?_cons_succ, List.getElem?_cons_zero, Nat.reduceAdd, Nat.zero_add, Nat.add_zero, beq_self_eq_true, reduceCtorEq, List.length_cons, List.length_nil, Nat.reduceLeDiff, List.take_succ_cons, List.take_zero, List.drop_succ_cons, List.drop_zero, List.cons_append, List.nil_append, List.append_nil, ne_eq, not_false_eq_true, List.take_nil, List.drop_nil, beq_tf, beq_ft, h20]
          · simp only [arun, badG, wants, aop, aval, raw, PV.isL, withV, withS, AS.put, tget_tset, tget, deref, aload, cut, astore, splice, amem, okV, okC, PV.cells, reptr, killOk, abin, elems, kill, avals, List.all_nil, Option.isSome_some, Bool.and_true, Bool.true_and, Bool.not_true, Bool.not_false, decide_true, decide_false, if_true, if_false, Bool.false_eq_true, reduceIte, Nat.reduceEqDiff, List.getElem?_cons_succ, List.getElem?_cons_zero, Nat.reduceAdd, Nat.zero_add, Nat.add_zero, beq_self_eq_true, reduceCtorEq, List.length_cons, List.length_nil, Nat.reduceLeDiff, List.take_succ_cons, List.take_zero, List.drop_succ_cons, List.drop_zero, List.cons_append, List.nil_append, List.append_nil, ne_eq, not_false_eq_true, List.take_nil, List.drop_nil, beq_tf, beq_ft]
            rw [wrapI (by omega) (by omega)]
            rfl
          · simp only [arun, badG, wants, aop, aval, raw, PV.isL, withV, withS, AS.put, tget_tset, tget, deref, aload, cut, astore, splice, amem, okV, okC, PV.cells, reptr, killOk, abin, elems, kill, avals, List.all_nil, Option.isSome_some, Bool.and_true, Bool.true_and, Bool.not_true, Bool.not_false, decide_true, decide_false, if_true, if_false, Bool.false_eq_true, reduceIte, Nat.reduceEqDiff, List.getElem?_cons_succ, List.getElem?_cons_zero, Nat.reduceAdd, Nat.zero_add, Nat.add_zero, beq_self_eq_true, reduceCtorEq, List.length_cons, List.length_nil, Nat.reduceLeDiff, List.take_succ_cons, List.take_zero, List.drop_succ_cons, List.drop_zero, List.cons_append, List.nil_append, List.append_nil, ne_eq, not_false_eq_true, List.take_nil, List.drop_nil, beq_tf, beq_ft]
        · apply WP.reg
          · intro ex
            simp only [arun, badG, wants, aop, aval, raw, PV.isL, withV, withS, AS.put, tget_tset, tget, deref, aload, cut, astore, splice, amem, okV, okC, PV.cells, reptr, killOk, abin, elems, kill, avals, List.all_nil, Option.isSome_some, Bool.and_true, Bool.true_and, Bool.not_true, Bool.not_false, decide_true, decide_false, if_true, if_false, Bool.false_eq_true, reduceIte, Nat.reduceEqDiff, List.getElem?_cons_succ, List.getElem?_cons_zero, Nat.reduceAdd, Nat.zero_add, Nat.add_zero, beq_self_eq_true, reduceCtorEq, List.length_cons, List.length_nil, Nat.reduceLeDiff, List.take_succ_cons, List.take_zero, List.drop_succ_cons, List.drop_zero, List.cons_append, List.nil_append, List.append_nil, ne_eq, not_false_eq_true, List.take_nil, List.drop_nil, beq_tf, beq_ft, hv0]
            rfl
          apply WP.condF
          · simp only [arun, badG, wants, aop, aval, raw, PV.isL, withV, withS, AS.put, tget_tset, tget, deref, aload, cut, astore, splice, amem, okV, okC, PV.cells, reptr, killOk, abin, elems, kill, avals, List.all_nil, Option.isSome_some, Bool.and_true, Bool.true_and, Bool.not_true, Bool.not_false, decide_true, decide_false, if_true, if_false, Bool.false_eq_true, reduceIte, Nat.reduceEqDiff, List.getElem?_cons_succ, List.getElem?_cons_zero, Nat.reduceAdd, Nat.zero_add, Nat.add_zero, beq_self_eq_true, reduceCtorEq, List.length_cons, List.length_nil, Nat.reduceLeDiff, List.take_succ_cons, List.take_zero, List.drop_succ_cons, List.drop_zero, List.cons_append, List.nil_append, List.append_nil, ne_eq, not_false_eq_true, List.take_nil, List.drop_nil, beq_tf, beq_ft]
          apply WP.skip
          apply WP.reg1
          · intro ex
            simp only [arun, badG, wants, aop, aval, raw, PV.isL, withV, withS, AS.put, tget_tset, tget, deref, aload, cut, astore, splice, amem, okV, okC, PV.cells, reptr, killOk, abin, elems, kill, avals, List.all_nil, Option.isSome_some, Bool.and_true, Bool.true_and, Bool.not_true, Bool.not_false, decide_true, decide_false, if_true, if_false, Bool.false_eq_true, reduceIte, Nat.reduceEqDiff, List.getElem?_cons_succ, List.getElem?_cons_zero, Nat.reduceAdd, Nat.zero_add, Nat.add_zero, beq_self_eq_true, reduceCtorEq, List.length_cons, List.length_nil, Nat.reduceLeDiff, List.take_succ_cons, List.take_zero, List.drop_succ_cons, List.drop_zero, List.cons_append, List.nil_append, List.append_nil, ne_eq, not_false_eq_true, List.take_nil, List.drop_nil, beq_tf, beq_ft, h21]
            rfl
          simp only [hv0, if_false] at hg
          refine ⟨_, _, i + 1, acc, rfl, ?_, ?_, ?_, ?_, by omega, hg⟩
          · simp only [arun, badG, wants, aop, aval, raw, PV.isL, withV, withS, AS.put, tget_tset, tget, deref, aload, cut, astore, splice, amem, okV, okC, PV.cells, reptr, killOk, abin, elems, kill, avals, List.all_nil, Option.isSome_some, Bool.and_true, Bool.true_and, Bool.not_true, Bool.not_false, decide_true, decide_false, if_true, if_false, Bool.false_eq_true, reduceIte, Nat.reduceEqDiff, List.getElem?_cons_succ, List.getElem?_cons_zero, Nat.reduceAdd, Nat.zero_add, Nat.add_zero, beq_self_eq_true, reduceCtorEq, List.length_cons, List.length_nil, Nat.reduceLeDiff, List.take_succ_cons, List.take_zero, List.drop_succ_cons, List.drop_zero, List.cons_append, List.nil_append, List.append_nil, ne_eq, not_false_eq_true, List.take_nil, List.drop_nil, beq_tf, beq_ft, h19]
          · simp only [arun, badG, wants, aop, aval, raw, PV.isL, withV, withS, AS.put, tget_tset, tget, deref, aload, cut, astore, splice, amem, okV, okC, PV.cells, reptr, killOk, abin, elems, kill, avals, List.all_nil, Option.isSome_some, Bool.and_true, Bool.true_and, Bool.not_true, Bool.not_false, decide_true, decide_false, if_true, if_false, Bool.false_eq_true, reduceIte, Nat.reduceEqDiff, List.getElem?_cons_succ, List.getElem?_cons_zero, Nat.reduceAdd, Nat.zero_add, Nat.add_zero, beq_self_eq_true, reduceCtorEq, List.length_cons, List.length_nil, Nat.reduceLeDiff, List.take_succ_cons, List.take_zero, List.drop_succ_cons, List.drop_zero, List.cons_append, List.nil_append, List.append_nil, ne_eq, not_false_eq_true, List.take_nil, List.drop_nil, beq_tf, beq_ft, h20]
          · simp only [arun, badG, wants, aop, aval, raw, PV.isL, withV, withS, AS.put, tget_tset, tget, deref, aload, cut, astore, splice, amem, okV, okC, PV.cells, reptr, killOk, abin, elems, kill, avals, List.all_nil, Option.isSome_some, Bool.and_true, Bool.true_and, Bool.not_true, Bool.not_false, decide_true, decide_false, if_true, if_false, Bool.false_eq_true, reduceIte, Nat.reduceEqDiff, List.getElem?_cons_succ, List.getElem?_cons_zero, Nat.reduceAdd, Nat.zero_add, Nat.add_zero, beq_self_eq_true, reduceCtorEq, List.length_cons, List.length_nil, Nat.reduceLeDiff, List.take_succ_cons, List.take_zero, List.drop_succ_cons, List.drop_zero, List.cons_append, List.nil_append, List.append_nil, ne_eq, not_false_eq_true, List.take_nil, List.drop_nil, beq_tf, beq_ft]
            rw [wrapI (by omega) (by omega)]
            rfl
          · simp only [arun, badG, wants, aop, aval, raw, PV.isL, withV, withS, AS.put, tget_tset, tget, deref, aload, cut, astore, splice, amem, okV, okC, PV.cells, reptr, killOk, abin, elems, kill, avals, List.all_nil, Option.isSome_some, Bool.and_true, Bool.true_and, Bool.not_true, Bool.not_false, decide_true, decide_false, if_true, if_false, Bool.false_eq_true, reduceIte, Nat.reduceEqDiff, List.getElem?_cons_succ, List.getElem?_cons_zero, Nat.reduceAdd, Nat.zero_add, Nat.add_zero, beq_self_eq_true, reduceCtorEq, List.length_cons, List.length_nil, Nat.reduceLeDiff, List.take_succ_cons, List.take_zero, List.drop_succ_cons, List.drop_zero, List.cons_append, List.nil_append, List.append_nil, ne_eq, not_false_eq_true, List.take_nil, List.drop_nil, beq_tf, beq_ft, h4]
      · rintro σ ⟨l, lc, i, acc, rfl, h19, h20, h21, h4, hi, hg⟩
        have hlt : ¬ ((i : Nat) : Int) < ((k + 1 : Nat) : Int) := by omega
        have hnil : (sortD ns).drop i = [] := List.drop_eq_nil_of_le (by omega)
        rw [hnil] at hg
        simp only [goN] at hg
        apply WP.reg
        · intro ex
          simp only [arun, badG, wants, aop, aval, raw, PV.isL, withV, withS, AS.put, tget_tset, tget, deref, aload, cut, astore, splice, amem, okV, okC, PV.cells, reptr, killOk, abin, elems, kill, avals, List.all_nil, Option.isSome_some, Bool.and_true, Bool.true_and, Bool.not_true, Bool.not_false, decide_true, decide_false, if_true, if_false, Bool.false_eq_true, reduceIte, Nat.reduceEqDiff, List.getElem?_cons_succ, List.getElem?_cons_zero, Nat.reduceAdd, Nat.zero_add, Nat.add_zero, beq_self_eq_true, reduceCtorEq, List.length_cons, List.length_nil, Nat.reduceLeDiff, List.take_succ_cons, List.take_zero, List.drop_succ_cons, List.drop_zero, List.cons_append, List.nil_append, List.append_nil, ne_eq, not_false_eq_true, List.take_nil, List.drop_nil, beq_tf, beq_ft, h20, h21, hlt]
          rfl
        apply WP.seq
        apply WP.condF
        · simp only [arun, badG, wants, aop, aval, raw, PV.isL, withV, withS, AS.put, tget_tset, tget, deref, aload, cut, astore, splice, amem, okV, okC, PV.cells, reptr, killOk, abin, elems, kill, avals, List.all_nil, Option.isSome_some, Bool.and_true, Bool.true_and, Bool.not_true, Bool.not_false, decide_true, decide_false, if_true, if_false, Bool.false_eq_true, reduceIte, Nat.reduceEqDiff, List.getElem?_cons_succ, List.getElem?_cons_zero, Nat.reduceAdd, Nat.zero_add, Nat.add_zero, beq_self_eq_true, reduceCtorEq, List.length_cons, List.length_nil, Nat.reduceLeDiff, List.take_succ_cons, List.take_zero, List.drop_succ_cons, List.drop_zero, List.cons_append, List.nil_append, List.append_nil, ne_eq, not_false_eq_true, List.take_nil, List.drop_nil, beq_tf, beq_ft]
        apply WP.exit
        show WP _ _ _ _
        apply WP.reg
        · intro ex
          simp only [arun, badG, wants, aop, aval, raw, PV.isL, withV, withS, AS.put, tget_tset, tget, deref, aload, cut, astore, splice, amem, okV, okC, PV.cells, reptr, killOk, abin, elems, kill, avals, List.all_nil, Option.isSome_some, Bool.and_true, Bool.true_and, Bool.not_true, Bool.not_false, decide_true, decide_false, if_true, if_false, Bool.false_eq_true, reduceIte, Nat.reduceEqDiff, List.getElem?_cons_succ, List.getElem?_cons_zero, Nat.reduceAdd, Nat.zero_add, Nat.add_zero, beq_self_eq_true, reduceCtorEq, List.length_cons, List.length_nil, Nat.reduceLeDiff, List.take_succ_cons, List.take_zero, List.drop_succ_cons, List.drop_zero, List.cons_append, List.nil_append, List.append_nil, ne_eq, not_false_eq_true, List.take_nil, List.drop_nil, beq_tf, beq_ft, h4]
          rfl
        apply WP.ret
        refine ⟨rfl, ?_⟩
        apply Exists.intro
        apply And.intro
        · simp only [c36, resOfs, resOf, arun, badG, wants, aop, aval, raw, PV.isL, withV, withS, AS.put, tget_tset, tget, deref, aload, cut, astore, splice, amem, okV, okC, PV.cells, reptr, killOk, abin, elems, kill, avals, List.all_nil, Option.isSome_some, Bool.and_true, Bool.true_and, Bool.not_true, Bool.not_false, decide_true, decide_false, if_true, if_false, Bool.false_eq_true, reduceIte, Nat.reduceEqDiff, List.getElem?_cons_succ, List.getElem?_cons_zero, Nat.reduceAdd, Nat.zero_add, Nat.add_zero, beq_self_eq_true, reduceCtorEq, List.length_cons, List.length_nil, Nat.reduceLeDiff, List.take_succ_cons, List.take_zero, List.drop_succ_cons, List.drop_zero, List.cons_append, List.nil_append, List.append_nil, ne_eq, not_false_eq_true, List.take_nil, List.drop_nil, beq_tf, beq_ft]
          rfl
        · simp only [packR, hg]
      · exact ⟨_, _, 0, 1, rfl, by simp only [arun, badG, wants, aop, aval, raw, PV.isL, withV, withS, AS.put, tget_tset, tget, deref, aload, cut, astore, splice, amem, okV, okC, PV.cells, reptr, killOk, abin, elems, kill, avals, List.all_nil, Option.isSome_some, Bool.and_true, Bool.true_and, Bool.not_true, Bool.not_false, decide_true, decide_false, if_true, if_false, Bool.false_eq_true, reduceIte, Nat.reduceEqDiff, List.getElem?_cons_succ, List.getElem?_cons_zero, Nat.reduceAdd, Nat.zero_add, Nat.add_zero, beq_self_eq_true, reduceCtorEq, List.length_cons, List.length_nil, Nat.reduceLeDiff, List.take_succ_cons, List.take_zero, List.drop_succ_cons, List.drop_zero, List.cons_append, List.nil_append, List.append_nil, ne_eq, not_false_eq_true, List.take_nil, List.drop_nil, beq_tf, beq_ft], by simp only [arun, badG, wants, aop, aval, raw, PV.isL, withV, withS, AS.put, tget_tset, tget, deref, aload, cut, astore, splice, amem, okV, okC, PV.cells, reptr, killOk, abin, elems, kill, avals, List.all_nil, Option.isSome_some, Bool.and_true, Bool.true_and, Bool.not_true, Bool.not_false, decide_true, decide_false, if_true, if_false, Bool.false_eq_true, reduceIte, Nat.reduceEqDiff, List.getElem?_cons_succ, List.getElem?_cons_zero, Nat.reduceAdd, Nat.zero_add, Nat.add_zero, beq_self_eq_true, reduceCtorEq, List.length_cons, List.length_nil, Nat.reduceLeDiff, List.take_succ_cons, List.take_zero, List.drop_succ_cons, List.drop_zero, List.cons_append, List.nil_append, List.append_nil, ne_eq, not_false_eq_true, List.take_nil, List.drop_nil, beq_tf, beq_ft], by simp only [arun, badG, wants, aop, aval, raw, PV.isL, withV, withS, AS.put, tget_tset, tget, deref, aload, cut, astore, splice, amem, okV, okC, PV.cells, reptr, killOk, abin, elems, kill, avals, List.all_nil, Option.isSome_some, Bool.and_true, Bool.true_and, Bool.not_true, Bool.not_false, decide_true, decide_false, if_true, if_false, Bool.false_eq_true, reduceIte, Nat.reduceEqDiff, List.getElem?_cons_succ, List.getElem?_cons_zero, Nat.reduceAdd, Nat.zero_add, Nat.add_zero, beq_self_eq_true, reduceCtorEq, List.length_cons, List.length_nil, Nat.reduceLeDiff, List.take_succ_cons, List.take_zero, List.drop_succ_cons, List.drop_zero, List.cons_append, List.nil_append, List.append_nil, ne_eq, not_false_eq_true, List.take_nil, List.drop_nil, beq_tf, beq_ft]; rfl, by simp only [arun, badG, wants, aop, aval, raw, PV.isL, withV, withS, AS.put, tget_tset, tget, deref, aload, cut, astore, splice, amem, okV, okC, PV.cells, reptr, killOk, abin, elems, kill, avals, List.all_nil, Option.isSome_some, Bool.and_true, Bool.true_and, Bool.not_true, Bool.not_false, decide_true, decide_false, if_true, if_false, Bool.false_eq_true, reduceIte, Nat.reduceEqDiff, List.getElem?_cons_succ, List.getElem?_cons_zero, Nat.reduceAdd, Nat.zero_add, Nat.add_zero, beq_self_eq_true, reduceCtorEq, List.length_cons, List.length_nil, Nat.reduceLeDiff, List.take_succ_cons, List.take_zero, List.drop_succ_cons, List.drop_zero, List.cons_append, List.nil_append, List.append_nil, ne_eq, not_false_eq_true, List.take_nil, List.drop_nil, beq_tf, beq_ft], by omega, rfl⟩
  exact EvP.of (own := false) hc hr rfl rfl
/-- Needs, one for each tree of a list. -/
theorem choose_needs : ∀ {xs : List PV}, (∀ x ∈ xs, ∃ n : Int, EvP tbN false 36 [x] (.int .i64 n) ∧ 0 ≤ n ∧ n ≤ PV.sz x) → ∃ ns : List Int, ns.length = xs.length ∧ (∀ (i : Nat) (x : PV), xs[i]? = some x → ∃ n, ns[i]? = some n ∧ EvP tbN false 36 [x] (.int .i64 n)) ∧
    (∀ n ∈ ns, 0 ≤ n) ∧ sumI ns ≤ PV.szs xs ∧ (∀ n ∈ ns, n ≤ PV.szs xs)
  | [], _ => ⟨[], rfl, fun i x h => by simp at h, fun n h => (by cases h), by simp [sumI, PV.szs], fun n h => (by cases h)⟩
  | x :: xs, h => by
    obtain ⟨n, h1, h2, h3⟩ := h x List.mem_cons_self
    obtain ⟨ns, g1, g2, g3, g4, g5⟩ := choose_needs (fun y hy => h y (List.mem_cons_of_mem _ hy))
    refine ⟨n :: ns, by simp [g1], fun i y hy => ?_, fun m hm => ?_, ?_, fun m hm => ?_⟩
    · cases i with
      | zero => simp at hy; subst hy; exact ⟨n, rfl, h1⟩
      | succ i => exact g2 i y (by simpa using hy)
    · rcases List.mem_cons.1 hm with rfl | hm
      · exact h2
      · exact g3 m hm
    · simp only [sumI, PV.szs]
      omega
    · simp only [PV.szs]
      rcases List.mem_cons.1 hm with rfl | hm
      · omega
      · have := g5 m hm
        omega
theorem tpv_sz (a b c0 c1 c2 c3 kd ty op off : Int) (xs : List PV) : PV.sz (tpv a b c0 c1 c2 c3 kd ty op off xs) = PV.szs xs + 12 := by
  simp [tpv, PV.sz, PV.szs]
  omega
theorem need_ok {p : PV} (ht : Tr p) : PV.sz p ≤ 1048576 → ∃ n : Int, EvP tbN false 36 [p] (.int .i64 n) ∧ 0 ≤ n ∧ n ≤ PV.sz p := by
  induction ht with
  | mk a b c0 c1 c2 c3 kd ty op off xs hxl hx ih =>
    intro hsz
    have ht : Tr (tpv a b c0 c1 c2 c3 kd ty op off xs) := .mk a b c0 c1 c2 c3 kd ty op off xs hxl hx
    rw [tpv_sz] at hsz ⊢
    by_cases hkd : kd = 0
    · subst hkd
      refine ⟨_, need_leaf ht, ?_, ?_⟩
      · split <;> omega
      · split <;> omega
    · obtain ⟨ns, g1, g2, g3, g4, g5⟩ := choose_needs (xs := xs) (fun x hxm => ih x hxm (by have := sz_mem hxm; omega))
      have := needV_one ns
      have h2 := needV_le g3
      refine ⟨_, need_node hkd hxl hx g1 (fun n hn => ⟨g3 n hn, by have := g5 n hn; omega⟩) g2, by omega, ?_⟩
      split at h2 <;> omega
end
end Go.Proofs.YtkgmeeenacnhfaaGreat.Eng
