/- Trees, their count, whether a leaf. No condition. -/
import Derived.Test.YtkgmeeenacnhfaaGreatNdF
import Derived.Test.YtkgmeeenacnhfaaGreatNdI
import Derived.Test.YtkgmeeenacnhfaaGreatNdK
set_option linter.unusedVariables false
set_option linter.unusedSimpArgs false
namespace Go.Proofs.YtkgmeeenacnhfaaGreat.Eng
open Go
/-- A tree with these children. -/
def tpv (a b c0 c1 c2 c3 kd ty op off : Int) (xs : List PV) : PV := .agg [.int .i64 a, .int .i64 b, .int .u32 c0, .int .u32 c1, .int .u32 c2, .int .u32 c3, .int .i64 kd, .int .i64 ty, .int .i64 op, .int .i64 off, .list 0 xs]
inductive Tr : PV → Prop
  | mk (a b c0 c1 c2 c3 kd ty op off : Int) (xs : List PV) : xs.length ≤ 1048576 → (∀ x ∈ xs, Tr x) → Tr (tpv a b c0 c1 c2 c3 kd ty op off xs)
def saneG : List PV → Option PV
  | [] => some (.bool true)
  | _ => none
/-- The table for the chapter's laws: the examples' result is known; small ints are sorted as they are. -/
def tbN : Tbl := { fn := tabF, how := fun f => bif Nat.beq f 12 then .given saneG else bif Nat.beq f 92 then .store sortG else howF f }
theorem tokN : TOK tbN Tryz.prog where
  fn _ _ h := tabF_ok _ h
  given f g h := by
    refine bif_how h (fun hb e => ?_) (fun h => bif_how h (fun hb e => (by cases e)) (fun h => ?_))
    · have := Nat.eq_of_beq_eq_true hb
      subst this
      cases e
      refine ⟨sane_knows.1, fun args r hr => ?_⟩
      cases args with
      | nil => cases hr; exact sane_knows.2 _
      | cons => cases hr
    · obtain ⟨h1, h2⟩ := tok.given f g h
      exact ⟨h1, fun args r hr => (h2 args r hr).any⟩
  store f g h := by
    refine bif_how h (fun hb e => (by cases e)) (fun h => bif_how h (fun hb e => ?_) (fun h => ?_))
    · have := Nat.eq_of_beq_eq_true hb
      subst this
      cases e
      exact ⟨enter92, fun hr _ _ _ _ _ hs hb ha => sortG_ok hr hs hb ha⟩
    · obtain ⟨h1, h2⟩ := tok.store f g h
      exact ⟨h1, fun hr _ _ _ _ _ hs hb ha => CallsIn.mono (h2 hr hs.any hb ha) (fun e w' he => he.any)⟩
  mixed := mixed_ok
section
variable {T : Tbl} {σ σ1 σ' : AS} {b : ACode} {e : AExit}
theorem EvC.reg {ops : List AR} (h : ∀ ex, arun T ex ops σ = some σ1) (h2 : EvC T b σ1 e σ') : EvC T (.seq (.region ops) b) σ e σ' := EvC.seq (EvC.region (EvR.of h)) h2
theorem EvC.reg1 {ops : List AR} (h : ∀ ex, arun T ex ops σ = some σ1) : EvC T (.region ops) σ .normal σ1 := EvC.region (EvR.of h)
theorem EvR.split {ops : List AR} (n : Nat) (h1 : ∀ ex : Ex, arun T ex (ops.take n) σ = some σ1) (h2 : EvR T (ops.drop n) σ1 σ') : EvR T ops σ σ' := by
  have := EvR.app h1 h2
  rwa [List.take_append_drop] at this
theorem EvF.pureI {f : FuncId} {args : List PV} {S : Store} {r : PV} (hh : T.how f = .pure false) (hl : ∀ σ : AS, lends σ args = some args) (hp : EvP T false f args r) (hr : flatR r = true) (ha : adopt S r = some (r, S)) : EvF T f args S r S := by
  refine EvF.pure hh (fun σ _ => hl σ) hp ?_
  simp only [finishP, hr, Bool.or_true, if_true, ha]
theorem closeds_of : ∀ {xs : List PV}, (∀ x ∈ xs, x.closed = true) → closeds xs = true
  | [], _ => rfl
  | x :: xs, h => by
    simp only [closeds, Bool.and_eq_true]
    exact ⟨h x List.mem_cons_self, closeds_of (fun y hy => h y (List.mem_cons_of_mem _ hy))⟩
theorem tr_closed {p : PV} (h : Tr p) : p.closed = true := by
  induction h with
  | mk a b c0 c1 c2 c3 kd ty op off xs _ _ ih => simp [tpv, PV.closed, closeds, closeds_of ih]
theorem EvS.of' {f : FuncId} {fn : AFn} {args : List PV} {S S' : Store} {r : PV} (hf : T.fn f = some fn) (hn : args.length = fn.nparams) (h : ∃ σ', EvC T fn.body { tmps := args, S := S } .ret σ' ∧ σ'.defers = [] ∧ resOfs σ' fn.results = some [r] ∧ σ'.S = S') : EvS T f args S r S' := by
  obtain ⟨σ', h1, h2, h3, rfl⟩ := h
  exact EvS.of hf hn h1 (.inr rfl) h2 h3
theorem tr_lend {p : PV} (h : Tr p) (σ : AS) : lend σ p = some p := by
  cases h with
  | mk => simp only [tpv, lend, lends1, lend1]
theorem tr_cells {p : PV} (h : Tr p) : ∃ y0 y1 y2 y3 y4 y5 y6 y7 y8 y9 y10, p = .agg [y0, y1, y2, y3, y4, y5, y6, y7, y8, y9, y10] := by
  cases h
  exact ⟨_, _, _, _, _, _, _, _, _, _, _, rfl⟩
theorem wrapI {n : Int} (h1 : -9223372036854775808 ≤ n) (h2 : n ≤ 9223372036854775807) : IntKind.i64.wrap n = n := by
  simp [IntKind.wrap, IntKind.bits, IntKind.signed]
  omega
theorem give_int (S : Store) (k : IntKind) (n : Int) : give S (.int k n) = some (.int k n) := rfl
theorem give_bool (S : Store) (x : Bool) : give S (.bool x) = some (.bool x) := rfl
/-- Whether a tree is a leaf. -/
theorem isLeaf_ok {a b c0 c1 c2 c3 kd ty op off : Int} {xs : List PV} (ht : Tr (tpv a b c0 c1 c2 c3 kd ty op off xs)) : EvP tbN false 35 [tpv a b c0 c1 c2 c3 kd ty op off xs] (.bool (kd == 0)) := by
  have hc : closeds [tpv a b c0 c1 c2 c3 kd ty op off xs] = true := by simp only [closeds, tr_closed ht, Bool.and_true]
  have hs : EvS tbN 35 [tpv a b c0 c1 c2 c3 kd ty op off xs] {} (.bool (kd == 0)) {} := by
    apply EvS.of' (fn := c35) rfl rfl
    apply Exists.intro
    apply And.intro
    · apply EvC.reg
      · intro ex
        simp only [arun, badG, wants, aop, aval, raw, PV.isL, withV, withS, AS.put, tget_tset, tget, deref, aload, cut, astore, splice, amem, okV, okC, PV.cells, reptr, killOk, abin, elems, kill, avals, List.all_nil, Option.isSome_some, Bool.and_true, Bool.true_and, Bool.not_true, Bool.not_false, decide_true, decide_false, if_true, if_false, Bool.false_eq_true, reduceIte, Nat.reduceEqDiff, List.getElem?_cons_succ, List.getElem?_cons_zero, Nat.reduceAdd, Nat.zero_add, Nat.add_zero, beq_self_eq_true, reduceCtorEq, List.length_cons, List.length_nil, Nat.reduceLeDiff, List.take_succ_cons, List.take_zero, List.drop_succ_cons, List.drop_zero, List.cons_append, List.nil_append, List.append_nil, ne_eq, not_false_eq_true, List.take_nil, List.drop_nil, beq_tf, beq_ft, tpv]
        rfl
      · apply EvC.reg
        · intro ex
          simp only [arun, badG, wants, aop, aval, raw, PV.isL, withV, withS, AS.put, tget_tset, tget, deref, aload, cut, astore, splice, amem, okV, okC, PV.cells, reptr, killOk, abin, elems, kill, avals, List.all_nil, Option.isSome_some, Bool.and_true, Bool.true_and, Bool.not_true, Bool.not_false, decide_true, decide_false, if_true, if_false, Bool.false_eq_true, reduceIte, Nat.reduceEqDiff, List.getElem?_cons_succ, List.getElem?_cons_zero, Nat.reduceAdd, Nat.zero_add, Nat.add_zero, beq_self_eq_true, reduceCtorEq, List.length_cons, List.length_nil, Nat.reduceLeDiff, List.take_succ_cons, List.take_zero, List.drop_succ_cons, List.drop_zero, List.cons_append, List.nil_append, List.append_nil, ne_eq, not_false_eq_true, List.take_nil, List.drop_nil, beq_tf, beq_ft, tpv]
          rfl
        · exact EvC.ret
    · exact ⟨rfl, by simp only [c35, resOfs, resOf, arun, badG, wants, aop, aval, raw, PV.isL, withV, withS, AS.put, tget_tset, tget, deref, aload, cut, astore, splice, amem, okV, okC, PV.cells, reptr, killOk, abin, elems, kill, avals, List.all_nil, Option.isSome_some, Bool.and_true, Bool.true_and, Bool.not_true, Bool.not_false, decide_true, decide_false, if_true, if_false, Bool.false_eq_true, reduceIte, Nat.reduceEqDiff, List.getElem?_cons_succ, List.getElem?_cons_zero, Nat.reduceAdd, Nat.zero_add, Nat.add_zero, beq_self_eq_true, reduceCtorEq, List.length_cons, List.length_nil, Nat.reduceLeDiff, List.take_succ_cons, List.take_zero, List.drop_succ_cons, List.drop_zero, List.cons_append, List.nil_append, List.append_nil, ne_eq, not_false_eq_true, List.take_nil, List.drop_nil, beq_tf, beq_ft], rfl⟩
  exact EvP.of (own := false) hc hs rfl rfl
end
end Go.Proofs.YtkgmeeenacnhfaaGreat.Eng
namespace Go.Proofs.YtkgmeeenacnhfaaGreat.Eng
open Go
section
variable {σ σ1 σ' : AS} {e : AExit}
theorem lends_tr2 {x : PV} (h : Tr x) (n m : Int) (σ : AS) : lends σ [x, .int .i64 n, .int .i64 m] = some [x, .int .i64 n, .int .i64 m] := by
  simp only [lends, tr_lend h]
  rfl
theorem lends_tr {x : PV} (h : Tr x) (σ : AS) : lends σ [x] = some [x] := by
  simp only [lends, tr_lend h]
/-- The loop's state: i children are done. -/
def CntI (a b c0 c1 c2 c3 kd ty op off mx dp : Int) (xs : List PV) (n : Nat) (σ : AS) : Prop := ∃ (l : List PV) (i : Nat) (nn : Int), σ = { tmps := l, loc := tset [] 3 (tpv a b c0 c1 c2 c3 kd ty op off xs) } ∧
  tget l 1 = .int .i64 mx ∧ tget l 2 = .int .i64 dp ∧ tget l 3 = .lptr 3 0 ∧ tget l 7 = .int .i64 nn ∧ tget l 8 = .int .i64 i ∧ i + n = xs.length
theorem count_ok {p : PV} (ht : Tr p) : ∀ mx dp : Int, ∃ r, EvP tbN false 34 [p, .int .i64 mx, .int .i64 dp] (.int .i64 r) := by
  induction ht with
  | mk a b c0 c1 c2 c3 kd ty op off xs hxl hx ih =>
    intro mx dp
    have ht : Tr (tpv a b c0 c1 c2 c3 kd ty op off xs) := .mk a b c0 c1 c2 c3 kd ty op off xs hxl hx
    have hc : closeds [tpv a b c0 c1 c2 c3 kd ty op off xs, .int .i64 mx, .int .i64 dp] = true := by simp only [closeds, tr_closed ht, PV.closed, Bool.and_true]
    obtain ⟨r, S', ⟨r', rfl⟩, hr⟩ : ∃ r S', (∃ r' : Int, r = .int .i64 r') ∧ EvS tbN 34 [tpv a b c0 c1 c2 c3 kd ty op off xs, .int .i64 mx, .int .i64 dp] {} r S' := by
      refine EvS.wp (R := fun r _ => ∃ r' : Int, r = .int .i64 r') (fn := c34) rfl rfl ?_
      apply WP.reg
      · intro ex
        simp only [arun, badG, wants, aop, aval, raw, PV.isL, withV, withS, AS.put, tget_tset, tget, deref, aload, cut, astore, splice, amem, okV, okC, PV.cells, reptr, killOk, abin, elems, kill, avals, List.all_nil, Option.isSome_some, Bool.and_true, Bool.true_and, Bool.not_true, Bool.not_false, decide_true, decide_false, if_true, if_false, Bool.false_eq_true, reduceIte, Nat.reduceEqDiff, List.getElem?_cons_succ, List.getElem?_cons_zero, Nat.reduceAdd, Nat.zero_add, Nat.add_zero, beq_self_eq_true, reduceCtorEq, List.length_cons, List.length_nil, Nat.reduceLeDiff, List.take_succ_cons, List.take_zero, List.drop_succ_cons, List.drop_zero, List.cons_append, List.nil_append, List.append_nil, ne_eq, not_false_eq_true, List.take_nil, List.drop_nil, beq_tf, beq_ft, tpv]
        rfl
      apply WP.seq
      apply WP.reg
      · intro ex
        simp only [arun, badG, wants, aop, aval, raw, PV.isL, withV, withS, AS.put, tget_tset, tget, deref, aload, cut, astore, splice, amem, okV, okC, PV.cells, reptr, killOk, abin, elems, kill, avals, List.all_nil, Option.isSome_some, Bool.and_true, Bool.true_and, Bool.not_true, Bool.not_false, decide_true, decide_false, if_true, if_false, Bool.false_eq_true, reduceIte, Nat.reduceEqDiff, List.getElem?_cons_succ, List.getElem?_cons_zero, Nat.reduceAdd, Nat.zero_add, Nat.add_zero, beq_self_eq_true, reduceCtorEq, List.length_cons, List.length_nil, Nat.reduceLeDiff, List.take_succ_cons, List.take_zero, List.drop_succ_cons, List.drop_zero, List.cons_append, List.nil_append, List.append_nil, ne_eq, not_false_eq_true, List.take_nil, List.drop_nil, beq_tf, beq_ft]
        rfl
      by_cases hd : dp = 0
      · apply WP.condT
        · simp only [arun, badG, wants, aop, aval, raw, PV.isL, withV, withS, AS.put, tget_tset, tget, deref, aload, cut, astore, splice, amem, okV, okC, PV.cells, reptr, killOk, abin, elems, kill, avals, List.all_nil, Option.isSome_some, Bool.and_true, Bool.true_and, Bool.not_true, Bool.not_false, decide_true, decide_false, if_true, if_false, Bool.false_eq_true, reduceIte, Nat.reduceEqDiff, List.getElem?_cons_succ, List.getElem?_cons_zero, Nat.reduceAdd, Nat.zero_add, Nat.add_zero, beq_self_eq_true, reduceCtorEq, List.length_cons, List.length_nil, Nat.reduceLeDiff, List.take_succ_cons, List.take_zero, List.drop_succ_cons, List.drop_zero, List.cons_append, List.nil_append, List.append_nil, ne_eq, not_false_eq_true, List.take_nil, List.drop_nil, beq_tf, beq_ft, hd]
        apply WP.reg
        · intro ex
          simp only [arun, badG, wants, aop, aval, raw, PV.isL, withV, withS, AS.put, tget_tset, tget, deref, aload, cut, astore, splice, amem, okV, okC, PV.cells, reptr, killOk, abin, elems, kill, avals, List.all_nil, Option.isSome_some, Bool.and_true, Bool.true_and, Bool.not_true, Bool.not_false, decide_true, decide_false, if_true, if_false, Bool.false_eq_true, reduceIte, Nat.reduceEqDiff, List.getElem?_cons_succ, List.getElem?_cons_zero, Nat.reduceAdd, Nat.zero_add, Nat.add_zero, beq_self_eq_true, reduceCtorEq, List.length_cons, List.length_nil, Nat.reduceLeDiff, List.take_succ_cons, List.take_zero, List.drop_succ_cons, List.drop_zero, List.cons_append, List.nil_append, List.append_nil, ne_eq, not_false_eq_true, List.take_nil, List.drop_nil, beq_tf, beq_ft]
          rfl
        apply WP.ret
        refine ⟨rfl, ?_⟩
        apply Exists.intro
        apply And.intro
        · simp only [c34, resOfs, resOf, arun, badG, wants, aop, aval, raw, PV.isL, withV, withS, AS.put, tget_tset, tget, deref, aload, cut, astore, splice, amem, okV, okC, PV.cells, reptr, killOk, abin, elems, kill, avals, List.all_nil, Option.isSome_some, Bool.and_true, Bool.true_and, Bool.not_true, Bool.not_false, decide_true, decide_false, if_true, if_false, Bool.false_eq_true, reduceIte, Nat.reduceEqDiff, List.getElem?_cons_succ, List.getElem?_cons_zero, Nat.reduceAdd, Nat.zero_add, Nat.add_zero, beq_self_eq_true, reduceCtorEq, List.length_cons, List.length_nil, Nat.reduceLeDiff, List.take_succ_cons, List.take_zero, List.drop_succ_cons, List.drop_zero, List.cons_append, List.nil_append, List.append_nil, ne_eq, not_false_eq_true, List.take_nil, List.drop_nil, beq_tf, beq_ft]
          rfl
        · exact ⟨_, rfl⟩
      · apply WP.condF
        · simp only [arun, badG, wants, aop, aval, raw, PV.isL, withV, withS, AS.put, tget_tset, tget, deref, aload, cut, astore, splice, amem, okV, okC, PV.cells, reptr, killOk, abin, elems, kill, avals, List.all_nil, Option.isSome_some, Bool.and_true, Bool.true_and, Bool.not_true, Bool.not_false, decide_true, decide_false, if_true, if_false, Bool.false_eq_true, reduceIte, Nat.reduceEqDiff, List.getElem?_cons_succ, List.getElem?_cons_zero, Nat.reduceAdd, Nat.zero_add, Nat.add_zero, beq_self_eq_true, reduceCtorEq, List.length_cons, List.length_nil, Nat.reduceLeDiff, List.take_succ_cons, List.take_zero, List.drop_succ_cons, List.drop_zero, List.cons_append, List.nil_append, List.append_nil, ne_eq, not_false_eq_true, List.take_nil, List.drop_nil, beq_tf, beq_ft, beq_eq_false_iff_ne.2 hd]
        apply WP.skip
        apply WP.reg
        · intro ex
          simp only [arun, badG, wants, aop, aval, raw, PV.isL, withV, withS, AS.put, tget_tset, tget, deref, aload, cut, astore, splice, amem, okV, okC, PV.cells, reptr, killOk, abin, elems, kill, avals, List.all_nil, Option.isSome_some, Bool.and_true, Bool.true_and, Bool.not_true, Bool.not_false, decide_true, decide_false, if_true, if_false, Bool.false_eq_true, reduceIte, Nat.reduceEqDiff, List.getElem?_cons_succ, List.getElem?_cons_zero, Nat.reduceAdd, Nat.zero_add, Nat.add_zero, beq_self_eq_true, reduceCtorEq, List.length_cons, List.length_nil, Nat.reduceLeDiff, List.take_succ_cons, List.take_zero, List.drop_succ_cons, List.drop_zero, List.cons_append, List.nil_append, List.append_nil, ne_eq, not_false_eq_true, List.take_nil, List.drop_nil, beq_tf, beq_ft]
          rfl
        apply WP.seq
        apply WP.reg
        · intro ex
          simp only [arun, badG, wants, aop, aval, raw, PV.isL, withV, withS, AS.put, tget_tset, tget, deref, aload, cut, astore, splice, amem, okV, okC, PV.cells, reptr, killOk, abin, elems, kill, avals, List.all_nil, Option.isSome_some, Bool.and_true, Bool.true_and, Bool.not_true, Bool.not_false, decide_true, decide_false, if_true, if_false, Bool.false_eq_true, reduceIte, Nat.reduceEqDiff, List.getElem?_cons_succ, List.getElem?_cons_zero, Nat.reduceAdd, Nat.zero_add, Nat.add_zero, beq_self_eq_true, reduceCtorEq, List.length_cons, List.length_nil, Nat.reduceLeDiff, List.take_succ_cons, List.take_zero, List.drop_succ_cons, List.drop_zero, List.cons_append, List.nil_append, List.append_nil, ne_eq, not_false_eq_true, List.take_nil, List.drop_nil, beq_tf, beq_ft]
          rfl
        apply WP.block
        refine WP.rounds (CntI a b c0 c1 c2 c3 kd ty op off mx dp xs) ?_ ?_ xs.length ?_
        · rintro n σ ⟨l, i, nn, rfl, h1, h2, h3, h7, h8, hi⟩
          have hlt : ((i : Nat) : Int) < (xs.length : Int) := by omega
          apply WP.seq
          by_cases hm : nn ≤ mx
          · have hxi : xs[i]? = some xs[i] := List.getElem?_eq_getElem (by omega)
            have hxm : xs[i] ∈ xs := List.getElem_mem (by omega)
            obtain ⟨r, hr⟩ := ih xs[i] hxm (IntKind.i64.wrap (mx - nn)) (IntKind.i64.wrap (dp - 1))
            have hcall : EvF tbN 34 [xs[i], .int .i64 (IntKind.i64.wrap (mx - nn)), .int .i64 (IntKind.i64.wrap (dp - 1))] {} (.int .i64 r) {} := EvF.pureI rfl (fun σ => lends_tr2 (hx _ hxm) _ _ σ) hr rfl rfl
            obtain ⟨y0, y1, y2, y3, y4, y5, y6, y7, y8, y9, y10, hy⟩ := tr_cells (hx _ hxm)
            have hi0 : (0 : Int) ≤ (i : Int) := by omega
            apply WP.reg
            · intro ex
              simp only [arun, badG, wants, aop, aval, raw, PV.isL, withV, withS, AS.put, tget_tset, tget, deref, aload, cut, astore, splice, amem, okV, okC, PV.cells, reptr, killOk, abin, elems, kill, avals, List.all_nil, Option.isSome_some, Bool.and_true, Bool.true_and, Bool.not_true, Bool.not_false, decide_true, decide_false, if_true, if_false, Bool.false_eq_true, reduceIte, Nat.reduceEqDiff, List.getElem?_cons_succ, List.getElem?_cons_zero, Nat.reduceAdd, Nat.zero_add, Nat.add_zero, beq_self_eq_true, reduceCtorEq, List.length_cons, List.length_nil, Nat.reduceLeDiff, List.take_succ_cons, List.take_zero, List.drop_succ_cons, List.drop_zero, List.cons_append, List.nil_append, List.append_nil, ne_eq, not_false_eq_true, List.take_nil, List.drop_nil, beq_tf, beq_ft, tpv, h1, h2, h3, h7, h8, hlt, hm]
              rfl
            apply WP.condT
            · simp only [arun, badG, wants, aop, aval, raw, PV.isL, withV, withS, AS.put, tget_tset, tget, deref, aload, cut, astore, splice, amem, okV, okC, PV.cells, reptr, killOk, abin, elems, kill, avals, List.all_nil, Option.isSome_some, Bool.and_true, Bool.true_and, Bool.not_true, Bool.not_false, decide_true, decide_false, if_true, if_false, Bool.false_eq_true, reduceIte, Nat.reduceEqDiff, List.getElem?_cons_succ, List.getElem?_cons_zero, Nat.reduceAdd, Nat.zero_add, Nat.add_zero, beq_self_eq_true, reduceCtorEq, List.length_cons, List.length_nil, Nat.reduceLeDiff, List.take_succ_cons, List.take_zero, List.drop_succ_cons, List.drop_zero, List.cons_append, List.nil_append, List.append_nil, ne_eq, not_false_eq_true, List.take_nil, List.drop_nil, beq_tf, beq_ft]
            apply WP.skip
            apply WP.seq
            apply WP.block
            apply WP.regc
            · apply EvR.split 11
              · intro ex
                simp only [arun, badG, wants, aop, aval, raw, PV.isL, withV, withS, AS.put, tget_tset, tget, deref, aload, cut, astore, splice, amem, okV, okC, PV.cells, reptr, killOk, abin, elems, kill, avals, List.all_nil, Option.isSome_some, Bool.and_true, Bool.true_and, Bool.not_true, Bool.not_false, decide_true, decide_false, if_true, if_false, Bool.false_eq_true, reduceIte, Nat.reduceEqDiff, List.getElem?_cons_succ, List.getElem?_cons_zero, Nat.reduceAdd, Nat.zero_add, Nat.add_zero, beq_self_eq_true, reduceCtorEq, List.length_cons, List.length_nil, Nat.reduceLeDiff, List.take_succ_cons, List.take_zero, List.drop_succ_cons, List.drop_zero, List.cons_append, List.nil_append, List.append_nil, ne_eq, not_false_eq_true, List.take_nil, List.drop_nil, beq_tf, beq_ft, tpv, h1, h2, h3, h7, h8, hi0, hxi, hy, Int.toNat_natCast]
                rfl
              · simp only [List.drop_succ_cons, List.drop_zero]
                apply EvR.call
                · simp only [arun, badG, wants, aop, aval, raw, PV.isL, withV, withS, AS.put, tget_tset, tget, deref, aload, cut, astore, splice, amem, okV, okC, PV.cells, reptr, killOk, abin, elems, kill, avals, List.all_nil, Option.isSome_some, Bool.and_true, Bool.true_and, Bool.not_true, Bool.not_false, decide_true, decide_false, if_true, if_false, Bool.false_eq_true, reduceIte, Nat.reduceEqDiff, List.getElem?_cons_succ, List.getElem?_cons_zero, Nat.reduceAdd, Nat.zero_add, Nat.add_zero, beq_self_eq_true, reduceCtorEq, List.length_cons, List.length_nil, Nat.reduceLeDiff, List.take_succ_cons, List.take_zero, List.drop_succ_cons, List.drop_zero, List.cons_append, List.nil_append, List.append_nil, ne_eq, not_false_eq_true, List.take_nil, List.drop_nil, beq_tf, beq_ft]
                  rfl
                · rw [hy] at hcall
                  exact hcall
                · apply EvR.of
                  intro ex
                  simp only [arun, badG, wants, aop, aval, raw, PV.isL, withV, withS, AS.put, tget_tset, tget, deref, aload, cut, astore, splice, amem, okV, okC, PV.cells, reptr, killOk, abin, elems, kill, avals, List.all_nil, Option.isSome_some, Bool.and_true, Bool.true_and, Bool.not_true, Bool.not_false, decide_true, decide_false, if_true, if_false, Bool.false_eq_true, reduceIte, Nat.reduceEqDiff, List.getElem?_cons_succ, List.getElem?_cons_zero, Nat.reduceAdd, Nat.zero_add, Nat.add_zero, beq_self_eq_true, reduceCtorEq, List.length_cons, List.length_nil, Nat.reduceLeDiff, List.take_succ_cons, List.take_zero, List.drop_succ_cons, List.drop_zero, List.cons_append, List.nil_append, List.append_nil, ne_eq, not_false_eq_true, List.take_nil, List.drop_nil, beq_tf, beq_ft, h7]
                  rfl
            apply WP.reg1
            · intro ex
              simp only [arun, badG, wants, aop, aval, raw, PV.isL, withV, withS, AS.put, tget_tset, tget, deref, aload, cut, astore, splice, amem, okV, okC, PV.cells, reptr, killOk, abin, elems, kill, avals, List.all_nil, Option.isSome_some, Bool.and_true, Bool.true_and, Bool.not_true, Bool.not_false, decide_true, decide_false, if_true, if_false, Bool.false_eq_true, reduceIte, Nat.reduceEqDiff, List.getElem?_cons_succ, List.getElem?_cons_zero, Nat.reduceAdd, Nat.zero_add, Nat.add_zero, beq_self_eq_true, reduceCtorEq, List.length_cons, List.length_nil, Nat.reduceLeDiff, List.take_succ_cons, List.take_zero, List.drop_succ_cons, List.drop_zero, List.cons_append, List.nil_append, List.append_nil, ne_eq, not_false_eq_true, List.take_nil, List.drop_nil, beq_tf, beq_ft, h8]
              rfl
            refine ⟨_, i + 1, IntKind.i64.wrap (nn + r), rfl, ?_, ?_, ?_, ?_, ?_, by omega⟩
            · simp only [arun, badG, wants, aop, aval, raw, PV.isL, withV, withS, AS.put, tget_tset, tget, deref, aload, cut, astore, splice, amem, okV, okC, PV.cells, reptr, killOk, abin, elems, kill, avals, List.all_nil, Option.isSome_some, Bool.and_true, Bool.true_and, Bool.not_true, Bool.not_false, decide_true, decide_false, if_true, if_false, Bool.false_eq_true, reduceIte, Nat.reduceEqDiff, List.getElem?_cons_succ, List.getElem?_cons_zero, Nat.reduceAdd, Nat.zero_add, Nat.add_zero, beq_self_eq_true, reduceCtorEq, List.length_cons, List.length_nil, Nat.reduceLeDiff, List.take_succ_cons, List.take_zero, List.drop_succ_cons, List.drop_zero, List.cons_append, List.nil_append, List.append_nil, ne_eq, not_false_eq_true, List.take_nil, List.drop_nil, beq_tf, beq_ft, h1]
            · simp only [arun, badG, wants, aop, aval, raw, PV.isL, withV, withS, AS.put, tget_tset, tget, deref, aload, cut, astore, splice, amem, okV, okC, PV.cells, reptr, killOk, abin, elems, kill, avals, List.all_nil, Option.isSome_some, Bool.and_true, Bool.true_and, Bool.not_true, Bool.not_false, decide_true, decide_false, if_true, if_false, Bool.false_eq_true, reduceIte, Nat.reduceEqDiff, List.getElem?_cons_succ, List.getElem?_cons_zero, Nat.reduceAdd, Nat.zero_add, Nat.add_zero, beq_self_eq_true, reduceCtorEq, List.length_cons, List.length_nil, Nat.reduceLeDiff, List.take_succ_cons, List.take_zero, List.drop_succ_cons, List.drop_zero, List.cons_append, List.nil_append, List.append_nil, ne_eq, not_false_eq_true, List.take_nil, List.drop_nil, beq_tf, beq_ft, h2]
            · simp only [arun, badG, wants, aop, aval, raw, PV.isL, withV, withS, AS.put, tget_tset, tget, deref, aload, cut, astore, splice, amem, okV, okC, PV.cells, reptr, killOk, abin, elems, kill, avals, List.all_nil, Option.isSome_some, Bool.and_true, Bool.true_and, Bool.not_true, Bool.not_false, decide_true, decide_false, if_true, if_false, Bool.false_eq_true, reduceIte, Nat.reduceEqDiff, List.getElem?_cons_succ, List.getElem?_cons_zero, Nat.reduceAdd, Nat.zero_add, Nat.add_zero, beq_self_eq_true, reduceCtorEq, List.length_cons, List.length_nil, Nat.reduceLeDiff, List.take_succ_cons, List.take_zero, List.drop_succ_cons, List.drop_zero, List.cons_append, List.nil_append, List.append_nil, ne_eq, not_false_eq_true, List.take_nil, List.drop_nil, beq_tf, beq_ft, h3]
            · simp only [arun, badG, wants, aop, aval, raw, PV.isL, withV, withS, AS.put, tget_tset, tget, deref, aload, cut, astore, splice, amem, okV, okC, PV.cells, reptr, killOk, abin, elems, kill, avals, List.all_nil, Option.isSome_some, Bool.and_true, Bool.true_and, Bool.not_true, Bool.not_false, decide_true, decide_false, if_true, if_false, Bool.false_eq_true, reduceIte, Nat.reduceEqDiff, List.getElem?_cons_succ, List.getElem?_cons_zero, Nat.reduceAdd, Nat.zero_add, Nat.add_zero, beq_self_eq_true, reduceCtorEq, List.length_cons, List.length_nil, Nat.reduceLeDiff, List.take_succ_cons, List.take_zero, List.drop_succ_cons, List.drop_zero, List.cons_append, List.nil_append, List.append_nil, ne_eq, not_false_eq_true, List.take_nil, List.drop_nil, beq_tf, beq_ft]
            · simp only [arun, badG, wants, aop, aval, raw, PV.isL, withV, withS, AS.put, tget_tset, tget, deref, aload, cut, astore, splice, amem, okV, okC, PV.cells, reptr, killOk, abin, elems, kill, avals, List.all_nil, Option.isSome_some, Bool.and_true, Bool.true_and, Bool.not_true, Bool.not_false, decide_true, decide_false, if_true, if_false, Bool.false_eq_true, reduceIte, Nat.reduceEqDiff, List.getElem?_cons_succ, List.getElem?_cons_zero, Nat.reduceAdd, Nat.zero_add, Nat.add_zero, beq_self_eq_true, reduceCtorEq, List.length_cons, List.length_nil, Nat.reduceLeDiff, List.take_succ_cons, List.take_zero, List.drop_succ_cons, List.drop_zero, List.cons_append, List.nil_append, List.append_nil, ne_eq, not_false_eq_true, List.take_nil, List.drop_nil, beq_tf, beq_ft]
              rw [wrapI (by omega) (by omega)]
              rfl
          · apply WP.reg
            · intro ex
              simp only [arun, badG, wants, aop, aval, raw, PV.isL, withV, withS, AS.put, tget_tset, tget, deref, aload, cut, astore, splice, amem, okV, okC, PV.cells, reptr, killOk, abin, elems, kill, avals, List.all_nil, Option.isSome_some, Bool.and_true, Bool.true_and, Bool.not_true, Bool.not_false, decide_true, decide_false, if_true, if_false, Bool.false_eq_true, reduceIte, Nat.reduceEqDiff, List.getElem?_cons_succ, List.getElem?_cons_zero, Nat.reduceAdd, Nat.zero_add, Nat.add_zero, beq_self_eq_true, reduceCtorEq, List.length_cons, List.length_nil, Nat.reduceLeDiff, List.take_succ_cons, List.take_zero, List.drop_succ_cons, List.drop_zero, List.cons_append, List.nil_append, List.append_nil, ne_eq, not_false_eq_true, List.take_nil, List.drop_nil, beq_tf, beq_ft, tpv, h1, h2, h3, h7, h8, hlt, hm]
              rfl
            apply WP.condF
            · simp only [arun, badG, wants, aop, aval, raw, PV.isL, withV, withS, AS.put, tget_tset, tget, deref, aload, cut, astore, splice, amem, okV, okC, PV.cells, reptr, killOk, abin, elems, kill, avals, List.all_nil, Option.isSome_some, Bool.and_true, Bool.true_and, Bool.not_true, Bool.not_false, decide_true, decide_false, if_true, if_false, Bool.false_eq_true, reduceIte, Nat.reduceEqDiff, List.getElem?_cons_succ, List.getElem?_cons_zero, Nat.reduceAdd, Nat.zero_add, Nat.add_zero, beq_self_eq_true, reduceCtorEq, List.length_cons, List.length_nil, Nat.reduceLeDiff, List.take_succ_cons, List.take_zero, List.drop_succ_cons, List.drop_zero, List.cons_append, List.nil_append, List.append_nil, ne_eq, not_false_eq_true, List.take_nil, List.drop_nil, beq_tf, beq_ft]
            apply WP.exit
            show WP _ _ _ _
            apply WP.reg
            · intro ex
              simp only [arun, badG, wants, aop, aval, raw, PV.isL, withV, withS, AS.put, tget_tset, tget, deref, aload, cut, astore, splice, amem, okV, okC, PV.cells, reptr, killOk, abin, elems, kill, avals, List.all_nil, Option.isSome_some, Bool.and_true, Bool.true_and, Bool.not_true, Bool.not_false, decide_true, decide_false, if_true, if_false, Bool.false_eq_true, reduceIte, Nat.reduceEqDiff, List.getElem?_cons_succ, List.getElem?_cons_zero, Nat.reduceAdd, Nat.zero_add, Nat.add_zero, beq_self_eq_true, reduceCtorEq, List.length_cons, List.length_nil, Nat.reduceLeDiff, List.take_succ_cons, List.take_zero, List.drop_succ_cons, List.drop_zero, List.cons_append, List.nil_append, List.append_nil, ne_eq, not_false_eq_true, List.take_nil, List.drop_nil, beq_tf, beq_ft, h7]
              rfl
            apply WP.ret
            refine ⟨rfl, ?_⟩
            apply Exists.intro
            apply And.intro
            · simp only [c34, resOfs, resOf, arun, badG, wants, aop, aval, raw, PV.isL, withV, withS, AS.put, tget_tset, tget, deref, aload, cut, astore, splice, amem, okV, okC, PV.cells, reptr, killOk, abin, elems, kill, avals, List.all_nil, Option.isSome_some, Bool.and_true, Bool.true_and, Bool.not_true, Bool.not_false, decide_true, decide_false, if_true, if_false, Bool.false_eq_true, reduceIte, Nat.reduceEqDiff, List.getElem?_cons_succ, List.getElem?_cons_zero, Nat.reduceAdd, Nat.zero_add, Nat.add_zero, beq_self_eq_true, reduceCtorEq, List.length_cons, List.length_nil, Nat.reduceLeDiff, List.take_succ_cons, List.take_zero, List.drop_succ_cons, List.drop_zero, List.cons_append, List.nil_append, List.append_nil, ne_eq, not_false_eq_true, List.take_nil, List.drop_nil, beq_tf, beq_ft]
              rfl
            · exact ⟨_, rfl⟩
        · rintro σ ⟨l, i, nn, rfl, h1, h2, h3, h7, h8, hi⟩
          have hlt : ¬ ((i : Nat) : Int) < (xs.length : Int) := by omega
          apply WP.seq
          apply WP.reg
          · intro ex
            simp only [arun, badG, wants, aop, aval, raw, PV.isL, withV, withS, AS.put, tget_tset, tget, deref, aload, cut, astore, splice, amem, okV, okC, PV.cells, reptr, killOk, abin, elems, kill, avals, List.all_nil, Option.isSome_some, Bool.and_true, Bool.true_and, Bool.not_true, Bool.not_false, decide_true, decide_false, if_true, if_false, Bool.false_eq_true, reduceIte, Nat.reduceEqDiff, List.getElem?_cons_succ, List.getElem?_cons_zero, Nat.reduceAdd, Nat.zero_add, Nat.add_zero, beq_self_eq_true, reduceCtorEq, List.length_cons, List.length_nil, Nat.reduceLeDiff, List.take_succ_cons, List.take_zero, List.drop_succ_cons, List.drop_zero, List.cons_append, List.nil_append, List.append_nil, ne_eq, not_false_eq_true, List.take_nil, List.drop_nil, beq_tf, beq_ft, tpv, h1, h2, h3, h7, h8, hlt]
            rfl
          apply WP.condF
          · simp only [arun, badG, wants, aop, aval, raw, PV.isL, withV, withS, AS.put, tget_tset, tget, deref, aload, cut, astore, splice, amem, okV, okC, PV.cells, reptr, killOk, abin, elems, kill, avals, List.all_nil, Option.isSome_some, Bool.and_true, Bool.true_and, Bool.not_true, Bool.not_false, decide_true, decide_false, if_true, if_false, Bool.false_eq_true, reduceIte, Nat.reduceEqDiff, List.getElem?_cons_succ, List.getElem?_cons_zero, Nat.reduceAdd, Nat.zero_add, Nat.add_zero, beq_self_eq_true, reduceCtorEq, List.length_cons, List.length_nil, Nat.reduceLeDiff, List.take_succ_cons, List.take_zero, List.drop_succ_cons, List.drop_zero, List.cons_append, List.nil_append, List.append_nil, ne_eq, not_false_eq_true, List.take_nil, List.drop_nil, beq_tf, beq_ft]
          apply WP.exit
          show WP _ _ _ _
          apply WP.reg
          · intro ex
            simp only [arun, badG, wants, aop, aval, raw, PV.isL, withV, withS, AS.put, tget_tset, tget, deref, aload, cut, astore, splice, amem, okV, okC, PV.cells, reptr, killOk, abin, elems, kill, avals, List.all_nil, Option.isSome_some, Bool.and_true, Bool.true_and, Bool.not_true, Bool.not_false, decide_true, decide_false, if_true, if_false, Bool.false_eq_true, reduceIte, Nat.reduceEqDiff, List.getElem?_cons_succ, List.getElem?_cons_zero, Nat.reduceAdd, Nat.zero_add, Nat.add_zero, beq_self_eq_true, reduceCtorEq, List.length_cons, List.length_nil, Nat.reduceLeDiff, List.take_succ_cons, List.take_zero, List.drop_succ_cons, List.drop_zero, List.cons_append, List.nil_append, List.append_nil, ne_eq, not_false_eq_true, List.take_nil, List.drop_nil, beq_tf, beq_ft, h7]
            rfl
          apply WP.ret
          refine ⟨rfl, ?_⟩
          apply Exists.intro
          apply And.intro
          · simp only [c34, resOfs, resOf, arun, badG, wants, aop, aval, raw, PV.isL, withV, withS, AS.put, tget_tset, tget, deref, aload, cut, astore, splice, amem, okV, okC, PV.cells, reptr, killOk, abin, elems, kill, avals, List.all_nil, Option.isSome_some, Bool.and_true, Bool.true_and, Bool.not_true, Bool.not_false, decide_true, decide_false, if_true, if_false, Bool.false_eq_true, reduceIte, Nat.reduceEqDiff, List.getElem?_cons_succ, List.getElem?_cons_zero, Nat.reduceAdd, Nat.zero_add, Nat.add_zero, beq_self_eq_true, reduceCtorEq, List.length_cons, List.length_nil, Nat.reduceLeDiff, List.take_succ_cons, List.take_zero, List.drop_succ_cons, List.drop_zero, List.cons_append, List.nil_append, List.append_nil, ne_eq, not_false_eq_true, List.take_nil, List.drop_nil, beq_tf, beq_ft]
            rfl
          · exact ⟨_, rfl⟩
        · exact ⟨_, 0, 1, rfl, by simp only [arun, badG, wants, aop, aval, raw, PV.isL, withV, withS, AS.put, tget_tset, tget, deref, aload, cut, astore, splice, amem, okV, okC, PV.cells, reptr, killOk, abin, elems, kill, avals, List.all_nil, Option.isSome_some, Bool.and_true, Bool.true_and, Bool.not_true, Bool.not_false, decide_true, decide_false, if_true, if_false, Bool.false_eq_true, reduceIte, Nat.reduceEqDiff, List.getElem?_cons_succ, List.getElem?_cons_zero, Nat.reduceAdd, Nat.zero_add, Nat.add_zero, beq_self_eq_true, reduceCtorEq, List.length_cons, List.length_nil, Nat.reduceLeDiff, List.take_succ_cons, List.take_zero, List.drop_succ_cons, List.drop_zero, List.cons_append, List.nil_append, List.append_nil, ne_eq, not_false_eq_true, List.take_nil, List.drop_nil, beq_tf, beq_ft], by simp only [arun, badG, wants, aop, aval, raw, PV.isL, withV, withS, AS.put, tget_tset, tget, deref, aload, cut, astore, splice, amem, okV, okC, PV.cells, reptr, killOk, abin, elems, kill, avals, List.all_nil, Option.isSome_some, Bool.and_true, Bool.true_and, Bool.not_true, Bool.not_false, decide_true, decide_false, if_true, if_false, Bool.false_eq_true, reduceIte, Nat.reduceEqDiff, List.getElem?_cons_succ, List.getElem?_cons_zero, Nat.reduceAdd, Nat.zero_add, Nat.add_zero, beq_self_eq_true, reduceCtorEq, List.length_cons, List.length_nil, Nat.reduceLeDiff, List.take_succ_cons, List.take_zero, List.drop_succ_cons, List.drop_zero, List.cons_append, List.nil_append, List.append_nil, ne_eq, not_false_eq_true, List.take_nil, List.drop_nil, beq_tf, beq_ft], by simp only [arun, badG, wants, aop, aval, raw, PV.isL, withV, withS, AS.put, tget_tset, tget, deref, aload, cut, astore, splice, amem, okV, okC, PV.cells, reptr, killOk, abin, elems, kill, avals, List.all_nil, Option.isSome_some, Bool.and_true, Bool.true_and, Bool.not_true, Bool.not_false, decide_true, decide_false, if_true, if_false, Bool.false_eq_true, reduceIte, Nat.reduceEqDiff, List.getElem?_cons_succ, List.getElem?_cons_zero, Nat.reduceAdd, Nat.zero_add, Nat.add_zero, beq_self_eq_true, reduceCtorEq, List.length_cons, List.length_nil, Nat.reduceLeDiff, List.take_succ_cons, List.take_zero, List.drop_succ_cons, List.drop_zero, List.cons_append, List.nil_append, List.append_nil, ne_eq, not_false_eq_true, List.take_nil, List.drop_nil, beq_tf, beq_ft], by simp only [arun, badG, wants, aop, aval, raw, PV.isL, withV, withS, AS.put, tget_tset, tget, deref, aload, cut, astore, splice, amem, okV, okC, PV.cells, reptr, killOk, abin, elems, kill, avals, List.all_nil, Option.isSome_some, Bool.and_true, Bool.true_and, Bool.not_true, Bool.not_false, decide_true, decide_false, if_true, if_false, Bool.false_eq_true, reduceIte, Nat.reduceEqDiff, List.getElem?_cons_succ, List.getElem?_cons_zero, Nat.reduceAdd, Nat.zero_add, Nat.add_zero, beq_self_eq_true, reduceCtorEq, List.length_cons, List.length_nil, Nat.reduceLeDiff, List.take_succ_cons, List.take_zero, List.drop_succ_cons, List.drop_zero, List.cons_append, List.nil_append, List.append_nil, ne_eq, not_false_eq_true, List.take_nil, List.drop_nil, beq_tf, beq_ft], by simp only [arun, badG, wants, aop, aval, raw, PV.isL, withV, withS, AS.put, tget_tset, tget, deref, aload, cut, astore, splice, amem, okV, okC, PV.cells, reptr, killOk, abin, elems, kill, avals, List.all_nil, Option.isSome_some, Bool.and_true, Bool.true_and, Bool.not_true, Bool.not_false, decide_true, decide_false, if_true, if_false, Bool.false_eq_true, reduceIte, Nat.reduceEqDiff, List.getElem?_cons_succ, List.getElem?_cons_zero, Nat.reduceAdd, Nat.zero_add, Nat.add_zero, beq_self_eq_true, reduceCtorEq, List.length_cons, List.length_nil, Nat.reduceLeDiff, List.take_succ_cons, List.take_zero, List.drop_succ_cons, List.drop_zero, List.cons_append, List.nil_append, List.append_nil, ne_eq, not_false_eq_true, List.take_nil, List.drop_nil, beq_tf, beq_ft]; rfl, by omega⟩
    exact ⟨r', EvP.of (own := false) hc hr rfl rfl⟩
end
end Go.Proofs.YtkgmeeenacnhfaaGreat.Eng
