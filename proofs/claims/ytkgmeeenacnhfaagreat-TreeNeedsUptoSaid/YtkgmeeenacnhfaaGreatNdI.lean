/- The contracts of the library's sorts at this program; clone; sorted keys; sorting of small ints; the plain law of needs. No condition. -/
import Derived.Shelf.SlIterI.Nil
import Derived.Shelf.SortM.Plain
import Derived.Shelf.SortM.SortNone
import Derived.Ground.GgzProg
import Derived.Ground.SlgmProg
import Derived.Test.YtkgmeeenacnhfaaGreatProg
import Derived.Shelf.SlSortCmp.Whole1
import Derived.Ground.SlsfProg
import Derived.Test.YtkgmeeenacnhfaaGreatChecked
import Derived.WideShapes
import Derived.Shelf.SlSortCmp.NoneTotal
import Derived.Test.YtkgmeeenacnhfaaGreatNdF
import Derived.Test.YtkgmeeenacnhfaaGreatNdH
set_option linter.unusedVariables false
set_option linter.unusedSimpArgs false
namespace Go.Proofs
open Go.Shelf
def Tryz.keysA_ren : Go.Shelf.Ren := ⟨fun | 7 => 172 | 10 => 205 | n => n, fun | 23 => 140 | 26 => 3 | 3 => 4 | 28 => 198 | 0 => 0 | 27 => 197 | 33 => 157 | 4 => 4 | n => n, fun | n => n⟩
theorem Tryz.keysA : Go.Proofs.SlLaysZI.n7 Tryz.prog Tryz.keysA_ren := {
  mixed := by kernel_rfl
  f7 := ⟨Tryz.f172.name, by decide, Tryz.func172.trans (congrArg some (by kernel_rfl))⟩
  f10 := ⟨Tryz.f205.name, by decide, Tryz.func205.trans (congrArg some (by kernel_rfl))⟩
  t0 := Tryz.underlying0
  a0 := Tryz.isAgg0
  z0 := Tryz.sizeOf0
  v0 := Tryz.zeroValue0
  t4 := Tryz.underlying4
  a4 := Tryz.isAgg4
  z4 := Tryz.sizeOf4
  v4 := Tryz.zeroValue4
  t23 := Tryz.underlying140
  a23 := Tryz.isAgg140
  z23 := Tryz.sizeOf140
  v23 := Tryz.zeroValue140
  t26 := Tryz.underlying3
  a26 := Tryz.isAgg3
  z26 := Tryz.sizeOf3
  v26 := Tryz.zeroValue3
  t27 := Tryz.underlying197
  a27 := Tryz.isAgg197
  z27 := Tryz.sizeOf197
  v27 := Tryz.zeroValue197
  t28 := Tryz.underlying198
  a28 := Tryz.isAgg198
  z28 := Tryz.sizeOf198
  v28 := Tryz.zeroValue198
  t33 := Tryz.underlying157
  a33 := Tryz.isAgg157
  z33 := Tryz.sizeOf157
  v33 := Tryz.zeroValue157 }
def Tryz.sortedA_ren : Go.Shelf.Ren := ⟨fun | 6 => 171 | 8 => 203 | 9 => 204 | 11 => 211 | 13 => 142 | 12 => 212 | 23 => 189 | 24 => 190 | 14 => 214 | 15 => 215 | 16 => 216 | 17 => 217 | 18 => 218 | 19 => 219 | 20 => 220 | 21 => 221 | 22 => 222 | 25 => 223 | 26 => 207 | 27 => 208 | 28 => 224 | 29 => 225 | 30 => 226 | 31 => 227 | n => n, fun | 26 => 3 | 28 => 198 | 24 => 22 | 0 => 0 | 3 => 3 | 37 => 182 | 48 => 24 | 50 => 200 | 4 => 4 | 40 => 206 | 39 => 205 | 45 => 210 | 5 => 5 | 9 => 9 | 51 => 225 | 55 => 229 | 57 => 233 | 58 => 85 | 33 => 157 | n => n, fun | n => n⟩
theorem Tryz.sortedA : Go.Proofs.SlLaysZI.n6 Tryz.prog Tryz.sortedA_ren := {
  mixed := by kernel_rfl
  f6 := ⟨Tryz.f171.name, by decide, Tryz.func171.trans (congrArg some (by kernel_rfl))⟩
  f8 := ⟨Tryz.f203.name, by decide, Tryz.func203.trans (congrArg some (by kernel_rfl))⟩
  f11 := ⟨Tryz.f211.name, by decide, Tryz.func211.trans (congrArg some (by kernel_rfl))⟩
  t0 := Tryz.underlying0
  a0 := Tryz.isAgg0
  z0 := Tryz.sizeOf0
  v0 := Tryz.zeroValue0
  t24 := Tryz.underlying22
  a24 := Tryz.isAgg22
  z24 := Tryz.sizeOf22
  v24 := Tryz.zeroValue22
  t26 := Tryz.underlying3
  a26 := Tryz.isAgg3
  z26 := Tryz.sizeOf3
  v26 := Tryz.zeroValue3
  t28 := Tryz.underlying198
  a28 := Tryz.isAgg198
  z28 := Tryz.sizeOf198
  v28 := Tryz.zeroValue198
  i26 := by kernel_rfl }
def Tryz.sortA_ren : Go.Shelf.Ren := ⟨fun | 5 => 204 | 8 => 142 | 7 => 212 | 19 => 189 | 20 => 190 | 10 => 214 | 11 => 215 | 12 => 216 | 13 => 217 | 14 => 218 | 15 => 219 | 16 => 220 | 17 => 221 | 18 => 222 | 30 => 223 | 31 => 207 | 32 => 208 | 33 => 224 | 34 => 225 | 35 => 226 | 40 => 227 | n => n, fun | 23 => 22 | 25 => 3 | 3 => 3 | 32 => 182 | 22 => 22 | 0 => 0 | 44 => 24 | 46 => 200 | 4 => 4 | 36 => 206 | 35 => 205 | 41 => 210 | 5 => 5 | 9 => 9 | 53 => 225 | 57 => 229 | 63 => 233 | 64 => 85 | n => n, fun | n => n⟩
theorem Tryz.sortA : Go.Proofs.SlLaysM.n5 Tryz.prog Tryz.sortA_ren := {
  mixed := by kernel_rfl
  f5 := ⟨Tryz.f204.name, by decide, Tryz.func204.trans (congrArg some (by kernel_rfl))⟩
  f7 := ⟨Tryz.f212.name, by decide, Tryz.func212.trans (congrArg some (by kernel_rfl))⟩
  f8 := Tryz.func142.trans (congrArg some (by kernel_rfl))
  f10 := ⟨Tryz.f214.name, by decide, Tryz.func214.trans (congrArg some (by kernel_rfl))⟩
  f11 := ⟨Tryz.f215.name, by decide, Tryz.func215.trans (congrArg some (by kernel_rfl))⟩
  f12 := ⟨Tryz.f216.name, by decide, Tryz.func216.trans (congrArg some (by kernel_rfl))⟩
  f13 := ⟨Tryz.f217.name, by decide, Tryz.func217.trans (congrArg some (by kernel_rfl))⟩
  f14 := ⟨Tryz.f218.name, by decide, Tryz.func218.trans (congrArg some (by kernel_rfl))⟩
  f15 := ⟨Tryz.f219.name, by decide, Tryz.func219.trans (congrArg some (by kernel_rfl))⟩
  f16 := ⟨Tryz.f220.name, by decide, Tryz.func220.trans (congrArg some (by kernel_rfl))⟩
  f17 := ⟨Tryz.f221.name, by decide, Tryz.func221.trans (congrArg some (by kernel_rfl))⟩
  f18 := ⟨Tryz.f222.name, by decide, Tryz.func222.trans (congrArg some (by kernel_rfl))⟩
  f19 := Tryz.func189.trans (congrArg some (by kernel_rfl))
  f20 := Tryz.func190.trans (congrArg some (by kernel_rfl))
  f30 := ⟨Tryz.f223.name, by decide, Tryz.func223.trans (congrArg some (by kernel_rfl))⟩
  f31 := Tryz.func207.trans (congrArg some (by kernel_rfl))
  f32 := Tryz.func208.trans (congrArg some (by kernel_rfl))
  f33 := ⟨Tryz.f224.name, by decide, Tryz.func224.trans (congrArg some (by kernel_rfl))⟩
  f34 := ⟨Tryz.f225.name, by decide, Tryz.func225.trans (congrArg some (by kernel_rfl))⟩
  f35 := ⟨Tryz.f226.name, by decide, Tryz.func226.trans (congrArg some (by kernel_rfl))⟩
  f40 := ⟨Tryz.f227.name, by decide, Tryz.func227.trans (congrArg some (by kernel_rfl))⟩
  t0 := Tryz.underlying0
  a0 := Tryz.isAgg0
  z0 := Tryz.sizeOf0
  v0 := Tryz.zeroValue0
  t3 := Tryz.underlying3
  a3 := Tryz.isAgg3
  z3 := Tryz.sizeOf3
  v3 := Tryz.zeroValue3
  t4 := Tryz.underlying4
  a4 := Tryz.isAgg4
  z4 := Tryz.sizeOf4
  v4 := Tryz.zeroValue4
  t5 := Tryz.underlying5
  a5 := Tryz.isAgg5
  z5 := Tryz.sizeOf5
  v5 := Tryz.zeroValue5
  t9 := Tryz.underlying9
  a9 := Tryz.isAgg9
  z9 := Tryz.sizeOf9
  v9 := Tryz.zeroValue9
  t22 := Tryz.underlying22
  a22 := Tryz.isAgg22
  z22 := Tryz.sizeOf22
  v22 := Tryz.zeroValue22
  t23 := Tryz.underlying22
  a23 := Tryz.isAgg22
  z23 := Tryz.sizeOf22
  v23 := Tryz.zeroValue22
  t25 := Tryz.underlying3
  a25 := Tryz.isAgg3
  z25 := Tryz.sizeOf3
  v25 := Tryz.zeroValue3
  t32 := Tryz.underlying182
  a32 := Tryz.isAgg182
  z32 := Tryz.sizeOf182
  v32 := Tryz.zeroValue182
  t35 := Tryz.underlying205
  a35 := Tryz.isAgg205
  z35 := Tryz.sizeOf205
  v35 := Tryz.zeroValue205
  t36 := Tryz.underlying206
  a36 := Tryz.isAgg206
  z36 := Tryz.sizeOf206
  v36 := Tryz.zeroValue206
  t41 := Tryz.underlying210
  a41 := Tryz.isAgg210
  z41 := Tryz.sizeOf210
  v41 := Tryz.zeroValue210
  t44 := Tryz.underlying24
  a44 := Tryz.isAgg24
  z44 := Tryz.sizeOf24
  v44 := Tryz.zeroValue24
  t46 := Tryz.underlying200
  a46 := Tryz.isAgg200
  z46 := Tryz.sizeOf200
  v46 := Tryz.zeroValue200
  t53 := Tryz.underlying225
  a53 := Tryz.isAgg225
  z53 := Tryz.sizeOf225
  v53 := Tryz.zeroValue225
  t57 := Tryz.underlying229
  a57 := Tryz.isAgg229
  z57 := Tryz.sizeOf229
  v57 := Tryz.zeroValue229
  t63 := Tryz.underlying233
  a63 := Tryz.isAgg233
  z63 := Tryz.sizeOf233
  v63 := Tryz.zeroValue233
  t64 := Tryz.underlying85
  a64 := Tryz.isAgg85
  z64 := Tryz.sizeOf85
  v64 := Tryz.zeroValue85 }
end Go.Proofs
namespace Go.Proofs
open Go.Shelf
def Tryz.sortC_ren : Go.Shelf.Ren := ⟨fun | 6 => 92 | 15 => 142 | 14 => 141 | 28 => 189 | 29 => 190 | 20 => 181 | 21 => 182 | 22 => 183 | 23 => 184 | 24 => 185 | 25 => 186 | 26 => 187 | 27 => 188 | 46 => 206 | 47 => 207 | 48 => 208 | 49 => 209 | 50 => 210 | 57 => 213 | n => n, fun | 22 => 22 | 24 => 3 | 25 => 139 | 3 => 3 | 39 => 182 | 0 => 0 | 53 => 24 | 55 => 200 | 4 => 4 | 46 => 206 | 45 => 205 | 50 => 210 | 5 => 5 | 9 => 9 | 66 => 225 | 70 => 229 | 76 => 233 | 77 => 85 | n => n, fun | n => n⟩
theorem Tryz.sortC : Go.Proofs.SlLaysF.n6 Tryz.prog Tryz.sortC_ren := {
  mixed := by kernel_rfl
  f6 := ⟨Tryz.f92.name, by decide, Tryz.func92.trans (congrArg some (by kernel_rfl))⟩
  f14 := ⟨Tryz.f141.name, by decide, Tryz.func141.trans (congrArg some (by kernel_rfl))⟩
  f15 := Tryz.func142.trans (congrArg some (by kernel_rfl))
  f20 := ⟨Tryz.f181.name, by decide, Tryz.func181.trans (congrArg some (by kernel_rfl))⟩
  f21 := ⟨Tryz.f182.name, by decide, Tryz.func182.trans (congrArg some (by kernel_rfl))⟩
  f22 := ⟨Tryz.f183.name, by decide, Tryz.func183.trans (congrArg some (by kernel_rfl))⟩
  f23 := ⟨Tryz.f184.name, by decide, Tryz.func184.trans (congrArg some (by kernel_rfl))⟩
  f24 := ⟨Tryz.f185.name, by decide, Tryz.func185.trans (congrArg some (by kernel_rfl))⟩
  f25 := ⟨Tryz.f186.name, by decide, Tryz.func186.trans (congrArg some (by kernel_rfl))⟩
  f26 := ⟨Tryz.f187.name, by decide, Tryz.func187.trans (congrArg some (by kernel_rfl))⟩
  f27 := ⟨Tryz.f188.name, by decide, Tryz.func188.trans (congrArg some (by kernel_rfl))⟩
  f28 := Tryz.func189.trans (congrArg some (by kernel_rfl))
  f29 := Tryz.func190.trans (congrArg some (by kernel_rfl))
  f46 := ⟨Tryz.f206.name, by decide, Tryz.func206.trans (congrArg some (by kernel_rfl))⟩
  f47 := Tryz.func207.trans (congrArg some (by kernel_rfl))
  f48 := Tryz.func208.trans (congrArg some (by kernel_rfl))
  f49 := ⟨Tryz.f209.name, by decide, Tryz.func209.trans (congrArg some (by kernel_rfl))⟩
  f50 := ⟨Tryz.f210.name, by decide, Tryz.func210.trans (congrArg some (by kernel_rfl))⟩
  f57 := ⟨Tryz.f213.name, by decide, Tryz.func213.trans (congrArg some (by kernel_rfl))⟩
  t0 := Tryz.underlying0
  a0 := Tryz.isAgg0
  z0 := Tryz.sizeOf0
  v0 := Tryz.zeroValue0
  t3 := Tryz.underlying3
  a3 := Tryz.isAgg3
  z3 := Tryz.sizeOf3
  v3 := Tryz.zeroValue3
  t4 := Tryz.underlying4
  a4 := Tryz.isAgg4
  z4 := Tryz.sizeOf4
  v4 := Tryz.zeroValue4
  t5 := Tryz.underlying5
  a5 := Tryz.isAgg5
  z5 := Tryz.sizeOf5
  v5 := Tryz.zeroValue5
  t9 := Tryz.underlying9
  a9 := Tryz.isAgg9
  z9 := Tryz.sizeOf9
  v9 := Tryz.zeroValue9
  t22 := Tryz.underlying22
  a22 := Tryz.isAgg22
  z22 := Tryz.sizeOf22
  v22 := Tryz.zeroValue22
  a24 := Tryz.isAgg3
  z24 := Tryz.sizeOf3
  t25 := Tryz.underlying139
  a25 := Tryz.isAgg139
  z25 := Tryz.sizeOf139
  v25 := Tryz.zeroValue139
  t39 := Tryz.underlying182
  a39 := Tryz.isAgg182
  z39 := Tryz.sizeOf182
  v39 := Tryz.zeroValue182
  t45 := Tryz.underlying205
  a45 := Tryz.isAgg205
  z45 := Tryz.sizeOf205
  v45 := Tryz.zeroValue205
  t46 := Tryz.underlying206
  a46 := Tryz.isAgg206
  z46 := Tryz.sizeOf206
  v46 := Tryz.zeroValue206
  t50 := Tryz.underlying210
  a50 := Tryz.isAgg210
  z50 := Tryz.sizeOf210
  v50 := Tryz.zeroValue210
  t53 := Tryz.underlying24
  a53 := Tryz.isAgg24
  z53 := Tryz.sizeOf24
  v53 := Tryz.zeroValue24
  t55 := Tryz.underlying200
  a55 := Tryz.isAgg200
  z55 := Tryz.sizeOf200
  v55 := Tryz.zeroValue200
  t66 := Tryz.underlying225
  a66 := Tryz.isAgg225
  z66 := Tryz.sizeOf225
  v66 := Tryz.zeroValue225
  t70 := Tryz.underlying229
  a70 := Tryz.isAgg229
  z70 := Tryz.sizeOf229
  v70 := Tryz.zeroValue229
  t76 := Tryz.underlying233
  a76 := Tryz.isAgg233
  z76 := Tryz.sizeOf233
  v76 := Tryz.zeroValue233
  t77 := Tryz.underlying85
  a77 := Tryz.isAgg85
  z77 := Tryz.sizeOf85
  v77 := Tryz.zeroValue85 }
end Go.Proofs
namespace Go.Proofs.YtkgmeeenacnhfaaGreat.Eng
open Go
open Go.RowKit (Below)
theorem strip1_closed {p : PV} (h : p.closed = true) : (strip1 p).closed = true := by
  cases p <;> simp_all [strip1, PV.closed, closeds]
theorem map_strip1_closed : ∀ {cs : List PV}, closeds cs = true → closeds (cs.map strip1) = true
  | [], _ => rfl
  | c :: cs, h => by
    simp only [closeds, Bool.and_eq_true] at h
    simp only [List.map_cons, closeds, Bool.and_eq_true]
    exact ⟨strip1_closed h.1, map_strip1_closed h.2⟩
theorem strip_closed {p : PV} (h : p.closed = true) : (strip p).closed = true := by
  cases p with
  | agg cs => exact map_strip1_closed (by simpa [PV.closed] using h)
  | _ => exact strip1_closed h
theorem map_strip_closed : ∀ {xs : List PV}, closeds xs = true → closeds (xs.map strip) = true
  | [], _ => rfl
  | x :: xs, h => by
    simp only [closeds, Bool.and_eq_true] at h
    simp only [List.map_cons, closeds, Bool.and_eq_true]
    exact ⟨strip_closed h.1, map_strip_closed h.2⟩
/-- The abstract code of slices.Clone at elements of a size. -/
def cloneC (sz bytes : Nat) (z : List PV) : AFn := { nparams := 1, ntmps := 8, results := [.tmp 2], body :=
 (.seq (.region [⟨(some 2), .mv (.c (.list 1 [])), none, []⟩])
 (.seq (.seq (.region [⟨(some 3), .mv (.t 0), none, []⟩,
    ⟨(some 4), .isnil false (.t 3), none, []⟩])
  (.cond (.t 4)
   (.seq (.region [⟨(some 2), .mv (.c (.list 1 [])), none, []⟩])
   .ret)
   .skip))
 (.seq (.region [⟨(some 5), .mkslice sz 0 z [], none, []⟩,
   ⟨(some 6), .mv (.t 0), none, []⟩,
   ⟨(some 7), .append sz bytes false (.t 5) (.t 6), none, []⟩,
   ⟨(some 2), .mv (.t 7), none, []⟩])
 .ret))) }
theorem clone_some {T : Tbl} {f sz bytes : Nat} {z : List PV} (hf : T.fn f = some (cloneC sz bytes z)) {x : PV} {xs : List PV} (hw : widths sz (x :: xs) = true) (hl : (x :: xs).length ≤ 1048576) (hc : closeds [.list 0 (x :: xs)] = true) :
    callP T (exn T 20) true f [.list 0 (x :: xs)] = some (.list 1 ((x :: xs).map strip)) := by
  have hcl : closeds (x :: xs) = true := by simpa [closeds, PV.closed] using hc
  have hcs := map_strip_closed hcl
  have hm : ([] : List PV).length + (x :: xs).length ≤ maxA := by simp [maxA] at hl ⊢; omega
  have happ : appendL {} sz false 1 [] (x :: xs) = some (.list 2 ((x :: xs).map strip), { stamps := [(x :: xs).length] }) := by
    have hh : headOk sz ([] : List PV) = true := rfl
    simp only [appendL, hh, hw, hm, decide_true, Bool.and_self, Bool.not_true, Bool.false_eq_true, if_false]
    simp
  unfold callP
  rw [if_pos hc]
  have hent : enter T (exn T 20) f [.list 0 (x :: xs)] {} = some (cloneC sz bytes z, { tmps := [.list 0 (x :: xs), .undef, .list 2 ((x :: xs).map strip), .list 0 (x :: xs), .bool false, .list 1 [], .list 0 (x :: xs), .list 2 ((x :: xs).map strip)], S := { stamps := [(x :: xs).length] } }) := by
    unfold enter
    rw [hf]
    have hbody : exn T 20 (cloneC sz bytes z).body { tmps := [.list 0 (x :: xs)] } = some (.ret, { tmps := [.list 0 (x :: xs), .undef, .list 2 ((x :: xs).map strip), .list 0 (x :: xs), .bool false, .list 1 [], .list 0 (x :: xs), .list 2 ((x :: xs).map strip)], S := { stamps := [(x :: xs).length] } }) := by
      simp only [cloneC, exn, exF, arun, aop, aval, raw, badG, wants, withV, withS, AS.put, tset, tget, PV.isL, fillS, List.replicate, elems, happ, List.all_nil, Bool.false_eq_true, if_false, if_true, Bool.not_false]
    simp [cloneC] at hbody ⊢
    rw [hbody]
  unfold callS
  rw [hent]
  simp only [runDefers, cloneC, resOfs, resOf, aval, raw, tget, PV.isL, packR, Bool.false_eq_true, if_false]
  have hg : give { stamps := [(x :: xs).length] } (.list 2 ((x :: xs).map strip)) = some (.list 1 ((x :: xs).map strip)) := by
    simp [give, trav, travA, give1]
  rw [hg]
  simp only [if_true, PV.closed, hcs, Bool.and_true]
  simp
theorem clone_nils {T : Tbl} {f sz bytes : Nat} {z : List PV} (hf : T.fn f = some (cloneC sz bytes z)) : callP T (exn T 20) true f [.nils] = some (.list 1 []) := by
  have hent : enter T (exn T 20) f [.nils] {} = some (cloneC sz bytes z, { tmps := [.nils, .undef, .list 1 [], .nils, .bool true] }) := by
    unfold enter
    rw [hf]
    rfl
  unfold callP callS
  rw [if_pos (show closeds [PV.nils] = true from rfl), hent]
  rfl
theorem clone_emp {T : Tbl} {f sz bytes : Nat} {z : List PV} (hf : T.fn f = some (cloneC sz bytes z)) : callP T (exn T 20) true f [.emp] = some (.list 1 []) := by
  have hent : enter T (exn T 20) f [.emp] {} = some (cloneC sz bytes z, { tmps := [.emp, .undef, .list 1 [], .emp, .bool false, .list 1 [], .emp, .list 1 []] }) := by
    unfold enter
    rw [hf]
    rfl
  unfold callP callS
  rw [if_pos (show closeds [PV.emp] = true from rfl), hent]
  rfl
theorem clone_ok {T : Tbl} {P : Program} (ht : TOK T P) {f sz bytes : Nat} {z : List PV} (hf : T.fn f = some (cloneC sz bytes z)) {args : List PV} {r : PV} (h : cloneG sz args = some r) : ∀ T', PureOK T' P f args r := by
  intro T'
  have kn : ∀ {args : List PV} {r : PV}, callP T (exn T 20) true f args = some r → PureOK T' P f args r := fun h => (Knows.of ht h).2 T'
  unfold cloneG at h
  split at h
  · rename_i xs
    cases hw : widths sz xs with
    | false => rw [hw] at h; cases h
    | true =>
      rw [hw] at h
      by_cases hl : xs.length ≤ 1048576
      · simp only [hl, decide_true, cond_true, Option.some.injEq] at h
        subst h
        cases xs with
        | nil =>
          intro imm w vs k h1 h2 h3
          obtain ⟨hs, hr⟩ := h2
          have hlt : 0 < vs.size := by rw [hs]; simp
          have hrel := hr 0 (.list 0 []) vs[0] rfl (by simp [hlt])
          have conv : ∀ p, Rel (immG imm) p vs[0] → Args (immG imm) [p] vs := fun p hp => ⟨by rw [hs]; rfl, fun k q v e1 e2 => by
            cases k with
            | zero => simp [hlt] at e1 e2; subst e1 e2; exact hp
            | succ k => simp at e1⟩
          generalize vs[0] = v at hrel conv
          cases hrel with
          | listN => exact kn (clone_nils hf) imm w vs k h1 (conv _ .nils) rfl
          | listE => exact kn (clone_emp hf) imm w vs k h1 (conv _ (.emp _ _)) rfl
          | list => exact kn (clone_emp hf) imm w vs k h1 (conv _ (.emp _ _)) rfl
        | cons x xs => exact fun imm w vs k h1 h2 h3 => kn (clone_some hf hw hl h3) imm w vs k h1 h2 h3
      · simp [hl] at h
  · cases h
end Go.Proofs.YtkgmeeenacnhfaaGreat.Eng
namespace Go.Proofs.YtkgmeeenacnhfaaGreat.Eng
open Go
open Go.RowKit (Below)
open Go.Proofs Go.Shelf Go.Sort Go.Maps
section
variable {T : Tbl} {P : Program} {base : Nat} {G : Ghost} {S S' : Store} {w w' : World}
theorem Sim.newImmB (h : Sim T P base G S w) (hb : base ≤ w.heap.size) (hbl : Below w.heap.size w w') {g n : Nat} {val : Nat → Value} (hg : w.heap.size ≤ g) (hc : ∀ k, k < n → w'.cell? ⟨g, k, none⟩ = some (val k)) :
    Sim T P base (G.addImm g 0 n val) S w' ∧ Ext base G (G.addImm g 0 n val) := by
  have ext : Ext base G (G.addImm g 0 n val) := Ghost.addImm_ext (fun o v _ => h.fresh_imm hg) (Nat.le_trans hb hg)
  refine ⟨h.step (fun _ => False) (fun b hb' _ _ => hbl.block b hb') (fun b hb' _ => rfl) ext ?_ (fun b o k e c m _ g1 g2 g3 => .inr ⟨k, e, c, m, g1, g2, g3⟩)
    (fun b hb' => by have h1 := h.ownLt b hb'; have h2 := hbl.size; exact ⟨h1.1, by omega⟩) h.boxLen (fun _ _ e => .inl ⟨e, fun _ _ _ => id⟩) h.stampLen
    (fun _ _ e => .inl ⟨e, rfl, fun _ _ _ _ _ => id⟩) h.mapLen (fun _ _ e => .inl ⟨e, fun _ _ => id⟩) h.loopLen (fun _ _ e => .inl ⟨e, fun _ _ => id⟩), ext⟩
  intro b o v e
  simp only [Ghost.addImm] at e
  split at e
  · rename_i hcd
    obtain ⟨rfl, _, hlt⟩ := hcd
    refine .inr ⟨?_, .inl (h.fresh_own hg)⟩
    simp at hlt e
    rw [hc o (by omega), e]
  · exact .inl ⟨e, id⟩
theorem Stp.newImmB (h : Sim T P base G S w) (hb : base ≤ w.heap.size) (hbl : Below w.heap.size w w') {G' : Ghost} (ext : Ext base G G') (own : ∀ b, G'.own b = G.own b) : Stp (KF G) base G w G' w' :=
  ⟨ext, fun b hk => ⟨hbl.block b (h.ownLt b (by rw [show G.own b = .frame from hk]; simp)).2, (own b).trans hk⟩, hbl.mono hb⟩
end
theorem insI_perm (n : Int) : ∀ l : List Int, (insI n l).Perm (n :: l)
  | [] => List.Perm.refl _
  | m :: r => by
    unfold insI
    by_cases h : n ≤ m
    · simp [h]
    · simp only [h, decide_false, cond_false]
      exact ((insI_perm n r).cons m).trans (.swap n m r)
theorem sortI_perm : ∀ l : List Int, (sortI l).Perm l
  | [] => List.Perm.refl _
  | n :: r => (insI_perm n _).trans ((sortI_perm r).cons n)
theorem insI_sorted (n : Int) : ∀ {l : List Int}, l.Pairwise (· ≤ ·) → (insI n l).Pairwise (· ≤ ·)
  | [], _ => by simp [insI]
  | m :: r, h => by
    unfold insI
    have h' := List.pairwise_cons.1 h
    by_cases hn : n ≤ m
    · simp only [hn, decide_true, cond_true]
      refine List.pairwise_cons.2 ⟨fun a ha => ?_, h⟩
      rcases List.mem_cons.1 ha with rfl | ha
      · exact hn
      · exact Int.le_trans hn (h'.1 a ha)
    · simp only [hn, decide_false, cond_false]
      refine List.pairwise_cons.2 ⟨fun a ha => ?_, insI_sorted n h'.2⟩
      rcases List.mem_cons.1 ((insI_perm n r).mem_iff.1 ha) with rfl | ha
      · omega
      · exact h'.1 a ha
theorem sortI_sorted : ∀ l : List Int, (sortI l).Pairwise (· ≤ ·)
  | [] => List.Pairwise.nil
  | n :: r => insI_sorted n (sortI_sorted r)
theorem sortI_merge {l l' : List Int} (h : l.Perm l') : l.mergeSort (fun x y => decide (x ≤ y)) = sortI l' := by
  have tr : ∀ a b c : Int, decide (a ≤ b) = true → decide (b ≤ c) = true → decide (a ≤ c) = true := fun a b c h1 h2 => by simp only [decide_eq_true_eq] at *; exact Int.le_trans h1 h2
  have to : ∀ a b : Int, (decide (a ≤ b) || decide (b ≤ a)) = true := fun a b => by simp only [Bool.or_eq_true, decide_eq_true_eq]; exact Int.le_total a b
  refine List.Perm.eq_of_pairwise (le := fun a b : Int => decide (a ≤ b) = true) (fun a b _ _ h1 h2 => ?_) (List.pairwise_mergeSort tr to l) ((sortI_sorted l').imp fun {a b} h => by simpa using h) (((List.mergeSort_perm l _).trans h).trans (sortI_perm l').symm)
  simp only [decide_eq_true_eq] at h1 h2
  exact Int.le_antisymm h1 h2
theorem asInts_eq (l : List Int) : asInts l = l.map (PV.int .i64) := by induction l with
  | nil => rfl
  | cons n r ih => simp [asInts, ih]
theorem memI_iff (n : Int) : ∀ l : List Int, memI n l = true ↔ n ∈ l
  | [] => by simp [memI]
  | m :: r => by
    unfold memI
    by_cases h : n = m
    · simp [h]
    · simp [h, memI_iff n r]
theorem keysI_spec : ∀ {es : List (PV × PV)} {l : List Int}, keysI es = some l → l.length = es.length ∧ l.Nodup ∧ ∀ (i : Nat) (n : Int), l[i]? = some n → (∃ v : PV, es[i]? = some (PV.int .i64 n, v)) ∧ (Lit.int .i64 n).wf = true
  | [], l, h => by
    cases h
    exact ⟨rfl, List.nodup_nil, fun i n h => by simp at h⟩
  | (p, v) :: r, l, h => by
    unfold keysI at h
    split at h
    · rename_i heq
      cases heq
    · rename_i n v' r' heq
      cases heq
      split at h
      · rename_i l' hl'
        obtain ⟨h1, h2, h3⟩ := keysI_spec hl'
        cases hm : memI n l' with
        | true => rw [hm] at h; simp at h
        | false =>
          rw [hm] at h
          by_cases hlo : -9223372036854775808 ≤ n
          · by_cases hhi : 9223372036854775807 < n
            · simp [hlo, hhi] at h
            · simp [hlo, hhi] at h
              subst h
              refine ⟨by simp [h1], List.nodup_cons.2 ⟨fun hmem => ?_, h2⟩, fun i k hk => ?_⟩
              · rw [(memI_iff n l').2 hmem] at hm; cases hm
              · cases i with
                | zero =>
                  simp at hk
                  subst hk
                  refine ⟨⟨v, rfl⟩, ?_⟩
                  simp [Lit.wf, IntKind.min, IntKind.max, IntKind.signed, IntKind.bits]
                  omega
                | succ i => exact h3 i k (by simpa using hk)
          · simp [hlo] at h
      · cases h
    · cases h
/-- slices.Sort's two contracts at this dump, at the fence that asks nothing. -/
theorem sortsA (m : Nat) : AnyZI.SortsIn Tryz.prog Tryz.sortedA_ren Fence.wide m :=
  ⟨fun blk off cap ss W hH hblk hsz => callsIn_wide.2 (AnyM.slices_Sort_int Tryz.sortA blk off cap ss W hH hblk hsz),
   fun p cap W => callsIn_wide.2 (AnyM.slices_Sort_int_none Tryz.sortA p cap W)⟩
theorem keysG_ok {T : Tbl} {args : List PV} {S S' : Store} {r : PV} (h : keysG S args = some (r, S')) {base : Nat} {G : Ghost} {w : World} {vs : Array Value} {k : Nat} (hs : Sim T Tryz.prog base G S w) (hb : base ≤ w.heap.size) (ha : Args G args vs) :
    CallsIn Fence.wide k Tryz.prog 171 vs w (RetS T Tryz.prog base G w r S') := by
  unfold keysG at h
  split at h
  · rename_i b
    split at h
    · rename_i m hbx
      split at h
      · rename_i es hes
        split at h
        · rename_i l hl
          by_cases hlen : l.length ≤ 1048576
          · simp only [hlen, decide_true, cond_true, Option.some.injEq, Prod.mk.injEq] at h
            obtain ⟨rfl, rfl⟩ := h
            obtain ⟨k1, k2, k3⟩ := keysI_spec hl
            obtain ⟨hsz, hr⟩ := ha
            have hsz1 : vs.size = 1 := by simpa using hsz
            have hrel := hr 0 _ vs[0] rfl (by simp [hsz1])
            have hvs : vs = #[vs[0]] := by
              apply Array.ext (by simp [hsz1])
              intro i h1 h2
              have : i = 0 := by omega
              subst this
              rfl
            generalize vs[0] = v at hrel hvs
            subst hvs
            cases hrel with
            | fn _ _ _ va vc e1 e2 e3 e4 =>
              have hva : va = #[] := Array.eq_empty_of_size_eq_zero (by simpa using e1)
              subst hva
              have hvc1 : vc.size = 1 := by simpa using e2
              have hp := e4 0 _ vc[0] rfl (by simp [hvc1])
              have hvc : vc = #[vc[0]] := by
                apply Array.ext (by simp [hvc1])
                intro i h1 h2
                have : i = 0 := by omega
                subst this
                rfl
              generalize vc[0] = v at hp hvc
              subst hvc
              cases hp with
              | ptr _ _ blk ce hgb =>
                obtain ⟨blk', ce', arr, el, g1, g2, g3, g4, g5, g6⟩ := hs.box b _ hbx
                rw [hgb] at g1
                cases g1
                obtain ⟨v0, q1, q2, q3⟩ := g6 0 (.map m) rfl
                cases q3 with
                | map _ mb hgm =>
                  obtain ⟨mb', ents, clock, m1, m2, m3, m4, m5, m6⟩ := hs.map m es hes
                  rw [hgm] at m1
                  cases m1
                  have hcell : w.cell? ⟨blk, 0, none⟩ = some (.map (some mb)) := by
                    simp only [World.cell?, g3]
                    simpa using q1
                  have hbl : blk < w.heap.size := (Array.getElem?_eq_some_iff.1 g3).1
                  -- the keys as they lie
                  have hkey : ∀ (i : Nat) (e : MapEntry), ents[i]? = some e → ∃ n, l[i]? = some n ∧ e.key = .int .i64 n ∧ (Lit.int .i64 n).wf = true := by
                    intro i e he
                    have hlt : i < l.length := by
                      have := (Array.getElem?_eq_some_iff.1 he).1
                      omega
                    obtain ⟨⟨v', h1⟩, h2⟩ := k3 i l[i] (by simp [hlt])
                    obtain ⟨⟨kk, n, h3, h4⟩, _⟩ := m5 i _ _ e h1 he
                    cases h3
                    exact ⟨l[i], by simp [hlt], h4, h2⟩
                  have hkt : Tryz.prog.underlying 3 = some (.int .i64) := Tryz.underlying3
                  have hkeyOf : ∀ n, (Lit.int .i64 n).wf = true → keyOf Tryz.prog 3 (.int .i64 n) = some (.int .i64 n) := by
                    intro n hn
                    simp [keyOf, mapKey, hkt, hn]
                  have hrd : ∀ (i : Nat) (e : MapEntry), ents[i]? = some e → ∃ n, l[i]? = some n ∧ WideElems.rd (H := Unit) Tryz.prog 3 (fun _ => some (.nil, [])) e = some (.int .i64 n, .nil) := by
                    intro i e he
                    obtain ⟨n, h1, h2, h3⟩ := hkey i e he
                    exact ⟨n, h1, by simp [WideElems.rd, h2, hkeyOf n h3]⟩
                  have hfit : WideElems.Fit (H := Unit) Tryz.prog 3 (fun _ => some (.nil, [])) ents clock := by
                    refine ⟨by rw [m4, ← k1]; simp only [maxLen]; omega, ⟨fun x hx => m6.1 x.born (List.mem_map.2 ⟨x, hx, rfl⟩), m6.2, ?_⟩, fun x hx => ?_⟩
                    · have : ents.toList.map (·.key) = l.map (Value.int .i64) := by
                        apply List.ext_getElem?
                        intro i
                        simp only [List.getElem?_map, Array.getElem?_toList]
                        cases he : ents[i]? with
                        | none =>
                          have : l[i]? = none := by
                            rw [List.getElem?_eq_none]
                            have := Array.getElem?_eq_none_iff.1 he
                            omega
                          rw [this]
                          rfl
                        | some e =>
                          obtain ⟨n, h1, h2, _⟩ := hkey i e he
                          rw [h1]
                          simp [h2]
                      rw [this]
                      refine List.Pairwise.map _ (fun a b hab e => hab ?_) k2
                      cases e
                      rfl
                    · obtain ⟨i, hi, rfl⟩ := List.getElem_of_mem hx
                      obtain ⟨n, _, h2⟩ := hrd i _ (by rw [← Array.getElem?_toList, List.getElem?_eq_getElem hi])
                      exact ⟨_, h2⟩
                  have hown : w.ownsMap (H := Unit) Tryz.prog 3 (fun _ => some (.nil, [])) mb ents.size (.map ((ents.toList.map (WideElems.rg Tryz.prog 3 (fun _ => some (.nil, [])))).foldr DataW.insert [])) := ⟨ents, clock, m3, hfit, Nat.le_refl _, rfl⟩
                  have hperm : (intKeys (H := Unit) (.map ((ents.toList.map (WideElems.rg Tryz.prog 3 (fun _ => some (.nil, [])))).foldr DataW.insert []))).Perm l := by
                    unfold intKeys
                    refine ((WideShapes.sorted_perm _).map _).trans (List.Perm.of_eq ?_)
                    apply List.ext_getElem?
                    intro i
                    simp only [List.getElem?_map, Array.getElem?_toList]
                    cases he : ents[i]? with
                    | none =>
                      have : l[i]? = none := by
                        rw [List.getElem?_eq_none]
                        have := Array.getElem?_eq_none_iff.1 he
                        omega
                      rw [this]
                      rfl
                    | some e =>
                      obtain ⟨n, h1, h2⟩ := hrd i e he
                      rw [h1]
                      simp only [Option.map_some, WideElems.rg, h2, Option.getD_some]
                      rfl
                  have hsize : Maps.size (H := Unit) (.map ((ents.toList.map (WideElems.rg Tryz.prog 3 (fun _ => some (.nil, [])))).foldr DataW.insert [])) = l.length := by
                    have := (WideShapes.sorted_perm (ents.toList.map (WideElems.rg (H := Unit) Tryz.prog 3 (fun _ => some (.nil, []))))).length_eq
                    simp only [Maps.size]
                    rw [this]
                    simp [m4, k1]
                  have hseq : SeqGives Fence.wide 2 Tryz.prog 205 #[.pointer (some ⟨blk, 0, none⟩)] encZ (fun ss => ss.Perm (intKeys (H := Unit) (.map ((ents.toList.map (WideElems.rg Tryz.prog 3 (fun _ => some (.nil, [])))).foldr DataW.insert [])))) _ w :=
                    AnyZI.keys_gives (ρ := Tryz.keysA_ren) { Tryz.keysA with } Fence.wide _ trivial rfl (by omega) blk mb ents.size _ w hbl hcell hown
                  have cS := AnyZI.sorted_in Tryz.sortedA Fence.wide 5 trivial trivial trivial trivial rfl (by omega) (sortsA _) (enters_of Tryz.func204 (by kernel_rfl) rfl) 205 #[.pointer (some ⟨blk, 0, none⟩)] trivial (enters_of Tryz.func205 (by kernel_rfl) rfl) _ _ (by rw [hsize]; simp only [maxLen]; omega) (by rw [hsize]; omega) _ hseq
                  change CallsIn _ _ Tryz.prog 171 _ _ _ at cS
                  refine callsIn_wide.2 ((callsIn_wide.1 cS).mono fun e w' he => ?_)
                  obtain ⟨v, ss, rfl, hS, hrow, hnil, hbl'⟩ := he
                  have hss : ss.mergeSort (fun x y => decide (x ≤ y)) = sortI l := sortI_merge (hS.trans hperm)
                  rw [hss] at hrow
                  have hslen : ss.length = (sortI l).length := by rw [(hS.trans hperm).length_eq, (sortI_perm l).length_eq]
                  rw [hslen] at hrow
                  obtain ⟨hr1, hr2⟩ := hrow
                  rcases hr2 with ⟨rfl, hz⟩ | ⟨g, cap, cur, rfl, hbase, hgb', r1, r2, r3, r4⟩
                  · have hnil' : sortI l = [] := List.eq_nil_of_length_eq_zero hz
                    rw [hnil']
                    exact ⟨G, hs.same hbl'.size (fun b hb' _ => hbl'.block b hb'), Stp.newImmB hs hb hbl' (Ext.refl _ _) (fun _ => rfl), .listN 0 trivial⟩
                  · obtain ⟨s1, s2⟩ := Sim.newImmB (n := (sortI l).length) (val := fun i => cur.getD i undef) hs hb hbl' hbase (fun i hi => by
                      simp only [World.cell?, hgb']
                      have : i < cur.size := by omega
                      simp [this])
                    refine ⟨_, s1, Stp.newImmB hs hb hbl' s2 (fun _ => rfl), ?_⟩
                    have hval : ∀ (i : Nat) (c : PV), (asInts (sortI l))[i]? = some c → ∃ n, c = .int .i64 n ∧ cur.getD i undef = .int .i64 n ∧ i < (sortI l).length := by
                      intro i c hc
                      rw [asInts_eq, List.getElem?_map] at hc
                      cases hn : (sortI l)[i]? with
                      | none => rw [hn] at hc; cases hc
                      | some n =>
                        rw [hn] at hc
                        cases hc
                        have hi := (List.getElem?_eq_some_iff.1 hn).1
                        refine ⟨n, rfl, ?_, hi⟩
                        have hcur : (cur.toList.take ((sortI l).length * 1))[i]? = some (encZ n) := by rw [r4, List.getElem?_map, hn]; rfl
                        rw [List.getElem?_take_of_lt (by omega), Array.getElem?_toList] at hcur
                        simp [Array.getD_eq_getD_getElem?, hcur, encZ]
                    have hflat : ∀ l : List Int, flat (asInts l) = asInts l := by
                      intro l
                      induction l with
                      | nil => rfl
                      | cons n r ih => simp [asInts, flat, PV.cells, ih]
                    have hlen2 : (asInts (sortI l)).length = (sortI l).length := by rw [asInts_eq, List.length_map]
                    rw [← hlen2]
                    refine .list 0 (asInts (sortI l)) g 0 cap 1 (fun i => cur.getD i undef) (by omega) (fun x hx => ?_) (by rw [hlen2]; exact r1) (fun i c e => ?_) (fun i c e => ?_) (fun i c e => ?_) trivial
                    · rw [asInts_eq] at hx
                      obtain ⟨n, _, rfl⟩ := List.mem_map.1 hx
                      rfl
                    · rw [hflat] at e
                      obtain ⟨n, _, _, hi⟩ := hval i c e
                      exact Ghost.addImm_at (by rw [hlen2]; exact hi)
                    · rw [hflat] at e
                      obtain ⟨n, rfl, h2, _⟩ := hval i c e
                      rw [h2]
                      exact ⟨rfl, rfl⟩
                    · rw [hflat] at e
                      obtain ⟨n, rfl, h2, _⟩ := hval i c e
                      rw [h2]
                      exact .int _ _
          · simp [hlen] at h
        · cases h
      · cases h
    · cases h
  · cases h
end Go.Proofs.YtkgmeeenacnhfaaGreat.Eng
namespace Go.Proofs.YtkgmeeenacnhfaaGreat.Eng
open Go
open Go.RowKit (Below)
open Go.Proofs Go.Shelf Go.Sort
def insD (n : Int) : List Int → List Int
  | [] => [n]
  | m :: r => bif decide (m ≤ n) then n :: m :: r else m :: insD n r
def sortD : List Int → List Int
  | [] => []
  | n :: r => insD n (sortD r)
def smallI : List PV → Option (List Int)
  | [] => some []
  | .int .i64 n :: r => if 0 ≤ n ∧ n ≤ 1099511627776 then (match smallI r with
    | some l => some (n :: l)
    | none => none) else none
  | _ => none
def sortG (S : Store) : List PV → Option (PV × Store)
  | [.arr b 0 n 1, .fn 93 [] []] => match S.boxes[b]? with
    | some (some cs) => if cs.length = n ∧ n ≤ 1099511627776 then (match smallI cs with
      | some l => some (.tup [], { S with boxes := S.boxes.set b (some (asInts (sortD l))) })
      | none => none) else none
    | _ => none
  | [.list _ [], .fn 93 [] []] => some (.tup [], S)
  | _ => none
theorem insD_perm (n : Int) : ∀ l : List Int, (insD n l).Perm (n :: l)
  | [] => List.Perm.refl _
  | m :: r => by
    unfold insD
    by_cases h : m ≤ n
    · simp [h]
    · simp only [h, decide_false, cond_false]
      exact ((insD_perm n r).cons m).trans (.swap n m r)
theorem sortD_perm : ∀ l : List Int, (sortD l).Perm l
  | [] => List.Perm.refl _
  | n :: r => (insD_perm n _).trans ((sortD_perm r).cons n)
theorem insD_sorted (n : Int) : ∀ {l : List Int}, l.Pairwise (· ≥ ·) → (insD n l).Pairwise (· ≥ ·)
  | [], _ => by simp [insD]
  | m :: r, h => by
    unfold insD
    have h' := List.pairwise_cons.1 h
    by_cases hn : m ≤ n
    · simp only [hn, decide_true, cond_true]
      refine List.pairwise_cons.2 ⟨fun a ha => ?_, h⟩
      rcases List.mem_cons.1 ha with rfl | ha
      · exact hn
      · exact Int.le_trans (h'.1 a ha) hn
    · simp only [hn, decide_false, cond_false]
      refine List.pairwise_cons.2 ⟨fun a ha => ?_, insD_sorted n h'.2⟩
      rcases List.mem_cons.1 ((insD_perm n r).mem_iff.1 ha) with rfl | ha
      · omega
      · exact h'.1 a ha
theorem sortD_sorted : ∀ l : List Int, (sortD l).Pairwise (· ≥ ·)
  | [] => List.Pairwise.nil
  | n :: r => insD_sorted n (sortD_sorted r)
theorem sortD_of {l l' : List Int} (hp : l.Perm l') (hs : l.Pairwise (· ≥ ·)) : l = sortD l' :=
  List.Perm.eq_of_pairwise (le := fun a b : Int => a ≥ b) (fun a b _ _ h1 h2 => by omega) hs (sortD_sorted l') (hp.trans (sortD_perm l').symm)
/-- An int between 0 and 2^40. -/
abbrev Sm := { n : Int // 0 ≤ n ∧ n ≤ 1099511627776 }
instance : Inhabited Sm := ⟨⟨0, by omega, by omega⟩⟩
def cfS (x y : Sm) : Int := y.1 - x.1
theorem ltS (x y : Sm) : ltOf cfS x y = decide (y.1 < x.1) := by
  unfold ltOf cfS
  by_cases h : y.1 < x.1
  · simp [h]; omega
  · simp [h]; omega
theorem swoS : SWO (ltOf cfS) where
  irrefl x := by rw [ltS]; simp
  trans x y z h1 h2 := by rw [ltS] at *; simp only [decide_eq_true_eq] at *; omega
  ntrans x y z h1 h2 := by rw [ltS] at *; simp only [decide_eq_false_iff_not] at *; omega
theorem smallI_spec : ∀ {cs : List PV} {l : List Int}, smallI cs = some l → cs = asInts l ∧ ∃ ds : List Sm, l = ds.map (·.1)
  | [], l, h => by
    cases h
    exact ⟨rfl, [], rfl⟩
  | p :: r, l, h => by
    unfold smallI at h
    split at h
    · rename_i heq
      cases heq
    · rename_i n r' heq
      cases heq
      split at h
      · rename_i hc
        split at h
        · rename_i l' hl'
          cases h
          obtain ⟨h1, ds, h2⟩ := smallI_spec hl'
          exact ⟨by rw [h1]; rfl, ⟨n, hc⟩ :: ds, by rw [h2]; rfl⟩
        · cases h
      · cases h
    · cases h
set_option maxRecDepth 100000 in
theorem cmp_calls (x y : Sm) (W : World) : Calls Tryz.prog 93 #[.int .i64 x.1, .int .i64 y.1] W fun e w' => e = .returned (.int .i64 (cfS x y)) ∧ w' = W := by
  obtain ⟨x, hx1, hx2⟩ := x
  obtain ⟨y, hy1, hy2⟩ := y
  go_enter Tryz.func93, Tryz.ntmps93
  go_wp2
  go_ret
  refine ⟨?_, rfl⟩
  congr 2
theorem enter92 : Enter Tryz.prog 92 := ⟨_, Tryz.func92, by kernel_rfl, by decide +kernel⟩
theorem sortG_ok {T : Tbl} {args : List PV} {S S' : Store} {r : PV} (h : sortG S args = some (r, S')) {base : Nat} {G : Ghost} {w : World} {vs : Array Value} {k : Nat} (hs : Sim T Tryz.prog base G S w) (hb : base ≤ w.heap.size) (ha : Args G args vs) :
    CallsIn Fence.wide k Tryz.prog 92 vs w (RetS T Tryz.prog base G w r S') := by
  have two : ∀ {p : PV}, Args G [p, .fn 93 [] []] vs → ∃ v, vs = #[v, .func (.func 93) #[] #[]] ∧ Rel G p v := by
    intro p ⟨hsz, hr⟩
    have hsz2 : vs.size = 2 := by simpa using hsz
    have h0 := hr 0 p vs[0] rfl (by simp [hsz2])
    have h1 := hr 1 _ vs[1] rfl (by simp [hsz2])
    have hvs : vs = #[vs[0], vs[1]] := by
      apply Array.ext (by simp [hsz2])
      intro i h1 h2
      have : i = 0 ∨ i = 1 := by omega
      rcases this with rfl | rfl <;> rfl
    generalize vs[0] = v at h0 hvs
    generalize vs[1] = u at h1 hvs
    subst hvs
    cases h1 with
    | fn _ _ _ va vc e1 e2 _ _ =>
      have hva : va = #[] := Array.eq_empty_of_size_eq_zero (by simpa using e1)
      have hvc : vc = #[] := Array.eq_empty_of_size_eq_zero (by simpa using e2)
      subst hva hvc
      exact ⟨v, rfl, h0⟩
  unfold sortG at h
  split at h
  · rename_i b n
    split at h
    · rename_i cs hcs
      split at h
      · rename_i hlen0
        obtain ⟨hlen, hnb⟩ := hlen0
        split at h
        · rename_i l hl
          cases h
          obtain ⟨v, rfl, hrel⟩ := two ha
          obtain ⟨hcl, ds, hds⟩ := smallI_spec hl
          cases hrel with
          | arr _ _ _ _ blk ce cap hgb e1 e2 e3 =>
            obtain ⟨blk', ce', arr, el, g1, g2, g3, g4, g5, g6⟩ := hs.box b _ hcs
            rw [hgb] at g1
            cases g1
            have hdl : ds.length = n := by
              rw [← hlen, hcl, asInts_eq, List.length_map, hds, List.length_map]
            have hbl : blk < w.heap.size := (Array.getElem?_eq_some_iff.1 g3).1
            have hbs : b < S.boxes.length := (List.getElem?_eq_some_iff.1 hcs).1
            have hcell : ∀ j, j < ds.length → arr[j]? = some (.int .i64 (ds[j]!).1) := by
              intro j hj
              have hc : cs[j]? = some (.int .i64 (ds[j]!).1) := by
                rw [hcl, asInts_eq, List.getElem?_map, hds, List.getElem?_map, List.getElem?_eq_getElem hj]
                simp [hj]
              obtain ⟨u, u1, u2, u3⟩ := g6 j _ hc
              cases u3
              exact u1
            have hH : Holds (fun x : Sm => Value.int .i64 x.1) w blk 0 ds.toArray := by
              intro j hj
              have hj' : j < ds.length := by simpa using hj
              refine ⟨?_, by simp [World.frozen?, g3]⟩
              simp only [World.cell?, g3, Nat.zero_add]
              simp only [Option.isSome_none, Bool.false_eq_true, if_false]
              rw [hcell j hj']
              simp [hj']
            have hcmp : CmpLays1 Tryz.prog 93 #[] (fun x : Sm => Value.int .i64 x.1) cfS blk 0 ds.toArray.size w :=
              CmpReads.lays (fun m os dk _ x y => (cmp_calls x y _).mono fun e w' ⟨he, hw⟩ => ⟨he, 0, hw⟩)
            have hcon := Any.slices_SortFunc_total Tryz.sortC (fun x : Sm => Value.int .i64 x.1) (fun _ => rfl) cfS swoS 93 #[] blk 0 cap ds.toArray w (enters_of Tryz.func93 (by kernel_rfl) rfl) hcmp hH hbl
              (by
                simp only [List.size_toArray]
                omega) (fun x y h1 h2 => by
                rw [ltS] at h1 h2
                simp only [decide_eq_false_iff_not] at h1 h2
                exact Subtype.ext (by omega))
            change Calls Tryz.prog 92 _ _ _ at hcon
            have hsz : ds.toArray.size = n := by simpa using hdl
            rw [hsz] at hcon
            refine callsIn_wide.2 (hcon.mono fun e w' he => ?_)
            obtain ⟨rfl, m, os, hw'⟩ := he
            -- the row, sorted
            have hsort : ((ds.mergeSort fun x y => !(ltOf cfS) y x).map (·.1)) = sortD l := by
              refine sortD_of ?_ ?_
              · rw [hds]
                exact (List.mergeSort_perm ds _).map _
              · have tr : ∀ a b c : Sm, (!(ltOf cfS) b a) = true → (!(ltOf cfS) c b) = true → (!(ltOf cfS) c a) = true := by
                  intro a b c h1 h2
                  simp only [ltS, Bool.not_eq_true', decide_eq_false_iff_not] at *
                  omega
                have to : ∀ a b : Sm, ((!(ltOf cfS) b a) || (!(ltOf cfS) a b)) = true := by
                  intro a b
                  simp only [ltS, Bool.or_eq_true, Bool.not_eq_true', decide_eq_false_iff_not]
                  omega
                have := List.pairwise_mergeSort tr to ds
                refine List.Pairwise.map _ (fun a b hab => ?_) this
                simp only [ltS, Bool.not_eq_true', decide_eq_false_iff_not] at hab
                show a.1 ≥ b.1
                omega
            generalize hes : (ds.mergeSort fun x y => !(ltOf cfS) y x) = es at hsort hw'
            have hesl : es.length = ds.length := by rw [← hes, List.length_mergeSort]
            have hwb := hs.writeBox (arr' := putCells (fun x : Sm => Value.int .i64 x.1) 0 es.toArray arr) (cs' := asInts (sortD l)) hgb g2 g3 (by
                rw [asInts_eq, List.length_map, ← hsort, List.length_map, hesl, hdl, ← hlen]; exact g4) (by simpa [putCells] using g5) (fun j c hc => by
                rw [asInts_eq, ← hsort, List.map_map, List.getElem?_map] at hc
                cases hx : es[j]? with
                | none => rw [hx] at hc; cases hc
                | some x =>
                  rw [hx] at hc
                  cases hc
                  have hj : j < es.length := (List.getElem?_eq_some_iff.1 hx).1
                  have hja : j < arr.size := by
                    have := hcell j (by omega)
                    exact (Array.getElem?_eq_some_iff.1 this).1
                  refine ⟨.int .i64 x.1, ?_, rfl, .int _ _⟩
                  simp only [putCells, Array.getElem?_mapIdx, Array.getElem?_eq_getElem hja, Option.map_some]
                  rw [if_pos ⟨Nat.zero_le _, by simpa using hj⟩]
                  simp [hj]
                  exact (List.getElem?_eq_some_iff.1 hx).2 ▸ rfl) hbs
            have hheap : ∀ i, i < w.heap.size → w'.heap[i]? = (w.setRow blk (putCells (fun x : Sm => Value.int .i64 x.1) 0 es.toArray arr)).heap[i]? := by
              intro i hi
              rw [hw']
              unfold sortWorld grow putRow
              simp only [mapBlock, World.setRow, Sort.ahead]
              rw [Array.getElem?_append_left (by simpa using hi)]
              simp only [Array.getElem?_modify]
              by_cases hbi : blk = i
              · subst hbi
                simp only [if_true, g3, Option.map_some, onCells]
              · simp [hbi]
            have hsize : w.heap.size ≤ w'.heap.size := by
              rw [hw']
              unfold sortWorld grow putRow
              simp [mapBlock, Sort.ahead]
            have hsim := hwb.same (w' := w') (by simpa [World.setRow] using hsize) (fun i hi _ => hheap i (by simpa [World.setRow] using hi))
            have hbase := (hs.ownLt blk (by simp [g2])).1
            refine ⟨G, hsim, ⟨Ext.refl _ _, fun i hk => ⟨?_, hk⟩, ⟨?_, ?_, ?_, hsize, fun i hi => ?_⟩⟩, .tup [] #[] rfl (fun k c u hk => by simp at hk)⟩
            · have hki : G.own i = .frame := hk
              have hilt := (hs.ownLt i (by rw [hki]; simp)).2
              rw [hheap i hilt]
              exact setRow_only w blk _ i (fun e => by subst e; rw [g2] at hki; cases hki)
            · rw [hw']; rfl
            · rw [hw']; rfl
            · rw [hw']; rfl
            · rw [hheap i (by omega)]
              exact setRow_only w blk _ i (by omega)
        · cases h
      · cases h
    · cases h
  · rename_i st
    cases h
    obtain ⟨v, rfl, hrel⟩ := two ha
    have none_ : ∀ (p : Option Addr) (cap : Nat), CallsIn Fence.wide k Tryz.prog 92 #[.slice p 0 cap, .func (.func 93) #[] #[]] w (RetS T Tryz.prog base G w (.tup []) S) := by
      intro p cap
      have hcon := AnyF.slices_SortFunc_none (P := Tryz.prog) (ρ := Tryz.sortC_ren) { Tryz.sortC with } p cap (.func (.func 93) #[] #[]) w
      change Calls Tryz.prog 92 _ _ _ at hcon
      refine callsIn_wide.2 (hcon.mono fun e w' he => ?_)
      obtain ⟨rfl, rfl⟩ := he
      exact ⟨G, hs, ⟨Ext.refl _ _, fun i hk => ⟨rfl, hk⟩, Below.refl _ _⟩, .tup [] #[] rfl (fun k c u hk => by simp at hk)⟩
    cases hrel with
    | listN => exact none_ _ _
    | listE => exact none_ _ _
    | list => exact none_ _ _
  · cases h
end Go.Proofs.YtkgmeeenacnhfaaGreat.Eng
namespace Go.Proofs.YtkgmeeenacnhfaaGreat.Eng
def goN : Nat → List Int → Int → Int
  | _, [], acc => acc
  | i, n :: r, acc => goN (i + 1) r (if n > 0 then (if n + i > acc then n + i else acc) else acc)
def needV (ns : List Int) : Int := goN 0 (sortD ns) 1
def sumI : List Int → Int
  | [] => 0
  | n :: r => n + sumI r
theorem goN_acc : ∀ (l : List Int) (i : Nat) (acc : Int), acc ≤ goN i l acc
  | [], _, _ => Int.le_refl _
  | n :: r, i, acc => by
    have := goN_acc r (i + 1) (if n > 0 then (if n + i > acc then n + i else acc) else acc)
    simp only [goN]
    split at this
    · split at this
      · rename_i h1 h2
        simp only [h1, h2, if_true]
        omega
      · rename_i h1 h2
        simp only [h1, h2, if_true, if_false]
        omega
    · rename_i h1
      simp only [h1, if_false]
      omega
theorem goN_mem {m : Int} : ∀ {l : List Int} {i : Nat} {acc : Int}, m ∈ l → 0 ≤ acc → m ≤ goN i l acc
  | n :: r, i, acc, h, ha => by
    simp only [goN]
    rcases List.mem_cons.1 h with rfl | h
    · have := goN_acc r (i + 1) (if m > 0 then (if m + i > acc then m + i else acc) else acc)
      by_cases h1 : m > 0
      · by_cases h2 : m + i > acc
        · simp only [h1, h2, if_true] at this ⊢; omega
        · simp only [h1, h2, if_true, if_false] at this ⊢; omega
      · simp only [h1, if_false] at this ⊢; omega
    · refine goN_mem h ?_
      split
      · split <;> omega
      · exact ha
theorem goN_le {B : Int} : ∀ {l : List Int} {i : Nat} {acc P : Int}, l.Pairwise (· ≥ ·) → (∀ n ∈ l, 0 ≤ n) → acc ≤ B → P + sumI l ≤ B → (∀ n ∈ l, n > 0 → (i : Int) ≤ P) → goN i l acc ≤ B
  | [], _, _, _, _, _, h, _, _ => h
  | n :: r, i, acc, P, hs, h0, ha, hB, hP => by
    have hs' := List.pairwise_cons.1 hs
    have hsum : ∀ l : List Int, (∀ n ∈ l, 0 ≤ n) → 0 ≤ sumI l := by
      intro l
      induction l with
      | nil => intro _; exact Int.le_refl _
      | cons x xs ih =>
        intro h
        have h1 := h x List.mem_cons_self
        have h2 := ih (fun y hy => h y (List.mem_cons_of_mem _ hy))
        simp only [sumI]
        omega
    have hr := hsum r (fun m hm => h0 m (List.mem_cons_of_mem _ hm))
    simp only [sumI] at hB
    simp only [goN]
    by_cases hn : n > 0
    · have h1 := hP n List.mem_cons_self hn
      simp only [hn, if_true]
      refine goN_le (P := P + n) hs'.2 (fun m hm => h0 m (List.mem_cons_of_mem _ hm)) ?_ (by omega) (fun m _ _ => by omega)
      split <;> omega
    · simp only [hn, if_false]
      have hn0 := h0 n List.mem_cons_self
      refine goN_le (P := P) hs'.2 (fun m hm => h0 m (List.mem_cons_of_mem _ hm)) ha (by omega) (fun m hm hm0 => ?_)
      have := hs'.1 m hm
      omega
theorem sumI_perm {l l' : List Int} (h : l.Perm l') : sumI l = sumI l' := by
  induction h with
  | nil => rfl
  | cons x _ ih => simp only [sumI, ih]
  | swap x y l => simp only [sumI]; omega
  | trans _ _ ih1 ih2 => exact ih1.trans ih2
theorem needV_one (ns : List Int) : 1 ≤ needV ns := goN_acc _ _ _
theorem needV_mem {ns : List Int} {m : Int} (h : m ∈ ns) : m ≤ needV ns := goN_mem ((sortD_perm ns).mem_iff.2 h) (by omega)
theorem needV_le {ns : List Int} (h : ∀ n ∈ ns, 0 ≤ n) : needV ns ≤ (if sumI ns > 1 then sumI ns else 1) := by
  refine goN_le (P := 0) (sortD_sorted ns) (fun n hn => h n ((sortD_perm ns).mem_iff.1 hn)) ?_ ?_ (fun _ _ _ => Int.le_refl _)
  · split <;> omega
  · rw [sumI_perm (sortD_perm ns)]
    split <;> omega
theorem needV_perm {l l' : List Int} (h : l.Perm l') : needV l = needV l' := by
  have : sortD l = sortD l' := sortD_of ((sortD_perm l).trans h) (sortD_sorted l)
  unfold needV
  rw [this]
end Go.Proofs.YtkgmeeenacnhfaaGreat.Eng
