/- The library's sort and its walk over a map's keys, by the shelf's contracts, laid for this seat. -/
import Derived.Shelf.SlIterI.Nil
import Derived.Shelf.SlIter.Nil
import Derived.Shelf.SortM.Plain
import Derived.Shelf.SortM.SortNone
import Derived.Test.YtgknklnbcjjlkaaAlRow
import Derived.Test.YtgknklnbcjjlkaaRows
namespace Go.Proofs
open Go.RowKit Go.Maps Go.Sort Go.Shelf
set_option linter.unusedVariables false
set_option linter.unusedSimpArgs false
set_option linter.unusedSectionVars false

def Try.keysA_ren : Go.Shelf.Ren := ⟨fun | 7 => 42 | 10 => 52 | n => n, fun | 23 => 62 | 26 => 3 | 3 => 3 | 28 => 72 | 0 => 0 | 27 => 71 | 33 => 40 | 4 => 4 | n => n, fun | n => n⟩
theorem Try.keysA : Go.Proofs.SlLaysZI.n7 Try.prog Try.keysA_ren := {
  mixed := by kernel_rfl
  f7 := ⟨Try.f42.name, by kernel_rfl, Try.func42.trans (congrArg some (by kernel_rfl))⟩
  f10 := ⟨Try.f52.name, by kernel_rfl, Try.func52.trans (congrArg some (by kernel_rfl))⟩
  t0 := Try.underlying0
  a0 := Try.isAgg0
  z0 := Try.sizeOf0
  v0 := Try.zeroValue0
  t4 := Try.underlying4
  a4 := Try.isAgg4
  z4 := Try.sizeOf4
  v4 := Try.zeroValue4
  t23 := Try.underlying62
  a23 := Try.isAgg62
  z23 := Try.sizeOf62
  v23 := Try.zeroValue62
  t26 := Try.underlying3
  a26 := Try.isAgg3
  z26 := Try.sizeOf3
  v26 := Try.zeroValue3
  t27 := Try.underlying71
  a27 := Try.isAgg71
  z27 := Try.sizeOf71
  v27 := Try.zeroValue71
  t28 := Try.underlying72
  a28 := Try.isAgg72
  z28 := Try.sizeOf72
  v28 := Try.zeroValue72
  t33 := Try.underlying40
  a33 := Try.isAgg40
  z33 := Try.sizeOf40
  v33 := Try.zeroValue40 }
def Try.sortedA_ren : Go.Shelf.Ren := ⟨fun | 6 => 41 | 8 => 51 | 9 => 45 | 11 => 57 | 13 => 54 | 12 => 53 | 23 => 67 | 24 => 68 | 14 => 58 | 15 => 59 | 16 => 60 | 17 => 61 | 18 => 62 | 19 => 63 | 20 => 64 | 21 => 65 | 22 => 66 | 25 => 78 | 26 => 79 | 27 => 80 | 28 => 81 | 29 => 82 | 30 => 83 | 31 => 88 | n => n, fun | 26 => 3 | 28 => 72 | 24 => 35 | 0 => 0 | 3 => 3 | 37 => 89 | 48 => 100 | 50 => 102 | 4 => 4 | 40 => 94 | 39 => 93 | 45 => 29 | 5 => 5 | 9 => 9 | 51 => 109 | 55 => 113 | 57 => 118 | 58 => 119 | 33 => 40 | n => n, fun | n => n⟩
theorem Try.sortedA : Go.Proofs.SlLaysZI.n6 Try.prog Try.sortedA_ren := {
  mixed := by kernel_rfl
  f6 := ⟨Try.f41.name, by kernel_rfl, Try.func41.trans (congrArg some (by kernel_rfl))⟩
  f8 := ⟨Try.f51.name, by kernel_rfl, Try.func51.trans (congrArg some (by kernel_rfl))⟩
  f11 := ⟨Try.f57.name, by kernel_rfl, Try.func57.trans (congrArg some (by kernel_rfl))⟩
  t0 := Try.underlying0
  a0 := Try.isAgg0
  z0 := Try.sizeOf0
  v0 := Try.zeroValue0
  t24 := Try.underlying35
  a24 := Try.isAgg35
  z24 := Try.sizeOf35
  v24 := Try.zeroValue35
  t26 := Try.underlying3
  a26 := Try.isAgg3
  z26 := Try.sizeOf3
  v26 := Try.zeroValue3
  t28 := Try.underlying72
  a28 := Try.isAgg72
  z28 := Try.sizeOf72
  v28 := Try.zeroValue72
  i26 := by kernel_rfl }
def Try.keysB_ren : Go.Shelf.Ren := ⟨fun | 7 => 50 | 10 => 56 | n => n, fun | 23 => 75 | 26 => 3 | 3 => 9 | 28 => 72 | 0 => 0 | 27 => 71 | 33 => 40 | 4 => 4 | n => n, fun | n => n⟩
theorem Try.keysB : Go.Proofs.SlLaysZI.n7 Try.prog Try.keysB_ren := {
  mixed := by kernel_rfl
  f7 := ⟨Try.f50.name, by kernel_rfl, Try.func50.trans (congrArg some (by kernel_rfl))⟩
  f10 := ⟨Try.f56.name, by kernel_rfl, Try.func56.trans (congrArg some (by kernel_rfl))⟩
  t0 := Try.underlying0
  a0 := Try.isAgg0
  z0 := Try.sizeOf0
  v0 := Try.zeroValue0
  t4 := Try.underlying4
  a4 := Try.isAgg4
  z4 := Try.sizeOf4
  v4 := Try.zeroValue4
  t23 := Try.underlying75
  a23 := Try.isAgg75
  z23 := Try.sizeOf75
  v23 := Try.zeroValue75
  t26 := Try.underlying3
  a26 := Try.isAgg3
  z26 := Try.sizeOf3
  v26 := Try.zeroValue3
  t27 := Try.underlying71
  a27 := Try.isAgg71
  z27 := Try.sizeOf71
  v27 := Try.zeroValue71
  t28 := Try.underlying72
  a28 := Try.isAgg72
  z28 := Try.sizeOf72
  v28 := Try.zeroValue72
  t33 := Try.underlying40
  a33 := Try.isAgg40
  z33 := Try.sizeOf40
  v33 := Try.zeroValue40 }
def Try.sortI_ren : Go.Shelf.Ren := ⟨fun | 5 => 45 | 8 => 54 | 7 => 53 | 19 => 67 | 20 => 68 | 10 => 58 | 11 => 59 | 12 => 60 | 13 => 61 | 14 => 62 | 15 => 63 | 16 => 64 | 17 => 65 | 18 => 66 | 30 => 78 | 31 => 79 | 32 => 80 | 33 => 81 | 34 => 82 | 35 => 83 | 40 => 88 | n => n, fun | 23 => 35 | 25 => 3 | 3 => 3 | 32 => 89 | 22 => 35 | 0 => 0 | 44 => 100 | 46 => 102 | 4 => 4 | 36 => 94 | 35 => 93 | 41 => 29 | 5 => 5 | 9 => 9 | 53 => 109 | 57 => 113 | 63 => 118 | 64 => 119 | n => n, fun | n => n⟩
theorem Try.sortI : Go.Proofs.SlLaysM.n5 Try.prog Try.sortI_ren := {
  mixed := by kernel_rfl
  f5 := ⟨Try.f45.name, by kernel_rfl, Try.func45.trans (congrArg some (by kernel_rfl))⟩
  f7 := ⟨Try.f53.name, by kernel_rfl, Try.func53.trans (congrArg some (by kernel_rfl))⟩
  f8 := Try.func54.trans (congrArg some (by kernel_rfl))
  f10 := ⟨Try.f58.name, by kernel_rfl, Try.func58.trans (congrArg some (by kernel_rfl))⟩
  f11 := ⟨Try.f59.name, by kernel_rfl, Try.func59.trans (congrArg some (by kernel_rfl))⟩
  f12 := ⟨Try.f60.name, by kernel_rfl, Try.func60.trans (congrArg some (by kernel_rfl))⟩
  f13 := ⟨Try.f61.name, by kernel_rfl, Try.func61.trans (congrArg some (by kernel_rfl))⟩
  f14 := ⟨Try.f62.name, by kernel_rfl, Try.func62.trans (congrArg some (by kernel_rfl))⟩
  f15 := ⟨Try.f63.name, by kernel_rfl, Try.func63.trans (congrArg some (by kernel_rfl))⟩
  f16 := ⟨Try.f64.name, by kernel_rfl, Try.func64.trans (congrArg some (by kernel_rfl))⟩
  f17 := ⟨Try.f65.name, by kernel_rfl, Try.func65.trans (congrArg some (by kernel_rfl))⟩
  f18 := ⟨Try.f66.name, by kernel_rfl, Try.func66.trans (congrArg some (by kernel_rfl))⟩
  f19 := Try.func67.trans (congrArg some (by kernel_rfl))
  f20 := Try.func68.trans (congrArg some (by kernel_rfl))
  f30 := ⟨Try.f78.name, by kernel_rfl, Try.func78.trans (congrArg some (by kernel_rfl))⟩
  f31 := Try.func79.trans (congrArg some (by kernel_rfl))
  f32 := Try.func80.trans (congrArg some (by kernel_rfl))
  f33 := ⟨Try.f81.name, by kernel_rfl, Try.func81.trans (congrArg some (by kernel_rfl))⟩
  f34 := ⟨Try.f82.name, by kernel_rfl, Try.func82.trans (congrArg some (by kernel_rfl))⟩
  f35 := ⟨Try.f83.name, by kernel_rfl, Try.func83.trans (congrArg some (by kernel_rfl))⟩
  f40 := ⟨Try.f88.name, by kernel_rfl, Try.func88.trans (congrArg some (by kernel_rfl))⟩
  t0 := Try.underlying0
  a0 := Try.isAgg0
  z0 := Try.sizeOf0
  v0 := Try.zeroValue0
  t3 := Try.underlying3
  a3 := Try.isAgg3
  z3 := Try.sizeOf3
  v3 := Try.zeroValue3
  t4 := Try.underlying4
  a4 := Try.isAgg4
  z4 := Try.sizeOf4
  v4 := Try.zeroValue4
  t5 := Try.underlying5
  a5 := Try.isAgg5
  z5 := Try.sizeOf5
  v5 := Try.zeroValue5
  t9 := Try.underlying9
  a9 := Try.isAgg9
  z9 := Try.sizeOf9
  v9 := Try.zeroValue9
  t22 := Try.underlying35
  a22 := Try.isAgg35
  z22 := Try.sizeOf35
  v22 := Try.zeroValue35
  t23 := Try.underlying35
  a23 := Try.isAgg35
  z23 := Try.sizeOf35
  v23 := Try.zeroValue35
  t25 := Try.underlying3
  a25 := Try.isAgg3
  z25 := Try.sizeOf3
  v25 := Try.zeroValue3
  t32 := Try.underlying89
  a32 := Try.isAgg89
  z32 := Try.sizeOf89
  v32 := Try.zeroValue89
  t35 := Try.underlying93
  a35 := Try.isAgg93
  z35 := Try.sizeOf93
  v35 := Try.zeroValue93
  t36 := Try.underlying94
  a36 := Try.isAgg94
  z36 := Try.sizeOf94
  v36 := Try.zeroValue94
  t41 := Try.underlying29
  a41 := Try.isAgg29
  z41 := Try.sizeOf29
  v41 := Try.zeroValue29
  t44 := Try.underlying100
  a44 := Try.isAgg100
  z44 := Try.sizeOf100
  v44 := Try.zeroValue100
  t46 := Try.underlying102
  a46 := Try.isAgg102
  z46 := Try.sizeOf102
  v46 := Try.zeroValue102
  t53 := Try.underlying109
  a53 := Try.isAgg109
  z53 := Try.sizeOf109
  v53 := Try.zeroValue109
  t57 := Try.underlying113
  a57 := Try.isAgg113
  z57 := Try.sizeOf113
  v57 := Try.zeroValue113
  t63 := Try.underlying118
  a63 := Try.isAgg118
  z63 := Try.sizeOf118
  v63 := Try.zeroValue118
  t64 := Try.underlying119
  a64 := Try.isAgg119
  z64 := Try.sizeOf119
  v64 := Try.zeroValue119 }
def Try.sortS_ren : Go.Shelf.Ren := ⟨fun | 6 => 49 | 8 => 54 | 9 => 55 | 19 => 67 | 20 => 68 | 21 => 69 | 22 => 70 | 23 => 71 | 24 => 72 | 25 => 73 | 26 => 74 | 27 => 75 | 28 => 76 | 29 => 77 | 36 => 84 | 31 => 79 | 32 => 80 | 37 => 85 | 38 => 86 | 39 => 87 | 41 => 89 | n => n, fun | 27 => 58 | 29 => 9 | 3 => 3 | 32 => 89 | 26 => 58 | 0 => 0 | 44 => 100 | 46 => 102 | 4 => 4 | 36 => 94 | 35 => 93 | 41 => 29 | 5 => 5 | 9 => 9 | 53 => 109 | 57 => 113 | 63 => 118 | 64 => 119 | n => n, fun | n => n⟩
theorem Try.sortS : Go.Proofs.SlLaysM.n6 Try.prog Try.sortS_ren := {
  mixed := by kernel_rfl
  f6 := ⟨Try.f49.name, by kernel_rfl, Try.func49.trans (congrArg some (by kernel_rfl))⟩
  f8 := Try.func54.trans (congrArg some (by kernel_rfl))
  f9 := ⟨Try.f55.name, by kernel_rfl, Try.func55.trans (congrArg some (by kernel_rfl))⟩
  f19 := Try.func67.trans (congrArg some (by kernel_rfl))
  f20 := Try.func68.trans (congrArg some (by kernel_rfl))
  f21 := ⟨Try.f69.name, by kernel_rfl, Try.func69.trans (congrArg some (by kernel_rfl))⟩
  f22 := ⟨Try.f70.name, by kernel_rfl, Try.func70.trans (congrArg some (by kernel_rfl))⟩
  f23 := ⟨Try.f71.name, by kernel_rfl, Try.func71.trans (congrArg some (by kernel_rfl))⟩
  f24 := ⟨Try.f72.name, by kernel_rfl, Try.func72.trans (congrArg some (by kernel_rfl))⟩
  f25 := ⟨Try.f73.name, by kernel_rfl, Try.func73.trans (congrArg some (by kernel_rfl))⟩
  f26 := ⟨Try.f74.name, by kernel_rfl, Try.func74.trans (congrArg some (by kernel_rfl))⟩
  f27 := ⟨Try.f75.name, by kernel_rfl, Try.func75.trans (congrArg some (by kernel_rfl))⟩
  f28 := ⟨Try.f76.name, by kernel_rfl, Try.func76.trans (congrArg some (by kernel_rfl))⟩
  f29 := ⟨Try.f77.name, by kernel_rfl, Try.func77.trans (congrArg some (by kernel_rfl))⟩
  f31 := Try.func79.trans (congrArg some (by kernel_rfl))
  f32 := Try.func80.trans (congrArg some (by kernel_rfl))
  f36 := ⟨Try.f84.name, by kernel_rfl, Try.func84.trans (congrArg some (by kernel_rfl))⟩
  f37 := ⟨Try.f85.name, by kernel_rfl, Try.func85.trans (congrArg some (by kernel_rfl))⟩
  f38 := ⟨Try.f86.name, by kernel_rfl, Try.func86.trans (congrArg some (by kernel_rfl))⟩
  f39 := ⟨Try.f87.name, by kernel_rfl, Try.func87.trans (congrArg some (by kernel_rfl))⟩
  f41 := ⟨Try.f89.name, by kernel_rfl, Try.func89.trans (congrArg some (by kernel_rfl))⟩
  t0 := Try.underlying0
  a0 := Try.isAgg0
  z0 := Try.sizeOf0
  v0 := Try.zeroValue0
  t3 := Try.underlying3
  a3 := Try.isAgg3
  z3 := Try.sizeOf3
  v3 := Try.zeroValue3
  t4 := Try.underlying4
  a4 := Try.isAgg4
  z4 := Try.sizeOf4
  v4 := Try.zeroValue4
  t5 := Try.underlying5
  a5 := Try.isAgg5
  z5 := Try.sizeOf5
  v5 := Try.zeroValue5
  t9 := Try.underlying9
  a9 := Try.isAgg9
  z9 := Try.sizeOf9
  v9 := Try.zeroValue9
  t26 := Try.underlying58
  a26 := Try.isAgg58
  z26 := Try.sizeOf58
  v26 := Try.zeroValue58
  t27 := Try.underlying58
  a27 := Try.isAgg58
  z27 := Try.sizeOf58
  v27 := Try.zeroValue58
  t29 := Try.underlying9
  a29 := Try.isAgg9
  z29 := Try.sizeOf9
  v29 := Try.zeroValue9
  t32 := Try.underlying89
  a32 := Try.isAgg89
  z32 := Try.sizeOf89
  v32 := Try.zeroValue89
  t35 := Try.underlying93
  a35 := Try.isAgg93
  z35 := Try.sizeOf93
  v35 := Try.zeroValue93
  t36 := Try.underlying94
  a36 := Try.isAgg94
  z36 := Try.sizeOf94
  v36 := Try.zeroValue94
  t41 := Try.underlying29
  a41 := Try.isAgg29
  z41 := Try.sizeOf29
  v41 := Try.zeroValue29
  t44 := Try.underlying100
  a44 := Try.isAgg100
  z44 := Try.sizeOf100
  v44 := Try.zeroValue100
  t46 := Try.underlying102
  a46 := Try.isAgg102
  z46 := Try.sizeOf102
  v46 := Try.zeroValue102
  t53 := Try.underlying109
  a53 := Try.isAgg109
  z53 := Try.sizeOf109
  v53 := Try.zeroValue109
  t57 := Try.underlying113
  a57 := Try.isAgg113
  z57 := Try.sizeOf113
  v57 := Try.zeroValue113
  t63 := Try.underlying118
  a63 := Try.isAgg118
  z63 := Try.sizeOf118
  v63 := Try.zeroValue118
  t64 := Try.underlying119
  a64 := Try.isAgg119
  z64 := Try.sizeOf119
  v64 := Try.zeroValue119 }


/-- slices.Sort's two contracts at this program. -/
theorem Try.sortsA (m : Nat) : AnyZI.SortsIn Try.prog Try.sortedA_ren Fence.wide m :=
  ⟨fun blk off cap ss W hH hblk hsz => callsIn_wide.2 (AnyM.slices_Sort_int Try.sortI blk off cap ss W hH hblk hsz),
   fun p cap W => callsIn_wide.2 (AnyM.slices_Sort_int_none Try.sortI p cap W)⟩

namespace Ytgknklnbcjjlkaa
open Go.Al

theorem cl_of {g : FuncId} {args : List Value} {w : World} {R : Ending → World → Prop} {k : KV} (h : Calls Try.prog g args.toArray w R) (hk : ∀ e w', R e w' → ∃ v, e = .returned v ∧ k v w') : Cl Try.prog g args w k :=
  ⟨h.mono fun e w' he => by obtain ⟨v, rfl, hv⟩ := hk e w' he; exact hv⟩

/-- slices.Sort at a row of ints of the call's own. -/
theorem sort_int {w : World} {base n : Nat} {v : Value} {xs : List Int} (hn : n < 4611686018427387904) (h : w.ownsRow base 3 1 v n (xs.map encZ)) :
    Cl Try.prog 45 [v] w fun _ w' => w'.ownsRow base 3 1 v n ((xs.mergeSort fun x y => decide (x ≤ y)).map encZ) ∧ Fm (fun b => base ≤ b) w w' := by
  have hl := h.1
  rw [List.length_map, Nat.mul_one] at hl
  have hmx := own_maxLen h
  unfold maxLen at hmx
  rcases h.2 with ⟨rfl, rfl⟩ | ⟨g, cap, cur, rfl, hb, hg, h1, h2, h3, h4⟩
  · obtain rfl : xs = [] := List.eq_nil_of_length_eq_zero hl
    refine cl_of (AnyM.slices_Sort_int_none Try.sortI none 0 w) ?_
    rintro e w' ⟨rfl, rfl⟩
    exact ⟨_, rfl, by simpa using h, Fm.refl _ _⟩
  · subst hl
    have hH : Holds encZ w g 0 xs.toArray := holds_of_block_i hg (by simpa using h4)
    refine cl_of (AnyM.slices_Sort_int Try.sortI g 0 cap xs w hH (lt_of_heap hg) (by omega)) ?_
    rintro e w' ⟨rfl, k, os, rfl⟩
    refine ⟨_, rfl, ?_, Fm.grown (grownBy_sorted_i _) (fun j hj _ => by cases hj; exact hb)⟩
    exact ownsRow_sorted_i (by simp) hb hg h1 h2 h3

/-- A map of mine, as the shelf has it: how the values read does not matter. -/
theorem owns_int {β : Type} {kt : TypeId} (hk : Try.prog.underlying kt = some (.int .i64)) {w : World} {b : Nat} {vv : β → Value} {D : List (Int × β)} (h : MapAt w b (Value.int .i64) vv D) (hwf : ∀ p ∈ D, (Lit.int .i64 p.1).wf = true) (hsz : D.length ≤ maxLen) :
    ∃ D0 : DataW Unit, w.ownsMap Try.prog kt (fun _ => some (.nil, [])) b D.length D0 ∧ (intKeys D0).Perm (D.map (·.1)) ∧ Maps.size D0 = D.length := by
  obtain ⟨es, c, hb, he, hn, hlt⟩ := h.ex
  have hlen : es.size = D.length := by have := congrArg List.length he; simpa using this
  have hkey : ∀ x ∈ es.toList, ∃ p ∈ D, x.key = .int .i64 p.1 := by
    intro x hx
    have : (x.key, x.val) ∈ D.map (fun p => (Value.int .i64 p.1, vv p.2)) := by rw [← he]; exact List.mem_map.2 ⟨x, hx, rfl⟩
    obtain ⟨p, hp, hpe⟩ := List.mem_map.1 this
    simp only [Prod.mk.injEq] at hpe
    exact ⟨p, hp, hpe.1.symm⟩
  have hrd : ∀ x ∈ es.toList, ∀ p : Int × β, p ∈ D → x.key = .int .i64 p.1 → WideElems.rd (H := Unit) Try.prog kt (fun _ => some (.nil, [])) x = some (.int .i64 p.1, .nil) := by
    intro x hx p hp hxp
    unfold WideElems.rd
    rw [hxp, Maps.keyOf_int_mk hk (hwf p hp)]
    rfl
  have hks : es.toList.map (·.key) = D.map (fun p => Value.int .i64 p.1) := by
    have := congrArg (List.map Prod.fst) he
    simpa [List.map_map, Function.comp_def] using this
  have hF : WideElems.Fit (H := Unit) Try.prog kt (fun _ => some (.nil, [])) es c := by
    refine ⟨by omega, ⟨hlt, hn, ?_⟩, fun x hx => ?_⟩
    · rw [hks]
      have := h.keys
      rw [List.Nodup, List.pairwise_map] at this ⊢
      exact this.imp fun hne e => hne (by simpa using e)
    · obtain ⟨p, hp, hxp⟩ := hkey x hx
      exact ⟨_, hrd x hx p hp hxp⟩
  refine ⟨_, ⟨es, c, hb, hF, by omega, rfl⟩, ?_, ?_⟩
  · have h1 : (((es.toList.map (WideElems.rg (H := Unit) Try.prog kt (fun _ => some (.nil, [])))).foldr DataW.insert []).map fun p => Go.intOf p.1).Perm ((es.toList.map (WideElems.rg (H := Unit) Try.prog kt (fun _ => some (.nil, [])))).map fun p => Go.intOf p.1) := (WideShapes.sorted_perm _).map _
    have h2 : ((es.toList.map (WideElems.rg (H := Unit) Try.prog kt (fun _ => some (.nil, [])))).map fun p => Go.intOf p.1) = D.map (·.1) := by
      rw [List.map_map]
      have h3 : D.map (·.1) = (es.toList.map (·.key)).map (fun v => match v with | .int _ x => x | _ => 0) := by
        rw [hks, List.map_map]; rfl
      rw [h3, List.map_map]
      refine List.map_congr_left fun x hx => ?_
      obtain ⟨p, hp, hxp⟩ := hkey x hx
      simp only [Function.comp_apply, WideElems.rg, hrd x hx p hp hxp, hxp, Option.getD_some, Go.intOf]
    show (List.map _ _).Perm _
    rw [← h2]; exact h1
  · show List.length _ = _
    rw [(WideShapes.sorted_perm _).length_eq, List.length_map]
    simpa using hlen

/-- maps.Keys: the closure. -/
theorem keysA_spec (mb : Option Nat) (w : World) : Cl Try.prog 42 [.map mb] w fun v w' => v = .func (.func 52) #[] #[.pointer (some ⟨w.heap.size, 0, none⟩)] ∧ w' = w.alloc (.cells #[.map mb] 62) := by
  have c : CallsIn Fence.wide 5 Try.prog 42 #[.map mb] w fun e w' => e = .returned (.func (.func 52) #[] #[.pointer (some ⟨w.heap.size, 0, none⟩)]) ∧ w' = w.alloc (.cells #[.map mb] 62) := AnyZI.keys_in Try.keysA Fence.wide 5 trivial rfl mb w
  exact cl_of (callsIn_wide.1 c) fun e w' ⟨h1, h2⟩ => ⟨_, h1, rfl, h2⟩
theorem keysB_spec (mb : Option Nat) (w : World) : Cl Try.prog 50 [.map mb] w fun v w' => v = .func (.func 56) #[] #[.pointer (some ⟨w.heap.size, 0, none⟩)] ∧ w' = w.alloc (.cells #[.map mb] 75) := by
  have c : CallsIn Fence.wide 5 Try.prog 50 #[.map mb] w fun e w' => e = .returned (.func (.func 56) #[] #[.pointer (some ⟨w.heap.size, 0, none⟩)]) ∧ w' = w.alloc (.cells #[.map mb] 75) := AnyZI.keys_in Try.keysB Fence.wide 5 trivial rfl mb w
  exact cl_of (callsIn_wide.1 c) fun e w' ⟨h1, h2⟩ => ⟨_, h1, rfl, h2⟩

/-- slices.Sorted of a map's keys. -/
theorem sorted_of (g c : Nat) (hg : ∀ args w, (callFunc g args).run Try.prog w = .ok (.enter g args) w) (S : List Int → Prop) (N : Nat) (hNb : N * 8 ≤ 140737488355328) (w : World) (h : SeqGives Fence.wide 2 Try.prog g #[.pointer (some ⟨c, 0, none⟩)] encZ S N w) :
    Cl Try.prog 41 [.func (.func g) #[] #[.pointer (some ⟨c, 0, none⟩)]] w fun v w' => ∃ ss, S ss ∧ w'.ownsRow w.heap.size 3 1 v ss.length ((ss.mergeSort (fun x y => decide (x ≤ y))).map encZ) ∧ (v = .slice none 0 0 ↔ ss = []) ∧ Below w.heap.size w w' := by
  have cS := AnyZI.sorted_in Try.sortedA Fence.wide 5 trivial trivial trivial trivial rfl (by omega) (Try.sortsA _) (enters_of Try.func45 (by kernel_rfl) rfl) g #[.pointer (some ⟨c, 0, none⟩)] trivial hg S N (by unfold maxLen; omega) hNb w h
  change CallsIn _ _ Try.prog 41 _ _ _ at cS
  exact cl_of (callsIn_wide.1 cS) fun e w' ⟨v, ss, h1, h2, h3, h4, h5⟩ => ⟨v, h1, ss, h2, h3, h4, h5⟩

/-- The keys of a map, by their order. -/
def sortK {β : Type} (D : List (Int × β)) : List Int := (D.map (·.1)).mergeSort (fun x y => decide (x ≤ y))

theorem sortedA_spec {β : Type} {w : World} {b : Nat} {vv : β → Value} {D : List (Int × β)} (h : MapAt w b (Value.int .i64) vv D) (hwf : ∀ p ∈ D, (Lit.int .i64 p.1).wf = true) (hsz : D.length * 8 ≤ 140737488355328) :
    Cl Try.prog 41 [.func (.func 52) #[] #[.pointer (some ⟨w.heap.size, 0, none⟩)]] (w.alloc (.cells #[.map (some b)] 62)) fun v w' => w'.ownsRow w.heap.size 3 1 v D.length ((sortK D).map encZ) ∧ (v = .slice none 0 0 ↔ D = []) ∧ Fm (fun _ => False) w w' := by
  have hm : D.length ≤ maxLen := by unfold maxLen; omega
  obtain ⟨D0, hown, hp, hs⟩ := owns_int (kt := 3) (by kernel_rfl) h hwf hm
  have hbl := hown.lt
  have hseq : SeqGives Fence.wide 2 Try.prog 52 #[.pointer (some ⟨w.heap.size, 0, none⟩)] encZ (fun ss => ss.Perm (intKeys D0)) (Maps.size D0) (w.alloc (.cells #[.map (some b)] 62)) :=
    AnyZI.keys_gives (ρ := Try.keysA_ren) { Try.keysA with } Fence.wide _ trivial rfl (by omega) w.heap.size b D.length D0 _ (by simp) (by simp) (by
      obtain ⟨es, clock, hb, Ft, hs, hD⟩ := hown
      exact ⟨es, clock, (Below.heap_alloc _ _ b hbl).trans hb, Ft, hs, hD⟩)
  refine (sorted_of 52 _ (enters_of Try.func52 (by kernel_rfl) rfl) _ _ (by omega) _ hseq).mono ?_
  rintro v w' ⟨ss, hS, hrow, hnil, hb⟩
  have hperm : ss.Perm (D.map (·.1)) := hS.trans hp
  have hl : ss.length = D.length := by simpa using hperm.length_eq
  refine ⟨?_, ?_, ?_⟩
  · have := ownsRow_base_a hrow (show w.heap.size ≤ _ by simp)
    rw [hl] at this
    rw [sortK, ← mergeSort_of_perm_i hperm]; exact this
  · rw [hnil]
    constructor
    · intro e; rw [e] at hl; exact List.eq_nil_of_length_eq_zero hl.symm
    · intro e; rw [e] at hl; exact List.eq_nil_of_length_eq_zero hl
  · exact (Fm.alloc _ _ _).trans (Fm.of_below hb _) (fun _ _ h => h) (fun _ _ h => h)

theorem sortedB_spec {β : Type} {w : World} {b : Nat} {vv : β → Value} {D : List (Int × β)} (h : MapAt w b (Value.int .i64) vv D) (hwf : ∀ p ∈ D, (Lit.int .i64 p.1).wf = true) (hsz : D.length * 8 ≤ 140737488355328) :
    Cl Try.prog 41 [.func (.func 56) #[] #[.pointer (some ⟨w.heap.size, 0, none⟩)]] (w.alloc (.cells #[.map (some b)] 75)) fun v w' => w'.ownsRow w.heap.size 3 1 v D.length ((sortK D).map encZ) ∧ (v = .slice none 0 0 ↔ D = []) ∧ Fm (fun _ => False) w w' := by
  have hm : D.length ≤ maxLen := by unfold maxLen; omega
  obtain ⟨D0, hown, hp, hs⟩ := owns_int (kt := 3) (by kernel_rfl) h hwf hm
  have hbl := hown.lt
  have hseq : SeqGives Fence.wide 2 Try.prog 56 #[.pointer (some ⟨w.heap.size, 0, none⟩)] encZ (fun ss => ss.Perm (intKeys D0)) (Maps.size D0) (w.alloc (.cells #[.map (some b)] 75)) :=
    AnyZI.keys_gives (ρ := Try.keysB_ren) { Try.keysB with } Fence.wide _ trivial rfl (by omega) w.heap.size b D.length D0 _ (by simp) (by simp) (by
      obtain ⟨es, clock, hb, Ft, hs, hD⟩ := hown
      exact ⟨es, clock, (Below.heap_alloc _ _ b hbl).trans hb, Ft, hs, hD⟩)
  refine (sorted_of 56 _ (enters_of Try.func56 (by kernel_rfl) rfl) _ _ (by omega) _ hseq).mono ?_
  rintro v w' ⟨ss, hS, hrow, hnil, hb⟩
  have hperm : ss.Perm (D.map (·.1)) := hS.trans hp
  have hl : ss.length = D.length := by simpa using hperm.length_eq
  refine ⟨?_, ?_, ?_⟩
  · have := ownsRow_base_a hrow (show w.heap.size ≤ _ by simp)
    rw [hl] at this
    rw [sortK, ← mergeSort_of_perm_i hperm]; exact this
  · rw [hnil]
    constructor
    · intro e; rw [e] at hl; exact List.eq_nil_of_length_eq_zero hl.symm
    · intro e; rw [e] at hl; exact List.eq_nil_of_length_eq_zero hl
  · exact (Fm.alloc _ _ _).trans (Fm.of_below hb _) (fun _ _ h => h) (fun _ _ h => h)

/-- At the nil map: nothing. -/
theorem sortedA_nil (w : World) : Cl Try.prog 41 [.func (.func 52) #[] #[.pointer (some ⟨w.heap.size, 0, none⟩)]] (w.alloc (.cells #[.map none] 62)) fun v w' => v = .slice none 0 0 ∧ Fm (fun _ => False) w w' := by
  have hseq : SeqGives Fence.wide 2 Try.prog 52 #[.pointer (some ⟨w.heap.size, 0, none⟩)] encZ (fun ss : List Int => ss = []) 0 (w.alloc (.cells #[.map none] 62)) :=
    AnyZI.keys_gives_nil (ρ := Try.keysA_ren) { Try.keysA with } Fence.wide _ trivial rfl w.heap.size _ (by simp) (by simp)
  refine (sorted_of 52 _ (enters_of Try.func52 (by kernel_rfl) rfl) _ _ (by omega) _ hseq).mono ?_
  rintro v w' ⟨ss, hS, hrow, hnil, hb⟩
  exact ⟨hnil.2 hS, (Fm.alloc _ _ _).trans (Fm.of_below hb _) (fun _ _ h => h) (fun _ _ h => h)⟩
theorem sortedB_nil (w : World) : Cl Try.prog 41 [.func (.func 56) #[] #[.pointer (some ⟨w.heap.size, 0, none⟩)]] (w.alloc (.cells #[.map none] 75)) fun v w' => v = .slice none 0 0 ∧ Fm (fun _ => False) w w' := by
  have hseq : SeqGives Fence.wide 2 Try.prog 56 #[.pointer (some ⟨w.heap.size, 0, none⟩)] encZ (fun ss : List Int => ss = []) 0 (w.alloc (.cells #[.map none] 75)) :=
    AnyZI.keys_gives_nil (ρ := Try.keysB_ren) { Try.keysB with } Fence.wide _ trivial rfl w.heap.size _ (by simp) (by simp)
  refine (sorted_of 56 _ (enters_of Try.func56 (by kernel_rfl) rfl) _ _ (by omega) _ hseq).mono ?_
  rintro v w' ⟨ss, hS, hrow, hnil, hb⟩
  exact ⟨hnil.2 hS, (Fm.alloc _ _ _).trans (Fm.of_below hb _) (fun _ _ h => h) (fun _ _ h => h)⟩

/-- slices.Sort at a row of texts of the call's own. -/
theorem sort_str {w : World} {base n : Nat} {v : Value} {xs : List (List UInt8)} (hn : n < 4611686018427387904) (h : w.ownsRow base 9 1 v n (xs.map encStr)) :
    Cl Try.prog 49 [v] w fun _ w' => w'.ownsRow base 9 1 v n ((xs.mergeSort fun x y => decide (x ≤ y)).map encStr) ∧ Fm (fun b => base ≤ b) w w' := by
  have hl := h.1
  rw [List.length_map, Nat.mul_one] at hl
  rcases h.2 with ⟨rfl, rfl⟩ | ⟨g, cap, cur, rfl, hb, hg, h1, h2, h3, h4⟩
  · obtain rfl : xs = [] := List.eq_nil_of_length_eq_zero hl
    refine cl_of (AnyM.slices_Sort_string_none Try.sortS none 0 w) ?_
    rintro e w' ⟨rfl, rfl⟩
    exact ⟨_, rfl, by simpa using h, Fm.refl _ _⟩
  · subst hl
    have hH : Holds encStr w g 0 xs.toArray := holds_of_block hg (by simpa using h4)
    refine cl_of (AnyM.slices_Sort_string Try.sortS g 0 cap xs w hH (lt_of_heap hg) (by omega)) ?_
    rintro e w' ⟨rfl, k, os, rfl⟩
    refine ⟨_, rfl, ?_, Fm.grown (grownBy_sorted _) (fun j hj _ => by cases hj; exact hb)⟩
    exact ownsRow_sorted (by simp) hb hg h1 h2 h3

end Ytgknklnbcjjlkaa
end Go.Proofs
