/- The library's sort and its walk over a map's keys, by the shelf's contracts, laid for this seat. -/
import Derived.Shelf.SlIterI.Nil
import Derived.Shelf.SortM.Plain
import Derived.Shelf.SortM.SortNone
import Derived.Test.YthgdinjgdjiknaaAlRow
import Derived.Test.YthgdinjgdjiknaaRows
namespace Go.Proofs
open Go.RowKit Go.Maps Go.Sort Go.Shelf
set_option linter.unusedVariables false
set_option linter.unusedSimpArgs false
set_option linter.unusedSectionVars false

def Try.sortedA_ren : Go.Shelf.Ren := ⟨fun | 6 => 72 | 8 => 104 | 9 => 105 | 11 => 124 | 13 => 126 | 12 => 125 | 23 => 142 | 24 => 143 | 14 => 133 | 15 => 134 | 16 => 135 | 17 => 136 | 18 => 137 | 19 => 138 | 20 => 139 | 21 => 140 | 22 => 141 | 25 => 145 | 26 => 146 | 27 => 147 | 28 => 148 | 29 => 149 | 30 => 150 | 31 => 151 | n => n, fun | 26 => 3 | 28 => 133 | 24 => 34 | 0 => 0 | 3 => 3 | 37 => 176 | 48 => 193 | 50 => 195 | 4 => 4 | 40 => 187 | 39 => 186 | 45 => 85 | 5 => 5 | 9 => 9 | 51 => 196 | 55 => 200 | 57 => 202 | 58 => 165 | 33 => 61 | n => n, fun | n => n⟩
theorem Try.sortedA : Go.Proofs.SlLaysZI.n6 Try.prog Try.sortedA_ren := {
  mixed := by kernel_rfl
  f6 := ⟨Try.f72.name, by decide, Try.func72.trans (congrArg some (by kernel_rfl))⟩
  f8 := ⟨Try.f104.name, by decide, Try.func104.trans (congrArg some (by kernel_rfl))⟩
  f11 := ⟨Try.f124.name, by decide, Try.func124.trans (congrArg some (by kernel_rfl))⟩
  t0 := Try.underlying0
  a0 := Try.isAgg0
  z0 := Try.sizeOf0
  v0 := Try.zeroValue0
  t24 := Try.underlying34
  a24 := Try.isAgg34
  z24 := Try.sizeOf34
  v24 := Try.zeroValue34
  t26 := Try.underlying3
  a26 := Try.isAgg3
  z26 := Try.sizeOf3
  v26 := Try.zeroValue3
  t28 := Try.underlying133
  a28 := Try.isAgg133
  z28 := Try.sizeOf133
  v28 := Try.zeroValue133
  i26 := by kernel_rfl }
def Try.sortI_ren : Go.Shelf.Ren := ⟨fun | 5 => 105 | 8 => 126 | 7 => 125 | 19 => 142 | 20 => 143 | 10 => 133 | 11 => 134 | 12 => 135 | 13 => 136 | 14 => 137 | 15 => 138 | 16 => 139 | 17 => 140 | 18 => 141 | 30 => 145 | 31 => 146 | 32 => 147 | 33 => 148 | 34 => 149 | 35 => 150 | 40 => 151 | n => n, fun | 23 => 34 | 25 => 3 | 3 => 3 | 32 => 176 | 22 => 34 | 0 => 0 | 44 => 193 | 46 => 195 | 4 => 4 | 36 => 187 | 35 => 186 | 41 => 85 | 5 => 5 | 9 => 9 | 53 => 196 | 57 => 200 | 63 => 202 | 64 => 165 | n => n, fun | n => n⟩
theorem Try.sortI : Go.Proofs.SlLaysM.n5 Try.prog Try.sortI_ren := {
  mixed := by kernel_rfl
  f5 := ⟨Try.f105.name, by decide, Try.func105.trans (congrArg some (by kernel_rfl))⟩
  f7 := ⟨Try.f125.name, by decide, Try.func125.trans (congrArg some (by kernel_rfl))⟩
  f8 := Try.func126.trans (congrArg some (by kernel_rfl))
  f10 := ⟨Try.f133.name, by decide, Try.func133.trans (congrArg some (by kernel_rfl))⟩
  f11 := ⟨Try.f134.name, by decide, Try.func134.trans (congrArg some (by kernel_rfl))⟩
  f12 := ⟨Try.f135.name, by decide, Try.func135.trans (congrArg some (by kernel_rfl))⟩
  f13 := ⟨Try.f136.name, by decide, Try.func136.trans (congrArg some (by kernel_rfl))⟩
  f14 := ⟨Try.f137.name, by decide, Try.func137.trans (congrArg some (by kernel_rfl))⟩
  f15 := ⟨Try.f138.name, by decide, Try.func138.trans (congrArg some (by kernel_rfl))⟩
  f16 := ⟨Try.f139.name, by decide, Try.func139.trans (congrArg some (by kernel_rfl))⟩
  f17 := ⟨Try.f140.name, by decide, Try.func140.trans (congrArg some (by kernel_rfl))⟩
  f18 := ⟨Try.f141.name, by decide, Try.func141.trans (congrArg some (by kernel_rfl))⟩
  f19 := Try.func142.trans (congrArg some (by kernel_rfl))
  f20 := Try.func143.trans (congrArg some (by kernel_rfl))
  f30 := ⟨Try.f145.name, by decide, Try.func145.trans (congrArg some (by kernel_rfl))⟩
  f31 := Try.func146.trans (congrArg some (by kernel_rfl))
  f32 := Try.func147.trans (congrArg some (by kernel_rfl))
  f33 := ⟨Try.f148.name, by decide, Try.func148.trans (congrArg some (by kernel_rfl))⟩
  f34 := ⟨Try.f149.name, by decide, Try.func149.trans (congrArg some (by kernel_rfl))⟩
  f35 := ⟨Try.f150.name, by decide, Try.func150.trans (congrArg some (by kernel_rfl))⟩
  f40 := ⟨Try.f151.name, by decide, Try.func151.trans (congrArg some (by kernel_rfl))⟩
  t0 := Try.underlying0
  a0 := Try.isAgg0
  z0 := Try.sizeOf0
  v0 := Try.zeroValue0
  t3 := Try.underlying3
  a3 := Try.isAgg3
  z3 := Try.sizeOf3
  v3 := Try.zeroValue3
  t4 := Try.underlying4
  a4 := Try.isAgg4
  z4 := Try.sizeOf4
  v4 := Try.zeroValue4
  t5 := Try.underlying5
  a5 := Try.isAgg5
  z5 := Try.sizeOf5
  v5 := Try.zeroValue5
  t9 := Try.underlying9
  a9 := Try.isAgg9
  z9 := Try.sizeOf9
  v9 := Try.zeroValue9
  t22 := Try.underlying34
  a22 := Try.isAgg34
  z22 := Try.sizeOf34
  v22 := Try.zeroValue34
  t23 := Try.underlying34
  a23 := Try.isAgg34
  z23 := Try.sizeOf34
  v23 := Try.zeroValue34
  t25 := Try.underlying3
  a25 := Try.isAgg3
  z25 := Try.sizeOf3
  v25 := Try.zeroValue3
  t32 := Try.underlying176
  a32 := Try.isAgg176
  z32 := Try.sizeOf176
  v32 := Try.zeroValue176
  t35 := Try.underlying186
  a35 := Try.isAgg186
  z35 := Try.sizeOf186
  v35 := Try.zeroValue186
  t36 := Try.underlying187
  a36 := Try.isAgg187
  z36 := Try.sizeOf187
  v36 := Try.zeroValue187
  t41 := Try.underlying85
  a41 := Try.isAgg85
  z41 := Try.sizeOf85
  v41 := Try.zeroValue85
  t44 := Try.underlying193
  a44 := Try.isAgg193
  z44 := Try.sizeOf193
  v44 := Try.zeroValue193
  t46 := Try.underlying195
  a46 := Try.isAgg195
  z46 := Try.sizeOf195
  v46 := Try.zeroValue195
  t53 := Try.underlying196
  a53 := Try.isAgg196
  z53 := Try.sizeOf196
  v53 := Try.zeroValue196
  t57 := Try.underlying200
  a57 := Try.isAgg200
  z57 := Try.sizeOf200
  v57 := Try.zeroValue200
  t63 := Try.underlying202
  a63 := Try.isAgg202
  z63 := Try.sizeOf202
  v63 := Try.zeroValue202
  t64 := Try.underlying165
  a64 := Try.isAgg165
  z64 := Try.sizeOf165
  v64 := Try.zeroValue165 }
def Try.keysA_ren : Go.Shelf.Ren := ⟨fun | 7 => 79 | 10 => 110 | n => n, fun | 23 => 140 | 26 => 3 | 3 => 3 | 28 => 133 | 0 => 0 | 27 => 132 | 33 => 61 | 4 => 4 | n => n, fun | n => n⟩
theorem Try.keysA : Go.Proofs.SlLaysZI.n7 Try.prog Try.keysA_ren := {
  mixed := by kernel_rfl
  f7 := ⟨Try.f79.name, by decide, Try.func79.trans (congrArg some (by kernel_rfl))⟩
  f10 := ⟨Try.f110.name, by decide, Try.func110.trans (congrArg some (by kernel_rfl))⟩
  t0 := Try.underlying0
  a0 := Try.isAgg0
  z0 := Try.sizeOf0
  v0 := Try.zeroValue0
  t4 := Try.underlying4
  a4 := Try.isAgg4
  z4 := Try.sizeOf4
  v4 := Try.zeroValue4
  t23 := Try.underlying140
  a23 := Try.isAgg140
  z23 := Try.sizeOf140
  v23 := Try.zeroValue140
  t26 := Try.underlying3
  a26 := Try.isAgg3
  z26 := Try.sizeOf3
  v26 := Try.zeroValue3
  t27 := Try.underlying132
  a27 := Try.isAgg132
  z27 := Try.sizeOf132
  v27 := Try.zeroValue132
  t28 := Try.underlying133
  a28 := Try.isAgg133
  z28 := Try.sizeOf133
  v28 := Try.zeroValue133
  t33 := Try.underlying61
  a33 := Try.isAgg61
  z33 := Try.sizeOf61
  v33 := Try.zeroValue61 }


/-- slices.Sort's two contracts at this program. -/
theorem Try.sortsA (m : Nat) : AnyZI.SortsIn Try.prog Try.sortedA_ren Fence.wide m :=
  ⟨fun blk off cap ss W hH hblk hsz => callsIn_wide.2 (AnyM.slices_Sort_int Try.sortI blk off cap ss W hH hblk hsz),
   fun p cap W => callsIn_wide.2 (AnyM.slices_Sort_int_none Try.sortI p cap W)⟩

namespace Ythgdinjgdjiknaa
open Go.Al

theorem cl_of {g : FuncId} {args : List Value} {w : World} {R : Ending → World → Prop} {k : KV} (h : Calls Try.prog g args.toArray w R) (hk : ∀ e w', R e w' → ∃ v, e = .returned v ∧ k v w') : Cl Try.prog g args w k :=
  ⟨h.mono fun e w' he => by obtain ⟨v, rfl, hv⟩ := hk e w' he; exact hv⟩

/-- slices.Sort at a row of ints of the call's own. -/
theorem sort_int {w : World} {base n : Nat} {v : Value} {xs : List Int} (hn : n < 4611686018427387904) (h : w.ownsRow base 3 1 v n (xs.map encZ)) :
    Cl Try.prog 105 [v] w fun _ w' => w'.ownsRow base 3 1 v n ((xs.mergeSort fun x y => decide (x ≤ y)).map encZ) ∧ Fm (fun b => base ≤ b) w w' := by
  have hl := h.1
  rw [List.length_map, Nat.mul_one] at hl
  have hmx := own_maxLen h
  unfold maxLen at hmx
  rcases h.2 with ⟨rfl, rfl⟩ | ⟨g, cap, cur, rfl, hb, hg, h1, h2, h3, h4⟩
  · obtain rfl : xs = [] := List.eq_nil_of_length_eq_zero hl
    refine cl_of (AnyM.slices_Sort_int_none Try.sortI none 0 w) ?_
    rintro e w' ⟨rfl, rfl⟩
    exact ⟨_, rfl, by simpa using h, Fm.refl _ _⟩
  · subst hl
    have hH : Holds encZ w g 0 xs.toArray := holds_of_block_i hg (by simpa using h4)
    refine cl_of (AnyM.slices_Sort_int Try.sortI g 0 cap xs w hH (lt_of_heap hg) (by omega)) ?_
    rintro e w' ⟨rfl, k, os, rfl⟩
    refine ⟨_, rfl, ?_, Fm.grown (grownBy_sorted_i _) (fun j hj _ => by cases hj; exact hb)⟩
    exact ownsRow_sorted_i (by simp) hb hg h1 h2 h3

/-- A map of mine, as the shelf has it: how the values read does not matter. -/
theorem owns_int {β : Type} {kt : TypeId} (hk : Try.prog.underlying kt = some (.int .i64)) {w : World} {b : Nat} {vv : β → Value} {D : List (Int × β)} (h : MapAt w b (Value.int .i64) vv D) (hwf : ∀ p ∈ D, (Lit.int .i64 p.1).wf = true) (hsz : D.length ≤ maxLen) :
    ∃ D0 : DataW Unit, w.ownsMap Try.prog kt (fun _ => some (.nil, [])) b D.length D0 ∧ (intKeys D0).Perm (D.map (·.1)) ∧ Maps.size D0 = D.length := by
  obtain ⟨es, c, hb, he, hn, hlt⟩ := h.ex
  have hlen : es.size = D.length := by have := congrArg List.length he; simpa using this
  have hkey : ∀ x ∈ es.toList, ∃ p ∈ D, x.key = .int .i64 p.1 := by
    intro x hx
    have : (x.key, x.val) ∈ D.map (fun p => (Value.int .i64 p.1, vv p.2)) := by rw [← he]; exact List.mem_map.2 ⟨x, hx, rfl⟩
    obtain ⟨p, hp, hpe⟩ := List.mem_map.1 this
    simp only [Prod.mk.injEq] at hpe
    exact ⟨p, hp, hpe.1.symm⟩
  have hrd : ∀ x ∈ es.toList, ∀ p : Int × β, p ∈ D → x.key = .int .i64 p.1 → WideElems.rd (H := Unit) Try.prog kt (fun _ => some (.nil, [])) x = some (.int .i64 p.1, .nil) := by
    intro x hx p hp hxp
    unfold WideElems.rd
    rw [hxp, Maps.keyOf_int_mk hk (hwf p hp)]
    rfl
  have hks : es.toList.map (·.key) = D.map (fun p => Value.int .i64 p.1) := by
    have := congrArg (List.map Prod.fst) he
    simpa [List.map_map, Function.comp_def] using this
  have hF : WideElems.Fit (H := Unit) Try.prog kt (fun _ => some (.nil, [])) es c := by
    refine ⟨by omega, ⟨hlt, hn, ?_⟩, fun x hx => ?_⟩
    · rw [hks]
      have := h.keys
      rw [List.Nodup, List.pairwise_map] at this ⊢
      exact this.imp fun hne e => hne (by simpa using e)
    · obtain ⟨p, hp, hxp⟩ := hkey x hx
      exact ⟨_, hrd x hx p hp hxp⟩
  refine ⟨_, ⟨es, c, hb, hF, by omega, rfl⟩, ?_, ?_⟩
  · have h1 : (((es.toList.map (WideElems.rg (H := Unit) Try.prog kt (fun _ => some (.nil, [])))).foldr DataW.insert []).map fun p => Go.intOf p.1).Perm ((es.toList.map (WideElems.rg (H := Unit) Try.prog kt (fun _ => some (.nil, [])))).map fun p => Go.intOf p.1) := (WideShapes.sorted_perm _).map _
    have h2 : ((es.toList.map (WideElems.rg (H := Unit) Try.prog kt (fun _ => some (.nil, [])))).map fun p => Go.intOf p.1) = D.map (·.1) := by
      rw [List.map_map]
      have h3 : D.map (·.1) = (es.toList.map (·.key)).map (fun v => match v with | .int _ x => x | _ => 0) := by
        rw [hks, List.map_map]; rfl
      rw [h3, List.map_map]
      refine List.map_congr_left fun x hx => ?_
      obtain ⟨p, hp, hxp⟩ := hkey x hx
      simp only [Function.comp_apply, WideElems.rg, hrd x hx p hp hxp, hxp, Option.getD_some, Go.intOf]
    show (List.map _ _).Perm _
    rw [← h2]; exact h1
  · show List.length _ = _
    rw [(WideShapes.sorted_perm _).length_eq, List.length_map]
    simpa using hlen

/-- maps.Keys: the closure. -/
theorem keysA_spec (mb : Option Nat) (w : World) : Cl Try.prog 79 [.map mb] w fun v w' => v = .func (.func 110) #[] #[.pointer (some ⟨w.heap.size, 0, none⟩)] ∧ w' = w.alloc (.cells #[.map mb] 140) := by
  have c : CallsIn Fence.wide 5 Try.prog 79 #[.map mb] w fun e w' => e = .returned (.func (.func 110) #[] #[.pointer (some ⟨w.heap.size, 0, none⟩)]) ∧ w' = w.alloc (.cells #[.map mb] 140) := AnyZI.keys_in Try.keysA Fence.wide 5 trivial rfl mb w
  exact cl_of (callsIn_wide.1 c) fun e w' ⟨h1, h2⟩ => ⟨_, h1, rfl, h2⟩


/-- slices.Sorted of a map's keys. -/
theorem sorted_of (g c : Nat) (hg : ∀ args w, (callFunc g args).run Try.prog w = .ok (.enter g args) w) (S : List Int → Prop) (N : Nat) (hNb : N * 8 ≤ 140737488355328) (w : World) (h : SeqGives Fence.wide 2 Try.prog g #[.pointer (some ⟨c, 0, none⟩)] encZ S N w) :
    Cl Try.prog 72 [.func (.func g) #[] #[.pointer (some ⟨c, 0, none⟩)]] w fun v w' => ∃ ss, S ss ∧ w'.ownsRow w.heap.size 3 1 v ss.length ((ss.mergeSort (fun x y => decide (x ≤ y))).map encZ) ∧ (v = .slice none 0 0 ↔ ss = []) ∧ Below w.heap.size w w' := by
  have cS := AnyZI.sorted_in Try.sortedA Fence.wide 5 trivial trivial trivial trivial rfl (by omega) (Try.sortsA _) (enters_of Try.func105 (by kernel_rfl) rfl) g #[.pointer (some ⟨c, 0, none⟩)] trivial hg S N (by unfold maxLen; omega) hNb w h
  change CallsIn _ _ Try.prog 72 _ _ _ at cS
  exact cl_of (callsIn_wide.1 cS) fun e w' ⟨v, ss, h1, h2, h3, h4, h5⟩ => ⟨v, h1, ss, h2, h3, h4, h5⟩

/-- The keys of a map, by their order. -/
def sortK {β : Type} (D : List (Int × β)) : List Int := (D.map (·.1)).mergeSort (fun x y => decide (x ≤ y))

theorem sortedA_spec {β : Type} {w : World} {b : Nat} {vv : β → Value} {D : List (Int × β)} (h : MapAt w b (Value.int .i64) vv D) (hwf : ∀ p ∈ D, (Lit.int .i64 p.1).wf = true) (hsz : D.length * 8 ≤ 140737488355328) :
    Cl Try.prog 72 [.func (.func 110) #[] #[.pointer (some ⟨w.heap.size, 0, none⟩)]] (w.alloc (.cells #[.map (some b)] 140)) fun v w' => w'.ownsRow w.heap.size 3 1 v D.length ((sortK D).map encZ) ∧ (v = .slice none 0 0 ↔ D = []) ∧ Fm (fun _ => False) w w' := by
  have hm : D.length ≤ maxLen := by unfold maxLen; omega
  obtain ⟨D0, hown, hp, hs⟩ := owns_int (kt := 3) (by kernel_rfl) h hwf hm
  have hbl := hown.lt
  have hseq : SeqGives Fence.wide 2 Try.prog 110 #[.pointer (some ⟨w.heap.size, 0, none⟩)] encZ (fun ss => ss.Perm (intKeys D0)) (Maps.size D0) (w.alloc (.cells #[.map (some b)] 140)) :=
    AnyZI.keys_gives (ρ := Try.keysA_ren) { Try.keysA with } Fence.wide _ trivial rfl (by omega) w.heap.size b D.length D0 _ (by simp) (by simp) (by
      obtain ⟨es, clock, hb, Ft, hs, hD⟩ := hown
      exact ⟨es, clock, (Below.heap_alloc _ _ b hbl).trans hb, Ft, hs, hD⟩)
  refine (sorted_of 110 _ (enters_of Try.func110 (by kernel_rfl) rfl) _ _ (by omega) _ hseq).mono ?_
  rintro v w' ⟨ss, hS, hrow, hnil, hb⟩
  have hperm : ss.Perm (D.map (·.1)) := hS.trans hp
  have hl : ss.length = D.length := by simpa using hperm.length_eq
  refine ⟨?_, ?_, ?_⟩
  · have := ownsRow_base_a hrow (show w.heap.size ≤ _ by simp)
    rw [hl] at this
    rw [sortK, ← mergeSort_of_perm_i hperm]; exact this
  · rw [hnil]
    constructor
    · intro e; rw [e] at hl; exact List.eq_nil_of_length_eq_zero hl.symm
    · intro e; rw [e] at hl; exact List.eq_nil_of_length_eq_zero hl
  · exact (Fm.alloc _ _ _).trans (Fm.of_below hb _) (fun _ _ h => h) (fun _ _ h => h)



/-- At the nil map: nothing. -/
theorem sortedA_nil (w : World) : Cl Try.prog 72 [.func (.func 110) #[] #[.pointer (some ⟨w.heap.size, 0, none⟩)]] (w.alloc (.cells #[.map none] 140)) fun v w' => v = .slice none 0 0 ∧ Fm (fun _ => False) w w' := by
  have hseq : SeqGives Fence.wide 2 Try.prog 110 #[.pointer (some ⟨w.heap.size, 0, none⟩)] encZ (fun ss : List Int => ss = []) 0 (w.alloc (.cells #[.map none] 140)) :=
    AnyZI.keys_gives_nil (ρ := Try.keysA_ren) { Try.keysA with } Fence.wide _ trivial rfl w.heap.size _ (by simp) (by simp)
  refine (sorted_of 110 _ (enters_of Try.func110 (by kernel_rfl) rfl) _ _ (by omega) _ hseq).mono ?_
  rintro v w' ⟨ss, hS, hrow, hnil, hb⟩
  exact ⟨hnil.2 hS, (Fm.alloc _ _ _).trans (Fm.of_below hb _) (fun _ _ h => h) (fun _ _ h => h)⟩


end Ythgdinjgdjiknaa
end Go.Proofs

