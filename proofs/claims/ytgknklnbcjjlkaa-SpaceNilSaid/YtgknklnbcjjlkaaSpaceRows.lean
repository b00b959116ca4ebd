/- SpaceApart: what is said of one page changes nothing of another one: the law returns true at every input. No condition. -/
import Derived.Test.YtgknklnbcjjlkaaSpaceLaws
import Derived.WalkKit
import Derived.ProofKit
import Derived.OpenShut
import Derived.ShutString
import Derived.ChangeOld
import Derived.Below
import Derived.Deep.Slices
namespace Go.Proofs.Ytgknklnbcjjlkaa
open Go.Al Go.Proofs
open Go.ChangeShapes Go.WideShapes Go.ChangeAt Go.RowKit
set_option linter.unusedVariables false
set_option linter.unusedSimpArgs false
set_option linter.unusedSectionVars false

theorem own : ownKnob Try.prog.godebug = none := by kernel_rfl
theorem laidOut : laidOutB Try.prog = true := by kernel_rfl

theorem cl_true {g : FuncId} {args : Array Value} {w : World} (h : Cl Try.prog g args.toList w fun v w' => v = .bool true ∧ Fm (fun _ => False) w w') :
    Calls Try.prog g args w fun e w' => e = .returned (.bool true) ∧ Below w.heap.size w w' := by
  have := h.out
  unfold Cl0 at this
  simp only [Array.toArray_toList] at this
  refine this.mono fun e w' he => ?_
  cases e with
  | returned v => exact ⟨by rw [he.1], he.2.below⟩
  | panicked c => exact he.elim
  | outgrown => exact he.elim

set_option maxRecDepth 100000 in
/-- A slice of changes that came in, opened. -/
theorem open_ops {H : Type} {enc : TypeId × Value → H} {w : World} {base : Nat} {spare : Nat → Bool} {held : Bool} {fuel : Nat} {a : Option Addr} {len cap : Nat} {x : DataW H × List MemPlace}
    (h : DataW.trod enc Try.prog w base spare held fuel 22 [.slice a len cap] = some x) : ∃ ops : List (Bool × Int × Int), ops.length = len ∧ OpsAt w a ops := by
  rcases Deep.open_slice Try.underlying22 h with ⟨h0, _⟩ | ⟨ad, len', cap', m, n, D, Pl, hcs, _, hl, hc, hm, _, hx⟩
  · simp only [List.cons.injEq, Value.slice.injEq] at h0
    obtain ⟨⟨rfl, rfl, rfl⟩, _⟩ := h0
    exact ⟨[], rfl, by simp [maxLen], fun i o ho => by simp at ho⟩
  · simp only [List.cons.injEq, Value.slice.injEq] at hcs
    obtain ⟨⟨rfl, rfl, rfl⟩, _⟩ := hcs
    have hlm : len ≤ m := by rw [hm]; split <;> omega
    have e3 : Try.prog.cellsOf 26 = 3 := by kernel_rfl
    have key : ∀ i, i < len → ∃ o : Bool × Int × Int, w.cell? (ad.add (i * 3)) = some (.bool o.1) ∧ w.cell? (ad.add (i * 3 + 1)) = some (iv o.2.1) ∧ w.cell? (ad.add (i * 3 + 2)) = some (iv o.2.2) := by
      intro i hi
      obtain ⟨cs', h1, h2⟩ := hx i (by omega)
      rw [e3] at h1
      obtain ⟨_, hlen, hat⟩ := World.cells?_some h1
      obtain ⟨xs, n', _, _, _, _, hf⟩ := DataW.trod_struct Try.underlying26 h2
      match cs', hlen with
      | [c0, c1, c2], _ =>
        have f0 := hf 0 _ rfl
        have f1 := hf 1 _ rfl
        have f2 := hf 2 _ rfl
        have t0 : Try.prog.cellsOf 4 = 1 := by kernel_rfl
        have t1 : Try.prog.cellsOf 3 = 1 := by kernel_rfl
        replace f0 : DataW.trod enc Try.prog w base spare held n' 4 [c0] = xs[0]? := f0
        replace f1 : DataW.trod enc Try.prog w base spare held n' 3 [c1] = xs[1]? := f1
        replace f2 : DataW.trod enc Try.prog w base spare held n' 3 [c2] = xs[2]? := f2
        have hz : ∀ i, i < 3 → ∃ y, xs[i]? = some y := by
          intro i hi
          have : xs.length = 3 := by simpa using ‹xs.length = _›
          exact ⟨xs[i], by simp [this, hi]⟩
        obtain ⟨y0, hy0⟩ := hz 0 (by omega)
        obtain ⟨y1, hy1⟩ := hz 1 (by omega)
        obtain ⟨y2, hy2⟩ := hz 2 (by omega)
        rw [hy0] at f0; rw [hy1] at f1; rw [hy2] at f2
        obtain ⟨b, hb, _⟩ := DataW.trod_bool Try.underlying4 f0
        obtain ⟨p, hp, _⟩ := DataW.trod_int Try.underlying3 f1
        obtain ⟨r, hr, _⟩ := DataW.trod_int Try.underlying3 f2
        simp at hb hp hr
        have a0 := hat 0 (by omega)
        have a1 := hat 1 (by omega)
        have a2 := hat 2 (by omega)
        rw [add_add] at a0 a1 a2
        simp at a0 a1 a2
        exact ⟨(b, p, r), by rw [a0, hb], by rw [a1, hp], by rw [a2, hr]⟩
    obtain ⟨f, hf⟩ := Deep.choose_lt (p := fun i (o : Bool × Int × Int) => w.cell? (ad.add (i * 3)) = some (.bool o.1) ∧ w.cell? (ad.add (i * 3 + 1)) = some (iv o.2.1) ∧ w.cell? (ad.add (i * 3 + 2)) = some (iv o.2.2)) key
    refine ⟨(List.range len).map f, by simp, by simp; omega, fun i o ho => ?_⟩
    rw [List.getElem?_map, Option.map_eq_some_iff] at ho
    obtain ⟨j, hj, rfl⟩ := ho
    obtain ⟨hj1, rfl⟩ := List.getElem?_eq_some_iff.1 hj
    simp at hj1
    exact ⟨ad, rfl, by simpa using hf i hj1⟩

set_option maxRecDepth 100000 in
theorem apart_lifted (os : Os) (started : os.Started) (H : Type) (enc : TypeId × Value → H) :
    ReturnsInHanded {} Try.checked os 3 .any (Rows.spaceApartSpec.pre6 enc Try.prog Try.f3 Rows.spaceApartRow.domain false) (Rows.spaceApartSpec.post enc Try.prog Try.f3 false true false false) := by
  refine returnsInHanded_of_change (C := Try.checked) own started (by kernel_rfl) Try.func3
    (ChangeSpec.witness6 (enc := enc) (C := Try.checked) false ⟨#[], #[.slice none 0 0, .slice none 0 0, .int .i64 0], []⟩ 8 (by kernel_rfl) (by kernel_rfl) (by kernel_rfl) (by kernel_rfl)) ?_
  intro W base args ds gs before hval0 hW hcnd _
  have hval : ∀ (j : Nat) t v, Try.f3.params[j]? = some t → args[j]? = some v → Value.okWide Try.prog W .any base t v := hval0
  have hW' := hW
  obtain ⟨p, q, hA0, hV, rfl, hfz, hnd⟩ := hW
  have hA : DataW.TrodAll enc Try.prog W 0 (fun _ => true) true Try.f3.params.toList args.toList ds p := hA0
  rw [Try.params3] at hA hval
  obtain ⟨v0, vs0, d0, ds0, p0, q0, hargs, rfl, rfl, h0, r0⟩ := trodAll_cons hA
  obtain ⟨v1, vs1, d1, ds1, p1, q1, rfl, rfl, rfl, h1, r1⟩ := trodAll_cons r0
  obtain ⟨v2, vs2, d2, ds2, p2, q2, rfl, rfl, rfl, h2, r2⟩ := trodAll_cons r1
  obtain ⟨rfl, rfl, rfl⟩ := trodAll_nil r2
  obtain rfl : args = #[v0, v1, v2] := by cases args; simp_all
  obtain ⟨rfl, rfl⟩ := trodVars_none hV
  clear hA0
  simp only [List.append_nil] at hW'
  have k0 := h0
  have k1 := h1
  obtain ⟨a0, len0, cap0, rfl⟩ := okWide_slice Try.underlying22 (hval 0 22 v0 rfl rfl)
  obtain ⟨a1, len1, cap1, rfl⟩ := okWide_slice Try.underlying22 (hval 1 22 v1 rfl rfl)
  obtain ⟨x2, rfl, rfl, rfl, w2⟩ := open_int Try.underlying3 (hval 2 3 v2 rfl rfl) h2
  obtain ⟨fu0, hf0⟩ := h0
  obtain ⟨fu1, hf1⟩ := h1
  obtain ⟨ops, rfl, ho0⟩ := open_ops (by simpa [Value.cells] using hf0)
  obtain ⟨own', rfl, ho1⟩ := open_ops (by simpa [Value.cells] using hf1)
  have hlt0 : ∀ x ∈ p0, x.block < W.heap.size := fun x hx => hW'.lt x (by simp [hx])
  have hlt1 : ∀ x ∈ p1, x.block < W.heap.size := fun x hx => hW'.lt x (by simp [hx])
  refine (cl_true (args := #[.slice a0 ops.length cap0, .slice a1 own'.length cap1, iv x2]) (apart_law W a0 a1 cap0 cap1 ops own' x2 ho0 ho1)).mono fun e W' ⟨he, hb⟩ => ?_
  subst he
  have b0 := Below.trod laidOut (by kernel_rfl) (of_decide_eq_true (by kernel_rfl)) k0 hb hlt0
  have b1 := Below.trod laidOut (by kernel_rfl) (of_decide_eq_true (by kernel_rfl)) k1 hb hlt1
  refine ⟨_, rfl, _, _, _, [], p0 ++ (p1 ++ []), [], hW', trodAll_cons_mk (shut_bool Try.underlying4 _) trodAll_mk0, ?_, ?_, hb.frame _, fun h => by cases h⟩
  · exact trodAll_cons_mk b0 (trodAll_cons_mk b1 (trodAll_cons_mk (shut_int Try.underlying3 w2) trodAll_mk0))
  · trivial

theorem spaceApart_holds : Rows.SpaceApartSaid :=
  OpenClaim.holds_of_wide 3 Try.f3 rfl rfl rfl rfl rfl rfl rfl ⟨rfl, rfl, rfl, rfl, rfl⟩ rfl rfl rfl rfl rfl (by kernel_rfl) Try.func3 (by kernel_rfl)
    (of_decide_eq_true (by kernel_rfl)) (by unfold Func.isWrapper; first | (rw [if_pos (by decide +kernel)]; kernel_rfl) | (rw [if_neg (by decide +kernel)]; exact ⟨rfl, rfl⟩))
    (fun os started H enc _ => apart_lifted os started H enc)

end Go.Proofs.Ytgknklnbcjjlkaa
