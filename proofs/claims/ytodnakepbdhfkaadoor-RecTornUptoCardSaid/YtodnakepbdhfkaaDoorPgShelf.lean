/- Go's own functions that pages call, by the shelf's contracts, laid for this seat: strings.Builder, Repeat, Trim, slices.Insert, Delete. -/
import Derived.Shelf.Strings.BuilderK
import Derived.Shelf.Strings.Repeat
import Derived.Shelf.Strings.Trim
import Derived.Shelf.Spec.SlicesInsertGrow
import Derived.Shelf.SlicesG.Cells
import Derived.Test.YtodnakepbdhfkaaDoorPgBits
namespace Go.Proofs
open Go.RowKit Go.Shelf Go.Sort
set_option linter.unusedVariables false
set_option linter.unusedSimpArgs false
set_option linter.unusedSectionVars false
def Tryd.lays105_ren : Go.Shelf.Ren := ⟨fun | 105 => 48 | 212 => 76 | 99 => 77 | 165 => 78 | 166 => 46 | 170 => 49 | 169 => 51 | 263 => 106 | 264 => 107 | 206 => 108 | 240 => 75 | 241 => 109 | 276 => 105 | 277 => 123 | n => n, fun | 9 => 9 | 3 => 3 | 4 => 4 | 20 => 20 | 0 => 0 | 46 => 103 | 109 => 104 | 5 => 5 | 72 => 65 | 76 => 68 | 51 => 73 | 146 => 134 | 53 => 110 | 148 => 136 | 70 => 63 | 37 => 38 | 75 => 67 | 127 => 109 | 164 => 132 | 80 => 75 | n => n, fun | n => n⟩
theorem Tryd.lays105 : Go.Proofs.Lays.n105 Tryd.prog Tryd.lays105_ren := {
  mixed := by kernel_rfl
  f99 := Tryd.func77.trans (congrArg some (by kernel_rfl))
  f105 := Tryd.func48.trans (congrArg some (by kernel_rfl))
  f165 := Tryd.func78.trans (congrArg some (by kernel_rfl))
  f166 := Tryd.func46.trans (congrArg some (by kernel_rfl))
  f169 := Tryd.func51.trans (congrArg some (by kernel_rfl))
  f170 := Tryd.func49.trans (congrArg some (by kernel_rfl))
  f206 := Tryd.func108.trans (congrArg some (by kernel_rfl))
  f212 := Tryd.func76.trans (congrArg some (by kernel_rfl))
  f240 := Tryd.func75.trans (congrArg some (by kernel_rfl))
  f241 := Tryd.func109.trans (congrArg some (by kernel_rfl))
  f263 := Tryd.func106.trans (congrArg some (by kernel_rfl))
  f264 := Tryd.func107.trans (congrArg some (by kernel_rfl))
  f276 := Tryd.func105.trans (congrArg some (by kernel_rfl))
  f277 := Tryd.func123.trans (congrArg some (by kernel_rfl))
  t0 := Tryd.underlying0
  a0 := Tryd.isAgg0
  z0 := Tryd.sizeOf0
  v0 := Tryd.zeroValue0
  t3 := Tryd.underlying3
  a3 := Tryd.isAgg3
  z3 := Tryd.sizeOf3
  v3 := Tryd.zeroValue3
  t4 := Tryd.underlying4
  a4 := Tryd.isAgg4
  z4 := Tryd.sizeOf4
  v4 := Tryd.zeroValue4
  t5 := Tryd.underlying5
  a5 := Tryd.isAgg5
  z5 := Tryd.sizeOf5
  v5 := Tryd.zeroValue5
  t9 := Tryd.underlying9
  a9 := Tryd.isAgg9
  z9 := Tryd.sizeOf9
  v9 := Tryd.zeroValue9
  t20 := Tryd.underlying20
  a20 := Tryd.isAgg20
  z20 := Tryd.sizeOf20
  v20 := Tryd.zeroValue20
  t37 := Tryd.underlying38
  a37 := Tryd.isAgg38
  z37 := Tryd.sizeOf38
  v37 := Tryd.zeroValue38
  t46 := Tryd.underlying103
  a46 := Tryd.isAgg103
  z46 := Tryd.sizeOf103
  v46 := Tryd.zeroValue103
  t51 := Tryd.underlying73
  a51 := Tryd.isAgg73
  z51 := Tryd.sizeOf73
  v51 := Tryd.zeroValue73
  t53 := Tryd.underlying110
  a53 := Tryd.isAgg110
  z53 := Tryd.sizeOf110
  v53 := Tryd.zeroValue110
  t70 := Tryd.underlying63
  a70 := Tryd.isAgg63
  z70 := Tryd.sizeOf63
  v70 := Tryd.zeroValue63
  t72 := Tryd.underlying65
  a72 := Tryd.isAgg65
  z72 := Tryd.sizeOf65
  v72 := Tryd.zeroValue65
  t75 := Tryd.underlying67
  a75 := Tryd.isAgg67
  z75 := Tryd.sizeOf67
  v75 := Tryd.zeroValue67
  t76 := Tryd.underlying68
  a76 := Tryd.isAgg68
  z76 := Tryd.sizeOf68
  v76 := Tryd.zeroValue68
  t109 := Tryd.underlying104
  a109 := Tryd.isAgg104
  z109 := Tryd.sizeOf104
  v109 := Tryd.zeroValue104
  t127 := Tryd.underlying109
  a127 := Tryd.isAgg109
  z127 := Tryd.sizeOf109
  v127 := Tryd.zeroValue109
  t146 := Tryd.underlying134
  a146 := Tryd.isAgg134
  z146 := Tryd.sizeOf134
  v146 := Tryd.zeroValue134
  t148 := Tryd.underlying136
  a148 := Tryd.isAgg136
  z148 := Tryd.sizeOf136
  v148 := Tryd.zeroValue136
  t164 := Tryd.underlying132
  a164 := Tryd.isAgg132
  z164 := Tryd.sizeOf132
  v164 := Tryd.zeroValue132 }
def Tryd.lays160_ren : Go.Shelf.Ren := ⟨fun | 160 => 56 | 232 => 81 | 231 => 80 | 227 => 82 | 234 => 84 | 233 => 83 | 236 => 86 | 235 => 85 | 228 => 110 | 271 => 113 | 151 => 112 | 197 => 111 | 120 => 126 | 152 => 125 | 260 => 124 | 137 => 128 | 119 => 129 | 224 => 130 | 225 => 131 | 217 => 132 | 266 => 133 | n => n, fun | 9 => 9 | 4 => 4 | 3 => 3 | 5 => 5 | 117 => 114 | 116 => 113 | 0 => 0 | 124 => 117 | 21 => 21 | 105 => 139 | 46 => 103 | 119 => 156 | 139 => 159 | 138 => 158 | n => n, fun | 3 => 1 | 4 => 2 | n => n⟩
theorem Tryd.lays160 : Go.Proofs.Lays.n160 Tryd.prog Tryd.lays160_ren := {
  mixed := by kernel_rfl
  f119 := Tryd.func129.trans (congrArg some (by kernel_rfl))
  f120 := Tryd.func126.trans (congrArg some (by kernel_rfl))
  f137 := Tryd.func128.trans (congrArg some (by kernel_rfl))
  f151 := Tryd.func112.trans (congrArg some (by kernel_rfl))
  f152 := Tryd.func125.trans (congrArg some (by kernel_rfl))
  f160 := Tryd.func56.trans (congrArg some (by kernel_rfl))
  f197 := Tryd.func111.trans (congrArg some (by kernel_rfl))
  f217 := Tryd.func132.trans (congrArg some (by kernel_rfl))
  f224 := Tryd.func130.trans (congrArg some (by kernel_rfl))
  f225 := Tryd.func131.trans (congrArg some (by kernel_rfl))
  f227 := Tryd.func82.trans (congrArg some (by kernel_rfl))
  f228 := Tryd.func110.trans (congrArg some (by kernel_rfl))
  f231 := Tryd.func80.trans (congrArg some (by kernel_rfl))
  f232 := Tryd.func81.trans (congrArg some (by kernel_rfl))
  f233 := Tryd.func83.trans (congrArg some (by kernel_rfl))
  f234 := Tryd.func84.trans (congrArg some (by kernel_rfl))
  f235 := Tryd.func85.trans (congrArg some (by kernel_rfl))
  f236 := Tryd.func86.trans (congrArg some (by kernel_rfl))
  f260 := Tryd.func124.trans (congrArg some (by kernel_rfl))
  f266 := Tryd.func133.trans (congrArg some (by kernel_rfl))
  f271 := Tryd.func113.trans (congrArg some (by kernel_rfl))
  t0 := Tryd.underlying0
  a0 := Tryd.isAgg0
  z0 := Tryd.sizeOf0
  v0 := Tryd.zeroValue0
  t3 := Tryd.underlying3
  a3 := Tryd.isAgg3
  z3 := Tryd.sizeOf3
  v3 := Tryd.zeroValue3
  t4 := Tryd.underlying4
  a4 := Tryd.isAgg4
  z4 := Tryd.sizeOf4
  v4 := Tryd.zeroValue4
  t5 := Tryd.underlying5
  a5 := Tryd.isAgg5
  z5 := Tryd.sizeOf5
  v5 := Tryd.zeroValue5
  t9 := Tryd.underlying9
  a9 := Tryd.isAgg9
  z9 := Tryd.sizeOf9
  v9 := Tryd.zeroValue9
  t21 := Tryd.underlying21
  a21 := Tryd.isAgg21
  z21 := Tryd.sizeOf21
  v21 := Tryd.zeroValue21
  t46 := Tryd.underlying103
  a46 := Tryd.isAgg103
  z46 := Tryd.sizeOf103
  v46 := Tryd.zeroValue103
  t105 := Tryd.underlying139
  a105 := Tryd.isAgg139
  z105 := Tryd.sizeOf139
  v105 := Tryd.zeroValue139
  t116 := Tryd.underlying113
  a116 := Tryd.isAgg113
  z116 := Tryd.sizeOf113
  t117 := Tryd.underlying114
  a117 := Tryd.isAgg114
  z117 := Tryd.sizeOf114
  v117 := Tryd.zeroValue114
  t119 := Tryd.underlying156
  a119 := Tryd.isAgg156
  z119 := Tryd.sizeOf156
  t124 := Tryd.underlying117
  a124 := Tryd.isAgg117
  z124 := Tryd.sizeOf117
  v124 := Tryd.zeroValue117
  t138 := Tryd.underlying158
  a138 := Tryd.isAgg158
  z138 := Tryd.sizeOf158
  v138 := Tryd.zeroValue158
  t139 := Tryd.underlying159
  a139 := Tryd.isAgg159
  z139 := Tryd.sizeOf159
  v139 := Tryd.zeroValue159
  g3 := by kernel_rfl
  g4 := by kernel_rfl }
def Tryd.lays22_ren : Go.Shelf.Ren := ⟨fun | 22 => 60 | 29 => 87 | 30 => 88 | 36 => 114 | 17 => 127 | n => n, fun | 24 => 22 | 9 => 9 | 3 => 3 | 4 => 4 | 0 => 0 | n => n, fun | n => n⟩
theorem Tryd.lays22 : Go.Proofs.Lays2.n22 Tryd.prog Tryd.lays22_ren := {
  mixed := by kernel_rfl
  f17 := Tryd.func127.trans (congrArg some (by kernel_rfl))
  f22 := Tryd.func60.trans (congrArg some (by kernel_rfl))
  f29 := Tryd.func87.trans (congrArg some (by kernel_rfl))
  f30 := Tryd.func88.trans (congrArg some (by kernel_rfl))
  f36 := Tryd.func114.trans (congrArg some (by kernel_rfl))
  t0 := Tryd.underlying0
  a0 := Tryd.isAgg0
  z0 := Tryd.sizeOf0
  v0 := Tryd.zeroValue0
  t3 := Tryd.underlying3
  a3 := Tryd.isAgg3
  z3 := Tryd.sizeOf3
  v3 := Tryd.zeroValue3
  t4 := Tryd.underlying4
  a4 := Tryd.isAgg4
  z4 := Tryd.sizeOf4
  v4 := Tryd.zeroValue4
  t9 := Tryd.underlying9
  a9 := Tryd.isAgg9
  z9 := Tryd.sizeOf9
  v9 := Tryd.zeroValue9
  t24 := Tryd.underlying22
  a24 := Tryd.isAgg22
  z24 := Tryd.sizeOf22
  v24 := Tryd.zeroValue22
  i9 := by kernel_rfl }
def Tryd.lays46_ren : Go.Shelf.Ren := ⟨fun | 46 => 62 | n => n, fun | 25 => 22 | 26 => 9 | 3 => 3 | 4 => 4 | 0 => 0 | n => n, fun | n => n⟩
theorem Tryd.lays46 : Go.Proofs.SlLaysN.n46 Tryd.prog Tryd.lays46_ren := {
  mixed := by kernel_rfl
  f46 := ⟨Tryd.f62.name, by decide, Tryd.func62.trans (congrArg some (by kernel_rfl))⟩
  t0 := Tryd.underlying0
  a0 := Tryd.isAgg0
  z0 := Tryd.sizeOf0
  v0 := Tryd.zeroValue0
  t3 := Tryd.underlying3
  a3 := Tryd.isAgg3
  z3 := Tryd.sizeOf3
  v3 := Tryd.zeroValue3
  t4 := Tryd.underlying4
  a4 := Tryd.isAgg4
  z4 := Tryd.sizeOf4
  v4 := Tryd.zeroValue4
  t25 := Tryd.underlying22
  a25 := Tryd.isAgg22
  z25 := Tryd.sizeOf22
  v25 := Tryd.zeroValue22
  t26 := Tryd.underlying9
  a26 := Tryd.isAgg9
  z26 := Tryd.sizeOf9
  v26 := Tryd.zeroValue9
  i26 := by kernel_rfl }

theorem Tryd.bldExtra : Builder.Extra Tryd.prog Tryd.lays105_ren where
  sizeBuilder := by kernel_rfl
  liesBuilder := by kernel_rfl
  t5 := Tryd.lays105.t5
  a5 := Tryd.lays105.a5
  z5 := Tryd.lays105.z5
  v5 := Tryd.lays105.v5
  infoByte := by kernel_rfl
  cellsByte := by kernel_rfl
  sizeByte := by kernel_rfl
  neB5 := by decide

namespace YtodnakepbdhfkaaDoor
open Go.Al Go.Proofs
set_option maxRecDepth 100000

theorem cl_of {g : FuncId} {args : List Value} {w : World} {R : Ending → World → Prop} {k : KV} (h : Calls Tryd.prog g args.toArray w R) (hk : ∀ e w', R e w' → ∃ v, e = .returned v ∧ k v w') : Cl Tryd.prog g args w k :=
  ⟨Calls.mono h fun e w' he => by obtain ⟨v, rfl, hv⟩ := hk e w' he; exact hv⟩
theorem Fm.of_belowB {B : Nat} {w w' : World} (h : Below B w w') : Fm (fun x => B ≤ x) w w' := ⟨h.os, h.tape, h.output, h.size, fun b hb hs => h.block b (by omega)⟩
theorem Fm.setCells (b : Nat) : ∀ (vs : List Value) (o : Nat) (w : World), Fm (· = b) w (w.setCells b o vs)
  | [], _, w => Fm.refl _ _
  | v :: vs, o, w => (Fm.setCell (S := (· = b)) w ⟨b, o, none⟩ v rfl).trans (Fm.setCells b vs (o + 1) _) (fun _ _ e => e) (fun _ _ e => e)
theorem Fm.drewN (S : Nat → Prop) (w : World) (q : Nat) : Fm S w (w.drewN q) := ⟨rfl, rfl, rfl, Nat.le_refl _, fun _ _ _ => rfl⟩

/-! ### A builder -/
/-- A builder of the call's own, in block b, that holds l. -/
def Bld (w : World) (b : Nat) (l : Bs) : Prop := Lib.IsBuilderF 65 5 b b (bc l) w
theorem Bld.lt {w : World} {b : Nat} {l : Bs} (h : Bld w b l) : b < w.heap.size := by
  rcases h with h | h <;> exact h.lt
theorem Bld.new {w : World} {b : Nat} (h : w.heap[b]? = some (.cells #[.pointer none, .slice none 0 0] 65)) : Bld w b [] :=
  Lib.IsBuilderF.of (.inl ⟨Nat.le_refl _, _, h, World.ownsRow_nil _ _ _ _, by simp [Value.ownBlock]⟩)
theorem Bld.keep {w w' : World} {b : Nat} {l : Bs} (h : Bld w b l) (hf : Fm (fun _ => False) w w') : Bld w' b l := by
  have key : ∀ p, Lib.BuilderAtF 65 5 b b p (bc l) w → Lib.BuilderAtF 65 5 b b p (bc l) w' := by
    rintro p ⟨h1, v, h2, h3, h4⟩
    refine ⟨h1, v, hf.heap h2 (fun e => e), ?_, h4⟩
    obtain ⟨g1, g2⟩ := h3
    refine ⟨g1, ?_⟩
    rcases g2 with g2 | ⟨g, cap, cur, fz, r1, r2, r3, r4⟩
    · exact .inl g2
    · exact .inr ⟨g, cap, cur, fz, r1, r2, hf.heap r3 (fun e => e), r4⟩
  rcases h with h | h
  · exact .inl (key _ h)
  · exact .inr (key _ h)
theorem bwrite_spec {w : World} {b : Nat} {l : Bs} (h : Bld w b l) (s : Bs) (hlen : l.length + s.length ≤ 140737488355328) : Cl Tryd.prog 46 [pv b, stv s] w fun _ w' => Bld w' b (l ++ s) ∧ Fm (fun x => b ≤ x) w w' := by
  have c : Calls Tryd.prog 46 #[pv b, stv s] w fun e w' => e = .returned (.tuple #[.int .i64 (str s).size, .nilIface]) ∧ (Lib.BuilderAtF 65 5 b b (pv b) (bc l ++ Lib.strCells (str s)) w' ∧ Below b w w' ∧ Lib.OthersKept 5 (some b) w w') :=
    Any.Builder_WriteString_k (ρ := Tryd.lays105_ren) { Tryd.lays105 with } Tryd.bldExtra b b (bc l) (str s) w h (by rw [bc_len, str_size]; exact hlen) (Nat.le_of_lt h.lt)
  refine cl_of c fun e w' ⟨h1, h2, h3, _⟩ => ⟨_, h1, ?_, Fm.of_belowB h3⟩
  rw [show Lib.strCells (str s) = bc s from rfl, ← bc_append] at h2
  exact .inr h2
theorem blen_spec {w : World} {b : Nat} {l : Bs} (h : Bld w b l) : Cl Tryd.prog 49 [pv b] w fun v w' => v = iv l.length ∧ w' = w := by
  have c : Calls Tryd.prog 49 #[pv b] w fun e w' => e = .returned (.int .i64 (bc l).length) ∧ w' = w :=
    Any.Builder_Len_f (ρ := Tryd.lays105_ren) { Tryd.lays105 with } b b (bc l) w h
  rw [bc_len] at c
  exact cl_of c fun e w' ⟨h1, h2⟩ => ⟨_, h1, rfl, h2⟩
theorem bstring_spec {w : World} {b : Nat} {l : Bs} (h : Bld w b l) : Cl Tryd.prog 51 [pv b] w fun v w' => v = stv l ∧ Bld w' b l ∧ Fm (fun x => b ≤ x) w w' := by
  have c : Calls Tryd.prog 51 #[pv b] w fun e w' => e = .returned (.string ⟨l.toArray⟩) ∧ (Lib.IsBuilderF 65 5 b b (Lib.byteCells l) w' ∧ Below b w w' ∧ Lib.OthersKept 5 (some b) w w') :=
    Any.Builder_String_any_k (ρ := Tryd.lays105_ren) { Tryd.lays105 with } Tryd.bldExtra b b l w h (Nat.le_of_lt h.lt)
  exact cl_of c fun e w' ⟨h1, h2, h3, _⟩ => ⟨_, h1, rfl, h2, Fm.of_belowB h3⟩

/-! ### Repeat, Trim -/
theorem repeat_spec (w : World) (n : Nat) (hn : n ≤ 140737488355328) : Cl Tryd.prog 48 [stv [0], iv n] w fun v w' => v = stv (zeros n) ∧ Fm (fun _ => False) w w' := by
  have c : Calls Tryd.prog 48 #[stv [0], iv n] w fun e w' => e = .returned (.string ⟨(Lib.repeatL (str [0]).data.toList n).toArray⟩) ∧ Below w.heap.size w w' :=
    Any.strings_Repeat (ρ := Tryd.lays105_ren) Tryd.lays105 Tryd.bldExtra (str [0]) n w (by omega) (by rw [str_size]; simpa using hn)
  have e : Lib.repeatL (str [0]).data.toList n = zeros n := by
    have := Lib.repeatL_replicate 0 1 n
    rw [Nat.mul_one] at this
    exact this
  rw [e] at c
  exact cl_of c fun e w' ⟨h1, h2⟩ => ⟨_, h1, rfl, Fm.of_below h2 _⟩
theorem dropWhile_nil : ∀ (l : Bs), l.dropWhile (· == (0 : UInt8)) = [] ↔ l = zeros l.length
  | [] => by simp [zeros]
  | b :: l => by
    rw [List.dropWhile_cons]
    cases hb : (b == (0 : UInt8)) with
    | true =>
      have : b = 0 := by simpa using hb
      simp only [if_true, dropWhile_nil l, List.length_cons, zeros, List.replicate_succ]
      rw [this]
      simp
    | false =>
      have : b ≠ 0 := by simpa using hb
      simp [zeros, List.replicate_succ, this]
theorem trim_nil (l : Bs) : Lib.trimB l 0 = [] ↔ l = zeros l.length := by
  unfold Lib.trimB Lib.trimLeftB Lib.trimRightB
  rw [dropWhile_nil]
  constructor
  · intro h
    have h2 : (l.reverse.dropWhile (· == (0 : UInt8))) = zeros (l.reverse.dropWhile (· == (0 : UInt8))).length := by
      have := congrArg List.reverse h
      rw [List.reverse_reverse] at this
      rw [this]; simp [zeros]
    cases hd : l.reverse.dropWhile (· == (0 : UInt8)) with
    | nil =>
      have := (dropWhile_nil l.reverse).1 hd
      have := congrArg List.reverse this
      rw [List.reverse_reverse] at this
      rw [this]; simp [zeros]
    | cons x t =>
      rw [hd] at h2
      have hx : x = 0 := by
        have := congrArg List.head? h2
        simp [zeros, List.replicate_succ] at this; exact this
      have := List.head?_dropWhile_not (p := (· == (0 : UInt8))) (l := l.reverse)
      rw [hd] at this
      simp [hx] at this
  · intro h
    have h2 : l.reverse = zeros l.reverse.length := by rw [h]; simp [zeros]
    rw [(dropWhile_nil l.reverse).2 h2]
    rfl
theorem trim_spec (w : World) (l : Bs) (hl : l.length ≤ 9223372036854775807) : Cl Tryd.prog 56 [stv l, stv [0]] w fun v w' => (∃ t, v = stv t ∧ (t = [] ↔ l = zeros l.length)) ∧ Fm (fun _ => False) w w' := by
  have c : Calls Tryd.prog 56 #[stv l, stv [0]] w fun e w' => e = .returned (.string ⟨(Lib.trimB (str l).data.toList 0).toArray⟩) ∧ (w' = w ∨ w' = w.drew) :=
    Any.strings_Trim_one (ρ := Tryd.lays160_ren) Tryd.lays160 (str l) 0 (by decide) w (by rw [str_size]; exact hl)
  refine cl_of c fun e w' ⟨h1, h2⟩ => ⟨_, h1, ⟨_, rfl, trim_nil l⟩, ?_⟩
  rcases h2 with rfl | rfl
  · exact Fm.refl _ _
  · exact Fm.drew _ _

/-! ### Clone, Equal, Insert, Delete -/
theorem E22 : ElemT Tryd.prog 22 9 1 16 := elemT_of Tryd.underlying22 (by kernel_rfl)
theorem bs22e (w : World) : (Instr.buildSlice 22 0 #[]).run Tryd.prog w = .ok (.slice (some ⟨w.heap.size, 0, none⟩) 0 0) (w.alloc (.cells #[] 9)) := by kernel_rfl
theorem stv_one (xs : List Bs) : ∀ u ∈ xs.map stv, u.oneCell' = true := by
  intro u hu
  obtain ⟨x, _, rfl⟩ := List.mem_map.1 hu
  rfl
theorem clone_spec {w : World} {v : Value} {xs : List Bs} (h : CellsAt w v xs.length 1 (xs.map stv)) (hs : xs.length * 16 ≤ 140737488355328) : Cl Tryd.prog 61 [v] w fun r w' => w'.ownsRow w.heap.size 9 1 r xs.length (xs.map stv) ∧ Fm (fun _ => False) w w' := by
  refine c61 ?_; unfold T61
  obtain ⟨⟨a, c, hv, h1, h2, h3, h4⟩, hl⟩ := id h
  cases a with
  | none =>
    subst hv
    obtain ⟨e1, e2⟩ := h3 rfl
    have e3 : binV (TypeDesc.slice 9) .eql (.slice none xs.length c) (.slice none 0 0) = some (.bool true) := rfl
    simp only [Pu_some, extV_0, extV_1, extV_2, extV_3, nilV_ptr, nilV_fn, faV_ptr, lenV_sl, lenS_s, capV_sl, pickV_t, pickV_f, unV_not, unV_neg, isB_t, isB_f, isB_u, binV_add, binV_sub, binV_mul, binV_eql, binV_neq, binV_lss, binV_leq, binV_gtr, binV_geq, binV_seql, binV_sneq, binV_slss, binV_beql, binV_bneq, binV_peql, binV_pneq, add_add, add_none, Go.Al.add_zero, Nat.zero_add, Nat.add_zero, IfB_t, IfB_f, Gd_t, Gd_f, Ld_ptr, LdN_ptr, Option.isNone_some, Option.isNone_none, Option.isSome_some, Option.isSome_none, Bool.not_true, Bool.not_false, drew_cell, drew_heap, e3]
    have : xs = [] := List.eq_nil_of_length_eq_zero e1
    subst this
    exact ⟨World.ownsRow_nil _ _ _ _, Fm.refl _ _⟩
  | some ad =>
    subst hv
    have e3 : binV (TypeDesc.slice 9) .eql (.slice (some ad) xs.length c) (.slice none 0 0) = some (.bool false) := rfl
    simp only [Pu_some, extV_0, extV_1, extV_2, extV_3, nilV_ptr, nilV_fn, faV_ptr, lenV_sl, lenS_s, capV_sl, pickV_t, pickV_f, unV_not, unV_neg, isB_t, isB_f, isB_u, binV_add, binV_sub, binV_mul, binV_eql, binV_neq, binV_lss, binV_leq, binV_gtr, binV_geq, binV_seql, binV_sneq, binV_slss, binV_beql, binV_bneq, binV_peql, binV_pneq, add_add, add_none, Go.Al.add_zero, Nat.zero_add, Nat.add_zero, IfB_t, IfB_f, Gd_t, Gd_f, Ld_ptr, LdN_ptr, Option.isNone_some, Option.isNone_none, Option.isSome_some, Option.isSome_none, Bool.not_true, Bool.not_false, drew_cell, drew_heap, e3]
    refine RunS_ok (bs22e w) ?_
    have ho2 := own_alloc (w := w) (e := 9) (l := []) (by simp [maxLen]) (Nat.le_refl _)
    have hf2 := Fm.alloc (fun _ => False) w (.cells #[] 9)
    replace ho2 : (w.alloc (.cells #[] 9)).ownsRow w.heap.size 9 1 (.slice (some ⟨w.heap.size, 0, none⟩) 0 0) 0 [] := ho2
    generalize w.alloc (.cells #[] 9) = w2 at ho2 hf2
    obtain ⟨lv, w3, hr3, ho3, hf3⟩ := append_srcO E22 (by omega) ho2 (h.keep hf2 (fun _ _ e => e)) (stv_one xs) 22 (by unfold maxLen; omega) (by omega) hf2.size
    refine RunS_ok hr3 ?_
    rw [Nat.zero_add, List.nil_append] at ho3
    exact ⟨ho3, Fm.own hf2 hf3 (fun y hy => by have := own_lt ho2 y hy; omega)⟩
theorem equal_spec {w : World} {v u : Value} {xs ys : List Bs} (h : CellsAt w v xs.length 1 (xs.map stv)) (k : CellsAt w u ys.length 1 (ys.map stv)) : Cl Tryd.prog 58 [v, u] w fun r w' => r = .bool (decide (xs = ys)) ∧ Fm (fun _ => False) w w' := by
  have hlt := h.lt
  unfold maxLen at hlt
  refine c58 ?_; unfold T58
  simp only [Pu_some, extV_0, extV_1, extV_2, extV_3, nilV_ptr, nilV_fn, faV_ptr, lenV_sl, lenS_s, capV_sl, pickV_t, pickV_f, unV_not, unV_neg, isB_t, isB_f, isB_u, binV_add, binV_sub, binV_mul, binV_eql, binV_neq, binV_lss, binV_leq, binV_gtr, binV_geq, binV_seql, binV_sneq, binV_slss, binV_beql, binV_bneq, binV_peql, binV_pneq, add_add, add_none, Go.Al.add_zero, Nat.zero_add, Nat.add_zero, IfB_t, IfB_f, Gd_t, Gd_f, Ld_ptr, LdN_ptr, Option.isNone_some, Option.isNone_none, Option.isSome_some, Option.isSome_none, Bool.not_true, Bool.not_false, drew_cell, drew_heap, h.lenV, k.lenV, bne_dec]
  by_cases hl : xs.length = ys.length
  · rw [show decide ((xs.length : Int) = (ys.length : Int)) = true by rw [decide_eq_true_eq]; omega]
    simp only [Pu_some, extV_0, extV_1, extV_2, extV_3, nilV_ptr, nilV_fn, faV_ptr, lenV_sl, lenS_s, capV_sl, pickV_t, pickV_f, unV_not, unV_neg, isB_t, isB_f, isB_u, binV_add, binV_sub, binV_mul, binV_eql, binV_neq, binV_lss, binV_leq, binV_gtr, binV_geq, binV_seql, binV_sneq, binV_slss, binV_beql, binV_bneq, binV_peql, binV_pneq, add_add, add_none, Go.Al.add_zero, Nat.zero_add, Nat.add_zero, IfB_t, IfB_f, Gd_t, Gd_f, Ld_ptr, LdN_ptr, Option.isNone_some, Option.isNone_none, Option.isSome_some, Option.isSome_none, Bool.not_true, Bool.not_false, drew_cell, drew_heap, h.lenV]
    refine ⟨fun vs w2 => ∃ i : Nat, vs = [iv i] ∧ i ≤ xs.length ∧ xs.take i = ys.take i ∧ Fm (fun _ => False) w w2, fun vs _ => (xs.length - nth vs 0).toNat, ⟨0, rfl, by omega, rfl, Fm.refl _ _⟩, ?_⟩
    rintro _ w2 ivv ⟨i, hvs, hi, heq, hf2⟩
    cases hvs
    by_cases hlt2 : i < xs.length
    · have e1 : decide ((i : Int) < (xs.length : Int)) = true := by rw [decide_eq_true_eq]; omega
      have e2 : IntKind.i64.wrap ((i : Int) + 1) = ((i + 1 : Nat) : Int) := by rw [wrap_id] <;> omega
      have hx : xs[i]? = some xs[i] := List.getElem?_eq_getElem hlt2
      have hy : ys[i]? = some ys[i] := List.getElem?_eq_getElem (by omega)
      generalize xs[i] = x at hx
      generalize ys[i] = y at hy
      have hf3 := Fm.drew (fun _ => False) w2
      obtain ⟨ad, hix, _, hc⟩ := h.at1 (i := i) (x := stv x) (by rw [List.getElem?_map, hx]; rfl) .i64
      obtain ⟨ad', hix', _, hc'⟩ := k.at1 (i := i) (x := stv y) (by rw [List.getElem?_map, hy]; rfl) .i64
      have hc2 := hf2.cell' hc (fun e => e)
      have hc2' := hf2.cell' hc' (fun e => e)
      have htk : decide (x = y) = true → xs.take (i + 1) = ys.take (i + 1) := by
        intro e
        have e : x = y := by simpa using e
        rw [List.take_add_one, List.take_add_one, heq, hx, hy, e]
      simp only [Pu_some, extV_0, extV_1, extV_2, extV_3, nilV_ptr, nilV_fn, faV_ptr, lenV_sl, lenS_s, capV_sl, pickV_t, pickV_f, unV_not, unV_neg, isB_t, isB_f, isB_u, binV_add, binV_sub, binV_mul, binV_eql, binV_neq, binV_lss, binV_leq, binV_gtr, binV_geq, binV_seql, binV_sneq, binV_slss, binV_beql, binV_bneq, binV_peql, binV_pneq, add_add, add_none, Go.Al.add_zero, Nat.zero_add, Nat.add_zero, IfB_t, IfB_f, Gd_t, Gd_f, Ld_ptr, LdN_ptr, Option.isNone_some, Option.isNone_none, Option.isSome_some, Option.isSome_none, Bool.not_true, Bool.not_false, drew_cell, drew_heap, e1, hix, hc2, true_and, hix', hc2', str_inj]
      cases hd : decide (x = y) with
      | true =>
        simp only [Pu_some, extV_0, extV_1, extV_2, extV_3, nilV_ptr, nilV_fn, faV_ptr, lenV_sl, lenS_s, capV_sl, pickV_t, pickV_f, unV_not, unV_neg, isB_t, isB_f, isB_u, binV_add, binV_sub, binV_mul, binV_eql, binV_neq, binV_lss, binV_leq, binV_gtr, binV_geq, binV_seql, binV_sneq, binV_slss, binV_beql, binV_bneq, binV_peql, binV_pneq, add_add, add_none, Go.Al.add_zero, Nat.zero_add, Nat.add_zero, IfB_t, IfB_f, Gd_t, Gd_f, Ld_ptr, LdN_ptr, Option.isNone_some, Option.isNone_none, Option.isSome_some, Option.isSome_none, Bool.not_true, Bool.not_false, drew_cell, drew_heap, e2]
        exact ⟨⟨i + 1, rfl, by omega, htk hd, Fmf hf2 hf3⟩, by simp only [nth_0]; omega⟩
      | false =>
        simp only [Pu_some, extV_0, extV_1, extV_2, extV_3, nilV_ptr, nilV_fn, faV_ptr, lenV_sl, lenS_s, capV_sl, pickV_t, pickV_f, unV_not, unV_neg, isB_t, isB_f, isB_u, binV_add, binV_sub, binV_mul, binV_eql, binV_neq, binV_lss, binV_leq, binV_gtr, binV_geq, binV_seql, binV_sneq, binV_slss, binV_beql, binV_bneq, binV_peql, binV_pneq, add_add, add_none, Go.Al.add_zero, Nat.zero_add, Nat.add_zero, IfB_t, IfB_f, Gd_t, Gd_f, Ld_ptr, LdN_ptr, Option.isNone_some, Option.isNone_none, Option.isSome_some, Option.isSome_none, Bool.not_true, Bool.not_false, drew_cell, drew_heap]
        refine ⟨?_, Fmf hf2 hf3⟩
        congr 1; symm
        rw [decide_eq_false_iff_not] at hd ⊢
        rintro rfl
        rw [hx] at hy; cases hy
        exact hd rfl
    · have hie : i = xs.length := by omega
      subst hie
      have e1 : decide (((xs.length : Nat) : Int) < (xs.length : Int)) = false := by simp
      rw [List.take_length, List.take_of_length_le (by omega)] at heq
      simp only [Pu_some, extV_0, extV_1, extV_2, extV_3, nilV_ptr, nilV_fn, faV_ptr, lenV_sl, lenS_s, capV_sl, pickV_t, pickV_f, unV_not, unV_neg, isB_t, isB_f, isB_u, binV_add, binV_sub, binV_mul, binV_eql, binV_neq, binV_lss, binV_leq, binV_gtr, binV_geq, binV_seql, binV_sneq, binV_slss, binV_beql, binV_bneq, binV_peql, binV_pneq, add_add, add_none, Go.Al.add_zero, Nat.zero_add, Nat.add_zero, IfB_t, IfB_f, Gd_t, Gd_f, Ld_ptr, LdN_ptr, Option.isNone_some, Option.isNone_none, Option.isSome_some, Option.isSome_none, Bool.not_true, Bool.not_false, drew_cell, drew_heap, e1]
      refine ⟨?_, hf2⟩
      congr 1; symm; simpa using heq
  · rw [show decide ((xs.length : Int) = (ys.length : Int)) = false by rw [decide_eq_false_iff_not]; omega]
    simp only [Pu_some, extV_0, extV_1, extV_2, extV_3, nilV_ptr, nilV_fn, faV_ptr, lenV_sl, lenS_s, capV_sl, pickV_t, pickV_f, unV_not, unV_neg, isB_t, isB_f, isB_u, binV_add, binV_sub, binV_mul, binV_eql, binV_neq, binV_lss, binV_leq, binV_gtr, binV_geq, binV_seql, binV_sneq, binV_slss, binV_beql, binV_bneq, binV_peql, binV_pneq, add_add, add_none, Go.Al.add_zero, Nat.zero_add, Nat.add_zero, IfB_t, IfB_f, Gd_t, Gd_f, Ld_ptr, LdN_ptr, Option.isNone_some, Option.isNone_none, Option.isSome_some, Option.isSome_none, Bool.not_true, Bool.not_false, drew_cell, drew_heap]
    refine ⟨?_, Fm.refl _ _⟩
    congr 1; symm
    rw [decide_eq_false_iff_not]
    rintro rfl
    exact hl rfl

/-- What 'setCells' lays. -/
theorem cells_put {w : World} {b o n cap : Nat} {cs vs : List Value} (hcs : ∀ j, j < n → (w.cell? ⟨b, j, none⟩).isSome = true) (hold : ∀ j u, cs[j]? = some u → w.cell? ⟨b, j, none⟩ = some u) (hcl : cs.length = n) (ho : o + vs.length ≤ n) (hn : n ≤ cap) (hcap : cap ≤ maxLen) :
    CellsAt (w.setCells b o vs) (.slice (some ⟨b, 0, none⟩) n cap) n 1 (cs.take o ++ vs ++ cs.drop (o + vs.length)) := by
  refine ⟨⟨_, cap, rfl, hn, hcap, (fun e => by cases e), fun j u hj => ⟨_, rfl, ?_⟩⟩, by simp; omega⟩
  rw [add_none, Nat.zero_add]
  have hto : (cs.take o).length = o := by rw [List.length_take]; omega
  by_cases h1 : j < o
  · rw [World.cell?_setCells_out b vs o w ⟨b, j, none⟩ (fun _ _ => .inl h1)]
    apply hold
    rw [List.append_assoc, List.getElem?_append_left (by rw [hto]; exact h1), List.getElem?_take, if_pos h1] at hj
    exact hj
  · by_cases h2 : j < o + vs.length
    · have := World.cell?_setCells_in b vs o w (fun q hq => hcs _ (by omega)) (j - o) (by omega)
      rw [show o + (j - o) = j by omega] at this
      rw [this]
      rw [List.append_assoc, List.getElem?_append_right (by rw [hto]; omega), hto, List.getElem?_append_left (by omega), List.getElem?_eq_getElem (by omega)] at hj
      exact hj
    · rw [World.cell?_setCells_out b vs o w ⟨b, j, none⟩ (fun _ _ => .inr (by simpa using h2))]
      apply hold
      rw [List.append_assoc, List.getElem?_append_right (by rw [hto]; omega), hto, List.getElem?_append_right (by omega), List.getElem?_drop] at hj
      rw [← hj]; congr 1; omega

/-- What is inserted ahead of place i. -/
def insAt (xs : List Bs) (i : Nat) (x : Bs) : List Bs := xs.take i ++ [x] ++ xs.drop i
theorem insAt_len {xs : List Bs} {i : Nat} (x : Bs) (hi : i ≤ xs.length) : (insAt xs i x).length = xs.length + 1 := by
  simp only [insAt, List.length_append, List.length_take, List.length_drop, List.length_cons, List.length_nil]; omega
set_option maxHeartbeats 1000000 in
theorem insert_spec {w : World} {base : Nat} {v : Value} {xs : List Bs} (h : w.ownsRow base 9 1 v xs.length (xs.map stv)) {i : Nat} (hi : i ≤ xs.length) {vb : Nat} {x : Bs} (hv : w.heap[vb]? = some (.cells #[stv x] 9)) (hne : v.ownBlock ≠ some vb) (hs : (xs.length + 1) * 16 ≤ 140737488355328) (hb : base ≤ w.heap.size) :
    Cl Tryd.prog 60 [v, iv i, .slice (some ⟨vb, 0, none⟩) 1 1] w fun r w' => ∃ a c, r = .slice a (xs.length + 1) c ∧ CellsAt w' r (xs.length + 1) 1 ((insAt xs i x).map stv) ∧ (∀ g, blockOf r = some g → base ≤ g) ∧ Fm (fun y => base ≤ y) w w' := by
  have hvs : ∀ (j : Nat) (u : Value), ([stv x] : List Value)[j]? = some u → w.cell? ⟨vb, 0 + j, none⟩ = some u := by
    intro j u hj
    rw [Nat.zero_add, cell_at hv]
    simpa using hj
  have h1v : ∀ u ∈ ([stv x] : List Value), u.oneCell' = true := by intro u hu; simp at hu; subst hu; rfl
  have hml : xs.length + 1 ≤ maxLen := by unfold maxLen; omega
  have hins : (insAt xs i x).map stv = (xs.map stv).take i ++ [stv x] ++ (xs.map stv).drop i := by simp [insAt, List.map_take, List.map_drop]
  have hsum : ∀ (w' : World) (g : Nat), Fm (fun _ => False) w w' → True := fun _ _ _ => trivial
  have hnew : ∀ (cs : Array Value), cs.toList.take (xs.length + 1) = (insAt xs i x).map stv → ∀ c, xs.length + 1 ≤ c → c ≤ maxLen → ∀ w' : World, w'.heap[w.heap.size]? = some (.cells cs 9) → CellsAt w' (.slice (some ⟨w.heap.size, 0, none⟩) (xs.length + 1) c) (xs.length + 1) 1 ((insAt xs i x).map stv) := by
    intro cs hcs c hc1 hc2 w' hw'
    refine ⟨⟨_, c, rfl, hc1, hc2, (fun e => by cases e), fun j u hj => ⟨_, rfl, ?_⟩⟩, by rw [List.length_map, insAt_len x hi, Nat.mul_one]⟩
    rw [add_none, Nat.zero_add, cell_at hw']
    rw [← hcs, List.getElem?_take] at hj
    split at hj
    · simpa using hj
    · cases hj
  rcases h.2 with ⟨rfl, hn⟩ | ⟨g, cap, cur, rfl, hbg, hgg, hnc, hcm, hcs, htake⟩
  · have hx0 : xs = [] := List.eq_nil_of_length_eq_zero hn
    subst hx0
    obtain rfl : i = 0 := by simpa using hi
    have c := Any2.slices_Insert_string_end_grow (ρ := Tryd.lays22_ren) Tryd.lays22 none 0 0 vb 0 1 1 [] [stv x] w (by omega) (by omega) (by omega) (by omega) rfl rfl (fun _ => rfl) (fun a ha => by cases ha) hvs h1v
    have hge := grownCap_ge w (0 + 1) 0 9
    have hle := grownCap_le_maxLen w (0 + 1) 0 9 (by unfold maxLen; omega)
    refine cl_of (args := [.slice none 0 0, iv (0 : Nat), .slice (some ⟨vb, 0, none⟩) 1 1]) c fun e w' ⟨h1, h2⟩ => ⟨_, h1, _, _, rfl, ?_, ?_, ?_⟩
    · rw [h2]
      refine hnew _ ?_ _ hge hle _ (alloc_new _ _)
      simp [insAt]
    · intro g hg
      cases hg
      exact hb
    · rw [h2]
      exact (Fm.drew _ w).trans (Fm.alloc _ w.drew _) (fun _ _ e => e) (fun _ _ e => e)
  · rw [Nat.mul_one] at hcs htake
    have hcell : ∀ j, j < cap → w.cell? ⟨g, j, none⟩ = cur[j]? := fun j _ => cell_at hgg
    have hsome : ∀ j, j < cap → (w.cell? ⟨g, j, none⟩).isSome = true := by
      intro j hj
      rw [hcell j hj, Array.getElem?_eq_getElem (by omega)]; rfl
    have hold : ∀ (j : Nat) (u : Value), (xs.map stv)[j]? = some u → w.cell? ⟨g, 0 + j, none⟩ = some u := by
      intro j u hj
      rw [Nat.zero_add, cell_at hgg]
      rw [← htake, List.getElem?_take] at hj
      split at hj
      · simpa using hj
      · cases hj
    have hvbg : vb ≠ g := fun e => hne (by rw [e]; rfl)
    have hglt := lt_of_heap hgg
    by_cases hroom : xs.length + 1 ≤ cap
    · by_cases hie : i < xs.length
      · have c := Any2.slices_Insert_string_shift (ρ := Tryd.lays22_ren) Tryd.lays22 g 0 xs.length cap i vb 0 1 1 (xs.map stv) [stv x] w hie (by omega) hroom (by unfold maxLen at hcm; omega) hvbg (by simp) rfl hold (fun j hj => by rw [Nat.zero_add]; exact hsome j (by omega)) (fun j hj => frozen_at hgg _) hvs (stv_one xs) h1v 9 9 1 cur.size (by simp [World.shape?, hv]) (by simp [World.shape?, hgg]) (by omega) (frozen_at hv _) (frozen_at hv _)
        refine cl_of (args := [.slice (some ⟨g, 0, none⟩) xs.length cap, iv i, .slice (some ⟨vb, 0, none⟩) 1 1]) c fun e w' ⟨h1, h2⟩ => ⟨_, h1, _, _, rfl, ?_, ?_, ?_⟩
        · rw [h2, Nat.zero_add, Nat.zero_add]
          have hA := cells_put (w := w.drew) (b := g) (o := i + 1) (n := xs.length + 1) (cap := cap) (cs := (xs.map stv) ++ [cur[xs.length]!]) (vs := (xs.map stv).drop i) (fun j hj => hsome j (by omega)) (fun j u hj => by
            rw [drew_cell]
            rw [List.getElem?_append] at hj
            split at hj
            · have := hold j u hj; rwa [Nat.zero_add] at this
            · rename_i hjl
              rw [List.length_map] at hjl
              have hj0 : j = xs.length := by
                have := (List.getElem?_eq_some_iff.1 hj).1
                simp at this; omega
              subst hj0
              rw [hcell _ (by omega), Array.getElem?_eq_getElem (by omega)]
              simp at hj
              rw [← hj, getElem!_pos cur xs.length (by omega)]) (by simp) (by simp; omega) hroom hcm
          have hB := cells_put (w := w.drew.setCells g (i + 1) ((xs.map stv).drop i)) (b := g) (o := i) (n := xs.length + 1) (cap := cap) (cs := ((xs.map stv) ++ [cur[xs.length]!]).take (i + 1) ++ (xs.map stv).drop i ++ ((xs.map stv) ++ [cur[xs.length]!]).drop (i + 1 + ((xs.map stv).drop i).length)) (vs := [stv x]) (fun j hj => by
            obtain ⟨⟨a, c', he, _, _, _, hh⟩, hlen⟩ := hA
            cases he
            rw [Nat.mul_one] at hlen
            have : j < (((xs.map stv) ++ [cur[xs.length]!]).take (i + 1) ++ (xs.map stv).drop i ++ ((xs.map stv) ++ [cur[xs.length]!]).drop (i + 1 + ((xs.map stv).drop i).length)).length := by rw [hlen]; exact hj
            obtain ⟨ad, he, hc⟩ := hh j _ (List.getElem?_eq_getElem this)
            cases he
            rw [add_none, Nat.zero_add] at hc
            rw [hc]; rfl) (fun j u hj => by
            obtain ⟨⟨a, c', he, _, _, _, hh⟩, hlen⟩ := hA
            cases he
            obtain ⟨ad, he, hc⟩ := hh j u hj
            cases he
            rw [add_none, Nat.zero_add] at hc
            exact hc) (by have := hA.len; rw [Nat.mul_one] at this; exact this) (by simp; omega) hroom hcm
          have hfin : (((xs.map stv) ++ [cur[xs.length]!]).take (i + 1) ++ (xs.map stv).drop i ++ ((xs.map stv) ++ [cur[xs.length]!]).drop (i + 1 + ((xs.map stv).drop i).length)).take i ++ [stv x] ++ (((xs.map stv) ++ [cur[xs.length]!]).take (i + 1) ++ (xs.map stv).drop i ++ ((xs.map stv) ++ [cur[xs.length]!]).drop (i + 1 + ((xs.map stv).drop i).length)).drop (i + [stv x].length) = (insAt xs i x).map stv := by
            rw [hins]
            have q1 : (((xs.map stv) ++ [cur[xs.length]!]).take (i + 1)).length = i + 1 := by simp; omega
            have q2 : (((xs.map stv) ++ [cur[xs.length]!]).drop (i + 1 + ((xs.map stv).drop i).length)) = [] := List.drop_eq_nil_of_le (by simp; omega)
            rw [q2, List.append_nil, List.take_append_of_le_length (by omega), List.take_take, Nat.min_eq_left (by omega), List.take_append_of_le_length (by simp; omega)]
            rw [show i + [stv x].length = (((xs.map stv) ++ [cur[xs.length]!]).take (i + 1)).length by rw [q1]; rfl, List.drop_left]
          rw [hfin] at hB
          exact hB
        · intro y hy
          cases hy
          exact hbg
        · rw [h2]
          have hd := (Fm.drew (fun y => base ≤ y) w)
          refine hd.trans (((Fm.setCells g _ _ w.drew).trans (Fm.setCells g _ _ _) (fun _ _ e => e) (fun _ _ e => e)).mono (T := fun y => base ≤ y) (fun y _ e => by rw [e]; exact hbg)) (fun _ _ e => e) (fun _ _ e => e)
      · obtain rfl : i = xs.length := by omega
        have c := Any2.slices_Insert_string_end_room (ρ := Tryd.lays22_ren) Tryd.lays22 g 0 xs.length cap vb 0 1 1 [stv x] w (by omega) hroom (by unfold maxLen at hcm; omega) rfl (fun j hj => hsome _ (by omega)) (fun j hj => frozen_at hgg _) hvs h1v
        refine cl_of (args := [.slice (some ⟨g, 0, none⟩) xs.length cap, iv xs.length, .slice (some ⟨vb, 0, none⟩) 1 1]) c fun e w' ⟨h1, h2⟩ => ⟨_, h1, _, _, rfl, ?_, ?_, ?_⟩
        · rw [h2, Nat.zero_add]
          refine ⟨⟨_, cap, rfl, hroom, hcm, (fun e => by cases e), fun j u hj => ⟨_, rfl, ?_⟩⟩, by rw [List.length_map, insAt_len x hi, Nat.mul_one]⟩
          rw [add_none, Nat.zero_add]
          rw [hins, List.take_of_length_le (by simp), List.drop_eq_nil_of_le (by simp), List.append_nil] at hj
          by_cases hjl : j < xs.length
          · rw [World.cell?_setCells_out g _ _ w ⟨g, j, none⟩ (fun _ _ => .inl hjl)]
            rw [List.getElem?_append_left (by simpa using hjl)] at hj
            have := hold j u hj; rwa [Nat.zero_add] at this
          · have hj0 : j = xs.length := by
              have := (List.getElem?_eq_some_iff.1 hj).1
              simp at this; omega
            subst hj0
            have := World.cell?_setCells_in g [stv x] xs.length w (fun q hq => hsome _ (by simp at hq; omega)) 0 (by simp)
            rw [Nat.add_zero] at this
            rw [this]
            rw [List.getElem?_append_right (by simp)] at hj
            simpa using hj
        · intro y hy
          cases hy
          exact hbg
        · rw [h2]
          exact (Fm.setCells g _ _ w).mono (fun y _ e => by rw [e]; exact hbg)
    · have hcap : cap = xs.length := by omega
      by_cases hie : i < xs.length
      · have c := Any2.slices_Insert_string_grow (ρ := Tryd.lays22_ren) Tryd.lays22 g 0 xs.length cap i vb 0 1 1 (xs.map stv) [stv x] w hie (by omega) hnc (by omega) hs (by simp) rfl hold hvs (stv_one xs) h1v
        have hge := grownCap_ge w (xs.length + 1) cap 9
        have hle := grownCap_le_maxLen w (xs.length + 1) cap 9 hml
        refine cl_of (args := [.slice (some ⟨g, 0, none⟩) xs.length cap, iv i, .slice (some ⟨vb, 0, none⟩) 1 1]) c fun e w' ⟨h1, h2⟩ => ⟨_, h1, _, _, rfl, ?_, ?_, ?_⟩
        · replace h2 : w' = ((((w.alloc (.cells (((xs.map stv).take i).toArray ++ Builtin.zeroCells (Value.string ⟨#[]⟩).cells (xs.length + 1 - i) ++ Builtin.zeroCells (Value.string ⟨#[]⟩).cells (grownCap w (xs.length + 1) cap 9 - (xs.length + 1))) 9)).drew.setCells w.heap.size i [stv x]).drew).setCells w.heap.size (i + 1) ((xs.map stv).drop i)) := h2
          rw [h2]
          generalize hC : ((((xs.map stv).take i).toArray ++ Builtin.zeroCells (Value.string ⟨#[]⟩).cells (xs.length + 1 - i) ++ Builtin.zeroCells (Value.string ⟨#[]⟩).cells (grownCap w (xs.length + 1) cap 9 - (xs.length + 1)))) = C
          have hCt : C.toList.take i = (xs.map stv).take i := by
            rw [← hC]
            simp only [Array.toList_append]
            rw [List.append_assoc, List.take_append_of_le_length (by simp; omega), List.take_of_length_le (by simp; omega)]
          have hCs : xs.length + 1 ≤ C.size := by
            rw [← hC]
            simp [Builtin.zeroCells, Value.cells]
            omega
          have hn0 := alloc_new w (.cells C 9)
          generalize w.alloc (.cells C 9) = w1 at hn0
          have hsome1 : ∀ j, j < xs.length + 1 → (w1.cell? ⟨w.heap.size, j, none⟩).isSome = true := fun j hj => by
            rw [cell_at hn0, Array.getElem?_eq_getElem (by omega)]; rfl
          have hin1 := World.cell?_setCells_in w.heap.size [stv x] i w1.drew (fun q hq => hsome1 _ (by simp at hq; omega)) 0 (by simp)
          have hin2 : ∀ j, j < ((xs.map stv).drop i).length → (((w1.drew.setCells w.heap.size i [stv x]).drew).setCells w.heap.size (i + 1) ((xs.map stv).drop i)).cell? ⟨w.heap.size, i + 1 + j, none⟩ = ((xs.map stv).drop i)[j]? := fun j hj => by
            rw [World.cell?_setCells_in w.heap.size ((xs.map stv).drop i) (i + 1) _ (fun q hq => by
              rw [drew_cell, World.cell?_setCells_out w.heap.size [stv x] i _ ⟨w.heap.size, i + 1 + q, none⟩ (fun _ _ => .inr (by simp <;> omega)), drew_cell]
              exact hsome1 _ (by simp at hq; omega)) j hj, List.getElem?_eq_getElem hj]
          refine ⟨⟨_, _, rfl, hge, hle, (fun e => by cases e), fun j u hj => ⟨_, rfl, ?_⟩⟩, by rw [List.length_map, insAt_len x hi, Nat.mul_one]⟩
          rw [add_none, Nat.zero_add]
          rw [hins, List.append_assoc] at hj
          have hti : ((xs.map stv).take i).length = i := by simp; omega
          by_cases hj1 : j < i
          · rw [World.cell?_setCells_out w.heap.size _ (i + 1) _ ⟨w.heap.size, j, none⟩ (fun _ _ => .inl (by simp; omega)), drew_cell, World.cell?_setCells_out w.heap.size _ i _ ⟨w.heap.size, j, none⟩ (fun _ _ => .inl hj1), drew_cell, cell_at hn0]
            rw [List.getElem?_append_left (by omega), ← hCt, List.getElem?_take, if_pos hj1] at hj
            simpa using hj
          · by_cases hj2 : j = i
            · subst hj2
              rw [World.cell?_setCells_out w.heap.size _ (j + 1) _ ⟨w.heap.size, j, none⟩ (fun _ _ => .inl (by simp)), drew_cell]
              rw [Nat.add_zero] at hin1
              rw [hin1]
              rw [List.getElem?_append_right (by omega), hti, Nat.sub_self] at hj
              simpa using hj
            · rw [List.getElem?_append_right (by omega), hti] at hj
              obtain ⟨q, hq⟩ : ∃ q, j - i = q + 1 := ⟨j - i - 1, by omega⟩
              rw [hq] at hj
              replace hj : ((xs.map stv).drop i)[q]? = some u := by simpa using hj
              have hql := (List.getElem?_eq_some_iff.1 hj).1
              have := hin2 q hql
              rw [show i + 1 + q = j by omega] at this
              rw [this, hj]
        · intro y hy
          cases hy
          exact hb
        · rw [h2]
          have f1 := Fm.alloc (fun y => base ≤ y) w (.cells ((((xs.map stv).take i).toArray ++ Builtin.zeroCells (Value.string ⟨#[]⟩).cells (xs.length + 1 - i) ++ Builtin.zeroCells (Value.string ⟨#[]⟩).cells (grownCap w (xs.length + 1) cap 9 - (xs.length + 1)))) 9)
          refine f1.trans (((Fm.drew (fun y => y = w.heap.size) _).trans ((Fm.setCells w.heap.size [stv x] i _).trans ((Fm.drew _ _).trans (Fm.setCells w.heap.size ((xs.map stv).drop i) (i + 1) _) (fun _ _ e => e) (fun _ _ e => e)) (fun _ _ e => e) (fun _ _ e => e)) (fun _ _ e => e) (fun _ _ e => e)).mono (T := fun y => base ≤ y) (fun y _ e => by rw [e]; exact hb)) (fun _ _ e => e) (fun _ _ e => e)
      · obtain rfl : i = xs.length := by omega
        have c := Any2.slices_Insert_string_end_grow (ρ := Tryd.lays22_ren) Tryd.lays22 (some ⟨g, 0, none⟩) xs.length cap vb 0 1 1 (xs.map stv) [stv x] w (by omega) hnc (by omega) hs (by simp) rfl (fun e => by cases e) (fun a ha j u hj => by
          cases ha
          rw [add_none]
          exact hold j u hj) hvs h1v
        have hge := grownCap_ge w (xs.length + 1) cap 9
        have hle := grownCap_le_maxLen w (xs.length + 1) cap 9 hml
        refine cl_of (args := [.slice (some ⟨g, 0, none⟩) xs.length cap, iv xs.length, .slice (some ⟨vb, 0, none⟩) 1 1]) c fun e w' ⟨h1, h2⟩ => ⟨_, h1, _, _, rfl, ?_, ?_, ?_⟩
        · rw [h2]
          refine hnew _ ?_ _ hge hle _ (alloc_new _ _)
          have ht : (xs.map stv).take xs.length = xs.map stv := List.take_of_length_le (by simp)
          rw [hins, ht, List.drop_eq_nil_of_le (by simp), List.append_nil, Array.toList_append, List.take_append_of_le_length (by simp), List.take_of_length_le (by simp)]
        · intro y hy
          cases hy
          exact hb
        · rw [h2]
          exact (Fm.drew _ w).trans (Fm.alloc _ w.drew _) (fun _ _ e => e) (fun _ _ e => e)
theorem delete_spec {w : World} {base : Nat} {v : Value} {xs : List Bs} (h : w.ownsRow base 9 1 v xs.length (xs.map stv)) {i : Nat} (hi : i < xs.length) :
    Cl Tryd.prog 62 [v, iv i, iv (i + 1 : Nat)] w fun r w' => (∃ a c, r = .slice a (xs.length - 1) c) ∧ CellsAt w' r (xs.length - 1) 1 ((xs.eraseIdx i).map stv) ∧ (∀ g, blockOf r = some g → base ≤ g) ∧ Fm (fun y => base ≤ y) w w' := by
  rcases h.2 with ⟨rfl, hn⟩ | ⟨g, cap, cur, rfl, hbg, hgg, hnc, hcm, hcs, htake⟩
  · omega
  · rw [Nat.mul_one] at hcs htake
    have hcell : ∀ j, j < xs.length → w.cell? ⟨g, 0 + j, none⟩ = some (.string (str (xs.getD j []))) := by
      intro j hj
      rw [Nat.zero_add, cell_at hgg]
      have : (xs.map stv)[j]? = some (stv (xs.getD j [])) := by rw [List.getElem?_map, List.getElem?_eq_getElem hj, List.getD_eq_getElem?_getD, List.getElem?_eq_getElem hj]; rfl
      rw [← htake, List.getElem?_take, if_pos hj] at this
      simpa using this
    have c := AnyG.slices_Delete_string_cells (ρ := Tryd.lays46_ren) Tryd.lays46 g 0 xs.length cap i (i + 1) (fun j => str (xs.getD j [])) w hnc (by unfold maxLen at hcm; omega) (by omega) (by omega) hcell (fun j hj => frozen_at hgg _)
    have hstr : Lib.strsOf (fun j => str (xs.getD j [])) xs.length = xs := by
      apply List.ext_getElem?
      intro j
      unfold Lib.strsOf
      rw [List.getElem?_map]
      by_cases hj : j < xs.length
      · rw [List.getElem?_range hj, List.getElem?_eq_getElem hj]
        simp [List.getD_eq_getElem?_getD, List.getElem?_eq_getElem hj, str_data, str]
      · rw [List.getElem?_eq_none (by simpa using hj), List.getElem?_eq_none (by omega)]; rfl
    rw [hstr, show i + 1 - i = 1 by omega] at c
    refine cl_of (args := [.slice (some ⟨g, 0, none⟩) xs.length cap, iv i, iv (i + 1 : Nat)]) c fun e w' ⟨h1, q, h2⟩ => ⟨_, h1, ⟨_, _, rfl⟩, ?_, ?_, ?_⟩
    · rw [h2]
      have hlen : (((xs.take i ++ xs.drop (i + 1) ++ List.replicate 1 ([] : Bs)).map encStr)).length = xs.length := by simp; omega
      refine ⟨⟨_, cap, rfl, by omega, hcm, (fun e => by cases e), fun j u hj => ⟨_, rfl, ?_⟩⟩, by rw [List.length_map, List.length_eraseIdx]; simp [hi]⟩
      rw [add_none, Nat.zero_add]
      have hjl : j < xs.length - 1 := by
        have := (List.getElem?_eq_some_iff.1 hj).1
        rw [List.length_map, List.length_eraseIdx] at this
        simp [hi] at this; exact this
      have := World.cell?_setCells_in g ((xs.take i ++ xs.drop (i + 1) ++ List.replicate 1 ([] : Bs)).map encStr) 0 (w.drewN q) (fun p hp => by
        have := hcell p (by omega)
        show ((w.drewN q).cell? _).isSome = true
        rw [World.cell?_drewN, this]; rfl) j (by omega)
      rw [Nat.zero_add] at this
      rw [this, ← List.getElem?_eq_getElem, ← hj, List.eraseIdx_eq_take_drop_succ, List.getElem?_map, List.getElem?_map, List.getElem?_append_left (by simp; omega)]
      rfl
    · intro y hy
      cases hy
      exact hbg
    · rw [h2]
      exact (Fm.drewN _ w q).trans ((Fm.setCells g _ _ _).mono (T := fun y => base ≤ y) (fun y _ e => by rw [e]; exact hbg)) (fun _ _ e => e) (fun _ _ e => e)

end YtodnakepbdhfkaaDoor
end Go.Proofs
