/- Go's own functions that pages call, by the shelf's contracts, laid for this seat: strings.Builder, Repeat, Trim. -/
import Derived.Shelf.Strings.BuilderK
import Derived.Shelf.Strings.Repeat
import Derived.Shelf.Strings.Trim
import Derived.Test.YthbngnlmgplijaaGreatDoorPgBits
namespace Go.Proofs
open Go.RowKit Go.Shelf
set_option linter.unusedVariables false
set_option linter.unusedSimpArgs false
set_option linter.unusedSectionVars false
def Tryz.lays105_ren : Go.Shelf.Ren := ⟨fun | 105 => 95 | 212 => 173 | 99 => 174 | 165 => 175 | 166 => 176 | 170 => 177 | 169 => 178 | 263 => 208 | 264 => 209 | 206 => 210 | 240 => 211 | 241 => 212 | 276 => 223 | 277 => 224 | n => n, fun | 9 => 9 | 3 => 3 | 4 => 4 | 20 => 20 | 0 => 0 | 46 => 179 | 109 => 197 | 5 => 5 | 72 => 202 | 76 => 206 | 51 => 110 | 146 => 230 | 53 => 178 | 148 => 232 | 70 => 200 | 37 => 123 | 75 => 205 | 127 => 234 | 164 => 244 | 80 => 208 | n => n, fun | n => n⟩
theorem Tryz.lays105 : Go.Proofs.Lays.n105 Tryz.prog Tryz.lays105_ren := {
  mixed := by kernel_rfl
  f99 := Tryz.func174.trans (congrArg some (by kernel_rfl))
  f105 := Tryz.func95.trans (congrArg some (by kernel_rfl))
  f165 := Tryz.func175.trans (congrArg some (by kernel_rfl))
  f166 := Tryz.func176.trans (congrArg some (by kernel_rfl))
  f169 := Tryz.func178.trans (congrArg some (by kernel_rfl))
  f170 := Tryz.func177.trans (congrArg some (by kernel_rfl))
  f206 := Tryz.func210.trans (congrArg some (by kernel_rfl))
  f212 := Tryz.func173.trans (congrArg some (by kernel_rfl))
  f240 := Tryz.func211.trans (congrArg some (by kernel_rfl))
  f241 := Tryz.func212.trans (congrArg some (by kernel_rfl))
  f263 := Tryz.func208.trans (congrArg some (by kernel_rfl))
  f264 := Tryz.func209.trans (congrArg some (by kernel_rfl))
  f276 := Tryz.func223.trans (congrArg some (by kernel_rfl))
  f277 := Tryz.func224.trans (congrArg some (by kernel_rfl))
  t0 := Tryz.underlying0
  a0 := Tryz.isAgg0
  z0 := Tryz.sizeOf0
  v0 := Tryz.zeroValue0
  t3 := Tryz.underlying3
  a3 := Tryz.isAgg3
  z3 := Tryz.sizeOf3
  v3 := Tryz.zeroValue3
  t4 := Tryz.underlying4
  a4 := Tryz.isAgg4
  z4 := Tryz.sizeOf4
  v4 := Tryz.zeroValue4
  t5 := Tryz.underlying5
  a5 := Tryz.isAgg5
  z5 := Tryz.sizeOf5
  v5 := Tryz.zeroValue5
  t9 := Tryz.underlying9
  a9 := Tryz.isAgg9
  z9 := Tryz.sizeOf9
  v9 := Tryz.zeroValue9
  t20 := Tryz.underlying20
  a20 := Tryz.isAgg20
  z20 := Tryz.sizeOf20
  v20 := Tryz.zeroValue20
  t37 := Tryz.underlying123
  a37 := Tryz.isAgg123
  z37 := Tryz.sizeOf123
  v37 := Tryz.zeroValue123
  t46 := Tryz.underlying179
  a46 := Tryz.isAgg179
  z46 := Tryz.sizeOf179
  v46 := Tryz.zeroValue179
  t51 := Tryz.underlying110
  a51 := Tryz.isAgg110
  z51 := Tryz.sizeOf110
  v51 := Tryz.zeroValue110
  t53 := Tryz.underlying178
  a53 := Tryz.isAgg178
  z53 := Tryz.sizeOf178
  v53 := Tryz.zeroValue178
  t70 := Tryz.underlying200
  a70 := Tryz.isAgg200
  z70 := Tryz.sizeOf200
  v70 := Tryz.zeroValue200
  t72 := Tryz.underlying202
  a72 := Tryz.isAgg202
  z72 := Tryz.sizeOf202
  v72 := Tryz.zeroValue202
  t75 := Tryz.underlying205
  a75 := Tryz.isAgg205
  z75 := Tryz.sizeOf205
  v75 := Tryz.zeroValue205
  t76 := Tryz.underlying206
  a76 := Tryz.isAgg206
  z76 := Tryz.sizeOf206
  v76 := Tryz.zeroValue206
  t109 := Tryz.underlying197
  a109 := Tryz.isAgg197
  z109 := Tryz.sizeOf197
  v109 := Tryz.zeroValue197
  t127 := Tryz.underlying234
  a127 := Tryz.isAgg234
  z127 := Tryz.sizeOf234
  v127 := Tryz.zeroValue234
  t146 := Tryz.underlying230
  a146 := Tryz.isAgg230
  z146 := Tryz.sizeOf230
  v146 := Tryz.zeroValue230
  t148 := Tryz.underlying232
  a148 := Tryz.isAgg232
  z148 := Tryz.sizeOf232
  v148 := Tryz.zeroValue232
  t164 := Tryz.underlying244
  a164 := Tryz.isAgg244
  z164 := Tryz.sizeOf244
  v164 := Tryz.zeroValue244 }
def Tryz.lays160_ren : Go.Shelf.Ren := ⟨fun | 160 => 117 | 232 => 182 | 231 => 181 | 227 => 183 | 234 => 185 | 233 => 184 | 236 => 187 | 235 => 186 | 228 => 214 | 271 => 217 | 151 => 216 | 197 => 215 | 120 => 227 | 152 => 226 | 260 => 225 | 137 => 240 | 119 => 241 | 224 => 242 | 225 => 243 | 217 => 250 | 266 => 252 | n => n, fun | 9 => 9 | 4 => 4 | 3 => 3 | 5 => 5 | 117 => 213 | 116 => 212 | 0 => 0 | 124 => 216 | 21 => 21 | 105 => 236 | 46 => 179 | 119 => 256 | 139 => 259 | 138 => 258 | n => n, fun | 3 => 1 | 4 => 2 | n => n⟩
theorem Tryz.lays160 : Go.Proofs.Lays.n160 Tryz.prog Tryz.lays160_ren := {
  mixed := by kernel_rfl
  f119 := Tryz.func241.trans (congrArg some (by kernel_rfl))
  f120 := Tryz.func227.trans (congrArg some (by kernel_rfl))
  f137 := Tryz.func240.trans (congrArg some (by kernel_rfl))
  f151 := Tryz.func216.trans (congrArg some (by kernel_rfl))
  f152 := Tryz.func226.trans (congrArg some (by kernel_rfl))
  f160 := Tryz.func117.trans (congrArg some (by kernel_rfl))
  f197 := Tryz.func215.trans (congrArg some (by kernel_rfl))
  f217 := Tryz.func250.trans (congrArg some (by kernel_rfl))
  f224 := Tryz.func242.trans (congrArg some (by kernel_rfl))
  f225 := Tryz.func243.trans (congrArg some (by kernel_rfl))
  f227 := Tryz.func183.trans (congrArg some (by kernel_rfl))
  f228 := Tryz.func214.trans (congrArg some (by kernel_rfl))
  f231 := Tryz.func181.trans (congrArg some (by kernel_rfl))
  f232 := Tryz.func182.trans (congrArg some (by kernel_rfl))
  f233 := Tryz.func184.trans (congrArg some (by kernel_rfl))
  f234 := Tryz.func185.trans (congrArg some (by kernel_rfl))
  f235 := Tryz.func186.trans (congrArg some (by kernel_rfl))
  f236 := Tryz.func187.trans (congrArg some (by kernel_rfl))
  f260 := Tryz.func225.trans (congrArg some (by kernel_rfl))
  f266 := Tryz.func252.trans (congrArg some (by kernel_rfl))
  f271 := Tryz.func217.trans (congrArg some (by kernel_rfl))
  t0 := Tryz.underlying0
  a0 := Tryz.isAgg0
  z0 := Tryz.sizeOf0
  v0 := Tryz.zeroValue0
  t3 := Tryz.underlying3
  a3 := Tryz.isAgg3
  z3 := Tryz.sizeOf3
  v3 := Tryz.zeroValue3
  t4 := Tryz.underlying4
  a4 := Tryz.isAgg4
  z4 := Tryz.sizeOf4
  v4 := Tryz.zeroValue4
  t5 := Tryz.underlying5
  a5 := Tryz.isAgg5
  z5 := Tryz.sizeOf5
  v5 := Tryz.zeroValue5
  t9 := Tryz.underlying9
  a9 := Tryz.isAgg9
  z9 := Tryz.sizeOf9
  v9 := Tryz.zeroValue9
  t21 := Tryz.underlying21
  a21 := Tryz.isAgg21
  z21 := Tryz.sizeOf21
  v21 := Tryz.zeroValue21
  t46 := Tryz.underlying179
  a46 := Tryz.isAgg179
  z46 := Tryz.sizeOf179
  v46 := Tryz.zeroValue179
  t105 := Tryz.underlying236
  a105 := Tryz.isAgg236
  z105 := Tryz.sizeOf236
  v105 := Tryz.zeroValue236
  t116 := Tryz.underlying212
  a116 := Tryz.isAgg212
  z116 := Tryz.sizeOf212
  t117 := Tryz.underlying213
  a117 := Tryz.isAgg213
  z117 := Tryz.sizeOf213
  v117 := Tryz.zeroValue213
  t119 := Tryz.underlying256
  a119 := Tryz.isAgg256
  z119 := Tryz.sizeOf256
  t124 := Tryz.underlying216
  a124 := Tryz.isAgg216
  z124 := Tryz.sizeOf216
  v124 := Tryz.zeroValue216
  t138 := Tryz.underlying258
  a138 := Tryz.isAgg258
  z138 := Tryz.sizeOf258
  v138 := Tryz.zeroValue258
  t139 := Tryz.underlying259
  a139 := Tryz.isAgg259
  z139 := Tryz.sizeOf259
  v139 := Tryz.zeroValue259
  g3 := by kernel_rfl
  g4 := by kernel_rfl }

theorem Tryz.bldExtra : Builder.Extra Tryz.prog Tryz.lays105_ren where
  sizeBuilder := by kernel_rfl
  liesBuilder := by kernel_rfl
  t5 := Tryz.lays105.t5
  a5 := Tryz.lays105.a5
  z5 := Tryz.lays105.z5
  v5 := Tryz.lays105.v5
  infoByte := by kernel_rfl
  cellsByte := by kernel_rfl
  sizeByte := by kernel_rfl
  neB5 := by decide

namespace YthbngnlmgplijaaGreatDoor
open Go.Al Go.Proofs
set_option maxRecDepth 100000

theorem cl_of {g : FuncId} {args : List Value} {w : World} {R : Ending → World → Prop} {k : KV} (h : Calls Tryz.prog g args.toArray w R) (hk : ∀ e w', R e w' → ∃ v, e = .returned v ∧ k v w') : Cl Tryz.prog g args w k :=
  ⟨Calls.mono h fun e w' he => by obtain ⟨v, rfl, hv⟩ := hk e w' he; exact hv⟩
theorem Fm.of_belowB {B : Nat} {w w' : World} (h : Below B w w') : Fm (fun x => B ≤ x) w w' := ⟨h.os, h.tape, h.output, h.size, fun b hb hs => h.block b (by omega)⟩
theorem Fm.setCells (b : Nat) : ∀ (vs : List Value) (o : Nat) (w : World), Fm (· = b) w (w.setCells b o vs)
  | [], _, w => Fm.refl _ _
  | v :: vs, o, w => (Fm.setCell (S := (· = b)) w ⟨b, o, none⟩ v rfl).trans (Fm.setCells b vs (o + 1) _) (fun _ _ e => e) (fun _ _ e => e)
theorem Fm.drewN (S : Nat → Prop) (w : World) (q : Nat) : Fm S w (w.drewN q) := ⟨rfl, rfl, rfl, Nat.le_refl _, fun _ _ _ => rfl⟩

/-! ### A builder -/
/-- A builder of the call's own, in block b, that holds l. -/
def Bld (w : World) (b : Nat) (l : Bs) : Prop := Lib.IsBuilderF 202 5 b b (bc l) w
theorem Bld.lt {w : World} {b : Nat} {l : Bs} (h : Bld w b l) : b < w.heap.size := by
  rcases h with h | h <;> exact h.lt
theorem Bld.new {w : World} {b : Nat} (h : w.heap[b]? = some (.cells #[.pointer none, .slice none 0 0] 202)) : Bld w b [] :=
  Lib.IsBuilderF.of (.inl ⟨Nat.le_refl _, _, h, World.ownsRow_nil _ _ _ _, by simp [Value.ownBlock]⟩)
theorem Bld.keep {w w' : World} {b : Nat} {l : Bs} (h : Bld w b l) (hf : Fm (fun _ => False) w w') : Bld w' b l := by
  have key : ∀ p, Lib.BuilderAtF 202 5 b b p (bc l) w → Lib.BuilderAtF 202 5 b b p (bc l) w' := by
    rintro p ⟨h1, v, h2, h3, h4⟩
    refine ⟨h1, v, hf.heap h2 (fun e => e), ?_, h4⟩
    obtain ⟨g1, g2⟩ := h3
    refine ⟨g1, ?_⟩
    rcases g2 with g2 | ⟨g, cap, cur, fz, r1, r2, r3, r4⟩
    · exact .inl g2
    · exact .inr ⟨g, cap, cur, fz, r1, r2, hf.heap r3 (fun e => e), r4⟩
  rcases h with h | h
  · exact .inl (key _ h)
  · exact .inr (key _ h)
theorem bwrite_spec {w : World} {b : Nat} {l : Bs} (h : Bld w b l) (s : Bs) (hlen : l.length + s.length ≤ 140737488355328) : Cl Tryz.prog 176 [pv b, stv s] w fun _ w' => Bld w' b (l ++ s) ∧ Fm (fun x => b ≤ x) w w' := by
  have c : Calls Tryz.prog 176 #[pv b, stv s] w fun e w' => e = .returned (.tuple #[.int .i64 (str s).size, .nilIface]) ∧ (Lib.BuilderAtF 202 5 b b (pv b) (bc l ++ Lib.strCells (str s)) w' ∧ Below b w w' ∧ Lib.OthersKept 5 (some b) w w') :=
    Any.Builder_WriteString_k (ρ := Tryz.lays105_ren) { Tryz.lays105 with } Tryz.bldExtra b b (bc l) (str s) w h (by rw [bc_len, str_size]; exact hlen) (Nat.le_of_lt h.lt)
  refine cl_of c fun e w' ⟨h1, h2, h3, _⟩ => ⟨_, h1, ?_, Fm.of_belowB h3⟩
  rw [show Lib.strCells (str s) = bc s from rfl, ← bc_append] at h2
  exact .inr h2
theorem blen_spec {w : World} {b : Nat} {l : Bs} (h : Bld w b l) : Cl Tryz.prog 177 [pv b] w fun v w' => v = iv l.length ∧ w' = w := by
  have c : Calls Tryz.prog 177 #[pv b] w fun e w' => e = .returned (.int .i64 (bc l).length) ∧ w' = w :=
    Any.Builder_Len_f (ρ := Tryz.lays105_ren) { Tryz.lays105 with } b b (bc l) w h
  rw [bc_len] at c
  exact cl_of c fun e w' ⟨h1, h2⟩ => ⟨_, h1, rfl, h2⟩
theorem bstring_spec {w : World} {b : Nat} {l : Bs} (h : Bld w b l) : Cl Tryz.prog 178 [pv b] w fun v w' => v = stv l ∧ Bld w' b l ∧ Fm (fun x => b ≤ x) w w' := by
  have c : Calls Tryz.prog 178 #[pv b] w fun e w' => e = .returned (.string ⟨l.toArray⟩) ∧ (Lib.IsBuilderF 202 5 b b (Lib.byteCells l) w' ∧ Below b w w' ∧ Lib.OthersKept 5 (some b) w w') :=
    Any.Builder_String_any_k (ρ := Tryz.lays105_ren) { Tryz.lays105 with } Tryz.bldExtra b b l w h (Nat.le_of_lt h.lt)
  exact cl_of c fun e w' ⟨h1, h2, h3, _⟩ => ⟨_, h1, rfl, h2, Fm.of_belowB h3⟩

/-! ### Repeat, Trim -/
theorem repeat_spec (w : World) (n : Nat) (hn : n ≤ 140737488355328) : Cl Tryz.prog 95 [stv [0], iv n] w fun v w' => v = stv (zeros n) ∧ Fm (fun _ => False) w w' := by
  have c : Calls Tryz.prog 95 #[stv [0], iv n] w fun e w' => e = .returned (.string ⟨(Lib.repeatL (str [0]).data.toList n).toArray⟩) ∧ Below w.heap.size w w' :=
    Any.strings_Repeat (ρ := Tryz.lays105_ren) Tryz.lays105 Tryz.bldExtra (str [0]) n w (by omega) (by rw [str_size]; simpa using hn)
  have e : Lib.repeatL (str [0]).data.toList n = zeros n := by
    have := Lib.repeatL_replicate 0 1 n
    rw [Nat.mul_one] at this
    exact this
  rw [e] at c
  exact cl_of c fun e w' ⟨h1, h2⟩ => ⟨_, h1, rfl, Fm.of_below h2 _⟩
theorem dropWhile_nil : ∀ (l : Bs), l.dropWhile (· == (0 : UInt8)) = [] ↔ l = zeros l.length
  | [] => by simp [zeros]
  | b :: l => by
    rw [List.dropWhile_cons]
    cases hb : (b == (0 : UInt8)) with
    | true =>
      have : b = 0 := by simpa using hb
      simp only [if_true, dropWhile_nil l, List.length_cons, zeros, List.replicate_succ]
      rw [this]
      simp
    | false =>
      have : b ≠ 0 := by simpa using hb
      simp [zeros, List.replicate_succ, this]
theorem trim_nil (l : Bs) : Lib.trimB l 0 = [] ↔ l = zeros l.length := by
  unfold Lib.trimB Lib.trimLeftB Lib.trimRightB
  rw [dropWhile_nil]
  constructor
  · intro h
    have h2 : (l.reverse.dropWhile (· == (0 : UInt8))) = zeros (l.reverse.dropWhile (· == (0 : UInt8))).length := by
      have := congrArg List.reverse h
      rw [List.reverse_reverse] at this
      rw [this]; simp [zeros]
    cases hd : l.reverse.dropWhile (· == (0 : UInt8)) with
    | nil =>
      have := (dropWhile_nil l.reverse).1 hd
      have := congrArg List.reverse this
      rw [List.reverse_reverse] at this
      rw [this]; simp [zeros]
    | cons x t =>
      rw [hd] at h2
      have hx : x = 0 := by
        have := congrArg List.head? h2
        simp [zeros, List.replicate_succ] at this; exact this
      have := List.head?_dropWhile_not (p := (· == (0 : UInt8))) (l := l.reverse)
      rw [hd] at this
      simp [hx] at this
  · intro h
    have h2 : l.reverse = zeros l.reverse.length := by rw [h]; simp [zeros]
    rw [(dropWhile_nil l.reverse).2 h2]
    rfl
theorem trim_spec (w : World) (l : Bs) (hl : l.length ≤ 9223372036854775807) : Cl Tryz.prog 117 [stv l, stv [0]] w fun v w' => (∃ t, v = stv t ∧ (t = [] ↔ l = zeros l.length)) ∧ Fm (fun _ => False) w w' := by
  have c : Calls Tryz.prog 117 #[stv l, stv [0]] w fun e w' => e = .returned (.string ⟨(Lib.trimB (str l).data.toList 0).toArray⟩) ∧ (w' = w ∨ w' = w.drew) :=
    Any.strings_Trim_one (ρ := Tryz.lays160_ren) Tryz.lays160 (str l) 0 (by decide) w (by rw [str_size]; exact hl)
  refine cl_of c fun e w' ⟨h1, h2⟩ => ⟨_, h1, ⟨_, rfl, trim_nil l⟩, ?_⟩
  rcases h2 with rfl | rfl
  · exact Fm.refl _ _
  · exact Fm.drew _ _

/-! ### Clone, Equal, Insert, Delete -/
theorem E22 : ElemT Tryz.prog 59 9 1 16 := elemT_of Tryz.underlying59 (by kernel_rfl)
theorem bs22e (w : World) : (Instr.buildSlice 59 0 #[]).run Tryz.prog w = .ok (.slice (some ⟨w.heap.size, 0, none⟩) 0 0) (w.alloc (.cells #[] 9)) := by kernel_rfl
theorem stv_one (xs : List Bs) : ∀ u ∈ xs.map stv, u.oneCell' = true := by
  intro u hu
  obtain ⟨x, _, rfl⟩ := List.mem_map.1 hu
  rfl
theorem clone_spec {w : World} {v : Value} {xs : List Bs} (h : CellsAt w v xs.length 1 (xs.map stv)) (hs : xs.length * 16 ≤ 140737488355328) : Cl Tryz.prog 106 [v] w fun r w' => w'.ownsRow w.heap.size 9 1 r xs.length (xs.map stv) ∧ Fm (fun _ => False) w w' := by
  refine c106 ?_; unfold T106
  obtain ⟨⟨a, c, hv, h1, h2, h3, h4⟩, hl⟩ := id h
  cases a with
  | none =>
    subst hv
    obtain ⟨e1, e2⟩ := h3 rfl
    have e3 : binV (TypeDesc.slice 9) .eql (.slice none xs.length c) (.slice none 0 0) = some (.bool true) := rfl
    simp only [RS0, RS1, RS2, RS3, RS4, RS5, e3]
    have : xs = [] := List.eq_nil_of_length_eq_zero e1
    subst this
    exact ⟨World.ownsRow_nil _ _ _ _, Fm.refl _ _⟩
  | some ad =>
    subst hv
    have e3 : binV (TypeDesc.slice 9) .eql (.slice (some ad) xs.length c) (.slice none 0 0) = some (.bool false) := rfl
    simp only [RS0, RS1, RS2, RS3, RS4, RS5, e3]
    refine RunS_ok (bs22e w) ?_
    have ho2 := own_alloc (w := w) (e := 9) (l := []) (by simp [maxLen]) (Nat.le_refl _)
    have hf2 := Fm.alloc (fun _ => False) w (.cells #[] 9)
    replace ho2 : (w.alloc (.cells #[] 9)).ownsRow w.heap.size 9 1 (.slice (some ⟨w.heap.size, 0, none⟩) 0 0) 0 [] := ho2
    generalize w.alloc (.cells #[] 9) = w2 at ho2 hf2
    obtain ⟨lv, w3, hr3, ho3, hf3⟩ := append_srcO E22 (by omega) ho2 (h.keep hf2 (fun _ _ e => e)) (stv_one xs) 59 (by unfold maxLen; omega) (by omega) hf2.size
    refine RunS_ok hr3 ?_
    rw [Nat.zero_add, List.nil_append] at ho3
    exact ⟨ho3, Fm.own hf2 hf3 (fun y hy => by have := own_lt ho2 y hy; omega)⟩
theorem equal_spec {w : World} {v u : Value} {xs ys : List Bs} (h : CellsAt w v xs.length 1 (xs.map stv)) (k : CellsAt w u ys.length 1 (ys.map stv)) : Cl Tryz.prog 207 [v, u] w fun r w' => r = .bool (decide (xs = ys)) ∧ Fm (fun _ => False) w w' := by
  have hlt := h.lt
  unfold maxLen at hlt
  refine c207 ?_; unfold T207
  simp only [RS0, RS1, RS2, RS3, RS4, RS5, h.lenV, k.lenV, bne_dec]
  by_cases hl : xs.length = ys.length
  · rw [show decide ((xs.length : Int) = (ys.length : Int)) = true by rw [decide_eq_true_eq]; omega]
    simp only [RS0, RS1, RS2, RS3, RS4, RS5, h.lenV]
    refine ⟨fun vs w2 => ∃ i : Nat, vs = [iv i] ∧ i ≤ xs.length ∧ xs.take i = ys.take i ∧ Fm (fun _ => False) w w2, fun vs _ => (xs.length - nth vs 0).toNat, ⟨0, rfl, by omega, rfl, Fm.refl _ _⟩, ?_⟩
    rintro _ w2 ivv ⟨i, hvs, hi, heq, hf2⟩
    cases hvs
    by_cases hlt2 : i < xs.length
    · have e1 : decide ((i : Int) < (xs.length : Int)) = true := by rw [decide_eq_true_eq]; omega
      have e2 : IntKind.i64.wrap ((i : Int) + 1) = ((i + 1 : Nat) : Int) := by rw [wrap_id] <;> omega
      have hx : xs[i]? = some xs[i] := List.getElem?_eq_getElem hlt2
      have hy : ys[i]? = some ys[i] := List.getElem?_eq_getElem (by omega)
      generalize xs[i] = x at hx
      generalize ys[i] = y at hy
      have hf3 := Fm.drew (fun _ => False) w2
      obtain ⟨ad, hix, _, hc⟩ := h.at1 (i := i) (x := stv x) (by rw [List.getElem?_map, hx]; rfl) .i64
      obtain ⟨ad', hix', _, hc'⟩ := k.at1 (i := i) (x := stv y) (by rw [List.getElem?_map, hy]; rfl) .i64
      have hc2 := hf2.cell' hc (fun e => e)
      have hc2' := hf2.cell' hc' (fun e => e)
      have htk : decide (x = y) = true → xs.take (i + 1) = ys.take (i + 1) := by
        intro e
        have e : x = y := by simpa using e
        rw [List.take_add_one, List.take_add_one, heq, hx, hy, e]
      simp only [RS0, RS1, RS2, RS3, RS4, RS5, e1, hix, hc2, true_and, hix', hc2', str_inj]
      cases hd : decide (x = y) with
      | true =>
        simp only [RS0, RS1, RS2, RS3, RS4, RS5, e2]
        exact ⟨⟨i + 1, rfl, by omega, htk hd, Fmf hf2 hf3⟩, by simp only [nth_0]; omega⟩
      | false =>
        simp only [RS0, RS1, RS2, RS3, RS4, RS5]
        refine ⟨?_, Fmf hf2 hf3⟩
        congr 1; symm
        rw [decide_eq_false_iff_not] at hd ⊢
        rintro rfl
        rw [hx] at hy; cases hy
        exact hd rfl
    · have hie : i = xs.length := by omega
      subst hie
      have e1 : decide (((xs.length : Nat) : Int) < (xs.length : Int)) = false := by simp
      rw [List.take_length, List.take_of_length_le (by omega)] at heq
      simp only [RS0, RS1, RS2, RS3, RS4, RS5, e1]
      refine ⟨?_, hf2⟩
      congr 1; symm; simpa using heq
  · rw [show decide ((xs.length : Int) = (ys.length : Int)) = false by rw [decide_eq_false_iff_not]; omega]
    simp only [RS0, RS1, RS2, RS3, RS4, RS5]
    refine ⟨?_, Fm.refl _ _⟩
    congr 1; symm
    rw [decide_eq_false_iff_not]
    rintro rfl
    exact hl rfl

/-- What 'setCells' lays. -/
theorem cells_put {w : World} {b o n cap : Nat} {cs vs : List Value} (hcs : ∀ j, j < n → (w.cell? ⟨b, j, none⟩).isSome = true) (hold : ∀ j u, cs[j]? = some u → w.cell? ⟨b, j, none⟩ = some u) (hcl : cs.length = n) (ho : o + vs.length ≤ n) (hn : n ≤ cap) (hcap : cap ≤ maxLen) :
    CellsAt (w.setCells b o vs) (.slice (some ⟨b, 0, none⟩) n cap) n 1 (cs.take o ++ vs ++ cs.drop (o + vs.length)) := by
  refine ⟨⟨_, cap, rfl, hn, hcap, (fun e => by cases e), fun j u hj => ⟨_, rfl, ?_⟩⟩, by simp; omega⟩
  rw [add_none, Nat.zero_add]
  have hto : (cs.take o).length = o := by rw [List.length_take]; omega
  by_cases h1 : j < o
  · rw [World.cell?_setCells_out b vs o w ⟨b, j, none⟩ (fun _ _ => .inl h1)]
    apply hold
    rw [List.append_assoc, List.getElem?_append_left (by rw [hto]; exact h1), List.getElem?_take, if_pos h1] at hj
    exact hj
  · by_cases h2 : j < o + vs.length
    · have := World.cell?_setCells_in b vs o w (fun q hq => hcs _ (by omega)) (j - o) (by omega)
      rw [show o + (j - o) = j by omega] at this
      rw [this]
      rw [List.append_assoc, List.getElem?_append_right (by rw [hto]; omega), hto, List.getElem?_append_left (by omega), List.getElem?_eq_getElem (by omega)] at hj
      exact hj
    · rw [World.cell?_setCells_out b vs o w ⟨b, j, none⟩ (fun _ _ => .inr (by simpa using h2))]
      apply hold
      rw [List.append_assoc, List.getElem?_append_right (by rw [hto]; omega), hto, List.getElem?_append_right (by omega), List.getElem?_drop] at hj
      rw [← hj]; congr 1; omega


end YthbngnlmgplijaaGreatDoor
end Go.Proofs
