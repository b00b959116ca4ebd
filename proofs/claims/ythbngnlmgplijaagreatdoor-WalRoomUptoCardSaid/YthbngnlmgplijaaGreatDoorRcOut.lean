/- A body is read: the program's outer. -/
import Derived.Test.YthbngnlmgplijaaGreatDoorRcRd
namespace Go.Proofs.YthbngnlmgplijaaGreatDoor
open Go.Al Go.Proofs
set_option linter.unusedVariables false
set_option linter.unusedSimpArgs false
set_option linter.unusedSectionVars false
set_option maxRecDepth 100000

abbrev nl : Value := .slice none 0 0
def rc0 : Rc := ⟨0, 0, 0, 0, 0, 0, 0, 0, 0, 0, [], [], [], [], [], []⟩
theorem rcs_one {r : Rc} {vs vm vi vp vt : Value} (h1 : vs.oneCell' = true) (h2 : vm.oneCell' = true) (h3 : vi.oneCell' = true) (h4 : vp.oneCell' = true) (h5 : vt.oneCell' = true) : ∀ u ∈ (rcs r vs vm vi vp vt).toList, u.oneCell' = true := by
  intro u hu
  simp [rcs] at hu
  rcases hu with rfl | rfl | rfl | rfl | rfl | rfl | rfl | rfl | rfl | rfl | rfl | rfl | rfl | rfl | rfl | rfl <;> first | rfl | assumption
theorem bld52z (w : World) : (Instr.build 28 #[]).run Tryz.prog w = .ok (.agg (rcs rc0 nl nl nl nl nl)) w := by kernel_rfl
theorem agg52 : aggB Tryz.prog 28 = some true := by kernel_rfl
theorem size52 : sizeB Tryz.prog 28 = some 16 := by kernel_rfl
theorem Er48 : ElemT Tryz.prog 24 118 7 80 := elemT_of Tryz.underlying24 (by kernel_rfl)
theorem Er49 : ElemT Tryz.prog 25 120 2 16 := elemT_of Tryz.underlying25 (by kernel_rfl)
theorem Er50 : ElemT Tryz.prog 26 122 2 16 := elemT_of Tryz.underlying26 (by kernel_rfl)
theorem bld90 (m : Int) (p : Pg) (a : Option Addr) (n c : Nat) (w : World) : (Instr.build 118 #[(0, iv m), (1, .agg (pcs p (.slice a n c)))]).run Tryz.prog w = .ok (.agg (imC (m, p, .slice a n c)).toArray) w := by kernel_rfl
theorem bs48 (m : Int) (p : Pg) (a : Option Addr) (n c : Nat) (w : World) : (Instr.buildSlice 24 1 #[(0, .agg (imC (m, p, .slice a n c)).toArray)]).run Tryz.prog w = .ok (.slice (some ⟨w.heap.size, 0, none⟩) 1 1) (w.alloc (.cells (imC (m, p, .slice a n c)).toArray 118)) := by kernel_rfl
theorem bld96 (a b : Int) (w : World) : (Instr.build 120 #[(0, iv a), (1, iv b)]).run Tryz.prog w = .ok (.agg (pc2 (a, b)).toArray) w := by kernel_rfl
theorem bld99 (a b : Int) (w : World) : (Instr.build 122 #[(0, iv a), (1, iv b)]).run Tryz.prog w = .ok (.agg (pc2 (a, b)).toArray) w := by kernel_rfl
theorem bs49 (a b : Int) (w : World) : (Instr.buildSlice 25 1 #[(0, .agg (pc2 (a, b)).toArray)]).run Tryz.prog w = .ok (.slice (some ⟨w.heap.size, 0, none⟩) 1 1) (w.alloc (.cells (pc2 (a, b)).toArray 120)) := by kernel_rfl
theorem bs50 (a b : Int) (w : World) : (Instr.buildSlice 26 1 #[(0, .agg (pc2 (a, b)).toArray)]).run Tryz.prog w = .ok (.slice (some ⟨w.heap.size, 0, none⟩) 1 1) (w.alloc (.cells (pc2 (a, b)).toArray 122)) := by kernel_rfl

/-- What is in the heap while a body is read. -/
structure HS (w0 w : World) (x2 rb r4 x5 : Nat) (st : St2) (r : Rc) (vs vm vi vp vt : Value) : Prop where
  res : w.heap[x2]? = some (.cells (rcs rc0 nl nl nl nl nl) 28)
  rd : RdAt w rb st.1 st.2
  rp : w.heap[r4]? = some (.cells #[pv rb] 181)
  x : RB w x5 r vs vm vi vp vt
  fm : Fm (fun _ => False) w0 w
  o1 : w0.heap.size ≤ x2
  o2 : x2 < rb
  o3 : rb < r4
  o4 : r4 < x5
  len : st.1.length ≤ 1000000
section
variable {w0 w w' : World} {x2 rb r4 x5 : Nat} {st : St2} {r : Rc} {vs vm vi vp vt : Value}
theorem HS.keepG {S : Nat → Prop} (h : HS w0 w x2 rb r4 x5 st r vs vm vi vp vt) (hf : Fm S w w') (hS : ∀ y, S y → x5 < y) : HS w0 w' x2 rb r4 x5 st r vs vm vi vp vt := by
  have := h.o1
  have := h.o2
  have := h.o3
  have := h.o4
  have hn : ∀ y, y ≤ x5 → ¬ S y := fun y hy e => by have := hS y e; omega
  exact ⟨hf.heap h.res (hn _ (by omega)), h.rd.keep hf (hn _ (by omega)), hf.heap h.rp (hn _ (by omega)), h.x.keep hf (hn _ (by omega)), Fm.own h.fm hf (fun y hy => by have := hS y hy; omega), h.o1, h.o2, h.o3, h.o4, h.len⟩
theorem HS.rdr (h : HS w0 w x2 rb r4 x5 st r vs vm vi vp vt) {st' : St2} (hr : RdAt w' rb st'.1 st'.2) (hf : Fm (· = rb) w w') (hl : st'.1.length ≤ st.1.length) : HS w0 w' x2 rb r4 x5 st' r vs vm vi vp vt := by
  have := h.o1
  have := h.o2
  have := h.o3
  have := h.o4
  have := h.len
  exact ⟨hf.heap h.res (by omega), hr, hf.heap h.rp (by omega), h.x.keep hf (by omega), Fm.own h.fm hf (by rintro y rfl; omega), h.o1, h.o2, h.o3, h.o4, by omega⟩
theorem HS.cp (h : HS w0 w x2 rb r4 x5 st r vs vm vi vp vt) : w.cell? ⟨r4, 0, none⟩ = some (pv rb) := by rw [cell_at h.rp]; rfl
theorem HS.numk (h : HS w0 w x2 rb r4 x5 st r vs vm vi vp vt) {most : Int} (hm : most ≤ 9223372036854775807) {k : KV} (hk : ∀ w', HS w0 w' x2 rb r4 x5 (rn most st).2 r vs vm vi vp vt → Fm (· = rb) w w' → k (iv (rn most st).1) w') : Cl Tryz.prog 150 [pv rb, iv most] w k := by
  refine (rnum_spec h.rd h.len hm).mono ?_
  rintro _ w' ⟨rfl, h1, hf⟩
  exact hk w' (h.rdr h1 hf (rn_in most st).2.2) hf
theorem HS.num (h : HS w0 w x2 rb r4 x5 st r vs vm vi vp vt) {k : KV} (hk : ∀ w', HS w0 w' x2 rb r4 x5 (rn 4611686018427387904 st).2 r vs vm vi vp vt → Fm (· = rb) w w' → k (iv (rn 4611686018427387904 st).1) w') : ClV Tryz.prog (.func (.func 149) #[] #[pv r4]) [] w k := by
  refine ClV_func (by kernel_rfl) ?_
  show Cl Tryz.prog 149 [pv r4] w k
  refine c149 ?_; unfold T149
  simp only [RS0, RS1, RS2, RS3, RS4, RS5, h.cp]
  refine h.numk (by omega) ?_
  intro w' h' hf
  exact hk w' h' hf
theorem HS.text (h : HS w0 w x2 rb r4 x5 st r vs vm vi vp vt) {k : KV} (hk : ∀ w', HS w0 w' x2 rb r4 x5 (rt 512 st).2 r vs vm vi vp vt → Fm (· = rb) w w' → k (stv (rt 512 st).1) w') : Cl Tryz.prog 151 [pv rb, iv 512] w k := by
  refine (rtext_spec h.rd h.len (by omega)).mono ?_
  rintro _ w' ⟨rfl, h1, hf⟩
  exact hk w' (h.rdr h1 hf (rt_in (by omega) st).2) hf
theorem HS.list (h : HS w0 w x2 rb r4 x5 st r vs vm vi vp vt) {k : KV} (hk : ∀ v w', HS w0 w' x2 rb r4 x5 (rl 255 st).2 r vs vm vi vp vt → w'.ownsRow w.heap.size 3 1 v (rl 255 st).1.length ((rl 255 st).1.map iv) → Fm (· = rb) w w' → k v w') : Cl Tryz.prog 152 [pv rb, iv 255] w k := by
  refine (rlist_spec h.rd h.len).mono ?_
  rintro v w' ⟨ho, h1, hf⟩
  exact hk v w' (h.rdr h1 hf (rl_in (by omega) st).2.2) ho hf
theorem HS.put (h : HS w0 w x2 rb r4 x5 st r vs vm vi vp vt) {j : Nat} {u : Value} {r' : Rc} {vs' vm' vi' vp' vt' : Value} (hj : j < 16) (hu : u.oneCell' = true) (e : (rcs r vs vm vi vp vt).setIfInBounds j u = rcs r' vs' vm' vi' vp' vt') {k : KV}
    (hk : ∀ w', HS w0 w' x2 rb r4 x5 st r' vs' vm' vi' vp' vt' → Fm (· = x5) w w' → k undef w') : St 1 w (.pointer (some ⟨x5, j, none⟩)) u k := by
  have := h.o1
  have := h.o2
  have := h.o3
  have := h.o4
  refine St_blk h.x.h (by show j < 16; exact hj) hu ?_
  intro w' hw' hs' hf'
  rw [e] at hw'
  exact hk w' ⟨hf'.heap h.res (by omega), h.rd.keep hf' (by omega), hf'.heap h.rp (by omega), ⟨hw'⟩, Fm.own h.fm hf' (by rintro y rfl; omega), h.o1, h.o2, h.o3, h.o4, h.len⟩ hf'
/-- What is returned. -/
theorem HS.ret (h : HS w0 w x2 rb r4 x5 st r vs vm vi vp vt) (hone : ∀ u ∈ (rcs r vs vm vi vp vt).toList, u.oneCell' = true) (b : Bool) {k : KV} (hk : ∀ w', Fm (· = x2) w w' → k (.tuple #[.agg (rcs r vs vm vi vp vt), .bool b]) w') :
    St 16 w (.pointer (some ⟨x2, 0, none⟩)) (.agg (rcs r vs vm vi vp vt)) fun u_168 w_169 =>
        RetO (resL Tryz.prog (fun j => bif Nat.beq j 2 then .pointer (some ⟨x2, 0, none⟩) else bif Nat.beq j 3 then (Value.bool b) else undef) w_169 [(ResultVar.cell 2 28), (ResultVar.tmp 3)]) w_169 k := by
  refine St_all h.res rfl rfl hone ?_
  intro w' hw' hs' hf'
  have hj' : resV Tryz.prog (fun j => bif Nat.beq j 2 then .pointer (some ⟨x2, 0, none⟩) else bif Nat.beq j 3 then (Value.bool b) else undef) w' (.tmp 3) = some (.bool b) := rfl
  simp only [resL, resV_blk (f := (fun j => bif Nat.beq j 2 then .pointer (some ⟨x2, 0, none⟩) else bif Nat.beq j 3 then (Value.bool b) else undef)) (a := 2) rfl agg52 size52 hw' rfl, hj', RetO, RetV]
  exact hk w' hf'
end
/-- The lists of a record, the call's own. -/
structure Rows (w : World) (b : Nat) (r : Rc) (vs vm vi vp vt : Value) : Prop where
  hs : w.ownsRow b 3 1 vs r.slots.length (r.slots.map iv)
  hm : w.ownsRow b 3 1 vm r.more.length (r.more.map iv)
  hi : ∃ X : List (Int × Pg × Value), X.map (fun x => (x.1, x.2.1)) = r.imgs ∧ w.ownsRow b 118 7 vi X.length (X.flatMap imC) ∧ ∀ x ∈ X, x.2.2.oneCell' = true ∧ w.ownsRow b 9 1 x.2.2 x.2.1.items.length (x.2.1.items.map stv) ∧ PgAs w (pcs x.2.1 x.2.2) x.2.1
  hp : w.ownsRow b 120 2 vp r.pages.length (r.pages.flatMap pc2)
  ht : w.ownsRow b 122 2 vt r.txns.length (r.txns.flatMap pc2)
section
variable {w w' : World} {b : Nat} {r : Rc} {vs vm vi vp vt : Value}
theorem pgas_own {p : Pg} {v : Value} (ho : w'.ownsRow b 9 1 v p.items.length (p.items.map stv)) (h : PgAs w (pcs p v) p) : PgAs w' (pcs p v) p := ⟨⟨v, rfl, own_one ho, CellsAt.of_own ho⟩, h.small, h.ins⟩
theorem Rows.keep {S : Nat → Prop} (h : Rows w b r vs vm vi vp vt) (hf : Fm S w w') (hS : ∀ y, S y → y < b) : Rows w' b r vs vm vi vp vt := by
  have hn : ∀ k, b ≤ k → ¬ S k := fun k hk e => by have := hS k e; omega
  obtain ⟨X, h1, h2, h3⟩ := h.hi
  exact ⟨own_keep h.hs hf (fun k hk _ _ => hn k hk), own_keep h.hm hf (fun k hk _ _ => hn k hk), ⟨X, h1, own_keep h2 hf (fun k hk _ _ => hn k hk), fun x hx => by
    obtain ⟨q1, q2, q3⟩ := h3 x hx
    have q4 := own_keep q2 hf (fun k hk _ _ => hn k hk)
    exact ⟨q1, q4, pgas_own q4 q3⟩⟩, own_keep h.hp hf (fun k hk _ _ => hn k hk), own_keep h.ht hf (fun k hk _ _ => hn k hk)⟩
theorem Rows.one (h : Rows w b r vs vm vi vp vt) : ∀ u ∈ (rcs r vs vm vi vp vt).toList, u.oneCell' = true := by
  obtain ⟨X, h1, h2, h3⟩ := h.hi
  exact rcs_one (own_one h.hs) (own_one h.hm) (own_one h2) (own_one h.hp) (own_one h.ht)
theorem Rows.asR (h : Rows w b r vs vm vi vp vt) (hb : Bnd r) : RcAs w (rcs r vs vm vi vp vt) r := by
  obtain ⟨X, h1, h2, h3⟩ := h.hi
  refine ⟨⟨vs, vm, vi, vp, vt, rfl, ⟨own_one h.hs, own_one h.hm, own_one h2, own_one h.hp, own_one h.ht⟩, CellsAt.of_own h.hs, CellsAt.of_own h.hm, ⟨X, h1, CellsAt.of_own h2, fun x hx => ⟨(h3 x hx).1, (h3 x hx).2.2⟩⟩, CellsAt.of_own h.hp, CellsAt.of_own h.ht⟩, fun n hn => ?_, ?_, ?_, ?_, hb.lsns⟩
  · have := hb.nums n hn
    unfold okN at this
    unfold In; omega
  · have := hb.kind; omega
  · have := hb.data; omega
  · have := hb.slots
    have := hb.more
    have := hb.imgs
    have := hb.pages
    have := hb.txns
    omega
end
def tailI (a : List Int) (t : Bs) (sl mo : List Int) (im : List (Int × Pg)) (pg tx : List (Int × Int)) (st : St2) : Option Rc := bif decide (endE st.1 st.2 = 0) then some ⟨gI a 0, gI a 1, gI a 2, gI a 3, gI a 4, gI a 5, gI a 6, gI a 7, gI a 8, gI a 9, t, sl, mo, im, pg, tx⟩ else none
def tailH (a : List Int) (t : Bs) (sl mo : List Int) (im : List (Int × Pg)) (pg : List (Int × Int) × St2) : Option Rc := (rpGo (rn 1024 pg.2).1.toNat (rn 1024 pg.2).2).bind fun tx => tailI a t sl mo im pg.1 tx.1 tx.2
def tailG (a : List Int) (t : Bs) (sl mo : List Int) (im : List (Int × Pg) × St2) : Option Rc := (rpGo (rn 8192 im.2).1.toNat (rn 8192 im.2).2).bind (tailH a t sl mo im.1)
theorem tail_eq (a : List Int) (st : St2) : tailP a st = (riGo (rn 4 (rl 255 (rl 255 (rt 512 st).2).2).2).1.toNat (rn 4 (rl 255 (rl 255 (rt 512 st).2).2).2).2).bind (tailG a (rt 512 st).1 (rl 255 (rt 512 st).2).1 (rl 255 (rl 255 (rt 512 st).2).2).1) := rfl
theorem outer_in {s : Bs} {x : Rc} (h : outerP s = some x) : Bnd x := by
  unfold outerP at h
  refine tail_in h (fun i hi h3 => ?_) ?_
  · simp only [ten]
    have q : ∀ st, okN (rn 4611686018427387904 st).1 := fun st => ⟨(rn_in _ st).1, by have := (rn_in 4611686018427387904 st).2.1; omega⟩
    have : i = 0 ∨ i = 1 ∨ i = 2 ∨ i = 4 ∨ i = 5 ∨ i = 6 ∨ i = 7 ∨ i = 8 ∨ i = 9 := by omega
    rcases this with rfl | rfl | rfl | rfl | rfl | rfl | rfl | rfl | rfl <;> exact q _
  · simp only [ten]
    have q : ∀ st, 0 ≤ (rn 13 st).1 ∧ (rn 13 st).1 ≤ 13 := fun st => ⟨(rn_in _ st).1, by have := (rn_in 13 st).2.1; omega⟩
    exact q _

set_option maxHeartbeats 32000000 in
theorem outer_spec (w : World) (s : Bs) (hs : s.length ≤ 1000000) : Cl Tryz.prog 81 [stv s] w fun v w' => ∃ cs ok, v = .tuple #[.agg cs, .bool ok] ∧ cs.size = 16 ∧ (∀ u ∈ cs.toList, u.oneCell' = true) ∧ (ok = false → outerP s = none) ∧ (ok = true → ∃ x vs vm vi vp vt, outerP s = some x ∧ cs = rcs x vs vm vi vp vt ∧ Rows w' w.heap.size x vs vm vi vp vt) ∧ Fm (fun _ => False) w w' := by
  refine c81 ?_; unfold T81
  refine New_any ?_
  intro x2 w1 hx2 hs1 hw1 hf1
  refine (bread_spec w1 s).mono ?_
  rintro _ w2 ⟨rb, rfl, hrb, hrd, hf2⟩
  have hz2 := hf2.size
  have hrl := hrd.lt
  refine New_any ?_
  intro r4 w3 hr4 hs3 hw3 hf3
  refine St_blk hw3 (by show 0 < 1; decide) rfl ?_
  intro w4 hw4 hs4 hf4
  refine New_any ?_
  intro x5 w5 hx5 hs5 hw5 hf5
  have hf35 : Fm (fun _ => False) w2 w5 := Fmf (Fm.own hf3 hf4 (by rintro y rfl; omega)) hf5
  have h0 : HS w w5 x2 rb r4 x5 (s, 0) rc0 nl nl nl nl nl := ⟨(Fmf hf2 hf35).heap hw1 (fun e => e), hrd.keep hf35 (fun e => e), hf5.heap hw4 (fun e => e), ⟨hw5⟩, Fmf hf1 (Fmf hf2 hf35), by omega, by omega, by omega, by omega, hs⟩
  have hr0 : Rows w5 (x5 + 1) rc0 nl nl nl nl nl := ⟨World.ownsRow_nil _ _ _ _, World.ownsRow_nil _ _ _ _, ⟨[], rfl, World.ownsRow_nil _ _ _ _, by simp⟩, World.ownsRow_nil _ _ _ _, World.ownsRow_nil _ _ _ _⟩
  have hx5l := h0.x.lt
  clear hw1 hrd hw3 hw4 hw5 hr0
  refine h0.num ?_
  intro w6 h6a hq6
  have i0 := rn_in 4611686018427387904 (s, 0)
  generalize e0 : rn 4611686018427387904 (s, 0) = a0 at h6a i0 ⊢
  refine h6a.num ?_
  intro w7 h7a hq7
  have i1 := rn_in 4611686018427387904 a0.2
  generalize e1 : rn 4611686018427387904 a0.2 = a1 at h7a i1 ⊢
  refine h7a.num ?_
  intro w8 h8a hq8
  have i2 := rn_in 4611686018427387904 a1.2
  generalize e2 : rn 4611686018427387904 a1.2 = a2 at h8a i2 ⊢
  try simp only [RS0, RS1, RS2, RS3, RS4, RS5]
  refine h8a.put (j := 0) (r' := ⟨a0.1, 0, 0, 0, 0, 0, 0, 0, 0, 0, [], [], [], [], [], []⟩) (vs' := nl) (vm' := nl) (vi' := nl) (vp' := nl) (vt' := nl) (by omega) rfl rfl ?_
  intro w9 h9a hq9
  try simp only [RS0, RS1, RS2, RS3, RS4, RS5]
  refine h9a.put (j := 1) (r' := ⟨a0.1, a1.1, 0, 0, 0, 0, 0, 0, 0, 0, [], [], [], [], [], []⟩) (vs' := nl) (vm' := nl) (vi' := nl) (vp' := nl) (vt' := nl) (by omega) rfl rfl ?_
  intro w10 h10a hq10
  try simp only [RS0, RS1, RS2, RS3, RS4, RS5]
  refine h10a.put (j := 2) (r' := ⟨a0.1, a1.1, a2.1, 0, 0, 0, 0, 0, 0, 0, [], [], [], [], [], []⟩) (vs' := nl) (vm' := nl) (vi' := nl) (vp' := nl) (vt' := nl) (by omega) rfl rfl ?_
  intro w11 h11a hq11
  simp only [RS0, RS1, RS2, RS3, RS4, RS5, h11a.cp]
  refine h11a.numk (by omega) ?_
  intro w12 h12a hq12
  have i3 := rn_in 13 a2.2
  generalize e3 : rn 13 a2.2 = a3 at h12a i3 ⊢
  have ek : cvI .u8 (iv a3.1) = some (.int .u8 a3.1) := by
    show some (Value.int .u8 (IntKind.u8.wrap a3.1)) = _
    obtain ⟨q, hq⟩ := Int.eq_ofNat_of_zero_le i3.1
    have := i3.2.1
    rw [hq, u8_wrap_nat, Nat.mod_eq_of_lt (by omega)]
  simp only [RS0, RS1, RS2, RS3, RS4, RS5, ek]
  try simp only [RS0, RS1, RS2, RS3, RS4, RS5]
  refine h12a.put (j := 3) (r' := ⟨a0.1, a1.1, a2.1, a3.1, 0, 0, 0, 0, 0, 0, [], [], [], [], [], []⟩) (vs' := nl) (vm' := nl) (vi' := nl) (vp' := nl) (vt' := nl) (by omega) rfl rfl ?_
  intro w13 h13a hq13
  refine h13a.num ?_
  intro w14 h14a hq14
  have i4 := rn_in 4611686018427387904 a3.2
  generalize e4 : rn 4611686018427387904 a3.2 = a4 at h14a i4 ⊢
  refine h14a.num ?_
  intro w15 h15a hq15
  have i5 := rn_in 4611686018427387904 a4.2
  generalize e5 : rn 4611686018427387904 a4.2 = a5 at h15a i5 ⊢
  refine h15a.num ?_
  intro w16 h16a hq16
  have i6 := rn_in 4611686018427387904 a5.2
  generalize e6 : rn 4611686018427387904 a5.2 = a6 at h16a i6 ⊢
  refine h16a.num ?_
  intro w17 h17a hq17
  have i7 := rn_in 4611686018427387904 a6.2
  generalize e7 : rn 4611686018427387904 a6.2 = a7 at h17a i7 ⊢
  refine h17a.num ?_
  intro w18 h18a hq18
  have i8 := rn_in 4611686018427387904 a7.2
  generalize e8 : rn 4611686018427387904 a7.2 = a8 at h18a i8 ⊢
  refine h18a.num ?_
  intro w19 h19a hq19
  have i9 := rn_in 4611686018427387904 a8.2
  generalize e9 : rn 4611686018427387904 a8.2 = a9 at h19a i9 ⊢
  try simp only [RS0, RS1, RS2, RS3, RS4, RS5]
  refine h19a.put (j := 4) (r' := ⟨a0.1, a1.1, a2.1, a3.1, a4.1, 0, 0, 0, 0, 0, [], [], [], [], [], []⟩) (vs' := nl) (vm' := nl) (vi' := nl) (vp' := nl) (vt' := nl) (by omega) rfl rfl ?_
  intro w20 h20a hq20
  try simp only [RS0, RS1, RS2, RS3, RS4, RS5]
  refine h20a.put (j := 5) (r' := ⟨a0.1, a1.1, a2.1, a3.1, a4.1, a5.1, 0, 0, 0, 0, [], [], [], [], [], []⟩) (vs' := nl) (vm' := nl) (vi' := nl) (vp' := nl) (vt' := nl) (by omega) rfl rfl ?_
  intro w21 h21a hq21
  try simp only [RS0, RS1, RS2, RS3, RS4, RS5]
  refine h21a.put (j := 6) (r' := ⟨a0.1, a1.1, a2.1, a3.1, a4.1, a5.1, a6.1, 0, 0, 0, [], [], [], [], [], []⟩) (vs' := nl) (vm' := nl) (vi' := nl) (vp' := nl) (vt' := nl) (by omega) rfl rfl ?_
  intro w22 h22a hq22
  try simp only [RS0, RS1, RS2, RS3, RS4, RS5]
  refine h22a.put (j := 7) (r' := ⟨a0.1, a1.1, a2.1, a3.1, a4.1, a5.1, a6.1, a7.1, 0, 0, [], [], [], [], [], []⟩) (vs' := nl) (vm' := nl) (vi' := nl) (vp' := nl) (vt' := nl) (by omega) rfl rfl ?_
  intro w23 h23a hq23
  try simp only [RS0, RS1, RS2, RS3, RS4, RS5]
  refine h23a.put (j := 8) (r' := ⟨a0.1, a1.1, a2.1, a3.1, a4.1, a5.1, a6.1, a7.1, a8.1, 0, [], [], [], [], [], []⟩) (vs' := nl) (vm' := nl) (vi' := nl) (vp' := nl) (vt' := nl) (by omega) rfl rfl ?_
  intro w24 h24a hq24
  try simp only [RS0, RS1, RS2, RS3, RS4, RS5]
  refine h24a.put (j := 9) (r' := ⟨a0.1, a1.1, a2.1, a3.1, a4.1, a5.1, a6.1, a7.1, a8.1, a9.1, [], [], [], [], [], []⟩) (vs' := nl) (vm' := nl) (vi' := nl) (vp' := nl) (vt' := nl) (by omega) rfl rfl ?_
  intro w25 h25a hq25
  simp only [RS0, RS1, RS2, RS3, RS4, RS5, h25a.cp]
  refine h25a.text ?_
  intro w26 h26a hq26
  have it := rt_in (most := 512) (by omega) a9.2
  generalize et : rt 512 a9.2 = at_ at h26a it ⊢
  try simp only [RS0, RS1, RS2, RS3, RS4, RS5]
  refine h26a.put (j := 10) (r' := ⟨a0.1, a1.1, a2.1, a3.1, a4.1, a5.1, a6.1, a7.1, a8.1, a9.1, at_.1, [], [], [], [], []⟩) (vs' := nl) (vm' := nl) (vi' := nl) (vp' := nl) (vt' := nl) (by omega) rfl rfl ?_
  intro w27 h27a hq27
  have hten : ten s = ([a0.1, a1.1, a2.1, a3.1, a4.1, a5.1, a6.1, a7.1, a8.1, a9.1], a9.2) := by
    simp only [ten, e0, e1, e2, e3, e4, e5, e6, e7, e8, e9]
  have hout : outerP s = tailP [a0.1, a1.1, a2.1, a3.1, a4.1, a5.1, a6.1, a7.1, a8.1, a9.1] a9.2 := by unfold outerP; rw [hten]
  rw [tail_eq, et] at hout
  have hz27 : x5 < w27.heap.size := h27a.x.lt
  have hd27 := Fm.drew (fun _ => False) w27
  have g0 := h27a.keepG hd27 (fun _ e => e.elim)
  refine ⟨fun w' => w'.heap[r4]? = some (.cells #[pv rb] 181), g0.rp, ?_⟩
  simp only [RS0, RS1, RS2, RS3, RS4, RS5, h27a.cp, g0.cp, true_and]
  refine ⟨pv rb, fun w9 h9 => ?_, ?_⟩
  · have : w9.cell? ⟨r4, 0, none⟩ = some (pv rb) := by rw [cell_at h9]; rfl
    simp only [RS0, RS1, RS2, RS3, RS4, RS5, this]; trivial
  have hzd : x5 < w27.drew.heap.size := hz27
  generalize w27.drew = wd at hd27 g0 hzd
  refine g0.list ?_
  intro vs w30 g30 ho30 hq30
  refine ⟨g30.rp, ?_⟩
  have hz30 := hq30.size
  try simp only [RS0, RS1, RS2, RS3, RS4, RS5]
  refine g30.list ?_
  intro vm w31 g31 ho31 hq31
  have isl := rl_in (most := 255) (by omega) at_.2
  generalize rl 255 at_.2 = sl at g30 ho30 g31 ho31 hout isl ⊢
  have imo := rl_in (most := 255) (by omega) sl.2
  generalize rl 255 sl.2 = mo at g31 ho31 hout imo ⊢
  have ho4 := g0.o3
  have ho5 := g0.o4
  have ho30' := own_keep ho30 hq31 (fun k hk _ _ e => by omega)
  refine g31.put (j := 11) (r' := ⟨a0.1, a1.1, a2.1, a3.1, a4.1, a5.1, a6.1, a7.1, a8.1, a9.1, at_.1, sl.1, [], [], [], []⟩) (vs' := vs) (vm' := nl) (vi' := nl) (vp' := nl) (vt' := nl) (by omega) (own_one ho30) rfl ?_
  intro w32 g32 hq32
  try simp only [RS0, RS1, RS2, RS3, RS4, RS5]
  refine g32.put (j := 12) (r' := ⟨a0.1, a1.1, a2.1, a3.1, a4.1, a5.1, a6.1, a7.1, a8.1, a9.1, at_.1, sl.1, mo.1, [], [], []⟩) (vs' := vs) (vm' := vm) (vi' := nl) (vp' := nl) (vt' := nl) (by omega) (own_one ho31) rfl ?_
  intro w33 g33 hq33
  have hrow : Rows w33 (x5 + 1) ⟨a0.1, a1.1, a2.1, a3.1, a4.1, a5.1, a6.1, a7.1, a8.1, a9.1, at_.1, sl.1, mo.1, [], [], []⟩ vs vm nl nl nl := by
    refine ⟨own_base (own_keep (own_keep ho30' hq32 (fun k hk _ _ e => by omega)) hq33 (fun k hk _ _ e => by omega)) (by omega), own_base (own_keep (own_keep ho31 hq32 (fun k hk _ _ e => by omega)) hq33 (fun k hk _ _ e => by omega)) (by omega), ⟨[], rfl, World.ownsRow_nil _ _ _ _, by simp⟩, World.ownsRow_nil _ _ _ _, World.ownsRow_nil _ _ _ _⟩
  -- the images
  simp only [RS0, RS1, RS2, RS3, RS4, RS5, g33.cp]
  refine g33.numk (by omega) ?_
  intro w34 g34 hq34
  have ini := rn_in 4 mo.2
  generalize rn 4 mo.2 = ni at g34 hout ini ⊢
  have hrow34 := hrow.keep hq34 (fun y e => by omega)
  obtain ⟨N, hN⟩ := Int.eq_ofNat_of_zero_le ini.1
  rw [hN, Int.toNat_natCast] at hout
  rw [hN]
  have hN4 : N ≤ 4 := by have := ini.2.1; omega
  refine ⟨fun vl w' => ∃ (i : Nat) (L : List (Int × Pg)) (st : St2) (vi : Value), vl = [iv i] ∧ i ≤ N ∧ L.length = i ∧ HS w w' x2 rb r4 x5 st ⟨a0.1, a1.1, a2.1, a3.1, a4.1, a5.1, a6.1, a7.1, a8.1, a9.1, at_.1, sl.1, mo.1, L, [], []⟩ vs vm vi nl nl ∧ Rows w' (x5 + 1) ⟨a0.1, a1.1, a2.1, a3.1, a4.1, a5.1, a6.1, a7.1, a8.1, a9.1, at_.1, sl.1, mo.1, L, [], []⟩ vs vm vi nl nl ∧ riGo N ni.2 = (riGo (N - i) st).map fun q => (L ++ q.1, q.2), fun vl _ => (N - nth vl 0).toNat, ⟨0, [], ni.2, nl, rfl, by omega, rfl, g34, hrow34, by rw [Nat.sub_zero]; simp⟩, ?_⟩
  rintro _ w35 iv35 ⟨i, L, st, vi, hvl, hi, hL, g35, hr35, heq⟩
  cases hvl
  by_cases hlt : i < N
  · have d1 : decide ((i : Int) < (N : Int)) = true := by rw [decide_eq_true_eq]; omega
    have ei : IntKind.i64.wrap ((i : Int) + 1) = ((i + 1 : Nat) : Int) := by rw [wrap_id] <;> omega
    obtain ⟨m, hm⟩ : ∃ m, N - i = m + 1 := ⟨N - i - 1, by omega⟩
    have hm1 : N - (i + 1) = m := by omega
    rw [hm, riGo] at heq
    have hd35 := Fm.drew (fun _ => False) w35
    have g36 := g35.keepG hd35 (fun _ e => e.elim)
    have hr36 := hr35.keep hd35 (fun _ e => e.elim)
    simp only [RS0, RS1, RS2, RS3, RS4, RS5, d1]
    refine ⟨fun w' => w'.heap[r4]? = some (.cells #[pv rb] 181), g36.rp, pv rb, fun w9 h9 => ?_, ?_⟩
    · have : w9.cell? ⟨r4, 0, none⟩ = some (pv rb) := by rw [cell_at h9]; rfl
      simp only [RS0, RS1, RS2, RS3, RS4, RS5, this]; trivial
    generalize w35.drew = w36 at hd35 g36 hr36
    refine g36.num ?_
    intro w37 g37 hq37
    have hr37 := hr36.keep hq37 (fun y e => by omega)
    refine ⟨g37.rp, ?_⟩
    refine g37.text ?_
    intro w38 g38 hq38
    have hr38 := hr37.keep hq38 (fun y e => by omega)
    have ip := rn_in 4611686018427387904 st
    generalize rn 4611686018427387904 st = pa at g37 g38 heq ip ⊢
    have itt := rt_in (most := 512) (by omega) pa.2
    generalize rt 512 pa.2 = tt at g38 heq itt ⊢
    have e5 : IntKind.i64.wrap (512 - (tt.1.length : Int)) = ((512 - tt.1.length : Nat) : Int) := by rw [wrap_id] <;> omega
    have hmk : ByteArray.mk #[0] = str [0] := rfl
    simp only [RS0, RS1, RS2, RS3, RS4, RS5, str_size, e5, hmk]
    refine (repeat_spec w38 (512 - tt.1.length) (by omega)).mono ?_
    rintro _ w39 ⟨rfl, hq39⟩
    have g39 := g38.keepG hq39 (fun _ e => e.elim)
    have hr39 := hr38.keep hq39 (fun _ e => e.elim)
    rw [sadd (by rw [zeros_len]; omega)]
    try simp only [RS0, RS1, RS2, RS3, RS4, RS5]
    have hpad : tt.1 ++ zeros (512 - tt.1.length) = padZ tt.1 := rfl
    have hpl : (padZ tt.1).length = 512 := by unfold padZ; rw [List.length_append, zeros_len]; omega
    rw [hpad]
    refine (decode_spec w39 (padZ tt.1) (by omega)).mono ?_
    rintro _ w40 ⟨pc, rfl, hO40, hq40⟩
    have g40 := g39.keepG hq40 (fun _ e => e.elim)
    have hr40 := hr39.keep hq40 (fun _ e => e.elim)
    have hA40 := hO40.as
    have hz40 := hq40.size
    have hx39 := g39.x.lt
    simp only [RS0, RS1, RS2, RS3, RS4, RS5]
    refine New_any ?_
    intro x9 w41 hx9 hs41 hw41 hf41
    refine St_all hw41 rfl hA40.size hA40.one ?_
    intro w42 hw42 hs42 hf42
    have hf4042 : Fm (fun _ => False) w40 w42 := Fm.own hf41 hf42 (by rintro y rfl; omega)
    have g42 := g40.keepG hf4042 (fun _ e => e.elim)
    have hr42 := hr40.keep hf4042 (fun _ e => e.elim)
    have hO42 := hO40.keep hf4042
    -- out of the images
    have bad : (decide ((pDec (padZ tt.1)).2 = 0) && decide (tt.2.2 = 0)) = false → outerP s = none := fun hb => by
      rw [hout, heq, hb]; rfl
    have early : ∀ w', HS w w' x2 rb r4 x5 tt.2 ⟨a0.1, a1.1, a2.1, a3.1, a4.1, a5.1, a6.1, a7.1, a8.1, a9.1, at_.1, sl.1, mo.1, L, [], []⟩ vs vm vi nl nl → Rows w' (x5 + 1) ⟨a0.1, a1.1, a2.1, a3.1, a4.1, a5.1, a6.1, a7.1, a8.1, a9.1, at_.1, sl.1, mo.1, L, [], []⟩ vs vm vi nl nl → outerP s = none → Pu (cellsV w' ⟨x5, 0, none⟩ 16) (fun t79_166 =>
        St 16 w' (.pointer (some ⟨x2, 0, none⟩)) t79_166 fun u_168 w_169 =>
        RetO (resL Tryz.prog (fun j => bif Nat.beq j 2 then .pointer (some ⟨x2, 0, none⟩) else bif Nat.beq j 3 then (Value.bool false) else undef) w_169 [(ResultVar.cell 2 28), (ResultVar.tmp 3)]) w_169 (fun v w' => ∃ cs ok, v = .tuple #[.agg cs, .bool ok] ∧ cs.size = 16 ∧ (∀ u ∈ cs.toList, u.oneCell' = true) ∧ (ok = false → outerP s = none) ∧ (ok = true → ∃ x vs vm vi vp vt, outerP s = some x ∧ cs = rcs x vs vm vi vp vt ∧ Rows w' w.heap.size x vs vm vi vp vt) ∧ Fm (fun _ => False) w w')) := by
      intro w' gg rr hno
      simp only [RS0, RS1, RS2, RS3, RS4, RS5, gg.x.all]
      refine gg.ret rr.one false ?_
      intro w'' hf''
      have := gg.o1
      exact ⟨_, _, rfl, rfl, rr.one, fun _ => hno, fun e => (by cases e), Fm.own gg.fm hf'' (by rintro y rfl; omega)⟩
    simp only [RS0, RS1, RS2, RS3, RS4, RS5, bne_dec]
    cases hz1 : decide ((pDec (padZ tt.1)).2 = 0) with
    | false =>
      simp only [RS0, RS1, RS2, RS3, RS4, RS5]
      have := early w42 g42 hr42 (bad (by rw [hz1, Bool.false_and]))
      exact this
    | true =>
    simp only [RS0, RS1, RS2, RS3, RS4, RS5, g42.cp]
    refine (berr_spec g42.rd).mono ?_
    rintro _ w43 ⟨rfl, rfl⟩
    simp only [RS0, RS1, RS2, RS3, RS4, RS5, bne_dec]
    cases hz2 : decide (tt.2.2 = 0) with
    | false =>
      simp only [RS0, RS1, RS2, RS3, RS4, RS5]
      have := early w43 g42 hr42 (bad (by rw [hz2, Bool.and_false]))
      exact this
    | true =>
    rw [hz1, hz2] at heq
    obtain ⟨pv_, rfl, hov⟩ := hO42.ex
    have hps : ∃ a n c, pv_ = .slice a n c := by
      rcases hov.2 with ⟨rfl, _⟩ | ⟨g, cap, cur, rfl, _⟩ <;> exact ⟨_, _, _, rfl⟩
    obtain ⟨pa1, pn1, pc1, rfl⟩ := hps
    simp only [RS0, RS1, RS2, RS3, RS4, RS5, g42.x.c13, cellsV_blk hw42 hA40.size]
    refine RunS_ok (bld90 _ _ _ _ _ _) ?_
    refine RunS_ok (bs48 _ _ _ _ _ _) ?_
    have hf44 := Fm.alloc (fun _ => False) w43 (.cells (imC (pa.1, (pDec (padZ tt.1)).1, .slice pa1 pn1 pc1)).toArray 118)
    have hn44 := alloc_new w43 (.cells (imC (pa.1, (pDec (padZ tt.1)).1, .slice pa1 pn1 pc1)).toArray 118)
    have g44 := g42.keepG hf44 (fun _ e => e.elim)
    have hr44 := hr42.keep hf44 (fun _ e => e.elim)
    have hO44 := own_keep hov hf44 (fun _ _ _ _ e => e)
    have hz44 := hf44.size
    generalize w43.alloc (.cells (imC (pa.1, (pDec (padZ tt.1)).1, .slice pa1 pn1 pc1)).toArray 118) = w44 at hf44 hn44 g44 hr44 hO44 hz44
    have hx44 := g44.x.lt
    obtain ⟨X, hX1, hX2, hX3⟩ := hr44.hi
    have hXl : X.length = i := by have := congrArg List.length hX1; rw [List.length_map] at this; rw [this]; exact hL
    obtain ⟨vi', w45, hr45, ho45, _, hf45⟩ := app_fine Er48 (by omega) hX2 (cs := imC (pa.1, (pDec (padZ tt.1)).1, .slice pa1 pn1 pc1)) hn44 rfl (by intro q hq; simp [imC, pcs] at hq; rcases hq with rfl | rfl | rfl | rfl | rfl | rfl | rfl <;> rfl) (by omega) (by unfold maxLen; omega) (by omega)
    refine RunS_ok hr45 ?_
    have hlt45 := own_lt hX2
    have g45 := g44.keepG hf45 (fun y hy => by have := hlt45 y hy; omega)
    try simp only [RS0, RS1, RS2, RS3, RS4, RS5]
    refine g45.put (j := 13) (r' := ⟨a0.1, a1.1, a2.1, a3.1, a4.1, a5.1, a6.1, a7.1, a8.1, a9.1, at_.1, sl.1, mo.1, (L ++ [(pa.1, (pDec (padZ tt.1)).1)]), [], []⟩) (vs' := vs) (vm' := vm) (vi' := vi') (vp' := nl) (vt' := nl) (by omega) (own_one ho45) rfl ?_
    intro w46 g46 hq46
    simp only [RS0, RS1, RS2, RS3, RS4, RS5, ei]
    refine ⟨⟨i + 1, L ++ [(pa.1, (pDec (padZ tt.1)).1)], tt.2, vi', rfl, by omega, by rw [List.length_append, hL]; rfl, g46, ?_, ?_⟩, by simp only [nth_0]; omega⟩
    · have q46 : ∀ k, x5 + 1 ≤ k → ¬ k = x5 := fun k hk e => by omega
      have a3 := fun k hk => own_apart hX2 hr44.hs (by decide) k hk
      refine ⟨own_keep (own_keep hr44.hs hf45 (fun k _ _ hk e => own_apart hX2 hr44.hs (by decide) k e hk)) hq46 (fun k hk _ _ => q46 k hk), own_keep (own_keep hr44.hm hf45 (fun k _ _ hk e => own_apart hX2 hr44.hm (by decide) k e hk)) hq46 (fun k hk _ _ => q46 k hk), ⟨X ++ [(pa.1, (pDec (padZ tt.1)).1, .slice pa1 pn1 pc1)], ?_, ?_, ?_⟩, World.ownsRow_nil _ _ _ _, World.ownsRow_nil _ _ _ _⟩
      · rw [List.map_append, hX1]; rfl
      · rw [List.length_append, List.flatMap_append, List.flatMap_cons, List.flatMap_nil, List.append_nil]
        exact own_keep ho45 hq46 (fun k hk _ _ => q46 k hk)
      · intro x hx
        rcases List.mem_append.1 hx with hx | hx
        · obtain ⟨q1, q2, q3⟩ := hX3 x hx
          have q4 := own_keep (own_keep q2 hf45 (fun k _ _ hk e => own_apart hX2 q2 (by decide) k e hk)) hq46 (fun k hk _ _ => q46 k hk)
          exact ⟨q1, q4, pgas_own q4 q3⟩
        · obtain rfl : x = (pa.1, (pDec (padZ tt.1)).1, .slice pa1 pn1 pc1) := by simpa using hx
          have q2 := own_base hO44 (show x5 + 1 ≤ w39.heap.size by omega)
          have q4 := own_keep (own_keep q2 hf45 (fun k _ _ hk e => own_apart hX2 q2 (by decide) k e hk)) hq46 (fun k hk _ _ => q46 k hk)
          exact ⟨rfl, q4, pgas_own q4 hO42.as⟩
    · rw [heq, hm1]
      cases riGo m tt.2 with
      | none => rfl
      | some q => simp
  · have hie : i = N := by omega
    subst hie
    have d1 : decide ((i : Int) < (i : Int)) = false := by simp
    rw [Nat.sub_self, riGo] at heq
    simp only [Option.map_some, List.append_nil] at heq
    rw [heq, Option.bind_some] at hout
    unfold tailG at hout
    simp only at hout
    -- pairs
    simp only [RS0, RS1, RS2, RS3, RS4, RS5, d1, g35.cp]
    refine g35.numk (by omega) ?_
    intro w60 g60 hq60
    have in60 := rn_in 8192 st
    generalize rn 8192 st = n60 at g60 hout in60 ⊢
    have hr60 := hr35.keep hq60 (fun y e => by omega)
    obtain ⟨N60, hN60⟩ := Int.eq_ofNat_of_zero_le in60.1
    rw [hN60, Int.toNat_natCast] at hout
    rw [hN60]
    have hNl60 : N60 ≤ 8192 := by have := in60.2.1; omega
    refine ⟨fun vl w' => ∃ (i : Nat) (P : List (Int × Int)) (st : St2) (vx : Value), vl = [iv i] ∧ i ≤ N60 ∧ P.length = i ∧ HS w w' x2 rb r4 x5 st ⟨a0.1, a1.1, a2.1, a3.1, a4.1, a5.1, a6.1, a7.1, a8.1, a9.1, at_.1, sl.1, mo.1, L, P, []⟩ vs vm vi vx nl ∧ Rows w' (x5 + 1) ⟨a0.1, a1.1, a2.1, a3.1, a4.1, a5.1, a6.1, a7.1, a8.1, a9.1, at_.1, sl.1, mo.1, L, P, []⟩ vs vm vi vx nl ∧ rpGo N60 n60.2 = (rpGo (N60 - i) st).map fun q => (P ++ q.1, q.2), fun vl _ => (N60 - nth vl 0).toNat, ⟨0, [], n60.2, nl, rfl, by omega, rfl, g60, hr60, by rw [Nat.sub_zero]; simp⟩, ?_⟩
    rintro _ w61 iv61 ⟨j, PG1, st61, vx61, hvl, hj, hP, g61, hr61, heq61⟩
    cases hvl
    by_cases hlt : j < N60
    · have d2 : decide ((j : Int) < (N60 : Int)) = true := by rw [decide_eq_true_eq]; omega
      have ei : IntKind.i64.wrap ((j : Int) + 1) = ((j + 1 : Nat) : Int) := by rw [wrap_id] <;> omega
      obtain ⟨m, hm⟩ : ∃ m, N60 - j = m + 1 := ⟨N60 - j - 1, by omega⟩
      have hm1 : N60 - (j + 1) = m := by omega
      rw [hm, rpGo] at heq61
      simp only [RS0, RS1, RS2, RS3, RS4, RS5, d2, g61.cp]
      refine (berr_spec g61.rd).mono ?_
      rintro _ w50 ⟨rfl, rfl⟩
      simp only [RS0, RS1, RS2, RS3, RS4, RS5, bne_dec]
      cases hz3 : decide (st61.2 = 0) with
      | false =>
        rw [hz3, cond_false] at heq61
        have hno : outerP s = none := by rw [hout, heq61]; rfl
        simp only [RS0, RS1, RS2, RS3, RS4, RS5, g61.x.all]
        refine g61.ret hr61.one false ?_
        intro w'' hf''
        have := g61.o1
        exact ⟨_, _, rfl, rfl, hr61.one, fun _ => hno, fun e => (by cases e), Fm.own g61.fm hf'' (by rintro y rfl; omega)⟩
      | true =>
      rw [hz3, cond_true] at heq61
      have hd50 := Fm.drew (fun _ => False) w50
      have g51 := g61.keepG hd50 (fun _ e => e.elim)
      have hr51 := hr61.keep hd50 (fun _ e => e.elim)
      simp only [RS0, RS1, RS2, RS3, RS4, RS5]
      refine ⟨fun w' => w'.cell? ⟨x5, 14, none⟩ = some vx61, g51.x.c14, ?_⟩
      try simp only [RS0, RS1, RS2, RS3, RS4, RS5]
      refine ⟨vx61, fun w9 h9 => ?_, ?_⟩
      · simp only [RS0, RS1, RS2, RS3, RS4, RS5, h9]; trivial
      generalize w50.drew = w51 at hd50 g51 hr51
      refine g51.num ?_
      intro w52 g52 hq52
      have hr52 := hr51.keep hq52 (fun y e => by omega)
      refine ⟨g52.x.c14, ?_⟩
      refine g52.num ?_
      intro w53 g53 hq53
      have hr53 := hr52.keep hq53 (fun y e => by omega)
      refine ⟨g53.x.c14, ?_⟩
      generalize rn 4611686018427387904 st61 = pa at g52 g53 heq61 ⊢
      generalize rn 4611686018427387904 pa.2 = pb at g53 heq61 ⊢
      refine RunS_ok (bld96 _ _ _) ⟨rfl, ?_⟩
      refine RunS_ok (bs49 _ _ _) ?_
      have hf54 := Fm.alloc (fun _ => False) w53 (.cells (pc2 (pa.1, pb.1)).toArray 120)
      have hn54 := alloc_new w53 (.cells (pc2 (pa.1, pb.1)).toArray 120)
      have g54 := g53.keepG hf54 (fun _ e => e.elim)
      have hr54 := hr53.keep hf54 (fun _ e => e.elim)
      generalize w53.alloc (.cells (pc2 (pa.1, pb.1)).toArray 120) = w54 at hf54 hn54 g54 hr54
      refine ⟨g54.x.c14, ?_⟩
      have hx54 := g54.x.lt
      have hh54 : w54.ownsRow (x5 + 1) 120 2 vx61 PG1.length (PG1.flatMap pc2) := hr54.hp
      obtain ⟨vx', w55, hr55, ho55, _, hf55⟩ := app_fine Er49 (by omega) hh54 (cs := pc2 (pa.1, pb.1)) hn54 rfl (by intro q hq; simp [pc2] at hq; rcases hq with rfl | rfl <;> rfl) (by omega) (by unfold maxLen; omega) (by omega)
      refine RunS_ok hr55 ?_
      have hlt55 := own_lt hr54.hp
      have g55 := g54.keepG hf55 (fun y hy => by have := hlt55 y hy; omega)
      try simp only [RS0, RS1, RS2, RS3, RS4, RS5]
      refine g55.put (j := 14) (r' := ⟨a0.1, a1.1, a2.1, a3.1, a4.1, a5.1, a6.1, a7.1, a8.1, a9.1, at_.1, sl.1, mo.1, L, (PG1 ++ [(pa.1, pb.1)]), []⟩) (vs' := vs) (vm' := vm) (vi' := vi) (vp' := vx') (vt' := nl) (by omega) (own_one ho55) rfl ?_
      intro w56 g56 hq56
      simp only [RS0, RS1, RS2, RS3, RS4, RS5, ei]
      refine ⟨⟨j + 1, PG1 ++ [(pa.1, pb.1)], pb.2, vx', rfl, by omega, by rw [List.length_append, hP]; rfl, g56, ?_, ?_⟩, by simp only [nth_0]; omega⟩
      · have q56 : ∀ k, x5 + 1 ≤ k → ¬ k = x5 := fun k hk e => by omega
        have hrow56 := ho55
        have kk : ∀ {b1 : Nat} {e1 : TypeId} {s1 : Nat} {v1 : Value} {n1 : Nat} {y1 : List Value}, w54.ownsRow (x5 + 1) e1 s1 v1 n1 y1 → 120 ≠ e1 → w56.ownsRow (x5 + 1) e1 s1 v1 n1 y1 := fun hh he => own_keep (own_keep hh hf55 (fun k _ _ hk e => own_apart hr54.hp hh he k e hk)) hq56 (fun k hk _ _ => q56 k hk)
        obtain ⟨X, hX1, hX2, hX3⟩ := hr54.hi
        refine ⟨kk (b1 := 0) hr54.hs (by decide), kk (b1 := 0) hr54.hm (by decide), ⟨X, hX1, kk (b1 := 0) hX2 (by decide), fun x hx => ?_⟩, by
          show w56.ownsRow _ _ _ _ (PG1 ++ [(pa.1, pb.1)]).length _
          rw [List.length_append, List.flatMap_append, List.flatMap_cons, List.flatMap_nil, List.append_nil]
          exact own_keep ho55 hq56 (fun k hk _ _ => q56 k hk), World.ownsRow_nil _ _ _ _⟩
        obtain ⟨q1, q2, q3⟩ := hX3 x hx
        have q4 := kk (b1 := 0) q2 (by decide)
        exact ⟨q1, q4, pgas_own q4 q3⟩
      · rw [heq61, hm1]
        cases rpGo m pb.2 with
        | none => rfl
        | some q => simp
    have hje : j = N60 := by omega
    subst hje
    have d61 : decide ((j : Int) < (j : Int)) = false := by simp
    rw [Nat.sub_self, rpGo] at heq61
    simp only [Option.map_some, List.append_nil] at heq61
    rw [heq61, Option.bind_some] at hout
    unfold tailH at hout
    simp only at hout
    -- pairs
    simp only [RS0, RS1, RS2, RS3, RS4, RS5, d61, g61.cp]
    refine g61.numk (by omega) ?_
    intro w70 g70 hq70
    have in70 := rn_in 1024 st61
    generalize rn 1024 st61 = n70 at g70 hout in70 ⊢
    have hr70 := hr61.keep hq70 (fun y e => by omega)
    obtain ⟨N70, hN70⟩ := Int.eq_ofNat_of_zero_le in70.1
    rw [hN70, Int.toNat_natCast] at hout
    rw [hN70]
    have hNl70 : N70 ≤ 1024 := by have := in70.2.1; omega
    refine ⟨fun vl w' => ∃ (i : Nat) (P : List (Int × Int)) (st : St2) (vx : Value), vl = [iv i] ∧ i ≤ N70 ∧ P.length = i ∧ HS w w' x2 rb r4 x5 st ⟨a0.1, a1.1, a2.1, a3.1, a4.1, a5.1, a6.1, a7.1, a8.1, a9.1, at_.1, sl.1, mo.1, L, PG1, P⟩ vs vm vi vx61 vx ∧ Rows w' (x5 + 1) ⟨a0.1, a1.1, a2.1, a3.1, a4.1, a5.1, a6.1, a7.1, a8.1, a9.1, at_.1, sl.1, mo.1, L, PG1, P⟩ vs vm vi vx61 vx ∧ rpGo N70 n70.2 = (rpGo (N70 - i) st).map fun q => (P ++ q.1, q.2), fun vl _ => (N70 - nth vl 0).toNat, ⟨0, [], n70.2, nl, rfl, by omega, rfl, g70, hr70, by rw [Nat.sub_zero]; simp⟩, ?_⟩
    rintro _ w71 iv71 ⟨j, TX1, st71, vx71, hvl, hj, hP, g71, hr71, heq71⟩
    cases hvl
    by_cases hlt : j < N70
    · have d2 : decide ((j : Int) < (N70 : Int)) = true := by rw [decide_eq_true_eq]; omega
      have ei : IntKind.i64.wrap ((j : Int) + 1) = ((j + 1 : Nat) : Int) := by rw [wrap_id] <;> omega
      obtain ⟨m, hm⟩ : ∃ m, N70 - j = m + 1 := ⟨N70 - j - 1, by omega⟩
      have hm1 : N70 - (j + 1) = m := by omega
      rw [hm, rpGo] at heq71
      simp only [RS0, RS1, RS2, RS3, RS4, RS5, d2, g71.cp]
      refine (berr_spec g71.rd).mono ?_
      rintro _ w50 ⟨rfl, rfl⟩
      simp only [RS0, RS1, RS2, RS3, RS4, RS5, bne_dec]
      cases hz3 : decide (st71.2 = 0) with
      | false =>
        rw [hz3, cond_false] at heq71
        have hno : outerP s = none := by rw [hout, heq71]; rfl
        simp only [RS0, RS1, RS2, RS3, RS4, RS5, g71.x.all]
        refine g71.ret hr71.one false ?_
        intro w'' hf''
        have := g71.o1
        exact ⟨_, _, rfl, rfl, hr71.one, fun _ => hno, fun e => (by cases e), Fm.own g71.fm hf'' (by rintro y rfl; omega)⟩
      | true =>
      rw [hz3, cond_true] at heq71
      have hd50 := Fm.drew (fun _ => False) w50
      have g51 := g71.keepG hd50 (fun _ e => e.elim)
      have hr51 := hr71.keep hd50 (fun _ e => e.elim)
      simp only [RS0, RS1, RS2, RS3, RS4, RS5]
      refine ⟨fun w' => w'.cell? ⟨x5, 15, none⟩ = some vx71, g51.x.c15, ?_⟩
      try simp only [RS0, RS1, RS2, RS3, RS4, RS5]
      refine ⟨vx71, fun w9 h9 => ?_, ?_⟩
      · simp only [RS0, RS1, RS2, RS3, RS4, RS5, h9]; trivial
      generalize w50.drew = w51 at hd50 g51 hr51
      refine g51.num ?_
      intro w52 g52 hq52
      have hr52 := hr51.keep hq52 (fun y e => by omega)
      refine ⟨g52.x.c15, ?_⟩
      refine g52.num ?_
      intro w53 g53 hq53
      have hr53 := hr52.keep hq53 (fun y e => by omega)
      refine ⟨g53.x.c15, ?_⟩
      generalize rn 4611686018427387904 st71 = pa at g52 g53 heq71 ⊢
      generalize rn 4611686018427387904 pa.2 = pb at g53 heq71 ⊢
      refine RunS_ok (bld99 _ _ _) ⟨rfl, ?_⟩
      refine RunS_ok (bs50 _ _ _) ?_
      have hf54 := Fm.alloc (fun _ => False) w53 (.cells (pc2 (pa.1, pb.1)).toArray 122)
      have hn54 := alloc_new w53 (.cells (pc2 (pa.1, pb.1)).toArray 122)
      have g54 := g53.keepG hf54 (fun _ e => e.elim)
      have hr54 := hr53.keep hf54 (fun _ e => e.elim)
      generalize w53.alloc (.cells (pc2 (pa.1, pb.1)).toArray 122) = w54 at hf54 hn54 g54 hr54
      refine ⟨g54.x.c15, ?_⟩
      have hx54 := g54.x.lt
      have hh54 : w54.ownsRow (x5 + 1) 122 2 vx71 TX1.length (TX1.flatMap pc2) := hr54.ht
      obtain ⟨vx', w55, hr55, ho55, _, hf55⟩ := app_fine Er50 (by omega) hh54 (cs := pc2 (pa.1, pb.1)) hn54 rfl (by intro q hq; simp [pc2] at hq; rcases hq with rfl | rfl <;> rfl) (by omega) (by unfold maxLen; omega) (by omega)
      refine RunS_ok hr55 ?_
      have hlt55 := own_lt hr54.ht
      have g55 := g54.keepG hf55 (fun y hy => by have := hlt55 y hy; omega)
      try simp only [RS0, RS1, RS2, RS3, RS4, RS5]
      refine g55.put (j := 15) (r' := ⟨a0.1, a1.1, a2.1, a3.1, a4.1, a5.1, a6.1, a7.1, a8.1, a9.1, at_.1, sl.1, mo.1, L, PG1, (TX1 ++ [(pa.1, pb.1)])⟩) (vs' := vs) (vm' := vm) (vi' := vi) (vp' := vx61) (vt' := vx') (by omega) (own_one ho55) rfl ?_
      intro w56 g56 hq56
      simp only [RS0, RS1, RS2, RS3, RS4, RS5, ei]
      refine ⟨⟨j + 1, TX1 ++ [(pa.1, pb.1)], pb.2, vx', rfl, by omega, by rw [List.length_append, hP]; rfl, g56, ?_, ?_⟩, by simp only [nth_0]; omega⟩
      · have q56 : ∀ k, x5 + 1 ≤ k → ¬ k = x5 := fun k hk e => by omega
        have hrow56 := ho55
        have kk : ∀ {b1 : Nat} {e1 : TypeId} {s1 : Nat} {v1 : Value} {n1 : Nat} {y1 : List Value}, w54.ownsRow (x5 + 1) e1 s1 v1 n1 y1 → 122 ≠ e1 → w56.ownsRow (x5 + 1) e1 s1 v1 n1 y1 := fun hh he => own_keep (own_keep hh hf55 (fun k _ _ hk e => own_apart hr54.ht hh he k e hk)) hq56 (fun k hk _ _ => q56 k hk)
        obtain ⟨X, hX1, hX2, hX3⟩ := hr54.hi
        refine ⟨kk (b1 := 0) hr54.hs (by decide), kk (b1 := 0) hr54.hm (by decide), ⟨X, hX1, kk (b1 := 0) hX2 (by decide), fun x hx => ?_⟩, kk (b1 := 0) hr54.hp (by decide), by
          show w56.ownsRow _ _ _ _ (TX1 ++ [(pa.1, pb.1)]).length _
          rw [List.length_append, List.flatMap_append, List.flatMap_cons, List.flatMap_nil, List.append_nil]
          exact own_keep ho55 hq56 (fun k hk _ _ => q56 k hk)⟩
        obtain ⟨q1, q2, q3⟩ := hX3 x hx
        have q4 := kk (b1 := 0) q2 (by decide)
        exact ⟨q1, q4, pgas_own q4 q3⟩
      · rw [heq71, hm1]
        cases rpGo m pb.2 with
        | none => rfl
        | some q => simp
    have hje : j = N70 := by omega
    subst hje
    have d71 : decide ((j : Int) < (j : Int)) = false := by simp
    rw [Nat.sub_self, rpGo] at heq71
    simp only [Option.map_some, List.append_nil] at heq71
    rw [heq71, Option.bind_some] at hout
    unfold tailI at hout
    simp only at hout
    have hd71 := Fm.drew (fun _ => False) w71
    have g72 := g71.keepG hd71 (fun _ e => e.elim)
    have hr72 := hr71.keep hd71 (fun _ e => e.elim)
    simp only [RS0, RS1, RS2, RS3, RS4, RS5, d71]
    refine ⟨fun w' => RB w' x5 ⟨a0.1, a1.1, a2.1, a3.1, a4.1, a5.1, a6.1, a7.1, a8.1, a9.1, at_.1, sl.1, mo.1, L, PG1, TX1⟩ vs vm vi vx61 vx71, g72.x, .agg (rcs ⟨a0.1, a1.1, a2.1, a3.1, a4.1, a5.1, a6.1, a7.1, a8.1, a9.1, at_.1, sl.1, mo.1, L, PG1, TX1⟩ vs vm vi vx61 vx71), fun w9 h9 => ?_, ?_⟩
    · simp only [RS0, RS1, RS2, RS3, RS4, RS5, h9.all]; trivial
    simp only [RS0, RS1, RS2, RS3, RS4, RS5, g71.cp, g72.cp, true_and]
    generalize w71.drew = w72 at hd71 g72 hr72
    refine (bend_spec g72.rd).mono ?_
    rintro _ w73 ⟨rfl, rfl⟩
    refine ⟨g72.x, ?_⟩
    simp only [RS0, RS1, RS2, RS3, RS4, RS5, beq_dec]
    refine g72.ret hr72.one _ ?_
    intro w74 hf74
    have ho1 := g72.o1
    have ho2 := g72.o2
    have ho3 := g72.o3
    refine ⟨_, _, rfl, rfl, hr72.one, fun e => ?_, fun e => ?_, Fm.own g72.fm hf74 (by rintro y rfl; omega)⟩
    · rw [hout, e]; rfl
    · rw [e, cond_true] at hout
      have hr74 := hr72.keep hf74 (fun y e => by omega)
      have b74 : ∀ {e1 : TypeId} {s1 : Nat} {v1 : Value} {n1 : Nat} {y1 : List Value}, w74.ownsRow (x5 + 1) e1 s1 v1 n1 y1 → w74.ownsRow w.heap.size e1 s1 v1 n1 y1 := fun hh => own_base hh (by have := g72.o4; omega)
      obtain ⟨X, hX1, hX2, hX3⟩ := hr74.hi
      exact ⟨_, _, _, _, _, _, hout, rfl, b74 hr74.hs, b74 hr74.hm, ⟨X, hX1, b74 hX2, fun x hx => ⟨(hX3 x hx).1, b74 (hX3 x hx).2.1, (hX3 x hx).2.2⟩⟩, b74 hr74.hp, b74 hr74.ht⟩

end Go.Proofs.YthbngnlmgplijaaGreatDoor
