/- Records in the heap; what lays them. -/
import Derived.Test.YthbngnlmgplijaaGreatDoorRcPure
namespace Go.Proofs.YthbngnlmgplijaaGreatDoor
open Go.Al Go.Proofs
set_option linter.unusedVariables false
set_option linter.unusedSimpArgs false
set_option linter.unusedSectionVars false
set_option maxRecDepth 100000

theorem E47 : ElemT Tryz.prog 23 3 1 8 := elemT_of Tryz.underlying23 (by kernel_rfl)
/-- Cells, one behind the other, as one value. -/
theorem cellsV_of {w : World} {ad : Addr} {l : List Value} {n : Nat} (hl : l.length = n) (h : ∀ j, j < n → w.cell? (ad.add j) = l[j]?) : cellsV w ad n = some (.agg l.toArray) := by
  have key : ∀ (m j : Nat), j + m ≤ n → cellsAt w ad j m = some ((l.drop j).take m) := by
    intro m
    induction m with
    | zero => intro j hj; simp [cellsAt]
    | succ m ih =>
      intro j hj
      have hlt : j < l.length := by omega
      have hcell := h j (by omega)
      rw [List.getElem?_eq_getElem hlt] at hcell
      simp only [cellsAt, hcell, ih (j + 1) (by omega), Option.map_some]
      rw [List.drop_eq_getElem_cons hlt, List.take_succ_cons]
  unfold cellsV
  rw [key n 0 (by omega)]
  simp only [List.drop_zero, Option.map_some]
  rw [List.take_of_length_le (by omega)]
theorem flat_get {α : Type} {f : α → List Value} {n : Nat} (hf : ∀ x, (f x).length = n) {L : List α} {i : Nat} {x : α} (h : L[i]? = some x) {j : Nat} (hj : j < n) : (L.flatMap f)[i * n + j]? = (f x)[j]? := by
  induction L generalizing i with
  | nil => simp at h
  | cons y L ih =>
    rw [List.flatMap_cons]
    cases i with
    | zero =>
      simp at h; subst h
      rw [Nat.zero_mul, Nat.zero_add, List.getElem?_append_left (by rw [hf]; exact hj)]
    | succ i =>
      rw [List.getElem?_append_right (by rw [hf, Nat.succ_mul]; omega), hf, Nat.succ_mul]
      rw [show i * n + n + j - n = i * n + j by omega]
      exact ih (by simpa using h)
theorem flat_len {α : Type} {f : α → List Value} {n : Nat} (hf : ∀ x, (f x).length = n) (L : List α) : (L.flatMap f).length = L.length * n := by
  induction L with
  | nil => simp
  | cons y L ih => rw [List.flatMap_cons, List.length_append, hf, ih, List.length_cons, Nat.succ_mul]; omega
theorem cells_ld {α : Type} {f : α → List Value} {n : Nat} (hf : ∀ x, (f x).length = n) (hn : 0 < n) {w : World} {v : Value} {L : List α} (h : CellsAt w v L.length n (L.flatMap f)) {i : Nat} {x : α} (hx : L[i]? = some x) :
    ∃ ad, ixV n v (iv i) = some (.pointer (some ad)) ∧ cellsV w ad n = some (.agg (f x).toArray) ∧ blockOf v = some ad.block := by
  obtain ⟨ad, h1, h2, h3⟩ := h.at hn (List.getElem?_eq_some_iff.1 hx).1 .i64
  exact ⟨ad, h1, cellsV_of (hf x) (fun j hj => by rw [h3 j hj, flat_get hf hx hj]), h2⟩
theorem own_new {w : World} {e : TypeId} {sz base n : Nat} {l : List Value} (hl : l.length = n * sz) (hb : base ≤ w.heap.size) (hn : n ≤ maxLen) : (w.alloc (.cells l.toArray e)).ownsRow base e sz (.slice (some ⟨w.heap.size, 0, none⟩) n n) n l :=
  ⟨hl, .inr ⟨_, n, l.toArray, rfl, hb, alloc_new _ _, Nat.le_refl _, hn, by simp [hl], by simp [← hl]⟩⟩
theorem own_up {w : World} {base base' : Nat} {e : TypeId} {sz : Nat} {v : Value} {n : Nat} {xs : List Value} (h : w.ownsRow base e sz v n xs) (hb : ∀ k, v.ownBlock = some k → base' ≤ k) : w.ownsRow base' e sz v n xs := by
  refine ⟨h.1, ?_⟩
  rcases h.2 with h2 | ⟨g, cap, cur, rfl, hb', r⟩
  · exact .inl h2
  · exact .inr ⟨g, cap, cur, rfl, hb g rfl, r⟩

/-! ### A record -/
def pc2 (p : Int × Int) : List Value := [iv p.1, iv p.2]
theorem pc2_len (p : Int × Int) : (pc2 p).length = 2 := rfl
theorem pc2_prs (l : List (Int × Int)) : l.flatMap pc2 = (prs l).map iv := by
  induction l with
  | nil => rfl
  | cons p l ih => rw [List.flatMap_cons, ih]; rfl
def imC (x : Int × Pg × Value) : List Value := iv x.1 :: (pcs x.2.1 x.2.2).toList
theorem imC_len (x : Int × Pg × Value) : (imC x).length = 7 := rfl
def rcs (r : Rc) (vs vm vi vp vt : Value) : Array Value := #[iv r.lsn, iv r.prev, iv r.next, .int .u8 r.kind, iv r.xid, iv r.page, iv r.slot, iv r.old, iv r.new, iv r.redo, stv r.data, vs, vm, vi, vp, vt]
/-- A slice of images. -/
structure ImAs (w : World) (v : Value) (L : List (Int × Pg)) : Prop where
  ex : ∃ X : List (Int × Pg × Value), X.map (fun x => (x.1, x.2.1)) = L ∧ CellsAt w v X.length 7 (X.flatMap imC) ∧ ∀ x ∈ X, x.2.2.oneCell' = true ∧ PgAs w (pcs x.2.1 x.2.2) x.2.1
theorem ImAs.keep {w w' : World} {v : Value} {L : List (Int × Pg)} (h : ImAs w v L) (hf : Fm (fun _ => False) w w') : ImAs w' v L := by
  obtain ⟨X, h1, h2, h3⟩ := h.ex
  exact ⟨X, h1, h2.keep hf (fun _ _ e => e), fun x hx => ⟨(h3 x hx).1, (h3 x hx).2.keep hf⟩⟩
theorem ImAs.lenV {w : World} {v : Value} {L : List (Int × Pg)} (h : ImAs w v L) : lenV v = some (iv L.length) := by
  obtain ⟨X, h1, h2, h3⟩ := h.ex
  rw [← h1, List.length_map]; exact h2.lenV
theorem ImAs.ld {w : World} {v : Value} {L : List (Int × Pg)} (h : ImAs w v L) {i : Nat} {m : Int × Pg} (hi : L[i]? = some m) : ∃ ad u, ixV 7 v (iv i) = some (.pointer (some ad)) ∧ cellsV w ad 7 = some (.agg (imC (m.1, m.2, u)).toArray) ∧ u.oneCell' = true ∧ PgAs w (pcs m.2 u) m.2 := by
  obtain ⟨X, h1, h2, h3⟩ := h.ex
  rw [← h1, List.getElem?_map, Option.map_eq_some_iff] at hi
  obtain ⟨x, hx, rfl⟩ := hi
  obtain ⟨ad, q1, q2, _⟩ := cells_ld imC_len (by omega) h2 hx
  obtain ⟨q3, q4⟩ := h3 x (List.mem_of_getElem? hx)
  exact ⟨ad, x.2.2, q1, q2, q3, q4⟩
structure RcAs (w : World) (cs : Array Value) (r : Rc) : Prop where
  ex : ∃ vs vm vi vp vt, cs = rcs r vs vm vi vp vt ∧ (vs.oneCell' = true ∧ vm.oneCell' = true ∧ vi.oneCell' = true ∧ vp.oneCell' = true ∧ vt.oneCell' = true) ∧ CellsAt w vs r.slots.length 1 (r.slots.map iv) ∧ CellsAt w vm r.more.length 1 (r.more.map iv) ∧ ImAs w vi r.imgs ∧
    CellsAt w vp r.pages.length 2 (r.pages.flatMap pc2) ∧ CellsAt w vt r.txns.length 2 (r.txns.flatMap pc2)
  ins : ∀ n ∈ rNums r, In n
  kin : 0 ≤ r.kind ∧ r.kind ≤ 255
  data : r.data.length ≤ 140737488355328
  bulk : r.slots.length + r.more.length + r.imgs.length + r.pages.length + r.txns.length ≤ 2000000
  lsns : ∀ m ∈ r.imgs, m.2.lsn ≤ 9223372036854775807
theorem RcAs.keep {w w' : World} {cs : Array Value} {r : Rc} (h : RcAs w cs r) (hf : Fm (fun _ => False) w w') : RcAs w' cs r := by
  obtain ⟨vs, vm, vi, vp, vt, h1, h2, h3, h4, h5, h6, h7⟩ := h.ex
  exact ⟨⟨vs, vm, vi, vp, vt, h1, h2, h3.keep hf (fun _ _ e => e), h4.keep hf (fun _ _ e => e), h5.keep hf, h6.keep hf (fun _ _ e => e), h7.keep hf (fun _ _ e => e)⟩, h.ins, h.kin, h.data, h.bulk, h.lsns⟩
theorem RcAs.size {w : World} {cs : Array Value} {r : Rc} (h : RcAs w cs r) : cs.size = 16 := by obtain ⟨vs, vm, vi, vp, vt, rfl, _⟩ := h.ex; rfl
theorem RcAs.one {w : World} {cs : Array Value} {r : Rc} (h : RcAs w cs r) : ∀ u ∈ cs.toList, u.oneCell' = true := by
  obtain ⟨vs, vm, vi, vp, vt, rfl, ⟨h1, h2, h3, h4, h5⟩, _⟩ := h.ex
  intro u hu
  simp [rcs] at hu
  rcases hu with rfl | rfl | rfl | rfl | rfl | rfl | rfl | rfl | rfl | rfl | rfl | rfl | rfl | rfl | rfl | rfl <;> first | rfl | assumption
/-- A record's block. -/
structure RB (w : World) (g : Nat) (r : Rc) (vs vm vi vp vt : Value) : Prop where
  h : w.heap[g]? = some (.cells (rcs r vs vm vi vp vt) 28)
section
variable {S : Nat → Prop} {w w' : World} {g : Nat} {r : Rc} {vs vm vi vp vt : Value}
theorem RB.keep (h : RB w g r vs vm vi vp vt) (hf : Fm S w w') (hs : ¬ S g) : RB w' g r vs vm vi vp vt := ⟨hf.heap h.h hs⟩
theorem RB.c0 (h : RB w g r vs vm vi vp vt) : w.cell? ⟨g, 0, none⟩ = some (iv r.lsn) := by rw [cell_at h.h]; rfl
theorem RB.c1 (h : RB w g r vs vm vi vp vt) : w.cell? ⟨g, 1, none⟩ = some (iv r.prev) := by rw [cell_at h.h]; rfl
theorem RB.c2 (h : RB w g r vs vm vi vp vt) : w.cell? ⟨g, 2, none⟩ = some (iv r.next) := by rw [cell_at h.h]; rfl
theorem RB.c3 (h : RB w g r vs vm vi vp vt) : w.cell? ⟨g, 3, none⟩ = some (.int .u8 r.kind) := by rw [cell_at h.h]; rfl
theorem RB.c4 (h : RB w g r vs vm vi vp vt) : w.cell? ⟨g, 4, none⟩ = some (iv r.xid) := by rw [cell_at h.h]; rfl
theorem RB.c5 (h : RB w g r vs vm vi vp vt) : w.cell? ⟨g, 5, none⟩ = some (iv r.page) := by rw [cell_at h.h]; rfl
theorem RB.c6 (h : RB w g r vs vm vi vp vt) : w.cell? ⟨g, 6, none⟩ = some (iv r.slot) := by rw [cell_at h.h]; rfl
theorem RB.c7 (h : RB w g r vs vm vi vp vt) : w.cell? ⟨g, 7, none⟩ = some (iv r.old) := by rw [cell_at h.h]; rfl
theorem RB.c8 (h : RB w g r vs vm vi vp vt) : w.cell? ⟨g, 8, none⟩ = some (iv r.new) := by rw [cell_at h.h]; rfl
theorem RB.c9 (h : RB w g r vs vm vi vp vt) : w.cell? ⟨g, 9, none⟩ = some (iv r.redo) := by rw [cell_at h.h]; rfl
theorem RB.c10 (h : RB w g r vs vm vi vp vt) : w.cell? ⟨g, 10, none⟩ = some (stv r.data) := by rw [cell_at h.h]; rfl
theorem RB.c11 (h : RB w g r vs vm vi vp vt) : w.cell? ⟨g, 11, none⟩ = some vs := by rw [cell_at h.h]; rfl
theorem RB.c12 (h : RB w g r vs vm vi vp vt) : w.cell? ⟨g, 12, none⟩ = some vm := by rw [cell_at h.h]; rfl
theorem RB.c13 (h : RB w g r vs vm vi vp vt) : w.cell? ⟨g, 13, none⟩ = some vi := by rw [cell_at h.h]; rfl
theorem RB.c14 (h : RB w g r vs vm vi vp vt) : w.cell? ⟨g, 14, none⟩ = some vp := by rw [cell_at h.h]; rfl
theorem RB.c15 (h : RB w g r vs vm vi vp vt) : w.cell? ⟨g, 15, none⟩ = some vt := by rw [cell_at h.h]; rfl
theorem RB.all (h : RB w g r vs vm vi vp vt) : cellsV w ⟨g, 0, none⟩ 16 = some (.agg (rcs r vs vm vi vp vt)) := cellsV_blk h.h rfl
theorem RB.lt (h : RB w g r vs vm vi vp vt) : g < w.heap.size := lt_of_heap h.h
end

/-! ### A writer of the call's own -/
structure WS (w0 w : World) (r : Nat) (B : Bs) : Prop where
  ex : ∃ v, w.heap[r]? = some (.cells #[v] 243) ∧ w.ownsRow w0.heap.size 5 1 v B.length (bc B)
  fm : Fm (fun _ => False) w0 w
  ge : w0.heap.size ≤ r
theorem WS.wr {w0 w : World} {r : Nat} {B : Bs} (h : WS w0 w r B) : WrAt w r B ∧ ∀ y, wrM w r y → w0.heap.size ≤ y ∧ y < w.heap.size := by
  obtain ⟨v, hv, ho⟩ := h.ex
  refine ⟨⟨v, hv, own_base ho (Nat.zero_le _)⟩, ?_⟩
  rintro y (rfl | ⟨v', hv', hy⟩)
  · exact ⟨h.ge, lt_of_heap hv⟩
  · rw [hv] at hv'; cases hv'; exact own_lt ho y hy
theorem WS.of {w0 w w' : World} {r : Nat} {B B' : Bs} {S : Nat → Prop} (h : WS w0 w r B) (h' : WrAt w' r B') (hf : Fm S w w') (hS : ∀ y, S y → w0.heap.size ≤ y) (hM : ∀ y, wrM w' r y → wrM w r y ∨ w.heap.size ≤ y) : WS w0 w' r B' := by
  obtain ⟨v, hv, ho⟩ := h'.ex
  have hz := h.fm.size
  refine ⟨⟨v, hv, own_up ho (fun k hk => ?_)⟩, Fm.own h.fm hf hS, h.ge⟩
  rcases hM k (.inr ⟨v, hv, hk⟩) with e | e
  · exact (h.wr.2 k e).1
  · omega
theorem WS.keep {w0 w w' : World} {r : Nat} {B : Bs} (h : WS w0 w r B) (hf : Fm (fun _ => False) w w') : WS w0 w' r B := by
  obtain ⟨v, hv, ho⟩ := h.ex
  exact ⟨⟨v, hf.heap hv (fun e => e), own_keep ho hf (fun _ _ _ _ e => e)⟩, Fmf h.fm hf, h.ge⟩
theorem WS.new {w0 w : World} (hf : Fm (fun _ => False) w0 w) {k : KV} (hk : ∀ w' r, WS w0 w' r [] → Fm (fun _ => False) w w' → k (pv r) w') : Cl Tryz.prog 199 [] w k := by
  refine (bnew_spec w).mono ?_
  rintro _ w' ⟨rfl, h1, h2, h3⟩
  have hz := hf.size
  obtain ⟨v, hv, ho⟩ := h1.ex
  refine hk w' _ ⟨⟨v, hv, own_up ho (fun k hk => ?_)⟩, Fmf hf h3, hz⟩ h3
  have := h2 k (.inr ⟨v, hv, hk⟩)
  omega
theorem WS.num {w0 w : World} {r : Nat} {B : Bs} (h : WS w0 w r B) {v : Value} {ns : List Int} (hns : CellsAt w v ns.length 1 (ns.map iv)) (hb : ns ≠ [] → ∀ g, blockOf v = some g → g < w0.heap.size) (hin : ∀ n ∈ ns, n ≤ 9223372036854775807) (hl : B.length + 9 * ns.length ≤ 1000000000000) {k : KV}
    (hk : ∀ u w', WS w0 w' r (B ++ numsB ns) → k u w') : Cl Tryz.prog 200 [pv r, v] w k := by
  obtain ⟨hw, hm⟩ := h.wr
  refine (wnum_spec hw hns (fun hne g hg e => by have := hb hne g hg; have := (hm g e).1; omega) hin hl).mono ?_
  rintro u w' ⟨h1, h2, h3⟩
  exact hk u w' (h.of h1 h2 (fun y hy => (hm y hy).1) h3)
theorem WS.lit {w0 w : World} {r n : Nat} {B : Bs} (h : WS w0 w r B) {ns : List Int} {items : Array (Nat × Value)} (hb : (Instr.buildSlice 23 n items).run Tryz.prog w = .ok (.slice (some ⟨w.heap.size, 0, none⟩) n n) (w.alloc (.cells (ns.map iv).toArray 3))) (hn : ns.length = n) (hin : ∀ n ∈ ns, n ≤ 9223372036854775807) (hl : B.length + 9 * n ≤ 1000000000000) {k : KV}
    (hk : ∀ u w', WS w0 w' r (B ++ numsB ns) → k u w') : RunS Tryz.prog (Instr.buildSlice 23 n items) w fun t w1 => Cl Tryz.prog 200 [pv r, t] w1 k := by
  refine RunS_ok hb ?_
  subst hn
  have hf := Fm.alloc (fun _ => False) w (.cells (ns.map iv).toArray 3)
  have ho := own_new (w := w) (e := 3) (sz := 1) (base := w.heap.size) (n := ns.length) (l := ns.map iv) (by simp) (Nat.le_refl _) (by unfold maxLen; omega)
  have h1 := h.keep hf
  obtain ⟨hw, hm⟩ := h.wr
  generalize w.alloc (.cells (ns.map iv).toArray 3) = w1 at hf ho h1
  obtain ⟨hw1, hm1⟩ := h1.wr
  have hsame : ∀ y, wrM w1 r y → y < w.heap.size := fun y hy => by
    obtain ⟨_, e⟩ := hw.keep hf (fun _ _ e => e)
    exact hw.lt y ((e y).1 hy)
  refine (wnum_spec hw1 (CellsAt.of_own ho) (fun hne g hg e => ?_) hin hl).mono ?_
  · have h0 := hsame g e
    have h1 : g = w.heap.size := (Option.some.inj hg).symm
    omega
  · rintro u w' ⟨g1, g2, g3⟩
    exact hk u w' (h1.of g1 g2 (fun y hy => (hm1 y hy).1) g3)
theorem bs47_1 (a : Int) (w : World) : (Instr.buildSlice 23 1 #[(0, iv a)]).run Tryz.prog w = .ok (.slice (some ⟨w.heap.size, 0, none⟩) 1 1) (w.alloc (.cells ([a].map iv).toArray 3)) := by kernel_rfl
theorem bs47_2 (a b : Int) (w : World) : (Instr.buildSlice 23 2 #[(0, iv a), (1, iv b)]).run Tryz.prog w = .ok (.slice (some ⟨w.heap.size, 0, none⟩) 2 2) (w.alloc (.cells ([a, b].map iv).toArray 3)) := by kernel_rfl
theorem bs47_9 (a b c d e f g h i : Int) (w : World) : (Instr.buildSlice 23 9 #[(0, iv a), (1, iv b), (2, iv c), (3, iv d), (4, iv e), (5, iv f), (6, iv g), (7, iv h), (8, iv i)]).run Tryz.prog w = .ok (.slice (some ⟨w.heap.size, 0, none⟩) 9 9) (w.alloc (.cells ([a, b, c, d, e, f, g, h, i].map iv).toArray 3)) := by kernel_rfl
theorem bs47_10 (a b c d e f g h i j : Int) (w : World) : (Instr.buildSlice 23 10 #[(0, iv a), (1, iv b), (2, iv c), (3, iv d), (4, iv e), (5, iv f), (6, iv g), (7, iv h), (8, iv i), (9, iv j)]).run Tryz.prog w = .ok (.slice (some ⟨w.heap.size, 0, none⟩) 10 10) (w.alloc (.cells ([a, b, c, d, e, f, g, h, i, j].map iv).toArray 3)) := by kernel_rfl
theorem numsB1 (a : Int) : numsB [a] = encI a := by simp [numsB]
theorem encI_len {n : Int} (h : n ≤ 9223372036854775807) : (encI n).length ≤ 9 := by unfold encI; exact (encN_le (by omega)).2
theorem numsB_len : ∀ {l : List Int}, (∀ n ∈ l, n ≤ 9223372036854775807) → (numsB l).length ≤ 9 * l.length
  | [], _ => by simp [numsB]
  | n :: l, h => by
    have := numsB_len (l := l) (fun m hm => h m (by simp [hm]))
    have := encI_len (h n (by simp))
    unfold numsB at *
    rw [List.flatMap_cons, List.length_append, List.length_cons]; omega
set_option maxHeartbeats 1000000 in
theorem WS.text {w0 w : World} {r : Nat} {B : Bs} (h : WS w0 w r B) {s : Bs} (hs : s.length ≤ 1000000) (hl : B.length + 9 + s.length ≤ 1000000000) {k : KV} (hk : ∀ u w', WS w0 w' r (B ++ txtB s) → k u w') : Cl Tryz.prog 201 [pv r, stv s] w k := by
  refine c201 ?_; unfold T201
  simp only [RS0, RS1, RS2, RS3, RS4, RS5, str_size]
  refine h.lit (bs47_1 _ _) rfl (by intro n hn; simp at hn; omega) (by omega) ?_
  intro u w1 h1
  rw [numsB1] at h1
  obtain ⟨v, hv, ho⟩ := h1.ex
  have c0 : w1.cell? ⟨r, 0, none⟩ = some v := by rw [cell_at hv]; rfl
  have hel := encI_len (n := s.length) (by omega)
  have hz := h1.fm.size
  simp only [RS0, RS1, RS2, RS3, RS4, RS5, c0]
  obtain ⟨v', w2, hr2, ho2, hf2, _⟩ := append_text B38 ho s 123 (by rw [List.length_append]; omega) hz
  refine RunS_ok hr2 ?_
  have hne : v.ownBlock ≠ some r := fun e => by
    rcases ho.2 with ⟨rfl, _⟩ | ⟨g, cap, cur, rfl, _, hg, _⟩
    · cases e
    · have : g = r := by simpa [Value.ownBlock] using e
      subst this
      rw [hv] at hg; cases hg
  have hlt := own_lt ho
  refine St_blk (hf2.heap hv hne) (by show 0 < 1; decide) (own_one ho2) ?_
  intro w3 hw3 hs3 hf3
  replace hw3 : w3.heap[r]? = some (.cells #[v'] 243) := hw3
  have ho3 : w3.ownsRow w0.heap.size 5 1 v' _ _ := own_keep ho2 hf3 (fun g _ _ hg e => by
    rcases ho2.2 with ⟨rfl, _⟩ | ⟨g', cap, cur, rfl, _, hgg, _⟩
    · cases hg
    · have e1 : g' = g := by simpa [Value.ownBlock] using hg
      rw [e1, e] at hgg
      rw [hf2.heap hv hne] at hgg; cases hgg)
  refine hk _ _ ⟨⟨v', hw3, ?_⟩, Fm.own (Fm.own h1.fm hf2 (fun y hy => (hlt y hy).1)) hf3 (by rintro y rfl; exact h1.ge), h1.ge⟩
  have e1 : (B ++ txtB s) = (B ++ encI s.length) ++ s := by simp [txtB]
  rw [e1]
  have e2 : ((B ++ encI s.length) ++ s).length = (B ++ encI s.length).length + s.length := List.length_append
  rw [e2]
  exact ho3

end Go.Proofs.YthbngnlmgplijaaGreatDoor
