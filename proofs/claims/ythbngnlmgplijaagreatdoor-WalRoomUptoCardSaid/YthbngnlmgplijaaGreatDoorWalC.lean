/- The log that stands in sectors. The log that stands in sectors: record by record. Open. Open: the walk. -/
import Derived.Test.YthbngnlmgplijaaGreatDoorWalB
namespace Go.Proofs.YthbngnlmgplijaaGreatDoor
open Go.Al Go.Proofs
set_option linter.unusedVariables false
set_option linter.unusedSimpArgs false
set_option linter.unusedSectionVars false
set_option maxRecDepth 100000

theorem KpAt_lo {P : Program} {t e s : TypeId} (B : ByteT P t e s) {w : World} {v : Value} {L : Bs} {e' : TypeId} (h : KpAt w e' v L) {i : Nat} (hi : i ≤ L.length) :
    ∃ u, slV 1 v (some (.int .i64 i)) none none = some u ∧ (convert t s u).run P w = .ok (stv (L.drop i)) w := by
  rcases h with ⟨rfl, rfl⟩ | ⟨g, cap, cur, rfl, hg, hnc, hcm, hcs, htake⟩
  · simp at hi
    subst hi
    exact ⟨.slice none 0 0, rfl, conv_nil B w 0 0⟩
  · obtain ⟨o', h1, h2, h3⟩ := slV_lo1 (g := g) (o := 0) (n := L.length) (c := cap) hi hnc .i64
    refine ⟨_, h1, ?_⟩
    have hx : BX w g e' L := ⟨cur, _, hg, htake, by omega, .inl rfl⟩
    by_cases hc : i < cap
    · rw [h2 hc, Nat.zero_add]
      have := hx.conv (P := P) B (o := i) (n := L.length - i) (by omega) (cap - i)
      rw [List.take_of_length_le (by rw [List.length_drop]; omega)] at this
      exact this
    · have e1 : L.length - i = 0 := by omega
      rw [e1, List.drop_eq_nil_of_le (by omega)]
      have := hx.conv (P := P) B (o := o') (n := 0) (by omega) (cap - i)
      rw [List.take_zero] at this
      exact this
theorem slV_hm {g n c j : Nat} (hj : j ≤ c) : slV 1 (.slice (some ⟨g, 0, none⟩) n c) none (some (iv (j : Int))) (some (iv (j : Int))) = some (.slice (some ⟨g, 0, none⟩) j j) := by
  have e1 : bnd c c (some (iv (j : Int))) = some j := bnd_at hj .i64
  have e2 : bnd j n (some (iv (j : Int))) = some j := bnd_at (Nat.le_refl j) .i64
  have e3 : bnd j 0 none = some 0 := rfl
  simp only [slV, bndH, e1, e2, e3, Option.bind_some, Option.map_some, Nat.zero_mul, Nat.sub_zero]
  have : (⟨g, 0, none⟩ : Addr).add 0 = ⟨g, 0, none⟩ := rfl
  rw [this, ite_self]
theorem KpAt_hm {w : World} {e : TypeId} {v : Value} {L : Bs} (h : KpAt w e v L) {j : Nat} (hj : j ≤ L.length) :
    ∃ u, slV 1 v none (some (iv (j : Int))) (some (iv (j : Int))) = some u ∧ KpAt w e u (L.take j) ∧ ∀ y, u.ownBlock = some y → v.ownBlock = some y := by
  rcases h with ⟨rfl, rfl⟩ | ⟨g, cap, cur, rfl, hg, hnc, hcm, hcs, htake⟩
  · simp at hj
    subst hj
    exact ⟨.slice none 0 0, rfl, KpAt.nil _ _, fun y hy => hy⟩
  · have hl : (L.take j).length = j := by rw [List.length_take]; omega
    refine ⟨_, slV_hm (by omega), .inr ⟨g, j, cur, by rw [hl], hg, by omega, by omega, by omega, ?_⟩, fun y hy => hy⟩
    rw [hl, ← bc_take, ← htake, List.take_take, Nat.min_eq_left hj]

def scan (base : Nat) (all : Bs) : Nat → Nat → List Rc → List Rc × Nat
  | 0, e, out => (out, e)
  | f + 1, e, out => match (rDec (all.drop e)).1 with
    | none => (out, e)
    | some r => bif decide (r.lsn = ((base + e : Nat) : Int)) then scan base all f (e + (rDec (all.drop e)).2.1) (out ++ [r]) else (out, e)
def keyed (out : List Rc) : List (Int × Rc) := out.map fun r => (r.lsn, r)
def aheadOf (start : Nat) : Nat := start - Lg.baseOf start
def opnAll (d : Dk) (frm n start : Nat) : Bs :=
  bif decide ((readGo d frm n ((start - 1) / 54) n 0 []).1.length < aheadOf start) then zeros (aheadOf start) else (readGo d frm n ((start - 1) / 54) n 0 []).1
def opnS (d : Dk) (frm n start : Nat) : List Rc × Nat := scan (Lg.baseOf start) (opnAll d frm n start) ((opnAll d frm n start).length + 1) (aheadOf start) []
def opnL (d : Dk) (frm n start : Nat) : Lg := ⟨frm, n, Lg.baseOf start, (opnAll d frm n start).take (opnS d frm n start).2, start, Lg.baseOf start + (opnS d frm n start).2, 0, keyed (opnS d frm n start).1⟩
def opnE (d : Dk) (frm n start : Int) : Dk × Int :=
  bif !(fitsD d frm n) || decide (start < 1) then (d, 1) else bif d.gone then (d, 5) else
  bif decide ((readGo d frm.toNat n.toNat ((start.toNat - 1) / 54) n.toNat 0 []).2 = 0) then (opnL d frm.toNat n.toNat start.toNat).wipe d else (d, (readGo d frm.toNat n.toNat ((start.toNat - 1) / 54) n.toNat 0 []).2)

/-- One more record is in the log's table. -/
theorem LIn.addRec {w w' : World} {X P P1 : Nat → Prop} {lb db mb : Nat} {kv : Value} {M : List (Int × Array Value)} {L L' : Lg} (h : LIn w X P lb db mb kv M L) {cs : Array Value} {r : Rc} {k : Int} (hh : Held w P1 cs r) (h1 : ∀ y, P1 y → y < w.heap.size ∧ ¬ X y) (hk : getD L.recs k = none)
    (hM : MapAt w' mb iv Value.agg (setD M k cs)) (hf : Fm (· = mb) w w') (hst : lgc db mb kv L' = lgc db mb kv L) (hkp : L'.kept = L.kept) (hrc : L'.recs = setD L.recs k r) : LIn w' (fun y => X y ∨ P1 y) (fun y => P y ∨ P1 y) lb db mb kv (setD M k cs) L' := by
  have hnd : getD M k = none := by rw [getD_none, h.keys, ← getD_none]; exact hk
  refine ⟨by rw [hst]; exact hf.heap h.st h.nm.symm, by rw [hkp]; exact h.kp.keep hf (fun y hy e => h.km (by rw [hy, e])), hM, by rw [hrc, keys_setD, keys_setD, h.keys], ?_, ⟨.inl h.xs.1, .inl h.xs.2.1, fun y hy => .inl (h.xs.2.2.1 y hy), fun y hy => hy.imp (h.xs.2.2.2 y) id⟩, ⟨?_, ?_, ?_⟩, fun y hy => Nat.lt_of_lt_of_le ?_ hf.size⟩
  · intro k' cs' hm
    rw [setD_new _ _ _ hnd] at hm
    rw [hrc, setD_new _ _ _ hk]
    rcases List.mem_append.1 hm with hm | hm
    · obtain ⟨r', q1, q2⟩ := h.rec_ k' cs' hm
      exact ⟨r', List.mem_append_left _ q1, (q2.mono (fun y hy => .inl hy)).keep hf (by
        rintro y (hy | hy) rfl
        · exact h.ps.2.1 hy
        · exact (h1 _ hy).2 h.xs.2.1)⟩
    · simp only [List.mem_singleton, Prod.mk.injEq] at hm
      obtain ⟨rfl, rfl⟩ := hm
      exact ⟨_, List.mem_append_right _ (by simp), (hh.mono (fun y hy => .inr hy)).keep hf (by
        rintro y (hy | hy) rfl
        · exact h.ps.2.1 hy
        · exact (h1 _ hy).2 h.xs.2.1)⟩
  · rintro (q | q)
    · exact h.ps.1 q
    · exact (h1 _ q).2 h.xs.1
  · rintro (q | q)
    · exact h.ps.2.1 q
    · exact (h1 _ q).2 h.xs.2.1
  · rintro y hy (q | q)
    · exact h.ps.2.2 y hy q
    · exact (h1 _ q).2 (h.xs.2.2.1 y hy)
  · rcases hy with q | q
    · exact h.lt y q
    · exact (h1 y q).1
theorem wtail0_spec {w : World} {X P : Nat → Prop} {lb db mb : Nat} {kv : Value} {M : List (Int × Array Value)} {L : Lg} (hi : LIn w X P lb db mb kv M L) (hl : L.tail ≤ 9223372036854775807) : Cl Tryz.prog 20 [pv lb] w fun v w' => v = iv (L.tail : Int) ∧ Fm (fun _ => False) w w' := by
  refine c20 ?_; unfold T20
  have e1 : IntKind.i64.wrap ((L.base : Int) + (L.kept.length : Int)) = (L.tail : Int) := by
    unfold Lg.tail at hl ⊢
    rw [wrap_id] <;> omega
  simp only [RS0, RS1, RS2, RS3, RS4, RS5, hi.c3, hi.c4, hi.kp.lenV, e1, true_and]
  exact Fm.drew _ _
theorem Erec : ElemT Tryz.prog 49 28 16 216 := elemT_of Tryz.underlying49 (by kernel_rfl)
theorem bsRecR (r : Rc) (a1 a2 a3 a4 a5 : Option Addr) (n1 n2 n3 n4 n5 c1 c2 c3 c4 c5 : Nat) (w : World) : (Instr.buildSlice 49 1 #[(0, .agg (rcs r (.slice a1 n1 c1) (.slice a2 n2 c2) (.slice a3 n3 c3) (.slice a4 n4 c4) (.slice a5 n5 c5)))]).run Tryz.prog w = .ok (.slice (some ⟨w.heap.size, 0, none⟩) 1 1) (w.alloc (.cells (rcs r (.slice a1 n1 c1) (.slice a2 n2 c2) (.slice a3 n3 c3) (.slice a4 n4 c4) (.slice a5 n5 c5)) 28)) := by kernel_rfl
theorem ImAs.sl {w : World} {v : Value} {L : List (Int × Pg)} (h : ImAs w v L) : ∃ a n c, v = .slice a n c := by
  obtain ⟨X, _, h2, _⟩ := h.ex
  obtain ⟨⟨a, c, rfl, _⟩, _⟩ := h2
  exact ⟨_, _, _, rfl⟩
theorem cells_sl {w : World} {v : Value} {n sz : Nat} {xs : List Value} (h : CellsAt w v n sz xs) : ∃ a n c, v = .slice a n c := by
  obtain ⟨⟨a, c, rfl, _⟩, _⟩ := h
  exact ⟨_, _, _, rfl⟩
theorem bsRec {w : World} {cs : Array Value} {r : Rc} (h : RcAs w cs r) (w' : World) : (Instr.buildSlice 49 1 #[(0, .agg cs)]).run Tryz.prog w' = .ok (.slice (some ⟨w'.heap.size, 0, none⟩) 1 1) (w'.alloc (.cells cs.toList.toArray 28)) := by
  obtain ⟨vs, vm, vi, vp, vt, rfl, _, h3, h4, h5, h6, h7⟩ := h.ex
  obtain ⟨a1, n1, c1, rfl⟩ := cells_sl h3
  obtain ⟨a2, n2, c2, rfl⟩ := cells_sl h4
  obtain ⟨a3, n3, c3, rfl⟩ := h5.sl
  obtain ⟨a4, n4, c4, rfl⟩ := cells_sl h6
  obtain ⟨a5, n5, c5, rfl⟩ := cells_sl h7
  exact bsRecR r _ _ _ _ _ _ _ _ _ _ _ _ _ _ _ w'
end Go.Proofs.YthbngnlmgplijaaGreatDoor

namespace Go.Proofs.YthbngnlmgplijaaGreatDoor
open Go.Al Go.Proofs
set_option linter.unusedVariables false
set_option linter.unusedSimpArgs false
set_option linter.unusedSectionVars false
set_option maxRecDepth 100000

structure ON (w w' : World) (X P Q : Nat → Prop) (lb db mb g m : Nat) (M : List (Int × Array Value)) (L0 : Lg) (d : Dk) (av : Value) (all : Bs) (ov : Value) (C : List (Array Value)) (out : List Rc) : Prop where
  hi : LIn w' X P lb db mb nl M { L0 with recs := keyed out }
  hd : DAt w' db g m d
  ha : w'.ownsRow w.heap.size 5 1 av all.length (bc all)
  ho : w'.ownsRow w.heap.size 28 16 ov C.length (C.flatMap Array.toList)
  hl : C.length = out.length
  hC : ∀ (i : Nat) cs r, C[i]? = some cs → out[i]? = some r → Held w' Q cs r
  hF : Fm (fun _ => False) w w'
  hX : ∀ y, X y → w.heap.size ≤ y
  hQ : ∀ y, Q y → w.heap.size ≤ y ∧ y < w'.heap.size ∧ ¬ X y
  hon : ∀ y, ov.ownBlock = some y → ¬ X y ∧ ¬ Q y
  han : ∀ y, av.ownBlock = some y → ¬ X y ∧ ¬ Q y
  hD : ∀ y, Dm db g m y → y < w.heap.size
section
variable {w w1 w2 : World} {X P Q : Nat → Prop} {lb db mb g m : Nat} {M : List (Int × Array Value)} {L0 : Lg} {d : Dk} {av : Value} {all : Bs} {ov : Value} {C : List (Array Value)} {out : List Rc}
theorem ON.keep (h : ON w w1 X P Q lb db mb g m M L0 d av all ov C out) {S : Nat → Prop} (hf : Fm S w1 w2) (hS : ∀ y, S y → w.heap.size ≤ y ∧ ¬ X y ∧ ¬ Q y ∧ ov.ownBlock ≠ some y ∧ av.ownBlock ≠ some y) : ON w w2 X P Q lb db mb g m M L0 d av all ov C out := by
  have hnd : ∀ y, Dm db g m y → ¬ S y := fun y hy e => by have := h.hD y hy; have := (hS y e).1; omega
  refine ⟨h.hi.keep hf (fun y hy e => (hS y e).2.1 hy), h.hd.keep hf (hnd _ (.inl rfl)) (hnd _ (.inr (.inl rfl))) (hnd _ (.inr (.inr rfl))), own_keep h.ha hf (fun k _ _ e q => (hS k q).2.2.2.2 e), own_keep h.ho hf (fun k _ _ e q => (hS k q).2.2.2.1 e), h.hl, fun i cs r h1 h2 => (h.hC i cs r h1 h2).keep hf (fun y hy e => (hS y e).2.2.1 hy), Fm.own h.hF hf (fun y e => (hS y e).1), h.hX, fun y hy => ?_, h.hon, h.han, h.hD⟩
  obtain ⟨q1, q2, q3⟩ := h.hQ y hy
  exact ⟨q1, Nat.lt_of_lt_of_le q2 hf.size, q3⟩
theorem ON.keep0 (h : ON w w1 X P Q lb db mb g m M L0 d av all ov C out) (hf : Fm (fun _ => False) w1 w2) : ON w w2 X P Q lb db mb g m M L0 d av all ov C out := h.keep hf (fun _ e => e.elim)
theorem ON.new (h : ON w w1 X P Q lb db mb g m M L0 d av all ov C out) {x : Nat} (hx : w1.heap.size ≤ x) : w.heap.size ≤ x ∧ ¬ X x ∧ ¬ Q x ∧ ov.ownBlock ≠ some x ∧ av.ownBlock ≠ some x := by
  have hz := h.hF.size
  refine ⟨by omega, fun e => ?_, fun e => ?_, fun e => ?_, fun e => ?_⟩
  · have := h.hi.lt x e; omega
  · have := (h.hQ x e).2.1; omega
  · have := (own_lt h.ho x e).2; omega
  · have := (own_lt h.ha x e).2; omega
theorem ON.add (h : ON w w1 X P Q lb db mb g m M L0 d av all ov C out) {P1 : Nat → Prop} {cs : Array Value} {r : Rc} (hh : Held w1 P1 cs r) (h1 : ∀ y, P1 y → y < w1.heap.size ∧ w.heap.size ≤ y ∧ ¬ X y ∧ ¬ Q y ∧ ov.ownBlock ≠ some y ∧ av.ownBlock ≠ some y) (hk : ∀ q ∈ out, q.lsn ≠ r.lsn)
    (hM : MapAt w2 mb iv Value.agg (setD M r.lsn cs)) (hf : Fm (· = mb) w1 w2) :
    LIn w2 (fun y => X y ∨ P1 y) (fun y => P y ∨ P1 y) lb db mb nl (setD M r.lsn cs) { L0 with recs := keyed (out ++ [r]) } ∧ DAt w2 db g m d ∧ w2.ownsRow w.heap.size 5 1 av all.length (bc all) ∧ w2.ownsRow w.heap.size 28 16 ov C.length (C.flatMap Array.toList) ∧
    (∀ (i : Nat) cs r, C[i]? = some cs → out[i]? = some r → Held w2 Q cs r) ∧ Fm (fun _ => False) w w2 := by
  have hm := h.hi.xs.2.1
  have hmz := h.hX mb hm
  have hne : ∀ y, Dm db g m y → ¬ y = mb := fun y hy e => by have := h.hD y hy; omega
  have hkn : getD (keyed out) r.lsn = none := by
    rw [getD_none]
    intro hmem
    obtain ⟨x, hx, hxe⟩ := List.mem_map.1 hmem
    obtain ⟨q, hq, rfl⟩ := List.mem_map.1 hx
    exact hk q hq hxe
  refine ⟨h.hi.addRec hh (fun y hy => ⟨(h1 y hy).1, (h1 y hy).2.2.1⟩) hkn hM hf rfl rfl ?_, h.hd.keep hf (hne _ (.inl rfl)) (hne _ (.inr (.inl rfl))) (hne _ (.inr (.inr rfl))), own_keep h.ha hf (fun k _ _ e q => (h.han k e).1 (q ▸ hm)), own_keep h.ho hf (fun k _ _ e q => (h.hon k e).1 (q ▸ hm)), fun i cs r q1 q2 => (h.hC i cs r q1 q2).keep hf (fun y hy e => (h.hQ y hy).2.2 (e ▸ hm)), Fm.own h.hF hf (by rintro y rfl; exact hmz)⟩
  show keyed (out ++ [r]) = setD (keyed out) r.lsn r
  rw [setD_new _ _ _ hkn]
  simp [keyed]
end
theorem scan_end (base : Nat) (all : Bs) (f e : Nat) (out : List Rc) (h : (rDec (all.drop e)).1 = none) : scan base all f e out = (out, e) := by
  cases f with
  | zero => rfl
  | succ f => rw [scan, h]
theorem scan_off (base : Nat) (all : Bs) (f e : Nat) (out : List Rc) {r : Rc} (h : (rDec (all.drop e)).1 = some r) (hr : ¬ r.lsn = ((base + e : Nat) : Int)) : scan base all f e out = (out, e) := by
  cases f with
  | zero => rfl
  | succ f =>
    rw [scan, h]
    have : decide (r.lsn = ((base + e : Nat) : Int)) = false := by simpa using hr
    simp only [this, cond_false]
theorem readGo_len (d : Dk) (frm n k : Nat) : ∀ (f i : Nat) (out : Bs), (readGo d frm n k f i out).1.length ≤ out.length + 54 * f
  | 0, i, out => by simp [readGo]
  | f + 1, i, out => by
    rw [readGo]
    have h1 := opened_len (d.read ((frm + (k + i) % n : Nat) : Int) 1).1 (k + i)
    cases decide ((d.read ((frm + (k + i) % n : Nat) : Int) 1).2 = 0) with
    | false => simp
    | true =>
      rw [cond_true]
      cases decide ((opened (d.read ((frm + (k + i) % n : Nat) : Int) 1).1 (k + i)).length < 54) with
      | true => rw [cond_true]; simp only [List.length_append]; omega
      | false =>
        rw [cond_false]
        have := readGo_len d frm n k f (i + 1) (out ++ opened (d.read ((frm + (k + i) % n : Nat) : Int) 1).1 (k + i))
        rw [List.length_append] at this
        omega
/-- What Open answers: the log, and its records. -/
structure OpnOk (w w' : World) (p ov : Value) (db : Nat) (L : Lg) (out : List Rc) : Prop where
  ex : ∃ (lb : Nat) (X Q : Nat → Prop) (C : List (Array Value)), p = pv lb ∧ LAt w' X lb db L ∧ w'.ownsRow w.heap.size 28 16 ov C.length (C.flatMap Array.toList) ∧ C.length = out.length ∧ (∀ (i : Nat) cs r, C[i]? = some cs → out[i]? = some r → Held w' Q cs r) ∧ (∀ y, X y → w.heap.size ≤ y) ∧ (∀ y, Q y → w.heap.size ≤ y ∧ y < w'.heap.size ∧ ¬ X y) ∧ ∀ y, ov.ownBlock = some y → ¬ X y ∧ ¬ Q y
end Go.Proofs.YthbngnlmgplijaaGreatDoor

namespace Go.Proofs.YthbngnlmgplijaaGreatDoor
open Go.Al Go.Proofs
set_option linter.unusedVariables false
set_option linter.unusedSimpArgs false
set_option linter.unusedSectionVars false
set_option maxRecDepth 100000

theorem rc0_cells : (#[(Value.int IntKind.i64 0), (Value.int IntKind.i64 0), (Value.int IntKind.i64 0), (Value.int IntKind.u8 0), (Value.int IntKind.i64 0), (Value.int IntKind.i64 0), (Value.int IntKind.i64 0), (Value.int IntKind.i64 0), (Value.int IntKind.i64 0), (Value.int IntKind.i64 0), (Value.string (ByteArray.mk #[])), (Value.slice none 0 0), (Value.slice none 0 0), (Value.slice none 0 0), (Value.slice none 0 0), (Value.slice none 0 0)] : Array Value) = rcs rc0 nl nl nl nl nl := rfl

set_option maxHeartbeats 8000000 in
/-- Behind the last record. -/
theorem open_fin {w w4 : World} {X P Q : Nat → Prop} {lb b mb g m : Nat} {M : List (Int × Array Value)} {d : Dk} {av : Value} {all : Bs} {ov : Value} {C : List (Array Value)} {out : List Rc} {i j s e : Nat}
    (hON : ON w w4 X P Q lb b mb g m M ⟨i, j, Lg.baseOf s, [], s, 0, 0, []⟩ d av all ov C out) (hj : 4 ≤ j) (hij : i + j ≤ 65536) (hs : 1 ≤ s) (he : e ≤ all.length) (hal : all.length ≤ 4000000) (hah : aheadOf s ≤ e) (hbe : Lg.baseOf s + e ≤ 9223372036854775807)
    (hout : ∀ r ∈ out, (rCheck r).2 = 0 ∧ (∀ m ∈ r.imgs, m.2.lsn ≤ 9223372036854775807) ∧ (s : Int) ≤ r.lsn ∧ r.lsn < ((Lg.baseOf s + e : Nat) : Int)) {K : Value → World → Prop}
    (hK1 : ∀ w8, DAt w8 b g m ((⟨i, j, Lg.baseOf s, all.take e, s, Lg.baseOf s + e, 0, keyed out⟩ : Lg).wipe d).1 → Fm (Dm b g m) w w8 → ¬ ((⟨i, j, Lg.baseOf s, all.take e, s, Lg.baseOf s + e, 0, keyed out⟩ : Lg).wipe d).2 = 0 → K (.tuple #[.pointer none, nl, iv ((⟨i, j, Lg.baseOf s, all.take e, s, Lg.baseOf s + e, 0, keyed out⟩ : Lg).wipe d).2]) w8)
    (hK2 : ∀ w8, DAt w8 b g m ((⟨i, j, Lg.baseOf s, all.take e, s, Lg.baseOf s + e, 0, keyed out⟩ : Lg).wipe d).1 → Fm (Dm b g m) w w8 → ((⟨i, j, Lg.baseOf s, all.take e, s, Lg.baseOf s + e, 0, keyed out⟩ : Lg).wipe d).2 = 0 → OpnOk w w8 (pv lb) ov b ⟨i, j, Lg.baseOf s, all.take e, s, Lg.baseOf s + e, 0, keyed out⟩ out → K (.tuple #[pv lb, ov, iv 0]) w8) :
    Pu (slV 1 av none (some (iv (e : Int))) (some (iv (e : Int)))) fun t106 =>
      St 1 w4 (.pointer (some ⟨lb, 4, none⟩)) t106 fun u w_127 =>
      Cl Tryz.prog 20 [pv lb] w_127 fun t111 w_129 =>
      St 1 w_129 (.pointer (some ⟨lb, 6, none⟩)) t111 fun u2 w_133 =>
      Cl Tryz.prog 141 [pv lb] w_133 fun t115 w_135 =>
      Pu (binV (TypeDesc.int IntKind.i64) .neq t115 (Value.int IntKind.i64 0)) fun t117 =>
      IfB t117
        (K (.tuple #[(Value.pointer none), (Value.slice none 0 0), t115]) w_135)
        (K (.tuple #[pv lb, ov, (Value.int IntKind.i64 0)]) w_135) := by
  have hb := Lg.baseOf_le hs
  have hah' : aheadOf s = s - Lg.baseOf s := rfl
  obtain ⟨u, q1, q2, q3⟩ := KpAt_hm (KpAt.of_own hON.ha) he
  have hlen : (all.take e).length = e := by rw [List.length_take]; omega
  simp only [RS0, RS1, RS2, RS3, RS4, RS5, q1]
  refine St_blk hON.hi.st (by show 4 < 9; decide) q2.one ?_
  intro w5 hw5 hs5 hf5
  have hlbX := hON.hi.xs.1
  have hlbS : ∀ y, y = lb → w.heap.size ≤ y ∧ ¬ Q y ∧ ov.ownBlock ≠ some y ∧ av.ownBlock ≠ some y := by
    rintro y rfl
    exact ⟨hON.hX y hlbX, fun e => (hON.hQ y e).2.2 hlbX, fun e => (hON.hon y e).1 hlbX, fun e => (hON.han y e).1 hlbX⟩
  have hi5 : LIn w5 (fun y => X y ∨ av.ownBlock = some y) P lb b mb u M ⟨i, j, Lg.baseOf s, all.take e, s, 0, 0, keyed out⟩ := by
    refine ⟨hw5, q2.keep hf5 (fun y hy e => ?_), hON.hi.mp.keep hf5 hON.hi.nm, hON.hi.keys, fun k cs hm => ?_, ⟨.inl hlbX, .inl hON.hi.xs.2.1, fun y hy => .inr (q3 y hy), fun y hy => .inl (hON.hi.xs.2.2.2 y hy)⟩, ⟨hON.hi.ps.1, hON.hi.ps.2.1, fun y hy e => (hON.han y (q3 y hy)).1 (hON.hi.xs.2.2.2 y e)⟩, ?_⟩
    · exact (hlbS y e).2.2.2 (q3 y hy)
    · obtain ⟨r, h1, h2⟩ := hON.hi.rec_ k cs hm
      exact ⟨r, h1, h2.keep hf5 (fun y hy e => hON.hi.ps.1 (e ▸ hy))⟩
    · rintro y (hy | hy)
      · have := hON.hi.lt y hy; omega
      · have := (own_lt hON.ha y hy).2; omega
  have htl : (⟨i, j, Lg.baseOf s, all.take e, s, 0, 0, keyed out⟩ : Lg).tail = Lg.baseOf s + e := by show Lg.baseOf s + (all.take e).length = _; rw [hlen]
  refine (wtail0_spec hi5 (by rw [htl]; exact hbe)).mono ?_
  rintro _ w6 ⟨rfl, hf6⟩
  rw [htl]
  have hi6 := hi5.keep0 hf6
  refine St_blk hi6.st (by show 6 < 9; decide) rfl ?_
  intro w7 hw7 hs7 hf7
  have hi7 : LIn w7 (fun y => X y ∨ av.ownBlock = some y) P lb b mb u M ⟨i, j, Lg.baseOf s, all.take e, s, Lg.baseOf s + e, 0, keyed out⟩ := hi6.upd hw7 hf7 rfl rfl
  have hwf : (⟨i, j, Lg.baseOf s, all.take e, s, Lg.baseOf s + e, 0, keyed out⟩ : Lg).Wf := by
    have ht : (⟨i, j, Lg.baseOf s, all.take e, s, Lg.baseOf s + e, 0, keyed out⟩ : Lg).tail = Lg.baseOf s + e := by show Lg.baseOf s + (all.take e).length = _; rw [hlen]
    refine ⟨hj, hij, rfl, ⟨hs, ?_, by rw [ht]; exact Nat.le_refl _⟩, by show (all.take e).length ≤ _; omega, by rw [ht]; exact hbe, fun h => ?_, ⟨Int.le_refl _, by show (0 : Int) ≤ _; omega⟩, ?_⟩
    · show s ≤ Lg.baseOf s + e
      omega
    · rw [ht] at h
      exact absurd h (Nat.lt_irrefl _)
    · intro p hp
      obtain ⟨r, hr, rfl⟩ := List.mem_map.1 hp
      obtain ⟨h1, h2, h3, h4⟩ := hout r hr
      rw [ht]
      exact ⟨rfl, h1, h2, h3, h4⟩
  have hX2 : ∀ y, (X y ∨ av.ownBlock = some y) → w.heap.size ≤ y := by
    rintro y (hy | hy)
    · exact hON.hX y hy
    · exact (own_lt hON.ha y hy).1
  have keep7 : ∀ {S : Nat → Prop} {a c : World}, Fm S a c → True := fun _ => trivial
  have hd7 : DAt w7 b g m d := by
    have hne : ∀ y, Dm b g m y → ¬ y = lb := fun y hy e => by have := hON.hD y hy; have := (hlbS y e).1; omega
    exact ((hON.hd.keep hf5 (hne _ (.inl rfl)) (hne _ (.inr (.inl rfl))) (hne _ (.inr (.inr rfl)))).keep0 hf6).keep hf7 (hne _ (.inl rfl)) (hne _ (.inr (.inl rfl))) (hne _ (.inr (.inr rfl)))
  have hF7 : Fm (fun _ => False) w w7 := Fm.own (Fmf (Fm.own hON.hF hf5 (fun y e => (hlbS y e).1)) hf6) hf7 (fun y e => (hlbS y e).1)
  have ho7 := own_keep (own_keep (own_keep hON.ho hf5 (fun k _ _ e q => (hlbS k q).2.2.1 e)) hf6 (fun _ _ _ _ e => e)) hf7 (fun k _ _ e q => (hlbS k q).2.2.1 e)
  have hC7 : ∀ (i : Nat) cs r, C[i]? = some cs → out[i]? = some r → Held w7 Q cs r := fun i cs r h1 h2 => (((hON.hC i cs r h1 h2).keep hf5 (fun y hy e => (hlbS y e).2.1 hy)).keep hf6 (fun _ _ e => e)).keep hf7 (fun y hy e => (hlbS y e).2.1 hy)
  refine (wwipe_spec (L := ⟨i, j, Lg.baseOf s, all.take e, s, Lg.baseOf s + e, 0, keyed out⟩) ⟨hwf, P, mb, u, M, hi7⟩ hd7 (fun y hy e => by have := hX2 y hy; have := hON.hD y e; omega)).mono ?_
  rintro _ w8 ⟨rfl, hL8, hd8, hf8⟩
  have hF8 : Fm (Dm b g m) w w8 := (hF7.mono (fun _ _ e => e.elim)).trans hf8 (fun _ _ e => e) (fun _ _ e => e)
  have hz7 := hF7.size
  have hz8 := hf8.size
  simp only [RS0, RS1, RS2, RS3, RS4, RS5, bne_dec]
  cases hz : decide (((⟨i, j, Lg.baseOf s, all.take e, s, Lg.baseOf s + e, 0, keyed out⟩ : Lg).wipe d).2 = 0) with
  | false =>
    rw [decide_eq_false_iff_not] at hz
    simp only [RS0, RS1, RS2, RS3, RS4, RS5, Bool.not_false]
    exact hK1 w8 hd8 hF8 hz
  | true =>
    rw [decide_eq_true_eq] at hz
    simp only [RS0, RS1, RS2, RS3, RS4, RS5, Bool.not_true]
    refine hK2 w8 hd8 hF8 hz ⟨lb, _, Q, C, rfl, hL8, own_keep ho7 hf8 (fun k hk _ _ q => by have := hON.hD k q; omega), hON.hl, fun i cs r h1 h2 => (hC7 i cs r h1 h2).keep hf8 (fun y hy e => by have := hON.hD y e; have := (hON.hQ y hy).1; omega), hX2, ?_, ?_⟩
    · intro y hy
      obtain ⟨p1, p2, p3⟩ := hON.hQ y hy
      have z5 := hf5.size; have z6 := hf6.size; have z7 := hf7.size
      refine ⟨p1, by omega, ?_⟩
      rintro (e | e)
      · exact p3 e
      · exact (hON.han y e).2 hy
    · intro y hy
      refine ⟨?_, (hON.hon y hy).2⟩
      rintro (e | e)
      · exact (hON.hon y hy).1 e
      · exact own_apart hON.ho hON.ha (by decide) y hy e
end Go.Proofs.YthbngnlmgplijaaGreatDoor

namespace Go.Proofs.YthbngnlmgplijaaGreatDoor
open Go.Al Go.Proofs
set_option linter.unusedVariables false
set_option linter.unusedSimpArgs false
set_option linter.unusedSectionVars false
set_option maxRecDepth 100000

theorem opnAll_len (d : Dk) (i j s : Nat) (hj : j ≤ 65536) (hs : 1 ≤ s) : aheadOf s ≤ (opnAll d i j s).length ∧ (opnAll d i j s).length ≤ 4000000 := by
  have h1 := readGo_len d i j ((s - 1) / 54) j 0 []
  have h2 := Lg.baseOf_le hs
  simp only [List.length_nil, Nat.zero_add] at h1
  unfold opnAll
  cases h : decide ((readGo d i j ((s - 1) / 54) j 0 []).1.length < aheadOf s) with
  | true =>
    rw [cond_true, Lg.zeros_len']
    unfold aheadOf; omega
  | false =>
    rw [decide_eq_false_iff_not] at h
    rw [cond_false]; omega
set_option maxHeartbeats 16000000 in
theorem wopen_spec {w : World} {b g m : Nat} {d : Dk} (h : DAt w b g m d) (frm n start : Int) (hst : start ≤ 9223372036854775807) :
    Cl Tryz.prog 74 [pv b, iv frm, iv n, iv start] w fun v w' => ∃ p ov, v = .tuple #[p, ov, iv (opnE d frm n start).2] ∧ DAt w' b g m (opnE d frm n start).1 ∧ Fm (Dm b g m) w w' ∧
      ((opnE d frm n start).2 ≠ 0 → p = .pointer none ∧ ov = nl) ∧ ((opnE d frm n start).2 = 0 → OpnOk w w' p ov b (opnL d frm.toNat n.toNat start.toNat) (opnS d frm.toNat n.toNat start.toNat).1) := by
  have hn := h.wf.n1
  have hlt := h.lt
  have up : ∀ {w1 : World}, Fm (fun _ => False) w w1 → Fm (Dm b g m) w w1 := fun hf => hf.mono (fun _ _ e => e.elim)
  have bad : ∀ {w1 : World} {er : Int}, Fm (fun _ => False) w w1 → er ≠ 0 → opnE d frm n start = (d, er) → ∃ p ov, Value.tuple #[.pointer none, nl, iv er] = .tuple #[p, ov, iv (opnE d frm n start).2] ∧ DAt w1 b g m (opnE d frm n start).1 ∧ Fm (Dm b g m) w w1 ∧
      ((opnE d frm n start).2 ≠ 0 → p = .pointer none ∧ ov = nl) ∧ ((opnE d frm n start).2 = 0 → OpnOk w w1 p ov b (opnL d frm.toNat n.toNat start.toNat) (opnS d frm.toNat n.toNat start.toNat).1) := fun hf he hE => by
    rw [hE]
    exact ⟨_, _, rfl, h.keep0 hf, up hf, fun _ => ⟨rfl, rfl⟩, fun e => absurd e he⟩
  have hE : opnE d frm n start = bif !(fitsD d frm n) || decide (start < 1) then (d, 1) else bif d.gone then (d, 5) else
    bif decide ((readGo d frm.toNat n.toNat ((start.toNat - 1) / 54) n.toNat 0 []).2 = 0) then (opnL d frm.toNat n.toNat start.toNat).wipe d else (d, (readGo d frm.toNat n.toNat ((start.toNat - 1) / 54) n.toNat 0 []).2) := rfl
  refine c74 ?_; unfold T74
  refine (wfits_spec h frm n).mono ?_
  rintro _ w0 ⟨rfl, rfl⟩
  cases hfi : fitsD d frm n with
  | false =>
    rw [hfi, Bool.not_false, Bool.true_or, cond_true] at hE
    simp only [RS0, RS1, RS2, RS3, RS4, RS5]
    exact bad (Fm.refl _ _) (by decide) hE
  | true =>
  cases e1 : decide (start < 1) with
  | true =>
    rw [e1, Bool.or_true, cond_true] at hE
    simp only [RS0, RS1, RS2, RS3, RS4, RS5, e1]
    exact bad (Fm.refl _ _) (by decide) hE
  | false =>
  rw [hfi, e1, Bool.not_true, Bool.or_self, cond_false] at hE
  simp only [RS0, RS1, RS2, RS3, RS4, RS5, e1]
  refine (ddead_spec h).mono ?_
  rintro _ w0 ⟨rfl, rfl⟩
  cases hg : d.gone with
  | true =>
    rw [hg, cond_true] at hE
    simp only [RS0, RS1, RS2, RS3, RS4, RS5]
    exact bad (Fm.refl _ _) (by decide) hE
  | false =>
  rw [hg, cond_false] at hE
  unfold fitsD at hfi
  simp only [Bool.and_eq_true, decide_eq_true_eq] at hfi
  obtain ⟨f1, f2, f3, f4⟩ := hfi
  rw [decide_eq_false_iff_not] at e1
  obtain ⟨j, rfl⟩ := Int.eq_ofNat_of_zero_le (show 0 ≤ n by omega)
  obtain ⟨i, rfl⟩ := Int.eq_ofNat_of_zero_le f2
  obtain ⟨s, rfl⟩ := Int.eq_ofNat_of_zero_le (show 0 ≤ start by omega)
  simp only [Int.toNat_natCast] at hE bad ⊢
  have hs : 1 ≤ s := by omega
  have hj : 4 ≤ j := by omega
  have hij : i + j ≤ 65536 := by omega
  have hb := Lg.baseOf_le hs
  simp only [RS0, RS1, RS2, RS3, RS4, RS5]
  refine (wof_spec w0 (n := s) hs (by omega)).mono ?_
  rintro _ w0 ⟨rfl, rfl⟩
  refine (wfirst_spec w0 (k := (s - 1) / 54) (by omega)).mono ?_
  rintro _ w0 ⟨rfl, rfl⟩
  rw [show (s - 1) / 54 * 54 + 1 = Lg.baseOf s from rfl]
  refine RunS_ok (makeMap_run _ _) ?_
  have hM := MapAt.empty w0 iv Value.agg
  have hfm := Fm.alloc (fun _ => False) w0 (.map #[] 0)
  have hms := alloc_size w0 (.map #[] 0)
  generalize w0.alloc (.map #[] 0) = w1 at hM hfm hms
  refine RunS_ok (bld132o b w0.heap.size _ _ _ _ _) ?_
  refine New_any ?_
  intro lb w2 hlb hs2 hw2 hf2
  have hF2 := Fmf hfm hf2
  have hi2 : LIn w2 (fun y => y = lb ∨ y = w0.heap.size) (fun _ => False) lb b w0.heap.size nl [] ⟨i, j, Lg.baseOf s, [], s, 0, 0, []⟩ := by
    refine ⟨hw2, KpAt.nil _ _, hM.keep hf2 (fun e => e), rfl, (fun k cs hm => by cases hm), ⟨.inl rfl, .inr rfl, (fun y hy => by cases hy), fun y hy => hy.elim⟩, ⟨(fun e => e), (fun e => e), (fun y hy e => e)⟩, ?_⟩
    rintro y (rfl | rfl) <;> omega
  refine (wof_spec w2 (n := s) hs (by omega)).mono ?_
  rintro _ w2 ⟨rfl, rfl⟩
  refine (wread_spec (L := ⟨i, j, Lg.baseOf s, [], s, 0, 0, []⟩) hi2 hij hj (h.keep0 hF2) (k := (s - 1) / 54) (by omega)).mono ?_
  rintro _ w3 ⟨u, rfl, hu, hf3⟩
  have hF3 := Fmf hF2 hf3
  have hi3 := hi2.keep0 hf3
  obtain ⟨ha1, ha2⟩ := opnAll_len d i j s (by omega) hs
  have ea : IntKind.i64.wrap ((s : Int) - (Lg.baseOf s : Int)) = ((aheadOf s : Nat) : Int) := by unfold aheadOf; rw [wrap_id] <;> omega
  have hDl : ∀ y, Dm b g m y → y < w0.heap.size := by
    rintro y (rfl | rfl | rfl)
    · exact hlt.1
    · exact hlt.2.1
    · exact hlt.2.2
  have z2 := hF2.size
  simp only [RS0, RS1, RS2, RS3, RS4, RS5, bne_dec]
  cases hz : decide ((readGo d i j ((s - 1) / 54) j 0 []).2 = 0) with
  | false =>
    rw [hz, cond_false] at hE
    rw [decide_eq_false_iff_not] at hz
    simp only [RS0, RS1, RS2, RS3, RS4, RS5, Bool.not_false]
    exact bad hF3 hz hE
  | true =>
  rw [hz, cond_true] at hE
  simp only [RS0, RS1, RS2, RS3, RS4, RS5, Bool.not_true, hi3.c3, ea]
  refine Jn_at (fun vs w4 => ∃ av, vs = [av] ∧ ON w0 w4 (fun y => y = lb ∨ y = w0.heap.size) (fun _ => False) (fun _ => False) lb b w0.heap.size g m [] ⟨i, j, Lg.baseOf s, [], s, 0, 0, []⟩ d av (opnAll d i j s) nl [] []) ?_ ?_
  · rintro _ w4 ⟨av, rfl, hON⟩ _
    refine ⟨av, rfl, ?_⟩
    generalize hall : opnAll d i j s = all at ha1 ha2 hON
    refine ⟨fun vs w' => ∃ (e f : Nat) (out : List Rc) (ov : Value) (X P Q : Nat → Prop) (M : List (Int × Array Value)) (C : List (Array Value)), vs = [ov, iv (e : Int)] ∧ e ≤ all.length ∧ all.length < e + f ∧ aheadOf s ≤ e ∧ out.length ≤ e ∧ (e = aheadOf s ∨ Lg.baseOf s + e ≤ 4611686018427500000) ∧
      (∀ r ∈ out, (rCheck r).2 = 0 ∧ (∀ m ∈ r.imgs, m.2.lsn ≤ 9223372036854775807) ∧ (s : Int) ≤ r.lsn ∧ r.lsn < ((Lg.baseOf s + e : Nat) : Int)) ∧ scan (Lg.baseOf s) all f e out = opnS d i j s ∧
      ON w0 w' X P Q lb b w0.heap.size g m M ⟨i, j, Lg.baseOf s, [], s, 0, 0, []⟩ d av all ov C out,
      fun vs _ => (all.length - nth vs 1).toNat, ⟨aheadOf s, all.length + 1, [], _, _, _, _, _, _, rfl, ha1, by omega, Nat.le_refl _, by simp, .inl rfl, (fun r hr => by cases hr), by rw [← hall]; rfl, hON⟩, ?_⟩
    rintro _ w5 ovv evv ⟨e, f, out, ov, X, P, Q, M, C, hvs, he, hf, hae, hoe, hbe, hout, hsc, hON5⟩
    cases hvs
    have hahd : aheadOf s = s - Lg.baseOf s := rfl
    have hbe' : Lg.baseOf s + e ≤ 9223372036854775807 := by omega
    have eb : IntKind.i64.wrap ((Lg.baseOf s : Int) + (e : Int)) = ((Lg.baseOf s + e : Nat) : Int) := by rw [wrap_id] <;> omega
    obtain ⟨u5, q1, q2⟩ := KpAt_lo (P := Tryz.prog) B38 (KpAt.of_own hON5.ha) he
    simp only [RS0, RS1, RS2, RS3, RS4, RS5, q1]
    refine RunS_ok q2 ?_
    refine (rdec_spec w5 (all.drop e) (by rw [List.length_drop]; omega)).mono ?_
    rintro _ w6 ⟨cs, rfl, hok, hf6⟩
    have hON6 := hON5.keep0 hf6
    have hcz := hok.as.size
    have hone := hok.as.one
    simp only [RS0, RS1, RS2, RS3, RS4, RS5]
    refine New_any ?_
    intro x w7 hx hs7 hw7 hf7
    have hON7 := hON6.keep0 hf7
    refine St_all hw7 rfl hcz hone ?_
    intro w8 hw8 hs8 hf8
    have hnx := hON6.new (x := x) (by omega)
    have hON8 := hON7.keep hf8 (by rintro y rfl; exact hnx)
    have hON9 := hON8.keep0 (Fm.drew _ w8)
    have fin : opnS d i j s = (out, e) → _ := fun h1 => by
      have hLL : opnL d i j s = ⟨i, j, Lg.baseOf s, all.take e, s, Lg.baseOf s + e, 0, keyed out⟩ := by unfold opnL; rw [h1, hall]
      rw [hLL] at hE
      exact open_fin hON9 hj hij hs he ha2 hae hbe' hout
        (K := fun v w' => ∃ p ov, v = .tuple #[p, ov, iv (opnE d ↑i ↑j ↑s).2] ∧ DAt w' b g m (opnE d ↑i ↑j ↑s).1 ∧ Fm (Dm b g m) w0 w' ∧ ((opnE d ↑i ↑j ↑s).2 ≠ 0 → p = .pointer none ∧ ov = nl) ∧ ((opnE d ↑i ↑j ↑s).2 = 0 → OpnOk w0 w' p ov b (opnL d i j s) (opnS d i j s).1))
        (fun w9 hd9 hF9 hne => ⟨_, _, by rw [hE], by rw [hE]; exact hd9, hF9, fun _ => ⟨rfl, rfl⟩, fun e => absurd (by rw [hE] at e; exact e) hne⟩)
        (fun w9 hd9 hF9 hz9 hok9 => ⟨_, _, by rw [hE, hz9], by rw [hE]; exact hd9, hF9, fun e => absurd (by rw [hE]; exact hz9) e, fun _ => by rw [hLL, h1]; exact hok9⟩)
    cases hrd : (rDec (all.drop e)).1 with
    | none =>
      have hne : ((rDec (all.drop e)).2.2 != 0) = true := by
        obtain ⟨_, h1 | h1 | h1⟩ := dec_none hrd <;> rw [h1] <;> rfl
      simp only [RS0, RS1, RS2, RS3, RS4, RS5, hne]
      exact ⟨trivial, trivial, fin (by rw [← hsc]; exact scan_end _ _ _ _ _ hrd)⟩
    | some r =>
    obtain ⟨ds1, ds2, ds3, ds4, ds5, ds6⟩ := dec_sound hrd
    rw [hrd] at hok
    have hheld6 := hok.held
    obtain ⟨vs, vm, vi, vp, vt, rfl, hrows, _⟩ := hok
    have hw9 := (Fm.drew (fun _ => False) w8).heap hw8 (fun e => e)
    have cx : w8.cell? ⟨x, 0, none⟩ = some (iv r.lsn) := by rw [cell_at hw8]; rfl
    have cb : w8.cell? ⟨lb, 3, none⟩ = some (iv (Lg.baseOf s : Int)) := hON8.hi.c3
    have hne : ((rDec (all.drop e)).2.2 != 0) = false := by rw [ds2]; rfl
    simp only [RS0, RS1, RS2, RS3, RS4, RS5, hne, cx, cb, eb, bne_dec, true_and]
    cases hl : decide (r.lsn = ((Lg.baseOf s + e : Nat) : Int)) with
    | false =>
      rw [decide_eq_false_iff_not] at hl
      simp only [RS0, RS1, RS2, RS3, RS4, RS5, Bool.not_false]
      exact fin (by rw [← hsc]; exact scan_off _ _ _ _ _ hrd hl)
    | true =>
    have hlen := Lg.enc_len ds1 ds6.lsns
    rw [List.length_drop] at ds4
    obtain ⟨f', rfl⟩ : ∃ f', f = f' + 1 := ⟨f - 1, by omega⟩
    rw [scan, hrd] at hsc
    simp only [hl, cond_true] at hsc
    rw [decide_eq_true_eq] at hl
    have hlsn : r.lsn ≤ 4611686018427387904 := (ds6.nums r.lsn (by unfold rNums; simp)).2
    have e5 : IntKind.i64.wrap ((e : Int) + ((rDec (all.drop e)).2.1 : Int)) = ((e + (rDec (all.drop e)).2.1 : Nat) : Int) := by rw [wrap_id] <;> omega
    have c8 : w8.cell? ⟨lb, 8, none⟩ = some (.map (some w0.heap.size)) := hON8.hi.c8
    have z6 := hf6.size; have z7 := hf7.size; have z8 := hf8.size
    have hP1 : ∀ y, (w5.heap.size ≤ y ∧ y < w6.heap.size) → ¬ y = x := by
      rintro y ⟨_, hy⟩ rfl
      omega
    have hheld9 : Held w8.drew (fun y => w5.heap.size ≤ y ∧ y < w6.heap.size) (rcs r vs vm vi vp vt) r := ((hheld6.keep hf7 (fun _ _ e => e)).keep hf8 (fun y hy e => hP1 y hy e)).keep (Fm.drew (fun _ => False) w8) (fun _ _ e => e)
    have hw9' : w8.drew.drew.heap[x]? = some (.cells (rcs r vs vm vi vp vt) 28) := hw8
    have hON9' := hON9.keep0 (Fm.drew _ w8.drew)
    have hheld9' := hheld9.keep (Fm.drew (fun _ => False) w8.drew) (fun _ _ e => e)
    have hP2 : ∀ y, (w5.heap.size ≤ y ∧ y < w6.heap.size) → y < w8.drew.drew.heap.size ∧ w0.heap.size ≤ y ∧ ¬ X y ∧ ¬ Q y ∧ ovv.ownBlock ≠ some y ∧ av.ownBlock ≠ some y := fun y hy => by
      obtain ⟨p1, p2, p3, p4, p5⟩ := hON5.new hy.1
      have zz : w8.drew.drew.heap.size = w8.heap.size := rfl
      exact ⟨by omega, p1, p2, p3, p4, p5⟩
    obtain ⟨w10, hr10, hM10, hf10, hz10⟩ := update_run K130 hON9'.hi.mp r.lsn (rcs r vs vm vi vp vt)
    obtain ⟨hi10, hd10, ha10, ho10, hC10, hF10⟩ := hON9'.add hheld9' hP2 (fun q hq e => by have := (hout q hq).2.2.2; omega) hM10 hf10
    have hmbX : X w0.heap.size := hON5.hi.xs.2.1
    have hxm : x ≠ w0.heap.size := fun e => by have := hON5.hi.lt _ hmbX; omega
    have hw10 := hf10.heap hw9' hxm
    simp only [RS0, RS1, RS2, RS3, RS4, RS5, Bool.not_true, c8, cx, cellsV_blk hw9' (n := 16) rfl, true_and]
    refine RunU_ok hr10 ?_
    simp only [RS0, RS1, RS2, RS3, RS4, RS5, cellsV_blk hw10 (n := 16) rfl]
    have zd : w8.drew.drew.heap.size = w8.heap.size := rfl
    have hheld10 := hheld9'.keep hf10 (fun y hy e => (hP2 y hy).2.2.1 (by rw [e]; exact hmbX))
    refine (own_spec hheld10.now ds1).mono ?_
    rintro _ w11 ⟨cs2, rfl, hheld2, hf11⟩
    have z11 := hf11.size
    have ho11 := own_keep ho10 hf11 (fun _ _ _ _ e => e)
    have hF11 := Fmf hF10 hf11
    have hCl := hON5.hl
    have hcs2 : cs2.toList.length = 16 := by rw [Array.length_toList]; exact hheld2.now.size
    refine append_elF Erec (by omega) 49 (cs := cs2.toList) hcs2 (bsRec hheld2.now _) hheld2.now.one ho11 (by unfold maxLen; omega) (by omega) hF11.size ?_
    intro v' w12 ho12 hcase
    have hF12 : Fm (fun y => ovv.ownBlock = some y) w11 w12 := by
      rcases hcase with ⟨q, k1, k2, k3⟩ | ⟨q, k1, k2, k3⟩
      · exact k3.mono (by rintro y _ rfl; exact k1)
      · exact k3.mono (fun _ _ e => e.elim)
    have hov : ∀ y, v'.ownBlock = some y → ovv.ownBlock = some y ∨ w11.heap.size ≤ y := fun y hy => by
      rcases hcase with ⟨q, k1, k2, k3⟩ | ⟨q, k1, k2, k3⟩
      · rw [k2] at hy; cases hy; exact .inl k1
      · rw [k1] at hy; cases hy; exact .inr k2
    have ovlt : ∀ y, ovv.ownBlock = some y → w0.heap.size ≤ y ∧ y < w5.heap.size := fun y hy => own_lt hON5.ho y hy
    have avlt : ∀ y, av.ownBlock = some y → w0.heap.size ≤ y ∧ y < w5.heap.size := fun y hy => own_lt hON5.ha y hy
    have z12 := hF12.size
    have z10 := hf10.size
    simp only [RS0, RS1, RS2, RS3, RS4, RS5, e5]
    refine ⟨⟨e + (rDec (all.drop e)).2.1, f', out ++ [r], v', fun y => X y ∨ (w5.heap.size ≤ y ∧ y < w6.heap.size), fun y => P y ∨ (w5.heap.size ≤ y ∧ y < w6.heap.size), fun y => Q y ∨ (w10.heap.size ≤ y ∧ y < w11.heap.size), setD M r.lsn (rcs r vs vm vi vp vt), C ++ [cs2], rfl, by omega, by omega, by omega, by rw [List.length_append, List.length_singleton]; omega, .inr (by omega), ?_, hsc, ?_⟩, by simp only [nth_1]; omega⟩
    · intro q hq
      rcases List.mem_append.1 hq with hq | hq
      · obtain ⟨p1, p2, p3, p4⟩ := hout q hq
        exact ⟨p1, p2, p3, by omega⟩
      · simp only [List.mem_singleton] at hq
        subst hq
        exact ⟨ds1, ds6.lsns, by omega, by omega⟩
    · have hX12 : ∀ y, (X y ∨ (w5.heap.size ≤ y ∧ y < w6.heap.size)) → ¬ ovv.ownBlock = some y := by
        rintro y (hy | hy) e
        · exact (hON5.hon y e).1 hy
        · have := (ovlt y e).2; omega
      have hne12 : ∀ y, Dm b g m y → ¬ ovv.ownBlock = some y := fun y hy e => by have := hDl y hy; have := (ovlt y e).1; omega
      refine ⟨(hi10.keep0 hf11).keep hF12 hX12, (hd10.keep0 hf11).keep hF12 (hne12 _ (.inl rfl)) (hne12 _ (.inr (.inl rfl))) (hne12 _ (.inr (.inr rfl))), own_keep (own_keep ha10 hf11 (fun _ _ _ _ e => e)) hF12 (fun k _ _ e q => own_apart hON5.ho hON5.ha (by decide) k q e), ?_, ?_, ?_, Fm.own hF11 hF12 (fun y hy => (ovlt y hy).1), ?_, ?_, ?_, ?_, hDl⟩
      · rw [List.flatMap_append, List.length_append]
        simpa using ho12
      · rw [List.length_append, List.length_append, hCl]; rfl
      · intro q cs' r' h1 h2
        rw [List.getElem?_append] at h1 h2
        rw [hCl] at h1
        by_cases hq : q < out.length
        · rw [if_pos hq] at h1 h2
          exact (((hC10 q cs' r' h1 h2).keep hf11 (fun _ _ e => e)).keep hF12 (fun y hy e => (hON5.hon y e).2 hy)).mono (fun y hy => .inl hy)
        · rw [if_neg hq] at h1 h2
          obtain ⟨rfl, rfl⟩ : cs2 = cs' ∧ r = r' := by
            cases hqq : q - out.length with
            | zero => rw [hqq] at h1 h2; simp at h1 h2; exact ⟨h1, h2⟩
            | succ _ => rw [hqq] at h1; simp at h1
          exact (hheld2.keep hF12 (fun y hy e => by have := (ovlt y e).2; omega)).mono (fun y hy => .inr hy)
      · rintro y (hy | hy)
        · exact hON5.hX y hy
        · have := hON5.hF.size; omega
      · rintro y (hy | hy)
        · obtain ⟨p1, p2, p3⟩ := hON5.hQ y hy
          refine ⟨p1, by omega, ?_⟩
          rintro (e | e)
          · exact p3 e
          · omega
        · have := hON5.hF.size
          refine ⟨by omega, by omega, ?_⟩
          rintro (e | e)
          · have := hON5.hi.lt y e; omega
          · omega
      · intro y hy
        rcases hov y hy with e | e
        · have := (ovlt y e).2
          refine ⟨fun q => hX12 y q e, ?_⟩
          rintro (q | q)
          · exact (hON5.hon y e).2 q
          · omega
        · refine ⟨?_, ?_⟩
          · rintro (q | q)
            · have := hON5.hi.lt y q; omega
            · omega
          · rintro (q | q)
            · have := (hON5.hQ y q).2.1; omega
            · omega
      · intro y hy
        have := (avlt y hy).2
        refine ⟨?_, ?_⟩
        · rintro (q | q)
          · exact (hON5.han y hy).1 q
          · omega
        · rintro (q | q)
          · exact (hON5.han y hy).2 q
          · omega
  · intro kk hkk
    have hlu := (CellsAt.of_own hu).lenV
    have dl : decide (((readGo d i j ((s - 1) / 54) j 0 []).1.length : Int) < ((aheadOf s : Nat) : Int)) = decide ((readGo d i j ((s - 1) / 54) j 0 []).1.length < aheadOf s) := by rw [decide_eq_decide]; omega
    have z3 := hF3.size
    simp only [RS0, RS1, RS2, RS3, RS4, RS5, hlu, dl]
    cases hl : decide ((readGo d i j ((s - 1) / 54) j 0 []).1.length < aheadOf s) with
    | true =>
      have hall : opnAll d i j s = zeros (aheadOf s) := by unfold opnAll; rw [hl]; rfl
      simp only [RS0, RS1, RS2, RS3, RS4, RS5]
      refine RunS_ok (BRow.make B38 w3 (aheadOf s) (by omega)) ?_
      have hfa := Fm.alloc (fun _ => False) w3 (.cells (bc (List.replicate (aheadOf s) 0)).toArray 5)
      have hrow := own_new (w := w3) (e := 5) (sz := 1) (base := w0.heap.size) (n := aheadOf s) (l := bc (List.replicate (aheadOf s) 0)) (by rw [bc_len]; simp) (by omega) (by unfold maxLen; omega)
      refine hkk _ _ ⟨_, rfl, hi3.keep0 hfa, h.keep0 (Fmf hF3 hfa), ?_, World.ownsRow_nil _ _ _ _, rfl, (fun i cs r h1 => by simp at h1), Fmf hF3 hfa, ?_, (fun y hy => hy.elim), (fun y hy => by cases hy), ?_, hDl⟩
      · rw [hall, Lg.zeros_len']; exact hrow
      · rintro y (rfl | rfl) <;> omega
      · intro y hy
        obtain rfl : w3.heap.size = y := by simpa [Value.ownBlock] using hy
        have := hi3.lt lb (.inl rfl)
        refine ⟨?_, fun e => e⟩
        rintro (e | e) <;> omega
    | false =>
      have hall : opnAll d i j s = (readGo d i j ((s - 1) / 54) j 0 []).1 := by unfold opnAll; rw [hl]; rfl
      simp only [RS0, RS1, RS2, RS3, RS4, RS5]
      refine hkk _ _ ⟨_, rfl, hi3, h.keep0 hF3, ?_, World.ownsRow_nil _ _ _ _, rfl, (fun i cs r h1 => by simp at h1), hF3, ?_, (fun y hy => hy.elim), (fun y hy => by cases hy), ?_, hDl⟩
      · rw [hall]; exact own_base hu z2
      · rintro y (rfl | rfl) <;> omega
      · intro y hy
        have := (own_lt hu y hy).1
        refine ⟨?_, fun e => e⟩
        rintro (e | e) <;> omega
end Go.Proofs.YthbngnlmgplijaaGreatDoor
