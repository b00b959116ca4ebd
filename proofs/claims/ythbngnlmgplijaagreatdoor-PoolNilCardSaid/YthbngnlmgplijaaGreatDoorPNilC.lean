/- Laid for one claim by slim.py out of: RcPure RcMem RcEnc RcEnc2 RcRd RcOut RcDecS DiskPure AlOut AlKp CpsD Disk Disk2. -/
import Derived.Test.YthbngnlmgplijaaGreatDoorPNilB
namespace Go.Proofs.YthbngnlmgplijaaGreatDoor
open Go.Al Go.Proofs
set_option linter.unusedVariables false
set_option linter.unusedSimpArgs false
set_option linter.unusedSectionVars false
set_option maxRecDepth 100000

structure Rc where
  lsn : Int
  prev : Int
  next : Int
  kind : Int
  xid : Int
  page : Int
  slot : Int
  old : Int
  new : Int
  redo : Int
  data : Bs
  slots : List Int
  more : List Int
  imgs : List (Int × Pg)
  pages : List (Int × Int)
  txns : List (Int × Int)
  deriving DecidableEq
/-! ### Laid -/
def numsB (l : List Int) : Bs := l.flatMap encI
def txtB (s : Bs) : Bs := encI s.length ++ s
def listB (l : List Int) : Bs := encI l.length ++ numsB l
def trimZ (s : Bs) : Bs := (s.reverse.dropWhile (· == 0)).reverse
def imgB (m : Int × Pg) : Bs := encI m.1 ++ txtB (trimZ (pEnc m.2).1)
def prB (p : Int × Int) : Bs := encI p.1 ++ encI p.2
def headL (r : Rc) : List Int := [r.lsn, r.prev, r.next, r.kind, r.xid, r.page, r.slot, r.old, r.new, r.redo]
def rBody (r : Rc) : Bs := numsB (headL r) ++ txtB r.data ++ listB r.slots ++ listB r.more ++ encI r.imgs.length ++ r.imgs.flatMap imgB ++ encI r.pages.length ++ r.pages.flatMap prB ++ encI r.txns.length ++ r.txns.flatMap prB
def prs (l : List (Int × Int)) : List Int := l.flatMap fun p => [p.1, p.2]
def rNums (r : Rc) : List Int := [r.lsn, r.prev, r.next, r.redo, r.xid, r.page, r.slot, r.old, r.new] ++ r.slots ++ r.more ++ r.imgs.map (·.1) ++ prs r.pages ++ prs r.txns
def badN (n : Int) : Bool := decide (n < 0) || decide (4611686018427387904 < n)
/-- The first page that cannot be laid. -/
def imgErr : List (Int × Pg) → Int
  | [] => 0
  | m :: l => bif decide (pErr m.2 = 0) then imgErr l else pErr m.2
def rInner (r : Rc) : Bs × Int := bif decide (imgErr r.imgs = 0) then (bif decide (65535 < (rBody r).length) then ([], 3) else (rBody r, 0)) else ([], imgErr r.imgs)
def longR (r : Rc) : Bool := decide (512 < r.data.length) || decide (255 < r.slots.length) || decide (255 < r.more.length) || decide (4 < r.imgs.length) || decide (8192 < r.pages.length) || decide (1024 < r.txns.length)
def rCheck (r : Rc) : Bs × Int :=
  bif decide (r.kind < 1) || decide (13 < r.kind) then ([], 41)
  else bif decide (r.lsn < 1) || (rNums r).any badN then ([], 4)
  else bif longR r then ([], 3) else rInner r
def rEnc (r : Rc) : Bs × Int := bif decide ((rCheck r).2 = 0) then (beN 4 (rCheck r).1.length ++ beN 4 (crc (rCheck r).1) ++ (rCheck r).1, 0) else ([], (rCheck r).2)

/-! ### Read -/
abbrev St2 := Bs × Int
def rn (most : Int) (st : St2) : Int × St2 := rdNum most st.1 st.2
def rt (most : Int) (st : St2) : Bs × St2 :=
  bif decide ((rn most st).2.2 = 0) then (bif decide (((rn most st).2.1.length : Int) < (rn most st).1) then ([], ([], 10)) else ((rn most st).2.1.take (rn most st).1.toNat, ((rn most st).2.1.drop (rn most st).1.toNat, 0))) else ([], (rn most st).2)
def rlGo : Nat → St2 → List Int × St2
  | 0, st => ([], st)
  | n + 1, st => bif decide ((rn 4611686018427387904 st).2.2 = 0) then ((rn 4611686018427387904 st).1 :: (rlGo n (rn 4611686018427387904 st).2).1, (rlGo n (rn 4611686018427387904 st).2).2) else ([(rn 4611686018427387904 st).1], (rn 4611686018427387904 st).2)
def rl (most : Int) (st : St2) : List Int × St2 := rlGo (rn most st).1.toNat (rn most st).2
def padZ (t : Bs) : Bs := t ++ zeros (512 - t.length)
def riGo : Nat → St2 → Option (List (Int × Pg) × St2)
  | 0, st => some ([], st)
  | n + 1, st => bif decide ((pDec (padZ (rt 512 (rn 4611686018427387904 st).2).1)).2 = 0) && decide ((rt 512 (rn 4611686018427387904 st).2).2.2 = 0) then (riGo n (rt 512 (rn 4611686018427387904 st).2).2).map fun r => (((rn 4611686018427387904 st).1, (pDec (padZ (rt 512 (rn 4611686018427387904 st).2).1)).1) :: r.1, r.2) else none
def rpGo : Nat → St2 → Option (List (Int × Int) × St2)
  | 0, st => some ([], st)
  | n + 1, st => bif decide (st.2 = 0) then (rpGo n (rn 4611686018427387904 (rn 4611686018427387904 st).2).2).map fun r => (((rn 4611686018427387904 st).1, (rn 4611686018427387904 (rn 4611686018427387904 st).2).1) :: r.1, r.2) else none
def ten (s : Bs) : List Int × St2 :=
  let a0 := rn 4611686018427387904 (s, 0)
  let a1 := rn 4611686018427387904 a0.2
  let a2 := rn 4611686018427387904 a1.2
  let a3 := rn 13 a2.2
  let a4 := rn 4611686018427387904 a3.2
  let a5 := rn 4611686018427387904 a4.2
  let a6 := rn 4611686018427387904 a5.2
  let a7 := rn 4611686018427387904 a6.2
  let a8 := rn 4611686018427387904 a7.2
  let a9 := rn 4611686018427387904 a8.2
  ([a0.1, a1.1, a2.1, a3.1, a4.1, a5.1, a6.1, a7.1, a8.1, a9.1], a9.2)
def gI (l : List Int) (i : Nat) : Int := l.getD i 0
def tailP (a : List Int) (st : St2) : Option Rc :=
  let t := rt 512 st
  let sl := rl 255 t.2
  let mo := rl 255 sl.2
  let ni := rn 4 mo.2
  (riGo ni.1.toNat ni.2).bind fun im =>
  (rpGo (rn 8192 im.2).1.toNat (rn 8192 im.2).2).bind fun pg =>
  (rpGo (rn 1024 pg.2).1.toNat (rn 1024 pg.2).2).bind fun tx =>
  bif decide (endE tx.2.1 tx.2.2 = 0) then some ⟨gI a 0, gI a 1, gI a 2, gI a 3, gI a 4, gI a 5, gI a 6, gI a 7, gI a 8, gI a 9, t.1, sl.1, mo.1, im.1, pg.1, tx.1⟩ else none
def outerP (s : Bs) : Option Rc := tailP (ten s).1 (ten s).2
/-- What bytes begin with: the record, how many bytes, what is wrong. -/
def rDec (d : Bs) : Option Rc × Nat × Int :=
  bif decide (d.length < 8) then (none, 0, 40)
  else bif decide (ofN (d.take 4) = 0) || decide (65535 < ofN (d.take 4)) then (none, 0, 41)
  else bif decide (d.length < 8 + ofN (d.take 4)) then (none, 0, 40)
  else bif !decide (ofN ((d.drop 4).take 4) = crc ((d.drop 8).take (ofN (d.take 4)))) then (none, 0, 30)
  else match outerP ((d.drop 8).take (ofN (d.take 4))) with
    | none => (none, 0, 41)
    | some x => bif decide ((rCheck x).2 = 0) && decide ((rCheck x).1 = (d.drop 8).take (ofN (d.take 4))) then (some x, 8 + ofN (d.take 4), 0) else (none, 0, 41)

/-! ### What is laid is read -/
def okN (n : Int) : Prop := 0 ≤ n ∧ n ≤ 4611686018427387904
theorem encI_nat (n : Nat) : encI n = encN n := by
  unfold encI; rw [show (max (n : Int) 0).toNat = n by omega]
theorem rn_enc {n most : Int} (h0 : 0 ≤ n) (h1 : n ≤ most) (hm : most ≤ 4611686018427387904) (t : Bs) : rn most (encI n ++ t, 0) = (n, (t, 0)) := by
  obtain ⟨k, rfl⟩ := Int.eq_ofNat_of_zero_le h0
  unfold rn rdNum
  rw [decide_eq_true rfl, cond_true, encI_nat]
  have := rdN_enc most 9 0 k 0 t (by omega) (by omega) (by omega) (by simp only [Nat.pow_zero, Nat.mul_one, Nat.zero_add]; omega)
  simp only [Nat.pow_zero, Nat.mul_one, Nat.zero_add] at this
  exact this
theorem rt_enc {s : Bs} {most : Int} (h1 : (s.length : Int) ≤ most) (hm : most ≤ 4611686018427387904) (t : Bs) : rt most (txtB s ++ t, 0) = (s, (t, 0)) := by
  have := rn_enc (n := s.length) (most := most) (by omega) h1 hm (s ++ t)
  unfold rt txtB
  rw [List.append_assoc, this]
  simp only [decide_true, cond_true]
  rw [decide_eq_false (by rw [List.length_append]; omega), cond_false, Int.toNat_natCast, List.take_left, List.drop_left]
theorem rlGo_enc : ∀ (l : List Int) (t : Bs), (∀ n ∈ l, okN n) → rlGo l.length (numsB l ++ t, 0) = (l, (t, 0))
  | [], t, _ => rfl
  | n :: l, t, h => by
    have h0 := h n (by simp)
    have ih := rlGo_enc l t (fun m hm => h m (by simp [hm]))
    have e : numsB (n :: l) ++ t = encI n ++ (numsB l ++ t) := by simp [numsB]
    rw [List.length_cons, rlGo, e, rn_enc h0.1 h0.2 (Int.le_refl _)]
    simp only [decide_true, cond_true]
    rw [ih]
theorem rl_enc {l : List Int} {most : Int} (h1 : (l.length : Int) ≤ most) (hm : most ≤ 4611686018427387904) (h : ∀ n ∈ l, okN n) (t : Bs) : rl most (listB l ++ t, 0) = (l, (t, 0)) := by
  unfold rl listB
  rw [List.append_assoc, rn_enc (by omega) h1 hm]
  simp only [Int.toNat_natCast]
  exact rlGo_enc l t h
theorem trim_pad {s : Bs} (h : s.length = 512) : padZ (trimZ s) = s ∧ (trimZ s).length ≤ 512 := by
  have key : ∀ l : Bs, ∃ n, l = List.replicate n 0 ++ l.dropWhile (· == 0) := by
    intro l
    induction l with
    | nil => exact ⟨0, rfl⟩
    | cons x l ih =>
      rw [List.dropWhile_cons]
      by_cases hx : x = 0
      · subst hx
        obtain ⟨n, hn⟩ := ih
        refine ⟨n + 1, ?_⟩
        simp only [beq_self_eq_true, if_true, List.replicate_succ, List.cons_append]
        rw [← hn]
      · refine ⟨0, ?_⟩
        rw [if_neg (by simpa using hx)]; rfl
  obtain ⟨n, hn⟩ := key s.reverse
  have h1 : s = trimZ s ++ zeros n := by
    have := congrArg List.reverse hn
    rw [List.reverse_reverse, List.reverse_append, List.reverse_replicate] at this
    exact this
  have hl := congrArg List.length h1
  rw [List.length_append, zeros_len] at hl
  refine ⟨?_, by omega⟩
  unfold padZ
  rw [show 512 - (trimZ s).length = n by omega]
  exact h1.symm
theorem imgErr_ok {l : List (Int × Pg)} (h : imgErr l = 0) : ∀ m ∈ l, pErr m.2 = 0 := by
  induction l with
  | nil => intro m hm; cases hm
  | cons x l ih =>
    unfold imgErr at h
    cases hx : decide (pErr x.2 = 0) with
    | true =>
      rw [hx, cond_true] at h
      intro m hm
      rcases List.mem_cons.1 hm with rfl | hm
      · simpa using hx
      · exact ih h m hm
    | false =>
      rw [hx, cond_false] at h
      rw [decide_eq_false_iff_not] at hx
      exact absurd h hx
theorem riGo_enc : ∀ (l : List (Int × Pg)) (t : Bs), (∀ m ∈ l, okN m.1 ∧ pErr m.2 = 0 ∧ m.2.lsn ≤ 9223372036854775807) → riGo l.length (l.flatMap imgB ++ t, 0) = some (l, (t, 0))
  | [], t, _ => rfl
  | m :: l, t, h => by
    obtain ⟨h0, h1, h2⟩ := h m (by simp)
    have ih := riGo_enc l t (fun m hm => h m (by simp [hm]))
    have e : (m :: l).flatMap imgB ++ t = encI m.1 ++ (txtB (trimZ (pEnc m.2).1) ++ (l.flatMap imgB ++ t)) := by simp [imgB]
    obtain ⟨e1, e2⟩ := trim_pad (pEnc_len h1)
    rw [List.length_cons, riGo, e, rn_enc h0.1 h0.2 (Int.le_refl _)]
    simp only
    rw [rt_enc (by omega) (by omega)]
    simp only
    rw [e1, dec_enc h1 h2, ih]
    rfl
theorem rpGo_enc : ∀ (l : List (Int × Int)) (t : Bs), (∀ m ∈ l, okN m.1 ∧ okN m.2) → rpGo l.length (l.flatMap prB ++ t, 0) = some (l, (t, 0))
  | [], t, _ => rfl
  | m :: l, t, h => by
    obtain ⟨h0, h1⟩ := h m (by simp)
    have ih := rpGo_enc l t (fun m hm => h m (by simp [hm]))
    have e : (m :: l).flatMap prB ++ t = encI m.1 ++ (encI m.2 ++ (l.flatMap prB ++ t)) := by simp [prB]
    rw [List.length_cons, rpGo, e, rn_enc h0.1 h0.2 (Int.le_refl _)]
    simp only
    rw [rn_enc h1.1 h1.2 (Int.le_refl _), ih]
    rfl
structure Good (r : Rc) : Prop where
  kind : 1 ≤ r.kind ∧ r.kind ≤ 13
  nums : ∀ n ∈ rNums r, okN n
  data : r.data.length ≤ 512
  slots : r.slots.length ≤ 255
  more : r.more.length ≤ 255
  imgs : r.imgs.length ≤ 4
  pages : r.pages.length ≤ 8192
  txns : r.txns.length ≤ 1024
  img : ∀ m ∈ r.imgs, pErr m.2 = 0
  lsns : ∀ m ∈ r.imgs, m.2.lsn ≤ 9223372036854775807
theorem badN_ok {n : Int} (h : badN n = false) : okN n := by
  unfold badN at h
  rw [Bool.or_eq_false_iff, decide_eq_false_iff_not, decide_eq_false_iff_not] at h
  unfold okN; omega
theorem rCheck_ok {r : Rc} (h : (rCheck r).2 = 0) (hl : ∀ m ∈ r.imgs, m.2.lsn ≤ 9223372036854775807) : Good r ∧ 1 ≤ r.lsn ∧ (rCheck r).1 = rBody r ∧ (rBody r).length ≤ 65535 := by
  unfold rCheck at h ⊢
  cases h1 : decide (r.kind < 1) || decide (13 < r.kind) with
  | true => rw [h1, cond_true] at h; cases h
  | false =>
  rw [h1, cond_false] at h
  cases h2 : decide (r.lsn < 1) || (rNums r).any badN with
  | true => rw [h2, cond_true] at h; cases h
  | false =>
  rw [h2, cond_false] at h
  cases h3 : longR r with
  | true => rw [h3, cond_true] at h; cases h
  | false =>
  rw [h3, cond_false] at h
  simp only [cond_false]
  unfold rInner at h ⊢
  cases h4 : decide (imgErr r.imgs = 0) with
  | false =>
    rw [h4, cond_false] at h
    rw [decide_eq_false_iff_not] at h4
    exact absurd h h4
  | true =>
  rw [h4, cond_true] at h
  cases h5 : decide (65535 < (rBody r).length) with
  | true => rw [h5, cond_true] at h; cases h
  | false =>
  simp only [cond_true, cond_false]
  rw [Bool.or_eq_false_iff, decide_eq_false_iff_not, decide_eq_false_iff_not] at h1
  rw [Bool.or_eq_false_iff, decide_eq_false_iff_not] at h2
  simp only [longR, Bool.or_eq_false_iff, decide_eq_false_iff_not] at h3
  rw [decide_eq_true_eq] at h4
  rw [decide_eq_false_iff_not] at h5
  refine ⟨⟨by omega, fun n hn => badN_ok ?_, by omega, by omega, by omega, by omega, by omega, by omega, imgErr_ok h4, hl⟩, by omega, trivial, by omega⟩
  have := List.any_eq_false.1 h2.2 n hn
  simpa using this
theorem mem_prs {l : List (Int × Int)} {p : Int × Int} (h : p ∈ l) : p.1 ∈ prs l ∧ p.2 ∈ prs l := by
  unfold prs
  exact ⟨List.mem_flatMap.2 ⟨p, h, by simp⟩, List.mem_flatMap.2 ⟨p, h, by simp⟩⟩
theorem ten_enc {r : Rc} (h : Good r) (t : Bs) : ten (numsB (headL r) ++ t) = (headL r, (t, 0)) := by
  have hn : ∀ n, n ∈ [r.lsn, r.prev, r.next, r.redo, r.xid, r.page, r.slot, r.old, r.new] → okN n := fun n hm => h.nums n (by unfold rNums; simp only [List.mem_append]; exact .inl (.inl (.inl (.inl (.inl hm)))))
  have e : numsB (headL r) ++ t = encI r.lsn ++ (encI r.prev ++ (encI r.next ++ (encI r.kind ++ (encI r.xid ++ (encI r.page ++ (encI r.slot ++ (encI r.old ++ (encI r.new ++ (encI r.redo ++ t))))))))) := by simp [numsB, headL]
  have hk := h.kind
  have q := fun n hm t => rn_enc (hn n hm).1 (hn n hm).2 (Int.le_refl _) t
  have q0 := q r.lsn (by simp)
  have q1 := q r.prev (by simp)
  have q2 := q r.next (by simp)
  have q4 := q r.xid (by simp)
  have q5 := q r.page (by simp)
  have q6 := q r.slot (by simp)
  have q7 := q r.old (by simp)
  have q8 := q r.new (by simp)
  have q9 := q r.redo (by simp)
  have q3 : ∀ t, rn 13 (encI r.kind ++ t, 0) = (r.kind, (t, 0)) := fun t => rn_enc (by omega) hk.2 (by omega) t
  rw [e]
  simp only [ten, q0, q1, q2, q3, q4, q5, q6, q7, q8, q9]
  rfl
theorem outer_enc {r : Rc} (h : Good r) : outerP (rBody r) = some r := by
  have e : rBody r = numsB (headL r) ++ (txtB r.data ++ (listB r.slots ++ (listB r.more ++ (encI (r.imgs.length : Int) ++ (r.imgs.flatMap imgB ++ (encI (r.pages.length : Int) ++ (r.pages.flatMap prB ++ (encI (r.txns.length : Int) ++ (r.txns.flatMap prB ++ []))))))))) := by simp [rBody]
  have hd := h.data
  have hs := h.slots
  have hm := h.more
  have hi := h.imgs
  have hp := h.pages
  have ht := h.txns
  unfold outerP
  rw [e, ten_enc h]
  simp only [tailP]
  rw [rt_enc (by omega) (by omega)]
  simp only
  rw [rl_enc (by omega) (by omega) (fun n hn => h.nums n (by unfold rNums; simp only [List.mem_append]; exact .inl (.inl (.inl (.inl (.inr hn))))))]
  simp only
  rw [rl_enc (by omega) (by omega) (fun n hn => h.nums n (by unfold rNums; simp only [List.mem_append]; exact .inl (.inl (.inl (.inr hn)))))]
  simp only
  rw [rn_enc (by omega) (by omega) (by omega)]
  simp only [Int.toNat_natCast]
  rw [riGo_enc _ _ (fun m hm => ⟨h.nums _ (by unfold rNums; simp only [List.mem_append]; exact .inl (.inl (.inr (List.mem_map.2 ⟨m, hm, rfl⟩)))), h.img m hm, h.lsns m hm⟩)]
  simp only [Option.bind_some]
  rw [rn_enc (by omega) (by omega) (by omega)]
  simp only [Int.toNat_natCast]
  rw [rpGo_enc _ _ (fun m hm => ⟨h.nums _ (by unfold rNums; simp only [List.mem_append]; exact .inl (.inr (mem_prs hm).1)), h.nums _ (by unfold rNums; simp only [List.mem_append]; exact .inl (.inr (mem_prs hm).2))⟩)]
  simp only [Option.bind_some]
  rw [rn_enc (by omega) (by omega) (by omega)]
  simp only [Int.toNat_natCast]
  rw [rpGo_enc _ _ (fun m hm => ⟨h.nums _ (by unfold rNums; simp only [List.mem_append]; exact .inr (mem_prs hm).1), h.nums _ (by unfold rNums; simp only [List.mem_append]; exact .inr (mem_prs hm).2)⟩)]
  rfl

end Go.Proofs.YthbngnlmgplijaaGreatDoor

namespace Go.Proofs.YthbngnlmgplijaaGreatDoor
open Go.Al Go.Proofs
set_option linter.unusedVariables false
set_option linter.unusedSimpArgs false
set_option linter.unusedSectionVars false
set_option maxRecDepth 100000

theorem E47 : ElemT Tryz.prog 23 3 1 8 := elemT_of Tryz.underlying23 (by kernel_rfl)
/-- Cells, one behind the other, as one value. -/
theorem cellsV_of {w : World} {ad : Addr} {l : List Value} {n : Nat} (hl : l.length = n) (h : ∀ j, j < n → w.cell? (ad.add j) = l[j]?) : cellsV w ad n = some (.agg l.toArray) := by
  have key : ∀ (m j : Nat), j + m ≤ n → cellsAt w ad j m = some ((l.drop j).take m) := by
    intro m
    induction m with
    | zero => intro j hj; simp [cellsAt]
    | succ m ih =>
      intro j hj
      have hlt : j < l.length := by omega
      have hcell := h j (by omega)
      rw [List.getElem?_eq_getElem hlt] at hcell
      simp only [cellsAt, hcell, ih (j + 1) (by omega), Option.map_some]
      rw [List.drop_eq_getElem_cons hlt, List.take_succ_cons]
  unfold cellsV
  rw [key n 0 (by omega)]
  simp only [List.drop_zero, Option.map_some]
  rw [List.take_of_length_le (by omega)]
theorem flat_get {α : Type} {f : α → List Value} {n : Nat} (hf : ∀ x, (f x).length = n) {L : List α} {i : Nat} {x : α} (h : L[i]? = some x) {j : Nat} (hj : j < n) : (L.flatMap f)[i * n + j]? = (f x)[j]? := by
  induction L generalizing i with
  | nil => simp at h
  | cons y L ih =>
    rw [List.flatMap_cons]
    cases i with
    | zero =>
      simp at h; subst h
      rw [Nat.zero_mul, Nat.zero_add, List.getElem?_append_left (by rw [hf]; exact hj)]
    | succ i =>
      rw [List.getElem?_append_right (by rw [hf, Nat.succ_mul]; omega), hf, Nat.succ_mul]
      rw [show i * n + n + j - n = i * n + j by omega]
      exact ih (by simpa using h)
theorem flat_len {α : Type} {f : α → List Value} {n : Nat} (hf : ∀ x, (f x).length = n) (L : List α) : (L.flatMap f).length = L.length * n := by
  induction L with
  | nil => simp
  | cons y L ih => rw [List.flatMap_cons, List.length_append, hf, ih, List.length_cons, Nat.succ_mul]; omega
theorem cells_ld {α : Type} {f : α → List Value} {n : Nat} (hf : ∀ x, (f x).length = n) (hn : 0 < n) {w : World} {v : Value} {L : List α} (h : CellsAt w v L.length n (L.flatMap f)) {i : Nat} {x : α} (hx : L[i]? = some x) :
    ∃ ad, ixV n v (iv i) = some (.pointer (some ad)) ∧ cellsV w ad n = some (.agg (f x).toArray) ∧ blockOf v = some ad.block := by
  obtain ⟨ad, h1, h2, h3⟩ := h.at hn (List.getElem?_eq_some_iff.1 hx).1 .i64
  exact ⟨ad, h1, cellsV_of (hf x) (fun j hj => by rw [h3 j hj, flat_get hf hx hj]), h2⟩
theorem own_new {w : World} {e : TypeId} {sz base n : Nat} {l : List Value} (hl : l.length = n * sz) (hb : base ≤ w.heap.size) (hn : n ≤ maxLen) : (w.alloc (.cells l.toArray e)).ownsRow base e sz (.slice (some ⟨w.heap.size, 0, none⟩) n n) n l :=
  ⟨hl, .inr ⟨_, n, l.toArray, rfl, hb, alloc_new _ _, Nat.le_refl _, hn, by simp [hl], by simp [← hl]⟩⟩
theorem own_up {w : World} {base base' : Nat} {e : TypeId} {sz : Nat} {v : Value} {n : Nat} {xs : List Value} (h : w.ownsRow base e sz v n xs) (hb : ∀ k, v.ownBlock = some k → base' ≤ k) : w.ownsRow base' e sz v n xs := by
  refine ⟨h.1, ?_⟩
  rcases h.2 with h2 | ⟨g, cap, cur, rfl, hb', r⟩
  · exact .inl h2
  · exact .inr ⟨g, cap, cur, rfl, hb g rfl, r⟩

/-! ### A record -/
def pc2 (p : Int × Int) : List Value := [iv p.1, iv p.2]
theorem pc2_len (p : Int × Int) : (pc2 p).length = 2 := rfl
theorem pc2_prs (l : List (Int × Int)) : l.flatMap pc2 = (prs l).map iv := by
  induction l with
  | nil => rfl
  | cons p l ih => rw [List.flatMap_cons, ih]; rfl
def imC (x : Int × Pg × Value) : List Value := iv x.1 :: (pcs x.2.1 x.2.2).toList
theorem imC_len (x : Int × Pg × Value) : (imC x).length = 7 := rfl
def rcs (r : Rc) (vs vm vi vp vt : Value) : Array Value := #[iv r.lsn, iv r.prev, iv r.next, .int .u8 r.kind, iv r.xid, iv r.page, iv r.slot, iv r.old, iv r.new, iv r.redo, stv r.data, vs, vm, vi, vp, vt]
/-- A slice of images. -/
structure ImAs (w : World) (v : Value) (L : List (Int × Pg)) : Prop where
  ex : ∃ X : List (Int × Pg × Value), X.map (fun x => (x.1, x.2.1)) = L ∧ CellsAt w v X.length 7 (X.flatMap imC) ∧ ∀ x ∈ X, x.2.2.oneCell' = true ∧ PgAs w (pcs x.2.1 x.2.2) x.2.1
theorem ImAs.keep {w w' : World} {v : Value} {L : List (Int × Pg)} (h : ImAs w v L) (hf : Fm (fun _ => False) w w') : ImAs w' v L := by
  obtain ⟨X, h1, h2, h3⟩ := h.ex
  exact ⟨X, h1, h2.keep hf (fun _ _ e => e), fun x hx => ⟨(h3 x hx).1, (h3 x hx).2.keep hf⟩⟩
theorem ImAs.lenV {w : World} {v : Value} {L : List (Int × Pg)} (h : ImAs w v L) : lenV v = some (iv L.length) := by
  obtain ⟨X, h1, h2, h3⟩ := h.ex
  rw [← h1, List.length_map]; exact h2.lenV
theorem ImAs.ld {w : World} {v : Value} {L : List (Int × Pg)} (h : ImAs w v L) {i : Nat} {m : Int × Pg} (hi : L[i]? = some m) : ∃ ad u, ixV 7 v (iv i) = some (.pointer (some ad)) ∧ cellsV w ad 7 = some (.agg (imC (m.1, m.2, u)).toArray) ∧ u.oneCell' = true ∧ PgAs w (pcs m.2 u) m.2 := by
  obtain ⟨X, h1, h2, h3⟩ := h.ex
  rw [← h1, List.getElem?_map, Option.map_eq_some_iff] at hi
  obtain ⟨x, hx, rfl⟩ := hi
  obtain ⟨ad, q1, q2, _⟩ := cells_ld imC_len (by omega) h2 hx
  obtain ⟨q3, q4⟩ := h3 x (List.mem_of_getElem? hx)
  exact ⟨ad, x.2.2, q1, q2, q3, q4⟩
structure RcAs (w : World) (cs : Array Value) (r : Rc) : Prop where
  ex : ∃ vs vm vi vp vt, cs = rcs r vs vm vi vp vt ∧ (vs.oneCell' = true ∧ vm.oneCell' = true ∧ vi.oneCell' = true ∧ vp.oneCell' = true ∧ vt.oneCell' = true) ∧ CellsAt w vs r.slots.length 1 (r.slots.map iv) ∧ CellsAt w vm r.more.length 1 (r.more.map iv) ∧ ImAs w vi r.imgs ∧
    CellsAt w vp r.pages.length 2 (r.pages.flatMap pc2) ∧ CellsAt w vt r.txns.length 2 (r.txns.flatMap pc2)
  ins : ∀ n ∈ rNums r, In n
  kin : 0 ≤ r.kind ∧ r.kind ≤ 255
  data : r.data.length ≤ 140737488355328
  bulk : r.slots.length + r.more.length + r.imgs.length + r.pages.length + r.txns.length ≤ 2000000
  lsns : ∀ m ∈ r.imgs, m.2.lsn ≤ 9223372036854775807
theorem RcAs.keep {w w' : World} {cs : Array Value} {r : Rc} (h : RcAs w cs r) (hf : Fm (fun _ => False) w w') : RcAs w' cs r := by
  obtain ⟨vs, vm, vi, vp, vt, h1, h2, h3, h4, h5, h6, h7⟩ := h.ex
  exact ⟨⟨vs, vm, vi, vp, vt, h1, h2, h3.keep hf (fun _ _ e => e), h4.keep hf (fun _ _ e => e), h5.keep hf, h6.keep hf (fun _ _ e => e), h7.keep hf (fun _ _ e => e)⟩, h.ins, h.kin, h.data, h.bulk, h.lsns⟩
theorem RcAs.size {w : World} {cs : Array Value} {r : Rc} (h : RcAs w cs r) : cs.size = 16 := by obtain ⟨vs, vm, vi, vp, vt, rfl, _⟩ := h.ex; rfl
theorem RcAs.one {w : World} {cs : Array Value} {r : Rc} (h : RcAs w cs r) : ∀ u ∈ cs.toList, u.oneCell' = true := by
  obtain ⟨vs, vm, vi, vp, vt, rfl, ⟨h1, h2, h3, h4, h5⟩, _⟩ := h.ex
  intro u hu
  simp [rcs] at hu
  rcases hu with rfl | rfl | rfl | rfl | rfl | rfl | rfl | rfl | rfl | rfl | rfl | rfl | rfl | rfl | rfl | rfl <;> first | rfl | assumption
/-- A record's block. -/
structure RB (w : World) (g : Nat) (r : Rc) (vs vm vi vp vt : Value) : Prop where
  h : w.heap[g]? = some (.cells (rcs r vs vm vi vp vt) 28)
section
variable {S : Nat → Prop} {w w' : World} {g : Nat} {r : Rc} {vs vm vi vp vt : Value}
theorem RB.keep (h : RB w g r vs vm vi vp vt) (hf : Fm S w w') (hs : ¬ S g) : RB w' g r vs vm vi vp vt := ⟨hf.heap h.h hs⟩
theorem RB.c0 (h : RB w g r vs vm vi vp vt) : w.cell? ⟨g, 0, none⟩ = some (iv r.lsn) := by rw [cell_at h.h]; rfl
theorem RB.c1 (h : RB w g r vs vm vi vp vt) : w.cell? ⟨g, 1, none⟩ = some (iv r.prev) := by rw [cell_at h.h]; rfl
theorem RB.c2 (h : RB w g r vs vm vi vp vt) : w.cell? ⟨g, 2, none⟩ = some (iv r.next) := by rw [cell_at h.h]; rfl
theorem RB.c3 (h : RB w g r vs vm vi vp vt) : w.cell? ⟨g, 3, none⟩ = some (.int .u8 r.kind) := by rw [cell_at h.h]; rfl
theorem RB.c4 (h : RB w g r vs vm vi vp vt) : w.cell? ⟨g, 4, none⟩ = some (iv r.xid) := by rw [cell_at h.h]; rfl
theorem RB.c5 (h : RB w g r vs vm vi vp vt) : w.cell? ⟨g, 5, none⟩ = some (iv r.page) := by rw [cell_at h.h]; rfl
theorem RB.c6 (h : RB w g r vs vm vi vp vt) : w.cell? ⟨g, 6, none⟩ = some (iv r.slot) := by rw [cell_at h.h]; rfl
theorem RB.c7 (h : RB w g r vs vm vi vp vt) : w.cell? ⟨g, 7, none⟩ = some (iv r.old) := by rw [cell_at h.h]; rfl
theorem RB.c8 (h : RB w g r vs vm vi vp vt) : w.cell? ⟨g, 8, none⟩ = some (iv r.new) := by rw [cell_at h.h]; rfl
theorem RB.c9 (h : RB w g r vs vm vi vp vt) : w.cell? ⟨g, 9, none⟩ = some (iv r.redo) := by rw [cell_at h.h]; rfl
theorem RB.c10 (h : RB w g r vs vm vi vp vt) : w.cell? ⟨g, 10, none⟩ = some (stv r.data) := by rw [cell_at h.h]; rfl
theorem RB.c11 (h : RB w g r vs vm vi vp vt) : w.cell? ⟨g, 11, none⟩ = some vs := by rw [cell_at h.h]; rfl
theorem RB.c12 (h : RB w g r vs vm vi vp vt) : w.cell? ⟨g, 12, none⟩ = some vm := by rw [cell_at h.h]; rfl
theorem RB.c13 (h : RB w g r vs vm vi vp vt) : w.cell? ⟨g, 13, none⟩ = some vi := by rw [cell_at h.h]; rfl
theorem RB.c14 (h : RB w g r vs vm vi vp vt) : w.cell? ⟨g, 14, none⟩ = some vp := by rw [cell_at h.h]; rfl
theorem RB.c15 (h : RB w g r vs vm vi vp vt) : w.cell? ⟨g, 15, none⟩ = some vt := by rw [cell_at h.h]; rfl
theorem RB.all (h : RB w g r vs vm vi vp vt) : cellsV w ⟨g, 0, none⟩ 16 = some (.agg (rcs r vs vm vi vp vt)) := cellsV_blk h.h rfl
theorem RB.lt (h : RB w g r vs vm vi vp vt) : g < w.heap.size := lt_of_heap h.h
end

/-! ### A writer of the call's own -/
structure WS (w0 w : World) (r : Nat) (B : Bs) : Prop where
  ex : ∃ v, w.heap[r]? = some (.cells #[v] 243) ∧ w.ownsRow w0.heap.size 5 1 v B.length (bc B)
  fm : Fm (fun _ => False) w0 w
  ge : w0.heap.size ≤ r
theorem WS.wr {w0 w : World} {r : Nat} {B : Bs} (h : WS w0 w r B) : WrAt w r B ∧ ∀ y, wrM w r y → w0.heap.size ≤ y ∧ y < w.heap.size := by
  obtain ⟨v, hv, ho⟩ := h.ex
  refine ⟨⟨v, hv, own_base ho (Nat.zero_le _)⟩, ?_⟩
  rintro y (rfl | ⟨v', hv', hy⟩)
  · exact ⟨h.ge, lt_of_heap hv⟩
  · rw [hv] at hv'; cases hv'; exact own_lt ho y hy
theorem WS.of {w0 w w' : World} {r : Nat} {B B' : Bs} {S : Nat → Prop} (h : WS w0 w r B) (h' : WrAt w' r B') (hf : Fm S w w') (hS : ∀ y, S y → w0.heap.size ≤ y) (hM : ∀ y, wrM w' r y → wrM w r y ∨ w.heap.size ≤ y) : WS w0 w' r B' := by
  obtain ⟨v, hv, ho⟩ := h'.ex
  have hz := h.fm.size
  refine ⟨⟨v, hv, own_up ho (fun k hk => ?_)⟩, Fm.own h.fm hf hS, h.ge⟩
  rcases hM k (.inr ⟨v, hv, hk⟩) with e | e
  · exact (h.wr.2 k e).1
  · omega
theorem WS.keep {w0 w w' : World} {r : Nat} {B : Bs} (h : WS w0 w r B) (hf : Fm (fun _ => False) w w') : WS w0 w' r B := by
  obtain ⟨v, hv, ho⟩ := h.ex
  exact ⟨⟨v, hf.heap hv (fun e => e), own_keep ho hf (fun _ _ _ _ e => e)⟩, Fmf h.fm hf, h.ge⟩
theorem WS.new {w0 w : World} (hf : Fm (fun _ => False) w0 w) {k : KV} (hk : ∀ w' r, WS w0 w' r [] → Fm (fun _ => False) w w' → k (pv r) w') : Cl Tryz.prog 199 [] w k := by
  refine (bnew_spec w).mono ?_
  rintro _ w' ⟨rfl, h1, h2, h3⟩
  have hz := hf.size
  obtain ⟨v, hv, ho⟩ := h1.ex
  refine hk w' _ ⟨⟨v, hv, own_up ho (fun k hk => ?_)⟩, Fmf hf h3, hz⟩ h3
  have := h2 k (.inr ⟨v, hv, hk⟩)
  omega
theorem WS.num {w0 w : World} {r : Nat} {B : Bs} (h : WS w0 w r B) {v : Value} {ns : List Int} (hns : CellsAt w v ns.length 1 (ns.map iv)) (hb : ns ≠ [] → ∀ g, blockOf v = some g → g < w0.heap.size) (hin : ∀ n ∈ ns, n ≤ 9223372036854775807) (hl : B.length + 9 * ns.length ≤ 1000000000000) {k : KV}
    (hk : ∀ u w', WS w0 w' r (B ++ numsB ns) → k u w') : Cl Tryz.prog 200 [pv r, v] w k := by
  obtain ⟨hw, hm⟩ := h.wr
  refine (wnum_spec hw hns (fun hne g hg e => by have := hb hne g hg; have := (hm g e).1; omega) hin hl).mono ?_
  rintro u w' ⟨h1, h2, h3⟩
  exact hk u w' (h.of h1 h2 (fun y hy => (hm y hy).1) h3)
theorem WS.lit {w0 w : World} {r n : Nat} {B : Bs} (h : WS w0 w r B) {ns : List Int} {items : Array (Nat × Value)} (hb : (Instr.buildSlice 23 n items).run Tryz.prog w = .ok (.slice (some ⟨w.heap.size, 0, none⟩) n n) (w.alloc (.cells (ns.map iv).toArray 3))) (hn : ns.length = n) (hin : ∀ n ∈ ns, n ≤ 9223372036854775807) (hl : B.length + 9 * n ≤ 1000000000000) {k : KV}
    (hk : ∀ u w', WS w0 w' r (B ++ numsB ns) → k u w') : RunS Tryz.prog (Instr.buildSlice 23 n items) w fun t w1 => Cl Tryz.prog 200 [pv r, t] w1 k := by
  refine RunS_ok hb ?_
  subst hn
  have hf := Fm.alloc (fun _ => False) w (.cells (ns.map iv).toArray 3)
  have ho := own_new (w := w) (e := 3) (sz := 1) (base := w.heap.size) (n := ns.length) (l := ns.map iv) (by simp) (Nat.le_refl _) (by unfold maxLen; omega)
  have h1 := h.keep hf
  obtain ⟨hw, hm⟩ := h.wr
  generalize w.alloc (.cells (ns.map iv).toArray 3) = w1 at hf ho h1
  obtain ⟨hw1, hm1⟩ := h1.wr
  have hsame : ∀ y, wrM w1 r y → y < w.heap.size := fun y hy => by
    obtain ⟨_, e⟩ := hw.keep hf (fun _ _ e => e)
    exact hw.lt y ((e y).1 hy)
  refine (wnum_spec hw1 (CellsAt.of_own ho) (fun hne g hg e => ?_) hin hl).mono ?_
  · have h0 := hsame g e
    have h1 : g = w.heap.size := (Option.some.inj hg).symm
    omega
  · rintro u w' ⟨g1, g2, g3⟩
    exact hk u w' (h1.of g1 g2 (fun y hy => (hm1 y hy).1) g3)
theorem bs47_1 (a : Int) (w : World) : (Instr.buildSlice 23 1 #[(0, iv a)]).run Tryz.prog w = .ok (.slice (some ⟨w.heap.size, 0, none⟩) 1 1) (w.alloc (.cells ([a].map iv).toArray 3)) := by kernel_rfl
theorem bs47_2 (a b : Int) (w : World) : (Instr.buildSlice 23 2 #[(0, iv a), (1, iv b)]).run Tryz.prog w = .ok (.slice (some ⟨w.heap.size, 0, none⟩) 2 2) (w.alloc (.cells ([a, b].map iv).toArray 3)) := by kernel_rfl
theorem bs47_9 (a b c d e f g h i : Int) (w : World) : (Instr.buildSlice 23 9 #[(0, iv a), (1, iv b), (2, iv c), (3, iv d), (4, iv e), (5, iv f), (6, iv g), (7, iv h), (8, iv i)]).run Tryz.prog w = .ok (.slice (some ⟨w.heap.size, 0, none⟩) 9 9) (w.alloc (.cells ([a, b, c, d, e, f, g, h, i].map iv).toArray 3)) := by kernel_rfl
theorem bs47_10 (a b c d e f g h i j : Int) (w : World) : (Instr.buildSlice 23 10 #[(0, iv a), (1, iv b), (2, iv c), (3, iv d), (4, iv e), (5, iv f), (6, iv g), (7, iv h), (8, iv i), (9, iv j)]).run Tryz.prog w = .ok (.slice (some ⟨w.heap.size, 0, none⟩) 10 10) (w.alloc (.cells ([a, b, c, d, e, f, g, h, i, j].map iv).toArray 3)) := by kernel_rfl
theorem numsB1 (a : Int) : numsB [a] = encI a := by simp [numsB]
theorem encI_len {n : Int} (h : n ≤ 9223372036854775807) : (encI n).length ≤ 9 := by unfold encI; exact (encN_le (by omega)).2
theorem numsB_len : ∀ {l : List Int}, (∀ n ∈ l, n ≤ 9223372036854775807) → (numsB l).length ≤ 9 * l.length
  | [], _ => by simp [numsB]
  | n :: l, h => by
    have := numsB_len (l := l) (fun m hm => h m (by simp [hm]))
    have := encI_len (h n (by simp))
    unfold numsB at *
    rw [List.flatMap_cons, List.length_append, List.length_cons]; omega
set_option maxHeartbeats 1000000 in
theorem WS.text {w0 w : World} {r : Nat} {B : Bs} (h : WS w0 w r B) {s : Bs} (hs : s.length ≤ 1000000) (hl : B.length + 9 + s.length ≤ 1000000000) {k : KV} (hk : ∀ u w', WS w0 w' r (B ++ txtB s) → k u w') : Cl Tryz.prog 201 [pv r, stv s] w k := by
  refine c201 ?_; unfold T201
  simp only [RS0, RS1, RS2, RS3, RS4, RS5, str_size]
  refine h.lit (bs47_1 _ _) rfl (by intro n hn; simp at hn; omega) (by omega) ?_
  intro u w1 h1
  rw [numsB1] at h1
  obtain ⟨v, hv, ho⟩ := h1.ex
  have c0 : w1.cell? ⟨r, 0, none⟩ = some v := by rw [cell_at hv]; rfl
  have hel := encI_len (n := s.length) (by omega)
  have hz := h1.fm.size
  simp only [RS0, RS1, RS2, RS3, RS4, RS5, c0]
  obtain ⟨v', w2, hr2, ho2, hf2, _⟩ := append_text B38 ho s 123 (by rw [List.length_append]; omega) hz
  refine RunS_ok hr2 ?_
  have hne : v.ownBlock ≠ some r := fun e => by
    rcases ho.2 with ⟨rfl, _⟩ | ⟨g, cap, cur, rfl, _, hg, _⟩
    · cases e
    · have : g = r := by simpa [Value.ownBlock] using e
      subst this
      rw [hv] at hg; cases hg
  have hlt := own_lt ho
  refine St_blk (hf2.heap hv hne) (by show 0 < 1; decide) (own_one ho2) ?_
  intro w3 hw3 hs3 hf3
  replace hw3 : w3.heap[r]? = some (.cells #[v'] 243) := hw3
  have ho3 : w3.ownsRow w0.heap.size 5 1 v' _ _ := own_keep ho2 hf3 (fun g _ _ hg e => by
    rcases ho2.2 with ⟨rfl, _⟩ | ⟨g', cap, cur, rfl, _, hgg, _⟩
    · cases hg
    · have e1 : g' = g := by simpa [Value.ownBlock] using hg
      rw [e1, e] at hgg
      rw [hf2.heap hv hne] at hgg; cases hgg)
  refine hk _ _ ⟨⟨v', hw3, ?_⟩, Fm.own (Fm.own h1.fm hf2 (fun y hy => (hlt y hy).1)) hf3 (by rintro y rfl; exact h1.ge), h1.ge⟩
  have e1 : (B ++ txtB s) = (B ++ encI s.length) ++ s := by simp [txtB]
  rw [e1]
  have e2 : ((B ++ encI s.length) ++ s).length = (B ++ encI s.length).length + s.length := List.length_append
  rw [e2]
  exact ho3

end Go.Proofs.YthbngnlmgplijaaGreatDoor

namespace Go.Proofs.YthbngnlmgplijaaGreatDoor
open Go.Al Go.Proofs
set_option linter.unusedVariables false
set_option linter.unusedSimpArgs false
set_option linter.unusedSectionVars false
set_option maxRecDepth 100000

theorem iv_one (l : List Int) : ∀ u ∈ l.map iv, u.oneCell' = true := by
  intro u hu
  obtain ⟨n, _, rfl⟩ := List.mem_map.1 hu
  rfl
theorem row_src {w : World} {b0 : Nat} {lv v : Value} {L ns : List Int} (ho : w.ownsRow b0 3 1 lv L.length (L.map iv)) (hc : CellsAt w v ns.length 1 (ns.map iv)) (hl : L.length + ns.length ≤ 100000000) (hb : b0 ≤ w.heap.size) :
    ∃ v' w', (Builtin.append_ #[23, 23] 23 #[lv, v]).run Tryz.prog w = .ok v' w' ∧ w'.ownsRow b0 3 1 v' (L ++ ns).length ((L ++ ns).map iv) ∧ Fm (fun y => b0 ≤ y) w w' := by
  obtain ⟨v', w', hr, ho', hf⟩ := append_srcO E47 (by omega) ho hc (iv_one ns) 23 (by unfold maxLen; omega) (by omega) hb
  refine ⟨v', w', hr, ?_, hf.mono (fun y _ e => (own_lt ho y e).1)⟩
  rw [List.length_append, List.map_append]; exact ho'
theorem row_lit {w : World} {b0 n : Nat} {lv : Value} {L ns : List Int} {items : Array (Nat × Value)} (ho : w.ownsRow b0 3 1 lv L.length (L.map iv)) (hbs : (Instr.buildSlice 23 n items).run Tryz.prog w = .ok (.slice (some ⟨w.heap.size, 0, none⟩) n n) (w.alloc (.cells (ns.map iv).toArray 3))) (hn : ns.length = n) (hl : L.length + n ≤ 100000000) (hb : b0 ≤ w.heap.size) {k : KV}
    (hk : ∀ v' w', w'.ownsRow b0 3 1 v' (L ++ ns).length ((L ++ ns).map iv) → Fm (fun y => b0 ≤ y) w w' → k v' w') : RunS Tryz.prog (Instr.buildSlice 23 n items) w fun t w1 => RunS Tryz.prog (Builtin.append_ #[23, 23] 23 #[lv, t]) w1 k := by
  refine RunS_ok hbs ?_
  subst hn
  have hf := Fm.alloc (fun _ => False) w (.cells (ns.map iv).toArray 3)
  have hnew := own_new (w := w) (e := 3) (sz := 1) (base := w.heap.size) (n := ns.length) (l := ns.map iv) (by simp) (Nat.le_refl _) (by unfold maxLen; omega)
  have ho1 := own_keep ho hf (fun _ _ _ _ e => e)
  have hz := hf.size
  generalize w.alloc (.cells (ns.map iv).toArray 3) = w1 at hf hnew ho1 hz
  obtain ⟨v', w', hr, ho', hf'⟩ := row_src ho1 (CellsAt.of_own hnew) hl (by omega)
  exact RunS_ok hr (hk v' w' ho' ((hf.mono (fun _ _ e => e.elim)).trans hf' (fun _ _ e => e) (fun _ _ e => e)))

set_option maxHeartbeats 8000000 in
theorem numbers_spec {w : World} {cs : Array Value} {r : Rc} (h : RcAs w cs r) : Cl Tryz.prog 156 [.agg cs] w fun v w' => w'.ownsRow w.heap.size 3 1 v (rNums r).length ((rNums r).map iv) ∧ Fm (fun _ => False) w w' := by
  obtain ⟨vs, vm, vi, vp, vt, hcs, _, hs, hm, hi, hp, ht⟩ := h.ex
  have hbulk := h.bulk
  refine c156 ?_; unfold T156
  refine New_any ?_
  intro x1 w1 hx1 hs1 hw1 hf1
  have hR1 : RB w1 x1 r vs vm vi vp vt := ⟨by rw [← hcs]; exact hw1⟩
  have hz1 := hf1.size
  simp only [RS0, RS1, RS2, RS3, RS4, RS5, hR1.c0, hR1.c1, hR1.c2, hR1.c4, hR1.c5, hR1.c6, hR1.c7, hR1.c8, hR1.c9]
  refine RunS_ok (bs47_9 _ _ _ _ _ _ _ _ _ _) ?_
  have hf2 := Fm.alloc (fun _ => False) w1 (.cells ([r.lsn, r.prev, r.next, r.redo, r.xid, r.page, r.slot, r.old, r.new].map iv).toArray 3)
  have ho2 := own_new (w := w1) (e := 3) (sz := 1) (base := w1.heap.size) (n := 9) (l := [r.lsn, r.prev, r.next, r.redo, r.xid, r.page, r.slot, r.old, r.new].map iv) (by simp) (Nat.le_refl _) (by simp [maxLen])
  have hL : rNums r = [r.lsn, r.prev, r.next, r.redo, r.xid, r.page, r.slot, r.old, r.new] ++ r.slots ++ r.more ++ r.imgs.map (·.1) ++ prs r.pages ++ prs r.txns := rfl
  have h9 : ([r.lsn, r.prev, r.next, r.redo, r.xid, r.page, r.slot, r.old, r.new] : List Int).length = 9 := rfl
  rw [hL]
  replace ho2 : (w1.alloc (.cells ([r.lsn, r.prev, r.next, r.redo, r.xid, r.page, r.slot, r.old, r.new].map iv).toArray 3)).ownsRow w1.heap.size 3 1 (.slice (some ⟨w1.heap.size, 0, none⟩) 9 9) ([r.lsn, r.prev, r.next, r.redo, r.xid, r.page, r.slot, r.old, r.new] : List Int).length ([r.lsn, r.prev, r.next, r.redo, r.xid, r.page, r.slot, r.old, r.new].map iv) := ho2
  generalize w1.alloc (.cells ([r.lsn, r.prev, r.next, r.redo, r.xid, r.page, r.slot, r.old, r.new].map iv).toArray 3) = w2 at hf2 ho2
  generalize ([r.lsn, r.prev, r.next, r.redo, r.xid, r.page, r.slot, r.old, r.new] : List Int) = L9 at ho2 h9
  have hf3 := Fm.drew (fun _ => False) w2
  have hR2 := hR1.keep hf2 (fun e => e)
  have hR3 := hR2.keep hf3 (fun e => e)
  refine ⟨fun w' => w'.cell? ⟨x1, 12, none⟩ = some vm, hR3.c12, ?_⟩
  simp only [RS0, RS1, RS2, RS3, RS4, RS5, hR2.c11, hR3.c11, true_and]
  refine ⟨vm, fun w9 h9 => ?_, ?_⟩
  · simp only [RS0, RS1, RS2, RS3, RS4, RS5, h9]; trivial
  have ho3 := own_keep ho2 hf3 (fun _ _ _ _ e => e)
  have hF3 := Fmf hf2 hf3
  generalize w2.drew = w3 at hf3 hR3 ho3 hF3
  have hz3 := hF3.size
  obtain ⟨v4, w4, hr4, ho4, hf4⟩ := row_src ho3 (hs.keep (Fmf hf1 hF3) (fun _ _ e => e)) (by omega) hz3
  have hx1lt := hR1.lt
  have hF4 : Fm (fun _ => False) w1 w4 := Fm.own hF3 hf4 (fun y e => e)
  have hR4 := hR1.keep hF4 (fun e => e)
  have hz4 := hF4.size
  refine RunS_ok hr4 ⟨hR4.c12, ?_⟩
  obtain ⟨v5, w5, hr5, ho5, hf5⟩ := row_src ho4 (hm.keep (Fmf hf1 hF4) (fun _ _ e => e)) (by rw [List.length_append]; omega) hz4
  have hF5 : Fm (fun _ => False) w1 w5 := Fm.own hF4 hf5 (fun y e => e)
  have hR5 := hR1.keep hF5 (fun e => e)
  have hz5 := hF5.size
  refine RunS_ok hr5 ?_
  have hi5 := hi.keep (Fmf hf1 hF5)
  have hl5 : (L9 ++ r.slots ++ r.more).length ≤ 2000009 := by simp only [List.length_append]; omega
  generalize L9 ++ r.slots ++ r.more = L5 at ho5 hl5
  simp only [RS0, RS1, RS2, RS3, RS4, RS5, hR5.c13, hi5.lenV]
  refine ⟨fun vs w' => ∃ (i : Nat) (lv : Value), vs = [lv, iv i] ∧ i ≤ r.imgs.length ∧ w'.ownsRow w1.heap.size 3 1 lv (L5 ++ (r.imgs.take i).map (·.1)).length ((L5 ++ (r.imgs.take i).map (·.1)).map iv) ∧ Fm (fun _ => False) w1 w', fun vs _ => (r.imgs.length - nth vs 1).toNat, ⟨0, v5, rfl, by omega, by simpa using ho5, hF5⟩, ?_⟩
  rintro _ w6 lv iv6 ⟨i, lv', hvs, hile, ho6, hF6⟩
  cases hvs
  have hz6 := hF6.size
  have hti : ((r.imgs.take i).map (·.1)).length = i := by rw [List.length_map, List.length_take]; omega
  by_cases hlt : i < r.imgs.length
  · have hx : r.imgs[i]? = some r.imgs[i] := List.getElem?_eq_getElem hlt
    generalize r.imgs[i] = m at hx
    obtain ⟨ad, u, hix, hcv, hone, hpg⟩ := (hi.keep (Fmf hf1 hF6)).ld hx
    have d1 : decide ((i : Int) < (r.imgs.length : Int)) = true := by rw [decide_eq_true_eq]; omega
    have e1 : IntKind.i64.wrap ((i : Int) + 1) = ((i + 1 : Nat) : Int) := by rw [wrap_id] <;> omega
    simp only [RS0, RS1, RS2, RS3, RS4, RS5, d1, hix, hcv]
    refine New_any ?_
    intro x7 w7 hx7 hs7 hw7 hf7
    refine St_all hw7 rfl (imC_len _) (by intro q hq; simp [imC, pcs] at hq; rcases hq with rfl | rfl | rfl | rfl | rfl | rfl | rfl <;> first | rfl | exact hone) ?_
    intro w8 hw8 hs8 hf8
    have hf68 : Fm (fun _ => False) w6 w8 := Fm.own hf7 hf8 (by rintro y rfl; omega)
    have ho8 := own_keep ho6 hf68 (fun _ _ _ _ e => e)
    have c8 : w8.cell? ⟨x7, 0, none⟩ = some (iv m.1) := by rw [cell_at hw8]; rfl
    have hF8 := Fmf hF6 hf68
    have hz8 := hF8.size
    simp only [RS0, RS1, RS2, RS3, RS4, RS5, c8]
    refine row_lit ho8 (bs47_1 _ _) rfl (by rw [List.length_append, hti]; omega) hz8 ?_
    intro v9 w9 ho9 hf9
    simp only [RS0, RS1, RS2, RS3, RS4, RS5, e1]
    refine ⟨⟨i + 1, v9, rfl, by omega, ?_, Fm.own hF8 hf9 (fun y e => e)⟩, by simp only [nth_1]; omega⟩
    have e2 : L5 ++ (r.imgs.take (i + 1)).map (·.1) = L5 ++ (r.imgs.take i).map (·.1) ++ [m.1] := by rw [List.take_add_one, hx]; simp
    rw [e2]; exact ho9
  · have hie : i = r.imgs.length := by omega
    subst hie
    have d1 : decide (((r.imgs.length : Nat) : Int) < (r.imgs.length : Int)) = false := by simp
    rw [List.take_length] at ho6
    have hl6 : (L5 ++ r.imgs.map (·.1)).length ≤ 4000009 := by rw [List.length_append, List.length_map]; omega
    generalize L5 ++ r.imgs.map (·.1) = L6 at ho6 hl6
    have hR6 := hR1.keep hF6 (fun e => e)
    have hp6 := hp.keep (Fmf hf1 hF6) (fun _ _ e => e)
    simp only [RS0, RS1, RS2, RS3, RS4, RS5, d1, hR6.c14, hp6.lenV]
    refine ⟨fun vs w' => ∃ (i : Nat) (lv : Value), vs = [lv, iv i] ∧ i ≤ r.pages.length ∧ w'.ownsRow w1.heap.size 3 1 lv (L6 ++ prs (r.pages.take i)).length ((L6 ++ prs (r.pages.take i)).map iv) ∧ Fm (fun _ => False) w1 w', fun vs _ => (r.pages.length - nth vs 1).toNat, ⟨0, lv, rfl, by omega, by simpa [prs] using ho6, hF6⟩, ?_⟩
    rintro _ w7 lv iv7 ⟨i, lv', hvs, hile, ho7, hF7⟩
    cases hvs
    have hz7 := hF7.size
    have hti : (prs (r.pages.take i)).length = i * 2 := by
      have := congrArg List.length (pc2_prs (r.pages.take i))
      rw [List.length_map, flat_len pc2_len, List.length_take, Nat.min_eq_left hile] at this
      omega
    by_cases hlt : i < r.pages.length
    · have hx : r.pages[i]? = some r.pages[i] := List.getElem?_eq_getElem hlt
      generalize r.pages[i] = m at hx
      obtain ⟨ad, hix, hcv, _⟩ := cells_ld pc2_len (by omega) (hp.keep (Fmf hf1 hF7) (fun _ _ e => e)) hx
      have d1 : decide ((i : Int) < (r.pages.length : Int)) = true := by rw [decide_eq_true_eq]; omega
      have e1 : IntKind.i64.wrap ((i : Int) + 1) = ((i + 1 : Nat) : Int) := by rw [wrap_id] <;> omega
      simp only [RS0, RS1, RS2, RS3, RS4, RS5, d1, hix, hcv]
      refine New_any ?_
      intro x8 w8 hx8 hs8 hw8 hf8
      refine St_all hw8 rfl (pc2_len _) (by intro q hq; simp [pc2] at hq; rcases hq with rfl | rfl <;> rfl) ?_
      intro w9 hw9 hs9 hf9
      have hf79 : Fm (fun _ => False) w7 w9 := Fm.own hf8 hf9 (by rintro y rfl; omega)
      have ho9 := own_keep ho7 hf79 (fun _ _ _ _ e => e)
      have c0 : w9.cell? ⟨x8, 0, none⟩ = some (iv m.1) := by rw [cell_at hw9]; rfl
      have c1 : w9.cell? ⟨x8, 1, none⟩ = some (iv m.2) := by rw [cell_at hw9]; rfl
      have hF9 := Fmf hF7 hf79
      have hz9 := hF9.size
      simp only [RS0, RS1, RS2, RS3, RS4, RS5, c0, c1]
      refine row_lit ho9 (bs47_2 _ _ _) rfl (by rw [List.length_append, hti]; omega) hz9 ?_
      intro v10 w10 ho10 hf10
      simp only [RS0, RS1, RS2, RS3, RS4, RS5, e1]
      refine ⟨⟨i + 1, v10, rfl, by omega, ?_, Fm.own hF9 hf10 (fun y e => e)⟩, by simp only [nth_1]; omega⟩
      have e2 : L6 ++ prs (r.pages.take (i + 1)) = L6 ++ prs (r.pages.take i) ++ [m.1, m.2] := by rw [List.take_add_one, hx]; simp [prs]
      rw [e2]; exact ho10
    · have hie : i = r.pages.length := by omega
      subst hie
      have d1 : decide (((r.pages.length : Nat) : Int) < (r.pages.length : Int)) = false := by simp
      rw [List.take_length] at ho7 hti
      have hl7 : (L6 ++ prs r.pages).length ≤ 8000009 := by rw [List.length_append, hti]; omega
      generalize L6 ++ prs r.pages = L7 at ho7 hl7
      have hR7 := hR1.keep hF7 (fun e => e)
      have ht7 := ht.keep (Fmf hf1 hF7) (fun _ _ e => e)
      simp only [RS0, RS1, RS2, RS3, RS4, RS5, d1, hR7.c15, ht7.lenV]
      refine ⟨fun vs w' => ∃ (i : Nat) (lv : Value), vs = [lv, iv i] ∧ i ≤ r.txns.length ∧ w'.ownsRow w1.heap.size 3 1 lv (L7 ++ prs (r.txns.take i)).length ((L7 ++ prs (r.txns.take i)).map iv) ∧ Fm (fun _ => False) w1 w', fun vs _ => (r.txns.length - nth vs 1).toNat, ⟨0, lv, rfl, by omega, by simpa [prs] using ho7, hF7⟩, ?_⟩
      rintro _ w8 lv iv8 ⟨i, lv', hvs, hile, ho8, hF8⟩
      cases hvs
      have hz8 := hF8.size
      have hti : (prs (r.txns.take i)).length = i * 2 := by
        have := congrArg List.length (pc2_prs (r.txns.take i))
        rw [List.length_map, flat_len pc2_len, List.length_take, Nat.min_eq_left hile] at this
        omega
      by_cases hlt : i < r.txns.length
      · have hx : r.txns[i]? = some r.txns[i] := List.getElem?_eq_getElem hlt
        generalize r.txns[i] = m at hx
        obtain ⟨ad, hix, hcv, _⟩ := cells_ld pc2_len (by omega) (ht.keep (Fmf hf1 hF8) (fun _ _ e => e)) hx
        have d1 : decide ((i : Int) < (r.txns.length : Int)) = true := by rw [decide_eq_true_eq]; omega
        have e1 : IntKind.i64.wrap ((i : Int) + 1) = ((i + 1 : Nat) : Int) := by rw [wrap_id] <;> omega
        simp only [RS0, RS1, RS2, RS3, RS4, RS5, d1, hix, hcv]
        refine New_any ?_
        intro x9 w9 hx9 hs9 hw9 hf9
        refine St_all hw9 rfl (pc2_len _) (by intro q hq; simp [pc2] at hq; rcases hq with rfl | rfl <;> rfl) ?_
        intro w10 hw10 hs10 hf10
        have hf810 : Fm (fun _ => False) w8 w10 := Fm.own hf9 hf10 (by rintro y rfl; omega)
        have ho10 := own_keep ho8 hf810 (fun _ _ _ _ e => e)
        have c0 : w10.cell? ⟨x9, 0, none⟩ = some (iv m.1) := by rw [cell_at hw10]; rfl
        have c1 : w10.cell? ⟨x9, 1, none⟩ = some (iv m.2) := by rw [cell_at hw10]; rfl
        have hF10 := Fmf hF8 hf810
        have hz10 := hF10.size
        simp only [RS0, RS1, RS2, RS3, RS4, RS5, c0, c1]
        refine row_lit ho10 (bs47_2 _ _ _) rfl (by rw [List.length_append, hti]; omega) hz10 ?_
        intro v11 w11 ho11 hf11
        simp only [RS0, RS1, RS2, RS3, RS4, RS5, e1]
        refine ⟨⟨i + 1, v11, rfl, by omega, ?_, Fm.own hF10 hf11 (fun y e => e)⟩, by simp only [nth_1]; omega⟩
        have e2 : L7 ++ prs (r.txns.take (i + 1)) = L7 ++ prs (r.txns.take i) ++ [m.1, m.2] := by rw [List.take_add_one, hx]; simp [prs]
        rw [e2]; exact ho11
      · have hie : i = r.txns.length := by omega
        subst hie
        have d1 : decide (((r.txns.length : Nat) : Int) < (r.txns.length : Int)) = false := by simp
        rw [List.take_length] at ho8
        simp only [RS0, RS1, RS2, RS3, RS4, RS5, d1]
        exact ⟨own_base ho8 (by omega), Fmf hf1 hF8⟩

/-! ### Is any beyond bounds? -/
theorem bad_spec (w : World) (n : Int) : Cl Tryz.prog 157 [iv n] w fun v w' => v = .bool (badN n) ∧ w' = w := by
  refine c157 ?_; unfold T157
  unfold badN
  simp only [RS0, RS1, RS2, RS3, RS4, RS5]
  cases h1 : decide (n < 0) with
  | true =>
    simp only [RS0, RS1, RS2, RS3, RS4, RS5, Bool.true_or]
    exact ⟨(by trivial), (by trivial)⟩
  | false =>
    simp only [RS0, RS1, RS2, RS3, RS4, RS5, Bool.false_or]
    exact ⟨(by trivial), (by trivial)⟩
theorem contains_spec {w : World} {v : Value} {L : List Int} (h : CellsAt w v L.length 1 (L.map iv)) : Cl Tryz.prog 155 [v, .func (.func 157) #[] #[]] w fun u w' => u = .bool (L.any badN) ∧ w' = w := by
  have hlt := h.lt
  unfold maxLen at hlt
  have key : Cl Tryz.prog 198 [v, .func (.func 157) #[] #[]] w fun u w' => ∃ i : Int, u = iv i ∧ decide (0 ≤ i) = L.any badN ∧ w' = w := by
    refine c198 ?_; unfold T198
    simp only [RS0, RS1, RS2, RS3, RS4, RS5, h.lenV]
    refine ⟨fun vs w2 => ∃ i : Nat, vs = [iv i] ∧ i ≤ L.length ∧ (L.take i).any badN = false ∧ w2 = w, fun vs _ => (L.length - nth vs 0).toNat, ⟨0, rfl, by omega, rfl, rfl⟩, ?_⟩
    rintro _ w2 ivv ⟨i, hvs, hi, hno, rfl⟩
    cases hvs
    by_cases hl : i < L.length
    · have e1 : decide ((i : Int) < (L.length : Int)) = true := by rw [decide_eq_true_eq]; omega
      have e2 : IntKind.i64.wrap ((i : Int) + 1) = ((i + 1 : Nat) : Int) := by rw [wrap_id] <;> omega
      have hx : L[i]? = some L[i] := List.getElem?_eq_getElem hl
      generalize L[i] = n at hx
      obtain ⟨ad, hix, _, hc⟩ := h.at1 (i := i) (x := iv n) (by rw [List.getElem?_map, hx]; rfl) .i64
      simp only [RS0, RS1, RS2, RS3, RS4, RS5, e1, hix, hc]
      refine ClV_func (by kernel_rfl) ?_
      refine (bad_spec w2 n).mono ?_
      rintro _ w3 ⟨rfl, rfl⟩
      cases hb : badN n with
      | true =>
        simp only [RS0, RS1, RS2, RS3, RS4, RS5]
        refine ⟨i, (by trivial), ?_, (by trivial)⟩
        rw [decide_eq_true (by omega)]
        exact (List.any_eq_true.2 ⟨n, List.mem_of_getElem? hx, hb⟩).symm
      | false =>
        simp only [RS0, RS1, RS2, RS3, RS4, RS5, e2]
        refine ⟨⟨i + 1, rfl, by omega, ?_, (by trivial)⟩, by simp only [nth_0]; omega⟩
        rw [List.take_add_one, hx, List.any_append, hno]
        simp [hb]
    · have hie : i = L.length := by omega
      subst hie
      have e1 : decide (((L.length : Nat) : Int) < (L.length : Int)) = false := by simp
      rw [List.take_length] at hno
      simp only [RS0, RS1, RS2, RS3, RS4, RS5, e1]
      exact ⟨-1, (by trivial), by rw [hno]; rfl, (by trivial)⟩
  refine c155 ?_; unfold T155
  refine key.mono ?_
  rintro _ w2 ⟨i, rfl, hi, rfl⟩
  simp only [RS0, RS1, RS2, RS3, RS4, RS5, hi]
  exact ⟨(by trivial), (by trivial)⟩

/-! ### The noughts at the end -/
theorem trimZ_last {t : Bs} {b : UInt8} (h : t[t.length - 1]? = some b) : trimZ t = bif decide (b = 0) then trimZ (t.take (t.length - 1)) else t := by
  have hl := (List.getElem?_eq_some_iff.1 h).1
  have ht : t = t.take (t.length - 1) ++ [b] := by
    have := List.take_append_drop (t.length - 1) t
    rw [List.drop_eq_getElem_cons hl, (List.getElem?_eq_some_iff.1 h).2, show t.length - 1 + 1 = t.length by omega, List.drop_length] at this
    exact this.symm
  generalize t.take (t.length - 1) = s at ht
  subst ht
  unfold trimZ
  rw [List.reverse_append, List.reverse_singleton, List.singleton_append, List.dropWhile_cons]
  cases hb : decide (b = 0) with
  | true =>
    rw [decide_eq_true_eq] at hb
    subst hb
    rfl
  | false =>
    rw [decide_eq_false_iff_not] at hb
    rw [if_neg (by simpa using hb)]
    simp
theorem trimr_spec (w : World) (s : Bs) (hs : s.length ≤ 1000000) : Cl Tryz.prog 202 [stv s, stv [0]] w fun v w' => v = stv (trimZ s) ∧ w' = w := by
  refine c202 ?_; unfold T202
  have e0 : decide (([0] : Bs) = []) = false := by decide
  simp only [RS0, RS1, RS2, RS3, RS4, RS5, str_nil, str_inj, e0]
  cases hn : decide (s = []) with
  | true =>
    rw [decide_eq_true_eq] at hn
    subst hn
    simp only [RS0, RS1, RS2, RS3, RS4, RS5]
    exact ⟨(by trivial), (by trivial)⟩
  | false =>
  have e1 : lenS (stv [0]) = some (iv 1) := rfl
  have e2 : ixS (stv [0]) (Value.int .i64 0) = some (.int .u8 0) := rfl
  have e3 : decide ((0 : Int) < 128) = true := by decide
  have e4 : (((str ([0] : Bs)).size : Int) == 1) = true := rfl
  have e5 : decide (str ([0] : Bs) = str []) = false := by rw [decide_eq_false_iff_not, str_inj]; decide
  simp only [RS0, RS1, RS2, RS3, RS4, RS5, e1, e2, e3, e4, e5]
  refine c182 ?_; unfold T182
  refine ⟨fun vs w2 => ∃ t : Bs, vs = [stv t] ∧ t.length ≤ s.length ∧ trimZ t = trimZ s ∧ w2 = w, fun vs _ => match vs with
    | [.string b] => b.size
    | _ => 0, ⟨s, rfl, Nat.le_refl _, rfl, rfl⟩, ?_⟩
  rintro _ w2 tv ⟨t, hvs, hl, htr, rfl⟩
  cases hvs
  simp only [RS0, RS1, RS2, RS3, RS4, RS5, str_size]
  by_cases h0 : 0 < t.length
  · have d1 : decide ((0 : Int) < (t.length : Int)) = true := by rw [decide_eq_true_eq]; omega
    have e5 : IntKind.i64.wrap ((t.length : Int) - 1) = ((t.length - 1 : Nat) : Int) := by rw [wrap_id] <;> omega
    have hx : t[t.length - 1]? = some t[t.length - 1] := List.getElem?_eq_getElem (by omega)
    generalize t[t.length - 1] = b at hx
    have hlast := trimZ_last hx
    have e6 := ixS_str hx .i64
    have e7 : ((b.toNat : Int) == 0) = decide (b = 0) := by
      rw [beq_dec, decide_eq_decide]
      constructor
      · intro e
        exact UInt8.toNat_inj.1 (by simpa using (show b.toNat = 0 by omega))
      · rintro rfl; rfl
    have e8 := slS_hi (l := t) (i := t.length - 1) (by omega) .i64
    simp only [RS0, RS1, RS2, RS3, RS4, RS5, d1, str_size, e5, e6, e7]
    cases hb : decide (b = 0) with
    | true =>
      rw [hb, cond_true] at hlast
      simp only [RS0, RS1, RS2, RS3, RS4, RS5, str_size, e5, e8]
      refine ⟨⟨t.take (t.length - 1), rfl, by rw [List.length_take]; omega, by rw [← hlast]; exact htr, (by trivial)⟩, ?_⟩
      simp only [str_size, List.length_take]; omega
    | false =>
      rw [hb, cond_false] at hlast
      simp only [RS0, RS1, RS2, RS3, RS4, RS5]
      exact ⟨by rw [← htr, hlast], (by trivial)⟩
  · have ht0 : t = [] := List.eq_nil_of_length_eq_zero (by omega)
    subst ht0
    have d1 : decide ((0 : Int) < (([] : Bs).length : Int)) = false := by decide
    simp only [RS0, RS1, RS2, RS3, RS4, RS5, d1]
    exact ⟨by rw [← htr]; rfl, (by trivial)⟩

end Go.Proofs.YthbngnlmgplijaaGreatDoor

namespace Go.Proofs.YthbngnlmgplijaaGreatDoor
open Go.Al Go.Proofs
set_option linter.unusedVariables false
set_option linter.unusedSimpArgs false
set_option linter.unusedSectionVars false
set_option maxRecDepth 100000

theorem bld147 (a1 a2 : Option Addr) (n1 c1 n2 c2 : Nat) (w : World) : (Instr.build 227 #[(0, .slice a1 n1 c1), (1, .slice a2 n2 c2)]).run Tryz.prog w = .ok (.agg #[.slice a1 n1 c1, .slice a2 n2 c2]) w := by kernel_rfl
theorem im_body {w : World} {x : Nat} {m : Int} {p : Pg} {u : Value} (h : w.heap[x]? = some (.cells (imC (m, p, u)).toArray 118)) : cellsV w ⟨x, 1, none⟩ 6 = some (.agg (pcs p u)) := by
  refine cellsV_of (l := (pcs p u).toList) rfl (fun j hj => ?_)
  have : j = 0 ∨ j = 1 ∨ j = 2 ∨ j = 3 ∨ j = 4 ∨ j = 5 := by omega
  rcases this with rfl | rfl | rfl | rfl | rfl | rfl <;> (rw [add_none, cell_at h]; rfl)
theorem numsB2 (a b : Int) : numsB [a, b] = prB (a, b) := by simp [numsB, prB]
theorem prB_len {p : Int × Int} (h1 : p.1 ≤ 9223372036854775807) (h2 : p.2 ≤ 9223372036854775807) : (prB p).length ≤ 18 := by
  have := encI_len h1
  have := encI_len h2
  unfold prB
  rw [List.length_append]; omega
set_option maxHeartbeats 16000000 in
theorem inner_spec {w : World} {cs : Array Value} {r : Rc} (h : RcAs w cs r) (hlong : longR r = false) : Cl Tryz.prog 158 [.agg cs] w fun v w' => v = .tuple #[stv (rInner r).1, iv (rInner r).2] ∧ Fm (fun _ => False) w w' := by
  obtain ⟨vs, vm, vi, vp, vt, hcs, _, hs, hm, hi, hp, ht⟩ := h.ex
  simp only [longR, Bool.or_eq_false_iff, decide_eq_false_iff_not] at hlong
  obtain ⟨⟨⟨⟨⟨l1, l2⟩, l3⟩, l4⟩, l5⟩, l6⟩ := hlong
  have hins := h.ins
  have hk8 := h.kin
  have n9 : ∀ n ∈ [r.lsn, r.prev, r.next, r.redo, r.xid, r.page, r.slot, r.old, r.new], In n := fun n hn => hins n (by unfold rNums; simp only [List.mem_append]; exact .inl (.inl (.inl (.inl (.inl hn)))))
  have nsl : ∀ n ∈ r.slots, n ≤ 9223372036854775807 := fun n hn => (hins n (by unfold rNums; simp only [List.mem_append]; exact .inl (.inl (.inl (.inl (.inr hn)))))).2
  have nmo : ∀ n ∈ r.more, n ≤ 9223372036854775807 := fun n hn => (hins n (by unfold rNums; simp only [List.mem_append]; exact .inl (.inl (.inl (.inr hn))))).2
  have nim : ∀ m ∈ r.imgs, m.1 ≤ 9223372036854775807 := fun m hm => (hins m.1 (by unfold rNums; simp only [List.mem_append]; exact .inl (.inl (.inr (List.mem_map.2 ⟨m, hm, rfl⟩))))).2
  have npg : ∀ m ∈ r.pages, m.1 ≤ 9223372036854775807 ∧ m.2 ≤ 9223372036854775807 := fun m hm => ⟨(hins m.1 (by unfold rNums; simp only [List.mem_append]; exact .inl (.inr (mem_prs hm).1))).2, (hins m.2 (by unfold rNums; simp only [List.mem_append]; exact .inl (.inr (mem_prs hm).2))).2⟩
  have ntx : ∀ m ∈ r.txns, m.1 ≤ 9223372036854775807 ∧ m.2 ≤ 9223372036854775807 := fun m hm => ⟨(hins m.1 (by unfold rNums; simp only [List.mem_append]; exact .inr (mem_prs hm).1)).2, (hins m.2 (by unfold rNums; simp only [List.mem_append]; exact .inr (mem_prs hm).2)).2⟩
  have nhd : ∀ n ∈ headL r, n ≤ 9223372036854775807 := fun n hn => by
    unfold headL at hn
    simp only [List.mem_cons, List.not_mem_nil, or_false] at hn
    rcases hn with rfl | rfl | rfl | rfl | rfl | rfl | rfl | rfl | rfl | rfl <;> first | omega | exact (n9 _ (by simp)).2
  refine c158 ?_; unfold T158
  refine New_any ?_
  intro x1 w1 hx1 hs1 hw1 hf1
  have hR1 : RB w1 x1 r vs vm vi vp vt := ⟨by rw [← hcs]; exact hw1⟩
  have hlt1 := hR1.lt
  -- whatever the writer turns, the record's lists stay
  have kS : ∀ {w'}, Fm (fun _ => False) w1 w' → CellsAt w' vs r.slots.length 1 (r.slots.map iv) := fun hf => hs.keep (Fmf hf1 hf) (fun _ _ e => e)
  have kM : ∀ {w'}, Fm (fun _ => False) w1 w' → CellsAt w' vm r.more.length 1 (r.more.map iv) := fun hf => hm.keep (Fmf hf1 hf) (fun _ _ e => e)
  have kI : ∀ {w'}, Fm (fun _ => False) w1 w' → ImAs w' vi r.imgs := fun hf => hi.keep (Fmf hf1 hf)
  have kP : ∀ {w'}, Fm (fun _ => False) w1 w' → CellsAt w' vp r.pages.length 2 (r.pages.flatMap pc2) := fun hf => hp.keep (Fmf hf1 hf) (fun _ _ e => e)
  have kT : ∀ {w'}, Fm (fun _ => False) w1 w' → CellsAt w' vt r.txns.length 2 (r.txns.flatMap pc2) := fun hf => ht.keep (Fmf hf1 hf) (fun _ _ e => e)
  have kR : ∀ {w'}, Fm (fun _ => False) w1 w' → RB w' x1 r vs vm vi vp vt := fun hf => hR1.keep hf (fun e => e)
  have blt : ∀ {v : Value} {ns : List Int}, CellsAt w v ns.length 1 (ns.map iv) → ns ≠ [] → ∀ g, blockOf v = some g → g < w1.heap.size := fun hc hne g hg => by
    have := hc.blt (by simpa using hne) g hg
    omega
  refine WS.new (Fm.refl _ w1) ?_
  intro w2 rw h2 hf2
  have hR2 := kR hf2
  have ek : IntKind.i64.wrap r.kind = r.kind := by rw [wrap_id]; omega
  have ekc : cvI .i64 (.int .u8 r.kind) = some (iv r.kind) := by
    show some (Value.int .i64 (IntKind.i64.wrap r.kind)) = _
    rw [ek]
  simp only [RS0, RS1, RS2, RS3, RS4, RS5, hR2.c0, hR2.c1, hR2.c2, hR2.c3, hR2.c4, hR2.c5, hR2.c6, hR2.c7, hR2.c8, hR2.c9, ekc]
  refine h2.lit (bs47_10 _ _ _ _ _ _ _ _ _ _ _) rfl (fun n hn => nhd n hn) (by simp) ?_
  intro u3 w3 h3
  replace h3 : WS w1 w3 rw (numsB (headL r)) := by have := h3; rw [List.nil_append] at this; exact this
  have hl3 : (numsB (headL r)).length ≤ 90 := by have := numsB_len nhd; exact this
  have hR3 := kR h3.fm
  simp only [RS0, RS1, RS2, RS3, RS4, RS5, hR3.c10]
  refine h3.text (by omega) (by omega) ?_
  intro u4 w4 h4
  have hR4 := kR h4.fm
  have hl4 : (numsB (headL r) ++ txtB r.data).length ≤ 700 := by
    have := encI_len (n := r.data.length) (by omega)
    rw [List.length_append]; unfold txtB; rw [List.length_append]; omega
  simp only [RS0, RS1, RS2, RS3, RS4, RS5, hR4.c11, hR4.c12]
  have hsv : ∃ a c, vs = .slice a r.slots.length c := by obtain ⟨⟨a, c, e, _⟩, _⟩ := hs; exact ⟨a, c, e⟩
  have hmv : ∃ a c, vm = .slice a r.more.length c := by obtain ⟨⟨a, c, e, _⟩, _⟩ := hm; exact ⟨a, c, e⟩
  have hbld : (Instr.build 227 #[(0, vs), (1, vm)]).run Tryz.prog w4 = .ok (.agg #[vs, vm]) w4 := by
    obtain ⟨a, c, rfl⟩ := hsv
    obtain ⟨a', c', rfl⟩ := hmv
    exact bld147 _ _ _ _ _ _ _
  refine RunS_ok hbld ?_
  generalize hB4 : numsB (headL r) ++ txtB r.data = B4 at h4 hl4
  refine ⟨fun vl w' => (vl = [iv 0] ∧ WS w1 w' rw B4) ∨ (vl = [iv 1] ∧ WS w1 w' rw (B4 ++ listB r.slots)) ∨ (vl = [iv 2] ∧ WS w1 w' rw (B4 ++ listB r.slots ++ listB r.more)), fun vl _ => (2 - nth vl 0).toNat, .inl ⟨rfl, h4⟩, ?_⟩
  have hls : (listB r.slots).length ≤ 2400 := by
    have := numsB_len nsl
    have := encI_len (n := r.slots.length) (by omega)
    unfold listB; rw [List.length_append]; omega
  have hlm : (listB r.more).length ≤ 2400 := by
    have := numsB_len nmo
    have := encI_len (n := r.more.length) (by omega)
    unfold listB; rw [List.length_append]; omega
  rintro _ w5 iv5 (⟨hvl, h5⟩ | ⟨hvl, h5⟩ | ⟨hvl, h5⟩)
  · cases hvl
    have d1 : decide ((0 : Int) < 2) = true := by decide
    have e1 : ixG false 2 1 (.agg #[vs, vm]) (iv 0) = some vs := rfl
    have e2 : IntKind.i64.wrap (0 + 1) = 1 := rfl
    simp only [RS0, RS1, RS2, RS3, RS4, RS5, d1, e1, (kS h5.fm).lenV]
    refine h5.lit (bs47_1 _ _) rfl (by intro n hn; simp at hn; omega) (by omega) ?_
    intro u6 w6 h6
    rw [numsB1] at h6
    have := encI_len (n := r.slots.length) (by omega)
    refine h6.num (kS h6.fm) (blt hs) nsl (by rw [List.length_append]; omega) ?_
    intro u7 w7 h7
    simp only [RS0, RS1, RS2, RS3, RS4, RS5, e2]
    exact ⟨.inr (.inl ⟨(by trivial), by have := h7; rw [List.append_assoc] at this; exact this⟩), by simp [nth, iv]⟩
  · cases hvl
    have d1 : decide ((1 : Int) < 2) = true := by decide
    have e1 : ixG false 2 1 (.agg #[vs, vm]) (iv 1) = some vm := rfl
    have e2 : IntKind.i64.wrap (1 + 1) = 2 := rfl
    simp only [RS0, RS1, RS2, RS3, RS4, RS5, d1, e1, (kM h5.fm).lenV]
    refine h5.lit (bs47_1 _ _) rfl (by intro n hn; simp at hn; omega) (by rw [List.length_append]; omega) ?_
    intro u6 w6 h6
    rw [numsB1] at h6
    have := encI_len (n := r.more.length) (by omega)
    refine h6.num (kM h6.fm) (blt hm) nmo (by simp only [List.length_append]; omega) ?_
    intro u7 w7 h7
    simp only [RS0, RS1, RS2, RS3, RS4, RS5, e2]
    exact ⟨.inr (.inr ⟨(by trivial), by have := h7; rw [List.append_assoc (B4 ++ listB r.slots)] at this; exact this⟩), by simp [nth, iv]⟩
  · cases hvl
    have d1 : decide ((2 : Int) < 2) = false := by decide
    have hR5 := kR h5.fm
    have hl5 : (B4 ++ listB r.slots ++ listB r.more).length ≤ 6000 := by simp only [List.length_append]; omega
    generalize hB5 : B4 ++ listB r.slots ++ listB r.more = B5 at h5 hl5
    simp only [RS0, RS1, RS2, RS3, RS4, RS5, d1, hR5.c13, (kI h5.fm).lenV]
    refine h5.lit (bs47_1 _ _) rfl (by intro n hn; simp at hn; omega) (by omega) ?_
    intro u6 w6 h6
    rw [numsB1] at h6
    have hR6 := kR h6.fm
    have hl6 : (B5 ++ encI (r.imgs.length : Int)).length ≤ 6010 := by
      have := encI_len (n := r.imgs.length) (by omega)
      rw [List.length_append]; omega
    generalize hB6 : B5 ++ encI (r.imgs.length : Int) = B6 at h6 hl6
    simp only [RS0, RS1, RS2, RS3, RS4, RS5, hR6.c13, (kI h6.fm).lenV]
    refine ⟨fun vl w' => ∃ i : Nat, vl = [iv i] ∧ i ≤ r.imgs.length ∧ WS w1 w' rw (B6 ++ (r.imgs.take i).flatMap imgB) ∧ (B6 ++ (r.imgs.take i).flatMap imgB).length ≤ 6010 + 600 * i ∧ imgErr r.imgs = imgErr (r.imgs.drop i), fun vl _ => (r.imgs.length - nth vl 0).toNat, ⟨0, rfl, by omega, by simpa using h6, by simpa using hl6, rfl⟩, ?_⟩
    rintro _ w7 iv7 ⟨i, hvl, hile, h7, hl7, hie⟩
    cases hvl
    by_cases hlt : i < r.imgs.length
    · have hx : r.imgs[i]? = some r.imgs[i] := List.getElem?_eq_getElem hlt
      have hdr := List.drop_eq_getElem_cons hlt
      generalize r.imgs[i] = m at hx hdr
      rw [hdr] at hie
      have hmm := List.mem_of_getElem? hx
      obtain ⟨ad, u, hix, hcv, hone, hpg⟩ := (kI h7.fm).ld hx
      have d2 : decide ((i : Int) < (r.imgs.length : Int)) = true := by rw [decide_eq_true_eq]; omega
      have e1 : IntKind.i64.wrap ((i : Int) + 1) = ((i + 1 : Nat) : Int) := by rw [wrap_id] <;> omega
      simp only [RS0, RS1, RS2, RS3, RS4, RS5, d2, hix, hcv]
      refine New_any ?_
      intro x8 w8 hx8 hs8 hw8 hf8
      refine St_all hw8 rfl (imC_len _) (by intro q hq; simp [imC, pcs] at hq; rcases hq with rfl | rfl | rfl | rfl | rfl | rfl | rfl <;> first | rfl | exact hone) ?_
      intro w9 hw9 hs9 hf9
      have hf79 : Fm (fun _ => False) w7 w9 := Fm.own hf8 hf9 (by rintro y rfl; omega)
      have h9 := h7.keep hf79
      simp only [RS0, RS1, RS2, RS3, RS4, RS5, im_body hw9]
      refine (encode_spec (hpg.keep hf79)).mono ?_
      rintro _ w10 ⟨rfl, hf10⟩
      have h10 := h9.keep hf10
      have he : encR m.2 = .tuple #[stv (pEnc m.2).1, iv (pErr m.2)] := by unfold encR; rw [pEnc_err]
      rw [he]
      simp only [RS0, RS1, RS2, RS3, RS4, RS5, bne_dec]
      rw [show imgErr (m :: r.imgs.drop (i + 1)) = bif decide (pErr m.2 = 0) then imgErr (r.imgs.drop (i + 1)) else pErr m.2 from rfl] at hie
      cases hz : decide (pErr m.2 = 0) with
      | false =>
        rw [hz, cond_false] at hie
        have hz' : decide (imgErr r.imgs = 0) = false := by rw [hie]; exact hz
        simp only [RS0, RS1, RS2, RS3, RS4, RS5]
        refine ⟨?_, Fmf hf1 h10.fm⟩
        unfold rInner
        rw [hz', cond_false, hie]
        rfl
      | true =>
        rw [hz, cond_true] at hie
        have h0 : pErr m.2 = 0 := by simpa using hz
        have c10 : w10.cell? ⟨x8, 0, none⟩ = some (iv m.1) := by rw [cell_at (hf10.heap hw9 (fun e => e))]; rfl
        simp only [RS0, RS1, RS2, RS3, RS4, RS5, c10]
        refine h10.lit (bs47_1 _ _) rfl (by intro n hn; simp at hn; subst hn; exact nim m hmm) (by omega) ?_
        intro u11 w11 h11
        rw [numsB1] at h11
        have hel := encI_len (nim m hmm)
        have hlen := pEnc_len h0
        obtain ⟨_, htl⟩ := trim_pad hlen
        refine (trimr_spec w11 (pEnc m.2).1 (by omega)).mono ?_
        rintro _ w12 ⟨rfl, rfl⟩
        refine h11.text (by omega) (by rw [List.length_append]; omega) ?_
        intro u13 w13 h13
        simp only [RS0, RS1, RS2, RS3, RS4, RS5, e1]
        have e2 : B6 ++ (r.imgs.take (i + 1)).flatMap imgB = B6 ++ (r.imgs.take i).flatMap imgB ++ encI m.1 ++ txtB (trimZ (pEnc m.2).1) := by rw [List.take_add_one, hx]; simp [imgB]
        refine ⟨⟨i + 1, rfl, by omega, by rw [e2]; exact h13, ?_, hie⟩, by simp only [nth_0]; omega⟩
        rw [e2]
        have := encI_len (n := (trimZ (pEnc m.2).1).length) (by omega)
        simp only [List.length_append] at hl7 ⊢
        unfold txtB
        rw [List.length_append]
        omega
    · have hie2 : i = r.imgs.length := by omega
      subst hie2
      rw [List.drop_length] at hie
      have d2 : decide (((r.imgs.length : Nat) : Int) < (r.imgs.length : Int)) = false := by simp
      rw [List.take_length] at h7 hl7
      have hl7' : (B6 ++ r.imgs.flatMap imgB).length ≤ 9000 := by omega
      generalize hB7 : B6 ++ r.imgs.flatMap imgB = B7 at h7 hl7'
      have hR7 := kR h7.fm
      simp only [RS0, RS1, RS2, RS3, RS4, RS5, d2, hR7.c14, (kP h7.fm).lenV]
      refine h7.lit (bs47_1 _ _) rfl (by intro n hn; simp at hn; omega) (by omega) ?_
      intro u16 w16 h16
      rw [numsB1] at h16
      have hR16 := kR h16.fm
      have hl16 : (B7 ++ encI (r.pages.length : Int)).length ≤ 9100 := by
        have := encI_len (n := r.pages.length) (by omega)
        rw [List.length_append]; omega
      generalize hB16 : B7 ++ encI (r.pages.length : Int) = B16 at h16 hl16
      simp only [RS0, RS1, RS2, RS3, RS4, RS5, hR16.c14, (kP h16.fm).lenV]
      refine ⟨fun vl w' => ∃ i : Nat, vl = [iv i] ∧ i ≤ r.pages.length ∧ WS w1 w' rw (B16 ++ (r.pages.take i).flatMap prB) ∧ (B16 ++ (r.pages.take i).flatMap prB).length ≤ 9100 + 18 * i, fun vl _ => (r.pages.length - nth vl 0).toNat, ⟨0, rfl, by omega, by simpa using h16, by simpa using hl16⟩, ?_⟩
      rintro _ w17 iv17 ⟨i, hvl, hile, h17, hl17⟩
      cases hvl
      by_cases hlt : i < r.pages.length
      · have hx : r.pages[i]? = some r.pages[i] := List.getElem?_eq_getElem hlt
        generalize r.pages[i] = m at hx
        have hmm := List.mem_of_getElem? hx
        obtain ⟨ad, hix, hcv, _⟩ := cells_ld pc2_len (by omega) (kP h17.fm) hx
        have d2 : decide ((i : Int) < (r.pages.length : Int)) = true := by rw [decide_eq_true_eq]; omega
        have e1 : IntKind.i64.wrap ((i : Int) + 1) = ((i + 1 : Nat) : Int) := by rw [wrap_id] <;> omega
        simp only [RS0, RS1, RS2, RS3, RS4, RS5, d2, hix, hcv]
        refine New_any ?_
        intro x8 w8 hx8 hs8 hw8 hf8
        refine St_all hw8 rfl (pc2_len _) (by intro q hq; simp [pc2] at hq; rcases hq with rfl | rfl <;> rfl) ?_
        intro w9 hw9 hs9 hf9
        have hf79 : Fm (fun _ => False) w17 w9 := Fm.own hf8 hf9 (by rintro y rfl; omega)
        have h9 := h17.keep hf79
        have c0 : w9.cell? ⟨x8, 0, none⟩ = some (iv m.1) := by rw [cell_at hw9]; rfl
        have c1 : w9.cell? ⟨x8, 1, none⟩ = some (iv m.2) := by rw [cell_at hw9]; rfl
        simp only [RS0, RS1, RS2, RS3, RS4, RS5, c0, c1]
        obtain ⟨hm1, hm2⟩ := npg m hmm
        refine h9.lit (bs47_2 _ _ _) rfl (by intro n hn; simp at hn; rcases hn with rfl | rfl <;> assumption) (by omega) ?_
        intro u11 w11 h11
        rw [numsB2] at h11
        simp only [RS0, RS1, RS2, RS3, RS4, RS5, e1]
        have e2 : B16 ++ (r.pages.take (i + 1)).flatMap prB = B16 ++ (r.pages.take i).flatMap prB ++ prB (m.1, m.2) := by rw [List.take_add_one, hx]; simp
        refine ⟨⟨i + 1, rfl, by omega, by rw [e2]; exact h11, ?_⟩, by simp only [nth_0]; omega⟩
        rw [e2]
        have := prB_len (p := (m.1, m.2)) hm1 hm2
        rw [List.length_append]
        omega
      have hie3 : i = r.pages.length := by omega
      subst hie3
      have d17 : decide (((r.pages.length : Nat) : Int) < (r.pages.length : Int)) = false := by simp
      rw [List.take_length] at h17 hl17
      have hl17' : (B16 ++ r.pages.flatMap prB).length ≤ 160000 := by omega
      generalize hB17 : B16 ++ r.pages.flatMap prB = B17 at h17 hl17'
      have hR17 := kR h17.fm
      simp only [RS0, RS1, RS2, RS3, RS4, RS5, d17, hR17.c15, (kT h17.fm).lenV]
      refine h17.lit (bs47_1 _ _) rfl (by intro n hn; simp at hn; omega) (by omega) ?_
      intro u26 w26 h26
      rw [numsB1] at h26
      have hR26 := kR h26.fm
      have hl26 : (B17 ++ encI (r.txns.length : Int)).length ≤ 160100 := by
        have := encI_len (n := r.txns.length) (by omega)
        rw [List.length_append]; omega
      generalize hB26 : B17 ++ encI (r.txns.length : Int) = B26 at h26 hl26
      simp only [RS0, RS1, RS2, RS3, RS4, RS5, hR26.c15, (kT h26.fm).lenV]
      refine ⟨fun vl w' => ∃ i : Nat, vl = [iv i] ∧ i ≤ r.txns.length ∧ WS w1 w' rw (B26 ++ (r.txns.take i).flatMap prB) ∧ (B26 ++ (r.txns.take i).flatMap prB).length ≤ 160100 + 18 * i, fun vl _ => (r.txns.length - nth vl 0).toNat, ⟨0, rfl, by omega, by simpa using h26, by simpa using hl26⟩, ?_⟩
      rintro _ w27 iv27 ⟨i, hvl, hile, h27, hl27⟩
      cases hvl
      by_cases hlt : i < r.txns.length
      · have hx : r.txns[i]? = some r.txns[i] := List.getElem?_eq_getElem hlt
        generalize r.txns[i] = m at hx
        have hmm := List.mem_of_getElem? hx
        obtain ⟨ad, hix, hcv, _⟩ := cells_ld pc2_len (by omega) (kT h27.fm) hx
        have d2 : decide ((i : Int) < (r.txns.length : Int)) = true := by rw [decide_eq_true_eq]; omega
        have e1 : IntKind.i64.wrap ((i : Int) + 1) = ((i + 1 : Nat) : Int) := by rw [wrap_id] <;> omega
        simp only [RS0, RS1, RS2, RS3, RS4, RS5, d2, hix, hcv]
        refine New_any ?_
        intro x8 w8 hx8 hs8 hw8 hf8
        refine St_all hw8 rfl (pc2_len _) (by intro q hq; simp [pc2] at hq; rcases hq with rfl | rfl <;> rfl) ?_
        intro w9 hw9 hs9 hf9
        have hf79 : Fm (fun _ => False) w27 w9 := Fm.own hf8 hf9 (by rintro y rfl; omega)
        have h9 := h27.keep hf79
        have c0 : w9.cell? ⟨x8, 0, none⟩ = some (iv m.1) := by rw [cell_at hw9]; rfl
        have c1 : w9.cell? ⟨x8, 1, none⟩ = some (iv m.2) := by rw [cell_at hw9]; rfl
        simp only [RS0, RS1, RS2, RS3, RS4, RS5, c0, c1]
        obtain ⟨hm1, hm2⟩ := ntx m hmm
        refine h9.lit (bs47_2 _ _ _) rfl (by intro n hn; simp at hn; rcases hn with rfl | rfl <;> assumption) (by omega) ?_
        intro u11 w11 h11
        rw [numsB2] at h11
        simp only [RS0, RS1, RS2, RS3, RS4, RS5, e1]
        have e2 : B26 ++ (r.txns.take (i + 1)).flatMap prB = B26 ++ (r.txns.take i).flatMap prB ++ prB (m.1, m.2) := by rw [List.take_add_one, hx]; simp
        refine ⟨⟨i + 1, rfl, by omega, by rw [e2]; exact h11, ?_⟩, by simp only [nth_0]; omega⟩
        rw [e2]
        have := prB_len (p := (m.1, m.2)) hm1 hm2
        rw [List.length_append]
        omega
      have hie3 : i = r.txns.length := by omega
      subst hie3
      have d27 : decide (((r.txns.length : Nat) : Int) < (r.txns.length : Int)) = false := by simp
      rw [List.take_length] at h27 hl27
      have hl27' : (B26 ++ r.txns.flatMap prB).length ≤ 180000 := by omega
      generalize hB27 : B26 ++ r.txns.flatMap prB = B27 at h27 hl27'
      have hR27 := kR h27.fm
      simp only [RS0, RS1, RS2, RS3, RS4, RS5, d27]
      refine (bbytes_spec h27.wr.1).mono ?_
      rintro _ w30 ⟨rfl, rfl⟩
      have hbody : rBody r = B27 := by
        rw [← hB27, ← hB26, ← hB17, ← hB16, ← hB7, ← hB6, ← hB5, ← hB4]
        rfl
      have hie0 : decide (imgErr r.imgs = 0) = true := by rw [hie]; rfl
      have d9 : decide ((65535 : Int) < (B27.length : Int)) = decide (65535 < B27.length) := by rw [decide_eq_decide]; omega
      unfold rInner
      rw [hie0, cond_true, hbody]
      simp only [RS0, RS1, RS2, RS3, RS4, RS5, str_size, d9]
      cases hbig : decide (65535 < B27.length) with
      | true =>
        simp only [RS0, RS1, RS2, RS3, RS4, RS5, cond_true]
        exact ⟨(by trivial), Fmf hf1 h27.fm⟩
      | false =>
        simp only [RS0, RS1, RS2, RS3, RS4, RS5, cond_false]
        exact ⟨(by trivial), Fmf hf1 h27.fm⟩

set_option maxHeartbeats 4000000 in
theorem checked_spec {w : World} {cs : Array Value} {r : Rc} (h : RcAs w cs r) : Cl Tryz.prog 82 [.agg cs] w fun v w' => v = .tuple #[stv (rCheck r).1, iv (rCheck r).2] ∧ Fm (fun _ => False) w w' := by
  obtain ⟨vs, vm, vi, vp, vt, hcs, _, hs, hm, hi, hp, ht⟩ := h.ex
  have hk8 := h.kin
  refine c82 ?_; unfold T82
  refine New_any ?_
  intro x1 w1 hx1 hs1 hw1 hf1
  have hR1 : RB w1 x1 r vs vm vi vp vt := ⟨by rw [← hcs]; exact hw1⟩
  have h1 := h.keep hf1
  rw [hcs] at h1
  unfold rCheck
  simp only [RS0, RS1, RS2, RS3, RS4, RS5, hR1.c3]
  cases e1 : decide (r.kind < 1) with
  | true =>
    simp only [RS0, RS1, RS2, RS3, RS4, RS5, Bool.true_or, cond_true]
    exact ⟨(by trivial), hf1⟩
  | false =>
  simp only [RS0, RS1, RS2, RS3, RS4, RS5, hR1.c3, Bool.false_or]
  cases e2 : decide (13 < r.kind) with
  | true =>
    simp only [RS0, RS1, RS2, RS3, RS4, RS5, cond_true]
    exact ⟨(by trivial), hf1⟩
  | false =>
  simp only [RS0, RS1, RS2, RS3, RS4, RS5, cond_false, hR1.c0]
  cases e3 : decide (r.lsn < 1) with
  | true =>
    simp only [RS0, RS1, RS2, RS3, RS4, RS5, Bool.true_or, cond_true]
    exact ⟨(by trivial), hf1⟩
  | false =>
  simp only [RS0, RS1, RS2, RS3, RS4, RS5, hR1.all, Bool.false_or]
  refine (numbers_spec h1).mono ?_
  rintro v2 w2 ⟨ho2, hf2⟩
  refine (contains_spec (CellsAt.of_own ho2)).mono ?_
  rintro _ w3 ⟨rfl, rfl⟩
  have hF2 := Fmf hf1 hf2
  have hR2 := hR1.keep hf2 (fun e => e)
  cases e4 : (rNums r).any badN with
  | true =>
    simp only [RS0, RS1, RS2, RS3, RS4, RS5, cond_true]
    exact ⟨(by trivial), hF2⟩
  | false =>
  have m1 : decide ((512 : Int) < (r.data.length : Int)) = decide (512 < r.data.length) := by rw [decide_eq_decide]; omega
  have m2 : decide ((255 : Int) < (r.slots.length : Int)) = decide (255 < r.slots.length) := by rw [decide_eq_decide]; omega
  have m3 : decide ((255 : Int) < (r.more.length : Int)) = decide (255 < r.more.length) := by rw [decide_eq_decide]; omega
  have m4 : decide ((4 : Int) < (r.imgs.length : Int)) = decide (4 < r.imgs.length) := by rw [decide_eq_decide]; omega
  have m5 : decide ((8192 : Int) < (r.pages.length : Int)) = decide (8192 < r.pages.length) := by rw [decide_eq_decide]; omega
  have m6 : decide ((1024 : Int) < (r.txns.length : Int)) = decide (1024 < r.txns.length) := by rw [decide_eq_decide]; omega
  simp only [RS0, RS1, RS2, RS3, RS4, RS5, cond_false, hR2.c10, str_size, m1]
  have long : ∀ {w'}, longR r = true → Fm (fun _ => False) w w' → Value.tuple #[.string (ByteArray.mk #[]), .int .i64 3] = .tuple #[stv (bif longR r then (([] : Bs), (3 : Int)) else rInner r).1, iv (bif longR r then (([] : Bs), (3 : Int)) else rInner r).2] ∧ Fm (fun _ => False) w w' := fun hl hf => ⟨by rw [hl]; rfl, hf⟩
  cases q1 : decide (512 < r.data.length) with
  | true => simp only [RS0, RS1, RS2, RS3, RS4, RS5]; exact long (by simp [longR, q1]) hF2
  | false =>
  simp only [RS0, RS1, RS2, RS3, RS4, RS5, hR2.c11, hs.lenV, m2]
  cases q2 : decide (255 < r.slots.length) with
  | true => simp only [RS0, RS1, RS2, RS3, RS4, RS5]; exact long (by simp [longR, q2]) hF2
  | false =>
  simp only [RS0, RS1, RS2, RS3, RS4, RS5, hR2.c12, hm.lenV, m3]
  cases q3 : decide (255 < r.more.length) with
  | true => simp only [RS0, RS1, RS2, RS3, RS4, RS5]; exact long (by simp [longR, q3]) hF2
  | false =>
  simp only [RS0, RS1, RS2, RS3, RS4, RS5, hR2.c13, hi.lenV, m4]
  cases q4 : decide (4 < r.imgs.length) with
  | true => simp only [RS0, RS1, RS2, RS3, RS4, RS5]; exact long (by simp [longR, q4]) hF2
  | false =>
  simp only [RS0, RS1, RS2, RS3, RS4, RS5, hR2.c14, hp.lenV, m5]
  cases q5 : decide (8192 < r.pages.length) with
  | true => simp only [RS0, RS1, RS2, RS3, RS4, RS5]; exact long (by simp [longR, q5]) hF2
  | false =>
  simp only [RS0, RS1, RS2, RS3, RS4, RS5, hR2.c15, ht.lenV, m6]
  cases q6 : decide (1024 < r.txns.length) with
  | true => simp only [RS0, RS1, RS2, RS3, RS4, RS5]; exact long (by simp [longR, q6]) hF2
  | false =>
  have hl : longR r = false := by unfold longR; rw [q1, q2, q3, q4, q5, q6]; rfl
  simp only [RS0, RS1, RS2, RS3, RS4, RS5, hR2.all]
  refine (inner_spec (h1.keep hf2) hl).mono ?_
  rintro _ w4 ⟨rfl, hf4⟩
  simp only [RS0, RS1, RS2, RS3, RS4, RS5]
  refine ⟨?_, Fmf hF2 hf4⟩
  rw [hl]
  rfl
theorem rCheck_len (r : Rc) : (rCheck r).1.length ≤ 65535 := by
  unfold rCheck
  cases decide (r.kind < 1) || decide (13 < r.kind) with
  | true => simp
  | false =>
  cases decide (r.lsn < 1) || (rNums r).any badN with
  | true => simp
  | false =>
  cases longR r with
  | true => simp
  | false =>
  simp only [cond_false]
  unfold rInner
  cases decide (imgErr r.imgs = 0) with
  | false => simp
  | true =>
  cases hb : decide (65535 < (rBody r).length) with
  | true => simp
  | false =>
    rw [decide_eq_false_iff_not] at hb
    simp only [cond_true, cond_false]
    omega
set_option maxHeartbeats 1000000 in
theorem renc_spec {w : World} {cs : Array Value} {r : Rc} (h : RcAs w cs r) : Cl Tryz.prog 89 [.agg cs] w fun v w' => v = .tuple #[stv (rEnc r).1, iv (rEnc r).2] ∧ Fm (fun _ => False) w w' := by
  refine c89 ?_; unfold T89
  refine New_any ?_
  intro x1 w1 hx1 hs1 hw1 hf1
  simp only [RS0, RS1, RS2, RS3, RS4, RS5, cellsV_blk hw1 h.size]
  refine (checked_spec (h.keep hf1)).mono ?_
  rintro _ w2 ⟨rfl, hf2⟩
  have hF2 := Fmf hf1 hf2
  have hlen := rCheck_len r
  unfold rEnc
  simp only [RS0, RS1, RS2, RS3, RS4, RS5, bne_dec]
  cases hz : decide ((rCheck r).2 = 0) with
  | false =>
    simp only [RS0, RS1, RS2, RS3, RS4, RS5, cond_false]
    exact ⟨(by trivial), hF2⟩
  | true =>
  generalize (rCheck r).1 = s at hlen
  simp only [RS0, RS1, RS2, RS3, RS4, RS5, cond_true, str_size]
  refine (big_spec w2 (by omega) 4).mono ?_
  rintro _ w3 ⟨rfl, hf3⟩
  refine (sum_spec w3 s (by omega)).mono ?_
  rintro _ w4 ⟨rfl, rfl⟩
  obtain ⟨q1, q2⟩ := crc_in s
  simp only [RS0, RS1, RS2, RS3, RS4, RS5, cvI_int, q2]
  refine (big_spec w4 q1 4).mono ?_
  rintro _ w5 ⟨rfl, hf5⟩
  have g1 : bigB (s.length : Nat) 4 = beN 4 s.length := bigB_of (n := s.length) (w := 4) (by omega) (by omega)
  have g2 : bigB (crc s : Nat) 4 = beN 4 (crc s) := bigB_of (n := crc s) (w := 4) (by omega) (by omega)
  rw [g1, g2, sadd (by rw [beN_len, beN_len]; omega)]
  try simp only [RS0, RS1, RS2, RS3, RS4, RS5]
  rw [sadd (by rw [List.length_append, beN_len, beN_len]; omega)]
  try simp only [RS0, RS1, RS2, RS3, RS4, RS5]
  exact ⟨(by trivial), Fmf hF2 (Fmf hf3 hf5)⟩

end Go.Proofs.YthbngnlmgplijaaGreatDoor

namespace Go.Proofs.YthbngnlmgplijaaGreatDoor
open Go.Al Go.Proofs
set_option linter.unusedVariables false
set_option linter.unusedSimpArgs false
set_option linter.unusedSectionVars false
set_option maxRecDepth 100000

theorem rn_in (most : Int) (st : St2) : 0 ≤ (rn most st).1 ∧ (rn most st).1 ≤ max most 0 ∧ (rn most st).2.1.length ≤ st.1.length := by
  unfold rn rdNum
  cases decide (st.2 = 0) with
  | true => exact rdN_in most 9 0 0 st.1
  | false => exact ⟨Int.le_refl _, by show (0 : Int) ≤ _; omega, Nat.le_refl _⟩
theorem rt_in {most : Int} (hm : 0 ≤ most) (st : St2) : ((rt most st).1.length : Int) ≤ most ∧ (rt most st).2.1.length ≤ st.1.length := by
  have h := rn_in most st
  unfold rt
  cases decide ((rn most st).2.2 = 0) with
  | true =>
    cases hd : decide (((rn most st).2.1.length : Int) < (rn most st).1) with
    | true => simp; omega
    | false => simp only [cond_true, cond_false, List.length_take, List.length_drop]; omega
  | false => simp only [cond_false, List.length_nil]; omega
theorem rlGo_in : ∀ (n : Nat) (st : St2), (rlGo n st).1.length ≤ n ∧ (∀ x ∈ (rlGo n st).1, okN x) ∧ (rlGo n st).2.1.length ≤ st.1.length
  | 0, st => ⟨Nat.le_refl _, by simp [rlGo], Nat.le_refl _⟩
  | n + 1, st => by
    have h := rn_in 4611686018427387904 st
    have ih := rlGo_in n (rn 4611686018427387904 st).2
    have h1 : okN (rn 4611686018427387904 st).1 := ⟨h.1, by have := h.2.1; omega⟩
    unfold rlGo
    cases decide ((rn 4611686018427387904 st).2.2 = 0) with
    | true =>
      simp only [cond_true, List.length_cons]
      refine ⟨by omega, fun x hx => ?_, by omega⟩
      rcases List.mem_cons.1 hx with rfl | hx
      · exact h1
      · exact ih.2.1 x hx
    | false =>
      simp only [cond_false]
      refine ⟨by simp, fun x hx => ?_, h.2.2⟩
      obtain rfl : x = _ := by simpa using hx
      exact h1
theorem rl_in {most : Int} (hm : 0 ≤ most) (st : St2) : ((rl most st).1.length : Int) ≤ most ∧ (∀ x ∈ (rl most st).1, okN x) ∧ (rl most st).2.1.length ≤ st.1.length := by
  have h := rn_in most st
  have h2 := rlGo_in (rn most st).1.toNat (rn most st).2
  unfold rl
  exact ⟨by omega, h2.2.1, by omega⟩
theorem riGo_in : ∀ (n : Nat) (st : St2) {r : List (Int × Pg) × St2}, riGo n st = some r → r.1.length = n ∧ (∀ m ∈ r.1, okN m.1 ∧ m.2.lsn ≤ 9223372036854775807) ∧ r.2.1.length ≤ st.1.length
  | 0, st, r, h => by cases h; exact ⟨rfl, by simp, Nat.le_refl _⟩
  | n + 1, st, r, h => by
    have h0 := rn_in 4611686018427387904 st
    have h1 := rt_in (most := 512) (by omega) (rn 4611686018427387904 st).2
    unfold riGo at h
    cases hc : decide ((pDec (padZ (rt 512 (rn 4611686018427387904 st).2).1)).2 = 0) && decide ((rt 512 (rn 4611686018427387904 st).2).2.2 = 0) with
    | false => rw [hc, cond_false] at h; cases h
    | true =>
      rw [hc, cond_true, Option.map_eq_some_iff] at h
      obtain ⟨q, hq, rfl⟩ := h
      have ih := riGo_in n _ hq
      rw [Bool.and_eq_true, decide_eq_true_eq] at hc
      refine ⟨by simp only [List.length_cons]; omega, fun m hm => ?_, by simp only; omega⟩
      rcases List.mem_cons.1 hm with rfl | hm
      · exact ⟨⟨h0.1, by have := h0.2.1; simp only; omega⟩, (enc_dec hc.1).2.2⟩
      · exact ih.2.1 m hm
theorem rpGo_in : ∀ (n : Nat) (st : St2) {r : List (Int × Int) × St2}, rpGo n st = some r → r.1.length = n ∧ (∀ m ∈ r.1, okN m.1 ∧ okN m.2) ∧ r.2.1.length ≤ st.1.length
  | 0, st, r, h => by cases h; exact ⟨rfl, by simp, Nat.le_refl _⟩
  | n + 1, st, r, h => by
    have h0 := rn_in 4611686018427387904 st
    have h1 := rn_in 4611686018427387904 (rn 4611686018427387904 st).2
    unfold rpGo at h
    cases hc : decide (st.2 = 0) with
    | false => rw [hc, cond_false] at h; cases h
    | true =>
      rw [hc, cond_true, Option.map_eq_some_iff] at h
      obtain ⟨q, hq, rfl⟩ := h
      have ih := rpGo_in n _ hq
      refine ⟨by simp only [List.length_cons]; omega, fun m hm => ?_, by simp only; omega⟩
      rcases List.mem_cons.1 hm with rfl | hm
      · exact ⟨⟨h0.1, by have := h0.2.1; simp only; omega⟩, ⟨h1.1, by have := h1.2.1; simp only; omega⟩⟩
      · exact ih.2.1 m hm
structure Bnd (r : Rc) : Prop where
  nums : ∀ n ∈ rNums r, okN n
  kind : 0 ≤ r.kind ∧ r.kind ≤ 13
  data : r.data.length ≤ 512
  slots : r.slots.length ≤ 255
  more : r.more.length ≤ 255
  imgs : r.imgs.length ≤ 4
  pages : r.pages.length ≤ 8192
  txns : r.txns.length ≤ 1024
  lsns : ∀ m ∈ r.imgs, m.2.lsn ≤ 9223372036854775807
theorem mem_prs2 {l : List (Int × Int)} {n : Int} (h : n ∈ prs l) : ∃ p ∈ l, n = p.1 ∨ n = p.2 := by
  unfold prs at h
  obtain ⟨p, hp, hn⟩ := List.mem_flatMap.1 h
  simp at hn
  exact ⟨p, hp, hn⟩
theorem tail_in {a : List Int} {st : St2} {x : Rc} (h : tailP a st = some x) (ha : ∀ i, i < 10 → i ≠ 3 → okN (gI a i)) (hk : 0 ≤ gI a 3 ∧ gI a 3 ≤ 13) : Bnd x := by
  unfold tailP at h
  have t1 := rt_in (most := 512) (by omega) st
  have t2 := rl_in (most := 255) (by omega) (rt 512 st).2
  have t3 := rl_in (most := 255) (by omega) (rl 255 (rt 512 st).2).2
  have t4 := rn_in 4 (rl 255 (rl 255 (rt 512 st).2).2).2
  simp only at h
  rw [Option.bind_eq_some_iff] at h
  obtain ⟨im, h1, h⟩ := h
  rw [Option.bind_eq_some_iff] at h
  obtain ⟨pg, h2, h⟩ := h
  rw [Option.bind_eq_some_iff] at h
  obtain ⟨tx, h3, h⟩ := h
  have t5 := rn_in 8192 im.2
  have t6 := rn_in 1024 pg.2
  have u1 := riGo_in _ _ h1
  have u2 := rpGo_in _ _ h2
  have u3 := rpGo_in _ _ h3
  cases he : decide (endE tx.2.1 tx.2.2 = 0) with
  | false => rw [he, cond_false] at h; cases h
  | true =>
    rw [he, cond_true] at h
    cases h
    refine ⟨fun n hn => ?_, hk, by simp only; omega, by simp only; omega, by simp only; omega, by simp only; omega, by simp only; omega, by simp only; omega, fun m hm => (u1.2.1 m hm).2⟩
    unfold rNums at hn
    simp only [List.mem_append] at hn
    rcases hn with ((((hn | hn) | hn) | hn) | hn) | hn
    · simp only [List.mem_cons, List.not_mem_nil, or_false] at hn
      rcases hn with rfl | rfl | rfl | rfl | rfl | rfl | rfl | rfl | rfl <;> exact ha _ (by omega) (by omega)
    · exact t2.2.1 n hn
    · exact t3.2.1 n hn
    · obtain ⟨m, hm, rfl⟩ := List.mem_map.1 hn
      exact (u1.2.1 m hm).1
    · obtain ⟨p, hp, e | e⟩ := mem_prs2 hn <;> rw [e]
      · exact (u2.2.1 p hp).1
      · exact (u2.2.1 p hp).2
    · obtain ⟨p, hp, e | e⟩ := mem_prs2 hn <;> rw [e]
      · exact (u3.2.1 p hp).1
      · exact (u3.2.1 p hp).2

/-! ### The reader's texts and lists -/
theorem rnum_spec {w : World} {rb : Nat} {st : St2} (h : RdAt w rb st.1 st.2) (hs : st.1.length ≤ 1000000) {most : Int} (hm : most ≤ 9223372036854775807) : Cl Tryz.prog 150 [pv rb, iv most] w fun v w' => v = iv (rn most st).1 ∧ RdAt w' rb (rn most st).2.1 (rn most st).2.2 ∧ Fm (· = rb) w w' :=
  bnum_spec h most (by omega) hm
set_option maxHeartbeats 1000000 in
theorem rtext_spec {w : World} {rb : Nat} {st : St2} (h : RdAt w rb st.1 st.2) (hs : st.1.length ≤ 1000000) {most : Int} (hm : most ≤ 9223372036854775807) : Cl Tryz.prog 151 [pv rb, iv most] w fun v w' => v = stv (rt most st).1 ∧ RdAt w' rb (rt most st).2.1 (rt most st).2.2 ∧ Fm (· = rb) w w' := by
  refine c151 ?_; unfold T151
  refine (rnum_spec h hs hm).mono ?_
  have hin := rn_in most st
  unfold rt
  rintro _ w1 ⟨rfl, h1, hf1⟩
  generalize (rn most st).1 = n at hin ⊢
  generalize (rn most st).2 = st1 at hin h1
  simp only [RS0, RS1, RS2, RS3, RS4, RS5, h1.c1, bne_dec]
  cases hz : decide (st1.2 = 0) with
  | false =>
    simp only [RS0, RS1, RS2, RS3, RS4, RS5, cond_false]
    exact ⟨(by trivial), h1, hf1⟩
  | true =>
    obtain ⟨j, rfl⟩ := Int.eq_ofNat_of_zero_le hin.1
    simp only [RS0, RS1, RS2, RS3, RS4, RS5, cond_true, h1.c0, str_size, Int.toNat_natCast]
    cases hd : decide ((st1.1.length : Int) < (j : Int)) with
    | true =>
      simp only [RS0, RS1, RS2, RS3, RS4, RS5, cond_true]
      refine (bfail_spec h1 10).mono ?_
      rintro _ w2 ⟨rfl, h2, hf2⟩
      try simp only [RS0, RS1, RS2, RS3, RS4, RS5]
      exact ⟨(by trivial), h2, hf1.trans hf2 (fun _ _ e => e) (fun _ _ e => e)⟩
    | false =>
      rw [decide_eq_false_iff_not] at hd
      have s1 := slS_hi (l := st1.1) (i := j) (by omega) .i64
      have s2 := slS_lo (l := st1.1) (i := j) (by omega) .i64
      simp only [RS0, RS1, RS2, RS3, RS4, RS5, cond_false, h1.c0, s1, s2]
      refine St_blk h1 (by show 0 < 2; decide) rfl ?_
      intro w2 hw2 hs2 hf2
      rw [decide_eq_true_eq] at hz
      refine ⟨(by trivial), ?_, hf1.trans hf2 (fun _ _ e => e) (fun _ _ e => e)⟩
      have : RdAt w2 rb (st1.1.drop j) st1.2 := hw2
      rw [hz] at this
      exact this
set_option maxHeartbeats 2000000 in
theorem rlist_spec {w : World} {rb : Nat} {st : St2} (h : RdAt w rb st.1 st.2) (hs : st.1.length ≤ 1000000) : Cl Tryz.prog 152 [pv rb, iv 255] w fun v w' => w'.ownsRow w.heap.size 3 1 v (rl 255 st).1.length ((rl 255 st).1.map iv) ∧ RdAt w' rb (rl 255 st).2.1 (rl 255 st).2.2 ∧ Fm (· = rb) w w' := by
  refine c152 ?_; unfold T152
  refine Jn_at (fun vs w' => ∃ v, vs = [v] ∧ w'.ownsRow w.heap.size 3 1 v (rl 255 st).1.length ((rl 255 st).1.map iv) ∧ RdAt w' rb (rl 255 st).2.1 (rl 255 st).2.2 ∧ Fm (· = rb) w w') ?_ ?_
  · rintro _ w' ⟨v, rfl, g⟩ _
    exact ⟨v, rfl, g⟩
  · intro jj hjj
    refine (rnum_spec h hs (by omega)).mono ?_
    have hin := rn_in 255 st
    unfold rl at hjj
    rintro _ w1 ⟨rfl, h1, hf1⟩
    generalize (rn 255 st).1 = n at hin hjj ⊢
    generalize (rn 255 st).2 = st1 at hin h1 hjj
    obtain ⟨N, rfl⟩ := Int.eq_ofNat_of_zero_le hin.1
    rw [Int.toNat_natCast] at hjj
    have hz1 := hf1.size
    refine ⟨fun vs w' => ∃ (i : Nat) (v : Value) (L : List Int) (st2 : St2), vs = [v, iv i] ∧ i ≤ N ∧ L.length = i ∧ w'.ownsRow w.heap.size 3 1 v L.length (L.map iv) ∧ RdAt w' rb st2.1 st2.2 ∧ st2.1.length ≤ 1000000 ∧ rlGo N st1 = (L ++ (rlGo (N - i) st2).1, (rlGo (N - i) st2).2) ∧ Fm (· = rb) w w', fun vs _ => (N - nth vs 1).toNat, ⟨0, _, [], st1, rfl, by omega, rfl, World.ownsRow_nil _ _ _ _, h1, by omega, rfl, hf1⟩, ?_⟩
    rintro _ w2 v iv2 ⟨i, v0, L, st2, hvs, hi, hL, ho2, h2, hl2, heq, hf2⟩
    cases hvs
    have hz2 := hf2.size
    by_cases hlt : i < N
    · have d1 : decide ((i : Int) < (N : Int)) = true := by rw [decide_eq_true_eq]; omega
      have e1 : IntKind.i64.wrap ((i : Int) + 1) = ((i + 1 : Nat) : Int) := by rw [wrap_id] <;> omega
      obtain ⟨m, hm⟩ : ∃ m, N - i = m + 1 := ⟨N - i - 1, by omega⟩
      have hm1 : N - (i + 1) = m := by omega
      simp only [RS0, RS1, RS2, RS3, RS4, RS5, d1]
      refine (rnum_spec h2 hl2 (by omega)).mono ?_
      rw [hm, rlGo] at heq
      have hin2 := rn_in 4611686018427387904 st2
      rintro _ w3 ⟨rfl, h3, hf3⟩
      generalize (rn 4611686018427387904 st2).1 = x at heq hin2 ⊢
      generalize (rn 4611686018427387904 st2).2 = st3 at heq hin2 h3
      have hF3 : Fm (· = rb) w w3 := hf2.trans hf3 (fun _ _ e => e) (fun _ _ e => e)
      have hz3 := hF3.size
      have hrd : RdAt w2 rb st2.1 st2.2 := h2
      have hrbne : ∀ k, v.ownBlock = some k → k ≠ rb := by
        intro k hk e
        rcases ho2.2 with ⟨rfl, _⟩ | ⟨g, cap, cur, rfl, _, hg, _⟩
        · cases hk
        · have e1 : g = k := by simpa [Value.ownBlock] using hk
          rw [e1, e] at hg
          have hq : w2.heap[rb]? = _ := hrd
          rw [hq] at hg; cases hg
      have ho3 := own_keep ho2 hf3 (fun k _ _ hk e => hrbne k hk e)
      refine row_lit ho3 (bs47_1 _ _) rfl (by omega) hz3 ?_
      intro v4 w4 ho4 hf4
      have hrl := h.lt
      have h4 := h3.keep hf4 (fun e => by omega)
      have hF4 : Fm (· = rb) w w4 := hF3.trans hf4 (fun _ _ e => e) (fun y hy e => by omega)
      refine (berr_spec h4).mono ?_
      rintro _ w5 ⟨rfl, rfl⟩
      simp only [RS0, RS1, RS2, RS3, RS4, RS5, bne_dec]
      cases hz : decide (st3.2 = 0) with
      | false =>
        rw [hz, cond_false] at heq
        simp only [RS0, RS1, RS2, RS3, RS4, RS5]
        refine hjj _ _ ⟨v4, rfl, ?_⟩
        rw [heq]
        exact ⟨ho4, h4, hF4⟩
      | true =>
        rw [hz, cond_true] at heq
        simp only [RS0, RS1, RS2, RS3, RS4, RS5, e1]
        refine ⟨⟨i + 1, v4, L ++ [x], st3, rfl, by omega, by rw [List.length_append, hL]; rfl, ho4, h4, by omega, ?_, hF4⟩, by simp only [nth_1]; omega⟩
        rw [heq, hm1]
        simp
    · have hie : i = N := by omega
      subst hie
      have d1 : decide ((i : Int) < (i : Int)) = false := by simp
      rw [Nat.sub_self, rlGo] at heq
      simp only [List.append_nil] at heq
      simp only [RS0, RS1, RS2, RS3, RS4, RS5, d1]
      refine hjj _ _ ⟨v, rfl, ?_⟩
      rw [heq]
      exact ⟨ho2, h2, hf2⟩

/-- One more, and where it lies. -/
theorem app_fine {w : World} {base n bytes sz : Nat} {t e : TypeId} {v : Value} {xs : List Value} (E : ElemT Tryz.prog t e sz bytes) (hsz : 0 < sz) (h : w.ownsRow base e sz v n xs) {b : Nat} {cs : List Value} (hb : w.heap[b]? = some (.cells cs.toArray e)) (hcs : cs.length = sz) (h1 : ∀ u ∈ cs, u.oneCell' = true) (hn : (n + 1) * bytes ≤ 140737488355328) (h63 : n + 1 ≤ maxLen) (hbs : base ≤ w.heap.size) :
    ∃ v' w', (Builtin.append_ #[t, t] t #[v, .slice (some ⟨b, 0, none⟩) 1 1]).run Tryz.prog w = .ok v' w' ∧ w'.ownsRow base e sz v' (n + 1) (xs ++ cs) ∧ (∀ y, v'.ownBlock = some y → v.ownBlock = some y ∨ w.heap.size ≤ y) ∧ Fm (fun y => v.ownBlock = some y) w w' := by
  obtain ⟨v', w', hr, ho, hc⟩ := append_fine E hsz h t ⟨b, 0, none⟩ 1 1 (by omega) cs (by omega) (fun j u hj => by rw [add_none, Nat.zero_add, cell_at hb]; simpa using hj) h1 h63 hn hbs
  refine ⟨v', w', hr, ho, ?_⟩
  rcases hc with ⟨g, e1, e2, e3⟩ | ⟨g, e1, e2, e3⟩
  · exact ⟨fun y hy => .inl (by rw [e1, ← e2]; exact hy), e3.mono (fun y _ e => by rw [e]; exact e1)⟩
  · exact ⟨fun y hy => .inr (by rw [e1] at hy; cases hy; exact e2), e3.mono (fun _ _ e => e.elim)⟩


end Go.Proofs.YthbngnlmgplijaaGreatDoor

namespace Go.Proofs.YthbngnlmgplijaaGreatDoor
open Go.Al Go.Proofs
set_option linter.unusedVariables false
set_option linter.unusedSimpArgs false
set_option linter.unusedSectionVars false
set_option maxRecDepth 100000

abbrev nl : Value := .slice none 0 0
def rc0 : Rc := ⟨0, 0, 0, 0, 0, 0, 0, 0, 0, 0, [], [], [], [], [], []⟩
theorem rcs_one {r : Rc} {vs vm vi vp vt : Value} (h1 : vs.oneCell' = true) (h2 : vm.oneCell' = true) (h3 : vi.oneCell' = true) (h4 : vp.oneCell' = true) (h5 : vt.oneCell' = true) : ∀ u ∈ (rcs r vs vm vi vp vt).toList, u.oneCell' = true := by
  intro u hu
  simp [rcs] at hu
  rcases hu with rfl | rfl | rfl | rfl | rfl | rfl | rfl | rfl | rfl | rfl | rfl | rfl | rfl | rfl | rfl | rfl <;> first | rfl | assumption
theorem bld52z (w : World) : (Instr.build 28 #[]).run Tryz.prog w = .ok (.agg (rcs rc0 nl nl nl nl nl)) w := by kernel_rfl
theorem agg52 : aggB Tryz.prog 28 = some true := by kernel_rfl
theorem size52 : sizeB Tryz.prog 28 = some 16 := by kernel_rfl
theorem Er48 : ElemT Tryz.prog 24 118 7 80 := elemT_of Tryz.underlying24 (by kernel_rfl)
theorem Er49 : ElemT Tryz.prog 25 120 2 16 := elemT_of Tryz.underlying25 (by kernel_rfl)
theorem Er50 : ElemT Tryz.prog 26 122 2 16 := elemT_of Tryz.underlying26 (by kernel_rfl)
theorem bld90 (m : Int) (p : Pg) (a : Option Addr) (n c : Nat) (w : World) : (Instr.build 118 #[(0, iv m), (1, .agg (pcs p (.slice a n c)))]).run Tryz.prog w = .ok (.agg (imC (m, p, .slice a n c)).toArray) w := by kernel_rfl
theorem bs48 (m : Int) (p : Pg) (a : Option Addr) (n c : Nat) (w : World) : (Instr.buildSlice 24 1 #[(0, .agg (imC (m, p, .slice a n c)).toArray)]).run Tryz.prog w = .ok (.slice (some ⟨w.heap.size, 0, none⟩) 1 1) (w.alloc (.cells (imC (m, p, .slice a n c)).toArray 118)) := by kernel_rfl
theorem bld96 (a b : Int) (w : World) : (Instr.build 120 #[(0, iv a), (1, iv b)]).run Tryz.prog w = .ok (.agg (pc2 (a, b)).toArray) w := by kernel_rfl
theorem bld99 (a b : Int) (w : World) : (Instr.build 122 #[(0, iv a), (1, iv b)]).run Tryz.prog w = .ok (.agg (pc2 (a, b)).toArray) w := by kernel_rfl
theorem bs49 (a b : Int) (w : World) : (Instr.buildSlice 25 1 #[(0, .agg (pc2 (a, b)).toArray)]).run Tryz.prog w = .ok (.slice (some ⟨w.heap.size, 0, none⟩) 1 1) (w.alloc (.cells (pc2 (a, b)).toArray 120)) := by kernel_rfl
theorem bs50 (a b : Int) (w : World) : (Instr.buildSlice 26 1 #[(0, .agg (pc2 (a, b)).toArray)]).run Tryz.prog w = .ok (.slice (some ⟨w.heap.size, 0, none⟩) 1 1) (w.alloc (.cells (pc2 (a, b)).toArray 122)) := by kernel_rfl

/-- What is in the heap while a body is read. -/
structure HS (w0 w : World) (x2 rb r4 x5 : Nat) (st : St2) (r : Rc) (vs vm vi vp vt : Value) : Prop where
  res : w.heap[x2]? = some (.cells (rcs rc0 nl nl nl nl nl) 28)
  rd : RdAt w rb st.1 st.2
  rp : w.heap[r4]? = some (.cells #[pv rb] 181)
  x : RB w x5 r vs vm vi vp vt
  fm : Fm (fun _ => False) w0 w
  o1 : w0.heap.size ≤ x2
  o2 : x2 < rb
  o3 : rb < r4
  o4 : r4 < x5
  len : st.1.length ≤ 1000000
section
variable {w0 w w' : World} {x2 rb r4 x5 : Nat} {st : St2} {r : Rc} {vs vm vi vp vt : Value}
theorem HS.keepG {S : Nat → Prop} (h : HS w0 w x2 rb r4 x5 st r vs vm vi vp vt) (hf : Fm S w w') (hS : ∀ y, S y → x5 < y) : HS w0 w' x2 rb r4 x5 st r vs vm vi vp vt := by
  have := h.o1
  have := h.o2
  have := h.o3
  have := h.o4
  have hn : ∀ y, y ≤ x5 → ¬ S y := fun y hy e => by have := hS y e; omega
  exact ⟨hf.heap h.res (hn _ (by omega)), h.rd.keep hf (hn _ (by omega)), hf.heap h.rp (hn _ (by omega)), h.x.keep hf (hn _ (by omega)), Fm.own h.fm hf (fun y hy => by have := hS y hy; omega), h.o1, h.o2, h.o3, h.o4, h.len⟩
theorem HS.rdr (h : HS w0 w x2 rb r4 x5 st r vs vm vi vp vt) {st' : St2} (hr : RdAt w' rb st'.1 st'.2) (hf : Fm (· = rb) w w') (hl : st'.1.length ≤ st.1.length) : HS w0 w' x2 rb r4 x5 st' r vs vm vi vp vt := by
  have := h.o1
  have := h.o2
  have := h.o3
  have := h.o4
  have := h.len
  exact ⟨hf.heap h.res (by omega), hr, hf.heap h.rp (by omega), h.x.keep hf (by omega), Fm.own h.fm hf (by rintro y rfl; omega), h.o1, h.o2, h.o3, h.o4, by omega⟩
theorem HS.cp (h : HS w0 w x2 rb r4 x5 st r vs vm vi vp vt) : w.cell? ⟨r4, 0, none⟩ = some (pv rb) := by rw [cell_at h.rp]; rfl
theorem HS.numk (h : HS w0 w x2 rb r4 x5 st r vs vm vi vp vt) {most : Int} (hm : most ≤ 9223372036854775807) {k : KV} (hk : ∀ w', HS w0 w' x2 rb r4 x5 (rn most st).2 r vs vm vi vp vt → Fm (· = rb) w w' → k (iv (rn most st).1) w') : Cl Tryz.prog 150 [pv rb, iv most] w k := by
  refine (rnum_spec h.rd h.len hm).mono ?_
  rintro _ w' ⟨rfl, h1, hf⟩
  exact hk w' (h.rdr h1 hf (rn_in most st).2.2) hf
theorem HS.num (h : HS w0 w x2 rb r4 x5 st r vs vm vi vp vt) {k : KV} (hk : ∀ w', HS w0 w' x2 rb r4 x5 (rn 4611686018427387904 st).2 r vs vm vi vp vt → Fm (· = rb) w w' → k (iv (rn 4611686018427387904 st).1) w') : ClV Tryz.prog (.func (.func 149) #[] #[pv r4]) [] w k := by
  refine ClV_func (by kernel_rfl) ?_
  show Cl Tryz.prog 149 [pv r4] w k
  refine c149 ?_; unfold T149
  simp only [RS0, RS1, RS2, RS3, RS4, RS5, h.cp]
  refine h.numk (by omega) ?_
  intro w' h' hf
  exact hk w' h' hf
theorem HS.text (h : HS w0 w x2 rb r4 x5 st r vs vm vi vp vt) {k : KV} (hk : ∀ w', HS w0 w' x2 rb r4 x5 (rt 512 st).2 r vs vm vi vp vt → Fm (· = rb) w w' → k (stv (rt 512 st).1) w') : Cl Tryz.prog 151 [pv rb, iv 512] w k := by
  refine (rtext_spec h.rd h.len (by omega)).mono ?_
  rintro _ w' ⟨rfl, h1, hf⟩
  exact hk w' (h.rdr h1 hf (rt_in (by omega) st).2) hf
theorem HS.list (h : HS w0 w x2 rb r4 x5 st r vs vm vi vp vt) {k : KV} (hk : ∀ v w', HS w0 w' x2 rb r4 x5 (rl 255 st).2 r vs vm vi vp vt → w'.ownsRow w.heap.size 3 1 v (rl 255 st).1.length ((rl 255 st).1.map iv) → Fm (· = rb) w w' → k v w') : Cl Tryz.prog 152 [pv rb, iv 255] w k := by
  refine (rlist_spec h.rd h.len).mono ?_
  rintro v w' ⟨ho, h1, hf⟩
  exact hk v w' (h.rdr h1 hf (rl_in (by omega) st).2.2) ho hf
theorem HS.put (h : HS w0 w x2 rb r4 x5 st r vs vm vi vp vt) {j : Nat} {u : Value} {r' : Rc} {vs' vm' vi' vp' vt' : Value} (hj : j < 16) (hu : u.oneCell' = true) (e : (rcs r vs vm vi vp vt).setIfInBounds j u = rcs r' vs' vm' vi' vp' vt') {k : KV}
    (hk : ∀ w', HS w0 w' x2 rb r4 x5 st r' vs' vm' vi' vp' vt' → Fm (· = x5) w w' → k undef w') : St 1 w (.pointer (some ⟨x5, j, none⟩)) u k := by
  have := h.o1
  have := h.o2
  have := h.o3
  have := h.o4
  refine St_blk h.x.h (by show j < 16; exact hj) hu ?_
  intro w' hw' hs' hf'
  rw [e] at hw'
  exact hk w' ⟨hf'.heap h.res (by omega), h.rd.keep hf' (by omega), hf'.heap h.rp (by omega), ⟨hw'⟩, Fm.own h.fm hf' (by rintro y rfl; omega), h.o1, h.o2, h.o3, h.o4, h.len⟩ hf'
/-- What is returned. -/
theorem HS.ret (h : HS w0 w x2 rb r4 x5 st r vs vm vi vp vt) (hone : ∀ u ∈ (rcs r vs vm vi vp vt).toList, u.oneCell' = true) (b : Bool) {k : KV} (hk : ∀ w', Fm (· = x2) w w' → k (.tuple #[.agg (rcs r vs vm vi vp vt), .bool b]) w') :
    St 16 w (.pointer (some ⟨x2, 0, none⟩)) (.agg (rcs r vs vm vi vp vt)) fun u_168 w_169 =>
        RetO (resL Tryz.prog (fun j => bif Nat.beq j 2 then .pointer (some ⟨x2, 0, none⟩) else bif Nat.beq j 3 then (Value.bool b) else undef) w_169 [(ResultVar.cell 2 28), (ResultVar.tmp 3)]) w_169 k := by
  refine St_all h.res rfl rfl hone ?_
  intro w' hw' hs' hf'
  have hj' : resV Tryz.prog (fun j => bif Nat.beq j 2 then .pointer (some ⟨x2, 0, none⟩) else bif Nat.beq j 3 then (Value.bool b) else undef) w' (.tmp 3) = some (.bool b) := rfl
  simp only [resL, resV_blk (f := (fun j => bif Nat.beq j 2 then .pointer (some ⟨x2, 0, none⟩) else bif Nat.beq j 3 then (Value.bool b) else undef)) (a := 2) rfl agg52 size52 hw' rfl, hj', RetO, RetV]
  exact hk w' hf'
end
/-- The lists of a record, the call's own. -/
structure Rows (w : World) (b : Nat) (r : Rc) (vs vm vi vp vt : Value) : Prop where
  hs : w.ownsRow b 3 1 vs r.slots.length (r.slots.map iv)
  hm : w.ownsRow b 3 1 vm r.more.length (r.more.map iv)
  hi : ∃ X : List (Int × Pg × Value), X.map (fun x => (x.1, x.2.1)) = r.imgs ∧ w.ownsRow b 118 7 vi X.length (X.flatMap imC) ∧ ∀ x ∈ X, x.2.2.oneCell' = true ∧ w.ownsRow b 9 1 x.2.2 x.2.1.items.length (x.2.1.items.map stv) ∧ PgAs w (pcs x.2.1 x.2.2) x.2.1
  hp : w.ownsRow b 120 2 vp r.pages.length (r.pages.flatMap pc2)
  ht : w.ownsRow b 122 2 vt r.txns.length (r.txns.flatMap pc2)
section
variable {w w' : World} {b : Nat} {r : Rc} {vs vm vi vp vt : Value}
theorem pgas_own {p : Pg} {v : Value} (ho : w'.ownsRow b 9 1 v p.items.length (p.items.map stv)) (h : PgAs w (pcs p v) p) : PgAs w' (pcs p v) p := ⟨⟨v, rfl, own_one ho, CellsAt.of_own ho⟩, h.small, h.ins⟩
theorem Rows.keep {S : Nat → Prop} (h : Rows w b r vs vm vi vp vt) (hf : Fm S w w') (hS : ∀ y, S y → y < b) : Rows w' b r vs vm vi vp vt := by
  have hn : ∀ k, b ≤ k → ¬ S k := fun k hk e => by have := hS k e; omega
  obtain ⟨X, h1, h2, h3⟩ := h.hi
  exact ⟨own_keep h.hs hf (fun k hk _ _ => hn k hk), own_keep h.hm hf (fun k hk _ _ => hn k hk), ⟨X, h1, own_keep h2 hf (fun k hk _ _ => hn k hk), fun x hx => by
    obtain ⟨q1, q2, q3⟩ := h3 x hx
    have q4 := own_keep q2 hf (fun k hk _ _ => hn k hk)
    exact ⟨q1, q4, pgas_own q4 q3⟩⟩, own_keep h.hp hf (fun k hk _ _ => hn k hk), own_keep h.ht hf (fun k hk _ _ => hn k hk)⟩
theorem Rows.one (h : Rows w b r vs vm vi vp vt) : ∀ u ∈ (rcs r vs vm vi vp vt).toList, u.oneCell' = true := by
  obtain ⟨X, h1, h2, h3⟩ := h.hi
  exact rcs_one (own_one h.hs) (own_one h.hm) (own_one h2) (own_one h.hp) (own_one h.ht)
theorem Rows.asR (h : Rows w b r vs vm vi vp vt) (hb : Bnd r) : RcAs w (rcs r vs vm vi vp vt) r := by
  obtain ⟨X, h1, h2, h3⟩ := h.hi
  refine ⟨⟨vs, vm, vi, vp, vt, rfl, ⟨own_one h.hs, own_one h.hm, own_one h2, own_one h.hp, own_one h.ht⟩, CellsAt.of_own h.hs, CellsAt.of_own h.hm, ⟨X, h1, CellsAt.of_own h2, fun x hx => ⟨(h3 x hx).1, (h3 x hx).2.2⟩⟩, CellsAt.of_own h.hp, CellsAt.of_own h.ht⟩, fun n hn => ?_, ?_, ?_, ?_, hb.lsns⟩
  · have := hb.nums n hn
    unfold okN at this
    unfold In; omega
  · have := hb.kind; omega
  · have := hb.data; omega
  · have := hb.slots
    have := hb.more
    have := hb.imgs
    have := hb.pages
    have := hb.txns
    omega
end
def tailI (a : List Int) (t : Bs) (sl mo : List Int) (im : List (Int × Pg)) (pg tx : List (Int × Int)) (st : St2) : Option Rc := bif decide (endE st.1 st.2 = 0) then some ⟨gI a 0, gI a 1, gI a 2, gI a 3, gI a 4, gI a 5, gI a 6, gI a 7, gI a 8, gI a 9, t, sl, mo, im, pg, tx⟩ else none
def tailH (a : List Int) (t : Bs) (sl mo : List Int) (im : List (Int × Pg)) (pg : List (Int × Int) × St2) : Option Rc := (rpGo (rn 1024 pg.2).1.toNat (rn 1024 pg.2).2).bind fun tx => tailI a t sl mo im pg.1 tx.1 tx.2
def tailG (a : List Int) (t : Bs) (sl mo : List Int) (im : List (Int × Pg) × St2) : Option Rc := (rpGo (rn 8192 im.2).1.toNat (rn 8192 im.2).2).bind (tailH a t sl mo im.1)
theorem tail_eq (a : List Int) (st : St2) : tailP a st = (riGo (rn 4 (rl 255 (rl 255 (rt 512 st).2).2).2).1.toNat (rn 4 (rl 255 (rl 255 (rt 512 st).2).2).2).2).bind (tailG a (rt 512 st).1 (rl 255 (rt 512 st).2).1 (rl 255 (rl 255 (rt 512 st).2).2).1) := rfl
theorem outer_in {s : Bs} {x : Rc} (h : outerP s = some x) : Bnd x := by
  unfold outerP at h
  refine tail_in h (fun i hi h3 => ?_) ?_
  · simp only [ten]
    have q : ∀ st, okN (rn 4611686018427387904 st).1 := fun st => ⟨(rn_in _ st).1, by have := (rn_in 4611686018427387904 st).2.1; omega⟩
    have : i = 0 ∨ i = 1 ∨ i = 2 ∨ i = 4 ∨ i = 5 ∨ i = 6 ∨ i = 7 ∨ i = 8 ∨ i = 9 := by omega
    rcases this with rfl | rfl | rfl | rfl | rfl | rfl | rfl | rfl | rfl <;> exact q _
  · simp only [ten]
    have q : ∀ st, 0 ≤ (rn 13 st).1 ∧ (rn 13 st).1 ≤ 13 := fun st => ⟨(rn_in _ st).1, by have := (rn_in 13 st).2.1; omega⟩
    exact q _

set_option maxHeartbeats 32000000 in
theorem outer_spec (w : World) (s : Bs) (hs : s.length ≤ 1000000) : Cl Tryz.prog 81 [stv s] w fun v w' => ∃ cs ok, v = .tuple #[.agg cs, .bool ok] ∧ cs.size = 16 ∧ (∀ u ∈ cs.toList, u.oneCell' = true) ∧ (ok = false → outerP s = none) ∧ (ok = true → ∃ x vs vm vi vp vt, outerP s = some x ∧ cs = rcs x vs vm vi vp vt ∧ Rows w' w.heap.size x vs vm vi vp vt) ∧ Fm (fun _ => False) w w' := by
  refine c81 ?_; unfold T81
  refine New_any ?_
  intro x2 w1 hx2 hs1 hw1 hf1
  refine (bread_spec w1 s).mono ?_
  rintro _ w2 ⟨rb, rfl, hrb, hrd, hf2⟩
  have hz2 := hf2.size
  have hrl := hrd.lt
  refine New_any ?_
  intro r4 w3 hr4 hs3 hw3 hf3
  refine St_blk hw3 (by show 0 < 1; decide) rfl ?_
  intro w4 hw4 hs4 hf4
  refine New_any ?_
  intro x5 w5 hx5 hs5 hw5 hf5
  have hf35 : Fm (fun _ => False) w2 w5 := Fmf (Fm.own hf3 hf4 (by rintro y rfl; omega)) hf5
  have h0 : HS w w5 x2 rb r4 x5 (s, 0) rc0 nl nl nl nl nl := ⟨(Fmf hf2 hf35).heap hw1 (fun e => e), hrd.keep hf35 (fun e => e), hf5.heap hw4 (fun e => e), ⟨hw5⟩, Fmf hf1 (Fmf hf2 hf35), by omega, by omega, by omega, by omega, hs⟩
  have hr0 : Rows w5 (x5 + 1) rc0 nl nl nl nl nl := ⟨World.ownsRow_nil _ _ _ _, World.ownsRow_nil _ _ _ _, ⟨[], rfl, World.ownsRow_nil _ _ _ _, by simp⟩, World.ownsRow_nil _ _ _ _, World.ownsRow_nil _ _ _ _⟩
  have hx5l := h0.x.lt
  clear hw1 hrd hw3 hw4 hw5 hr0
  refine h0.num ?_
  intro w6 h6a hq6
  have i0 := rn_in 4611686018427387904 (s, 0)
  generalize e0 : rn 4611686018427387904 (s, 0) = a0 at h6a i0 ⊢
  refine h6a.num ?_
  intro w7 h7a hq7
  have i1 := rn_in 4611686018427387904 a0.2
  generalize e1 : rn 4611686018427387904 a0.2 = a1 at h7a i1 ⊢
  refine h7a.num ?_
  intro w8 h8a hq8
  have i2 := rn_in 4611686018427387904 a1.2
  generalize e2 : rn 4611686018427387904 a1.2 = a2 at h8a i2 ⊢
  try simp only [RS0, RS1, RS2, RS3, RS4, RS5]
  refine h8a.put (j := 0) (r' := ⟨a0.1, 0, 0, 0, 0, 0, 0, 0, 0, 0, [], [], [], [], [], []⟩) (vs' := nl) (vm' := nl) (vi' := nl) (vp' := nl) (vt' := nl) (by omega) rfl rfl ?_
  intro w9 h9a hq9
  try simp only [RS0, RS1, RS2, RS3, RS4, RS5]
  refine h9a.put (j := 1) (r' := ⟨a0.1, a1.1, 0, 0, 0, 0, 0, 0, 0, 0, [], [], [], [], [], []⟩) (vs' := nl) (vm' := nl) (vi' := nl) (vp' := nl) (vt' := nl) (by omega) rfl rfl ?_
  intro w10 h10a hq10
  try simp only [RS0, RS1, RS2, RS3, RS4, RS5]
  refine h10a.put (j := 2) (r' := ⟨a0.1, a1.1, a2.1, 0, 0, 0, 0, 0, 0, 0, [], [], [], [], [], []⟩) (vs' := nl) (vm' := nl) (vi' := nl) (vp' := nl) (vt' := nl) (by omega) rfl rfl ?_
  intro w11 h11a hq11
  simp only [RS0, RS1, RS2, RS3, RS4, RS5, h11a.cp]
  refine h11a.numk (by omega) ?_
  intro w12 h12a hq12
  have i3 := rn_in 13 a2.2
  generalize e3 : rn 13 a2.2 = a3 at h12a i3 ⊢
  have ek : cvI .u8 (iv a3.1) = some (.int .u8 a3.1) := by
    show some (Value.int .u8 (IntKind.u8.wrap a3.1)) = _
    obtain ⟨q, hq⟩ := Int.eq_ofNat_of_zero_le i3.1
    have := i3.2.1
    rw [hq, u8_wrap_nat, Nat.mod_eq_of_lt (by omega)]
  simp only [RS0, RS1, RS2, RS3, RS4, RS5, ek]
  try simp only [RS0, RS1, RS2, RS3, RS4, RS5]
  refine h12a.put (j := 3) (r' := ⟨a0.1, a1.1, a2.1, a3.1, 0, 0, 0, 0, 0, 0, [], [], [], [], [], []⟩) (vs' := nl) (vm' := nl) (vi' := nl) (vp' := nl) (vt' := nl) (by omega) rfl rfl ?_
  intro w13 h13a hq13
  refine h13a.num ?_
  intro w14 h14a hq14
  have i4 := rn_in 4611686018427387904 a3.2
  generalize e4 : rn 4611686018427387904 a3.2 = a4 at h14a i4 ⊢
  refine h14a.num ?_
  intro w15 h15a hq15
  have i5 := rn_in 4611686018427387904 a4.2
  generalize e5 : rn 4611686018427387904 a4.2 = a5 at h15a i5 ⊢
  refine h15a.num ?_
  intro w16 h16a hq16
  have i6 := rn_in 4611686018427387904 a5.2
  generalize e6 : rn 4611686018427387904 a5.2 = a6 at h16a i6 ⊢
  refine h16a.num ?_
  intro w17 h17a hq17
  have i7 := rn_in 4611686018427387904 a6.2
  generalize e7 : rn 4611686018427387904 a6.2 = a7 at h17a i7 ⊢
  refine h17a.num ?_
  intro w18 h18a hq18
  have i8 := rn_in 4611686018427387904 a7.2
  generalize e8 : rn 4611686018427387904 a7.2 = a8 at h18a i8 ⊢
  refine h18a.num ?_
  intro w19 h19a hq19
  have i9 := rn_in 4611686018427387904 a8.2
  generalize e9 : rn 4611686018427387904 a8.2 = a9 at h19a i9 ⊢
  try simp only [RS0, RS1, RS2, RS3, RS4, RS5]
  refine h19a.put (j := 4) (r' := ⟨a0.1, a1.1, a2.1, a3.1, a4.1, 0, 0, 0, 0, 0, [], [], [], [], [], []⟩) (vs' := nl) (vm' := nl) (vi' := nl) (vp' := nl) (vt' := nl) (by omega) rfl rfl ?_
  intro w20 h20a hq20
  try simp only [RS0, RS1, RS2, RS3, RS4, RS5]
  refine h20a.put (j := 5) (r' := ⟨a0.1, a1.1, a2.1, a3.1, a4.1, a5.1, 0, 0, 0, 0, [], [], [], [], [], []⟩) (vs' := nl) (vm' := nl) (vi' := nl) (vp' := nl) (vt' := nl) (by omega) rfl rfl ?_
  intro w21 h21a hq21
  try simp only [RS0, RS1, RS2, RS3, RS4, RS5]
  refine h21a.put (j := 6) (r' := ⟨a0.1, a1.1, a2.1, a3.1, a4.1, a5.1, a6.1, 0, 0, 0, [], [], [], [], [], []⟩) (vs' := nl) (vm' := nl) (vi' := nl) (vp' := nl) (vt' := nl) (by omega) rfl rfl ?_
  intro w22 h22a hq22
  try simp only [RS0, RS1, RS2, RS3, RS4, RS5]
  refine h22a.put (j := 7) (r' := ⟨a0.1, a1.1, a2.1, a3.1, a4.1, a5.1, a6.1, a7.1, 0, 0, [], [], [], [], [], []⟩) (vs' := nl) (vm' := nl) (vi' := nl) (vp' := nl) (vt' := nl) (by omega) rfl rfl ?_
  intro w23 h23a hq23
  try simp only [RS0, RS1, RS2, RS3, RS4, RS5]
  refine h23a.put (j := 8) (r' := ⟨a0.1, a1.1, a2.1, a3.1, a4.1, a5.1, a6.1, a7.1, a8.1, 0, [], [], [], [], [], []⟩) (vs' := nl) (vm' := nl) (vi' := nl) (vp' := nl) (vt' := nl) (by omega) rfl rfl ?_
  intro w24 h24a hq24
  try simp only [RS0, RS1, RS2, RS3, RS4, RS5]
  refine h24a.put (j := 9) (r' := ⟨a0.1, a1.1, a2.1, a3.1, a4.1, a5.1, a6.1, a7.1, a8.1, a9.1, [], [], [], [], [], []⟩) (vs' := nl) (vm' := nl) (vi' := nl) (vp' := nl) (vt' := nl) (by omega) rfl rfl ?_
  intro w25 h25a hq25
  simp only [RS0, RS1, RS2, RS3, RS4, RS5, h25a.cp]
  refine h25a.text ?_
  intro w26 h26a hq26
  have it := rt_in (most := 512) (by omega) a9.2
  generalize et : rt 512 a9.2 = at_ at h26a it ⊢
  try simp only [RS0, RS1, RS2, RS3, RS4, RS5]
  refine h26a.put (j := 10) (r' := ⟨a0.1, a1.1, a2.1, a3.1, a4.1, a5.1, a6.1, a7.1, a8.1, a9.1, at_.1, [], [], [], [], []⟩) (vs' := nl) (vm' := nl) (vi' := nl) (vp' := nl) (vt' := nl) (by omega) rfl rfl ?_
  intro w27 h27a hq27
  have hten : ten s = ([a0.1, a1.1, a2.1, a3.1, a4.1, a5.1, a6.1, a7.1, a8.1, a9.1], a9.2) := by
    simp only [ten, e0, e1, e2, e3, e4, e5, e6, e7, e8, e9]
  have hout : outerP s = tailP [a0.1, a1.1, a2.1, a3.1, a4.1, a5.1, a6.1, a7.1, a8.1, a9.1] a9.2 := by unfold outerP; rw [hten]
  rw [tail_eq, et] at hout
  have hz27 : x5 < w27.heap.size := h27a.x.lt
  have hd27 := Fm.drew (fun _ => False) w27
  have g0 := h27a.keepG hd27 (fun _ e => e.elim)
  refine ⟨fun w' => w'.heap[r4]? = some (.cells #[pv rb] 181), g0.rp, ?_⟩
  simp only [RS0, RS1, RS2, RS3, RS4, RS5, h27a.cp, g0.cp, true_and]
  refine ⟨pv rb, fun w9 h9 => ?_, ?_⟩
  · have : w9.cell? ⟨r4, 0, none⟩ = some (pv rb) := by rw [cell_at h9]; rfl
    simp only [RS0, RS1, RS2, RS3, RS4, RS5, this]; trivial
  have hzd : x5 < w27.drew.heap.size := hz27
  generalize w27.drew = wd at hd27 g0 hzd
  refine g0.list ?_
  intro vs w30 g30 ho30 hq30
  refine ⟨g30.rp, ?_⟩
  have hz30 := hq30.size
  try simp only [RS0, RS1, RS2, RS3, RS4, RS5]
  refine g30.list ?_
  intro vm w31 g31 ho31 hq31
  have isl := rl_in (most := 255) (by omega) at_.2
  generalize rl 255 at_.2 = sl at g30 ho30 g31 ho31 hout isl ⊢
  have imo := rl_in (most := 255) (by omega) sl.2
  generalize rl 255 sl.2 = mo at g31 ho31 hout imo ⊢
  have ho4 := g0.o3
  have ho5 := g0.o4
  have ho30' := own_keep ho30 hq31 (fun k hk _ _ e => by omega)
  refine g31.put (j := 11) (r' := ⟨a0.1, a1.1, a2.1, a3.1, a4.1, a5.1, a6.1, a7.1, a8.1, a9.1, at_.1, sl.1, [], [], [], []⟩) (vs' := vs) (vm' := nl) (vi' := nl) (vp' := nl) (vt' := nl) (by omega) (own_one ho30) rfl ?_
  intro w32 g32 hq32
  try simp only [RS0, RS1, RS2, RS3, RS4, RS5]
  refine g32.put (j := 12) (r' := ⟨a0.1, a1.1, a2.1, a3.1, a4.1, a5.1, a6.1, a7.1, a8.1, a9.1, at_.1, sl.1, mo.1, [], [], []⟩) (vs' := vs) (vm' := vm) (vi' := nl) (vp' := nl) (vt' := nl) (by omega) (own_one ho31) rfl ?_
  intro w33 g33 hq33
  have hrow : Rows w33 (x5 + 1) ⟨a0.1, a1.1, a2.1, a3.1, a4.1, a5.1, a6.1, a7.1, a8.1, a9.1, at_.1, sl.1, mo.1, [], [], []⟩ vs vm nl nl nl := by
    refine ⟨own_base (own_keep (own_keep ho30' hq32 (fun k hk _ _ e => by omega)) hq33 (fun k hk _ _ e => by omega)) (by omega), own_base (own_keep (own_keep ho31 hq32 (fun k hk _ _ e => by omega)) hq33 (fun k hk _ _ e => by omega)) (by omega), ⟨[], rfl, World.ownsRow_nil _ _ _ _, by simp⟩, World.ownsRow_nil _ _ _ _, World.ownsRow_nil _ _ _ _⟩
  -- the images
  simp only [RS0, RS1, RS2, RS3, RS4, RS5, g33.cp]
  refine g33.numk (by omega) ?_
  intro w34 g34 hq34
  have ini := rn_in 4 mo.2
  generalize rn 4 mo.2 = ni at g34 hout ini ⊢
  have hrow34 := hrow.keep hq34 (fun y e => by omega)
  obtain ⟨N, hN⟩ := Int.eq_ofNat_of_zero_le ini.1
  rw [hN, Int.toNat_natCast] at hout
  rw [hN]
  have hN4 : N ≤ 4 := by have := ini.2.1; omega
  refine ⟨fun vl w' => ∃ (i : Nat) (L : List (Int × Pg)) (st : St2) (vi : Value), vl = [iv i] ∧ i ≤ N ∧ L.length = i ∧ HS w w' x2 rb r4 x5 st ⟨a0.1, a1.1, a2.1, a3.1, a4.1, a5.1, a6.1, a7.1, a8.1, a9.1, at_.1, sl.1, mo.1, L, [], []⟩ vs vm vi nl nl ∧ Rows w' (x5 + 1) ⟨a0.1, a1.1, a2.1, a3.1, a4.1, a5.1, a6.1, a7.1, a8.1, a9.1, at_.1, sl.1, mo.1, L, [], []⟩ vs vm vi nl nl ∧ riGo N ni.2 = (riGo (N - i) st).map fun q => (L ++ q.1, q.2), fun vl _ => (N - nth vl 0).toNat, ⟨0, [], ni.2, nl, rfl, by omega, rfl, g34, hrow34, by rw [Nat.sub_zero]; simp⟩, ?_⟩
  rintro _ w35 iv35 ⟨i, L, st, vi, hvl, hi, hL, g35, hr35, heq⟩
  cases hvl
  by_cases hlt : i < N
  · have d1 : decide ((i : Int) < (N : Int)) = true := by rw [decide_eq_true_eq]; omega
    have ei : IntKind.i64.wrap ((i : Int) + 1) = ((i + 1 : Nat) : Int) := by rw [wrap_id] <;> omega
    obtain ⟨m, hm⟩ : ∃ m, N - i = m + 1 := ⟨N - i - 1, by omega⟩
    have hm1 : N - (i + 1) = m := by omega
    rw [hm, riGo] at heq
    have hd35 := Fm.drew (fun _ => False) w35
    have g36 := g35.keepG hd35 (fun _ e => e.elim)
    have hr36 := hr35.keep hd35 (fun _ e => e.elim)
    simp only [RS0, RS1, RS2, RS3, RS4, RS5, d1]
    refine ⟨fun w' => w'.heap[r4]? = some (.cells #[pv rb] 181), g36.rp, pv rb, fun w9 h9 => ?_, ?_⟩
    · have : w9.cell? ⟨r4, 0, none⟩ = some (pv rb) := by rw [cell_at h9]; rfl
      simp only [RS0, RS1, RS2, RS3, RS4, RS5, this]; trivial
    generalize w35.drew = w36 at hd35 g36 hr36
    refine g36.num ?_
    intro w37 g37 hq37
    have hr37 := hr36.keep hq37 (fun y e => by omega)
    refine ⟨g37.rp, ?_⟩
    refine g37.text ?_
    intro w38 g38 hq38
    have hr38 := hr37.keep hq38 (fun y e => by omega)
    have ip := rn_in 4611686018427387904 st
    generalize rn 4611686018427387904 st = pa at g37 g38 heq ip ⊢
    have itt := rt_in (most := 512) (by omega) pa.2
    generalize rt 512 pa.2 = tt at g38 heq itt ⊢
    have e5 : IntKind.i64.wrap (512 - (tt.1.length : Int)) = ((512 - tt.1.length : Nat) : Int) := by rw [wrap_id] <;> omega
    have hmk : ByteArray.mk #[0] = str [0] := rfl
    simp only [RS0, RS1, RS2, RS3, RS4, RS5, str_size, e5, hmk]
    refine (repeat_spec w38 (512 - tt.1.length) (by omega)).mono ?_
    rintro _ w39 ⟨rfl, hq39⟩
    have g39 := g38.keepG hq39 (fun _ e => e.elim)
    have hr39 := hr38.keep hq39 (fun _ e => e.elim)
    rw [sadd (by rw [zeros_len]; omega)]
    try simp only [RS0, RS1, RS2, RS3, RS4, RS5]
    have hpad : tt.1 ++ zeros (512 - tt.1.length) = padZ tt.1 := rfl
    have hpl : (padZ tt.1).length = 512 := by unfold padZ; rw [List.length_append, zeros_len]; omega
    rw [hpad]
    refine (decode_spec w39 (padZ tt.1) (by omega)).mono ?_
    rintro _ w40 ⟨pc, rfl, hO40, hq40⟩
    have g40 := g39.keepG hq40 (fun _ e => e.elim)
    have hr40 := hr39.keep hq40 (fun _ e => e.elim)
    have hA40 := hO40.as
    have hz40 := hq40.size
    have hx39 := g39.x.lt
    simp only [RS0, RS1, RS2, RS3, RS4, RS5]
    refine New_any ?_
    intro x9 w41 hx9 hs41 hw41 hf41
    refine St_all hw41 rfl hA40.size hA40.one ?_
    intro w42 hw42 hs42 hf42
    have hf4042 : Fm (fun _ => False) w40 w42 := Fm.own hf41 hf42 (by rintro y rfl; omega)
    have g42 := g40.keepG hf4042 (fun _ e => e.elim)
    have hr42 := hr40.keep hf4042 (fun _ e => e.elim)
    have hO42 := hO40.keep hf4042
    -- out of the images
    have bad : (decide ((pDec (padZ tt.1)).2 = 0) && decide (tt.2.2 = 0)) = false → outerP s = none := fun hb => by
      rw [hout, heq, hb]; rfl
    have early : ∀ w', HS w w' x2 rb r4 x5 tt.2 ⟨a0.1, a1.1, a2.1, a3.1, a4.1, a5.1, a6.1, a7.1, a8.1, a9.1, at_.1, sl.1, mo.1, L, [], []⟩ vs vm vi nl nl → Rows w' (x5 + 1) ⟨a0.1, a1.1, a2.1, a3.1, a4.1, a5.1, a6.1, a7.1, a8.1, a9.1, at_.1, sl.1, mo.1, L, [], []⟩ vs vm vi nl nl → outerP s = none → Pu (cellsV w' ⟨x5, 0, none⟩ 16) (fun t79_166 =>
        St 16 w' (.pointer (some ⟨x2, 0, none⟩)) t79_166 fun u_168 w_169 =>
        RetO (resL Tryz.prog (fun j => bif Nat.beq j 2 then .pointer (some ⟨x2, 0, none⟩) else bif Nat.beq j 3 then (Value.bool false) else undef) w_169 [(ResultVar.cell 2 28), (ResultVar.tmp 3)]) w_169 (fun v w' => ∃ cs ok, v = .tuple #[.agg cs, .bool ok] ∧ cs.size = 16 ∧ (∀ u ∈ cs.toList, u.oneCell' = true) ∧ (ok = false → outerP s = none) ∧ (ok = true → ∃ x vs vm vi vp vt, outerP s = some x ∧ cs = rcs x vs vm vi vp vt ∧ Rows w' w.heap.size x vs vm vi vp vt) ∧ Fm (fun _ => False) w w')) := by
      intro w' gg rr hno
      simp only [RS0, RS1, RS2, RS3, RS4, RS5, gg.x.all]
      refine gg.ret rr.one false ?_
      intro w'' hf''
      have := gg.o1
      exact ⟨_, _, rfl, rfl, rr.one, fun _ => hno, fun e => (by cases e), Fm.own gg.fm hf'' (by rintro y rfl; omega)⟩
    simp only [RS0, RS1, RS2, RS3, RS4, RS5, bne_dec]
    cases hz1 : decide ((pDec (padZ tt.1)).2 = 0) with
    | false =>
      simp only [RS0, RS1, RS2, RS3, RS4, RS5]
      have := early w42 g42 hr42 (bad (by rw [hz1, Bool.false_and]))
      exact this
    | true =>
    simp only [RS0, RS1, RS2, RS3, RS4, RS5, g42.cp]
    refine (berr_spec g42.rd).mono ?_
    rintro _ w43 ⟨rfl, rfl⟩
    simp only [RS0, RS1, RS2, RS3, RS4, RS5, bne_dec]
    cases hz2 : decide (tt.2.2 = 0) with
    | false =>
      simp only [RS0, RS1, RS2, RS3, RS4, RS5]
      have := early w43 g42 hr42 (bad (by rw [hz2, Bool.and_false]))
      exact this
    | true =>
    rw [hz1, hz2] at heq
    obtain ⟨pv_, rfl, hov⟩ := hO42.ex
    have hps : ∃ a n c, pv_ = .slice a n c := by
      rcases hov.2 with ⟨rfl, _⟩ | ⟨g, cap, cur, rfl, _⟩ <;> exact ⟨_, _, _, rfl⟩
    obtain ⟨pa1, pn1, pc1, rfl⟩ := hps
    simp only [RS0, RS1, RS2, RS3, RS4, RS5, g42.x.c13, cellsV_blk hw42 hA40.size]
    refine RunS_ok (bld90 _ _ _ _ _ _) ?_
    refine RunS_ok (bs48 _ _ _ _ _ _) ?_
    have hf44 := Fm.alloc (fun _ => False) w43 (.cells (imC (pa.1, (pDec (padZ tt.1)).1, .slice pa1 pn1 pc1)).toArray 118)
    have hn44 := alloc_new w43 (.cells (imC (pa.1, (pDec (padZ tt.1)).1, .slice pa1 pn1 pc1)).toArray 118)
    have g44 := g42.keepG hf44 (fun _ e => e.elim)
    have hr44 := hr42.keep hf44 (fun _ e => e.elim)
    have hO44 := own_keep hov hf44 (fun _ _ _ _ e => e)
    have hz44 := hf44.size
    generalize w43.alloc (.cells (imC (pa.1, (pDec (padZ tt.1)).1, .slice pa1 pn1 pc1)).toArray 118) = w44 at hf44 hn44 g44 hr44 hO44 hz44
    have hx44 := g44.x.lt
    obtain ⟨X, hX1, hX2, hX3⟩ := hr44.hi
    have hXl : X.length = i := by have := congrArg List.length hX1; rw [List.length_map] at this; rw [this]; exact hL
    obtain ⟨vi', w45, hr45, ho45, _, hf45⟩ := app_fine Er48 (by omega) hX2 (cs := imC (pa.1, (pDec (padZ tt.1)).1, .slice pa1 pn1 pc1)) hn44 rfl (by intro q hq; simp [imC, pcs] at hq; rcases hq with rfl | rfl | rfl | rfl | rfl | rfl | rfl <;> rfl) (by omega) (by unfold maxLen; omega) (by omega)
    refine RunS_ok hr45 ?_
    have hlt45 := own_lt hX2
    have g45 := g44.keepG hf45 (fun y hy => by have := hlt45 y hy; omega)
    try simp only [RS0, RS1, RS2, RS3, RS4, RS5]
    refine g45.put (j := 13) (r' := ⟨a0.1, a1.1, a2.1, a3.1, a4.1, a5.1, a6.1, a7.1, a8.1, a9.1, at_.1, sl.1, mo.1, (L ++ [(pa.1, (pDec (padZ tt.1)).1)]), [], []⟩) (vs' := vs) (vm' := vm) (vi' := vi') (vp' := nl) (vt' := nl) (by omega) (own_one ho45) rfl ?_
    intro w46 g46 hq46
    simp only [RS0, RS1, RS2, RS3, RS4, RS5, ei]
    refine ⟨⟨i + 1, L ++ [(pa.1, (pDec (padZ tt.1)).1)], tt.2, vi', rfl, by omega, by rw [List.length_append, hL]; rfl, g46, ?_, ?_⟩, by simp only [nth_0]; omega⟩
    · have q46 : ∀ k, x5 + 1 ≤ k → ¬ k = x5 := fun k hk e => by omega
      have a3 := fun k hk => own_apart hX2 hr44.hs (by decide) k hk
      refine ⟨own_keep (own_keep hr44.hs hf45 (fun k _ _ hk e => own_apart hX2 hr44.hs (by decide) k e hk)) hq46 (fun k hk _ _ => q46 k hk), own_keep (own_keep hr44.hm hf45 (fun k _ _ hk e => own_apart hX2 hr44.hm (by decide) k e hk)) hq46 (fun k hk _ _ => q46 k hk), ⟨X ++ [(pa.1, (pDec (padZ tt.1)).1, .slice pa1 pn1 pc1)], ?_, ?_, ?_⟩, World.ownsRow_nil _ _ _ _, World.ownsRow_nil _ _ _ _⟩
      · rw [List.map_append, hX1]; rfl
      · rw [List.length_append, List.flatMap_append, List.flatMap_cons, List.flatMap_nil, List.append_nil]
        exact own_keep ho45 hq46 (fun k hk _ _ => q46 k hk)
      · intro x hx
        rcases List.mem_append.1 hx with hx | hx
        · obtain ⟨q1, q2, q3⟩ := hX3 x hx
          have q4 := own_keep (own_keep q2 hf45 (fun k _ _ hk e => own_apart hX2 q2 (by decide) k e hk)) hq46 (fun k hk _ _ => q46 k hk)
          exact ⟨q1, q4, pgas_own q4 q3⟩
        · obtain rfl : x = (pa.1, (pDec (padZ tt.1)).1, .slice pa1 pn1 pc1) := by simpa using hx
          have q2 := own_base hO44 (show x5 + 1 ≤ w39.heap.size by omega)
          have q4 := own_keep (own_keep q2 hf45 (fun k _ _ hk e => own_apart hX2 q2 (by decide) k e hk)) hq46 (fun k hk _ _ => q46 k hk)
          exact ⟨rfl, q4, pgas_own q4 hO42.as⟩
    · rw [heq, hm1]
      cases riGo m tt.2 with
      | none => rfl
      | some q => simp
  · have hie : i = N := by omega
    subst hie
    have d1 : decide ((i : Int) < (i : Int)) = false := by simp
    rw [Nat.sub_self, riGo] at heq
    simp only [Option.map_some, List.append_nil] at heq
    rw [heq, Option.bind_some] at hout
    unfold tailG at hout
    simp only at hout
    -- pairs
    simp only [RS0, RS1, RS2, RS3, RS4, RS5, d1, g35.cp]
    refine g35.numk (by omega) ?_
    intro w60 g60 hq60
    have in60 := rn_in 8192 st
    generalize rn 8192 st = n60 at g60 hout in60 ⊢
    have hr60 := hr35.keep hq60 (fun y e => by omega)
    obtain ⟨N60, hN60⟩ := Int.eq_ofNat_of_zero_le in60.1
    rw [hN60, Int.toNat_natCast] at hout
    rw [hN60]
    have hNl60 : N60 ≤ 8192 := by have := in60.2.1; omega
    refine ⟨fun vl w' => ∃ (i : Nat) (P : List (Int × Int)) (st : St2) (vx : Value), vl = [iv i] ∧ i ≤ N60 ∧ P.length = i ∧ HS w w' x2 rb r4 x5 st ⟨a0.1, a1.1, a2.1, a3.1, a4.1, a5.1, a6.1, a7.1, a8.1, a9.1, at_.1, sl.1, mo.1, L, P, []⟩ vs vm vi vx nl ∧ Rows w' (x5 + 1) ⟨a0.1, a1.1, a2.1, a3.1, a4.1, a5.1, a6.1, a7.1, a8.1, a9.1, at_.1, sl.1, mo.1, L, P, []⟩ vs vm vi vx nl ∧ rpGo N60 n60.2 = (rpGo (N60 - i) st).map fun q => (P ++ q.1, q.2), fun vl _ => (N60 - nth vl 0).toNat, ⟨0, [], n60.2, nl, rfl, by omega, rfl, g60, hr60, by rw [Nat.sub_zero]; simp⟩, ?_⟩
    rintro _ w61 iv61 ⟨j, PG1, st61, vx61, hvl, hj, hP, g61, hr61, heq61⟩
    cases hvl
    by_cases hlt : j < N60
    · have d2 : decide ((j : Int) < (N60 : Int)) = true := by rw [decide_eq_true_eq]; omega
      have ei : IntKind.i64.wrap ((j : Int) + 1) = ((j + 1 : Nat) : Int) := by rw [wrap_id] <;> omega
      obtain ⟨m, hm⟩ : ∃ m, N60 - j = m + 1 := ⟨N60 - j - 1, by omega⟩
      have hm1 : N60 - (j + 1) = m := by omega
      rw [hm, rpGo] at heq61
      simp only [RS0, RS1, RS2, RS3, RS4, RS5, d2, g61.cp]
      refine (berr_spec g61.rd).mono ?_
      rintro _ w50 ⟨rfl, rfl⟩
      simp only [RS0, RS1, RS2, RS3, RS4, RS5, bne_dec]
      cases hz3 : decide (st61.2 = 0) with
      | false =>
        rw [hz3, cond_false] at heq61
        have hno : outerP s = none := by rw [hout, heq61]; rfl
        simp only [RS0, RS1, RS2, RS3, RS4, RS5, g61.x.all]
        refine g61.ret hr61.one false ?_
        intro w'' hf''
        have := g61.o1
        exact ⟨_, _, rfl, rfl, hr61.one, fun _ => hno, fun e => (by cases e), Fm.own g61.fm hf'' (by rintro y rfl; omega)⟩
      | true =>
      rw [hz3, cond_true] at heq61
      have hd50 := Fm.drew (fun _ => False) w50
      have g51 := g61.keepG hd50 (fun _ e => e.elim)
      have hr51 := hr61.keep hd50 (fun _ e => e.elim)
      simp only [RS0, RS1, RS2, RS3, RS4, RS5]
      refine ⟨fun w' => w'.cell? ⟨x5, 14, none⟩ = some vx61, g51.x.c14, ?_⟩
      try simp only [RS0, RS1, RS2, RS3, RS4, RS5]
      refine ⟨vx61, fun w9 h9 => ?_, ?_⟩
      · simp only [RS0, RS1, RS2, RS3, RS4, RS5, h9]; trivial
      generalize w50.drew = w51 at hd50 g51 hr51
      refine g51.num ?_
      intro w52 g52 hq52
      have hr52 := hr51.keep hq52 (fun y e => by omega)
      refine ⟨g52.x.c14, ?_⟩
      refine g52.num ?_
      intro w53 g53 hq53
      have hr53 := hr52.keep hq53 (fun y e => by omega)
      refine ⟨g53.x.c14, ?_⟩
      generalize rn 4611686018427387904 st61 = pa at g52 g53 heq61 ⊢
      generalize rn 4611686018427387904 pa.2 = pb at g53 heq61 ⊢
      refine RunS_ok (bld96 _ _ _) ⟨rfl, ?_⟩
      refine RunS_ok (bs49 _ _ _) ?_
      have hf54 := Fm.alloc (fun _ => False) w53 (.cells (pc2 (pa.1, pb.1)).toArray 120)
      have hn54 := alloc_new w53 (.cells (pc2 (pa.1, pb.1)).toArray 120)
      have g54 := g53.keepG hf54 (fun _ e => e.elim)
      have hr54 := hr53.keep hf54 (fun _ e => e.elim)
      generalize w53.alloc (.cells (pc2 (pa.1, pb.1)).toArray 120) = w54 at hf54 hn54 g54 hr54
      refine ⟨g54.x.c14, ?_⟩
      have hx54 := g54.x.lt
      have hh54 : w54.ownsRow (x5 + 1) 120 2 vx61 PG1.length (PG1.flatMap pc2) := hr54.hp
      obtain ⟨vx', w55, hr55, ho55, _, hf55⟩ := app_fine Er49 (by omega) hh54 (cs := pc2 (pa.1, pb.1)) hn54 rfl (by intro q hq; simp [pc2] at hq; rcases hq with rfl | rfl <;> rfl) (by omega) (by unfold maxLen; omega) (by omega)
      refine RunS_ok hr55 ?_
      have hlt55 := own_lt hr54.hp
      have g55 := g54.keepG hf55 (fun y hy => by have := hlt55 y hy; omega)
      try simp only [RS0, RS1, RS2, RS3, RS4, RS5]
      refine g55.put (j := 14) (r' := ⟨a0.1, a1.1, a2.1, a3.1, a4.1, a5.1, a6.1, a7.1, a8.1, a9.1, at_.1, sl.1, mo.1, L, (PG1 ++ [(pa.1, pb.1)]), []⟩) (vs' := vs) (vm' := vm) (vi' := vi) (vp' := vx') (vt' := nl) (by omega) (own_one ho55) rfl ?_
      intro w56 g56 hq56
      simp only [RS0, RS1, RS2, RS3, RS4, RS5, ei]
      refine ⟨⟨j + 1, PG1 ++ [(pa.1, pb.1)], pb.2, vx', rfl, by omega, by rw [List.length_append, hP]; rfl, g56, ?_, ?_⟩, by simp only [nth_0]; omega⟩
      · have q56 : ∀ k, x5 + 1 ≤ k → ¬ k = x5 := fun k hk e => by omega
        have hrow56 := ho55
        have kk : ∀ {b1 : Nat} {e1 : TypeId} {s1 : Nat} {v1 : Value} {n1 : Nat} {y1 : List Value}, w54.ownsRow (x5 + 1) e1 s1 v1 n1 y1 → 120 ≠ e1 → w56.ownsRow (x5 + 1) e1 s1 v1 n1 y1 := fun hh he => own_keep (own_keep hh hf55 (fun k _ _ hk e => own_apart hr54.hp hh he k e hk)) hq56 (fun k hk _ _ => q56 k hk)
        obtain ⟨X, hX1, hX2, hX3⟩ := hr54.hi
        refine ⟨kk (b1 := 0) hr54.hs (by decide), kk (b1 := 0) hr54.hm (by decide), ⟨X, hX1, kk (b1 := 0) hX2 (by decide), fun x hx => ?_⟩, by
          show w56.ownsRow _ _ _ _ (PG1 ++ [(pa.1, pb.1)]).length _
          rw [List.length_append, List.flatMap_append, List.flatMap_cons, List.flatMap_nil, List.append_nil]
          exact own_keep ho55 hq56 (fun k hk _ _ => q56 k hk), World.ownsRow_nil _ _ _ _⟩
        obtain ⟨q1, q2, q3⟩ := hX3 x hx
        have q4 := kk (b1 := 0) q2 (by decide)
        exact ⟨q1, q4, pgas_own q4 q3⟩
      · rw [heq61, hm1]
        cases rpGo m pb.2 with
        | none => rfl
        | some q => simp
    have hje : j = N60 := by omega
    subst hje
    have d61 : decide ((j : Int) < (j : Int)) = false := by simp
    rw [Nat.sub_self, rpGo] at heq61
    simp only [Option.map_some, List.append_nil] at heq61
    rw [heq61, Option.bind_some] at hout
    unfold tailH at hout
    simp only at hout
    -- pairs
    simp only [RS0, RS1, RS2, RS3, RS4, RS5, d61, g61.cp]
    refine g61.numk (by omega) ?_
    intro w70 g70 hq70
    have in70 := rn_in 1024 st61
    generalize rn 1024 st61 = n70 at g70 hout in70 ⊢
    have hr70 := hr61.keep hq70 (fun y e => by omega)
    obtain ⟨N70, hN70⟩ := Int.eq_ofNat_of_zero_le in70.1
    rw [hN70, Int.toNat_natCast] at hout
    rw [hN70]
    have hNl70 : N70 ≤ 1024 := by have := in70.2.1; omega
    refine ⟨fun vl w' => ∃ (i : Nat) (P : List (Int × Int)) (st : St2) (vx : Value), vl = [iv i] ∧ i ≤ N70 ∧ P.length = i ∧ HS w w' x2 rb r4 x5 st ⟨a0.1, a1.1, a2.1, a3.1, a4.1, a5.1, a6.1, a7.1, a8.1, a9.1, at_.1, sl.1, mo.1, L, PG1, P⟩ vs vm vi vx61 vx ∧ Rows w' (x5 + 1) ⟨a0.1, a1.1, a2.1, a3.1, a4.1, a5.1, a6.1, a7.1, a8.1, a9.1, at_.1, sl.1, mo.1, L, PG1, P⟩ vs vm vi vx61 vx ∧ rpGo N70 n70.2 = (rpGo (N70 - i) st).map fun q => (P ++ q.1, q.2), fun vl _ => (N70 - nth vl 0).toNat, ⟨0, [], n70.2, nl, rfl, by omega, rfl, g70, hr70, by rw [Nat.sub_zero]; simp⟩, ?_⟩
    rintro _ w71 iv71 ⟨j, TX1, st71, vx71, hvl, hj, hP, g71, hr71, heq71⟩
    cases hvl
    by_cases hlt : j < N70
    · have d2 : decide ((j : Int) < (N70 : Int)) = true := by rw [decide_eq_true_eq]; omega
      have ei : IntKind.i64.wrap ((j : Int) + 1) = ((j + 1 : Nat) : Int) := by rw [wrap_id] <;> omega
      obtain ⟨m, hm⟩ : ∃ m, N70 - j = m + 1 := ⟨N70 - j - 1, by omega⟩
      have hm1 : N70 - (j + 1) = m := by omega
      rw [hm, rpGo] at heq71
      simp only [RS0, RS1, RS2, RS3, RS4, RS5, d2, g71.cp]
      refine (berr_spec g71.rd).mono ?_
      rintro _ w50 ⟨rfl, rfl⟩
      simp only [RS0, RS1, RS2, RS3, RS4, RS5, bne_dec]
      cases hz3 : decide (st71.2 = 0) with
      | false =>
        rw [hz3, cond_false] at heq71
        have hno : outerP s = none := by rw [hout, heq71]; rfl
        simp only [RS0, RS1, RS2, RS3, RS4, RS5, g71.x.all]
        refine g71.ret hr71.one false ?_
        intro w'' hf''
        have := g71.o1
        exact ⟨_, _, rfl, rfl, hr71.one, fun _ => hno, fun e => (by cases e), Fm.own g71.fm hf'' (by rintro y rfl; omega)⟩
      | true =>
      rw [hz3, cond_true] at heq71
      have hd50 := Fm.drew (fun _ => False) w50
      have g51 := g71.keepG hd50 (fun _ e => e.elim)
      have hr51 := hr71.keep hd50 (fun _ e => e.elim)
      simp only [RS0, RS1, RS2, RS3, RS4, RS5]
      refine ⟨fun w' => w'.cell? ⟨x5, 15, none⟩ = some vx71, g51.x.c15, ?_⟩
      try simp only [RS0, RS1, RS2, RS3, RS4, RS5]
      refine ⟨vx71, fun w9 h9 => ?_, ?_⟩
      · simp only [RS0, RS1, RS2, RS3, RS4, RS5, h9]; trivial
      generalize w50.drew = w51 at hd50 g51 hr51
      refine g51.num ?_
      intro w52 g52 hq52
      have hr52 := hr51.keep hq52 (fun y e => by omega)
      refine ⟨g52.x.c15, ?_⟩
      refine g52.num ?_
      intro w53 g53 hq53
      have hr53 := hr52.keep hq53 (fun y e => by omega)
      refine ⟨g53.x.c15, ?_⟩
      generalize rn 4611686018427387904 st71 = pa at g52 g53 heq71 ⊢
      generalize rn 4611686018427387904 pa.2 = pb at g53 heq71 ⊢
      refine RunS_ok (bld99 _ _ _) ⟨rfl, ?_⟩
      refine RunS_ok (bs50 _ _ _) ?_
      have hf54 := Fm.alloc (fun _ => False) w53 (.cells (pc2 (pa.1, pb.1)).toArray 122)
      have hn54 := alloc_new w53 (.cells (pc2 (pa.1, pb.1)).toArray 122)
      have g54 := g53.keepG hf54 (fun _ e => e.elim)
      have hr54 := hr53.keep hf54 (fun _ e => e.elim)
      generalize w53.alloc (.cells (pc2 (pa.1, pb.1)).toArray 122) = w54 at hf54 hn54 g54 hr54
      refine ⟨g54.x.c15, ?_⟩
      have hx54 := g54.x.lt
      have hh54 : w54.ownsRow (x5 + 1) 122 2 vx71 TX1.length (TX1.flatMap pc2) := hr54.ht
      obtain ⟨vx', w55, hr55, ho55, _, hf55⟩ := app_fine Er50 (by omega) hh54 (cs := pc2 (pa.1, pb.1)) hn54 rfl (by intro q hq; simp [pc2] at hq; rcases hq with rfl | rfl <;> rfl) (by omega) (by unfold maxLen; omega) (by omega)
      refine RunS_ok hr55 ?_
      have hlt55 := own_lt hr54.ht
      have g55 := g54.keepG hf55 (fun y hy => by have := hlt55 y hy; omega)
      try simp only [RS0, RS1, RS2, RS3, RS4, RS5]
      refine g55.put (j := 15) (r' := ⟨a0.1, a1.1, a2.1, a3.1, a4.1, a5.1, a6.1, a7.1, a8.1, a9.1, at_.1, sl.1, mo.1, L, PG1, (TX1 ++ [(pa.1, pb.1)])⟩) (vs' := vs) (vm' := vm) (vi' := vi) (vp' := vx61) (vt' := vx') (by omega) (own_one ho55) rfl ?_
      intro w56 g56 hq56
      simp only [RS0, RS1, RS2, RS3, RS4, RS5, ei]
      refine ⟨⟨j + 1, TX1 ++ [(pa.1, pb.1)], pb.2, vx', rfl, by omega, by rw [List.length_append, hP]; rfl, g56, ?_, ?_⟩, by simp only [nth_0]; omega⟩
      · have q56 : ∀ k, x5 + 1 ≤ k → ¬ k = x5 := fun k hk e => by omega
        have hrow56 := ho55
        have kk : ∀ {b1 : Nat} {e1 : TypeId} {s1 : Nat} {v1 : Value} {n1 : Nat} {y1 : List Value}, w54.ownsRow (x5 + 1) e1 s1 v1 n1 y1 → 122 ≠ e1 → w56.ownsRow (x5 + 1) e1 s1 v1 n1 y1 := fun hh he => own_keep (own_keep hh hf55 (fun k _ _ hk e => own_apart hr54.ht hh he k e hk)) hq56 (fun k hk _ _ => q56 k hk)
        obtain ⟨X, hX1, hX2, hX3⟩ := hr54.hi
        refine ⟨kk (b1 := 0) hr54.hs (by decide), kk (b1 := 0) hr54.hm (by decide), ⟨X, hX1, kk (b1 := 0) hX2 (by decide), fun x hx => ?_⟩, kk (b1 := 0) hr54.hp (by decide), by
          show w56.ownsRow _ _ _ _ (TX1 ++ [(pa.1, pb.1)]).length _
          rw [List.length_append, List.flatMap_append, List.flatMap_cons, List.flatMap_nil, List.append_nil]
          exact own_keep ho55 hq56 (fun k hk _ _ => q56 k hk)⟩
        obtain ⟨q1, q2, q3⟩ := hX3 x hx
        have q4 := kk (b1 := 0) q2 (by decide)
        exact ⟨q1, q4, pgas_own q4 q3⟩
      · rw [heq71, hm1]
        cases rpGo m pb.2 with
        | none => rfl
        | some q => simp
    have hje : j = N70 := by omega
    subst hje
    have d71 : decide ((j : Int) < (j : Int)) = false := by simp
    rw [Nat.sub_self, rpGo] at heq71
    simp only [Option.map_some, List.append_nil] at heq71
    rw [heq71, Option.bind_some] at hout
    unfold tailI at hout
    simp only at hout
    have hd71 := Fm.drew (fun _ => False) w71
    have g72 := g71.keepG hd71 (fun _ e => e.elim)
    have hr72 := hr71.keep hd71 (fun _ e => e.elim)
    simp only [RS0, RS1, RS2, RS3, RS4, RS5, d71]
    refine ⟨fun w' => RB w' x5 ⟨a0.1, a1.1, a2.1, a3.1, a4.1, a5.1, a6.1, a7.1, a8.1, a9.1, at_.1, sl.1, mo.1, L, PG1, TX1⟩ vs vm vi vx61 vx71, g72.x, .agg (rcs ⟨a0.1, a1.1, a2.1, a3.1, a4.1, a5.1, a6.1, a7.1, a8.1, a9.1, at_.1, sl.1, mo.1, L, PG1, TX1⟩ vs vm vi vx61 vx71), fun w9 h9 => ?_, ?_⟩
    · simp only [RS0, RS1, RS2, RS3, RS4, RS5, h9.all]; trivial
    simp only [RS0, RS1, RS2, RS3, RS4, RS5, g71.cp, g72.cp, true_and]
    generalize w71.drew = w72 at hd71 g72 hr72
    refine (bend_spec g72.rd).mono ?_
    rintro _ w73 ⟨rfl, rfl⟩
    refine ⟨g72.x, ?_⟩
    simp only [RS0, RS1, RS2, RS3, RS4, RS5, beq_dec]
    refine g72.ret hr72.one _ ?_
    intro w74 hf74
    have ho1 := g72.o1
    have ho2 := g72.o2
    have ho3 := g72.o3
    refine ⟨_, _, rfl, rfl, hr72.one, fun e => ?_, fun e => ?_, Fm.own g72.fm hf74 (by rintro y rfl; omega)⟩
    · rw [hout, e]; rfl
    · rw [e, cond_true] at hout
      have hr74 := hr72.keep hf74 (fun y e => by omega)
      have b74 : ∀ {e1 : TypeId} {s1 : Nat} {v1 : Value} {n1 : Nat} {y1 : List Value}, w74.ownsRow (x5 + 1) e1 s1 v1 n1 y1 → w74.ownsRow w.heap.size e1 s1 v1 n1 y1 := fun hh => own_base hh (by have := g72.o4; omega)
      obtain ⟨X, hX1, hX2, hX3⟩ := hr74.hi
      exact ⟨_, _, _, _, _, _, hout, rfl, b74 hr74.hs, b74 hr74.hm, ⟨X, hX1, b74 hX2, fun x hx => ⟨(hX3 x hx).1, b74 (hX3 x hx).2.1, (hX3 x hx).2.2⟩⟩, b74 hr74.hp, b74 hr74.ht⟩

end Go.Proofs.YthbngnlmgplijaaGreatDoor

namespace Go.Proofs.YthbngnlmgplijaaGreatDoor
open Go.Al Go.Proofs
set_option linter.unusedVariables false
set_option linter.unusedSimpArgs false
set_option linter.unusedSectionVars false
set_option maxRecDepth 100000

def RdOk (w : World) (b : Nat) (cs : Array Value) : Option Rc → Prop
  | none => cs = rcs rc0 nl nl nl nl nl
  | some x => ∃ vs vm vi vp vt, cs = rcs x vs vm vi vp vt ∧ Rows w b x vs vm vi vp vt ∧ Bnd x
theorem rows0 (w : World) (b : Nat) : Rows w b rc0 nl nl nl nl nl := ⟨World.ownsRow_nil _ _ _ _, World.ownsRow_nil _ _ _ _, ⟨[], rfl, World.ownsRow_nil _ _ _ _, by simp⟩, World.ownsRow_nil _ _ _ _, World.ownsRow_nil _ _ _ _⟩
theorem bnd0 : Bnd rc0 := ⟨by intro n hn; simp [rNums, rc0, prs] at hn; subst hn; unfold okN; omega, by simp [rc0], by simp [rc0], by simp [rc0], by simp [rc0], by simp [rc0], by simp [rc0], by simp [rc0], by simp [rc0]⟩
theorem RdOk.as {w : World} {b : Nat} {cs : Array Value} {o : Option Rc} (h : RdOk w b cs o) : RcAs w cs (o.getD rc0) := by
  cases o with
  | none =>
    have h : cs = rcs rc0 nl nl nl nl nl := h
    subst h; exact (rows0 w b).asR bnd0
  | some x => obtain ⟨vs, vm, vi, vp, vt, rfl, h1, h2⟩ := h; exact h1.asR h2
theorem retRc {w : World} {g : Nat} {cs : Array Value} {n e : Value} (h : w.heap[g]? = some (.cells cs 28)) (hn : cs.size = 16) (k : KV) (hk : k (.tuple #[.agg cs, n, e]) w) :
    RetO (resL Tryz.prog (fun j => bif Nat.beq j 2 then .pointer (some ⟨g, 0, none⟩) else bif Nat.beq j 3 then n else bif Nat.beq j 4 then e else undef) w [(ResultVar.cell 2 28), (ResultVar.tmp 3), (ResultVar.tmp 4)]) w k := by
  have h3 : resV Tryz.prog (fun j => bif Nat.beq j 2 then .pointer (some ⟨g, 0, none⟩) else bif Nat.beq j 3 then n else bif Nat.beq j 4 then e else undef) w (.tmp 3) = some n := rfl
  have h4 : resV Tryz.prog (fun j => bif Nat.beq j 2 then .pointer (some ⟨g, 0, none⟩) else bif Nat.beq j 3 then n else bif Nat.beq j 4 then e else undef) w (.tmp 4) = some e := rfl
  simp only [resL, resV_blk (f := (fun j => bif Nat.beq j 2 then .pointer (some ⟨g, 0, none⟩) else bif Nat.beq j 3 then n else bif Nat.beq j 4 then e else undef)) (a := 2) rfl agg52 size52 h hn, h3, h4, RetO, RetV]
  exact hk

set_option maxHeartbeats 8000000 in
theorem rdec_spec (w : World) (d : Bs) (hd : d.length ≤ 1000000000000000) : Cl Tryz.prog 13 [stv d] w fun v w' => ∃ cs, v = .tuple #[.agg cs, iv (rDec d).2.1, iv (rDec d).2.2] ∧ RdOk w' w.heap.size cs (rDec d).1 ∧ Fm (fun _ => False) w w' := by
  refine c13 ?_; unfold T13
  refine New_any ?_
  intro x2 w1 hx2 hs1 hw1 hf1
  have hw1' : w1.heap[x2]? = some (.cells (rcs rc0 nl nl nl nl nl) 28) := hw1
  clear hw1
  have one0 : ∀ u ∈ (rcs rc0 nl nl nl nl nl).toList, u.oneCell' = true := rcs_one rfl rfl rfl rfl rfl
  -- an empty record
  have bad : ∀ (w' : World) (e : Int), w'.heap[x2]? = some (.cells (rcs rc0 nl nl nl nl nl) 28) → Fm (fun _ => False) w w' → rDec d = (none, 0, e) →
      RunS Tryz.prog (Instr.build 28 #[]) w' (fun t14_5 w_6 =>
      St 16 w_6 (pv x2) t14_5 fun u_7 w_8 =>
      RetO (resL Tryz.prog (fun j => bif Nat.beq j 2 then pv x2 else bif Nat.beq j 3 then (Value.int IntKind.i64 0) else bif Nat.beq j 4 then (Value.int IntKind.i64 e) else undef) w_8 [(ResultVar.cell 2 28), (ResultVar.tmp 3), (ResultVar.tmp 4)]) w_8 (fun v w' => ∃ cs, v = .tuple #[.agg cs, iv (rDec d).2.1, iv (rDec d).2.2] ∧ RdOk w' w.heap.size cs (rDec d).1 ∧ Fm (fun _ => False) w w')) := by
    intro w' e hw' hF hr
    refine RunS_ok (bld52z _) ?_
    refine St_all hw' rfl rfl one0 ?_
    intro w2 hw2 hs2 hf2
    refine retRc hw2 rfl _ ⟨_, by rw [hr]; rfl, by rw [hr]; rfl, Fm.own hF hf2 (by rintro y rfl; omega)⟩
  have hb : rDec d = (bif decide (d.length < 8) then (none, 0, 40)
    else bif decide (ofN (d.take 4) = 0) || decide (65535 < ofN (d.take 4)) then (none, 0, 41)
    else bif decide (d.length < 8 + ofN (d.take 4)) then (none, 0, 40)
    else bif !decide (ofN ((d.drop 4).take 4) = crc ((d.drop 8).take (ofN (d.take 4)))) then (none, 0, 30)
    else match outerP ((d.drop 8).take (ofN (d.take 4))) with
      | none => (none, 0, 41)
      | some x => bif decide ((rCheck x).2 = 0) && decide ((rCheck x).1 = (d.drop 8).take (ofN (d.take 4))) then (some x, 8 + ofN (d.take 4), 0) else (none, 0, 41) : Option Rc × Nat × Int) := rfl
  have d8 : decide ((d.length : Int) < 8) = decide (d.length < 8) := by rw [decide_eq_decide]; omega
  simp only [RS0, RS1, RS2, RS3, RS4, RS5, str_size, d8]
  cases h1 : decide (d.length < 8) with
  | true =>
    simp only [RS0, RS1, RS2, RS3, RS4, RS5]
    exact bad w1 40 hw1' hf1 (by rw [hb, h1]; rfl)
  | false =>
  have h8 : 8 ≤ d.length := by rw [decide_eq_false_iff_not] at h1; omega
  have s1 := slS_hi (l := d) (i := 4) (by omega) .i64
  have s1' : slS (stv d) none (some (Value.int .i64 4)) = some (stv (d.take 4)) := s1
  simp only [RS0, RS1, RS2, RS3, RS4, RS5, s1']
  refine (of_spec w1 (d.take 4) (by rw [List.length_take]; omega)).mono ?_
  rintro _ w2 ⟨rfl, rfl⟩
  have hn32 : ofN (d.take 4) < 4294967296 := by
    have := ofB_lt 4 (d.take 4) (by rw [List.length_take]; omega)
    rw [ofN_short (by rw [List.length_take]; omega)]
    omega
  rw [h1, cond_false] at hb
  generalize hn : ofN (d.take 4) = n at hb hn32 ⊢
  have e0 : ((n : Int) == 0) = decide (n = 0) := by rw [beq_dec, decide_eq_decide]; omega
  have e1 : decide ((65535 : Int) < (n : Int)) = decide (65535 < n) := by rw [decide_eq_decide]; omega
  simp only [RS0, RS1, RS2, RS3, RS4, RS5, e0]
  cases h2 : decide (n = 0) with
  | true =>
    simp only [RS0, RS1, RS2, RS3, RS4, RS5]
    exact bad w2 41 hw1' hf1 (by rw [hb, h2]; rfl)
  | false =>
  simp only [RS0, RS1, RS2, RS3, RS4, RS5, e1]
  cases h3 : decide (65535 < n) with
  | true =>
    simp only [RS0, RS1, RS2, RS3, RS4, RS5]
    exact bad w2 41 hw1' hf1 (by rw [hb, h2, h3]; rfl)
  | false =>
  rw [h2, h3, Bool.or_false, cond_false] at hb
  rw [decide_eq_false_iff_not] at h2 h3
  have e2 : IntKind.i64.wrap (8 + (n : Int)) = ((8 + n : Nat) : Int) := by rw [wrap_id] <;> omega
  have e3 : decide ((d.length : Int) < ((8 + n : Nat) : Int)) = decide (d.length < 8 + n) := by rw [decide_eq_decide]; omega
  simp only [RS0, RS1, RS2, RS3, RS4, RS5, str_size, e2, e3]
  cases h4 : decide (d.length < 8 + n) with
  | true =>
    simp only [RS0, RS1, RS2, RS3, RS4, RS5]
    exact bad w2 40 hw1' hf1 (by rw [hb, h4]; rfl)
  | false =>
  rw [h4, cond_false] at hb
  rw [decide_eq_false_iff_not] at h4
  have s2 := slS_lh (l := d) (i := 8) (j := 8 + n) (by omega) (by omega) .i64 .i64
  rw [show 8 + n - 8 = n by omega] at s2
  have s2' : slS (stv d) (some (Value.int .i64 8)) (some (iv ((8 + n : Nat) : Int))) = some (stv ((d.drop 8).take n)) := s2
  have s3 := slS_lh (l := d) (i := 4) (j := 8) (by omega) (by omega) .i64 .i64
  have s3' : slS (stv d) (some (Value.int .i64 4)) (some (Value.int .i64 8)) = some (stv ((d.drop 4).take 4)) := s3
  have hbl : ((d.drop 8).take n).length = n := by rw [List.length_take, List.length_drop]; omega
  simp only [RS0, RS1, RS2, RS3, RS4, RS5, e2, s2', s3']
  generalize hB : (d.drop 8).take n = B at hb hbl ⊢
  refine (of_spec w2 ((d.drop 4).take 4) (by rw [List.length_take]; omega)).mono ?_
  rintro _ w3 ⟨rfl, rfl⟩
  refine (sum_spec w3 B (by omega)).mono ?_
  rintro _ w4 ⟨rfl, rfl⟩
  obtain ⟨q1, q2⟩ := crc_in B
  have e4 : decide ((ofN ((d.drop 4).take 4) : Int) = (crc B : Nat)) = decide (ofN ((d.drop 4).take 4) = crc B) := by rw [decide_eq_decide]; omega
  simp only [RS0, RS1, RS2, RS3, RS4, RS5, cvI_int, q2, bne_dec, e4]
  cases h5 : decide (ofN ((d.drop 4).take 4) = crc B) with
  | false =>
    simp only [RS0, RS1, RS2, RS3, RS4, RS5, Bool.not_false]
    exact bad w4 30 hw1' hf1 (by rw [hb, h5]; rfl)
  | true =>
  rw [h5, Bool.not_true, cond_false] at hb
  simp only [RS0, RS1, RS2, RS3, RS4, RS5, Bool.not_true]
  refine (outer_spec w4 B (by omega)).mono ?_
  rintro _ w5 ⟨cs, ok, rfl, hsz, hone, hno, hyes, hf5⟩
  have hx5 := hf5.heap hw1' (fun e => e)
  have hF5 := Fmf hf1 hf5
  have hz5 := hF5.size
  simp only [RS0, RS1, RS2, RS3, RS4, RS5]
  refine New_any ?_
  intro x7 w6 hx7 hs6 hw6 hf6
  refine St_all hw6 rfl hsz hone ?_
  intro w7 hw7 hs7 hf7
  have hf57 : Fm (fun _ => False) w5 w7 := Fm.own hf6 hf7 (by rintro y rfl; omega)
  have hx7' := hf57.heap hx5 (fun e => e)
  have hF7 := Fmf hF5 hf57
  cases ok with
  | false =>
    simp only [RS0, RS1, RS2, RS3, RS4, RS5, Bool.not_false]
    exact bad w7 41 hx7' hF7 (by rw [hb, hno rfl])
  | true =>
  obtain ⟨x, vs, vm, vi, vp, vt, hx, rfl, hrow⟩ := hyes rfl
  have hbd := outer_in hx
  have hr7 := hrow.keep hf57 (fun _ e => e.elim)
  rw [hx] at hb
  simp only at hb
  simp only [RS0, RS1, RS2, RS3, RS4, RS5, Bool.not_true, cellsV_blk hw7 hsz]
  refine (checked_spec (hr7.asR hbd)).mono ?_
  rintro _ w8 ⟨rfl, hf8⟩
  have hx8 := hf8.heap hx7' (fun e => e)
  have hq8 := hf8.heap hw7 (fun e => e)
  have hF8 := Fmf hF7 hf8
  have hr8 := hr7.keep hf8 (fun _ e => e.elim)
  have hz7 := hF7.size
  simp only [RS0, RS1, RS2, RS3, RS4, RS5, bne_dec]
  cases h6 : decide ((rCheck x).2 = 0) with
  | false =>
    simp only [RS0, RS1, RS2, RS3, RS4, RS5, Bool.not_false]
    exact bad w8 41 hx8 hF8 (by rw [hb, h6]; rfl)
  | true =>
  rw [h6, Bool.true_and] at hb
  simp only [RS0, RS1, RS2, RS3, RS4, RS5, Bool.not_true, str_inj]
  cases h7 : decide ((rCheck x).1 = B) with
  | false =>
    simp only [RS0, RS1, RS2, RS3, RS4, RS5, Bool.not_false]
    exact bad w8 41 hx8 hF8 (by rw [hb, h7]; rfl)
  | true =>
  rw [h7, cond_true] at hb
  simp only [RS0, RS1, RS2, RS3, RS4, RS5, Bool.not_true, cellsV_blk hq8 hsz, e2]
  refine St_all hx8 rfl rfl hone ?_
  intro w9 hw9 hs9 hf9
  refine retRc hw9 rfl _ ⟨_, by rw [hb], ?_, Fm.own hF8 hf9 (by rintro y rfl; omega)⟩
  rw [hb]
  have hwsz : w.heap.size ≤ w4.heap.size := hf1.size
  have b9 : ∀ {e1 : TypeId} {s1 : Nat} {v1 : Value} {n1 : Nat} {y1 : List Value}, w9.ownsRow w4.heap.size e1 s1 v1 n1 y1 → w9.ownsRow w.heap.size e1 s1 v1 n1 y1 := fun hh => own_base hh hwsz
  have hr9 := hr8.keep hf9 (fun y e => by omega)
  obtain ⟨X, hX1, hX2, hX3⟩ := hr9.hi
  exact ⟨vs, vm, vi, vp, vt, rfl, ⟨b9 hr9.hs, b9 hr9.hm, ⟨X, hX1, b9 hX2, fun x hx => ⟨(hX3 x hx).1, b9 (hX3 x hx).2.1, (hX3 x hx).2.2⟩⟩, b9 hr9.hp, b9 hr9.ht⟩, hbd⟩

/-! ### What is laid is read, plainly -/
theorem body_ne (r : Rc) : 10 ≤ (rBody r).length := by
  have q : ∀ n : Int, 1 ≤ (encI n).length := fun n => by
    unfold encI
    by_cases h : 127 < (max n 0).toNat
    · rw [encN_big h]; simp
    · rw [encN_small (by omega)]; simp
  have e : rBody r = encI r.lsn ++ (encI r.prev ++ (encI r.next ++ (encI r.kind ++ (encI r.xid ++ (encI r.page ++ (encI r.slot ++ (encI r.old ++ (encI r.new ++ (encI r.redo ++ (txtB r.data ++ listB r.slots ++ listB r.more ++ encI r.imgs.length ++ r.imgs.flatMap imgB ++ encI r.pages.length ++ r.pages.flatMap prB ++ encI r.txns.length ++ r.txns.flatMap prB)))))))))) := by simp [rBody, numsB, headL]
  have h := congrArg List.length e
  simp only [List.length_append] at h
  have := q r.lsn
  have := q r.prev
  have := q r.next
  have := q r.kind
  have := q r.xid
  have := q r.page
  have := q r.slot
  have := q r.old
  have := q r.new
  have := q r.redo
  omega
theorem ofN_beN4 {n : Nat} (h : n < 4294967296) : ofN (beN 4 n) = n := by
  rw [ofN_short (by rw [beN_len]; omega), ofB_beN, Nat.mod_eq_of_lt (by omega)]
theorem rEnc_ok {r : Rc} (h : (rCheck r).2 = 0) (hl : ∀ m ∈ r.imgs, m.2.lsn ≤ 9223372036854775807) : rEnc r = (beN 4 (rBody r).length ++ beN 4 (crc (rBody r)) ++ rBody r, 0) := by
  have h2 := (rCheck_ok h hl).2.2.1
  unfold rEnc
  rw [h, h2]; rfl
theorem rEnc_err (r : Rc) : (rEnc r).2 = (rCheck r).2 := by
  unfold rEnc
  cases h : decide ((rCheck r).2 = 0) with
  | true => rw [decide_eq_true_eq] at h; rw [h]; rfl
  | false => rfl
theorem dec_head {b t : Bs} (hb : b.length ≤ 65535) : (beN 4 b.length ++ beN 4 (crc b) ++ b ++ t).take 4 = beN 4 b.length ∧ ((beN 4 b.length ++ beN 4 (crc b) ++ b ++ t).drop 4).take 4 = beN 4 (crc b) ∧ ((beN 4 b.length ++ beN 4 (crc b) ++ b ++ t).drop 8).take b.length = b ∧ (beN 4 b.length ++ beN 4 (crc b) ++ b ++ t).length = 8 + b.length + t.length := by
  have e1 : beN 4 b.length ++ beN 4 (crc b) ++ b ++ t = beN 4 b.length ++ (beN 4 (crc b) ++ (b ++ t)) := by simp
  have l1 := beN_len 4 b.length
  have l2 := beN_len 4 (crc b)
  refine ⟨by rw [e1, List.take_left' l1], by rw [e1, List.drop_left' l1, List.take_left' l2], ?_, by rw [e1]; simp only [List.length_append, l1, l2]; omega⟩
  have e2 : beN 4 b.length ++ beN 4 (crc b) ++ b ++ t = (beN 4 b.length ++ beN 4 (crc b)) ++ (b ++ t) := by simp
  rw [e2, List.drop_left' (by rw [List.length_append, l1, l2]), List.take_left]
theorem dec_back {r : Rc} (h : (rCheck r).2 = 0) (hl : ∀ m ∈ r.imgs, m.2.lsn ≤ 9223372036854775807) (t : Bs) : rDec ((rEnc r).1 ++ t) = (some r, (rEnc r).1.length, 0) := by
  obtain ⟨hg, _, hb, hlen⟩ := rCheck_ok h hl
  have hne := body_ne r
  have ho := outer_enc hg
  rw [rEnc_ok h hl]
  simp only
  generalize rBody r = b at hlen hne ho hb
  obtain ⟨h1, h2, h3, h4⟩ := dec_head (b := b) (t := t) hlen
  have h5 := (dec_head (b := b) (t := []) hlen).2.2.2
  rw [List.append_nil, List.length_nil, Nat.add_zero] at h5
  have hcl := crc_lt b
  unfold rDec
  rw [h1, h2, h4, h5, ofN_beN4 (by omega), h3, ofN_beN4 (by omega), decide_eq_false (show ¬ 8 + b.length + t.length < 8 by omega), decide_eq_false (show ¬ b.length = 0 by omega), decide_eq_false (show ¬ 65535 < b.length by omega), decide_eq_false (show ¬ 8 + b.length + t.length < 8 + b.length by omega), decide_eq_true rfl, ho]
  simp only [cond_false, Bool.or_false, Bool.not_true]
  rw [h, hb, decide_eq_true rfl, decide_eq_true rfl]
  rfl
end Go.Proofs.YthbngnlmgplijaaGreatDoor

namespace Go.Al
set_option linter.unusedVariables false
set_option linter.unusedSimpArgs false
set_option linter.unusedSectionVars false

structure Dk where
  cur : List Bs
  old : List Bs
  chg : List Bool
  armed : Int
  gone : Bool
  done : Int

namespace Dk

def zsec : Bs := List.replicate 64 0
def mk0 (n : Nat) : Dk := ⟨List.replicate n zsec, List.replicate n zsec, List.replicate n false, 0, false, 0⟩
def isC (chg : List Bool) (i : Nat) : Bool := chg.getD i false
structure Wf (d : Dk) : Prop where
  n1 : d.cur.length ≤ 65536
  lo : d.old.length = d.cur.length
  lc : d.chg.length = d.cur.length
  s1 : ∀ x ∈ d.cur, x.length = 64
  s2 : ∀ x ∈ d.old, x.length = 64
  same : ∀ i, isC d.chg i = false → d.old[i]? = d.cur[i]?
  ar : 0 ≤ d.armed ∧ d.armed ≤ 9223372036854775807

def tick (d : Dk) : Dk := if 0 < d.armed then { d with done := IntKind.i64.wrap (d.done + 1), armed := d.armed - 1, gone := decide (d.armed - 1 = 0) } else { d with done := IntKind.i64.wrap (d.done + 1) }
def put (d : Dk) (i : Nat) (x : Bs) : Dk := { d with cur := d.cur.set i x, chg := d.chg.set i true }
def wr : Dk → Nat → List Bs → Dk × Int
  | d, _, [] => (d, 0)
  | d, i, x :: l => let d' := (d.put i x).tick; bif d'.gone then (d', 5) else wr d' (i + 1) l
def chunks : Nat → Bs → List Bs
  | 0, _ => []
  | k + 1, s => s.take 64 :: chunks k (s.drop 64)
def has (d : Dk) (a k : Int) : Bool := decide (0 ≤ a ∧ 0 ≤ k ∧ a ≤ d.cur.length ∧ k ≤ d.cur.length - a)
def write (d : Dk) (a : Int) (s : Bs) : Dk × Int :=
  bif d.gone then (d, 5) else bif decide (s.length % 64 ≠ 0) || !(d.has a (s.length / 64 : Nat)) then (d, 20) else d.wr a.toNat (chunks (s.length / 64) s)
def read (d : Dk) (a k : Int) : Bs × Int :=
  bif d.gone then ([], 5) else bif !(d.has a k) then ([], 20) else (((d.cur.drop a.toNat).take k.toNat).flatten, 0)
def sync (d : Dk) : Dk × Int :=
  bif d.gone then (d, 5) else let d' := d.tick; bif d'.gone then (d', 5) else ({ d' with old := d'.cur, chg := List.replicate d'.cur.length false }, 0)
def kept (f : Int) : Nat := if f % 3 = 0 then 0 else if f % 3 = 1 then 64 else (f / 3 % 65).toNat
theorem isC_rep (n i : Nat) : isC (List.replicate n false) i = false := by
  unfold isC
  simp only [List.getD_eq_getElem?_getD, List.getElem?_replicate]
  split <;> rfl
theorem isC_set (c : List Bool) (i j : Nat) (h : i < c.length) : isC (c.set i true) j = if i = j then true else isC c j := by
  unfold isC
  simp only [List.getD_eq_getElem?_getD, List.getElem?_set]
  split
  · rename_i e; subst e; simp [h]
  · rfl
theorem wf_mk0 {n : Nat} (h : n ≤ 65536) : (mk0 n).Wf where
  n1 := by simpa [mk0] using h
  lo := by simp [mk0]
  lc := by simp [mk0]
  s1 := by intro x hx; simp [mk0] at hx; rw [hx.2]; rfl
  s2 := by intro x hx; simp [mk0] at hx; rw [hx.2]; rfl
  same := fun i _ => rfl
  ar := ⟨by simp [mk0], by simp [mk0]⟩
theorem tick_cur (d : Dk) : d.tick.cur = d.cur ∧ d.tick.old = d.old ∧ d.tick.chg = d.chg := by
  unfold tick; split <;> exact ⟨rfl, rfl, rfl⟩
theorem Wf.tick {d : Dk} (h : d.Wf) : d.tick.Wf := by
  obtain ⟨h1, h2, h3, h4, h5, h6, h7⟩ := h
  unfold Dk.tick
  split
  · exact ⟨h1, h2, h3, h4, h5, h6, ⟨by simp only; omega, by simp only; omega⟩⟩
  · exact ⟨h1, h2, h3, h4, h5, h6, h7⟩
theorem Wf.put {d : Dk} (h : d.Wf) (i : Nat) {x : Bs} (hx : x.length = 64) : (d.put i x).Wf where
  n1 := by simpa [Dk.put] using h.n1
  lo := by simpa [Dk.put] using h.lo
  lc := by simpa [Dk.put] using h.lc
  s1 := by
    intro y hy
    rcases List.mem_or_eq_of_mem_set hy with hy | rfl
    · exact h.s1 y hy
    · exact hx
  s2 := h.s2
  same := by
    intro j hj
    rcases Nat.lt_or_ge i d.chg.length with hl | hl
    · simp only [Dk.put] at hj ⊢
      rw [isC_set _ _ _ hl] at hj
      split at hj
      · cases hj
      · rename_i hne
        rw [List.getElem?_set_ne hne]; exact h.same j hj
    · simp only [Dk.put] at hj ⊢
      rw [List.set_eq_of_length_le hl] at hj
      rw [List.set_eq_of_length_le (by rw [← h.lc]; exact hl)]
      exact h.same j hj
  ar := h.ar
theorem chunks_len (k : Nat) (s : Bs) : (chunks k s).length = k := by
  induction k generalizing s with
  | zero => rfl
  | succ k ih => simp [chunks, ih]
theorem chunks_64 {k : Nat} {s : Bs} (h : 64 * k ≤ s.length) : ∀ x ∈ chunks k s, x.length = 64 := by
  induction k generalizing s with
  | zero => intro x hx; cases hx
  | succ k ih =>
    intro x hx
    rcases List.mem_cons.1 hx with rfl | hx
    · rw [List.length_take]; omega
    · exact ih (by rw [List.length_drop]; omega) x hx
theorem Wf.sync {d : Dk} (h : d.Wf) : d.sync.1.Wf := by
  unfold Dk.sync
  cases d.gone with
  | true => exact h
  | false =>
    simp only [cond_false]
    have h1 := h.tick
    cases hg : d.tick.gone with
    | true => exact h1
    | false =>
      simp only [cond_false]
      exact ⟨h1.n1, rfl, by simp, h1.s1, h1.s1, fun i _ => rfl, h1.ar⟩
/-! ### One sector is written -/
theorem sync_calm {d : Dk} (ha : d.armed = 0) (hg : d.gone = false) : d.sync.2 = 0 ∧ d.sync.1.cur = d.cur ∧ d.sync.1.old = d.cur ∧ d.sync.1.gone = false ∧ d.sync.1.armed = 0 := by
  have ht : d.tick = { d with done := IntKind.i64.wrap (d.done + 1) } := by unfold tick; rw [if_neg (by omega)]
  unfold sync
  rw [hg]
  simp only [cond_false, ht]
  rw [show ({ d with done := IntKind.i64.wrap (d.done + 1) } : Dk).gone = false from hg]
  exact ⟨rfl, rfl, rfl, rfl, ha⟩
/-! ### Pending -/
/-! ### A crash, step by step -/
/-! ### A crash, sector by sector -/
/-! ### All sectors in a row -/
theorem flat_len {l : List Bs} (h : ∀ x ∈ l, x.length = 64) : l.flatten.length = 64 * l.length := by
  induction l with
  | nil => rfl
  | cons x l ih => simp only [List.flatten_cons, List.length_append, List.length_cons, h x (by simp), ih (fun y hy => h y (by simp [hy]))]; omega
theorem flat_drop {l : List Bs} (h : ∀ x ∈ l, x.length = 64) (i : Nat) : l.flatten.drop (64 * i) = (l.drop i).flatten := by
  induction l generalizing i with
  | nil => simp
  | cons x l ih =>
    cases i with
    | zero => rfl
    | succ i =>
      rw [List.flatten_cons, List.drop_succ_cons, ← ih (fun y hy => h y (by simp [hy])) i, List.drop_append, h x (by simp), show 64 * (i + 1) - 64 = 64 * i by omega,
        List.drop_eq_nil_of_le (by rw [h x (by simp)]; omega), List.nil_append]
theorem flat_take {l : List Bs} (h : ∀ x ∈ l, x.length = 64) (i : Nat) : l.flatten.take (64 * i) = (l.take i).flatten := by
  induction l generalizing i with
  | nil => simp
  | cons x l ih =>
    cases i with
    | zero => rfl
    | succ i =>
      rw [List.flatten_cons, List.take_succ_cons, List.flatten_cons, ← ih (fun y hy => h y (by simp [hy])) i, List.take_append, h x (by simp), show 64 * (i + 1) - 64 = 64 * i by omega,
        List.take_of_length_le (by rw [h x (by simp)]; omega)]
theorem flat_sec {l : List Bs} (h : ∀ x ∈ l, x.length = 64) {i : Nat} (hi : i < l.length) : (l.flatten.drop (64 * i)).take 64 = l.getD i [] := by
  rw [flat_drop h, List.getD_eq_getElem?_getD, List.getElem?_eq_getElem hi, List.drop_eq_getElem_cons hi, List.flatten_cons, Option.getD_some]
  rw [List.take_append_of_le_length (by rw [h _ (List.getElem_mem hi)]; omega), List.take_of_length_le (by rw [h _ (List.getElem_mem hi)]; omega)]
/-- A sector's end is laid anew. -/
theorem flat_lay {l : List Bs} (h : ∀ x ∈ l, x.length = 64) {i j : Nat} (hi : i < l.length) (hj : j ≤ 64) {y : Bs} (hy : y.length = 64 - j) :
    l.flatten.take (64 * i + j) ++ y ++ l.flatten.drop (64 * i + 64) = (l.set i ((l.getD i []).take j ++ y)).flatten := by
  induction l generalizing i with
  | nil => simp at hi
  | cons x l ih =>
    have hx := h x (by simp)
    cases i with
    | zero =>
      simp only [List.flatten_cons, List.set_cons_zero, List.getD_cons_zero, Nat.mul_zero, Nat.zero_add]
      rw [List.take_append_of_le_length (by omega), List.drop_append, hx, Nat.sub_self, List.drop_eq_nil_of_le (by omega), List.nil_append, List.drop_zero]
    | succ i =>
      simp only [List.flatten_cons, List.set_cons_succ, List.getD_cons_succ]
      rw [← ih (fun y hy => h y (by simp [hy])) (by simpa using hi), List.take_append, List.drop_append, hx]
      rw [List.take_of_length_le (show x.length ≤ 64 * (i + 1) + j by omega), List.drop_eq_nil_of_le (show x.length ≤ 64 * (i + 1) + 64 by omega), List.nil_append,
        show 64 * (i + 1) + j - 64 = 64 * i + j by omega, show 64 * (i + 1) + 64 - 64 = 64 * i + 64 by omega]
      simp only [List.append_assoc]

end Dk
end Go.Al

namespace Go.Al
set_option linter.unusedVariables false
set_option linter.unusedSimpArgs false
set_option linter.unusedSectionVars false

/-- Cells are laid ahead of a mark. -/
theorem store_ahead (P : Program) (g o : Nat) (t : TypeId) (fz : Nat × Nat) : ∀ (vs : List Value) (i : Nat) (cur : Array Value) (w : World), w.heap[g]? = some (.cells cur t fz) → (fz = (0, 0) ∨ cur.size ≤ fz.1) → o + i + vs.length ≤ cur.size → (∀ v ∈ vs, v.oneCell' = true) →
    (storeCells ⟨g, o, none⟩ vs i).run P w = .ok () (w.setRow g (cur.toList.take (o + i) ++ vs ++ cur.toList.drop (o + i + vs.length)).toArray)
  | [], i, cur, w, hg, _, _, _ => by
    simp only [storeCells, List.append_nil, List.length_nil, Nat.add_zero, List.take_append_drop, Array.toArray_toList]
    rw [setRow_self w g cur t fz hg]
    rfl
  | v :: rest, i, cur, w, hg, hfz, hl, h1 => by
    have hi : o + i < cur.size := by simp at hl; omega
    have hadd : (⟨g, o, none⟩ : Addr).add i = ⟨g, o + i, none⟩ := by unfold Addr.add; split <;> simp_all
    have hcell : w.cell? ⟨g, o + i, none⟩ = some cur[o + i] := by simp [World.cell?, hg, hi]
    have hfro : w.frozen? ⟨g, o + i, none⟩ = false := by
      obtain ⟨lo, hi'⟩ := fz
      simp only [World.frozen?, hg, Bool.and_eq_false_iff, decide_eq_false_iff_not]
      rcases hfz with h | h
      · cases h; right; omega
      · left
        simp only at h
        omega
    have hst : (store ((⟨g, o, none⟩ : Addr).add i) v).run P w = .ok () (w.setRow g (cur.setIfInBounds (o + i) v)) := by
      rw [hadd, run_store P w _ v _ (h1 v (by simp)), hcell]
      simp [hfro, setCell_eq_setRow w g (o + i) cur t fz v hg]
    have ih := store_ahead P g o t fz rest (i + 1) (cur.setIfInBounds (o + i) v) (w.setRow g (cur.setIfInBounds (o + i) v)) (setRow_heap w g cur _ t _ hg) (by simpa using hfz) (by simp at hl ⊢; omega) (fun x hx => h1 x (by simp [hx]))
    simp only [storeCells, Sem.run_bind, hst, Result.andThen_ok, ih, setRow_setRow]
    congr 3
    have e := list_seg_step cur.toList (o + i) v rest (by simp at hl ⊢; omega)
    simpa [Array.toList_setIfInBounds, Nat.add_assoc] using e

end Go.Al

namespace Go.Al
set_option linter.unusedVariables false
set_option linter.unusedSimpArgs false
set_option linter.unusedSectionVars false

def KpAt (w : World) (e : TypeId) (v : Value) (B : Bs) : Prop :=
  (v = .slice none 0 0 ∧ B = []) ∨ ∃ g cap cur, v = .slice (some ⟨g, 0, none⟩) B.length cap ∧ w.heap[g]? = some (.cells cur e) ∧ B.length ≤ cap ∧ cap ≤ maxLen ∧ cap ≤ cur.size ∧ cur.toList.take B.length = bc B
theorem KpAt.nil (w : World) (e : TypeId) : KpAt w e (.slice none 0 0) [] := .inl ⟨rfl, rfl⟩
theorem KpAt.of_own {w : World} {base : Nat} {e : TypeId} {v : Value} {B : Bs} {n : Nat} (h : w.ownsRow base e 1 v n (bc B)) : KpAt w e v B := by
  have hl := h.1
  rw [bc_len, Nat.mul_one] at hl
  subst hl
  rcases h.2 with ⟨rfl, h0⟩ | ⟨g, cap, cur, rfl, _, hg, hn, hc, hs, ht⟩
  · exact .inl ⟨rfl, List.eq_nil_of_length_eq_zero h0⟩
  · rw [Nat.mul_one] at hs ht
    exact .inr ⟨g, cap, cur, rfl, hg, hn, hc, by omega, ht⟩
theorem KpAt.keep {S : Nat → Prop} {w w' : World} {e : TypeId} {v : Value} {B : Bs} (h : KpAt w e v B) (hf : Fm S w w') (hs : ∀ y, v.ownBlock = some y → ¬ S y) : KpAt w' e v B := by
  rcases h with h | ⟨g, cap, cur, rfl, hg, h⟩
  · exact .inl h
  · exact .inr ⟨g, cap, cur, rfl, hf.heap hg (hs g rfl), h⟩
theorem KpAt.lt {w : World} {e : TypeId} {v : Value} {B : Bs} (h : KpAt w e v B) : ∀ y, v.ownBlock = some y → y < w.heap.size := by
  intro y hy
  rcases h with ⟨rfl, _⟩ | ⟨g, cap, cur, rfl, hg, h⟩
  · cases hy
  · cases hy; exact lt_of_heap hg
theorem KpAt.one {w : World} {e : TypeId} {v : Value} {B : Bs} (h : KpAt w e v B) : v.oneCell' = true := by
  rcases h with ⟨rfl, _⟩ | ⟨g, cap, cur, rfl, hg, h⟩ <;> rfl
theorem KpAt.lenV {w : World} {e : TypeId} {v : Value} {B : Bs} (h : KpAt w e v B) : lenV v = some (.int .i64 B.length) := by
  rcases h with ⟨rfl, rfl⟩ | ⟨g, cap, cur, rfl, hg, h⟩ <;> rfl
theorem KpAt.neT {w : World} {e t : TypeId} {v : Value} {B : Bs} (h : KpAt w e v B) {x : Nat} {cs : Array Value} {fz : Nat × Nat} (hx : w.heap[x]? = some (.cells cs t fz)) (hne : e ≠ t) : v.ownBlock ≠ some x := by
  intro hk
  rcases h with ⟨rfl, _⟩ | ⟨g, cap, cur, rfl, hg, h⟩
  · cases hk
  · cases hk
    rw [hx] at hg
    cases hg
    exact hne rfl
theorem KpAt.neM {w : World} {e : TypeId} {v : Value} {B : Bs} (h : KpAt w e v B) {x : Nat} {es : Array MapEntry} {c : Nat} (hx : w.heap[x]? = some (.map es c)) : v.ownBlock ≠ some x := by
  intro hk
  rcases h with ⟨rfl, _⟩ | ⟨g, cap, cur, rfl, hg, h⟩
  · cases hk
  · cases hk
    rw [hx] at hg
    cases hg
/-- 'append(b, s...)'. -/
theorem KpAt.app {P : Program} {t e s : TypeId} (B : ByteT P t e s) {w : World} {v : Value} {L : Bs} (h : KpAt w e v L) (x : Bs) (ty : TypeId) (hl : L.length + x.length ≤ 100000000000) :
    ∃ v' w', (Builtin.append_ #[t, s] ty #[v, stv x]).run P w = .ok v' w' ∧ KpAt w' e v' (L ++ x) ∧ Fm (fun y => v.ownBlock = some y) w w' ∧ (∀ y, v'.ownBlock = some y → v.ownBlock = some y ∨ w.heap.size ≤ y) := by
  rcases h with ⟨rfl, rfl⟩ | ⟨g, cap, cur, rfl, hg, hnc, hcm, hcs, htake⟩
  · obtain ⟨v', w', hr, ho, hf, _⟩ := append_text B (n := 0) (l := []) (World.ownsRow_nil w w.heap.size e 1) x ty (by simp at hl; omega) (Nat.le_refl _)
    refine ⟨v', w', hr, KpAt.of_own ho, hf, fun y hy => .inr ?_⟩
    rcases ho.2 with ⟨rfl, _⟩ | ⟨g, cap, cur, rfl, hb, _⟩
    · cases hy
    · cases hy; exact hb
  obtain ⟨i, h1, h2, h3, h4⟩ := B.info
  have hsx : Lib.strCells (str x) = bc x := rfl
  have hxz : (str x).size = x.length := str_size x
  by_cases hroom : L.length + x.length ≤ cap
  · have hf := Lib.run_firstCells_string (P := P) w 1 (str x)
    rw [hsx, hxz] at hf
    have hst := store_ahead P g L.length e (0, 0) (bc x) 0 cur w hg (.inl rfl) (by rw [bc_len]; omega) (bc_one x)
    simp only [Nat.add_zero, bc_len] at hst
    have hr : (Builtin.append_ #[t, s] ty #[.slice (some ⟨g, 0, none⟩) L.length cap, stv x]).run P w = .ok (.slice (some ⟨g, 0, none⟩) (L.length + x.length) cap) (w.setRow g (cur.toList.take L.length ++ bc x ++ cur.toList.drop (L.length + x.length)).toArray) := by
      simp [Builtin.append_, run_underlying B.sl, run_underlying B.st, sizeOf, typeInfo, h1, h3, Builtin.lenOf, str_size, hroom, hf, Addr.add_lit, hst]
    refine ⟨_, _, hr, .inr ⟨g, cap, _, by rw [List.length_append], setRow_heap w g cur _ e _ hg, by rw [List.length_append]; exact hroom, hcm, ?_, ?_⟩, ⟨rfl, rfl, rfl, by simp, fun k _ hk => setRow_other w g k _ (fun e => hk (by rw [e]; rfl))⟩, fun y hy => .inl hy⟩
    · simp only [List.size_toArray, List.length_append, List.length_take, List.length_drop, Array.length_toList, bc_len]
      omega
    · rw [htake, ← bc_append, List.take_append_of_le_length (by rw [bc_len]; exact Nat.le_refl _), List.take_of_length_le (by rw [bc_len]; exact Nat.le_refl _)]
  · have holds : ∀ j u, (bc L)[j]? = some u → w.cell? ((⟨g, 0, none⟩ : Addr).add j) = some u := by
      intro j u hj
      rw [← htake, List.getElem?_take] at hj
      split at hj
      · rw [Addr.add_lit, cell_at hg]
        simpa using hj
      · cases hj
    have hr := Lib.run_append_grow_string (P := P) w t s ty e i (.int .u8 0) B.sl B.st h1 h2 ⟨g, 0, none⟩ L.length cap (bc L) (by rw [bc_len, h3, Nat.mul_one]) holds (str x) (by rw [hxz]; omega) (by rw [hxz]; omega) (by rw [hxz, h4]; exact growslice_fits (by omega) (by omega))
    rw [hxz, hsx] at hr
    have hge := grownCap_ge w (L.length + x.length) cap e
    have hcm' : grownCap w (L.length + x.length) cap e ≤ maxLen := grownCap_le_maxLen w (L.length + x.length) cap e (by unfold maxLen; omega)
    refine ⟨_, _, hr, .inr ⟨w.heap.size, _, _, by rw [List.length_append], alloc_new w.drew _, by rw [List.length_append]; exact hge, hcm', ?_, ?_⟩, ⟨rfl, rfl, rfl, by simp, fun k hk _ => (Fm.alloc (fun _ => False) w.drew _).block k hk (fun e => e)⟩, fun y hy => .inr (by cases hy; exact Nat.le_refl _)⟩
    · have hz1 : (Value.int IntKind.u8 0).cells.size = 1 := rfl
      simp only [Array.size_append, List.size_toArray, size_zeroCells, hz1, bc_len]
      omega
    · simp only [Array.toList_append, List.append_assoc]
      rw [← List.append_assoc, ← bc_append, List.take_append_of_le_length (by rw [bc_len]; exact Nat.le_refl _), List.take_of_length_le (by rw [bc_len]; exact Nat.le_refl _)]
/-- 'string(b[i:j])'. -/
theorem KpAt.cut {P : Program} {t e s : TypeId} (B : ByteT P t e s) {w : World} {v : Value} {L : Bs} {e' : TypeId} (h : KpAt w e' v L) {i j : Nat} (hij : i ≤ j) (hj : j ≤ L.length) :
    ∃ u, slV 1 v (some (.int .i64 i)) (some (.int .i64 j)) none = some u ∧ (convert t s u).run P w = .ok (stv ((L.drop i).take (j - i))) w := by
  rcases h with ⟨rfl, rfl⟩ | ⟨g, cap, cur, rfl, hg, hnc, hcm, hcs, htake⟩
  · simp at hj
    subst hj
    obtain rfl : i = 0 := by omega
    exact ⟨.slice none 0 0, rfl, conv_nil B w 0 0⟩
  · obtain ⟨o', h1, h2, h3, _⟩ := slV_lh (g := g) (o := 0) (n := L.length) (c := cap) hij (by omega) .i64 .i64
    refine ⟨_, h1, ?_⟩
    have hx : BX w g e' L := ⟨cur, _, hg, htake, by omega, .inl rfl⟩
    by_cases hi : i < cap
    · rw [h2 hi, Nat.zero_add]
      exact hx.conv B (by omega) _
    · have : j - i = 0 := by omega
      rw [this]
      have := hx.conv (P := P) B (o := o') (n := 0) (by omega) (cap - i)
      rw [List.take_zero] at this ⊢
      exact this
end Go.Al

namespace Go.Proofs.YthbngnlmgplijaaGreatDoor
open Go.Al Go.Proofs
set_option maxRecDepth 100000
set_option linter.unusedVariables false
set_option linter.unusedSimpArgs false
/-- Function 17: almonry/disk.New. -/
def T17 (k : KV) (sectors0 : Value) (w : World) : Prop :=
  Pu (binV (TypeDesc.int IntKind.i64) .lss sectors0 (Value.int IntKind.i64 1)) fun t5_1 =>
  Gd (isB false t5_1) (fun kk => kk sectors0 w) w fun t7_2 w_3 =>
  Gd (isB false t5_1) (fun kk => Pu (binV (TypeDesc.int IntKind.i64) .gtr t7_2 (Value.int IntKind.i64 65536)) fun vv => kk vv w_3) w_3 fun t8_4 w_5 =>
  Pu (pickV t5_1 (Value.bool true) t8_4) fun t9_6 =>
  IfB t9_6
    (k (.tuple #[(Value.pointer none), (Value.int IntKind.i64 1)]) w_5)
    (Pu (binV (TypeDesc.int IntKind.i64) .mul sectors0 (Value.int IntKind.i64 64)) fun t11_7 =>
  RunS Tryz.prog (Instr.makeSlice 123 t11_7 t11_7) w_5 fun t12_8 w_9 =>
  RunS Tryz.prog (Instr.makeMap 124 none) w_9 fun t13_10 w_11 =>
  RunS Tryz.prog (Instr.build 126 #[(0, t12_8), (1, t13_10)]) w_11 fun t14_12 w_13 =>
  New (Value.cells t14_12) 126 w_13 fun t15_14 w_15 =>
  k (.tuple #[t15_14, (Value.int IntKind.i64 0)]) w_15)
theorem e17 (k : KV) (sectors0 : Value) (w : World) : K KD Tryz.prog 16 (fun j =>  []) (fun j =>  none) (Tryz.f17.body.getD .skip) (retQ Tryz.prog Tryz.f17 k) (argF [sectors0]) w = T17 k sectors0 w := by kernel_rfl
theorem c17 {k : KV} {sectors0 : Value} {w : World} (h : T17 k sectors0 w) : Cl Tryz.prog 17 [sectors0] w k :=
  Cl_of_K KD_sound mixed Tryz.func17 (by kernel_rfl) (by kernel_rfl) ((e17 k sectors0 w).symm ▸ h)

/-- Function 38: (*almonry/disk.Disk).Sync. -/
def T38 (k : KV) (d0 : Value) (w : World) : Prop :=
  Cl Tryz.prog 110 [d0] w fun t5_1 w_2 =>
  Pu (binV (TypeDesc.int IntKind.i64) .neq t5_1 (Value.int IntKind.i64 0)) fun t7_3 =>
  IfB t7_3
    (k t5_1 w_2)
    (Cl Tryz.prog 111 [d0] w_2 fun t10_4 w_5 =>
  IfB t10_4
    (k (Value.int IntKind.i64 5) w_5)
    (Pu (nilV d0) fun t12_6 =>
  Pu (faV 1 t12_6) fun t13_7 =>
  Ld w_5 t13_7 fun t14_8 w_9 =>
  RunS Tryz.prog (Builtin.clear_ #[124] 0 #[t14_8]) w_9 fun u_10 w_11 =>
  k (Value.int IntKind.i64 0) w_11))
theorem e38 (k : KV) (d0 : Value) (w : World) : K KD Tryz.prog 15 (fun j =>  []) (fun j =>  none) (Tryz.f38.body.getD .skip) (retQ Tryz.prog Tryz.f38 k) (argF [d0]) w = T38 k d0 w := by kernel_rfl
theorem c38 {k : KV} {d0 : Value} {w : World} (h : T38 k d0 w) : Cl Tryz.prog 38 [d0] w k :=
  Cl_of_K KD_sound mixed Tryz.func38 (by kernel_rfl) (by kernel_rfl) ((e38 k d0 w).symm ▸ h)

/-- Function 40: (*almonry/disk.Disk).Read. -/
def T40 (k : KV) (d0 : Value) (atv1 : Value) (n2 : Value) (w : World) : Prop :=
  Cl Tryz.prog 110 [d0] w fun t10_1 w_2 =>
  Pu (binV (TypeDesc.int IntKind.i64) .neq t10_1 (Value.int IntKind.i64 0)) fun t12_3 =>
  IfB t12_3
    (k (.tuple #[(Value.string (ByteArray.mk #[])), t10_1]) w_2)
    (Cl Tryz.prog 114 [d0, atv1, n2] w_2 fun t17_4 w_5 =>
  Pu (unV .not t17_4) fun t18_6 =>
  IfB t18_6
    (k (.tuple #[(Value.string (ByteArray.mk #[])), (Value.int IntKind.i64 20)]) w_5)
    (Pu (nilV d0) fun t20_7 =>
  Pu (faV 0 t20_7) fun t21_8 =>
  Ld w_5 t21_8 fun t22_9 w_10 =>
  Pu (binV (TypeDesc.int IntKind.i64) .mul atv1 (Value.int IntKind.i64 64)) fun t24_11 =>
  Pu (binV (TypeDesc.int IntKind.i64) .add atv1 n2) fun t27_12 =>
  Pu (binV (TypeDesc.int IntKind.i64) .mul t27_12 (Value.int IntKind.i64 64)) fun t28_13 =>
  Pu (slV 1 t22_9 (some t24_11) (some t28_13) none) fun t29_14 =>
  RunS Tryz.prog (convert 123 9 t29_14) w_10 fun t30_15 w_16 =>
  k (.tuple #[t30_15, (Value.int IntKind.i64 0)]) w_16))
theorem e40 (k : KV) (d0 : Value) (atv1 : Value) (n2 : Value) (w : World) : K KD Tryz.prog 31 (fun j =>  []) (fun j =>  none) (Tryz.f40.body.getD .skip) (retQ Tryz.prog Tryz.f40 k) (argF [d0, atv1, n2]) w = T40 k d0 atv1 n2 w := by kernel_rfl
theorem c40 {k : KV} {d0 : Value} {atv1 : Value} {n2 : Value} {w : World} (h : T40 k d0 atv1 n2 w) : Cl Tryz.prog 40 [d0, atv1, n2] w k :=
  Cl_of_K KD_sound mixed Tryz.func40 (by kernel_rfl) (by kernel_rfl) ((e40 k d0 atv1 n2 w).symm ▸ h)

/-- Function 94: (*almonry/disk.Disk).Write. -/
def T94 (k : KV) (d0 : Value) (atv1 : Value) (data2 : Value) (w : World) : Prop :=
  Cl Tryz.prog 110 [d0] w fun t11_1 w_2 =>
  Pu (binV (TypeDesc.int IntKind.i64) .neq t11_1 (Value.int IntKind.i64 0)) fun t13_3 =>
  IfB t13_3
    (k t11_1 w_2)
    (Pu (lenS data2) fun t16_4 =>
  Pu (binV (TypeDesc.int IntKind.i64) .rem t16_4 (Value.int IntKind.i64 64)) fun t17_5 =>
  Pu (binV (TypeDesc.int IntKind.i64) .neq t17_5 (Value.int IntKind.i64 0)) fun t18_6 =>
  Gd (isB false t18_6) (fun kk => kk d0 w_2) w_2 fun t20_7 w_8 =>
  Gd (isB false t18_6) (fun kk => kk atv1 w_8) w_8 fun t21_9 w_10 =>
  Gd (isB false t18_6) (fun kk => kk data2 w_10) w_10 fun t22_11 w_12 =>
  Gd (isB false t18_6) (fun kk => Pu (lenS t22_11) fun vv => kk vv w_12) w_12 fun t23_13 w_14 =>
  Gd (isB false t18_6) (fun kk => Pu (binV (TypeDesc.int IntKind.i64) .quo t23_13 (Value.int IntKind.i64 64)) fun vv => kk vv w_14) w_14 fun t24_15 w_16 =>
  Gd (isB false t18_6) (fun kk => Cl Tryz.prog 114 [t20_7, t21_9, t24_15] w_16 kk) w_16 fun t25_17 w_18 =>
  Gd (isB false t18_6) (fun kk => Pu (unV .not t25_17) fun vv => kk vv w_18) w_18 fun t26_19 w_20 =>
  Pu (pickV t18_6 (Value.bool true) t26_19) fun t27_21 =>
  IfB t27_21
    (k (Value.int IntKind.i64 20) w_20)
    (∃ (I_22 : List Value → World → Prop) (m_23 : List Value → World → Nat), I_22 [atv1, data2] w_20 ∧
  ∀ (g_65 : Fr) (w_64 : World), ∀ atv1_25 : Value, ∀ data2_26 : Value, I_22 [atv1_25, data2_26] w_64 →
    (Pu (binV TypeDesc.string .neq data2_26 (Value.string (ByteArray.mk #[]))) fun t29_66 =>
    IfB t29_66
      (Jn (fun vs_91 w_90 => ∀ g_92 : Fr, vs_91 = [] ∧
        (Pu (slS data2_26 none (some (Value.int IntKind.i64 64))) fun t56_93 =>
        Cl Tryz.prog 121 [d0, atv1_25] (World.drew w_90) fun t54_94 w_95 =>
        RunS Tryz.prog (Builtin.copy_ #[123, 9] 3 #[t54_94, t56_93]) w_95 fun t57_96 w_97 =>
        Pu (slS data2_26 (some (Value.int IntKind.i64 64)) none) fun t59_98 =>
        Cl Tryz.prog 111 [d0] w_97 fun t61_99 w_100 =>
        IfB t61_99
          (k (Value.int IntKind.i64 5) w_100)
          (Pu (binV (TypeDesc.int IntKind.i64) .add atv1_25 (Value.int IntKind.i64 1)) fun t31_101 =>
    I_22 [t31_101, t59_98] w_100 ∧ m_23 [t31_101, t59_98] w_100 < m_23 [atv1_25, data2_26] w_64)))
      (fun jj_67 =>
      Pu (nilV d0) fun t34_102 =>
      Pu (faV 1 t34_102) fun t35_103 =>
      Ld w_64 t35_103 fun t36_104 w_105 =>
      RunS Tryz.prog (Instr.lookup 124 t36_104 atv1_25 true) w_105 fun t38_106 w_107 =>
      Pu (extV t38_106 0) fun t39_108 =>
      Pu (extV t38_106 1) fun t40_109 =>
      Pu (unV .not t40_109) fun t42_110 =>
      IfB t42_110
        (∃ C_111 : World → Prop, C_111 (World.drew w_107) ∧
          (Pu (nilV d0) fun t44_112 =>
          Pu (faV 1 t44_112) fun t45_113 =>
          ∃ t46_114, (∀ w_115, C_111 w_115 → Ld w_115 t45_113 fun t46_116 w_117 =>
          t46_116 = t46_114 ∧ w_117 = w_115) ∧
          (Cl Tryz.prog 121 [d0, atv1_25] (World.drew w_107) fun t50_118 w_119 =>
          C_111 w_119 ∧
          (RunS Tryz.prog (convert 123 9 t50_118) w_119 fun t51_120 w_121 =>
          w_121 = w_119 ∧
          RunU Tryz.prog (Instr.mapUpdate 124 t46_114 atv1_25 t51_120) w_119 fun u_122 w_123 =>
          jj_67 [] w_123))))
        (jj_67 [] w_107)))
      (k (Value.int IntKind.i64 0) w_64))))
theorem e94 (k : KV) (d0 : Value) (atv1 : Value) (data2 : Value) (w : World) : K KD Tryz.prog 62 (fun j => bif Nat.beq j 6 then [1, 2] else []) (fun j => bif Nat.beq j 11 then some [] else none) (Tryz.f94.body.getD .skip) (retQ Tryz.prog Tryz.f94 k) (argF [d0, atv1, data2]) w = T94 k d0 atv1 data2 w := by kernel_rfl
theorem c94 {k : KV} {d0 : Value} {atv1 : Value} {data2 : Value} {w : World} (h : T94 k d0 atv1 data2 w) : Cl Tryz.prog 94 [d0, atv1, data2] w k :=
  Cl_of_K KD_sound mixed Tryz.func94 (by kernel_rfl) (by kernel_rfl) ((e94 k d0 atv1 data2 w).symm ▸ h)

/-- Function 108: (*almonry/disk.Disk).Size. -/
def T108 (k : KV) (d0 : Value) (w : World) : Prop :=
  Pu (binV (TypeDesc.pointer 126) .eql d0 (Value.pointer none)) fun t4_1 =>
  IfB t4_1
    (k (Value.int IntKind.i64 0) w)
    (Pu (nilV d0) fun t6_2 =>
  Pu (faV 0 t6_2) fun t7_3 =>
  Ld w t7_3 fun t8_4 w_5 =>
  Pu (lenV t8_4) fun t9_6 =>
  Pu (binV (TypeDesc.int IntKind.i64) .quo t9_6 (Value.int IntKind.i64 64)) fun t10_7 =>
  k t10_7 w_5)
theorem e108 (k : KV) (d0 : Value) (w : World) : K KD Tryz.prog 11 (fun j =>  []) (fun j =>  none) (Tryz.f108.body.getD .skip) (retQ Tryz.prog Tryz.f108 k) (argF [d0]) w = T108 k d0 w := by kernel_rfl
theorem c108 {k : KV} {d0 : Value} {w : World} (h : T108 k d0 w) : Cl Tryz.prog 108 [d0] w k :=
  Cl_of_K KD_sound mixed Tryz.func108 (by kernel_rfl) (by kernel_rfl) ((e108 k d0 w).symm ▸ h)

/-- Function 110: (*almonry/disk.Disk).alive. -/
def T110 (k : KV) (d0 : Value) (w : World) : Prop :=
  Pu (binV (TypeDesc.pointer 126) .eql d0 (Value.pointer none)) fun t5_1 =>
  IfB t5_1
    (k (Value.int IntKind.i64 2) w)
    (Pu (nilV d0) fun t8_2 =>
      Pu (faV 3 t8_2) fun t9_3 =>
      Ld w t9_3 fun t10_4 w_5 =>
      IfB t10_4
        (k (Value.int IntKind.i64 5) w_5)
        (k (Value.int IntKind.i64 0) w_5))
theorem e110 (k : KV) (d0 : Value) (w : World) : K KD Tryz.prog 11 (fun j =>  []) (fun j =>  none) (Tryz.f110.body.getD .skip) (retQ Tryz.prog Tryz.f110 k) (argF [d0]) w = T110 k d0 w := by kernel_rfl
theorem c110 {k : KV} {d0 : Value} {w : World} (h : T110 k d0 w) : Cl Tryz.prog 110 [d0] w k :=
  Cl_of_K KD_sound mixed Tryz.func110 (by kernel_rfl) (by kernel_rfl) ((e110 k d0 w).symm ▸ h)

/-- Function 111: (*almonry/disk.Disk).act. -/
def T111 (k : KV) (d0 : Value) (w : World) : Prop :=
  Pu (nilV d0) fun t4_1 =>
  Pu (faV 4 t4_1) fun t5_2 =>
  Ld w t5_2 fun t6_3 w_4 =>
  Pu (binV (TypeDesc.int IntKind.i64) .add t6_3 (Value.int IntKind.i64 1)) fun t7_5 =>
  Pu (nilV d0) fun t8_6 =>
  Pu (faV 4 t8_6) fun t9_7 =>
  St 1 w_4 t9_7 t7_5 fun u_8 w_9 =>
  Jn (fun vs_32 w_31 => ∀ g_33 : Fr, vs_32 = [] ∧
      (Pu (nilV d0) fun t31_34 =>
      Pu (faV 3 t31_34) fun t32_35 =>
      Ld w_31 t32_35 fun t33_36 w_37 =>
      k t33_36 w_37))
    (fun jj_10 =>
    Pu (nilV d0) fun t11_38 =>
    Pu (faV 2 t11_38) fun t12_39 =>
    Ld w_9 t12_39 fun t13_40 w_41 =>
    Pu (binV (TypeDesc.int IntKind.i64) .gtr t13_40 (Value.int IntKind.i64 0)) fun t14_42 =>
    IfB t14_42
      (Pu (nilV d0) fun t16_43 =>
        Pu (faV 2 t16_43) fun t17_44 =>
        Ld w_41 t17_44 fun t18_45 w_46 =>
        Pu (binV (TypeDesc.int IntKind.i64) .sub t18_45 (Value.int IntKind.i64 1)) fun t19_47 =>
        Pu (nilV d0) fun t20_48 =>
        Pu (faV 2 t20_48) fun t21_49 =>
        St 1 w_46 t21_49 t19_47 fun u_50 w_51 =>
        Pu (nilV d0) fun t24_52 =>
        Pu (faV 2 t24_52) fun t25_53 =>
        Ld w_51 t25_53 fun t26_54 w_55 =>
        Pu (binV (TypeDesc.int IntKind.i64) .eql t26_54 (Value.int IntKind.i64 0)) fun t27_56 =>
        Pu (nilV d0) fun t28_57 =>
        Pu (faV 3 t28_57) fun t29_58 =>
        St 1 w_55 t29_58 t27_56 fun u_59 w_60 =>
        jj_10 [] w_60)
      (jj_10 [] w_41))
theorem e111 (k : KV) (d0 : Value) (w : World) : K KD Tryz.prog 34 (fun j =>  []) (fun j => bif Nat.beq j 5 then some [] else none) (Tryz.f111.body.getD .skip) (retQ Tryz.prog Tryz.f111 k) (argF [d0]) w = T111 k d0 w := by kernel_rfl
theorem c111 {k : KV} {d0 : Value} {w : World} (h : T111 k d0 w) : Cl Tryz.prog 111 [d0] w k :=
  Cl_of_K KD_sound mixed Tryz.func111 (by kernel_rfl) (by kernel_rfl) ((e111 k d0 w).symm ▸ h)

/-- Function 114: (*almonry/disk.Disk).has. -/
def T114 (k : KV) (d0 : Value) (atv1 : Value) (n2 : Value) (w : World) : Prop :=
  Pu (binV (TypeDesc.int IntKind.i64) .geq atv1 (Value.int IntKind.i64 0)) fun t8_1 =>
  Gd (isB true t8_1) (fun kk => kk n2 w) w fun t10_2 w_3 =>
  Gd (isB true t8_1) (fun kk => Pu (binV (TypeDesc.int IntKind.i64) .geq t10_2 (Value.int IntKind.i64 0)) fun vv => kk vv w_3) w_3 fun t11_4 w_5 =>
  Pu (pickV t8_1 t11_4 (Value.bool false)) fun t12_6 =>
  Gd (isB true t12_6) (fun kk => kk atv1 w_5) w_5 fun t14_7 w_8 =>
  Gd (isB true t12_6) (fun kk => kk d0 w_8) w_8 fun t15_9 w_10 =>
  Gd (isB true t12_6) (fun kk => Cl Tryz.prog 108 [t15_9] w_10 kk) w_10 fun t16_11 w_12 =>
  Gd (isB true t12_6) (fun kk => Pu (binV (TypeDesc.int IntKind.i64) .leq t14_7 t16_11) fun vv => kk vv w_12) w_12 fun t17_13 w_14 =>
  Pu (pickV t12_6 t17_13 (Value.bool false)) fun t18_15 =>
  Gd (isB true t18_15) (fun kk => kk n2 w_14) w_14 fun t20_16 w_17 =>
  Gd (isB true t18_15) (fun kk => kk d0 w_17) w_17 fun t21_18 w_19 =>
  Gd (isB true t18_15) (fun kk => Cl Tryz.prog 108 [t21_18] w_19 kk) w_19 fun t22_20 w_21 =>
  Gd (isB true t18_15) (fun kk => kk atv1 w_21) w_21 fun t23_22 w_23 =>
  Gd (isB true t18_15) (fun kk => Pu (binV (TypeDesc.int IntKind.i64) .sub t22_20 t23_22) fun vv => kk vv w_23) w_23 fun t24_24 w_25 =>
  Gd (isB true t18_15) (fun kk => Pu (binV (TypeDesc.int IntKind.i64) .leq t20_16 t24_24) fun vv => kk vv w_25) w_25 fun t25_26 w_27 =>
  Pu (pickV t18_15 t25_26 (Value.bool false)) fun t26_28 =>
  k t26_28 w_27
theorem e114 (k : KV) (d0 : Value) (atv1 : Value) (n2 : Value) (w : World) : K KD Tryz.prog 27 (fun j =>  []) (fun j =>  none) (Tryz.f114.body.getD .skip) (retQ Tryz.prog Tryz.f114 k) (argF [d0, atv1, n2]) w = T114 k d0 atv1 n2 w := by kernel_rfl
theorem c114 {k : KV} {d0 : Value} {atv1 : Value} {n2 : Value} {w : World} (h : T114 k d0 atv1 n2 w) : Cl Tryz.prog 114 [d0, atv1, n2] w k :=
  Cl_of_K KD_sound mixed Tryz.func114 (by kernel_rfl) (by kernel_rfl) ((e114 k d0 atv1 n2 w).symm ▸ h)

/-- Function 121: (*almonry/disk.Disk).sector. -/
def T121 (k : KV) (d0 : Value) (n1 : Value) (w : World) : Prop :=
  Pu (nilV d0) fun t6_1 =>
  Pu (faV 0 t6_1) fun t7_2 =>
  Ld w t7_2 fun t8_3 w_4 =>
  Pu (binV (TypeDesc.int IntKind.i64) .mul n1 (Value.int IntKind.i64 64)) fun t10_5 =>
  Pu (binV (TypeDesc.int IntKind.i64) .add n1 (Value.int IntKind.i64 1)) fun t12_6 =>
  Pu (binV (TypeDesc.int IntKind.i64) .mul t12_6 (Value.int IntKind.i64 64)) fun t13_7 =>
  Pu (slV 1 t8_3 (some t10_5) (some t13_7) none) fun t14_8 =>
  k t14_8 w_4
theorem e121 (k : KV) (d0 : Value) (n1 : Value) (w : World) : K KD Tryz.prog 15 (fun j =>  []) (fun j =>  none) (Tryz.f121.body.getD .skip) (retQ Tryz.prog Tryz.f121 k) (argF [d0, n1]) w = T121 k d0 n1 w := by kernel_rfl
theorem c121 {k : KV} {d0 : Value} {n1 : Value} {w : World} (h : T121 k d0 n1 w) : Cl Tryz.prog 121 [d0, n1] w k :=
  Cl_of_K KD_sound mixed Tryz.func121 (by kernel_rfl) (by kernel_rfl) ((e121 k d0 n1 w).symm ▸ h)

end Go.Proofs.YthbngnlmgplijaaGreatDoor

namespace Go.Proofs.YthbngnlmgplijaaGreatDoor
open Go.Al Go.Proofs
set_option linter.unusedVariables false
set_option linter.unusedSimpArgs false
set_option linter.unusedSectionVars false

theorem B44 : ByteT Tryz.prog 123 5 9 := byteT_of Tryz.underlying123 Tryz.underlying5 Tryz.underlying9 (by kernel_rfl)
theorem K118 : KeyT Tryz.prog 124 3 9 iv := keyT_int Tryz.underlying124 Tryz.underlying3
theorem z9 (w : World) : (zeroValue 9).run Tryz.prog w = .ok (stv []) w := by kernel_rfl
theorem bld120 (g n c m : Nat) (w : World) : (Instr.build 126 #[(0, .slice (some ⟨g, 0, none⟩) n c), (1, .map (some m))]).run Tryz.prog w = .ok (.agg #[.slice (some ⟨g, 0, none⟩) n c, .map (some m), iv 0, .bool false, iv 0]) w := by kernel_rfl

/-- A disk of the program: the struct in block b, its bytes in block g, its old sectors in block m. -/
structure DAt (w : World) (b g m : Nat) (d : Dk) : Prop where
  wf : d.Wf
  st : w.heap[b]? = some (.cells #[.slice (some ⟨g, 0, none⟩) (64 * d.cur.length) (64 * d.cur.length), .map (some m), iv d.armed, .bool d.gone, iv d.done] 126)
  by_ : BRow w g 5 d.cur.flatten
  mp : ∃ M : List (Int × Bs), MapAt w m iv stv M ∧ ∀ k x, (k, x) ∈ M ↔ ∃ i : Nat, k = (i : Int) ∧ Dk.isC d.chg i = true ∧ d.old[i]? = some x
theorem DAt.bg {w : World} {b g m : Nat} {d : Dk} (h : DAt w b g m d) : b ≠ g := by
  rintro rfl
  have := h.st; rw [h.by_] at this; simp at this
theorem DAt.bm {w : World} {b g m : Nat} {d : Dk} (h : DAt w b g m d) : b ≠ m := by
  rintro rfl
  obtain ⟨M, hM, _⟩ := h.mp
  obtain ⟨es, c, hb, _⟩ := hM.ex
  rw [h.st] at hb; cases hb
theorem DAt.gm {w : World} {b g m : Nat} {d : Dk} (h : DAt w b g m d) : g ≠ m := by
  rintro rfl
  obtain ⟨M, hM, _⟩ := h.mp
  obtain ⟨es, c, hb, _⟩ := hM.ex
  have := h.by_
  unfold BRow at this
  rw [this] at hb; cases hb
theorem DAt.keep {S : Nat → Prop} {w w' : World} {b g m : Nat} {d : Dk} (h : DAt w b g m d) (hf : Fm S w w') (h1 : ¬ S b) (h2 : ¬ S g) (h3 : ¬ S m) : DAt w' b g m d := by
  obtain ⟨M, hM, hi⟩ := h.mp
  exact ⟨h.wf, hf.heap h.st h1, h.by_.keep hf h2, M, hM.keep hf h3, hi⟩
theorem DAt.keep0 {w w' : World} {b g m : Nat} {d : Dk} (h : DAt w b g m d) (hf : Fm (fun _ => False) w w') : DAt w' b g m d := h.keep hf (fun e => e) (fun e => e) (fun e => e)
theorem DAt.drew {w : World} {b g m : Nat} {d : Dk} (h : DAt w b g m d) : DAt w.drew b g m d := h.keep0 (Fm.drew _ w)
theorem DAt.lt {w : World} {b g m : Nat} {d : Dk} (h : DAt w b g m d) : b < w.heap.size ∧ g < w.heap.size ∧ m < w.heap.size := by
  obtain ⟨M, hM, _⟩ := h.mp
  exact ⟨lt_of_heap h.st, h.by_.lt, hM.lt⟩
theorem DAt.c0 {w : World} {b g m : Nat} {d : Dk} (h : DAt w b g m d) : w.cell? ⟨b, 0, none⟩ = some (.slice (some ⟨g, 0, none⟩) (64 * d.cur.length) (64 * d.cur.length)) := by rw [cell_at h.st]; rfl
theorem DAt.c1 {w : World} {b g m : Nat} {d : Dk} (h : DAt w b g m d) : w.cell? ⟨b, 1, none⟩ = some (.map (some m)) := by rw [cell_at h.st]; rfl
theorem DAt.c3 {w : World} {b g m : Nat} {d : Dk} (h : DAt w b g m d) : w.cell? ⟨b, 3, none⟩ = some (.bool d.gone) := by rw [cell_at h.st]; rfl
theorem DAt.c4 {w : World} {b g m : Nat} {d : Dk} (h : DAt w b g m d) : w.cell? ⟨b, 4, none⟩ = some (iv d.done) := by rw [cell_at h.st]; rfl

theorem dnew_spec (w : World) (n : Int) : Cl Tryz.prog 17 [iv n] w fun v w' =>
    (n < 1 ∨ 65536 < n → v = .tuple #[.pointer none, iv 1] ∧ w' = w) ∧
    (¬ (n < 1 ∨ 65536 < n) → ∃ b g m, v = .tuple #[pv b, iv 0] ∧ w.heap.size ≤ b ∧ w.heap.size ≤ g ∧ w.heap.size ≤ m ∧ DAt w' b g m (Dk.mk0 n.toNat) ∧ Fm (fun _ => False) w w') := by
  refine c17 ?_; unfold T17
  have ok : ¬ (n < 1 ∨ 65536 < n) → Pu (binV (TypeDesc.int IntKind.i64) .mul (iv n) (Value.int IntKind.i64 64)) fun t11_7 =>
      RunS Tryz.prog (Instr.makeSlice 123 t11_7 t11_7) w fun t12_8 w_9 =>
      RunS Tryz.prog (Instr.makeMap 124 none) w_9 fun t13_10 w_11 =>
      RunS Tryz.prog (Instr.build 126 #[(0, t12_8), (1, t13_10)]) w_11 fun t14_12 w_13 =>
      New (Value.cells t14_12) 126 w_13 fun t15_14 w_15 =>
      ∃ b g m, Value.tuple #[t15_14, (Value.int IntKind.i64 0)] = .tuple #[pv b, iv 0] ∧ w.heap.size ≤ b ∧ w.heap.size ≤ g ∧ w.heap.size ≤ m ∧ DAt w_15 b g m (Dk.mk0 n.toNat) ∧ Fm (fun _ => False) w w_15 := by
    intro hn
    obtain ⟨k, rfl⟩ := Int.eq_ofNat_of_zero_le (show 0 ≤ n by omega)
    have hk : 1 ≤ k ∧ k ≤ 65536 := by omega
    have e1 : IntKind.i64.wrap ((k : Int) * 64) = ((64 * k : Nat) : Int) := by rw [wrap_id] <;> omega
    simp only [RS0, RS1, RS2, RS3, RS4, RS5, e1]
    refine RunS_ok (BRow.make B44 w (64 * k) (by omega)) (RunS_ok (makeMap_run _ _) (RunS_ok (bld120 _ _ _ _ _) (New_any ?_)))
    intro b w' hb hs hw hf
    have hs1 := alloc_size w (.cells (bc (List.replicate (64 * k) 0)).toArray 5)
    generalize hw1 : w.alloc (.cells (bc (List.replicate (64 * k) 0)).toArray 5) = w1 at hs1 hb hs hf hw
    have hg : BRow w1 w.heap.size 5 (List.replicate (64 * k) 0) := by rw [← hw1]; exact alloc_new _ _
    have hf1 : Fm (fun _ => False) w w1 := by rw [← hw1]; exact Fm.alloc _ _ _
    have hM := (MapAt.empty w1 iv stv).keep hf (fun e => e)
    have hf2 := (Fm.alloc (fun _ => False) w1 (.map #[] 0))
    rw [alloc_size] at hb
    have hfl : List.replicate (64 * k) 0 = (Dk.mk0 k).cur.flatten := by
      show _ = (List.replicate k Dk.zsec).flatten
      rw [Dk.zsec, List.flatten_replicate_replicate, Nat.mul_comm]
    have hlen : (Dk.mk0 k).cur.length = k := by simp [Dk.mk0]
    refine ⟨b, w.heap.size, w1.heap.size, rfl, by omega, by omega, by omega, ⟨Dk.wf_mk0 hk.2, ?_, ?_, [], hM, ?_⟩, ?_⟩
    · rw [Int.toNat_natCast, hlen]; exact hw
    · rw [Int.toNat_natCast, ← hfl]; exact (hg.keep hf2 (fun e => e)).keep hf (fun e => e)
    · intro a x
      constructor
      · intro h; cases h
      · rintro ⟨i, _, hc, _⟩
        have := Dk.isC_rep k i
        rw [show (Dk.mk0 (k : Int).toNat).chg = List.replicate k false from rfl] at hc
        rw [this] at hc; cases hc
    · exact (hf1.trans hf2 (fun _ _ e => e) (fun _ _ e => e)).trans hf (fun _ _ e => e) (fun _ _ e => e)
  by_cases h1 : n < 1
  · have e1 : decide (n < 1) = true := by simpa using h1
    simp only [RS0, RS1, RS2, RS3, RS4, RS5, e1]
    exact ⟨fun _ => ⟨trivial, trivial⟩, fun h => absurd (.inl h1) h⟩
  · have e1 : decide (n < 1) = false := by simpa using h1
    by_cases h2 : 65536 < n
    · have e2 : decide (65536 < n) = true := by simpa using h2
      simp only [RS0, RS1, RS2, RS3, RS4, RS5, e1, e2]
      exact ⟨fun _ => ⟨trivial, trivial⟩, fun h => absurd (.inr h2) h⟩
    · have e2 : decide (65536 < n) = false := by simpa using h2
      have hno : ¬ (n < 1 ∨ 65536 < n) := by omega
      have := ok hno
      simp only [RS0, RS1, RS2, RS3, RS4, RS5, e1, e2]
      simp only [hno, false_imp_iff, true_and, not_false_eq_true, true_imp_iff]
      simp only [RS0, RS1, RS2, RS3, RS4, RS5] at this
      exact this

theorem dsize_spec {w : World} {b g m : Nat} {d : Dk} (h : DAt w b g m d) : Cl Tryz.prog 108 [pv b] w fun v w' => v = iv d.cur.length ∧ w' = w := by
  have hn := h.wf.n1
  refine c108 ?_; unfold T108
  have e := quo_nat (TypeDesc.int IntKind.i64) (n := 64 * d.cur.length) (m := 64) (b := 64) (by omega) (by omega) rfl
  simp only [RS0, RS1, RS2, RS3, RS4, RS5, h.c0, e]
  rw [Nat.mul_div_cancel_left _ (by omega)]
  exact ⟨(by trivial), (by trivial)⟩
theorem dalive_spec {w : World} {b g m : Nat} {d : Dk} (h : DAt w b g m d) : Cl Tryz.prog 110 [pv b] w fun v w' => v = iv (bif d.gone then 5 else 0) ∧ w' = w := by
  refine c110 ?_; unfold T110
  simp only [RS0, RS1, RS2, RS3, RS4, RS5, h.c3]
  cases d.gone <;> simp only [RS0, RS1, RS2, RS3, RS4, RS5, cond_true, cond_false, and_self]
theorem dhas_spec {w : World} {b g m : Nat} {d : Dk} (h : DAt w b g m d) (a k : Int) : Cl Tryz.prog 114 [pv b, iv a, iv k] w fun v w' => v = .bool (d.has a k) ∧ w' = w := by
  have hn := h.wf.n1
  refine c114 ?_; unfold T114
  unfold Dk.has
  by_cases h1 : 0 ≤ a
  · have e1 : decide (0 ≤ a) = true := by simpa using h1
    by_cases h2 : 0 ≤ k
    · have e2 : decide (0 ≤ k) = true := by simpa using h2
      simp only [RS0, RS1, RS2, RS3, RS4, RS5, e1, e2]
      refine (dsize_spec h).mono ?_
      rintro _ w ⟨rfl, rfl⟩
      by_cases h3 : a ≤ d.cur.length
      · have e3 : decide (a ≤ (d.cur.length : Int)) = true := by simpa using h3
        simp only [RS0, RS1, RS2, RS3, RS4, RS5, e3]
        refine (dsize_spec h).mono ?_
        rintro _ w ⟨rfl, rfl⟩
        have e4 : IntKind.i64.wrap ((d.cur.length : Int) - a) = d.cur.length - a := wrap_id (by omega)
        simp only [RS0, RS1, RS2, RS3, RS4, RS5, e4]
        refine ⟨?_, (by trivial)⟩
        congr 1
        simp [h1, h2, h3]
      · have e3 : decide (a ≤ (d.cur.length : Int)) = false := by simpa using h3
        simp only [RS0, RS1, RS2, RS3, RS4, RS5, e3]
        refine ⟨?_, (by trivial)⟩
        congr 1
        symm
        rw [decide_eq_false_iff_not]; omega
    · have e2 : decide (0 ≤ k) = false := by simpa using h2
      simp only [RS0, RS1, RS2, RS3, RS4, RS5, e1, e2]
      refine ⟨?_, (by trivial)⟩
      congr 1
      symm
      rw [decide_eq_false_iff_not]; omega
  · have e1 : decide (0 ≤ a) = false := by simpa using h1
    simp only [RS0, RS1, RS2, RS3, RS4, RS5, e1]
    refine ⟨?_, (by trivial)⟩
    congr 1
    symm
    rw [decide_eq_false_iff_not]; omega
theorem dsector_spec {w : World} {b g m : Nat} {d : Dk} (h : DAt w b g m d) {i : Nat} (hi : i < d.cur.length) : Cl Tryz.prog 121 [pv b, iv i] w fun v w' => v = .slice (some ⟨g, 64 * i, none⟩) 64 (64 * d.cur.length - 64 * i) ∧ w' = w := by
  have hn := h.wf.n1
  refine c121 ?_; unfold T121
  have e1 : IntKind.i64.wrap ((i : Int) * 64) = ((64 * i : Nat) : Int) := by rw [wrap_id] <;> omega
  have e2 : IntKind.i64.wrap ((i : Int) + 1) = ((i + 1 : Nat) : Int) := by rw [wrap_id] <;> omega
  have e3 : IntKind.i64.wrap (((i + 1 : Nat) : Int) * 64) = ((64 * (i + 1) : Nat) : Int) := by rw [wrap_id] <;> omega
  obtain ⟨o', hs, ho, _⟩ := slV_lh (g := g) (o := 0) (n := 64 * d.cur.length) (c := 64 * d.cur.length) (i := 64 * i) (j := 64 * (i + 1)) (by omega) (by omega) .i64 .i64
  simp only [RS0, RS1, RS2, RS3, RS4, RS5, h.c0, e1, e2, e3, hs]
  rw [ho (by omega), show 64 * (i + 1) - 64 * i = 64 by omega, Nat.zero_add]
  exact ⟨(by trivial), (by trivial)⟩

/-- A store into the struct. -/
theorem DAt.tick {w w' : World} {b g m : Nat} {d d' : Dk} (h : DAt w b g m d) (hc : d'.cur = d.cur ∧ d'.old = d.old ∧ d'.chg = d.chg) (hwf : d'.Wf)
    (hb : w'.heap[b]? = some (.cells #[.slice (some ⟨g, 0, none⟩) (64 * d.cur.length) (64 * d.cur.length), .map (some m), iv d'.armed, .bool d'.gone, iv d'.done] 126)) (hf : Fm (· = b) w w') : DAt w' b g m d' := by
  obtain ⟨M, hM, hi⟩ := h.mp
  have h1 := h.bg; have h2 := h.bm
  obtain ⟨hc1, hc2, hc3⟩ := hc
  exact ⟨hwf, by rw [hc1]; exact hb, by rw [hc1]; exact h.by_.keep hf (fun e => h1 e.symm), M, hM.keep hf (fun e => h2 e.symm), by rw [hc2, hc3]; exact hi⟩

theorem dact_spec {w : World} {b g m : Nat} {d : Dk} (h : DAt w b g m d) : Cl Tryz.prog 111 [pv b] w fun v w' => v = .bool d.tick.gone ∧ DAt w' b g m d.tick ∧ Fm (· = b) w w' := by
  have har := h.wf.ar
  refine c111 ?_; unfold T111
  simp only [RS0, RS1, RS2, RS3, RS4, RS5, h.c4]
  refine St_blk h.st (by simp) rfl ?_
  intro w1 hw1 hs1 hf1
  replace hw1 : w1.heap[b]? = some (.cells #[.slice (some ⟨g, 0, none⟩) (64 * d.cur.length) (64 * d.cur.length), .map (some m), iv d.armed, .bool d.gone, iv (IntKind.i64.wrap (d.done + 1))] 126) := hw1
  have c2 : w1.cell? ⟨b, 2, none⟩ = some (iv d.armed) := by rw [cell_at hw1]; rfl
  refine Jn_at (fun vs w2 => vs = [] ∧ DAt w2 b g m d.tick ∧ Fm (· = b) w w2) ?_ ?_
  · rintro _ w2 ⟨rfl, hD, hf⟩ _
    refine ⟨rfl, ?_⟩
    simp only [RS0, RS1, RS2, RS3, RS4, RS5, hD.c3]
    exact ⟨trivial, hD, hf⟩
  · intro kk hkk
    simp only [RS0, RS1, RS2, RS3, RS4, RS5, c2]
    by_cases ha : 0 < d.armed
    · have e1 : decide (0 < d.armed) = true := by simpa using ha
      have e2 : IntKind.i64.wrap (d.armed - 1) = d.armed - 1 := wrap_id (by omega)
      simp only [RS0, RS1, RS2, RS3, RS4, RS5, e1, c2, e2]
      refine St_blk hw1 (by simp) rfl ?_
      intro w2 hw2 hs2 hf2
      replace hw2 : w2.heap[b]? = some (.cells #[.slice (some ⟨g, 0, none⟩) (64 * d.cur.length) (64 * d.cur.length), .map (some m), iv (d.armed - 1), .bool d.gone, iv (IntKind.i64.wrap (d.done + 1))] 126) := hw2
      have c2' : w2.cell? ⟨b, 2, none⟩ = some (iv (d.armed - 1)) := by rw [cell_at hw2]; rfl
      simp only [RS0, RS1, RS2, RS3, RS4, RS5, c2']
      refine St_blk hw2 (by simp) rfl ?_
      intro w3 hw3 hs3 hf3
      have hF : Fm (· = b) w w3 := (hf1.trans hf2 (fun _ _ e => e) (fun _ _ e => e)).trans hf3 (fun _ _ e => e) (fun _ _ e => e)
      refine hkk _ _ ⟨rfl, h.tick (Dk.tick_cur d) h.wf.tick ?_ hF, hF⟩
      unfold Dk.tick
      rw [if_pos ha]
      rw [beq_dec] at hw3
      exact hw3
    · have e1 : decide (0 < d.armed) = false := by simpa using ha
      simp only [RS0, RS1, RS2, RS3, RS4, RS5, e1]
      refine hkk _ _ ⟨rfl, h.tick (Dk.tick_cur d) h.wf.tick ?_ hf1, hf1⟩
      unfold Dk.tick
      rw [if_neg ha]
      exact hw1

theorem dread_spec {w : World} {b g m : Nat} {d : Dk} (h : DAt w b g m d) (a k : Int) : Cl Tryz.prog 40 [pv b, iv a, iv k] w fun v w' => v = .tuple #[stv (d.read a k).1, iv (d.read a k).2] ∧ w' = w := by
  have hn := h.wf.n1
  refine c40 ?_; unfold T40
  refine (dalive_spec h).mono ?_
  rintro _ w ⟨rfl, rfl⟩
  unfold Dk.read
  cases hg : d.gone with
  | true =>
    simp only [RS0, RS1, RS2, RS3, RS4, RS5, cond_true, bne_dec]
    exact ⟨(by trivial), (by trivial)⟩
  | false =>
    simp only [RS0, RS1, RS2, RS3, RS4, RS5, cond_false, bne_self_eq_false]
    refine (dhas_spec h a k).mono ?_
    rintro _ w ⟨rfl, rfl⟩
    cases hh : d.has a k with
    | false =>
      simp only [RS0, RS1, RS2, RS3, RS4, RS5, cond_true]
      exact ⟨(by trivial), (by trivial)⟩
    | true =>
      unfold Dk.has at hh
      simp only [decide_eq_true_eq] at hh
      obtain ⟨i, rfl⟩ := Int.eq_ofNat_of_zero_le hh.1
      obtain ⟨j, rfl⟩ := Int.eq_ofNat_of_zero_le hh.2.1
      have hij : i + j ≤ d.cur.length := by omega
      have e1 : IntKind.i64.wrap ((i : Int) * 64) = ((64 * i : Nat) : Int) := by rw [wrap_id] <;> omega
      have e2 : IntKind.i64.wrap ((i : Int) + j) = ((i + j : Nat) : Int) := by rw [wrap_id] <;> omega
      have e3 : IntKind.i64.wrap (((i + j : Nat) : Int) * 64) = ((64 * (i + j) : Nat) : Int) := by rw [wrap_id] <;> omega
      obtain ⟨o', hs, ho, hle, _⟩ := slV_lh (g := g) (o := 0) (n := 64 * d.cur.length) (c := 64 * d.cur.length) (i := 64 * i) (j := 64 * (i + j)) (by omega) (by omega) .i64 .i64
      simp only [RS0, RS1, RS2, RS3, RS4, RS5, h.c0, e1, e2, e3, hs, cond_false]
      have hfl := Dk.flat_len h.wf.s1
      have ee : 64 * (i + j) - 64 * i = 64 * j := by omega
      rw [ee]
      refine RunS_ok (h.by_.conv B44 (o := o') (n := 64 * j) (by rw [hfl]; omega) _) ⟨?_, (by trivial)⟩
      congr 3
      have hd : (d.cur.flatten.drop o').take (64 * j) = ((d.cur.drop i).take j).flatten := by
        by_cases hi : 64 * i < 64 * d.cur.length
        · rw [ho hi, Nat.zero_add, Dk.flat_drop h.wf.s1, Dk.flat_take (fun x hx => h.wf.s1 x (List.mem_of_mem_drop hx))]
        · have hj0 : j = 0 := by omega
          subst hj0; simp
      rw [hd]; rfl
end Go.Proofs.YthbngnlmgplijaaGreatDoor

namespace Go.Proofs.YthbngnlmgplijaaGreatDoor
open Go.Al Go.Proofs
open Go.ChangeMaps (setBlock)
set_option linter.unusedVariables false
set_option linter.unusedSimpArgs false
set_option linter.unusedSectionVars false

theorem clear_map {P : Program} {t kt et : TypeId} (ht : P.underlying t = some (.map kt et)) {α β : Type} [DecidableEq α] {kv : α → Value} {vv : β → Value} {w : World} {m : Nat} {M : List (α × β)} (h : MapAt w m kv vv M) (ty : TypeId) :
    ∃ w', (Builtin.clear_ #[t] ty #[.map (some m)]).run P w = .ok (.tuple #[]) w' ∧ MapAt w' m kv vv ([] : List (α × β)) ∧ Fm (· = m) w w' ∧ w'.heap.size = w.heap.size := by
  obtain ⟨es, c, hb, he, hn, hlt⟩ := h.ex
  refine ⟨setBlock w m (.map #[] c), ?_, ⟨⟨#[], c, setBlock_at hb, rfl, by simp, by simp⟩, by simp⟩, Fm.setBlock _ _ _ rfl, setBlock_size _ _ _⟩
  unfold Builtin.clear_
  simp only [List.getElem?_toArray, List.getElem?_cons_zero, Sem.run_bind, run_underlying ht, Result.andThen_ok, Go.Al.run_getObj_map hb, Go.Al.run_setObj_map hb, Sem.run_pure]

theorem dsync_spec {w : World} {b g m : Nat} {d : Dk} (h : DAt w b g m d) : Cl Tryz.prog 38 [pv b] w fun v w' => v = iv d.sync.2 ∧ DAt w' b g m d.sync.1 ∧ Fm (fun x => x = b ∨ x = g ∨ x = m) w w' := by
  have hwf := h.wf.sync
  refine c38 ?_; unfold T38
  refine (dalive_spec h).mono ?_
  rintro _ w ⟨rfl, rfl⟩
  unfold Dk.sync at hwf ⊢
  cases hg : d.gone with
  | true =>
    simp only [RS0, RS1, RS2, RS3, RS4, RS5, cond_true, bne_dec]
    exact ⟨(by trivial), h, Fm.refl _ _⟩
  | false =>
    rw [hg] at hwf
    simp only [RS0, RS1, RS2, RS3, RS4, RS5, cond_false, bne_self_eq_false]
    refine (dact_spec h).mono ?_
    rintro _ w1 ⟨rfl, h1, hf1⟩
    simp only [cond_false] at hwf
    cases hg1 : d.tick.gone with
    | true =>
      simp only [RS0, RS1, RS2, RS3, RS4, RS5, cond_true]
      exact ⟨(by trivial), h1, hf1.mono fun _ _ e => .inl e⟩
    | false =>
      rw [hg1] at hwf
      simp only [RS0, RS1, RS2, RS3, RS4, RS5, cond_false, h1.c1]
      obtain ⟨M, hM, _⟩ := h1.mp
      obtain ⟨w2, hr, hM2, hf2, _⟩ := clear_map Tryz.underlying124 hM 0
      refine RunS_ok hr ?_
      refine ⟨(by trivial), ⟨hwf, ?_, ?_, [], hM2, ?_⟩, hf1.trans hf2 (fun _ _ e => .inl e) (fun _ _ e => .inr (.inr e))⟩
      · have := hf2.heap h1.st h1.bm; rw [hg1] at this; exact this
      · exact h1.by_.keep hf2 h1.gm
      · intro k x
        constructor
        · intro e; cases e
        · rintro ⟨i, _, hc, _⟩
          simp only [Dk.isC_rep] at hc; cases hc
/-- The map behind a sector's first write. -/
theorem DAt.noted {w : World} {b g m : Nat} {d : Dk} (h : DAt w b g m d) {i : Nat} (hi : i < d.cur.length) {M' : List (Int × Bs)} {w' : World}
    (hM : ∃ M : List (Int × Bs), MapAt w m iv stv M ∧ (∀ k x, (k, x) ∈ M ↔ ∃ i : Nat, k = (i : Int) ∧ Dk.isC d.chg i = true ∧ d.old[i]? = some x) ∧
      (Dk.isC d.chg i = false → M' = setD M (i : Int) (d.cur.getD i [])) ∧ (Dk.isC d.chg i = true → M' = M)) (hM' : MapAt w' m iv stv M') :
    ∀ k x, (k, x) ∈ M' ↔ ∃ j : Nat, k = (j : Int) ∧ Dk.isC (d.chg.set i true) j = true ∧ d.old[j]? = some x := by
  obtain ⟨M, hMw, hmem, hno, hyes⟩ := hM
  have hil : i < d.chg.length := by rw [h.wf.lc]; exact hi
  intro k x
  cases hc : Dk.isC d.chg i with
  | true =>
    rw [hyes hc, hmem]
    constructor
    · rintro ⟨j, rfl, hj, hx⟩
      exact ⟨j, rfl, by rw [Dk.isC_set _ _ _ hil]; split <;> first | rfl | exact hj, hx⟩
    · rintro ⟨j, rfl, hj, hx⟩
      refine ⟨j, rfl, ?_, hx⟩
      rw [Dk.isC_set _ _ _ hil] at hj
      split at hj
      · rename_i e; subst e; exact hc
      · exact hj
  | false =>
    have hs := hno hc
    subst hs
    have hold : d.old[i]? = some (d.cur.getD i []) := by
      rw [h.wf.same i hc, List.getD_eq_getElem?_getD, List.getElem?_eq_getElem hi]; rfl
    rw [← getD_some hM'.keys, getD_setD]
    split
    · rename_i e
      subst e
      constructor
      · intro e; cases e
        exact ⟨i, rfl, by rw [Dk.isC_set _ _ _ hil, if_pos rfl], hold⟩
      · rintro ⟨j, hj, _, hx⟩
        have : i = j := by omega
        subst this
        rw [hold] at hx; exact hx
    · rename_i hne
      rw [getD_some hMw.keys, hmem]
      constructor
      · rintro ⟨j, rfl, hj, hx⟩
        exact ⟨j, rfl, by rw [Dk.isC_set _ _ _ hil]; split <;> first | rfl | exact hj, hx⟩
      · rintro ⟨j, rfl, hj, hx⟩
        refine ⟨j, rfl, ?_, hx⟩
        rw [Dk.isC_set _ _ _ hil, if_neg (fun e => hne (by rw [e]))] at hj
        exact hj

theorem dwrite_spec {w : World} {b g m : Nat} {d : Dk} (h : DAt w b g m d) (a : Int) (s : Bs) (hs : s.length ≤ 9223372036854775807) : Cl Tryz.prog 94 [pv b, iv a, stv s] w fun v w' => v = iv (d.write a s).2 ∧ DAt w' b g m (d.write a s).1 ∧ Fm (fun x => x = b ∨ x = g ∨ x = m) w w' := by
  have hn := h.wf.n1
  refine c94 ?_; unfold T94
  refine (dalive_spec h).mono ?_
  rintro _ w ⟨rfl, rfl⟩
  unfold Dk.write
  cases hg : d.gone with
  | true =>
    simp only [RS0, RS1, RS2, RS3, RS4, RS5, cond_true, bne_dec]
    exact ⟨(by trivial), h, Fm.refl _ _⟩
  | false =>
    have er := rem_nat (TypeDesc.int IntKind.i64) (n := s.length) (m := 64) (b := 64) (by omega) hs rfl
    have eq := quo_nat (TypeDesc.int IntKind.i64) (n := s.length) (m := 64) (b := 64) (by omega) hs rfl
    simp only [RS0, RS1, RS2, RS3, RS4, RS5, str_size, str_nil, str_inj, cond_false, bne_self_eq_false, er]
    by_cases hr : s.length % 64 = 0
    · have e1 : (((s.length % 64 : Nat) : Int) != 0) = false := by rw [hr]; rfl
      have e1' : decide (s.length % 64 ≠ 0) = false := by simp [hr]
      simp only [RS0, RS1, RS2, RS3, RS4, RS5, str_size, str_nil, str_inj, e1, e1', eq, Bool.false_or]
      refine (dhas_spec h a _).mono ?_
      rintro _ w ⟨rfl, rfl⟩
      cases hh : d.has a (s.length / 64 : Nat) with
      | false =>
        simp only [RS0, RS1, RS2, RS3, RS4, RS5, cond_true]
        exact ⟨(by trivial), h, Fm.refl _ _⟩
      | true =>
        simp only [RS0, RS1, RS2, RS3, RS4, RS5, cond_false]
        unfold Dk.has at hh
        simp only [decide_eq_true_eq] at hh
        obtain ⟨p, rfl⟩ := Int.eq_ofNat_of_zero_le hh.1
        rw [Int.toNat_natCast]
        have hlen : s.length = 64 * (s.length / 64) := by omega
        generalize hK : s.length / 64 = K at hh hlen ⊢
        refine ⟨fun vs w2 => ∃ (i r : Nat) (t : Bs) (e : Dk), vs = [iv (i : Nat), stv t] ∧ t.length = 64 * r ∧ i + r ≤ d.cur.length ∧ e.cur.length = d.cur.length ∧ d.wr p (Dk.chunks K s) = e.wr i (Dk.chunks r t) ∧ DAt w2 b g m e ∧ Fm (fun x => x = b ∨ x = g ∨ x = m) w w2,
          fun vs _ => sz1 vs, ⟨p, K, s, d, rfl, hlen, by omega, rfl, rfl, h, Fm.refl _ _⟩, ?_⟩
        rintro _ w2 iat idata ⟨i, r, t, e, hvs, htl, hir, hel, heq, hE, hf⟩
        cases hvs
        cases r with
        | zero =>
          have : t = [] := List.eq_nil_of_length_eq_zero (by omega)
          subst this
          simp only [RS0, RS1, RS2, RS3, RS4, RS5, str_size, str_nil, str_inj, decide_true]
          rw [heq]
          exact ⟨(by trivial), hE, hf⟩
        | succ r =>
          have hne : t ≠ [] := by rintro rfl; simp at htl
          have hie : i < e.cur.length := by omega
          have e2 : decide (t = []) = false := by simpa using hne
          simp only [RS0, RS1, RS2, RS3, RS4, RS5, str_size, str_nil, str_inj, e2]
          have heq2 : d.wr p (Dk.chunks K s) = (let d' := (e.put i (t.take 64)).tick; bif d'.gone then (d', 5) else d'.wr (i + 1) (Dk.chunks r (t.drop 64))) := heq
          refine Jn_at (fun vs w3 => vs = [] ∧ (∃ M', MapAt w3 m iv stv M' ∧ ∀ k x, (k, x) ∈ M' ↔ ∃ j : Nat, k = (j : Int) ∧ Dk.isC (e.chg.set i true) j = true ∧ e.old[j]? = some x) ∧ Fm (· = m) w2 w3) ?_ ?_
          · rintro _ w3 ⟨rfl, ⟨M', hM', hmem'⟩, hf3⟩ _
            refine ⟨rfl, ?_⟩
            have et : slS (stv t) none (some (.int .i64 64)) = some (stv (t.take 64)) := slS_hi (l := t) (i := 64) (by omega) .i64
            have et2 : slS (stv t) (some (.int .i64 64)) none = some (stv (t.drop 64)) := slS_lo (l := t) (i := 64) (by omega) .i64
            simp only [RS0, RS1, RS2, RS3, RS4, RS5, et, et2]
            have hst3 := hf3.heap hE.st hE.bm
            have hby3 := hE.by_.keep hf3 hE.gm
            have hne3 : DAt w3.drew b g m { e with chg := List.replicate e.cur.length false, old := e.cur } ∨ True := .inr trivial
            -- the sector's slice
            refine Cl.mono (k := fun v w' => v = .slice (some ⟨g, 64 * i, none⟩) 64 (64 * e.cur.length - 64 * i) ∧ w' = w3.drew) ?_ ?_
            · refine c121 ?_; unfold T121
              have g1 : IntKind.i64.wrap ((i : Int) * 64) = ((64 * i : Nat) : Int) := by rw [wrap_id] <;> omega
              have g2 : IntKind.i64.wrap ((i : Int) + 1) = ((i + 1 : Nat) : Int) := by rw [wrap_id] <;> omega
              have g3 : IntKind.i64.wrap (((i + 1 : Nat) : Int) * 64) = ((64 * (i + 1) : Nat) : Int) := by rw [wrap_id] <;> omega
              obtain ⟨o', hs, ho, _⟩ := slV_lh (g := g) (o := 0) (n := 64 * e.cur.length) (c := 64 * e.cur.length) (i := 64 * i) (j := 64 * (i + 1)) (by omega) (by omega) .i64 .i64
              have c0 : w3.cell? ⟨b, 0, none⟩ = some (.slice (some ⟨g, 0, none⟩) (64 * e.cur.length) (64 * e.cur.length)) := by rw [cell_at hst3]; rfl
              simp only [RS0, RS1, RS2, RS3, RS4, RS5, c0, g1, g2, g3, hs]
              rw [ho (by omega), show 64 * (i + 1) - 64 * i = 64 by omega, Nat.zero_add]
              exact ⟨(by trivial), (by trivial)⟩
            · rintro _ _ ⟨rfl, rfl⟩
              have hfl := Dk.flat_len hE.wf.s1
              have ht64 : (t.take 64).length = 64 := by rw [List.length_take]; omega
              have hfd := Fm.drew (fun _ => False) w3
              obtain ⟨w4, hr4, hby4, hs4, hf4⟩ := (hby3.keep hfd (fun e => e)).copyS B44 (o := 64 * i) (n := 64) (x := t.take 64) (by omega) (by rw [hfl]; omega) (64 * e.cur.length - 64 * i) 3
              refine RunS_ok hr4 ?_
              have hput : DAt w4 b g m (e.put i (t.take 64)) := by
                refine ⟨hE.wf.put i ht64, ?_, ?_, M', ?_, hmem'⟩
                · have := hf4.heap (hfd.heap hst3 (fun e => e)) hE.bg
                  simpa [Dk.put] using this
                · have := hby4
                  rw [ht64] at this
                  have l1 := Dk.flat_lay hE.wf.s1 hie (j := 0) (y := t.take 64) (by omega) (by omega)
                  simp only [Nat.add_zero, List.take_zero, List.nil_append] at l1
                  rw [l1] at this
                  exact this
                · exact (hM'.keep hfd (fun e => e)).keep hf4 (fun x => hE.gm x.symm)
              refine (dact_spec hput).mono ?_
              rintro _ w5 ⟨rfl, h5, hf5⟩
              have hF : Fm (fun x => x = b ∨ x = g ∨ x = m) w w5 :=
                (((hf.trans hf3 (U := fun x => x = b ∨ x = g ∨ x = m) (fun _ _ e => e) (fun _ _ e => .inr (.inr e))).trans hfd (U := fun x => x = b ∨ x = g ∨ x = m) (fun _ _ e => e) (fun _ _ e => e.elim)).trans hf4 (U := fun x => x = b ∨ x = g ∨ x = m) (fun _ _ e => e) (fun _ _ e => .inr (.inl e))).trans hf5 (fun _ _ e => e) (fun _ _ e => .inl e)
              rw [heq2]
              cases hg5 : (e.put i (t.take 64)).tick.gone with
              | true =>
                simp only [RS0, RS1, RS2, RS3, RS4, RS5, hg5, cond_true]
                exact ⟨(by trivial), h5, hF⟩
              | false =>
                have g4 : IntKind.i64.wrap ((i : Int) + 1) = ((i + 1 : Nat) : Int) := by rw [wrap_id] <;> omega
                simp only [RS0, RS1, RS2, RS3, RS4, RS5, cond_false, g4]
                have hl5 : (e.put i (t.take 64)).tick.cur.length = e.cur.length := by rw [(Dk.tick_cur _).1]; simp [Dk.put]
                refine ⟨⟨i + 1, r, t.drop 64, _, rfl, by rw [List.length_drop]; omega, by omega, by rw [hl5, hel], ?_, h5, hF⟩, ?_⟩
                · simp only [hg5, cond_false]
                · rw [sz1_eq, sz1_eq, List.length_drop]; omega
          · intro kk hkk
            obtain ⟨M, hM, hmem⟩ := hE.mp
            simp only [RS0, RS1, RS2, RS3, RS4, RS5, hE.c1]
            refine RunS_ok (lookup_run K118 hM (i : Int) true (z9 _)) ?_
            cases hc : Dk.isC e.chg i with
            | true =>
              have hlt : i < e.old.length := by rw [hE.wf.lo]; omega
              have hget : getD M (i : Int) = some e.old[i] := (getD_some hM.keys).2 ((hmem _ _).2 ⟨i, rfl, hc, List.getElem?_eq_getElem hlt⟩)
              simp only [hget, okV, cond_true]
              simp only [RS0, RS1, RS2, RS3, RS4, RS5]
              exact hkk _ _ ⟨rfl, ⟨M, hM, hE.noted hie ⟨M, hM, hmem, fun e => (by rw [hc] at e; cases e), fun _ => rfl⟩ hM⟩, Fm.refl _ _⟩
            | false =>
              have hget : getD M (i : Int) = none := by
                cases hq : getD M (i : Int) with
                | none => rfl
                | some x =>
                  obtain ⟨j, hj, hcj, _⟩ := (hmem _ _).1 ((getD_some hM.keys).1 hq)
                  have : i = j := by omega
                  subst this; rw [hc] at hcj; cases hcj
              simp only [hget, okV, cond_true]
              simp only [RS0, RS1, RS2, RS3, RS4, RS5]
              refine ⟨fun w' => w'.cell? ⟨b, 1, none⟩ = some (.map (some m)), hE.c1, ?_⟩
              refine ⟨.map (some m), fun w' hw' => by simp only [RS0, RS1, RS2, RS3, RS4, RS5, hw']; exact ⟨(by trivial), (by trivial)⟩, ?_⟩
              have hEd := hE.drew
              refine (dsector_spec hEd hie).mono ?_
              rintro _ _ ⟨rfl, rfl⟩
              refine ⟨hE.c1, ?_⟩
              have hfl := Dk.flat_len hE.wf.s1
              refine RunS_ok (hEd.by_.conv B44 (o := 64 * i) (n := 64) (by rw [hfl]; omega) _) ⟨rfl, ?_⟩
              rw [Dk.flat_sec hE.wf.s1 hie]
              obtain ⟨w4, hr4, hM4, hf4, _⟩ := update_run K118 (hM.keep (Fm.drew (fun _ => False) w2) (fun e => e)) (i : Int) (e.cur.getD i [])
              refine RunU_ok hr4 ?_
              have hf24 : Fm (· = m) w2 w4 := (Fm.drew (fun _ => False) w2).trans hf4 (fun _ _ e => e.elim) (fun _ _ e => e)
              exact hkk _ _ ⟨rfl, ⟨_, hM4, hE.noted hie ⟨M, hM, hmem, fun _ => rfl, fun e => (by rw [hc] at e; cases e)⟩ hM4⟩, hf24⟩
    · have e1 : (((s.length % 64 : Nat) : Int) != 0) = true := by
        rw [bne_dec]; simp; omega
      have e1' : decide (s.length % 64 ≠ 0) = true := by simp [hr]
      simp only [RS0, RS1, RS2, RS3, RS4, RS5, str_size, str_nil, str_inj, e1, e1', Bool.true_or, cond_true]
      exact ⟨(by trivial), h, Fm.refl _ _⟩
end Go.Proofs.YthbngnlmgplijaaGreatDoor
