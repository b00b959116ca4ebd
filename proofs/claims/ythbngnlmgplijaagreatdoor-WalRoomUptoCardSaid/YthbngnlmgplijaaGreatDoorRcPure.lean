/- Records as bytes, plainly. -/
import Derived.Test.YthbngnlmgplijaaGreatDoorRcBits
namespace Go.Proofs.YthbngnlmgplijaaGreatDoor
open Go.Al Go.Proofs
set_option linter.unusedVariables false
set_option linter.unusedSimpArgs false
set_option linter.unusedSectionVars false
set_option maxRecDepth 100000

structure Rc where
  lsn : Int
  prev : Int
  next : Int
  kind : Int
  xid : Int
  page : Int
  slot : Int
  old : Int
  new : Int
  redo : Int
  data : Bs
  slots : List Int
  more : List Int
  imgs : List (Int × Pg)
  pages : List (Int × Int)
  txns : List (Int × Int)
  deriving DecidableEq
/-! ### Laid -/
def numsB (l : List Int) : Bs := l.flatMap encI
def txtB (s : Bs) : Bs := encI s.length ++ s
def listB (l : List Int) : Bs := encI l.length ++ numsB l
def trimZ (s : Bs) : Bs := (s.reverse.dropWhile (· == 0)).reverse
def imgB (m : Int × Pg) : Bs := encI m.1 ++ txtB (trimZ (pEnc m.2).1)
def prB (p : Int × Int) : Bs := encI p.1 ++ encI p.2
def headL (r : Rc) : List Int := [r.lsn, r.prev, r.next, r.kind, r.xid, r.page, r.slot, r.old, r.new, r.redo]
def rBody (r : Rc) : Bs := numsB (headL r) ++ txtB r.data ++ listB r.slots ++ listB r.more ++ encI r.imgs.length ++ r.imgs.flatMap imgB ++ encI r.pages.length ++ r.pages.flatMap prB ++ encI r.txns.length ++ r.txns.flatMap prB
def prs (l : List (Int × Int)) : List Int := l.flatMap fun p => [p.1, p.2]
def rNums (r : Rc) : List Int := [r.lsn, r.prev, r.next, r.redo, r.xid, r.page, r.slot, r.old, r.new] ++ r.slots ++ r.more ++ r.imgs.map (·.1) ++ prs r.pages ++ prs r.txns
def badN (n : Int) : Bool := decide (n < 0) || decide (4611686018427387904 < n)
/-- The first page that cannot be laid. -/
def imgErr : List (Int × Pg) → Int
  | [] => 0
  | m :: l => bif decide (pErr m.2 = 0) then imgErr l else pErr m.2
def rInner (r : Rc) : Bs × Int := bif decide (imgErr r.imgs = 0) then (bif decide (65535 < (rBody r).length) then ([], 3) else (rBody r, 0)) else ([], imgErr r.imgs)
def longR (r : Rc) : Bool := decide (512 < r.data.length) || decide (255 < r.slots.length) || decide (255 < r.more.length) || decide (4 < r.imgs.length) || decide (8192 < r.pages.length) || decide (1024 < r.txns.length)
def rCheck (r : Rc) : Bs × Int :=
  bif decide (r.kind < 1) || decide (13 < r.kind) then ([], 41)
  else bif decide (r.lsn < 1) || (rNums r).any badN then ([], 4)
  else bif longR r then ([], 3) else rInner r
def rEnc (r : Rc) : Bs × Int := bif decide ((rCheck r).2 = 0) then (beN 4 (rCheck r).1.length ++ beN 4 (crc (rCheck r).1) ++ (rCheck r).1, 0) else ([], (rCheck r).2)

/-! ### Read -/
abbrev St2 := Bs × Int
def rn (most : Int) (st : St2) : Int × St2 := rdNum most st.1 st.2
def rt (most : Int) (st : St2) : Bs × St2 :=
  bif decide ((rn most st).2.2 = 0) then (bif decide (((rn most st).2.1.length : Int) < (rn most st).1) then ([], ([], 10)) else ((rn most st).2.1.take (rn most st).1.toNat, ((rn most st).2.1.drop (rn most st).1.toNat, 0))) else ([], (rn most st).2)
def rlGo : Nat → St2 → List Int × St2
  | 0, st => ([], st)
  | n + 1, st => bif decide ((rn 4611686018427387904 st).2.2 = 0) then ((rn 4611686018427387904 st).1 :: (rlGo n (rn 4611686018427387904 st).2).1, (rlGo n (rn 4611686018427387904 st).2).2) else ([(rn 4611686018427387904 st).1], (rn 4611686018427387904 st).2)
def rl (most : Int) (st : St2) : List Int × St2 := rlGo (rn most st).1.toNat (rn most st).2
def padZ (t : Bs) : Bs := t ++ zeros (512 - t.length)
def riGo : Nat → St2 → Option (List (Int × Pg) × St2)
  | 0, st => some ([], st)
  | n + 1, st => bif decide ((pDec (padZ (rt 512 (rn 4611686018427387904 st).2).1)).2 = 0) && decide ((rt 512 (rn 4611686018427387904 st).2).2.2 = 0) then (riGo n (rt 512 (rn 4611686018427387904 st).2).2).map fun r => (((rn 4611686018427387904 st).1, (pDec (padZ (rt 512 (rn 4611686018427387904 st).2).1)).1) :: r.1, r.2) else none
def rpGo : Nat → St2 → Option (List (Int × Int) × St2)
  | 0, st => some ([], st)
  | n + 1, st => bif decide (st.2 = 0) then (rpGo n (rn 4611686018427387904 (rn 4611686018427387904 st).2).2).map fun r => (((rn 4611686018427387904 st).1, (rn 4611686018427387904 (rn 4611686018427387904 st).2).1) :: r.1, r.2) else none
def ten (s : Bs) : List Int × St2 :=
  let a0 := rn 4611686018427387904 (s, 0)
  let a1 := rn 4611686018427387904 a0.2
  let a2 := rn 4611686018427387904 a1.2
  let a3 := rn 13 a2.2
  let a4 := rn 4611686018427387904 a3.2
  let a5 := rn 4611686018427387904 a4.2
  let a6 := rn 4611686018427387904 a5.2
  let a7 := rn 4611686018427387904 a6.2
  let a8 := rn 4611686018427387904 a7.2
  let a9 := rn 4611686018427387904 a8.2
  ([a0.1, a1.1, a2.1, a3.1, a4.1, a5.1, a6.1, a7.1, a8.1, a9.1], a9.2)
def gI (l : List Int) (i : Nat) : Int := l.getD i 0
def tailP (a : List Int) (st : St2) : Option Rc :=
  let t := rt 512 st
  let sl := rl 255 t.2
  let mo := rl 255 sl.2
  let ni := rn 4 mo.2
  (riGo ni.1.toNat ni.2).bind fun im =>
  (rpGo (rn 8192 im.2).1.toNat (rn 8192 im.2).2).bind fun pg =>
  (rpGo (rn 1024 pg.2).1.toNat (rn 1024 pg.2).2).bind fun tx =>
  bif decide (endE tx.2.1 tx.2.2 = 0) then some ⟨gI a 0, gI a 1, gI a 2, gI a 3, gI a 4, gI a 5, gI a 6, gI a 7, gI a 8, gI a 9, t.1, sl.1, mo.1, im.1, pg.1, tx.1⟩ else none
def outerP (s : Bs) : Option Rc := tailP (ten s).1 (ten s).2
/-- What bytes begin with: the record, how many bytes, what is wrong. -/
def rDec (d : Bs) : Option Rc × Nat × Int :=
  bif decide (d.length < 8) then (none, 0, 40)
  else bif decide (ofN (d.take 4) = 0) || decide (65535 < ofN (d.take 4)) then (none, 0, 41)
  else bif decide (d.length < 8 + ofN (d.take 4)) then (none, 0, 40)
  else bif !decide (ofN ((d.drop 4).take 4) = crc ((d.drop 8).take (ofN (d.take 4)))) then (none, 0, 30)
  else match outerP ((d.drop 8).take (ofN (d.take 4))) with
    | none => (none, 0, 41)
    | some x => bif decide ((rCheck x).2 = 0) && decide ((rCheck x).1 = (d.drop 8).take (ofN (d.take 4))) then (some x, 8 + ofN (d.take 4), 0) else (none, 0, 41)

/-! ### What is laid is read -/
def okN (n : Int) : Prop := 0 ≤ n ∧ n ≤ 4611686018427387904
theorem encI_nat (n : Nat) : encI n = encN n := by
  unfold encI; rw [show (max (n : Int) 0).toNat = n by omega]
theorem rn_enc {n most : Int} (h0 : 0 ≤ n) (h1 : n ≤ most) (hm : most ≤ 4611686018427387904) (t : Bs) : rn most (encI n ++ t, 0) = (n, (t, 0)) := by
  obtain ⟨k, rfl⟩ := Int.eq_ofNat_of_zero_le h0
  unfold rn rdNum
  rw [decide_eq_true rfl, cond_true, encI_nat]
  have := rdN_enc most 9 0 k 0 t (by omega) (by omega) (by omega) (by simp only [Nat.pow_zero, Nat.mul_one, Nat.zero_add]; omega)
  simp only [Nat.pow_zero, Nat.mul_one, Nat.zero_add] at this
  exact this
theorem rt_enc {s : Bs} {most : Int} (h1 : (s.length : Int) ≤ most) (hm : most ≤ 4611686018427387904) (t : Bs) : rt most (txtB s ++ t, 0) = (s, (t, 0)) := by
  have := rn_enc (n := s.length) (most := most) (by omega) h1 hm (s ++ t)
  unfold rt txtB
  rw [List.append_assoc, this]
  simp only [decide_true, cond_true]
  rw [decide_eq_false (by rw [List.length_append]; omega), cond_false, Int.toNat_natCast, List.take_left, List.drop_left]
theorem rlGo_enc : ∀ (l : List Int) (t : Bs), (∀ n ∈ l, okN n) → rlGo l.length (numsB l ++ t, 0) = (l, (t, 0))
  | [], t, _ => rfl
  | n :: l, t, h => by
    have h0 := h n (by simp)
    have ih := rlGo_enc l t (fun m hm => h m (by simp [hm]))
    have e : numsB (n :: l) ++ t = encI n ++ (numsB l ++ t) := by simp [numsB]
    rw [List.length_cons, rlGo, e, rn_enc h0.1 h0.2 (Int.le_refl _)]
    simp only [decide_true, cond_true]
    rw [ih]
theorem rl_enc {l : List Int} {most : Int} (h1 : (l.length : Int) ≤ most) (hm : most ≤ 4611686018427387904) (h : ∀ n ∈ l, okN n) (t : Bs) : rl most (listB l ++ t, 0) = (l, (t, 0)) := by
  unfold rl listB
  rw [List.append_assoc, rn_enc (by omega) h1 hm]
  simp only [Int.toNat_natCast]
  exact rlGo_enc l t h
theorem trim_pad {s : Bs} (h : s.length = 512) : padZ (trimZ s) = s ∧ (trimZ s).length ≤ 512 := by
  have key : ∀ l : Bs, ∃ n, l = List.replicate n 0 ++ l.dropWhile (· == 0) := by
    intro l
    induction l with
    | nil => exact ⟨0, rfl⟩
    | cons x l ih =>
      rw [List.dropWhile_cons]
      by_cases hx : x = 0
      · subst hx
        obtain ⟨n, hn⟩ := ih
        refine ⟨n + 1, ?_⟩
        simp only [beq_self_eq_true, if_true, List.replicate_succ, List.cons_append]
        rw [← hn]
      · refine ⟨0, ?_⟩
        rw [if_neg (by simpa using hx)]; rfl
  obtain ⟨n, hn⟩ := key s.reverse
  have h1 : s = trimZ s ++ zeros n := by
    have := congrArg List.reverse hn
    rw [List.reverse_reverse, List.reverse_append, List.reverse_replicate] at this
    exact this
  have hl := congrArg List.length h1
  rw [List.length_append, zeros_len] at hl
  refine ⟨?_, by omega⟩
  unfold padZ
  rw [show 512 - (trimZ s).length = n by omega]
  exact h1.symm
theorem imgErr_ok {l : List (Int × Pg)} (h : imgErr l = 0) : ∀ m ∈ l, pErr m.2 = 0 := by
  induction l with
  | nil => intro m hm; cases hm
  | cons x l ih =>
    unfold imgErr at h
    cases hx : decide (pErr x.2 = 0) with
    | true =>
      rw [hx, cond_true] at h
      intro m hm
      rcases List.mem_cons.1 hm with rfl | hm
      · simpa using hx
      · exact ih h m hm
    | false =>
      rw [hx, cond_false] at h
      rw [decide_eq_false_iff_not] at hx
      exact absurd h hx
theorem riGo_enc : ∀ (l : List (Int × Pg)) (t : Bs), (∀ m ∈ l, okN m.1 ∧ pErr m.2 = 0 ∧ m.2.lsn ≤ 9223372036854775807) → riGo l.length (l.flatMap imgB ++ t, 0) = some (l, (t, 0))
  | [], t, _ => rfl
  | m :: l, t, h => by
    obtain ⟨h0, h1, h2⟩ := h m (by simp)
    have ih := riGo_enc l t (fun m hm => h m (by simp [hm]))
    have e : (m :: l).flatMap imgB ++ t = encI m.1 ++ (txtB (trimZ (pEnc m.2).1) ++ (l.flatMap imgB ++ t)) := by simp [imgB]
    obtain ⟨e1, e2⟩ := trim_pad (pEnc_len h1)
    rw [List.length_cons, riGo, e, rn_enc h0.1 h0.2 (Int.le_refl _)]
    simp only
    rw [rt_enc (by omega) (by omega)]
    simp only
    rw [e1, dec_enc h1 h2, ih]
    rfl
theorem rpGo_enc : ∀ (l : List (Int × Int)) (t : Bs), (∀ m ∈ l, okN m.1 ∧ okN m.2) → rpGo l.length (l.flatMap prB ++ t, 0) = some (l, (t, 0))
  | [], t, _ => rfl
  | m :: l, t, h => by
    obtain ⟨h0, h1⟩ := h m (by simp)
    have ih := rpGo_enc l t (fun m hm => h m (by simp [hm]))
    have e : (m :: l).flatMap prB ++ t = encI m.1 ++ (encI m.2 ++ (l.flatMap prB ++ t)) := by simp [prB]
    rw [List.length_cons, rpGo, e, rn_enc h0.1 h0.2 (Int.le_refl _)]
    simp only
    rw [rn_enc h1.1 h1.2 (Int.le_refl _), ih]
    rfl
structure Good (r : Rc) : Prop where
  kind : 1 ≤ r.kind ∧ r.kind ≤ 13
  nums : ∀ n ∈ rNums r, okN n
  data : r.data.length ≤ 512
  slots : r.slots.length ≤ 255
  more : r.more.length ≤ 255
  imgs : r.imgs.length ≤ 4
  pages : r.pages.length ≤ 8192
  txns : r.txns.length ≤ 1024
  img : ∀ m ∈ r.imgs, pErr m.2 = 0
  lsns : ∀ m ∈ r.imgs, m.2.lsn ≤ 9223372036854775807
theorem badN_ok {n : Int} (h : badN n = false) : okN n := by
  unfold badN at h
  rw [Bool.or_eq_false_iff, decide_eq_false_iff_not, decide_eq_false_iff_not] at h
  unfold okN; omega
theorem rCheck_ok {r : Rc} (h : (rCheck r).2 = 0) (hl : ∀ m ∈ r.imgs, m.2.lsn ≤ 9223372036854775807) : Good r ∧ 1 ≤ r.lsn ∧ (rCheck r).1 = rBody r ∧ (rBody r).length ≤ 65535 := by
  unfold rCheck at h ⊢
  cases h1 : decide (r.kind < 1) || decide (13 < r.kind) with
  | true => rw [h1, cond_true] at h; cases h
  | false =>
  rw [h1, cond_false] at h
  cases h2 : decide (r.lsn < 1) || (rNums r).any badN with
  | true => rw [h2, cond_true] at h; cases h
  | false =>
  rw [h2, cond_false] at h
  cases h3 : longR r with
  | true => rw [h3, cond_true] at h; cases h
  | false =>
  rw [h3, cond_false] at h
  simp only [cond_false]
  unfold rInner at h ⊢
  cases h4 : decide (imgErr r.imgs = 0) with
  | false =>
    rw [h4, cond_false] at h
    rw [decide_eq_false_iff_not] at h4
    exact absurd h h4
  | true =>
  rw [h4, cond_true] at h
  cases h5 : decide (65535 < (rBody r).length) with
  | true => rw [h5, cond_true] at h; cases h
  | false =>
  simp only [cond_true, cond_false]
  rw [Bool.or_eq_false_iff, decide_eq_false_iff_not, decide_eq_false_iff_not] at h1
  rw [Bool.or_eq_false_iff, decide_eq_false_iff_not] at h2
  simp only [longR, Bool.or_eq_false_iff, decide_eq_false_iff_not] at h3
  rw [decide_eq_true_eq] at h4
  rw [decide_eq_false_iff_not] at h5
  refine ⟨⟨by omega, fun n hn => badN_ok ?_, by omega, by omega, by omega, by omega, by omega, by omega, imgErr_ok h4, hl⟩, by omega, trivial, by omega⟩
  have := List.any_eq_false.1 h2.2 n hn
  simpa using this
theorem mem_prs {l : List (Int × Int)} {p : Int × Int} (h : p ∈ l) : p.1 ∈ prs l ∧ p.2 ∈ prs l := by
  unfold prs
  exact ⟨List.mem_flatMap.2 ⟨p, h, by simp⟩, List.mem_flatMap.2 ⟨p, h, by simp⟩⟩
theorem ten_enc {r : Rc} (h : Good r) (t : Bs) : ten (numsB (headL r) ++ t) = (headL r, (t, 0)) := by
  have hn : ∀ n, n ∈ [r.lsn, r.prev, r.next, r.redo, r.xid, r.page, r.slot, r.old, r.new] → okN n := fun n hm => h.nums n (by unfold rNums; simp only [List.mem_append]; exact .inl (.inl (.inl (.inl (.inl hm)))))
  have e : numsB (headL r) ++ t = encI r.lsn ++ (encI r.prev ++ (encI r.next ++ (encI r.kind ++ (encI r.xid ++ (encI r.page ++ (encI r.slot ++ (encI r.old ++ (encI r.new ++ (encI r.redo ++ t))))))))) := by simp [numsB, headL]
  have hk := h.kind
  have q := fun n hm t => rn_enc (hn n hm).1 (hn n hm).2 (Int.le_refl _) t
  have q0 := q r.lsn (by simp)
  have q1 := q r.prev (by simp)
  have q2 := q r.next (by simp)
  have q4 := q r.xid (by simp)
  have q5 := q r.page (by simp)
  have q6 := q r.slot (by simp)
  have q7 := q r.old (by simp)
  have q8 := q r.new (by simp)
  have q9 := q r.redo (by simp)
  have q3 : ∀ t, rn 13 (encI r.kind ++ t, 0) = (r.kind, (t, 0)) := fun t => rn_enc (by omega) hk.2 (by omega) t
  rw [e]
  simp only [ten, q0, q1, q2, q3, q4, q5, q6, q7, q8, q9]
  rfl
theorem outer_enc {r : Rc} (h : Good r) : outerP (rBody r) = some r := by
  have e : rBody r = numsB (headL r) ++ (txtB r.data ++ (listB r.slots ++ (listB r.more ++ (encI (r.imgs.length : Int) ++ (r.imgs.flatMap imgB ++ (encI (r.pages.length : Int) ++ (r.pages.flatMap prB ++ (encI (r.txns.length : Int) ++ (r.txns.flatMap prB ++ []))))))))) := by simp [rBody]
  have hd := h.data
  have hs := h.slots
  have hm := h.more
  have hi := h.imgs
  have hp := h.pages
  have ht := h.txns
  unfold outerP
  rw [e, ten_enc h]
  simp only [tailP]
  rw [rt_enc (by omega) (by omega)]
  simp only
  rw [rl_enc (by omega) (by omega) (fun n hn => h.nums n (by unfold rNums; simp only [List.mem_append]; exact .inl (.inl (.inl (.inl (.inr hn))))))]
  simp only
  rw [rl_enc (by omega) (by omega) (fun n hn => h.nums n (by unfold rNums; simp only [List.mem_append]; exact .inl (.inl (.inl (.inr hn)))))]
  simp only
  rw [rn_enc (by omega) (by omega) (by omega)]
  simp only [Int.toNat_natCast]
  rw [riGo_enc _ _ (fun m hm => ⟨h.nums _ (by unfold rNums; simp only [List.mem_append]; exact .inl (.inl (.inr (List.mem_map.2 ⟨m, hm, rfl⟩)))), h.img m hm, h.lsns m hm⟩)]
  simp only [Option.bind_some]
  rw [rn_enc (by omega) (by omega) (by omega)]
  simp only [Int.toNat_natCast]
  rw [rpGo_enc _ _ (fun m hm => ⟨h.nums _ (by unfold rNums; simp only [List.mem_append]; exact .inl (.inr (mem_prs hm).1)), h.nums _ (by unfold rNums; simp only [List.mem_append]; exact .inl (.inr (mem_prs hm).2))⟩)]
  simp only [Option.bind_some]
  rw [rn_enc (by omega) (by omega) (by omega)]
  simp only [Int.toNat_natCast]
  rw [rpGo_enc _ _ (fun m hm => ⟨h.nums _ (by unfold rNums; simp only [List.mem_append]; exact .inr (mem_prs hm).1), h.nums _ (by unfold rNums; simp only [List.mem_append]; exact .inr (mem_prs hm).2)⟩)]
  rfl

end Go.Proofs.YthbngnlmgplijaaGreatDoor
