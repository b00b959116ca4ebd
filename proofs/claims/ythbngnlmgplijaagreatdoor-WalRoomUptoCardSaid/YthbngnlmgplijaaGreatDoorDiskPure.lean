/- A disk of sectors, plainly: what is told, what was synced, what is pending. -/
import Derived.Test.YthbngnlmgplijaaGreatDoorAlBytes
import Derived.Test.YthbngnlmgplijaaGreatDoorAlNum
namespace Go.Al
set_option linter.unusedVariables false
set_option linter.unusedSimpArgs false
set_option linter.unusedSectionVars false

structure Dk where
  cur : List Bs
  old : List Bs
  chg : List Bool
  armed : Int
  gone : Bool
  done : Int

namespace Dk

def zsec : Bs := List.replicate 64 0
def mk0 (n : Nat) : Dk := ⟨List.replicate n zsec, List.replicate n zsec, List.replicate n false, 0, false, 0⟩
def isC (chg : List Bool) (i : Nat) : Bool := chg.getD i false
structure Wf (d : Dk) : Prop where
  n1 : d.cur.length ≤ 65536
  lo : d.old.length = d.cur.length
  lc : d.chg.length = d.cur.length
  s1 : ∀ x ∈ d.cur, x.length = 64
  s2 : ∀ x ∈ d.old, x.length = 64
  same : ∀ i, isC d.chg i = false → d.old[i]? = d.cur[i]?
  ar : 0 ≤ d.armed ∧ d.armed ≤ 9223372036854775807

def tick (d : Dk) : Dk := if 0 < d.armed then { d with done := IntKind.i64.wrap (d.done + 1), armed := d.armed - 1, gone := decide (d.armed - 1 = 0) } else { d with done := IntKind.i64.wrap (d.done + 1) }
def put (d : Dk) (i : Nat) (x : Bs) : Dk := { d with cur := d.cur.set i x, chg := d.chg.set i true }
def wr : Dk → Nat → List Bs → Dk × Int
  | d, _, [] => (d, 0)
  | d, i, x :: l => let d' := (d.put i x).tick; bif d'.gone then (d', 5) else wr d' (i + 1) l
def chunks : Nat → Bs → List Bs
  | 0, _ => []
  | k + 1, s => s.take 64 :: chunks k (s.drop 64)
def has (d : Dk) (a k : Int) : Bool := decide (0 ≤ a ∧ 0 ≤ k ∧ a ≤ d.cur.length ∧ k ≤ d.cur.length - a)
def write (d : Dk) (a : Int) (s : Bs) : Dk × Int :=
  bif d.gone then (d, 5) else bif decide (s.length % 64 ≠ 0) || !(d.has a (s.length / 64 : Nat)) then (d, 20) else d.wr a.toNat (chunks (s.length / 64) s)
def read (d : Dk) (a k : Int) : Bs × Int :=
  bif d.gone then ([], 5) else bif !(d.has a k) then ([], 20) else (((d.cur.drop a.toNat).take k.toNat).flatten, 0)
def sync (d : Dk) : Dk × Int :=
  bif d.gone then (d, 5) else let d' := d.tick; bif d'.gone then (d', 5) else ({ d' with old := d'.cur, chg := List.replicate d'.cur.length false }, 0)
def arm (d : Dk) (a : Int) : Dk × Int :=
  bif d.gone then (d, 5) else bif decide (a < 0) then (d, 1) else ({ d with armed := a }, 0)
def pend (d : Dk) : List Nat := (List.range d.cur.length).filter (isC d.chg)
def rank (chg : List Bool) (i : Nat) : Nat := ((List.range i).filter (isC chg)).length
def fold1 (f : Int) : Int := if f < 0 then -(f + 1) else f
def fate (how : List Int) (k : Nat) : Int := match how[k]? with
  | some f => fold1 f
  | none => 0
def kept (f : Int) : Nat := if f % 3 = 0 then 0 else if f % 3 = 1 then 64 else (f / 3 % 65).toNat
def torn (f : Int) (x y : Bs) : Bs := x.take (kept f) ++ y.drop (kept f)
def mend (how : List Int) (d : Dk) (i : Nat) : Bs := bif isC d.chg i then torn (fate how (rank d.chg i)) (d.cur.getD i []) (d.old.getD i []) else d.cur.getD i []
def mended (how : List Int) (d : Dk) : List Bs := (List.range d.cur.length).map (mend how d)
def crash (d : Dk) (how : List Int) : Dk := { cur := mended how d, old := mended how d, chg := List.replicate d.cur.length false, armed := 0, gone := false, done := d.done }

theorem isC_rep (n i : Nat) : isC (List.replicate n false) i = false := by
  unfold isC
  simp only [List.getD_eq_getElem?_getD, List.getElem?_replicate]
  split <;> rfl
theorem isC_set (c : List Bool) (i j : Nat) (h : i < c.length) : isC (c.set i true) j = if i = j then true else isC c j := by
  unfold isC
  simp only [List.getD_eq_getElem?_getD, List.getElem?_set]
  split
  · rename_i e; subst e; simp [h]
  · rfl
theorem isC_lt {c : List Bool} {i : Nat} (h : isC c i = true) : i < c.length := by
  unfold isC at h
  rcases Nat.lt_or_ge i c.length with hl | hl
  · exact hl
  · rw [List.getD_eq_getElem?_getD, List.getElem?_eq_none hl] at h; cases h

theorem wf_mk0 {n : Nat} (h : n ≤ 65536) : (mk0 n).Wf where
  n1 := by simpa [mk0] using h
  lo := by simp [mk0]
  lc := by simp [mk0]
  s1 := by intro x hx; simp [mk0] at hx; rw [hx.2]; rfl
  s2 := by intro x hx; simp [mk0] at hx; rw [hx.2]; rfl
  same := fun i _ => rfl
  ar := ⟨by simp [mk0], by simp [mk0]⟩
theorem tick_cur (d : Dk) : d.tick.cur = d.cur ∧ d.tick.old = d.old ∧ d.tick.chg = d.chg := by
  unfold tick; split <;> exact ⟨rfl, rfl, rfl⟩
theorem Wf.tick {d : Dk} (h : d.Wf) : d.tick.Wf := by
  obtain ⟨h1, h2, h3, h4, h5, h6, h7⟩ := h
  unfold Dk.tick
  split
  · exact ⟨h1, h2, h3, h4, h5, h6, ⟨by simp only; omega, by simp only; omega⟩⟩
  · exact ⟨h1, h2, h3, h4, h5, h6, h7⟩
theorem Wf.put {d : Dk} (h : d.Wf) (i : Nat) {x : Bs} (hx : x.length = 64) : (d.put i x).Wf where
  n1 := by simpa [Dk.put] using h.n1
  lo := by simpa [Dk.put] using h.lo
  lc := by simpa [Dk.put] using h.lc
  s1 := by
    intro y hy
    rcases List.mem_or_eq_of_mem_set hy with hy | rfl
    · exact h.s1 y hy
    · exact hx
  s2 := h.s2
  same := by
    intro j hj
    rcases Nat.lt_or_ge i d.chg.length with hl | hl
    · simp only [Dk.put] at hj ⊢
      rw [isC_set _ _ _ hl] at hj
      split at hj
      · cases hj
      · rename_i hne
        rw [List.getElem?_set_ne hne]; exact h.same j hj
    · simp only [Dk.put] at hj ⊢
      rw [List.set_eq_of_length_le hl] at hj
      rw [List.set_eq_of_length_le (by rw [← h.lc]; exact hl)]
      exact h.same j hj
  ar := h.ar
theorem chunks_len (k : Nat) (s : Bs) : (chunks k s).length = k := by
  induction k generalizing s with
  | zero => rfl
  | succ k ih => simp [chunks, ih]
theorem chunks_64 {k : Nat} {s : Bs} (h : 64 * k ≤ s.length) : ∀ x ∈ chunks k s, x.length = 64 := by
  induction k generalizing s with
  | zero => intro x hx; cases hx
  | succ k ih =>
    intro x hx
    rcases List.mem_cons.1 hx with rfl | hx
    · rw [List.length_take]; omega
    · exact ih (by rw [List.length_drop]; omega) x hx
theorem Wf.wr {d : Dk} (h : d.Wf) (i : Nat) {l : List Bs} (hl : ∀ x ∈ l, x.length = 64) : (d.wr i l).1.Wf := by
  induction l generalizing d i with
  | nil => exact h
  | cons x l ih =>
    rw [Dk.wr]
    have h1 : (d.put i x).tick.Wf := (h.put i (hl x (by simp))).tick
    cases hg : (d.put i x).tick.gone with
    | true => simp only [hg, cond_true]; exact h1
    | false => simp only [hg, cond_false]; exact ih h1 (i + 1) (fun y hy => hl y (by simp [hy]))
theorem wr_len (d : Dk) (i : Nat) (l : List Bs) : (d.wr i l).1.cur.length = d.cur.length := by
  induction l generalizing d i with
  | nil => rfl
  | cons x l ih =>
    rw [Dk.wr]
    have h1 : (d.put i x).tick.cur.length = d.cur.length := by rw [(tick_cur _).1]; simp [put]
    cases hg : (d.put i x).tick.gone with
    | true => simp only [hg, cond_true]; exact h1
    | false => simp only [hg, cond_false]; rw [ih]; exact h1
theorem Wf.write {d : Dk} (h : d.Wf) (a : Int) (s : Bs) : (d.write a s).1.Wf := by
  unfold Dk.write
  cases d.gone with
  | true => exact h
  | false =>
    simp only [cond_false]
    cases hc : decide (s.length % 64 ≠ 0) || !(d.has a (s.length / 64 : Nat)) with
    | true => exact h
    | false => simp only [cond_false]; exact h.wr _ (chunks_64 (by omega))
theorem write_len (d : Dk) (a : Int) (s : Bs) : (d.write a s).1.cur.length = d.cur.length := by
  unfold Dk.write
  cases d.gone with
  | true => rfl
  | false =>
    simp only [cond_false]
    cases hc : decide (s.length % 64 ≠ 0) || !(d.has a (s.length / 64 : Nat)) with
    | true => rfl
    | false => simp only [cond_false]; exact wr_len _ _ _
theorem Wf.sync {d : Dk} (h : d.Wf) : d.sync.1.Wf := by
  unfold Dk.sync
  cases d.gone with
  | true => exact h
  | false =>
    simp only [cond_false]
    have h1 := h.tick
    cases hg : d.tick.gone with
    | true => exact h1
    | false =>
      simp only [cond_false]
      exact ⟨h1.n1, rfl, by simp, h1.s1, h1.s1, fun i _ => rfl, h1.ar⟩
theorem Wf.arm {d : Dk} (h : d.Wf) {a : Int} (ha : a ≤ 9223372036854775807) : (d.arm a).1.Wf := by
  unfold Dk.arm
  cases d.gone with
  | true => exact h
  | false =>
    simp only [cond_false]
    by_cases hn : a < 0
    · simp only [hn, decide_true, cond_true]; exact h
    · simp only [hn, decide_false, cond_false]
      exact ⟨h.n1, h.lo, h.lc, h.s1, h.s2, h.same, ⟨by simp only; omega, ha⟩⟩
theorem kept_le (f : Int) : kept f ≤ 64 := by
  unfold kept
  split
  · omega
  · split
    · omega
    · have := Int.emod_lt_of_pos (f / 3) (show (0 : Int) < 65 by decide)
      have := Int.emod_nonneg (f / 3) (show (65 : Int) ≠ 0 by decide)
      omega
theorem torn_len {f : Int} {x y : Bs} (hx : x.length = 64) (hy : y.length = 64) : (torn f x y).length = 64 := by
  have := kept_le f
  simp only [torn, List.length_append, List.length_take, List.length_drop]; omega
theorem Wf.cur64 {d : Dk} (h : d.Wf) {i : Nat} (hi : i < d.cur.length) : (d.cur.getD i []).length = 64 := by
  rw [List.getD_eq_getElem?_getD, List.getElem?_eq_getElem hi]; exact h.s1 _ (List.getElem_mem hi)
theorem Wf.old64 {d : Dk} (h : d.Wf) {i : Nat} (hi : i < d.cur.length) : (d.old.getD i []).length = 64 := by
  rw [List.getD_eq_getElem?_getD, List.getElem?_eq_getElem (by rw [h.lo]; exact hi)]; exact h.s2 _ (List.getElem_mem _)
theorem mend_len {d : Dk} (h : d.Wf) (how : List Int) {i : Nat} (hi : i < d.cur.length) : (mend how d i).length = 64 := by
  unfold mend
  cases isC d.chg i with
  | true => exact torn_len (h.cur64 hi) (h.old64 hi)
  | false => exact h.cur64 hi
theorem mended_len (how : List Int) (d : Dk) : (mended how d).length = d.cur.length := by simp [mended]
theorem mended_get (how : List Int) (d : Dk) (i : Nat) : (mended how d)[i]? = if i < d.cur.length then some (mend how d i) else none := by
  unfold mended
  rw [List.getElem?_map]
  split
  · rename_i h; rw [List.getElem?_range h]; rfl
  · rename_i h; rw [List.getElem?_eq_none (by simpa using h)]; rfl
theorem Wf.crash {d : Dk} (h : d.Wf) (how : List Int) : (d.crash how).Wf where
  n1 := by simpa [Dk.crash, mended_len] using h.n1
  lo := rfl
  lc := by simp [Dk.crash, mended_len]
  s1 := by
    intro x hx
    obtain ⟨i, hi, rfl⟩ := List.mem_map.1 hx
    exact mend_len h how (by simpa using hi)
  s2 := by
    intro x hx
    obtain ⟨i, hi, rfl⟩ := List.mem_map.1 hx
    exact mend_len h how (by simpa using hi)
  same := fun i _ => rfl
  ar := ⟨by simp [Dk.crash], by simp [Dk.crash]⟩

/-! ### One sector is written -/
theorem has_one {d : Dk} {k : Nat} (hk : k < d.cur.length) : d.has (k : Int) 1 = true := by unfold has; simp; omega
theorem wr_one {d : Dk} {k : Nat} (hk : k < d.cur.length) {s : Bs} (hs : s.length = 64) (hg : d.gone = false) : d.write k s = ((d.put k s).tick, bif (d.put k s).tick.gone then 5 else 0) := by
  have hs2 : s.take 64 = s := List.take_of_length_le (by omega)
  unfold write
  rw [hg, hs]
  simp only [cond_false, show ((64 / 64 : Nat) : Int) = 1 from rfl, has_one hk, Int.toNat_natCast, show 64 / 64 = 1 from rfl, chunks, hs2, wr]
  cases (d.put k s).tick.gone <;> rfl
theorem wr_gone {d : Dk} (a : Int) (s : Bs) (hg : d.gone = true) : d.write a s = (d, 5) := by unfold write; rw [hg]; rfl
theorem sync_calm {d : Dk} (ha : d.armed = 0) (hg : d.gone = false) : d.sync.2 = 0 ∧ d.sync.1.cur = d.cur ∧ d.sync.1.old = d.cur ∧ d.sync.1.gone = false ∧ d.sync.1.armed = 0 := by
  have ht : d.tick = { d with done := IntKind.i64.wrap (d.done + 1) } := by unfold tick; rw [if_neg (by omega)]
  unfold sync
  rw [hg]
  simp only [cond_false, ht]
  rw [show ({ d with done := IntKind.i64.wrap (d.done + 1) } : Dk).gone = false from hg]
  exact ⟨rfl, rfl, rfl, rfl, ha⟩
theorem crash_torn {d : Dk} (h : d.Wf) (how : List Int) {k : Nat} (hk : k < d.cur.length) : ∃ b, b ≤ 64 ∧ (d.crash how).cur[k]? = some ((d.cur.getD k []).take b ++ (d.old.getD k []).drop b) := by
  have e : (d.crash how).cur[k]? = some (mend how d k) := by
    show (mended how d)[k]? = _
    rw [mended_get, if_pos hk]
  rw [e]
  unfold mend
  cases isC d.chg k with
  | true => exact ⟨kept (fate how (rank d.chg k)), kept_le _, rfl⟩
  | false =>
    refine ⟨64, by omega, ?_⟩
    rw [cond_false, List.take_of_length_le (by rw [h.cur64 hk]; omega), List.drop_eq_nil_of_le (by rw [h.old64 hk]; omega), List.append_nil]

/-! ### Pending -/
theorem rank_succ (c : List Bool) (i : Nat) : rank c (i + 1) = rank c i + if isC c i then 1 else 0 := by
  unfold rank
  rw [List.range_succ, List.filter_append, List.length_append]
  congr 1
  rw [List.filter_cons]
  split <;> simp
theorem rank_mono (c : List Bool) {m n : Nat} (h : m ≤ n) : rank c m ≤ rank c n := by
  induction n with
  | zero => obtain rfl : m = 0 := by omega
            exact Nat.le_refl _
  | succ n ih =>
    by_cases e : m = n + 1
    · subst e; exact Nat.le_refl _
    · rw [rank_succ]
      exact Nat.le_trans (ih (by omega)) (by omega)
theorem pend_get (c : List Bool) : ∀ (n k i : Nat), ((List.range n).filter (isC c))[k]? = some i ↔ i < n ∧ isC c i = true ∧ rank c i = k
  | 0, k, i => by simp
  | n + 1, k, i => by
    rw [List.range_succ, List.filter_append, List.getElem?_append]
    have ih := pend_get c n
    have hl : ((List.range n).filter (isC c)).length = rank c n := rfl
    by_cases hk : k < ((List.range n).filter (isC c)).length
    · rw [if_pos hk, ih]
      constructor
      · rintro ⟨h1, h2, h3⟩; exact ⟨by omega, h2, h3⟩
      · rintro ⟨h1, h2, h3⟩
        refine ⟨?_, h2, h3⟩
        have : i ≠ n := by rintro rfl; rw [hl, h3] at hk; omega
        omega
    · rw [if_neg hk]
      rw [hl] at hk ⊢
      constructor
      · intro h
        rw [List.filter_cons] at h
        split at h
        · rename_i hn
          rw [List.filter_nil] at h
          cases hd : k - rank c n with
          | zero => rw [hd] at h; simp at h; subst h; exact ⟨by omega, hn, by omega⟩
          | succ _ => rw [hd] at h; simp at h
        · simp at h
      · rintro ⟨h1, h2, h3⟩
        have : i = n := by
          rcases Nat.lt_or_ge i n with hlt | hge
          · have h4 := (ih (rank c i) i).2 ⟨hlt, h2, rfl⟩
            have := (List.getElem?_eq_some_iff.1 h4).1
            rw [hl] at this; omega
          · omega
        subst this
        rw [List.filter_cons, if_pos h2, h3, Nat.sub_self]; rfl
theorem pend_mem {d : Dk} (h : d.Wf) {i : Nat} : i ∈ d.pend ↔ isC d.chg i = true := by
  unfold pend
  rw [List.mem_filter, List.mem_range]
  exact ⟨fun x => x.2, fun x => ⟨by rw [← h.lc]; exact isC_lt x, x⟩⟩
theorem pend_rises (d : Dk) : d.pend.Pairwise (· < ·) := by
  unfold pend
  exact (List.pairwise_lt_range).filter _
theorem pend_len (d : Dk) : d.pend.length ≤ d.cur.length := by
  unfold pend
  exact Nat.le_trans (List.length_filter_le _ _) (by simp)
theorem pend_rank (d : Dk) : d.pend.length = rank d.chg d.cur.length := rfl

/-! ### A crash, step by step -/
def mendK (how : List Int) (d : Dk) (k i : Nat) : Bs := bif isC d.chg i && decide (rank d.chg i < k) then torn (fate how (rank d.chg i)) (d.cur.getD i []) (d.old.getD i []) else d.cur.getD i []
def mid (how : List Int) (d : Dk) (k : Nat) : Dk := { d with cur := (List.range d.cur.length).map (mendK how d k) }
theorem mid_len (how : List Int) (d : Dk) (k : Nat) : (mid how d k).cur.length = d.cur.length := by simp [mid]
theorem mid_get (how : List Int) (d : Dk) (k i : Nat) : (mid how d k).cur[i]? = if i < d.cur.length then some (mendK how d k i) else none := by
  unfold mid
  simp only [List.getElem?_map]
  split
  · rename_i h; rw [List.getElem?_range h]; rfl
  · rename_i h; rw [List.getElem?_eq_none (by simpa using h)]; rfl
theorem mendK_len {d : Dk} (h : d.Wf) (how : List Int) (k : Nat) {i : Nat} (hi : i < d.cur.length) : (mendK how d k i).length = 64 := by
  unfold mendK
  cases isC d.chg i && decide (rank d.chg i < k) with
  | true => exact torn_len (h.cur64 hi) (h.old64 hi)
  | false => exact h.cur64 hi
theorem Wf.mid {d : Dk} (h : d.Wf) (how : List Int) (k : Nat) : (mid how d k).Wf where
  n1 := by rw [mid_len]; exact h.n1
  lo := by rw [mid_len]; exact h.lo
  lc := by rw [mid_len]; exact h.lc
  s1 := by
    intro x hx
    obtain ⟨i, hi, rfl⟩ := List.mem_map.1 hx
    exact mendK_len h how k (by simpa using hi)
  s2 := h.s2
  same := by
    intro i hi
    rw [mid_get]
    have hi' : isC d.chg i = false := hi
    show d.old[i]? = _
    rw [h.same i hi']
    split
    · rename_i hl
      rw [mendK, hi', Bool.false_and, cond_false, List.getD_eq_getElem?_getD, List.getElem?_eq_getElem hl]; rfl
    · rename_i hl; rw [List.getElem?_eq_none (by omega)]
  ar := h.ar
theorem getD_eq {α : Type} {l : List α} {i : Nat} {x : α} (h : i < l.length) : l[i]? = some (l.getD i x) := by
  rw [List.getD_eq_getElem?_getD, List.getElem?_eq_getElem h]; rfl
theorem mid_zero (how : List Int) (d : Dk) : mid how d 0 = d := by
  have : (mid how d 0).cur = d.cur := by
    apply List.ext_getElem?
    intro i
    rw [mid_get]
    split
    · rename_i h
      rw [mendK, decide_eq_false (Nat.not_lt_zero _), Bool.and_false, cond_false]; exact (getD_eq h).symm
    · rename_i h; rw [List.getElem?_eq_none (by omega)]
  unfold mid at this ⊢
  simp only at this
  rw [this]
theorem mid_end (how : List Int) (d : Dk) : (mid how d d.pend.length).cur = mended how d := by
  apply List.ext_getElem?
  intro i
  rw [mid_get, mended_get]
  split
  · rename_i h
    congr 1
    unfold mendK mend
    cases hc : isC d.chg i with
    | false => rfl
    | true =>
      have : (d.pend)[rank d.chg i]? = some i := (pend_get d.chg _ _ _).2 ⟨h, hc, rfl⟩
      have := (List.getElem?_eq_some_iff.1 this).1
      rw [decide_eq_true this, Bool.and_true]
  · rfl
theorem mid_step {how : List Int} {d : Dk} {k i : Nat} (h : d.pend[k]? = some i) : i < d.cur.length ∧ (mid how d k).cur.getD i [] = d.cur.getD i [] ∧ isC d.chg i = true ∧
    (mid how d (k + 1)).cur = (mid how d k).cur.set i (torn (fate how k) (d.cur.getD i []) (d.old.getD i [])) := by
  obtain ⟨h1, h2, h3⟩ := (pend_get d.chg _ _ _).1 h
  refine ⟨h1, ?_, h2, ?_⟩
  · rw [List.getD_eq_getElem?_getD, mid_get, if_pos h1, Option.getD_some, mendK, decide_eq_false (by omega), Bool.and_false]; rfl
  · apply List.ext_getElem?
    intro j
    rw [mid_get, List.getElem?_set, mid_get]
    by_cases hj : j < d.cur.length
    · rw [if_pos hj, if_pos hj]
      by_cases e : i = j
      · subst e
        rw [if_pos rfl, if_pos (by rw [mid_len]; exact h1), mendK, h2, h3, decide_eq_true (by omega)]; rfl
      · rw [if_neg e]
        congr 1
        unfold mendK
        cases hc : isC d.chg j with
        | false => rfl
        | true =>
          have hne : rank d.chg j ≠ k := by
            intro e2
            have := (pend_get d.chg _ _ _).2 ⟨hj, hc, e2⟩
            rw [show (List.range d.cur.length).filter (isC d.chg) = d.pend from rfl, h] at this
            exact e (by simpa using this)
          have : decide (rank d.chg j < k + 1) = decide (rank d.chg j < k) := by
            rw [decide_eq_decide]; omega
          rw [this]
    · rw [if_neg hj, if_neg hj]
      split
      · rename_i e; subst e; rw [if_neg (by rw [mid_len]; exact hj)]
      · rfl
theorem fold1_pos {f : Int} (h : -9223372036854775808 ≤ f ∧ f ≤ 9223372036854775807) : 0 ≤ fold1 f ∧ fold1 f ≤ 9223372036854775807 := by
  unfold fold1; split <;> omega
theorem fate_pos {how : List Int} (h : ∀ f ∈ how, -9223372036854775808 ≤ f ∧ f ≤ 9223372036854775807) (k : Nat) : 0 ≤ fate how k ∧ fate how k ≤ 9223372036854775807 := by
  unfold fate
  split
  · rename_i f hf; exact fold1_pos (h f (List.mem_of_getElem? hf))
  · omega

/-! ### A crash, sector by sector -/
def rmid (how : List Int) (d : Dk) (i : Nat) : Dk := { d with cur := (mended how d).take i ++ d.cur.drop i, old := (mended how d).take i ++ d.old.drop i, chg := List.replicate i false ++ d.chg.drop i }
theorem rmid_zero (how : List Int) (d : Dk) : rmid how d 0 = d := by simp [rmid]
theorem rmid_end (how : List Int) {d : Dk} (h : d.Wf) : rmid how d d.cur.length = { d.crash how with armed := d.armed, gone := d.gone } := by
  have e1 : (mended how d).take d.cur.length = mended how d := List.take_of_length_le (by rw [mended_len]; omega)
  simp only [rmid, crash, e1, List.drop_length, List.append_nil]
  rw [List.drop_eq_nil_of_le (by rw [h.lo]; omega), List.drop_eq_nil_of_le (by rw [h.lc]; omega), List.append_nil, List.append_nil]
theorem set_mid {α : Type} {a c : List α} {i : Nat} {x : α} (ha : a.length = i) (hc : c ≠ []) : (a ++ c).set i x = a ++ [x] ++ c.drop 1 := by
  rw [List.set_append_right _ _ (by omega), ha, Nat.sub_self]
  cases c with
  | nil => exact absurd rfl hc
  | cons y c => simp
theorem take_mid {α : Type} {l : List α} {i : Nat} {x : α} (h : l[i]? = some x) : l.take (i + 1) = l.take i ++ [x] := by rw [List.take_add_one, h]; rfl
theorem rmid_len (how : List Int) {d : Dk} (h : d.Wf) {i : Nat} (hi : i ≤ d.cur.length) : (rmid how d i).cur.length = d.cur.length ∧ (rmid how d i).old.length = d.cur.length ∧ (rmid how d i).chg.length = d.cur.length := by
  have h1 := mended_len how d
  have h2 := h.lo
  have h3 := h.lc
  refine ⟨?_, ?_, ?_⟩
  · show ((mended how d).take i ++ d.cur.drop i).length = _
    simp; omega
  · show ((mended how d).take i ++ d.old.drop i).length = _
    simp; omega
  · show (List.replicate i false ++ d.chg.drop i).length = _
    simp; omega
theorem rmid_at (how : List Int) {d : Dk} (h : d.Wf) {i : Nat} (hi : i < d.cur.length) : (rmid how d i).cur[i]? = some (d.cur.getD i []) ∧ (rmid how d i).old[i]? = some (d.old.getD i []) ∧ (rmid how d i).chg[i]? = some (isC d.chg i) := by
  have h1 := mended_len how d
  have ht : ((mended how d).take i).length = i := by rw [List.length_take]; omega
  refine ⟨?_, ?_, ?_⟩
  · show ((mended how d).take i ++ d.cur.drop i)[i]? = _
    rw [List.getElem?_append_right (by omega), ht, Nat.sub_self, List.getElem?_drop, Nat.add_zero]; exact getD_eq hi
  · show ((mended how d).take i ++ d.old.drop i)[i]? = _
    rw [List.getElem?_append_right (by omega), ht, Nat.sub_self, List.getElem?_drop, Nat.add_zero]; exact getD_eq (by rw [h.lo]; exact hi)
  · show (List.replicate i false ++ d.chg.drop i)[i]? = _
    rw [List.getElem?_append_right (by simp), List.length_replicate, Nat.sub_self, List.getElem?_drop, Nat.add_zero]; exact getD_eq (by rw [h.lc]; exact hi)
theorem rmid_step (how : List Int) {d : Dk} (h : d.Wf) {i : Nat} (hi : i < d.cur.length) :
    rmid how d (i + 1) = { rmid how d i with cur := (rmid how d i).cur.set i (mend how d i), old := (rmid how d i).old.set i (mend how d i), chg := (rmid how d i).chg.set i false } := by
  have h1 := mended_len how d
  have ht : ((mended how d).take i).length = i := by rw [List.length_take]; omega
  have hm : (mended how d)[i]? = some (mend how d i) := by rw [mended_get, if_pos hi]
  unfold rmid
  simp only
  rw [take_mid hm, set_mid ht (by intro e; have := congrArg List.length e; simp at this; omega), set_mid ht (by intro e; have e' := congrArg List.length e; have := h.lo; simp at e'; omega),
    set_mid (by simp) (by intro e; have e' := congrArg List.length e; have := h.lc; simp at e'; omega), List.drop_drop, List.drop_drop, List.drop_drop, List.replicate_succ']
theorem rmid_skip (how : List Int) {d : Dk} (h : d.Wf) {i : Nat} (hi : i < d.cur.length) (hc : isC d.chg i = false) : rmid how d (i + 1) = rmid how d i := by
  obtain ⟨a1, a2, a3⟩ := rmid_at how h hi
  have hm : mend how d i = d.cur.getD i [] := by unfold mend; rw [hc]; rfl
  have ho : d.old.getD i [] = d.cur.getD i [] := by
    have := h.same i hc
    rw [List.getD_eq_getElem?_getD, this, ← List.getD_eq_getElem?_getD]
  rw [rmid_step how h hi, hm]
  rw [hc] at a3
  have s1 : (rmid how d i).cur.set i (d.cur.getD i []) = (rmid how d i).cur := by
    apply List.ext_getElem?; intro j; rw [List.getElem?_set]; split
    · rename_i e; subst e; rw [a1, if_pos (List.getElem?_eq_some_iff.1 a1).1]
    · rfl
  have s2 : (rmid how d i).old.set i (d.cur.getD i []) = (rmid how d i).old := by
    apply List.ext_getElem?; intro j; rw [List.getElem?_set]; split
    · rename_i e; subst e; rw [a2, if_pos (List.getElem?_eq_some_iff.1 a2).1, ho]
    · rfl
  have s3 : (rmid how d i).chg.set i false = (rmid how d i).chg := by
    apply List.ext_getElem?; intro j; rw [List.getElem?_set]; split
    · rename_i e; subst e; rw [a3, if_pos (List.getElem?_eq_some_iff.1 a3).1]
    · rfl
  rw [s1, s2, s3]
/-- A sync, sector by sector. -/
def smid (d : Dk) (i : Nat) : Dk := { d with old := d.cur.take i ++ d.old.drop i, chg := List.replicate i false ++ d.chg.drop i }
theorem smid_zero (d : Dk) : smid d 0 = d := by simp [smid]
theorem smid_end {d : Dk} (h : d.Wf) : smid d d.cur.length = { d with old := d.cur, chg := List.replicate d.cur.length false } := by
  simp only [smid, List.take_length]
  rw [List.drop_eq_nil_of_le (by rw [h.lo]; omega), List.drop_eq_nil_of_le (by rw [h.lc]; omega), List.append_nil, List.append_nil]
theorem smid_step {d : Dk} (h : d.Wf) {i : Nat} (hi : i < d.cur.length) : smid d (i + 1) = { smid d i with old := (smid d i).old.set i (d.cur.getD i []), chg := (smid d i).chg.set i false } := by
  unfold smid
  simp only
  rw [take_mid (getD_eq (x := []) hi), set_mid (by rw [List.length_take]; omega) (by intro e; have e' := congrArg List.length e; have := h.lo; simp at e'; omega),
    set_mid (by simp) (by intro e; have e' := congrArg List.length e; have := h.lc; simp at e'; omega), List.drop_drop, List.drop_drop, List.replicate_succ']
theorem smid_len {d : Dk} (h : d.Wf) {i : Nat} (hi : i ≤ d.cur.length) : (smid d i).old.length = d.cur.length ∧ (smid d i).chg.length = d.cur.length := by
  have h2 := h.lo
  have h3 := h.lc
  refine ⟨?_, ?_⟩
  · show (d.cur.take i ++ d.old.drop i).length = _
    simp; omega
  · show (List.replicate i false ++ d.chg.drop i).length = _
    simp; omega

/-- Two rising lists of the same members are one. -/
theorem rising_eq {a b : List Int} (ha : a.Pairwise (· < ·)) (hb : b.Pairwise (· < ·)) (h : ∀ x, x ∈ a ↔ x ∈ b) : a = b := by
  induction a generalizing b with
  | nil =>
    cases b with
    | nil => rfl
    | cons y b => exact absurd ((h y).2 (by simp)) (by simp)
  | cons x a ih =>
    cases b with
    | nil => exact absurd ((h x).1 (by simp)) (by simp)
    | cons y b =>
      rw [List.pairwise_cons] at ha hb
      have hxy : x = y := by
        rcases List.mem_cons.1 ((h x).1 (by simp)) with e | hx
        · exact e
        · rcases List.mem_cons.1 ((h y).2 (by simp)) with e | hy
          · exact e.symm
          · have := ha.1 y hy; have := hb.1 x hx; omega
      subst hxy
      congr 1
      refine ih ha.2 hb.2 fun z => ?_
      constructor
      · intro hz
        rcases List.mem_cons.1 ((h z).1 (by simp [hz])) with e | hz'
        · have := ha.1 z hz; omega
        · exact hz'
      · intro hz
        rcases List.mem_cons.1 ((h z).2 (by simp [hz])) with e | hz'
        · have := hb.1 z hz; omega
        · exact hz'

/-! ### All sectors in a row -/
theorem flat_len {l : List Bs} (h : ∀ x ∈ l, x.length = 64) : l.flatten.length = 64 * l.length := by
  induction l with
  | nil => rfl
  | cons x l ih => simp only [List.flatten_cons, List.length_append, List.length_cons, h x (by simp), ih (fun y hy => h y (by simp [hy]))]; omega
theorem flat_drop {l : List Bs} (h : ∀ x ∈ l, x.length = 64) (i : Nat) : l.flatten.drop (64 * i) = (l.drop i).flatten := by
  induction l generalizing i with
  | nil => simp
  | cons x l ih =>
    cases i with
    | zero => rfl
    | succ i =>
      rw [List.flatten_cons, List.drop_succ_cons, ← ih (fun y hy => h y (by simp [hy])) i, List.drop_append, h x (by simp), show 64 * (i + 1) - 64 = 64 * i by omega,
        List.drop_eq_nil_of_le (by rw [h x (by simp)]; omega), List.nil_append]
theorem flat_take {l : List Bs} (h : ∀ x ∈ l, x.length = 64) (i : Nat) : l.flatten.take (64 * i) = (l.take i).flatten := by
  induction l generalizing i with
  | nil => simp
  | cons x l ih =>
    cases i with
    | zero => rfl
    | succ i =>
      rw [List.flatten_cons, List.take_succ_cons, List.flatten_cons, ← ih (fun y hy => h y (by simp [hy])) i, List.take_append, h x (by simp), show 64 * (i + 1) - 64 = 64 * i by omega,
        List.take_of_length_le (by rw [h x (by simp)]; omega)]
theorem flat_sec {l : List Bs} (h : ∀ x ∈ l, x.length = 64) {i : Nat} (hi : i < l.length) : (l.flatten.drop (64 * i)).take 64 = l.getD i [] := by
  rw [flat_drop h, List.getD_eq_getElem?_getD, List.getElem?_eq_getElem hi, List.drop_eq_getElem_cons hi, List.flatten_cons, Option.getD_some]
  rw [List.take_append_of_le_length (by rw [h _ (List.getElem_mem hi)]; omega), List.take_of_length_le (by rw [h _ (List.getElem_mem hi)]; omega)]
/-- A sector's end is laid anew. -/
theorem flat_lay {l : List Bs} (h : ∀ x ∈ l, x.length = 64) {i j : Nat} (hi : i < l.length) (hj : j ≤ 64) {y : Bs} (hy : y.length = 64 - j) :
    l.flatten.take (64 * i + j) ++ y ++ l.flatten.drop (64 * i + 64) = (l.set i ((l.getD i []).take j ++ y)).flatten := by
  induction l generalizing i with
  | nil => simp at hi
  | cons x l ih =>
    have hx := h x (by simp)
    cases i with
    | zero =>
      simp only [List.flatten_cons, List.set_cons_zero, List.getD_cons_zero, Nat.mul_zero, Nat.zero_add]
      rw [List.take_append_of_le_length (by omega), List.drop_append, hx, Nat.sub_self, List.drop_eq_nil_of_le (by omega), List.nil_append, List.drop_zero]
    | succ i =>
      simp only [List.flatten_cons, List.set_cons_succ, List.getD_cons_succ]
      rw [← ih (fun y hy => h y (by simp [hy])) (by simpa using hi), List.take_append, List.drop_append, hx]
      rw [List.take_of_length_le (show x.length ≤ 64 * (i + 1) + j by omega), List.drop_eq_nil_of_le (show x.length ≤ 64 * (i + 1) + 64 by omega), List.nil_append,
        show 64 * (i + 1) + j - 64 = 64 * i + j by omega, show 64 * (i + 1) + 64 - 64 = 64 * i + 64 by omega]
      simp only [List.append_assoc]

end Dk
end Go.Al
