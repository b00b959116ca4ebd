/- Soundness of the pure operations. -/
import Derived.Test.YthbngnlmgplijaaGreatDoorAlCore
namespace Go.Al
set_option linter.unusedVariables false
set_option linter.unusedSimpArgs false
set_option linter.unusedSectionVars false

theorem binI_run {P : Program} {op : BinOp} {k : IntKind} {a b : Int} {v : Value} (hs : op ≠ .shl) (hs' : op ≠ .shr) (h : binI op k a b = some v) (w : World) (t : TypeId) :
    (binOp op t (.int k a) (.int k b)).run P w = .ok v w := by
  cases op <;> simp [binI] at h hs hs' <;> first
    | (subst h; simp [binOp, Op.intArith, Op.intBits, Op.intCmp]; done)
    | (obtain ⟨hb, rfl⟩ := h; simp [binOp, Op.intDiv, hb]; done)

theorem shV_run {P : Program} {op : BinOp} {k k' : IntKind} {a b : Int} {v : Value} (h : shV op k a b = some v) (w : World) (t : TypeId) :
    (binOp op t (.int k a) (.int k' b)).run P w = .ok v w := by
  unfold shV at h
  split at h
  · cases h
  · rename_i hb
    cases op <;> simp at h <;> subst h <;> simp [binOp, Op.shift, hb]

theorem binS_run {P : Program} {op : BinOp} {a b : ByteArray} {v : Value} (h : binS op a b = some v) (w : World) (t : TypeId) :
    (binOp op t (.string a) (.string b)).run P w = .ok v w := by
  cases op <;> simp only [binS, reduceCtorEq] at h <;> first
    | (cases h; done)
    | (simp only [Option.some.injEq] at h; subst h; simp [binOp, Op.stringOp]; done)
    | (split at h
       · cases h
       · rename_i hn
         simp only [Option.some.injEq] at h; subst h; simp only [binOp, Op.stringOp, if_neg hn]; rfl)

theorem eqV_run {P : Program} {t : TypeId} {d : TypeDesc} {x y : Value} {b : Bool} (hd : P.underlying t = some d) (h : eqV d x y = some b) (w : World) :
    (Op.equal t x y).run P w = .ok b w := by
  unfold Op.equal Op.maxDepth Op.equalIn
  simp only [Sem.run_bind, run_underlying hd, Result.andThen_ok]
  unfold eqV at h
  split at h <;> first
    | (cases h; done)
    | (simp only [Option.some.injEq] at h; subst h; simp; done)
    | (simp only [Option.some.injEq] at h; subst h; rename_i b; cases b <;> simp)

theorem eqGuard_run {P : Program} {op : BinOp} {t : TypeId} {x y : Operand} {d : TypeDesc} {a b v : Value} (h : binV d op a b = some v) (w : World) :
    (eqGuard op t x y a b).run P w = .ok () w := by
  have key : ∀ (a b : Value), (∀ t u c d, a = .iface t u → b = .iface c d → False) → (a = .nilIface → False) → (∀ cs, a = .agg cs → False) → Sem.run P (eqGuard op t x y a b) w = .ok () w := by
    intro a b _ h1 h2
    unfold eqGuard
    cases op <;> simp
    all_goals (cases a <;> first | (exact absurd rfl (fun e => h1 e)) | (exact absurd rfl (fun e => h2 _ e)) | simp)
  refine key a b ?_ ?_ ?_
  · rintro t u c d rfl rfl; cases op <;> simp [binV, eqV] at h
  · rintro rfl; cases op <;> simp [binV, eqV] at h
  · rintro cs rfl; cases op <;> simp [binV, eqV] at h

theorem binV_run {P : Program} {t : TypeId} {d : TypeDesc} {op : BinOp} {x y v : Value} (hd : P.underlying t = some d) (h : binV d op x y = some v) (w : World) :
    (binOp op t x y).run P w = .ok v w := by
  unfold binV at h
  split at h
  · rename_i k a k' b
    cases hs : isSh op with
    | true => rw [hs] at h; exact shV_run (by simpa using h) w t
    | false =>
      rw [hs] at h
      simp only [cond_false] at h
      split at h
      · rename_i hk
        subst hk
        exact binI_run (by rintro rfl; cases hs) (by rintro rfl; cases hs) h w t
      · cases h
  · exact binS_run h w t
  · rename_i x y _ _
    cases op <;> simp only [reduceCtorEq] at h
    all_goals
      rw [Option.map_eq_some_iff] at h
      obtain ⟨b, he, rfl⟩ := h
      have hr := eqV_run hd he w
      unfold eqV at he
      split at he <;> first | (cases he; done) | (simp only [binOp, hr, Sem.run_bind, Result.andThen_ok, Sem.run_pure])

theorem min2_run {P : Program} (x y v : Value) (h : min2V x y = some v) (w : World) : (Builtin.min2 x y).run P w = .ok v w := by
  cases x <;> cases y <;> simp [min2V] at h
  subst h; simp [Builtin.min2]
theorem max2_run {P : Program} (x y v : Value) (h : max2V x y = some v) (w : World) : (Builtin.max2 x y).run P w = .ok v w := by
  cases x <;> cases y <;> simp [max2V] at h
  subst h; simp [Builtin.max2]

theorem slS_run {P : Program} {x : Value} {lo hi : Option Value} {v : Value} {t : TypeId} (ht : P.underlying t = some .string) (h : slS x lo hi = some v) (w : World) :
    (Instr.sliceAt t x lo hi none).run P w = .ok v w := by
  cases x <;> simp only [slS] at h <;> try (cases h; done)
  rename_i s
  cases hh : bnd s.size s.size hi with
  | none => simp [hh] at h
  | some a =>
    cases hl : bnd a 0 lo with
    | none => simp [hh, hl] at h
    | some b =>
      simp [hh, hl] at h
      subst h
      simp only [Instr.sliceAt, Sem.run_bind, run_underlying ht, Result.andThen_ok, Instr.slice, Instr.sliceBounds]
      cases hi with
      | none =>
        simp [bnd] at hh; subst hh
        cases lo with
        | none => simp [bnd] at hl; subst hl; simp
        | some z => simp [bnd_run hl]
      | some y =>
        cases lo with
        | none => simp [bnd] at hl; subst hl; simp [bnd_run hh]
        | some z => simp [bnd_run hh, bnd_run hl]

theorem slV_run {P : Program} {x : Value} {lo hi mx : Option Value} {v : Value} {t e : TypeId} {n : Nat} (ht : P.underlying t = some (.slice e)) (hn : sizeB P e = some n)
    (h : slV n x lo hi mx = some v) (w : World) : (Instr.sliceAt t x lo hi mx).run P w = .ok v w := by
  cases x <;> simp only [slV] at h <;> try (cases h; done)
  rename_i a len cap
  rw [Option.bind_eq_some_iff] at h
  obtain ⟨m, hm, h⟩ := h
  rw [Option.bind_eq_some_iff] at h
  obtain ⟨c, hh, h⟩ := h
  rw [Option.map_eq_some_iff] at h
  obtain ⟨l, hl, rfl⟩ := h
  simp only [Instr.sliceAt, Sem.run_bind, run_underlying ht, Result.andThen_ok, Instr.slice, Instr.sliceBounds]
  have hmx : mx = none ∧ m = cap ∨ ∃ z, mx = some z := by cases mx <;> simp_all [bnd]
  have hlo : lo = none ∧ l = 0 ∨ ∃ z, lo = some z := by cases lo <;> simp_all [bnd]
  rcases hmx with ⟨rfl, rfl⟩ | ⟨z0, rfl⟩ <;> rcases hlo with ⟨rfl, rfl⟩ | ⟨z, rfl⟩ <;> cases hi <;> simp only [bndH, Option.some.injEq, reduceCtorEq] at hh <;> first
    | (subst hh; simp [run_sizeOf hn]; done)
    | (subst hh; simp [run_sizeOf hn, bnd_run hl]; done)
    | (simp [run_sizeOf hn, bnd_run hh]; done)
    | (simp [run_sizeOf hn, bnd_run hh, bnd_run hl]; done)
    | (simp [run_sizeOf hn, bnd_run hm, bnd_run hh]; done)
    | (simp [run_sizeOf hn, bnd_run hm, bnd_run hh, bnd_run hl]; done)

end Go.Al
