/- The meaning of a body, and that it is sound. -/
import Derived.Test.YthbngnlmgplijaaGreatDoorAlPure
namespace Go.Al
set_option linter.unusedVariables false
set_option linter.unusedSimpArgs false
set_option linter.unusedSectionVars false

theorem lenP_run {P : Program} {ts : Array TypeId} {t : TypeId} {x : Value} {rest : List Value} {v : Value} (h : lenP P ts x = some (some v)) (w : World) :
    (Builtin.len_ ts t (x :: rest).toArray).run P w = .ok v w := by
  unfold lenP at h
  cases ts with
  | mk l =>
    cases l with
    | nil => cases h
    | cons u l =>
      simp only at h
      cases hu : P.underlying u with
      | none => simp [hu] at h
      | some d =>
        rw [hu] at h
        cases d <;> simp only [Option.some.injEq, reduceCtorEq] at h
        all_goals
          first
            | (subst h; simp [Builtin.len_, run_underlying hu, goInt]; done)
            | skip
        · cases x <;> simp only [lenS, Option.some.injEq, reduceCtorEq] at h
          all_goals (subst h; simp [Builtin.len_, run_underlying hu, goInt])
        · cases x <;> simp only [lenV, Option.some.injEq, reduceCtorEq] at h
          all_goals (subst h; simp [Builtin.len_, run_underlying hu, goInt])

theorem pu_run {P : Program} {f : Fr} {o : Oper} {v : Value} (h : pu P f o = some (some v)) (w : World) : (execOp (ev f) o).run P w = .ok (.value v) w := by
  obtain ⟨dst, op, type, pos, after, guard⟩ := o
  cases op <;> simp only [pu, Option.some.injEq, reduceCtorEq] at h
  case move x => subst h; rfl
  case assign x => subst h; rfl
  case pick c a b =>
    simp only [execOp]
    cases hc : ev f c <;> simp only [hc, pickV, reduceCtorEq] at h
    rename_i x; cases x <;> simp at h <;> simp [asBool, h]
  case extract t i =>
    simp only [execOp]
    cases ht : ev f t <;> simp only [ht, extV, reduceCtorEq] at h
    simp [Instr.extract, h]
  case nilCheck x =>
    simp only [execOp]
    cases hx : ev f x <;> simp only [hx, nilV, reduceCtorEq] at h
    · rename_i a; cases a <;> simp at h; subst h; simp
    · rename_i fn y z; cases fn <;> simp at h; subst h; simp
  case fieldAddr s x i =>
    simp only [execOp]
    cases hf : fieldB P s i with
    | none => simp [hf] at h
    | some fd =>
      simp only [hf] at h
      cases hz : sizeB P fd.type with
      | none => simp [hz] at h
      | some n =>
        cases n with
        | zero => simp [hz] at h
        | succ n =>
          simp only [hz] at h
          cases hx : ev f x <;> simp only [hx, faV, reduceCtorEq] at h
          rename_i a; cases a <;> simp at h; subst h
          unfold fieldB at hf
          cases hu : P.underlying s with
          | none => simp [hu] at hf
          | some d =>
            cases d <;> simp [hu] at hf
            simp [Instr.fieldAt, run_underlying hu, hf, Instr.sureAddr, fieldPlace, run_sizeOf hz]
  case field s x i =>
    simp only [execOp]
    cases hf : fieldB P s i with
    | none => simp [hf] at h
    | some fd =>
      simp only [hf] at h
      cases ha : aggB P fd.type with
      | none => simp [ha] at h
      | some a =>
        cases hz : sizeB P fd.type with
        | none => simp [ha, hz] at h
        | some n =>
          simp only [ha, hz] at h
          cases hx : ev f x <;> simp only [hx, fldV, reduceCtorEq] at h
          unfold fieldB at hf
          cases hu : P.underlying s with
          | none => simp [hu] at hf
          | some d =>
            cases d <;> simp [hu] at hf
            simp [Instr.field, run_underlying hu, hf, asAgg, run_part ha hz h]
  case indexAddr t x i =>
    simp only [execOp]
    cases hu : P.underlying t with
    | none => simp [hu] at h
    | some d =>
      rw [hu] at h
      cases d <;> try simp only [reduceCtorEq] at h
      case slice e =>
        cases hz : sizeB P e with
        | none => simp [hz] at h
        | some n =>
          simp only [hz] at h
          cases hx : ev f x <;> simp only [hx, ixV, reduceCtorEq] at h
          rename_i a len cap
          cases a <;> try simp only [reduceCtorEq] at h
          cases hi : ev f i <;> simp only [hi, reduceCtorEq] at h
          split at h
          · rename_i hb
            simp only [Option.some.injEq] at h; subst h
            simp [Instr.indexAt, asIntOf, run_underlying hu, hb, run_sizeOf hz]
          · cases h
      case array len e =>
        cases len with
        | zero => cases h
        | succ len =>
          cases len with
          | zero => cases h
          | succ len =>
            replace h : (match sizeB P e with
              | some n => ixA (len + 2) n (ev f x) (ev f i)
              | none => none) = some v := h
            cases hz : sizeB P e with
            | none => simp [hz] at h
            | some n =>
              simp only [hz] at h
              cases hx : ev f x <;> simp only [hx, ixA, reduceCtorEq] at h
              rename_i a
              cases a <;> try simp only [reduceCtorEq] at h
              cases hi : ev f i <;> simp only [hi, reduceCtorEq] at h
              split at h
              · rename_i hb
                simp only [Option.some.injEq] at h; subst h
                simp at hb
                simp [Instr.indexAt, asIntOf, run_underlying hu, hb, run_sizeOf hz, Instr.sureAddr]
                intro hc; omega
              · cases h
  case index t x i =>
    simp only [execOp]
    cases hu : P.underlying t with
    | none => simp [hu] at h
    | some d =>
      rw [hu] at h
      cases d <;> simp only [reduceCtorEq] at h
      case string =>
        cases hx : ev f x <;> simp only [hx, ixS, reduceCtorEq] at h
        rename_i s
        cases hi : ev f i <;> simp only [hi, reduceCtorEq] at h
        rename_i k n
        split at h
        · rename_i hb
          rw [Option.map_eq_some_iff] at h
          obtain ⟨b, hb', rfl⟩ := h
          simp [Instr.index, asIntOf, run_underlying hu, hb, hb']
        · cases h
      case array len e =>
        cases ha : aggB P e with
        | none => simp [ha] at h
        | some a =>
          cases hz : sizeB P e with
          | none => simp [ha, hz] at h
          | some n =>
            simp only [ha, hz] at h
            cases hx : ev f x <;> simp only [hx, ixG, reduceCtorEq] at h
            cases hi : ev f i <;> simp only [hi, reduceCtorEq] at h
            split at h
            · rename_i hb
              simp [Instr.index, asIntOf, run_underlying hu, hb, run_sizeOf hz, run_part ha hz h]
            · cases h
  case unOp op t x =>
    simp only [execOp]
    cases op <;> cases hx : ev f x <;> simp only [hx, unV, Option.some.injEq, reduceCtorEq] at h <;> subst h <;> simp [Op.unary, Op.intArith, Op.intBits]
  case binOp op t x y yt =>
    simp only [execOp]
    cases hu : P.underlying t with
    | none => simp [hu] at h
    | some d =>
      rw [hu] at h
      cases d <;> simp only [Option.some.injEq, reduceCtorEq] at h
      all_goals simp [eqGuard_run h, binV_run hu h]
  case convert src dst x =>
    simp only [execOp]
    cases hu : P.underlying src with
    | none => simp [hu] at h
    | some d =>
      cases hv : P.underlying dst with
      | none => simp [hu, hv] at h
      | some e =>
        rw [hu, hv] at h
        cases d <;> cases e <;> simp only [Option.some.injEq, reduceCtorEq] at h
        · cases hx : ev f x <;> simp only [hx, cvI, Option.some.injEq, reduceCtorEq] at h
          subst h; simp [convert, run_underlying hu, run_underlying hv, Conv.intToInt]
        · cases hx : ev f x <;> simp only [hx, cvS, Option.some.injEq, reduceCtorEq] at h
          subst h; simp [convert, run_underlying hu, run_underlying hv]
  case slice t x lo hi mx =>
    simp only [execOp]
    have hmo : ∀ q : Option Operand, Option.map (ev f) q = mapO f q := by intro q; cases q <;> rfl
    cases hu : P.underlying t with
    | none => simp [hu] at h
    | some d =>
      rw [hu] at h
      cases d <;> simp only [reduceCtorEq] at h
      case string =>
        cases mx with
        | some z => simp at h
        | none =>
          simp only [Option.some.injEq] at h
          simp only [hmo]
          simp only [Sem.run_bind]
          rw [show mapO f none = none from rfl, slS_run hu h]
          rfl
      case slice e =>
        simp only [Option.some.injEq] at h
        cases hz : sizeB P e with
        | none => simp [hz] at h
        | some n =>
          simp only [hz] at h
          simp only [hmo]
          simp [slV_run hu hz h]
  case makeFunc fn first captured =>
    subst h
    simp only [execOp, Instr.makeFunc, toList_map_toArray]
    rfl
  case call c =>
    obtain ⟨callee, args, argTypes⟩ := c
    cases callee <;> simp only [reduceCtorEq] at h
    rename_i b
    cases b <;> simp only [reduceCtorEq, Option.some.injEq] at h
    case len =>
      cases args with
      | mk l =>
        cases l with
        | nil => simp at h
        | cons x l =>
          simp only at h
          simp [execOp, resolve, invoke, builtin, lenP_run h]
    case min =>
      simp only [execOp, resolve, invoke, builtin]
      cases args with
      | mk l =>
        cases l with
        | nil => simp [foldV0] at h
        | cons x l =>
          simp only [List.map_cons, foldV0] at h
          simp [Builtin.min_, run_foldlM min2_run _ _ _ h]
    case max =>
      simp only [execOp, resolve, invoke, builtin]
      cases args with
      | mk l =>
        cases l with
        | nil => simp [foldV0] at h
        | cons x l =>
          simp only [List.map_cons, foldV0] at h
          simp [Builtin.max_, run_foldlM max2_run _ _ _ h]

/-! ### Operations that read or write -/

def Ld0 (w : World) (x : Value) (k : KV) : Prop := match x with
  | .pointer (some a) => (match w.cell? a with
    | some u => k u w
    | none => False)
  | _ => False
structure Ld (w : World) (x : Value) (k : KV) : Prop where
  out : Ld0 w x k
def cellsAt (w : World) (a : Addr) : Nat → Nat → Option (List Value)
  | _, 0 => some []
  | i, n + 1 => match w.cell? (a.add i) with
    | some v => (cellsAt w a (i + 1) n).map (v :: ·)
    | none => none
def LdN0 (n : Nat) (w : World) (x : Value) (k : KV) : Prop := match x with
  | .pointer (some a) => (match cellsAt w a 0 n with
    | some l => k (.agg l.toArray) w
    | none => False)
  | _ => False
structure LdN (n : Nat) (w : World) (x : Value) (k : KV) : Prop where
  out : LdN0 n w x k
def stC (a : Addr) : Nat → List Value → World → Option World
  | _, [], w => some w
  | i, v :: l, w => bif v.oneCell' then (match w.cell? (a.add i) with
      | some _ => bif w.frozen? (a.add i) then none else stC a (i + 1) l (w.setCell (a.add i) v)
      | none => none) else none
def St0 (n : Nat) (w : World) (x u : Value) (k : KV) : Prop := match x with
  | .pointer (some a) => bif Nat.beq u.cells.size n then (match stC a 0 u.cells.toList w with
      | some w' => k undef w'
      | none => False) else False
  | _ => False
structure St (n : Nat) (w : World) (x u : Value) (k : KV) : Prop where
  out : St0 n w x u k
def New0 (cs : Array Value) (t : TypeId) (w : World) (k : KV) : Prop := k (.pointer (some ⟨w.heap.size, 0, none⟩)) (w.alloc (.cells cs t))
structure New (cs : Array Value) (t : TypeId) (w : World) (k : KV) : Prop where
  out : New0 cs t w k
def RunS0 (P : Program) (s : Sem Value) (w : World) (k : KV) : Prop := match s.run P w with
  | .ok v w' => k v w'
  | .halt _ _ => False
structure RunS (P : Program) (s : Sem Value) (w : World) (k : KV) : Prop where
  out : RunS0 P s w k
def RunU0 (P : Program) (s : Sem Unit) (w : World) (k : KV) : Prop := match s.run P w with
  | .ok _ w' => k undef w'
  | .halt _ _ => False
structure RunU (P : Program) (s : Sem Unit) (w : World) (k : KV) : Prop where
  out : RunU0 P s w k
def RetK (k : KV) : Ending → World → Prop
  | .returned v, w => k v w
  | _, _ => False
/-- A call that returns, and what then holds. -/
def Cl0 (P : Program) (g : FuncId) (args : List Value) (w : World) (k : KV) : Prop := Calls P g args.toArray w (RetK k)
structure Cl (P : Program) (g : FuncId) (args : List Value) (w : World) (k : KV) : Prop where
  out : Cl0 P g args w k
def SN (P : Program) (k : KV) : Result Next → Prop
  | .ok (.value v) w => k v w
  | .ok .skip w => k undef w
  | .ok (.enter g args) w => Cl P g args.toList w k
  | _ => False

theorem SN_enter (P : Program) (k : KV) (g : FuncId) (args : Array Value) (w : World) : SN P k (.ok (.enter g args) w) = Calls P g args w (RetK k) := propext ⟨fun h => h.out, fun h => ⟨h⟩⟩

def callB (P : Program) (g : FuncId) : Bool := match P.funcs[g]? with
  | some fn => fn.body.isSome && !(fn.name == "runtime.NumGoroutine")
  | none => false
/-- A call of a function value. -/
def ClV0 (P : Program) (fv : Value) (args : List Value) (w : World) (k : KV) : Prop := match fv with
  | .func (.func g) first captured => bif callB P g then Cl P g (first.toList ++ args ++ captured.toList) w k else False
  | _ => False
structure ClV (P : Program) (fv : Value) (args : List Value) (w : World) (k : KV) : Prop where
  out : ClV0 P fv args w k

theorem Cl.mono {P : Program} {g : FuncId} {args : List Value} {w : World} {k k' : KV} (h : Cl P g args w k) (hk : ∀ v w', k v w' → k' v w') : Cl P g args w k' :=
  ⟨Calls.mono h.out fun e w' he => by cases e <;> first | exact hk _ _ he | exact he⟩

def evs (f : Fr) (xs : Array Operand) : List Value := xs.toList.map (ev f)

def eff (P : Program) (f : Fr) (o : Oper) (w : World) (k : KV) : Prop := match o.op with
  | .load t a => (match aggB P t with
    | some false => Ld w (ev f a) k
    | some true => (match sizeB P t with
      | some n => LdN n w (ev f a) k
      | none => False)
    | none => False)
  | .store t a x => (match sizeB P t with
    | some n => St n w (ev f a) (ev f x) k
    | none => False)
  | .alloc t => (match zeroB P t with
    | some cs => New cs t w k
    | none => False)
  | .box t x => New (ev f x).cells t w k
  | .build t parts => RunS P (Instr.build t (parts.toList.map fun p => (p.1, ev f p.2)).toArray) w k
  | .buildSlice t len parts => RunS P (Instr.buildSlice t len (parts.toList.map fun p => (p.1, ev f p.2)).toArray) w k
  | .lookup t m i ok => RunS P (Instr.lookup t (ev f m) (ev f i) ok) w k
  | .mapUpdate t m i x => RunU P (Instr.mapUpdate t (ev f m) (ev f i) (ev f x)) w k
  | .range t x => RunS P (Instr.range t (ev f x)) w k
  | .next it s => RunS P (Instr.next (ev f it) s o.type) w k
  | .entry it => RunS P (Instr.entry (ev f it)) w k
  | .makeMap t r => RunS P (Instr.makeMap t (mapO f r)) w k
  | .makeSlice t l c => RunS P (Instr.makeSlice t (ev f l) (ev f c)) w k
  | .convert src dst x => RunS P (convert src dst (ev f x)) w k
  | .binOp op t x y _ => RunS P (do eqGuard op t x y (ev f x) (ev f y); binOp op t (ev f x) (ev f y)) w k
  | .slice t x lo hi mx => RunS P (Instr.sliceAt t (ev f x) (mapO f lo) (mapO f hi) (mapO f mx)) w k
  | .makeInterface t x => RunS P (Instr.makeInterface t (ev f x)) w k
  | .call c => (match c.callee with
    | .value (.func g) => bif callB P g then Cl P g (evs f c.args) w k else False
    | .value x => ClV P (ev f x) (evs f c.args) w k
    | .builtin .append => RunS P (Builtin.append_ c.argTypes o.type (evs f c.args).toArray) w k
    | .builtin .copy => RunS P (Builtin.copy_ c.argTypes o.type (evs f c.args).toArray) w k
    | .builtin .delete => RunS P (Builtin.delete_ c.argTypes o.type (evs f c.args).toArray) w k
    | .builtin .clear => RunS P (Builtin.clear_ c.argTypes o.type (evs f c.args).toArray) w k
    | .builtin .len => RunS P (Builtin.len_ c.argTypes o.type (evs f c.args).toArray) w k
    | .builtin .cap => RunS P (Builtin.cap_ c.argTypes o.type (evs f c.args).toArray) w k
    | _ => False)
  | _ => False

def mvV (f : Fr) (o : Oper) : Option Value := match o.op with
  | .move x | .assign x => some (ev f x)
  | .makeFunc fn first captured => some (.func fn ((first.toList.map (ev f)).toArray) ((captured.toList.map (ev f)).toArray))
  | _ => none
theorem mvV_pu {P : Program} {f : Fr} {o : Oper} {v : Value} (h : mvV f o = some v) : pu P f o = some (some v) := by
  obtain ⟨dst, op, type, pos, after, guard⟩ := o
  cases op <;> simp only [mvV, reduceCtorEq, Option.some.injEq] at h <;> subst h <;> rfl
def exO (P : Program) (f : Fr) (o : Oper) (w : World) (k : KV) : Prop := match mvV f o with
  | some v => k v w
  | none => (match pu P f o with
    | some r => Pu r (fun v => k v w)
    | none => eff P f o w k)
/-- The same with every pure operation alike. -/
theorem exO_eq (P : Program) (f : Fr) (o : Oper) (w : World) (k : KV) : exO P f o w k = (match pu P f o with
    | some r => Pu r (fun v => k v w)
    | none => eff P f o w k) := by
  unfold exO
  cases h : mvV f o with
  | none => rfl
  | some v => rw [mvV_pu (P := P) h]; simp only [Pu_some]

theorem evs_toArray (f : Fr) (xs : Array Operand) : (evs f xs).toArray = xs.map (ev f) := toList_map_toArray xs (ev f)

theorem RunS_SN {P : Program} {s : Sem Value} {w : World} {k : KV} (h : RunS P s w k) : SN P k ((do pure (Next.value (← s)) : Sem Next).run P w) := by
  have h := h.out
  unfold RunS0 at h
  simp only [Sem.run_bind]
  cases hs : s.run P w with
  | ok v w' => simp only [hs] at h; exact h
  | halt x w' => simp only [hs] at h
theorem RunU_SN {P : Program} {s : Sem Unit} {w : World} {k : KV} (h : RunU P s w k) : SN P k ((do s; pure Next.skip : Sem Next).run P w) := by
  have h := h.out
  unfold RunU0 at h
  simp only [Sem.run_bind]
  cases hs : s.run P w with
  | ok v w' => simp only [hs] at h; exact h
  | halt x w' => simp only [hs] at h

theorem loadCellsFrom_run {P : Program} {w : World} {a : Addr} : ∀ (n i : Nat) (acc : Array Value) (l : List Value), cellsAt w a i n = some l → (loadCellsFrom a i n acc).run P w = .ok (acc ++ l.toArray) w := by
  intro n
  induction n with
  | zero => intro i acc l h; simp [cellsAt] at h; subst h; simp [loadCellsFrom]
  | succ n ih =>
    intro i acc l h
    simp only [cellsAt] at h
    cases hc : w.cell? (a.add i) with
    | none => simp [hc] at h
    | some v =>
      simp only [hc] at h
      rw [Option.map_eq_some_iff] at h
      obtain ⟨l', hl, rfl⟩ := h
      simp [loadCellsFrom, hc, ih _ _ _ hl]

theorem storeCells_run {P : Program} {a : Addr} : ∀ (l : List Value) (i : Nat) (w w' : World), stC a i l w = some w' → (storeCells a l i).run P w = .ok () w' := by
  intro l
  induction l with
  | nil => intro i w w' h; simp [stC] at h; subst h; simp [storeCells]
  | cons v l ih =>
    intro i w w' h
    simp only [stC] at h
    cases hv : v.oneCell' with
    | false => simp [hv] at h
    | true =>
      simp only [hv, cond_true] at h
      cases hc : w.cell? (a.add i) with
      | none => simp [hc] at h
      | some u =>
        simp only [hc] at h
        cases hf : w.frozen? (a.add i) with
        | true => simp [hf] at h
        | false =>
          simp only [hf, cond_false] at h
          simp [storeCells, run_store _ _ _ _ _ hv, hc, hf, ih _ _ _ h]

theorem callFunc_run {P : Program} {g : FuncId} {args : Array Value} {w : World} (h : callB P g = true) : (callFunc g args).run P w = .ok (.enter g args) w := by
  unfold callB at h
  unfold callFunc
  simp only [Sem.run_bind, run_program, Result.andThen_ok]
  cases hf : P.funcs[g]? with
  | none => simp [hf] at h
  | some fn =>
    simp only [hf, Bool.and_eq_true, Bool.not_eq_true'] at h
    obtain ⟨hb, hn⟩ := h
    have hb' : fn.body.isNone = false := by cases hx : fn.body <;> simp_all
    simp only [hn, hb']
    rfl

theorem eff_run {P : Program} {f : Fr} {o : Oper} {w : World} {k : KV} (h : eff P f o w k) : SN P k ((execOp (ev f) o).run P w) := by
  obtain ⟨dst, op, type, pos, after, guard⟩ := o
  have hmo : ∀ q : Option Operand, Option.map (ev f) q = mapO f q := by intro q; cases q <;> rfl
  have hpr : ∀ parts : Array (Nat × Operand), (parts.map fun (i, x) => (i, ev f x)) = (parts.toList.map fun p => (p.1, ev f p.2)).toArray := fun parts => (toList_map_toArray parts _).symm
  cases op <;> simp only [eff] at h
  case load t a =>
    simp only [execOp, Instr.loadAt]
    cases ha : aggB P t with
    | none => simp [ha] at h
    | some b =>
      cases b with
      | false =>
        simp only [ha] at h
        have h := h.out
        cases hx : ev f a <;> simp only [hx, Ld0] at h
        rename_i ad; cases ad <;> simp only at h
        rename_i ad
        cases hc : w.cell? ad with
        | none => simp [hc] at h
        | some u => simp only [hc] at h; simp [Instr.sureAddr, loadVar, run_isAgg ha, hc]; exact h
      | true =>
        simp only [ha] at h
        cases hz : sizeB P t with
        | none => simp [hz] at h
        | some n =>
          simp only [hz] at h
          have h := h.out
          cases hx : ev f a <;> simp only [hx, LdN0] at h
          rename_i ad; cases ad <;> simp only at h
          rename_i ad
          cases hc : cellsAt w ad 0 n with
          | none => simp [hc] at h
          | some l => simp only [hc] at h; simp [Instr.sureAddr, loadVar, run_isAgg ha, run_sizeOf hz, loadCells, loadCellsFrom_run _ _ _ _ hc]; exact h
  case store t a x =>
    simp only [execOp, Instr.storeAt]
    cases hz : sizeB P t with
    | none => simp [hz] at h
    | some n =>
      simp only [hz] at h
      have h := h.out
      cases hx : ev f a <;> simp only [hx, St0] at h
      rename_i ad; cases ad <;> simp only at h
      rename_i ad
      cases hn : Nat.beq (ev f x).cells.size n with
      | false => simp [hn] at h
      | true =>
        have hn' := Nat.eq_of_beq_eq_true hn
        simp only [hn, cond_true] at h
        cases hs : stC ad 0 (ev f x).cells.toList w with
        | none => simp [hs] at h
        | some w' =>
          simp only [hs] at h
          simp [Instr.sureAddr, storeVar, run_sizeOf hz, hn', storeCells_run _ _ _ _ hs]; exact h
  case alloc t =>
    simp only [execOp]
    refine RunS_SN ?_
    unfold zeroB at h
    cases hi : P.info? t with
    | none => simp [hi] at h
    | some i =>
      cases hz : i.zero with
      | none => simp [hi, hz] at h
      | some z =>
        simp [hi, hz] at h
        have h := h.out
        refine ⟨?_⟩
        simp [RunS0, Instr.alloc, zeroValue, run_typeInfo hi, hz, newVar, newRow]
        exact h
  case box t x =>
    simp only [execOp]
    refine RunS_SN ?_
    have h := h.out
    refine ⟨?_⟩
    simp [RunS0, Instr.box, newVar, newRow]; exact h
  case build t parts => simp only [execOp, hpr]; exact RunS_SN h
  case buildSlice t n parts => simp only [execOp, hpr]; exact RunS_SN h
  case lookup => exact RunS_SN h
  case mapUpdate => exact RunU_SN h
  case range => exact RunS_SN h
  case next => exact RunS_SN h
  case entry => exact RunS_SN h
  case makeMap t r => simp only [execOp, hmo]; exact RunS_SN h
  case makeSlice => exact RunS_SN h
  case convert => exact RunS_SN h
  case binOp => exact RunS_SN h
  case slice t x lo hi mx => simp only [execOp, hmo]; exact RunS_SN h
  case makeInterface => exact RunS_SN h
  case call c =>
    obtain ⟨callee, args, argTypes⟩ := c
    cases callee <;> simp only at h
    case value x =>
      have general : ClV P (ev f x) (evs f args) w k → SN P k ((execOp (ev f) ⟨dst, .call ⟨.value x, args, argTypes⟩, type, pos, after, guard⟩).run P w) := by
        intro h
        simp only [execOp, resolve, Sem.run_bind]
        have h := h.out
        cases hx : ev f x <;> simp only [hx, ClV0] at h
        rename_i fn first captured
        cases fn <;> simp only at h
        rename_i g
        cases hb : callB P g with
        | false => simp [hb] at h
        | true =>
          simp only [hb, cond_true] at h
          simp only [Deferred.ofValue, Sem.run_pure, Result.andThen_ok, invoke, callFunc_run hb, SN_enter]
          have e : (first.toList ++ evs f args ++ captured.toList).toArray = first ++ args.map (ev f) ++ captured := by
            rw [← evs_toArray]; simp
          have h := h.out
          unfold Cl0 at h
          rw [e] at h
          exact h
      cases x <;> simp only at h
      case func g =>
        refine general ⟨?_⟩
        simp only [ev, ClV0]
        simpa using h
      all_goals exact general h
    case builtin b =>
      cases b <;> simp only [evs_toArray] at h
      all_goals (simp only [execOp, resolve, Sem.run_bind, Sem.run_pure, Result.andThen_ok, invoke, builtin]; have hr := RunS_SN h; simp only [Sem.run_bind, Sem.run_pure] at hr; exact hr)

theorem exO_run {P : Program} {f : Fr} {o : Oper} {w : World} {k : KV} (h : exO P f o w k) : SN P k ((execOp (ev f) o).run P w) := by
  rw [exO_eq] at h
  cases hp : pu P f o with
  | none => simp only [hp] at h; exact eff_run h
  | some r =>
    simp only [hp] at h
    cases r with
    | none => exact h.out.elim
    | some v => rw [pu_run hp]; exact h.out

end Go.Al
