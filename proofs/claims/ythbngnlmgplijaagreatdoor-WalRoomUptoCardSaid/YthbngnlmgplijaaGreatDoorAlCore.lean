/- A program logic for the model's code, in continuation-passing form: the meaning of a function's body as a proposition in which slots are gone, with its soundness over the kit's rules. -/
import Derived.WalkKit
import Derived.ProofKit
import Derived.Deep.Quiet
namespace Go.Al
set_option linter.unusedVariables false
set_option linter.unusedSimpArgs false
set_option linter.unusedSectionVars false

abbrev Fr := Nat → Value
abbrev KV := Value → World → Prop

def upd (f : Fr) (n : Nat) (v : Value) : Fr := fun j => bif Nat.beq j n then v else f j
def putF (n : Nat) (f : Fr) (d : Option Tmp) (v : Value) : Fr := match d with
  | none => f
  | some d => bif Nat.blt d n then upd f d v else f

def ev (f : Fr) : Operand → Value
  | .tmp t => f t
  | .const v => v
  | .global g => .pointer (some ⟨g, 0, none⟩)
  | .func g => .func (.func g) #[] #[]

def FR (a : Act) : Fr := fun j => a.tmps.getD j undef

theorem ev_FR (a : Act) : ev (FR a) = a.eval := by
  funext x; cases x <;> rfl

theorem FR_put (a : Act) (d : Option Tmp) (v : Value) : FR (a.put d v) = putF a.tmps.size (FR a) d v := by
  cases d with
  | none => rfl
  | some d =>
    funext j
    simp only [FR, Act.put, putF, upd, Array.getD_eq_getD_getElem?, Array.getElem?_setIfInBounds]
    by_cases hd : d < a.tmps.size
    · have hb : Nat.blt d a.tmps.size = true := by simpa [Nat.blt_eq] using hd
      simp only [hb, cond_true, upd]
      by_cases hj : j = d
      · subst hj; simp [hd]
      · have : Nat.beq j d = false := by cases h : Nat.beq j d with | false => rfl | true => exact absurd (Nat.eq_of_beq_eq_true h) hj
        simp [this, Ne.symm hj, FR]
    · have hb : Nat.blt d a.tmps.size = false := by
        cases h : Nat.blt d a.tmps.size with
        | false => rfl
        | true => exact absurd (by simpa [Nat.blt_eq] using h) hd
      simp only [hb, cond_false]
      by_cases hj : d = j
      · subst hj; simp [hd, FR]
      · simp [hj, FR]

theorem put_size (a : Act) (d : Option Tmp) (v : Value) : (a.put d v).tmps.size = a.tmps.size := by cases d <;> simp [Act.put]
theorem put_defers (a : Act) (d : Option Tmp) (v : Value) : (a.put d v).defers = a.defers := by cases d <;> simp [Act.put]

theorem putF_other {n : Nat} {f : Fr} {d : Option Tmp} {v : Value} {j : Nat} (h : d ≠ some j) : putF n f d v j = f j := by
  cases d with
  | none => rfl
  | some d =>
    simp only [putF]
    cases Nat.blt d n
    · rfl
    · have hne : j ≠ d := fun e => h (by rw [e])
      have : Nat.beq j d = false := by cases h : Nat.beq j d with | false => rfl | true => exact absurd (Nat.eq_of_beq_eq_true h) hne
      simp [upd, this]

/-! ### Results of pure operations -/

def Pu0 (r : Option Value) (k : Value → Prop) : Prop := match r with
  | some v => k v
  | none => False
structure Pu (r : Option Value) (k : Value → Prop) : Prop where
  out : Pu0 r k
theorem Pu_some (v : Value) (k : Value → Prop) : Pu (some v) k = k v := propext ⟨fun h => h.out, fun h => ⟨h⟩⟩

def pickV (c a b : Value) : Option Value := match c with
  | .bool true => some a
  | .bool false => some b
  | _ => none
def extV (t : Value) (i : Nat) : Option Value := match t with
  | .tuple vs => vs[i]?
  | _ => none
def nilV : Value → Option Value
  | .pointer (some a) => some (.pointer (some a))
  | .func (.func g) x y => some (.func (.func g) x y)
  | _ => none
def faV (off : Nat) : Value → Option Value
  | .pointer (some a) => some (.pointer (some (a.add off)))
  | _ => none
def ixV (sz : Nat) (x i : Value) : Option Value := match x, i with
  | .slice (some a) len _, .int _ n => if 0 ≤ n ∧ n < len then some (.pointer (some (a.add (n.toNat * sz)))) else none
  | _, _ => none
def ixA (len sz : Nat) (x i : Value) : Option Value := match x, i with
  | .pointer (some a), .int _ n => if 0 ≤ n ∧ n < len then some (.pointer (some (a.add (n.toNat * sz)))) else none
  | _, _ => none
def ixS (x i : Value) : Option Value := match x, i with
  | .string s, .int _ n => if 0 ≤ n then (s[n.toNat]?).map (fun b => .int .u8 b.toNat) else none
  | _, _ => none
def partV (agg : Bool) (sz : Nat) (cs : Array Value) (off : Nat) : Option Value := bif agg then some (.agg (cs.extract off (off + sz))) else cs[off]?
def fldV (agg : Bool) (sz off : Nat) : Value → Option Value
  | .agg cs => partV agg sz cs off
  | _ => none
def ixG (agg : Bool) (len sz : Nat) (x i : Value) : Option Value := match x, i with
  | .agg cs, .int _ n => if 0 ≤ n ∧ n < len then partV agg sz cs (n.toNat * sz) else none
  | _, _ => none
def unV (op : UnOp) (x : Value) : Option Value := match op, x with
  | .neg, .int k n => some (.int k (k.wrap (0 - n)))
  | .xor, .int k n => some (.int k (k.wrap ((BitVec.ofInt k.bits (if k.signed then -1 else k.max)) ^^^ (BitVec.ofInt k.bits n)).toNat))
  | .not, .bool b => some (.bool !b)
  | _, _ => none
/-- Operators on integers. -/
def binI (op : BinOp) (k : IntKind) (a b : Int) : Option Value := match op with
  | .add => some (.int k (k.wrap (a + b)))
  | .sub => some (.int k (k.wrap (a - b)))
  | .mul => some (.int k (k.wrap (a * b)))
  | .quo => if b = 0 then none else some (.int k (k.wrap (a.tdiv b)))
  | .rem => if b = 0 then none else some (.int k (a.tmod b))
  | .and => some (.int k (k.wrap ((BitVec.ofInt k.bits a) &&& (BitVec.ofInt k.bits b)).toNat))
  | .or => some (.int k (k.wrap ((BitVec.ofInt k.bits a) ||| (BitVec.ofInt k.bits b)).toNat))
  | .xor => some (.int k (k.wrap ((BitVec.ofInt k.bits a) ^^^ (BitVec.ofInt k.bits b)).toNat))
  | .andNot => some (.int k (k.wrap ((BitVec.ofInt k.bits a) &&& ~~~ (BitVec.ofInt k.bits b)).toNat))
  | .eql => some (.bool (a == b))
  | .neq => some (.bool (a != b))
  | .lss => some (.bool (decide (a < b)))
  | .leq => some (.bool (decide (a ≤ b)))
  | .gtr => some (.bool (decide (a > b)))
  | .geq => some (.bool (decide (a ≥ b)))
  | _ => none
def shV (op : BinOp) (k : IntKind) (a b : Int) : Option Value :=
  if b < 0 then none else match op with
    | .shl => some (.int k (k.wrap (a * 2 ^ (min b.toNat k.bits))))
    | .shr => some (.int k (a.fdiv (2 ^ (min b.toNat k.bits))))
    | _ => none
def binS (op : BinOp) (x y : ByteArray) : Option Value := match op with
  | .add => if ((x.size + y.size : Nat) : Int) > IntKind.i64.max then none else some (.string (x ++ y))
  | .eql => some (.bool (x.toList == y.toList))
  | .neq => some (.bool !(x.toList == y.toList))
  | .lss => some (.bool (Op.bytesLess x.toList y.toList))
  | .leq => some (.bool (Op.bytesLess x.toList y.toList || x.toList == y.toList))
  | .gtr => some (.bool !(Op.bytesLess x.toList y.toList || x.toList == y.toList))
  | .geq => some (.bool !(Op.bytesLess x.toList y.toList))
  | _ => none
/-- '==' where it looks at no memory. -/
def eqV (d : TypeDesc) (x y : Value) : Option Bool := match d, x, y with
  | .bool, .bool a, .bool b => some (a == b)
  | .pointer _, .pointer none, .pointer b => some b.isNone
  | .pointer _, .pointer (some _), .pointer none => some false
  | .slice _, .slice none _ _, .slice b _ _ => some b.isNone
  | .slice _, .slice (some _) _ _, .slice none _ _ => some false
  | .map _ _, .map none, .map b => some b.isNone
  | .map _ _, .map (some _), .map none => some false
  | _, _, _ => none
def isSh : BinOp → Bool
  | .shl | .shr => true
  | _ => false
def binV (d : TypeDesc) (op : BinOp) (x y : Value) : Option Value := match x, y with
  | .int k a, .int k' b => bif isSh op then shV op k a b else if k = k' then binI op k a b else none
  | .string a, .string b => binS op a b
  | x, y => match op with
    | .eql => (eqV d x y).map .bool
    | .neq => (eqV d x y).map fun b => .bool (!b)
    | _ => none
def cvI (k : IntKind) : Value → Option Value
  | .int _ n => some (.int k (k.wrap n))
  | _ => none
def cvS : Value → Option Value
  | .string s => some (.string s)
  | _ => none
def bnd (y : Nat) (d : Nat) : Option Value → Option Nat
  | none => some d
  | some (.int _ i) => if 0 ≤ i ∧ i ≤ y then some i.toNat else none
  | some _ => none
def slS (x : Value) (lo hi : Option Value) : Option Value := match x with
  | .string s => (bnd s.size s.size hi).bind fun h => (bnd h 0 lo).map fun l => .string (s.extract l h)
  | _ => none
def bndH (m len : Nat) (hi mx : Option Value) : Option Nat := match hi with
  | some y => bnd m len (some y)
  | none => (match mx with
    | some _ => none
    | none => some len)
def slV (sz : Nat) (x : Value) (lo hi mx : Option Value) : Option Value := match x with
  | .slice a len cap => (bnd cap cap mx).bind fun m => (bndH m len hi mx).bind fun h => (bnd h 0 lo).map fun l =>
      .slice (if m = l then a else a.map (fun b => Addr.add b (l * sz))) (h - l) (m - l)
  | _ => none
def lenV : Value → Option Value
  | .slice _ n _ => some (.int .i64 n)
  | _ => none
def lenS : Value → Option Value
  | .string s => some (.int .i64 s.size)
  | _ => none
def capV : Value → Option Value
  | .slice _ _ n => some (.int .i64 n)
  | _ => none
def min2V : Value → Value → Option Value
  | .int k x, .int _ y => some (.int k (if y < x then y else x))
  | _, _ => none
def max2V : Value → Value → Option Value
  | .int k x, .int _ y => some (.int k (if y > x then y else x))
  | _, _ => none
def foldV (g : Value → Value → Option Value) : List Value → Value → Option Value
  | [], x => some x
  | y :: r, x => (g x y).bind fun z => foldV g r z
def foldV0 (g : Value → Value → Option Value) : List Value → Option Value
  | [] => none
  | x :: r => foldV g r x

/-! ### What the tables say -/

def aggB (P : Program) (t : TypeId) : Option Bool := match P.underlying t with
  | some (.struct _) | some (.array _ _) => some true
  | some _ => some false
  | none => none
def sizeB (P : Program) (t : TypeId) : Option Nat := (P.info? t).map (·.size)
def fieldB (P : Program) (s : TypeId) (i : Nat) : Option Field := match P.underlying s with
  | some (.struct fs) => fs[i]?
  | _ => none
def zeroB (P : Program) (t : TypeId) : Option (Array Value) := ((P.info? t).bind (·.zero)).map (·.cells)

def mapO (f : Fr) : Option Operand → Option Value
  | none => none
  | some x => some (ev f x)

/-- A pure operation's result: 'none': not one of them. -/
def lenP (P : Program) (at_ : Array TypeId) (x : Value) : Option (Option Value) := match at_.toList with
  | t :: _ => (match P.underlying t with
    | some .string => some (lenS x)
    | some (.slice _) => some (lenV x)
    | some (.array n _) => some (some (.int .i64 n))
    | _ => none)
  | [] => none
def pu (P : Program) (f : Fr) (o : Oper) : Option (Option Value) := match o.op with
  | .move x | .assign x => some (some (ev f x))
  | .pick c a b => some (pickV (ev f c) (ev f a) (ev f b))
  | .extract t i => some (extV (ev f t) i)
  | .nilCheck x => some (nilV (ev f x))
  | .fieldAddr s x i => some (match fieldB P s i with
    | some fd => (match sizeB P fd.type with
      | some (_ + 1) => faV fd.offset (ev f x)
      | _ => none)
    | none => none)
  | .field s x i => some (match fieldB P s i with
    | some fd => (match aggB P fd.type, sizeB P fd.type with
      | some a, some n => fldV a n fd.offset (ev f x)
      | _, _ => none)
    | none => none)
  | .indexAddr t x i => some (match P.underlying t with
    | some (.slice e) => (match sizeB P e with
      | some n => ixV n (ev f x) (ev f i)
      | none => none)
    | some (.array (len + 2) e) => (match sizeB P e with
      | some n => ixA (len + 2) n (ev f x) (ev f i)
      | none => none)
    | _ => none)
  | .index t x i => some (match P.underlying t with
    | some .string => ixS (ev f x) (ev f i)
    | some (.array len e) => (match aggB P e, sizeB P e with
      | some a, some n => ixG a len n (ev f x) (ev f i)
      | _, _ => none)
    | _ => none)
  | .unOp op _ x => some (unV op (ev f x))
  | .binOp op t x y _ => (match P.underlying t with
    | some (.struct _) | some (.array _ _) | some (.interface _) | none => none
    | some d => some (binV d op (ev f x) (ev f y)))
  | .convert src dst x => (match P.underlying src, P.underlying dst with
    | some (.int _), some (.int k) => some (cvI k (ev f x))
    | some .string, some .string => some (cvS (ev f x))
    | _, _ => none)
  | .slice t x lo hi mx => (match P.underlying t with
    | some .string => (match mx with
      | none => some (slS (ev f x) (mapO f lo) (mapO f hi))
      | some _ => none)
    | some (.slice e) => some (match sizeB P e with
      | some n => slV n (ev f x) (mapO f lo) (mapO f hi) (mapO f mx)
      | none => none)
    | _ => none)
  | .makeFunc fn first captured => some (some (.func fn ((first.toList.map (ev f)).toArray) ((captured.toList.map (ev f)).toArray)))
  | .call c => (match c.callee with
    | .builtin .len => (match c.args.toList with
      | x :: _ => lenP P c.argTypes (ev f x)
      | [] => none)
    | .builtin .min => some (foldV0 min2V (c.args.toList.map (ev f)))
    | .builtin .max => some (foldV0 max2V (c.args.toList.map (ev f)))
    | _ => none)
  | _ => none

theorem run_underlying {P : Program} {t : TypeId} {d : TypeDesc} (h : P.underlying t = some d) (w : World) : (underlying t).run P w = .ok d w := by
  simp [underlying, h]
theorem run_typeInfo {P : Program} {t : TypeId} {i : TypeInfo} (h : P.info? t = some i) (w : World) : (typeInfo t).run P w = .ok i w := by
  simp [typeInfo, h]
theorem sizeB_info {P : Program} {t : TypeId} {n : Nat} (h : sizeB P t = some n) : ∃ i, P.info? t = some i ∧ i.size = n := by
  unfold sizeB at h
  cases hi : P.info? t with
  | none => simp [hi] at h
  | some i => exact ⟨i, rfl, by simpa [hi] using h⟩
theorem run_sizeOf {P : Program} {t : TypeId} {n : Nat} (h : sizeB P t = some n) (w : World) : (sizeOf t).run P w = .ok n w := by
  obtain ⟨i, hi, rfl⟩ := sizeB_info h
  simp [sizeOf, run_typeInfo hi]
theorem run_isAgg {P : Program} {t : TypeId} {b : Bool} (h : aggB P t = some b) (w : World) : (isAgg t).run P w = .ok b w := by
  unfold aggB at h
  cases hu : P.underlying t with
  | none => simp [hu] at h
  | some d =>
    simp only [isAgg, Sem.run_bind, run_underlying hu, Result.andThen_ok]
    rw [hu] at h
    cases d <;> simp at h <;> subst h <;> rfl
theorem run_part {P : Program} {t : TypeId} {a : Bool} {n : Nat} (ha : aggB P t = some a) (hn : sizeB P t = some n) {cs : Array Value} {off : Nat} {v : Value}
    (h : partV a n cs off = some v) (w : World) : (part t cs off).run P w = .ok v w := by
  unfold partV at h
  cases a with
  | true => simp at h; subst h; simp [part, run_isAgg ha, run_sizeOf hn]
  | false => simp at h; simp [part, run_isAgg ha, h]

theorem bnd_run {P : Program} {y : Nat} {code : BoundsCode} {x : Value} {n d : Nat} (h : bnd y d (some x) = some n) (w : World) : (Instr.sliceBound x y code).run P w = .ok n w := by
  cases x <;> simp [bnd] at h
  rename_i k i
  obtain ⟨⟨h1, h2⟩, rfl⟩ := h
  simp [Instr.sliceBound, asIntOf, h1, h2]

theorem run_foldlM {P : Program} {g : Value → Value → Option Value} {s : Value → Value → Sem Value} (hs : ∀ x y v, g x y = some v → ∀ w, (s x y).run P w = .ok v w) :
    ∀ (l : List Value) (x v : Value), foldV g l x = some v → ∀ w, (l.foldlM s x).run P w = .ok v w := by
  intro l
  induction l with
  | nil => intro x v h w; simp [foldV] at h; subst h; simp
  | cons y r ih =>
    intro x v h w
    simp only [foldV] at h
    cases hg : g x y with
    | none => simp [hg] at h
    | some z => simp only [hg, Option.bind_some] at h; simp [hs _ _ _ hg, ih _ _ h]

theorem toList_map_toArray {α β : Type} (a : Array α) (g : α → β) : (a.toList.map g).toArray = a.map g := by
  apply Array.ext' ; simp

end Go.Al
