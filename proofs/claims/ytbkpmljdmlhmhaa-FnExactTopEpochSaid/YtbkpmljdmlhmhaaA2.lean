/- AN ABSTRACT MACHINE, 3: what each operation does to abstract values and blocks; code; what is to be shown of a function's body ('aw'). No condition of its own. -/
import Derived.Test.YtbkpmljdmlhmhaaA1
set_option linter.unusedVariables false
set_option linter.unusedSimpArgs false
namespace Go.AM
open Go

/-! ### types, as far as the machine asks of them -/
inductive CK where
  | sc (z : Tr)
  | sl (sz : Nat)
  | pt (t : Nat)
inductive TK where
  | bool | int (k : IntKind) | str | slice (e : Nat) | struct (fs : List (Nat × Nat)) | array (n e : Nat) | ptr (e : Nat) | other
structure TI where
  kd : TK
  size : Nat
  bytes : Nat
  sh : List CK
def TK.agg : TK → Bool
  | .struct _ | .array .. => true
  | _ => false
abbrev TTab := Nat → Option TI
/-- the shape of a slice type's elements: cells, bytes -/
def elemOf (τ : TTab) (t : Nat) : Option TI :=
  match τ t with
  | some { kd := .slice e, .. } => τ e
  | _ => none
def Tr.av : Tr → AV
  | .int k n => .int k n
  | .bool b => .bool b
  | .str s => .str s
  | .row sz n cs => .ro none sz n cs
  | _ => .any
def CK.av : CK → AV
  | .sc (.int k n) => .int k n
  | .sc (.bool b) => .bool b
  | .sc (.str s) => .str s
  | .sc _ => .any
  | .sl _ => .nils
  | .pt _ => .any
def CK.tr : CK → Tr
  | .sc (.int k n) => .int k n
  | .sc (.bool b) => .bool b
  | .sc (.str s) => .str s
  | .sc _ => .bool false
  | .sl sz => .row sz 0 []
  | .pt _ => .hole

def cst : Value → AV
  | .int k n => .int k n
  | .bool b => .bool b
  | .string s => .str s
  | .slice none 0 0 => .nils
  | _ => .any
def evA (tm : Nat → AV) : Operand → AV
  | .tmp t => tm t
  | .const v => cst v
  | .func f => .fn f
  | .global _ => .any
/-- a value whose cells are told -/
def AV.known : AV → Bool
  | .any | .tup _ => false
  | _ => true
def AV.cells : AV → List AV
  | .agg cs => cs
  | v => [v]

/-! ### elements of a row: sz cells each -/
def el (cs : List Tr) (sz i : Nat) : List Tr := (cs.drop (i * sz)).take sz
def upEl (cs : List Tr) (sz i : Nat) (L : List Tr) : List Tr := cs.take (i * sz) ++ L ++ cs.drop (i * sz + sz)
def setAt {α : Type} : List α → Nat → List α → List α
  | cs, _, [] => cs
  | cs, i, x :: xs => setAt (cs.set i x) (i + 1) xs
def Blk.gen : Blk → Nat
  | .row g .. | .box g .. | .gone g | .lent g .. | .lentB g _ => g

def Tr.isSc : Tr → Bool
  | .int .. | .bool _ | .str _ => true
  | _ => false
/-- scalars alone -/
def scal (cs : List Tr) : Prop := ∀ t, t ∈ cs → t.isSc = true

/-! ### small steps -/
namespace AM
def getRow {α : Type} (nm g sz : Nat) (k : Nat → Nat → List Tr → AM α) : AM α :=
  .get nm fun
    | some (.row g' v sz' n cs) => if g' = g ∧ sz' = sz then k v n cs else .fail
    | _ => .fail
def getBox {α : Type} (nm g : Nat) (k : Nat → List AV → AM α) : AM α :=
  .get nm fun
    | some (.box g' t cs) => if g' = g then k t cs else .fail
    | _ => .fail
/-- a new block of the name nm -/
def mk {α : Type} (nm : Nat) (b : Nat → Blk) (k : Nat → AM α) : AM α :=
  .get nm fun
    | none => .set nm (b 0) (k 0)
    | some o => .set nm (b (o.gen + 1)) (k (o.gen + 1))
/-- the row in place j of element i -/
def getInn {α : Type} (nm g i j v sz : Nat) (k : Nat → Nat → Nat → List Tr → List Tr → Nat → List Tr → AM α) : AM α :=
  .get nm fun
    | some (.row g' v' sz' n cs) => if g' = g ∧ v' = v then .look (el cs sz' i) fun L => match L[j]? with
        | some (.row s2 n2 cs2) => if s2 = sz then k sz' n v' cs L n2 cs2 else .fail
        | _ => .fail
      else .fail
    | _ => .fail
/-- what a slice holds -/
def rdRow {α : Type} (sz : Nat) (x : AV) (k : Nat → List Tr → AM α) : AM α :=
  match x with
  | .nils => k 0 []
  | .ro _ sz' n cs => if sz' = sz then k n cs else .fail
  | .own nm g => getRow nm g sz fun _ n cs => k n cs
  | .cut nm g off n => getRow nm g sz fun _ _ cs => .look ((cs.drop (off * sz)).take (n * sz)) fun L => k n L
  | .inn nm g i j v => getInn nm g i j v sz fun _ _ _ _ _ n2 cs2 => k n2 cs2
  | _ => .fail
/-- of a row that came in no more is to be shown -/
def AV.isRo : AV → Bool
  | .ro .. | .nils => true
  | _ => false
/-- an element's row goes out of its place -/
def takeInn {α : Type} (nm g i j v sz : Nat) (k : Nat → List Tr → AM α) : AM α :=
  getInn nm g i j v sz fun sz' n v' cs L n2 cs2 => .set nm (.row g v' sz' n (upEl cs sz' i (L.set j .hole))) (k n2 cs2)
/-- a cell's value, as a tree of its own: what it owned is its no more -/
def toT {α : Type} (c : CK) (x : AV) (k : Tr → AM α) : AM α :=
  match c, x with
  | .sc _, .int kd n => k (.int kd n)
  | .sc _, .bool b => k (.bool b)
  | .sc _, .str s => k (.str s)
  | .sl sz, .nils => k (.row sz 0 [])
  | .sl sz, .own nm g => getRow nm g sz fun _ n cs => .set nm (.gone g) (k (.row sz n cs))
  | .sl _, .ro (some tg) _ _ _ => k (.tag tg)
  | .sl sz, .inn nm g i j v => takeInn nm g i j v sz fun n cs => k (.row sz n cs)
  | _, _ => .fail
def toTL {α : Type} : List CK → List AV → (List Tr → AM α) → AM α
  | [], [], k => k []
  | c :: cs, x :: xs, k => toT c x fun t => toTL cs xs fun ts => k (t :: ts)
  | _, _, _ => .fail
/-! ### calls -/
inductive Bk where
  | none
  | nil
  | row (nm g v sz n : Nat)
  | inn (nm g i j v sz n : Nat)
  | box (nm g t : Nat) (os : List AV)
  | agg (bs : List Bk)
def hnd {α : Type} (how : Hn) (c : CK) (x : AV) (k : PA → Bk → List AV → AM α) : AM α :=
  match c, x with
  | .sc _, .int kd n => k (.ro (.int kd n)) .none []
  | .sc _, .bool b => k (.ro (.bool b)) .none []
  | .sc _, .str s => k (.ro (.str s)) .none []
  | .sl sz, x => match how, x with
    | .ro, x => rdRow sz x fun n cs => if AV.isRo x then k (.ro (.row sz n cs)) .none [x] else .req (Tr.plainL cs) (k (.ro (.row sz n cs)) .none [x])
    | .nil, .nils => k .nils .none []
    | _, .own nm g => getRow nm g sz fun v n cs => .req (Tr.plainL cs) (.set nm (.lent g v sz n) (k (.own (.row sz n cs)) (.row nm g v sz n) []))
    | _, .inn nm g i j v => takeInn nm g i j v sz fun n cs => .req (Tr.plainL cs) (k (.own (.row sz n cs)) (.inn nm g i j v sz n) [])
    | _, .nils => k (.own (.row sz 0 [])) .nil []
    | _, x => rdRow sz x fun n cs => if AV.isRo x then k (.ro (.row sz n cs)) .none [x] else .req (Tr.plainL cs) (k (.ro (.row sz n cs)) .none [x])
  | _, _ => .fail
def hndL {α : Type} (how : Hn) : List CK → List AV → (List PA → List Bk → List AV → AM α) → AM α
  | [], [], k => k [] [] []
  | c :: cs, x :: xs, k => hnd how c x fun p b l => hndL how cs xs fun ps bs l2 => k (p :: ps) (b :: bs) (l ++ l2)
  | _, _, _ => .fail
/-- an argument of type t -/
def hndA {α : Type} (τ : TTab) (how : Hn) (t : Nat) (x : AV) (k : PA → Bk → List AV → AM α) : AM α :=
  match x with
  | .fn f => k (.fn f) .none []
  | .agg xs => match τ t with
    | some i => if i.kd.agg then hndL how i.sh xs fun ps bs l => k (.agg ps) (.agg bs) l else .fail
    | none => .fail
  | .ptr nm g 0 0 => getBox nm g fun e cs => match τ e with
    | some j => .set nm (.lentB g e) (hndL .own j.sh cs fun ps bs l => k (.box e ps) (.box nm g e cs) l)
    | none => .fail
  | x => match τ t with
    | some { kd := kd, sh := [c], .. } => if kd.agg then .fail else hnd how c x k
    | _ => .fail
def hndAL {α : Type} (τ : TTab) : List Hn → List Nat → List AV → (List PA → List Bk → List AV → AM α) → AM α
  | _, [], [], k => k [] [] []
  | ms, t :: ts, x :: xs, k => hndA τ (ms.headD .ro) t x fun p b l => hndAL τ ms.tail ts xs fun ps bs l2 => k (p :: ps) (b :: bs) (l ++ l2)
  | _, _, _, _ => .fail
def AV.nm : AV → Option Nat
  | .own nm _ | .cut nm _ _ _ | .inn nm _ _ _ _ => some nm
  | _ => none
def AV.isInn : AV → Bool
  | .inn .. => true
  | _ => false
def Bk.inn1 : Bk → Bool
  | .inn .. => true
  | .box _ _ _ os => os.any AV.isInn
  | _ => false
def Bk.isInn : Bk → Bool
  | .agg bs => bs.any Bk.inn1
  | b => b.inn1
/-- what is read by a call is none of what it may write -/
def chk {α : Type} (bs : List Bk) : List AV → AM α → AM α
  | [], k => k
  | x :: xs, k => match AV.nm x with
    | none => chk bs xs k
    | some nm => .get nm fun
      | some (.row ..) => if bs.any Bk.isInn = true then .fail else chk bs xs k
      | _ => .fail
/-- a tree that a call left, as a value: what it owns gets a name (D, D + 1, ..; or that which the place had) -/
def exT {α : Type} (tgs : List AV) (D j : Nat) (old : AV) (t : Tr) (k : Nat → AV → AM α) : AM α :=
  match t with
  | .int kd n => k j (.int kd n)
  | .bool b => k j (.bool b)
  | .str s => k j (.str s)
  | .row sz n cs => match old with
    | .own nm g => .get nm fun
      | some (.lent g' _ _ _) => if g' = g then .set nm (.row (g + 1) 0 sz n cs) (k j (.own nm (g + 1))) else .fail
      | _ => .fail
    | _ => mk (D + j) (fun g => .row g 0 sz n cs) fun g => k (j + 1) (.own (D + j) g)
  | .tag i => k j (tgs.getD i .any)
  | _ => k j .any
def exTL {α : Type} (tgs : List AV) (D : Nat) : Nat → List AV → List Tr → (Nat → List AV → AM α) → AM α
  | j, _, [], k => k j []
  | j, os, t :: ts, k => exT tgs D j (os.headD .any) t fun j x => exTL tgs D j os.tail ts fun j xs => k j (x :: xs)
/-- a result: a struct, too, and a pointer to one -/
def exR {α : Type} (tgs : List AV) (D j : Nat) (t : Tr) (k : Nat → AV → AM α) : AM α :=
  match t with
  | .agg cs => exTL tgs D j [] cs fun j xs => k j (.agg xs)
  | .box t cs => exTL tgs D (j + 1) [] cs fun j2 xs => mk (D + j) (fun g => .box g t xs) fun g => k j2 (.ptr (D + j) g 0 0)
  | t => exT tgs D j .any t k
def exRL {α : Type} (tgs : List AV) (D : Nat) : Nat → List Tr → (Nat → List AV → AM α) → AM α
  | j, [], k => k j []
  | j, t :: ts, k => exR tgs D j t fun j x => exRL tgs D j ts fun j xs => k j (x :: xs)
def exRes {α : Type} (tgs : List AV) (D j : Nat) (t : Tr) (k : Nat → AV → AM α) : AM α :=
  match t with
  | .tup ts => exRL tgs D j ts fun j xs => k j (.tup xs)
  | t => exR tgs D j t k
def bk1 {α : Type} (b : Bk) (p : PB) (k : AM α) : AM α :=
  match b, p with
  | .row nm g v sz n, .own (.row sz' n' cs) => .get nm fun
      | some (.lent g' v' sz2 n2) => if g' = g ∧ v' = v ∧ sz2 = sz ∧ sz' = sz then .req (n2 = n ∧ n' = n) (.set nm (.row g (v + 1) sz n cs) k) else .fail
      | _ => .fail
  | .nil, _ => k
  | .inn nm g i j v sz n, .own (.row sz' n' cs2) => .get nm fun
      | some (.row g' v' szr nr cs) => if g' = g ∧ v' = v ∧ sz' = sz then .req (n' = n) (.look (el cs szr i) fun L => match L[j]? with
          | some .hole => .set nm (.row g' (v' + 1) szr nr (upEl cs szr i (L.set j (.row sz' n' cs2)))) k
          | _ => .fail)
        else .fail
      | _ => .fail
  | .row nm g v sz n, .gone => .get nm fun
      | some (.lent g' _ _ _) => if g' = g then .set nm (.gone g) k else .fail
      | _ => .fail
  | .none, .keep => k
  | _, _ => .fail
def bk1L {α : Type} : List Bk → List PB → AM α → AM α
  | [], [], k => k
  | b :: bs, p :: ps, k => bk1 b p (bk1L bs ps k)
  | _, _, _ => .fail
def bkA {α : Type} (tgs : List AV) (D j : Nat) (b : Bk) (p : PB) (k : Nat → AM α) : AM α :=
  match b, p with
  | .box nm g t os, .box ts => exTL tgs D j os ts fun j xs => .get nm fun
      | some (.lentB g' t') => if g' = g ∧ t' = t then .set nm (.box g t xs) (k j) else .fail
      | _ => .fail
  | .agg bs, .agg ps => bk1L bs ps (k j)
  | .agg bs, .keep => k j
  | b, p => bk1 b p (k j)
def bkAL {α : Type} (tgs : List AV) (D : Nat) : Nat → List Bk → List PB → (Nat → AM α) → AM α
  | j, [], [], k => k j
  | j, b :: bs, p :: ps, k => bkA tgs D j b p fun j => bkAL tgs D j bs ps k
  | _, _, _, _ => .fail

/-! ### pure operations -/
def byteTr : Tr → UInt8
  | .int _ n => UInt8.ofNat n.toNat
  | _ => 0
def bitsI (op : BinOp) (k : IntKind) (x y : Int) : Option Int :=
  let a := BitVec.ofInt k.bits x
  let b := BitVec.ofInt k.bits y
  match op with
  | .and => some (k.wrap (a &&& b).toNat)
  | .or => some (k.wrap (a ||| b).toNat)
  | .xor => some (k.wrap (a ^^^ b).toNat)
  | .andNot => some (k.wrap (a &&& ~~~b).toNat)
  | _ => none
def binI (op : BinOp) (k : IntKind) (a b : Int) : AM AV :=
  match op with
  | .add => .ret (.int k (k.wrap (a + b)))
  | .sub => .ret (.int k (k.wrap (a - b)))
  | .mul => .ret (.int k (k.wrap (a * b)))
  | .quo => .req (b ≠ 0) (.ret (.int k (k.wrap (a.tdiv b))))
  | .rem => .req (b ≠ 0) (.ret (.int k (a.tmod b)))
  | .eql => .ret (.bool (a == b))
  | .neq => .ret (.bool (a != b))
  | .lss => .ret (.bool (a < b))
  | .leq => .ret (.bool (a ≤ b))
  | .gtr => .ret (.bool (a > b))
  | .geq => .ret (.bool (a ≥ b))
  | .shl => .req (0 ≤ b) (.ret (.int k (k.wrap (a * 2 ^ (min b.toNat k.bits)))))
  | .shr => .req (0 ≤ b) (.ret (.int k (a.fdiv (2 ^ (min b.toNat k.bits)))))
  | op => match bitsI op k a b with
    | some r => .ret (.int k r)
    | none => .fail
def binS (op : BinOp) (x y : ByteArray) : AM AV :=
  match op with
  | .add => .req (((x.size + y.size : Nat) : Int) ≤ IntKind.i64.max) (.ret (.str (x ++ y)))
  | .eql => .ret (.bool (x.toList == y.toList))
  | .neq => .ret (.bool (!(x.toList == y.toList)))
  | .lss => .ret (.bool (Op.bytesLess x.toList y.toList))
  | .leq => .ret (.bool (Op.bytesLess x.toList y.toList || x.toList == y.toList))
  | .gtr => .ret (.bool (!(Op.bytesLess x.toList y.toList || x.toList == y.toList)))
  | .geq => .ret (.bool (!Op.bytesLess x.toList y.toList))
  | _ => .fail
/-- a slice beside nil -/
def nilA (x : AV) (k : Bool → AV) : AM AV :=
  match x with
  | .nils => .pick fun b => .ret (k b)
  | .ro _ _ _ cs => match cs with
    | [] => .pick fun b => .ret (k b)
    | _ :: _ => .ret (k false)
  | .own nm g => .get nm fun
    | some (.row g' _ _ _ cs) => if g' = g then (match cs with
      | [] => .pick fun b => .ret (k b)
      | _ :: _ => .ret (k false)) else .fail
    | _ => .fail
  | _ => .fail
def nilCmp (τ : TTab) (op : BinOp) (t : Nat) (x : AV) : AM AV :=
  match τ t with
  | some { kd := .slice _, .. } => match op with
    | .eql => nilA x fun b => .bool b
    | .neq => nilA x fun b => .bool (!b)
    | _ => .fail
  | _ => .fail
def isNilC : Value → Bool
  | .slice none 0 0 => true
  | _ => false
def nilOp : Op → Bool
  | .binOp _ _ _ (.const v) _ => isNilC v
  | _ => false
def bin (τ : TTab) (t : Nat) (op : BinOp) (x y : AV) : AM AV :=
  match x, y with
  | .bool a, .bool b => match τ t with
    | some { kd := .bool, .. } => match op with
      | .eql => .ret (.bool (a == b))
      | .neq => .ret (.bool (!(a == b)))
      | _ => .fail
    | _ => .fail
  | .int k a, .int k' b => match op with
    | .shl => binI .shl k a b
    | .shr => binI .shr k a b
    | op => if k = k' then binI op k a b else .fail
  | .str a, .str b => binS op a b
  | _, _ => .fail
def una (op : UnOp) (x : AV) : AM AV :=
  match op, x with
  | .not, .bool b => .ret (.bool (!b))
  | .neg, .int k n => .ret (.int k (k.wrap (0 - n)))
  | .xor, .int k n => match bitsI .xor k (if k.signed then -1 else k.max) n with
    | some r => .ret (.int k r)
    | none => .fail
  | _, _ => .fail
def conv (τ : TTab) (src dst : Nat) (x : AV) (D : Nat) : AM AV :=
  match τ src, τ dst with
  | some sI, some d => match d.kd, x with
    | .int k, .int _ n => .ret (.int k (k.wrap n))
    | .str, .str s => .ret (.str s)
    | .str, x => match sI.kd with
      | .slice e => match τ e with
        | some { kd := .int .u8, .. } => rdRow 1 x fun n cs => .req (∃ l : List Int, cs = l.map (Tr.int .u8)) (.ret (.str ⟨(cs.map byteTr).toArray⟩))
        | _ => .fail
      | _ => .fail
    | .slice e, .str s => match sI.kd, τ e with
      | .str, some { kd := .int .u8, .. } => .req (s.size ≤ maxL) (.look (s.data.toList.map fun b => Tr.int .u8 b.toNat) fun L => mk D (fun g => .row g 0 1 s.size L) fun g => .ret (.own D g))
      | _, _ => .fail
    | _, _ => .fail
  | _, _ => .fail
/-- n cells from off on -/
def part (τ : TTab) (t : Nat) (cs : List AV) (off : Nat) : AM AV :=
  match τ t with
  | some i => if i.kd.agg then .ret (.agg ((cs.drop off).take i.size)) else match cs[off]? with
    | some x => .ret x
    | none => .fail
  | none => .fail
def elAV (nm g v i j : Nat) : Tr → AV
  | .row .. => .inn nm g i j v
  | .int k n => .int k n
  | .bool b => .bool b
  | .str s => .str s
  | _ => .any
def elAVs (nm g v i : Nat) : Nat → List Tr → List AV
  | _, [] => []
  | j, t :: ts => elAV nm g v i j t :: elAVs nm g v i (j + 1) ts
def one (agg : Bool) (xs : List AV) : AM AV :=
  match agg with
  | true => .ret (.agg xs)
  | false => match xs with
    | [x] => .ret x
    | _ => .fail
def loadA (τ : TTab) (t : Nat) (x : AV) : AM AV :=
  match τ t with
  | none => .fail
  | some ti => match x with
    | .ptr nm g i off => .get nm fun
      | some (.box g' _ cs) => if g' = g ∧ i = 0 ∧ off + ti.size ≤ cs.length then one ti.kd.agg ((cs.drop off).take ti.size) else .fail
      | some (.row g' v sz n cs) => if g' = g ∧ off + ti.size ≤ sz then .look (el cs sz i) fun L => one ti.kd.agg (elAVs nm g v i off ((L.drop off).take ti.size)) else .fail
      | _ => .fail
    | .rptr cs => .look cs fun L => if ti.size ≤ L.length then one ti.kd.agg ((L.take ti.size).map Tr.av) else .fail
    | _ => .fail
def storeA (τ : TTab) (t : Nat) (x y : AV) : AM AV :=
  match τ t with
  | none => .fail
  | some ti => match x with
    | .ptr nm g i off => .get nm fun
      | some (.box g' bt cs) => if g' = g ∧ i = 0 ∧ y.known = true ∧ y.cells.length = ti.size ∧ off + ti.size ≤ cs.length then .set nm (.box g' bt (setAt cs off y.cells)) (.ret .any) else .fail
      | some (.row ..) => if y.known = false then .fail else toTL ti.sh y.cells fun ts => .get nm fun
          | some (.row g2 v2 sz2 n2 cs2) => if g2 = g ∧ off + ti.size ≤ sz2 then .look (el cs2 sz2 i) fun L => .look (upEl cs2 sz2 i (setAt L off ts)) fun cs3 => .set nm (.row g2 (v2 + 1) sz2 n2 cs3) (.ret .any) else .fail
          | _ => .fail
      | _ => .fail
    | _ => .fail
def fieldPtr (τ : TTab) (t : Nat) (x : AV) (f : Nat) : AM AV :=
  match τ t with
  | some { kd := .struct fs, .. } => match fs[f]? with
    | some (o, ft) => match τ ft with
      | some fi => if 0 < fi.size then (match x with
        | .ptr nm g i off => .ret (.ptr nm g i (off + o))
        | .rptr cs => .ret (.rptr (cs.drop o))
        | _ => .fail) else .fail
      | none => .fail
    | none => .fail
  | _ => .fail
def fieldVal (τ : TTab) (t : Nat) (x : AV) (f : Nat) : AM AV :=
  match τ t with
  | some { kd := .struct fs, .. } => match fs[f]?, x with
    | some (o, ft), .agg cs => part τ ft cs o
    | _, _ => .fail
  | _ => .fail
def indexPtr (τ : TTab) (t : Nat) (x ix : AV) : AM AV :=
  match τ t, ix with
  | some { kd := .slice e, .. }, .int _ i => match τ e with
    | some ei => match x with
      | .ro _ sz n cs => if sz = ei.size ∧ 0 < sz then .req (0 ≤ i ∧ i < (n : Int)) (.look (el cs sz i.toNat) fun L => .ret (.rptr L)) else .fail
      | .own nm g => getRow nm g ei.size fun _ n _ => .req (0 ≤ i ∧ i < (n : Int)) (.ret (.ptr nm g i.toNat 0))
      | .cut nm g off n => getRow nm g ei.size fun _ _ _ => .req (0 ≤ i ∧ i < (n : Int)) (.ret (.ptr nm g (off + i.toNat) 0))
      | _ => .fail
    | none => .fail
  | _, _ => .fail
def strAt (s : ByteArray) (i : Nat) : Int := ((s.data.toList.getD i 0).toNat : Int)
def indexVal (τ : TTab) (t : Nat) (x ix : AV) : AM AV :=
  match x, ix with
  | .str s, .int _ i => match τ t with
    | some { kd := .str, .. } => .req (0 ≤ i ∧ i < (s.size : Int)) (.ret (.int .u8 (strAt s i.toNat)))
    | _ => .fail
  | _, _ => .fail
def oint : Option AV → Int → Option Int
  | none, d => some d
  | some (.int _ n), _ => some n
  | _, _ => none
def sliceVal (τ : TTab) (t : Nat) (x : AV) (lo hi mx : Option AV) : AM AV :=
  match mx with
  | some _ => .fail
  | none => match x with
    | .str s => match τ t with
      | some { kd := .str, .. } => match oint lo 0, oint hi s.size with
        | some l, some h => .req (0 ≤ l ∧ l ≤ h ∧ h ≤ (s.size : Int)) (.ret (.str (s.extract l.toNat h.toNat)))
        | _, _ => .fail
      | _ => .fail
    | x => match elemOf τ t with
      | none => .fail
      | some ei => match x with
        | .ro _ sz n cs => match oint lo 0, oint hi n with
          | some l, some h => if sz = ei.size then .req (0 ≤ l ∧ l ≤ h ∧ h ≤ (n : Int)) (.look ((cs.drop (l.toNat * sz)).take ((h.toNat - l.toNat) * sz)) fun L => .ret (.ro none sz (h.toNat - l.toNat) L)) else .fail
          | _, _ => .fail
        | .own nm g => getRow nm g ei.size fun _ n _ => match oint lo 0, oint hi n with
          | some l, some h => .req (0 ≤ l ∧ l ≤ h ∧ h ≤ (n : Int)) (.ret (.cut nm g l.toNat (h.toNat - l.toNat)))
          | _, _ => .fail
        | _ => .fail
def lenVal (τ : TTab) (t : Nat) (x : AV) : AM AV :=
  match τ t with
  | some ti => match ti.kd, x with
    | .str, .str s => .ret (.int .i64 s.size)
    | .slice _, x => match x with
      | .nils => .ret (.int .i64 0)
      | .ro _ _ n _ => .ret (.int .i64 n)
      | .cut _ _ _ n => .ret (.int .i64 n)
      | .own nm g => .get nm fun
        | some (.row g' _ _ n _) => if g' = g then .ret (.int .i64 n) else .fail
        | _ => .fail
      | .inn nm g i j v => match elemOf τ t with
        | some ei => getInn nm g i j v ei.size fun _ _ _ _ _ n _ => .ret (.int .i64 n)
        | none => .fail
      | _ => .fail
    | _, _ => .fail
  | none => .fail
/-- a struct's or array's cells out of parts: (place, cells) -/
def fillA : List AV → List (Nat × AV) → List AV
  | cs, [] => cs
  | cs, (o, x) :: r => fillA (setAt cs o x.cells) r
def place (fs : List (Nat × Nat)) (i : Nat) : Nat := (fs.getD i (0, 0)).1
def partsOk (τ : TTab) (n : Nat) (fs : List (Nat × Nat)) : List (Nat × AV) → Bool
  | [] => true
  | (i, x) :: r => (match fs[i]? with
    | some (o, ft) => (match τ ft with
      | some ti => x.known && x.cells.length == ti.size && decide (o + ti.size ≤ n)
      | none => false)
    | none => false) && partsOk τ n fs r
def typesOk (τ : TTab) (fs : List (Nat × Nat)) : Bool := fs.all fun f => (τ f.2).isSome
def buildA (τ : TTab) (t : Nat) (ps : List (Nat × AV)) : AM AV :=
  match τ t with
  | some { kd := .struct fs, sh, size, .. } => match typesOk τ fs && partsOk τ size fs ps with
    | true => .ret (.agg (fillA (sh.map CK.av) (ps.map fun p => (place fs p.1, p.2))))
    | false => .fail
  | _ => .fail
def zeros (sh : List CK) : Nat → List Tr
  | 0 => []
  | n + 1 => sh.map CK.tr ++ zeros sh n
def elsT {α : Type} (sh : List CK) : Nat → List (Nat × AV) → (List Tr → AM α) → AM α
  | _, [], k => k []
  | i, (j, x) :: r, k => if j = i ∧ x.known = true then toTL sh x.cells fun ts => elsT sh (i + 1) r fun us => k (ts ++ us) else .fail
def buildSliceA (τ : TTab) (t n : Nat) (ps : List (Nat × AV)) (D : Nat) : AM AV :=
  match elemOf τ t with
  | some ei => if ps.length = n ∧ n * ei.size ≤ 16777216 ∧ n ≤ 16777216 then elsT ei.sh 0 ps fun ts => .look ts fun ts => mk D (fun g => .row g 0 ei.size n ts) fun g => .ret (.own D g) else .fail
  | none => .fail
def makeSliceA (τ : TTab) (t : Nat) (l c : AV) (D : Nat) : AM AV :=
  match elemOf τ t, l, c with
  | some ei, .int _ l, .int _ c => .req (0 ≤ l ∧ l ≤ c ∧ c ≤ 9223372036854775807 ∧ (ei.bytes : Int) * c ≤ 281474976710656) (.look (zeros ei.sh l.toNat) fun L => mk D (fun g => .row g 0 ei.size l.toNat L) fun g => .ret (.own D g))
  | _, _, _ => .fail
/-- what is appended (t2: its type): its cells, in trees of its own -/
def rowOf {α : Type} (τ : TTab) (t2 : Nat) (ei : TI) (y : AV) (k : Nat → List Tr → AM α) : AM α :=
  match τ t2 with
  | some ti => match ti.kd with
    | .str => match y with
      | .str s => if ei.size = 1 then .look (s.data.toList.map fun b => Tr.int .u8 (b.toNat : Int)) fun L => k s.size L else .fail
      | _ => .fail
    | .slice _ => match ei.sh.all (fun c => match c with | .sc _ => true | _ => false) with
      | true => rdRow ei.size y fun n cs => .req (scal cs) (k n cs)
      | false => match y with
        | .own nm g => getRow nm g ei.size fun _ n cs => .set nm (.gone g) (k n cs)
        | .nils => k 0 []
        | _ => .fail
    | _ => .fail
  | none => .fail
/-- a row's beginning, and a later part of it -/
def cutsOf (x y : AV) : Option (Nat × Nat × Nat × Nat × Nat) :=
  match x, y with
  | .cut nm g 0 i, .cut nm' g' off m => if nm' = nm ∧ g' = g then some (nm, g, i, off, m) else none
  | _, _ => none
def appendA (τ : TTab) (t t2 : Nat) (x y : AV) (D : Nat) : AM AV :=
  match elemOf τ t with
  | none => .fail
  | some ei => if 0 < ei.size then (match cutsOf x y with
    | some (nm, g, i, off, m) => if i ≤ off ∧ t2 = t then getRow nm g ei.size fun _ _ cs => .req ((i + m) * ei.bytes ≤ 140737488355328 ∧ i + m ≤ 140737488355328) (.look (cs.take (i * ei.size) ++ (cs.drop (off * ei.size)).take (m * ei.size)) fun L => .set nm (.row (g + 1) 0 ei.size (i + m) L) (.ret (.own nm (g + 1)))) else .fail
    | none => rowOf τ t2 ei y fun m us => match x with
    | .own nm g => getRow nm g ei.size fun _ n cs => .req ((n + m) * ei.bytes ≤ 140737488355328 ∧ n + m ≤ 140737488355328) (.look (cs ++ us) fun L => .set nm (.row (g + 1) 0 ei.size (n + m) L) (.ret (.own nm (g + 1))))
    | .nils => .req (m * ei.bytes ≤ 140737488355328 ∧ m ≤ 140737488355328) (.look us fun L => mk D (fun g => .row g 0 ei.size m L) fun g => .ret (.own D g))
    | .inn nm g i j v => takeInn nm g i j v ei.size fun n cs => .req ((n + m) * ei.bytes ≤ 140737488355328 ∧ n + m ≤ 140737488355328) (.look (cs ++ us) fun L => mk D (fun g => .row g 0 ei.size (n + m) L) fun g => .ret (.own D g))
    | _ => .fail) else .fail
def pickA (c a b : AV) : AM AV :=
  match c with
  | .bool c => .ret (if c then a else b)
  | _ => .fail
def minmaxA (mx : Bool) : AV → List AV → AM AV
  | x, [] => .ret x
  | .int k x, .int k' y :: r => minmaxA mx (.int k (if mx then (if x < y then y else x) else if y < x then y else x)) r
  | _, _ => .fail
def callA (τ : TTab) (md : Nat → List Hn) (f : Nat) (ts : List Nat) (xs : List AV) (D : Nat) : AM AV :=
  hndAL τ (md f) ts xs fun ps bs l => chk bs l <| .call f ps fun res pbs => bkAL l D 100 bs pbs fun j => exRes l D 0 res fun _ x => .ret x
def osem (τ : TTab) (md : Nat → List Hn) (o : Oper) (ev : Operand → AV) (D : Nat) : AM AV :=
  match o.op with
  | .move x | .assign x => .ret (ev x)
  | .pick c a b => pickA (ev c) (ev a) (ev b)
  | .alloc t => match τ t with
    | some i => mk D (fun g => .box g t (i.sh.map CK.av)) fun g => .ret (.ptr D g 0 0)
    | none => .fail
  | .box t x => match τ t with
    | some i => if (ev x).known = true ∧ (ev x).cells.length = i.size then mk D (fun g => .box g t (ev x).cells) fun g => .ret (.ptr D g 0 0) else .fail
    | none => .fail
  | .build t ps => buildA τ t (ps.toList.map fun p => (p.1, ev p.2))
  | .buildSlice t n ps => buildSliceA τ t n (ps.toList.map fun p => (p.1, ev p.2)) D
  | .load t x => loadA τ t (ev x)
  | .store t x y => storeA τ t (ev x) (ev y)
  | .nilCheck x => match ev x with
    | .ptr nm g i off => .ret (.ptr nm g i off)
    | .rptr cs => .ret (.rptr cs)
    | _ => .fail
  | .binOp op t x (.const v) _ => match isNilC v with
    | true => nilCmp τ op t (ev x)
    | false => bin τ t op (ev x) (ev (.const v))
  | .binOp op t x y _ => bin τ t op (ev x) (ev y)
  | .unOp op _ x => una op (ev x)
  | .convert s d x => conv τ s d (ev x) D
  | .makeSlice t l c => makeSliceA τ t (ev l) (ev c) D
  | .slice t x lo hi mx => sliceVal τ t (ev x) (lo.map ev) (hi.map ev) (mx.map ev)
  | .fieldAddr t x f => fieldPtr τ t (ev x) f
  | .field t x f => fieldVal τ t (ev x) f
  | .indexAddr t x ix => indexPtr τ t (ev x) (ev ix)
  | .index t x ix => indexVal τ t (ev x) (ev ix)
  | .extract x i => match ev x with
    | .tup cs => match cs[i]? with
      | some x => .ret x
      | none => .fail
    | _ => .fail
  | .call { callee := .value x, args, argTypes } => match ev x with
    | .fn f => callA τ md f argTypes.toList (args.toList.map ev) D
    | _ => .fail
  | .call { callee := .builtin .len, args, argTypes } => match args.toList.map ev, argTypes.toList with
    | [x], [t] => lenVal τ t x
    | _, _ => .fail
  | .call { callee := .builtin .append, args, argTypes } => match args.toList.map ev, argTypes.toList with
    | [x, y], [t, t2] => appendA τ t t2 x y D
    | _, _ => .fail
  | .call { callee := .builtin .max, args, .. } => match args.toList.map ev with
    | x :: r => minmaxA true x r
    | _ => .fail
  | .call { callee := .builtin .min, args, .. } => match args.toList.map ev with
    | x :: r => minmaxA false x r
    | _ => .fail
  | _ => .fail
end AM

/-! ### code -/
def putA (tm : Nat → AV) (d : Option Nat) (x : AV) : Nat → AV :=
  match d with
  | some d => upd tm d x
  | none => tm
def baseOf (d : Option Nat) : Nat := 1000 * (d.getD 0) + 1000
/-- what is to be shown of p, then L -/
def wpo (P : Program) {α : Type} : AM α → Mem → (α → Mem → Prop) → Prop
  | .ret v, m, L => L v m
  | .fail, m, L => False
  | .req p k, m, L => p ∧ wpo P k m L
  | .pick k, m, L => ∀ b, wpo P (k b) m L
  | .look l k, m, L => wpo P (k l) m L
  | .get nm k, m, L => wpo P (k (m nm)) m L
  | .set nm b k, m, L => wpo P k (upd m nm (some b)) L
  | .call f pas k, m, L => ∃ res pbs, AGood P f pas res pbs ∧ wpo P (k res pbs) m L
/-- a guard: the slot that it asks -/
def guardW (b : AV) (want : Bool) (yes no : Prop) : Prop :=
  match b with
  | .bool c => (c = want → yes) ∧ (c ≠ want → no)
  | .tup [] => no
  | _ => False
structure Env where
  P : Program
  τ : TTab
  md : Nat → List Hn
/-- the value that a guard asks -/
def gdv (all : Array Oper) (tm : Nat → AV) (j : Nat) : AV :=
  match (all[j]?).bind (·.dst) with
  | some t => tm t
  | none => .any
def aops (E : Env) (all : Array Oper) (K : AState → Prop) : List Oper → AState → Prop
  | [], s => K s
  | o :: r, s => match o.guard with
    | none => wpo E.P (AM.osem E.τ E.md o (evA s.tm) (baseOf o.dst)) s.mem fun v m => aops E all K r ⟨putA s.tm o.dst v, m, s.gs⟩
    | some (j, want) => guardW (gdv all s.tm j) want (wpo E.P (AM.osem E.τ E.md o (evA s.tm) (baseOf o.dst)) s.mem fun v m => aops E all K r ⟨putA s.tm o.dst v, m, s.gs⟩) (aops E all K r ⟨putA s.tm o.dst (.tup []), s.mem, s.gs⟩)
/-! ### stepping -/
inductive R1 where
  | ok (v : AV) (m : Mem)
  | req (p : Prop) (k : AM AV) (m : Mem)
  | pick (k : Bool → AM AV) (m : Mem)
  | look (L : List Tr) (k : List Tr → AM AV) (m : Mem)
  | call (f : Nat) (pas : List PA) (k : Tr → List PB → AM AV) (m : Mem)
  | fail
def run1 : AM AV → Mem → R1
  | .ret v, m => match v with
    | .any => .ok .any m
    | .int k n => .ok (.int k n) m
    | .bool b => .ok (.bool b) m
    | .str s => .ok (.str s) m
    | .agg cs => .ok (.agg cs) m
    | .tup cs => .ok (.tup cs) m
    | .nils => .ok .nils m
    | .ro a b c d => .ok (.ro a b c d) m
    | .own a b => .ok (.own a b) m
    | .cut a b c d => .ok (.cut a b c d) m
    | .inn a b c d e => .ok (.inn a b c d e) m
    | .ptr a b c d => .ok (.ptr a b c d) m
    | .rptr cs => .ok (.rptr cs) m
    | .fn f => .ok (.fn f) m
  | .fail, m => .fail
  | .req p k, m => .req p k m
  | .pick k, m => .pick k m
  | .look l k, m => .look l k m
  | .get nm k, m => run1 (k (m nm)) m
  | .set nm b k, m => run1 k (upd m nm (some b))
  | .call f pas k, m => .call f pas k m
def R1.wp (P : Program) (L : AV → Mem → Prop) : R1 → Prop
  | .ok v m => L v m
  | .req p k m => p ∧ wpo P k m L
  | .pick k m => ∀ b, wpo P (k b) m L
  | .look l k m => wpo P (k l) m L
  | .call f pas k m => ∃ res pbs, AGood P f pas res pbs ∧ wpo P (k res pbs) m L
  | .fail => False
theorem wpo_run {P : Program} {L : AV → Mem → Prop} : ∀ {p : AM AV} {m}, (run1 p m).wp P L → wpo P p m L
  | .ret v, m, h => by cases v <;> simpa only [run1, R1.wp, wpo] using h
  | .fail, m, h => by simp only [run1, R1.wp] at h
  | .req p k, m, h => by simpa only [run1, R1.wp, wpo] using h
  | .pick k, m, h => by simpa only [run1, R1.wp, wpo] using h
  | .look l k, m, h => by simpa only [run1, R1.wp, wpo] using h
  | .get nm k, m, h => by simp only [run1] at h; simp only [wpo]; exact wpo_run h
  | .set nm b k, m, h => by simp only [run1] at h; simp only [wpo]; exact wpo_run h
  | .call f pas k, m, h => by simpa only [run1, R1.wp, wpo] using h
section
variable {P : Program} {L : AV → Mem → Prop} {p : AM AV} {m m' : Mem}
theorem w_ok {v : AV} (h : run1 p m = .ok v m') (k : L v m') : wpo P p m L := wpo_run (by rw [h]; exact k)
theorem w_req {q : Prop} {k : AM AV} (h : run1 p m = .req q k m') (hq : q) (hk : wpo P k m' L) : wpo P p m L := wpo_run (by rw [h]; exact ⟨hq, hk⟩)
theorem w_look {l l' : List Tr} {k : List Tr → AM AV} (h : run1 p m = .look l k m') (he : l = l') (hk : wpo P (k l') m' L) : wpo P p m L := wpo_run (by rw [h]; subst he; exact hk)
theorem w_call {f : Nat} {pas : List PA} {k : Tr → List PB → AM AV} (h : run1 p m = .call f pas k m') {res : Tr} {pbs : List PB} (hg : AGood P f pas res pbs) (hk : wpo P (k res pbs) m' L) : wpo P p m L := wpo_run (by rw [h]; exact ⟨res, pbs, hg, hk⟩)
theorem w_pick {k : Bool → AM AV} (h : run1 p m = .pick k m') (hk : ∀ b, wpo P (k b) m' L) : wpo P p m L := wpo_run (by rw [h]; exact hk)
end
theorem o_nil {E all K s} (h : K s) : aops E all K [] s := h
theorem o_cons {E all K tm m0 gs r} {d : Option Nat} {op : Op} {ty : Nat} {pos : String} {af : Array Edge} (h : wpo E.P (AM.osem E.τ E.md ⟨d, op, ty, pos, af, none⟩ (evA tm) (baseOf d)) m0 fun v m => aops E all K r ⟨putA tm d v, m, gs⟩) :
    aops E all K (⟨d, op, ty, pos, af, none⟩ :: r) ⟨tm, m0, gs⟩ := h
end Go.AM
