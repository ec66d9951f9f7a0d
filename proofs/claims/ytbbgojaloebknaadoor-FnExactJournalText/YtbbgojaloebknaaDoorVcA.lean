/- Part A of the engine: abstract values, local objects, and what a region's operations and a function's code do to them. -/
import Derived.Calls
import Derived.Deep.LoopGhost
namespace Go.Proofs.YtbbgojaloebknaaDoor.Vc

/-- Abstract values. 'sl': a slice that is only read, by its elements' cells; 'ro': an address in memory that is only read, by the cells from there on; 'row', 'ptr', 'eptr': into a local object. -/
inductive AV where
  | undef
  | int (k : IntKind) (n : Int)
  | bool (b : Bool)
  | str (s : ByteArray)
  | sl (sz len : Nat) (f : Nat → List AV)
  | ro (cells : List AV)
  | row (id sz off len : Nat)
  | ptr (id off : Nat)
  | eptr (id sz i off : Nat)
  | nils | nilp | nilf | nili
  | agg (l : List AV)
  | tup (l : List AV)
  | fn (f : FuncId) (first cap : List AV)
  deriving Inhabited

inductive Obj where
  | box (cells : List AV)
  | row (sz len : Nat) (f : Nat → List AV)
  | dead
  deriving Inhabited

inductive TK where
  | int (k : IntKind) | bool | str | slice (e : TypeId) | struct (fs : List (Nat × TypeId)) | ptr | bad
/-- n: its cells; z: its zero value's; eq: a struct of plain cells, each a field. -/
structure TI where
  n : Nat
  k : TK
  z : List AV
  bytes : Nat
  eq : Bool := false
instance : Inhabited TI := ⟨⟨0, .bad, [], 0, false⟩⟩
def TI.good (ti : TI) : Bool := match ti.k with
  | .bad => false
  | _ => true

/-- A condition that is to be shown. -/
structure Chk (p : Prop) : Prop where
  h : p
/-- Two ways. -/
structure Br (x : Bool) (A B : Prop) : Prop where
  t : x = true → A
  f : x = false → B
theorem br_dT {p : Prop} [Decidable p] {A B : Prop} (hp : p) (h : A) : Br (decide p) A B := ⟨fun _ => h, fun h => by simp [hp] at h⟩
theorem br_dF {p : Prop} [Decidable p] {A B : Prop} (hp : ¬ p) (h : B) : Br (decide p) A B := ⟨fun h => by simp [hp] at h, fun _ => h⟩
theorem br_d {p : Prop} [Decidable p] {A B : Prop} (h : p → A) (h' : ¬ p → B) : Br (decide p) A B := ⟨fun q => h (of_decide_eq_true q), fun q => h' (of_decide_eq_false q)⟩
theorem br_tt {A B : Prop} (h : A) : Br true A B := ⟨fun _ => h, fun q => by cases q⟩
theorem br_ff {A B : Prop} (h : B) : Br false A B := ⟨fun q => (by cases q), fun _ => h⟩
theorem br_hT {b : Bool} {A B : Prop} (hb : b = true) (h : A) : Br b A B := ⟨fun _ => h, fun q => by simp [hb] at q⟩
theorem br_hF {b : Bool} {A B : Prop} (hb : b = false) (h : B) : Br b A B := ⟨fun q => by simp [hb] at q, fun _ => h⟩
theorem br_nt {b : Bool} {A B : Prop} (h : Br b B A) : Br (!b) A B := ⟨fun q => h.f (by simpa using q), fun q => h.t (by simpa using q)⟩

/-- A number, as it is if it has room. -/
inductive Wr (k : IntKind) (x : Int) (K : AV → Prop) : Prop
  | ex (h : k.wrap x = x) (hK : K (.int k x))
  | wr (hK : K (.int k (k.wrap x)))
theorem Wr.el {k : IntKind} {x : Int} {K : AV → Prop} (h : Wr k x K) : K (.int k (k.wrap x)) := by
  cases h with
  | ex h hK => rw [h]; exact hK
  | wr hK => exact hK
theorem br_and {a b : Bool} {A B : Prop} (h : Br a (Br b A B) B) : Br (a && b) A B := ⟨fun q => by
  rw [Bool.and_eq_true] at q
  exact (h.t q.1).t q.2, fun q => by
  cases ha : a with
  | false => exact h.f ha
  | true => rw [ha] at q; exact (h.t ha).f (by simpa using q)⟩
theorem br_or {a b : Bool} {A B : Prop} (h : Br a A (Br b A B)) : Br (a || b) A B := ⟨fun q => by
  cases ha : a with
  | true => exact h.t ha
  | false => rw [ha] at q; exact (h.f ha).t (by simpa using q), fun q => by
  rw [Bool.or_eq_false_iff] at q
  exact (h.f q.1).f q.2⟩

def forceL (l : List AV) (K : List AV → Prop) : Prop := match l with
  | [] => K []
  | v :: r => forceL r fun r' => match v with
    | .undef => K (.undef :: r')
    | .int k n => K (.int k n :: r')
    | .bool b => K (.bool b :: r')
    | .str s => K (.str s :: r')
    | .sl s n f => K (.sl s n f :: r')
    | .ro cs => K (.ro cs :: r')
    | .row a b c d => K (.row a b c d :: r')
    | .ptr a b => K (.ptr a b :: r')
    | .eptr a b c d => K (.eptr a b c d :: r')
    | .nils => K (.nils :: r') | .nilp => K (.nilp :: r') | .nilf => K (.nilf :: r') | .nili => K (.nili :: r')
    | .agg l => K (.agg l :: r')
    | .tup l => K (.tup l :: r')
    | .fn f c d => K (.fn f c d :: r')
def forceN (n : Nat) (K : Nat → Prop) : Prop :=
  cond (Nat.beq n 0) (K 0) (cond (Nat.beq n 1) (K 1) (cond (Nat.beq n 2) (K 2) (cond (Nat.beq n 3) (K 3) (cond (Nat.beq n 4) (K 4) (cond (Nat.beq n 5) (K 5) (cond (Nat.beq n 6) (K 6) (cond (Nat.beq n 7) (K 7)
  (cond (Nat.beq n 8) (K 8) (cond (Nat.beq n 9) (K 9) (cond (Nat.beq n 10) (K 10) (cond (Nat.beq n 11) (K 11) (cond (Nat.beq n 12) (K 12) (cond (Nat.beq n 13) (K 13) (cond (Nat.beq n 14) (K 14) (cond (Nat.beq n 15) (K 15) (K n))))))))))))))))
def force (v : AV) (K : AV → Prop) : Prop := match v with
  | .undef => K .undef
  | .int k n => K (.int k n)
  | .bool b => K (.bool b)
  | .str s => K (.str s)
  | .sl s n f => K (.sl s n f)
  | .ro cs => forceL cs fun cs => K (.ro cs)
  | .row a b c d => forceN a fun a => K (.row a b c d)
  | .ptr a b => forceN a fun a => forceN b fun b => K (.ptr a b)
  | .eptr a b c d => forceN a fun a => forceN d fun d => K (.eptr a b c d)
  | .nils => K .nils | .nilp => K .nilp | .nilf => K .nilf | .nili => K .nili
  | .agg l => forceL l fun l => K (.agg l)
  | .tup l => forceL l fun l => K (.tup l)
  | .fn f c d => forceL c fun c => forceL d fun d => K (.fn f c d)
def forceO (o : List Obj) (K : List Obj → Prop) : Prop := match o with
  | [] => K []
  | x :: r => forceO r fun r' => match x with
    | .box cs => forceL cs fun cs => K (.box cs :: r')
    | .row s n f => K (.row s n f :: r')
    | .dead => K (.dead :: r')

abbrev Fr := Nat → AV
def upd (t : Fr) (d : Nat) (v : AV) : Fr := fun x => cond (Nat.beq x d) v (t x)
/-- Only these slots are known. -/
def ofL : List (Nat × AV) → Fr
  | [], _ => .undef
  | (j, v) :: r, i => cond (Nat.beq i j) v (ofL r i)

def ofConst : Value → AV
  | .int k n => .int k n
  | .bool b => .bool b
  | .string s => .str s
  | .slice none 0 0 => .nils
  | .pointer none => .nilp
  | .nilFunc => .nilf
  | .nilIface => .nili
  | _ => .undef
def ev (t : Fr) : Operand → AV
  | .tmp x => t x
  | .const v => ofConst v
  | .func f => .fn f [] []
  | .global _ => .undef

def AV.cells : AV → List AV
  | .agg l => l
  | v => [v]
/-- One cell's known value. -/
def AV.scal : AV → Bool
  | .undef | .agg _ | .tup _ => false
  | _ => true
/-- The cells at an address. -/
def cellsAt (o : List Obj) : AV → Option (List AV)
  | .ro cs => some cs
  | .ptr id off => match o[id]? with | some (.box cs) => some (cs.drop off) | _ => none
  | _ => none
def setCells (l : List AV) (off : Nat) : List AV → List AV
  | [] => l
  | v :: r => setCells (l.set off v) (off + 1) r

def bt (s : ByteArray) (i : Nat) : Int := ((s.data.getD i 0).toNat : Int)
def bitop (k : IntKind) (op : BinOp) (a b : Int) : Int :=
  let x := BitVec.ofInt k.bits a
  let y := BitVec.ofInt k.bits b
  k.wrap (match op with
    | .and => (x &&& y).toNat
    | .or => (x ||| y).toNat
    | .xor => (x ^^^ y).toNat
    | _ => (x &&& ~~~y).toNat : Nat)
def shlv (k : IntKind) (x y : Int) : Int := k.wrap (x * 2 ^ min y.toNat k.bits)
def shrv (k : IntKind) (x y : Int) : Int := x.fdiv (2 ^ min y.toNat k.bits)

def sameK (j k : IntKind) : Bool := decide (j = k)

def binP (op : BinOp) (x y : AV) (K : AV → Prop) : Prop := match x, y with
  | .int k a, .int j b => match op with
    | .shl => Chk (0 ≤ b) ∧ Wr k (a * 2 ^ min b.toNat k.bits) K
    | .shr => Chk (0 ≤ b) ∧ K (.int k (shrv k a b))
    | .add => cond (sameK k j) (Wr k (a + b) K) False
    | .sub => cond (sameK k j) (Wr k (a - b) K) False
    | .mul => cond (sameK k j) (Wr k (a * b) K) False
    | .quo => cond (sameK k j) (Chk (b ≠ 0) ∧ Wr k (a.tdiv b) K) False
    | .rem => cond (sameK k j) (Chk (b ≠ 0) ∧ K (.int k (a.tmod b))) False
    | .lss => cond (sameK k j) (K (.bool (decide (a < b)))) False
    | .leq => cond (sameK k j) (K (.bool (decide (a ≤ b)))) False
    | .gtr => cond (sameK k j) (K (.bool (decide (a > b)))) False
    | .geq => cond (sameK k j) (K (.bool (decide (a ≥ b)))) False
    | .eql => cond (sameK k j) (K (.bool (decide (a = b)))) False
    | .neq => cond (sameK k j) (K (.bool (!decide (a = b)))) False
    | .and => cond (sameK k j) (K (.int k (bitop k .and a b))) False
    | .or => cond (sameK k j) (K (.int k (bitop k .or a b))) False
    | .xor => cond (sameK k j) (K (.int k (bitop k .xor a b))) False
    | .andNot => cond (sameK k j) (K (.int k (bitop k .andNot a b))) False
  | .str a, .str b => match op with
    | .add => Chk (a.size + b.size ≤ 9223372036854775807) ∧ K (.str (a ++ b))
    | .eql => K (.bool (decide (a = b)))
    | .neq => K (.bool (!decide (a = b)))
    | _ => False
  | _, _ => False

mutual
/-- Every local object that it leads to is alive, and of its kind. -/
def live (o : List Obj) : AV → Bool
  | .row id sz _ _ => match o[id]? with | some (.row s _ _) => Nat.beq s sz | _ => false
  | .ptr id _ => match o[id]? with | some (.box _) => true | _ => false
  | .eptr id sz _ _ => match o[id]? with | some (.row s _ _) => Nat.beq s sz | _ => false
  | .agg l => liveL o l
  | .tup l => liveL o l
  | .fn _ l m => liveL o l && liveL o m
  | _ => true
def liveL (o : List Obj) : List AV → Bool
  | [] => true
  | v :: r => live o v && liveL o r
end
variable (TB : TypeId → TI)

/-- '==' of structs of plain cells. -/
def eqCells : List (Nat × TypeId) → List AV → List AV → Option Bool
  | [], [], [] => some true
  | p :: fs, a :: r, b :: s => match (TB p.2).k, a, b with
    | .int _, .int k x, .int j y => cond (sameK k j) ((eqCells fs r s).map fun z => decide (x = y) && z) none
    | .bool, .bool x, .bool y => (eqCells fs r s).map fun z => (x == y) && z
    | .str, .str x, .str y => (eqCells fs r s).map fun z => decide (x = y) && z
    | _, _, _ => none
  | _, _, _ => none
/-- A value whose cells are known one by one. -/
def cellOk (o : List Obj) (v : AV) : Bool := match v with
  | .undef | .tup _ => false
  | v => live o v
/-- The cells of a struct that is built out of some of its fields. -/
def buildCells (o : List Obj) (fs : List (Nat × TypeId)) (t : Fr) : List AV → List (Nat × Operand) → Option (List AV)
  | cs, [] => some cs
  | cs, (i, x) :: r => match fs[i]? with
    | some (off, ft) => cond (Nat.beq (ev t x).cells.length (TB ft).n && Nat.ble (off + (TB ft).n) cs.length && cellOk o (ev t x)) (buildCells o fs t (setCells cs off (ev t x).cells) r) none
    | none => none

def loadV (ti : TI) (cs : List AV) (K : AV → Prop) : Prop := match ti.k with
  | .struct _ => cond (Nat.ble ti.n cs.length) (K (.agg (cs.take ti.n))) False
  | .bad => False
  | _ => match cs with
    | v :: _ => K v
    | [] => False

/-- A slice expression's bounds. -/
def bound (t : Fr) (x : Option Operand) (d : Int) : Option Int := match x with
  | none => some d
  | some x => match ev t x with
    | .int _ n => some n
    | _ => none

def strOf (len : Nat) (f : Nat → List AV) : ByteArray := ⟨((List.range len).map fun i => match f i with
  | [.int _ n] => n.toNat.toUInt8
  | _ => 0).toArray⟩

/-- Operations that change nothing but their slot. -/
def rdP (op : Op) (t : Fr) (o : List Obj) (K : AV → Prop) : Prop := match op with
  | .move x | .assign x => K (ev t x)
  | .pick c a b => match ev t c with
    | .bool x => Br x (K (ev t a)) (K (ev t b))
    | _ => False
  | .build ty ps => match (TB ty).k with
    | .struct fs => match buildCells TB o fs t (TB ty).z ps.toList with
      | some cs => K (.agg cs)
      | none => False
    | _ => False
  | .load ty a => match ev t a with
    | .eptr id sz i off => match o[id]? with
      | some (.row s n f) => Chk (i < n) ∧ cond (Nat.beq sz s) (loadV (TB ty) ((f i).drop off) K) False
      | _ => False
    | v => match cellsAt o v with
      | some cs => loadV (TB ty) cs K
      | none => False
  | .nilCheck x => match ev t x with
    | .ptr a b => cond (live o (.ptr a b)) (K (.ptr a b)) False
    | .ro cs => K (.ro cs)
    | .eptr a b c d => cond (live o (.eptr a b c d)) (K (.eptr a b c d)) False
    | _ => False
  | .binOp b ty x y _ => match ev t x, ev t y with
    | .agg xs, .agg ys => match (TB ty).k, (TB ty).eq, b with
      | .struct fs, true, .eql => match eqCells TB fs xs ys with | some r => K (.bool r) | none => False
      | .struct fs, true, .neq => match eqCells TB fs xs ys with | some r => K (.bool (!r)) | none => False
      | _, _, _ => False
    | .bool p, .bool q => match (TB ty).k, b with
      | .bool, .eql => K (.bool (p == q))
      | .bool, .neq => K (.bool (!(p == q)))
      | _, _ => False
    | x, y => binP b x y K
  | .unOp .not _ x => match ev t x with
    | .bool b => K (.bool !b)
    | _ => False
  | .unOp .neg _ x => match ev t x with
    | .int k n => Wr k (0 - n) K
    | _ => False
  | .convert src ty x => match (TB src).k, ev t x, (TB ty).k with
    | .int _, .int _ n, .int k => Wr k n K
    | .str, .str s, .str => K (.str s)
    | .slice e, .row id sz off len, .str => match o[id]? with
      | some (.row s n f) => match (TB e).k with
        | .int .u8 => cond (Nat.beq s sz && Nat.beq sz 1) (Chk (0 < len ∧ off + len ≤ n ∧ ∀ i, i < len → ∃ x, f (off + i) = [.int .u8 x]) ∧ K (.str (strOf len fun i => f (off + i)))) False
        | _ => False
      | _ => False
    | _, _, _ => False
  | .fieldAddr ty x f => match (TB ty).k with
    | .struct fs => match fs[f]? with
      | some (off, ft) => cond (Nat.beq (TB ft).n 0) False (match ev t x with
        | .ro cs => K (.ro (cs.drop off))
        | .ptr id p => cond (live o (.ptr id p)) (K (.ptr id (p + off))) False
        | .eptr id sz i p => cond (live o (.eptr id sz i p)) (K (.eptr id sz i (p + off))) False
        | _ => False)
      | none => False
    | _ => False
  | .indexAddr ty x i => match (TB ty).k with
    | .slice e => match ev t x, ev t i with
      | .sl sz len f, .int _ n => Chk (0 ≤ n ∧ n < len) ∧ cond (Nat.beq sz (TB e).n) (K (.ro (f n.toNat))) False
      | .row id sz off len, .int _ n => Chk (0 ≤ n ∧ n < len) ∧ cond (Nat.beq sz (TB e).n && live o (.row id sz off len)) (K (.eptr id sz (off + n.toNat) 0)) False
      | _, _ => False
    | _ => False
  | .index ty x i => match (TB ty).k, ev t x, ev t i with
    | .str, .str s, .int _ n => Chk (0 ≤ n ∧ n < s.size) ∧ K (.int .u8 (bt s n.toNat))
    | _, _, _ => False
  | .slice ty x lo hi none => match (TB ty).k, ev t x with
    | .str, .str s => match bound t lo 0, bound t hi s.size with
      | some l, some h => Chk (0 ≤ l ∧ l ≤ h ∧ h ≤ s.size) ∧ K (.str (s.extract l.toNat h.toNat))
      | _, _ => False
    | .slice e, .sl sz n f => match bound t lo 0, bound t hi n with
      | some l, some h => Chk (0 ≤ l ∧ l ≤ h ∧ h ≤ n) ∧ cond (Nat.beq sz (TB e).n) (K (.sl sz (h.toNat - l.toNat) fun i => f (l.toNat + i))) False
      | _, _ => False
    | .slice e, .row id sz off n => match bound t lo 0, bound t hi n with
      | some l, some h => Chk (0 ≤ l ∧ l ≤ h ∧ h ≤ n) ∧ cond (Nat.beq sz (TB e).n && live o (.row id sz off n)) (K (.row id sz (off + l.toNat) (h.toNat - l.toNat))) False
      | _, _ => False
    | _, _ => False
  | .extract x i => match ev t x with
    | .tup l => match l[i]? with
      | some v => cond (liveL o l) (K v) False
      | none => False
    | _ => False
  | .makeFunc (.func f) first cap => cond (liveL o (first.toList.map (ev t)) && liveL o (cap.toList.map (ev t))) (K (.fn f (first.toList.map (ev t)) (cap.toList.map (ev t)))) False
  | .call { callee := .builtin .len, args := as, argTypes := ts } => match as.toList.map (ev t), ts.toList with
    | [.sl _ n _], [ty] => match (TB ty).k with | .slice _ => K (.int .i64 n) | _ => False
    | [.row id sz off n], [ty] => match (TB ty).k with | .slice _ => cond (live o (.row id sz off n)) (K (.int .i64 n)) False | _ => False
    | [.nils], [ty] => match (TB ty).k with | .slice _ => K (.int .i64 0) | _ => False
    | [.str b], [ty] => match (TB ty).k with | .str => K (.int .i64 b.size) | _ => False
    | _, _ => False
  | .call { callee := .builtin .max, args := as, .. } => match as.toList.map (ev t) with
    | [.int k a, .int _ b] => K (.int k (if b > a then b else a))
    | _ => False
  | .call { callee := .builtin .min, args := as, .. } => match as.toList.map (ev t) with
    | [.int k a, .int _ b] => K (.int k (if b < a then b else a))
    | _ => False
  | _ => False

def isRd : Op → Bool
  | .move _ | .assign _ | .pick .. | .build .. | .load .. | .nilCheck _ | .binOp .. | .unOp .. | .convert .. | .fieldAddr .. | .indexAddr .. | .index .. | .slice .. | .extract .. | .makeFunc .. => true
  | .call { callee := .builtin .len, .. } | .call { callee := .builtin .max, .. } | .call { callee := .builtin .min, .. } => true
  | _ => false

/-- What goes into a row is data: a local row among it is frozen: read-only from then on. -/
def frz1 (o : List Obj) : AV → Option (AV × Option Nat × Prop)
  | .row id sz off len => match o[id]? with
    | some (.row s n f) => cond (Nat.beq s sz) (some (.sl sz len fun i => f (off + i), some id, off + len ≤ n)) none
    | _ => none
  | .int k n => some (.int k n, none, True)
  | .bool b => some (.bool b, none, True)
  | .str s => some (.str s, none, True)
  | .sl s n f => some (.sl s n f, none, True)
  | .nils => some (.nils, none, True)
  | _ => none
def frzL (o : List Obj) : List AV → Option (List AV × List Nat × Prop)
  | [] => some ([], [], True)
  | v :: r => match frz1 o v, frzL o r with
    | some (x, none, _), some (xs, ks, q) => some (x :: xs, ks, q)
    | some (x, some k, p), some (xs, ks, q) => some (x :: xs, k :: ks, p ∧ q)
    | _, _ => none
def kill (o : List Obj) : List Nat → List Obj
  | [] => o
  | k :: r => kill (o.set k .dead) r
/-- The elements of a slice that is written out, as data. -/
def elemsOf (o : List Obj) (n : Nat) (t : Fr) : List (Nat × Operand) → Nat → Option (List (List AV) × List Nat × Prop)
  | [], _ => some ([], [], True)
  | (i, x) :: r, j => cond (Nat.beq i j && Nat.beq (ev t x).cells.length n && cellOk o (ev t x)) (match frzL o (ev t x).cells, elemsOf o n t r (j + 1) with
    | some (cs, ks, p), some (es, ls, q) => some (cs :: es, ks ++ ls, p ∧ q)
    | _, _ => none) none

def appF (n : Nat) (f g : Nat → List AV) : Nat → List AV := fun i => cond (Nat.blt i n) (f i) (g (i - n))
def setF (f : Nat → List AV) (i : Nat) (v : List AV) : Nat → List AV := fun j => cond (Nat.beq j i) v (f j)

/-- What a slice that is appended reads as; a condition. -/
def srcOf (o : List Obj) (n : Nat) : AV → Option (Nat × (Nat → List AV) × Nat × Nat)
  | .nils => some (0, fun _ => [], 0, 0)
  | .sl s m g => cond (Nat.beq s n) (some (m, g, 0, 0)) none
  | .row id sz off len => match o[id]? with
    | some (.row s m f) => cond (Nat.beq s sz && Nat.beq s n) (some (len, fun i => f (off + i), off + len, m)) none
    | _ => none
  | _ => none

variable (call : FuncId → List AV → List Obj → (AV → List Obj → Prop) → Prop)

/-- Operations that make or write memory, and calls. -/
def efP (op : Op) (t : Fr) (o : List Obj) (K : AV → List Obj → Prop) : Prop := match op with
  | .box ty x => cond (Nat.beq (ev t x).cells.length (TB ty).n && cellOk o (ev t x) && (TB ty).good) (K (.ptr o.length 0) (o ++ [.box (ev t x).cells])) False
  | .alloc ty => match (TB ty).k with
    | .bad => False
    | _ => K (.ptr o.length 0) (o ++ [.box (TB ty).z])
  | .store ty a x => match ev t a with
    | .ptr id off => match o[id]? with
      | some (.box cs) => cond (Nat.beq (ev t x).cells.length (TB ty).n && Nat.ble (off + (TB ty).n) cs.length && cellOk o (ev t x) && (ev t x).cells.all AV.scal && (TB ty).good) (K .undef (o.set id (.box (setCells cs off (ev t x).cells)))) False
      | _ => False
    | .eptr id sz i off => match o[id]? with
      | some (.row s n f) => match frzL o (ev t x).cells with
        | some (cs, ks, p) => Chk (i < n ∧ p) ∧ cond (Nat.beq s sz && Nat.beq cs.length (TB ty).n && Nat.ble (off + (TB ty).n) sz && cellOk o (ev t x) && !ks.contains id && (TB ty).good) (K .undef ((kill o ks).set id (.row s n (setF f i (setCells (f i) off cs))))) False
        | none => False
      | _ => False
    | _ => False
  | .buildSlice ty len ps => match (TB ty).k with
    | .slice e => cond (Nat.beq len 0) (cond ps.isEmpty (K .nils o) False) (cond (Nat.beq ps.size len && Nat.ble (len * (TB e).n) 16777216 && Nat.ble 1 (TB e).n) (match elemsOf o (TB e).n t ps.toList 0 with
      | some (es, ks, p) => Chk p ∧ K (.row o.length (TB e).n 0 len) (kill o ks ++ [.row (TB e).n len fun i => es.getD i (TB e).z])
      | none => False) False)
    | _ => False
  | .makeSlice ty l c => match (TB ty).k, ev t l, ev t c with
    | .slice e, .int .i64 n, .int .i64 m => Chk (n = m ∧ 0 ≤ n ∧ n ≤ 9223372036854775807 ∧ (TB e).bytes * n ≤ 281474976710656) ∧ K (.row o.length (TB e).n 0 n.toNat) (o ++ [.row (TB e).n n.toNat fun _ => (TB e).z])
    | _, _, _ => False
  | .call { callee := .builtin .append, args := as, argTypes := ts } => match as.toList.map (ev t), ts.toList with
    | [s, x], [ty, tx] => match (TB ty).k, (TB tx).k with
      | .slice e, .slice _ => match srcOf o (TB e).n x with
        | some (m, g, lo, hi) => cond (Nat.ble 1 (TB e).bytes && Nat.ble 1 (TB e).n) (match s with
          | .nils => Chk (lo ≤ hi ∧ m * (TB e).bytes ≤ 140737488355328) ∧ K (.row o.length (TB e).n 0 m) (o ++ [.row (TB e).n m g])
          | .row id sz off len => match o[id]? with
            | some (.row s n f) => cond (Nat.beq s sz && Nat.beq s (TB e).n && Nat.beq off 0) (Chk (lo ≤ hi ∧ len ≤ n ∧ (len + m) * (TB e).bytes ≤ 140737488355328) ∧ K (.row o.length sz 0 (len + m)) (o.set id .dead ++ [.row sz (len + m) (appF len f g)])) False
            | _ => False
          | _ => False) False
        | none => False
      | _, _ => False
    | _, _ => False
  | .call { callee := .value (.func f), args := as, .. } => forceL (as.toList.map (ev t)) fun vs => call f vs o K
  | .call { callee := .value (.tmp x), args := as, .. } => match t x with
    | .fn f first cap => cond (liveL o first && liveL o cap) (forceL (first ++ as.toList.map (ev t) ++ cap) fun vs => call f vs o K) False
    | _ => False
  | _ => False

/-- A region's operations, one after the other. -/
def opP (full : Array Oper) (x : Oper) (t : Fr) (o : List Obj) (K : Fr → List Obj → Prop) : Prop :=
  let put : AV → List Obj → Prop := fun v o' => match x.dst with
    | some d => K (upd t d v) o'
    | none => K t o'
  let go : Prop := match isRd x.op with
    | true => rdP TB x.op t o fun v => force v fun v => put v o
    | false => efP TB call x.op t o fun v o' => forceO o' fun o' => force v fun v => put v o'
  match x.guard with
  | none => go
  | some (j, want) => match (((full[j]?).bind (·.dst)).map t).getD .undef with
    | .bool b => Br b (cond want go (put (.tup []) o)) (cond want (put (.tup []) o) go)
    | .tup [] => put (.tup []) o
    | _ => False
def opsP (full : Array Oper) : List Oper → Fr → List Obj → (Fr → List Obj → Prop) → Prop
  | [], t, o, K => K t o
  | x :: r, t, o, K => opP TB call full x t o fun t o => opsP full r t o K

/-! ### What is known may be told anew: slots forgotten, local objects numbered anew, rows frozen -/
section
variable (π : List (Option Nat)) (fz : List Nat) (o : List Obj)
def idIs (j id : Nat) : Bool := match π[j]? with
  | some (some i) => Nat.beq i id
  | _ => false
def idNew (j : Nat) : Bool := match π[j]? with
  | some none => true
  | _ => false
mutual
/-- The new value (first) out of the old one. -/
def rv : AV → AV → Prop
  | .undef, _ => True
  | .int k n, .int j m => cond (sameK k j) (Chk (n = m)) False
  | .bool a, .bool b => Chk (a = b)
  | .str a, .str b => Chk (a = b)
  | .sl s n f, .sl z m g => cond (Nat.beq s z) (Chk (n = m ∧ ∀ i, i < n → f i = g i)) False
  | .sl z n f, .row id sz off len => match o[id]? with
    | some (.row s m g) => cond (Nat.beq s sz && Nat.beq s z && fz.contains id) (Chk (n = len ∧ off + len ≤ m ∧ ∀ i, i < n → f i = g (off + i))) False
    | _ => False
  | .sl _ n _, .nils => Chk (n = 0)
  | .ro cs, .ro ds => Chk (cs = ds)
  | .row j s a n, .row id sz off len => cond (idIs π j id && Nat.beq s sz && live o (.row id sz off len)) (Chk (a = off ∧ n = len)) False
  | .row j _ a n, .nils => cond (idNew π j) (Chk (a = 0 ∧ n = 0)) False
  | .ptr j a, .ptr id off => cond (idIs π j id && Nat.beq a off && live o (.ptr id off)) True False
  | .eptr j s i a, .eptr id sz k off => cond (idIs π j id && Nat.beq s sz && Nat.beq a off && live o (.eptr id sz k off)) (Chk (i = k)) False
  | .nils, .nils => True
  | .nilp, .nilp => True
  | .nilf, .nilf => True
  | .nili, .nili => True
  | .agg l, .agg m => cond (liveL o m) (rvL l m) False
  | .tup l, .tup m => cond (liveL o m) (rvL l m) False
  | .fn f a c, .fn g b d => cond (Nat.beq f g && liveL o b && liveL o d) (rvL a b ∧ rvL c d) False
  | _, _ => False
def rvL : List AV → List AV → Prop
  | [], [] => True
  | a :: l, b :: m => rv a b ∧ rvL l m
  | _, _ => False
end
def wkT (t : Fr) : List (Nat × AV) → Prop
  | [] => True
  | (x, v) :: r => rv π fz o v (t x) ∧ wkT t r
def wkO : List (Option Nat) → List Obj → Prop
  | [], [] => True
  | none :: p, .row _ n _ :: r => Chk (n = 0) ∧ wkO p r
  | some id :: p, x :: r => (match x, o[id]? with
    | .box cs, some (.box ds) => rvL π fz o cs ds
    | .row s n f, some (.row sz m g) => cond (Nat.beq s sz) (Chk (n = m ∧ ∀ i, i < n → f i = g i)) False
    | _, _ => False) ∧ wkO p r
  | _, _ => False
/-- Each old number once, and none of the frozen ones. -/
def wkN : List (Option Nat) → Bool
  | [] => true
  | none :: p => wkN p
  | some id :: p => !p.contains (some id) && !fz.contains id && wkN p
end
/-- The first m numbers stand. -/
def wkM : Nat → List (Option Nat) → Nat → Bool
  | 0, _, _ => true
  | m + 1, some j :: p, i => Nat.beq j i && wkM m p (i + 1)
  | _ + 1, _, _ => false
/-- The state (t, o) may be told as (ofL L, o'). -/
structure WkTo (m : Nat) (t : Fr) (o : List Obj) (L : List (Nat × AV)) (o' : List Obj) : Prop where
  ex : ∃ π fz, wkM m π 0 = true ∧ wkN fz π = true ∧ wkT π fz o t L ∧ wkO π fz o π o'
inductive Wk (m : Nat) (t : Fr) (o : List Obj) (F : Fr → List Obj → Prop) : Prop where
  | rf (h : F t o)
  | go (L : List (Nat × AV)) (o' : List Obj) (h : WkTo m t o L o') (hF : F (ofL L) o')

/-- A loop: what holds at each round's head, by an index that a measure goes down with. -/
structure Lp (k : Nat) (t : Fr) (o : List Obj) (R : Fr → List Obj → (Fr → List Obj → Prop) → Prop) : Prop where
  ex : ∃ (X : Type) (L : X → List (Nat × AV)) (g : X → List Obj) (inv : X → Prop) (m : X → Nat), (∃ x, inv x ∧ WkTo k t o (L x) (g x)) ∧
    ∀ x, inv x → R (ofL (L x)) (g x) fun t o => ∃ x', inv x' ∧ m x' < m x ∧ WkTo k t o (L x') (g x')

/-- A sequence: straight on; or by what holds in between, however it came about. -/
inductive Sq (m : Nat) (A : (Exit → Fr → List Obj → Prop) → Prop) (B : Fr → List Obj → Prop) (Q : Exit → Fr → List Obj → Prop) : Prop where
  | d (h : A fun e t o => match e with
      | .normal => Wk m t o B
      | e => Q e t o)
  | j (X : Type) (L : X → List (Nat × AV)) (g : X → List Obj) (inv : X → Prop) (h : A fun e t o => match e with
      | .normal => ∃ x, inv x ∧ WkTo m t o (L x) (g x)
      | e => Q e t o) (k : ∀ x, inv x → B (ofL (L x)) (g x))
section
variable (TB : TypeId → TI) (call : FuncId → List AV → List Obj → (AV → List Obj → Prop) → Prop)
variable (reg : Array Oper → Fr → List Obj → (Fr → List Obj → Prop) → Prop) (m : Nat)
/-- reg: a region whose order is drawn; m: so many local objects are the caller's. -/
def pwp : Code → Fr → List Obj → (Exit → Fr → List Obj → Prop) → Prop
  | .skip, t, o, Q => Q .normal t o
  | .region _ ops d, t, o, Q => cond d (reg ops t o (Q .normal)) (opsP TB call ops ops.toList t o (Q .normal))
  | .seq a b, t, o, Q => Sq m (fun Q => pwp a t o Q) (fun t o => pwp b t o Q) Q
  | .cond c a b, t, o, Q => match ev t c with
    | .bool x => Br x (pwp a t o Q) (pwp b t o Q)
    | _ => False
  | .block id c, t, o, Q => pwp c t o fun e t o => match e with
    | .exit j => cond (Nat.beq j id) (Q .normal t o) (Q (.exit j) t o)
    | e => Q e t o
  | .loop c, t, o, Q => Lp m t o fun t o K => pwp c t o fun e t o => match e with
    | .normal => K t o
    | e => Q e t o
  | .exit id, t, o, Q => Q (.exit id) t o
  | .ret, t, o, Q => Q .ret t o
  | _, _, _, _ => False
/-- What the function hands back. -/
def retL (t : Fr) (o : List Obj) : List ResultVar → (List AV → Prop) → Prop
  | [], K => K []
  | .tmp x :: r, K => retL t o r fun l => K (t x :: l)
  | .cell a ty :: r, K => match cellsAt o (t a) with
    | some cs => loadV (TB ty) cs fun v => retL t o r fun l => K (v :: l)
    | none => False
def retP (fn : Func) (t : Fr) (o : List Obj) (K : AV → List Obj → Prop) : Prop :=
  retL TB t o fn.results.toList fun l => forceL l fun l => match l with
    | [v] => K v o
    | l => K (.tup l) o
def argF : List AV → Nat → Fr
  | [], _ => fun _ => .undef
  | v :: r, i => upd (argF r (i + 1)) i v
/-- A function's body. -/
def bodyP (fn : Func) (vs : List AV) (o : List Obj) (K : AV → List Obj → Prop) : Prop := match fn.body with
  | some c => pwp TB call reg m c (argF vs 0) o fun e t o => match e with
    | .normal => Wk m t o fun t o => retP TB fn t o K
    | .ret => Wk m t o fun t o => retP TB fn t o K
    | _ => False
  | none => False
end

end Go.Proofs.YtbbgojaloebknaaDoor.Vc
