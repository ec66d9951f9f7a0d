/- Part A of the engine: abstract values, local objects, and what a region's operations and a function's code do to them. -/
import Derived.Calls
import Derived.Deep.LoopGhost
import Derived.Below
import Derived.Laws.Rows
import Derived.Tactics
import Derived.Laws.Entries
import Derived.Laws.Strings
import Derived.Laws.Slices
import Derived.Laws.Cells
import Derived.Laws.StructEq
import Derived.Deep.MidRow
import Derived.Laws.BytesArg
import Derived.Laws.Tables
import Derived.DataBytes
import Derived.Laws.IdiomCopy
import Derived.Deep.AppendSrc
section
namespace Go.Proofs.YtgdbhjmpkkbnnaaGreatDoor.Vc
inductive AV where
 |undef
 |int (k:IntKind) (n:Int)
 |bool (b:Bool)
 |str (s:ByteArray)
 |sl (sz len:Nat) (f:Nat→List AV)
 |ro (cells:List AV)
 |row (id sz off len:Nat)
 |ptr (id off:Nat)
 |eptr (id sz i off:Nat)
 |nils|nilp|nilf|nili|ifc
 |agg (l:List AV)
 |tup (l:List AV)
 |fn (f:FuncId) (first cap:List AV)
 deriving Inhabited
inductive Obj where
 |box (cells:List AV)
 |row (sz len:Nat) (f:Nat→List AV)
 /-- A row whose cells' slices lie in memory of its own; x: one cell that is open: its slices are rows by themselves. -/
 |nrow (sz len:Nat) (f:Nat→List AV) (x:Option (Nat × List AV))
 |dead
 deriving Inhabited
inductive TK where
 |int (k:IntKind)|bool|str|slice (e:TypeId)|struct (fs:List (Nat × TypeId))|ptr|iface|bad
structure TI where
 n:Nat
 k:TK
 z:List AV
 bytes:Nat
 eq:Bool:=false
instance:Inhabited TI:=⟨⟨0,.bad,[],0,false⟩⟩
def TI.good (ti:TI):Bool:=match ti.k with
 |.bad=>false
 |_=>true
structure Chk (p:Prop):Prop where
 h:p
structure Br (x:Bool) (A B:Prop):Prop where
 t:x=true→A
 f:x=false→B
inductive Ch (A B:Prop):Prop
 |l (h:A)
 |r (h:B)
theorem br_dT {p:Prop} [Decidable p] {A B:Prop} (hp:p) (h:A):Br (decide p) A B:=⟨fun _=>h,fun h=>by simp [hp] at h⟩
theorem br_dF {p:Prop} [Decidable p] {A B:Prop} (hp:¬ p) (h:B):Br (decide p) A B:=⟨fun h=>by simp [hp] at h,fun _=>h⟩
theorem br_d {p:Prop} [Decidable p] {A B:Prop} (h:p→A) (h':¬ p→B):Br (decide p) A B:=⟨fun q=>h (of_decide_eq_true q),fun q=>h' (of_decide_eq_false q)⟩
theorem br_tt {A B:Prop} (h:A):Br true A B:=⟨fun _=>h,fun q=>by cases q⟩
theorem br_ff {A B:Prop} (h:B):Br false A B:=⟨fun q=>(by cases q),fun _=>h⟩
theorem br_hT {b:Bool} {A B:Prop} (hb:b=true) (h:A):Br b A B:=⟨fun _=>h,fun q=>by simp [hb] at q⟩
theorem br_hF {b:Bool} {A B:Prop} (hb:b=false) (h:B):Br b A B:=⟨fun q=>by simp [hb] at q,fun _=>h⟩
theorem br_nt {b:Bool} {A B:Prop} (h:Br b B A):Br (!b) A B:=⟨fun q=>h.f (by simpa using q),fun q=>h.t (by simpa using q)⟩
inductive Wr (k:IntKind) (x:Int) (K:AV→Prop):Prop
 |ex (h:k.wrap x=x) (hK:K (.int k x))
 |wr (hK:K (.int k (k.wrap x)))
theorem Wr.el {k:IntKind} {x:Int} {K:AV→Prop} (h:Wr k x K):K (.int k (k.wrap x)):=by
 cases h with
 |ex h hK=>rw [h]; exact hK
 |wr hK=>exact hK
theorem br_and {a b:Bool} {A B:Prop} (h:Br a (Br b A B) B):Br (a && b) A B:=⟨fun q=>by
 rw [Bool.and_eq_true] at q
 exact (h.t q.1).t q.2,fun q=>by
 cases ha:a with
 |false=>exact h.f ha
 |true=>rw [ha] at q; exact (h.t ha).f (by simpa using q)⟩
theorem br_or {a b:Bool} {A B:Prop} (h:Br a A (Br b A B)):Br (a || b) A B:=⟨fun q=>by
 cases ha:a with
 |true=>exact h.t ha
 |false=>rw [ha] at q; exact (h.f ha).t (by simpa using q),fun q=>by
 rw [Bool.or_eq_false_iff] at q
 exact (h.f q.1).f q.2⟩
def forceL (l:List AV) (K:List AV→Prop):Prop:=match l with
 |[]=>K []
 |v :: r=>forceL r fun r'=>match v with
  |.undef=>K (.undef :: r')
  |.int k n=>K (.int k n :: r')
  |.bool b=>K (.bool b :: r')
  |.str s=>K (.str s :: r')
  |.sl s n f=>K (.sl s n f :: r')
  |.ro cs=>K (.ro cs :: r')
  |.row a b c d=>K (.row a b c d :: r')
  |.ptr a b=>K (.ptr a b :: r')
  |.eptr a b c d=>K (.eptr a b c d :: r')
  |.nils=>K (.nils :: r')|.nilp=>K (.nilp :: r')|.nilf=>K (.nilf :: r')|.nili=>K (.nili :: r')|.ifc=>K (.ifc :: r')
  |.agg l=>K (.agg l :: r')
  |.tup l=>K (.tup l :: r')
  |.fn f c d=>K (.fn f c d :: r')
def forceN (n:Nat) (K:Nat→Prop):Prop :=
 cond (Nat.beq n 0) (K 0) (cond (Nat.beq n 1) (K 1) (cond (Nat.beq n 2) (K 2) (cond (Nat.beq n 3) (K 3) (cond (Nat.beq n 4) (K 4) (cond (Nat.beq n 5) (K 5) (cond (Nat.beq n 6) (K 6) (cond (Nat.beq n 7) (K 7)
 (cond (Nat.beq n 8) (K 8) (cond (Nat.beq n 9) (K 9) (cond (Nat.beq n 10) (K 10) (cond (Nat.beq n 11) (K 11) (cond (Nat.beq n 12) (K 12) (cond (Nat.beq n 13) (K 13) (cond (Nat.beq n 14) (K 14) (cond (Nat.beq n 15) (K 15) (K n))))))))))))))))
def force (v:AV) (K:AV→Prop):Prop:=match v with
 |.undef=>K .undef
 |.int k n=>K (.int k n)
 |.bool b=>K (.bool b)
 |.str s=>K (.str s)
 |.sl s n f=>K (.sl s n f)
 |.ro cs=>forceL cs fun cs=>K (.ro cs)
 |.row a b c d=>forceN a fun a=>K (.row a b c d)
 |.ptr a b=>forceN a fun a=>forceN b fun b=>K (.ptr a b)
 |.eptr a b c d=>forceN a fun a=>forceN d fun d=>K (.eptr a b c d)
 |.nils=>K .nils|.nilp=>K .nilp|.nilf=>K .nilf|.nili=>K .nili|.ifc=>K .ifc
 |.agg l=>forceL l fun l=>K (.agg l)
 |.tup l=>forceL l fun l=>K (.tup l)
 |.fn f c d=>forceL c fun c=>forceL d fun d=>K (.fn f c d)
def forceO (o:List Obj) (K:List Obj→Prop):Prop:=match o with
 |[]=>K []
 |x :: r=>forceO r fun r'=>match x with
  |.box cs=>forceL cs fun cs=>K (.box cs :: r')
  |.row s n f=>K (.row s n f :: r')
  |.nrow s n f none=>K (.nrow s n f none :: r')
  |.nrow s n f (some (i,cs))=>forceL cs fun cs=>K (.nrow s n f (some (i,cs)) :: r')
  |.dead=>K (.dead :: r')
def Obj.rsz:Obj→Option Nat
 |.row s _ _=>some s
 |.nrow s _ _ _=>some s
 |_=>none
abbrev Fr:=Nat→AV
def upd (t:Fr) (d:Nat) (v:AV):Fr:=fun x=>cond (Nat.beq x d) v (t x)
def ofL:List (Nat × AV)→Fr
 |[],_=>.undef
 |(j,v) :: r,i=>cond (Nat.beq i j) v (ofL r i)
def ofConst:Value→AV
 |.int k n=>.int k n
 |.bool b=>.bool b
 |.string s=>.str s
 |.slice none 0 0=>.nils
 |.pointer none=>.nilp
 |.nilFunc=>.nilf
 |.nilIface=>.nili
 |_=>.undef
def ev (t:Fr):Operand→AV
 |.tmp x=>t x
 |.const v=>ofConst v
 |.func f=>.fn f [] []
 |.global _=>.undef
def AV.cells:AV→List AV
 |.agg l=>l
 |v=>[v]
def AV.scal:AV→Bool
 |.undef|.agg _|.tup _=>false
 |_=>true
def AV.plain:AV→Bool
 |.int ..|.bool _|.str _|.nils=>true
 |_=>false
def cellsAt (o:List Obj):AV→Option (List AV)
 |.ro cs=>some cs
 |.ptr id off=>match o[id]? with|some (.box cs)=>some (cs.drop off)|_=>none
 |_=>none
def setCells (l:List AV) (off:Nat):List AV→List AV
 |[]=>l
 |v :: r=>setCells (l.set off v) (off+1) r
def bt (s:ByteArray) (i:Nat):Int:=((s.data.getD i 0).toNat:Int)
def bitop (k:IntKind) (op:BinOp) (a b:Int):Int :=
 let x:=BitVec.ofInt k.bits a
 let y:=BitVec.ofInt k.bits b
 k.wrap (match op with
  |.and=>(x &&& y).toNat
  |.or=>(x ||| y).toNat
  |.xor=>(x ^^^ y).toNat
  |_=>(x &&& ~~~y).toNat:Nat)
def shrv (k:IntKind) (x y:Int):Int:=x.fdiv (2 ^ min y.toNat k.bits)
def sameK (j k:IntKind):Bool:=decide (j=k)
def binP (op:BinOp) (x y:AV) (K:AV→Prop):Prop:=match x,y with
 |.int k a,.int j b=>match op with
  |.shl=>Chk (0≤b)∧Wr k (a*2 ^ min b.toNat k.bits) K
  |.shr=>Chk (0≤b)∧K (.int k (shrv k a b))
  |.add=>cond (sameK k j) (Wr k (a+b) K) False
  |.sub=>cond (sameK k j) (Wr k (a-b) K) False
  |.mul=>cond (sameK k j) (Wr k (a*b) K) False
  |.quo=>cond (sameK k j) (Chk (b≠0)∧Wr k (a.tdiv b) K) False
  |.rem=>cond (sameK k j) (Chk (b≠0)∧K (.int k (a.tmod b))) False
  |.lss=>cond (sameK k j) (K (.bool (decide (a<b)))) False
  |.leq=>cond (sameK k j) (K (.bool (decide (a≤b)))) False
  |.gtr=>cond (sameK k j) (K (.bool (decide (a > b)))) False
  |.geq=>cond (sameK k j) (K (.bool (decide (a≥b)))) False
  |.eql=>cond (sameK k j) (K (.bool (decide (a=b)))) False
  |.neq=>cond (sameK k j) (K (.bool (!decide (a=b)))) False
  |.and=>cond (sameK k j) (K (.int k (bitop k .and a b))) False
  |.or=>cond (sameK k j) (K (.int k (bitop k .or a b))) False
  |.xor=>cond (sameK k j) (K (.int k (bitop k .xor a b))) False
  |.andNot=>cond (sameK k j) (K (.int k (bitop k .andNot a b))) False
 |.str a,.str b=>match op with
  |.add=>Chk (a.size+b.size≤9223372036854775807)∧K (.str (a ++ b))
  |.eql=>K (.bool (decide (a=b)))
  |.neq=>K (.bool (!decide (a=b)))
  |_=>False
 |_,_=>False
mutual
def live (o:List Obj):AV→Bool
 |.row id sz _ _=>match o[id]? with|some (.row s _ _)=>Nat.beq s sz|some (.nrow s _ _ _)=>Nat.beq s sz|_=>false
 |.ptr id _=>match o[id]? with|some (.box _)=>true|_=>false
 |.eptr id sz _ _=>match o[id]? with|some (.row s _ _)=>Nat.beq s sz|some (.nrow s _ _ _)=>Nat.beq s sz|_=>false
 |.agg l=>liveL o l
 |.tup l=>liveL o l
 |.fn _ l m=>liveL o l && liveL o m
 |_=>true
def liveL (o:List Obj):List AV→Bool
 |[]=>true
 |v :: r=>live o v && liveL o r
end
variable (TB:TypeId→TI)
def eqCells:List (Nat × TypeId)→List AV→List AV→Option Bool
 |[],[],[]=>some true
 |p :: fs,a :: r,b :: s=>match (TB p.2).k,a,b with
  |.int _,.int k x,.int j y=>cond (sameK k j) ((eqCells fs r s).map fun z=>decide (x=y) && z) none
  |.bool,.bool x,.bool y=>(eqCells fs r s).map fun z=>(x == y) && z
  |.str,.str x,.str y=>(eqCells fs r s).map fun z=>decide (x=y) && z
  |_,_,_=>none
 |_,_,_=>none
def cellOk (o:List Obj) (v:AV):Bool:=match v with
 |.undef|.tup _=>false
 |v=>live o v
def buildCells (o:List Obj) (fs:List (Nat × TypeId)) (t:Fr):List AV→List (Nat × Operand)→Option (List AV)
 |cs,[]=>some cs
 |cs,(i,x) :: r=>match fs[i]? with
  |some (off,ft)=>cond (Nat.beq (ev t x).cells.length (TB ft).n && Nat.ble (off+(TB ft).n) cs.length && cellOk o (ev t x)) (buildCells o fs t (setCells cs off (ev t x).cells) r) none
  |none=>none
def loadV (ti:TI) (cs:List AV) (K:AV→Prop):Prop:=match ti.k with
 |.struct _=>cond (Nat.ble ti.n cs.length) (K (.agg (cs.take ti.n))) False
 |.bad=>False
 |_=>match cs with
  |v :: _=>K v
  |[]=>False
def bound (t:Fr) (x:Option Operand) (d:Int):Option Int:=match x with
 |none=>some d
 |some x=>match ev t x with
  |.int _ n=>some n
  |_=>none
def strOf (len:Nat) (f:Nat→List AV):ByteArray:=⟨((List.range len).map fun i=>match f i with
 |[.int _ n]=>n.toNat.toUInt8
 |_=>0).toArray⟩
def isC:Operand→Bool
 |.const _=>true
 |_=>false
def ifcP (k:TK) (b:BinOp) (c r:Bool) (K:AV→Prop):Prop:=match k,b with
 |.iface,.eql=>cond c (K (.bool r)) False
 |.iface,.neq=>cond c (K (.bool !r)) False
 |_,_=>False
def rdP (op:Op) (t:Fr) (o:List Obj) (K:AV→Prop):Prop:=match op with
 |.move x|.assign x=>K (ev t x)
 |.pick c a b=>match ev t c with
  |.bool x=>Br x (K (ev t a)) (K (ev t b))
  |_=>False
 |.build ty ps=>match (TB ty).k with
  |.struct fs=>match buildCells TB o fs t (TB ty).z ps.toList with
   |some cs=>K (.agg cs)
   |none=>False
  |_=>False
 |.load ty a=>match ev t a with
  |.eptr id sz i off=>match o[id]? with
   |some (.row s n f)=>Chk (i<n)∧cond (Nat.beq sz s) (loadV (TB ty) ((f i).drop off) K) False
   |some (.nrow s n _ (some (j,cs)))=>Chk (i=j∧i<n)∧cond (Nat.beq sz s) (loadV (TB ty) (cs.drop off) K) False
   |_=>False
  |v=>match cellsAt o v with
   |some cs=>loadV (TB ty) cs K
   |none=>False
 |.nilCheck x=>match ev t x with
  |.ptr a b=>cond (live o (.ptr a b)) (K (.ptr a b)) False
  |.ro cs=>K (.ro cs)
  |.eptr a b c d=>cond (live o (.eptr a b c d)) (K (.eptr a b c d)) False
  |_=>False
 |.binOp b ty x y _=>match ev t x,ev t y with
  |.agg xs,.agg ys=>match (TB ty).k,(TB ty).eq,b with
   |.struct fs,true,.eql=>match eqCells TB fs xs ys with|some r=>K (.bool r)|none=>False
   |.struct fs,true,.neq=>match eqCells TB fs xs ys with|some r=>K (.bool (!r))|none=>False
   |_,_,_=>False
  |.bool p,.bool q=>match (TB ty).k,b with
   |.bool,.eql=>K (.bool (p == q))
   |.bool,.neq=>K (.bool (!(p == q)))
   |_,_=>False
  |.ifc,.nili=>ifcP (TB ty).k b true false K
  |.nili,.nili=>ifcP (TB ty).k b (isC y) true K
  |x,y=>binP b x y K
 |.unOp .not _ x=>match ev t x with
  |.bool b=>K (.bool !b)
  |_=>False
 |.unOp .neg _ x=>match ev t x with
  |.int k n=>Wr k (0-n) K
  |_=>False
 |.convert src ty x=>match (TB src).k,ev t x,(TB ty).k with
  |.int _,.int _ n,.int k=>Wr k n K
  |.str,.str s,.str=>K (.str s)
  |.slice e,.row id sz off len,.str=>match o[id]? with
   |some (.row s n f)=>match (TB e).k with
    |.int .u8=>cond (Nat.beq s sz && Nat.beq sz 1) (Chk (0<len∧off+len≤n∧∀ i,i<len→∃ x,f (off+i)=[.int .u8 x])∧K (.str (strOf len fun i=>f (off+i)))) False
    |_=>False
   |_=>False
  |_,_,_=>False
 |.fieldAddr ty x f=>match (TB ty).k with
  |.struct fs=>match fs[f]? with
   |some (off,ft)=>cond (Nat.beq (TB ft).n 0) False (match ev t x with
    |.ro cs=>K (.ro (cs.drop off))
    |.ptr id p=>cond (live o (.ptr id p)) (K (.ptr id (p+off))) False
    |.eptr id sz i p=>cond (live o (.eptr id sz i p)) (K (.eptr id sz i (p+off))) False
    |_=>False)
   |none=>False
  |_=>False
 |.indexAddr ty x i=>match (TB ty).k with
  |.slice e=>match ev t x,ev t i with
   |.sl sz len f,.int _ n=>Chk (0≤n∧n<len)∧cond (Nat.beq sz (TB e).n) (K (.ro (f n.toNat))) False
   |.row id sz off len,.int _ n=>Chk (0≤n∧n<len)∧cond (Nat.beq sz (TB e).n && live o (.row id sz off len)) (K (.eptr id sz (off+n.toNat) 0)) False
   |_,_=>False
  |_=>False
 |.index ty x i=>match (TB ty).k,ev t x,ev t i with
  |.str,.str s,.int _ n=>Chk (0≤n∧n<s.size)∧K (.int .u8 (bt s n.toNat))
  |_,_,_=>False
 |.slice ty x lo hi none=>match (TB ty).k,ev t x with
  |.str,.str s=>match bound t lo 0,bound t hi s.size with
   |some l,some h=>Chk (0≤l∧l≤h∧h≤s.size)∧K (.str (s.extract l.toNat h.toNat))
   |_,_=>False
  |.slice e,.sl sz n f=>match bound t lo 0,bound t hi n with
   |some l,some h=>Chk (0≤l∧l≤h∧h≤n)∧cond (Nat.beq sz (TB e).n) (K (.sl sz (h.toNat-l.toNat) fun i=>f (l.toNat+i))) False
   |_,_=>False
  |.slice e,.row id sz off n=>match bound t lo 0,bound t hi n with
   |some l,some h=>Chk (0≤l∧l≤h∧h≤n)∧cond (Nat.beq sz (TB e).n && live o (.row id sz off n)) (K (.row id sz (off+l.toNat) (h.toNat-l.toNat))) False
   |_,_=>False
  |_,_=>False
 |.extract x i=>match ev t x with
  |.tup l=>match l[i]? with
   |some v=>cond (liveL o l) (K v) False
   |none=>False
  |_=>False
 |.field ty x f=>match (TB ty).k,ev t x with
  |.struct fs,.agg cs=>match fs[f]? with
   |some (off,ft)=>cond (liveL o cs) (loadV (TB ft) (cs.drop off) K) False
   |none=>False
  |_,_=>False
 |.makeFunc (.func f) first cap=>cond (liveL o (first.toList.map (ev t)) && liveL o (cap.toList.map (ev t))) (K (.fn f (first.toList.map (ev t)) (cap.toList.map (ev t)))) False
 |.call { callee:=.builtin .len,args:=as,argTypes:=ts }=>match as.toList.map (ev t),ts.toList with
  |[.sl _ n _],[ty]=>match (TB ty).k with|.slice _=>K (.int .i64 n)|_=>False
  |[.row id sz off n],[ty]=>match (TB ty).k with|.slice _=>cond (live o (.row id sz off n)) (K (.int .i64 n)) False|_=>False
  |[.nils],[ty]=>match (TB ty).k with|.slice _=>K (.int .i64 0)|_=>False
  |[.str b],[ty]=>match (TB ty).k with|.str=>K (.int .i64 b.size)|_=>False
  |_,_=>False
 |.call { callee:=.builtin .max,args:=as,.. }=>match as.toList.map (ev t) with
  |[.int k a,.int _ b]=>K (.int k (if b > a then b else a))
  |_=>False
 |.call { callee:=.builtin .min,args:=as,.. }=>match as.toList.map (ev t) with
  |[.int k a,.int _ b]=>K (.int k (if b<a then b else a))
  |_=>False
 |_=>False
def isRd:Op→Bool
 |.move _|.assign _|.pick ..|.build ..|.load ..|.nilCheck _|.binOp ..|.unOp ..|.convert ..|.fieldAddr ..|.indexAddr ..|.index ..|.slice ..|.extract ..|.field ..|.makeFunc ..=>true
 |.call { callee:=.builtin .len,.. }|.call { callee:=.builtin .max,.. }|.call { callee:=.builtin .min,.. }=>true
 |_=>false
def frz1 (o:List Obj):AV→Option (AV × Option Nat × Prop)
 |.row id sz off len=>match o[id]? with
  |some (.row s n f)=>cond (Nat.beq s sz) (some (.sl sz len fun i=>f (off+i),some id,off+len≤n)) none
  |_=>none
 |.int k n=>some (.int k n,none,True)
 |.bool b=>some (.bool b,none,True)
 |.str s=>some (.str s,none,True)
 |.sl s n f=>some (.sl s n f,none,True)
 |.nils=>some (.nils,none,True)
 |_=>none
def frzL (o:List Obj):List AV→Option (List AV × List Nat × Prop)
 |[]=>some ([],[],True)
 |v :: r=>match frz1 o v,frzL o r with
  |some (x,none,_),some (xs,ks,q)=>some (x :: xs,ks,q)
  |some (x,some k,p),some (xs,ks,q)=>some (x :: xs,k :: ks,p∧q)
  |_,_=>none
def kill (o:List Obj):List Nat→List Obj
 |[]=>o
 |k :: r=>kill (o.set k .dead) r
def elemsOf (o:List Obj) (n:Nat) (t:Fr):List (Nat × Operand)→Nat→Option (List (List AV) × List Nat × Prop)
 |[],_=>some ([],[],True)
 |(i,x) :: r,j=>cond (Nat.beq i j && Nat.beq (ev t x).cells.length n && cellOk o (ev t x)) (match frzL o (ev t x).cells,elemsOf o n t r (j+1) with
  |some (cs,ks,p),some (es,ls,q)=>some (cs :: es,ks ++ ls,p∧q)
  |_,_=>none) none
def own1 (o:List Obj):AV→Option (AV × Option Nat × Prop)
 |.row id sz off len=>match o[id]? with
  |some (.row s n f)=>cond (Nat.beq s sz && Nat.beq off 0) (some (.sl sz len f,some id,len=n)) none
  |_=>none
 |.int k n=>some (.int k n,none,True)
 |.bool b=>some (.bool b,none,True)
 |.str s=>some (.str s,none,True)
 |.nils=>some (.nils,none,True)
 |_=>none
def ownL (o:List Obj):List AV→Option (List AV × List Nat × Prop)
 |[]=>some ([],[],True)
 |v :: r=>match own1 o v,ownL o r with
  |some (x,none,_),some (xs,ks,q)=>some (x :: xs,ks,q)
  |some (x,some k,p),some (xs,ks,q)=>some (x :: xs,k :: ks,p∧q)
  |_,_=>none
def ownN:List Nat→Bool
 |[]=>true
 |k :: r=>!r.contains k && ownN r
def chW (o:List Obj) (n:Nat) (t:Fr) (ps:Array (Nat × Operand)) (A:Prop) (B:List AV→List Nat→Prop→Prop):Prop:=match ps.toList with
 |[(0,x)]=>match ownL o (ev t x).cells with
  |some (cs,k :: ks,p)=>cond (Nat.beq cs.length n && ownN (k :: ks)) (Ch A (B cs (k :: ks) p)) A
  |_=>A
 |_=>A
def appF (n:Nat) (f g:Nat→List AV):Nat→List AV:=fun i=>cond (Nat.blt i n) (f i) (g (i-n))
def setF (f:Nat→List AV) (i:Nat) (v:List AV):Nat→List AV:=fun j=>cond (Nat.beq j i) v (f j)
def srcOf (o:List Obj) (n:Nat):AV→Option (Nat × (Nat→List AV) × Nat × Nat)
 |.nils=>some (0,fun _=>[],0,0)
 |.sl s m g=>cond (Nat.beq s n) (some (m,g,0,0)) none
 |.row id sz off len=>match o[id]? with
  |some (.row s m f)=>cond (Nat.beq s sz && Nat.beq s n) (some (len,fun i=>f (off+i),off+len,m)) none
  |_=>none
 |_=>none
variable (call:FuncId→List AV→List Obj→(AV→List Obj→Prop)→Prop)
def efP (op:Op) (t:Fr) (o:List Obj) (K:AV→List Obj→Prop):Prop:=match op with
 |.box ty x=>cond (Nat.beq (ev t x).cells.length (TB ty).n && cellOk o (ev t x) && (TB ty).good) (K (.ptr o.length 0) (o ++ [.box (ev t x).cells])) False
 |.alloc ty=>match (TB ty).k with
  |.bad=>False
  |_=>K (.ptr o.length 0) (o ++ [.box (TB ty).z])
 |.store ty a x=>match ev t a with
  |.ptr id off=>match o[id]? with
   |some (.box cs)=>cond (Nat.beq (ev t x).cells.length (TB ty).n && Nat.ble (off+(TB ty).n) cs.length && cellOk o (ev t x) && (ev t x).cells.all AV.scal && (TB ty).good) (K .undef (o.set id (.box (setCells cs off (ev t x).cells)))) False
   |_=>False
  |.eptr id sz i off=>match o[id]? with
   |some (.row s n f)=>match frzL o (ev t x).cells with
    |some (cs,ks,p)=>Chk (i<n∧p)∧cond (Nat.beq s sz && Nat.beq cs.length (TB ty).n && Nat.ble (off+(TB ty).n) sz && cellOk o (ev t x) && !ks.contains id && (TB ty).good) (K .undef ((kill o ks).set id (.row s n (setF f i (setCells (f i) off cs))))) False
    |none=>False
   |some (.nrow s n f none)=>match ownL o (ev t x).cells with
    |some (cs,ks,p)=>Chk (i<n∧p)∧cond (Nat.beq s sz && Nat.beq cs.length (TB ty).n && Nat.ble (off+(TB ty).n) sz && cellOk o (ev t x) && !ks.contains id && ownN ks && (TB ty).good) (K .undef ((kill o ks).set id (.nrow s n (setF f i (setCells (f i) off cs)) none))) False
    |none=>False
   |_=>False
  |_=>False
 |.buildSlice ty len ps=>match (TB ty).k with
  |.slice e=>cond (Nat.beq len 0) (cond ps.isEmpty (K .nils o) False) (cond (Nat.beq ps.size len && Nat.ble (len*(TB e).n) 16777216 && Nat.ble 1 (TB e).n) (match elemsOf o (TB e).n t ps.toList 0 with
   |some (es,ks,p)=>chW o (TB e).n t ps (Chk p∧K (.row o.length (TB e).n 0 len) (kill o ks ++ [.row (TB e).n len fun i=>es.getD i (TB e).z])) fun cs ks p =>
     Chk p∧K (.row o.length (TB e).n 0 1) (kill o ks ++ [.nrow (TB e).n 1 (fun _=>cs) none])
   |none=>False) False)
  |_=>False
 |.makeSlice ty l c=>match (TB ty).k,ev t l,ev t c with
  |.slice e,.int .i64 n,.int .i64 m=>Chk (n=m∧0≤n∧n≤9223372036854775807∧(TB e).bytes*n≤281474976710656)∧K (.row o.length (TB e).n 0 n.toNat) (o ++ [.row (TB e).n n.toNat fun _=>(TB e).z])
  |_,_,_=>False
 |.call { callee:=.builtin .append,args:=as,argTypes:=ts }=>match as.toList.map (ev t),ts.toList with
  |[s,x],[ty,tx]=>match (TB ty).k,(TB tx).k with
   |.slice e,.slice _=>match srcOf o (TB e).n x with
    |some (m,g,lo,hi)=>cond (Nat.ble 1 (TB e).bytes && Nat.ble 1 (TB e).n) (match s with
     |.nils=>Chk (lo≤hi∧m*(TB e).bytes≤140737488355328)∧K (.row o.length (TB e).n 0 m) (o ++ [.row (TB e).n m g])
     |.row id sz off len=>match o[id]? with
      |some (.row s n f)=>cond (Nat.beq s sz && Nat.beq s (TB e).n && Nat.beq off 0) (Chk (lo≤hi∧len≤n∧(len+m)*(TB e).bytes≤140737488355328)∧K (.row o.length sz 0 (len+m)) (o.set id .dead ++ [.row sz (len+m) (appF len f g)])) False
      |_=>False
     |_=>False) False
    |none=>match s,x with
     |.row id sz off len,.row jd sy oy ly=>match o[id]?,o[jd]? with
      |some (.nrow s n f none),some (.nrow r m g none)=>cond (Nat.ble 1 (TB e).bytes && Nat.ble 1 (TB e).n && Nat.beq s sz && Nat.beq s (TB e).n && Nat.beq off 0 && Nat.beq r s && Nat.beq sy s && Nat.beq oy 0 && !Nat.beq id jd) (Chk (len=n∧ly=m∧(len+m)*(TB e).bytes≤140737488355328)∧K (.row o.length sz 0 (len+m)) ((o.set id .dead).set jd .dead ++ [.nrow sz (len+m) (appF len f g) none])) False
      |_,_=>False
     |_,_=>False
   |_,_=>False
  |_,_=>False
 |.call { callee:=.value (.func f),args:=as,.. }=>forceL (as.toList.map (ev t)) fun vs=>call f vs o K
 |.call { callee:=.value (.tmp x),args:=as,.. }=>match t x with
  |.fn f first cap=>cond (liveL o first && liveL o cap) (forceL (first ++ as.toList.map (ev t) ++ cap) fun vs=>call f vs o K) False
  |_=>False
 |_=>False
def opP (full:Array Oper) (x:Oper) (t:Fr) (o:List Obj) (K:Fr→List Obj→Prop):Prop :=
 let put:AV→List Obj→Prop:=fun v o'=>match x.dst with
  |some d=>K (upd t d v) o'
  |none=>K t o'
 let go:Prop:=match isRd x.op with
  |true=>rdP TB x.op t o fun v=>force v fun v=>put v o
  |false=>efP TB call x.op t o fun v o'=>forceO o' fun o'=>force v fun v=>put v o'
 match x.guard with
 |none=>go
 |some (j,want)=>match (((full[j]?).bind (·.dst)).map t).getD .undef with
  |.bool b=>Br b (cond want go (put (.tup []) o)) (cond want (put (.tup []) o) go)
  |.tup []=>put (.tup []) o
  |_=>False
def opsP (full:Array Oper):List Oper→Fr→List Obj→(Fr→List Obj→Prop)→Prop
 |[],t,o,K=>K t o
 |x :: r,t,o,K=>opP TB call full x t o fun t o=>opsP full r t o K
/-! ### What is known may be told anew: slots forgotten, local objects numbered anew, rows frozen -/
section
variable (π:List (Option Nat)) (fz:List Nat) (o:List Obj)
def idIs (j id:Nat):Bool:=match π[j]? with
 |some (some i)=>Nat.beq i id
 |_=>false
def idNew (j:Nat):Bool:=match π[j]? with
 |some none=>true
 |_=>false
mutual
def rv:AV→AV→Prop
 |.undef,_=>True
 |.int k n,.int j m=>cond (sameK k j) (Chk (n=m)) False
 |.bool a,.bool b=>Chk (a=b)
 |.str a,.str b=>Chk (a=b)
 |.sl s n f,.sl z m g=>cond (Nat.beq s z) (Chk (n=m∧∀ i,i<n→f i=g i)) False
 |.sl z n f,.row id sz off len=>match o[id]? with
  |some (.row s m g)=>cond (Nat.beq s sz && Nat.beq s z && fz.contains id) (Chk (n=len∧off+len≤m∧∀ i,i<n→f i=g (off+i))) False
  |some (.nrow s m g none)=>cond (Nat.beq s sz && Nat.beq s z && fz.contains id) (Chk (n=len∧off+len≤m∧∀ i,i<n→f i=g (off+i))) False
  |_=>False
 |.sl _ n _,.nils=>Chk (n=0)
 |.ro cs,.ro ds=>Chk (cs=ds)
 |.row j s a n,.row id sz off len=>cond (idIs π j id && Nat.beq s sz && live o (.row id sz off len)) (Chk (a=off∧n=len)) False
 |.row j _ a n,.nils=>cond (idNew π j) (Chk (a=0∧n=0)) False
 |.ptr j a,.ptr id off=>cond (idIs π j id && Nat.beq a off && live o (.ptr id off)) True False
 |.eptr j s i a,.eptr id sz k off=>cond (idIs π j id && Nat.beq s sz && Nat.beq a off && live o (.eptr id sz k off)) (Chk (i=k)) False
 |.nils,.nils=>True
 |.nilp,.nilp=>True
 |.nilf,.nilf=>True
 |.nili,.nili=>True
 |.ifc,.ifc=>True
 |.agg l,.agg m=>cond (liveL o m) (rvL l m) False
 |.tup l,.tup m=>cond (liveL o m) (rvL l m) False
 |.fn f a c,.fn g b d=>cond (Nat.beq f g && liveL o b && liveL o d) (rvL a b∧rvL c d) False
 |_,_=>False
def rvL:List AV→List AV→Prop
 |[],[]=>True
 |a :: l,b :: m=>rv a b∧rvL l m
 |_,_=>False
end
def wkT (t:Fr):List (Nat × AV)→Prop
 |[]=>True
 |(x,v) :: r=>rv π fz o v (t x)∧wkT t r
def wkO:List (Option Nat)→List Obj→Prop
 |[],[]=>True
 |none :: p,.row _ n _ :: r=>Chk (n=0)∧wkO p r
 |none :: p,.nrow _ n _ none :: r=>Chk (n=0)∧wkO p r
 |some id :: p,x :: r=>(match x,o[id]? with
  |.box cs,some (.box ds)=>rvL π fz o cs ds
  |.row s n f,some (.row sz m g)=>cond (Nat.beq s sz) (Chk (n=m∧∀ i,i<n→f i=g i)) False
  |.nrow s n f none,some (.nrow sz m g none)=>cond (Nat.beq s sz) (Chk (n=m∧∀ i,i<n→f i=g i)) False
  |_,_=>False)∧wkO p r
 |_,_=>False
def wkN:List (Option Nat)→Bool
 |[]=>true
 |none :: p=>wkN p
 |some id :: p=>!p.contains (some id) && !fz.contains id && wkN p
end
def wkM:Nat→List (Option Nat)→Nat→Bool
 |0,_,_=>true
 |m+1,some j :: p,i=>Nat.beq j i && wkM m p (i+1)
 |_+1,_,_=>false
def openL:Nat→List AV→List AV × List Obj
 |_,[]=>([],[])
 |k,.sl s n g :: r=>(.row k s 0 n :: (openL (k+1) r).1,.row s n g :: (openL (k+1) r).2)
 |k,v :: r=>(v :: (openL k r).1,(openL k r).2)
inductive Mv (m:Nat) (o o1:List Obj):Prop
 |nr (id s n:Nat) (f:Nat→List AV) (h1:o[id]?=some (.row s n f)) (h2:m≤id) (h3:∀ i,i<n→∀ v,v∈f i→v.plain=true) (ho:forceO (o.set id (.nrow s n f none)) fun o=>o1=o)
 |op (id s n:Nat) (f:Nat→List AV) (i:Nat) (cs:List AV) (h1:o[id]?=some (.nrow s n f none)) (h2:i<n) (h3:f i=cs)
   (ho:forceO (o.set id (.nrow s n f (some (i,(openL o.length cs).1))) ++ (openL o.length cs).2) fun o=>o1=o)
 |cl (id s n:Nat) (f:Nat→List AV) (i:Nat) (cs ds:List AV) (ks:List Nat) (p:Prop) (h1:o[id]?=some (.nrow s n f (some (i,cs)))) (h2:ownL o cs=some (ds,ks,p)) (h3:p) (h4:(ownN ks && !ks.contains id)=true)
   (ho:forceO ((kill o ks).set id (.nrow s n (setF f i ds) none)) fun o=>o1=o)
inductive Mvs (m:Nat):List Obj→List Obj→Prop
 |nil (o):Mvs m o o
 |cons (o o1 o2) (h:Mv m o o1) (hs:Mvs m o1 o2):Mvs m o o2
structure WkTo (m:Nat) (t:Fr) (o:List Obj) (L:List (Nat × AV)) (o':List Obj):Prop where
 ex:∃ π fz,wkM m π 0=true∧wkN fz π=true∧wkT π fz o t L∧wkO π fz o π o'
inductive Wk (m:Nat) (t:Fr) (o:List Obj) (F:Fr→List Obj→Prop):Prop where
 |rf (h:F t o)
 |mv (o1:List Obj) (h:Mvs m o o1) (hF:F t o1)
 |mg (o1:List Obj) (h:Mvs m o o1) (L:List (Nat × AV)) (o':List Obj) (h:WkTo m t o1 L o') (hF:F (ofL L) o')
 |go (L:List (Nat × AV)) (o':List Obj) (h:WkTo m t o L o') (hF:F (ofL L) o')
structure Lp (k:Nat) (t:Fr) (o:List Obj) (R:Fr→List Obj→(Fr→List Obj→Prop)→Prop):Prop where
 ex:∃ (X:Type) (L:X→List (Nat × AV)) (g:X→List Obj) (inv:X→Prop) (m:X→Nat),(∃ x,inv x∧WkTo k t o (L x) (g x)) ∧
  ∀ x,inv x→R (ofL (L x)) (g x) fun t o=>∃ x',inv x'∧m x'<m x∧WkTo k t o (L x') (g x')
inductive Sq (m:Nat) (A:(Exit→Fr→List Obj→Prop)→Prop) (B:Fr→List Obj→Prop) (Q:Exit→Fr→List Obj→Prop):Prop where
 |d (h:A fun e t o=>match e with
   |.normal=>Wk m t o B
   |e=>Q e t o)
 |j (X:Type) (L:X→List (Nat × AV)) (g:X→List Obj) (inv:X→Prop) (h:A fun e t o=>match e with
   |.normal=>∃ x,inv x∧WkTo m t o (L x) (g x)
   |e=>Q e t o) (k:∀ x,inv x→B (ofL (L x)) (g x))
section
variable (TB:TypeId→TI) (call:FuncId→List AV→List Obj→(AV→List Obj→Prop)→Prop)
variable (reg:Array Oper→Fr→List Obj→(Fr→List Obj→Prop)→Prop) (m:Nat)
def pwp:Code→Fr→List Obj→(Exit→Fr→List Obj→Prop)→Prop
 |.skip,t,o,Q=>Q .normal t o
 |.region _ ops d,t,o,Q=>cond d (reg ops t o (Q .normal)) (opsP TB call ops ops.toList t o (Q .normal))
 |.seq a b,t,o,Q=>Sq m (fun Q=>pwp a t o Q) (fun t o=>pwp b t o Q) Q
 |.cond c a b,t,o,Q=>match ev t c with
  |.bool x=>Br x (pwp a t o Q) (pwp b t o Q)
  |_=>False
 |.block id c,t,o,Q=>pwp c t o fun e t o=>match e with
  |.exit j=>cond (Nat.beq j id) (Q .normal t o) (Q (.exit j) t o)
  |e=>Q e t o
 |.loop c,t,o,Q=>Lp m t o fun t o K=>pwp c t o fun e t o=>match e with
  |.normal=>K t o
  |e=>Q e t o
 |.exit id,t,o,Q=>Q (.exit id) t o
 |.ret,t,o,Q=>Q .ret t o
 |_,_,_,_=>False
def retL (t:Fr) (o:List Obj):List ResultVar→(List AV→Prop)→Prop
 |[],K=>K []
 |.tmp x :: r,K=>retL t o r fun l=>K (t x :: l)
 |.cell a ty :: r,K=>match cellsAt o (t a) with
  |some cs=>loadV (TB ty) cs fun v=>retL t o r fun l=>K (v :: l)
  |none=>False
def retP (fn:Func) (t:Fr) (o:List Obj) (K:AV→List Obj→Prop):Prop :=
 retL TB t o fn.results.toList fun l=>forceL l fun l=>match l with
  |[v]=>K v o
  |l=>K (.tup l) o
def argF:List AV→Nat→Fr
 |[],_=>fun _=>.undef
 |v :: r,i=>upd (argF r (i+1)) i v
def bodyP (fn:Func) (vs:List AV) (o:List Obj) (K:AV→List Obj→Prop):Prop:=match fn.body with
 |some c=>pwp TB call reg m c (argF vs 0) o fun e t o=>match e with
  |.normal=>Wk m t o fun t o=>retP TB fn t o K
  |.ret=>Wk m t o fun t o=>retP TB fn t o K
  |_=>False
 |none=>False
end
end Go.Proofs.YtgdbhjmpkkbnnaaGreatDoor.Vc
end
section
/- Part B of the engine: what abstract values and local objects say of the machine's memory, and what keeps it true. -/
namespace Go.Proofs.YtgdbhjmpkkbnnaaGreatDoor.Vc
inductive DR (R:Nat→Prop) (w:World):AV→Value→Prop
 |undef (x) (h:x.oneCell'=true):DR R w .undef x
 |int (k n):DR R w (.int k n) (.int k n)
 |bool (b):DR R w (.bool b) (.bool b)
 |str (s):DR R w (.str s) (.string s)
 |nils (a):DR R w .nils (.slice a 0 0)
 |nilp:DR R w .nilp (.pointer none)
 |nilf:DR R w .nilf .nilFunc
 |nili:DR R w .nili .nilIface
 |ifc (ty v):DR R w .ifc (.iface ty v)
 |sl0 (s f a cap):DR R w (.sl s 0 f) (.slice a 0 cap)
 |sl (sz len f) (ad:Addr) (cap) (g:Nat→Nat→Value) (h1:len≤cap) (h2:R ad.block) (h3:∀ i,i<len→(f i).length=sz)
   (h4:∀ i,i<len→∀ j,j<sz→w.cell? (ad.add (i*sz+j))=some (g i j)) (h5:∀ i,i<len→∀ j,j<sz→DR R w ((f i).getD j .undef) (g i j)):DR R w (.sl sz len f) (.slice (some ad) len cap)
 |ro (cs) (ad:Addr) (g:Nat→Value) (h2:R ad.block) (h4:∀ j,j<cs.length→w.cell? (ad.add j)=some (g j)) (h5:∀ j,j<cs.length→DR R w (cs.getD j .undef) (g j)):DR R w (.ro cs) (.pointer (some ad))
inductive Ix where
 |ob (id:Nat)
 |inn (id q:Nat)
 deriving DecidableEq
instance:Coe Nat Ix:=⟨.ob⟩
def Ix.id:Ix→Nat
 |.ob i=>i
 |.inn i _=>i
def Ix.at:Ix→Nat→Ix
 |.ob _,k=>.ob k
 |.inn _ q,k=>.inn k q
theorem Ix.at_id (x:Ix) (k:Nat):(x.at k).id=k:=by cases x <;> rfl
theorem Ix.at_self (x:Ix):x.at x.id=x:=by cases x <;> rfl
theorem Ix.at_at (x:Ix) (j k:Nat):(x.at j).at k=x.at k:=by cases x <;> rfl
inductive VR (ρ:Ix→Option Nat) (R:Nat→Prop) (w:World):AV→Value→Prop
 |data {v x} (h:DR R w v x):VR ρ R w v x
 |undef (x):VR ρ R w .undef x
 |row {id sz off len b:Nat} {cs ty cap} (h1:ρ id=some b) (h2:w.heap[b]?=some (.cells cs ty (0,0))) (h3:len≤cap) (h4:(off+cap)*sz≤cs.size) (h5:cap≤9223372036854775807):VR ρ R w (.row id sz off len) (.slice (some ⟨b,off*sz,none⟩) len cap)
 |row0 (id sz off a):VR ρ R w (.row id sz off 0) (.slice a 0 0)
 |ptr {id off b:Nat} (h1:ρ id=some b):VR ρ R w (.ptr id off) (.pointer (some ⟨b,off,none⟩))
 |eptr {id sz i off b:Nat} (h1:ρ id=some b):VR ρ R w (.eptr id sz i off) (.pointer (some ⟨b,i*sz+off,none⟩))
 |agg (l:List AV) (xs:Array Value) (h1:xs.size=l.length) (h2:∀ j,j<l.length→VR ρ R w (l.getD j .undef) (xs.getD j undef)):VR ρ R w (.agg l) (.agg xs)
 |tup (l:List AV) (xs:Array Value) (h1:xs.size=l.length) (h2:∀ j,j<l.length→VR ρ R w (l.getD j .undef) (xs.getD j undef)):VR ρ R w (.tup l) (.tuple xs)
 |fn (f:FuncId) (l m:List AV) (xs ys:Array Value) (h1:xs.size=l.length) (h2:∀ j,j<l.length→VR ρ R w (l.getD j .undef) (xs.getD j undef))
   (h3:ys.size=m.length) (h4:∀ j,j<m.length→VR ρ R w (m.getD j .undef) (ys.getD j undef)):VR ρ R w (.fn f l m) (.func (.func f) xs ys)
mutual
def beneath (n:Nat):AV→Bool
 |.row id _ _ _=>decide (id<n)
 |.ptr id _=>decide (id<n)
 |.eptr id _ _ _=>decide (id<n)
 |.agg l=>beneathL n l
 |.tup l=>beneathL n l
 |.fn _ l m=>beneathL n l && beneathL n m
 |_=>true
def beneathL (n:Nat):List AV→Bool
 |[]=>true
 |v :: r=>beneath n v && beneathL n r
end
theorem liveL_iff {o:List Obj}:∀ {l:List AV},liveL o l=true ↔ ∀ v∈l,live o v=true
 |[]=>by simp [liveL]
 |v :: r=>by simp [liveL,liveL_iff (l:=r)]
theorem beneathL_iff {n:Nat}:∀ {l:List AV},beneathL n l=true ↔ ∀ v∈l,beneath n v=true
 |[]=>by simp [beneathL]
 |v :: r=>by simp [beneathL,beneathL_iff (l:=r)]
structure TR (ρ:Ix→Option Nat) (o:List Obj) (R:Nat→Prop) (w:World) (v:AV) (x:Value):Prop where
 be:beneath o.length v=true
 vr:live o v=true→VR ρ R w v x
def NR (ρ:Ix→Option Nat) (R:Nat→Prop) (w:World) (id q:Nat) (v:AV) (x:Value):Prop :=
 (v.plain=true∧DR R w v x)∨∃ s len g,v=.sl s len g∧(∀ i,i<len→(g i).length=s)∧((len=0∧∃ a,x=.slice a 0 0) ∨
  ∃ b ys ty cap,x=.slice (some ⟨b,0,none⟩) len cap∧ρ (.inn id q)=some b∧w.heap[b]?=some (.cells ys ty (0,0))∧len≤cap∧cap*s≤ys.size∧cap≤9223372036854775807 ∧
   ∀ i,i<len→∀ j,j<s→DR R w ((g i).getD j .undef) (ys.getD (i*s+j) undef))
def OB (ρ:Ix→Option Nat) (o:List Obj) (R:Nat→Prop) (w:World) (id:Nat):Obj→Prop
 |.box cs=>∃ b xs ty,ρ id=some b∧w.heap[b]?=some (.cells xs ty (0,0))∧xs.size=cs.length∧∀ j,j<cs.length→TR ρ o R w (cs.getD j .undef) (xs.getD j undef)
 |.row sz n f=>(n=0∧ρ id=none)∨∃ b xs ty,ρ id=some b∧w.heap[b]?=some (.cells xs ty (0,0))∧n*sz≤xs.size∧(∀ i,i<n→(f i).length=sz) ∧
   ∀ i,i<n→∀ j,j<sz→DR R w ((f i).getD j .undef) (xs.getD (i*sz+j) undef)
 |.nrow sz n f x=>(n=0∧x=none∧ρ id=none)∨∃ b xs ty,ρ id=some b∧w.heap[b]?=some (.cells xs ty (0,0))∧n*sz≤xs.size∧(∀ i,i<n→(f i).length=sz) ∧
   (∀ i,i<n→x.map (·.1)≠some i→∀ j,j<sz→NR ρ R w id (i*sz+j) ((f i).getD j .undef) (xs.getD (i*sz+j) undef)) ∧
   ∀ i cs,x=some (i,cs)→i<n∧cs.length=sz∧∀ j,j<sz→TR ρ o R w (cs.getD j .undef) (xs.getD (i*sz+j) undef)
 |.dead=>ρ id=none
structure HR (Gl:List (Nat × Go.Obj)) (o:List Obj) (ρ:Ix→Option Nat) (R:Nat→Prop) (w:World):Prop where
 dom:∀ x b,ρ x=some b→x.id<o.length
 din:∀ id q b,ρ (.inn id q)=some b→∃ s n f x,o[id]?=some (.nrow s n f x)
 lt:∀ id b,ρ id=some b→b<w.heap.size
 inj:∀ i j b,ρ i=some b→ρ j=some b→i=j
 ro:∀ b,R b→b<w.heap.size∧∀ id,ρ id≠some b
 obj:∀ id ob,o[id]?=some ob→OB ρ o R w id ob
 gl:∀ p,p∈Gl→R p.1∧w.heap[p.1]?=some p.2
structure EX (o:List Obj) (ρ:Ix→Option Nat) (R:Nat→Prop) (w:World) (o':List Obj) (ρ':Ix→Option Nat) (R':Nat→Prop) (w':World):Prop where
 len:o.length≤o'.length
 keep:∀ id,id<o.length→match o'[id]? with
  |some (.box _)=>(∃ cs,o[id]?=some (.box cs))∧ρ' id=ρ id
  |some (.row sz _ _)=>(∃ n f,o[id]?=some (.row sz n f))∧ρ' id=ρ id
  |some (.nrow sz _ _ _)=>(∃ ob,o[id]?=some ob∧ob.rsz=some sz)∧ρ' id=ρ id
  |_=>True
 rmono:∀ b,R b→R' b
 rnew:∀ b,R' b→R b∨w.heap.size≤b∨∃ id,ρ id=some b
 pnew:∀ id b,ρ' id=some b→w.heap.size≤b∨∃ j,ρ j=some b
 size:w.heap.size≤w'.heap.size
 same:∀ b,b<w.heap.size→(∀ id,ρ id≠some b)→w'.heap[b]?=w.heap[b]?
 shape:∀ (b:Nat) (xs:Array Value) (ty:TypeId),w.heap[b]?=some (.cells xs ty (0,0))→∃ xs':Array Value,w'.heap[b]?=some (.cells xs' ty (0,0))∧xs'.size=xs.size
 os:w'.os=w.os
 tape:w'.tape=w.tape
 output:w'.output=w.output
theorem EX.refl (o ρ R w):EX o ρ R w o ρ R w where
 len:=Nat.le_refl _
 keep id _:=by
  split
  ·rename_i h; exact ⟨⟨_,h⟩,rfl⟩
  ·rename_i h; exact ⟨⟨_,_,h⟩,rfl⟩
  ·rename_i h; exact ⟨⟨_,h,rfl⟩,rfl⟩
  ·trivial
 rmono _ h:=h
 rnew _ h:=.inl h
 pnew id b h:=.inr ⟨id,h⟩
 size:=Nat.le_refl _
 same _ _ _:=rfl
 shape _ xs _ h:=⟨xs,h,rfl⟩
 os:=rfl
 tape:=rfl
 output:=rfl
theorem EX.trans {o ρ R w o1 ρ1 R1 w1 o2 ρ2 R2 w2} (h:EX o ρ R w o1 ρ1 R1 w1) (k:EX o1 ρ1 R1 w1 o2 ρ2 R2 w2):EX o ρ R w o2 ρ2 R2 w2 where
 len:=Nat.le_trans h.len k.len
 keep id hid:=by
  have h1:=h.keep id hid
  have h2:=k.keep id (Nat.lt_of_lt_of_le hid h.len)
  split
  ·rename_i cs e
   rw [e] at h2
   obtain ⟨⟨cs',e'⟩,hr⟩:=h2
   rw [e'] at h1
   exact ⟨h1.1,hr.trans h1.2⟩
  ·rename_i sz n f e
   rw [e] at h2
   obtain ⟨⟨n',f',e'⟩,hr⟩:=h2
   rw [e'] at h1
   exact ⟨h1.1,hr.trans h1.2⟩
  ·rename_i sz n f x e
   rw [e] at h2
   obtain ⟨⟨ob,e',hz⟩,hr⟩:=h2
   rw [e'] at h1
   cases ob with
   |row s' n' f' =>
    obtain ⟨⟨n2,f2,e2⟩,h1⟩:=h1
    exact ⟨⟨_,e2,hz⟩,hr.trans h1⟩
   |nrow s' n' f' x' =>
    obtain ⟨⟨ob2,e2,hz2⟩,h1⟩:=h1
    exact ⟨⟨_,e2,hz2.trans hz⟩,hr.trans h1⟩
   |_=>cases hz
  ·trivial
 rmono b hb:=k.rmono b (h.rmono b hb)
 rnew b hb:=by
  rcases k.rnew b hb with h1|h1|⟨id,h1⟩
  ·exact h.rnew b h1
  ·exact .inr (.inl (Nat.le_trans h.size h1))
  ·rcases h.pnew id b h1 with h2|h2
   ·exact .inr (.inl h2)
   ·exact .inr (.inr h2)
 pnew id b hb:=by
  rcases k.pnew id b hb with h1|⟨j,h1⟩
  ·exact .inl (Nat.le_trans h.size h1)
  ·exact h.pnew j b h1
 size:=Nat.le_trans h.size k.size
 same b hb hn:=by
  refine (k.same b (Nat.lt_of_lt_of_le hb h.size) fun id hid=>?_).trans (h.same b hb hn)
  rcases h.pnew id b hid with h2|⟨j,h2⟩
  ·omega
  ·exact hn j h2
 shape b xs ty hb:=by
  obtain ⟨x1,e1,s1⟩:=h.shape b xs ty hb
  obtain ⟨x2,e2,s2⟩:=k.shape b x1 ty e1
  exact ⟨x2,e2,s2.trans s1⟩
 os:=k.os.trans h.os
 tape:=k.tape.trans h.tape
 output:=k.output.trans h.output
theorem cell_of_block {w w':World} {a:Addr} (h:w'.heap[a.block]?=w.heap[a.block]?):w'.cell? a=w.cell? a:=by simp [World.cell?,h]
theorem add_block (a:Addr) (n:Nat):(a.add n).block=a.block:=by unfold Addr.add; split <;> rfl
theorem DR.go {R R':Nat→Prop} {w w':World} (hR:∀ b,R b→R' b) (hw:∀ b,R b→w'.heap[b]?=w.heap[b]?) {v:AV} {x:Value} (h:DR R w v x):DR R' w' v x:=by
 induction h with
 |undef x h=>exact .undef x h
 |int k n=>exact .int k n
 |bool b=>exact .bool b
 |str s=>exact .str s
 |nils a=>exact .nils a
 |nilp=>exact .nilp
 |nilf=>exact .nilf
 |nili=>exact .nili
 |ifc ty v=>exact .ifc ty v
 |sl0 s f a cap=>exact .sl0 s f a cap
 |sl sz len f ad cap g h1 h2 h3 h4 _ ih=>exact .sl sz len f ad cap g h1 (hR _ h2) h3 (fun i hi j hj=>(cell_of_block (by rw [add_block]; exact hw _ h2)).trans (h4 i hi j hj)) ih
 |ro cs ad g h2 h4 _ ih=>exact .ro cs ad g (hR _ h2) (fun j hj=>(cell_of_block (by rw [add_block]; exact hw _ h2)).trans (h4 j hj)) ih
theorem getD_mem {l:List AV} {j:Nat} (h:j<l.length):l.getD j .undef∈l:=by
 rw [List.getD_eq_getElem?_getD,List.getElem?_eq_getElem h]
 exact List.getElem_mem h
theorem VR.go {o:List Obj} {ρ R w o' ρ' R' w'} (hx:EX o ρ R w o' ρ' R' w') (hro:∀ b,R b→b<w.heap.size∧∀ id,ρ id≠some b) {v:AV} {x:Value} (h:VR ρ R w v x) :
  beneath o.length v=true→live o' v=true→VR ρ' R' w' v x:=by
 have hw:∀ b,R b→w'.heap[b]?=w.heap[b]?:=fun b hb=>hx.same b (hro b hb).1 (hro b hb).2
 induction h with
 |data h=>exact fun _ _=>.data (h.go hx.rmono hw)
 |undef x=>exact fun _ _=>.undef x
 |@row id sz off len b cs ty cap h1 h2 h3 h4 h5 =>
  intro hb hl
  have hk:=hx.keep id (by simpa [beneath] using hb)
  simp only [live] at hl
  split at hl
  ·rename_i s n f e
   rw [e] at hk
   obtain ⟨cs',e',hs⟩:=hx.shape b cs ty h2
   exact .row (hk.2.trans h1) e' h3 (by omega) h5
  ·rename_i s n f x e
   rw [e] at hk
   obtain ⟨cs',e',hs⟩:=hx.shape b cs ty h2
   exact .row (hk.2.trans h1) e' h3 (by omega) h5
  ·cases hl
 |row0 id sz off a=>exact fun _ _=>.row0 id sz off a
 |@ptr id off b h1 =>
  intro hb hl
  have hk:=hx.keep id (by simpa [beneath] using hb)
  simp only [live] at hl
  split at hl
  ·rename_i cs e
   rw [e] at hk
   exact .ptr (hk.2.trans h1)
  ·cases hl
 |@eptr id sz i off b h1 =>
  intro hb hl
  have hk:=hx.keep id (by simpa [beneath] using hb)
  simp only [live] at hl
  split at hl
  ·rename_i s n f e
   rw [e] at hk
   exact .eptr (hk.2.trans h1)
  ·rename_i s n f x e
   rw [e] at hk
   exact .eptr (hk.2.trans h1)
  ·cases hl
 |agg l xs h1 h2 ih =>
  intro hb hl
  simp only [beneath] at hb
  simp only [live] at hl
  exact .agg l xs h1 fun j hj=>ih j hj (beneathL_iff.1 hb _ (getD_mem hj)) (liveL_iff.1 hl _ (getD_mem hj))
 |tup l xs h1 h2 ih =>
  intro hb hl
  simp only [beneath] at hb
  simp only [live] at hl
  exact .tup l xs h1 fun j hj=>ih j hj (beneathL_iff.1 hb _ (getD_mem hj)) (liveL_iff.1 hl _ (getD_mem hj))
 |fn f l m xs ys h1 h2 h3 h4 ih1 ih2 =>
  intro hb hl
  simp only [beneath,Bool.and_eq_true] at hb
  simp only [live,Bool.and_eq_true] at hl
  exact .fn f l m xs ys h1 (fun j hj=>ih1 j hj (beneathL_iff.1 hb.1 _ (getD_mem hj)) (liveL_iff.1 hl.1 _ (getD_mem hj)))
   h3 (fun j hj=>ih2 j hj (beneathL_iff.1 hb.2 _ (getD_mem hj)) (liveL_iff.1 hl.2 _ (getD_mem hj)))
mutual
theorem beneath_mono {m n:Nat} (hmn:m≤n):∀ v:AV,beneath m v=true→beneath n v=true
 |.row id _ _ _,h=>by simp only [beneath,decide_eq_true_eq] at h ⊢; omega
 |.ptr id _,h=>by simp only [beneath,decide_eq_true_eq] at h ⊢; omega
 |.eptr id _ _ _,h=>by simp only [beneath,decide_eq_true_eq] at h ⊢; omega
 |.agg l,h=>by simp only [beneath] at h ⊢; exact beneathL_mono hmn l h
 |.tup l,h=>by simp only [beneath] at h ⊢; exact beneathL_mono hmn l h
 |.fn _ l k,h=>by
  simp only [beneath,Bool.and_eq_true] at h ⊢
  exact ⟨beneathL_mono hmn l h.1,beneathL_mono hmn k h.2⟩
 |.undef,_=>rfl|.int ..,_=>rfl|.bool _,_=>rfl|.str _,_=>rfl|.sl ..,_=>rfl|.ro _,_=>rfl|.nils,_=>rfl|.nilp,_=>rfl|.nilf,_=>rfl|.nili,_=>rfl|.ifc,_=>rfl
theorem beneathL_mono {m n:Nat} (hmn:m≤n):∀ l:List AV,beneathL m l=true→beneathL n l=true
 |[],_=>rfl
 |v :: r,h=>by
  simp only [beneathL,Bool.and_eq_true] at h ⊢
  exact ⟨beneath_mono hmn v h.1,beneathL_mono hmn r h.2⟩
end
mutual
theorem live_back {o:List Obj} {ρ R w o' ρ' R' w'} (hx:EX o ρ R w o' ρ' R' w'):∀ v:AV,beneath o.length v=true→live o' v=true→live o v=true
 |.row id sz off len,hb,hl=>by
  have hk:=hx.keep id (by simpa [beneath] using hb)
  simp only [live] at hl ⊢
  split at hl
  ·rename_i s n f e
   rw [e] at hk
   obtain ⟨⟨n',f',e'⟩,_⟩:=hk
   rw [e']
   exact hl
  ·rename_i s n f x e
   rw [e] at hk
   obtain ⟨⟨ob,e',hz⟩,_⟩:=hk
   rw [e']
   cases ob with
   |row s' n' f'=>cases hz; exact hl
   |nrow s' n' f' x'=>cases hz; exact hl
   |_=>cases hz
  ·cases hl
 |.ptr id off,hb,hl=>by
  have hk:=hx.keep id (by simpa [beneath] using hb)
  simp only [live] at hl ⊢
  split at hl
  ·rename_i cs e
   rw [e] at hk
   obtain ⟨⟨cs',e'⟩,_⟩:=hk
   rw [e']
  ·cases hl
 |.eptr id sz i off,hb,hl=>by
  have hk:=hx.keep id (by simpa [beneath] using hb)
  simp only [live] at hl ⊢
  split at hl
  ·rename_i s n f e
   rw [e] at hk
   obtain ⟨⟨n',f',e'⟩,_⟩:=hk
   rw [e']
   exact hl
  ·rename_i s n f x e
   rw [e] at hk
   obtain ⟨⟨ob,e',hz⟩,_⟩:=hk
   rw [e']
   cases ob with
   |row s' n' f'=>cases hz; exact hl
   |nrow s' n' f' x'=>cases hz; exact hl
   |_=>cases hz
  ·cases hl
 |.agg l,hb,hl=>by simp only [beneath,live] at hb hl ⊢; exact liveL_back hx l hb hl
 |.tup l,hb,hl=>by simp only [beneath,live] at hb hl ⊢; exact liveL_back hx l hb hl
 |.fn _ l k,hb,hl=>by
  simp only [beneath,live,Bool.and_eq_true] at hb hl ⊢
  exact ⟨liveL_back hx l hb.1 hl.1,liveL_back hx k hb.2 hl.2⟩
 |.undef,_,_=>rfl|.int ..,_,_=>rfl|.bool _,_,_=>rfl|.str _,_,_=>rfl|.sl ..,_,_=>rfl|.ro _,_,_=>rfl|.nils,_,_=>rfl|.nilp,_,_=>rfl|.nilf,_,_=>rfl|.nili,_,_=>rfl|.ifc,_,_=>rfl
theorem liveL_back {o:List Obj} {ρ R w o' ρ' R' w'} (hx:EX o ρ R w o' ρ' R' w'):∀ l:List AV,beneathL o.length l=true→liveL o' l=true→liveL o l=true
 |[],_,_=>rfl
 |v :: r,hb,hl=>by
  simp only [beneathL,liveL,Bool.and_eq_true] at hb hl ⊢
  exact ⟨live_back hx v hb.1 hl.1,liveL_back hx r hb.2 hl.2⟩
end
theorem TR.go {o:List Obj} {ρ R w o' ρ' R' w'} (hx:EX o ρ R w o' ρ' R' w') (hro:∀ b,R b→b<w.heap.size∧∀ id,ρ id≠some b) {v:AV} {x:Value} (h:TR ρ o R w v x):TR ρ' o' R' w' v x :=
 ⟨beneath_mono hx.len v h.be,fun hl=>(h.vr (live_back hx v h.be hl)).go hx hro h.be hl⟩
end Go.Proofs.YtgdbhjmpkkbnnaaGreatDoor.Vc
end
section
/- Part C of the engine: operations that only read do on the machine what the engine says. -/
namespace Go.Proofs.YtgdbhjmpkkbnnaaGreatDoor.Vc
/-! ### The types' table -/
def zOk:List AV→List Value→Bool
 |[],[]=>true
 |.int k n :: r,.int j m :: s=>decide (k=j∧n=m) && zOk r s
 |.bool a :: r,.bool b :: s=>decide (a=b) && zOk r s
 |.str a :: r,.string b :: s=>decide (a=b) && zOk r s
 |.nils :: r,.slice none 0 0 :: s=>zOk r s
 |.nilp :: r,.pointer none :: s=>zOk r s
 |.nilf :: r,.nilFunc :: s=>zOk r s
 |.nili :: r,.nilIface :: s=>zOk r s
 |_,_=>false
def kOk (P:Program) (TB:TypeId→TI) (t:TypeId) (ti:TI):Bool:=match ti.k,P.underlying t with
 |.int k,some (.int j)=>decide (j=k)
 |.bool,some .bool=>true
 |.str,some .string=>true
 |.slice e,some (.slice e')=>decide (e=e') && !((TB e).k matches .bad)
 |.struct fs,some (.struct F)=>decide (F.toList.map (fun f=>(f.offset,f.type))=fs) && fs.all (fun p=>!((TB p.2).k matches .bad))
 |.ptr,some (.pointer _)=>true
 |.iface,some (.interface _)=>true
 |_,_=>false
def eqOk (P:Program) (TB:TypeId→TI) (t:TypeId):Bool:=!(TB t).eq || (!P.stoodInHeld t && !P.eqGuardType P.depth t && (match P.underlying t with
 |some (.struct F) => F.toList.zipIdx.all fun p => !(p.1.name == "_") && decide (p.1.offset = p.2) && (match (TB p.1.type).k with | .int _ | .bool | .str => true | _ => false)
 |_=>false))
def tiOk (P:Program) (TB:TypeId→TI) (t:TypeId):Bool:=match P.info? t with
 |some i=>decide (i.size=(TB t).n) && decide (i.bytes=(TB t).bytes) && kOk P TB t (TB t) && (match i.zero with|some z=>zOk (TB t).z z.cells.toList|none=>false) && (eqOk P TB t && decide ((TB t).z.length=(TB t).n))
 |none=>false
structure TOk (P:Program) (TB:TypeId→TI):Prop where
 ok:∀ t,(TB t).k≠.bad→tiOk P TB t=true
def lookT:List (TypeId × TI)→TypeId→TI
 |[],_=>default
 |(j,v) :: r,i=>cond (Nat.beq i j) v (lookT r i)
theorem lookT_mem {L:List (TypeId × TI)} {t:TypeId}:(lookT L t).k≠.bad→t∈L.map (·.1):=by
 induction L with
 |nil=>intro h; exact absurd rfl h
 |cons p r ih =>
  obtain ⟨j,v⟩:=p
  intro h
  unfold lookT at h
  cases e:Nat.beq t j with
  |true=>rw [Nat.eq_of_beq_eq_true e]; simp
  |false=>rw [e] at h; simp only [cond_false] at h; exact List.mem_cons_of_mem _ (ih h)
theorem TOk.of {P:Program} {L:List (TypeId × TI)} (h:(L.all fun p=>tiOk P (lookT L) p.1)=true):TOk P (lookT L):=⟨fun t ht=>by
 obtain ⟨p,hp,rfl⟩:=List.mem_map.1 (lookT_mem ht)
 exact List.all_eq_true.1 h p hp⟩
section
variable {P:Program} {TB:TypeId→TI}
theorem TOk.info (h:TOk P TB) {t:TypeId} (hb:(TB t).k≠.bad):∃ i z,P.info? t=some i∧i.size=(TB t).n∧i.bytes=(TB t).bytes∧i.zero=some z∧zOk (TB t).z z.cells.toList=true∧kOk P TB t (TB t)=true:=by
 have:=h.ok t hb
 unfold tiOk at this
 split at this
 ·rename_i i hi
  simp only [Bool.and_eq_true,decide_eq_true_eq] at this
  obtain ⟨⟨⟨⟨h1,h2⟩,h3⟩,h4⟩,_⟩:=this
  split at h4
  ·rename_i z hz
   exact ⟨i,z,hi,h1,h2,hz,h4,h3⟩
  ·cases h4
 ·cases this
theorem TOk.iface (h:TOk P TB) {t:TypeId} (hk:(TB t).k=.iface):∃ ms,P.underlying t=some (.interface ms):=by
 obtain ⟨_,_,_,_,_,_,_,h1⟩:=h.info (t:=t) (by rw [hk]; simp)
 unfold kOk at h1
 rw [hk] at h1
 split at h1 <;> first|(rename_i e; cases e; done)|(rename_i e _; cases e; done)|(rename_i ms _ e; exact ⟨ms,e⟩)|cases h1
theorem TOk.int (h:TOk P TB) {t:TypeId} {k:IntKind} (hk:(TB t).k=.int k):P.underlying t=some (.int k):=by
 obtain ⟨_,_,_,_,_,_,_,h1⟩:=h.info (t:=t) (by rw [hk]; simp)
 unfold kOk at h1
 rw [hk] at h1
 split at h1 <;> simp_all
theorem TOk.bool (h:TOk P TB) {t:TypeId} (hk:(TB t).k=.bool):P.underlying t=some .bool:=by
 obtain ⟨_,_,_,_,_,_,_,h1⟩:=h.info (t:=t) (by rw [hk]; simp)
 unfold kOk at h1
 rw [hk] at h1
 split at h1 <;> simp_all
theorem TOk.str (h:TOk P TB) {t:TypeId} (hk:(TB t).k=.str):P.underlying t=some .string:=by
 obtain ⟨_,_,_,_,_,_,_,h1⟩:=h.info (t:=t) (by rw [hk]; simp)
 unfold kOk at h1
 rw [hk] at h1
 split at h1 <;> simp_all
theorem TOk.slice (h:TOk P TB) {t e:TypeId} (hk:(TB t).k=.slice e):P.underlying t=some (.slice e)∧(TB e).k≠.bad:=by
 obtain ⟨_,_,_,_,_,_,_,h1⟩:=h.info (t:=t) (by rw [hk]; simp)
 unfold kOk at h1
 rw [hk] at h1
 split at h1 <;> simp_all
 rename_i e1 e2 _ _
 obtain ⟨rfl,h2⟩:=h1
 refine fun hb=>?_
 rw [hb] at h2
 simp at h2
theorem TOk.struct (h:TOk P TB) {t:TypeId} {fs:List (Nat × TypeId)} (hk:(TB t).k=.struct fs):∃ F:Array Field,P.underlying t=some (.struct F)∧F.toList.map (fun f=>(f.offset,f.type))=fs∧∀ p∈fs,(TB p.2).k≠.bad:=by
 obtain ⟨_,_,_,_,_,_,_,h1⟩:=h.info (t:=t) (by rw [hk]; simp)
 unfold kOk at h1
 rw [hk] at h1
 split at h1
 case h_5 fs' F e1 e2 =>
  injection e1 with e1
  subst e1
  rw [Bool.and_eq_true,decide_eq_true_eq,List.all_eq_true] at h1
  refine ⟨F,e2,h1.1,fun p hp hb=>?_⟩
  have:=h1.2 p hp
  rw [hb] at this
  simp at this
 all_goals simp_all
theorem TOk.zlen (h:TOk P TB) {t:TypeId} (hb:(TB t).k≠.bad):(TB t).z.length=(TB t).n:=by
 have:=h.ok t hb
 unfold tiOk at this
 split at this
 ·simp only [Bool.and_eq_true] at this
  exact of_decide_eq_true this.2.2
 ·cases this
theorem TOk.eq (h:TOk P TB) {t:TypeId} (he:(TB t).eq=true) (hb:(TB t).k≠.bad):P.stoodInHeld t=false∧P.eqGuardType P.depth t=false∧∃ F:Array Field,P.underlying t=some (.struct F) ∧
  (F.toList.zipIdx.all fun p => !(p.1.name == "_") && decide (p.1.offset = p.2) && (match (TB p.1.type).k with | .int _ | .bool | .str => true | _ => false)) = true := by
 have:=h.ok t hb
 unfold tiOk at this
 split at this
 ·simp only [Bool.and_eq_true] at this
  have h5:=this.2.1
  unfold eqOk at h5
  rw [he] at h5
  simp only [Bool.not_true,Bool.false_or,Bool.and_eq_true,Bool.not_eq_true'] at h5
  obtain ⟨⟨h1,h2⟩,h3⟩:=h5
  split at h3
  ·rename_i F hF
   exact ⟨h1,h2,F,hF,h3⟩
  ·cases h3
 ·cases this
end
/-! ### What an abstract value says of a machine's value -/
section
variable {ρ:Ix→Option Nat} {o:List Obj} {R:Nat→Prop} {w:World} {y:Value}
theorem TR.int {k n} (h:TR ρ o R w (.int k n) y):y=.int k n:=by
 have:=h.vr rfl
 cases this with|data h=>cases h; rfl
theorem TR.bool {b} (h:TR ρ o R w (.bool b) y):y=.bool b:=by
 have:=h.vr rfl
 cases this with|data h=>cases h; rfl
theorem TR.nili (h:TR ρ o R w .nili y):y=.nilIface:=by
 cases h.vr rfl with|data h=>cases h; rfl
theorem TR.ifc (h:TR ρ o R w .ifc y):∃ t v,y=.iface t v:=by
 cases h.vr rfl with|data h=>cases h; exact ⟨_,_,rfl⟩
theorem TR.str {s} (h:TR ρ o R w (.str s) y):y=.string s:=by
 have:=h.vr rfl
 cases this with|data h=>cases h; rfl
theorem TR.nils (h:TR ρ o R w .nils y):∃ a,y=.slice a 0 0:=by
 have:=h.vr rfl
 cases this with|data h=>cases h; exact ⟨_,rfl⟩
theorem TR.sl {s n f} (h:TR ρ o R w (.sl s n f) y):∃ a c,y=.slice a n c∧DR R w (.sl s n f) y:=by
 have:=h.vr rfl
 cases this with|data h=>cases h with
  |sl0 s f a cap=>exact ⟨_,_,rfl,.sl0 s f a cap⟩
  |sl sz len f ad cap g h1 h2 h3 h4 h5=>exact ⟨_,_,rfl,.sl _ _ f ad cap g h1 h2 h3 h4 h5⟩
theorem TR.dat {v:AV} (h:DR R w v y) (hb:beneath o.length v=true:=by rfl):TR ρ o R w v y:=⟨hb,fun _=>.data h⟩
theorem TR.undef:TR ρ o R w .undef y:=⟨rfl,fun _=>.undef y⟩
theorem live_row {id sz off len s n f} (he:o[id]?=some (.row s n f)) (hs:Nat.beq s sz=true):live o (.row id sz off len)=true:=by simp [live,he,hs]
theorem TR.rowL {id sz off len} (h:TR ρ o R w (.row id sz off len) y) (hl:live o (.row id sz off len)=true) :
  (len=0∧∃ a,y=.slice a 0 0)∨∃ b cs ty cap,y=.slice (some ⟨b,off*sz,none⟩) len cap∧ρ id=some b∧w.heap[b]?=some (.cells cs ty (0,0))∧len≤cap∧(off+cap)*sz≤cs.size∧cap≤9223372036854775807:=by
 have:=h.vr hl
 cases this with
 |data h=>cases h
 |row h1 h2 h3 h4 h5=>exact .inr ⟨_,_,_,_,rfl,h1,h2,h3,h4,h5⟩
 |row0=>exact .inl ⟨rfl,_,rfl⟩
theorem TR.row {id sz off len s n f} (h:TR ρ o R w (.row id sz off len) y) (he:o[id]?=some (.row s n f)) (hs:Nat.beq s sz=true) :
  (len=0∧∃ a,y=.slice a 0 0)∨∃ b cs ty cap,y=.slice (some ⟨b,off*sz,none⟩) len cap∧ρ id=some b∧w.heap[b]?=some (.cells cs ty (0,0))∧len≤cap∧(off+cap)*sz≤cs.size∧cap≤9223372036854775807 :=
 h.rowL (live_row he hs)
theorem live_nrow {id sz off len s n f x} (he:o[id]?=some (.nrow s n f x)) (hs:Nat.beq s sz=true):live o (.row id sz off len)=true:=by simp [live,he,hs]
theorem live_neptr {id sz i off s n f x} (he:o[id]?=some (.nrow s n f x)) (hs:Nat.beq s sz=true):live o (.eptr id sz i off)=true:=by simp [live,he,hs]
theorem TR.ptr {id off cs} (h:TR ρ o R w (.ptr id off) y) (he:o[id]?=some (.box cs)):∃ b,y=.pointer (some ⟨b,off,none⟩)∧ρ id=some b:=by
 have:=h.vr (by simp [live,he])
 cases this with
 |data h=>cases h
 |ptr h1=>exact ⟨_,rfl,h1⟩
theorem TR.eptrL {id sz i off} (h:TR ρ o R w (.eptr id sz i off) y) (hl:live o (.eptr id sz i off)=true):∃ b,y=.pointer (some ⟨b,i*sz+off,none⟩)∧ρ id=some b:=by
 have:=h.vr hl
 cases this with
 |data h=>cases h
 |eptr h1=>exact ⟨_,rfl,h1⟩
theorem TR.eptr {id sz i off s n f} (h:TR ρ o R w (.eptr id sz i off) y) (he:o[id]?=some (.row s n f)) (hs:Nat.beq s sz=true):∃ b,y=.pointer (some ⟨b,i*sz+off,none⟩)∧ρ id=some b :=
 h.eptrL (by simp [live,he,hs])
theorem TR.ro {cs} (h:TR ρ o R w (.ro cs) y):∃ (ad:Addr) (g:Nat→Value),y=.pointer (some ad)∧R ad.block∧(∀ j,j<cs.length→w.cell? (ad.add j)=some (g j))∧∀ j,j<cs.length→DR R w (cs.getD j .undef) (g j):=by
 have:=h.vr rfl
 cases this with|data h=>cases h with
  |ro cs ad g h2 h4 h5=>exact ⟨ad,g,rfl,h2,h4,h5⟩
theorem TR.tup {l} (h:TR ρ o R w (.tup l) y) (hl:live o (.tup l)=true):∃ xs,y=.tuple xs∧xs.size=l.length∧∀ j,j<l.length→VR ρ R w (l.getD j .undef) (xs.getD j Go.undef):=by
 have:=h.vr hl
 cases this with
 |data h=>cases h
 |tup l xs h1 h2=>exact ⟨xs,rfl,h1,h2⟩
theorem ofConst_VR (v:Value):VR ρ R w (ofConst v) v:=by
 unfold ofConst
 split
 ·exact .data (.int _ _)
 ·exact .data (.bool _)
 ·exact .data (.str _)
 ·exact .data (.nils _)
 ·exact .data .nilp
 ·exact .data .nilf
 ·exact .data .nili
 ·exact .undef _
theorem ofConst_beneath (v:Value) (n:Nat):beneath n (ofConst v)=true:=by unfold ofConst; split <;> rfl
def FR (ρ:Ix→Option Nat) (o:List Obj) (R:Nat→Prop) (w:World) (t:Fr) (a:Act):Prop:=∀ x,TR ρ o R w (t x) (a.tmps.getD x Go.undef)
theorem FR.evv {t:Fr} {a:Act} (h:FR ρ o R w t a) (x:Operand):TR ρ o R w (ev t x) (a.eval x):=by
 cases x with
 |tmp x=>exact h x
 |const v=>exact ⟨ofConst_beneath v _,fun _=>ofConst_VR v⟩
 |global g=>exact .undef
 |func f=>exact ⟨rfl,fun _=>.fn f [] [] #[] #[] rfl (fun j hj=>by simp at hj) rfl (fun j hj=>by simp at hj)⟩
end
end Go.Proofs.YtgdbhjmpkkbnnaaGreatDoor.Vc
end
section
/- Part D of the engine: each operation that only reads yields on the machine what the engine says. -/
namespace Go.Proofs.YtgdbhjmpkkbnnaaGreatDoor.Vc
mutual
theorem live_beneath {o:List Obj}:∀ v:AV,live o v=true→beneath o.length v=true
 |.row id sz off len,h=>by
  simp only [live] at h
  simp only [beneath,decide_eq_true_eq]
  split at h
  ·rename_i e; exact (List.getElem?_eq_some_iff.1 e).1
  ·rename_i e; exact (List.getElem?_eq_some_iff.1 e).1
  ·cases h
 |.ptr id off,h=>by
  simp only [live] at h
  simp only [beneath,decide_eq_true_eq]
  split at h
  ·rename_i e; exact (List.getElem?_eq_some_iff.1 e).1
  ·cases h
 |.eptr id sz i off,h=>by
  simp only [live] at h
  simp only [beneath,decide_eq_true_eq]
  split at h
  ·rename_i e; exact (List.getElem?_eq_some_iff.1 e).1
  ·rename_i e; exact (List.getElem?_eq_some_iff.1 e).1
  ·cases h
 |.agg l,h=>by simp only [live,beneath] at h ⊢; exact liveL_beneath l h
 |.tup l,h=>by simp only [live,beneath] at h ⊢; exact liveL_beneath l h
 |.fn _ l k,h=>by
  simp only [live,beneath,Bool.and_eq_true] at h ⊢
  exact ⟨liveL_beneath l h.1,liveL_beneath k h.2⟩
 |.undef,_=>rfl|.int ..,_=>rfl|.bool _,_=>rfl|.str _,_=>rfl|.sl ..,_=>rfl|.ro _,_=>rfl|.nils,_=>rfl|.nilp,_=>rfl|.nilf,_=>rfl|.nili,_=>rfl|.ifc,_=>rfl
theorem liveL_beneath {o:List Obj}:∀ l:List AV,liveL o l=true→beneathL o.length l=true
 |[],_=>rfl
 |v :: r,h=>by
  simp only [liveL,beneathL,Bool.and_eq_true] at h ⊢
  exact ⟨live_beneath v h.1,liveL_beneath r h.2⟩
end
theorem of_cond_true {b:Bool} {A:Prop} (h:cond b A False):b=true∧A:=by cases b with|true=>exact ⟨rfl,h⟩|false=>exact h.elim
theorem of_cond_false {b:Bool} {A:Prop} (h:cond b False A):b=false∧A:=by cases b with|false=>exact ⟨rfl,h⟩|true=>exact h.elim
theorem add_add (a:Addr) (i j:Nat):(a.add i).add j=a.add (i+j):=by
 unfold Addr.add
 by_cases hi:i=0 <;> by_cases hj:j=0 <;> simp [hi,hj,Nat.add_assoc]
section
variable {P:Program} {TB:TypeId→TI} {ρ:Ix→Option Nat} {o:List Obj} {R:Nat→Prop} {w:World} {t:Fr} {a:Act} {Gl:List (Nat × Go.Obj)}
theorem TR.of {v:AV} {y:Value} (hl:live o v=true) (h:VR ρ R w v y):TR ρ o R w v y:=⟨live_beneath v hl,fun _=>h⟩
def Yields (P:Program) (ρ:Ix→Option Nat) (o:List Obj) (R:Nat→Prop) (w:World) (a:Act) (op:Op) (K:AV→Prop):Prop :=
 ∃ v y,K v∧TR ρ o R w v y∧∀ (dst:Option Tmp) (ty:TypeId) (pos:String) (af:Array Edge) (g:Option (Nat × Bool)),(execOp a.eval ⟨dst,op,ty,pos,af,g⟩).run P w=.ok (.value y) w
theorem FR.at (hf:FR ρ o R w t a) {x:Operand} {v:AV} (e:ev t x=v):TR ρ o R w v (a.eval x):=e ▸ hf.evv x
theorem y_move (hf:FR ρ o R w t a) {x:Operand} {K:AV→Prop} (h:K (ev t x)):Yields P ρ o R w a (.move x) K:=⟨_,_,h,hf.evv x,fun _ _ _ _ _=>rfl⟩
theorem y_assign (hf:FR ρ o R w t a) {x:Operand} {K:AV→Prop} (h:K (ev t x)):Yields P ρ o R w a (.assign x) K:=⟨_,_,h,hf.evv x,fun _ _ _ _ _=>rfl⟩
theorem y_pick (hf:FR ρ o R w t a) {c x y:Operand} {K:AV→Prop} (h:rdP TB (.pick c x y) t o K):Yields P ρ o R w a (.pick c x y) K:=by
 simp only [rdP] at h
 split at h
 ·rename_i b hb
  have hc:=(hf.at hb).bool
  cases b with
  |true=>exact ⟨_,_,h.t rfl,hf.evv x,fun _ _ _ _ _=>by simp [execOp,hc,asBool]⟩
  |false=>exact ⟨_,_,h.f rfl,hf.evv y,fun _ _ _ _ _=>by simp [execOp,hc,asBool]⟩
 ·exact h.elim
theorem live_ptr {id off} (h:live o (.ptr id off)=true):∃ cs,o[id]?=some (.box cs):=by
 simp only [live] at h
 split at h
 ·rename_i e; exact ⟨_,e⟩
 ·cases h
theorem y_nilCheck (hf:FR ρ o R w t a) {x:Operand} {K:AV→Prop} (h:rdP TB (.nilCheck x) t o K):Yields P ρ o R w a (.nilCheck x) K:=by
 simp only [rdP] at h
 split at h
 ·rename_i i f e
  obtain ⟨hl,h⟩:=of_cond_true h
  obtain ⟨cs,e1⟩:=live_ptr hl
  have hx:=hf.at e
  obtain ⟨b,e2,_⟩:=hx.ptr e1
  exact ⟨_,_,h,hx,fun _ _ _ _ _=>by simp [execOp,e2]⟩
 ·rename_i cs e
  have hx:=hf.at e
  obtain ⟨ad,g,e2,_⟩:=hx.ro
  exact ⟨_,_,h,hx,fun _ _ _ _ _=>by simp [execOp,e2]⟩
 ·rename_i i sz j f e
  obtain ⟨hl,h⟩:=of_cond_true h
  have hx:=hf.at e
  obtain ⟨b,e2,_⟩:=hx.eptrL hl
  exact ⟨_,_,h,hx,fun _ _ _ _ _=>by simp [execOp,e2]⟩
 ·exact h.elim
theorem y_unOp (hf:FR ρ o R w t a) {u:UnOp} {ty:TypeId} {x:Operand} {K:AV→Prop} (h:rdP TB (.unOp u ty x) t o K):Yields P ρ o R w a (.unOp u ty x) K:=by
 cases u with
 |not =>
  simp only [rdP] at h
  split at h
  ·rename_i b e
   exact ⟨_,_,h,.dat (.bool _),fun _ _ _ _ _=>by simp [execOp,(hf.at e).bool,Op.unary]⟩
  ·exact h.elim
 |neg =>
  simp only [rdP] at h
  split at h
  ·rename_i k n e
   exact ⟨_,_,h.el,.dat (.int _ _),fun _ _ _ _ _=>by simp [execOp,(hf.at e).int,Op.unary,Op.intArith]⟩
  ·exact h.elim
 |_=>simp only [rdP] at h
theorem cell_block' {b off:Nat} {xs:Array Value} {ty:TypeId} (h:w.heap[b]?=some (.cells xs ty (0,0))) (ho:off<xs.size):w.cell? ⟨b,off,none⟩=some (xs.getD off Go.undef):=by
 simp [World.cell?,h,Array.getD_eq_getD_getElem?,ho]
theorem strOf_nums (len:Nat) (f:Nat→List AV) (h:∀ i,i<len→∃ x,f i=[.int .u8 x]):∃ xs:List Int,xs.length=len∧strOfNums xs=strOf len f∧∀ i,i<len→f i=[.int .u8 (xs.getD i 0)]:=by
 refine ⟨(List.range len).map fun i=>(match f i with|[.int _ n]=>n|_=>0),by simp,?_,fun i hi=>?_⟩
 ·unfold strOfNums strOf
  congr 2
  rw [List.map_map]
  refine List.map_congr_left fun i hi=>?_
  obtain ⟨x,hx⟩:=h i (by simpa using hi)
  simp [hx]
 ·obtain ⟨x,hx⟩:=h i hi
  rw [hx]
  simp [List.getD_eq_getElem?_getD,hi,hx]
theorem y_convert (hT:TOk P TB) (hh:HR Gl o ρ R w) (hf:FR ρ o R w t a) {s d:TypeId} {x:Operand} {K:AV→Prop} (h:rdP TB (.convert s d x) t o K):Yields P ρ o R w a (.convert s d x) K:=by
 simp only [rdP] at h
 split at h
 ·rename_i j k0 n k e1 e e2
  exact ⟨_,_,h.el,.dat (.int _ _),fun _ _ _ _ _=>by simp [execOp,(hf.at e).int,convert,run_underlying (hT.int e1),run_underlying (hT.int e2),Conv.intToInt]⟩
 ·rename_i b e1 e e2
  exact ⟨_,_,h,.dat (.str _),fun _ _ _ _ _=>by simp [execOp,(hf.at e).str,convert,run_underlying (hT.str e1),run_underlying (hT.str e2)]⟩
 ·rename_i e id sz off len e1 ex e2
  split at h
  ·rename_i sz' n f eo
   split at h
   ·rename_i e3
    obtain ⟨hs,hK⟩:=of_cond_true h
    obtain ⟨⟨h0,hn,hb⟩,hK⟩:=hK
    clear h
    rw [Bool.and_eq_true] at hs
    have hs1:=Nat.eq_of_beq_eq_true hs.2
    obtain ⟨xs,g1,g2,g3⟩:=strOf_nums len (fun i=>f (off+i)) hb
    rcases (hf.at ex).row eo hs.1 with ⟨h1,_⟩|⟨b,cs,tz,cap,ey,hr,hc,h1,h2,_⟩
    ·omega
    ·rcases hh.obj id _ eo with ⟨h3,_⟩|⟨b',zs,tz',q1,q2,q3,q4,q5⟩
     ·omega
     ·rw [hr] at q1
      injection q1 with q1
      subst q1
      rw [hc] at q2
      injection q2 with q2
      injection q2 with q2 q6 q7
      subst q2
      subst hs1
      have hsz:=Nat.eq_of_beq_eq_true hs.1
      subst hsz
      refine ⟨_,_,hK,.dat (.str _),fun _ _ _ _ _=>?_⟩
      have:=run_convert_bytes_arg (P:=P) w s e (hT.slice e1).1 (hT.int e3) b (off*1) len cap xs g1 (fun i hi=>by
       have hd:=q5 (off+i) (by omega) 0 (by omega)
       have h7:=g3 i hi
       rw [h7] at hd
       simp only [List.getD_cons_zero,Nat.mul_one,Nat.add_zero] at hd
       rw [Nat.mul_one,cell_block' hc (by omega)]
       congr 1
       generalize cs.getD (off+i) Go.undef=z at hd
       cases hd
       rfl) d (hT.str e2)
      simp only [execOp,ey]
      rw [← g2]
      simp only [Sem.run_bind,this]
      rfl
   ·exact h.elim
  ·exact h.elim
 ·exact h.elim
theorem y_extract (hf:FR ρ o R w t a) {x:Operand} {i:Nat} {K:AV→Prop} (h:rdP TB (.extract x i) t o K):Yields P ρ o R w a (.extract x i) K:=by
 simp only [rdP] at h
 split at h
 ·rename_i l e
  split at h
  ·rename_i v ev
   obtain ⟨hl,h⟩:=of_cond_true h
   obtain ⟨xs,e1,e2,e3⟩:=(hf.at e).tup (by simpa [live] using hl)
   have hi:=(List.getElem?_eq_some_iff.1 ev).1
   have h3:=e3 i hi
   have hv:l.getD i .undef=v:=by rw [List.getD_eq_getElem?_getD,ev]; rfl
   rw [hv] at h3
   have hx:xs[i]?=some (xs.getD i Go.undef):=by
    rw [Array.getD_eq_getD_getElem?,Array.getElem?_eq_getElem (by omega)]; rfl
   exact ⟨v,_,h,.of (liveL_iff.1 hl _ (List.mem_of_getElem? ev)) h3,fun _ _ _ _ _=>by rw [show execOp a.eval _=(do pure (Next.value (← Instr.extract (a.eval x) i)):Sem Next) from rfl,e1]; simp only [Instr.extract]; rw [hx]; rfl⟩
  ·exact h.elim
 ·exact h.elim
theorem str_at {s:ByteArray} {n:Nat} (h:n<s.size):s[n]?=some (s.data.getD n 0):=by
 rw [getElem?_pos s n h]
 congr 1
 show s.data[n]=_
 rw [Array.getD_eq_getD_getElem?,Array.getElem?_eq_getElem (by simpa using h)]
 rfl
theorem y_index (hT:TOk P TB) (hf:FR ρ o R w t a) {ty:TypeId} {x i:Operand} {K:AV→Prop} (h:rdP TB (.index ty x i) t o K):Yields P ρ o R w a (.index ty x i) K:=by
 simp only [rdP] at h
 split at h
 ·rename_i s k n e1 e e2
  obtain ⟨⟨h1,h2⟩,h⟩:=h
  have hs:=str_at (s:=s) (n:=n.toNat) (by omega)
  exact ⟨_,_,h,.dat (.int _ _),fun _ _ _ _ _=>by simp [execOp,(hf.at e).str,(hf.at e2).int,Instr.index,asIntOf,run_underlying (hT.str e1),h1,hs,bt]⟩
 ·exact h.elim
theorem FR.list (hf:FR ρ o R w t a) (xs:Array Operand) (hl:liveL o (xs.toList.map (Vc.ev t))=true):(xs.map a.eval).size=(xs.toList.map (Vc.ev t)).length∧∀ j,j<(xs.toList.map (Vc.ev t)).length→VR ρ R w ((xs.toList.map (Vc.ev t)).getD j .undef) ((xs.map a.eval).getD j Go.undef):=by
 refine ⟨by simp,fun j hj=>?_⟩
 have h1:j<xs.size:=by simpa using hj
 have e1:(xs.toList.map (Vc.ev t)).getD j .undef=Vc.ev t xs[j]:=by simp [List.getD_eq_getElem?_getD,h1]
 have e2:(xs.map a.eval).getD j Go.undef=a.eval xs[j]:=by simp [Array.getD_eq_getD_getElem?,h1]
 rw [e1,e2]
 exact (hf.evv _).vr (liveL_iff.1 hl _ (by rw [← e1]; exact getD_mem hj))
theorem y_makeFunc (hf:FR ρ o R w t a) {fn:Fn} {fs cs:Array Operand} {K:AV→Prop} (h:rdP TB (.makeFunc fn fs cs) t o K):Yields P ρ o R w a (.makeFunc fn fs cs) K:=by
 cases fn with
 |func f =>
  simp only [rdP] at h
  obtain ⟨hl,h⟩:=of_cond_true h
  have hl':=hl
  rw [Bool.and_eq_true] at hl
  obtain ⟨h1,h2⟩:=hf.list fs hl.1
  obtain ⟨h3,h4⟩:=hf.list cs hl.2
  exact ⟨_,.func (.func f) (fs.map a.eval) (cs.map a.eval),h,.of (by simpa [live] using hl') (.fn _ _ _ _ _ h1 h2 h3 h4),fun _ _ _ _ _=>by simp [execOp,Instr.makeFunc]⟩
 |_=>simp only [rdP] at h
theorem sizeOf_run (hT:TOk P TB) {ty:TypeId} (hb:(TB ty).k≠.bad) (w:World):(sizeOf ty).run P w=.ok (TB ty).n w:=by
 obtain ⟨i,z,h1,h2,_⟩:=hT.info hb
 simp [sizeOf,typeInfo,h1,h2]
theorem nb_struct {ti:TI} {e} (h:ti.k=.struct e):ti.k≠.bad:=by rw [h]; simp
theorem y_fieldAddr (hT:TOk P TB) (hf:FR ρ o R w t a) {ty:TypeId} {x:Operand} {f:Nat} {K:AV→Prop} (h:rdP TB (.fieldAddr ty x f) t o K):Yields P ρ o R w a (.fieldAddr ty x f) K:=by
 simp only [rdP] at h
 split at h
 ·rename_i fs e0
  split at h
  ·rename_i off ft ef
   obtain ⟨hn,h⟩:=of_cond_false h
   obtain ⟨F,hu,hF,hb⟩:=hT.struct e0
   have hft:(TB ft).k≠.bad:=hb _ (List.mem_of_getElem? ef)
   have hsz:=sizeOf_run hT hft w
   have hn:(TB ft).n≠0:=fun e=>by rw [e] at hn; cases hn
   obtain ⟨fd,hfd,hfo,hty⟩:∃ fd:Field,F[f]?=some fd∧fd.offset=off∧fd.type=ft:=by
    rw [← hF,List.getElem?_map] at ef
    cases e:F.toList[f]? with
    |none=>rw [e] at ef; cases ef
    |some fd =>
     rw [e] at ef
     simp only [Option.map_some,Option.some.injEq,Prod.mk.injEq] at ef
     exact ⟨fd,by simpa using e,ef.1,ef.2⟩
   have key:∀ ad:Addr,(Instr.fieldAt ty (.pointer (some ad)) f).run P w=.ok (.pointer (some (ad.add off))) w:=by
    intro ad
    subst hty hfo
    simp [Instr.fieldAt,run_underlying hu,hfd,Instr.sureAddr,fieldPlace,hsz,hn]
   split at h
   ·rename_i cs e
    have hx:=hf.at e
    obtain ⟨ad,g,e2,hR,hc,hd⟩:=hx.ro
    refine ⟨_,.pointer (some (ad.add off)),h,.dat (.ro _ (ad.add off) (fun j=>g (off+j)) (by rw [add_block]; exact hR) (fun j hj=>?_) (fun j hj=>?_)),fun _ _ _ _ _=>by simp [execOp,e2,key]⟩
    ·rw [List.length_drop] at hj
     rw [add_add]
     exact hc _ (by omega)
    ·rw [List.length_drop] at hj
     have:=hd (off+j) (by omega)
     rw [List.getD_eq_getElem?_getD] at this ⊢
     rw [List.getElem?_drop]
     exact this
   ·rename_i id p e
    obtain ⟨hl,h⟩:=of_cond_true h
    obtain ⟨cs,e1⟩:=live_ptr hl
    obtain ⟨b,e2,hr⟩:=(hf.at e).ptr e1
    exact ⟨_,_,h,.of (by simpa [live] using hl) (.ptr hr),fun _ _ _ _ _=>by simp [execOp,e2,key,Addr.add_mid]⟩
   ·rename_i id sz i p e
    obtain ⟨hl,h⟩:=of_cond_true h
    obtain ⟨b,e2,hr⟩:=(hf.at e).eptrL hl
    exact ⟨_,_,h,.of (by simpa [live] using hl) (.eptr hr),fun _ _ _ _ _=>by simp [execOp,e2,key,Addr.add_mid,Nat.add_assoc]⟩
   ·exact h.elim
  ·exact h.elim
 ·exact h.elim
theorem P_elem {ty e:TypeId} (h:P.underlying ty=some (.slice e)):P.elem ty=e:=by simp [Program.elem,h]
theorem y_indexAddr (hT:TOk P TB) (hf:FR ρ o R w t a) {ty:TypeId} {x i:Operand} {K:AV→Prop} (h:rdP TB (.indexAddr ty x i) t o K):Yields P ρ o R w a (.indexAddr ty x i) K:=by
 simp only [rdP] at h
 split at h
 ·rename_i e e0
  obtain ⟨hu,hb⟩:=hT.slice e0
  have hsz:=sizeOf_run hT hb w
  have key:∀ (ad:Addr) (len cap:Nat) (k:IntKind) (n:Int),0≤n∧n<len→(Instr.indexAt ty (.slice (some ad) len cap) (.int k n)).run P w=.ok (.pointer (some (ad.add (n.toNat*(TB e).n)))) w:=by
   intro ad len cap k n hn
   have hu':P.underlying ty=some (.slice (P.elem ty)):=by rw [P_elem hu]; exact hu
   rw [run_indexAt_slice w ty ad len cap k n hu',if_pos hn,P_elem hu,hsz]
   rfl
  split at h
  ·rename_i sz len f k n e1 e2
   obtain ⟨⟨hn⟩,h⟩:=h
   obtain ⟨hs,h⟩:=of_cond_true h
   obtain ⟨aa,c,ey,hd⟩:=(hf.at e1).sl
   rw [ey] at hd
   cases hd with
   |sl0=>omega
   |sl sz len f ad cap g h1 h2 h3 h4 h5 =>
    have hl:(f n.toNat).length=sz:=h3 _ (by omega)
    have hz:sz=(TB e).n:=Nat.eq_of_beq_eq_true hs
    refine ⟨_,.pointer (some (ad.add (n.toNat*(TB e).n))),h,.dat (.ro _ _ (g n.toNat) (by rw [add_block]; exact h2) (fun j hj=>?_) (fun j hj=>?_)),fun _ _ _ _ _=>by simp [execOp,ey,(hf.at e2).int,key _ _ _ _ _ hn]⟩
    ·rw [add_add,← hz]
     exact h4 _ (by omega) _ (by omega)
    ·exact h5 _ (by omega) _ (by omega)
  ·rename_i id sz off len k n e1 e2
   obtain ⟨⟨hn⟩,h⟩:=h
   obtain ⟨hs,h⟩:=of_cond_true h
   rw [Bool.and_eq_true] at hs
   rcases (hf.at e1).rowL hs.2 with ⟨h0,_⟩|⟨b,cs,tz,cap,ey,hr,hc,h1,h2,_⟩
   ·omega
   ·have hz:=Nat.eq_of_beq_eq_true hs.1
    refine ⟨_,_,h,.of ?_ (.eptr hr),fun _ _ _ _ _=>by simp [execOp,ey,(hf.at e2).int,key _ _ _ _ _ hn,Addr.add_mid,← hz,Nat.add_mul]⟩
    have:=hs.2
    simpa [live] using this
  ·exact h.elim
 ·exact h.elim
theorem y_len (hT:TOk P TB) (hf:FR ρ o R w t a) {as:Array Operand} {ts:Array TypeId} {K:AV→Prop} (h:rdP TB (.call { callee:=.builtin .len,args:=as,argTypes:=ts }) t o K) :
  Yields P ρ o R w a (.call { callee:=.builtin .len,args:=as,argTypes:=ts }) K:=by
 simp only [rdP] at h
 have one:∀ {v:AV} {ty:TypeId},as.toList.map (ev t)=[v]→ts.toList=[ty]→∃ x,as=#[x]∧ts=#[ty]∧ev t x=v:=by
  intro v ty h1 h2
  obtain ⟨l⟩:=as
  obtain ⟨m⟩:=ts
  simp only at h1 h2
  cases l with
  |nil=>simp at h1
  |cons x r=>cases r with
   |nil=>simp at h1; subst h2; exact ⟨x,rfl,rfl,h1⟩
   |cons=>simp at h1
 have sl:∀ {x:Operand} {ty e:TypeId} {b n c} {y:Value},(TB ty).k=.slice e→a.eval x=.slice b n c→∀ (dst:Option Tmp) (tz:TypeId) (pos:String) (af:Array Edge) (g:Option (Nat × Bool)),(execOp a.eval ⟨dst,.call { callee:=.builtin .len,args:=#[x],argTypes:=#[ty] },tz,pos,af,g⟩).run P w=.ok (.value (.int .i64 n)) w:=by
  intro x ty e b n c y he hx dst tz pos af g
  simp [execOp,resolve,invoke,builtin,Builtin.len_,run_underlying (hT.slice he).1,hx,goInt]
 split at h
 ·rename_i s n f ty e1 e2
  obtain ⟨x,rfl,rfl,ex⟩:=one e1 e2
  split at h
  ·rename_i e he
   obtain ⟨b,c,ey,_⟩:=(hf.at ex).sl
   exact ⟨_,_,h,.dat (.int _ _),sl (y:=Go.undef) he ey⟩
  ·exact h.elim
 ·rename_i id sz off n ty e1 e2
  obtain ⟨x,rfl,rfl,ex⟩:=one e1 e2
  split at h
  ·rename_i e he
   obtain ⟨hl,h⟩:=of_cond_true h
   rcases (hf.at ex).rowL hl with ⟨h0,b,ey⟩|⟨b,cs,tz,cap,ey,_⟩
   ·exact ⟨_,_,h,by rw [h0]; exact .dat (.int _ _),by rw [show ((0:Nat):Int)=((0:Nat):Int) from rfl]; exact sl (y:=Go.undef) he ey⟩
   ·exact ⟨_,_,h,.dat (.int _ _),sl (y:=Go.undef) he ey⟩
  ·exact h.elim
 ·rename_i ty e1 e2
  obtain ⟨x,rfl,rfl,ex⟩:=one e1 e2
  split at h
  ·rename_i e he
   obtain ⟨b,ey⟩:=(hf.at ex).nils
   exact ⟨_,_,h,.dat (.int _ _),sl (y:=Go.undef) he ey⟩
  ·exact h.elim
 ·rename_i b ty e1 e2
  obtain ⟨x,rfl,rfl,ex⟩:=one e1 e2
  split at h
  ·rename_i he
   exact ⟨_,_,h,.dat (.int _ _),fun _ _ _ _ _=>by simp [execOp,resolve,invoke,builtin,Builtin.len_,run_underlying (hT.str he),(hf.at ex).str,goInt]⟩
  ·exact h.elim
 ·exact h.elim
theorem two_of_map {as:Array Operand} {v u:AV} (h:as.toList.map (ev t)=[v,u]):∃ x y,as=#[x,y]∧ev t x=v∧ev t y=u:=by
 obtain ⟨l⟩:=as
 simp only at h
 cases l with
 |nil=>simp at h
 |cons x r=>cases r with
  |nil=>simp at h
  |cons y r=>cases r with
   |nil=>simp at h; exact ⟨x,y,rfl,h.1,h.2⟩
   |cons=>simp at h
theorem y_max (hf:FR ρ o R w t a) {as:Array Operand} {ts:Array TypeId} {K:AV→Prop} (h:rdP TB (.call { callee:=.builtin .max,args:=as,argTypes:=ts }) t o K) :
  Yields P ρ o R w a (.call { callee:=.builtin .max,args:=as,argTypes:=ts }) K:=by
 simp only [rdP] at h
 split at h
 ·rename_i k m j n e
  obtain ⟨x,y,rfl,e1,e2⟩:=two_of_map e
  exact ⟨_,_,h,.dat (.int _ _),fun _ _ _ _ _=>by simp [execOp,resolve,invoke,builtin,Builtin.max_,Builtin.max2,(hf.at e1).int,(hf.at e2).int]⟩
 ·exact h.elim
theorem y_min (hf:FR ρ o R w t a) {as:Array Operand} {ts:Array TypeId} {K:AV→Prop} (h:rdP TB (.call { callee:=.builtin .min,args:=as,argTypes:=ts }) t o K) :
  Yields P ρ o R w a (.call { callee:=.builtin .min,args:=as,argTypes:=ts }) K:=by
 simp only [rdP] at h
 split at h
 ·rename_i k m j n e
  obtain ⟨x,y,rfl,e1,e2⟩:=two_of_map e
  exact ⟨_,_,h,.dat (.int _ _),fun _ _ _ _ _=>by simp [execOp,resolve,invoke,builtin,Builtin.min_,Builtin.min2,(hf.at e1).int,(hf.at e2).int]⟩
 ·exact h.elim
theorem bound_run (hf:FR ρ o R w t a) {x:Option Operand} {d n:Int} (h:bound t x d=some n):(x=none∧n=d)∨∃ k,x.map a.eval=some (.int k n):=by
 unfold bound at h
 split at h
 ·simp at h; exact .inl ⟨rfl,h.symm⟩
 ·rename_i x
  split at h
  ·rename_i k m e
   simp at h
   subst h
   exact .inr ⟨k,by simp [(hf.at e).int]⟩
  ·cases h
theorem sliceBounds_run (hf:FR ρ o R w t a) {lo hi:Option Operand} {b:Bool} {len cap:Nat} {l h:Int} (hc:len≤cap) (h1:bound t lo 0=some l) (h2:bound t hi len=some h) (h3:0≤l∧l≤h∧h≤len) :
  (Instr.sliceBounds b len cap (lo.map a.eval) (hi.map a.eval) none).run P w=.ok (l.toNat,h.toNat,cap) w:=by
 have sb:∀ (k:IntKind) (n:Int) (y:Nat) (c:BoundsCode),0≤n→n≤y→(Instr.sliceBound (.int k n) y c).run P w=.ok n.toNat w:=by
  intro k n y c g1 g2
  simp [Instr.sliceBound,asIntOf,g1,g2]
 rcases bound_run hf h1 with ⟨rfl,rfl⟩|⟨k,e1⟩ <;> rcases bound_run hf h2 with ⟨rfl,rfl⟩|⟨j,e2⟩
 ·simp [Instr.sliceBounds]
 ·rw [e2]
  simp [Instr.sliceBounds,sb j h cap _ (by omega) (by omega)]
 ·rw [e1]
  simp [Instr.sliceBounds,sb k l len _ (by omega) (by omega)]
 ·rw [e1,e2]
  simp [Instr.sliceBounds,sb j h cap _ (by omega) (by omega),sb k l h.toNat _ (by omega) (by omega)]
theorem y_slice (hT:TOk P TB) (hf:FR ρ o R w t a) {ty:TypeId} {x:Operand} {lo hi mx:Option Operand} {K:AV→Prop} (h:rdP TB (.slice ty x lo hi mx) t o K):Yields P ρ o R w a (.slice ty x lo hi mx) K:=by
 cases mx with
 |some _=>simp only [rdP] at h
 |none =>
  simp only [rdP] at h
  split at h
  ·rename_i s e0 e1
   split at h
   ·rename_i l u h1 h2
    obtain ⟨⟨h3⟩,h⟩:=h
    refine ⟨_,_,h,.dat (.str _),fun _ _ _ _ _=>?_⟩
    simp [execOp,Instr.sliceAt,Instr.slice,run_underlying (hT.str e0),(hf.at e1).str,sliceBounds_run hf (Nat.le_refl _) h1 h2 h3]
   ·exact h.elim
  ·rename_i e sz n f e0 e1
   obtain ⟨hu,hb⟩:=hT.slice e0
   have hsz:=sizeOf_run hT hb w
   split at h
   ·rename_i l u h1 h2
    obtain ⟨⟨h3⟩,h⟩:=h
    obtain ⟨hs,h⟩:=of_cond_true h
    have hs:=Nat.eq_of_beq_eq_true hs
    obtain ⟨aa,c,ey,hd⟩:=(hf.at e1).sl
    rw [ey] at hd
    have hnc:n≤c:=by cases hd with
     |sl0=>omega
     |sl _ _ _ _ _ _ h1=>exact h1
    refine ⟨_,.slice (if c=l.toNat then aa else aa.map (·.add (l.toNat*(TB e).n))) (u.toNat-l.toNat) (c-l.toNat),h,.dat ?_,fun _ _ _ _ _=>?_⟩
    ·by_cases h0:u.toNat-l.toNat=0
     ·rw [h0]; exact .sl0 _ _ _ _
     ·cases hd with
      |sl0=>omega
      |sl sz len f ad cap g g1 g2 g3 g4 g5 =>
       rw [if_neg (by omega)]
       refine .sl _ _ _ (ad.add (l.toNat*(TB e).n)) _ (fun i j=>g (l.toNat+i) j) (by omega) (by rw [add_block]; exact g2) (fun i hi=>g3 _ (by omega)) (fun i hi j hj=>?_) (fun i hi j hj=>g5 _ (by omega) _ hj)
       rw [add_add,← hs,show l.toNat*sz+(i*sz+j)=(l.toNat+i)*sz+j by rw [Nat.add_mul]; omega]
       exact g4 _ (by omega) _ hj
    ·simp [execOp,Instr.sliceAt,Instr.slice,run_underlying hu,ey,sliceBounds_run hf hnc h1 h2 h3,hsz]
   ·exact h.elim
  ·rename_i e id sz off n e0 e1
   obtain ⟨hu,hb⟩:=hT.slice e0
   have hsz:=sizeOf_run hT hb w
   split at h
   ·rename_i l u h1 h2
    obtain ⟨⟨h3⟩,h⟩:=h
    obtain ⟨hs,h⟩:=of_cond_true h
    rw [Bool.and_eq_true] at hs
    obtain ⟨hs,hl⟩:=hs
    have hs:=Nat.eq_of_beq_eq_true hs
    have hl':live o (.row id sz (off+l.toNat) (u.toNat-l.toNat))=true:=by simpa [live] using hl
    rcases (hf.at e1).rowL hl with ⟨h0,aa,ey⟩|⟨b,cs,tz,c,ey,hr,hc,g1,g2,g3⟩
    ·have hl0:l.toNat=0:=by omega
     have hu0:u.toNat=0:=by omega
     refine ⟨_,.slice aa 0 0,h,.of hl' ?_,fun _ _ _ _ _=>?_⟩
     ·rw [hl0,hu0]; exact .row0 _ _ _ _
     ·subst h0
      simp [execOp,Instr.sliceAt,Instr.slice,run_underlying hu,ey,sliceBounds_run hf (Nat.le_refl _) h1 h2 h3,hsz,hl0,hu0]
    ·refine ⟨_,.slice (if c=l.toNat then some ⟨b,off*sz,none⟩ else some ⟨b,(off+l.toNat)*sz,none⟩) (u.toNat-l.toNat) (c-l.toNat),h,.of hl' ?_,fun _ _ _ _ _=>?_⟩
     ·by_cases hcl:c=l.toNat
      ·rw [if_pos hcl,show u.toNat-l.toNat=0 by omega,show c-l.toNat=0 by omega]
       exact .row0 _ _ _ _
      ·rw [if_neg hcl]
       exact .row hr hc (by omega) (by rw [show off+l.toNat+(c-l.toNat)=off+c by omega]; exact g2) (by omega)
     ·simp only [execOp,Instr.sliceAt,Instr.slice,Sem.run_bind,run_underlying hu,Result.andThen_ok,ey,sliceBounds_run hf g1 h1 h2 h3,Option.map_none,hsz,Sem.run_pure]
      by_cases hcl:c=l.toNat
      ·simp [hcl]
      ·simp [hcl,Addr.add_mid,← hs,Nat.add_mul]
   ·exact h.elim
  ·exact h.elim
end
end Go.Proofs.YtgdbhjmpkkbnnaaGreatDoor.Vc
end
section
/- Part E of the engine: loads, fields, structs built, arithmetic; and all reading operations together. -/
namespace Go.Proofs.YtgdbhjmpkkbnnaaGreatDoor.Vc
section
variable {P:Program} {TB:TypeId→TI} {ρ:Ix→Option Nat} {o:List Obj} {R:Nat→Prop} {w:World} {t:Fr} {a:Act} {Gl:List (Nat × Go.Obj)}
theorem add_zero (ad:Addr):ad.add 0=ad:=by simp [Addr.add]
theorem take_getD {l:List AV} {n j:Nat} (h:j<n):(l.take n).getD j .undef=l.getD j .undef:=by
 rw [List.getD_eq_getElem?_getD,List.getD_eq_getElem?_getD,List.getElem?_take_of_lt h]
theorem beneathL_of {n:Nat} {l:List AV} (h:∀ j,j<l.length→beneath n (l.getD j .undef)=true):beneathL n l=true :=
 beneathL_iff.2 fun v hv=>by
  obtain ⟨j,hj,e⟩:=List.getElem_of_mem hv
  have:=h j hj
  rw [List.getD_eq_getElem?_getD,List.getElem?_eq_getElem hj] at this
  simpa [e] using this
theorem isAgg_struct (hT:TOk P TB) {ty:TypeId} {fs} (hk:(TB ty).k=.struct fs) (w:World):(isAgg ty).run P w=.ok true w:=by
 obtain ⟨F,hu,_⟩:=hT.struct hk
 simp [isAgg,run_underlying hu]
theorem isAgg_other (hT:TOk P TB) {ty:TypeId} (hb:(TB ty).k≠.bad) (hk:∀ fs,(TB ty).k≠.struct fs) (w:World):(isAgg ty).run P w=.ok false w:=by
 obtain ⟨_,_,_,_,_,_,_,h1⟩:=hT.info hb
 unfold kOk at h1
 split at h1 <;> first|(rename_i e1 e2; simp [isAgg,run_underlying e2]; done)|skip
 ·rename_i e1 _; exact absurd e1 (hk _)
 ·cases h1
theorem TR.agg' {l} {y:Value} (h:TR ρ o R w (.agg l) y) (hl:live o (.agg l)=true):∃ xs,y=.agg xs∧xs.size=l.length∧∀ j,j<l.length→VR ρ R w (l.getD j .undef) (xs.getD j Go.undef):=by
 have:=h.vr hl
 cases this with
 |data h=>cases h
 |agg l xs h1 h2=>exact ⟨xs,rfl,h1,h2⟩
theorem y_field (hT:TOk P TB) (hf:FR ρ o R w t a) {ty:TypeId} {x:Operand} {f:Nat} {K:AV→Prop} (h:rdP TB (.field ty x f) t o K):Yields P ρ o R w a (.field ty x f) K:=by
 simp only [rdP] at h
 split at h
 ·rename_i fs cs e0 e
  split at h
  ·rename_i off ft ef
   obtain ⟨hl,h⟩:=of_cond_true h
   obtain ⟨F,hu,hF,hb⟩:=hT.struct e0
   have hft:(TB ft).k≠.bad:=hb _ (List.mem_of_getElem? ef)
   obtain ⟨fd,hfd,hfo,hty⟩:∃ fd:Field,F[f]?=some fd∧fd.offset=off∧fd.type=ft:=by
    rw [← hF,List.getElem?_map] at ef
    cases e:F.toList[f]? with
    |none=>rw [e] at ef; cases ef
    |some fd =>
     rw [e] at ef
     simp only [Option.map_some,Option.some.injEq,Prod.mk.injEq] at ef
     exact ⟨fd,by simpa using e,ef.1,ef.2⟩
   obtain ⟨xs,e1,e2,e3⟩:=(hf.at e).agg' (by simpa [live] using hl)
   subst hty hfo
   have key:∀ y:Value,(part fd.type xs fd.offset).run P w=.ok y w→∀ (dst:Option Tmp) (ty':TypeId) (pos:String) (af:Array Edge) (g:Option (Nat × Bool)),(execOp a.eval ⟨dst,.field ty x f,ty',pos,af,g⟩).run P w=.ok (.value y) w:=by
    intro y hy dst ty' pos af g
    simp [execOp,e1,Instr.field,run_underlying hu,hfd,asAgg,hy]
   have other:(∀ fs,(TB fd.type).k≠.struct fs)→(∃ v r,cs.drop fd.offset=v :: r∧K v)→Yields P ρ o R w a (.field ty x f) K:=by
    rintro hs ⟨v,r,er,hk⟩
    have hlt:fd.offset<cs.length:=by
     have:=congrArg List.length er
     rw [List.length_drop,List.length_cons] at this
     omega
    have hc:cs[fd.offset]?=some v:=by
     have:=congrArg (fun l:List AV=>l[0]?) er
     simpa using this
    have hv:cs.getD fd.offset .undef=v:=by rw [List.getD_eq_getElem?_getD,hc]; rfl
    have h3:=e3 fd.offset hlt
    rw [hv] at h3
    obtain ⟨y,hx⟩:∃ y,xs[fd.offset]?=some y:=⟨_,Array.getElem?_eq_getElem (by omega)⟩
    have hy:xs.getD fd.offset Go.undef=y:=by rw [Array.getD_eq_getD_getElem?,hx]; rfl
    rw [hy] at h3
    exact ⟨v,_,hk,.of (liveL_iff.1 hl _ (List.mem_of_getElem? hc)) h3,key _ (by simp [part,isAgg_other hT hft hs,hx])⟩
   unfold loadV at h
   split at h
   ·rename_i fs' hk
    obtain ⟨hn,h⟩:=of_cond_true h
    have hn:=Nat.le_of_ble_eq_true hn
    rw [List.length_drop] at hn
    refine ⟨_,.agg (xs.extract fd.offset (fd.offset+(TB fd.type).n)),h,.of ?_ (.agg _ _ ?_ fun j hj=>?_),key _ (by simp [part,isAgg_struct hT hk,sizeOf_run hT hft])⟩
    ·simp only [live]
     exact liveL_iff.2 fun v hv=>liveL_iff.1 hl v (List.mem_of_mem_drop (List.mem_of_mem_take hv))
    ·rw [Array.size_extract,List.length_take,List.length_drop]; omega
    ·have hj':j<(TB fd.type).n:=by rw [List.length_take,List.length_drop] at hj; omega
     have e4:((cs.drop fd.offset).take (TB fd.type).n).getD j .undef=cs.getD (fd.offset+j) .undef:=by
      rw [List.getD_eq_getElem?_getD,List.getElem?_take,if_pos hj',List.getElem?_drop,← List.getD_eq_getElem?_getD]
     have e5:(xs.extract fd.offset (fd.offset+(TB fd.type).n)).getD j Go.undef=xs.getD (fd.offset+j) Go.undef:=by
      rw [Array.getD_eq_getD_getElem?,Array.getElem?_extract,if_pos (by omega),← Array.getD_eq_getD_getElem?]
     rw [e4,e5]
     exact e3 _ (by omega)
   ·exact h.elim
   ·rename_i h1 h2
    refine other (fun fs e=>h1 fs e) ?_
    split at h
    ·rename_i v r er
     exact ⟨v,r,er,h⟩
    ·exact h.elim
  ·exact h.elim
 ·exact h.elim
theorem loadV_run (hT:TOk P TB) {ty:TypeId} {cs:List AV} {ad:Addr} {g:Nat→Value} {K:AV→Prop} (hc:∀ j,j<cs.length→w.cell? (ad.add j)=some (g j))
  (ht:∀ j,j<cs.length→TR ρ o R w (cs.getD j .undef) (g j)) (h:loadV (TB ty) cs K):∃ v y,K v∧TR ρ o R w v y∧(loadVar ty ad).run P w=.ok y w:=by
 unfold loadV at h
 have other:(TB ty).k≠.bad→(∀ fs,(TB ty).k≠.struct fs)→(∃ v r,cs=v :: r∧K v)→∃ v y,K v∧TR ρ o R w v y∧(loadVar ty ad).run P w=.ok y w:=by
  rintro hb hs ⟨v,r,rfl,hk⟩
  have h0:=hc 0 (by simp)
  rw [add_zero] at h0
  exact ⟨v,g 0,hk,ht 0 (by simp),by simp [loadVar,isAgg_other hT hb hs,load,Sem.run,h0]⟩
 split at h
 ·rename_i fs hk
  obtain ⟨hn,h⟩:=of_cond_true h
  have hn:=Nat.le_of_ble_eq_true hn
  have hl:(cs.take (TB ty).n).length=(TB ty).n:=by rw [List.length_take]; omega
  refine ⟨_,.agg ((List.range (TB ty).n).map g).toArray,h,⟨?_,fun hlv=>.agg _ _ (by simp [hn]) fun j hj=>?_⟩,?_⟩
  ·simp only [beneath]
   exact beneathL_of fun j hj=>by rw [hl] at hj; rw [take_getD hj]; exact (ht j (by omega)).be
  ·have hm:=getD_mem hj
   rw [hl] at hj
   rw [take_getD hj] at hm ⊢
   have e:(((List.range (TB ty).n).map g).toArray).getD j Go.undef=g j:=by simp [Array.getD_eq_getD_getElem?,hj]
   rw [e]
   exact (ht j (by omega)).vr (liveL_iff.1 (by simpa [live] using hlv) _ hm)
  ·have hl:=run_loadCells_list (P:=P) w ad ((List.range (TB ty).n).map g) (fun j v hv=>by
    rw [List.getElem?_map] at hv
    by_cases hj:j<(TB ty).n
    ·rw [List.getElem?_range hj] at hv
     simp at hv
     subst hv
     exact hc j (by omega)
    ·rw [List.getElem?_eq_none (by simpa using hj)] at hv; simp at hv)
   rw [List.length_map,List.length_range] at hl
   simp [loadVar,isAgg_struct hT hk,sizeOf_run hT (nb_struct hk),hl]
 ·exact h.elim
 ·rename_i h1 h2
  refine other h2 (fun fs e=>h1 fs e) ?_
  split at h
  ·exact ⟨_,_,rfl,h⟩
  ·exact h.elim
theorem cell_block {b off:Nat} {xs:Array Value} {ty:TypeId} (h:w.heap[b]?=some (.cells xs ty (0,0))) (ho:off<xs.size):w.cell? ⟨b,off,none⟩=some (xs.getD off Go.undef):=by
 simp [World.cell?,h,Array.getD_eq_getD_getElem?,ho]
theorem cellsAt_mem (hh:HR Gl o ρ R w) {v:AV} {y:Value} (hv:TR ρ o R w v y) {cs:List AV} (h:cellsAt o v=some cs) :
  ∃ (ad:Addr) (g:Nat→Value),y=.pointer (some ad)∧(∀ j,j<cs.length→w.cell? (ad.add j)=some (g j))∧∀ j,j<cs.length→TR ρ o R w (cs.getD j .undef) (g j):=by
 unfold cellsAt at h
 split at h
 ·rename_i ds
  injection h with h
  subst h
  obtain ⟨ad,g,e,_,h1,h2⟩:=hv.ro
  refine ⟨ad,g,e,h1,fun j hj=>⟨?_,fun _=>.data (h2 j hj)⟩⟩
  have:=h2 j hj
  generalize ds.getD j .undef=u at this ⊢
  generalize g j=z at this
  cases this <;> rfl
 ·rename_i id off
  split at h
  ·rename_i ds e
   injection h with h
   subst h
   obtain ⟨b,e1,e2⟩:=hv.ptr e
   obtain ⟨b',xs,ty,e3,e4,e5,e6⟩:=hh.obj id _ e
   rw [e2] at e3
   injection e3 with e3
   subst e3
   refine ⟨⟨b,off,none⟩,fun j=>xs.getD (off+j) Go.undef,e1,fun j hj=>?_,fun j hj=>?_⟩
   ·rw [List.length_drop] at hj
    rw [Addr.add_mid]
    exact cell_block e4 (by omega)
   ·rw [List.length_drop] at hj
    have:=e6 (off+j) (by omega)
    rw [List.getD_eq_getElem?_getD,List.getElem?_drop,← List.getD_eq_getElem?_getD]
    exact this
  ·cases h
 ·cases h
theorem DR_beneath {u:AV} {z:Value} (h:DR R w u z) (n:Nat):beneath n u=true:=by cases h <;> rfl
theorem DR_live {u:AV} {z:Value} (h:DR R w u z):live o u=true:=by cases h <;> rfl
theorem DR.tr {u:AV} {z:Value} (h:DR R w u z):TR ρ o R w u z:=⟨DR_beneath h _,fun _=>.data h⟩
theorem y_load (hT:TOk P TB) (hh:HR Gl o ρ R w) (hf:FR ρ o R w t a) {ty:TypeId} {x:Operand} {K:AV→Prop} (h:rdP TB (.load ty x) t o K):Yields P ρ o R w a (.load ty x) K:=by
 simp only [rdP] at h
 split at h
 ·rename_i id sz i off e
  split at h
  ·rename_i s n f eo
   obtain ⟨⟨hi⟩,h⟩:=h
   obtain ⟨hb,hL⟩:=of_cond_true h
   clear h
   have hs:=Nat.eq_of_beq_eq_true hb
   subst hs
   obtain ⟨b,e1,e2⟩:=(hf.at e).eptr eo (Nat.beq_refl _)
   rcases hh.obj id _ eo with ⟨h0,_⟩|⟨b',xs,tz,e3,e4,e5,e6,e7⟩
   ·omega
   ·rw [e2] at e3
    injection e3 with e3
    subst e3
    have hl:=e6 i hi
    obtain ⟨v,y,hK,hv,hr⟩:=loadV_run (cs:=(f i).drop off) (ad:=⟨b,i*sz+off,none⟩) (w:=w) (g:=fun j=>xs.getD (i*sz+(off+j)) Go.undef) (ρ:=ρ) (o:=o) (R:=R) hT (fun j hj=>by
      rw [List.length_drop] at hj
      rw [Addr.add_mid,Nat.add_assoc]
      refine cell_block e4 ?_
      have:(i+1)*sz≤n*sz:=Nat.mul_le_mul_right _ hi
      rw [Nat.add_mul] at this
      omega) (fun j hj=>by
      rw [List.length_drop] at hj
      rw [List.getD_eq_getElem?_getD,List.getElem?_drop,← List.getD_eq_getElem?_getD]
      exact (e7 i hi (off+j) (by omega)).tr) hL
    exact ⟨v,y,hK,hv,fun _ _ _ _ _=>by simp [execOp,e1,Instr.loadAt,Instr.sureAddr,hr]⟩
  ·rename_i s n f k cs eo
   obtain ⟨⟨hik,hi⟩,h⟩:=h
   subst hik
   obtain ⟨hb,hL⟩:=of_cond_true h
   clear h
   have hs:=Nat.eq_of_beq_eq_true hb
   subst hs
   obtain ⟨b,e1,e2⟩:=(hf.at e).eptrL (live_neptr eo (Nat.beq_refl _))
   rcases hh.obj id _ eo with ⟨_,h0,_⟩|⟨b',xs,tz,e3,e4,e5,e6,_,e7⟩
   ·cases h0
   ·rw [e2] at e3
    injection e3 with e3
    subst e3
    obtain ⟨_,hl,e7⟩:=e7 _ _ rfl
    obtain ⟨v,y,hK,hv,hr⟩:=loadV_run (cs:=cs.drop off) (ad:=⟨b,i*sz+off,none⟩) (w:=w) (g:=fun j=>xs.getD (i*sz+(off+j)) Go.undef) (ρ:=ρ) (o:=o) (R:=R) hT (fun j hj=>by
      rw [List.length_drop] at hj
      rw [Addr.add_mid,Nat.add_assoc]
      refine cell_block e4 ?_
      have:(i+1)*sz≤n*sz:=Nat.mul_le_mul_right _ hi
      rw [Nat.add_mul] at this
      omega) (fun j hj=>by
      rw [List.length_drop] at hj
      rw [List.getD_eq_getElem?_getD,List.getElem?_drop,← List.getD_eq_getElem?_getD]
      exact e7 (off+j) (by omega)) hL
    exact ⟨v,y,hK,hv,fun _ _ _ _ _=>by simp [execOp,e1,Instr.loadAt,Instr.sureAddr,hr]⟩
  ·exact h.elim
 ·split at h
  ·rename_i cs ec
   obtain ⟨ad,g,e1,e2,e3⟩:=cellsAt_mem hh (hf.evv x) ec
   obtain ⟨v,y,hK,hv,hr⟩:=loadV_run hT e2 e3 h
   exact ⟨v,y,hK,hv,fun _ _ _ _ _=>by simp [execOp,e1,Instr.loadAt,Instr.sureAddr,hr]⟩
  ·exact h.elim
theorem cells_VR {v:AV} {y:Value} (hk:cellOk o v=true) (h:VR ρ R w v y):y.cells.size=v.cells.length∧∀ j,j<v.cells.length→VR ρ R w (v.cells.getD j .undef) (y.cells.getD j Go.undef):=by
 have one:∀ {v:AV} {y:Value},v.cells=[v]→y.cells=#[y]→VR ρ R w v y→y.cells.size=v.cells.length∧∀ j,j<v.cells.length→VR ρ R w (v.cells.getD j .undef) (y.cells.getD j Go.undef):=by
  intro v y e1 e2 h
  rw [e1,e2]
  refine ⟨rfl,fun j hj=>?_⟩
  have:j=0:=by simpa using hj
  subst this
  exact h
 cases h with
 |data h=>cases h with
  |undef=>cases hk
  |_=>exact one rfl rfl (.data (by constructor <;> assumption))
 |undef=>cases hk
 |row h1 h2 h3 h4 h5=>exact one rfl rfl (.row h1 h2 h3 h4 h5)
 |row0=>exact one rfl rfl (.row0 _ _ _ _)
 |ptr h1=>exact one rfl rfl (.ptr h1)
 |eptr h1=>exact one rfl rfl (.eptr h1)
 |agg l xs h1 h2=>exact ⟨h1,h2⟩
 |tup=>cases hk
 |fn f l m xs ys h1 h2 h3 h4=>exact one rfl rfl (.fn f l m xs ys h1 h2 h3 h4)
theorem cellOk_live {v:AV} (hk:cellOk o v=true):live o v=true:=by
 unfold cellOk at hk
 split at hk
 ·cases hk
 ·cases hk
 ·exact hk
def CR (ρ:Ix→Option Nat) (o:List Obj) (R:Nat→Prop) (w:World) (cs:List AV) (xs:Array Value):Prop:=xs.size=cs.length∧∀ j,j<cs.length→TR ρ o R w (cs.getD j .undef) (xs.getD j Go.undef)
theorem cells_live {v:AV} (hk:live o v=true):∀ u∈v.cells,live o u=true:=by
 unfold AV.cells
 split
 ·exact liveL_iff.1 (by simpa [live] using hk)
 ·intro u hu
  simp at hu
  subst hu
  exact hk
theorem cells_CR {v:AV} {y:Value} (hk:cellOk o v=true) (h:TR ρ o R w v y):CR ρ o R w v.cells y.cells:=by
 have hl:=cellOk_live hk
 obtain ⟨h1,h2⟩:=cells_VR hk (h.vr hl)
 exact ⟨h1,fun j hj=>.of (cells_live hl _ (getD_mem hj)) (h2 j hj)⟩
theorem setCells_length:∀ (vs l:List AV) (off:Nat),(setCells l off vs).length=l.length
 |[],_,_=>rfl
 |v :: r,l,off=>by simp [setCells,setCells_length r]
theorem setCells_getD:∀ (vs l:List AV) (off j:Nat),off+vs.length≤l.length→(setCells l off vs).getD j .undef=if off≤j∧j<off+vs.length then vs.getD (j-off) .undef else l.getD j .undef
 |[],l,off,j,_=>by rw [if_neg (by simp only [List.length_nil]; omega)]; rfl
 |v :: r,l,off,j,h=>by
  simp only [List.length_cons] at h
  rw [setCells,setCells_getD r _ _ _ (by rw [List.length_set]; omega)]
  simp only [List.length_cons]
  by_cases h1:off+1≤j∧j<off+1+r.length
  ·rw [if_pos h1,if_pos (by omega)]
   rw [show j-off=(j-(off+1))+1 by omega,List.getD_cons_succ]
  ·rw [if_neg h1]
   by_cases h2:j=off
   ·subst h2
    rw [if_pos (by omega),Nat.sub_self,List.getD_cons_zero,List.getD_eq_getElem?_getD,List.getElem?_set_self (by omega)]
    rfl
   ·rw [if_neg (by omega),List.getD_eq_getElem?_getD,List.getElem?_set_ne (Ne.symm h2),← List.getD_eq_getElem?_getD]
theorem fold_set:∀ (vs:List Value) (k:Nat) (xs:Array Value) (off:Nat),((vs.zipIdx k).foldl (fun cs (p:Value × Nat)=>cs.setIfInBounds (off+p.2) p.1) xs).size=xs.size ∧
  ∀ j,off+k+vs.length≤xs.size→((vs.zipIdx k).foldl (fun cs (p:Value × Nat)=>cs.setIfInBounds (off+p.2) p.1) xs).getD j Go.undef=if off+k≤j∧j<off+k+vs.length then vs.getD (j-(off+k)) Go.undef else xs.getD j Go.undef
 |[],k,xs,off=>⟨rfl,fun j _=>by rw [if_neg (by simp only [List.length_nil]; omega)]; rfl⟩
 |v :: r,k,xs,off=>by
  obtain ⟨h1,h2⟩:=fold_set r (k+1) (xs.setIfInBounds (off+k) v) off
  rw [List.zipIdx_cons,List.foldl_cons]
  refine ⟨by rw [h1]; simp,fun j hj=>?_⟩
  simp only [List.length_cons] at hj
  rw [h2 j (by rw [Array.size_setIfInBounds]; omega)]
  simp only [List.length_cons]
  by_cases g1:off+(k+1)≤j∧j<off+(k+1)+r.length
  ·rw [if_pos g1,if_pos (by omega),show j-(off+k)=(j-(off+(k+1)))+1 by omega,List.getD_cons_succ]
  ·rw [if_neg g1]
   by_cases g2:j=off+k
   ·subst g2
    rw [if_pos (by omega),Nat.sub_self,List.getD_cons_zero,Array.getD_eq_getD_getElem?,Array.getElem?_setIfInBounds_self_of_lt (by omega)]
    rfl
   ·rw [if_neg (by omega),Array.getD_eq_getD_getElem?,Array.getElem?_setIfInBounds_ne (Ne.symm g2),← Array.getD_eq_getD_getElem?]
theorem CR.set {cs vs:List AV} {xs ys:Array Value} {off:Nat} (h:CR ρ o R w cs xs) (k:CR ρ o R w vs ys) (hb:off+vs.length≤cs.length) :
  CR ρ o R w (setCells cs off vs) ((ys.toList.zipIdx).foldl (fun cs (p:Value × Nat)=>cs.setIfInBounds (off+p.2) p.1) xs):=by
 have hy:ys.toList.length=vs.length:=by rw [Array.length_toList]; exact k.1
 obtain ⟨h1,h2⟩:=fold_set ys.toList 0 xs off
 refine ⟨by rw [h1,setCells_length]; exact h.1,fun j hj=>?_⟩
 rw [setCells_length] at hj
 rw [setCells_getD _ _ _ _ hb,h2 j (by rw [h.1]; omega),hy]
 simp only [Nat.add_zero]
 by_cases g:off≤j∧j<off+vs.length
 ·rw [if_pos g,if_pos g]
  have:=k.2 (j-off) (by omega)
  have e:ys.toList.getD (j-off) Go.undef=ys.getD (j-off) Go.undef:=by rw [Array.getD_eq_getD_getElem?,List.getD_eq_getElem?_getD,Array.getElem?_toList]
  rw [e]
  exact this
 ·rw [if_neg g,if_neg g]
  exact h.2 j hj
theorem zOk_cons {c:AV} {r:List AV} {v:Value} {s:List Value} (h:DR R w c v) (k:s.length=r.length∧∀ j,j<r.length→DR R w (r.getD j .undef) (s.getD j Go.undef)) :
  (v :: s).length=(c :: r).length∧∀ j,j<(c :: r).length→DR R w ((c :: r).getD j .undef) ((v :: s).getD j Go.undef) :=
 ⟨by simp [k.1],fun j hj=>by
  cases j with
  |zero=>exact h
  |succ j=>simpa using k.2 j (by simpa using hj)⟩
theorem zOk_CR:∀ (cs:List AV) (vs:List Value),zOk cs vs=true→vs.length=cs.length∧∀ j,j<cs.length→DR R w (cs.getD j .undef) (vs.getD j Go.undef):=by
 intro cs vs
 fun_induction zOk cs vs with
 |case1=>exact fun _=>⟨rfl,fun j hj=>by simp at hj⟩
 |case2 k n r j m s ih =>
  intro h
  rw [Bool.and_eq_true,decide_eq_true_eq] at h
  obtain ⟨⟨rfl,rfl⟩,h⟩:=h
  exact zOk_cons (.int _ _) (ih h)
 |case3 a r b s ih =>
  intro h
  rw [Bool.and_eq_true,decide_eq_true_eq] at h
  obtain ⟨rfl,h⟩:=h
  exact zOk_cons (.bool _) (ih h)
 |case4 a r b s ih =>
  intro h
  rw [Bool.and_eq_true,decide_eq_true_eq] at h
  obtain ⟨rfl,h⟩:=h
  exact zOk_cons (.str _) (ih h)
 |case5 r s ih=>exact fun h=>zOk_cons (.nils _) (ih h)
 |case6 r s ih=>exact fun h=>zOk_cons .nilp (ih h)
 |case7 r s ih=>exact fun h=>zOk_cons .nilf (ih h)
 |case8 r s ih=>exact fun h=>zOk_cons .nili (ih h)
 |case9=>exact fun h=>by cases h
theorem zero_CR {cs:List AV} {z:Value} (h:zOk cs z.cells.toList=true):CR ρ o R w cs z.cells:=by
 obtain ⟨h1,h2⟩:=zOk_CR (R:=R) (w:=w) _ _ h
 refine ⟨by rw [← h1,Array.length_toList],fun j hj=>?_⟩
 have:=h2 j hj
 rw [List.getD_eq_getElem?_getD (l:=z.cells.toList),Array.getElem?_toList,← Array.getD_eq_getD_getElem?] at this
 exact this.tr
end
end Go.Proofs.YtgdbhjmpkkbnnaaGreatDoor.Vc
end
section
/- Part F of the engine: structs built, fields of values, arithmetic; and all reading operations together. -/
namespace Go.Proofs.YtgdbhjmpkkbnnaaGreatDoor.Vc
section
variable {P:Program} {TB:TypeId→TI} {ρ:Ix→Option Nat} {o:List Obj} {R:Nat→Prop} {w:World} {t:Fr} {a:Act} {Gl:List (Nat × Go.Obj)}
theorem cellsOf_tb (hT:TOk P TB) {ty:TypeId} (hb:(TB ty).k≠.bad):∃ i,P.info? ty=some i∧i.size=(TB ty).n:=by
 obtain ⟨i,z,h1,h2,_⟩:=hT.info hb
 exact ⟨i,h1,h2⟩
theorem fill_CR (hf:FR ρ o R w t a) {fs:List (Nat × TypeId)} {place:Nat→Option (Nat × Nat)} (hp:∀ i off ft,fs[i]?=some (off,ft)→place i=some (off,(TB ft).n)) :
  ∀ (ps:List (Nat × Operand)) (cs:List AV) (xs:Array Value) (ds:List AV),buildCells TB o fs t cs ps=some ds→CR ρ o R w cs xs →
   ∃ ys,Instr.fill place xs (ps.map fun p=>(p.1,a.eval p.2))=some ys∧CR ρ o R w ds ys
 |[],cs,xs,ds,h,hc=>by
  simp only [buildCells,Option.some.injEq] at h
  subst h
  exact ⟨xs,rfl,hc⟩
 |(i,x) :: r,cs,xs,ds,h,hc=>by
  simp only [buildCells] at h
  split at h
  ·rename_i off ft e
   have hb:(Nat.beq (ev t x).cells.length (TB ft).n && Nat.ble (off+(TB ft).n) cs.length && cellOk o (ev t x))=true:=by
    cases hb:(Nat.beq (ev t x).cells.length (TB ft).n && Nat.ble (off+(TB ft).n) cs.length && cellOk o (ev t x)) with
    |true=>rfl
    |false=>rw [hb] at h; cases h
   rw [hb] at h
   simp only [cond_true] at h
   rw [Bool.and_eq_true,Bool.and_eq_true] at hb
   have h1:=Nat.eq_of_beq_eq_true hb.1.1
   have h2:=Nat.le_of_ble_eq_true hb.1.2
   have hv:=cells_CR hb.2 (hf.evv x)
   obtain ⟨ys,h3,h4⟩:=fill_CR hf hp r _ _ ds h (hc.set hv (by omega))
   refine ⟨ys,?_,h4⟩
   simp only [List.map_cons,Instr.fill,hp i off ft e]
   rw [if_neg (by rw [hv.1,hc.1]; simp [h1]; omega)]
   rw [← Array.foldl_toList,Array.toList_zipIdx]
   exact h3
  ·cases h
theorem agg_TR {cs:List AV} {xs:Array Value} (h:CR ρ o R w cs xs):TR ρ o R w (.agg cs) (.agg xs) :=
 ⟨by simp only [beneath]; exact beneathL_of fun j hj=>(h.2 j hj).be,fun hl=>.agg _ _ h.1 fun j hj=>(h.2 j hj).vr (liveL_iff.1 (by simpa [live] using hl) _ (getD_mem hj))⟩
theorem y_build (hT:TOk P TB) (hf:FR ρ o R w t a) {ty:TypeId} {ps:Array (Nat × Operand)} {K:AV→Prop} (h:rdP TB (.build ty ps) t o K):Yields P ρ o R w a (.build ty ps) K:=by
 simp only [rdP] at h
 split at h
 ·rename_i fs hk
  split at h
  ·rename_i ds e
   obtain ⟨F,hu,hF,hb⟩:=hT.struct hk
   obtain ⟨i,z,h1,h2,_,h3,h4,_⟩:=hT.info (nb_struct hk)
   have hm:F.toList.mapM (fun f=>(P.info? f.type).map fun i=>(f.offset,i.size))=some (F.toList.map fun f=>(f.offset,(TB f.type).n)) :=
    mapM_some_of_forall _ fun f hf'=>by
     obtain ⟨j,e1,e2⟩:=cellsOf_tb hT (hb (f.offset,f.type) (by rw [← hF]; exact List.mem_map_of_mem hf'))
     simp [e1,e2]
   obtain ⟨ys,h5,h6⟩:=fill_CR (a:=a) hf (place:=fun i=>(F.toList.map fun f=>(f.offset,(TB f.type).n)).toArray[i]?) (fun i off ft e=>by
    rw [← hF,List.getElem?_map] at e
    cases e':F.toList[i]? with
    |none=>rw [e'] at e; cases e
    |some f =>
     rw [e'] at e
     simp only [Option.map_some,Option.some.injEq,Prod.mk.injEq] at e
     obtain ⟨rfl,rfl⟩:=e
     simp [e']) ps.toList _ _ ds e (zero_CR h4)
   refine ⟨_,.agg ys,h,agg_TR h6,fun _ _ _ _ _=>?_⟩
   have hbt:P.built ty (ps.map fun p=>(p.1,a.eval p.2)).toList=some ys:=by
    simp only [Program.built,h1,hu,h3,hm]
    rw [Array.toList_map]
    exact h5
   have:=run_build (P:=P) w ty (ps.map fun p=>(p.1,a.eval p.2)) ys hbt
   simp [execOp,this]
  ·exact h.elim
 ·exact h.elim
theorem sameK_eq {j k:IntKind} (h:sameK j k=true):j=k:=of_decide_eq_true h
theorem bytes_eq (x y:ByteArray):(x.toList == y.toList)=decide (x=y):=by
 rw [ByteArray.toList_eq,ByteArray.toList_eq]
 by_cases h:x=y
 ·subst h; simp
 ·have:¬ x.data.toList=y.data.toList:=fun e=>h (by
   obtain ⟨⟨l⟩⟩:=x
   obtain ⟨⟨m⟩⟩:=y
   simp only at e
   rw [e])
  rw [decide_eq_false h]
  exact beq_eq_false_iff_ne.2 this
theorem eqGuard_str (op:BinOp) (t:TypeId) (x y:Operand) (s:ByteArray) (v:Value):eqGuard op t x y (.string s) v=pure ():=by cases op <;> rfl
theorem decide_beq_int (m n:Int):(m == n)=decide (m=n):=by
 by_cases h:m=n <;> simp [h]
theorem eqCells_cons {fs:List (Nat × TypeId)} {p:Nat × TypeId} {a b:AV} {l m:List AV} {r:Bool} (h:eqCells TB (p :: fs) (a :: l) (b :: m)=some r) :
  ∃ z,eqCells TB fs l m=some z∧((∃ k j x y,(TB p.2).k=.int j∧a=.int k x∧b=.int k y∧r=(decide (x=y) && z))∨(∃ x y,(TB p.2).k=.bool∧a=.bool x∧b=.bool y∧r=((x == y) && z)) ∨
   ∃ x y,(TB p.2).k=.str∧a=.str x∧b=.str y∧r=(decide (x=y) && z)):=by
 simp only [eqCells] at h
 split at h
 ·rename_i k0 k x j y hk
  cases hs:sameK k j with
  |false=>rw [hs] at h; cases h
  |true =>
   rw [hs] at h
   simp only [cond_true,Option.map_eq_some_iff] at h
   obtain ⟨z,hz,rfl⟩:=h
   have:=sameK_eq hs
   subst this
   exact ⟨z,hz,.inl ⟨_,_,_,_,hk,rfl,rfl,rfl⟩⟩
 ·rename_i x y hk
  simp only [Option.map_eq_some_iff] at h
  obtain ⟨z,hz,rfl⟩:=h
  exact ⟨z,hz,.inr (.inl ⟨_,_,hk,rfl,rfl,rfl⟩)⟩
 ·rename_i x y hk
  simp only [Option.map_eq_some_iff] at h
  obtain ⟨z,hz,rfl⟩:=h
  exact ⟨z,hz,.inr (.inr ⟨_,_,hk,rfl,rfl,rfl⟩)⟩
 ·cases h
theorem eqCells_live {o:List Obj}:∀ (fs:List (Nat × TypeId)) (l m:List AV) (r:Bool),eqCells TB fs l m=some r→liveL o l=true∧liveL o m=true∧l.length=fs.length∧m.length=fs.length
 |[],[],[],_,_=>⟨rfl,rfl,rfl,rfl⟩
 |[],[],_ :: _,_,h=>by simp [eqCells] at h
 |[],_ :: _,_,_,h=>by simp [eqCells] at h
 |_ :: _,[],_,_,h=>by simp [eqCells] at h
 |_ :: _,_ :: _,[],_,h=>by simp [eqCells] at h
 |p :: fs,a :: l,b :: m,r,h=>by
  obtain ⟨z,hz,hc⟩:=eqCells_cons h
  obtain ⟨h1,h2,h3,h4⟩:=eqCells_live (o:=o) fs l m z hz
  refine ⟨?_,?_,by simp [h3],by simp [h4]⟩ <;> rcases hc with ⟨_,_,_,_,_,rfl,rfl,_⟩|⟨_,_,_,rfl,rfl,_⟩|⟨_,_,_,rfl,rfl,_⟩ <;> simp [liveL,live,h1,h2]
theorem part_run (hT:TOk P TB) {ty:TypeId} {us:Array Value} {k:Nat} {v:Value} (hk:(match (TB ty).k with|.int _|.bool|.str=>true|_=>false)=true) (h:us[k]?=some v):(part ty us k).run P w=.ok v w:=by
 have hb:(TB ty).k≠.bad:=fun e=>by rw [e] at hk; cases hk
 have hs:∀ fs,(TB ty).k≠.struct fs:=fun fs e=>by rw [e] at hk; cases hk
 simp only [part,Sem.run_bind,isAgg_other hT hb hs,Result.andThen_ok,Bool.false_eq_true,if_false,h,Sem.run_pure]
theorem eqFields_run (hT:TOk P TB) {us vs:Array Value} (d:Nat):∀ (fs:List Field) (k:Nat) (l m:List AV) (r:Bool),
  ((fs.zipIdx k).all fun p => !(p.1.name == "_") && decide (p.1.offset = p.2) && (match (TB p.1.type).k with | .int _ | .bool | .str => true | _ => false)) = true →
  eqCells TB (fs.map fun f=>(f.offset,f.type)) l m=some r→(∀ j,j<l.length→us[k+j]?=some (us.getD (k+j) Go.undef)∧VR ρ R w (l.getD j .undef) (us.getD (k+j) Go.undef))→(∀ j,j<m.length→vs[k+j]?=some (vs.getD (k+j) Go.undef)∧VR ρ R w (m.getD j .undef) (vs.getD (k+j) Go.undef)) →
  (Op.eqFields (d+1) us vs fs).run P w=.ok r w
 |[],k,l,m,r,_,he,_,_=>by
  cases l with
  |cons=>cases m <;> simp [eqCells] at he
  |nil=>cases m with
   |nil=>simp only [List.map_nil,eqCells,Option.some.injEq] at he; subst he; rfl
   |cons b s=>simp [eqCells] at he
 |f :: fs,k,[],m,r,_,he,_,_=>by simp [eqCells] at he
 |f :: fs,k,a :: l,[],r,_,he,_,_=>by simp [eqCells] at he
 |f :: fs,k,a :: l,b :: m,r,hf,he,hu,hv=>by
  rw [List.zipIdx_cons,List.all_cons] at hf
  simp only [Bool.and_eq_true,Bool.not_eq_true',decide_eq_true_eq] at hf
  obtain ⟨⟨⟨h1,h2⟩,h3⟩,h4⟩:=hf
  obtain ⟨u1,u2⟩:=hu 0 (by simp)
  obtain ⟨v1,v2⟩:=hv 0 (by simp)
  simp only [Nat.add_zero,List.getD_cons_zero] at u1 u2 v1 v2
  have hn : f.name ≠ "_" := by simpa using h1
  have tail:∀ r',eqCells TB (fs.map fun f=>(f.offset,f.type)) l m=some r'→(Op.eqFields (d+1) us vs fs).run P w=.ok r' w:=fun r' hr'=>eqFields_run hT d fs (k+1) l m r' h4 hr'
   (fun j hj=>by have:=hu (j+1) (by simpa using hj); rw [show k+1+j=k+(j+1) by omega]; simpa using this)
   (fun j hj=>by have:=hv (j+1) (by simpa using hj); rw [show k+1+j=k+(j+1) by omega]; simpa using this)
  have step:∀ (x r':Bool),(Op.equalIn (d+1) f.type (us.getD k Go.undef) (vs.getD k Go.undef)).run P w=.ok x w→eqCells TB (fs.map fun f=>(f.offset,f.type)) l m=some r'→(Op.eqFields (d+1) us vs (f :: fs)).run P w=.ok (x && r') w:=by
   intro x r' hx hr'
   simp only [Op.eqFields,ne_eq,hn,not_false_eq_true,if_true,Sem.run_bind,h2,part_run hT h3 u1,part_run hT h3 v1,Result.andThen_ok,hx]
   cases x with
   |false=>simp
   |true=>simpa using tail r' hr'
  obtain ⟨z,hz,hc⟩:=eqCells_cons he
  rcases hc with ⟨k1,j1,x,y,hk,rfl,rfl,rfl⟩|⟨x,y,hk,rfl,rfl,rfl⟩|⟨x,y,hk,rfl,rfl,rfl⟩
  ·refine step _ _ ?_ hz
   rw [(TR.of (o:=[]) rfl u2).int,(TR.of (o:=[]) rfl v2).int,← decide_beq_int]
   exact run_equalIn_int w d f.type k1 j1 x y (hT.int hk)
  ·refine step _ _ ?_ hz
   rw [(TR.of (o:=[]) rfl u2).bool,(TR.of (o:=[]) rfl v2).bool]
   exact run_equalIn_bool w d f.type x y (hT.bool hk)
  ·refine step _ _ ?_ hz
   rw [(TR.of (o:=[]) rfl u2).str,(TR.of (o:=[]) rfl v2).str,← bytes_eq]
   exact run_equalIn_string w d f.type x y (hT.str hk)
theorem eqGuard_ifc {b:BinOp} {t:TypeId} {x y:Operand} {ti:TypeId} {v u:Value}:eqGuard b t x y (.iface ti v) u=pure ():=by cases b <;> rfl
theorem eqGuard_nil (w:World) (b:BinOp) (t:TypeId) (x y:Operand) (hc:isC y=true):(eqGuard b t x y .nilIface .nilIface).run P w=.ok () w:=by
 cases y <;> first|cases hc|skip
 cases b <;> simp [eqGuard]
theorem eq_ifc (w:World) (d:Nat) (t:TypeId) {ms:Array (String × TypeId)} (h:P.underlying t=some (.interface ms)) {ti:TypeId} {v:Value}:(Op.equalIn (d+1) t (.iface ti v) .nilIface).run P w=.ok false w:=by
 simp [Op.equalIn,run_underlying h]
theorem eq_nil (w:World) (d:Nat) (t:TypeId) {ms:Array (String × TypeId)} (h:P.underlying t=some (.interface ms)):(Op.equalIn (d+1) t .nilIface .nilIface).run P w=.ok true w:=by
 simp [Op.equalIn,run_underlying h]
theorem y_binOp (hT:TOk P TB) (hf:FR ρ o R w t a) {b:BinOp} {ty tz:TypeId} {x y:Operand} {K:AV→Prop} (h:rdP TB (.binOp b ty x y tz) t o K):Yields P ρ o R w a (.binOp b ty x y tz) K:=by
 simp only [rdP] at h
 split at h
 ·rename_i xs ys e1 e2
  have key:(TB ty).eq=true→∀ fs,(TB ty).k=.struct fs→∀ r,eqCells TB fs xs ys=some r→∃ us vs,a.eval x=.agg us∧a.eval y=.agg vs∧(eqGuard b ty x y (.agg us) (.agg vs)).run P w=.ok () w∧(Op.equalIn 10000 ty (.agg us) (.agg vs)).run P w=.ok r w:=by
   intro he fs hk r hr
   obtain ⟨l1,l2,_,_⟩:=eqCells_live (o:=o) _ _ _ _ hr
   obtain ⟨g1,g2,F,hu,hF⟩:=hT.eq he (nb_struct hk)
   obtain ⟨F',hu',hF',_⟩:=hT.struct hk
   rw [hu] at hu'
   injection hu' with hu'
   injection hu' with hu'
   subst hu'
   have g3:=(hf.at e1).vr (by simpa [live] using l1)
   have g4:=(hf.at e2).vr (by simpa [live] using l2)
   generalize a.eval x=ux at g3
   generalize a.eval y=uy at g4
   cases g3 with
   |data h=>cases h
   |agg _ us s1 s2=>cases g4 with
    |data h=>cases h
    |agg _ vs s3 s4 =>
     have hfo:P.fieldsOf ty=F:=by simp [Program.fieldsOf,hu]
     refine ⟨us,vs,rfl,rfl,run_eqGuard_agg w b ty x y us vs g2,?_⟩
     rw [run_equalIn_agg w 9999 ty us vs (by rw [hfo]; exact hu) g1,hfo]
     have get:∀ (us:Array Value) (j:Nat),j<us.size→us[j]?=some (us.getD j Go.undef):=fun us j hj=>by
      rw [Array.getD_eq_getD_getElem?,Array.getElem?_eq_getElem hj]; rfl
     exact eqFields_run hT 9998 F.toList 0 xs ys r hF (by rw [hF']; exact hr) (fun j hj=>by rw [Nat.zero_add]; exact ⟨get us j (by omega),s2 j hj⟩) (fun j hj=>by rw [Nat.zero_add]; exact ⟨get vs j (by omega),s4 j hj⟩)
  split at h
  ·rename_i fs he1 he
   split at h
   ·rename_i r hr
    obtain ⟨us,vs,f1,f2,f3,f4⟩:=key he fs he1 r hr
    exact ⟨_,_,h,.dat (.bool _),fun _ _ _ _ _=>by simp [execOp,f1,f2,f3,run_eql_struct,f4]⟩
   ·exact h.elim
  ·rename_i fs he1 he
   split at h
   ·rename_i r hr
    obtain ⟨us,vs,f1,f2,f3,f4⟩:=key he fs he1 r hr
    exact ⟨_,_,h,.dat (.bool _),fun _ _ _ _ _=>by simp [execOp,f1,f2,f3,run_neq_struct,f4]⟩
   ·exact h.elim
  ·exact h.elim
 ·rename_i p q e1 e2
  have f1:=(hf.at e1).bool
  have f2:=(hf.at e2).bool
  split at h
  ·rename_i hk
   exact ⟨_,_,h,.dat (.bool _),fun _ _ _ _ _=>by simp [execOp,f1,f2,eqGuard_at_bool,binOp,Op.equal,Op.maxDepth,run_equalIn_bool w 9999 ty p q (hT.bool hk)]⟩
  ·rename_i hk
   exact ⟨_,_,h,.dat (.bool _),fun _ _ _ _ _=>by simp [execOp,f1,f2,eqGuard_at_bool,binOp,Op.equal,Op.maxDepth,run_equalIn_bool w 9999 ty p q (hT.bool hk)]⟩
  ·exact h.elim
 ·rename_i e1 e2
  obtain ⟨ti,v,f1⟩:=(hf.at e1).ifc
  have f2:=(hf.at e2).nili
  unfold ifcP at h
  split at h
  ·rename_i hk
   obtain ⟨ms,hu⟩:=hT.iface hk
   exact ⟨_,_,(of_cond_true h).2,.dat (.bool _),fun _ _ _ _ _=>by simp [execOp,f1,f2,eqGuard_ifc,binOp,Op.equal,Op.maxDepth,eq_ifc w 9999 ty hu]⟩
  ·rename_i hk
   obtain ⟨ms,hu⟩:=hT.iface hk
   exact ⟨_,_,(of_cond_true h).2,.dat (.bool _),fun _ _ _ _ _=>by simp [execOp,f1,f2,eqGuard_ifc,binOp,Op.equal,Op.maxDepth,eq_ifc w 9999 ty hu]⟩
  ·exact h.elim
 ·rename_i e1 e2
  have f1:=(hf.at e1).nili
  have f2:=(hf.at e2).nili
  unfold ifcP at h
  split at h
  ·rename_i hk
   obtain ⟨ms,hu⟩:=hT.iface hk
   obtain ⟨hc,h⟩:=of_cond_true h
   exact ⟨_,_,h,.dat (.bool _),fun _ _ _ _ _=>by simp [execOp,f1,f2,eqGuard_nil w _ ty x y hc,binOp,Op.equal,Op.maxDepth,eq_nil w 9999 ty hu]⟩
  ·rename_i hk
   obtain ⟨ms,hu⟩:=hT.iface hk
   obtain ⟨hc,h⟩:=of_cond_true h
   exact ⟨_,_,h,.dat (.bool _),fun _ _ _ _ _=>by simp [execOp,f1,f2,eqGuard_nil w _ ty x y hc,binOp,Op.equal,Op.maxDepth,eq_nil w 9999 ty hu]⟩
  ·exact h.elim
 ·unfold binP at h
  split at h
  ·rename_i k m j n e1 e2
   have f1:=(hf.at e1).int
   have f2:=(hf.at e2).int
   cases b
   case shl=>exact ⟨_,_,h.2.el,.dat (.int _ _),fun _ _ _ _ _=>by simp [execOp,f1,f2,eqGuard_at_int,binOp,Op.shift,Int.not_lt.2 h.1.h]⟩
   case shr=>exact ⟨_,_,h.2,.dat (.int _ _),fun _ _ _ _ _=>by simp [execOp,f1,f2,eqGuard_at_int,binOp,Op.shift,shrv,Int.not_lt.2 h.1.h]⟩
   all_goals
    obtain ⟨hk,hq⟩:=of_cond_true h
    clear h
    have hk:=sameK_eq hk
    subst hk
   case add=>exact ⟨_,_,hq.el,.dat (.int _ _),fun _ _ _ _ _=>by simp [execOp,f1,f2,eqGuard_at_int,binOp,Op.intArith]⟩
   case sub=>exact ⟨_,_,hq.el,.dat (.int _ _),fun _ _ _ _ _=>by simp [execOp,f1,f2,eqGuard_at_int,binOp,Op.intArith]⟩
   case mul=>exact ⟨_,_,hq.el,.dat (.int _ _),fun _ _ _ _ _=>by simp [execOp,f1,f2,eqGuard_at_int,binOp,Op.intArith]⟩
   case quo=>exact ⟨_,_,hq.2.el,.dat (.int _ _),fun _ _ _ _ _=>by simp [execOp,f1,f2,eqGuard_at_int,binOp,Op.intDiv,hq.1.h]⟩
   case rem=>exact ⟨_,_,hq.2,.dat (.int _ _),fun _ _ _ _ _=>by simp [execOp,f1,f2,eqGuard_at_int,binOp,Op.intDiv,hq.1.h]⟩
   case and=>exact ⟨_,_,hq,.dat (.int _ _),fun _ _ _ _ _=>by simp [execOp,f1,f2,eqGuard_at_int,binOp,Op.intBits,bitop]⟩
   case or=>exact ⟨_,_,hq,.dat (.int _ _),fun _ _ _ _ _=>by simp [execOp,f1,f2,eqGuard_at_int,binOp,Op.intBits,bitop]⟩
   case xor=>exact ⟨_,_,hq,.dat (.int _ _),fun _ _ _ _ _=>by simp [execOp,f1,f2,eqGuard_at_int,binOp,Op.intBits,bitop]⟩
   case andNot=>exact ⟨_,_,hq,.dat (.int _ _),fun _ _ _ _ _=>by simp [execOp,f1,f2,eqGuard_at_int,binOp,Op.intBits,bitop]⟩
   case eql=>exact ⟨_,_,hq,.dat (.bool _),fun _ _ _ _ _=>by simp [execOp,f1,f2,eqGuard_at_int,binOp,Op.intCmp,decide_beq_int]⟩
   case neq=>exact ⟨_,_,hq,.dat (.bool _),fun _ _ _ _ _=>by simp [execOp,f1,f2,eqGuard_at_int,binOp,Op.intCmp,bne,decide_beq_int]⟩
   all_goals exact ⟨_,_,hq,.dat (.bool _),fun _ _ _ _ _=>by simp [execOp,f1,f2,eqGuard_at_int,binOp,Op.intCmp]⟩
  ·rename_i s u e1 e2
   have f1:=(hf.at e1).str
   have f2:=(hf.at e2).str
   cases b
   case add=>exact ⟨_,_,h.2,.dat (.str _),fun _ _ _ _ _=>by
    have hn:¬ (((s.size+u.size:Nat):Int) > IntKind.i64.max):=by
     have:=h.1.h
     show ¬ _ > (9223372036854775807:Int)
     omega
    simp only [execOp,f1,f2,eqGuard_str,binOp,Op.stringOp,if_neg hn]
    rfl⟩
   case eql=>exact ⟨_,_,h,.dat (.bool _),fun _ _ _ _ _=>by simp [execOp,f1,f2,eqGuard_str,binOp,Op.stringOp,bytes_eq]⟩
   case neq=>exact ⟨_,_,h,.dat (.bool _),fun _ _ _ _ _=>by simp [execOp,f1,f2,eqGuard_str,binOp,Op.stringOp,bytes_eq]⟩
   all_goals exact h.elim
  ·exact h.elim
theorem rd_sound (hT:TOk P TB) (hh:HR Gl o ρ R w) (hf:FR ρ o R w t a) {op:Op} {K:AV→Prop} (hr:isRd op=true) (h:rdP TB op t o K):Yields P ρ o R w a op K:=by
 cases op with
 |move x=>exact y_move hf h
 |assign x=>exact y_assign hf h
 |pick c x y=>exact y_pick hf h
 |build ty ps=>exact y_build hT hf h
 |load ty x=>exact y_load hT hh hf h
 |nilCheck x=>exact y_nilCheck hf h
 |binOp b ty x y tz=>exact y_binOp hT hf h
 |unOp u ty x=>exact y_unOp hf h
 |convert s d x=>exact y_convert hT hh hf h
 |fieldAddr ty x f=>exact y_fieldAddr hT hf h
 |indexAddr ty x i=>exact y_indexAddr hT hf h
 |index ty x i=>exact y_index hT hf h
 |slice ty x lo hi mx=>exact y_slice hT hf h
 |extract x i=>exact y_extract hf h
 |field ty x f=>exact y_field hT hf h
 |makeFunc fn fs cs=>exact y_makeFunc hf h
 |call c =>
  obtain ⟨callee,as,ts⟩:=c
  cases callee with
  |builtin b=>cases b with
   |len=>exact y_len hT hf h
   |max=>exact y_max hf h
   |min=>exact y_min hf h
   |_=>cases hr
  |_=>cases hr
 |_=>cases hr
end
end Go.Proofs.YtgdbhjmpkkbnnaaGreatDoor.Vc
end
section
/- Part G of the engine: the steps by which memory changes. -/
namespace Go.Proofs.YtgdbhjmpkkbnnaaGreatDoor.Vc
section
variable {P:Program} {TB:TypeId→TI} {ρ:Ix→Option Nat} {o:List Obj} {R:Nat→Prop} {w:World} {t:Fr} {a:Act} {Gl:List (Nat × Go.Obj)}
/-! ### A new block -/
def ρnew (ρ:Ix→Option Nat) (n b:Nat):Ix→Option Nat:=fun x=>if x=(n:Ix) then some b else ρ x
theorem ρnew_at {n b:Nat}:ρnew ρ n b n=some b:=by unfold ρnew; rw [if_pos rfl]
theorem ρnew_ne {n b:Nat} {x:Ix} (h:x.id≠n):ρnew ρ n b x=ρ x:=by
 unfold ρnew
 rw [if_neg (by rintro rfl; exact h rfl)]
theorem EX.new (_hh:HR Gl o ρ R w) (ob:Obj) (xs:Array Value) (ty:TypeId) {w':World} (hw:w'.heap=w.heap.push (.cells xs ty (0,0))) (h1:w'.os=w.os) (h2:w'.tape=w.tape) (h3:w'.output=w.output) :
  EX o ρ R w (o ++ [ob]) (ρnew ρ o.length w.heap.size) R w' where
 len:=by simp
 keep id hid:=by
  have e:(o ++ [ob])[id]?=o[id]?:=List.getElem?_append_left hid
  have e2:ρnew ρ o.length w.heap.size id=ρ id:=ρnew_ne (show id≠_ by omega)
  rw [e,e2]
  split
  ·rename_i h; exact ⟨⟨_,h⟩,rfl⟩
  ·rename_i h; exact ⟨⟨_,_,h⟩,rfl⟩
  ·rename_i h; exact ⟨⟨_,h,rfl⟩,rfl⟩
  ·trivial
 rmono _ h:=h
 rnew _ h:=.inl h
 pnew id b h:=by
  unfold ρnew at h
  split at h
  ·injection h with h; exact .inl (by omega)
  ·exact .inr ⟨id,h⟩
 size:=by rw [hw]; simp
 same b hb _:=by rw [hw,Array.getElem?_push_lt (by omega),Array.getElem?_eq_getElem hb]
 shape b ys ty' h:=⟨ys,by
  have hb:=(Array.getElem?_eq_some_iff.1 h).1
  rw [hw,Array.getElem?_push_lt (by omega),← Array.getElem?_eq_getElem hb]
  exact h,rfl⟩
 os:=h1
 tape:=h2
 output:=h3
theorem NR.go {ρ':Ix→Option Nat} {R':Nat→Prop} {w':World} {id q:Nat} {v:AV} {x:Value} (h:NR ρ R w id q v x) (hR:∀ b,R b→R' b) (hw:∀ b,R b→w'.heap[b]?=w.heap[b]?) (hr:ρ' (.inn id q)=ρ (.inn id q))
  (hb:∀ b,ρ (.inn id q)=some b→w'.heap[b]?=w.heap[b]?):NR ρ' R' w' id q v x:=by
 rcases h with ⟨h1,h2⟩|⟨s,len,g,h1,h2,h3⟩
 ·exact .inl ⟨h1,h2.go hR hw⟩
 ·refine .inr ⟨s,len,g,h1,h2,?_⟩
  rcases h3 with h3|⟨b,ys,ty,cap,e1,e2,e3,e4,e5,e6,e7⟩
  ·exact .inl h3
  ·exact .inr ⟨b,ys,ty,cap,e1,hr.trans e2,(hb b e2).trans e3,e4,e5,e6,fun i hi j hj=>(e7 i hi j hj).go hR hw⟩
theorem OB.go {o' ρ' R' w'} (hx:EX o ρ R w o' ρ' R' w') (hro:∀ b,R b→b<w.heap.size∧∀ id,ρ id≠some b) {id:Nat} {ob:Obj} (h:OB ρ o R w id ob) (hr:∀ x:Ix,x.id=id→ρ' x=ρ x) (hb:∀ (x:Ix) (b:Nat),x.id=id→ρ x=some b→w'.heap[b]?=w.heap[b]?):OB ρ' o' R' w' id ob:=by
 have hb':=hb
 have hr':=hr
 replace hr:=hr (id:Ix) rfl
 replace hb:=fun b=>hb (id:Ix) b rfl
 have hw:∀ b,R b→w'.heap[b]?=w.heap[b]?:=fun b hb=>hx.same b (hro b hb).1 (hro b hb).2
 cases ob with
 |dead=>exact hr.trans h
 |box cs =>
  obtain ⟨b,xs,ty,h1,h2,h3,h4⟩:=h
  exact ⟨b,xs,ty,hr.trans h1,(hb b h1).trans h2,h3,fun j hj=>(h4 j hj).go hx hro⟩
 |row sz n f =>
  rcases h with ⟨h1,h2⟩|⟨b,xs,ty,h1,h2,h3,h4,h5⟩
  ·exact .inl ⟨h1,hr.trans h2⟩
  ·exact .inr ⟨b,xs,ty,hr.trans h1,(hb b h1).trans h2,h3,h4,fun i hi j hj=>(h5 i hi j hj).go hx.rmono hw⟩
 |nrow sz n f x =>
  rcases h with ⟨h1,h0,h2⟩|⟨b,xs,ty,h1,h2,h3,h4,h5,h6⟩
  ·exact .inl ⟨h1,h0,hr.trans h2⟩
  ·exact .inr ⟨b,xs,ty,hr.trans h1,(hb b h1).trans h2,h3,h4,fun i hi hn j hj=>(h5 i hi hn j hj).go hx.rmono hw (hr' _ rfl) fun b=>hb' _ b rfl,fun i cs e=>⟨(h6 i cs e).1,(h6 i cs e).2.1,fun j hj=>((h6 i cs e).2.2 j hj).go hx hro⟩⟩
theorem HR.new (hh:HR Gl o ρ R w) (ob:Obj) (xs:Array Value) (ty:TypeId) {w':World} (hw:w'.heap=w.heap.push (.cells xs ty (0,0))) (h1:w'.os=w.os) (h2:w'.tape=w.tape) (h3:w'.output=w.output)
  (hob:EX o ρ R w (o ++ [ob]) (ρnew ρ o.length w.heap.size) R w'→OB (ρnew ρ o.length w.heap.size) (o ++ [ob]) R w' o.length ob):HR Gl (o ++ [ob]) (ρnew ρ o.length w.heap.size) R w':=by
 have hx:=EX.new hh ob xs ty hw h1 h2 h3
 have hn:∀ (x:Ix) (b:Nat),ρnew ρ o.length w.heap.size x=some b→(x=(o.length:Ix)∧b=w.heap.size)∨(x.id<o.length∧ρ x=some b∧b<w.heap.size):=by
  intro id b h
  unfold ρnew at h
  split at h
  ·injection h with h; exact .inl ⟨by assumption,h.symm⟩
  ·exact .inr ⟨hh.dom id b h,h,hh.lt id b h⟩
 refine ⟨?_,?_,?_,?_,?_,?_,?_⟩
 ·intro id b h
  rw [List.length_append]
  rcases hn id b h with ⟨rfl,_⟩|⟨h,_⟩
  ·exact Nat.lt_succ_self _
  ·exact Nat.lt_of_lt_of_le h (Nat.le_add_right _ _)
 ·intro id q b h
  rcases hn _ b h with ⟨e,_⟩|⟨h1,h2,_⟩
  ·cases e
  ·obtain ⟨s,n,f,x,e⟩:=hh.din id q b h2
   exact ⟨s,n,f,x,(List.getElem?_append_left (show id<o.length from h1)).trans e⟩
 ·intro id b h
  rw [hw,Array.size_push]
  rcases hn id b h with ⟨_,rfl⟩|⟨_,_,h⟩ <;> omega
 ·intro i j b hi hj
  rcases hn i b hi with ⟨e1,e2⟩|⟨e1,e2,e3⟩ <;> rcases hn j b hj with ⟨e4,e5⟩|⟨e4,e5,e6⟩
  ·rw [e1,e4]
  ·omega
  ·omega
  ·exact hh.inj i j b e2 e5
 ·intro b hb
  obtain ⟨h1,h2⟩:=hh.ro b hb
  refine ⟨by rw [hw,Array.size_push]; omega,fun id h=>?_⟩
  rcases hn id b h with ⟨_,rfl⟩|⟨_,h,_⟩
  ·omega
  ·exact h2 id h
 ·intro id ob' h
  by_cases hid:id<o.length
  ·rw [List.getElem?_append_left hid] at h
   refine (hh.obj id ob' h).go hx hh.ro (fun x hx=>ρnew_ne (by omega)) fun x b _ hb=>?_
   have:=hh.lt x b hb
   rw [hw,Array.getElem?_push_lt (by omega),Array.getElem?_eq_getElem this]
  ·have hid':id=o.length:=by
    have:=(List.getElem?_eq_some_iff.1 h).1
    simp at this
    omega
   subst hid'
   rw [List.getElem?_append_right (Nat.le_refl _),Nat.sub_self] at h
   simp at h
   subst h
   exact hob hx
 ·intro p hp
  obtain ⟨h1,h2⟩:=hh.gl p hp
  exact ⟨h1,(hx.same _ (hh.ro _ h1).1 (hh.ro _ h1).2).trans h2⟩
/-! ### A local row that is frozen -/
def ρdel (ρ:Ix→Option Nat) (k:Nat):Ix→Option Nat:=fun x=>if x.id=k then none else ρ x
def Radd (R:Nat→Prop) (ρ:Ix→Option Nat) (k:Nat):Nat→Prop:=fun b=>R b∨∃ x:Ix,x.id=k∧ρ x=some b
theorem ρdel_ne {k:Nat} {x:Ix} (h:x.id≠k):ρdel ρ k x=ρ x:=by unfold ρdel; rw [if_neg h]
theorem ρdel_at {k:Nat} {x:Ix} (h:x.id=k):ρdel ρ k x=none:=by unfold ρdel; rw [if_pos h]
theorem EX.frz (k:Nat):EX o ρ R w (o.set k .dead) (ρdel ρ k) (Radd R ρ k) w where
 len:=by simp
 keep id hid:=by
  by_cases hk:k=id
  ·subst hk
   rw [List.getElem?_set_self hid]
   trivial
  ·rw [List.getElem?_set_ne hk]
   have e2:ρdel ρ k id=ρ id:=ρdel_ne (show id≠k from Ne.symm hk)
   rw [e2]
   split
   ·rename_i h; exact ⟨⟨_,h⟩,rfl⟩
   ·rename_i h; exact ⟨⟨_,_,h⟩,rfl⟩
   ·rename_i h; exact ⟨⟨_,h,rfl⟩,rfl⟩
   ·trivial
 rmono _ h:=.inl h
 rnew b h:=by
  rcases h with h|h
  ·exact .inl h
  ·obtain ⟨x,_,h⟩:=h
   exact .inr (.inr ⟨x,h⟩)
 pnew id b h:=by
  unfold ρdel at h
  split at h
  ·cases h
  ·exact .inr ⟨id,h⟩
 size:=Nat.le_refl _
 same _ _ _:=rfl
 shape _ ys _ h:=⟨ys,h,rfl⟩
 os:=rfl
 tape:=rfl
 output:=rfl
theorem HR.frz (hh:HR Gl o ρ R w) (k:Nat):HR Gl (o.set k .dead) (ρdel ρ k) (Radd R ρ k) w:=by
 have hx:=EX.frz (o:=o) (ρ:=ρ) (R:=R) (w:=w) k
 have hn:∀ (x:Ix) (b:Nat),ρdel ρ k x=some b→x.id≠k∧ρ x=some b:=by
  intro id b h
  unfold ρdel at h
  split at h
  ·cases h
  ·exact ⟨by assumption,h⟩
 refine ⟨?_,?_,?_,?_,?_,?_,?_⟩
 ·intro id b h; rw [List.length_set]; exact hh.dom id b (hn id b h).2
 ·intro id q b h
  obtain ⟨h1,h2⟩:=hn _ b h
  obtain ⟨s,n,f,x,e⟩:=hh.din id q b h2
  exact ⟨s,n,f,x,(List.getElem?_set_ne (show k≠id from Ne.symm h1)).trans e⟩
 ·intro id b h; exact hh.lt id b (hn id b h).2
 ·intro i j b hi hj; exact hh.inj i j b (hn i b hi).2 (hn j b hj).2
 ·intro b hb
  rcases hb with hb|⟨x,hx,hb⟩
  ·exact ⟨(hh.ro b hb).1,fun id h=>(hh.ro b hb).2 id (hn id b h).2⟩
  ·exact ⟨hh.lt x b hb,fun id h=>(hn id b h).1 (by rw [hh.inj id x b (hn id b h).2 hb]; exact hx)⟩
 ·intro id ob h
  by_cases hk:k=id
  ·subst hk
   have hid:k<o.length:=by have:=(List.getElem?_eq_some_iff.1 h).1; rwa [List.length_set] at this
   rw [List.getElem?_set_self hid] at h
   injection h with h
   subst h
   exact ρdel_at rfl
  ·rw [List.getElem?_set_ne hk] at h
   exact (hh.obj id ob h).go hx hh.ro (fun x hx=>ρdel_ne (by omega)) fun _ b _ hb=>rfl
 ·intro p hp
  obtain ⟨h1,h2⟩:=hh.gl p hp
  exact ⟨.inl h1,h2⟩
theorem frozen_DR (hh:HR Gl o ρ R w) {id sz off len s n:Nat} {f} {y:Value} (h:TR ρ o R w (.row id sz off len) y) (he:o[id]?=some (.row s n f)) (hs:Nat.beq s sz=true) (hl:off+len≤n) :
  DR (Radd R ρ id) w (.sl sz len fun i=>f (off+i)) y:=by
 rcases h.row he hs with ⟨h0,b,rfl⟩|⟨b,cs,ty,cap,rfl,hr,hc,h1,h2,_⟩
 ·subst h0; exact .sl0 _ _ _ _
 ·have hs:=Nat.eq_of_beq_eq_true hs
  subst hs
  rcases hh.obj id _ he with ⟨h3,_⟩|⟨b',xs,ty',q1,q2,q3,q4,q5⟩
  ·have:len=0:=by omega
   subst this
   exact .sl0 _ _ _ _
  ·rw [hr] at q1
   injection q1 with q1
   subst q1
   rw [hc] at q2
   injection q2 with q2
   injection q2 with q2 q6 q7
   subst q2
   refine .sl s len _ ⟨b,off*s,none⟩ cap (fun i j=>cs.getD ((off+i)*s+j) Go.undef) h1 (.inr ⟨(id:Ix),rfl,hr⟩) (fun i hi=>q4 _ (by omega)) (fun i hi j hj=>?_) (fun i hi j hj=>?_)
   ·rw [Addr.add_mid,show off*s+(i*s+j)=(off+i)*s+j by rw [Nat.add_mul]; omega]
    refine cell_block hc ?_
    have:(off+i+1)*s≤n*s:=Nat.mul_le_mul_right _ (by omega)
    rw [Nat.add_mul] at this
    omega
   ·exact (q5 (off+i) (by omega) j hj).go (fun b hb=>.inl hb) (fun b _=>rfl)
theorem NR.dr {R':Nat→Prop} {id q:Nat} {v:AV} {x:Value} (h:NR ρ R w id q v x) (hR:∀ b,R b→R' b) (hi:∀ b,ρ (.inn id q)=some b→R' b):DR R' w v x:=by
 rcases h with ⟨_,h2⟩|⟨s,len,g,rfl,h2,⟨rfl,a,rfl⟩|⟨b,ys,ty,cap,rfl,e2,e3,e4,e5,e6,e7⟩⟩
 ·exact h2.go hR fun _ _=>rfl
 ·exact .sl0 _ _ _ _
 ·refine .sl s len g ⟨b,0,none⟩ cap (fun i j=>ys.getD (i*s+j) Go.undef) e4 (hi b e2) h2 (fun i hi' j hj=>?_) fun i hi' j hj=>(e7 i hi' j hj).go hR fun _ _=>rfl
  rw [Addr.add_mid,Nat.zero_add]
  refine cell_block e3 ?_
  have:(i+1)*s≤cap*s:=Nat.mul_le_mul_right _ (by omega)
  rw [Nat.add_mul] at this
  omega
theorem frozen_DRn (hh:HR Gl o ρ R w) {R':Nat→Prop} {id sz off len s n:Nat} {f} {y:Value} (h:TR ρ o R w (.row id sz off len) y) (he:o[id]?=some (.nrow s n f none)) (hs:Nat.beq s sz=true) (hl:off+len≤n)
  (hR:∀ b,R b→R' b) (hi:∀ (x:Ix) (b:Nat),x.id=id→ρ x=some b→R' b):DR R' w (.sl sz len fun i=>f (off+i)) y:=by
 rcases h.rowL (live_nrow he hs) with ⟨h0,b,rfl⟩|⟨b,cs,ty,cap,rfl,hr,hc,h1,h2,_⟩
 ·subst h0; exact .sl0 _ _ _ _
 ·have hs:=Nat.eq_of_beq_eq_true hs
  subst hs
  rcases hh.obj id _ he with ⟨h3,_⟩|⟨b',xs,ty',q1,q2,q3,q4,q5,_⟩
  ·have:len=0:=by omega
   subst this
   exact .sl0 _ _ _ _
  ·rw [hr] at q1
   injection q1 with q1
   subst q1
   rw [hc] at q2
   injection q2 with q2
   injection q2 with q2 q6 q7
   subst q2
   refine .sl s len _ ⟨b,off*s,none⟩ cap (fun i j=>cs.getD ((off+i)*s+j) Go.undef) h1 (hi _ b rfl hr) (fun i hi=>q4 _ (by omega)) (fun i hi j hj=>?_) (fun i hi' j hj=>?_)
   ·rw [Addr.add_mid,show off*s+(i*s+j)=(off+i)*s+j by rw [Nat.add_mul]; omega]
    refine cell_block hc ?_
    have:(off+i+1)*s≤n*s:=Nat.mul_le_mul_right _ (by omega)
    rw [Nat.add_mul] at this
    omega
   ·exact (q5 (off+i) (by omega) (by simp) j hj).dr hR fun b hb=>hi _ b rfl hb
theorem NR.mv {ρ':Ix→Option Nat} {R':Nat→Prop} {id id' q q':Nat} {v:AV} {x:Value} (h:NR ρ R w id q v x) (hR:∀ b,R b→R' b) (hr:ρ' (.inn id' q')=ρ (.inn id q)):NR ρ' R' w id' q' v x:=by
 rcases h with ⟨h1,h2⟩|⟨s,len,g,h1,h2,h3⟩
 ·exact .inl ⟨h1,h2.go hR fun _ _=>rfl⟩
 ·refine .inr ⟨s,len,g,h1,h2,?_⟩
  rcases h3 with h3|⟨b,ys,ty,cap,e1,e2,e3,e4,e5,e6,e7⟩
  ·exact .inl h3
  ·exact .inr ⟨b,ys,ty,cap,e1,hr.trans e2,e3,e4,e5,e6,fun i hi j hj=>(e7 i hi j hj).go hR fun _ _=>rfl⟩
/-! ### The world grows beside it -/
structure Grows (w w':World):Prop where
 size:w.heap.size≤w'.heap.size
 same:∀ b,b<w.heap.size→w'.heap[b]?=w.heap[b]?
 os:w'.os=w.os
 tape:w'.tape=w.tape
 output:w'.output=w.output
theorem Grows.refl (w:World):Grows w w:=⟨Nat.le_refl _,fun _ _=>rfl,rfl,rfl,rfl⟩
theorem EX.grows {w':World} (h:Grows w w'):EX o ρ R w o ρ R w' where
 len:=Nat.le_refl _
 keep:=(EX.refl o ρ R w).keep
 rmono _ h:=h
 rnew _ h:=.inl h
 pnew id _b h:=.inr ⟨id,h⟩
 size:=h.size
 same b hb _:=h.same b hb
 shape b xs _ty hb:=⟨xs,(h.same b (Array.getElem?_eq_some_iff.1 hb).1).trans hb,rfl⟩
 os:=h.os
 tape:=h.tape
 output:=h.output
theorem HR.grows (hh:HR Gl o ρ R w) {w':World} (h:Grows w w'):HR Gl o ρ R w' where
 dom:=hh.dom
 din:=hh.din
 lt id b hb:=Nat.lt_of_lt_of_le (hh.lt id b hb) h.size
 inj:=hh.inj
 ro b hb:=⟨Nat.lt_of_lt_of_le (hh.ro b hb).1 h.size,(hh.ro b hb).2⟩
 obj id ob he:=(hh.obj id ob he).go (EX.grows h) hh.ro (fun _ _=>rfl) fun x b _ hb=>h.same b (hh.lt x b hb)
 gl p hp:=⟨(hh.gl p hp).1,(h.same _ (hh.ro _ (hh.gl p hp).1).1).trans (hh.gl p hp).2⟩
end
end Go.Proofs.YtgdbhjmpkkbnnaaGreatDoor.Vc
end
section
/- Part H of the engine: rows frozen among what is stored; cells written. -/
namespace Go.Proofs.YtgdbhjmpkkbnnaaGreatDoor.Vc
section
variable {P:Program} {TB:TypeId→TI} {ρ:Ix→Option Nat} {o:List Obj} {R:Nat→Prop} {w:World} {t:Fr} {a:Act} {Gl:List (Nat × Go.Obj)}
theorem kill_HR:∀ (ks:List Nat) {o:List Obj} {ρ:Ix→Option Nat} {R:Nat→Prop},HR Gl o ρ R w→∃ ρ' R',HR Gl (kill o ks) ρ' R' w∧EX o ρ R w (kill o ks) ρ' R' w∧(∀ k∈ks,∀ b,ρ (k:Nat)=some b→R' b)
  | [],o,ρ,R,hh=>⟨ρ,R,hh,EX.refl _ _ _ _,fun k hk=>by cases hk⟩
  | k :: r,o,ρ,R,hh=>by
    obtain ⟨ρ',R',h1,h2,h3⟩:=kill_HR r (hh.frz k)
    refine ⟨ρ',R',h1,(EX.frz k).trans h2,fun j hj b hb=>?_⟩
    by_cases hjk:j=k
    · subst hjk
      exact h2.rmono b (.inr ⟨(j:Ix),rfl,hb⟩)
    · rcases List.mem_cons.1 hj with rfl|hj
      · exact absurd rfl hjk
      · exact h3 j hj b ((ρdel_ne (x:=(j:Ix)) hjk).trans hb)
theorem kill_length:∀ (ks:List Nat) (o:List Obj),(kill o ks).length=o.length
  | [],o=>rfl
  | k :: r,o=>by rw [kill,kill_length r,List.length_set]
theorem kill_other:∀ (ks:List Nat) (o:List Obj) (id:Nat),ks.contains id=false→(kill o ks)[id]?=o[id]?
  | [],o,id,_=>rfl
  | k :: r,o,id,h=>by
    simp only [List.contains_cons,Bool.or_eq_false_iff,beq_eq_false_iff_ne] at h
    rw [kill,kill_other r _ id h.2,List.getElem?_set_ne (Ne.symm h.1)]
theorem Radd_row (hh:HR Gl o ρ R w) {id s n:Nat} {f} (he:o[id]?=some (.row s n f)) {b:Nat} (h:Radd R ρ id b):R b∨ρ id=some b:=by
  rcases h with h|⟨x,hx,h⟩
  · exact .inl h
  · cases x with
    | ob i=>cases hx; exact .inr h
    | inn i q =>
      cases hx
      obtain ⟨_,_,_,_,e⟩:=hh.din _ _ _ h
      cases Eq.trans (Eq.symm he) e
theorem frz1_DR (hh:HR Gl o ρ R w) {v x:AV} {k:Option Nat} {p:Prop} {y:Value} (h:frz1 o v=some (x,k,p)) (hp:p) (hv:TR ρ o R w v y) {R':Nat→Prop} (h1:∀ b,R b→R' b) (h2:∀ j:Nat,k=some j→∀ b,ρ j=some b→R' b):DR R' w x y:=by
  unfold frz1 at h
  split at h
  · rename_i id sz off len
    split at h
    · rename_i s n f e
      cases hs:Nat.beq s sz with
      | false=>rw [hs] at h; cases h
      | true =>
        rw [hs] at h
        simp only [cond_true,Option.some.injEq,Prod.mk.injEq] at h
        obtain ⟨rfl,rfl,rfl⟩:=h
        refine (frozen_DR hh hv e hs hp).go (fun b hb=>?_) fun b _=>rfl
        rcases Radd_row hh e hb with hb|hb
        · exact h1 b hb
        · exact h2 _ rfl b hb
    · cases h
  all_goals first
    | (simp only [Option.some.injEq,Prod.mk.injEq] at h
       obtain ⟨rfl,rfl,rfl⟩:=h
       have:=hv.vr rfl
       cases this with
       | data hd=>exact hd.go h1 fun b _=>rfl)
    | cases h
theorem frzL_DR (hh:HR Gl o ρ R w) {R':Nat→Prop} (h1:∀ b,R b→R' b):∀ {cs ds:List AV} {ks:List Nat} {p:Prop} {g:Nat→Value},frzL o cs=some (ds,ks,p)→p→(∀ j,j<cs.length→TR ρ o R w (cs.getD j .undef) (g j)) →
    (∀ k∈ks,∀ b,ρ (k:Nat)=some b→R' b)→ds.length=cs.length∧∀ j,j<cs.length→DR R' w (ds.getD j .undef) (g j)
  | [],ds,ks,p,g,h,_,_,_=>by
    simp only [frzL,Option.some.injEq,Prod.mk.injEq] at h
    obtain ⟨rfl,rfl,rfl⟩:=h
    exact ⟨rfl,fun j hj=>by simp at hj⟩
  | v :: r,ds,ks,p,g,h,hp,hg,hk=>by
    simp only [frzL] at h
    have step:∀ {x:AV} {k:Option Nat} {p1:Prop} {xs:List AV} {ls:List Nat} {p2:Prop},frz1 o v=some (x,k,p1)→frzL o r=some (xs,ls,p2)→p1→p2→(∀ j:Nat,k=some j→∀ b,ρ j=some b→R' b)→(∀ k∈ls,∀ b,ρ (k:Nat)=some b→R' b) →
        (x :: xs).length=(v :: r).length∧∀ j,j<(v :: r).length→DR R' w ((x :: xs).getD j .undef) (g j):=by
      intro x k p1 xs ls p2 e1 e2 q1 q2 k1 k2
      obtain ⟨l1,l2⟩:=frzL_DR hh h1 (g:=fun j=>g (j+1)) e2 q2 (fun j hj=>by have:=hg (j+1) (by simpa using hj); simpa using this) k2
      refine ⟨by simp [l1],fun j hj=>?_⟩
      cases j with
      | zero=>exact frz1_DR hh e1 q1 (by have:=hg 0 (by simp); simpa using this) h1 k1
      | succ j=>simpa using l2 j (by simpa using hj)
    split at h
    · rename_i x p1 xs ls p2 e1 e2
      simp only [Option.some.injEq,Prod.mk.injEq] at h
      obtain ⟨rfl,rfl,rfl⟩:=h
      refine step e1 e2 ?_ hp (fun j hj=>by cases hj) hk
      unfold frz1 at e1
      split at e1
      · split at e1
        · rename_i s n f e
          cases hs:Nat.beq s _ with
          | false=>rw [hs] at e1; cases e1
          | true=>rw [hs] at e1; simp at e1
        · cases e1
      all_goals first
        | (simp only [Option.some.injEq,Prod.mk.injEq] at e1; obtain ⟨_,_,rfl⟩:=e1; trivial)
        | cases e1
    · rename_i x k p1 xs ls p2 e1 e2
      simp only [Option.some.injEq,Prod.mk.injEq] at h
      obtain ⟨rfl,rfl,rfl⟩:=h
      exact step e1 e2 hp.1 hp.2 (fun j hj b hb=>by injection hj with hj; subst hj; exact hk _ List.mem_cons_self b hb) fun k hk'=>hk k (List.mem_cons_of_mem _ hk')
    · cases h
/-! ### Cells written -/
theorem setCell_heap {b off:Nat} {xs:Array Value} {ty:TypeId} {v:Value} (h:w.heap[b]?=some (.cells xs ty (0,0))):(w.setCell ⟨b,off,none⟩ v).heap[b]?=some (.cells (xs.setIfInBounds off v) ty (0,0)):=by
  simp [World.setCell,Array.getElem?_modify,h]
theorem setCell_heap_ne {b c off:Nat} {v:Value} (h:c≠b):(w.setCell ⟨b,off,none⟩ v).heap[c]?=w.heap[c]?:=by
  simp [World.setCell,Array.getElem?_modify,Ne.symm h]
theorem setCells_facts:∀ (vs:List Value) (off:Nat) {w:World} {b:Nat} {xs:Array Value} {ty:TypeId},w.heap[b]?=some (.cells xs ty (0,0))→off+vs.length≤xs.size →
    ∃ ys:Array Value,(w.setCells b off vs).heap[b]?=some (.cells ys ty (0,0))∧ys.size=xs.size∧(∀ j,ys.getD j Go.undef=if off≤j∧j<off+vs.length then vs.getD (j-off) Go.undef else xs.getD j Go.undef) ∧
      (∀ c,c≠b→(w.setCells b off vs).heap[c]?=w.heap[c]?)∧(w.setCells b off vs).heap.size=w.heap.size∧(w.setCells b off vs).os=w.os∧(w.setCells b off vs).tape=w.tape∧(w.setCells b off vs).output=w.output
  | [],off,w,b,xs,ty,h,_=>⟨xs,h,rfl,fun j=>by rw [if_neg (by simp only [List.length_nil]; omega)],fun _ _=>rfl,rfl,rfl,rfl,rfl⟩
  | v :: r,off,w,b,xs,ty,h,hl=>by
    simp only [List.length_cons] at hl
    obtain ⟨ys,h1,h2,h3,h4,h5,h6,h7,h8⟩:=setCells_facts r (off+1) (w:=w.setCell ⟨b,off,none⟩ v) (setCell_heap h) (by rw [Array.size_setIfInBounds]; omega)
    refine ⟨ys,h1,by rw [h2]; simp,fun j=>?_,fun c hc=>(h4 c hc).trans (setCell_heap_ne hc),by rw [World.setCells,h5]; simp [World.setCell],h6,h7,h8⟩
    rw [h3 j]
    simp only [List.length_cons]
    by_cases g1:off+1≤j∧j<off+1+r.length
    · rw [if_pos g1,if_pos (by omega),show j-off=(j-(off+1))+1 by omega,List.getD_cons_succ]
    · rw [if_neg g1]
      by_cases g2:j=off
      · subst g2
        rw [if_pos (by omega),Nat.sub_self,List.getD_cons_zero,Array.getD_eq_getD_getElem?,Array.getElem?_setIfInBounds_self_of_lt (by omega)]
        rfl
      · rw [if_neg (by omega),Array.getD_eq_getD_getElem?,Array.getElem?_setIfInBounds_ne (Ne.symm g2),← Array.getD_eq_getD_getElem?]
structure WR (w w':World) (b:Nat) (xs ys:Array Value) (ty:TypeId):Prop where
  old:w.heap[b]?=some (.cells xs ty (0,0))
  new:w'.heap[b]?=some (.cells ys ty (0,0))
  sz:ys.size=xs.size
  ne:∀ c,c≠b→w'.heap[c]?=w.heap[c]?
  hs:w'.heap.size=w.heap.size
  os:w'.os=w.os
  tape:w'.tape=w.tape
  output:w'.output=w.output
theorem EX.wr {b:Nat} {xs ys:Array Value} {ty:TypeId} {w':World} (hw:WR w w' b xs ys ty) {id:Nat} (hid:ρ id=some b) {ob ob':Obj} (he:o[id]?=some ob)
    (hk:match ob' with|.box _=>∃ cs,ob=.box cs|.row s _ _=>∃ n f,ob=.row s n f|.nrow s _ _ _=>∃ n f x,ob=.nrow s n f x|.dead=>False):EX o ρ R w (o.set id ob') ρ R w' where
  len:=by simp
  keep j hj:=by
    by_cases hji:id=j
    · subst hji
      rw [List.getElem?_set_self hj]
      cases ob' with
      | box cs=>obtain ⟨ds,rfl⟩:=hk; exact ⟨⟨_,he⟩,rfl⟩
      | row s n f=>obtain ⟨m,g,rfl⟩:=hk; exact ⟨⟨_,_,he⟩,rfl⟩
      | nrow s n f x=>obtain ⟨m,g,y,rfl⟩:=hk; exact ⟨⟨_,he,rfl⟩,rfl⟩
      | dead=>trivial
    · rw [List.getElem?_set_ne hji]
      split
      · rename_i h; exact ⟨⟨_,h⟩,rfl⟩
      · rename_i h; exact ⟨⟨_,_,h⟩,rfl⟩
      · rename_i h; exact ⟨⟨_,h,rfl⟩,rfl⟩
      · trivial
  rmono _ h:=h
  rnew _ h:=.inl h
  pnew id b h:=.inr ⟨id,h⟩
  size:=by rw [hw.hs]; exact Nat.le_refl _
  same c _ hc:=hw.ne c fun e=>hc id (e ▸ hid)
  shape c zs tz h:=by
    by_cases hcb:c=b
    · subst hcb
      rw [hw.old] at h
      injection h with h
      injection h with h1 h2 h3
      subst h1 h2
      exact ⟨ys,hw.new,hw.sz⟩
    · exact ⟨zs,(hw.ne c hcb).trans h,rfl⟩
  os:=hw.os
  tape:=hw.tape
  output:=hw.output
theorem HR.wr (hh:HR Gl o ρ R w) {b:Nat} {xs ys:Array Value} {ty:TypeId} {w':World} (hw:WR w w' b xs ys ty) {id:Nat} (hid:ρ id=some b) {ob ob':Obj} (he:o[id]?=some ob)
    (hk:match ob' with|.box _=>∃ cs,ob=.box cs|.row s _ _=>∃ n f,ob=.row s n f|.nrow s _ _ _=>∃ n f x,ob=.nrow s n f x|.dead=>False)
    (hob:EX o ρ R w (o.set id ob') ρ R w'→OB ρ (o.set id ob') R w' id ob'):HR Gl (o.set id ob') ρ R w':=by
  have hx:EX o ρ R w (o.set id ob') ρ R w':=EX.wr hw hid he hk
  refine ⟨?_,?_,?_,hh.inj,?_,?_,?_⟩
  · intro i c h; rw [List.length_set]; exact hh.dom i c h
  · intro i q c h
    obtain ⟨s,n,f,x,e⟩:=hh.din i q c h
    by_cases hji:id=i
    · subst hji
      rw [List.getElem?_set_self (List.getElem?_eq_some_iff.1 he).1]
      rw [he] at e
      injection e with e
      subst e
      cases ob' with
      | box cs=>obtain ⟨_,h⟩:=hk; cases h
      | row s n f=>obtain ⟨_,_,h⟩:=hk; cases h
      | nrow s n f x=>exact ⟨_,_,_,_,rfl⟩
      | dead=>exact hk.elim
    · rw [List.getElem?_set_ne hji]
      exact ⟨s,n,f,x,e⟩
  · intro i c h; rw [hw.hs]; exact hh.lt i c h
  · intro c hc; rw [hw.hs]; exact hh.ro c hc
  · intro j ob2 h
    by_cases hji:id=j
    · subst hji
      have hj:id<o.length:=(List.getElem?_eq_some_iff.1 he).1
      rw [List.getElem?_set_self hj] at h
      injection h with h
      subst h
      exact hob hx
    · rw [List.getElem?_set_ne hji] at h
      exact (hh.obj j ob2 h).go hx hh.ro (fun _ _=>rfl) fun x c hx hc=>hw.ne c fun e=>hji (by have:=hh.inj id x b hid (e ▸ hc); rw [← hx,← this]; rfl)
  · intro p hp
    obtain ⟨h1,h2⟩:=hh.gl p hp
    exact ⟨h1,(hw.ne _ fun e=>(hh.ro _ h1).2 id (by rw [e]; exact hid)).trans h2⟩
end
end Go.Proofs.YtgdbhjmpkkbnnaaGreatDoor.Vc
end
