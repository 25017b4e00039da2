/- The engine, part B: what an operation that leaves the world alone yields. -/
import Derived.Test.YtkekidalckflhaaDoorVcA
namespace Go.Vc
open Go.RowKit

def with1 (E : Env) (x : Operand) (f : Value → Prop) : Prop := match opd E x with | some v => f v | none => False
def withL (E : Env) : List Operand → (List Value → Prop) → Prop
  | [], f => f []
  | x :: r, f => with1 E x fun v => withL E r fun vs => f (v :: vs)

theorem with1_elim {E : Env} {x : Operand} {f : Value → Prop} (h : with1 E x f) : ∃ v, opd E x = some v ∧ f v := by
  unfold with1 at h
  split at h
  · exact ⟨_, by assumption, h⟩
  · exact h.elim
theorem withL_elim {S : Sig} {E : Env} : ∀ {l : List Operand} {f : List Value → Prop}, withL E l f → ∃ vs, f vs ∧ ∀ a, Agrees S a E → l.map a.eval = vs
  | [], f, h => ⟨[], h, fun _ _ => rfl⟩
  | x :: r, f, h => by
    obtain ⟨v, hv, h⟩ := with1_elim h
    obtain ⟨vs, hf, ha⟩ := withL_elim (S := S) h
    exact ⟨v :: vs, hf, fun a hag => by simp only [List.map_cons, hag.eval hv, ha a hag]⟩

/-- It yields v in every world, and leaves it alone. -/
def PureRun (P : Program) (m : Sem Value) (K : Value → Prop) : Prop := ∃ v, (∀ w, m.run P w = .ok v w) ∧ K v
/-- It yields v in this world and in every world that keeps this one's blocks. -/
def StableRun (P : Program) (w : World) (m : Sem Value) (K : Value → Prop) : Prop := ∃ v, (∀ w2, Below w.heap.size w w2 → m.run P w2 = .ok v w2) ∧ K v

def kEq (k k' : IntKind) : Bool := decide (k = k')

def intE (op : BinOp) (k : IntKind) (a b : Int) (K : Value → Prop) : Prop :=
  match op with
  | .lss => K (.bool (decide (a < b)))
  | .leq => K (.bool (decide (a ≤ b)))
  | .gtr => K (.bool (decide (b < a)))
  | .geq => K (.bool (decide (b ≤ a)))
  | .eql => K (.bool (decide (a = b)))
  | .neq => K (.bool (!decide (a = b)))
  | .add => Ar k (a + b) K
  | .sub => Ar k (a - b) K
  | .mul => Ar k (a * b) K
  | .quo => b ≠ 0 ∧ Ar k (a.tdiv b) K
  | .rem => b ≠ 0 ∧ ∃ r, a.tmod b = r ∧ K (.int k r)
  | .and => ∃ r, k.wrap ((BitVec.ofInt k.bits a &&& BitVec.ofInt k.bits b).toNat) = r ∧ K (.int k r)
  | .or => ∃ r, k.wrap ((BitVec.ofInt k.bits a ||| BitVec.ofInt k.bits b).toNat) = r ∧ K (.int k r)
  | .xor => ∃ r, k.wrap ((BitVec.ofInt k.bits a ^^^ BitVec.ofInt k.bits b).toNat) = r ∧ K (.int k r)
  | .andNot => ∃ r, k.wrap ((BitVec.ofInt k.bits a &&& ~~~ BitVec.ofInt k.bits b).toNat) = r ∧ K (.int k r)
  | _ => False

def binE (P : Program) (op : BinOp) (T : TypeId) (x y : Operand) (vx vy : Value) (K : Value → Prop) : Prop :=
  match vx, vy with
  | .int k a, .int k' b =>
    match op with
    | .shl => 0 ≤ b ∧ Ar k (a * 2 ^ (min b.toNat k.bits)) K
    | .shr => 0 ≤ b ∧ ∃ r, a.fdiv (2 ^ (min b.toNat k.bits)) = r ∧ K (.int k r)
    | op => match kEq k k' with
      | true => intE op k a b K
      | false => False
  | vx, vy => PureRun P (do eqGuard op T x y vx vy; binOp op T vx vy) K

def fieldE (o : Option TI) (f : Nat) (g : Nat → Nat → Bool → Prop) : Prop :=
  match o with
  | some { kind := .struct fs, .. } => (match fs[f]? with
    | some (off, sz, agg) => g off sz agg
    | none => False)
  | _ => False

def partE (off sz : Nat) (agg : Bool) (cs : List Value) (K : Value → Prop) : Prop :=
  match agg with
  | true => K (.agg ((cs.drop off).take sz).toArray)
  | false => match cs[off]? with
    | some v => K v
    | none => False

def idx (vi : Value) (n : Nat) (g : Nat → Prop) : Prop :=
  match vi with
  | .int _ i => ∃ j : Nat, (j : Int) = i ∧ j < n ∧ g j
  | _ => False

def indexAddrE (o : Option TI) (vx vi : Value) (K : Value → Prop) : Prop :=
  match o with
  | some { kind := .slice _ esz, .. } => (match vx with
    | .slice (some ⟨b, o, none⟩) len _ => idx vi len fun j => K (.pointer (some ⟨b, o + j * esz, none⟩))
    | _ => False)
  | some { kind := .array n _ esz _, .. } => (match vx with
    | .pointer (some ⟨b, o, none⟩) => idx vi n fun j => K (.pointer (some ⟨b, o + j * esz, none⟩))
    | _ => False)
  | _ => False

def bnd (o : Option Value) (dflt top : Nat) (g : Nat → Prop) : Prop :=
  match o with
  | none => g dflt
  | some (.int _ i) => ∃ j : Nat, (j : Int) = i ∧ j ≤ top ∧ g j
  | some _ => False

def cutBase (base : Option Addr) (m l esz : Nat) : Option Addr := if m = l then base else base.map (·.add (l * esz))

/-- 'x[lo:hi]' -/
def sliceE (o : Option TI) (vx : Value) (lo hi : Option Value) (K : Value → Prop) : Prop :=
  match o with
  | some { kind := .slice _ esz, .. } => (match vx with
    | .slice base len cap => bnd hi len cap fun h => bnd lo 0 h fun l => K (.slice (cutBase base cap l esz) (h - l) (cap - l))
    | _ => False)
  | some { kind := .array n _ esz _, .. } => (match vx with
    | .pointer (some a) => bnd hi n n fun h => bnd lo 0 h fun l => K (.slice (cutBase (some a) n l esz) (h - l) (n - l))
    | _ => False)
  | some { kind := .string, .. } => (match vx with
    | .string s => bnd hi s.size s.size fun h => bnd lo 0 h fun l => K (.string (s.extract l h))
    | _ => False)
  | _ => False

def withO (E : Env) (o : Option Operand) (f : Option Value → Prop) : Prop :=
  match o with
  | none => f none
  | some x => with1 E x fun v => f (some v)

def putAt (l : List Value) (off : Nat) : List Value → List Value
  | [] => l
  | v :: r => putAt (l.set off v) (off + 1) r

/-- The parts of a composite, laid over its zero cells. -/
def fillL (place : Nat → Option (Nat × Nat)) (cells : List Value) : List (Nat × Value) → Option (List Value)
  | [] => some cells
  | (i, v) :: rest => match place i with
    | none => none
    | some (off, sz) => match Nat.beq v.cells.size sz && Nat.ble (off + sz) cells.length with
      | true => fillL place (putAt cells off v.cells.toList) rest
      | false => none

def zipN : List (Nat × Operand) → List Value → List (Nat × Value)
  | (i, _) :: r, v :: vs => (i, v) :: zipN r vs
  | _, _ => []

def placeS (fs : List (Nat × Nat × Bool)) (i : Nat) : Option (Nat × Nat) :=
  match fs[i]? with
  | some (off, sz, _) => some (off, sz)
  | none => none

def buildE (o : Option TI) (ps : List (Nat × Operand)) (vs : List Value) (K : Value → Prop) : Prop :=
  match o with
  | some { kind := .struct fs, zero := some z, .. } => ∃ cells, fillL (placeS fs) z (zipN ps vs) = some cells ∧ K (.agg cells.toArray)
  | some { kind := .array _ _ esz _, zero := some z, .. } => ∃ cells, fillL (fun i => some (i * esz, esz)) z (zipN ps vs) = some cells ∧ K (.agg cells.toArray)
  | _ => False

def zrep (z : List Value) : Nat → List Value
  | 0 => []
  | n + 1 => z ++ zrep z n

/-- The operations that do not look at the world. -/
def isN (op : Op) : Bool :=
  match op with
  | .move _ | .assign _ | .pick .. | .binOp .. | .unOp .. | .field .. | .index .. | .fieldAddr .. | .indexAddr .. | .slice .. | .extract .. | .makeFunc .. | .nilCheck _ | .build .. => true
  | _ => false

/-- What the operations say that leave the world alone. -/
def pureE (S : Sig) (E : Env) (op : Op) (w : World) (K : Value → Prop) : Prop :=
  match op with
  | .move x => with1 E x K
  | .assign x => with1 E x K
  | .pick c a b => with1 E c fun vc => with1 E a fun va => with1 E b fun vb => (match vc with
    | .bool t => K (match t with | true => va | false => vb)
    | _ => False)
  | .binOp op T x y _ => with1 E x fun vx => with1 E y fun vy => binE S.P op T x y vx vy K
  | .unOp op _ x => with1 E x fun v => (match op, v with
    | .not, .bool b => K (.bool (!b))
    | .neg, .int k n => Ar k (0 - n) K
    | op, v => PureRun S.P (Op.unary op v) K)
  | .convert s d x => with1 E x fun v => (match TT.get S.τ s, TT.get S.τ d, v with
    | some _, some { kind := .int k, .. }, .int _ n => Ar k n K
    | _, _, v => StableRun S.P w (convert s d v) K)
  | .field T x f => with1 E x fun v => fieldE (TT.get S.τ T) f fun off sz agg => (match v with
    | .agg cs => partE off sz agg cs.toList K
    | _ => False)
  | .index T x i => with1 E x fun vx => with1 E i fun vi => (match TT.get S.τ T, vx with
    | some { kind := .array n _ esz eagg, .. }, .agg cs => idx vi n fun j => partE (j * esz) esz eagg cs.toList K
    | some { kind := .string, .. }, .string s => idx vi s.size fun j => ∃ u, s.data.toList[j]? = some u ∧ K (.int .u8 u.toNat)
    | _, _ => False)
  | .fieldAddr T x f => with1 E x fun v => fieldE (TT.get S.τ T) f fun off sz _ => (match Nat.beq sz 0 with
    | true => False
    | false => (match v with
      | .pointer (some ⟨b, o, none⟩) => K (.pointer (some ⟨b, o + off, none⟩))
      | _ => False))
  | .indexAddr T x i => with1 E x fun vx => with1 E i fun vi => indexAddrE (TT.get S.τ T) vx vi K
  | .slice T x lo hi mx => with1 E x fun vx => withO E lo fun l => withO E hi fun h => (match mx with
    | none => sliceE (TT.get S.τ T) vx l h K
    | some _ => False)
  | .lookup T x i ok => with1 E x fun vx => with1 E i fun vi => StableRun S.P w (Instr.lookup T vx vi ok) K
  | .build T ps => withL E (ps.toList.map (·.2)) fun vs => buildE (TT.get S.τ T) ps.toList vs K
  | .extract t i => with1 E t fun v => (match v with
    | .tuple vs => (match vs.toList[i]? with
      | some u => K u
      | none => False)
    | _ => False)
  | .makeFunc fn first captured => withL E first.toList fun fs => withL E captured.toList fun cs => K (.func fn fs.toArray cs.toArray)
  | .nilCheck x => with1 E x fun v => (match v with
    | .pointer (some a) => K (.pointer (some a))
    | .func (.func f) a b => K (.func (.func f) a b)
    | _ => False)
  | .load T a => with1 E a fun v => (match v with
    | .pointer (some p) => (match TT.get S.τ T with
      | some { agg := true, size := sz, .. } => ∃ vs : List Value, vs.length = sz ∧ Cells w p vs ∧ (p.block < w.heap.size) ∧ K (.agg vs.toArray)
      | some { agg := false, .. } => ∃ u, w.cell? p = some u ∧ K u
      | none => False)
    | _ => False)
  | .call c => (match c.callee with
    | .builtin .len => (match c.args.toList, c.argTypes.toList with
      | [x], [T] => with1 E x fun v => (match TT.get S.τ T, v with
        | some { kind := .slice _ _, .. }, .slice _ n _ => K (.int .i64 n)
        | some { kind := .string, .. }, .string s => K (.int .i64 s.size)
        | some { kind := .array n _ _ _, .. }, _ => K (.int .i64 n)
        | _, _ => False)
      | _, _ => False)
    | _ => False)
  | _ => False

end Go.Vc
