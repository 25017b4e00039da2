/- The engine, part A: environments, the tables of types, the rules of the operations. -/
import Derived.CallsIn
import Derived.OrdersIn
import Derived.Below
import Derived.RangeFuncLeaves
import Derived.Laws.StructEq
import Derived.Laws.Rows
namespace Go.Vc
open Go.RowKit

/-- The fence in which all is walked: wide, with or without a round. -/
def FR (r : Option Nat) : Fence := { fn := fun _ => True, depth := none, alive := false, round := r }

abbrev VEnv := List (Nat × Value)
def VEnv.find : VEnv → Nat → Option Value
  | [], _ => none
  | (k, v) :: r, t => match Nat.beq k t with
    | true => some v
    | false => VEnv.find r t
/-- What is known of a frame: slots; the deferred calls. -/
structure Env where
  vs : VEnv
  ds : List Deferred := []
def Env.find (E : Env) (t : Nat) : Option Value := VEnv.find E.vs t

inductive TK where
  | other | bool | string | int (k : IntKind) | slice (e esz : Nat) | array (n e esz : Nat) (eagg : Bool) | struct (fs : List (Nat × Nat × Bool)) | map (k v : Nat) | ptr (e : Nat)

structure TI where
  kind : TK
  size : Nat
  agg : Bool
  bytes : Nat
  zero : Option (List Value)

abbrev TT := List (Nat × TI)
def TT.get : TT → Nat → Option TI
  | [], _ => none
  | (k, v) :: r, t => match Nat.beq k t with
    | true => some v
    | false => TT.get r t

def aggOf (d : TypeDesc) : Bool := match d with | .struct _ | .array _ _ => true | _ => false

def Known (P : Program) (t : Nat) : Prop := (∃ i, P.info? t = some i) ∧ ∃ d, P.underlying t = some d
/-- What the table's row for a type says of the program. -/
structure TIok (P : Program) (t : Nat) (i : TI) : Prop where
  info : ∃ inf, P.info? t = some inf ∧ inf.size = i.size ∧ inf.bytes = i.bytes ∧ ∀ z, i.zero = some z → ∃ v, inf.zero = some v ∧ v.cells.toList = z
  desc : ∃ d, P.underlying t = some d ∧ aggOf d = i.agg ∧
    match i.kind with
    | .other => True
    | .bool => d = .bool
    | .string => d = .string
    | .int k => d = .int k
    | .slice e esz => d = .slice e ∧ P.cellsOf e = esz ∧ Known P e
    | .array n e esz eagg => d = .array n e ∧ P.cellsOf e = esz ∧ ((P.underlying e).map aggOf).getD false = eagg ∧ Known P e
    | .struct fs => ∃ F : Array Field, d = .struct F ∧ fs = F.toList.map (fun f => (f.offset, P.cellsOf f.type, ((P.underlying f.type).map aggOf).getD false)) ∧ ∀ f ∈ F.toList, Known P f.type
    | .map k v => d = .map k v
    | .ptr e => d = .pointer e

structure Sig where
  P : Program
  τ : TT
  n : Nat
  lo : Nat
  hi : Nat
  r : Option Nat := none
structure SigOk (S : Sig) : Prop where
  ty : ∀ t i, TT.get S.τ t = some i → TIok S.P t i
  call : ∀ g, S.lo ≤ g → g < S.hi → ∀ args w, (callFunc g args).run S.P w = .ok (.enter g args) w
  mixed : S.P.follows .mixedOrders = true

/-- The frame holds what the environment says. -/
structure Agrees (S : Sig) (a : Act) (E : Env) : Prop where
  size : a.tmps.size = S.n
  defers : a.defers = E.ds
  val : ∀ t v, Env.find E t = some v → a.tmps[t]? = some v

def opd (E : Env) : Operand → Option Value
  | .tmp t => Env.find E t
  | .const v => some v
  | .global g => some (.pointer (some ⟨g, 0, none⟩))
  | .func f => some (.func (.func f) #[] #[])

theorem Agrees.eval {S : Sig} {a : Act} {E : Env} (h : Agrees S a E) {x : Operand} {v : Value} (hx : opd E x = some v) : a.eval x = v := by
  cases x with
  | tmp t =>
    have := h.val t v hx
    simp [Act.eval, this]
  | const u => simpa [opd, Act.eval] using hx
  | global g => simpa [opd, Act.eval] using hx
  | func f => simpa [opd, Act.eval] using hx

inductive CovL (E : VEnv) : VEnv → Prop
  | nil : CovL E []
  | cons {t : Nat} {v : Value} {r : VEnv} (h : VEnv.find E t = some v) (k : CovL E r) : CovL E ((t, v) :: r)
structure Cov (E E0 : Env) : Prop where
  c : CovL E.vs E0.vs
  d : E.ds = E0.ds

theorem CovL.find {E E0 : VEnv} (h : CovL E E0) : ∀ t v, VEnv.find E0 t = some v → VEnv.find E t = some v := by
  induction h with
  | nil => intro t v h; simp [VEnv.find] at h
  | @cons t u r h _ ih =>
    intro t' v hf
    simp only [VEnv.find] at hf
    cases hb : Nat.beq t t' with
    | true =>
      rw [hb] at hf
      have : t = t' := Nat.eq_of_beq_eq_true hb
      subst this
      simp only [Option.some.injEq] at hf
      subst hf
      exact h
    | false => rw [hb] at hf; exact ih t' v hf

theorem Agrees.cov {S : Sig} {a : Act} {E E0 : Env} (h : Agrees S a E) (c : Cov E E0) : Agrees S a E0 :=
  ⟨h.size, h.defers.trans c.d, fun t v hf => h.val t v (c.c.find t v hf)⟩

def setE (dst : Option Nat) (v : Value) (E : Env) : Env := match dst with | some d => ⟨(d, v) :: E.vs, E.ds⟩ | none => E
/-- The slot that is written lies in the frame. -/
def okDst (n : Nat) : Option Nat → Bool
  | none => true
  | some d => Nat.blt d n

theorem Agrees.put {S : Sig} {a : Act} {E : Env} (h : Agrees S a E) {dst : Option Nat} (hd : okDst S.n dst = true) (v : Value) : Agrees S (a.put dst v) (setE dst v E) := by
  cases dst with
  | none => exact h
  | some d =>
    have hd' : d < S.n := by simpa [okDst, Nat.blt_eq] using hd
    refine ⟨by simp [Act.put, h.size], h.defers, fun t u hf => ?_⟩
    simp only [setE, Env.find, VEnv.find] at hf
    cases hb : Nat.beq d t with
    | true =>
      rw [hb] at hf
      have e : d = t := Nat.eq_of_beq_eq_true hb
      subst e
      simp only [Option.some.injEq] at hf
      subst hf
      simp [Act.put, h.size, hd']
    | false =>
      rw [hb] at hf
      have e : d ≠ t := fun e => by subst e; simp at hb
      have := h.val t u hf
      simp [Act.put, e, this]

/-! ### The words of the obligations -/
def Ar (k : IntKind) (e : Int) (K : Value → Prop) : Prop := ∃ r, k.wrap e = r ∧ K (.int k r)
def Cells (w : World) (p : Addr) (vs : List Value) : Prop := ∀ i v, vs[i]? = some v → w.cell? (p.add i) = some v
def SatR {α : Type} (r : Result α) (K : α → World → Prop) : Prop := ∃ v w', r = .ok v w' ∧ K v w'
theorem SatR.mk {α : Type} {r : Result α} {K : α → World → Prop} {v : α} {w' : World} (h : r = .ok v w') (k : K v w') : SatR r K := ⟨v, w', h, k⟩
def Br (b : Bool) (A B : Prop) : Prop := (b = true → A) ∧ (b = false → B)

/-! ### The table is checked by the kernel -/
def kindB (P : Program) (d : TypeDesc) : TK → Bool
  | .other => true
  | .bool => (match d with | .bool => true | _ => false)
  | .string => (match d with | .string => true | _ => false)
  | .int k => (match d with | .int k' => decide (k' = k) | _ => false)
  | .slice e esz => (match d with | .slice e' => Nat.beq e' e && Nat.beq (P.cellsOf e) esz && (P.info? e).isSome && (P.underlying e).isSome | _ => false)
  | .array n e esz eagg => (match d with | .array n' e' => Nat.beq n' n && Nat.beq e' e && Nat.beq (P.cellsOf e) esz && (((P.underlying e).map aggOf).getD false == eagg) && (P.info? e).isSome && (P.underlying e).isSome | _ => false)
  | .struct fs => (match d with
    | .struct F => decide (fs = F.toList.map (fun f => (f.offset, P.cellsOf f.type, ((P.underlying f.type).map aggOf).getD false))) && F.toList.all fun f => (P.info? f.type).isSome && (P.underlying f.type).isSome
    | _ => false)
  | .map k v => (match d with | .map k' v' => Nat.beq k' k && Nat.beq v' v | _ => false)
  | .ptr e => (match d with | .pointer e' => Nat.beq e' e | _ => false)

def descB (P : Program) (t : Nat) (i : TI) : Bool :=
  match P.underlying t with
  | some d => (aggOf d == i.agg) && kindB P d i.kind
  | none => false

theorem known_of {P : Program} {t : Nat} (h1 : (P.info? t).isSome = true) (h2 : (P.underlying t).isSome = true) : Known P t :=
  ⟨Option.isSome_iff_exists.1 h1, Option.isSome_iff_exists.1 h2⟩

theorem tiOk {P : Program} {t : Nat} {i : TI} (h1 : (P.info? t).map (fun x => (x.size, x.bytes)) = some (i.size, i.bytes))
    (h2 : ∀ z, i.zero = some z → ((P.info? t).bind (fun x => x.zero)).map (fun v => v.cells.toList) = some z) (h3 : descB P t i = true) : TIok P t i := by
  obtain ⟨inf, hi, he⟩ := Option.map_eq_some_iff.1 h1
  simp only [Prod.mk.injEq] at he
  refine ⟨⟨inf, hi, he.1, he.2, fun z hz => ?_⟩, ?_⟩
  · have := h2 z hz
    rw [hi] at this
    obtain ⟨v, hv, hc⟩ := Option.map_eq_some_iff.1 this
    exact ⟨v, hv, hc⟩
  · unfold descB at h3
    split at h3
    · rename_i d hd
      simp only [Bool.and_eq_true, beq_iff_eq] at h3
      refine ⟨d, hd, h3.1, ?_⟩
      have h4 := h3.2
      generalize i.kind = k at h4
      cases k <;> simp only [kindB] at h4
      case other => trivial
      case bool => split at h4 <;> simp_all
      case string => split at h4 <;> simp_all
      case int k => split at h4 <;> simp_all
      case slice e esz =>
        split at h4
        · simp only [Bool.and_eq_true] at h4
          obtain ⟨⟨⟨a, b⟩, c⟩, e⟩ := h4
          exact ⟨by rw [Nat.eq_of_beq_eq_true a], Nat.eq_of_beq_eq_true b, known_of c e⟩
        · cases h4
      case array n e esz eagg =>
        split at h4
        · simp only [Bool.and_eq_true, beq_iff_eq] at h4
          obtain ⟨⟨⟨⟨⟨a, b⟩, c⟩, e⟩, f⟩, g⟩ := h4
          have a' := Nat.eq_of_beq_eq_true a
          have b' := Nat.eq_of_beq_eq_true b
          subst a' b'
          exact ⟨rfl, Nat.eq_of_beq_eq_true c, e, known_of f g⟩
        · cases h4
      case struct fs =>
        split at h4
        · rename_i F
          simp only [Bool.and_eq_true, decide_eq_true_eq, List.all_eq_true] at h4
          exact ⟨F, rfl, h4.1, fun f hf => known_of (h4.2 f hf).1 (h4.2 f hf).2⟩
        · cases h4
      case map k v =>
        split at h4
        · simp only [Bool.and_eq_true] at h4
          rw [Nat.eq_of_beq_eq_true h4.1, Nat.eq_of_beq_eq_true h4.2]
        · cases h4
      case ptr e =>
        split at h4
        · rw [Nat.eq_of_beq_eq_true h4]
        · cases h4
    · cases h3

/-- Every row of a table holds. -/
inductive TTok (P : Program) : TT → Prop
  | nil : TTok P []
  | cons {t : Nat} {i : TI} {r : TT} (h : TIok P t i) (k : TTok P r) : TTok P ((t, i) :: r)

theorem TTok.get {P : Program} : ∀ {τ : TT}, TTok P τ → ∀ t i, TT.get τ t = some i → TIok P t i
  | [], _, t, i, h => by simp [TT.get] at h
  | (u, j) :: r, .cons hj hr, t, i, h => by
    simp only [TT.get] at h
    cases hb : Nat.beq u t with
    | true =>
      rw [hb] at h
      simp only [Option.some.injEq] at h
      have e := Nat.eq_of_beq_eq_true hb
      subst e h
      exact hj
    | false => rw [hb] at h; exact hr.get t i h

/-- Functions lo .. hi-1 have bodies, and are entered. -/
def callB (P : Program) (lo hi : Nat) : Bool :=
  (List.range (hi - lo)).all fun k => match P.funcs[lo + k]? with
    | some fn => fn.name != "runtime.NumGoroutine" && fn.body.isSome
    | none => false

theorem callOk {P : Program} {lo hi : Nat} (h : callB P lo hi = true) : ∀ g, lo ≤ g → g < hi → ∀ args w, (callFunc g args).run P w = .ok (.enter g args) w := by
  intro g h1 h2 args w
  simp only [callB, List.all_eq_true, List.mem_range] at h
  have h3 := h (g - lo) (by omega)
  rw [show lo + (g - lo) = g by omega] at h3
  split at h3
  · rename_i fn hf
    simp only [Bool.and_eq_true, bne_iff_ne, ne_eq] at h3
    simp [callFunc, hf, h3.1, Option.isSome_iff_ne_none.1 h3.2]
  · cases h3

end Go.Vc
