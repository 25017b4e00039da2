/- The engine, part E: the operations that turn the world, and calls; sound. -/
import Derived.Test.YtkekidalckflhaaDoorVcD
import Derived.RangeFuncSeq
namespace Go.Vc
open Go.RowKit

/-- The depth that the fenced laws are told: any serves in the wide fence. -/
def NN : Nat := 1000

/-- A call that returns, or panics. -/
def CallR (P : Program) (g : Nat) (args : Array Value) (w : World) (K : Value → World → Prop) (KP : List PanicEntry → World → Prop) : Prop :=
  Calls P g args w fun e w' => match e with
    | .returned v => K v w'
    | .panicked ch => KP ch w'
    | .outgrown => False

theorem CallR.mk {P : Program} {g : Nat} {args : Array Value} {w : World} {K : Value → World → Prop} {KP : List PanicEntry → World → Prop} {R : Ending → World → Prop}
    (h : Calls P g args w R) (k : ∀ e w', R e w' → ∃ v, e = .returned v ∧ K v w') : CallR P g args w K KP :=
  h.mono fun e w' r => by obtain ⟨v, rfl, hk⟩ := k e w' r; exact hk

/-- A round of a range over a function. -/
def YieldR (P : Program) (l : Nat) (args : Array Value) (w : World) (K : Value → World → Prop) : Prop :=
  YieldAt (FR none) (NN - 1) P l args w fun e w' => match e with
    | .returned v => K v w'
    | _ => False

def calleeOk (S : Sig) (g : Nat) : Bool := Nat.ble S.lo g && Nat.blt g S.hi

def callE (S : Sig) (vf : Value) (vs : List Value) (w : World) (K : Value → World → Prop) (KP : List PanicEntry → World → Prop) : Prop :=
  match vf with
  | .func (.func g) first captured => (match calleeOk S g with
    | true => CallR S.P g (first.toList ++ vs ++ captured.toList).toArray w K KP
    | false => False)
  | .func (.yield l) first _ => YieldR S.P l (first.toList ++ vs).toArray w K
  | .func fn first captured => ∃ g args, (invoke (.fn fn captured) (first.toList ++ vs).toArray).run S.P w = .ok (.enter g args) w ∧ CallR S.P g args w K KP
  | _ => False

def builtinE (S : Sig) (b : Builtin) (argTypes : Array TypeId) (type : TypeId) (vs : List Value) (w : World) (K : Value → World → Prop) (KP : List PanicEntry → World → Prop) : Prop :=
  match b with
  | .append => SatR ((Builtin.append_ argTypes type vs.toArray).run S.P w) K
  | .copy => SatR ((Builtin.copy_ argTypes type vs.toArray).run S.P w) K
  | .cap => SatR ((Builtin.cap_ argTypes type vs.toArray).run S.P w) K
  | .len => SatR ((Builtin.len_ argTypes type vs.toArray).run S.P w) K
  | .min => SatR ((Builtin.min_ argTypes type vs.toArray).run S.P w) K
  | .max => SatR ((Builtin.max_ argTypes type vs.toArray).run S.P w) K
  | .delete => SatR ((Builtin.delete_ argTypes type vs.toArray).run S.P w) K
  | .clear => SatR ((Builtin.clear_ argTypes type vs.toArray).run S.P w) K
  | .panic => ∃ v w', (Instr.panic (vs.toArray.getD 0 .nilIface)).run S.P w = .halt (.panic v) w' ∧ KP [{ v, recovered := false }] w'
  | _ => False

def effE (S : Sig) (E : Env) (o : Oper) (w : World) (K : Value → World → Prop) (KP : List PanicEntry → World → Prop) : Prop :=
  match o.op with
  | .alloc T => (match TT.get S.τ T with
    | some { zero := some z, .. } => K (.pointer (some ⟨w.heap.size, 0, none⟩)) (w.alloc (.cells z.toArray T))
    | _ => False)
  | .box T x => with1 E x fun v => K (.pointer (some ⟨w.heap.size, 0, none⟩)) (w.alloc (.cells v.cells T))
  | .buildSlice T n ps => withL E (ps.toList.map (·.2)) fun vs => (match TT.get S.τ T with
    | some { kind := .slice e esz, .. } => (match TT.get S.τ e with
      | some { zero := some z, .. } => (n * esz ≤ 16777216 ∧ 0 < esz ∧ z.length = esz) ∧ ∃ cells : List Value,
          fillL (fun i => some (i * esz, esz)) (zrep z n) (zipN ps.toList vs) = some cells ∧
          K (.slice (some ⟨w.heap.size, 0, none⟩) n n) (w.alloc (.cells cells.toArray e))
      | _ => False)
    | _ => False)
  | .store T a x => with1 E a fun va => with1 E x fun vx => (match va with
    | .pointer (some p) => SatR ((storeVar T p vx).run S.P w) fun _ w' => K undef w'
    | _ => False)
  | .makeSlice T l c => with1 E l fun vl => with1 E c fun vc => SatR ((Instr.makeSlice T vl vc).run S.P w) K
  | .makeMap T r => withO E r fun vr => SatR ((Instr.makeMap T vr).run S.P w) K
  | .makeInterface T x => with1 E x fun v => SatR ((Instr.makeInterface T v).run S.P w) K
  | .mapUpdate T m k x => with1 E m fun vm => with1 E k fun vk => with1 E x fun vx => SatR ((Instr.mapUpdate T vm vk vx).run S.P w) fun _ w' => K undef w'
  | .insert T m k x => with1 E m fun vm => with1 E k fun vk => with1 E x fun vx => SatR ((Instr.mapUpdate T vm vk vx).run S.P w) fun _ w' => K undef w'
  | .mapEntry T m k => with1 E m fun vm => with1 E k fun vk => SatR ((Instr.mapEntry T vm vk).run S.P w) K
  | .entryStore T m s x => with1 E m fun vm => with1 E s fun vs => with1 E x fun vx => SatR ((Instr.entryStore T vm vs vx).run S.P w) fun _ w' => K undef w'
  | .range T x => with1 E x fun v => SatR ((Instr.range T v).run S.P w) K
  | .next it s => with1 E it fun v => SatR ((Instr.next v s o.type).run S.P w) K
  | .entry it => with1 E it fun v => SatR ((Instr.entry v).run S.P w) K
  | .typeAssert x T a ok => with1 E x fun v => SatR ((Instr.typeAssert v T a ok).run S.P w) K
  | .nilCheck x => with1 E x fun v => SatR ((execOp (fun _ => v) { o with op := .nilCheck (.tmp 0) }).run S.P w) fun nx w' => (match nx with
    | .value u => K u w'
    | _ => False)
  | .panic x => with1 E x fun v => ∃ u w', (Instr.panic v).run S.P w = .halt (.panic u) w' ∧ KP [{ v := u, recovered := false }] w'
  | .call c => withL E c.args.toList fun vs => (match c.callee with
    | .value f => with1 E f fun vf => callE S vf vs w K KP
    | .builtin b => builtinE S b c.argTypes o.type vs w K KP
    | .invoke r m => with1 E r fun vr => ∃ g args, (callMethod vr m vs.toArray).run S.P w = .ok (.enter g args) w ∧ CallR S.P g args w K KP)
  | _ => False

theorem callsIn_of {P : Program} {r : Option Nat} {n g : Nat} {args : Array Value} {w : World} {R : Ending → World → Prop} (h : Calls P g args w R) : CallsIn (FR r) n P g args w R := by
  have h1 : CallsIn Fence.wide n P g args w R := callsIn_wide.2 h
  exact ⟨trivial, fun cs _ => h1.2 cs (room_wide _)⟩

theorem SatR.elim {α : Type} {r : Result α} {K : α → World → Prop} (h : SatR r K) : ∃ v w', r = .ok v w' ∧ K v w' := h

section
variable {S : Sig} {E : Env} {o : Oper} {w : World} {K : Value → World → Prop} {KP : List PanicEntry → World → Prop} {a : Act} {n : Nat}
  {next : Act → World → Prop} {Q : Exit → Act → World → Prop}

/-- What a single operation must come to. -/
def UponE (S : Sig) (n : Nat) (o : Oper) (a : Act) (w : World) (next : Act → World → Prop) (Q : Exit → Act → World → Prop) : Prop :=
  match (execOp a.eval o).run S.P w with
  | .ok (.value v) w' => next (a.put o.dst v) w'
  | .ok .skip w' => next (a.put o.dst undef) w'
  | .ok (.enter f args) w' => CallsIn (FR S.r) (n - 1) S.P f args w' fun
      | .returned v, w'' => next (a.put o.dst v) w''
      | .panicked chain, w'' => Q (.panic chain) a w''
      | .outgrown, _ => False
  | .ok (.round l f tmps assign body) w' => RoundIn (FR S.r) (n - 1) S.P l f tmps assign body w' fun
      | .returned v, w'' => next (a.put o.dst v) w''
      | .panicked chain, w'' => Q (.panic chain) a w''
      | .outgrown, _ => False
  | .halt (.panic v) w' => Q (.panic [{ v, recovered := false }]) a w'
  | _ => False

theorem UponE.wpIn (hd : ∀ c, o.op ≠ .defer c) (h : UponE S n o a w next Q) : o.wpIn (FR S.r) n S.P a w next Q := by
  refine ⟨fun _ _ => trivial, ?_⟩
  rw [Oper.semAt_eq _ _ _ hd]
  unfold UponE at h
  split at h
  case h_1 hr => rw [hr]; exact h
  case h_2 hr => rw [hr]; exact h
  case h_3 hr =>
    rw [hr, Oper.uponIn_enter]
    exact ⟨fun h => by simp [FR] at h, h.mono fun e w'' he => by cases e <;> first | exact he | exact he.elim⟩
  case h_4 hr =>
    rw [hr, Oper.uponIn_round]
    exact ⟨fun h => by simp [FR] at h, h.mono fun e w'' he => by cases e <;> first | exact he | exact he.elim⟩
  case h_5 hr => rw [hr]; exact h
  case h_6 => exact h.elim

theorem wpIn_value {v : Value} {w' : World} (_hd : ∀ c, o.op ≠ .defer c) (hr : (execOp a.eval o).run S.P w = .ok (.value v) w') (hk : next (a.put o.dst v) w') :
    UponE S n o a w next Q := by unfold UponE; rw [hr]; exact hk

theorem wpIn_skip' {w' : World} (_hd : ∀ c, o.op ≠ .defer c) (hr : (execOp a.eval o).run S.P w = .ok .skip w') (hk : next (a.put o.dst undef) w') :
    UponE S n o a w next Q := by unfold UponE; rw [hr]; exact hk

theorem wpIn_panic {v : Value} {w' : World} (_hd : ∀ c, o.op ≠ .defer c) (hr : (execOp a.eval o).run S.P w = .halt (.panic v) w') (hk : Q (.panic [{ v, recovered := false }]) a w') :
    UponE S n o a w next Q := by unfold UponE; rw [hr]; exact hk

theorem wpIn_enter {g : Nat} {args : Array Value} {w' : World} (_hd : ∀ c, o.op ≠ .defer c) (hr : (execOp a.eval o).run S.P w = .ok (.enter g args) w') (hc : CallR S.P g args w' K KP)
    (hn : ∀ v w', K v w' → next (a.put o.dst v) w') (hp : ∀ ch w', KP ch w' → Q (.panic ch) a w') :
    UponE S n o a w next Q := by
  unfold UponE
  rw [hr]
  refine callsIn_of (hc.mono fun e w'' he => ?_)
  cases e with
  | returned v => exact hn _ _ he
  | panicked ch => exact hp _ _ he
  | outgrown => exact he.elim

theorem roundIn_any {P : Program} {r r' : Option Nat} {n n' l g : Nat} {tmps : Array Value} {assign body : Code} {w : World} {R : Ending → World → Prop} (h : RoundIn (FR r) n P l g tmps assign body w R) :
    RoundIn (FR r') n' P l g tmps assign body w R :=
  ⟨trivial, fun c cs _ => h.2 c cs (fun d hd => by simp [FR] at hd)⟩

theorem effE_sound (hS : SigOk S) (h : effE S E o w K KP) (ha : Agrees S a E)
    (hn : ∀ v w', K v w' → next (a.put o.dst v) w') (hp : ∀ ch w', KP ch w' → Q (.panic ch) a w') : UponE S n o a w next Q := by
  obtain ⟨dst, op, type, pos, after, guard⟩ := o
  have oe : ∀ {o : Option Operand} {f : Option Value → Prop}, withO E o f → ∃ ov, f ov ∧ o.map a.eval = ov := by
    intro o f h
    cases o with
    | none => exact ⟨none, h, rfl⟩
    | some x => obtain ⟨v, hv, hf⟩ := with1_elim h; exact ⟨some v, hf, by simp [ha.eval hv]⟩
  cases op <;> simp only [effE] at h
  case alloc T =>
    split at h
    · rename_i z ht
      obtain ⟨⟨inf, hi, _, _, hzz⟩, _⟩ := hS.ty _ _ ht
      obtain ⟨v, hz, hc⟩ := hzz z rfl
      refine wpIn_value (fun c => by simp) ?_ (hn _ _ h)
      have hzv : (zeroValue T).run S.P w = .ok v w := by simp [zeroValue, typeInfo, hi, hz]
      have e : v.cells = z.toArray := by rw [← hc]
      simp [execOp, Instr.alloc, hzv, newVar, newRow, newObj, Sem.run, e]
    · exact h.elim
  case box T x =>
    obtain ⟨v, hv, h'⟩ := with1_elim h
    refine wpIn_value (fun c => by simp) ?_ (hn _ _ h')
    simp [execOp, Instr.box, ha.eval hv, newVar, newRow, newObj, Sem.run]
  case buildSlice T k ps =>
    obtain ⟨vs, h', hvs⟩ := withL_elim (S := S) h
    have e : (ps.map fun (i, x) => (i, a.eval x)).toList = zipN ps.toList vs := by
      rw [← hvs a ha]
      simp only [Array.toList_map, List.map_map]
      generalize ps.toList = l
      induction l with
      | nil => rfl
      | cons p r ih => obtain ⟨i, x⟩ := p; simp only [List.map_cons, Function.comp_apply, zipN, ih]
    split at h'
    · rename_i e1 esz _ _ _ _ ht
      split at h'
      · rename_i z hte
        obtain ⟨_, d, hd, _, hk⟩ := hS.ty _ _ ht
        obtain ⟨rfl, he, hkn⟩ := hk
        obtain ⟨⟨inf, hi, _, _, hzz⟩, _⟩ := hS.ty _ _ hte
        obtain ⟨v, hz, hc⟩ := hzz z rfl
        obtain ⟨⟨hle, hpos, hlen⟩, cells, hf, hk⟩ := h'
        have hf := fillL_eq _ _ _ hf
        subst hlen
        rw [← zrep_eq z hpos k] at hf
        refine wpIn_value (fun c => by simp) ?_ (hn _ _ hk)
        have hzv : ∀ w, (zeroValue e1).run S.P w = .ok v w := by intro w; simp [zeroValue, typeInfo, hi, hz]
        have ec : v.cells = z.toArray := by rw [← hc]
        have hle' : ¬ (k * z.length > 2 ^ 24) := by omega
        simp only [execOp, Instr.buildSlice, Sem.run_bind, run_underlying hd, Result.andThen_ok, size_run hkn he w, hle', if_false]
        by_cases h0 : k * z.length = 0
        · rw [e]
          simp only [h0, if_true, Sem.run_bind, Sem.run_pure, Result.andThen_ok]
          rw [h0] at hf
          have e0 : (Array.map (fun x => (#[] : Array Value)[x % (#[] : Array Value).size]!) (Array.range 0)) = (Array.map (fun x => z.toArray[x % z.toArray.size]!) (Array.range 0)) := by simp
          rw [e0, hf]
          simp [newRow, newObj, Sem.run]
        · rw [e]
          simp only [h0, if_false, Sem.run_bind, hzv, Result.andThen_ok, Sem.run_pure, ec, hf]
          simp [newRow, newObj, Sem.run]
      · exact h'.elim
    · exact h'.elim
  case store T x y =>
    obtain ⟨va, hva, h'⟩ := with1_elim h
    obtain ⟨vx, hvx, h'⟩ := with1_elim h'
    split at h'
    · obtain ⟨_, w', hr, hk⟩ := SatR.elim h'
      refine wpIn_skip' (fun c => by simp) ?_ (hn _ _ hk)
      simp only [execOp, ha.eval hva, ha.eval hvx, Instr.storeAt, Instr.sureAddr, Sem.run_bind, Sem.run_pure, Result.andThen_ok, hr]
    · exact h'.elim
  case makeSlice T l c =>
    obtain ⟨vl, hl, h'⟩ := with1_elim h
    obtain ⟨vc, hc, h'⟩ := with1_elim h'
    obtain ⟨v, w', hr, hk⟩ := SatR.elim h'
    refine wpIn_value (fun c => by simp) ?_ (hn _ _ hk)
    simp only [execOp, ha.eval hl, ha.eval hc]; rw [Sem.run_bind, hr]; rfl
  case makeMap T r =>
    obtain ⟨vr, h', hvr⟩ := oe h
    obtain ⟨v, w', hr, hk⟩ := SatR.elim h'
    refine wpIn_value (fun c => by simp) ?_ (hn _ _ hk)
    simp only [execOp, hvr]; rw [Sem.run_bind, hr]; rfl
  case makeInterface T x =>
    obtain ⟨vx, hx, h'⟩ := with1_elim h
    obtain ⟨v, w', hr, hk⟩ := SatR.elim h'
    refine wpIn_value (fun c => by simp) ?_ (hn _ _ hk)
    simp only [execOp, ha.eval hx]; rw [Sem.run_bind, hr]; rfl
  case mapUpdate T m k x =>
    obtain ⟨vm, hm, h'⟩ := with1_elim h
    obtain ⟨vk, hk, h'⟩ := with1_elim h'
    obtain ⟨vx, hx, h'⟩ := with1_elim h'
    obtain ⟨v, w', hr, hkk⟩ := SatR.elim h'
    refine wpIn_skip' (fun c => by simp) ?_ (hn _ _ hkk)
    simp only [execOp, ha.eval hm, ha.eval hk, ha.eval hx]; rw [Sem.run_bind, hr]; rfl
  case insert T m k x =>
    obtain ⟨vm, hm, h'⟩ := with1_elim h
    obtain ⟨vk, hk, h'⟩ := with1_elim h'
    obtain ⟨vx, hx, h'⟩ := with1_elim h'
    obtain ⟨v, w', hr, hkk⟩ := SatR.elim h'
    refine wpIn_skip' (fun c => by simp) ?_ (hn _ _ hkk)
    simp only [execOp, ha.eval hm, ha.eval hk, ha.eval hx]; rw [Sem.run_bind, hr]; rfl
  case mapEntry T m k =>
    obtain ⟨vm, hm, h'⟩ := with1_elim h
    obtain ⟨vk, hk, h'⟩ := with1_elim h'
    obtain ⟨v, w', hr, hkk⟩ := SatR.elim h'
    refine wpIn_value (fun c => by simp) ?_ (hn _ _ hkk)
    simp only [execOp, ha.eval hm, ha.eval hk]; rw [Sem.run_bind, hr]; rfl
  case entryStore T m k x =>
    obtain ⟨vm, hm, h'⟩ := with1_elim h
    obtain ⟨vk, hk, h'⟩ := with1_elim h'
    obtain ⟨vx, hx, h'⟩ := with1_elim h'
    obtain ⟨v, w', hr, hkk⟩ := SatR.elim h'
    refine wpIn_skip' (fun c => by simp) ?_ (hn _ _ hkk)
    simp only [execOp, ha.eval hm, ha.eval hk, ha.eval hx]; rw [Sem.run_bind, hr]; rfl
  case range T x =>
    obtain ⟨vx, hx, h'⟩ := with1_elim h
    obtain ⟨v, w', hr, hk⟩ := SatR.elim h'
    refine wpIn_value (fun c => by simp) ?_ (hn _ _ hk)
    simp only [execOp, ha.eval hx]; rw [Sem.run_bind, hr]; rfl
  case next it s =>
    obtain ⟨vx, hx, h'⟩ := with1_elim h
    obtain ⟨v, w', hr, hk⟩ := SatR.elim h'
    refine wpIn_value (fun c => by simp) ?_ (hn _ _ hk)
    simp only [execOp, ha.eval hx]; rw [Sem.run_bind, hr]; rfl
  case entry it =>
    obtain ⟨vx, hx, h'⟩ := with1_elim h
    obtain ⟨v, w', hr, hk⟩ := SatR.elim h'
    refine wpIn_value (fun c => by simp) ?_ (hn _ _ hk)
    simp only [execOp, ha.eval hx]; rw [Sem.run_bind, hr]; rfl
  case typeAssert x T y ok =>
    obtain ⟨vx, hx, h'⟩ := with1_elim h
    obtain ⟨v, w', hr, hk⟩ := SatR.elim h'
    refine wpIn_value (fun c => by simp) ?_ (hn _ _ hk)
    simp only [execOp, ha.eval hx]; rw [Sem.run_bind, hr]; rfl
  case nilCheck x =>
    obtain ⟨vx, hx, h'⟩ := with1_elim h
    obtain ⟨nx, w', hr, hk⟩ := SatR.elim h'
    split at hk
    · refine wpIn_value (fun c => by simp) ?_ (hn _ _ hk)
      simp only [execOp, ha.eval hx]
      simpa only [execOp] using hr
    · exact hk.elim
  case panic x =>
    obtain ⟨vx, hx, u, w', hr, hk⟩ := with1_elim h
    refine wpIn_panic (fun c => by simp) ?_ (hp _ _ hk)
    simp only [execOp, ha.eval hx]; rw [Sem.run_bind, hr]; rfl
  case call c =>
    obtain ⟨callee, args, argTypes⟩ := c
    obtain ⟨vs, h', hvs⟩ := withL_elim (S := S) h
    have ev : args.map a.eval = vs.toArray := by rw [← hvs a ha, ← Array.toList_map]
    dsimp only at h'
    split at h'
    · rename_i f
      obtain ⟨vf, hf, h'⟩ := with1_elim h'
      unfold callE at h'
      split at h'
      · rename_i g first captured
        split at h'
        · rename_i hok
          simp only [calleeOk, Bool.and_eq_true, Nat.ble_eq, Nat.blt_eq] at hok
          refine wpIn_enter (fun c => by simp) ?_ h' hn hp
          have e2 : first ++ vs.toArray ++ captured = (first.toList ++ vs ++ captured.toList).toArray := by
            rw [← Array.toList_inj]; simp
          simp only [execOp, resolve, ev, ha.eval hf, Deferred.ofValue, Sem.run_bind, Sem.run_pure, Result.andThen_ok, invoke, e2]
          exact hS.call g hok.1 hok.2 _ _
        · exact h'.elim
      · rename_i l first captured
        obtain ⟨fn, tmps, assign, body, hy, hR⟩ := h'
        have e2 : first ++ vs.toArray = (first.toList ++ vs).toArray := by
          rw [← Array.toList_inj]; simp
        have hr : (execOp a.eval ⟨dst, .call ⟨.value f, args, argTypes⟩, type, pos, after, guard⟩).run S.P w = .ok (.round l fn tmps assign body) w := by
          simp only [execOp, resolve, ev, ha.eval hf, Deferred.ofValue, Sem.run_bind, Sem.run_pure, Result.andThen_ok, invoke, e2]
          exact hy
        unfold UponE
        rw [hr]
        refine roundIn_any (hR.mono fun e w'' he => ?_)
        cases e with
        | returned v => exact hn _ _ he
        | panicked ch => exact he.elim
        | outgrown => exact he.elim
      · rename_i fn first captured _ _
        obtain ⟨g, args', hi, hc⟩ := h'
        refine wpIn_enter (fun c => by simp) ?_ hc hn hp
        have e2 : first ++ vs.toArray = (first.toList ++ vs).toArray := by
          rw [← Array.toList_inj]; simp
        simp only [execOp, resolve, ev, ha.eval hf, Deferred.ofValue, Sem.run_bind, Sem.run_pure, Result.andThen_ok, e2]
        exact hi
      · exact h'.elim
    · rename_i b
      unfold builtinE at h'
      split at h'
      case h_9 =>
        obtain ⟨u, w', hr, hk⟩ := h'
        refine wpIn_panic (fun c => by simp) ?_ (hp _ _ hk)
        simp only [execOp, resolve, ev, invoke, builtin, Sem.run_bind, Sem.run_pure, Result.andThen_ok, hr, Result.andThen_halt]
      case h_10 => exact h'.elim
      all_goals
        obtain ⟨v, w', hr, hk⟩ := SatR.elim h'
        refine wpIn_value (fun c => by simp) ?_ (hn _ _ hk)
        simp only [execOp, resolve, ev, invoke, builtin, Sem.run_bind, Sem.run_pure, Result.andThen_ok, hr]
    · rename_i r m
      obtain ⟨vr, hvr, g, args', hi, hc⟩ := with1_elim h'
      refine wpIn_enter (fun c => by simp) ?_ hc hn hp
      have hx : (#[vr] ++ vs.toArray).extract 1 (#[vr] ++ vs.toArray).size = vs.toArray := by
        rw [← Array.toList_inj]; simp
      have h0 : (#[vr] ++ vs.toArray)[0]? = some vr := by simp
      simp only [execOp, resolve, ev, ha.eval hvr, Sem.run_bind, Sem.run_pure, Result.andThen_ok, invoke, h0, hx]
      exact hi
end
end Go.Vc
