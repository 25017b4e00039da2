/- The engine, part G: regions over environments; the control; a function's contract from its body. -/
import Derived.Test.YtkekidalckflhaaDoorVcF
import Derived.Deep.LoopGhost
namespace Go.Vc
open Go.RowKit

def isGuard (all : List Oper) (i : Nat) : Bool := all.any fun o => match o.guard with | some (j, _) => Nat.beq j i | none => false
/-- The result of a guard is made a constant. -/
def splB (g : Bool) (v : Value) (K : Value → Prop) : Prop :=
  match g with
  | true => (match v with
    | .bool b => Br b (K (.bool true)) (K (.bool false))
    | v => K v)
  | false => K v

def nthOp : List Oper → Nat → Option Oper
  | [], _ => none
  | o :: _, 0 => some o
  | _ :: r, i + 1 => nthOp r i

/-- none: nothing is known. -/
def gval (all : List Oper) (E : Env) (j : Nat) : Option (Option Bool) :=
  match nthOp all j with
  | some o => (match o.dst with
    | some d => (match Env.find E d with
      | some (.bool b) => some (some b)
      | some (.tuple _) => some none
      | _ => none)
    | none => none)
  | none => none

def guardOf (all : List Oper) (i : Nat) (op : Op) : Bool := match op with | .move _ => isGuard all i | _ => false

def execE (S : Sig) (all : List Oper) (dr : Bool) (i : Nat) (o : Oper) (E : Env) (w : World) (K : Env → World → Prop) (KP : Env → List PanicEntry → World → Prop) : Prop :=
  match isPure S.τ o.op with
  | true => pureE S E o.op w fun v => splB (guardOf all i o.op) v fun v => K (setE o.dst v E) w
  | false => (match dr with
    | false => effE S E o w (fun v w' => K (setE o.dst v E) w') (KP E)
    | true => effE S E o w (fun v w' => Below w.heap.size w w' ∧ K (setE o.dst v E) w') (fun _ _ => False))

def stepE (S : Sig) (all : List Oper) (dr : Bool) (i : Nat) (o : Oper) (E : Env) (w : World) (K : Env → World → Prop) (KP : Env → List PanicEntry → World → Prop) : Prop :=
  match okDst S.n o.dst with
  | false => False
  | true => (match o.guard with
    | none => execE S all dr i o E w K KP
    | some (j, want) => (match gval all E j with
      | some (some b) => (match b, want with
        | true, true => execE S all dr i o E w K KP
        | false, false => execE S all dr i o E w K KP
        | true, false => K (setE o.dst undef E) w
        | false, true => K (setE o.dst undef E) w)
      | some none => K (setE o.dst undef E) w
      | none => False))

def opsE (S : Sig) (all : List Oper) : Nat → List Oper → Env → World → (Env → World → Prop) → (Env → List PanicEntry → World → Prop) → Prop
  | _, [], E, w, K, _ => K E w
  | i, o :: r, E, w, K, KP => stepE S all false i o E w (fun E' w' => opsE S all (i + 1) r E' w' K KP) KP

def opsO (S : Sig) (all : List Oper) (X : List Nat) : List Nat → Env → World → (Env → World → Prop) → Prop
  | [], E, w, K => K E w
  | i :: r, E, w, K => (match nthOp all i with
    | some o => stepE S all (!memN i X) i o E w (fun E' w' => opsO S all X r E' w' K) (fun _ _ _ => False)
    | none => False)

def opsT (S : Sig) (all : List Oper) (X : List Nat) : OT → Env → World → (Env → World → Prop) → Prop
  | .nil, E, w, K => K E w
  | .op i t, E, w, K => (match nthOp all i with
    | some o => stepE S all (!memN i X) i o E w (fun E' w' => opsT S all X t E' w' K) (fun _ _ _ => False)
    | none => False)
  | .alt x y, E, w, K => opsT S all X x E w K ∧ opsT S all X y E w K

def indepB (τ : TT) (X : List Nat) (ops : Array Oper) (k i : Nat) : Bool :=
  match ops[k]?, ops[i]? with
  | some ok, some oi => ok.apart ops oi && isPure τ ok.op && noSel ok.op && noSel oi.op && (isPure τ oi.op || !memN i X || isN ok.op)
  | _, _ => false
def pairsB (τ : TT) (X : List Nat) (ops : Array Oper) : List Nat → Bool
  | [] => true
  | k :: r => r.all (fun i => waits ops ops.size k i || indepB τ X ops k i) && !r.contains k && pairsB τ X ops r
def ordB (τ : TT) (X : List Nat) (ops : Array Oper) (L : List Nat) : Bool :=
  Nat.beq L.length ops.size && pairsB τ X ops L && L.all (fun i => Nat.blt i ops.size) && (List.range ops.size).all (fun i => L.contains i) &&
  (List.range ops.size).all (fun i => match ops[i]? with
    | some o => o.after.all fun e => !Region.binds .any e || [e.on, i].isSublist L
    | none => true) && ops.all (fun o => noSel o.op)

theorem indepB_spec {S : Sig} {X : List Nat} {ops : Array Oper} {k i : Nat} (hd : indepB S.τ X ops k i = true) : Indep S X ops k i := by
  refine ⟨fun ok oi hk ho => ?_⟩
  simp only [indepB, hk, ho, Bool.and_eq_true, Bool.or_eq_true, Bool.not_eq_true'] at hd
  exact ⟨hd.1.1.1.1, hd.1.1.1.2, hd.1.1.2, hd.1.2, by rcases hd.2 with (h | h) | h; exact .inl h; exact .inr (.inl h); exact .inr (.inr h)⟩

theorem pairsB_spec {S : Sig} {X : List Nat} {ops : Array Oper} : ∀ {L : List Nat}, pairsB S.τ X ops L = true → L.Nodup ∧ ∀ k i, [k, i].Sublist L → (∃ f, waits ops f k i = true) ∨ Indep S X ops k i
  | [], _ => ⟨List.nodup_nil, fun _ _ h => by cases h⟩
  | x :: r, h => by
    simp only [pairsB, Bool.and_eq_true, List.all_eq_true, Bool.or_eq_true, Bool.not_eq_true', List.contains_eq_mem, decide_eq_false_iff_not] at h
    obtain ⟨⟨h1, h2⟩, h3⟩ := h
    obtain ⟨hn, hp⟩ := pairsB_spec h3
    refine ⟨List.nodup_cons.2 ⟨h2, hn⟩, fun k i hs => ?_⟩
    cases hs with
    | cons _ hs => exact hp k i hs
    | cons_cons _ hs =>
      have hi : i ∈ r := List.singleton_sublist.1 hs
      rcases h1 i hi with hw | hd
      · exact .inl ⟨_, hw⟩
      · exact .inr (indepB_spec hd)

theorem ordB_spec {S : Sig} {X : List Nat} {ops : Array Oper} {L : List Nat} (h : ordB S.τ X ops L = true) : L.length = ops.size ∧ OrdOk S X ops L ∧ ∀ o, o ∈ ops → noSel o.op = true := by
  simp only [ordB, Bool.and_eq_true, List.all_eq_true, Nat.blt_eq, List.mem_range, List.contains_eq_mem, decide_eq_true_eq] at h
  obtain ⟨⟨⟨⟨⟨h0, h1⟩, h2⟩, h3⟩, h4⟩, h5⟩ := h
  obtain ⟨hn, hp⟩ := pairsB_spec h1
  refine ⟨Nat.eq_of_beq_eq_true h0, ⟨hn, fun i => ⟨h2 i, h3 i⟩, hp, fun i o e ho he hb => ?_⟩, fun o ho => ?_⟩
  · have hi : i < ops.size := (Array.getElem?_eq_some_iff.1 ho).1
    have := h4 i hi
    simp only [ho, Array.all_eq_true_iff_forall_mem] at this
    have := this e he
    simp only [hb, Bool.not_true, Bool.false_or] at this
    exact List.isSublist_iff_sublist.1 this
  · simp only [Array.all_eq_true_iff_forall_mem] at h5
    exact h5 o ho

theorem nthOp_eq : ∀ (l : List Oper) (i : Nat), nthOp l i = l[i]?
  | [], i => by simp [nthOp]
  | _ :: _, 0 => rfl
  | _ :: r, i + 1 => by simp only [nthOp, List.getElem?_cons_succ]; exact nthOp_eq r i

section
variable {S : Sig} {n : Nat} {ops : Array Oper} {E : Env} {a : Act} {w : World}

theorem gval_spec (ha : Agrees S a E) {j : Nat} {r : Option Bool} (h : gval ops.toList E j = some r) : yielded ops a.tmps j = r := by
  unfold gval at h
  rw [nthOp_eq] at h
  split at h
  · rename_i o ho
    split at h
    · rename_i d hd
      have ho' : ops[j]? = some o := by simpa using ho
      split at h
      · rename_i b hf
        cases h
        have := ha.val d _ hf
        simp [yielded, ho', hd, this]
      · rename_i t hf
        cases h
        have := ha.val d _ hf
        simp [yielded, ho', hd, this]
      · cases h
    · cases h
  · cases h

theorem splB_elim {g : Bool} {v : Value} {K : Value → Prop} (h : splB g v K) : K v := by
  unfold splB at h
  split at h
  · split at h
    · rename_i b
      cases b
      · exact h.2 rfl
      · exact h.1 rfl
    · exact h
  · exact h

/-- In order. -/
theorem stepE_seq (hS : SigOk S) {i : Nat} {o : Oper} (ho : ops[i]? = some o) (hs : noSel o.op = true) {K : Env → World → Prop} {KP : Env → List PanicEntry → World → Prop}
    {next : Act → World → Prop} {Q : Exit → Act → World → Prop} (h : stepE S ops.toList false i o E w K KP) (ha : Agrees S a E)
    (hn : ∀ E' a' w', Agrees S a' E' → K E' w' → next a' w') (hp : ∀ ch w', KP E ch w' → Q (.panic ch) a w') :
    wpOpIn (FR S.r) n S.P ops Q i next a w := by
  unfold stepE at h
  split at h
  · exact h.elim
  · rename_i hd
    have ex : execE S ops.toList false i o E w K KP → o.wpIn (FR S.r) n S.P a w next Q := fun h => by
      unfold execE at h
      split at h
      · obtain ⟨v, hk, hr⟩ := pureE_sound hS h
        exact (wpIn_value (S := S) (n := n) (noSel_defer hs) (hr a ha w (.inr (Below.refl _ _))) (hn _ _ _ (ha.put hd v) (splB_elim hk))).wpIn (noSel_defer hs)
      · exact (effE_sound hS h ha (fun v w' hk => hn _ _ _ (ha.put hd v) hk) hp).wpIn (noSel_defer hs)
    have sk : K (setE o.dst undef E) w → (∀ f, o.about S.P w a.eval = some f → (FR S.r).fn f) ∧ next (a.put o.dst undef) w := fun h => ⟨fun _ _ => trivial, hn _ _ _ (ha.put hd undef) h⟩
    unfold wpOpIn
    simp only [ho]
    split at h
    · rename_i hg
      have : Region.wanted o (yielded ops a.tmps) = true := by simp [Region.wanted, hg]
      rw [if_pos this]; exact ex h
    · rename_i j want hg
      split at h
      · rename_i b hgv
        have hy := gval_spec ha hgv
        have hw : Region.wanted o (yielded ops a.tmps) = (b == want) := by simp [Region.wanted, hg, hy]
        rw [hw]
        cases b <;> cases want <;> simp only [] at h <;> first | exact ex h | exact sk h
      · rename_i hgv
        have hy := gval_spec ha hgv
        have hw : Region.wanted o (yielded ops a.tmps) = false := by simp [Region.wanted, hg, hy]
        rw [hw]
        exact sk h
      · exact h.elim

/-- In a region that draws. -/
theorem stepE_drawn (hS : SigOk S) {X : List Nat} {i : Nat} {o : Oper} (ho : ops[i]? = some o) (_hs : noSel o.op = true) {K : Env → World → Prop}
    {next : Act → World → Prop} (h : stepE S ops.toList (!memN i X) i o E w K (fun _ _ _ => False)) (ha : Agrees S a E)
    (hn : ∀ E' a' w', Agrees S a' E' → K E' w' → next a' w') :
    stepW S X n ops i next a w := by
  unfold stepE at h
  split at h
  · exact h.elim
  · rename_i hd
    have ex : execE S ops.toList (!memN i X) i o E w K (fun _ _ _ => False) → (if isPure S.τ o.op = true then ∃ v, PV S.P o a w v ∧ next (a.put o.dst v) w
       else UponE S n o a w (fun a' w' => (memN i X = false → Below w.heap.size w w') ∧ next a' w') (fun _ _ _ => False)) := fun h => by
      unfold execE at h
      split at h
      · rename_i hp
        rw [if_pos hp]
        obtain ⟨v, hk, hr⟩ := pureE_sound hS h
        exact ⟨v, fun w2 hb => hr a ha w2 hb, hn _ _ _ (ha.put hd v) (splB_elim hk)⟩
      · rename_i hp
        rw [if_neg (by simp [hp])]
        split at h
        · rename_i hm
          have hm' : memN i X = true := by simpa using hm
          exact effE_sound hS h ha (fun v w' hk => ⟨fun hf => (by rw [hm'] at hf; cases hf), hn _ _ _ (ha.put hd v) hk⟩) (fun _ _ h => h.elim)
        · exact effE_sound hS h ha (fun v w' hk => ⟨fun _ => hk.1, hn _ _ _ (ha.put hd v) hk.2⟩) (fun _ _ h => h.elim)
    have sk : K (setE o.dst undef E) w → next (a.put o.dst undef) w := fun h => hn _ _ _ (ha.put hd undef) h
    unfold stepW
    simp only [ho]
    split at h
    · rename_i hg
      have : Region.wanted o (yielded ops a.tmps) = true := by simp [Region.wanted, hg]
      rw [if_pos this]; exact ex h
    · rename_i j want hg
      split at h
      · rename_i b hgv
        have hy := gval_spec ha hgv
        have hw : Region.wanted o (yielded ops a.tmps) = (b == want) := by simp [Region.wanted, hg, hy]
        rw [hw]
        cases b <;> cases want <;> simp only [] at h <;> first | exact ex h | exact sk h
      · rename_i hgv
        have hy := gval_spec ha hgv
        have hw : Region.wanted o (yielded ops a.tmps) = false := by simp [Region.wanted, hg, hy]
        rw [hw]
        exact sk h
      · exact h.elim
end

section
variable {S : Sig} {n : Nat}

def lift (S : Sig) (Q : Exit → Env → World → Prop) : Exit → Act → World → Prop := fun ex a w => ∃ E, Agrees S a E ∧ Q ex E w

theorem opsE_sound (hS : SigOk S) {ops : Array Oper} (hsel : ∀ o ∈ ops, noSel o.op = true) {Q : Exit → Env → World → Prop} :
    ∀ (r : List Oper) (i : Nat) (E : Env) (a : Act) (w : World), (∀ k o, r[k]? = some o → ops[i + k]? = some o) → Agrees S a E →
      opsE S ops.toList i r E w (fun E w => Q .normal E w) (fun E ch w => Q (.panic ch) E w) →
      wpOpsIn (FR S.r) n S.P ops (lift S Q) (List.range' i r.length) a w
  | [], i, E, a, w, _, ha, h => by simp only [List.length_nil, List.range'_zero, wpOpsIn]; exact ⟨E, ha, h⟩
  | o :: r, i, E, a, w, hr, ha, h => by
    rw [List.length_cons, List.range'_succ, wpOpsIn_cons]
    have ho : ops[i]? = some o := by simpa using hr 0 o rfl
    refine stepE_seq hS ho (hsel o (Array.mem_of_getElem? ho)) h ha (fun E' a' w' ha' hk => ?_) (fun ch w' hk => ⟨E, ha, hk⟩)
    exact opsE_sound hS hsel r (i + 1) E' a' w' (fun k o' hk => by have := hr (k + 1) o' (by simpa using hk); rwa [Nat.add_assoc, Nat.add_comm 1 k]) ha' hk

theorem opsO_sound (hS : SigOk S) {X : List Nat} {ops : Array Oper} (hsel : ∀ o ∈ ops, noSel o.op = true) {K : Env → World → Prop} :
    ∀ (L : List Nat) (E : Env) (a : Act) (w : World), Agrees S a E → opsO S ops.toList X L E w K →
      listW S X n ops (fun a w => ∃ E, Agrees S a E ∧ K E w) L a w
  | [], E, _, _, ha, h => ⟨E, ha, h⟩
  | i :: r, E, a, w, ha, h => by
    simp only [opsO, nthOp_eq] at h
    split at h
    · rename_i o ho
      have ho' : ops[i]? = some o := by simpa using ho
      exact stepE_drawn hS ho' (hsel o (Array.mem_of_getElem? ho')) h ha (fun E' a' w' ha' hk => opsO_sound hS hsel r E' a' w' ha' hk)
    · exact h.elim

theorem opsT_sound (hS : SigOk S) {X : List Nat} {ops : Array Oper} (hsel : ∀ o ∈ ops, noSel o.op = true) {K : Env → World → Prop} :
    ∀ (T : OT) (E : Env) (a : Act) (w : World), Agrees S a E → opsT S ops.toList X T E w K →
      treeW S X n ops (fun a w => ∃ E, Agrees S a E ∧ K E w) T a w
  | .nil, E, _, _, ha, h => ⟨E, ha, h⟩
  | .op i t, E, a, w, ha, h => by
    simp only [opsT, nthOp_eq] at h
    split at h
    · rename_i o ho
      have ho' : ops[i]? = some o := by simpa using ho
      exact stepE_drawn hS ho' (hsel o (Array.mem_of_getElem? ho')) h ha (fun E' a' w' ha' hk => opsT_sound hS hsel t E' a' w' ha' hk)
    · exact h.elim
  | .alt x y, E, a, w, ha, h => ⟨opsT_sound hS hsel x E a w ha h.1, opsT_sound hS hsel y E a w ha h.2⟩

/-- What is owed at a region that draws: one order, X being ordered with all else; or a tree of orders. -/
def DrawE (S : Sig) (ops : Array Oper) (E : Env) (w : World) (K : Env → World → Prop) : Prop :=
  (∃ X L : List Nat, ordB S.τ X ops L = true ∧ opsO S ops.toList X L E w.drew K) ∨
  (∃ (X : List Nat) (T : OT), (covT (indepB S.τ X ops) ops ops.size (Array.replicate ops.size false) T && ops.all (fun o => noSel o.op)) = true ∧ opsT S ops.toList X T E w.drew K)

theorem DrawE.ord {S : Sig} {ops : Array Oper} {E : Env} {w : World} {K : Env → World → Prop} (X L : List Nat) (h : ordB S.τ X ops L = true) (k : opsO S ops.toList X L E w.drew K) : DrawE S ops E w K :=
  .inl ⟨X, L, h, k⟩

def allSel (ops : List Oper) : Bool := ops.all fun o => noSel o.op

/-- A loop: its state, as data. -/
def LoopE (body : Env → World → (Exit → Env → World → Prop) → Prop) (E : Env) (w : World) (Q : Exit → Env → World → Prop) : Prop :=
  ∃ (σ : Type) (env : σ → Env) (inv : σ → World → Prop) (μ : σ → Nat) (s0 : σ), Cov E (env s0) ∧ inv s0 w ∧
    ∀ s w, inv s w → body (env s) w fun ex E' w' => match ex with
      | .normal => ∃ s', Cov E' (env s') ∧ inv s' w' ∧ μ s' < μ s
      | ex => Q ex E' w'

/-- What is owed at a range over a function: the law is taken at the frame's own level. -/
def RangeE (S : Sig) (f : Operand) (params : Array Tmp) (assign body : Code) (E : Env) (w : World) (Q : Exit → Env → World → Prop) : Prop :=
  ∀ a, Agrees S a E → (Code.rangeFunc f params assign body).wpIn (FR S.r) NN S.P (lift S Q) a w

/-- **The engine**: what the code owes. -/
def wpE (S : Sig) : Code → Env → World → (Exit → Env → World → Prop) → Prop
  | .skip, E, w, Q => Q .normal E w
  | .region _ ops draw, E, w, Q => (match draw with
    | false => (match allSel ops.toList with
      | true => opsE S ops.toList 0 ops.toList E w (fun E w => Q .normal E w) (fun E ch w => Q (.panic ch) E w)
      | false => False)
    | true => DrawE S ops E w (fun E w => Q .normal E w))
  | .seq x y, E, w, Q => wpE S x E w fun ex E' w' => match ex with
    | .normal => wpE S y E' w' Q
    | ex => Q ex E' w'
  | .cond c x y, E, w, Q => (match opd E c with
    | some (.bool b) => Br b (wpE S x E w Q) (wpE S y E w Q)
    | _ => False)
  | .block id x, E, w, Q => wpE S x E w fun ex E' w' => match ex with
    | .exit id' => (match Nat.beq id' id with
      | true => Q .normal E' w'
      | false => Q (.exit id') E' w')
    | ex => Q ex E' w'
  | .loop x, E, w, Q => LoopE (fun E w Q => wpE S x E w Q) E w Q
  | .rangeFunc f ps as x, E, w, Q => RangeE S f ps as x E w Q
  | .exit id, E, w, Q => Q (.exit id) E w
  | .scope _, _, _, _ => False
  | .label _, E, w, Q => Q .normal E w
  | .goto l, E, w, Q => Q (.goto l) E w
  | .ret, E, w, Q => Q .ret E w
  | .refuse _, _, _, _ => False


theorem wpE_sound (hS : SigOk S) : ∀ (c : Code) (E : Env) (a : Act) (w : World) (Q : Exit → Env → World → Prop), Agrees S a E → wpE S c E w Q → c.wpIn (FR S.r) NN S.P (lift S Q) a w
  | .skip, E, a, w, Q, ha, h => wpIn_skip ⟨E, ha, h⟩
  | .region id ops draw, E, a, w, Q, ha, h => by
    cases draw with
    | false =>
      simp only [wpE] at h
      split at h
      · rename_i hs
        refine wpIn_region ?_
        rw [List.range_eq_range']
        have hs' : ∀ o ∈ ops, noSel o.op = true := fun o ho => by
          simp only [allSel, List.all_eq_true] at hs
          exact hs o (Array.mem_toList_iff.2 ho)
        have := opsE_sound (n := NN) hS hs' ops.toList 0 E a w (fun k o hk => by simpa using hk) ha h
        simpa using this
      · exact h.elim
    | true =>
      simp only [wpE] at h
      refine wpIn_region_any hS.mixed ?_
      rcases h with ⟨X, L, hL, h⟩ | ⟨X, T, hT, h⟩
      · obtain ⟨hlen, hO, hs⟩ := ordB_spec hL
        have h1 := opsO_sound (n := NN) hS hs L E a w.drew ha h
        refine any_of_list (Q := lift S Q) hs hO ops.size L (Array.replicate ops.size false) a w.drew hlen (List.Sublist.refl _) (by simp) (fun i => ?_) (fun j o hj => ?_) h1
        · rw [hO.mem i]
          refine ⟨fun hi => ⟨hi, by simp [hi]⟩, fun hi => hi.1⟩
        · exfalso
          by_cases hjs : j < ops.size <;> simp [hjs] at hj
      · simp only [Bool.and_eq_true, Array.all_eq_true_iff_forall_mem] at hT
        exact any_of_tree (Q := lift S Q) hT.2 (fun k i h => indepB_spec h) ops.size _ T a w.drew hT.1 (opsT_sound (n := NN) hS hT.2 T E a w.drew ha h)
  | .seq x y, E, a, w, Q, ha, h => by
    refine wpIn_seq ?_
    refine wpIn_mono (wpE_sound hS x E a w _ ha h) ?_
    rintro ex a' w' ⟨E', ha', hq⟩
    cases ex with
    | normal => exact wpE_sound hS y E' a' w' Q ha' hq
    | _ => exact ⟨E', ha', hq⟩
  | .cond c x y, E, a, w, Q, ha, h => by
    simp only [wpE] at h
    split at h
    · rename_i b hb
      refine wpIn_cond_split (ha.eval hb) (fun e => wpE_sound hS x E a w Q ha (h.1 e)) (fun e => wpE_sound hS y E a w Q ha (h.2 e))
    · exact h.elim
  | .block id x, E, a, w, Q, ha, h => by
    refine wpIn_block ?_
    refine wpIn_mono (wpE_sound hS x E a w _ ha h) ?_
    rintro ex a' w' ⟨E', ha', hq⟩
    cases ex with
    | exit id' =>
      simp only [Exit.inBlock]
      dsimp only at hq
      split at hq
      · rename_i hb; rw [if_pos (Nat.eq_of_beq_eq_true hb)]; exact ⟨E', ha', hq⟩
      · rename_i hb; rw [if_neg (Nat.ne_of_beq_eq_false hb)]; exact ⟨E', ha', hq⟩
    | _ => exact ⟨E', ha', hq⟩
  | .loop x, E, a, w, Q, ha, h => by
    obtain ⟨σ, env, inv, μ, s0, hc, hi, hb⟩ := h
    have key : ∀ m s a w, μ s = m → Agrees S a (env s) → inv s w → (Code.loop x).wpIn (FR S.r) NN S.P (lift S Q) a w := by
      intro m s a w hm ha hi
      refine wpIn_loop (fun a w => ∃ s, Agrees S a (env s) ∧ inv s w) (fun a w => leastOf (fun k => ∃ s, Agrees S a (env s) ∧ inv s w ∧ μ s = k)) ⟨s, ha, hi⟩ ?_
      intro a w ⟨s1, ha1, hi1⟩
      obtain ⟨⟨s2, ha2, hi2, hm2⟩, _⟩ := leastOf_spec (p := fun k => ∃ s, Agrees S a (env s) ∧ inv s w ∧ μ s = k) ⟨_, s1, ha1, hi1, rfl⟩
      refine wpIn_mono (wpE_sound hS x (env s2) a w _ ha2 (hb s2 w hi2)) ?_
      rintro ex a' w' ⟨E', ha', hq⟩
      cases ex with
      | normal =>
        obtain ⟨s', hc', hi', hlt⟩ := hq
        refine ⟨⟨s', ha'.cov hc', hi'⟩, ?_⟩
        have := (leastOf_spec (p := fun k => ∃ s, Agrees S a' (env s) ∧ inv s w' ∧ μ s = k) ⟨_, s', ha'.cov hc', hi', rfl⟩).2
        rw [← hm2]
        exact Nat.lt_of_le_of_lt (this _ ⟨s', ha'.cov hc', hi', rfl⟩) hlt
      | _ => exact ⟨E', ha', hq⟩
    exact key _ s0 a w rfl (ha.cov hc) hi
  | .rangeFunc f ps as x, E, a, w, Q, ha, h => h a ha
  | .exit id, E, a, w, Q, ha, h => wpIn_exit ⟨E, ha, h⟩
  | .scope _, _, _, _, _, _, h => h.elim
  | .label _, E, a, w, Q, ha, h => wpIn_label ⟨E, ha, h⟩
  | .goto l, E, a, w, Q, ha, h => wpIn_goto ⟨E, ha, h⟩
  | .ret, E, a, w, Q, ha, h => wpIn_ret ⟨E, ha, h⟩
  | .refuse _, _, _, _, _, _, h => h.elim

/-! ### A function -/
def resE (E : Env) (w : World) : (τ : TT) → List ResultVar → (List Value → Prop) → Prop
  | _, [], K => K []
  | τ, .tmp t :: r, K => with1 E (.tmp t) fun v => resE E w τ r fun vs => K (v :: vs)
  | τ, .cell t T :: r, K => with1 E (.tmp t) fun va => (match va with
    | .pointer (some p) => (match TT.get τ T with
      | some { agg := true, size := sz, .. } => ∃ us : List Value, us.length = sz ∧ Cells w p us ∧ resE E w τ r fun vs => K (.agg us.toArray :: vs)
      | some { agg := false, .. } => ∃ u, w.cell? p = some u ∧ resE E w τ r fun vs => K (u :: vs)
      | none => False)
    | _ => False)

def oneOf : List Value → Value
  | [v] => v
  | l => .tuple l.toArray

theorem resE_run {S : Sig} (hS : SigOk S) {E : Env} {a : Act} {w : World} (ha : Agrees S a E) : ∀ (l : List ResultVar) (K : List Value → Prop), resE E w S.τ l K →
    ∃ vs, K vs ∧ (l.mapM fun | .tmp t => pure (a.tmps.getD t undef) | .cell q t => do loadVar t (← asAddr (a.tmps.getD q undef)) : Sem (List Value)).run S.P w = .ok vs w
  | [], K, h => ⟨[], h, rfl⟩
  | .tmp t :: r, K, h => by
    obtain ⟨v, hv, h⟩ := with1_elim h
    obtain ⟨vs, hk, hr⟩ := resE_run hS ha r _ h
    have : a.tmps.getD t undef = v := ha.eval hv
    refine ⟨_, hk, ?_⟩
    simp only [List.mapM_cons, Sem.run_bind, Sem.run_pure, Result.andThen_ok, this]
    rw [hr]
    rfl
  | .cell q T :: r, K, h => by
    simp only [resE] at h
    replace h := with1_elim h
    obtain ⟨va, hv, h⟩ := h
    have e0 : a.tmps.getD q undef = va := ha.eval hv
    split at h
    · rename_i p
      split at h
      · rename_i sz _ _ ht
        obtain ⟨us, hl, hc, h⟩ := h
        obtain ⟨vs, hk, hr⟩ := resE_run hS ha r _ h
        refine ⟨_, hk, ?_⟩
        have e : asAddr (a.tmps.getD q undef) = pure p := by rw [e0]; rfl
        simp only [List.mapM_cons, Sem.run_bind, Sem.run_pure, Result.andThen_ok, e, loadVar_agg (hS.ty _ _ ht) rfl hl hc]
        rw [hr]
        rfl
      · rename_i _ _ _ _ ht
        obtain ⟨u, hc, h⟩ := h
        obtain ⟨vs, hk, hr⟩ := resE_run hS ha r _ h
        refine ⟨_, hk, ?_⟩
        have e : asAddr (a.tmps.getD q undef) = pure p := by rw [e0]; rfl
        simp only [List.mapM_cons, Sem.run_bind, Sem.run_pure, Result.andThen_ok, e, loadVar_one (hS.ty _ _ ht) rfl hc]
        rw [hr]
        rfl
      · exact h.elim
    · exact h.elim

theorem results_run {S : Sig} (hS : SigOk S) {E : Env} {a : Act} {w : World} (ha : Agrees S a E) {fn : Func} {K : Value → Prop} (h : resE E w S.τ fn.results.toList fun vs => K (oneOf vs)) :
    ∃ v, K v ∧ (results fn a.tmps).run S.P w = .ok v w := by
  obtain ⟨vs, hk, hr⟩ := resE_run hS ha _ _ h
  refine ⟨_, hk, ?_⟩
  unfold results
  rw [Sem.run_bind, Array.mapM_eq_mapM_toList, Sem.run_map]
  refine Eq.trans (congrArg (fun x => Result.andThen (Result.andThen x _) _) hr) ?_
  simp only [Result.andThen_ok, Sem.run_pure]
  congr 1
  match vs with
  | [] => simp [oneOf]
  | [v] => simp [oneOf]
  | v :: u :: r => simp [oneOf]

/-- On the way out: the marks of the ranges over functions. -/
def leaveE : List Deferred → World → (World → Prop) → Prop
  | [], w, K => K w
  | d :: r, w, K => ∃ b, d.target = .collected b ∧ w.heap[b]? = some (.deferred (some [])) ∧ leaveE r (w.putObj b (.deferred none)) K

def postE (S : Sig) (fn : Func) (R : Ending → World → Prop) : Exit → Env → World → Prop
  | .normal, E, w => leaveE E.ds w fun w' => resE E w' S.τ fn.results.toList fun vs => R (.returned (oneOf vs)) w'
  | .ret, E, w => leaveE E.ds w fun w' => resE E w' S.τ fn.results.toList fun vs => R (.returned (oneOf vs)) w'
  | .panic ch, E, w => E.ds = [] ∧ R (.panicked ch) w
  | _, _, _ => False

theorem leaveE_sound {S : Sig} (hS : SigOk S) {fn : Func} {R : Ending → World → Prop} {a : Act} {E : Env} (ha : Agrees S a E) : ∀ (ds : List Deferred) (w : World),
    (leaveE ds w fun w' => resE E w' S.τ fn.results.toList fun vs => R (.returned (oneOf vs)) w') → LeavesInM (FR none) NN S.P fn a.tmps R ds .returning w
  | [], w, h => by
    obtain ⟨v, hk, hr⟩ := results_run hS ha (K := fun v => R (.returned v) w) h
    exact ⟨v, hr, hk⟩
  | d :: r, w, ⟨b, hd, hb, h⟩ => ⟨by simp, .inl ⟨b, _, hd, run_takeDeferred hb, leaveE_sound hS ha r _ h⟩⟩

def argsE : Nat → List Value → VEnv
  | _, [] => []
  | i, v :: r => (i, v) :: argsE (i + 1) r

theorem argsE_find : ∀ (l : List Value) (i t : Nat) (v : Value), VEnv.find (argsE i l) t = some v → i ≤ t ∧ l[t - i]? = some v
  | [], _, _, _, h => by simp [argsE, VEnv.find] at h
  | u :: r, i, t, v, h => by
    simp only [argsE, VEnv.find] at h
    cases hb : Nat.beq i t with
    | true =>
      rw [hb] at h
      have e : i = t := Nat.eq_of_beq_eq_true hb
      subst e
      simp only [Option.some.injEq] at h
      subst h
      simp
    | false =>
      rw [hb] at h
      obtain ⟨h1, h2⟩ := argsE_find r (i + 1) t v h
      refine ⟨by omega, ?_⟩
      have : t - i = (t - (i + 1)) + 1 := by omega
      rw [this]
      simpa using h2

/-- **A function's contract from its body.** -/
theorem calls_of_E {S : Sig} (hS : SigOk S) {f : FuncId} {fn : Func} {c : Code} {args : List Value} {w : World} {R : Ending → World → Prop}
    (hf : S.P.funcs[f]? = some fn) (hb : fn.body = some c) (hn : fn.ntmps = S.n) (hle : args.length ≤ S.n) (hr : S.r = none)
    (h : wpE S c ⟨argsE 0 args, []⟩ w (postE S fn R)) : Calls S.P f args.toArray w R := by
  rw [← callsIn_wide (n := NN)]
  have hF : FR none = Fence.wide := rfl
  rw [← hF]
  refine callsIn_of_wp_marks hf hb trivial ?_
  have ha : Agrees S { tmps := args.toArray ++ Array.replicate (fn.ntmps - args.toArray.size) undef, defers := [] } ⟨argsE 0 args, []⟩ := by
    refine ⟨?_, rfl, fun t v hv => ?_⟩
    · simp [hn]; omega
    · obtain ⟨_, h2⟩ := argsE_find _ _ _ _ hv
      simp only [Nat.sub_zero] at h2
      have hlt : t < args.length := (List.getElem?_eq_some_iff.1 h2).1
      simp only [Array.getElem?_append, List.size_toArray, hlt, if_true]
      simpa using h2
  have h1 := wpE_sound hS c _ _ w _ ha h
  rw [hr] at h1
  refine wpIn_mono h1 ?_
  rintro ex a' w' ⟨E', ha', hq⟩
  cases ex with
  | normal => have := leaveE_sound hS ha' _ _ hq; rw [← ha'.defers] at this; exact this
  | ret => have := leaveE_sound hS ha' _ _ hq; rw [← ha'.defers] at this; exact this
  | panic ch =>
    obtain ⟨hd, hR⟩ := hq
    show LeavesInM _ _ _ _ _ _ a'.defers _ _
    rw [ha'.defers, hd]
    exact hR
  | exit _ => exact hq.elim
  | goto _ => exact hq.elim
  | outgrown => exact hq.elim

end
end Go.Vc
