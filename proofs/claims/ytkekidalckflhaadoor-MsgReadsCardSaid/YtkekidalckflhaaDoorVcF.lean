/- The engine, part F: the drawn regions: whatever order the tape picks, one order serves. -/
import Derived.Test.YtkekidalckflhaaDoorVcE
namespace Go.Vc
open Go.RowKit

/-- The operations that leave the world alone. -/
def isPure (τ : TT) (op : Op) : Bool :=
  match op with
  | .move _ | .assign _ | .pick .. | .binOp .. | .unOp .. | .convert .. | .field .. | .index .. | .fieldAddr .. | .indexAddr .. | .slice .. | .extract .. | .makeFunc .. | .nilCheck _ | .load .. | .lookup .. | .build .. => true
  | .call c => (match c.callee with
    | .builtin .len => (match c.argTypes.toList with
      | [T] => (match TT.get τ T with
        | some { kind := .map _ _, .. } => false
        | _ => true)
      | _ => true)
    | _ => false)
  | _ => false

/-- Is i among the listed? -/
def memN (i : Nat) : List Nat → Bool
  | [] => false
  | k :: r => match Nat.beq k i with
    | true => true
    | false => memN i r

def noSel (op : Op) : Bool := match op with | .select .. | .defer .. | .go .. => false | _ => true

def PV (P : Program) (o : Oper) (a : Act) (w : World) (v : Value) : Prop := ∀ w2, (isN o.op = true ∨ Below w.heap.size w w2) → (execOp a.eval o).run P w2 = .ok (.value v) w2

/-- Operation i comes up: if it leaves the world alone it yields its value now and in every world that keeps this one's blocks; else it keeps what lies. -/
def stepW (S : Sig) (X : List Nat) (n : Nat) (ops : Array Oper) (i : Nat) (K : Act → World → Prop) (a : Act) (w : World) : Prop :=
  match ops[i]? with
  | none => K a w
  | some o => if Region.wanted o (yielded ops a.tmps) then
      (if isPure S.τ o.op then ∃ v, PV S.P o a w v ∧ K (a.put o.dst v) w
       else UponE S n o a w (fun a' w' => (memN i X = false → Below w.heap.size w w') ∧ K a' w') (fun _ _ _ => False))
    else K (a.put o.dst undef) w

def listW (S : Sig) (X : List Nat) (n : Nat) (ops : Array Oper) (K : Act → World → Prop) : List Nat → Act → World → Prop
  | [], a, w => K a w
  | i :: r, a, w => stepW S X n ops i (listW S X n ops K r) a w

section
variable {S : Sig} {X : List Nat} {n : Nat} {ops : Array Oper}

theorem uponE_mono {o : Oper} {a a' : Act} {w : World} {next next' : Act → World → Prop} (he : execOp a'.eval o = execOp a.eval o)
    (hn : ∀ u w', next (a'.put o.dst u) w' → next' (a.put o.dst u) w') (h : UponE S n o a' w next (fun _ _ _ => False)) : UponE S n o a w next' (fun _ _ _ => False) := by
  unfold UponE at *
  rw [he] at h
  split at h
  · exact hn _ _ h
  · exact hn _ _ h
  · exact CallsIn.mono h fun e w'' he => by cases e <;> first | exact hn _ _ he | exact he
  · exact RoundIn.mono h fun e w'' he => by cases e <;> first | exact hn _ _ he | exact he
  · exact h
  · exact h

theorem stepW_mono {i : Nat} {K K' : Act → World → Prop} {a : Act} {w : World} (h : ∀ a w, K a w → K' a w) (hh : stepW S X n ops i K a w) : stepW S X n ops i K' a w := by
  unfold stepW at *
  split
  · rename_i ho; simp only [ho] at hh; exact h _ _ hh
  · rename_i o ho
    simp only [ho] at hh
    split
    · rename_i hw
      simp only [hw, if_true] at hh
      split
      · rename_i hp; simp only [hp, if_true] at hh; obtain ⟨v, h1, h2⟩ := hh; exact ⟨v, h1, h _ _ h2⟩
      · rename_i hp; simp only [hp, Bool.false_eq_true, if_false] at hh; exact uponE_mono rfl (fun u w' hk => ⟨hk.1, h _ _ hk.2⟩) hh
    · rename_i hw; simp only [hw] at hh; exact h _ _ hh

/-- k and i may change places. -/
structure Indep (S : Sig) (X : List Nat) (ops : Array Oper) (k i : Nat) : Prop where
  h : ∀ ok oi, ops[k]? = some ok → ops[i]? = some oi → ok.apart ops oi = true ∧ isPure S.τ ok.op = true ∧ noSel ok.op = true ∧ noSel oi.op = true ∧ (isPure S.τ oi.op = true ∨ memN i X = false ∨ isN ok.op = true)

theorem noSel_sel {op : Op} (h : noSel op = true) : ∀ cs b, op ≠ .select cs b := fun cs b e => by subst e; simp [noSel] at h
theorem noSel_defer {op : Op} (h : noSel op = true) : ∀ c, op ≠ .defer c := fun c e => by subst e; simp [noSel] at h

theorem PV.below {P : Program} {o : Oper} {a : Act} {w w' : World} {v : Value} (h : PV P o a w v) (hb : isN o.op = true ∨ Below w.heap.size w w') : PV P o a w' v :=
  fun w2 h2 => h w2 (by rcases hb with hb | hb
                        · exact .inl hb
                        · exact h2.imp id (fun h2 => hb.trans (h2.mono hb.size)))

theorem stepW_swap {k i : Nat} (hk : Indep S X ops k i) {K : Act → World → Prop} {a : Act} {w : World} (h : stepW S X n ops k (stepW S X n ops i K) a w) : stepW S X n ops i (stepW S X n ops k K) a w := by
  cases hok : ops[k]? with
  | none =>
    have e : ∀ K', stepW S X n ops k K' = K' := fun K' => by funext a w; simp [stepW, hok]
    rw [e] at h ⊢; exact h
  | some ok =>
    cases hoi : ops[i]? with
    | none =>
      have e : ∀ K', stepW S X n ops i K' = K' := fun K' => by funext a w; simp [stepW, hoi]
      rw [e] at h; rw [e]; exact h
    | some oi =>
      obtain ⟨hap, hp, hsk, hsi, hx⟩ := hk.h ok oi hok hoi
      obtain ⟨h1, h2, h3⟩ := Oper.apart_spec hap
      -- what k does: it puts one value, whatever world that keeps this one's blocks
      have core : ∀ v, ((Region.wanted ok (yielded ops a.tmps) = true ∧ PV S.P ok a w v) ∨ (Region.wanted ok (yielded ops a.tmps) = false ∧ v = undef)) →
          stepW S X n ops i K (a.put ok.dst v) w → stepW S X n ops i (stepW S X n ops k K) a w := by
        intro v hv h
        have after : ∀ u w', (isN ok.op = true ∨ Below w.heap.size w w') → K ((a.put ok.dst v).put oi.dst u) w' → stepW S X n ops k K (a.put oi.dst u) w' := by
          intro u w' hb hK
          unfold stepW
          simp only [hok, hp, if_true]
          rw [wanted_put ok a oi.dst u h3]
          rw [Act.put_comm a v u h2] at hK
          rcases hv with ⟨hw, hpv⟩ | ⟨hw, rfl⟩
          · simp only [hw, if_true]
            refine ⟨v, fun w2 h2 => ?_, hK⟩
            rw [execOp_put ok (noSel_sel hsk) a oi.dst u h3]
            exact (hpv.below hb) w2 h2
          · simp only [hw]; exact hK
        unfold stepW at h ⊢
        simp only [hoi] at h ⊢
        rw [wanted_put oi a ok.dst v h1] at h
        split
        · rename_i hwi
          simp only [hwi, if_true] at h
          split
          · rename_i hpi
            simp only [hpi, if_true] at h
            obtain ⟨u, hu, hK⟩ := h
            refine ⟨u, fun w2 hb => ?_, after u w (.inr (Below.refl _ _)) hK⟩
            have := hu w2 hb
            rwa [execOp_put oi (noSel_sel hsi) a ok.dst v h1] at this
          · rename_i hpi
            simp only [hpi, Bool.false_eq_true, if_false] at h
            exact uponE_mono (execOp_put oi (noSel_sel hsi) a ok.dst v h1) (fun u w' hh => ⟨hh.1, after u w' ((hx.resolve_left hpi).elim (fun hm => .inr (hh.1 hm)) .inl) hh.2⟩) h
        · rename_i hwi
          simp only [hwi] at h
          exact after undef w (.inr (Below.refl _ _)) h
      have h' := h
      unfold stepW at h
      simp only [hok, hp, if_true] at h
      cases hw : Region.wanted ok (yielded ops a.tmps) with
      | true =>
        simp only [hw, if_true] at h
        obtain ⟨v, hv, hK⟩ := h
        exact core v (.inl ⟨hw, hv⟩) hK
      | false =>
        simp only [hw] at h
        exact core undef (.inr ⟨hw, rfl⟩) h

theorem listW_mono {K K' : Act → World → Prop} (h : ∀ a w, K a w → K' a w) : ∀ (L : List Nat) (a : Act) (w : World), listW S X n ops K L a w → listW S X n ops K' L a w
  | [], a, w, hh => h a w hh
  | _ :: r, _, _, hh => stepW_mono (fun a w => listW_mono h r a w) hh

/-- An operation may be taken first if all that come ahead of it may change places with it. -/
theorem listW_first {K : Act → World → Prop} {i : Nat} : ∀ (L : List Nat), L.Nodup → i ∈ L → (∀ k, [k, i].Sublist L → Indep S X ops k i) → ∀ (a : Act) (w : World), listW S X n ops K L a w →
    stepW S X n ops i (listW S X n ops K (L.filter (· ≠ i))) a w
  | [], _, hi, _, _, _, _ => by simp at hi
  | k :: r, hn, hi, hind, a, w, h => by
    obtain ⟨hkr, hr⟩ := List.nodup_cons.1 hn
    by_cases hki : k = i
    · subst hki
      have e : (k :: r).filter (· ≠ k) = r := by
        rw [List.filter_cons]
        simp only [ne_eq, not_true_eq_false, decide_false, Bool.false_eq_true, if_false]
        exact List.filter_eq_self.2 fun x hx => by simp; rintro rfl; exact hkr hx
      rw [e]
      exact h
    · have hir : i ∈ r := by
        cases hi with
        | head => exact absurd rfl hki
        | tail _ h => exact h
      have e : (k :: r).filter (· ≠ i) = k :: r.filter (· ≠ i) := by
        rw [List.filter_cons]; simp [hki]
      rw [e]
      have hik : Indep S X ops k i := hind k (List.Sublist.cons_cons k (List.singleton_sublist.2 hir))
      have h2 : stepW S X n ops k (stepW S X n ops i (listW S X n ops K (r.filter (· ≠ i)))) a w :=
        stepW_mono (fun a w hh => listW_first r hr hir (fun k' hs => hind k' (hs.cons k)) a w hh) h
      exact stepW_swap hik h2

/-- i waits for k, straight or by way of others. -/
def waits (ops : Array Oper) : Nat → Nat → Nat → Bool
  | 0, _, _ => false
  | f + 1, k, i => match ops[i]? with
    | some o => o.after.toList.any fun e => Region.binds .any e && (Nat.beq e.on k || (Nat.blt k e.on && waits ops f k e.on))
    | none => false

theorem waits_listed {L : Array Bool} (hc : ∀ j o, L.getD j false = true → ops[j]? = some o → ∀ e ∈ o.after, Region.binds .any e = true → L.getD e.on false = true) :
    ∀ (f k i : Nat) (o : Oper), ops[i]? = some o → (∀ e ∈ o.after, Region.binds .any e = true → L.getD e.on false = true) → waits ops f k i = true → L.getD k false = true
  | 0, _, _, _, _, _, h => by simp [waits] at h
  | f + 1, k, i, o, ho, hl, h => by
    simp only [waits, ho, List.any_eq_true, Bool.and_eq_true, Bool.or_eq_true, Array.mem_toList_iff] at h
    obtain ⟨e, he, hb, h⟩ := h
    rcases h with h | ⟨_, h⟩
    · have := Nat.eq_of_beq_eq_true h
      subst this
      exact hl e he hb
    · cases hj : ops[e.on]? with
      | none => cases f <;> simp [waits, hj] at h
      | some oj => exact waits_listed hc f k e.on oj hj (fun e' he' hb' => hc e.on oj (hl e he hb) hj e' he' hb') h

/-- What is asked of an order. -/
structure OrdOk (S : Sig) (X : List Nat) (ops : Array Oper) (L : List Nat) : Prop where
  nodup : L.Nodup
  mem : ∀ i, i ∈ L ↔ i < ops.size
  pair : ∀ k i, [k, i].Sublist L → (∃ f, waits ops f k i = true) ∨ Indep S X ops k i
  topo : ∀ i o e, ops[i]? = some o → e ∈ o.after → Region.binds .any e = true → [e.on, i].Sublist L

theorem sub_filter {i : Nat} {k j : Nat} {L : List Nat} (h : [k, j].Sublist L) (h1 : k ≠ i) (h2 : j ≠ i) : [k, j].Sublist (L.filter (· ≠ i)) := by
  have := h.filter (fun x => decide (x ≠ i))
  simpa [List.filter_cons, h1, h2] using this

theorem no_cycle {x y : Nat} (hne : x ≠ y) : ∀ {L : List Nat}, L.Nodup → [x, y].Sublist L → [y, x].Sublist L → False
  | [], _, h, _ => by cases h
  | z :: r, hn, h, h' => by
    obtain ⟨hz, hr⟩ := List.nodup_cons.1 hn
    cases h with
    | cons _ h =>
      cases h' with
      | cons _ h' => exact no_cycle hne hr h h'
      | cons_cons _ h' => exact hz (h.subset (by simp))
    | cons_cons _ h =>
      cases h' with
      | cons _ h' => exact hz (h'.subset (by simp))
      | cons_cons _ h' => exact hne rfl

theorem wpOp_of_stepW {Q : Exit → Act → World → Prop} {i : Nat} {o : Oper} {K K' : Act → World → Prop} {a : Act} {w : World} (hsel : noSel o.op = true) (ho : ops[i]? = some o)
    (hnext : ∀ a w, K a w → K' a w) (h2 : stepW S X n ops i K a w) : wpOpIn (FR S.r) n S.P ops Q i K' a w := by
  unfold wpOpIn
  unfold stepW at h2
  simp only [ho] at h2 ⊢
  split
  · rename_i hw
    simp only [hw, if_true] at h2
    split at h2
    · obtain ⟨v, hv, hK⟩ := h2
      exact (wpIn_value (S := S) (Q := Q) (noSel_defer hsel) (hv w (.inr (Below.refl _ _))) (hnext _ _ hK)).wpIn (noSel_defer hsel)
    · have h3 : UponE S n o a w K' (fun _ _ _ => False) := uponE_mono rfl (fun u w' hh => hnext _ _ hh.2) h2
      have h4 := h3.wpIn (noSel_defer hsel)
      refine ⟨h4.1, ?_⟩
      have h5 := h4.2
      generalize (o.semAt (FR S.r).round a.eval).run S.P w = r at *
      cases r with
      | ok x w' => cases x <;> simp only [Oper.uponIn] at h5 ⊢ <;> first | exact h5 | exact ⟨h5.1, CallsIn.mono h5.2 fun e w'' he => by cases e <;> first | exact he | exact he.elim | (obtain ⟨_, _, hf⟩ := he; exact hf.elim)⟩ | exact ⟨h5.1, RoundIn.mono h5.2 fun e w'' he => by cases e <;> first | exact he | exact he.elim | (obtain ⟨_, _, hf⟩ := he; exact hf.elim)⟩
      | halt x w' => cases x <;> simp only [Oper.uponIn] at h5 ⊢ <;> exact h5.elim
  · rename_i hw
    simp only [hw] at h2
    exact ⟨fun _ _ => trivial, hnext _ _ h2⟩

theorem any_of_list {Q : Exit → Act → World → Prop} (hS : ∀ o, o ∈ ops → noSel o.op = true) {L0 : List Nat} (hO : OrdOk S X ops L0) :
    ∀ (m : Nat) (L : List Nat) (listed : Array Bool) (a : Act) (w : World), L.length = m → L.Sublist L0 → listed.size = ops.size → (∀ i, i ∈ L ↔ (i < ops.size ∧ listed.getD i false = false)) →
      (∀ j o, listed.getD j false = true → ops[j]? = some o → ∀ e ∈ o.after, Region.binds .any e = true → listed.getD e.on false = true) →
      listW S X n ops (fun a w => Q .normal a w) L a w → wpAnyIn (FR S.r) n S.P .any ops Q m listed a w
  | 0, L, listed, a, w, hm, _, hsz, hmem, _, h => by
    have hL : L = [] := List.eq_nil_of_length_eq_zero hm
    subst hL
    refine ⟨?_, h⟩
    rw [List.eq_nil_iff_forall_not_mem]
    intro i hi
    obtain ⟨hl, o, ho, _⟩ := mem_ready.1 hi
    have hlt : i < ops.size := (Array.getElem?_eq_some_iff.1 ho).1
    have : i ∈ ([] : List Nat) := (hmem i).2 ⟨hlt, by
      have hls : i < listed.size := by omega
      simp [hls] at hl ⊢; exact hl⟩
    simp at this
  | m + 1, L, listed, a, w, hm, hsub, hsz, hmem, hcl, h => by
    have hnd : L.Nodup := hO.nodup.sublist hsub
    have hget : ∀ i, i < ops.size → (listed.getD i true = false ↔ listed.getD i false = false) := fun i hi => by
      have hls : i < listed.size := by omega
      simp [hls]
    have hready : ∀ i, i ∈ Region.ready .any ops listed → i ∈ L := fun i hi => by
      obtain ⟨hl, o, ho, _⟩ := mem_ready.1 hi
      have hlt : i < ops.size := (Array.getElem?_eq_some_iff.1 ho).1
      exact (hmem i).2 ⟨hlt, (hget i hlt).1 hl⟩
    refine ⟨fun h0 => ?_, fun i hi => ?_⟩
    · -- the first of L is ready
      exfalso
      cases L with
      | nil => simp at hm
      | cons i r =>
        have hil := (hmem i).1 List.mem_cons_self
        have : i ∈ Region.ready .any ops listed := by
          refine mem_ready.2 ⟨(hget i hil.1).2 hil.2, ops[i], Array.getElem?_eq_getElem hil.1, fun e he hb => ?_⟩
          have ht := hO.topo i _ e (Array.getElem?_eq_getElem hil.1) he hb
          cases hle : listed.getD e.on false with
          | true => rfl
          | false =>
            exfalso
            have heo : e.on < ops.size := (hO.mem e.on).1 (ht.subset (by simp))
            have hel : e.on ∈ i :: r := (hmem e.on).2 ⟨heo, hle⟩
            have hne : e.on ≠ i := fun he => by
              have := hO.nodup.sublist ht
              simp [he] at this
            have hir : e.on ∈ r := by
              cases hel with
              | head => exact absurd rfl hne
              | tail _ h => exact h
            -- i comes ahead of e.on in L, so in L0; but e.on comes ahead of i in L0
            have h1 : [i, e.on].Sublist L0 := (List.Sublist.cons_cons i (List.singleton_sublist.2 hir)).trans hsub
            exact (no_cycle hne hO.nodup ht h1).elim
        rw [h0] at this
        simp at this
    · have hiL := hready i hi
      obtain ⟨hl, o, ho, hall⟩ := mem_ready.1 hi
      have hlt : i < ops.size := (Array.getElem?_eq_some_iff.1 ho).1
      have hind : ∀ k, [k, i].Sublist L → Indep S X ops k i := fun k hs => by
        rcases hO.pair k i (hs.trans hsub) with ⟨f, hf⟩ | hind
        · exfalso
          have hk : k ∈ L := hs.subset (by simp)
          have h1 := ((hmem k).1 hk).2
          have h2 := waits_listed hcl f k i o ho hall hf
          rw [h1] at h2; simp at h2
        · exact hind
      have h2 := listW_first L hnd hiL hind a w h
      have hnext : ∀ a w, listW S X n ops (fun a w => Q .normal a w) (L.filter (· ≠ i)) a w → wpAnyIn (FR S.r) n S.P .any ops Q m (listed.setIfInBounds i true) a w := fun a w hh => by
        refine any_of_list hS hO m _ _ a w ?_ (List.filter_sublist.trans hsub) (by simpa using hsz) ?_ ?_ hh
        · have : (L.filter (· ≠ i)) = L.erase i := by rw [hnd.erase_eq_filter]; exact List.filter_congr fun x _ => by by_cases h : x = i <;> simp [h]
          rw [this, List.length_erase_of_mem hiL]; omega
        · intro j
          rw [List.mem_filter, hmem j]
          by_cases hji : j = i
          · subst hji
            simp [hsz, hlt]
          · have hij : ¬ i = j := fun e => hji e.symm
            simp [hji, hij]
        · intro j oj hj hoj e he hb
          by_cases hji : j = i
          · subst hji
            rw [ho] at hoj; cases hoj
            have := hall e he hb
            by_cases hei : e.on = j
            · simp [hei, hsz, hlt]
            · have hei' : ¬ j = e.on := fun e => hei e.symm
              simpa [Array.getElem?_setIfInBounds, hei'] using this
          · have hij : ¬ i = j := fun e => hji e.symm
            have hj' : listed.getD j false = true := by simpa [Array.getElem?_setIfInBounds, hij] using hj
            have := hcl j oj hj' hoj e he hb
            by_cases hei : e.on = i
            · simp [hei, hsz, hlt]
            · have hei' : ¬ i = e.on := fun e => hei e.symm
              simpa [Array.getElem?_setIfInBounds, hei'] using this
      exact wpOp_of_stepW (hS o (Array.mem_of_getElem? ho)) ho hnext h2

/-! ### A tree of orders: where two operations may come in either order and neither leaves the world alone -/
inductive OT where
  | nil
  | op (i : Nat) (t : OT)
  | alt (a b : OT)

def treeW (S : Sig) (X : List Nat) (n : Nat) (ops : Array Oper) (K : Act → World → Prop) : OT → Act → World → Prop
  | .nil, a, w => K a w
  | .op i t, a, w => stepW S X n ops i (treeW S X n ops K t) a w
  | .alt x y, a, w => treeW S X n ops K x a w ∧ treeW S X n ops K y a w

/-- i is taken first. -/
def OT.first (ind : Nat → Nat → Bool) (i : Nat) : OT → Option OT
  | .nil => none
  | .op k t => if k = i then some t else if ind k i = true then (OT.first ind i t).map (.op k) else none
  | .alt x y => match OT.first ind i x with
    | some x' => some x'
    | none => OT.first ind i y

theorem treeW_first {K : Act → World → Prop} {i : Nat} {ind : Nat → Nat → Bool} (hind : ∀ k, ind k i = true → Indep S X ops k i) : ∀ (T T' : OT), OT.first ind i T = some T' → ∀ (a : Act) (w : World), treeW S X n ops K T a w →
    stepW S X n ops i (treeW S X n ops K T') a w
  | .nil, _, h, _, _, _ => by simp [OT.first] at h
  | .op k t, T', h, a, w, hh => by
    simp only [OT.first] at h
    split at h
    · rename_i e
      subst e
      cases h
      exact hh
    · split at h
      · rename_i hk
        obtain ⟨t', ht', rfl⟩ := Option.map_eq_some_iff.1 h
        exact stepW_swap (hind k hk) (stepW_mono (fun a w hh => treeW_first hind t t' ht' a w hh) hh)
      · cases h
  | .alt x y, T', h, a, w, hh => by
    simp only [OT.first] at h
    split at h
    · rename_i u hx
      simp only [Option.some.injEq] at h
      subst h
      exact treeW_first hind x u hx a w hh.1
    · exact treeW_first hind y T' h a w hh.2

/-- Whatever order is picked, the tree serves. -/
def covT (ind : Nat → Nat → Bool) (ops : Array Oper) : Nat → Array Bool → OT → Bool
  | 0, listed, T => (Region.ready .any ops listed).isEmpty && (match T with | .nil => true | _ => false)
  | m + 1, listed, T => !(Region.ready .any ops listed).isEmpty && (Region.ready .any ops listed).all fun i =>
      match OT.first ind i T with
      | some T' => covT ind ops m (listed.setIfInBounds i true) T'
      | none => false

theorem any_of_tree {Q : Exit → Act → World → Prop} (hS : ∀ o, o ∈ ops → noSel o.op = true) {ind : Nat → Nat → Bool} (hind : ∀ k i, ind k i = true → Indep S X ops k i) :
    ∀ (m : Nat) (listed : Array Bool) (T : OT) (a : Act) (w : World), covT ind ops m listed T = true →
      treeW S X n ops (fun a w => Q .normal a w) T a w → wpAnyIn (FR S.r) n S.P .any ops Q m listed a w
  | 0, listed, T, a, w, hc, h => by
    simp only [covT, Bool.and_eq_true, List.isEmpty_iff] at hc
    obtain ⟨h1, h2⟩ := hc
    split at h2
    · exact ⟨h1, h⟩
    · cases h2
  | m + 1, listed, T, a, w, hc, h => by
    simp only [covT, Bool.and_eq_true, Bool.not_eq_true', List.isEmpty_eq_false_iff, List.all_eq_true] at hc
    refine ⟨fun h0 => absurd h0 hc.1, fun i hi => ?_⟩
    obtain ⟨_, o, ho, _⟩ := mem_ready.1 hi
    have hc' := hc.2 i hi
    split at hc'
    · rename_i T' hT'
      have h2 := treeW_first (fun k hk => hind k i hk) T T' hT' a w h
      have hnext : ∀ a w, treeW S X n ops (fun a w => Q .normal a w) T' a w → wpAnyIn (FR S.r) n S.P .any ops Q m (listed.setIfInBounds i true) a w := fun a w hh =>
        any_of_tree hS hind m _ T' a w hc' hh
      exact wpOp_of_stepW (hS o (Array.mem_of_getElem? ho)) ho hnext h2
    · cases hc'

end
end Go.Vc
