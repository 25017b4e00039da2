/- Maps that a call makes: keys of a data type κ. -/
import Derived.Test.YtkekidalckflhaaDoorVcH
import GoSem.Instr.MapEntry
import Derived.ChangeKeysEq
namespace Go.Vc
open Go.RowKit

/-- How keys of a type of data are met. -/
structure MapK (P : Program) (K : TypeId) {κ : Type} [DecidableEq κ] (key : κ → Value) : Prop where
  check : ∀ q e w, (Instr.checkKey e 10000 K (key q)).run P w = .ok () w
  eq : ∀ q q' w, (Op.equal K (key q) (key q')).run P w = .ok (decide (q = q')) w
  same : ∀ q, Instr.sameBits 10000 (key q) (key q) = true
  desc : ∃ d, P.underlying K = some d ∧ ∀ q q', Instr.sameNow d (key q) (key q') = none ∨ Instr.sameNow d (key q) (key q') = some (decide (q = q'))

section
variable {P : Program} {K : TypeId} {κ : Type} [DecidableEq κ] {key : κ → Value}

abbrev Ent (κ : Type) := κ × Value × Nat
def entry (key : κ → Value) (e : Ent κ) : MapEntry := ⟨key e.1, e.2.1, e.2.2⟩

def findL (q : κ) : List (Ent κ) → Nat → Option (Nat × Value)
  | [], _ => none
  | e :: r, i => if q = e.1 then some (i, e.2.1) else findL q r (i + 1)

theorem findAsking_run (hK : MapK P K key) (q : κ) : ∀ (es : List (Ent κ)) (i : Nat) (w : World), (Instr.findAsking K (key q) (es.map (entry key)) i).run P w = .ok (findL q es i) w
  | [], _, _ => rfl
  | e :: r, i, w => by
    simp only [List.map_cons, Instr.findAsking, Sem.run_bind, entry, hK.eq q e.1 w, Result.andThen_ok, findL]
    by_cases h : q = e.1
    · simp [h]
    · simp only [h, decide_false, Bool.false_eq_true, if_false]
      exact findAsking_run hK q r (i + 1) w

theorem findNow_eq {d : TypeDesc} {q : κ} (h : ∀ q', Instr.sameNow d (key q) (key q') = none ∨ Instr.sameNow d (key q) (key q') = some (decide (q = q'))) : ∀ (es : List (Ent κ)) (i : Nat),
    Instr.findNow d (key q) (es.map (entry key)) i = none ∨ Instr.findNow d (key q) (es.map (entry key)) i = some (findL q es i)
  | [], _ => .inr rfl
  | e :: r, i => by
    simp only [List.map_cons, Instr.findNow, entry, findL]
    rcases h e.1 with h1 | h1
    · rw [h1]; exact .inl rfl
    · rw [h1]
      by_cases hq : q = e.1
      · simp [hq]
      · simp only [hq, decide_false, if_false]
        exact findNow_eq h r (i + 1)

theorem findKey_run (hK : MapK P K key) (q : κ) (es : List (Ent κ)) (w : World) : (Instr.findKey K (key q) (es.map (entry key))).run P w = .ok (findL q es 0) w := by
  obtain ⟨d, hd, hs⟩ := hK.desc
  simp only [Instr.findKey, Sem.run_bind, run_underlying hd, Result.andThen_ok]
  rcases findNow_eq (hs q) es 0 with h | h
  · rw [h]; exact findAsking_run hK q es 0 w
  · rw [h]; rfl

theorem findL_some {q : κ} : ∀ {es : List (Ent κ)} {i j : Nat} {v : Value}, findL q es i = some (j, v) → ∃ b, i ≤ j ∧ es[j - i]? = some (q, v, b)
  | [], _, _, _, h => by simp [findL] at h
  | e :: r, i, j, v, h => by
    simp only [findL] at h
    split at h
    · rename_i hq
      simp only [Option.some.injEq, Prod.mk.injEq] at h
      obtain ⟨rfl, rfl⟩ := h
      exact ⟨e.2.2, Nat.le_refl _, by simp [hq]⟩
    · obtain ⟨b, h1, h2⟩ := findL_some h
      refine ⟨b, by omega, ?_⟩
      have : j - i = (j - (i + 1)) + 1 := by omega
      rw [this]; simpa using h2
theorem findL_none {q : κ} : ∀ {es : List (Ent κ)} {i : Nat}, findL q es i = none → ∀ e ∈ es, e.1 ≠ q
  | [], _, _, e, he => by simp at he
  | x :: r, i, h, e, he => by
    simp only [findL] at h
    split at h
    · cases h
    · rename_i hq
      cases he with
      | head => exact fun e => hq e.symm
      | tail _ he => exact findL_none h e he

/-- What a map's entries say of a key. -/
def asF (es : List (Ent κ)) (q : κ) : Option Value := (findL q es 0).map (·.2)

theorem asF_nil (q : κ) : asF ([] : List (Ent κ)) q = none := rfl
theorem findL_shift (q : κ) : ∀ (es : List (Ent κ)) (i : Nat), (findL q es i).map (·.2) = asF es q
  | [], _ => rfl
  | e :: r, i => by
    unfold asF
    simp only [findL]
    split
    · rfl
    · rw [findL_shift q r (i + 1), findL_shift q r (0 + 1)]
theorem asF_cons (e : Ent κ) (r : List (Ent κ)) (q : κ) : asF (e :: r) q = if q = e.1 then some e.2.1 else asF r q := by
  unfold asF
  simp only [findL]
  split
  · rfl
  · rw [findL_shift]; rfl
theorem asF_append (e : Ent κ) (q : κ) : ∀ (es : List (Ent κ)), asF (es ++ [e]) q = (asF es q).or (if q = e.1 then some e.2.1 else none)
  | [] => by rw [List.nil_append, asF_cons, asF_nil]; simp
  | x :: r => by
    rw [List.cons_append, asF_cons, asF_cons, asF_append e q r]
    split <;> simp

/-- Block r is a map that reads as f. -/
def MapF (key : κ → Value) (w : World) (r : Nat) (f : κ → Option Value) : Prop :=
  ∃ (es : List (Ent κ)) (clock : Nat), w.heap[r]? = some (.map (es.map (entry key)).toArray clock) ∧ (∀ q, asF es q = f q) ∧ (es.map (·.1)).Nodup ∧ (es.map (·.2.2)).Nodup ∧ (∀ e ∈ es, e.2.2 < clock)
/-- And the entry of q is the one that was born then. -/
def MapS (key : κ → Value) (w : World) (r : Nat) (f : κ → Option Value) (q : κ) (born : Nat) : Prop :=
  ∃ (es : List (Ent κ)) (clock : Nat), w.heap[r]? = some (.map (es.map (entry key)).toArray clock) ∧ (∀ q, asF es q = f q) ∧ (es.map (·.1)).Nodup ∧ (es.map (·.2.2)).Nodup ∧ (∀ e ∈ es, e.2.2 < clock) ∧ ∃ v, (q, v, born) ∈ es
theorem MapS.map {w : World} {r : Nat} {f : κ → Option Value} {q : κ} {born : Nat} (h : MapS key w r f q born) : MapF key w r f := by
  obtain ⟨es, clock, h1, h2, h3, h4, h5, _⟩ := h; exact ⟨es, clock, h1, h2, h3, h4, h5⟩

theorem MapF.below {w w2 : World} {r : Nat} {f : κ → Option Value} (h : MapF key w r f) (hb : Below w.heap.size w w2) : MapF key w2 r f := by
  obtain ⟨es, clock, hh, rest⟩ := h
  exact ⟨es, clock, block_below hb hh, rest⟩
theorem MapF.same {w w2 : World} {r : Nat} {f : κ → Option Value} (h : MapF key w r f) (hb : w2.heap[r]? = w.heap[r]?) : MapF key w2 r f := by
  obtain ⟨es, clock, hh, rest⟩ := h
  exact ⟨es, clock, hb.trans hh, rest⟩
theorem MapF.new {w : World} : MapF key (w.alloc (.map #[] 0)) w.heap.size (fun (_ : κ) => none) :=
  ⟨[], 0, hnew w _, fun _ => rfl, by simp, by simp, by simp⟩

theorem lookup_run {T elem : TypeId} (hK : MapK P K key) (hu : P.underlying T = some (.map K elem)) {z : Value} (hz : ∀ w, (zeroValue elem).run P w = .ok z w) {w : World} {r : Nat} {f : κ → Option Value} (h : MapF key w r f) (q : κ) (ok : Bool) :
    (Instr.lookup T (.map (some r)) (key q) ok).run P w = .ok (if ok then .tuple #[(f q).getD z, .bool (f q).isSome] else (f q).getD z) w := by
  obtain ⟨es, clock, hh, hf, _⟩ := h
  have hg : (getObj r).run P w = .ok (.map (es.map (entry key)).toArray clock) w := by simp [getObj, Sem.run, hh]
  have e : asF es q = f q := hf q
  unfold asF at e
  simp only [Instr.lookup, Sem.run_bind, run_underlying hu, Result.andThen_ok, hg, Sem.run_pure, hK.check q _ w, findKey_run hK q es w]
  cases hfl : findL q es 0 with
  | none =>
    rw [hfl] at e
    simp only [Option.map_none] at e
    simp only [Sem.run_bind, hz w, Result.andThen_ok, Sem.run_pure, ← e, Option.getD_none, Option.isSome_none]
    first | done | (cases ok <;> rfl)
  | some p =>
    obtain ⟨j, v⟩ := p
    rw [hfl] at e
    simp only [Option.map_some] at e
    simp only [← e, Option.getD_some, Option.isSome_some]
    cases ok <;> rfl

theorem heap_put {w : World} {r : Nat} {o o' : Obj} (h : w.heap[r]? = some o) : (w.putObj r o').heap[r]? = some o' := by
  have : r < w.heap.size := hlt h
  simp [World.putObj, this]
theorem heap_put_old {w : World} {r k : Nat} {o : Obj} (h : k ≠ r) : (w.putObj r o).heap[k]? = w.heap[k]? := by
  have : ¬ r = k := fun e => h e.symm
  simp [World.putObj, this]
theorem below_put {B : Nat} {a w : World} (h : Below B a w) {r : Nat} (hr : B ≤ r) (o : Obj) : Below B a (w.putObj r o) :=
  h.trans ⟨rfl, rfl, rfl, by simp [World.putObj], fun k hk => heap_put_old (by omega)⟩
theorem grown_put (w : World) (r : Nat) (o : Obj) : w.grownBy (w.putObj r o) (some r) :=
  ⟨rfl, rfl, rfl, by simp [World.putObj], fun k _ hne => heap_put_old (fun e => hne (by rw [e]))⟩

theorem getD_self {α : Type} (f : κ → Option α) (q : κ) (z : α) (h : (f q).isSome) (q' : κ) : (if q' = q then some ((f q).getD z) else f q') = f q' := by
  split
  · rename_i e; subst e; obtain ⟨v, hv⟩ := Option.isSome_iff_exists.1 h; simp [hv]
  · rfl

/-- 'm[k]' on its way to a store: the entry is there behind it. -/
theorem mapEntry_run {T elem : TypeId} (hK : MapK P K key) (hu : P.underlying T = some (.map K elem)) {z : Value} (hz : ∀ w, (zeroValue elem).run P w = .ok z w) {w : World} {r : Nat} {f : κ → Option Value} (h : MapF key w r f) (q : κ) :
    ∃ (born : Nat) (o : Obj), (Instr.mapEntry T (.map (some r)) (key q)).run P w = .ok (.tuple #[(f q).getD z, .int .i64 born]) (w.putObj r o) ∧
      MapS key (w.putObj r o) r (fun q' => if q' = q then some ((f q).getD z) else f q') q born := by
  obtain ⟨es, clock, hh, hf, hn, hb, hc⟩ := h
  have hg : (getObj r).run P w = .ok (.map (es.map (entry key)).toArray clock) w := by simp [getObj, Sem.run, hh]
  have hset : ∀ o, (setObj r o).run P w = .ok () (w.putObj r o) := fun o => by simp [setObj, Sem.run, hh, World.putObj]
  have e : asF es q = f q := hf q
  unfold asF at e
  simp only [Instr.mapEntry, Sem.run_bind, run_underlying hu, Result.andThen_ok, hg, hK.check q _ w, findKey_run hK q es w]
  cases hfl : findL q es 0 with
  | none =>
    rw [hfl] at e
    simp only [Option.map_none] at e
    refine ⟨clock, .map ((es ++ [(q, z, clock)]).map (entry key)).toArray (clock + 1), ?_, ?_⟩
    · have e2 : (es.map (entry key)).toArray.push { key := key q, val := z, born := clock } = ((es ++ [(q, z, clock)]).map (entry key)).toArray := by
        rw [← Array.toList_inj]; simp [entry]
      simp only [Sem.run_bind, hz w, Result.andThen_ok, e2, hset, Sem.run_pure, goInt, ← e, Option.getD_none]
    · refine ⟨es ++ [(q, z, clock)], clock + 1, heap_put hh, fun q' => ?_, ?_, ?_, ?_, z, by simp⟩
      · rw [asF_append]
        by_cases hq : q' = q
        · subst hq
          rw [hf q', ← e]; simp
        · simp [hq, hf q']
      · rw [List.map_append, List.map_cons, List.map_nil]
        refine List.nodup_append.2 ⟨hn, by simp, ?_⟩
        intro a ha b hb'
        simp only [List.mem_singleton] at hb'
        subst hb'
        obtain ⟨x, hx, rfl⟩ := List.mem_map.1 ha
        exact findL_none hfl x hx
      · rw [List.map_append, List.map_cons, List.map_nil]
        refine List.nodup_append.2 ⟨hb, by simp, ?_⟩
        intro a ha b hb'
        simp only [List.mem_singleton] at hb'
        subst hb'
        obtain ⟨x, hx, rfl⟩ := List.mem_map.1 ha
        exact Nat.ne_of_lt (hc x hx)
      · intro x hx
        rw [List.mem_append] at hx
        rcases hx with hx | hx
        · exact Nat.lt_succ_of_lt (hc x hx)
        · simp only [List.mem_singleton] at hx; subst hx; exact Nat.lt_succ_self _
  | some p =>
    obtain ⟨j, v⟩ := p
    rw [hfl] at e
    simp only [Option.map_some] at e
    obtain ⟨b, _, hj⟩ := findL_some hfl
    rw [Nat.sub_zero] at hj
    have hje : (es.map (entry key)).toArray[j]? = some (entry key (q, v, b)) := by simp [hj]
    have hmod : (es.map (entry key)).toArray.modify j (fun e => { e with key := key q }) = (es.map (entry key)).toArray := by
      apply Array.ext_getElem?
      intro i
      rw [Array.getElem?_modify]
      split
      · rename_i hij
        subst hij
        rw [hje]; simp [entry]
      · rfl
    refine ⟨b, .map (es.map (entry key)).toArray clock, ?_, ?_⟩
    · simp only [hje, Option.map_some, Option.getD_some, entry, Instr.keyThatStays, hK.same q, if_true, Sem.run_pure, Result.andThen_ok, Sem.run_bind]
      have hmod' := hmod
      rw [hmod', hset]
      simp only [Result.andThen_ok, goInt, ← e, Option.getD_some]
    · refine ⟨es, clock, heap_put hh, fun q' => ?_, hn, hb, hc, v, List.mem_of_getElem? hj⟩
      rw [hf q']
      exact (getD_self f q z (by rw [← e]; rfl) q').symm

theorem asF_mem {q : κ} {v : Value} {b : Nat} : ∀ {es : List (Ent κ)}, (es.map (·.1)).Nodup → (q, v, b) ∈ es → asF es q = some v
  | [], _, h => by simp at h
  | e :: r, hn, h => by
    rw [List.map_cons, List.nodup_cons] at hn
    rw [asF_cons]
    cases h with
    | head => simp
    | tail _ h =>
      have : q ≠ e.1 := fun hq => hn.1 (List.mem_map.2 ⟨_, h, hq⟩)
      rw [if_neg this]
      exact asF_mem hn.2 h

theorem asF_set {born : Nat} (x : Value) (q : κ) (q' : κ) : ∀ (es : List (Ent κ)), (es.map (·.1)).Nodup → (∃ v, (q, v, born) ∈ es) → (∀ e ∈ es, e.2.2 = born → e.1 = q) →
    asF (es.map fun e => if e.2.2 = born then (e.1, x, e.2.2) else e) q' = if q' = q then some x else asF es q'
  | [], _, ⟨v, h⟩, _ => by simp at h
  | e :: r, hn, ⟨v, hm⟩, hb => by
    rw [List.map_cons, List.nodup_cons] at hn
    rw [List.map_cons, asF_cons, asF_cons]
    by_cases he : e.2.2 = born
    · have hq : e.1 = q := hb e List.mem_cons_self he
      simp only [he, if_true]
      rw [hq]
      by_cases hqq : q' = q
      · simp [hqq]
      · simp only [hqq, if_false]
        -- behind it none is of that birth
        have hrest : ∀ (l : List (Ent κ)), (∀ e ∈ l, e.2.2 = born → e.1 = q) → q ∉ l.map (·.1) → l.map (fun e => if e.2.2 = born then (e.1, x, e.2.2) else e) = l := by
          intro l
          induction l with
          | nil => intros; rfl
          | cons y l ih =>
            intro h1 h2
            have hy : ¬ y.2.2 = born := fun hy => h2 (List.mem_map.2 ⟨y, List.mem_cons_self, h1 y List.mem_cons_self hy⟩)
            rw [List.map_cons, if_neg hy, ih (fun z hz => h1 z (List.mem_cons_of_mem _ hz)) (fun hz => h2 (by rw [List.map_cons]; exact List.mem_cons_of_mem _ hz))]
        rw [hrest r (fun z hz => hb z (List.mem_cons_of_mem _ hz)) (by rw [← hq]; exact hn.1)]
    · have hm' : (q, v, born) ∈ r := by
        cases hm with
        | head => exact absurd rfl he
        | tail _ h => exact h
      simp only [he, if_false]
      have hqe : q ≠ e.1 := fun hq => hn.1 (List.mem_map.2 ⟨_, hm', hq⟩)
      rw [asF_set x q q' r hn.2 ⟨v, hm'⟩ (fun z hz => hb z (List.mem_cons_of_mem _ hz))]
      by_cases hqq : q' = q
      · subst hqq; simp [hqe]
      · simp [hqq]

omit [DecidableEq κ] in
theorem findIdx_born {born : Nat} {x : Value} : ∀ (es : List (Ent κ)), (es.map (·.2.2)).Nodup → (∃ q v, (q, v, born) ∈ es) → ∃ i, (es.map (entry key)).findIdx? (fun e => (e.born : Int) == (born : Int)) = some i ∧
    (es.map (entry key)).modify i (fun e => { e with val := x }) = (es.map fun e => if e.2.2 = born then (e.1, x, e.2.2) else e).map (entry key)
  | [], _, ⟨q, v, h⟩ => by simp at h
  | e :: r, hn, ⟨q, v, hm⟩ => by
    rw [List.map_cons, List.nodup_cons] at hn
    by_cases he : e.2.2 = born
    · refine ⟨0, by simp [List.findIdx?_cons, entry, he], ?_⟩
      have hrest : ∀ (l : List (Ent κ)), born ∉ l.map (·.2.2) → l.map (fun e => if e.2.2 = born then (e.1, x, e.2.2) else e) = l := by
        intro l
        induction l with
        | nil => intros; rfl
        | cons y l ih =>
          intro h2
          have hy : ¬ y.2.2 = born := fun hy => h2 (List.mem_map.2 ⟨y, List.mem_cons_self, hy⟩)
          rw [List.map_cons, if_neg hy, ih (fun hz => h2 (by rw [List.map_cons]; exact List.mem_cons_of_mem _ hz))]
      rw [List.map_cons, List.map_cons, List.map_cons, hrest r (by rw [← he]; exact hn.1)]
      simp [entry, he]
    · have hm' : (q, v, born) ∈ r := by
        cases hm with
        | head => exact absurd rfl he
        | tail _ h => exact h
      obtain ⟨i, h1, h2⟩ := findIdx_born r hn.2 ⟨q, v, hm'⟩
      have hne : ((entry key e).born : Int) ≠ (born : Int) := by simp only [entry]; omega
      refine ⟨i + 1, ?_, ?_⟩
      · rw [List.map_cons, List.findIdx?_cons]
        simp [hne, h1]
      · rw [List.map_cons, List.modify_succ_cons, h2, List.map_cons, List.map_cons, if_neg he]

/-- The store into it. -/
theorem entryStore_run {T : TypeId} {w : World} {r : Nat} {f : κ → Option Value} {q : κ} {born : Nat} (h : MapS key w r f q born) (x : Value) :
    ∃ o, (Instr.entryStore T (.map (some r)) (.int .i64 born) x).run P w = .ok () (w.putObj r o) ∧ MapF key (w.putObj r o) r (fun q' => if q' = q then some x else f q') := by
  obtain ⟨es, clock, hh, hf, hn, hb, hc, v, hm⟩ := h
  have hg : (getObj r).run P w = .ok (.map (es.map (entry key)).toArray clock) w := by simp [getObj, Sem.run, hh]
  have hset : ∀ o, (setObj r o).run P w = .ok () (w.putObj r o) := fun o => by simp [setObj, Sem.run, hh, World.putObj]
  obtain ⟨i, h1, h2⟩ := findIdx_born (key := key) (x := x) es hb ⟨q, v, hm⟩
  have hbq : ∀ e ∈ es, e.2.2 = born → e.1 = q := fun e he hbe => by
    obtain ⟨i, hi, e1⟩ := List.getElem_of_mem he
    obtain ⟨j, hj, e2⟩ := List.getElem_of_mem hm
    have : i = j := by
      by_cases hij : i = j
      · exact hij
      · exfalso
        have h3 := (List.pairwise_iff_getElem.1 hb)
        rcases Nat.lt_or_gt_of_ne hij with hlt | hlt
        · exact h3 i j (by simpa using hi) (by simpa using hj) hlt (by simp [e1, e2, hbe])
        · exact h3 j i (by simpa using hj) (by simpa using hi) hlt (by simp [e1, e2, hbe])
    subst this
    rw [e1] at e2
    rw [e2]
  refine ⟨.map ((es.map fun e => if e.2.2 = born then (e.1, x, e.2.2) else e).map (entry key)).toArray clock, ?_, ?_⟩
  · have h1' : (es.map (entry key)).toArray.findIdx? (fun e => (e.born : Int) == (born : Int)) = some i := by simpa using h1
    have h2' : (es.map (entry key)).toArray.modify i (fun e => { e with val := x }) = ((es.map fun e => if e.2.2 = born then (e.1, x, e.2.2) else e).map (entry key)).toArray := by
      rw [← h2]; simp
    simp only [Instr.entryStore, Sem.run_bind, Sem.run_pure, Result.andThen_ok, hg, asInt, asIntOf, h1', h2', hset]
  · refine ⟨_, clock, heap_put hh, fun q' => ?_, ?_, ?_, ?_⟩
    · rw [asF_set x q q' es hn ⟨v, hm⟩ hbq, hf q']
    · have : (es.map fun e => if e.2.2 = born then (e.1, x, e.2.2) else e).map (·.1) = es.map (·.1) := by
        rw [List.map_map]; apply List.map_congr_left; intro e _; simp only [Function.comp_apply]; split <;> rfl
      rw [this]; exact hn
    · have : (es.map fun e => if e.2.2 = born then (e.1, x, e.2.2) else e).map (·.2.2) = es.map (·.2.2) := by
        rw [List.map_map]; apply List.map_congr_left; intro e _; simp only [Function.comp_apply]; split <;> rfl
      rw [this]; exact hb
    · intro e he
      obtain ⟨y, hy, rfl⟩ := List.mem_map.1 he
      split
      · exact hc y hy
      · exact hc y hy

end
end Go.Vc
