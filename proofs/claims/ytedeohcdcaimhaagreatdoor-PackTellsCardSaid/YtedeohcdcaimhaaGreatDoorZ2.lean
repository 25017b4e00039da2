/- Bytes: their comparison, their rows. Maps that a call makes: keys of a data type κ. Ranges over functions: what an iterator owes; the law for a loop over it. Contracts: msg.code. Law22, plain: a system as data; its bytes; the bytes read back. The engine, part J: joins: code of which some sequences are cut at a state of their own. The engine, part P: a region that defers; a function that leaves by a deferred call which recovers. Law22: each, at its types (printed by gen_each.py). Law22: the encoder's bytes: put, bit. Law22: a system in memory. msg.Bytes. Law22: the encoder writes a core. Law22: the encoder writes a cache, a directory entry, a message. The engine, part Q: '==' of nested structs and arrays, cell by cell. Law22: '==' at the parts of a system. Law22: the encoder writes a directory entry, a message, a system. Law22: encode. geo: Right. Contracts: slices.Grow and slices.Concat at messages. Messages compared. Contracts: SameMsgs, slices.Equal, Send, Pick, Count at messages. -/
import Derived.Test.YtedeohcdcaimhaaGreatDoorZ1
import Derived.Test.YtedeohcdcaimhaaGreatDoorZKSig
import GoSem.Instr.MapEntry
import Derived.ChangeKeysEq
import Derived.RangeFuncIn
import Derived.RangeFuncNested
import Derived.Laws.CopyRow
import Derived.RecoverIn
import Derived.Laws.StructEq
import Derived.Laws.MakeOwn
set_option linter.unusedSimpArgs false
namespace Go.Proofs.YtedeohcdcaimhaaGreatDoor
open Go.Vc Go.RowKit Go.Sei

def cmp8 (x y : UInt8) : Int := if x.toNat < y.toNat then -1 else if y.toNat < x.toNat then 1 else 0
def cmpL : List UInt8 → List UInt8 → Int
  | [], [] => 0
  | [], _ :: _ => -1
  | _ :: _, [] => 1
  | x :: r, y :: s => if x = y then cmpL r s else cmp8 x y

def byteE : Enc UInt8 := ⟨fun b => [u8 b], 1, fun _ => rfl, by decide, fun a u hu => by
  simp only [List.mem_cons, List.not_mem_nil, or_false] at hu; subst hu; rfl⟩
theorem byte_at {w : World} {p : Option Addr} {l : List UInt8} (h : SlR byteE w p l) {k : Nat} (hk : k < l.length) : ∃ b o, p = some ⟨b, o, none⟩ ∧ b < w.heap.size ∧ w.cell? ⟨b, o + k * 1, none⟩ = some (u8 l[k]) := by
  obtain ⟨b, o, rfl, hb, hc⟩ := h.at hk
  exact ⟨b, o, rfl, hb, cells_head (hc k hk)⟩
theorem cmpL_drop : ∀ (l1 l2 : List UInt8) (k : Nat), k ≤ l1.length → k ≤ l2.length → l1.take k = l2.take k → cmpL l1 l2 = cmpL (l1.drop k) (l2.drop k)
  | l1, l2, 0, _, _, _ => by simp
  | [], _, k + 1, h, _, _ => by simp at h
  | _ :: _, [], k + 1, _, h, _ => by simp at h
  | x :: r, y :: s, k + 1, h1, h2, h3 => by
    simp at h1 h2 h3
    rw [cmpL, if_pos h3.1, List.drop_succ_cons, List.drop_succ_cons]
    exact cmpL_drop r s k h1 h2 h3.2
theorem cmp8_ne {x y : UInt8} (h : x ≠ y) : cmp8 x y ≠ 0 := by
  have : x.toNat ≠ y.toNat := fun e => h (UInt8.toNat_inj.1 e)
  unfold cmp8; split
  · decide
  · split
    · decide
    · omega
theorem cmp8_self (x : UInt8) : cmp8 x x = 0 := by simp [cmp8]

theorem bytes_row {w : World} {g : Nat} {l : List UInt8} {t : TypeId} {fr : Nat × Nat} (h : w.heap[g]? = some (.cells (l.map u8).toArray t fr)) : SlR byteE w (some ⟨g, 0, none⟩) l := by
  refine SlR.of_cells (hlt h) ?_
  have e : l.flatMap byteE.enc = l.map u8 := by clear h; induction l with | nil => rfl | cons a r ih => rw [List.flatMap_cons, ih]; rfl
  rw [e]
  exact cells_block h

end Go.Proofs.YtedeohcdcaimhaaGreatDoor
namespace Go.Vc
open Go.RowKit

/-- How keys of a type of data are met. -/
structure MapK (P : Program) (K : TypeId) {κ : Type} [DecidableEq κ] (key : κ → Value) : Prop where
  check : ∀ q e w, (Instr.checkKey e 10000 K (key q)).run P w = .ok () w
  eq : ∀ q q' w, (Op.equal K (key q) (key q')).run P w = .ok (decide (q = q')) w
  same : ∀ q, Instr.sameBits 10000 (key q) (key q) = true
  desc : ∃ d, P.underlying K = some d ∧ ∀ q q', Instr.sameNow d (key q) (key q') = none ∨ Instr.sameNow d (key q) (key q') = some (decide (q = q'))

section
variable {P : Program} {K : TypeId} {κ : Type} [DecidableEq κ] {key : κ → Value}

abbrev Ent (κ : Type) := κ × Value × Nat
def entry (key : κ → Value) (e : Ent κ) : MapEntry := ⟨key e.1, e.2.1, e.2.2⟩

def findL (q : κ) : List (Ent κ) → Nat → Option (Nat × Value)
  | [], _ => none
  | e :: r, i => if q = e.1 then some (i, e.2.1) else findL q r (i + 1)

theorem findAsking_run (hK : MapK P K key) (q : κ) : ∀ (es : List (Ent κ)) (i : Nat) (w : World), (Instr.findAsking K (key q) (es.map (entry key)) i).run P w = .ok (findL q es i) w
  | [], _, _ => rfl
  | e :: r, i, w => by
    simp only [List.map_cons, Instr.findAsking, Sem.run_bind, entry, hK.eq q e.1 w, Result.andThen_ok, findL]
    by_cases h : q = e.1
    · simp [h]
    · simp only [h, decide_false, Bool.false_eq_true, if_false]
      exact findAsking_run hK q r (i + 1) w

theorem findNow_eq {d : TypeDesc} {q : κ} (h : ∀ q', Instr.sameNow d (key q) (key q') = none ∨ Instr.sameNow d (key q) (key q') = some (decide (q = q'))) : ∀ (es : List (Ent κ)) (i : Nat),
    Instr.findNow d (key q) (es.map (entry key)) i = none ∨ Instr.findNow d (key q) (es.map (entry key)) i = some (findL q es i)
  | [], _ => .inr rfl
  | e :: r, i => by
    simp only [List.map_cons, Instr.findNow, entry, findL]
    rcases h e.1 with h1 | h1
    · rw [h1]; exact .inl rfl
    · rw [h1]
      by_cases hq : q = e.1
      · simp [hq]
      · simp only [hq, decide_false, if_false]
        exact findNow_eq h r (i + 1)

theorem findKey_run (hK : MapK P K key) (q : κ) (es : List (Ent κ)) (w : World) : (Instr.findKey K (key q) (es.map (entry key))).run P w = .ok (findL q es 0) w := by
  obtain ⟨d, hd, hs⟩ := hK.desc
  simp only [Instr.findKey, Sem.run_bind, run_underlying hd, Result.andThen_ok]
  rcases findNow_eq (hs q) es 0 with h | h
  · rw [h]; exact findAsking_run hK q es 0 w
  · rw [h]; rfl

theorem findL_some {q : κ} : ∀ {es : List (Ent κ)} {i j : Nat} {v : Value}, findL q es i = some (j, v) → ∃ b, i ≤ j ∧ es[j - i]? = some (q, v, b)
  | [], _, _, _, h => by simp [findL] at h
  | e :: r, i, j, v, h => by
    simp only [findL] at h
    split at h
    · rename_i hq
      simp only [Option.some.injEq, Prod.mk.injEq] at h
      obtain ⟨rfl, rfl⟩ := h
      exact ⟨e.2.2, Nat.le_refl _, by simp [hq]⟩
    · obtain ⟨b, h1, h2⟩ := findL_some h
      refine ⟨b, by omega, ?_⟩
      have : j - i = (j - (i + 1)) + 1 := by omega
      rw [this]; simpa using h2
theorem findL_none {q : κ} : ∀ {es : List (Ent κ)} {i : Nat}, findL q es i = none → ∀ e ∈ es, e.1 ≠ q
  | [], _, _, e, he => by simp at he
  | x :: r, i, h, e, he => by
    simp only [findL] at h
    split at h
    · cases h
    · rename_i hq
      cases he with
      | head => exact fun e => hq e.symm
      | tail _ he => exact findL_none h e he

/-- What a map's entries say of a key. -/
def asF (es : List (Ent κ)) (q : κ) : Option Value := (findL q es 0).map (·.2)

theorem asF_nil (q : κ) : asF ([] : List (Ent κ)) q = none := rfl
theorem findL_shift (q : κ) : ∀ (es : List (Ent κ)) (i : Nat), (findL q es i).map (·.2) = asF es q
  | [], _ => rfl
  | e :: r, i => by
    unfold asF
    simp only [findL]
    split
    · rfl
    · rw [findL_shift q r (i + 1), findL_shift q r (0 + 1)]
theorem asF_cons (e : Ent κ) (r : List (Ent κ)) (q : κ) : asF (e :: r) q = if q = e.1 then some e.2.1 else asF r q := by
  unfold asF
  simp only [findL]
  split
  · rfl
  · rw [findL_shift]; rfl
theorem asF_append (e : Ent κ) (q : κ) : ∀ (es : List (Ent κ)), asF (es ++ [e]) q = (asF es q).or (if q = e.1 then some e.2.1 else none)
  | [] => by rw [List.nil_append, asF_cons, asF_nil]; simp
  | x :: r => by
    rw [List.cons_append, asF_cons, asF_cons, asF_append e q r]
    split <;> simp

/-- Block r is a map that reads as f. -/
def MapF (key : κ → Value) (w : World) (r : Nat) (f : κ → Option Value) : Prop :=
  ∃ (es : List (Ent κ)) (clock : Nat), w.heap[r]? = some (.map (es.map (entry key)).toArray clock) ∧ (∀ q, asF es q = f q) ∧ (es.map (·.1)).Nodup ∧ (es.map (·.2.2)).Nodup ∧ (∀ e ∈ es, e.2.2 < clock)
/-- And the entry of q is the one that was born then. -/
def MapS (key : κ → Value) (w : World) (r : Nat) (f : κ → Option Value) (q : κ) (born : Nat) : Prop :=
  ∃ (es : List (Ent κ)) (clock : Nat), w.heap[r]? = some (.map (es.map (entry key)).toArray clock) ∧ (∀ q, asF es q = f q) ∧ (es.map (·.1)).Nodup ∧ (es.map (·.2.2)).Nodup ∧ (∀ e ∈ es, e.2.2 < clock) ∧ ∃ v, (q, v, born) ∈ es
theorem MapS.map {w : World} {r : Nat} {f : κ → Option Value} {q : κ} {born : Nat} (h : MapS key w r f q born) : MapF key w r f := by
  obtain ⟨es, clock, h1, h2, h3, h4, h5, _⟩ := h; exact ⟨es, clock, h1, h2, h3, h4, h5⟩

theorem MapF.below {w w2 : World} {r : Nat} {f : κ → Option Value} (h : MapF key w r f) (hb : Below w.heap.size w w2) : MapF key w2 r f := by
  obtain ⟨es, clock, hh, rest⟩ := h
  exact ⟨es, clock, block_below hb hh, rest⟩
theorem MapF.same {w w2 : World} {r : Nat} {f : κ → Option Value} (h : MapF key w r f) (hb : w2.heap[r]? = w.heap[r]?) : MapF key w2 r f := by
  obtain ⟨es, clock, hh, rest⟩ := h
  exact ⟨es, clock, hb.trans hh, rest⟩
theorem MapF.new {w : World} : MapF key (w.alloc (.map #[] 0)) w.heap.size (fun (_ : κ) => none) :=
  ⟨[], 0, hnew w _, fun _ => rfl, by simp, by simp, by simp⟩

theorem lookup_run {T elem : TypeId} (hK : MapK P K key) (hu : P.underlying T = some (.map K elem)) {z : Value} (hz : ∀ w, (zeroValue elem).run P w = .ok z w) {w : World} {r : Nat} {f : κ → Option Value} (h : MapF key w r f) (q : κ) (ok : Bool) :
    (Instr.lookup T (.map (some r)) (key q) ok).run P w = .ok (if ok then .tuple #[(f q).getD z, .bool (f q).isSome] else (f q).getD z) w := by
  obtain ⟨es, clock, hh, hf, _⟩ := h
  have hg : (getObj r).run P w = .ok (.map (es.map (entry key)).toArray clock) w := by simp [getObj, Sem.run, hh]
  have e : asF es q = f q := hf q
  unfold asF at e
  simp only [Instr.lookup, Sem.run_bind, run_underlying hu, Result.andThen_ok, hg, Sem.run_pure, hK.check q _ w, findKey_run hK q es w]
  cases hfl : findL q es 0 with
  | none =>
    rw [hfl] at e
    simp only [Option.map_none] at e
    simp only [Sem.run_bind, hz w, Result.andThen_ok, Sem.run_pure, ← e, Option.getD_none, Option.isSome_none]
    first | done | (cases ok <;> rfl)
  | some p =>
    obtain ⟨j, v⟩ := p
    rw [hfl] at e
    simp only [Option.map_some] at e
    simp only [← e, Option.getD_some, Option.isSome_some]
    cases ok <;> rfl

theorem heap_put {w : World} {r : Nat} {o o' : Obj} (h : w.heap[r]? = some o) : (w.putObj r o').heap[r]? = some o' := by
  have : r < w.heap.size := hlt h
  simp [World.putObj, this]
theorem heap_put_old {w : World} {r k : Nat} {o : Obj} (h : k ≠ r) : (w.putObj r o).heap[k]? = w.heap[k]? := by
  have : ¬ r = k := fun e => h e.symm
  simp [World.putObj, this]
theorem below_put {B : Nat} {a w : World} (h : Below B a w) {r : Nat} (hr : B ≤ r) (o : Obj) : Below B a (w.putObj r o) :=
  h.trans ⟨rfl, rfl, rfl, by simp [World.putObj], fun k hk => heap_put_old (by omega)⟩
theorem grown_put (w : World) (r : Nat) (o : Obj) : w.grownBy (w.putObj r o) (some r) :=
  ⟨rfl, rfl, rfl, by simp [World.putObj], fun k _ hne => heap_put_old (fun e => hne (by rw [e]))⟩

theorem getD_self {α : Type} (f : κ → Option α) (q : κ) (z : α) (h : (f q).isSome) (q' : κ) : (if q' = q then some ((f q).getD z) else f q') = f q' := by
  split
  · rename_i e; subst e; obtain ⟨v, hv⟩ := Option.isSome_iff_exists.1 h; simp [hv]
  · rfl

/-- 'm[k]' on its way to a store: the entry is there behind it. -/
theorem mapEntry_run {T elem : TypeId} (hK : MapK P K key) (hu : P.underlying T = some (.map K elem)) {z : Value} (hz : ∀ w, (zeroValue elem).run P w = .ok z w) {w : World} {r : Nat} {f : κ → Option Value} (h : MapF key w r f) (q : κ) :
    ∃ (born : Nat) (o : Obj), (Instr.mapEntry T (.map (some r)) (key q)).run P w = .ok (.tuple #[(f q).getD z, .int .i64 born]) (w.putObj r o) ∧
      MapS key (w.putObj r o) r (fun q' => if q' = q then some ((f q).getD z) else f q') q born := by
  obtain ⟨es, clock, hh, hf, hn, hb, hc⟩ := h
  have hg : (getObj r).run P w = .ok (.map (es.map (entry key)).toArray clock) w := by simp [getObj, Sem.run, hh]
  have hset : ∀ o, (setObj r o).run P w = .ok () (w.putObj r o) := fun o => by simp [setObj, Sem.run, hh, World.putObj]
  have e : asF es q = f q := hf q
  unfold asF at e
  simp only [Instr.mapEntry, Sem.run_bind, run_underlying hu, Result.andThen_ok, hg, hK.check q _ w, findKey_run hK q es w]
  cases hfl : findL q es 0 with
  | none =>
    rw [hfl] at e
    simp only [Option.map_none] at e
    refine ⟨clock, .map ((es ++ [(q, z, clock)]).map (entry key)).toArray (clock + 1), ?_, ?_⟩
    · have e2 : (es.map (entry key)).toArray.push { key := key q, val := z, born := clock } = ((es ++ [(q, z, clock)]).map (entry key)).toArray := by
        rw [← Array.toList_inj]; simp [entry]
      simp only [Sem.run_bind, hz w, Result.andThen_ok, e2, hset, Sem.run_pure, goInt, ← e, Option.getD_none]
    · refine ⟨es ++ [(q, z, clock)], clock + 1, heap_put hh, fun q' => ?_, ?_, ?_, ?_, z, by simp⟩
      · rw [asF_append]
        by_cases hq : q' = q
        · subst hq
          rw [hf q', ← e]; simp
        · simp [hq, hf q']
      · rw [List.map_append, List.map_cons, List.map_nil]
        refine List.nodup_append.2 ⟨hn, by simp, ?_⟩
        intro a ha b hb'
        simp only [List.mem_singleton] at hb'
        subst hb'
        obtain ⟨x, hx, rfl⟩ := List.mem_map.1 ha
        exact findL_none hfl x hx
      · rw [List.map_append, List.map_cons, List.map_nil]
        refine List.nodup_append.2 ⟨hb, by simp, ?_⟩
        intro a ha b hb'
        simp only [List.mem_singleton] at hb'
        subst hb'
        obtain ⟨x, hx, rfl⟩ := List.mem_map.1 ha
        exact Nat.ne_of_lt (hc x hx)
      · intro x hx
        rw [List.mem_append] at hx
        rcases hx with hx | hx
        · exact Nat.lt_succ_of_lt (hc x hx)
        · simp only [List.mem_singleton] at hx; subst hx; exact Nat.lt_succ_self _
  | some p =>
    obtain ⟨j, v⟩ := p
    rw [hfl] at e
    simp only [Option.map_some] at e
    obtain ⟨b, _, hj⟩ := findL_some hfl
    rw [Nat.sub_zero] at hj
    have hje : (es.map (entry key)).toArray[j]? = some (entry key (q, v, b)) := by simp [hj]
    have hmod : (es.map (entry key)).toArray.modify j (fun e => { e with key := key q }) = (es.map (entry key)).toArray := by
      apply Array.ext_getElem?
      intro i
      rw [Array.getElem?_modify]
      split
      · rename_i hij
        subst hij
        rw [hje]; simp [entry]
      · rfl
    refine ⟨b, .map (es.map (entry key)).toArray clock, ?_, ?_⟩
    · simp only [hje, Option.map_some, Option.getD_some, entry, Instr.keyThatStays, hK.same q, if_true, Sem.run_pure, Result.andThen_ok, Sem.run_bind]
      have hmod' := hmod
      rw [hmod', hset]
      simp only [Result.andThen_ok, goInt, ← e, Option.getD_some]
    · refine ⟨es, clock, heap_put hh, fun q' => ?_, hn, hb, hc, v, List.mem_of_getElem? hj⟩
      rw [hf q']
      exact (getD_self f q z (by rw [← e]; rfl) q').symm

theorem asF_mem {q : κ} {v : Value} {b : Nat} : ∀ {es : List (Ent κ)}, (es.map (·.1)).Nodup → (q, v, b) ∈ es → asF es q = some v
  | [], _, h => by simp at h
  | e :: r, hn, h => by
    rw [List.map_cons, List.nodup_cons] at hn
    rw [asF_cons]
    cases h with
    | head => simp
    | tail _ h =>
      have : q ≠ e.1 := fun hq => hn.1 (List.mem_map.2 ⟨_, h, hq⟩)
      rw [if_neg this]
      exact asF_mem hn.2 h

theorem asF_set {born : Nat} (x : Value) (q : κ) (q' : κ) : ∀ (es : List (Ent κ)), (es.map (·.1)).Nodup → (∃ v, (q, v, born) ∈ es) → (∀ e ∈ es, e.2.2 = born → e.1 = q) →
    asF (es.map fun e => if e.2.2 = born then (e.1, x, e.2.2) else e) q' = if q' = q then some x else asF es q'
  | [], _, ⟨v, h⟩, _ => by simp at h
  | e :: r, hn, ⟨v, hm⟩, hb => by
    rw [List.map_cons, List.nodup_cons] at hn
    rw [List.map_cons, asF_cons, asF_cons]
    by_cases he : e.2.2 = born
    · have hq : e.1 = q := hb e List.mem_cons_self he
      simp only [he, if_true]
      rw [hq]
      by_cases hqq : q' = q
      · simp [hqq]
      · simp only [hqq, if_false]
        -- behind it none is of that birth
        have hrest : ∀ (l : List (Ent κ)), (∀ e ∈ l, e.2.2 = born → e.1 = q) → q ∉ l.map (·.1) → l.map (fun e => if e.2.2 = born then (e.1, x, e.2.2) else e) = l := by
          intro l
          induction l with
          | nil => intros; rfl
          | cons y l ih =>
            intro h1 h2
            have hy : ¬ y.2.2 = born := fun hy => h2 (List.mem_map.2 ⟨y, List.mem_cons_self, h1 y List.mem_cons_self hy⟩)
            rw [List.map_cons, if_neg hy, ih (fun z hz => h1 z (List.mem_cons_of_mem _ hz)) (fun hz => h2 (by rw [List.map_cons]; exact List.mem_cons_of_mem _ hz))]
        rw [hrest r (fun z hz => hb z (List.mem_cons_of_mem _ hz)) (by rw [← hq]; exact hn.1)]
    · have hm' : (q, v, born) ∈ r := by
        cases hm with
        | head => exact absurd rfl he
        | tail _ h => exact h
      simp only [he, if_false]
      have hqe : q ≠ e.1 := fun hq => hn.1 (List.mem_map.2 ⟨_, hm', hq⟩)
      rw [asF_set x q q' r hn.2 ⟨v, hm'⟩ (fun z hz => hb z (List.mem_cons_of_mem _ hz))]
      by_cases hqq : q' = q
      · subst hqq; simp [hqe]
      · simp [hqq]

omit [DecidableEq κ] in
theorem findIdx_born {born : Nat} {x : Value} : ∀ (es : List (Ent κ)), (es.map (·.2.2)).Nodup → (∃ q v, (q, v, born) ∈ es) → ∃ i, (es.map (entry key)).findIdx? (fun e => (e.born : Int) == (born : Int)) = some i ∧
    (es.map (entry key)).modify i (fun e => { e with val := x }) = (es.map fun e => if e.2.2 = born then (e.1, x, e.2.2) else e).map (entry key)
  | [], _, ⟨q, v, h⟩ => by simp at h
  | e :: r, hn, ⟨q, v, hm⟩ => by
    rw [List.map_cons, List.nodup_cons] at hn
    by_cases he : e.2.2 = born
    · refine ⟨0, by simp [List.findIdx?_cons, entry, he], ?_⟩
      have hrest : ∀ (l : List (Ent κ)), born ∉ l.map (·.2.2) → l.map (fun e => if e.2.2 = born then (e.1, x, e.2.2) else e) = l := by
        intro l
        induction l with
        | nil => intros; rfl
        | cons y l ih =>
          intro h2
          have hy : ¬ y.2.2 = born := fun hy => h2 (List.mem_map.2 ⟨y, List.mem_cons_self, hy⟩)
          rw [List.map_cons, if_neg hy, ih (fun hz => h2 (by rw [List.map_cons]; exact List.mem_cons_of_mem _ hz))]
      rw [List.map_cons, List.map_cons, List.map_cons, hrest r (by rw [← he]; exact hn.1)]
      simp [entry, he]
    · have hm' : (q, v, born) ∈ r := by
        cases hm with
        | head => exact absurd rfl he
        | tail _ h => exact h
      obtain ⟨i, h1, h2⟩ := findIdx_born r hn.2 ⟨q, v, hm'⟩
      have hne : ((entry key e).born : Int) ≠ (born : Int) := by simp only [entry]; omega
      refine ⟨i + 1, ?_, ?_⟩
      · rw [List.map_cons, List.findIdx?_cons]
        simp [hne, h1]
      · rw [List.map_cons, List.modify_succ_cons, h2, List.map_cons, List.map_cons, if_neg he]

/-- The store into it. -/
theorem entryStore_run {T : TypeId} {w : World} {r : Nat} {f : κ → Option Value} {q : κ} {born : Nat} (h : MapS key w r f q born) (x : Value) :
    ∃ o, (Instr.entryStore T (.map (some r)) (.int .i64 born) x).run P w = .ok () (w.putObj r o) ∧ MapF key (w.putObj r o) r (fun q' => if q' = q then some x else f q') := by
  obtain ⟨es, clock, hh, hf, hn, hb, hc, v, hm⟩ := h
  have hg : (getObj r).run P w = .ok (.map (es.map (entry key)).toArray clock) w := by simp [getObj, Sem.run, hh]
  have hset : ∀ o, (setObj r o).run P w = .ok () (w.putObj r o) := fun o => by simp [setObj, Sem.run, hh, World.putObj]
  obtain ⟨i, h1, h2⟩ := findIdx_born (key := key) (x := x) es hb ⟨q, v, hm⟩
  have hbq : ∀ e ∈ es, e.2.2 = born → e.1 = q := fun e he hbe => by
    obtain ⟨i, hi, e1⟩ := List.getElem_of_mem he
    obtain ⟨j, hj, e2⟩ := List.getElem_of_mem hm
    have : i = j := by
      by_cases hij : i = j
      · exact hij
      · exfalso
        have h3 := (List.pairwise_iff_getElem.1 hb)
        rcases Nat.lt_or_gt_of_ne hij with hlt | hlt
        · exact h3 i j (by simpa using hi) (by simpa using hj) hlt (by simp [e1, e2, hbe])
        · exact h3 j i (by simpa using hj) (by simpa using hi) hlt (by simp [e1, e2, hbe])
    subst this
    rw [e1] at e2
    rw [e2]
  refine ⟨.map ((es.map fun e => if e.2.2 = born then (e.1, x, e.2.2) else e).map (entry key)).toArray clock, ?_, ?_⟩
  · have h1' : (es.map (entry key)).toArray.findIdx? (fun e => (e.born : Int) == (born : Int)) = some i := by simpa using h1
    have h2' : (es.map (entry key)).toArray.modify i (fun e => { e with val := x }) = ((es.map fun e => if e.2.2 = born then (e.1, x, e.2.2) else e).map (entry key)).toArray := by
      rw [← h2]; simp
    simp only [Instr.entryStore, Sem.run_bind, Sem.run_pure, Result.andThen_ok, hg, asInt, asIntOf, h1', h2', hset]
  · refine ⟨_, clock, heap_put hh, fun q' => ?_, ?_, ?_, ?_⟩
    · rw [asF_set x q q' es hn ⟨v, hm⟩ hbq, hf q']
    · have : (es.map fun e => if e.2.2 = born then (e.1, x, e.2.2) else e).map (·.1) = es.map (·.1) := by
        rw [List.map_map]; apply List.map_congr_left; intro e _; simp only [Function.comp_apply]; split <;> rfl
      rw [this]; exact hn
    · have : (es.map fun e => if e.2.2 = born then (e.1, x, e.2.2) else e).map (·.2.2) = es.map (·.2.2) := by
        rw [List.map_map]; apply List.map_congr_left; intro e _; simp only [Function.comp_apply]; split <;> rfl
      rw [this]; exact hb
    · intro e he
      obtain ⟨y, hy, rfl⟩ := List.mem_map.1 he
      split
      · exact hc y hy
      · exact hc y hy

end
end Go.Vc
namespace Go.Vc
open Go.RowKit

/-- An iterator's own steps: what lay ahead of it and what the rounds may write lie as they lay. -/
structure Step (n0 : Nat) (Fp : World → Nat → Prop) (A B : World) : Prop where
  os : B.os = A.os
  tape : B.tape = A.tape
  output : B.output = A.output
  size : A.heap.size ≤ B.heap.size
  same : ∀ k, k < A.heap.size → (k < n0 ∨ Fp A k) → B.heap[k]? = A.heap[k]?

/-- A round: only what it may write is written; what it may write grows by new blocks alone. -/
structure Keeps (Fp : World → Nat → Prop) (A B : World) : Prop where
  os : B.os = A.os
  tape : B.tape = A.tape
  output : B.output = A.output
  size : A.heap.size ≤ B.heap.size
  same : ∀ k, k < A.heap.size → ¬ Fp A k → B.heap[k]? = A.heap[k]?
  fp : ∀ k, Fp B k → Fp A k ∨ A.heap.size ≤ k

structure IterJ {σ : Type} (n0 : Nat) (Fp : World → Nat → Prop) (J : σ → World → Prop) : Prop where
  step : ∀ s A B, J s A → Step n0 Fp A B → J s B ∧ ∀ k, Fp B k → Fp A k
  lt : ∀ s A k, J s A → Fp A k → k < A.heap.size

theorem Step.mono {n0 n1 : Nat} {Fp : World → Nat → Prop} {A B : World} (h : Step n0 Fp A B) (hn : n1 ≤ n0) : Step n1 Fp A B :=
  ⟨h.os, h.tape, h.output, h.size, fun k hk hf => h.same k hk (hf.imp (fun h => Nat.lt_of_lt_of_le h hn) id)⟩
theorem IterJ.mono {σ : Type} {n0 n1 : Nat} {Fp : World → Nat → Prop} {J : σ → World → Prop} (h : IterJ n0 Fp J) (hn : n0 ≤ n1) : IterJ n1 Fp J :=
  ⟨fun s A B hj hs => h.step s A B hj (hs.mono hn), h.lt⟩

theorem Step.of_below {n0 : Nat} {Fp : World → Nat → Prop} {A B : World} (h : Below A.heap.size A B) : Step n0 Fp A B :=
  ⟨h.os, h.tape, h.output, h.size, fun k hk _ => h.block k hk⟩
theorem Step.alloc {n0 : Nat} {Fp : World → Nat → Prop} (A : World) (o : Obj) : Step n0 Fp A (A.alloc o) := .of_below ((Below.refl _ A).alloc (Nat.le_refl _) o)
theorem Step.drew {n0 : Nat} {Fp : World → Nat → Prop} (A : World) : Step n0 Fp A A.drew := .of_below (Below.refl _ A).drew
theorem Step.put {n0 : Nat} {Fp : World → Nat → Prop} {A : World} {l : Nat} (h : n0 ≤ l) (hf : ¬ Fp A l) (o : Obj) : Step n0 Fp A (A.putObj l o) :=
  ⟨rfl, rfl, rfl, by simp [World.putObj], fun k _ hk => heap_put_old (fun e => by subst e; rcases hk with hk | hk; omega; exact hf hk)⟩
theorem Step.row {n0 : Nat} {Fp : World → Nat → Prop} {A : World} {l : Nat} (h : n0 ≤ l) (hf : ¬ Fp A l) (cs : Array Value) : Step n0 Fp A (A.setRow l cs) :=
  ⟨rfl, rfl, rfl, by simp, fun k _ hk => setRow_old (fun e => by subst e; rcases hk with hk | hk; omega; exact hf hk)⟩

theorem YieldR.mono {P : Program} {l : Nat} {args : Array Value} {w : World} {K K' : Value → World → Prop} (h : YieldR P l args w K) (hk : ∀ v w, K v w → K' v w) : YieldR P l args w K' := by
  obtain ⟨fn, tmps, assign, body, hy, hR⟩ := h
  exact ⟨fn, tmps, assign, body, hy, hR.mono fun e w' he => by cases e <;> first | exact hk _ _ he | exact he⟩

/-- **What an iterator owes**: it hands the elements of xs to yield, in order, till yield says no. -/
def IterS {α : Type} (P : Program) (g : Nat) (lb : List Value) (enc : α → List Value) (xs : List α) (W0 : World) (Rd : Nat → Prop) : Prop :=
  ∀ (l : Nat) (Fp : World → Nat → Prop) (J Jx : List α → World → Prop) (W : World), W0.heap.size ≤ W.heap.size → (∀ k, Rd k → W.heap[k]? = W0.heap[k]?) → (∀ k, Rd k → ¬ Fp W k) →
    IterJ W.heap.size Fp J → IterJ W.heap.size Fp Jx →
    (∀ pre x W1, J pre W1 → (pre ++ [x]) <+: xs → YieldR P l (enc x).toArray W1 fun v W2 =>
      (v = .bool true ∧ J (pre ++ [x]) W2 ∧ Keeps Fp W1 W2) ∨ (v = .bool false ∧ Jx (pre ++ [x]) W2)) →
    J [] W →
    Calls P g (.func (.yield l) #[] #[] :: lb).toArray W fun e W' => (∃ v, e = .returned v) ∧ (J xs W' ∨ ∃ pre, pre <+: xs ∧ Jx pre W')

def setL : List Nat → List Value → VEnv → VEnv
  | p :: ps, v :: vs, E => setL ps vs ((p, v) :: E)
  | _, _, E => E

theorem setL_agrees {S : Sig} : ∀ (ps : List Nat) (vs : List Value) (a : Act) (E : Env), Agrees S a E → (∀ p ∈ ps, p < S.n) →
    Agrees S { a with tmps := (ps.zip vs).foldl (fun t (p, v) => t.setIfInBounds p v) a.tmps } ⟨setL ps vs E.vs, E.ds⟩
  | [], vs, a, E, h, _ => by simpa [setL] using h
  | p :: ps, [], a, E, h, _ => by simpa [setL] using h
  | p :: ps, v :: vs, a, E, h, hp => by
    have h1 := h.put (dst := some p) (by simpa [okDst] using hp p List.mem_cons_self) v
    have h2 := setL_agrees ps vs (a.put (some p) v) (setE (some p) v E) h1 (fun q hq => hp q (List.mem_cons_of_mem _ hq))
    simpa [setL, setE, Act.put] using h2

def sr (S : Sig) (l : Nat) : Sig := { S with r := some l }
theorem sr_ok {S : Sig} (h : SigOk S) (l : Nat) : SigOk (sr S l) := ⟨h.ty, h.call, h.mixed⟩

/-- How a round may end. -/
def bodyQ {α : Type} (Fp : World → Nat → Prop) (J : List α → World → Prop) (Jx : Exit → List α → World → Prop) (xs : List α) (A : World) : Exit → Env → World → Prop
  | .normal, _, B => J xs B ∧ Keeps Fp A B
  | .ret, _, B => Jx .ret xs B ∧ Keeps Fp A B
  | .exit id, _, B => Jx (.exit id) xs B ∧ Keeps Fp A B
  | _, _, _ => False

theorem Keeps.trans {Fp : World → Nat → Prop} {A B C : World} (h : Keeps Fp A B) (k : Keeps Fp B C) : Keeps Fp A C :=
  ⟨k.os.trans h.os, k.tape.trans h.tape, k.output.trans h.output, Nat.le_trans h.size k.size,
   fun i hi hf => (k.same i (Nat.lt_of_lt_of_le hi h.size) (fun hb => by rcases h.fp i hb with h1 | h1; exact hf h1; omega)).trans (h.same i hi hf),
   fun i hi => by
     rcases k.fp i hi with h1 | h1
     · exact h.fp i h1
     · exact .inr (Nat.le_trans h.size h1)⟩
theorem Keeps.refl (Fp : World → Nat → Prop) (A : World) : Keeps Fp A A := ⟨rfl, rfl, rfl, Nat.le_refl _, fun _ _ _ => rfl, fun _ h => .inl h⟩
theorem Keeps.of_below {Fp : World → Nat → Prop} {A B : World} (h : Below A.heap.size A B) (hf : ∀ k, Fp B k → Fp A k ∨ A.heap.size ≤ k) : Keeps Fp A B :=
  ⟨h.os, h.tape, h.output, h.size, fun k hk _ => h.block k hk, hf⟩

/-- **The law for a loop over an iterator** (not within another such loop's round). -/
theorem rangeE {α : Type} {S : Sig} (hS : SigOk S) (hr : S.r = none) {f : Operand} {ps : Array Tmp} {assign body : Code} {E : Env} {w : World} {Q : Exit → Env → World → Prop}
    {gf : Nat} {lb : Array Value} (hg : opd E f = some (.func (.func gf) #[] lb)) (hok : calleeOk S gf = true)
    {enc : α → List Value} {xs : List α} {W0 : World} {Rd : Nat → Prop} (hI : IterS S.P gf lb.toList enc xs W0 Rd) (hW0 : W0.heap.size ≤ w.heap.size) (hRd : ∀ k, Rd k → k < W0.heap.size ∧ w.heap[k]? = W0.heap[k]?)
    (hps : ∀ x, (enc x).length = ps.size) (hpn : ∀ p ∈ ps.toList, p < S.n)
    (Fp : World → Nat → Prop) (J : List α → World → Prop) (Jx : Exit → List α → World → Prop) (hRF : ∀ k, Rd k → ¬ Fp w k)
    (hJ : IterJ w.heap.size Fp J) (hJx : ∀ ex, IterJ w.heap.size Fp (Jx ex)) (h0 : J [] w)
    (hround : ∀ (l : Nat) (pre : List α) (x : α) (W : World), w.heap.size ≤ l → (pre ++ [x]) <+: xs → J pre W → ¬ Fp W l → l < W.heap.size →
      wpE (sr S l) assign ⟨setL ps.toList (enc x) E.vs, []⟩ W fun ex E1 W1 => ex = .normal ∧ Keeps Fp W W1 ∧ J pre W1 ∧
        ∀ o W2, W2 = W1.putObj l o → J pre W2 → (∀ k, Fp W2 k → Fp W1 k) → wpE (sr S l) body E1 W2 (bodyQ Fp J Jx (pre ++ [x]) W2))
    (hdone : ∀ D W, w.heap.size ≤ D → ¬ Fp W D → J xs W → W.heap[D]? = some (.deferred (some [])) → Q .normal ⟨E.vs, { target := .collected D, args := #[] } :: E.ds⟩ W)
    (hstop : ∀ D ex pre W, w.heap.size ≤ D → ¬ Fp W D → pre <+: xs → Jx ex pre W → W.heap[D]? = some (.deferred (some [])) → Q ex ⟨E.vs, { target := .collected D, args := #[] } :: E.ds⟩ W) :
    RangeE S f ps assign body E w Q := by
  intro a ha
  have hcall : ∀ args w, (callFunc gf args).run S.P w = .ok (.enter gf args) w := by
    simp only [calleeOk, Bool.and_eq_true, Nat.ble_eq, Nat.blt_eq] at hok
    exact fun args w => hS.call gf hok.1.1 hok.1.2 hok.2 args w
  refine wpIn_rangeFunc ?_
  intro fn hfn
  have hro : (FR S.r).round = none := hr
  rw [hro]
  obtain ⟨rec, hrec⟩ : ∃ rec : LoopState → Option Code → Loop, rec = fun st pe => { state := st, pending := pe, fn, tmps := a.tmps, params := ps, assign, body, defers := w.heap.size } := ⟨_, rfl⟩
  obtain ⟨W1, hW1⟩ : ∃ W1, (w.alloc (.deferred (some []))).alloc (.loop (rec .ready none)) = W1 := ⟨_, rfl⟩
  have hK0 := hnew w (.deferred (some []))
  have hK1 : W1.heap[w.heap.size]? = some (.deferred (some [])) := by rw [← hW1]; exact hold _ hK0
  have hL1 : W1.heap[w.heap.size + 1]? = some (.loop (rec .ready none)) := by
    rw [← hW1]; have := hnew (w.alloc (.deferred (some []))) (.loop (rec .ready none)); rwa [World.size_alloc] at this
  have hs1 : W1.heap.size = w.heap.size + 2 := by rw [← hW1]; simp
  have hst1 : Step w.heap.size Fp w W1 := by
    rw [← hW1]; exact .of_below (((Below.refl _ w).alloc (Nat.le_refl _) _).alloc (by simp) _)
  obtain ⟨hJ1, hF1⟩ := hJ.step _ _ _ h0 hst1
  have hFl : ∀ k, Fp W1 k → k < w.heap.size := fun k hk => hJ.lt _ _ k h0 (hF1 k hk)
  refine ⟨w.heap.size + 1, [{ target := .collected w.heap.size, args := #[] }], W1, { target := .fn (.func gf) lb, args := #[.func (.yield (w.heap.size + 1)) #[] #[]] }, W1, gf,
    #[.func (.yield (w.heap.size + 1)) #[] #[]] ++ lb, W1, ?_, ?_, fun _ _ => trivial, ?_, fun h => by simp [FR] at h, ?_⟩
  · rw [← hW1, hrec]; exact run_enterLoop_outer _ _ _ _ _
  · have hg' := ha.eval hg
    simp only [resolve, hg']
    simp [go_sem]
  · simp [invoke, go_sem, hcall]
  · have hargs : #[Value.func (.yield (w.heap.size + 1)) #[] #[]] ++ lb = (Value.func (.yield (w.heap.size + 1)) #[] #[] :: lb.toList).toArray := by rw [← Array.toList_inj]; simp
    rw [hargs]
    -- the caller's word, with the book-keeping beside it
    have book : ∀ {σ : Type} {K : σ → World → Prop} (lo : Loop), IterJ w.heap.size Fp K → IterJ W1.heap.size Fp (fun s W => K s W ∧ W.heap[w.heap.size + 1]? = some (.loop lo) ∧ W.heap[w.heap.size]? = some (.deferred (some [])) ∧ ¬ Fp W (w.heap.size + 1) ∧ ¬ Fp W w.heap.size) := by
      intro σ K lo hK
      refine ⟨fun s A B ⟨hk, hl, hd, hf1, hf2⟩ hs => ?_, fun s A k ⟨hk, _⟩ hf => hK.lt s A k hk hf⟩
      obtain ⟨h1, h2⟩ := hK.step s A B hk (hs.mono (by omega))
      exact ⟨⟨h1, (hs.same _ (hlt hl) (.inl (by omega))).trans hl, (hs.same _ (hlt hd) (.inl (by omega))).trans hd, fun h => hf1 (h2 _ h), fun h => hf2 (h2 _ h)⟩, h2⟩
    have hcalls := hI (w.heap.size + 1) Fp (fun pre W => J pre W ∧ W.heap[w.heap.size + 1]? = some (.loop (rec .ready none)) ∧ W.heap[w.heap.size]? = some (.deferred (some [])) ∧ ¬ Fp W (w.heap.size + 1) ∧ ¬ Fp W w.heap.size)
      (fun pre W => ∃ ex c, ((ex = .ret ∧ c = .ret) ∨ ∃ id, ex = .exit id ∧ c = .exit id) ∧ Jx ex pre W ∧ W.heap[w.heap.size + 1]? = some (.loop (rec .done (some c))) ∧ W.heap[w.heap.size]? = some (.deferred (some [])) ∧ ¬ Fp W (w.heap.size + 1) ∧ ¬ Fp W w.heap.size)
      W1 (by omega) (fun k hk => by
        obtain ⟨h1, h2⟩ := hRd k hk
        rw [← h2]
        exact hst1.same k (by omega) (.inl (by omega))) (fun k hk hf => hRF k hk (hF1 k hf)) (book _ hJ)
      ⟨fun s A B ⟨ex, c, hc, hrest⟩ hs => by
        have := (book (rec .done (some c)) (hJx ex)).step s A B hrest hs
        exact ⟨⟨ex, c, hc, this.1⟩, this.2⟩,
       fun s A k ⟨ex, c, hc, hrest⟩ hf => (hJx ex).lt s A k hrest.1 hf⟩ ?_ ⟨hJ1, hL1, hK1, fun h => by have := hFl _ h; omega, fun h => by have := hFl _ h; omega⟩
    · refine callsIn_of (hcalls.mono ?_)
      rintro e W2 ⟨⟨v, rfl⟩, (⟨hj, hl, hk, hf1, hf2⟩ | ⟨pre, hpre, ex, c, hc, hj, hl, hk, hf1, hf2⟩)⟩
      · have hst : Step w.heap.size Fp W2 (W2.putObj (w.heap.size + 1) (.loop (rec .exhausted none))) := .put (by omega) hf1 _
        obtain ⟨hj2, hfp2⟩ := hJ.step _ _ _ hj hst
        refine ⟨none, _, by have := run_endLoop (P := S.P) hl (by rw [hrec]; simp); rw [hrec] at this; exact this, ?_⟩
        rw [hrec] at hj2 hfp2
        exact ⟨⟨E.vs, { target := .collected w.heap.size, args := #[] } :: E.ds⟩, ⟨ha.size, by simp [ha.defers], ha.val⟩, hdone w.heap.size _ (Nat.le_refl _) (fun h => hf2 (hfp2 _ h)) hj2 ((heap_put_old (by omega)).trans hk)⟩
      · have hst : Step w.heap.size Fp W2 (W2.putObj (w.heap.size + 1) (.loop (rec .exhausted (some c)))) := .put (by omega) hf1 _
        obtain ⟨hj2, hfp2⟩ := (hJx ex).step _ _ _ hj hst
        refine ⟨some c, _, by have := run_endLoop (P := S.P) hl (by rw [hrec]; simp); rw [hrec] at this; exact this, ?_⟩
        rw [hrec] at hj2 hfp2
        have hq := hstop w.heap.size ex pre _ (Nat.le_refl _) (fun h => hf2 (hfp2 _ h)) hpre hj2 ((heap_put_old (by omega)).trans hk)
        rcases hc with ⟨rfl, rfl⟩ | ⟨id, rfl, rfl⟩
        · exact wpIn_ret ⟨⟨E.vs, { target := .collected w.heap.size, args := #[] } :: E.ds⟩, ⟨ha.size, by simp [ha.defers], ha.val⟩, hq⟩
        · exact wpIn_exit ⟨⟨E.vs, { target := .collected w.heap.size, args := #[] } :: E.ds⟩, ⟨ha.size, by simp [ha.defers], ha.val⟩, hq⟩
    · -- one round
      rintro pre x W ⟨hj, hl, hk, hf1, hf2⟩ hpre
      have hy := run_yield (P := S.P) (args := (enc x).toArray) hl (by rw [hrec]; simpa using hps x)
      rw [hrec] at hy
      refine ⟨fn, _, assign, body, hy, roundIn_any (r := none) (n := NN) (roundIn_of_wpIn (F := FR none) trivial ?_)⟩
      have hag : Agrees (sr S (w.heap.size + 1)) { tmps := (ps.zip (enc x).toArray).foldl (fun t (p, v) => t.setIfInBounds p v) a.tmps, defers := [] } ⟨setL ps.toList (enc x) E.vs, []⟩ := by
        have h1 : Agrees (sr S (w.heap.size + 1)) { a with defers := [] } ⟨E.vs, []⟩ := ⟨ha.size, rfl, ha.val⟩
        have h2 := setL_agrees ps.toList (enc x) _ _ h1 hpn
        have e : (ps.zip (enc x).toArray).foldl (fun t (p, v) => t.setIfInBounds p v) a.tmps = (ps.toList.zip (enc x)).foldl (fun t (p, v) => t.setIfInBounds p v) a.tmps := by
          rw [← Array.foldl_toList]; simp
        rw [e]; exact h2
      have hw := wpE_sound (sr_ok hS _) assign _ _ W _ hag (hround (w.heap.size + 1) pre x W (by omega) hpre hj hf1 (hlt hl))
      refine wpIn_mono hw ?_
      rintro ex a1 Wa ⟨E1, hag1, rfl, hk1, hj1, hbody⟩
      have hla := (hk1.same _ (hlt hl) hf1).trans hl
      have hka := (hk1.same _ (hlt hk) hf2).trans hk
      have hfa1 : ¬ Fp Wa (w.heap.size + 1) := fun h => by rcases hk1.fp _ h with h | h; exact hf1 h; have := hlt hl; omega
      have hfa2 : ¬ Fp Wa w.heap.size := fun h => by rcases hk1.fp _ h with h | h; exact hf2 h; have := hlt hk; omega
      refine ⟨_, run_beginRound hla (by rw [hrec]), ?_⟩
      have hst : Step w.heap.size Fp Wa (Wa.putObj (w.heap.size + 1) (.loop { rec .ready none with state := .busy })) := .put (by omega) hfa1 _
      obtain ⟨hj2, hfp2⟩ := hJ.step _ _ _ hj1 hst
      have hw2 := wpE_sound (sr_ok hS _) body _ _ _ _ hag1 (hbody _ _ rfl hj2 hfp2)
      refine wpIn_mono hw2 ?_
      have hl2 : (Wa.putObj (w.heap.size + 1) (.loop { rec .ready none with state := .busy })).heap[w.heap.size + 1]? = some (.loop { rec .ready none with state := .busy }) := heap_put hla
      have hk2 : (Wa.putObj (w.heap.size + 1) (.loop { rec .ready none with state := .busy })).heap[w.heap.size]? = some (.deferred (some [])) := (heap_put_old (by omega)).trans hka
      have hfb1 : ¬ Fp (Wa.putObj (w.heap.size + 1) (.loop { rec .ready none with state := .busy })) (w.heap.size + 1) := fun h => hfa1 (hfp2 _ h)
      have hfb2 : ¬ Fp (Wa.putObj (w.heap.size + 1) (.loop { rec .ready none with state := .busy })) w.heap.size := fun h => hfa2 (hfp2 _ h)
      have fin : ∀ (jump : Option Code) (W3 : World), Keeps Fp (Wa.putObj (w.heap.size + 1) (.loop { rec .ready none with state := .busy })) W3 →
          (Instr.endRound (w.heap.size + 1) jump).run S.P W3 = .ok (.bool jump.isNone) (W3.putObj (w.heap.size + 1) (.loop (rec (if jump.isNone then .ready else .done) jump))) ∧
          (W3.putObj (w.heap.size + 1) (.loop (rec (if jump.isNone then .ready else .done) jump))).heap[w.heap.size + 1]? = some (.loop (rec (if jump.isNone then .ready else .done) jump)) ∧
          (W3.putObj (w.heap.size + 1) (.loop (rec (if jump.isNone then .ready else .done) jump))).heap[w.heap.size]? = some (.deferred (some [])) ∧
          Step w.heap.size Fp W3 (W3.putObj (w.heap.size + 1) (.loop (rec (if jump.isNone then .ready else .done) jump))) ∧ ¬ Fp W3 (w.heap.size + 1) ∧ ¬ Fp W3 w.heap.size := fun jump W3 hk3 => by
        have hl3 := (hk3.same _ (hlt hl2) hfb1).trans hl2
        have hd3 := (hk3.same _ (hlt hk2) hfb2).trans hk2
        have hf31 : ¬ Fp W3 (w.heap.size + 1) := fun h => by rcases hk3.fp _ h with h | h; exact hfb1 h; have := hlt hl2; omega
        have hf32 : ¬ Fp W3 w.heap.size := fun h => by rcases hk3.fp _ h with h | h; exact hfb2 h; have := hlt hk2; omega
        have := run_endRound (P := S.P) jump hl3
        rw [hrec] at this ⊢
        exact ⟨this, heap_put hl3, (heap_put_old (by omega)).trans hd3, .put (by omega) hf31 _, hf31, hf32⟩
      rintro e a3 W3 ⟨E3, _, hq⟩
      cases e with
      | normal =>
        obtain ⟨hj3, hk3⟩ := hq
        obtain ⟨hr3, hl4, hk4, hs3, hf31, hf32⟩ := fin none W3 hk3
        obtain ⟨hj4, hfp4⟩ := hJ.step _ _ _ hj3 hs3
        refine ⟨_, _, hr3, .inl ⟨rfl, ⟨hj4, hl4, hk4, fun h => hf31 (hfp4 _ h), fun h => hf32 (hfp4 _ h)⟩, ?_⟩⟩
        -- the record is as it was
        refine ⟨hs3.os.trans (hk3.os.trans hk1.os), hs3.tape.trans (hk3.tape.trans hk1.tape), hs3.output.trans (hk3.output.trans hk1.output), ?_, fun k hk5 hf5 => ?_, fun k hk5 => ?_⟩
        · have h1 := hk1.size; have h2 := hst.size; have h3 := hk3.size; have h4 := hs3.size; omega
        · by_cases hkl : k = w.heap.size + 1
          · subst hkl; rw [hl4, hl]; rfl
          · have h1 : ¬ Fp Wa k := fun h => by rcases hk1.fp _ h with h | h; exact hf5 h; omega
            have h2 := hk1.size; have h3 := hst.size
            rw [heap_put_old hkl, hk3.same k (by omega) (fun h => h1 (hfp2 _ h)), heap_put_old hkl]
            exact hk1.same k hk5 hf5
        · have h1 := hfp4 _ hk5
          rcases hk3.fp _ h1 with h2 | h2
          · exact hk1.fp _ (hfp2 _ h2)
          · have h3 := hk1.size; have h4 := hst.size; exact .inr (by omega)
      | ret =>
        obtain ⟨hj3, hk3⟩ := hq
        obtain ⟨hr3, hl4, hk4, hs3, hf31, hf32⟩ := fin (some .ret) W3 hk3
        obtain ⟨hj4, hfp4⟩ := (hJx .ret).step _ _ _ hj3 hs3
        exact ⟨_, _, hr3, .inr ⟨rfl, .ret, .ret, .inl ⟨rfl, rfl⟩, hj4, hl4, hk4, fun h => hf31 (hfp4 _ h), fun h => hf32 (hfp4 _ h)⟩⟩
      | exit id =>
        obtain ⟨hj3, hk3⟩ := hq
        obtain ⟨hr3, hl4, hk4, hs3, hf31, hf32⟩ := fin (some (.exit id)) W3 hk3
        obtain ⟨hj4, hfp4⟩ := (hJx (.exit id)).step _ _ _ hj3 hs3
        exact ⟨_, _, hr3, .inr ⟨rfl, .exit id, .exit id, .inr ⟨id, rfl, rfl⟩, hj4, hl4, hk4, fun h => hf31 (hfp4 _ h), fun h => hf32 (hfp4 _ h)⟩⟩
      | goto t => exact hq.elim
      | panic ch => exact hq.elim
      | outgrown => exact hq.elim

/-! ### A box of one's own, and trees of orders -/
theorem store_new {P : Program} {X : World} {T : TypeId} {iT : TI} (hT : TIok P T iT) {cs : Array Value} {t : TypeId} {v : Value} (hv : v.cells.size = iT.size) (hc : cs.size = iT.size)
    (h0 : v.cells.toList.all Value.oneCell' = true) {K : World → Prop}
    (k : ∀ Y, Below X.heap.size X Y → Y.heap[X.heap.size]? = some (.cells v.cells t (0, 0)) → Y.heap.size = X.heap.size + 1 → K Y) :
    SatR ((storeVar T ⟨X.heap.size, 0, none⟩ v).run P (X.alloc (.cells cs t))) fun _ w' => K w' :=
  store_box hT (hnew X _) hv hc h0 (k _ (below_setRow ((Below.refl _ X).alloc (Nat.le_refl _) _) (Nat.le_refl _) _) (setRow_new (hnew X _)) (by simp))

theorem DrawE.tree {S : Sig} {ops : Array Oper} {E : Env} {w : World} {K : Env → World → Prop} {QP : List PanicEntry → World → Prop} (X : List Nat) (T : OT)
    (h : (covT (indepB S.τ X ops) ops ops.size (Array.replicate ops.size false) T && ops.all (fun o => noSel o.op)) = true) (k : opsT S ops.toList X QP T E w.drew K) : DrawE S ops E w K QP :=
  .inr ⟨X, T, h, k⟩

end Go.Vc
namespace Go.Proofs.YtedeohcdcaimhaaGreatDoor
open Go.Vc Go.RowKit Go.Sei

def codeOf (m : Msg) : List UInt8 := [m.kind, m.from_, m.to, m.line, m.asker, m.acks, if m.alone then 1 else 0, m.d0, m.d1, m.d2, m.d3]

theorem code_c (m : Msg) (w : World) : Calls Tryz.prog 97 #[m.val] w fun e w' => e = .returned (.agg ((codeOf m).map u8).toArray) ∧ Below w.heap.size w w' := by
  refine calls_of_E (S := sg 25) (sgOk _) (args := [m.val]) Tryz.func97 rfl rfl (Nat.le_of_ble_eq_true rfl) rfl ?_
  have c1 := cells_block (hold (.cells #[.int .u8 0, .int .u8 0, .int .u8 0, .int .u8 0, .int .u8 0, .int .u8 0, .int .u8 0, .int .u8 0, .int .u8 0, .int .u8 0, .int .u8 0] 169) (hnew w (.cells m.val.cells 107)))
  refine ⟨_, cells_at c1 (i := 0) rfl, ?_⟩
  refine ⟨_, cells_at c1 (i := 1) rfl, ?_⟩
  refine ⟨_, cells_at c1 (i := 2) rfl, ?_⟩
  refine ⟨_, cells_at c1 (i := 3) rfl, ?_⟩
  refine ⟨_, cells_at c1 (i := 4) rfl, ?_⟩
  refine ⟨_, cells_at c1 (i := 5) rfl, ?_⟩
  refine ⟨[u8 m.kind, u8 m.from_, u8 m.to, u8 m.line, u8 m.asker, u8 m.acks, u8 0, u8 0, u8 0, u8 0, u8 0], rfl, ?_⟩
  obtain ⟨X, hX⟩ : ∃ X, X = (w.alloc (.cells m.val.cells 107)).alloc (.cells #[.int .u8 0, .int .u8 0, .int .u8 0, .int .u8 0, .int .u8 0, .int .u8 0, .int .u8 0, .int .u8 0, .int .u8 0, .int .u8 0, .int .u8 0] 169) := ⟨_, rfl⟩
  have hbX : Below w.heap.size w X := hX ▸ ((Below.refl _ _).alloc (Nat.le_refl _) _).alloc (by simp) _
  have f1 : X.heap[w.heap.size]? = some (.cells m.val.cells 107 (0, 0)) := by rw [hX]; exact hold _ (hnew w _)
  have f2 : X.heap[w.heap.size + 1]? = some (.cells #[.int .u8 0, .int .u8 0, .int .u8 0, .int .u8 0, .int .u8 0, .int .u8 0, .int .u8 0, .int .u8 0, .int .u8 0, .int .u8 0, .int .u8 0] 169 (0, 0)) := by
    have := hnew (w.alloc (.cells m.val.cells 107)) (.cells #[.int .u8 0, .int .u8 0, .int .u8 0, .int .u8 0, .int .u8 0, .int .u8 0, .int .u8 0, .int .u8 0, .int .u8 0, .int .u8 0, .int .u8 0] 169)
    rw [World.size_alloc] at this
    rw [hX]; exact this
  refine store_new (X := (w.alloc (.cells m.val.cells 107)).alloc (.cells #[.int .u8 0, .int .u8 0, .int .u8 0, .int .u8 0, .int .u8 0, .int .u8 0, .int .u8 0, .int .u8 0, .int .u8 0, .int .u8 0, .int .u8 0] 169)) (ttOk.get 169 _ rfl) (by rfl) rfl (by rfl) fun Y hbY f3 sY => ?_
  rw [← hX] at hbY f3 sY
  refine ⟨_, cells_at (cells_block (block_below hbY f1)) (i := 6) rfl, ?_⟩
  have hXs : X.heap.size = w.heap.size + 2 := by rw [hX]; simp
  have hbwY : Below w.heap.size w Y := hbX.trans (hbY.mono hbX.size)
  have f1Y := block_below hbY f1
  have f2Y := block_below hbY f2
  subst hX
  refine And.intro (fun h => ?_) (fun h => ?_)
  · refine ⟨6, rfl, by decide, ?_⟩
    refine store_cell (o := 6) (v := .int .u8 1) (ttOk.get 5 _ rfl) rfl f3 (Nat.le_of_ble_eq_true rfl) rfl rfl fun Z f4 gZ sZ => ?_
    have F : Z.heap[((w.alloc (.cells m.val.cells 107)).alloc (.cells #[.int .u8 0, .int .u8 0, .int .u8 0, .int .u8 0, .int .u8 0, .int .u8 0, .int .u8 0, .int .u8 0, .int .u8 0, .int .u8 0, .int .u8 0] 169)).heap.size]? =
        some (.cells (((codeOf m).take 7).map u8 ++ [u8 0, u8 0, u8 0, u8 0]).toArray 169 (0, 0)) := by
      rw [f4]; simp only [codeOf, h, if_true]; rfl
    refine DrawE.ord [3] [0, 1, 2, 3] (by kernel_rfl) ?_
    refine ⟨7, rfl, by decide, ?_⟩
    have hs5 : (Tryz.prog.info? 5).map (·.size) = some 1 := by kernel_rfl
    have cZ : Cells Z.drew ⟨w.heap.size, 7, none⟩ [u8 m.d0, u8 m.d1, u8 m.d2, u8 m.d3] := by
      have hZ1 : Z.heap[w.heap.size]? = some (.cells m.val.cells 107 (0, 0)) := (gZ.block _ (hlt f1Y) (by simp; omega)).trans f1Y
      exact cells_sub (n := 7) (m := 4) (cells_block (hdr hZ1))
    refine SatR.mk (run_copy_row _ Z.drew 23 23 _ 5 _ 7 4 4 ⟨w.heap.size, 7, none⟩ 4 4 _ _ [u8 m.d0, u8 m.d1, u8 m.d2, u8 m.d3] Tryz.underlying23 hs5 (hdr F) rfl cZ (Nat.le_of_ble_eq_true rfl) (by simp [u8, Value.oneCell'])) ?_
    have G := setRow_new (cs' := ((((codeOf m).take 7).map u8 ++ [u8 0, u8 0, u8 0, u8 0]).toArray.toList.take 7 ++ [u8 m.d0, u8 m.d1, u8 m.d2, u8 m.d3] ++ (((codeOf m).take 7).map u8 ++ [u8 0, u8 0, u8 0, u8 0]).toArray.toList.drop (7 + 4)).toArray) (hdr F)
    have hZ2 := (gZ.block _ (hlt f2Y) (by simp)).trans f2Y
    refine ⟨(codeOf m).map u8, rfl, cells_block G, hlt G, ?_⟩
    refine store_box (v := .agg ((codeOf m).map u8).toArray) (ttOk.get 169 _ rfl) ((setRow_old (g := ((w.alloc (.cells m.val.cells 107)).alloc (.cells #[.int .u8 0, .int .u8 0, .int .u8 0, .int .u8 0, .int .u8 0, .int .u8 0, .int .u8 0, .int .u8 0, .int .u8 0, .int .u8 0, .int .u8 0] 169)).heap.size) (k := (w.alloc (.cells m.val.cells 107)).heap.size) (by simp)).trans (hdr (by rw [World.size_alloc]; exact hZ2))) (by rfl) rfl (by rfl) ?_
    have hbZ : Below w.heap.size w Z := hbwY.grown gZ hbwY.size (fun k e => by simp at e; omega)
    refine ⟨(codeOf m).map u8, rfl, cells_block (setRow_new ((setRow_old (by simp)).trans (hdr (by rw [World.size_alloc]; exact hZ2)))), And.intro rfl ?_⟩
    exact below_setRow (below_setRow hbZ.drew (by simp; omega) _) (by simp) _
  · have F : Y.heap[((w.alloc (.cells m.val.cells 107)).alloc (.cells #[.int .u8 0, .int .u8 0, .int .u8 0, .int .u8 0, .int .u8 0, .int .u8 0, .int .u8 0, .int .u8 0, .int .u8 0, .int .u8 0, .int .u8 0] 169)).heap.size]? =
        some (.cells (((codeOf m).take 7).map u8 ++ [u8 0, u8 0, u8 0, u8 0]).toArray 169 (0, 0)) := by
      rw [f3]; simp only [codeOf, h, Bool.false_eq_true, if_false]; rfl
    refine DrawE.ord [3] [0, 1, 2, 3] (by kernel_rfl) ?_
    refine ⟨7, rfl, by decide, ?_⟩
    have hs5 : (Tryz.prog.info? 5).map (·.size) = some 1 := by kernel_rfl
    have cZ : Cells Y.drew ⟨w.heap.size, 7, none⟩ [u8 m.d0, u8 m.d1, u8 m.d2, u8 m.d3] := by
      have hZ1 : Y.heap[w.heap.size]? = some (.cells m.val.cells 107 (0, 0)) := f1Y
      exact cells_sub (n := 7) (m := 4) (cells_block (hdr hZ1))
    refine SatR.mk (run_copy_row _ Y.drew 23 23 _ 5 _ 7 4 4 ⟨w.heap.size, 7, none⟩ 4 4 _ _ [u8 m.d0, u8 m.d1, u8 m.d2, u8 m.d3] Tryz.underlying23 hs5 (hdr F) rfl cZ (Nat.le_of_ble_eq_true rfl) (by simp [u8, Value.oneCell'])) ?_
    have G := setRow_new (cs' := ((((codeOf m).take 7).map u8 ++ [u8 0, u8 0, u8 0, u8 0]).toArray.toList.take 7 ++ [u8 m.d0, u8 m.d1, u8 m.d2, u8 m.d3] ++ (((codeOf m).take 7).map u8 ++ [u8 0, u8 0, u8 0, u8 0]).toArray.toList.drop (7 + 4)).toArray) (hdr F)
    have hZ2 := f2Y
    refine ⟨(codeOf m).map u8, rfl, cells_block G, hlt G, ?_⟩
    refine store_box (v := .agg ((codeOf m).map u8).toArray) (ttOk.get 169 _ rfl) ((setRow_old (g := ((w.alloc (.cells m.val.cells 107)).alloc (.cells #[.int .u8 0, .int .u8 0, .int .u8 0, .int .u8 0, .int .u8 0, .int .u8 0, .int .u8 0, .int .u8 0, .int .u8 0, .int .u8 0, .int .u8 0] 169)).heap.size) (k := (w.alloc (.cells m.val.cells 107)).heap.size) (by simp)).trans (hdr (by rw [World.size_alloc]; exact hZ2))) (by rfl) rfl (by rfl) ?_
    have hbZ : Below w.heap.size w Y := hbwY
    refine ⟨(codeOf m).map u8, rfl, cells_block (setRow_new ((setRow_old (by simp)).trans (hdr (by rw [World.size_alloc]; exact hZ2)))), And.intro rfl ?_⟩
    exact below_setRow (below_setRow hbZ.drew (by simp; omega) _) (by simp) _
end Go.Proofs.YtedeohcdcaimhaaGreatDoor
namespace Go.Proofs.YtedeohcdcaimhaaGreatDoor
open Go.Vc Go.RowKit Go.Sei

structure Sto where
  l : UInt8
  v : UInt8
  deriving DecidableEq
structure Cor where
  pc : UInt8
  r0 : UInt8
  r1 : UInt8
  r2 : UInt8
  r3 : UInt8
  r4 : UInt8
  r5 : UInt8
  r6 : UInt8
  r7 : UInt8
  buf : List Sto
  waits : Bool
  drain : Bool
  deriving DecidableEq
structure Lin where
  line : UInt8
  state : UInt8
  need : UInt8
  has : Bool
  d0 : UInt8
  d1 : UInt8
  d2 : UInt8
  d3 : UInt8
  deriving DecidableEq
structure Nte where
  kind : UInt8
  ways : Int
  o0 : UInt8
  o1 : UInt8
  o2 : UInt8
  o3 : UInt8
  bits : UInt8
  deriving DecidableEq
structure Cac where
  ways : List Lin
  notes : List Nte
  k : UInt8
  l : UInt8
  a : UInt8
  b : UInt8
  deriving DecidableEq
structure Hom where
  state : UInt8
  owner : UInt8
  kind : UInt8
  m0 : UInt8
  m1 : UInt8
  m2 : UInt8
  m3 : UInt8
  m4 : UInt8
  m5 : UInt8
  m6 : UInt8
  m7 : UInt8
  all : Bool
  wait : UInt8
  asker : UInt8
  d0 : UInt8
  d1 : UInt8
  d2 : UInt8
  d3 : UInt8
  deriving DecidableEq
structure Sy where
  cores : List Cor
  caches : List Cac
  homes : List Hom
  net : List Msg
  deriving DecidableEq

def bitB (b : Bool) (v : UInt8) : UInt8 := if b then v else 0
def encSto (s : Sto) : List UInt8 := [s.l, s.v]
def hdCor (c : Cor) : List UInt8 := [c.pc, c.r0, c.r1, c.r2, c.r3, c.r4, c.r5, c.r6, c.r7, UInt8.ofNat c.buf.length]
def encCor (c : Cor) : List UInt8 := hdCor c ++ (c.buf.flatMap encSto ++ [bitB c.waits 1 + bitB c.drain 2])
def encLin (x : Lin) : List UInt8 := [x.line, x.state, x.need, bitB x.has 1, x.d0, x.d1, x.d2, x.d3]
def encNte (n : Nte) : List UInt8 := [n.kind, UInt8.ofNat n.ways.toNat, n.o0, n.o1, n.o2, n.o3, n.bits]
def encCac (c : Cac) : List UInt8 := c.ways.flatMap encLin ++ (c.notes.flatMap encNte ++ [c.k, c.l, c.a, c.b])
def encHom (h : Hom) : List UInt8 := [h.state, h.owner, h.kind, h.m0, h.m1, h.m2, h.m3, h.m4, h.m5, h.m6, h.m7, bitB h.all 1, h.wait, h.asker, h.d0, h.d1, h.d2, h.d3]
def encSy (s : Sy) : List UInt8 := s.cores.flatMap encCor ++ (s.caches.flatMap encCac ++ (s.homes.flatMap encHom ++ (UInt8.ofNat s.net.length :: s.net.flatMap codeOf)))

abbrev Prs (α : Type) := List UInt8 → Option (α × List UInt8)
def reps {α : Type} (d : Prs α) : Nat → Prs (List α)
  | 0, b => some ([], b)
  | n + 1, b => match d b with
    | none => none
    | some (x, r) => match reps d n r with
      | none => none
      | some (xs, r') => some (x :: xs, r')

def decSto : Prs Sto
  | l :: v :: r => some (⟨l, v⟩, r)
  | _ => none
def decCor : Prs Cor
  | pc :: r0 :: r1 :: r2 :: r3 :: r4 :: r5 :: r6 :: r7 :: n :: b => (match reps decSto n.toNat b with
    | some (st, f :: b') => if f.toNat ≤ 3 then some (⟨pc, r0, r1, r2, r3, r4, r5, r6, r7, st, decide (f.toNat % 2 = 1), decide (f.toNat / 2 = 1)⟩, b') else none
    | _ => none)
  | _ => none
def decLin : Prs Lin
  | line :: state :: need :: h :: d0 :: d1 :: d2 :: d3 :: r => if h.toNat ≤ 1 then some (⟨line, state, need, decide (h.toNat = 1), d0, d1, d2, d3⟩, r) else none
  | _ => none
def decNte : Prs Nte
  | kind :: ways :: o0 :: o1 :: o2 :: o3 :: bits :: r => some (⟨kind, ways.toNat, o0, o1, o2, o3, bits⟩, r)
  | _ => none
def decCac : Prs Cac := fun b => match reps decLin 16 b with
  | none => none
  | some (ws, b1) => match reps decNte 4 b1 with
    | some (ns, k :: l :: a :: c :: r) => some (⟨ws, ns, k, l, a, c⟩, r)
    | _ => none
def decHom : Prs Hom
  | state :: owner :: kind :: m0 :: m1 :: m2 :: m3 :: m4 :: m5 :: m6 :: m7 :: al :: wait :: asker :: d0 :: d1 :: d2 :: d3 :: r =>
    if al.toNat ≤ 1 then some (⟨state, owner, kind, m0, m1, m2, m3, m4, m5, m6, m7, decide (al.toNat = 1), wait, asker, d0, d1, d2, d3⟩, r) else none
  | _ => none
def decMsg : Prs Msg
  | b0 :: b1 :: b2 :: b3 :: b4 :: b5 :: b6 :: b7 :: b8 :: b9 :: b10 :: r => if b6.toNat ≤ 1 then some (⟨b0, b1, b2, b3, b4, b5, decide (b6.toNat = 1), b7, b8, b9, b10⟩, r) else none
  | _ => none
def decSy (n : Nat) (b : List UInt8) : Option Sy := match reps decCor n b with
  | none => none
  | some (cs, b1) => match reps decCac n b1 with
    | none => none
    | some (ca, b2) => match reps decHom 6 b2 with
      | some (hs, k :: b3) => if k.toNat ≤ 64 then (match reps decMsg k.toNat b3 with
        | some (ms, []) => some ⟨cs, ca, hs, ms⟩
        | _ => none) else none
      | _ => none

/-- A form: what is written is read back; what is read was written so. -/
structure Fmt {α : Type} (enc : α → List UInt8) (dec : Prs α) (ok : α → Prop) : Prop where
  f : ∀ x r, ok x → dec (enc x ++ r) = some (x, r)
  g : ∀ b x r, dec b = some (x, r) → ok x ∧ b = enc x ++ r

theorem reps_f {α : Type} {enc : α → List UInt8} {dec : Prs α} {ok : α → Prop} (h : Fmt enc dec ok) : ∀ (l : List α) (r : List UInt8), (∀ x ∈ l, ok x) → reps dec l.length (l.flatMap enc ++ r) = some (l, r)
  | [], r, _ => rfl
  | x :: l, r, ho => by
    rw [List.flatMap_cons, List.append_assoc, List.length_cons, reps, h.f x _ (ho x List.mem_cons_self)]
    simp only [reps_f h l r fun y hy => ho y (List.mem_cons_of_mem _ hy)]
theorem reps_g {α : Type} {enc : α → List UInt8} {dec : Prs α} {ok : α → Prop} (h : Fmt enc dec ok) : ∀ (n : Nat) (b : List UInt8) (l : List α) (r : List UInt8), reps dec n b = some (l, r) → l.length = n ∧ (∀ x ∈ l, ok x) ∧ b = l.flatMap enc ++ r
  | 0, b, l, r, hr => by
    simp only [reps, Option.some.injEq, Prod.mk.injEq] at hr
    obtain ⟨rfl, rfl⟩ := hr
    exact ⟨rfl, by simp, rfl⟩
  | n + 1, b, l, r, hr => by
    rw [reps] at hr
    split at hr
    · cases hr
    · rename_i x r1 hx
      split at hr
      · cases hr
      · rename_i xs r2 hxs
        simp only [Option.some.injEq, Prod.mk.injEq] at hr
        obtain ⟨rfl, rfl⟩ := hr
        obtain ⟨h1, h2⟩ := h.g _ _ _ hx
        obtain ⟨h3, h4, h5⟩ := reps_g h n _ _ _ hxs
        refine ⟨by simp [h3], fun y hy => ?_, by rw [h2, h5, List.flatMap_cons, List.append_assoc]⟩
        rcases List.mem_cons.1 hy with rfl | hy
        · exact h1
        · exact h4 y hy
/-- One more at the end. -/
theorem reps_more {α : Type} (dec : Prs α) : ∀ (n : Nat) (b : List UInt8), reps dec (n + 1) b = match reps dec n b with
    | none => none
    | some (xs, r) => match dec r with
      | none => none
      | some (x, r') => some (xs ++ [x], r')
  | 0, b => by
    simp only [reps]
    cases dec b with
    | none => rfl
    | some x => rfl
  | n + 1, b => by
    rw [reps]
    cases h : dec b with
    | none => simp only [reps, h]
    | some x =>
      obtain ⟨x, r⟩ := x
      simp only
      rw [reps_more dec n r]
      conv => rhs; rw [reps, h]
      simp only
      cases h2 : reps dec n r with
      | none => rfl
      | some y =>
        obtain ⟨ys, r2⟩ := y
        simp only
        cases dec r2 with
        | none => rfl
        | some z => rfl
theorem reps_none {α : Type} {dec : Prs α} {b : List UInt8} {k n : Nat} (h : reps dec k b = none) (hk : k ≤ n) : reps dec n b = none := by
  induction n with
  | zero => have : k = 0 := by omega
            subst this; exact h
  | succ n ih =>
    rcases Nat.lt_or_ge k (n + 1) with h1 | h1
    · rw [reps_more, ih (by omega)]
    · have : k = n + 1 := by omega
      subst this; exact h
theorem reps_step {α : Type} {dec : Prs α} {b r r' : List UInt8} {n : Nat} {l : List α} {x : α} (h : reps dec n b = some (l, r)) (hx : dec r = some (x, r')) : reps dec (n + 1) b = some (l ++ [x], r') := by
  rw [reps_more, h]; simp only [hx]
theorem reps_fail {α : Type} {dec : Prs α} {b r : List UInt8} {n m : Nat} {l : List α} (h : reps dec n b = some (l, r)) (hx : dec r = none) (hm : n < m) : reps dec m b = none := by
  refine reps_none (k := n + 1) ?_ hm
  rw [reps_more, h]; simp only [hx]

theorem bit_back {b : Bool} : decide ((bitB b 1).toNat = 1) = b ∧ (bitB b 1).toNat ≤ 1 := by cases b <;> decide
theorem bit_of {h : UInt8} (h1 : h.toNat ≤ 1) : bitB (decide (h.toNat = 1)) 1 = h := by
  have h3 : h.toNat = 0 ∨ h.toNat = 1 := by omega
  rcases h3 with h3 | h3
  · have : h = 0 := UInt8.toNat_inj.1 h3
    subst this; rfl
  · have : h = 1 := UInt8.toNat_inj.1 h3
    subst this; rfl
theorem fmt_sto : Fmt encSto decSto fun _ => True := ⟨fun x r _ => rfl, fun b x r h => by
  unfold decSto at h
  split at h
  · simp only [Option.some.injEq, Prod.mk.injEq] at h
    obtain ⟨rfl, rfl⟩ := h
    exact ⟨trivial, rfl⟩
  · cases h⟩
theorem fmt_lin : Fmt encLin decLin fun _ => True := ⟨fun x r _ => by
  simp only [encLin, List.cons_append, List.nil_append, decLin, if_pos (bit_back (b := x.has)).2, bit_back.1], fun b x r h => by
  unfold decLin at h
  split at h
  · split at h
    · rename_i h1
      simp only [Option.some.injEq, Prod.mk.injEq] at h
      obtain ⟨rfl, rfl⟩ := h
      exact ⟨trivial, by simp only [encLin, bit_of h1, List.cons_append, List.nil_append]⟩
    · cases h
  · cases h⟩
theorem fmt_msg : Fmt codeOf decMsg fun _ => True := ⟨fun x r _ => by
  have e : (if x.alone then (1 : UInt8) else 0) = bitB x.alone 1 := rfl
  simp only [codeOf, e, List.cons_append, List.nil_append, decMsg, if_pos (bit_back (b := x.alone)).2, bit_back.1], fun b x r h => by
  unfold decMsg at h
  split at h
  · split at h
    · rename_i h1
      simp only [Option.some.injEq, Prod.mk.injEq] at h
      obtain ⟨rfl, rfl⟩ := h
      have e := bit_of h1
      unfold bitB at e
      exact ⟨trivial, by simp only [codeOf, e, List.cons_append, List.nil_append]⟩
    · cases h
  · cases h⟩
theorem fmt_hom : Fmt encHom decHom fun _ => True := ⟨fun x r _ => by
  simp only [encHom, List.cons_append, List.nil_append, decHom, if_pos (bit_back (b := x.all)).2, bit_back.1], fun b x r h => by
  unfold decHom at h
  split at h
  · split at h
    · rename_i h1
      simp only [Option.some.injEq, Prod.mk.injEq] at h
      obtain ⟨rfl, rfl⟩ := h
      exact ⟨trivial, by simp only [encHom, bit_of h1, List.cons_append, List.nil_append]⟩
    · cases h
  · cases h⟩
def okNte (n : Nte) : Prop := 0 ≤ n.ways ∧ n.ways ≤ 255
theorem fmt_nte : Fmt encNte decNte okNte := ⟨fun x r ho => by
  obtain ⟨a, w, b, c, d, e, f⟩ := x
  obtain ⟨h1, h2⟩ := ho
  simp only at h1 h2
  have h3 : ((UInt8.ofNat w.toNat).toNat : Int) = w := by rw [UInt8.toNat_ofNat']; omega
  simp only [encNte, List.cons_append, List.nil_append, decNte, h3], fun b x r h => by
  unfold decNte at h
  split at h
  · rename_i kind ways o0 o1 o2 o3 bits r'
    simp only [Option.some.injEq, Prod.mk.injEq] at h
    obtain ⟨rfl, rfl⟩ := h
    have := u8_lt ways
    exact ⟨⟨by dsimp only; omega, by dsimp only; omega⟩, by simp [encNte]⟩
  · cases h⟩
theorem flags_back (a b : Bool) : decide ((bitB a 1 + bitB b 2).toNat % 2 = 1) = a ∧ decide ((bitB a 1 + bitB b 2).toNat / 2 = 1) = b ∧ (bitB a 1 + bitB b 2).toNat ≤ 3 := by cases a <;> cases b <;> decide
theorem flags_of {f : UInt8} (h : f.toNat ≤ 3) : bitB (decide (f.toNat % 2 = 1)) 1 + bitB (decide (f.toNat / 2 = 1)) 2 = f := by
  have h3 : f.toNat = 0 ∨ f.toNat = 1 ∨ f.toNat = 2 ∨ f.toNat = 3 := by omega
  rcases h3 with h3 | h3 | h3 | h3
  · have : f = 0 := UInt8.toNat_inj.1 h3
    subst this; rfl
  · have : f = 1 := UInt8.toNat_inj.1 h3
    subst this; rfl
  · have : f = 2 := UInt8.toNat_inj.1 h3
    subst this; rfl
  · have : f = 3 := UInt8.toNat_inj.1 h3
    subst this; rfl
def okCor (c : Cor) : Prop := c.buf.length ≤ 255
theorem fmt_cor : Fmt encCor decCor okCor := ⟨fun x r ho => by
  obtain ⟨h1, h2, h3⟩ := flags_back x.waits x.drain
  have h4 : (UInt8.ofNat x.buf.length).toNat = x.buf.length := by rw [UInt8.toNat_ofNat']; unfold okCor at ho; omega
  have h5 := reps_f fmt_sto x.buf ((bitB x.waits 1 + bitB x.drain 2) :: r) fun _ _ => trivial
  simp only [encCor, hdCor, List.cons_append, List.nil_append, List.append_assoc, decCor, h4]
  simp only [h5, if_pos h3, h1, h2], fun b x r h => by
  unfold decCor at h
  split at h
  · rename_i pc r0 r1 r2 r3 r4 r5 r6 r7 n b0
    split at h
    · rename_i st f b' hst
      split at h
      · rename_i h1
        simp only [Option.some.injEq, Prod.mk.injEq] at h
        obtain ⟨rfl, rfl⟩ := h
        obtain ⟨h2, _, h3⟩ := reps_g fmt_sto _ _ _ _ hst
        have h4 := u8_lt n
        refine ⟨by unfold okCor; dsimp only; omega, ?_⟩
        simp only [encCor, hdCor, flags_of h1, h2, h3, List.cons_append, List.nil_append, List.append_assoc, UInt8.ofNat_toNat]
      · cases h
    · cases h
  · cases h⟩
def okCac (c : Cac) : Prop := c.ways.length = 16 ∧ c.notes.length = 4 ∧ ∀ n ∈ c.notes, okNte n
theorem fmt_cac : Fmt encCac decCac okCac := ⟨fun x r ho => by
  obtain ⟨h1, h2, h3⟩ := ho
  have e1 := reps_f fmt_lin x.ways (x.notes.flatMap encNte ++ ([x.k, x.l, x.a, x.b] ++ r)) fun _ _ => trivial
  have e2 := reps_f fmt_nte x.notes ([x.k, x.l, x.a, x.b] ++ r) h3
  rw [h1] at e1
  rw [h2] at e2
  simp only [encCac, List.append_assoc, decCac]
  rw [e1]
  simp only [List.cons_append, List.nil_append] at e2 ⊢
  simp only [e2], fun b x r h => by
  unfold decCac at h
  split at h
  · cases h
  · rename_i ws b1 h1
    split at h
    · rename_i ns k l a c r' h2
      simp only [Option.some.injEq, Prod.mk.injEq] at h
      obtain ⟨rfl, rfl⟩ := h
      obtain ⟨a1, _, a3⟩ := reps_g fmt_lin _ _ _ _ h1
      obtain ⟨b1, b2, b3⟩ := reps_g fmt_nte _ _ _ _ h2
      refine ⟨⟨a1, b1, b2⟩, ?_⟩
      simp only [encCac, a3, b3, List.append_assoc, List.cons_append, List.nil_append]
    · cases h⟩
structure okSy (n : Nat) (s : Sy) : Prop where
  cores : s.cores.length = n
  caches : s.caches.length = n
  homes : s.homes.length = 6
  net : s.net.length ≤ 64
  cor : ∀ c ∈ s.cores, okCor c
  cac : ∀ c ∈ s.caches, okCac c
theorem dec_enc {n : Nat} {s : Sy} (h : okSy n s) : decSy n (encSy s) = some s := by
  have e1 := reps_f fmt_cor s.cores (s.caches.flatMap encCac ++ (s.homes.flatMap encHom ++ (UInt8.ofNat s.net.length :: s.net.flatMap codeOf))) h.cor
  have e2 := reps_f fmt_cac s.caches (s.homes.flatMap encHom ++ (UInt8.ofNat s.net.length :: s.net.flatMap codeOf)) h.cac
  have e3 := reps_f fmt_hom s.homes (UInt8.ofNat s.net.length :: s.net.flatMap codeOf) fun _ _ => trivial
  have e4 := reps_f fmt_msg s.net [] fun _ _ => trivial
  have e5 : (UInt8.ofNat s.net.length).toNat = s.net.length := by rw [UInt8.toNat_ofNat']; have := h.net; omega
  rw [h.cores] at e1
  rw [h.caches] at e2
  rw [h.homes] at e3
  rw [List.append_nil] at e4
  simp only [decSy, encSy, e1]
  simp only [e2, e3, e5, if_pos h.net, e4]
theorem enc_dec {n : Nat} {b : List UInt8} {s : Sy} (h : decSy n b = some s) : okSy n s ∧ b = encSy s := by
  unfold decSy at h
  split at h
  · cases h
  · rename_i cs b1 h1
    split at h
    · cases h
    · rename_i ca b2 h2
      split at h
      · rename_i hs k b3 h3
        split at h
        · rename_i hk
          split at h
          · rename_i ms h4
            simp only [Option.some.injEq] at h
            subst h
            obtain ⟨a1, a2, a3⟩ := reps_g fmt_cor _ _ _ _ h1
            obtain ⟨c1, c2, c3⟩ := reps_g fmt_cac _ _ _ _ h2
            obtain ⟨d1, _, d3⟩ := reps_g fmt_hom _ _ _ _ h3
            obtain ⟨f1, _, f3⟩ := reps_g fmt_msg _ _ _ _ h4
            refine ⟨⟨a1, c1, d1, by dsimp only; omega, a2, c2⟩, ?_⟩
            simp only [encSy, a3, c3, d3, f3, f1, List.append_nil, UInt8.ofNat_toNat]
          · cases h
        · cases h
      · cases h
theorem enc_inj {n m : Nat} {s t : Sy} (hs : okSy n s) (ht : okSy m t) (hn : n = m) (h : encSy s = encSy t) : s = t := by
  subst hn
  have h1 := dec_enc hs
  rw [h, dec_enc ht] at h1
  exact (Option.some.inj h1).symm
/-- One byte more, or less, is no encoding. -/
theorem dec_more {n : Nat} {b : List UInt8} {s : Sy} (h : decSy n b = some s) (x : UInt8) : decSy n (b ++ [x]) = none := by
  cases h2 : decSy n (b ++ [x]) with
  | none => rfl
  | some t =>
    exfalso
    obtain ⟨hs, hb⟩ := enc_dec h
    obtain ⟨ht, hc⟩ := enc_dec h2
    rw [hb] at hc
    have e1 := reps_f fmt_cor s.cores (s.caches.flatMap encCac ++ (s.homes.flatMap encHom ++ (UInt8.ofNat s.net.length :: s.net.flatMap codeOf)) ++ [x]) hs.cor
    have e2 := reps_f fmt_cac s.caches (s.homes.flatMap encHom ++ (UInt8.ofNat s.net.length :: s.net.flatMap codeOf) ++ [x]) hs.cac
    have e3 := reps_f fmt_hom s.homes (UInt8.ofNat s.net.length :: s.net.flatMap codeOf ++ [x]) fun _ _ => trivial
    have e4 := reps_f fmt_msg s.net [x] fun _ _ => trivial
    have e5 : (UInt8.ofNat s.net.length).toNat = s.net.length := by rw [UInt8.toNat_ofNat']; have := hs.net; omega
    rw [hs.cores] at e1
    rw [hs.caches] at e2
    rw [hs.homes] at e3
    rw [hb] at h2
    simp only [decSy, encSy, List.append_assoc, List.cons_append] at h2 e1 e2 e3
    simp only [e1, e2, e3, e5, if_pos hs.net, e4] at h2
    cases h2
theorem cor_len (c : Cor) : (encCor c).length = 11 + 2 * c.buf.length := by
  have : (c.buf.flatMap encSto).length = 2 * c.buf.length := by
    induction c.buf with
    | nil => rfl
    | cons a r ih => rw [List.flatMap_cons, List.length_append, ih]; simp only [encSto, List.length_cons, List.length_nil]; omega
  simp only [encCor, hdCor, List.length_append, this, List.length_cons, List.length_nil]; omega
theorem cac_len {c : Cac} (h1 : c.ways.length = 16) (h2 : c.notes.length = 4) : (encCac c).length = 160 := by
  have e1 : ∀ l : List Lin, (l.flatMap encLin).length = 8 * l.length := fun l => by
    induction l with
    | nil => rfl
    | cons a r ih => rw [List.flatMap_cons, List.length_append, ih]; simp only [encLin, List.length_cons, List.length_nil]; omega
  have e2 : ∀ l : List Nte, (l.flatMap encNte).length = 7 * l.length := fun l => by
    induction l with
    | nil => rfl
    | cons a r ih => rw [List.flatMap_cons, List.length_append, ih]; simp only [encNte, List.length_cons, List.length_nil]; omega
  simp only [encCac, List.length_append, e1, e2, h1, h2, List.length_cons, List.length_nil]
def bufsL (l : List Cor) : Nat := (l.map fun c => c.buf.length).sum
theorem cors_len (l : List Cor) : (l.flatMap encCor).length = 11 * l.length + 2 * bufsL l := by
  unfold bufsL
  induction l with
  | nil => rfl
  | cons a r ih => rw [List.flatMap_cons, List.length_append, ih, cor_len]; simp only [List.map_cons, List.sum_cons, List.length_cons]; omega
theorem cacs_len : ∀ l : List Cac, (∀ c ∈ l, c.ways.length = 16 ∧ c.notes.length = 4) → (l.flatMap encCac).length = 160 * l.length
  | [], _ => rfl
  | a :: r, h => by
    rw [List.flatMap_cons, List.length_append, cacs_len r fun c hc => h c (List.mem_cons_of_mem _ hc), cac_len (h a List.mem_cons_self).1 (h a List.mem_cons_self).2]
    simp only [List.length_cons]; omega
theorem homs_len (l : List Hom) : (l.flatMap encHom).length = 18 * l.length := by
  induction l with
  | nil => rfl
  | cons a r ih => rw [List.flatMap_cons, List.length_append, ih]; simp only [encHom, List.length_cons, List.length_nil]; omega
theorem msgs_len (l : List Msg) : (l.flatMap codeOf).length = 11 * l.length := by
  induction l with
  | nil => rfl
  | cons a r ih => rw [List.flatMap_cons, List.length_append, ih]; simp only [codeOf, List.length_cons, List.length_nil]; omega
theorem sy_len {n : Nat} {s : Sy} (h : okSy n s) : (encSy s).length = 171 * n + 109 + 11 * s.net.length + 2 * bufsL s.cores := by
  simp only [encSy, List.length_append, List.length_cons, cors_len, cacs_len s.caches fun c hc => ⟨(h.cac c hc).1, (h.cac c hc).2.1⟩, homs_len, msgs_len, h.cores, h.caches, h.homes]
  omega
end Go.Proofs.YtedeohcdcaimhaaGreatDoor
namespace Go.Vc
open Go.RowKit

/-- How the code is taken: p plain; s a sequence; c a sequence cut at its join; d a condition; b a block; l a loop. -/
inductive Mk where
  | p
  | s (a b : Mk)
  | c (a b : Mk)
  | d (a b : Mk)
  | b (a : Mk)
  | l (a : Mk)

def CutE (first : (Exit → Env → World → Prop) → Prop) (second : Env → World → (Exit → Env → World → Prop) → Prop) (Q : Exit → Env → World → Prop) : Prop :=
  ∃ (σ : Type) (env : σ → Env) (inv : σ → World → Prop), (first fun ex E' w' => match ex with
    | .normal => ∃ s, Cov E' (env s) ∧ inv s w'
    | ex => Q ex E' w') ∧ ∀ s w', inv s w' → second (env s) w' Q

/-- What the code owes, taken as m says. (By the recursor itself: what the kernel unfolds is then what was typed.) -/
noncomputable def wpM (S : Sig) (m : Mk) : Code → Env → World → (Exit → Env → World → Prop) → Prop :=
  Mk.rec (motive := fun _ => Code → Env → World → (Exit → Env → World → Prop) → Prop)
    (fun c E w Q => wpE S c E w Q)
    (fun _ _ ia ib c E w Q => match c with
      | .seq x y => ia x E w fun ex E' w' => match ex with
        | .normal => ib y E' w' Q
        | ex => Q ex E' w'
      | _ => False)
    (fun _ _ ia ib c E w Q => match c with
      | .seq x y => CutE (fun Q => ia x E w Q) (fun E w Q => ib y E w Q) Q
      | _ => False)
    (fun _ _ ia ib c E w Q => match c with
      | .cond c x y => (match opd E c with
        | some (.bool v) => Br v (ia x E w Q) (ib y E w Q)
        | _ => False)
      | _ => False)
    (fun _ ia c E w Q => match c with
      | .block id x => ia x E w fun ex E' w' => match ex with
        | .exit id' => (match Nat.beq id' id with
          | true => Q .normal E' w'
          | false => Q (.exit id') E' w')
        | ex => Q ex E' w'
      | _ => False)
    (fun _ ia c E w Q => match c with
      | .loop x => LoopE (fun E w Q => ia x E w Q) E w Q
      | _ => False)
    m

section
variable {S : Sig}

theorem wpM_sound (hS : SigOk S) : ∀ (m : Mk) (c : Code) (E : Env) (a : Act) (w : World) (Q : Exit → Env → World → Prop), Agrees S a E → wpM S m c E w Q → c.wpIn (FR S.r) NN S.P (lift S Q) a w
  | .p, c, E, a, w, Q, ha, h => wpE_sound hS c E a w Q ha h
  | .s m k, .seq x y, E, a, w, Q, ha, h => by
    replace h : (wpM S m x E w fun ex E' w' => match ex with | .normal => wpM S k y E' w' Q | ex => Q ex E' w') := h
    refine wpIn_seq ?_
    refine wpIn_mono (wpM_sound hS m x E a w _ ha h) ?_
    rintro ex a' w' ⟨E', ha', hq⟩
    cases ex with
    | normal => exact wpM_sound hS k y E' a' w' Q ha' hq
    | _ => exact ⟨E', ha', hq⟩
  | .c m k, .seq x y, E, a, w, Q, ha, h => by
    replace h : CutE (fun Q => wpM S m x E w Q) (fun E w Q => wpM S k y E w Q) Q := h
    obtain ⟨σ, env, inv, h1, h2⟩ := h
    refine wpIn_seq ?_
    refine wpIn_mono (wpM_sound hS m x E a w _ ha h1) ?_
    rintro ex a' w' ⟨E', ha', hq⟩
    cases ex with
    | normal =>
      obtain ⟨s, hc, hi⟩ := hq
      exact wpM_sound hS k y (env s) a' w' Q (ha'.cov hc) (h2 s w' hi)
    | _ => exact ⟨E', ha', hq⟩
  | .d m k, .cond c x y, E, a, w, Q, ha, h => by
    replace h : (match opd E c with | some (.bool v) => Br v (wpM S m x E w Q) (wpM S k y E w Q) | _ => False) := h
    split at h
    · rename_i b hb
      refine wpIn_cond_split (ha.eval hb) (fun e => wpM_sound hS m x E a w Q ha (h.1 e)) (fun e => wpM_sound hS k y E a w Q ha (h.2 e))
    · exact h.elim
  | .b m, .block id x, E, a, w, Q, ha, h => by
    replace h : (wpM S m x E w fun ex E' w' => match ex with | .exit id' => (match Nat.beq id' id with | true => Q .normal E' w' | false => Q (.exit id') E' w') | ex => Q ex E' w') := h
    refine wpIn_block ?_
    refine wpIn_mono (wpM_sound hS m x E a w _ ha h) ?_
    rintro ex a' w' ⟨E', ha', hq⟩
    cases ex with
    | exit id' =>
      simp only [Exit.inBlock]
      dsimp only at hq
      split at hq
      · rename_i hb; rw [if_pos (Nat.eq_of_beq_eq_true hb)]; exact ⟨E', ha', hq⟩
      · rename_i hb; rw [if_neg (Nat.ne_of_beq_eq_false hb)]; exact ⟨E', ha', hq⟩
    | _ => exact ⟨E', ha', hq⟩
  | .l m, .loop x, E, a, w, Q, ha, h => by
    replace h : LoopE (fun E w Q => wpM S m x E w Q) E w Q := h
    obtain ⟨σ, env, inv, μ, s0, hc, hi, hb⟩ := h
    have key : ∀ m s a w, μ s = m → Agrees S a (env s) → inv s w → (Code.loop x).wpIn (FR S.r) NN S.P (lift S Q) a w := by
      intro m' s a w hm ha hi
      refine wpIn_loop (fun a w => ∃ s, Agrees S a (env s) ∧ inv s w) (fun a w => leastOf (fun k => ∃ s, Agrees S a (env s) ∧ inv s w ∧ μ s = k)) ⟨s, ha, hi⟩ ?_
      intro a w ⟨s1, ha1, hi1⟩
      obtain ⟨⟨s2, ha2, hi2, hm2⟩, _⟩ := leastOf_spec (p := fun k => ∃ s, Agrees S a (env s) ∧ inv s w ∧ μ s = k) ⟨_, s1, ha1, hi1, rfl⟩
      refine wpIn_mono (wpM_sound hS m x (env s2) a w _ ha2 (hb s2 w hi2)) ?_
      rintro ex a' w' ⟨E', ha', hq⟩
      cases ex with
      | normal =>
        obtain ⟨s', hc', hi', hlt⟩ := hq
        refine ⟨⟨s', ha'.cov hc', hi'⟩, ?_⟩
        have := (leastOf_spec (p := fun k => ∃ s, Agrees S a' (env s) ∧ inv s w' ∧ μ s = k) ⟨_, s', ha'.cov hc', hi', rfl⟩).2
        rw [← hm2]
        exact Nat.lt_of_le_of_lt (this _ ⟨s', ha'.cov hc', hi', rfl⟩) hlt
      | _ => exact ⟨E', ha', hq⟩
    exact key _ s0 a w rfl (ha.cov hc) hi
  | .s _ _, .skip, _, _, _, _, _, h => h.elim
  | .s _ _, .region _ _ _, _, _, _, _, _, h => h.elim
  | .s _ _, .cond _ _ _, _, _, _, _, _, h => h.elim
  | .s _ _, .block _ _, _, _, _, _, _, h => h.elim
  | .s _ _, .loop _, _, _, _, _, _, h => h.elim
  | .s _ _, .rangeFunc _ _ _ _, _, _, _, _, _, h => h.elim
  | .s _ _, .exit _, _, _, _, _, _, h => h.elim
  | .s _ _, .scope _, _, _, _, _, _, h => h.elim
  | .s _ _, .label _, _, _, _, _, _, h => h.elim
  | .s _ _, .goto _, _, _, _, _, _, h => h.elim
  | .s _ _, .ret, _, _, _, _, _, h => h.elim
  | .s _ _, .refuse _, _, _, _, _, _, h => h.elim
  | .c _ _, .skip, _, _, _, _, _, h => h.elim
  | .c _ _, .region _ _ _, _, _, _, _, _, h => h.elim
  | .c _ _, .cond _ _ _, _, _, _, _, _, h => h.elim
  | .c _ _, .block _ _, _, _, _, _, _, h => h.elim
  | .c _ _, .loop _, _, _, _, _, _, h => h.elim
  | .c _ _, .rangeFunc _ _ _ _, _, _, _, _, _, h => h.elim
  | .c _ _, .exit _, _, _, _, _, _, h => h.elim
  | .c _ _, .scope _, _, _, _, _, _, h => h.elim
  | .c _ _, .label _, _, _, _, _, _, h => h.elim
  | .c _ _, .goto _, _, _, _, _, _, h => h.elim
  | .c _ _, .ret, _, _, _, _, _, h => h.elim
  | .c _ _, .refuse _, _, _, _, _, _, h => h.elim
  | .d _ _, .skip, _, _, _, _, _, h => h.elim
  | .d _ _, .region _ _ _, _, _, _, _, _, h => h.elim
  | .d _ _, .seq _ _, _, _, _, _, _, h => h.elim
  | .d _ _, .block _ _, _, _, _, _, _, h => h.elim
  | .d _ _, .loop _, _, _, _, _, _, h => h.elim
  | .d _ _, .rangeFunc _ _ _ _, _, _, _, _, _, h => h.elim
  | .d _ _, .exit _, _, _, _, _, _, h => h.elim
  | .d _ _, .scope _, _, _, _, _, _, h => h.elim
  | .d _ _, .label _, _, _, _, _, _, h => h.elim
  | .d _ _, .goto _, _, _, _, _, _, h => h.elim
  | .d _ _, .ret, _, _, _, _, _, h => h.elim
  | .d _ _, .refuse _, _, _, _, _, _, h => h.elim
  | .b _, .skip, _, _, _, _, _, h => h.elim
  | .b _, .region _ _ _, _, _, _, _, _, h => h.elim
  | .b _, .seq _ _, _, _, _, _, _, h => h.elim
  | .b _, .cond _ _ _, _, _, _, _, _, h => h.elim
  | .b _, .loop _, _, _, _, _, _, h => h.elim
  | .b _, .rangeFunc _ _ _ _, _, _, _, _, _, h => h.elim
  | .b _, .exit _, _, _, _, _, _, h => h.elim
  | .b _, .scope _, _, _, _, _, _, h => h.elim
  | .b _, .label _, _, _, _, _, _, h => h.elim
  | .b _, .goto _, _, _, _, _, _, h => h.elim
  | .b _, .ret, _, _, _, _, _, h => h.elim
  | .b _, .refuse _, _, _, _, _, _, h => h.elim
  | .l _, .skip, _, _, _, _, _, h => h.elim
  | .l _, .region _ _ _, _, _, _, _, _, h => h.elim
  | .l _, .seq _ _, _, _, _, _, _, h => h.elim
  | .l _, .cond _ _ _, _, _, _, _, _, h => h.elim
  | .l _, .block _ _, _, _, _, _, _, h => h.elim
  | .l _, .rangeFunc _ _ _ _, _, _, _, _, _, h => h.elim
  | .l _, .exit _, _, _, _, _, _, h => h.elim
  | .l _, .scope _, _, _, _, _, _, h => h.elim
  | .l _, .label _, _, _, _, _, _, h => h.elim
  | .l _, .goto _, _, _, _, _, _, h => h.elim
  | .l _, .ret, _, _, _, _, _, h => h.elim
  | .l _, .refuse _, _, _, _, _, _, h => h.elim

/-- A function's contract from its body, taken as m says. -/
theorem calls_of_M (hS : SigOk S) {f : FuncId} {fn : Func} {c : Code} {args : List Value} {w : World} {R : Ending → World → Prop} (m : Mk)
    (hf : S.P.funcs[f]? = some fn) (hb : fn.body = some c) (hn : fn.ntmps = S.n) (hle : args.length ≤ S.n) (hr : S.r = none)
    (h : wpM S m c ⟨argsE 0 args, []⟩ w (postE S fn R)) : Calls S.P f args.toArray w R := by
  rw [← callsIn_wide (n := NN)]
  have hF : FR none = Fence.wide := rfl
  rw [← hF]
  refine callsIn_of_wp_marks hf hb trivial ?_
  have ha : Agrees S { tmps := args.toArray ++ Array.replicate (fn.ntmps - args.toArray.size) undef, defers := [] } ⟨argsE 0 args, []⟩ := by
    refine ⟨?_, rfl, fun t v hv => ?_⟩
    · simp [hn]; omega
    · obtain ⟨_, h2⟩ := argsE_find _ _ _ _ hv
      simp only [Nat.sub_zero] at h2
      have hlt : t < args.length := (List.getElem?_eq_some_iff.1 h2).1
      simp only [Array.getElem?_append, List.size_toArray, hlt, if_true]
      simpa using h2
  have h1 := wpM_sound hS m c _ _ w _ ha h
  rw [hr] at h1
  refine wpIn_mono h1 ?_
  rintro ex a' w' ⟨E', ha', hq⟩
  cases ex with
  | normal => have := leaveE_sound hS ha' _ _ hq; rw [← ha'.defers] at this; exact this
  | ret => have := leaveE_sound hS ha' _ _ hq; rw [← ha'.defers] at this; exact this
  | panic ch =>
    obtain ⟨hd, hR⟩ := hq
    show LeavesInM _ _ _ _ _ _ a'.defers _ _
    rw [ha'.defers, hd]
    exact hR
  | exit _ => exact hq.elim
  | goto _ => exact hq.elim
  | outgrown => exact hq.elim
end
end Go.Vc
namespace Go.Vc
open Go.RowKit

def deferOf (S : Sig) (E : Env) (o : Oper) (c : Call) (K : Env → Prop) : Prop :=
  match okDst S.n o.dst, o.guard with
  | true, none => withL E c.args.toList fun vs => (match c.callee with
    | .value f => with1 E f fun vf => (match vf with
      | .func fn first captured => K ⟨(setE o.dst undef E).vs, { target := .fn fn captured, args := (first.toList ++ vs).toArray } :: E.ds⟩
      | _ => False)
    | _ => False)
  | _, _ => False

/-- As opsE; a 'defer' is taken in. -/
def opsF (S : Sig) (all : List Oper) : Nat → List Oper → Env → World → (Env → World → Prop) → (Env → List PanicEntry → World → Prop) → Prop
  | _, [], E, w, K, _ => K E w
  | i, o :: r, E, w, K, KP => (match o.op with
    | .defer c => deferOf S E o c fun E' => opsF S all (i + 1) r E' w K KP
    | _ => (match noSel o.op with
      | true => stepE S all false i o E w (fun E' w' => opsF S all (i + 1) r E' w' K KP) KP
      | false => False))

section
variable {S : Sig} {n : Nat}

theorem defer_run {P : Program} {E : Env} {a : Act} {w : World} {f : Operand} {args : Array Operand} {ats : Array TypeId} {ty : TypeId} {fn : Fn} {first captured : Array Value} {vs : List Value} (ha : Agrees S a E) (hvf : opd E f = some (.func fn first captured))
    (e1 : args.toList.map a.eval = vs) : (do pure (Next.defer (← resolve a.eval { callee := .value f, args := args, argTypes := ats } ty)) : Sem Next).run P w = .ok (.defer { target := .fn fn captured, args := (first.toList ++ vs).toArray }) w := by
  have e2 := ha.eval hvf
  have e1 : args.map a.eval = vs.toArray := by rw [← e1, ← Array.toList_map]
  have e3 : first ++ vs.toArray = (first.toList ++ vs).toArray := by rw [← Array.toList_inj]; simp
  simp only [resolve, e1, e2]
  simp [go_sem, e3]

theorem opsF_sound (hS : SigOk S) (hr0 : S.r = none) {ops : Array Oper} {Q : Exit → Env → World → Prop} :
    ∀ (r : List Oper) (i : Nat) (E : Env) (a : Act) (w : World), (∀ k o, r[k]? = some o → ops[i + k]? = some o) → Agrees S a E →
      opsF S ops.toList i r E w (fun E w => Q .normal E w) (fun E ch w => Q (.panic ch) E w) →
      wpOpsIn (FR S.r) n S.P ops (lift S Q) (List.range' i r.length) a w
  | [], i, E, a, w, _, ha, h => by simp only [List.length_nil, List.range'_zero, wpOpsIn]; exact ⟨E, ha, h⟩
  | o :: r, i, E, a, w, hr, ha, h => by
    rw [List.length_cons, List.range'_succ, wpOpsIn_cons]
    have ho : ops[i]? = some o := by simpa using hr 0 o rfl
    have hrest : ∀ k o', r[k]? = some o' → ops[i + 1 + k]? = some o' := fun k o' hk => by have := hr (k + 1) o' (by simpa using hk); rwa [Nat.add_assoc, Nat.add_comm 1 k]
    unfold opsF at h
    split at h
    · rename_i c hop
      unfold deferOf at h
      split at h
      · rename_i hd hg
        obtain ⟨vs, h, hvs⟩ := withL_elim (S := S) h
        split at h
        · rename_i f hf
          obtain ⟨vf, hvf, h⟩ := with1_elim h
          split at h
          · rename_i fn first captured
            have hrun : (execOp a.eval o).run S.P w = .ok (.defer { target := .fn fn captured, args := (first.toList ++ vs).toArray }) w := by
              obtain ⟨callee, args, argTypes⟩ := c
              simp only at hf
              subst hf
              have := defer_run (P := S.P) (ats := argTypes) (ty := o.type) ha hvf (hvs a ha) (w := w)
              rw [← this]; unfold execOp; rw [hop]
            unfold wpOpIn
            simp only [ho]
            have hw : Region.wanted o (yielded ops a.tmps) = true := by simp [Region.wanted, hg]
            rw [if_pos hw]
            refine ⟨fun _ _ => trivial, ?_⟩
            have hro : (FR S.r).round = none := hr0
            rw [hro, Oper.semAt_none, hrun, Oper.uponIn_defer]
            refine opsF_sound hS hr0 r (i + 1) _ _ _ hrest ?_ h
            have hp := ha.put hd undef
            cases hdst : o.dst with
            | none => rw [hdst] at hp; exact ⟨hp.size, by simp only [Act.put]; rw [ha.defers], hp.val⟩
            | some d => rw [hdst] at hp; exact ⟨hp.size, by simp only [Act.put]; rw [ha.defers], hp.val⟩
          · exact h.elim
        · exact h.elim
      · exact h.elim
    · split at h
      · rename_i hsel
        refine stepE_seq hS ho hsel h ha (fun E' a' w' ha' hk => ?_) (fun ch w' hk => ⟨E, ha, hk⟩)
        exact opsF_sound hS hr0 r (i + 1) E' a' w' hrest ha' hk
      · exact h.elim

/-- How a function with deferred calls leaves. -/
def postD (S : Sig) (fn : Func) (R : Ending → World → Prop) : Exit → Env → World → Prop
  | .normal, E, w => ∀ a, Agrees S a E → LeavesInM (FR none) NN S.P fn a.tmps R E.ds .returning w
  | .ret, E, w => ∀ a, Agrees S a E → LeavesInM (FR none) NN S.P fn a.tmps R E.ds .returning w
  | .panic ch, E, w => ∀ a, Agrees S a E → LeavesInM (FR none) NN S.P fn a.tmps R E.ds (.panicking ch) w
  | _, _, _ => False

/-- A sequence x; (a region that defers); z. -/
def wpD (S : Sig) (x : Code) (ops : Array Oper) (z : Code) (E : Env) (w : World) (Q : Exit → Env → World → Prop) : Prop :=
  wpE S x E w fun ex E' w' => match ex with
    | .normal => opsF S ops.toList 0 ops.toList E' w' (fun E w => wpE S z E w Q) (fun E ch w => Q (.panic ch) E w)
    | ex => Q ex E' w'

theorem args_agree {S : Sig} {fn : Func} {args : List Value} (hn : fn.ntmps = S.n) (hle : args.length ≤ S.n) :
    Agrees S { tmps := args.toArray ++ Array.replicate (fn.ntmps - args.toArray.size) undef, defers := [] } ⟨argsE 0 args, []⟩ := by
  refine ⟨?_, rfl, fun t v hv => ?_⟩
  · simp [hn]; omega
  · obtain ⟨_, h2⟩ := argsE_find _ _ _ _ hv
    simp only [Nat.sub_zero] at h2
    have hlt : t < args.length := (List.getElem?_eq_some_iff.1 h2).1
    simp only [Array.getElem?_append, List.size_toArray, hlt, if_true]
    simpa using h2

/-- A function whose body is: x; a region that defers; z. -/
theorem calls_of_D (hS : SigOk S) {f : FuncId} {fn : Func} {x z : Code} {id : Nat} {ops : Array Oper} {args : List Value} {w : World} {R : Ending → World → Prop}
    (hf : S.P.funcs[f]? = some fn) (hb : fn.body = some (.seq x (.seq (.region id ops false) z))) (hn : fn.ntmps = S.n) (hle : args.length ≤ S.n) (hr : S.r = none)
    (h : wpD S x ops z ⟨argsE 0 args, []⟩ w (postD S fn R)) : Calls S.P f args.toArray w R := by
  rw [← callsIn_wide (n := NN)]
  have hF : FR none = Fence.wide := rfl
  rw [← hF]
  refine callsIn_of_wp_marks hf hb trivial ?_
  have ha := args_agree (fn := fn) hn hle
  have fin : ∀ ex a' w', lift S (postD S fn R) ex a' w' → bodyPostM (FR none) NN S.P fn R ex a' w' := by
    rintro ex a' w' ⟨E', ha', hq⟩
    cases ex with
    | normal => have := hq a' ha'; rw [← ha'.defers] at this; exact this
    | ret => have := hq a' ha'; rw [← ha'.defers] at this; exact this
    | panic ch => have := hq a' ha'; rw [← ha'.defers] at this; exact this
    | exit _ => exact hq.elim
    | goto _ => exact hq.elim
    | outgrown => exact hq.elim
  have hrF : (FR S.r) = FR none := by rw [hr]
  rw [← hrF] at fin ⊢
  refine wpIn_seq ?_
  refine wpIn_mono (wpE_sound hS x _ _ w _ ha h) ?_
  rintro ex a' w' ⟨E', ha', hq⟩
  cases ex with
  | normal =>
    have hreg : (Code.region id ops false).wpIn (FR S.r) NN S.P (lift S fun ex E w => match ex with | .normal => wpE S z E w (postD S fn R) | ex => postD S fn R ex E w) a' w' := by
      refine wpIn_region ?_
      rw [List.range_eq_range']
      have h1 := opsF_sound (n := NN) hS hr (Q := fun ex E w => match ex with | .normal => wpE S z E w (postD S fn R) | ex => postD S fn R ex E w) ops.toList 0 E' a' w' (fun k o hk => by simpa using hk) ha' hq
      simpa using h1
    refine wpIn_seq (wpIn_mono hreg ?_)
    rintro ex a'' w'' ⟨E'', ha'', hq''⟩
    cases ex with
    | normal => exact wpIn_mono (wpE_sound hS z _ _ w'' _ ha'' hq'') fin
    | ret => exact fin _ _ _ ⟨E'', ha'', hq''⟩
    | panic ch => exact fin _ _ _ ⟨E'', ha'', hq''⟩
    | exit _ => exact hq''.elim
    | goto _ => exact hq''.elim
    | outgrown => exact hq''.elim
  | ret => exact fin _ _ _ ⟨E', ha', hq⟩
  | panic ch => exact fin _ _ _ ⟨E', ha', hq⟩
  | exit _ => exact hq.elim
  | goto _ => exact hq.elim
  | outgrown => exact hq.elim
end
end Go.Vc
namespace Go.Proofs.YtedeohcdcaimhaaGreatDoor
open Go.Vc Go.RowKit Go.Sei

theorem callE_of {S : Sig} {g : Nat} {first captured : Array Value} {vs : List Value} {w : World} {K : Value → World → Prop} {KP : List PanicEntry → World → Prop} (h : calleeOk S g = true)
    (hc : CallR S.P g (first.toList ++ vs ++ captured.toList).toArray w K KP) : callE S (.func (.func g) first captured) vs w K KP := by
  unfold callE; simp only [h]; exact hc
theorem CallR.imp {P : Program} {g : Nat} {args : Array Value} {w : World} {K K' : Value → World → Prop} {KP KP' : List PanicEntry → World → Prop} (h : CallR P g args w K KP) (hk : ∀ v w, K v w → K' v w) (hp : ∀ ch w, KP ch w → KP' ch w) : CallR P g args w K' KP' :=
  Calls.mono h fun e w' he => by cases e <;> first | exact hk _ _ he | exact hp _ _ he | exact he

theorem each_Cor {p : Option Addr} {b o n cap gf : Nat} {caps : List Value} (I : Nat → World → Prop) {KP : List PanicEntry → World → Prop} {w : World} (hok : calleeOk (sg 16) gf = true) (hp : n = 0 ∨ p = some ⟨b, o, none⟩) (hn : n ≤ 1000000000)
    (hc : ∀ i w, i < n → I i w → CallR Tryz.prog gf (.pointer (some ⟨b, o + i * 12, none⟩) :: caps).toArray w (fun _ w' => I (i + 1) w') KP) (h0 : I 0 w) :
    CallR Tryz.prog 24 #[.slice p n cap, .func (.func gf) #[] caps.toArray] w (fun _ w' => I n w') KP := by
  refine calls_of_E (S := sg 16) (sgOk _) (args := [.slice p n cap, .func (.func gf) #[] caps.toArray]) Tryz.func24 rfl rfl (Nat.le_of_ble_eq_true rfl) rfl ?_
  refine ⟨Nat, fun k => ⟨[(0, .slice p n cap), (1, .func (.func gf) #[] caps.toArray), (6, .int .i64 n), (7, .int .i64 (k : Nat))], []⟩,
    fun k V => k ≤ n ∧ I k V, fun k => n - k, 0, ⟨.cons rfl (.cons rfl (.cons rfl (.cons rfl .nil))), rfl⟩, ⟨Nat.zero_le _, h0⟩, ?_⟩
  rintro k V ⟨hk, hI⟩
  refine And.intro (fun h => ?_) (fun h => ?_)
  · have h : (k : Int) < n := of_decide_eq_true h
    have hkn : k < n := by omega
    rcases hp with hp | hp
    · omega
    subst hp
    refine ⟨k, rfl, hkn, ?_⟩
    refine callE_of hok ?_
    refine CallR.imp (hc k V hkn hI) (fun v w' hI' => ?_) (fun ch w' hq => ⟨rfl, hq⟩)
    refine ⟨(k + 1 : Nat), (wrap_i64 (by omega)).trans (by omega), ?_⟩
    exact ⟨k + 1, ⟨.cons rfl (.cons rfl (.cons rfl (.cons rfl .nil))), rfl⟩, ⟨hkn, hI'⟩, by dsimp only; omega⟩
  · have h : ¬ (k : Int) < n := of_decide_eq_false h
    have e : k = n := by omega
    subst e
    exact hI

theorem each_Cac {p : Option Addr} {b o n cap gf : Nat} {caps : List Value} (I : Nat → World → Prop) {KP : List PanicEntry → World → Prop} {w : World} (hok : calleeOk (sg 16) gf = true) (hp : n = 0 ∨ p = some ⟨b, o, none⟩) (hn : n ≤ 1000000000)
    (hc : ∀ i w, i < n → I i w → CallR Tryz.prog gf (.pointer (some ⟨b, o + i * 160, none⟩) :: caps).toArray w (fun _ w' => I (i + 1) w') KP) (h0 : I 0 w) :
    CallR Tryz.prog 27 #[.slice p n cap, .func (.func gf) #[] caps.toArray] w (fun _ w' => I n w') KP := by
  refine calls_of_E (S := sg 16) (sgOk _) (args := [.slice p n cap, .func (.func gf) #[] caps.toArray]) Tryz.func27 rfl rfl (Nat.le_of_ble_eq_true rfl) rfl ?_
  refine ⟨Nat, fun k => ⟨[(0, .slice p n cap), (1, .func (.func gf) #[] caps.toArray), (6, .int .i64 n), (7, .int .i64 (k : Nat))], []⟩,
    fun k V => k ≤ n ∧ I k V, fun k => n - k, 0, ⟨.cons rfl (.cons rfl (.cons rfl (.cons rfl .nil))), rfl⟩, ⟨Nat.zero_le _, h0⟩, ?_⟩
  rintro k V ⟨hk, hI⟩
  refine And.intro (fun h => ?_) (fun h => ?_)
  · have h : (k : Int) < n := of_decide_eq_true h
    have hkn : k < n := by omega
    rcases hp with hp | hp
    · omega
    subst hp
    refine ⟨k, rfl, hkn, ?_⟩
    refine callE_of hok ?_
    refine CallR.imp (hc k V hkn hI) (fun v w' hI' => ?_) (fun ch w' hq => ⟨rfl, hq⟩)
    refine ⟨(k + 1 : Nat), (wrap_i64 (by omega)).trans (by omega), ?_⟩
    exact ⟨k + 1, ⟨.cons rfl (.cons rfl (.cons rfl (.cons rfl .nil))), rfl⟩, ⟨hkn, hI'⟩, by dsimp only; omega⟩
  · have h : ¬ (k : Int) < n := of_decide_eq_false h
    have e : k = n := by omega
    subst e
    exact hI

theorem each_Hom {p : Option Addr} {b o n cap gf : Nat} {caps : List Value} (I : Nat → World → Prop) {KP : List PanicEntry → World → Prop} {w : World} (hok : calleeOk (sg 16) gf = true) (hp : n = 0 ∨ p = some ⟨b, o, none⟩) (hn : n ≤ 1000000000)
    (hc : ∀ i w, i < n → I i w → CallR Tryz.prog gf (.pointer (some ⟨b, o + i * 11, none⟩) :: caps).toArray w (fun _ w' => I (i + 1) w') KP) (h0 : I 0 w) :
    CallR Tryz.prog 30 #[.slice p n cap, .func (.func gf) #[] caps.toArray] w (fun _ w' => I n w') KP := by
  refine calls_of_E (S := sg 16) (sgOk _) (args := [.slice p n cap, .func (.func gf) #[] caps.toArray]) Tryz.func30 rfl rfl (Nat.le_of_ble_eq_true rfl) rfl ?_
  refine ⟨Nat, fun k => ⟨[(0, .slice p n cap), (1, .func (.func gf) #[] caps.toArray), (6, .int .i64 n), (7, .int .i64 (k : Nat))], []⟩,
    fun k V => k ≤ n ∧ I k V, fun k => n - k, 0, ⟨.cons rfl (.cons rfl (.cons rfl (.cons rfl .nil))), rfl⟩, ⟨Nat.zero_le _, h0⟩, ?_⟩
  rintro k V ⟨hk, hI⟩
  refine And.intro (fun h => ?_) (fun h => ?_)
  · have h : (k : Int) < n := of_decide_eq_true h
    have hkn : k < n := by omega
    rcases hp with hp | hp
    · omega
    subst hp
    refine ⟨k, rfl, hkn, ?_⟩
    refine callE_of hok ?_
    refine CallR.imp (hc k V hkn hI) (fun v w' hI' => ?_) (fun ch w' hq => ⟨rfl, hq⟩)
    refine ⟨(k + 1 : Nat), (wrap_i64 (by omega)).trans (by omega), ?_⟩
    exact ⟨k + 1, ⟨.cons rfl (.cons rfl (.cons rfl (.cons rfl .nil))), rfl⟩, ⟨hkn, hI'⟩, by dsimp only; omega⟩
  · have h : ¬ (k : Int) < n := of_decide_eq_false h
    have e : k = n := by omega
    subst e
    exact hI

theorem each_Msg {p : Option Addr} {b o n cap gf : Nat} {caps : List Value} (I : Nat → World → Prop) {KP : List PanicEntry → World → Prop} {w : World} (hok : calleeOk (sg 16) gf = true) (hp : n = 0 ∨ p = some ⟨b, o, none⟩) (hn : n ≤ 1000000000)
    (hc : ∀ i w, i < n → I i w → CallR Tryz.prog gf (.pointer (some ⟨b, o + i * 11, none⟩) :: caps).toArray w (fun _ w' => I (i + 1) w') KP) (h0 : I 0 w) :
    CallR Tryz.prog 34 #[.slice p n cap, .func (.func gf) #[] caps.toArray] w (fun _ w' => I n w') KP := by
  refine calls_of_E (S := sg 16) (sgOk _) (args := [.slice p n cap, .func (.func gf) #[] caps.toArray]) Tryz.func34 rfl rfl (Nat.le_of_ble_eq_true rfl) rfl ?_
  refine ⟨Nat, fun k => ⟨[(0, .slice p n cap), (1, .func (.func gf) #[] caps.toArray), (6, .int .i64 n), (7, .int .i64 (k : Nat))], []⟩,
    fun k V => k ≤ n ∧ I k V, fun k => n - k, 0, ⟨.cons rfl (.cons rfl (.cons rfl (.cons rfl .nil))), rfl⟩, ⟨Nat.zero_le _, h0⟩, ?_⟩
  rintro k V ⟨hk, hI⟩
  refine And.intro (fun h => ?_) (fun h => ?_)
  · have h : (k : Int) < n := of_decide_eq_true h
    have hkn : k < n := by omega
    rcases hp with hp | hp
    · omega
    subst hp
    refine ⟨k, rfl, hkn, ?_⟩
    refine callE_of hok ?_
    refine CallR.imp (hc k V hkn hI) (fun v w' hI' => ?_) (fun ch w' hq => ⟨rfl, hq⟩)
    refine ⟨(k + 1 : Nat), (wrap_i64 (by omega)).trans (by omega), ?_⟩
    exact ⟨k + 1, ⟨.cons rfl (.cons rfl (.cons rfl (.cons rfl .nil))), rfl⟩, ⟨hkn, hI'⟩, by dsimp only; omega⟩
  · have h : ¬ (k : Int) < n := of_decide_eq_false h
    have e : k = n := by omega
    subst e
    exact hI

theorem each_Sto {p : Option Addr} {b o n cap gf : Nat} {caps : List Value} (I : Nat → World → Prop) {KP : List PanicEntry → World → Prop} {w : World} (hok : calleeOk (sg 16) gf = true) (hp : n = 0 ∨ p = some ⟨b, o, none⟩) (hn : n ≤ 1000000000)
    (hc : ∀ i w, i < n → I i w → CallR Tryz.prog gf (.pointer (some ⟨b, o + i * 2, none⟩) :: caps).toArray w (fun _ w' => I (i + 1) w') KP) (h0 : I 0 w) :
    CallR Tryz.prog 65 #[.slice p n cap, .func (.func gf) #[] caps.toArray] w (fun _ w' => I n w') KP := by
  refine calls_of_E (S := sg 16) (sgOk _) (args := [.slice p n cap, .func (.func gf) #[] caps.toArray]) Tryz.func65 rfl rfl (Nat.le_of_ble_eq_true rfl) rfl ?_
  refine ⟨Nat, fun k => ⟨[(0, .slice p n cap), (1, .func (.func gf) #[] caps.toArray), (6, .int .i64 n), (7, .int .i64 (k : Nat))], []⟩,
    fun k V => k ≤ n ∧ I k V, fun k => n - k, 0, ⟨.cons rfl (.cons rfl (.cons rfl (.cons rfl .nil))), rfl⟩, ⟨Nat.zero_le _, h0⟩, ?_⟩
  rintro k V ⟨hk, hI⟩
  refine And.intro (fun h => ?_) (fun h => ?_)
  · have h : (k : Int) < n := of_decide_eq_true h
    have hkn : k < n := by omega
    rcases hp with hp | hp
    · omega
    subst hp
    refine ⟨k, rfl, hkn, ?_⟩
    refine callE_of hok ?_
    refine CallR.imp (hc k V hkn hI) (fun v w' hI' => ?_) (fun ch w' hq => ⟨rfl, hq⟩)
    refine ⟨(k + 1 : Nat), (wrap_i64 (by omega)).trans (by omega), ?_⟩
    exact ⟨k + 1, ⟨.cons rfl (.cons rfl (.cons rfl (.cons rfl .nil))), rfl⟩, ⟨hkn, hI'⟩, by dsimp only; omega⟩
  · have h : ¬ (k : Int) < n := of_decide_eq_false h
    have e : k = n := by omega
    subst e
    exact hI

theorem each_Row {p : Option Addr} {b o n cap gf : Nat} {caps : List Value} (I : Nat → World → Prop) {KP : List PanicEntry → World → Prop} {w : World} (hok : calleeOk (sg 16) gf = true) (hp : n = 0 ∨ p = some ⟨b, o, none⟩) (hn : n ≤ 1000000000)
    (hc : ∀ i w, i < n → I i w → CallR Tryz.prog gf (.pointer (some ⟨b, o + i * 32, none⟩) :: caps).toArray w (fun _ w' => I (i + 1) w') KP) (h0 : I 0 w) :
    CallR Tryz.prog 67 #[.slice p n cap, .func (.func gf) #[] caps.toArray] w (fun _ w' => I n w') KP := by
  refine calls_of_E (S := sg 16) (sgOk _) (args := [.slice p n cap, .func (.func gf) #[] caps.toArray]) Tryz.func67 rfl rfl (Nat.le_of_ble_eq_true rfl) rfl ?_
  refine ⟨Nat, fun k => ⟨[(0, .slice p n cap), (1, .func (.func gf) #[] caps.toArray), (6, .int .i64 n), (7, .int .i64 (k : Nat))], []⟩,
    fun k V => k ≤ n ∧ I k V, fun k => n - k, 0, ⟨.cons rfl (.cons rfl (.cons rfl (.cons rfl .nil))), rfl⟩, ⟨Nat.zero_le _, h0⟩, ?_⟩
  rintro k V ⟨hk, hI⟩
  refine And.intro (fun h => ?_) (fun h => ?_)
  · have h : (k : Int) < n := of_decide_eq_true h
    have hkn : k < n := by omega
    rcases hp with hp | hp
    · omega
    subst hp
    refine ⟨k, rfl, hkn, ?_⟩
    refine callE_of hok ?_
    refine CallR.imp (hc k V hkn hI) (fun v w' hI' => ?_) (fun ch w' hq => ⟨rfl, hq⟩)
    refine ⟨(k + 1 : Nat), (wrap_i64 (by omega)).trans (by omega), ?_⟩
    exact ⟨k + 1, ⟨.cons rfl (.cons rfl (.cons rfl (.cons rfl .nil))), rfl⟩, ⟨hkn, hI'⟩, by dsimp only; omega⟩
  · have h : ¬ (k : Int) < n := of_decide_eq_false h
    have e : k = n := by omega
    subst e
    exact hI

theorem each_Lin {p : Option Addr} {b o n cap gf : Nat} {caps : List Value} (I : Nat → World → Prop) {KP : List PanicEntry → World → Prop} {w : World} (hok : calleeOk (sg 16) gf = true) (hp : n = 0 ∨ p = some ⟨b, o, none⟩) (hn : n ≤ 1000000000)
    (hc : ∀ i w, i < n → I i w → CallR Tryz.prog gf (.pointer (some ⟨b, o + i * 8, none⟩) :: caps).toArray w (fun _ w' => I (i + 1) w') KP) (h0 : I 0 w) :
    CallR Tryz.prog 69 #[.slice p n cap, .func (.func gf) #[] caps.toArray] w (fun _ w' => I n w') KP := by
  refine calls_of_E (S := sg 16) (sgOk _) (args := [.slice p n cap, .func (.func gf) #[] caps.toArray]) Tryz.func69 rfl rfl (Nat.le_of_ble_eq_true rfl) rfl ?_
  refine ⟨Nat, fun k => ⟨[(0, .slice p n cap), (1, .func (.func gf) #[] caps.toArray), (6, .int .i64 n), (7, .int .i64 (k : Nat))], []⟩,
    fun k V => k ≤ n ∧ I k V, fun k => n - k, 0, ⟨.cons rfl (.cons rfl (.cons rfl (.cons rfl .nil))), rfl⟩, ⟨Nat.zero_le _, h0⟩, ?_⟩
  rintro k V ⟨hk, hI⟩
  refine And.intro (fun h => ?_) (fun h => ?_)
  · have h : (k : Int) < n := of_decide_eq_true h
    have hkn : k < n := by omega
    rcases hp with hp | hp
    · omega
    subst hp
    refine ⟨k, rfl, hkn, ?_⟩
    refine callE_of hok ?_
    refine CallR.imp (hc k V hkn hI) (fun v w' hI' => ?_) (fun ch w' hq => ⟨rfl, hq⟩)
    refine ⟨(k + 1 : Nat), (wrap_i64 (by omega)).trans (by omega), ?_⟩
    exact ⟨k + 1, ⟨.cons rfl (.cons rfl (.cons rfl (.cons rfl .nil))), rfl⟩, ⟨hkn, hI'⟩, by dsimp only; omega⟩
  · have h : ¬ (k : Int) < n := of_decide_eq_false h
    have e : k = n := by omega
    subst e
    exact hI

theorem each_Nte {p : Option Addr} {b o n cap gf : Nat} {caps : List Value} (I : Nat → World → Prop) {KP : List PanicEntry → World → Prop} {w : World} (hok : calleeOk (sg 16) gf = true) (hp : n = 0 ∨ p = some ⟨b, o, none⟩) (hn : n ≤ 1000000000)
    (hc : ∀ i w, i < n → I i w → CallR Tryz.prog gf (.pointer (some ⟨b, o + i * 7, none⟩) :: caps).toArray w (fun _ w' => I (i + 1) w') KP) (h0 : I 0 w) :
    CallR Tryz.prog 72 #[.slice p n cap, .func (.func gf) #[] caps.toArray] w (fun _ w' => I n w') KP := by
  refine calls_of_E (S := sg 16) (sgOk _) (args := [.slice p n cap, .func (.func gf) #[] caps.toArray]) Tryz.func72 rfl rfl (Nat.le_of_ble_eq_true rfl) rfl ?_
  refine ⟨Nat, fun k => ⟨[(0, .slice p n cap), (1, .func (.func gf) #[] caps.toArray), (6, .int .i64 n), (7, .int .i64 (k : Nat))], []⟩,
    fun k V => k ≤ n ∧ I k V, fun k => n - k, 0, ⟨.cons rfl (.cons rfl (.cons rfl (.cons rfl .nil))), rfl⟩, ⟨Nat.zero_le _, h0⟩, ?_⟩
  rintro k V ⟨hk, hI⟩
  refine And.intro (fun h => ?_) (fun h => ?_)
  · have h : (k : Int) < n := of_decide_eq_true h
    have hkn : k < n := by omega
    rcases hp with hp | hp
    · omega
    subst hp
    refine ⟨k, rfl, hkn, ?_⟩
    refine callE_of hok ?_
    refine CallR.imp (hc k V hkn hI) (fun v w' hI' => ?_) (fun ch w' hq => ⟨rfl, hq⟩)
    refine ⟨(k + 1 : Nat), (wrap_i64 (by omega)).trans (by omega), ?_⟩
    exact ⟨k + 1, ⟨.cons rfl (.cons rfl (.cons rfl (.cons rfl .nil))), rfl⟩, ⟨hkn, hI'⟩, by dsimp only; omega⟩
  · have h : ¬ (k : Int) < n := of_decide_eq_false h
    have e : k = n := by omega
    subst e
    exact hI
end Go.Proofs.YtedeohcdcaimhaaGreatDoor
namespace Go.Proofs.YtedeohcdcaimhaaGreatDoor
open Go.Vc Go.RowKit Go.Sei

/-- The encoder: its box g, the bytes; what no put touches. -/
def EncB (B : Nat) (L : List Nat) (g : Nat) (out : List UInt8) (w : World) : Prop :=
  ∃ p cap, w.heap[g]? = some (.cells #[.slice p out.length cap] 124 (0, 0)) ∧ OwnS byteE 5 B w p cap out ∧ B ≤ g ∧ (∀ a, p = some a → a.block ≠ g ∧ a.block ∉ L) ∧ g ∉ L ∧ ∀ k ∈ L, k < w.heap.size
structure Kp (B : Nat) (L : List Nat) (w w' : World) : Prop where
  b : Below B w w'
  l : ∀ k ∈ L, w'.heap[k]? = w.heap[k]?
theorem Kp.refl (B : Nat) (L : List Nat) (w : World) : Kp B L w w := ⟨Below.refl _ _, fun _ _ => rfl⟩
theorem Kp.trans {B : Nat} {L : List Nat} {a b c : World} (h : Kp B L a b) (k : Kp B L b c) : Kp B L a c := ⟨h.b.trans k.b, fun i hi => (k.l i hi).trans (h.l i hi)⟩
theorem Kp.mono {B : Nat} {L L' : List Nat} {a b : World} (h : Kp B L a b) (hl : ∀ k ∈ L', k ∈ L) : Kp B L' a b := ⟨h.b, fun i hi => h.l i (hl i hi)⟩
theorem Kp.of_below {B : Nat} {L : List Nat} {a b : World} (h : Below a.heap.size a b) (hB : B ≤ a.heap.size) (hl : ∀ k ∈ L, k < a.heap.size) : Kp B L a b := ⟨h.mono hB, fun i hi => h.block i (hl i hi)⟩
theorem EncB.lt {B g : Nat} {L : List Nat} {out : List UInt8} {w : World} (h : EncB B L g out w) : B ≤ w.heap.size ∧ g < w.heap.size ∧ ∀ k ∈ L, k < w.heap.size := by
  obtain ⟨p, cap, fg, ho, hB, _, _, hL⟩ := h
  have := hlt fg
  exact ⟨by omega, this, hL⟩
theorem EncB.below {B g : Nat} {L : List Nat} {out : List UInt8} {w w2 : World} (h : EncB B L g out w) (hb : Below w.heap.size w w2) : EncB B L g out w2 := by
  obtain ⟨p, cap, fg, ho, hB, hp, hg, hL⟩ := h
  exact ⟨p, cap, block_below hb fg, ho.below hb, hB, hp, hg, fun k hk => Nat.lt_of_lt_of_le (hL k hk) hb.size⟩
theorem EncB.box {B g : Nat} {L : List Nat} {out : List UInt8} {w w2 : World} (h : EncB B L g out w) (hb : Below w.heap.size w w2) (hs : w.heap.size < w2.heap.size) : EncB B (w.heap.size :: L) g out w2 := by
  obtain ⟨p, cap, fg, ho, hB, hp, hg, hL⟩ := h
  have h1 := hlt fg
  refine ⟨p, cap, block_below hb fg, ho.below hb, hB, fun a ha => ⟨(hp a ha).1, ?_⟩, ?_, ?_⟩
  · simp only [List.mem_cons, not_or]
    refine ⟨?_, (hp a ha).2⟩
    rcases ho.inv with ⟨h2, _⟩ | ⟨g', _, h2, _, h3, _⟩
    · rw [h2] at ha; cases ha
    · rw [h2] at ha; cases ha
      have := hlt h3
      dsimp only; omega
  · simp only [List.mem_cons, not_or]; exact ⟨by omega, hg⟩
  · intro k hk
    rcases List.mem_cons.1 hk with rfl | hk
    · exact hs
    · exact Nat.lt_of_lt_of_le (hL k hk) hb.size
theorem EncB.less {B g : Nat} {L L' : List Nat} {out : List UInt8} {w : World} (h : EncB B L g out w) (hl : ∀ k ∈ L', k ∈ L) : EncB B L' g out w := by
  obtain ⟨p, cap, fg, ho, hB, hp, hg, hL⟩ := h
  exact ⟨p, cap, fg, ho, hB, fun a ha => ⟨(hp a ha).1, fun hm => (hp a ha).2 (hl _ hm)⟩, fun hm => hg (hl _ hm), fun k hk => hL k (hl k hk)⟩

theorem bytes_flat (l : List UInt8) : l.flatMap byteE.enc = l.map u8 := by
  induction l with
  | nil => rfl
  | cons a r ih => rw [List.flatMap_cons, ih]; rfl

theorem Put_c {B g : Nat} {L : List Nat} {out : List UInt8} (news : List UInt8) (a : Addr) (c : Nat) {w : World} (hE : EncB B L g out w) (hn : Cells w a (news.map u8)) (hl : out.length + news.length ≤ 1000000) :
    Calls Tryz.prog 60 #[.pointer (some ⟨g, 0, none⟩), .slice (some a) news.length c] w fun e w' => (∃ v, e = .returned v) ∧ EncB B L g (out ++ news) w' ∧ Kp B L w w' := by
  refine calls_of_E (S := sg 13) (sgOk _) (args := [.pointer (some ⟨g, 0, none⟩), .slice (some a) news.length c]) Tryz.func60 rfl rfl (Nat.le_of_ble_eq_true rfl) rfl ?_
  obtain ⟨p, cap, fg, ho, hBg, hpa, hgL, hLl⟩ := hE
  have hgs := hlt fg
  refine ⟨.slice p out.length cap, cells_at (cells_block fg) (i := 0) rfl, ?_⟩
  rw [← bytes_flat] at hn
  refine app_own (α := UInt8) (E := byteE) Tryz.underlying23 (ttOk.get 5 _ rfl) rfl rfl rfl ho rfl hn (by omega) (by omega) (by dsimp only; omega) ?_
  intro p' cap' X ho' hg' hb' hat
  have hne : ∀ b, p = some b → b.block ≠ g := fun b hb => (hpa b hb).1
  have hown : ∀ k, (Value.slice p out.length cap).ownBlock = some k → ∃ b, p = some b ∧ b.block = k := fun k hk => by
    rcases ho.inv with ⟨rfl, _⟩ | ⟨g', _, rfl, _⟩
    · simp [Value.ownBlock] at hk
    · simp [Value.ownBlock] at hk
      exact ⟨_, rfl, hk⟩
  have hk : ∀ k, k < w.heap.size → (∀ b, p = some b → b.block ≠ k) → X.heap[k]? = w.heap[k]? := fun k hk hnk => hg'.block k hk fun e => by
    obtain ⟨b, h1, h2⟩ := hown k e.symm
    exact hnk b h1 h2
  have fX : X.heap[g]? = some (.cells #[.slice p out.length cap] 124 (0, 0)) := (hk g hgs hne).trans fg
  have hp' : ∀ b, p' = some b → b.block ≠ g ∧ b.block ∉ L := fun b hb => by
    rcases hat b hb with h1 | h1
    · exact hpa b h1
    · rw [h1]; exact ⟨by omega, fun hm => by have := hLl _ hm; omega⟩
  refine store_box (v := .slice p' (out ++ news).length cap') (ttOk.get 23 _ rfl) fX (by rfl) rfl (by rfl) ?_
  refine ⟨⟨_, rfl⟩, ⟨p', cap', setRow_new fX, ho'.kept (grown_setRow _ _ _) (fun g' he e => ?_), hBg, hp', hgL, fun k hk => ?_⟩, ⟨below_setRow hb' hBg _, fun k hkL => ?_⟩⟩
  · have := (hp' _ he).1
    simp only [Option.some.injEq] at e
    exact this e.symm
  · have h1 := hLl k hk
    have := hg'.size
    have h3 : (X.setRow g (Value.slice p' (out ++ news).length cap').cells).heap.size = X.heap.size := by simp
    omega
  · have h1 := hLl k hkL
    rw [setRow_old (fun e : k = g => hgL (by rw [← e]; exact hkL))]
    exact hk k h1 fun b hb e => (hpa b hb).2 (by rw [e]; exact hkL)

theorem bit_c (on : Bool) (v : UInt8) (w : World) : Calls Tryz.prog 93 #[.bool on, u8 v] w fun e w' => e = .returned (u8 (bitB on v)) ∧ w = w' := by
  refine calls_of_E (S := sg 7) (sgOk _) (args := [.bool on, u8 v]) Tryz.func93 rfl rfl (Nat.le_of_ble_eq_true rfl) rfl ?_
  refine And.intro (fun h => ?_) (fun h => ?_)
  · have h : on = true := h
    subst h
    exact ⟨rfl, rfl⟩
  · have h : on = false := h
    subst h
    exact ⟨rfl, rfl⟩
end Go.Proofs.YtedeohcdcaimhaaGreatDoor
namespace Go.Proofs.YtedeohcdcaimhaaGreatDoor
open Go.Vc Go.RowKit Go.Sei

theorem cells_same {w w2 : World} {b o : Nat} {vs : List Value} (hs : w2.heap[b]? = w.heap[b]?) (h : Cells w ⟨b, o, none⟩ vs) : Cells w2 ⟨b, o, none⟩ vs := by
  refine cells_mk fun i v hv => ?_
  have := cells_at h hv
  rw [← this]
  unfold World.cell?
  simp only [hs]
theorem cells_belowB {B : Nat} {w w2 : World} {b o : Nat} {vs : List Value} (hb : Below B w w2) (hlt : b < B) (h : Cells w ⟨b, o, none⟩ vs) : Cells w2 ⟨b, o, none⟩ vs :=
  cells_same (hb.block b hlt) h
theorem cells_app {w : World} {b o : Nat} {u v : List Value} : Cells w ⟨b, o, none⟩ (u ++ v) ↔ Cells w ⟨b, o, none⟩ u ∧ Cells w ⟨b, o + u.length, none⟩ v := by
  constructor
  · intro h
    refine ⟨cells_mk fun i x hx => cells_at h ?_, cells_mk fun i x hx => ?_⟩
    · rw [List.getElem?_append_left (List.getElem?_eq_some_iff.1 hx).1]; exact hx
    · have := cells_at h (i := u.length + i) (v := x) (by rw [List.getElem?_append_right (by omega)]; simpa using hx)
      rwa [← Nat.add_assoc] at this
  · rintro ⟨h1, h2⟩
    refine cells_mk fun i x hx => ?_
    by_cases hi : i < u.length
    · rw [List.getElem?_append_left hi] at hx; exact cells_at h1 hx
    · rw [List.getElem?_append_right (by omega)] at hx
      have := cells_at h2 hx
      rwa [show o + u.length + (i - u.length) = o + i by omega] at this

/-- The row at p holds l, below B. -/
def RowB {α : Type} (E : Enc α) (B : Nat) (w : World) (p : Option Addr) (l : List α) : Prop :=
  l = [] ∨ ∃ b o, p = some ⟨b, o, none⟩ ∧ b < B ∧ Cells w ⟨b, o, none⟩ (l.flatMap E.enc)
section
variable {α : Type} {E : Enc α} {B : Nat} {w w2 : World} {p : Option Addr} {l : List α}
theorem RowB.below (h : RowB E B w p l) (hb : Below B w w2) : RowB E B w2 p l := by
  rcases h with h | ⟨b, o, hp, hlt, hc⟩
  · exact .inl h
  · exact .inr ⟨b, o, hp, hlt, cells_belowB hb hlt hc⟩
theorem RowB.mono {B' : Nat} (h : RowB E B w p l) (hB : B ≤ B') : RowB E B' w p l := by
  rcases h with h | ⟨b, o, hp, hlt, hc⟩
  · exact .inl h
  · exact .inr ⟨b, o, hp, by omega, hc⟩
theorem RowB.slr (h : RowB E B w p l) (hB : B ≤ w.heap.size) : SlR E w p l := by
  rcases h with rfl | ⟨b, o, rfl, hlt, hc⟩
  · exact .nil
  · exact SlR.of_cells (by omega) hc
theorem RowB.of_slr (h : SlR E w p l) : RowB E w.heap.size w p l := by
  by_cases h0 : l = []
  · exact .inl h0
  · rcases h with h | ⟨b, o, rfl, hlt, hc⟩
    · exact absurd h h0
    · exact .inr ⟨b, o, rfl, hlt, SlR.cells (.inr ⟨b, o, rfl, hlt, hc⟩)⟩
/-- As each takes it. -/
theorem RowB.get (h : RowB E B w p l) : ∃ b o, (l.length = 0 ∨ p = some ⟨b, o, none⟩) ∧ ∀ i (hi : i < l.length), b < B ∧ Cells w ⟨b, o + i * E.sz, none⟩ (E.enc l[i]) := by
  rcases h with rfl | ⟨b, o, rfl, hlt, hc⟩
  · exact ⟨0, 0, .inl rfl, fun i hi => by simp at hi⟩
  · exact ⟨b, o, .inr rfl, fun i hi => ⟨hlt, by rw [← flat_get l i hi]; exact cells_sub hc⟩⟩
end

def s8 (x : UInt8) : Int := if x.toNat < 128 then x.toNat else (x.toNat : Int) - 256
def leM (h : Hom) : Nat := h.m0.toNat + h.m1.toNat * 256 + h.m2.toNat * 65536 + h.m3.toNat * 16777216 + h.m4.toNat * 4294967296 + h.m5.toNat * 1099511627776 + h.m6.toNat * 281474976710656 + h.m7.toNat * 72057594037927936
def i64v (n : Int) : Value := .int .i64 n
def stoE : Enc Sto := ⟨fun s => [u8 s.l, u8 s.v], 2, fun _ => rfl, by decide, fun a u hu => by
  simp only [List.mem_cons, List.not_mem_nil, or_false] at hu; rcases hu with rfl | rfl <;> rfl⟩
def linE : Enc Lin := ⟨fun x => [u8 x.line, u8 x.state, .int .i8 (s8 x.need), .bool x.has, u8 x.d0, u8 x.d1, u8 x.d2, u8 x.d3], 8, fun _ => rfl, by decide, fun a u hu => by
  simp only [List.mem_cons, List.not_mem_nil, or_false] at hu; rcases hu with rfl | rfl | rfl | rfl | rfl | rfl | rfl | rfl <;> rfl⟩
def nteE : Enc Nte := ⟨fun n => [u8 n.kind, i64v n.ways, u8 n.o0, u8 n.o1, u8 n.o2, u8 n.o3, u8 n.bits], 7, fun _ => rfl, by decide, fun a u hu => by
  simp only [List.mem_cons, List.not_mem_nil, or_false] at hu; rcases hu with rfl | rfl | rfl | rfl | rfl | rfl | rfl <;> rfl⟩
def homE : Enc Hom := ⟨fun h => [u8 h.state, u8 h.owner, u8 h.kind, .int .u64 (leM h), .bool h.all, u8 h.wait, u8 h.asker, u8 h.d0, u8 h.d1, u8 h.d2, u8 h.d3], 11, fun _ => rfl, by decide, fun a u hu => by
  simp only [List.mem_cons, List.not_mem_nil, or_false] at hu; rcases hu with rfl | rfl | rfl | rfl | rfl | rfl | rfl | rfl | rfl | rfl | rfl <;> rfl⟩
def corCells (c : Cor) (v : Value) : List Value := [u8 c.pc, u8 c.r0, u8 c.r1, u8 c.r2, u8 c.r3, u8 c.r4, u8 c.r5, u8 c.r6, u8 c.r7, v, .bool c.waits, .bool c.drain]
def opCells (c : Cac) : List Value := [u8 c.k, u8 c.l, u8 c.a, u8 c.b]
def cacCells (c : Cac) : List Value := c.ways.flatMap linE.enc ++ (c.notes.flatMap nteE.enc ++ opCells c)
def CorAt (B : Nat) (w : World) (b o : Nat) (c : Cor) : Prop := ∃ p cap, b < B ∧ Cells w ⟨b, o, none⟩ (corCells c (.slice p c.buf.length cap)) ∧ RowB stoE B w p c.buf
def CacAt (B : Nat) (w : World) (b o : Nat) (c : Cac) : Prop := b < B ∧ Cells w ⟨b, o, none⟩ (cacCells c) ∧ c.ways.length = 16 ∧ c.notes.length = 4
def CorsV (B : Nat) (w : World) (p : Option Addr) (l : List Cor) : Prop := ∃ b o, (l.length = 0 ∨ p = some ⟨b, o, none⟩) ∧ ∀ i (h : i < l.length), CorAt B w b (o + i * 12) l[i]
def CacsV (B : Nat) (w : World) (p : Option Addr) (l : List Cac) : Prop := ∃ b o, (l.length = 0 ∨ p = some ⟨b, o, none⟩) ∧ ∀ i (h : i < l.length), CacAt B w b (o + i * 160) l[i]
theorem CorAt.below {B b o : Nat} {w w2 : World} {c : Cor} (h : CorAt B w b o c) (hb : Below B w w2) : CorAt B w2 b o c := by
  obtain ⟨p, cap, h1, h2, h3⟩ := h
  exact ⟨p, cap, h1, cells_belowB hb h1 h2, h3.below hb⟩
theorem CacAt.below {B b o : Nat} {w w2 : World} {c : Cac} (h : CacAt B w b o c) (hb : Below B w w2) : CacAt B w2 b o c := ⟨h.1, cells_belowB hb h.1 h.2.1, h.2.2⟩
theorem CorsV.below {B : Nat} {w w2 : World} {p : Option Addr} {l : List Cor} (h : CorsV B w p l) (hb : Below B w w2) : CorsV B w2 p l := by
  obtain ⟨b, o, h1, h2⟩ := h
  exact ⟨b, o, h1, fun i hi => (h2 i hi).below hb⟩
theorem CacsV.below {B : Nat} {w w2 : World} {p : Option Addr} {l : List Cac} (h : CacsV B w p l) (hb : Below B w w2) : CacsV B w2 p l := by
  obtain ⟨b, o, h1, h2⟩ := h
  exact ⟨b, o, h1, fun i hi => (h2 i hi).below hb⟩
theorem CorsV.mono {B B' : Nat} {w : World} {p : Option Addr} {l : List Cor} (h : CorsV B w p l) (hB : B ≤ B') : CorsV B' w p l := by
  obtain ⟨b, o, h1, h2⟩ := h
  refine ⟨b, o, h1, fun i hi => ?_⟩
  obtain ⟨p, cap, h3, h4, h5⟩ := h2 i hi
  exact ⟨p, cap, by omega, h4, h5.mono hB⟩
theorem CacsV.mono {B B' : Nat} {w : World} {p : Option Addr} {l : List Cac} (h : CacsV B w p l) (hB : B ≤ B') : CacsV B' w p l := by
  obtain ⟨b, o, h1, h2⟩ := h
  refine ⟨b, o, h1, fun i hi => ?_⟩
  obtain ⟨h3, h4⟩ := h2 i hi
  exact ⟨by omega, h4⟩
/-- A system, as a value. -/
structure SysV (B : Nat) (w : World) (vs : List Value) (s : Sy) : Prop where
  h : ∃ p1 c1 p2 c2 p3 c3, vs = .slice p1 s.cores.length c1 :: .slice p2 s.caches.length c2 :: (s.homes.flatMap homE.enc ++ [.slice p3 s.net.length c3]) ∧
    CorsV B w p1 s.cores ∧ CacsV B w p2 s.caches ∧ RowB Msg.E B w p3 s.net ∧ (p3 = none → c3 = 0)
  homes : s.homes.length = 6
theorem SysV.below {B : Nat} {w w2 : World} {vs : List Value} {s : Sy} (h : SysV B w vs s) (hb : Below B w w2) : SysV B w2 vs s := by
  obtain ⟨⟨p1, c1, p2, c2, p3, c3, h1, h2, h3, h4, h5⟩, h6⟩ := h
  exact ⟨⟨p1, c1, p2, c2, p3, c3, h1, h2.below hb, h3.below hb, h4.below hb, h5⟩, h6⟩
theorem SysV.mono {B B' : Nat} {w : World} {vs : List Value} {s : Sy} (h : SysV B w vs s) (hb : B ≤ B') : SysV B' w vs s := by
  obtain ⟨⟨p1, c1, p2, c2, p3, c3, h1, h2, h3, h4, h5⟩, h6⟩ := h
  exact ⟨⟨p1, c1, p2, c2, p3, c3, h1, h2.mono hb, h3.mono hb, h4.mono hb, h5⟩, h6⟩
theorem SysV.len {B : Nat} {w : World} {vs : List Value} {s : Sy} (h : SysV B w vs s) : vs.length = 69 := by
  obtain ⟨⟨p1, c1, p2, c2, p3, c3, rfl, _⟩, h6⟩ := h
  simp only [List.length_cons, List.length_append, flat_len (E := homE), h6, List.length_nil]; rfl
theorem SysV.one {B : Nat} {w : World} {vs : List Value} {s : Sy} (h : SysV B w vs s) : vs.all Value.oneCell' = true := by
  obtain ⟨⟨p1, c1, p2, c2, p3, c3, rfl, _⟩, h6⟩ := h
  rw [List.all_eq_true]
  intro x hx
  simp only [List.mem_cons, List.mem_append, List.not_mem_nil, or_false] at hx
  rcases hx with rfl | rfl | hx | rfl
  · rfl
  · rfl
  · exact flat_one _ x hx
  · rfl
/-- A world, as a value: its geometry, its mode. -/
structure WorV (wv : List Value) (g : List Value) (mode : UInt8) : Prop where
  len : wv.length = 585
  geo : (wv.drop 10).take 5 = g
  mode : wv[15]? = some (u8 mode)
end Go.Proofs.YtedeohcdcaimhaaGreatDoor
namespace Go.Proofs.YtedeohcdcaimhaaGreatDoor
open Go.Vc Go.RowKit Go.Sei

def zeroM : Msg := ⟨0, 0, 0, 0, 0, 0, false, 0, 0, 0, 0⟩
theorem Bytes_c (m : Msg) (w : World) : Calls Tryz.prog 62 #[m.val] w fun e w' => ∃ g, e = .returned (.slice (some ⟨g, 0, none⟩) 11 11) ∧ w'.heap[g]? = some (.cells ((codeOf m).map u8).toArray 169 (0, 0)) ∧ w.heap.size ≤ g ∧ Below w.heap.size w w' := by
  refine calls_of_E (S := sg 7) (sgOk _) (args := [m.val]) Tryz.func62 rfl rfl (Nat.le_of_ble_eq_true rfl) rfl ?_
  have hb0 : Below w.heap.size w (w.alloc (.cells m.val.cells 107)) := (Below.refl _ _).alloc (Nat.le_refl _) _
  have f0 := hnew w (.cells m.val.cells 107)
  refine ⟨m.enc, rfl, cells_block f0, hlt f0, ?_⟩
  refine Calls.mono (code_c m _) ?_
  rintro e X ⟨rfl, hbX⟩
  have hb2 := hb0.trans (hbX.mono hb0.size)
  refine store_new (X := X) (v := .agg ((codeOf m).map u8).toArray) (ttOk.get 169 _ rfl) (by rfl) rfl (by rfl) fun Y hbY fY sY => ?_
  exact ⟨X.heap.size, rfl, fY, hb2.size, hb2.trans (hbY.mono hb2.size)⟩
end Go.Proofs.YtedeohcdcaimhaaGreatDoor
namespace Go.Proofs.YtedeohcdcaimhaaGreatDoor
open Go.Vc Go.RowKit Go.Sei

theorem PutLit {B g : Nat} {L : List Nat} {out : List UInt8} (news : List UInt8) {X : World} {T : TypeId} (hE : EncB B L g out X) (hl : out.length + news.length ≤ 1000000) :
    Calls Tryz.prog 60 #[.pointer (some ⟨g, 0, none⟩), .slice (some ⟨X.drew.heap.size, 0, none⟩) news.length news.length] (X.drew.alloc (.cells (news.map u8).toArray T)) fun e w' => (∃ v, e = .returned v) ∧ EncB B L g (out ++ news) w' ∧ Kp B L X w' := by
  have hb1 : Below X.heap.size X (X.drew.alloc (.cells (news.map u8).toArray T)) := (Below.refl _ X).drew.alloc (Nat.le_refl _) _
  refine Calls.mono (Put_c news ⟨X.drew.heap.size, 0, none⟩ news.length (hE.below hb1) (by have := cells_new (w := X.drew) (cs := (news.map u8).toArray) (t := T); simpa using this) hl) ?_
  rintro e V ⟨h0, h1, h2⟩
  exact ⟨h0, h1, (Kp.of_below hb1 hE.lt.1 hE.lt.2.2).trans h2⟩
theorem PutRow {B g : Nat} {L : List Nat} {out : List UInt8} (news : List UInt8) (a : Addr) (c : Nat) {X : World} (hE : EncB B L g out X) (hn : Cells X a (news.map u8)) (hl : out.length + news.length ≤ 1000000) :
    Calls Tryz.prog 60 #[.pointer (some ⟨g, 0, none⟩), .slice (some a) news.length c] X.drew fun e w' => (∃ v, e = .returned v) ∧ EncB B L g (out ++ news) w' ∧ Kp B L X w' := by
  have hb1 : Below X.heap.size X X.drew := (Below.refl _ X).drew
  refine Calls.mono (Put_c news a c (hE.below hb1) hn hl) ?_
  rintro e V ⟨h0, h1, h2⟩
  exact ⟨h0, h1, (Kp.of_below hb1 hE.lt.1 hE.lt.2.2).trans h2⟩
theorem take_flat {α : Type} (f : α → List UInt8) {l : List α} {i : Nat} (hi : i < l.length) : (l.take (i + 1)).flatMap f = (l.take i).flatMap f ++ f l[i] ∧ ((l.take i).flatMap f).length + (f l[i]).length ≤ (l.flatMap f).length := by
  have h1 : (l.take (i + 1)).flatMap f = (l.take i).flatMap f ++ f l[i] := by rw [List.take_succ_eq_append_getElem hi, List.flatMap_append]; simp
  refine ⟨h1, ?_⟩
  rw [← List.length_append, ← h1]
  conv => rhs; rw [← List.take_append_drop (i + 1) l, List.flatMap_append]
  simp

theorem encSto_c {B g bx ox ep : Nat} {L : List Nat} {out : List UInt8} (s : Sto) {w : World} (hE : EncB B L g out w) (hb : w.heap[ep]? = some (.cells #[.pointer (some ⟨g, 0, none⟩)] 166 (0, 0))) (hx : Cells w ⟨bx, ox, none⟩ (stoE.enc s)) (hl : out.length + 2 ≤ 1000000) :
    Calls Tryz.prog 92 #[.pointer (some ⟨bx, ox, none⟩), .pointer (some ⟨ep, 0, none⟩)] w fun e w' => (∃ v, e = .returned v) ∧ EncB B L g (out ++ encSto s) w' ∧ Kp B L w w' := by
  refine calls_of_E (S := sg 16) (sgOk _) (args := [.pointer (some ⟨bx, ox, none⟩), .pointer (some ⟨ep, 0, none⟩)]) Tryz.func92 rfl rfl (Nat.le_of_ble_eq_true rfl) rfl ?_
  refine DrawE.ord [12] [0, 1, 2, 3, 4, 5, 6, 7, 8, 9, 10, 11, 12] (by kernel_rfl) ?_
  refine ⟨_, cells_at (cells_block hb) (i := 0) rfl, ?_⟩
  refine ⟨_, cells_at hx (i := 0) rfl, ?_⟩
  refine ⟨_, cells_at hx (i := 1) rfl, ?_⟩
  refine ⟨⟨by decide, by decide, rfl⟩, _, rfl, ?_⟩
  refine ⟨(Below.refl _ _).alloc (Nat.le_refl _) _, ?_⟩
  refine Calls.mono (PutLit [s.l, s.v] hE hl) ?_
  rintro e V ⟨⟨v, rfl⟩, h1, h2⟩
  exact ⟨⟨_, rfl⟩, h1, h2⟩

theorem encCor_c {B g bc oc : Nat} {L : List Nat} {out : List UInt8} (c : Cor) {w : World} (hE : EncB B L g out w) (hc : CorAt B w bc oc c) (ho : okCor c) (hl : out.length + (encCor c).length ≤ 1000000) :
    Calls Tryz.prog 55 #[.pointer (some ⟨g, 0, none⟩), .pointer (some ⟨bc, oc, none⟩)] w fun e w' => (∃ v, e = .returned v) ∧ EncB B L g (out ++ encCor c) w' ∧ Kp B L w w' := by
  refine calls_of_E (S := sg 54) (sgOk _) (args := [.pointer (some ⟨g, 0, none⟩), .pointer (some ⟨bc, oc, none⟩)]) Tryz.func55 rfl rfl (Nat.le_of_ble_eq_true rfl) rfl ?_
  have hlen := cor_len c
  have hE0 := hE.box (w2 := w.alloc (.cells (Value.pointer (some ⟨g, 0, none⟩)).cells 166)) ((Below.refl _ _).alloc (Nat.le_refl _) _) (by simp)
  have k0 : Kp B L w (w.alloc (.cells (Value.pointer (some ⟨g, 0, none⟩)).cells 166)) := .of_below ((Below.refl _ _).alloc (Nat.le_refl _) _) hE.lt.1 hE.lt.2.2
  have f0 := hnew w (.cells (Value.pointer (some ⟨g, 0, none⟩)).cells 166)
  obtain ⟨W0, hW0⟩ : ∃ W0, w.alloc (.cells (Value.pointer (some ⟨g, 0, none⟩)).cells 166) = W0 := ⟨_, rfl⟩
  obtain ⟨ep, hep⟩ : ∃ ep, w.heap.size = ep := ⟨_, rfl⟩
  rw [hW0] at hE0 k0 f0
  rw [hep] at hE0 f0
  have hc0 := hc.below k0.b
  obtain ⟨p, cap, hbB, hcl, hst⟩ := hc0
  have hx : ∀ V, Kp B (ep :: L) W0 V → Cells V ⟨bc, oc, none⟩ (corCells c (.slice p c.buf.length cap)) := fun V k => cells_belowB k.b hbB hcl
  have hb : ∀ V, Kp B (ep :: L) W0 V → V.heap[ep]? = some (.cells #[.pointer (some ⟨g, 0, none⟩)] 166 (0, 0)) := fun V k => (k.l ep List.mem_cons_self).trans f0
  refine DrawE.ord [8] [0, 1, 2, 3, 4, 5, 6, 7, 8] (by kernel_rfl) ?_
  have ff := f0
  rw [← hW0, ← hep] at ff
  refine ⟨_, cells_at (cells_block ff) (i := 0) rfl, ?_⟩
  rw [hW0]
  refine ⟨_, cells_at hcl (i := 0) rfl, ?_⟩
  refine ⟨⟨by decide, by decide, rfl⟩, _, rfl, ?_⟩
  refine ⟨(Below.refl _ _).alloc (Nat.le_refl _) _, ?_⟩
  refine Calls.mono (PutLit [c.pc] hE0 (by simp only [List.length_cons, List.length_nil]; omega)) ?_
  rintro e V1 ⟨⟨v, rfl⟩, e1, k1⟩
  refine DrawE.ord [7] [0, 1, 2, 3, 4, 5, 6, 7] (by kernel_rfl) ?_
  rw [hep]
  refine ⟨_, cells_at (cells_block (hb _ k1)) (i := 0) rfl, ?_⟩
  refine Calls.mono (PutRow [c.r0, c.r1, c.r2, c.r3, c.r4, c.r5, c.r6, c.r7] ⟨bc, oc + 1, none⟩ 8 e1 (cells_sub (n := 1) (m := 8) (hx _ k1)) (by simp only [List.length_append, List.length_cons, List.length_nil]; omega)) ?_
  rintro e V2 ⟨⟨v, rfl⟩, e2, k2⟩
  have k2 := k1.trans k2
  refine DrawE.ord [10] [0, 1, 2, 3, 4, 5, 6, 7, 8, 9, 10] (by kernel_rfl) ?_
  refine ⟨_, cells_at (cells_block (hb _ k2)) (i := 0) rfl, ?_⟩
  refine ⟨_, cells_at (hx _ k2) (i := 9) rfl, ?_⟩
  have h255 : c.buf.length ≤ 255 := ho
  have hln : ((UInt8.ofNat c.buf.length).toNat : Int) = c.buf.length := by rw [UInt8.toNat_ofNat']; omega
  refine ⟨((UInt8.ofNat c.buf.length).toNat : Int), by rw [hln]; exact wrap_u8 (by omega), ?_⟩
  refine ⟨⟨by decide, by decide, rfl⟩, _, rfl, ?_⟩
  refine ⟨(Below.refl _ _).alloc (Nat.le_refl _) _, ?_⟩
  refine Calls.mono (PutLit [UInt8.ofNat c.buf.length] e2 (by simp only [List.length_append, List.length_cons, List.length_nil]; omega)) ?_
  rintro e V3 ⟨⟨v, rfl⟩, e3, k3⟩
  have k3 := k2.trans k3
  refine ⟨_, cells_at (hx _ k3) (i := 9) rfl, ?_⟩
  obtain ⟨bs, os, hps, hrow⟩ := (hst.below k3.b).get
  have hbuf : ∀ i (hi : i < c.buf.length), ((c.buf.take (i + 1)).flatMap encSto) = (c.buf.take i).flatMap encSto ++ encSto c.buf[i] ∧ ((c.buf.take i).flatMap encSto).length + 2 ≤ 2 * c.buf.length := fun i hi => by
    obtain ⟨t1, t2⟩ := take_flat encSto hi
    have : (c.buf.flatMap encSto).length = 2 * c.buf.length := by
      have := cor_len c
      simp only [encCor, hdCor, List.length_append, List.length_cons, List.length_nil] at this
      omega
    refine ⟨t1, ?_⟩
    rw [this] at t2
    exact t2
  refine CallR.imp (each_Sto (p := p) (b := bs) (o := os) (cap := cap) (caps := [.pointer (some ⟨ep, 0, none⟩)]) (fun i V => EncB B (ep :: L) g (((out ++ [c.pc]) ++ [c.r0, c.r1, c.r2, c.r3, c.r4, c.r5, c.r6, c.r7] ++ [UInt8.ofNat c.buf.length]) ++ (c.buf.take i).flatMap encSto) V ∧ Kp B (ep :: L) V3 V)
    (KP := fun _ _ => False) (by kernel_rfl) hps (by omega) ?_ ⟨by simpa using e3, Kp.refl _ _ _⟩) ?_ (fun _ _ h => h.elim)
  · rintro i V hi ⟨hi1, hi2⟩
    obtain ⟨t1, t2⟩ := hbuf i hi
    obtain ⟨r1, r2⟩ := hrow i hi
    refine Calls.mono (encSto_c c.buf[i] hi1 (hb _ (k3.trans hi2)) (cells_belowB hi2.b r1 r2) (by simp only [List.length_append, List.length_cons, List.length_nil]; omega)) ?_
    rintro e V' ⟨⟨v, rfl⟩, i1, i2⟩
    exact ⟨by rw [t1, ← List.append_assoc]; exact i1, hi2.trans i2⟩
  rintro v V4 ⟨e4, k4⟩
  rw [List.take_length] at e4
  have k4 := k3.trans k4
  refine DrawE.ord [15] [0, 1, 2, 3, 4, 5, 6, 8, 9, 10, 11, 7, 12, 13, 14, 15] (by kernel_rfl) ?_
  refine ⟨_, cells_at (cells_block (hb _ k4)) (i := 0) rfl, ?_⟩
  refine ⟨_, cells_at (hx _ k4) (i := 10) rfl, ?_⟩
  refine ⟨_, cells_at (hx _ k4) (i := 11) rfl, ?_⟩
  refine Calls.mono (bit_c c.waits 1 _) ?_
  rintro e _ ⟨rfl, rfl⟩
  refine ⟨Below.refl _ _, ?_⟩
  refine Calls.mono (bit_c c.drain 2 _) ?_
  rintro e _ ⟨rfl, rfl⟩
  refine ⟨Below.refl _ _, ?_⟩
  refine ⟨((bitB c.waits 1 + bitB c.drain 2).toNat : Int), by cases c.waits <;> cases c.drain <;> rfl, ?_⟩
  refine ⟨⟨by decide, by decide, rfl⟩, _, rfl, ?_⟩
  refine ⟨(Below.refl _ _).alloc (Nat.le_refl _) _, ?_⟩
  have h2l : (c.buf.flatMap encSto).length = 2 * c.buf.length := by
    have := cor_len c
    simp only [encCor, hdCor, List.length_append, List.length_cons, List.length_nil] at this
    omega
  refine Calls.mono (PutLit [bitB c.waits 1 + bitB c.drain 2] e4 (by simp only [List.length_append, List.length_cons, List.length_nil]; omega)) ?_
  rintro e V5 ⟨⟨v, rfl⟩, e5, k5⟩
  have k5 := k4.trans k5
  refine ⟨⟨_, rfl⟩, ?_, k0.trans (k5.mono fun k hk => List.mem_cons_of_mem _ hk)⟩
  have e6 := e5.less (L' := L) fun k hk => List.mem_cons_of_mem _ hk
  simpa [encCor, hdCor] using e6

theorem encode1_c {B g bc oc : Nat} {L : List Nat} {out : List UInt8} (c : Cor) {w : World} (hE : EncB B L g out w) (hc : CorAt B w bc oc c) (ho : okCor c) (hl : out.length + (encCor c).length ≤ 1000000) :
    Calls Tryz.prog 54 #[.pointer (some ⟨bc, oc, none⟩), .pointer (some ⟨g, 0, none⟩)] w fun e w' => (∃ v, e = .returned v) ∧ EncB B L g (out ++ encCor c) w' ∧ Kp B L w w' := by
  refine calls_of_E (S := sg 5) (sgOk _) (args := [.pointer (some ⟨bc, oc, none⟩), .pointer (some ⟨g, 0, none⟩)]) Tryz.func54 rfl rfl (Nat.le_of_ble_eq_true rfl) rfl ?_
  refine Calls.mono (encCor_c c hE hc ho hl) ?_
  rintro e V ⟨⟨v, rfl⟩, h1, h2⟩
  exact ⟨⟨_, rfl⟩, h1, h2⟩
end Go.Proofs.YtedeohcdcaimhaaGreatDoor
namespace Go.Proofs.YtedeohcdcaimhaaGreatDoor
open Go.Vc Go.RowKit Go.Sei

theorem wrap_s8 (x : UInt8) : IntKind.u8.wrap (s8 x) = (x.toNat : Int) := by
  unfold IntKind.wrap s8
  simp only [IntKind.bits, IntKind.signed, Bool.false_and, Bool.false_eq_true, if_false]
  have := x.toNat_lt
  split <;> omega
theorem flat_sub {α : Type} {E : Enc α} (l : List α) (k m : Nat) : (((l.flatMap E.enc).drop (k * E.sz)).take (m * E.sz)) = ((l.drop k).take m).flatMap E.enc := by
  have h1 : ∀ (l : List α) (k : Nat), (l.flatMap E.enc).drop (k * E.sz) = (l.drop k).flatMap E.enc := by
    intro l
    induction l with
    | nil => intro k; simp
    | cons a r ih =>
      intro k
      cases k with
      | zero => simp
      | succ k =>
        have e : (k + 1) * E.sz = (E.enc a).length + k * E.sz := by rw [E.len, Nat.add_mul]; omega
        rw [List.flatMap_cons, e, ← List.drop_drop, List.drop_left, ih k]; rfl
  have h2 : ∀ (l : List α) (k : Nat), (l.flatMap E.enc).take (k * E.sz) = (l.take k).flatMap E.enc := by
    intro l
    induction l with
    | nil => intro k; simp
    | cons a r ih =>
      intro k
      cases k with
      | zero => simp
      | succ k =>
        have e : (k + 1) * E.sz = (E.enc a).length + k * E.sz := by rw [E.len, Nat.add_mul]; omega
        rw [List.flatMap_cons, e, List.take_length_add_append, ih k, List.take_succ_cons, List.flatMap_cons]
  rw [h1, h2]

theorem encLin_c {B g bx ox ep : Nat} {L : List Nat} {out : List UInt8} (x : Lin) {w : World} (hE : EncB B L g out w) (hep : ep ∈ L) (hb : w.heap[ep]? = some (.cells #[.pointer (some ⟨g, 0, none⟩)] 166 (0, 0))) (hlt : bx < B) (hx : Cells w ⟨bx, ox, none⟩ (linE.enc x)) (hl : out.length + 8 ≤ 1000000) :
    Calls Tryz.prog 95 #[.pointer (some ⟨bx, ox, none⟩), .pointer (some ⟨ep, 0, none⟩)] w fun e w' => (∃ v, e = .returned v) ∧ EncB B L g (out ++ encLin x) w' ∧ Kp B L w w' := by
  refine calls_of_E (S := sg 34) (sgOk _) (args := [.pointer (some ⟨bx, ox, none⟩), .pointer (some ⟨ep, 0, none⟩)]) Tryz.func95 rfl rfl (Nat.le_of_ble_eq_true rfl) rfl ?_
  refine DrawE.ord [22] [0, 1, 2, 3, 4, 5, 6, 7, 8, 9, 10, 11, 12, 13, 14, 15, 16, 17, 18, 19, 20, 21, 22] (by kernel_rfl) ?_
  refine ⟨_, cells_at (cells_block hb) (i := 0) rfl, ?_⟩
  refine ⟨_, cells_at hx (i := 0) rfl, ?_⟩
  refine ⟨_, cells_at hx (i := 1) rfl, ?_⟩
  refine ⟨_, cells_at hx (i := 2) rfl, ?_⟩
  refine ⟨(x.need.toNat : Int), wrap_s8 _, ?_⟩
  refine ⟨_, cells_at hx (i := 3) rfl, ?_⟩
  refine Calls.mono (bit_c x.has 1 _) ?_
  rintro e _ ⟨rfl, rfl⟩
  refine ⟨Below.refl _ _, ?_⟩
  refine ⟨⟨by decide, by decide, rfl⟩, _, rfl, ?_⟩
  refine ⟨(Below.refl _ _).alloc (Nat.le_refl _) _, ?_⟩
  refine Calls.mono (PutLit [x.line, x.state, x.need, bitB x.has 1] hE (by simp only [List.length_cons, List.length_nil]; omega)) ?_
  rintro e V1 ⟨⟨v, rfl⟩, e1, k1⟩
  refine DrawE.ord [7] [0, 1, 2, 3, 4, 5, 6, 7] (by kernel_rfl) ?_
  refine ⟨_, cells_at (cells_block ((k1.l ep hep).trans hb)) (i := 0) rfl, ?_⟩
  refine Calls.mono (PutRow [x.d0, x.d1, x.d2, x.d3] ⟨bx, ox + 4, none⟩ 4 e1 (cells_sub (n := 4) (m := 4) (cells_belowB k1.b hlt hx)) (by simp only [List.length_append, List.length_cons, List.length_nil]; omega)) ?_
  rintro e V2 ⟨⟨v, rfl⟩, e2, k2⟩
  exact ⟨⟨_, rfl⟩, by simpa [encLin] using e2, k1.trans k2⟩

theorem encNte_c {B g bx ox ep : Nat} {L : List Nat} {out : List UInt8} (x : Nte) (hok : okNte x) {w : World} (hE : EncB B L g out w) (hep : ep ∈ L) (hb : w.heap[ep]? = some (.cells #[.pointer (some ⟨g, 0, none⟩)] 166 (0, 0))) (hlt : bx < B) (hx : Cells w ⟨bx, ox, none⟩ (nteE.enc x)) (hl : out.length + 7 ≤ 1000000) :
    Calls Tryz.prog 96 #[.pointer (some ⟨bx, ox, none⟩), .pointer (some ⟨ep, 0, none⟩)] w fun e w' => (∃ v, e = .returned v) ∧ EncB B L g (out ++ encNte x) w' ∧ Kp B L w w' := by
  refine calls_of_E (S := sg 34) (sgOk _) (args := [.pointer (some ⟨bx, ox, none⟩), .pointer (some ⟨ep, 0, none⟩)]) Tryz.func96 rfl rfl (Nat.le_of_ble_eq_true rfl) rfl ?_
  obtain ⟨ho1, ho2⟩ := hok
  have hln : ((UInt8.ofNat x.ways.toNat).toNat : Int) = x.ways := by rw [UInt8.toNat_ofNat']; omega
  refine DrawE.ord [13] [0, 1, 2, 3, 4, 5, 6, 7, 8, 9, 10, 11, 12, 13] (by kernel_rfl) ?_
  refine ⟨_, cells_at (cells_block hb) (i := 0) rfl, ?_⟩
  refine ⟨_, cells_at hx (i := 0) rfl, ?_⟩
  refine ⟨_, cells_at hx (i := 1) rfl, ?_⟩
  refine ⟨((UInt8.ofNat x.ways.toNat).toNat : Int), by rw [hln]; exact wrap_u8 ⟨ho1, ho2⟩, ?_⟩
  refine ⟨⟨by decide, by decide, rfl⟩, _, rfl, ?_⟩
  refine ⟨(Below.refl _ _).alloc (Nat.le_refl _) _, ?_⟩
  refine Calls.mono (PutLit [x.kind, UInt8.ofNat x.ways.toNat] hE (by simp only [List.length_cons, List.length_nil]; omega)) ?_
  rintro e V1 ⟨⟨v, rfl⟩, e1, k1⟩
  refine DrawE.ord [7] [0, 1, 2, 3, 4, 5, 6, 7] (by kernel_rfl) ?_
  refine ⟨_, cells_at (cells_block ((k1.l ep hep).trans hb)) (i := 0) rfl, ?_⟩
  refine Calls.mono (PutRow [x.o0, x.o1, x.o2, x.o3] ⟨bx, ox + 2, none⟩ 4 e1 (cells_sub (n := 2) (m := 4) (cells_belowB k1.b hlt hx)) (by simp only [List.length_append, List.length_cons, List.length_nil]; omega)) ?_
  rintro e V2 ⟨⟨v, rfl⟩, e2, k2⟩
  have k2 := k1.trans k2
  refine DrawE.ord [8] [0, 1, 2, 3, 4, 5, 6, 7, 8] (by kernel_rfl) ?_
  refine ⟨_, cells_at (cells_block ((k2.l ep hep).trans hb)) (i := 0) rfl, ?_⟩
  refine ⟨_, cells_at (cells_belowB k2.b hlt hx) (i := 6) rfl, ?_⟩
  refine ⟨⟨by decide, by decide, rfl⟩, _, rfl, ?_⟩
  refine ⟨(Below.refl _ _).alloc (Nat.le_refl _) _, ?_⟩
  refine Calls.mono (PutLit [x.bits] e2 (by simp only [List.length_append, List.length_cons, List.length_nil]; omega)) ?_
  rintro e V3 ⟨⟨v, rfl⟩, e3, k3⟩
  exact ⟨⟨_, rfl⟩, by simpa [encNte] using e3, k2.trans k3⟩

theorem lins_len (l : List Lin) : (l.flatMap encLin).length = 8 * l.length := by
  induction l with
  | nil => rfl
  | cons a r ih => rw [List.flatMap_cons, List.length_append, ih]; simp only [encLin, List.length_cons, List.length_nil]; omega
theorem ntes_len (l : List Nte) : (l.flatMap encNte).length = 7 * l.length := by
  induction l with
  | nil => rfl
  | cons a r ih => rw [List.flatMap_cons, List.length_append, ih]; simp only [encNte, List.length_cons, List.length_nil]; omega

theorem encRow_c {B g bx ox ep : Nat} {L : List Nat} {out : List UInt8} (ls : List Lin) (h4 : ls.length = 4) {w : World} (hE : EncB B L g out w) (hep : ep ∈ L) (hb : w.heap[ep]? = some (.cells #[.pointer (some ⟨g, 0, none⟩)] 166 (0, 0))) (hlt : bx < B) (hx : Cells w ⟨bx, ox, none⟩ (ls.flatMap linE.enc)) (hl : out.length + 32 ≤ 1000000) :
    Calls Tryz.prog 94 #[.pointer (some ⟨bx, ox, none⟩), .pointer (some ⟨ep, 0, none⟩)] w fun e w' => (∃ v, e = .returned v) ∧ EncB B L g (out ++ ls.flatMap encLin) w' ∧ Kp B L w w' := by
  refine calls_of_E (S := sg 8) (sgOk _) (args := [.pointer (some ⟨bx, ox, none⟩), .pointer (some ⟨ep, 0, none⟩)]) Tryz.func94 rfl rfl (Nat.le_of_ble_eq_true rfl) rfl ?_
  refine CallR.imp (each_Lin (b := bx) (o := ox) (n := 4) (cap := 4) (caps := [.pointer (some ⟨ep, 0, none⟩)]) (fun i V => EncB B L g (out ++ (ls.take i).flatMap encLin) V ∧ Kp B L w V)
    (KP := fun _ _ => False) (by kernel_rfl) (.inr rfl) (by decide) ?_ ⟨by simpa using hE, Kp.refl _ _ _⟩) ?_ (fun _ _ h => h.elim)
  · rintro i V hi ⟨hi1, hi2⟩
    have hil : i < ls.length := by omega
    obtain ⟨t1, t2⟩ := take_flat encLin hil
    have hxi : Cells w ⟨bx, ox + i * 8, none⟩ (linE.enc ls[i]) := by have := flat_get (E := linE) ls i hil; rw [← this]; exact cells_sub hx
    refine Calls.mono (encLin_c ls[i] hi1 hep ((hi2.l ep hep).trans hb) hlt (cells_belowB hi2.b hlt hxi) (by rw [List.length_append, lins_len, List.length_take]; omega)) ?_
    rintro e V' ⟨⟨v, rfl⟩, i1, i2⟩
    exact ⟨by rw [t1, ← List.append_assoc]; exact i1, hi2.trans i2⟩
  rintro v V ⟨e4, k4⟩
  rw [List.take_of_length_le (by omega)] at e4
  exact ⟨⟨_, rfl⟩, e4, k4⟩

theorem encCac_c {B g bc oc : Nat} {L : List Nat} {out : List UInt8} (c : Cac) {w : World} (hE : EncB B L g out w) (hc : CacAt B w bc oc c) (ho : okCac c) (hl : out.length + 160 ≤ 1000000) :
    Calls Tryz.prog 57 #[.pointer (some ⟨g, 0, none⟩), .pointer (some ⟨bc, oc, none⟩)] w fun e w' => (∃ v, e = .returned v) ∧ EncB B L g (out ++ encCac c) w' ∧ Kp B L w w' := by
  refine calls_of_E (S := sg 41) (sgOk _) (args := [.pointer (some ⟨g, 0, none⟩), .pointer (some ⟨bc, oc, none⟩)]) Tryz.func57 rfl rfl (Nat.le_of_ble_eq_true rfl) rfl ?_
  obtain ⟨ho1, ho2, ho3⟩ := ho
  have hE0 := hE.box (w2 := w.alloc (.cells (Value.pointer (some ⟨g, 0, none⟩)).cells 166)) ((Below.refl _ _).alloc (Nat.le_refl _) _) (by simp)
  have k0 : Kp B L w (w.alloc (.cells (Value.pointer (some ⟨g, 0, none⟩)).cells 166)) := .of_below ((Below.refl _ _).alloc (Nat.le_refl _) _) hE.lt.1 hE.lt.2.2
  have f0 := hnew w (.cells (Value.pointer (some ⟨g, 0, none⟩)).cells 166)
  obtain ⟨W0, hW0⟩ : ∃ W0, w.alloc (.cells (Value.pointer (some ⟨g, 0, none⟩)).cells 166) = W0 := ⟨_, rfl⟩
  obtain ⟨ep, hep⟩ : ∃ ep, w.heap.size = ep := ⟨_, rfl⟩
  rw [hW0] at hE0 k0 f0
  rw [hep] at hE0 f0
  obtain ⟨hbB, hcl, _, _⟩ := hc.below k0.b
  have hx : ∀ V, Kp B (ep :: L) W0 V → Cells V ⟨bc, oc, none⟩ (cacCells c) := fun V k => cells_belowB k.b hbB hcl
  have hb : ∀ V, Kp B (ep :: L) W0 V → V.heap[ep]? = some (.cells #[.pointer (some ⟨g, 0, none⟩)] 166 (0, 0)) := fun V k => (k.l ep List.mem_cons_self).trans f0
  have hw1 : ∀ V, Kp B (ep :: L) W0 V → Cells V ⟨bc, oc, none⟩ (c.ways.flatMap linE.enc) := fun V k => (cells_app.1 (hx V k)).1
  have hw2 : ∀ V, Kp B (ep :: L) W0 V → Cells V ⟨bc, oc + 128, none⟩ (c.notes.flatMap nteE.enc) ∧ Cells V ⟨bc, oc + 156, none⟩ (opCells c) := fun V k => by
    have h1 := (cells_app.1 (hx V k)).2
    rw [flat_len (E := linE), ho1] at h1
    obtain ⟨h2, h3⟩ := cells_app.1 h1
    rw [flat_len (E := nteE), ho2] at h3
    exact ⟨h2, h3⟩
  subst hW0 hep
  refine CallR.imp (each_Row (b := bc) (o := oc) (n := 4) (cap := 4) (caps := [.pointer (some ⟨w.heap.size, 0, none⟩)]) (fun i V => EncB B (w.heap.size :: L) g (out ++ (c.ways.take (4 * i)).flatMap encLin) V ∧ Kp B (w.heap.size :: L) (w.alloc (.cells (Value.pointer (some ⟨g, 0, none⟩)).cells 166)) V)
    (KP := fun _ _ => False) (by kernel_rfl) (.inr rfl) (by decide) ?_ ⟨by simpa using hE0, Kp.refl _ _ _⟩) ?_ (fun _ _ h => h.elim)
  · rintro i V hi ⟨hi1, hi2⟩
    have hr : Cells V ⟨bc, oc + i * 32, none⟩ (((c.ways.drop (4 * i)).take 4).flatMap linE.enc) := by
      rw [← flat_sub]
      have := cells_sub (n := i * 32) (m := 32) (hw1 V hi2)
      have e : 4 * i * linE.sz = i * 32 := by show 4 * i * 8 = _; omega
      rw [e]; exact this
    refine Calls.mono (encRow_c ((c.ways.drop (4 * i)).take 4) (by rw [List.length_take, List.length_drop]; omega) hi1 List.mem_cons_self (hb V hi2) hbB hr (by rw [List.length_append, lins_len, List.length_take]; omega)) ?_
    rintro e V' ⟨⟨v, rfl⟩, i1, i2⟩
    refine ⟨?_, hi2.trans i2⟩
    have e : 4 * (i + 1) = 4 * i + 4 := by omega
    rw [e, List.take_add, List.flatMap_append, ← List.append_assoc]; exact i1
  rintro v V1 ⟨e1, k1⟩
  rw [List.take_of_length_le (by omega)] at e1
  refine CallR.imp (each_Nte (b := bc) (o := oc + 128) (n := 4) (cap := 4) (caps := [.pointer (some ⟨w.heap.size, 0, none⟩)]) (fun i V => EncB B (w.heap.size :: L) g ((out ++ c.ways.flatMap encLin) ++ (c.notes.take i).flatMap encNte) V ∧ Kp B (w.heap.size :: L) (w.alloc (.cells (Value.pointer (some ⟨g, 0, none⟩)).cells 166)) V)
    (KP := fun _ _ => False) (by kernel_rfl) (.inr rfl) (by decide) ?_ ⟨by simpa using e1, k1⟩) ?_ (fun _ _ h => h.elim)
  · rintro i V hi ⟨hi1, hi2⟩
    have hil : i < c.notes.length := by omega
    obtain ⟨t1, t2⟩ := take_flat encNte hil
    have hxi : Cells V ⟨bc, oc + 128 + i * 7, none⟩ (nteE.enc c.notes[i]) := by have := flat_get (E := nteE) c.notes i hil; rw [← this]; exact cells_sub (hw2 V hi2).1
    refine Calls.mono (encNte_c c.notes[i] (ho3 _ (List.getElem_mem _)) hi1 List.mem_cons_self (hb V hi2) hbB hxi (by rw [List.length_append, List.length_append, lins_len, ntes_len, List.length_take]; omega)) ?_
    rintro e V' ⟨⟨v, rfl⟩, i1, i2⟩
    exact ⟨by rw [t1, ← List.append_assoc]; exact i1, hi2.trans i2⟩
  rintro v V2 ⟨e2, k2⟩
  rw [List.take_of_length_le (by omega)] at e2
  refine DrawE.ord [24] [0, 1, 2, 3, 4, 5, 6, 7, 8, 9, 10, 11, 12, 13, 14, 15, 16, 17, 18, 19, 20, 21, 22, 23, 24] (by kernel_rfl) ?_
  refine ⟨_, cells_at (cells_block (hb _ k2)) (i := 0) rfl, ?_⟩
  have ho4 := (hw2 _ k2).2
  refine ⟨_, cells_at ho4 (i := 0) rfl, ?_⟩
  refine ⟨_, cells_at ho4 (i := 1) rfl, ?_⟩
  refine ⟨_, cells_at ho4 (i := 2) rfl, ?_⟩
  refine ⟨_, cells_at ho4 (i := 3) rfl, ?_⟩
  refine ⟨⟨by decide, by decide, rfl⟩, _, rfl, ?_⟩
  refine ⟨(Below.refl _ _).alloc (Nat.le_refl _) _, ?_⟩
  refine Calls.mono (PutLit [c.k, c.l, c.a, c.b] e2 (by simp only [List.length_append, lins_len, ntes_len, ho1, ho2, List.length_cons, List.length_nil]; omega)) ?_
  rintro e V3 ⟨⟨v, rfl⟩, e3, k3⟩
  refine ⟨⟨_, rfl⟩, ?_, k0.trans ((k2.trans k3).mono fun k hk => List.mem_cons_of_mem _ hk)⟩
  have e6 := e3.less (L' := L) fun k hk => List.mem_cons_of_mem _ hk
  simpa [encCac] using e6

theorem encode2_c {B g bc oc : Nat} {L : List Nat} {out : List UInt8} (c : Cac) {w : World} (hE : EncB B L g out w) (hc : CacAt B w bc oc c) (ho : okCac c) (hl : out.length + 160 ≤ 1000000) :
    Calls Tryz.prog 56 #[.pointer (some ⟨bc, oc, none⟩), .pointer (some ⟨g, 0, none⟩)] w fun e w' => (∃ v, e = .returned v) ∧ EncB B L g (out ++ encCac c) w' ∧ Kp B L w w' := by
  refine calls_of_E (S := sg 5) (sgOk _) (args := [.pointer (some ⟨bc, oc, none⟩), .pointer (some ⟨g, 0, none⟩)]) Tryz.func56 rfl rfl (Nat.le_of_ble_eq_true rfl) rfl ?_
  refine Calls.mono (encCac_c c hE hc ho hl) ?_
  rintro e V ⟨⟨v, rfl⟩, h1, h2⟩
  exact ⟨⟨_, rfl⟩, h1, h2⟩
end Go.Proofs.YtedeohcdcaimhaaGreatDoor
namespace Go.Vc
open Go.RowKit

def chunk (cs : List Value) (o n : Nat) : List Value := (cs.drop o).take n
theorem chunk_add (cs : List Value) (o n m : Nat) : chunk cs o (n + m) = chunk cs o n ++ chunk cs (o + n) m := by
  unfold chunk; rw [List.take_add, List.drop_drop]
theorem chunk_len {cs : List Value} {o n : Nat} (h : o + n ≤ cs.length) : (chunk cs o n).length = n := by
  unfold chunk; rw [List.length_take, List.length_drop]; omega
def vOf (g : Bool) (a : List Value) : Value := match g with | true => .agg a.toArray | false => a.headD undef

structure TyEq (P : Program) (T : TypeId) (g : Bool) (n k : Nat) (G : List Value → Prop) : Prop where
  ag : ∀ w, (isAgg T).run P w = .ok g w
  info : ∃ i, P.info? T = some i
  cl : P.cellsOf T = n
  one : g = false → n = 1
  eq : ∀ d w a b, a.length = n → b.length = n → G a → G b → ∃ r : Bool, (Op.equalIn (d + k) T (vOf g a) (vOf g b)).run P w = .ok r w ∧ (r = true ↔ a = b)

section
variable {P : Program}
theorem TyEq.up {T : TypeId} {g : Bool} {n k : Nat} {G : List Value → Prop} (h : TyEq P T g n k G) (m : Nat) : TyEq P T g n (m + k) G :=
  ⟨h.ag, h.info, h.cl, h.one, fun d w a b h1 h2 h3 h4 => by have := h.eq (d + m) w a b h1 h2 h3 h4; rwa [Nat.add_assoc] at this⟩
theorem TyEq.part {T : TypeId} {g : Bool} {n k : Nat} {G : List Value → Prop} (h : TyEq P T g n k G) (xs : Array Value) (o : Nat) (hs : o + n ≤ xs.size) (w : World) : (Go.part T xs o).run P w = .ok (vOf g (chunk xs.toList o n)) w := by
  obtain ⟨i, hi⟩ := h.info
  have hsz := run_sizeOf w hi
  rw [h.cl] at hsz
  simp only [Go.part, Sem.run_bind, h.ag, Result.andThen_ok]
  cases g with
  | true =>
    simp only [if_true, Sem.run_bind, hsz, Result.andThen_ok, Sem.run_pure, vOf]
    congr 2
    apply Array.toList_inj.1
    simp [chunk, Array.toList_extract, List.extract_eq_take_drop]
  | false =>
    have h1 := h.one rfl
    subst h1
    have ho : o < xs.size := by omega
    simp only [Bool.false_eq_true, if_false, Array.getElem?_eq_getElem ho, Sem.run_pure, vOf]
    congr 1
    unfold chunk
    rw [List.drop_eq_getElem_cons (by simpa using ho)]
    simp

inductive Tile (P : Program) (k : Nat) : List Field → Nat → Nat → (List Value → Prop) → Prop
  | nil {s : Nat} : Tile P k [] s s (fun _ => True)
  | cons {f : Field} {fs : List Field} {s e n : Nat} {g : Bool} {G G' : List Value → Prop} (hn : f.name ≠ "_") (ho : f.offset = s) (ht : TyEq P f.type g n k G) (hr : Tile P k fs (s + n) e G') : Tile P k (f :: fs) s e (fun cs => G (cs.take n) ∧ G' (cs.drop n))
theorem Tile.le {k : Nat} {fs : List Field} {s e : Nat} {G : List Value → Prop} (h : Tile P k fs s e G) : s ≤ e := by
  induction h with
  | nil => exact Nat.le_refl _
  | cons _ _ _ _ ih => omega
theorem Tile.eq {k : Nat} {fs : List Field} {s e : Nat} {G : List Value → Prop} (h : Tile P k fs s e G) : ∀ (d : Nat) (xs ys : Array Value) (w : World), e ≤ xs.size → e ≤ ys.size → G (chunk xs.toList s (e - s)) → G (chunk ys.toList s (e - s)) →
    ∃ r : Bool, (Op.eqFields (d + k) xs ys fs).run P w = .ok r w ∧ (r = true ↔ chunk xs.toList s (e - s) = chunk ys.toList s (e - s)) := by
  induction h with
  | nil => intro d xs ys w _ _ _ _; exact ⟨true, rfl, by simp [chunk]⟩
  | @cons f fs s e n g G G' hn ho ht hr ih =>
    intro d xs ys w hx hy hgx hgy
    have hle := hr.le
    have e1 : e - s = n + (e - (s + n)) := by omega
    rw [e1, chunk_add] at hgx hgy
    rw [e1, chunk_add, chunk_add]
    have lx : (chunk xs.toList s n).length = n := chunk_len (by simp; omega)
    have ly : (chunk ys.toList s n).length = n := chunk_len (by simp; omega)
    obtain ⟨gx1, gx2⟩ := hgx
    obtain ⟨gy1, gy2⟩ := hgy
    rw [List.take_append_of_le_length (by omega), List.take_of_length_le (by omega)] at gx1 gy1
    rw [List.drop_append_of_le_length (by omega), List.drop_of_length_le (by omega), List.nil_append] at gx2 gy2
    obtain ⟨r1, h1, h2⟩ := ht.eq d w _ _ lx ly gx1 gy1
    obtain ⟨r2, h3, h4⟩ := ih d xs ys w hx hy gx2 gy2
    simp only [Op.eqFields, hn, ne_eq, not_false_eq_true, if_true, Sem.run_bind, ho, ht.part xs s (by omega) w, ht.part ys s (by omega) w, Result.andThen_ok, h1]
    have hap : (chunk xs.toList s n ++ chunk xs.toList (s + n) (e - (s + n)) = chunk ys.toList s n ++ chunk ys.toList (s + n) (e - (s + n))) ↔ (chunk xs.toList s n = chunk ys.toList s n ∧ chunk xs.toList (s + n) (e - (s + n)) = chunk ys.toList (s + n) (e - (s + n))) :=
      ⟨fun h => List.append_inj h (by rw [lx, ly]), fun h => by rw [h.1, h.2]⟩
    rw [hap, ← h2, ← h4]
    cases r1 with
    | true => exact ⟨r2, by simpa using h3, by simp⟩
    | false => exact ⟨false, by simp, by simp⟩
theorem TyEq.struct {T : TypeId} {k n : Nat} {G : List Value → Prop} (hu : P.underlying T = some (.struct (P.fieldsOf T))) (hp : P.stoodInHeld T = false) (hag : ∀ w, (isAgg T).run P w = .ok true w) (hi : ∃ i, P.info? T = some i) (hc : P.cellsOf T = n)
    (ht : Tile P k (P.fieldsOf T).toList 0 n G) : TyEq P T true n (k + 1) G :=
  ⟨hag, hi, hc, fun h => (by cases h), fun d w a b ha hb ga gb => by
    have e : ∀ l : List Value, l.length = n → chunk l.toArray.toList 0 (n - 0) = l := fun l hl => by
      unfold chunk; rw [List.drop_zero, Nat.sub_zero]; exact List.take_of_length_le (by show l.length ≤ n; omega)
    obtain ⟨r, h1, h2⟩ := ht.eq d a.toArray b.toArray w (by simp; omega) (by simp; omega) (by rw [e a ha]; exact ga) (by rw [e b hb]; exact gb)
    rw [e a ha, e b hb] at h2
    refine ⟨r, ?_, h2⟩
    have := run_equalIn_struct (P := P) w (d + k) T a.toArray b.toArray hu hp
    rw [← Nat.add_assoc]
    exact this.trans h1⟩
theorem chunks_eq {n m : Nat} (hn : 0 < n) {a b : List Value} (ha : a.length = m * n) (hb : b.length = m * n) (h : ∀ i, i < m → chunk a (i * n) n = chunk b (i * n) n) : a = b := by
  apply List.ext_getElem?
  intro j
  by_cases hj : j < m * n
  · have hd : j / n < m := Nat.div_lt_of_lt_mul (by rw [Nat.mul_comm]; exact hj)
    have h1 := congrArg (fun l => l[j % n]?) (h _ hd)
    simp only [chunk, List.getElem?_take, if_pos (Nat.mod_lt j hn), List.getElem?_drop] at h1
    rw [Nat.mul_comm, Nat.div_add_mod] at h1
    exact h1
  · rw [List.getElem?_eq_none (by omega), List.getElem?_eq_none (by omega)]
theorem TyEq.array {T e : TypeId} {g : Bool} {n k m : Nat} {G : List Value → Prop} (hn : 0 < n) (hu : P.underlying T = some (.array m e)) (hag : ∀ w, (isAgg T).run P w = .ok true w) (hi : ∃ i, P.info? T = some i) (hc : P.cellsOf T = m * n) (ht : TyEq P e g n k G) :
    TyEq P T true (m * n) (k + 1) (fun cs => ∀ i, i < m → G (chunk cs (i * n) n)) :=
  ⟨hag, hi, hc, fun h => (by cases h), fun d w a b ha hb ga gb => by
    obtain ⟨ie, hie⟩ := ht.info
    have key : ∀ is : List Nat, (∀ i ∈ is, i < m) → ∃ r : Bool, (Op.eqItems (d + k) e n a.toArray b.toArray is).run P w = .ok r w ∧ (r = true ↔ ∀ i ∈ is, chunk a (i * n) n = chunk b (i * n) n) := by
      intro is
      induction is with
      | nil => intro _; exact ⟨true, rfl, by simp⟩
      | cons i is ih =>
        intro him
        have hi := him i List.mem_cons_self
        have hle : i * n + n ≤ m * n := by rw [← Nat.succ_mul]; exact Nat.mul_le_mul_right _ hi
        obtain ⟨r2, h3, h4⟩ := ih fun j hj => him j (List.mem_cons_of_mem _ hj)
        obtain ⟨r1, h1, h2⟩ := ht.eq d w (chunk a (i * n) n) (chunk b (i * n) n) (chunk_len (by omega)) (chunk_len (by omega)) (ga i hi) (gb i hi)
        have p1 := ht.part a.toArray (i * n) (by simp; omega) w
        have p2 := ht.part b.toArray (i * n) (by simp; omega) w
        have ea : a.toArray.toList = a := rfl
        have eb : b.toArray.toList = b := rfl
        rw [ea] at p1
        rw [eb] at p2
        simp only [Op.eqItems, Sem.run_bind, p1, p2, Result.andThen_ok, h1]
        cases r1 with
        | true =>
          refine ⟨r2, by simpa using h3, ?_⟩
          rw [h4]
          have := h2.1 rfl
          simp [this]
        | false =>
          refine ⟨false, by simp, ?_⟩
          simp only [Bool.false_eq_true, false_iff]
          intro h
          have := h2.2 (h i List.mem_cons_self)
          cases this
    obtain ⟨r, h1, h2⟩ := key (List.range m) fun i hi => List.mem_range.1 hi
    refine ⟨r, ?_, ?_⟩
    · have := run_equalIn_array (P := P) w (d + k) a.toArray b.toArray hu hie
      rw [ht.cl] at this
      rw [← Nat.add_assoc]
      exact this.trans h1
    · rw [h2]
      exact ⟨fun h => chunks_eq hn ha hb fun i hi => h i (List.mem_range.2 hi), fun h i _ => by rw [h]⟩⟩
theorem TyEq.int {T : TypeId} {q : IntKind} (hu : P.underlying T = some (.int q)) (hag : ∀ w, (isAgg T).run P w = .ok false w) (hi : ∃ i, P.info? T = some i) (hc : P.cellsOf T = 1) : TyEq P T false 1 1 (fun cs => ∃ x, cs = [.int q x]) :=
  ⟨hag, hi, hc, fun _ => rfl, fun d w a b _ _ ⟨x, hx⟩ ⟨y, hy⟩ => by
    subst hx hy
    refine ⟨decide (x = y), ?_, by simp⟩
    simp only [vOf, List.headD_cons, Op.equalIn, Sem.run_bind, run_underlying hu, Result.andThen_ok, if_true, Sem.run_pure]
    congr 1⟩
theorem TyEq.bool {T : TypeId} (hu : P.underlying T = some .bool) (hag : ∀ w, (isAgg T).run P w = .ok false w) (hi : ∃ i, P.info? T = some i) (hc : P.cellsOf T = 1) : TyEq P T false 1 1 (fun cs => ∃ x, cs = [.bool x]) :=
  ⟨hag, hi, hc, fun _ => rfl, fun d w a b _ _ ⟨x, hx⟩ ⟨y, hy⟩ => by
    subst hx hy
    refine ⟨x == y, ?_, by simp⟩
    simp only [vOf, List.headD_cons, Op.equalIn, Sem.run_bind, run_underlying hu, Result.andThen_ok, Sem.run_pure]⟩
end
end Go.Vc
namespace Go.Proofs.YtedeohcdcaimhaaGreatDoor
open Go.Vc Go.RowKit Go.Sei

def GInt (q : IntKind) (cs : List Value) : Prop := ∃ x, cs = [.int q x]
def GBool (cs : List Value) : Prop := ∃ x, cs = [.bool x]
def GArr (m n : Nat) (G : List Value → Prop) (cs : List Value) : Prop := ∀ i, i < m → G (chunk cs (i * n) n)
theorem tU8 : TyEq Tryz.prog 5 false 1 1 (GInt .u8) := .int Tryz.underlying5 (fun w => Tryz.isAgg5 w) (known_of (by kernel_rfl) (by kernel_rfl)).1 (by kernel_rfl)
theorem tI8 : TyEq Tryz.prog 86 false 1 1 (GInt .i8) := .int Tryz.underlying86 (fun w => Tryz.isAgg86 w) (known_of (by kernel_rfl) (by kernel_rfl)).1 (by kernel_rfl)
theorem tInt : TyEq Tryz.prog 3 false 1 1 (GInt .i64) := .int Tryz.underlying3 (fun w => Tryz.isAgg3 w) (known_of (by kernel_rfl) (by kernel_rfl)).1 (by kernel_rfl)
theorem tSet : TyEq Tryz.prog 48 false 1 1 (GInt .u64) := .int Tryz.underlying48 (fun w => Tryz.isAgg48 w) (known_of (by kernel_rfl) (by kernel_rfl)).1 (by kernel_rfl)
theorem tBool : TyEq Tryz.prog 4 false 1 1 GBool := .bool Tryz.underlying4 (fun w => Tryz.isAgg4 w) (known_of (by kernel_rfl) (by kernel_rfl)).1 (by kernel_rfl)
theorem tData : TyEq Tryz.prog 52 true (4 * 1) 2 (GArr 4 1 (GInt .u8)) := .array (by decide) Tryz.underlying52 (fun w => Tryz.isAgg52 w) (known_of (by kernel_rfl) (by kernel_rfl)).1 (by kernel_rfl) tU8
theorem tFour : TyEq Tryz.prog 51 true (4 * 1) 2 (GArr 4 1 (GInt .u8)) := .array (by decide) Tryz.underlying51 (fun w => Tryz.isAgg51 w) (known_of (by kernel_rfl) (by kernel_rfl)).1 (by kernel_rfl) tU8
theorem tRegs : TyEq Tryz.prog 63 true (8 * 1) 2 (GArr 8 1 (GInt .u8)) := .array (by decide) Tryz.underlying63 (fun w => Tryz.isAgg63 w) (known_of (by kernel_rfl) (by kernel_rfl)).1 (by kernel_rfl) tU8
theorem uf {T : TypeId} {F : Array Field} (h : Tryz.prog.underlying T = some (.struct F)) : Tryz.prog.underlying T = some (.struct (Tryz.prog.fieldsOf T)) ∧ Tryz.prog.fieldsOf T = F := by
  have : Tryz.prog.fieldsOf T = F := by unfold Program.fieldsOf; rw [h]
  exact ⟨by rw [this]; exact h, this⟩
theorem tSto : ∃ G, TyEq Tryz.prog 132 true 2 2 G ∧ ∀ s, G (stoE.enc s) := by
  refine ⟨_, .struct (uf Tryz.underlying132).1 (by kernel_rfl) (fun w => Tryz.isAgg132 w) (known_of (by kernel_rfl) (by kernel_rfl)).1 (by kernel_rfl)
    (by rw [(uf Tryz.underlying132).2]; exact .cons (by decide) rfl tU8 (.cons (by decide) rfl tU8 .nil)), fun s => ?_⟩
  exact ⟨⟨_, rfl⟩, ⟨_, rfl⟩, trivial⟩
theorem gBytes (l : List UInt8) {m : Nat} (h : l.length = m) : GArr m 1 (GInt .u8) (l.map u8) := fun i hi => by
  have hi : i < l.length := by omega
  refine ⟨(l[i].toNat : Int), ?_⟩
  unfold chunk
  rw [Nat.mul_one, List.drop_eq_getElem_cons (by simpa using hi)]
  simp [u8]
theorem tLin : ∃ G, TyEq Tryz.prog 88 true 8 3 G ∧ ∀ s, G (linE.enc s) := by
  refine ⟨_, .struct (uf Tryz.underlying88).1 (by kernel_rfl) (fun w => Tryz.isAgg88 w) (known_of (by kernel_rfl) (by kernel_rfl)).1 (by kernel_rfl)
    (by rw [(uf Tryz.underlying88).2]; exact .cons (by decide) rfl (tU8.up 1) (.cons (by decide) rfl (tU8.up 1) (.cons (by decide) rfl (tI8.up 1) (.cons (by decide) rfl (tBool.up 1) (.cons (by decide) rfl tData .nil))))), fun s => ?_⟩
  exact ⟨⟨_, rfl⟩, ⟨_, rfl⟩, ⟨_, rfl⟩, ⟨_, rfl⟩, gBytes [s.d0, s.d1, s.d2, s.d3] rfl, trivial⟩
theorem tNte : ∃ G, TyEq Tryz.prog 92 true 7 3 G ∧ ∀ s, G (nteE.enc s) := by
  refine ⟨_, .struct (uf Tryz.underlying92).1 (by kernel_rfl) (fun w => Tryz.isAgg92 w) (known_of (by kernel_rfl) (by kernel_rfl)).1 (by kernel_rfl)
    (by rw [(uf Tryz.underlying92).2]; exact .cons (by decide) rfl (tU8.up 1) (.cons (by decide) rfl (tInt.up 1) (.cons (by decide) rfl tFour (.cons (by decide) rfl (tU8.up 1) .nil)))), fun s => ?_⟩
  exact ⟨⟨_, rfl⟩, ⟨_, rfl⟩, gBytes [s.o0, s.o1, s.o2, s.o3] rfl, ⟨_, rfl⟩, trivial⟩
theorem tOp : ∃ G, TyEq Tryz.prog 95 true 4 2 G ∧ ∀ c, G (opCells c) := by
  refine ⟨_, .struct (uf Tryz.underlying95).1 (by kernel_rfl) (fun w => Tryz.isAgg95 w) (known_of (by kernel_rfl) (by kernel_rfl)).1 (by kernel_rfl)
    (by rw [(uf Tryz.underlying95).2]; exact .cons (by decide) rfl tU8 (.cons (by decide) rfl tU8 (.cons (by decide) rfl tU8 (.cons (by decide) rfl tU8 .nil)))), fun s => ?_⟩
  exact ⟨⟨_, rfl⟩, ⟨_, rfl⟩, ⟨_, rfl⟩, ⟨_, rfl⟩, trivial⟩
theorem tView : ∃ G, TyEq Tryz.prog 50 true 3 2 G ∧ ∀ h : Hom, G [u8 h.kind, .int .u64 (leM h), .bool h.all] := by
  refine ⟨_, .struct (uf Tryz.underlying50).1 (by kernel_rfl) (fun w => Tryz.isAgg50 w) (known_of (by kernel_rfl) (by kernel_rfl)).1 (by kernel_rfl)
    (by rw [(uf Tryz.underlying50).2]; exact .cons (by decide) rfl tU8 (.cons (by decide) rfl tSet (.cons (by decide) rfl tBool .nil))), fun s => ?_⟩
  exact ⟨⟨_, rfl⟩, ⟨_, rfl⟩, ⟨_, rfl⟩, trivial⟩
theorem tHom : ∃ G, TyEq Tryz.prog 54 true 11 3 G ∧ ∀ s, G (homE.enc s) := by
  obtain ⟨G, h1, h2⟩ := tView
  refine ⟨_, .struct (uf Tryz.underlying54).1 (by kernel_rfl) (fun w => Tryz.isAgg54 w) (known_of (by kernel_rfl) (by kernel_rfl)).1 (by kernel_rfl)
    (by rw [(uf Tryz.underlying54).2]; exact .cons (by decide) rfl (tU8.up 1) (.cons (by decide) rfl (tU8.up 1) (.cons (by decide) rfl h1 (.cons (by decide) rfl (tU8.up 1) (.cons (by decide) rfl (tU8.up 1) (.cons (by decide) rfl tData .nil)))))), fun s => ?_⟩
  exact ⟨⟨_, rfl⟩, ⟨_, rfl⟩, h2 s, ⟨_, rfl⟩, ⟨_, rfl⟩, gBytes [s.d0, s.d1, s.d2, s.d3] rfl, trivial⟩
theorem gFlat {α : Type} {E : Enc α} {G : List Value → Prop} (h : ∀ a, G (E.enc a)) (l : List α) {m : Nat} (hl : l.length = m) : GArr m E.sz G (l.flatMap E.enc) := fun i hi => by
  unfold chunk
  rw [flat_get l i (by omega)]
  exact h _
theorem tHoms : ∃ G, TyEq Tryz.prog 55 true (6 * 11) 4 G ∧ ∀ l : List Hom, l.length = 6 → G (l.flatMap homE.enc) := by
  obtain ⟨G, h1, h2⟩ := tHom
  exact ⟨_, .array (by decide) Tryz.underlying55 (fun w => Tryz.isAgg55 w) (known_of (by kernel_rfl) (by kernel_rfl)).1 (by kernel_rfl) h1, fun l hl => gFlat (E := homE) h2 l hl⟩
theorem tCac : ∃ G, TyEq Tryz.prog 97 true 160 6 G ∧ ∀ c : Cac, c.ways.length = 16 → c.notes.length = 4 → G (cacCells c) := by
  obtain ⟨GL, l1, l2⟩ := tLin
  obtain ⟨GN, n1, n2⟩ := tNte
  obtain ⟨GO, o1, o2⟩ := tOp
  have hrow : TyEq Tryz.prog 89 true (4 * 8) 4 (GArr 4 8 GL) := .array (by decide) Tryz.underlying89 (fun w => Tryz.isAgg89 w) (known_of (by kernel_rfl) (by kernel_rfl)).1 (by kernel_rfl) l1
  have hways : TyEq Tryz.prog 90 true (4 * (4 * 8)) 5 (GArr 4 (4 * 8) (GArr 4 8 GL)) := .array (by decide) Tryz.underlying90 (fun w => Tryz.isAgg90 w) (known_of (by kernel_rfl) (by kernel_rfl)).1 (by kernel_rfl) hrow
  have hnts : TyEq Tryz.prog 93 true (4 * 7) 4 (GArr 4 7 GN) := .array (by decide) Tryz.underlying93 (fun w => Tryz.isAgg93 w) (known_of (by kernel_rfl) (by kernel_rfl)).1 (by kernel_rfl) n1
  refine ⟨_, .struct (uf Tryz.underlying97).1 (by kernel_rfl) (fun w => Tryz.isAgg97 w) (known_of (by kernel_rfl) (by kernel_rfl)).1 (by kernel_rfl)
    (by rw [(uf Tryz.underlying97).2]; exact .cons (by decide) rfl hways (.cons (by decide) rfl (hnts.up 1) (.cons (by decide) rfl (o1.up 3) .nil))), fun c hw hn => ?_⟩
  have e1 : (c.ways.flatMap linE.enc).length = 128 := by rw [flat_len, hw]; rfl
  have e2 : (c.notes.flatMap nteE.enc).length = 28 := by rw [flat_len, hn]; rfl
  have t1 : (cacCells c).take (4 * (4 * 8)) = c.ways.flatMap linE.enc := by unfold cacCells; rw [List.take_append_of_le_length (by omega), List.take_of_length_le (by omega)]
  have d1 : (cacCells c).drop (4 * (4 * 8)) = c.notes.flatMap nteE.enc ++ opCells c := by unfold cacCells; rw [List.drop_append_of_le_length (by omega), List.drop_of_length_le (by omega), List.nil_append]
  refine ⟨?_, ?_, ?_, trivial⟩
  · rw [t1]
    intro i hi
    have e : chunk (c.ways.flatMap linE.enc) (i * (4 * 8)) (4 * 8) = ((c.ways.drop (4 * i)).take 4).flatMap linE.enc := by
      rw [← flat_sub]
      show ((c.ways.flatMap linE.enc).drop (i * (4 * 8))).take (4 * 8) = ((c.ways.flatMap linE.enc).drop (4 * i * 8)).take (4 * 8)
      rw [show i * (4 * 8) = 4 * i * 8 by omega]
    rw [e]
    exact gFlat (E := linE) l2 _ (by rw [List.length_take, List.length_drop]; omega)
  · rw [d1, List.take_append_of_le_length (by omega), List.take_of_length_le (by omega)]
    exact gFlat (E := nteE) n2 _ hn
  · rw [d1, List.drop_append_of_le_length (by omega), List.drop_of_length_le (by omega), List.nil_append]
    exact o2 c
end Go.Proofs.YtedeohcdcaimhaaGreatDoor
namespace Go.Proofs.YtedeohcdcaimhaaGreatDoor
open Go.Vc Go.RowKit Go.Sei

def mL (h : Hom) : List UInt8 := [h.m0, h.m1, h.m2, h.m3, h.m4, h.m5, h.m6, h.m7]
theorem mL_len (h : Hom) : (mL h).length = 8 := rfl
theorem wrap_u8m (a : Int) : IntKind.u8.wrap a = a % 256 := by
  unfold IntKind.wrap
  simp only [IntKind.bits, IntKind.signed, Bool.false_and, Bool.false_eq_true, if_false]
  rfl
theorem leM_shr (h : Hom) (k : Nat) (hk : k < 8) : IntKind.u8.wrap (Int.fdiv (leM h : Int) (2 ^ (min ((8 * k : Nat) : Int).toNat IntKind.u64.bits))) = (((mL h)[k]'hk).toNat : Int) := by
  rw [wrap_u8m]
  have b0 := h.m0.toNat_lt
  have b1 := h.m1.toNat_lt
  have b2 := h.m2.toNat_lt
  have b3 := h.m3.toNat_lt
  have b4 := h.m4.toNat_lt
  have b5 := h.m5.toNat_lt
  have b6 := h.m6.toNat_lt
  have b7 := h.m7.toNat_lt
  have h8 : k = 0 ∨ k = 1 ∨ k = 2 ∨ k = 3 ∨ k = 4 ∨ k = 5 ∨ k = 6 ∨ k = 7 := by omega
  rcases h8 with rfl | rfl | rfl | rfl | rfl | rfl | rfl | rfl
  · show Int.fdiv (leM h : Int) 1 % 256 = (h.m0.toNat : Int)
    rw [Int.fdiv_eq_ediv_of_nonneg _ (by decide)]; unfold leM; omega
  · show Int.fdiv (leM h : Int) 256 % 256 = (h.m1.toNat : Int)
    rw [Int.fdiv_eq_ediv_of_nonneg _ (by decide)]; unfold leM; omega
  · show Int.fdiv (leM h : Int) 65536 % 256 = (h.m2.toNat : Int)
    rw [Int.fdiv_eq_ediv_of_nonneg _ (by decide)]; unfold leM; omega
  · show Int.fdiv (leM h : Int) 16777216 % 256 = (h.m3.toNat : Int)
    rw [Int.fdiv_eq_ediv_of_nonneg _ (by decide)]; unfold leM; omega
  · show Int.fdiv (leM h : Int) 4294967296 % 256 = (h.m4.toNat : Int)
    rw [Int.fdiv_eq_ediv_of_nonneg _ (by decide)]; unfold leM; omega
  · show Int.fdiv (leM h : Int) 1099511627776 % 256 = (h.m5.toNat : Int)
    rw [Int.fdiv_eq_ediv_of_nonneg _ (by decide)]; unfold leM; omega
  · show Int.fdiv (leM h : Int) 281474976710656 % 256 = (h.m6.toNat : Int)
    rw [Int.fdiv_eq_ediv_of_nonneg _ (by decide)]; unfold leM; omega
  · show Int.fdiv (leM h : Int) 72057594037927936 % 256 = (h.m7.toNat : Int)
    rw [Int.fdiv_eq_ediv_of_nonneg _ (by decide)]; unfold leM; omega

theorem encHom_c {B g bx ox : Nat} {L : List Nat} {out : List UInt8} (h : Hom) {w : World} (hE : EncB B L g out w) (hlt : bx < B) (hx : Cells w ⟨bx, ox, none⟩ (homE.enc h)) (hl : out.length + 18 ≤ 1000000) :
    Calls Tryz.prog 59 #[.pointer (some ⟨g, 0, none⟩), .pointer (some ⟨bx, ox, none⟩)] w fun e w' => (∃ v, e = .returned v) ∧ EncB B L g (out ++ encHom h) w' ∧ Kp B L w w' := by
  refine calls_of_E (S := sg 68) (sgOk _) (args := [.pointer (some ⟨g, 0, none⟩), .pointer (some ⟨bx, ox, none⟩)]) Tryz.func59 rfl rfl (Nat.le_of_ble_eq_true rfl) rfl ?_
  have hxV : ∀ V, Kp B L w V → Cells V ⟨bx, ox, none⟩ (homE.enc h) := fun V k => cells_belowB k.b hlt hx
  refine DrawE.ord [17] [0, 1, 2, 3, 4, 5, 6, 7, 8, 9, 10, 11, 12, 13, 14, 15, 16, 17] (by kernel_rfl) ?_
  refine ⟨_, cells_at hx (i := 0) rfl, ?_⟩
  refine ⟨_, cells_at hx (i := 1) rfl, ?_⟩
  refine ⟨_, cells_at hx (i := 2) rfl, ?_⟩
  refine ⟨⟨by decide, by decide, rfl⟩, _, rfl, ?_⟩
  refine ⟨(Below.refl _ _).alloc (Nat.le_refl _) _, ?_⟩
  refine Calls.mono (PutLit [h.state, h.owner, h.kind] hE (by simp only [List.length_cons, List.length_nil]; omega)) ?_
  rintro e V1 ⟨⟨v, rfl⟩, e1, k1⟩
  refine ⟨Nat, fun k => ⟨[(0, .pointer (some ⟨g, 0, none⟩)), (1, .pointer (some ⟨bx, ox, none⟩)), (23, .int .i64 (k : Nat))], []⟩,
    fun k V => k ≤ 8 ∧ EncB B L g ((out ++ [h.state, h.owner, h.kind]) ++ (mL h).take k) V ∧ Kp B L w V, fun k => 8 - k, 0, ⟨.cons rfl (.cons rfl (.cons rfl .nil)), rfl⟩, ⟨by omega, by simpa using e1, k1⟩, ?_⟩
  rintro k V ⟨hk, ek, kk⟩
  refine And.intro (fun hc => ?_) (fun hc => ?_)
  · have hc : (k : Int) < 8 := of_decide_eq_true hc
    have hk8 : k < 8 := by omega
    refine DrawE.ord [13] [0, 1, 2, 3, 4, 5, 6, 7, 8, 9, 10, 11, 12, 13] (by kernel_rfl) ?_
    refine ⟨_, cells_at (hxV _ kk) (i := 3) rfl, ?_⟩
    refine ⟨((8 * k : Nat) : Int), (wrap_i64 (by omega)).trans (by omega), ?_⟩
    refine ⟨by omega, _, rfl, ?_⟩
    refine ⟨(((mL h)[k]'hk8).toNat : Int), leM_shr h k hk8, ?_⟩
    refine ⟨⟨by decide, by decide, rfl⟩, _, rfl, ?_⟩
    refine ⟨(Below.refl _ _).alloc (Nat.le_refl _) _, ?_⟩
    refine Calls.mono (PutLit [(mL h)[k]'hk8] ek (by simp only [List.length_append, List.length_cons, List.length_nil, List.length_take]; omega)) ?_
    rintro e V2 ⟨⟨v, rfl⟩, e2, k2⟩
    refine ⟨(k + 1 : Nat), (wrap_i64 (by omega)).trans (by omega), ?_⟩
    refine ⟨k + 1, ⟨.cons rfl (.cons rfl (.cons rfl .nil)), rfl⟩, ⟨by omega, ?_, kk.trans k2⟩, by dsimp only; omega⟩
    rw [List.take_succ_eq_append_getElem (by rw [mL_len]; omega), ← List.append_assoc]
    exact e2
  · have hc : ¬ (k : Int) < 8 := of_decide_eq_false hc
    have hk8 : k = 8 := by omega
    subst hk8
    have e8 : (mL h).take 8 = mL h := rfl
    rw [e8] at ek
    have hm := mL_len h
    refine DrawE.ord [18] [0, 1, 2, 3, 4, 5, 6, 7, 9, 10, 11, 12, 13, 14, 15, 16, 8, 17, 18] (by kernel_rfl) ?_
    refine ⟨_, cells_at (hxV _ kk) (i := 4) rfl, ?_⟩
    refine ⟨_, cells_at (hxV _ kk) (i := 5) rfl, ?_⟩
    refine ⟨_, cells_at (hxV _ kk) (i := 6) rfl, ?_⟩
    refine Calls.mono (bit_c h.all 1 _) ?_
    rintro e _ ⟨rfl, rfl⟩
    refine ⟨Below.refl _ _, ?_⟩
    refine ⟨⟨by decide, by decide, rfl⟩, _, rfl, ?_⟩
    refine ⟨(Below.refl _ _).alloc (Nat.le_refl _) _, ?_⟩
    refine Calls.mono (PutLit [bitB h.all 1, h.wait, h.asker] ek (by simp only [List.length_append, List.length_cons, List.length_nil, hm]; omega)) ?_
    rintro e V2 ⟨⟨v, rfl⟩, e2, k2⟩
    have k2 := kk.trans k2
    refine DrawE.ord [7] [0, 1, 2, 3, 4, 5, 6, 7] (by kernel_rfl) ?_
    refine Calls.mono (PutRow [h.d0, h.d1, h.d2, h.d3] ⟨bx, ox + 7, none⟩ 4 e2 (cells_sub (n := 7) (m := 4) (hxV _ k2)) (by simp only [List.length_append, List.length_cons, List.length_nil, hm]; omega)) ?_
    rintro e V3 ⟨⟨v, rfl⟩, e3, k3⟩
    exact ⟨⟨_, rfl⟩, by simpa [encHom, mL] using e3, k2.trans k3⟩

theorem encode3_c {B g bx ox : Nat} {L : List Nat} {out : List UInt8} (h : Hom) {w : World} (hE : EncB B L g out w) (hlt : bx < B) (hx : Cells w ⟨bx, ox, none⟩ (homE.enc h)) (hl : out.length + 18 ≤ 1000000) :
    Calls Tryz.prog 58 #[.pointer (some ⟨bx, ox, none⟩), .pointer (some ⟨g, 0, none⟩)] w fun e w' => (∃ v, e = .returned v) ∧ EncB B L g (out ++ encHom h) w' ∧ Kp B L w w' := by
  refine calls_of_E (S := sg 5) (sgOk _) (args := [.pointer (some ⟨bx, ox, none⟩), .pointer (some ⟨g, 0, none⟩)]) Tryz.func58 rfl rfl (Nat.le_of_ble_eq_true rfl) rfl ?_
  refine Calls.mono (encHom_c h hE hlt hx hl) ?_
  rintro e V ⟨⟨v, rfl⟩, h1, h2⟩
  exact ⟨⟨_, rfl⟩, h1, h2⟩

theorem encode4_c {B g bx ox : Nat} {L : List Nat} {out : List UInt8} (m : Msg) {w : World} (hE : EncB B L g out w) (hlt : bx < B) (hx : Cells w ⟨bx, ox, none⟩ (Msg.E.enc m)) (hl : out.length + 11 ≤ 1000000) :
    Calls Tryz.prog 61 #[.pointer (some ⟨bx, ox, none⟩), .pointer (some ⟨g, 0, none⟩)] w fun e w' => (∃ v, e = .returned v) ∧ EncB B L g (out ++ codeOf m) w' ∧ Kp B L w w' := by
  refine calls_of_E (S := sg 9) (sgOk _) (args := [.pointer (some ⟨bx, ox, none⟩), .pointer (some ⟨g, 0, none⟩)]) Tryz.func61 rfl rfl (Nat.le_of_ble_eq_true rfl) rfl ?_
  refine ⟨m.enc, rfl, hx, Nat.lt_of_lt_of_le hlt hE.lt.1, ?_⟩
  refine Calls.mono (Bytes_c m w) ?_
  rintro e V ⟨gb, rfl, fb, hgb, hbV⟩
  have hcb : Cells V ⟨gb, 0, none⟩ ((codeOf m).map u8) := by have := cells_block fb; simpa using this
  refine Calls.mono (Put_c (codeOf m) ⟨gb, 0, none⟩ 11 (hE.below hbV) hcb hl) ?_
  rintro e V2 ⟨⟨v, rfl⟩, h1, h2⟩
  exact ⟨⟨_, rfl⟩, h1, (Kp.of_below hbV hE.lt.1 hE.lt.2.2).trans h2⟩

theorem below_of_grown {a b : World} (h : a.grownBy b none) : Below a.heap.size a b := ⟨h.os, h.tape, h.output, h.size, fun k hk => h.block k hk (by simp)⟩
theorem make_own {α : Type} {E : Enc α} {P : Program} {w : World} {t T B : Nat} {iT : TI} {z : List Value} (hu : P.underlying t = some (.slice T)) (hT : TIok P T iT) (hz : iT.zero = some z) (hs : iT.size = E.sz) (hB : B ≤ w.heap.size) (kl kc : IntKind) (c : Nat)
    (h1 : iT.bytes * c ≤ 281474976710656) (h63 : c ≤ 9223372036854775807) {K : Value → World → Prop}
    (k : ∀ w', OwnS E T B w' (some ⟨w.heap.size, 0, none⟩) c ([] : List α) → Below w.heap.size w w' → w'.heap.size = w.heap.size + 1 → K (.slice (some ⟨w.heap.size, 0, none⟩) 0 c) w') :
    SatR ((Instr.makeSlice t (.int kl 0) (.int kc (c : Int))).run P w) K := by
  obtain ⟨⟨inf, hi, hsz, hby, hzz⟩, _⟩ := hT
  obtain ⟨zv, hzv, hzc⟩ := hzz z hz
  have h63' : (c : Int) ≤ 9223372036854775807 := by omega
  have hb' : (inf.bytes : Int) * (c : Int) ≤ 281474976710656 := by
    have h : ((inf.bytes * c : Nat) : Int) ≤ 281474976710656 := by rw [hby]; omega
    rwa [Int.natCast_mul] at h
  have hr := run_make (P := P) w t T inf zv hu hi hzv kl kc 0 c (Int.le_refl _) (by omega) hb' h63'
  simp only [Int.toNat_zero, Int.toNat_natCast] at hr
  refine SatR.mk hr (k _ ?_ ((Below.refl _ _).alloc (Nat.le_refl _) _) (by simp))
  have := World.ownsRow_made (base := B) (e := T) (size := inf.size) w (madeCells zv.cells (c * inf.size)) c hB (by unfold maxLen; omega) (size_madeCells _ _)
  rw [hsz, hs] at this
  rw [hsz, hs]
  exact this
theorem own_weak {α : Type} {E : Enc α} {T B B' cap : Nat} {w : World} {p : Option Addr} {l : List α} (h : OwnS E T B w p cap l) (hB : B' ≤ B) : OwnS E T B' w p cap l := by
  obtain ⟨h1, h2⟩ := h
  refine ⟨h1, h2.imp id ?_⟩
  rintro ⟨g, c, cur, e1, e2, rest⟩
  exact ⟨g, c, cur, e1, by omega, rest⟩
end Go.Proofs.YtedeohcdcaimhaaGreatDoor
namespace Go.Proofs.YtedeohcdcaimhaaGreatDoor
open Go.Vc Go.RowKit Go.Sei

theorem sys_net {a b c : Value} {H : List Value} (h : H.length = 66) : (a :: b :: (H ++ [c]))[68]? = some c := by
  show (H ++ [c])[66]? = some c
  rw [List.getElem?_append_right (by omega), h]; rfl
theorem bufs_take {l : List Cor} {k : Nat} (hk : k < l.length) : bufsL (l.take (k + 1)) = bufsL (l.take k) + l[k].buf.length := by
  unfold bufsL; rw [List.take_succ_eq_append_getElem hk, List.map_append, List.sum_append]; simp
theorem bufs_le : ∀ (l : List Cor), (∀ c ∈ l, okCor c) → bufsL l ≤ 255 * l.length
  | [], _ => by simp [bufsL]
  | a :: r, h => by
    have h1 := bufs_le r fun c hc => h c (List.mem_cons_of_mem _ hc)
    have h2 : a.buf.length ≤ 255 := h a List.mem_cons_self
    unfold bufsL at *
    simp only [List.map_cons, List.sum_cons, List.length_cons]; omega

theorem encode_c {vs : List Value} {s : Sy} {n : Nat} (hok : okSy n s) (hn : n ≤ 4) {w : World} (hS : SysV w.heap.size w vs s) :
    Calls Tryz.prog 21 #[.agg vs.toArray] w fun e w' => ∃ p cap, e = .returned (.slice p (encSy s).length cap) ∧ OwnS byteE 5 w.heap.size w' p cap (encSy s) ∧ Below w.heap.size w w' := by
  refine calls_of_M (S := sg 69) (sgOk _) (args := [.agg vs.toArray]) (.s .p (.c .p (.c .p (.c .p (.c .p (.c .p (.c .p (.c .p (.c .p .p))))))))) Tryz.func21 rfl rfl (Nat.le_of_ble_eq_true rfl) rfl ?_
  have hb0 : Below w.heap.size w (w.alloc (.cells vs.toArray 58)) := (Below.refl _ _).alloc (Nat.le_refl _) _
  have f0 := hnew w (.cells vs.toArray 58)
  have hS0 := hS.below hb0
  have hsz0 : (w.alloc (.cells vs.toArray 58)).heap.size = w.heap.size + 1 := World.size_alloc _ _
  have hS1 := hS0.mono (B' := w.heap.size + 1) (by omega)
  obtain ⟨⟨p1, c1, p2, c2, p3, c3, hvs, hco, hca, hne, hnil⟩, h6⟩ := hS1
  have hlen := sy_len hok
  have hcs := hok.cores
  have hcc := hok.caches
  have hnn := hok.net
  have hbu := bufs_le s.cores hok.cor
  have hH : (s.homes.flatMap homE.enc).length = 66 := by rw [flat_len, h6]; rfl
  have hcl : Cells (w.alloc (.cells vs.toArray 58)) ⟨w.heap.size, 0, none⟩ (.slice p1 s.cores.length c1 :: .slice p2 s.caches.length c2 :: (s.homes.flatMap homE.enc ++ [.slice p3 s.net.length c3])) := by
    have := cells_block f0; rw [← hvs]; exact this
  have hl0 := cells_at hcl (i := 0) rfl
  have hl1 := cells_at hcl (i := 1) rfl
  have hl68 := cells_at hcl (i := 68) (sys_net hH)
  obtain ⟨W0, hW0⟩ : ∃ W0, w.alloc (.cells vs.toArray 58) = W0 := ⟨_, rfl⟩
  obtain ⟨X0, hX0⟩ : ∃ X0 : Nat, X0 = 1 + s.cores.length * 11 + s.caches.length * 160 + 108 + s.net.length * 11 := ⟨_, rfl⟩
  refine ⟨Unit, fun _ => ⟨[(1, .pointer (some ⟨w.heap.size, 0, none⟩)), (3, .int .i64 (X0 : Int))], []⟩, fun _ V => W0 = V, ?_, ?_⟩
  · refine ⟨_, hl0, ?_⟩
    refine ⟨((s.cores.length * 11 : Nat) : Int), (wrap_i64 (by omega)).trans (by omega), ?_⟩
    refine ⟨((1 + s.cores.length * 11 : Nat) : Int), (wrap_i64 (by omega)).trans (by omega), ?_⟩
    refine ⟨_, hl1, ?_⟩
    refine ⟨((s.caches.length * 160 : Nat) : Int), (wrap_i64 (by omega)).trans (by omega), ?_⟩
    refine ⟨((1 + s.cores.length * 11 + s.caches.length * 160 : Nat) : Int), (wrap_i64 (by omega)).trans (by omega), ?_⟩
    refine ⟨((1 + s.cores.length * 11 + s.caches.length * 160 + 108 : Nat) : Int), (wrap_i64 (by omega)).trans (by omega), ?_⟩
    refine ⟨_, hl68, ?_⟩
    refine ⟨((s.net.length * 11 : Nat) : Int), (wrap_i64 (by omega)).trans (by omega), ?_⟩
    refine ⟨((1 + s.cores.length * 11 + s.caches.length * 160 + 108 + s.net.length * 11 : Nat) : Int), (wrap_i64 (by omega)).trans (by omega), ?_⟩
    refine ⟨(), ⟨.cons rfl (.cons (by rw [hX0]; rfl) .nil), rfl⟩, hW0.symm⟩
  rintro _ _ rfl
  subst hW0
  refine ⟨Nat, fun Z => ⟨[(1, .pointer (some ⟨w.heap.size, 0, none⟩)), (3, .int .i64 (Z : Nat))], []⟩, fun Z V => Z ≤ 100000 ∧ w.alloc (.cells vs.toArray 58) = V, ?_, ?_⟩
  · refine ⟨_, hl0, ?_⟩
    refine ⟨Nat, fun k => ⟨[(1, .pointer (some ⟨w.heap.size, 0, none⟩)), (3, .int .i64 ((X0 + 2 * bufsL (s.cores.take k) : Nat) : Int)), (24, .int .i64 (s.cores.length : Nat)), (25, .int .i64 (k : Nat))], []⟩,
      fun k V => k ≤ s.cores.length ∧ w.alloc (.cells vs.toArray 58) = V, fun k => s.cores.length - k, 0, ⟨.cons rfl (.cons rfl (.cons rfl (.cons rfl .nil))), rfl⟩, ⟨Nat.zero_le _, rfl⟩, ?_⟩
    rintro k _ ⟨hk, rfl⟩
    refine And.intro (fun hc => ?_) (fun hc => ?_)
    · have hc : (k : Int) < s.cores.length := of_decide_eq_true hc
      have hks : k < s.cores.length := by omega
      obtain ⟨b, o, hp, hat⟩ := hco
      obtain ⟨pb, cb, hbB, hcb, _⟩ := hat k hks
      rcases hp with hp | hp
      · omega
      subst hp
      have hbt := bufs_take hks
      have hbl : bufsL (s.cores.take (k + 1)) ≤ 255 * 4 := by
        have := bufs_le (s.cores.take (k + 1)) fun c hc => hok.cor c (List.mem_of_mem_take hc)
        have h2 : (s.cores.take (k + 1)).length ≤ 4 := by rw [List.length_take]; omega
        omega
      refine ⟨_, hl0, ?_⟩
      refine ⟨k, rfl, hks, ?_⟩
      refine ⟨_, cells_at hcb (i := 9) rfl, ?_⟩
      refine ⟨((s.cores[k].buf.length * 2 : Nat) : Int), (wrap_i64 (by omega)).trans (by omega), ?_⟩
      refine ⟨((X0 + 2 * bufsL (s.cores.take (k + 1)) : Nat) : Int), (wrap_i64 (by omega)).trans (by omega), ?_⟩
      refine ⟨(k + 1 : Nat), (wrap_i64 (by omega)).trans (by omega), ?_⟩
      exact ⟨k + 1, ⟨.cons rfl (.cons rfl (.cons rfl (.cons rfl .nil))), rfl⟩, ⟨hks, rfl⟩, by dsimp only; omega⟩
    · have hc : ¬ (k : Int) < s.cores.length := of_decide_eq_false hc
      have hkl : k = s.cores.length := by omega
      subst hkl
      have hZ : bufsL (s.cores.take s.cores.length) ≤ 1020 := by rw [List.take_length]; omega
      exact ⟨_, ⟨.cons rfl (.cons rfl .nil), rfl⟩, ⟨by omega, rfl⟩⟩
  rintro Z _ ⟨hZ, rfl⟩
  refine ⟨Nat, fun g => ⟨[(1, .pointer (some ⟨w.heap.size, 0, none⟩)), (5, .pointer (some ⟨g, 0, none⟩))], []⟩, fun g V => EncB (w.heap.size + 1) [] g [] V ∧ Below (w.heap.size + 1) (w.alloc (.cells vs.toArray 58)) V, ?_, ?_⟩
  · refine make_own (α := UInt8) (E := byteE) (B := w.heap.size + 1) Tryz.underlying23 (ttOk.get 5 _ rfl) rfl rfl (by omega) _ _ Z (by dsimp only; omega) (by omega) ?_
    intro W1 ho1 hb1 hs1
    refine ⟨_, rfl, ?_⟩
    refine ⟨_, rfl, ?_⟩
    refine store_new (X := W1) (v := .agg #[.slice (some ⟨(w.alloc (.cells vs.toArray 58)).heap.size, 0, none⟩) 0 Z]) (ttOk.get 124 _ rfl) (by rfl) rfl (by rfl) fun W2 hb2 f2 hs2 => ?_
    exact ⟨_, ⟨.cons rfl (.cons rfl .nil), rfl⟩, ⟨some ⟨(w.alloc (.cells vs.toArray 58)).heap.size, 0, none⟩, Z, f2, ho1.below hb2, by omega, fun a ha => by
      cases ha
      exact ⟨by dsimp only; omega, by simp⟩, by simp, by simp⟩, (hb1.mono (by omega)).trans (hb2.mono (by omega))⟩
  have hclV : ∀ V, Below (w.heap.size + 1) (w.alloc (.cells vs.toArray 58)) V → Cells V ⟨w.heap.size, 0, none⟩ (.slice p1 s.cores.length c1 :: .slice p2 s.caches.length c2 :: (s.homes.flatMap homE.enc ++ [.slice p3 s.net.length c3])) := fun V k => cells_belowB k (by omega) hcl
  have l1 := cors_len s.cores
  have l2 := cacs_len s.caches fun c hc => ⟨(hok.cac c hc).1, (hok.cac c hc).2.1⟩
  have l3 := homs_len s.homes
  have l4 := msgs_len s.net
  rintro g W2 ⟨hE, hB⟩
  refine ⟨Unit, fun _ => ⟨[(1, .pointer (some ⟨w.heap.size, 0, none⟩)), (5, .pointer (some ⟨g, 0, none⟩))], []⟩, fun _ V => EncB (w.heap.size + 1) [] g (s.cores.flatMap encCor) V ∧ Below (w.heap.size + 1) (w.alloc (.cells vs.toArray 58)) V, ?_, ?_⟩
  · refine ⟨_, cells_at (hclV _ hB) (i := 0) rfl, ?_⟩
    obtain ⟨bc, oc, hpc, hatc⟩ := hco
    refine CallR.imp (each_Cor (p := p1) (b := bc) (o := oc) (n := s.cores.length) (cap := c1) (caps := [.pointer (some ⟨g, 0, none⟩)]) (fun i V => EncB (w.heap.size + 1) [] g ((s.cores.take i).flatMap encCor) V ∧ Kp (w.heap.size + 1) [] W2 V)
      (KP := fun _ _ => False) (by kernel_rfl) hpc (by omega) ?_ ⟨by simpa using hE, Kp.refl _ _ _⟩) ?_ (fun _ _ h => h.elim)
    · rintro i V hi ⟨hi1, hi2⟩
      obtain ⟨t1, t2⟩ := take_flat encCor hi
      refine Calls.mono (encode1_c s.cores[i] hi1 ((hatc i hi).below (hB.trans hi2.b)) (hok.cor _ (List.getElem_mem _)) (by omega)) ?_
      rintro e V' ⟨⟨v, rfl⟩, i1, i2⟩
      exact ⟨by rw [t1]; exact i1, hi2.trans i2⟩
    rintro v V1 ⟨e1, k1⟩
    rw [List.take_length] at e1
    exact ⟨(), ⟨.cons rfl (.cons rfl .nil), rfl⟩, e1, hB.trans k1.b⟩
  rintro _ W3 ⟨e1, hB⟩
  refine ⟨Unit, fun _ => ⟨[(1, .pointer (some ⟨w.heap.size, 0, none⟩)), (5, .pointer (some ⟨g, 0, none⟩))], []⟩, fun _ V => EncB (w.heap.size + 1) [] g (s.cores.flatMap encCor ++ s.caches.flatMap encCac) V ∧ Below (w.heap.size + 1) (w.alloc (.cells vs.toArray 58)) V, ?_, ?_⟩
  · refine ⟨_, cells_at (hclV _ hB) (i := 1) rfl, ?_⟩
    obtain ⟨ba, oa, hpa, hata⟩ := hca
    refine CallR.imp (each_Cac (p := p2) (b := ba) (o := oa) (n := s.caches.length) (cap := c2) (caps := [.pointer (some ⟨g, 0, none⟩)]) (fun i V => EncB (w.heap.size + 1) [] g (s.cores.flatMap encCor ++ (s.caches.take i).flatMap encCac) V ∧ Kp (w.heap.size + 1) [] W3 V)
      (KP := fun _ _ => False) (by kernel_rfl) hpa (by omega) ?_ ⟨by simpa using e1, Kp.refl _ _ _⟩) ?_ (fun _ _ h => h.elim)
    · rintro i V hi ⟨hi1, hi2⟩
      obtain ⟨t1, t2⟩ := take_flat encCac hi
      have hlc := cac_len (hok.cac s.caches[i] (List.getElem_mem _)).1 (hok.cac s.caches[i] (List.getElem_mem _)).2.1
      refine Calls.mono (encode2_c s.caches[i] hi1 ((hata i hi).below (hB.trans hi2.b)) (hok.cac _ (List.getElem_mem _)) (by rw [List.length_append]; omega)) ?_
      rintro e V' ⟨⟨v, rfl⟩, i1, i2⟩
      exact ⟨by rw [t1, ← List.append_assoc]; exact i1, hi2.trans i2⟩
    rintro v V2 ⟨e2, k2⟩
    rw [List.take_length] at e2
    exact ⟨(), ⟨.cons rfl (.cons rfl .nil), rfl⟩, e2, hB.trans k2.b⟩
  rintro _ W4 ⟨e2, hB⟩
  refine ⟨Unit, fun _ => ⟨[(1, .pointer (some ⟨w.heap.size, 0, none⟩)), (5, .pointer (some ⟨g, 0, none⟩))], []⟩, fun _ V => EncB (w.heap.size + 1) [] g (s.cores.flatMap encCor ++ s.caches.flatMap encCac ++ s.homes.flatMap encHom) V ∧ Below (w.heap.size + 1) (w.alloc (.cells vs.toArray 58)) V, ?_, ?_⟩
  · refine CallR.imp (each_Hom (b := w.heap.size) (o := 2) (n := 6) (cap := 6) (caps := [.pointer (some ⟨g, 0, none⟩)]) (fun i V => EncB (w.heap.size + 1) [] g ((s.cores.flatMap encCor ++ s.caches.flatMap encCac) ++ (s.homes.take i).flatMap encHom) V ∧ Kp (w.heap.size + 1) [] W4 V)
      (KP := fun _ _ => False) (by kernel_rfl) (.inr rfl) (by decide) ?_ ⟨by simpa using e2, Kp.refl _ _ _⟩) ?_ (fun _ _ h => h.elim)
    · rintro i V hi ⟨hi1, hi2⟩
      have hi' : i < s.homes.length := by omega
      obtain ⟨t1, t2⟩ := take_flat encHom hi'
      have hxi : Cells V ⟨w.heap.size, 2 + i * 11, none⟩ (homE.enc s.homes[i]) := by
        have h1 := hclV V (hB.trans hi2.b)
        have h2 := (cells_app (u := [.slice p1 s.cores.length c1, .slice p2 s.caches.length c2]) (v := s.homes.flatMap homE.enc ++ [.slice p3 s.net.length c3])).1 h1
        have h3 := (cells_app.1 h2.2).1
        have := flat_get (E := homE) s.homes i hi'
        rw [← this]
        exact cells_sub (n := i * 11) (m := 11) h3
      have hl18 : (encHom s.homes[i]).length = 18 := rfl
      refine Calls.mono (encode3_c s.homes[i] hi1 (by omega) hxi (by rw [List.length_append, List.length_append]; omega)) ?_
      rintro e V' ⟨⟨v, rfl⟩, i1, i2⟩
      exact ⟨by rw [t1, ← List.append_assoc]; exact i1, hi2.trans i2⟩
    rintro v V3 ⟨e3, k3⟩
    rw [List.take_of_length_le (by omega)] at e3
    exact ⟨(), ⟨.cons rfl (.cons rfl .nil), rfl⟩, e3, hB.trans k3.b⟩
  rintro _ W5 ⟨e3, hB⟩
  refine ⟨Unit, fun _ => ⟨[(1, .pointer (some ⟨w.heap.size, 0, none⟩)), (5, .pointer (some ⟨g, 0, none⟩))], []⟩, fun _ V => EncB (w.heap.size + 1) [] g (s.cores.flatMap encCor ++ s.caches.flatMap encCac ++ s.homes.flatMap encHom ++ [UInt8.ofNat s.net.length]) V ∧ Below (w.heap.size + 1) (w.alloc (.cells vs.toArray 58)) V, ?_, ?_⟩
  · refine ⟨_, cells_at (hclV _ hB) (i := 68) (sys_net hH), ?_⟩
    have hln : ((UInt8.ofNat s.net.length).toNat : Int) = s.net.length := by rw [UInt8.toNat_ofNat']; omega
    refine ⟨((UInt8.ofNat s.net.length).toNat : Int), by rw [hln]; exact wrap_u8 (by omega), ?_⟩
    refine ⟨⟨by decide, by decide, rfl⟩, _, rfl, ?_⟩
    have hbL : Below W5.heap.size W5 (W5.alloc (.cells [u8 (UInt8.ofNat s.net.length)].toArray 5)) := (Below.refl _ _).alloc (Nat.le_refl _) _
    refine Calls.mono (Put_c [UInt8.ofNat s.net.length] ⟨W5.heap.size, 0, none⟩ 1 (e3.below hbL) cells_new (by simp only [List.length_append, List.length_cons, List.length_nil]; omega)) ?_
    rintro e V4 ⟨⟨v, rfl⟩, e4, k4⟩
    exact ⟨(), ⟨.cons rfl (.cons rfl .nil), rfl⟩, e4, hB.trans ((Kp.of_below hbL e3.lt.1 e3.lt.2.2).trans k4).b⟩
  rintro _ W6 ⟨e4, hB⟩
  refine ⟨Unit, fun _ => ⟨[(1, .pointer (some ⟨w.heap.size, 0, none⟩)), (5, .pointer (some ⟨g, 0, none⟩))], []⟩, fun _ V => EncB (w.heap.size + 1) [] g (encSy s) V ∧ Below (w.heap.size + 1) (w.alloc (.cells vs.toArray 58)) V, ?_, ?_⟩
  · refine ⟨_, cells_at (hclV _ hB) (i := 68) (sys_net hH), ?_⟩
    obtain ⟨bn, on, hpn, hatn⟩ := (hne.below hB).get
    refine CallR.imp (each_Msg (p := p3) (b := bn) (o := on) (n := s.net.length) (cap := c3) (caps := [.pointer (some ⟨g, 0, none⟩)]) (fun i V => EncB (w.heap.size + 1) [] g (((s.cores.flatMap encCor ++ s.caches.flatMap encCac) ++ s.homes.flatMap encHom ++ [UInt8.ofNat s.net.length]) ++ (s.net.take i).flatMap codeOf) V ∧ Kp (w.heap.size + 1) [] W6 V)
      (KP := fun _ _ => False) (by kernel_rfl) hpn (by omega) ?_ ⟨by simpa using e4, Kp.refl _ _ _⟩) ?_ (fun _ _ h => h.elim)
    · rintro i V hi ⟨hi1, hi2⟩
      obtain ⟨t1, t2⟩ := take_flat codeOf hi
      have hl11 : (codeOf s.net[i]).length = 11 := rfl
      obtain ⟨r1, r2⟩ := hatn i hi
      refine Calls.mono (encode4_c s.net[i] hi1 r1 (cells_belowB hi2.b r1 r2) (by simp only [List.length_append, List.length_cons, List.length_nil]; omega)) ?_
      rintro e V' ⟨⟨v, rfl⟩, i1, i2⟩
      exact ⟨by rw [t1, ← List.append_assoc]; exact i1, hi2.trans i2⟩
    rintro v V5 ⟨e5, k5⟩
    rw [List.take_length] at e5
    have ee : ((s.cores.flatMap encCor ++ s.caches.flatMap encCac) ++ s.homes.flatMap encHom ++ [UInt8.ofNat s.net.length]) ++ s.net.flatMap codeOf = encSy s := by simp [encSy]
    rw [ee] at e5
    exact ⟨(), ⟨.cons rfl (.cons rfl .nil), rfl⟩, e5, hB.trans k5.b⟩
  rintro _ W7 ⟨⟨p, cap, fg, ho, _⟩, hB⟩
  refine ⟨_, cells_at (cells_block fg) (i := 0) rfl, ?_⟩
  exact ⟨p, cap, rfl, own_weak ho (by omega), hb0.trans (hB.mono (by omega))⟩
end Go.Proofs.YtedeohcdcaimhaaGreatDoor
namespace Go.Proofs.YtedeohcdcaimhaaGreatDoor
open Go.Vc Go.RowKit Go.Sei

structure Geo where
  c : Int
  h : Int
  w : Int
  s : Int
  a : Int
  deriving DecidableEq
def i64 (n : Int) : Value := .int .i64 n
def Geo.lst (g : Geo) : List Int := [g.c, g.h, g.w, g.s, g.a]
def Geo.enc (g : Geo) : List Value := [i64 g.c, i64 g.h, i64 g.w, i64 g.s, i64 g.a]
def Geo.val (g : Geo) : Value := .agg g.enc.toArray
def zeroG : Geo := ⟨0, 0, 0, 0, 0⟩
def bndL : List Int := [4, 2, 4, 4, 4]
def okAt (g : Geo) (i : Nat) : Bool := decide (1 ≤ g.lst.getD i 0) && decide (g.lst.getD i 0 ≤ bndL.getD i 0)
def geoR (g : Geo) : Bool := okAt g 0 && okAt g 1 && okAt g 2 && okAt g 3 && okAt g 4
def BndM (w : World) : Prop := Cells w ⟨0, 0, none⟩ (bndL.map i64)
theorem BndM.below {w w2 : World} (h : BndM w) (hb : Below w.heap.size w w2) : BndM w2 := cells_below hb h
theorem geoR_spec {g : Geo} (h : geoR g = true) : (1 ≤ g.c ∧ g.c ≤ 4) ∧ (1 ≤ g.h ∧ g.h ≤ 2) ∧ (1 ≤ g.w ∧ g.w ≤ 4) ∧ (1 ≤ g.s ∧ g.s ≤ 4) ∧ 1 ≤ g.a ∧ g.a ≤ 4 := by
  simp only [geoR, okAt, Bool.and_eq_true, decide_eq_true_eq] at h
  obtain ⟨⟨⟨⟨h0, h1⟩, h2⟩, h3⟩, h4⟩ := h
  exact ⟨h0, h1, h2, h3, h4⟩

theorem partE_of {off sz : Nat} {cs : List Value} {v : Value} {K : Value → Prop} (h : cs[off]? = some v) (k : K v) : partE off sz false cs K := by
  unfold partE; rw [h]; exact k
theorem Right_geo_c (g : Geo) (w : World) (hB : BndM w) : Calls Tryz.prog 22 #[g.val] w fun e w' => e = .returned (.bool (geoR g)) ∧ Below w.heap.size w w' := by
  refine calls_of_E (S := sg 30) (sgOk _) (args := [g.val]) Tryz.func22 rfl rfl (Nat.le_of_ble_eq_true rfl) rfl ?_
  have hb0 : Below w.heap.size w (w.alloc (.cells g.val.cells 31)) := (Below.refl _ _).alloc (Nat.le_refl _) _
  have f0 := hnew w (.cells g.val.cells 31)
  refine ⟨_, cells_at (cells_block f0) (i := 0) rfl, ?_⟩
  refine ⟨_, cells_at (cells_block f0) (i := 1) rfl, ?_⟩
  refine ⟨_, cells_at (cells_block f0) (i := 2) rfl, ?_⟩
  refine ⟨_, cells_at (cells_block f0) (i := 3) rfl, ?_⟩
  refine ⟨_, cells_at (cells_block f0) (i := 4) rfl, ?_⟩
  refine ⟨g.enc, rfl, ?_⟩
  refine ⟨Nat, fun k => ⟨[(15, .agg g.enc.toArray), (16, i64 (k : Nat))], []⟩, fun k V => k ≤ 5 ∧ (∀ j, j < k → okAt g j = true) ∧ w.alloc (.cells g.val.cells 31) = V, fun k => 5 - k, 0,
    ⟨.cons rfl (.cons rfl .nil), rfl⟩, ⟨Nat.zero_le _, fun _ h => absurd h (by omega), rfl⟩, ?_⟩
  rintro k _ ⟨hk, hno, rfl⟩
  refine And.intro (fun h => ?_) (fun h => ?_)
  · have h : (k : Int) < 5 := of_decide_eq_true h
    have hk5 : k < 5 := by omega
    refine ⟨k, rfl, hk5, ?_⟩
    have hget : g.enc[k * 1]? = some (i64 (g.lst.getD k 0)) := by
      have h5 : k = 0 ∨ k = 1 ∨ k = 2 ∨ k = 3 ∨ k = 4 := by omega
      rcases h5 with rfl | rfl | rfl | rfl | rfl <;> rfl
    refine partE_of hget ?_
    refine And.intro (fun h1 => ?_) (fun h1 => ?_)
    · have h1 : g.lst.getD k 0 < 1 := of_decide_eq_true h1
      refine And.intro (fun _ => ?_) (fun h => by cases h)
      have hR : geoR g = false := by
        have hx : okAt g k = false := by unfold okAt; rw [decide_eq_false (by omega)]; rfl
        have h5 : k = 0 ∨ k = 1 ∨ k = 2 ∨ k = 3 ∨ k = 4 := by omega
        unfold geoR
        rcases h5 with rfl | rfl | rfl | rfl | rfl <;> simp [hx]
      exact And.intro (rb hR.symm) hb0
    · have h1 : ¬ g.lst.getD k 0 < 1 := of_decide_eq_false h1
      refine ⟨k, rfl, hk5, ?_⟩
      have hbk : (bndL.map i64)[k]? = some (i64 (bndL.getD k 0)) := by
        have h5 : k = 0 ∨ k = 1 ∨ k = 2 ∨ k = 3 ∨ k = 4 := by omega
        rcases h5 with rfl | rfl | rfl | rfl | rfl <;> rfl
      have hc := cells_at (hB.below hb0) hbk
      refine ⟨_, by rw [Nat.mul_one]; exact hc, ?_⟩
      refine And.intro (fun h2 => ?_) (fun h2 => ?_)
      · have h2 : bndL.getD k 0 < g.lst.getD k 0 := of_decide_eq_true h2
        have hR : geoR g = false := by
          have hx : okAt g k = false := by unfold okAt; rw [decide_eq_false (p := g.lst.getD k 0 ≤ bndL.getD k 0) (by omega), Bool.and_false]
          have h5 : k = 0 ∨ k = 1 ∨ k = 2 ∨ k = 3 ∨ k = 4 := by omega
          unfold geoR
          rcases h5 with rfl | rfl | rfl | rfl | rfl <;> simp [hx]
        exact And.intro (rb hR.symm) hb0
      · have h2 : ¬ bndL.getD k 0 < g.lst.getD k 0 := of_decide_eq_false h2
        refine ⟨(k + 1 : Nat), (wrap_i64 (by omega)).trans (by omega), ?_⟩
        refine ⟨k + 1, ⟨.cons rfl (.cons rfl .nil), rfl⟩, ⟨by omega, fun j hj => ?_, rfl⟩, by dsimp only; omega⟩
        by_cases e : j = k
        · subst e; unfold okAt; rw [decide_eq_true (p := g.lst.getD j 0 ≤ bndL.getD j 0) (by omega), decide_eq_true (by omega)]; rfl
        · exact hno j (by omega)
  · have h : ¬ (k : Int) < 5 := of_decide_eq_false h
    have hR : geoR g = true := by
      unfold geoR
      rw [hno 0 (by omega), hno 1 (by omega), hno 2 (by omega), hno 3 (by omega), hno 4 (by omega)]; rfl
    exact And.intro (rb hR.symm) hb0
end Go.Proofs.YtedeohcdcaimhaaGreatDoor
namespace Go.Proofs.YtedeohcdcaimhaaGreatDoor
open Go.Vc Go.RowKit Go.Sei

theorem Grow_c (n : Nat) (hn : n ≤ 1000000000) (w : World) (B : Nat) (hB : B ≤ w.heap.size) :
    Calls Tryz.prog 101 #[.slice none 0 0, .int .i64 n] w fun e w' => ∃ p cap, e = .returned (.slice p 0 cap) ∧ OwnS Msg.E 107 B w' p cap [] ∧ Below w.heap.size w w' := by
  refine calls_of_E (S := sg 27) (sgOk _) (args := [.slice none 0 0, .int .i64 n]) Tryz.func101 rfl rfl (Nat.le_of_ble_eq_true rfl) rfl ?_
  refine And.intro (fun h => ?_) (fun _ => ?_)
  · have := of_decide_eq_true h
    omega
  have hcap : ∀ w, (Builtin.cap_ #[56] 3 #[.slice none 0 0]).run Tryz.prog w = .ok (.int .i64 0) w := fun w => by simp [Builtin.cap_, run_underlying Tryz.underlying56, goInt]
  refine SatR.mk (hcap _) ?_
  refine ⟨0, by rfl, ?_⟩
  refine ⟨n, (wrap_i64 (by omega)).trans (by omega), ?_⟩
  refine And.intro (fun h => ?_) (fun _ => ?_)
  · have h := of_decide_eq_true h
    refine SatR.mk (hcap _) ?_
    refine ⟨0, rfl, by omega, ?_⟩
    refine app_zeros (α := Msg) (E := Msg.E) Tryz.underlying56 Tryz.underlying3 (ttOk.get 107 _ rfl) rfl rfl rfl hB (by omega) (by omega) (by dsimp only; omega) ?_
    intro cap' w' ho hb hc
    refine ⟨0, rfl, by omega, ?_⟩
    exact ⟨some ⟨w.heap.size, 0, none⟩, cap', by rw [cutBase_zero]; rfl, ho, hb⟩
  · exact ⟨none, 0, rfl, .nil, Below.refl _ _⟩

/-- A part: where it lies, how much room, what it holds. -/
structure Part where
  p : Option Addr
  cap : Nat
  l : List Msg
def Part.val (q : Part) : Value := .slice q.p q.l.length q.cap
def partE : Enc Part := ⟨fun q => [q.val], 1, fun _ => rfl, by decide, fun a u hu => by
  simp only [List.mem_cons, List.not_mem_nil, or_false] at hu; subst hu; rfl⟩
def Part.ok (w : World) (q : Part) : Prop := SlR Msg.E w q.p q.l ∧ (q.p = none → q.cap = 0)
theorem Part.ok.below {w w2 : World} {q : Part} (h : q.ok w) (hb : Below w.heap.size w w2) : q.ok w2 := ⟨h.1.below hb, h.2⟩
def total (qs : List Part) : List Msg := qs.flatMap (·.l)
theorem total_take {qs : List Part} {k : Nat} (hk : k < qs.length) : total (qs.take (k + 1)) = total (qs.take k) ++ qs[k].l := by
  unfold total; rw [List.take_succ_eq_append_getElem hk, List.flatMap_append]; simp
theorem total_len {qs : List Part} (k : Nat) : (total (qs.take k)).length ≤ (total qs).length := by
  have : total qs = total (qs.take k) ++ total (qs.drop k) := by unfold total; rw [← List.flatMap_append, List.take_append_drop]
  rw [this]; simp

theorem Concat_c (p : Option Addr) (cap : Nat) (qs : List Part) (w : World) (hp : SlR partE w p qs) (hq : ∀ q ∈ qs, q.ok w) (hn : (total qs).length ≤ 1000000000) (hqn : qs.length ≤ 1000000000) :
    Calls Tryz.prog 82 #[.slice p qs.length cap] w fun e w' => ∃ p' cap', e = .returned (.slice p' (total qs).length cap') ∧ OwnS Msg.E 107 w.heap.size w' p' cap' (total qs) ∧ Below w.heap.size w w' := by
  refine calls_of_E (S := sg 36) (sgOk _) (args := [.slice p qs.length cap]) Tryz.func82 rfl rfl (Nat.le_of_ble_eq_true rfl) rfl ?_
  refine ⟨Nat, fun k => ⟨[(0, .slice p qs.length cap), (2, .slice none 0 0), (3, .int .i64 (total (qs.take k)).length), (9, .slice p qs.length cap), (10, .int .i64 qs.length), (11, .int .i64 (k : Nat))], []⟩,
    fun k X => k ≤ qs.length ∧ X = w, fun k => qs.length - k, 0, ⟨.cons rfl (.cons rfl (.cons rfl (.cons rfl (.cons rfl (.cons rfl .nil))))), rfl⟩, ⟨Nat.zero_le _, rfl⟩, ?_⟩
  rintro k X ⟨hk, rfl⟩
  refine And.intro (fun h => ?_) (fun h => ?_)
  · have h := of_decide_eq_true h
    have hkl : k < qs.length := by omega
    obtain ⟨b, o, rfl, hb, hc⟩ := hp.at hkl
    have ht := total_take hkl
    have ht1 := total_len (qs := qs) (k + 1)
    rw [ht, List.length_append] at ht1
    refine ⟨k, rfl, hkl, ?_⟩
    refine ⟨_, cells_head (hc k hkl), ?_⟩
    refine ⟨_, wrap_i64 (by omega), ?_⟩
    refine And.intro (fun h => ?_) (fun h => ?_)
    · have := of_decide_eq_true h
      omega
    · refine ⟨_, wrap_i64 (by omega), ?_⟩
      exact ⟨k + 1, ⟨.cons rfl (.cons rfl (.cons (by rw [ht, List.length_append]; rfl) (.cons rfl (.cons rfl (.cons rfl .nil))))), rfl⟩, ⟨hkl, rfl⟩, by dsimp only; omega⟩
  · have h := of_decide_eq_false h
    have hke : k = qs.length := by omega
    subst hke
    have hT : total (qs.take qs.length) = total qs := by rw [List.take_length]
    refine Calls.mono (Grow_c (total (qs.take qs.length)).length (by rw [hT]; exact hn) X X.heap.size (Nat.le_refl _)) ?_
    rintro e Y ⟨pg, cg, rfl, hog, hbY⟩
    refine ⟨Nat × Option Addr × Nat, fun s => ⟨[(0, .slice p qs.length cap), (2, .slice none 0 0), (6, .slice s.2.1 (total (qs.take s.1)).length s.2.2), (25, .slice p qs.length cap), (26, .int .i64 qs.length), (27, .int .i64 (s.1 : Nat))], []⟩,
      fun s Z => s.1 ≤ qs.length ∧ Below X.heap.size X Z ∧ OwnS Msg.E 107 X.heap.size Z s.2.1 s.2.2 (total (qs.take s.1)), fun s => qs.length - s.1, (0, pg, cg), ⟨.cons rfl (.cons rfl (.cons rfl (.cons rfl (.cons rfl (.cons rfl .nil))))), rfl⟩, ⟨Nat.zero_le _, hbY, hog⟩, ?_⟩
    rintro ⟨k, pn, cn⟩ Z ⟨hk, hbZ, hoZ⟩
    dsimp only at hk hoZ
    refine And.intro (fun h => ?_) (fun h => ?_)
    · have h := of_decide_eq_true h
      have hkl : k < qs.length := by omega
      obtain ⟨b, o, rfl, hb, hc⟩ := (hp.below hbZ).at hkl
      have ht := total_take hkl
      have ht1 := total_len (qs := qs) (k + 1)
      rw [ht, List.length_append] at ht1
      have hqk := (hq qs[k] (List.getElem_mem _)).below hbZ
      refine ⟨k, rfl, hkl, ?_⟩
      refine ⟨_, cells_head (hc k hkl), ?_⟩
      refine app_any (α := Msg) (E := Msg.E) (news := qs[k].l) Tryz.underlying56 (ttOk.get 107 _ rfl) rfl rfl rfl hoZ rfl hqk.1 hqk.2 hbZ.size (by omega) (by dsimp only; omega) ?_
      intro p' cap' w' ho' hg' hb'
      refine ⟨_, wrap_i64 (by omega), ?_⟩
      rw [← ht] at ho'
      exact ⟨(k + 1, p', cap'), ⟨.cons rfl (.cons rfl (.cons (by rw [ht]; rfl) (.cons rfl (.cons rfl (.cons rfl .nil))))), rfl⟩, ⟨hkl, hbZ.trans hb', ho'⟩, by dsimp only; omega⟩
    · have h := of_decide_eq_false h
      have hke : k = qs.length := by omega
      subst hke
      rw [hT] at hoZ
      exact ⟨pn, cn, by rw [← hT]; rfl, hoZ, hbZ⟩
end Go.Proofs.YtedeohcdcaimhaaGreatDoor
namespace Go.Proofs.YtedeohcdcaimhaaGreatDoor
open Go.Vc Go.RowKit Go.Sei

theorem eq_u8 (d : Nat) (x y : UInt8) (w : World) : (Op.equalIn (d + 1) 5 (u8 x) (u8 y)).run Tryz.prog w = .ok (decide (x = y)) w := by
  simp only [Op.equalIn, Sem.run_bind, run_underlying Tryz.underlying5, Result.andThen_ok, u8, if_true, Sem.run_pure]
  congr 1
  by_cases h : x = y
  · simp [h]
  · simp [h, u8_eq]
theorem eq_bool' (d : Nat) (a b : Bool) (w : World) : (Op.equalIn (d + 1) 4 (.bool a) (.bool b)).run Tryz.prog w = .ok (decide (a = b)) w := by
  simp only [Op.equalIn, Sem.run_bind, run_underlying Tryz.underlying4, Result.andThen_ok, Sem.run_pure]
  cases a <;> cases b <;> rfl
theorem part_u8 {cs : List Value} {i : Nat} {v : UInt8} (w : World) (h : cs[i]? = some (u8 v)) : (part 5 cs.toArray i).run Tryz.prog w = .ok (u8 v) w := by
  simp only [part, Sem.run_bind, Tryz.isAgg5, Result.andThen_ok, Bool.false_eq_true, if_false]
  have : cs.toArray[i]? = some (u8 v) := by simpa using h
  rw [this]; rfl
theorem part_bool {cs : List Value} {i : Nat} {v : Bool} (w : World) (h : cs[i]? = some (.bool v)) : (part 4 cs.toArray i).run Tryz.prog w = .ok (.bool v) w := by
  simp only [part, Sem.run_bind, Tryz.isAgg4, Result.andThen_ok, Bool.false_eq_true, if_false]
  have : cs.toArray[i]? = some (.bool v) := by simpa using h
  rw [this]; rfl
def dcells (a b c d : UInt8) : List Value := [u8 a, u8 b, u8 c, u8 d]
theorem eq_data (d : Nat) (a b c e a' b' c' e' : UInt8) (w : World) : (Op.equalIn (d + 2) 52 (.agg (dcells a b c e).toArray) (.agg (dcells a' b' c' e').toArray)).run Tryz.prog w = .ok (decide (a = a') && decide (b = b') && decide (c = c') && decide (e = e')) w := by
  have hc : Tryz.prog.cellsOf 5 = 1 := by kernel_rfl
  obtain ⟨⟨inf, hi⟩, _⟩ : Known Tryz.prog 5 := known_of (by kernel_rfl) (by kernel_rfl)
  have hp := fun (a b c e : UInt8) (w : World) => part_u8 (cs := dcells a b c e) (i := 0) (v := a) w rfl
  have hp1 := fun (a b c e : UInt8) (w : World) => part_u8 (cs := dcells a b c e) (i := 1) (v := b) w rfl
  have hp2 := fun (a b c e : UInt8) (w : World) => part_u8 (cs := dcells a b c e) (i := 2) (v := c) w rfl
  have hp3 := fun (a b c e : UInt8) (w : World) => part_u8 (cs := dcells a b c e) (i := 3) (v := e) w rfl
  rw [run_equalIn_array w (d + 1) _ _ Tryz.underlying52 hi, hc]
  simp only [List.range, List.range.loop, Op.eqItems, Sem.run_bind, Sem.run_ite, Nat.mul_one, hp, hp1, hp2, hp3, Result.andThen_ok, eq_u8]
  by_cases h1 : a = a' <;> by_cases h2 : b = b' <;> by_cases h3 : c = c' <;> by_cases h4 : e = e' <;> simp [h1, h2, h3, h4]
theorem part_data (m : Msg) (w : World) : (part 52 m.enc.toArray 7).run Tryz.prog w = .ok (.agg (dcells m.d0 m.d1 m.d2 m.d3).toArray) w := by
  have hs : (sizeOf 52).run Tryz.prog w = .ok 4 w := by
    have h : (Tryz.prog.info? 52).map (·.size) = some 4 := by kernel_rfl
    cases hi : Tryz.prog.info? 52 with
    | none => rw [hi] at h; cases h
    | some inf =>
      rw [hi] at h
      have h : inf.size = 4 := Option.some.inj h
      simp [sizeOf, typeInfo, hi, h]
  simp only [part, Sem.run_bind, Tryz.isAgg52, Result.andThen_ok, if_true, hs]
  rfl
theorem eq_msg (d : Nat) (m n : Msg) (w : World) : (Op.equalIn (d + 3) 107 m.val n.val).run Tryz.prog w = .ok (decide (m = n)) w := by
  have hf : Tryz.prog.underlying 107 = some (.struct (Tryz.prog.fieldsOf 107)) := by
    unfold Program.fieldsOf; rw [Tryz.underlying107]
  have hs : Tryz.prog.stoodInHeld 107 = false := by kernel_rfl
  rw [Msg.val, Msg.val, run_equalIn_struct w (d + 2) _ _ _ hf hs]
  unfold Program.fieldsOf; rw [Tryz.underlying107]
  have p0 := fun (m : Msg) (w : World) => part_u8 (cs := m.enc) (i := 0) (v := m.kind) w rfl
  have p1 := fun (m : Msg) (w : World) => part_u8 (cs := m.enc) (i := 1) (v := m.from_) w rfl
  have p2 := fun (m : Msg) (w : World) => part_u8 (cs := m.enc) (i := 2) (v := m.to) w rfl
  have p3 := fun (m : Msg) (w : World) => part_u8 (cs := m.enc) (i := 3) (v := m.line) w rfl
  have p4 := fun (m : Msg) (w : World) => part_u8 (cs := m.enc) (i := 4) (v := m.asker) w rfl
  have p5 := fun (m : Msg) (w : World) => part_u8 (cs := m.enc) (i := 5) (v := m.acks) w rfl
  have p6 := fun (m : Msg) (w : World) => part_bool (cs := m.enc) (i := 6) (v := m.alone) w rfl
  obtain ⟨e, he⟩ : ∃ e, e = d + 1 := ⟨_, rfl⟩
  have q0 := fun x y w => eq_u8 (d + 1) x y w
  have q1 := fun x y w => eq_bool' (d + 1) x y w
  have q2 := fun a b c f a' b' c' f' w => eq_data d a b c f a' b' c' f' w
  simp only [Op.eqFields, ne_eq, String.reduceEq, not_false_eq_true, if_true, Sem.run_bind, Sem.run_ite, p0, p1, p2, p3, p4, p5, p6, part_data, Result.andThen_ok, q0, q1, q2, Sem.run_pure]
  obtain ⟨a0, a1, a2, a3, a4, a5, a6, a7, a8, a9, a10⟩ := m
  obtain ⟨b0, b1, b2, b3, b4, b5, b6, b7, b8, b9, b10⟩ := n
  simp only [Msg.mk.injEq]
  by_cases h0 : a0 = b0
  · by_cases h1 : a1 = b1
    · by_cases h2 : a2 = b2
      · by_cases h3 : a3 = b3
        · by_cases h4 : a4 = b4
          · by_cases h5 : a5 = b5
            · by_cases h6 : a6 = b6
              · simp [h0, h1, h2, h3, h4, h5, h6]
                by_cases h7 : a7 = b7 <;> by_cases h8 : a8 = b8 <;> by_cases h9 : a9 = b9 <;> by_cases h10 : a10 = b10 <;> simp [h7, h8, h9, h10]
              · simp [h0, h1, h2, h3, h4, h5, h6]
            · simp [h0, h1, h2, h3, h4, h5]
          · simp [h0, h1, h2, h3, h4]
        · simp [h0, h1, h2, h3]
      · simp [h0, h1, h2]
    · simp [h0, h1]
  · simp [h0]
theorem neq_msg (x y : Operand) (m n : Msg) (w : World) : (do eqGuard .neq 107 x y m.val n.val; binOp .neq 107 m.val n.val).run Tryz.prog w = .ok (.bool (!decide (m = n))) w := by
  have h : (Op.equal 107 m.val n.val).run Tryz.prog w = .ok (decide (m = n)) w := eq_msg 9997 m n w
  have hg : Tryz.prog.eqGuardType Tryz.prog.depth 107 = false := by kernel_rfl
  have h1 : (eqGuard .neq 107 x y m.val n.val).run Tryz.prog w = .ok () w := by
    simp only [eqGuard, Msg.val, Bool.not_true, Bool.false_eq_true, if_false, Sem.run_bind, run_program, Result.andThen_ok, hg, Bool.not_false, if_true, Sem.run_pure]
  rw [Sem.run_bind, h1]
  rw [Msg.val, Msg.val] at h
  simp only [Result.andThen_ok, binOp, Msg.val, Sem.run_bind, h, Sem.run_pure]
end Go.Proofs.YtedeohcdcaimhaaGreatDoor
namespace Go.Proofs.YtedeohcdcaimhaaGreatDoor
open Go.Vc Go.RowKit Go.Sei

theorem nt {a b : Int} (h : (!decide (a = b)) = true) : ¬ a = b := by simpa using h
theorem nf {a b : Int} (h : (!decide (a = b)) = false) : a = b := by simpa using h

theorem SameMsgs_c (p1 p2 : Option Addr) (cap1 cap2 : Nat) (l1 l2 : List Msg) (w : World) (h1 : SlR Msg.E w p1 l1) (h2 : SlR Msg.E w p2 l2) (hn : l1.length ≤ 1000000000) :
    Calls Tryz.prog 40 #[.slice p1 l1.length cap1, .slice p2 l2.length cap2] w fun e w' => e = .returned (.bool (decide (l1 = l2))) ∧ Below w.heap.size w w' := by
  refine calls_of_E (S := sg 26) (sgOk _) (args := [.slice p1 l1.length cap1, .slice p2 l2.length cap2]) Tryz.func40 rfl rfl (Nat.le_of_ble_eq_true rfl) rfl ?_
  refine And.intro (fun h => ?_) (fun h => ?_)
  · have h := nt h
    refine And.intro (rb ?_) (Below.refl _ _)
    rw [decide_eq_false (fun e => h (by rw [e]))]
  have h := nf h
  refine ⟨Nat, fun k => ⟨[(0, .slice p1 l1.length cap1), (1, .slice p2 l2.length cap2), (4, .bool false), (5, .int .i64 (k : Nat))], []⟩,
    fun k X => k ≤ l1.length ∧ Below w.heap.size w X ∧ l1.take k = l2.take k, fun k => l1.length - k, 0, ⟨.cons rfl (.cons rfl (.cons rfl (.cons rfl .nil))), rfl⟩, ⟨Nat.zero_le _, Below.refl _ _, by simp⟩, ?_⟩
  rintro k X ⟨hk, hbX, hm⟩
  refine And.intro (fun h => ?_) (fun h => ?_)
  · have h := of_decide_eq_true h
    have hkl : k < l1.length := by omega
    have hkl2 : k < l2.length := by omega
    obtain ⟨b1, o1, rfl, hb1, hc1⟩ := (h1.below hbX.drew).at hkl
    obtain ⟨b2, o2, rfl, hb2, hc2⟩ := (h2.below hbX.drew).at hkl2
    refine DrawE.ord [] [0, 1, 2, 3, 4, 5, 6, 7, 8] (by kernel_rfl) ?_
    refine ⟨k, rfl, hkl, ?_⟩
    refine ⟨l1[k].enc, rfl, hc1 k hkl, hb1, ?_⟩
    refine ⟨k, rfl, hkl2, ?_⟩
    refine ⟨l2[k].enc, rfl, hc2 k hkl2, hb2, ?_⟩
    refine ⟨_, fun w => neq_msg _ _ l1[k] l2[k] w, ?_⟩
    refine And.intro (fun h => ?_) (fun h => ?_)
    · have h : ¬ l1[k] = l2[k] := by simpa using h
      refine And.intro (rb ?_) hbX.drew
      rw [decide_eq_false (fun e => h (by simp only [e]))]
    · have h : l1[k] = l2[k] := by simpa using h
      refine ⟨_, wrap_i64 (by omega), ?_⟩
      refine ⟨k + 1, ⟨.cons rfl (.cons rfl (.cons rfl (.cons rfl .nil))), rfl⟩, ⟨hkl, hbX.drew, ?_⟩, by dsimp only; omega⟩
      rw [List.take_succ_eq_append_getElem hkl, List.take_succ_eq_append_getElem hkl2, hm, h]
  · have h := of_decide_eq_false h
    refine And.intro (rb ?_) hbX
    rw [List.take_of_length_le (by omega), List.take_of_length_le (by omega)] at hm
    rw [decide_eq_true hm]
end Go.Proofs.YtedeohcdcaimhaaGreatDoor
