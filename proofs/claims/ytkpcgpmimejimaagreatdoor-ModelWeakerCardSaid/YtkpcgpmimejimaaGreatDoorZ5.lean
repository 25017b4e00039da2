/- The engine, part Z: a region that draws, taken by a tree whose branches are searched through; code that holds such regions. Contracts: what the reads-from and the coherence of a choice of paths may be. Contracts: how many candidates a choice of paths has. Contracts: an execution without events; paths put together. Contracts: paths put together. Ranges over functions that hand over blocks of their own with what they hand; rounds that never stop. Contracts: the candidates of a choice, one by one: what the iterator makes first. Contracts: the candidates of a choice, one by one. Contracts: the candidates of a choice, gathered. Contracts: the choices of paths in memory. Contracts: the values that a thread writes. Contracts: is a condition right?. -/
import Derived.Test.YtkpcgpmimejimaaGreatDoorZ2
import Derived.Test.YtkpcgpmimejimaaGreatDoorZ4
import Derived.Test.YtkpcgpmimejimaaGreatDoorZ3
import Derived.Test.YtkpcgpmimejimaaGreatDoorZ1
set_option linter.unusedSimpArgs false
set_option linter.unusedVariables false
namespace Go.Vc
open Go.RowKit
def DrawA (S : Sig) (ops : Array Oper) (E : Env) (w : World) (K : Env → World → Prop) (QP : List PanicEntry → World → Prop) : Prop :=
 ∃ (X : List Nat) (T : OT),(covA (indepB S.τ X ops) ops ops.size (Array.replicate ops.size false) T && ops.all (fun o => noSel o.op)) = true ∧ opsT S ops.toList X QP T E w.drew K
inductive Mn where
 | m (m : Mk)
 | s (a b : Mn)
 | c (a b : Mn)
 | d (a b : Mn)
 | t
section
variable {S : Sig}
def covFA (rec_ : Array Bool → OT → Bool) (ind : Nat → Nat → Bool) (ops : Array Oper) (listed : Array Bool) (T : OT) : Bool :=
 !(Region.ready .any ops listed).isEmpty && (Region.ready .any ops listed).all fun i =>
   (OT.firsts ind i T).any fun T' => rec_ (listed.setIfInBounds i true) T'
def covR (ind : Nat → Nat → Bool) (ops : Array Oper) : Nat → Array Bool → OT → Bool
 | 0,listed,T => (Region.ready .any ops listed).isEmpty && (match T with | .nil => true | _ => false)
 | m + 1,listed,.op k T' => (match (Region.ready .any ops listed).contains k && freeB ind ops k listed with
  | true => covR ind ops m (listed.setIfInBounds k true) T'
  | false => covFA (covR ind ops m) ind ops listed (.op k T'))
 | m + 1,listed,.nil => covFA (covR ind ops m) ind ops listed .nil
 | m + 1,listed,.alt x y => covFA (covR ind ops m) ind ops listed (.alt x y)
section
variable {ind : Nat → Nat → Bool} {ops : Array Oper}
theorem covFA_next {rec_ : Array Bool → OT → Bool} {L : Array Bool} {T : OT} (h : covFA rec_ ind ops L T = true) : (Region.ready .any ops L).isEmpty = false ∧ ∀ i ∈ Region.ready .any ops L,∃ T',T' ∈ OT.firsts ind i T ∧ rec_ (L.setIfInBounds i true) T' = true := by
 simp only [covFA,Bool.and_eq_true,Bool.not_eq_true',List.all_eq_true,List.any_eq_true] at h
 exact ⟨h.1,fun i hi => h.2 i hi⟩
theorem covR_next : ∀ (m : Nat) (L : Array Bool) (T : OT),Closed ops L → covR ind ops (m + 1) L T = true →
  (Region.ready .any ops L).isEmpty = false ∧ ∀ i ∈ Region.ready .any ops L,∃ T',T' ∈ OT.firsts ind i T ∧ covR ind ops m (L.setIfInBounds i true) T' = true := by
 intro m
 induction m with
 | zero =>
  intro L T hc h
  cases T with
  | nil => exact covFA_next h
  | alt x y => exact covFA_next h
  | op k T' =>
   simp only [covR] at h
   split at h
   ·rename_i hf
    simp only [Bool.and_eq_true,List.contains_eq_mem,decide_eq_true_eq] at hf
    refine ⟨List.isEmpty_eq_false_iff.2 (List.ne_nil_of_mem hf.1),fun i hi => ?_⟩
    by_cases e : i = k
    ·subst e; exact ⟨T',by simp [OT.firsts],h⟩
    ·have := ready_mono hi e
     simp only [Bool.and_eq_true,List.isEmpty_iff] at h
     rw [h.1] at this; cases this
   ·exact covFA_next h
 | succ m ih =>
  intro L T hc h
  cases T with
  | nil => exact covFA_next h
  | alt x y => exact covFA_next h
  | op k T' =>
   unfold covR at h
   split at h
   ·rename_i hf
    simp only [Bool.and_eq_true,List.contains_eq_mem,decide_eq_true_eq] at hf
    refine ⟨List.isEmpty_eq_false_iff.2 (List.ne_nil_of_mem hf.1),fun i hi => ?_⟩
    by_cases e : i = k
    ·subst e; exact ⟨T',by simp [OT.firsts],h⟩
    ·obtain ⟨T'',h1,h2⟩ := (ih _ T' (closed_set hc hf.1) h).2 i (ready_mono hi e)
     refine ⟨.op k T'',?_,?_⟩
     ·have : ¬ k = i := fun e2 => e e2.symm
      rw [OT.firsts,if_neg this,if_pos (free_ind hc hf.2 hf.1 hi e)]
      exact List.mem_map_of_mem h1
     ·have hk2 : k ∈ Region.ready .any ops (L.setIfInBounds i true) := ready_mono hf.1 (fun e2 => e e2.symm)
      have hb : ((Region.ready .any ops (L.setIfInBounds i true)).contains k && freeB ind ops k (L.setIfInBounds i true)) = true := by
       simp only [Bool.and_eq_true,List.contains_eq_mem,decide_eq_true_eq]
       exact ⟨hk2,freeB_mono hf.2⟩
      unfold covR
      rw [hb]
      rw [set_comm]
      exact h2
   ·exact covFA_next h
theorem covR_covA : ∀ (m : Nat) (L : Array Bool) (T : OT),Closed ops L → covR ind ops m L T = true → covA ind ops m L T = true
 | 0,L,T,_,h => h
 | m + 1,L,T,hc,h => by
  obtain ⟨h1,h2⟩ := covR_next m L T hc h
  simp only [covA,Bool.and_eq_true,Bool.not_eq_true',List.all_eq_true,List.any_eq_true]
  refine ⟨h1,fun i hi => ?_⟩
  obtain ⟨T',h3,h4⟩ := h2 i hi
  exact ⟨T',h3,covR_covA m _ T' (closed_set hc hi) h4⟩
end
theorem DrawA.treeR {S : Sig} {ops : Array Oper} {E : Env} {w : World} {K : Env → World → Prop} {QP : List PanicEntry → World → Prop} (X : List Nat) (T : OT)
  (h : (covR (indepB S.τ X ops) ops ops.size (Array.replicate ops.size false) T && ops.all (fun o => noSel o.op)) = true) (k : opsT S ops.toList X QP T E w.drew K) : DrawA S ops E w K QP :=
 ⟨X,T,by
  simp only [Bool.and_eq_true] at h ⊢
  refine ⟨covR_covA _ _ _ (fun j o hj => ?_) h.1,h.2⟩
  by_cases hl : j < ops.size <;> simp [hl] at hj,k⟩
theorem DrawE.treeR {S : Sig} {ops : Array Oper} {E : Env} {w : World} {K : Env → World → Prop} {QP : List PanicEntry → World → Prop} (X : List Nat) (T : OT)
  (h : (covR (indepB S.τ X ops) ops ops.size (Array.replicate ops.size false) T && ops.all (fun o => noSel o.op)) = true) (k : opsT S ops.toList X QP T E w.drew K) : DrawE S ops E w K QP :=
 .inr (.inr ⟨X,T,by
  simp only [Bool.and_eq_true] at h ⊢
  refine ⟨covR_covA _ _ _ (fun j o hj => ?_) h.1,h.2⟩
  by_cases hl : j < ops.size <;> simp [hl] at hj,k⟩)
end
end Go.Vc
namespace Go.Proofs.YtkpcgpmimejimaaGreatDoor
open Go.Vc Go.RowKit Go.Sei
abbrev MixH (X : World) (b : Nat) (x : ExD) (q : Option Addr) (c : Nat) (S : List Value) : Prop := X.heap[b]? = some (.cells (exC x q c ++ S).toArray 133 (0,0))
abbrev nilV : Value := .slice none 0 0
theorem mixH_ev {X : World} {b : Nat} {x : ExD} {q : Option Addr} {c : Nat} {S : List Value} (h : MixH X b x q c S) : X.cell? ⟨b,0 + 0,none⟩ = some (.slice q x.ev.length c) := cells_at (cells_block h) (ex_ev0 x q c S)
theorem mixH_at {X : World} {b : Nat} {x : ExD} {q : Option Addr} {c : Nat} {S : List Value} (h : MixH X b x q c S) {i : Nat} {v : Value} (hi : S[i]? = some v) : X.cell? ⟨b,333 + i,none⟩ = some v := by
 have := cells_at (cells_block h) (mix_get (x := x) (q := q) (c := c) hi)
 rw [Nat.zero_add] at this
 exact this
theorem ev_in {w Z : World} {q : Option Addr} {ev : List Ev} {b : Nat} (hl : SlR evE w q ev) (hqb : ∀ a,q = some a → a.block ≠ b) (g : w.grownBy Z (some b)) : SlR evE Z q ev := by
 rcases hl with h | ⟨b',o,h1,h2,h3⟩
 ·exact .inl h
 ·have := hqb _ h1
  exact .inr ⟨b',o,h1,Nat.lt_of_lt_of_le h2 g.size,fun i hi => cells_same (g.block b' h2 (by simpa using this)) (h3 i hi)⟩
theorem own_map (p : Option Addr) (n c : Nat) : (Value.slice p n c).ownBlock = p.map Addr.block := by cases p <;> rfl
theorem own_ne {α : Type} {E : Enc α} {T B cap : Nat} {w : World} {p : Option Addr} {l : List α} (h : OwnS E T B w p cap l) {k T' : Nat} {cur : Array Value} {fr : Nat × Nat} (hk : w.heap[k]? = some (.cells cur T' fr)) (hT : T' ≠ T) : some k ≠ p.map Addr.block := fun e => by
 cases hp : p with
 | none => rw [hp] at e; cases e
 | some a =>
  rw [hp] at e
  simp only [Option.map_some,Option.some.injEq] at e
  obtain ⟨_,_,cur',h'⟩ := own_at h hp
  rw [← e,hk] at h'
  simp at h'
  exact hT h'.2.1
theorem SatR.mono {α : Type} {r : Result α} {K K' : α → World → Prop} (h : SatR r K) (k : ∀ v w,K v w → K' v w) : SatR r K' := by
 obtain ⟨v,w',e,h⟩ := h
 exact ⟨v,w',e,k v w' h⟩
section
variable {α β : Type} {E : Enc α} {E' : Enc β} {T T' B B' c c' : Nat} {A C : World} {p q : Option Addr} {l : List α} {l' : List β}
theorem own_past (h : OwnS E T B A q c l) (g : A.grownBy C (p.map Addr.block)) (hne : ∀ a b',p = some a → q = some b' → a.block ≠ b'.block) : OwnS E T B C q c l :=
 h.same fun b' hb' => g.block _ (own_at h hb').2.1 fun e => by
  cases hp : p with
  | none => rw [hp] at e; cases e
  | some a =>
   rw [hp] at e
   simp only [Option.map_some,Option.some.injEq] at e
   exact hne a b' hp hb' e.symm
theorem own_pastT (h : OwnS E T B A q c l) (hp : OwnS E' T' B' A p c' l') (hT : T ≠ T') (g : A.grownBy C (p.map Addr.block)) : OwnS E T B C q c l :=
 own_past h g fun a b' ha hb e => by
  obtain ⟨_,_,c1,h1⟩ := own_at h hb
  obtain ⟨_,_,c2,h2⟩ := own_at hp ha
  rw [e,h1] at h2
  simp at h2
  exact hT h2.2
theorem own_box {b : Nat} {cur : Array Value} {fr : Nat × Nat} (h : OwnS E T B A q c l) (hb : A.heap[b]? = some (.cells cur T' fr)) (hT : T ≠ T') (g : A.grownBy C (some b)) : OwnS E T B C q c l :=
 h.same fun b' hb' => g.block _ (own_at h hb').2.1 fun e => by
  obtain ⟨_,_,c1,h1⟩ := own_at h hb'
  simp only [Option.some.injEq] at e
  rw [e,hb] at h1
  simp at h1
  exact hT h1.2.1.symm
theorem box_past {b : Nat} {cur : Array Value} {fr : Nat × Nat} (hb : A.heap[b]? = some (.cells cur T' fr)) (h : OwnS E T B A q c l) (hT : T' ≠ T) (g : A.grownBy C (q.map Addr.block)) : C.heap[b]? = some (.cells cur T' fr) :=
 (g.block b (hlt hb) (own_ne h hb hT)).trans hb
theorem past_below {n : Nat} (hp : OwnS E T B A p c l) (hn : n ≤ A.heap.size) (hB : n ≤ B) (g : A.grownBy C (p.map Addr.block)) : Below n A C := by
 refine ⟨g.os,g.tape,g.output,g.size,fun j hj => g.block j (by omega) fun e => ?_⟩
 cases h : p with
 | none => rw [h] at e; cases e
 | some a =>
  rw [h] at e
  simp only [Option.map_some,Option.some.injEq] at e
  have := (own_at hp h).1
  omega
end
theorem appI {B c k : Nat} {V1 : World} {p : Option Addr} {l : List Nat} {a : Addr} (ho : OwnS natE 3 B V1 p c l) (ha : Cells V1 a ([k].flatMap natE.enc)) (hB : B ≤ V1.heap.size) (hl : l.length ≤ 100000) {K : Value → World → Prop}
  (h : ∀ p' c' w',OwnS natE 3 B w' p' c' (l ++ [k]) → V1.grownBy w' (Value.slice p l.length c).ownBlock → (∀ a,p' = some a → p = some a ∨ a.block = V1.heap.size) → K (.slice p' (l ++ [k]).length c') w') :
  SatR ((Builtin.append_ #[95,95] 95 #[.slice p l.length c,.slice (some a) 1 1]).run Tryz.prog V1) K :=
 app_own (E := natE) (T := 3) (B := B) (l := l) (news := [k]) (cap := c) (m := 1) Tryz.underlying95 (ttOk.get 3 _ rfl) rfl rfl rfl ho rfl ha hB (by omega) (by show (l.length + 1) * 8 ≤ _; omega) fun p' c' w' a1 a2 _ a4 => h p' c' w' a1 a2 a4
theorem appL {B c : Nat} {V1 : World} {p : Option Addr} {l : List NatL} {y : NatL} {a : Addr} (ho : OwnS natLE 95 B V1 p c l) (ha : Cells V1 a ([y].flatMap natLE.enc)) (hB : B ≤ V1.heap.size) (hl : l.length ≤ 100000) {K : Value → World → Prop}
  (h : ∀ p' c' w',OwnS natLE 95 B w' p' c' (l ++ [y]) → V1.grownBy w' (Value.slice p l.length c).ownBlock → (∀ a,p' = some a → p = some a ∨ a.block = V1.heap.size) → K (.slice p' (l ++ [y]).length c') w') :
  SatR ((Builtin.append_ #[131,131] 131 #[.slice p l.length c,.slice (some a) 1 1]).run Tryz.prog V1) K :=
 app_own (E := natLE) (T := 95) (B := B) (l := l) (news := [y]) (cap := c) (m := 1) Tryz.underlying131 (ttOk.get 95 _ rfl) rfl rfl rfl ho rfl ha hB (by omega) (by show (l.length + 1) * 24 ≤ _; omega) fun p' c' w' a1 a2 _ a4 => h p' c' w' a1 a2 a4
section
variable {b : Nat} {x : ExD} {q : Option Addr} {c locs : Nat} {w : World}
theorem choices_c (hm : MixH w b x q c [nilV,nilV,nilV]) (hl : SlR evE w q x.ev) (hqb : ∀ a,q = some a → a.block ≠ b) (hn : x.ev.length ≤ 48) (hlo : locs ≤ 100) (hv : ∀ e ∈ x.ev,e.k = 1 ∨ e.k = 2 → e.l.toNat < locs) :
  Calls Tryz.prog 135 #[At0 b,i64 locs] w fun e w' => e = .returned (.tuple #[]) ∧ (∃ (p1 p2 p3 : Option Addr) (c1 c2 c3 : Nat) (xs ys : List NatL),
   MixH w' b x q c [.slice p1 (choiceR x locs).rs.length c1,.slice p2 xs.length c2,.slice p3 ys.length c3] ∧ OwnS natE 3 w.heap.size w' p1 c1 ((choiceR x locs).rs.map (·.1)) ∧ xs.map (·.1) = (choiceR x locs).rs.map (·.2) ∧ OwnS natLE 95 w.heap.size w' p2 c2 xs ∧ (∀ y ∈ xs,OwnS natE 3 w.heap.size w' y.2.1 y.2.2 y.1) ∧
   ys.map (·.1) = (choiceR x locs).wr ∧ OwnS natLE 95 w.heap.size w' p3 c3 ys ∧ ∀ y ∈ ys,OwnS natE 3 w.heap.size w' y.2.1 y.2.2 y.1) ∧ w.grownBy w' (some b) := by
 refine calls_of_M (S := sg 114) (sgOk _) (args := [At0 b,i64 locs]) (.c .p (.c .p .p)) Tryz.func135 rfl rfl (Nat.le_of_ble_eq_true rfl) rfl ?_
 obtain ⟨B,hB⟩ : ∃ B,B = w.heap.size := ⟨_,rfl⟩
 have hbw := hlt hm
 obtain ⟨W0,hW0⟩ : ∃ W0 : List NatL,W0 = List.replicate locs ([],none,0) := ⟨_,rfl⟩
 have hW0l : W0.length = locs := by rw [hW0,List.length_replicate]
 refine ⟨Unit,fun _ => ⟨[(0,At0 b)],[]⟩,fun _ X => MixH X b x q c [nilV,nilV,.slice (some ⟨B,0,none⟩) locs locs] ∧ RowLH X B W0 ∧ w.grownBy X (some b) ∧ B < X.heap.size,?_,?_⟩
 ·refine make_zero Tryz.underlying131 (ttOk.get 95 _ rfl) rfl rfl (by decide) locs (by show 24 * _ ≤ _; omega) (by omega) fun X fX hbX sX => ?_
  have ez : ∀ n,zrep [Value.slice none 0 0] n = rowL (List.replicate n ([],none,0)) := fun n => by
   induction n with
   | zero => rfl
   | succ n ih =>
    show Value.slice none 0 0 :: zrep [Value.slice none 0 0] n = slV ([],none,0) :: rowL (List.replicate n ([],none,0))
    rw [← ih]; rfl
  have fX : X.heap[w.heap.size]? = some (.cells (zrep [Value.slice none 0 0] locs).toArray 95 (0,0)) := fX
  rw [ez,← hW0,← hB] at fX
  have hmX := (hbX.block b hbw).trans hm
  refine store_one (ttOk.get 131 _ rfl) hmX (o := 0 + 335) (v := .slice (some ⟨w.heap.size,0,none⟩) locs locs) rfl rfl (by rw [List.length_append,exC_len]; decide) rfl fun Y fY gY sY => ?_
  rw [show 0 + 335 = 333 + 2 from rfl,mix_set] at fY
  exact ⟨(),⟨.cons rfl .nil,rfl⟩,by rw [hB]; exact fY,(gY.block B (hlt fX) (by simp; omega)).trans fX,grown_trans (grown_of_below hbX) gY,by rw [sY,sX,hB]; omega⟩
 rintro _ X ⟨hmX,fX,gX,sX⟩
 refine ⟨List NatL,fun W => ⟨[(0,At0 b)],[]⟩,fun W Z => MixH Z b x q c [nilV,nilV,.slice (some ⟨B,0,none⟩) locs locs] ∧ RowLH Z B W ∧ w.grownBy Z (some b) ∧ W.length = locs ∧ W.map (·.1) = (choiceR x locs).wr ∧ Rows B Z W ∧ ∀ y ∈ W,y.1.length ≤ 48 ∧ ∀ a ∈ y.1,a < x.ev.length,?_,?_⟩
 ·refine ⟨_,mixH_ev hmX,?_⟩
  refine ⟨Nat × List NatL,fun s => ⟨[(0,At0 b),(20,.slice q x.ev.length c),(21,i64 x.ev.length),(22,i64 (s.1 : Nat))],[]⟩,
   fun s Z => s.1 ≤ x.ev.length ∧ MixH Z b x q c [nilV,nilV,.slice (some ⟨B,0,none⟩) locs locs] ∧ RowLH Z B s.2 ∧ w.grownBy Z (some b) ∧ s.2.length = locs ∧ wrsG s.1 (x.ev.drop s.1) (s.2.map (·.1)) = (choiceR x locs).wr ∧ Rows B Z s.2 ∧ (∀ y ∈ s.2,y.1.length ≤ s.1 ∧ ∀ a ∈ y.1,a < x.ev.length),fun s => x.ev.length - s.1,(0,W0),
   ⟨.cons rfl (.cons rfl (.cons rfl (.cons rfl .nil))),rfl⟩,⟨Nat.zero_le _,hmX,fX,gX,hW0l,by rw [hW0,List.map_replicate]; rfl,by rw [hW0]; exact Rows.nils _ _ _,fun y hy => by rw [hW0] at hy; rw [List.eq_of_mem_replicate hy]; exact ⟨Nat.zero_le _,fun a ha => by cases ha⟩⟩,?_⟩
  clear hmX fX gX sX
  rintro ⟨k,W⟩ Z ⟨hk,hmZ,fZ,gZ,hWl,hacc,hR,hL⟩
  dsimp only at hk fZ hWl hacc hR hL ⊢
  refine And.intro (fun hc => ?_) (fun hc => ?_)
  ·have hc : (k : Int) < (x.ev.length : Int) := of_decide_eq_true hc
   have hkl : k < x.ev.length := by omega
   obtain ⟨e,he⟩ : ∃ e,x.ev[k] = e := ⟨_,rfl⟩
   have hem : e ∈ x.ev := by rw [← he]; exact List.getElem_mem hkl
   rw [← List.getElem_cons_drop hkl,he] at hacc
   have hacc : wrsG (k + 1) (x.ev.drop (k + 1)) (if e.k = 2 then (W.map (·.1)).set e.l.toNat ((W.map (·.1)).getD e.l.toNat [] ++ [k]) else W.map (·.1)) = (choiceR x locs).wr := hacc
   have hlZ := ev_in hl hqb gZ
   obtain ⟨bp,op,hqe,hlp,hat⟩ := hlZ.at hkl
   subst hqe
   refine ⟨k,rfl,hkl,?_⟩
   refine ⟨evE.enc e,rfl,by rw [← he]; exact hat k hkl,hlp,?_⟩
   refine store_new (X := Z) (v := .agg (evE.enc e).toArray) (ttOk.get 52 _ rfl) rfl rfl (List.all_eq_true.2 fun u hu => evE.one e u hu) fun Y hbY fY sY => ?_
   have gY := grown_trans gZ (grown_of_below (row := some b) hbY)
   have hmY := block_below hbY hmZ
   have fBY := block_below hbY fZ
   have hRY : Rows B Y W := hR.same fun y hy a ha => hbY.block _ (own_at (hR.own y hy) ha).2.1
   have fY : Y.heap[Z.heap.size]? = some (.cells (evE.enc e).toArray 52 (0,0)) := fY
   refine ⟨u8 e.k,cells_at (cells_block fY) (i := 1) rfl,?_⟩
   refine And.intro (fun h => ?_) (fun h => ?_)
   ·have h : e.k = 2 := u8_eq.1 (of_decide_eq_true h)
    rw [if_pos h] at hacc
    have hll := hv e hem (.inr h)
    obtain ⟨l,hle⟩ : ∃ l,e.l.toNat = l := ⟨_,rfl⟩
    rw [hle] at hacc hll
    have hlW : l < W.length := by omega
    obtain ⟨y,hy⟩ : ∃ y,W[l]? = some y := ⟨_,List.getElem?_eq_getElem hlW⟩
    have hym : y ∈ W := List.mem_of_getElem? hy
    have hgd : (W.map (·.1)).getD l [] = y.1 := by rw [List.getD_eq_getElem?_getD,List.getElem?_map,hy]; rfl
    rw [hgd] at hacc
    have hyo := hRY.own y hym
    have hylen := (hL y hym).1
    have hrl : (rowL W)[l]? = some (slV y) := by unfold rowL; rw [List.getElem?_map,hy]; rfl
    have hd : Below Y.heap.size Y Y.drew := (Below.refl _ Y).drew
    have hba : Below Y.drew.heap.size Y.drew (Y.drew.alloc (.cells (natE.enc k).toArray 3)) := (Below.refl _ _).alloc (Nat.le_refl _) _
    have sa : (Y.drew.alloc (.cells (natE.enc k).toArray 3)).heap.size = Y.heap.size + 1 := World.size_alloc _ _
    have nB := own_ne hyo fBY (by decide)
    have nb := own_ne hyo hmY (by decide)
    have fin : ∀ p2 c2 V,OwnS natE 3 B V p2 c2 (y.1 ++ [k]) → (Y.drew.alloc (.cells (natE.enc k).toArray 3)).grownBy V (Value.slice y.2.1 y.1.length y.2.2).ownBlock → (∀ a,p2 = some a → y.2.1 = some a ∨ a.block = (Y.drew.alloc (.cells (natE.enc k).toArray 3)).heap.size) →
      (MixH V b x (some ⟨bp,op,none⟩) c [nilV,nilV,.slice (some ⟨B,0,none⟩) locs locs] ∧ V.heap[Z.heap.size]? = some (.cells (evE.enc e).toArray 52 (0,0))) ∧
      SatR ((storeVar 95 ⟨B,0 + l * 1,none⟩ (slV (y.1 ++ [k],p2,c2))).run Tryz.prog V) fun _ S => MixH S b x (some ⟨bp,op,none⟩) c [nilV,nilV,.slice (some ⟨B,0,none⟩) locs locs] ∧ RowLH S B (W.set l (y.1 ++ [k],p2,c2)) ∧ w.grownBy S (some b) ∧ (W.set l (y.1 ++ [k],p2,c2)).length = locs ∧ wrsG (k + 1) (x.ev.drop (k + 1)) ((W.set l (y.1 ++ [k],p2,c2)).map (·.1)) = (choiceR x locs).wr ∧ Rows B S (W.set l (y.1 ++ [k],p2,c2)) ∧ ∀ z ∈ W.set l (y.1 ++ [k],p2,c2),z.1.length ≤ k + 1 ∧ ∀ a ∈ z.1,a < x.ev.length := by
     intro p2 c2 V oV gV hat2
     obtain ⟨U,hU⟩ : ∃ U,U = Y.drew.alloc (.cells (natE.enc k).toArray 3) := ⟨_,rfl⟩
     rw [← hU] at gV hba sa hat2
     have hbYU : Below Y.heap.size Y U := hd.trans hba
     rw [own_map] at gV
     have gYV : Y.grownBy V (y.2.1.map Addr.block) := grown_trans (grown_of_below hbYU) gV
     have fBV : RowLH V B W := (gYV.block B (hlt fBY) nB).trans fBY
     have hmV := (gYV.block b (hlt hmY) nb).trans hmY
     have nE := own_ne hyo fY (by decide)
     refine ⟨⟨hmV,(gYV.block _ (hlt fY) nE).trans fY⟩,?_⟩
     refine store_one (ttOk.get 95 _ rfl) fBV (o := 0 + l * 1) (v := slV (y.1 ++ [k],p2,c2)) rfl rfl (by unfold rowL; rw [List.length_map]; omega) rfl fun S fS gS sS => ?_
     have fS2 : RowLH S B (W.set l (y.1 ++ [k],p2,c2)) := by
      rw [Nat.mul_one,Nat.zero_add] at fS
      refine fS.trans ?_
      unfold rowL
      rw [List.map_set]
     have hRV : Rows B V (W.set l (y.1 ++ [k],p2,c2)) := hRY.set (y := (y.1 ++ [k],p2,c2)) hy oV gYV fun a ha => (hat2 a ha).imp id fun h => by omega
     have hRS : Rows B S (W.set l (y.1 ++ [k],p2,c2)) := hRV.same fun z hz a ha => gS.block _ (own_at (hRV.own z hz) ha).2.1 fun e => by
      have h1 := own_ne (hRV.own z hz) fBV (by decide)
      rw [ha] at h1
      exact h1 e.symm
     have gyb : w.grownBy S (some b) := by
      have hBb : B ≠ b := by omega
      have e1 : Below B Y S := by
       refine Below.trans ⟨gYV.os,gYV.tape,gYV.output,gYV.size,fun j hj => gYV.block j (by have := hlt fBY; omega) fun e => ?_⟩ (below_grown gS (by have := hlt fBV; omega) (Nat.le_refl _))
       cases hp : y.2.1 with
       | none => rw [hp] at e; cases e
       | some a =>
        rw [hp] at e
        simp only [Option.map_some,Option.some.injEq] at e
        have := (own_at hyo hp).1
        omega
      rw [hB] at e1
      exact grown_then gY e1
     refine ⟨(gS.block b (hlt hmV) (by simp; omega)).trans hmV,fS2,gyb,by rw [List.length_set]; exact hWl,?_,hRS,fun z hz => ?_⟩
     ·rw [List.map_set]; exact hacc
     ·rcases List.mem_or_eq_of_mem_set hz with h | h
      ·exact ⟨by have := (hL z h).1; omega,(hL z h).2⟩
      ·rw [h]
       refine ⟨by simp only [List.length_append,List.length_cons,List.length_nil]; omega,fun a ha => ?_⟩
       rcases List.mem_append.1 ha with ha | ha
       ·exact (hL y hym).2 a ha
       ·rw [List.mem_singleton.1 ha]; exact hkl
    refine DrawE.treeR [16,18] (.op 0 (.op 1 (.op 2 (.op 4 (.op 6 (.op 7 (.op 8 (.op 9 (.op 10 (.op 11 (.op 12 (.op 13 (.op 14 (.alt (.op 15 (.alt (.op 16 (.alt (.op 3 (.op 5 (.op 17 (.op 18 (.nil))))) (.op 5 (.op 3 (.op 17 (.op 18 (.nil))))))) (.alt (.op 3 (.alt (.op 16 (.op 5 (.op 17 (.op 18 (.nil))))) (.op 5 (.op 16 (.op 17 (.op 18 (.nil))))))) (.op 5 (.alt (.op 16 (.op 3 (.op 17 (.op 18 (.nil))))) (.op 3 (.op 16 (.op 17 (.op 18 (.nil)))))))))) (.alt (.op 3 (.alt (.op 15 (.alt (.op 16 (.op 5 (.op 17 (.op 18 (.nil))))) (.op 5 (.op 16 (.op 17 (.op 18 (.nil))))))) (.op 5 (.op 15 (.op 16 (.op 17 (.op 18 (.nil)))))))) (.op 5 (.alt (.op 15 (.alt (.op 16 (.op 3 (.op 17 (.op 18 (.nil))))) (.op 3 (.op 16 (.op 17 (.op 18 (.nil))))))) (.op 3 (.op 15 (.op 16 (.op 17 (.op 18 (.nil))))))))))))))))))))))) (by kernel_rfl) ?_
    refine ⟨_,mixH_at (hdr hmY) (i := 2) rfl,?_⟩
    refine ⟨u8 e.l,cells_at (cells_block (hdr fY)) (i := 2) rfl,?_⟩
    refine ⟨l,by rw [← hle],hll,?_⟩
    refine ⟨slV y,by have := cells_at (cells_block (hdr fBY)) (i := l * 1) (v := slV y) (by rw [Nat.mul_one]; exact hrl); exact this,?_⟩
    have hsz : x.ev.length - (k + 1) < x.ev.length - k := by omega
    have app : ∀ {K : Value → World → Prop},(∀ p2 c2 V,((MixH V b x (some ⟨bp,op,none⟩) c [nilV,nilV,.slice (some ⟨B,0,none⟩) locs locs] ∧ V.heap[Z.heap.size]? = some (.cells (evE.enc e).toArray 52 (0,0))) ∧
      SatR ((storeVar 95 ⟨B,0 + l * 1,none⟩ (slV (y.1 ++ [k],p2,c2))).run Tryz.prog V) fun _ S => MixH S b x (some ⟨bp,op,none⟩) c [nilV,nilV,.slice (some ⟨B,0,none⟩) locs locs] ∧ RowLH S B (W.set l (y.1 ++ [k],p2,c2)) ∧ w.grownBy S (some b) ∧ (W.set l (y.1 ++ [k],p2,c2)).length = locs ∧ wrsG (k + 1) (x.ev.drop (k + 1)) ((W.set l (y.1 ++ [k],p2,c2)).map (·.1)) = (choiceR x locs).wr ∧ Rows B S (W.set l (y.1 ++ [k],p2,c2)) ∧ ∀ z ∈ W.set l (y.1 ++ [k],p2,c2),z.1.length ≤ k + 1 ∧ ∀ a ∈ z.1,a < x.ev.length) → K (slV (y.1 ++ [k],p2,c2)) V) →
      SatR ((Builtin.append_ #[95,95] 95 #[slV y,.slice (some ⟨Y.drew.heap.size,0,none⟩) 1 1]).run Tryz.prog (Y.drew.alloc (.cells (natE.enc k).toArray 3))) K := fun {K} h =>
     app_own (E := natE) (T := 3) (B := B) (l := y.1) (news := [k]) (cap := y.2.2) (m := 1) Tryz.underlying95 (ttOk.get 3 _ rfl) rfl rfl rfl (hyo.below (hd.trans hba)) rfl (one_new natE k) (by have := gY.size; omega) (by omega) (by show (y.1.length + 1) * 8 ≤ _; omega) fun p2 c2 V oV gV hbV hat2 => h p2 c2 V (fin p2 c2 V oV gV hat2)
    have hmA := hold (.cells (natE.enc k).toArray 3 (0,0)) (hdr hmY)
    have fEA := hold (.cells (natE.enc k).toArray 3 (0,0)) (hdr fY)
    refine And.intro ?_ (And.intro ?_ ?_)
    ·refine ⟨⟨by decide,by decide,rfl⟩,natE.enc k,rfl,?_⟩
     refine ⟨hba,?_⟩
     refine And.intro ?_ (And.intro ?_ ?_)
     ·refine app fun p2 c2 V ⟨⟨hmV,fEV⟩,hst⟩ => ?_
      refine And.intro ?_ ?_
      ·refine ⟨_,mixH_at hmV (i := 2) rfl,?_⟩
       refine ⟨u8 e.l,cells_at (cells_block fEV) (i := 2) rfl,?_⟩
       refine ⟨l,by rw [← hle],hll,?_⟩
       refine SatR.mono hst ?_
       rintro _ S hS
       refine ⟨((k + 1 : Nat) : Int),(wrap_i64 (by omega)).trans (by omega),?_⟩
       exact ⟨(k + 1,W.set l (y.1 ++ [k],p2,c2)),⟨.cons rfl (.cons rfl (.cons rfl (.cons rfl .nil))),rfl⟩,⟨hkl,hS⟩,hsz⟩
      ·refine ⟨u8 e.l,cells_at (cells_block fEV) (i := 2) rfl,?_⟩
       refine ⟨_,mixH_at hmV (i := 2) rfl,?_⟩
       refine ⟨l,by rw [← hle],hll,?_⟩
       refine SatR.mono hst ?_
       rintro _ S hS
       refine ⟨((k + 1 : Nat) : Int),(wrap_i64 (by omega)).trans (by omega),?_⟩
       exact ⟨(k + 1,W.set l (y.1 ++ [k],p2,c2)),⟨.cons rfl (.cons rfl (.cons rfl (.cons rfl .nil))),rfl⟩,⟨hkl,hS⟩,hsz⟩
     ·refine ⟨_,mixH_at hmA (i := 2) rfl,?_⟩
      refine And.intro ?_ ?_
      ·refine app fun p2 c2 V ⟨⟨hmV,fEV⟩,hst⟩ => ?_
       refine ⟨u8 e.l,cells_at (cells_block fEV) (i := 2) rfl,?_⟩
       refine ⟨l,by rw [← hle],hll,?_⟩
       refine SatR.mono hst ?_
       rintro _ S hS
       refine ⟨((k + 1 : Nat) : Int),(wrap_i64 (by omega)).trans (by omega),?_⟩
       exact ⟨(k + 1,W.set l (y.1 ++ [k],p2,c2)),⟨.cons rfl (.cons rfl (.cons rfl (.cons rfl .nil))),rfl⟩,⟨hkl,hS⟩,hsz⟩
      ·refine ⟨u8 e.l,cells_at (cells_block fEA) (i := 2) rfl,?_⟩
       refine app fun p2 c2 V ⟨⟨hmV,fEV⟩,hst⟩ => ?_
       refine ⟨l,by rw [← hle],hll,?_⟩
       refine SatR.mono hst ?_
       rintro _ S hS
       refine ⟨((k + 1 : Nat) : Int),(wrap_i64 (by omega)).trans (by omega),?_⟩
       exact ⟨(k + 1,W.set l (y.1 ++ [k],p2,c2)),⟨.cons rfl (.cons rfl (.cons rfl (.cons rfl .nil))),rfl⟩,⟨hkl,hS⟩,hsz⟩
     ·refine ⟨u8 e.l,cells_at (cells_block fEA) (i := 2) rfl,?_⟩
      refine And.intro ?_ ?_
      ·refine app fun p2 c2 V ⟨⟨hmV,fEV⟩,hst⟩ => ?_
       refine ⟨_,mixH_at hmV (i := 2) rfl,?_⟩
       refine ⟨l,by rw [← hle],hll,?_⟩
       refine SatR.mono hst ?_
       rintro _ S hS
       refine ⟨((k + 1 : Nat) : Int),(wrap_i64 (by omega)).trans (by omega),?_⟩
       exact ⟨(k + 1,W.set l (y.1 ++ [k],p2,c2)),⟨.cons rfl (.cons rfl (.cons rfl (.cons rfl .nil))),rfl⟩,⟨hkl,hS⟩,hsz⟩
      ·refine ⟨_,mixH_at hmA (i := 2) rfl,?_⟩
       refine app fun p2 c2 V ⟨⟨hmV,fEV⟩,hst⟩ => ?_
       refine ⟨l,by rw [← hle],hll,?_⟩
       refine SatR.mono hst ?_
       rintro _ S hS
       refine ⟨((k + 1 : Nat) : Int),(wrap_i64 (by omega)).trans (by omega),?_⟩
       exact ⟨(k + 1,W.set l (y.1 ++ [k],p2,c2)),⟨.cons rfl (.cons rfl (.cons rfl (.cons rfl .nil))),rfl⟩,⟨hkl,hS⟩,hsz⟩
    ·refine ⟨_,mixH_at (hdr hmY) (i := 2) rfl,?_⟩
     refine And.intro ?_ ?_
     ·refine ⟨⟨by decide,by decide,rfl⟩,natE.enc k,rfl,?_⟩
      refine ⟨hba,?_⟩
      refine And.intro ?_ ?_
      ·refine app fun p2 c2 V ⟨⟨hmV,fEV⟩,hst⟩ => ?_
       refine ⟨u8 e.l,cells_at (cells_block fEV) (i := 2) rfl,?_⟩
       refine ⟨l,by rw [← hle],hll,?_⟩
       refine SatR.mono hst ?_
       rintro _ S hS
       refine ⟨((k + 1 : Nat) : Int),(wrap_i64 (by omega)).trans (by omega),?_⟩
       exact ⟨(k + 1,W.set l (y.1 ++ [k],p2,c2)),⟨.cons rfl (.cons rfl (.cons rfl (.cons rfl .nil))),rfl⟩,⟨hkl,hS⟩,hsz⟩
      ·refine ⟨u8 e.l,cells_at (cells_block fEA) (i := 2) rfl,?_⟩
       refine app fun p2 c2 V ⟨⟨hmV,fEV⟩,hst⟩ => ?_
       refine ⟨l,by rw [← hle],hll,?_⟩
       refine SatR.mono hst ?_
       rintro _ S hS
       refine ⟨((k + 1 : Nat) : Int),(wrap_i64 (by omega)).trans (by omega),?_⟩
       exact ⟨(k + 1,W.set l (y.1 ++ [k],p2,c2)),⟨.cons rfl (.cons rfl (.cons rfl (.cons rfl .nil))),rfl⟩,⟨hkl,hS⟩,hsz⟩
     ·refine ⟨u8 e.l,cells_at (cells_block (hdr fY)) (i := 2) rfl,?_⟩
      refine ⟨⟨by decide,by decide,rfl⟩,natE.enc k,rfl,?_⟩
      refine ⟨hba,?_⟩
      refine app fun p2 c2 V ⟨⟨hmV,fEV⟩,hst⟩ => ?_
      refine ⟨l,by rw [← hle],hll,?_⟩
      refine SatR.mono hst ?_
      rintro _ S hS
      refine ⟨((k + 1 : Nat) : Int),(wrap_i64 (by omega)).trans (by omega),?_⟩
      exact ⟨(k + 1,W.set l (y.1 ++ [k],p2,c2)),⟨.cons rfl (.cons rfl (.cons rfl (.cons rfl .nil))),rfl⟩,⟨hkl,hS⟩,hsz⟩
    ·refine ⟨u8 e.l,cells_at (cells_block (hdr fY)) (i := 2) rfl,?_⟩
     refine And.intro ?_ ?_
     ·refine ⟨⟨by decide,by decide,rfl⟩,natE.enc k,rfl,?_⟩
      refine ⟨hba,?_⟩
      refine And.intro ?_ ?_
      ·refine app fun p2 c2 V ⟨⟨hmV,fEV⟩,hst⟩ => ?_
       refine ⟨_,mixH_at hmV (i := 2) rfl,?_⟩
       refine ⟨l,by rw [← hle],hll,?_⟩
       refine SatR.mono hst ?_
       rintro _ S hS
       refine ⟨((k + 1 : Nat) : Int),(wrap_i64 (by omega)).trans (by omega),?_⟩
       exact ⟨(k + 1,W.set l (y.1 ++ [k],p2,c2)),⟨.cons rfl (.cons rfl (.cons rfl (.cons rfl .nil))),rfl⟩,⟨hkl,hS⟩,hsz⟩
      ·refine ⟨_,mixH_at hmA (i := 2) rfl,?_⟩
       refine app fun p2 c2 V ⟨⟨hmV,fEV⟩,hst⟩ => ?_
       refine ⟨l,by rw [← hle],hll,?_⟩
       refine SatR.mono hst ?_
       rintro _ S hS
       refine ⟨((k + 1 : Nat) : Int),(wrap_i64 (by omega)).trans (by omega),?_⟩
       exact ⟨(k + 1,W.set l (y.1 ++ [k],p2,c2)),⟨.cons rfl (.cons rfl (.cons rfl (.cons rfl .nil))),rfl⟩,⟨hkl,hS⟩,hsz⟩
     ·refine ⟨_,mixH_at (hdr hmY) (i := 2) rfl,?_⟩
      refine ⟨⟨by decide,by decide,rfl⟩,natE.enc k,rfl,?_⟩
      refine ⟨hba,?_⟩
      refine app fun p2 c2 V ⟨⟨hmV,fEV⟩,hst⟩ => ?_
      refine ⟨l,by rw [← hle],hll,?_⟩
      refine SatR.mono hst ?_
      rintro _ S hS
      refine ⟨((k + 1 : Nat) : Int),(wrap_i64 (by omega)).trans (by omega),?_⟩
      exact ⟨(k + 1,W.set l (y.1 ++ [k],p2,c2)),⟨.cons rfl (.cons rfl (.cons rfl (.cons rfl .nil))),rfl⟩,⟨hkl,hS⟩,hsz⟩
   ·have h : ¬ e.k = 2 := fun e' => of_decide_eq_false h (by rw [e']; rfl)
    rw [if_neg h] at hacc
    refine ⟨((k + 1 : Nat) : Int),(wrap_i64 (by omega)).trans (by omega),?_⟩
    exact ⟨(k + 1,W),⟨.cons rfl (.cons rfl (.cons rfl (.cons rfl .nil))),rfl⟩,⟨hkl,hmY,fBY,gY,hWl,hacc,hRY,fun y hy => ⟨by have := (hL y hy).1; show _ ≤ k + 1; omega,(hL y hy).2⟩⟩,by show x.ev.length - (k + 1) < x.ev.length - k; omega⟩
  ·have hc : ¬ (k : Int) < (x.ev.length : Int) := of_decide_eq_false hc
   obtain rfl : k = x.ev.length := by omega
   rw [List.drop_length] at hacc
   exact ⟨W,⟨.cons rfl .nil,rfl⟩,hmZ,fZ,gZ,hWl,hacc,hR,fun y hy => ⟨by have := (hL y hy).1; omega,(hL y hy).2⟩⟩
 rintro W X ⟨hmX,fX,gX,hWl,hwr,hR,hWb⟩
 refine ⟨_,mixH_ev hmX,?_⟩
 obtain ⟨RS,hRS⟩ : ∃ RS,RS = (choiceR x locs).rs := ⟨_,rfl⟩
 have hRSg : RS = rdsG x.ev (W.map (·.1)) 0 x.ev := by rw [hRS,hwr]; rfl
 rw [← hRS,← hwr]
 have sX : B < X.heap.size := hlt fX
 refine ⟨Nat × List (Nat × List Nat) × List NatL × (Option Addr × Nat) × (Option Addr × Nat),fun s => ⟨[(0,At0 b),(53,.slice q x.ev.length c),(54,i64 x.ev.length),(55,i64 (s.1 : Nat))],[]⟩,
  fun s Z => s.1 ≤ x.ev.length ∧ RS = s.2.1 ++ rdsG x.ev (W.map (·.1)) s.1 (x.ev.drop s.1) ∧ s.2.1.length ≤ s.1 ∧ s.2.2.1.map (·.1) = s.2.1.map (·.2) ∧ MixH Z b x q c [.slice s.2.2.2.1.1 (s.2.1.map (·.1)).length s.2.2.2.1.2,.slice s.2.2.2.2.1 s.2.2.1.length s.2.2.2.2.2,.slice (some ⟨B,0,none⟩) locs locs] ∧ RowLH Z B W ∧ w.grownBy Z (some b) ∧ (∀ y ∈ W,OwnS natE 3 B Z y.2.1 y.2.2 y.1) ∧ (∀ y ∈ s.2.2.1,OwnS natE 3 B Z y.2.1 y.2.2 y.1) ∧
   OwnS natE 3 B Z s.2.2.2.1.1 s.2.2.2.1.2 (s.2.1.map (·.1)) ∧ OwnS natLE 95 B Z s.2.2.2.2.1 s.2.2.2.2.2 s.2.2.1 ∧ (∀ a,s.2.2.2.1.1 = some a → ∀ y,y ∈ s.2.2.1 ∨ y ∈ W → ∀ b',y.2.1 = some b' → a.block ≠ b'.block) ∧ (∀ a,s.2.2.2.2.1 = some a → a.block ≠ B),
  fun s => x.ev.length - s.1,(0,[],[],(none,0),(none,0)),
  ⟨.cons rfl (.cons rfl (.cons rfl (.cons rfl .nil))),rfl⟩,⟨Nat.zero_le _,hRSg,Nat.le_refl _,rfl,hmX,fX,gX,hR.own,fun y hy => (by cases hy),OwnS.nil,OwnS.nil,fun a ha => (by cases ha),fun a ha => (by cases ha)⟩,?_⟩
 clear hmX fX gX hR sX
 rintro ⟨k,dn,xs,⟨p1,c1⟩,⟨p2,c2⟩⟩ Z ⟨hk,hspec,hdl,hxs,hmZ,fZ,gZ,hWo,hxo,ho1,ho2,hd1,hd2⟩
 dsimp only at hk hspec hdl hxs hmZ hxo ho1 ho2 hd1 hd2 ⊢
 refine And.intro (fun hc => ?_) (fun hc => ?_)
 ·have hc : (k : Int) < (x.ev.length : Int) := of_decide_eq_true hc
  have hkl : k < x.ev.length := by omega
  obtain ⟨e,he⟩ : ∃ e,x.ev[k] = e := ⟨_,rfl⟩
  have hem : e ∈ x.ev := by rw [← he]; exact List.getElem_mem hkl
  rw [← List.getElem_cons_drop hkl,he] at hspec
  have hlZ := ev_in hl hqb gZ
  obtain ⟨bp,op,hqe,hlp,hat⟩ := hlZ.at hkl
  subst hqe
  refine ⟨k,rfl,hkl,?_⟩
  refine ⟨evE.enc e,rfl,by rw [← he]; exact hat k hkl,hlp,?_⟩
  refine store_new (X := Z) (v := .agg (evE.enc e).toArray) (ttOk.get 52 _ rfl) rfl rfl (List.all_eq_true.2 fun u hu => evE.one e u hu) fun Y hbY fY sY => ?_
  have gY := grown_trans gZ (grown_of_below (row := some b) hbY)
  have hmY := block_below hbY hmZ
  have fBY := block_below hbY fZ
  have fY : Y.heap[Z.heap.size]? = some (.cells (evE.enc e).toArray 52 (0,0)) := fY
  refine ⟨u8 e.k,cells_at (cells_block fY) (i := 1) rfl,?_⟩
  refine And.intro (fun h => ?_) (fun h => ?_)
  ·have h : ¬ e.k = 1 := fun e' => by
    rw [e'] at h
    exact absurd h (by decide)
   have hspec : RS = dn ++ (if e.k = 1 then (k,((W.map (·.1)).getD e.l.toNat []).filter fun w => decide ((x.ev.getD w ev0).v = e.v)) :: rdsG x.ev (W.map (·.1)) (k + 1) (x.ev.drop (k + 1)) else rdsG x.ev (W.map (·.1)) (k + 1) (x.ev.drop (k + 1))) := hspec
   rw [if_neg h] at hspec
   refine ⟨((k + 1 : Nat) : Int),(wrap_i64 (by omega)).trans (by omega),?_⟩
   exact ⟨(k + 1,dn,xs,(p1,c1),(p2,c2)),⟨.cons rfl (.cons rfl (.cons rfl (.cons rfl .nil))),rfl⟩,⟨hkl,hspec,by show dn.length ≤ k + 1; omega,hxs,hmY,fBY,gY,fun y hy => (hWo y hy).below hbY,fun y hy => (hxo y hy).below hbY,ho1.below hbY,ho2.below hbY,hd1,hd2⟩,by show x.ev.length - (k + 1) < x.ev.length - k; omega⟩
  ·have h1 : decide ((e.k.toNat : Int) = 1) = true := by simpa using h
   have h : e.k = 1 := u8_eq.1 (of_decide_eq_true h1)
   obtain ⟨l,hle⟩ : ∃ l,e.l.toNat = l := ⟨_,rfl⟩
   have hll : l < locs := by rw [← hle]; exact hv e hem (.inl h)
   have hlW : l < W.length := by omega
   obtain ⟨y,hy⟩ : ∃ y,W[l]? = some y := ⟨_,List.getElem?_eq_getElem hlW⟩
   have hym : y ∈ W := List.mem_of_getElem? hy
   have hgd : (W.map (·.1)).getD l [] = y.1 := by rw [List.getD_eq_getElem?_getD,List.getElem?_map,hy]; rfl
   obtain ⟨P,hP⟩ : ∃ P : Nat → Bool,P = fun w => decide ((x.ev.getD w ev0).v = e.v) := ⟨_,rfl⟩
   have hspec : RS = dn ++ (k,y.1.filter P) :: rdsG x.ev (W.map (·.1)) (k + 1) (x.ev.drop (k + 1)) := by
    have hspec : RS = dn ++ (if e.k = 1 then (k,((W.map (·.1)).getD e.l.toNat []).filter fun w => decide ((x.ev.getD w ev0).v = e.v)) :: rdsG x.ev (W.map (·.1)) (k + 1) (x.ev.drop (k + 1)) else rdsG x.ev (W.map (·.1)) (k + 1) (x.ev.drop (k + 1))) := hspec
    rw [if_pos h,hle,hgd,← hP] at hspec
    exact hspec
   obtain ⟨hy48,hyb⟩ := hWb y hym
   have hyo := (hWo y hym).below hbY
   have hrl : (rowL W)[l]? = some (slV y) := by unfold rowL; rw [List.getElem?_map,hy]; rfl
   have hd : Below Y.heap.size Y Y.drew := (Below.refl _ Y).drew
   refine DrawE.ord [] [0,1,2,3,4,5,6,7,8,9] (by kernel_rfl) ?_
   refine ⟨_,mixH_at (hdr hmY) (i := 2) rfl,?_⟩
   refine ⟨u8 e.l,cells_at (cells_block (hdr fY)) (i := 2) rfl,?_⟩
   refine ⟨l,by rw [← hle],hll,?_⟩
   refine ⟨slV y,by have := cells_at (cells_block (hdr fBY)) (i := l * 1) (v := slV y) (by rw [Nat.mul_one]; exact hrl); exact this,?_⟩
   obtain ⟨M,hM⟩ : ∃ M,M = Y.heap.size := ⟨_,rfl⟩
   refine ⟨Nat × List Nat × Option Addr × Nat,fun s => ⟨[(0,At0 b),(6,i64 (k : Nat)),(7,At0 Z.heap.size),(8,.slice s.2.2.1 s.2.1.length s.2.2.2),(53,.slice (some ⟨bp,op,none⟩) x.ev.length c),(54,i64 x.ev.length),(55,i64 (k : Nat)),(70,slV y),(71,i64 y.1.length),(72,i64 (s.1 : Nat))],[]⟩,
    fun s V => s.1 ≤ y.1.length ∧ s.2.1 = (y.1.take s.1).filter P ∧ OwnS natE 3 M V s.2.2.1 s.2.2.2 s.2.1 ∧ Below M Y V,fun s => y.1.length - s.1,(0,[],none,0),
    ⟨.cons rfl (.cons rfl (.cons rfl (.cons rfl (.cons rfl (.cons rfl (.cons rfl (.cons rfl (.cons rfl (.cons rfl .nil))))))))),rfl⟩,⟨Nat.zero_le _,rfl,OwnS.nil,by rw [hM]; exact hd⟩,?_⟩
   rintro ⟨i,fr,p3,c3⟩ V ⟨hi,hfr,hoV,hbV⟩
   dsimp only at hi hfr hoV ⊢
   have sV := hbV.size
   have hmV := (hbV.block b (by have := hlt hmY; omega)).trans hmY
   have fEV := (hbV.block Z.heap.size (by have := hlt fY; omega)).trans fY
   have fBV := (hbV.block B (by have := hlt fBY; omega)).trans fBY
   have hbYV : Below Y.heap.size Y V := by rw [hM] at hbV; exact hbV
   have hyoV := hyo.below hbYV
   have hfl : fr.length ≤ i := by rw [hfr]; exact Nat.le_trans (List.length_filter_le _ _) (by rw [List.length_take]; exact Nat.min_le_left _ _)
   refine And.intro (fun hc => ?_) (fun hc => ?_)
   ·have hc : (i : Int) < (y.1.length : Int) := of_decide_eq_true hc
    have hil : i < y.1.length := by omega
    have hyi := hyb y.1[i] (List.getElem_mem hil)
    have hlV := ev_in hl hqb (grown_then gY (hbV.mono (by have := gY.size; omega)))
    obtain ⟨by_,oy,hye,hly,haty⟩ := hyoV.row.at hil
    obtain ⟨bq,oq,hqe,hlq,hatq⟩ := hlV.at hyi
    simp only [Option.some.injEq,Addr.mk.injEq,and_true] at hqe
    obtain ⟨rfl,rfl⟩ := hqe
    have htk : (y.1.take (i + 1)).filter P = fr ++ (if P y.1[i] then [y.1[i]] else []) := by
     rw [List.take_succ_eq_append_getElem hil,List.filter_append,hfr]
     cases hPi : P y.1[i] <;> simp [hPi]
    have hPv : P y.1[i] = decide (x.ev[y.1[i]].v = e.v) := by
     rw [hP]
     show decide ((x.ev.getD y.1[i] ev0).v = e.v) = _
     rw [List.getD_eq_getElem?_getD,List.getElem?_eq_getElem hyi]; rfl
    rw [show slV y = .slice (some ⟨by_,oy,none⟩) y.1.length y.2.2 by unfold slV; rw [hye]]
    refine ⟨i,rfl,hil,?_⟩
    refine ⟨i64 y.1[i],cells_at (haty i hil) (i := 0) rfl,?_⟩
    refine DrawE.ord [] [0,1,2,3,4,5,6,7,8,9,10,11] (by kernel_rfl) ?_
    refine ⟨_,mixH_ev (hdr hmV),?_⟩
    refine ⟨y.1[i],rfl,hyi,?_⟩
    have hdV : Below V.heap.size V V.drew := (Below.refl _ V).drew
    refine ⟨u8 x.ev[y.1[i]].v,by have := cells_at (cells_below hdV (hatq y.1[i] hyi)) (i := 3) (v := u8 x.ev[y.1[i]].v) rfl; exact this,?_⟩
    refine ⟨u8 e.v,cells_at (cells_block (hdr fEV)) (i := 3) rfl,?_⟩
    refine And.intro (fun hq => ?_) (fun hq => ?_)
    ·have hq : x.ev[y.1[i]].v = e.v := u8_eq.1 (of_decide_eq_true hq)
     rw [hPv,decide_eq_true hq,if_pos rfl] at htk
     refine ⟨⟨by decide,by decide,rfl⟩,natE.enc y.1[i],rfl,?_⟩
     have hba : Below V.drew.heap.size V.drew (V.drew.alloc (.cells (natE.enc y.1[i]).toArray 3)) := (Below.refl _ _).alloc (Nat.le_refl _) _
     refine app_own (E := natE) (T := 3) (B := M) (l := fr) (news := [y.1[i]]) (cap := c3) (m := 1) Tryz.underlying95 (ttOk.get 3 _ rfl) rfl rfl rfl (hoV.below (hdV.trans hba)) rfl (one_new natE y.1[i]) (by have := hba.size; have := hdV.size; omega) (by omega) (by show (fr.length + 1) * 8 ≤ _; omega) ?_
     intro p4 c4 U oU gU hbU hat4
     refine ⟨((i + 1 : Nat) : Int),(wrap_i64 (by omega)).trans (by omega),?_⟩
     refine ⟨(i + 1,fr ++ [y.1[i]],p4,c4),⟨.cons rfl (.cons rfl (.cons rfl (.cons rfl (.cons rfl (.cons rfl (.cons rfl (.cons rfl (.cons rfl (.cons rfl .nil))))))))),rfl⟩,⟨hil,htk.symm,oU,?_⟩,by show y.1.length - (i + 1) < y.1.length - i; omega⟩
     exact ((hbV.trans (hdV.mono (by omega))).trans (hba.mono (by have := hdV.size; omega))).trans hbU
    ·have hq : ¬ x.ev[y.1[i]].v = e.v := fun e' => of_decide_eq_false hq (by rw [e'])
     rw [hPv,decide_eq_false hq] at htk
     simp only [Bool.false_eq_true,if_false,List.append_nil] at htk
     refine ⟨((i + 1 : Nat) : Int),(wrap_i64 (by omega)).trans (by omega),?_⟩
     exact ⟨(i + 1,fr,p3,c3),⟨.cons rfl (.cons rfl (.cons rfl (.cons rfl (.cons rfl (.cons rfl (.cons rfl (.cons rfl (.cons rfl (.cons rfl .nil))))))))),rfl⟩,⟨hil,htk.symm,hoV.below hdV,hbV.trans (hdV.mono (by omega))⟩,by show y.1.length - (i + 1) < y.1.length - i; omega⟩
   ·have hc : ¬ (i : Int) < (y.1.length : Int) := of_decide_eq_false hc
    obtain rfl : i = y.1.length := by omega
    rw [List.take_length] at hfr
    have hbMB : B ≤ M := by have := hlt fBY; omega
    have hxlen : xs.length = dn.length := by
     have := congrArg List.length hxs
     simpa using this
    refine ⟨.slice p1 (dn.map (·.1)).length c1,mixH_at hmV (i := 0) rfl,?_⟩
    refine ⟨⟨by decide,by decide,rfl⟩,natE.enc k,rfl,?_⟩
    obtain ⟨V1,hV1⟩ : ∃ V1,V1 = V.alloc (.cells (natE.enc k).toArray 3) := ⟨_,rfl⟩
    have hb1 : Below V.heap.size V V1 := by rw [hV1]; exact (Below.refl _ _).alloc (Nat.le_refl _) _
    have s1 : V1.heap.size = V.heap.size + 1 := by rw [hV1]; exact World.size_alloc _ _
    have hZV : Below Z.heap.size Z V := hbY.trans (hbYV.mono hbY.size)
    have hZV1 : Below Z.heap.size Z V1 := hZV.trans (hb1.mono hZV.size)
    have ho1V := ho1.below hZV1
    rw [← hV1]
    refine appI ho1V (by rw [hV1]; exact one_new natE k) (by omega) (by rw [List.length_map]; omega) fun q1 d1 U oU gU hat1 => ?_
    rw [own_map] at gU
    have hmV1 := block_below hb1 hmV
    have hmU := box_past hmV1 ho1V (by decide) gU
    have fBU := box_past (block_below hb1 fBV) ho1V (by decide) gU
    refine store_one (ttOk.get 95 _ rfl) hmU (o := 0 + 333) (v := .slice q1 (dn.map (·.1) ++ [k]).length d1) rfl rfl (by rw [List.length_append,exC_len]; show 333 < 336; decide) rfl fun S fS gS sS => ?_
    rw [show 0 + 333 = 333 + 0 from rfl,mix_set] at fS
    have fS : MixH S b x (some ⟨bp,op,none⟩) c [.slice q1 (dn.map (·.1) ++ [k]).length d1,.slice p2 xs.length c2,.slice (some ⟨B,0,none⟩) locs locs] := fS
    have p1M : ∀ a,p1 = some a → a.block < M := fun a ha => by have := (own_at ho1 ha).2.1; have := hbY.size; omega
    have hoU : OwnS natE 3 M U p3 c3 fr := own_past (hoV.below hb1) gU fun a b' ha hb e => by have := p1M a ha; have := (own_at hoV hb).1; omega
    have hWU : ∀ y ∈ W,OwnS natE 3 B U y.2.1 y.2.2 y.1 := fun y hy => own_past ((hWo y hy).below hZV1) gU fun a b' ha hb => hd1 a ha y (.inr hy) b' hb
    have hxU : ∀ y ∈ xs,OwnS natE 3 B U y.2.1 y.2.2 y.1 := fun y hy => own_past ((hxo y hy).below hZV1) gU fun a b' ha hb => hd1 a ha y (.inl hy) b' hb
    have ho2U := own_pastT (ho2.below hZV1) ho1V (by decide) gU
    have hoS := own_box hoU hmU (by decide) gS
    have hWS : ∀ y ∈ W,OwnS natE 3 B S y.2.1 y.2.2 y.1 := fun y hy => own_box (hWU y hy) hmU (by decide) gS
    have hxS : ∀ y ∈ xs,OwnS natE 3 B S y.2.1 y.2.2 y.1 := fun y hy => own_box (hxU y hy) hmU (by decide) gS
    have ho2S := own_box ho2U hmU (by decide) gS
    have ho1S := own_box oU hmU (by decide) gS
    have hBb : B ≠ b := by omega
    have fBS := (gS.block B (hlt fBU) (by simp; omega)).trans fBU
    refine ⟨_,mixH_at fS (i := 1) rfl,?_⟩
    refine ⟨⟨by decide,by decide,rfl⟩,natLE.enc (fr,p3,c3),rfl,?_⟩
    obtain ⟨S1,hS1⟩ : ∃ S1,S1 = S.alloc (.cells (natLE.enc (fr,p3,c3)).toArray 95) := ⟨_,rfl⟩
    have hbS1 : Below S.heap.size S S1 := by rw [hS1]; exact (Below.refl _ _).alloc (Nat.le_refl _) _
    have sS1 : S1.heap.size = S.heap.size + 1 := by rw [hS1]; exact World.size_alloc _ _
    have ho2S1 := ho2S.below hbS1
    have sU := gU.size
    unfold opsE stepE
    show SatR _ _
    rw [← hS1]
    refine appL ho2S1 (by rw [hS1]; exact one_new natLE (fr,p3,c3)) (by omega) (by omega) fun q2 d2 N oN gN hat2 => ?_
    rw [own_map] at gN
    have fN := box_past (block_below hbS1 fS) ho2S1 (by decide) gN
    refine store_one (ttOk.get 131 _ rfl) fN (o := 0 + 334) (v := .slice q2 (xs ++ [(fr,p3,c3)]).length d2) rfl rfl (by rw [List.length_append,exC_len]; show 334 < 336; decide) rfl fun O fO gO sO => ?_
    rw [show 0 + 334 = 333 + 1 from rfl,mix_set] at fO
    have fO : MixH O b x (some ⟨bp,op,none⟩) c [.slice q1 ((dn ++ [(k,fr)]).map (·.1)).length d1,.slice q2 (xs ++ [(fr,p3,c3)]).length d2,.slice (some ⟨B,0,none⟩) locs locs] := by
     rw [List.map_append]; exact fO
    have step : ∀ {q : Option Addr} {cc : Nat} {ll : List Nat} {B' : Nat},OwnS natE 3 B' S q cc ll → OwnS natE 3 B' O q cc ll := fun h =>
     own_box (own_pastT (h.below hbS1) ho2S1 (by decide) gN) fN (by decide) gO
    have h2B : ∀ a,p2 = some a → a.block ≠ B := hd2
    have fBO : RowLH O B W := by
     have h1 := block_below hbS1 fBS
     have h2 := (gN.block B (hlt h1) fun e => by
      cases hp : p2 with
      | none => rw [hp] at e; cases e
      | some a =>
       rw [hp] at e
       simp only [Option.map_some,Option.some.injEq] at e
       exact hd2 a hp e.symm).trans h1
     exact (gO.block B (hlt h2) (by simp; omega)).trans h2
    have newr : ∀ a,q1 = some a → p1 = some a ∨ V.heap.size ≤ a.block := fun a ha => (hat1 a ha).imp id fun h => by omega
    have new2 : ∀ a,q2 = some a → p2 = some a ∨ U.heap.size ≤ a.block := fun a ha => (hat2 a ha).imp id fun h => by omega
    have frM : ∀ a,p3 = some a → M ≤ a.block ∧ a.block < V.heap.size := fun a ha => ⟨(own_at hoV ha).1,(own_at hoV ha).2.1⟩
    have hwb : w.grownBy O (some b) := by
     have sG := gS.size
     have sZ := hlt fZ
     have e0 : Below B Z V1 := hZV1.mono (by omega)
     have e1 : Below B V1 U := past_below ho1V (by omega) (Nat.le_refl _) gU
     have e2 : Below B S S1 := hbS1.mono (by omega)
     have e3 : Below B S1 N := past_below ho2S1 (by omega) (Nat.le_refl _) gN
     rw [hB] at e0 e1 e2 e3
     exact grown_trans (grown_then (grown_then (grown_trans (grown_then (grown_then gZ e0) e1) gS) e2) e3) gO
    refine ⟨((k + 1 : Nat) : Int),(wrap_i64 (by omega)).trans (by omega),?_⟩
    refine ⟨(k + 1,dn ++ [(k,fr)],xs ++ [(fr,p3,c3)],(q1,d1),(q2,d2)),⟨.cons rfl (.cons rfl (.cons rfl (.cons rfl .nil))),rfl⟩,⟨hkl,?_,?_,?_,fO,fBO,hwb,fun y hy => step (hWS y hy),fun y hy => ?_,?_,own_box oN fN (by decide) gO,fun a ha y hy b' hb' => ?_,fun a ha => ?_⟩,by show x.ev.length - (k + 1) < x.ev.length - k; omega⟩
    ·show RS = (dn ++ [(k,fr)]) ++ _
     rw [hspec,← hfr,List.append_assoc]; rfl
    ·show (dn ++ [(k,fr)]).length ≤ k + 1
     simp only [List.length_append,List.length_cons,List.length_nil]; omega
    ·show (xs ++ [(fr,p3,c3)]).map (·.1) = (dn ++ [(k,fr)]).map (·.2)
     rw [List.map_append,List.map_append,hxs]; rfl
    ·rcases List.mem_append.1 hy with hy | hy
     ·exact step (hxS y hy)
     ·rw [List.mem_singleton.1 hy]
      exact step (hoS.lower hbMB)
    ·show OwnS natE 3 B O q1 d1 ((dn ++ [(k,fr)]).map (·.1))
     rw [List.map_append]
     exact step ho1S
    ·have old : (y ∈ xs ∨ y ∈ W) ∨ y = (fr,p3,c3) := by
      rcases hy with hy | hy
      ·rcases List.mem_append.1 hy with hy | hy
       ·exact .inl (.inl hy)
       ·exact .inr (List.mem_singleton.1 hy)
      ·exact .inl (.inr hy)
     rcases old with hy | rfl
     ·rcases newr a ha with h | h
      ·exact hd1 a h y hy b' hb'
      ·have : b'.block < Z.heap.size := by
        rcases hy with hy | hy
        ·exact (own_at (hxo y hy) hb').2.1
        ·exact (own_at (hWo y hy) hb').2.1
       have := hZV.size
       omega
     ·have h3 := frM b' hb'
      rcases newr a ha with h | h
      ·have := p1M a h; omega
      ·omega
    ·rcases new2 a ha with h | h
     ·exact hd2 a h
     ·omega
 ·have hc : ¬ (k : Int) < (x.ev.length : Int) := of_decide_eq_false hc
  obtain rfl : k = x.ev.length := by omega
  rw [List.drop_length] at hspec
  have hspec : RS = dn ++ [] := hspec
  rw [List.append_nil] at hspec
  subst hspec
  refine ⟨rfl,⟨p1,p2,some ⟨B,0,none⟩,c1,c2,locs,xs,W,by rw [hWl]; rw [List.length_map] at hmZ; exact hmZ,by rw [← hB]; exact ho1,hxs,by rw [← hB]; exact ho2,by rw [← hB]; exact hxo,rfl,?_,by rw [← hB]; exact hWo⟩,gZ⟩
  rw [← hB]
  have := fZ.own (B := B) (Nat.le_refl _) (by unfold maxLen; omega)
  rw [hWl] at this
  exact this
end
end Go.Proofs.YtkpcgpmimejimaaGreatDoor
namespace Go.Proofs.YtkpcgpmimejimaaGreatDoor
open Go.Vc Go.RowKit Go.Sei
theorem min_i64 {P : Program} {w : World} {t ty : TypeId} {a b : Nat} {K : Value → World → Prop} (k : K (i64 (min a b : Nat)) w) : SatR ((Builtin.min_ #[t,t] ty #[i64 a,i64 b]).run P w) K := by
 refine SatR.mk (v := i64 (min a b : Nat)) (w' := w) ?_ k
 by_cases h : (b : Int) < a
 ·have e : min a b = b := Nat.min_eq_right (by omega)
  rw [e]
  simp [Builtin.min_,Builtin.min2,i64,h]
 ·have e : min a b = a := Nat.min_eq_left (by omega)
  rw [e]
  simp [Builtin.min_,Builtin.min2,i64,h]
section
variable {b o : Nat} {x : ExD} {q : Option Addr} {c : Nat} {w : World} {r : Value} {p2 p3 : Option Addr} {c2 c3 lim : Nat} {xs ys : List NatL}
def cntF (lim : Nat) (fs ws : List (List Nat)) : Nat := match cntS lim fs 1 with
 | none => 0
 | some n => cntW lim ws n
theorem count_c (hm : Cells w ⟨b,o,none⟩ (exC x q c ++ [r,.slice p2 xs.length c2,.slice p3 ys.length c3])) (h2 : SlR natLE w p2 xs) (h3 : SlR natLE w p3 ys) (hx : ∀ y ∈ xs,y.1.length ≤ 1000) (hy : ∀ y ∈ ys,y.1.length ≤ 1000) (hxl : xs.length ≤ 1000) (hyl : ys.length ≤ 1000) (hl0 : 1 ≤ lim) (hl : lim ≤ 100000) :
  Calls Tryz.prog 76 #[.pointer (some ⟨b,o,none⟩),i64 lim] w fun e w' => e = .returned (i64 (cntF lim (xs.map (·.1)) (ys.map (·.1)) : Nat)) ∧ w = w' := by
 refine calls_of_E (S := sg 52) (sgOk _) (args := [.pointer (some ⟨b,o,none⟩),i64 lim]) Tryz.func76 rfl rfl (Nat.le_of_ble_eq_true rfl) rfl ?_
 have g2 : w.cell? ⟨b,o + 334,none⟩ = some (.slice p2 xs.length c2) := cells_at hm (mix_get (i := 1) rfl)
 have g3 : w.cell? ⟨b,o + 335,none⟩ = some (.slice p3 ys.length c3) := cells_at hm (mix_get (i := 2) rfl)
 refine ⟨_,g2,?_⟩
 obtain ⟨fs,hfs⟩ : ∃ fs,fs = xs.map (·.1) := ⟨_,rfl⟩
 have hfl : fs.length = xs.length := by rw [hfs,List.length_map]
 rw [← hfs]
 refine ⟨Nat × Nat,fun s => ⟨[(0,.pointer (some ⟨b,o,none⟩)),(1,i64 lim),(5,i64 (s.2 : Nat)),(14,.slice p2 xs.length c2),(15,i64 xs.length),(16,i64 (s.1 : Nat))],[]⟩,
  fun s X => s.1 ≤ xs.length ∧ s.2 ≤ lim ∧ cntS lim (fs.drop s.1) s.2 = cntS lim fs 1 ∧ w = X,fun s => xs.length - s.1,(0,1),
  ⟨.cons rfl (.cons rfl (.cons rfl (.cons rfl (.cons rfl (.cons rfl .nil))))),rfl⟩,⟨Nat.zero_le _,hl0,rfl,rfl⟩,?_⟩
 rintro ⟨k,n⟩ _ ⟨hk,hnl,hacc,rfl⟩
 dsimp only at hk hnl hacc ⊢
 refine And.intro (fun hc => ?_) (fun hc => ?_)
 ·have hc : (k : Int) < (xs.length : Int) := of_decide_eq_true hc
  have hkl : k < xs.length := by omega
  obtain ⟨bp,op,rfl,hlp,hat⟩ := h2.at hkl
  have hfk : fs[k]'(by omega) = xs[k].1 := by simp [hfs]
  rw [← List.getElem_cons_drop (show k < fs.length by omega),hfk] at hacc
  have hacc : (if xs[k].1 = [] then none else cntS lim (fs.drop (k + 1)) (min (n * xs[k].1.length) lim)) = cntS lim fs 1 := hacc
  have h1000 := hx xs[k] (List.getElem_mem hkl)
  refine ⟨k,rfl,hkl,?_⟩
  refine ⟨slV xs[k],cells_at (hat k hkl) (i := 0) rfl,?_⟩
  refine And.intro (fun h => ?_) (fun h => ?_)
  ·have h : (xs[k].1.length : Int) = 0 := of_decide_eq_true h
   have h0 : xs[k].1 = [] := List.eq_nil_of_length_eq_zero (by omega)
   rw [if_pos h0] at hacc
   refine ⟨?_,rfl⟩
   unfold cntF
   rw [← hacc]; rfl
  ·have h : ¬ (xs[k].1.length : Int) = 0 := of_decide_eq_false h
   have h0 : xs[k].1 ≠ [] := fun e => h (by rw [e]; rfl)
   rw [if_neg h0] at hacc
   have hm' : n * xs[k].1.length ≤ 100000 * 1000 := Nat.mul_le_mul (by omega) h1000
   refine ⟨((n * xs[k].1.length : Nat) : Int),by rw [Int.natCast_mul]; exact wrap_i64 (by rw [← Int.natCast_mul]; omega),?_⟩
   refine min_i64 ?_
   refine ⟨((k + 1 : Nat) : Int),(wrap_i64 (by omega)).trans (by omega),?_⟩
   exact ⟨(k + 1,min (n * xs[k].1.length) lim),⟨.cons rfl (.cons rfl (.cons rfl (.cons rfl (.cons rfl (.cons rfl .nil))))),rfl⟩,⟨hkl,Nat.min_le_right _ _,hacc,rfl⟩,by show xs.length - (k + 1) < xs.length - k; omega⟩
 have hc : ¬ (k : Int) < (xs.length : Int) := of_decide_eq_false hc
 rw [List.drop_eq_nil_of_le (by omega)] at hacc
 have hacc : some n = cntS lim fs 1 := hacc
 have hres : cntF lim fs (ys.map (·.1)) = cntW lim (ys.map (·.1)) n := by unfold cntF; rw [← hacc]
 rw [hres]
 obtain ⟨ws,hws⟩ : ∃ ws,ws = ys.map (·.1) := ⟨_,rfl⟩
 have hwl : ws.length = ys.length := by rw [hws,List.length_map]
 rw [← hws]
 clear hres hacc hc hk hfl hfs g2
 refine ⟨_,g3,?_⟩
 refine ⟨Nat × Nat,fun s => ⟨[(0,.pointer (some ⟨b,o,none⟩)),(1,i64 lim),(5,i64 (s.2 : Nat)),(33,.slice p3 ys.length c3),(34,i64 ys.length),(35,i64 (s.1 : Nat))],[]⟩,
  fun s X => s.1 ≤ ys.length ∧ s.2 ≤ lim ∧ cntW lim (ws.drop s.1) s.2 = cntW lim ws n ∧ w = X,fun s => ys.length - s.1,(0,n),
  ⟨.cons rfl (.cons rfl (.cons rfl (.cons rfl (.cons rfl (.cons rfl .nil))))),rfl⟩,⟨Nat.zero_le _,hnl,rfl,rfl⟩,?_⟩
 rintro ⟨k,n'⟩ _ ⟨hk,hnl',hacc,rfl⟩
 dsimp only at hk hnl' hacc ⊢
 refine And.intro (fun hc => ?_) (fun hc => ?_)
 ·have hc : (k : Int) < (ys.length : Int) := of_decide_eq_true hc
  have hkl : k < ys.length := by omega
  obtain ⟨bp,op,rfl,hlp,hat⟩ := h3.at hkl
  have hfk : ws[k]'(by omega) = ys[k].1 := by simp [hws]
  rw [← List.getElem_cons_drop (show k < ws.length by omega),hfk] at hacc
  obtain ⟨L,hL⟩ : ∃ L,L = ys[k].1.length := ⟨_,rfl⟩
  have hacc : cntW lim (ws.drop (k + 1)) (cntK lim L L 2 n') = cntW lim ws n := by rw [hL]; exact hacc
  have h1000 := hy ys[k] (List.getElem_mem hkl)
  rw [← hL] at h1000
  refine ⟨k,rfl,hkl,?_⟩
  refine ⟨slV ys[k],cells_at (hat k hkl) (i := 0) rfl,?_⟩
  refine ⟨Nat × Nat × Nat,fun s => ⟨[(0,.pointer (some ⟨b,o,none⟩)),(1,i64 lim),(5,i64 (s.2.2 : Nat)),(9,slV ys[k]),(10,i64 (s.2.1 : Nat)),(33,.slice (some ⟨bp,op,none⟩) ys.length c3),(34,i64 ys.length),(35,i64 (k : Nat))],[]⟩,
   fun s X => s.2.2 ≤ lim ∧ L ≤ s.2.1 + s.1 ∧ s.2.1 ≤ L + 2 ∧ cntK lim L s.1 s.2.1 s.2.2 = cntK lim L L 2 n' ∧ w = X,fun s => s.1,(L,2,n'),
   ⟨.cons rfl (.cons rfl (.cons rfl (.cons rfl (.cons rfl (.cons rfl (.cons rfl (.cons rfl .nil))))))),rfl⟩,⟨hnl',by show L ≤ 2 + L; omega,by show 2 ≤ L + 2; omega,rfl,rfl⟩,?_⟩
  rintro ⟨m,j,n2⟩ _ ⟨hn2,hLj,hjL,hK,rfl⟩
  dsimp only at hn2 hLj hjL hK ⊢
  refine And.intro (fun hc => ?_) (fun hc => ?_)
  ·have hc : (j : Int) < (ys[k].1.length : Int) := of_decide_eq_true hc
   have hjl : j < L := by omega
   obtain ⟨m,rfl⟩ : ∃ m',m = m' + 1 := ⟨m - 1,by omega⟩
   have hK : (if j < L then cntK lim L m (j + 1) (min (n2 * j) lim) else n2) = cntK lim L L 2 n' := hK
   rw [if_pos hjl] at hK
   have hm' : n2 * j ≤ 100000 * 1000 := Nat.mul_le_mul (by omega) (by omega)
   refine ⟨((n2 * j : Nat) : Int),by rw [Int.natCast_mul]; exact wrap_i64 (by rw [← Int.natCast_mul]; omega),?_⟩
   refine min_i64 ?_
   refine ⟨((j + 1 : Nat) : Int),(wrap_i64 (by omega)).trans (by omega),?_⟩
   exact ⟨(m,j + 1,min (n2 * j) lim),⟨.cons rfl (.cons rfl (.cons rfl (.cons rfl (.cons rfl (.cons rfl (.cons rfl (.cons rfl .nil))))))),rfl⟩,⟨Nat.min_le_right _ _,by show L ≤ j + 1 + m; omega,by show j + 1 ≤ L + 2; omega,hK,rfl⟩,Nat.lt_succ_self _⟩
  ·have hc : ¬ (j : Int) < (ys[k].1.length : Int) := of_decide_eq_false hc
   have hjl : ¬ j < L := by omega
   have hK2 : n2 = cntK lim L L 2 n' := by
    rw [← hK]
    cases m with
    | zero => rfl
    | succ m =>
     show n2 = if j < L then _ else n2
     rw [if_neg hjl]
   refine ⟨((k + 1 : Nat) : Int),(wrap_i64 (by omega)).trans (by omega),?_⟩
   exact ⟨(k + 1,n2),⟨.cons rfl (.cons rfl (.cons rfl (.cons rfl (.cons rfl (.cons rfl .nil))))),rfl⟩,⟨hkl,hn2,by rw [hK2]; exact hacc,rfl⟩,by show ys.length - (k + 1) < ys.length - k; omega⟩
 ·have hc : ¬ (k : Int) < (ys.length : Int) := of_decide_eq_false hc
  rw [List.drop_eq_nil_of_le (by omega)] at hacc
  have hacc : n' = cntW lim ws n := hacc
  rw [← hacc]
  exact ⟨rfl,rfl⟩
end
end Go.Proofs.YtkpcgpmimejimaaGreatDoor
namespace Go.Proofs.YtkpcgpmimejimaaGreatDoor
open Go.Vc Go.RowKit Go.Sei
theorem ztex_len : (zt34).toArray.size = 333 := by kernel_rfl
theorem ztmix_len : (zt133).toArray.size = 336 := by kernel_rfl
section
variable {w : World}
theorem empty_c {n : Nat} : Calls Tryz.prog 133 #[i64 n] w fun e w' => e = .returned (.agg (exC (ex0 n) none 0).toArray) ∧ Below w.heap.size w w' := by
 refine calls_of_M (S := sg 13) (sgOk _) (args := [i64 n]) (.s .p (.c .p .p)) Tryz.func133 rfl rfl (Nat.le_of_ble_eq_true rfl) rfl ?_
 obtain ⟨L,hL⟩ : ∃ L,L = w.heap.size := ⟨_,rfl⟩
 obtain ⟨X0,hX0⟩ : ∃ X0,X0 = w.alloc (.cells (zt34).toArray 34) := ⟨_,rfl⟩
 have f0 : X0.heap[L]? = some (.cells (zt34).toArray 34 (0,0)) := by rw [hX0,hL]; exact hnew w _
 have s0 : X0.heap.size = L + 1 := by rw [hX0,hL]; exact World.size_alloc _ _
 have hb0 : Below w.heap.size w X0 := by rw [hX0]; exact (Below.refl _ w).alloc (Nat.le_refl _) _
 refine ⟨Unit,fun _ => ⟨[(2,At0 L),(3,At0 (L + 1))],[]⟩,fun _ X => X.heap[L]? = some (.cells (zt34).toArray 34 (0,0)) ∧ RelH X (L + 1) (relN n) ∧ Below w.heap.size w X,?_,?_⟩
 ·refine ⟨relC (relN n),rfl,?_⟩
  refine store_new (X := w.alloc (.cells (zt34).toArray 34 (0,0))) (v := .agg (relC (relN n)).toArray) (ttOk.get 27 _ rfl) (relC_len _) (by kernel_rfl) (relC_one _) fun V hbV fV sV => ?_
  rw [← hX0] at hbV fV sV
  rw [s0] at fV sV
  exact ⟨(),⟨.cons (by rw [hL]; rfl) (.cons (by rw [← s0,hX0]; rfl) .nil),rfl⟩,block_below hbV f0,fV,hb0.trans (hbV.mono hb0.size)⟩
 rintro _ X ⟨f1,f2,hbX⟩
 refine ⟨relC (relN n),relC_len _,cells_block f2,hlt f2,?_⟩
 refine ⟨relC (relN n),relC_len _,cells_block f2,hlt f2,?_⟩
 refine ⟨relC (relN n),relC_len _,cells_block f2,hlt f2,?_⟩
 refine ⟨relC (relN n),relC_len _,cells_block f2,hlt f2,?_⟩
 refine ⟨relC (relN n),relC_len _,cells_block f2,hlt f2,?_⟩
 refine ⟨relC (relN n),relC_len _,cells_block f2,hlt f2,?_⟩
 refine ⟨exC (ex0 n) none 0,by kernel_rfl,?_⟩
 refine store_box (v := .agg (exC (ex0 n) none 0).toArray) (ttOk.get 34 _ rfl) f1 (exC_len _ _ _) ztex_len (exC_one _ _ _) ?_
 exact ⟨exC (ex0 n) none 0,exC_len _ _ _,cells_block (setRow_new f1),rfl,below_setRow hbX (by omega) _⟩
end
end Go.Proofs.YtkpcgpmimejimaaGreatDoor
namespace Go.Proofs.YtkpcgpmimejimaaGreatDoor
open Go.Vc Go.RowKit Go.Sei
structure PathB (locs : Nat) (P : PathD) : Prop where
 ev : P.ev.length ≤ 24
 loc : ∀ e ∈ P.ev,e.k = 1 ∨ e.k = 2 → e.l.toNat < locs
 dt : ∀ p ∈ P.data,p.1 < P.ev.length ∧ p.2 < P.ev.length
 ct : ∀ p ∈ P.ctrl,p.1 < P.ev.length ∧ p.2 < P.ev.length
 rm : ∀ p ∈ P.rmw,p.1 < P.ev.length ∧ p.2 < P.ev.length
 dtl : P.data.length ≤ 100000
 ctl : P.ctrl.length ≤ 100000
 rml : P.rmw.length ≤ 100000
structure PthS (B : Nat) (w : World) (x : PthR) : Prop where
 lt : ∀ a,x.2.2.1.1 = some a ∨ x.2.2.2.1.1 = some a ∨ x.2.2.2.2.1 = some a → a.block < B
 ev : SlR evE w x.2.1.1 x.1.ev
 dt : SlR prE w x.2.2.1.1 x.1.data
 ct : SlR prE w x.2.2.2.1.1 x.1.ctrl
 rm : SlR prE w x.2.2.2.2.1 x.1.rmw
theorem PthS.below {B : Nat} {w X : World} {x : PthR} (h : PthS B w x) (hb : Below w.heap.size w X) : PthS B X x := ⟨h.lt,h.ev.below hb,h.dt.below hb,h.ct.below hb,h.rm.below hb⟩
theorem initEv_len : ∀ (vs : List UInt8) (l : Nat),(initEv l vs).length = vs.length
 | [],_ => rfl
 | v :: vs,l => by
  show (initEv (l + 1) vs).length + 1 = vs.length + 1
  rw [initEv_len vs]
theorem initEv_at : ∀ (vs : List UInt8) (l : Nat) {k : Nat} (h : k < vs.length),(initEv l vs)[k]? = some ⟨-1,2,UInt8.ofNat (l + k),vs[k],0,0,0⟩
 | [],_,_,h => by cases h
 | v :: vs,l,0,_ => rfl
 | v :: vs,l,k + 1,h => by
  show (initEv (l + 1) vs)[k]? = _
  rw [initEv_at vs (l + 1) (Nat.lt_of_succ_lt_succ h),Nat.add_assoc,Nat.add_comm 1 k]; rfl
theorem initEv_take {vs : List UInt8} {k : Nat} (h : k < vs.length) : (initEv 0 vs).take (k + 1) = (initEv 0 vs).take k ++ [⟨-1,2,UInt8.ofNat k,vs[k],0,0,0⟩] := by
 have hl : k < (initEv 0 vs).length := by rw [initEv_len]; exact h
 have := initEv_at vs 0 h
 rw [List.getElem?_eq_getElem hl,Nat.zero_add] at this
 rw [List.take_succ_eq_append_getElem hl,Option.some.inj this]
theorem sizeR_le (n : Nat) (Ps : List PathD) : n ≤ Ps.foldl (fun n P => n + P.ev.length) n := by
 induction Ps generalizing n with
 | nil => exact Nat.le_refl _
 | cons P Ps ih => exact Nat.le_trans (Nat.le_add_right _ _) (ih (n + P.ev.length))
theorem appE {B c : Nat} {V1 : World} {p : Option Addr} {l : List Ev} {y : Ev} {a : Addr} (ho : OwnS evE 52 B V1 p c l) (ha : Cells V1 a ([y].flatMap evE.enc)) (hB : B ≤ V1.heap.size) (hl : l.length ≤ 100000) {K : Value → World → Prop}
  (h : ∀ p' c' w',OwnS evE 52 B w' p' c' (l ++ [y]) → V1.grownBy w' (p.map Addr.block) → (∀ a,p' = some a → p = some a ∨ a.block = V1.heap.size) → K (.slice p' (l ++ [y]).length c') w') :
  SatR ((Builtin.append_ #[22,22] 22 #[.slice p l.length c,.slice (some a) 1 1]).run Tryz.prog V1) K :=
 app_own (E := evE) (T := 52) (B := B) (l := l) (news := [y]) (cap := c) (m := 1) Tryz.underlying22 (ttOk.get 52 _ rfl) rfl rfl rfl ho rfl ha hB (by omega) (by show (l.length + 1) * 16 ≤ _; omega) fun p' c' w' a1 a2 _ a4 => h p' c' w' a1 (by rw [own_map] at a2; exact a2) a4
theorem seg_regs {f g : Nat → UInt8} : ∀ {k : Nat},k < 4 → (seg 32 (fun i => u8 (f i))).take (k * 8) ++ seg 8 (fun i => u8 (g i)) ++ (seg 32 (fun i => u8 (f i))).drop (k * 8 + 8) = seg 32 (fun i => u8 (if i / 8 = k then g (i % 8) else f i))
 | 0,_ => by kernel_rfl
 | 1,_ => by kernel_rfl
 | 2,_ => by kernel_rfl
 | 3,_ => by kernel_rfl
 | k + 4,h => by omega
theorem part_app {A Z l r : List Value} {n o m : Nat} (hA : A.length = n) (hl : o + m ≤ l.length) (hr : r.length = m) : (A ++ (l ++ Z)).take (n + o) ++ r ++ (A ++ (l ++ Z)).drop (n + o + m) = A ++ ((l.take o ++ r ++ l.drop (o + m)) ++ Z) := by
 subst hA
 rw [List.take_length_add_append,List.take_append_of_le_length (by omega),Nat.add_assoc,List.drop_length_add_append,List.drop_append_of_le_length hl]
 simp only [List.append_assoc]
theorem asR_cons (k : Nat) (P : PathD) (Ps : List PathD) (x : ExD) : asR k (P :: Ps) x = asR (k + 1) Ps (asStep x k P) := rfl
theorem thEv_take {k : Nat} {l : List Ev} {j : Nat} (h : j < l.length) : thEv k (l.take (j + 1)) = thEv k (l.take j) ++ [{ l[j] with th := k }] := by
 rw [List.take_succ_eq_append_getElem h]
 unfold thEv
 rw [List.map_append]; rfl
theorem putOk_of {n f : Nat} {ps : List (Nat × Nat)} (h : ∀ p ∈ ps,p.1 < n ∧ p.2 < n) (hf : f + n ≤ 48) : putOk f ps := fun p hp => ⟨by have := (h p hp).1; omega,by have := (h p hp).2; omega⟩
def MixV (B : Nat) (w : World) (vs : List Value) (m : MixD) : Prop :=
 ∃ (q p1 p2 p3 : Option Addr) (c c1 c2 c3 : Nat) (xs ys : List NatL),vs = exC m.base q c ++ [.slice p1 m.rs.length c1,.slice p2 xs.length c2,.slice p3 ys.length c3] ∧ OwnS evE 52 B w q c m.base.ev ∧
  OwnS natE 3 B w p1 c1 (m.rs.map (·.1)) ∧ xs.map (·.1) = m.rs.map (·.2) ∧ OwnS natLE 95 B w p2 c2 xs ∧ (∀ y ∈ xs,OwnS natE 3 B w y.2.1 y.2.2 y.1) ∧
   ys.map (·.1) = m.wr ∧ OwnS natLE 95 B w p3 c3 ys ∧ ∀ y ∈ ys,OwnS natE 3 B w y.2.1 y.2.2 y.1
section
variable {w : World} {bP cl cp ci : Nat} {pc : List Value} {pl pp pi : Option Addr} {init : List UInt8} {Ps : List PthR}
theorem assemble_c (fP : w.heap[bP]? = some (.cells pc.toArray 64 (0,0))) (h1 : pc[1]? = some (.slice pl init.length cl)) (h2 : pc[2]? = some (.slice pi init.length ci)) (hi : SlR byteE w pi init) (hi6 : init.length ≤ 6)
  (hP : SlR pthE w pp Ps) (hPs : ∀ x ∈ Ps,PthS w.heap.size w x) (hPb : ∀ x ∈ Ps,PathB init.length x.1) (hP4 : Ps.length ≤ 4) :
  Calls Tryz.prog 105 #[At0 bP,.slice pp Ps.length cp] w fun e w' => (∃ vs,match mixR init (Ps.map (·.1)) with
   | some m => e = .returned (.tuple #[.agg vs.toArray,.bool true]) ∧ MixV w.heap.size w' vs m
   | none => e = .returned (.tuple #[.agg vs.toArray,.bool false])) ∧ Below w.heap.size w w' := by
 refine calls_of_M (S := sg 143) (sgOk _) (args := [At0 bP,.slice pp Ps.length cp]) (.c .p (.s .p (.c .p (.s .p (.s .p (.c .p (.c .p (.c .p (.c .p (.c .p .p)))))))))) Tryz.func105 rfl rfl (Nat.le_of_ble_eq_true rfl) rfl ?_
 obtain ⟨L,hL⟩ : ∃ L,L = w.heap.size := ⟨_,rfl⟩
 obtain ⟨N,hN⟩ : ∃ N,N = sizeR init.length (Ps.map (·.1)) := ⟨_,rfl⟩
 have hbP := hlt fP
 refine ⟨Unit,fun _ => ⟨[(0,At0 bP),(1,.slice pp Ps.length cp),(4,At0 L)],[]⟩,fun _ X => X.heap[L]? = some (.cells (zt133).toArray 133 (0,0)) ∧ Below w.heap.size w X,?_,?_⟩
 ·exact ⟨(),⟨.cons rfl (.cons rfl (.cons (by rw [hL]; rfl) .nil)),rfl⟩,by rw [hL]; exact hnew w _,(Below.refl _ w).alloc (Nat.le_refl _) _⟩
 rintro _ X ⟨f0,hbX⟩
 have ldP : ∀ {X : World},Below w.heap.size w X → ∀ {i : Nat} {v : Value},pc[i]? = some v → X.cell? ⟨bP,0 + i,none⟩ = some v := fun {X} hb {i v} h => cells_at (cells_block ((hb.block bP hbP).trans fP)) (by simpa using h)
 refine ⟨_,ldP hbX h1,?_⟩
 refine ⟨Unit,fun _ => ⟨[(0,At0 bP),(1,.slice pp Ps.length cp),(4,At0 L),(6,i64 N)],[]⟩,fun _ X => X.heap[L]? = some (.cells (zt133).toArray 133 (0,0)) ∧ Below w.heap.size w X,?_,?_⟩
 ·refine ⟨Nat × Nat,fun s => ⟨[(0,At0 bP),(1,.slice pp Ps.length cp),(4,At0 L),(6,i64 (s.2 : Nat)),(23,.slice pp Ps.length cp),(24,i64 Ps.length),(25,i64 (s.1 : Nat))],[]⟩,
   fun s Y => s.1 ≤ Ps.length ∧ s.2 ≤ init.length + 24 * s.1 ∧ ((Ps.map (·.1)).drop s.1).foldl (fun n P => n + P.ev.length) s.2 = N ∧ Y.heap[L]? = some (.cells (zt133).toArray 133 (0,0)) ∧ Below w.heap.size w Y,fun s => Ps.length - s.1,(0,init.length),
   ⟨.cons rfl (.cons rfl (.cons rfl (.cons rfl (.cons rfl (.cons rfl (.cons rfl .nil)))))),rfl⟩,⟨Nat.zero_le _,Nat.le_refl _,hN.symm,f0,hbX⟩,?_⟩
  clear f0 hbX
  rintro ⟨k,n⟩ Y ⟨hk,hn,hacc,f0,hbY⟩
  dsimp only at hk hn hacc ⊢
  refine And.intro (fun hc => ?_) (fun hc => ?_)
  ·have hc : (k : Int) < (Ps.length : Int) := of_decide_eq_true hc
   have hkl : k < Ps.length := by omega
   obtain ⟨x,hx⟩ : ∃ x,Ps[k] = x := ⟨_,rfl⟩
   have hxm : x ∈ Ps := by rw [← hx]; exact List.getElem_mem hkl
   have hdp : (Ps.map (·.1)).drop k = x.1 :: (Ps.map (·.1)).drop (k + 1) := by
    rw [← List.getElem_cons_drop (show k < (Ps.map (·.1)).length by simpa using hkl)]
    simp [hx]
   rw [hdp] at hacc
   have hev := (hPb x hxm).ev
   obtain ⟨bp,op,rfl,hlp,hat⟩ := hP.at hkl
   refine ⟨k,rfl,hkl,?_⟩
   refine ⟨pthE.enc x,pthE.len x,by rw [← hx]; exact cells_below hbY (hat k hkl),Nat.lt_of_lt_of_le hlp hbY.size,?_⟩
   refine store_new (X := Y) (v := .agg (pthE.enc x).toArray) (ttOk.get 165 _ rfl) (pthE.len x) rfl (List.all_eq_true.2 fun u hu => pthE.one x u hu) fun Z hbZ fZ sZ => ?_
   have fZ : Z.heap[Y.heap.size]? = some (.cells (pthE.enc x).toArray 165 (0,0)) := fZ
   refine ⟨.slice x.2.1.1 x.1.ev.length x.2.1.2,cells_at (cells_block fZ) (i := 0) rfl,?_⟩
   refine ⟨((n + x.1.ev.length : Nat) : Int),(wrap_i64 (by omega)).trans (by omega),?_⟩
   refine ⟨((k + 1 : Nat) : Int),(wrap_i64 (by omega)).trans (by omega),?_⟩
   exact ⟨(k + 1,n + x.1.ev.length),⟨.cons rfl (.cons rfl (.cons rfl (.cons rfl (.cons rfl (.cons rfl (.cons rfl .nil)))))),rfl⟩,⟨hkl,by show n + x.1.ev.length ≤ init.length + 24 * (k + 1); omega,hacc,block_below hbZ f0,hbY.trans (hbZ.mono hbY.size)⟩,by show Ps.length - (k + 1) < Ps.length - k; omega⟩
  ·have hc : ¬ (k : Int) < (Ps.length : Int) := of_decide_eq_false hc
   rw [List.drop_eq_nil_of_le (by rw [List.length_map]; omega)] at hacc
   have hacc : n = N := hacc
   subst hacc
   exact ⟨(),⟨.cons rfl (.cons rfl (.cons rfl (.cons rfl .nil))),rfl⟩,f0,hbY⟩
 clear f0 hbX
 rintro _ X ⟨f0,hbX⟩
 have hmr : mixR init (Ps.map (·.1)) = if N ≤ 48 then some (choiceR (baseR init (Ps.map (·.1))) init.length) else none := by rw [hN]; rfl
 have hLX := hlt f0
 refine And.intro (fun h => ?_) (fun h => ?_)
 ·have h : (48 : Int) < (N : Nat) := of_decide_eq_true h
  rw [hmr,if_neg (by omega)]
  refine ⟨zt133,by kernel_rfl,?_⟩
  refine store_box (v := .agg (zt133).toArray) (ttOk.get 133 _ rfl) f0 ztmix_len ztmix_len (by kernel_rfl) ?_
  exact ⟨zt133,ztmix_len,cells_block (setRow_new f0),⟨_,rfl⟩,below_setRow hbX (by omega) _⟩
 have h : ¬ (48 : Int) < (N : Nat) := of_decide_eq_false h
 have hN48 : N ≤ 48 := by omega
 rw [hmr,if_pos hN48]
 refine Calls.mono empty_c ?_
 rintro e Y ⟨rfl,hbY⟩
 refine ⟨exC (ex0 N) none 0 ++ [nilV,nilV,nilV],by kernel_rfl,?_⟩
 refine store_new (X := Y) (v := .agg (exC (ex0 N) none 0 ++ [nilV,nilV,nilV]).toArray) (ttOk.get 133 _ rfl) (by show (exC (ex0 N) none 0 ++ [nilV,nilV,nilV]).length = _; rw [List.length_append,exC_len]; rfl) ztmix_len (by show (exC (ex0 N) none 0 ++ [nilV,nilV,nilV]).all _ = true; rw [List.all_append,exC_one]; rfl) fun V hbV fV sV => ?_
 refine ⟨Nat,fun M => ⟨[(0,At0 bP),(1,.slice pp Ps.length cp),(4,At0 L),(9,At0 M),(10,At0 M)],[]⟩,fun M X => L < M ∧ MixH X M (ex0 N) none 0 [nilV,nilV,nilV] ∧ X.heap[L]? = some (.cells (zt133).toArray 133 (0,0)) ∧ Below w.heap.size w X,?_,?_⟩
 ·exact ⟨Y.heap.size,⟨.cons rfl (.cons rfl (.cons rfl (.cons rfl (.cons rfl .nil)))),rfl⟩,by have := hbY.size; omega,fV,block_below hbV (block_below hbY f0),(hbX.trans (hbY.mono hbX.size)).trans (hbV.mono (by have := hbX.size; have := hbY.size; omega))⟩
 clear fV sV hbV V hbY Y
 clear f0 hbX hLX
 rintro M X ⟨hLM,fM,f0,hbX⟩
 dsimp only at fM ⊢
 refine ⟨Option Addr × Nat,fun _ => ⟨[(0,At0 bP),(1,.slice pp Ps.length cp),(4,At0 L),(9,At0 M),(10,At0 M)],[]⟩,fun s X => MixH X M { ex0 N with ev := initEv 0 init } s.1 s.2 [nilV,nilV,nilV] ∧ OwnS evE 52 w.heap.size X s.1 s.2 (initEv 0 init) ∧ X.heap[L]? = some (.cells (zt133).toArray 133 (0,0)) ∧ Below w.heap.size w X,?_,?_⟩
 ·refine ⟨_,ldP hbX h2,?_⟩
  refine ⟨Nat × Option Addr × Nat,fun s => ⟨[(0,At0 bP),(1,.slice pp Ps.length cp),(4,At0 L),(9,At0 M),(10,At0 M),(45,.slice pi init.length ci),(46,i64 init.length),(47,i64 (s.1 : Nat))],[]⟩,
   fun s Y => s.1 ≤ init.length ∧ MixH Y M { ex0 N with ev := (initEv 0 init).take s.1 } s.2.1 s.2.2 [nilV,nilV,nilV] ∧ OwnS evE 52 w.heap.size Y s.2.1 s.2.2 ((initEv 0 init).take s.1) ∧ Y.heap[L]? = some (.cells (zt133).toArray 133 (0,0)) ∧ Below w.heap.size w Y,fun s => init.length - s.1,(0,none,0),
   ⟨.cons rfl (.cons rfl (.cons rfl (.cons rfl (.cons rfl (.cons rfl (.cons rfl (.cons rfl .nil))))))),rfl⟩,⟨Nat.zero_le _,fM,OwnS.nil,f0,hbX⟩,?_⟩
  clear fM f0 hbX
  rintro ⟨k,q,c⟩ Y ⟨hk,fM,ho,f0,hbY⟩
  dsimp only at hk fM ho ⊢
  refine And.intro (fun hc => ?_) (fun hc => ?_)
  ·have hc : (k : Int) < (init.length : Int) := of_decide_eq_true hc
   have hkl : k < init.length := by omega
   obtain ⟨bi,oi,rfl,hli,hat⟩ := hi.at hkl
   have htk := initEv_take hkl
   have htl : ((initEv 0 init).take k).length = k := by rw [List.length_take,initEv_len]; omega
   refine ⟨k,rfl,hkl,?_⟩
   refine ⟨u8 init[k],cells_at (cells_below hbY (hat k hkl)) (i := 0) rfl,?_⟩
   refine ⟨_,mixH_ev fM,?_⟩
   refine ⟨_,w8N k,?_⟩
   obtain ⟨e,he⟩ : ∃ e : Ev,e = ⟨-1,2,UInt8.ofNat k,init[k],0,0,0⟩ := ⟨_,rfl⟩
   refine ⟨evE.enc e,by rw [he]; rfl,?_⟩
   refine ⟨⟨by decide,by decide,rfl⟩,evE.enc e,fill_one rfl rfl,?_⟩
   obtain ⟨Y1,hY1⟩ : ∃ Y1,Y1 = Y.alloc (.cells (evE.enc e).toArray 52) := ⟨_,rfl⟩
   have hb1 : Below Y.heap.size Y Y1 := by rw [hY1]; exact (Below.refl _ _).alloc (Nat.le_refl _) _
   have sY := hbY.size
   have ho1 := ho.below hb1
   unfold opsE stepE
   show SatR _ _
   rw [← hY1]
   refine appE ho1 (by rw [hY1]; exact one_new evE e) (by have := hb1.size; omega) (by omega) fun q1 c1 U oU gU hat1 => ?_
   have fMU := box_past (block_below hb1 fM) ho1 (by decide) gU
   have f0U := box_past (block_below hb1 f0) ho1 (by decide) gU
   refine store_one (ttOk.get 22 _ rfl) fMU (o := 0 + 0) (v := .slice q1 ((initEv 0 init).take k ++ [e]).length c1) rfl rfl (by rw [List.length_append,exC_len]; decide) rfl fun S fS gS sS => ?_
   rw [show 0 + 0 = 0 from rfl,ex_ev,he,← htk] at fS
   refine ⟨((k + 1 : Nat) : Int),(wrap_i64 (by omega)).trans (by omega),?_⟩
   refine ⟨(k + 1,q1,c1),⟨.cons rfl (.cons rfl (.cons rfl (.cons rfl (.cons rfl (.cons rfl (.cons rfl (.cons rfl .nil))))))),rfl⟩,⟨hkl,fS,by rw [he,← htk] at oU; exact own_box oU fMU (by decide) gS,(gS.block L (hlt f0U) (by simp; omega)).trans f0U,?_⟩,by show init.length - (k + 1) < init.length - k; omega⟩
   have sU := gU.size
   have s1 := hb1.size
   exact ((hbY.trans (hb1.mono sY)).trans (past_below ho1 (by omega) (Nat.le_refl _) gU)).trans (below_grown gS (by omega) (by omega))
  ·have hc : ¬ (k : Int) < (init.length : Int) := of_decide_eq_false hc
   obtain rfl : k = init.length := by omega
   have e : (initEv 0 init).take init.length = initEv 0 init := List.take_of_length_le (by rw [initEv_len]; exact Nat.le_refl _)
   rw [e] at fM ho
   exact ⟨(q,c),⟨.cons rfl (.cons rfl (.cons rfl (.cons rfl (.cons rfl .nil)))),rfl⟩,fM,ho,f0,hbY⟩
 clear fM f0 hbX
 rintro ⟨q,c⟩ X ⟨fM,ho,f0,hbX⟩
 dsimp only at fM ho ⊢
 obtain ⟨x0,hx0⟩ : ∃ x0 : ExD,x0 = { ex0 N with ev := initEv 0 init } := ⟨_,rfl⟩
 have hx0e : x0.ev = initEv 0 init := by rw [hx0]
 rw [← hx0] at fM
 rw [← hx0e] at ho
 refine ⟨Option Addr × Nat,fun _ => ⟨[(0,At0 bP),(1,.slice pp Ps.length cp),(4,At0 L),(9,At0 M),(10,At0 M)],[]⟩,fun s X => MixH X M (asR 0 (Ps.map (·.1)) x0) s.1 s.2 [nilV,nilV,nilV] ∧ OwnS evE 52 w.heap.size X s.1 s.2 (asR 0 (Ps.map (·.1)) x0).ev ∧ (asR 0 (Ps.map (·.1)) x0).ev.length = N ∧ (∀ e ∈ (asR 0 (Ps.map (·.1)) x0).ev,e.k = 1 ∨ e.k = 2 → e.l.toNat < init.length) ∧ X.heap[L]? = some (.cells (zt133).toArray 133 (0,0)) ∧ Below w.heap.size w X,?_,?_⟩
 ·refine ⟨Nat × ExD × Option Addr × Nat,fun s => ⟨[(0,At0 bP),(1,.slice pp Ps.length cp),(4,At0 L),(9,At0 M),(10,At0 M),(66,.slice pp Ps.length cp),(67,i64 Ps.length),(68,i64 (s.1 : Nat))],[]⟩,
   fun s Y => s.1 ≤ Ps.length ∧ asR s.1 ((Ps.map (·.1)).drop s.1) s.2.1 = asR 0 (Ps.map (·.1)) x0 ∧ ((Ps.map (·.1)).drop s.1).foldl (fun n P => n + P.ev.length) s.2.1.ev.length = N ∧ (WrdR s.2.1.dt.to ∧ WrdR s.2.1.ct.to ∧ WrdR s.2.1.rm.to) ∧ (∀ e ∈ s.2.1.ev,e.k = 1 ∨ e.k = 2 → e.l.toNat < init.length) ∧
    MixH Y M s.2.1 s.2.2.1 s.2.2.2 [nilV,nilV,nilV] ∧ OwnS evE 52 w.heap.size Y s.2.2.1 s.2.2.2 s.2.1.ev ∧ Y.heap[L]? = some (.cells (zt133).toArray 133 (0,0)) ∧ Below w.heap.size w Y,fun s => Ps.length - s.1,(0,x0,q,c),
   ⟨.cons rfl (.cons rfl (.cons rfl (.cons rfl (.cons rfl (.cons rfl (.cons rfl (.cons rfl .nil))))))),rfl⟩,⟨Nat.zero_le _,rfl,by rw [hN,hx0e,initEv_len]; rfl,?_,?_,fM,ho,f0,hbX⟩,?_⟩
  ·rw [hx0]
   exact ⟨fun i _ => (by decide : 0 < 2 ^ 64),fun i _ => (by decide : 0 < 2 ^ 64),fun i _ => (by decide : 0 < 2 ^ 64)⟩
  ·intro e he _
   rw [hx0e] at he
   obtain ⟨j,hj⟩ := List.mem_iff_getElem?.1 he
   have hjl : j < init.length := by
    have := (List.getElem?_eq_some_iff.1 hj).1
    rwa [initEv_len] at this
   rw [initEv_at init 0 hjl] at hj
   rw [← Option.some.inj hj]
   show (UInt8.ofNat (0 + j)).toNat < init.length
   have := u8_nat (n := 0 + j) (by omega)
   omega
  clear fM ho f0 hbX
  rintro ⟨k,x,q,c⟩ Y ⟨hk,hacc,hfold,⟨hw1,hw2,hw3⟩,hloc,fM,ho,f0,hbY⟩
  dsimp only at hk hacc hfold hw1 hw2 hw3 hloc fM ho ⊢
  refine And.intro (fun hc => ?_) (fun hc => ?_)
  ·have hc : (k : Int) < (Ps.length : Int) := of_decide_eq_true hc
   have hkl : k < Ps.length := by omega
   obtain ⟨y,hy⟩ : ∃ y,Ps[k] = y := ⟨_,rfl⟩
   have hym : y ∈ Ps := by rw [← hy]; exact List.getElem_mem hkl
   have hdp : (Ps.map (·.1)).drop k = y.1 :: (Ps.map (·.1)).drop (k + 1) := by
    rw [← List.getElem_cons_drop (show k < (Ps.map (·.1)).length by simpa using hkl)]
    simp [hy]
   rw [hdp] at hacc hfold
   rw [asR_cons] at hacc
   have hfold : ((Ps.map (·.1)).drop (k + 1)).foldl (fun n P => n + P.ev.length) (x.ev.length + y.1.ev.length) = N := hfold
   have hsz := sizeR_le (x.ev.length + y.1.ev.length) ((Ps.map (·.1)).drop (k + 1))
   rw [hfold] at hsz
   obtain ⟨b24,bloc,bdt,bct,brm,ldt,lct,lrm⟩ := hPb y hym
   obtain ⟨bp,op,rfl,hlp,hat⟩ := hP.at hkl
   refine ⟨k,rfl,hkl,?_⟩
   refine ⟨pthE.enc y,pthE.len y,by rw [← hy]; exact cells_below hbY (hat k hkl),Nat.lt_of_lt_of_le hlp hbY.size,?_⟩
   refine store_new (X := Y) (v := .agg (pthE.enc y).toArray) (ttOk.get 165 _ rfl) (pthE.len y) rfl (List.all_eq_true.2 fun u hu => pthE.one y u hu) fun Z hbZ fZ sZ => ?_
   obtain ⟨D,hD⟩ : ∃ D,D = Y.heap.size := ⟨_,rfl⟩
   have fD : Z.heap[D]? = some (.cells (pthE.enc y).toArray 165 (0,0)) := by rw [hD]; exact fZ
   have hMD : M < D := by rw [hD]; exact hlt fM
   have eD : At0 Y.heap.size = At0 D := by rw [hD]
   have fMZ := block_below hbZ fM
   have f0Z := block_below hbZ f0
   have hoZ := ho.below hbZ
   have hwZ := hbY.trans (hbZ.mono hbY.size)
   refine ⟨_,mixH_ev fMZ,?_⟩
   refine ⟨.slice y.2.1.1 y.1.ev.length y.2.1.2,by rw [← hD]; exact cells_at (cells_block fD) (i := 0) rfl,?_⟩
   refine ⟨Nat × Option Addr × Nat,fun s => ⟨[(0,At0 bP),(1,.slice (some ⟨bp,op,none⟩) Ps.length cp),(4,At0 L),(9,At0 M),(10,At0 M),(13,i64 (k : Nat)),(14,At0 D),(15,i64 x.ev.length),(66,.slice (some ⟨bp,op,none⟩) Ps.length cp),(67,i64 Ps.length),(68,i64 (k : Nat)),(79,.slice y.2.1.1 y.1.ev.length y.2.1.2),(80,i64 y.1.ev.length),(81,i64 (s.1 : Nat))],[]⟩,
    fun s V => s.1 ≤ y.1.ev.length ∧ MixH V M { x with ev := x.ev ++ thEv k (y.1.ev.take s.1) } s.2.1 s.2.2 [nilV,nilV,nilV] ∧ OwnS evE 52 w.heap.size V s.2.1 s.2.2 (x.ev ++ thEv k (y.1.ev.take s.1)) ∧ V.heap[L]? = some (.cells (zt133).toArray 133 (0,0)) ∧ V.heap[D]? = some (.cells (pthE.enc y).toArray 165 (0,0)) ∧ Below w.heap.size w V,fun s => y.1.ev.length - s.1,(0,q,c),
    ⟨.cons rfl (.cons rfl (.cons rfl (.cons rfl (.cons rfl (.cons rfl (.cons (congrArg some eD) (.cons rfl (.cons rfl (.cons rfl (.cons rfl (.cons rfl (.cons rfl (.cons rfl .nil))))))))))))),rfl⟩,⟨Nat.zero_le _,by show MixH Z M { x with ev := x.ev ++ [] } q c _; rw [List.append_nil]; exact fMZ,by show OwnS _ _ _ Z q c (x.ev ++ []); rw [List.append_nil]; exact hoZ,f0Z,fD,hwZ⟩,?_⟩
   clear fMZ f0Z hoZ hwZ fZ sZ hbZ fM ho f0 hbY
   rintro ⟨j,q,c⟩ V ⟨hj,fM,ho,f0,fD,hbV⟩
   dsimp only at hj fM ho ⊢
   have sV := hbV.size
   have hS := (hPs y hym).below hbV
   refine And.intro (fun hc => ?_) (fun hc => ?_)
   ·have hc : (j : Int) < (y.1.ev.length : Int) := of_decide_eq_true hc
    have hjl : j < y.1.ev.length := by omega
    obtain ⟨e,he⟩ : ∃ e,y.1.ev[j] = e := ⟨_,rfl⟩
    have htk := thEv_take (k := k) hjl
    rw [he] at htk
    obtain ⟨be,oe,hbe,hle,hate⟩ := hS.ev.at hjl
    rw [hbe]
    refine ⟨j,rfl,hjl,?_⟩
    refine ⟨evE.enc e,rfl,by rw [← he]; exact hate j hjl,hle,?_⟩
    refine store_new (X := V) (v := .agg (evE.enc e).toArray) (ttOk.get 52 _ rfl) rfl rfl (List.all_eq_true.2 fun u hu => evE.one e u hu) fun T hbT fT sT => ?_
    have fT : T.heap[V.heap.size]? = some (.cells (evE.enc e).toArray 52 (0,0)) := fT
    refine store_one (ttOk.get 3 _ rfl) fT (o := 0 + 0) (v := i64 (k : Nat)) rfl rfl (by show 0 < 7; decide) rfl fun T2 fT2 gT2 sT2 => ?_
    obtain ⟨e2,he2⟩ : ∃ e2 : Ev,e2 = { e with th := k } := ⟨_,rfl⟩
    have fT2 : T2.heap[V.heap.size]? = some (.cells (evE.enc e2).toArray 52 (0,0)) := by rw [he2]; exact fT2
    have hVT : Below V.heap.size V T2 := hbT.trans (below_grown gT2 (by omega) (Nat.le_refl _))
    have fM2 := block_below hVT fM
    have fT3 := hdr fT2
    have hd : Below T2.heap.size T2 T2.drew := (Below.refl _ T2).drew
    have hlenx : (x.ev ++ thEv k (y.1.ev.take j)).length ≤ 48 := by
     unfold thEv
     rw [List.length_append,List.length_map,List.length_take]; omega
    have ho2 := ho.below hVT
    refine DrawE.ord [7,10] [0,1,2,3,4,5,6,7,8,9,10] (by kernel_rfl) ?_
    refine ⟨_,mixH_ev (hdr fM2),?_⟩
    refine ⟨evE.enc e2,rfl,cells_block fT3,hlt fT3,?_⟩
    refine ⟨⟨by decide,by decide,rfl⟩,evE.enc e2,fill_one rfl rfl,?_⟩
    obtain ⟨Y1,hY1⟩ : ∃ Y1,Y1 = T2.drew.alloc (.cells (evE.enc e2).toArray 52) := ⟨_,rfl⟩
    have hb1 : Below T2.heap.size T2 Y1 := by rw [hY1]; exact hd.trans ((Below.refl T2.drew.heap.size _).alloc (Nat.le_refl _) _)
    refine ⟨(Below.refl _ _).alloc (Nat.le_refl _) _,?_⟩
    have sT := hVT.size
    have s1 := hb1.size
    have ho3 := ho2.below hb1
    unfold opsO stepE
    show SatR _ _
    rw [← hY1]
    refine appE ho3 (by rw [hY1]; exact one_new evE e2) (by omega) (by omega) fun q1 c1 U oU gU hat1 => ?_
    have fMU := box_past (block_below hb1 fM2) ho3 (by decide) gU
    have f0U := box_past (block_below (hVT.trans (hb1.mono sT)) f0) ho3 (by decide) gU
    have fDU := box_past (block_below (hVT.trans (hb1.mono sT)) fD) ho3 (by decide) gU
    refine store_one (ttOk.get 22 _ rfl) fMU (o := 0 + 0) (v := .slice q1 ((x.ev ++ thEv k (y.1.ev.take j)) ++ [e2]).length c1) rfl rfl (by rw [List.length_append,exC_len]; decide) rfl fun S fS gS sS => ?_
    have hev2 : (x.ev ++ thEv k (y.1.ev.take j)) ++ [e2] = x.ev ++ thEv k (y.1.ev.take (j + 1)) := by rw [htk,he2,List.append_assoc]
    rw [show 0 + 0 = 0 from rfl,ex_ev,hev2] at fS
    refine ⟨((j + 1 : Nat) : Int),(wrap_i64 (by omega)).trans (by omega),?_⟩
    refine ⟨(j + 1,q1,c1),⟨.cons rfl (.cons rfl (.cons rfl (.cons rfl (.cons rfl (.cons rfl (.cons rfl (.cons rfl (.cons rfl (.cons rfl (.cons rfl (.cons rfl (.cons rfl (.cons rfl .nil))))))))))))),rfl⟩,⟨hjl,fS,by rw [hev2] at oU; exact own_box oU fMU (by decide) gS,(gS.block L (hlt f0U) (by simp; omega)).trans f0U,(gS.block D (hlt fDU) (by simp; omega)).trans fDU,?_⟩,by show y.1.ev.length - (j + 1) < y.1.ev.length - j; omega⟩
    have sU := gU.size
    exact ((hbV.trans ((hVT.trans (hb1.mono sT)).mono sV)).trans (past_below ho3 (by omega) (Nat.le_refl _) gU)).trans (below_grown gS (by omega) (by omega))
   ·have hc : ¬ (j : Int) < (y.1.ev.length : Int) := of_decide_eq_false hc
    obtain rfl : j = y.1.ev.length := by omega
    rw [List.take_length] at fM ho
    obtain ⟨x1,hx1⟩ : ∃ x1 : ExD,x1 = { x with ev := x.ev ++ thEv k y.1.ev } := ⟨_,rfl⟩
    rw [← hx1] at fM
    have fM0 := fM
    have ho0 := ho
    have f00 := f0
    have fD0 := fD
    have hb0 := hbV
    have hS0 := hS
    obtain ⟨x2,hx2⟩ : ∃ z : ExD,z = { x1 with dt := putR x.ev.length y.1.data x.dt } := ⟨_,rfl⟩
    obtain ⟨A1,Z1,hA1,hE1⟩ := ex_dt x1 q c [nilV,nilV,nilV]
    have hx1dt : x1.dt = x.dt := by rw [hx1]
    have hR1 : RelAt V M 148 133 A1 Z1 x.dt := ⟨hA1,by
     have h := hE1 x1.dt
     rw [hx1dt] at h
     rw [← h,← hx1dt]; exact fM0⟩
    have dw1 : Below V.heap.size V V.drew := (Below.refl _ _).drew
    refine DrawE.ord [6] [0,1,2,3,4,5,6] (by kernel_rfl) ?_
    refine ⟨.slice y.2.2.1.1 y.1.data.length y.2.2.1.2,cells_at (cells_block (hdr fD0)) (i := 1) rfl,?_⟩
    refine Calls.mono (put_c (f := x.ev.length) (hR1.same (Y := V.drew) rfl) hw1 ((hS0.dt).below dw1) (fun a ha => by have := hS0.lt a (.inl ha); omega) ldt (putOk_of bdt (by omega))) ?_
    rintro e V1 ⟨rfl,hRn1,gn1⟩
    have g1 : V.grownBy V1 (some M) := grown_trans (grown_of_below dw1) gn1
    have sg1 := g1.size
    have fM1 : MixH V1 M x2 q c [nilV,nilV,nilV] := by
     have h := hRn1.cells
     rw [← hE1] at h
     rw [hx2]; exact h
    have ho1 := own_box ho0 fM0 (by decide) g1
    have f01 := (g1.block L (hlt f00) (by simp; omega)).trans f00
    have fD1 := (g1.block D (hlt fD0) (by simp; omega)).trans fD0
    have hb1 : Below w.heap.size w V1 := hb0.trans (below_grown g1 hb0.size (by omega))
    have hS1 := (hPs y hym).below hb1
    obtain ⟨x3,hx3⟩ : ∃ z : ExD,z = { x2 with ct := putR x.ev.length y.1.ctrl x.ct } := ⟨_,rfl⟩
    obtain ⟨A2,Z2,hA2,hE2⟩ := ex_ct x2 q c [nilV,nilV,nilV]
    have hx2ct : x2.ct = x.ct := by rw [hx2]; rw [hx1]
    have hR2 : RelAt V1 M 197 133 A2 Z2 x.ct := ⟨hA2,by
     have h := hE2 x2.ct
     rw [hx2ct] at h
     rw [← h,← hx2ct]; exact fM1⟩
    have dw2 : Below V1.heap.size V1 V1.drew := (Below.refl _ _).drew
    refine DrawE.ord [6] [0,1,2,3,4,5,6] (by kernel_rfl) ?_
    refine ⟨.slice y.2.2.2.1.1 y.1.ctrl.length y.2.2.2.1.2,cells_at (cells_block (hdr fD1)) (i := 2) rfl,?_⟩
    refine Calls.mono (put_c (f := x.ev.length) (hR2.same (Y := V1.drew) rfl) hw2 ((hS1.ct).below dw2) (fun a ha => by have := hS1.lt a (.inr (.inl ha)); omega) lct (putOk_of bct (by omega))) ?_
    rintro e V2 ⟨rfl,hRn2,gn2⟩
    have g2 : V1.grownBy V2 (some M) := grown_trans (grown_of_below dw2) gn2
    have sg2 := g2.size
    have fM2 : MixH V2 M x3 q c [nilV,nilV,nilV] := by
     have h := hRn2.cells
     rw [← hE2] at h
     rw [hx3]; exact h
    have ho2 := own_box ho1 fM1 (by decide) g2
    have f02 := (g2.block L (hlt f01) (by simp; omega)).trans f01
    have fD2 := (g2.block D (hlt fD1) (by simp; omega)).trans fD1
    have hb2 : Below w.heap.size w V2 := hb1.trans (below_grown g2 hb1.size (by omega))
    have hS2 := (hPs y hym).below hb2
    obtain ⟨x4,hx4⟩ : ∃ z : ExD,z = { x3 with rm := putR x.ev.length y.1.rmw x.rm } := ⟨_,rfl⟩
    obtain ⟨A3,Z3,hA3,hE3⟩ := ex_rm x3 q c [nilV,nilV,nilV]
    have hx3rm : x3.rm = x.rm := by rw [hx3]; rw [hx2]; rw [hx1]
    have hR3 : RelAt V2 M 246 133 A3 Z3 x.rm := ⟨hA3,by
     have h := hE3 x3.rm
     rw [hx3rm] at h
     rw [← h,← hx3rm]; exact fM2⟩
    have dw3 : Below V2.heap.size V2 V2.drew := (Below.refl _ _).drew
    refine DrawE.ord [6] [0,1,2,3,4,5,6] (by kernel_rfl) ?_
    refine ⟨.slice y.2.2.2.2.1 y.1.rmw.length y.2.2.2.2.2,cells_at (cells_block (hdr fD2)) (i := 3) rfl,?_⟩
    refine Calls.mono (put_c (f := x.ev.length) (hR3.same (Y := V2.drew) rfl) hw3 ((hS2.rm).below dw3) (fun a ha => by have := hS2.lt a (.inr (.inr ha)); omega) lrm (putOk_of brm (by omega))) ?_
    rintro e V3 ⟨rfl,hRn3,gn3⟩
    have g3 : V2.grownBy V3 (some M) := grown_trans (grown_of_below dw3) gn3
    have sg3 := g3.size
    have fM3 : MixH V3 M x4 q c [nilV,nilV,nilV] := by
     have h := hRn3.cells
     rw [← hE3] at h
     rw [hx4]; exact h
    have ho3 := own_box ho2 fM2 (by decide) g3
    have f03 := (g3.block L (hlt f02) (by simp; omega)).trans f02
    have fD3 := (g3.block D (hlt fD2) (by simp; omega)).trans fD2
    have hb3 : Below w.heap.size w V3 := hb2.trans (below_grown g3 hb2.size (by omega))
    have hS3 := (hPs y hym).below hb3
    have hx5 : asStep x k y.1 = { x4 with regs := fun i => if i / 8 = k then y.1.regs (i % 8) else x4.regs i } := by rw [hx4,hx3,hx2,hx1]; rfl
    obtain ⟨A5,Z5,hA5,hE5⟩ := ex_regs x4 q c [nilV,nilV,nilV]
    have hM5 : exC x4 q c ++ [nilV,nilV,nilV] = A5 ++ (seg 32 (fun i => u8 (x4.regs i)) ++ Z5) := hE5 x4.regs
    have fM5 : V3.heap[M]? = some (.cells (A5 ++ (seg 32 (fun i => u8 (x4.regs i)) ++ Z5)).toArray 133 (0,0)) := by rw [← hM5]; exact fM3
    have hsub : ((pthE.enc y).drop 4).take 8 = seg 8 (fun i => u8 (y.1.regs i)) := List.take_of_length_le (by rw [List.length_drop,pthE.len]; decide)
    refine DrawE.ord [8] [0,1,2,3,4,5,6,7,8] (by kernel_rfl) ?_
    refine ⟨seg 8 (fun i => u8 (y.1.regs i)),seg_len _ _,by rw [← hsub]; have := cells_sub (n := 4) (m := 8) (cells_block (hdr fD3)); exact this,hlt (hdr fD3),?_⟩
    refine ⟨k,rfl,by omega,?_⟩
    refine store_part (ttOk.get 28 _ rfl) (hdr fM5) (o := 295 + k * 8) (v := .agg (seg 8 (fun i => u8 (y.1.regs i))).toArray) (seg_len _ _) (by show 295 + k * 8 + (seg 8 _).length ≤ (A5 ++ (seg 32 _ ++ Z5)).length; rw [← hM5,List.length_append,exC_len,seg_len]; show _ ≤ 336; omega) (seg_one fun _ => rfl) fun S fS gS sS => ?_
    obtain ⟨x5,hx5e⟩ : ∃ x5,x5 = asStep x k y.1 := ⟨_,rfl⟩
    have fS : MixH S M x5 q c [nilV,nilV,nilV] := by
     refine fS.trans ?_
     have e1 := part_app (A := A5) (Z := Z5) (l := seg 32 (fun i => u8 (x4.regs i))) (r := seg 8 (fun i => u8 (y.1.regs i))) (o := k * 8) (m := 8) hA5 (by rw [seg_len]; omega) (seg_len _ _)
     rw [seg_regs (by omega)] at e1
     rw [hx5e,hx5,hE5,← e1]
     show some (Obj.cells ((A5 ++ (seg 32 (fun i => u8 (x4.regs i)) ++ Z5)).take (295 + k * 8) ++ seg 8 (fun i => u8 (y.1.regs i)) ++ (A5 ++ (seg 32 (fun i => u8 (x4.regs i)) ++ Z5)).drop (295 + k * 8 + (seg 8 (fun i => u8 (y.1.regs i))).length)).toArray _ _) = _
     rw [seg_len]
    have dw4 : Below V3.heap.size V3 V3.drew := (Below.refl _ _).drew
    have g4 : V3.grownBy S (some M) := grown_trans (grown_of_below dw4) gS
    have hev5 : x5.ev = x.ev ++ thEv k y.1.ev := by rw [hx5e]; rfl
    have hx1e : x1.ev = x5.ev := by rw [hx1,hev5]
    have hlen5 : x5.ev.length = x.ev.length + y.1.ev.length := by rw [hev5,List.length_append]; unfold thEv; rw [List.length_map]
    refine ⟨((k + 1 : Nat) : Int),(wrap_i64 (by omega)).trans (by omega),?_⟩
    refine ⟨(k + 1,x5,q,c),⟨.cons rfl (.cons rfl (.cons rfl (.cons rfl (.cons rfl (.cons rfl (.cons rfl (.cons rfl .nil))))))),rfl⟩,⟨hkl,by rw [hx5e]; exact hacc,by rw [hlen5]; exact hfold,?_,fun e he hk => ?_,fS,?_,(g4.block L (hlt f03) (by simp; omega)).trans f03,hb3.trans (below_grown g4 hb3.size (by omega))⟩,by show Ps.length - (k + 1) < Ps.length - k; omega⟩
    ·rw [hx5e]
     exact ⟨putF_wrd hw1 (putOk_of bdt (by omega)),putF_wrd hw2 (putOk_of bct (by omega)),putF_wrd hw3 (putOk_of brm (by omega))⟩
    ·have he : e ∈ x5.ev := he
     rw [hev5] at he
     rcases List.mem_append.1 he with he | he
     ·exact hloc e he hk
     ·unfold thEv at he
      obtain ⟨e',he',rfl⟩ := List.mem_map.1 he
      exact bloc e' he' hk
    ·show OwnS evE 52 w.heap.size S q c x5.ev
     rw [hev5]
     exact own_box ho3 fM3 (by decide) g4
  ·have hc : ¬ (k : Int) < (Ps.length : Int) := of_decide_eq_false hc
   rw [List.drop_eq_nil_of_le (by rw [List.length_map]; omega)] at hacc hfold
   have hacc : x = asR 0 (Ps.map (·.1)) x0 := hacc
   have hfold : x.ev.length = N := hfold
   rw [← hacc]
   exact ⟨(q,c),⟨.cons rfl (.cons rfl (.cons rfl (.cons rfl (.cons rfl .nil)))),rfl⟩,fM,ho,hfold,hloc,f0,hbY⟩
 clear fM ho f0 hbX
 rintro ⟨q,c⟩ X ⟨fM,ho,hxl,hloc,f0,hbX⟩
 dsimp only at fM ho ⊢
 obtain ⟨AX,hAX⟩ : ∃ AX,AX = asR 0 (Ps.map (·.1)) x0 := ⟨_,rfl⟩
 rw [← hAX] at fM ho hxl hloc
 obtain ⟨BX,hBX⟩ : ∃ BX : ExD,BX = { AX with po := poR AX.ev } := ⟨_,rfl⟩
 have hbase : baseR init (Ps.map (·.1)) = BX := by
  rw [hBX,hAX,hx0,hN]; rfl
 rw [hbase]
 refine ⟨Unit,fun _ => ⟨[(0,At0 bP),(1,.slice pp Ps.length cp),(4,At0 L),(9,At0 M),(10,At0 M)],[]⟩,fun _ X => MixH X M BX q c [nilV,nilV,nilV] ∧ OwnS evE 52 w.heap.size X q c BX.ev ∧ X.heap[L]? = some (.cells (zt133).toArray 133 (0,0)) ∧ Below w.heap.size w X,?_,?_⟩
 ·refine ⟨_,mixH_ev fM,?_⟩
  refine Calls.mono (programOrder_c ho.row (by omega)) ?_
  rintro e Y ⟨rfl,hbY⟩
  have fMY := block_below hbY fM
  obtain ⟨A5,Z5,hA5,hE5⟩ := ex_po AX q c [nilV,nilV,nilV]
  have hM5 : exC AX q c ++ [nilV,nilV,nilV] = A5 ++ (relC AX.po ++ Z5) := hE5 AX.po
  have fM5 : Y.heap[M]? = some (.cells (A5 ++ (relC AX.po ++ Z5)).toArray 133 (0,0)) := by rw [← hM5]; exact fMY
  refine store_part (ttOk.get 27 _ rfl) fM5 (o := 0 + 1) (v := .agg (relC (poR AX.ev)).toArray) (relC_len _) (by show 0 + 1 + (relC _).length ≤ (A5 ++ (relC AX.po ++ Z5)).length; rw [← hM5,List.length_append,exC_len,relC_len]; decide) (relC_one _) fun S fS gS sS => ?_
  have fS : MixH S M BX q c [nilV,nilV,nilV] := by
   refine fS.trans ?_
   have e1 := part_app (A := A5) (Z := Z5) (l := relC AX.po) (r := relC (poR AX.ev)) (o := 0) (m := 49) hA5 (by rw [relC_len]; omega) (relC_len _)
   rw [hBX,hE5]
   have e2 : (relC AX.po).take 0 ++ relC (poR AX.ev) ++ (relC AX.po).drop (0 + 49) = relC (poR AX.ev) := by
    rw [List.take_zero,List.nil_append,List.drop_eq_nil_of_le (by rw [relC_len]; omega),List.append_nil]
   rw [e2] at e1
   rw [← e1]
   show some (Obj.cells ((A5 ++ (relC AX.po ++ Z5)).take (0 + 1) ++ relC (poR AX.ev) ++ (A5 ++ (relC AX.po ++ Z5)).drop (0 + 1 + (relC (poR AX.ev)).length)).toArray _ _) = _
   rw [relC_len]
  have hLX := hlt f0
  have hbwY := hbX.trans (hbY.mono hbX.size)
  exact ⟨(),⟨.cons rfl (.cons rfl (.cons rfl (.cons rfl (.cons rfl .nil)))),rfl⟩,fS,by rw [hBX]; exact own_box (ho.below hbY) fMY (by decide) gS,(gS.block L (hlt (block_below hbY f0)) (by simp; omega)).trans (block_below hbY f0),hbwY.trans (below_grown gS hbwY.size (by omega))⟩
 have hBe : BX.ev = AX.ev := by rw [hBX]
 clear fM ho f0 hbX
 rintro _ X ⟨fM,ho,f0,hbX⟩
 refine ⟨List Value,fun _ => ⟨[(0,At0 bP),(1,.slice pp Ps.length cp),(4,At0 L),(9,At0 M),(10,At0 M)],[]⟩,fun vs X => X.heap[M]? = some (.cells vs.toArray 133 (0,0)) ∧ MixV w.heap.size X vs (choiceR BX init.length) ∧ X.heap[L]? = some (.cells (zt133).toArray 133 (0,0)) ∧ Below w.heap.size w X,?_,?_⟩
 ·refine ⟨_,ldP hbX h1,?_⟩
  have hqM : ∀ a,q = some a → a.block ≠ M := fun a ha e => by
   obtain ⟨_,_,cur,h'⟩ := own_at ho ha
   rw [e,fM] at h'
   simp at h'
  refine Calls.mono (choices_c fM ho.row hqM (by rw [hBe]; omega) (by omega) (by rw [hBe]; exact hloc)) ?_
  rintro e Y ⟨rfl,⟨p1,p2,p3,c1,c2,c3,xs,ys,fY,h1',h2',h3',h4',h5',h6',h7'⟩,gY⟩
  have hwX := hbX.size
  refine ⟨_,⟨.cons rfl (.cons rfl (.cons rfl (.cons rfl (.cons rfl .nil)))),rfl⟩,fY,⟨q,p1,p2,p3,c,c1,c2,c3,xs,ys,rfl,own_box ho fM (by decide) gY,h1'.lower hwX,h2',h3'.lower hwX,fun y hy => (h4' y hy).lower hwX,h5',h6'.lower hwX,fun y hy => (h7' y hy).lower hwX⟩,(gY.block L (hlt f0) (by simp; omega)).trans f0,hbX.trans (below_grown gY hbX.size (by omega))⟩
 clear fM ho f0 hbX
 rintro vs X ⟨fM,hv,f0,hbX⟩
 have hvl : vs.length = 336 := by
  obtain ⟨q,p1,p2,p3,c,c1,c2,c3,xs,ys,e,_⟩ := hv
  rw [e,List.length_append,exC_len]; rfl
 have hv1 : vs.all Value.oneCell' = true := by
  obtain ⟨q,p1,p2,p3,c,c1,c2,c3,xs,ys,e,_⟩ := hv
  rw [e,List.all_append,exC_one]; rfl
 refine ⟨vs,hvl,cells_block fM,hlt fM,?_⟩
 refine store_box (v := .agg vs.toArray) (ttOk.get 133 _ rfl) f0 hvl ztmix_len hv1 ?_
 refine ⟨vs,hvl,cells_block (setRow_new f0),⟨vs,rfl,?_⟩,below_setRow hbX (by omega) _⟩
 obtain ⟨q,p1,p2,p3,c,c1,c2,c3,xs,ys,e,k1,k2,k3,k4,k5,k6,k7,k8⟩ := hv
 have kp : ∀ {α : Type} {E : Enc α} {T cc : Nat} {r : Option Addr} {ll : List α},T ≠ 133 → OwnS E T w.heap.size X r cc ll → OwnS E T w.heap.size (X.setRow L vs.toArray) r cc ll := fun {α E T cc r ll} hT h => own_box h f0 hT (grown_setRow X L _)
 exact ⟨q,p1,p2,p3,c,c1,c2,c3,xs,ys,e,kp (by decide) k1,kp (by decide) k2,k3,kp (by decide) k4,fun y hy => kp (by decide) (k5 y hy),k6,kp (by decide) k7,fun y hy => kp (by decide) (k8 y hy)⟩
end
end Go.Proofs.YtkpcgpmimejimaaGreatDoor
namespace Go.Vc
open Go.RowKit
def IterH {α : Type} (P : Program) (g : Nat) (lb : List Value) (xs : List α) (W0 : World) (Rd : Nat → Prop) (St : List α → List Value → World → Prop) (Gv : List Value → Nat → Prop) : Prop :=
 ∀ (l : Nat) (F0 : Nat → Prop) (J : List α → (Nat → Prop) → World → Prop) (W : World),W0.heap.size ≤ W.heap.size → (∀ k,Rd k → W.heap[k]? = W0.heap[k]?) → (∀ k,Rd k → ¬ F0 k) →
  JG W.heap.size (fun _ => False) J →
  (∀ pre x vs F W1,J pre F W1 → St (pre ++ [x]) vs W1 → (∀ k,Gv vs k → W.heap.size ≤ k) → (pre ++ [x]) <+: xs → YieldR P l vs.toArray W1 fun v W2 =>
   v = .bool true ∧ ∃ F',J (pre ++ [x]) F' W2 ∧ KeepsG (fun k => F k ∨ Gv vs k) F' W1 W2) →
  J [] F0 W →
  Calls P g (.func (.yield l) #[] #[] :: lb).toArray W fun e W' => (∃ v,e = .returned v) ∧ ∃ F',J xs F' W'
theorem rangeH {α : Type} {S : Sig} (hS : SigOk S) (hr : S.r = none) {f : Operand} {ps : Array Tmp} {assign body : Code} {E : Env} {w : World} {Q : Exit → Env → World → Prop}
  {gf : Nat} {lb : Array Value} (hg : opd E f = some (.func (.func gf) #[] lb)) (hok : calleeOk S gf = true)
  {xs : List α} {W0 : World} {Rd : Nat → Prop} {St : List α → List Value → World → Prop} {Gv : List Value → Nat → Prop} (hI : IterH S.P gf lb.toList xs W0 Rd St Gv) (hGv : ∀ pre vs W k,St pre vs W → Gv vs k → ∃ cs t fr,W.heap[k]? = some (.cells cs t fr)) (hW0 : W0.heap.size ≤ w.heap.size) (hRd : ∀ k,Rd k → k < W0.heap.size ∧ w.heap[k]? = W0.heap[k]?)
  (hps : ∀ pre vs W,St pre vs W → vs.length = ps.size) (hpn : ∀ p ∈ ps.toList,p < S.n)
  (F0 : Nat → Prop) (J : List α → (Nat → Prop) → World → Prop) (hRF : ∀ k,Rd k → ¬ F0 k)
  (hJ : JG w.heap.size (fun _ => False) J) (h0 : J [] F0 w)
  (hround : ∀ (l : Nat) (pre : List α) (x : α) (vs : List Value) (F : Nat → Prop) (W : World),w.heap.size ≤ l → (pre ++ [x]) <+: xs → J pre F W → St (pre ++ [x]) vs W → (∀ k,Gv vs k → w.heap.size ≤ k) → ¬ F l → (∃ lo,W.heap[l]? = some (.loop lo)) →
   wpE (sr S l) assign ⟨setL ps.toList vs E.vs,[]⟩ W fun ex E1 W1 => ex = .normal ∧ ∃ F1,KeepsG (fun k => F k ∨ Gv vs k) F1 W W1 ∧ J pre F1 W1 ∧
    ∀ o W2,W2 = W1.putObj l o → J pre F1 W2 → wpE (sr S l) body E1 W2 (bodyG F1 J (fun _ _ _ _ => False) (pre ++ [x]) W2))
  (hdone : ∀ D F W,w.heap.size ≤ D → ¬ F D → J xs F W → W.heap[D]? = some (.deferred (some [])) → Q .normal ⟨E.vs,{ target := .collected D,args := #[] } :: E.ds⟩ W) :
  RangeE S f ps assign body E w Q := by
 intro a ha
 have hcall : ∀ args w,(callFunc gf args).run S.P w = .ok (.enter gf args) w := by
  simp only [calleeOk,Bool.and_eq_true,Nat.ble_eq,Nat.blt_eq] at hok
  exact fun args w => hS.call gf hok.1.1 hok.1.2 hok.2 args w
 refine wpIn_rangeFunc ?_
 intro fn hfn
 have hro : (FR S.r).round = none := hr
 rw [hro]
 obtain ⟨rec,hrec⟩ : ∃ rec : LoopState → Option Code → Loop,rec = fun st pe => { state := st,pending := pe,fn,tmps := a.tmps,params := ps,assign,body,defers := w.heap.size } := ⟨_,rfl⟩
 obtain ⟨W1,hW1⟩ : ∃ W1,(w.alloc (.deferred (some []))).alloc (.loop (rec .ready none)) = W1 := ⟨_,rfl⟩
 have hK0 := hnew w (.deferred (some []))
 have hK1 : W1.heap[w.heap.size]? = some (.deferred (some [])) := by rw [← hW1]; exact hold _ hK0
 have hL1 : W1.heap[w.heap.size + 1]? = some (.loop (rec .ready none)) := by
  rw [← hW1]; have := hnew (w.alloc (.deferred (some []))) (.loop (rec .ready none)); rwa [World.size_alloc] at this
 have hs1 : W1.heap.size = w.heap.size + 2 := by rw [← hW1]; simp
 have hst1 : Below w.heap.size w W1 := by
  rw [← hW1]; exact ((Below.refl _ w).alloc (Nat.le_refl _) _).alloc (by simp) _
 have hJ1 := hJ.step _ _ _ _ h0 (.below hst1)
 have hFl : ∀ k,F0 k → k < w.heap.size := fun k hk => (hJ.lt _ _ _ k h0 hk).1
 refine ⟨w.heap.size + 1,[{ target := .collected w.heap.size,args := #[] }],W1,{ target := .fn (.func gf) lb,args := #[.func (.yield (w.heap.size + 1)) #[] #[]] },W1,gf,
  #[.func (.yield (w.heap.size + 1)) #[] #[]] ++ lb,W1,?_,?_,fun _ _ => trivial,?_,fun h => by simp [FR] at h,?_⟩
 ·rw [← hW1,hrec]; exact run_enterLoop_outer _ _ _ _ _
 ·have hg' := ha.eval hg
  simp only [resolve,hg']
  simp [go_sem]
 ·simp [invoke,go_sem,hcall]
 ·have hargs : #[Value.func (.yield (w.heap.size + 1)) #[] #[]] ++ lb = (Value.func (.yield (w.heap.size + 1)) #[] #[] :: lb.toList).toArray := by rw [← Array.toList_inj]; simp
  rw [hargs]
  have book : ∀ {σ : Type} {K : σ → (Nat → Prop) → World → Prop} (lo : Loop),JG w.heap.size (fun _ => False) K → JG W1.heap.size (fun _ => False) (fun s F W => K s F W ∧ W.heap[w.heap.size + 1]? = some (.loop lo) ∧ W.heap[w.heap.size]? = some (.deferred (some [])) ∧ ¬ F (w.heap.size + 1) ∧ ¬ F w.heap.size) := by
   intro σ K lo hK
   refine ⟨fun s F A B ⟨hk,hl,hd,hf1,hf2⟩ hs => ?_,fun s F A k ⟨hk,_⟩ hf => hK.lt s F A k hk hf⟩
   exact ⟨hK.step s F A B hk (hs.mono (by omega)),(hs.same _ (hlt hl) (.inl ⟨by omega,fun h => h⟩)).trans hl,(hs.same _ (hlt hd) (.inl ⟨by omega,fun h => h⟩)).trans hd,hf1,hf2⟩
  have hcalls := hI (w.heap.size + 1) F0 (fun pre F W => J pre F W ∧ W.heap[w.heap.size + 1]? = some (.loop (rec .ready none)) ∧ W.heap[w.heap.size]? = some (.deferred (some [])) ∧ ¬ F (w.heap.size + 1) ∧ ¬ F w.heap.size)
   W1 (by omega) (fun k hk => by
    obtain ⟨h1,h2⟩ := hRd k hk
    rw [← h2]
    exact hst1.block k (by omega)) hRF (book _ hJ) ?_ ⟨hJ1,hL1,hK1,fun h => by have := hFl _ h; omega,fun h => by have := hFl _ h; omega⟩
  ·refine callsIn_of (hcalls.mono ?_)
   rintro e W2 ⟨⟨v,rfl⟩,F,hj,hl,hk,hf1,hf2⟩
   have hj2 := hJ.step _ _ _ _ hj (StepG.put (Ow := fun _ => False) (o := .loop (rec .exhausted none)) (n0 := w.heap.size) (l := w.heap.size + 1) (by omega) hf1)
   refine ⟨none,_,by have := run_endLoop (P := S.P) hl (by rw [hrec]; simp); rw [hrec] at this; exact this,?_⟩
   rw [hrec] at hj2
   exact ⟨⟨E.vs,{ target := .collected w.heap.size,args := #[] } :: E.ds⟩,⟨ha.size,by simp [ha.defers],ha.val⟩,hdone w.heap.size F _ (Nat.le_refl _) hf2 hj2 ((heap_put_old (by omega)).trans hk)⟩
  ·rintro pre x vs F W ⟨hj,hl,hk,hf1,hf2⟩ hst0 hgv0 hpre
   have hg1 : ¬ (F (w.heap.size + 1) ∨ Gv vs (w.heap.size + 1)) := fun h => h.elim hf1 fun h => by
    obtain ⟨_,_,_,h2⟩ := hGv _ _ _ _ hst0 h
    rw [hl] at h2; cases h2
   have hg2 : ¬ (F w.heap.size ∨ Gv vs w.heap.size) := fun h => h.elim hf2 fun h => by
    obtain ⟨_,_,_,h2⟩ := hGv _ _ _ _ hst0 h
    rw [hk] at h2; cases h2
   have hy := run_yield (P := S.P) (args := vs.toArray) hl (by rw [hrec]; simpa using hps _ _ _ hst0)
   rw [hrec] at hy
   refine ⟨fn,_,assign,body,hy,roundIn_any (r := none) (n := NN) (roundIn_of_wpIn (F := FR none) trivial ?_)⟩
   have hag : Agrees (sr S (w.heap.size + 1)) { tmps := (ps.zip vs.toArray).foldl (fun t (p,v) => t.setIfInBounds p v) a.tmps,defers := [] } ⟨setL ps.toList vs E.vs,[]⟩ := by
    have h1 : Agrees (sr S (w.heap.size + 1)) { a with defers := [] } ⟨E.vs,[]⟩ := ⟨ha.size,rfl,ha.val⟩
    have h2 := setL_agrees ps.toList vs _ _ h1 hpn
    have e : (ps.zip vs.toArray).foldl (fun t (p,v) => t.setIfInBounds p v) a.tmps = (ps.toList.zip vs).foldl (fun t (p,v) => t.setIfInBounds p v) a.tmps := by
     rw [← Array.foldl_toList]; simp
    rw [e]; exact h2
   have hw := wpE_sound (sr_ok hS _) assign _ _ W _ hag (hround (w.heap.size + 1) pre x vs F W (by omega) hpre hj hst0 (fun k hk => by have := hgv0 k hk; omega) hf1 ⟨_,hl⟩)
   refine wpIn_mono hw ?_
   rintro ex a1 Wa ⟨E1,hag1,rfl,F1,hk1,hj1,hbody⟩
   have hla := (hk1.same _ (hlt hl) hg1).trans hl
   have hka := (hk1.same _ (hlt hk) hg2).trans hk
   have hfa1 : ¬ F1 (w.heap.size + 1) := fun h => by rcases hk1.fp _ h with h | h; exact hg1 h; have := hlt hl; omega
   have hfa2 : ¬ F1 w.heap.size := fun h => by rcases hk1.fp _ h with h | h; exact hg2 h; have := hlt hk; omega
   refine ⟨_,run_beginRound hla (by rw [hrec]),?_⟩
   have hst : StepG w.heap.size (fun _ => False) F1 Wa (Wa.putObj (w.heap.size + 1) (.loop { rec .ready none with state := .busy })) := .put (by omega) hfa1 _
   have hj2 := hJ.step _ _ _ _ hj1 hst
   have hw2 := wpE_sound (sr_ok hS _) body _ _ _ _ hag1 (hbody _ _ rfl hj2)
   refine wpIn_mono hw2 ?_
   have hl2 : (Wa.putObj (w.heap.size + 1) (.loop { rec .ready none with state := .busy })).heap[w.heap.size + 1]? = some (.loop { rec .ready none with state := .busy }) := heap_put hla
   have hk2 : (Wa.putObj (w.heap.size + 1) (.loop { rec .ready none with state := .busy })).heap[w.heap.size]? = some (.deferred (some [])) := (heap_put_old (by omega)).trans hka
   rintro e a3 W3 ⟨E3,_,hq⟩
   cases e with
   | normal =>
    obtain ⟨F3,hj3,hk3⟩ := hq
    have hl3 := (hk3.same _ (hlt hl2) hfa1).trans hl2
    have hd3 := (hk3.same _ (hlt hk2) hfa2).trans hk2
    have hf31 : ¬ F3 (w.heap.size + 1) := fun h => by rcases hk3.fp _ h with h | h; exact hfa1 h; have := hlt hl2; omega
    have hf32 : ¬ F3 w.heap.size := fun h => by rcases hk3.fp _ h with h | h; exact hfa2 h; have := hlt hk2; omega
    have hr3 := run_endRound (P := S.P) none hl3
    have hl4 := heap_put (o' := .loop (rec .ready none)) hl3
    have hk4 : (W3.putObj (w.heap.size + 1) (.loop (rec .ready none))).heap[w.heap.size]? = some (.deferred (some [])) := (heap_put_old (by omega)).trans hd3
    have hs3 : StepG w.heap.size (fun _ => False) F3 W3 (W3.putObj (w.heap.size + 1) (.loop (rec .ready none))) := .put (by omega) hf31 _
    have hj4 := hJ.step _ _ _ _ hj3 hs3
    rw [hrec] at hr3 hl4 hk4 hs3 hj4
    refine ⟨_,_,hr3,rfl,F3,⟨hj4,by rw [hrec]; exact hl4,hk4,hf31,hf32⟩,?_⟩
    refine ⟨hs3.os.trans (hk3.os.trans hk1.os),hs3.tape.trans (hk3.tape.trans hk1.tape),hs3.output.trans (hk3.output.trans hk1.output),?_,fun k hk5 hf5 => ?_,fun k hk5 => ?_⟩
    ·have h1 := hk1.size; have h2 := hst.size; have h3 := hk3.size; have h4 := hs3.size
     exact Nat.le_trans (Nat.le_trans (Nat.le_trans h1 h2) h3) h4
    ·by_cases hkl : k = w.heap.size + 1
     ·subst hkl; rw [hl,hrec]; exact hl4
     ·have h1 : ¬ F1 k := fun h => by rcases hk1.fp _ h with h | h; exact hf5 h; omega
      have h2 := hk1.size; have h3 := hst.size
      rw [heap_put_old hkl,hk3.same k (by omega) h1,heap_put_old hkl]
      exact hk1.same k hk5 hf5
    ·rcases hk3.fp _ hk5 with h2 | h2
     ·exact hk1.fp _ h2
     ·have h3 := hk1.size; have h4 := hst.size; exact .inr (by omega)
   | ret => exact (show False from (by obtain ⟨_,h,_⟩ := hq; exact h)).elim
   | exit id => exact (show False from (by obtain ⟨_,h,_⟩ := hq; exact h)).elim
   | goto t => exact hq.elim
   | panic ch => exact hq.elim
   | outgrown => exact hq.elim
end Go.Vc
namespace Go.Proofs.YtkpcgpmimejimaaGreatDoor
open Go.Vc Go.RowKit Go.Sei
abbrev NatLL := List NatL × Option Addr × Nat
def rnkE : Enc NatLL where
 sz := 1
 enc x := [.slice x.2.1 x.1.length x.2.2]
 len x := rfl
 one x v hv := by
  simp at hv
  subst hv
  rfl
 pos := by decide
structure MixM (Rd : Nat → Prop) (w : World) (b o : Nat) (m : MixD) (q : Option Addr) (c : Nat) (p1 p2 p3 : Option Addr) (c1 c2 c3 : Nat) (xs ys : List NatL) : Prop where
 cells : Cells w ⟨b,o,none⟩ (exC m.base q c ++ [.slice p1 m.rs.length c1,.slice p2 xs.length c2,.slice p3 ys.length c3])
 ev : SlR evE w q m.base.ev
 qn : q = none → c = 0
 r1 : SlR natE w p1 (m.rs.map (·.1))
 e2 : xs.map (·.1) = m.rs.map (·.2)
 r2 : SlR natLE w p2 xs
 n2 : ∀ y ∈ xs,SlR natE w y.2.1 y.1
 e3 : ys.map (·.1) = m.wr
 r3 : SlR natLE w p3 ys
 n3 : ∀ y ∈ ys,SlR natE w y.2.1 y.1
 db : Rd b
 dq : ∀ a,q = some a → Rd a.block
 d1 : ∀ a,p1 = some a → Rd a.block
 d2 : ∀ a,p2 = some a → Rd a.block
 d3 : ∀ a,p3 = some a → Rd a.block
 m2 : ∀ y ∈ xs,∀ a,y.2.1 = some a → Rd a.block
 m3 : ∀ y ∈ ys,∀ a,y.2.1 = some a → Rd a.block
theorem MixM.same {Rd : Nat → Prop} {w X : World} {b o : Nat} {m : MixD} {q : Option Addr} {c : Nat} {p1 p2 p3 : Option Addr} {c1 c2 c3 : Nat} {xs ys : List NatL} (h : MixM Rd w b o m q c p1 p2 p3 c1 c2 c3 xs ys) (hs : ∀ k,Rd k → X.heap[k]? = w.heap[k]?) : MixM Rd X b o m q c p1 p2 p3 c1 c2 c3 xs ys :=
 ⟨cells_same (hs _ h.db) h.cells,slr_same h.ev fun a ha => hs _ (h.dq a ha),h.qn,slr_same h.r1 fun a ha => hs _ (h.d1 a ha),h.e2,slr_same h.r2 fun a ha => hs _ (h.d2 a ha),fun y hy => slr_same (h.n2 y hy) fun a ha => hs _ (h.m2 y hy a ha),
  h.e3,slr_same h.r3 fun a ha => hs _ (h.d3 a ha),fun y hy => slr_same (h.n3 y hy) fun a ha => hs _ (h.m3 y hy a ha),h.db,h.dq,h.d1,h.d2,h.d3,h.m2,h.m3⟩
theorem mixM_at {w : World} {b o : Nat} {x : ExD} {q : Option Addr} {c : Nat} {S : List Value} (h : Cells w ⟨b,o,none⟩ (exC x q c ++ S)) {i : Nat} {v : Value} (hi : S[i]? = some v) : w.cell? ⟨b,o + (333 + i),none⟩ = some v := cells_at h (mix_get hi)
theorem appR {B c : Nat} {V1 : World} {p : Option Addr} {l : List NatLL} {y : NatLL} {a : Addr} (ho : OwnS rnkE 131 B V1 p c l) (ha : Cells V1 a ([y].flatMap rnkE.enc)) (hB : B ≤ V1.heap.size) (hl : l.length ≤ 100000) {K : Value → World → Prop}
  (h : ∀ p' c' w',OwnS rnkE 131 B w' p' c' (l ++ [y]) → V1.grownBy w' (p.map Addr.block) → (∀ a,p' = some a → p = some a ∨ a.block = V1.heap.size) → K (.slice p' (l ++ [y]).length c') w') :
  SatR ((Builtin.append_ #[169,169] 169 #[.slice p l.length c,.slice (some a) 1 1]).run Tryz.prog V1) K :=
 app_own (E := rnkE) (T := 131) (B := B) (l := l) (news := [y]) (cap := c) (m := 1) Tryz.underlying169 (ttOk.get 131 _ rfl) rfl rfl rfl ho rfl ha hB (by omega) (by show (l.length + 1) * 24 ≤ _; omega) fun p' c' w' a1 a2 _ a4 => h p' c' w' a1 (by rw [own_map] at a2; exact a2) a4
structure CanS (B : Nat) (Z : World) (yl L R : Nat) (ss : List Nat) (ps : Option Addr) (cs : Nat) (zs : List NatLL) (pr : Option Addr) (cr : Nat) : Prop where
 fL : Z.heap[L]? = some (.cells #[.func (.yield yl) #[] #[]] 35 (0,0))
 fR : Z.heap[R]? = some (.cells #[.slice pr zs.length cr] 169 (0,0))
 own : OwnS natE 3 B Z ps cs ss
 rk : OwnS rnkE 131 B Z pr cr zs
 n1 : ∀ z ∈ zs,OwnS natLE 95 B Z z.2.1 z.2.2 z.1
 n2 : ∀ z ∈ zs,∀ y ∈ z.1,OwnS natE 3 B Z y.2.1 y.2.2 y.1
 dis : ∀ z ∈ zs,∀ y ∈ z.1,∀ a b,ps = some a → y.2.1 = some b → a.block ≠ b.block
theorem CanS.below {B : Nat} {Z Y : World} {yl L R : Nat} {ss : List Nat} {ps : Option Addr} {cs : Nat} {zs : List NatLL} {pr : Option Addr} {cr : Nat} (h : CanS B Z yl L R ss ps cs zs pr cr) (hb : Below Z.heap.size Z Y) : CanS B Y yl L R ss ps cs zs pr cr :=
 ⟨block_below hb h.fL,block_below hb h.fR,h.own.below hb,h.rk.below hb,fun z hz => (h.n1 z hz).below hb,fun z hz y hy => (h.n2 z hz y hy).below hb,h.dis⟩
theorem CanS.size {B : Nat} {Z Y : World} {yl L R : Nat} {ss : List Nat} {ps : Option Addr} {cs : Nat} {zs : List NatLL} {pr : Option Addr} {cr : Nat} (h : CanS B Z yl L R ss ps cs zs pr cr) {ps' : Option Addr} {cs' n : Nat} (ho : OwnS natE 3 B Y ps' cs' (ss ++ [n])) (g : Z.grownBy Y (ps.map Addr.block)) (hat : ∀ a,ps' = some a → ps = some a ∨ a.block = Z.heap.size) : CanS B Y yl L R (ss ++ [n]) ps' cs' zs pr cr :=
 ⟨box_past h.fL h.own (by decide) g,box_past h.fR h.own (by decide) g,ho,own_pastT h.rk h.own (by decide) g,fun z hz => own_pastT (h.n1 z hz) h.own (by decide) g,fun z hz y hy => own_past (h.n2 z hz y hy) g fun a b ha hb => h.dis z hz y hy a b ha hb,fun z hz y hy a b ha hb => by
  rcases hat a ha with h1 | h1
  ·exact h.dis z hz y hy a b h1 hb
  ·have := (own_at (h.n2 z hz y hy) hb).2.1
   omega⟩
theorem rfF_wrd {ds : List Nat} : ∀ {rs : List (Nat × List Nat)} {ds : List Nat} {f : Nat → Nat},WrdR f → (∀ r ∈ rs,r.1 < 48) → WrdR (rfF rs ds f)
 | [],_,_,h,_ => h
 | (r,s) :: rs,ds,f,h,hr => by
  have h1 := hr (r,s) List.mem_cons_self
  refine rfF_wrd (rs := rs) (ds := ds.tail) (f := upd f (s.getD (ds.headD 0) 0) (f (s.getD (ds.headD 0) 0) ||| 2 ^ r)) ?_ fun x hx => hr x (List.mem_cons_of_mem _ hx)
  intro j hj
  by_cases e : j = s.getD (ds.headD 0) 0
  ·rw [e,upd_same]
   exact Nat.or_lt_two_pow (by rw [← e]; exact h j hj) (pow_lt64 (by have : r < 48 := h1; omega))
  ·rw [upd_ne _ _ e]; exact h j hj
theorem coG_wrd {ev : List Ev} : ∀ {Rs : List (List (List Nat))} {l : Nat} {ds : List Nat} {p : RelD × (Nat → UInt8)},WrdR p.1.to → (∀ R ∈ Rs,∀ k ∈ R,∀ a ∈ k,a < 48) → WrdR (coG ev l Rs ds p).1.to
 | [],_,_,_,h,_ => h
 | R :: Rs,l,ds,p,h,hr => by
  refine coG_wrd (Rs := Rs) (l := l + 1) (ds := ds.tail) (p := (lineR (R.getD (ds.headD 0) []) p.1,_)) ?_ fun x hx => hr x (List.mem_cons_of_mem _ hx)
  refine lineR_wrd h fun a ha => ?_
  rw [List.getD_eq_getElem?_getD] at ha
  cases hg : R[ds.headD 0]? with
  | none => rw [hg] at ha; cases ha
  | some k =>
   rw [hg] at ha
   exact hr R List.mem_cons_self k (List.mem_of_getElem? hg) a ha
section
variable (x : ExD) (q : Option Addr) (c : Nat)
theorem exA_rf : ∃ A Z,A.length = 50 ∧ ∀ r,exC { x with rf := r } q c = A ++ (relC r ++ Z) := by
 obtain ⟨A,Z,h1,h2⟩ := ex_rf x q c []
 exact ⟨A,Z,h1,fun r => by rw [← h2,List.append_nil]⟩
theorem exA_co : ∃ A Z,A.length = 99 ∧ ∀ r,exC { x with co := r } q c = A ++ (relC r ++ Z) := by
 obtain ⟨A,Z,h1,h2⟩ := ex_co x q c []
 exact ⟨A,Z,h1,fun r => by rw [← h2,List.append_nil]⟩
theorem exA_mem {l : Nat} (hl : l < 6) (v : UInt8) : (exC x q c).set (327 + l) (u8 v) = exC { x with mem := upd x.mem l v } q c := by
 obtain ⟨A,Z,h1,h2⟩ := ex_mem x q c []
 have e1 := h2 x.mem
 have e2 := h2 (upd x.mem l v)
 rw [List.append_nil] at e1 e2
 rw [e2]
 show (exC { x with mem := x.mem } q c).set _ _ = _
 rw [e1,set_app h1]
 have e3 := set_seg (B := Z) (f := fun i => u8 (x.mem i)) (fun i => u8 (upd x.mem l v i)) hl (fun j hj => by rw [upd_ne _ _ hj])
 rw [← e3,upd_same]
theorem exA_ev (l : List Ev) (q' : Option Addr) (c' : Nat) : (exC x q c).set 0 (.slice q' l.length c') = exC { x with ev := l } q' c' := rfl
end
end Go.Proofs.YtkpcgpmimejimaaGreatDoor
namespace Go.Proofs.YtkpcgpmimejimaaGreatDoor
open Go.Vc Go.RowKit Go.Sei
abbrev exE3 := ExD × Option Addr × Nat
def exE : Enc exE3 := ⟨fun x => exC x.1 x.2.1 x.2.2,333,fun _ => exC_len ..,by decide,fun a u hu => List.all_eq_true.1 (exC_one ..) u hu⟩
abbrev ExH (X : World) (b : Nat) (x : ExD) (q : Option Addr) (c : Nat) : Prop := X.heap[b]? = some (.cells (exC x q c).toArray 34 (0,0))
def StX (B : Nat) (pre : List ExD) (vs : List Value) (W : World) : Prop := ∃ x q c,pre.getLast? = some x ∧ vs = [.agg (exC x q c).toArray] ∧ OwnS evE 52 B W q c x.ev
def GvX (vs : List Value) (k : Nat) : Prop := ∃ (x : ExD) (a : Addr) (c : Nat),vs = [.agg (exC x (some a) c).toArray] ∧ k = a.block
theorem rows_sizes {xs : List NatL} {rs : List (Nat × List Nat)} (h : xs.map (·.1) = rs.map (·.2)) : xs.map (·.1.length) = rs.map fun r => r.2.length := by
 have := congrArg (List.map List.length) h
 rw [List.map_map,List.map_map] at this
 exact this
theorem ranks_sizes {zs : List NatLL} {ws : List (List Nat)} (h : zs.map (fun z => z.1.map (·.1)) = ws.map rankR) : zs.map (·.1.length) = ws.map fun w => (rankR w).length := by
 have := congrArg (List.map List.length) h
 rw [List.map_map,List.map_map] at this
 rw [← show zs.map (List.length ∘ fun z : NatLL => z.1.map (·.1)) = zs.map (·.1.length) from List.map_congr_left fun z _ => List.length_map _]
 exact this
section
variable {Rd : Nat → Prop} {W0 : World} {bx b o : Nat} {m : MixD} {q : Option Addr} {c : Nat} {p1 p2 p3 : Option Addr} {c1 c2 c3 : Nat} {xs ys : List NatL}
theorem cand1_c (hM : MixM Rd W0 b o m q c p1 p2 p3 c1 c2 c3 xs ys) (fx : W0.heap[bx]? = some (.cells #[.pointer (some ⟨b,o,none⟩)] 168 (0,0))) (hbx : Rd bx) (hRd : ∀ k,Rd k → k < W0.heap.size) (hT : Tz64M W0) (hRt : Rd 0) (hB : MixB m) (hev : m.base.ev.length ≤ 48) :
  IterH Tryz.prog 106 [At0 bx] (candsM m) W0 Rd (StX W0.heap.size) GvX := by
 intro yl F0 J W hsz hrd hrf hJ hy h0
 refine calls_of_M (S := sg 141) (sgOk _) (args := [.func (.yield yl) #[] #[],At0 bx]) (.c .p (.s .p (.c .p (.c .p (.c .p (.s .p .p)))))) Tryz.func106 rfl rfl (Nat.le_of_ble_eq_true rfl) rfl ?_
 have hMW := hM.same hrd
 have fxW := (hrd bx hbx).trans fx
 have hTW : Tz64M W := tz64_same hT (hrd _ hRt)
 have hRW : ∀ k,Rd k → k < W.heap.size := fun k hk => by have := hRd k hk; omega
 obtain ⟨L,hL⟩ : ∃ L,L = W.heap.size := ⟨_,rfl⟩
 have hxl : xs.length = m.rs.length := by have := congrArg List.length hM.e2; simpa using this
 have hyl : ys.length = m.wr.length := by have := congrArg List.length hM.e3; simpa using this
 have hrl48 := hB.rl
 have hwl6 := hB.wl
 have hx1 : ∀ y ∈ xs,y.1.length ≤ 1000 := fun y hy => by
  have : y.1 ∈ m.rs.map (·.2) := by rw [← hM.e2]; exact List.mem_map.2 ⟨y,hy,rfl⟩
  obtain ⟨r,hr,he⟩ := List.mem_map.1 this
  rw [← he]; exact (hB.rs r hr).2.1
 refine ⟨Unit,fun _ => ⟨[(1,At0 bx),(2,At0 L)],[]⟩,fun _ X => X.heap[L]? = some (.cells #[.func (.yield yl) #[] #[]] 35 (0,0)) ∧ X.heap.size = L + 1 ∧ Below W.heap.size W X,?_,?_⟩
 ·exact ⟨(),⟨.cons rfl (.cons (by rw [hL]; rfl) .nil),rfl⟩,by rw [hL]; exact hnew W _,by rw [hL]; exact World.size_alloc _ _,(Below.refl _ W).alloc (Nat.le_refl _) _⟩
 rintro _ X ⟨fL,sX,hbX⟩
 refine ⟨Option Addr × Nat,fun s => ⟨[(1,At0 bx),(2,At0 L),(3,.slice s.1 (xs.map (·.1.length)).length s.2)],[]⟩,fun s Z => OwnS natE 3 W.heap.size Z s.1 s.2 (xs.map (·.1.length)) ∧ Z.heap[L]? = some (.cells #[.func (.yield yl) #[] #[]] 35 (0,0)) ∧ Below W.heap.size W Z,?_,?_⟩
 ·refine ⟨_,cells_at (cells_block (block_below hbX fxW)) (i := 0) rfl,?_⟩
  refine ⟨_,mixM_at (hMW.same fun k hk => hbX.block k (hRW k hk)).cells (i := 1) rfl,?_⟩
  refine ⟨Nat × Option Addr × Nat,fun s => ⟨[(1,At0 bx),(2,At0 L),(3,.slice s.2.1 ((xs.take s.1).map (·.1.length)).length s.2.2),(20,.slice p2 xs.length c2),(21,i64 xs.length),(22,i64 (s.1 : Nat))],[]⟩,
   fun s Z => s.1 ≤ xs.length ∧ OwnS natE 3 W.heap.size Z s.2.1 s.2.2 ((xs.take s.1).map (·.1.length)) ∧ Z.heap[L]? = some (.cells #[.func (.yield yl) #[] #[]] 35 (0,0)) ∧ Below W.heap.size W Z,fun s => xs.length - s.1,(0,none,0),
   ⟨.cons rfl (.cons rfl (.cons rfl (.cons rfl (.cons rfl (.cons rfl .nil))))),rfl⟩,⟨Nat.zero_le _,OwnS.nil,fL,hbX⟩,?_⟩
  rintro ⟨k,ps,cs⟩ Z ⟨hk,ho,fL,hbZ⟩
  dsimp only at hk ho ⊢
  refine And.intro (fun hc => ?_) (fun hc => ?_)
  ·have hc : (k : Int) < (xs.length : Int) := of_decide_eq_true hc
   have hkl : k < xs.length := by omega
   have hZM := hMW.same fun k hk => hbZ.block k (hRW k hk)
   obtain ⟨x,hx⟩ : ∃ x,xs[k] = x := ⟨_,rfl⟩
   obtain ⟨bp,op,hpe,hlp,hat⟩ := hZM.r2.at hkl
   subst hpe
   refine ⟨k,rfl,hkl,?_⟩
   refine ⟨slV x,by rw [← hx]; exact cells_at (hat k hkl) (i := 0) rfl,?_⟩
   refine ⟨⟨by decide,by decide,rfl⟩,natE.enc x.1.length,rfl,?_⟩
   have hb1 : Below Z.heap.size Z (Z.alloc (.cells (natE.enc x.1.length).toArray 3)) := (Below.refl _ _).alloc (Nat.le_refl _) _
   have hZs := hbZ.size
   have htl : ((xs.take k).map (·.1.length)).length = k := by rw [List.length_map,List.length_take]; omega
   have htk : (xs.take (k + 1)).map (·.1.length) = (xs.take k).map (·.1.length) ++ [x.1.length] := by
    rw [List.take_succ_eq_append_getElem hkl,List.map_append,hx]; rfl
   unfold opsE stepE
   show SatR _ _
   refine appI (ho.below hb1) (one_new natE x.1.length) (by have := hb1.size; omega) (by have := hB.rl; omega) fun p' c' U oU gU hat1 => ?_
   rw [own_map] at gU
   rw [← htk] at oU ⊢
   have fU := box_past (block_below hb1 fL) (ho.below hb1) (by decide) gU
   refine ⟨((k + 1 : Nat) : Int),(wrap_i64 (by omega)).trans (by omega),?_⟩
   exact ⟨(k + 1,p',c'),⟨.cons rfl (.cons rfl (.cons rfl (.cons rfl (.cons rfl (.cons rfl .nil))))),rfl⟩,⟨hkl,oU,fU,hbZ.trans ((hb1.mono hZs).trans (past_below (ho.below hb1) (by have := hb1.size; omega) (Nat.le_refl _) gU))⟩,by show xs.length - (k + 1) < xs.length - k; omega⟩
  ·have hc : ¬ (k : Int) < (xs.length : Int) := of_decide_eq_false hc
   obtain rfl : k = xs.length := by omega
   rw [List.take_length] at ho ⊢
   exact ⟨(ps,cs),⟨.cons rfl (.cons rfl (.cons rfl .nil)),rfl⟩,ho,fL,hbZ⟩
 clear fL sX hbX
 rintro ⟨ps,cs⟩ X ⟨ho,fL,hbX⟩
 dsimp only at ho ⊢
 refine ⟨Nat,fun R => ⟨[(1,At0 bx),(2,At0 L),(3,.slice ps (xs.map (·.1.length)).length cs),(6,At0 R)],[]⟩,fun R Z => CanS W.heap.size Z yl L R (xs.map (·.1.length)) ps cs [] none 0 ∧ L < R ∧ Below W.heap.size W Z,?_,?_⟩
 ·refine ⟨X.heap.size,⟨.cons rfl (.cons rfl (.cons rfl (.cons rfl .nil))),rfl⟩,⟨hold _ fL,hnew X _,ho.alloc _,OwnS.nil,fun z hz => (by cases hz),fun z hz => (by cases hz),fun z hz => (by cases hz)⟩,hlt fL,hbX.alloc hbX.size _⟩
 clear ho fL hbX
 rintro R X ⟨hS,hLR,hbX⟩
 refine ⟨(List NatLL × Option Addr × Nat) × Option Addr × Nat,fun s => ⟨[(1,At0 bx),(2,At0 L),(3,.slice s.2.1 (sizesR m).length s.2.2),(6,At0 R)],[]⟩,fun s Z => CanS W.heap.size Z yl L R (sizesR m) s.2.1 s.2.2 s.1.1 s.1.2.1 s.1.2.2 ∧ s.1.1.map (fun z => z.1.map (·.1)) = m.wr.map rankR ∧ Below W.heap.size W Z,?_,?_⟩
 ·refine ⟨_,cells_at (cells_block (block_below hbX fxW)) (i := 0) rfl,?_⟩
  refine ⟨_,mixM_at (hMW.same fun k hk => hbX.block k (hRW k hk)).cells (i := 2) rfl,?_⟩
  refine ⟨Nat × (List NatLL × Option Addr × Nat) × Option Addr × Nat,fun s => ⟨[(1,At0 bx),(2,At0 L),(3,.slice s.2.2.1 (xs.map (·.1.length) ++ s.2.1.1.map (·.1.length)).length s.2.2.2),(6,At0 R),(35,.slice p3 ys.length c3),(36,i64 ys.length),(37,i64 (s.1 : Nat))],[]⟩,
   fun s Z => s.1 ≤ ys.length ∧ CanS W.heap.size Z yl L R (xs.map (·.1.length) ++ s.2.1.1.map (·.1.length)) s.2.2.1 s.2.2.2 s.2.1.1 s.2.1.2.1 s.2.1.2.2 ∧ s.2.1.1.map (fun z => z.1.map (·.1)) = (ys.take s.1).map (fun y => rankR y.1) ∧ Below W.heap.size W Z,fun s => ys.length - s.1,(0,([],none,0),ps,cs),
   ⟨.cons rfl (.cons rfl (.cons (by simp; rfl) (.cons rfl (.cons rfl (.cons rfl (.cons rfl .nil)))))),rfl⟩,⟨Nat.zero_le _,by simpa using hS,rfl,hbX⟩,?_⟩
  clear hS hbX
  rintro ⟨k,⟨zs,pr,cr⟩,ps,cs⟩ Z ⟨hk,hS,hz,hbZ⟩
  dsimp only at hk hS hz ⊢
  have hzl : zs.length = k := by
   have := congrArg List.length hz
   rw [List.length_map,List.length_map,List.length_take] at this
   omega
  refine And.intro (fun hc => ?_) (fun hc => ?_)
  ·have hc : (k : Int) < (ys.length : Int) := of_decide_eq_true hc
   have hkl : k < ys.length := by omega
   have hZM := hMW.same fun k hk => hbZ.block k (hRW k hk)
   obtain ⟨y,hyk⟩ : ∃ y,ys[k] = y := ⟨_,rfl⟩
   have hym : y ∈ ys := by rw [← hyk]; exact List.getElem_mem hkl
   have hyw : y.1 ∈ m.wr := by rw [← hM.e3]; exact List.mem_map.2 ⟨y,hym,rfl⟩
   obtain ⟨bw1,bw2,bw3⟩ := hB.wr _ hyw
   obtain ⟨bp,op,hpe,hlp,hat⟩ := hZM.r3.at hkl
   subst hpe
   refine ⟨k,rfl,hkl,?_⟩
   refine ⟨slV y,by rw [← hyk]; exact cells_at (hat k hkl) (i := 0) rfl,?_⟩
   refine Calls.mono (orders_c (hZM.n3 y hym) bw1 (tz64_same hTW (hbZ.block _ (hRW _ hRt)))) ?_
   rintro e Y ⟨⟨rk,pk,ck,rfl,hrk,ork,onk⟩,hbY⟩
   have hZs := hbZ.size
   have hSY := hS.below hbY
   have hrkl : rk.length ≤ 10000 := by rw [← hrk,List.length_map] at bw2; exact bw2
   obtain ⟨nz,hnz⟩ : ∃ nz : NatLL,nz = (rk,pk,ck) := ⟨_,rfl⟩
   have hen : [Value.slice pk rk.length ck] = rnkE.enc nz := by rw [hnz]; rfl
   refine ⟨_,cells_at (cells_block hSY.fR) (i := 0) rfl,?_⟩
   refine ⟨⟨by decide,by decide,rfl⟩,rnkE.enc nz,by rw [← hen]; rfl,?_⟩
   have hb1 : Below Y.heap.size Y (Y.alloc (.cells (rnkE.enc nz).toArray 131)) := (Below.refl _ _).alloc (Nat.le_refl _) _
   have hS1 := hSY.below hb1
   have ork1 := ork.below hb1
   have onk1 := fun x hx => (onk x hx).below hb1
   unfold opsE stepE
   show SatR _ _
   refine appR hS1.rk (one_new rnkE nz) (by have := hb1.size; have := hbY.size; omega) (by have := hB.wl; omega) fun p' c' U oU gU hat1 => ?_
   have fLU := box_past hS1.fL hS1.rk (by decide) gU
   have fRU := box_past hS1.fR hS1.rk (by decide) gU
   refine store_one (ttOk.get 169 _ rfl) fRU (o := 0) (v := .slice p' (zs ++ [nz]).length c') rfl rfl (by show 0 < 1; decide) rfl fun S fS gS sS => ?_
   have hbZY := hbZ.trans (hbY.mono hZs)
   have sY := hbY.size
   have sb1 := hb1.size
   have hbU : Below W.heap.size W U := (hbZY.trans (hb1.mono (by omega))).trans (past_below hS1.rk (by omega) (Nat.le_refl _) gU)
   have hRn : W.heap.size ≤ R := by omega
   have hbS : Below W.heap.size W S := hbU.trans (below_grown gS hbU.size hRn)
   have hSS : CanS W.heap.size S yl L R (xs.map (·.1.length) ++ zs.map (·.1.length)) ps cs (zs ++ [nz]) p' c' := by
    have kU : ∀ {α : Type} {E : Enc α} {T cc : Nat} {r : Option Addr} {ll : List α},T ≠ 131 → T ≠ 169 → OwnS E T W.heap.size (Y.alloc (.cells (rnkE.enc nz).toArray 131)) r cc ll → OwnS E T W.heap.size S r cc ll := fun {α E T cc r ll} h1 h2 h => own_box (own_pastT h hS1.rk h1 gU) fRU h2 gS
    refine ⟨(gS.block L (hlt fLU) (by simp; omega)).trans fLU,fS,kU (by decide) (by decide) hS1.own,own_box oU fRU (by decide) gS,fun z hz => ?_,fun z hz => ?_,fun z hz => ?_⟩
    ·rcases List.mem_append.1 hz with hz | hz
     ·exact kU (by decide) (by decide) (hS1.n1 z hz)
     ·rw [List.mem_singleton.1 hz,hnz]
      exact kU (by decide) (by decide) (ork1.lower hZs)
    ·rcases List.mem_append.1 hz with hz | hz
     ·exact fun x hx => kU (by decide) (by decide) (hS1.n2 z hz x hx)
     ·rw [List.mem_singleton.1 hz,hnz]
      exact fun x hx => kU (by decide) (by decide) ((onk1 x hx).lower hZs)
    ·rcases List.mem_append.1 hz with hz | hz
     ·exact hS1.dis z hz
     ·rw [List.mem_singleton.1 hz,hnz]
      intro x hx a b ha hb
      have := (own_at (onk x hx) hb).1
      have := (own_at hS.own ha).2.1
      omega
   clear hS1 ork1 onk1 hSY hS oU gU hat1 fLU fRU fS gS
   refine ⟨⟨by decide,by decide,rfl⟩,natE.enc rk.length,rfl,?_⟩
   have hb2 : Below S.heap.size S (S.alloc (.cells (natE.enc rk.length).toArray 3)) := (Below.refl _ _).alloc (Nat.le_refl _) _
   have hS2 := hSS.below hb2
   have sbS := hbS.size
   have sb2 := hb2.size
   unfold opsE stepE
   show SatR _ _
   refine appI hS2.own (one_new natE rk.length) (by omega) (by rw [List.length_append,List.length_map,List.length_map]; have := hB.rl; have := hB.wl; omega) fun p2' c2' V oV gV hat2 => ?_
   rw [own_map] at gV
   have hSV := hS2.size oV gV hat2
   have hzz : (xs.map (·.1.length) ++ zs.map (·.1.length)) ++ [rk.length] = xs.map (·.1.length) ++ (zs ++ [nz]).map (·.1.length) := by
    rw [List.map_append,List.append_assoc,hnz]; rfl
   rw [hzz] at hSV ⊢
   refine ⟨((k + 1 : Nat) : Int),(wrap_i64 (by omega)).trans (by omega),?_⟩
   refine ⟨(k + 1,(zs ++ [nz],p',c'),p2',c2'),⟨.cons rfl (.cons rfl (.cons rfl (.cons rfl (.cons rfl (.cons rfl (.cons rfl .nil)))))),rfl⟩,⟨hkl,hSV,?_,hbS.trans ((hb2.mono sbS).trans (past_below hS2.own (by omega) (Nat.le_refl _) gV))⟩,by show ys.length - (k + 1) < ys.length - k; omega⟩
   rw [List.take_succ_eq_append_getElem hkl,hyk,List.map_append,List.map_append,hz,hnz]
   show _ ++ [rk.map (·.1)] = _ ++ [rankR y.1]
   rw [hrk]
  ·have hc : ¬ (k : Int) < (ys.length : Int) := of_decide_eq_false hc
   obtain rfl : k = ys.length := by omega
   have hz2 : zs.map (fun z => z.1.map (·.1)) = m.wr.map rankR := by
    rw [List.take_length] at hz
    rw [hz,← hM.e3,List.map_map]; rfl
   have hsz2 : xs.map (·.1.length) ++ zs.map (·.1.length) = sizesR m := by
    rw [rows_sizes hM.e2,ranks_sizes hz2]; rfl
   rw [hsz2] at hS ⊢
   exact ⟨((zs,pr,cr),ps,cs),⟨.cons rfl (.cons rfl (.cons rfl (.cons rfl .nil))),rfl⟩,hS,hz2,hbZ⟩
 clear hS hbX
 rintro ⟨⟨zs,pr,cr⟩,ps,cs⟩ V ⟨hS,hz,hbV⟩
 dsimp only at hS hz ⊢
 have hVs := hbV.size
 have hMV := hMW.same fun k hk => hbV.block k (hRW k hk)
 have fxV := block_below hbV fxW
 have hsl1 : (sizesR m).length ≤ 1000 := by
  unfold sizesR
  rw [List.length_append,List.length_map,List.length_map]
  omega
 have hsl2 : ∀ n ∈ sizesR m,n ≤ 1000000 := fun n hn => by
  unfold sizesR at hn
  rcases List.mem_append.1 hn with hn | hn
  ·obtain ⟨r,hr,rfl⟩ := List.mem_map.1 hn
   have := (hB.rs r hr).2.1
   omega
  ·obtain ⟨w,hw,rfl⟩ := List.mem_map.1 hn
   have := (hB.wr w hw).2.1
   omega
 refine Calls.mono odoF_c ?_
 rintro e V1 ⟨rfl,fo,sV1,hbV1⟩
 have hI := odo_c fo (hS.own.row.below hbV1) (fun a ha => by have := (own_at hS.own ha).2.1; omega) hsl1 hsl2
 obtain ⟨Kp,hKp⟩ : ∃ Kp : (Nat → Prop) → World → Prop,Kp = fun F Y => V1.heap.size ≤ Y.heap.size ∧ ∀ k,k < V.heap.size → (Rd k ∨ W.heap.size ≤ k) → Y.heap[k]? = V.heap[k]? ∧ ¬ F k := ⟨_,rfl⟩
 have hF0 : ∀ k,F0 k → k < W.heap.size := fun k hk => (hJ.lt _ _ _ _ h0 hk).1
 have hLV := hlt hS.fL
 have hRV := hlt hS.fR
 have hb1 : Below W.heap.size W V1 := hbV.trans (hbV1.mono hVs)
 refine rangeG (sgOk _) rfl (lb := #[At0 V.heap.size]) rfl rfl hI (Nat.le_refl _) (fun k hk => ⟨?_,rfl⟩) (fun pre vs W ⟨l,q,_,h,_⟩ => by rw [h]; rfl) (by decide)
  F0 (fun pre F Y => J (pre.map (candR m)) F Y ∧ Kp F Y) (fun _ _ _ _ => False) (fun k hk => ?_) ⟨?_,?_⟩ (fun ex => ⟨fun _ _ _ _ h => h.elim,fun _ _ _ _ h => h.elim⟩) ⟨hJ.step _ _ _ _ h0 (.below hb1),?_⟩ ?_ ?_ ?_
 ·rcases hk with (rfl | ⟨a,ha,rfl⟩) | h
  ·omega
  ·have := (own_at hS.own ha).2.1; omega
  ·exact h.elim
 ·rcases hk with rfl | ⟨a,ha,rfl⟩
  ·intro h
   have := hF0 _ h
   omega
  ·intro h
   have := hF0 _ h
   have := (own_at hS.own ha).1
   omega
 ·rintro pre F A C ⟨hj,hk⟩ hs
  rw [hKp] at hk ⊢
  have hss := hs.size
  exact ⟨hJ.step _ _ _ _ hj (hs.mono (by omega)),Nat.le_trans hk.1 hss,fun k h1 h2 => ⟨(hs.same k (by have := hk.1; omega) (.inl ⟨by omega,fun h => h⟩)).trans (hk.2 k h1 h2).1,(hk.2 k h1 h2).2⟩⟩
 ·rintro pre F A k ⟨hj,_⟩ hk
  exact hJ.lt _ _ _ _ hj hk
 ·rw [hKp]
  refine ⟨Nat.le_refl _,fun k h1 h2 => ⟨hbV1.block k h1,fun h => ?_⟩⟩
  rcases h2 with h2 | h2
  ·exact hrf k h2 h
  ·have := hF0 k h; omega
 ·rintro yl2 pre ds vs F Y hyl hpre hJ0 ⟨l,qd,hlast,rfl,hsl,hcel⟩ hfy ⟨lo,hlo⟩
  have hdx : ds = l := by simpa using hlast
  subst hdx
  refine ⟨rfl,F,KeepsG.refl _ _,hJ0,?_⟩
  rintro O Y2 hY2 ⟨hj,hkp⟩
  rw [hKp] at hkp
  obtain ⟨hY2s,hkp⟩ := hkp
  have hkq := hkp
  have hslY : SlR natE Y2 qd ds := by
   rw [hY2]
   refine slr_same hsl fun a ha => heap_put_old fun e => ?_
   obtain ⟨cur,hcur⟩ := hcel a ha
   rw [e,hlo] at hcur
   cases hcur
  obtain ⟨hdl,hdlt⟩ := digs_at (hpre.subset (List.mem_append_right _ (List.mem_singleton.2 rfl)))
  have hdl2 : ds.length = m.rs.length + m.wr.length := by
   rw [hdl]; unfold sizesR
   rw [List.length_append,List.length_map,List.length_map]
  have hMY : MixM Rd Y2 b o m q c p1 p2 p3 c1 c2 c3 xs ys := hMV.same fun k hk => (hkp k (by have := hRW k hk; omega) (.inl hk)).1
  have fxY := (hkp bx (by have := hRW bx hbx; omega) (.inl hbx)).1.trans fxV
  have fLY := (hkp L hLV (.inr (by omega))).1.trans hS.fL
  have fRY := (hkp R hRV (.inr (by omega))).1.trans hS.fR
  have kR : ∀ {α : Type} {E : Enc α} {T cc : Nat} {r : Option Addr} {ll : List α},OwnS E T W.heap.size V r cc ll → OwnS E T W.heap.size Y2 r cc ll := fun {α E T cc r ll} h => h.same fun a ha => (hkp _ (own_at h ha).2.1 (.inr (own_at h ha).1)).1
  have rkY := kR hS.rk
  have n1Y := fun z hz => kR (hS.n1 z hz)
  have n2Y := fun z hz y hy => kR (hS.n2 z hz y hy)
  clear hkp hlo hcel hsl
  have hbY : b < Y2.heap.size := by have := hRW b hM.db; omega
  refine ⟨_,cells_at (cells_block fxY) (i := 0) rfl,?_⟩
  have hbase : Cells Y2 ⟨b,o,none⟩ (exC m.base q c) := by
   have := cells_sub (n := 0) (m := 333) hMY.cells
   rw [List.drop_zero,List.take_append_of_le_length (by rw [exC_len]; decide),List.take_of_length_le (by rw [exC_len]; decide)] at this
   exact this
  refine ⟨exC m.base q c,exC_len _ _ _,hbase,hbY,?_⟩
  obtain ⟨M,hMM⟩ : ∃ M,M = Y2.heap.size := ⟨_,rfl⟩
  refine store_new (X := Y2) (v := .agg (exC m.base q c).toArray) (ttOk.get 34 _ rfl) (exC_len _ _ _) ztex_len (exC_one _ _ _) fun Z hbZ fZ sZ => ?_
  have fZ : ExH Z Y2.heap.size m.base q c := fZ
  rw [← hMM] at fZ ⊢
  refine ⟨_,cells_at (cells_block fZ) (i := 0) rfl,?_⟩
  refine Calls.mono (CloneEv_c (hMY.ev.below hbZ) (by omega) hMY.qn) ?_
  rintro e Z2 ⟨⟨q1,k1,rfl,oE⟩,hbZ2⟩
  refine store_one (ttOk.get 22 _ rfl) (block_below hbZ2 fZ) (o := 0 + 0) (v := .slice q1 m.base.ev.length k1) rfl rfl (by rw [exC_len]; decide) rfl fun S fS gS sS => ?_
  rw [show 0 + 0 = 0 from rfl,exA_ev] at fS
  have hMZ2 : M < Z2.heap.size := by have := hbZ2.size; omega
  have hbS : Below Y2.heap.size Y2 S := (hbZ.trans (hbZ2.mono hbZ.size)).trans (below_grown gS (by omega) (by omega))
  have oES : OwnS evE 52 Y2.heap.size S q1 k1 m.base.ev := own_box (oE.lower hbZ.size) (block_below hbZ2 fZ) (by decide) gS
  clear oE gS sS fZ hbZ hbZ2
  have tMY : ∀ {S : World},Below Y2.heap.size Y2 S → MixM Rd S b o m q c p1 p2 p3 c1 c2 c3 xs ys := fun {S} hb => hMY.same fun k hk => hb.block k (by have := hRW k hk; omega)
  have hxlen := hxl
  refine ⟨_,cells_at (cells_block (block_below hbS fxY)) (i := 0) rfl,?_⟩
  refine ⟨_,mixM_at (tMY hbS).cells (i := 0) rfl,?_⟩
  refine ⟨Nat,fun k => ⟨[(1,At0 bx),(2,At0 L),(6,At0 R),(10,.slice qd ds.length ds.length),(11,At0 M),(67,.slice p1 m.rs.length c1),(68,i64 m.rs.length),(69,i64 (k : Nat))],[]⟩,
   fun k Z => k ≤ m.rs.length ∧ ExH Z M { m.base with rf := ⟨m.base.rf.n,rfF (m.rs.take k) ds m.base.rf.to⟩ } q1 k1 ∧ OwnS evE 52 Y2.heap.size Z q1 k1 m.base.ev ∧ Below Y2.heap.size Y2 Z,fun k => m.rs.length - k,0,
   ⟨.cons rfl (.cons rfl (.cons rfl (.cons rfl (.cons rfl (.cons rfl (.cons rfl (.cons rfl .nil))))))),rfl⟩,⟨Nat.zero_le _,fS,oES,hbS⟩,?_⟩
  clear fS oES hbS
  rintro k Z ⟨hk,fZ,oE,hbZ⟩
  refine And.intro (fun hc => ?_) (fun hc => ?_)
  ·have hc : (k : Int) < (m.rs.length : Int) := of_decide_eq_true hc
   have hkl : k < m.rs.length := by omega
   have hZM := tMY hbZ
   have hZs := hbZ.size
   obtain ⟨⟨r,s⟩,hrs⟩ : ∃ x,m.rs[k] = x := ⟨_,rfl⟩
   obtain ⟨hr48,hs1,hs48⟩ := hB.rs (r,s) (by rw [← hrs]; exact List.getElem_mem hkl)
   dsimp only at hr48 hs1 hs48
   have hkx : k < xs.length := by omega
   obtain ⟨y,hyk⟩ : ∃ y,xs[k] = y := ⟨_,rfl⟩
   have hym : y ∈ xs := by rw [← hyk]; exact List.getElem_mem hkx
   have hys : y.1 = s := by
    have h1 : (xs.map (·.1))[k]? = some y.1 := by rw [List.getElem?_map,List.getElem?_eq_getElem hkx,hyk]; rfl
    rw [hM.e2,List.getElem?_map,List.getElem?_eq_getElem hkl,hrs] at h1
    exact (Option.some.inj h1).symm
   obtain ⟨d,hd⟩ : ∃ d,ds[k]? = some d := ⟨_,List.getElem?_eq_getElem (by omega)⟩
   have hkd : k < ds.length := by omega
   have hde : ds[k] = d := by rw [List.getElem?_eq_getElem hkd] at hd; exact Option.some.inj hd
   have hdlt2 : d < y.1.length := by
    refine hdlt k _ d ?_ hd
    unfold sizesR
    rw [List.getElem?_append_left (by rw [List.length_map]; exact hkl),List.getElem?_map,List.getElem?_eq_getElem hkl,hrs,hys]; rfl
   have hdlt3 : d < s.length := by rw [← hys]; exact hdlt2
   obtain ⟨t,ht⟩ : ∃ t,y.1[d] = t := ⟨_,rfl⟩
   have hts : s[d] = t := by
    have h1 : y.1[d]? = some t := by rw [List.getElem?_eq_getElem hdlt2,ht]
    rw [hys,List.getElem?_eq_getElem hdlt3] at h1
    exact Option.some.inj h1
   have ht48 : t < 48 := hs48 t (by rw [← hts]; exact List.getElem_mem hdlt3)
   have hgt : s.getD (ds.getD k 0) 0 = t := by
    rw [List.getD_eq_getElem?_getD,List.getD_eq_getElem?_getD,hd]
    show (s[d]?).getD 0 = t
    rw [List.getElem?_eq_getElem hdlt3,hts]; rfl
   have htk : rfF (m.rs.take (k + 1)) ds m.base.rf.to = upd (rfF (m.rs.take k) ds m.base.rf.to) t (rfF (m.rs.take k) ds m.base.rf.to t ||| 2 ^ r) := by
    rw [List.take_succ_eq_append_getElem hkl,hrs,rfF_snoc,List.length_take,Nat.min_eq_left hk,hgt]
   obtain ⟨G,hG⟩ : ∃ G,G = rfF (m.rs.take k) ds m.base.rf.to := ⟨_,rfl⟩
   have hGw : WrdR G := by
    rw [hG]
    exact rfF_wrd (ds := []) hB.rf fun r hr => (hB.rs r (List.mem_of_mem_take hr)).1
   rw [← hG] at fZ htk
   obtain ⟨A,T,hA,hE⟩ := exA_rf { m.base with rf := ⟨m.base.rf.n,G⟩ } q1 k1
   have hRel : RelAt Z M 50 34 A T ⟨m.base.rf.n,G⟩ := ⟨hA,by rw [← hE]; exact fZ⟩
   have hr1 : k < (m.rs.map (·.1)).length := by rw [List.length_map]; exact hkl
   obtain ⟨b1,o1,hp1,hl1,hat1⟩ := hZM.r1.at hr1
   obtain ⟨b2,o2,hp2,hl2,hat2⟩ := hZM.r2.at hkx
   obtain ⟨b3,o3,hp3,hl3,hat3⟩ := (hZM.n2 y hym).at hdlt2
   have hslZ := hslY.below hbZ
   obtain ⟨b4,o4,hp4,hl4,hat4⟩ := hslZ.at hkd
   have e1 : some (Value.slice p1 m.rs.length c1) = some (Value.slice (some ⟨b1,o1,none⟩) m.rs.length c1) := by rw [hp1]
   subst hp1
   subst hp2
   subst hp4
   refine ⟨k,rfl,hkl,?_⟩
   refine ⟨i64 r,by have := cells_at (hat1 k hr1) (i := 0) (v := i64 r) (by rw [List.getElem_map,hrs]; rfl); exact this,?_⟩
   have dZ : Below Z.heap.size Z Z.drew := (Below.refl _ _).drew
   refine DrawE.ord [23] [0,1,2,3,4,5,6,7,8,9,10,11,12,13,14,15,16,17,18,19,20,21,22,23] (by kernel_rfl) ?_
   refine ⟨_,cells_at (cells_block (hdr (block_below hbZ fxY))) (i := 0) rfl,?_⟩
   refine ⟨_,mixM_at (hZM.same (X := Z.drew) fun _ _ => rfl).cells (i := 1) rfl,?_⟩
   refine ⟨k,rfl,hkx,?_⟩
   refine ⟨slV y,by have := cells_at (cells_below dZ (hat2 k hkx)) (i := 0) (v := slV y) (by rw [hyk]; rfl); exact this,?_⟩
   refine ⟨k,rfl,hkd,?_⟩
   refine ⟨i64 d,by have := cells_at (cells_below dZ (hat4 k hkd)) (i := 0) (v := i64 d) (by rw [hde]; rfl); exact this,?_⟩
   unfold slV
   rw [hp3]
   refine ⟨d,rfl,hdlt2,?_⟩
   refine ⟨i64 t,by have := cells_at (cells_below dZ (hat3 d hdlt2)) (i := 0) (v := i64 t) (by rw [ht]; rfl); exact this,?_⟩
   refine ⟨t,rfl,ht48,?_⟩
   refine ⟨s64 (G t),(hRel.same (Y := Z.drew) rfl).cell ht48,?_⟩
   refine ⟨by omega,_,w64_one (e := r) (by omega),?_⟩
   refine ⟨_,w64_or (hGw t ht48) (pow_lt64 (by omega)),?_⟩
   refine ⟨t,rfl,ht48,?_⟩
   refine store_one (ttOk.get 24 _ rfl) (hRel.same (Y := Z.drew) rfl).cells (o := 50 + 1 + t * 1) (v := s64 (G t ||| 2 ^ r)) rfl rfl (by rw [hRel.len]; omega) rfl fun S fS gS sS => ?_
   rw [hRel.set ht48] at fS
   have gS2 : Z.grownBy S (some M) := grown_trans (grown_of_below dZ) gS
   refine ⟨((k + 1 : Nat) : Int),(wrap_i64 (by omega)).trans (by omega),?_⟩
   refine ⟨k + 1,⟨.cons rfl (.cons rfl (.cons rfl (.cons rfl (.cons rfl (.cons rfl (.cons rfl (.cons rfl .nil))))))),rfl⟩,⟨hkl,?_,own_box oE fZ (by decide) gS2,hbZ.trans (below_grown gS2 hZs (by omega))⟩,by show m.rs.length - (k + 1) < m.rs.length - k; omega⟩
   rw [htk]
   have e5 := hE ⟨m.base.rf.n,upd G t (G t ||| 2 ^ r)⟩
   show S.heap[M]? = some (.cells (exC { m.base with rf := ⟨m.base.rf.n,upd G t (G t ||| 2 ^ r)⟩ } q1 k1).toArray _ _)
   exact fS.trans (by rw [← e5])
  have hc : ¬ (k : Int) < (m.rs.length : Int) := of_decide_eq_false hc
  obtain rfl : k = m.rs.length := by omega
  rw [List.take_length] at fZ
  obtain ⟨RF,hRF⟩ : ∃ RF : ExD,RF = { m.base with rf := ⟨m.base.rf.n,rfF m.rs ds m.base.rf.to⟩ } := ⟨_,rfl⟩
  rw [← hRF] at fZ
  have hRFe : RF.ev = m.base.ev := by rw [hRF]
  have hRFc : RF.co = m.base.co := by rw [hRF]
  have hRFm : RF.mem = m.base.mem := by rw [hRF]
  obtain ⟨dl,hdle⟩ : ∃ dl,dl = ds.drop m.rs.length := ⟨_,rfl⟩
  have hdll : dl.length = m.wr.length := by rw [hdle,List.length_drop]; omega
  have hslD : SlR natE Y2 (cutBase qd ds.length m.rs.length 1) dl := by
   have := hslY.sub (cap := ds.length) (lo := m.rs.length) (hi := ds.length) (by omega) (Nat.le_refl _) (Nat.le_refl _)
   rw [List.take_of_length_le (by rw [List.length_drop]; exact Nat.le_refl _),← hdle] at this
   exact this
  refine ⟨_,cells_at (cells_block (block_below hbZ fxY)) (i := 0) rfl,?_⟩
  refine ⟨_,mixM_at (tMY hbZ).cells (i := 0) rfl,?_⟩
  refine ⟨m.rs.length,rfl,by omega,?_⟩
  obtain ⟨qD,hqD⟩ : ∃ qD,qD = cutBase qd ds.length m.rs.length 1 := ⟨_,rfl⟩
  rw [← hqD] at hslD ⊢
  have hdn : ds.length - m.rs.length = dl.length := by omega
  rw [hdn]
  obtain ⟨Rs,hRs⟩ : ∃ Rs,Rs = m.wr.map rankR := ⟨_,rfl⟩
  have hRsl : Rs.length = m.wr.length := by rw [hRs,List.length_map]
  have hzl : zs.length = m.wr.length := by have := congrArg List.length hz; simpa using this
  have hRsb : ∀ R ∈ Rs,∀ k ∈ R,k ≠ [] ∧ k.length ≤ 48 ∧ ∀ a ∈ k,a < m.base.ev.length := fun R hR k hk => by
   rw [hRs] at hR
   obtain ⟨w,hw,rfl⟩ := List.mem_map.1 hR
   exact (hB.wr w hw).2.2 k hk
  refine ⟨Nat,fun l => ⟨[(1,At0 bx),(2,At0 L),(6,At0 R),(11,At0 M),(104,.slice qD dl.length dl.length),(105,i64 dl.length),(106,i64 (l : Nat))],[]⟩,
   fun l Z => l ≤ dl.length ∧ ExH Z M { RF with co := (coG m.base.ev 0 (Rs.take l) dl (RF.co,RF.mem)).1,mem := (coG m.base.ev 0 (Rs.take l) dl (RF.co,RF.mem)).2 } q1 k1 ∧ OwnS evE 52 Y2.heap.size Z q1 k1 m.base.ev ∧ Below Y2.heap.size Y2 Z,fun l => dl.length - l,0,
   ⟨.cons rfl (.cons rfl (.cons rfl (.cons rfl (.cons rfl (.cons rfl (.cons rfl .nil)))))),rfl⟩,⟨Nat.zero_le _,fZ,oE,hbZ⟩,?_⟩
  clear fZ oE hbZ
  rintro l Z ⟨hl,fZ,oE,hbZ⟩
  obtain ⟨P,hP⟩ : ∃ P,P = coG m.base.ev 0 (Rs.take l) dl (RF.co,RF.mem) := ⟨_,rfl⟩
  rw [← hP] at fZ
  have hZs := hbZ.size
  have hPw : WrdR P.1.to := by
   rw [hP]
   refine coG_wrd (by rw [hRFc]; exact hB.co) fun R hR k hk a ha => ?_
   have := (hRsb R (List.mem_of_mem_take hR) k hk).2.2 a ha
   omega
  refine And.intro (fun hc => ?_) (fun hc => ?_)
  ·have hc : (l : Int) < (dl.length : Int) := of_decide_eq_true hc
   have hll : l < dl.length := by omega
   have hlz : l < zs.length := by omega
   have hlR : l < Rs.length := by omega
   obtain ⟨z,hzk⟩ : ∃ z,zs[l] = z := ⟨_,rfl⟩
   have hzm : z ∈ zs := by rw [← hzk]; exact List.getElem_mem hlz
   have hzR : Rs[l]? = some (z.1.map (·.1)) := by
    rw [hRs,← hz,List.getElem?_map,List.getElem?_eq_getElem hlz,hzk]; rfl
   have hzRm : z.1.map (·.1) ∈ Rs := List.mem_of_getElem? hzR
   obtain ⟨d,hd⟩ : ∃ d,dl[l] = d := ⟨_,rfl⟩
   have hdd : dl[l]? = some d := by rw [List.getElem?_eq_getElem hll,hd]
   have hdz : d < z.1.length := by
    refine hdlt (m.rs.length + l) _ d ?_ (by rw [hdle,List.getElem?_drop] at hdd; exact hdd)
    unfold sizesR
    rw [List.getElem?_append_right (by rw [List.length_map]; omega),List.length_map,Nat.add_sub_cancel_left]
    have := hzR
    rw [hRs,List.getElem?_map] at this
    rw [List.getElem?_map]
    cases hw : m.wr[l]? with
    | none => rw [hw] at this; cases this
    | some w =>
     rw [hw] at this
     have h2 : rankR w = z.1.map (·.1) := Option.some.inj this
     show some (rankR w).length = _
     rw [h2,List.length_map]
   obtain ⟨y,hyk⟩ : ∃ y,z.1[d] = y := ⟨_,rfl⟩
   have hym : y ∈ z.1 := by rw [← hyk]; exact List.getElem_mem hdz
   obtain ⟨hy0,hy48,hyev⟩ := hRsb _ hzRm y.1 (List.mem_map.2 ⟨y,hym,rfl⟩)
   have hgy : (z.1.map (·.1)).getD d [] = y.1 := by
    rw [List.getD_eq_getElem?_getD,List.getElem?_map,List.getElem?_eq_getElem hdz,hyk]; rfl
   obtain ⟨hlR2,hzR2⟩ := List.getElem?_eq_some_iff.1 hzR
   have htk : coG m.base.ev 0 (Rs.take (l + 1)) dl (RF.co,RF.mem) = (lineR y.1 P.1,upd P.2 l (lastV m.base.ev y.1)) := by
    rw [List.take_succ_eq_append_getElem hlR,hzR2,coG_snoc,← hP,List.length_take,Nat.min_eq_left (by omega),Nat.zero_add]
    rw [show dl.getD l 0 = d by rw [List.getD_eq_getElem?_getD,hdd]; rfl,hgy]
   obtain ⟨bD,oD,hpD,hlD,hatD⟩ := (hslD.below hbZ).at hll
   obtain ⟨bR,oR,hpR,hlR0,hatR⟩ := (rkY.below hbZ).row.at hlz
   obtain ⟨bz,oz,hpz,hlz0,hatz⟩ := ((n1Y z hzm).below hbZ).row.at hdz
   have hyrow := ((n2Y z hzm y hym).below hbZ).row
   have hylt := fun a ha => (own_at (n2Y z hzm y hym) (a := a) ha).2.1
   subst hpD
   subst hpR
   refine ⟨l,rfl,hll,?_⟩
   refine ⟨i64 d,by have := cells_at (hatD l hll) (i := 0) (v := i64 d) (by rw [hd]; rfl); exact this,?_⟩
   refine ⟨_,cells_at (cells_block (block_below hbZ fRY)) (i := 0) rfl,?_⟩
   refine ⟨l,rfl,hlz,?_⟩
   refine ⟨.slice z.2.1 z.1.length z.2.2,by have := cells_at (hatR l hlz) (i := 0) (v := .slice z.2.1 z.1.length z.2.2) (by rw [hzk]; rfl); exact this,?_⟩
   rw [hpz]
   refine ⟨d,rfl,hdz,?_⟩
   refine ⟨slV y,by have := cells_at (hatz d hdz) (i := 0) (v := slV y) (by rw [hyk]; rfl); exact this,?_⟩
   obtain ⟨A,T,hA,hE⟩ := exA_co { RF with co := P.1,mem := P.2 } q1 k1
   have hRel : RelAt Z M 99 34 A T P.1 := ⟨hA,by rw [← hE]; exact fZ⟩
   refine Calls.mono (line_c hRel hPw hyrow (fun a ha => by have := hylt a ha; omega) (by omega) (fun a ha => by have := hyev a ha; omega)) ?_
   rintro e V2 ⟨rfl,hRel2,gV2⟩
   have fV2 : ExH V2 M { RF with co := lineR y.1 P.1,mem := P.2 } q1 k1 := by
    have e5 := hE (lineR y.1 P.1)
    show V2.heap[M]? = some (.cells (exC { RF with co := lineR y.1 P.1,mem := P.2 } q1 k1).toArray _ _)
    exact hRel2.cells.trans (by rw [← e5])
   have hbV2 : Below Y2.heap.size Y2 V2 := hbZ.trans (below_grown gV2 hZs (by omega))
   have oE2 := own_box oE fZ (by decide) gV2
   have hyr2 := ((n2Y z hzm y hym).below hbV2).row
   obtain ⟨j,hj2⟩ : ∃ j,j + 1 = y.1.length := ⟨y.1.length - 1,by have := List.length_pos_iff.2 hy0; omega⟩
   have hjl : j < y.1.length := by omega
   obtain ⟨b6,o6,hp6,hl6,hat6⟩ := hyr2.at hjl
   obtain ⟨t,ht⟩ : ∃ t,y.1[j] = t := ⟨_,rfl⟩
   have htev : t < m.base.ev.length := hyev t (by rw [← ht]; exact List.getElem_mem hjl)
   have hlast : y.1.getLastD 0 = t := by
    rw [List.getLastD_eq_getLast?,List.getLast?_eq_getElem?,show y.1.length - 1 = j by omega,List.getElem?_eq_getElem hjl,ht]; rfl
   obtain ⟨b7,o7,hp7,hl7,hat7⟩ := oE2.row.at htev
   have hlV : lastV m.base.ev y.1 = (m.base.ev[t]).v := by
    show (m.base.ev.getD (y.1.getLastD 0) ev0).v = _
    rw [hlast,List.getD_eq_getElem?_getD,List.getElem?_eq_getElem htev]; rfl
   have dV : Below V2.heap.size V2 V2.drew := (Below.refl _ _).drew
   have hl6' : l < 6 := by omega
   unfold slV
   rw [hp6]
   refine DrawE.ord [15] [0,1,2,3,4,5,6,7,8,9,10,11,12,13,14,15] (by kernel_rfl) ?_
   refine ⟨.slice q1 m.base.ev.length k1,by have := cells_at (cells_block (hdr fV2)) (i := 0) (v := .slice q1 RF.ev.length k1) rfl; rw [hRFe] at this; exact this,?_⟩
   refine ⟨(j : Nat),(wrap_i64 (by omega)).trans (by omega),?_⟩
   refine ⟨j,rfl,hjl,?_⟩
   refine ⟨i64 t,by have := cells_at (cells_below dV (hat6 j hjl)) (i := 0) (v := i64 t) (by rw [ht]; rfl); exact this,?_⟩
   rw [hp7]
   refine ⟨t,rfl,htev,?_⟩
   refine ⟨u8 (m.base.ev[t]).v,by have := cells_at (cells_below dV (hat7 t htev)) (i := 3) (v := u8 (m.base.ev[t]).v) rfl; exact this,?_⟩
   refine ⟨l,rfl,hl6',?_⟩
   refine store_one (ttOk.get 5 _ rfl) (hdr fV2) (o := 327 + l * 1) (v := u8 (m.base.ev[t]).v) rfl rfl (by rw [exC_len]; omega) rfl fun S fS gS sS => ?_
   rw [Nat.mul_one,exA_mem _ _ _ hl6'] at fS
   have gS2 : V2.grownBy S (some M) := grown_trans (grown_of_below dV) gS
   refine ⟨((l + 1 : Nat) : Int),(wrap_i64 (by omega)).trans (by omega),?_⟩
   refine ⟨l + 1,⟨.cons rfl (.cons rfl (.cons rfl (.cons rfl (.cons rfl (.cons rfl (.cons rfl .nil)))))),rfl⟩,⟨hll,?_,by rw [← hp7]; exact own_box oE2 fV2 (by decide) gS2,hbV2.trans (below_grown gS2 hbV2.size (by omega))⟩,by show dl.length - (l + 1) < dl.length - l; omega⟩
   rw [htk,hlV,← hp7]
   exact fS
  have hc : ¬ (l : Int) < (dl.length : Int) := of_decide_eq_false hc
  obtain rfl : l = dl.length := by omega
  rw [List.take_of_length_le (by omega)] at hP
  have hcand : candR m ds = { RF with co := P.1,mem := P.2 } := by
   rw [hP,hRF,hdle,hRs]; rfl
  rw [← hcand] at fZ
  have oE : OwnS evE 52 Y2.heap.size Z q1 k1 (candR m ds).ev := oE
  refine ⟨_,cells_at (cells_block (block_below hbZ fLY)) (i := 0) rfl,?_⟩
  refine ⟨exC (candR m ds) q1 k1,exC_len _ _ _,cells_block fZ,hlt fZ,?_⟩
  have hjZ := hJ.step _ _ _ _ hj (StepG.below hbZ)
  have hGv : ∀ k,GvX [.agg (exC (candR m ds) q1 k1).toArray] k → Y2.heap.size ≤ k ∧ ∃ a,q1 = some a ∧ k = a.block := by
   rintro k ⟨x,a,cc,he,rfl⟩
   have h1 : (exC (candR m ds) q1 k1).toArray = (exC x (some a) cc).toArray := by
    have := List.head_eq_of_cons_eq he
    exact Value.agg.inj this
   have h2 : exC (candR m ds) q1 k1 = exC x (some a) cc := by simpa using h1
   have h3 : Value.slice q1 (candR m ds).ev.length k1 = Value.slice (some a) x.ev.length cc := List.head_eq_of_cons_eq h2
   have h4 : q1 = some a := by injection h3
   exact ⟨(own_at oE h4).1,a,h4,rfl⟩
  have hmp : (pre ++ [ds]).map (candR m) = pre.map (candR m) ++ [candR m ds] := by rw [List.map_append]; rfl
  have hpm : (pre.map (candR m) ++ [candR m ds]) <+: candsM m := by
   obtain ⟨t,ht⟩ := hpre
   refine ⟨t.map (candR m),?_⟩
   unfold candsM
   rw [← ht,List.map_append,hmp]
  refine YieldR.mono (hy _ (candR m ds) [.agg (exC (candR m ds) q1 k1).toArray] F Z hjZ ⟨_,q1,k1,by simp,rfl,oE.lower (by omega)⟩ (fun k hk => by have := (hGv k hk).1; omega) hpm) ?_
  rintro v U ⟨rfl,F',hjU,kU⟩
  refine brF ?_
  have kF : KeepsG F F' Y2 U := ⟨kU.os.trans hbZ.os,kU.tape.trans hbZ.tape,kU.output.trans hbZ.output,Nat.le_trans hbZ.size kU.size,fun k hk hf => (kU.same k (by omega) (fun h => h.elim hf fun h => by have := (hGv k h).1; omega)).trans (hbZ.block k hk),fun k hk => by
   rcases kU.fp k hk with (h | h) | h
   ·exact .inl h
   ·exact .inr (hGv k h).1
   ·exact .inr (by omega)⟩
  refine ⟨F',⟨by rw [hmp]; exact hjU,?_⟩,kF⟩
  rw [hKp]
  refine ⟨Nat.le_trans hY2s kF.size,fun k h1 h2 => ?_⟩
  obtain ⟨h3,h4⟩ := hkq k h1 h2
  refine ⟨(kF.same k (by omega) h4).trans h3,fun h => ?_⟩
  rcases kF.fp k h with h | h
  ·exact h4 h
  ·omega
 ·rintro D F Y hD hfD ⟨hj,hk⟩ hdef
  refine ⟨_,rfl,hdef,⟨_,rfl⟩,F,?_⟩
  show J ((digsR (sizesR m)).map (candR m)) F _
  exact hJ.step _ _ _ _ hj (.put (by omega) hfD _)
 ·rintro D ex pre F Y hD hfD hpre h
  exact h.elim
end
end Go.Proofs.YtkpcgpmimejimaaGreatDoor
namespace Go.Proofs.YtkpcgpmimejimaaGreatDoor
open Go.Vc Go.RowKit Go.Sei
theorem candF_c {b o : Nat} {w : World} : Calls Tryz.prog 78 #[.pointer (some ⟨b,o,none⟩)] w fun e w' => e = .returned (.func (.func 106) #[] #[At0 w.heap.size]) ∧ w'.heap[w.heap.size]? = some (.cells #[.pointer (some ⟨b,o,none⟩)] 168 (0,0)) ∧ w'.heap.size = w.heap.size + 1 ∧ Below w.heap.size w w' := by
 refine calls_of_E (S := sg 4) (sgOk _) (args := [.pointer (some ⟨b,o,none⟩)]) Tryz.func78 rfl rfl (Nat.le_of_ble_eq_true rfl) rfl ?_
 exact ⟨rfl,hnew w _,World.size_alloc _ _,(Below.refl _ w).alloc (Nat.le_refl _) _⟩
def NInX (B : Nat) (F : Nat → Prop) (Y : World) (x : exE3) : Prop := OwnS evE 52 B Y x.2.1 x.2.2 x.1.ev ∧ ∀ a,x.2.1 = some a → F a.block
theorem ninX_keep (B : Nat) : NKeep 34 55 (NInX B) := by
 rintro F G Y Z x ⟨h1,h2⟩ hs hg
 refine ⟨h1.same fun a ha => ?_,fun a ha => hg _ (h2 a ha)⟩
 obtain ⟨_,_,cur,hc⟩ := own_at h1 ha
 exact hs _ cur _ (h2 a ha) hc (by decide) (by decide)
theorem AppendSeq_c {B B1 bx c0 : Nat} {p0 : Option Addr} {l0 : List exE3} {xs : List ExD} {w W0 : World} {Rd : Nat → Prop} {pm : Value} (ho : OwnS exE 34 B w p0 c0 l0) (hn : ∀ x ∈ l0,OwnS evE 52 B w x.2.1 x.2.2 x.1.ev) (hB : B ≤ w.heap.size)
  (hI : IterH Tryz.prog 106 [At0 bx] xs W0 Rd (StX B1) GvX) (hW0 : W0.heap.size ≤ w.heap.size) (hRd : ∀ k,Rd k → k < W0.heap.size ∧ w.heap[k]? = W0.heap[k]?) (hRB : ∀ k,Rd k → k < B ∨ k = bx) (fb : w.heap[bx]? = some (.cells #[pm] 168 (0,0))) (hB1 : B ≤ B1) (hlen : l0.length + xs.length ≤ 30000) :
  Calls Tryz.prog 77 #[.slice p0 l0.length c0,.func (.func 106) #[] #[At0 bx]] w fun e w' => (∃ (new : List exE3) (p : Option Addr) (c : Nat),e = .returned (.slice p (l0 ++ new).length c) ∧ new.map (·.1) = xs ∧ OwnS exE 34 B w' p c (l0 ++ new) ∧ ∀ x ∈ l0 ++ new,OwnS evE 52 B w' x.2.1 x.2.2 x.1.ev) ∧ Below B w w' := by
 refine calls_of_M (S := sg 13) (sgOk _) (args := [.slice p0 l0.length c0,.func (.func 106) #[] #[At0 bx]]) (.c .p .p) Tryz.func77 rfl rfl (Nat.le_of_ble_eq_true rfl) rfl ?_
 obtain ⟨L,hL⟩ : ∃ L,L = w.heap.size := ⟨_,rfl⟩
 refine ⟨Unit,fun _ => ⟨[(1,.func (.func 106) #[] #[At0 bx]),(2,At0 L)],[]⟩,fun _ X => X.heap[L]? = some (.cells [.slice p0 l0.length c0].toArray 55 (0,0)) ∧ X.heap.size = L + 1 ∧ Below w.heap.size w X,?_,?_⟩
 ·exact ⟨(),⟨.cons rfl (.cons (by rw [hL]; rfl) .nil),rfl⟩,by rw [hL]; exact hnew w _,by rw [hL]; exact World.size_alloc _ _,(Below.refl _ w).alloc (Nat.le_refl _) _⟩
 rintro _ W ⟨fL,sW,hbW⟩
 have hbxw := hlt fb
 obtain ⟨F0,hF0⟩ : ∃ F0 : Nat → Prop,F0 = fun k => k = L ∨ (∃ a,p0 = some a ∧ k = a.block) ∨ ∃ x ∈ l0,∃ a,x.2.1 = some a ∧ k = a.block := ⟨_,rfl⟩
 have hF0B : ∀ k,F0 k → B ≤ k ∧ k < W.heap.size ∧ (k ≠ L → k ≠ bx) := by
  intro k hk
  rw [hF0] at hk
  rcases hk with rfl | ⟨a,ha,rfl⟩ | ⟨x,hx,a,ha,rfl⟩
  ·exact ⟨by omega,by omega,fun h => (h rfl).elim⟩
  ·obtain ⟨h1,h2,cur,h3⟩ := own_at ho ha
   exact ⟨h1,by omega,fun _ e => by rw [e,fb] at h3; simp at h3⟩
  ·obtain ⟨h1,h2,cur,h3⟩ := own_at (hn x hx) ha
   exact ⟨h1,by omega,fun _ e => by rw [e,fb] at h3; simp at h3⟩
 have hG0 : Gath exE 34 55 B W.heap.size L W (NInX B) l0 F0 W := by
  refine ⟨Nat.le_refl _,by rw [hF0]; exact .inl rfl,fun k hk => (hF0B k hk).2.1,⟨p0,c0,fL,ho.below hbW,fun a ha => by rw [hF0]; exact .inr (.inl ⟨a,ha,rfl⟩)⟩,fun x hx => ⟨(hn x hx).below hbW,fun a ha => by rw [hF0]; exact .inr (.inr ⟨x,hx,a,ha,rfl⟩)⟩,Below.refl _ _⟩
 refine rangeH (sgOk _) rfl (lb := #[At0 bx]) rfl rfl hI (fun pre vs W k ⟨x,q,c,h1,h2,h3⟩ ⟨x',a,c',h4,h5⟩ => ?_) (by have := hbW.size; omega) (fun k hk => ⟨(hRd k hk).1,?_⟩) (fun pre vs W ⟨x,q,c,_,h,_⟩ => by rw [h]; rfl) (by decide)
  F0 (fun pre F Y => ∃ xs',(∃ new,xs' = l0 ++ new ∧ new.map (·.1) = pre ∧ new.length ≤ xs.length) ∧ Gath exE 34 55 B W.heap.size L W (NInX B) xs' F Y) (fun k hk => ?_) (Gath.iter (ninX_keep B) (by omega)) ⟨l0,⟨[],by simp,rfl,Nat.zero_le _⟩,hG0⟩ ?_ ?_
 ·rw [h2] at h4
  have h6 : exC x q c = exC x' (some a) c' := by
   have h7 := Value.agg.inj (List.head_eq_of_cons_eq h4)
   simpa using h7
  have h8 : Value.slice q x.ev.length c = Value.slice (some a) x'.ev.length c' := List.head_eq_of_cons_eq h6
  have h9 : q = some a := by injection h8
  obtain ⟨_,_,cur,hc⟩ := own_at h3 h9
  rw [h5]
  exact ⟨_,_,_,hc⟩
 ·rw [← (hRd k hk).2]
  exact hbW.block k (by have := (hRd k hk).1; omega)
 ·intro h
  obtain ⟨h1,h2,h3⟩ := hF0B k h
  have h4 := (hRd k hk).1
  rcases hRB k hk with h5 | h5
  ·omega
  ·exact h3 (by omega) h5
 ·rintro yl pre x vs F Y hyl hpre ⟨xs',⟨new,rfl,hnew',hnl⟩,hG⟩ ⟨x',q,c,hlast,rfl,oq⟩ hgv hfy ⟨lo,hlo⟩
  have hxx : x = x' := by simpa using hlast
  subst hxx
  have hYs := hG.size
  refine store_new (X := Y) (v := .agg (exC x q c).toArray) (ttOk.get 34 _ rfl) (exC_len _ _ _) ztex_len (exC_one _ _ _) fun Z hbZ fZ sZ => ?_
  have fZ : ExH Z Y.heap.size x q c := fZ
  obtain ⟨F1,hF1⟩ : ∃ F1 : Nat → Prop,F1 = fun k => F k ∨ GvX [.agg (exC x q c).toArray] k := ⟨_,rfl⟩
  rw [← hF1]
  have hq1 : ∀ a,q = some a → F1 a.block := fun a ha => by
   rw [hF1]
   exact .inr ⟨x,a,c,by rw [ha],rfl⟩
  have hgq : ∀ k,GvX [.agg (exC x q c).toArray] k → ∃ a,q = some a ∧ k = a.block := by
   rintro k ⟨x',a,c',h4,h5⟩
   have h6 : exC x q c = exC x' (some a) c' := by
    have h7 := Value.agg.inj (List.head_eq_of_cons_eq h4)
    simpa using h7
   have h8 : Value.slice q x.ev.length c = Value.slice (some a) x'.ev.length c' := List.head_eq_of_cons_eq h6
   have h9 : q = some a := by injection h8
   exact ⟨a,h9,h5⟩
  have hlt1 : ∀ k,F1 k → k < Y.heap.size := fun k hk => by
   rw [hF1] at hk
   rcases hk with hk | hk
   ·exact hG.lt k hk
   ·obtain ⟨a,ha,rfl⟩ := hgq k hk
    exact (own_at oq ha).2.1
  have hFF : ∀ k,F k → F1 k := fun k hk => by rw [hF1]; exact .inl hk
  have hG1 : Gath exE 34 55 B W.heap.size L W (NInX B) (l0 ++ new) F1 Z := by
   obtain ⟨p,c',h1,h2,h3⟩ := hG.row
   have sZ := hbZ.size
   exact ⟨by omega,hFF _ hG.inL,fun k hk => by have := hlt1 k hk; omega,⟨p,c',block_below hbZ h1,h2.below hbZ,fun a ha => hFF _ (h3 a ha)⟩,fun y hy => ⟨(hG.nest y hy).1.below hbZ,fun a ha => hFF _ ((hG.nest y hy).2 a ha)⟩,hG.old.trans (hbZ.mono (by omega))⟩
  refine ⟨rfl,F1,KeepsG.below hbZ fun k hk => .inl hk,⟨_,⟨new,rfl,hnew',hnl⟩,hG1⟩,?_⟩
  rintro O Y2 hY2 ⟨xs2,⟨new2,rfl,hnew2,hnl2⟩,hG2⟩
  clear hG1 hnew' hnl hG
  have hYl := hlt hlo
  have fY : ExH Y2 Y.heap.size x q c := by rw [hY2]; exact (heap_put_old (by omega)).trans fZ
  have oq2 : OwnS evE 52 B1 Y2 q c x.ev := by
   rw [hY2]
   refine (oq.below hbZ).same fun a ha => heap_put_old fun e => ?_
   obtain ⟨_,_,cur,hc⟩ := own_at oq ha
   rw [e,hlo] at hc
   cases hc
  obtain ⟨p,c',h4,h5,h6⟩ := hG2.row
  refine ⟨_,cells_at (cells_block h4) (i := 0) rfl,?_⟩
  refine ⟨exC x q c,exC_len _ _ _,cells_block fY,hlt fY,?_⟩
  obtain ⟨nx,hnx⟩ : ∃ nx : exE3,nx = (x,q,c) := ⟨_,rfl⟩
  have hen : exC x q c = exE.enc nx := by rw [hnx]; rfl
  have hpl : pre.length < xs.length := by
   obtain ⟨t,ht⟩ := hpre
   rw [← ht]
   simp only [List.length_append,List.length_cons]
   omega
  have hn2 : new2.length = pre.length := by rw [← hnew2,List.length_map]
  refine ⟨⟨by decide,by decide,ztex_len⟩,exE.enc nx,by rw [← hen]; exact fill_one (exC_len _ _ _) ztex_len,?_⟩
  have hw2 : W.heap.size ≤ Y2.heap.size := hG2.size
  obtain ⟨v,Y5,hrun,S,hrun2,F',hG',hK',hFF'⟩ := hG2.stepX (P := Tryz.prog) (ty := 55) (cap1 := 1) (ninX_keep B) (by decide) Tryz.underlying55 (ttOk.get 34 _ rfl) rfl rfl (by show _ = 333; exact ztex_len) (ttOk.get 55 _ rfl) rfl (by omega) (by omega) (Below.refl _ _) nx (by rw [List.length_append]; omega) (by rw [List.length_append]; show (_ + 1) * 2416 ≤ _; omega)
   (fun G Z _ _ h3 h4 => ninX_keep B F1 G Y2 Z nx ⟨by rw [hnx]; exact oq2.lower hB1,fun a ha => by rw [hnx] at ha; exact hq1 a ha⟩ h3 h4) p c' h4
  unfold opsE stepE
  refine SatR.mk hrun ?_
  refine SatR.mk hrun2 ?_
  exact ⟨F',⟨_,⟨new2 ++ [nx],by rw [List.append_assoc],by rw [List.map_append,hnew2,hnx]; rfl,by rw [List.length_append]; show _ + 1 ≤ _; omega⟩,hG'⟩,hK'⟩
 ·rintro D F Y hD hfD ⟨xs',⟨new,rfl,hnew',hnl⟩,hG⟩ hdef
  obtain ⟨p,c',h4,h5,h6⟩ := hG.row
  refine ⟨_,cells_at (cells_block h4) (i := 0) rfl,?_⟩
  refine ⟨_,rfl,hdef,?_⟩
  have kp : ∀ a : Addr,F a.block → (Y.putObj D (.deferred none)).heap[a.block]? = Y.heap[a.block]? := fun a h2 => heap_put_old fun e => by rw [← e] at hfD; exact hfD h2
  exact ⟨⟨new,p,c',rfl,hnew',h5.same fun a ha => kp a (h6 a ha),fun x hx => (hG.nest x hx).1.same fun a ha => kp a ((hG.nest x hx).2 a ha)⟩,below_put ((hbW.mono hB).trans hG.old) (by omega) _⟩
end Go.Proofs.YtkpcgpmimejimaaGreatDoor
namespace Go.Proofs.YtkpcgpmimejimaaGreatDoor
open Go.Vc Go.RowKit Go.Sei
structure MixX where
 m : MixD
 q : Option Addr
 c : Nat
 p1 : Option Addr
 c1 : Nat
 p2 : Option Addr
 c2 : Nat
 p3 : Option Addr
 c3 : Nat
 xs : List NatL
 ys : List NatL
def mixC (x : MixX) : List Value := exC x.m.base x.q x.c ++ [.slice x.p1 x.m.rs.length x.c1,.slice x.p2 x.xs.length x.c2,.slice x.p3 x.ys.length x.c3]
theorem mixC_len (x : MixX) : (mixC x).length = 336 := by
 unfold mixC
 rw [List.length_append,exC_len]; rfl
theorem mixC_one (x : MixX) : (mixC x).all Value.oneCell' = true := by
 unfold mixC
 rw [List.all_append,exC_one]; rfl
def mixE : Enc MixX := ⟨mixC,336,mixC_len,by decide,fun a u hu => List.all_eq_true.1 (mixC_one a) u hu⟩
structure NInM (B : Nat) (F : Nat → Prop) (Y : World) (x : MixX) : Prop where
 e2 : x.xs.map (·.1) = x.m.rs.map (·.2)
 e3 : x.ys.map (·.1) = x.m.wr
 ev : RowIn evE 52 B F Y x.q x.c x.m.base.ev
 r1 : RowIn natE 3 B F Y x.p1 x.c1 (x.m.rs.map (·.1))
 r2 : RowIn natLE 95 B F Y x.p2 x.c2 x.xs
 n2 : ∀ y ∈ x.xs,RowIn natE 3 B F Y y.2.1 y.2.2 y.1
 r3 : RowIn natLE 95 B F Y x.p3 x.c3 x.ys
 n3 : ∀ y ∈ x.ys,RowIn natE 3 B F Y y.2.1 y.2.2 y.1
theorem NInM.same {B : Nat} {F G : Nat → Prop} {Y Z : World} {x : MixX} (h : NInM B F Y x) (k : ∀ {α : Type} {E : Enc α} {T c : Nat} {q : Option Addr} {l : List α},T ≠ 133 → T ≠ 127 → T ≠ 4 → RowIn E T B F Y q c l → RowIn E T B G Z q c l) : NInM B G Z x :=
 ⟨h.e2,h.e3,k (by decide) (by decide) (by decide) h.ev,k (by decide) (by decide) (by decide) h.r1,k (by decide) (by decide) (by decide) h.r2,fun y hy => k (by decide) (by decide) (by decide) (h.n2 y hy),k (by decide) (by decide) (by decide) h.r3,fun y hy => k (by decide) (by decide) (by decide) (h.n3 y hy)⟩
theorem NInM.lower {B B' : Nat} {F : Nat → Prop} {Y : World} {x : MixX} (h : NInM B F Y x) (hB : B' ≤ B) : NInM B' (fun k => B' ≤ k) Y x := by
 have k : ∀ {α : Type} {E : Enc α} {T c : Nat} {q : Option Addr} {l : List α},RowIn E T B F Y q c l → RowIn E T B' (fun k => B' ≤ k) Y q c l := fun {α E T c q l} hr => ⟨hr.own.lower hB,fun a ha => (own_at (hr.own.lower hB) ha).1⟩
 exact ⟨h.e2,h.e3,k h.ev,k h.r1,k h.r2,fun y hy => k (h.n2 y hy),k h.r3,fun y hy => k (h.n3 y hy)⟩
theorem ninM_keep (B : Nat) : NKeep 133 127 (NInM B) := by
 rintro F G Y Z x h hs hg
 refine h.same fun {α E T c q l} t1 t2 _ hr => ⟨hr.own.same fun a ha => ?_,fun a ha => hg _ (hr.inF a ha)⟩
 obtain ⟨_,_,cur,hc⟩ := own_at hr.own ha
 exact hs _ cur _ (hr.inF a ha) hc t1 t2
abbrev TpR := List PthR × Option Addr × Nat
def tpE : Enc TpR where
 sz := 1
 enc x := [.slice x.2.1 x.1.length x.2.2]
 len x := rfl
 one x v hv := by
  simp at hv
  subst hv
  rfl
 pos := by decide
structure MxS (B : Nat) (Z : World) (L bP : Nat) (ss : List Nat) (ps : Option Addr) (cs : Nat) (ts : List TpR) (pT : Option Addr) (cT : Nat) : Prop where
 f0 : Z.heap[L]? = some (.cells #[.pointer (some ⟨bP,0,none⟩)] 130 (0,0))
 f1 : Z.heap[L + 1]? = some (.cells #[.slice none 0 0] 127 (0,0))
 f2 : Z.heap[L + 2]? = some (.cells #[.bool false] 4 (0,0))
 f3 : Z.heap[L + 3]? = some (.cells #[.slice pT ts.length cT] 157 (0,0))
 own : OwnS natE 3 B Z ps cs ss
 rk : OwnS tpE 158 B Z pT cT ts
 n1 : ∀ z ∈ ts,OwnS pthE 165 B Z z.2.1 z.2.2 z.1
 n2 : ∀ z ∈ ts,∀ x ∈ z.1,PthO B Z x
theorem PthO.same {B : Nat} {Y Z : World} {x : PthR} (h : PthO B Y x) (k : ∀ {α : Type} {E : Enc α} {T c : Nat} {q : Option Addr} {l : List α},T = 52 ∨ T = 37 → OwnS E T B Y q c l → OwnS E T B Z q c l) : PthO B Z x :=
 ⟨k (.inl rfl) h.1,k (.inr rfl) h.2.1,k (.inr rfl) h.2.2.1,k (.inr rfl) h.2.2.2⟩
theorem MxS.below {B : Nat} {Z Y : World} {L bP : Nat} {ss : List Nat} {ps : Option Addr} {cs : Nat} {ts : List TpR} {pT : Option Addr} {cT : Nat} (h : MxS B Z L bP ss ps cs ts pT cT) (hb : Below Z.heap.size Z Y) : MxS B Y L bP ss ps cs ts pT cT :=
 ⟨block_below hb h.f0,block_below hb h.f1,block_below hb h.f2,block_below hb h.f3,h.own.below hb,h.rk.below hb,fun z hz => (h.n1 z hz).below hb,fun z hz x hx => (h.n2 z hz x hx).same fun {α E T c q l} _ ho => ho.below hb⟩
theorem MxS.size {B : Nat} {Z Y : World} {L bP n : Nat} {ss : List Nat} {ps ps' : Option Addr} {cs cs' : Nat} {ts : List TpR} {pT : Option Addr} {cT : Nat} (h : MxS B Z L bP ss ps cs ts pT cT) (ho : OwnS natE 3 B Y ps' cs' (ss ++ [n])) (g : Z.grownBy Y (ps.map Addr.block)) : MxS B Y L bP (ss ++ [n]) ps' cs' ts pT cT :=
 ⟨box_past h.f0 h.own (by decide) g,box_past h.f1 h.own (by decide) g,box_past h.f2 h.own (by decide) g,box_past h.f3 h.own (by decide) g,ho,own_pastT h.rk h.own (by decide) g,fun z hz => own_pastT (h.n1 z hz) h.own (by decide) g,fun z hz x hx => (h.n2 z hz x hx).same fun {α E T c q l} ht hoo => own_pastT hoo h.own (by rcases ht with rfl | rfl <;> decide) g⟩
theorem appT {B c : Nat} {V1 : World} {p : Option Addr} {l : List TpR} {y : TpR} {a : Addr} (ho : OwnS tpE 158 B V1 p c l) (ha : Cells V1 a ([y].flatMap tpE.enc)) (hB : B ≤ V1.heap.size) (hl : l.length ≤ 100000) {K : Value → World → Prop}
  (h : ∀ p' c' w',OwnS tpE 158 B w' p' c' (l ++ [y]) → V1.grownBy w' (p.map Addr.block) → (∀ a,p' = some a → p = some a ∨ a.block = V1.heap.size) → K (.slice p' (l ++ [y]).length c') w') :
  SatR ((Builtin.append_ #[157,157] 157 #[.slice p l.length c,.slice (some a) 1 1]).run Tryz.prog V1) K :=
 app_own (E := tpE) (T := 158) (B := B) (l := l) (news := [y]) (cap := c) (m := 1) Tryz.underlying157 (ttOk.get 158 _ rfl) rfl rfl rfl ho rfl ha hB (by omega) (by show (l.length + 1) * 24 ≤ _; omega) fun p' c' w' a1 a2 _ a4 => h p' c' w' a1 (by rw [own_map] at a2; exact a2) a4
theorem appP {B c : Nat} {V1 : World} {p : Option Addr} {l : List PthR} {y : PthR} {a : Addr} (ho : OwnS pthE 165 B V1 p c l) (ha : Cells V1 a ([y].flatMap pthE.enc)) (hB : B ≤ V1.heap.size) (hl : l.length ≤ 100000) {K : Value → World → Prop}
  (h : ∀ p' c' w',OwnS pthE 165 B w' p' c' (l ++ [y]) → V1.grownBy w' (p.map Addr.block) → (∀ a,p' = some a → p = some a ∨ a.block = V1.heap.size) → K (.slice p' (l ++ [y]).length c') w') :
  SatR ((Builtin.append_ #[158,158] 158 #[.slice p l.length c,.slice (some a) 1 1]).run Tryz.prog V1) K :=
 app_own (E := pthE) (T := 165) (B := B) (l := l) (news := [y]) (cap := c) (m := 1) Tryz.underlying158 (ttOk.get 165 _ rfl) rfl rfl rfl ho rfl ha hB (by omega) (by show (l.length + 1) * 104 ≤ _; omega) fun p' c' w' a1 a2 _ a4 => h p' c' w' a1 (by rw [own_map] at a2; exact a2) a4
structure ThrQ (V : List UInt8) (l : List InsD) : Prop where
 l12 : l.length ≤ 12
 ex : ∀ x ∈ l,ExOk x
 ok : threadB l 6 = true
 m : (endsR l (ded V)).length ≤ 4096
abbrev pathsOf (V : List UInt8) (l : List InsD) : List PathD := (endsR l (ded V)).map pathR
end Go.Proofs.YtkpcgpmimejimaaGreatDoor
namespace Go.Proofs.YtkpcgpmimejimaaGreatDoor
open Go.Vc Go.RowKit Go.Sei
def wrE (R : RunD) (i : Nat) (v : UInt8) : Bool := (List.range i).any fun j => decide ((R.ev j).k = 2) && decide ((R.ev j).v = v)
def wrL (rs : List RunD) (v : UInt8) : Bool := rs.any fun R => wrE R R.many v
theorem writesR_eq (rs : List RunD) : writesR rs = bytesAll.filter (wrL rs) := rfl
def wrC (f : UInt8 → Bool) : List Value := seg 256 fun i => .bool (f (UInt8.ofNat i))
theorem wrC_at (f : UInt8 → Bool) {i : Nat} (h : i < 256) : (wrC f)[i]? = some (.bool (f (UInt8.ofNat i))) := seg_at _ h
theorem wrC_set (f : UInt8 → Bool) (x : UInt8) : (wrC f).set x.toNat (.bool true) = wrC fun v => f v || decide (x = v) := by
 have hx := x.toNat_lt
 apply List.ext_getElem?
 intro j
 by_cases hj : j < 256
 ·rw [wrC_at _ hj]
  by_cases e : x.toNat = j
  ·subst e
   rw [List.getElem?_set_self (by unfold wrC; rw [seg_len]; exact hx),UInt8.ofNat_toNat,decide_eq_true rfl,Bool.or_true]
  ·rw [List.getElem?_set_ne e,wrC_at _ hj]
   have : x ≠ UInt8.ofNat j := fun h => e (by rw [h,UInt8.toNat_ofNat']; omega)
   rw [decide_eq_false this,Bool.or_false]
 ·rw [List.getElem?_eq_none (by unfold wrC; rw [List.length_set,seg_len]; omega),List.getElem?_eq_none (by unfold wrC; rw [seg_len]; omega)]
theorem wrC_len (f : UInt8 → Bool) : (wrC f).length = 256 := seg_len _ _
theorem wrL_snoc (rs : List RunD) (R : RunD) (v : UInt8) : wrL (rs ++ [R]) v = (wrL rs v || wrE R R.many v) := by
 unfold wrL
 rw [List.any_append]; simp
theorem wrE_succ (R : RunD) (i : Nat) (v : UInt8) : wrE R (i + 1) v = (wrE R i v || (decide ((R.ev i).k = 2) && decide ((R.ev i).v = v))) := by
 unfold wrE
 rw [List.range_succ,List.any_append]; simp
theorem filter_one (p : UInt8 → Bool) (x : UInt8) : [x].filter p = if p x = true then [x] else [] := by
 rw [List.filter_cons,List.filter_nil]
theorem bytes_at {k : Nat} (h : k < 256) : ∃ hl : k < bytesAll.length,bytesAll[k] = UInt8.ofNat k := by
 have hl : bytesAll.length = 256 := by unfold bytesAll; rw [List.length_map,List.length_range]
 refine ⟨by rw [hl]; exact h,?_⟩
 simp [bytesAll]
theorem ztwr : List.replicate 256 (Value.bool false) = wrC fun _ => false := by kernel_rfl
section
variable {l : List InsD} {dom : List UInt8} {q p : Option Addr} {cap cd : Nat} {w : World}
theorem writes_c (hl : SlR insE w q l) (hp : SlR byteE w p dom) (h12 : l.length ≤ 12) (hx : ∀ x ∈ l,ExOk x) (hR : ∀ R ∈ endsR l dom,R.many ≤ 24) (hm : (endsR l dom).length ≤ 4096) (hqb : ∀ a,q = some a → a.block < w.heap.size) (hpb : ∀ a,p = some a → a.block < w.heap.size) (hdl : dom.length ≤ 1000) :
  Calls Tryz.prog 102 #[.slice q l.length cap,.slice p dom.length cd] w fun e w' => (∃ (p' : Option Addr) (c' : Nat),e = .returned (.tuple #[.slice p' (writesR (endsR l dom)).length c',.bool true]) ∧ OwnS byteE 5 w.heap.size w' p' c' (writesR (endsR l dom))) ∧ Below w.heap.size w w' := by
 refine calls_of_M (S := sg 55) (sgOk _) (args := [.slice q l.length cap,.slice p dom.length cd]) (.c .p (.c .p (.c .p (.c .p (.s .p (.c .p .p)))))) Tryz.func102 rfl rfl (Nat.le_of_ble_eq_true rfl) rfl ?_
 obtain ⟨L,hL⟩ : ∃ L,L = w.heap.size := ⟨_,rfl⟩
 refine ⟨Unit,fun _ => ⟨[(0,.slice q l.length cap),(1,.slice p dom.length cd),(4,AtR L),(5,AtR (L + 1))],[]⟩,fun _ X => X.heap[L]? = some (.cells #[.slice none 0 0] 58 (0,0)) ∧ X.heap[L + 1]? = some (.cells #[.bool false] 4 (0,0)) ∧ X.heap.size = L + 2 ∧ Below w.heap.size w X,?_,?_⟩
 ·have s1 := World.size_alloc w (.cells #[.slice none 0 0] 58)
  have h2 := hnew (w.alloc (.cells #[.slice none 0 0] 58)) (.cells #[.bool false] 4)
  have s2 := World.size_alloc (w.alloc (.cells #[.slice none 0 0] 58)) (.cells #[.bool false] 4)
  rw [s1] at h2 s2
  refine ⟨(),⟨.cons rfl (.cons rfl (.cons (by rw [hL]; rfl) (.cons (by rw [hL,← s1]; rfl) .nil))),rfl⟩,?_,?_,?_,?_⟩
  ·rw [hL]; exact hold _ (hnew w _)
  ·rw [hL]; exact h2
  ·rw [hL]; exact s2
  ·exact ((Below.refl _ w).alloc (Nat.le_refl _) _).alloc (by simp) _
 rintro _ X ⟨f0,f1,sX,hbX⟩
 refine ⟨Unit,fun _ => ⟨[(0,.slice q l.length cap),(1,.slice p dom.length cd),(4,AtR L),(5,AtR (L + 1)),(6,AtR (L + 2))],[]⟩,fun _ Y => Y.heap[L + 2]? = some (.cells (wrC fun _ => false).toArray 184 (0,0)) ∧ Y.heap.size = L + 3 ∧ Below X.heap.size X Y,?_,?_⟩
 ·refine ⟨(),⟨.cons rfl (.cons rfl (.cons rfl (.cons rfl (.cons (by rw [← sX]; rfl) .nil)))),rfl⟩,?_,?_,?_⟩
  ·rw [← sX,← ztwr]; exact hnew X _
  ·have := World.size_alloc X (.cells (List.replicate 256 (Value.bool false)).toArray 184)
   rw [sX] at this; exact this
  ·exact (Below.refl _ X).alloc (Nat.le_refl _) _
 rintro _ Y ⟨f2,sY,hbY⟩
 refine ⟨Unit,fun _ => ⟨[(0,.slice q l.length cap),(1,.slice p dom.length cd),(4,AtR L),(5,AtR (L + 1)),(6,AtR (L + 2)),(7,AtR (L + 3))],[]⟩,fun _ Z => Z.heap[L + 3]? = some (.cells [i64 (0 : Nat)].toArray 3 (0,0)) ∧ Z.heap.size = L + 4 ∧ Below Y.heap.size Y Z,?_,?_⟩
 ·refine store_new (X := Y) (v := i64 0) (ttOk.get 3 _ rfl) rfl rfl rfl fun Z hbZ fZ sZ => ?_
  rw [sY] at fZ sZ
  exact ⟨(),⟨.cons rfl (.cons rfl (.cons rfl (.cons rfl (.cons rfl (.cons (by rw [← sY]; rfl) .nil))))),rfl⟩,fZ,sZ,hbZ⟩
 rintro _ V ⟨f3,sV,hbV⟩
 have hXV : Below X.heap.size X V := hbY.trans (hbV.mono hbY.size)
 have hwV := hbX.trans (hXV.mono hbX.size)
 have f0 := block_below hXV f0
 have f1 := block_below hXV f1
 have f2 := block_below hbV f2
 clear hbX hbY hbV hXV
 obtain ⟨xs,hxs⟩ : ∃ xs,xs = endsR l dom := ⟨_,rfl⟩
 rw [← hxs] at hR hm ⊢
 refine ⟨Nat,fun D1 => ⟨[(4,AtR L),(5,AtR (L + 1)),(6,AtR (L + 2))],[{ target := .collected D1,args := #[] }]⟩,fun D1 U => U.heap[L + 2]? = some (.cells (wrC (wrL xs)).toArray 184 (0,0)) ∧ U.heap[D1]? = some (.deferred (some [])) ∧ L + 2 < D1 ∧ Below (L + 2) V U,?_,?_⟩
 ·refine Calls.mono endsF_c ?_
  rintro e W ⟨rfl,fi,fd,sW,hbW⟩
  have hwW := hwV.trans (hbW.mono hwV.size)
  have hI := ends_c (q := q) (p := p) (hl.below hwW) (hp.below hwW) fi fd (fun a ha => by have := hqb a ha; have := hwW.size; omega) (fun a ha => by have := hpb a ha; have := hwW.size; omega) h12 hx hdl
  rw [← hxs] at hI
  obtain ⟨J,hJ⟩ : ∃ J : List RunD → World → Prop,J = fun pre Y => W.heap.size ≤ Y.heap.size ∧ Y.heap[L + 2]? = some (.cells (wrC (wrL pre)).toArray 184 (0,0)) ∧ Y.heap[L + 3]? = some (.cells [i64 pre.length].toArray 3 (0,0)) ∧ Below (L + 2) W Y := ⟨_,rfl⟩
  obtain ⟨F0,hF0⟩ : ∃ F0 : Nat → Prop,F0 = fun k => k = L + 2 ∨ k = L + 3 := ⟨_,rfl⟩
  refine rangeG (sgOk _) rfl (lb := #[AtR V.heap.size,AtR (V.heap.size + 1)]) rfl rfl hI (Nat.le_refl _) (fun k hk => ⟨?_,rfl⟩) (fun pre vs W ⟨R,b,_,h,_⟩ => by rw [h]; rfl) (by decide)
   F0 (fun pre F Y => F = F0 ∧ J pre Y) (fun _ _ _ _ => False) (fun k hk => ?_)
   (joG (F := F0) (J := J) (fun k h => by rw [hF0] at h; omega) (fun s A h => by rw [hJ] at h; exact h.1) (fun pre A B h hb => by
    rw [hJ] at h ⊢
    obtain ⟨h1,h2,h3,h4⟩ := h
    exact ⟨Nat.le_trans h1 hb.size,below_old hb (by omega) h2,below_old hb (by omega) h3,h4.trans (hb.mono (by omega))⟩))
   (fun ex => ⟨fun _ _ _ _ h => h.elim,fun _ _ _ _ h => h.elim⟩) ⟨rfl,by rw [hJ]; exact ⟨Nat.le_refl _,block_below hbW f2,block_below hbW f3,Below.refl _ _⟩⟩ ?_ ?_ ?_
  ·rcases hk with ((rfl | rfl) | ⟨a,ha,rfl⟩ | ⟨a,ha,rfl⟩) | h
   ·omega
   ·omega
   ·have := hqb a ha; have := hwW.size; omega
   ·have := hpb a ha; have := hwW.size; omega
   ·exact h.elim
  ·rw [hF0]
   rcases hk with (rfl | rfl) | ⟨a,ha,rfl⟩ | ⟨a,ha,rfl⟩
   ·omega
   ·omega
   ·have := hqb a ha; omega
   ·have := hpb a ha; omega
  ·rintro yl pre x vs F Y hyl hpre hJ0 ⟨R,b,hlast,rfl,fR⟩ hfy ⟨lo,hlo⟩
   have hxR : x = R := by simpa using hlast
   subst hxR
   refine ⟨rfl,F,KeepsG.refl _ _,hJ0,?_⟩
   rintro o Y2 hY2 ⟨rfl,hJ2⟩
   rw [hJ] at hJ2
   obtain ⟨h1,h2,h3,h4⟩ := hJ2
   have hbl : b ≠ yl := fun e => by
    rw [e] at fR
    rw [fR] at hlo
    cases hlo
   have fR2 : RunH Y2 b x := by rw [hY2]; exact (heap_put_old hbl).trans fR
   have r1 := hR x (hpre.subset (by simp))
   have hpl : pre.length < xs.length := by
    obtain ⟨t,ht⟩ := hpre
    rw [← ht]
    simp only [List.length_append,List.length_cons]
    omega
   refine ⟨_,cells_at (cells_block h3) (i := 0) rfl,?_⟩
   refine brN (decide_eq_false (by omega)) ?_
   refine ⟨_,cells_at (cells_block h3) (i := 0) rfl,?_⟩
   refine ⟨((pre.length + 1 : Nat) : Int),(wrap_i64 (by omega)).trans (by omega),?_⟩
   refine store_one (ttOk.get 3 _ rfl) h3 (o := 0) (v := i64 (pre.length + 1 : Nat)) rfl rfl (by show 0 < 1; decide) rfl fun Z fZ gZ sZ => ?_
   have fRZ : RunH Z b x := (gZ.block b (hlt fR2) (fun e => by
    have e : b = L + 3 := by simpa using e
    rw [e] at fR2
    rw [fR2] at h3
    simp at h3)).trans fR2
   have f2Z := (gZ.block (L + 2) (hlt h2) (by simp)).trans h2
   have kZ : KeepsG F F Y2 Z := KeepsG.grown gZ (by rw [hF0]; exact .inr rfl)
   have bZ : Below (L + 2) W Z := h4.trans (below_grown gZ (by omega) (by omega))
   refine DrawE.ord [] [0,1,2,3,4,5,6,7,8,9] (by kernel_rfl) ?_
   have hdZ : Below Z.heap.size Z Z.drew := (Below.refl _ _).drew
   refine ⟨_,cells_at (cells_block (hdr fRZ)) (i := 18) (run_many x),?_⟩
   refine ⟨x.many,rfl,r1,?_⟩
   have ecut : cutBase (some ⟨b,0 + 19,none⟩) 24 0 7 = some ⟨b,19,none⟩ := by rw [cutBase_zero,Nat.zero_add]
   refine ⟨Nat,fun i => ⟨[(6,AtR (L + 2)),(7,AtR (L + 3)),(29,.slice (some ⟨b,19,none⟩) (x.many - 0) (24 - 0)),(30,i64 (x.many : Nat)),(31,i64 (i : Nat))],[]⟩,
    fun i T => i ≤ x.many ∧ T.heap[L + 2]? = some (.cells (wrC fun v => wrL pre v || wrE x i v).toArray 184 (0,0)) ∧ RunH T b x ∧ T.heap[L + 3]? = some (.cells [i64 (pre.length + 1 : Nat)].toArray 3 (0,0)) ∧ KeepsG F F Y2 T ∧ Below (L + 2) W T,fun i => x.many - i,0,
    ⟨.cons rfl (.cons rfl (.cons (by rw [← ecut]; rfl) (.cons rfl (.cons rfl .nil)))),rfl⟩,⟨Nat.zero_le _,?_,hdr fRZ,hdr fZ,kZ.trans (KeepsG.below hdZ fun k h => .inl h),bZ.drew⟩,?_⟩
   ·have e : (fun v => wrL pre v || wrE x 0 v) = wrL pre := by
     funext v
     show (wrL pre v || false) = _
     rw [Bool.or_false]
    rw [e]
    exact f2Z
   rintro i T ⟨hi,t2,tR,t3,kT,bT⟩
   have hTs := kT.size
   refine And.intro (fun hc => ?_) (fun hc => ?_)
   ·have hc : (i : Int) < (x.many : Int) := of_decide_eq_true hc
    have him : i < x.many := by omega
    refine ⟨i,rfl,him,?_⟩
    have hev : Cells T ⟨b,19 + i * 7,none⟩ (evE.enc (x.ev i)) := by
     have := cells_sub (n := i * 7) (m := 7) (run_evs tR)
     rw [evs_at x.ev (show i < 24 by omega)] at this
     exact this
    refine ⟨evE.enc (x.ev i),rfl,hev,hlt tR,?_⟩
    refine store_new (X := T) (v := .agg (evE.enc (x.ev i)).toArray) (ttOk.get 52 _ rfl) rfl rfl rfl fun T2 hb2 fT2 sT2 => ?_
    have k2 : KeepsG F F Y2 T2 := kT.trans (KeepsG.below hb2 fun k h => .inl h)
    have b2 : Below (L + 2) W T2 := bT.trans (hb2.mono (by omega))
    have n1 := wrE_succ x i
    refine ⟨_,cells_at (cells_block fT2) (i := 1) rfl,?_⟩
    have u2 := block_below hb2 t2
    have uR := block_below hb2 tR
    have u3 := block_below hb2 t3
    refine And.intro (fun hk => ?_) (fun hk => ?_)
    ·have hk : (x.ev i).k = 2 := u8_eq.1 (of_decide_eq_true hk)
     refine ⟨_,cells_at (cells_block fT2) (i := 3) rfl,?_⟩
     refine ⟨((x.ev i).v).toNat,rfl,((x.ev i).v).toNat_lt,?_⟩
     refine store_one (ttOk.get 4 _ rfl) u2 (o := 0 + ((x.ev i).v).toNat * 1) (v := .bool true) rfl rfl (by rw [wrC_len]; have := ((x.ev i).v).toNat_lt; omega) rfl fun T3 fT3 gT3 sT3 => ?_
     rw [Nat.zero_add,Nat.mul_one,wrC_set] at fT3
     have k3 : KeepsG F F Y2 T3 := k2.trans (KeepsG.grown gT3 (by rw [hF0]; exact .inl rfl))
     have hT2s := k2.size
     refine ⟨((i + 1 : Nat) : Int),(wrap_i64 (by omega)).trans (by omega),?_⟩
     refine ⟨i + 1,⟨.cons rfl (.cons rfl (.cons rfl (.cons rfl (.cons rfl .nil)))),rfl⟩,⟨him,?_,(gT3.block b (hlt uR) (fun e => by
      have e : b = L + 2 := by simpa using e
      rw [e] at uR
      rw [uR] at u2
      simp at u2)).trans uR,(gT3.block (L + 3) (hlt u3) (by simp)).trans u3,k3,b2.trans (below_grown gT3 (by omega) (Nat.le_refl _))⟩,by show x.many - (i + 1) < x.many - i; omega⟩
     have e : (fun v => wrL pre v || wrE x (i + 1) v) = fun v => (wrL pre v || wrE x i v) || decide ((x.ev i).v = v) := by
      funext v
      rw [n1,decide_eq_true hk,Bool.true_and,Bool.or_assoc]
     rw [e]
     exact fT3
    ·have hk : ¬ (x.ev i).k = 2 := fun e => (of_decide_eq_false hk) (by rw [e]; rfl)
     refine ⟨((i + 1 : Nat) : Int),(wrap_i64 (by omega)).trans (by omega),?_⟩
     refine ⟨i + 1,⟨.cons rfl (.cons rfl (.cons rfl (.cons rfl (.cons rfl .nil)))),rfl⟩,⟨him,?_,uR,u3,k2,b2⟩,by show x.many - (i + 1) < x.many - i; omega⟩
     have e : (fun v => wrL pre v || wrE x (i + 1) v) = fun v => (wrL pre v || wrE x i v) := by
      funext v
      rw [n1,decide_eq_false hk,Bool.false_and,Bool.or_false]
     rw [e]
     exact u2
   ·have hc : ¬ (i : Int) < (x.many : Int) := of_decide_eq_false hc
    obtain rfl : i = x.many := by omega
    refine ⟨F,⟨rfl,?_⟩,kT⟩
    rw [hJ]
    refine ⟨by omega,?_,by rw [List.length_append]; exact t3,bT⟩
    have e : wrL (pre ++ [x]) = fun v => wrL pre v || wrE x x.many v := by
     funext v
     exact wrL_snoc pre x v
    rw [e]
    exact t2
  ·rintro D1 F Y hD hfD ⟨rfl,hj⟩ hdef
   rw [hJ] at hj
   obtain ⟨h1,h2,h3,h4⟩ := hj
   exact ⟨D1,⟨.cons rfl (.cons rfl (.cons rfl .nil)),rfl⟩,h2,hdef,by omega,(hbW.mono (by omega)).trans h4⟩
  ·rintro D ex pre F Y hD hfD hpre h
   exact h.elim
 clear f2 f3
 rintro D1 U ⟨f2,fD1,hLD,bU⟩
 have f0 : U.heap[L]? = some (.cells #[.slice none 0 0] 58 (0,0)) := (bU.block L (by omega)).trans f0
 have f1 : U.heap[L + 1]? = some (.cells #[.bool false] 4 (0,0)) := (bU.block (L + 1) (by omega)).trans f1
 have hwU : Below w.heap.size w U := hwV.trans (bU.mono (by omega))
 have sU := hlt f2
 have sD := hlt fD1
 clear bU hwV
 refine ⟨List UInt8 × Option Addr × Nat,fun s => ⟨[(4,AtR L),(5,AtR (L + 1)),(11,.slice s.2.1 s.1.length s.2.2)],[{ target := .collected D1,args := #[] }]⟩,fun s Z => s.1 = writesR xs ∧ OwnS byteE 5 U.heap.size Z s.2.1 s.2.2 s.1 ∧ Below U.heap.size U Z,?_,?_⟩
 ·refine ⟨wrC (wrL xs),wrC_len _,cells_block f2,hlt f2,?_⟩
  refine ⟨Nat × Option Addr × Nat,fun s => ⟨[(4,AtR L),(5,AtR (L + 1)),(11,.slice s.2.1 ((bytesAll.take s.1).filter (wrL xs)).length s.2.2),(42,.agg (wrC (wrL xs)).toArray),(43,i64 (s.1 : Nat))],[{ target := .collected D1,args := #[] }]⟩,
   fun s Z => s.1 ≤ 256 ∧ OwnS byteE 5 U.heap.size Z s.2.1 s.2.2 ((bytesAll.take s.1).filter (wrL xs)) ∧ Below U.heap.size U Z,fun s => 256 - s.1,(0,none,0),
   ⟨.cons rfl (.cons rfl (.cons rfl (.cons rfl (.cons rfl .nil)))),rfl⟩,⟨Nat.zero_le _,OwnS.nil,Below.refl _ _⟩,?_⟩
  rintro ⟨k,r,c⟩ Z ⟨hk,ho,hbZ⟩
  dsimp only at hk ho ⊢
  have hZs := hbZ.size
  refine And.intro (fun hc => ?_) (fun hc => ?_)
  ·have hc : (k : Int) < 256 := of_decide_eq_true hc
   have hk2 : k < 256 := by omega
   have tk : bytesAll.take (k + 1) = bytesAll.take k ++ [UInt8.ofNat k] := by
    obtain ⟨hlb,hbk⟩ := bytes_at hk2
    rw [List.take_succ_eq_append_getElem hlb,hbk]
   have fl : (bytesAll.take (k + 1)).filter (wrL xs) = (bytesAll.take k).filter (wrL xs) ++ (if wrL xs (UInt8.ofNat k) = true then [UInt8.ofNat k] else []) := by
    rw [tk,List.filter_append,filter_one]
   have hfl : ((bytesAll.take k).filter (wrL xs)).length ≤ 256 := by
    have h1 := List.length_filter_le (wrL xs) (bytesAll.take k)
    rw [List.length_take] at h1
    omega
   refine ⟨k,rfl,hk2,?_⟩
   refine partE_of (by rw [Nat.mul_one]; exact wrC_at _ hk2) ?_
   refine And.intro (fun hv => ?_) (fun hv => ?_)
   ·rw [if_pos hv] at fl
    refine ⟨_,w8N k,?_⟩
    refine ⟨⟨by decide,by decide,rfl⟩,byteE.enc (UInt8.ofNat k),rfl,?_⟩
    have hba : Below Z.heap.size Z (Z.alloc (.cells (byteE.enc (UInt8.ofNat k)).toArray 5)) := (Below.refl _ _).alloc (Nat.le_refl _) _
    refine app_own (E := byteE) (T := 5) (B := U.heap.size) (l := (bytesAll.take k).filter (wrL xs)) (news := [UInt8.ofNat k]) (cap := c) (m := 1) Tryz.underlying58 (ttOk.get 5 _ rfl) rfl rfl rfl (ho.below hba) rfl (one_new byteE (UInt8.ofNat k)) (by have := hba.size; omega) (by omega) (by show (((bytesAll.take k).filter (wrL xs)).length + 1) * 1 ≤ _; omega) ?_
    intro p2 c2 T oT gT hbT hat
    refine ⟨((k + 1 : Nat) : Int),(wrap_i64 (by omega)).trans (by omega),?_⟩
    refine ⟨(k + 1,p2,c2),⟨.cons rfl (.cons rfl (.cons (by rw [fl]; rfl) (.cons rfl (.cons rfl .nil)))),rfl⟩,⟨hk2,by show OwnS byteE _ _ _ _ _ ((bytesAll.take (k + 1)).filter (wrL xs)); rw [fl]; exact oT,(hbZ.trans (hba.mono hZs)).trans hbT⟩,by show 256 - (k + 1) < 256 - k; omega⟩
   ·have hv : wrL xs (UInt8.ofNat k) = false := hv
    rw [hv,if_neg Bool.false_ne_true,List.append_nil] at fl
    refine ⟨((k + 1 : Nat) : Int),(wrap_i64 (by omega)).trans (by omega),?_⟩
    exact ⟨(k + 1,r,c),⟨.cons rfl (.cons rfl (.cons (by rw [fl]; rfl) (.cons rfl (.cons rfl .nil)))),rfl⟩,⟨hk2,by show OwnS byteE _ _ _ _ _ ((bytesAll.take (k + 1)).filter (wrL xs)); rw [fl]; exact ho,hbZ⟩,by show 256 - (k + 1) < 256 - k; omega⟩
  ·have hc : ¬ (k : Int) < 256 := of_decide_eq_false hc
   obtain rfl : k = 256 := by omega
   have e : (bytesAll.take 256).filter (wrL xs) = writesR xs := by
    rw [writesR_eq,List.take_of_length_le (by unfold bytesAll; rw [List.length_map,List.length_range]; exact Nat.le_refl _)]
   rw [e] at ho
   exact ⟨(writesR xs,r,c),⟨.cons rfl (.cons rfl (.cons (by rw [e]; rfl) .nil)),rfl⟩,rfl,ho,hbZ⟩
 rintro ⟨ys,r,c⟩ Z ⟨rfl,ho,hbZ⟩
 dsimp only at ho ⊢
 have hZs := hbZ.size
 have g0 := block_below hbZ f0
 have g1 := block_below hbZ f1
 have gD := block_below hbZ fD1
 refine store_one (ttOk.get 58 _ rfl) g0 (o := 0) (v := .slice r (writesR xs).length c) rfl rfl (by show 0 < 1; decide) rfl fun Z1 fZ1 gZ1 sZ1 => ?_
 have g1' := (gZ1.block (L + 1) (hlt g1) (by simp)).trans g1
 refine store_one (ttOk.get 4 _ rfl) g1' (o := 0) (v := .bool true) rfl rfl (by show 0 < 1; decide) rfl fun Z2 fZ2 gZ2 sZ2 => ?_
 have k2 : ∀ k,k < Z.heap.size → k ≠ L → k ≠ L + 1 → Z2.heap[k]? = Z.heap[k]? := fun k hk n1 n2 => (gZ2.block k (by rw [sZ1]; exact hk) (by simpa using n2)).trans (gZ1.block k hk (by simpa using n1))
 have fZ1' := (gZ2.block L (hlt fZ1) (by simp)).trans fZ1
 refine ⟨_,rfl,(k2 D1 (hlt gD) (by omega) (by omega)).trans gD,?_⟩
 refine ⟨.slice r (writesR xs).length c,?_,.bool true,?_,⟨r,c,rfl,?_⟩,?_⟩
 ·exact cells_at (cells_block ((heap_put_old (by omega)).trans fZ1')) (i := 0) rfl
 ·exact cells_at (cells_block ((heap_put_old (by omega)).trans fZ2)) (i := 0) rfl
 ·refine OwnS.lower (ho.same fun a ha => ?_) hwU.size
  have h := own_bl ho ha
  exact (heap_put_old (by omega)).trans (k2 _ h.2.1 (by omega) (by omega))
 ·have hwZ := hwU.trans (hbZ.mono hwU.size)
  exact below_put ((hwZ.trans (below_grown gZ1 hwZ.size (by omega))).trans (below_grown gZ2 (by rw [sZ1]; exact hwZ.size) (by omega))) (by omega) _
end
end Go.Proofs.YtkpcgpmimejimaaGreatDoor
namespace Go.Proofs.YtkpcgpmimejimaaGreatDoor
open Go.Vc Go.RowKit Go.Sei
theorem nat_ltd {a b : Nat} : decide ((a : Int) < (b : Int)) = decide (a < b) := by rw [decide_eq_decide]; omega
def bareL (c : Cnd) : Bool := decide (c.thread = 0) && (decide (c.n = 0) && decide (c.val = 0))
theorem condB_succ {threads locs d : Nat} (c : Cnd) : condB threads locs (d + 1) c = (if c.kind = 0 then bareL c && decide (c.kids.length = 0) else
  if c.kind = 1 then decide (c.thread.toNat < threads) && (decide (c.n.toNat < 8) && decide (c.kids.length = 0)) else
  if c.kind = 2 then decide (c.n.toNat < locs) && (decide (c.thread = 0) && decide (c.kids.length = 0)) else
  if c.kind = 3 ∨ c.kind = 4 then bareL c && (decide (2 ≤ c.kids.length) && c.kids.all (condB threads locs d)) else
  if c.kind = 5 then bareL c && (decide (c.kids.length = 1) && c.kids.all (condB threads locs d)) else false) := by
 obtain ⟨k,t,n,v,kids⟩ := c
 rfl
def asksL (c : Cnd) : Prop := (c.kind = 3 ∨ c.kind = 4) ∧ bareL c = true ∧ 2 ≤ c.kids.length ∨ c.kind = 5 ∧ bareL c = true ∧ c.kids.length = 1
theorem condB_asks {threads locs d : Nat} {c : Cnd} (h : asksL c) : condB threads locs (d + 1) c = c.kids.all (condB threads locs d) := by
 rw [condB_succ]
 rcases h with ⟨h1,h2,h3⟩ | ⟨h1,h2,h3⟩
 ·rw [if_neg (by rcases h1 with h | h <;> rw [h] <;> decide),if_neg (by rcases h1 with h | h <;> rw [h] <;> decide),if_neg (by rcases h1 with h | h <;> rw [h] <;> decide),if_pos h1,h2,decide_eq_true h3]; rfl
 ·rw [if_neg (by rw [h1]; decide),if_neg (by rw [h1]; decide),if_neg (by rw [h1]; decide),if_neg (by rw [h1]; decide),if_pos h1,h2,decide_eq_true h3]; rfl
theorem condRight_c {B threads locs : Nat} {w : World} (hB : B ≤ w.heap.size) : ∀ (d : Nat) (c : Cnd) (b o : Nat) (p : Option Addr) (cap : Nat),d ≤ 1000 → b < B → Cells w ⟨b,o,none⟩ (cndCells c p cap) → KidsV B w p c.kids →
  Calls Tryz.prog 143 #[.pointer (some ⟨b,o,none⟩),i64 threads,i64 locs,i64 d] w fun e w' => e = .returned (.bool (condB threads locs d c)) ∧ w = w' := by
 intro d
 induction d with
 | zero =>
  intro c b o p cap _ hb hc hk
  refine calls_of_E (S := sg 141) (sgOk _) (args := [.pointer (some ⟨b,o,none⟩),i64 threads,i64 locs,i64 0]) Tryz.func143 rfl rfl (Nat.le_of_ble_eq_true rfl) rfl ?_
  refine brT ?_
  exact ⟨rfl,rfl⟩
 | succ d ih =>
  intro c b o p cap hd hb hc hk
  refine calls_of_M (S := sg 141) (sgOk _) (args := [.pointer (some ⟨b,o,none⟩),i64 threads,i64 locs,i64 (d + 1 : Nat)]) (.s .p (.s .p (.c .p (.c .p .p)))) Tryz.func143 rfl rfl (Nat.le_of_ble_eq_true rfl) rfl ?_
  have hbl : b < w.heap.size := Nat.lt_of_lt_of_le hb hB
  refine And.intro (fun h => ?_) (fun h => ?_)
  ·have h : ((d + 1 : Nat) : Int) = 0 := of_decide_eq_true h
   omega
  clear h
  refine ⟨Unit,fun _ => ⟨[(0,.pointer (some ⟨b,o,none⟩)),(1,i64 threads),(2,i64 locs),(3,i64 (d + 1 : Nat)),(9,.bool (bareL c))],[]⟩,fun _ X => w = X,?_,?_⟩
  ·have fin : ∀ {v : Bool},v = bareL c → some (Value.bool v) = some (.bool (bareL c)) := fun h => by rw [h]
   refine ⟨_,cells_at hc (i := 1) rfl,?_⟩
   refine And.intro (fun h1 => ?_) (fun h1 => ?_)
   ·have h1 : decide (c.thread = 0) = true := (u8d c.thread 0).symm.trans h1
    refine ⟨_,cells_at hc (i := 2) rfl,?_⟩
    refine And.intro (fun h2 => ?_) (fun h2 => ?_)
    ·have h2 : decide (c.n = 0) = true := (u8d c.n 0).symm.trans h2
     refine ⟨_,cells_at hc (i := 3) rfl,?_⟩
     exact ⟨(),⟨.cons rfl (.cons rfl (.cons rfl (.cons rfl (.cons (fin (by unfold bareL; rw [h1,h2]; exact u8d c.val 0)) .nil)))),rfl⟩,rfl⟩
    ·have h2 : decide (c.n = 0) = false := (u8d c.n 0).symm.trans h2
     exact ⟨(),⟨.cons rfl (.cons rfl (.cons rfl (.cons rfl (.cons (fin (by unfold bareL; rw [h1,h2]; rfl)) .nil)))),rfl⟩,rfl⟩
   ·have h1 : decide (c.thread = 0) = false := (u8d c.thread 0).symm.trans h1
    refine brF ?_
    exact ⟨(),⟨.cons rfl (.cons rfl (.cons rfl (.cons rfl (.cons (fin (by unfold bareL; rw [h1]; rfl)) .nil)))),rfl⟩,rfl⟩
  rintro _ _ rfl
  refine ⟨Unit,fun _ => ⟨[(0,.pointer (some ⟨b,o,none⟩)),(1,i64 threads),(2,i64 locs),(3,i64 (d + 1 : Nat))],[]⟩,fun _ X => asksL c ∧ w = X,?_,?_⟩
  ·have hkn : c.kids.length ≤ 140737488351232 := by have := hk.inv.1; omega
   refine ⟨_,cells_at hc (i := 0) rfl,?_⟩
   refine And.intro (fun h0 => ?_) (fun h0 => ?_)
   ·have h0 : c.kind = 0 := of_decide_eq_true ((u8d c.kind 0).symm.trans h0)
    have e : condB threads locs (d + 1) c = (bareL c && decide (c.kids.length = 0)) := by rw [condB_succ,if_pos h0]
    rw [e]
    refine And.intro (fun h => ?_) (fun h => ?_)
    ·have h : bareL c = true := h
     refine ⟨_,cells_at hc (i := 4) rfl,?_⟩
     exact ⟨rb (by rw [h,Bool.true_and]; exact nat_dec),rfl⟩
    ·have h : bareL c = false := h
     exact ⟨rb (by rw [h]; rfl),rfl⟩
   have h0 : ¬ c.kind = 0 := of_decide_eq_false ((u8d c.kind 0).symm.trans h0)
   refine And.intro (fun h1 => ?_) (fun h1 => ?_)
   ·have h1 : c.kind = 1 := of_decide_eq_true ((u8d c.kind 1).symm.trans h1)
    have e : condB threads locs (d + 1) c = (decide (c.thread.toNat < threads) && (decide (c.n.toNat < 8) && decide (c.kids.length = 0))) := by rw [condB_succ,if_neg h0,if_pos h1]
    rw [e]
    refine ⟨_,cells_at hc (i := 1) rfl,?_⟩
    refine ⟨_,wrap_u8_i64 _,?_⟩
    refine And.intro (fun h => ?_) (fun h => ?_)
    ·have h : decide (c.thread.toNat < threads) = true := nat_ltd.symm.trans h
     refine ⟨_,cells_at hc (i := 2) rfl,?_⟩
     refine And.intro (fun h2 => ?_) (fun h2 => ?_)
     ·have h2 : decide (c.n.toNat < 8) = true := (nat_ltd (b := 8)).symm.trans h2
      refine ⟨_,cells_at hc (i := 4) rfl,?_⟩
      exact ⟨rb (by rw [h,h2]; exact nat_dec),rfl⟩
     ·have h2 : decide (c.n.toNat < 8) = false := (nat_ltd (b := 8)).symm.trans h2
      exact ⟨rb (by rw [h,h2]; rfl),rfl⟩
    ·have h : decide (c.thread.toNat < threads) = false := nat_ltd.symm.trans h
     refine brF ?_
     exact ⟨rb (by rw [h]; rfl),rfl⟩
   have h1 : ¬ c.kind = 1 := of_decide_eq_false ((u8d c.kind 1).symm.trans h1)
   refine And.intro (fun h2 => ?_) (fun h2 => ?_)
   ·have h2 : c.kind = 2 := of_decide_eq_true ((u8d c.kind 2).symm.trans h2)
    have e : condB threads locs (d + 1) c = (decide (c.n.toNat < locs) && (decide (c.thread = 0) && decide (c.kids.length = 0))) := by rw [condB_succ,if_neg h0,if_neg h1,if_pos h2]
    rw [e]
    refine ⟨_,cells_at hc (i := 2) rfl,?_⟩
    refine ⟨_,wrap_u8_i64 _,?_⟩
    refine And.intro (fun h => ?_) (fun h => ?_)
    ·have h : decide (c.n.toNat < locs) = true := nat_ltd.symm.trans h
     refine ⟨_,cells_at hc (i := 1) rfl,?_⟩
     refine And.intro (fun h3 => ?_) (fun h3 => ?_)
     ·have h3 : decide (c.thread = 0) = true := (u8d c.thread 0).symm.trans h3
      refine ⟨_,cells_at hc (i := 4) rfl,?_⟩
      exact ⟨rb (by rw [h,h3]; exact nat_dec),rfl⟩
     ·have h3 : decide (c.thread = 0) = false := (u8d c.thread 0).symm.trans h3
      exact ⟨rb (by rw [h,h3]; rfl),rfl⟩
    ·have h : decide (c.n.toNat < locs) = false := nat_ltd.symm.trans h
     refine brF ?_
     exact ⟨rb (by rw [h]; rfl),rfl⟩
   have h2 : ¬ c.kind = 2 := of_decide_eq_false ((u8d c.kind 2).symm.trans h2)
   have g34 : ∀ (hk34 : c.kind = 3 ∨ c.kind = 4),condB threads locs (d + 1) c = (bareL c && (decide (2 ≤ c.kids.length) && c.kids.all (condB threads locs d))) := fun hk34 => by
    rw [condB_succ,if_neg h0,if_neg h1,if_neg h2,if_pos hk34]
   refine And.intro (fun h3 => ?_) (fun h3 => ?_)
   ·have h3' : decide ((c.kind.toNat : Int) = 3) = true := h3
    have h3 : c.kind = 3 ∨ c.kind = 4 := .inl (of_decide_eq_true ((u8d c.kind 3).symm.trans h3))
    refine brE h3' ?_
    refine And.intro (fun h => ?_) (fun h => ?_)
    ·have h : (!bareL c) = true := h
     have h : bareL c = false := by simpa using h
     refine brT ?_
     exact ⟨rb (by rw [g34 h3,h]; rfl),rfl⟩
    ·have h : (!bareL c) = false := h
     have h : bareL c = true := by simpa using h
     refine ⟨_,cells_at hc (i := 4) rfl,?_⟩
     refine And.intro (fun h4 => ?_) (fun h4 => ?_)
     ·have h4 : (c.kids.length : Int) < 2 := of_decide_eq_true h4
      exact ⟨rb (by rw [g34 h3,decide_eq_false (by omega)]; simp),rfl⟩
     ·have h4 : ¬ (c.kids.length : Int) < 2 := of_decide_eq_false h4
      exact ⟨(),⟨.cons rfl (.cons rfl (.cons rfl (.cons rfl .nil))),rfl⟩,.inl ⟨h3,h,by omega⟩,rfl⟩
   have h3 : ¬ c.kind = 3 := of_decide_eq_false ((u8d c.kind 3).symm.trans h3)
   refine And.intro (fun h4 => ?_) (fun h4 => ?_)
   ·have h3 : c.kind = 3 ∨ c.kind = 4 := .inr (of_decide_eq_true ((u8d c.kind 4).symm.trans h4))
    refine And.intro (fun h => ?_) (fun h => ?_)
    ·have h : (!bareL c) = true := h
     have h : bareL c = false := by simpa using h
     refine brT ?_
     exact ⟨rb (by rw [g34 h3,h]; rfl),rfl⟩
    ·have h : (!bareL c) = false := h
     have h : bareL c = true := by simpa using h
     refine ⟨_,cells_at hc (i := 4) rfl,?_⟩
     refine And.intro (fun h4 => ?_) (fun h4 => ?_)
     ·have h4 : (c.kids.length : Int) < 2 := of_decide_eq_true h4
      exact ⟨rb (by rw [g34 h3,decide_eq_false (by omega)]; simp),rfl⟩
     ·have h4 : ¬ (c.kids.length : Int) < 2 := of_decide_eq_false h4
      exact ⟨(),⟨.cons rfl (.cons rfl (.cons rfl (.cons rfl .nil))),rfl⟩,.inl ⟨h3,h,by omega⟩,rfl⟩
   have h4 : ¬ c.kind = 4 := of_decide_eq_false ((u8d c.kind 4).symm.trans h4)
   have h34 : ¬ (c.kind = 3 ∨ c.kind = 4) := fun h => h.elim h3 h4
   refine And.intro (fun h5 => ?_) (fun h5 => ?_)
   ·have h5 : c.kind = 5 := of_decide_eq_true ((u8d c.kind 5).symm.trans h5)
    have e : condB threads locs (d + 1) c = (bareL c && (decide (c.kids.length = 1) && c.kids.all (condB threads locs d))) := by rw [condB_succ,if_neg h0,if_neg h1,if_neg h2,if_neg h34,if_pos h5]
    refine And.intro (fun h => ?_) (fun h => ?_)
    ·have h : (!bareL c) = true := h
     have h : bareL c = false := by simpa using h
     refine brT ?_
     exact ⟨rb (by rw [e,h]; rfl),rfl⟩
    ·have h : (!bareL c) = false := h
     have h : bareL c = true := by simpa using h
     refine ⟨_,cells_at hc (i := 4) rfl,?_⟩
     refine And.intro (fun h4 => ?_) (fun h4 => ?_)
     ·have h4 : (!decide ((c.kids.length : Int) = 1)) = true := h4
      have h4 : ¬ (c.kids.length : Int) = 1 := by simpa using h4
      exact ⟨rb (by rw [e,decide_eq_false (by omega)]; simp),rfl⟩
     ·have h4 : (!decide ((c.kids.length : Int) = 1)) = false := h4
      have h4 : (c.kids.length : Int) = 1 := by simpa using h4
      exact ⟨(),⟨.cons rfl (.cons rfl (.cons rfl (.cons rfl .nil))),rfl⟩,.inr ⟨h5,h,by omega⟩,rfl⟩
   have h5 : ¬ c.kind = 5 := of_decide_eq_false ((u8d c.kind 5).symm.trans h5)
   exact ⟨rb (by rw [condB_succ,if_neg h0,if_neg h1,if_neg h2,if_neg h34,if_neg h5]),rfl⟩
  rintro _ _ ⟨ha,rfl⟩
  rw [condB_asks ha]
  refine ⟨_,cells_at hc (i := 4) rfl,?_⟩
  obtain ⟨hn,b1,o1,hp,hks⟩ := hk.inv
  refine ⟨Nat,fun k => ⟨[(0,.pointer (some ⟨b,o,none⟩)),(1,i64 threads),(2,i64 locs),(3,i64 (d + 1 : Nat)),(124,i64 c.kids.length),(125,i64 (k : Nat))],[]⟩,fun k X => k ≤ c.kids.length ∧ (∀ x ∈ c.kids.take k,condB threads locs d x = true) ∧ w = X,fun k => c.kids.length - k,0,
   ⟨.cons rfl (.cons rfl (.cons rfl (.cons rfl (.cons rfl (.cons rfl .nil))))),rfl⟩,⟨Nat.zero_le _,by simp,rfl⟩,?_⟩
  rintro k _ ⟨hk,hall,rfl⟩
  dsimp only at hk hall ⊢
  refine And.intro (fun hc2 => ?_) (fun hc2 => ?_)
  ·have hc2 : (k : Int) < (c.kids.length : Int) := of_decide_eq_true hc2
   have hkl : k < c.kids.length := by omega
   rcases hp with hp | rfl
   ·omega
   obtain ⟨q,cq,hb1,hq,hkq⟩ := hks k hkl
   refine ⟨_,cells_at hc (i := 4) rfl,?_⟩
   refine ⟨k,rfl,hkl,?_⟩
   refine ⟨(d : Int),(wrap_i64 (by omega)).trans (by omega),?_⟩
   refine Calls.mono (ih c.kids[k] b1 (o1 + k * 5) q cq (by omega) hb1 hq hkq) ?_
   rintro e _ ⟨rfl,rfl⟩
   refine And.intro (fun h => ?_) (fun h => ?_)
   ·have h : (!condB threads locs d c.kids[k]) = true := h
    refine ⟨rb ?_,rfl⟩
    symm
    rw [List.all_eq_false]
    exact ⟨c.kids[k],List.getElem_mem _,by simpa using h⟩
   ·have h : (!condB threads locs d c.kids[k]) = false := h
    refine ⟨_,(wrap_i64 (by omega)).trans rfl,?_⟩
    refine ⟨k + 1,⟨.cons rfl (.cons rfl (.cons rfl (.cons rfl (.cons rfl (.cons rfl .nil))))),rfl⟩,⟨hkl,?_,rfl⟩,by show c.kids.length - (k + 1) < c.kids.length - k; omega⟩
    rw [List.take_succ_eq_append_getElem hkl]
    intro x hx
    rcases List.mem_append.1 hx with hx | hx
    ·exact hall x hx
    ·simp only [List.mem_singleton] at hx
     rw [hx]; simpa using h
  ·have hc2 : ¬ (k : Int) < (c.kids.length : Int) := of_decide_eq_false hc2
   obtain rfl : k = c.kids.length := by omega
   rw [List.take_length] at hall
   exact ⟨rb (List.all_eq_true.2 hall).symm,rfl⟩
end Go.Proofs.YtkpcgpmimejimaaGreatDoor
