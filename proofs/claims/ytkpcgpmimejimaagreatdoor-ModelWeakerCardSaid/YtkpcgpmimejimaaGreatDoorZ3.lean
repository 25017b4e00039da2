/- Gathering in a range over a function: a list in a box, its row, what its elements refer to. Contracts: the orders of a relation, one by one. A run in memory. Strings as bytes. Law23: a program in memory. Contracts: a run's events, registers, arguments. Contracts: a run executes a load, a store, a fence. Contracts: a run executes an instruction; it proceeds to the next that reads. Contracts: a run proceeds to the next instruction that reads. Contracts: the runs of a thread, one by one. Contracts: slices of bytes: cloned, sorted (when sorted already). Contracts: order.all, an iterator. Contracts: the odometer. Contracts: the program order of a list of events. Contracts: equal neighbours are dropped. Contracts: the pairs of sets of reads; the path of a run. Contracts: distinct bytes; the path of a run. Contracts: classes of bytes; where the scanner is. Contracts: the scanner's positions. Contracts: the scanner passes blanks and remarks; a token. -/
import Derived.Test.YtkpcgpmimejimaaGreatDoorZ2
import Derived.Laws.OwnMore
import Derived.Test.YtkpcgpmimejimaaGreatDoorZ1
import Derived.Laws.BytesArg
import Derived.Laws.Strings
set_option linter.unusedSimpArgs false
set_option linter.unusedVariables false
namespace Go.Vc
open Go.RowKit
theorem KeepsG.more {F G : Nat → Prop} {A B : World} {g : Nat} (h : KeepsG G F A B) (hg : G g) : KeepsG G (fun k => F k ∨ k = g) A B :=
 ⟨h.os,h.tape,h.output,h.size,h.same,fun k hk => hk.elim (h.fp k) fun e => .inl (by rw [e]; exact hg)⟩
theorem app_fit {α : Type} {E : Enc α} {P : Program} {w : World} {t T ty B g cap m c : Nat} {a : Addr} {l news : List α} {iT : TI} (hu : P.underlying t = some (.slice T)) (hT : TIok P T iT) (hs : iT.size = E.sz)
  (ho : OwnS E T B w (some ⟨g,0,none⟩) cap l) (hm : news.length = m) (hn : Cells w a (news.flatMap E.enc)) (hroom : l.length + m ≤ cap) {K : Value → World → Prop}
  (k : ∀ w',OwnS E T B w' (some ⟨g,0,none⟩) cap (l ++ news) → w.grownBy w' (some g) → K (.slice (some ⟨g,0,none⟩) (l ++ news).length cap) w') :
  SatR ((Builtin.append_ #[t,t] ty #[.slice (some ⟨g,0,none⟩) l.length cap,.slice (some a) m c]).run P w) K := by
 obtain ⟨⟨inf,hi,hsz,_,_⟩,_⟩ := hT
 obtain ⟨w',hr,ho',hg⟩ := run_append_fits (P := P) w B t ty T inf E.sz hu hi (hsz.trans hs) g l.length cap (l.flatMap E.enc) ho a m c (news.flatMap E.enc) (by rw [flat_len,hm]) hn (flat_one news) hroom
 refine SatR.mk hr ?_
 have hl : l.length + m = (l ++ news).length := by simp [hm]
 have hf : l.flatMap E.enc ++ news.flatMap E.enc = (l ++ news).flatMap E.enc := by rw [List.flatMap_append]
 rw [hl,hf] at ho'
 rw [hl]
 exact k w' ho' hg
theorem OwnS.prefix {α : Type} {E : Enc α} {T B cap g : Nat} {w : World} {l m : List α} (h : OwnS E T B w (some ⟨g,0,none⟩) cap (l ++ m)) : OwnS E T B w (some ⟨g,0,none⟩) cap l := by
 rcases h.inv with ⟨h,_⟩ | ⟨g',cur,hg,hB,hc,hl,hm,hs,ht⟩
 ·cases h
 ·simp only [Option.some.injEq,Addr.mk.injEq,and_true] at hg
  subst hg
  unfold OwnS World.ownsRow
  refine ⟨by rw [flat_len],.inr ⟨g,cap,cur,rfl,hB,hc,by rw [List.length_append] at hl; omega,hm,hs,?_⟩⟩
  have := congrArg (List.take (l.length * E.sz)) ht
  rw [List.take_take,List.flatMap_append,List.take_left' (flat_len l)] at this
  rw [← this]
  congr 1
  rw [List.length_append,Nat.add_mul]
  omega
theorem own_at {α : Type} {E : Enc α} {T B c : Nat} {Y : World} {q : Option Addr} {l : List α} (h : OwnS E T B Y q c l) {a : Addr} (ha : q = some a) : B ≤ a.block ∧ a.block < Y.heap.size ∧ ∃ cur,Y.heap[a.block]? = some (.cells cur T (0,0)) := by
 rcases h.inv with ⟨h1,_⟩ | ⟨g,cur,h1,h2,h3,_⟩
 ·rw [h1] at ha; cases ha
 ·rw [h1] at ha; cases ha; exact ⟨h2,hlt h3,cur,h3⟩
structure Gath {α : Type} (E : Enc α) (T TS B n0 L : Nat) (W : World) (NIn : (Nat → Prop) → World → α → Prop) (xs : List α) (F : Nat → Prop) (Y : World) : Prop where
 size : n0 ≤ Y.heap.size
 inL : F L
 lt : ∀ k,F k → k < Y.heap.size
 row : ∃ (p : Option Addr) (c : Nat),Y.heap[L]? = some (.cells [.slice p xs.length c].toArray TS (0,0)) ∧ OwnS E T B Y p c xs ∧ ∀ a,p = some a → F a.block
 nest : ∀ x ∈ xs,NIn F Y x
 old : Below B W Y
def NKeep {α : Type} (T TS : Nat) (NIn : (Nat → Prop) → World → α → Prop) : Prop :=
 ∀ (F G : Nat → Prop) (Y Z : World) (x : α),NIn F Y x → (∀ k cur T',F k → Y.heap[k]? = some (.cells cur T' (0,0)) → T' ≠ T → T' ≠ TS → Z.heap[k]? = Y.heap[k]?) → (∀ k,F k → G k) → NIn G Z x
theorem Gath.iter {α σ : Type} {E : Enc α} {T TS B n0 L : Nat} {W : World} {NIn : (Nat → Prop) → World → α → Prop} {f : σ → List α → Prop} (hN : NKeep T TS NIn) (hB : B ≤ n0) :
  JG n0 (fun _ => False) (fun (s : σ) F Y => ∃ xs,f s xs ∧ Gath E T TS B n0 L W NIn xs F Y) := by
 refine ⟨?_,?_⟩
 ·rintro s F A C ⟨xs,hf,h⟩ hs
  have sf : ∀ k,F k → k < A.heap.size → C.heap[k]? = A.heap[k]? := fun k hk hl => hs.same k hl (.inr hk)
  obtain ⟨p,c,h1,h2,h3⟩ := h.row
  exact ⟨xs,hf,Nat.le_trans h.size hs.size,h.inL,fun k hk => Nat.lt_of_lt_of_le (h.lt k hk) hs.size,⟨p,c,(sf L h.inL (h.lt L h.inL)).trans h1,h2.same fun a ha => sf _ (h3 a ha) (h.lt _ (h3 a ha)),h3⟩,
   fun x hx => hN F F A C x (h.nest x hx) (fun k _ _ hk _ _ _ => sf k hk (h.lt k hk)) fun k h => h,h.old.trans ⟨hs.os,hs.tape,hs.output,hs.size,fun k hk => hs.same k (Nat.lt_of_lt_of_le (Nat.lt_of_lt_of_le hk hB) h.size) (.inl ⟨by omega,fun h => h⟩)⟩⟩
 ·rintro s F A k ⟨xs,_,h⟩ hk
  exact ⟨h.lt k hk,fun h => h⟩
theorem Gath.stepX {α : Type} {E : Enc α} {P : Program} {T TS B n0 L ty cap1 : Nat} {W Y2 Y3 : World} {NIn : (Nat → Prop) → World → α → Prop} {xs : List α} {F : Nat → Prop} {iT iS : TI} {z : List Value} (hN : NKeep T TS NIn) (hne : T ≠ TS)
  (hu : P.underlying TS = some (.slice T)) (hT : TIok P T iT) (hz : iT.zero = some z) (hs : iT.size = E.sz) (hzl : z.length = E.sz) (hS : TIok P TS iS) (hS1 : iS.size = 1)
  (h : Gath E T TS B n0 L W NIn xs F Y2) (hB : B ≤ n0) (hL : B ≤ L) (hb3 : Below Y2.heap.size Y2 Y3) (nx : α) (hl : xs.length + 1 ≤ 4611686018427387904) (hby : (xs.length + 1) * iT.bytes ≤ 140737488355328)
  (hnew : ∀ (G : Nat → Prop) (Z : World),(∀ k,Y2.heap.size ≤ k → k < Y3.heap.size → Z.heap[k]? = Y3.heap[k]?) → (∀ k,Y2.heap.size ≤ k → k < Y3.heap.size → G k) → (∀ k cur T',F k → Y2.heap[k]? = some (.cells cur T' (0,0)) → T' ≠ T → T' ≠ TS → Z.heap[k]? = Y2.heap[k]?) → (∀ k,F k → G k) → NIn G Z nx) :
  ∀ p c,Y2.heap[L]? = some (.cells [.slice p xs.length c].toArray TS (0,0)) →
  ∃ v Y5,(Builtin.append_ #[TS,TS] ty #[.slice p xs.length c,.slice (some ⟨Y3.heap.size,0,none⟩) 1 cap1]).run P (Y3.alloc (.cells (E.enc nx).toArray T)) = .ok v Y5 ∧
   ∃ Z,(storeVar TS ⟨L,0,none⟩ v).run P Y5 = .ok () Z ∧ ∃ F',Gath E T TS B n0 L W NIn (xs ++ [nx]) F' Z ∧ KeepsG F F' Y2 Z ∧ ∀ k,F k → F' k := by
 intro p c h4
 obtain ⟨p',c',h4',h5,h6⟩ := h.row
 rw [h4] at h4'
 simp at h4'
 obtain ⟨rfl,rfl⟩ := h4'
 have h1 := h.size
 have h2 := h.inL
 have h3 := h.lt
 have hba : Below Y3.heap.size Y3 (Y3.alloc (.cells (E.enc nx).toArray T)) := (Below.refl _ _).alloc (Nat.le_refl _) _
 have sa : (Y3.alloc (.cells (E.enc nx).toArray T)).heap.size = Y3.heap.size + 1 := World.size_alloc _ _
 have s3 : Y2.heap.size ≤ Y3.heap.size := hb3.size
 have hb2 : Below Y2.heap.size Y2 (Y3.alloc (.cells (E.enc nx).toArray T)) := hb3.trans (hba.mono s3)
 have hap : SatR ((Builtin.append_ #[TS,TS] ty #[.slice p xs.length c,.slice (some ⟨Y3.heap.size,0,none⟩) 1 cap1]).run P (Y3.alloc (.cells (E.enc nx).toArray T))) fun v Y5 => ∃ p2 c2,v = .slice p2 (xs ++ [nx]).length c2 ∧ OwnS E T B Y5 p2 c2 (xs ++ [nx]) ∧ (Y3.alloc (.cells (E.enc nx).toArray T)).grownBy Y5 (Value.slice p xs.length c).ownBlock ∧ ∀ a,p2 = some a → p = some a ∨ a.block = (Y3.alloc (.cells (E.enc nx).toArray T)).heap.size :=
  app_own (E := E) (T := T) (B := B) (l := xs) (news := [nx]) (cap := c) (m := 1) hu hT hz hs hzl (h5.below hb2) rfl (by
   have := cells_new (w := Y3) (cs := (E.enc nx).toArray) (t := T)
   simpa using this) (by omega) (by omega) hby fun p2 c2 Y5 o5 g5 hb5 hat => ⟨p2,c2,rfl,o5,g5,hat⟩
 obtain ⟨v,Y5,hrun,p2,c2,rfl,o5,g5,hat⟩ := hap
 have pb : ∀ {k : Nat},(Value.slice p xs.length c).ownBlock = some k → ∃ a,p = some a ∧ a.block = k := fun {k} e => by
  cases hp : p with
  | none => rw [hp] at e; simp [Value.ownBlock] at e
  | some a =>
   rw [hp] at e
   simp only [Value.ownBlock,Option.some.injEq] at e
   exact ⟨a,rfl,e⟩
 have h4' : Y5.heap[L]? = some (.cells [.slice p xs.length c].toArray TS (0,0)) := by
  refine (g5.block L (hlt (block_below hb2 h4)) fun e => ?_).trans (block_below hb2 h4)
  obtain ⟨a,hp,e⟩ := pb e.symm
  obtain ⟨_,_,cur,hcur⟩ := own_at h5 hp
  rw [e,h4] at hcur
  simp at hcur
  exact hne hcur.2.symm
 have hst : SatR ((storeVar TS ⟨L,0,none⟩ (.slice p2 (xs ++ [nx]).length c2)).run P Y5) fun _ Z => Z.heap[L]? = some (.cells [.slice p2 (xs ++ [nx]).length c2].toArray TS (0,0)) ∧ Y5.grownBy Z (some L) ∧ Z.heap.size = Y5.heap.size :=
  store_one hS h4' (o := 0) (v := .slice p2 (xs ++ [nx]).length c2) rfl hS1 (by show 0 < 1; decide) rfl fun Z fZ gZ sZ => ⟨fZ,gZ,sZ⟩
 obtain ⟨u,Z,hrun2,fZ,gZ,sZ⟩ := hst
 have s5 := g5.size
 refine ⟨_,Y5,hrun,Z,hrun2,fun k => F k ∨ (Y2.heap.size ≤ k ∧ k < Z.heap.size),?_⟩
 have wr : ∀ k,k < Y2.heap.size → k ≠ L → (∀ a,p = some a → k ≠ a.block) → Z.heap[k]? = Y2.heap[k]? := fun k hk hne hnp => by
  refine (gZ.block k (by omega) (by simpa using hne)).trans ((g5.block k (by omega) fun e => ?_).trans (hb2.block k hk))
  obtain ⟨a,hp,e⟩ := pb e.symm
  exact hnp a hp e.symm
 have new : ∀ k,Y2.heap.size ≤ k → k < Y3.heap.size → Z.heap[k]? = Y3.heap[k]? := fun k hk1 hk2 => by
  have hL2 := h3 L h2
  refine (gZ.block k (by omega) (by simp; omega)).trans ((g5.block k (by omega) fun e => ?_).trans (hba.block k hk2))
  obtain ⟨a,hp,e⟩ := pb e.symm
  have := h3 _ (h6 a hp)
  omega
 have ty' : ∀ k cur T',F k → Y2.heap[k]? = some (.cells cur T' (0,0)) → T' ≠ T → T' ≠ TS → Z.heap[k]? = Y2.heap[k]? := fun k cur T' hk hc t1 t2 => by
  refine wr k (h3 k hk) (fun e => ?_) fun a ha e => ?_
  ·rw [e,h4] at hc
   simp at hc
   exact t2 hc.2.symm
  ·obtain ⟨_,_,cur',hcur'⟩ := own_at h5 ha
   rw [← e,hc] at hcur'
   simp at hcur'
   exact t1 hcur'.2
 refine ⟨⟨by omega,.inl h2,fun k hk => ?_,⟨p2,c2,fZ,o5.kept gZ fun g hg e => ?_,fun a ha => ?_⟩,fun y hy => ?_,?_⟩,⟨gZ.os.trans (g5.os.trans hb2.os),gZ.tape.trans (g5.tape.trans hb2.tape),gZ.output.trans (g5.output.trans hb2.output),by omega,fun k hk hf => wr k hk (fun e => hf (by rw [e]; exact h2)) (fun a ha e => hf (by rw [e]; exact h6 a ha)),fun k hk => hk.imp id fun h => h.1⟩,fun k hk => .inl hk⟩
 ·rcases hk with hk | hk
  ·have := h3 k hk; omega
  ·exact hk.2
 ·obtain ⟨_,_,cur,hcur⟩ := own_at o5 hg
  simp only [Option.some.injEq] at e
  have hcur : Y5.heap[g]? = _ := hcur
  rw [← e,h4'] at hcur
  simp at hcur
  exact hne hcur.2.symm
 ·rcases hat a ha with h | h
  ·exact .inl (h6 a h)
  ·have := (own_at o5 ha).2.1
   exact .inr ⟨by omega,by omega⟩
 ·rcases List.mem_append.1 hy with hy | hy
  ·exact hN F _ Y2 Z y (h.nest y hy) ty' fun k hk => .inl hk
  ·simp only [List.mem_singleton] at hy
   subst hy
   exact hnew _ Z new (fun k hk1 hk2 => .inr ⟨hk1,by omega⟩) ty' fun k hk => .inl hk
 ·refine h.old.trans ⟨gZ.os.trans (g5.os.trans hb2.os),gZ.tape.trans (g5.tape.trans hb2.tape),gZ.output.trans (g5.output.trans hb2.output),by omega,fun k hk => wr k (by omega) (by omega) fun a ha => ?_⟩
  have := (own_at h5 ha).1
  omega
theorem Gath.step {α : Type} {E : Enc α} {P : Program} {T TS B n0 L ty cap1 : Nat} {W Y2 Y3 : World} {NIn : (Nat → Prop) → World → α → Prop} {xs : List α} {F : Nat → Prop} {iT iS : TI} {z : List Value} (hN : NKeep T TS NIn) (hne : T ≠ TS)
  (hu : P.underlying TS = some (.slice T)) (hT : TIok P T iT) (hz : iT.zero = some z) (hs : iT.size = E.sz) (hzl : z.length = E.sz) (hS : TIok P TS iS) (hS1 : iS.size = 1)
  (h : Gath E T TS B n0 L W NIn xs F Y2) (hB : B ≤ n0) (hL : B ≤ L) (hb3 : Below Y2.heap.size Y2 Y3) (nx : α) (hl : xs.length + 1 ≤ 4611686018427387904) (hby : (xs.length + 1) * iT.bytes ≤ 140737488355328)
  (hnew : ∀ (G : Nat → Prop) (Z : World),(∀ k,Y2.heap.size ≤ k → k < Y3.heap.size → Z.heap[k]? = Y3.heap[k]?) → (∀ k,Y2.heap.size ≤ k → k < Y3.heap.size → G k) → NIn G Z nx) :
  ∀ p c,Y2.heap[L]? = some (.cells [.slice p xs.length c].toArray TS (0,0)) →
  ∃ v Y5,(Builtin.append_ #[TS,TS] ty #[.slice p xs.length c,.slice (some ⟨Y3.heap.size,0,none⟩) 1 cap1]).run P (Y3.alloc (.cells (E.enc nx).toArray T)) = .ok v Y5 ∧
   ∃ Z,(storeVar TS ⟨L,0,none⟩ v).run P Y5 = .ok () Z ∧ ∃ F',Gath E T TS B n0 L W NIn (xs ++ [nx]) F' Z ∧ KeepsG F F' Y2 Z ∧ ∀ k,F k → F' k :=
 h.stepX hN hne hu hT hz hs hzl hS hS1 hB hL hb3 nx hl hby fun G Z h1 h2 _ _ => hnew G Z h1 h2
end Go.Vc
namespace Go.Proofs.YtkpcgpmimejimaaGreatDoor
open Go.Vc Go.RowKit Go.Sei
abbrev At0 (b : Nat) : Value := .pointer (some ⟨b,0,none⟩)
abbrev RelH (X : World) (b : Nat) (r : RelD) : Prop := X.heap[b]? = some (.cells (relC r).toArray 27 (0,0))
def StO (pre : List (List Nat)) (vs : List Value) (W : World) : Prop := ∃ l q c,pre.getLast? = some l ∧ vs = [.slice q l.length c] ∧ SlR natE W q l ∧ (q = none → c = 0) ∧ ∀ a,q = some a → ∃ cur,W.heap[a.block]? = some (.cells cur 3 (0,0))
section
variable {yl n0 n bB : Nat} {J Jx : List (List Nat) → (Nat → Prop) → World → Prop} {xs : List (List Nat)} {r : RelD}
theorem extend_c (hJ : JG n0 (fun _ => False) J) (hn0 : ∀ pre F X,J pre F X → n0 ≤ X.heap.size) (hy : ∀ pre x vs F W1,J pre F W1 → StO (pre ++ [x]) vs W1 → (pre ++ [x]) <+: xs → YieldR Tryz.prog yl vs.toArray W1 fun v W2 =>
      (v = .bool true ∧ ∃ F',J (pre ++ [x]) F' W2 ∧ KeepsG F F' W1 W2) ∨ (v = .bool false ∧ ∃ F',Jx (pre ++ [x]) F' W2)) (hr : WrdR r.to) (hn : n ≤ 48) (ht0 : 0 < n0) :
    ∀ (m left : Nat) (l : List Nat) (g : Nat) (pre : List (List Nat)) (F : Nat → Prop) (X : World),(els left).length ≤ m → left < 2 ^ 64 → (∀ i ∈ els left,i < 48) → l.length + (els left).length ≤ n → OwnS natE 3 n0 X (some ⟨g,0,none⟩) n l → ¬ F g → J pre F X → RelH X bB r → ¬ F bB → n0 ≤ bB → bB ≠ g → Tz64M X → ¬ F 0 → (pre ++ extR r.to m left l) <+: xs →
      Calls Tryz.prog 186 #[At0 bB,s64 left,.slice (some ⟨g,0,none⟩) l.length n,.func (.yield yl) #[] #[]] X fun e Y =>
        (e = .returned (.bool true) ∧ ∃ F',J (pre ++ extR r.to m left l) F' Y ∧ KeepsG (fun k => F k ∨ k = g) F' X Y ∧ OwnS natE 3 n0 Y (some ⟨g,0,none⟩) n l ∧ ¬ F' g) ∨ (e = .returned (.bool false) ∧ ∃ pre' F',pre' <+: xs ∧ Jx pre' F' Y) := by
  intro m
  induction m with
  | zero =>
    intro left l g pre F X hm hlt64 h48 hln ho hFg hj hR hFb hbn hbg hT hFt hpre
    have h0 : left = 0 := by
      apply Classical.byContradiction
      intro h0
      rw [(els_step h0 hlt64).1] at hm
      simp at hm
    subst h0
    refine calls_of_E (S := sg 56) (sgOk _) (args := [At0 bB,s64 0,.slice (some ⟨g,0,none⟩) l.length n,.func (.yield yl) #[] #[]]) Tryz.func186 rfl rfl (Nat.le_of_ble_eq_true rfl) rfl ?_
    refine brT ?_
    have hs : extR r.to 0 0 l = [l] := rfl
    rw [hs] at hpre ⊢
    refine YieldR.mono (hy pre l [.slice (some ⟨g,0,none⟩) l.length n] F X hj ⟨l,_,n,by simp,rfl,ho.row,fun h => (by cases h),fun a ha => (own_at ho ha).2.2⟩ hpre) ?_
    rintro v Z (⟨rfl,F',hJZ,hKZ⟩ | ⟨rfl,F',hJZ⟩)
    · have hgl : g < X.heap.size := (own_at ho rfl).2.1
      exact .inl ⟨rfl,F',hJZ,hKZ.weak fun k h => .inl h,ho.same fun a ha => by cases ha; exact hKZ.same g hgl hFg,fun h => by
        rcases hKZ.fp g h with h | h
        · exact hFg h
        · omega⟩
    · exact .inr ⟨rfl,_,F',hpre,hJZ⟩
  | succ m ih =>
    intro left l g pre F X hm hlt64 h48 hln ho hFg hj hR hFb hbn hbg hT hFt hpre
    refine calls_of_E (S := sg 56) (sgOk _) (args := [At0 bB,s64 left,.slice (some ⟨g,0,none⟩) l.length n,.func (.yield yl) #[] #[]]) Tryz.func186 rfl rfl (Nat.le_of_ble_eq_true rfl) rfl ?_
    have hgl : g < X.heap.size := (own_at ho rfl).2.1
    have hgn : n0 ≤ g := (own_at ho rfl).1
    refine And.intro (fun h => ?_) (fun h => ?_)
    · have h : left = 0 := Int.ofNat.inj (of_decide_eq_true h)
      subst h
      have hs : extR r.to (m + 1) 0 l = [l] := rfl
      rw [hs] at hpre ⊢
      refine YieldR.mono (hy pre l [.slice (some ⟨g,0,none⟩) l.length n] F X hj ⟨l,_,n,by simp,rfl,ho.row,fun h => (by cases h),fun a ha => (own_at ho ha).2.2⟩ hpre) ?_
      rintro v Z (⟨rfl,F',hJZ,hKZ⟩ | ⟨rfl,F',hJZ⟩)
      · exact .inl ⟨rfl,F',hJZ,hKZ.weak fun k h => .inl h,ho.same fun a ha => by cases ha; exact hKZ.same g hgl hFg,fun h => by
        rcases hKZ.fp g h with h | h
        · exact hFg h
        · omega⟩
      · exact .inr ⟨rfl,_,F',hpre,hJZ⟩
    have h : left ≠ 0 := fun e => (of_decide_eq_false h) (by rw [e]; rfl)
    obtain ⟨G,hG⟩ : ∃ G : Nat → List (List Nat),G = fun a => if r.to a &&& left = 0 then extR r.to m (lessM left (2 ^ a)) (l ++ [a]) else [] := ⟨_,rfl⟩
    have hs : extR r.to (m + 1) left l = (els left).flatMap G := by
      rw [hG]
      show (if left = 0 then [l] else _) = _
      rw [if_neg h]
    rw [hs] at hpre ⊢
    refine Calls.mono (First_c hlt64 hT) ?_
    rintro e X1 ⟨rfl,hb1⟩
    refine ⟨Nat × List Nat × (Nat → Prop),fun s => ⟨[(0,At0 bB),(1,s64 left),(2,.slice (some ⟨g,0,none⟩) l.length n),(3,.func (.yield yl) #[] #[]),(9,s64 s.1),(10,i64 ((els s.1).headD 0 : Nat)),(11,.bool (!(els s.1).isEmpty))],[]⟩,
      fun s Z => (els left = s.2.1 ++ els s.1 ∧ s.1 < 2 ^ 64) ∧ J (pre ++ s.2.1.flatMap G) s.2.2 Z ∧ OwnS natE 3 n0 Z (some ⟨g,0,none⟩) n l ∧ ¬ s.2.2 g ∧ RelH Z bB r ∧ ¬ s.2.2 bB ∧ Tz64M Z ∧ ¬ s.2.2 0 ∧ KeepsG (fun k => F k ∨ k = g) s.2.2 X Z,fun s => s.1,(left,[],F),
      ⟨.cons rfl (.cons rfl (.cons rfl (.cons rfl (.cons rfl (.cons rfl (.cons rfl .nil)))))),rfl⟩,⟨⟨rfl,hlt64⟩,by show J (pre ++ []) F X1; rw [List.append_nil]; exact hJ.step _ _ _ _ hj (.below hb1),ho.below hb1,hFg,block_below hb1 hR,hFb,hT.below hb1,hFt,KeepsG.below hb1 fun k h => .inl (.inl h)⟩,?_⟩
    rintro ⟨q,don,F1⟩ Z ⟨⟨he,hq⟩,hjZ,hoZ,hgZ,hRZ,hbZ,hTZ,htZ,kZ⟩
    dsimp only at he hq hjZ hgZ hbZ htZ kZ ⊢
    have hZn := hn0 _ _ _ hjZ
    refine And.intro (fun hc => ?_) (fun hc => ?_)
    · have h0 := els_cons hq hc
      obtain ⟨e1,e2,_,e3⟩ := els_step h0 hq
      have hd := (head_els h0 hq).1
      have hmem : ctz q ∈ els left := by rw [he,e1]; simp
      have hc48 : ctz q < 48 := h48 _ hmem
      rw [e1] at he
      have hpa : ∀ t,(don ++ [ctz q]).flatMap t = don.flatMap t ++ t (ctz q) := fun t : Nat → List (List Nat) => by
        rw [List.flatMap_append,List.flatMap_cons,List.flatMap_nil,List.append_nil]
      have next : ∀ {Y : World} {F2 : Nat → Prop},J (pre ++ (don ++ [ctz q]).flatMap G) F2 Y → OwnS natE 3 n0 Y (some ⟨g,0,none⟩) n l → ¬ F2 g → RelH Y bB r → ¬ F2 bB → Tz64M Y → ¬ F2 0 → KeepsG (fun k => F k ∨ k = g) F2 X Y →
          ∀ Y2,Below Y.heap.size Y Y2 → ((els left = (don ++ [ctz q]) ++ els (rest q) ∧ rest q < 2 ^ 64) ∧ J (pre ++ (don ++ [ctz q]).flatMap G) F2 Y2 ∧ OwnS natE 3 n0 Y2 (some ⟨g,0,none⟩) n l ∧ ¬ F2 g ∧ RelH Y2 bB r ∧ ¬ F2 bB ∧ Tz64M Y2 ∧ ¬ F2 0 ∧ KeepsG (fun k => F k ∨ k = g) F2 X Y2) :=
        fun {Y F2} a1 a2 a3 a4 a5 a6 a7 a8 Y2 hb => ⟨⟨by rw [he]; simp,by omega⟩,hJ.step _ _ _ _ a1 (.below hb),a2.below hb,a3,block_below hb a4,a5,a6.below hb,a7,a8.trans (KeepsG.below hb fun k h => .inl h)⟩
      refine DrawE.ord [18,20] [0,1,2,3,4,5,6,7,8,9,10,11,12,13,14,15,16,19,17,18,20,21,22] (by kernel_rfl) ?_
      have hdZ : Below Z.heap.size Z Z.drew := (Below.refl _ _).drew
      refine ⟨ctz q,congrArg Nat.cast hd.symm,hc48,?_⟩
      refine ⟨_,rel_row (hdr hRZ) hc48,?_⟩
      refine ⟨_,w64_and (hr _ hc48) hlt64,?_⟩
      refine And.intro (fun hb => ?_) (fun hb => ?_)
      · have hb : r.to (ctz q) &&& left = 0 := Int.ofNat.inj (of_decide_eq_true hb)
        have hGc : G (ctz q) = extR r.to m (lessM left (2 ^ ctz q)) (l ++ [ctz q]) := by rw [hG]; exact if_pos hb
        refine ⟨by omega,((2 ^ ctz q : Nat) : Int),by rw [hd]; exact w64_one (e := ctz q) (by omega),?_⟩
        refine ⟨_,w64_less hlt64 (pow_lt64 (by omega)),?_⟩
        refine ⟨⟨by decide,by decide,rfl⟩,natE.enc (ctz q),by rw [hd]; rfl,?_⟩
        have hba : Below Z.drew.heap.size Z.drew (Z.drew.alloc (.cells (natE.enc (ctz q)).toArray 3)) := (Below.refl _ _).alloc (Nat.le_refl _) _
        refine ⟨hba,?_⟩
        have hbA : Below Z.heap.size Z (Z.drew.alloc (.cells (natE.enc (ctz q)).toArray 3)) := hdZ.trans hba
        have hll := els_less_len hlt64 hmem
        refine app_fit (E := natE) (l := l) (news := [ctz q]) (m := 1) Tryz.underlying95 (ttOk.get 3 _ rfl) rfl (hoZ.below hbA) rfl (one_new natE (ctz q)) (by
          have : 1 ≤ (els left).length := by rw [he]; simp; omega
          omega) ?_
        intro Y oY gY
        have hjY := hJ.step _ _ _ _ (hJ.step _ _ _ _ hjZ (.below hbA)) (StepG.grown gY (.inl hgn) hgZ)
        have sA : (Z.drew.alloc (.cells (natE.enc (ctz q)).toArray 3)).heap.size = Z.heap.size + 1 := World.size_alloc _ _
        have hRY : RelH Y bB r := (gY.block bB (hlt (block_below hbA hRZ)) (by simpa using hbg)).trans (block_below hbA hRZ)
        have htl := tz64_in hTZ
        have hTY : Tz64M Y := tz64_same (hTZ.below hbA) (gY.block _ (by omega) (by
          intro e
          have : 0 = g := by simpa using e
          omega))
        have hpre2 : ((pre ++ don.flatMap G) ++ extR r.to m (lessM left (2 ^ ctz q)) (l ++ [ctz q])) <+: xs := by
          refine List.IsPrefix.trans ?_ hpre
          rw [he,← hGc,List.flatMap_append,List.flatMap_cons]
          exact ⟨(els (rest q)).flatMap G,by simp only [List.append_assoc]⟩
        refine Calls.mono (ih (lessN left (2 ^ ctz q)) (l ++ [ctz q]) g (pre ++ don.flatMap G) F1 Y (by omega) (lessN_lt hlt64) (fun i hi => by
          rw [els_less hlt64 hmem] at hi
          exact h48 i (List.mem_filter.1 hi).1) (by simp only [List.length_append,List.length_cons,List.length_nil]; omega) oY hgZ hjY hRY hbZ hbn hbg hTY htZ hpre2) ?_
        rintro e V (⟨rfl,F2,hjV,kV,oV,hgV⟩ | ⟨rfl,pre',F2,hp',hjx⟩)
        · refine brF ?_
          have kZY : KeepsG (fun k => F1 k ∨ k = g) (fun k => F1 k ∨ k = g) Z Y := (KeepsG.below hbA fun k h => .inl h).trans (KeepsG.grown gY (.inr rfl))
          have kW : KeepsG (fun k => F k ∨ k = g) F2 X V := ((kZ.more (.inr rfl)).trans kZY).trans kV
          have sY := gY.size
          have kYV := kV.size
          have hbV : ¬ F2 bB := fun h => by
            have := hlt hRY
            rcases kV.fp bB h with (h | h) | h
            · exact hbZ h
            · exact hbg h
            · omega
          have htV : ¬ F2 0 := fun h => by
            rcases kV.fp _ h with (h | h) | h
            · exact htZ h
            · omega
            · omega
          have hRV : RelH V bB r := (kV.same bB (hlt hRY) (fun h => h.elim hbZ hbg)).trans hRY
          have hTV : Tz64M V := tz64_same hTY (kV.same _ (by omega) (fun h => h.elim htZ fun e => by omega))
          refine ⟨((q - 1 : Nat) : Int),(w64 (a := (q : Int) - 1) (by omega)).trans (by omega),?_⟩
          refine ⟨((rest q : Nat) : Int),w64_and (a := q) (b := q - 1) hq (by omega),?_⟩
          refine Calls.mono (First_c (s := rest q) (by omega) hTV) ?_
          rintro e U ⟨rfl,hbU⟩
          exact ⟨(rest q,don ++ [ctz q],F2),⟨.cons rfl (.cons rfl (.cons rfl (.cons rfl (.cons rfl (.cons rfl (.cons rfl .nil)))))),rfl⟩,next (by rw [hpa,hGc,← List.append_assoc]; exact hjV) oV.prefix hgV hRV hbV hTV htV kW U hbU,e2⟩
        · refine brT ?_
          exact .inr ⟨rfl,pre',F2,hp',hjx⟩
      · have hb : ¬ r.to (ctz q) &&& left = 0 := fun e => (of_decide_eq_false hb) (by rw [e]; rfl)
        have hGc : G (ctz q) = [] := by rw [hG]; exact if_neg hb
        refine brF ?_
        refine ⟨((q - 1 : Nat) : Int),(w64 (a := (q : Int) - 1) (by omega)).trans (by omega),?_⟩
        refine ⟨((rest q : Nat) : Int),w64_and (a := q) (b := q - 1) hq (by omega),?_⟩
        refine Calls.mono (First_c (s := rest q) (by omega) (hTZ.below hdZ)) ?_
        rintro e Y ⟨rfl,hbY⟩
        exact ⟨(rest q,don ++ [ctz q],F1),⟨.cons rfl (.cons rfl (.cons rfl (.cons rfl (.cons rfl (.cons rfl (.cons rfl .nil)))))),rfl⟩,next (by rw [hpa,hGc,List.append_nil]; exact hjZ) hoZ hgZ hRZ hbZ hTZ htZ kZ Y (hdZ.trans hbY),e2⟩
    · have hc : (els q).isEmpty = true := by simpa using hc
      have := els_nil hq hc
      subst this
      rw [els_zero,List.append_nil] at he
      rw [he]
      exact .inl ⟨rfl,F1,hjZ,kZ,hoZ,hgZ⟩
end
end Go.Proofs.YtkpcgpmimejimaaGreatDoor
namespace Go.Proofs.YtkpcgpmimejimaaGreatDoor
open Go.Vc Go.RowKit Go.Sei
def evE : Enc Ev := ⟨fun e => [i64 e.th,u8 e.k,u8 e.l,u8 e.v,u8 e.m,u8 e.i,u8 e.p],7,fun _ => rfl,by decide,fun a u hu => by
 simp only [List.mem_cons,List.not_mem_nil,or_false] at hu
 rcases hu with rfl | rfl | rfl | rfl | rfl | rfl | rfl <;> rfl⟩
def seg (n : Nat) (f : Nat → Value) : List Value := (List.range n).map f
def evsC (f : Nat → Ev) : List Value := ((List.range 24).map f).flatMap evE.enc
def runC (R : RunD) : List Value := i64 R.pc :: (seg 8 (fun i => u8 (R.regs i)) ++ (seg 8 (fun i => s32 (R.deps i)) ++ ([s32 R.ctl,i64 R.many] ++ (evsC R.ev ++
 (seg 24 (fun i => s32 (R.data i)) ++ (seg 24 (fun i => s32 (R.ctrl i)) ++ seg 24 (fun i => s32 (R.att i))))))))
theorem seg_len (n : Nat) (f : Nat → Value) : (seg n f).length = n := by unfold seg; rw [List.length_map,List.length_range]
theorem evs_len (f : Nat → Ev) : (evsC f).length = 168 := by
 unfold evsC
 rw [flat_len,List.length_map,List.length_range]; rfl
theorem seg_at {n : Nat} (f : Nat → Value) {i : Nat} (h : i < n) : (seg n f)[i]? = some (f i) := by
 unfold seg
 rw [List.getElem?_map,List.getElem?_range h]; rfl
theorem seg_set {n : Nat} (f g : Nat → Value) {i : Nat} (h : i < n) (hg : g i = g i) (hs : ∀ j,j ≠ i → g j = f j) : (seg n f).set i (g i) = seg n g := by
 apply List.ext_getElem?
 intro j
 by_cases hj : j < n
 ·rw [seg_at g hj]
  by_cases e : i = j
  ·subst e
   rw [List.getElem?_set_self (by rw [seg_len]; exact h)]
  ·rw [List.getElem?_set_ne e,seg_at f hj,hs j (fun h => e h.symm)]
 ·rw [List.getElem?_eq_none (by rw [List.length_set,seg_len]; omega),List.getElem?_eq_none (by rw [seg_len]; omega)]
theorem get_app {A B : List Value} {n i : Nat} (h : A.length = n) : (A ++ B)[n + i]? = B[i]? := by
 rw [List.getElem?_append_right (by omega),h,Nat.add_sub_cancel_left]
theorem get_seg {B : List Value} {n i : Nat} {f : Nat → Value} (h : i < n) : (seg n f ++ B)[i]? = some (f i) := by
 rw [List.getElem?_append_left (by rw [seg_len]; exact h),seg_at f h]
theorem set_app {A B : List Value} {n i : Nat} (h : A.length = n) {v : Value} : (A ++ B).set (n + i) v = A ++ B.set i v := by
 rw [List.set_append_right _ _ (by omega),h,Nat.add_sub_cancel_left]
theorem set_seg {B : List Value} {n i : Nat} {f : Nat → Value} (g : Nat → Value) (h : i < n) (hs : ∀ j,j ≠ i → g j = f j) : (seg n f ++ B).set i (g i) = seg n g ++ B := by
 rw [List.set_append_left _ _ (by rw [seg_len]; exact h),seg_set f g h rfl hs]
theorem runC_len (R : RunD) : (runC R).length = 259 := by
 unfold runC
 simp only [List.length_cons,List.length_append,seg_len,evs_len,List.length_nil]
section
variable (R : RunD)
theorem run_reg {i : Nat} (h : i < 8) : (runC R)[1 + i]? = some (u8 (R.regs i)) := by
 unfold runC
 rw [Nat.add_comm,List.getElem?_cons_succ,get_seg h]
theorem run_dep {i : Nat} (h : i < 8) : (runC R)[9 + i]? = some (s32 (R.deps i)) := by
 unfold runC
 rw [show 9 + i = (8 + i) + 1 by omega,List.getElem?_cons_succ,get_app (seg_len _ _),get_seg h]
theorem run_tl : ∃ A,A.length = 16 ∧ runC R = i64 R.pc :: (A ++ ([s32 R.ctl,i64 R.many] ++ (evsC R.ev ++ (seg 24 (fun i => s32 (R.data i)) ++ (seg 24 (fun i => s32 (R.ctrl i)) ++ seg 24 (fun i => s32 (R.att i))))))) :=
 ⟨seg 8 (fun i => u8 (R.regs i)) ++ seg 8 (fun i => s32 (R.deps i)),by rw [List.length_append,seg_len,seg_len],by unfold runC; rw [List.append_assoc]⟩
theorem run_ctl : (runC R)[17]? = some (s32 R.ctl) := by
 obtain ⟨A,hA,e⟩ := run_tl R
 rw [e]
 exact (get_app (i := 0) hA).trans rfl
theorem run_many : (runC R)[18]? = some (i64 R.many) := by
 obtain ⟨A,hA,e⟩ := run_tl R
 rw [e]
 exact (get_app (i := 1) hA).trans rfl
theorem run_data {i : Nat} (h : i < 24) : (runC R)[187 + i]? = some (s32 (R.data i)) := by
 obtain ⟨A,hA,e⟩ := run_tl R
 rw [e,show 187 + i = (16 + (2 + (168 + i))) + 1 by omega,List.getElem?_cons_succ,get_app hA,get_app (A := [s32 R.ctl,i64 R.many]) (n := 2) rfl,get_app (evs_len _),get_seg h]
theorem run_ctrl {i : Nat} (h : i < 24) : (runC R)[211 + i]? = some (s32 (R.ctrl i)) := by
 obtain ⟨A,hA,e⟩ := run_tl R
 rw [e,show 211 + i = (16 + (2 + (168 + (24 + i)))) + 1 by omega,List.getElem?_cons_succ,get_app hA,get_app (A := [s32 R.ctl,i64 R.many]) (n := 2) rfl,get_app (evs_len _),get_app (seg_len _ _),get_seg h]
theorem run_att {i : Nat} (h : i < 24) : (runC R)[235 + i]? = some (s32 (R.att i)) := by
 obtain ⟨A,hA,e⟩ := run_tl R
 rw [e,show 235 + i = (16 + (2 + (168 + (24 + (24 + i))))) + 1 by omega,List.getElem?_cons_succ,get_app hA,get_app (A := [s32 R.ctl,i64 R.many]) (n := 2) rfl,get_app (evs_len _),get_app (seg_len _ _),get_app (seg_len _ _),seg_at _ h]
theorem run_set_pc (n : Nat) : (runC R).set 0 (i64 n) = runC { R with pc := n } := rfl
theorem run_set_reg {i : Nat} (h : i < 8) (v : UInt8) : (runC R).set (1 + i) (u8 v) = runC { R with regs := upd R.regs i v } := by
 unfold runC
 rw [Nat.add_comm,List.set_cons_succ]
 have := set_seg (B := seg 8 (fun i => s32 (R.deps i)) ++ ([s32 R.ctl,i64 R.many] ++ (evsC R.ev ++ (seg 24 (fun i => s32 (R.data i)) ++ (seg 24 (fun i => s32 (R.ctrl i)) ++ seg 24 (fun i => s32 (R.att i))))))) (f := fun i => u8 (R.regs i)) (fun j => u8 (upd R.regs i v j)) h (fun j hj => by rw [upd_ne _ _ hj])
 rw [upd_same] at this
 rw [this]
theorem run_set_dep {i : Nat} (h : i < 8) (v : Nat) : (runC R).set (9 + i) (s32 v) = runC { R with deps := upd R.deps i v } := by
 unfold runC
 rw [show 9 + i = (8 + i) + 1 by omega,List.set_cons_succ,set_app (seg_len _ _)]
 have := set_seg (B := [s32 R.ctl,i64 R.many] ++ (evsC R.ev ++ (seg 24 (fun i => s32 (R.data i)) ++ (seg 24 (fun i => s32 (R.ctrl i)) ++ seg 24 (fun i => s32 (R.att i)))))) (f := fun i => s32 (R.deps i)) (fun j => s32 (upd R.deps i v j)) h (fun j hj => by rw [upd_ne _ _ hj])
 rw [upd_same] at this
 rw [this]
theorem run_set_many (v : Nat) : (runC R).set 18 (i64 v) = runC { R with many := v } := by
 unfold runC
 show i64 R.pc :: (seg 8 (fun i => u8 (R.regs i)) ++ _).set (8 + (8 + 1)) (i64 v) = _
 rw [set_app (seg_len _ _),set_app (seg_len _ _)]; rfl
theorem run_set_data {i : Nat} (h : i < 24) (v : Nat) : (runC R).set (187 + i) (s32 v) = runC { R with data := upd R.data i v } := by
 unfold runC
 rw [show 187 + i = (8 + (8 + (2 + (168 + i)))) + 1 by omega,List.set_cons_succ,set_app (seg_len _ _),set_app (seg_len _ _),set_app (A := [s32 R.ctl,i64 R.many]) (n := 2) rfl,set_app (evs_len _)]
 have := set_seg (B := seg 24 (fun i => s32 (R.ctrl i)) ++ seg 24 (fun i => s32 (R.att i))) (f := fun i => s32 (R.data i)) (fun j => s32 (upd R.data i v j)) h (fun j hj => by rw [upd_ne _ _ hj])
 rw [upd_same] at this
 rw [this]
theorem run_set_ctrl {i : Nat} (h : i < 24) (v : Nat) : (runC R).set (211 + i) (s32 v) = runC { R with ctrl := upd R.ctrl i v } := by
 unfold runC
 rw [show 211 + i = (8 + (8 + (2 + (168 + (24 + i))))) + 1 by omega,List.set_cons_succ,set_app (seg_len _ _),set_app (seg_len _ _),set_app (A := [s32 R.ctl,i64 R.many]) (n := 2) rfl,set_app (evs_len _),set_app (seg_len _ _)]
 have := set_seg (B := seg 24 (fun i => s32 (R.att i))) (f := fun i => s32 (R.ctrl i)) (fun j => s32 (upd R.ctrl i v j)) h (fun j hj => by rw [upd_ne _ _ hj])
 rw [upd_same] at this
 rw [this]
theorem map_upd {α : Type} (f : Nat → α) {n i : Nat} (h : i < n) (v : α) : ((List.range n).map f).set i v = (List.range n).map (upd f i v) := by
 apply List.ext_getElem?
 intro j
 by_cases hj : j < n
 ·rw [List.getElem?_map,List.getElem?_range hj]
  by_cases e : i = j
  ·subst e
   rw [List.getElem?_set_self (by simpa using h)]
   show _ = some (upd f i v i)
   rw [upd_same]
  ·rw [List.getElem?_set_ne e,List.getElem?_map,List.getElem?_range hj]
   show some (f j) = some (upd f i v j)
   rw [upd_ne _ _ (fun h => e h.symm)]
 ·rw [List.getElem?_eq_none (by simp; omega),List.getElem?_eq_none (by simp; omega)]
theorem run_set_ev {i : Nat} (h : i < 24) (v : Ev) : (runC R).take (19 + i * 7) ++ evE.enc v ++ (runC R).drop (19 + i * 7 + 7) = runC { R with ev := upd R.ev i v } := by
 obtain ⟨A,hA,e⟩ : ∃ A : List Value,A.length = 19 ∧ ∀ ev,runC { R with ev := ev } = A ++ (evsC ev ++ (seg 24 (fun i => s32 (R.data i)) ++ (seg 24 (fun i => s32 (R.ctrl i)) ++ seg 24 (fun i => s32 (R.att i))))) :=
  ⟨i64 R.pc :: (seg 8 (fun i => u8 (R.regs i)) ++ (seg 8 (fun i => s32 (R.deps i)) ++ [s32 R.ctl,i64 R.many])),by
   simp only [List.length_cons,List.length_append,seg_len,List.length_nil],fun ev => by
   unfold runC
   simp only [List.cons_append,List.append_assoc,List.nil_append]⟩
 have e1 : runC R = _ := e R.ev
 rw [e1,e,← hA,List.take_length_add_append,Nat.add_assoc,List.drop_length_add_append]
 have := flat_set (E := evE) ((List.range 24).map R.ev) (i := i) (by simpa using h) v (seg 24 (fun i => s32 (R.data i)) ++ (seg 24 (fun i => s32 (R.ctrl i)) ++ seg 24 (fun i => s32 (R.att i))))
 rw [map_upd _ h] at this
 unfold evsC
 rw [List.append_assoc,List.append_assoc,← this,List.append_assoc]; rfl
end
theorem evs_at (f : Nat → Ev) {i : Nat} (h : i < 24) : ((evsC f).drop (i * 7)).take 7 = evE.enc (f i) := by
 unfold evsC
 have := flat_get (E := evE) ((List.range 24).map f) i (by simpa using h)
 rw [List.getElem_map,List.getElem_range] at this
 exact this
theorem run_evs {R : RunD} {w : World} {b : Nat} {t : TypeId} (f : w.heap[b]? = some (.cells (runC R).toArray t (0,0))) : Cells w ⟨b,19,none⟩ (evsC R.ev) := by
 have h := cells_block f
 unfold runC at h
 have h1 := cells_sub (n := 19) (m := 168) h
 have e : ((i64 R.pc :: (seg 8 (fun i => u8 (R.regs i)) ++ (seg 8 (fun i => s32 (R.deps i)) ++ ([s32 R.ctl,i64 R.many] ++ (evsC R.ev ++ (seg 24 (fun i => s32 (R.data i)) ++ (seg 24 (fun i => s32 (R.ctrl i)) ++ seg 24 (fun i => s32 (R.att i))))))))).drop 19).take 168 = evsC R.ev := by
  show ((seg 8 (fun i => u8 (R.regs i)) ++ _).drop (8 + (8 + 2))).take 168 = _
  have d : ∀ {A B : List Value} {n i : Nat},A.length = n → (A ++ B).drop (n + i) = B.drop i := fun {A B n i} h => by rw [← h,List.drop_length_add_append]
  rw [d (seg_len _ _),d (seg_len _ _)]
  show (evsC R.ev ++ _).take 168 = _
  rw [List.take_left' (evs_len _)]
 rw [← e]
 exact h1
end Go.Proofs.YtkpcgpmimejimaaGreatDoor
namespace Go.Proofs.YtkpcgpmimejimaaGreatDoor
open Go.Vc Go.RowKit Go.Sei
def bs (l : List UInt8) : ByteArray := ⟨l.toArray⟩
def strV (l : List UInt8) : Value := .string (bs l)
theorem bs_list (l : List UInt8) : (bs l).data.toList = l := rfl
theorem eql_str (x y : Operand) (a b : List UInt8) (w : World) : (do eqGuard .eql 9 x y (strV a) (strV b); binOp .eql 9 (strV a) (strV b)).run Tryz.prog w = .ok (.bool (decide (a = b))) w := by
 have h1 : (eqGuard .eql 9 x y (strV a) (strV b)).run Tryz.prog w = .ok () w := rfl
 rw [Sem.run_bind,h1,Result.andThen_ok]
 show (Op.stringOp .eql (bs a) (bs b)).run Tryz.prog w = _
 simp only [Op.stringOp,Sem.run_pure,ByteArray.toList_eq,bs_list]
 have hd : (a == b) = decide (a = b) := by by_cases h : a = b <;> simp [h]
 rw [hd]
end Go.Proofs.YtkpcgpmimejimaaGreatDoor
namespace Go.Proofs.YtkpcgpmimejimaaGreatDoor
open Go.Vc Go.RowKit Go.Sei
def namE : Enc (List UInt8) := ⟨fun l => [strV l],1,fun _ => rfl,by decide,fun a u hu => by
 simp only [List.mem_cons,List.not_mem_nil,or_false] at hu; subst hu; rfl⟩
def insE : Enc InsD := ⟨fun x => [u8 x.op,u8 x.dst,u8 x.loc,.bool x.ar,u8 x.an,.bool x.br,u8 x.bn,u8 x.fn,u8 x.mode,u8 x.skip],10,fun _ => rfl,by decide,fun a u hu => by
 simp only [List.mem_cons,List.not_mem_nil,or_false] at hu
 rcases hu with rfl | rfl | rfl | rfl | rfl | rfl | rfl | rfl | rfl | rfl <;> rfl⟩
abbrev ThrR := List InsD × Option Addr × Nat
def thrV (x : ThrR) : Value := .slice x.2.1 x.1.length x.2.2
def thrE : Enc ThrR := ⟨fun x => [thrV x],1,fun _ => rfl,by decide,fun a u hu => by
 simp only [List.mem_cons,List.not_mem_nil,or_false] at hu; subst hu; rfl⟩
def cndCells (c : Cnd) (p : Option Addr) (cap : Nat) : List Value := [u8 c.kind,u8 c.thread,u8 c.n,u8 c.val,.slice p c.kids.length cap]
inductive KidsV (B : Nat) (w : World) : Option Addr → List Cnd → Prop
 | mk (p : Option Addr) (kids : List Cnd) (hn : kids.length * 32 ≤ 140737488351232) (b o : Nat) (hp : kids.length = 0 ∨ p = some ⟨b,o,none⟩) (q : Nat → Option Addr) (c : Nat → Nat)
   (hk : ∀ i (h : i < kids.length),b < B ∧ Cells w ⟨b,o + i * 5,none⟩ (cndCells kids[i] (q i) (c i)))
   (ht : ∀ i (h : i < kids.length),KidsV B w (q i) kids[i].kids) : KidsV B w p kids
theorem KidsV.inv {B : Nat} {w : World} {p : Option Addr} {kids : List Cnd} (h : KidsV B w p kids) : kids.length * 32 ≤ 140737488351232 ∧ ∃ b o,(kids.length = 0 ∨ p = some ⟨b,o,none⟩) ∧
  ∀ i (h : i < kids.length),∃ q c,b < B ∧ Cells w ⟨b,o + i * 5,none⟩ (cndCells kids[i] q c) ∧ KidsV B w q kids[i].kids := by
 cases h with
 | mk _ _ hn b o hp q c hk ht => exact ⟨hn,b,o,hp,fun i hi => ⟨q i,c i,(hk i hi).1,(hk i hi).2,ht i hi⟩⟩
theorem KidsV.kept {B : Nat} {w w2 : World} {p : Option Addr} {kids : List Cnd} (h : KidsV B w p kids) (hb : Below B w w2) : KidsV B w2 p kids := by
 induction h with
 | mk p kids hn b o hp q c hk ht ih => exact .mk p kids hn b o hp q c (fun i hi => ⟨(hk i hi).1,cells_belowB hb (hk i hi).1 (hk i hi).2⟩) ih
theorem KidsV.wider {B B' : Nat} {w : World} {p : Option Addr} {kids : List Cnd} (h : KidsV B w p kids) (hb : B ≤ B') : KidsV B' w p kids := by
 induction h with
 | mk p kids hn b o hp q c hk ht ih => exact .mk p kids hn b o hp q c (fun i hi => ⟨Nat.lt_of_lt_of_le (hk i hi).1 hb,(hk i hi).2⟩) ih
def ThrsV (B : Nat) (w : World) (p : Option Addr) (l : List (List InsD)) : Prop := ∃ xs : List ThrR,xs.map (·.1) = l ∧ RowB thrE B w p xs ∧ ∀ x ∈ xs,RowB insE B w x.2.1 x.1
theorem ThrsV.below {B : Nat} {w w2 : World} {p : Option Addr} {l : List (List InsD)} (h : ThrsV B w p l) (hb : Below B w w2) : ThrsV B w2 p l := by
 obtain ⟨xs,h1,h2,h3⟩ := h
 exact ⟨xs,h1,h2.below hb,fun x hx => (h3 x hx).below hb⟩
theorem ThrsV.mono {B B' : Nat} {w : World} {p : Option Addr} {l : List (List InsD)} (h : ThrsV B w p l) (hb : B ≤ B') : ThrsV B' w p l := by
 obtain ⟨xs,h1,h2,h3⟩ := h
 exact ⟨xs,h1,h2.mono hb,fun x hx => (h3 x hx).mono hb⟩
def prgCells (p : Prg) (p1 : Option Addr) (c1 : Nat) (p2 : Option Addr) (c2 : Nat) (p3 : Option Addr) (c3 : Nat) (p4 : Option Addr) (c4 : Nat) : List Value :=
 [strV p.name,.slice p1 p.locs.length c1,.slice p2 p.init.length c2,.slice p3 p.threads.length c3,u8 p.ask,u8 p.cond.kind,u8 p.cond.thread,u8 p.cond.n,u8 p.cond.val,.slice p4 p.cond.kids.length c4]
structure PrgLen (p : Prg) : Prop where
 name : p.name.length ≤ 140737488351232
 locs : p.locs.length ≤ 140737488351232
 loc : ∀ s ∈ p.locs,s.length ≤ 140737488351232
 init : p.init.length ≤ 140737488351232
 threads : p.threads.length ≤ 140737488351232
 thread : ∀ l ∈ p.threads,l.length ≤ 140737488351232
structure PrgV (B : Nat) (w : World) (vs : List Value) (p : Prg) : Prop where
 len : PrgLen p
 h : ∃ p1 c1 p2 c2 p3 c3 p4 c4,vs = prgCells p p1 c1 p2 c2 p3 c3 p4 c4 ∧ RowB namE B w p1 p.locs ∧ RowB byteE B w p2 p.init ∧ ThrsV B w p3 p.threads ∧ KidsV B w p4 p.cond.kids ∧ p.locs.length ≤ c1
theorem PrgV.below {B : Nat} {w w2 : World} {vs : List Value} {p : Prg} (h : PrgV B w vs p) (hb : Below B w w2) : PrgV B w2 vs p := by
 obtain ⟨p1,c1,p2,c2,p3,c3,p4,c4,h0,h1,h2,h3,h4,h5⟩ := h.h
 exact ⟨h.len,p1,c1,p2,c2,p3,c3,p4,c4,h0,h1.below hb,h2.below hb,h3.below hb,h4.kept hb,h5⟩
theorem PrgV.mono {B B' : Nat} {w : World} {vs : List Value} {p : Prg} (h : PrgV B w vs p) (hb : B ≤ B') : PrgV B' w vs p := by
 obtain ⟨p1,c1,p2,c2,p3,c3,p4,c4,h0,h1,h2,h3,h4,h5⟩ := h.h
 exact ⟨h.len,p1,c1,p2,c2,p3,c3,p4,c4,h0,h1.mono hb,h2.mono hb,h3.mono hb,h4.wider hb,h5⟩
theorem PrgV.size {B : Nat} {w : World} {vs : List Value} {p : Prg} (h : PrgV B w vs p) : vs.length = 10 := by
 obtain ⟨p1,c1,p2,c2,p3,c3,p4,c4,rfl,_⟩ := h.h; rfl
end Go.Proofs.YtkpcgpmimejimaaGreatDoor
namespace Go.Proofs.YtkpcgpmimejimaaGreatDoor
open Go.Vc Go.RowKit Go.Sei
theorem w8N (u : Nat) : IntKind.u8.wrap (u : Int) = ((UInt8.ofNat u).toNat : Int) := by
 rw [UInt8.toNat_ofNat']
 unfold IntKind.wrap; simp only [IntKind.bits,IntKind.signed,Bool.false_and,Bool.false_eq_true,if_false]; omega
abbrev RunH (X : World) (b : Nat) (R : RunD) : Prop := X.heap[b]? = some (.cells (runC R).toArray 195 (0,0))
abbrev AtR (b : Nat) : Value := .pointer (some ⟨b,0,none⟩)
section
variable {R : RunD} {b : Nat} {w : World}
theorem emit_c {k l v m : UInt8} {d : Nat} (f : RunH w b R) (hm : R.many < 24) : Calls Tryz.prog 214 #[AtR b,u8 k,u8 l,u8 v,u8 m,s32 d] w fun e w' =>
  e = .returned (i64 R.many) ∧ RunH w' b (emitR R k l v m d) ∧ w.grownBy w' (some b) ∧ w'.heap.size = w.heap.size := by
 refine calls_of_E (S := sg 58) (sgOk _) (args := [AtR b,u8 k,u8 l,u8 v,u8 m,s32 d]) Tryz.func214 rfl rfl (Nat.le_of_ble_eq_true rfl) rfl ?_
 refine ⟨_,cells_at (cells_block f) (i := 18) (run_many R),?_⟩
 refine DrawE.ord [17] [0,1,2,3,4,5,6,7,8,9,10,11,12,13,14,15,16,17] (by kernel_rfl) ?_
 refine ⟨_,cells_at (cells_block (hdr f)) (i := 0) rfl,?_⟩
 refine ⟨_,w8N _,?_⟩
 refine ⟨_,w8N _,?_⟩
 obtain ⟨ev,hev⟩ : ∃ ev : Ev,ev = ⟨0,k,l,v,m,UInt8.ofNat R.pc,UInt8.ofNat R.many⟩ := ⟨_,rfl⟩
 refine ⟨evE.enc ev,by rw [hev]; rfl,?_⟩
 refine ⟨R.many,rfl,hm,?_⟩
 refine store_part (ttOk.get 52 _ rfl) (hdr f) (o := 0 + 19 + R.many * 7) (v := .agg (evE.enc ev).toArray) rfl (by
  show 0 + 19 + R.many * 7 + 7 ≤ (runC R).length
  rw [runC_len]; omega) rfl fun Y fY gY sY => ?_
 have fY : RunH Y b { R with ev := upd R.ev R.many ev } := by
  show Y.heap[b]? = some (.cells (runC { R with ev := upd R.ev R.many ev }).toArray 195 (0,0))
  rw [← run_set_ev R hm ev,fY,Nat.zero_add]; rfl
 refine ⟨R.many,rfl,hm,?_⟩
 refine store_one (ttOk.get 190 _ rfl) fY (o := 0 + 187 + R.many * 1) (v := s32 d) rfl rfl (by rw [runC_len]; omega) rfl fun Z fZ gZ sZ => ?_
 rw [Nat.zero_add,Nat.mul_one,run_set_data _ hm] at fZ
 refine DrawE.ord [9] [0,1,2,3,4,5,6,7,8,9] (by kernel_rfl) ?_
 refine ⟨_,cells_at (cells_block (hdr fZ)) (i := 17) (run_ctl _),?_⟩
 refine ⟨R.many,rfl,hm,?_⟩
 refine store_one (ttOk.get 190 _ rfl) (hdr fZ) (o := 0 + 211 + R.many * 1) (v := s32 R.ctl) rfl rfl (by rw [runC_len]; omega) rfl fun U fU gU sU => ?_
 rw [Nat.zero_add,Nat.mul_one,run_set_ctrl _ hm] at fU
 refine ⟨_,cells_at (cells_block fU) (i := 18) (run_many _),?_⟩
 refine ⟨((R.many + 1 : Nat) : Int),(wrap_i64 (by show _ ≤ ((R.many : Nat) : Int) + 1 ∧ ((R.many : Nat) : Int) + 1 ≤ _; omega)).trans rfl,?_⟩
 refine store_one (ttOk.get 3 _ rfl) fU (o := 0 + 18) (v := i64 (R.many + 1 : Nat)) rfl rfl (by rw [runC_len]; decide) rfl fun V fV gV sV => ?_
 rw [Nat.zero_add,run_set_many] at fV
 have gd : w.grownBy w.drew (some b) := ⟨rfl,rfl,rfl,Nat.le_refl _,fun _ _ _ => rfl⟩
 have gd2 : Z.grownBy Z.drew (some b) := ⟨rfl,rfl,rfl,Nat.le_refl _,fun _ _ _ => rfl⟩
 refine ⟨rfl,?_,grown_trans (grown_trans (grown_trans (grown_trans gd gY) gZ) (grown_trans gd2 gU)) gV,?_⟩
 ·unfold emitR
  rw [← hev]
  exact fV
 ·rw [sV,sU]
  show Z.heap.size = _
  rw [sZ,sY]; rfl
theorem set_c {d v : UInt8} {s : Nat} (f : RunH w b R) (hd : d.toNat < 8) : Calls Tryz.prog 215 #[AtR b,u8 d,u8 v,s32 s] w fun e w' =>
  e = .returned (.tuple #[]) ∧ RunH w' b (setR R d v s) ∧ w.grownBy w' (some b) ∧ w'.heap.size = w.heap.size := by
 refine calls_of_E (S := sg 20) (sgOk _) (args := [AtR b,u8 d,u8 v,s32 s]) Tryz.func215 rfl rfl (Nat.le_of_ble_eq_true rfl) rfl ?_
 refine ⟨d.toNat,rfl,hd,?_⟩
 refine store_one (ttOk.get 5 _ rfl) f (o := 0 + 1 + d.toNat * 1) (v := u8 v) rfl rfl (by rw [runC_len]; omega) rfl fun Y fY gY sY => ?_
 rw [Nat.zero_add,Nat.mul_one,run_set_reg _ hd] at fY
 refine ⟨d.toNat,rfl,hd,?_⟩
 refine store_one (ttOk.get 190 _ rfl) fY (o := 0 + 9 + d.toNat * 1) (v := s32 s) rfl rfl (by rw [runC_len]; omega) rfl fun Z fZ gZ sZ => ?_
 rw [Nat.zero_add,Nat.mul_one,run_set_dep _ hd] at fZ
 exact ⟨rfl,fZ,grown_trans gY gZ,sZ.trans sY⟩
theorem value_c {r : Bool} {n : UInt8} (f : RunH w b R) (hn : r = true → n.toNat < 8) : Calls Tryz.prog 216 #[AtR b,.agg #[.bool r,u8 n]] w fun e w' =>
  e = .returned (.tuple #[u8 (valR r n R).1,s32 (valR r n R).2]) ∧ Below w.heap.size w w' := by
 refine calls_of_E (S := sg 24) (sgOk _) (args := [AtR b,.agg #[.bool r,u8 n]]) Tryz.func216 rfl rfl (Nat.le_of_ble_eq_true rfl) rfl ?_
 have f0 := hnew w (.cells #[.bool r,u8 n] 67)
 have hb : Below w.heap.size w (w.alloc (.cells #[.bool r,u8 n] 67)) := (Below.refl _ w).alloc (Nat.le_refl _) _
 refine ⟨_,cells_at (cells_block f0) (i := 0) rfl,?_⟩
 refine And.intro (fun h => ?_) (fun h => ?_)
 ·have hn8 := hn h
  have fr := block_below hb f
  refine DrawE.ord [] [0,1,2,3,4,5,6,7,8,9,10,11,12,13,14,15] (by kernel_rfl) ?_
  refine ⟨_,cells_at (cells_block (hdr f0)) (i := 1) rfl,?_⟩
  refine ⟨n.toNat,rfl,hn8,?_⟩
  refine ⟨_,by rw [Nat.mul_one,Nat.add_assoc]; exact cells_at (cells_block (hdr fr)) (run_reg R hn8),?_⟩
  refine ⟨_,cells_at (cells_block (hdr f0)) (i := 1) rfl,?_⟩
  refine ⟨n.toNat,rfl,hn8,?_⟩
  refine ⟨_,by rw [Nat.mul_one,Nat.add_assoc]; exact cells_at (cells_block (hdr fr)) (run_dep R hn8),?_⟩
  refine ⟨?_,hb.trans ((Below.refl _ _).drew)⟩
  unfold valR
  rw [if_pos h]; rfl
 ·refine ⟨_,cells_at (cells_block f0) (i := 1) rfl,?_⟩
  refine ⟨?_,hb⟩
  unfold valR
  rw [if_neg (by rw [h]; exact Bool.false_ne_true)]; rfl
end
end Go.Proofs.YtkpcgpmimejimaaGreatDoor
namespace Go.Proofs.YtkpcgpmimejimaaGreatDoor
open Go.Vc Go.RowKit Go.Sei
abbrev insV (x : InsD) : Value := .agg (insE.enc x).toArray
section
variable {R : RunD} {b : Nat} {w : World}
theorem runLoad_c {x : InsD} {v : UInt8} (f : RunH w b R) (hm : R.many < 24) (hd : x.dst.toNat < 8) : Calls Tryz.prog 203 #[AtR b,insV x,u8 v] w fun e w' =>
  e = .returned (.tuple #[]) ∧ RunH w' b (loadR R x v) ∧ w.grownBy w' (some b) := by
 refine calls_of_E (S := sg 21) (sgOk _) (args := [AtR b,insV x,u8 v]) Tryz.func203 rfl rfl (Nat.le_of_ble_eq_true rfl) rfl ?_
 have f0 := hnew w (.cells (insE.enc x).toArray 69)
 have hb : Below w.heap.size w (w.alloc (.cells (insE.enc x).toArray 69)) := (Below.refl _ w).alloc (Nat.le_refl _) _
 have fr := block_below hb f
 have hne : w.heap.size ≠ b := fun e => by have := hlt f; omega
 refine ⟨_,cells_at (cells_block f0) (i := 2) rfl,?_⟩
 refine ⟨_,cells_at (cells_block f0) (i := 8) rfl,?_⟩
 refine Calls.mono (emit_c (k := 1) (l := x.loc) (v := v) (m := x.mode) (d := 0) fr hm) ?_
 rintro e Y ⟨rfl,fY,gY,sY⟩
 have f0Y := (gY.block w.heap.size (hlt f0) (by simpa using hne)).trans f0
 refine DrawE.ord [6] [0,1,2,3,4,5,6] (by kernel_rfl) ?_
 refine ⟨_,cells_at (cells_block (hdr f0Y)) (i := 1) rfl,?_⟩
 refine ⟨by omega,_,w32_one (e := R.many) (by omega),?_⟩
 refine Calls.mono (set_c (d := x.dst) (v := v) (s := 2 ^ R.many) (hdr fY) hd) ?_
 rintro e Z ⟨rfl,fZ,gZ,sZ⟩
 have gd : Y.grownBy Y.drew (some b) := ⟨rfl,rfl,rfl,Nat.le_refl _,fun _ _ _ => rfl⟩
 exact ⟨rfl,fZ,grown_trans (grown_of_below hb) (grown_trans gY (grown_trans gd gZ))⟩
theorem runStore_c {x : InsD} {v : UInt8} (f : RunH w b R) (hm : R.many < 24) (ha : x.ar = true → x.an.toNat < 8) : Calls Tryz.prog 204 #[AtR b,insV x,u8 v] w fun e w' =>
  e = .returned (.tuple #[]) ∧ RunH w' b (storeR R x) ∧ w.grownBy w' (some b) := by
 refine calls_of_E (S := sg 23) (sgOk _) (args := [AtR b,insV x,u8 v]) Tryz.func204 rfl rfl (Nat.le_of_ble_eq_true rfl) rfl ?_
 have f0 := hnew w (.cells (insE.enc x).toArray 69)
 have hb : Below w.heap.size w (w.alloc (.cells (insE.enc x).toArray 69)) := (Below.refl _ w).alloc (Nat.le_refl _) _
 have fr := block_below hb f
 refine ⟨[.bool x.ar,u8 x.an],rfl,cells_block' (o := 3) (n := 2) f0,hlt f0,?_⟩
 refine Calls.mono (value_c fr ha) ?_
 rintro e Y ⟨rfl,hbY⟩
 have f0Y := block_below hbY f0
 have fY := block_below hbY fr
 refine ⟨_,cells_at (cells_block f0Y) (i := 2) rfl,?_⟩
 refine ⟨_,cells_at (cells_block f0Y) (i := 8) rfl,?_⟩
 refine Calls.mono (emit_c (k := 2) (l := x.loc) (v := (valR x.ar x.an R).1) (m := x.mode) (d := (valR x.ar x.an R).2) fY hm) ?_
 rintro e Z ⟨rfl,fZ,gZ,sZ⟩
 exact ⟨rfl,fZ,grown_trans (grown_of_below hb) (grown_trans (grown_of_below hbY) gZ)⟩
theorem runFence_c {x : InsD} {v : UInt8} (f : RunH w b R) (hm : R.many < 24) : Calls Tryz.prog 209 #[AtR b,insV x,u8 v] w fun e w' =>
  e = .returned (.tuple #[]) ∧ RunH w' b (fenceR R x) ∧ w.grownBy w' (some b) := by
 refine calls_of_E (S := sg 10) (sgOk _) (args := [AtR b,insV x,u8 v]) Tryz.func209 rfl rfl (Nat.le_of_ble_eq_true rfl) rfl ?_
 have f0 := hnew w (.cells (insE.enc x).toArray 69)
 have hb : Below w.heap.size w (w.alloc (.cells (insE.enc x).toArray 69)) := (Below.refl _ w).alloc (Nat.le_refl _) _
 have fr := block_below hb f
 refine ⟨_,cells_at (cells_block f0) (i := 8) rfl,?_⟩
 refine Calls.mono (emit_c (k := 3) (l := 0) (v := 0) (m := x.mode) (d := 0) fr hm) ?_
 rintro e Z ⟨rfl,fZ,gZ,sZ⟩
 exact ⟨rfl,fZ,grown_trans (grown_of_below hb) gZ⟩
end
end Go.Proofs.YtkpcgpmimejimaaGreatDoor
namespace Go.Proofs.YtkpcgpmimejimaaGreatDoor
open Go.Vc Go.RowKit Go.Sei
def ExOk (x : InsD) : Prop := (x.op = 1 ∧ x.dst.toNat < 8) ∨ (x.op = 2 ∧ (x.ar = true → x.an.toNat < 8)) ∨ x.op = 7
def fnV (g : Nat) : Value := .func (.func g) #[] #[]
def effL : List Value := [.nilFunc,fnV 203,fnV 204,fnV 205,fnV 206,fnV 207,fnV 208,fnV 209,fnV 210]
theorem effects_c {w : World} : Calls Tryz.prog 196 #[] w fun e w' => e = .returned (.agg effL.toArray) ∧ Below w.heap.size w w' := by
 refine calls_of_E (S := sg 2) (sgOk _) (args := []) Tryz.func196 rfl rfl (Nat.le_of_ble_eq_true rfl) rfl ?_
 have f0 := hnew w (.cells (List.replicate 9 Value.nilFunc).toArray 264)
 have hb : Below w.heap.size w (w.alloc (.cells (List.replicate 9 Value.nilFunc).toArray 264)) := (Below.refl _ w).alloc (Nat.le_refl _) _
 refine ⟨effL,rfl,?_⟩
 refine store_box (v := .agg effL.toArray) (ttOk.get 264 _ rfl) f0 rfl rfl rfl ?_
 exact ⟨effL,rfl,cells_block (setRow_new f0),rfl,below_setRow hb (Nat.le_refl _) _⟩
section
variable {R : RunD} {b : Nat} {w : World}
theorem execute_c {x : InsD} {v : UInt8} (f : RunH w b R) (hm : R.many < 24) (hp : R.pc ≤ 1000) (hx : ExOk x) : Calls Tryz.prog 183 #[AtR b,insV x,u8 v] w fun e w' =>
  e = .returned (.tuple #[]) ∧ RunH w' b (execR R x v) ∧ w.grownBy w' (some b) := by
 refine calls_of_E (S := sg 21) (sgOk _) (args := [AtR b,insV x,u8 v]) Tryz.func183 rfl rfl (Nat.le_of_ble_eq_true rfl) rfl ?_
 have f0 := hnew w (.cells (insE.enc x).toArray 69)
 obtain ⟨W1,hW1⟩ : ∃ W1,W1 = (w.alloc (.cells (insE.enc x).toArray 69)).drew := ⟨_,rfl⟩
 have hb : Below w.heap.size w W1 := by rw [hW1]; exact ((Below.refl _ w).alloc (Nat.le_refl _) _).drew
 have fr : RunH W1 b R := block_below hb f
 have f0 : W1.heap[w.heap.size]? = some (.cells (insE.enc x).toArray 69 (0,0)) := by rw [hW1]; exact f0
 have hW1' : (w.alloc (.cells (Value.agg (insE.enc x).toArray).cells 69)).drew = W1 := hW1.symm
 refine DrawE.ord [7] [1,2,4,5,6,0,3,7] (by kernel_rfl) ?_
 rw [hW1']
 refine ⟨_,cells_at (cells_block f0) (i := 0) rfl,?_⟩
 refine ⟨insE.enc x,rfl,cells_block f0,hlt f0,?_⟩
 refine Calls.mono effects_c ?_
 rintro e Y ⟨rfl,hbY⟩
 refine ⟨hbY,?_⟩
 have fY := block_below hbY fr
 have gY : w.grownBy Y (some b) := grown_trans (grown_of_below hb) (grown_of_below hbY)
 have fin : ∀ {S : RunD} {Z : World},RunH Z b S → Y.grownBy Z (some b) → S.pc = R.pc → execR R x v = { S with pc := S.pc + 1 } → ∃ u,Z.cell? ⟨b,0 + 0,none⟩ = some u ∧ binE Tryz.prog .add 3 (.tmp 17) (.const (i64 1)) u (i64 1) (fun v18 => SatR ((storeVar 3 ⟨b,0 + 0,none⟩ v18).run Tryz.prog Z) fun _ w' => (Ending.returned (.tuple #[]) = Ending.returned (.tuple #[])) ∧ RunH w' b (execR R x v) ∧ w.grownBy w' (some b)) := by
  intro S Z fZ gZ hpc he
  refine ⟨_,cells_at (cells_block fZ) (i := 0) rfl,?_⟩
  refine ⟨((S.pc + 1 : Nat) : Int),(wrap_i64 (by show _ ≤ ((S.pc : Nat) : Int) + 1 ∧ ((S.pc : Nat) : Int) + 1 ≤ _; omega)).trans rfl,?_⟩
  refine store_one (ttOk.get 3 _ rfl) fZ (o := 0 + 0) (v := i64 (S.pc + 1 : Nat)) rfl rfl (by rw [runC_len]; decide) rfl fun V fV gV sV => ?_
  rw [Nat.zero_add,run_set_pc] at fV
  rw [he]
  exact ⟨rfl,fV,grown_trans gY (grown_trans gZ gV)⟩
 rcases hx with ⟨h1,h2⟩ | ⟨h1,h2⟩ | h1
 ·refine ⟨1,by rw [h1]; rfl,by decide,?_⟩
  refine partE_of (v := fnV 203) rfl ?_
  refine Calls.mono (runLoad_c fY hm h2) ?_
  rintro e Z ⟨rfl,fZ,gZ⟩
  exact fin fZ gZ rfl (by unfold execR effR; rw [if_pos h1])
 ·refine ⟨2,by rw [h1]; rfl,by decide,?_⟩
  refine partE_of (v := fnV 204) rfl ?_
  refine Calls.mono (runStore_c fY hm h2) ?_
  rintro e Z ⟨rfl,fZ,gZ⟩
  exact fin fZ gZ rfl (by unfold execR effR; rw [if_neg (by rw [h1]; decide),if_pos h1])
 ·refine ⟨7,by rw [h1]; rfl,by decide,?_⟩
  refine partE_of (v := fnV 209) rfl ?_
  refine Calls.mono (runFence_c fY hm) ?_
  rintro e Z ⟨rfl,fZ,gZ⟩
  exact fin fZ gZ rfl (by unfold execR effR; rw [if_neg (by rw [h1]; decide),if_neg (by rw [h1]; decide),if_neg (by rw [h1]; decide),if_neg (by rw [h1]; decide),if_neg (by rw [h1]; decide),if_neg (by rw [h1]; decide),if_pos h1])
end
end Go.Proofs.YtkpcgpmimejimaaGreatDoor
namespace Go.Proofs.YtkpcgpmimejimaaGreatDoor
open Go.Vc Go.RowKit Go.Sei
theorem exec_ok {R : RunD} {x : InsD} {v : UInt8} (hx : ExOk x) : (execR R x v).pc = R.pc + 1 ∧ (execR R x v).many = R.many + 1 := by
 unfold execR effR
 rcases hx with ⟨h,_⟩ | ⟨h,_⟩ | h
 ·rw [if_pos h]; exact ⟨rfl,rfl⟩
 ·rw [if_neg (by rw [h]; decide),if_pos h]; exact ⟨rfl,rfl⟩
 ·rw [if_neg (by rw [h]; decide),if_neg (by rw [h]; decide),if_neg (by rw [h]; decide),if_neg (by rw [h]; decide),if_neg (by rw [h]; decide),if_neg (by rw [h]; decide),if_pos h]; exact ⟨rfl,rfl⟩
theorem slr_grown {α : Type} {E : Enc α} {w X : World} {q : Option Addr} {l : List α} {b : Nat} (h : SlR E w q l) (hq : ∀ a,q = some a → a.block ≠ b) (g : w.grownBy X (some b)) : SlR E X q l := by
 rcases h with h | ⟨b',o,h1,h2,h3⟩
 ·exact .inl h
 ·refine .inr ⟨b',o,h1,Nat.lt_of_lt_of_le h2 g.size,fun i hi => cells_same (g.block b' h2 (fun e => hq _ h1 (by cases e; rfl))) (h3 i hi)⟩
theorem go_end {l : List InsD} {R : RunD} (h : l[R.pc]? = none) : ∀ n,goR l n R = R
 | 0 => rfl
 | n + 1 => by unfold goR; rw [h]
theorem go_read {l : List InsD} {R : RunD} {x : InsD} (h : l[R.pc]? = some x) (hr : readsB x = true) : ∀ n,goR l n R = R
 | 0 => rfl
 | n + 1 => by unfold goR; rw [h]; simp only [hr,if_true]
theorem go_step {l : List InsD} {R : RunD} {x : InsD} (h : l[R.pc]? = some x) (hr : readsB x = false) (n : Nat) : goR l (n + 1) R = goR l n (execR R x 0) := by
 show (match l[R.pc]? with | none => R | some x => if readsB x then R else goR l n (execR R x 0)) = _
 rw [h]; simp only [hr,Bool.false_eq_true,if_false]
theorem reads_ok {x : InsD} (hx : ExOk x) : (x.op = 1 ∧ readsB x = true) ∨ ((x.op = 2 ∨ x.op = 7) ∧ readsB x = false) := by
 unfold readsB
 rcases hx with ⟨h,_⟩ | ⟨h,_⟩ | h
 ·exact .inl ⟨h,by rw [h]; rfl⟩
 ·exact .inr ⟨.inl h,by rw [h]; rfl⟩
 ·exact .inr ⟨.inr h,by rw [h]; rfl⟩
section
variable {R : RunD} {b : Nat} {w : World} {l : List InsD} {q : Option Addr} {cap : Nat}
theorem proceed_c (f : RunH w b R) (hl : SlR insE w q l) (hq : ∀ a,q = some a → a.block ≠ b) (h12 : l.length ≤ 12) (hx : ∀ x ∈ l,ExOk x) (hm : R.many ≤ R.pc) (hp : R.pc ≤ l.length) :
  Calls Tryz.prog 182 #[AtR b,.slice q l.length cap] w fun e w' => e = .returned (.bool (l[(goR l l.length R).pc]?).isSome) ∧ RunH w' b (goR l l.length R) ∧ w.grownBy w' (some b) ∧ (goR l l.length R).many ≤ (goR l l.length R).pc ∧ (goR l l.length R).pc ≤ l.length ∧ R.pc ≤ (goR l l.length R).pc := by
 refine calls_of_E (S := sg 34) (sgOk _) (args := [AtR b,.slice q l.length cap]) Tryz.func182 rfl rfl (Nat.le_of_ble_eq_true rfl) rfl ?_
 refine ⟨RunD × Nat,fun s => ⟨[(0,AtR b),(1,.slice q l.length cap)],[]⟩,
  fun s X => (goR l l.length R = goR l s.2 s.1 ∧ l.length ≤ s.2 + s.1.pc ∧ s.1.many ≤ s.1.pc ∧ s.1.pc ≤ l.length ∧ R.pc ≤ s.1.pc) ∧ RunH X b s.1 ∧ w.grownBy X (some b),fun s => l.length - s.1.pc,(R,l.length),
  ⟨.cons rfl (.cons rfl .nil),rfl⟩,⟨⟨rfl,by omega,hm,hp,Nat.le_refl _⟩,f,grown_refl w _⟩,?_⟩
 rintro ⟨S,n⟩ X ⟨⟨he,hn,hm,hp,hpp⟩,fX,gX⟩
 dsimp only at he hn hm hp hpp fX ⊢
 refine ⟨_,cells_at (cells_block fX) (i := 0) rfl,?_⟩
 refine And.intro (fun hc => ?_) (fun hc => ?_)
 ·have hc : (S.pc : Int) < (l.length : Int) := of_decide_eq_true hc
  have hi : S.pc < l.length := by omega
  obtain ⟨n,rfl⟩ : ∃ n',n = n' + 1 := ⟨n - 1,by omega⟩
  obtain ⟨bq,oq,rfl,hlq,hat⟩ := (slr_grown hl hq gX).at hi
  have hg : l[S.pc]? = some l[S.pc] := List.getElem?_eq_getElem hi
  have hxi := hx _ (List.getElem_mem hi)
  refine ⟨_,cells_at (cells_block fX) (i := 0) rfl,?_⟩
  refine ⟨S.pc,rfl,hi,?_⟩
  refine ⟨_,cells_at (hat S.pc hi) (i := 0) rfl,?_⟩
  rcases reads_ok hxi with ⟨ho,hr⟩ | ⟨ho,hr⟩
  ·have e1 : goR l l.length R = S := he.trans (go_read hg hr _)
   refine brE (by rw [ho]; rfl) ?_
   refine brE (by rw [ho]; rfl) ?_
   rw [e1,hg]
   exact ⟨rfl,fX,gX,hm,hp,hpp⟩
  ·have no : ∀ k : UInt8,k = 1 ∨ k = 4 ∨ k = 5 ∨ k = 6 → decide (((l[S.pc].op).toNat : Int) = (k.toNat : Int)) = false := fun k hk => by
    apply decide_eq_false
    intro e
    have := u8_eq.1 e
    rw [this] at ho
    rcases hk with rfl | rfl | rfl | rfl <;> rcases ho with ho | ho <;> exact absurd ho (by decide)
   refine brN (no 1 (.inl rfl)) ?_
   refine brN (no 4 (.inr (.inl rfl))) ?_
   refine brN (no 5 (.inr (.inr (.inl rfl)))) ?_
   refine brN (no 6 (.inr (.inr (.inr rfl)))) ?_
   refine ⟨_,cells_at (cells_block fX) (i := 0) rfl,?_⟩
   refine ⟨S.pc,rfl,hi,?_⟩
   refine ⟨insE.enc l[S.pc],rfl,hat S.pc hi,hlq,?_⟩
   refine Calls.mono (execute_c (v := 0) fX (by omega) (by omega) hxi) ?_
   rintro e Y ⟨rfl,fY,gY⟩
   obtain ⟨x1,x2⟩ := exec_ok (R := S) (v := 0) hxi
   exact ⟨(execR S l[S.pc] 0,n),⟨.cons rfl (.cons rfl .nil),rfl⟩,⟨⟨he.trans (go_step hg hr n),by rw [x1]; omega,by rw [x1,x2]; omega,by rw [x1]; omega,by rw [x1]; omega⟩,fY,grown_trans gX gY⟩,by rw [x1]; omega⟩
 ·have hc : ¬ (S.pc : Int) < (l.length : Int) := of_decide_eq_false hc
  have hg : l[S.pc]? = none := List.getElem?_eq_none (by omega)
  have e1 : goR l l.length R = S := he.trans (go_end hg _)
  rw [e1,hg]
  exact ⟨rfl,fX,gX,hm,hp,hpp⟩
end
end Go.Proofs.YtkpcgpmimejimaaGreatDoor
namespace Go.Proofs.YtkpcgpmimejimaaGreatDoor
open Go.Vc Go.RowKit Go.Sei
theorem seg_one {n : Nat} {f : Nat → Value} (h : ∀ i,(f i).oneCell' = true) : (seg n f).all Value.oneCell' = true := by
  unfold seg
  rw [List.all_eq_true]
  intro u hu
  obtain ⟨i,_,rfl⟩ := List.mem_map.1 hu
  exact h i
theorem ztrun_len : (zt195).toArray.size = 259 := by kernel_rfl
theorem runC_one (R : RunD) : (runC R).all Value.oneCell' = true := by
  unfold runC
  rw [List.all_cons,List.all_append,List.all_append,List.all_append,List.all_append,List.all_append,List.all_append,seg_one fun _ => rfl,seg_one fun _ => rfl,seg_one fun _ => rfl,seg_one fun _ => rfl,seg_one fun _ => rfl]
  have : (evsC R.ev).all Value.oneCell' = true := List.all_eq_true.2 fun u hu => flat_one (E := evE) _ u hu
  rw [this]; rfl
theorem slr_same {α : Type} {E : Enc α} {w X : World} {q : Option Addr} {l : List α} (h : SlR E w q l) (hs : ∀ a,q = some a → X.heap[a.block]? = w.heap[a.block]?) : SlR E X q l := by
  rcases h with h | ⟨b',o,h1,h2,h3⟩
  · exact .inl h
  · have h4 := hs _ h1
    have h4 : X.heap[b']? = w.heap[b']? := h4
    refine .inr ⟨b',o,h1,?_,fun i hi => cells_same h4 (h3 i hi)⟩
    have h5 : w.heap[b']? = some w.heap[b'] := Array.getElem?_eq_getElem h2
    rw [h5] at h4
    exact hlt h4
structure RowF {α : Type} (E : Enc α) (n0 : Nat) (F : Nat → Prop) (X : World) (q : Option Addr) (l : List α) : Prop where
  row : SlR E X q l
  out : ∀ a,q = some a → a.block < n0 ∧ ¬ F a.block
theorem RowF.keep {α : Type} {E : Enc α} {n0 : Nat} {F F' G : Nat → Prop} {X Y : World} {q : Option Addr} {l : List α} (h : RowF E n0 F X q l) (hn : n0 ≤ X.heap.size) (k : KeepsG G F' X Y) (hG : ∀ k,k < n0 → G k → F k) : RowF E n0 F' Y q l := by
  refine ⟨slr_same h.row fun a ha => ?_,fun a ha => ⟨(h.out a ha).1,fun hf => ?_⟩⟩
  · have := h.out a ha
    exact k.same _ (by omega) fun hg => this.2 (hG _ this.1 hg)
  · have := h.out a ha
    rcases k.fp _ hf with h2 | h2
    · exact this.2 (hG _ this.1 h2)
    · omega
def StR (pre : List RunD) (vs : List Value) (W : World) : Prop := ∃ R b,pre.getLast? = some R ∧ vs = [AtR b] ∧ RunH W b R
section
variable {yl n0 cap cd : Nat} {J Jx : List RunD → (Nat → Prop) → World → Prop} {xs : List RunD} {l : List InsD} {dom : List UInt8} {q p : Option Addr}
theorem spread_c (hJ : JG n0 (fun _ => False) J) (hn0 : ∀ pre F X,J pre F X → n0 ≤ X.heap.size) (hy : ∀ pre x vs F W1,J pre F W1 → StR (pre ++ [x]) vs W1 → (pre ++ [x]) <+: xs → YieldR Tryz.prog yl vs.toArray W1 fun v W2 =>
      (v = .bool true ∧ ∃ F',J (pre ++ [x]) F' W2 ∧ KeepsG F F' W1 W2) ∨ (v = .bool false ∧ ∃ F',Jx (pre ++ [x]) F' W2)) (h12 : l.length ≤ 12) (hx : ∀ x ∈ l,ExOk x) (hd : dom.length ≤ 1000) :
    ∀ (n : Nat) (S : RunD) (b : Nat) (pre : List RunD) (F : Nat → Prop) (X : World),l.length ≤ n + S.pc → S.many ≤ S.pc → S.pc ≤ l.length → RunH X b S → n0 ≤ b → ¬ F b → J pre F X → RowF insE n0 F X q l → RowF byteE n0 F X p dom → (pre ++ spreadR l dom n S) <+: xs →
      Calls Tryz.prog 147 #[AtR b,.slice q l.length cap,.slice p dom.length cd,.func (.yield yl) #[] #[]] X fun e Y =>
        (e = .returned (.bool true) ∧ ∃ F',J (pre ++ spreadR l dom n S) F' Y ∧ KeepsG (fun k => F k ∨ k = b) F' X Y) ∨ (e = .returned (.bool false) ∧ ∃ pre' F',pre' <+: xs ∧ Jx pre' F' Y) := by
  intro n
  induction n with
  | zero =>
    intro S b pre F X hn hm hp fX hb hFb hj hq hdm hpre
    refine calls_of_E (S := sg 41) (sgOk _) (args := [AtR b,.slice q l.length cap,.slice p dom.length cd,.func (.yield yl) #[] #[]]) Tryz.func147 rfl rfl (Nat.le_of_ble_eq_true rfl) rfl ?_
    have hpc : S.pc = l.length := by omega
    have hg : l[S.pc]? = none := List.getElem?_eq_none (by omega)
    have e1 : goR l l.length S = S := go_end hg _
    refine Calls.mono (proceed_c fX hq.row (fun a ha => by have := (hq.out a ha).1; omega) h12 hx hm hp) ?_
    rintro e Y ⟨rfl,fY,gY,_⟩
    rw [e1] at fY ⊢
    rw [hg]
    refine brT ?_
    have hjY := hJ.step _ _ _ _ hj (StepG.grown gY (.inl hb) hFb)
    have hs : spreadR l dom 0 S = [S] := by show [goR l l.length S] = _; rw [e1]
    rw [hs] at hpre ⊢
    refine YieldR.mono (hy pre S [AtR b] F Y hjY ⟨S,b,by simp,rfl,fY⟩ hpre) ?_
    rintro v Z (⟨rfl,F',hJZ,hKZ⟩ | ⟨rfl,F',hJZ⟩)
    · exact .inl ⟨rfl,F',hJZ,(KeepsG.grown (F := fun k => F k ∨ k = b) gY (.inr rfl)).trans (hKZ.weak fun k h => .inl h)⟩
    · exact .inr ⟨rfl,_,F',hpre,hJZ⟩
  | succ n ih =>
    intro S b pre F X hn hm hp fX hb hFb hj hq hdm hpre
    refine calls_of_E (S := sg 41) (sgOk _) (args := [AtR b,.slice q l.length cap,.slice p dom.length cd,.func (.yield yl) #[] #[]]) Tryz.func147 rfl rfl (Nat.le_of_ble_eq_true rfl) rfl ?_
    obtain ⟨T,hT⟩ : ∃ T,T = goR l l.length S := ⟨_,rfl⟩
    refine Calls.mono (proceed_c fX hq.row (fun a ha => by have := (hq.out a ha).1; omega) h12 hx hm hp) ?_
    rintro e Y ⟨rfl,fY,gY,tm,tp,tpp⟩
    rw [← hT] at fY tm tp tpp ⊢
    have hjY := hJ.step _ _ _ _ hj (StepG.grown gY (.inl hb) hFb)
    have hXn := hn0 _ _ _ hj
    have kY : KeepsG (fun k => F k ∨ k = b) F X Y := ⟨gY.os,gY.tape,gY.output,gY.size,fun k hk hf => gY.block k hk (fun e => hf (.inr (by cases e; rfl))),fun k h => .inl (.inl h)⟩
    have hqY := hq.keep hXn kY (fun k hk h => h.resolve_right (by omega))
    have hdY := hdm.keep hXn kY (fun k hk h => h.resolve_right (by omega))
    cases hg : l[T.pc]? with
    | none =>
      refine brT ?_
      have hs : spreadR l dom (n + 1) S = [T] := by
        show (match l[(goR l l.length S).pc]? with | none => [goR l l.length S] | some x => _) = _
        rw [← hT,hg]
      rw [hs] at hpre ⊢
      refine YieldR.mono (hy pre T [AtR b] F Y hjY ⟨T,b,by simp,rfl,fY⟩ hpre) ?_
      rintro v Z (⟨rfl,F',hJZ,hKZ⟩ | ⟨rfl,F',hJZ⟩)
      · exact .inl ⟨rfl,F',hJZ,kY.trans hKZ⟩
      · exact .inr ⟨rfl,_,F',hpre,hJZ⟩
    | some x =>
      have hi : T.pc < l.length := (List.getElem?_eq_some_iff.1 hg).1
      have hxe : l[T.pc] = x := by rw [List.getElem?_eq_getElem hi] at hg; exact Option.some.inj hg
      have hxi : ExOk x := by rw [← hxe]; exact hx _ (List.getElem_mem hi)
      refine brF ?_
      have hs : spreadR l dom (n + 1) S = dom.flatMap fun v => spreadR l dom n (execR T x v) := by
        show (match l[(goR l l.length S).pc]? with | none => [goR l l.length S] | some x => _) = _
        rw [← hT,hg]
      rw [hs] at hpre ⊢
      refine ⟨Nat × (Nat → Prop),fun s => ⟨[(0,AtR b),(1,.slice q l.length cap),(2,.slice p dom.length cd),(3,.func (.yield yl) #[] #[]),(19,.slice p dom.length cd),(20,i64 dom.length),(21,i64 (s.1 : Nat))],[]⟩,
        fun s Z => s.1 ≤ dom.length ∧ J (pre ++ (dom.take s.1).flatMap fun v => spreadR l dom n (execR T x v)) s.2 Z ∧ RunH Z b T ∧ ¬ s.2 b ∧ RowF insE n0 s.2 Z q l ∧ RowF byteE n0 s.2 Z p dom ∧ KeepsG (fun k => F k ∨ k = b) s.2 X Z,fun s => dom.length - s.1,(0,F),
        ⟨.cons rfl (.cons rfl (.cons rfl (.cons rfl (.cons rfl (.cons rfl (.cons rfl .nil)))))),rfl⟩,⟨Nat.zero_le _,by rw [List.take_zero]; show J (pre ++ []) F Y; rw [List.append_nil]; exact hjY,fY,hFb,hqY,hdY,kY⟩,?_⟩
      clear fY gY hjY hqY hdY kY
      rintro ⟨k,G⟩ Z ⟨hk,hjZ,fZ,hGb,hqZ,hdZ,kZ⟩
      dsimp only at hk hjZ hGb hqZ hdZ kZ ⊢
      have hZn := hn0 _ _ _ hjZ
      refine And.intro (fun hc => ?_) (fun hc => ?_)
      · have hc : (k : Int) < (dom.length : Int) := of_decide_eq_true hc
        have hkd : k < dom.length := by omega
        obtain ⟨bp,op,hpe,hlp,hatp⟩ := hdZ.row.at hkd
        have hqr := hqZ
        obtain ⟨bq,oq,hqe,hlq,hatq⟩ := hqZ.row.at hi
        have ep : some (Value.slice p dom.length cd) = some (Value.slice (some ⟨bp,op,none⟩) dom.length cd) := by rw [hpe]
        subst hpe
        refine ⟨k,rfl,hkd,?_⟩
        refine ⟨u8 dom[k],by have := cells_at (hatp k hkd) (i := 0) (v := u8 dom[k]) rfl; exact this,?_⟩
        refine ⟨runC T,runC_len _,cells_block fZ,hlt fZ,?_⟩
        refine store_new (X := Z) (v := .agg (runC T).toArray) (ttOk.get 195 _ rfl) (runC_len _) ztrun_len (runC_one _) fun V hbV fV sV => ?_
        subst hqe
        have fV : RunH V Z.heap.size T := fV
        refine ⟨_,cells_at (cells_block fV) (i := 0) rfl,?_⟩
        refine ⟨T.pc,rfl,hi,?_⟩
        refine ⟨insE.enc x,rfl,by rw [← hxe]; exact cells_below hbV (hatq T.pc hi),Nat.lt_of_lt_of_le hlq hbV.size,?_⟩
        refine Calls.mono (execute_c (v := dom[k]) fV (by omega) (by omega) hxi) ?_
        rintro e U ⟨rfl,fU,gU⟩
        obtain ⟨x1,x2⟩ := exec_ok (R := T) (v := dom[k]) hxi
        have hGn : ¬ G Z.heap.size := fun h => by have := (hJ.lt _ _ _ _ hjZ h).1; omega
        have hjU := hJ.step _ _ _ _ (hJ.step _ _ _ _ hjZ (StepG.below hbV)) (StepG.grown gU (.inl hZn) hGn)
        have hbU : Below Z.heap.size Z U := hbV.trans (below_grown gU hbV.size (Nat.le_refl _))
        have kU : KeepsG G G Z U := KeepsG.below hbU fun k h => .inl h
        have hqU := hqr.keep hZn kU (fun k _ h => h)
        have hdU := hdZ.keep hZn kU (fun k _ h => h)
        have hdk : dom.flatMap (fun v => spreadR l dom n (execR T x v)) = (dom.take k).flatMap (fun v => spreadR l dom n (execR T x v)) ++ (spreadR l dom n (execR T x dom[k]) ++ (dom.drop (k + 1)).flatMap fun v => spreadR l dom n (execR T x v)) := by
          have e : dom = dom.take k ++ dom[k] :: dom.drop (k + 1) := by rw [List.getElem_cons_drop,List.take_append_drop]
          have e2 : (dom.take k ++ dom[k] :: dom.drop (k + 1)).flatMap (fun v => spreadR l dom n (execR T x v)) = (dom.take k).flatMap (fun v => spreadR l dom n (execR T x v)) ++ (spreadR l dom n (execR T x dom[k]) ++ (dom.drop (k + 1)).flatMap fun v => spreadR l dom n (execR T x v)) := by
            rw [List.flatMap_append,List.flatMap_cons]
          rw [← e] at e2
          exact e2
        have hpk : ((pre ++ (dom.take k).flatMap fun v => spreadR l dom n (execR T x v)) ++ spreadR l dom n (execR T x dom[k])) <+: xs := by
          refine List.IsPrefix.trans ?_ hpre
          rw [hdk]
          exact ⟨(dom.drop (k + 1)).flatMap fun v => spreadR l dom n (execR T x v),by simp only [List.append_assoc]⟩
        have htk : (dom.take (k + 1)).flatMap (fun v => spreadR l dom n (execR T x v)) = (dom.take k).flatMap (fun v => spreadR l dom n (execR T x v)) ++ spreadR l dom n (execR T x dom[k]) := by
          rw [List.take_succ_eq_append_getElem hkd,List.flatMap_append,List.flatMap_cons,List.flatMap_nil,List.append_nil]
        refine Calls.mono (ih (execR T x dom[k]) Z.heap.size (pre ++ (dom.take k).flatMap fun v => spreadR l dom n (execR T x v)) G U (by rw [x1]; omega) (by rw [x1,x2]; omega) (by rw [x1]; omega) fU hZn hGn hjU hqU hdU hpk) ?_
        rintro e V' (⟨rfl,F',hjV,kV⟩ | ⟨rfl,pre',F',hp',hjx⟩)
        · refine brF ?_
          have kW : KeepsG G F' Z V' := ⟨kV.os.trans kU.os,kV.tape.trans kU.tape,kV.output.trans kU.output,Nat.le_trans kU.size kV.size,fun i hi hf => (kV.same i (Nat.lt_of_lt_of_le hi kU.size) (fun h => by
            rcases h with h | h
            · exact hf h
            · omega)).trans (kU.same i hi hf),fun i h => by
            have := kU.size
            rcases kV.fp i h with (h2 | h2) | h2
            · exact .inl h2
            · exact .inr (by omega)
            · exact .inr (by omega)⟩
          have hbZ := hlt fZ
          refine ⟨((k + 1 : Nat) : Int),(wrap_i64 (by omega)).trans (by omega),?_⟩
          refine ⟨(k + 1,F'),⟨.cons rfl (.cons rfl (.cons rfl (.cons rfl (.cons rfl (.cons rfl (.cons rfl .nil)))))),rfl⟩,⟨hkd,?_,(kW.same b hbZ hGb).trans fZ,fun h => ?_,hqr.keep hZn kW (fun _ _ h => h),hdZ.keep hZn kW (fun _ _ h => h),kZ.trans kW⟩,by show dom.length - (k + 1) < dom.length - k; omega⟩
          · show J (pre ++ (dom.take (k + 1)).flatMap fun v => spreadR l dom n (execR T x v)) F' V'
            rw [htk,← List.append_assoc]
            exact hjV
          · rcases kW.fp b h with h2 | h2
            · exact hGb h2
            · omega
        · refine brT ?_
          exact .inr ⟨rfl,pre',F',hp',hjx⟩
      · have hc : ¬ (k : Int) < (dom.length : Int) := of_decide_eq_false hc
        obtain rfl : k = dom.length := by omega
        rw [List.take_length] at hjZ
        exact .inl ⟨rfl,G,hjZ,kZ⟩
theorem ends_c {bi bd : Nat} {W0 : World} (hl : SlR insE W0 q l) (hp : SlR byteE W0 p dom) (fi : W0.heap[bi]? = some (.cells #[.slice q l.length cap] 71 (0,0))) (fd : W0.heap[bd]? = some (.cells #[.slice p dom.length cd] 58 (0,0))) (hql : ∀ a,q = some a → a.block < W0.heap.size) (hpl : ∀ a,p = some a → a.block < W0.heap.size) (h12 : l.length ≤ 12) (hx : ∀ x ∈ l,ExOk x) (hd : dom.length ≤ 1000) :
    IterG Tryz.prog 146 [AtR bi,AtR bd] (endsR l dom) W0 (fun k => (k = bi ∨ k = bd) ∨ (∃ a,q = some a ∧ k = a.block) ∨ ∃ a,p = some a ∧ k = a.block) (fun _ => False) StR := by
  intro yl F0 J Jx W hsz hrd hrf hJ hJx hy h0
  refine calls_of_E (S := sg 9) (sgOk _) (args := [.func (.yield yl) #[] #[],AtR bi,AtR bd]) Tryz.func146 rfl rfl (Nat.le_of_ble_eq_true rfl) rfl ?_
  obtain ⟨X,hX⟩ : ∃ X,X = W.alloc (.cells (runC run0).toArray 195) := ⟨_,rfl⟩
  have hbX : Below W.heap.size W X := by rw [hX]; exact (Below.refl _ W).alloc (Nat.le_refl _) _
  have fX : RunH X W.heap.size run0 := by rw [hX]; exact hnew W _
  have ez : zt195 = runC run0 := by kernel_rfl
  have hX' : W.alloc (.cells (zt195).toArray 195) = X := by rw [hX,ez]
  have fiW := (hrd bi (.inl (.inl (.inl rfl)))).trans fi
  have fdW := (hrd bd (.inl (.inl (.inr rfl)))).trans fd
  have hjX := hJ.step _ _ _ _ h0 (StepG.below hbX)
  have hF : ¬ F0 W.heap.size := fun h => by have := (hJ.lt _ _ _ _ h0 h).1; omega
  have hlX : RowF insE W.heap.size F0 X q l := ⟨slr_same hl fun a ha => (hbX.block _ (by have := hql a ha; omega)).trans (hrd _ (.inl (.inr (.inl ⟨a,ha,rfl⟩)))),fun a ha => ⟨by have := hql a ha; omega,hrf _ (.inr (.inl ⟨a,ha,rfl⟩))⟩⟩
  have hpX : RowF byteE W.heap.size F0 X p dom := ⟨slr_same hp fun a ha => (hbX.block _ (by have := hpl a ha; omega)).trans (hrd _ (.inl (.inr (.inr ⟨a,ha,rfl⟩)))),fun a ha => ⟨by have := hpl a ha; omega,hrf _ (.inr (.inr ⟨a,ha,rfl⟩))⟩⟩
  refine ⟨_,by rw [hX']; exact cells_at (cells_block (block_below hbX fiW)) (i := 0) rfl,?_⟩
  refine ⟨_,by rw [hX']; exact cells_at (cells_block (block_below hbX fdW)) (i := 0) rfl,?_⟩
  rw [hX']
  have hJn : JG W.heap.size (fun _ => False) (fun pre F Z => J pre F Z ∧ W.heap.size ≤ Z.heap.size) := ⟨fun s F A B ⟨h,hn⟩ hs => ⟨hJ.step _ _ _ _ h hs,Nat.le_trans hn hs.size⟩,fun s F A k ⟨h,_⟩ hk => hJ.lt _ _ _ _ h hk⟩
  refine Calls.mono (spread_c (xs := endsR l dom) (Jx := Jx) hJn (fun _ _ _ h => h.2) (fun pre x vs F W1 ⟨hj,hn⟩ hst hpre => YieldR.mono (hy pre x vs F W1 hj hst hpre) fun v W2 h => ?_) h12 hx hd l.length run0 W.heap.size [] F0 X (Nat.le_refl _) (Nat.le_refl _) (Nat.zero_le _) fX (Nat.le_refl _) hF ⟨hjX,hbX.size⟩ hlX hpX (List.prefix_refl _)) ?_
  · rcases h with ⟨rfl,F',h1,h2⟩ | h
    · exact .inl ⟨rfl,F',⟨h1,Nat.le_trans hn h2.size⟩,h2⟩
    · exact .inr h
  · rintro e Y (⟨rfl,F',⟨hj,_⟩,_⟩ | ⟨rfl,pre',F',h1,h2⟩)
    · exact ⟨⟨_,rfl⟩,.inl ⟨F',hj⟩⟩
    · exact ⟨⟨_,rfl⟩,.inr ⟨pre',F',h1,h2⟩⟩
theorem endsF_c {w : World} : Calls Tryz.prog 128 #[.slice q l.length cap,.slice p dom.length cd] w fun e w' => e = .returned (.func (.func 146) #[] #[AtR w.heap.size,AtR (w.heap.size + 1)]) ∧ w'.heap[w.heap.size]? = some (.cells #[.slice q l.length cap] 71 (0,0)) ∧ w'.heap[w.heap.size + 1]? = some (.cells #[.slice p dom.length cd] 58 (0,0)) ∧ w'.heap.size = w.heap.size + 2 ∧ Below w.heap.size w w' := by
  refine calls_of_E (S := sg 6) (sgOk _) (args := [.slice q l.length cap,.slice p dom.length cd]) Tryz.func128 rfl rfl (Nat.le_of_ble_eq_true rfl) rfl ?_
  have s1 := World.size_alloc w (.cells #[.slice q l.length cap] 71)
  have h2 := hnew (w.alloc (.cells #[.slice q l.length cap] 71)) (.cells #[.slice p dom.length cd] 58)
  have s2 := World.size_alloc (w.alloc (.cells #[.slice q l.length cap] 71)) (.cells #[.slice p dom.length cd] 58)
  rw [s1] at h2 s2
  refine ⟨?_,hold _ (hnew w _),h2,s2,((Below.refl _ w).alloc (Nat.le_refl _) _).alloc (by simp) _⟩
  rw [← s1]; rfl
end
end Go.Proofs.YtkpcgpmimejimaaGreatDoor
namespace Go.Proofs.YtkpcgpmimejimaaGreatDoor
open Go.Vc Go.RowKit Go.Sei
theorem equalS {P : Program} {t e : TypeId} (hu : P.underlying t = some (.slice e)) (d : Nat) (a : Option Addr) (n c : Nat) (w : World) : (Op.equalIn (d + 1) t (.slice a n c) (.slice none 0 0)).run P w = .ok a.isNone w := by
 cases a <;> simp [Op.equalIn,run_underlying hu]
theorem lt_str {n m : Nat} (h : n < 256) (hm : Nat.ble 256 m = true) : n < m := Nat.lt_of_lt_of_le h (Nat.le_of_ble_eq_true hm)
theorem str_ex {s : ByteArray} {n : Nat} {K : UInt8 → Prop} (h : n < s.size) (k : ∀ u,K u) : ∃ u,s.data.toList[n]? = some u ∧ K u := by
 have h : n < s.data.toList.length := by simpa using h
 exact ⟨_,List.getElem?_eq_getElem h,k _⟩
theorem eqlS {P : Program} {t e : TypeId} (hu : P.underlying t = some (.slice e)) (x y : Operand) (a : Option Addr) (n c : Nat) (w : World) : (do eqGuard .eql t x y (.slice a n c) (.slice none 0 0); binOp .eql t (.slice a n c) (.slice none 0 0) : Sem Value).run P w = .ok (.bool a.isNone) w := by
 have h : (Op.equal t (.slice a n c) (.slice none 0 0)).run P w = .ok a.isNone w := by
  exact equalS hu 9999 a n c w
 have h1 : (eqGuard .eql t x y (.slice a n c) (.slice none 0 0)).run P w = .ok () w := by
  simp only [eqGuard,Bool.not_true,Bool.false_eq_true,if_false,Sem.run_pure]
 rw [Sem.run_bind,h1]
 simp only [Result.andThen_ok,binOp,Sem.run_bind,h,Sem.run_pure]
theorem own_made {α : Type} {E : Enc α} {T : TypeId} {w : World} : OwnS E T w.heap.size (w.alloc (.cells #[] T)) (some ⟨w.heap.size,0,none⟩) 0 [] := by
 unfold OwnS World.ownsRow
 exact ⟨by simp,.inr ⟨w.heap.size,0,#[],rfl,Nat.le_refl _,hnew w _,Nat.le_refl _,Nat.zero_le _,by simp,by simp⟩⟩
theorem Clone8_c {p : Option Addr} {cap : Nat} {l : List UInt8} {w : World} (hl : SlR byteE w p l) (hn : l.length ≤ 1000000) (hc : p = none → cap = 0) :
  Calls Tryz.prog 101 #[.slice p l.length cap] w fun e w' => (∃ q c,e = .returned (.slice q l.length c) ∧ OwnS byteE 5 w.heap.size w' q c l) ∧ Below w.heap.size w w' := by
 refine calls_of_E (S := sg 8) (sgOk _) (args := [.slice p l.length cap]) Tryz.func101 rfl rfl (Nat.le_of_ble_eq_true rfl) rfl ?_
 refine ⟨_,fun w => eqlS Tryz.underlying58 _ _ p l.length cap w,?_⟩
 cases p with
 | none =>
  refine brT ?_
  have e := hl.none
  subst e
  exact ⟨⟨none,0,rfl,OwnS.nil⟩,Below.refl _ _⟩
 | some a =>
  refine brF ?_
  refine ⟨⟨by decide,by decide,rfl⟩,[],rfl,?_⟩
  have hb0 : Below w.heap.size w (w.alloc (.cells #[] 5)) := (Below.refl _ w).alloc (Nat.le_refl _) _
  refine app_any (E := byteE) (T := 5) (B := w.heap.size) (l := []) (news := l) (cap := 0) Tryz.underlying58 (ttOk.get 5 _ rfl) rfl rfl rfl own_made rfl (hl.below hb0) (fun h => by cases h) hb0.size (by simp; omega) (by simp; omega) ?_
  intro p' cap' w' ho hg hbw
  exact ⟨⟨p',cap',rfl,ho⟩,hb0.trans hbw⟩
theorem nan8_c {x : UInt8} {w : World} : Calls Tryz.prog 195 #[u8 x] w fun e w' => e = .returned (.bool false) ∧ w = w' := by
 refine calls_of_E (S := sg 6) (sgOk _) (args := [u8 x]) Tryz.func195 rfl rfl (Nat.le_of_ble_eq_true rfl) rfl ?_
 refine ⟨rb ?_,rfl⟩
 rw [decide_eq_true rfl]; rfl
theorem less8_c {x y : UInt8} {w : World} : Calls Tryz.prog 177 #[u8 x,u8 y] w fun e w' => e = .returned (.bool (decide ((x.toNat : Int) < (y.toNat : Int)))) ∧ w = w' := by
 refine calls_of_E (S := sg 17) (sgOk _) (args := [u8 x,u8 y]) Tryz.func177 rfl rfl (Nat.le_of_ble_eq_true rfl) rfl ?_
 refine Calls.mono nan8_c ?_
 rintro e _ ⟨rfl,rfl⟩
 refine brF ?_
 refine brF ?_
 exact ⟨rfl,rfl⟩
def srt8 : List UInt8 → Bool
 | [] => true
 | [_] => true
 | x :: y :: r => decide (x.toNat ≤ y.toNat) && srt8 (y :: r)
theorem srt8_at : ∀ (l : List UInt8),srt8 l = true → ∀ (k : Nat) (h : k + 1 < l.length),(l[k]).toNat ≤ (l[k + 1]).toNat
 | [],_,k,h => by simp at h
 | [x],_,k,h => by simp at h
 | x :: y :: r,hs,k,h => by
  unfold srt8 at hs
  rw [Bool.and_eq_true,decide_eq_true_eq] at hs
  cases k with
  | zero => exact hs.1
  | succ k => exact srt8_at (y :: r) hs.2 k (by simpa using h)
section
variable {b o cap : Nat} {l : List UInt8} {w : World}
theorem insSort8_c (hl : SlR byteE w (some ⟨b,o,none⟩) l) (h12 : l.length ≤ 12) (hs : srt8 l = true) :
  Calls Tryz.prog 171 #[.slice (some ⟨b,o,none⟩) l.length cap,i64 0,i64 l.length] w fun e w' => e = .returned (.tuple #[]) ∧ Below w.heap.size w w' := by
 refine calls_of_E (S := sg 49) (sgOk _) (args := [.slice (some ⟨b,o,none⟩) l.length cap,i64 0,i64 l.length]) Tryz.func171 rfl rfl (Nat.le_of_ble_eq_true rfl) rfl ?_
 refine ⟨1,by decide,?_⟩
 refine ⟨Nat,fun k => ⟨[(0,.slice (some ⟨b,o,none⟩) l.length cap),(1,i64 0),(2,i64 l.length),(6,i64 (k + 1 : Nat))],[]⟩,fun k X => Below w.heap.size w X,fun k => l.length - k,0,
  ⟨.cons rfl (.cons rfl (.cons rfl (.cons rfl .nil))),rfl⟩,Below.refl _ _,?_⟩
 rintro k X hb
 refine And.intro (fun hc => ?_) (fun hc => ?_)
 ·have hc : ((k + 1 : Nat) : Int) < (l.length : Int) := of_decide_eq_true hc
  have hk : k + 1 < l.length := by omega
  refine ⟨Unit,fun _ => ⟨[(0,.slice (some ⟨b,o,none⟩) l.length cap),(1,i64 0),(2,i64 l.length),(6,i64 (k + 1 : Nat)),(7,i64 (k + 1 : Nat))],[]⟩,fun _ Y => Below w.heap.size w Y,fun _ => 0,(),⟨.cons rfl (.cons rfl (.cons rfl (.cons rfl (.cons rfl .nil)))),rfl⟩,hb,?_⟩
  rintro _ Y hbY
  have hbD : Below w.heap.size w Y.drew := hbY.drew
  refine DrawE.ord [] [0,1,2,3,4,5,6,7,8,9,10,11,12,13,14] (by kernel_rfl) ?_
  refine brE (decide_eq_true (by omega)) ?_
  obtain ⟨b',o',hp,hlt',hat⟩ := (hl.below hbD).at hk
  simp only [Option.some.injEq,Addr.mk.injEq,and_true] at hp
  obtain ⟨rfl,rfl⟩ := hp
  refine ⟨k + 1,rfl,hk,?_⟩
  refine ⟨u8 l[k + 1],by have := cells_at (hat (k + 1) hk) (i := 0) (v := u8 l[k + 1]) rfl; exact this,?_⟩
  refine ⟨(k : Nat),(wrap_i64 (by omega)).trans (by omega),?_⟩
  refine ⟨k,rfl,by omega,?_⟩
  refine ⟨u8 l[k],by have := cells_at (hat k (by omega)) (i := 0) (v := u8 l[k]) rfl; exact this,?_⟩
  refine Calls.mono less8_c ?_
  rintro e _ ⟨rfl,rfl⟩
  refine ⟨Below.refl _ _,?_⟩
  have hle := srt8_at l hs k hk
  refine brN (decide_eq_false (by omega)) ?_
  refine ⟨((k + 1 + 1 : Nat) : Int),(wrap_i64 (by omega)).trans (by omega),?_⟩
  exact ⟨k + 1,⟨.cons rfl (.cons rfl (.cons rfl (.cons rfl .nil))),rfl⟩,hbD,by show l.length - (k + 1) < l.length - k; omega⟩
 ·exact ⟨rfl,hb⟩
theorem pdq8_c {m : Int} (hl : SlR byteE w (some ⟨b,o,none⟩) l) (h12 : l.length ≤ 12) (hs : srt8 l = true) :
  Calls Tryz.prog 144 #[.slice (some ⟨b,o,none⟩) l.length cap,i64 0,i64 l.length,i64 m] w fun e w' => e = .returned (.tuple #[]) ∧ Below w.heap.size w w' := by
 refine calls_of_E (S := sg 134) (sgOk _) (args := [.slice (some ⟨b,o,none⟩) l.length cap,i64 0,i64 l.length,i64 m]) Tryz.func144 rfl rfl (Nat.le_of_ble_eq_true rfl) rfl ?_
 refine ⟨Unit,fun _ => ⟨[(0,.slice (some ⟨b,o,none⟩) l.length cap),(1,i64 0),(2,i64 l.length),(3,i64 m)],[]⟩,fun _ X => w = X,fun _ => 0,(),⟨.cons rfl (.cons rfl (.cons rfl (.cons rfl .nil))),rfl⟩,rfl,?_⟩
 rintro _ _ rfl
 refine ⟨(l.length : Nat),(wrap_i64 (by omega)).trans (by omega),?_⟩
 refine brE (decide_eq_true (by omega)) ?_
 refine Calls.mono (insSort8_c hl h12 hs) ?_
 rintro e X ⟨rfl,hb⟩
 exact ⟨rfl,hb⟩
theorem Len64_c {n : Nat} (h : n < 256) : Calls Tryz.prog 181 #[.int .u64 (n : Nat)] w fun e w' => (∃ m : Int,e = .returned (i64 m)) ∧ w = w' := by
 refine calls_of_E (S := sg 25) (sgOk _) (args := [.int .u64 (n : Nat)]) Tryz.func181 rfl rfl (Nat.le_of_ble_eq_true rfl) rfl ?_
 refine brN (decide_eq_false (by omega)) ?_
 refine brN (decide_eq_false (by omega)) ?_
 refine brN (decide_eq_false (by omega)) ?_
 refine ⟨(n : Nat),wrap_u8 (by omega),?_⟩
 refine ⟨n,rfl,lt_str h (by kernel_rfl),?_⟩
 refine str_ex (lt_str h (by kernel_rfl)) fun u => ?_
 refine ⟨_,rfl,?_⟩
 refine ⟨_,rfl,?_⟩
 exact ⟨⟨_,rfl⟩,rfl⟩
theorem bitsLen_c {n : Nat} (h : n < 256) : Calls Tryz.prog 145 #[.int .u64 (n : Nat)] w fun e w' => (∃ m : Int,e = .returned (i64 m)) ∧ w = w' := by
 refine calls_of_E (S := sg 8) (sgOk _) (args := [.int .u64 (n : Nat)]) Tryz.func145 rfl rfl (Nat.le_of_ble_eq_true rfl) rfl ?_
 refine brF ?_
 refine Calls.mono (Len64_c h) ?_
 rintro e _ ⟨⟨m,rfl⟩,rfl⟩
 exact ⟨⟨m,rfl⟩,rfl⟩
theorem Sort8_c (hl : SlR byteE w (some ⟨b,o,none⟩) l) (h12 : l.length ≤ 12) (hs : srt8 l = true) :
  Calls Tryz.prog 126 #[.slice (some ⟨b,o,none⟩) l.length cap] w fun e w' => e = .returned (.tuple #[]) ∧ Below w.heap.size w w' := by
 refine calls_of_E (S := sg 11) (sgOk _) (args := [.slice (some ⟨b,o,none⟩) l.length cap]) Tryz.func126 rfl rfl (Nat.le_of_ble_eq_true rfl) rfl ?_
 refine ⟨(l.length : Nat),wrap_u64 (by omega),?_⟩
 refine Calls.mono (bitsLen_c (by omega)) ?_
 rintro e _ ⟨⟨m,rfl⟩,rfl⟩
 refine Calls.mono (pdq8_c hl h12 hs) ?_
 rintro e X ⟨rfl,hb⟩
 exact ⟨rfl,hb⟩
end
end Go.Proofs.YtkpcgpmimejimaaGreatDoor
namespace Go.Proofs.YtkpcgpmimejimaaGreatDoor
open Go.Vc Go.RowKit Go.Sei
section
variable {r : RelD}
theorem all_c {bx : Nat} {W0 : World} (hr : WrdR r.to) (hn : r.n ≤ 48) (fx : RelH W0 bx r) (hT : Tz64M W0) :
  IterG Tryz.prog 185 [At0 bx] (ordR r) W0 (fun k => k = bx ∨ k = 0) (fun _ => False) StO := by
 intro yl F0 J Jx W hsz hrd hrf hJ hJx hy h0
 have fxW : RelH W bx r := (hrd bx (.inl (.inl rfl))).trans fx
 have hTW : Tz64M W := tz64_same hT (hrd _ (.inl (.inr rfl)))
 refine calls_of_E (S := sg 17) (sgOk _) (args := [.func (.yield yl) #[] #[],At0 bx]) Tryz.func185 rfl rfl (Nat.le_of_ble_eq_true rfl) rfl ?_
 refine ⟨relC r,relC_len _,cells_block fxW,hlt fxW,?_⟩
 refine Calls.mono (Acyclic_c hr hTW) ?_
 rintro e X ⟨rfl,hbX⟩
 refine And.intro (fun h => ?_) (fun h => ?_)
 ·have h : acyR r = false := by
   have h : (!acyR r) = true := h
   simpa using h
  have hs : ordR r = [] := by unfold ordR; rw [h]; rfl
  rw [hs]
  exact ⟨⟨_,rfl⟩,.inl ⟨F0,hJ.step _ _ _ _ h0 (.below hbX)⟩⟩
 have h : acyR r = true := by
  have h : (!acyR r) = false := h
  simpa using h
 have hs : ordR r = extR (backR r).to 64 (allM r.n) [] := by unfold ordR; rw [h]; rfl
 rw [hs] at hy ⊢
 refine ⟨relC r,relC_len _,cells_block (block_below hbX fxW),hlt (block_below hbX fxW),?_⟩
 refine Calls.mono (Back_c hr (hTW.below hbX)) ?_
 rintro e Y ⟨rfl,hbY,hrB⟩
 have hbXY := hbX.trans (hbY.mono hbX.size)
 refine store_new (X := Y) (v := .agg (relC (backR r)).toArray) (ttOk.get 27 _ rfl) (relC_len _) (by kernel_rfl) (relC_one _) fun V hbV fV sV => ?_
 have hbV2 := hbXY.trans (hbV.mono hbXY.size)
 have fxV := block_below hbV2 fxW
 have hTV := hTW.below hbV2
 have hok : okR r = true := by
  unfold acyR topF at h
  split at h
  ·assumption
  ·simp at h
 obtain ⟨p0,p48,_⟩ := okR_parts hok
 obtain ⟨n,hnn⟩ : ∃ n : Nat,r.n = n := ⟨r.n.toNat,by omega⟩
 have hn48 : n ≤ 48 := by omega
 have hal : els (allN n) = List.range n := els_all (by omega)
 have wY := hbXY.size
 have hbVF : ¬ F0 Y.heap.size := fun h => by have := (hJ.lt _ _ _ _ h0 h).1; omega
 have htl := tz64_in hTW
 have hJn : JG W.heap.size (fun _ => False) (fun pre F Z => J pre F Z ∧ W.heap.size ≤ Z.heap.size) := ⟨fun s F A B ⟨h,hn⟩ hs => ⟨hJ.step _ _ _ _ h hs,Nat.le_trans hn hs.size⟩,fun s F A k ⟨h,_⟩ hk => hJ.lt _ _ _ _ h hk⟩
 have hal2 : allM r.n = allN n := by rw [allM_eq,hnn]
 have main : ∀ Z : World,OwnS natE 3 V.heap.size Z (some ⟨V.heap.size,0,none⟩) n [] → Below V.heap.size V Z → Calls Tryz.prog 186 #[At0 Y.heap.size,s64 (allN n),.slice (some ⟨V.heap.size,0,none⟩) 0 n,.func (.yield yl) #[] #[]] Z fun e Y2 => (∃ v,e = .returned v) ∧ ((∃ F',J (extR (backR r).to 64 (allM r.n) []) F' Y2) ∨ ∃ pre F',pre <+: extR (backR r).to 64 (allM r.n) [] ∧ Jx pre F' Y2) := by
  intro Z oZ hbZ
  have hbWZ : Below W.heap.size W Z := hbV2.trans (hbZ.mono hbV2.size)
  refine Calls.mono (extend_c (l := []) (J := fun pre F Z => J pre F Z ∧ W.heap.size ≤ Z.heap.size) (Jx := Jx) (n0 := W.heap.size) (n := n) (bB := Y.heap.size) (r := backR r) (xs := extR (backR r).to 64 (allM r.n) []) hJn (fun _ _ _ h => h.2) (fun pre x vs F W1 ⟨hj,hn⟩ hst hpre => YieldR.mono (hy pre x vs F W1 hj hst hpre) fun v W2 h => ?_) hrB hn48 htl 64 (allN n) V.heap.size [] F0 Z (els_len _) (allN_lt _) (fun i hi => by
   rw [hal] at hi
   have := List.mem_range.1 hi
   omega) (by rw [hal]; simp) (oZ.lower hbV2.size) (fun h => ?_) ⟨hJ.step _ _ _ _ h0 (.below hbWZ),hbWZ.size⟩ (block_below hbZ fV) hbVF wY (by omega) (hTV.below hbZ) (hrf _ (.inr rfl)) (by rw [hal2]; exact List.prefix_refl _)) ?_
  ·rcases h with ⟨rfl,F',h1,h2⟩ | h
   ·exact .inl ⟨rfl,F',⟨h1,Nat.le_trans hn h2.size⟩,h2⟩
   ·exact .inr h
  ·have := (hJ.lt _ _ _ _ h0 h).1
   have := hbV2.size
   omega
  ·rintro e Y2 (⟨rfl,F',⟨hj,_⟩,_⟩ | ⟨rfl,pre',F',h1,h2⟩)
   ·rw [hal2]
    exact ⟨⟨_,rfl⟩,.inl ⟨F',hj⟩⟩
   ·exact ⟨⟨_,rfl⟩,.inr ⟨pre',F',h1,h2⟩⟩
 refine DrawE.treeQ [7] (.op 0 (.op 1 (.op 3 (.op 4 (.op 6 (.alt (.op 2 (.op 5 (.op 7 .nil))) (.op 5 (.op 2 (.op 7 .nil))))))))) (by kernel_rfl) ?_
 refine ⟨i64 n,by rw [← hnn]; exact cells_at (cells_block fxV) (i := 0) rfl,?_⟩
 refine ⟨i64 n,by rw [← hnn]; exact cells_at (cells_block fxV) (i := 0) rfl,?_⟩
 refine And.intro ?_ ?_
 ·refine Calls.mono All_c ?_
  rintro e _ ⟨rfl,rfl⟩
  refine ⟨Below.refl _ _,?_⟩
  refine make_own (E := natE) Tryz.underlying95 (ttOk.get 3 _ rfl) rfl rfl rfl n (by show 8 * n ≤ _; omega) (by unfold maxLen; omega) fun Z oZ hbZ sZ => ?_
  refine ⟨hbZ,?_⟩
  refine Calls.mono (main Z oZ (((Below.refl _ V).drew).trans hbZ)) ?_
  rintro e Y2 ⟨⟨v,rfl⟩,h⟩
  exact ⟨⟨_,rfl⟩,h⟩
 ·refine make_own (E := natE) Tryz.underlying95 (ttOk.get 3 _ rfl) rfl rfl rfl n (by show 8 * n ≤ _; omega) (by unfold maxLen; omega) fun Z oZ hbZ sZ => ?_
  refine ⟨hbZ,?_⟩
  refine Calls.mono All_c ?_
  rintro e _ ⟨rfl,rfl⟩
  refine ⟨Below.refl _ _,?_⟩
  refine Calls.mono (main Z oZ (((Below.refl _ V).drew).trans hbZ)) ?_
  rintro e Y2 ⟨⟨v,rfl⟩,h⟩
  exact ⟨⟨_,rfl⟩,h⟩
theorem allF_c {w : World} : Calls Tryz.prog 151 #[.agg (relC r).toArray] w fun e w' => e = .returned (.func (.func 185) #[] #[At0 w.heap.size]) ∧ RelH w' w.heap.size r ∧ w'.heap.size = w.heap.size + 1 ∧ Below w.heap.size w w' := by
 refine calls_of_E (S := sg 4) (sgOk _) (args := [.agg (relC r).toArray]) Tryz.func151 rfl rfl (Nat.le_of_ble_eq_true rfl) rfl ?_
 exact ⟨rfl,hnew w _,World.size_alloc _ _,(Below.refl _ w).alloc (Nat.le_refl _) _⟩
theorem validO_c {b : Nat} {m : Nat} {w : World} (hr : WrdR r.to) (fb : RelH w b r) : Calls Tryz.prog 150 #[At0 b,i64 m] w fun e w' => e = .returned (.bool (decide (m ≤ 10000) && okR r)) ∧ Below w.heap.size w w' := by
 refine calls_of_E (S := sg 17) (sgOk _) (args := [At0 b,i64 m]) Tryz.func150 rfl rfl (Nat.le_of_ble_eq_true rfl) rfl ?_
 refine And.intro (fun h => ?_) (fun h => ?_)
 ·refine And.intro (fun h2 => ?_) (fun h2 => ?_)
  ·have h2 : (m : Int) ≤ 10000 := of_decide_eq_true h2
   refine ⟨relC r,relC_len _,cells_block fb,hlt fb,?_⟩
   refine Calls.mono (rel_Right_c hr) ?_
   rintro e Y ⟨rfl,hbY⟩
   exact ⟨rb (by rw [decide_eq_true (show m ≤ 10000 by omega),Bool.true_and]),hbY⟩
  ·have h2 : ¬ (m : Int) ≤ 10000 := of_decide_eq_false h2
   exact ⟨rb (by rw [decide_eq_false (show ¬ m ≤ 10000 by omega),Bool.false_and]),Below.refl _ _⟩
 ·have h : ¬ (0 : Int) ≤ m := of_decide_eq_false h
  omega
end
def natLE : Enc (List Nat × Option Addr × Nat) where
 sz := 1
 enc x := [.slice x.2.1 x.1.length x.2.2]
 len x := rfl
 one x v hv := by
  simp at hv
  subst hv
  rfl
 pos := by decide
theorem CloneI_c {p : Option Addr} {cap : Nat} {l : List Nat} {w : World} (hl : SlR natE w p l) (hn : l.length ≤ 100000) (hc : p = none → cap = 0) :
  Calls Tryz.prog 152 #[.slice p l.length cap] w fun e w' => (∃ q c,e = .returned (.slice q l.length c) ∧ OwnS natE 3 w.heap.size w' q c l) ∧ Below w.heap.size w w' := by
 refine calls_of_E (S := sg 8) (sgOk _) (args := [.slice p l.length cap]) Tryz.func152 rfl rfl (Nat.le_of_ble_eq_true rfl) rfl ?_
 refine ⟨_,fun w => eqlS Tryz.underlying95 _ _ p l.length cap w,?_⟩
 cases p with
 | none =>
  refine brT ?_
  have e := hl.none
  subst e
  exact ⟨⟨none,0,rfl,OwnS.nil⟩,Below.refl _ _⟩
 | some a =>
  refine brF ?_
  refine ⟨⟨by decide,by decide,rfl⟩,[],rfl,?_⟩
  have hb0 : Below w.heap.size w (w.alloc (.cells #[] 3)) := (Below.refl _ w).alloc (Nat.le_refl _) _
  refine app_any (E := natE) (T := 3) (B := w.heap.size) (l := []) (news := l) (cap := 0) Tryz.underlying95 (ttOk.get 3 _ rfl) rfl rfl rfl own_made rfl (hl.below hb0) (fun h => by cases h) hb0.size (by simp; omega) (by show (0 + l.length) * 8 ≤ _; omega) ?_
  intro p' cap' w' ho hg hbw
  exact ⟨⟨p',cap',rfl,ho⟩,hb0.trans hbw⟩
def NInI (B : Nat) (F : Nat → Prop) (Y : World) (x : List Nat × Option Addr × Nat) : Prop := OwnS natE 3 B Y x.2.1 x.2.2 x.1 ∧ ∀ a,x.2.1 = some a → F a.block
theorem ninI_keep (B : Nat) : NKeep 95 131 (NInI B) := by
 rintro F G Y Z x ⟨h1,h2⟩ hs hFG
 refine ⟨h1.same fun a ha => ?_,fun a ha => hFG _ (h2 a ha)⟩
 obtain ⟨_,_,cur,hc⟩ := own_at h1 ha
 exact hs _ cur 3 (h2 a ha) hc (by decide) (by decide)
theorem ext_len {before : Nat → Nat} : ∀ (m left : Nat) (l : List Nat),∀ x ∈ extR before m left l,x.length ≤ l.length + m := by
 intro m
 induction m with
 | zero =>
  intro left l x hx
  unfold extR at hx
  split at hx
  ·simp only [List.mem_singleton] at hx
   subst hx
   omega
  ·cases hx
 | succ m ih =>
  intro left l x hx
  unfold extR at hx
  split at hx
  ·simp only [List.mem_singleton] at hx
   subst hx
   omega
  ·obtain ⟨a,_,ha⟩ := List.mem_flatMap.1 hx
   split at ha
   ·have := ih _ _ _ ha
    simp only [List.length_append,List.length_cons,List.length_nil] at this
    omega
   ·cases ha
theorem ord_len {r : RelD} {x : List Nat} (h : x ∈ ordR r) : x.length ≤ 64 := by
 unfold ordR at h
 split at h
 ·have := ext_len _ _ _ x h
  simpa using this
 ·cases h
def AscB (xs : List (List Nat × Option Addr × Nat)) : Prop := xs.Pairwise fun x y => ∀ a b,x.2.1 = some a → y.2.1 = some b → a.block < b.block
theorem AscB.snoc {xs : List (List Nat × Option Addr × Nat)} {n : Nat} {y : List Nat × Option Addr × Nat} (h : AscB xs) (h1 : ∀ x ∈ xs,∀ a,x.2.1 = some a → a.block < n) (h2 : ∀ a,y.2.1 = some a → n ≤ a.block) : AscB (xs ++ [y]) := by
 unfold AscB
 rw [List.pairwise_append]
 refine ⟨h,List.pairwise_singleton _ _,fun x hx z hz a b ha hb => ?_⟩
 rw [List.mem_singleton.1 hz] at hb
 exact Nat.lt_of_lt_of_le (h1 x hx a ha) (h2 b hb)
abbrev nilNL : List (List Nat × Option Addr × Nat) := []
theorem Orders_c {r : RelD} {m : Nat} {w : World} (hr : WrdR r.to) (hT : Tz64M w) (hm : m ≤ 10000) (hok : okR r = true) :
  Calls Tryz.prog 136 #[.agg (relC r).toArray,i64 m] w fun e w' =>
   (((ordR r).length ≤ m ∧ ∃ (xs : List (List Nat × Option Addr × Nat)) (p : Option Addr) (c : Nat),e = .returned (.tuple #[.slice p xs.length c,i64 0]) ∧ xs.map (·.1) = ordR r ∧ AscB xs ∧ OwnS natLE 95 w.heap.size w' p c xs ∧ ∀ x ∈ xs,OwnS natE 3 w.heap.size w' x.2.1 x.2.2 x.1) ∨
    (m < (ordR r).length ∧ e = .returned (.tuple #[.slice none 0 0,i64 5]))) ∧ Below w.heap.size w w' := by
 refine calls_of_M (S := sg 24) (sgOk _) (args := [.agg (relC r).toArray,i64 m]) (.c .p (.s .p (.c .p .p))) Tryz.func136 rfl rfl (Nat.le_of_ble_eq_true rfl) rfl ?_
 obtain ⟨L,hL⟩ : ∃ L,L = w.heap.size := ⟨_,rfl⟩
 refine ⟨Unit,fun _ => ⟨[(2,At0 L),(3,At0 (L + 1)),(4,At0 (L + 2)),(5,At0 (L + 3))],[]⟩,fun _ X => (RelH X L r ∧ X.heap[L + 1]? = some (.cells #[i64 m] 3 (0,0)) ∧ X.heap[L + 2]? = some (.cells #[.slice none 0 0] 131 (0,0)) ∧ X.heap[L + 3]? = some (.cells #[i64 0] 40 (0,0))) ∧ X.heap.size = L + 4 ∧ Below w.heap.size w X,?_,?_⟩
 ·have s1 := World.size_alloc w (.cells (relC r).toArray 27)
  have h2 := hnew (w.alloc (.cells (relC r).toArray 27)) (.cells #[i64 m] 3 (0,0))
  have s2 := World.size_alloc (w.alloc (.cells (relC r).toArray 27)) (.cells #[i64 m] 3 (0,0))
  have h3 := hnew ((w.alloc (.cells (relC r).toArray 27)).alloc (.cells #[i64 m] 3 (0,0))) (.cells #[.slice none 0 0] 131 (0,0))
  have s3 := World.size_alloc ((w.alloc (.cells (relC r).toArray 27)).alloc (.cells #[i64 m] 3 (0,0))) (.cells #[.slice none 0 0] 131 (0,0))
  have h4 := hnew (((w.alloc (.cells (relC r).toArray 27)).alloc (.cells #[i64 m] 3 (0,0))).alloc (.cells #[.slice none 0 0] 131 (0,0))) (.cells #[i64 0] 40 (0,0))
  have s4 := World.size_alloc (((w.alloc (.cells (relC r).toArray 27)).alloc (.cells #[i64 m] 3 (0,0))).alloc (.cells #[.slice none 0 0] 131 (0,0))) (.cells #[i64 0] 40 (0,0))
  rw [s1] at h2 s2
  rw [s2] at h3 s3
  rw [s3] at h4 s4
  rw [← hL] at h2 s2 h3 s3 h4 s4
  have f0 := hold (.cells #[i64 0] 40 (0,0)) (hold (.cells #[.slice none 0 0] 131 (0,0)) (hold (.cells #[i64 m] 3 (0,0)) (hnew w (.cells (relC r).toArray 27))))
  rw [← hL] at f0
  refine ⟨(),⟨.cons (by rw [hL]; rfl) (.cons (by rw [hL,← s1]; rfl) (.cons (by rw [← s2]; rfl) (.cons (by rw [← s3]; rfl) .nil))),rfl⟩,⟨f0,hold _ (hold _ h2),hold _ h3,h4⟩,s4,?_⟩
  exact ((((Below.refl _ w).alloc (Nat.le_refl _) _).alloc (by simp) _).alloc (by simp; omega) _).alloc (by simp; omega) _
 rintro _ X ⟨⟨f0,f1,f2,f3⟩,sX,hbX⟩
 refine ⟨_,cells_at (cells_block f1) (i := 0) rfl,?_⟩
 refine Calls.mono (validO_c hr f0) ?_
 rintro e Y ⟨rfl,hbY⟩
 refine brN (by rw [hok,decide_eq_true hm]; rfl) ?_
 have hwY := hbX.trans (hbY.mono hbX.size)
 obtain ⟨M,hM⟩ : ∃ M,M = Y.heap.size := ⟨_,rfl⟩
 have hMX : L + 4 ≤ M := by have := hbY.size; omega
 refine ⟨Unit,fun _ => ⟨[(2,At0 L),(3,At0 (L + 1)),(4,At0 (L + 2)),(5,At0 (L + 3)),(6,At0 M)],[]⟩,fun _ V => V.heap[M]? = some (.cells #[.slice none 0 0] 131 (0,0)) ∧ V.heap.size = M + 1 ∧ Below X.heap.size X V,?_,?_⟩
 ·exact ⟨(),⟨.cons rfl (.cons rfl (.cons rfl (.cons rfl (.cons (by rw [hM]; rfl) .nil)))),rfl⟩,by rw [hM]; exact hnew Y _,by rw [hM]; exact World.size_alloc Y _,hbY.alloc hbY.size _⟩
 rintro _ V ⟨fM,sV,hbV⟩
 have hwV := hbX.trans (hbV.mono hbX.size)
 have f0 := block_below hbV f0
 have f1 := block_below hbV f1
 have f2 := block_below hbV f2
 have f3 := block_below hbV f3
 refine ⟨relC r,relC_len _,cells_block f0,hlt f0,?_⟩
 refine Calls.mono allF_c ?_
 rintro e W ⟨rfl,fx,sW,hbW⟩
 obtain ⟨p0,p48,_⟩ := okR_parts hok
 have hwW := hwV.trans (hbW.mono hwV.size)
 have htl := tz64_in hT
 have hI := all_c hr p48 fx (hT.below hwW)
 have f1 := block_below hbW f1
 have f2 := block_below hbW f2
 have f3 := block_below hbW f3
 have fM := block_below hbW fM
 have hwL : w.heap.size = L := hL.symm
 clear hbV hbY hwY hbX f0 sX
 refine rangeG (sgOk _) rfl (lb := #[At0 V.heap.size]) rfl rfl hI (Nat.le_refl _) (fun k hk => ⟨?_,rfl⟩) (fun pre vs W ⟨l,q,c,_,h,_⟩ => by rw [h]; rfl) (by decide)
  (fun k => k = M ∨ k = L + 2 ∨ k = L + 3)
  (fun pre F Z => (∃ xs,(xs.map (·.1) = pre ∧ pre.length ≤ m ∧ AscB xs) ∧ Gath natLE 95 131 (L + 4) W.heap.size M W (NInI (L + 4)) xs F Z) ∧ F (L + 2) ∧ F (L + 3))
  (fun ex pre F Z => ex = .ret ∧ m < (ordR r).length ∧ Z.heap[L + 2]? = some (.cells #[.slice none 0 0] 131 (0,0)) ∧ Z.heap[L + 3]? = some (.cells #[i64 5] 40 (0,0)) ∧ Below w.heap.size w Z ∧ W.heap.size ≤ Z.heap.size ∧ F (L + 2) ∧ F (L + 3) ∧ ∀ k,F k → k < Z.heap.size)
  (fun k hk => ?_) ⟨?_,?_⟩ (fun ex => ⟨?_,?_⟩) ?_ ?_ ?_ ?_
 ·rcases hk with (rfl | rfl) | h
  ·omega
  ·have := hwW.size; omega
  ·exact h.elim
 ·rcases hk with rfl | rfl <;> omega
 ·rintro pre F A C ⟨h,h2,h3⟩ hs
  exact ⟨(Gath.iter (σ := List (List Nat)) (f := fun pre xs => xs.map (·.1) = pre ∧ pre.length ≤ m ∧ AscB xs) (ninI_keep (L + 4)) (by omega)).step pre F A C h hs,h2,h3⟩
 ·rintro pre F A k ⟨h,_⟩ hk
  exact (Gath.iter (σ := List (List Nat)) (f := fun pre xs => xs.map (·.1) = pre ∧ pre.length ≤ m ∧ AscB xs) (ninI_keep (L + 4)) (by omega)).lt pre F A k h hk
 ·rintro pre F A C ⟨h1,h2,h3,h4,h5,h6,h7,h8,h9⟩ hs
  exact ⟨h1,h2,(hs.same _ (hlt h3) (.inr h7)).trans h3,(hs.same _ (hlt h4) (.inr h8)).trans h4,h5.trans ⟨hs.os,hs.tape,hs.output,hs.size,fun k hk => hs.same k (Nat.lt_of_lt_of_le hk h5.size) (.inl ⟨by omega,fun h => h⟩)⟩,Nat.le_trans h6 hs.size,h7,h8,fun k hk => Nat.lt_of_lt_of_le (h9 k hk) hs.size⟩
 ·rintro pre F A k ⟨h1,h2,h3,h4,h5,h6,h7,h8,h9⟩ hk
  exact ⟨h9 k hk,fun h => h⟩
 ·refine ⟨⟨nilNL,⟨rfl,Nat.zero_le _,List.Pairwise.nil⟩,⟨Nat.le_refl _,.inl rfl,fun k hk => ?_,⟨none,0,fM,OwnS.nil,fun a h => by cases h⟩,fun x hx => (by cases hx),Below.refl _ _⟩⟩,.inr (.inl rfl),.inr (.inr rfl)⟩
  rcases hk with rfl | rfl | rfl <;> omega
 ·rintro yl pre x vs F Y hyl hpre hJ ⟨l,q,c,hlast,rfl,hsl,hqc,hcel⟩ hfy ⟨lo,hlo⟩
  have hxR : x = l := by simpa using hlast
  subst hxR
  refine ⟨rfl,F,KeepsG.refl _ _,hJ,?_⟩
  rintro o Y2 hY2 ⟨⟨xs,⟨hxs,hpm,hasc⟩,hG⟩,hF2,hF3⟩
  have hpl : pre.length < (ordR r).length := by
   obtain ⟨t,ht⟩ := hpre
   rw [← ht]
   simp only [List.length_append,List.length_cons]
   omega
  have hxl : xs.length = pre.length := by rw [← hxs,List.length_map]
  have hmem : x ∈ ordR r := hpre.subset (by simp)
  have hlen := ord_len hmem
  have hslY : SlR natE Y2 q x := by
   rw [hY2]
   refine slr_same hsl fun a ha => heap_put_old fun e => ?_
   obtain ⟨cur,hcur⟩ := hcel a ha
   rw [e,hlo] at hcur
   cases hcur
  obtain ⟨p,c',h4,h5,h6⟩ := hG.row
  have hWL : L + 4 ≤ W.heap.size := by omega
  have g1 : Y2.heap[L + 1]? = some (.cells #[i64 m] 3 (0,0)) := (hG.old.block _ (by omega)).trans f1
  refine ⟨_,cells_at (cells_block h4) (i := 0) rfl,?_⟩
  refine ⟨_,cells_at (cells_block g1) (i := 0) rfl,?_⟩
  refine And.intro (fun hc => ?_) (fun hc => ?_)
  ·have hc : ((xs.length : Nat) : Int) = (m : Int) := of_decide_eq_true hc
   have g2 : Y2.heap[L + 2]? = some (.cells #[.slice none 0 0] 131 (0,0)) := (hG.old.block _ (by omega)).trans f2
   have g3 : Y2.heap[L + 3]? = some (.cells #[i64 0] 40 (0,0)) := (hG.old.block _ (by omega)).trans f3
   refine store_one (ttOk.get 131 _ rfl) g2 (o := 0) (v := .slice none 0 0) rfl rfl (by show 0 < 1; decide) rfl fun Z1 fZ1 gZ1 sZ1 => ?_
   refine store_one (ttOk.get 40 _ rfl) ((gZ1.block (L + 3) (hlt g3) (by simp)).trans g3) (o := 0) (v := i64 5) rfl rfl (by show 0 < 1; decide) rfl fun Z2 fZ2 gZ2 sZ2 => ?_
   refine ⟨F,⟨rfl,by omega,(gZ2.block (L + 2) (hlt fZ1) (by simp)).trans fZ1,fZ2,?_,by have := hG.size; omega,hF2,hF3,fun k hk => by have := hG.lt k hk; omega⟩,(KeepsG.grown gZ1 hF2).trans (KeepsG.grown gZ2 hF3)⟩
   have hwY := hwW.trans (hG.old.mono (by omega))
   exact (hwY.trans (below_grown gZ1 hwY.size (by omega))).trans (below_grown gZ2 (by have := hwY.size; omega) (by omega))
  ·have hc : ¬ ((xs.length : Nat) : Int) = (m : Int) := of_decide_eq_false hc
   refine DrawE.ord [4,5] [0,1,2,3,4,5] (by kernel_rfl) ?_
   have hd2 : Below Y2.heap.size Y2 Y2.drew := (Below.refl _ _).drew
   refine ⟨_,cells_at (cells_block (hdr h4)) (i := 0) rfl,?_⟩
   refine Calls.mono (CloneI_c (hslY.below hd2) (by omega) hqc) ?_
   rintro e Y3 ⟨⟨q1,k1,rfl,o1⟩,hb3⟩
   refine ⟨hb3,?_⟩
   obtain ⟨nx,hnx⟩ : ∃ nx : List Nat × Option Addr × Nat,nx = (x,q1,k1) := ⟨_,rfl⟩
   have hen : [Value.slice q1 x.length k1] = natLE.enc nx := by rw [hnx]; rfl
   refine ⟨⟨by decide,by decide,rfl⟩,natLE.enc nx,by rw [← hen]; rfl,?_⟩
   have hba : Below Y3.heap.size Y3 (Y3.alloc (.cells (natLE.enc nx).toArray 95)) := (Below.refl _ _).alloc (Nat.le_refl _) _
   refine ⟨hba,?_⟩
   have hnw : ∀ (G : Nat → Prop) (Z : World),(∀ k,Y2.heap.size ≤ k → k < Y3.heap.size → Z.heap[k]? = Y3.heap[k]?) → (∀ k,Y2.heap.size ≤ k → k < Y3.heap.size → G k) → NInI (L + 4) G Z nx := by
    intro G Z hs hg
    rw [hnx]
    have ol : ∀ a,q1 = some a → Y2.heap.size ≤ a.block ∧ a.block < Y3.heap.size := fun a ha => ⟨(own_at o1 ha).1,(own_at o1 ha).2.1⟩
    have hY2s := hG.size
    exact ⟨OwnS.lower (o1.same fun a ha => hs _ (ol a ha).1 (ol a ha).2) (by show L + 4 ≤ Y2.heap.size; omega),fun a ha => hg _ (ol a ha).1 (ol a ha).2⟩
   obtain ⟨v,Y5,hrun,Z,hrun2,F',hG',hK',hFF⟩ := hG.step (P := Tryz.prog) (ty := 131) (cap1 := 1) (ninI_keep (L + 4)) (by decide) Tryz.underlying131 (ttOk.get 95 _ rfl) rfl rfl rfl (ttOk.get 131 _ rfl) rfl (by omega) (by omega) (hd2.trans hb3) nx (by omega) (by show (xs.length + 1) * 24 ≤ _; omega) hnw p c' h4
   refine SatR.mk hrun ?_
   refine SatR.mk hrun2 ?_
   exact ⟨F',⟨⟨_,⟨by rw [List.map_append,hxs,hnx]; rfl,by simp only [List.length_append,List.length_cons,List.length_nil]; omega,hasc.snoc (n := Y2.heap.size) (fun x' hx' a ha => (own_at (hG.nest x' hx').1 ha).2.1) (fun a ha => by rw [hnx] at ha; exact (own_at o1 ha).1)⟩,hG'⟩,hFF _ hF2,hFF _ hF3⟩,hK'⟩
 ·rintro D F Y hD hfD ⟨⟨xs,⟨hxs,hpm,hasc⟩,hG⟩,hF2,hF3⟩ hdef
  obtain ⟨p,c',h4,h5,h6⟩ := hG.row
  have hWL : L + 4 ≤ W.heap.size := by omega
  have g2 : Y.heap[L + 2]? = some (.cells #[.slice none 0 0] 131 (0,0)) := (hG.old.block _ (by omega)).trans f2
  have g3 : Y.heap[L + 3]? = some (.cells #[i64 0] 40 (0,0)) := (hG.old.block _ (by omega)).trans f3
  refine ⟨_,cells_at (cells_block h4) (i := 0) rfl,?_⟩
  refine store_one (ttOk.get 131 _ rfl) g2 (o := 0) (v := .slice p xs.length c') rfl rfl (by show 0 < 1; decide) rfl fun Z1 fZ1 gZ1 sZ1 => ?_
  refine store_one (ttOk.get 40 _ rfl) ((gZ1.block (L + 3) (hlt g3) (by simp)).trans g3) (o := 0) (v := i64 0) rfl rfl (by show 0 < 1; decide) rfl fun Z2 fZ2 gZ2 sZ2 => ?_
  have k2 : ∀ k,k < Y.heap.size → k ≠ L + 2 → k ≠ L + 3 → Z2.heap[k]? = Y.heap[k]? := fun k hk n1 n2 => (gZ2.block k (by rw [sZ1]; exact hk) (by simpa using n2)).trans (gZ1.block k hk (by simpa using n1))
  refine ⟨_,rfl,(k2 D (hlt hdef) (by omega) (by omega)).trans hdef,?_⟩
  have f2' := (gZ2.block (L + 2) (hlt fZ1) (by simp)).trans fZ1
  have nD2 : D ≠ L + 2 := fun e => hfD (e ▸ hF2)
  have nD3 : D ≠ L + 3 := fun e => hfD (e ▸ hF3)
  have hwY := hwW.trans (hG.old.mono (by omega))
  have b2 := (hwY.trans (below_grown gZ1 hwY.size (by omega))).trans (below_grown gZ2 (by have := hwY.size; omega) (by omega))
  have kp : ∀ a : Addr,L + 4 ≤ a.block → F a.block → a.block < Y.heap.size → (Z2.putObj D (.deferred none)).heap[a.block]? = Y.heap[a.block]? := fun a h1 h2 h3 => (heap_put_old fun e => by rw [← e] at hfD; exact hfD h2).trans (k2 _ h3 (by omega) (by omega))
  refine ⟨.slice p xs.length c',cells_at (cells_block ((heap_put_old fun e => nD2 e.symm).trans f2')) (i := 0) rfl,i64 0,cells_at (cells_block ((heap_put_old fun e => nD3 e.symm).trans fZ2)) (i := 0) rfl,.inl ⟨by rw [← hxs,List.length_map] at hpm ⊢; exact hpm,xs,p,c',rfl,hxs,hasc,?_,fun x hx => ?_⟩,below_put b2 (by omega) _⟩
  ·exact OwnS.lower (h5.same fun a ha => kp a (own_at h5 ha).1 (h6 a ha) (own_at h5 ha).2.1) (by omega)
  ·obtain ⟨hx1,hx2⟩ := hG.nest x hx
   exact OwnS.lower (hx1.same fun a ha => kp a (own_at hx1 ha).1 (hx2 a ha) (own_at hx1 ha).2.1) (by omega)
 ·rintro D ex pre F Y hD hfD hpre ⟨rfl,hm2,h3,h4,h5,h6,h7,h8,h9⟩ hdef
  refine ⟨_,rfl,hdef,?_⟩
  have nD2 : D ≠ L + 2 := fun e => hfD (e ▸ h7)
  have nD3 : D ≠ L + 3 := fun e => hfD (e ▸ h8)
  exact ⟨_,cells_at (cells_block ((heap_put_old fun e => nD2 e.symm).trans h3)) (i := 0) rfl,_,cells_at (cells_block ((heap_put_old fun e => nD3 e.symm).trans h4)) (i := 0) rfl,.inr ⟨hm2,rfl⟩,below_put h5 (by have := hwW.size; omega) _⟩
end Go.Proofs.YtkpcgpmimejimaaGreatDoor
namespace Go.Proofs.YtkpcgpmimejimaaGreatDoor
open Go.Vc Go.RowKit Go.Sei
theorem IndexI_c {p : Option Addr} {cap : Nat} {l : List Nat} {s : Nat} {w : World} (hl : SlR natE w p l) (hn : l.length ≤ 140737488351232) :
  Calls Tryz.prog 149 #[.slice p l.length cap,i64 s] w fun e w' => ∃ n : Int,e = .returned (i64 n) ∧ decide (0 ≤ n) = l.any (fun q => decide (q = s)) ∧ w = w' := by
 refine calls_of_E (S := sg 19) (sgOk _) (args := [.slice p l.length cap,i64 s]) Tryz.func149 rfl rfl (Nat.le_of_ble_eq_true rfl) rfl ?_
 refine ⟨Nat,fun k => ⟨[(0,.slice p l.length cap),(1,i64 s),(7,i64 l.length),(8,i64 (k : Nat))],[]⟩,fun k X => k ≤ l.length ∧ (∀ q ∈ l.take k,¬ q = s) ∧ w = X,fun k => l.length - k,0,⟨.cons rfl (.cons rfl (.cons rfl (.cons rfl .nil))),rfl⟩,⟨Nat.zero_le _,by simp,rfl⟩,?_⟩
 rintro k _ ⟨hk,hno,rfl⟩
 dsimp only at hk hno ⊢
 refine And.intro (fun hc => ?_) (fun hc => ?_)
 ·have hc : (k : Int) < (l.length : Int) := of_decide_eq_true hc
  have hkl : k < l.length := by omega
  obtain ⟨b,o,rfl,hb,hat⟩ := hl.at hkl
  refine ⟨k,rfl,hkl,?_⟩
  refine ⟨i64 l[k],cells_at (hat k hkl) (i := 0) rfl,?_⟩
  refine And.intro (fun h => ?_) (fun h => ?_)
  ·have h : (s : Int) = (l[k] : Nat) := of_decide_eq_true h
   refine ⟨k,rfl,?_,rfl⟩
   rw [decide_eq_true (by omega)]
   symm
   rw [List.any_eq_true]
   exact ⟨l[k],List.getElem_mem _,decide_eq_true (by omega)⟩
  ·have h : ¬ (s : Int) = (l[k] : Nat) := of_decide_eq_false h
   refine ⟨(k + 1 : Nat),(wrap_i64 (by omega)).trans (by omega),?_⟩
   refine ⟨k + 1,⟨.cons rfl (.cons rfl (.cons rfl (.cons rfl .nil))),rfl⟩,⟨hkl,?_,rfl⟩,by show l.length - (k + 1) < l.length - k; omega⟩
   rw [List.take_succ_eq_append_getElem hkl]
   intro q hq
   rcases List.mem_append.1 hq with hq | hq
   ·exact hno q hq
   ·simp only [List.mem_singleton] at hq
    rw [hq]; exact fun e => h (by rw [e])
 ·have hc : ¬ (k : Int) < (l.length : Int) := of_decide_eq_false hc
  obtain rfl : k = l.length := by omega
  rw [List.take_length] at hno
  refine ⟨-1,rfl,?_,rfl⟩
  symm
  show _ = false
  rw [List.any_eq_false]
  exact fun q hq => by simpa using hno q hq
theorem ContainsI_c {p : Option Addr} {cap : Nat} {l : List Nat} {s : Nat} {w : World} (hl : SlR natE w p l) (hn : l.length ≤ 140737488351232) :
  Calls Tryz.prog 132 #[.slice p l.length cap,i64 s] w fun e w' => e = .returned (.bool (l.any fun q => decide (q = s))) ∧ w = w' := by
 refine calls_of_E (S := sg 9) (sgOk _) (args := [.slice p l.length cap,i64 s]) Tryz.func132 rfl rfl (Nat.le_of_ble_eq_true rfl) rfl ?_
 refine Calls.mono (IndexI_c hl hn) ?_
 rintro e _ ⟨n,rfl,h,rfl⟩
 exact ⟨rb h,rfl⟩
abbrev rowI (l : List Nat) : List Value := l.map fun n : Nat => i64 n
abbrev RowI (Z : World) (g : Nat) (l : List Nat) : Prop := Z.heap[g]? = some (.cells (rowI l).toArray 3 (0,0))
theorem nat_flat : ∀ l : List Nat,l.flatMap natE.enc = rowI l
 | [] => rfl
 | a :: l => by
  show i64 a :: l.flatMap natE.enc = i64 a :: rowI l
  rw [nat_flat l]
theorem zrep_i64 : ∀ n,zrep [Value.int IntKind.i64 0] n = rowI (List.replicate n 0)
 | 0 => rfl
 | n + 1 => by
  show Value.int IntKind.i64 0 :: zrep [Value.int IntKind.i64 0] n = i64 0 :: rowI (List.replicate n 0)
  rw [← zrep_i64 n]; rfl
theorem RowI.sl {Z : World} {g : Nat} {l : List Nat} (h : RowI Z g l) : SlR natE Z (some ⟨g,0,none⟩) l :=
 SlR.of_cells (hlt h) (by rw [nat_flat]; exact cells_block h)
theorem range_pre {α : Type} {f : Nat → α} {n j : Nat} (h : j < n) : ((List.range j).map f ++ [f j]) <+: (List.range n).map f := by
 obtain ⟨m,rfl⟩ : ∃ m,n = (j + 1) + m := ⟨n - (j + 1),by omega⟩
 rw [List.range_add,List.map_append]
 exact ⟨_,by rw [List.range_succ,List.map_append]; rfl⟩
def StD (pre : List (List Nat)) (vs : List Value) (W : World) : Prop := ∃ l q,pre.getLast? = some l ∧ vs = [.slice q l.length l.length] ∧ SlR natE W q l ∧ ∀ a,q = some a → ∃ cur,W.heap[a.block]? = some (.cells cur 3 (0,0))
section
variable {bx : Nat} {sizes : List Nat} {q : Option Addr} {c : Nat} {W0 : World}
theorem odo_c (fx : W0.heap[bx]? = some (.cells #[.slice q sizes.length c] 95 (0,0))) (hl : SlR natE W0 q sizes) (hql : ∀ a,q = some a → a.block < W0.heap.size) (hn : sizes.length ≤ 1000) (hm : ∀ n ∈ sizes,n ≤ 1000000) :
  IterG Tryz.prog 131 [At0 bx] (digsR sizes) W0 (fun k => k = bx ∨ ∃ a,q = some a ∧ k = a.block) (fun _ => False) StD := by
 intro yl F0 J Jx W hsz hrd hrf hJ hJx hy h0
 have fxW := (hrd bx (.inl (.inl rfl))).trans fx
 have hlW : SlR natE W q sizes := slr_same hl fun a ha => hrd _ (.inl (.inr ⟨a,ha,rfl⟩))
 refine calls_of_E (S := sg 43) (sgOk _) (args := [.func (.yield yl) #[] #[],At0 bx]) Tryz.func131 rfl rfl (Nat.le_of_ble_eq_true rfl) rfl ?_
 refine ⟨_,cells_at (cells_block fxW) (i := 0) rfl,?_⟩
 refine Calls.mono (ContainsI_c (s := 0) hlW (by omega)) ?_
 rintro e _ ⟨rfl,rfl⟩
 refine And.intro (fun h => ?_) (fun h => ?_)
 ·have h : (sizes.any fun q => decide (q = 0)) = true := h
  obtain ⟨z,hz,hz0⟩ := List.any_eq_true.1 h
  have hz0 : z = 0 := of_decide_eq_true hz0
  subst hz0
  have hs : digsR sizes = [] := by unfold digsR; rw [prodL_zero (by simpa using hz)]; rfl
  rw [hs]
  exact ⟨⟨_,rfl⟩,.inl ⟨F0,h0⟩⟩
 have h : (sizes.any fun q => decide (q = 0)) = false := h
 obtain ⟨rs,hrs⟩ : ∃ rs,rs = sizes.reverse := ⟨_,rfl⟩
 have hr0 : ∀ n ∈ rs,n ≠ 0 := fun n hn e => by
  rw [List.any_eq_false] at h
  exact h n (by rw [hrs] at hn; simpa using hn) (decide_eq_true e)
 have hlen : rs.length = sizes.length := by rw [hrs,List.length_reverse]
 refine ⟨_,cells_at (cells_block fxW) (i := 0) rfl,?_⟩
 refine make_zero Tryz.underlying95 (ttOk.get 3 _ rfl) rfl rfl (by decide) sizes.length (by show 8 * _ ≤ _; omega) (by omega) fun X fX hbX sX => ?_
 rw [zrep_i64] at fX
 obtain ⟨D,hD⟩ : ∃ D : Nat → List Nat,D = fun j => (digL rs j).reverse := ⟨_,rfl⟩
 have hDl : ∀ j,(D j).length = sizes.length := fun j => by rw [hD]; show ((digL rs j).reverse).length = _; rw [List.length_reverse,digL_len,hlen]
 have hds : digsR sizes = (List.range (prodL rs)).map D := by unfold digsR; rw [hD,hrs]
 have hP : 0 < prodL rs := prodL_pos hr0
 have hD0 : D 0 = List.replicate sizes.length 0 := by
  rw [hD]
  show (digL rs 0).reverse = _
  rw [digL_zero,List.reverse_replicate,hlen]
 rw [← hD0] at fX
 rw [hds] at hy ⊢
 obtain ⟨g,hg⟩ : ∃ g,g = W.heap.size := ⟨_,rfl⟩
 rw [← hg] at fX
 have hbxW := hlt fxW
 refine ⟨Nat × (Nat → Prop),fun s => ⟨[(0,.func (.yield yl) #[] #[]),(1,At0 bx),(3,.slice (some ⟨g,0,none⟩) sizes.length sizes.length)],[]⟩,
  fun s Z => s.1 < prodL rs ∧ J ((List.range s.1).map D) s.2 Z ∧ RowI Z g (D s.1) ∧ ¬ s.2 g ∧ W.heap.size ≤ Z.heap.size ∧ Z.heap[bx]? = some (.cells #[.slice q sizes.length c] 95 (0,0)) ∧ ¬ s.2 bx ∧ RowF natE W.heap.size s.2 Z q sizes,
  fun s => prodL rs - s.1,(0,F0),⟨.cons rfl (.cons rfl (.cons (by rw [hg]; rfl) .nil)),rfl⟩,
  ⟨hP,hJ.step _ _ _ _ h0 (.below hbX),fX,fun h => by have := (hJ.lt _ _ _ _ h0 h).1; omega,hbX.size,block_below hbX fxW,hrf _ (.inl rfl),⟨hlW.below hbX,fun a ha => ⟨by have := hql a ha; omega,hrf _ (.inr ⟨a,ha,rfl⟩)⟩⟩⟩,?_⟩
 rintro ⟨j,F⟩ Z ⟨hj,hjZ,fZ,hgF,hWZ,fxZ,hbF,hqZ⟩
 dsimp only at hj hjZ fZ hgF fxZ hbF hqZ ⊢
 have hpre : ((List.range j).map D ++ [D j]) <+: (List.range (prodL rs)).map D := range_pre hj
 refine YieldR.mono (hy _ (D j) [.slice (some ⟨g,0,none⟩) sizes.length sizes.length] F Z hjZ ⟨D j,_,by simp,by rw [hDl j],fZ.sl,fun a ha => (by cases ha; exact ⟨_,fZ⟩)⟩ hpre) ?_
 rintro v Y (⟨rfl,F',hjY,kY⟩ | ⟨rfl,F',hjY⟩)
 ·refine brT ?_
  have hgZ := hlt fZ
  have fY : RowI Y g (D j) := (kY.same g hgZ hgF).trans fZ
  have hgF' : ¬ F' g := fun h => by
   rcases kY.fp g h with h | h
   ·exact hgF h
   ·omega
  have fxY := (kY.same bx (hlt fxZ) hbF).trans fxZ
  have hbF' : ¬ F' bx := fun h => by
   rcases kY.fp bx h with h | h
   ·exact hbF h
   ·have := hlt fxZ; omega
  have hqY := hqZ.keep hWZ kY (fun _ _ h => h)
  have hWY := Nat.le_trans hWZ kY.size
  have hjY2 : J ((List.range (j + 1)).map D) F' Y := by
   rw [List.range_succ,List.map_append]
   exact hjY
  clear hjY hpre fZ fxZ hqZ hjZ hWZ hgZ hgF hbF kY
  refine ⟨((sizes.length : Nat) : Int) - 1,wrap_i64 (by omega),?_⟩
  have hgn : W.heap.size ≤ g := by omega
  have hbg : bx ≠ g := by omega
  refine ⟨Nat,fun t => ⟨[(0,.func (.yield yl) #[] #[]),(1,At0 bx),(3,.slice (some ⟨g,0,none⟩) sizes.length sizes.length),(4,i64 (((sizes.length : Nat) : Int) - 1 - (t : Nat)))],[]⟩,
   fun t V => t ≤ sizes.length ∧ Carry rs j t ∧ RowI V g ((List.replicate t 0 ++ (digL rs j).drop t).reverse) ∧ J ((List.range (j + 1)).map D) F' V ∧ W.heap.size ≤ V.heap.size ∧ V.heap[bx]? = some (.cells #[.slice q sizes.length c] 95 (0,0)) ∧ RowF natE W.heap.size F' V q sizes,fun t => sizes.length - t,0,
   ⟨.cons rfl (.cons rfl (.cons rfl (.cons (by rw [Int.ofNat_zero,Int.sub_zero]; rfl) .nil))),rfl⟩,⟨Nat.zero_le _,carry_zero _ _,by rw [hD] at fY; exact fY,hjY2,hWY,fxY,hqY⟩,?_⟩
  clear fY fxY hqY hjY2 hWY
  rintro t V ⟨ht,hc,fV,hjV,hWV,fxV,hqV⟩
  dsimp only at ht hc fV hjV ⊢
  have hLl : (digL rs j).length = sizes.length := by rw [digL_len,hlen]
  refine DrawE.ord [] [0,1,2,3,4,5,6,7,8,9,10,11,12,13] (by kernel_rfl) ?_
  refine And.intro (fun hi => ?_) (fun hi => ?_)
  ·have hi : (0 : Int) ≤ ((sizes.length : Nat) : Int) - 1 - (t : Nat) := of_decide_eq_true hi
   have htl : t < sizes.length := by omega
   obtain ⟨i,hit⟩ : ∃ i,i + t + 1 = sizes.length := ⟨sizes.length - 1 - t,by omega⟩
   have hii : ((sizes.length : Nat) : Int) - 1 - (t : Nat) = (i : Nat) := by omega
   rw [hii]
   obtain ⟨d,hd⟩ : ∃ d,(digL rs j)[t]? = some d := ⟨_,List.getElem?_eq_getElem (by omega)⟩
   obtain ⟨n,hn⟩ : ∃ n,rs[t]? = some n := ⟨_,List.getElem?_eq_getElem (by omega)⟩
   have hil : i < sizes.length := by omega
   have hsn : sizes[i] = n := by
    have := List.getElem?_reverse (l := sizes) (i := t) htl
    rw [← hrs,hn,show sizes.length - 1 - t = i by omega,List.getElem?_eq_getElem hil] at this
    exact (Option.some.inj this).symm
   have hnm : n ∈ sizes := by rw [← hsn]; exact List.getElem_mem hil
   have hn1 := hm n hnm
   have hn0 : n ≠ 0 := hr0 n (by rw [hrs]; simpa using hnm)
   have hrow := rev_at hd (i := i) (by omega)
   have hdn : d < n := by
    obtain ⟨A,ns,k,c1,c2,c3,c4,c5⟩ := hc
    cases ns with
    | nil => rw [c1,List.append_nil,List.getElem?_eq_none (by omega)] at hn; cases hn
    | cons m ns =>
     have hm' : m = n := by
      rw [c1,List.getElem?_append_right (by omega),c2,Nat.sub_self] at hn
      exact Option.some.inj hn
     have := congrArg (fun l => l[0]?) c4
     simp only [List.getElem?_drop,Nat.add_zero] at this
     rw [hd] at this
     have : d = k % m := Option.some.inj this
     rw [this,hm']
     exact Nat.mod_lt _ (by omega)
   have hrl : ((List.replicate t 0 ++ (digL rs j).drop t).reverse).length = sizes.length := by simp; omega
   refine ⟨i,rfl,hil,?_⟩
   have hrc : (rowI (List.replicate t 0 ++ (digL rs j).drop t).reverse)[i * 1]? = some (i64 d) := by
    rw [Nat.mul_one,List.getElem?_map,hrow]; rfl
   refine ⟨i64 d,cells_at (cells_block (hdr fV)) hrc,?_⟩
   refine ⟨_,cells_at (cells_block (hdr fxV)) (i := 0) rfl,?_⟩
   obtain ⟨bq,oq,hqe,hlq,hatq⟩ := hqV.row.at hil
   subst hqe
   refine ⟨i,rfl,hil,?_⟩
   refine ⟨i64 n,by rw [← hsn]; exact cells_at (cells_below (Below.refl _ V).drew (hatq i hil)) (i := 0) rfl,?_⟩
   refine ⟨((n : Nat) : Int) - 1,wrap_i64 (by omega),?_⟩
   refine And.intro (fun he => ?_) (fun he => ?_)
   ·have he : (d : Int) = (n : Int) - 1 := of_decide_eq_true he
    have hrs2 := rev_set hd (i := i) (by omega) 0
    refine ⟨i,rfl,hil,?_⟩
    refine store_one (ttOk.get 3 _ rfl) (hdr fV) (o := 0 + i * 1) (v := i64 0) rfl rfl (by rw [List.length_map,hrl]; omega) rfl fun V1 fV1 gV1 sV1 => ?_
    refine ⟨((sizes.length : Nat) : Int) - 1 - ((t + 1 : Nat) : Int),(wrap_i64 (by omega)).trans (by omega),?_⟩
    have gV2 : V.grownBy V1 (some g) := grown_trans (grown_of_below (Below.refl _ V).drew) gV1
    have kV : KeepsG (fun k => k = g) (fun _ => False) V V1 := ⟨gV2.os,gV2.tape,gV2.output,gV2.size,fun k hk hf => gV2.block k hk (fun e => hf (by cases e; rfl)),fun k h => h.elim⟩
    have hsV := gV2.size
    refine ⟨t + 1,⟨.cons rfl (.cons rfl (.cons rfl (.cons rfl .nil))),rfl⟩,⟨htl,carry_step hr0 hc hn hd (by omega),?_,hJ.step _ _ _ _ hjV (StepG.grown gV2 (.inl hgn) hgF'),by omega,(gV2.block bx (hlt fxV) (by simpa using hbg)).trans fxV,⟨slr_same hqV.row fun a ha => gV2.block _ (by have := (hqV.out a ha).1; omega) (by have := (hqV.out a ha).1; simp; omega),hqV.out⟩⟩,by show sizes.length - (t + 1) < sizes.length - t; omega⟩
    show RowI V1 g _
    rw [← rev_next,← hrs2]
    rw [Nat.mul_one,Nat.zero_add] at fV1
    refine fV1.trans ?_
    unfold rowI
    rw [List.map_set]; rfl
   ·have he : ¬ (d : Int) = (n : Int) - 1 := of_decide_eq_false he
    have hstop := carry_stop hr0 hc hn hd (by omega)
    have hmore := carry_more hr0 hc hn hd (by omega) hj
    have hrs2 := rev_set hd (i := i) (by omega) (d + 1)
    refine brN (decide_eq_false (by omega)) ?_
    refine ⟨i,rfl,hil,?_⟩
    refine ⟨i64 d,cells_at (cells_block (hdr fV)) hrc,?_⟩
    refine ⟨((d + 1 : Nat) : Int),(wrap_i64 (by omega)).trans (by omega),?_⟩
    refine ⟨i,rfl,hil,?_⟩
    refine store_one (ttOk.get 3 _ rfl) (hdr fV) (o := 0 + i * 1) (v := i64 ((d + 1 : Nat) : Int)) rfl rfl (by rw [List.length_map,hrl]; omega) rfl fun V1 fV1 gV1 sV1 => ?_
    have gV2 : V.grownBy V1 (some g) := grown_trans (grown_of_below (Below.refl _ V).drew) gV1
    have hsV := gV2.size
    refine ⟨(j + 1,F'),⟨.cons rfl (.cons rfl (.cons rfl .nil)),rfl⟩,⟨hmore,hJ.step _ _ _ _ hjV (StepG.grown gV2 (.inl hgn) hgF'),?_,hgF',by omega,(gV2.block bx (hlt fxV) (by simpa using hbg)).trans fxV,hbF',⟨slr_same hqV.row fun a ha => gV2.block _ (by have := (hqV.out a ha).1; omega) (by have := (hqV.out a ha).1; simp; omega),hqV.out⟩⟩,by show prodL rs - (j + 1) < prodL rs - j; omega⟩
    show RowI V1 g (D (j + 1))
    rw [hD]
    show RowI V1 g (digL rs (j + 1)).reverse
    rw [hstop,← hrs2]
    rw [Nat.mul_one,Nat.zero_add] at fV1
    refine fV1.trans ?_
    unfold rowI
    rw [List.map_set]
  ·have hi : ¬ (0 : Int) ≤ ((sizes.length : Nat) : Int) - 1 - (t : Nat) := of_decide_eq_false hi
   have hte : t = rs.length := by omega
   rw [hte] at hc
   have he := carry_end hc hj
   refine brF ?_
   refine brE (decide_eq_true (by omega)) ?_
   rw [he] at hjV
   exact ⟨⟨_,rfl⟩,.inl ⟨F',hJ.step _ _ _ _ hjV (.below (Below.refl _ V).drew)⟩⟩
 ·refine brF ?_
  exact ⟨⟨_,rfl⟩,.inr ⟨_,F',hpre,hjY⟩⟩
end
end Go.Proofs.YtkpcgpmimejimaaGreatDoor
namespace Go.Proofs.YtkpcgpmimejimaaGreatDoor
open Go.Vc Go.RowKit Go.Sei
def poG (ev : List Ev) (k : Nat) : Nat → Nat := fun i => if i < k then poRow ev i else 0
theorem poG_upd (ev : List Ev) (k : Nat) : upd (poG ev k) k (poRow ev k) = poG ev (k + 1) := by
 funext i
 unfold upd poG
 by_cases h : i = k
 ·rw [if_pos h,if_pos (by omega),h]
 ·rw [if_neg h]
  by_cases h2 : i < k
  ·rw [if_pos h2,if_pos (by omega)]
  ·rw [if_neg h2,if_neg (by omega)]
theorem poG_self (ev : List Ev) (k : Nat) : upd (poG ev k) k 0 = poG ev k := by
 funext i
 unfold upd poG
 by_cases h : i = k
 ·rw [if_pos h,if_neg (by omega)]
 ·rw [if_neg h]
theorem poG_len (ev : List Ev) : poG ev ev.length = poRow ev := by
 funext i
 unfold poG
 split
 ·rfl
 ·unfold poRow
  rw [List.getElem?_eq_none (by omega)]
section
variable {p : Option Addr} {cap : Nat} {ev : List Ev} {w : World}
theorem programOrder_c (hl : SlR evE w p ev) (hn : ev.length ≤ 48) : Calls Tryz.prog 35 #[.slice p ev.length cap] w fun e w' => e = .returned (.agg (relC (poR ev)).toArray) ∧ Below w.heap.size w w' := by
 refine calls_of_M (S := sg 47) (sgOk _) (args := [.slice p ev.length cap]) (.s .p (.c .p .p)) Tryz.func35 rfl rfl (Nat.le_of_ble_eq_true rfl) rfl ?_
 obtain ⟨L,hL⟩ : ∃ L,L = w.heap.size := ⟨_,rfl⟩
 have hbL := hnew w (.cells (relC zeroR).toArray 27 (0,0))
 have hbb : Below w.heap.size w (w.alloc (.cells (relC zeroR).toArray 27 (0,0))) := (Below.refl _ w).alloc (Nat.le_refl _) _
 have hbs := World.size_alloc w (.cells (relC zeroR).toArray 27 (0,0))
 refine ⟨Unit,fun _ => ⟨[(0,.slice p ev.length cap),(2,At0 L),(3,At0 (L + 1))],[]⟩,fun _ X => RelH X L zeroR ∧ RelH X (L + 1) ⟨ev.length,fun _ => 0⟩ ∧ X.heap.size = L + 2 ∧ Below w.heap.size w X,?_,?_⟩
 ·refine ⟨relC ⟨ev.length,fun _ => 0⟩,rfl,?_⟩
  refine store_new (X := w.alloc (.cells (relC zeroR).toArray 27 (0,0))) (v := .agg (relC ⟨ev.length,fun _ => 0⟩).toArray) (ttOk.get 27 _ rfl) (relC_len _) rfl (relC_one _) fun V hbV fV sV => ?_
  rw [hbs] at fV sV
  exact ⟨(),⟨.cons rfl (.cons (by rw [hL]; rfl) (.cons (by rw [hL,← hbs]; rfl) .nil)),rfl⟩,by rw [hL]; exact block_below hbV hbL,by rw [hL]; exact fV,by rw [hL]; exact sV,hbb.trans (hbV.mono hbb.size)⟩
 rintro _ X ⟨f0,f1,sX,hbX⟩
 refine ⟨Nat,fun k => ⟨[(0,.slice p ev.length cap),(2,At0 L),(3,At0 (L + 1)),(10,.slice p ev.length cap),(11,i64 ev.length),(12,i64 (k : Nat))],[]⟩,
  fun k V => k ≤ ev.length ∧ RelH V (L + 1) ⟨ev.length,poG ev k⟩ ∧ RelH V L zeroR ∧ L + 1 < V.heap.size ∧ Below w.heap.size w V,fun k => ev.length - k,0,
  ⟨.cons rfl (.cons rfl (.cons rfl (.cons rfl (.cons rfl (.cons rfl .nil))))),rfl⟩,⟨Nat.zero_le _,f1,f0,by omega,hbX⟩,?_⟩
 rintro k V ⟨hk,fV,f0V,sV,hbV⟩
 dsimp only at hk fV ⊢
 refine And.intro (fun hc => ?_) (fun hc => ?_)
 ·have hc : (k : Int) < (ev.length : Int) := of_decide_eq_true hc
  have hkl : k < ev.length := by omega
  obtain ⟨e,he⟩ : ∃ e,ev[k] = e := ⟨_,rfl⟩
  have hek : ev[k]? = some e := by rw [← he]; exact List.getElem?_eq_getElem hkl
  obtain ⟨bp,op,rfl,hlp,hat⟩ := hl.at hkl
  refine ⟨k,rfl,hkl,?_⟩
  refine ⟨evE.enc e,rfl,by rw [← he]; exact cells_below hbV (hat k hkl),Nat.lt_of_lt_of_le hlp hbV.size,?_⟩
  refine store_new (X := V) (v := .agg (evE.enc e).toArray) (ttOk.get 52 _ rfl) rfl rfl (List.all_eq_true.2 fun u hu => evE.one e u hu) fun Y hbY fY sY => ?_
  obtain ⟨b,hb⟩ : ∃ b,b = V.heap.size := ⟨_,rfl⟩
  rw [← hb] at fY
  have eb : some (Value.pointer (some ⟨V.heap.size,0,none⟩)) = some (At0 b) := by rw [hb]
  have hwY := hbV.trans (hbY.mono hbV.size)
  have hMb : L + 1 < b := by omega
  have fYM := block_below hbY fV
  have fYL := block_below hbY f0V
  refine ⟨i64 e.th,by rw [← hb]; exact cells_at (cells_block fY) (i := 0) rfl,?_⟩
  refine And.intro (fun h => ?_) (fun h => ?_)
  ·have h : e.th = -1 := of_decide_eq_true h
   have hr : poRow ev k = 0 := by
    unfold poRow
    rw [hek]
    exact if_pos h
   refine ⟨((k + 1 : Nat) : Int),(wrap_i64 (by omega)).trans (by omega),?_⟩
   refine ⟨k + 1,⟨.cons rfl (.cons rfl (.cons rfl (.cons rfl (.cons rfl (.cons rfl .nil))))),rfl⟩,⟨hkl,?_,fYL,by omega,hwY⟩,by show ev.length - (k + 1) < ev.length - k; omega⟩
   rw [← poG_upd,hr,poG_self]
   exact fYM
  have h : ¬ e.th = -1 := of_decide_eq_false h
  have hr : poRow ev k = poAcc e.th (k + 1) (ev.drop (k + 1)) 0 := by
   unfold poRow
   rw [hek]
   exact if_neg h
  refine ⟨((k + 1 : Nat) : Int),(wrap_i64 (by omega)).trans (by omega),?_⟩
  refine ⟨Nat × Nat,fun s => ⟨[(0,.slice (some ⟨bp,op,none⟩) ev.length cap),(2,At0 L),(3,At0 (L + 1)),(4,i64 (k : Nat)),(5,At0 b),(6,i64 (s.1 : Nat)),(10,.slice (some ⟨bp,op,none⟩) ev.length cap),(11,i64 ev.length),(12,i64 (k : Nat))],[]⟩,
   fun s Z => s.1 ≤ ev.length ∧ poRow ev k = poAcc e.th s.1 (ev.drop s.1) s.2 ∧ s.2 < 2 ^ 64 ∧ RelH Z (L + 1) ⟨ev.length,upd (poG ev k) k s.2⟩ ∧ RelH Z L zeroR ∧ Z.heap[b]? = some (.cells (evE.enc e).toArray 52 (0,0)) ∧ Below w.heap.size w Z,fun s => ev.length - s.1,(k + 1,0),
   ⟨.cons rfl (.cons rfl (.cons rfl (.cons rfl (.cons eb (.cons rfl (.cons rfl (.cons rfl (.cons rfl .nil)))))))),rfl⟩,⟨hkl,hr,(by decide : 0 < 2 ^ 64),by rw [poG_self]; exact fYM,fYL,fY,hwY⟩,?_⟩
  clear fY fYM fYL hwY hbY sY f0V fV hbV sV
  rintro ⟨j,s⟩ Z ⟨hj,hacc,hs,fM,fL,fb,hbZ⟩
  dsimp only at hj hacc hs fM ⊢
  refine And.intro (fun hc => ?_) (fun hc => ?_)
  ·have hc : (j : Int) < (ev.length : Int) := of_decide_eq_true hc
   have hjl : j < ev.length := by omega
   have hdrop : ev.drop j = ev[j] :: ev.drop (j + 1) := (List.getElem_cons_drop hjl).symm
   rw [hdrop] at hacc
   have hacc : poRow ev k = poAcc e.th (j + 1) (ev.drop (j + 1)) (if ev[j].th = e.th then s ||| 2 ^ j else s) := hacc
   refine DrawE.ord [] [0,1,2,3,4,5,6,7] (by kernel_rfl) ?_
   refine ⟨j,rfl,hjl,?_⟩
   refine ⟨i64 ev[j].th,cells_at (cells_below hbZ (hat j hjl)) (i := 0) rfl,?_⟩
   refine ⟨i64 e.th,cells_at (cells_block (hdr fb)) (i := 0) rfl,?_⟩
   have hslot : (relC ⟨(ev.length : Int),upd (poG ev k) k s⟩)[1 + k]? = some (s64 s) := by
    have := relC_at ⟨(ev.length : Int),upd (poG ev k) k s⟩ (i := k) (by omega)
    rw [this]
    show some (s64 (upd (poG ev k) k s k)) = _
    rw [upd_same]
   have hdZ : Below Z.heap.size Z Z.drew := (Below.refl _ Z).drew
   refine And.intro (fun he => ?_) (fun he => ?_)
   ·have he : ev[j].th = e.th := of_decide_eq_true he
    rw [if_pos he] at hacc
    refine DrawE.ord [9] [0,1,2,3,4,5,6,7,8,9] (by kernel_rfl) ?_
    refine ⟨k,rfl,by omega,?_⟩
    refine ⟨s64 s,by rw [Nat.mul_one,Nat.add_assoc]; exact cells_at (cells_block (hdr (hdr fM))) hslot,?_⟩
    refine ⟨by omega,_,w64_one (e := j) (by omega),?_⟩
    refine ⟨_,w64_or hs (pow_lt64 (by omega)),?_⟩
    refine ⟨k,rfl,by omega,?_⟩
    refine store_one (ttOk.get 24 _ rfl) (hdr (hdr fM)) (o := 0 + 1 + k * 1) (v := s64 (s ||| 2 ^ j)) rfl rfl (by rw [relC_len]; omega) rfl fun S fS gS sS => ?_
    rw [Nat.zero_add,Nat.mul_one,relC_set _ (show k < 48 by omega)] at fS
    have gS2 : Z.grownBy S (some (L + 1)) := grown_trans (grown_of_below (Below.refl _ Z).drew) (grown_trans (grown_of_below (Below.refl _ _).drew) gS)
    refine ⟨((j + 1 : Nat) : Int),(wrap_i64 (by omega)).trans (by omega),?_⟩
    refine ⟨(j + 1,s ||| 2 ^ j),⟨.cons rfl (.cons rfl (.cons rfl (.cons rfl (.cons rfl (.cons rfl (.cons rfl (.cons rfl (.cons rfl .nil)))))))),rfl⟩,⟨hjl,hacc,Nat.or_lt_two_pow hs (pow_lt64 (by omega)),?_,(gS2.block L (hlt fL) (by simp)).trans fL,(gS2.block b (hlt fb) (by simp; omega)).trans fb,hbZ.trans (below_grown gS2 hbZ.size (by omega))⟩,by show ev.length - (j + 1) < ev.length - j; omega⟩
    have : upd (upd (poG ev k) k s) k (s ||| 2 ^ j) = upd (poG ev k) k (s ||| 2 ^ j) := by
     funext i
     unfold upd
     split <;> rfl
    rw [this] at fS
    exact fS
   ·have he : ¬ ev[j].th = e.th := of_decide_eq_false he
    rw [if_neg he] at hacc
    refine ⟨((j + 1 : Nat) : Int),(wrap_i64 (by omega)).trans (by omega),?_⟩
    exact ⟨(j + 1,s),⟨.cons rfl (.cons rfl (.cons rfl (.cons rfl (.cons rfl (.cons rfl (.cons rfl (.cons rfl (.cons rfl .nil)))))))),rfl⟩,⟨hjl,hacc,hs,fM,fL,fb,hbZ.trans (hdZ.mono hbZ.size)⟩,by show ev.length - (j + 1) < ev.length - j; omega⟩
  ·have hc : ¬ (j : Int) < (ev.length : Int) := of_decide_eq_false hc
   have : j = ev.length := by omega
   subst this
   rw [List.drop_length] at hacc
   have hacc : poRow ev k = s := hacc
   refine ⟨((k + 1 : Nat) : Int),(wrap_i64 (by omega)).trans (by omega),?_⟩
   refine ⟨k + 1,⟨.cons rfl (.cons rfl (.cons rfl (.cons rfl (.cons rfl (.cons rfl .nil))))),rfl⟩,⟨hkl,?_,fL,hlt fM,hbZ⟩,by show ev.length - (k + 1) < ev.length - k; omega⟩
   rw [← poG_upd,hacc]
   exact fM
 ·have hc : ¬ (k : Int) < (ev.length : Int) := of_decide_eq_false hc
  obtain rfl : k = ev.length := by omega
  rw [poG_len] at fV
  refine ⟨relC (poR ev),relC_len _,cells_block fV,hlt fV,?_⟩
  refine store_box (v := .agg (relC (poR ev)).toArray) (ttOk.get 27 _ rfl) f0V rfl rfl (relC_one _) ?_
  exact ⟨relC (poR ev),relC_len _,cells_block (setRow_new f0V),rfl,below_setRow hbV (by omega) _⟩
end
end Go.Proofs.YtkpcgpmimejimaaGreatDoor
namespace Go.Proofs.YtkpcgpmimejimaaGreatDoor
open Go.Vc Go.RowKit Go.Sei
def dedG : UInt8 → List UInt8 → List UInt8
 | _,[] => []
 | p,y :: r => if y = p then dedG p r else y :: dedG y r
def ded : List UInt8 → List UInt8
 | [] => []
 | x :: r => x :: dedG x r
theorem dedG_snoc : ∀ (A : List UInt8) (p x : UInt8),dedG p (A ++ [x]) = if x = (p :: A).getLast (by simp) then dedG p A else dedG p A ++ [x]
 | [],p,x => by
  show (if x = p then [] else [x]) = _
  rfl
 | y :: A,p,x => by
  show (if y = p then dedG p (A ++ [x]) else y :: dedG y (A ++ [x])) = _
  have hl : (p :: y :: A).getLast (by simp) = (y :: A).getLast (by simp) := List.getLast_cons (by simp)
  rw [hl]
  show _ = if x = (y :: A).getLast _ then (if y = p then dedG p A else y :: dedG y A) else (if y = p then dedG p A else y :: dedG y A) ++ [x]
  by_cases h : y = p
  ·subst h
   rw [if_pos rfl,if_pos rfl,dedG_snoc A y x]
  ·rw [if_neg h,if_neg h,dedG_snoc A y x]
   split <;> rfl
theorem ded_snoc {A : List UInt8} (h : A ≠ []) (x : UInt8) : ded (A ++ [x]) = if x = A.getLast h then ded A else ded A ++ [x] := by
 cases A with
 | nil => exact absurd rfl h
 | cons y A =>
  show y :: dedG y (A ++ [x]) = _
  rw [dedG_snoc]
  show _ = if x = (y :: A).getLast h then y :: dedG y A else y :: dedG y A ++ [x]
  split <;> rfl
theorem ded_next {l : List UInt8} {i : Nat} (h0 : 0 < i) (hi : i < l.length) : ded (l.take (i + 1)) = if l[i] = l[i - 1] then ded (l.take i) else ded (l.take i) ++ [l[i]] := by
 rw [List.take_succ_eq_append_getElem hi]
 have hne : l.take i ≠ [] := by
  intro e
  have := congrArg List.length e
  rw [List.length_take,List.length_nil] at this
  omega
 rw [ded_snoc hne]
 have : (l.take i).getLast hne = l[i - 1] := by
  have hlen : (l.take i).length - 1 = i - 1 := by rw [List.length_take]; omega
  simp only [List.getLast_eq_getElem,List.getElem_take,hlen]
 rw [this]
section
variable {B g cap : Nat} {l : List UInt8} {w : World}
theorem byte_row {X : World} {sp : List Value} {M : List UInt8} (h : RowS byteE 5 X g sp M) {i : Nat} (hi : i < M.length) : X.cell? ⟨g,0 + i * 1,none⟩ = some (u8 M[i]) := by
 have := cells_at (h.at hi) (i := 0) (v := u8 M[i]) rfl
 exact this
theorem byte_get {M : List UInt8} {i : Nat} {x : UInt8} (h : M[i]? = some x) : ∃ hi : i < M.length,M[i] = x := by
 obtain ⟨hi,e⟩ := List.getElem?_eq_some_iff.1 h
 exact ⟨hi,e⟩
theorem Compact8_c (ho : OwnS byteE 5 B w (some ⟨g,0,none⟩) cap l) (hn : l.length ≤ 1000000) :
  Calls Tryz.prog 127 #[.slice (some ⟨g,0,none⟩) l.length cap] w fun e w' => e = .returned (.slice (some ⟨g,0,none⟩) (ded l).length cap) ∧ OwnS byteE 5 B w' (some ⟨g,0,none⟩) cap (ded l) ∧ w.grownBy w' (some g) := by
 refine calls_of_E (S := sg 61) (sgOk _) (args := [.slice (some ⟨g,0,none⟩) l.length cap]) Tryz.func127 rfl rfl (Nat.le_of_ble_eq_true rfl) rfl ?_
 rcases ho.inv with ⟨h,_⟩ | ⟨g',cur,hg,hB,hcur,hlc,hcm,hcs,hct⟩
 ·cases h
 simp only [Option.some.injEq,Addr.mk.injEq,and_true] at hg
 subst hg
 have hcs : cur.size = cap := by rw [hcs]; exact Nat.mul_one _
 obtain ⟨sp,hsp⟩ : ∃ sp,sp = cur.toList.drop l.length := ⟨_,rfl⟩
 have hct : cur.toList.take l.length = l.flatMap byteE.enc := by rw [← hct]; congr 1; exact (Nat.mul_one _).symm
 have hR : RowS byteE 5 w g sp l := by
  unfold RowS
  rw [hcur,← hct,hsp,List.take_append_drop]
 have hspl : l.length + sp.length = cap := by
  have h1 : cur.toList.length = cap := by rw [Array.length_toList]; exact hcs
  rw [hsp,List.length_drop,h1]; omega
 refine And.intro (fun h => ?_) (fun h => ?_)
 ·have h : (l.length : Int) < 2 := of_decide_eq_true h
  have e : ded l = l := by
   match l,h with
   | [],_ => rfl
   | [x],_ => rfl
   | x :: y :: r,h => simp at h; omega
  rw [e]
  exact ⟨rfl,ho,grown_refl w _⟩
 have h : ¬ (l.length : Int) < 2 := of_decide_eq_false h
 have hl2 : 2 ≤ l.length := by omega
 refine ⟨Nat,fun k => ⟨[(0,.slice (some ⟨g,0,none⟩) l.length cap),(3,i64 (k : Nat))],[]⟩,fun k X => 1 ≤ k ∧ k ≤ l.length ∧ ded (l.take k) = l.take k ∧ RowS byteE 5 X g sp l ∧ w.grownBy X (some g),fun k => l.length - k,1,
  ⟨.cons rfl (.cons rfl .nil),rfl⟩,⟨Nat.le_refl _,by omega,by
   cases l with
   | nil => rfl
   | cons x r => rfl,hR,grown_refl w _⟩,?_⟩
 rintro k X ⟨hk1,hkl,hdk,hRX,gX⟩
 refine And.intro (fun hc => ?_) (fun hc => ?_)
 ·have hc : (k : Int) < (l.length : Int) := of_decide_eq_true hc
  have hk : k < l.length := by omega
  refine DrawE.ord [] [0,1,2,3,4,5,6,7,8,9] (by kernel_rfl) ?_
  have hRd : RowS byteE 5 X.drew g sp l := hRX
  have gd : w.grownBy X.drew (some g) := grown_trans gX ⟨rfl,rfl,rfl,Nat.le_refl _,fun _ _ _ => rfl⟩
  refine ⟨k,rfl,hk,?_⟩
  refine ⟨_,byte_row hRd hk,?_⟩
  refine ⟨((k - 1 : Nat) : Int),(wrap_i64 (by omega)).trans (by omega),?_⟩
  refine ⟨k - 1,rfl,by omega,?_⟩
  refine ⟨_,byte_row hRd (by omega),?_⟩
  have hnx := ded_next (l := l) hk1 hk
  refine And.intro (fun he => ?_) (fun he => ?_)
  ·have he : l[k] = l[k - 1] := u8_eq.1 (of_decide_eq_true he)
   rw [if_pos he] at hnx
   refine ⟨k,rfl,by show k ≤ l.length; omega,?_⟩
   have hcb : cutBase (some ⟨g,0,none⟩) cap k 1 = some ⟨g,k,none⟩ := by
    unfold cutBase
    rw [if_neg (by omega)]
    show some ((⟨g,0,none⟩ : Addr).add (k * 1)) = _
    rw [addr_add,Nat.mul_one,Nat.zero_add]
   refine ⟨Nat × Nat × List UInt8,fun s => ⟨[(0,.slice (some ⟨g,0,none⟩) l.length cap),(3,i64 (s.2.1 : Nat)),(4,.slice (some ⟨g,k,none⟩) (l.length - k) (cap - k)),(5,i64 (s.1 : Nat))],[]⟩,
    fun s Y => (1 ≤ s.1 ∧ k + s.1 ≤ l.length) ∧ (s.2.1 = (ded (l.take (k + s.1))).length ∧ s.2.1 + 1 ≤ k + s.1) ∧ (s.2.2.length = l.length ∧ s.2.2.take s.2.1 = ded (l.take (k + s.1)) ∧ ∀ j,s.2.1 ≤ j → s.2.2[j]? = l[j]?) ∧ RowS byteE 5 Y g sp s.2.2 ∧ w.grownBy Y (some g),fun s => l.length - s.1,(1,k,l),
    ⟨.cons rfl (.cons rfl (.cons (by rw [← hcb]; rfl) (.cons rfl .nil))),rfl⟩,⟨⟨Nat.le_refl _,by show k + 1 ≤ _; omega⟩,⟨by show k = _; rw [hnx,hdk,List.length_take]; omega,Nat.le_refl _⟩,⟨rfl,by show l.take k = _; rw [hnx,hdk],fun j _ => rfl⟩,hRd,gd⟩,?_⟩
   rintro ⟨m,q,M⟩ Y ⟨⟨hm1,hml⟩,⟨hq,hqm⟩,⟨hM,hMt,hMj⟩,hRY,gY⟩
   dsimp only at hm1 hml hq hqm hM hMt hMj hRY ⊢
   refine And.intro (fun hc => ?_) (fun hc => ?_)
   ·have hc : (m : Int) < ((l.length - k : Nat) : Int) := of_decide_eq_true hc
    have hi : k + m < l.length := by omega
    have g1 : M[k + m]? = some l[k + m] := by rw [hMj _ (by omega),List.getElem?_eq_getElem hi]
    have g0 : M[k + m - 1]? = some l[k + m - 1] := by rw [hMj _ (by omega),List.getElem?_eq_getElem (by omega)]
    obtain ⟨i1,e1⟩ := byte_get g1
    obtain ⟨i0,e0⟩ := byte_get g0
    have nx := ded_next (l := l) (i := k + m) (by omega) hi
    refine DrawE.ord [] [0,1,2,3,4,5,6,7,8,9] (by kernel_rfl) ?_
    have hRYd : RowS byteE 5 Y.drew g sp M := hRY
    have gYd : w.grownBy Y.drew (some g) := grown_trans gY ⟨rfl,rfl,rfl,Nat.le_refl _,fun _ _ _ => rfl⟩
    have a1 : Y.drew.cell? ⟨g,k + m * 1,none⟩ = some (u8 l[k + m]) := by
     have := byte_row hRYd i1
     rw [e1,Nat.mul_one,Nat.zero_add] at this
     rw [Nat.mul_one]; exact this
    have a0 : Y.drew.cell? ⟨g,k + (m - 1) * 1,none⟩ = some (u8 l[k + m - 1]) := by
     have := byte_row hRYd i0
     rw [e0,Nat.mul_one,Nat.zero_add] at this
     rw [Nat.mul_one,← Nat.add_sub_assoc hm1]; exact this
    refine ⟨m,rfl,by omega,?_⟩
    refine ⟨_,a1,?_⟩
    refine ⟨((m - 1 : Nat) : Int),(wrap_i64 (by omega)).trans (by omega),?_⟩
    refine ⟨m - 1,rfl,by omega,?_⟩
    refine ⟨_,a0,?_⟩
    refine And.intro (fun hne => ?_) (fun hne => ?_)
    ·have hne : ¬ l[k + m] = l[k + m - 1] := fun e => by
      have hne : (!decide (((l[k + m]).toNat : Int) = ((l[k + m - 1]).toNat : Int))) = true := hne
      rw [e,decide_eq_true rfl] at hne; cases hne
     rw [if_neg hne] at nx
     refine ⟨m,rfl,by omega,?_⟩
     refine ⟨_,a1,?_⟩
     refine ⟨q,rfl,by omega,?_⟩
     refine store_row (ttOk.get 5 _ rfl) rfl hRYd (i := q) (by omega) l[k + m] fun Z hRZ gZ sZ => ?_
     refine ⟨((q + 1 : Nat) : Int),(wrap_i64 (by omega)).trans (by omega),?_⟩
     refine ⟨((m + 1 : Nat) : Int),(wrap_i64 (by omega)).trans (by omega),?_⟩
     refine ⟨(m + 1,q + 1,M.set q l[k + m]),⟨.cons rfl (.cons rfl (.cons rfl (.cons rfl .nil))),rfl⟩,⟨⟨by omega,by show k + (m + 1) ≤ _; omega⟩,⟨?_,by show q + 1 + 1 ≤ k + (m + 1); omega⟩,⟨by rw [List.length_set]; exact hM,?_,fun j hj => ?_⟩,hRZ,grown_trans gYd gZ⟩,by show l.length - (m + 1) < l.length - m; omega⟩
     ·show q + 1 = (ded (l.take (k + (m + 1)))).length
      rw [← Nat.add_assoc,nx,List.length_append,← hq]; rfl
     ·show (M.set q l[k + m]).take (q + 1) = ded (l.take (k + (m + 1)))
      rw [← Nat.add_assoc,nx,← hMt]
      rw [List.take_succ_eq_append_getElem (by rw [List.length_set]; omega),List.take_set_of_le (Nat.le_refl _),List.getElem_set_self]
     ·show (M.set q l[k + m])[j]? = l[j]?
      have hj : q + 1 ≤ j := hj
      rw [List.getElem?_set_ne (by omega)]
      exact hMj j (by omega)
    ·have heq : l[k + m] = l[k + m - 1] := by
      have hne : (!decide (((l[k + m]).toNat : Int) = ((l[k + m - 1]).toNat : Int))) = false := hne
      have h2 : decide (((l[k + m]).toNat : Int) = ((l[k + m - 1]).toNat : Int)) = true := by simpa using hne
      exact u8_eq.1 (of_decide_eq_true h2)
     rw [if_pos heq] at nx
     refine ⟨((m + 1 : Nat) : Int),(wrap_i64 (by omega)).trans (by omega),?_⟩
     exact ⟨(m + 1,q,M),⟨.cons rfl (.cons rfl (.cons rfl (.cons rfl .nil))),rfl⟩,⟨⟨by omega,by show k + (m + 1) ≤ _; omega⟩,⟨by show q = (ded (l.take (k + (m + 1)))).length; rw [← Nat.add_assoc,nx]; exact hq,by show q + 1 ≤ k + (m + 1); omega⟩,⟨hM,by show M.take q = ded (l.take (k + (m + 1))); rw [← Nat.add_assoc,nx]; exact hMt,hMj⟩,hRYd,gYd⟩,by show l.length - (m + 1) < l.length - m; omega⟩
   ·have hc : ¬ (m : Int) < ((l.length - k : Nat) : Int) := of_decide_eq_false hc
    have hkm : k + m = l.length := by omega
    rw [hkm,List.take_length] at hq hMt
    refine ⟨q,rfl,by show q ≤ l.length; omega,?_⟩
    have hcb2 : cutBase (some ⟨g,0,none⟩) cap q 1 = some ⟨g,q,none⟩ := by
     unfold cutBase
     rw [if_neg (by omega)]
     show some ((⟨g,0,none⟩ : Addr).add (q * 1)) = _
     rw [addr_add,Nat.mul_one,Nat.zero_add]
    have hfl : (M.flatMap byteE.enc ++ sp).length = cap := by
     rw [List.length_append,flat_len,hM]
     show l.length * 1 + _ = _
     omega
    have hcl : SatR ((Builtin.clear_ #[58] 0 #[.slice (some ⟨g,q,none⟩) (l.length - q) (cap - q)]).run Tryz.prog Y) fun _ Z => Z.heap[g]? = some (.cells ((M.flatMap byteE.enc ++ sp).take q ++ List.replicate (l.length - q) (u8 0) ++ (M.flatMap byteE.enc ++ sp).drop (q + (l.length - q))).toArray 5 (0,0)) ∧ Y.grownBy Z (some g) :=
     clear_row Tryz.underlying58 (ttOk.get 5 _ rfl) rfl rfl (by omega) hRY (by show q + (l.length - q) ≤ (M.flatMap byteE.enc ++ sp).length; rw [hfl]; omega) fun Z fZ gZ sZ => ⟨fZ,gZ⟩
    obtain ⟨v,Z,hrun,fZ,gZ⟩ := hcl
    refine ⟨v,Z,by rw [hcb2]; exact hrun,?_⟩
    refine ⟨q,rfl,by show q ≤ cap; omega,?_⟩
    rw [← hq]
    refine ⟨by show Ending.returned (Value.slice (cutBase (some ⟨g,0,none⟩) cap 0 1) (q - 0) (cap - 0)) = _; rw [cutBase_zero]; rfl,?_,grown_trans gY gZ⟩
    unfold OwnS World.ownsRow
    refine ⟨by rw [flat_len],.inr ⟨g,cap,_,rfl,hB,fZ,by omega,hcm,?_,?_⟩⟩
    ·show (List.length _) = cap * 1
     rw [List.length_append,List.length_append,List.length_take,List.length_replicate,List.length_drop,hfl]
     omega
    ·rw [← hq]
     show ((M.flatMap byteE.enc ++ sp).take q ++ List.replicate (l.length - q) (u8 0) ++ (M.flatMap byteE.enc ++ sp).drop (q + (l.length - q))).take (q * 1) = _
     rw [Nat.mul_one,List.append_assoc,List.take_append_of_le_length (by rw [List.length_take,hfl]; omega),List.take_take,Nat.min_self,List.take_append_of_le_length (by rw [flat_len,hM]; show q ≤ l.length * 1; omega),← hMt]
     have := List.take_append_drop q M
     have e2 : M.flatMap byteE.enc = (M.take q).flatMap byteE.enc ++ (M.drop q).flatMap byteE.enc := by rw [← List.flatMap_append,List.take_append_drop]
     rw [e2,List.take_left' (by rw [flat_len,List.length_take]; show min q M.length * 1 = q; omega)]
  ·have he : ¬ l[k] = l[k - 1] := fun e => (of_decide_eq_false he) (by rw [e])
   rw [if_neg he,hdk] at hnx
   refine ⟨((k + 1 : Nat) : Int),(wrap_i64 (by omega)).trans (by omega),?_⟩
   exact ⟨k + 1,⟨.cons rfl (.cons rfl .nil),rfl⟩,⟨by omega,hk,by rw [hnx,List.take_succ_eq_append_getElem hk],hRd,gd⟩,by show l.length - (k + 1) < l.length - k; omega⟩
 ·have hc : ¬ (k : Int) < (l.length : Int) := of_decide_eq_false hc
  obtain rfl : k = l.length := by omega
  rw [List.take_length] at hdk
  rw [hdk]
  refine ⟨rfl,?_,gX⟩
  unfold OwnS World.ownsRow
  refine ⟨by rw [flat_len],.inr ⟨g,cap,_,rfl,hB,hRX,by omega,hcm,?_,?_⟩⟩
  ·show (l.flatMap byteE.enc ++ sp).length = cap * 1
   rw [List.length_append,flat_len]
   show l.length * 1 + _ = _
   omega
  ·exact List.take_left' (flat_len l)
end
end Go.Proofs.YtkpcgpmimejimaaGreatDoor
namespace Go.Proofs.YtkpcgpmimejimaaGreatDoor
open Go.Vc Go.RowKit Go.Sei
def prE : Enc (Nat × Nat) := ⟨fun x => [u8 (UInt8.ofNat x.1),u8 (UInt8.ofNat x.2)],2,fun _ => rfl,by decide,fun a u hu => by
 simp only [List.mem_cons,List.not_mem_nil,or_false] at hu
 rcases hu with rfl | rfl <;> rfl⟩
def setE32 : Enc Nat := ⟨fun x => [s32 x],1,fun _ => rfl,by decide,fun a u hu => by
 simp only [List.mem_cons,List.not_mem_nil,or_false] at hu; subst hu; rfl⟩
theorem tz32_c {s : Nat} {w : World} (hT : Tz32M w) (h0 : s ≠ 0) (h : s < 2 ^ 32) : Calls Tryz.prog 184 #[s32 s] w fun e w' => e = .returned (i64 (ctz s : Nat)) ∧ w = w' := by
 refine calls_of_E (S := sg 14) (sgOk _) (args := [s32 s]) Tryz.func184 rfl rfl (Nat.le_of_ble_eq_true rfl) rfl ?_
 obtain ⟨h2,h3⟩ := els_step32 h0 h
 obtain ⟨t1,t2⟩ := tz32_tab h3
 refine brN (decide_eq_false (fun e => h0 (by omega))) ?_
 refine ⟨((2 ^ 32 - s : Nat) : Int),by unfold IntKind.wrap; simp only [IntKind.bits,IntKind.signed,Bool.false_and,Bool.false_eq_true,if_false]; omega,?_⟩
 refine ⟨((2 ^ ctz s : Nat) : Int),(w32_and (a := s) (b := 2 ^ 32 - s) h (by omega)).trans (by rw [h2]),?_⟩
 refine ⟨((2 ^ ctz s * 125613361 % 4294967296 : Nat) : Int),by
  have e : (((2 ^ ctz s : Nat) : Int) * 125613361) = ((2 ^ ctz s * 125613361 : Nat) : Int) := by rw [Int.natCast_mul]; rfl
  rw [e]
  generalize 2 ^ ctz s * 125613361 = n
  unfold IntKind.wrap; simp only [IntKind.bits,IntKind.signed,Bool.false_and,Bool.false_eq_true,if_false]; omega,?_⟩
 refine ⟨by decide,((2 ^ ctz s * 125613361 % 4294967296 / 2 ^ 27 : Nat) : Int),by
  generalize 2 ^ ctz s * 125613361 % 4294967296 = n
  show (n : Int).fdiv (2 ^ (min (Int.toNat (27 : Int)) IntKind.u32.bits)) = _
  rw [show min (Int.toNat (27 : Int)) IntKind.u32.bits = 27 from rfl,Int.fdiv_eq_ediv_of_nonneg _ (by decide)]; omega,?_⟩
 refine ⟨_,rfl,t1,?_⟩
 have hv : (tz32L.map u8)[2 ^ ctz s * 125613361 % 4294967296 / 2 ^ 27]? = some (u8 (UInt8.ofNat (ctz s))) := by rw [List.getElem?_map,t2]; rfl
 refine ⟨u8 (UInt8.ofNat (ctz s)),by rw [Nat.mul_one]; exact cells_at hT hv,?_⟩
 have e : (UInt8.ofNat (ctz s)).toNat = ctz s := by rw [UInt8.toNat_ofNat']; omega
 exact ⟨(ctz s : Int),by rw [e]; exact wrap_i64 (by omega),rfl,rfl⟩
def pairsL : Nat → List Nat → List (Nat × Nat)
 | _,[] => []
 | i,s :: r => (els s).map (fun a => (a,i)) ++ pairsL (i + 1) r
theorem pairsL_map (f : Nat → Nat) : ∀ (n i : Nat),pairsL i ((List.range' i n).map f) = (List.range' i n).flatMap fun i => (els (f i)).map fun a => (a,i)
 | 0,i => rfl
 | n + 1,i => by
  rw [List.range'_succ,List.map_cons,List.flatMap_cons]
  show (els (f i)).map _ ++ pairsL (i + 1) _ = _
  rw [pairsL_map f n (i + 1)]
theorem pairsR_eq (f : Nat → Nat) (n : Nat) : pairsL 0 ((List.range n).map f) = pairsR f n := by
 unfold pairsR
 rw [List.range_eq_range']
 exact pairsL_map f n 0
theorem pairs_snoc (l : List Nat) (x : Nat) : ∀ i,pairsL i (l ++ [x]) = pairsL i l ++ (els x).map (fun a => (a,i + l.length)) := by
 induction l with
 | nil => intro i; show (els x).map _ ++ [] = _; rw [List.append_nil]; rfl
 | cons y r ih =>
  intro i
  show (els y).map _ ++ pairsL (i + 1) (r ++ [x]) = ((els y).map _ ++ pairsL (i + 1) r) ++ _
  rw [ih,List.append_assoc,List.length_cons]
  congr 3
  funext a
  congr 1
  omega
theorem pairs_len : ∀ (l : List Nat) (i : Nat),(pairsL i l).length ≤ 64 * l.length
 | [],_ => Nat.zero_le _
 | x :: r,i => by
  show ((els x).map _ ++ pairsL (i + 1) r).length ≤ _
  rw [List.length_append,List.length_map,List.length_cons]
  have h1 := pairs_len r (i + 1)
  have h2 := els_len x
  omega
section
variable {p : Option Addr} {cap : Nat} {l : List Nat} {w : World}
theorem pairs_c (hl : SlR setE32 w p l) (hn : l.length ≤ 24) (hb : ∀ x ∈ l,x < 2 ^ 32) (hT : Tz32M w) :
  Calls Tryz.prog 148 #[.slice p l.length cap] w fun e w' => (∃ q c,e = .returned (.slice q (pairsL 0 l).length c) ∧ OwnS prE 37 w.heap.size w' q c (pairsL 0 l)) ∧ Below w.heap.size w w' := by
 refine calls_of_E (S := sg 30) (sgOk _) (args := [.slice p l.length cap]) Tryz.func148 rfl rfl (Nat.le_of_ble_eq_true rfl) rfl ?_
 refine ⟨Nat × Option Addr × Nat,fun s => ⟨[(3,.slice s.2.1 (pairsL 0 (l.take s.1)).length s.2.2),(6,.slice p l.length cap),(7,i64 l.length),(8,i64 (s.1 : Nat))],[]⟩,
  fun s X => s.1 ≤ l.length ∧ OwnS prE 37 w.heap.size X s.2.1 s.2.2 (pairsL 0 (l.take s.1)) ∧ Below w.heap.size w X,fun s => l.length - s.1,(0,none,0),
  ⟨.cons rfl (.cons rfl (.cons rfl (.cons rfl .nil))),rfl⟩,⟨Nat.zero_le _,OwnS.nil,Below.refl _ _⟩,?_⟩
 rintro ⟨k,q,c⟩ X ⟨hk,ho,hbX⟩
 dsimp only at hk ho ⊢
 refine And.intro (fun hc => ?_) (fun hc => ?_)
 ·have hc : (k : Int) < (l.length : Int) := of_decide_eq_true hc
  have hkl : k < l.length := by omega
  obtain ⟨b,o,hp,hlt',hat⟩ := (hl.below hbX).at hkl
  have ep : some (Value.slice p l.length cap) = some (Value.slice (some ⟨b,o,none⟩) l.length cap) := by rw [hp]
  subst hp
  refine ⟨k,rfl,hkl,?_⟩
  refine ⟨s32 l[k],by have := cells_at (hat k hkl) (i := 0) (v := s32 l[k]) rfl; exact this,?_⟩
  have hlk := hb _ (List.getElem_mem hkl)
  have htl : (l.take k).length = k := by rw [List.length_take]; omega
  have hpl := pairs_len (l.take k) 0
  have tk : l.take (k + 1) = l.take k ++ [l[k]] := List.take_succ_eq_append_getElem hkl
  refine ⟨Nat × List (Nat × Nat) × Option Addr × Nat,fun s => ⟨[(3,.slice s.2.2.1 s.2.1.length s.2.2.2),(4,i64 (k : Nat)),(5,s32 s.1),(6,.slice (some ⟨b,o,none⟩) l.length cap),(7,i64 l.length),(8,i64 (k : Nat))],[]⟩,
   fun s Y => (pairsL 0 (l.take (k + 1)) = s.2.1 ++ (els s.1).map (fun a => (a,k)) ∧ s.1 < 2 ^ 32 ∧ s.2.1.length + (els s.1).length ≤ 64 * (k + 1)) ∧ OwnS prE 37 w.heap.size Y s.2.2.1 s.2.2.2 s.2.1 ∧ Below w.heap.size w Y,fun s => s.1,(l[k],pairsL 0 (l.take k),q,c),
   ⟨.cons rfl (.cons rfl (.cons rfl (.cons rfl (.cons rfl (.cons rfl .nil))))),rfl⟩,⟨⟨by rw [tk,pairs_snoc,htl,Nat.zero_add],hlk,by have := els_len l[k]; show (pairsL 0 (l.take k)).length + (els l[k]).length ≤ _; omega⟩,ho,hbX⟩,?_⟩
  rintro ⟨s,m,q,c⟩ Y ⟨⟨he,hs,hlen⟩,ho,hbY⟩
  dsimp only at he hs hlen ho ⊢
  refine And.intro (fun hc => ?_) (fun hc => ?_)
  ·have hc : (!decide ((s : Int) = 0)) = true := hc
   have h0 : s ≠ 0 := fun e => by
    subst e
    exact absurd hc (by decide)
   have hs64 : s < 2 ^ 64 := Nat.lt_of_lt_of_le hs (by decide)
   obtain ⟨e1,e2,_,_⟩ := els_step h0 hs64
   obtain ⟨_,hc32⟩ := els_step32 h0 hs
   rw [e1] at hlen
   refine Calls.mono (tz32_c (hT.below hbY) h0 hs) ?_
   rintro e _ ⟨rfl,rfl⟩
   refine ⟨_,w8N _,?_⟩
   refine ⟨_,w8N _,?_⟩
   refine ⟨prE.enc (ctz s,k),rfl,?_⟩
   refine ⟨⟨by decide,by decide,rfl⟩,prE.enc (ctz s,k),fill_one rfl rfl,?_⟩
   have hba : Below Y.heap.size Y (Y.alloc (.cells (prE.enc (ctz s,k)).toArray 37)) := (Below.refl _ _).alloc (Nat.le_refl _) _
   simp only [List.length_cons] at hlen
   refine app_own (E := prE) (T := 37) (B := w.heap.size) (l := m) (news := [(ctz s,k)]) (cap := c) (m := 1) Tryz.underlying38 (ttOk.get 37 _ rfl) rfl rfl rfl (ho.below hba) rfl (one_new prE (ctz s,k)) (by have := hbY.size; have := hba.size; omega) (by omega) (by show (m.length + 1) * 2 ≤ _; omega) ?_
   intro p2 c2 Z oZ gZ hbZ hat2
   refine ⟨((s - 1 : Nat) : Int),(w32 (a := (s : Int) - 1) (by omega)).trans (by omega),?_⟩
   refine ⟨((rest s : Nat) : Int),w32_and (a := s) (b := s - 1) hs (by omega),?_⟩
   refine ⟨(rest s,m ++ [(ctz s,k)],p2,c2),⟨.cons rfl (.cons rfl (.cons rfl (.cons rfl (.cons rfl (.cons rfl .nil))))),rfl⟩,⟨⟨?_,by show rest s < _; omega,?_⟩,oZ,(hbY.trans (hba.mono hbY.size)).trans hbZ⟩,e2⟩
   ·rw [he,e1,List.map_cons,List.append_assoc]; rfl
   ·simp only [List.length_append,List.length_cons,List.length_nil]; omega
  ·have hc : (!decide ((s : Int) = 0)) = false := hc
   have h0 : s = 0 := by
    have h1 : decide ((s : Int) = 0) = true := by simpa using hc
    exact Int.ofNat.inj (of_decide_eq_true h1)
   subst h0
   rw [els_zero,List.map_nil,List.append_nil] at he
   refine ⟨((k + 1 : Nat) : Int),(wrap_i64 (by omega)).trans (by omega),?_⟩
   exact ⟨(k + 1,q,c),⟨.cons (by rw [he]; rfl) (.cons rfl (.cons rfl (.cons rfl .nil))),rfl⟩,⟨hkl,by show OwnS prE _ _ _ _ _ (pairsL 0 (l.take (k + 1))); rw [he]; exact ho,hbY⟩,by show l.length - (k + 1) < l.length - k; omega⟩
 ·have hc : ¬ (k : Int) < (l.length : Int) := of_decide_eq_false hc
  obtain rfl : k = l.length := by omega
  rw [List.take_length] at ho
  refine ⟨⟨q,c,by rw [List.take_length]; rfl,ho⟩,hbX⟩
theorem CloneEv_c {p : Option Addr} {cap : Nat} {l : List Ev} {w : World} (hl : SlR evE w p l) (hn : l.length ≤ 100000) (hc : p = none → cap = 0) :
  Calls Tryz.prog 108 #[.slice p l.length cap] w fun e w' => (∃ q c,e = .returned (.slice q l.length c) ∧ OwnS evE 52 w.heap.size w' q c l) ∧ Below w.heap.size w w' := by
 refine calls_of_E (S := sg 8) (sgOk _) (args := [.slice p l.length cap]) Tryz.func108 rfl rfl (Nat.le_of_ble_eq_true rfl) rfl ?_
 refine ⟨_,fun w => eqlS Tryz.underlying22 _ _ p l.length cap w,?_⟩
 cases p with
 | none =>
  refine brT ?_
  have e := hl.none
  subst e
  exact ⟨⟨none,0,rfl,OwnS.nil⟩,Below.refl _ _⟩
 | some a =>
  refine brF ?_
  refine ⟨⟨by decide,by decide,rfl⟩,[],rfl,?_⟩
  have hb0 : Below w.heap.size w (w.alloc (.cells #[] 52)) := (Below.refl _ w).alloc (Nat.le_refl _) _
  refine app_any (E := evE) (T := 52) (B := w.heap.size) (l := []) (news := l) (cap := 0) Tryz.underlying22 (ttOk.get 52 _ rfl) rfl rfl rfl own_made rfl (hl.below hb0) (fun h => by cases h) hb0.size (by simp; omega) (by show (0 + l.length) * 16 ≤ _; omega) ?_
  intro p' cap' w' ho hg hbw
  exact ⟨⟨p',cap',rfl,ho⟩,hb0.trans hbw⟩
end
end Go.Proofs.YtkpcgpmimejimaaGreatDoor
namespace Go.Proofs.YtkpcgpmimejimaaGreatDoor
open Go.Vc Go.RowKit Go.Sei
theorem distinct_c {p : Option Addr} {cap : Nat} {l : List UInt8} {w : World} (hl : SlR byteE w p l) (h1 : 1 ≤ l.length) (h12 : l.length ≤ 12) (hs : srt8 l = true) :
  Calls Tryz.prog 100 #[.slice p l.length cap] w fun e w' => (∃ q c,e = .returned (.slice q (ded l).length c) ∧ OwnS byteE 5 w.heap.size w' q c (ded l)) ∧ Below w.heap.size w w' := by
 refine calls_of_E (S := sg 9) (sgOk _) (args := [.slice p l.length cap]) Tryz.func100 rfl rfl (Nat.le_of_ble_eq_true rfl) rfl ?_
 refine Calls.mono (Clone8_c hl (by omega) (fun e => by subst e; have := hl.none; subst this; simp at h1)) ?_
 rintro e X ⟨⟨q,c,rfl,ho⟩,hbX⟩
 rcases ho.inv with ⟨_,_,h0⟩ | ⟨g,cur,rfl,hB,_⟩
 ·rw [h0] at h1; simp at h1
 refine Calls.mono (Sort8_c ho.row h12 hs) ?_
 rintro e Y ⟨rfl,hbY⟩
 have hbY' : Below X.heap.size X Y := ⟨hbY.os,hbY.tape,hbY.output,hbY.size,hbY.block⟩
 refine Calls.mono (Compact8_c (ho.below hbY) (by omega)) ?_
 rintro e Z ⟨rfl,oZ,gZ⟩
 have hwX := hbX.size
 exact ⟨⟨_,_,rfl,oZ⟩,(hbX.trans (hbY.mono hwX)).trans (below_grown gZ (Nat.le_trans hwX hbY.size) hB)⟩
def pthC (P : PathD) (q1 : Option Addr) (c1 : Nat) (q2 : Option Addr) (c2 : Nat) (q3 : Option Addr) (c3 : Nat) (q4 : Option Addr) (c4 : Nat) : List Value :=
 [.slice q1 P.ev.length c1,.slice q2 P.data.length c2,.slice q3 P.ctrl.length c3,.slice q4 P.rmw.length c4] ++ seg 8 (fun i => u8 (P.regs i))
theorem pthC_one (P : PathD) (q1 c1 q2 c2 q3 c3 q4 c4) : (pthC P q1 c1 q2 c2 q3 c3 q4 c4).all Value.oneCell' = true := by
 unfold pthC
 rw [List.all_append,seg_one fun _ => rfl]; rfl
theorem pthC_len (P : PathD) (q1 c1 q2 c2 q3 c3 q4 c4) : (pthC P q1 c1 q2 c2 q3 c3 q4 c4).length = 12 := by
 unfold pthC
 rw [List.length_append,seg_len]; rfl
def RunB (R : RunD) : Prop := ∀ i,i < R.many → R.data i < 2 ^ 32 ∧ R.ctrl i < 2 ^ 32 ∧ R.att i < 2 ^ 32
section
variable {R : RunD} {b : Nat} {w : World}
theorem seg32_row {X : World} {o n m : Nat} {f : Nat → Nat} (hb : b < X.heap.size) (h : ∀ i,i < n → X.cell? ⟨b,o + i,none⟩ = some (s32 (f i))) (hm : m ≤ n) : SlR setE32 X (some ⟨b,o,none⟩) ((List.range m).map f) := by
 refine .inr ⟨b,o,rfl,hb,fun i hi => ?_⟩
 have hi : i < m := by simpa using hi
 rw [List.getElem_map,List.getElem_range]
 refine cells_mk fun j v hv => ?_
 cases j with
 | zero =>
  have hv : s32 (f i) = v := by simpa [setE32] using hv
  rw [← hv]
  show X.cell? ⟨b,o + i * 1 + 0,none⟩ = _
  rw [Nat.mul_one,Nat.add_zero]
  exact h i (by omega)
 | succ j => simp [setE32] at hv
theorem evs_row {X : World} {m : Nat} (f : RunH X b R) (hm : m ≤ 24) : SlR evE X (some ⟨b,19,none⟩) ((List.range m).map R.ev) := by
 have hc := run_evs f
 refine .inr ⟨b,19,rfl,hlt f,fun i hi => ?_⟩
 have hi : i < m := by simpa using hi
 rw [List.getElem_map,List.getElem_range,← evs_at R.ev (show i < 24 by omega)]
 exact cells_sub hc
theorem path_c (f : RunH w b R) (hm : R.many ≤ 24) (hB : RunB R) (hT : Tz32M w) :
  Calls Tryz.prog 130 #[AtR b] w fun e w' => (∃ q1 c1 q2 c2 q3 c3 q4 c4,e = .returned (.agg (pthC (pathR R) q1 c1 q2 c2 q3 c3 q4 c4).toArray) ∧ OwnS evE 52 w.heap.size w' q1 c1 (pathR R).ev ∧ OwnS prE 37 w.heap.size w' q2 c2 (pathR R).data ∧ OwnS prE 37 w.heap.size w' q3 c3 (pathR R).ctrl ∧ OwnS prE 37 w.heap.size w' q4 c4 (pathR R).rmw) ∧ Below w.heap.size w w' := by
 refine calls_of_E (S := sg 44) (sgOk _) (args := [AtR b]) Tryz.func130 rfl rfl (Nat.le_of_ble_eq_true rfl) rfl ?_
 obtain ⟨Z0,hZ0⟩ : ∃ Z0 : List Value,Z0 = pthC ⟨[],[],[],[],fun _ => 0⟩ none 0 none 0 none 0 none 0 := ⟨_,rfl⟩
 have f0 := hnew w (.cells Z0.toArray 165)
 have hb0 : Below w.heap.size w (w.alloc (.cells Z0.toArray 165)) := (Below.refl _ w).alloc (Nat.le_refl _) _
 obtain ⟨X,hX⟩ : ∃ X,X = (w.alloc (.cells Z0.toArray 165)).drew := ⟨_,rfl⟩
 have hbX : Below w.heap.size w X := by rw [hX]; exact hb0.drew
 have f0X : X.heap[w.heap.size]? = some (.cells Z0.toArray 165 (0,0)) := by rw [hX]; exact f0
 have fX := block_below hbX f
 have hX' : (w.alloc (.cells (#[.slice none 0 0,.slice none 0 0,.slice none 0 0,.slice none 0 0,.int .u8 0,.int .u8 0,.int .u8 0,.int .u8 0,.int .u8 0,.int .u8 0,.int .u8 0,.int .u8 0] : Array Value) 165)).drew = X := by rw [hX,hZ0]; rfl
 refine DrawE.ord [41] [0,1,2,3,4,5,6,7,9,10,11,12,13,14,15,16,18,19,20,21,22,23,24,25,27,28,29,30,31,32,33,34,36,37,38,39,8,17,26,35,40,41] (by kernel_rfl) ?_
 have cut : ∀ (o e : Nat),Value.slice (cutBase (some ⟨b,0 + o,none⟩) 24 0 e) (R.many - 0) (24 - 0) = .slice (some ⟨b,o,none⟩) R.many 24 := fun o e => by rw [cutBase_zero,Nat.zero_add]; rfl
 have lm : ∀ {α : Type} (g : Nat → α),((List.range R.many).map g).length = R.many := fun g => by rw [List.length_map,List.length_range]
 have hbx := hlt fX
 have sd : ∀ {o : Nat} {g : Nat → Nat},(∀ i,i < 24 → (runC R)[o + i]? = some (s32 (g i))) → SlR setE32 X (some ⟨b,o,none⟩) ((List.range R.many).map g) := fun {o g} h => seg32_row hbx (fun i hi => by
  have := cells_at (cells_block fX) (h i hi)
  rw [Nat.zero_add] at this; exact this) hm
 rw [hX']
 refine ⟨_,cells_at (cells_block fX) (i := 18) (run_many R),?_⟩
 refine ⟨R.many,rfl,hm,?_⟩
 refine ⟨_,cells_at (cells_block fX) (i := 18) (run_many R),?_⟩
 refine ⟨R.many,rfl,hm,?_⟩
 refine ⟨_,cells_at (cells_block fX) (i := 18) (run_many R),?_⟩
 refine ⟨R.many,rfl,hm,?_⟩
 refine ⟨_,cells_at (cells_block fX) (i := 18) (run_many R),?_⟩
 refine ⟨R.many,rfl,hm,?_⟩
 refine ⟨seg 8 (fun i => u8 (R.regs i)),seg_len _ _,?_,hbx,?_⟩
 ·have := cells_sub (n := 1) (m := 8) (cells_block fX)
  have e : ((runC R).toArray.toList.drop 1).take 8 = seg 8 (fun i => u8 (R.regs i)) := by
   show (seg 8 (fun i => u8 (R.regs i)) ++ _).take 8 = _
   exact List.take_left' (seg_len _ _)
  rw [e] at this
  exact this
 have c1 := CloneEv_c (w := X) (cap := 24) (evs_row fX hm) (by rw [lm]; omega) (fun h => by cases h)
 rw [lm,← cut 19 7] at c1
 refine Calls.mono c1 ?_
 rintro e Y1 ⟨⟨q1,k1,rfl,o1⟩,hb1⟩
 refine ⟨hb1,?_⟩
 have hw1 := hbX.trans (hb1.mono hbX.size)
 have c2 := pairs_c (w := Y1) (cap := 24) ((sd (o := 187) (g := R.data) fun i hi => run_data R hi).below hb1) (by rw [lm]; exact hm) (fun x hx => by
  obtain ⟨i,hi,rfl⟩ := List.mem_map.1 hx
  exact (hB i (List.mem_range.1 hi)).1) (hT.below hw1)
 rw [lm,← cut 187 1,pairsR_eq] at c2
 refine Calls.mono c2 ?_
 rintro e Y2 ⟨⟨q2,k2,rfl,o2⟩,hb2⟩
 refine ⟨hb2,?_⟩
 have hx2 := hb1.trans (hb2.mono hb1.size)
 have hw2 := hbX.trans (hx2.mono hbX.size)
 have c3 := pairs_c (w := Y2) (cap := 24) ((sd (o := 211) (g := R.ctrl) fun i hi => run_ctrl R hi).below hx2) (by rw [lm]; exact hm) (fun x hx => by
  obtain ⟨i,hi,rfl⟩ := List.mem_map.1 hx
  exact (hB i (List.mem_range.1 hi)).2.1) (hT.below hw2)
 rw [lm,← cut 211 1,pairsR_eq] at c3
 refine Calls.mono c3 ?_
 rintro e Y3 ⟨⟨q3,k3,rfl,o3⟩,hb3⟩
 refine ⟨hb3,?_⟩
 have hx3 := hx2.trans (hb3.mono hx2.size)
 have hw3 := hbX.trans (hx3.mono hbX.size)
 have c4 := pairs_c (w := Y3) (cap := 24) ((sd (o := 235) (g := R.att) fun i hi => run_att R hi).below hx3) (by rw [lm]; exact hm) (fun x hx => by
  obtain ⟨i,hi,rfl⟩ := List.mem_map.1 hx
  exact (hB i (List.mem_range.1 hi)).2.2) (hT.below hw3)
 rw [lm,← cut 235 1,pairsR_eq] at c4
 refine Calls.mono c4 ?_
 rintro e Y4 ⟨⟨q4,k4,rfl,o4⟩,hb4⟩
 refine ⟨hb4,?_⟩
 have hx4 := hx3.trans (hb4.mono hx3.size)
 have hw4 := hbX.trans (hx4.mono hbX.size)
 have le1 : (pathR R).ev.length = R.many := lm _
 obtain ⟨cs,hcs⟩ : ∃ cs,cs = pthC (pathR R) q1 k1 q2 k2 q3 k3 q4 k4 := ⟨_,rfl⟩
 refine ⟨cs,by rw [hcs]; unfold pthC; rw [le1]; rfl,?_⟩
 have f4 := block_below hx4 f0X
 have hone : cs.all Value.oneCell' = true := by rw [hcs]; exact pthC_one ..
 have hlen : cs.length = 12 := by rw [hcs]; exact pthC_len ..
 refine store_box (v := .agg cs.toArray) (ttOk.get 165 _ rfl) f4 hlen (by rw [hZ0]; rfl) hone ?_
 have f5 := setRow_new (cs' := (Value.agg cs.toArray).cells) f4
 have hs : w.heap.size ≤ X.heap.size := hbX.size
 have keep : ∀ {α : Type} {E : Enc α} {T B c : Nat} {p : Option Addr} {l : List α},X.heap.size ≤ B → OwnS E T B Y4 p c l → OwnS E T w.heap.size (Y4.setRow w.heap.size (Value.agg cs.toArray).cells) p c l := fun {α E T B c p l} hB o => by
  refine OwnS.lower (o.kept (grown_setRow Y4 w.heap.size _) fun g hg e => ?_) (Nat.le_trans hs hB)
  rcases o.inv with ⟨h,_⟩ | ⟨g',cur,h,h2,_⟩
  ·rw [h] at hg; cases hg
  ·rw [h] at hg
   simp only [Option.some.injEq,Addr.mk.injEq,and_true] at hg e
   have := hlt f0X
   omega
 have n1 := hb1.size
 have n2 := hb2.size
 have n3 := hb3.size
 refine ⟨cs,hlen,cells_block f5,⟨q1,k1,q2,k2,q3,k3,q4,k4,by rw [hcs]; rfl,keep (Nat.le_refl _) (((o1.below hb2).below hb3).below hb4),keep (by omega) ((o2.below hb3).below hb4),keep (by omega) (o3.below hb4),keep (by omega) o4⟩,below_setRow hw4 (Nat.le_refl _) _⟩
end
end Go.Proofs.YtkpcgpmimejimaaGreatDoor
namespace Go.Proofs.YtkpcgpmimejimaaGreatDoor
open Go.Vc Go.RowKit Go.Sei
theorem classOf_c (c : UInt8) (w : World) : Calls Tryz.prog 156 #[u8 c] w fun e w' => e = .returned (i64 (clsL c)) ∧ w = w' := by
  refine calls_of_M (S := sg 47) (sgOk _) (args := [u8 c]) (.s .p (.c .p .p)) Tryz.func156 rfl rfl (Nat.le_of_ble_eq_true rfl) rfl ?_
  refine ⟨Unit,fun _ => ⟨[(0,u8 c)],[]⟩,fun _ X => isLet c = false ∧ isDig c = false ∧ w = X,?_,?_⟩
  · repeat first
      | exact ⟨(),⟨.cons rfl .nil,rfl⟩,by unfold isLet; simp only [*]; rfl,by unfold isDig; simp only [*]; rfl,rfl⟩
      | exact ⟨by
          first
          | (have e : isLet c = true := by unfold isLet; simp only [*]; rfl
             unfold clsL; rw [e]; rfl)
          | (have e1 : isLet c = false := by unfold isLet; simp only [*]; rfl
             have e2 : isDig c = true := by unfold isDig; simp only [*]; rfl
             unfold clsL; rw [e1,e2]; rfl),rfl⟩
      | refine brT ?_
      | refine brF ?_
      | refine brE (by assumption) ?_
      | refine brN (by assumption) ?_
      | refine And.intro (fun h => ?_) (fun h => ?_)
  rintro _ _ ⟨h1,h2,rfl⟩
  have key : clsL c = (bif eqB c 32 || eqB c 9 then 1 else bif eqB c 10 then 2 else bif eqB c 95 then 5 else bif eqB c 35 then 7 else bif markB c then 6 else 0) := by unfold clsL; rw [h1,h2]; rfl
  rw [key]
  clear key h1 h2
  unfold markB
  refine And.intro (fun h => ?_) (fun h => ?_)
  · have h : eqB c 32 = true := h
    refine brE h ?_
    exact ⟨by rw [h]; rfl,rfl⟩
  have h32 : eqB c 32 = false := h
  refine And.intro (fun h => ?_) (fun h => ?_)
  · have h : eqB c 9 = true := h
    exact ⟨by rw [h32,h]; rfl,rfl⟩
  have h9 : eqB c 9 = false := h
  refine And.intro (fun h => ?_) (fun h => ?_)
  · have h : eqB c 10 = true := h
    exact ⟨by rw [h32,h9,h]; rfl,rfl⟩
  have h10 : eqB c 10 = false := h
  refine And.intro (fun h => ?_) (fun h => ?_)
  · have h : eqB c 95 = true := h
    exact ⟨by rw [h32,h9,h10,h]; rfl,rfl⟩
  have h95 : eqB c 95 = false := h
  refine And.intro (fun h => ?_) (fun h => ?_)
  · have h : eqB c 35 = true := h
    exact ⟨by rw [h32,h9,h10,h95,h]; rfl,rfl⟩
  have h35 : eqB c 35 = false := h
  rw [h32,h9,h10,h95,h35]
  refine And.intro (fun h => ?_) (fun h => ?_)
  · have h : eqB c 61 = true := h
    refine brE h ?_
    exact ⟨by rw [h]; rfl,rfl⟩
  have h61 : eqB c 61 = false := h
  refine And.intro (fun h => ?_) (fun h => ?_)
  · have h : eqB c 43 = true := h
    refine brE h ?_
    exact ⟨by rw [h61,h]; rfl,rfl⟩
  have h43 : eqB c 43 = false := h
  refine And.intro (fun h => ?_) (fun h => ?_)
  · have h : eqB c 45 = true := h
    refine brE h ?_
    exact ⟨by rw [h61,h43,h]; rfl,rfl⟩
  have h45 : eqB c 45 = false := h
  refine And.intro (fun h => ?_) (fun h => ?_)
  · have h : eqB c 94 = true := h
    refine brE h ?_
    exact ⟨by rw [h61,h43,h45,h]; rfl,rfl⟩
  have h94 : eqB c 94 = false := h
  refine And.intro (fun h => ?_) (fun h => ?_)
  · have h : eqB c 38 = true := h
    refine brE h ?_
    exact ⟨by rw [h61,h43,h45,h94,h]; rfl,rfl⟩
  have h38 : eqB c 38 = false := h
  refine And.intro (fun h => ?_) (fun h => ?_)
  · have h : eqB c 124 = true := h
    refine brE h ?_
    exact ⟨by rw [h61,h43,h45,h94,h38,h]; rfl,rfl⟩
  have h124 : eqB c 124 = false := h
  refine And.intro (fun h => ?_) (fun h => ?_)
  · have h : eqB c 33 = true := h
    refine brE h ?_
    exact ⟨by rw [h61,h43,h45,h94,h38,h124,h]; rfl,rfl⟩
  have h33 : eqB c 33 = false := h
  refine And.intro (fun h => ?_) (fun h => ?_)
  · have h : eqB c 40 = true := h
    refine brE h ?_
    exact ⟨by rw [h61,h43,h45,h94,h38,h124,h33,h]; rfl,rfl⟩
  have h40 : eqB c 40 = false := h
  refine And.intro (fun h => ?_) (fun h => ?_)
  · have h : eqB c 41 = true := h
    refine brE h ?_
    exact ⟨by rw [h61,h43,h45,h94,h38,h124,h33,h40,h]; rfl,rfl⟩
  have h41 : eqB c 41 = false := h
  refine And.intro (fun h => ?_) (fun h => ?_)
  · have h : eqB c 58 = true := h
    refine brE h ?_
    exact ⟨by rw [h61,h43,h45,h94,h38,h124,h33,h40,h41,h]; rfl,rfl⟩
  have h58 : eqB c 58 = false := h
  refine And.intro (fun h => ?_) (fun h => ?_)
  · have h : eqB c 60 = true := h
    exact ⟨by rw [h61,h43,h45,h94,h38,h124,h33,h40,h41,h58,h]; rfl,rfl⟩
  have h60 : eqB c 60 = false := h
  exact ⟨by rw [h61,h43,h45,h94,h38,h124,h33,h40,h41,h58,h60]; rfl,rfl⟩
theorem inWord_c (c : UInt8) (w : World) : Calls Tryz.prog 158 #[u8 c] w fun e w' => e = .returned (.bool (inWordL c)) ∧ w = w' := by
  refine calls_of_E (S := sg 16) (sgOk _) (args := [u8 c]) Tryz.func158 rfl rfl (Nat.le_of_ble_eq_true rfl) rfl ?_
  refine Calls.mono (classOf_c c w) ?_
  rintro e _ ⟨rfl,rfl⟩
  have e3 : ∀ k : Nat,decide ((clsL c : Int) = (k : Int)) = decide (clsL c = k) := fun k => by rw [decide_eq_decide]; omega
  refine And.intro (fun h => ?_) (fun h => ?_)
  · have h : decide (clsL c = 3) = true := (e3 3).symm.trans h
    refine And.intro (fun _ => ?_) (fun h => by cases h)
    exact ⟨rb (by unfold inWordL; rw [h]; rfl),rfl⟩
  have h3 : decide (clsL c = 3) = false := (e3 3).symm.trans h
  refine And.intro (fun h => ?_) (fun h => ?_)
  · have h : decide (clsL c = 4) = true := (e3 4).symm.trans h
    exact ⟨rb (by unfold inWordL; rw [h3,h]; rfl),rfl⟩
  have h4 : decide (clsL c = 4) = false := (e3 4).symm.trans h
  exact ⟨rb (by unfold inWordL; rw [h3,h4]; exact e3 5),rfl⟩
end Go.Proofs.YtkpcgpmimejimaaGreatDoor
namespace Go.Proofs.YtkpcgpmimejimaaGreatDoor
open Go.Vc Go.RowKit Go.Sei
theorem run_step {p : UInt8 → Bool} {s : List UInt8} {k : Nat} (h : k < s.length) : runOf p (s.drop k) = if p s[k] then runOf p (s.drop (k + 1)) + 1 else 0 := by
 rw [List.drop_eq_getElem_cons h]; rfl
theorem run_end {p : UInt8 → Bool} {s : List UInt8} {k : Nat} (h : s.length ≤ k) : runOf p (s.drop k) = 0 := by
 rw [List.drop_of_length_le h]; rfl
theorem inRun {p : UInt8 → Bool} (s : List UInt8) (k : Nat) (h : k ≤ s.length) : k + runOf p (s.drop k) ≤ s.length := by
 have := runOf_le p (s.drop k)
 rw [List.length_drop] at this; omega
theorem nat_dec {a b : Nat} : decide ((a : Int) = (b : Int)) = decide (a = b) := by rw [decide_eq_decide]; omega
theorem bs_at {s : List UInt8} {k : Nat} (h : k < s.length) : (bs s).data.toList[k]? = some s[k] := by
 show s[k]? = _
 exact List.getElem?_eq_getElem h
theorem over_c {g a : Nat} {s : List UInt8} {w : World} (h : Cells w ⟨g,0,none⟩ [strV s,i64 a]) :
  Calls Tryz.prog 200 #[.pointer (some ⟨g,0,none⟩)] w fun e w' => e = .returned (.bool (decide (s.length ≤ a))) ∧ Below w.heap.size w w' := by
 refine calls_of_E (S := sg 13) (sgOk _) (args := [.pointer (some ⟨g,0,none⟩)]) Tryz.func200 rfl rfl (Nat.le_of_ble_eq_true rfl) rfl ?_
 refine DrawE.ord [] [0,1,2,3,4,5,6,7,8,9,10] (by kernel_rfl) ?_
 have h : Cells w.drew ⟨g,0,none⟩ [strV s,i64 a] := cells_same rfl h
 refine ⟨_,cells_at h (i := 1) rfl,?_⟩
 refine ⟨_,cells_at h (i := 0) rfl,?_⟩
 refine ⟨rb ?_,(Below.refl _ _).drew⟩
 show decide ((s.length : Int) ≤ (a : Int)) = _
 rw [decide_eq_decide]; omega
theorem atEnd_c {g a : Nat} {s : List UInt8} {w : World} (h : Cells w ⟨g,0,none⟩ [strV s,i64 a]) (hg : g < w.heap.size) :
  Calls Tryz.prog 198 #[.pointer (some ⟨g,0,none⟩)] w fun e w' => e = .returned (.bool (atEndL s a)) ∧ Below w.heap.size w w' := by
 refine calls_of_E (S := sg 18) (sgOk _) (args := [.pointer (some ⟨g,0,none⟩)]) Tryz.func198 rfl rfl (Nat.le_of_ble_eq_true rfl) rfl ?_
 refine DrawE.ord [] [0,1,2,3,4,5,6,7,8,9,10,11,12,13,14,15] (by kernel_rfl) ?_
 have h : Cells w.drew ⟨g,0,none⟩ [strV s,i64 a] := cells_same rfl h
 refine Calls.mono (over_c h) ?_
 rintro e V ⟨rfl,hb⟩
 refine ⟨hb,?_⟩
 have hw := (Below.refl w.heap.size w).drew.trans hb
 have hV := cells_belowB hb hg h
 refine And.intro (fun ho => ?_) (fun ho => ?_)
 ·have ho : s.length ≤ a := of_decide_eq_true ho
  have : atEndL s a = true := by unfold atEndL; rw [List.getElem?_eq_none ho]
  exact ⟨rb this.symm,hw⟩
 ·have ho : ¬ s.length ≤ a := of_decide_eq_false ho
  have hl : a < s.length := by omega
  refine ⟨_,cells_at hV (i := 0) rfl,?_⟩
  refine ⟨_,cells_at hV (i := 1) rfl,?_⟩
  refine ⟨a,rfl,hl,s[a],bs_at hl,?_⟩
  refine Calls.mono (classOf_c _ _) ?_
  rintro e _ ⟨rfl,rfl⟩
  refine ⟨Below.refl _ _,?_⟩
  have : atEndL s a = decide (clsL s[a] = 2) := by unfold atEndL; rw [List.getElem?_eq_getElem hl]
  exact ⟨rb (by rw [this]; exact nat_dec),hw⟩
theorem wordEnd_c {g a : Nat} {s : List UInt8} {w : World} (h : Cells w ⟨g,0,none⟩ [strV s,i64 a]) (ha : a < s.length) (hs : s.length ≤ 140737488351232) :
  Calls Tryz.prog 212 #[.pointer (some ⟨g,0,none⟩)] w fun e w' => e = .returned (i64 (a + 1 + runOf inWordL (s.drop (a + 1)) : Nat)) ∧ w = w' := by
 refine calls_of_E (S := sg 28) (sgOk _) (args := [.pointer (some ⟨g,0,none⟩)]) Tryz.func212 rfl rfl (Nat.le_of_ble_eq_true rfl) rfl ?_
 refine ⟨_,cells_at h (i := 1) rfl,?_⟩
 refine ⟨(a + 1 : Nat),(wrap_i64 (by omega)).trans (by omega),?_⟩
 refine ⟨Nat,fun k => ⟨[(0,.pointer (some ⟨g,0,none⟩)),(3,.int .i64 (k : Nat))],[]⟩,fun k X => k ≤ s.length ∧ k + runOf inWordL (s.drop k) = a + 1 + runOf inWordL (s.drop (a + 1)) ∧ w = X,fun k => s.length - k,a + 1,⟨.cons rfl (.cons rfl .nil),rfl⟩,⟨ha,rfl,rfl⟩,?_⟩
 rintro k _ ⟨hk,he,rfl⟩
 dsimp only at hk he ⊢
 refine ⟨_,cells_at h (i := 0) rfl,?_⟩
 refine And.intro (fun hc => ?_) (fun hc => ?_)
 ·have hc : (k : Int) < (s.length : Int) := of_decide_eq_true hc
  have hl : k < s.length := by omega
  refine ⟨_,cells_at h (i := 0) rfl,?_⟩
  refine ⟨k,rfl,hl,s[k],bs_at hl,?_⟩
  refine Calls.mono (inWord_c _ _) ?_
  rintro e _ ⟨rfl,rfl⟩
  refine And.intro (fun hi => ?_) (fun hi => ?_)
  ·refine ⟨(k + 1 : Nat),(wrap_i64 (by omega)).trans (by omega),?_⟩
   refine ⟨k + 1,⟨.cons rfl (.cons rfl .nil),rfl⟩,⟨hl,?_,rfl⟩,by show s.length - (k + 1) < s.length - k; omega⟩
   rw [run_step hl,if_pos hi] at he
   omega
  ·have hi : ¬ inWordL s[k] = true := by rw [Bool.not_eq_true]; exact hi
   rw [run_step hl,if_neg hi] at he
   exact ⟨by rw [← he]; rfl,rfl⟩
 ·have hc : ¬ (k : Int) < (s.length : Int) := of_decide_eq_false hc
  refine And.intro (fun h => by cases h) (fun _ => ?_)
  rw [run_end (by omega)] at he
  exact ⟨by rw [← he]; rfl,rfl⟩
theorem numberEnd_c {g a : Nat} {s : List UInt8} {w : World} (h : Cells w ⟨g,0,none⟩ [strV s,i64 a]) (ha : a < s.length) (hs : s.length ≤ 140737488351232) :
  Calls Tryz.prog 213 #[.pointer (some ⟨g,0,none⟩)] w fun e w' => e = .returned (i64 (a + 1 + runOf digB (s.drop (a + 1)) : Nat)) ∧ w = w' := by
 refine calls_of_E (S := sg 29) (sgOk _) (args := [.pointer (some ⟨g,0,none⟩)]) Tryz.func213 rfl rfl (Nat.le_of_ble_eq_true rfl) rfl ?_
 refine ⟨_,cells_at h (i := 1) rfl,?_⟩
 refine ⟨(a + 1 : Nat),(wrap_i64 (by omega)).trans (by omega),?_⟩
 refine ⟨Nat,fun k => ⟨[(0,.pointer (some ⟨g,0,none⟩)),(3,.int .i64 (k : Nat))],[]⟩,fun k X => k ≤ s.length ∧ k + runOf digB (s.drop k) = a + 1 + runOf digB (s.drop (a + 1)) ∧ w = X,fun k => s.length - k,a + 1,⟨.cons rfl (.cons rfl .nil),rfl⟩,⟨ha,rfl,rfl⟩,?_⟩
 rintro k _ ⟨hk,he,rfl⟩
 dsimp only at hk he ⊢
 refine ⟨_,cells_at h (i := 0) rfl,?_⟩
 refine And.intro (fun hc => ?_) (fun hc => ?_)
 ·have hc : (k : Int) < (s.length : Int) := of_decide_eq_true hc
  have hl : k < s.length := by omega
  refine ⟨_,cells_at h (i := 0) rfl,?_⟩
  refine ⟨k,rfl,hl,s[k],bs_at hl,?_⟩
  refine Calls.mono (classOf_c _ _) ?_
  rintro e _ ⟨rfl,rfl⟩
  have hd : decide ((clsL s[k] : Int) = 4) = digB s[k] := nat_dec (b := 4)
  refine And.intro (fun hi => ?_) (fun hi => ?_)
  ·refine ⟨(k + 1 : Nat),(wrap_i64 (by omega)).trans (by omega),?_⟩
   refine ⟨k + 1,⟨.cons rfl (.cons rfl .nil),rfl⟩,⟨hl,?_,rfl⟩,by show s.length - (k + 1) < s.length - k; omega⟩
   rw [run_step hl,if_pos (hd.symm.trans hi)] at he
   omega
  ·have hi : ¬ digB s[k] = true := by rw [Bool.not_eq_true]; exact hd.symm.trans hi
   rw [run_step hl,if_neg hi] at he
   exact ⟨by rw [← he]; rfl,rfl⟩
 ·have hc : ¬ (k : Int) < (s.length : Int) := of_decide_eq_false hc
  refine And.intro (fun h => by cases h) (fun _ => ?_)
  rw [run_end (by omega)] at he
  exact ⟨by rw [← he]; rfl,rfl⟩
def signE (s : List UInt8) (a : Nat) (c : UInt8) : Nat := if (eqB c 61 || eqB c 33) && decide (s[a + 1]? = some 61) then a + 2 else a + 1
theorem signEnd_c {g a : Nat} {s : List UInt8} {w : World} (h : Cells w ⟨g,0,none⟩ [strV s,i64 a]) (ha : a < s.length) (hs : s.length ≤ 140737488351232) :
  Calls Tryz.prog 211 #[.pointer (some ⟨g,0,none⟩)] w fun e w' => e = .returned (i64 (signE s a s[a])) ∧ Below w.heap.size w w' := by
 refine calls_of_M (S := sg 46) (sgOk _) (args := [.pointer (some ⟨g,0,none⟩)]) (.s .p (.s .p (.s .p (.c .p .p)))) Tryz.func211 rfl rfl (Nat.le_of_ble_eq_true rfl) rfl ?_
 refine ⟨_,cells_at h (i := 1) rfl,?_⟩
 refine ⟨(a + 1 : Nat),(wrap_i64 (by omega)).trans (by omega),?_⟩
 refine DrawE.ord [] [0,1,2,3,4,5,6,7,8,9] (by kernel_rfl) ?_
 have hd : Cells w.drew ⟨g,0,none⟩ [strV s,i64 a] := cells_same rfl h
 refine ⟨_,cells_at hd (i := 0) rfl,?_⟩
 refine ⟨_,cells_at hd (i := 1) rfl,?_⟩
 refine ⟨a,rfl,ha,s[a],bs_at ha,?_⟩
 refine ⟨Unit,fun _ => ⟨[(3,i64 (signE s a s[a]))],[]⟩,fun _ X => X = w.drew,?_,?_⟩
 ·have no : ((eqB s[a] 61 || eqB s[a] 33) && decide (s[a + 1]? = some 61)) = false → ∃ _ : Unit,some (Value.int .i64 ((a + 1 : Nat) : Int)) = some (i64 (signE s a s[a])) := fun hf => ⟨(),by unfold signE; rw [hf]; rfl⟩
  refine And.intro (fun h1 => ?_) (fun h1 => ?_)
  ·have he : (eqB s[a] 61 || eqB s[a] 33) = true := by
    have : eqB s[a] 61 = true := h1
    rw [this]; rfl
   refine brT ?_
   refine ⟨_,cells_at hd (i := 0) rfl,?_⟩
   refine And.intro (fun h2 => ?_) (fun h2 => ?_)
   ·have h2 : ((a + 1 : Nat) : Int) < (s.length : Int) := of_decide_eq_true h2
    have hl : a + 1 < s.length := by omega
    refine ⟨_,cells_at hd (i := 0) rfl,?_⟩
    refine ⟨a + 1,rfl,hl,s[a + 1],bs_at hl,?_⟩
    refine And.intro (fun h3 => ?_) (fun h3 => ?_)
    ·refine ⟨(a + 2 : Nat),(wrap_i64 (by omega)).trans (by omega),?_⟩
     refine ⟨(),⟨.cons ?_ .nil,rfl⟩,rfl⟩
     have h61 : s[a + 1] = 61 := by
      apply UInt8.toNat_inj.1
      have : ((s[a + 1].toNat : Nat) : Int) = 61 := of_decide_eq_true h3
      have h6 : (61 : UInt8).toNat = 61 := rfl
      omega
     unfold signE
     rw [he,List.getElem?_eq_getElem hl,h61]; rfl
    ·obtain ⟨_,e⟩ := no (by
      have h61 : ¬ s[a + 1] = 61 := fun e => by rw [e] at h3; cases h3
      rw [List.getElem?_eq_getElem hl,decide_eq_false (by simpa using h61),Bool.and_false])
     exact ⟨(),⟨.cons e .nil,rfl⟩,rfl⟩
   ·have h2 : ¬ ((a + 1 : Nat) : Int) < (s.length : Int) := of_decide_eq_false h2
    refine brF ?_
    obtain ⟨_,e⟩ := no (by rw [List.getElem?_eq_none (by omega)]; simp)
    exact ⟨(),⟨.cons e .nil,rfl⟩,rfl⟩
  ·have h1 : eqB s[a] 61 = false := h1
   refine And.intro (fun h1b => ?_) (fun h1b => ?_)
   ·have he : (eqB s[a] 61 || eqB s[a] 33) = true := by
     have : eqB s[a] 33 = true := h1b
     rw [this,Bool.or_true]
    refine ⟨_,cells_at hd (i := 0) rfl,?_⟩
    refine And.intro (fun h2 => ?_) (fun h2 => ?_)
    ·have h2 : ((a + 1 : Nat) : Int) < (s.length : Int) := of_decide_eq_true h2
     have hl : a + 1 < s.length := by omega
     refine ⟨_,cells_at hd (i := 0) rfl,?_⟩
     refine ⟨a + 1,rfl,hl,s[a + 1],bs_at hl,?_⟩
     refine And.intro (fun h3 => ?_) (fun h3 => ?_)
     ·refine ⟨(a + 2 : Nat),(wrap_i64 (by omega)).trans (by omega),?_⟩
      refine ⟨(),⟨.cons ?_ .nil,rfl⟩,rfl⟩
      have h61 : s[a + 1] = 61 := by
       apply UInt8.toNat_inj.1
       have : ((s[a + 1].toNat : Nat) : Int) = 61 := of_decide_eq_true h3
       have h6 : (61 : UInt8).toNat = 61 := rfl
       omega
      unfold signE
      rw [he,List.getElem?_eq_getElem hl,h61]; rfl
     ·obtain ⟨_,e⟩ := no (by
       have h61 : ¬ s[a + 1] = 61 := fun e => by rw [e] at h3; cases h3
       rw [List.getElem?_eq_getElem hl,decide_eq_false (by simpa using h61),Bool.and_false])
      exact ⟨(),⟨.cons e .nil,rfl⟩,rfl⟩
    ·have h2 : ¬ ((a + 1 : Nat) : Int) < (s.length : Int) := of_decide_eq_false h2
     refine brF ?_
     obtain ⟨_,e⟩ := no (by rw [List.getElem?_eq_none (by omega)]; simp)
     exact ⟨(),⟨.cons e .nil,rfl⟩,rfl⟩
   ·have h1b : eqB s[a] 33 = false := h1b
    refine brF ?_
    refine brF ?_
    obtain ⟨_,e⟩ := no (by rw [h1,h1b]; rfl)
    exact ⟨(),⟨.cons e .nil,rfl⟩,rfl⟩
 rintro _ _ rfl
 exact ⟨rfl,(Below.refl _ _).drew⟩
end Go.Proofs.YtkpcgpmimejimaaGreatDoor
namespace Go.Proofs.YtkpcgpmimejimaaGreatDoor
open Go.Vc Go.RowKit Go.Sei
def ScV (X : World) (g : Nat) (s : List UInt8) (a : Nat) (op : Bool) : Prop := X.heap[g]? = some (.cells #[strV s,i64 a,.bool op] 231 (0,0))
theorem ScV.cells {X : World} {g a : Nat} {s : List UInt8} {op : Bool} (h : ScV X g s a op) : Cells X ⟨g,0,none⟩ [strV s,i64 a] := by
 have := cells_block' (o := 0) (n := 2) h
 exact this
theorem ScV.below {X Y : World} {g a : Nat} {s : List UInt8} {op : Bool} (h : ScV X g s a op) (hb : Below X.heap.size X Y) : ScV Y g s a op := block_below hb h
theorem grown_b {a b c : World} {g : Nat} (h : a.grownBy b (some g)) (k : Below b.heap.size b c) : a.grownBy c (some g) := grown_trans h (grown_of_below k)
theorem put_at {X : World} {g a : Nat} {s : List UInt8} {op : Bool} (h : ScV X g s a op) (v : Nat) {K : World → Prop} (k : ∀ Y,ScV Y g s v op → X.grownBy Y (some g) → Y.heap.size = X.heap.size → K Y) :
  SatR ((storeVar 3 ⟨g,1,none⟩ (i64 v)).run Tryz.prog X) fun _ w' => K w' :=
 store_cell (ttOk.get 3 _ rfl) rfl h (o := 1) (by show 1 < 3; omega) (v := i64 v) rfl rfl fun Y fY gY sY => k Y fY gY sY
theorem put_open {X : World} {g a : Nat} {s : List UInt8} {op : Bool} (h : ScV X g s a op) (v : Bool) {K : World → Prop} (k : ∀ Y,ScV Y g s a v → X.grownBy Y (some g) → Y.heap.size = X.heap.size → K Y) :
  SatR ((storeVar 4 ⟨g,2,none⟩ (.bool v)).run Tryz.prog X) fun _ w' => K w' :=
 store_cell (ttOk.get 4 _ rfl) rfl h (o := 2) (by show 2 < 3; omega) (v := .bool v) rfl rfl fun Y fY gY sY => k Y fY gY sY
theorem atEnd_lt {s : List UInt8} {k : Nat} (h : k < s.length) : atEndL s k = decide (clsL s[k] = 2) := by unfold atEndL; rw [List.getElem?_eq_getElem h]
theorem atEnd_ge {s : List UInt8} {k : Nat} (h : s.length ≤ k) : atEndL s k = true := by unfold atEndL; rw [List.getElem?_eq_none h]
theorem pass_c {g a : Nat} {s : List UInt8} {op : Bool} {w : World} (h : ScV w g s a op) (ha : a ≤ s.length) (hs : s.length ≤ 140737488351232) :
  Calls Tryz.prog 197 #[.pointer (some ⟨g,0,none⟩)] w fun e w' => (∃ v,e = .returned v) ∧ ScV w' g s (passL s a) op ∧ w.grownBy w' (some g) := by
 refine calls_of_M (S := sg 50) (sgOk _) (args := [.pointer (some ⟨g,0,none⟩)]) (.c .p (.c .p .p)) Tryz.func197 rfl rfl (Nat.le_of_ble_eq_true rfl) rfl ?_
 obtain ⟨b,hb⟩ : ∃ b,b = blanksL s a := ⟨_,rfl⟩
 have hbl : b ≤ s.length := by rw [hb]; exact inRun s a ha
 refine ⟨Unit,fun _ => ⟨[(0,.pointer (some ⟨g,0,none⟩))],[]⟩,fun _ X => ScV X g s b op ∧ w.grownBy X (some g),?_,?_⟩
 ·refine ⟨Nat,fun k => ⟨[(0,.pointer (some ⟨g,0,none⟩))],[]⟩,fun k X => k ≤ s.length ∧ k + runOf blankB (s.drop k) = b ∧ ScV X g s k op ∧ w.grownBy X (some g),fun k => s.length - k,a,⟨.cons rfl .nil,rfl⟩,⟨ha,hb.symm,h,grown_refl _ _⟩,?_⟩
  rintro k X ⟨hk,he,hX,hg⟩
  dsimp only at hk he ⊢
  refine DrawE.ord [] [0,1,2,3,4,5,6,7,8,9,10,11,12,13,14,15] (by kernel_rfl) ?_
  have hXd : ScV X.drew g s k op := hX
  refine Calls.mono (over_c hXd.cells) ?_
  rintro e Y ⟨rfl,hbY⟩
  refine ⟨hbY,?_⟩
  have hY := hXd.below hbY
  have gY : w.grownBy Y (some g) := grown_trans hg (grown_of_below ((Below.refl _ X).drew.trans hbY))
  refine And.intro (fun ho => ?_) (fun ho => ?_)
  ·have ho : s.length > k := by
    have : (!decide (s.length ≤ k)) = true := ho
    simpa using this
   refine ⟨_,cells_at hY.cells (i := 0) rfl,?_⟩
   refine ⟨_,cells_at hY.cells (i := 1) rfl,?_⟩
   refine ⟨k,rfl,ho,s[k],bs_at ho,?_⟩
   refine Calls.mono (classOf_c _ _) ?_
   rintro e _ ⟨rfl,rfl⟩
   refine ⟨Below.refl _ _,?_⟩
   have hd : decide ((clsL s[k] : Int) = 1) = blankB s[k] := nat_dec (b := 1)
   rw [run_step ho] at he
   refine And.intro (fun hi => ?_) (fun hi => ?_)
   ·rw [if_pos (hd.symm.trans hi)] at he
    refine ⟨_,cells_at hY.cells (i := 1) rfl,?_⟩
    refine ⟨(k + 1 : Nat),(wrap_i64 (by omega)).trans (by omega),?_⟩
    refine put_at hY (k + 1) fun Z hZ gZ sZ => ?_
    exact ⟨k + 1,⟨.cons rfl .nil,rfl⟩,⟨ho,by omega,hZ,grown_trans gY gZ⟩,by show s.length - (k + 1) < s.length - k; omega⟩
   ·have hi : ¬ blankB s[k] = true := by rw [Bool.not_eq_true]; exact hd.symm.trans hi
    rw [if_neg hi] at he
    exact ⟨(),⟨.cons rfl .nil,rfl⟩,by rw [← he]; exact hY,gY⟩
  ·have ho : s.length ≤ k := by
    have : (!decide (s.length ≤ k)) = false := ho
    simpa using this
   refine brF ?_
   rw [run_end ho] at he
   exact ⟨(),⟨.cons rfl .nil,rfl⟩,by rw [← he]; exact hY,gY⟩
 clear h
 rintro _ X ⟨hX,hg⟩
 have hp : passL s a = match s[b]? with
   | some c => if clsL c = 7 then b + runOf notNl (s.drop b) else b
   | none => b := by rw [hb]; rfl
 refine ⟨Unit,fun _ => ⟨[(0,.pointer (some ⟨g,0,none⟩))],[]⟩,fun _ X => (∃ hl : b < s.length,clsL s[b] = 7) ∧ ScV X g s b op ∧ w.grownBy X (some g),?_,?_⟩
 ·refine DrawE.ord [] [0,1,2,3,4,5,6,7,8,9,10,11,12,13,14] (by kernel_rfl) ?_
  have hXd : ScV X.drew g s b op := hX
  refine Calls.mono (over_c hXd.cells) ?_
  rintro e Y ⟨rfl,hbY⟩
  refine ⟨hbY,?_⟩
  have hY := hXd.below hbY
  have gY : w.grownBy Y (some g) := grown_trans hg (grown_of_below ((Below.refl _ X).drew.trans hbY))
  refine And.intro (fun ho => ?_) (fun ho => ?_)
  ·have ho : s.length ≤ b := of_decide_eq_true ho
   refine brT ?_
   have : passL s a = b := by rw [hp,List.getElem?_eq_none ho]
   rw [this]
   exact ⟨⟨_,rfl⟩,hY,gY⟩
  ·have ho : ¬ s.length ≤ b := of_decide_eq_false ho
   have hl : b < s.length := by omega
   refine ⟨_,cells_at hY.cells (i := 0) rfl,?_⟩
   refine ⟨_,cells_at hY.cells (i := 1) rfl,?_⟩
   refine ⟨b,rfl,hl,s[b],bs_at hl,?_⟩
   refine Calls.mono (classOf_c _ _) ?_
   rintro e _ ⟨rfl,rfl⟩
   refine ⟨Below.refl _ _,?_⟩
   refine And.intro (fun hi => ?_) (fun hi => ?_)
   ·have hi : ¬ clsL s[b] = 7 := by
     have h1 : (!decide ((clsL s[b] : Int) = 7)) = true := hi
     simp at h1; omega
    have : passL s a = b := by rw [hp,List.getElem?_eq_getElem hl]; simp only [if_neg hi]
    rw [this]
    exact ⟨⟨_,rfl⟩,hY,gY⟩
   ·have hi : clsL s[b] = 7 := by
     have h1 : (!decide ((clsL s[b] : Int) = 7)) = false := hi
     simp at h1; omega
    exact ⟨(),⟨.cons rfl .nil,rfl⟩,⟨hl,hi⟩,hY,gY⟩
 clear hX hg X
 rintro _ X ⟨⟨hl,h7⟩,hX,hg⟩
 have hp : passL s a = b + runOf notNl (s.drop b) := by rw [hp,List.getElem?_eq_getElem hl]; simp only [if_pos h7]
 rw [hp]
 refine ⟨Nat,fun k => ⟨[(0,.pointer (some ⟨g,0,none⟩))],[]⟩,fun k X => k ≤ s.length ∧ k + runOf notNl (s.drop k) = b + runOf notNl (s.drop b) ∧ ScV X g s k op ∧ w.grownBy X (some g),fun k => s.length - k,b,⟨.cons rfl .nil,rfl⟩,⟨hbl,rfl,hX,hg⟩,?_⟩
 clear hX hg X
 rintro k X ⟨hk,he,hX,hg⟩
 dsimp only at hk he ⊢
 refine Calls.mono (atEnd_c hX.cells (hlt hX)) ?_
 rintro e Y ⟨rfl,hbY⟩
 have hY := hX.below hbY
 have gY := grown_b hg hbY
 refine And.intro (fun hi => ?_) (fun hi => ?_)
 ·have hi : atEndL s k = false := by
   have h1 : (!atEndL s k) = true := hi
   simpa using h1
  have hkl : k < s.length := by
   by_cases h0 : k < s.length
   ·exact h0
   ·rw [atEnd_ge (by omega)] at hi; cases hi
  have hn : notNl s[k] = true := by
   rw [atEnd_lt hkl] at hi
   unfold notNl; rw [hi]; rfl
  rw [run_step hkl,if_pos hn] at he
  refine ⟨_,cells_at hY.cells (i := 1) rfl,?_⟩
  refine ⟨(k + 1 : Nat),(wrap_i64 (by omega)).trans (by omega),?_⟩
  refine put_at hY (k + 1) fun Z hZ gZ sZ => ?_
  exact ⟨k + 1,⟨.cons rfl .nil,rfl⟩,⟨hkl,by omega,hZ,grown_trans gY gZ⟩,by show s.length - (k + 1) < s.length - k; omega⟩
 ·have hi : atEndL s k = true := by
   have h1 : (!atEndL s k) = false := hi
   simpa using h1
  have h0 : runOf notNl (s.drop k) = 0 := by
   by_cases h0 : k < s.length
   ·rw [atEnd_lt h0] at hi
    rw [run_step h0,if_neg]
    unfold notNl; rw [hi]; decide
   ·exact run_end (by omega)
  rw [h0] at he
  have he : k = b + runOf notNl (s.drop b) := by omega
  exact ⟨⟨_,rfl⟩,by rw [← he]; exact hY,gY⟩
theorem pass_le {s : List UInt8} {a : Nat} (ha : a ≤ s.length) : passL s a ≤ s.length := by
 have h1 : blanksL s a ≤ s.length := inRun s a ha
 unfold passL
 split
 ·split
  ·exact inRun s _ h1
  ·exact h1
 ·exact h1
def tokE : Enc Tok := ⟨fun t => [u8 t.kind,strV t.text,i64 t.pos],3,fun _ => rfl,by decide,fun a u hu => by
 simp only [List.mem_cons,List.not_mem_nil,or_false] at hu
 rcases hu with rfl | rfl | rfl <;> rfl⟩
theorem end_ge {s : List UInt8} {a : Nat} (ha : a < s.length) (c : UInt8) : a < endL s a c ∧ endL s a c ≤ s.length := by
 unfold endL
 split
 ·have := inRun (p := inWordL) s (a + 1) ha; omega
 ·split
  ·have := inRun (p := digB) s (a + 1) ha; omega
  ·split
   ·rename_i h
    have h2 : s[a + 1]? = some 61 := by
     simp only [Bool.and_eq_true,decide_eq_true_eq] at h
     exact h.2
    have := (List.getElem?_eq_some_iff.1 h2).1
    omega
   ·omega
theorem bs_cut (s : List UInt8) (a e : Nat) : (bs s).extract a e = bs ((s.drop a).take (e - a)) := by
 have h : ((bs s).extract a e).data = (bs ((s.drop a).take (e - a))).data := by
  rw [ByteArray.data_extract]
  apply Array.toList_inj.1
  rw [Array.toList_extract]
  rfl
 exact ByteArray.ext h
theorem token_c {g a : Nat} {s : List UInt8} {op : Bool} {w : World} (h : ScV w g s a op) (ha : a < s.length) (hs : s.length ≤ 140737488351232) :
  Calls Tryz.prog 199 #[.pointer (some ⟨g,0,none⟩)] w fun e w' => e = .returned (.agg (tokE.enc (tokL s a s[a])).toArray) ∧ ScV w' g s (endL s a s[a]) op ∧ w.grownBy w' (some g) := by
 refine calls_of_M (S := sg 51) (sgOk _) (args := [.pointer (some ⟨g,0,none⟩)]) (.s .p (.s .p (.c .p .p))) Tryz.func199 rfl rfl (Nat.le_of_ble_eq_true rfl) rfl ?_
 obtain ⟨z,hz⟩ : ∃ z,z = tokE.enc ⟨0,[],0⟩ := ⟨_,rfl⟩
 obtain ⟨W0,hW0⟩ : ∃ W0,W0 = (w.alloc (.cells z.toArray 210)) := ⟨_,rfl⟩
 have hb0 : Below w.heap.size w W0 := by rw [hW0]; exact (Below.refl _ _).alloc (Nat.le_refl _) _
 have f0 : W0.heap[w.heap.size]? = some (.cells z.toArray 210 (0,0)) := by rw [hW0]; exact hnew w _
 have h0 : ScV W0 g s a op := h.below hb0
 have hgl : g < w.heap.size := hlt h
 refine ⟨Nat,fun f => ⟨[(0,.pointer (some ⟨g,0,none⟩)),(2,.pointer (some ⟨w.heap.size,0,none⟩)),(3,u8 (kindL s[a])),(4,.func (.func f) #[] #[])],[]⟩,fun f X => Below W0.heap.size W0 X ∧
  ((clsL s[a] = 3 ∧ f = 212) ∨ (¬ clsL s[a] = 3 ∧ clsL s[a] = 4 ∧ f = 213) ∨ (¬ clsL s[a] = 3 ∧ ¬ clsL s[a] = 4 ∧ f = 211)),?_,?_⟩
 ·subst hz
  subst hW0
  refine DrawE.ord [] [0,1,2,3,4,5,6,7,8,9,10,11] (by kernel_rfl) ?_
  have hd : ScV (w.alloc (.cells (tokE.enc ⟨0,[],0⟩).toArray 210)).drew g s a op := h0
  refine ⟨_,cells_at hd.cells (i := 0) rfl,?_⟩
  refine ⟨_,cells_at hd.cells (i := 1) rfl,?_⟩
  refine ⟨a,rfl,ha,s[a],bs_at ha,?_⟩
  refine Calls.mono (classOf_c _ _) ?_
  rintro e _ ⟨rfl,rfl⟩
  refine ⟨Below.refl _ _,?_⟩
  refine And.intro (fun h3 => ?_) (fun h3 => ?_)
  ·have h3 : clsL s[a] = 3 := by have h3 : (clsL s[a] : Int) = 3 := of_decide_eq_true h3; omega
   exact ⟨_,⟨.cons rfl (.cons rfl (.cons (by unfold kindL; rw [if_pos h3]; rfl) (.cons rfl .nil))),rfl⟩,(Below.refl _ _).drew,.inl ⟨h3,rfl⟩⟩
  have h3 : ¬ clsL s[a] = 3 := by have h3 : ¬ (clsL s[a] : Int) = 3 := of_decide_eq_false h3; omega
  refine And.intro (fun h4 => ?_) (fun h4 => ?_)
  ·have h4 : clsL s[a] = 4 := by have h4 : (clsL s[a] : Int) = 4 := of_decide_eq_true h4; omega
   exact ⟨_,⟨.cons rfl (.cons rfl (.cons (by unfold kindL; rw [if_neg h3,if_pos h4]; rfl) (.cons rfl .nil))),rfl⟩,(Below.refl _ _).drew,.inr (.inl ⟨h3,h4,rfl⟩)⟩
  ·have h4 : ¬ clsL s[a] = 4 := by have h4 : ¬ (clsL s[a] : Int) = 4 := of_decide_eq_false h4; omega
   exact ⟨_,⟨.cons rfl (.cons rfl (.cons (by unfold kindL; rw [if_neg h3,if_neg h4]; rfl) (.cons rfl .nil))),rfl⟩,(Below.refl _ _).drew,.inr (.inr ⟨h3,h4,rfl⟩)⟩
 rintro f V ⟨hV,hf⟩
 dsimp only at hV hf ⊢
 have hVs := h0.below hV
 obtain ⟨e1,e2⟩ := end_ge ha s[a]
 have fin : ∀ Y,Below V.heap.size V Y → ∀ Z,ScV Z g s (endL s a s[a]) op → Y.grownBy Z (some g) → Below w.heap.size w Y ∧ Z.heap[w.heap.size]? = some (.cells z.toArray 210 (0,0)) ∧ w.grownBy Z (some g) := fun Y hY Z hZ gZ => by
  have hwY := (hb0.trans (hV.mono hb0.size)).trans (hY.mono (by have := hb0.size; have := hV.size; omega))
  have f1 := block_below hY (block_below hV f0)
  refine ⟨hwY,(gZ.block _ (hlt f1) (fun e => by simp only [Option.some.injEq] at e; omega)).trans f1,grown_trans (grown_of_below hwY) gZ⟩
 have last : ∀ Z,Z.heap[w.heap.size]? = some (.cells z.toArray 210 (0,0)) → w.grownBy Z (some g) → ∀ R,Z.grownBy R (some w.heap.size) → w.grownBy R (some g) := fun Z _ gZ R gR =>
  ⟨gR.os.trans gZ.os,gR.tape.trans gZ.tape,gR.output.trans gZ.output,Nat.le_trans gZ.size gR.size,fun k hk hne => (gR.block k (Nat.lt_of_lt_of_le hk gZ.size) (fun e => by simp only [Option.some.injEq] at e; omega)).trans (gZ.block k hk hne)⟩
 have fill : ∀ cs,cs = tokE.enc (tokL s a s[a]) → ∀ Z,Z.heap[w.heap.size]? = some (.cells z.toArray 210 (0,0)) → ∀ (K : World → Prop),(∀ R,R.heap[w.heap.size]? = some (.cells (tokE.enc (tokL s a s[a])).toArray 210 (0,0)) → Z.grownBy R (some w.heap.size) → K R) →
   SatR ((storeVar 210 ⟨w.heap.size,0,none⟩ (.agg cs.toArray)).run Tryz.prog Z) fun _ w' => K w' := fun cs hcs Z fZ K k => by
  subst hz hcs
  exact store_box (v := .agg (tokE.enc (tokL s a s[a])).toArray) (ttOk.get 210 _ rfl) fZ rfl rfl rfl (k _ (setRow_new fZ) (grown_setRow Z _ _))
 rcases hf with ⟨h3,rfl⟩ | ⟨h3,h4,rfl⟩ | ⟨h3,h4,rfl⟩
 ·refine ⟨_,cells_at hVs.cells (i := 1) rfl,?_⟩
  refine Calls.mono (wordEnd_c hVs.cells ha hs) ?_
  rintro e _ ⟨rfl,rfl⟩
  have hbY : Below V.heap.size V V := Below.refl _ _
  have hVY := hVs
  have ee : a + 1 + runOf inWordL (s.drop (a + 1)) = endL s a s[a] := by unfold endL; rw [if_pos h3]
  rw [ee]
  refine put_at hVY (endL s a s[a]) fun Z hZ gZ sZ => ?_
  obtain ⟨hwY,fZ,gwZ⟩ := fin V hbY Z hZ gZ
  refine DrawE.ord [15] [0,1,2,3,4,5,6,7,8,9,10,11,12,13,14,15] (by kernel_rfl) ?_
  have hZd : ScV Z.drew g s (endL s a s[a]) op := hZ
  refine ⟨_,cells_at hZd.cells (i := 0) rfl,?_⟩
  refine ⟨_,cells_at hZd.cells (i := 1) rfl,?_⟩
  refine ⟨endL s a s[a],rfl,e2,a,rfl,by omega,?_⟩
  refine ⟨[u8 (kindL s[a]),.string ((bs s).extract a (endL s a s[a])),i64 a],rfl,?_⟩
  refine fill _ (by rw [bs_cut]; rfl) Z.drew fZ _ fun R fR gR => ?_
  refine ⟨_,rfl,cells_block fR,?_⟩
  refine ⟨rfl,?_,last Z.drew fZ (grown_trans gwZ (grown_of_below (Below.refl _ Z).drew)) R gR⟩
  exact (gR.block g (hlt hZd) (fun e => by simp only [Option.some.injEq] at e; omega)).trans hZd
 ·refine ⟨_,cells_at hVs.cells (i := 1) rfl,?_⟩
  refine Calls.mono (numberEnd_c hVs.cells ha hs) ?_
  rintro e _ ⟨rfl,rfl⟩
  have hbY : Below V.heap.size V V := Below.refl _ _
  have hVY := hVs
  have ee : a + 1 + runOf digB (s.drop (a + 1)) = endL s a s[a] := by unfold endL; rw [if_neg h3,if_pos h4]
  rw [ee]
  refine put_at hVY (endL s a s[a]) fun Z hZ gZ sZ => ?_
  obtain ⟨hwY,fZ,gwZ⟩ := fin V hbY Z hZ gZ
  refine DrawE.ord [15] [0,1,2,3,4,5,6,7,8,9,10,11,12,13,14,15] (by kernel_rfl) ?_
  have hZd : ScV Z.drew g s (endL s a s[a]) op := hZ
  refine ⟨_,cells_at hZd.cells (i := 0) rfl,?_⟩
  refine ⟨_,cells_at hZd.cells (i := 1) rfl,?_⟩
  refine ⟨endL s a s[a],rfl,e2,a,rfl,by omega,?_⟩
  refine ⟨[u8 (kindL s[a]),.string ((bs s).extract a (endL s a s[a])),i64 a],rfl,?_⟩
  refine fill _ (by rw [bs_cut]; rfl) Z.drew fZ _ fun R fR gR => ?_
  refine ⟨_,rfl,cells_block fR,?_⟩
  refine ⟨rfl,?_,last Z.drew fZ (grown_trans gwZ (grown_of_below (Below.refl _ Z).drew)) R gR⟩
  exact (gR.block g (hlt hZd) (fun e => by simp only [Option.some.injEq] at e; omega)).trans hZd
 ·refine ⟨_,cells_at hVs.cells (i := 1) rfl,?_⟩
  refine Calls.mono (signEnd_c hVs.cells ha hs) ?_
  rintro e Y ⟨rfl,hbY⟩
  have hVY := hVs.below hbY
  have ee : signE s a s[a] = endL s a s[a] := by unfold endL; rw [if_neg h3,if_neg h4]; rfl
  rw [ee]
  refine put_at hVY (endL s a s[a]) fun Z hZ gZ sZ => ?_
  obtain ⟨hwY,fZ,gwZ⟩ := fin Y hbY Z hZ gZ
  refine DrawE.ord [15] [0,1,2,3,4,5,6,7,8,9,10,11,12,13,14,15] (by kernel_rfl) ?_
  have hZd : ScV Z.drew g s (endL s a s[a]) op := hZ
  refine ⟨_,cells_at hZd.cells (i := 0) rfl,?_⟩
  refine ⟨_,cells_at hZd.cells (i := 1) rfl,?_⟩
  refine ⟨endL s a s[a],rfl,e2,a,rfl,by omega,?_⟩
  refine ⟨[u8 (kindL s[a]),.string ((bs s).extract a (endL s a s[a])),i64 a],rfl,?_⟩
  refine fill _ (by rw [bs_cut]; rfl) Z.drew fZ _ fun R fR gR => ?_
  refine ⟨_,rfl,cells_block fR,?_⟩
  refine ⟨rfl,?_,last Z.drew fZ (grown_trans gwZ (grown_of_below (Below.refl _ Z).drew)) R gR⟩
  exact (gR.block g (hlt hZd) (fun e => by simp only [Option.some.injEq] at e; omega)).trans hZd
end Go.Proofs.YtkpcgpmimejimaaGreatDoor
